/-
  ProcedureNames: the names of a valid list are unique, and each is found.
  No condition.
-/
import Derived.Test.YtnepemjcinpohaaPfw
import Derived.Test.YtnepemjcinpohaaPfv
import Derived.Test.YtnepemjcinpohaaRows
set_option linter.unusedSimpArgs false
set_option maxRecDepth 100000
namespace Go.Proofs.Ytnepemjcinpohaa
open Go Go.Pv Go.RowKit

theorem h7_plain : ∀ xs, TyAll Try.prog Try.f9.params.toList xs → gLawNames xs = some (.v (.bool true)) := by
  intro xs h
  have hp : Try.f9.params.toList = [22] := by kernel_rfl
  rw [hp] at h
  cases h with
  | cons h0 h =>
  cases h
  obtain ⟨a0, l0, e0, hp0⟩ := procs_ty (h0.inv_one (by kernel_rfl))
  cases e0
  simp [gLawNames, hp0]

theorem h7_lifted (os : Os) (started : os.Started) (H : Type) (enc : TypeId × Value → H) :
    ReturnsInHanded {} Try.checked os 9 .any (Rows.procedureNamesSpec.pre6 enc Try.prog Try.f9 Rows.procedureNamesRow.domain false) (Rows.procedureNamesSpec.post enc Try.prog Try.f9 false true false false) :=
  law_in (C := Try.checked) (g := gLawNames) (tb := 4) (n := 40) (by kernel_rfl) (by kernel_rfl) (by kernel_rfl) Try.func9 (by kernel_rfl) (by kernel_rfl) rfl
    (fun H ds h => by
      match ds, (h.trans (by kernel_rfl : Try.f9.params.size = 1)) with
      | [a], _ => exact ⟨rfl, rfl, rfl⟩) (by
      have hp : Try.f9.params.toList = [22] := by kernel_rfl
      intro t ht
      rw [hp] at ht
      rcases List.mem_cons.1 ht with rfl | ht
      · exact ⟨by kernel_rfl, by kernel_rfl, of_decide_eq_true (by kernel_rfl)⟩
      · cases ht) fn_lawNames h7_plain (by kernel_rfl) os started H enc
    (ChangeSpec.witness6 (enc := enc) (C := Try.checked) false ⟨#[], #[.slice none 0 0], []⟩ 8 (by kernel_rfl) (by kernel_rfl) (by kernel_rfl) (by kernel_rfl))

theorem h7_over : Rows.procedureNamesRow.holds Try.pinned (OpenSpec.ofChange Rows.procedureNamesSpec) :=
  OpenClaim.holds_of_wide 9 Try.f9 rfl rfl rfl rfl rfl rfl rfl ⟨rfl, rfl, rfl, rfl, rfl⟩ rfl rfl rfl rfl rfl (by kernel_rfl) Try.func9 (by kernel_rfl)
    (of_decide_eq_true (by kernel_rfl)) (by unfold Func.isWrapper; first | (rw [if_pos (by decide +kernel)]; kernel_rfl) | (rw [if_neg (by decide +kernel)]; exact ⟨rfl, rfl⟩))
    (fun os started H enc _ => h7_lifted os started H enc)
theorem procedureNames_proved : Rows.ProcedureNamesSaid := h7_over
#print axioms procedureNames_proved
end Go.Proofs.Ytnepemjcinpohaa
