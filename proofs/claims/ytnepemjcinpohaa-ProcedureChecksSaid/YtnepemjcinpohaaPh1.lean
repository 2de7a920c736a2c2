/-
  ProcedureChecks: Check and Find answer as the reference does, for every list and name.
  No condition.
-/
import Derived.Test.YtnepemjcinpohaaPfw
import Derived.Test.YtnepemjcinpohaaPfp
import Derived.Test.YtnepemjcinpohaaRows
set_option linter.unusedSimpArgs false
set_option maxRecDepth 100000
namespace Go.Proofs.Ytnepemjcinpohaa
open Go Go.Pv Go.RowKit

theorem h1_plain : ∀ xs, TyAll Try.prog Try.f3.params.toList xs → gLawChecks xs = some (.v (.bool true)) := by
  intro xs h
  have hp : Try.f3.params.toList = [22, 9] := by kernel_rfl
  rw [hp] at h
  cases h with
  | cons h0 h =>
  cases h with
  | cons h1 h =>
  cases h
  obtain ⟨a0, l0, e0, hp0⟩ := procs_ty (h0.inv_one (by kernel_rfl))
  cases e0
  obtain ⟨s1, e1, _⟩ := (h1.inv_one (by kernel_rfl)).inv_string (by kernel_rfl)
  cases e1
  simp [gLawChecks, hp0]

theorem h1_lifted (os : Os) (started : os.Started) (H : Type) (enc : TypeId × Value → H) :
    ReturnsInHanded {} Try.checked os 3 .any (Rows.procedureChecksSpec.pre6 enc Try.prog Try.f3 Rows.procedureChecksRow.domain false) (Rows.procedureChecksSpec.post enc Try.prog Try.f3 false true false false) :=
  law_in (C := Try.checked) (g := gLawChecks) (tb := 4) (n := 40) (by kernel_rfl) (by kernel_rfl) (by kernel_rfl) Try.func3 (by kernel_rfl) (by kernel_rfl) rfl
    (fun H ds h => by
      match ds, (h.trans (by kernel_rfl : Try.f3.params.size = 2)) with
      | [a, b], _ => exact ⟨rfl, rfl, rfl⟩) (by
      have hp : Try.f3.params.toList = [22, 9] := by kernel_rfl
      intro t ht
      rw [hp] at ht
      rcases List.mem_cons.1 ht with rfl | ht
      · exact ⟨by kernel_rfl, by kernel_rfl, of_decide_eq_true (by kernel_rfl)⟩
      · rcases List.mem_cons.1 ht with rfl | ht
        · exact ⟨by kernel_rfl, by kernel_rfl, of_decide_eq_true (by kernel_rfl)⟩
        · cases ht) fn_lawChecks h1_plain (by kernel_rfl) os started H enc
    (ChangeSpec.witness6 (enc := enc) (C := Try.checked) false ⟨#[], #[.slice none 0 0, .string ⟨#[]⟩], []⟩ 8 (by kernel_rfl) (by kernel_rfl) (by kernel_rfl) (by kernel_rfl))

theorem h1_over : Rows.procedureChecksRow.holds Try.pinned (OpenSpec.ofChange Rows.procedureChecksSpec) :=
  OpenClaim.holds_of_wide 3 Try.f3 rfl rfl rfl rfl rfl rfl rfl ⟨rfl, rfl, rfl, rfl, rfl⟩ rfl rfl rfl rfl rfl (by kernel_rfl) Try.func3 (by kernel_rfl)
    (of_decide_eq_true (by kernel_rfl)) (by unfold Func.isWrapper; first | (rw [if_pos (by decide +kernel)]; kernel_rfl) | (rw [if_neg (by decide +kernel)]; exact ⟨rfl, rfl⟩))
    (fun os started H enc _ => h1_lifted os started H enc)
theorem procedureChecks_proved : Rows.ProcedureChecksSaid := h1_over
#print axioms procedureChecks_proved
end Go.Proofs.Ytnepemjcinpohaa
