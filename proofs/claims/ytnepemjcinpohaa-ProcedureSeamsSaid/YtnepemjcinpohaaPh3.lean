/-
  ProcedureSeams: For answers as the reference does, for every procedure, design and seam.
  No condition.
-/
import Derived.Test.YtnepemjcinpohaaPfw
import Derived.Test.YtnepemjcinpohaaPfq
import Derived.Test.YtnepemjcinpohaaRows
set_option linter.unusedSimpArgs false
set_option maxRecDepth 100000
namespace Go.Proofs.Ytnepemjcinpohaa
open Go Go.Pv Go.RowKit

theorem h3_plain : ∀ xs, TyAll Try.prog Try.f5.params.toList xs → gLawPlace xs = some (.v (.bool true)) := by
  intro xs h
  have hp : Try.f5.params.toList = [27, 50] := by kernel_rfl
  rw [hp] at h
  cases h with
  | cons h0 h =>
  cases h with
  | cons h1 h =>
  cases h
  obtain ⟨t0, rfl, k0⟩ := h0.inv_agg (by kernel_rfl)
  obtain ⟨p0, hp0⟩ := proc_ty k0
  obtain ⟨t1, rfl, k1⟩ := h1.inv_agg (by kernel_rfl)
  obtain ⟨p1, hp1⟩ := place_ty k1
  simp [gLawPlace, hp0, hp1]

theorem h3_lifted (os : Os) (started : os.Started) (H : Type) (enc : TypeId × Value → H) :
    ReturnsInHanded {} Try.checked os 5 .any (Rows.procedureSeamsSpec.pre6 enc Try.prog Try.f5 Rows.procedureSeamsRow.domain false) (Rows.procedureSeamsSpec.post enc Try.prog Try.f5 false true false false) :=
  law_in (C := Try.checked) (g := gLawPlace) (tb := 4) (n := 40) (by kernel_rfl) (by kernel_rfl) (by kernel_rfl) Try.func5 (by kernel_rfl) (by kernel_rfl) rfl
    (fun H ds h => by
      match ds, (h.trans (by kernel_rfl : Try.f5.params.size = 2)) with
      | [a, b], _ => exact ⟨rfl, rfl, rfl⟩) (by
      have hp : Try.f5.params.toList = [27, 50] := by kernel_rfl
      intro t ht
      rw [hp] at ht
      rcases List.mem_cons.1 ht with rfl | ht
      · exact ⟨by kernel_rfl, by kernel_rfl, of_decide_eq_true (by kernel_rfl)⟩
      · rcases List.mem_cons.1 ht with rfl | ht
        · exact ⟨by kernel_rfl, by kernel_rfl, of_decide_eq_true (by kernel_rfl)⟩
        · cases ht) fn_lawSeams h3_plain (by kernel_rfl) os started H enc
    (ChangeSpec.witness6 (enc := enc) (C := Try.checked) false ⟨#[], #[.agg #[.string ⟨#[]⟩, .int .i64 0, .int .i64 0, .int .i64 0, .slice none 0 0, .int .i64 0], .agg #[.string ⟨#[]⟩, .slice none 0 0, .slice none 0 0, .slice none 0 0, .slice none 0 0, .slice none 0 0, .slice none 0 0, .slice none 0 0, .string ⟨#[]⟩]], []⟩ 8 (by kernel_rfl) (by kernel_rfl) (by kernel_rfl) (by kernel_rfl))

theorem h3_over : Rows.procedureSeamsRow.holds Try.pinned (OpenSpec.ofChange Rows.procedureSeamsSpec) :=
  OpenClaim.holds_of_wide 5 Try.f5 rfl rfl rfl rfl rfl rfl rfl ⟨rfl, rfl, rfl, rfl, rfl⟩ rfl rfl rfl rfl rfl (by kernel_rfl) Try.func5 (by kernel_rfl)
    (of_decide_eq_true (by kernel_rfl)) (by unfold Func.isWrapper; first | (rw [if_pos (by decide +kernel)]; kernel_rfl) | (rw [if_neg (by decide +kernel)]; exact ⟨rfl, rfl⟩))
    (fun os started H enc _ => h3_lifted os started H enc)
theorem procedureSeams_proved : Rows.ProcedureSeamsSaid := h3_over
#print axioms procedureSeams_proved
end Go.Proofs.Ytnepemjcinpohaa
