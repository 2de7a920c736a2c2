/-
  ProcedureEach: several grades are approved exactly if each of them is.
  No condition.
-/
import Derived.Test.YtnepemjcinpohaaPfw
import Derived.Test.YtnepemjcinpohaaPfu
import Derived.Test.YtnepemjcinpohaaRows
set_option linter.unusedSimpArgs false
set_option maxRecDepth 100000
namespace Go.Proofs.Ytnepemjcinpohaa
open Go Go.Pv Go.RowKit

theorem h5_plain : ∀ xs, TyAll Try.prog Try.f7.params.toList xs → gLawJoint xs = some (.v (.bool true)) := by
  intro xs h
  have hp : Try.f7.params.toList = [27, 35] := by kernel_rfl
  rw [hp] at h
  cases h with
  | cons h0 h =>
  cases h with
  | cons h1 h =>
  cases h
  obtain ⟨t0, rfl, k0⟩ := h0.inv_agg (by kernel_rfl)
  obtain ⟨p0, hp0⟩ := proc_ty k0
  obtain ⟨t1, rfl, k1⟩ := h1.inv_agg (by kernel_rfl)
  obtain ⟨p1, hp1⟩ := joint_ty k1
  simp [gLawJoint, hp0, hp1]

theorem h5_lifted (os : Os) (started : os.Started) (H : Type) (enc : TypeId × Value → H) :
    ReturnsInHanded {} Try.checked os 7 .any (Rows.procedureEachSpec.pre6 enc Try.prog Try.f7 Rows.procedureEachRow.domain false) (Rows.procedureEachSpec.post enc Try.prog Try.f7 false true false false) :=
  law_in (C := Try.checked) (g := gLawJoint) (tb := 4) (n := 40) (by kernel_rfl) (by kernel_rfl) (by kernel_rfl) Try.func7 (by kernel_rfl) (by kernel_rfl) rfl
    (fun H ds h => by
      match ds, (h.trans (by kernel_rfl : Try.f7.params.size = 2)) with
      | [a, b], _ => exact ⟨rfl, rfl, rfl⟩) (by
      have hp : Try.f7.params.toList = [27, 35] := by kernel_rfl
      intro t ht
      rw [hp] at ht
      rcases List.mem_cons.1 ht with rfl | ht
      · exact ⟨by kernel_rfl, by kernel_rfl, of_decide_eq_true (by kernel_rfl)⟩
      · rcases List.mem_cons.1 ht with rfl | ht
        · exact ⟨by kernel_rfl, by kernel_rfl, of_decide_eq_true (by kernel_rfl)⟩
        · cases ht) fn_lawEach h5_plain (by kernel_rfl) os started H enc
    (ChangeSpec.witness6 (enc := enc) (C := Try.checked) false ⟨#[], #[.agg #[.string ⟨#[]⟩, .int .i64 0, .int .i64 0, .int .i64 0, .slice none 0 0, .int .i64 0], .agg #[.int .i64 0, .int .i64 0, .slice none 0 0]], []⟩ 8 (by kernel_rfl) (by kernel_rfl) (by kernel_rfl) (by kernel_rfl))

theorem h5_over : Rows.procedureEachRow.holds Try.pinned (OpenSpec.ofChange Rows.procedureEachSpec) :=
  OpenClaim.holds_of_wide 7 Try.f7 rfl rfl rfl rfl rfl rfl rfl ⟨rfl, rfl, rfl, rfl, rfl⟩ rfl rfl rfl rfl rfl (by kernel_rfl) Try.func7 (by kernel_rfl)
    (of_decide_eq_true (by kernel_rfl)) (by unfold Func.isWrapper; first | (rw [if_pos (by decide +kernel)]; kernel_rfl) | (rw [if_neg (by decide +kernel)]; exact ⟨rfl, rfl⟩))
    (fun os started H enc _ => h5_lifted os started H enc)
theorem procedureEach_proved : Rows.ProcedureEachSaid := h5_over
#print axioms procedureEach_proved
end Go.Proofs.Ytnepemjcinpohaa
