import Derived.Test.YtnepemjcinpohaaPfo
import Derived.Test.YtnepemjcinpohaaRows
set_option linter.unusedSimpArgs false
set_option maxRecDepth 100000
namespace Go.Proofs.Ytnepemjcinpohaa
open Go Go.Pv Go.RowKit

theorem hours_plain : ∀ xs, TyAll Try.prog Try.f6.params.toList xs → gLawHours xs = some (.v (.bool true)) := by
  intro xs h
  have hp : Try.f6.params.toList = [27, 55] := by kernel_rfl
  rw [hp] at h
  cases h with
  | cons h1 h =>
  cases h with
  | cons h2 h =>
  cases h
  obtain ⟨t1, rfl, k1⟩ := h1.inv_agg (by kernel_rfl)
  obtain ⟨t2, rfl, k2⟩ := h2.inv_agg (by kernel_rfl)
  obtain ⟨p, hp⟩ := proc_ty k1
  obtain ⟨s, hs⟩ := seam_ty k2
  simp [gLawHours, hp, hs]

theorem hours_lifted (os : Os) (started : os.Started) (H : Type) (enc : TypeId × Value → H) :
    ReturnsInHanded {} Try.checked os 6 .any (Rows.procedureHoursSpec.pre6 enc Try.prog Try.f6 Rows.procedureHoursRow.domain false) (Rows.procedureHoursSpec.post enc Try.prog Try.f6 false true false false) :=
  law_in (C := Try.checked) (g := gLawHours) (tb := 4) (n := 40) (by kernel_rfl) (by kernel_rfl) (by kernel_rfl) Try.func6 (by kernel_rfl) (by kernel_rfl) rfl
    (fun H ds h => by
      match ds, (h.trans (by kernel_rfl : Try.f6.params.size = 2)) with
      | [a, b], _ => exact ⟨rfl, rfl, rfl⟩) (by
      have hp : Try.f6.params.toList = [27, 55] := by kernel_rfl
      intro t ht
      rw [hp] at ht
      rcases List.mem_cons.1 ht with rfl | ht
      · exact ⟨by kernel_rfl, by kernel_rfl, of_decide_eq_true (by kernel_rfl)⟩
      · rcases List.mem_cons.1 ht with rfl | ht
        · exact ⟨by kernel_rfl, by kernel_rfl, of_decide_eq_true (by kernel_rfl)⟩
        · cases ht) fn_lawHours hours_plain (by kernel_rfl) os started H enc
    (ChangeSpec.witness6 (enc := enc) (C := Try.checked) false ⟨#[], #[.agg #[.string ⟨#[]⟩, .int .i64 0, .int .i64 0, .int .i64 0, .slice none 0 0, .int .i64 0], .agg #[.string ⟨#[]⟩, .string ⟨#[]⟩, .string ⟨#[]⟩, .int .i64 0, .int .i64 0, .int .i64 0]], []⟩ 8 (by kernel_rfl) (by kernel_rfl) (by kernel_rfl) (by kernel_rfl))

theorem procedureHours_over : Rows.procedureHoursRow.holds Try.pinned (OpenSpec.ofChange Rows.procedureHoursSpec) :=
  OpenClaim.holds_of_wide 6 Try.f6 rfl rfl rfl rfl rfl rfl rfl ⟨rfl, rfl, rfl, rfl, rfl⟩ rfl rfl rfl rfl rfl (by kernel_rfl) Try.func6 (by kernel_rfl)
    (of_decide_eq_true (by kernel_rfl)) (by unfold Func.isWrapper; first | (rw [if_pos (by decide +kernel)]; kernel_rfl) | (rw [if_neg (by decide +kernel)]; exact ⟨rfl, rfl⟩))
    (fun os started H enc _ => hours_lifted os started H enc)
theorem procedureHours_proved : Rows.ProcedureHoursSaid := procedureHours_over
#print axioms procedureHours_proved
end Go.Proofs.Ytnepemjcinpohaa
