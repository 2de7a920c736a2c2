/-
  ProcedureWider: the law answers true for everything that comes in, as the row says.
  No condition is laid on what comes in.
-/
import Derived.Test.YtlnfhilipnldeaaPpw
import Derived.Test.YtlnfhilipnldeaaRows
set_option linter.unusedSimpArgs false
set_option linter.unusedVariables false
set_option maxRecDepth 100000
namespace Go.Proofs.Ytlnfhilipnldeaa
open Go Go.Pv Go.RowKit

theorem c_procedureWider_plain : ∀ x, InSh s_lawWider x → sp_lawWider x = some (.v (.bool true)) := by
  exact okD_wider
theorem c_procedureWider_lifted (os : Os) (started : os.Started) (H : Type) (enc : TypeId × Value → H) :
    ReturnsInHanded {} Try.checked os 3 .any (Rows.procedureWiderSpec.pre6 enc Try.prog Try.f3 Rows.procedureWiderRow.domain false) (Rows.procedureWiderSpec.post enc Try.prog Try.f3 false true false false) :=
  law_P (C := Try.checked) (tb := 4) (n := 40) (by kernel_rfl) (by kernel_rfl) (by kernel_rfl) (by kernel_rfl) Try.func3 (by kernel_rfl) (by kernel_rfl) rfl
    (fun H ds h => by
      match ds, (h.trans (by kernel_rfl : Try.f3.params.size = 3)) with
      | [a0, a1, a2], _ => exact ⟨rfl, rfl, rfl⟩) (by
      have hp : (Try.f3.params.toList.all fun t => okT Try.prog 40 t && Try.prog.readableRec t && decide (t < Try.prog.types.size)) = true := by kernel_rfl
      intro t ht
      have := List.all_eq_true.1 hp t ht
      simp only [Bool.and_eq_true, decide_eq_true_eq] at this
      exact ⟨this.1.1, this.1.2, this.2⟩) (by kernel_rfl) rfl (by kernel_rfl) fn_lawWider c_procedureWider_plain (by kernel_rfl) os started H enc
    (ChangeSpec.witness6 (enc := enc) (C := Try.checked) false ⟨#[], #[.agg #[.string ⟨#[]⟩, .int .i64 0, .int .i64 0, .int .i64 0, .slice none 0 0, .int .i64 0], .agg #[.string ⟨#[]⟩, .slice none 0 0, .slice none 0 0, .slice none 0 0, .slice none 0 0, .slice none 0 0, .slice none 0 0, .slice none 0 0, .string ⟨#[]⟩], .string ⟨#[]⟩], []⟩ 8 (by kernel_rfl) (by kernel_rfl) (by kernel_rfl) (by kernel_rfl))
theorem procedureWider_over : Rows.procedureWiderRow.holds Try.pinned (OpenSpec.ofChange Rows.procedureWiderSpec) :=
  OpenClaim.holds_of_wide 3 Try.f3 rfl rfl rfl rfl rfl rfl rfl ⟨rfl, rfl, rfl, rfl, rfl⟩ rfl rfl rfl rfl rfl (by kernel_rfl) Try.func3 (by kernel_rfl)
    (of_decide_eq_true (by kernel_rfl)) (by unfold Func.isWrapper; first | (rw [if_pos (by decide +kernel)]; kernel_rfl) | (rw [if_neg (by decide +kernel)]; exact ⟨rfl, rfl⟩))
    (fun os started H enc _ => c_procedureWider_lifted os started H enc)
theorem procedureWider_proved : Rows.ProcedureWiderSaid := procedureWider_over
#print axioms procedureWider_proved
end Go.Proofs.Ytlnfhilipnldeaa
