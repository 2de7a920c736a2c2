/-
  SeamChecks: the law holds for everything that comes in.
  The listed variables (tables of unicode/utf8) lie as the program's text lays them; the card ties them.
-/
import Derived.Test.YtlpcelingpgmfaaDoorPsn
import Derived.Test.YtlpcelingpgmfaaDoorRows
import Derived.Test.YtlpcelingpgmfaaDoorCards
import Derived.Test.YtlpcelingpgmfaaDoorTie
import Derived.LaidMore
import Derived.Lay
import Derived.SevenTiedAt
import Derived.Stop.Joined
set_option linter.unusedSimpArgs false
set_option linter.unusedVariables false
set_option maxRecDepth 100000
namespace Go.Proofs.YtlpcelingpgmfaaDoor
open Go Go.Pv Go.RowKit

theorem h11_plain : ∀ x, InSh s_lawChecks x → sp_lawChecks x = some (.v (.bool true)) := by
  intro _ _
  rfl
theorem h11_lifted (os : Os) (started : os.Started) (H : Type) (enc : TypeId × Value → H) :
    ReturnsInHanded {} Tryd.checked os 3 .any (fun w args => (Rows.seamChecksSpec.pre enc Tryd.prog Tryd.f3 Rows.seamChecksRow.domain false w args ∧ laidMetH Tryd.prog Rows.seamChecksRow.laid w) ∧ sizedMet enc Tryd.prog Tryd.f3 (OpenSpec.ofChange Rows.seamChecksSpec) false w args)
      (Rows.seamChecksSpec.post enc Tryd.prog Tryd.f3 false true false false) :=
  law_L (C := Tryd.checked) (X := fun w _ => laidMetH Tryd.prog Rows.seamChecksRow.laid w) (tb := 4) (n := 40) (by kernel_rfl) (by kernel_rfl) (by kernel_rfl) (by kernel_rfl) Tryd.func3 (by kernel_rfl) (by kernel_rfl) rfl
    (fun H ds h => by
      match ds, (h.trans (by kernel_rfl : Tryd.f3.params.size = 1)) with
      | [a], _ => exact ⟨rfl, rfl, rfl⟩) (by
      have hp : (Tryd.f3.params.toList.all fun t => okT Tryd.prog 40 t && Tryd.prog.readableRec t && decide (t < Tryd.prog.types.size)) = true := by kernel_rfl
      intro t ht
      have := List.all_eq_true.1 hp t ht
      simp only [Bool.and_eq_true, decide_eq_true_eq] at this
      exact ⟨this.1.1, this.1.2, this.2⟩) (by kernel_rfl) rfl (by kernel_rfl) fn_lawChecks h11_plain (by kernel_rfl) os started H enc
    (ChangeSpec.witness_shaped (enc := enc) (C := Tryd.checked) (os := os) (X := fun w _ => laidMetH Tryd.prog Rows.seamChecksRow.laid w) false (World.laidAll Tryd.prog os Rows.seamChecksRow.laid) #[.agg #[.string ⟨#[]⟩, .string ⟨#[]⟩, .string ⟨#[]⟩, .int .i64 0, .int .i64 0, .int .i64 0]] 8 (World.laidAll_os _ _ _)
      (World.shaped_of_ZipB (by kernel_rfl) (by kernel_rfl)) (by kernel_rfl) (by kernel_rfl) (by kernel_rfl)
      (by rw [MakeChecks.laidMetH_plain _ _ _ (by kernel_rfl)]; exact laidMet_laidAll _ (by kernel_rfl) (by kernel_rfl)))
theorem h11_over : Rows.seamChecksRow.holds Tryd.pinned (OpenSpec.ofChange Rows.seamChecksSpec) :=
  OpenClaim.holds_of_wide 3 Tryd.f3 rfl rfl rfl rfl rfl rfl rfl ⟨rfl, rfl, rfl, rfl, rfl⟩ rfl rfl rfl rfl rfl (by kernel_rfl) Tryd.func3 (by kernel_rfl)
    (of_decide_eq_true (by kernel_rfl)) (by unfold Func.isWrapper; first | (rw [if_pos (by decide +kernel)]; kernel_rfl) | (rw [if_neg (by decide +kernel)]; exact ⟨rfl, rfl⟩))
    (fun os started H enc _ => h11_lifted os started H enc)
theorem seamChecks_proved : Rows.SeamChecksCardSaid :=
  Claim7.holds_tied_plain_at .later [] [.data, .pinned] true (true, "bd34841267241415b40043add45493e7e1d761278530eab9e57a44b57f463656") false h11_over (fun _ h => by cases h) (by kernel_rfl) (fun _ h => by cases h) seamChecks_row_tie rfl ⟨rfl, rfl⟩ (by kernel_rfl) rfl
    (fun f fn hf hfn => by
      obtain rfl : f = 3 := Option.some.inj ((show Tryd.prog.funcNamed "shipyard/shipyardlaw18.SeamChecks" = some 3 by kernel_rfl).symm.trans hf) |>.symm
      obtain rfl : fn = Tryd.f3 := (Option.some.inj (Tryd.func3.symm.trans hfn)).symm
      exact ⟨by kernel_rfl, fun j t ht => by
        have hall : (Tryd.f3.params.toList.all fun u => !Tryd.prog.wantsStandIn u) = true := by kernel_rfl
        have hm : t ∈ Tryd.f3.params.toList := by
          have := Array.mem_of_getElem? ht
          simpa using this
        exact (show Tryd.prog.wantsStandIn t = false by simpa using List.all_eq_true.1 hall t hm)⟩)
    (by kernel_rfl)
#print axioms seamChecks_proved
end Go.Proofs.YtlpcelingpgmfaaDoor
