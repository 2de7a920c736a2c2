/-
  SeamLists: the law holds for everything that comes in.
  The listed variables (tables of unicode/utf8) lie as the program's text lays them; the card ties them.
-/
import Derived.Test.YtlpcelingpgmfaaDoorPsz
import Derived.Test.YtlpcelingpgmfaaDoorRows
import Derived.Test.YtlpcelingpgmfaaDoorCards
import Derived.Test.YtlpcelingpgmfaaDoorTie
import Derived.LaidMore
import Derived.Lay
import Derived.SevenTiedAt
import Derived.Stop.Joined
set_option linter.unusedSimpArgs false
set_option linter.unusedVariables false
set_option maxRecDepth 100000
namespace Go.Proofs.YtlpcelingpgmfaaDoor
open Go Go.Pv Go.RowKit

theorem h10_plain : ∀ x, InSh s_lawLists x → sp_lawLists x = some (.v (.bool true)) := by
  rintro ⟨d, id⟩ ⟨h, _⟩
  exact onlyD_ok _ (okD_in h)
theorem h10_lifted (os : Os) (started : os.Started) (H : Type) (enc : TypeId × Value → H) :
    ReturnsInHanded {} Tryd.checked os 5 .any (fun w args => (Rows.seamListsSpec.pre enc Tryd.prog Tryd.f5 Rows.seamListsRow.domain false w args ∧ laidMetH Tryd.prog Rows.seamListsRow.laid w) ∧ sizedMet enc Tryd.prog Tryd.f5 (OpenSpec.ofChange Rows.seamListsSpec) false w args)
      (Rows.seamListsSpec.post enc Tryd.prog Tryd.f5 false true false false) :=
  law_L (C := Tryd.checked) (X := fun w _ => laidMetH Tryd.prog Rows.seamListsRow.laid w) (tb := 4) (n := 40) (by kernel_rfl) (by kernel_rfl) (by kernel_rfl) (by kernel_rfl) Tryd.func5 (by kernel_rfl) (by kernel_rfl) rfl
    (fun H ds h => by
      match ds, (h.trans (by kernel_rfl : Tryd.f5.params.size = 2)) with
      | [a, b], _ => exact ⟨rfl, rfl, rfl⟩) (by
      have hp : (Tryd.f5.params.toList.all fun t => okT Tryd.prog 40 t && Tryd.prog.readableRec t && decide (t < Tryd.prog.types.size)) = true := by kernel_rfl
      intro t ht
      have := List.all_eq_true.1 hp t ht
      simp only [Bool.and_eq_true, decide_eq_true_eq] at this
      exact ⟨this.1.1, this.1.2, this.2⟩) (by kernel_rfl) rfl (by kernel_rfl) fn_lawLists h10_plain (by kernel_rfl) os started H enc
    (ChangeSpec.witness_shaped (enc := enc) (C := Tryd.checked) (os := os) (X := fun w _ => laidMetH Tryd.prog Rows.seamListsRow.laid w) false (World.laidAll Tryd.prog os Rows.seamListsRow.laid) #[.agg #[.string ⟨#[]⟩, .slice none 0 0, .slice none 0 0, .slice none 0 0, .slice none 0 0, .slice none 0 0], .string ⟨#[]⟩] 8 (World.laidAll_os _ _ _)
      (World.shaped_of_ZipB (by kernel_rfl) (by kernel_rfl)) (by kernel_rfl) (by kernel_rfl) (by kernel_rfl)
      (by rw [MakeChecks.laidMetH_plain _ _ _ (by kernel_rfl)]; exact laidMet_laidAll _ (by kernel_rfl) (by kernel_rfl)))
theorem h10_over : Rows.seamListsRow.holds Tryd.pinned (OpenSpec.ofChange Rows.seamListsSpec) :=
  OpenClaim.holds_of_wide 5 Tryd.f5 rfl rfl rfl rfl rfl rfl rfl ⟨rfl, rfl, rfl, rfl, rfl⟩ rfl rfl rfl rfl rfl (by kernel_rfl) Tryd.func5 (by kernel_rfl)
    (of_decide_eq_true (by kernel_rfl)) (by unfold Func.isWrapper; first | (rw [if_pos (by decide +kernel)]; kernel_rfl) | (rw [if_neg (by decide +kernel)]; exact ⟨rfl, rfl⟩))
    (fun os started H enc _ => h10_lifted os started H enc)
theorem seamLists_proved : Rows.SeamListsCardSaid :=
  Claim7.holds_tied_plain_at .later [] [.data, .pinned] true (true, "bd34841267241415b40043add45493e7e1d761278530eab9e57a44b57f463656") false h10_over (fun _ h => by cases h) (by kernel_rfl) (fun _ h => by cases h) seamLists_row_tie rfl ⟨rfl, rfl⟩ (by kernel_rfl) rfl
    (fun f fn hf hfn => by
      obtain rfl : f = 5 := Option.some.inj ((show Tryd.prog.funcNamed "shipyard/shipyardlaw18.SeamLists" = some 5 by kernel_rfl).symm.trans hf) |>.symm
      obtain rfl : fn = Tryd.f5 := (Option.some.inj (Tryd.func5.symm.trans hfn)).symm
      exact ⟨by kernel_rfl, fun j t ht => by
        have hall : (Tryd.f5.params.toList.all fun u => !Tryd.prog.wantsStandIn u) = true := by kernel_rfl
        have hm : t ∈ Tryd.f5.params.toList := by
          have := Array.mem_of_getElem? ht
          simpa using this
        exact (show Tryd.prog.wantsStandIn t = false by simpa using List.all_eq_true.1 hall t hm)⟩)
    (by kernel_rfl)
#print axioms seamLists_proved
end Go.Proofs.YtlpcelingpgmfaaDoor
