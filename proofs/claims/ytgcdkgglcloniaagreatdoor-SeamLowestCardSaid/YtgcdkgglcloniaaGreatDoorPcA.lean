/-
  SeamLowest: the law answers true for everything that comes in, as the card says.
  The listed variables (tables of unicode/utf8) lie as the program's text lays them; the card ties them.
-/
import Derived.Test.YtgcdkgglcloniaaGreatDoorPn8
import Derived.Test.YtgcdkgglcloniaaGreatDoorRows
import Derived.Test.YtgcdkgglcloniaaGreatDoorCards
import Derived.Test.YtgcdkgglcloniaaGreatDoorTie
import Derived.LaidMore
import Derived.Lay
import Derived.SevenTiedAt
import Derived.Stop.Joined
set_option linter.unusedSimpArgs false
set_option linter.unusedVariables false
set_option maxRecDepth 100000
namespace Go.Proofs.YtgcdkgglcloniaaGreatDoor
open Go Go.Pv Go.RowKit

theorem c_seamLowest_plain : ∀ x, InSh s_lawLow x → sp_lawLow x = some (.v (.bool true)) := by
  rintro ⟨d, m⟩ h; exact onlyD_ok _ (okD_inV h.1)
theorem c_seamLowest_lifted (os : Os) (started : os.Started) (H : Type) (enc : TypeId × Value → H) :
    ReturnsInHanded {} Tryz.checked os 6 .any (fun w args => (Rows.seamLowestSpec.pre enc Tryz.prog Tryz.f6 Rows.seamLowestRow.domain false w args ∧ laidMetH Tryz.prog Rows.seamLowestRow.laid w) ∧ sizedMet enc Tryz.prog Tryz.f6 (OpenSpec.ofChange Rows.seamLowestSpec) false w args)
      (Rows.seamLowestSpec.post enc Tryz.prog Tryz.f6 false true false false) :=
  law_L (C := Tryz.checked) (X := fun w _ => laidMetH Tryz.prog Rows.seamLowestRow.laid w) (tb := 4) (n := 40) (by kernel_rfl) (by kernel_rfl) (by kernel_rfl) (by kernel_rfl) Tryz.func6 (by kernel_rfl) (by kernel_rfl) rfl
    (fun H ds h => by
      match ds, (h.trans (by kernel_rfl : Tryz.f6.params.size = 2)) with
      | [a0, a1], _ => exact ⟨rfl, rfl, rfl⟩) (by
      have hp : (Tryz.f6.params.toList.all fun t => okT Tryz.prog 40 t && Tryz.prog.readableRec t && decide (t < Tryz.prog.types.size)) = true := by kernel_rfl
      intro t ht
      have := List.all_eq_true.1 hp t ht
      simp only [Bool.and_eq_true, decide_eq_true_eq] at this
      exact ⟨this.1.1, this.1.2, this.2⟩) (by kernel_rfl) rfl (by kernel_rfl) fn_lawLow c_seamLowest_plain (by kernel_rfl) os started H enc
    (ChangeSpec.witness_shaped (enc := enc) (C := Tryz.checked) (os := os) (X := fun w _ => laidMetH Tryz.prog Rows.seamLowestRow.laid w) false (World.laidAll Tryz.prog os Rows.seamLowestRow.laid) #[.agg #[.string ⟨#[]⟩, .slice none 0 0, .slice none 0 0, .slice none 0 0, .slice none 0 0, .slice none 0 0], .agg #[.slice none 0 0, .slice none 0 0]] 8 (World.laidAll_os _ _ _)
      (World.shaped_of_ZipB (by kernel_rfl) (by kernel_rfl)) (by kernel_rfl) (by kernel_rfl) (by kernel_rfl)
      (by rw [MakeChecks.laidMetH_plain _ _ _ (by kernel_rfl)]; exact laidMet_laidAll _ (by kernel_rfl) (by kernel_rfl)))
theorem c_seamLowest_over : Rows.seamLowestRow.holds Tryz.pinned (OpenSpec.ofChange Rows.seamLowestSpec) :=
  OpenClaim.holds_of_wide 6 Tryz.f6 rfl rfl rfl rfl rfl rfl rfl ⟨rfl, rfl, rfl, rfl, rfl⟩ rfl rfl rfl rfl rfl (by kernel_rfl) Tryz.func6 (by kernel_rfl)
    (of_decide_eq_true (by kernel_rfl)) (by unfold Func.isWrapper; first | (rw [if_pos (by decide +kernel)]; kernel_rfl) | (rw [if_neg (by decide +kernel)]; exact ⟨rfl, rfl⟩))
    (fun os started H enc _ => c_seamLowest_lifted os started H enc)
theorem seamLowest_proved : Rows.SeamLowestCardSaid :=
  Claim7.holds_tied_plain_at .later [] [.data, .pinned] true (true, "11cfea2f4f60b52b74324e11e0200a37562fc971c3dc9d332b8539f48f10fe7a") false c_seamLowest_over (fun _ h => by cases h) (by kernel_rfl) (fun _ h => by cases h) seamLowest_row_tie rfl ⟨rfl, rfl⟩ (by kernel_rfl) rfl
    (fun f fn hf hfn => by
      obtain rfl : f = 6 := Option.some.inj ((show Tryz.prog.funcNamed "shipyard/shipyardlaw18.SeamLowest" = some 6 by kernel_rfl).symm.trans hf) |>.symm
      obtain rfl : fn = Tryz.f6 := (Option.some.inj (Tryz.func6.symm.trans hfn)).symm
      exact ⟨by kernel_rfl, fun j t ht => by
        have hall : (Tryz.f6.params.toList.all fun u => !Tryz.prog.wantsStandIn u) = true := by kernel_rfl
        have hm : t ∈ Tryz.f6.params.toList := by
          have := Array.mem_of_getElem? ht
          simpa using this
        exact (show Tryz.prog.wantsStandIn t = false by simpa using List.all_eq_true.1 hall t hm)⟩)
    (by kernel_rfl)
#print axioms seamLowest_proved
end Go.Proofs.YtgcdkgglcloniaaGreatDoor
