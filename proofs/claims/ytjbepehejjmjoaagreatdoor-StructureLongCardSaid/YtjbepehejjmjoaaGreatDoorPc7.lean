/-
  StructureLong: the law answers true for everything that comes in, as the card says.
  The listed variables (tables of unicode/utf8) lie as the program's text lays them; the card ties them.
-/
import Derived.Test.YtjbepehejjmjoaaGreatDoorPtp
import Derived.Test.YtjbepehejjmjoaaGreatDoorRows
import Derived.Test.YtjbepehejjmjoaaGreatDoorCards
import Derived.Test.YtjbepehejjmjoaaGreatDoorTie
import Derived.LaidMore
import Derived.Lay
import Derived.SevenTiedAt
import Derived.Stop.Joined
set_option linter.unusedSimpArgs false
set_option linter.unusedVariables false
set_option maxRecDepth 100000
namespace Go.Proofs.YtjbepehejjmjoaaGreatDoor
open Go Go.Pv Go.RowKit

theorem c_structureLong_plain : ∀ x, InSh s_lawLong x → sp_lawLong x = some (.v (.bool true)) := by
  rintro ⟨a, b, c, d, e⟩ ⟨h1, h2, h3, h4, h5⟩
  have u : ∀ {n : Int}, (Lit.int .u16 n).wf = true → 0 ≤ n ∧ n < 65536 := fun {n} h => by
    simp only [Lit.wf, Bool.and_eq_true, decide_eq_true_eq] at h
    have m1 : IntKind.u16.min = 0 := rfl
    have m2 : IntKind.u16.max = 65535 := rfl
    omega
  have w1 := u h1
  have w2 := u h2
  have w3 := u h3
  have w4 := u h4
  have w5 := u h5
  unfold sp_lawLong
  rw [show okU (a, b, c, d, e) = true by simp only [okU, Bool.and_eq_true, decide_eq_true_eq]; exact ⟨⟨⟨⟨w1, w2⟩, w3⟩, w4⟩, w5⟩]
theorem c_structureLong_lifted (os : Os) (started : os.Started) (H : Type) (enc : TypeId × Value → H) :
    ReturnsInHanded {} Tryz.checked os 7 .any (fun w args => (Rows.structureLongSpec.pre enc Tryz.prog Tryz.f7 Rows.structureLongRow.domain false w args ∧ laidMetH Tryz.prog Rows.structureLongRow.laid w) ∧ sizedMet enc Tryz.prog Tryz.f7 (OpenSpec.ofChange Rows.structureLongSpec) false w args)
      (Rows.structureLongSpec.post enc Tryz.prog Tryz.f7 false true false false) :=
  law_L (C := Tryz.checked) (X := fun w _ => laidMetH Tryz.prog Rows.structureLongRow.laid w) (tb := 4) (n := 40) (by kernel_rfl) (by kernel_rfl) (by kernel_rfl) (by kernel_rfl) Tryz.func7 (by kernel_rfl) (by kernel_rfl) rfl
    (fun H ds h => by
      match ds, (h.trans (by kernel_rfl : Tryz.f7.params.size = 1)) with
      | [a0], _ => exact ⟨rfl, rfl, rfl⟩) (by
      have hp : (Tryz.f7.params.toList.all fun t => okT Tryz.prog 40 t && Tryz.prog.readableRec t && decide (t < Tryz.prog.types.size)) = true := by kernel_rfl
      intro t ht
      have := List.all_eq_true.1 hp t ht
      simp only [Bool.and_eq_true, decide_eq_true_eq] at this
      exact ⟨this.1.1, this.1.2, this.2⟩) (by kernel_rfl) rfl (by kernel_rfl) fn_lawLong c_structureLong_plain (by kernel_rfl) os started H enc
    (ChangeSpec.witness_shaped (enc := enc) (C := Tryz.checked) (os := os) (X := fun w _ => laidMetH Tryz.prog Rows.structureLongRow.laid w) false (World.laidAll Tryz.prog os Rows.structureLongRow.laid) #[.agg #[.int .u16 0, .int .u16 0, .int .u16 0, .int .u16 0, .int .u16 0]] 8 (World.laidAll_os _ _ _)
      (World.shaped_of_ZipB (by kernel_rfl) (by kernel_rfl)) (by kernel_rfl) (by kernel_rfl) (by kernel_rfl)
      (by rw [MakeChecks.laidMetH_plain _ _ _ (by kernel_rfl)]; exact laidMet_laidAll _ (by kernel_rfl) (by kernel_rfl)))
theorem c_structureLong_over : Rows.structureLongRow.holds Tryz.pinned (OpenSpec.ofChange Rows.structureLongSpec) :=
  OpenClaim.holds_of_wide 7 Tryz.f7 rfl rfl rfl rfl rfl rfl rfl ⟨rfl, rfl, rfl, rfl, rfl⟩ rfl rfl rfl rfl rfl (by kernel_rfl) Tryz.func7 (by kernel_rfl)
    (of_decide_eq_true (by kernel_rfl)) (by unfold Func.isWrapper; first | (rw [if_pos (by decide +kernel)]; kernel_rfl) | (rw [if_neg (by decide +kernel)]; exact ⟨rfl, rfl⟩))
    (fun os started H enc _ => c_structureLong_lifted os started H enc)
theorem structureLong_proved : Rows.StructureLongCardSaid :=
  Claim7.holds_tied_plain_at .later [] [.data, .pinned] true (true, "841c540a5766a89e4241175ee1bdb2a24002bf6a66f45f1fba732cb0b0fcee3e") false c_structureLong_over (fun _ h => by cases h) (by kernel_rfl) (fun _ h => by cases h) structureLong_row_tie rfl ⟨rfl, rfl⟩ (by kernel_rfl) rfl
    (fun f fn hf hfn => by
      obtain rfl : f = 7 := Option.some.inj ((show Tryz.prog.funcNamed "shipyard/shipyardlaw17.StructureLong" = some 7 by kernel_rfl).symm.trans hf) |>.symm
      obtain rfl : fn = Tryz.f7 := (Option.some.inj (Tryz.func7.symm.trans hfn)).symm
      exact ⟨by kernel_rfl, fun j t ht => by
        have hall : (Tryz.f7.params.toList.all fun u => !Tryz.prog.wantsStandIn u) = true := by kernel_rfl
        have hm : t ∈ Tryz.f7.params.toList := by
          have := Array.mem_of_getElem? ht
          simpa using this
        exact (show Tryz.prog.wantsStandIn t = false by simpa using List.all_eq_true.1 hall t hm)⟩)
    (by kernel_rfl)
#print axioms structureLong_proved
end Go.Proofs.YtjbepehejjmjoaaGreatDoor
