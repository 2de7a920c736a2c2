/-
  ProcedureAll: the law answers true for everything that comes in, as the card says.
  The listed variables (tables of unicode/utf8) lie as the program's text lays them; the card ties them.
-/
import Derived.Test.YtlnfhilipnldeaaGreatDoorPr3
import Derived.Test.YtlnfhilipnldeaaGreatDoorRows
import Derived.Test.YtlnfhilipnldeaaGreatDoorCards
import Derived.Test.YtlnfhilipnldeaaGreatDoorTie
import Derived.LaidMore
import Derived.Lay
import Derived.SevenTiedAt
import Derived.Stop.Joined
set_option linter.unusedSimpArgs false
set_option linter.unusedVariables false
set_option maxRecDepth 100000
namespace Go.Proofs.YtlnfhilipnldeaaGreatDoor
open Go Go.Pv Go.RowKit

theorem c_procedureAll_plain : ∀ x, InSh s_lawAll x → sp_lawAll x = some (.v (.bool true)) := by
  exact all_in
theorem c_procedureAll_lifted (os : Os) (started : os.Started) (H : Type) (enc : TypeId × Value → H) :
    ReturnsInHanded {} Tryz.checked os 3 .any (fun w args => (Rows.procedureAllSpec.pre enc Tryz.prog Tryz.f3 Rows.procedureAllRow.domain false w args ∧ laidMetH Tryz.prog Rows.procedureAllRow.laid w) ∧ sizedMet enc Tryz.prog Tryz.f3 (OpenSpec.ofChange Rows.procedureAllSpec) false w args)
      (Rows.procedureAllSpec.post enc Tryz.prog Tryz.f3 false true false false) :=
  law_L (C := Tryz.checked) (X := fun w _ => laidMetH Tryz.prog Rows.procedureAllRow.laid w) (tb := 4) (n := 40) (by kernel_rfl) (by kernel_rfl) (by kernel_rfl) (by kernel_rfl) Tryz.func3 (by kernel_rfl) (by kernel_rfl) rfl
    (fun H ds h => by
      match ds, (h.trans (by kernel_rfl : Tryz.f3.params.size = 1)) with
      | [a0], _ => exact ⟨rfl, rfl, rfl⟩) (by
      have hp : (Tryz.f3.params.toList.all fun t => okT Tryz.prog 40 t && Tryz.prog.readableRec t && decide (t < Tryz.prog.types.size)) = true := by kernel_rfl
      intro t ht
      have := List.all_eq_true.1 hp t ht
      simp only [Bool.and_eq_true, decide_eq_true_eq] at this
      exact ⟨this.1.1, this.1.2, this.2⟩) (by kernel_rfl) rfl (by kernel_rfl) fn_lawAll c_procedureAll_plain (by kernel_rfl) os started H enc
    (ChangeSpec.witness_shaped (enc := enc) (C := Tryz.checked) (os := os) (X := fun w _ => laidMetH Tryz.prog Rows.procedureAllRow.laid w) false (World.laidAll Tryz.prog os Rows.procedureAllRow.laid) #[.agg #[.string ⟨#[]⟩, .slice none 0 0, .slice none 0 0, .slice none 0 0, .slice none 0 0, .slice none 0 0, .slice none 0 0, .slice none 0 0, .string ⟨#[]⟩]] 8 (World.laidAll_os _ _ _)
      (World.shaped_of_ZipB (by kernel_rfl) (by kernel_rfl)) (by kernel_rfl) (by kernel_rfl) (by kernel_rfl)
      (by rw [MakeChecks.laidMetH_plain _ _ _ (by kernel_rfl)]; exact laidMet_laidAll _ (by kernel_rfl) (by kernel_rfl)))
theorem c_procedureAll_over : Rows.procedureAllRow.holds Tryz.pinned (OpenSpec.ofChange Rows.procedureAllSpec) :=
  OpenClaim.holds_of_wide 3 Tryz.f3 rfl rfl rfl rfl rfl rfl rfl ⟨rfl, rfl, rfl, rfl, rfl⟩ rfl rfl rfl rfl rfl (by kernel_rfl) Tryz.func3 (by kernel_rfl)
    (of_decide_eq_true (by kernel_rfl)) (by unfold Func.isWrapper; first | (rw [if_pos (by decide +kernel)]; kernel_rfl) | (rw [if_neg (by decide +kernel)]; exact ⟨rfl, rfl⟩))
    (fun os started H enc _ => c_procedureAll_lifted os started H enc)
theorem procedureAll_proved : Rows.ProcedureAllCardSaid :=
  Claim7.holds_tied_plain_at .later [] [.data, .pinned] true (true, "9b0f350388ec2ebc2815ca31d7761a22fa162e017e77aa019cf3e5ec3388d83b") false c_procedureAll_over (fun _ h => by cases h) (by kernel_rfl) (fun _ h => by cases h) procedureAll_row_tie rfl ⟨rfl, rfl⟩ (by kernel_rfl) rfl
    (fun f fn hf hfn => by
      obtain rfl : f = 3 := Option.some.inj ((show Tryz.prog.funcNamed "shipyard/shipyardlaw31.ProcedureAll" = some 3 by kernel_rfl).symm.trans hf) |>.symm
      obtain rfl : fn = Tryz.f3 := (Option.some.inj (Tryz.func3.symm.trans hfn)).symm
      exact ⟨by kernel_rfl, fun j t ht => by
        have hall : (Tryz.f3.params.toList.all fun u => !Tryz.prog.wantsStandIn u) = true := by kernel_rfl
        have hm : t ∈ Tryz.f3.params.toList := by
          have := Array.mem_of_getElem? ht
          simpa using this
        exact (show Tryz.prog.wantsStandIn t = false by simpa using List.all_eq_true.1 hall t hm)⟩)
    (by kernel_rfl)
#print axioms procedureAll_proved
end Go.Proofs.YtlnfhilipnldeaaGreatDoor
