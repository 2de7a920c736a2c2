/-
  VersionNobody: the law answers true for everything that comes in, as the card says.
  The listed variables (tables of unicode/utf8) lie as the program's text lays them; the card ties them.
-/
import Derived.Test.YtghdgefkfgikoaaGreatDoorPvn
import Derived.Test.YtghdgefkfgikoaaGreatDoorRows
import Derived.Test.YtghdgefkfgikoaaGreatDoorCards
import Derived.Test.YtghdgefkfgikoaaGreatDoorTie
import Derived.LaidMore
import Derived.Lay
import Derived.SevenTiedAt
import Derived.Stop.Joined
set_option linter.unusedSimpArgs false
set_option linter.unusedVariables false
set_option maxRecDepth 100000
namespace Go.Proofs.YtghdgefkfgikoaaGreatDoor
open Go Go.Pv Go.RowKit

theorem c_versionNobody_plain : ∀ x, InSh s_lawNobody x → sp_lawNobody x = some (.v (.bool true)) := by
  exact fun x _ => rfl
theorem c_versionNobody_lifted (os : Os) (started : os.Started) (H : Type) (enc : TypeId × Value → H) :
    ReturnsInHanded {} Tryz.checked os 5 .any (fun w args => (Rows.versionNobodySpec.pre enc Tryz.prog Tryz.f5 Rows.versionNobodyRow.domain false w args ∧ laidMetH Tryz.prog Rows.versionNobodyRow.laid w) ∧ sizedMet enc Tryz.prog Tryz.f5 (OpenSpec.ofChange Rows.versionNobodySpec) false w args)
      (Rows.versionNobodySpec.post enc Tryz.prog Tryz.f5 false true false false) :=
  law_L (C := Tryz.checked) (X := fun w _ => laidMetH Tryz.prog Rows.versionNobodyRow.laid w) (tb := 4) (n := 40) (by kernel_rfl) (by kernel_rfl) (by kernel_rfl) (by kernel_rfl) Tryz.func5 (by kernel_rfl) (by kernel_rfl) rfl
    (fun H ds h => by
      match ds, (h.trans (by kernel_rfl : Tryz.f5.params.size = 2)) with
      | [a0, a1], _ => exact ⟨rfl, rfl, rfl⟩) (by
      have hp : (Tryz.f5.params.toList.all fun t => okT Tryz.prog 40 t && Tryz.prog.readableRec t && decide (t < Tryz.prog.types.size)) = true := by kernel_rfl
      intro t ht
      have := List.all_eq_true.1 hp t ht
      simp only [Bool.and_eq_true, decide_eq_true_eq] at this
      exact ⟨this.1.1, this.1.2, this.2⟩) (by kernel_rfl) rfl (by kernel_rfl) fn_lawNobody c_versionNobody_plain (by kernel_rfl) os started H enc
    (ChangeSpec.witness_shaped (enc := enc) (C := Tryz.checked) (os := os) (X := fun w _ => laidMetH Tryz.prog Rows.versionNobodyRow.laid w) false (World.laidAll Tryz.prog os Rows.versionNobodyRow.laid) #[.agg #[.string ⟨#[]⟩, .slice none 0 0], .int .i64 0] 8 (World.laidAll_os _ _ _)
      (World.shaped_of_ZipB (by kernel_rfl) (by kernel_rfl)) (by kernel_rfl) (by kernel_rfl) (by kernel_rfl)
      (by rw [MakeChecks.laidMetH_plain _ _ _ (by kernel_rfl)]; exact laidMet_laidAll _ (by kernel_rfl) (by kernel_rfl)))
theorem jf_versionNobody_1 : (Rows.versionNobodyRow.wf (OpenSpec.ofChange Rows.versionNobodySpec)) = true := by kernel_rfl
theorem jf_versionNobody_2 : (laidOutB Tryz.pinned.checked.prog) = true := by kernel_rfl
theorem jf_versionNobody_3 : (mapsRowed Tryz.pinned.checked.prog) = true := by kernel_rfl
theorem jf_versionNobody_4 : (Tryz.f5.params.all (Tryz.pinned.checked.prog.readableRec ·)) = true := by kernel_rfl
theorem jf_versionNobody_5 : (namedTie Tryz.pinned.checked.prog Rows.versionNobodyRow.named Rows.versionNobodySpec.vars) = true := by kernel_rfl
theorem jf_versionNobody_6 : ((Rows.versionNobodyRow.stops == [])) = true := by kernel_rfl
theorem jf_versionNobody_7 : ((Tryz.pinned.checked.prog.stops == [])) = true := by kernel_rfl
theorem jf_versionNobody_8 : ((Rows.versionNobodyRow.knobs == [])) = true := by kernel_rfl
theorem jf_versionNobody_9 : ((Tryz.pinned.checked.prog.stopKnobs == [])) = true := by kernel_rfl
theorem jf_versionNobody_10 : ((Rows.versionNobodyRow.inPlace == Tryz.pinned.checked.prog.inPlace 5)) = true := by kernel_rfl
theorem jf_versionNobody_11 : ((Rows.versionNobodyRow.unfollowed == Tryz.pinned.checked.prog.unfollowed 5)) = true := by kernel_rfl
theorem jf_versionNobody_12 : ((Rows.versionNobodyRow.recurses == Tryz.pinned.checked.prog.recurses 5)) = true := by kernel_rfl
theorem jf_versionNobody_13 : ((Rows.versionNobodyRow.named == Tryz.pinned.checked.prog.varsNamed 5)) = true := by kernel_rfl
theorem jf_versionNobody_14 : ((Rows.versionNobodyRow.maps == (Tryz.f5.params.toList ++ Rows.versionNobodySpec.plain.varTypes Tryz.pinned.checked.prog).any (Tryz.pinned.checked.prog.mapsRec ·))) = true := by kernel_rfl
theorem jf_versionNobody_15 : ((Rows.versionNobodyRow.ifaces == (Tryz.f5.params.toList ++ Rows.versionNobodySpec.plain.varTypes Tryz.pinned.checked.prog).any (Tryz.pinned.checked.prog.ifacesRec ·))) = true := by kernel_rfl
theorem jf_versionNobody_16 : ((Rows.versionNobodyRow.mapsOut == Tryz.pinned.checked.prog.mapsAmong Tryz.f5.resultTypes.toList)) = true := by kernel_rfl
theorem jf_versionNobody_17 : ((Rows.versionNobodyRow.loops == (Tryz.f5.params.toList ++ Rows.versionNobodySpec.plain.varTypes Tryz.pinned.checked.prog).any (Tryz.pinned.checked.prog.loopsFrom ·))) = true := by kernel_rfl
theorem jf_versionNobody_18 : ((Rows.versionNobodyRow.wideKeys == (Tryz.f5.params.toList ++ Rows.versionNobodySpec.plain.varTypes Tryz.pinned.checked.prog ++ Tryz.f5.resultTypes.toList).any (Tryz.pinned.checked.prog.wideKeysFrom ·))) = true := by kernel_rfl
theorem jf_versionNobody_19 : (Rows.versionNobodySpec.vars.all (Tryz.pinned.checked.prog.varReadable ·)) = true := by kernel_rfl
theorem jf_versionNobody_20 : (Tryz.f5.resultTypes.all (fun t => Tryz.pinned.checked.prog.readableRec t && decide (t < Tryz.pinned.checked.prog.types.size))) = true := by kernel_rfl
theorem jf_versionNobody_21 : ((Rows.versionNobodyRow.ifacesOut == Tryz.f5.resultTypes.toList.any (Tryz.pinned.checked.prog.ifacesRec ·))) = true := by kernel_rfl
theorem jf_versionNobody_22 : ((Rows.versionNobodyRow.loopsOut == Tryz.f5.resultTypes.toList.any (Tryz.pinned.checked.prog.loopsFrom ·))) = true := by kernel_rfl
theorem jf_versionNobody_23 : ((Rows.versionNobodyRow.plainKeys == Tryz.pinned.checked.prog.plainKeys)) = true := by kernel_rfl
theorem jf_versionNobody_24 : (Rows.versionNobodyRow.shortTexts.isNone) = true := by kernel_rfl
theorem jf_versionNobody_25 : (Tryz.pinned.checked.prog.stopsHeard) = true := by kernel_rfl
theorem jf_versionNobody_26 : (Tryz.pinned.checked.prog.mayEnter) = true := by kernel_rfl
theorem jf_versionNobody_27 : ((Rows.versionNobodyRow.lifted == Tryz.pinned.checked.prog.liftsFinal)) = true := by kernel_rfl
theorem jf_versionNobody_28 : ((Tryz.pinned.checked.prog.make == some Rows.versionNobodyRow.make)) = true := by kernel_rfl
theorem jf_versionNobody_29 : ((Rows.versionNobodyRow.kinds == (if Rows.versionNobodyRow.domain.isEmpty then [] else Tryz.f5.params.toList.map fun t => match Tryz.pinned.checked.prog.underlying t with | some (.int k) => some k | _ => none))) = true := by kernel_rfl
theorem jf_versionNobody_30 : ((Rows.versionNobodyRow.pinned == Rows.versionNobodyRow.pinnedBy)) = true := by kernel_rfl
theorem jf_versionNobody_31 : ((Rows.versionNobodyRow.veiled == (Tryz.f5.params.toList ++ Rows.versionNobodySpec.plain.varTypes Tryz.pinned.checked.prog ++ Tryz.f5.resultTypes.toList).any (Tryz.pinned.checked.prog.veiledRec ·))) = true := by kernel_rfl
theorem jf_versionNobody_32 : (Rows.versionNobodyRow.veiledFits Tryz.pinned.checked.prog Tryz.f5.params.toList (Tryz.f5.params.toList ++ Rows.versionNobodySpec.plain.varTypes Tryz.pinned.checked.prog ++ Tryz.f5.resultTypes.toList)) = true := by kernel_rfl
theorem and_t {a b : Bool} (h1 : a = true) (h2 : b = true) : (a && b) = true := by rw [h1, h2]; rfl
theorem jf_versionNobody : joinedFacts Tryz.pinned.checked.prog 5 Tryz.f5 Rows.versionNobodySpec Rows.versionNobodyRow = true := by
  unfold joinedFacts
  exact and_t (and_t (and_t (and_t (and_t (and_t (and_t (and_t (and_t (and_t (and_t (and_t (and_t (and_t (and_t (and_t (and_t (and_t (and_t (and_t (and_t (and_t (and_t (and_t (and_t (and_t (and_t (and_t (and_t (and_t (and_t (jf_versionNobody_1) jf_versionNobody_2) jf_versionNobody_3) jf_versionNobody_4) jf_versionNobody_5) jf_versionNobody_6) jf_versionNobody_7) jf_versionNobody_8) jf_versionNobody_9) jf_versionNobody_10) jf_versionNobody_11) jf_versionNobody_12) jf_versionNobody_13) jf_versionNobody_14) jf_versionNobody_15) jf_versionNobody_16) jf_versionNobody_17) jf_versionNobody_18) jf_versionNobody_19) jf_versionNobody_20) jf_versionNobody_21) jf_versionNobody_22) jf_versionNobody_23) jf_versionNobody_24) jf_versionNobody_25) jf_versionNobody_26) jf_versionNobody_27) jf_versionNobody_28) jf_versionNobody_29) jf_versionNobody_30) jf_versionNobody_31) jf_versionNobody_32
theorem c_versionNobody_over : Rows.versionNobodyRow.holds Tryz.pinned (OpenSpec.ofChange Rows.versionNobodySpec) :=
  OpenClaim.holds_of_wide 5 Tryz.f5 rfl rfl rfl rfl rfl rfl rfl ⟨rfl, rfl, rfl, rfl, rfl⟩ rfl rfl rfl rfl rfl (by as_aux_lemma => kernel_rfl) Tryz.func5 jf_versionNobody
    (of_decide_eq_true (by as_aux_lemma => kernel_rfl)) (by unfold Func.isWrapper; first | (rw [if_pos (by decide +kernel)]; kernel_rfl) | (rw [if_neg (by decide +kernel)]; exact ⟨rfl, rfl⟩))
    (fun os started H enc _ => c_versionNobody_lifted os started H enc)
theorem versionNobody_proved : Rows.VersionNobodyCardSaid :=
  Claim7.holds_tied_plain_at .later [] [.data, .pinned] true (true, "8c114a74917f3ab2ae1e3dd77e0c123f638e2ecd89e3d3ec7c97f9769b244646") false c_versionNobody_over (fun _ h => by cases h) (by as_aux_lemma => kernel_rfl) (fun _ h => by cases h) versionNobody_row_tie rfl ⟨rfl, rfl⟩ (by as_aux_lemma => kernel_rfl) rfl
    (fun f fn hf hfn => by
      obtain rfl : f = 5 := Option.some.inj ((show Tryz.prog.funcNamed "shipyard/shipyardlaw21.VersionNobody" = some 5 by as_aux_lemma => kernel_rfl).symm.trans hf) |>.symm
      obtain rfl : fn = Tryz.f5 := (Option.some.inj (Tryz.func5.symm.trans hfn)).symm
      exact ⟨by as_aux_lemma => kernel_rfl, fun j t ht => by
        have hall : (Tryz.f5.params.toList.all fun u => !Tryz.prog.wantsStandIn u) = true := by as_aux_lemma => kernel_rfl
        have hm : t ∈ Tryz.f5.params.toList := by
          have := Array.mem_of_getElem? ht
          simpa using this
        exact (show Tryz.prog.wantsStandIn t = false by simpa using List.all_eq_true.1 hall t hm)⟩)
    (by as_aux_lemma => kernel_rfl)
#print axioms versionNobody_proved
end Go.Proofs.YtghdgefkfgikoaaGreatDoor
