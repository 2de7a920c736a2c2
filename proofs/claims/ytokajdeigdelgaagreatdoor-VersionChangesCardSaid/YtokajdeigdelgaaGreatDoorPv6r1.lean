/-
  VersionChanges: the law answers true for everything that comes in, as the card says. The listed variables (tables of unicode/utf8) lie as the program's text lays them; the card ties them.
-/
import Derived.Test.YtokajdeigdelgaaGreatDoorPv6z1
import Derived.Test.YtokajdeigdelgaaGreatDoorRows
import Derived.Test.YtokajdeigdelgaaGreatDoorCards
import Derived.Test.YtokajdeigdelgaaGreatDoorTie
import Derived.LaidMore
import Derived.Lay
import Derived.SevenTiedAt
import Derived.Stop.Joined
set_option linter.defProp false
set_option linter.unusedSimpArgs false
set_option linter.unusedVariables false
set_option maxRecDepth 100000
namespace Go.Proofs.YtokajdeigdelgaaGreatDoor
open Go Go.Pv Go.RowKit
theorem jX:∀ x,QD gG x→eG x=some (.v (.bool true)):=by
 exact wJ
theorem iY (os:Os) (started:os.Started) (H:Type) (enc:TypeId×Value→H) :
  ReturnsInHanded {} Tryz.checked os 3 .any (fun w args=>(Rows.versionChangesSpec.pre enc Tryz.prog Tryz.f3 Rows.versionChangesRow.domain false w args∧laidMetH Tryz.prog Rows.versionChangesRow.laid w)∧sizedMet enc Tryz.prog Tryz.f3 (OpenSpec.ofChange Rows.versionChangesSpec) false w args)
   (Rows.versionChangesSpec.post enc Tryz.prog Tryz.f3 false true false false) :=
 S7 (C:=Tryz.checked) (X:=fun w _=>laidMetH Tryz.prog Rows.versionChangesRow.laid w) (tb:=4) (n:=40) (by kernel_rfl) (by kernel_rfl) (by kernel_rfl) (by kernel_rfl) Tryz.func3 (by kernel_rfl) (by kernel_rfl) rfl
  (fun H ds h=>by
   match ds,(h.trans (by kernel_rfl:Tryz.f3.params.size=2)) with
   | [a0,a1],_=>exact ⟨rfl,rfl,rfl⟩) (by
   have hp:(Tryz.f3.params.toList.all fun t=>M0 Tryz.prog 40 t&&Tryz.prog.readableRec t&&decide (t<Tryz.prog.types.size))=true:=by kernel_rfl
   intro t ht
   have:=List.all_eq_true.1 hp t ht
   simp only[Bool.and_eq_true,decide_eq_true_eq] at this
   exact ⟨this.1.1,this.1.2,this.2⟩) (by kernel_rfl) rfl (by kernel_rfl) v7 jX (by kernel_rfl) os started H enc
  (ChangeSpec.witness_shaped (enc:=enc) (C:=Tryz.checked) (os:=os) (X:=fun w _=>laidMetH Tryz.prog Rows.versionChangesRow.laid w) false (World.laidAll Tryz.prog os Rows.versionChangesRow.laid) #[.agg #[.string ⟨#[]⟩,.slice none 0 0,.slice none 0 0,.slice none 0 0,.slice none 0 0,.slice none 0 0],.agg #[.string ⟨#[]⟩,.slice none 0 0,.slice none 0 0,.slice none 0 0,.slice none 0 0,.slice none 0 0]] 8 (World.laidAll_os _ _ _)
   (World.shaped_of_ZipB (by kernel_rfl) (by kernel_rfl)) (by kernel_rfl) (by kernel_rfl) (by kernel_rfl)
   (by rw[MakeChecks.laidMetH_plain _ _ _ (by kernel_rfl)];exact laidMet_laidAll _ (by kernel_rfl) (by kernel_rfl)))
theorem nL:(Rows.versionChangesRow.wf (OpenSpec.ofChange Rows.versionChangesSpec))=true:=by kernel_rfl
theorem nM:(laidOutB Tryz.pinned.checked.prog)=true:=by kernel_rfl
theorem nN:(mapsRowed Tryz.pinned.checked.prog)=true:=by kernel_rfl
theorem nO:(Tryz.f3.params.all (Tryz.pinned.checked.prog.readableRec ·))=true:=by kernel_rfl
theorem nP:(namedTie Tryz.pinned.checked.prog Rows.versionChangesRow.named Rows.versionChangesSpec.vars)=true:=by kernel_rfl
theorem nQ:((Rows.versionChangesRow.stops == []))=true:=by kernel_rfl
theorem nR:((Tryz.pinned.checked.prog.stops == []))=true:=by kernel_rfl
theorem nS:((Rows.versionChangesRow.knobs == []))=true:=by kernel_rfl
theorem nT:((Tryz.pinned.checked.prog.stopKnobs == []))=true:=by kernel_rfl
theorem lK:((Rows.versionChangesRow.inPlace == Tryz.pinned.checked.prog.inPlace 3))=true:=by kernel_rfl
theorem lL:((Rows.versionChangesRow.unfollowed == Tryz.pinned.checked.prog.unfollowed 3))=true:=by kernel_rfl
theorem lM:((Rows.versionChangesRow.recurses == Tryz.pinned.checked.prog.recurses 3))=true:=by kernel_rfl
theorem lO:((Rows.versionChangesRow.named == Tryz.pinned.checked.prog.varsNamed 3))=true:=by kernel_rfl
theorem lR:((Rows.versionChangesRow.maps == (Tryz.f3.params.toList++Rows.versionChangesSpec.plain.varTypes Tryz.pinned.checked.prog).any (Tryz.pinned.checked.prog.mapsRec ·)))=true:=by kernel_rfl
theorem lS:((Rows.versionChangesRow.ifaces == (Tryz.f3.params.toList++Rows.versionChangesSpec.plain.varTypes Tryz.pinned.checked.prog).any (Tryz.pinned.checked.prog.ifacesRec ·)))=true:=by kernel_rfl
theorem lT:((Rows.versionChangesRow.mapsOut == Tryz.pinned.checked.prog.mapsAmong Tryz.f3.resultTypes.toList))=true:=by kernel_rfl
theorem lU:((Rows.versionChangesRow.loops == (Tryz.f3.params.toList++Rows.versionChangesSpec.plain.varTypes Tryz.pinned.checked.prog).any (Tryz.pinned.checked.prog.loopsFrom ·)))=true:=by kernel_rfl
theorem lV:((Rows.versionChangesRow.wideKeys == (Tryz.f3.params.toList++Rows.versionChangesSpec.plain.varTypes Tryz.pinned.checked.prog++Tryz.f3.resultTypes.toList).any (Tryz.pinned.checked.prog.wideKeysFrom ·)))=true:=by kernel_rfl
theorem lW:(Rows.versionChangesSpec.vars.all (Tryz.pinned.checked.prog.varReadable ·))=true:=by kernel_rfl
theorem lX:(Tryz.f3.resultTypes.all (fun t=>Tryz.pinned.checked.prog.readableRec t&&decide (t<Tryz.pinned.checked.prog.types.size)))=true:=by kernel_rfl
theorem lY:((Rows.versionChangesRow.ifacesOut == Tryz.f3.resultTypes.toList.any (Tryz.pinned.checked.prog.ifacesRec ·)))=true:=by kernel_rfl
theorem lZ:((Rows.versionChangesRow.loopsOut == Tryz.f3.resultTypes.toList.any (Tryz.pinned.checked.prog.loopsFrom ·)))=true:=by kernel_rfl
theorem l6:((Rows.versionChangesRow.plainKeys == Tryz.pinned.checked.prog.plainKeys))=true:=by kernel_rfl
theorem l7:(Rows.versionChangesRow.shortTexts.isNone)=true:=by kernel_rfl
theorem l8:(Tryz.pinned.checked.prog.stopsHeard)=true:=by kernel_rfl
theorem l9:(Tryz.pinned.checked.prog.mayEnter)=true:=by kernel_rfl
theorem mA:((Rows.versionChangesRow.lifted == Tryz.pinned.checked.prog.liftsFinal))=true:=by kernel_rfl
theorem mB:((Tryz.pinned.checked.prog.make == some Rows.versionChangesRow.make))=true:=by kernel_rfl
theorem mC:((Rows.versionChangesRow.kinds == (if Rows.versionChangesRow.domain.isEmpty then [] else Tryz.f3.params.toList.map fun t=>match Tryz.pinned.checked.prog.underlying t with|some (.int k)=>some k|_=>none)))=true:=by kernel_rfl
theorem mD:((Rows.versionChangesRow.pinned == Rows.versionChangesRow.pinnedBy))=true:=by kernel_rfl
theorem mE:((Rows.versionChangesRow.veiled == (Tryz.f3.params.toList++Rows.versionChangesSpec.plain.varTypes Tryz.pinned.checked.prog++Tryz.f3.resultTypes.toList).any (Tryz.pinned.checked.prog.veiledRec ·)))=true:=by kernel_rfl
theorem mF:(Rows.versionChangesRow.veiledFits Tryz.pinned.checked.prog Tryz.f3.params.toList (Tryz.f3.params.toList++Rows.versionChangesSpec.plain.varTypes Tryz.pinned.checked.prog++Tryz.f3.resultTypes.toList))=true:=by kernel_rfl
theorem cJ {a b:Bool} (h1:a=true) (h2:b=true):(a&&b)=true:=by rw[h1,h2];rfl
theorem pS:joinedFacts Tryz.pinned.checked.prog 3 Tryz.f3 Rows.versionChangesSpec Rows.versionChangesRow=true:=by
 unfold joinedFacts
 exact cJ (cJ (cJ (cJ (cJ (cJ (cJ (cJ (cJ (cJ (cJ (cJ (cJ (cJ (cJ (cJ (cJ (cJ (cJ (cJ (cJ (cJ (cJ (cJ (cJ (cJ (cJ (cJ (cJ (cJ (cJ (nL) nM) nN) nO) nP) nQ) nR) nS) nT) lK) lL) lM) lO) lR) lS) lT) lU) lV) lW) lX) lY) lZ) l6) l7) l8) l9) mA) mB) mC) mD) mE) mF
theorem kN:Rows.versionChangesRow.holds Tryz.pinned (OpenSpec.ofChange Rows.versionChangesSpec) :=
 OpenClaim.holds_of_wide 3 Tryz.f3 rfl rfl rfl rfl rfl rfl rfl ⟨rfl,rfl,rfl,rfl,rfl⟩ rfl rfl rfl rfl rfl (by as_aux_lemma=>kernel_rfl) Tryz.func3 pS
  (of_decide_eq_true (by as_aux_lemma=>kernel_rfl)) (by unfold Func.isWrapper;first|(rw[if_pos (by decide +kernel)];kernel_rfl)|(rw[if_neg (by decide +kernel)];exact ⟨rfl,rfl⟩))
  (fun os started H enc _=>iY os started H enc)
theorem versionChanges_proved:Rows.VersionChangesCardSaid :=
 Claim7.holds_tied_plain_at .later [] [.data,.pinned] true (true, "1ba3c7cc732888da09817b228d027b7de8dfe1919ee9ade1cf6b8c777a51078d") false kN (fun _ h=>by cases h) (by as_aux_lemma=>kernel_rfl) (fun _ h=>by cases h) versionChanges_row_tie rfl ⟨rfl,rfl⟩ (by as_aux_lemma=>kernel_rfl) rfl
  (fun f fn hf hfn=>by
   obtain rfl:f=3:=Option.some.inj ((show Tryz.prog.funcNamed "shipyard/shipyardlaw21.VersionChanges" = some 3 by as_aux_lemma=>kernel_rfl).symm.trans hf) |>.symm
   obtain rfl:fn=Tryz.f3:=(Option.some.inj (Tryz.func3.symm.trans hfn)).symm
   exact ⟨by as_aux_lemma=>kernel_rfl,fun j t ht=>by
    have hall:(Tryz.f3.params.toList.all fun u=>!Tryz.prog.wantsStandIn u)=true:=by as_aux_lemma=>kernel_rfl
    have hm:t∈Tryz.f3.params.toList:=by
     have:=Array.mem_of_getElem? ht
     simpa using this
    exact (show Tryz.prog.wantsStandIn t=false by simpa using List.all_eq_true.1 hall t hm)⟩)
  (by as_aux_lemma=>kernel_rfl)
#print axioms versionChanges_proved
end Go.Proofs.YtokajdeigdelgaaGreatDoor
