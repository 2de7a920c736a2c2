/-
  EditCodes: the law answers true for everything that comes in, as the card says. The listed variables (tables of unicode/utf8) lie as the program's text lays them; the card ties them.
-/
import Derived.Test.YtdplnhkfbmgofaaGreatDoorPf2z1
import Derived.Test.YtdplnhkfbmgofaaGreatDoorRows
import Derived.Test.YtdplnhkfbmgofaaGreatDoorCards
import Derived.Test.YtdplnhkfbmgofaaGreatDoorTie
import Derived.LaidMore
import Derived.Lay
import Derived.SevenTiedAt
import Derived.Stop.Joined
set_option linter.defProp false
set_option linter.unusedSimpArgs false
set_option linter.unusedVariables false
set_option maxRecDepth 100000
namespace Go.Proofs.YtdplnhkfbmgofaaGreatDoor
open Go Go.Pv Go.RowKit
theorem nQ:∀ x,QK j5 x→gB x=some (.v (.bool true)):=by
 exact B6
theorem mX (os:Os) (started:os.Started) (H:Type) (enc:TypeId×Value→H) :
  ReturnsInHanded {} Tryz.checked os 3 .any (fun w args=>(Rows.editCodesSpec.pre enc Tryz.prog Tryz.f3 Rows.editCodesRow.domain false w args∧laidMetH Tryz.prog Rows.editCodesRow.laid w)∧sizedMet enc Tryz.prog Tryz.f3 (OpenSpec.ofChange Rows.editCodesSpec) false w args)
   (Rows.editCodesSpec.post enc Tryz.prog Tryz.f3 false true false false) :=
 TV (C:=Tryz.checked) (X:=fun w _=>laidMetH Tryz.prog Rows.editCodesRow.laid w) (tb:=4) (n:=40) (by kernel_rfl) (by kernel_rfl) (by kernel_rfl) (by kernel_rfl) Tryz.func3 (by kernel_rfl) (by kernel_rfl) rfl
  (fun H ds h=>by
   match ds,(h.trans (by kernel_rfl:Tryz.f3.params.size=1)) with
   | [a0],_=>exact ⟨rfl,rfl,rfl⟩) (by
   have hp:(Tryz.f3.params.toList.all fun t=>M5 Tryz.prog 40 t&&Tryz.prog.readableRec t&&decide (t<Tryz.prog.types.size))=true:=by kernel_rfl
   intro t ht
   have:=List.all_eq_true.1 hp t ht
   simp only[Bool.and_eq_true,decide_eq_true_eq] at this
   exact ⟨this.1.1,this.1.2,this.2⟩) (by kernel_rfl) rfl (by kernel_rfl) BA nQ (by kernel_rfl) os started H enc
  (ChangeSpec.witness_shaped (enc:=enc) (C:=Tryz.checked) (os:=os) (X:=fun w _=>laidMetH Tryz.prog Rows.editCodesRow.laid w) false (World.laidAll Tryz.prog os Rows.editCodesRow.laid) #[.agg #[.int .i64 0,.string ⟨#[]⟩,.string ⟨#[]⟩,.string ⟨#[]⟩,.int .i64 0,.string ⟨#[]⟩,.string ⟨#[]⟩,.int .i64 0,.int .i64 0,.string ⟨#[]⟩,.string ⟨#[]⟩,.int .i64 0,.slice none 0 0,.slice none 0 0,.string ⟨#[]⟩,.int .i64 0,.int .i64 0,.int .i64 0,.int .i64 0,.int .i64 0,.int .i64 0,.int .i64 0,.int .i64 0,.int .i64 0,.string ⟨#[]⟩,.string ⟨#[]⟩,.string ⟨#[]⟩,.int .i64 0,.int .i64 0,.int .i64 0,.string ⟨#[]⟩,.string ⟨#[]⟩,.slice none 0 0,.int .i64 0,.slice none 0 0,.int .i64 0,.string ⟨#[]⟩,.string ⟨#[]⟩]] 8 (World.laidAll_os _ _ _)
   (World.shaped_of_ZipB (by kernel_rfl) (by kernel_rfl)) (by kernel_rfl) (by kernel_rfl) (by kernel_rfl)
   (by rw[MakeChecks.laidMetH_plain _ _ _ (by kernel_rfl)];exact laidMet_laidAll _ (by kernel_rfl) (by kernel_rfl)))
theorem tU:(Rows.editCodesRow.wf (OpenSpec.ofChange Rows.editCodesSpec))=true:=by kernel_rfl
theorem tV:(laidOutB Tryz.pinned.checked.prog)=true:=by kernel_rfl
theorem tW:(mapsRowed Tryz.pinned.checked.prog)=true:=by kernel_rfl
theorem tX:(Tryz.f3.params.all (Tryz.pinned.checked.prog.readableRec ·))=true:=by kernel_rfl
theorem tY:(namedTie Tryz.pinned.checked.prog Rows.editCodesRow.named Rows.editCodesSpec.vars)=true:=by kernel_rfl
theorem tZ:((Rows.editCodesRow.stops == []))=true:=by kernel_rfl
theorem uA:((Tryz.pinned.checked.prog.stops == []))=true:=by kernel_rfl
theorem uB:((Rows.editCodesRow.knobs == []))=true:=by kernel_rfl
theorem uC:((Tryz.pinned.checked.prog.stopKnobs == []))=true:=by kernel_rfl
theorem qL:((Rows.editCodesRow.inPlace == Tryz.pinned.checked.prog.inPlace 3))=true:=by kernel_rfl
theorem qM:((Rows.editCodesRow.unfollowed == Tryz.pinned.checked.prog.unfollowed 3))=true:=by kernel_rfl
theorem qN:((Rows.editCodesRow.recurses == Tryz.pinned.checked.prog.recurses 3))=true:=by kernel_rfl
theorem qO:((Rows.editCodesRow.named == Tryz.pinned.checked.prog.varsNamed 3))=true:=by kernel_rfl
theorem qP:((Rows.editCodesRow.maps == (Tryz.f3.params.toList++Rows.editCodesSpec.plain.varTypes Tryz.pinned.checked.prog).any (Tryz.pinned.checked.prog.mapsRec ·)))=true:=by kernel_rfl
theorem qQ:((Rows.editCodesRow.ifaces == (Tryz.f3.params.toList++Rows.editCodesSpec.plain.varTypes Tryz.pinned.checked.prog).any (Tryz.pinned.checked.prog.ifacesRec ·)))=true:=by kernel_rfl
theorem qR:((Rows.editCodesRow.mapsOut == Tryz.pinned.checked.prog.mapsAmong Tryz.f3.resultTypes.toList))=true:=by kernel_rfl
theorem qS:((Rows.editCodesRow.loops == (Tryz.f3.params.toList++Rows.editCodesSpec.plain.varTypes Tryz.pinned.checked.prog).any (Tryz.pinned.checked.prog.loopsFrom ·)))=true:=by kernel_rfl
theorem qT:((Rows.editCodesRow.wideKeys == (Tryz.f3.params.toList++Rows.editCodesSpec.plain.varTypes Tryz.pinned.checked.prog++Tryz.f3.resultTypes.toList).any (Tryz.pinned.checked.prog.wideKeysFrom ·)))=true:=by kernel_rfl
theorem qU:(Rows.editCodesSpec.vars.all (Tryz.pinned.checked.prog.varReadable ·))=true:=by kernel_rfl
theorem qV:(Tryz.f3.resultTypes.all (fun t=>Tryz.pinned.checked.prog.readableRec t&&decide (t<Tryz.pinned.checked.prog.types.size)))=true:=by kernel_rfl
theorem qW:((Rows.editCodesRow.ifacesOut == Tryz.f3.resultTypes.toList.any (Tryz.pinned.checked.prog.ifacesRec ·)))=true:=by kernel_rfl
theorem qX:((Rows.editCodesRow.loopsOut == Tryz.f3.resultTypes.toList.any (Tryz.pinned.checked.prog.loopsFrom ·)))=true:=by kernel_rfl
theorem qY:((Rows.editCodesRow.plainKeys == Tryz.pinned.checked.prog.plainKeys))=true:=by kernel_rfl
theorem qZ:(Rows.editCodesRow.shortTexts.isNone)=true:=by kernel_rfl
theorem q0:(Tryz.pinned.checked.prog.stopsHeard)=true:=by kernel_rfl
theorem q7:(Tryz.pinned.checked.prog.mayEnter)=true:=by kernel_rfl
theorem q9:((Rows.editCodesRow.lifted == Tryz.pinned.checked.prog.liftsFinal))=true:=by kernel_rfl
theorem rA:((Tryz.pinned.checked.prog.make == some Rows.editCodesRow.make))=true:=by kernel_rfl
theorem rB:((Rows.editCodesRow.kinds == (if Rows.editCodesRow.domain.isEmpty then [] else Tryz.f3.params.toList.map fun t=>match Tryz.pinned.checked.prog.underlying t with|some (.int k)=>some k|_=>none)))=true:=by kernel_rfl
theorem rD:((Rows.editCodesRow.pinned == Rows.editCodesRow.pinnedBy))=true:=by kernel_rfl
theorem rE:((Rows.editCodesRow.veiled == (Tryz.f3.params.toList++Rows.editCodesSpec.plain.varTypes Tryz.pinned.checked.prog++Tryz.f3.resultTypes.toList).any (Tryz.pinned.checked.prog.veiledRec ·)))=true:=by kernel_rfl
theorem rF:(Rows.editCodesRow.veiledFits Tryz.pinned.checked.prog Tryz.f3.params.toList (Tryz.f3.params.toList++Rows.editCodesSpec.plain.varTypes Tryz.pinned.checked.prog++Tryz.f3.resultTypes.toList))=true:=by kernel_rfl
theorem cM {a b:Bool} (h1:a=true) (h2:b=true):(a&&b)=true:=by rw[h1,h2];rfl
theorem yI:joinedFacts Tryz.pinned.checked.prog 3 Tryz.f3 Rows.editCodesSpec Rows.editCodesRow=true:=by
 unfold joinedFacts
 exact cM (cM (cM (cM (cM (cM (cM (cM (cM (cM (cM (cM (cM (cM (cM (cM (cM (cM (cM (cM (cM (cM (cM (cM (cM (cM (cM (cM (cM (cM (cM (tU) tV) tW) tX) tY) tZ) uA) uB) uC) qL) qM) qN) qO) qP) qQ) qR) qS) qT) qU) qV) qW) qX) qY) qZ) q0) q7) q9) rA) rB) rD) rE) rF
theorem pC:Rows.editCodesRow.holds Tryz.pinned (OpenSpec.ofChange Rows.editCodesSpec) :=
 OpenClaim.holds_of_wide 3 Tryz.f3 rfl rfl rfl rfl rfl rfl rfl ⟨rfl,rfl,rfl,rfl,rfl⟩ rfl rfl rfl rfl rfl (by as_aux_lemma=>kernel_rfl) Tryz.func3 yI
  (of_decide_eq_true (by as_aux_lemma=>kernel_rfl)) (by unfold Func.isWrapper;first|(rw[if_pos (by decide +kernel)];kernel_rfl)|(rw[if_neg (by decide +kernel)];exact ⟨rfl,rfl⟩))
  (fun os started H enc _=>mX os started H enc)
theorem editCodes_proved:Rows.EditCodesCardSaid :=
 Claim7.holds_tied_plain_at .later [] [.data,.pinned] true (true, "ffbff763e9f864db457c33b046cb4e673ef6ffe7fa1fdac6e8b2ae9fecd384f9") false pC (fun _ h=>by cases h) (by as_aux_lemma=>kernel_rfl) (fun _ h=>by cases h) editCodes_row_tie rfl ⟨rfl,rfl⟩ (by as_aux_lemma=>kernel_rfl) rfl
  (fun f fn hf hfn=>by
   obtain rfl:f=3:=Option.some.inj ((show Tryz.prog.funcNamed "shipyard/shipyardlaw19.EditCodes" = some 3 by as_aux_lemma=>kernel_rfl).symm.trans hf) |>.symm
   obtain rfl:fn=Tryz.f3:=(Option.some.inj (Tryz.func3.symm.trans hfn)).symm
   exact ⟨by as_aux_lemma=>kernel_rfl,fun j t ht=>by
    have hall:(Tryz.f3.params.toList.all fun u=>!Tryz.prog.wantsStandIn u)=true:=by as_aux_lemma=>kernel_rfl
    have hm:t∈Tryz.f3.params.toList:=by
     have:=Array.mem_of_getElem? ht
     simpa using this
    exact (show Tryz.prog.wantsStandIn t=false by simpa using List.all_eq_true.1 hall t hm)⟩)
  (by as_aux_lemma=>kernel_rfl)
#print axioms editCodes_proved
end Go.Proofs.YtdplnhkfbmgofaaGreatDoor
