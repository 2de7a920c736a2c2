/-
  EditReads: the law answers true for everything that comes in, as the card says. The listed variables (tables of unicode/utf8) lie as the program's text lays them; the card ties them.
-/
import Derived.Test.YtdeckddpmegjeaaGreatDoorPv4z1
import Derived.Test.YtdeckddpmegjeaaGreatDoorRows
import Derived.Test.YtdeckddpmegjeaaGreatDoorCards
import Derived.Test.YtdeckddpmegjeaaGreatDoorTie
import Derived.LaidMore
import Derived.Lay
import Derived.SevenTiedAt
import Derived.Stop.Joined
set_option linter.defProp false
set_option linter.unusedSimpArgs false
set_option linter.unusedVariables false
set_option maxRecDepth 100000
namespace Go.Proofs.YtdeckddpmegjeaaGreatDoor
open Go Go.Pv Go.RowKit
theorem nV:∀ x,RM kL x→gO x=some (.v (.bool true)):=by
 exact CY
theorem nC (os:Os) (started:os.Started) (H:Type) (enc:TypeId×Value→H) :
  ReturnsInHanded {} Tryz.checked os 4 .any (fun w args=>(Rows.editReadsSpec.pre enc Tryz.prog Tryz.f4 Rows.editReadsRow.domain false w args∧laidMetH Tryz.prog Rows.editReadsRow.laid w)∧sizedMet enc Tryz.prog Tryz.f4 (OpenSpec.ofChange Rows.editReadsSpec) false w args)
   (Rows.editReadsSpec.post enc Tryz.prog Tryz.f4 false true false false) :=
 UL (C:=Tryz.checked) (X:=fun w _=>laidMetH Tryz.prog Rows.editReadsRow.laid w) (tb:=4) (n:=40) (by kernel_rfl) (by kernel_rfl) (by kernel_rfl) (by kernel_rfl) Tryz.func4 (by kernel_rfl) (by kernel_rfl) rfl
  (fun H ds h=>by
   match ds,(h.trans (by kernel_rfl:Tryz.f4.params.size=2)) with
   | [a0,a1],_=>exact ⟨rfl,rfl,rfl⟩) (by
   have hp:(Tryz.f4.params.toList.all fun t=>OU Tryz.prog 40 t&&Tryz.prog.readableRec t&&decide (t<Tryz.prog.types.size))=true:=by kernel_rfl
   intro t ht
   have:=List.all_eq_true.1 hp t ht
   simp only[Bool.and_eq_true,decide_eq_true_eq] at this
   exact ⟨this.1.1,this.1.2,this.2⟩) (by kernel_rfl) rfl (by kernel_rfl) B0 nV (by kernel_rfl) os started H enc
  (ChangeSpec.witness_shaped (enc:=enc) (C:=Tryz.checked) (os:=os) (X:=fun w _=>laidMetH Tryz.prog Rows.editReadsRow.laid w) false (World.laidAll Tryz.prog os Rows.editReadsRow.laid) #[.string ⟨#[]⟩,.int .u8 0] 8 (World.laidAll_os _ _ _)
   (World.shaped_of_ZipB (by kernel_rfl) (by kernel_rfl)) (by kernel_rfl) (by kernel_rfl) (by kernel_rfl)
   (by rw[MakeChecks.laidMetH_plain _ _ _ (by kernel_rfl)];exact laidMet_laidAll _ (by kernel_rfl) (by kernel_rfl)))
theorem uE:(Rows.editReadsRow.wf (OpenSpec.ofChange Rows.editReadsSpec))=true:=by kernel_rfl
theorem uF:(laidOutB Tryz.pinned.checked.prog)=true:=by kernel_rfl
theorem uG:(mapsRowed Tryz.pinned.checked.prog)=true:=by kernel_rfl
theorem uH:(Tryz.f4.params.all (Tryz.pinned.checked.prog.readableRec ·))=true:=by kernel_rfl
theorem uI:(namedTie Tryz.pinned.checked.prog Rows.editReadsRow.named Rows.editReadsSpec.vars)=true:=by kernel_rfl
theorem uJ:((Rows.editReadsRow.stops == []))=true:=by kernel_rfl
theorem uK:((Tryz.pinned.checked.prog.stops == []))=true:=by kernel_rfl
theorem uL:((Rows.editReadsRow.knobs == []))=true:=by kernel_rfl
theorem uM:((Tryz.pinned.checked.prog.stopKnobs == []))=true:=by kernel_rfl
theorem qP:((Rows.editReadsRow.inPlace == Tryz.pinned.checked.prog.inPlace 4))=true:=by kernel_rfl
theorem qQ:((Rows.editReadsRow.unfollowed == Tryz.pinned.checked.prog.unfollowed 4))=true:=by kernel_rfl
theorem qR:((Rows.editReadsRow.recurses == Tryz.pinned.checked.prog.recurses 4))=true:=by kernel_rfl
theorem qS:((Rows.editReadsRow.named == Tryz.pinned.checked.prog.varsNamed 4))=true:=by kernel_rfl
theorem qT:((Rows.editReadsRow.maps == (Tryz.f4.params.toList++Rows.editReadsSpec.plain.varTypes Tryz.pinned.checked.prog).any (Tryz.pinned.checked.prog.mapsRec ·)))=true:=by kernel_rfl
theorem qU:((Rows.editReadsRow.ifaces == (Tryz.f4.params.toList++Rows.editReadsSpec.plain.varTypes Tryz.pinned.checked.prog).any (Tryz.pinned.checked.prog.ifacesRec ·)))=true:=by kernel_rfl
theorem qV:((Rows.editReadsRow.mapsOut == Tryz.pinned.checked.prog.mapsAmong Tryz.f4.resultTypes.toList))=true:=by kernel_rfl
theorem qW:((Rows.editReadsRow.loops == (Tryz.f4.params.toList++Rows.editReadsSpec.plain.varTypes Tryz.pinned.checked.prog).any (Tryz.pinned.checked.prog.loopsFrom ·)))=true:=by kernel_rfl
theorem qX:((Rows.editReadsRow.wideKeys == (Tryz.f4.params.toList++Rows.editReadsSpec.plain.varTypes Tryz.pinned.checked.prog++Tryz.f4.resultTypes.toList).any (Tryz.pinned.checked.prog.wideKeysFrom ·)))=true:=by kernel_rfl
theorem qY:(Rows.editReadsSpec.vars.all (Tryz.pinned.checked.prog.varReadable ·))=true:=by kernel_rfl
theorem qZ:(Tryz.f4.resultTypes.all (fun t=>Tryz.pinned.checked.prog.readableRec t&&decide (t<Tryz.pinned.checked.prog.types.size)))=true:=by kernel_rfl
theorem q0:((Rows.editReadsRow.ifacesOut == Tryz.f4.resultTypes.toList.any (Tryz.pinned.checked.prog.ifacesRec ·)))=true:=by kernel_rfl
theorem q7:((Rows.editReadsRow.loopsOut == Tryz.f4.resultTypes.toList.any (Tryz.pinned.checked.prog.loopsFrom ·)))=true:=by kernel_rfl
theorem q9:((Rows.editReadsRow.plainKeys == Tryz.pinned.checked.prog.plainKeys))=true:=by kernel_rfl
theorem rA:(Rows.editReadsRow.shortTexts.isNone)=true:=by kernel_rfl
theorem rB:(Tryz.pinned.checked.prog.stopsHeard)=true:=by kernel_rfl
theorem rC:(Tryz.pinned.checked.prog.mayEnter)=true:=by kernel_rfl
theorem rD:((Rows.editReadsRow.lifted == Tryz.pinned.checked.prog.liftsFinal))=true:=by kernel_rfl
theorem rE:((Tryz.pinned.checked.prog.make == some Rows.editReadsRow.make))=true:=by kernel_rfl
theorem rF:((Rows.editReadsRow.kinds == (if Rows.editReadsRow.domain.isEmpty then [] else Tryz.f4.params.toList.map fun t=>match Tryz.pinned.checked.prog.underlying t with|some (.int k)=>some k|_=>none)))=true:=by kernel_rfl
theorem rG:((Rows.editReadsRow.pinned == Rows.editReadsRow.pinnedBy))=true:=by kernel_rfl
theorem rH:((Rows.editReadsRow.veiled == (Tryz.f4.params.toList++Rows.editReadsSpec.plain.varTypes Tryz.pinned.checked.prog++Tryz.f4.resultTypes.toList).any (Tryz.pinned.checked.prog.veiledRec ·)))=true:=by kernel_rfl
theorem rJ:(Rows.editReadsRow.veiledFits Tryz.pinned.checked.prog Tryz.f4.params.toList (Tryz.f4.params.toList++Rows.editReadsSpec.plain.varTypes Tryz.pinned.checked.prog++Tryz.f4.resultTypes.toList))=true:=by kernel_rfl
theorem cY {a b:Bool} (h1:a=true) (h2:b=true):(a&&b)=true:=by rw[h1,h2];rfl
theorem zM:joinedFacts Tryz.pinned.checked.prog 4 Tryz.f4 Rows.editReadsSpec Rows.editReadsRow=true:=by
 unfold joinedFacts
 exact cY (cY (cY (cY (cY (cY (cY (cY (cY (cY (cY (cY (cY (cY (cY (cY (cY (cY (cY (cY (cY (cY (cY (cY (cY (cY (cY (cY (cY (cY (cY (uE) uF) uG) uH) uI) uJ) uK) uL) uM) qP) qQ) qR) qS) qT) qU) qV) qW) qX) qY) qZ) q0) q7) q9) rA) rB) rC) rD) rE) rF) rG) rH) rJ
theorem pD:Rows.editReadsRow.holds Tryz.pinned (OpenSpec.ofChange Rows.editReadsSpec) :=
 OpenClaim.holds_of_wide 4 Tryz.f4 rfl rfl rfl rfl rfl rfl rfl ⟨rfl,rfl,rfl,rfl,rfl⟩ rfl rfl rfl rfl rfl (by as_aux_lemma=>kernel_rfl) Tryz.func4 zM
  (of_decide_eq_true (by as_aux_lemma=>kernel_rfl)) (by unfold Func.isWrapper;first|(rw[if_pos (by decide +kernel)];kernel_rfl)|(rw[if_neg (by decide +kernel)];exact ⟨rfl,rfl⟩))
  (fun os started H enc _=>nC os started H enc)
theorem editReads_proved:Rows.EditReadsCardSaid :=
 Claim7.holds_tied_plain_at .later [] [.data,.pinned] true (true, "491e075efef4ea9b785867cfe6d49fc3da394d7b244ad3ef030e7757421b994d") false pD (fun _ h=>by cases h) (by as_aux_lemma=>kernel_rfl) (fun _ h=>by cases h) editReads_row_tie rfl ⟨rfl,rfl⟩ (by as_aux_lemma=>kernel_rfl) rfl
  (fun f fn hf hfn=>by
   obtain rfl:f=4:=Option.some.inj ((show Tryz.prog.funcNamed "shipyard/shipyardlaw19.EditReads" = some 4 by as_aux_lemma=>kernel_rfl).symm.trans hf) |>.symm
   obtain rfl:fn=Tryz.f4:=(Option.some.inj (Tryz.func4.symm.trans hfn)).symm
   exact ⟨by as_aux_lemma=>kernel_rfl,fun j t ht=>by
    have hall:(Tryz.f4.params.toList.all fun u=>!Tryz.prog.wantsStandIn u)=true:=by as_aux_lemma=>kernel_rfl
    have hm:t∈Tryz.f4.params.toList:=by
     have:=Array.mem_of_getElem? ht
     simpa using this
    exact (show Tryz.prog.wantsStandIn t=false by simpa using List.all_eq_true.1 hall t hm)⟩)
  (by as_aux_lemma=>kernel_rfl)
#print axioms editReads_proved
end Go.Proofs.YtdeckddpmegjeaaGreatDoor
