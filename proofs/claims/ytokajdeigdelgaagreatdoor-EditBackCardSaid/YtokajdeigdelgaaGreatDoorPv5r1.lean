/-
  EditBack: the law answers true for everything that comes in, as the card says. The listed variables (tables of unicode/utf8) lie as the program's text lays them; the card ties them.
-/
import Derived.Test.YtokajdeigdelgaaGreatDoorPv5z1
import Derived.Test.YtokajdeigdelgaaGreatDoorRows
import Derived.Test.YtokajdeigdelgaaGreatDoorCards
import Derived.Test.YtokajdeigdelgaaGreatDoorTie
import Derived.LaidMore
import Derived.Lay
import Derived.SevenTiedAt
import Derived.Stop.Joined
set_option linter.defProp false
set_option linter.unusedSimpArgs false
set_option linter.unusedVariables false
set_option maxRecDepth 100000
namespace Go.Proofs.YtokajdeigdelgaaGreatDoor
open Go Go.Pv Go.RowKit
theorem qO:∀ x,UQ nF x→fG x=some (.v (.bool true)):=by
 exact HZ
theorem oZ (os:Os) (started:os.Started) (H:Type) (enc:TypeId×Value→H) :
  ReturnsInHanded {} Tryz.checked os 4 .any (fun w args=>(Rows.editBackSpec.pre enc Tryz.prog Tryz.f4 Rows.editBackRow.domain false w args∧laidMetH Tryz.prog Rows.editBackRow.laid w)∧sizedMet enc Tryz.prog Tryz.f4 (OpenSpec.ofChange Rows.editBackSpec) false w args)
   (Rows.editBackSpec.post enc Tryz.prog Tryz.f4 false true false false) :=
 XZ (C:=Tryz.checked) (X:=fun w _=>laidMetH Tryz.prog Rows.editBackRow.laid w) (tb:=4) (n:=40) (by kernel_rfl) (by kernel_rfl) (by kernel_rfl) (by kernel_rfl) Tryz.func4 (by kernel_rfl) (by kernel_rfl) rfl
  (fun H ds h=>by
   match ds,(h.trans (by kernel_rfl:Tryz.f4.params.size=2)) with
   | [a0,a1],_=>exact ⟨rfl,rfl,rfl⟩) (by
   have hp:(Tryz.f4.params.toList.all fun t=>RI Tryz.prog 40 t&&Tryz.prog.readableRec t&&decide (t<Tryz.prog.types.size))=true:=by kernel_rfl
   intro t ht
   have:=List.all_eq_true.1 hp t ht
   simp only[Bool.and_eq_true,decide_eq_true_eq] at this
   exact ⟨this.1.1,this.1.2,this.2⟩) (by kernel_rfl) rfl (by kernel_rfl) GZ qO (by kernel_rfl) os started H enc
  (ChangeSpec.witness_shaped (enc:=enc) (C:=Tryz.checked) (os:=os) (X:=fun w _=>laidMetH Tryz.prog Rows.editBackRow.laid w) false (World.laidAll Tryz.prog os Rows.editBackRow.laid) #[.agg #[.int .i64 0,.string ⟨#[]⟩,.string ⟨#[]⟩,.string ⟨#[]⟩,.int .i64 0,.string ⟨#[]⟩,.string ⟨#[]⟩,.int .i64 0,.int .i64 0,.string ⟨#[]⟩,.string ⟨#[]⟩,.int .i64 0,.slice none 0 0,.slice none 0 0,.string ⟨#[]⟩,.int .i64 0,.int .i64 0,.int .i64 0,.int .i64 0,.int .i64 0,.int .i64 0,.int .i64 0,.int .i64 0,.int .i64 0,.string ⟨#[]⟩,.string ⟨#[]⟩,.string ⟨#[]⟩,.int .i64 0,.int .i64 0,.int .i64 0,.string ⟨#[]⟩,.string ⟨#[]⟩,.slice none 0 0,.int .i64 0,.slice none 0 0,.int .i64 0,.string ⟨#[]⟩,.string ⟨#[]⟩],.string ⟨#[]⟩] 8 (World.laidAll_os _ _ _)
   (World.shaped_of_ZipB (by kernel_rfl) (by kernel_rfl)) (by kernel_rfl) (by kernel_rfl) (by kernel_rfl)
   (by rw[MakeChecks.laidMetH_plain _ _ _ (by kernel_rfl)];exact laidMet_laidAll _ (by kernel_rfl) (by kernel_rfl)))
theorem xN:(Rows.editBackRow.wf (OpenSpec.ofChange Rows.editBackSpec))=true:=by kernel_rfl
theorem xO:(laidOutB Tryz.pinned.checked.prog)=true:=by kernel_rfl
theorem xP:(mapsRowed Tryz.pinned.checked.prog)=true:=by kernel_rfl
theorem xQ:(Tryz.f4.params.all (Tryz.pinned.checked.prog.readableRec ·))=true:=by kernel_rfl
theorem xR:(namedTie Tryz.pinned.checked.prog Rows.editBackRow.named Rows.editBackSpec.vars)=true:=by kernel_rfl
theorem xS:((Rows.editBackRow.stops == []))=true:=by kernel_rfl
theorem xT:((Tryz.pinned.checked.prog.stops == []))=true:=by kernel_rfl
theorem xU:((Rows.editBackRow.knobs == []))=true:=by kernel_rfl
theorem xV:((Tryz.pinned.checked.prog.stopKnobs == []))=true:=by kernel_rfl
theorem vF:((Rows.editBackRow.inPlace == Tryz.pinned.checked.prog.inPlace 4))=true:=by kernel_rfl
theorem vG:((Rows.editBackRow.unfollowed == Tryz.pinned.checked.prog.unfollowed 4))=true:=by kernel_rfl
theorem vH:((Rows.editBackRow.recurses == Tryz.pinned.checked.prog.recurses 4))=true:=by kernel_rfl
theorem vI:((Rows.editBackRow.named == Tryz.pinned.checked.prog.varsNamed 4))=true:=by kernel_rfl
theorem vJ:((Rows.editBackRow.maps == (Tryz.f4.params.toList++Rows.editBackSpec.plain.varTypes Tryz.pinned.checked.prog).any (Tryz.pinned.checked.prog.mapsRec ·)))=true:=by kernel_rfl
theorem vK:((Rows.editBackRow.ifaces == (Tryz.f4.params.toList++Rows.editBackSpec.plain.varTypes Tryz.pinned.checked.prog).any (Tryz.pinned.checked.prog.ifacesRec ·)))=true:=by kernel_rfl
theorem vL:((Rows.editBackRow.mapsOut == Tryz.pinned.checked.prog.mapsAmong Tryz.f4.resultTypes.toList))=true:=by kernel_rfl
theorem vM:((Rows.editBackRow.loops == (Tryz.f4.params.toList++Rows.editBackSpec.plain.varTypes Tryz.pinned.checked.prog).any (Tryz.pinned.checked.prog.loopsFrom ·)))=true:=by kernel_rfl
theorem vN:((Rows.editBackRow.wideKeys == (Tryz.f4.params.toList++Rows.editBackSpec.plain.varTypes Tryz.pinned.checked.prog++Tryz.f4.resultTypes.toList).any (Tryz.pinned.checked.prog.wideKeysFrom ·)))=true:=by kernel_rfl
theorem vO:(Rows.editBackSpec.vars.all (Tryz.pinned.checked.prog.varReadable ·))=true:=by kernel_rfl
theorem vP:(Tryz.f4.resultTypes.all (fun t=>Tryz.pinned.checked.prog.readableRec t&&decide (t<Tryz.pinned.checked.prog.types.size)))=true:=by kernel_rfl
theorem vQ:((Rows.editBackRow.ifacesOut == Tryz.f4.resultTypes.toList.any (Tryz.pinned.checked.prog.ifacesRec ·)))=true:=by kernel_rfl
theorem vR:((Rows.editBackRow.loopsOut == Tryz.f4.resultTypes.toList.any (Tryz.pinned.checked.prog.loopsFrom ·)))=true:=by kernel_rfl
theorem vS:((Rows.editBackRow.plainKeys == Tryz.pinned.checked.prog.plainKeys))=true:=by kernel_rfl
theorem vT:(Rows.editBackRow.shortTexts.isNone)=true:=by kernel_rfl
theorem vU:(Tryz.pinned.checked.prog.stopsHeard)=true:=by kernel_rfl
theorem vV:(Tryz.pinned.checked.prog.mayEnter)=true:=by kernel_rfl
theorem vW:((Rows.editBackRow.lifted == Tryz.pinned.checked.prog.liftsFinal))=true:=by kernel_rfl
theorem vX:((Tryz.pinned.checked.prog.make == some Rows.editBackRow.make))=true:=by kernel_rfl
theorem vY:((Rows.editBackRow.kinds == (if Rows.editBackRow.domain.isEmpty then [] else Tryz.f4.params.toList.map fun t=>match Tryz.pinned.checked.prog.underlying t with|some (.int k)=>some k|_=>none)))=true:=by kernel_rfl
theorem vZ:((Rows.editBackRow.pinned == Rows.editBackRow.pinnedBy))=true:=by kernel_rfl
theorem v7:((Rows.editBackRow.veiled == (Tryz.f4.params.toList++Rows.editBackSpec.plain.varTypes Tryz.pinned.checked.prog++Tryz.f4.resultTypes.toList).any (Tryz.pinned.checked.prog.veiledRec ·)))=true:=by kernel_rfl
theorem v8:(Rows.editBackRow.veiledFits Tryz.pinned.checked.prog Tryz.f4.params.toList (Tryz.f4.params.toList++Rows.editBackSpec.plain.varTypes Tryz.pinned.checked.prog++Tryz.f4.resultTypes.toList))=true:=by kernel_rfl
theorem cY {a b:Bool} (h1:a=true) (h2:b=true):(a&&b)=true:=by rw[h1,h2];rfl
theorem EF:joinedFacts Tryz.pinned.checked.prog 4 Tryz.f4 Rows.editBackSpec Rows.editBackRow=true:=by
 unfold joinedFacts
 exact cY (cY (cY (cY (cY (cY (cY (cY (cY (cY (cY (cY (cY (cY (cY (cY (cY (cY (cY (cY (cY (cY (cY (cY (cY (cY (cY (cY (cY (cY (cY (xN) xO) xP) xQ) xR) xS) xT) xU) xV) vF) vG) vH) vI) vJ) vK) vL) vM) vN) vO) vP) vQ) vR) vS) vT) vU) vV) vW) vX) vY) vZ) v7) v8
theorem sF:Rows.editBackRow.holds Tryz.pinned (OpenSpec.ofChange Rows.editBackSpec) :=
 OpenClaim.holds_of_wide 4 Tryz.f4 rfl rfl rfl rfl rfl rfl rfl ⟨rfl,rfl,rfl,rfl,rfl⟩ rfl rfl rfl rfl rfl (by as_aux_lemma=>kernel_rfl) Tryz.func4 EF
  (of_decide_eq_true (by as_aux_lemma=>kernel_rfl)) (by unfold Func.isWrapper;first|(rw[if_pos (by decide +kernel)];kernel_rfl)|(rw[if_neg (by decide +kernel)];exact ⟨rfl,rfl⟩))
  (fun os started H enc _=>oZ os started H enc)
theorem editBack_proved:Rows.EditBackCardSaid :=
 Claim7.holds_tied_plain_at .later [] [.data,.pinned] true (true, "1ba3c7cc732888da09817b228d027b7de8dfe1919ee9ade1cf6b8c777a51078d") false sF (fun _ h=>by cases h) (by as_aux_lemma=>kernel_rfl) (fun _ h=>by cases h) editBack_row_tie rfl ⟨rfl,rfl⟩ (by as_aux_lemma=>kernel_rfl) rfl
  (fun f fn hf hfn=>by
   obtain rfl:f=4:=Option.some.inj ((show Tryz.prog.funcNamed "shipyard/shipyardlaw19.EditBack" = some 4 by as_aux_lemma=>kernel_rfl).symm.trans hf) |>.symm
   obtain rfl:fn=Tryz.f4:=(Option.some.inj (Tryz.func4.symm.trans hfn)).symm
   exact ⟨by as_aux_lemma=>kernel_rfl,fun j t ht=>by
    have hall:(Tryz.f4.params.toList.all fun u=>!Tryz.prog.wantsStandIn u)=true:=by as_aux_lemma=>kernel_rfl
    have hm:t∈Tryz.f4.params.toList:=by
     have:=Array.mem_of_getElem? ht
     simpa using this
    exact (show Tryz.prog.wantsStandIn t=false by simpa using List.all_eq_true.1 hall t hm)⟩)
  (by as_aux_lemma=>kernel_rfl)
#print axioms editBack_proved
end Go.Proofs.YtokajdeigdelgaaGreatDoor
