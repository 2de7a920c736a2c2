/-
  ChangeDecodes: the law answers true for everything that comes in, as the card says. The listed variables (tables of unicode/utf8) lie as the program's text lays them; the card ties them.
-/
import Derived.Test.YtipdohmdckdoeaaGreatDoorVaz4
import Derived.Test.YtipdohmdckdoeaaGreatDoorRows
import Derived.Test.YtipdohmdckdoeaaGreatDoorCards
import Derived.Test.YtipdohmdckdoeaaGreatDoorTie
import Derived.LaidMore
import Derived.Lay
import Derived.SevenTiedAt
import Derived.Stop.Joined
set_option linter.defProp false
set_option linter.unusedSimpArgs false
set_option linter.unusedVariables false
set_option maxRecDepth 100000
namespace Go.Proofs.YtipdohmdckdoeaaGreatDoor
open Go Go.Pv Go.RowKit
theorem nR:∀ x,U7 jV x→gF x=some (.v (.bool true)):=by
 exact DW
theorem mM (os:Os) (started:os.Started) (H:Type) (enc:TypeId×Value→H) :
  ReturnsInHanded {} Tryz.checked os 3 .any (fun w args=>(Rows.changeDecodesSpec.pre enc Tryz.prog Tryz.f3 Rows.changeDecodesRow.domain false w args∧laidMetH Tryz.prog Rows.changeDecodesRow.laid w)∧sizedMet enc Tryz.prog Tryz.f3 (OpenSpec.ofChange Rows.changeDecodesSpec) false w args)
   (Rows.changeDecodesSpec.post enc Tryz.prog Tryz.f3 false true false false) :=
 AC4 (C:=Tryz.checked) (X:=fun w _=>laidMetH Tryz.prog Rows.changeDecodesRow.laid w) (tb:=4) (n:=40) (by kernel_rfl) (by kernel_rfl) (by kernel_rfl) (by kernel_rfl) Tryz.func3 (by kernel_rfl) (by kernel_rfl) rfl
  (fun H ds h=>by
   match ds,(h.trans (by kernel_rfl:Tryz.f3.params.size=1)) with
   | [a0],_=>exact ⟨rfl,rfl,rfl⟩) (by
   have hp:(Tryz.f3.params.toList.all fun t=>YL Tryz.prog 40 t&&Tryz.prog.readableRec t&&decide (t<Tryz.prog.types.size))=true:=by kernel_rfl
   intro t ht
   have:=List.all_eq_true.1 hp t ht
   simp only[Bool.and_eq_true,decide_eq_true_eq] at this
   exact ⟨this.1.1,this.1.2,this.2⟩) (by kernel_rfl) rfl (by kernel_rfl) DQ nR (by kernel_rfl) os started H enc
  (ChangeSpec.witness_shaped (enc:=enc) (C:=Tryz.checked) (os:=os) (X:=fun w _=>laidMetH Tryz.prog Rows.changeDecodesRow.laid w) false (World.laidAll Tryz.prog os Rows.changeDecodesRow.laid) #[.string ⟨#[]⟩] 8 (World.laidAll_os _ _ _)
   (World.shaped_of_ZipB (by kernel_rfl) (by kernel_rfl)) (by kernel_rfl) (by kernel_rfl) (by kernel_rfl)
   (by rw[MakeChecks.laidMetH_plain _ _ _ (by kernel_rfl)];exact laidMet_laidAll _ (by kernel_rfl) (by kernel_rfl)))
theorem tC:(Rows.changeDecodesRow.wf (OpenSpec.ofChange Rows.changeDecodesSpec))=true:=by kernel_rfl
theorem tD:(laidOutB Tryz.pinned.checked.prog)=true:=by kernel_rfl
theorem tE:(mapsRowed Tryz.pinned.checked.prog)=true:=by kernel_rfl
theorem tF:(Tryz.f3.params.all (Tryz.pinned.checked.prog.readableRec ·))=true:=by kernel_rfl
theorem tG:(namedTie Tryz.pinned.checked.prog Rows.changeDecodesRow.named Rows.changeDecodesSpec.vars)=true:=by kernel_rfl
theorem tH:((Rows.changeDecodesRow.stops == []))=true:=by kernel_rfl
theorem tI:((Tryz.pinned.checked.prog.stops == []))=true:=by kernel_rfl
theorem tJ:((Rows.changeDecodesRow.knobs == []))=true:=by kernel_rfl
theorem tK:((Tryz.pinned.checked.prog.stopKnobs == []))=true:=by kernel_rfl
theorem qC:((Rows.changeDecodesRow.inPlace == Tryz.pinned.checked.prog.inPlace 3))=true:=by kernel_rfl
theorem qD:((Rows.changeDecodesRow.unfollowed == Tryz.pinned.checked.prog.unfollowed 3))=true:=by kernel_rfl
theorem qE:((Rows.changeDecodesRow.recurses == Tryz.pinned.checked.prog.recurses 3))=true:=by kernel_rfl
theorem qF:((Rows.changeDecodesRow.named == Tryz.pinned.checked.prog.varsNamed 3))=true:=by kernel_rfl
theorem qG:((Rows.changeDecodesRow.maps == (Tryz.f3.params.toList++Rows.changeDecodesSpec.plain.varTypes Tryz.pinned.checked.prog).any (Tryz.pinned.checked.prog.mapsRec ·)))=true:=by kernel_rfl
theorem qH:((Rows.changeDecodesRow.ifaces == (Tryz.f3.params.toList++Rows.changeDecodesSpec.plain.varTypes Tryz.pinned.checked.prog).any (Tryz.pinned.checked.prog.ifacesRec ·)))=true:=by kernel_rfl
theorem qI:((Rows.changeDecodesRow.mapsOut == Tryz.pinned.checked.prog.mapsAmong Tryz.f3.resultTypes.toList))=true:=by kernel_rfl
theorem qJ:((Rows.changeDecodesRow.loops == (Tryz.f3.params.toList++Rows.changeDecodesSpec.plain.varTypes Tryz.pinned.checked.prog).any (Tryz.pinned.checked.prog.loopsFrom ·)))=true:=by kernel_rfl
theorem qK:((Rows.changeDecodesRow.wideKeys == (Tryz.f3.params.toList++Rows.changeDecodesSpec.plain.varTypes Tryz.pinned.checked.prog++Tryz.f3.resultTypes.toList).any (Tryz.pinned.checked.prog.wideKeysFrom ·)))=true:=by kernel_rfl
theorem qL:(Rows.changeDecodesSpec.vars.all (Tryz.pinned.checked.prog.varReadable ·))=true:=by kernel_rfl
theorem qM:(Tryz.f3.resultTypes.all (fun t=>Tryz.pinned.checked.prog.readableRec t&&decide (t<Tryz.pinned.checked.prog.types.size)))=true:=by kernel_rfl
theorem qN:((Rows.changeDecodesRow.ifacesOut == Tryz.f3.resultTypes.toList.any (Tryz.pinned.checked.prog.ifacesRec ·)))=true:=by kernel_rfl
theorem qO:((Rows.changeDecodesRow.loopsOut == Tryz.f3.resultTypes.toList.any (Tryz.pinned.checked.prog.loopsFrom ·)))=true:=by kernel_rfl
theorem qP:((Rows.changeDecodesRow.plainKeys == Tryz.pinned.checked.prog.plainKeys))=true:=by kernel_rfl
theorem qQ:(Rows.changeDecodesRow.shortTexts.isNone)=true:=by kernel_rfl
theorem qR:(Tryz.pinned.checked.prog.stopsHeard)=true:=by kernel_rfl
theorem qS:(Tryz.pinned.checked.prog.mayEnter)=true:=by kernel_rfl
theorem qT:((Rows.changeDecodesRow.lifted == Tryz.pinned.checked.prog.liftsFinal))=true:=by kernel_rfl
theorem qU:((Tryz.pinned.checked.prog.make == some Rows.changeDecodesRow.make))=true:=by kernel_rfl
theorem qV:((Rows.changeDecodesRow.kinds == (if Rows.changeDecodesRow.domain.isEmpty then [] else Tryz.f3.params.toList.map fun t=>match Tryz.pinned.checked.prog.underlying t with|some (.int k)=>some k|_=>none)))=true:=by kernel_rfl
theorem qW:((Rows.changeDecodesRow.pinned == Rows.changeDecodesRow.pinnedBy))=true:=by kernel_rfl
theorem qX:((Rows.changeDecodesRow.veiled == (Tryz.f3.params.toList++Rows.changeDecodesSpec.plain.varTypes Tryz.pinned.checked.prog++Tryz.f3.resultTypes.toList).any (Tryz.pinned.checked.prog.veiledRec ·)))=true:=by kernel_rfl
theorem qY:(Rows.changeDecodesRow.veiledFits Tryz.pinned.checked.prog Tryz.f3.params.toList (Tryz.f3.params.toList++Rows.changeDecodesSpec.plain.varTypes Tryz.pinned.checked.prog++Tryz.f3.resultTypes.toList))=true:=by kernel_rfl
theorem bE {a b:Bool} (h1:a=true) (h2:b=true):(a&&b)=true:=by rw[h1,h2];rfl
theorem xH:joinedFacts Tryz.pinned.checked.prog 3 Tryz.f3 Rows.changeDecodesSpec Rows.changeDecodesRow=true:=by
 unfold joinedFacts
 exact bE (bE (bE (bE (bE (bE (bE (bE (bE (bE (bE (bE (bE (bE (bE (bE (bE (bE (bE (bE (bE (bE (bE (bE (bE (bE (bE (bE (bE (bE (bE (tC) tD) tE) tF) tG) tH) tI) tJ) tK) qC) qD) qE) qF) qG) qH) qI) qJ) qK) qL) qM) qN) qO) qP) qQ) qR) qS) qT) qU) qV) qW) qX) qY
theorem oE:Rows.changeDecodesRow.holds Tryz.pinned (OpenSpec.ofChange Rows.changeDecodesSpec) :=
 OpenClaim.holds_of_wide 3 Tryz.f3 rfl rfl rfl rfl rfl rfl rfl ⟨rfl,rfl,rfl,rfl,rfl⟩ rfl rfl rfl rfl rfl (by as_aux_lemma=>kernel_rfl) Tryz.func3 xH
  (of_decide_eq_true (by as_aux_lemma=>kernel_rfl)) (by unfold Func.isWrapper;first|(rw[if_pos (by decide +kernel)];kernel_rfl)|(rw[if_neg (by decide +kernel)];exact ⟨rfl,rfl⟩))
  (fun os started H enc _=>mM os started H enc)
theorem AE0 {P:Program} (h:P.funcs.toList.any Func.goes=false) (f:FuncId):P.goes f=false:=by
 have h1:∀ (g:FuncId) (fn:Func),P.funcs[g]? = some fn→Func.goes fn=false:=fun g fn hg=>by
  have:=List.any_eq_false.1 h fn (Array.mem_toList_iff.2 (Array.mem_of_getElem? hg))
  simpa using this
 have h2:(P.closure f).any (fun g=>(P.funcs[g]?).any Func.goes)=false:=List.any_eq_false.2 fun g _=>by
  cases hg:P.funcs[g]? with
  | none=>simp
  | some fn=>simp[h1 g fn hg]
 have h3:P.funcs.any Func.goes=false:=by rw[←Array.any_toList];exact h
 unfold Program.goes
 rw[h2,h3,Bool.and_false];rfl
theorem N4 {P:Program} (h:P.funcs.toList.any Func.goes=false) (c:OpenClaim) (hs:c.start = .entering):false=c.goesBy P:=by
 unfold OpenClaim.goesBy Program.goesAt Program.goesFrom
 rw[hs]
 cases P.funcNamed c.func with
 | none=>rfl
 | some f=>simp[AE0 h f]
theorem changeDecodes_proved:Rows.ChangeDecodesCardSaid :=
 Claim7.holds_tied_plain_at .later [] [.data,.pinned] true (true, "e982f273360edc3d75dc0905cdd57a4621034365dafe8c752109df380262b0ab") false oE (fun _ h=>by cases h) (by as_aux_lemma=>kernel_rfl) (fun _ h=>by cases h) changeDecodes_row_tie rfl ⟨rfl,rfl⟩ (by as_aux_lemma=>kernel_rfl) rfl
  (fun f fn hf hfn=>by
   obtain rfl:f=3:=Option.some.inj ((show Tryz.prog.funcNamed "shipyard/shipyardlaw20.ChangeDecodes" = some 3 by as_aux_lemma=>kernel_rfl).symm.trans hf) |>.symm
   obtain rfl:fn=Tryz.f3:=(Option.some.inj (Tryz.func3.symm.trans hfn)).symm
   exact ⟨by as_aux_lemma=>kernel_rfl,fun j t ht=>by
    have hall:(Tryz.f3.params.toList.all fun u=>!Tryz.prog.wantsStandIn u)=true:=by as_aux_lemma=>kernel_rfl
    have hm:t∈Tryz.f3.params.toList:=by
     have:=Array.mem_of_getElem? ht
     simpa using this
    exact (show Tryz.prog.wantsStandIn t=false by simpa using List.all_eq_true.1 hall t hm)⟩)
  (N4 (by as_aux_lemma=>kernel_rfl) _ rfl)
#print axioms changeDecodes_proved
end Go.Proofs.YtipdohmdckdoeaaGreatDoor
