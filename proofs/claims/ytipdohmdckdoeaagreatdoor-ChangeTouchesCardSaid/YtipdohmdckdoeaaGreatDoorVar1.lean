/-
  ChangeTouches: the law answers true for everything that comes in, as the card says. The listed variables (tables of unicode/utf8) lie as the program's text lays them; the card ties them.
-/
import Derived.Test.YtipdohmdckdoeaaGreatDoorVaz3
import Derived.Test.YtipdohmdckdoeaaGreatDoorRows
import Derived.Test.YtipdohmdckdoeaaGreatDoorCards
import Derived.Test.YtipdohmdckdoeaaGreatDoorTie
import Derived.LaidMore
import Derived.Lay
import Derived.SevenTiedAt
import Derived.Stop.Joined
set_option linter.defProp false
set_option linter.unusedSimpArgs false
set_option linter.unusedVariables false
set_option maxRecDepth 100000
namespace Go.Proofs.YtipdohmdckdoeaaGreatDoor
open Go Go.Pv Go.RowKit
theorem nS:∀ x,U7 vY x→mB x=some (.v (.bool true)):=by
 exact TU
theorem mN (os:Os) (started:os.Started) (H:Type) (enc:TypeId×Value→H) :
  ReturnsInHanded {} Tryz.checked os 8 .any (fun w args=>(Rows.changeTouchesSpec.pre enc Tryz.prog Tryz.f8 Rows.changeTouchesRow.domain false w args∧laidMetH Tryz.prog Rows.changeTouchesRow.laid w)∧sizedMet enc Tryz.prog Tryz.f8 (OpenSpec.ofChange Rows.changeTouchesSpec) false w args)
   (Rows.changeTouchesSpec.post enc Tryz.prog Tryz.f8 false true false false) :=
 AC4 (C:=Tryz.checked) (X:=fun w _=>laidMetH Tryz.prog Rows.changeTouchesRow.laid w) (tb:=4) (n:=40) (by kernel_rfl) (by kernel_rfl) (by kernel_rfl) (by kernel_rfl) Tryz.func8 (by kernel_rfl) (by kernel_rfl) rfl
  (fun H ds h=>by
   match ds,(h.trans (by kernel_rfl:Tryz.f8.params.size=2)) with
   | [a0,a1],_=>exact ⟨rfl,rfl,rfl⟩) (by
   have hp:(Tryz.f8.params.toList.all fun t=>YL Tryz.prog 40 t&&Tryz.prog.readableRec t&&decide (t<Tryz.prog.types.size))=true:=by kernel_rfl
   intro t ht
   have:=List.all_eq_true.1 hp t ht
   simp only[Bool.and_eq_true,decide_eq_true_eq] at this
   exact ⟨this.1.1,this.1.2,this.2⟩) (by kernel_rfl) rfl (by kernel_rfl) SE nS (by kernel_rfl) os started H enc
  (ChangeSpec.witness_shaped (enc:=enc) (C:=Tryz.checked) (os:=os) (X:=fun w _=>laidMetH Tryz.prog Rows.changeTouchesRow.laid w) false (World.laidAll Tryz.prog os Rows.changeTouchesRow.laid) #[.agg #[.string ⟨#[]⟩,.slice none 0 0],.agg #[.string ⟨#[]⟩,.slice none 0 0]] 8 (World.laidAll_os _ _ _)
   (World.shaped_of_ZipB (by kernel_rfl) (by kernel_rfl)) (by kernel_rfl) (by kernel_rfl) (by kernel_rfl)
   (by rw[MakeChecks.laidMetH_plain _ _ _ (by kernel_rfl)];exact laidMet_laidAll _ (by kernel_rfl) (by kernel_rfl)))
theorem tL:(Rows.changeTouchesRow.wf (OpenSpec.ofChange Rows.changeTouchesSpec))=true:=by kernel_rfl
theorem tM:(laidOutB Tryz.pinned.checked.prog)=true:=by kernel_rfl
theorem tN:(mapsRowed Tryz.pinned.checked.prog)=true:=by kernel_rfl
theorem tO:(Tryz.f8.params.all (Tryz.pinned.checked.prog.readableRec ·))=true:=by kernel_rfl
theorem tP:(namedTie Tryz.pinned.checked.prog Rows.changeTouchesRow.named Rows.changeTouchesSpec.vars)=true:=by kernel_rfl
theorem tQ:((Rows.changeTouchesRow.stops == []))=true:=by kernel_rfl
theorem tT:((Tryz.pinned.checked.prog.stops == []))=true:=by kernel_rfl
theorem tU:((Rows.changeTouchesRow.knobs == []))=true:=by kernel_rfl
theorem tV:((Tryz.pinned.checked.prog.stopKnobs == []))=true:=by kernel_rfl
theorem qZ:((Rows.changeTouchesRow.inPlace == Tryz.pinned.checked.prog.inPlace 8))=true:=by kernel_rfl
theorem q7:((Rows.changeTouchesRow.unfollowed == Tryz.pinned.checked.prog.unfollowed 8))=true:=by kernel_rfl
theorem q9:((Rows.changeTouchesRow.recurses == Tryz.pinned.checked.prog.recurses 8))=true:=by kernel_rfl
theorem rA:((Rows.changeTouchesRow.named == Tryz.pinned.checked.prog.varsNamed 8))=true:=by kernel_rfl
theorem rB:((Rows.changeTouchesRow.maps == (Tryz.f8.params.toList++Rows.changeTouchesSpec.plain.varTypes Tryz.pinned.checked.prog).any (Tryz.pinned.checked.prog.mapsRec ·)))=true:=by kernel_rfl
theorem rC:((Rows.changeTouchesRow.ifaces == (Tryz.f8.params.toList++Rows.changeTouchesSpec.plain.varTypes Tryz.pinned.checked.prog).any (Tryz.pinned.checked.prog.ifacesRec ·)))=true:=by kernel_rfl
theorem rD:((Rows.changeTouchesRow.mapsOut == Tryz.pinned.checked.prog.mapsAmong Tryz.f8.resultTypes.toList))=true:=by kernel_rfl
theorem rE:((Rows.changeTouchesRow.loops == (Tryz.f8.params.toList++Rows.changeTouchesSpec.plain.varTypes Tryz.pinned.checked.prog).any (Tryz.pinned.checked.prog.loopsFrom ·)))=true:=by kernel_rfl
theorem rF:((Rows.changeTouchesRow.wideKeys == (Tryz.f8.params.toList++Rows.changeTouchesSpec.plain.varTypes Tryz.pinned.checked.prog++Tryz.f8.resultTypes.toList).any (Tryz.pinned.checked.prog.wideKeysFrom ·)))=true:=by kernel_rfl
theorem rG:(Rows.changeTouchesSpec.vars.all (Tryz.pinned.checked.prog.varReadable ·))=true:=by kernel_rfl
theorem rH:(Tryz.f8.resultTypes.all (fun t=>Tryz.pinned.checked.prog.readableRec t&&decide (t<Tryz.pinned.checked.prog.types.size)))=true:=by kernel_rfl
theorem rJ:((Rows.changeTouchesRow.ifacesOut == Tryz.f8.resultTypes.toList.any (Tryz.pinned.checked.prog.ifacesRec ·)))=true:=by kernel_rfl
theorem rK:((Rows.changeTouchesRow.loopsOut == Tryz.f8.resultTypes.toList.any (Tryz.pinned.checked.prog.loopsFrom ·)))=true:=by kernel_rfl
theorem rL:((Rows.changeTouchesRow.plainKeys == Tryz.pinned.checked.prog.plainKeys))=true:=by kernel_rfl
theorem rM:(Rows.changeTouchesRow.shortTexts.isNone)=true:=by kernel_rfl
theorem rN:(Tryz.pinned.checked.prog.stopsHeard)=true:=by kernel_rfl
theorem rO:(Tryz.pinned.checked.prog.mayEnter)=true:=by kernel_rfl
theorem rP:((Rows.changeTouchesRow.lifted == Tryz.pinned.checked.prog.liftsFinal))=true:=by kernel_rfl
theorem rQ:((Tryz.pinned.checked.prog.make == some Rows.changeTouchesRow.make))=true:=by kernel_rfl
theorem rR:((Rows.changeTouchesRow.kinds == (if Rows.changeTouchesRow.domain.isEmpty then [] else Tryz.f8.params.toList.map fun t=>match Tryz.pinned.checked.prog.underlying t with|some (.int k)=>some k|_=>none)))=true:=by kernel_rfl
theorem rS:((Rows.changeTouchesRow.pinned == Rows.changeTouchesRow.pinnedBy))=true:=by kernel_rfl
theorem rU:((Rows.changeTouchesRow.veiled == (Tryz.f8.params.toList++Rows.changeTouchesSpec.plain.varTypes Tryz.pinned.checked.prog++Tryz.f8.resultTypes.toList).any (Tryz.pinned.checked.prog.veiledRec ·)))=true:=by kernel_rfl
theorem rV:(Rows.changeTouchesRow.veiledFits Tryz.pinned.checked.prog Tryz.f8.params.toList (Tryz.f8.params.toList++Rows.changeTouchesSpec.plain.varTypes Tryz.pinned.checked.prog++Tryz.f8.resultTypes.toList))=true:=by kernel_rfl
theorem bE {a b:Bool} (h1:a=true) (h2:b=true):(a&&b)=true:=by rw[h1,h2];rfl
theorem xI:joinedFacts Tryz.pinned.checked.prog 8 Tryz.f8 Rows.changeTouchesSpec Rows.changeTouchesRow=true:=by
 unfold joinedFacts
 exact bE (bE (bE (bE (bE (bE (bE (bE (bE (bE (bE (bE (bE (bE (bE (bE (bE (bE (bE (bE (bE (bE (bE (bE (bE (bE (bE (bE (bE (bE (bE (tL) tM) tN) tO) tP) tQ) tT) tU) tV) qZ) q7) q9) rA) rB) rC) rD) rE) rF) rG) rH) rJ) rK) rL) rM) rN) rO) rP) rQ) rR) rS) rU) rV
theorem oF:Rows.changeTouchesRow.holds Tryz.pinned (OpenSpec.ofChange Rows.changeTouchesSpec) :=
 OpenClaim.holds_of_wide 8 Tryz.f8 rfl rfl rfl rfl rfl rfl rfl ⟨rfl,rfl,rfl,rfl,rfl⟩ rfl rfl rfl rfl rfl (by as_aux_lemma=>kernel_rfl) Tryz.func8 xI
  (of_decide_eq_true (by as_aux_lemma=>kernel_rfl)) (by unfold Func.isWrapper;first|(rw[if_pos (by decide +kernel)];kernel_rfl)|(rw[if_neg (by decide +kernel)];exact ⟨rfl,rfl⟩))
  (fun os started H enc _=>mN os started H enc)
theorem AE0 {P:Program} (h:P.funcs.toList.any Func.goes=false) (f:FuncId):P.goes f=false:=by
 have h1:∀ (g:FuncId) (fn:Func),P.funcs[g]? = some fn→Func.goes fn=false:=fun g fn hg=>by
  have:=List.any_eq_false.1 h fn (Array.mem_toList_iff.2 (Array.mem_of_getElem? hg))
  simpa using this
 have h2:(P.closure f).any (fun g=>(P.funcs[g]?).any Func.goes)=false:=List.any_eq_false.2 fun g _=>by
  cases hg:P.funcs[g]? with
  | none=>simp
  | some fn=>simp[h1 g fn hg]
 have h3:P.funcs.any Func.goes=false:=by rw[←Array.any_toList];exact h
 unfold Program.goes
 rw[h2,h3,Bool.and_false];rfl
theorem N4 {P:Program} (h:P.funcs.toList.any Func.goes=false) (c:OpenClaim) (hs:c.start = .entering):false=c.goesBy P:=by
 unfold OpenClaim.goesBy Program.goesAt Program.goesFrom
 rw[hs]
 cases P.funcNamed c.func with
 | none=>rfl
 | some f=>simp[AE0 h f]
theorem changeTouches_proved:Rows.ChangeTouchesCardSaid :=
 Claim7.holds_tied_plain_at .later [] [.data,.pinned] true (true, "e982f273360edc3d75dc0905cdd57a4621034365dafe8c752109df380262b0ab") false oF (fun _ h=>by cases h) (by as_aux_lemma=>kernel_rfl) (fun _ h=>by cases h) changeTouches_row_tie rfl ⟨rfl,rfl⟩ (by as_aux_lemma=>kernel_rfl) rfl
  (fun f fn hf hfn=>by
   obtain rfl:f=8:=Option.some.inj ((show Tryz.prog.funcNamed "shipyard/shipyardlaw20.ChangeTouches" = some 8 by as_aux_lemma=>kernel_rfl).symm.trans hf) |>.symm
   obtain rfl:fn=Tryz.f8:=(Option.some.inj (Tryz.func8.symm.trans hfn)).symm
   exact ⟨by as_aux_lemma=>kernel_rfl,fun j t ht=>by
    have hall:(Tryz.f8.params.toList.all fun u=>!Tryz.prog.wantsStandIn u)=true:=by as_aux_lemma=>kernel_rfl
    have hm:t∈Tryz.f8.params.toList:=by
     have:=Array.mem_of_getElem? ht
     simpa using this
    exact (show Tryz.prog.wantsStandIn t=false by simpa using List.all_eq_true.1 hall t hm)⟩)
  (N4 (by as_aux_lemma=>kernel_rfl) _ rfl)
#print axioms changeTouches_proved
end Go.Proofs.YtipdohmdckdoeaaGreatDoor
