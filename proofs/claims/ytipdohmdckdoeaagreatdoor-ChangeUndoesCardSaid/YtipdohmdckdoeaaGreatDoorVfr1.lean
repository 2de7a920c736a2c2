/-
  ChangeUndoes: the law answers true for everything that comes in, as the card says. The listed variables (tables of unicode/utf8) lie as the program's text lays them; the card ties them.
-/
import Derived.Test.YtipdohmdckdoeaaGreatDoorVfz3
import Derived.Test.YtipdohmdckdoeaaGreatDoorRows
import Derived.Test.YtipdohmdckdoeaaGreatDoorCards
import Derived.Test.YtipdohmdckdoeaaGreatDoorTie
import Derived.LaidMore
import Derived.Lay
import Derived.SevenTiedAt
import Derived.Stop.Joined
set_option linter.defProp false
set_option linter.unusedSimpArgs false
set_option linter.unusedVariables false
set_option maxRecDepth 100000
namespace Go.Proofs.YtipdohmdckdoeaaGreatDoor
open Go Go.Pv Go.RowKit
def wX:∀ x,BFK zY x->rG x=some (.v (.bool true)):=by
 exact AJH
def wK (os:Os) (started:os.Started) (H:Type) (enc:TypeId×Value->H) :
  ReturnsInHanded {} Tryz.checked os 5 .any (λw args=>(Rows.changeUndoesSpec.pre enc Tryz.prog Tryz.f5 Rows.changeUndoesRow.domain false w args/\laidMetH Tryz.prog Rows.changeUndoesRow.laid w)/\sizedMet enc Tryz.prog Tryz.f5 (OpenSpec.ofChange Rows.changeUndoesSpec) false w args)
   (Rows.changeUndoesSpec.post enc Tryz.prog Tryz.f5 false true false false) :=
 BNA (C:=Tryz.checked) (X:=λw _=>laidMetH Tryz.prog Rows.changeUndoesRow.laid w) (tb:=4) (n:=40) (by kernel_rfl) (by kernel_rfl) (by kernel_rfl) (by kernel_rfl) Tryz.func5 (by kernel_rfl) (by kernel_rfl) rfl
  (λH ds h=>by
   match ds,(h.trans (by kernel_rfl:Tryz.f5.params.size=3)) with
   | [a0,a1,a2],_=>exact ⟨rfl,rfl,rfl⟩) (by
   have hp:(Tryz.f5.params.toList.all λt=>okT Tryz.prog 40 t&&Tryz.prog.readableRec t&&decide (t<Tryz.prog.types.size))=true:=by kernel_rfl
   intro t ht;have:=List.all_eq_true.1 hp t ht;simp only[Bool.and_eq_true,decide_eq_true_eq] at this;exact ⟨this.1.1,this.1.2,this.2⟩) (by kernel_rfl) rfl (by kernel_rfl) AHO wX (by kernel_rfl) os started H enc
  (ChangeSpec.witness_shaped (enc:=enc) (C:=Tryz.checked) (os:=os) (X:=λw _=>laidMetH Tryz.prog Rows.changeUndoesRow.laid w) false (World.laidAll Tryz.prog os Rows.changeUndoesRow.laid) #[.agg #[.string ⟨#[]⟩,.slice none 0 0,.slice none 0 0,.slice none 0 0,.slice none 0 0,.slice none 0 0],.agg #[.slice none 0 0,.slice none 0 0],.agg #[.string ⟨#[]⟩,.slice none 0 0]] 8 (World.laidAll_os _ _ _)
   (World.shaped_of_ZipB (by kernel_rfl) (by kernel_rfl)) (by kernel_rfl) (by kernel_rfl) (by kernel_rfl)
   (by rw[MakeChecks.laidMetH_plain _ _ _ (by kernel_rfl)];exact laidMet_laidAll _ (by kernel_rfl) (by kernel_rfl)))
def EV:(Rows.changeUndoesRow.wf (OpenSpec.ofChange Rows.changeUndoesSpec))=true:=by kernel_rfl
def EW:(laidOutB Tryz.pinned.checked.prog)=true:=by kernel_rfl
def EX:(mapsRowed Tryz.pinned.checked.prog)=true:=by kernel_rfl
def EY:(Tryz.f5.params.all (Tryz.pinned.checked.prog.readableRec ·))=true:=by kernel_rfl
def EZ:(namedTie Tryz.pinned.checked.prog Rows.changeUndoesRow.named Rows.changeUndoesSpec.vars)=true:=by kernel_rfl
def E0:((Rows.changeUndoesRow.stops == []))=true:=by kernel_rfl
def E1:((Tryz.pinned.checked.prog.stops == []))=true:=by kernel_rfl
def E2:((Rows.changeUndoesRow.knobs == []))=true:=by kernel_rfl
def E3:((Tryz.pinned.checked.prog.stopKnobs == []))=true:=by kernel_rfl
def CO:((Rows.changeUndoesRow.inPlace == Tryz.pinned.checked.prog.inPlace 5))=true:=by kernel_rfl
def CP:((Rows.changeUndoesRow.unfollowed == Tryz.pinned.checked.prog.unfollowed 5))=true:=by kernel_rfl
def CQ:((Rows.changeUndoesRow.recurses == Tryz.pinned.checked.prog.recurses 5))=true:=by kernel_rfl
def CR:((Rows.changeUndoesRow.named == Tryz.pinned.checked.prog.varsNamed 5))=true:=by kernel_rfl
def CS:((Rows.changeUndoesRow.maps == (Tryz.f5.params.toList++Rows.changeUndoesSpec.plain.varTypes Tryz.pinned.checked.prog).any (Tryz.pinned.checked.prog.mapsRec ·)))=true:=by kernel_rfl
def CT:((Rows.changeUndoesRow.ifaces == (Tryz.f5.params.toList++Rows.changeUndoesSpec.plain.varTypes Tryz.pinned.checked.prog).any (Tryz.pinned.checked.prog.ifacesRec ·)))=true:=by kernel_rfl
def CU:((Rows.changeUndoesRow.mapsOut == Tryz.pinned.checked.prog.mapsAmong Tryz.f5.resultTypes.toList))=true:=by kernel_rfl
def CV:((Rows.changeUndoesRow.loops == (Tryz.f5.params.toList++Rows.changeUndoesSpec.plain.varTypes Tryz.pinned.checked.prog).any (Tryz.pinned.checked.prog.loopsFrom ·)))=true:=by kernel_rfl
def CW:((Rows.changeUndoesRow.wideKeys == (Tryz.f5.params.toList++Rows.changeUndoesSpec.plain.varTypes Tryz.pinned.checked.prog++Tryz.f5.resultTypes.toList).any (Tryz.pinned.checked.prog.wideKeysFrom ·)))=true:=by kernel_rfl
def CX:(Rows.changeUndoesSpec.vars.all (Tryz.pinned.checked.prog.varReadable ·))=true:=by kernel_rfl
def CY:(Tryz.f5.resultTypes.all (λt=>Tryz.pinned.checked.prog.readableRec t&&decide (t<Tryz.pinned.checked.prog.types.size)))=true:=by kernel_rfl
def CZ:((Rows.changeUndoesRow.ifacesOut == Tryz.f5.resultTypes.toList.any (Tryz.pinned.checked.prog.ifacesRec ·)))=true:=by kernel_rfl
def C0:((Rows.changeUndoesRow.loopsOut == Tryz.f5.resultTypes.toList.any (Tryz.pinned.checked.prog.loopsFrom ·)))=true:=by kernel_rfl
def C1:((Rows.changeUndoesRow.plainKeys == Tryz.pinned.checked.prog.plainKeys))=true:=by kernel_rfl
def C2:(Rows.changeUndoesRow.shortTexts.isNone)=true:=by kernel_rfl
def C3:(Tryz.pinned.checked.prog.stopsHeard)=true:=by kernel_rfl
def C4:(Tryz.pinned.checked.prog.mayEnter)=true:=by kernel_rfl
def C5:((Rows.changeUndoesRow.lifted == Tryz.pinned.checked.prog.liftsFinal))=true:=by kernel_rfl
def C6:((Tryz.pinned.checked.prog.make == some Rows.changeUndoesRow.make))=true:=by kernel_rfl
def C7:((Rows.changeUndoesRow.kinds == (if Rows.changeUndoesRow.domain.isEmpty then [] else Tryz.f5.params.toList.map λt=>match Tryz.pinned.checked.prog.underlying t with|some (.int k)=>some k|_=>none)))=true:=by kernel_rfl
def C8:((Rows.changeUndoesRow.pinned == Rows.changeUndoesRow.pinnedBy))=true:=by kernel_rfl
def C9:((Rows.changeUndoesRow.veiled == (Tryz.f5.params.toList++Rows.changeUndoesSpec.plain.varTypes Tryz.pinned.checked.prog++Tryz.f5.resultTypes.toList).any (Tryz.pinned.checked.prog.veiledRec ·)))=true:=by kernel_rfl
def DA:(Rows.changeUndoesRow.veiledFits Tryz.pinned.checked.prog Tryz.f5.params.toList (Tryz.f5.params.toList++Rows.changeUndoesSpec.plain.varTypes Tryz.pinned.checked.prog++Tryz.f5.resultTypes.toList))=true:=by kernel_rfl
def gP {a b:Bool} (h1:a=true) (h2:b=true):(a&&b)=true:=by rw[h1,h2];rfl
def J1:joinedFacts Tryz.pinned.checked.prog 5 Tryz.f5 Rows.changeUndoesSpec Rows.changeUndoesRow=true:=by
 unfold joinedFacts;exact gP (gP (gP (gP (gP (gP (gP (gP (gP (gP (gP (gP (gP (gP (gP (gP (gP (gP (gP (gP (gP (gP (gP (gP (gP (gP (gP (gP (gP (gP (gP (EV) EW) EX) EY) EZ) E0) E1) E2) E3) CO) CP) CQ) CR) CS) CT) CU) CV) CW) CX) CY) CZ) C0) C1) C2) C3) C4) C5) C6) C7) C8) C9) DA
def AX:Rows.changeUndoesRow.holds Tryz.pinned (OpenSpec.ofChange Rows.changeUndoesSpec) :=
 OpenClaim.holds_of_wide 5 Tryz.f5 rfl rfl rfl rfl rfl rfl rfl ⟨rfl,rfl,rfl,rfl,rfl⟩ rfl rfl rfl rfl rfl (by as_aux_lemma=>kernel_rfl) Tryz.func5 J1
  (of_decide_eq_true (by as_aux_lemma=>kernel_rfl)) (by unfold Func.isWrapper;first|(rw[if_pos (by decide +kernel)];kernel_rfl)|(rw[if_neg (by decide +kernel)];exact ⟨rfl,rfl⟩))
  (λos started H enc _=>wK os started H enc)
variable {P:Program}
def BON (h:P.funcs.toList.any Func.goes=false) (f:FuncId):P.goes f=false:=by
 have h1:∀ (g:FuncId) (fn:Func),P.funcs[g]? = some fn->Func.goes fn=false:=λg fn hg=>by
  have:=List.any_eq_false.1 h fn (Array.mem_toList_iff.2 (Array.mem_of_getElem? hg));simpa using this
 have h2:(P.closure f).any (λg=>(P.funcs[g]?).any Func.goes)=false:=List.any_eq_false.2 λg _=>by
  cases hg:P.funcs[g]? with
  | none=>simp
  | some fn=>simp[h1 g fn hg]
 have h3:P.funcs.any Func.goes=false:=by rw[<-Array.any_toList];exact h
 unfold Program.goes;rw[h2,h3,Bool.and_false];rfl
def BIH (h:P.funcs.toList.any Func.goes=false) (c:OpenClaim) (hs:c.start = .entering):false=c.goesBy P:=by
 unfold OpenClaim.goesBy Program.goesAt Program.goesFrom;rw[hs];cases P.funcNamed c.func with
 | none=>rfl
 | some f=>simp[BON h f]
def changeUndoes_proved:Rows.ChangeUndoesCardSaid :=
 Claim7.holds_tied_plain_at .later [] [.data,.pinned] true (true, "e982f273360edc3d75dc0905cdd57a4621034365dafe8c752109df380262b0ab") false AX (λ_ h=>by cases h) (by as_aux_lemma=>kernel_rfl) (λ_ h=>by cases h) changeUndoes_row_tie rfl ⟨rfl,rfl⟩ (by as_aux_lemma=>kernel_rfl) rfl
  (λf fn hf hfn=>by
   obtain rfl:f=5:=Option.some.inj ((show Tryz.prog.funcNamed "shipyard/shipyardlaw20.ChangeUndoes" = some 5 by as_aux_lemma=>kernel_rfl).symm.trans hf) |>.symm
   obtain rfl:fn=Tryz.f5:=(Option.some.inj (Tryz.func5.symm.trans hfn)).symm;exact ⟨by as_aux_lemma=>kernel_rfl,λj t ht=>by
    have hall:(Tryz.f5.params.toList.all λu=>!Tryz.prog.wantsStandIn u)=true:=by as_aux_lemma=>kernel_rfl
    have hm:t∈Tryz.f5.params.toList:=by
     have:=Array.mem_of_getElem? ht;simpa using this
    exact (show Tryz.prog.wantsStandIn t=false by simpa using List.all_eq_true.1 hall t hm)⟩)
  (BIH (by as_aux_lemma=>kernel_rfl) _ rfl)
#print axioms changeUndoes_proved
end Go.Proofs.YtipdohmdckdoeaaGreatDoor
