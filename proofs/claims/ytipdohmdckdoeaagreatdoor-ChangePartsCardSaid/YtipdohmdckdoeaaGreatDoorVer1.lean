/-
  ChangeParts: the law answers true for everything that comes in, as the card says. The listed variables (tables of unicode/utf8) lie as the program's text lays them; the card ties them.
-/
import Derived.Test.YtipdohmdckdoeaaGreatDoorVez3
import Derived.Test.YtipdohmdckdoeaaGreatDoorRows
import Derived.Test.YtipdohmdckdoeaaGreatDoorCards
import Derived.Test.YtipdohmdckdoeaaGreatDoorTie
import Derived.LaidMore
import Derived.Lay
import Derived.SevenTiedAt
import Derived.Stop.Joined
set_option linter.defProp false
set_option linter.unusedSimpArgs false
set_option linter.unusedVariables false
set_option maxRecDepth 100000
namespace Go.Proofs.YtipdohmdckdoeaaGreatDoor
open Go Go.Pv Go.RowKit
def AJ:∀ x,BAW vM x->oV x=some (.v (.bool true)):=by
 exact ACK
def wS (os:Os) (started:os.Started) (H:Type) (enc:TypeId×Value->H) :
  ReturnsInHanded {} Tryz.checked os 7 .any (λw args=>(Rows.changePartsSpec.pre enc Tryz.prog Tryz.f7 Rows.changePartsRow.domain false w args/\laidMetH Tryz.prog Rows.changePartsRow.laid w)/\sizedMet enc Tryz.prog Tryz.f7 (OpenSpec.ofChange Rows.changePartsSpec) false w args)
   (Rows.changePartsSpec.post enc Tryz.prog Tryz.f7 false true false false) :=
 BH2 (C:=Tryz.checked) (X:=λw _=>laidMetH Tryz.prog Rows.changePartsRow.laid w) (tb:=4) (n:=40) (by kernel_rfl) (by kernel_rfl) (by kernel_rfl) (by kernel_rfl) Tryz.func7 (by kernel_rfl) (by kernel_rfl) rfl
  (λH ds h=>by
   match ds,(h.trans (by kernel_rfl:Tryz.f7.params.size=3)) with
   | [a0,a1,a2],_=>exact ⟨rfl,rfl,rfl⟩) (by
   have hp:(Tryz.f7.params.toList.all λt=>okT Tryz.prog 40 t&&Tryz.prog.readableRec t&&decide (t<Tryz.prog.types.size))=true:=by kernel_rfl
   intro t ht;have:=List.all_eq_true.1 hp t ht;simp only[Bool.and_eq_true,decide_eq_true_eq] at this;exact ⟨this.1.1,this.1.2,this.2⟩) (by kernel_rfl) rfl (by kernel_rfl) ZZ AJ (by kernel_rfl) os started H enc
  (ChangeSpec.witness_shaped (enc:=enc) (C:=Tryz.checked) (os:=os) (X:=λw _=>laidMetH Tryz.prog Rows.changePartsRow.laid w) false (World.laidAll Tryz.prog os Rows.changePartsRow.laid) #[.agg #[.string ⟨#[]⟩,.slice none 0 0,.slice none 0 0,.slice none 0 0,.slice none 0 0,.slice none 0 0],.agg #[.slice none 0 0,.slice none 0 0],.agg #[.string ⟨#[]⟩,.slice none 0 0]] 8 (World.laidAll_os _ _ _)
   (World.shaped_of_ZipB (by kernel_rfl) (by kernel_rfl)) (by kernel_rfl) (by kernel_rfl) (by kernel_rfl)
   (by rw[MakeChecks.laidMetH_plain _ _ _ (by kernel_rfl)];exact laidMet_laidAll _ (by kernel_rfl) (by kernel_rfl)))
def GX:(Rows.changePartsRow.wf (OpenSpec.ofChange Rows.changePartsSpec))=true:=by kernel_rfl
def GY:(laidOutB Tryz.pinned.checked.prog)=true:=by kernel_rfl
def GZ:(mapsRowed Tryz.pinned.checked.prog)=true:=by kernel_rfl
def G0:(Tryz.f7.params.all (Tryz.pinned.checked.prog.readableRec ·))=true:=by kernel_rfl
def G1:(namedTie Tryz.pinned.checked.prog Rows.changePartsRow.named Rows.changePartsSpec.vars)=true:=by kernel_rfl
def G2:((Rows.changePartsRow.stops == []))=true:=by kernel_rfl
def G3:((Tryz.pinned.checked.prog.stops == []))=true:=by kernel_rfl
def G4:((Rows.changePartsRow.knobs == []))=true:=by kernel_rfl
def G5:((Tryz.pinned.checked.prog.stopKnobs == []))=true:=by kernel_rfl
def DS:((Rows.changePartsRow.inPlace == Tryz.pinned.checked.prog.inPlace 7))=true:=by kernel_rfl
def DT:((Rows.changePartsRow.unfollowed == Tryz.pinned.checked.prog.unfollowed 7))=true:=by kernel_rfl
def DU:((Rows.changePartsRow.recurses == Tryz.pinned.checked.prog.recurses 7))=true:=by kernel_rfl
def DV:((Rows.changePartsRow.named == Tryz.pinned.checked.prog.varsNamed 7))=true:=by kernel_rfl
def DW:((Rows.changePartsRow.maps == (Tryz.f7.params.toList++Rows.changePartsSpec.plain.varTypes Tryz.pinned.checked.prog).any (Tryz.pinned.checked.prog.mapsRec ·)))=true:=by kernel_rfl
def DX:((Rows.changePartsRow.ifaces == (Tryz.f7.params.toList++Rows.changePartsSpec.plain.varTypes Tryz.pinned.checked.prog).any (Tryz.pinned.checked.prog.ifacesRec ·)))=true:=by kernel_rfl
def DY:((Rows.changePartsRow.mapsOut == Tryz.pinned.checked.prog.mapsAmong Tryz.f7.resultTypes.toList))=true:=by kernel_rfl
def DZ:((Rows.changePartsRow.loops == (Tryz.f7.params.toList++Rows.changePartsSpec.plain.varTypes Tryz.pinned.checked.prog).any (Tryz.pinned.checked.prog.loopsFrom ·)))=true:=by kernel_rfl
def D0:((Rows.changePartsRow.wideKeys == (Tryz.f7.params.toList++Rows.changePartsSpec.plain.varTypes Tryz.pinned.checked.prog++Tryz.f7.resultTypes.toList).any (Tryz.pinned.checked.prog.wideKeysFrom ·)))=true:=by kernel_rfl
def D1:(Rows.changePartsSpec.vars.all (Tryz.pinned.checked.prog.varReadable ·))=true:=by kernel_rfl
def D2:(Tryz.f7.resultTypes.all (λt=>Tryz.pinned.checked.prog.readableRec t&&decide (t<Tryz.pinned.checked.prog.types.size)))=true:=by kernel_rfl
def D3:((Rows.changePartsRow.ifacesOut == Tryz.f7.resultTypes.toList.any (Tryz.pinned.checked.prog.ifacesRec ·)))=true:=by kernel_rfl
def D4:((Rows.changePartsRow.loopsOut == Tryz.f7.resultTypes.toList.any (Tryz.pinned.checked.prog.loopsFrom ·)))=true:=by kernel_rfl
def D5:((Rows.changePartsRow.plainKeys == Tryz.pinned.checked.prog.plainKeys))=true:=by kernel_rfl
def D6:(Rows.changePartsRow.shortTexts.isNone)=true:=by kernel_rfl
def D7:(Tryz.pinned.checked.prog.stopsHeard)=true:=by kernel_rfl
def D8:(Tryz.pinned.checked.prog.mayEnter)=true:=by kernel_rfl
def D9:((Rows.changePartsRow.lifted == Tryz.pinned.checked.prog.liftsFinal))=true:=by kernel_rfl
def EA:((Tryz.pinned.checked.prog.make == some Rows.changePartsRow.make))=true:=by kernel_rfl
def EB:((Rows.changePartsRow.kinds == (if Rows.changePartsRow.domain.isEmpty then [] else Tryz.f7.params.toList.map λt=>match Tryz.pinned.checked.prog.underlying t with|some (.int k)=>some k|_=>none)))=true:=by kernel_rfl
def EC:((Rows.changePartsRow.pinned == Rows.changePartsRow.pinnedBy))=true:=by kernel_rfl
def ED:((Rows.changePartsRow.veiled == (Tryz.f7.params.toList++Rows.changePartsSpec.plain.varTypes Tryz.pinned.checked.prog++Tryz.f7.resultTypes.toList).any (Tryz.pinned.checked.prog.veiledRec ·)))=true:=by kernel_rfl
def EE:(Rows.changePartsRow.veiledFits Tryz.pinned.checked.prog Tryz.f7.params.toList (Tryz.f7.params.toList++Rows.changePartsSpec.plain.varTypes Tryz.pinned.checked.prog++Tryz.f7.resultTypes.toList))=true:=by kernel_rfl
def gB {a b:Bool} (h1:a=true) (h2:b=true):(a&&b)=true:=by rw[h1,h2];rfl
def NZ:joinedFacts Tryz.pinned.checked.prog 7 Tryz.f7 Rows.changePartsSpec Rows.changePartsRow=true:=by
 unfold joinedFacts;exact gB (gB (gB (gB (gB (gB (gB (gB (gB (gB (gB (gB (gB (gB (gB (gB (gB (gB (gB (gB (gB (gB (gB (gB (gB (gB (gB (gB (gB (gB (gB (GX) GY) GZ) G0) G1) G2) G3) G4) G5) DS) DT) DU) DV) DW) DX) DY) DZ) D0) D1) D2) D3) D4) D5) D6) D7) D8) D9) EA) EB) EC) ED) EE
def BP:Rows.changePartsRow.holds Tryz.pinned (OpenSpec.ofChange Rows.changePartsSpec) :=
 OpenClaim.holds_of_wide 7 Tryz.f7 rfl rfl rfl rfl rfl rfl rfl ⟨rfl,rfl,rfl,rfl,rfl⟩ rfl rfl rfl rfl rfl (by as_aux_lemma=>kernel_rfl) Tryz.func7 NZ
  (of_decide_eq_true (by as_aux_lemma=>kernel_rfl)) (by unfold Func.isWrapper;first|(rw[if_pos (by decide +kernel)];kernel_rfl)|(rw[if_neg (by decide +kernel)];exact ⟨rfl,rfl⟩))
  (λos started H enc _=>wS os started H enc)
variable {P:Program}
def BJC (h:P.funcs.toList.any Func.goes=false) (f:FuncId):P.goes f=false:=by
 have h1:∀ (g:FuncId) (fn:Func),P.funcs[g]? = some fn->Func.goes fn=false:=λg fn hg=>by
  have:=List.any_eq_false.1 h fn (Array.mem_toList_iff.2 (Array.mem_of_getElem? hg));simpa using this
 have h2:(P.closure f).any (λg=>(P.funcs[g]?).any Func.goes)=false:=List.any_eq_false.2 λg _=>by
  cases hg:P.funcs[g]? with
  | none=>simp
  | some fn=>simp[h1 g fn hg]
 have h3:P.funcs.any Func.goes=false:=by rw[<-Array.any_toList];exact h
 unfold Program.goes;rw[h2,h3,Bool.and_false];rfl
def BDL (h:P.funcs.toList.any Func.goes=false) (c:OpenClaim) (hs:c.start = .entering):false=c.goesBy P:=by
 unfold OpenClaim.goesBy Program.goesAt Program.goesFrom;rw[hs];cases P.funcNamed c.func with
 | none=>rfl
 | some f=>simp[BJC h f]
def changeParts_proved:Rows.ChangePartsCardSaid :=
 Claim7.holds_tied_plain_at .later [] [.data,.pinned] true (true, "e982f273360edc3d75dc0905cdd57a4621034365dafe8c752109df380262b0ab") false BP (λ_ h=>by cases h) (by as_aux_lemma=>kernel_rfl) (λ_ h=>by cases h) changeParts_row_tie rfl ⟨rfl,rfl⟩ (by as_aux_lemma=>kernel_rfl) rfl
  (λf fn hf hfn=>by
   obtain rfl:f=7:=Option.some.inj ((show Tryz.prog.funcNamed "shipyard/shipyardlaw20.ChangeParts" = some 7 by as_aux_lemma=>kernel_rfl).symm.trans hf) |>.symm
   obtain rfl:fn=Tryz.f7:=(Option.some.inj (Tryz.func7.symm.trans hfn)).symm;exact ⟨by as_aux_lemma=>kernel_rfl,λj t ht=>by
    have hall:(Tryz.f7.params.toList.all λu=>!Tryz.prog.wantsStandIn u)=true:=by as_aux_lemma=>kernel_rfl
    have hm:t∈Tryz.f7.params.toList:=by
     have:=Array.mem_of_getElem? ht;simpa using this
    exact (show Tryz.prog.wantsStandIn t=false by simpa using List.all_eq_true.1 hall t hm)⟩)
  (BDL (by as_aux_lemma=>kernel_rfl) _ rfl)
#print axioms changeParts_proved
end Go.Proofs.YtipdohmdckdoeaaGreatDoor
