/-
  ChangeCommutes: the law answers true for everything that comes in, as the card says. The listed variables (tables of unicode/utf8) lie as the program's text lays them; the card ties them.
-/
import Derived.Test.YtipdohmdckdoeaaGreatDoorVdz3
import Derived.Test.YtipdohmdckdoeaaGreatDoorRows
import Derived.Test.YtipdohmdckdoeaaGreatDoorCards
import Derived.Test.YtipdohmdckdoeaaGreatDoorTie
import Derived.LaidMore
import Derived.Lay
import Derived.SevenTiedAt
import Derived.Stop.Joined
set_option linter.defProp false
set_option linter.unusedSimpArgs false
set_option linter.unusedVariables false
set_option maxRecDepth 100000
namespace Go.Proofs.YtipdohmdckdoeaaGreatDoor
open Go Go.Pv Go.RowKit
def vA:∀ x,BA7 E9 x->uS x=some (.v (.bool true)):=by
 exact ARI
def tM (os:Os) (started:os.Started) (H:Type) (enc:TypeId×Value->H) :
  ReturnsInHanded {} Tryz.checked os 6 .any (λw args=>(Rows.changeCommutesSpec.pre enc Tryz.prog Tryz.f6 Rows.changeCommutesRow.domain false w args/\laidMetH Tryz.prog Rows.changeCommutesRow.laid w)/\sizedMet enc Tryz.prog Tryz.f6 (OpenSpec.ofChange Rows.changeCommutesSpec) false w args)
   (Rows.changeCommutesSpec.post enc Tryz.prog Tryz.f6 false true false false) :=
 BH3 (C:=Tryz.checked) (X:=λw _=>laidMetH Tryz.prog Rows.changeCommutesRow.laid w) (tb:=4) (n:=40) (by kernel_rfl) (by kernel_rfl) (by kernel_rfl) (by kernel_rfl) Tryz.func6 (by kernel_rfl) (by kernel_rfl) rfl
  (λH ds h=>by
   match ds,(h.trans (by kernel_rfl:Tryz.f6.params.size=1)) with
   | [a0],_=>exact ⟨rfl,rfl,rfl⟩) (by
   have hp:(Tryz.f6.params.toList.all λt=>okT Tryz.prog 40 t&&Tryz.prog.readableRec t&&decide (t<Tryz.prog.types.size))=true:=by kernel_rfl
   intro t ht;have:=List.all_eq_true.1 hp t ht;simp only[Bool.and_eq_true,decide_eq_true_eq] at this;exact ⟨this.1.1,this.1.2,this.2⟩) (by kernel_rfl) rfl (by kernel_rfl) AOP vA (by kernel_rfl) os started H enc
  (ChangeSpec.witness_shaped (enc:=enc) (C:=Tryz.checked) (os:=os) (X:=λw _=>laidMetH Tryz.prog Rows.changeCommutesRow.laid w) false (World.laidAll Tryz.prog os Rows.changeCommutesRow.laid) #[.agg #[.string ⟨#[]⟩,.slice none 0 0,.slice none 0 0,.slice none 0 0,.slice none 0 0,.slice none 0 0,.slice none 0 0,.slice none 0 0,.string ⟨#[]⟩,.slice none 0 0,.string ⟨#[]⟩,.slice none 0 0]] 8 (World.laidAll_os _ _ _)
   (World.shaped_of_ZipB (by kernel_rfl) (by kernel_rfl)) (by kernel_rfl) (by kernel_rfl) (by kernel_rfl)
   (by rw[MakeChecks.laidMetH_plain _ _ _ (by kernel_rfl)];exact laidMet_laidAll _ (by kernel_rfl) (by kernel_rfl)))
def BK:(Rows.changeCommutesRow.wf (OpenSpec.ofChange Rows.changeCommutesSpec))=true:=by kernel_rfl
def BL:(laidOutB Tryz.pinned.checked.prog)=true:=by kernel_rfl
def BM:(mapsRowed Tryz.pinned.checked.prog)=true:=by kernel_rfl
def BN:(Tryz.f6.params.all (Tryz.pinned.checked.prog.readableRec ·))=true:=by kernel_rfl
def BO:(namedTie Tryz.pinned.checked.prog Rows.changeCommutesRow.named Rows.changeCommutesSpec.vars)=true:=by kernel_rfl
def BP:((Rows.changeCommutesRow.stops == []))=true:=by kernel_rfl
def BQ:((Tryz.pinned.checked.prog.stops == []))=true:=by kernel_rfl
def BR:((Rows.changeCommutesRow.knobs == []))=true:=by kernel_rfl
def BS:((Tryz.pinned.checked.prog.stopKnobs == []))=true:=by kernel_rfl
def yB:((Rows.changeCommutesRow.inPlace == Tryz.pinned.checked.prog.inPlace 6))=true:=by kernel_rfl
def yC:((Rows.changeCommutesRow.unfollowed == Tryz.pinned.checked.prog.unfollowed 6))=true:=by kernel_rfl
def yD:((Rows.changeCommutesRow.recurses == Tryz.pinned.checked.prog.recurses 6))=true:=by kernel_rfl
def yE:((Rows.changeCommutesRow.named == Tryz.pinned.checked.prog.varsNamed 6))=true:=by kernel_rfl
def yF:((Rows.changeCommutesRow.maps == (Tryz.f6.params.toList++Rows.changeCommutesSpec.plain.varTypes Tryz.pinned.checked.prog).any (Tryz.pinned.checked.prog.mapsRec ·)))=true:=by kernel_rfl
def yG:((Rows.changeCommutesRow.ifaces == (Tryz.f6.params.toList++Rows.changeCommutesSpec.plain.varTypes Tryz.pinned.checked.prog).any (Tryz.pinned.checked.prog.ifacesRec ·)))=true:=by kernel_rfl
def yH:((Rows.changeCommutesRow.mapsOut == Tryz.pinned.checked.prog.mapsAmong Tryz.f6.resultTypes.toList))=true:=by kernel_rfl
def yI:((Rows.changeCommutesRow.loops == (Tryz.f6.params.toList++Rows.changeCommutesSpec.plain.varTypes Tryz.pinned.checked.prog).any (Tryz.pinned.checked.prog.loopsFrom ·)))=true:=by kernel_rfl
def yJ:((Rows.changeCommutesRow.wideKeys == (Tryz.f6.params.toList++Rows.changeCommutesSpec.plain.varTypes Tryz.pinned.checked.prog++Tryz.f6.resultTypes.toList).any (Tryz.pinned.checked.prog.wideKeysFrom ·)))=true:=by kernel_rfl
def yK:(Rows.changeCommutesSpec.vars.all (Tryz.pinned.checked.prog.varReadable ·))=true:=by kernel_rfl
def yL:(Tryz.f6.resultTypes.all (λt=>Tryz.pinned.checked.prog.readableRec t&&decide (t<Tryz.pinned.checked.prog.types.size)))=true:=by kernel_rfl
def yM:((Rows.changeCommutesRow.ifacesOut == Tryz.f6.resultTypes.toList.any (Tryz.pinned.checked.prog.ifacesRec ·)))=true:=by kernel_rfl
def yN:((Rows.changeCommutesRow.loopsOut == Tryz.f6.resultTypes.toList.any (Tryz.pinned.checked.prog.loopsFrom ·)))=true:=by kernel_rfl
def yO:((Rows.changeCommutesRow.plainKeys == Tryz.pinned.checked.prog.plainKeys))=true:=by kernel_rfl
def yP:(Rows.changeCommutesRow.shortTexts.isNone)=true:=by kernel_rfl
def yQ:(Tryz.pinned.checked.prog.stopsHeard)=true:=by kernel_rfl
def yR:(Tryz.pinned.checked.prog.mayEnter)=true:=by kernel_rfl
def yS:((Rows.changeCommutesRow.lifted == Tryz.pinned.checked.prog.liftsFinal))=true:=by kernel_rfl
def yT:((Tryz.pinned.checked.prog.make == some Rows.changeCommutesRow.make))=true:=by kernel_rfl
def yU:((Rows.changeCommutesRow.kinds == (if Rows.changeCommutesRow.domain.isEmpty then [] else Tryz.f6.params.toList.map λt=>match Tryz.pinned.checked.prog.underlying t with|some (.int k)=>some k|_=>none)))=true:=by kernel_rfl
def yV:((Rows.changeCommutesRow.pinned == Rows.changeCommutesRow.pinnedBy))=true:=by kernel_rfl
def yW:((Rows.changeCommutesRow.veiled == (Tryz.f6.params.toList++Rows.changeCommutesSpec.plain.varTypes Tryz.pinned.checked.prog++Tryz.f6.resultTypes.toList).any (Tryz.pinned.checked.prog.veiledRec ·)))=true:=by kernel_rfl
def yX:(Rows.changeCommutesRow.veiledFits Tryz.pinned.checked.prog Tryz.f6.params.toList (Tryz.f6.params.toList++Rows.changeCommutesSpec.plain.varTypes Tryz.pinned.checked.prog++Tryz.f6.resultTypes.toList))=true:=by kernel_rfl
def gG {a b:Bool} (h1:a=true) (h2:b=true):(a&&b)=true:=by rw[h1,h2];rfl
def EO:joinedFacts Tryz.pinned.checked.prog 6 Tryz.f6 Rows.changeCommutesSpec Rows.changeCommutesRow=true:=by
 unfold joinedFacts;exact gG (gG (gG (gG (gG (gG (gG (gG (gG (gG (gG (gG (gG (gG (gG (gG (gG (gG (gG (gG (gG (gG (gG (gG (gG (gG (gG (gG (gG (gG (gG (BK) BL) BM) BN) BO) BP) BQ) BR) BS) yB) yC) yD) yE) yF) yG) yH) yI) yJ) yK) yL) yM) yN) yO) yP) yQ) yR) yS) yT) yU) yV) yW) yX
def wP:Rows.changeCommutesRow.holds Tryz.pinned (OpenSpec.ofChange Rows.changeCommutesSpec) :=
 OpenClaim.holds_of_wide 6 Tryz.f6 rfl rfl rfl rfl rfl rfl rfl ⟨rfl,rfl,rfl,rfl,rfl⟩ rfl rfl rfl rfl rfl (by as_aux_lemma=>kernel_rfl) Tryz.func6 EO
  (of_decide_eq_true (by as_aux_lemma=>kernel_rfl)) (by unfold Func.isWrapper;first|(rw[if_pos (by decide +kernel)];kernel_rfl)|(rw[if_neg (by decide +kernel)];exact ⟨rfl,rfl⟩))
  (λos started H enc _=>tM os started H enc)
variable {P:Program}
def BJJ (h:P.funcs.toList.any Func.goes=false) (f:FuncId):P.goes f=false:=by
 have h1:∀ (g:FuncId) (fn:Func),P.funcs[g]? = some fn->Func.goes fn=false:=λg fn hg=>by
  have:=List.any_eq_false.1 h fn (Array.mem_toList_iff.2 (Array.mem_of_getElem? hg));simpa using this
 have h2:(P.closure f).any (λg=>(P.funcs[g]?).any Func.goes)=false:=List.any_eq_false.2 λg _=>by
  cases hg:P.funcs[g]? with
  | none=>simp
  | some fn=>simp[h1 g fn hg]
 have h3:P.funcs.any Func.goes=false:=by rw[<-Array.any_toList];exact h
 unfold Program.goes;rw[h2,h3,Bool.and_false];rfl
def BDR (h:P.funcs.toList.any Func.goes=false) (c:OpenClaim) (hs:c.start = .entering):false=c.goesBy P:=by
 unfold OpenClaim.goesBy Program.goesAt Program.goesFrom;rw[hs];cases P.funcNamed c.func with
 | none=>rfl
 | some f=>simp[BJJ h f]
def changeCommutes_proved:Rows.ChangeCommutesCardSaid :=
 Claim7.holds_tied_plain_at .later [] [.data,.pinned] true (true, "e982f273360edc3d75dc0905cdd57a4621034365dafe8c752109df380262b0ab") false wP (λ_ h=>by cases h) (by as_aux_lemma=>kernel_rfl) (λ_ h=>by cases h) changeCommutes_row_tie rfl ⟨rfl,rfl⟩ (by as_aux_lemma=>kernel_rfl) rfl
  (λf fn hf hfn=>by
   obtain rfl:f=6:=Option.some.inj ((show Tryz.prog.funcNamed "shipyard/shipyardlaw20.ChangeCommutes" = some 6 by as_aux_lemma=>kernel_rfl).symm.trans hf) |>.symm
   obtain rfl:fn=Tryz.f6:=(Option.some.inj (Tryz.func6.symm.trans hfn)).symm;exact ⟨by as_aux_lemma=>kernel_rfl,λj t ht=>by
    have hall:(Tryz.f6.params.toList.all λu=>!Tryz.prog.wantsStandIn u)=true:=by as_aux_lemma=>kernel_rfl
    have hm:t∈Tryz.f6.params.toList:=by
     have:=Array.mem_of_getElem? ht;simpa using this
    exact (show Tryz.prog.wantsStandIn t=false by simpa using List.all_eq_true.1 hall t hm)⟩)
  (BDR (by as_aux_lemma=>kernel_rfl) _ rfl)
#print axioms changeCommutes_proved
end Go.Proofs.YtipdohmdckdoeaaGreatDoor
