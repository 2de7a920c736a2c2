/-
  ChangeDivides: the law answers true for everything that comes in, as the card says. The listed variables (tables of unicode/utf8) lie as the program's text lays them; the card ties them.
-/
import Derived.Test.YtipdohmdckdoeaaGreatDoorVcz6
import Derived.Test.YtipdohmdckdoeaaGreatDoorRows
import Derived.Test.YtipdohmdckdoeaaGreatDoorCards
import Derived.Test.YtipdohmdckdoeaaGreatDoorTie
import Derived.LaidMore
import Derived.Lay
import Derived.SevenTiedAt
import Derived.Stop.Joined
set_option linter.defProp false
set_option linter.unusedSimpArgs false
set_option linter.unusedVariables false
set_option maxRecDepth 100000
namespace Go.Proofs.YtipdohmdckdoeaaGreatDoor
open Go Go.Pv Go.RowKit
def xZ:∀ x,AKI IW x->vP x=some (.v (.bool true)):=by
 exact AXC
def wD (os:Os) (started:os.Started) (H:Type) (enc:TypeId×Value->H) :
  ReturnsInHanded {} Tryz.checked os 4 .any (λw args=>(Rows.changeDividesSpec.pre enc Tryz.prog Tryz.f4 Rows.changeDividesRow.domain false w args/\laidMetH Tryz.prog Rows.changeDividesRow.laid w)/\sizedMet enc Tryz.prog Tryz.f4 (OpenSpec.ofChange Rows.changeDividesSpec) false w args)
   (Rows.changeDividesSpec.post enc Tryz.prog Tryz.f4 false true false false) :=
 A6B (C:=Tryz.checked) (X:=λw _=>laidMetH Tryz.prog Rows.changeDividesRow.laid w) (tb:=4) (n:=40) (by kernel_rfl) (by kernel_rfl) (by kernel_rfl) (by kernel_rfl) Tryz.func4 (by kernel_rfl) (by kernel_rfl) rfl
  (λH ds h=>by
   match ds,(h.trans (by kernel_rfl:Tryz.f4.params.size=3)) with
   | [a0,a1,a2],_=>exact ⟨rfl,rfl,rfl⟩) (by
   have hp:(Tryz.f4.params.toList.all λt=>okT Tryz.prog 40 t&&Tryz.prog.readableRec t&&decide (t<Tryz.prog.types.size))=true:=by kernel_rfl
   intro t ht;have:=List.all_eq_true.1 hp t ht;simp only[Bool.and_eq_true,decide_eq_true_eq] at this;exact ⟨this.1.1,this.1.2,this.2⟩) (by kernel_rfl) rfl (by kernel_rfl) AUC xZ (by kernel_rfl) os started H enc
  (ChangeSpec.witness_shaped (enc:=enc) (C:=Tryz.checked) (os:=os) (X:=λw _=>laidMetH Tryz.prog Rows.changeDividesRow.laid w) false (World.laidAll Tryz.prog os Rows.changeDividesRow.laid) #[.agg #[.string ⟨#[]⟩,.slice none 0 0,.slice none 0 0,.slice none 0 0,.slice none 0 0,.slice none 0 0],.agg #[.slice none 0 0,.slice none 0 0],.agg #[.string ⟨#[]⟩,.slice none 0 0]] 8 (World.laidAll_os _ _ _)
   (World.shaped_of_ZipB (by kernel_rfl) (by kernel_rfl)) (by kernel_rfl) (by kernel_rfl) (by kernel_rfl)
   (by rw[MakeChecks.laidMetH_plain _ _ _ (by kernel_rfl)];exact laidMet_laidAll _ (by kernel_rfl) (by kernel_rfl)))
def FI:(Rows.changeDividesRow.wf (OpenSpec.ofChange Rows.changeDividesSpec))=true:=by kernel_rfl
def FJ:(laidOutB Tryz.pinned.checked.prog)=true:=by kernel_rfl
def FK:(mapsRowed Tryz.pinned.checked.prog)=true:=by kernel_rfl
def FL:(Tryz.f4.params.all (Tryz.pinned.checked.prog.readableRec ·))=true:=by kernel_rfl
def FM:(namedTie Tryz.pinned.checked.prog Rows.changeDividesRow.named Rows.changeDividesSpec.vars)=true:=by kernel_rfl
def FN:((Rows.changeDividesRow.stops == []))=true:=by kernel_rfl
def FO:((Tryz.pinned.checked.prog.stops == []))=true:=by kernel_rfl
def FP:((Rows.changeDividesRow.knobs == []))=true:=by kernel_rfl
def FQ:((Tryz.pinned.checked.prog.stopKnobs == []))=true:=by kernel_rfl
def C6:((Rows.changeDividesRow.inPlace == Tryz.pinned.checked.prog.inPlace 4))=true:=by kernel_rfl
def C7:((Rows.changeDividesRow.unfollowed == Tryz.pinned.checked.prog.unfollowed 4))=true:=by kernel_rfl
def C8:((Rows.changeDividesRow.recurses == Tryz.pinned.checked.prog.recurses 4))=true:=by kernel_rfl
def C9:((Rows.changeDividesRow.named == Tryz.pinned.checked.prog.varsNamed 4))=true:=by kernel_rfl
def DA:((Rows.changeDividesRow.maps == (Tryz.f4.params.toList++Rows.changeDividesSpec.plain.varTypes Tryz.pinned.checked.prog).any (Tryz.pinned.checked.prog.mapsRec ·)))=true:=by kernel_rfl
def DB:((Rows.changeDividesRow.ifaces == (Tryz.f4.params.toList++Rows.changeDividesSpec.plain.varTypes Tryz.pinned.checked.prog).any (Tryz.pinned.checked.prog.ifacesRec ·)))=true:=by kernel_rfl
def DC:((Rows.changeDividesRow.mapsOut == Tryz.pinned.checked.prog.mapsAmong Tryz.f4.resultTypes.toList))=true:=by kernel_rfl
def DD:((Rows.changeDividesRow.loops == (Tryz.f4.params.toList++Rows.changeDividesSpec.plain.varTypes Tryz.pinned.checked.prog).any (Tryz.pinned.checked.prog.loopsFrom ·)))=true:=by kernel_rfl
def DE:((Rows.changeDividesRow.wideKeys == (Tryz.f4.params.toList++Rows.changeDividesSpec.plain.varTypes Tryz.pinned.checked.prog++Tryz.f4.resultTypes.toList).any (Tryz.pinned.checked.prog.wideKeysFrom ·)))=true:=by kernel_rfl
def DF:(Rows.changeDividesSpec.vars.all (Tryz.pinned.checked.prog.varReadable ·))=true:=by kernel_rfl
def DG:(Tryz.f4.resultTypes.all (λt=>Tryz.pinned.checked.prog.readableRec t&&decide (t<Tryz.pinned.checked.prog.types.size)))=true:=by kernel_rfl
def DH:((Rows.changeDividesRow.ifacesOut == Tryz.f4.resultTypes.toList.any (Tryz.pinned.checked.prog.ifacesRec ·)))=true:=by kernel_rfl
def DI:((Rows.changeDividesRow.loopsOut == Tryz.f4.resultTypes.toList.any (Tryz.pinned.checked.prog.loopsFrom ·)))=true:=by kernel_rfl
def DJ:((Rows.changeDividesRow.plainKeys == Tryz.pinned.checked.prog.plainKeys))=true:=by kernel_rfl
def DK:(Rows.changeDividesRow.shortTexts.isNone)=true:=by kernel_rfl
def DL:(Tryz.pinned.checked.prog.stopsHeard)=true:=by kernel_rfl
def DM:(Tryz.pinned.checked.prog.mayEnter)=true:=by kernel_rfl
def DN:((Rows.changeDividesRow.lifted == Tryz.pinned.checked.prog.liftsFinal))=true:=by kernel_rfl
def DO:((Tryz.pinned.checked.prog.make == some Rows.changeDividesRow.make))=true:=by kernel_rfl
def DP:((Rows.changeDividesRow.kinds == (if Rows.changeDividesRow.domain.isEmpty then [] else Tryz.f4.params.toList.map λt=>match Tryz.pinned.checked.prog.underlying t with|some (.int k)=>some k|_=>none)))=true:=by kernel_rfl
def DQ:((Rows.changeDividesRow.pinned == Rows.changeDividesRow.pinnedBy))=true:=by kernel_rfl
def DR:((Rows.changeDividesRow.veiled == (Tryz.f4.params.toList++Rows.changeDividesSpec.plain.varTypes Tryz.pinned.checked.prog++Tryz.f4.resultTypes.toList).any (Tryz.pinned.checked.prog.veiledRec ·)))=true:=by kernel_rfl
def DS:(Rows.changeDividesRow.veiledFits Tryz.pinned.checked.prog Tryz.f4.params.toList (Tryz.f4.params.toList++Rows.changeDividesSpec.plain.varTypes Tryz.pinned.checked.prog++Tryz.f4.resultTypes.toList))=true:=by kernel_rfl
def bX {a b:Bool} (h1:a=true) (h2:b=true):(a&&b)=true:=by rw[h1,h2];rfl
def KZ:joinedFacts Tryz.pinned.checked.prog 4 Tryz.f4 Rows.changeDividesSpec Rows.changeDividesRow=true:=by
 unfold joinedFacts;exact bX (bX (bX (bX (bX (bX (bX (bX (bX (bX (bX (bX (bX (bX (bX (bX (bX (bX (bX (bX (bX (bX (bX (bX (bX (bX (bX (bX (bX (bX (bX (FI) FJ) FK) FL) FM) FN) FO) FP) FQ) C6) C7) C8) C9) DA) DB) DC) DD) DE) DF) DG) DH) DI) DJ) DK) DL) DM) DN) DO) DP) DQ) DR) DS
def yH:Rows.changeDividesRow.holds Tryz.pinned (OpenSpec.ofChange Rows.changeDividesSpec) :=
 OpenClaim.holds_of_wide 4 Tryz.f4 rfl rfl rfl rfl rfl rfl rfl ⟨rfl,rfl,rfl,rfl,rfl⟩ rfl rfl rfl rfl rfl (by as_aux_lemma=>kernel_rfl) Tryz.func4 KZ
  (of_decide_eq_true (by as_aux_lemma=>kernel_rfl)) (by unfold Func.isWrapper;first|(rw[if_pos (by decide +kernel)];kernel_rfl)|(rw[if_neg (by decide +kernel)];exact ⟨rfl,rfl⟩))
  (λos started H enc _=>wD os started H enc)
variable {P:Program}
def A60 (h:P.funcs.toList.any Func.goes=false) (f:FuncId):P.goes f=false:=by
 have h1:∀ (g:FuncId) (fn:Func),P.funcs[g]? = some fn->Func.goes fn=false:=λg fn hg=>by
  have:=List.any_eq_false.1 h fn (Array.mem_toList_iff.2 (Array.mem_of_getElem? hg));simpa using this
 have h2:(P.closure f).any (λg=>(P.funcs[g]?).any Func.goes)=false:=List.any_eq_false.2 λg _=>by
  cases hg:P.funcs[g]? with
  | none=>simp
  | some fn=>simp[h1 g fn hg]
 have h3:P.funcs.any Func.goes=false:=by rw[<-Array.any_toList];exact h
 unfold Program.goes;rw[h2,h3,Bool.and_false];rfl
def SU (h:P.funcs.toList.any Func.goes=false) (c:OpenClaim) (hs:c.start = .entering):false=c.goesBy P:=by
 unfold OpenClaim.goesBy Program.goesAt Program.goesFrom;rw[hs];cases P.funcNamed c.func with
 | none=>rfl
 | some f=>simp[A60 h f]
def changeDivides_proved:Rows.ChangeDividesCardSaid :=
 Claim7.holds_tied_plain_at .later [] [.data,.pinned] true (true, "e982f273360edc3d75dc0905cdd57a4621034365dafe8c752109df380262b0ab") false yH (λ_ h=>by cases h) (by as_aux_lemma=>kernel_rfl) (λ_ h=>by cases h) changeDivides_row_tie rfl ⟨rfl,rfl⟩ (by as_aux_lemma=>kernel_rfl) rfl
  (λf fn hf hfn=>by
   obtain rfl:f=4:=Option.some.inj ((show Tryz.prog.funcNamed "shipyard/shipyardlaw20.ChangeDivides" = some 4 by as_aux_lemma=>kernel_rfl).symm.trans hf) |>.symm
   obtain rfl:fn=Tryz.f4:=(Option.some.inj (Tryz.func4.symm.trans hfn)).symm;exact ⟨by as_aux_lemma=>kernel_rfl,λj t ht=>by
    have hall:(Tryz.f4.params.toList.all λu=>!Tryz.prog.wantsStandIn u)=true:=by as_aux_lemma=>kernel_rfl
    have hm:t∈Tryz.f4.params.toList:=by
     have:=Array.mem_of_getElem? ht;simpa using this
    exact (show Tryz.prog.wantsStandIn t=false by simpa using List.all_eq_true.1 hall t hm)⟩)
  (SU (by as_aux_lemma=>kernel_rfl) _ rfl)
#print axioms changeDivides_proved
end Go.Proofs.YtipdohmdckdoeaaGreatDoor
