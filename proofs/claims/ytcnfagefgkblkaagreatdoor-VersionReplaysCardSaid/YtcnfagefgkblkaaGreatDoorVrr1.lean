/-
  VersionReplays: the law answers true for everything that comes in, as the card says. The listed variables (tables of unicode/utf8) lie as the program's text lays them; the card ties them.
-/
import Derived.Test.YtcnfagefgkblkaaGreatDoorVrz3
import Derived.Test.YtcnfagefgkblkaaGreatDoorRows
import Derived.Test.YtcnfagefgkblkaaGreatDoorCards
import Derived.Test.YtcnfagefgkblkaaGreatDoorTie
import Derived.LaidMore
import Derived.Lay
import Derived.SevenTiedAt
import Derived.Stop.Joined
set_option linter.defProp false
set_option linter.unusedSimpArgs false
set_option linter.unusedVariables false
set_option maxRecDepth 100000
namespace Go.Proofs.YtcnfagefgkblkaaGreatDoor
open Go Go.Pv Go.RowKit
def vL:∀ x,BI3 GP x->u7 x=some (.v (.bool true)):=by
 exact AW7
def tT (os:Os) (started:os.Started) (H:Type) (enc:TypeId×Value->H) :
  ReturnsInHanded {} Tryz.checked os 5 .any (λw args=>(Rows.versionReplaysSpec.pre enc Tryz.prog Tryz.f5 Rows.versionReplaysRow.domain false w args/\laidMetH Tryz.prog Rows.versionReplaysRow.laid w)/\sizedMet enc Tryz.prog Tryz.f5 (OpenSpec.ofChange Rows.versionReplaysSpec) false w args)
   (Rows.versionReplaysSpec.post enc Tryz.prog Tryz.f5 false true false false) :=
 BPF (C:=Tryz.checked) (X:=λw _=>laidMetH Tryz.prog Rows.versionReplaysRow.laid w) (tb:=4) (n:=40) (by kernel_rfl) (by kernel_rfl) (by kernel_rfl) (by kernel_rfl) Tryz.func5 (by kernel_rfl) (by kernel_rfl) rfl
  (λH ds h=>by
   match ds,(h.trans (by kernel_rfl:Tryz.f5.params.size=3)) with
   | [a0,a1,a2],_=>exact ⟨rfl,rfl,rfl⟩) (by
   have hp:(Tryz.f5.params.toList.all λt=>okT Tryz.prog 40 t&&Tryz.prog.readableRec t&&decide (t<Tryz.prog.types.size))=true:=by kernel_rfl
   intro t ht;have:=List.all_eq_true.1 hp t ht;simp only[Bool.and_eq_true,decide_eq_true_eq] at this;exact ⟨this.1.1,this.1.2,this.2⟩) (by kernel_rfl) rfl (by kernel_rfl) AT8 vL (by kernel_rfl) os started H enc
  (ChangeSpec.witness_shaped (enc:=enc) (C:=Tryz.checked) (os:=os) (X:=λw _=>laidMetH Tryz.prog Rows.versionReplaysRow.laid w) false (World.laidAll Tryz.prog os Rows.versionReplaysRow.laid) #[.agg #[.string ⟨#[]⟩,.slice none 0 0,.slice none 0 0,.slice none 0 0,.slice none 0 0,.slice none 0 0],.agg #[.slice none 0 0,.slice none 0 0],.slice none 0 0] 8 (World.laidAll_os _ _ _)
   (World.shaped_of_ZipB (by kernel_rfl) (by kernel_rfl)) (by kernel_rfl) (by kernel_rfl) (by kernel_rfl)
   (by rw[MakeChecks.laidMetH_plain _ _ _ (by kernel_rfl)];exact laidMet_laidAll _ (by kernel_rfl) (by kernel_rfl)))
def B5:(Rows.versionReplaysRow.wf (OpenSpec.ofChange Rows.versionReplaysSpec))=true:=by kernel_rfl
def B6:(laidOutB Tryz.pinned.checked.prog)=true:=by kernel_rfl
def B7:(mapsRowed Tryz.pinned.checked.prog)=true:=by kernel_rfl
def B8:(Tryz.f5.params.all (Tryz.pinned.checked.prog.readableRec ·))=true:=by kernel_rfl
def B9:(namedTie Tryz.pinned.checked.prog Rows.versionReplaysRow.named Rows.versionReplaysSpec.vars)=true:=by kernel_rfl
def CA:((Rows.versionReplaysRow.stops == []))=true:=by kernel_rfl
def CB:((Tryz.pinned.checked.prog.stops == []))=true:=by kernel_rfl
def CC:((Rows.versionReplaysRow.knobs == []))=true:=by kernel_rfl
def CD:((Tryz.pinned.checked.prog.stopKnobs == []))=true:=by kernel_rfl
def yR:((Rows.versionReplaysRow.inPlace == Tryz.pinned.checked.prog.inPlace 5))=true:=by kernel_rfl
def yS:((Rows.versionReplaysRow.unfollowed == Tryz.pinned.checked.prog.unfollowed 5))=true:=by kernel_rfl
def yT:((Rows.versionReplaysRow.recurses == Tryz.pinned.checked.prog.recurses 5))=true:=by kernel_rfl
def yU:((Rows.versionReplaysRow.named == Tryz.pinned.checked.prog.varsNamed 5))=true:=by kernel_rfl
def yV:((Rows.versionReplaysRow.maps == (Tryz.f5.params.toList++Rows.versionReplaysSpec.plain.varTypes Tryz.pinned.checked.prog).any (Tryz.pinned.checked.prog.mapsRec ·)))=true:=by kernel_rfl
def yW:((Rows.versionReplaysRow.ifaces == (Tryz.f5.params.toList++Rows.versionReplaysSpec.plain.varTypes Tryz.pinned.checked.prog).any (Tryz.pinned.checked.prog.ifacesRec ·)))=true:=by kernel_rfl
def yX:((Rows.versionReplaysRow.mapsOut == Tryz.pinned.checked.prog.mapsAmong Tryz.f5.resultTypes.toList))=true:=by kernel_rfl
def yY:((Rows.versionReplaysRow.loops == (Tryz.f5.params.toList++Rows.versionReplaysSpec.plain.varTypes Tryz.pinned.checked.prog).any (Tryz.pinned.checked.prog.loopsFrom ·)))=true:=by kernel_rfl
def yZ:((Rows.versionReplaysRow.wideKeys == (Tryz.f5.params.toList++Rows.versionReplaysSpec.plain.varTypes Tryz.pinned.checked.prog++Tryz.f5.resultTypes.toList).any (Tryz.pinned.checked.prog.wideKeysFrom ·)))=true:=by kernel_rfl
def zA:(Rows.versionReplaysSpec.vars.all (Tryz.pinned.checked.prog.varReadable ·))=true:=by kernel_rfl
def zB:(Tryz.f5.resultTypes.all (λt=>Tryz.pinned.checked.prog.readableRec t&&decide (t<Tryz.pinned.checked.prog.types.size)))=true:=by kernel_rfl
def zC:((Rows.versionReplaysRow.ifacesOut == Tryz.f5.resultTypes.toList.any (Tryz.pinned.checked.prog.ifacesRec ·)))=true:=by kernel_rfl
def zD:((Rows.versionReplaysRow.loopsOut == Tryz.f5.resultTypes.toList.any (Tryz.pinned.checked.prog.loopsFrom ·)))=true:=by kernel_rfl
def zE:((Rows.versionReplaysRow.plainKeys == Tryz.pinned.checked.prog.plainKeys))=true:=by kernel_rfl
def zF:(Rows.versionReplaysRow.shortTexts.isNone)=true:=by kernel_rfl
def zG:(Tryz.pinned.checked.prog.stopsHeard)=true:=by kernel_rfl
def zH:(Tryz.pinned.checked.prog.mayEnter)=true:=by kernel_rfl
def zI:((Rows.versionReplaysRow.lifted == Tryz.pinned.checked.prog.liftsFinal))=true:=by kernel_rfl
def zJ:((Tryz.pinned.checked.prog.make == some Rows.versionReplaysRow.make))=true:=by kernel_rfl
def zK:((Rows.versionReplaysRow.kinds == (if Rows.versionReplaysRow.domain.isEmpty then [] else Tryz.f5.params.toList.map λt=>match Tryz.pinned.checked.prog.underlying t with|some (.int k)=>some k|_=>none)))=true:=by kernel_rfl
def zL:((Rows.versionReplaysRow.pinned == Rows.versionReplaysRow.pinnedBy))=true:=by kernel_rfl
def zM:((Rows.versionReplaysRow.veiled == (Tryz.f5.params.toList++Rows.versionReplaysSpec.plain.varTypes Tryz.pinned.checked.prog++Tryz.f5.resultTypes.toList).any (Tryz.pinned.checked.prog.veiledRec ·)))=true:=by kernel_rfl
def zN:(Rows.versionReplaysRow.veiledFits Tryz.pinned.checked.prog Tryz.f5.params.toList (Tryz.f5.params.toList++Rows.versionReplaysSpec.plain.varTypes Tryz.pinned.checked.prog++Tryz.f5.resultTypes.toList))=true:=by kernel_rfl
def gC {a b:Bool} (h1:a=true) (h2:b=true):(a&&b)=true:=by rw[h1,h2];rfl
def F3:joinedFacts Tryz.pinned.checked.prog 5 Tryz.f5 Rows.versionReplaysSpec Rows.versionReplaysRow=true:=by
 unfold joinedFacts;exact gC (gC (gC (gC (gC (gC (gC (gC (gC (gC (gC (gC (gC (gC (gC (gC (gC (gC (gC (gC (gC (gC (gC (gC (gC (gC (gC (gC (gC (gC (gC (B5) B6) B7) B8) B9) CA) CB) CC) CD) yR) yS) yT) yU) yV) yW) yX) yY) yZ) zA) zB) zC) zD) zE) zF) zG) zH) zI) zJ) zK) zL) zM) zN
def w7:Rows.versionReplaysRow.holds Tryz.pinned (OpenSpec.ofChange Rows.versionReplaysSpec) :=
 OpenClaim.holds_of_wide 5 Tryz.f5 rfl rfl rfl rfl rfl rfl rfl ⟨rfl,rfl,rfl,rfl,rfl⟩ rfl rfl rfl rfl rfl (by as_aux_lemma=>kernel_rfl) Tryz.func5 F3
  (of_decide_eq_true (by as_aux_lemma=>kernel_rfl)) (by unfold Func.isWrapper;first|(rw[if_pos (by decide +kernel)];kernel_rfl)|(rw[if_neg (by decide +kernel)];exact ⟨rfl,rfl⟩))
  (λos started H enc _=>tT os started H enc)
variable {P:Program}
def BQR (h:P.funcs.toList.any Func.goes=false) (f:FuncId):P.goes f=false:=by
 have h1:∀ (g:FuncId) (fn:Func),P.funcs[g]? = some fn->Func.goes fn=false:=λg fn hg=>by
  have:=List.any_eq_false.1 h fn (Array.mem_toList_iff.2 (Array.mem_of_getElem? hg));simpa using this
 have h2:(P.closure f).any (λg=>(P.funcs[g]?).any Func.goes)=false:=List.any_eq_false.2 λg _=>by
  cases hg:P.funcs[g]? with
  | none=>simp
  | some fn=>simp[h1 g fn hg]
 have h3:P.funcs.any Func.goes=false:=by rw[<-Array.any_toList];exact h
 unfold Program.goes;rw[h2,h3,Bool.and_false];rfl
def BLF (h:P.funcs.toList.any Func.goes=false) (c:OpenClaim) (hs:c.start = .entering):false=c.goesBy P:=by
 unfold OpenClaim.goesBy Program.goesAt Program.goesFrom;rw[hs];cases P.funcNamed c.func with
 | none=>rfl
 | some f=>simp[BQR h f]
def versionReplays_proved:Rows.VersionReplaysCardSaid :=
 Claim7.holds_tied_plain_at .later [] [.data,.pinned] true (true, "84767e5bdc52dcb5e78cd345a222adead7c01bb53611c6dd9111ba1115c67124") false w7 (λ_ h=>by cases h) (by as_aux_lemma=>kernel_rfl) (λ_ h=>by cases h) versionReplays_row_tie rfl ⟨rfl,rfl⟩ (by as_aux_lemma=>kernel_rfl) rfl
  (λf fn hf hfn=>by
   obtain rfl:f=5:=Option.some.inj ((show Tryz.prog.funcNamed "shipyard/shipyardlaw21.VersionReplays" = some 5 by as_aux_lemma=>kernel_rfl).symm.trans hf) |>.symm
   obtain rfl:fn=Tryz.f5:=(Option.some.inj (Tryz.func5.symm.trans hfn)).symm;exact ⟨by as_aux_lemma=>kernel_rfl,λj t ht=>by
    have hall:(Tryz.f5.params.toList.all λu=>!Tryz.prog.wantsStandIn u)=true:=by as_aux_lemma=>kernel_rfl
    have hm:t∈Tryz.f5.params.toList:=by
     have:=Array.mem_of_getElem? ht;simpa using this
    exact (show Tryz.prog.wantsStandIn t=false by simpa using List.all_eq_true.1 hall t hm)⟩)
  (BLF (by as_aux_lemma=>kernel_rfl) _ rfl)
#print axioms versionReplays_proved
end Go.Proofs.YtcnfagefgkblkaaGreatDoor
