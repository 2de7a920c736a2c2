/-
  VersionFull: the law answers true for everything that comes in, as the card says. The listed variables (tables of unicode/utf8) lie as the program's text lays them; the card ties them.
-/
import Derived.Test.YtcnfagefgkblkaaGreatDoorVsz3
import Derived.Test.YtcnfagefgkblkaaGreatDoorRows
import Derived.Test.YtcnfagefgkblkaaGreatDoorCards
import Derived.Test.YtcnfagefgkblkaaGreatDoorTie
import Derived.LaidMore
import Derived.Lay
import Derived.SevenTiedAt
import Derived.Stop.Joined
set_option linter.defProp false
set_option linter.unusedSimpArgs false
set_option linter.unusedVariables false
set_option maxRecDepth 100000
namespace Go.Proofs.YtcnfagefgkblkaaGreatDoor
open Go Go.Pv Go.RowKit
theorem yO:∀ x,A7F xQ x→mP x=some (.v (.bool true)):=by
 exact AFV
theorem vA (os:Os) (started:os.Started) (H:Type) (enc:TypeId×Value→H) :
  ReturnsInHanded {} Tryz.checked os 4 .any (fun w args=>(Rows.versionFullSpec.pre enc Tryz.prog Tryz.f4 Rows.versionFullRow.domain false w args∧laidMetH Tryz.prog Rows.versionFullRow.laid w)∧sizedMet enc Tryz.prog Tryz.f4 (OpenSpec.ofChange Rows.versionFullSpec) false w args)
   (Rows.versionFullSpec.post enc Tryz.prog Tryz.f4 false true false false) :=
 BDL (C:=Tryz.checked) (X:=fun w _=>laidMetH Tryz.prog Rows.versionFullRow.laid w) (tb:=4) (n:=40) (by kernel_rfl) (by kernel_rfl) (by kernel_rfl) (by kernel_rfl) Tryz.func4 (by kernel_rfl) (by kernel_rfl) rfl
  (fun H ds h=>by
   match ds,(h.trans (by kernel_rfl:Tryz.f4.params.size=1)) with
   | [a0],_=>exact ⟨rfl,rfl,rfl⟩) (by
   have hp:(Tryz.f4.params.toList.all fun t=>okT Tryz.prog 40 t&&Tryz.prog.readableRec t&&decide (t<Tryz.prog.types.size))=true:=by kernel_rfl
   intro t ht
   have:=List.all_eq_true.1 hp t ht
   simp only[Bool.and_eq_true,decide_eq_true_eq] at this
   exact ⟨this.1.1,this.1.2,this.2⟩) (by kernel_rfl) rfl (by kernel_rfl) AD3 yO (by kernel_rfl) os started H enc
  (ChangeSpec.witness_shaped (enc:=enc) (C:=Tryz.checked) (os:=os) (X:=fun w _=>laidMetH Tryz.prog Rows.versionFullRow.laid w) false (World.laidAll Tryz.prog os Rows.versionFullRow.laid) #[.int .u8 0] 8 (World.laidAll_os _ _ _)
   (World.shaped_of_ZipB (by kernel_rfl) (by kernel_rfl)) (by kernel_rfl) (by kernel_rfl) (by kernel_rfl)
   (by rw[MakeChecks.laidMetH_plain _ _ _ (by kernel_rfl)];exact laidMet_laidAll _ (by kernel_rfl) (by kernel_rfl)))
theorem FB:(Rows.versionFullRow.wf (OpenSpec.ofChange Rows.versionFullSpec))=true:=by kernel_rfl
theorem FC:(laidOutB Tryz.pinned.checked.prog)=true:=by kernel_rfl
theorem FD:(mapsRowed Tryz.pinned.checked.prog)=true:=by kernel_rfl
theorem FE:(Tryz.f4.params.all (Tryz.pinned.checked.prog.readableRec ·))=true:=by kernel_rfl
theorem FF:(namedTie Tryz.pinned.checked.prog Rows.versionFullRow.named Rows.versionFullSpec.vars)=true:=by kernel_rfl
theorem FH:((Rows.versionFullRow.stops == []))=true:=by kernel_rfl
theorem FI:((Tryz.pinned.checked.prog.stops == []))=true:=by kernel_rfl
theorem FJ:((Rows.versionFullRow.knobs == []))=true:=by kernel_rfl
theorem FK:((Tryz.pinned.checked.prog.stopKnobs == []))=true:=by kernel_rfl
theorem CA:((Rows.versionFullRow.inPlace == Tryz.pinned.checked.prog.inPlace 4))=true:=by kernel_rfl
theorem CB:((Rows.versionFullRow.unfollowed == Tryz.pinned.checked.prog.unfollowed 4))=true:=by kernel_rfl
theorem CC:((Rows.versionFullRow.recurses == Tryz.pinned.checked.prog.recurses 4))=true:=by kernel_rfl
theorem CD:((Rows.versionFullRow.named == Tryz.pinned.checked.prog.varsNamed 4))=true:=by kernel_rfl
theorem CE:((Rows.versionFullRow.maps == (Tryz.f4.params.toList++Rows.versionFullSpec.plain.varTypes Tryz.pinned.checked.prog).any (Tryz.pinned.checked.prog.mapsRec ·)))=true:=by kernel_rfl
theorem CF:((Rows.versionFullRow.ifaces == (Tryz.f4.params.toList++Rows.versionFullSpec.plain.varTypes Tryz.pinned.checked.prog).any (Tryz.pinned.checked.prog.ifacesRec ·)))=true:=by kernel_rfl
theorem CG:((Rows.versionFullRow.mapsOut == Tryz.pinned.checked.prog.mapsAmong Tryz.f4.resultTypes.toList))=true:=by kernel_rfl
theorem CH:((Rows.versionFullRow.loops == (Tryz.f4.params.toList++Rows.versionFullSpec.plain.varTypes Tryz.pinned.checked.prog).any (Tryz.pinned.checked.prog.loopsFrom ·)))=true:=by kernel_rfl
theorem CI:((Rows.versionFullRow.wideKeys == (Tryz.f4.params.toList++Rows.versionFullSpec.plain.varTypes Tryz.pinned.checked.prog++Tryz.f4.resultTypes.toList).any (Tryz.pinned.checked.prog.wideKeysFrom ·)))=true:=by kernel_rfl
theorem CJ:(Rows.versionFullSpec.vars.all (Tryz.pinned.checked.prog.varReadable ·))=true:=by kernel_rfl
theorem CK:(Tryz.f4.resultTypes.all (fun t=>Tryz.pinned.checked.prog.readableRec t&&decide (t<Tryz.pinned.checked.prog.types.size)))=true:=by kernel_rfl
theorem CL:((Rows.versionFullRow.ifacesOut == Tryz.f4.resultTypes.toList.any (Tryz.pinned.checked.prog.ifacesRec ·)))=true:=by kernel_rfl
theorem CM:((Rows.versionFullRow.loopsOut == Tryz.f4.resultTypes.toList.any (Tryz.pinned.checked.prog.loopsFrom ·)))=true:=by kernel_rfl
theorem CN:((Rows.versionFullRow.plainKeys == Tryz.pinned.checked.prog.plainKeys))=true:=by kernel_rfl
theorem CO:(Rows.versionFullRow.shortTexts.isNone)=true:=by kernel_rfl
theorem CP:(Tryz.pinned.checked.prog.stopsHeard)=true:=by kernel_rfl
theorem CQ:(Tryz.pinned.checked.prog.mayEnter)=true:=by kernel_rfl
theorem CR:((Rows.versionFullRow.lifted == Tryz.pinned.checked.prog.liftsFinal))=true:=by kernel_rfl
theorem CS:((Tryz.pinned.checked.prog.make == some Rows.versionFullRow.make))=true:=by kernel_rfl
theorem CT:((Rows.versionFullRow.kinds == (if Rows.versionFullRow.domain.isEmpty then [] else Tryz.f4.params.toList.map fun t=>match Tryz.pinned.checked.prog.underlying t with|some (.int k)=>some k|_=>none)))=true:=by kernel_rfl
theorem CU:((Rows.versionFullRow.pinned == Rows.versionFullRow.pinnedBy))=true:=by kernel_rfl
theorem CV:((Rows.versionFullRow.veiled == (Tryz.f4.params.toList++Rows.versionFullSpec.plain.varTypes Tryz.pinned.checked.prog++Tryz.f4.resultTypes.toList).any (Tryz.pinned.checked.prog.veiledRec ·)))=true:=by kernel_rfl
theorem CW:(Rows.versionFullRow.veiledFits Tryz.pinned.checked.prog Tryz.f4.params.toList (Tryz.f4.params.toList++Rows.versionFullSpec.plain.varTypes Tryz.pinned.checked.prog++Tryz.f4.resultTypes.toList))=true:=by kernel_rfl
theorem fH {a b:Bool} (h1:a=true) (h2:b=true):(a&&b)=true:=by rw[h1,h2];rfl
theorem LU:joinedFacts Tryz.pinned.checked.prog 4 Tryz.f4 Rows.versionFullSpec Rows.versionFullRow=true:=by
 unfold joinedFacts
 exact fH (fH (fH (fH (fH (fH (fH (fH (fH (fH (fH (fH (fH (fH (fH (fH (fH (fH (fH (fH (fH (fH (fH (fH (fH (fH (fH (fH (fH (fH (fH (FB) FC) FD) FE) FF) FH) FI) FJ) FK) CA) CB) CC) CD) CE) CF) CG) CH) CI) CJ) CK) CL) CM) CN) CO) CP) CQ) CR) CS) CT) CU) CV) CW
theorem zT:Rows.versionFullRow.holds Tryz.pinned (OpenSpec.ofChange Rows.versionFullSpec) :=
 OpenClaim.holds_of_wide 4 Tryz.f4 rfl rfl rfl rfl rfl rfl rfl ⟨rfl,rfl,rfl,rfl,rfl⟩ rfl rfl rfl rfl rfl (by as_aux_lemma=>kernel_rfl) Tryz.func4 LU
  (of_decide_eq_true (by as_aux_lemma=>kernel_rfl)) (by unfold Func.isWrapper;first|(rw[if_pos (by decide +kernel)];kernel_rfl)|(rw[if_neg (by decide +kernel)];exact ⟨rfl,rfl⟩))
  (fun os started H enc _=>vA os started H enc)
theorem BER {P:Program} (h:P.funcs.toList.any Func.goes=false) (f:FuncId):P.goes f=false:=by
 have h1:∀ (g:FuncId) (fn:Func),P.funcs[g]? = some fn→Func.goes fn=false:=fun g fn hg=>by
  have:=List.any_eq_false.1 h fn (Array.mem_toList_iff.2 (Array.mem_of_getElem? hg))
  simpa using this
 have h2:(P.closure f).any (fun g=>(P.funcs[g]?).any Func.goes)=false:=List.any_eq_false.2 fun g _=>by
  cases hg:P.funcs[g]? with
  | none=>simp
  | some fn=>simp[h1 g fn hg]
 have h3:P.funcs.any Func.goes=false:=by rw[←Array.any_toList];exact h
 unfold Program.goes
 rw[h2,h3,Bool.and_false];rfl
theorem A9V {P:Program} (h:P.funcs.toList.any Func.goes=false) (c:OpenClaim) (hs:c.start = .entering):false=c.goesBy P:=by
 unfold OpenClaim.goesBy Program.goesAt Program.goesFrom
 rw[hs]
 cases P.funcNamed c.func with
 | none=>rfl
 | some f=>simp[BER h f]
theorem versionFull_proved:Rows.VersionFullCardSaid :=
 Claim7.holds_tied_plain_at .later [] [.data,.pinned] true (true, "84767e5bdc52dcb5e78cd345a222adead7c01bb53611c6dd9111ba1115c67124") false zT (fun _ h=>by cases h) (by as_aux_lemma=>kernel_rfl) (fun _ h=>by cases h) versionFull_row_tie rfl ⟨rfl,rfl⟩ (by as_aux_lemma=>kernel_rfl) rfl
  (fun f fn hf hfn=>by
   obtain rfl:f=4:=Option.some.inj ((show Tryz.prog.funcNamed "shipyard/shipyardlaw21.VersionFull" = some 4 by as_aux_lemma=>kernel_rfl).symm.trans hf) |>.symm
   obtain rfl:fn=Tryz.f4:=(Option.some.inj (Tryz.func4.symm.trans hfn)).symm
   exact ⟨by as_aux_lemma=>kernel_rfl,fun j t ht=>by
    have hall:(Tryz.f4.params.toList.all fun u=>!Tryz.prog.wantsStandIn u)=true:=by as_aux_lemma=>kernel_rfl
    have hm:t∈Tryz.f4.params.toList:=by
     have:=Array.mem_of_getElem? ht
     simpa using this
    exact (show Tryz.prog.wantsStandIn t=false by simpa using List.all_eq_true.1 hall t hm)⟩)
  (A9V (by as_aux_lemma=>kernel_rfl) _ rfl)
#print axioms versionFull_proved
end Go.Proofs.YtcnfagefgkblkaaGreatDoor
