/-
  PanelPlans: the law answers true for everything that comes in, as the card says. The listed variables (tables of unicode/utf8) lie as the program's text lays them; the card ties them.
-/
import Derived.Test.YtlongjgklndggaaGreatDoorVaz1
import Derived.Test.YtlongjgklndggaaGreatDoorRows
import Derived.Test.YtlongjgklndggaaGreatDoorCards
import Derived.Test.YtlongjgklndggaaGreatDoorTie
import Derived.LaidMore
import Derived.Lay
import Derived.SevenTiedAt
import Derived.Stop.Joined
set_option linter.defProp false
set_option linter.unusedSimpArgs false
set_option linter.unusedVariables false
set_option maxRecDepth 100000
namespace Go.Proofs.YtlongjgklndggaaGreatDoor
open Go Go.Pv Go.RowKit
theorem n8:∀ x,V5 oL x→jF x=some (.v (.bool true)):=by
 exact fun _ _=>rfl
theorem nK (os:Os) (started:os.Started) (H:Type) (enc:TypeId×Value→H) :
  ReturnsInHanded {} Tryz.checked os 3 .any (fun w args=>(Rows.panelPlansSpec.pre enc Tryz.prog Tryz.f3 Rows.panelPlansRow.domain false w args∧laidMetH Tryz.prog Rows.panelPlansRow.laid w)∧sizedMet enc Tryz.prog Tryz.f3 (OpenSpec.ofChange Rows.panelPlansSpec) false w args)
   (Rows.panelPlansSpec.post enc Tryz.prog Tryz.f3 false true false false) :=
 WX (C:=Tryz.checked) (X:=fun w _=>laidMetH Tryz.prog Rows.panelPlansRow.laid w) (tb:=4) (n:=40) (by kernel_rfl) (by kernel_rfl) (by kernel_rfl) (by kernel_rfl) Tryz.func3 (by kernel_rfl) (by kernel_rfl) rfl
  (fun H ds h=>by
   match ds,(h.trans (by kernel_rfl:Tryz.f3.params.size=3)) with
   | [a0,a1,a2],_=>exact ⟨rfl,rfl,rfl⟩) (by
   have hp:(Tryz.f3.params.toList.all fun t=>QC Tryz.prog 40 t&&Tryz.prog.readableRec t&&decide (t<Tryz.prog.types.size))=true:=by kernel_rfl
   intro t ht
   have:=List.all_eq_true.1 hp t ht
   simp only[Bool.and_eq_true,decide_eq_true_eq] at this
   exact ⟨this.1.1,this.1.2,this.2⟩) (by kernel_rfl) rfl (by kernel_rfl) C9 n8 (by kernel_rfl) os started H enc
  (ChangeSpec.witness_shaped (enc:=enc) (C:=Tryz.checked) (os:=os) (X:=fun w _=>laidMetH Tryz.prog Rows.panelPlansRow.laid w) false (World.laidAll Tryz.prog os Rows.panelPlansRow.laid) #[.slice none 0 0,.agg #[.slice none 0 0,.slice none 0 0,.slice none 0 0,.slice none 0 0],.int .i64 0] 8 (World.laidAll_os _ _ _)
   (World.shaped_of_ZipB (by kernel_rfl) (by kernel_rfl)) (by kernel_rfl) (by kernel_rfl) (by kernel_rfl)
   (by rw[MakeChecks.laidMetH_plain _ _ _ (by kernel_rfl)];exact laidMet_laidAll _ (by kernel_rfl) (by kernel_rfl)))
theorem sS:(Rows.panelPlansRow.wf (OpenSpec.ofChange Rows.panelPlansSpec))=true:=by kernel_rfl
theorem sT:(laidOutB Tryz.pinned.checked.prog)=true:=by kernel_rfl
theorem sU:(mapsRowed Tryz.pinned.checked.prog)=true:=by kernel_rfl
theorem sV:(Tryz.f3.params.all (Tryz.pinned.checked.prog.readableRec ·))=true:=by kernel_rfl
theorem sW:(namedTie Tryz.pinned.checked.prog Rows.panelPlansRow.named Rows.panelPlansSpec.vars)=true:=by kernel_rfl
theorem sX:((Rows.panelPlansRow.stops == []))=true:=by kernel_rfl
theorem sY:((Tryz.pinned.checked.prog.stops == []))=true:=by kernel_rfl
theorem sZ:((Rows.panelPlansRow.knobs == []))=true:=by kernel_rfl
theorem s0:((Tryz.pinned.checked.prog.stopKnobs == []))=true:=by kernel_rfl
theorem qM:((Rows.panelPlansRow.inPlace == Tryz.pinned.checked.prog.inPlace 3))=true:=by kernel_rfl
theorem qN:((Rows.panelPlansRow.unfollowed == Tryz.pinned.checked.prog.unfollowed 3))=true:=by kernel_rfl
theorem qO:((Rows.panelPlansRow.recurses == Tryz.pinned.checked.prog.recurses 3))=true:=by kernel_rfl
theorem qP:((Rows.panelPlansRow.named == Tryz.pinned.checked.prog.varsNamed 3))=true:=by kernel_rfl
theorem qQ:((Rows.panelPlansRow.maps == (Tryz.f3.params.toList++Rows.panelPlansSpec.plain.varTypes Tryz.pinned.checked.prog).any (Tryz.pinned.checked.prog.mapsRec ·)))=true:=by kernel_rfl
theorem qR:((Rows.panelPlansRow.ifaces == (Tryz.f3.params.toList++Rows.panelPlansSpec.plain.varTypes Tryz.pinned.checked.prog).any (Tryz.pinned.checked.prog.ifacesRec ·)))=true:=by kernel_rfl
theorem qS:((Rows.panelPlansRow.mapsOut == Tryz.pinned.checked.prog.mapsAmong Tryz.f3.resultTypes.toList))=true:=by kernel_rfl
theorem qT:((Rows.panelPlansRow.loops == (Tryz.f3.params.toList++Rows.panelPlansSpec.plain.varTypes Tryz.pinned.checked.prog).any (Tryz.pinned.checked.prog.loopsFrom ·)))=true:=by kernel_rfl
theorem qU:((Rows.panelPlansRow.wideKeys == (Tryz.f3.params.toList++Rows.panelPlansSpec.plain.varTypes Tryz.pinned.checked.prog++Tryz.f3.resultTypes.toList).any (Tryz.pinned.checked.prog.wideKeysFrom ·)))=true:=by kernel_rfl
theorem qV:(Rows.panelPlansSpec.vars.all (Tryz.pinned.checked.prog.varReadable ·))=true:=by kernel_rfl
theorem qW:(Tryz.f3.resultTypes.all (fun t=>Tryz.pinned.checked.prog.readableRec t&&decide (t<Tryz.pinned.checked.prog.types.size)))=true:=by kernel_rfl
theorem qX:((Rows.panelPlansRow.ifacesOut == Tryz.f3.resultTypes.toList.any (Tryz.pinned.checked.prog.ifacesRec ·)))=true:=by kernel_rfl
theorem qY:((Rows.panelPlansRow.loopsOut == Tryz.f3.resultTypes.toList.any (Tryz.pinned.checked.prog.loopsFrom ·)))=true:=by kernel_rfl
theorem qZ:((Rows.panelPlansRow.plainKeys == Tryz.pinned.checked.prog.plainKeys))=true:=by kernel_rfl
theorem q0:(Rows.panelPlansRow.shortTexts.isNone)=true:=by kernel_rfl
theorem q7:(Tryz.pinned.checked.prog.stopsHeard)=true:=by kernel_rfl
theorem q8:(Tryz.pinned.checked.prog.mayEnter)=true:=by kernel_rfl
theorem q9:((Rows.panelPlansRow.lifted == Tryz.pinned.checked.prog.liftsFinal))=true:=by kernel_rfl
theorem rA:((Tryz.pinned.checked.prog.make == some Rows.panelPlansRow.make))=true:=by kernel_rfl
theorem rB:((Rows.panelPlansRow.kinds == (if Rows.panelPlansRow.domain.isEmpty then [] else Tryz.f3.params.toList.map fun t=>match Tryz.pinned.checked.prog.underlying t with|some (.int k)=>some k|_=>none)))=true:=by kernel_rfl
theorem rC:((Rows.panelPlansRow.pinned == Rows.panelPlansRow.pinnedBy))=true:=by kernel_rfl
theorem rD:((Rows.panelPlansRow.veiled == (Tryz.f3.params.toList++Rows.panelPlansSpec.plain.varTypes Tryz.pinned.checked.prog++Tryz.f3.resultTypes.toList).any (Tryz.pinned.checked.prog.veiledRec ·)))=true:=by kernel_rfl
theorem rE:(Rows.panelPlansRow.veiledFits Tryz.pinned.checked.prog Tryz.f3.params.toList (Tryz.f3.params.toList++Rows.panelPlansSpec.plain.varTypes Tryz.pinned.checked.prog++Tryz.f3.resultTypes.toList))=true:=by kernel_rfl
theorem cM {a b:Bool} (h1:a=true) (h2:b=true):(a&&b)=true:=by rw[h1,h2];rfl
theorem xG:joinedFacts Tryz.pinned.checked.prog 3 Tryz.f3 Rows.panelPlansSpec Rows.panelPlansRow=true:=by
 unfold joinedFacts
 exact cM (cM (cM (cM (cM (cM (cM (cM (cM (cM (cM (cM (cM (cM (cM (cM (cM (cM (cM (cM (cM (cM (cM (cM (cM (cM (cM (cM (cM (cM (cM (sS) sT) sU) sV) sW) sX) sY) sZ) s0) qM) qN) qO) qP) qQ) qR) qS) qT) qU) qV) qW) qX) qY) qZ) q0) q7) q8) q9) rA) rB) rC) rD) rE
theorem oR:Rows.panelPlansRow.holds Tryz.pinned (OpenSpec.ofChange Rows.panelPlansSpec) :=
 OpenClaim.holds_of_wide 3 Tryz.f3 rfl rfl rfl rfl rfl rfl rfl ⟨rfl,rfl,rfl,rfl,rfl⟩ rfl rfl rfl rfl rfl (by as_aux_lemma=>kernel_rfl) Tryz.func3 xG
  (of_decide_eq_true (by as_aux_lemma=>kernel_rfl)) (by unfold Func.isWrapper;first|(rw[if_pos (by decide +kernel)];kernel_rfl)|(rw[if_neg (by decide +kernel)];exact ⟨rfl,rfl⟩))
  (fun os started H enc _=>nK os started H enc)
theorem YA {P:Program} (h:P.funcs.toList.any Func.goes=false) (f:FuncId):P.goes f=false:=by
 have h1:∀ (g:FuncId) (fn:Func),P.funcs[g]? = some fn→Func.goes fn=false:=fun g fn hg=>by
  have:=List.any_eq_false.1 h fn (Array.mem_toList_iff.2 (Array.mem_of_getElem? hg))
  simpa using this
 have h2:(P.closure f).any (fun g=>(P.funcs[g]?).any Func.goes)=false:=List.any_eq_false.2 fun g _=>by
  cases hg:P.funcs[g]? with
  | none=>simp
  | some fn=>simp[h1 g fn hg]
 have h3:P.funcs.any Func.goes=false:=by rw[←Array.any_toList];exact h
 unfold Program.goes
 rw[h2,h3,Bool.and_false];rfl
theorem U5 {P:Program} (h:P.funcs.toList.any Func.goes=false) (c:OpenClaim) (hs:c.start = .entering):false=c.goesBy P:=by
 unfold OpenClaim.goesBy Program.goesAt Program.goesFrom
 rw[hs]
 cases P.funcNamed c.func with
 | none=>rfl
 | some f=>simp[YA h f]
theorem panelPlans_proved:Rows.PanelPlansCardSaid :=
 Claim7.holds_tied_plain_at .later [] [.data,.pinned] true (true, "469ea69c9de5f056009cd6c43e190f534961418bfe1855f604e5e49232fd4451") false oR (fun _ h=>by cases h) (by as_aux_lemma=>kernel_rfl) (fun _ h=>by cases h) panelPlans_row_tie rfl ⟨rfl,rfl⟩ (by as_aux_lemma=>kernel_rfl) rfl
  (fun f fn hf hfn=>by
   obtain rfl:f=3:=Option.some.inj ((show Tryz.prog.funcNamed "shipyard/shipyardlaw39.PanelPlans" = some 3 by as_aux_lemma=>kernel_rfl).symm.trans hf) |>.symm
   obtain rfl:fn=Tryz.f3:=(Option.some.inj (Tryz.func3.symm.trans hfn)).symm
   exact ⟨by as_aux_lemma=>kernel_rfl,fun j t ht=>by
    have hall:(Tryz.f3.params.toList.all fun u=>!Tryz.prog.wantsStandIn u)=true:=by as_aux_lemma=>kernel_rfl
    have hm:t∈Tryz.f3.params.toList:=by
     have:=Array.mem_of_getElem? ht
     simpa using this
    exact (show Tryz.prog.wantsStandIn t=false by simpa using List.all_eq_true.1 hall t hm)⟩)
  (U5 (by as_aux_lemma=>kernel_rfl) _ rfl)
#print axioms panelPlans_proved
end Go.Proofs.YtlongjgklndggaaGreatDoor
