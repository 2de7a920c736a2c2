/-
  PanelBest: the law answers true for everything that comes in, as the card says. The listed variables (tables of unicode/utf8) lie as the program's text lays them; the card ties them.
-/
import Derived.Test.YtlongjgklndggaaGreatDoorVbz1
import Derived.Test.YtlongjgklndggaaGreatDoorRows
import Derived.Test.YtlongjgklndggaaGreatDoorCards
import Derived.Test.YtlongjgklndggaaGreatDoorTie
import Derived.LaidMore
import Derived.Lay
import Derived.SevenTiedAt
import Derived.Stop.Joined
set_option linter.defProp false
set_option linter.unusedSimpArgs false
set_option linter.unusedVariables false
set_option maxRecDepth 100000
namespace Go.Proofs.YtlongjgklndggaaGreatDoor
open Go Go.Pv Go.RowKit
theorem nM:∀ x,SO pI x→jY x=some (.v (.bool true)):=by
 exact fun _ _=>rfl
theorem mQ (os:Os) (started:os.Started) (H:Type) (enc:TypeId×Value→H) :
  ReturnsInHanded {} Tryz.checked os 4 .any (fun w args=>(Rows.panelBestSpec.pre enc Tryz.prog Tryz.f4 Rows.panelBestRow.domain false w args∧laidMetH Tryz.prog Rows.panelBestRow.laid w)∧sizedMet enc Tryz.prog Tryz.f4 (OpenSpec.ofChange Rows.panelBestSpec) false w args)
   (Rows.panelBestSpec.post enc Tryz.prog Tryz.f4 false true false false) :=
 TD (C:=Tryz.checked) (X:=fun w _=>laidMetH Tryz.prog Rows.panelBestRow.laid w) (tb:=4) (n:=40) (by kernel_rfl) (by kernel_rfl) (by kernel_rfl) (by kernel_rfl) Tryz.func4 (by kernel_rfl) (by kernel_rfl) rfl
  (fun H ds h=>by
   match ds,(h.trans (by kernel_rfl:Tryz.f4.params.size=3)) with
   | [a0,a1,a2],_=>exact ⟨rfl,rfl,rfl⟩) (by
   have hp:(Tryz.f4.params.toList.all fun t=>ML Tryz.prog 40 t&&Tryz.prog.readableRec t&&decide (t<Tryz.prog.types.size))=true:=by kernel_rfl
   intro t ht
   have:=List.all_eq_true.1 hp t ht
   simp only[Bool.and_eq_true,decide_eq_true_eq] at this
   exact ⟨this.1.1,this.1.2,this.2⟩) (by kernel_rfl) rfl (by kernel_rfl) DF nM (by kernel_rfl) os started H enc
  (ChangeSpec.witness_shaped (enc:=enc) (C:=Tryz.checked) (os:=os) (X:=fun w _=>laidMetH Tryz.prog Rows.panelBestRow.laid w) false (World.laidAll Tryz.prog os Rows.panelBestRow.laid) #[.slice none 0 0,.agg #[.slice none 0 0,.slice none 0 0,.slice none 0 0,.slice none 0 0],.slice none 0 0] 8 (World.laidAll_os _ _ _)
   (World.shaped_of_ZipB (by kernel_rfl) (by kernel_rfl)) (by kernel_rfl) (by kernel_rfl) (by kernel_rfl)
   (by rw[MakeChecks.laidMetH_plain _ _ _ (by kernel_rfl)];exact laidMet_laidAll _ (by kernel_rfl) (by kernel_rfl)))
theorem tH:(Rows.panelBestRow.wf (OpenSpec.ofChange Rows.panelBestSpec))=true:=by kernel_rfl
theorem tI:(laidOutB Tryz.pinned.checked.prog)=true:=by kernel_rfl
theorem tJ:(mapsRowed Tryz.pinned.checked.prog)=true:=by kernel_rfl
theorem tK:(Tryz.f4.params.all (Tryz.pinned.checked.prog.readableRec ·))=true:=by kernel_rfl
theorem tL:(namedTie Tryz.pinned.checked.prog Rows.panelBestRow.named Rows.panelBestSpec.vars)=true:=by kernel_rfl
theorem tM:((Rows.panelBestRow.stops == []))=true:=by kernel_rfl
theorem tN:((Tryz.pinned.checked.prog.stops == []))=true:=by kernel_rfl
theorem tO:((Rows.panelBestRow.knobs == []))=true:=by kernel_rfl
theorem tP:((Tryz.pinned.checked.prog.stopKnobs == []))=true:=by kernel_rfl
theorem qJ:((Rows.panelBestRow.inPlace == Tryz.pinned.checked.prog.inPlace 4))=true:=by kernel_rfl
theorem qK:((Rows.panelBestRow.unfollowed == Tryz.pinned.checked.prog.unfollowed 4))=true:=by kernel_rfl
theorem qL:((Rows.panelBestRow.recurses == Tryz.pinned.checked.prog.recurses 4))=true:=by kernel_rfl
theorem qM:((Rows.panelBestRow.named == Tryz.pinned.checked.prog.varsNamed 4))=true:=by kernel_rfl
theorem qN:((Rows.panelBestRow.maps == (Tryz.f4.params.toList++Rows.panelBestSpec.plain.varTypes Tryz.pinned.checked.prog).any (Tryz.pinned.checked.prog.mapsRec ·)))=true:=by kernel_rfl
theorem qO:((Rows.panelBestRow.ifaces == (Tryz.f4.params.toList++Rows.panelBestSpec.plain.varTypes Tryz.pinned.checked.prog).any (Tryz.pinned.checked.prog.ifacesRec ·)))=true:=by kernel_rfl
theorem qP:((Rows.panelBestRow.mapsOut == Tryz.pinned.checked.prog.mapsAmong Tryz.f4.resultTypes.toList))=true:=by kernel_rfl
theorem qQ:((Rows.panelBestRow.loops == (Tryz.f4.params.toList++Rows.panelBestSpec.plain.varTypes Tryz.pinned.checked.prog).any (Tryz.pinned.checked.prog.loopsFrom ·)))=true:=by kernel_rfl
theorem qR:((Rows.panelBestRow.wideKeys == (Tryz.f4.params.toList++Rows.panelBestSpec.plain.varTypes Tryz.pinned.checked.prog++Tryz.f4.resultTypes.toList).any (Tryz.pinned.checked.prog.wideKeysFrom ·)))=true:=by kernel_rfl
theorem qS:(Rows.panelBestSpec.vars.all (Tryz.pinned.checked.prog.varReadable ·))=true:=by kernel_rfl
theorem qT:(Tryz.f4.resultTypes.all (fun t=>Tryz.pinned.checked.prog.readableRec t&&decide (t<Tryz.pinned.checked.prog.types.size)))=true:=by kernel_rfl
theorem qU:((Rows.panelBestRow.ifacesOut == Tryz.f4.resultTypes.toList.any (Tryz.pinned.checked.prog.ifacesRec ·)))=true:=by kernel_rfl
theorem qV:((Rows.panelBestRow.loopsOut == Tryz.f4.resultTypes.toList.any (Tryz.pinned.checked.prog.loopsFrom ·)))=true:=by kernel_rfl
theorem qW:((Rows.panelBestRow.plainKeys == Tryz.pinned.checked.prog.plainKeys))=true:=by kernel_rfl
theorem qX:(Rows.panelBestRow.shortTexts.isNone)=true:=by kernel_rfl
theorem qY:(Tryz.pinned.checked.prog.stopsHeard)=true:=by kernel_rfl
theorem qZ:(Tryz.pinned.checked.prog.mayEnter)=true:=by kernel_rfl
theorem q0:((Rows.panelBestRow.lifted == Tryz.pinned.checked.prog.liftsFinal))=true:=by kernel_rfl
theorem q7:((Tryz.pinned.checked.prog.make == some Rows.panelBestRow.make))=true:=by kernel_rfl
theorem q8:((Rows.panelBestRow.kinds == (if Rows.panelBestRow.domain.isEmpty then [] else Tryz.f4.params.toList.map fun t=>match Tryz.pinned.checked.prog.underlying t with|some (.int k)=>some k|_=>none)))=true:=by kernel_rfl
theorem q9:((Rows.panelBestRow.pinned == Rows.panelBestRow.pinnedBy))=true:=by kernel_rfl
theorem rA:((Rows.panelBestRow.veiled == (Tryz.f4.params.toList++Rows.panelBestSpec.plain.varTypes Tryz.pinned.checked.prog++Tryz.f4.resultTypes.toList).any (Tryz.pinned.checked.prog.veiledRec ·)))=true:=by kernel_rfl
theorem rB:(Rows.panelBestRow.veiledFits Tryz.pinned.checked.prog Tryz.f4.params.toList (Tryz.f4.params.toList++Rows.panelBestSpec.plain.varTypes Tryz.pinned.checked.prog++Tryz.f4.resultTypes.toList))=true:=by kernel_rfl
theorem cF {a b:Bool} (h1:a=true) (h2:b=true):(a&&b)=true:=by rw[h1,h2];rfl
theorem yG:joinedFacts Tryz.pinned.checked.prog 4 Tryz.f4 Rows.panelBestSpec Rows.panelBestRow=true:=by
 unfold joinedFacts
 exact cF (cF (cF (cF (cF (cF (cF (cF (cF (cF (cF (cF (cF (cF (cF (cF (cF (cF (cF (cF (cF (cF (cF (cF (cF (cF (cF (cF (cF (cF (cF (tH) tI) tJ) tK) tL) tM) tN) tO) tP) qJ) qK) qL) qM) qN) qO) qP) qQ) qR) qS) qT) qU) qV) qW) qX) qY) qZ) q0) q7) q8) q9) rA) rB
theorem oR:Rows.panelBestRow.holds Tryz.pinned (OpenSpec.ofChange Rows.panelBestSpec) :=
 OpenClaim.holds_of_wide 4 Tryz.f4 rfl rfl rfl rfl rfl rfl rfl ⟨rfl,rfl,rfl,rfl,rfl⟩ rfl rfl rfl rfl rfl (by as_aux_lemma=>kernel_rfl) Tryz.func4 yG
  (of_decide_eq_true (by as_aux_lemma=>kernel_rfl)) (by unfold Func.isWrapper;first|(rw[if_pos (by decide +kernel)];kernel_rfl)|(rw[if_neg (by decide +kernel)];exact ⟨rfl,rfl⟩))
  (fun os started H enc _=>mQ os started H enc)
theorem UK {P:Program} (h:P.funcs.toList.any Func.goes=false) (f:FuncId):P.goes f=false:=by
 have h1:∀ (g:FuncId) (fn:Func),P.funcs[g]? = some fn→Func.goes fn=false:=fun g fn hg=>by
  have:=List.any_eq_false.1 h fn (Array.mem_toList_iff.2 (Array.mem_of_getElem? hg))
  simpa using this
 have h2:(P.closure f).any (fun g=>(P.funcs[g]?).any Func.goes)=false:=List.any_eq_false.2 fun g _=>by
  cases hg:P.funcs[g]? with
  | none=>simp
  | some fn=>simp[h1 g fn hg]
 have h3:P.funcs.any Func.goes=false:=by rw[←Array.any_toList];exact h
 unfold Program.goes
 rw[h2,h3,Bool.and_false];rfl
theorem RH {P:Program} (h:P.funcs.toList.any Func.goes=false) (c:OpenClaim) (hs:c.start = .entering):false=c.goesBy P:=by
 unfold OpenClaim.goesBy Program.goesAt Program.goesFrom
 rw[hs]
 cases P.funcNamed c.func with
 | none=>rfl
 | some f=>simp[UK h f]
theorem panelBest_proved:Rows.PanelBestCardSaid :=
 Claim7.holds_tied_plain_at .later [] [.data,.pinned] true (true, "469ea69c9de5f056009cd6c43e190f534961418bfe1855f604e5e49232fd4451") false oR (fun _ h=>by cases h) (by as_aux_lemma=>kernel_rfl) (fun _ h=>by cases h) panelBest_row_tie rfl ⟨rfl,rfl⟩ (by as_aux_lemma=>kernel_rfl) rfl
  (fun f fn hf hfn=>by
   obtain rfl:f=4:=Option.some.inj ((show Tryz.prog.funcNamed "shipyard/shipyardlaw39.PanelBest" = some 4 by as_aux_lemma=>kernel_rfl).symm.trans hf) |>.symm
   obtain rfl:fn=Tryz.f4:=(Option.some.inj (Tryz.func4.symm.trans hfn)).symm
   exact ⟨by as_aux_lemma=>kernel_rfl,fun j t ht=>by
    have hall:(Tryz.f4.params.toList.all fun u=>!Tryz.prog.wantsStandIn u)=true:=by as_aux_lemma=>kernel_rfl
    have hm:t∈Tryz.f4.params.toList:=by
     have:=Array.mem_of_getElem? ht
     simpa using this
    exact (show Tryz.prog.wantsStandIn t=false by simpa using List.all_eq_true.1 hall t hm)⟩)
  (RH (by as_aux_lemma=>kernel_rfl) _ rfl)
#print axioms panelBest_proved
end Go.Proofs.YtlongjgklndggaaGreatDoor
