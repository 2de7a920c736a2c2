/-
  PanelBelow: the law answers true for everything that comes in, as the card says. The listed variables (tables of unicode/utf8) lie as the program's text lays them; the card ties them.
-/
import Derived.Test.YtpkaicahnkpkhaaGreatDoorPuz3
import Derived.Test.YtpkaicahnkpkhaaGreatDoorRows
import Derived.Test.YtpkaicahnkpkhaaGreatDoorCards
import Derived.Test.YtpkaicahnkpkhaaGreatDoorTie
import Derived.LaidMore
import Derived.Lay
import Derived.SevenTiedAt
import Derived.Stop.Joined
set_option linter.unusedSimpArgs false
set_option linter.unusedVariables false
set_option maxRecDepth 100000
namespace Go.Proofs.YtpkaicahnkpkhaaGreatDoor
open Go Go.Pv Go.RowKit
theorem vL:∀ x,AU4 qT x→sT x=some (.v (.bool true)):=by
 rintro ⟨d,m,n1,n2⟩ h;exact pI _ (AT8 h.1)
theorem uM (os:Os) (started:os.Started) (H:Type) (enc:TypeId×Value→H) :
  ReturnsInHanded {} Tryz.checked os 6 .any (fun w args=>(Rows.panelBelowSpec.pre enc Tryz.prog Tryz.f6 Rows.panelBelowRow.domain false w args∧laidMetH Tryz.prog Rows.panelBelowRow.laid w)∧sizedMet enc Tryz.prog Tryz.f6 (OpenSpec.ofChange Rows.panelBelowSpec) false w args)
   (Rows.panelBelowSpec.post enc Tryz.prog Tryz.f6 false true false false) :=
 AVZ (C:=Tryz.checked) (X:=fun w _=>laidMetH Tryz.prog Rows.panelBelowRow.laid w) (tb:=4) (n:=40) (by kernel_rfl) (by kernel_rfl) (by kernel_rfl) (by kernel_rfl) Tryz.func6 (by kernel_rfl) (by kernel_rfl) rfl
  (fun H ds h=>by
   match ds,(h.trans (by kernel_rfl:Tryz.f6.params.size=3)) with
   | [a0,a1,a2],_=>exact ⟨rfl,rfl,rfl⟩) (by
   have hp:(Tryz.f6.params.toList.all fun t=>okT Tryz.prog 40 t&&Tryz.prog.readableRec t&&decide (t<Tryz.prog.types.size))=true:=by kernel_rfl
   intro t ht
   have:=List.all_eq_true.1 hp t ht
   simp only[Bool.and_eq_true,decide_eq_true_eq] at this
   exact ⟨this.1.1,this.1.2,this.2⟩) (by kernel_rfl) rfl (by kernel_rfl) TH vL (by kernel_rfl) os started H enc
  (ChangeSpec.witness_shaped (enc:=enc) (C:=Tryz.checked) (os:=os) (X:=fun w _=>laidMetH Tryz.prog Rows.panelBelowRow.laid w) false (World.laidAll Tryz.prog os Rows.panelBelowRow.laid) #[.agg #[.string ⟨#[]⟩,.slice none 0 0,.slice none 0 0,.slice none 0 0,.slice none 0 0,.slice none 0 0],.agg #[.slice none 0 0,.slice none 0 0],.agg #[.string ⟨#[]⟩,.string ⟨#[]⟩]] 8 (World.laidAll_os _ _ _)
   (World.shaped_of_ZipB (by kernel_rfl) (by kernel_rfl)) (by kernel_rfl) (by kernel_rfl) (by kernel_rfl)
   (by rw[MakeChecks.laidMetH_plain _ _ _ (by kernel_rfl)];exact laidMet_laidAll _ (by kernel_rfl) (by kernel_rfl)))
theorem DX:(Rows.panelBelowRow.wf (OpenSpec.ofChange Rows.panelBelowSpec))=true:=by kernel_rfl
theorem DY:(laidOutB Tryz.pinned.checked.prog)=true:=by kernel_rfl
theorem DZ:(mapsRowed Tryz.pinned.checked.prog)=true:=by kernel_rfl
theorem D0:(Tryz.f6.params.all (Tryz.pinned.checked.prog.readableRec ·))=true:=by kernel_rfl
theorem D1:(namedTie Tryz.pinned.checked.prog Rows.panelBelowRow.named Rows.panelBelowSpec.vars)=true:=by kernel_rfl
theorem D2:((Rows.panelBelowRow.stops == []))=true:=by kernel_rfl
theorem D3:((Tryz.pinned.checked.prog.stops == []))=true:=by kernel_rfl
theorem D4:((Rows.panelBelowRow.knobs == []))=true:=by kernel_rfl
theorem D5:((Tryz.pinned.checked.prog.stopKnobs == []))=true:=by kernel_rfl
theorem A5:((Rows.panelBelowRow.inPlace == Tryz.pinned.checked.prog.inPlace 6))=true:=by kernel_rfl
theorem A6:((Rows.panelBelowRow.unfollowed == Tryz.pinned.checked.prog.unfollowed 6))=true:=by kernel_rfl
theorem A7:((Rows.panelBelowRow.recurses == Tryz.pinned.checked.prog.recurses 6))=true:=by kernel_rfl
theorem A8:((Rows.panelBelowRow.named == Tryz.pinned.checked.prog.varsNamed 6))=true:=by kernel_rfl
theorem A9:((Rows.panelBelowRow.maps == (Tryz.f6.params.toList++Rows.panelBelowSpec.plain.varTypes Tryz.pinned.checked.prog).any (Tryz.pinned.checked.prog.mapsRec ·)))=true:=by kernel_rfl
theorem BA:((Rows.panelBelowRow.ifaces == (Tryz.f6.params.toList++Rows.panelBelowSpec.plain.varTypes Tryz.pinned.checked.prog).any (Tryz.pinned.checked.prog.ifacesRec ·)))=true:=by kernel_rfl
theorem BB:((Rows.panelBelowRow.mapsOut == Tryz.pinned.checked.prog.mapsAmong Tryz.f6.resultTypes.toList))=true:=by kernel_rfl
theorem BC:((Rows.panelBelowRow.loops == (Tryz.f6.params.toList++Rows.panelBelowSpec.plain.varTypes Tryz.pinned.checked.prog).any (Tryz.pinned.checked.prog.loopsFrom ·)))=true:=by kernel_rfl
theorem BD:((Rows.panelBelowRow.wideKeys == (Tryz.f6.params.toList++Rows.panelBelowSpec.plain.varTypes Tryz.pinned.checked.prog++Tryz.f6.resultTypes.toList).any (Tryz.pinned.checked.prog.wideKeysFrom ·)))=true:=by kernel_rfl
theorem BE:(Rows.panelBelowSpec.vars.all (Tryz.pinned.checked.prog.varReadable ·))=true:=by kernel_rfl
theorem BF:(Tryz.f6.resultTypes.all (fun t=>Tryz.pinned.checked.prog.readableRec t&&decide (t<Tryz.pinned.checked.prog.types.size)))=true:=by kernel_rfl
theorem BG:((Rows.panelBelowRow.ifacesOut == Tryz.f6.resultTypes.toList.any (Tryz.pinned.checked.prog.ifacesRec ·)))=true:=by kernel_rfl
theorem BH:((Rows.panelBelowRow.loopsOut == Tryz.f6.resultTypes.toList.any (Tryz.pinned.checked.prog.loopsFrom ·)))=true:=by kernel_rfl
theorem BI:((Rows.panelBelowRow.plainKeys == Tryz.pinned.checked.prog.plainKeys))=true:=by kernel_rfl
theorem BJ:(Rows.panelBelowRow.shortTexts.isNone)=true:=by kernel_rfl
theorem BK:(Tryz.pinned.checked.prog.stopsHeard)=true:=by kernel_rfl
theorem BL:(Tryz.pinned.checked.prog.mayEnter)=true:=by kernel_rfl
theorem BM:((Rows.panelBelowRow.lifted == Tryz.pinned.checked.prog.liftsFinal))=true:=by kernel_rfl
theorem BN:((Tryz.pinned.checked.prog.make == some Rows.panelBelowRow.make))=true:=by kernel_rfl
theorem BO:((Rows.panelBelowRow.kinds == (if Rows.panelBelowRow.domain.isEmpty then [] else Tryz.f6.params.toList.map fun t=>match Tryz.pinned.checked.prog.underlying t with|some (.int k)=>some k|_=>none)))=true:=by kernel_rfl
theorem BP:((Rows.panelBelowRow.pinned == Rows.panelBelowRow.pinnedBy))=true:=by kernel_rfl
theorem BQ:((Rows.panelBelowRow.veiled == (Tryz.f6.params.toList++Rows.panelBelowSpec.plain.varTypes Tryz.pinned.checked.prog++Tryz.f6.resultTypes.toList).any (Tryz.pinned.checked.prog.veiledRec ·)))=true:=by kernel_rfl
theorem BR:(Rows.panelBelowRow.veiledFits Tryz.pinned.checked.prog Tryz.f6.params.toList (Tryz.f6.params.toList++Rows.panelBelowSpec.plain.varTypes Tryz.pinned.checked.prog++Tryz.f6.resultTypes.toList))=true:=by kernel_rfl
theorem dY {a b:Bool} (h1:a=true) (h2:b=true):(a&&b)=true:=by rw[h1,h2];rfl
theorem KL:joinedFacts Tryz.pinned.checked.prog 6 Tryz.f6 Rows.panelBelowSpec Rows.panelBelowRow=true:=by
 unfold joinedFacts
 exact dY (dY (dY (dY (dY (dY (dY (dY (dY (dY (dY (dY (dY (dY (dY (dY (dY (dY (dY (dY (dY (dY (dY (dY (dY (dY (dY (dY (dY (dY (dY (DX) DY) DZ) D0) D1) D2) D3) D4) D5) A5) A6) A7) A8) A9) BA) BB) BC) BD) BE) BF) BG) BH) BI) BJ) BK) BL) BM) BN) BO) BP) BQ) BR
theorem w8:Rows.panelBelowRow.holds Tryz.pinned (OpenSpec.ofChange Rows.panelBelowSpec) :=
 OpenClaim.holds_of_wide 6 Tryz.f6 rfl rfl rfl rfl rfl rfl rfl ⟨rfl,rfl,rfl,rfl,rfl⟩ rfl rfl rfl rfl rfl (by as_aux_lemma=>kernel_rfl) Tryz.func6 KL
  (of_decide_eq_true (by as_aux_lemma=>kernel_rfl)) (by unfold Func.isWrapper;first|(rw[if_pos (by decide +kernel)];kernel_rfl)|(rw[if_neg (by decide +kernel)];exact ⟨rfl,rfl⟩))
  (fun os started H enc _=>uM os started H enc)
theorem panelBelow_proved:Rows.PanelBelowCardSaid :=
 Claim7.holds_tied_plain_at .later [] [.data,.pinned] true (true, "a270e44740f9e7d08f6675cd6629620c2e4d5599f1ae26c3d95e303b675bafbf") false w8 (fun _ h=>by cases h) (by as_aux_lemma=>kernel_rfl) (fun _ h=>by cases h) panelBelow_row_tie rfl ⟨rfl,rfl⟩ (by as_aux_lemma=>kernel_rfl) rfl
  (fun f fn hf hfn=>by
   obtain rfl:f=6:=Option.some.inj ((show Tryz.prog.funcNamed "shipyard/shipyardlaw39.PanelBelow" = some 6 by as_aux_lemma=>kernel_rfl).symm.trans hf) |>.symm
   obtain rfl:fn=Tryz.f6:=(Option.some.inj (Tryz.func6.symm.trans hfn)).symm
   exact ⟨by as_aux_lemma=>kernel_rfl,fun j t ht=>by
    have hall:(Tryz.f6.params.toList.all fun u=>!Tryz.prog.wantsStandIn u)=true:=by as_aux_lemma=>kernel_rfl
    have hm:t∈Tryz.f6.params.toList:=by
     have:=Array.mem_of_getElem? ht
     simpa using this
    exact (show Tryz.prog.wantsStandIn t=false by simpa using List.all_eq_true.1 hall t hm)⟩)
  (by as_aux_lemma=>kernel_rfl)
#print axioms panelBelow_proved
end Go.Proofs.YtpkaicahnkpkhaaGreatDoor
