/-
  VersionApart: the law answers true for everything that comes in, as the card says. The listed variables (tables of unicode/utf8) lie as the program's text lays them; the card ties them.
-/
import Derived.Test.YtjledgajjgkbhaaGreatDoorVapz3
import Derived.Test.YtjledgajjgkbhaaGreatDoorRows
import Derived.Test.YtjledgajjgkbhaaGreatDoorCards
import Derived.Test.YtjledgajjgkbhaaGreatDoorTie
import Derived.LaidMore
import Derived.Lay
import Derived.SevenTiedAt
import Derived.Stop.Joined
set_option linter.defProp false
set_option linter.unusedSimpArgs false
set_option linter.unusedVariables false
set_option maxRecDepth 100000
namespace Go.Proofs.YtjledgajjgkbhaaGreatDoor
open Go Go.Pv Go.RowKit
theorem wY:∀ x,A86 K2 x→yP x=some (.v (.bool true)):=by
 exact A1H
theorem wN (os:Os) (started:os.Started) (H:Type) (enc:TypeId×Value→H) :
  ReturnsInHanded {} Tryz.checked os 3 .any (fun w args=>(Rows.versionApartSpec.pre enc Tryz.prog Tryz.f3 Rows.versionApartRow.domain false w args∧laidMetH Tryz.prog Rows.versionApartRow.laid w)∧sizedMet enc Tryz.prog Tryz.f3 (OpenSpec.ofChange Rows.versionApartSpec) false w args)
   (Rows.versionApartSpec.post enc Tryz.prog Tryz.f3 false true false false) :=
 BEN (C:=Tryz.checked) (X:=fun w _=>laidMetH Tryz.prog Rows.versionApartRow.laid w) (tb:=4) (n:=40) (by kernel_rfl) (by kernel_rfl) (by kernel_rfl) (by kernel_rfl) Tryz.func3 (by kernel_rfl) (by kernel_rfl) rfl
  (fun H ds h=>by
   match ds,(h.trans (by kernel_rfl:Tryz.f3.params.size=3)) with
   | [a0,a1,a2],_=>exact ⟨rfl,rfl,rfl⟩) (by
   have hp:(Tryz.f3.params.toList.all fun t=>okT Tryz.prog 40 t&&Tryz.prog.readableRec t&&decide (t<Tryz.prog.types.size))=true:=by kernel_rfl
   intro t ht
   have:=List.all_eq_true.1 hp t ht
   simp only[Bool.and_eq_true,decide_eq_true_eq] at this
   exact ⟨this.1.1,this.1.2,this.2⟩) (by kernel_rfl) rfl (by kernel_rfl) AXQ wY (by kernel_rfl) os started H enc
  (ChangeSpec.witness_shaped (enc:=enc) (C:=Tryz.checked) (os:=os) (X:=fun w _=>laidMetH Tryz.prog Rows.versionApartRow.laid w) false (World.laidAll Tryz.prog os Rows.versionApartRow.laid) #[.agg #[.string ⟨#[]⟩,.slice none 0 0,.slice none 0 0,.slice none 0 0,.slice none 0 0,.slice none 0 0],.agg #[.slice none 0 0,.slice none 0 0],.agg #[.string ⟨#[]⟩,.slice none 0 0]] 8 (World.laidAll_os _ _ _)
   (World.shaped_of_ZipB (by kernel_rfl) (by kernel_rfl)) (by kernel_rfl) (by kernel_rfl) (by kernel_rfl)
   (by rw[MakeChecks.laidMetH_plain _ _ _ (by kernel_rfl)];exact laidMet_laidAll _ (by kernel_rfl) (by kernel_rfl)))
theorem E0:(Rows.versionApartRow.wf (OpenSpec.ofChange Rows.versionApartSpec))=true:=by kernel_rfl
theorem E1:(laidOutB Tryz.pinned.checked.prog)=true:=by kernel_rfl
theorem E2:(mapsRowed Tryz.pinned.checked.prog)=true:=by kernel_rfl
theorem E3:(Tryz.f3.params.all (Tryz.pinned.checked.prog.readableRec ·))=true:=by kernel_rfl
theorem E4:(namedTie Tryz.pinned.checked.prog Rows.versionApartRow.named Rows.versionApartSpec.vars)=true:=by kernel_rfl
theorem E5:((Rows.versionApartRow.stops == []))=true:=by kernel_rfl
theorem E6:((Tryz.pinned.checked.prog.stops == []))=true:=by kernel_rfl
theorem E7:((Rows.versionApartRow.knobs == []))=true:=by kernel_rfl
theorem E8:((Tryz.pinned.checked.prog.stopKnobs == []))=true:=by kernel_rfl
theorem CO:((Rows.versionApartRow.inPlace == Tryz.pinned.checked.prog.inPlace 3))=true:=by kernel_rfl
theorem CP:((Rows.versionApartRow.unfollowed == Tryz.pinned.checked.prog.unfollowed 3))=true:=by kernel_rfl
theorem CQ:((Rows.versionApartRow.recurses == Tryz.pinned.checked.prog.recurses 3))=true:=by kernel_rfl
theorem CR:((Rows.versionApartRow.named == Tryz.pinned.checked.prog.varsNamed 3))=true:=by kernel_rfl
theorem CS:((Rows.versionApartRow.maps == (Tryz.f3.params.toList++Rows.versionApartSpec.plain.varTypes Tryz.pinned.checked.prog).any (Tryz.pinned.checked.prog.mapsRec ·)))=true:=by kernel_rfl
theorem CT:((Rows.versionApartRow.ifaces == (Tryz.f3.params.toList++Rows.versionApartSpec.plain.varTypes Tryz.pinned.checked.prog).any (Tryz.pinned.checked.prog.ifacesRec ·)))=true:=by kernel_rfl
theorem CU:((Rows.versionApartRow.mapsOut == Tryz.pinned.checked.prog.mapsAmong Tryz.f3.resultTypes.toList))=true:=by kernel_rfl
theorem CV:((Rows.versionApartRow.loops == (Tryz.f3.params.toList++Rows.versionApartSpec.plain.varTypes Tryz.pinned.checked.prog).any (Tryz.pinned.checked.prog.loopsFrom ·)))=true:=by kernel_rfl
theorem CW:((Rows.versionApartRow.wideKeys == (Tryz.f3.params.toList++Rows.versionApartSpec.plain.varTypes Tryz.pinned.checked.prog++Tryz.f3.resultTypes.toList).any (Tryz.pinned.checked.prog.wideKeysFrom ·)))=true:=by kernel_rfl
theorem CX:(Rows.versionApartSpec.vars.all (Tryz.pinned.checked.prog.varReadable ·))=true:=by kernel_rfl
theorem CY:(Tryz.f3.resultTypes.all (fun t=>Tryz.pinned.checked.prog.readableRec t&&decide (t<Tryz.pinned.checked.prog.types.size)))=true:=by kernel_rfl
theorem CZ:((Rows.versionApartRow.ifacesOut == Tryz.f3.resultTypes.toList.any (Tryz.pinned.checked.prog.ifacesRec ·)))=true:=by kernel_rfl
theorem C0:((Rows.versionApartRow.loopsOut == Tryz.f3.resultTypes.toList.any (Tryz.pinned.checked.prog.loopsFrom ·)))=true:=by kernel_rfl
theorem C1:((Rows.versionApartRow.plainKeys == Tryz.pinned.checked.prog.plainKeys))=true:=by kernel_rfl
theorem C2:(Rows.versionApartRow.shortTexts.isNone)=true:=by kernel_rfl
theorem C3:(Tryz.pinned.checked.prog.stopsHeard)=true:=by kernel_rfl
theorem C4:(Tryz.pinned.checked.prog.mayEnter)=true:=by kernel_rfl
theorem C5:((Rows.versionApartRow.lifted == Tryz.pinned.checked.prog.liftsFinal))=true:=by kernel_rfl
theorem C6:((Tryz.pinned.checked.prog.make == some Rows.versionApartRow.make))=true:=by kernel_rfl
theorem C7:((Rows.versionApartRow.kinds == (if Rows.versionApartRow.domain.isEmpty then [] else Tryz.f3.params.toList.map fun t=>match Tryz.pinned.checked.prog.underlying t with|some (.int k)=>some k|_=>none)))=true:=by kernel_rfl
theorem C8:((Rows.versionApartRow.pinned == Rows.versionApartRow.pinnedBy))=true:=by kernel_rfl
theorem C9:((Rows.versionApartRow.veiled == (Tryz.f3.params.toList++Rows.versionApartSpec.plain.varTypes Tryz.pinned.checked.prog++Tryz.f3.resultTypes.toList).any (Tryz.pinned.checked.prog.veiledRec ·)))=true:=by kernel_rfl
theorem DA:(Rows.versionApartRow.veiledFits Tryz.pinned.checked.prog Tryz.f3.params.toList (Tryz.f3.params.toList++Rows.versionApartSpec.plain.varTypes Tryz.pinned.checked.prog++Tryz.f3.resultTypes.toList))=true:=by kernel_rfl
theorem fZ {a b:Bool} (h1:a=true) (h2:b=true):(a&&b)=true:=by rw[h1,h2];rfl
theorem KI:joinedFacts Tryz.pinned.checked.prog 3 Tryz.f3 Rows.versionApartSpec Rows.versionApartRow=true:=by
 unfold joinedFacts
 exact fZ (fZ (fZ (fZ (fZ (fZ (fZ (fZ (fZ (fZ (fZ (fZ (fZ (fZ (fZ (fZ (fZ (fZ (fZ (fZ (fZ (fZ (fZ (fZ (fZ (fZ (fZ (fZ (fZ (fZ (fZ (E0) E1) E2) E3) E4) E5) E6) E7) E8) CO) CP) CQ) CR) CS) CT) CU) CV) CW) CX) CY) CZ) C0) C1) C2) C3) C4) C5) C6) C7) C8) C9) DA
theorem AP:Rows.versionApartRow.holds Tryz.pinned (OpenSpec.ofChange Rows.versionApartSpec) :=
 OpenClaim.holds_of_wide 3 Tryz.f3 rfl rfl rfl rfl rfl rfl rfl ⟨rfl,rfl,rfl,rfl,rfl⟩ rfl rfl rfl rfl rfl (by as_aux_lemma=>kernel_rfl) Tryz.func3 KI
  (of_decide_eq_true (by as_aux_lemma=>kernel_rfl)) (by unfold Func.isWrapper;first|(rw[if_pos (by decide +kernel)];kernel_rfl)|(rw[if_neg (by decide +kernel)];exact ⟨rfl,rfl⟩))
  (fun os started H enc _=>wN os started H enc)
theorem BFS {P:Program} (h:P.funcs.toList.any Func.goes=false) (f:FuncId):P.goes f=false:=by
 have h1:∀ (g:FuncId) (fn:Func),P.funcs[g]? = some fn→Func.goes fn=false:=fun g fn hg=>by
  have:=List.any_eq_false.1 h fn (Array.mem_toList_iff.2 (Array.mem_of_getElem? hg))
  simpa using this
 have h2:(P.closure f).any (fun g=>(P.funcs[g]?).any Func.goes)=false:=List.any_eq_false.2 fun g _=>by
  cases hg:P.funcs[g]? with
  | none=>simp
  | some fn=>simp[h1 g fn hg]
 have h3:P.funcs.any Func.goes=false:=by rw[←Array.any_toList];exact h
 unfold Program.goes
 rw[h2,h3,Bool.and_false];rfl
theorem BBG {P:Program} (h:P.funcs.toList.any Func.goes=false) (c:OpenClaim) (hs:c.start = .entering):false=c.goesBy P:=by
 unfold OpenClaim.goesBy Program.goesAt Program.goesFrom
 rw[hs]
 cases P.funcNamed c.func with
 | none=>rfl
 | some f=>simp[BFS h f]
theorem versionApart_proved:Rows.VersionApartCardSaid :=
 Claim7.holds_tied_plain_at .later [] [.data,.pinned] true (true, "01798c276d7c4a39ea2f8f7283bbbbb9b40371904b131ea329fbc02154ae07f6") false AP (fun _ h=>by cases h) (by as_aux_lemma=>kernel_rfl) (fun _ h=>by cases h) versionApart_row_tie rfl ⟨rfl,rfl⟩ (by as_aux_lemma=>kernel_rfl) rfl
  (fun f fn hf hfn=>by
   obtain rfl:f=3:=Option.some.inj ((show Tryz.prog.funcNamed "shipyard/shipyardlaw21.VersionApart" = some 3 by as_aux_lemma=>kernel_rfl).symm.trans hf) |>.symm
   obtain rfl:fn=Tryz.f3:=(Option.some.inj (Tryz.func3.symm.trans hfn)).symm
   exact ⟨by as_aux_lemma=>kernel_rfl,fun j t ht=>by
    have hall:(Tryz.f3.params.toList.all fun u=>!Tryz.prog.wantsStandIn u)=true:=by as_aux_lemma=>kernel_rfl
    have hm:t∈Tryz.f3.params.toList:=by
     have:=Array.mem_of_getElem? ht
     simpa using this
    exact (show Tryz.prog.wantsStandIn t=false by simpa using List.all_eq_true.1 hall t hm)⟩)
  (BBG (by as_aux_lemma=>kernel_rfl) _ rfl)
#print axioms versionApart_proved
end Go.Proofs.YtjledgajjgkbhaaGreatDoor
