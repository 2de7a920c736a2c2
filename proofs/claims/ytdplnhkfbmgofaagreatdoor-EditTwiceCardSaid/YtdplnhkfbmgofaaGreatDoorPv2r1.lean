/-
  EditTwice: the law answers true for everything that comes in, as the card says. The listed variables (tables of unicode/utf8) lie as the program's text lays them; the card ties them.
-/
import Derived.Test.YtdplnhkfbmgofaaGreatDoorPv2z3
import Derived.Test.YtdplnhkfbmgofaaGreatDoorRows
import Derived.Test.YtdplnhkfbmgofaaGreatDoorCards
import Derived.Test.YtdplnhkfbmgofaaGreatDoorTie
import Derived.LaidMore
import Derived.Lay
import Derived.SevenTiedAt
import Derived.Stop.Joined
set_option linter.defProp false
set_option linter.unusedSimpArgs false
set_option linter.unusedVariables false
set_option maxRecDepth 100000
namespace Go.Proofs.YtdplnhkfbmgofaaGreatDoor
open Go Go.Pv Go.RowKit
theorem AR:∀ x,A28 tK x→nG x=some (.v (.bool true)):=by
 exact YV
theorem zE (os:Os) (started:os.Started) (H:Type) (enc:TypeId×Value→H) :
  ReturnsInHanded {} Tryz.checked os 4 .any (fun w args=>(Rows.editTwiceSpec.pre enc Tryz.prog Tryz.f4 Rows.editTwiceRow.domain false w args∧laidMetH Tryz.prog Rows.editTwiceRow.laid w)∧sizedMet enc Tryz.prog Tryz.f4 (OpenSpec.ofChange Rows.editTwiceSpec) false w args)
   (Rows.editTwiceSpec.post enc Tryz.prog Tryz.f4 false true false false) :=
 A80 (C:=Tryz.checked) (X:=fun w _=>laidMetH Tryz.prog Rows.editTwiceRow.laid w) (tb:=4) (n:=40) (by kernel_rfl) (by kernel_rfl) (by kernel_rfl) (by kernel_rfl) Tryz.func4 (by kernel_rfl) (by kernel_rfl) rfl
  (fun H ds h=>by
   match ds,(h.trans (by kernel_rfl:Tryz.f4.params.size=3)) with
   | [a0,a1,a2],_=>exact ⟨rfl,rfl,rfl⟩) (by
   have hp:(Tryz.f4.params.toList.all fun t=>okT Tryz.prog 40 t&&Tryz.prog.readableRec t&&decide (t<Tryz.prog.types.size))=true:=by kernel_rfl
   intro t ht
   have:=List.all_eq_true.1 hp t ht
   simp only[Bool.and_eq_true,decide_eq_true_eq] at this
   exact ⟨this.1.1,this.1.2,this.2⟩) (by kernel_rfl) rfl (by kernel_rfl) V4 AR (by kernel_rfl) os started H enc
  (ChangeSpec.witness_shaped (enc:=enc) (C:=Tryz.checked) (os:=os) (X:=fun w _=>laidMetH Tryz.prog Rows.editTwiceRow.laid w) false (World.laidAll Tryz.prog os Rows.editTwiceRow.laid) #[.agg #[.string ⟨#[]⟩,.slice none 0 0,.slice none 0 0,.slice none 0 0,.slice none 0 0,.slice none 0 0],.agg #[.slice none 0 0,.slice none 0 0],.agg #[.int .i64 0,.string ⟨#[]⟩,.string ⟨#[]⟩,.string ⟨#[]⟩,.int .i64 0,.string ⟨#[]⟩,.string ⟨#[]⟩,.int .i64 0,.int .i64 0,.string ⟨#[]⟩,.string ⟨#[]⟩,.int .i64 0,.slice none 0 0,.slice none 0 0,.string ⟨#[]⟩,.int .i64 0,.int .i64 0,.int .i64 0,.int .i64 0,.int .i64 0,.int .i64 0,.int .i64 0,.int .i64 0,.int .i64 0,.string ⟨#[]⟩,.string ⟨#[]⟩,.string ⟨#[]⟩,.int .i64 0,.int .i64 0,.int .i64 0,.string ⟨#[]⟩,.string ⟨#[]⟩,.slice none 0 0,.int .i64 0,.slice none 0 0,.int .i64 0,.string ⟨#[]⟩,.string ⟨#[]⟩]] 8 (World.laidAll_os _ _ _)
   (World.shaped_of_ZipB (by kernel_rfl) (by kernel_rfl)) (by kernel_rfl) (by kernel_rfl) (by kernel_rfl)
   (by rw[MakeChecks.laidMetH_plain _ _ _ (by kernel_rfl)];exact laidMet_laidAll _ (by kernel_rfl) (by kernel_rfl)))
theorem KX:(Rows.editTwiceRow.wf (OpenSpec.ofChange Rows.editTwiceSpec))=true:=by kernel_rfl
theorem KY:(laidOutB Tryz.pinned.checked.prog)=true:=by kernel_rfl
theorem KZ:(mapsRowed Tryz.pinned.checked.prog)=true:=by kernel_rfl
theorem K0:(Tryz.f4.params.all (Tryz.pinned.checked.prog.readableRec ·))=true:=by kernel_rfl
theorem K1:(namedTie Tryz.pinned.checked.prog Rows.editTwiceRow.named Rows.editTwiceSpec.vars)=true:=by kernel_rfl
theorem K2:((Rows.editTwiceRow.stops == []))=true:=by kernel_rfl
theorem K3:((Tryz.pinned.checked.prog.stops == []))=true:=by kernel_rfl
theorem K4:((Rows.editTwiceRow.knobs == []))=true:=by kernel_rfl
theorem K5:((Tryz.pinned.checked.prog.stopKnobs == []))=true:=by kernel_rfl
theorem GQ:((Rows.editTwiceRow.inPlace == Tryz.pinned.checked.prog.inPlace 4))=true:=by kernel_rfl
theorem GR:((Rows.editTwiceRow.unfollowed == Tryz.pinned.checked.prog.unfollowed 4))=true:=by kernel_rfl
theorem GS:((Rows.editTwiceRow.recurses == Tryz.pinned.checked.prog.recurses 4))=true:=by kernel_rfl
theorem GU:((Rows.editTwiceRow.named == Tryz.pinned.checked.prog.varsNamed 4))=true:=by kernel_rfl
theorem GV:((Rows.editTwiceRow.maps == (Tryz.f4.params.toList++Rows.editTwiceSpec.plain.varTypes Tryz.pinned.checked.prog).any (Tryz.pinned.checked.prog.mapsRec ·)))=true:=by kernel_rfl
theorem GW:((Rows.editTwiceRow.ifaces == (Tryz.f4.params.toList++Rows.editTwiceSpec.plain.varTypes Tryz.pinned.checked.prog).any (Tryz.pinned.checked.prog.ifacesRec ·)))=true:=by kernel_rfl
theorem GX:((Rows.editTwiceRow.mapsOut == Tryz.pinned.checked.prog.mapsAmong Tryz.f4.resultTypes.toList))=true:=by kernel_rfl
theorem GY:((Rows.editTwiceRow.loops == (Tryz.f4.params.toList++Rows.editTwiceSpec.plain.varTypes Tryz.pinned.checked.prog).any (Tryz.pinned.checked.prog.loopsFrom ·)))=true:=by kernel_rfl
theorem GZ:((Rows.editTwiceRow.wideKeys == (Tryz.f4.params.toList++Rows.editTwiceSpec.plain.varTypes Tryz.pinned.checked.prog++Tryz.f4.resultTypes.toList).any (Tryz.pinned.checked.prog.wideKeysFrom ·)))=true:=by kernel_rfl
theorem G0:(Rows.editTwiceSpec.vars.all (Tryz.pinned.checked.prog.varReadable ·))=true:=by kernel_rfl
theorem G1:(Tryz.f4.resultTypes.all (fun t=>Tryz.pinned.checked.prog.readableRec t&&decide (t<Tryz.pinned.checked.prog.types.size)))=true:=by kernel_rfl
theorem G2:((Rows.editTwiceRow.ifacesOut == Tryz.f4.resultTypes.toList.any (Tryz.pinned.checked.prog.ifacesRec ·)))=true:=by kernel_rfl
theorem G3:((Rows.editTwiceRow.loopsOut == Tryz.f4.resultTypes.toList.any (Tryz.pinned.checked.prog.loopsFrom ·)))=true:=by kernel_rfl
theorem G4:((Rows.editTwiceRow.plainKeys == Tryz.pinned.checked.prog.plainKeys))=true:=by kernel_rfl
theorem G5:(Rows.editTwiceRow.shortTexts.isNone)=true:=by kernel_rfl
theorem G6:(Tryz.pinned.checked.prog.stopsHeard)=true:=by kernel_rfl
theorem G7:(Tryz.pinned.checked.prog.mayEnter)=true:=by kernel_rfl
theorem G8:((Rows.editTwiceRow.lifted == Tryz.pinned.checked.prog.liftsFinal))=true:=by kernel_rfl
theorem G9:((Tryz.pinned.checked.prog.make == some Rows.editTwiceRow.make))=true:=by kernel_rfl
theorem HA:((Rows.editTwiceRow.kinds == (if Rows.editTwiceRow.domain.isEmpty then [] else Tryz.f4.params.toList.map fun t=>match Tryz.pinned.checked.prog.underlying t with|some (.int k)=>some k|_=>none)))=true:=by kernel_rfl
theorem HB:((Rows.editTwiceRow.pinned == Rows.editTwiceRow.pinnedBy))=true:=by kernel_rfl
theorem HC:((Rows.editTwiceRow.veiled == (Tryz.f4.params.toList++Rows.editTwiceSpec.plain.varTypes Tryz.pinned.checked.prog++Tryz.f4.resultTypes.toList).any (Tryz.pinned.checked.prog.veiledRec ·)))=true:=by kernel_rfl
theorem HD:(Rows.editTwiceRow.veiledFits Tryz.pinned.checked.prog Tryz.f4.params.toList (Tryz.f4.params.toList++Rows.editTwiceSpec.plain.varTypes Tryz.pinned.checked.prog++Tryz.f4.resultTypes.toList))=true:=by kernel_rfl
theorem e6 {a b:Bool} (h1:a=true) (h2:b=true):(a&&b)=true:=by rw[h1,h2];rfl
theorem SG:joinedFacts Tryz.pinned.checked.prog 4 Tryz.f4 Rows.editTwiceSpec Rows.editTwiceRow=true:=by
 unfold joinedFacts
 exact e6 (e6 (e6 (e6 (e6 (e6 (e6 (e6 (e6 (e6 (e6 (e6 (e6 (e6 (e6 (e6 (e6 (e6 (e6 (e6 (e6 (e6 (e6 (e6 (e6 (e6 (e6 (e6 (e6 (e6 (e6 (KX) KY) KZ) K0) K1) K2) K3) K4) K5) GQ) GR) GS) GU) GV) GW) GX) GY) GZ) G0) G1) G2) G3) G4) G5) G6) G7) G8) G9) HA) HB) HC) HD
theorem DF:Rows.editTwiceRow.holds Tryz.pinned (OpenSpec.ofChange Rows.editTwiceSpec) :=
 OpenClaim.holds_of_wide 4 Tryz.f4 rfl rfl rfl rfl rfl rfl rfl ⟨rfl,rfl,rfl,rfl,rfl⟩ rfl rfl rfl rfl rfl (by as_aux_lemma=>kernel_rfl) Tryz.func4 SG
  (of_decide_eq_true (by as_aux_lemma=>kernel_rfl)) (by unfold Func.isWrapper;first|(rw[if_pos (by decide +kernel)];kernel_rfl)|(rw[if_neg (by decide +kernel)];exact ⟨rfl,rfl⟩))
  (fun os started H enc _=>zE os started H enc)
theorem editTwice_proved:Rows.EditTwiceCardSaid :=
 Claim7.holds_tied_plain_at .later [] [.data,.pinned] true (true, "ffbff763e9f864db457c33b046cb4e673ef6ffe7fa1fdac6e8b2ae9fecd384f9") false DF (fun _ h=>by cases h) (by as_aux_lemma=>kernel_rfl) (fun _ h=>by cases h) editTwice_row_tie rfl ⟨rfl,rfl⟩ (by as_aux_lemma=>kernel_rfl) rfl
  (fun f fn hf hfn=>by
   obtain rfl:f=4:=Option.some.inj ((show Tryz.prog.funcNamed "shipyard/shipyardlaw19.EditTwice" = some 4 by as_aux_lemma=>kernel_rfl).symm.trans hf) |>.symm
   obtain rfl:fn=Tryz.f4:=(Option.some.inj (Tryz.func4.symm.trans hfn)).symm
   exact ⟨by as_aux_lemma=>kernel_rfl,fun j t ht=>by
    have hall:(Tryz.f4.params.toList.all fun u=>!Tryz.prog.wantsStandIn u)=true:=by as_aux_lemma=>kernel_rfl
    have hm:t∈Tryz.f4.params.toList:=by
     have:=Array.mem_of_getElem? ht
     simpa using this
    exact (show Tryz.prog.wantsStandIn t=false by simpa using List.all_eq_true.1 hall t hm)⟩)
  (by as_aux_lemma=>kernel_rfl)
#print axioms editTwice_proved
end Go.Proofs.YtdplnhkfbmgofaaGreatDoor
