/-
  EditApart: the law answers true for everything that comes in, as the card says. The listed variables (tables of unicode/utf8) lie as the program's text lays them; the card ties them.
-/
import Derived.Test.YtdeckddpmegjeaaGreatDoorPv3z3
import Derived.Test.YtdeckddpmegjeaaGreatDoorRows
import Derived.Test.YtdeckddpmegjeaaGreatDoorCards
import Derived.Test.YtdeckddpmegjeaaGreatDoorTie
import Derived.LaidMore
import Derived.Lay
import Derived.SevenTiedAt
import Derived.Stop.Joined
set_option linter.defProp false
set_option linter.unusedSimpArgs false
set_option linter.unusedVariables false
set_option maxRecDepth 100000
namespace Go.Proofs.YtdeckddpmegjeaaGreatDoor
open Go Go.Pv Go.RowKit
theorem BS:∀ x,A64 uJ x→nX x=some (.v (.bool true)):=by
 exact AAL
theorem AI (os:Os) (started:os.Started) (H:Type) (enc:TypeId×Value→H) :
  ReturnsInHanded {} Tryz.checked os 3 .any (fun w args=>(Rows.editApartSpec.pre enc Tryz.prog Tryz.f3 Rows.editApartRow.domain false w args∧laidMetH Tryz.prog Rows.editApartRow.laid w)∧sizedMet enc Tryz.prog Tryz.f3 (OpenSpec.ofChange Rows.editApartSpec) false w args)
   (Rows.editApartSpec.post enc Tryz.prog Tryz.f3 false true false false) :=
 BDJ (C:=Tryz.checked) (X:=fun w _=>laidMetH Tryz.prog Rows.editApartRow.laid w) (tb:=4) (n:=40) (by kernel_rfl) (by kernel_rfl) (by kernel_rfl) (by kernel_rfl) Tryz.func3 (by kernel_rfl) (by kernel_rfl) rfl
  (fun H ds h=>by
   match ds,(h.trans (by kernel_rfl:Tryz.f3.params.size=2)) with
   | [a0,a1],_=>exact ⟨rfl,rfl,rfl⟩) (by
   have hp:(Tryz.f3.params.toList.all fun t=>okT Tryz.prog 40 t&&Tryz.prog.readableRec t&&decide (t<Tryz.prog.types.size))=true:=by kernel_rfl
   intro t ht
   have:=List.all_eq_true.1 hp t ht
   simp only[Bool.and_eq_true,decide_eq_true_eq] at this
   exact ⟨this.1.1,this.1.2,this.2⟩) (by kernel_rfl) rfl (by kernel_rfl) XR BS (by kernel_rfl) os started H enc
  (ChangeSpec.witness_shaped (enc:=enc) (C:=Tryz.checked) (os:=os) (X:=fun w _=>laidMetH Tryz.prog Rows.editApartRow.laid w) false (World.laidAll Tryz.prog os Rows.editApartRow.laid) #[.agg #[.string ⟨#[]⟩,.slice none 0 0,.slice none 0 0,.slice none 0 0,.slice none 0 0,.slice none 0 0],.agg #[.slice none 0 0,.slice none 0 0,.int .i64 0,.string ⟨#[]⟩,.string ⟨#[]⟩,.string ⟨#[]⟩,.int .i64 0,.string ⟨#[]⟩,.string ⟨#[]⟩,.int .i64 0,.int .i64 0,.string ⟨#[]⟩,.string ⟨#[]⟩,.int .i64 0,.slice none 0 0,.slice none 0 0,.string ⟨#[]⟩,.int .i64 0,.int .i64 0,.int .i64 0,.int .i64 0,.int .i64 0,.int .i64 0,.int .i64 0,.int .i64 0,.int .i64 0,.string ⟨#[]⟩,.string ⟨#[]⟩,.string ⟨#[]⟩,.int .i64 0,.int .i64 0,.int .i64 0,.string ⟨#[]⟩,.string ⟨#[]⟩,.slice none 0 0,.int .i64 0,.slice none 0 0,.int .i64 0,.string ⟨#[]⟩,.string ⟨#[]⟩,.int .i64 0,.string ⟨#[]⟩,.string ⟨#[]⟩,.string ⟨#[]⟩,.int .i64 0,.string ⟨#[]⟩,.string ⟨#[]⟩,.int .i64 0,.int .i64 0,.string ⟨#[]⟩,.string ⟨#[]⟩,.int .i64 0,.slice none 0 0,.slice none 0 0,.string ⟨#[]⟩,.int .i64 0,.int .i64 0,.int .i64 0,.int .i64 0,.int .i64 0,.int .i64 0,.int .i64 0,.int .i64 0,.int .i64 0,.string ⟨#[]⟩,.string ⟨#[]⟩,.string ⟨#[]⟩,.int .i64 0,.int .i64 0,.int .i64 0,.string ⟨#[]⟩,.string ⟨#[]⟩,.slice none 0 0,.int .i64 0,.slice none 0 0,.int .i64 0,.string ⟨#[]⟩,.string ⟨#[]⟩]] 8 (World.laidAll_os _ _ _)
   (World.shaped_of_ZipB (by kernel_rfl) (by kernel_rfl)) (by kernel_rfl) (by kernel_rfl) (by kernel_rfl)
   (by rw[MakeChecks.laidMetH_plain _ _ _ (by kernel_rfl)];exact laidMet_laidAll _ (by kernel_rfl) (by kernel_rfl)))
noncomputable abbrev TP:=Tryz.pinned.checked.prog
noncomputable abbrev ER:=Rows.editApartRow
noncomputable abbrev ES:=Rows.editApartSpec
theorem LY:(ER.wf (OpenSpec.ofChange ES))=true:=by kernel_rfl
theorem LZ:(laidOutB TP)=true:=by kernel_rfl
theorem L0:(mapsRowed TP)=true:=by kernel_rfl
theorem L1:(Tryz.f3.params.all (TP.readableRec ·))=true:=by kernel_rfl
theorem L2:(namedTie TP ER.named ES.vars)=true:=by kernel_rfl
theorem L3:((ER.stops == []))=true:=by kernel_rfl
theorem L4:((TP.stops == []))=true:=by kernel_rfl
theorem L5:((ER.knobs == []))=true:=by kernel_rfl
theorem L6:((TP.stopKnobs == []))=true:=by kernel_rfl
theorem HL:((ER.inPlace == TP.inPlace 3))=true:=by kernel_rfl
theorem HM:((ER.unfollowed == TP.unfollowed 3))=true:=by kernel_rfl
theorem HN:((ER.recurses == TP.recurses 3))=true:=by kernel_rfl
theorem HO:((ER.named == TP.varsNamed 3))=true:=by kernel_rfl
theorem HP:((ER.maps == (Tryz.f3.params.toList++ES.plain.varTypes TP).any (TP.mapsRec ·)))=true:=by kernel_rfl
theorem HQ:((ER.ifaces == (Tryz.f3.params.toList++ES.plain.varTypes TP).any (TP.ifacesRec ·)))=true:=by kernel_rfl
theorem HR:((ER.mapsOut == TP.mapsAmong Tryz.f3.resultTypes.toList))=true:=by kernel_rfl
theorem HS:((ER.loops == (Tryz.f3.params.toList++ES.plain.varTypes TP).any (TP.loopsFrom ·)))=true:=by kernel_rfl
theorem HT:((ER.wideKeys == (Tryz.f3.params.toList++ES.plain.varTypes TP++Tryz.f3.resultTypes.toList).any (TP.wideKeysFrom ·)))=true:=by kernel_rfl
theorem HU:(ES.vars.all (TP.varReadable ·))=true:=by kernel_rfl
theorem HV:(Tryz.f3.resultTypes.all (fun t=>TP.readableRec t&&decide (t<TP.types.size)))=true:=by kernel_rfl
theorem HW:((ER.ifacesOut == Tryz.f3.resultTypes.toList.any (TP.ifacesRec ·)))=true:=by kernel_rfl
theorem HX:((ER.loopsOut == Tryz.f3.resultTypes.toList.any (TP.loopsFrom ·)))=true:=by kernel_rfl
theorem HY:((ER.plainKeys == TP.plainKeys))=true:=by kernel_rfl
theorem HZ:(ER.shortTexts.isNone)=true:=by kernel_rfl
theorem H0:(TP.stopsHeard)=true:=by kernel_rfl
theorem H3:(TP.mayEnter)=true:=by kernel_rfl
theorem H4:((ER.lifted == TP.liftsFinal))=true:=by kernel_rfl
theorem H5:((TP.make == some ER.make))=true:=by kernel_rfl
theorem H6:((ER.kinds == (if ER.domain.isEmpty then [] else Tryz.f3.params.toList.map fun t=>match TP.underlying t with|some (.int k)=>some k|_=>none)))=true:=by kernel_rfl
theorem H7:((ER.pinned == ER.pinnedBy))=true:=by kernel_rfl
theorem H8:((ER.veiled == (Tryz.f3.params.toList++ES.plain.varTypes TP++Tryz.f3.resultTypes.toList).any (TP.veiledRec ·)))=true:=by kernel_rfl
theorem H9:(ER.veiledFits TP Tryz.f3.params.toList (Tryz.f3.params.toList++ES.plain.varTypes TP++Tryz.f3.resultTypes.toList))=true:=by kernel_rfl
theorem fO {a b:Bool} (h1:a=true) (h2:b=true):(a&&b)=true:=by rw[h1,h2];rfl
theorem TX:joinedFacts TP 3 Tryz.f3 ES ER=true:=by
 unfold joinedFacts
 exact fO (fO (fO (fO (fO (fO (fO (fO (fO (fO (fO (fO (fO (fO (fO (fO (fO (fO (fO (fO (fO (fO (fO (fO (fO (fO (fO (fO (fO (fO (fO (LY) LZ) L0) L1) L2) L3) L4) L5) L6) HL) HM) HN) HO) HP) HQ) HR) HS) HT) HU) HV) HW) HX) HY) HZ) H0) H3) H4) H5) H6) H7) H8) H9
theorem D4:Rows.editApartRow.holds Tryz.pinned (OpenSpec.ofChange Rows.editApartSpec) :=
 OpenClaim.holds_of_wide 3 Tryz.f3 rfl rfl rfl rfl rfl rfl rfl ⟨rfl,rfl,rfl,rfl,rfl⟩ rfl rfl rfl rfl rfl (by as_aux_lemma=>kernel_rfl) Tryz.func3 TX
  (of_decide_eq_true (by as_aux_lemma=>kernel_rfl)) (by unfold Func.isWrapper;first|(rw[if_pos (by decide +kernel)];kernel_rfl)|(rw[if_neg (by decide +kernel)];exact ⟨rfl,rfl⟩))
  (fun os started H enc _=>AI os started H enc)
theorem editApart_proved:Rows.EditApartCardSaid :=
 Claim7.holds_tied_plain_at .later [] [.data,.pinned] true (true, "491e075efef4ea9b785867cfe6d49fc3da394d7b244ad3ef030e7757421b994d") false D4 (fun _ h=>by cases h) (by as_aux_lemma=>kernel_rfl) (fun _ h=>by cases h) editApart_row_tie rfl ⟨rfl,rfl⟩ (by as_aux_lemma=>kernel_rfl) rfl
  (fun f fn hf hfn=>by
   obtain rfl:f=3:=Option.some.inj ((show Tryz.prog.funcNamed "shipyard/shipyardlaw19.EditApart" = some 3 by as_aux_lemma=>kernel_rfl).symm.trans hf) |>.symm
   obtain rfl:fn=Tryz.f3:=(Option.some.inj (Tryz.func3.symm.trans hfn)).symm
   exact ⟨by as_aux_lemma=>kernel_rfl,fun j t ht=>by
    have hall:(Tryz.f3.params.toList.all fun u=>!Tryz.prog.wantsStandIn u)=true:=by as_aux_lemma=>kernel_rfl
    have hm:t∈Tryz.f3.params.toList:=by
     have:=Array.mem_of_getElem? ht
     simpa using this
    exact (show Tryz.prog.wantsStandIn t=false by simpa using List.all_eq_true.1 hall t hm)⟩)
  (by as_aux_lemma=>kernel_rfl)
#print axioms editApart_proved
end Go.Proofs.YtdeckddpmegjeaaGreatDoor
