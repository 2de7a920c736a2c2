/-
  PanelOfs, the second form: the law answers true for everything that comes in of bulk at most 1048576, as the card says. The listed variables (tables of unicode/utf8) lie as the program's text lays them; the card ties them.
-/
import Derived.Test.YtpkaicahnkpkhaaGreatDoorPzz3
import Derived.Test.YtpkaicahnkpkhaaGreatDoorRows
import Derived.Test.YtpkaicahnkpkhaaGreatDoorCards
import Derived.Test.YtpkaicahnkpkhaaGreatDoorTie
import Derived.LaidMore
import Derived.Lay
import Derived.SevenTiedAt
import Derived.Stop.Joined
import Derived.Deep.DeepHandedRow
set_option linter.unusedSimpArgs false
set_option linter.unusedVariables false
set_option maxRecDepth 100000
namespace Go.Proofs.YtpkaicahnkpkhaaGreatDoor
open Go Go.Pv Go.RowKit
theorem AOZ {H:Type} (d:DataW H):1≤Rows.uptoBulk d:=by
 cases d with
 | lit l=>cases l<;>simp[Rows.uptoBulk]
 | nil=>simp[Rows.uptoBulk]
 | ptr d=>simp[Rows.uptoBulk]
 | slice elems spare=>simp[Rows.uptoBulk]
 | agg parts=>simp[Rows.uptoBulk]
 | iface t d=>simp[Rows.uptoBulk]
 | map entries=>simp[Rows.uptoBulk]
 | held h=>simp[Rows.uptoBulk]
theorem KO {H:Type}:∀ l:List (DataW H),l.length≤Rows.uptoBulkAll l
 | []=>Nat.zero_le _
 | d::l=>by
  have h1:=AOZ d
  have h2:=KO l
  simp only[Rows.uptoBulkAll,List.length_cons];omega
theorem FU {H:Type}:∀ l:List (Lit×DataW H),l.length≤Rows.uptoBulkEntries l
 | []=>Nat.zero_le _
 | (a,d)::l=>by
  have h2:=FU l
  have h1:1≤Rows.uptoBulkEntry (a,d):=by cases a<;>simp[Rows.uptoBulkEntry]
  simp only[Rows.uptoBulkEntries,List.length_cons];omega
theorem vS {K a n b:Nat} (h:n≤K*a) (hab:a≤b):n≤K*b:=Nat.le_trans h (Nat.mul_le_mul_left K hab)
theorem AVT {K n b:Nat} (h1:1≤K) (h:n≤b):n≤K*b:=Nat.le_trans h (by have:=Nat.mul_le_mul_right b h1;omega)
def v8 (P:Program) (K:Nat) (t:TypeId):Bool:=match P.underlying t with
 | some (.pointer e)=>decide (e<P.types.size)
 | some (.slice e)=>decide (e<P.types.size)&&decide (P.bytesOf e≤K)
 | some (.struct fs)=>(fs.toList.map (·.type)).all fun e=>decide (e<P.types.size)
 | some (.array _ e)=>decide (e<P.types.size)
 | some (.map k e)=>decide (e<P.types.size)&&decide (P.bytesOf k+P.bytesOf e≤K)
 | _=>true
mutual
theorem hU {H:Type} {P:Program} {K:Nat} (hG:∀ t,t<P.types.size→v8 P K t=true) (h1:1≤K):∀ (d:DataW H) (t:TypeId),t<P.types.size→∀ n∈d.weights P t,n≤K*Rows.uptoBulk d
 | .lit (.string b),t,ht,n,hn=>by
  simp only[DataW.weights,List.mem_singleton] at hn
  subst hn
  simp only[Rows.uptoBulk]
  exact AVT h1 (by omega)
 | .lit (.bool _),t,ht,n,hn=>by simp[DataW.weights] at hn
 | .lit (.int _ _),t,ht,n,hn=>by simp[DataW.weights] at hn
 | .lit (.float _ _),t,ht,n,hn=>by simp[DataW.weights] at hn
 | .lit .nil,t,ht,n,hn=>by simp[DataW.weights] at hn
 | .nil,t,ht,n,hn=>by simp[DataW.weights] at hn
 | .ptr d,t,ht,n,hn=>by
  simp only[DataW.weights] at hn
  simp only[Rows.uptoBulk]
  have g:=hG t ht
  unfold v8 at g
  split at hn
  ·rename_i e he
   rw[he] at g
   exact vS (hU hG h1 d e (of_decide_eq_true g) n hn) (by omega)
  ·cases hn
 | .slice elems spare,t,ht,n,hn=>by
  simp only[DataW.weights] at hn
  simp only[Rows.uptoBulk]
  have b1:=KO elems
  have b2:=KO spare
  have g:=hG t ht
  unfold v8 at g
  split at hn
  ·rename_i e he
   rw[he] at g
   have g:(decide (e<P.types.size)&&decide (P.bytesOf e≤K))=true:=g
   rw[Bool.and_eq_true,decide_eq_true_eq,decide_eq_true_eq] at g
   rcases List.mem_cons.1 hn with rfl|hn
   ·rw[Nat.mul_comm K]
    exact Nat.mul_le_mul (by omega) g.2
   ·rcases List.mem_append.1 hn with hn|hn
    ·exact vS (lE hG h1 elems e g.1 n hn) (by omega)
    ·exact vS (lE hG h1 spare e g.1 n hn) (by omega)
  ·cases hn
 | .agg parts,t,ht,n,hn=>by
  simp only[DataW.weights] at hn
  simp only[Rows.uptoBulk]
  have g:=hG t ht
  unfold v8 at g
  split at hn
  ·rename_i fs he
   rw[he] at g
   exact vS (oA hG h1 parts _ (fun e hm=>of_decide_eq_true (List.all_eq_true.1 g e hm)) n hn) (by omega)
  ·rename_i m e he
   rw[he] at g
   exact vS (lE hG h1 parts _ (of_decide_eq_true g) n hn) (by omega)
  ·cases hn
 | .iface _ _,t,ht,n,hn=>by simp[DataW.weights] at hn
 | .map entries,t,ht,n,hn=>by
  simp only[DataW.weights] at hn
  simp only[Rows.uptoBulk]
  have g:=hG t ht
  unfold v8 at g
  split at hn
  ·rename_i k e he
   rw[he] at g
   have g:(decide (e<P.types.size)&&decide (P.bytesOf k+P.bytesOf e≤K))=true:=g
   rw[Bool.and_eq_true,decide_eq_true_eq,decide_eq_true_eq] at g
   have b:=FU entries
   rcases List.mem_cons.1 hn with rfl|hn
   ·rw[Nat.mul_comm K]
    exact Nat.mul_le_mul (by omega) g.2
   ·exact vS (o3 hG h1 entries e g.1 n hn) (by omega)
  ·cases hn
 | .held _,t,ht,n,hn=>by simp[DataW.weights] at hn
theorem lE {H:Type} {P:Program} {K:Nat} (hG:∀ t,t<P.types.size→v8 P K t=true) (h1:1≤K):∀ (l:List (DataW H)) (e:TypeId),e<P.types.size→∀ n∈DataW.weightsAll P e l,n≤K*Rows.uptoBulkAll l
 | [],e,he,n,hn=>by simp[DataW.weightsAll] at hn
 | d::l,e,he,n,hn=>by
  simp only[DataW.weightsAll] at hn
  simp only[Rows.uptoBulkAll]
  rcases List.mem_append.1 hn with hn|hn
  ·exact vS (hU hG h1 d e he n hn) (by omega)
  ·exact vS (lE hG h1 l e he n hn) (by omega)
theorem oA {H:Type} {P:Program} {K:Nat} (hG:∀ t,t<P.types.size→v8 P K t=true) (h1:1≤K):∀ (l:List (DataW H)) (ts:List TypeId),(∀ t∈ts,t<P.types.size)→∀ n∈DataW.weightsEach P ts l,n≤K*Rows.uptoBulkAll l
 | [],[],he,n,hn=>by simp[DataW.weightsEach] at hn
 | [],_::_,he,n,hn=>by simp[DataW.weightsEach] at hn
 | _::_,[],he,n,hn=>by simp[DataW.weightsEach] at hn
 | d::l,t::ts,he,n,hn=>by
  simp only[DataW.weightsEach] at hn
  simp only[Rows.uptoBulkAll]
  rcases List.mem_append.1 hn with hn|hn
  ·exact vS (hU hG h1 d t (he t (by simp)) n hn) (by omega)
  ·exact vS (oA hG h1 l ts (fun u hu=>he u (by simp[hu])) n hn) (by omega)
theorem o3 {H:Type} {P:Program} {K:Nat} (hG:∀ t,t<P.types.size→v8 P K t=true) (h1:1≤K):∀ (l:List (Lit×DataW H)) (e:TypeId),e<P.types.size→∀ n∈DataW.weightsEntries P e l,n≤K*Rows.uptoBulkEntries l
 | [],e,he,n,hn=>by simp[DataW.weightsEntries] at hn
 | (a,d)::l,e,he,n,hn=>by
  simp only[DataW.weightsEntries] at hn
  simp only[Rows.uptoBulkEntries]
  rcases List.mem_append.1 hn with hn|hn
  ·cases a with
   | string b =>
    simp only[DataW.weightsEntry] at hn
    simp only[Rows.uptoBulkEntry]
    rcases List.mem_cons.1 hn with rfl|hn
    ·exact AVT h1 (by omega)
    ·exact vS (hU hG h1 d e he n hn) (by omega)
   | bool _=>exact vS (hU hG h1 d e he n (by simpa [DataW.weightsEntry] using hn)) (by simp only[Rows.uptoBulkEntry];omega)
   | int _ _=>exact vS (hU hG h1 d e he n (by simpa [DataW.weightsEntry] using hn)) (by simp only[Rows.uptoBulkEntry];omega)
   | float _ _=>exact vS (hU hG h1 d e he n (by simpa [DataW.weightsEntry] using hn)) (by simp only[Rows.uptoBulkEntry];omega)
   | nil=>exact vS (hU hG h1 d e he n (by simpa [DataW.weightsEntry] using hn)) (by simp only[Rows.uptoBulkEntry];omega)
  ·exact vS (o3 hG h1 l e he n hn) (by omega)
end
theorem AP8:∀ t,t<Tryz.prog.types.size→v8 Tryz.prog 1048576 t=true:=fun t ht=>by
 have h:((List.range Tryz.prog.types.size).all (v8 Tryz.prog 1048576))=true:=by kernel_rfl
 exact List.all_eq_true.1 h t (List.mem_range.2 ht)
theorem SH {H:Type} {ts:List TypeId} {ds:List (DataW H)} (hts:∀ t∈ts,t<Tryz.prog.types.size) (h:Rows.uptoSmall H ds=true):(DataW.weightsEach Tryz.prog ts ds).all (· ≤ 2 ^ 40)=true:=by
 have hb:Rows.uptoBulkAll ds≤1048576:=of_decide_eq_true h
 refine List.all_eq_true.2 fun n hn=>decide_eq_true ?_
 have:=oA (K:=1048576) AP8 (by decide) ds ts hts n hn
 omega
theorem DK:∀ x,XQ (2 ^ 40) tL x→kT x=some (.v (.bool true)):=by
 exact AM6
theorem UZ {H:Type} {enc:TypeId×Value→H} {C:Checked} {os:Os} {f:FuncId} {fn:Func} {s:OpenSpec} {conds:List PathCond} {apart:Bool} {laid:List (String×DataW Unit)} (w0:World) (args:Array Value) (hos:w0.os=os) (hsh:(w0.forCall (fun _ _=>0) ⟨#[],args,[]⟩).Shaped C.prog)
  (hok:Input.okWideB C.prog (w0.forCall (fun _ _=>0) ⟨#[],args,[]⟩) f ⟨#[],args,[]⟩=true) (hrow:s.preRow enc C.prog fn conds apart laid (w0.forCall (fun _ _=>0) ⟨#[],args,[]⟩).memory args) :
  ∃ (w:World) (tape:Tape) (i:Input),w.os=os∧(w.forCall tape i).Shaped C.prog∧i.vars=[]∧Input.okWide C.prog (w.forCall tape i) .any w.heap.size f i ∧
   s.preRow enc C.prog fn conds apart laid (w.forCall tape i).memory i.args∧({}:Assume).holds C.prog (lone (Frame.enter C.prog f i.args .normal) [] (w.forCall tape i)) :=
 ⟨w0,fun _ _=>0,⟨#[],args,[]⟩,hos,hsh,(Input.okWide_of_okWideB (base:=0) hok).1,(Input.okWide_of_okWideB hok).2,hrow,by
  simp only[Assume.holds]
  exact ⟨by simp,by simp,fun _=>Modest.zero,by simp,by simp⟩⟩
theorem DL (os:Os) {H:Type} (enc:TypeId×Value→H):∃ places,DataW.whole enc Tryz.prog ((World.laidAll Tryz.prog os Rows.panelOfsUptoRow.laid).forCall (fun _ _=>0) ⟨#[],#[.agg #[.string ⟨#[]⟩,.slice none 0 0,.slice none 0 0,.slice none 0 0,.slice none 0 0,.slice none 0 0],.agg #[.slice none 0 0,.slice none 0 0],.string ⟨#[]⟩],[]⟩).memory Tryz.f3.params.toList Rows.panelOfsSpec.vars false #[.agg #[.string ⟨#[]⟩,.slice none 0 0,.slice none 0 0,.slice none 0 0,.slice none 0 0,.slice none 0 0],.agg #[.slice none 0 0,.slice none 0 0],.string ⟨#[]⟩].toList 8=some ([.agg [.lit (.string []),.nil,.nil,.nil,.nil,.nil],.agg [.nil,.nil],.lit (.string [])],[],places) :=
 ⟨[],by kernel_rfl⟩
theorem zC (os:Os) (started:os.Started) (H:Type) (enc:TypeId×Value→H) (F:Stop.Interp) :
  ReturnsInHanded {} Tryz.checked os 3 .any ((Rows.OpenSpec.upto Rows.panelOfsSpec).preRow enc Tryz.prog Tryz.f3 Rows.panelOfsUptoRow.domain false Rows.panelOfsUptoRow.laid) (((Rows.OpenSpec.upto Rows.panelOfsSpec).at F).post enc Tryz.prog Tryz.f3 false true false false):=by
 obtain ⟨places,hx⟩:=DL os enc
 refine returnsInHanded_of_row (C:=Tryz.checked) (s:=Rows.OpenSpec.upto Rows.panelOfsSpec) (by as_aux_lemma=>kernel_rfl) started (by as_aux_lemma=>kernel_rfl) Tryz.func3
  (UZ (enc:=enc) (C:=Tryz.checked) (World.laidAll Tryz.prog os Rows.panelOfsUptoRow.laid) #[.agg #[.string ⟨#[]⟩,.slice none 0 0,.slice none 0 0,.slice none 0 0,.slice none 0 0,.slice none 0 0],.agg #[.slice none 0 0,.slice none 0 0],.string ⟨#[]⟩] (World.laidAll_os _ _ _)
   (World.shaped_of_ZipB (by as_aux_lemma=>kernel_rfl) (by as_aux_lemma=>kernel_rfl)) (by as_aux_lemma=>kernel_rfl)
   (OpenSpec.preRow_of_cond 8 hx (by as_aux_lemma=>kernel_rfl) (fun k hk=>by cases hk;kernel_rfl) (by as_aux_lemma=>kernel_rfl) (by rw[MakeChecks.laidMetH_plain _ _ _ (by kernel_rfl)];exact laidMet_laidAll _ (by kernel_rfl) (by kernel_rfl)))) ?_
 intro W base args ds gs before hval hW _ hcond _ hL hshp _
 have hp:(Tryz.f3.params.toList.all fun t=>okT Tryz.prog 40 t&&Tryz.prog.readableRec t&&decide (t<Tryz.prog.types.size))=true:=by as_aux_lemma=>kernel_rfl
 exact AQH (C:=Tryz.checked) (s:=Rows.panelOfsSpec) (tb:=4) (n:=40) (B:=2 ^ 40) (by decide) (by as_aux_lemma=>kernel_rfl) (by as_aux_lemma=>kernel_rfl) (by as_aux_lemma=>kernel_rfl) (by as_aux_lemma=>kernel_rfl) rfl
  (fun H ds h=>by
   match ds,(h.trans (by kernel_rfl:Tryz.f3.params.size=3)) with
   | [a0,a1,a2],_=>exact ⟨rfl,rfl,rfl⟩) (by
   intro t ht
   have:=List.all_eq_true.1 hp t ht
   simp only[Bool.and_eq_true,decide_eq_true_eq] at this
   exact ⟨this.1.1,this.1.2,this.2⟩) (by as_aux_lemma=>kernel_rfl) rfl (by as_aux_lemma=>kernel_rfl) AKO DK (by as_aux_lemma=>kernel_rfl) hval hW (SH (fun t ht=>by have:=List.all_eq_true.1 hp t ht;simp only[Bool.and_eq_true,decide_eq_true_eq] at this;exact this.2) (hcond _ rfl)) hshp
theorem zU:(Rows.panelOfsUptoRow.wf (OpenSpec.ofChange Rows.panelOfsSpec))=true:=by kernel_rfl
theorem zV:(laidOutB Tryz.pinned.checked.prog)=true:=by kernel_rfl
theorem zW:(mapsRowed Tryz.pinned.checked.prog)=true:=by kernel_rfl
theorem zX:(Tryz.f3.params.all (Tryz.pinned.checked.prog.readableRec ·))=true:=by kernel_rfl
theorem zY:(namedTie Tryz.pinned.checked.prog Rows.panelOfsUptoRow.named Rows.panelOfsSpec.vars)=true:=by kernel_rfl
theorem zZ:((Rows.panelOfsUptoRow.stops == []))=true:=by kernel_rfl
theorem z6:((Tryz.pinned.checked.prog.stops == []))=true:=by kernel_rfl
theorem z7:((Rows.panelOfsUptoRow.knobs == []))=true:=by kernel_rfl
theorem z8:((Tryz.pinned.checked.prog.stopKnobs == []))=true:=by kernel_rfl
theorem xE:((Rows.panelOfsUptoRow.inPlace == Tryz.pinned.checked.prog.inPlace 3))=true:=by kernel_rfl
theorem xF:((Rows.panelOfsUptoRow.unfollowed == Tryz.pinned.checked.prog.unfollowed 3))=true:=by kernel_rfl
theorem xG:((Rows.panelOfsUptoRow.recurses == Tryz.pinned.checked.prog.recurses 3))=true:=by kernel_rfl
theorem xH:((Rows.panelOfsUptoRow.named == Tryz.pinned.checked.prog.varsNamed 3))=true:=by kernel_rfl
theorem xI:((Rows.panelOfsUptoRow.maps == (Tryz.f3.params.toList++Rows.panelOfsSpec.plain.varTypes Tryz.pinned.checked.prog).any (Tryz.pinned.checked.prog.mapsRec ·)))=true:=by kernel_rfl
theorem xJ:((Rows.panelOfsUptoRow.ifaces == (Tryz.f3.params.toList++Rows.panelOfsSpec.plain.varTypes Tryz.pinned.checked.prog).any (Tryz.pinned.checked.prog.ifacesRec ·)))=true:=by kernel_rfl
theorem xK:((Rows.panelOfsUptoRow.mapsOut == Tryz.pinned.checked.prog.mapsAmong Tryz.f3.resultTypes.toList))=true:=by kernel_rfl
theorem xL:((Rows.panelOfsUptoRow.loops == (Tryz.f3.params.toList++Rows.panelOfsSpec.plain.varTypes Tryz.pinned.checked.prog).any (Tryz.pinned.checked.prog.loopsFrom ·)))=true:=by kernel_rfl
theorem xM:((Rows.panelOfsUptoRow.wideKeys == (Tryz.f3.params.toList++Rows.panelOfsSpec.plain.varTypes Tryz.pinned.checked.prog++Tryz.f3.resultTypes.toList).any (Tryz.pinned.checked.prog.wideKeysFrom ·)))=true:=by kernel_rfl
theorem xN:(Rows.panelOfsSpec.vars.all (Tryz.pinned.checked.prog.varReadable ·))=true:=by kernel_rfl
theorem xO:(Tryz.f3.resultTypes.all (fun t=>Tryz.pinned.checked.prog.readableRec t&&decide (t<Tryz.pinned.checked.prog.types.size)))=true:=by kernel_rfl
theorem xP:((Rows.panelOfsUptoRow.ifacesOut == Tryz.f3.resultTypes.toList.any (Tryz.pinned.checked.prog.ifacesRec ·)))=true:=by kernel_rfl
theorem xQ:((Rows.panelOfsUptoRow.loopsOut == Tryz.f3.resultTypes.toList.any (Tryz.pinned.checked.prog.loopsFrom ·)))=true:=by kernel_rfl
theorem xR:((Rows.panelOfsUptoRow.plainKeys == Tryz.pinned.checked.prog.plainKeys))=true:=by kernel_rfl
theorem xS:(Rows.panelOfsUptoRow.shortTexts.isNone)=true:=by kernel_rfl
theorem xT:(Tryz.pinned.checked.prog.stopsHeard)=true:=by kernel_rfl
theorem xU:(Tryz.pinned.checked.prog.mayEnter)=true:=by kernel_rfl
theorem xV:((Rows.panelOfsUptoRow.lifted == Tryz.pinned.checked.prog.liftsFinal))=true:=by kernel_rfl
theorem xW:((Tryz.pinned.checked.prog.make == some Rows.panelOfsUptoRow.make))=true:=by kernel_rfl
theorem xX:((Rows.panelOfsUptoRow.kinds == (if Rows.panelOfsUptoRow.domain.isEmpty then [] else Tryz.f3.params.toList.map fun t=>match Tryz.pinned.checked.prog.underlying t with|some (.int k)=>some k|_=>none)))=true:=by kernel_rfl
theorem xY:((Rows.panelOfsUptoRow.pinned == Rows.panelOfsUptoRow.pinnedBy))=true:=by kernel_rfl
theorem xZ:((Rows.panelOfsUptoRow.veiled == (Tryz.f3.params.toList++Rows.panelOfsSpec.plain.varTypes Tryz.pinned.checked.prog++Tryz.f3.resultTypes.toList).any (Tryz.pinned.checked.prog.veiledRec ·)))=true:=by kernel_rfl
theorem x6:(Rows.panelOfsUptoRow.veiledFits Tryz.pinned.checked.prog Tryz.f3.params.toList (Tryz.f3.params.toList++Rows.panelOfsSpec.plain.varTypes Tryz.pinned.checked.prog++Tryz.f3.resultTypes.toList))=true:=by kernel_rfl
theorem eE {a b:Bool} (h1:a=true) (h2:b=true):(a&&b)=true:=by rw[h1,h2];rfl
theorem GS:joinedFacts Tryz.pinned.checked.prog 3 Tryz.f3 Rows.panelOfsSpec Rows.panelOfsUptoRow=true:=by
 unfold joinedFacts
 exact eE (eE (eE (eE (eE (eE (eE (eE (eE (eE (eE (eE (eE (eE (eE (eE (eE (eE (eE (eE (eE (eE (eE (eE (eE (eE (eE (eE (eE (eE (eE (zU) zV) zW) zX) zY) zZ) z6) z7) z8) xE) xF) xG) xH) xI) xJ) xK) xL) xM) xN) xO) xP) xQ) xR) xS) xT) xU) xV) xW) xX) xY) xZ) x6
theorem GO:Rows.panelOfsUptoRow.holds Tryz.pinned (Rows.OpenSpec.upto Rows.panelOfsSpec) :=
 OpenClaim.holds_of_cond 3 Tryz.f3 rfl rfl rfl rfl rfl rfl rfl ⟨rfl,rfl,rfl,rfl,rfl⟩ rfl rfl rfl rfl rfl (by as_aux_lemma=>kernel_rfl) Tryz.func3 GS
  (of_decide_eq_true (by as_aux_lemma=>kernel_rfl)) (by unfold Func.isWrapper;first|(rw[if_pos (by decide +kernel)];kernel_rfl)|(rw[if_neg (by decide +kernel)];exact ⟨rfl,rfl⟩))
  (fun os started H enc _ F=>by rw[OpenClaim.pre_eq_preRow];exact zC os started H enc F)
theorem panelOfsUpto_proved:Rows.PanelOfsUptoCardSaid :=
 Claim7.holds_tied_plain_at .later [] [.data,.pinned] true (true, "a270e44740f9e7d08f6675cd6629620c2e4d5599f1ae26c3d95e303b675bafbf") false GO (fun _ h=>by cases h) (by as_aux_lemma=>kernel_rfl) (fun _ h=>by cases h) panelOfsUpto_row_tie rfl ⟨rfl,rfl⟩ (by as_aux_lemma=>kernel_rfl) rfl
  (fun f fn hf hfn=>by
   obtain rfl:f=3:=Option.some.inj ((show Tryz.prog.funcNamed "shipyard/shipyardlaw39.PanelOfs" = some 3 by as_aux_lemma=>kernel_rfl).symm.trans hf) |>.symm
   obtain rfl:fn=Tryz.f3:=(Option.some.inj (Tryz.func3.symm.trans hfn)).symm
   exact ⟨by as_aux_lemma=>kernel_rfl,fun j t ht=>by
    have hall:(Tryz.f3.params.toList.all fun u=>!Tryz.prog.wantsStandIn u)=true:=by as_aux_lemma=>kernel_rfl
    have hm:t∈Tryz.f3.params.toList:=by
     have:=Array.mem_of_getElem? ht
     simpa using this
    exact (show Tryz.prog.wantsStandIn t=false by simpa using List.all_eq_true.1 hall t hm)⟩)
  (by as_aux_lemma=>kernel_rfl)
#print axioms panelOfsUpto_proved
end Go.Proofs.YtpkaicahnkpkhaaGreatDoor
