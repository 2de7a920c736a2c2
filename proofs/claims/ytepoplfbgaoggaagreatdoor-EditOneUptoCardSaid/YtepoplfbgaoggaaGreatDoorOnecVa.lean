/-
  EditOne, the second form: the law answers true for everything that comes in of bulk at most 1048576, as the card says. The listed variables (tables of unicode/utf8) lie as the program's text lays them; the card ties them.
-/
import Derived.Test.YtepoplfbgaoggaaGreatDoorOnez4
import Derived.Test.YtepoplfbgaoggaaGreatDoorRows
import Derived.Test.YtepoplfbgaoggaaGreatDoorCards
import Derived.Test.YtepoplfbgaoggaaGreatDoorTie
import Derived.LaidMore
import Derived.Lay
import Derived.SevenTiedAt
import Derived.Stop.Joined
import Derived.Deep.DeepHandedRow
set_option linter.defProp false
set_option linter.unusedSimpArgs false
set_option linter.unusedVariables false
set_option maxRecDepth 100000
namespace Go.Proofs.YtepoplfbgaoggaaGreatDoor
open Go Go.Pv Go.RowKit
def A7Q {H:Type} (d:DataW H):1<=Rows.uptoBulk d:=by
 cases d with
 | lit l=>cases l<;>simp[Rows.uptoBulk]
 | nil=>simp[Rows.uptoBulk]
 | ptr d=>simp[Rows.uptoBulk]
 | slice elems spare=>simp[Rows.uptoBulk]
 | agg parts=>simp[Rows.uptoBulk]
 | iface t d=>simp[Rows.uptoBulk]
 | map entries=>simp[Rows.uptoBulk]
 | held h=>simp[Rows.uptoBulk]
def TB {H:Type}:∀ l:List (DataW H),l.length<=Rows.uptoBulkAll l
 | []=>Nat.zero_le _
 | d::l=>by
  have h1:=A7Q d;have h2:=TB l;simp only[Rows.uptoBulkAll,List.length_cons];omega
def OP {H:Type}:∀ l:List (Lit×DataW H),l.length<=Rows.uptoBulkEntries l
 | []=>Nat.zero_le _
 | (a,d)::l=>by
  have h2:=OP l;have h1:1<=Rows.uptoBulkEntry (a,d):=by cases a<;>simp[Rows.uptoBulkEntry]
  simp only[Rows.uptoBulkEntries,List.length_cons];omega
variable {K:Nat}
def D1 {a n b:Nat} (h:n<=K*a) (hab:a<=b):n<=K*b:=Nat.le_trans h (Nat.mul_le_mul_left K hab)
def BLN {n b:Nat} (h1:1<=K) (h:n<=b):n<=K*b:=Nat.le_trans h (by have:=Nat.mul_le_mul_right b h1;omega)
def EH (P:Program) (K:Nat) (t:TypeId):Bool:=match P.underlying t with
 | some (.pointer e)=>decide (e<P.types.size)
 | some (.slice e)=>decide (e<P.types.size)&&decide (P.bytesOf e<=K)
 | some (.struct fs)=>(fs.toList.map (·.type)).all λe=>decide (e<P.types.size)
 | some (.array _ e)=>decide (e<P.types.size)
 | some (.map k e)=>decide (e<P.types.size)&&decide (P.bytesOf k+P.bytesOf e<=K)
 | _=>true
mutual
def lA {H:Type} {P:Program} {K:Nat} (hG:∀ t,t<P.types.size->EH P K t=true) (h1:1<=K):∀ (d:DataW H) (t:TypeId),t<P.types.size->∀ n∈d.weights P t,n<=K*Rows.uptoBulk d
 | .lit (.string b),t,ht,n,hn=>by
  simp only[DataW.weights,List.mem_singleton] at hn;subst hn;simp only[Rows.uptoBulk];exact BLN h1 (by omega)
 | .lit (.bool _),t,ht,n,hn=>by simp[DataW.weights] at hn
 | .lit (.int _ _),t,ht,n,hn=>by simp[DataW.weights] at hn
 | .lit (.float _ _),t,ht,n,hn=>by simp[DataW.weights] at hn
 | .lit .nil,t,ht,n,hn=>by simp[DataW.weights] at hn
 | .nil,t,ht,n,hn=>by simp[DataW.weights] at hn
 | .ptr d,t,ht,n,hn=>by
  simp only[DataW.weights] at hn;simp only[Rows.uptoBulk];have g:=hG t ht;unfold EH at g;split at hn
  ·rename_i e he;rw[he] at g;exact D1 (lA hG h1 d e (of_decide_eq_true g) n hn) (by omega)
  ·cases hn
 | .slice elems spare,t,ht,n,hn=>by
  simp only[DataW.weights] at hn;simp only[Rows.uptoBulk];have b1:=TB elems;have b2:=TB spare;have g:=hG t ht;unfold EH at g;split at hn
  ·rename_i e he;rw[he] at g;have g:(decide (e<P.types.size)&&decide (P.bytesOf e<=K))=true:=g;rw[Bool.and_eq_true,decide_eq_true_eq,decide_eq_true_eq] at g;rcases List.mem_cons.1 hn with rfl|hn
   ·rw[Nat.mul_comm K];exact Nat.mul_le_mul (by omega) g.2
   ·rcases List.mem_append.1 hn with hn|hn
    ·exact D1 (pD hG h1 elems e g.1 n hn) (by omega)
    ·exact D1 (pD hG h1 spare e g.1 n hn) (by omega)
  ·cases hn
 | .agg parts,t,ht,n,hn=>by
  simp only[DataW.weights] at hn;simp only[Rows.uptoBulk];have g:=hG t ht;unfold EH at g;split at hn
  ·rename_i fs he;rw[he] at g;exact D1 (sZ hG h1 parts _ (λe hm=>of_decide_eq_true (List.all_eq_true.1 g e hm)) n hn) (by omega)
  ·rename_i m e he;rw[he] at g;exact D1 (pD hG h1 parts _ (of_decide_eq_true g) n hn) (by omega)
  ·cases hn
 | .iface _ _,t,ht,n,hn=>by simp[DataW.weights] at hn
 | .map entries,t,ht,n,hn=>by
  simp only[DataW.weights] at hn;simp only[Rows.uptoBulk];have g:=hG t ht;unfold EH at g;split at hn
  ·rename_i k e he;rw[he] at g;have g:(decide (e<P.types.size)&&decide (P.bytesOf k+P.bytesOf e<=K))=true:=g;rw[Bool.and_eq_true,decide_eq_true_eq,decide_eq_true_eq] at g;have b:=OP entries;rcases List.mem_cons.1 hn with rfl|hn
   ·rw[Nat.mul_comm K];exact Nat.mul_le_mul (by omega) g.2
   ·exact D1 (uK hG h1 entries e g.1 n hn) (by omega)
  ·cases hn
 | .held _,t,ht,n,hn=>by simp[DataW.weights] at hn
def pD {H:Type} {P:Program} {K:Nat} (hG:∀ t,t<P.types.size->EH P K t=true) (h1:1<=K):∀ (l:List (DataW H)) (e:TypeId),e<P.types.size->∀ n∈DataW.weightsAll P e l,n<=K*Rows.uptoBulkAll l
 | [],e,he,n,hn=>by simp[DataW.weightsAll] at hn
 | d::l,e,he,n,hn=>by
  simp only[DataW.weightsAll] at hn;simp only[Rows.uptoBulkAll];rcases List.mem_append.1 hn with hn|hn
  ·exact D1 (lA hG h1 d e he n hn) (by omega)
  ·exact D1 (pD hG h1 l e he n hn) (by omega)
def sZ {H:Type} {P:Program} {K:Nat} (hG:∀ t,t<P.types.size->EH P K t=true) (h1:1<=K):∀ (l:List (DataW H)) (ts:List TypeId),(∀ t∈ts,t<P.types.size)->∀ n∈DataW.weightsEach P ts l,n<=K*Rows.uptoBulkAll l
 | [],[],he,n,hn=>by simp[DataW.weightsEach] at hn
 | [],_::_,he,n,hn=>by simp[DataW.weightsEach] at hn
 | _::_,[],he,n,hn=>by simp[DataW.weightsEach] at hn
 | d::l,t::ts,he,n,hn=>by
  simp only[DataW.weightsEach] at hn;simp only[Rows.uptoBulkAll];rcases List.mem_append.1 hn with hn|hn
  ·exact D1 (lA hG h1 d t (he t (by simp)) n hn) (by omega)
  ·exact D1 (sZ hG h1 l ts (λu hu=>he u (by simp[hu])) n hn) (by omega)
def uK {H:Type} {P:Program} {K:Nat} (hG:∀ t,t<P.types.size->EH P K t=true) (h1:1<=K):∀ (l:List (Lit×DataW H)) (e:TypeId),e<P.types.size->∀ n∈DataW.weightsEntries P e l,n<=K*Rows.uptoBulkEntries l
 | [],e,he,n,hn=>by simp[DataW.weightsEntries] at hn
 | (a,d)::l,e,he,n,hn=>by
  simp only[DataW.weightsEntries] at hn;simp only[Rows.uptoBulkEntries];rcases List.mem_append.1 hn with hn|hn
  ·cases a with
   | string b =>
    simp only[DataW.weightsEntry] at hn;simp only[Rows.uptoBulkEntry];rcases List.mem_cons.1 hn with rfl|hn
    ·exact BLN h1 (by omega)
    ·exact D1 (lA hG h1 d e he n hn) (by omega)
   | bool _=>exact D1 (lA hG h1 d e he n (by simpa [DataW.weightsEntry] using hn)) (by simp only[Rows.uptoBulkEntry];omega)
   | int _ _=>exact D1 (lA hG h1 d e he n (by simpa [DataW.weightsEntry] using hn)) (by simp only[Rows.uptoBulkEntry];omega)
   | float _ _=>exact D1 (lA hG h1 d e he n (by simpa [DataW.weightsEntry] using hn)) (by simp only[Rows.uptoBulkEntry];omega)
   | nil=>exact D1 (lA hG h1 d e he n (by simpa [DataW.weightsEntry] using hn)) (by simp only[Rows.uptoBulkEntry];omega)
  ·exact D1 (uK hG h1 l e he n hn) (by omega)
end
def BA2:∀ t,t<Tryz.prog.types.size->EH Tryz.prog 1048576 t=true:=λt ht=>by
 have h:((List.range Tryz.prog.types.size).all (EH Tryz.prog 1048576))=true:=by kernel_rfl
 exact List.all_eq_true.1 h t (List.mem_range.2 ht)
def ACV {H:Type} {ts:List TypeId} {ds:List (DataW H)} (hts:∀ t∈ts,t<Tryz.prog.types.size) (h:Rows.uptoSmall H ds=true):(DataW.weightsEach Tryz.prog ts ds).all (· <= 2 ^ 40)=true:=by
 have hb:Rows.uptoBulkAll ds<=1048576:=of_decide_eq_true h;refine List.all_eq_true.2 λn hn=>decide_eq_true ?_;have:=sZ (K:=1048576) BA2 (by decide) ds ts hts n hn;omega
def PN:∀ x,YY (2 ^ 40) sR x->nF x=some (.v (.bool true)):=by
 exact AME
def AGQ {H:Type} {enc:TypeId×Value->H} {C:Checked} {os:Os} {f:FuncId} {fn:Func} {s:OpenSpec} {conds:List PathCond} {apart:Bool} {laid:List (String×DataW Unit)} (w0:World) (args:Array Value) (hos:w0.os=os) (hsh:(w0.forCall (λ_ _=>0) ⟨#[],args,[]⟩).Shaped C.prog)
  (hok:Input.okWideB C.prog (w0.forCall (λ_ _=>0) ⟨#[],args,[]⟩) f ⟨#[],args,[]⟩=true) (hrow:s.preRow enc C.prog fn conds apart laid (w0.forCall (λ_ _=>0) ⟨#[],args,[]⟩).memory args) :
  ∃ (w:World) (tape:Tape) (i:Input),w.os=os/\(w.forCall tape i).Shaped C.prog/\i.vars=[]/\Input.okWide C.prog (w.forCall tape i) .any w.heap.size f i /\
   s.preRow enc C.prog fn conds apart laid (w.forCall tape i).memory i.args/\({}:Assume).holds C.prog (lone (Frame.enter C.prog f i.args .normal) [] (w.forCall tape i)) :=
 ⟨w0,λ_ _=>0,⟨#[],args,[]⟩,hos,hsh,(Input.okWide_of_okWideB (base:=0) hok).1,(Input.okWide_of_okWideB hok).2,hrow,by
  simp only[Assume.holds];exact ⟨by simp,by simp,λ_=>Modest.zero,by simp,by simp⟩⟩
def OE:Array Value:=#[.agg #[.string ⟨#[]⟩,.slice none 0 0,.slice none 0 0,.slice none 0 0,.slice none 0 0,.slice none 0 0],.agg #[.slice none 0 0,.slice none 0 0],.agg #[.int .i64 0,.string ⟨#[]⟩,.string ⟨#[]⟩,.string ⟨#[]⟩,.int .i64 0,.string ⟨#[]⟩,.string ⟨#[]⟩,.int .i64 0,.int .i64 0,.string ⟨#[]⟩,.string ⟨#[]⟩,.int .i64 0,.slice none 0 0,.slice none 0 0,.string ⟨#[]⟩,.int .i64 0,.int .i64 0,.int .i64 0,.int .i64 0,.int .i64 0,.int .i64 0,.int .i64 0,.int .i64 0,.int .i64 0,.string ⟨#[]⟩,.string ⟨#[]⟩,.string ⟨#[]⟩,.int .i64 0,.int .i64 0,.int .i64 0,.string ⟨#[]⟩,.string ⟨#[]⟩,.slice none 0 0,.int .i64 0,.slice none 0 0,.int .i64 0,.string ⟨#[]⟩,.string ⟨#[]⟩]]
def PO (os:Os) {H:Type} (enc:TypeId×Value->H):∃ places,DataW.whole enc Tryz.prog ((World.laidAll Tryz.prog os Rows.editOneUptoRow.laid).forCall (λ_ _=>0) ⟨#[],OE,[]⟩).memory Tryz.f4.params.toList Rows.editOneSpec.vars false OE.toList 8=some ([.agg [.lit (.string []),.nil,.nil,.nil,.nil,.nil],.agg [.nil,.nil],.agg [.lit (.int .i64 0),.lit (.string []),.lit (.string []),.agg [.lit (.string []),.lit (.int .i64 0),.lit (.string [])],.agg [.lit (.string []),.lit (.int .i64 0),.lit (.int .i64 0),.lit (.string []),.lit (.string []),.lit (.int .i64 0),.agg [.nil,.nil],.lit (.string []),.lit (.int .i64 0),.lit (.int .i64 0),.agg [.lit (.int .i64 0),.lit (.int .i64 0),.lit (.int .i64 0)],.agg [.agg [.lit (.int .i64 0),.lit (.int .i64 0),.lit (.int .i64 0)],.lit (.int .i64 0)]],.agg [.lit (.string []),.lit (.string []),.lit (.string []),.lit (.int .i64 0),.lit (.int .i64 0),.lit (.int .i64 0)],.agg [.lit (.string []),.lit (.string []),.nil,.lit (.int .i64 0),.nil],.agg [.lit (.int .i64 0),.lit (.string []),.lit (.string [])]]],[],places) :=
 ⟨[],by kernel_rfl⟩
def LD (os:Os) (started:os.Started) (H:Type) (enc:TypeId×Value->H) (F:Stop.Interp) :
  ReturnsInHanded {} Tryz.checked os 4 .any ((Rows.OpenSpec.upto Rows.editOneSpec).preRow enc Tryz.prog Tryz.f4 Rows.editOneUptoRow.domain false Rows.editOneUptoRow.laid) (((Rows.OpenSpec.upto Rows.editOneSpec).at F).post enc Tryz.prog Tryz.f4 false true false false):=by
 obtain ⟨places,hx⟩:=PO os enc;refine returnsInHanded_of_row (C:=Tryz.checked) (s:=Rows.OpenSpec.upto Rows.editOneSpec) (by as_aux_lemma=>kernel_rfl) started (by as_aux_lemma=>kernel_rfl) Tryz.func4
  (AGQ (enc:=enc) (C:=Tryz.checked) (World.laidAll Tryz.prog os Rows.editOneUptoRow.laid) OE (World.laidAll_os _ _ _)
   (World.shaped_of_ZipB (by as_aux_lemma=>kernel_rfl) (by as_aux_lemma=>kernel_rfl)) (by as_aux_lemma=>kernel_rfl)
   (OpenSpec.preRow_of_cond 8 hx (by as_aux_lemma=>kernel_rfl) (λk hk=>by cases hk;kernel_rfl) (by as_aux_lemma=>kernel_rfl) (by rw[MakeChecks.laidMetH_plain _ _ _ (by kernel_rfl)];exact laidMet_laidAll _ (by kernel_rfl) (by kernel_rfl)))) ?_
 intro W base args ds gs before hval hW _ hcond _ hL hshp _;have hp:(Tryz.f4.params.toList.all λt=>okT Tryz.prog 40 t&&Tryz.prog.readableRec t&&decide (t<Tryz.prog.types.size))=true:=by as_aux_lemma=>kernel_rfl
 exact BBM (C:=Tryz.checked) (s:=Rows.editOneSpec) (tb:=4) (n:=40) (B:=2 ^ 40) (by decide) (by as_aux_lemma=>kernel_rfl) (by as_aux_lemma=>kernel_rfl) (by as_aux_lemma=>kernel_rfl) (by as_aux_lemma=>kernel_rfl) rfl
  (λH ds h=>by
   match ds,(h.trans (by kernel_rfl:Tryz.f4.params.size=3)) with
   | [a0,a1,a2],_=>exact ⟨rfl,rfl,rfl⟩) (by
   intro t ht;have:=List.all_eq_true.1 hp t ht;simp only[Bool.and_eq_true,decide_eq_true_eq] at this;exact ⟨this.1.1,this.1.2,this.2⟩) (by as_aux_lemma=>kernel_rfl) rfl (by as_aux_lemma=>kernel_rfl) AI3 PN (by as_aux_lemma=>kernel_rfl) hval hW (ACV (λt ht=>by have:=List.all_eq_true.1 hp t ht;simp only[Bool.and_eq_true,decide_eq_true_eq] at this;exact this.2) (hcond _ rfl)) hshp
def MB:(Rows.editOneUptoRow.wf (OpenSpec.ofChange Rows.editOneSpec))=true:=by kernel_rfl
def MC:(laidOutB Tryz.pinned.checked.prog)=true:=by kernel_rfl
def MD:(mapsRowed Tryz.pinned.checked.prog)=true:=by kernel_rfl
def ME:(Tryz.f4.params.all (Tryz.pinned.checked.prog.readableRec ·))=true:=by kernel_rfl
def MF:(namedTie Tryz.pinned.checked.prog Rows.editOneUptoRow.named Rows.editOneSpec.vars)=true:=by kernel_rfl
def MG:((Rows.editOneUptoRow.stops == []))=true:=by kernel_rfl
def MH:((Tryz.pinned.checked.prog.stops == []))=true:=by kernel_rfl
def MI:((Rows.editOneUptoRow.knobs == []))=true:=by kernel_rfl
def MJ:((Tryz.pinned.checked.prog.stopKnobs == []))=true:=by kernel_rfl
def IC:((Rows.editOneUptoRow.inPlace == Tryz.pinned.checked.prog.inPlace 4))=true:=by kernel_rfl
def ID:((Rows.editOneUptoRow.unfollowed == Tryz.pinned.checked.prog.unfollowed 4))=true:=by kernel_rfl
def IE:((Rows.editOneUptoRow.recurses == Tryz.pinned.checked.prog.recurses 4))=true:=by kernel_rfl
def IF:((Rows.editOneUptoRow.named == Tryz.pinned.checked.prog.varsNamed 4))=true:=by kernel_rfl
def IG:((Rows.editOneUptoRow.maps == (Tryz.f4.params.toList++Rows.editOneSpec.plain.varTypes Tryz.pinned.checked.prog).any (Tryz.pinned.checked.prog.mapsRec ·)))=true:=by kernel_rfl
def IH:((Rows.editOneUptoRow.ifaces == (Tryz.f4.params.toList++Rows.editOneSpec.plain.varTypes Tryz.pinned.checked.prog).any (Tryz.pinned.checked.prog.ifacesRec ·)))=true:=by kernel_rfl
def II:((Rows.editOneUptoRow.mapsOut == Tryz.pinned.checked.prog.mapsAmong Tryz.f4.resultTypes.toList))=true:=by kernel_rfl
def IJ:((Rows.editOneUptoRow.loops == (Tryz.f4.params.toList++Rows.editOneSpec.plain.varTypes Tryz.pinned.checked.prog).any (Tryz.pinned.checked.prog.loopsFrom ·)))=true:=by kernel_rfl
def IK:((Rows.editOneUptoRow.wideKeys == (Tryz.f4.params.toList++Rows.editOneSpec.plain.varTypes Tryz.pinned.checked.prog++Tryz.f4.resultTypes.toList).any (Tryz.pinned.checked.prog.wideKeysFrom ·)))=true:=by kernel_rfl
def IL:(Rows.editOneSpec.vars.all (Tryz.pinned.checked.prog.varReadable ·))=true:=by kernel_rfl
def IM:(Tryz.f4.resultTypes.all (λt=>Tryz.pinned.checked.prog.readableRec t&&decide (t<Tryz.pinned.checked.prog.types.size)))=true:=by kernel_rfl
def IP:((Rows.editOneUptoRow.ifacesOut == Tryz.f4.resultTypes.toList.any (Tryz.pinned.checked.prog.ifacesRec ·)))=true:=by kernel_rfl
def IQ:((Rows.editOneUptoRow.loopsOut == Tryz.f4.resultTypes.toList.any (Tryz.pinned.checked.prog.loopsFrom ·)))=true:=by kernel_rfl
def IS:((Rows.editOneUptoRow.plainKeys == Tryz.pinned.checked.prog.plainKeys))=true:=by kernel_rfl
def IT:(Rows.editOneUptoRow.shortTexts.isNone)=true:=by kernel_rfl
def IU:(Tryz.pinned.checked.prog.stopsHeard)=true:=by kernel_rfl
def IV:(Tryz.pinned.checked.prog.mayEnter)=true:=by kernel_rfl
def IW:((Rows.editOneUptoRow.lifted == Tryz.pinned.checked.prog.liftsFinal))=true:=by kernel_rfl
def IX:((Tryz.pinned.checked.prog.make == some Rows.editOneUptoRow.make))=true:=by kernel_rfl
def IY:((Rows.editOneUptoRow.kinds == (if Rows.editOneUptoRow.domain.isEmpty then [] else Tryz.f4.params.toList.map λt=>match Tryz.pinned.checked.prog.underlying t with|some (.int k)=>some k|_=>none)))=true:=by kernel_rfl
def IZ:((Rows.editOneUptoRow.pinned == Rows.editOneUptoRow.pinnedBy))=true:=by kernel_rfl
def I0:((Rows.editOneUptoRow.veiled == (Tryz.f4.params.toList++Rows.editOneSpec.plain.varTypes Tryz.pinned.checked.prog++Tryz.f4.resultTypes.toList).any (Tryz.pinned.checked.prog.veiledRec ·)))=true:=by kernel_rfl
def I1:(Rows.editOneUptoRow.veiledFits Tryz.pinned.checked.prog Tryz.f4.params.toList (Tryz.f4.params.toList++Rows.editOneSpec.plain.varTypes Tryz.pinned.checked.prog++Tryz.f4.resultTypes.toList))=true:=by kernel_rfl
def gV {a b:Bool} (h1:a=true) (h2:b=true):(a&&b)=true:=by rw[h1,h2];rfl
def U5:joinedFacts Tryz.pinned.checked.prog 4 Tryz.f4 Rows.editOneSpec Rows.editOneUptoRow=true:=by
 unfold joinedFacts;exact gV (gV (gV (gV (gV (gV (gV (gV (gV (gV (gV (gV (gV (gV (gV (gV (gV (gV (gV (gV (gV (gV (gV (gV (gV (gV (gV (gV (gV (gV (gV (MB) MC) MD) ME) MF) MG) MH) MI) MJ) IC) ID) IE) IF) IG) IH) II) IJ) IK) IL) IM) IP) IQ) IS) IT) IU) IV) IW) IX) IY) IZ) I0) I1
def TD:Rows.editOneUptoRow.holds Tryz.pinned (Rows.OpenSpec.upto Rows.editOneSpec) :=
 OpenClaim.holds_of_cond 4 Tryz.f4 rfl rfl rfl rfl rfl rfl rfl ⟨rfl,rfl,rfl,rfl,rfl⟩ rfl rfl rfl rfl rfl (by as_aux_lemma=>kernel_rfl) Tryz.func4 U5
  (of_decide_eq_true (by as_aux_lemma=>kernel_rfl)) (by unfold Func.isWrapper;first|(rw[if_pos (by decide +kernel)];kernel_rfl)|(rw[if_neg (by decide +kernel)];exact ⟨rfl,rfl⟩))
  (λos started H enc _ F=>by rw[OpenClaim.pre_eq_preRow];exact LD os started H enc F)
end Go.Proofs.YtepoplfbgaoggaaGreatDoor
