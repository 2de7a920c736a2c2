/-
  The symbolic executor, part j: what comes into a law, as typed data; from a function of data to the row's step.
-/
import Derived.Test.YtepoplfbgaoggaaGreatDoorOneki
import Derived.Test.YtepoplfbgaoggaaGreatDoorOnewq
import Derived.Handed
set_option linter.defProp false
set_option linter.unusedSimpArgs false
set_option linter.unusedVariables false
namespace Go.Pv
open Go Go.RowKit Go.WideShapes Go.ChangeShapes
def bsz:Sy->Nat
 | .int k=>k.bits / 8
 | .bool=>1
 | .str=>16
 | .any=>8
 | .pr a b=>bsz a+bsz b
 | .li _=>24
def qK (B:Nat):(r:Sy)->r.den->Prop
 | .int k,n=>(Lit.int k n).wf=true
 | .bool,_=>True
 | .str,s=>ByteArray.size s<=B
 | .any,_=>False
 | .pr a b,x=>qK B a x.1/\qK B b x.2
 | .li r,l=>List.length (α:=r.den) l*bsz r<=B/\List.length (α:=r.den) l<=B/\∀ y,List.Mem y (show List r.den from l)->qK B r y
def YY (B:Nat):(s:Sh)->Sh.den s->Prop
 | [],_=>True
 | [a],x=>qK B a.2 x
 | a::b::l,x=>qK B a.2 x.1/\YY B (b::l) x.2
abbrev InS (r:Sy) (x:r.den):Prop:=qK (2 ^ 47) r x
def BMW (P:Program) (n:Nat) (t:TypeId):Bool:=match syF P n t with
 | some r=>r.w == P.cellsOf t
 | none=>false
def PQ (P:Program):Nat->TypeId->Bool
 | 0,_=>false
 | n+1,t=>match P.underlying t with
  | some (.int _)=>true
  | some .bool=>true
  | some .string=>true
  | some (.slice e)=>(match syF P n e with
   | some r=>decide (bsz r<=P.bytesOf e)
   | none=>false)&&PQ P n e
  | some (.struct fs)=>fs.toList.all λf=>PQ P n f.type&&BMW P n f.type
  | some (.array _ e)=>PQ P n e&&BMW P n e
  | _=>false
def Wk.append {a a' b b':List T} (h:Wk a a') (h':Wk b b'):Wk (a++b) (a'++b'):=by
 refine ⟨by simp[h.1,h'.1],λi x y hx hy=>?_⟩;by_cases hi:i<a.length
 ·rw[List.getElem?_append_left hi] at hx;rw[List.getElem?_append_left (by rw[<-h.1];exact hi)] at hy;exact h.2 i x y hx hy
 ·rw[List.getElem?_append_right (by omega)] at hx;rw[List.getElem?_append_right (by rw[<-h.1];omega),<-h.1] at hy;exact h'.2 _ x y hx hy
def A3K {w:World} {own:Nat->Prop} {a:T} {f:Bool} {rows rows':List (List T)} {v:Value} (ha:gP a=some (f,rows)) (hl:rows.length=rows'.length) (hw:∀ (i:Nat) (r r':List T),rows[i]? = some r->rows'[i]? = some r'->Wk r r') (h:cS w own a v):cS w own (.sl false rows') v:=by
 have nilcase:rows=[]->(∃ a cap,v = .slice a 0 cap/\(a=none->cap=0))->cS w own (.sl false rows') v:=by
  rintro rfl ⟨a,cap,rfl,hn⟩;have:rows'=[]:=List.eq_nil_of_length_eq_zero hl.symm;subst this;exact .dF false a cap (by simp) hn
 unfold gP at ha;split at ha
 ·cases ha;cases h with
  | dF _ a cap hf hn=>exact nilcase rfl ⟨a,cap,rfl,hn⟩
  | sl _ _ sz b o cap g h1 h2 h3 h4 h45 h5 h6 h7 h8 =>
   rw[hl];refine .sl false rows' sz b o cap g (by omega) (by omega) (by simp) h4 h45 (λr hr=>?_) h6 (λi j hi hj=>h7 i j (by omega) hj) (λi j hi hj=>?_)
   ·obtain ⟨i,hi,rfl⟩:=List.mem_iff_getElem.1 hr;have hi':i<rows.length:=by omega
    have:=(hw i rows[i] rows'[i] (by simp[hi']) (by simp[hi])).1;simp_all
   ·have hi':i<rows.length:=by omega
    have hk:=hw i rows[i] rows'[i] (by simp[hi']) (by simp[hi]);have hj':j<rows[i].length:=by rw[hk.1];exact hj
    exact hk.2 j rows[i][j] rows'[i][j] (by simp[hj']) (by simp[hj]) _ _ _ (h8 i j hi' hj')
 ·cases ha;cases h;exact nilcase rfl ⟨none,0,rfl,λ_=>rfl⟩
 ·cases ha;cases h with
  | ne _ a cap hf=>exact nilcase rfl ⟨some a,cap,rfl,λh=>by cases h⟩
 ·cases ha
section
variable {B : Nat} {P : Program}
def VW {n:Nat} {ts:List T} (ih:∀ (t:TypeId) (r:Sy) (ts:List T),syF P n t=some r->PQ P n t=true->YZ B P t ts->∃ x,Wk ts (r.enc x)/\qK B r x):∀ (pl:List (Nat×TypeId)) (o N:Nat) (r:Sy),nN P o pl=some N->ts.length=N ->
  (∀ p∈pl,PQ P n p.2=true/\BMW P n p.2=true/\YZ B P p.2 ((ts.drop p.1).take (P.cellsOf p.2)))->syL (pl.map λp=>syF P n p.2)=some r->∃ x,Wk (ts.drop o) (r.enc x)/\qK B r x
 | [],_,_,_,_,_,_,h=>by simp[syL] at h
 | [(a,t)],o,N,r,hc,hN,hp,h=>by
  simp only[nN] at hc;split at hc
  ·rename_i ha;subst ha;cases hc;obtain ⟨h1,_,h3⟩:=hp (a,t) (by simp);have:(ts.drop a).take (P.cellsOf t)=ts.drop a:=by rw[List.take_of_length_le];simp;omega
   rw[this] at h3;exact ih t r _ h h1 h3
  ·cases hc
 | (a,t)::q::l,o,N,r,hc,hN,hp,h=>by
  rw[nN] at hc;split at hc
  ·rename_i ha;subst ha;obtain ⟨h1,h2,h3⟩:=hp (a,t) (by simp);simp only[List.map_cons,syL] at h;split at h
   ·rename_i ra rb e1 e2;cases h;obtain ⟨x,w1,i1⟩:=ih t ra _ e1 h1 h3;obtain ⟨y,w2,i2⟩:=VW ih (q::l) (a+P.cellsOf t) N rb hc hN (λp hp'=>hp p (List.mem_cons_of_mem _ hp')) (by simpa only [List.map_cons] using e2);refine ⟨(x,y),?_,i1,i2⟩;have:ts.drop a=(ts.drop a).take (P.cellsOf t)++ts.drop (a+P.cellsOf t):=by rw[<-List.drop_drop,List.take_append_drop]
    rw[this];exact w1.append w2
   ·cases h
  ·cases hc
def BFD:∀ (n:Nat) (t:TypeId) (r:Sy) (ts:List T),syF P n t=some r->PQ P n t=true->YZ B P t ts->∃ x,Wk ts (r.enc x)/\qK B r x:=by
 intro n
 induction n with
 | zero=>intro t r ts h;cases h
 | succ n ih =>
  intro t r ts h hc hty;cases hty with
  | bool _ b hu=>simp only[syF,hu] at h;cases h;exact ⟨b,Wk.refl _,trivial⟩
  | int _ k m hu hwf=>simp only[syF,hu] at h;cases h;exact ⟨m,Wk.refl _,hwf⟩
  | string _ s hu hs=>simp only[syF,hu] at h;cases h;exact ⟨s,Wk.refl _,hs⟩
  | slice _ e a f rows hu hr hb hlen hrows =>
   simp only[PQ,hu,ac] at hc;simp only[syF,hu] at h;cases he:syF P n e with
   | none=>rw[he] at hc;cases hc.1
   | some re =>
    rw[he] at hc h;cases h;have hbs:bsz re<=P.bytesOf e:=of_decide_eq_true hc.1;have hex:∃ l:List re.den,l.length=rows.length/\(∀ (i:Nat) (r:List T) (y:re.den),rows[i]? = some r->l[i]? = some y->Wk r (re.enc y))/\∀ y∈l,qK B re y:=by
     clear hr hb hlen
     induction rows with
     | nil=>exact ⟨[],rfl,λi r y h=>by simp at h,λy h=>by cases h⟩
     | cons r0 rows ihr =>
      obtain ⟨x,w1,i1⟩:=ih e re r0 he hc.2 (hrows r0 (by simp));obtain ⟨l,g1,g2,g3⟩:=ihr λr hr=>hrows r (by simp[hr]);refine ⟨x::l,by simp[g1],λi r y hr hy=>?_,λy hy=>?_⟩
      ·match i with
       | 0=>simp at hr hy;subst hr;subst hy;exact w1
       | i+1=>exact g2 i r y (by simpa using hr) (by simpa using hy)
      ·rcases List.mem_cons.1 hy with rfl|hy
       ·exact i1
       ·simp_all
    obtain ⟨l,g1,g2,g3⟩:=hex;refine ⟨l,⟨rfl,λi x y hx hy=>?_⟩,?_,by omega,λy hy=>g3 y hy⟩
    ·match i with
     | 0 =>
      simp only[Sy.enc] at hy;simp at hx hy;subst hx;subst hy;intro w own v hv;refine A3K hr (by simp[g1]) (λi r r' h1 h2=>?_) hv;rw[List.getElem?_map] at h2;cases hl:l[i]? with
      | none=>rw[hl] at h2;cases h2
      | some z=>rw[hl] at h2;cases h2;exact g2 i r z h1 hl
     | i+1=>simp at hx
    ·rw[g1];exact Nat.le_trans (Nat.mul_le_mul_left _ hbs) hb
  | parts _ pl N _ hpl hct hlen hp =>
   have hpl':=hpl;unfold partsOf at hpl';split at hpl'
   ·rename_i fs hu;cases hpl';simp only[PQ,hu,List.all_eq_true,ac] at hc;simp only[syF,hu] at h;have:=VW (ts:=ts) ih (fs.toList.map λf=>(f.offset,f.type)) 0 N r hct hlen (λp hp'=>by
     obtain ⟨f,hf,rfl⟩:=List.mem_map.1 hp';exact ⟨(hc f hf).1,(hc f hf).2,hp _ hp'⟩) (by rw[List.map_map];exact h)
    simp_all
   ·rename_i m e hu;cases hpl';simp only[PQ,hu,ac] at hc;simp only[syF,hu] at h;have:=VW (ts:=ts) ih ((List.range m).map λi=>(i*P.cellsOf e,e)) 0 N r hct hlen (λp hp'=>by
     obtain ⟨i,hi,rfl⟩:=List.mem_map.1 hp';exact ⟨hc.1,hc.2,hp _ hp'⟩) (by
      rw[List.map_map,<-h]
      congr 1
      rw[List.eq_replicate_iff];exact ⟨by simp,λb hb=>by obtain ⟨i,_,rfl⟩:=List.mem_map.1 hb;rfl⟩)
    simp_all
   ·cases hpl'
def BKH {t:TypeId} {a:T} {ag:Bool} {r:Sy} (hag:EA P t=some ag) (hr:AT9 P t=some r) (hc:PQ P 12 t=true) (h:A7G B P t a):∃ x,qK B r x/\∀ w own v,cS w own a v->cS w own (aH ag r x) v:=by
 unfold A7G at h;have one:YZ B P t [a]->ag=false->∃ x,qK B r x/\∀ w own v,cS w own a v->cS w own (aH ag r x) v:=by
  rintro h rfl;obtain ⟨x,w1,i1⟩:=BFD 12 t r _ hr hc h;exact ⟨x,i1,λw own v hv=>BFO w1 hv⟩
 unfold EA at hag;split at h
 ·rename_i fs hu;obtain ⟨ts,rfl,h⟩:=h;rw[hu] at hag;cases hag;obtain ⟨x,w1,i1⟩:=BFD 12 t r _ hr hc h;exact ⟨x,i1,λw own v hv=>AGR w1 hv⟩
 ·rename_i m e hu;obtain ⟨ts,rfl,h⟩:=h;rw[hu] at hag;cases hag;obtain ⟨x,w1,i1⟩:=BFD 12 t r _ hr hc h;exact ⟨x,i1,λw own v hv=>AGR w1 hv⟩
 ·rename_i h1 h2;refine one h ?_;cases hu:P.underlying t with
  | none=>rw[hu] at hag;cases hag
  | some d =>
   rw[hu] at hag;cases d<;>first|(cases hag;rfl)|exact absurd hu (h1 _)|exact absurd hu (h2 _ _)
def AA9:∀ {ts:List TypeId} {as:List T} {s:Sh},SS B P ts as->shL P ts=some s->(∀ t∈ts,PQ P 12 t=true)->∃ x,YY B s x/\∀ w own (vs:List Value),dO (cS w own) as vs.toArray->dO (cS w own) (Sh.lD s x) vs.toArray
 | [],_,s,.nil,h,_=>by
  cases h;exact ⟨(),trivial,λw own vs h=>h⟩
 | t::ts,_,s,.cons (a:=a) (as:=as) h1 h2,h,hc=>by
  simp only[shL] at h;split at h
  ·rename_i ag r s' e1 e2 e3;cases h;obtain ⟨x,i1,w1⟩:=BKH e1 e2 (hc t (by simp)) h1;obtain ⟨y,i2,w2⟩:=AA9 h2 e3 λt ht=>hc t (by simp[ht]);have split1:∀ (w:World) (own:Nat->Prop) (v:Value) (vs:List Value),dO (cS w own) (a::as) (v::vs).toArray->cS w own a v/\dO (cS w own) as vs.toArray:=by
    intro w own v vs hh;refine ⟨hh.2 0 (by simp),by have:=hh.1;simp at this ⊢;exact this,λi hi=>?_⟩;have:=hh.2 (i+1) (by simp;omega);simp_all
   have join1:∀ (w:World) (own:Nat->Prop) (b:T) (bs:List T) (v:Value) (vs:List Value),cS w own b v->dO (cS w own) bs vs.toArray->dO (cS w own) (b::bs) (v::vs).toArray:=by
    intro w own b bs v vs h1 h2;have:=(dO.one (R:=cS w own) h1).append h2;simp_all
   cases s' with
   | nil =>
    refine ⟨x,i1,λw own vs hh=>?_⟩;cases vs with
    | nil=>have:=hh.1;simp at this
    | cons v vs =>
     obtain ⟨g1,g2⟩:=split1 w own v vs hh;exact join1 w own _ _ v vs (w1 w own v g1) (w2 w own vs g2)
   | cons b l =>
    refine ⟨(x,y),⟨i1,i2⟩,λw own vs hh=>?_⟩;cases vs with
    | nil=>have:=hh.1;simp at this
    | cons v vs =>
     obtain ⟨g1,g2⟩:=split1 w own v vs hh;exact join1 w own _ _ v vs (w1 w own v g1) (w2 w own vs g2)
  ·cases h
end
def BBM {C:Checked} {f:FuncId} {fn:Func} {s:ChangeSpec} {sh:Sh} {sp:Sh.den sh->Option T} {tb:TypeId} {n:Nat} {H:Type} {enc:TypeId×Value->H} {B:Nat} (hB:B<=2 ^ 47) (laid:laidOutB C.prog=true) (hlow:decide (C.prog.globals.size<C.prog.low)=true)
  (hres:fn.resultTypes = #[tb]) (hbool:C.prog.underlying tb=some .bool) (hvars:s.vars=[])
  (hs:∀ (H:Type) (ds:List (DataW H)),ds.length=fn.params.size->(s.fn H (ds++[])).results=[.lit (.bool true)]/\(s.fn H (ds++[])).args=ds/\(s.fn H (ds++[])).vars=[])
  (hpar:∀ t∈fn.params.toList,okT C.prog n t=true/\C.prog.readableRec t=true/\t<C.prog.types.size) (hsh:shL C.prog fn.params.toList=some sh) (hok:wT sh=true) (hchk:(fn.params.toList.all λt=>PQ C.prog 12 t)=true) (hg:aT C.prog f (gS sh sp)) (hT:∀ x,YY B sh x->sp x=some (.v (.bool true)))
  (hplain:s.plain.varTypes C.prog=[])
  {W:World} {base:Nat} {args:Array Value} {ds gs:List (DataW H)} {before:List MemPlace} (hval:∀ (j:Nat) t v,fn.params[j]? = some t->args[j]? = some v->Value.okWide C.prog W .any base t v)
  (hW:DataW.Whole enc C.prog fn.params.toList s.vars false W args.toList ds gs before) (hsz:(DataW.weightsEach C.prog (fn.params.toList++s.plain.varTypes C.prog) (ds++gs)).all (· <= B)=true) (hshp:W.ShapedOpen C.prog) :
  Calls C.prog f args W λe W'=>∃ v,e = .returned v/\s.post enc C.prog fn false true false false W args v W':=by
 have hW':=hW;obtain ⟨p,q,hA,hV,rfl,hfz,hnd⟩:=hW;rw[hvars] at hV;have hgs:gs=[]/\q=[]:=by
  cases gs with
  | nil=>exact ⟨rfl,hV⟩
  | cons _ _=>exact hV.elim
 obtain ⟨rfl,rfl⟩:=hgs;have hw:(DataW.weightsEach C.prog fn.params.toList ds).all (· <= B)=true:=by
  rw[hplain] at hsz;simpa using hsz
 obtain ⟨as,has,hty⟩:=AUN hB (λt ht=>(hpar t ht).1) (λj t v ht hv=>hval j t v (by simpa using ht) (by simpa using hv)) hA hw;obtain ⟨x,hin,henc⟩:=AA9 hty hsh (λt ht=>List.all_eq_true.1 hchk t ht);have hlen:=PI hA;refine (hg.calls W (λ_=>False) (Sh.lD sh x) args (.v (.bool true)) (BIG hlow hshp) (λb h=>h.elim) (by simpa using henc W (λ_=>False) args.toList has) (by rw[a8 hok x rfl];exact hT x hin)).mono ?_;rintro e W' ⟨v,rfl,hv,bel⟩;cases hv;obtain ⟨s1,s2,s3⟩:=hs H ds (by simpa using hlen);refine ⟨_,rfl,_,_,_,[],p,[],hW',?_,?_,?_,bel.frame _,λh=>by cases h⟩
 ·rw[s1,hres];exact trodAll_mk1 (shut_bool hbool _)
 ·rw[s2];exact EN laid bel (λt ht=>(hpar t ht).2) hA
 ·rw[s3,hvars];rfl
end Go.Pv
