/-
  The symbolic executor, part v: functions that turn a record of the caller's own through a pointer.
-/
import Derived.Test.YtipdohmdckdoeaaGreatDoorVfkh
set_option linter.defProp false
set_option linter.unusedSimpArgs false
namespace Go.Pv
open Go Go.RowKit
variable {cx:Cx}{ρ:Nat->Option Loc}
def Inv.BC1 {σ:Nat->Option bE} {n n' k:Nat} {w w':World} (h:Inv cx ρ σ n w) (hn:n<=n') {x₀:bE} {l:Loc} (hk:σ k=some x₀) (hl:ρ k=some l) (hL:0<l.L+l.C) (hw:gQ x₀=true) (o:Obj) (x:bE)
  (hb:sM (some l.bM) w.heap.size w w') (hat:w'.heap[l.bM]? = some o) (hsh:∀ b y,w.shape? b=some y->w'.shape? b=some y)
  (hx:eA w' (Own cx ρ σ) ρ l o x) :
  Inv cx ρ (cC σ k (some x)) n' w'/\bQ cx ρ ρ σ (cC σ k (some x)) w w':=by
 have hother:∀ b,b<w.heap.size->b≠l.bM->w'.heap[b]? = w.heap[b]? := λb h1 h2=>hb.block b h1 λe=>h2 (Option.some.inj e).symm;have hown:∀ b,¬ Own cx ρ σ b->¬ Own cx ρ (cC σ k (some x)) b:=by
  intro b hn hc;rcases hc with hc|⟨i,l',y,h1,h2,h3,h4⟩
  ·exact hn (.inl hc)
  ·by_cases e:i=k
   ·subst e;exact hn (.inr ⟨i,l',x₀,hk,h2,h3,h4⟩)
   ·rw[bK _ _ e] at h1;exact hn (.inr ⟨i,l',y,h1,h2,h3,h4⟩)
 have hmine:Own cx ρ σ l.bM:=.inr ⟨k,l,x₀,hk,hl,hL,rfl⟩;have hc:∀ b,¬ Own cx ρ σ b->b<w.heap.size->w'.heap[b]? = w.heap[b]? := λb hn hlt=>hother b hlt λe=>hn (e ▸ hmine);have hz:w.heap.size<=w'.heap.size:=hb.size;have hlow:=h.below.size;refine ⟨⟨λi y hi=>?_,λi i' y y' m m' h1 h2 h3 h4 hL hL' he=>?_,λi m hm=>?_,λi y m hi hm hLm hwy=>?_,?_,h.kL,h.low⟩,⟨hc,hz,λb _=>hown b,λ_ _ h=>h,hsh,λi y hi hy=>⟨y,by rw[bK _ _ (λe=>by subst e;rw[hk] at hi;cases hi;rw[hw] at hy;cases hy)];exact hi,hy⟩⟩⟩
 ·by_cases e:i=k
  ·subst e;simp at hi;subst hi;exact ⟨l,hl,λ_=>⟨o,hat,hx.mono (λ_ _ _=>rfl) (al _) (λb _=>hown b) (λ_ _ h=>h)⟩,λh0=>by omega⟩
  ·rw[bK _ _ e] at hi;obtain ⟨m,hm,h1⟩:=h.boxes i y hi;refine ⟨m,hm,h1.mono hc hz (λb _=>hown b) (λ_ _ h=>h) λhLm=>hother _ ((h.new i m hm).2 hLm).1 λeq=>e (h.inj i k y x₀ m l hi hk hm hl hLm hL eq)⟩
 ·have ex:∀ i y,cC σ k (some x) i=some y->∃ z,σ i=some z:=λi y hi=>by
   by_cases e:i=k
   ·subst e;exact ⟨x₀,hk⟩
   ·rw[bK _ _ e] at hi;exact ⟨y,hi⟩
  obtain ⟨z,hz⟩:=ex _ _ h1;obtain ⟨z',hz'⟩:=ex _ _ h2;exact h.inj i i' z z' m m' hz hz' h3 h4 hL hL' he
 ·have h1:=h.new i m hm;exact ⟨by omega,λhL=>⟨by have:=(h1.2 hL).1;omega,(h1.2 hL).2⟩⟩
 ·by_cases e:i=k
  ·subst e;rw[hl] at hm;cases hm;exact h.oT i x₀ l hk hl hL hw
  ·rw[bK _ _ e] at hi;exact h.oT i y m hi hm hLm hwy
 ·refine h.below.trans ⟨hb.os,hb.tape,hb.output,hz,λb hb ha=>hother b (by omega) ?_⟩;rcases h.oT k x₀ l hk hl hL hw with h1|h1
  ·omega
  ·intro e;subst e;exact ha h1
def A5Q (P:Program) (rs:Array ResultVar) (st:St):Option (List T×List T) :=
 match st.σ 0,vS P st rs.toList with
 | some (.rows false [ds]),some rs=>match ARF (cC (wrS st.σ) 0 none) ds,ARF (cC (wrS st.σ) 0 none) rs with
  | some cs,some ts=>some (cs,ts)
  | _,_=>none
 | _,_=>none
def A5R {nt:Nat} {st:St} {a:Act} {w:World} {own0:Nat->Prop} (hr:Rel cx nt ρ st a w) {l₀:Loc} (hl₀:ρ 0=some l₀) (hp:0<l₀.L+l₀.C) (hx:cx.arg=some l₀.bM) (h0:∀ b,own0 b->Own cx ρ st.σ b) (h1:∀ b,own0 b->b<cx.w0.heap.size)
  {fn:Func} {cs ts:List T} (h:A5Q cx.P fn.results st=some (cs,ts)) :
  ∃ v,(results fn a.tmps).run cx.P w = .ok v w/\cS w own0 (ATS ts) v/\∃ ds,st.σ 0=some (.rows false [ds])/\cs.length=ds.length/\∀ i (hi:i<ds.length) (hi':i<cs.length) u,Rd w (Own cx ρ st.σ) ρ ds[i] u->cS w own0 cs[i] u:=by
 unfold A5Q at h;split at h
 case h_2=>cases h
 rename_i ds rs hσ hd;split at h
 case h_2=>cases h
 rename_i cs' t' hcs ht;cases h;have hw:∀ k x,cC (wrS st.σ) 0 none k=some x->k≠0/\st.σ k=some x/\gQ x=true:=by
  intro k x hk;by_cases e:k=0
  ·subst e;simp at hk
  rw[bK _ _ e] at hk;unfold wrS at hk;split at hk
  ·rename_i y hy;split at hk
   ·rename_i hw;cases hk;exact ⟨e,hy,hw⟩
   ·cases hk
  ·cases hk
 have fr:∀ {m:Nat} {d:D} {t:T} {v:Value},Rd w (Own cx ρ st.σ) ρ d v->jB (cC (wrS st.σ) 0 none) m d=some t->cS w own0 t v:=λ{m} _ _ _ hd hf =>
  CH hr.inv h0 (λk x hk=>(hw k x hk).2.1) (λk x l hk hl hL ho=>by
   obtain ⟨hk0,hk1,hk2⟩:=hw k x hk;rcases hr.inv.oT k x l hk1 hl hL hk2 with g|g
   ·have:=h1 _ ho;omega
   ·rw[hx] at g;exact hk0 (hr.inv.inj k 0 x _ l l₀ hk1 hσ hl hl₀ hL hp (Option.some.inj g).symm)) m hd hf
 obtain ⟨vs,g1,g2⟩:=nE hr hd;obtain ⟨ft1,ft2⟩:=xI ht;have hlen:vs.length=rs.length:=by simpa using g2.1
 have hall:∀ i (hi:i<ts.length),cS w own0 ts[i] (vs.toArray.getD i undef):=λi hi=>by
  obtain ⟨t,t1,t2⟩:=ft2 i (by omega) hi;rw[t2];exact (fr (g2.2 i (by omega)) t1).canon 4
 have fin:∃ v,(results fn a.tmps).run cx.P w = .ok v w/\cS w own0 (ATS ts) v:=by
  by_cases hs:ts.length=1
  ·obtain ⟨t,rfl⟩:=List.length_eq_one_iff.1 hs;have hv:vs.length=1:=by simp at ft1;omega
   refine ⟨vs.toArray[0]'(by simpa using (by omega:0<vs.length)),?_,?_⟩
   ·rw[fU,Array.mapM_eq_mapM_toList,Sem.run_bind,Sem.run_map,g1];simp[hv]
   ·have h3:=hall 0 (by simp);have h4:vs.toArray.getD 0 undef=vs.toArray[0]'(by simpa using (by omega:0<vs.length)):=by simp[Array.getD,hv]
    rw[h4] at h3;exact h3
  ·have hv:¬ vs.length=1:=by omega
   refine ⟨.tuple vs.toArray,?_,?_⟩
   ·rw[fU,Array.mapM_eq_mapM_toList,Sem.run_bind,Sem.run_map,g1];simp[hv]
   ·have e:ATS ts = .bY ts:=by
     match ts,hs with
     | [],_=>rfl
     | [_],h=>exact absurd rfl h
     | _::_::_,_=>rfl
    rw[e];exact .bY _ _ (by simp;omega) hall
 obtain ⟨v,v1,v2⟩:=fin;refine ⟨v,v1,v2,ds,hσ,(xI hcs).1,λi hi hi' u hu=>?_⟩
 ·obtain ⟨t,t1,t2⟩:=(xI hcs).2 i hi hi';rw[t2];exact (fr hu t1).canon 4
def BKJ (C:jG) (P:Program) (rs:Array ResultVar) (R:T->Prop) (e:Exit) (st:St):Prop:=match lF e,A5Q P rs st with
 | true,some (cs,ts)=>R (.bY (.agg cs::ts))
 | _,_=>C.bad 706
def stM (row:List T) (args:List T):St:=Q9 (.ptr 0 0 0::args.map .p) (cC (λ_=>none) 0 (some (.rows false [row.map .p]))) 1
section
variable {P : Program} {E : Env} {Hs : FuncId -> Hint}
def ASH (hn:cR P=true) {f:FuncId} {g:List T->Option T} {fn:Func} {c:Code} (hf:P.funcs[f]? = some fn) (hb:fn.body=some c)
  (h:∀ row ts r,g (.agg row::ts)=some r->(∀ t∈T.agg row::ts,Bd t)->ts.length+1<=fn.ntmps/\∀ cx:Cx,cx.P=P->AW cx fn.ntmps c (BKJ bX P fn.results (λx=>x=r)) (stM row ts)):cZ P f (wD g):=by
 refine ⟨⟨fn,hf,n9 hn hf,by simp[hb]⟩,λcx ρ σ n w args vs d σ' n' hcP hG hI ha hg=>?_⟩;subst hcP;unfold wD at hg;split at hg
 case h_2=>cases hg
 rename_i kk i j rest;split at hg
 case h_2=>cases hg
 rename_i ds hij hσ;split at hg
 case h_2=>cases hg
 rename_i row ts hrow hts;split at hg
 case h_2=>cases hg
 rename_i cs' t hgr;split at hg
 case h_2=>cases hg
 rename_i hlen';cases hg;rw[ac,ah,ah] at hij;obtain ⟨rfl,rfl⟩:=hij;have hlen':cs'.length=row.length:=of_decide_eq_true hlen';have hds:=iE hrow;subst hds;obtain ⟨l,hl,hL,o,ho,hbx⟩:=hI.loc hσ (λro z e=>by cases e);have hlt:l.bM<w.heap.size:=((hI.new kk l hl).2 hL).1;have hOl:Own cx ρ σ l.bM:=.inr ⟨kk,l,_,hσ,hl,hL,rfl⟩
 let cx':Cx:=⟨cx.P,λb=>Own cx ρ σ b/\b≠l.bM,w,cC (λ_=>none) 0 (some l),cC (λ_=>none) 0 (some (.rows false [row.map .p])),w,some l.bM⟩
 have hOwn:∀ b,Own cx' (cC (λ_=>none) 0 (some l)) (cC (λ_=>none) 0 (some (.rows false [row.map .p]))) b->Own cx ρ σ b:=by
  rintro b (⟨hb,_⟩|⟨k',l',x',h1,h2,h3,h4⟩)
  ·exact hb
  ·by_cases e:k'=0
   ·subst e;simp at h2;subst h2;rw[<-h4];exact hOl
   ·rw[bK _ _ e] at h1;cases h1
 have hbox:eA w (Own cx' (cC (λ_=>none) 0 (some l)) (cC (λ_=>none) 0 (some (.rows false [row.map .p])))) (cC (λ_=>none) 0 (some l)) l o (.rows false [row.map .p]):=by
  cases hbx with
  | rows _ rs c hrs hz hB =>
   cases hrs;refine .rows _ _ c rfl (λ_ _ _ e=>by cases e) ⟨hB.size,hB.pos,hB.small,hB.len,hB.YQ,hB.width,λi j hi hj=>?_,hB.one⟩;obtain ⟨u,u1,u2⟩:=hB.cell i j hi hj;refine ⟨u,u1,?_⟩;have hi0:i=0:=by simpa using hi
   subst hi0;have he:([row.map D.p]:List (List D))[0][j] = .p (row[j]'(by simpa using hj)):=by simp
   rw[he] at u2 ⊢;cases u2 with
   | p _ _ u2=>exact .p _ _ (u2.less hOwn)
 have hI':Inv cx' (cC (λ_=>none) 0 (some l)) (cC (λ_=>none) 0 (some (.rows false [row.map .p]))) 1 w:=by
  have z:∀ {α:Type} {x:Option α} {k':Nat} {y:α},cC (λ_=>none) 0 x k'=some y->k'=0/\x=some y:=by
   intro α x k' y h;by_cases e:k'=0
   ·subst e;simp at h;exact ⟨rfl,h⟩
   ·rw[bK _ _ e] at h;cases h
  refine ⟨λk' x hk=>?_,λk1 k2 x1 x2 l1 l2 h1 h2 h3 h4 _ _ _=>?_,λk' l' hk=>?_,λk' x l' h1 h2 h3 h4=>?_,M4 (Below.refl _ _),λb hb=>Own.lt hI hb.1,hG.2,λa e=>?_⟩
  ·obtain ⟨rfl,e⟩:=z hk;cases e;exact ⟨l,by simp,λ_=>⟨o,ho,hbox⟩,λh0=>by omega⟩
  ·obtain ⟨rfl,_⟩:=z h1;obtain ⟨rfl,_⟩:=z h2;rfl
  ·obtain ⟨rfl,e⟩:=z hk;cases e;exact ⟨by omega,λ_=>⟨hlt,λhc=>hc.2 rfl⟩⟩
  ·obtain ⟨_,e⟩:=z h2;cases e;exact .inr rfl
  ·cases e;show cx.P.low<=l.bM;rcases hI.oT kk _ l hσ hl hL rfl with g1|g1
   ·have:=hI.low.1;omega
   ·exact hI.low.2 _ g1
 have hbd:∀ t∈T.agg row::ts,Bd t:=by
  intro t ht;rcases List.mem_cons.1 ht with rfl|ht
  ·refine (AT9 _).2 λt ht=>?_;obtain ⟨j,hj,rfl⟩:=List.mem_iff_getElem.1 ht;cases hbox with
   | rows _ rs c hrs hz hB =>
    cases hrs;obtain ⟨u,u1,u2⟩:=hB.cell 0 j (by simp) (by simpa using hj);have he:([row.map D.p]:List (List D))[0][j]'(by simpa using hj) = .p row[j]:=by simp
    rw[he] at u2;cases u2 with
    | p _ _ u2=>exact u2.bd
  ·obtain ⟨i,hi,rfl⟩:=List.mem_iff_getElem.1 ht;have h1:=iE hts;have h2:=ha.2 (i+1) (by rw[h1];simpa using hi);rw[List.getElem_cons_succ] at h2;have he:rest[i]'(by rw[h1];simpa using hi) = .p ts[i]:=by subst h1;simp
   rw[he] at h2;cases h2 with
   | p _ _ h2=>exact h2.bd
 obtain ⟨hlen,hs⟩:=h _ _ _ hgr hbd;have hrest:=iE hts;subst hrest;have ha':dJ (Rd w (Own cx' (cC (λ_=>none) 0 (some l)) (cC (λ_=>none) 0 (some (.rows false [row.map .p])))) (cC (λ_=>none) 0 (some l))) (.ptr 0 0 0::ts.map .p) vs:=by
  refine ⟨by simpa using ha.1,λi hi=>?_⟩;cases i with
  | zero =>
   have h2:=ha.2 0 (by simp);simp only[List.getElem_cons_zero] at h2 ⊢;generalize vs.getD 0 undef=v at h2 ⊢;cases h2 with
   | ptr _ _ _ l' hl' =>
    rw[hl] at hl';cases hl';exact .ptr 0 0 0 l (by simp)
  | succ i =>
   have h2:=ha.2 (i+1) (by simpa using hi);simp only[List.getElem_cons_succ,List.getElem_map] at h2 ⊢;cases h2 with
   | p _ _ h2=>exact .p _ _ (h2.less hOwn)
 refine calls_of_wp hf hb ?_;have hr:Rel cx' fn.ntmps (cC (λ_=>none) 0 (some l)) (stM row ts) { tmps:=vs++Array.replicate (fn.ntmps-vs.size) undef,defers:=[] } w:=F4 hI' (bQ.refl _ _ _ _) hG ha' (by simpa using hlen);refine wp_mono (hs cx' rfl _ _ w hr) ?_;rintro e a' w' ⟨st',ρ',hr',hq⟩;unfold BKJ at hq;split at hq
 case h_2=>exact hq.elim
 rename_i cs1 t1 hex hres;have hq':T.bY (.agg cs1::t1)=T.bY (.agg cs'::t):=hq;clear hq;simp only[T.bY.injEq,List.cons.injEq,T.agg.injEq,and_true] at hq';obtain ⟨q1,q2⟩:=hq';subst q1 q2;have hl0:ρ' 0=some l:=hr'.keeps.loc 0 l (by simp[cx']);have hO':∀ b,Own cx ρ σ b->Own cx' ρ' st'.σ b:=by
  intro b hb;by_cases e:b=l.bM
  ·subst e;have:∃ ds,st'.σ 0=some (.rows false [ds]):=by
    unfold A5Q at hres;split at hres
    ·rename_i h1 _;exact ⟨_,h1⟩
    ·cases hres
   obtain ⟨ds,h1⟩:=this;exact .inr ⟨0,l,_,h1,hl0,hL,rfl⟩
  ·exact .inl ⟨hb,e⟩
 obtain ⟨v,h1,h2,ds,h3,h4,h5⟩:=A5R (own0:=Own cx ρ σ) hr' hl0 hL rfl hO' (λb hb=>Own.lt hI hb) hres;have hbel:sM (some l.bM) w.heap.size w w':=hr'.inv.below;obtain ⟨l',hl',hbo⟩:=hr'.inv.boxes 0 _ h3;rw[hl0] at hl';cases hl';obtain ⟨o',ho',hbx'⟩:=hbo.1 hL;have hnew:eA w' (Own cx ρ σ) ρ l o' (.rows false [cs1.map .p]):=by
  cases hbx' with
  | rows _ rs c hrs hz hB =>
   cases hrs;refine .rows _ _ c rfl (λ_ _ _ e=>by cases e) ⟨hB.size,hB.pos,by simp,by simpa using hB.len,by simpa using hB.YQ,λr hr=>?_,λi j hi hj=>?_,hB.one⟩
   ·rw[List.mem_singleton.1 hr,ae,h4];exact hB.width ds am
   ·have hi0:i=0:=by simpa using hi
    subst hi0;have hj1:j<cs1.length:=by simpa using hj
    obtain ⟨u,u1,u2⟩:=hB.cell 0 j (by simp) (by simpa using (by omega:j<ds.length));refine ⟨u,u1,?_⟩;have he:([cs1.map D.p]:List (List D))[0][j] = .p cs1[j]:=by simp
    rw[he];exact .p _ _ (h5 j (by omega) hj1 u (by simpa using u2))
 obtain ⟨g1,g2⟩:=hI.BC1 (Nat.le_succ n) hσ hl hL rfl o' (.rows false [cs1.map .p]) hbel ho' hr'.keeps.shape hnew;have hfin:Rd w' (Own cx ρ (cC σ kk (some (.rows false [cs1.map .p])))) ρ (.p (ATS t1)) v:=by
  refine .p _ _ (h2.less λb hb=>?_);rcases hb with hb|⟨i,l',y,q1,q2,q3,q4⟩
  ·exact .inl hb
  ·by_cases e:i=kk
   ·subst e;exact .inr ⟨i,l',_,hσ,q2,q3,q4⟩
   ·rw[bK _ _ e] at q1;exact .inr ⟨i,l',y,q1,q2,q3,q4⟩
 rcases mM hex with rfl|rfl
 ·exact ⟨hr'.defers,v,h1,v,ρ,rfl,g1,g2,hfin⟩
 ·exact ⟨hr'.defers,v,h1,v,ρ,rfl,g1,g2,hfin⟩
end
end Go.Pv
