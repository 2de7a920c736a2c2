/-
  The symbolic executor, part x: closures that call themselves, and turn variables of the caller's own.
-/
import Derived.Test.YtlongjgklndggaaGreatDoorVakv
set_option linter.defProp false
set_option linter.unusedSimpArgs false
namespace Go.Pv
open Go Go.RowKit
theorem Inv.SY {cx:Cx} {ρ:Nat→Option Loc} {σ σ':Nat→Option aD} {n n':Nat} {w w':World} (h:Inv cx ρ σ n w) (hn:n≤n') (bs:List Nat)
  (hdom:∀ i y,σ' i=some y→∃ x,σ i=some x∧(bZ y=true→bZ x=true))
  (hdom':∀ i x,σ i=some x→∃ y,σ' i=some y∧(bZ x=false→bZ y=false))
  (hsame:∀ i y l,σ' i=some y→ρ i=some l→(0<l.L+l.C→¬ l.aL∈bs)→σ i=some y)
  (hnew:∀ i y l,σ' i=some y→ρ i=some l→0<l.L+l.C→l.aL∈bs→∃ o,w'.heap[l.aL]? = some o∧bE w' (aI cx ρ σ) ρ l o y)
  (hbs:∀ b∈bs,∃ k x l,σ k=some x∧ρ k=some l∧0<l.L+l.C∧l.aL=b∧bZ x=true)
  (hb:gJ bs w.heap.size w w') (hsh:∀ b y,w.shape? b=some y→w'.shape? b=some y) :
  Inv cx ρ σ' n' w'∧aJ cx ρ ρ σ σ' w w'∧∀ b,aI cx ρ σ' b→aI cx ρ σ b:=by
 have hown:∀ b,aI cx ρ σ' b→aI cx ρ σ b:=by
  rintro b (hc|⟨i,l,y,h1,h2,h3,h4⟩)
  ·exact .inl hc
  ·obtain ⟨x,hx,_⟩:=hdom i y h1
   exact .inr ⟨i,l,x,hx,h2,h3,h4⟩
 have hc:∀ b,¬ aI cx ρ σ b→b<w.heap.size→w'.heap[b]? = w.heap[b]? := fun b hn hlt=>hb.block b hlt fun e=>by
  obtain ⟨k,x,l,h1,h2,h3,h4,_⟩:=hbs b e
  exact hn (.inr ⟨k,l,x,h1,h2,h3,h4⟩)
 have hz:w.heap.size≤w'.heap.size:=hb.size
 have hlow:=h.below.size
 refine ⟨⟨fun i y hi=>?_,fun i i' y y' m m' h1 h2 h3 h4 hL hL' he=>?_,fun i m hm=>?_,fun i y m hi hm hLm hwy=>?_,?_,h.dX,h.low⟩,⟨hc,hz,fun b _ hn hc=>hn (hown b hc),fun _ _ h=>h,hsh,fun i y hi hy=>?_⟩,hown⟩
 ·obtain ⟨x,hx,_⟩:=hdom i y hi
  obtain ⟨l,hl,hbo⟩:=h.boxes i x hx
  refine ⟨l,hl,?_⟩
  by_cases hm:0<l.L+l.C∧l.aL∈bs
  ·obtain ⟨o,ho,hbx⟩:=hnew i y l hi hl hm.1 hm.2
   exact ⟨fun _=>⟨o,ho,hbx.mono (fun _ _ _=>rfl) (Nat.le_refl _) (fun b _ hn hc=>hn (hown b hc)) (fun _ _ h=>h)⟩,fun h0=>by omega⟩
  ·have hm':0<l.L+l.C→¬ l.aL∈bs:=fun h1 h2=>hm ⟨h1,h2⟩
   have e:=hsame i y l hi hl hm'
   rw[hx] at e;cases e
   exact hbo.mono hc hz (fun b _ hn hc=>hn (hown b hc)) (fun _ _ h=>h) fun hL=>hb.block _ ((h.new i l hl).2 hL).1 (hm' hL)
 ·obtain ⟨x,hx,_⟩:=hdom _ _ h1
  obtain ⟨x',hx',_⟩:=hdom _ _ h2
  exact h.inj i i' x x' m m' hx hx' h3 h4 hL hL' he
 ·have h1:=h.new i m hm
  exact ⟨by omega,fun hL=>⟨by have:=(h1.2 hL).1;omega,(h1.2 hL).2⟩⟩
 ·obtain ⟨x,hx,hw⟩:=hdom i y hi
  exact h.fP i x m hx hm hLm (hw hwy)
 ·refine h.below.trans ⟨hb.os,hb.tape,hb.output,hz,fun b hb' ha=>hb.block b (by omega) fun e=>?_⟩
  obtain ⟨k,x,l,h1,h2,h3,h4,h5⟩:=hbs b e
  rcases h.fP k x l h1 h2 h3 h5 with g|g
  ·omega
  ·exact ha (h4 ▸ g)
 ·obtain ⟨y',h1,h2⟩:=hdom' i y hi
  exact ⟨y',h1,h2 hy⟩
def fR (m:Nat):List D:=(List.range m).map fun k=>.ptr k 0 0
def pN (f:FuncId) (vals:List T) (rows:List (List T)):Nat→Option aD:=fun k=>match rows[k]? with
 | some r=>some (.rows false [r.map .p])
 | none=>match Nat.beq k rows.length with
  | true=>some (.rows true [[.fn f [] (vals.map .p++fR (rows.length+1))]])
  | false=>none
def AD (f:FuncId) (pre vals:List T) (rows:List (List T)):St:=w5 (pre.map .p++fR (rows.length+1)) (pN f vals rows) (rows.length+1)
def PO (m:Nat) (σ:Nat→Option aD):Nat→Option aD:=fun k=>match Nat.ble k m with
 | true=>none
 | false=>LY σ k
def RV (τ σ:Nat→Option aD):Nat→Nat→Option (List T)
 | 0,_=>some []
 | n+1,k=>match σ k with
  | some (.rows false [ds])=>match DC τ ds,RV τ σ n (k+1) with
   | some cs,some r=>some (.agg cs::r)
   | _,_=>none
  | _=>none
def SS (P:Program) (rs:Array ResultVar) (m:Nat) (st:St):Option (List T):=match nN P st rs.toList with
 | some ds=>match RV (PO m st.σ) st.σ m 0,DC (PO m st.σ) ds with
  | some a,some b=>some (a++b)
  | _,_=>none
 | none=>none
def VI (C:dY) (P:Program) (rs:Array ResultVar) (m:Nat) (R:T→Prop) (e:Exit) (st:St):Prop:=match fQ e,SS P rs m st with
 | true,some ts=>R (.aQ ts)
 | _,_=>C.bad 707
def rowsOf:List T→Option (List (List T))
 | []=>some []
 | .agg r::l=>(rowsOf l).map (r :: ·)
 | _=>none
def B2 (C:dY) (P:Program) (E:Env) (Hs:FuncId→Hint) (k:Nat) (f:FuncId) (ins:List T) (R:T→Prop):Prop:=match ins,P.funcs[f]? with
 | .aQ pre :: .aQ vals::rs,some fn=>match rowsOf rs,fn.body with
  | some rows,some cd=>match decide (pre.length+rows.length+1≤fn.ntmps) with
   | true=>sx C P E (GR C P E Hs k) (Hs f) fn.ntmps cd (VI C P fn.results rows.length R) (AD f pre vals rows)
   | false=>C.bad 708
  | _,_=>C.bad 703
 | _,_=>C.bad 704
abbrev pR (P:Program) (f:FuncId) (g:List T→Option T):Prop:=bX P f (sA f g)
theorem cW:∀ (l:List D),(dE l).1++(dE l).2=l
 | []=>rfl
 | .ptr k i j::r=>rfl
 | .p t::r=>by simp[dE,cW r]
 | .agg cs::r=>by simp[dE,cW r]
 | .aQ cs::r=>by simp[dE,cW r]
 | .own k::r=>by simp[dE,cW r]
 | .bs k a b::r=>by simp[dE,cW r]
 | .map k::r=>by simp[dE,cW r]
 | .it k::r=>by simp[dE,cW r]
 | .fn f a b::r=>by simp[dE,cW r]
 | .cond g d::r=>by simp[dE,cW r]
 | .any::r=>by simp[dE,cW r]
theorem oH:∀ {l:List D} {ks:List Nat},D8 l=some ks→l=ks.map fun k=>.ptr k 0 0
 | [],ks,h=>by cases h;rfl
 | d::r,ks,h=>by
  unfold D8 at h
  split at h
  ·rename_i e;cases e
  ·rename_i k i j r' e
   cases e
   split at h
   ·rename_i hij
    rw[Bool.and_eq_true,decide_eq_true_eq,decide_eq_true_eq] at hij
    obtain ⟨rfl,rfl⟩:=hij
    simp only[Option.map_eq_some_iff] at h
    obtain ⟨l,hl,rfl⟩:=h
    rw[oH hl];rfl
   ·cases h
  ·cases h
theorem wQ:∀ {a b:List Nat},I5 a b=true→a=b
 | [],[],_=>rfl
 | [],_::_,h=>by cases h
 | _::_,[],h=>by cases h
 | a::l,b::m,h=>by
  simp only[I5,Bool.and_eq_true] at h
  rw[Nat.eq_of_beq_eq_true h.1,wQ h.2]
theorem sH:∀ {l:List Nat},nodupB l=true→l.Nodup
 | [],_=>List.nodup_nil
 | a::l,h=>by
  simp only[nodupB,Bool.and_eq_true,List.all_eq_true,Bool.not_eq_true'] at h
  refine List.nodup_cons.2 ⟨fun hm=>?_,sH h.2⟩
  have:=h.1 a hm
  rw[Nat.beq_refl] at this;cases this
theorem wF {σ:Nat→Option aD}:∀ {kk:List Nat} {rows:List (List T)},jY σ kk=some rows→rows.length=kk.length ∧
  ∀ i (h:i<kk.length) (h':i<rows.length),∃ row:List T,σ kk[i]=some (.rows false [row.map .p])∧rows[i]=row.map (T.canon 4)
 | [],rows,h=>by cases h;exact ⟨rfl,fun i h=>by simp at h⟩
 | k::kk,rows,h=>by
  unfold jY at h
  split at h
  ·rename_i ds hσ
   split at h
   ·rename_i row rs hds hrs
    cases h
    obtain ⟨g1,g2⟩:=wF hrs
    refine ⟨by simpa using g1,fun i h1 h2=>?_⟩
    cases i with
    | zero=>exact ⟨row,by rw[List.getElem_cons_zero,hσ,cU hds],rfl⟩
    | succ i=>simpa using g2 i (by simpa using h1) (by simpa using h2)
   ·cases h
  ·cases h
theorem HK {f:FuncId} {σ:Nat→Option aD} {s:Nat} {ks:List Nat} {vals:List T} (h:PY f σ s ks=some vals) :
  ∃ (ro:Bool) (vs:List T),σ s=some (.rows ro [[.fn f [] (vs.map .p++ks.map fun k=>.ptr k 0 0)]])∧vals=vs.map (T.canon 4):=by
 unfold PY at h
 split at h
 ·rename_i ro f' caps hσ
  split at h
  ·rename_i vs ks' hf hv hk
   split at h
   ·rename_i he
    cases h
    have e1:=cW caps
    rw[cU hv,oH hk,wQ he] at e1
    refine ⟨ro,vs,?_,rfl⟩
    rw[hσ,←of_decide_eq_true hf,e1]
   ·cases h
  ·cases h
 ·cases h
theorem sF:∀ {rows:List (List T)} {ts:List T},vR rows ts=true→∃ css:List (List T),css.length=rows.length∧ts=css.map .agg++ts.drop rows.length∧∀ i (h:i<css.length) (h':i<rows.length),css[i].length=rows[i].length
 | [],ts,_=>⟨[],rfl,rfl,fun i h=>by simp at h⟩
 | row::rows,ts,h=>by
  unfold vR at h
  split at h
  ·rename_i e;cases e
  ·rename_i row' rows' cs ts' e
   cases e
   rw[Bool.and_eq_true] at h
   obtain ⟨css,g1,g2,g3⟩:=sF h.2
   refine ⟨cs::css,by simp[g1],by simpa using g2,fun i h1 h2=>?_⟩
   cases i with
   | zero=>exact Nat.eq_of_beq_eq_true h.1
   | succ i=>simpa using g3 i (by simpa using h1) (by simpa using h2)
  ·cases h
theorem zD:∀ {kk:List Nat} {css:List (List T)} {r:List T} {σ:Nat→Option aD},kk.Nodup→css.length=kk.length →
  (∀ k,¬ k∈kk→tB σ kk (css.map .agg++r) k=σ k)∧∀ i (h:i<kk.length) (h':i<css.length),tB σ kk (css.map .agg++r) kk[i]=some (.rows false [css[i].map .p])
 | [],css,r,σ,_,hl=>by
  refine ⟨fun k _=>?_,fun i h=>by simp at h⟩
  unfold tB;rfl
 | k::kk,[],r,σ,_,hl=>by simp at hl
 | k::kk,cs::css,r,σ,hn,hl=>by
  obtain ⟨h1,h2⟩:=List.nodup_cons.1 hn
  have ih:=zD (r:=r) (σ:=aS σ k (some (.rows false [cs.map .p]))) h2 (by simpa using hl)
  have e:tB σ (k::kk) ((cs::css).map .agg++r)=tB (aS σ k (some (.rows false [cs.map .p]))) kk (css.map .agg++r):=rfl
  rw[e]
  refine ⟨fun k' hk'=>?_,fun i hi hi'=>?_⟩
  ·rw[ih.1 k' (fun hm=>hk' (List.mem_cons_of_mem _ hm)),aG _ _ (fun e=>hk' (by rw[e];exact List.mem_cons_self))]
  ·cases i with
   | zero=>rw[List.getElem_cons_zero,ih.1 k h1,gI];rfl
   | succ i=>simpa using ih.2 i (by simpa using hi) (by simpa using hi')
theorem qE {τ σ:Nat→Option aD}:∀ {m k:Nat} {a:List T},RV τ σ m k=some a→a.length=m∧∀ i (h:i<a.length),∃ ds cs,σ (k+i)=some (.rows false [ds])∧DC τ ds=some cs∧a[i] = .agg cs
 | 0,k,a,h=>by cases h;exact ⟨rfl,fun i h=>by simp at h⟩
 | m+1,k,a,h=>by
  unfold RV at h
  split at h
  ·rename_i ds hσ
   split at h
   ·rename_i cs r hc hr
    cases h
    obtain ⟨g1,g2⟩:=qE hr
    refine ⟨by simp[g1],fun i hi=>?_⟩
    cases i with
    | zero=>exact ⟨ds,cs,hσ,hc,rfl⟩
    | succ i =>
     obtain ⟨ds',cs',e1,e2,e3⟩:=g2 i (by simpa using hi)
     exact ⟨ds',cs',by rw[←e1];congr 1;omega,e2,by simpa using e3⟩
   ·cases h
  ·cases h
theorem PQ {cx:Cx} {nt:Nat} {ρ:Nat→Option Loc} {st:St} {a:Act} {w:World} {own0:Nat→Prop} {m:Nat} (hr:Rel cx nt ρ st a w) (hm:∀ i,i≤m→∃ x l,st.σ i=some x∧ρ i=some l∧0<l.L+l.C)
  (hx:∀ b∈cx.arg,∃ i l,i≤m∧ρ i=some l∧l.aL=b) (h0:∀ b,own0 b→aI cx ρ st.σ b) (h1:∀ b,own0 b→b<cx.w0.heap.size)
  {fn:Func} {ts:List T} (h:SS cx.P fn.results m st=some ts) :
  ∃ v as rs,ts=as++rs∧(results fn a.tmps).run cx.P w = .ok v w∧aY w own0 (rN rs) v∧as.length=m ∧
   ∀ i (h:i<as.length),∃ ds cs,st.σ i=some (.rows false [ds])∧as[i] = .agg cs∧cs.length=ds.length∧∀ j (hj:j<ds.length) (hj':j<cs.length) u,Rd w (aI cx ρ st.σ) ρ ds[j] u→aY w own0 cs[j] u:=by
 unfold SS at h
 split at h
 case h_2=>cases h
 rename_i rs hd
 split at h
 case h_2=>cases h
 rename_i as t' hcs ht
 cases h
 have hw:∀ k x,PO m st.σ k=some x→m<k∧st.σ k=some x∧bZ x=true:=by
  intro k x hk
  unfold PO at hk
  split at hk
  ·cases hk
  ·rename_i hle
   have hle:¬ k≤m:=fun e=>by rw[Nat.ble_eq_true_of_le e] at hle;cases hle
   unfold LY at hk
   split at hk
   ·rename_i y hy
    split at hk
    ·rename_i hw;cases hk;exact ⟨by omega,hy,hw⟩
    ·cases hk
   ·cases hk
 have fr:∀ {q:Nat} {d:D} {t:T} {v:Value},Rd w (aI cx ρ st.σ) ρ d v→c8 (PO m st.σ) q d=some t→aY w own0 t v:=fun {q} _ _ _ hd hf =>
  qF hr.inv h0 (fun k x hk=>(hw k x hk).2.1) (fun k x l hk hl hL ho=>by
   obtain ⟨hk0,hk1,hk2⟩:=hw k x hk
   rcases hr.inv.fP k x l hk1 hl hL hk2 with g|g
   ·have:=h1 _ ho
    omega
   ·obtain ⟨i,l',hi,hl',he⟩:=hx _ g
    obtain ⟨y,l2,hy,hl2,hL2⟩:=hm i hi
    rw[hl'] at hl2;cases hl2
    have:=hr.inv.inj k i x y l l' hk1 hy hl hl' hL hL2 he.symm
    omega) q hd hf
 obtain ⟨vs,g1,g2⟩:=gG hr hd
 obtain ⟨ft1,ft2⟩:=iD ht
 have hlen:vs.length=rs.length:=by simpa using g2.1
 have hall:∀ i (hi:i<t'.length),aY w own0 t'[i] (vs.toArray.getD i undef):=fun i hi=>by
  obtain ⟨t,t1,t2⟩:=ft2 i (by omega) hi
  rw[t2]
  exact (fr (g2.2 i (by omega)) t1).canon 4
 have fin:∃ v,(results fn a.tmps).run cx.P w = .ok v w∧aY w own0 (rN t') v:=by
  by_cases hs:t'.length=1
  ·obtain ⟨t,rfl⟩:=List.length_eq_one_iff.1 hs
   have hv:vs.length=1:=by simp at ft1;omega
   refine ⟨vs.toArray[0]'(by simpa using (by omega:0<vs.length)),?_,?_⟩
   ·rw[cN,Array.mapM_eq_mapM_toList,Sem.run_bind,Sem.run_map,g1]
    simp[hv]
   ·have h3:=hall 0 (by simp)
    have h4:vs.toArray.getD 0 undef=vs.toArray[0]'(by simpa using (by omega:0<vs.length)):=by simp[Array.getD,hv]
    rw[h4] at h3
    exact h3
  ·have hv:¬ vs.length=1:=by omega
   refine ⟨.tuple vs.toArray,?_,?_⟩
   ·rw[cN,Array.mapM_eq_mapM_toList,Sem.run_bind,Sem.run_map,g1]
    simp[hv]
   ·have e:rN t' = .aQ t':=by
     match t',hs with
     | [],_=>rfl
     | [_],h=>exact absurd rfl h
     | _::_::_,_=>rfl
    rw[e]
    exact .aQ _ _ (by simp;omega) hall
 obtain ⟨v,v1,v2⟩:=fin
 obtain ⟨q1,q2⟩:=qE hcs
 refine ⟨v,as,t',rfl,v1,v2,q1,fun i hi=>?_⟩
 obtain ⟨ds,cs,e1,e2,e3⟩:=q2 i hi
 refine ⟨ds,cs,by simpa using e1,e3,(iD e2).1,fun j hj hj' u hu=>?_⟩
 obtain ⟨t,t1,t2⟩:=(iD e2).2 j hj hj'
 rw[t2]
 exact (fr hu t1).canon 4
section
variable {P : Program} {E : Env} {Hs : FuncId → Hint}
theorem JZ (hn:a7 P=true) {f:FuncId} {g:List T→Option T} {fn:Func} {c:Code} (hf:P.funcs[f]? = some fn) (hb:fn.body=some c)
  (h:∀ (pre vals:List T) (rows:List (List T)) (ts:List T),g (.aQ pre :: .aQ vals::rows.map .agg)=some (.aQ ts)→(∀ t∈pre,Bd t)→(∀ t∈vals,Bd t)→(∀ r∈rows,∀ t∈r,Bd t) →
   pre.length+rows.length+1≤fn.ntmps∧∀ cx:Cx,cx.P=P→AW cx fn.ntmps c (VI bP P fn.results rows.length (fun x=>x = .aQ ts)) (AD f pre vals rows)):bX P f (sA f g):=by
 refine ⟨⟨fn,hf,iH hn hf,by simp[hb]⟩,fun cx ρ σ n w args vs d σ' n' hcP hG hI ha hg=>?_⟩
 subst hcP
 unfold sA at hg
 split at hg
 case h_2=>cases hg
 rename_i ins rows kk σ1 hin
 split at hg
 case h_2=>cases hg
 rename_i ts hgi
 split at hg
 case h_2=>cases hg
 rename_i hlens
 cases hg
 unfold uL at hin
 split at hin
 case h_2=>cases hin
 rename_i ps σ2 ks hgive hptr
 split at hin
 case h_2=>cases hin
 rename_i pre0 s hpre hlast hnd
 split at hin
 case h_2=>cases hin
 rename_i rows' vals hrows hself
 simp only[Option.some.injEq,Prod.mk.injEq] at hin
 obtain ⟨rfl,rfl,rfl,rfl⟩:=hin
 have hnd:=sH hnd
 have hks:ks.dropLast++[s]=ks:=by
  obtain ⟨ys,rfl⟩:=List.getLast?_eq_some_iff.1 hlast
  simp
 generalize ks.dropLast=kk at *
 subst hks
 obtain ⟨hrl,hrw⟩:=wF hrows
 obtain ⟨ro,vs0,hsb,rfl⟩:=HK hself
 have hAB:=cW args
 have hB:=oH hptr
 generalize hA:(dE args).1=A at *
 rw[hB] at hAB
 subst hAB
 have hsz:vs.size=A.length+(kk.length+1):=by have:=ha.1;simpa using this
 obtain ⟨hI1,hK1,hpl,hpr⟩:=kL (ps:=A.map fun d=>(0,d)) (vps:=(vs.toList.take A.length).map fun v=>(0,v)) hI (by simp;omega) (fun i h1 h2=>by
  refine ⟨by simp,?_⟩
  have hi:i<A.length:=by simpa using h1
  have:=ha.2 i (by simp;omega)
  rw[List.getElem_append_left hi,Array.getD,dif_pos (by omega)] at this
  simpa using this) hgive
 have hpe:=cU hpre
 have hpl':pre0.length=A.length:=by
  have:=congrArg List.length hpe
  simp at this hpl;omega
 have hpreR:∀ i (hi:i<pre0.length),aY w (aI cx ρ σ2) pre0[i] (vs.getD i undef):=fun i hi=>by
  have hi':i<ps.length:=by have:=congrArg List.length hpe;simp at this;omega
  have h2:=(hpr i hi' (by simp;omega)).2
  have h3:ps[i].2 = .p pre0[i]:=by
   have:(ps.map (·.2))[i]'(by simpa using hi')=(pre0.map D.p)[i]'(by simpa using hi):=by congr 1
   simpa using this
  rw[h3] at h2
  cases h2 with
  | p _ _ h2 =>
   rw[Array.getD,dif_pos (by omega)]
   simpa using h2
 have hptrs:∀ j (hj:j<(kk++[s]).length),∃ l,ρ (kk++[s])[j]=some l∧vs.getD (A.length+j) undef = .pointer (some ⟨l.aL,0,none⟩):=fun j hj=>by
  have h2:=ha.2 (A.length+j) (by simp at hj ⊢;omega)
  rw[List.getElem_append_right (by omega)] at h2
  simp only[Nat.add_sub_cancel_left,List.getElem_map] at h2
  generalize vs.getD (A.length+j) undef=v at h2 ⊢
  cases h2 with
  | ptr _ _ _ l hl=>exact ⟨l,hl,by simp⟩
 have hboxes:∀ j (hj:j<(kk++[s]).length),∃ l x o,ρ (kk++[s])[j]=some l∧0<l.L+l.C∧σ2 (kk++[s])[j]=some x∧w.heap[l.aL]? = some o∧bE w (aI cx ρ σ2) ρ l o x ∧
   (∀ (h:j<kk.length),∃ row:List T,x = .rows false [row.map .p]∧rows'[j]'(by omega)=row.map (T.canon 4))∧(j=kk.length→x = .rows ro [[.fn f [] (vs0.map .p++(kk++[s]).map fun k=>.ptr k 0 0)]]):=fun j hj=>by
  by_cases hjk:j<kk.length
  ·obtain ⟨row,e1,e2⟩:=hrw j hjk (by omega)
   obtain ⟨l,hl,hL,o,ho,hbx⟩:=hI1.loc e1 (fun ro z e=>by cases e)
   rw[List.getElem_append_left hjk]
   exact ⟨l,_,o,hl,hL,e1,ho,hbx,fun _=>⟨row,rfl,e2⟩,fun e=>by omega⟩
  ·have:j=kk.length:=by simp at hj;omega
   subst this
   obtain ⟨l,hl,hL,o,ho,hbx⟩:=hI1.loc hsb (fun ro z e=>by cases e)
   simp only[List.getElem_concat_length]
   exact ⟨l,_,o,hl,hL,hsb,ho,hbx,fun h=>by omega,fun _=>rfl⟩
 obtain ⟨ρ0,hρ0⟩:∃ ρ0:Nat→Option Loc,∀ i,ρ0 i=match (kk++[s])[i]? with|some k=>ρ k|none=>none:=⟨_,fun _=>rfl⟩
 have hρ0s:∀ i l,ρ0 i=some l→∃ (hi:i<(kk++[s]).length),ρ (kk++[s])[i]=some l:=fun i l hl=>by
  rw[hρ0] at hl
  split at hl
  ·rename_i k hk
   obtain ⟨hi,rfl⟩:=List.getElem?_eq_some_iff.1 hk
   exact ⟨hi,hl⟩
  ·cases hl
 have hρ0g:∀ i (hi:i<(kk++[s]).length),ρ0 i=ρ (kk++[s])[i]:=fun i hi=>by rw[hρ0,List.getElem?_eq_getElem hi]
 have hlt1:(kk++[s]).length=kk.length+1:=by simp
 have hσ0:∀ i x,pN f (vs0.map (T.canon 4)) rows' i=some x→i<(kk++[s]).length∧((∃ hi:i<rows'.length,x = .rows false [rows'[i].map .p])∨(i=kk.length∧x = .rows true [[.fn f [] ((vs0.map (T.canon 4)).map .p++fR (rows'.length+1))]])):=fun i x hx=>by
  unfold pN at hx
  split at hx
  ·rename_i r hr
   obtain ⟨hi,rfl⟩:=List.getElem?_eq_some_iff.1 hr
   cases hx
   exact ⟨by omega,.inl ⟨hi,rfl⟩⟩
  ·split at hx
   ·rename_i he
    have he:=Nat.eq_of_beq_eq_true he
    cases hx
    exact ⟨by omega,.inr ⟨by omega,rfl⟩⟩
   ·cases hx
 have hσ0r:∀ i (hi:i<rows'.length),pN f (vs0.map (T.canon 4)) rows' i=some (.rows false [rows'[i].map .p]):=fun i hi=>by
  unfold pN;rw[List.getElem?_eq_getElem hi]
 have hσ0m:pN f (vs0.map (T.canon 4)) rows' kk.length=some (.rows true [[.fn f [] ((vs0.map (T.canon 4)).map .p++fR (rows'.length+1))]]):=by
  unfold pN;rw[List.getElem?_eq_none (by omega)]
  dsimp only
  rw[show Nat.beq kk.length rows'.length=true by rw[hrl];exact Nat.beq_refl _]
 let own0:Nat→Prop:=fun b=>aI cx ρ σ2 b∧∀ i l,ρ0 i=some l→l.aL≠b
 let argl:List Nat:=kk.filterMap fun k=>(ρ k).map (·.aL)
 have hargl:∀ b,b∈argl→∃ i,∃ hi:i<kk.length,∃ l,ρ kk[i]=some l∧l.aL=b:=fun b hb=>by
  obtain ⟨k,hk,e⟩:=List.mem_filterMap.1 hb
  obtain ⟨i,hi,rfl⟩:=List.mem_iff_getElem.1 hk
  obtain ⟨l,hl,rfl⟩:=Option.map_eq_some_iff.1 e
  exact ⟨i,hi,l,hl,rfl⟩
 have hargl':∀ i (hi:i<kk.length) l,ρ kk[i]=some l→l.aL∈argl:=fun i hi l hl=>List.mem_filterMap.2 ⟨kk[i],List.getElem_mem hi,by rw[hl];rfl⟩
 let cx':Cx:=⟨cx.P,own0,w,ρ0,pN f (vs0.map (T.canon 4)) rows',w,argl⟩
 have hOwn:∀ b,aI cx' ρ0 (pN f (vs0.map (T.canon 4)) rows') b→aI cx ρ σ2 b:=by
  rintro b (⟨hb,_⟩|⟨i,l',x',h1,h2,h3,h4⟩)
  ·exact hb
  ·obtain ⟨hi,hl⟩:=hρ0s i l' h2
   obtain ⟨l,x,o,e1,e2,e3,_⟩:=hboxes i hi
   rw[hl] at e1;cases e1
   exact .inr ⟨_,l',x,e3,hl,h3,h4⟩
 have hbx':∀ i x,pN f (vs0.map (T.canon 4)) rows' i=some x→∃ l o,ρ0 i=some l∧0<l.L+l.C∧w.heap[l.aL]? = some o∧bE w (aI cx' ρ0 (pN f (vs0.map (T.canon 4)) rows')) ρ0 l o x:=fun i x hx=>by
  obtain ⟨hi,hx'⟩:=hσ0 i x hx
  obtain ⟨l,y,o,e1,e2,e3,e4,e5,e6,e7⟩:=hboxes i hi
  refine ⟨l,o,by rw[hρ0g i hi,e1],e2,e4,?_⟩
  rcases hx' with ⟨hi',rfl⟩|⟨rfl,rfl⟩
  ·obtain ⟨row,rfl,er⟩:=e6 (by omega)
   cases e5 with
   | rows _ rs c hrs hz hB =>
    cases hrs
    refine .rows _ _ c rfl (fun _ _ _ e=>by cases e) ⟨hB.size,hB.pos,by simp,by simpa using hB.len,by simpa using hB.AE,fun r hr=>?_,fun i' j hi hj=>?_,hB.one⟩
    ·rw[List.mem_singleton.1 hr,er]
     have:=hB.width _ List.mem_cons_self
     simpa using this
    ·have hi0:i'=0:=by simpa using hi
     subst hi0
     have hj':j<row.length:=by rw[er] at hj;simpa using hj
     obtain ⟨u,u1,u2⟩:=hB.cell 0 j (by simp) (by simpa using hj')
     refine ⟨u,u1,?_⟩
     have he:([row.map D.p]:List (List D))[0][j]'(by simpa using hj') = .p row[j]:=by simp
     have he':([rows'[i].map D.p]:List (List D))[0][j]'(by simpa using hj) = .p (T.canon 4 row[j]):=by
      simp only[List.getElem_cons_zero,List.getElem_map]
      congr 1
      simp[er]
     rw[he] at u2
     rw[he']
     cases u2 with
     | p _ _ u2=>exact .p _ _ ((u2.canon 4).less hOwn)
  ·have e:=e7 rfl
   subst e
   cases e5 with
   | rows _ rs c hrs hz hB =>
    cases hrs
    refine .rows _ _ c rfl (fun _ _ _ e=>by cases e) ⟨hB.size,hB.pos,by simp,by simpa using hB.len,by simpa using hB.AE,fun r hr=>?_,fun i' j hi hj=>?_,hB.one⟩
    ·rw[List.mem_singleton.1 hr]
     have:=hB.width _ List.mem_cons_self
     simpa using this
    ·have hi0:i'=0:=by simpa using hi
     subst hi0
     have hj0:j=0:=by simpa using hj
     subst hj0
     obtain ⟨u,u1,u2⟩:=hB.cell 0 0 (by simp) (by simp)
     refine ⟨u,u1,?_⟩
     simp only[List.getElem_cons_zero] at u2 ⊢
     cases u2 with
     | fn _ _ _ va vb h1 h2 h3 h4 =>
      refine .fn _ _ _ va vb h1 (by rw[h2];simp[fR,hrl]) (fun i hi=>by simp at hi) fun i hi=>?_
      have h5:=h4 i (by simp[fR,hrl] at hi ⊢;omega)
      by_cases hiv:i<vs0.length
      ·rw[List.getElem_append_left (by simpa using hiv)] at h5 ⊢
       simp only[List.getElem_map] at h5 ⊢
       generalize vb.getD i undef=v at h5 ⊢
       cases h5 with
       | p _ _ h5=>exact .p _ _ ((h5.canon 4).less hOwn)
      ·rw[List.getElem_append_right (by simpa using hiv)] at h5 ⊢
       simp only[List.getElem_map,List.length_map,fR,List.getElem_range] at h5 ⊢
       generalize vb.getD i undef=v at h5 ⊢
       have hi2:i-vs0.length<(kk++[s]).length:=by simp[fR,hrl] at hi ⊢;omega
       cases h5 with
       | ptr _ _ _ l2 hl2 =>
        rw[show (0:Nat)*l2.sz+0=0*l2.sz+0 from rfl]
        exact .ptr _ 0 0 l2 (by rw[hρ0g _ hi2];exact hl2)
 have hI':Inv cx' ρ0 (pN f (vs0.map (T.canon 4)) rows') (rows'.length+1) w:=by
  refine ⟨fun k x hk=>?_,fun k1 k2 x1 x2 l1 l2 h1 h2 h3 h4 hL1 hL2 he=>?_,fun k l hk=>?_,fun k x l h1 h2 h3 h4=>?_,pV (Below.refl _ _),fun b hb=>aI.lt hI1 hb.1,hG.2,fun a e=>?_⟩
  ·obtain ⟨l,o,e1,e2,e3,e4⟩:=hbx' k x hk
   exact ⟨l,e1,fun _=>⟨o,e3,e4⟩,fun h0=>by omega⟩
  ·obtain ⟨i1,g1⟩:=hρ0s k1 l1 h3
   obtain ⟨i2,g2⟩:=hρ0s k2 l2 h4
   obtain ⟨_,y1,_,_,_,q1,_⟩:=hboxes k1 i1
   obtain ⟨_,y2,_,_,_,q2,_⟩:=hboxes k2 i2
   exact (List.getElem_inj hnd).1 (hI1.inj _ _ y1 y2 l1 l2 q1 q2 g1 g2 hL1 hL2 he)
  ·obtain ⟨hi,hl⟩:=hρ0s k l hk
   exact ⟨by omega,fun hL=>⟨((hI1.new _ l hl).2 hL).1,fun hc=>hc.2 k l hk rfl⟩⟩
  ·obtain ⟨hi,hx'⟩:=hσ0 k x h1
   rcases hx' with ⟨hi',rfl⟩|⟨rfl,rfl⟩
   ·obtain ⟨_,hl⟩:=hρ0s k l h2
    rw[List.getElem_append_left (by omega)] at hl
    exact .inr (hargl' k (by omega) l hl)
   ·cases h4
  ·obtain ⟨i,hi,l,hl,rfl⟩:=hargl a e
   obtain ⟨l',y,o,e1,e2,e3,e4,e5,e6,e7⟩:=hboxes i (by omega)
   obtain ⟨row,rfl,_⟩:=e6 hi
   simp only[List.getElem_append_left hi] at e1 e3
   rw[hl] at e1;cases e1
   show cx.P.low≤l.aL
   rcases hI1.fP _ _ l e3 hl e2 rfl with g1|g1
   ·have:=hI1.low.1;omega
   ·exact hI1.low.2 _ g1
 have hbd:(∀ t∈pre0.map (T.canon 4),Bd t)∧(∀ t∈vs0.map (T.canon 4),Bd t)∧∀ r∈rows',∀ t∈r,Bd t:=by
  refine ⟨fun t ht=>?_,fun t ht=>?_,fun r hr t ht=>?_⟩
  ·obtain ⟨t0,ht0,rfl⟩:=List.mem_map.1 ht
   obtain ⟨i,hi,rfl⟩:=List.mem_iff_getElem.1 ht0
   exact ((hpreR i hi).canon 4).bd
  ·obtain ⟨l,o,e1,e2,e3,e4⟩:=hbx' _ _ hσ0m
   cases e4 with
   | rows _ rs c hrs hz hB =>
    cases hrs
    obtain ⟨u,u1,u2⟩:=hB.cell 0 0 (by simp) (by simp)
    simp only[List.getElem_cons_zero] at u2
    cases u2 with
    | fn _ _ _ va vb h1 h2 h3 h4 =>
     obtain ⟨i,hi,rfl⟩:=List.mem_iff_getElem.1 ht
     have h5:=h4 i (by simp at hi ⊢;omega)
     rw[List.getElem_append_left (by simpa using hi)] at h5
     rw[List.getElem_map] at h5
     cases h5 with
     | p _ _ h5=>exact h5.bd
  ·obtain ⟨i,hi,rfl⟩:=List.mem_iff_getElem.1 hr
   obtain ⟨l,o,e1,e2,e3,e4⟩:=hbx' _ _ (hσ0r i hi)
   obtain ⟨j,hj,rfl⟩:=List.mem_iff_getElem.1 ht
   cases e4 with
   | rows _ rs c hrs hz hB =>
    cases hrs
    obtain ⟨u,u1,u2⟩:=hB.cell 0 j (by simp) (by simpa using hj)
    have he:([rows'[i].map D.p]:List (List D))[0][j]'(by simpa using hj) = .p rows'[i][j]:=by simp
    rw[he] at u2
    cases u2 with
    | p _ _ u2=>exact u2.bd
 obtain ⟨hlen,hs⟩:=h _ _ _ _ hgi hbd.1 hbd.2.1 hbd.2.2
 have ha':bC (Rd w (aI cx' ρ0 (pN f (vs0.map (T.canon 4)) rows')) ρ0) ((pre0.map (T.canon 4)).map .p++fR (rows'.length+1)) vs:=by
  refine ⟨by simp[fR];omega,fun i hi=>?_⟩
  by_cases hi':i<pre0.length
  ·rw[List.getElem_append_left (by simpa using hi')]
   simp only[List.getElem_map]
   exact .p _ _ (((hpreR i hi').canon 4).less hOwn)
  ·rw[List.getElem_append_right (by simpa using hi')]
   simp only[List.length_map,fR,List.getElem_map,List.getElem_range]
   have hi2:i-pre0.length<(kk++[s]).length:=by simp[fR] at hi ⊢;omega
   obtain ⟨l,hl,hv⟩:=hptrs _ hi2
   have e:A.length+(i-pre0.length)=i:=by omega
   rw[e] at hv
   rw[hv]
   have:=Rd.ptr (w:=w) (own:=aI cx' ρ0 (pN f (vs0.map (T.canon 4)) rows')) (ρ:=ρ0) (i-pre0.length) 0 0 l (by rw[hρ0g _ hi2];exact hl)
   simpa using this
 refine calls_of_wp hf hb ?_
 have hr:Rel cx' fn.ntmps ρ0 (AD f (pre0.map (T.canon 4)) (vs0.map (T.canon 4)) rows') { tmps:=vs++Array.replicate (fn.ntmps-vs.size) undef,defers:=[] } w:=nG hI' (aJ.refl _ _ _ _) hG ha' (by simp[fR] at hlen ⊢;omega)
 refine wp_mono (hs cx' rfl _ _ w hr) ?_
 rintro e a' w' ⟨st',ρ',hr',hq⟩
 unfold VI at hq
 split at hq
 case h_2=>exact hq.elim
 rename_i ts1 hex hres
 have hq':T.aQ ts1=T.aQ ts:=hq
 clear hq
 cases hq'
 have hl0:∀ i (hi:i<(kk++[s]).length),∃ l,ρ (kk++[s])[i]=some l∧ρ' i=some l∧0<l.L+l.C:=fun i hi=>by
  obtain ⟨l,_,_,e1,e2,_⟩:=hboxes i hi
  exact ⟨l,e1,hr'.keeps.loc i l (by show ρ0 i=some l;rw[hρ0g i hi,e1]),e2⟩
 have hst:∀ i,i≤rows'.length→∃ x l,st'.σ i=some x∧ρ' i=some l∧0<l.L+l.C:=fun i hi=>by
  obtain ⟨l,e1,e2,e3⟩:=hl0 i (by omega)
  by_cases hi':i<rows'.length
  ·unfold SS at hres
   split at hres
   case h_2=>cases hres
   split at hres
   case h_2=>cases hres
   rename_i as rs hfa _
   obtain ⟨q1,q2⟩:=qE hfa
   obtain ⟨ds,cs,z1,_⟩:=q2 i (by omega)
   exact ⟨_,l,by simpa using z1,e2,e3⟩
  ·have:i=kk.length:=by omega
   subst this
   obtain ⟨x',z1,_⟩:=hr'.keeps.ro kk.length _ hσ0m rfl
   exact ⟨x',l,z1,e2,e3⟩
 have hO':∀ b,aI cx ρ σ2 b→aI cx' ρ' st'.σ b:=by
  intro b hb
  by_cases e:∃ i l,ρ0 i=some l∧l.aL=b
  ·obtain ⟨i,l,e1,rfl⟩:=e
   obtain ⟨hi,e2⟩:=hρ0s i l e1
   obtain ⟨l',g1,g2,g3⟩:=hl0 i hi
   rw[e2] at g1;cases g1
   obtain ⟨x,l2,g4,g5,_⟩:=hst i (by omega)
   exact .inr ⟨i,l,x,g4,g2,g3,rfl⟩
  ·exact .inl ⟨hb,fun i l h1 h2=>e ⟨i,l,h1,h2⟩⟩
 obtain ⟨v,as,rs,hts,h1,h2,h3,h4⟩:=PQ (own0:=aI cx ρ σ2) hr' hst (fun b hb=>by
  obtain ⟨i,hi,l,hl,rfl⟩:=hargl b hb
  obtain ⟨l',g1,g2,_⟩:=hl0 i (by omega)
  rw[List.getElem_append_left hi,hl] at g1;cases g1
  exact ⟨i,l,by omega,g2,rfl⟩) hO' (fun b hb=>aI.lt hI1 hb) hres
 obtain ⟨css,c1,c2,c3⟩:=sF hlens
 have hsplit:as=css.map .agg∧rs=ts.drop rows'.length:=by
  rw[hts] at c2
  have:=List.append_inj c2 (by simp[h3,c1])
  exact ⟨this.1,this.2.trans (by rw[hts])⟩
 obtain ⟨ha1,ha2⟩:=hsplit
 have hbel:gJ argl w.heap.size w w':=hr'.inv.below
 have hck:css.length=kk.length:=by omega
 have hset:=zD (r:=ts.drop rows'.length) (σ:=σ2) (List.nodup_append.1 hnd).1 hck
 rw[←c2] at hset
 have hnew:∀ i (hi:i<kk.length),∃ l o,ρ kk[i]=some l∧0<l.L+l.C∧w'.heap[l.aL]? = some o∧bE w' (aI cx ρ σ2) ρ l o (.rows false [css[i].map .p])∧∃ row:List T,σ2 kk[i]=some (.rows false [row.map .p]):=fun i hi=>by
  obtain ⟨l,x,o0,e1,e2,e3,e4,e5,e6,e7⟩:=hboxes i (by omega)
  obtain ⟨row,rfl,_⟩:=e6 hi
  simp only[List.getElem_append_left hi] at e1 e3
  have hic:i<css.length:=by omega
  obtain ⟨ds,cs,z1,z2,z3,z4⟩:=h4 i (by omega)
  have z5:css[i]'hic=cs:=by
   have:as[i]'(by omega)=(css.map T.agg)[i]'(by simp;omega):=by congr 1
   rw[z2,List.getElem_map] at this
   exact (T.agg.inj this).symm
  rw[←z5] at z2 z3 z4
  clear z5 cs
  obtain ⟨l',hl',hbo⟩:=hr'.inv.boxes i _ z1
  obtain ⟨l2,g1,g2,_⟩:=hl0 i (by omega)
  rw[List.getElem_append_left hi,e1] at g1;cases g1
  rw[g2] at hl';cases hl'
  obtain ⟨o',ho',hbx''⟩:=hbo.1 e2
  refine ⟨l,o',e1,e2,ho',?_,row,e3⟩
  cases hbx'' with
  | rows _ rs c hrs hz hB =>
   cases hrs
   refine .rows _ _ c rfl (fun _ _ _ e=>by cases e) ⟨hB.size,hB.pos,by simp,by simpa using hB.len,by simpa using hB.AE,fun r hr=>?_,fun i' j hi' hj=>?_,hB.one⟩
   ·rw[List.mem_singleton.1 hr,List.length_map,z3]
    exact hB.width ds List.mem_cons_self
   ·have hi0:i'=0:=by simpa using hi'
    subst hi0
    have hj1:j<css[i].length:=by simpa using hj
    obtain ⟨u,u1,u2⟩:=hB.cell 0 j (by simp) (by simpa using (by omega:j<ds.length))
    refine ⟨u,u1,?_⟩
    have he:([css[i].map D.p]:List (List D))[0][j] = .p css[i][j]:=by simp
    rw[he]
    exact .p _ _ (z4 j (by omega) hj1 u (by simpa using u2))
 have hkk:∀ k,k∈kk→∃ i,∃ hi:i<kk.length,kk[i]=k:=fun k hk=>by
  obtain ⟨i,hi,e⟩:=List.mem_iff_getElem.1 hk
  exact ⟨i,hi,e⟩
 obtain ⟨k1,k2,k3⟩:=hI1.SY (σ':=tB σ2 kk ts) (n':=n+1) (Nat.le_succ n) argl (w':=w')
  (fun i y hy=>by
   by_cases hk:i∈kk
   ·obtain ⟨j,hj,rfl⟩:=hkk i hk
    rw[hset.2 j hj (by omega)] at hy;cases hy
    obtain ⟨_,_,_,_,_,_,row,hrow⟩:=hnew j hj
    exact ⟨_,hrow,fun _=>rfl⟩
   ·rw[hset.1 i hk] at hy;exact ⟨y,hy,id⟩)
  (fun i x hx=>by
   by_cases hk:i∈kk
   ·obtain ⟨j,hj,rfl⟩:=hkk i hk
    obtain ⟨_,_,_,_,_,_,row,hrow⟩:=hnew j hj
    rw[hrow] at hx;cases hx
    exact ⟨_,hset.2 j hj (by omega),fun h=>by cases h⟩
   ·exact ⟨x,by rw[hset.1 i hk];exact hx,id⟩)
  (fun i y l hy hl hnot=>by
   by_cases hk:i∈kk
   ·obtain ⟨j,hj,rfl⟩:=hkk i hk
    obtain ⟨l',_,g1,g2,_⟩:=hnew j hj
    rw[hl] at g1;cases g1
    exact absurd (hargl' j hj l hl) (hnot g2)
   ·rw[hset.1 i hk] at hy;exact hy)
  (fun i y l hy hl hL hin=>by
   obtain ⟨j,hj,l',hl',hb'⟩:=hargl _ hin
   obtain ⟨l2,o,g1,g2,g3,g4,row,g5⟩:=hnew j hj
   rw[hl'] at g1;cases g1
   have hsome:∃ x,σ2 i=some x:=by
    by_cases hk:i∈kk
    ·obtain ⟨j',hj',rfl⟩:=hkk i hk
     obtain ⟨_,_,_,_,_,_,row',hrow'⟩:=hnew j' hj'
     exact ⟨_,hrow'⟩
    ·rw[hset.1 i hk] at hy;exact ⟨y,hy⟩
   obtain ⟨x,hx⟩:=hsome
   have hij:=hI1.inj _ _ x _ l l' hx g5 hl hl' hL g2 hb'.symm
   subst hij
   rw[hl] at hl';cases hl'
   rw[hset.2 j hj (by omega)] at hy;cases hy
   exact ⟨o,g3,g4⟩)
  (fun b hb=>by
   obtain ⟨j,hj,l',hl',rfl⟩:=hargl _ hb
   obtain ⟨l2,o,g1,g2,g3,g4,row,g5⟩:=hnew j hj
   rw[hl'] at g1;cases g1
   exact ⟨_,_,l',g5,hl',g2,rfl,rfl⟩)
  hbel hr'.keeps.shape
 have hfin:Rd w' (aI cx ρ (tB σ2 kk ts)) ρ (.p (rN (ts.drop rows'.length))) v:=.p _ _ (by rw[←ha2];exact h2.less k3)
 rcases gC hex with rfl|rfl
 ·exact ⟨hr'.defers,v,h1,v,ρ,rfl,k1,hK1.trans' k2,hfin⟩
 ·exact ⟨hr'.defers,v,h1,v,ρ,rfl,k1,hK1.trans' k2,hfin⟩
theorem wG:∀ (rows:List (List T)),rowsOf (rows.map .agg)=some rows
 | []=>rfl
 | r::rows=>by simp[rowsOf,wG rows]
theorem J0 (hE:aM P E) (hm:P.follows .mixedOrders=true) (hn:a7 P=true) (hh:cS E) (k:Nat) {f:FuncId} {g:List T→Option T} (hex:∃ fn c,P.funcs[f]? = some fn∧fn.body=some c)
  (h:∀ (pre vals:List T) (rows:List (List T)) (r:T),g (.aQ pre :: .aQ vals::rows.map .agg)=some r→(∀ t∈pre,Bd t)→(∀ t∈vals,Bd t)→(∀ r∈rows,∀ t∈r,Bd t)→B2 bP P E Hs k f (.aQ pre :: .aQ vals::rows.map .agg) (fun x=>x=r)):pR P f g:=by
 obtain ⟨fn,c,hf,hb⟩:=hex
 refine JZ hn hf hb fun pre vals rows ts hg b1 b2 b3=>?_
 have hs:=h _ _ _ _ hg b1 b2 b3
 unfold B2 at hs
 rw[hf] at hs
 dsimp only at hs
 rw[wG] at hs
 split at hs
 case h_2=>exact hs.elim
 rename_i rows' c' e he
 cases e
 rw[hb] at he
 cases he
 split at hs
 case h_2=>exact hs.elim
 rename_i hlen
 refine ⟨of_decide_eq_true hlen,fun cx hP ρ a w hr=>wp_mono (mI hE hm hh (kM hE hm hn hh k) c cx hP _ (AD f pre vals rows) hs ρ a w hr) ?_⟩
 rintro e a' w' ⟨st',ρ',hr',hq,_⟩
 exact ⟨st',ρ',hr',hq⟩
theorem CU (hE:aM P E) (hm:P.follows .mixedOrders=true) (hn:a7 P=true) (hh:cS E) (k:Nat) {f:FuncId} {X:Type} {A:X→List T} {sp:X→Option T} (hex:∃ fn c,P.funcs[f]? = some fn∧fn.body=some c)
  (h:∀ x r,sp x=some r→B2 bP P E Hs k f (A x) (fun y=>y=r)):pR P f (gA A sp) :=
 J0 (Hs:=Hs) hE hm hn hh k hex fun pre vals rows r hg _ _ _=>by
  obtain ⟨x,hx,hs⟩:=RW hg
  rw[hx]
  exact h x r hs
theorem PL (hn:a7 P=true) {f:FuncId} {g:List T→Option T} {fn:Func} {c:Code} (hf:P.funcs[f]? = some fn) (hb:fn.body=some c)
  (h:∀ row ts r,g (.agg row::ts)=some r→(∀ t∈T.agg row::ts,Bd t)→ts.length+1≤fn.ntmps∧∀ cx:Cx,cx.P=P→AW cx fn.ntmps c (VJ bP P fn.results (fun x=>x=r)) (stM row ts)):bX P f (o3 g):=by
 refine ⟨⟨fn,hf,iH hn hf,by simp[hb]⟩,fun cx ρ σ n w args vs d σ' n' hcP hG hI ha hg=>?_⟩
 subst hcP
 unfold o3 at hg
 split at hg
 case h_2=>cases hg
 rename_i kk row ts σ1 hin
 split at hg
 case h_2=>cases hg
 rename_i cs' t hgr
 split at hg
 case h_2=>cases hg
 rename_i hlen'
 cases hg
 have hlen':cs'.length=row.length:=Nat.eq_of_beq_eq_true hlen'
 unfold EF at hin
 split at hin
 case h_2=>cases hin
 rename_i k0 i j rest
 split at hin
 case h_2=>cases hin
 rename_i ps σ2 hij hgive
 split at hin
 case h_2=>cases hin
 rename_i ds ts0 hσ hpre
 split at hin
 case h_2=>cases hin
 rename_i row0 hrow
 simp only[Option.some.injEq,Prod.mk.injEq] at hin
 obtain ⟨rfl,rfl,rfl,rfl⟩:=hin
 rw[Bool.and_eq_true,decide_eq_true_eq,decide_eq_true_eq] at hij
 obtain ⟨rfl,rfl⟩:=hij
 have hds:=cU hrow
 subst hds
 have hsz:vs.size=rest.length+1:=by have:=ha.1;simpa using this
 obtain ⟨hI1,hK1,hpl,hpr⟩:=kL (ps:=rest.map fun d=>(0,d)) (vps:=(vs.toList.drop 1).map fun v=>(0,v)) hI (by simp;omega) (fun i h1 h2=>by
  refine ⟨by simp,?_⟩
  have hi:i<rest.length:=by simpa using h1
  have:=ha.2 (i+1) (by simp;omega)
  rw[List.getElem_cons_succ,Array.getD,dif_pos (by omega)] at this
  simpa [Nat.add_comm] using this) hgive
 have hpe:=cU hpre
 have hpl':ts0.length=rest.length:=by
  have:=congrArg List.length hpe
  simp at this hpl;omega
 have hpreR:∀ i (hi:i<ts0.length),aY w (aI cx ρ σ2) ts0[i] (vs.getD (i+1) undef):=fun i hi=>by
  have hi':i<ps.length:=by have:=congrArg List.length hpe;simp at this;omega
  have h2:=(hpr i hi' (by simp;omega)).2
  have h3:ps[i].2 = .p ts0[i]:=by
   have:(ps.map (·.2))[i]'(by simpa using hi')=(ts0.map D.p)[i]'(by simpa using hi):=by congr 1
   simpa using this
  rw[h3] at h2
  cases h2 with
  | p _ _ h2 =>
   rw[Array.getD,dif_pos (by omega)]
   simpa [Nat.add_comm] using h2
 have hptr:=ha.2 0 (by simp)
 rw[List.getElem_cons_zero] at hptr
 have hrl:(row0.map (T.canon 4)).length=row0.length:=by simp
 obtain ⟨row,hrowe⟩:∃ row,row=row0.map (T.canon 4):=⟨_,rfl⟩
 obtain ⟨ts,htse⟩:∃ ts,ts=ts0.map (T.canon 4):=⟨_,rfl⟩
 rw[←hrowe] at hlen' hgr hrl
 rw[←htse] at hgr
 obtain ⟨l,hl,hL,o,ho,hbx⟩:=hI1.loc hσ (fun ro z e=>by cases e)
 have hlt:l.aL<w.heap.size:=((hI1.new k0 l hl).2 hL).1
 have hOl:aI cx ρ σ2 l.aL:=.inr ⟨k0,l,_,hσ,hl,hL,rfl⟩
 let cx':Cx:=⟨cx.P,fun b=>aI cx ρ σ2 b∧b≠l.aL,w,aS (fun _=>none) 0 (some l),aS (fun _=>none) 0 (some (.rows false [row.map .p])),w,[l.aL]⟩
 have hOwn:∀ b,aI cx' (aS (fun _=>none) 0 (some l)) (aS (fun _=>none) 0 (some (.rows false [row.map .p]))) b→aI cx ρ σ2 b:=by
  rintro b (⟨hb,_⟩|⟨k',l',x',h1,h2,h3,h4⟩)
  ·exact hb
  ·by_cases e:k'=0
   ·subst e;simp at h2;subst h2;rw[←h4];exact hOl
   ·rw[aG _ _ e] at h1;cases h1
 have hbox:bE w (aI cx' (aS (fun _=>none) 0 (some l)) (aS (fun _=>none) 0 (some (.rows false [row.map .p])))) (aS (fun _=>none) 0 (some l)) l o (.rows false [row.map .p]):=by
  cases hbx with
  | rows _ rs c hrs hz hB =>
   cases hrs
   refine .rows _ _ c rfl (fun _ _ _ e=>by cases e) ⟨hB.size,hB.pos,by simp,by simpa using hB.len,by simpa using hB.AE,fun r hr=>?_,fun i' j hi hj=>?_,hB.one⟩
   ·rw[List.mem_singleton.1 hr,List.length_map,hrl]
    have:=hB.width _ List.mem_cons_self
    simpa using this
   ·have hi0:i'=0:=by simpa using hi
    subst hi0
    have hj':j<row0.length:=by rw[←hrl];simpa using hj
    obtain ⟨u,u1,u2⟩:=hB.cell 0 j (by simp) (by simpa using hj')
    refine ⟨u,u1,?_⟩
    have he:([row0.map D.p]:List (List D))[0][j]'(by simpa using hj') = .p row0[j]:=by simp
    have he':([row.map D.p]:List (List D))[0][j]'(by simpa using hj) = .p (T.canon 4 row0[j]):=by
     simp only[List.getElem_cons_zero,List.getElem_map]
     congr 1
     simp[hrowe]
    rw[he] at u2
    rw[he']
    cases u2 with
    | p _ _ u2=>exact .p _ _ ((u2.canon 4).less hOwn)
 have hI':Inv cx' (aS (fun _=>none) 0 (some l)) (aS (fun _=>none) 0 (some (.rows false [row.map .p]))) 1 w:=by
  have z:∀ {α:Type} {x:Option α} {k':Nat} {y:α},aS (fun _=>none) 0 x k'=some y→k'=0∧x=some y:=by
   intro α x k' y h
   by_cases e:k'=0
   ·subst e;simp at h;exact ⟨rfl,h⟩
   ·rw[aG _ _ e] at h;cases h
  refine ⟨fun k' x hk=>?_,fun k1 k2 x1 x2 l1 l2 h1 h2 h3 h4 _ _ _=>?_,fun k' l' hk=>?_,fun k' x l' h1 h2 h3 h4=>?_,pV (Below.refl _ _),fun b hb=>aI.lt hI1 hb.1,hG.2,fun a e=>?_⟩
  ·obtain ⟨rfl,e⟩:=z hk
   cases e
   exact ⟨l,by simp,fun _=>⟨o,ho,hbox⟩,fun h0=>by omega⟩
  ·obtain ⟨rfl,_⟩:=z h1
   obtain ⟨rfl,_⟩:=z h2
   rfl
  ·obtain ⟨rfl,e⟩:=z hk
   cases e
   exact ⟨by omega,fun _=>⟨hlt,fun hc=>hc.2 rfl⟩⟩
  ·obtain ⟨_,e⟩:=z h2
   cases e
   exact .inr List.mem_cons_self
  ·have e:=List.mem_singleton.1 e
   subst e
   show cx.P.low≤l.aL
   rcases hI1.fP k0 _ l hσ hl hL rfl with g1|g1
   ·have:=hI1.low.1;omega
   ·exact hI1.low.2 _ g1
 have hbd:∀ t∈T.agg row::ts,Bd t:=by
  intro t ht
  rcases List.mem_cons.1 ht with rfl|ht
  ·refine (L2 _).2 fun t ht=>?_
   obtain ⟨j,hj,rfl⟩:=List.mem_iff_getElem.1 ht
   cases hbox with
   | rows _ rs c hrs hz hB =>
    cases hrs
    obtain ⟨u,u1,u2⟩:=hB.cell 0 j (by simp) (by simpa using hj)
    have he:([row.map D.p]:List (List D))[0][j]'(by simpa using hj) = .p row[j]:=by simp
    rw[he] at u2
    cases u2 with
    | p _ _ u2=>exact u2.bd
  ·rw[htse] at ht
   obtain ⟨t0,ht0,rfl⟩:=List.mem_map.1 ht
   obtain ⟨i,hi,rfl⟩:=List.mem_iff_getElem.1 ht0
   exact ((hpreR i hi).canon 4).bd
 obtain ⟨hlen,hs⟩:=h _ _ _ hgr hbd
 have ha':bC (Rd w (aI cx' (aS (fun _=>none) 0 (some l)) (aS (fun _=>none) 0 (some (.rows false [row.map .p])))) (aS (fun _=>none) 0 (some l))) (.ptr 0 0 0::ts.map .p) vs:=by
  refine ⟨by rw[htse];simp;omega,fun i hi=>?_⟩
  cases i with
  | zero =>
   simp only[List.getElem_cons_zero]
   generalize vs.getD 0 undef=v at hptr ⊢
   cases hptr with
   | ptr _ _ _ l' hl' =>
    rw[hl] at hl';cases hl'
    exact .ptr 0 0 0 l (by simp)
  | succ i =>
   have hi':i<ts0.length:=by rw[htse] at hi;simpa using hi
   simp only[List.getElem_cons_succ,List.getElem_map]
   rw[show ts[i]'(by rw[htse];simpa using hi')=T.canon 4 ts0[i] by simp[htse]]
   exact .p _ _ (((hpreR i hi').canon 4).less hOwn)
 refine calls_of_wp hf hb ?_
 have hr:Rel cx' fn.ntmps (aS (fun _=>none) 0 (some l)) (stM row ts) { tmps:=vs++Array.replicate (fn.ntmps-vs.size) undef,defers:=[] } w:=nG hI' (aJ.refl _ _ _ _) hG ha' (by simpa using hlen)
 refine wp_mono (hs cx' rfl _ _ w hr) ?_
 rintro e a' w' ⟨st',ρ',hr',hq⟩
 unfold VJ at hq
 split at hq
 case h_2=>exact hq.elim
 rename_i cs1 t1 hex hres
 have hq':T.aQ (.agg cs1::t1)=T.aQ (.agg cs'::t):=hq
 clear hq
 simp only[T.aQ.injEq,List.cons.injEq,T.agg.injEq,and_true] at hq'
 obtain ⟨q1,q2⟩:=hq'
 subst q1 q2
 have hl0:ρ' 0=some l:=hr'.keeps.loc 0 l (by simp[cx'])
 have hO':∀ b,aI cx ρ σ2 b→aI cx' ρ' st'.σ b:=by
  intro b hb
  by_cases e:b=l.aL
  ·subst e
   have:∃ ds,st'.σ 0=some (.rows false [ds]):=by
    unfold SU at hres
    split at hres
    ·rename_i h1 _;exact ⟨_,h1⟩
    ·cases hres
   obtain ⟨ds,h1⟩:=this
   exact .inr ⟨0,l,_,h1,hl0,hL,rfl⟩
  ·exact .inl ⟨hb,e⟩
 obtain ⟨v,h1,h2,ds,h3,h4,h5⟩:=PU (own0:=aI cx ρ σ2) hr' hl0 hL rfl hO' (fun b hb=>aI.lt hI1 hb) hres
 have hbel:gJ [l.aL] w.heap.size w w':=hr'.inv.below
 obtain ⟨l',hl',hbo⟩:=hr'.inv.boxes 0 _ h3
 rw[hl0] at hl';cases hl'
 obtain ⟨o',ho',hbx'⟩:=hbo.1 hL
 have hnew:bE w' (aI cx ρ σ2) ρ l o' (.rows false [cs1.map .p]):=by
  cases hbx' with
  | rows _ rs c hrs hz hB =>
   cases hrs
   refine .rows _ _ c rfl (fun _ _ _ e=>by cases e) ⟨hB.size,hB.pos,by simp,by simpa using hB.len,by simpa using hB.AE,fun r hr=>?_,fun i j hi hj=>?_,hB.one⟩
   ·rw[List.mem_singleton.1 hr,List.length_map,h4]
    exact hB.width ds List.mem_cons_self
   ·have hi0:i=0:=by simpa using hi
    subst hi0
    have hj1:j<cs1.length:=by simpa using hj
    obtain ⟨u,u1,u2⟩:=hB.cell 0 j (by simp) (by simpa using (by omega:j<ds.length))
    refine ⟨u,u1,?_⟩
    have he:([cs1.map D.p]:List (List D))[0][j] = .p cs1[j]:=by simp
    rw[he]
    exact .p _ _ (h5 j (by omega) hj1 u (by simpa using u2))
 obtain ⟨g1,g2⟩:=hI1.SX (Nat.le_succ n) hσ hl hL rfl o' (.rows false [cs1.map .p]) hbel ho' hr'.keeps.shape hnew
 have hfin:Rd w' (aI cx ρ (aS σ2 k0 (some (.rows false [cs1.map .p])))) ρ (.p (rN t1)) v:=by
  refine .p _ _ (h2.less fun b hb=>?_)
  rcases hb with hb|⟨i,l',y,q1,q2,q3,q4⟩
  ·exact .inl hb
  ·by_cases e:i=k0
   ·subst e;exact .inr ⟨i,l',_,hσ,q2,q3,q4⟩
   ·rw[aG _ _ e] at q1;exact .inr ⟨i,l',y,q1,q2,q3,q4⟩
 rcases gC hex with rfl|rfl
 ·exact ⟨hr'.defers,v,h1,v,ρ,rfl,g1,hK1.trans' g2,hfin⟩
 ·exact ⟨hr'.defers,v,h1,v,ρ,rfl,g1,hK1.trans' g2,hfin⟩
theorem PM (hE:aM P E) (hm:P.follows .mixedOrders=true) (hn:a7 P=true) (hh:cS E) (k:Nat) {f:FuncId} {g:List T→Option T} (hex:∃ fn c,P.funcs[f]? = some fn∧fn.body=some c)
  (h:∀ args r,g args=some r→(∀ t∈args,Bd t)→B3 bP P E Hs k f args (fun x=>x=r)):bX P f (o3 g):=by
 obtain ⟨fn,c,hf,hb⟩:=hex
 refine PL hn hf hb fun row ts r hg hbd=>?_
 have hs:=h _ _ hg hbd
 unfold B3 at hs
 rw[hf] at hs
 dsimp only at hs
 split at hs
 case h_2=>exact hs.elim
 rename_i c' he hlen
 rw[hb] at he
 cases he
 refine ⟨of_decide_eq_true hlen,fun cx hP ρ a w hr=>wp_mono (mI hE hm hh (kM hE hm hn hh k) c cx hP _ (stM row ts) hs ρ a w hr) ?_⟩
 rintro e a' w' ⟨st',ρ',hr',hq,_⟩
 exact ⟨st',ρ',hr',hq⟩
abbrev B9 (P:Program) (f:FuncId) (g:List T→Option T):Prop:=bX P f (o3 g)
theorem I3 (hE:aM P E) (hm:P.follows .mixedOrders=true) (hn:a7 P=true) (hh:cS E) (k:Nat) {f:FuncId} {s:Sh} {sp:Sh.den s→Option T} (hex:∃ fn c,P.funcs[f]? = some fn∧fn.body=some c) (hs:jZ s=true)
  (h:∀ x r,sp x=some r→dO s x→B3 bP P E Hs k f (Sh.dS s x) (fun y=>y=r)):B9 P f (gS s sp) :=
 PM hE hm hn hh k hex fun args r hg hb=>by
  obtain ⟨x,rfl,hx⟩:=AN hg
  exact h x r hx (AA hs hb)
end
end Go.Pv
