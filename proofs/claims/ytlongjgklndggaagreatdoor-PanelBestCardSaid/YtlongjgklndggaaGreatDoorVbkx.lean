/-
  The symbolic executor, part x: closures that call themselves, and turn variables of the caller's own.
-/
import Derived.Test.YtlongjgklndggaaGreatDoorVbkv
set_option linter.defProp false
set_option linter.unusedSimpArgs false
namespace Go.Pv
open Go Go.RowKit
theorem Inv.OZ {cx:Cx} {ρ:Nat→Option Loc} {σ σ':Nat→Option aB} {n n':Nat} {w w':World} (h:Inv cx ρ σ n w) (hn:n≤n') (bs:List Nat)
  (hdom:∀ i y,σ' i=some y→∃ x,σ i=some x∧(bS y=true→bS x=true))
  (hdom':∀ i x,σ i=some x→∃ y,σ' i=some y∧(bS x=false→bS y=false))
  (hsame:∀ i y l,σ' i=some y→ρ i=some l→(0<l.L+l.C→¬ l.aG∈bs)→σ i=some y)
  (hnew:∀ i y l,σ' i=some y→ρ i=some l→0<l.L+l.C→l.aG∈bs→∃ o,w'.heap[l.aG]? = some o∧bA w' (aF cx ρ σ) ρ l o y)
  (hbs:∀ b∈bs,∃ k x l,σ k=some x∧ρ k=some l∧0<l.L+l.C∧l.aG=b∧bS x=true)
  (hb:iG bs w.heap.size w w') (hsh:∀ b y,w.shape? b=some y→w'.shape? b=some y) :
  Inv cx ρ σ' n' w'∧aD cx ρ ρ σ σ' w w'∧∀ b,aF cx ρ σ' b→aF cx ρ σ b:=by
 have hown:∀ b,aF cx ρ σ' b→aF cx ρ σ b:=by
  rintro b (hc|⟨i,l,y,h1,h2,h3,h4⟩)
  ·exact .inl hc
  ·obtain ⟨x,hx,_⟩:=hdom i y h1
   exact .inr ⟨i,l,x,hx,h2,h3,h4⟩
 have hc:∀ b,¬ aF cx ρ σ b→b<w.heap.size→w'.heap[b]? = w.heap[b]? := fun b hn hlt=>hb.block b hlt fun e=>by
  obtain ⟨k,x,l,h1,h2,h3,h4,_⟩:=hbs b e
  exact hn (.inr ⟨k,l,x,h1,h2,h3,h4⟩)
 have hz:w.heap.size≤w'.heap.size:=hb.size
 have hlow:=h.below.size
 refine ⟨⟨fun i y hi=>?_,fun i i' y y' m m' h1 h2 h3 h4 hL hL' he=>?_,fun i m hm=>?_,fun i y m hi hm hLm hwy=>?_,?_,h.eC,h.low⟩,⟨hc,hz,fun b _ hn hc=>hn (hown b hc),fun _ _ h=>h,hsh,fun i y hi hy=>?_⟩,hown⟩
 ·obtain ⟨x,hx,_⟩:=hdom i y hi
  obtain ⟨l,hl,hbo⟩:=h.boxes i x hx
  refine ⟨l,hl,?_⟩
  by_cases hm:0<l.L+l.C∧l.aG∈bs
  ·obtain ⟨o,ho,hbx⟩:=hnew i y l hi hl hm.1 hm.2
   exact ⟨fun _=>⟨o,ho,hbx.mono (fun _ _ _=>rfl) (Nat.le_refl _) (fun b _ hn hc=>hn (hown b hc)) (fun _ _ h=>h)⟩,fun h0=>by omega⟩
  ·have hm':0<l.L+l.C→¬ l.aG∈bs:=fun h1 h2=>hm ⟨h1,h2⟩
   have e:=hsame i y l hi hl hm'
   rw[hx] at e;cases e
   exact hbo.mono hc hz (fun b _ hn hc=>hn (hown b hc)) (fun _ _ h=>h) fun hL=>hb.block _ ((h.new i l hl).2 hL).1 (hm' hL)
 ·obtain ⟨x,hx,_⟩:=hdom _ _ h1
  obtain ⟨x',hx',_⟩:=hdom _ _ h2
  exact h.inj i i' x x' m m' hx hx' h3 h4 hL hL' he
 ·have h1:=h.new i m hm
  exact ⟨by omega,fun hL=>⟨by have:=(h1.2 hL).1;omega,(h1.2 hL).2⟩⟩
 ·obtain ⟨x,hx,hw⟩:=hdom i y hi
  exact h.gY i x m hx hm hLm (hw hwy)
 ·refine h.below.trans ⟨hb.os,hb.tape,hb.output,hz,fun b hb' ha=>hb.block b (by omega) fun e=>?_⟩
  obtain ⟨k,x,l,h1,h2,h3,h4,h5⟩:=hbs b e
  rcases h.gY k x l h1 h2 h3 h5 with g|g
  ·omega
  ·exact ha (h4 ▸ g)
 ·obtain ⟨y',h1,h2⟩:=hdom' i y hi
  exact ⟨y',h1,h2 hy⟩
def fF (m:Nat):List D:=(List.range m).map fun k=>.ptr k 0 0
def oF (f:FuncId) (vals:List T) (rows:List (List T)):Nat→Option aB:=fun k=>match rows[k]? with
 | some r=>some (.rows false [r.map .p])
 | none=>match Nat.beq k rows.length with
  | true=>some (.rows true [[.fn f [] (vals.map .p++fF (rows.length+1))]])
  | false=>none
def xU (f:FuncId) (pre vals:List T) (rows:List (List T)):St:=vN (pre.map .p++fF (rows.length+1)) (oF f vals rows) (rows.length+1)
def LW (m:Nat) (σ:Nat→Option aB):Nat→Option aB:=fun k=>match Nat.ble k m with
 | true=>none
 | false=>R1 σ k
def NU (τ σ:Nat→Option aB):Nat→Nat→Option (List T)
 | 0,_=>some []
 | n+1,k=>match σ k with
  | some (.rows false [ds])=>match HG τ ds,NU τ σ n (k+1) with
   | some cs,some r=>some (.agg cs::r)
   | _,_=>none
  | _=>none
def OX (P:Program) (rs:Array ResultVar) (m:Nat) (st:St):Option (List T):=match lA P st rs.toList with
 | some ds=>match NU (LW m st.σ) st.σ m 0,HG (LW m st.σ) ds with
  | some a,some b=>some (a++b)
  | _,_=>none
 | none=>none
def RX (C:dH) (P:Program) (rs:Array ResultVar) (m:Nat) (R:T→Prop) (e:Exit) (st:St):Prop:=match eV e,OX P rs m st with
 | true,some ts=>R (.aR ts)
 | _,_=>C.bad 707
def rowsOf:List T→Option (List (List T))
 | []=>some []
 | .agg r::l=>(rowsOf l).map (r :: ·)
 | _=>none
def zD (C:dH) (P:Program) (E:Env) (Hs:FuncId→Hint) (k:Nat) (f:FuncId) (ins:List T) (R:T→Prop):Prop:=match ins,P.funcs[f]? with
 | .aR pre :: .aR vals::rs,some fn=>match rowsOf rs,fn.body with
  | some rows,some cd=>match decide (pre.length+rows.length+1≤fn.ntmps) with
   | true=>sx C P E (DM C P E Hs k) (Hs f) fn.ntmps cd (RX C P fn.results rows.length R) (xU f pre vals rows)
   | false=>C.bad 708
  | _,_=>C.bad 703
 | _,_=>C.bad 704
abbrev oL (P:Program) (f:FuncId) (g:List T→Option T):Prop:=bO P f (pU f g)
theorem cQ:∀ (l:List D),(c9 l).1++(c9 l).2=l
 | []=>rfl
 | .ptr k i j::r=>rfl
 | .p t::r=>by simp[c9,cQ r]
 | .agg cs::r=>by simp[c9,cQ r]
 | .aR cs::r=>by simp[c9,cQ r]
 | .own k::r=>by simp[c9,cQ r]
 | .bs k a b::r=>by simp[c9,cQ r]
 | .map k::r=>by simp[c9,cQ r]
 | .it k::r=>by simp[c9,cQ r]
 | .fn f a b::r=>by simp[c9,cQ r]
 | .cond g d::r=>by simp[c9,cQ r]
 | .any::r=>by simp[c9,cQ r]
theorem nB:∀ {l:List D} {ks:List Nat},BO l=some ks→l=ks.map fun k=>.ptr k 0 0
 | [],ks,h=>by cases h;rfl
 | d::r,ks,h=>by
  unfold BO at h
  split at h
  ·rename_i e;cases e
  ·rename_i k i j r' e
   cases e
   split at h
   ·rename_i hij
    rw[Bool.and_eq_true,decide_eq_true_eq,decide_eq_true_eq] at hij
    obtain ⟨rfl,rfl⟩:=hij
    simp only[Option.map_eq_some_iff] at h
    obtain ⟨l,hl,rfl⟩:=h
    rw[nB hl];rfl
   ·cases h
  ·cases h
theorem uS:∀ {a b:List Nat},F5 a b=true→a=b
 | [],[],_=>rfl
 | [],_::_,h=>by cases h
 | _::_,[],h=>by cases h
 | a::l,b::m,h=>by
  simp only[F5,Bool.and_eq_true] at h
  rw[Nat.eq_of_beq_eq_true h.1,uS h.2]
theorem pZ:∀ {l:List Nat},nodupB l=true→l.Nodup
 | [],_=>List.nodup_nil
 | a::l,h=>by
  simp only[nodupB,Bool.and_eq_true,List.all_eq_true,Bool.not_eq_true'] at h
  refine List.nodup_cons.2 ⟨fun hm=>?_,pZ h.2⟩
  have:=h.1 a hm
  rw[Nat.beq_refl] at this;cases this
theorem uN {σ:Nat→Option aB}:∀ {kk:List Nat} {rows:List (List T)},iY σ kk=some rows→rows.length=kk.length ∧
  ∀ i (h:i<kk.length) (h':i<rows.length),∃ row:List T,σ kk[i]=some (.rows false [row.map .p])∧rows[i]=row.map (T.canon 4)
 | [],rows,h=>by cases h;exact ⟨rfl,fun i h=>by simp at h⟩
 | k::kk,rows,h=>by
  unfold iY at h
  split at h
  ·rename_i ds hσ
   split at h
   ·rename_i row rs hds hrs
    cases h
    obtain ⟨g1,g2⟩:=uN hrs
    refine ⟨by simpa using g1,fun i h1 h2=>?_⟩
    cases i with
    | zero=>exact ⟨row,by rw[List.getElem_cons_zero,hσ,dG hds],rfl⟩
    | succ i=>simpa using g2 i (by simpa using h1) (by simpa using h2)
   ·cases h
  ·cases h
theorem ED {f:FuncId} {σ:Nat→Option aB} {s:Nat} {ks:List Nat} {vals:List T} (h:L5 f σ s ks=some vals) :
  ∃ (ro:Bool) (vs:List T),σ s=some (.rows ro [[.fn f [] (vs.map .p++ks.map fun k=>.ptr k 0 0)]])∧vals=vs.map (T.canon 4):=by
 unfold L5 at h
 split at h
 ·rename_i ro f' caps hσ
  split at h
  ·rename_i vs ks' hf hv hk
   split at h
   ·rename_i he
    cases h
    have e1:=cQ caps
    rw[dG hv,nB hk,uS he] at e1
    refine ⟨ro,vs,?_,rfl⟩
    rw[hσ,←of_decide_eq_true hf,e1]
   ·cases h
  ·cases h
 ·cases h
theorem pX:∀ {rows:List (List T)} {ts:List T},tV rows ts=true→∃ css:List (List T),css.length=rows.length∧ts=css.map .agg++ts.drop rows.length∧∀ i (h:i<css.length) (h':i<rows.length),css[i].length=rows[i].length
 | [],ts,_=>⟨[],rfl,rfl,fun i h=>by simp at h⟩
 | row::rows,ts,h=>by
  unfold tV at h
  split at h
  ·rename_i e;cases e
  ·rename_i row' rows' cs ts' e
   cases e
   rw[Bool.and_eq_true] at h
   obtain ⟨css,g1,g2,g3⟩:=pX h.2
   refine ⟨cs::css,by simp[g1],by simpa using g2,fun i h1 h2=>?_⟩
   cases i with
   | zero=>exact Nat.eq_of_beq_eq_true h.1
   | succ i=>simpa using g3 i (by simpa using h1) (by simpa using h2)
  ·cases h
theorem w6:∀ {kk:List Nat} {css:List (List T)} {r:List T} {σ:Nat→Option aB},kk.Nodup→css.length=kk.length →
  (∀ k,¬ k∈kk→rF σ kk (css.map .agg++r) k=σ k)∧∀ i (h:i<kk.length) (h':i<css.length),rF σ kk (css.map .agg++r) kk[i]=some (.rows false [css[i].map .p])
 | [],css,r,σ,_,hl=>by
  refine ⟨fun k _=>?_,fun i h=>by simp at h⟩
  unfold rF;rfl
 | k::kk,[],r,σ,_,hl=>by simp at hl
 | k::kk,cs::css,r,σ,hn,hl=>by
  obtain ⟨h1,h2⟩:=List.nodup_cons.1 hn
  have ih:=w6 (r:=r) (σ:=aQ σ k (some (.rows false [cs.map .p]))) h2 (by simpa using hl)
  have e:rF σ (k::kk) ((cs::css).map .agg++r)=rF (aQ σ k (some (.rows false [cs.map .p]))) kk (css.map .agg++r):=rfl
  rw[e]
  refine ⟨fun k' hk'=>?_,fun i hi hi'=>?_⟩
  ·rw[ih.1 k' (fun hm=>hk' (List.mem_cons_of_mem _ hm)),aH _ _ (fun e=>hk' (by rw[e];exact List.mem_cons_self))]
  ·cases i with
   | zero=>rw[List.getElem_cons_zero,ih.1 k h1,fQ];rfl
   | succ i=>simpa using ih.2 i (by simpa using hi) (by simpa using hi')
theorem oZ {τ σ:Nat→Option aB}:∀ {m k:Nat} {a:List T},NU τ σ m k=some a→a.length=m∧∀ i (h:i<a.length),∃ ds cs,σ (k+i)=some (.rows false [ds])∧HG τ ds=some cs∧a[i] = .agg cs
 | 0,k,a,h=>by cases h;exact ⟨rfl,fun i h=>by simp at h⟩
 | m+1,k,a,h=>by
  unfold NU at h
  split at h
  ·rename_i ds hσ
   split at h
   ·rename_i cs r hc hr
    cases h
    obtain ⟨g1,g2⟩:=oZ hr
    refine ⟨by simp[g1],fun i hi=>?_⟩
    cases i with
    | zero=>exact ⟨ds,cs,hσ,hc,rfl⟩
    | succ i =>
     obtain ⟨ds',cs',e1,e2,e3⟩:=g2 i (by simpa using hi)
     exact ⟨ds',cs',by rw[←e1];congr 1;omega,e2,by simpa using e3⟩
   ·cases h
  ·cases h
theorem LX {cx:Cx} {nt:Nat} {ρ:Nat→Option Loc} {st:St} {a:Act} {w:World} {own0:Nat→Prop} {m:Nat} (hr:Rel cx nt ρ st a w) (hm:∀ i,i≤m→∃ x l,st.σ i=some x∧ρ i=some l∧0<l.L+l.C)
  (hx:∀ b∈cx.arg,∃ i l,i≤m∧ρ i=some l∧l.aG=b) (h0:∀ b,own0 b→aF cx ρ st.σ b) (h1:∀ b,own0 b→b<cx.w0.heap.size)
  {fn:Func} {ts:List T} (h:OX cx.P fn.results m st=some ts) :
  ∃ v as rs,ts=as++rs∧(results fn a.tmps).run cx.P w = .ok v w∧aU w own0 (yU rs) v∧as.length=m ∧
   ∀ i (h:i<as.length),∃ ds cs,st.σ i=some (.rows false [ds])∧as[i] = .agg cs∧cs.length=ds.length∧∀ j (hj:j<ds.length) (hj':j<cs.length) u,Rd w (aF cx ρ st.σ) ρ ds[j] u→aU w own0 cs[j] u:=by
 unfold OX at h
 split at h
 case h_2=>cases h
 rename_i rs hd
 split at h
 case h_2=>cases h
 rename_i as t' hcs ht
 cases h
 have hw:∀ k x,LW m st.σ k=some x→m<k∧st.σ k=some x∧bS x=true:=by
  intro k x hk
  unfold LW at hk
  split at hk
  ·cases hk
  ·rename_i hle
   have hle:¬ k≤m:=fun e=>by rw[Nat.ble_eq_true_of_le e] at hle;cases hle
   unfold R1 at hk
   split at hk
   ·rename_i y hy
    split at hk
    ·rename_i hw;cases hk;exact ⟨by omega,hy,hw⟩
    ·cases hk
   ·cases hk
 have fr:∀ {q:Nat} {d:D} {t:T} {v:Value},Rd w (aF cx ρ st.σ) ρ d v→c0 (LW m st.σ) q d=some t→aU w own0 t v:=fun {q} _ _ _ hd hf =>
  o1 hr.inv h0 (fun k x hk=>(hw k x hk).2.1) (fun k x l hk hl hL ho=>by
   obtain ⟨hk0,hk1,hk2⟩:=hw k x hk
   rcases hr.inv.gY k x l hk1 hl hL hk2 with g|g
   ·have:=h1 _ ho
    omega
   ·obtain ⟨i,l',hi,hl',he⟩:=hx _ g
    obtain ⟨y,l2,hy,hl2,hL2⟩:=hm i hi
    rw[hl'] at hl2;cases hl2
    have:=hr.inv.inj k i x y l l' hk1 hy hl hl' hL hL2 he.symm
    omega) q hd hf
 obtain ⟨vs,g1,g2⟩:=fO hr hd
 obtain ⟨ft1,ft2⟩:=nU ht
 have hlen:vs.length=rs.length:=by simpa using g2.1
 have hall:∀ i (hi:i<t'.length),aU w own0 t'[i] (vs.toArray.getD i undef):=fun i hi=>by
  obtain ⟨t,t1,t2⟩:=ft2 i (by omega) hi
  rw[t2]
  exact (fr (g2.2 i (by omega)) t1).canon 4
 have fin:∃ v,(results fn a.tmps).run cx.P w = .ok v w∧aU w own0 (yU t') v:=by
  by_cases hs:t'.length=1
  ·obtain ⟨t,rfl⟩:=List.length_eq_one_iff.1 hs
   have hv:vs.length=1:=by simp at ft1;omega
   refine ⟨vs.toArray[0]'(by simpa using (by omega:0<vs.length)),?_,?_⟩
   ·rw[cG,Array.mapM_eq_mapM_toList,Sem.run_bind,Sem.run_map,g1]
    simp[hv]
   ·have h3:=hall 0 (by simp)
    have h4:vs.toArray.getD 0 undef=vs.toArray[0]'(by simpa using (by omega:0<vs.length)):=by simp[Array.getD,hv]
    rw[h4] at h3
    exact h3
  ·have hv:¬ vs.length=1:=by omega
   refine ⟨.tuple vs.toArray,?_,?_⟩
   ·rw[cG,Array.mapM_eq_mapM_toList,Sem.run_bind,Sem.run_map,g1]
    simp[hv]
   ·have e:yU t' = .aR t':=by
     match t',hs with
     | [],_=>rfl
     | [_],h=>exact absurd rfl h
     | _::_::_,_=>rfl
    rw[e]
    exact .aR _ _ (by simp;omega) hall
 obtain ⟨v,v1,v2⟩:=fin
 obtain ⟨q1,q2⟩:=oZ hcs
 refine ⟨v,as,t',rfl,v1,v2,q1,fun i hi=>?_⟩
 obtain ⟨ds,cs,e1,e2,e3⟩:=q2 i hi
 refine ⟨ds,cs,by simpa using e1,e3,(nU e2).1,fun j hj hj' u hu=>?_⟩
 obtain ⟨t,t1,t2⟩:=(nU e2).2 j hj hj'
 rw[t2]
 exact (fr hu t1).canon 4
section
variable {P : Program} {E : Env} {Hs : FuncId → Hint}
theorem GW (hn:a6 P=true) {f:FuncId} {g:List T→Option T} {fn:Func} {c:Code} (hf:P.funcs[f]? = some fn) (hb:fn.body=some c)
  (h:∀ (pre vals:List T) (rows:List (List T)) (ts:List T),g (.aR pre :: .aR vals::rows.map .agg)=some (.aR ts)→(∀ t∈pre,Bd t)→(∀ t∈vals,Bd t)→(∀ r∈rows,∀ t∈r,Bd t) →
   pre.length+rows.length+1≤fn.ntmps∧∀ cx:Cx,cx.P=P→AW cx fn.ntmps c (RX bC P fn.results rows.length (fun x=>x = .aR ts)) (xU f pre vals rows)):bO P f (pU f g):=by
 refine ⟨⟨fn,hf,gP hn hf,by simp[hb]⟩,fun cx ρ σ n w args vs d σ' n' hcP hG hI ha hg=>?_⟩
 subst hcP
 unfold pU at hg
 split at hg
 case h_2=>cases hg
 rename_i ins rows kk σ1 hin
 split at hg
 case h_2=>cases hg
 rename_i ts hgi
 split at hg
 case h_2=>cases hg
 rename_i hlens
 cases hg
 unfold sJ at hin
 split at hin
 case h_2=>cases hin
 rename_i ps σ2 ks hgive hptr
 split at hin
 case h_2=>cases hin
 rename_i pre0 s hpre hlast hnd
 split at hin
 case h_2=>cases hin
 rename_i rows' vals hrows hself
 simp only[Option.some.injEq,Prod.mk.injEq] at hin
 obtain ⟨rfl,rfl,rfl,rfl⟩:=hin
 have hnd:=pZ hnd
 have hks:ks.dropLast++[s]=ks:=by
  obtain ⟨ys,rfl⟩:=List.getLast?_eq_some_iff.1 hlast
  simp
 generalize ks.dropLast=kk at *
 subst hks
 obtain ⟨hrl,hrw⟩:=uN hrows
 obtain ⟨ro,vs0,hsb,rfl⟩:=ED hself
 have hAB:=cQ args
 have hB:=nB hptr
 generalize hA:(c9 args).1=A at *
 rw[hB] at hAB
 subst hAB
 have hsz:vs.size=A.length+(kk.length+1):=by have:=ha.1;simpa using this
 obtain ⟨hI1,hK1,hpl,hpr⟩:=mX (ps:=A.map fun d=>(0,d)) (vps:=(vs.toList.take A.length).map fun v=>(0,v)) hI (by simp;omega) (fun i h1 h2=>by
  refine ⟨by simp,?_⟩
  have hi:i<A.length:=by simpa using h1
  have:=ha.2 i (by simp;omega)
  rw[List.getElem_append_left hi,Array.getD,dif_pos (by omega)] at this
  simpa using this) hgive
 have hpe:=dG hpre
 have hpl':pre0.length=A.length:=by
  have:=congrArg List.length hpe
  simp at this hpl;omega
 have hpreR:∀ i (hi:i<pre0.length),aU w (aF cx ρ σ2) pre0[i] (vs.getD i undef):=fun i hi=>by
  have hi':i<ps.length:=by have:=congrArg List.length hpe;simp at this;omega
  have h2:=(hpr i hi' (by simp;omega)).2
  have h3:ps[i].2 = .p pre0[i]:=by
   have:(ps.map (·.2))[i]'(by simpa using hi')=(pre0.map D.p)[i]'(by simpa using hi):=by congr 1
   simpa using this
  rw[h3] at h2
  cases h2 with
  | p _ _ h2 =>
   rw[Array.getD,dif_pos (by omega)]
   simpa using h2
 have hptrs:∀ j (hj:j<(kk++[s]).length),∃ l,ρ (kk++[s])[j]=some l∧vs.getD (A.length+j) undef = .pointer (some ⟨l.aG,0,none⟩):=fun j hj=>by
  have h2:=ha.2 (A.length+j) (by simp at hj ⊢;omega)
  rw[List.getElem_append_right (by omega)] at h2
  simp only[Nat.add_sub_cancel_left,List.getElem_map] at h2
  generalize vs.getD (A.length+j) undef=v at h2 ⊢
  cases h2 with
  | ptr _ _ _ l hl=>exact ⟨l,hl,by simp⟩
 have hboxes:∀ j (hj:j<(kk++[s]).length),∃ l x o,ρ (kk++[s])[j]=some l∧0<l.L+l.C∧σ2 (kk++[s])[j]=some x∧w.heap[l.aG]? = some o∧bA w (aF cx ρ σ2) ρ l o x ∧
   (∀ (h:j<kk.length),∃ row:List T,x = .rows false [row.map .p]∧rows'[j]'(by omega)=row.map (T.canon 4))∧(j=kk.length→x = .rows ro [[.fn f [] (vs0.map .p++(kk++[s]).map fun k=>.ptr k 0 0)]]):=fun j hj=>by
  by_cases hjk:j<kk.length
  ·obtain ⟨row,e1,e2⟩:=hrw j hjk (by omega)
   obtain ⟨l,hl,hL,o,ho,hbx⟩:=hI1.loc e1 (fun ro z e=>by cases e)
   rw[List.getElem_append_left hjk]
   exact ⟨l,_,o,hl,hL,e1,ho,hbx,fun _=>⟨row,rfl,e2⟩,fun e=>by omega⟩
  ·have:j=kk.length:=by simp at hj;omega
   subst this
   obtain ⟨l,hl,hL,o,ho,hbx⟩:=hI1.loc hsb (fun ro z e=>by cases e)
   simp only[List.getElem_concat_length]
   exact ⟨l,_,o,hl,hL,hsb,ho,hbx,fun h=>by omega,fun _=>rfl⟩
 obtain ⟨ρ0,hρ0⟩:∃ ρ0:Nat→Option Loc,∀ i,ρ0 i=match (kk++[s])[i]? with|some k=>ρ k|none=>none:=⟨_,fun _=>rfl⟩
 have hρ0s:∀ i l,ρ0 i=some l→∃ (hi:i<(kk++[s]).length),ρ (kk++[s])[i]=some l:=fun i l hl=>by
  rw[hρ0] at hl
  split at hl
  ·rename_i k hk
   obtain ⟨hi,rfl⟩:=List.getElem?_eq_some_iff.1 hk
   exact ⟨hi,hl⟩
  ·cases hl
 have hρ0g:∀ i (hi:i<(kk++[s]).length),ρ0 i=ρ (kk++[s])[i]:=fun i hi=>by rw[hρ0,List.getElem?_eq_getElem hi]
 have hlt1:(kk++[s]).length=kk.length+1:=by simp
 have hσ0:∀ i x,oF f (vs0.map (T.canon 4)) rows' i=some x→i<(kk++[s]).length∧((∃ hi:i<rows'.length,x = .rows false [rows'[i].map .p])∨(i=kk.length∧x = .rows true [[.fn f [] ((vs0.map (T.canon 4)).map .p++fF (rows'.length+1))]])):=fun i x hx=>by
  unfold oF at hx
  split at hx
  ·rename_i r hr
   obtain ⟨hi,rfl⟩:=List.getElem?_eq_some_iff.1 hr
   cases hx
   exact ⟨by omega,.inl ⟨hi,rfl⟩⟩
  ·split at hx
   ·rename_i he
    have he:=Nat.eq_of_beq_eq_true he
    cases hx
    exact ⟨by omega,.inr ⟨by omega,rfl⟩⟩
   ·cases hx
 have hσ0r:∀ i (hi:i<rows'.length),oF f (vs0.map (T.canon 4)) rows' i=some (.rows false [rows'[i].map .p]):=fun i hi=>by
  unfold oF;rw[List.getElem?_eq_getElem hi]
 have hσ0m:oF f (vs0.map (T.canon 4)) rows' kk.length=some (.rows true [[.fn f [] ((vs0.map (T.canon 4)).map .p++fF (rows'.length+1))]]):=by
  unfold oF;rw[List.getElem?_eq_none (by omega)]
  dsimp only
  rw[show Nat.beq kk.length rows'.length=true by rw[hrl];exact Nat.beq_refl _]
 let own0:Nat→Prop:=fun b=>aF cx ρ σ2 b∧∀ i l,ρ0 i=some l→l.aG≠b
 let argl:List Nat:=kk.filterMap fun k=>(ρ k).map (·.aG)
 have hargl:∀ b,b∈argl→∃ i,∃ hi:i<kk.length,∃ l,ρ kk[i]=some l∧l.aG=b:=fun b hb=>by
  obtain ⟨k,hk,e⟩:=List.mem_filterMap.1 hb
  obtain ⟨i,hi,rfl⟩:=List.mem_iff_getElem.1 hk
  obtain ⟨l,hl,rfl⟩:=Option.map_eq_some_iff.1 e
  exact ⟨i,hi,l,hl,rfl⟩
 have hargl':∀ i (hi:i<kk.length) l,ρ kk[i]=some l→l.aG∈argl:=fun i hi l hl=>List.mem_filterMap.2 ⟨kk[i],List.getElem_mem hi,by rw[hl];rfl⟩
 let cx':Cx:=⟨cx.P,own0,w,ρ0,oF f (vs0.map (T.canon 4)) rows',w,argl⟩
 have hOwn:∀ b,aF cx' ρ0 (oF f (vs0.map (T.canon 4)) rows') b→aF cx ρ σ2 b:=by
  rintro b (⟨hb,_⟩|⟨i,l',x',h1,h2,h3,h4⟩)
  ·exact hb
  ·obtain ⟨hi,hl⟩:=hρ0s i l' h2
   obtain ⟨l,x,o,e1,e2,e3,_⟩:=hboxes i hi
   rw[hl] at e1;cases e1
   exact .inr ⟨_,l',x,e3,hl,h3,h4⟩
 have hbx':∀ i x,oF f (vs0.map (T.canon 4)) rows' i=some x→∃ l o,ρ0 i=some l∧0<l.L+l.C∧w.heap[l.aG]? = some o∧bA w (aF cx' ρ0 (oF f (vs0.map (T.canon 4)) rows')) ρ0 l o x:=fun i x hx=>by
  obtain ⟨hi,hx'⟩:=hσ0 i x hx
  obtain ⟨l,y,o,e1,e2,e3,e4,e5,e6,e7⟩:=hboxes i hi
  refine ⟨l,o,by rw[hρ0g i hi,e1],e2,e4,?_⟩
  rcases hx' with ⟨hi',rfl⟩|⟨rfl,rfl⟩
  ·obtain ⟨row,rfl,er⟩:=e6 (by omega)
   cases e5 with
   | rows _ rs c hrs hz hB =>
    cases hrs
    refine .rows _ _ c rfl (fun _ _ _ e=>by cases e) ⟨hB.size,hB.pos,by simp,by simpa using hB.len,by simpa using hB.AE,fun r hr=>?_,fun i' j hi hj=>?_,hB.one⟩
    ·rw[List.mem_singleton.1 hr,er]
     have:=hB.width _ List.mem_cons_self
     simpa using this
    ·have hi0:i'=0:=by simpa using hi
     subst hi0
     have hj':j<row.length:=by rw[er] at hj;simpa using hj
     obtain ⟨u,u1,u2⟩:=hB.cell 0 j (by simp) (by simpa using hj')
     refine ⟨u,u1,?_⟩
     have he:([row.map D.p]:List (List D))[0][j]'(by simpa using hj') = .p row[j]:=by simp
     have he':([rows'[i].map D.p]:List (List D))[0][j]'(by simpa using hj) = .p (T.canon 4 row[j]):=by
      simp only[List.getElem_cons_zero,List.getElem_map]
      congr 1
      simp[er]
     rw[he] at u2
     rw[he']
     cases u2 with
     | p _ _ u2=>exact .p _ _ ((u2.canon 4).less hOwn)
  ·have e:=e7 rfl
   subst e
   cases e5 with
   | rows _ rs c hrs hz hB =>
    cases hrs
    refine .rows _ _ c rfl (fun _ _ _ e=>by cases e) ⟨hB.size,hB.pos,by simp,by simpa using hB.len,by simpa using hB.AE,fun r hr=>?_,fun i' j hi hj=>?_,hB.one⟩
    ·rw[List.mem_singleton.1 hr]
     have:=hB.width _ List.mem_cons_self
     simpa using this
    ·have hi0:i'=0:=by simpa using hi
     subst hi0
     have hj0:j=0:=by simpa using hj
     subst hj0
     obtain ⟨u,u1,u2⟩:=hB.cell 0 0 (by simp) (by simp)
     refine ⟨u,u1,?_⟩
     simp only[List.getElem_cons_zero] at u2 ⊢
     cases u2 with
     | fn _ _ _ va vb h1 h2 h3 h4 =>
      refine .fn _ _ _ va vb h1 (by rw[h2];simp[fF,hrl]) (fun i hi=>by simp at hi) fun i hi=>?_
      have h5:=h4 i (by simp[fF,hrl] at hi ⊢;omega)
      by_cases hiv:i<vs0.length
      ·rw[List.getElem_append_left (by simpa using hiv)] at h5 ⊢
       simp only[List.getElem_map] at h5 ⊢
       generalize vb.getD i undef=v at h5 ⊢
       cases h5 with
       | p _ _ h5=>exact .p _ _ ((h5.canon 4).less hOwn)
      ·rw[List.getElem_append_right (by simpa using hiv)] at h5 ⊢
       simp only[List.getElem_map,List.length_map,fF,List.getElem_range] at h5 ⊢
       generalize vb.getD i undef=v at h5 ⊢
       have hi2:i-vs0.length<(kk++[s]).length:=by simp[fF,hrl] at hi ⊢;omega
       cases h5 with
       | ptr _ _ _ l2 hl2 =>
        rw[show (0:Nat)*l2.sz+0=0*l2.sz+0 from rfl]
        exact .ptr _ 0 0 l2 (by rw[hρ0g _ hi2];exact hl2)
 have hI':Inv cx' ρ0 (oF f (vs0.map (T.canon 4)) rows') (rows'.length+1) w:=by
  refine ⟨fun k x hk=>?_,fun k1 k2 x1 x2 l1 l2 h1 h2 h3 h4 hL1 hL2 he=>?_,fun k l hk=>?_,fun k x l h1 h2 h3 h4=>?_,sD (Below.refl _ _),fun b hb=>aF.lt hI1 hb.1,hG.2,fun a e=>?_⟩
  ·obtain ⟨l,o,e1,e2,e3,e4⟩:=hbx' k x hk
   exact ⟨l,e1,fun _=>⟨o,e3,e4⟩,fun h0=>by omega⟩
  ·obtain ⟨i1,g1⟩:=hρ0s k1 l1 h3
   obtain ⟨i2,g2⟩:=hρ0s k2 l2 h4
   obtain ⟨_,y1,_,_,_,q1,_⟩:=hboxes k1 i1
   obtain ⟨_,y2,_,_,_,q2,_⟩:=hboxes k2 i2
   exact (List.getElem_inj hnd).1 (hI1.inj _ _ y1 y2 l1 l2 q1 q2 g1 g2 hL1 hL2 he)
  ·obtain ⟨hi,hl⟩:=hρ0s k l hk
   exact ⟨by omega,fun hL=>⟨((hI1.new _ l hl).2 hL).1,fun hc=>hc.2 k l hk rfl⟩⟩
  ·obtain ⟨hi,hx'⟩:=hσ0 k x h1
   rcases hx' with ⟨hi',rfl⟩|⟨rfl,rfl⟩
   ·obtain ⟨_,hl⟩:=hρ0s k l h2
    rw[List.getElem_append_left (by omega)] at hl
    exact .inr (hargl' k (by omega) l hl)
   ·cases h4
  ·obtain ⟨i,hi,l,hl,rfl⟩:=hargl a e
   obtain ⟨l',y,o,e1,e2,e3,e4,e5,e6,e7⟩:=hboxes i (by omega)
   obtain ⟨row,rfl,_⟩:=e6 hi
   simp only[List.getElem_append_left hi] at e1 e3
   rw[hl] at e1;cases e1
   show cx.P.low≤l.aG
   rcases hI1.gY _ _ l e3 hl e2 rfl with g1|g1
   ·have:=hI1.low.1;omega
   ·exact hI1.low.2 _ g1
 have hbd:(∀ t∈pre0.map (T.canon 4),Bd t)∧(∀ t∈vs0.map (T.canon 4),Bd t)∧∀ r∈rows',∀ t∈r,Bd t:=by
  refine ⟨fun t ht=>?_,fun t ht=>?_,fun r hr t ht=>?_⟩
  ·obtain ⟨t0,ht0,rfl⟩:=List.mem_map.1 ht
   obtain ⟨i,hi,rfl⟩:=List.mem_iff_getElem.1 ht0
   exact ((hpreR i hi).canon 4).bd
  ·obtain ⟨l,o,e1,e2,e3,e4⟩:=hbx' _ _ hσ0m
   cases e4 with
   | rows _ rs c hrs hz hB =>
    cases hrs
    obtain ⟨u,u1,u2⟩:=hB.cell 0 0 (by simp) (by simp)
    simp only[List.getElem_cons_zero] at u2
    cases u2 with
    | fn _ _ _ va vb h1 h2 h3 h4 =>
     obtain ⟨i,hi,rfl⟩:=List.mem_iff_getElem.1 ht
     have h5:=h4 i (by simp at hi ⊢;omega)
     rw[List.getElem_append_left (by simpa using hi)] at h5
     rw[List.getElem_map] at h5
     cases h5 with
     | p _ _ h5=>exact h5.bd
  ·obtain ⟨i,hi,rfl⟩:=List.mem_iff_getElem.1 hr
   obtain ⟨l,o,e1,e2,e3,e4⟩:=hbx' _ _ (hσ0r i hi)
   obtain ⟨j,hj,rfl⟩:=List.mem_iff_getElem.1 ht
   cases e4 with
   | rows _ rs c hrs hz hB =>
    cases hrs
    obtain ⟨u,u1,u2⟩:=hB.cell 0 j (by simp) (by simpa using hj)
    have he:([rows'[i].map D.p]:List (List D))[0][j]'(by simpa using hj) = .p rows'[i][j]:=by simp
    rw[he] at u2
    cases u2 with
    | p _ _ u2=>exact u2.bd
 obtain ⟨hlen,hs⟩:=h _ _ _ _ hgi hbd.1 hbd.2.1 hbd.2.2
 have ha':aY (Rd w (aF cx' ρ0 (oF f (vs0.map (T.canon 4)) rows')) ρ0) ((pre0.map (T.canon 4)).map .p++fF (rows'.length+1)) vs:=by
  refine ⟨by simp[fF];omega,fun i hi=>?_⟩
  by_cases hi':i<pre0.length
  ·rw[List.getElem_append_left (by simpa using hi')]
   simp only[List.getElem_map]
   exact .p _ _ (((hpreR i hi').canon 4).less hOwn)
  ·rw[List.getElem_append_right (by simpa using hi')]
   simp only[List.length_map,fF,List.getElem_map,List.getElem_range]
   have hi2:i-pre0.length<(kk++[s]).length:=by simp[fF] at hi ⊢;omega
   obtain ⟨l,hl,hv⟩:=hptrs _ hi2
   have e:A.length+(i-pre0.length)=i:=by omega
   rw[e] at hv
   rw[hv]
   have:=Rd.ptr (w:=w) (own:=aF cx' ρ0 (oF f (vs0.map (T.canon 4)) rows')) (ρ:=ρ0) (i-pre0.length) 0 0 l (by rw[hρ0g _ hi2];exact hl)
   simpa using this
 refine calls_of_wp hf hb ?_
 have hr:Rel cx' fn.ntmps ρ0 (xU f (pre0.map (T.canon 4)) (vs0.map (T.canon 4)) rows') { tmps:=vs++Array.replicate (fn.ntmps-vs.size) undef,defers:=[] } w:=oH hI' (aD.refl _ _ _ _) hG ha' (by simp[fF] at hlen ⊢;omega)
 refine wp_mono (hs cx' rfl _ _ w hr) ?_
 rintro e a' w' ⟨st',ρ',hr',hq⟩
 unfold RX at hq
 split at hq
 case h_2=>exact hq.elim
 rename_i ts1 hex hres
 have hq':T.aR ts1=T.aR ts:=hq
 clear hq
 cases hq'
 have hl0:∀ i (hi:i<(kk++[s]).length),∃ l,ρ (kk++[s])[i]=some l∧ρ' i=some l∧0<l.L+l.C:=fun i hi=>by
  obtain ⟨l,_,_,e1,e2,_⟩:=hboxes i hi
  exact ⟨l,e1,hr'.keeps.loc i l (by show ρ0 i=some l;rw[hρ0g i hi,e1]),e2⟩
 have hst:∀ i,i≤rows'.length→∃ x l,st'.σ i=some x∧ρ' i=some l∧0<l.L+l.C:=fun i hi=>by
  obtain ⟨l,e1,e2,e3⟩:=hl0 i (by omega)
  by_cases hi':i<rows'.length
  ·unfold OX at hres
   split at hres
   case h_2=>cases hres
   split at hres
   case h_2=>cases hres
   rename_i as rs hfa _
   obtain ⟨q1,q2⟩:=oZ hfa
   obtain ⟨ds,cs,z1,_⟩:=q2 i (by omega)
   exact ⟨_,l,by simpa using z1,e2,e3⟩
  ·have:i=kk.length:=by omega
   subst this
   obtain ⟨x',z1,_⟩:=hr'.keeps.ro kk.length _ hσ0m rfl
   exact ⟨x',l,z1,e2,e3⟩
 have hO':∀ b,aF cx ρ σ2 b→aF cx' ρ' st'.σ b:=by
  intro b hb
  by_cases e:∃ i l,ρ0 i=some l∧l.aG=b
  ·obtain ⟨i,l,e1,rfl⟩:=e
   obtain ⟨hi,e2⟩:=hρ0s i l e1
   obtain ⟨l',g1,g2,g3⟩:=hl0 i hi
   rw[e2] at g1;cases g1
   obtain ⟨x,l2,g4,g5,_⟩:=hst i (by omega)
   exact .inr ⟨i,l,x,g4,g2,g3,rfl⟩
  ·exact .inl ⟨hb,fun i l h1 h2=>e ⟨i,l,h1,h2⟩⟩
 obtain ⟨v,as,rs,hts,h1,h2,h3,h4⟩:=LX (own0:=aF cx ρ σ2) hr' hst (fun b hb=>by
  obtain ⟨i,hi,l,hl,rfl⟩:=hargl b hb
  obtain ⟨l',g1,g2,_⟩:=hl0 i (by omega)
  rw[List.getElem_append_left hi,hl] at g1;cases g1
  exact ⟨i,l,by omega,g2,rfl⟩) hO' (fun b hb=>aF.lt hI1 hb) hres
 obtain ⟨css,c1,c2,c3⟩:=pX hlens
 have hsplit:as=css.map .agg∧rs=ts.drop rows'.length:=by
  rw[hts] at c2
  have:=List.append_inj c2 (by simp[h3,c1])
  exact ⟨this.1,this.2.trans (by rw[hts])⟩
 obtain ⟨ha1,ha2⟩:=hsplit
 have hbel:iG argl w.heap.size w w':=hr'.inv.below
 have hck:css.length=kk.length:=by omega
 have hset:=w6 (r:=ts.drop rows'.length) (σ:=σ2) (List.nodup_append.1 hnd).1 hck
 rw[←c2] at hset
 have hnew:∀ i (hi:i<kk.length),∃ l o,ρ kk[i]=some l∧0<l.L+l.C∧w'.heap[l.aG]? = some o∧bA w' (aF cx ρ σ2) ρ l o (.rows false [css[i].map .p])∧∃ row:List T,σ2 kk[i]=some (.rows false [row.map .p]):=fun i hi=>by
  obtain ⟨l,x,o0,e1,e2,e3,e4,e5,e6,e7⟩:=hboxes i (by omega)
  obtain ⟨row,rfl,_⟩:=e6 hi
  simp only[List.getElem_append_left hi] at e1 e3
  have hic:i<css.length:=by omega
  obtain ⟨ds,cs,z1,z2,z3,z4⟩:=h4 i (by omega)
  have z5:css[i]'hic=cs:=by
   have:as[i]'(by omega)=(css.map T.agg)[i]'(by simp;omega):=by congr 1
   rw[z2,List.getElem_map] at this
   exact (T.agg.inj this).symm
  rw[←z5] at z2 z3 z4
  clear z5 cs
  obtain ⟨l',hl',hbo⟩:=hr'.inv.boxes i _ z1
  obtain ⟨l2,g1,g2,_⟩:=hl0 i (by omega)
  rw[List.getElem_append_left hi,e1] at g1;cases g1
  rw[g2] at hl';cases hl'
  obtain ⟨o',ho',hbx''⟩:=hbo.1 e2
  refine ⟨l,o',e1,e2,ho',?_,row,e3⟩
  cases hbx'' with
  | rows _ rs c hrs hz hB =>
   cases hrs
   refine .rows _ _ c rfl (fun _ _ _ e=>by cases e) ⟨hB.size,hB.pos,by simp,by simpa using hB.len,by simpa using hB.AE,fun r hr=>?_,fun i' j hi' hj=>?_,hB.one⟩
   ·rw[List.mem_singleton.1 hr,List.length_map,z3]
    exact hB.width ds List.mem_cons_self
   ·have hi0:i'=0:=by simpa using hi'
    subst hi0
    have hj1:j<css[i].length:=by simpa using hj
    obtain ⟨u,u1,u2⟩:=hB.cell 0 j (by simp) (by simpa using (by omega:j<ds.length))
    refine ⟨u,u1,?_⟩
    have he:([css[i].map D.p]:List (List D))[0][j] = .p css[i][j]:=by simp
    rw[he]
    exact .p _ _ (z4 j (by omega) hj1 u (by simpa using u2))
 have hkk:∀ k,k∈kk→∃ i,∃ hi:i<kk.length,kk[i]=k:=fun k hk=>by
  obtain ⟨i,hi,e⟩:=List.mem_iff_getElem.1 hk
  exact ⟨i,hi,e⟩
 obtain ⟨k1,k2,k3⟩:=hI1.OZ (σ':=rF σ2 kk ts) (n':=n+1) (Nat.le_succ n) argl (w':=w')
  (fun i y hy=>by
   by_cases hk:i∈kk
   ·obtain ⟨j,hj,rfl⟩:=hkk i hk
    rw[hset.2 j hj (by omega)] at hy;cases hy
    obtain ⟨_,_,_,_,_,_,row,hrow⟩:=hnew j hj
    exact ⟨_,hrow,fun _=>rfl⟩
   ·rw[hset.1 i hk] at hy;exact ⟨y,hy,id⟩)
  (fun i x hx=>by
   by_cases hk:i∈kk
   ·obtain ⟨j,hj,rfl⟩:=hkk i hk
    obtain ⟨_,_,_,_,_,_,row,hrow⟩:=hnew j hj
    rw[hrow] at hx;cases hx
    exact ⟨_,hset.2 j hj (by omega),fun h=>by cases h⟩
   ·exact ⟨x,by rw[hset.1 i hk];exact hx,id⟩)
  (fun i y l hy hl hnot=>by
   by_cases hk:i∈kk
   ·obtain ⟨j,hj,rfl⟩:=hkk i hk
    obtain ⟨l',_,g1,g2,_⟩:=hnew j hj
    rw[hl] at g1;cases g1
    exact absurd (hargl' j hj l hl) (hnot g2)
   ·rw[hset.1 i hk] at hy;exact hy)
  (fun i y l hy hl hL hin=>by
   obtain ⟨j,hj,l',hl',hb'⟩:=hargl _ hin
   obtain ⟨l2,o,g1,g2,g3,g4,row,g5⟩:=hnew j hj
   rw[hl'] at g1;cases g1
   have hsome:∃ x,σ2 i=some x:=by
    by_cases hk:i∈kk
    ·obtain ⟨j',hj',rfl⟩:=hkk i hk
     obtain ⟨_,_,_,_,_,_,row',hrow'⟩:=hnew j' hj'
     exact ⟨_,hrow'⟩
    ·rw[hset.1 i hk] at hy;exact ⟨y,hy⟩
   obtain ⟨x,hx⟩:=hsome
   have hij:=hI1.inj _ _ x _ l l' hx g5 hl hl' hL g2 hb'.symm
   subst hij
   rw[hl] at hl';cases hl'
   rw[hset.2 j hj (by omega)] at hy;cases hy
   exact ⟨o,g3,g4⟩)
  (fun b hb=>by
   obtain ⟨j,hj,l',hl',rfl⟩:=hargl _ hb
   obtain ⟨l2,o,g1,g2,g3,g4,row,g5⟩:=hnew j hj
   rw[hl'] at g1;cases g1
   exact ⟨_,_,l',g5,hl',g2,rfl,rfl⟩)
  hbel hr'.keeps.shape
 have hfin:Rd w' (aF cx ρ (rF σ2 kk ts)) ρ (.p (yU (ts.drop rows'.length))) v:=.p _ _ (by rw[←ha2];exact h2.less k3)
 rcases fM hex with rfl|rfl
 ·exact ⟨hr'.defers,v,h1,v,ρ,rfl,k1,hK1.trans' k2,hfin⟩
 ·exact ⟨hr'.defers,v,h1,v,ρ,rfl,k1,hK1.trans' k2,hfin⟩
theorem uO:∀ (rows:List (List T)),rowsOf (rows.map .agg)=some rows
 | []=>rfl
 | r::rows=>by simp[rowsOf,uO rows]
theorem GX (hE:aL P E) (hm:P.follows .mixedOrders=true) (hn:a6 P=true) (hh:cM E) (k:Nat) {f:FuncId} {g:List T→Option T} (hex:∃ fn c,P.funcs[f]? = some fn∧fn.body=some c)
  (h:∀ (pre vals:List T) (rows:List (List T)) (r:T),g (.aR pre :: .aR vals::rows.map .agg)=some r→(∀ t∈pre,Bd t)→(∀ t∈vals,Bd t)→(∀ r∈rows,∀ t∈r,Bd t)→zD bC P E Hs k f (.aR pre :: .aR vals::rows.map .agg) (fun x=>x=r)):oL P f g:=by
 obtain ⟨fn,c,hf,hb⟩:=hex
 refine GW hn hf hb fun pre vals rows ts hg b1 b2 b3=>?_
 have hs:=h _ _ _ _ hg b1 b2 b3
 unfold zD at hs
 rw[hf] at hs
 dsimp only at hs
 rw[uO] at hs
 split at hs
 case h_2=>exact hs.elim
 rename_i rows' c' e he
 cases e
 rw[hb] at he
 cases he
 split at hs
 case h_2=>exact hs.elim
 rename_i hlen
 refine ⟨of_decide_eq_true hlen,fun cx hP ρ a w hr=>wp_mono (lL hE hm hh (jN hE hm hn hh k) c cx hP _ (xU f pre vals rows) hs ρ a w hr) ?_⟩
 rintro e a' w' ⟨st',ρ',hr',hq,_⟩
 exact ⟨st',ρ',hr',hq⟩
theorem AD (hE:aL P E) (hm:P.follows .mixedOrders=true) (hn:a6 P=true) (hh:cM E) (k:Nat) {f:FuncId} {X:Type} {A:X→List T} {sp:X→Option T} (hex:∃ fn c,P.funcs[f]? = some fn∧fn.body=some c)
  (h:∀ x r,sp x=some r→zD bC P E Hs k f (A x) (fun y=>y=r)):oL P f (gA A sp) :=
 GX (Hs:=Hs) hE hm hn hh k hex fun pre vals rows r hg _ _ _=>by
  obtain ⟨x,hx,hs⟩:=NV hg
  rw[hx]
  exact h x r hs
end
end Go.Pv
