/-
  The symbolic executor, part z: functions that hand back a record whose lists lie in new memory of its own (copies).
-/
import Derived.Test.YtjledgajjgkbhaaGreatDoorVapky
set_option linter.defProp false
set_option linter.unusedSimpArgs false
namespace Go.Pv
open Go Go.RowKit
theorem ADR {l:List Nat} (h:l.Nodup) {i j:Nat} (hi:i<l.length) (hj:j<l.length) (e:l[i]=l[j]):i=j:=by
 rcases Nat.lt_trichotomy i j with h1|h1|h1
 ·exact absurd e (List.pairwise_iff_getElem.1 h i j hi hj h1)
 ·exact h1
 ·exact absurd e.symm (List.pairwise_iff_getElem.1 h j i hj hi h1)
theorem AEJ:∀ (zs:List (Nat×Nat)) (n c:Nat) (ds:List D) (x:D),(∀ y∈zs,y.1≠c)→kD zs n (ds.set c x)=(kD zs n ds).set c x
 | [],_,_,_,_,_=>rfl
 | (c',z)::zs,n,c,ds,x,h=>by
  unfold kD
  rw[List.set_comm _ _ (show c≠c' from fun e=>h (c',z) (by simp) e.symm),AEJ zs _ _ _ _ fun y hy=>h y (by simp[hy])]
theorem AD3 {σ:Nat→Option bB}:∀ {zs:List (Nat×Nat)} {ds:List D} {r:List Nat×List D},FL σ zs ds=some r→∀ y∈zs,∃ k,ds[y.1]? = some (.own k)
 | [],_,_,_,y,hy=>by cases hy
 | (c,z)::zs,ds,r,h,y,hy=>by
  unfold FL at h
  split at h
  ·rename_i k hc
   split at h
   ·split at h
    ·rename_i ho
     rcases List.mem_cons.1 hy with rfl|hy
     ·exact ⟨k,hc⟩
     ·obtain ⟨k',h1⟩:=AD3 ho y hy
      by_cases e:c=y.1
      ·rw[←e,List.getElem?_set_self (List.getElem?_eq_some_iff.1 hc).1] at h1
       cases h1
      ·rw[List.getElem?_set_ne e] at h1
       exact ⟨k',h1⟩
    ·cases h
   ·cases h
  ·cases h
theorem tW {σ:Nat→Option bB}:∀ {zs:List (Nat×Nat)} {ds ds':List D} {ks:List Nat} {row:List T} (m:Nat),FL σ zs ds=some (ks,ds')→gZ ds'=some row →
  ks.length=zs.length∧row.length=ds.length∧∃ bs,KB row zs=some bs∧(∀ i,i<zs.length→∃ ro z rows,σ (ks.getD i 0)=some (.arr ro z rows)∧bs.getD i .held = .arr false z rows) ∧
   ∀ i,i<ds.length→(∃ t,ds[i]? = some (.p t)∧row[i]? = some t∧(kD zs m (row.map .p))[i]? = some (.p t))∨∃ j,j<zs.length∧ds[i]? = some (.own (ks.getD j 0))∧(kD zs m (row.map .p))[i]? = some (.own (m+j))∧∃ ro z rows,σ (ks.getD j 0)=some (.arr ro z rows)∧row[i]? = some (.sl false rows)
 | [],ds,ds',ks,row,m,h,ha=>by
  cases h
  have e:=fG ha
  subst e
  refine ⟨rfl,by simp,[],rfl,fun i hi=>(by cases hi),fun i hi=>.inl ?_⟩
  have hi':i<row.length:=by simpa using hi
  exact ⟨row[i],by simp[kD,hi'],by simp[hi'],by simp[kD,hi']⟩
 | (c,z)::zs,ds,ds',ks,row,m,h,ha=>by
  unfold FL at h
  split at h
  case h_2=>cases h
  rename_i k hc
  split at h
  case h_2=>cases h
  rename_i ro z' rows hσ
  split at h
  case h_2=>cases h
  rename_i ks' ds1 hz ho
  cases h
  have hz:=Nat.eq_of_beq_eq_true hz
  subst hz
  obtain ⟨h1,h2,bs,h3,h4,h5⟩:=tW (m+1) ho ha
  rw[List.length_set] at h2 h5
  have hcl:=(List.getElem?_eq_some_iff.1 hc).1
  have hset:(ds.set c (.p (.sl false rows)))[c]? = some (.p (.sl false rows)):=List.getElem?_set_self hcl
  have hnot:∀ y∈zs,y.1≠c:=fun y hy e=>by
   obtain ⟨k',hk⟩:=AD3 ho y hy
   rw[e,hset] at hk
   cases hk
  have hrow:row[c]? = some (.sl false rows):=by
   rcases h5 c hcl with ⟨t,g1,g2,_⟩|⟨j,_,g1,_,_⟩
   ·rw[hset] at g1;cases g1;exact g2
   ·rw[hset] at g1;cases g1
  refine ⟨by simp[h1],h2,.arr false z' rows::bs,by simp only[KB,hrow,h3],fun i hi=>?_,fun i hi=>?_⟩
  ·cases i with
   | zero=>exact ⟨ro,z',rows,hσ,rfl⟩
   | succ i=>exact h4 i (by simpa using hi)
  ·rw[show kD ((c,z')::zs) m (row.map .p)=(kD zs (m+1) (row.map .p)).set c (.own m) from AEJ zs _ _ _ _ hnot]
   by_cases e:c=i
   ·subst e
    refine .inr ⟨0,by simp,hc,?_,ro,z',rows,hσ,hrow⟩
    rw[List.getElem?_set_self (by rw[iR,List.length_map,h2];exact hcl),Nat.add_zero]
   ·rw[List.getElem?_set_ne e]
    rcases h5 i hi with ⟨t,g1,g2,g3⟩|⟨j,hj,g1,g2,g3⟩
    ·rw[List.getElem?_set_ne e] at g1
     exact .inl ⟨t,g1,g2,g3⟩
    ·rw[List.getElem?_set_ne e] at g1
     exact .inr ⟨j+1,by simpa using hj,g1,by rw[g2,show m+1+j=m+(j+1) by omega],g3⟩
def A77 (σ:Nat→Option bB) (k:Nat):Bool:=match σ k with
 | some (.arr false _ _)=>true
 | _=>false
def BED (s:Option FuncId) (d:D):Option (List D):=match s,d with
 | none,.agg ds=>some ds
 | none,_=>none
 | some _,d=>some [d]
def BFP (s:Option FuncId) (row:List T):T:=match s with
 | none=>.agg row
 | some _=>row.headD (.v undef)
def A7G (s:Option FuncId) (zs:List (Nat×Nat)) (C:fP) (P:Program) (rs:Array ResultVar) (R:T→Prop) (e:Exit) (st:St):Prop:=match kV e,vO P st rs.toList with
 | true,some [d]=>match BED s d with
  | some ds=>match FL st.σ zs ds with
   | some (ks,ds')=>match nodupB ks&&ks.all (A77 st.σ),gZ ds' with
    | true,some row=>R (BFP s row)
    | _,_=>C.bad 711
   | none=>C.bad 712
  | none=>C.bad 716
 | _,_=>C.bad 713
def roB:bB→bB
 | .arr _ z rows=>.arr true z rows
 | x=>x
def qB (s:Option FuncId) (ds:List D):List D:=match s with
 | none=>[.agg ds]
 | some c=>ds++[.p (.fn c [] [])]
def stY (s:Option FuncId) (zs:List (Nat×Nat)) (own:Bool) (row:List T):Option St:=match own with
 | false=>some (GK ((eF s row).map .p) (fun _=>none) 0)
 | true=>match KB row zs with
  | some bs=>some (GK (qB s (kD zs 0 (row.map .p))) (KA (fun _=>none) 0 (bs.map roB)) zs.length)
  | none=>none
def A7B (s:Option FuncId) (args:List T):Option (List T):=match s,args with
 | none,[.agg row]=>some row
 | some c,[t,.fn c' [] []]=>match Nat.beq c c' with
  | true=>some [t]
  | false=>none
 | _,_=>none
def qU (s:Option FuncId) (zs:List (Nat×Nat)) (b:Bool) (C:fP) (P:Program) (E:Env) (Hs:FuncId→Hint) (k:Nat) (f:FuncId) (args:List T) (R:T→Prop):Prop:=match A7B s args,P.funcs[f]? with
 | some row,some fn=>match fn.body,decide ((eF s row).length≤fn.ntmps),stY s zs b row with
  | some cd,true,some st=>sx C P E (KG C P E Hs k) (Hs f) fn.ntmps cd (A7G s zs C P fn.results R) st
  | _,_,_=>C.bad 714
 | _,_=>C.bad 715
abbrev GJ:List (Nat×Nat):=[(1,3),(2,18),(3,6),(4,5),(5,3)]
theorem ASM {s:Option FuncId} {row:List T} (h:∀ c,s=some c→row.length=1):A7B s (eF s row)=some row:=by
 cases s with
 | none=>rfl
 | some c =>
  obtain ⟨t,rfl⟩:=List.length_eq_one_iff.1 (h c rfl)
  show (match Nat.beq c c with|true=>some [t]|false=>none)=_
  rw[Nat.beq_refl]
section
variable {P : Program} {E : Env} {Hs : FuncId → Hint}
theorem AAV (hE:aT P E) (hm:P.follows .mixedOrders=true) (hn:cE P=true) (hh:eH E) (k:Nat) {f:FuncId} {fn:Func} {cd:Code} (hf:P.funcs[f]? = some fn) (hbd:fn.body=some cd) {s:Option FuncId} {zs:List (Nat×Nat)} {cx cx':Cx} {ρ ρ':Nat→Option Loc} {σ σ':Nat→Option bB} {n':Nat} {w:World}
  (hcP:cx'.P=P) (hw0:cx'.w0=w) (harg:cx'.arg=[]) (hρb:cx'.ρb=ρ') (hσb:cx'.σb=σ') (hwb:cx'.wb=w) (hI':Inv cx' ρ' σ' n' w) (hG:Good P w) {args:List D} {vs:Array Value} (ha:cZ (Rd w (bL cx' ρ' σ') ρ') args vs) (hlen:args.length≤fn.ntmps)
  (hown:∀ ρ'' σ'' w'',bO cx' ρ' ρ'' σ' σ'' w w''→∀ b,bL cx ρ σ b→bL cx' ρ'' σ'' b) {t:T} {row':List T} {bs:List bB} (hrow:NJ s t=some row') (hbs:KB row' zs=some bs)
  (hs:sx bR P E (KG bR P E Hs k) (Hs f) fn.ntmps cd (A7G s zs bR P fn.results fun x=>x=t) (GK args σ' n')) :
  Calls P f vs w (fun e w'=>∃ (vc:Array Value) (L:Nat→Loc),e = .returned (VX s vc)∧Below w.heap.size w w' ∧
   (∀ i,i<zs.length→0<(L i).L+(L i).C→w.heap.size≤(L i).bJ∧(L i).bJ<w'.heap.size) ∧
   (∀ i j,i<zs.length→j<zs.length→0<(L i).L+(L i).C→0<(L j).L+(L j).C→(L i).bJ=(L j).bJ→i=j) ∧
   (∀ i,i<zs.length→fF w' (fun b=>bL cx ρ σ b∨oC zs.length L b) (fun _=>none) (L i) (bs.getD i .held)) ∧
   cZ (Rd w' (fun b=>bL cx ρ σ b∨oC zs.length L b) (fun i=>if i<zs.length then some (L i) else none)) (kD zs 0 (row'.map .p)) vc):=by
 subst hcP
 subst hw0
 refine calls_of_wp hf hbd ?_
 have hr:Rel cx' fn.ntmps ρ' (GK args σ' n') { tmps:=vs++Array.replicate (fn.ntmps-vs.size) undef,defers:=[] } cx'.w0:=wB hI' (by rw[hρb,hσb,hwb];exact bO.refl _ _ _ _) hG ha hlen
 refine wp_mono (oS hE hm hh (lU hE hm hn hh k) cd cx' rfl _ _ hs ρ' _ cx'.w0 hr) ?_
 rintro e a' w' ⟨st',ρ'',hr',hq,_⟩
 have hk:bO cx' ρ' ρ'' σ' st'.σ cx'.w0 w':=by
  have:=hr'.keeps
  rw[hρb,hσb,hwb] at this
  exact this
 unfold A7G at hq
 split at hq
 case h_2=>exact hq.elim
 rename_i d hex hres
 split at hq
 case h_2=>exact hq.elim
 rename_i ds hds
 split at hq
 case h_2=>exact hq.elim
 rename_i ks ds' ho
 split at hq
 case h_2=>exact hq.elim
 rename_i row hnd hal
 have hrr:row=row':=by
  cases s with
  | none=>subst hq;cases hrow;rfl
  | some c =>
   cases hds
   obtain ⟨_,h2,_⟩:=tW 0 ho hal
   obtain ⟨u,rfl⟩:=List.length_eq_one_iff.1 (show row.length=1 by rw[h2];rfl)
   subst hq;cases hrow;rfl
 subst hrr
 rw[Bool.and_eq_true,List.all_eq_true] at hnd
 obtain ⟨hnd,hfree⟩:=hnd
 have hnd:=yC hnd
 obtain ⟨hkl,hrl,bs',hb1,hb2,hrel⟩:=tW 0 ho hal
 rw[hbs] at hb1
 cases hb1
 obtain ⟨vl,hv1,hv2⟩:=nB hr' hres
 have hv1':(fn.results.mapM (vP a'.tmps)).run cx'.P w' = .ok vl.toArray w':=by rw[Array.mapM_eq_mapM_toList,Sem.run_map,hv1];rfl
 have hsz:vl.toArray.size=1:=by simpa using hv2.1
 have h3:=hv2.2 0 (by simp)
 have h4:vl.toArray.getD 0 undef=vl.toArray[0]:=by simp[Array.getD,hsz]
 rw[h4] at h3
 have hval:(results fn a'.tmps).run cx'.P w' = .ok vl.toArray[0] w':=by
  rw[gJ,Sem.run_bind,hv1']
  simp[hsz]
 generalize vl.toArray[0]=v0 at h3 hval
 simp only[List.getElem_cons_zero] at h3
 obtain ⟨vc,hv0,hvs,hcell⟩:∃ vc:Array Value,v0=VX s vc∧vc.size=ds.length∧∀ i (hi:i<ds.length),Rd w' (bL cx' ρ'' st'.σ) ρ'' ds[i] (vc.getD i undef):=by
  cases s with
  | none =>
   cases d with
   | agg ds0 =>
    cases hds
    cases h3 with
    | agg _ vc q1 q2=>exact ⟨vc,rfl,q1,q2⟩
   | _=>cases hds
  | some c =>
   cases hds
   exact ⟨#[v0],rfl,rfl,fun i hi=>by
    have:i=0:=by simpa using hi
    subst this
    exact h3⟩
 have hks:∀ i,i<zs.length→∃ l z rows,ρ'' (ks.getD i 0)=some l∧st'.σ (ks.getD i 0)=some (.arr false z rows)∧bs.getD i .held = .arr false z rows∧fF w' (bL cx' ρ'' st'.σ) ρ'' l (.arr false z rows):=fun i hi=>by
  obtain ⟨ro,z,rows,g1,g2⟩:=hb2 i hi
  have g3:=hfree (ks.getD i 0) (by rw[List.getD_eq_getElem?_getD,List.getElem?_eq_getElem (by omega)];exact List.getElem_mem _)
  unfold A77 at g3
  rw[g1] at g3
  cases ro with
  | true=>cases g3
  | false =>
   obtain ⟨l,g4,g5⟩:=hr'.inv.boxes _ _ g1
   exact ⟨l,z,rows,g4,g1,g2,g5⟩
 obtain ⟨L,hL⟩:∃ L:Nat→Loc,∀ i,i<zs.length→ρ'' (ks.getD i 0)=some (L i):=⟨fun i=>(ρ'' (ks.getD i 0)).getD ⟨0,0,0,0,0⟩,fun i hi=>by
  obtain ⟨l,_,_,g,_⟩:=hks i hi
  simp only[g,Option.getD_some]⟩
 have hO:∀ b,bL cx ρ σ b∨oC zs.length L b→bL cx' ρ'' st'.σ b:=by
  rintro b (hb|⟨j,hj,hp,rfl⟩)
  ·exact hown _ _ _ hk b hb
  ·obtain ⟨l,z,rows,_,g2,_⟩:=hks j hj
   exact .inr ⟨_,_,_,g2,hL j hj,hp,rfl⟩
 have hfin:∃ (vc':Array Value) (L:Nat→Loc),VX s vc=VX s vc'∧Below cx'.w0.heap.size cx'.w0 w' ∧
   (∀ i,i<zs.length→0<(L i).L+(L i).C→cx'.w0.heap.size≤(L i).bJ∧(L i).bJ<w'.heap.size) ∧
   (∀ i j,i<zs.length→j<zs.length→0<(L i).L+(L i).C→0<(L j).L+(L j).C→(L i).bJ=(L j).bJ→i=j) ∧
   (∀ i,i<zs.length→fF w' (fun b=>bL cx ρ σ b∨oC zs.length L b) (fun _=>none) (L i) (bs.getD i .held)) ∧
   cZ (Rd w' (fun b=>bL cx ρ σ b∨oC zs.length L b) (fun i=>if i<zs.length then some (L i) else none)) (kD zs 0 (row.map .p)) vc':=by
  refine ⟨vc,L,rfl,by have:=hr'.inv.below;rw[harg] at this;exact this.toB,fun i hi hp=>?_,fun i j hi hj hp hp' he=>?_,fun i hi=>?_,by rw[iR,List.length_map,hrl];exact hvs,fun i hi=>?_⟩
  ·obtain ⟨l,z,rows,_,g2,_⟩:=hks i hi
   exact ⟨hr'.inv.TE harg _ _ _ g2 (hL i hi) hp rfl,((hr'.inv.new _ _ (hL i hi)).2 hp).1⟩
  ·obtain ⟨_,_,_,_,g2,_⟩:=hks i hi
   obtain ⟨_,_,_,_,g2',_⟩:=hks j hj
   have e:=hr'.inv.inj _ _ _ _ _ _ g2 g2' (hL i hi) (hL j hj) hp hp' he
   rw[List.getD_eq_getElem?_getD,List.getD_eq_getElem?_getD,List.getElem?_eq_getElem (by omega),List.getElem?_eq_getElem (by omega)] at e
   exact ADR hnd _ _ e
  ·obtain ⟨l,z,rows,g1,g2,g3,g4⟩:=hks i hi
   rw[g3]
   rw[hL i hi] at g1
   cases g1
   refine ⟨fun h0=>?_,g4.2⟩
   obtain ⟨o1,p1,p2⟩:=g4.1 h0
   refine ⟨o1,p1,?_⟩
   cases p2 with
   | rows _ rs q hrs hzz hB =>
    cases hrs
    refine .rows _ _ q rfl (fun ro z rows' e=>by cases e;exact hzz _ _ _ rfl) ⟨hB.size,hB.pos,hB.small,hB.len,hB.VU,hB.width,fun i j hi hj=>?_,hB.one⟩
    obtain ⟨u,u1,u2⟩:=hB.cell i j hi hj
    refine ⟨u,u1,?_⟩
    obtain ⟨t,ht⟩:=KZ hi hj
    rw[ht] at u2 ⊢
    cases u2 with
    | p _ _ u2=>exact .p _ _ (u2.less hO)
  ·have hi':i<ds.length:=by rw[iR,List.length_map] at hi;omega
   have hc:=hcell i hi'
   rcases hrel i hi' with ⟨t,g1,g2,g3⟩|⟨j,hj,g1,g2,g5⟩
   ·rw[List.getElem?_eq_getElem hi',Option.some.injEq] at g1
    rw[List.getElem?_eq_getElem hi,Option.some.injEq] at g3
    rw[g1] at hc
    rw[g3]
    cases hc with
    | p _ _ hc=>exact .p _ _ (hc.less hO)
   ·rw[List.getElem?_eq_getElem hi',Option.some.injEq] at g1
    rw[List.getElem?_eq_getElem hi,Option.some.injEq,Nat.zero_add] at g2
    rw[g1] at hc
    rw[g2]
    have e:(if j<zs.length then some (L j) else none)=some (L j):=if_pos hj
    have e':=hL j hj
    generalize vc.getD i undef=u at hc ⊢
    cases hc with
    | own _ l q1 q2 q3 q4=>rw[e'] at q1;cases q1;exact .own j _ e q2 q3 q4
    | c0 _ l a q1 q2=>rw[e'] at q1;cases q1;exact .c0 j _ a e q2
 obtain ⟨vc',L',q1,q2⟩:=hfin
 rcases iY hex with rfl|rfl
 ·exact ⟨hr'.defers,_,hval,vc',L',by rw[hv0,q1],q2⟩
 ·exact ⟨hr'.defers,_,hval,vc',L',by rw[hv0,q1],q2⟩
theorem TQ {cx:Cx} {ρ:Nat→Option Loc} {σ:Nat→Option bB} {n:Nat} {w:World} (hI:Inv cx ρ σ n w) (hG:Good cx.P w) {zs:List (Nat×Nat)} {ds ds':List D} {ks:List Nat} {row:List T} {vc:Array Value} (ho:FL σ zs ds=some (ks,ds')) (hnd:nodupB ks=true) (hal:gZ ds'=some row) (hcell:∀ i (hi:i<ds.length),Rd w (bL cx ρ σ) ρ ds[i] (vc.getD i undef)) :
  (∀ t∈row,Bd t)∧row.length=ds.length∧∃ (cx':Cx) (bs0:List bB),KB row zs=some bs0∧cx'.P=cx.P∧cx'.w0=w∧cx'.arg=[]∧cx'.σb=KA (fun _=>none) 0 (bs0.map roB)∧cx'.wb=w∧Inv cx' cx'.ρb cx'.σb zs.length w∧(∀ b,bL cx' cx'.ρb cx'.σb b→bL cx ρ σ b) ∧
   (∀ i (hi:i<(kD zs 0 (row.map .p)).length),Rd w (bL cx' cx'.ρb cx'.σb) cx'.ρb (kD zs 0 (row.map .p))[i] (vc.getD i undef))∧∀ ρ'' σ'' w'',bO cx' cx'.ρb ρ'' cx'.σb σ'' w w''→∀ b,bL cx ρ σ b→bL cx' ρ'' σ'' b:=by
 have hnd:=yC hnd
 obtain ⟨hkl,hrl,bs0,hb1,hb2,hrel⟩:=tW 0 ho hal
 have hks:∀ i,i<zs.length→∃ l z rows ro,ρ (ks.getD i 0)=some l∧σ (ks.getD i 0)=some (.arr ro z rows)∧bs0.getD i .held = .arr false z rows∧fF w (bL cx ρ σ) ρ l (.arr ro z rows):=fun i hi=>by
  obtain ⟨ro,z,rows,g1,g2⟩:=hb2 i hi
  obtain ⟨l,g4,g5⟩:=hI.boxes _ _ g1
  exact ⟨l,z,rows,ro,g4,g1,g2,g5⟩
 have hbd:∀ t∈row,Bd t:=by
  intro t ht
  obtain ⟨i,hi,rfl⟩:=List.mem_iff_getElem.1 ht
  have hi':i<ds.length:=by omega
  have hc:=hcell i hi'
  rcases hrel i hi' with ⟨t,g1,g2,g3⟩|⟨j,hj,g1,g2,g5⟩
  ·rw[List.getElem?_eq_getElem hi',Option.some.injEq] at g1
   rw[List.getElem?_eq_getElem hi,Option.some.injEq] at g2
   rw[g1] at hc
   rw[g2]
   cases hc with
   | p _ _ hc=>exact hc.bd
  ·obtain ⟨ro,z,rows,g3,g4⟩:=g5
   rw[List.getElem?_eq_getElem hi',Option.some.injEq] at g1
   rw[List.getElem?_eq_getElem hi,Option.some.injEq] at g4
   rw[g1] at hc
   rw[g4]
   have hfz:iA σ 4 (.own (ks.getD j 0))=some (.sl false rows):=by simp only[iA,g3]
   exact (xH (own0:=fun _=>False) hI (fun _ hb=>hb.elim) (fun _ _ h=>h) (fun _ _ _ _ _ _ hb=>hb) 4 hc hfz).bd
 let L:Nat→Loc:=fun i=>(ρ (ks.getD i 0)).getD ⟨0,0,0,0,0⟩
 have hL:∀ i,i<zs.length→ρ (ks.getD i 0)=some (L i):=fun i hi=>by
  obtain ⟨l,_,_,_,g,_⟩:=hks i hi
  simp only[L,g,Option.getD_some]
 have hbl:=D1 hb1
 let ρ':Nat→Option Loc:=iV (fun _=>none) 0 zs.length L
 let σ':Nat→Option bB:=KA (fun _=>none) 0 (bs0.map roB)
 have hσ':σ'=iV (fun _=>none) 0 zs.length (fun j=>(bs0.map roB).getD j .held):=funext fun i=>by
  show KA _ _ _ i=_
  rw[pL,List.length_map,hbl]
 let cx':Cx:=⟨cx.P,fun b=>bL cx ρ σ b∧¬ oC zs.length L b,w,ρ',σ',w,[]⟩
 have zr:∀ {i y},ρ' i=some y→i<zs.length∧y=L i:=fun {i y} h=>by
  rcases gY h with ⟨j,hj,rfl,rfl⟩|⟨_,h⟩
  ·rw[Nat.zero_add];exact ⟨hj,rfl⟩
  ·cases h
 have r':∀ i,i<zs.length→ρ' i=some (L i):=fun i hi=>by have:=wV (f:=fun _=>none) (n:=0) (L:=L) hi;rw[Nat.zero_add] at this;exact this
 have zs':∀ {i y},σ' i=some y→i<zs.length∧y=(bs0.map roB).getD i .held:=fun {i y} h=>by
  rw[hσ'] at h
  rcases gY h with ⟨j,hj,rfl,rfl⟩|⟨_,h⟩
  ·rw[Nat.zero_add];exact ⟨hj,rfl⟩
  ·cases h
 have s':∀ i,i<zs.length→∃ z rows ro,σ (ks.getD i 0)=some (.arr ro z rows)∧fF w (bL cx ρ σ) ρ (L i) (.arr ro z rows)∧σ' i=some (.arr true z rows)∧(bs0.map roB).getD i .held = .arr true z rows:=fun i hi=>by
  obtain ⟨l,z,rows,ro,g1,g2,g3,g4⟩:=hks i hi
  rw[hL i hi] at g1
  cases g1
  have g5:(bs0.map roB).getD i .held = .arr true z rows:=by
   rw[List.getD_eq_getElem?_getD,List.getElem?_eq_getElem (by omega)] at g3
   rw[List.getD_eq_getElem?_getD,List.getElem?_map,List.getElem?_eq_getElem (by omega)]
   show roB bs0[i]=_
   rw[show bs0[i] = .arr false z rows from g3];rfl
  refine ⟨z,rows,ro,g2,g4,?_,g5⟩
  rw[hσ',←g5]
  have:=wV (f:=fun _=>none) (n:=0) (L:=fun j=>(bs0.map roB).getD j .held) hi
  rw[Nat.zero_add] at this
  exact this
 have hOwn:∀ b,bL cx' ρ' σ' b→bL cx ρ σ b:=by
  rintro b (⟨hb,_⟩|⟨k2,l2,x2,h1,h2,h3,h4⟩)
  ·exact hb
  ·obtain ⟨q1,rfl⟩:=zr h2
   obtain ⟨z,rows,ro,q2,_⟩:=s' k2 q1
   exact .inr ⟨_,_,_,q2,hL k2 q1,h3,h4⟩
 have hI':Inv cx' ρ' σ' zs.length w:=by
  refine ⟨fun i x hi=>?_,fun k1 k2 x1 x2 l2 l3 h1 h2 h3 h4 q1 q2 qe=>?_,fun i y hi=>?_,fun i x y h1 h2 h3 h4=>?_,B4 (Below.refl _ _),fun b hb=>bL.lt hI hb.1,hG.2,fun a e=>by cases e⟩
  ·obtain ⟨hi',rfl⟩:=zs' hi
   obtain ⟨z,rows,ro,q2,q3,q4,q5⟩:=s' i hi'
   refine ⟨L i,r' i hi',?_⟩
   rw[q5]
   refine ⟨fun h0=>?_,fun h0=>?_⟩
   ·obtain ⟨o1,p1,p2⟩:=q3.1 h0
    refine ⟨o1,p1,?_⟩
    cases p2 with
    | rows _ rs q hrs hzz hB =>
     cases hrs
     refine .rows _ _ q rfl (fun ro z rows' e=>by cases e;exact hzz _ _ _ rfl) ⟨hB.size,hB.pos,hB.small,hB.len,hB.VU,hB.width,fun i j hi hj=>?_,hB.one⟩
     obtain ⟨u,u1,u2⟩:=hB.cell i j hi hj
     refine ⟨u,u1,?_⟩
     obtain ⟨t,ht⟩:=KZ hi hj
     rw[ht] at u2 ⊢
     cases u2 with
     | p _ _ u2=>exact .p _ _ (u2.less hOwn)
   ·obtain ⟨_,_,e⟩:=q3.2 h0
    cases e
    exact ⟨_,_,rfl⟩
  ·obtain ⟨a1,rfl⟩:=zr h3
   obtain ⟨a2,rfl⟩:=zr h4
   obtain ⟨_,_,_,b1,_⟩:=s' k1 a1
   obtain ⟨_,_,_,b2,_⟩:=s' k2 a2
   have e:=hI.inj _ _ _ _ _ _ b1 b2 (hL k1 a1) (hL k2 a2) q1 q2 qe
   rw[List.getD_eq_getElem?_getD,List.getD_eq_getElem?_getD,List.getElem?_eq_getElem (by omega),List.getElem?_eq_getElem (by omega)] at e
   exact ADR hnd _ _ e
  ·obtain ⟨a1,rfl⟩:=zr hi
   exact ⟨a1,fun h0=>⟨((hI.new _ _ (hL i a1)).2 h0).1,fun q=>q.2 ⟨i,a1,h0,rfl⟩⟩⟩
  ·obtain ⟨a1,rfl⟩:=zs' h1
   obtain ⟨_,_,_,_,_,_,q5⟩:=s' i a1
   rw[q5] at h4
   cases h4
 refine ⟨hbd,hrl,cx',bs0,hb1,rfl,rfl,rfl,rfl,rfl,hI',hOwn,?_,?_⟩
 ·intro i hi
  have hi':i<ds.length:=by rw[iR,List.length_map] at hi;omega
  have hc:=hcell i hi'
  rcases hrel i hi' with ⟨t,g1,g2,g3⟩|⟨j,hj,g1,g2,g5⟩
  ·rw[List.getElem?_eq_getElem hi',Option.some.injEq] at g1
   rw[List.getElem?_eq_getElem hi,Option.some.injEq] at g3
   rw[g1] at hc
   rw[g3]
   cases hc with
   | p _ _ hc=>exact .p _ _ (hc.less hOwn)
  ·rw[List.getElem?_eq_getElem hi',Option.some.injEq] at g1
   rw[List.getElem?_eq_getElem hi,Option.some.injEq,Nat.zero_add] at g2
   rw[g1] at hc
   rw[g2]
   have e':=hL j hj
   generalize vc.getD i undef=u at hc ⊢
   cases hc with
   | own _ l q1 q2 q3 q4=>rw[e'] at q1;cases q1;exact .own j _ (r' j hj) q2 q3 q4
   | c0 _ l a q1 q2=>rw[e'] at q1;cases q1;exact .c0 j _ a (r' j hj) q2
 ·intro ρ'' σ'' w'' hk b hb
  by_cases e:oC zs.length L b
  ·obtain ⟨j,hj,hp,rfl⟩:=e
   obtain ⟨z,rows,ro,_,_,q4,_⟩:=s' j hj
   obtain ⟨x',q1,_⟩:=hk.ro j _ q4 rfl
   exact .inr ⟨j,L j,x',q1,hk.loc j _ (r' j hj),hp,rfl⟩
  ·exact .inl ⟨hb,e⟩
theorem D2 {E':Env} {Hs':FuncId→Hint} {k':Nat} {o:Bool} {s:Option FuncId} (hE:aT P E) (hm:P.follows .mixedOrders=true) (hn:cE P=true) (hh:eH E) (k:Nat) {f:FuncId} {zs:List (Nat×Nat)} {g:List T→Option T} (hex:∃ fn c,P.funcs[f]? = some fn∧fn.body=some c)
  (h:∀ args r,g args=some r→(∀ t∈args,Bd t)→qU s zs false bR P E Hs k f args (fun x=>x=r))
  (h':o=true→aT P E'∧eH E'∧∀ args r,g args=some r→(∀ t∈args,Bd t)→qU s zs true bR P E' Hs' k' f args (fun x=>x=r)):sQ P f o s zs g:=by
 obtain ⟨fn,cd,hf,hb⟩:=hex
 refine ⟨⟨fn,hf,j9 hn hf,by simp[hb]⟩,fun cx ρ σ n w args vs b row row' t bs hcP hG hI ha hin hg hrow hbs=>?_⟩
 subst hcP
 have hone:∀ c,s=some c→row.length=1:=fun c hc=>by
  subst hc
  unfold w5 at hin
  split at hin
  ·rename_i e;cases e
  ·rename_i e;cases e
  ·split at hin
   ·unfold VW at hin
    split at hin
    ·rename_i row0 hal
     cases hin
     have:=congrArg List.length (fG hal)
     simpa using this.symm
    ·split at hin
     ·rename_i ho
      split at hin
      ·rename_i hal
       cases hin
       obtain ⟨_,h2,_⟩:=tW 0 ho hal
       rw[h2];rfl
      ·cases hin
     ·cases hin
   ·cases hin
  ·cases hin
 have start:∀ {E:Env} {Hs:FuncId→Hint} {k:Nat} (b:Bool),(∀ args r,g args=some r→(∀ t∈args,Bd t)→qU s zs b bR cx.P E Hs k f args (fun x=>x=r))→(∀ t∈row,Bd t)→∃ st,stY s zs b row=some st∧(eF s row).length≤fn.ntmps∧sx bR cx.P E (KG bR cx.P E Hs k) (Hs f) fn.ntmps cd (A7G s zs bR cx.P fn.results fun x=>x=t) st:=fun b h hbd=>by
  have hs:=h _ _ hg (fun t ht=>by
   cases s with
   | none=>rw[List.mem_singleton.1 ht];exact (LQ _).2 hbd
   | some c =>
    rcases List.mem_append.1 ht with ht|ht
    ·exact hbd t ht
    ·rw[List.mem_singleton.1 ht];exact (BDJ _ _ _).2 ⟨fun c hc=>(by cases hc),fun c hc=>(by cases hc)⟩)
  unfold qU at hs
  rw[hf,ASM hone] at hs
  dsimp only at hs
  split at hs
  case h_2=>exact hs.elim
  rename_i c' st he hl hst
  rw[hb] at he
  cases he
  exact ⟨st,hst,of_decide_eq_true hl,hs⟩
 have plain:∀ (ha:cZ (cN w (bL cx ρ σ)) (eF s row) vs),Calls cx.P f vs w (fun e w'=>∃ (vc:Array Value) (L:Nat→Loc),e = .returned (VX s vc)∧Below w.heap.size w w' ∧
   (∀ i,i<zs.length→0<(L i).L+(L i).C→w.heap.size≤(L i).bJ∧(L i).bJ<w'.heap.size) ∧
   (∀ i j,i<zs.length→j<zs.length→0<(L i).L+(L i).C→0<(L j).L+(L j).C→(L i).bJ=(L j).bJ→i=j) ∧
   (∀ i,i<zs.length→fF w' (fun b=>bL cx ρ σ b∨oC zs.length L b) (fun _=>none) (L i) (bs.getD i .held)) ∧
   cZ (Rd w' (fun b=>bL cx ρ σ b∨oC zs.length L b) (fun i=>if i<zs.length then some (L i) else none)) (kD zs 0 (row'.map .p)) vc):=by
  intro ha
  have hbd:∀ t∈row,Bd t:=by
   intro t ht
   cases s with
   | none=>exact (LQ _).1 (ha.2 0 (by simp[eF])).bd t ht
   | some c =>
    obtain ⟨i,hi,rfl⟩:=List.mem_iff_getElem.1 ht
    have h1:=(ha.2 i (by simp only[eF,List.length_append];omega)).bd
    simp only[eF] at h1
    rw[List.getElem_append_left hi] at h1
    exact h1
  obtain ⟨st,hst,hl,hs⟩:=start false h hbd
  cases hst
  have hown0:∀ b,bL (KC cx.P (bL cx ρ σ) w) (fun _=>none) (fun _=>none) b→bL cx ρ σ b:=fun b hb=>by
   rcases hb with hb|⟨k,l,x,hk,_,_⟩
   ·exact hb
   ·cases hk
  refine AAV hE hm hn hh k hf hb (cx':=KC cx.P (bL cx ρ σ) w) rfl rfl rfl rfl rfl rfl (BA4 cx.P (bL cx ρ σ) w hG fun b hb=>bL.lt hI hb) hG (args:=(eF s row).map .p) ⟨by simpa using ha.1,fun i hi=>?_⟩ (by simpa using hl) (fun _ _ _ _ b hb=>.inl hb) hrow hbs hs
  rw[List.getElem_map]
  exact .p _ _ ((ha.2 i (by simpa using hi)).less hown0)
 have own:∀ (ds ds':List D) (ks:List Nat) (vc:Array Value),o=true→FL σ zs ds=some (ks,ds')→nodupB ks=true→gZ ds'=some row→vc.size=ds.length→(∀ i (hi:i<ds.length),Rd w (bL cx ρ σ) ρ ds[i] (vc.getD i undef)) →
   (∀ (O:Nat→Prop) (τ:Nat→Option Loc) (es:List D),es.length=ds.length→(∀ b,O b→bL cx ρ σ b)→(∀ i (hi:i<es.length),Rd w O τ es[i] (vc.getD i undef))→cZ (Rd w O τ) (qB s es) vs)→(∀ es:List D,es.length=row.length→(eF s row).length=(qB s es).length) →
   Calls cx.P f vs w (fun e w'=>∃ (vc:Array Value) (L:Nat→Loc),e = .returned (VX s vc)∧Below w.heap.size w w' ∧
   (∀ i,i<zs.length→0<(L i).L+(L i).C→w.heap.size≤(L i).bJ∧(L i).bJ<w'.heap.size) ∧
   (∀ i j,i<zs.length→j<zs.length→0<(L i).L+(L i).C→0<(L j).L+(L j).C→(L i).bJ=(L j).bJ→i=j) ∧
   (∀ i,i<zs.length→fF w' (fun b=>bL cx ρ σ b∨oC zs.length L b) (fun _=>none) (L i) (bs.getD i .held)) ∧
   cZ (Rd w' (fun b=>bL cx ρ σ b∨oC zs.length L b) (fun i=>if i<zs.length then some (L i) else none)) (kD zs 0 (row'.map .p)) vc):=by
  intro ds ds' ks vc hoT ho hnd hal hvc hcell hargs hlenAll
  have hlenA:=hlenAll (kD zs 0 (row.map .p)) (by rw[iR,List.length_map])
  obtain ⟨hbd,hrl,cx',bs0,hb1,e1,e2,e3,e4,e5,hI',hOwn,hcells,hown⟩:=TQ hI hG ho hnd hal hcell
  obtain ⟨hE',hh',h'⟩:=h' hoT
  obtain ⟨st,hst,hl,hs⟩:=start true h' hbd
  unfold stY at hst
  rw[hb1] at hst
  cases hst
  rw[←e4] at hs
  exact AAV hE' hm hn hh' k' hf hb (cx':=cx') e1 e2 e3 rfl rfl e5 hI' hG (hargs (bL cx' cx'.ρb cx'.σb) cx'.ρb (kD zs 0 (row.map .p)) (by rw[iR,List.length_map,hrl]) hOwn hcells) (by rw[←hlenA];exact hl) hown hrow hbs hs
 have cases2:∀ (ds:List D) (vc:Array Value),VW o zs σ ds=some (b,row)→vc.size=ds.length→(∀ i (hi:i<ds.length),Rd w (bL cx ρ σ) ρ ds[i] (vc.getD i undef)) →
   (∀ (O:Nat→Prop) (τ:Nat→Option Loc) (es:List D),es.length=ds.length→(∀ b,O b→bL cx ρ σ b)→(∀ i (hi:i<es.length),Rd w O τ es[i] (vc.getD i undef))→cZ (Rd w O τ) (qB s es) vs)→(∀ es:List D,es.length=row.length→(eF s row).length=(qB s es).length) →
   (cZ (Rd w (bL cx ρ σ) ρ) (qB s (row.map .p)) vs→cZ (cN w (bL cx ρ σ)) (eF s row) vs) →
   Calls cx.P f vs w (fun e w'=>∃ (vc:Array Value) (L:Nat→Loc),e = .returned (VX s vc)∧Below w.heap.size w w' ∧
   (∀ i,i<zs.length→0<(L i).L+(L i).C→w.heap.size≤(L i).bJ∧(L i).bJ<w'.heap.size) ∧
   (∀ i j,i<zs.length→j<zs.length→0<(L i).L+(L i).C→0<(L j).L+(L j).C→(L i).bJ=(L j).bJ→i=j) ∧
   (∀ i,i<zs.length→fF w' (fun b=>bL cx ρ σ b∨oC zs.length L b) (fun _=>none) (L i) (bs.getD i .held)) ∧
   cZ (Rd w' (fun b=>bL cx ρ σ b∨oC zs.length L b) (fun i=>if i<zs.length then some (L i) else none)) (kD zs 0 (row'.map .p)) vc):=by
  intro ds vc hr hvc hcell hargs hlenAll hpl
  unfold VW at hr
  cases hal:gZ ds with
  | some row0 =>
   simp only[hal] at hr
   cases hr
   have e:=fG hal
   subst e
   exact plain (hpl (hargs (bL cx ρ σ) ρ (row.map .p) rfl (fun _ h=>h) hcell))
  | none =>
   simp only[hal] at hr
   cases o with
   | false=>cases hr
   | true =>
    cases ho:FL σ zs ds with
    | none=>rw[ho] at hr;cases hr
    | some x =>
     obtain ⟨ks,ds'⟩:=x
     rw[ho] at hr
     dsimp only at hr
     split at hr
     ·rename_i row0 hnd hal'
      cases hr
      exact own ds ds' ks vc rfl ho hnd hal' hvc hcell hargs hlenAll
     ·cases hr
 have hv1:∀ {d:D},(∃ i,∃ h:i<args.length,args[i]=d)→True:=fun _=>trivial
 unfold w5 at hin
 split at hin
 ·cases hin
  refine plain ⟨by simpa [eF] using ha.1,fun i hi=>?_⟩
  have hi0:i=0:=by simpa [eF] using hi
  subst hi0
  have h1:=ha.2 0 (by simp)
  simp only[List.getElem_cons_zero,eF] at h1 ⊢
  cases h1 with
  | p _ _ h1=>exact h1
 ·rename_i ds
  have h1:=ha.2 0 (by simp)
  simp only[List.getElem_cons_zero] at h1
  have hvs1:vs.size=1:=by simpa using ha.1
  generalize hv0:vs.getD 0 undef=v0 at h1
  cases h1 with
  | agg _ vc hvc hcell =>
  refine cases2 ds vc hin hvc hcell (fun O τ es hl _ hc=>⟨by simpa [qB] using hvs1,fun i hi=>?_⟩) (fun es hl=>rfl) fun hr=>⟨by simpa [eF] using hvs1,fun i hi=>?_⟩
  ·have hi0:i=0:=by simpa [qB] using hi
   subst hi0
   rw[hv0]
   exact .agg _ vc (by rw[hvc,hl]) hc
  ·have hi0:i=0:=by simpa [eF] using hi
   subst hi0
   have h1:=hr.2 0 (by simp[qB])
   rw[hv0] at h1 ⊢
   simp only[qB,List.getElem_cons_zero] at h1
   cases h1 with
   | agg _ _ q1 q2 =>
    refine .agg _ vc (by simpa using q1) fun i hi=>?_
    have q:=q2 i (by simpa using hi)
    rw[List.getElem_map] at q
    cases q with
    | p _ _ q=>exact q
 ·rename_i c d c'
  split at hin
  case h_2=>cases hin
  rename_i hcc
  have hcc:=Nat.eq_of_beq_eq_true hcc
  subst hcc
  have hvs2:vs.size=2:=by simpa using ha.1
  have hl1:row.length=1:=hone _ rfl
  have h0:=ha.2 0 (by simp)
  have h1:=ha.2 1 (by simp)
  simp only[List.getElem_cons_zero,List.getElem_cons_succ] at h0 h1
  have hfn:∀ (O:Nat→Prop) (τ:Nat→Option Loc),Rd w O τ (.p (.fn c [] [])) (vs.getD 1 undef):=fun O τ=>by
   generalize vs.getD 1 undef=u at h1 ⊢
   cases h1 with
   | p _ _ h1 =>
    cases h1 with
    | fn _ _ _ va vb a1 a2 a3 a4=>exact .p _ _ (.fn c [] [] va vb a1 a2 (fun i hi=>by cases hi) (fun i hi=>by cases hi))
  refine cases2 [d] #[vs.getD 0 undef] hin rfl (fun i hi=>by
   have hi0:i=0:=by simpa using hi
   subst hi0
   exact h0) (fun O τ es hl _ hc=>?_) (fun es hl=>by simp[eF,qB,hl]) fun hr=>?_
  ·obtain ⟨e,rfl⟩:=List.length_eq_one_iff.1 hl
   refine ⟨by simpa [qB] using hvs2,fun i hi=>?_⟩
   have hi2:i<2:=by simpa [qB] using hi
   match i,hi2 with
   | 0,_=>exact hc 0 (by simp)
   | 1,_=>exact hfn O τ
  ·obtain ⟨u,rfl⟩:=List.length_eq_one_iff.1 hl1
   refine ⟨by simpa [eF] using hvs2,fun i hi=>?_⟩
   have hi2:i<2:=by simpa [eF] using hi
   match i,hi2 with
   | 0,_ =>
    have q:=hr.2 0 (by simp[qB])
    simp only[qB,List.map_cons,List.map_nil,List.cons_append,List.nil_append,List.getElem_cons_zero] at q
    cases q with
    | p _ _ q=>exact q
   | 1,_ =>
    have q:=hfn (bL cx ρ σ) ρ
    cases q with
    | p _ _ q=>exact q
 ·cases hin
def AX3 (zs:List (Nat×Nat)) (g:List T→Option T) (args:List D) (σ:Nat→Option bB) (_:Nat):Option T:=match w5 true none zs σ args with
 | some (true,row)=>g [.agg row]
 | _=>none
def AK0 (zs:List (Nat×Nat)) (C:fP) (P:Program) (E:Env) (Hs:FuncId→Hint) (k:Nat) (f:FuncId) (args:List T) (R:T→Prop):Prop:=match A7B none args,P.funcs[f]? with
 | some row,some fn=>match fn.body,decide (1≤fn.ntmps),stY none zs true row with
  | some cd,true,some st=>sx C P E (KG C P E Hs k) (Hs f) fn.ntmps cd (A7F C P fn.results R) st
  | _,_,_=>C.bad 718
 | _,_=>C.bad 719
abbrev ANC:List (Nat×Nat):=[(1,38)]
theorem A66 (hE:aT P E) (hm:P.follows .mixedOrders=true) (hn:cE P=true) (hh:eH E) (k:Nat) {f:FuncId} {zs:List (Nat×Nat)} {g:List T→Option T} (hex:∃ fn c,P.funcs[f]? = some fn∧fn.body=some c)
  (h:∀ args r,g args=some r→(∀ t∈args,Bd t)→AK0 zs bR P E Hs k f args (fun x=>x=r)):lM P f (AX3 zs g):=by
 obtain ⟨fn,cd,hf,hb⟩:=hex
 refine ⟨⟨fn,hf,j9 hn hf,by simp[hb]⟩,fun cx ρ σ n w args vs r hcP hG hI ha hg=>?_⟩
 subst hcP
 unfold AX3 at hg
 split at hg
 case h_2=>cases hg
 rename_i row hin
 unfold w5 at hin
 split at hin
 ·cases hin
 ·rename_i ds
  unfold VW at hin
  split at hin
  ·cases hin
  split at hin
  case h_2=>cases hin
  rename_i ks ds' ho
  split at hin
  case h_2=>cases hin
  rename_i row0 hnd hal
  cases hin
  have h1:=ha.2 0 (by simp)
  simp only[List.getElem_cons_zero] at h1
  have hvs1:vs.size=1:=by simpa using ha.1
  generalize hv0:vs.getD 0 undef=v0 at h1
  cases h1 with
  | agg _ vc hvc hcell =>
  obtain ⟨hbd,hrl,cx',bs0,hb1,e1,e2,e3,e4,e5,hI',hOwn,hcells,hown⟩:=TQ hI hG ho hnd hal hcell
  have hs:=h _ _ hg (fun t ht=>by rw[List.mem_singleton.1 ht];exact (LQ _).2 hbd)
  unfold AK0 at hs
  rw[hf] at hs
  dsimp only[A7B] at hs
  split at hs
  case h_2=>exact hs.elim
  rename_i c' st he hl hst
  rw[hb] at he
  cases he
  unfold stY at hst
  rw[hb1] at hst
  cases hst
  rw[←e4] at hs
  refine calls_of_wp hf hb ?_
  have hr:Rel cx' fn.ntmps cx'.ρb (GK [.agg (kD zs 0 (row.map .p))] cx'.σb zs.length) { tmps:=vs++Array.replicate (fn.ntmps-vs.size) undef,defers:=[] } w:=wB hI' (by rw[e5];exact bO.refl _ _ _ _) (by rw[e1];exact hG) ⟨by simpa using hvs1,fun i hi=>by
   have hi0:i=0:=by simpa using hi
   subst hi0
   rw[hv0]
   exact .agg _ vc (by rw[hvc,iR,List.length_map,hrl]) hcells⟩ (by simpa using hl)
  rw[←e1] at hE hm hn hs
  refine wp_mono (by rw[←e1];exact oS hE hm hh (lU hE hm hn hh k) _ cx' rfl _ _ hs cx'.ρb _ w hr) ?_
  rintro e a' w' ⟨st',ρ'',hr',hq,_⟩
  unfold A7F at hq
  split at hq
  case h_2=>exact hq.elim
  rename_i r' hex hres
  subst hq
  have hk:bO cx' cx'.ρb ρ'' cx'.σb st'.σ w w':=by
   have:=hr'.keeps
   rw[e5] at this
   exact this
  obtain ⟨v,q1,q2⟩:=PG (own0:=bL cx ρ σ) hr' e3 (hown _ _ _ hk) (fun b hb=>by rw[e2];exact bL.lt hI hb) hres
  have hbel:Below w.heap.size w w':=by have:=hr'.inv.below;rw[e3,e2] at this;exact this.toB
  rw[e1] at q1
  rcases iY hex with rfl|rfl
  ·exact ⟨hr'.defers,v,q1,v,rfl,q2,hbel⟩
  ·exact ⟨hr'.defers,v,q1,v,rfl,q2,hbel⟩
 ·rename_i e;cases e
 ·cases hin
end
end Go.Pv
