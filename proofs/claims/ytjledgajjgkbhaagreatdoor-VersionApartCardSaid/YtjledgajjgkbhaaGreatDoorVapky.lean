/-
  The symbolic executor, part y: functions that read a record of the caller's own, one cell of which is an own array.
-/
import Derived.Test.YtjledgajjgkbhaaGreatDoorVapkv
set_option linter.defProp false
set_option linter.unusedSimpArgs false
namespace Go.Pv
open Go Go.RowKit
def AZK (c z:Nat) (args:List D) (σ:Nat→Option bB):Option (List T):=match args with
 | .ptr k i j::rest=>match decide (i=0)&&decide (j=0),σ k with
  | true,some (.rows _ [ds])=>match ds[c]? with
   | some (.own k')=>match σ k' with
    | some (.arr _ z' rows)=>match decide (z'=z),gZ (ds.set c (.p (.sl false rows))),gZ rest with
     | true,some cs,some ts=>some (.agg cs::ts)
     | _,_,_=>none
    | _=>none
   | _=>none
  | _,_=>none
 | _=>none
def ALZ (c z:Nat) (g:List T→Option T) (args:List D) (σ:Nat→Option bB) (n:Nat):Option T:=match AZK c z args σ with
 | some ts=>g ts
 | none=>none
def stR (c z:Nat) (row:List T) (args:List T):Option St:=match row[c]? with
 | some (.sl _ rows)=>some (GK (.ptr 0 0 0::args.map .p) (bY (bY (fun _=>none) 0 (some (.rows true [(row.map D.p).set c (.own 1)]))) 1 (some (.arr true z rows))) 2)
 | _=>none
def A7F (C:fP) (P:Program) (rs:Array ResultVar) (R:T→Prop) (e:Exit) (st:St):Prop:=match kV e,AJR P rs st with
 | true,some r=>R r
 | _,_=>C.bad 708
def AKZ (c z:Nat) (C:fP) (P:Program) (E:Env) (Hs:FuncId→Hint) (k:Nat) (f:FuncId) (args:List T) (R:T→Prop):Prop:=match args,P.funcs[f]? with
 | .agg row::args,some fn=>match fn.body,decide (args.length+1≤fn.ntmps),stR c z row args with
  | some cd,true,some st=>sx C P E (KG C P E Hs k) (Hs f) fn.ntmps cd (A7F C P fn.results R) st
  | _,_,_=>C.bad 703
 | _,_=>C.bad 704
abbrev A2V (C:fP) (P:Program) (E:Env) (Hs:FuncId→Hint) (k:Nat) (f:FuncId) (args:List T) (R:T→Prop):Prop:=AKZ 8 2 C P E Hs k f args R
abbrev AGO (P:Program) (f:FuncId) (g:List T→Option T):Prop:=lM P f (ALZ 8 2 g)
section
variable {P : Program} {E : Env} {Hs : FuncId → Hint}
theorem AQZ {c z:Nat} (hE:aT P E) (hm:P.follows .mixedOrders=true) (hn:cE P=true) (hh:eH E) (k:Nat) {f:FuncId} {g:List T→Option T} (hex:∃ fn c,P.funcs[f]? = some fn∧fn.body=some c)
  (h:∀ args r,g args=some r→(∀ t∈args,Bd t)→AKZ c z bR P E Hs k f args (fun x=>x=r)):lM P f (ALZ c z g):=by
 obtain ⟨fn,cd,hf,hb⟩:=hex
 refine ⟨⟨fn,hf,j9 hn hf,by simp[hb]⟩,fun cx ρ σ n w args vs r hcP hG hI ha hg=>?_⟩
 subst hcP
 unfold ALZ at hg
 split at hg
 case h_2=>cases hg
 rename_i targs hin
 unfold AZK at hin
 split at hin
 case h_2=>cases hin
 rename_i kk i j rest
 split at hin
 case h_2=>cases hin
 rename_i ro ds hij hσ
 split at hin
 case h_2=>cases hin
 rename_i k' hdc
 split at hin
 case h_2=>cases hin
 rename_i ro' z' rows hσ'
 split at hin
 case h_2=>cases hin
 rename_i cs ts hz hcs hts
 cases hin
 rw[Bool.and_eq_true,decide_eq_true_eq,decide_eq_true_eq] at hij
 obtain ⟨rfl,rfl⟩:=hij
 have hz:=of_decide_eq_true hz
 subst hz
 have hcs:=fG hcs
 have hrest:=fG hts
 subst hrest
 obtain ⟨hc,hdc⟩:=List.getElem?_eq_some_iff.1 hdc
 have hlen:cs.length=ds.length:=by have:=congrArg List.length hcs;simpa using this.symm
 have hds:∀ i (hi:i<ds.length),i≠c→ds[i] = .p (cs[i]'(by omega)):=fun i hi hne=>by
  have h1:(ds.set c (.p (.sl false rows)))[i]'(by simpa using hi)=(cs.map D.p)[i]'(by simp;omega):=by simp only[hcs]
  rw[List.getElem_set_ne (by omega),List.getElem_map] at h1
  exact h1
 have hcc:cs[c]'(by omega) = .sl false rows:=by
  have h1:(ds.set c (.p (.sl false rows)))[c]'(by simpa using hc)=(cs.map D.p)[c]'(by simp;omega):=by simp only[hcs]
  rw[List.getElem_set_self,List.getElem_map] at h1
  exact (D.p.inj h1).symm
 obtain ⟨l,hl,hL,o,ho,hbx⟩:=hI.loc hσ (fun ro z e=>by cases e)
 obtain ⟨l1,hl1,hbo1⟩:=hI.boxes k' _ hσ'
 have hkk:kk≠k':=fun e=>by subst e;rw[hσ] at hσ';cases hσ'
 have hbl:0<l1.L+l1.C→l.bJ≠l1.bJ:=fun h1 e=>hkk (hI.inj kk k' _ _ l l1 hσ hσ' hl hl1 hL h1 e)
 let row':List D:=(cs.map D.p).set c (.own 1)
 let ρ':Nat→Option Loc:=bY (bY (fun _=>none) 0 (some l)) 1 (some l1)
 let σ':Nat→Option bB:=bY (bY (fun _=>none) 0 (some (.rows true [row']))) 1 (some (.arr true z' rows))
 let cx':Cx:=⟨cx.P,fun b=>bL cx ρ σ b∧b≠l.bJ∧(0<l1.L+l1.C→b≠l1.bJ),w,ρ',σ',w,[]⟩
 have r0:ρ' 0=some l:=rfl
 have r1:ρ' 1=some l1:=rfl
 have s0:σ' 0=some (.rows true [row']):=rfl
 have s1:σ' 1=some (.arr true z' rows):=rfl
 have zr:∀ {i y},ρ' i=some y→(i=0∧y=l)∨(i=1∧y=l1):=fun {i y} h=>by
  by_cases e:i=1
  ·subst e;rw[r1] at h;cases h;exact .inr ⟨rfl,rfl⟩
  ·by_cases e0:i=0
   ·subst e0;rw[r0] at h;cases h;exact .inl ⟨rfl,rfl⟩
   ·simp only[ρ',bK _ _ e,bK _ _ e0] at h;cases h
 have zs:∀ {i y},σ' i=some y→(i=0∧y = .rows true [row'])∨(i=1∧y = .arr true z' rows):=fun {i y} h=>by
  by_cases e:i=1
  ·subst e;rw[s1] at h;cases h;exact .inr ⟨rfl,rfl⟩
  ·by_cases e0:i=0
   ·subst e0;rw[s0] at h;cases h;exact .inl ⟨rfl,rfl⟩
   ·simp only[σ',bK _ _ e,bK _ _ e0] at h;cases h
 have hOwn:∀ b,bL cx' ρ' σ' b→bL cx ρ σ b:=by
  rintro b (⟨hb,_⟩|⟨k2,l2,x2,h1,h2,h3,h4⟩)
  ·exact hb
  ·rcases zr h2 with ⟨_,rfl⟩|⟨_,rfl⟩
   ·exact .inr ⟨kk,_,_,hσ,hl,h3,h4⟩
   ·exact .inr ⟨k',_,_,hσ',hl1,h3,h4⟩
 have hrl:row'.length=ds.length:=by simp[row',hlen]
 have hbox:dV w (bL cx' ρ' σ') ρ' l o (.rows true [row']):=by
  cases hbx with
  | rows _ rs q hrs hzz hB =>
   cases hrs
   refine .rows _ _ q rfl (fun _ _ _ e=>by cases e) ⟨hB.size,hB.pos,by simp,by simpa using hB.len,by simpa using hB.VU,fun r hr=>?_,fun i j hi hj=>?_,hB.one⟩
   ·rw[List.mem_singleton.1 hr,hrl];exact hB.width ds List.mem_cons_self
   ·have hi0:i=0:=by simpa using hi
    subst hi0
    have hj:j<ds.length:=by rw[←hrl];simpa using hj
    obtain ⟨u,u1,u2⟩:=hB.cell 0 j (by simp) hj
    refine ⟨u,u1,?_⟩
    have u2:Rd w (bL cx ρ σ) ρ ds[j] u:=u2
    show Rd w _ ρ' (row'[j]'(by omega)) u
    by_cases e:j=c
    ·subst e
     have e1:row'[j]'(by omega) = .own 1:=by simp[row']
     rw[hdc] at u2
     rw[e1]
     cases u2 with
     | own _ l2 h1 h2 h3 h4=>rw[hl1] at h1;cases h1;exact .own 1 _ r1 h2 h3 h4
     | c0 _ l2 a h1 h2=>rw[hl1] at h1;cases h1;exact .c0 1 _ a r1 h2
    ·have e1:row'[j]'(by omega) = .p (cs[j]'(by omega)):=by
      simp only[row']
      rw[List.getElem_set_ne (by omega),List.getElem_map]
     rw[hds j hj e] at u2
     rw[e1]
     cases u2 with
     | p _ _ u2=>exact .p _ _ (u2.less hOwn)
 have hbox1:fF w (bL cx' ρ' σ') ρ' l1 (.arr true z' rows):=by
  refine ⟨fun h0=>?_,fun h0=>?_⟩
  ·obtain ⟨o1,p1,p2⟩:=hbo1.1 h0
   refine ⟨o1,p1,?_⟩
   cases p2 with
   | rows _ rs q hrs hzz hB =>
    cases hrs
    refine .rows _ _ q rfl (fun ro z rows' e=>by cases e;exact hzz _ _ _ rfl) ⟨hB.size,hB.pos,hB.small,hB.len,hB.VU,hB.width,fun i j hi hj=>?_,hB.one⟩
    obtain ⟨u,u1,u2⟩:=hB.cell i j hi hj
    refine ⟨u,u1,?_⟩
    obtain ⟨t,ht⟩:=KZ hi hj
    rw[ht] at u2 ⊢
    cases u2 with
    | p _ _ u2=>exact .p _ _ (u2.less hOwn)
  ·obtain ⟨_,_,e⟩:=hbo1.2 h0
   cases e
   exact ⟨_,_,rfl⟩
 have hI':Inv cx' ρ' σ' 2 w:=by
  refine ⟨fun i x hi=>?_,fun k1 k2 x1 x2 l2 l3 h1 h2 h3 h4 q1 q2 qe=>?_,fun i y hi=>?_,fun i x y h1 h2 h3 h4=>?_,B4 (Below.refl _ _),fun b hb=>bL.lt hI hb.1,hG.2,fun a e=>by cases e⟩
  ·rcases zs hi with ⟨rfl,rfl⟩|⟨rfl,rfl⟩
   ·exact ⟨l,r0,fun _=>⟨o,ho,hbox⟩,fun h0=>by omega⟩
   ·exact ⟨l1,r1,hbox1⟩
  ·rcases zr h3 with ⟨rfl,rfl⟩|⟨rfl,rfl⟩
   ·rcases zr h4 with ⟨rfl,rfl⟩|⟨rfl,rfl⟩
    ·rfl
    ·exact absurd qe (hbl q2)
   ·rcases zr h4 with ⟨rfl,rfl⟩|⟨rfl,rfl⟩
    ·exact absurd qe.symm (hbl q1)
    ·rfl
  ·rcases zr hi with ⟨rfl,rfl⟩|⟨rfl,rfl⟩
   ·exact ⟨by omega,fun _=>⟨((hI.new kk _ hl).2 hL).1,fun q=>q.2.1 rfl⟩⟩
   ·exact ⟨by omega,fun h0=>⟨((hI.new k' _ hl1).2 h0).1,fun q=>q.2.2 h0 rfl⟩⟩
  ·rcases zs h1 with ⟨rfl,rfl⟩|⟨rfl,rfl⟩<;>cases h4
 have cellRd:∀ i (hi:i<ds.length),∃ u,Rd w (bL cx ρ σ) ρ ds[i] u:=fun i hi=>by
  cases hbx with
  | rows _ rs q hrs hzz hB =>
   cases hrs
   obtain ⟨u,_,u2⟩:=hB.cell 0 i (by simp) hi
   exact ⟨u,u2⟩
 have hbd:∀ t∈T.agg cs::ts,Bd t:=by
  intro t ht
  rcases List.mem_cons.1 ht with rfl|ht
  ·refine (LQ _).2 fun t ht=>?_
   obtain ⟨i,hi,rfl⟩:=List.mem_iff_getElem.1 ht
   obtain ⟨u,hu⟩:=cellRd i (by omega)
   by_cases e:i=c
   ·subst e
    rw[hdc] at hu
    rw[hcc]
    have hfz:iA σ 4 (.own k')=some (.sl false rows):=by simp[iA,hσ']
    exact (xH (own0:=fun _=>False) hI (fun _ hb=>hb.elim) (fun _ _ h=>h) (fun _ _ _ _ _ _ hb=>hb) 4 hu hfz).bd
   ·rw[hds i (by omega) e] at hu
    cases hu with
    | p _ _ hu=>exact hu.bd
  ·obtain ⟨i,hi,rfl⟩:=List.mem_iff_getElem.1 ht
   have h2:=ha.2 (i+1) (by simpa using hi)
   simp only[List.getElem_cons_succ,List.getElem_map] at h2
   cases h2 with
   | p _ _ h2=>exact h2.bd
 have ha':cZ (Rd w (bL cx' ρ' σ') ρ') (.ptr 0 0 0::ts.map .p) vs:=by
  refine ⟨by simpa using ha.1,fun i hi=>?_⟩
  cases i with
  | zero =>
   have h2:=ha.2 0 (by simp)
   simp only[List.getElem_cons_zero] at h2 ⊢
   generalize vs.getD 0 undef=v at h2 ⊢
   cases h2 with
   | ptr _ _ _ l' hl' =>
    rw[hl] at hl';cases hl'
    exact .ptr 0 0 0 _ r0
  | succ i =>
   have h2:=ha.2 (i+1) (by simpa using hi)
   simp only[List.getElem_cons_succ,List.getElem_map] at h2 ⊢
   cases h2 with
   | p _ _ h2=>exact .p _ _ (h2.less hOwn)
 have hs:=h _ _ hg hbd
 unfold AKZ at hs
 rw[hf] at hs
 dsimp only at hs
 have hst:stR c z' cs ts=some (GK (.ptr 0 0 0::ts.map .p) σ' 2):=by
  unfold stR
  rw[List.getElem?_eq_getElem (by omega:c<cs.length),hcc]
 rw[hst] at hs
 split at hs
 case h_2=>exact hs.elim
 rename_i c' st0 he hlen2 hst0
 rw[hb] at he
 cases he
 cases hst0
 refine calls_of_wp hf hb ?_
 have hr:Rel cx' fn.ntmps ρ' (GK (.ptr 0 0 0::ts.map .p) σ' 2) { tmps:=vs++Array.replicate (fn.ntmps-vs.size) undef,defers:=[] } w:=wB hI' (bO.refl _ _ _ _) hG ha' (by simpa using hlen2)
 refine wp_mono (oS hE hm hh (lU hE hm hn hh k) cd cx' rfl _ _ hs ρ' _ w hr) ?_
 rintro e a' w' ⟨st',ρ'',hr',hq,_⟩
 unfold A7F at hq
 split at hq
 case h_2=>exact hq.elim
 rename_i r' hex hres
 subst hq
 have hown:∀ b,bL cx ρ σ b→bL cx' ρ'' st'.σ b:=by
  intro b hb
  by_cases e:b=l.bJ
  ·subst e
   obtain ⟨x',q1,_⟩:=hr'.keeps.ro 0 _ s0 rfl
   exact .inr ⟨0,l,x',q1,hr'.keeps.loc 0 l r0,hL,rfl⟩
  ·by_cases e1:0<l1.L+l1.C∧b=l1.bJ
   ·obtain ⟨h0,rfl⟩:=e1
    obtain ⟨x',q1,_⟩:=hr'.keeps.ro 1 _ s1 rfl
    exact .inr ⟨1,l1,x',q1,hr'.keeps.loc 1 l1 r1,h0,rfl⟩
   ·exact .inl ⟨hb,e,fun h0 h1=>e1 ⟨h0,h1⟩⟩
 obtain ⟨v,h1,h2⟩:=PG (own0:=bL cx ρ σ) hr' rfl hown (fun b hb=>bL.lt hI hb) hres
 rcases iY hex with rfl|rfl
 ·exact ⟨hr'.defers,v,h1,v,rfl,h2,hr'.inv.below.toB⟩
 ·exact ⟨hr'.defers,v,h1,v,rfl,h2,hr'.inv.below.toB⟩
theorem AZJ (hE:aT P E) (hm:P.follows .mixedOrders=true) (hn:cE P=true) (hh:eH E) (k:Nat) {f:FuncId} {s:Sh} {sp:Sh.den s→Option T} (hex:∃ fn c,P.funcs[f]? = some fn∧fn.body=some c) (hs:rA s=true)
  (h:∀ x r,sp x=some r→cC s x→A2V bR P E Hs k f (Sh.iH s x) (fun y=>y=r)):AGO P f (gS s sp) :=
 AQZ hE hm hn hh k hex fun args r hg hb=>by
  obtain ⟨x,rfl,hx⟩:=mQ hg
  exact h x r hx (o6 hs hb)
end
end Go.Pv
