/-
  The symbolic executor, part v: functions that turn a record of the caller's own through a pointer.
-/
import Derived.Test.YtlongjgklndggaaGreatDoorVakh
set_option linter.defProp false
set_option linter.unusedSimpArgs false
namespace Go.Pv
open Go Go.RowKit
theorem Inv.SX {cx:Cx} {ρ:Nat→Option Loc} {σ:Nat→Option aD} {n n' k:Nat} {w w':World} (h:Inv cx ρ σ n w) (hn:n≤n') {x₀:aD} {l:Loc} (hk:σ k=some x₀) (hl:ρ k=some l) (hL:0<l.L+l.C) (hw:bZ x₀=true) (o:Obj) (x:aD)
  (hb:gJ [l.aL] w.heap.size w w') (hat:w'.heap[l.aL]? = some o) (hsh:∀ b y,w.shape? b=some y→w'.shape? b=some y)
  (hx:bE w' (aI cx ρ σ) ρ l o x) :
  Inv cx ρ (aS σ k (some x)) n' w'∧aJ cx ρ ρ σ (aS σ k (some x)) w w':=by
 have hother:∀ b,b<w.heap.size→b≠l.aL→w'.heap[b]? = w.heap[b]? := fun b h1 h2=>hb.block b h1 fun e=>h2 (List.mem_singleton.1 e)
 have hown:∀ b,¬ aI cx ρ σ b→¬ aI cx ρ (aS σ k (some x)) b:=by
  intro b hn hc
  rcases hc with hc|⟨i,l',y,h1,h2,h3,h4⟩
  ·exact hn (.inl hc)
  ·by_cases e:i=k
   ·subst e;exact hn (.inr ⟨i,l',x₀,hk,h2,h3,h4⟩)
   ·rw[aG _ _ e] at h1;exact hn (.inr ⟨i,l',y,h1,h2,h3,h4⟩)
 have hmine:aI cx ρ σ l.aL:=.inr ⟨k,l,x₀,hk,hl,hL,rfl⟩
 have hc:∀ b,¬ aI cx ρ σ b→b<w.heap.size→w'.heap[b]? = w.heap[b]? := fun b hn hlt=>hother b hlt fun e=>hn (e ▸ hmine)
 have hz:w.heap.size≤w'.heap.size:=hb.size
 have hlow:=h.below.size
 refine ⟨⟨fun i y hi=>?_,fun i i' y y' m m' h1 h2 h3 h4 hL hL' he=>?_,fun i m hm=>?_,fun i y m hi hm hLm hwy=>?_,?_,h.dX,h.low⟩,⟨hc,hz,fun b _=>hown b,fun _ _ h=>h,hsh,fun i y hi hy=>⟨y,by rw[aG _ _ (fun e=>by subst e;rw[hk] at hi;cases hi;rw[hw] at hy;cases hy)];exact hi,hy⟩⟩⟩
 ·by_cases e:i=k
  ·subst e
   simp at hi
   subst hi
   exact ⟨l,hl,fun _=>⟨o,hat,hx.mono (fun _ _ _=>rfl) (Nat.le_refl _) (fun b _=>hown b) (fun _ _ h=>h)⟩,fun h0=>by omega⟩
  ·rw[aG _ _ e] at hi
   obtain ⟨m,hm,h1⟩:=h.boxes i y hi
   refine ⟨m,hm,h1.mono hc hz (fun b _=>hown b) (fun _ _ h=>h) fun hLm=>hother _ ((h.new i m hm).2 hLm).1 fun eq=>e (h.inj i k y x₀ m l hi hk hm hl hLm hL eq)⟩
 ·have ex:∀ i y,aS σ k (some x) i=some y→∃ z,σ i=some z:=fun i y hi=>by
   by_cases e:i=k
   ·subst e;exact ⟨x₀,hk⟩
   ·rw[aG _ _ e] at hi;exact ⟨y,hi⟩
  obtain ⟨z,hz⟩:=ex _ _ h1
  obtain ⟨z',hz'⟩:=ex _ _ h2
  exact h.inj i i' z z' m m' hz hz' h3 h4 hL hL' he
 ·have h1:=h.new i m hm
  exact ⟨by omega,fun hL=>⟨by have:=(h1.2 hL).1;omega,(h1.2 hL).2⟩⟩
 ·by_cases e:i=k
  ·subst e
   rw[hl] at hm;cases hm
   exact h.fP i x₀ l hk hl hL hw
  ·rw[aG _ _ e] at hi
   exact h.fP i y m hi hm hLm hwy
 ·refine h.below.trans ⟨hb.os,hb.tape,hb.output,hz,fun b hb ha=>hother b (by omega) ?_⟩
  rcases h.fP k x₀ l hk hl hL hw with h1|h1
  ·omega
  ·intro e;subst e;exact ha h1
def SU (P:Program) (rs:Array ResultVar) (st:St):Option (List T×List T) :=
 match st.σ 0,nN P st rs.toList with
 | some (.rows false [ds]),some rs=>match DC (aS (LY st.σ) 0 none) ds,DC (aS (LY st.σ) 0 none) rs with
  | some cs,some ts=>some (cs,ts)
  | _,_=>none
 | _,_=>none
theorem PU {cx:Cx} {nt:Nat} {ρ:Nat→Option Loc} {st:St} {a:Act} {w:World} {own0:Nat→Prop} (hr:Rel cx nt ρ st a w) {l₀:Loc} (hl₀:ρ 0=some l₀) (hp:0<l₀.L+l₀.C) (hx:cx.arg=[l₀.aL]) (h0:∀ b,own0 b→aI cx ρ st.σ b) (h1:∀ b,own0 b→b<cx.w0.heap.size)
  {fn:Func} {cs ts:List T} (h:SU cx.P fn.results st=some (cs,ts)) :
  ∃ v,(results fn a.tmps).run cx.P w = .ok v w∧aY w own0 (rN ts) v∧∃ ds,st.σ 0=some (.rows false [ds])∧cs.length=ds.length∧∀ i (hi:i<ds.length) (hi':i<cs.length) u,Rd w (aI cx ρ st.σ) ρ ds[i] u→aY w own0 cs[i] u:=by
 unfold SU at h
 split at h
 case h_2=>cases h
 rename_i ds rs hσ hd
 split at h
 case h_2=>cases h
 rename_i cs' t' hcs ht
 cases h
 have hw:∀ k x,aS (LY st.σ) 0 none k=some x→k≠0∧st.σ k=some x∧bZ x=true:=by
  intro k x hk
  by_cases e:k=0
  ·subst e;simp at hk
  rw[aG _ _ e] at hk
  unfold LY at hk
  split at hk
  ·rename_i y hy
   split at hk
   ·rename_i hw;cases hk;exact ⟨e,hy,hw⟩
   ·cases hk
  ·cases hk
 have fr:∀ {m:Nat} {d:D} {t:T} {v:Value},Rd w (aI cx ρ st.σ) ρ d v→c8 (aS (LY st.σ) 0 none) m d=some t→aY w own0 t v:=fun {m} _ _ _ hd hf =>
  qF hr.inv h0 (fun k x hk=>(hw k x hk).2.1) (fun k x l hk hl hL ho=>by
   obtain ⟨hk0,hk1,hk2⟩:=hw k x hk
   rcases hr.inv.fP k x l hk1 hl hL hk2 with g|g
   ·have:=h1 _ ho
    omega
   ·rw[hx] at g
    exact hk0 (hr.inv.inj k 0 x _ l l₀ hk1 hσ hl hl₀ hL hp (List.mem_singleton.1 g))) m hd hf
 obtain ⟨vs,g1,g2⟩:=gG hr hd
 obtain ⟨ft1,ft2⟩:=iD ht
 have hlen:vs.length=rs.length:=by simpa using g2.1
 have hall:∀ i (hi:i<ts.length),aY w own0 ts[i] (vs.toArray.getD i undef):=fun i hi=>by
  obtain ⟨t,t1,t2⟩:=ft2 i (by omega) hi
  rw[t2]
  exact (fr (g2.2 i (by omega)) t1).canon 4
 have fin:∃ v,(results fn a.tmps).run cx.P w = .ok v w∧aY w own0 (rN ts) v:=by
  by_cases hs:ts.length=1
  ·obtain ⟨t,rfl⟩:=List.length_eq_one_iff.1 hs
   have hv:vs.length=1:=by simp at ft1;omega
   refine ⟨vs.toArray[0]'(by simpa using (by omega:0<vs.length)),?_,?_⟩
   ·rw[cN,Array.mapM_eq_mapM_toList,Sem.run_bind,Sem.run_map,g1]
    simp[hv]
   ·have h3:=hall 0 (by simp)
    have h4:vs.toArray.getD 0 undef=vs.toArray[0]'(by simpa using (by omega:0<vs.length)):=by simp[Array.getD,hv]
    rw[h4] at h3
    exact h3
  ·have hv:¬ vs.length=1:=by omega
   refine ⟨.tuple vs.toArray,?_,?_⟩
   ·rw[cN,Array.mapM_eq_mapM_toList,Sem.run_bind,Sem.run_map,g1]
    simp[hv]
   ·have e:rN ts = .aQ ts:=by
     match ts,hs with
     | [],_=>rfl
     | [_],h=>exact absurd rfl h
     | _::_::_,_=>rfl
    rw[e]
    exact .aQ _ _ (by simp;omega) hall
 obtain ⟨v,v1,v2⟩:=fin
 refine ⟨v,v1,v2,ds,hσ,(iD hcs).1,fun i hi hi' u hu=>?_⟩
 ·obtain ⟨t,t1,t2⟩:=(iD hcs).2 i hi hi'
  rw[t2]
  exact (fr hu t1).canon 4
def VJ (C:dY) (P:Program) (rs:Array ResultVar) (R:T→Prop) (e:Exit) (st:St):Prop:=match fQ e,SU P rs st with
 | true,some (cs,ts)=>R (.aQ (.agg cs::ts))
 | _,_=>C.bad 706
def stM (row:List T) (args:List T):St:=w5 (.ptr 0 0 0::args.map .p) (aS (fun _=>none) 0 (some (.rows false [row.map .p]))) 1
def B3 (C:dY) (P:Program) (E:Env) (Hs:FuncId→Hint) (k:Nat) (f:FuncId) (args:List T) (R:T→Prop):Prop:=match args,P.funcs[f]? with
 | .agg row::args,some fn=>match fn.body,decide (args.length+1≤fn.ntmps) with
  | some cd,true=>sx C P E (GR C P E Hs k) (Hs f) fn.ntmps cd (VJ C P fn.results R) (stM row args)
  | _,_=>C.bad 703
 | _,_=>C.bad 704
section
variable {P : Program} {E : Env} {Hs : FuncId → Hint}
end
end Go.Pv
