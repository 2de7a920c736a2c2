/-
  The symbolic executor, part f: code, and functions.
-/
import Derived.Test.YtlongjgklndggaaGreatDoorVake
set_option linter.defProp false
set_option linter.unusedSimpArgs false
namespace Go.Pv
open Go Go.RowKit
abbrev T5:=FuncId→List D→(Nat→Option aD)→Nat→KN→Prop
abbrev V3:=Option (Sy×Bool×Sy)
section
variable (C : dY) (P : Program) (E : Env) (nt : Nat)
def IJ (dr:Bool) (o:Oper) (st:St):Option (FuncId×List D):=match dr,o.op with
 | false,.call c=>match c.callee with
  | .value f=>match dN (ev (aT true st.s) f) with
   | some (fid,a,b)=>match E fid,a++c.args.toList.map (ev (aT true st.s))++b with
    | none,l=>some (fid,l)
    | some (.R8 _),.p (.v (.pointer none))::l=>some (fid,.p (.v (.pointer none))::l)
    | _,_=>none
   | none=>none
  | _=>none
 | _,_=>none
def OT (σ:Nat→Option aD) (d:D) (K:D→(Nat→Option aD)→Prop):Prop :=
 match d with
 | .it k=>match σ k with
  | some (.fK m since seen last)=>match m with
   | none=>K (.p (.v (.tuple #[.bool false]))) σ
   | some m=>match σ m with
    | some (.map _ es)=>C.nZ (decide (es.length≤since)&&decide (since≤last)) (C.each es.length seen (K (.p (.v (.tuple #[.bool false]))) σ)
      fun i=>K (.aQ [.p (.v (.bool true)),.any,.any]) (aS σ k (some (.fK (some m) since (seen++[i]) es.length))))
    | _=>C.bad 401
  | some (.cB es since seen last)=>C.nZ (decide (es.length≤since)&&decide (since≤last)) (C.each es.length seen (K (.p (.v (.tuple #[.bool false]))) σ)
      fun i=>K (.aQ [.p (.v (.bool true)),.any,.any]) (aS σ k (some (.cB es since (seen++[i]) es.length))))
  | _=>C.bad 402
 | _=>C.bad 403
def S6 (en:V3) (σ:Nat→Option aD) (d:D) (K:D→Prop):Prop :=
 match d,en with
 | .it k,some (kr,ag,r)=>match σ k with
  | some (.fK m _ seen last)=>match m with
   | some m=>match σ m with
    | some (.map _ es)=>C.nZ (decide (es.length=last)) (C.WR kr ag r es seen fun x y=>K (.p (.aQ [.v (KY kr x),a8 ag r y])))
    | _=>C.bad 411
   | none=>C.bad 412
  | some (.cB es _ seen last)=>C.nZ (decide (es.length=last)) (C.WR kr ag r (yP es) seen fun x y=>K (.p (.aQ [.v (KY kr x),a8 ag r y])))
  | _=>C.bad 413
 | _,_=>C.bad 414
def mapOf (dr:Bool) (o:Oper):Option (Bool×Operand):=match dr,o.guard,o.op with
 | false,none,.next it false=>some (true,it)
 | false,none,.entry it=>some (false,it)
 | _,_,_=>none
def NO (I:T5) (en:V3) (dr:Bool) (ops:Array Oper):List Oper→St→(St→Prop)→Prop
 | [],st,K=>K st
 | o::r,st,K=>splitK ops o st fun st =>
  match IJ E dr o st with
  | some (fid,args)=>match cF ops st.s o with
   | some true=>I fid args st.σ st.n fun d σ' n'=>rK C.toCombs nt st o.dst d σ' n' fun st'=>NO I en dr ops r st' K
   | some false=>rK C.toCombs nt st o.dst (.p (.v undef)) st.σ st.n fun st'=>NO I en dr ops r st' K
   | none=>C.bad 203
  | none=>match mapOf dr o with
   | some (true,it)=>OT C st.σ (ev (aT true st.s) it) fun d σ'=>rK C.toCombs nt st o.dst d σ' st.n fun st'=>NO I en dr ops r st' K
   | some (false,it)=>S6 C en st.σ (ev (aT true st.s) it) fun d=>rK C.toCombs nt st o.dst d st.σ (st.n+1) fun st'=>NO I en dr ops r st' K
   | none=>n0 C.toCombs P E nt ops o st fun st'=>NO I en dr ops r st' K
end
def FQ (P:Program) (I:T5):Prop:=∀ (cx:Cx) (ρ:Nat→Option Loc) (σ:Nat→Option aD) (n:Nat) (w:World) (fid:FuncId) (args:List D) (vs:Array Value) (K:KN),cx.P=P→Good P w→Inv cx ρ σ n w→bC (Rd w (aI cx ρ σ) ρ) args vs→I fid args σ n K →
 (∃ fn,P.funcs[fid]? = some fn∧(fn.name == "runtime.NumGoroutine")=false∧fn.body.isNone=false) ∧
 Calls P fid vs w (fun e w'=>∃ v ρ' d σ' n',e = .returned v∧Inv cx ρ' σ' n' w'∧aJ cx ρ ρ' σ σ' w w'∧Rd w' (aI cx ρ' σ') ρ' d v∧jH σ n σ' n'∧K d σ' n')
section
variable {P : Program} {E : Env} {nt : Nat} {ops : Array Oper}
theorem NP (hh:cS E) {I:T5} {en:V3} {A:Nat→Bool} {st₀:St} {K:St→Prop}:∀ (l:List Oper) (st:St),(∀ o∈l,∀ t,o.dst=some t→A t=true)→Fr A st₀ st→NO bP P E nt I en true ops l st K →
  ∃ st',E1 P E nt ops l st=some st'∧Fr A st₀ st'∧K st'
 | [],st,_,hf,h=>⟨st,rfl,hf,h⟩
 | o::l,st,hA,hf,h=>by
  have h:=jG h
  simp only[IJ,mapOf] at h
  obtain ⟨st1,h1,h2⟩:=dF h
  obtain ⟨st2,h3,h4,h5⟩:=NP hh l st1 (fun o ho=>hA o (by simp[ho])) (hf.trans (eI hh h1 (hA o (by simp)))) h2
  exact ⟨st2,by simp only[E1,h1,Option.bind_some,h3],h4,h5⟩
def lF (M:Bool) (C:dY) (P:Program) (E:Env) (nt:Nat) (ops:Array Oper) (base:Nat):List Nat→St→(St→Prop)→Prop
 | [],st,K=>K st
 | j::r,st,K=>match ops[j]? with
  | none=>C.bad 900
  | some o=>splitK ops o st fun st=>match aO M E ops o with
   | .free=>n0 C.toCombs P E nt ops o st fun st'=>lF M C P E nt ops base r st' K
   | .quiet=>n0 C.toCombs P E nt ops o ⟨st.s,lB base st.σ,st.n⟩ fun st'=>lF M C P E nt ops base r ⟨st'.s,st.σ,st.n⟩ K
   | .alloc=>match o.op with
    | .alloc e=>match (tz? P e).bind fun z=>jN (z.cells.toList.map fun v=>.p (.v v)),st.σ (base+j) with
     | some b,none=>rK C.toCombs nt st o.dst (.ptr (base+j) 0 0) (aS st.σ (base+j) (some b)) st.n fun st'=>lF M C P E nt ops base r st' K
     | _,_=>C.bad 901
    | _=>C.bad 901
   | .new=>match o.op with
    | .store t a v=>match ev (aT true st.s) a with
     | .ptr k x y=>match decide (base≤k),eE P st.σ t (.ptr k x y) (ev (aT true st.s) v) with
      | true,some σ'=>rK C.toCombs nt st o.dst (.p (.v undef)) σ' st.n fun st'=>lF M C P E nt ops base r st' K
      | _,_=>C.bad 902
     | _=>C.bad 903
    | _=>C.bad 903
   | .old=>match o.op with
    | .store t a v=>match ev (aT true st.s) a with
     | .ptr k x y=>match eE P st.σ t (.ptr k x y) (ev (aT true st.s) v) with
      | some σ'=>rK C.toCombs nt st o.dst (.p (.v undef)) σ' st.n fun st'=>lF M C P E nt ops base r st' K
      | _=>C.bad 905
     | _=>C.bad 906
    | _=>C.bad 906
   | .ask=>n0 C.toCombs P E nt ops o st fun st'=>lF M C P E nt ops base r st' K
   | .app=>n0 C.toCombs P E nt ops o st fun st'=>lF M C P E nt ops base r st' K
   | .mk=>n0 C.toCombs P E nt ops o st fun st'=>lF M C P E nt ops base r st' K
   | .lG=>n0 C.toCombs P E nt ops o st fun st'=>lF M C P E nt ops base r st' K
theorem zH {P:Program} {σ σ':Nat→Option aD} {t:TypeId} {k x y n:Nat} {v:D} (h:eE P σ t (.ptr k x y) v=some σ'):jH σ n σ' n:=by
 unfold eE at h
 simp only at h
 split at h
 ·rename_i hk hz
  split at h
  ·split at h
   ·cases h;exact jH.set _ (Nat.le_refl _) hk rfl
   ·cases h
  ·cases h
 ·rename_i hk hz
  split at h
  ·split at h
   ·cases h;exact jH.set _ (Nat.le_refl _) hk rfl
   ·cases h
  ·cases h
 ·cases h
theorem M4 {M:Bool} {P:Program} {E:Env} {nt:Nat} {ops:Array Oper} {base j:Nat} {o:Oper} {st st1:St} (hk:aO M E ops o = .app) (h1:b9 P E nt ops o st=some st1):cO M P E nt ops base j o st=some st1:=by
 obtain ⟨c,ho,hc⟩:=DT hk
 unfold b9 at h1
 rw[if_neg (by rw[ho];simp[bL,hc])] at h1
 unfold cO cL
 rw[hk]
 dsimp only
 cases hg:cF ops st.s o with
 | none=>rw[hg] at h1;cases h1
 | some b=>cases b with
  | false=>rw[hg] at h1;exact h1
  | true =>
   rw[hg] at h1
   dsimp only at h1 ⊢
   rw[ho] at h1
   rw[ho]
   unfold nv at h1
   dsimp only at h1 ⊢
   rw[hc] at h1
   split at h1
   ·rename_i d σ' n' hn
    split at hn
    ·rename_i x y t u _ ha hb
     rw[ha,hb]
     dsimp only
     unfold one at hn
     cases hap:c9 P st.σ st.n t u (ev (aT true st.s) x) (ev (aT true st.s) y) with
     | none=>rw[hap] at hn;cases hn
     | some r=>rw[hap] at hn;cases hn;exact h1
    ·rename_i hv;cases hv
    ·rename_i hv _ _;cases hv
    ·cases hn
   ·cases h1
theorem SC {M:Bool} {P:Program} {E:Env} {nt:Nat} {ops:Array Oper} {base j:Nat} {o:Oper} {st st1:St} (hk:aO M E ops o = .mk) (h1:b9 P E nt ops o st=some st1):cO M P E nt ops base j o st=some st1:=by
 unfold b9 at h1
 rw[if_neg (by rw[SB hk];decide)] at h1
 unfold cO cL
 rw[hk]
 dsimp only
 cases hg:cF ops st.s o with
 | none=>rw[hg] at h1;cases h1
 | some b=>cases b with
  | false=>rw[hg] at h1;exact h1
  | true =>
   rw[hg] at h1
   dsimp only at h1 ⊢
   split at h1
   ·rename_i d σ' n' hn
    rw[hn];exact h1
   ·cases h1
theorem KZ {M:Bool} {E:Env} {ops:Array Oper} {o:Oper} (h:aO M E ops o = .lG):bL E o.op=false:=by
 unfold aO at h
 split at h
 ·cases h
 ·cases h
 ·cases h
 ·rename_i h1 h2 h3
  cases hq:bL E o.op with
  | false=>rfl
  | true=>exact absurd hq h3
theorem K3 {M:Bool} {P:Program} {E:Env} {nt:Nat} {ops:Array Oper} {base j:Nat} {o:Oper} {st st1:St} (hk:aO M E ops o = .lG) (h1:b9 P E nt ops o st=some st1) (hn:st.n≤st1.n):cO M P E nt ops base j o st=some st1:=by
 unfold b9 at h1
 rw[if_neg (by rw[KZ hk];decide)] at h1
 unfold cO cL
 rw[hk]
 dsimp only
 cases hg:cF ops st.s o with
 | none=>rw[hg] at h1;cases h1
 | some b=>cases b with
  | false=>rw[hg] at h1;exact h1
  | true =>
   rw[hg] at h1
   dsimp only at h1 ⊢
   split at h1
   ·rename_i d σ' n' hn'
    obtain ⟨l1,rfl⟩:=jE h1
    have hb:Nat.ble st.n n'=true:=Nat.ble_eq_true_of_le hn
    rw[hn']
    dsimp only
    rw[hb]
    exact h1
   ·cases h1
theorem oX {M:Bool} {P:Program} {E:Env} {nt:Nat} {ops:Array Oper} {base:Nat} (hh:cS E) {A:Nat→Bool} {st₀:St} {K:St→Prop} (hA:∀ o∈ops.toList,∀ t,o.dst=some t→A t=true):∀ (l:List Nat) (st:St),Fr A st₀ st→lF M bP P E nt ops base l st K →
  ∃ st',AI M P E nt ops base l st=some st'∧Fr A st₀ st'∧K st'
 | [],st,hf,h=>⟨st,rfl,hf,h⟩
 | j::l,st,hf,h=>by
  unfold lF at h
  split at h
  ·exact h.elim
  ·rename_i o h0
   have h:=jG h
   have hA0:=hA o (by rw[Array.mem_toList_iff];exact Array.mem_of_getElem? h0)
   have go:∀ {st1:St},cO M P E nt ops base j o st=some st1→Fr A st st1→lF M bP P E nt ops base l st1 K→∃ st',AI M P E nt ops base (j::l) st=some st'∧Fr A st₀ st'∧K st':=by
    intro st1 h1 hf1 h2
    obtain ⟨st2,h3,h4,h5⟩:=oX hh hA l st1 (hf.trans hf1) h2
    exact ⟨st2,by simp only[AI,h0,h1,Option.bind_some,h3],h4,h5⟩
   split at h
   ·rename_i hk
    obtain ⟨st1,h1,h2⟩:=dF h
    refine go ?_ (eI hh h1 hA0) h2
    unfold b9 at h1
    rw[if_pos (gR (rF hk))] at h1
    unfold cO
    rw[gY hk]
    split at h1
    ·rename_i d hd
     rw[hd]
     exact h1
    ·cases h1
   ·rename_i hk
    obtain ⟨st1,h1,h2⟩:=dF h
    unfold b9 at h1
    rw[if_pos (A9 (kP hk))] at h1
    simp only at h1
    split at h1
    ·rename_i d hd
     obtain ⟨l1,rfl⟩:=jE h1
     have hp:iV nt st o.dst d st.σ st.n=some ⟨iW st.s o.dst d,st.σ,st.n⟩:=kT l1
     refine go (st1:=⟨iW st.s o.dst d,st.σ,st.n⟩) ?_ (fV hp hA0 ⟨Nat.le_refl _,fun _ _ _ h _=>h⟩) h2
     unfold cO
     rw[eN hk,hd]
     exact hp
    ·cases h1
   ·rename_i hk
    split at h
    ·rename_i e ho
     split at h
     ·rename_i b hb hσ
      obtain ⟨st1,h1,h2⟩:=c6 h
      refine go ?_ (fV h1 hA0 ⟨Nat.le_refl _,fun k x hk hx hw=>?_⟩) h2
      ·unfold cO cL
       rw[hk]
       simp only[ho,hb]
       exact h1
      ·rw[aG _ _ (fun e=>by subst e;rw[hσ] at hx;cases hx)];exact hx
     ·exact h.elim
    ·exact h.elim
   ·rename_i hk
    split at h
    ·rename_i t a v ho
     split at h
     ·rename_i k x y hev
      split at h
      ·rename_i σ' hb hst
       obtain ⟨st1,h1,h2⟩:=c6 h
       refine go ?_ (fV h1 hA0 (zH hst)) h2
       unfold cO cL
       rw[hk]
       simp only[ho,hev,hb,hst]
       exact h1
      ·exact h.elim
     ·exact h.elim
    ·exact h.elim
   ·rename_i hk
    split at h
    ·rename_i t a v ho
     split at h
     ·rename_i k x y hev
      split at h
      ·rename_i σ' hst
       obtain ⟨st1,h1,h2⟩:=c6 h
       refine go ?_ (fV h1 hA0 (zH hst)) h2
       unfold cO cL
       rw[hk]
       simp only[ho,hev,hst]
       exact h1
      ·exact h.elim
     ·exact h.elim
    ·exact h.elim
   ·rename_i hk
    obtain ⟨st1,h1,h2⟩:=dF h
    refine go ?_ (eI hh h1 hA0) h2
    unfold b9 at h1
    rw[if_pos (N9 hk)] at h1
    unfold cO
    rw[oU hk]
    split at h1
    ·rename_i d hd
     rw[hd]
     exact h1
    ·cases h1
   ·rename_i hk
    obtain ⟨st1,h1,h2⟩:=dF h
    exact go (M4 hk h1) (eI hh h1 hA0) h2
   ·rename_i hk
    obtain ⟨st1,h1,h2⟩:=dF h
    exact go (SC hk h1) (eI hh h1 hA0) h2
   ·rename_i hk
    obtain ⟨st1,h1,h2⟩:=dF h
    have hf1:=eI hh h1 hA0
    exact go (K3 hk h1 hf1.b.1) hf1 h2
def Q7 (C:dY) (g:Nat→Prop):List Nat→Prop
 | []=>C.bad 508
 | [i]=>g i
 | i::j::l=>C.both (g i) (Q7 C g (j::l))
def anyS (C:dY) (P:Program) (E:Env) (nt:Nat) (ops:Array Oper) (K:St→Prop):Nat→Array Bool→St→Prop
 | 0,listed,st=>match Region.ready .any ops listed with
  | []=>K st
  | _=>C.bad 507
 | f+1,listed,st=>match Region.ready .any ops listed with
  | []=>K st
  | i::l=>Q7 C (fun i=>match ops[i]? with
   | none=>C.bad 509
   | some o=>splitK ops o st fun st=>n0 C.toCombs P E nt ops o st fun st'=>anyS C P E nt ops K f (listed.setIfInBounds i true) st') (i::l)
theorem tX {g:Nat→Prop}:∀ {l:List Nat},Q7 bP g l→∀ i∈l,g i
 | [],h,_,_=>h.elim
 | [a],h,i,hi=>by
  cases List.mem_singleton.1 hi
  exact h
 | a::j::l,h,i,hi=>by
  obtain ⟨h1,h2⟩:=h
  rcases List.mem_cons.1 hi with rfl|hi
  ·exact h1
  ·exact tX (l:=j::l) h2 i hi
theorem CE {P:Program} {E:Env} {nt:Nat} {ops:Array Oper} (hh:cS E) {A:Nat→Bool} {st₀:St} {K:St→Prop} (hA:∀ o∈ops.toList,∀ t,o.dst=some t→A t=true):∀ (f:Nat) (listed:Array Bool) (st:St),Fr A st₀ st→anyS bP P E nt ops K f listed st →
  w7 P E nt ops (fun st'=>Fr A st₀ st'∧K st') f listed st
 | 0,listed,st,hf,h=>by
  unfold anyS at h
  split at h
  ·rename_i h0;exact ⟨h0,hf,h⟩
  ·exact h.elim
 | f+1,listed,st,hf,h=>by
  unfold anyS at h
  split at h
  ·rename_i h0
   exact ⟨fun _=>⟨hf,h⟩,fun i hi=>by rw[h0] at hi;cases hi⟩
  ·rename_i i0 l h0
   refine ⟨fun h1=>(by rw[h0] at h1;cases h1),fun i hi=>?_⟩
   rw[h0] at hi
   have h2:=tX h i hi
   split at h2
   ·exact h2.elim
   ·rename_i o ho
    have hA0:=hA o (by rw[Array.mem_toList_iff];exact Array.mem_of_getElem? ho)
    obtain ⟨st1,h3,h4⟩:=dF (jG h2)
    exact ⟨o,st1,ho,h3,CE hh hA f _ st1 (hf.trans (eI hh h3 hA0)) h4⟩
theorem xT {P:Program} {E:Env} {nt:Nat} {ops:Array Oper} {Q Q':St→Prop} (hQ:∀ s,Q s→Q' s):∀ {f:Nat} {listed:Array Bool} {st:St},w7 P E nt ops Q f listed st→w7 P E nt ops Q' f listed st
 | 0,_,_,h=>⟨h.1,hQ _ h.2⟩
 | _+1,_,_,h=>⟨fun h0=>hQ _ (h.1 h0),fun i hi=>by
  obtain ⟨o,st',h1,h2,h3⟩:=h.2 i hi
  exact ⟨o,st',h1,h2,xT hQ h3⟩⟩
theorem TO {cx:Cx} {E:Env} {nt:Nat} {ops:Array Oper} (hE:aM cx.P E) (hm:cx.P.follows .mixedOrders=true) {id:Nat} {Q:Exit→St→Prop} {st:St} (h:w7 cx.P E nt ops (fun s=>Q .normal s) ops.size (Array.replicate ops.size false) st):AW cx nt (.region id ops true) Q st:=by
 intro ρ a w hr
 refine wp_region_any hm ?_
 have hd:Below w.heap.size w w.drew:=(Below.refl _ _).drew
 have hr':Rel cx nt ρ st a w.drew:=⟨hr.inv.grow hd (Nat.le_refl _),hr.nt,hr.defers,hr.keeps.trans' (aJ.cX hd),hr.iS.below hd,fun i=>(hr.fH i).grow hd⟩
 exact tE (Q:=fun s=>Q .normal s) (Q':=jI cx nt Q) hE (fun s ρ a w hs hr=>⟨s,ρ,hr,hs⟩) ops.size (Array.replicate ops.size false) st ρ a w.drew hr' h
def RL (M:Bool) (E:Env) (ops:Array Oper) (ms:List Nat) (listed:Array Bool) (k:Nat):Bool:=(List.range ops.size).all fun j=>decide (j=k)||listed.getD j true||yV M E ops ms k j
def uB (M:Bool) (C:dY) (P:Program) (E:Env) (nt:Nat) (ops:Array Oper) (base:Nat) (ms:List Nat) (K:St→Prop):Nat→Array Bool→St→Prop
 | 0,listed,st=>match Region.ready .any ops listed with
  | []=>K st
  | _=>C.bad 511
 | f+1,listed,st=>match Region.ready .any ops listed with
  | []=>K st
  | i::l=>match (i::l).find? (RL M E ops ms listed) with
   | some k=>lF M C P E nt ops base [k] st fun st'=>uB M C P E nt ops base ms K f (listed.setIfInBounds k true) st'
   | none=>Q7 C (fun k=>lF M C P E nt ops base [k] st fun st'=>uB M C P E nt ops base ms K f (listed.setIfInBounds k true) st') (i::l)
theorem RJ {M:Bool} {P:Program} {E:Env} {nt:Nat} {ops:Array Oper} {base k:Nat} {st st':St} (h:AI M P E nt ops base [k] st=some st'):∃ o,ops[k]? = some o∧cO M P E nt ops base k o st=some st':=by
 simp only[AI] at h
 split at h
 ·rename_i o h0
  simp only[Option.bind_eq_some_iff] at h
  obtain ⟨st1,h1,h2⟩:=h
  cases h2
  exact ⟨o,h0,h1⟩
 ·cases h
theorem xV {M:Bool} {P:Program} {E:Env} {nt:Nat} {ops:Array Oper} {base:Nat} {ms:List Nat} (hms:∀ j i,(ms.getD j 0).testBit i=true→Reach ops j i) (hh:cS E) {A:Nat→Bool} {st₀:St} {K:St→Prop} (hA:∀ o∈ops.toList,∀ t,o.dst=some t→A t=true) :
  ∀ (f:Nat) (listed:Array Bool) (st:St),hO ops listed→base≤st.n→Fr A st₀ st→uB M bP P E nt ops base ms K f listed st→w8 M P E nt ops base (fun st'=>Fr A st₀ st'∧K st') f listed st
 | 0,listed,st,_,_,hf,h=>by
  unfold uB at h
  split at h
  ·rename_i h0;exact ⟨h0,hf,h⟩
  ·exact h.elim
 | f+1,listed,st,hc,hb,hf,h=>by
  have one:∀ {k:Nat},k∈Region.ready .any ops listed→(lF M bP P E nt ops base [k] st fun st'=>uB M bP P E nt ops base ms K f (listed.setIfInBounds k true) st')→∃ o st',ops[k]? = some o∧cO M P E nt ops base k o st=some st'∧w8 M P E nt ops base (fun st'=>Fr A st₀ st'∧K st') f (listed.setIfInBounds k true) st':=by
   intro k hk h
   obtain ⟨st1,h1,h2,h3⟩:=oX hh hA [k] st (Fr.refl _ _) h
   obtain ⟨o,h0,h1⟩:=RJ h1
   exact ⟨o,st1,h0,h1,xV hms hh hA f _ st1 (dC hc hk) (Nat.le_trans hb (kX h1)) (hf.trans h2) h3⟩
  unfold uB at h
  split at h
  ·rename_i h0
   exact ⟨fun _=>⟨hf,h⟩,fun i hi=>by rw[h0] at hi;cases hi⟩
  ·rename_i i0 l h0
   split at h
   ·rename_i k hk
    have hr:k∈Region.ready .any ops listed:=by rw[h0];exact List.mem_of_find?_eq_some hk
    obtain ⟨o,st1,ho,h1,h2⟩:=one hr h
    have hfst:=List.find?_some hk
    refine tZ ho f listed st st1 hc hb (fun j oj hoj hjk hun=>?_) hr h1 h2
    have hjs:j<ops.size:=(Array.getElem?_eq_some_iff.1 hoj).1
    have:=List.all_eq_true.1 hfst j (by simpa using hjs)
    simp only[Bool.or_eq_true,decide_eq_true_eq] at this
    rcases this with (hle|hl)|hp
    ·exact absurd hle hjk
    ·rw[hun] at hl;cases hl
    ·unfold yV at hp
     simp only[Bool.or_eq_true] at hp
     rcases hp with hp|hp
     ·exact .inl (hms j k hp)
     ·rw[ho,hoj] at hp
      simp only[Bool.and_eq_true] at hp
      exact .inr ⟨hp.2,hp.1⟩
   ·refine ⟨fun h1=>(by rw[h0] at h1;cases h1),fun i hi=>?_⟩
    have hi':=hi
    rw[h0] at hi'
    exact one hi (tX h i hi')
theorem xU {M:Bool} {P:Program} {E:Env} {nt:Nat} {ops:Array Oper} {base:Nat} {Q Q':St→Prop} (hQ:∀ s,Q s→Q' s):∀ {f:Nat} {listed:Array Bool} {st:St},w8 M P E nt ops base Q f listed st→w8 M P E nt ops base Q' f listed st
 | 0,_,_,h=>⟨h.1,hQ _ h.2⟩
 | _+1,_,_,h=>⟨fun h0=>hQ _ (h.1 h0),fun i hi=>by
  obtain ⟨o,st',h1,h2,h3⟩:=h.2 i hi
  exact ⟨o,st',h1,h2,xU hQ h3⟩⟩
theorem LZ {M:Bool} {cx:Cx} {E:Env} {nt:Nat} {ops:Array Oper} (hE:aM cx.P E) (hm:cx.P.follows .mixedOrders=true) {id:Nat} {Q:Exit→St→Prop} {st:St} (hmx:K8 M E ops=true) (h:w8 M cx.P E nt ops st.n (fun s=>Q .normal s) ops.size (Array.replicate ops.size false) (cD ops st)):AW cx nt (.region id ops true) Q st:=by
 intro ρ a w hr
 refine wp_region_any hm ?_
 have hd:Below w.heap.size w w.drew:=(Below.refl _ _).drew
 have hr':Rel cx nt ρ (cD ops st) a w.drew:=⟨hr.inv.grow hd (Nat.le_add_right _ _),hr.nt,hr.defers,hr.keeps.trans' (aJ.cX hd),hr.iS.below hd,fun i=>(hr.fH i).grow hd⟩
 have hρ0:∀ k,st.n≤k→ρ k=none:=fun k hk=>by
  cases hx:ρ k with
  | none=>rfl
  | some l=>have:=(hr.inv.new k l hx).1;omega
 exact tF hmx (Q:=fun s=>Q .normal s) (Q':=jI cx nt Q) hE (fun s ρ a w hs hr=>⟨s,ρ,hr,hs⟩) ops.size (Array.replicate ops.size false) (cD ops st) ρ a w.drew hr' (by simp) (Nat.le_refl _) (fun _ i hi _ _=>hρ0 _ (by omega)) h
theorem GS {dr:Bool} {o:Oper} {st:St} {fid:FuncId} {args:List D} (h:IJ E dr o st=some (fid,args)):∃ c f a b,o.op = .call c∧c.callee = .value f∧dN (ev (aT true st.s) f)=some (fid,a,b)∧args=a++c.args.toList.map (ev (aT true st.s))++b:=by
 unfold IJ at h
 split at h
 ·rename_i c hc
  split at h
  ·rename_i f hf
   split at h
   ·rename_i fid' a b hcal
    split at h
    ·cases h;exact ⟨c,f,a,b,hc,hf,hcal,rfl⟩
    ·rename_i hl;cases h;exact ⟨c,f,a,b,hc,hf,hcal,hl.symm⟩
    ·cases h
   ·cases h
  ·cases h
 ·cases h
theorem vS {dr b:Bool} {o:Oper} {it:Operand} (h:mapOf dr o=some (b,it)):o.guard=none∧((b=true∧o.op = .next it false)∨(b=false∧o.op = .entry it)):=by
 unfold mapOf at h
 split at h
 ·rename_i hg ho;cases h;exact ⟨hg,.inl ⟨rfl,ho⟩⟩
 ·rename_i hg ho;cases h;exact ⟨hg,.inr ⟨rfl,ho⟩⟩
 ·cases h
end
section
variable {cx : Cx} {E : Env} {nt : Nat} {ops : Array Oper}
theorem lP (hE:aM cx.P E) (hh:cS E) {I:T5} (hI:FQ cx.P I) {en:V3} {A:Nat→Bool} {st₀:St} {K:St→Prop} {Q:Exit→Act→World→Prop} (hQ:∀ st' ρ a w,Rel cx nt ρ st' a w→Fr A st₀ st'→K st'→Q .normal a w) :
  ∀ (l:List Oper) (k:Nat) (st:St) (ρ:Nat→Option Loc) (a:Act) (w:World),(∀ j,l[j]? = ops[k+j]?)→(∀ o∈l,∀ t,o.dst=some t→A t=true)→Fr A st₀ st→Rel cx nt ρ st a w →
  NO bP cx.P E nt I en false ops l st K→wpOps cx.P ops Q (List.range' k l.length) a w
 | [],_,st,ρ,a,w,_,_,hf,hr,h=>by
  simpa [wpOps] using hQ st ρ a w hr hf h
 | o::l,k,st,ρ,a,w,hl,hA,hf,hr,h=>by
  have h:=jG h
  have h0:ops[k]? = some o:=by simpa using (hl 0).symm
  simp only[List.length_cons,List.range'_succ,wpOps_cons]
  unfold wpOp
  simp only[h0]
  have hl':∀ j,l[j]? = ops[k+1+j]? := fun j=>by have:=hl (j+1);simpa [Nat.add_assoc,Nat.add_comm 1 j] using this
  have hA':∀ o∈l,∀ t,o.dst=some t→A t=true:=fun o ho=>hA o (by simp[ho])
  have hA0:=hA o (by simp)
  have key:if Region.wanted o (yielded ops a.tmps) then o.wp cx.P a w (wpOps cx.P ops Q (List.range' (k+1) l.length)) Q else wpOps cx.P ops Q (List.range' (k+1) l.length) (a.put o.dst undef) w:=by
   split at h
   ·rename_i fid args hin
    obtain ⟨c,f,a1,b1,hop,hcal,hd,rfl⟩:=GS hin
    split at h
    ·rename_i hg
     rw[bU hr hg]
     simp only[if_true]
     obtain ⟨va,vb,hfv,e1,e2⟩:=pY (hr.IF f) hd
     have hargs:bC (Rd w (aI cx ρ st.σ) ρ) (a1++c.args.toList.map (ev (aT true st.s))++b1) (va++c.args.map a.eval++vb):=(e1.append (S7 hr.IF c.args)).append e2
     obtain ⟨⟨fn,f1,f2,f3⟩,hc⟩:=hI cx ρ st.σ st.n w fid _ _ _ rfl hr.iS hr.inv hargs h
     unfold Oper.wp
     have he:(execOp a.eval o).run cx.P w = .ok (.enter fid (va++c.args.map a.eval++vb)) w:=by
      have e2':¬ fn.name = "runtime.NumGoroutine" := by simpa using f2
      have e3':¬ fn.body=none:=by intro h;simp[h] at f3
      simp[execOp,hop,resolve,hcal,hfv,Deferred.ofValue,invoke,callFunc,f1,e2',e3']
     rw[he]
     refine hc.mono ?_
     rintro e w' ⟨v,ρ',d,σ',n',rfl,g1,g2,g3,g4,g5⟩
     obtain ⟨st',p1,p2⟩:=c6 g5
     exact lP hE hh hI hQ l (k+1) st' ρ' _ w' hl' hA' (hf.trans (fV p1 hA0 g4)) (bW hr p1 g1 g2 g3) p2
    ·rename_i hg
     rw[bU hr hg]
     simp only[Bool.false_eq_true,if_false]
     obtain ⟨st',p1,p2⟩:=c6 h
     exact lP hE hh hI hQ l (k+1) st' ρ _ w hl' hA' (hf.trans (fV p1 hA0 (jH.refl _ _))) (bW hr p1 hr.inv (aJ.refl _ _ _ _) (.p _ _ (.v _))) p2
    ·exact h.elim
   ·split at h
    ·rename_i it hmo
     obtain ⟨hg,hop⟩:=vS hmo
     have hop:o.op = .next it false:=by rcases hop with ⟨_,h⟩|⟨h,_⟩;exact h;cases h
     have hw:Region.wanted o (yielded ops a.tmps)=true:=by simp[Region.wanted,hg]
     simp only[hw,if_true]
     have fin:∀ outs,nW st.σ (ev (aT true st.s) it)=some outs→(∀ d σ',(d,σ')∈outs→∃ d',(∀ w own ρ v,Rd w own ρ d v→Rd w own ρ d' v)∧jH st.σ st.n σ' st.n∧rK bP.toCombs nt st o.dst d' σ' st.n fun st'=>NO bP cx.P E nt I en false ops l st' K) →
       o.wp cx.P a w (wpOps cx.P ops Q (List.range' (k+1) l.length)) Q:=by
      intro outs ho hall
      obtain ⟨v,w',d,σ',hrun,hmem,hinv,hkeep,hrd⟩:=D4 hr ho (ty:=o.type)
      obtain ⟨d',g1,g2,g3⟩:=hall d σ' hmem
      obtain ⟨st',p1,p2⟩:=c6 g3
      unfold Oper.wp
      have hx:(execOp a.eval o).run cx.P w = .ok (.value v) w':=by
       simp only[execOp,hop,Sem.run_bind,hrun,Result.andThen_ok,Sem.run_pure]
      rw[hx]
      exact lP hE hh hI hQ l (k+1) st' ρ _ w' hl' hA' (hf.trans (fV p1 hA0 g2)) (bW hr p1 hinv hkeep (g1 _ _ _ _ hrd)) p2
     unfold OT at h
     split at h
     ·rename_i kk hk
      split at h
      ·rename_i m since seen last hσ
       split at h
       ·refine fin [(.p (.v (.tuple #[.bool false])),st.σ)] (by simp only[nW,hk,hσ]) fun d σ' hm=>?_
        cases List.mem_singleton.1 hm
        exact ⟨_,fun _ _ _ _ h=>h,jH.refl _ _,h⟩
       ·rename_i m
        split at h
        ·rename_i ro es hm
         obtain ⟨hb,hA1,hB1⟩:=h
         simp only[Bool.and_eq_true,decide_eq_true_eq] at hb
         cases hleft:cP es.length seen with
         | nil =>
          refine fin [(.p (.v (.tuple #[.bool false])),st.σ)] ?_ fun d σ' hm=>?_
          ·simp only[nW,hk,hσ,hm]
           rw[if_pos hb,hleft]
          ·cases List.mem_singleton.1 hm
           exact ⟨_,fun _ _ _ _ h=>h,jH.refl _ _,hA1 hleft⟩
         | cons i0 left0 =>
          have hlt:∀ i∈cP es.length seen,i<es.length:=by
           intro i hi
           simp only[cP,List.mem_filter,List.mem_range] at hi
           exact hi.1
          have hmap:∀ (L:List Nat),(∀ i∈L,i<es.length)→∃ outs,(L.mapM fun i=>(es[i]?).map fun e=>(D.aQ [.p (.v (.bool true)),.p (.v e.1),e.2],aS st.σ kk (some (.fK (some m) since (seen++[i]) es.length))))=some outs ∧
            ∀ d σ',(d,σ')∈outs→∃ i∈L,∃ e:Value×D,d=D.aQ [.p (.v (.bool true)),.p (.v e.1),e.2]∧σ'=aS st.σ kk (some (.fK (some m) since (seen++[i]) es.length)):=by
           intro L
           induction L with
           | nil=>intro _;exact ⟨[],rfl,fun _ _ h=>by cases h⟩
           | cons i L ih =>
            intro hL
            obtain ⟨outs,q1,q2⟩:=ih fun j hj=>hL j (by simp[hj])
            have hi:=hL i (by simp)
            refine ⟨(D.aQ [.p (.v (.bool true)),.p (.v es[i].1),es[i].2],aS st.σ kk (some (.fK (some m) since (seen++[i]) es.length)))::outs,?_,fun d σ' hm=>?_⟩
            ·rw[List.mapM_cons,List.getElem?_eq_getElem hi,q1];rfl
            ·rcases List.mem_cons.1 hm with hm|hm
             ·cases hm;exact ⟨i,by simp,es[i],rfl,rfl⟩
             ·obtain ⟨j,hj,e,q3⟩:=q2 d σ' hm
              exact ⟨j,by simp[hj],e,q3⟩
          obtain ⟨outs,q1,q2⟩:=hmap (cP es.length seen) hlt
          refine fin outs ?_ fun d σ' hm=>?_
          ·simp only[nW,hk,hσ,hm]
           rw[if_pos hb]
           rw[hleft] at q1 ⊢
           exact q1
          ·obtain ⟨i,hi,e,rfl,rfl⟩:=q2 d σ' hm
           refine ⟨_,fun w own ρ v hv=>?_,jH.set _ (Nat.le_refl _) hσ rfl,hB1 i hi⟩
           cases hv with
           | aQ _ vs z1 z2 =>
            refine .aQ _ vs (by simpa using z1) fun j hj=>?_
            match j,hj with
            | 0,_=>simpa using z2 0 (by simp)
            | 1,_=>exact .any _
            | 2,_=>exact .any _
        ·exact h.elim
      ·rename_i es since seen last hσ
       obtain ⟨hb,hA1,hB1⟩:=h
       simp only[Bool.and_eq_true,decide_eq_true_eq] at hb
       cases hleft:cP es.length seen with
       | nil =>
        refine fin [(.p (.v (.tuple #[.bool false])),st.σ)] ?_ fun d σ' hm=>?_
        ·simp only[nW,hk,hσ]
         rw[if_pos hb,hleft]
        ·cases List.mem_singleton.1 hm
         exact ⟨_,fun _ _ _ _ h=>h,jH.refl _ _,hA1 hleft⟩
       | cons i0 left0 =>
        have hlt:∀ i∈cP es.length seen,i<es.length:=by
         intro i hi
         simp only[cP,List.mem_filter,List.mem_range] at hi
         exact hi.1
        have hmap:∀ (L:List Nat),(∀ i∈L,i<es.length)→∃ outs,(L.mapM fun i=>(es[i]?).map fun e=>(D.aQ [.p (.v (.bool true)),.p (.v e.1),.p e.2],aS st.σ kk (some (.cB es since (seen++[i]) es.length))))=some outs ∧
          ∀ d σ',(d,σ')∈outs→∃ i∈L,∃ e:Value×T,d=D.aQ [.p (.v (.bool true)),.p (.v e.1),.p e.2]∧σ'=aS st.σ kk (some (.cB es since (seen++[i]) es.length)):=by
         intro L
         induction L with
         | nil=>intro _;exact ⟨[],rfl,fun _ _ h=>by cases h⟩
         | cons i L ih =>
          intro hL
          obtain ⟨outs,q1,q2⟩:=ih fun j hj=>hL j (by simp[hj])
          have hi:=hL i (by simp)
          refine ⟨(D.aQ [.p (.v (.bool true)),.p (.v es[i].1),.p es[i].2],aS st.σ kk (some (.cB es since (seen++[i]) es.length)))::outs,?_,fun d σ' hm=>?_⟩
          ·rw[List.mapM_cons,List.getElem?_eq_getElem hi,q1];rfl
          ·rcases List.mem_cons.1 hm with hm|hm
           ·cases hm;exact ⟨i,by simp,es[i],rfl,rfl⟩
           ·obtain ⟨j,hj,e,q3⟩:=q2 d σ' hm
            exact ⟨j,by simp[hj],e,q3⟩
        obtain ⟨outs,q1,q2⟩:=hmap (cP es.length seen) hlt
        refine fin outs ?_ fun d σ' hm=>?_
        ·simp only[nW,hk,hσ]
         rw[if_pos hb]
         rw[hleft] at q1 ⊢
         exact q1
        ·obtain ⟨i,hi,e,rfl,rfl⟩:=q2 d σ' hm
         refine ⟨_,fun w own ρ v hv=>?_,jH.set _ (Nat.le_refl _) hσ rfl,hB1 i hi⟩
         cases hv with
         | aQ _ vs z1 z2 =>
          refine .aQ _ vs (by simpa using z1) fun j hj=>?_
          match j,hj with
          | 0,_=>simpa using z2 0 (by simp)
          | 1,_=>exact .any _
          | 2,_=>exact .any _
      ·exact h.elim
     ·exact h.elim
    ·rename_i it hmo
     obtain ⟨hg,hop⟩:=vS hmo
     have hop:o.op = .entry it:=by rcases hop with ⟨h,_⟩|⟨_,h⟩;cases h;exact h
     unfold S6 at h
     split at h
     ·rename_i kk kr ag r hk hev
      split at h
      ·rename_i m since seen last hσ
       split at h
       ·rename_i m
        split at h
        ·rename_i ro es hm
         obtain ⟨hb,i,x,y,g1,g2,g3⟩:=h
         have hb:es.length=last:=of_decide_eq_true hb
         obtain ⟨st',p1,p2⟩:=c6 g3
         have hent:GB st.σ (ev (aT true st.s) it)=some (.p (.aQ [.v (KY kr x),a8 ag r y])):=by
          simp only[GB,hk,hσ,hm,decide_eq_true hb,g1,g2,Option.map_some,sQ]
         have hst:b9 cx.P E nt ops o st=some st':=by
          have hg1:cF ops st.s o=some true:=by simp[cF,hg]
          unfold b9
          simp only[hop,bL,Bool.false_eq_true,if_false,hg1,nv,hent,one,Option.map_some,p1]
         exact mH (Q:=Q) hE hr hst (fun ρ' a' w' hr'=>lP hE hh hI hQ l (k+1) st' ρ' a' w' hl' hA' (hf.trans (eI hh hst hA0)) hr' p2)
        ·exact h.elim
       ·exact h.elim
      ·rename_i es since seen last hσ
       obtain ⟨hb,i,x,y,g1,g2,g3⟩:=h
       have hb:es.length=last:=of_decide_eq_true hb
       obtain ⟨st',p1,p2⟩:=c6 g3
       have g4:∃ e,es[i]? = some e∧e.1=KY kr x∧e.2=a8 ag r y:=by
        simp only[yP,List.getElem?_map,Option.map_eq_some_iff,sQ,Prod.mk.injEq,D.p.injEq] at g2
        obtain ⟨e,q1,q2,q3⟩:=g2
        exact ⟨e,q1,q2,q3⟩
       obtain ⟨e,q1,q2,q3⟩:=g4
       have hent:GB st.σ (ev (aT true st.s) it)=some (.p (.aQ [.v (KY kr x),a8 ag r y])):=by
        simp only[GB,hk,hσ,decide_eq_true hb,g1,q1,Option.map_some,q2,q3]
       have hst:b9 cx.P E nt ops o st=some st':=by
        have hg1:cF ops st.s o=some true:=by simp[cF,hg]
        unfold b9
        simp only[hop,bL,Bool.false_eq_true,if_false,hg1,nv,hent,one,Option.map_some,p1]
       exact mH (Q:=Q) hE hr hst (fun ρ' a' w' hr'=>lP hE hh hI hQ l (k+1) st' ρ' a' w' hl' hA' (hf.trans (eI hh hst hA0)) hr' p2)
      ·exact h.elim
     ·exact h.elim
    ·obtain ⟨st1,h1,h2⟩:=dF h
     exact mH (Q:=Q) hE hr h1 (fun ρ' a' w' hr'=>lP hE hh hI hQ l (k+1) st1 ρ' a' w' hl' hA' (hf.trans (eI hh h1 hA0)) hr' h2)
  split
  ·rename_i hw;simp only[hw,if_true] at key;exact .inl key
  ·rename_i hw;simp only[hw] at key;exact key
end
end Go.Pv
