/-
  The symbolic executor, part f: code, and functions.
-/
import Derived.Test.YtjledgajjgkbhaaGreatDoorVapke
set_option linter.defProp false
set_option linter.unusedSimpArgs false
namespace Go.Pv
open Go Go.RowKit
abbrev Inl:=FuncId→List D→(Nat→Option bB)→Nat→KN→Prop
abbrev Ent:=Option (Sy×Bool×Sy)
section
variable (C : fP) (P : Program) (E : Env) (nt : Nat)
def AL3 (dr:Bool) (o:Oper) (st:St):Option (FuncId×List D):=match dr,o.op with
 | false,.call c=>match c.callee with
  | .value f=>match jW (ev (cB true st.s) f) with
   | some (fid,a,b)=>match E fid,a++c.args.toList.map (ev (cB true st.s))++b with
    | none,l=>some (fid,l)
    | some (.A51 _),.p (.v (.pointer none))::l=>some (fid,.p (.v (.pointer none))::l)
    | _,_=>none
   | none=>none
  | _=>none
 | _,_=>none
def A0H (σ:Nat→Option bB) (d:D) (K:D→(Nat→Option bB)→Prop):Prop :=
 match d with
 | .it k=>match σ k with
  | some (.nJ m since seen last)=>match m with
   | none=>K (.p (.v (.tuple #[.bool false]))) σ
   | some m=>match σ m with
    | some (.map _ es)=>C.yJ (decide (es.length≤since)&&decide (since≤last)) (C.each es.length seen (K (.p (.v (.tuple #[.bool false]))) σ)
      fun i=>K (.bZ [.p (.v (.bool true)),.any,.any]) (bY σ k (some (.nJ (some m) since (seen++[i]) es.length))))
    | _=>C.bad 401
  | some (.cD es since seen last)=>C.yJ (decide (es.length≤since)&&decide (since≤last)) (C.each es.length seen (K (.p (.v (.tuple #[.bool false]))) σ)
      fun i=>K (.bZ [.p (.v (.bool true)),.any,.any]) (bY σ k (some (.cD es since (seen++[i]) es.length))))
  | _=>C.bad 402
 | _=>C.bad 403
def A75 (en:Ent) (σ:Nat→Option bB) (d:D) (K:D→Prop):Prop :=
 match d,en with
 | .it k,some (kr,ag,r)=>match σ k with
  | some (.nJ m _ seen last)=>match m with
   | some m=>match σ m with
    | some (.map _ es)=>C.yJ (decide (es.length=last)) (C.ent kr ag r es seen fun x y=>K (.p (.bZ [.v (OQ kr x),aF ag r y])))
    | _=>C.bad 411
   | none=>C.bad 412
  | some (.cD es _ seen last)=>C.yJ (decide (es.length=last)) (C.ent kr ag r (qX es) seen fun x y=>K (.p (.bZ [.v (OQ kr x),aF ag r y])))
  | _=>C.bad 413
 | _,_=>C.bad 414
def mapOf (dr:Bool) (o:Oper):Option (Bool×Operand):=match dr,o.guard,o.op with
 | false,none,.next it false=>some (true,it)
 | false,none,.entry it=>some (false,it)
 | _,_,_=>none
def evK (I:Inl) (en:Ent) (dr:Bool) (ops:Array Oper):List Oper→St→(St→Prop)→Prop
 | [],st,K=>K st
 | o::r,st,K=>splitK ops o st fun st =>
  match AL3 E dr o st with
  | some (fid,args)=>match e8 ops st.s o with
   | some true=>I fid args st.σ st.n fun d σ' n'=>FP C.toCombs nt st o.dst d σ' n' fun st'=>evK I en dr ops r st' K
   | some false=>FP C.toCombs nt st o.dst (.p (.v undef)) st.σ st.n fun st'=>evK I en dr ops r st' K
   | none=>C.bad 203
  | none=>match mapOf dr o with
   | some (true,it)=>A0H C st.σ (ev (cB true st.s) it) fun d σ'=>FP C.toCombs nt st o.dst d σ' st.n fun st'=>evK I en dr ops r st' K
   | some (false,it)=>A75 C en st.σ (ev (cB true st.s) it) fun d=>FP C.toCombs nt st o.dst d st.σ (st.n+1) fun st'=>evK I en dr ops r st' K
   | none=>BN C.toCombs P E nt ops o st fun st'=>evK I en dr ops r st' K
end
def AGP (P:Program) (I:Inl):Prop:=∀ (cx:Cx) (ρ:Nat→Option Loc) (σ:Nat→Option bB) (n:Nat) (w:World) (fid:FuncId) (args:List D) (vs:Array Value) (K:KN),cx.P=P→Good P w→Inv cx ρ σ n w→cZ (Rd w (bL cx ρ σ) ρ) args vs→I fid args σ n K →
 (∃ fn,P.funcs[fid]? = some fn∧(fn.name == "runtime.NumGoroutine")=false∧fn.body.isNone=false) ∧
 Calls P fid vs w (fun e w'=>∃ v ρ' d σ' n',e = .returned v∧Inv cx ρ' σ' n' w'∧bO cx ρ ρ' σ σ' w w'∧Rd w' (bL cx ρ' σ') ρ' d v∧qZ σ n σ' n'∧K d σ' n')
section
variable {P : Program} {E : Env} {nt : Nat} {ops : Array Oper}
theorem AXE (hh:eH E) {I:Inl} {en:Ent} {A:Nat→Bool} {st₀:St} {K:St→Prop}:∀ (l:List Oper) (st:St),(∀ o∈l,∀ t,o.dst=some t→A t=true)→Fr A st₀ st→evK bR P E nt I en true ops l st K →
  ∃ st',evL P E nt ops l st=some st'∧Fr A st₀ st'∧K st'
 | [],st,_,hf,h=>⟨st,rfl,hf,h⟩
 | o::l,st,hA,hf,h=>by
  have h:=r5 h
  simp only[AL3,mapOf] at h
  obtain ⟨st1,h1,h2⟩:=jG h
  obtain ⟨st2,h3,h4,h5⟩:=AXE hh l st1 (fun o ho=>hA o (by simp[ho])) (hf.trans (lF hh h1 (hA o (by simp)))) h2
  exact ⟨st2,by simp only[evL,h1,Option.bind_some,h3],h4,h5⟩
def uS (M:Bool) (C:fP) (P:Program) (E:Env) (nt:Nat) (ops:Array Oper) (base:Nat):List Nat→St→(St→Prop)→Prop
 | [],st,K=>K st
 | j::r,st,K=>match ops[j]? with
  | none=>C.bad 900
  | some o=>splitK ops o st fun st=>match bV M E ops o with
   | .free=>BN C.toCombs P E nt ops o st fun st'=>uS M C P E nt ops base r st' K
   | .quiet=>BN C.toCombs P E nt ops o ⟨st.s,mC base st.σ,st.n⟩ fun st'=>uS M C P E nt ops base r ⟨st'.s,st.σ,st.n⟩ K
   | .alloc=>match o.op with
    | .alloc e=>match (tz? P e).bind fun z=>sL (z.cells.toList.map fun v=>.p (.v v)),st.σ (base+j) with
     | some b,none=>FP C.toCombs nt st o.dst (.ptr (base+j) 0 0) (bY st.σ (base+j) (some b)) st.n fun st'=>uS M C P E nt ops base r st' K
     | _,_=>C.bad 901
    | _=>C.bad 901
   | .new=>match o.op with
    | .store t a v=>match ev (cB true st.s) a with
     | .ptr k x y=>match decide (base≤k)&&(M||decide (k<base+ops.size)),iD P st.σ t (.ptr k x y) (ev (cB true st.s) v) with
      | true,some σ'=>FP C.toCombs nt st o.dst (.p (.v undef)) σ' st.n fun st'=>uS M C P E nt ops base r st' K
      | _,_=>C.bad 902
     | _=>C.bad 903
    | _=>C.bad 903
   | .old=>match o.op with
    | .store t a v=>match ev (cB true st.s) a with
     | .ptr k x y=>match iD P st.σ t (.ptr k x y) (ev (cB true st.s) v) with
      | some σ'=>FP C.toCombs nt st o.dst (.p (.v undef)) σ' st.n fun st'=>uS M C P E nt ops base r st' K
      | _=>C.bad 905
     | _=>C.bad 906
    | _=>C.bad 906
   | .ask=>BN C.toCombs P E nt ops o st fun st'=>uS M C P E nt ops base r st' K
   | .app=>BN C.toCombs P E nt ops o st fun st'=>uS M C P E nt ops base r st' K
   | .mk=>BN C.toCombs P E nt ops o st fun st'=>uS M C P E nt ops base r st' K
   | .vL=>BN C.toCombs P E nt ops o st fun st'=>uS M C P E nt ops base r st' K
   | .cp=>match e8 ops st.s o,Nat.ble (base+ops.size) st.n,o.op with
    | some true,true,.call c=>match c.callee with
     | .value (.func f)=>match E f with
      | some (.cpy oo ss zs g)=>A4Q C.toCombs P oo ss zs g f (mC base st.σ) st.σ st.n (c.args.toList.map (ev (cB true st.s))) fun d σ' n'=>FP C.toCombs nt st o.dst d σ' n' fun st'=>uS M C P E nt ops base r st' K
      | _=>C.bad 907
     | _=>C.bad 907
    | _,_,_=>C.bad 908
theorem T4 {P:Program} {σ σ':Nat→Option bB} {t:TypeId} {k x y n:Nat} {v:D} (h:iD P σ t (.ptr k x y) v=some σ'):qZ σ n σ' n:=by
 unfold iD at h
 simp only at h
 split at h
 ·rename_i hk hz
  split at h
  ·split at h
   ·cases h;exact qZ.set _ (Nat.le_refl _) hk rfl
   ·cases h
  ·cases h
 ·rename_i hk hz
  split at h
  ·split at h
   ·cases h;exact qZ.set _ (Nat.le_refl _) hk rfl
   ·cases h
  ·cases h
 ·cases h
theorem AV9 {M:Bool} {P:Program} {E:Env} {nt:Nat} {ops:Array Oper} {base j:Nat} {o:Oper} {st st1:St} (hk:bV M E ops o = .app) (h1:eZ P E nt ops o st=some st1):fT M P E nt ops base j o st=some st1:=by
 obtain ⟨c,ho,hc⟩:=ADB hk
 unfold eZ at h1
 rw[if_neg (by rw[ho];simp[eG,hc])] at h1
 unfold fT dX
 rw[hk]
 cases hg:e8 ops st.s o with
 | none=>rw[hg] at h1;cases h1
 | some b=>cases b with
  | false=>rw[hg] at h1;exact h1
  | true =>
   rw[hg] at h1
   rw[ho] at h1
   rw[ho]
   unfold nv at h1
   dsimp only at h1 ⊢
   split at h1
   ·rename_i d σ' n' hn
    split at hn
    ·rename_i x y t u _ ha hb
     rw[ha,hb]
     dsimp only
     cases hap:jB P st.σ st.n t u (ev (cB true st.s) x) (ev (cB true st.s) y) with
     | none=>rw[hap] at hn;cases hn
     | some r=>rw[hap] at hn;cases hn;exact h1
    ·simp_all
    ·simp_all
    ·cases hn
   ·cases h1
theorem A54 {M:Bool} {P:Program} {E:Env} {nt:Nat} {ops:Array Oper} {base j:Nat} {o:Oper} {st st1:St} (hk:bV M E ops o = .mk) (h1:eZ P E nt ops o st=some st1):fT M P E nt ops base j o st=some st1:=by
 unfold eZ at h1
 rw[if_neg (by rw[A53 hk];decide)] at h1
 unfold fT dX
 rw[hk]
 grind
theorem AQ9 {M:Bool} {E:Env} {ops:Array Oper} {o:Oper} (h:bV M E ops o = .vL):eG E o.op=false:=by
 unfold bV at h
 grind
theorem ARE {M:Bool} {P:Program} {E:Env} {nt:Nat} {ops:Array Oper} {base j:Nat} {o:Oper} {st st1:St} (hk:bV M E ops o = .vL) (h1:eZ P E nt ops o st=some st1) (hn:st.n≤st1.n):fT M P E nt ops base j o st=some st1:=by
 unfold eZ at h1
 rw[if_neg (by rw[AQ9 hk];decide)] at h1
 unfold fT dX
 rw[hk]
 cases hg:e8 ops st.s o with
 | none=>rw[hg] at h1;cases h1
 | some b=>cases b with
  | false=>rw[hg] at h1;exact h1
  | true =>
   rw[hg] at h1
   dsimp only at h1 ⊢
   split at h1
   ·rename_i d σ' n' hn'
    obtain ⟨l1,rfl⟩:=rU h1
    have hb:Nat.ble st.n n'=true:=Nat.ble_eq_true_of_le hn
    rw[hn']
    dsimp only
    rw[hb]
    exact h1
   ·cases h1
theorem D7 {M:Bool} {P:Program} {E:Env} {nt:Nat} {ops:Array Oper} {base:Nat} (hh:eH E) {A:Nat→Bool} {st₀:St} {K:St→Prop} (hA:∀ o∈ops.toList,∀ t,o.dst=some t→A t=true):∀ (l:List Nat) (st:St),Fr A st₀ st→uS M bR P E nt ops base l st K →
  ∃ st',evD M P E nt ops base l st=some st'∧Fr A st₀ st'∧K st'
 | [],st,hf,h=>⟨st,rfl,hf,h⟩
 | j::l,st,hf,h=>by
  unfold uS at h
  split at h
  ·exact h.elim
  ·rename_i o h0
   have h:=r5 h
   have hA0:=hA o (by rw[Array.mem_toList_iff];exact Array.mem_of_getElem? h0)
   have go:∀ {st1:St},fT M P E nt ops base j o st=some st1→Fr A st st1→uS M bR P E nt ops base l st1 K→∃ st',evD M P E nt ops base (j::l) st=some st'∧Fr A st₀ st'∧K st':=by
    intro st1 h1 hf1 h2
    obtain ⟨st2,h3,h4,h5⟩:=D7 hh hA l st1 (hf.trans hf1) h2
    exact ⟨st2,by simp only[evD,h0,h1,Option.bind_some,h3],h4,h5⟩
   split at h
   ·rename_i hk
    obtain ⟨st1,h1,h2⟩:=jG h
    refine go ?_ (lF hh h1 hA0) h2
    unfold eZ at h1
    rw[if_pos (pF (H0 hk))] at h1
    unfold fT
    rw[pN hk]
    split at h1
    ·simp_all
    ·cases h1
   ·rename_i hk
    obtain ⟨st1,h1,h2⟩:=jG h
    unfold eZ at h1
    rw[if_pos (W6 (vK hk))] at h1
    split at h1
    ·rename_i d hd
     obtain ⟨l1,rfl⟩:=rU h1
     have hp:q9 nt st o.dst d st.σ st.n=some ⟨sK st.s o.dst d,st.σ,st.n⟩:=vN l1
     refine go (st1:=⟨sK st.s o.dst d,st.σ,st.n⟩) ?_ (nA hp hA0 ⟨Nat.le_refl _,fun _ _ _ h _=>h⟩) h2
     unfold fT
     rw[lQ hk,hd]
     exact hp
    ·cases h1
   ·split at h
    ·split at h
     ·rename_i b hb hσ
      obtain ⟨st1,h1,h2⟩:=gR h
      refine go ?_ (nA h1 hA0 ⟨Nat.le_refl _,fun k x hk hx hw=>?_⟩) h2
      ·unfold fT dX
       simp_all
      ·rw[bK _ _ (fun e=>by subst e;rw[hσ] at hx;cases hx)];exact hx
     ·exact h.elim
    ·exact h.elim
   ·rename_i hk
    split at h
    ·rename_i t a v ho
     split at h
     ·rename_i kk x y hv
      split at h
      ·rename_i σ' hb hst
       obtain ⟨st1,h1,h2⟩:=gR h
       refine go ?_ (nA h1 hA0 (T4 hst)) h2
       unfold fT dX
       simp only[hk,ho,hv,hb,hst,Option.map_some,Option.bind_some]
       exact h1
      ·exact h.elim
     ·exact h.elim
    ·exact h.elim
   ·split at h
    ·split at h
     ·split at h
      ·rename_i σ' hst
       obtain ⟨st1,h1,h2⟩:=gR h
       refine go ?_ (nA h1 hA0 (T4 hst)) h2
       unfold fT dX
       simp_all
      ·exact h.elim
     ·exact h.elim
    ·exact h.elim
   ·rename_i hk
    obtain ⟨st1,h1,h2⟩:=jG h
    refine go ?_ (lF hh h1 hA0) h2
    unfold eZ at h1
    rw[if_pos (AZV hk)] at h1
    unfold fT
    rw[D3 hk]
    split at h1
    ·simp_all
    ·cases h1
   ·rename_i hk
    obtain ⟨st1,h1,h2⟩:=jG h
    exact go (AV9 hk h1) (lF hh h1 hA0) h2
   ·rename_i hk
    obtain ⟨st1,h1,h2⟩:=jG h
    exact go (A54 hk h1) (lF hh h1 hA0) h2
   ·rename_i hk
    obtain ⟨st1,h1,h2⟩:=jG h
    have hf1:=lF hh h1 hA0
    exact go (ARE hk h1 hf1.b.1) hf1 h2
   ·rename_i hk
    split at h
    case h_2=>exact h.elim
    rename_i c hg hn ho
    split at h
    case h_2=>exact h.elim
    rename_i f hc
    split at h
    case h_2=>exact h.elim
    rename_i oo ss zs g hE
    obtain ⟨d,σ',n',h1,h2⟩:=R8 h
    obtain ⟨st1,h3,h4⟩:=gR h2
    refine go ?_ (nA h3 hA0 ?_) h4
    ·unfold fT dX
     simp only[hk,hg,hn,ho,hc,hE,h1,Option.bind_some]
     exact h3
    ·obtain ⟨rfl,hlow⟩:=AX2 h1
     exact ⟨Nat.le_add_right _ _,fun k x hk hx _=>by rw[hlow k hk];exact hx⟩
def A4G (C:fP) (g:Nat→Prop):List Nat→Prop
 | []=>C.bad 508
 | [i]=>g i
 | i::j::l=>C.both (g i) (A4G C g (j::l))
def anyS (C:fP) (P:Program) (E:Env) (nt:Nat) (ops:Array Oper) (K:St→Prop):Nat→Array Bool→St→Prop
 | 0,listed,st=>match Region.ready .any ops listed with
  | []=>K st
  | _=>C.bad 507
 | f+1,listed,st=>match Region.ready .any ops listed with
  | []=>K st
  | i::l=>A4G C (fun i=>match ops[i]? with
   | none=>C.bad 509
   | some o=>splitK ops o st fun st=>BN C.toCombs P E nt ops o st fun st'=>anyS C P E nt ops K f (listed.setIfInBounds i true) st') (i::l)
theorem M1 {g:Nat→Prop}:∀ {l:List Nat},A4G bR g l→∀ i∈l,g i
 | [],h,_,_=>h.elim
 | [a],h,i,hi=>by
  cases List.mem_singleton.1 hi
  exact h
 | a::j::l,h,i,hi=>by
  obtain ⟨h1,h2⟩:=h
  rcases List.mem_cons.1 hi with rfl|hi
  ·exact h1
  ·exact M1 (l:=j::l) h2 i hi
theorem Z9 {P:Program} {E:Env} {nt:Nat} {ops:Array Oper} (hh:eH E) {A:Nat→Bool} {st₀:St} {K:St→Prop} (hA:∀ o∈ops.toList,∀ t,o.dst=some t→A t=true):∀ (f:Nat) (listed:Array Bool) (st:St),Fr A st₀ st→anyS bR P E nt ops K f listed st →
  Q1 P E nt ops (fun st'=>Fr A st₀ st'∧K st') f listed st
 | 0,listed,st,hf,h=>by
  unfold anyS at h
  split at h
  ·rename_i h0;exact ⟨h0,hf,h⟩
  ·exact h.elim
 | f+1,listed,st,hf,h=>by
  unfold anyS at h
  split at h
  ·rename_i h0
   exact ⟨fun _=>⟨hf,h⟩,fun i hi=>by rw[h0] at hi;cases hi⟩
  ·rename_i i0 l h0
   refine ⟨fun h1=>(by rw[h0] at h1;cases h1),fun i hi=>?_⟩
   rw[h0] at hi
   have h2:=M1 h i hi
   split at h2
   ·exact h2.elim
   ·rename_i o ho
    have hA0:=hA o (by rw[Array.mem_toList_iff];exact Array.mem_of_getElem? ho)
    obtain ⟨st1,h3,h4⟩:=jG (r5 h2)
    exact ⟨o,st1,ho,h3,Z9 hh hA f _ st1 (hf.trans (lF hh h3 hA0)) h4⟩
theorem RW {P:Program} {E:Env} {nt:Nat} {ops:Array Oper} {Q Q':St→Prop} (hQ:∀ s,Q s→Q' s):∀ {f:Nat} {listed:Array Bool} {st:St},Q1 P E nt ops Q f listed st→Q1 P E nt ops Q' f listed st
 | 0,_,_,h=>⟨h.1,hQ _ h.2⟩
 | _+1,_,_,h=>⟨fun h0=>hQ _ (h.1 h0),fun i hi=>by
  obtain ⟨o,st',h1,h2,h3⟩:=h.2 i hi
  exact ⟨o,st',h1,h2,RW hQ h3⟩⟩
theorem A8S {cx:Cx} {E:Env} {nt:Nat} {ops:Array Oper} (hE:aT cx.P E) (hm:cx.P.follows .mixedOrders=true) {id:Nat} {Q:Exit→St→Prop} {st:St} (h:Q1 cx.P E nt ops (fun s=>Q .normal s) ops.size (Array.replicate ops.size false) st):AW cx nt (.region id ops true) Q st:=by
 intro ρ a w hr
 refine wp_region_any hm ?_
 have hd:Below w.heap.size w w.drew:=(Below.refl _ _).drew
 have hr':Rel cx nt ρ st a w.drew:=⟨hr.inv.grow hd (Nat.le_refl _),hr.nt,hr.defers,hr.keeps.trans' (bO.gV hd),hr.oW.below hd,fun i=>(hr.nD i).grow hd⟩
 exact KS (Q:=fun s=>Q .normal s) (Q':=sA cx nt Q) hE (fun s ρ a w hs hr=>⟨s,ρ,hr,hs⟩) ops.size (Array.replicate ops.size false) st ρ a w.drew hr' h
def A44 (M:Bool) (E:Env) (ops:Array Oper) (ms:List Nat) (listed:Array Bool) (k:Nat):Bool:=(List.range ops.size).all fun j=>decide (j=k)||listed.getD j true||TR M E ops ms k j
def M6 (M:Bool) (C:fP) (P:Program) (E:Env) (nt:Nat) (ops:Array Oper) (base:Nat) (ms:List Nat) (K:St→Prop):Nat→Array Bool→St→Prop
 | 0,listed,st=>match Region.ready .any ops listed with
  | []=>K st
  | _=>C.bad 511
 | f+1,listed,st=>match Region.ready .any ops listed with
  | []=>K st
  | i::l=>match (i::l).find? (A44 M E ops ms listed) with
   | some k=>uS M C P E nt ops base [k] st fun st'=>M6 M C P E nt ops base ms K f (listed.setIfInBounds k true) st'
   | none=>A4G C (fun k=>uS M C P E nt ops base [k] st fun st'=>M6 M C P E nt ops base ms K f (listed.setIfInBounds k true) st') (i::l)
theorem A41 {M:Bool} {P:Program} {E:Env} {nt:Nat} {ops:Array Oper} {base k:Nat} {st st':St} (h:evD M P E nt ops base [k] st=some st'):∃ o,ops[k]? = some o∧fT M P E nt ops base k o st=some st':=by
 simp only[evD] at h
 split at h
 ·simp_all
 ·cases h
theorem RY {M:Bool} {P:Program} {E:Env} {nt:Nat} {ops:Array Oper} {base:Nat} {ms:List Nat} (hms:∀ j i,(ms.getD j 0).testBit i=true→Reach ops j i) (hh:eH E) {A:Nat→Bool} {st₀:St} {K:St→Prop} (hA:∀ o∈ops.toList,∀ t,o.dst=some t→A t=true) :
  ∀ (f:Nat) (listed:Array Bool) (st:St),pZ ops listed→base≤st.n→Fr A st₀ st→M6 M bR P E nt ops base ms K f listed st→Q2 M P E nt ops base (fun st'=>Fr A st₀ st'∧K st') f listed st
 | 0,listed,st,_,_,hf,h=>by
  unfold M6 at h
  split at h
  ·rename_i h0;exact ⟨h0,hf,h⟩
  ·exact h.elim
 | f+1,listed,st,hc,hb,hf,h=>by
  have one:∀ {k:Nat},k∈Region.ready .any ops listed→(uS M bR P E nt ops base [k] st fun st'=>M6 M bR P E nt ops base ms K f (listed.setIfInBounds k true) st')→∃ o st',ops[k]? = some o∧fT M P E nt ops base k o st=some st'∧Q2 M P E nt ops base (fun st'=>Fr A st₀ st'∧K st') f (listed.setIfInBounds k true) st':=by
   intro k hk h
   obtain ⟨st1,h1,h2,h3⟩:=D7 hh hA [k] st (Fr.refl _ _) h
   obtain ⟨o,h0,h1⟩:=A41 h1
   exact ⟨o,st1,h0,h1,RY hms hh hA f _ st1 (jD hc hk) (Nat.le_trans hb (wC h1)) (hf.trans h2) h3⟩
  unfold M6 at h
  split at h
  ·rename_i h0
   exact ⟨fun _=>⟨hf,h⟩,fun i hi=>by rw[h0] at hi;cases hi⟩
  ·rename_i i0 l h0
   split at h
   ·rename_i k hk
    have hr:k∈Region.ready .any ops listed:=by rw[h0];exact List.mem_of_find?_eq_some hk
    obtain ⟨o,st1,ho,h1,h2⟩:=one hr h
    have hfst:=List.find?_some hk
    refine M4 ho f listed st st1 hc hb (fun j oj hoj hjk hun=>?_) hr h1 h2
    have hjs:j<ops.size:=(Array.getElem?_eq_some_iff.1 hoj).1
    have:=List.all_eq_true.1 hfst j (by simpa using hjs)
    simp only[Bool.or_eq_true,decide_eq_true_eq] at this
    rcases this with (hle|hl)|hp
    ·omega
    ·simp_all
    ·unfold TR at hp
     simp only[Bool.or_eq_true] at hp
     rcases hp with hp|hp
     ·simp_all
     ·simp_all
   ·refine ⟨fun h1=>(by rw[h0] at h1;cases h1),fun i hi=>?_⟩
    have hi':=hi
    rw[h0] at hi'
    exact one hi (M1 h i hi')
theorem RX {M:Bool} {P:Program} {E:Env} {nt:Nat} {ops:Array Oper} {base:Nat} {Q Q':St→Prop} (hQ:∀ s,Q s→Q' s):∀ {f:Nat} {listed:Array Bool} {st:St},Q2 M P E nt ops base Q f listed st→Q2 M P E nt ops base Q' f listed st
 | 0,_,_,h=>⟨h.1,hQ _ h.2⟩
 | _+1,_,_,h=>⟨fun h0=>hQ _ (h.1 h0),fun i hi=>by
  obtain ⟨o,st',h1,h2,h3⟩:=h.2 i hi
  exact ⟨o,st',h1,h2,RX hQ h3⟩⟩
theorem ASZ {M:Bool} {cx:Cx} {E:Env} {nt:Nat} {ops:Array Oper} (hE:aT cx.P E) (hm:cx.P.follows .mixedOrders=true) {id:Nat} {Q:Exit→St→Prop} {st:St} (hmx:ARH M E ops=true) (h:Q2 M cx.P E nt ops st.n (fun s=>Q .normal s) ops.size (Array.replicate ops.size false) (fA ops st)):AW cx nt (.region id ops true) Q st:=by
 intro ρ a w hr
 refine wp_region_any hm ?_
 have hd:Below w.heap.size w w.drew:=(Below.refl _ _).drew
 have hr':Rel cx nt ρ (fA ops st) a w.drew:=⟨hr.inv.grow hd (Nat.le_add_right _ _),hr.nt,hr.defers,hr.keeps.trans' (bO.gV hd),hr.oW.below hd,fun i=>(hr.nD i).grow hd⟩
 have hρ0:∀ k,st.n≤k→ρ k=none:=fun k hk=>by
  cases hx:ρ k with
  | none=>rfl
  | some l=>have:=(hr.inv.new k l hx).1;omega
 exact KT hmx (Q:=fun s=>Q .normal s) (Q':=sA cx nt Q) hE (fun s ρ a w hs hr=>⟨s,ρ,hr,hs⟩) ops.size (Array.replicate ops.size false) (fA ops st) ρ a w.drew hr' (by simp) (Nat.le_refl _) (fun _ i hi _ _=>hρ0 _ (by omega)) h
theorem AIP {dr:Bool} {o:Oper} {st:St} {fid:FuncId} {args:List D} (h:AL3 E dr o st=some (fid,args)):∃ c f a b,o.op = .call c∧c.callee = .value f∧jW (ev (cB true st.s) f)=some (fid,a,b)∧args=a++c.args.toList.map (ev (cB true st.s))++b:=by
 unfold AL3 at h
 split at h
 ·rename_i c hc
  split at h
  ·rename_i f hf
   split at h
   ·rename_i fid' a b hcal
    split at h
    ·cases h;exact ⟨c,f,a,b,hc,hf,hcal,rfl⟩
    ·rename_i hl;cases h;exact ⟨c,f,a,b,hc,hf,hcal,hl.symm⟩
    ·cases h
   ·cases h
  ·cases h
 ·cases h
theorem OS {dr b:Bool} {o:Oper} {it:Operand} (h:mapOf dr o=some (b,it)):o.guard=none∧((b=true∧o.op = .next it false)∨(b=false∧o.op = .entry it)):=by
 unfold mapOf at h
 grind
end
section
variable {cx : Cx} {E : Env} {nt : Nat} {ops : Array Oper}
theorem xD (hE:aT cx.P E) (hh:eH E) {I:Inl} (hI:AGP cx.P I) {en:Ent} {A:Nat→Bool} {st₀:St} {K:St→Prop} {Q:Exit→Act→World→Prop} (hQ:∀ st' ρ a w,Rel cx nt ρ st' a w→Fr A st₀ st'→K st'→Q .normal a w) :
  ∀ (l:List Oper) (k:Nat) (st:St) (ρ:Nat→Option Loc) (a:Act) (w:World),(∀ j,l[j]? = ops[k+j]?)→(∀ o∈l,∀ t,o.dst=some t→A t=true)→Fr A st₀ st→Rel cx nt ρ st a w →
  evK bR cx.P E nt I en false ops l st K→wpOps cx.P ops Q (List.range' k l.length) a w
 | [],_,st,ρ,a,w,_,_,hf,hr,h=>by
  simpa [wpOps] using hQ st ρ a w hr hf h
 | o::l,k,st,ρ,a,w,hl,hA,hf,hr,h=>by
  have h:=r5 h
  have h0:ops[k]? = some o:=by simpa using (hl 0).symm
  simp only[List.length_cons,List.range'_succ,wpOps_cons]
  unfold wpOp
  simp only[h0]
  have hl':∀ j,l[j]? = ops[k+1+j]? := fun j=>by have:=hl (j+1);simpa [Nat.add_assoc,Nat.add_comm 1 j] using this
  have hA':∀ o∈l,∀ t,o.dst=some t→A t=true:=fun o ho=>hA o (by simp[ho])
  have hA0:=hA o (by simp)
  have key:if Region.wanted o (yielded ops a.tmps) then o.wp cx.P a w (wpOps cx.P ops Q (List.range' (k+1) l.length)) Q else wpOps cx.P ops Q (List.range' (k+1) l.length) (a.put o.dst undef) w:=by
   split at h
   ·rename_i fid args hin
    obtain ⟨c,f,a1,b1,hop,hcal,hd,rfl⟩:=AIP hin
    split at h
    ·rename_i hg
     rw[eA hr hg]
     obtain ⟨va,vb,hfv,e1,e2⟩:=HB (hr.evS f) hd
     have hargs:cZ (Rd w (bL cx ρ st.σ) ρ) (a1++c.args.toList.map (ev (cB true st.s))++b1) (va++c.args.map a.eval++vb):=(e1.append (evs hr.evS c.args)).append e2
     obtain ⟨⟨fn,f1,f2,f3⟩,hc⟩:=hI cx ρ st.σ st.n w fid _ _ _ rfl hr.oW hr.inv hargs h
     unfold Oper.wp
     have he:(execOp a.eval o).run cx.P w = .ok (.enter fid (va++c.args.map a.eval++vb)) w:=by
      have e2':¬ fn.name = "runtime.NumGoroutine" := by simpa using f2
      have e3':¬ fn.body=none:=by intro h;simp[h] at f3
      simp[execOp,hop,resolve,hcal,hfv,Deferred.ofValue,invoke,callFunc,f1,e2',e3']
     rw[he]
     refine hc.mono ?_
     rintro e w' ⟨v,ρ',d,σ',n',rfl,g1,g2,g3,g4,g5⟩
     obtain ⟨st',p1,p2⟩:=gR g5
     exact xD hE hh hI hQ l (k+1) st' ρ' _ w' hl' hA' (hf.trans (nA p1 hA0 g4)) (eM hr p1 g1 g2 g3) p2
    ·rename_i hg
     rw[eA hr hg]
     obtain ⟨st',p1,p2⟩:=gR h
     exact xD hE hh hI hQ l (k+1) st' ρ _ w hl' hA' (hf.trans (nA p1 hA0 (qZ.refl _ _))) (eM hr p1 hr.inv (bO.refl _ _ _ _) (.p _ _ (.v _))) p2
    ·exact h.elim
   ·split at h
    ·rename_i it hmo
     obtain ⟨hg,hop⟩:=OS hmo
     have hop:o.op = .next it false:=by rcases hop with ⟨_,h⟩|⟨h,_⟩;exact h;cases h
     have hw:Region.wanted o (yielded ops a.tmps)=true:=by simp[Region.wanted,hg]
     simp only[hw,if_true]
     have fin:∀ outs,BK st.σ (ev (cB true st.s) it)=some outs→(∀ d σ',(d,σ')∈outs→∃ d',(∀ w own ρ v,Rd w own ρ d v→Rd w own ρ d' v)∧qZ st.σ st.n σ' st.n∧FP bR.toCombs nt st o.dst d' σ' st.n fun st'=>evK bR cx.P E nt I en false ops l st' K) →
       o.wp cx.P a w (wpOps cx.P ops Q (List.range' (k+1) l.length)) Q:=by
      intro outs ho hall
      obtain ⟨v,w',d,σ',hrun,hmem,hinv,hkeep,hrd⟩:=ADQ hr ho (ty:=o.type)
      obtain ⟨d',g1,g2,g3⟩:=hall d σ' hmem
      obtain ⟨st',p1,p2⟩:=gR g3
      unfold Oper.wp
      have hx:(execOp a.eval o).run cx.P w = .ok (.value v) w':=by
       simp only[execOp,hop,Sem.run_bind,hrun,Result.andThen_ok,Sem.run_pure]
      rw[hx]
      exact xD hE hh hI hQ l (k+1) st' ρ _ w' hl' hA' (hf.trans (nA p1 hA0 g2)) (eM hr p1 hinv hkeep (g1 _ _ _ _ hrd)) p2
     unfold A0H at h
     split at h
     ·rename_i kk hk
      split at h
      ·rename_i m since seen last hσ
       split at h
       ·refine fin [(.p (.v (.tuple #[.bool false])),st.σ)] (by simp only[BK,hk,hσ]) fun d σ' hm=>?_
        cases List.mem_singleton.1 hm
        exact ⟨_,fun _ _ _ _ h=>h,qZ.refl _ _,h⟩
       ·rename_i m
        split at h
        ·rename_i ro es hm
         obtain ⟨hb,hA1,hB1⟩:=h
         cases hleft:dA es.length seen with
         | nil =>
          refine fin [(.p (.v (.tuple #[.bool false])),st.σ)] ?_ fun d σ' hm=>?_
          ·simp only[BK,hk,hσ,hm]
           simp_all
          ·cases List.mem_singleton.1 hm
           exact ⟨_,fun _ _ _ _ h=>h,qZ.refl _ _,hA1 hleft⟩
         | cons i0 left0 =>
          have hlt:∀ i∈dA es.length seen,i<es.length:=by
           intro i hi
           simp only[dA,List.mem_filter,List.mem_range] at hi
           exact hi.1
          have hmap:∀ (L:List Nat),(∀ i∈L,i<es.length)→∃ outs,(L.mapM fun i=>(es[i]?).map fun e=>(D.bZ [.p (.v (.bool true)),.p (.v e.1),e.2],bY st.σ kk (some (.nJ (some m) since (seen++[i]) es.length))))=some outs ∧
            ∀ d σ',(d,σ')∈outs→∃ i∈L,∃ e:Value×D,d=D.bZ [.p (.v (.bool true)),.p (.v e.1),e.2]∧σ'=bY st.σ kk (some (.nJ (some m) since (seen++[i]) es.length)):=by
           intro L
           induction L with
           | nil=>intro _;exact ⟨[],rfl,fun _ _ h=>by cases h⟩
           | cons i L ih =>
            intro hL
            obtain ⟨outs,q1,q2⟩:=ih fun j hj=>hL j (by simp[hj])
            have hi:=hL i (by simp)
            refine ⟨(D.bZ [.p (.v (.bool true)),.p (.v es[i].1),es[i].2],bY st.σ kk (some (.nJ (some m) since (seen++[i]) es.length)))::outs,?_,fun d σ' hm=>?_⟩
            ·simp_all
            ·rcases List.mem_cons.1 hm with hm|hm
             ·simp_all
             ·simp_all
          obtain ⟨outs,q1,q2⟩:=hmap (dA es.length seen) hlt
          refine fin outs ?_ fun d σ' hm=>?_
          ·simp only[BK,hk,hσ,hm]
           simp_all
          ·obtain ⟨i,hi,e,rfl,rfl⟩:=q2 d σ' hm
           refine ⟨_,fun w own ρ v hv=>?_,qZ.set _ (Nat.le_refl _) hσ rfl,hB1 i hi⟩
           cases hv with
           | bZ _ vs z1 z2 =>
            refine .bZ _ vs (by simpa using z1) fun j hj=>?_
            match j,hj with
            | 0,_=>simpa using z2 0 (by simp)
            | 1,_=>exact .any _
            | 2,_=>exact .any _
        ·exact h.elim
      ·rename_i es since seen last hσ
       obtain ⟨hb,hA1,hB1⟩:=h
       simp only[Bool.and_eq_true,decide_eq_true_eq] at hb
       cases hleft:dA es.length seen with
       | nil =>
        refine fin [(.p (.v (.tuple #[.bool false])),st.σ)] ?_ fun d σ' hm=>?_
        ·simp only[BK,hk,hσ]
         simp_all
        ·cases List.mem_singleton.1 hm
         exact ⟨_,fun _ _ _ _ h=>h,qZ.refl _ _,hA1 hleft⟩
       | cons i0 left0 =>
        have hlt:∀ i∈dA es.length seen,i<es.length:=by
         intro i hi
         simp only[dA,List.mem_filter,List.mem_range] at hi
         exact hi.1
        have hmap:∀ (L:List Nat),(∀ i∈L,i<es.length)→∃ outs,(L.mapM fun i=>(es[i]?).map fun e=>(D.bZ [.p (.v (.bool true)),.p (.v e.1),.p e.2],bY st.σ kk (some (.cD es since (seen++[i]) es.length))))=some outs ∧
          ∀ d σ',(d,σ')∈outs→∃ i∈L,∃ e:Value×T,d=D.bZ [.p (.v (.bool true)),.p (.v e.1),.p e.2]∧σ'=bY st.σ kk (some (.cD es since (seen++[i]) es.length)):=by
         intro L
         induction L with
         | nil=>intro _;exact ⟨[],rfl,fun _ _ h=>by cases h⟩
         | cons i L ih =>
          intro hL
          obtain ⟨outs,q1,q2⟩:=ih fun j hj=>hL j (by simp[hj])
          have hi:=hL i (by simp)
          refine ⟨(D.bZ [.p (.v (.bool true)),.p (.v es[i].1),.p es[i].2],bY st.σ kk (some (.cD es since (seen++[i]) es.length)))::outs,?_,fun d σ' hm=>?_⟩
          ·rw[List.mapM_cons,List.getElem?_eq_getElem hi,q1];rfl
          ·rcases List.mem_cons.1 hm with hm|hm
           ·cases hm;exact ⟨i,by simp,es[i],rfl,rfl⟩
           ·obtain ⟨j,hj,e,q3⟩:=q2 d σ' hm
            exact ⟨j,by simp[hj],e,q3⟩
        obtain ⟨outs,q1,q2⟩:=hmap (dA es.length seen) hlt
        refine fin outs ?_ fun d σ' hm=>?_
        ·simp only[BK,hk,hσ]
         rw[if_pos hb]
         rw[hleft] at q1 ⊢
         exact q1
        ·obtain ⟨i,hi,e,rfl,rfl⟩:=q2 d σ' hm
         refine ⟨_,fun w own ρ v hv=>?_,qZ.set _ (Nat.le_refl _) hσ rfl,hB1 i hi⟩
         cases hv with
         | bZ _ vs z1 z2 =>
          refine .bZ _ vs (by simpa using z1) fun j hj=>?_
          match j,hj with
          | 0,_=>simpa using z2 0 (by simp)
          | 1,_=>exact .any _
          | 2,_=>exact .any _
      ·exact h.elim
     ·exact h.elim
    ·rename_i it hmo
     obtain ⟨hg,hop⟩:=OS hmo
     have hop:o.op = .entry it:=by rcases hop with ⟨h,_⟩|⟨_,h⟩;cases h;exact h
     unfold A75 at h
     split at h
     ·rename_i kk kr ag r hk hev
      split at h
      ·rename_i m since seen last hσ
       split at h
       ·split at h
        ·rename_i ro es hm
         obtain ⟨hb,i,x,y,g1,g2,g3⟩:=h
         have hb:es.length=last:=of_decide_eq_true hb
         obtain ⟨st',p1,p2⟩:=gR g3
         have hent:AHB st.σ (ev (cB true st.s) it)=some (.p (.bZ [.v (OQ kr x),aF ag r y])):=by
          simp only[AHB,hk,hσ,hm,decide_eq_true hb,g1,g2,Option.map_some,cW]
         have hst:eZ cx.P E nt ops o st=some st':=by
          have hg1:e8 ops st.s o=some true:=by simp[e8,hg]
          unfold eZ
          simp only[hop,eG,Bool.false_eq_true,if_false,hg1,nv,hent,one,Option.map_some,p1]
         exact yT (Q:=Q) hE hr hst (fun ρ' a' w' hr'=>xD hE hh hI hQ l (k+1) st' ρ' a' w' hl' hA' (hf.trans (lF hh hst hA0)) hr' p2)
        ·exact h.elim
       ·exact h.elim
      ·rename_i es since seen last hσ
       obtain ⟨hb,i,x,y,g1,g2,g3⟩:=h
       have hb:es.length=last:=of_decide_eq_true hb
       obtain ⟨st',p1,p2⟩:=gR g3
       have g4:∃ e,es[i]? = some e∧e.1=OQ kr x∧e.2=aF ag r y:=by
        simp only[qX,List.getElem?_map,Option.map_eq_some_iff,cW,Prod.mk.injEq,D.p.injEq] at g2
        omega
       obtain ⟨e,q1,q2,q3⟩:=g4
       have hent:AHB st.σ (ev (cB true st.s) it)=some (.p (.bZ [.v (OQ kr x),aF ag r y])):=by
        simp only[AHB,hk,hσ,decide_eq_true hb,g1,q1,Option.map_some,q2,q3]
       have hst:eZ cx.P E nt ops o st=some st':=by
        have hg1:e8 ops st.s o=some true:=by simp[e8,hg]
        unfold eZ
        simp only[hop,eG,Bool.false_eq_true,if_false,hg1,nv,hent,one,Option.map_some,p1]
       exact yT (Q:=Q) hE hr hst (fun ρ' a' w' hr'=>xD hE hh hI hQ l (k+1) st' ρ' a' w' hl' hA' (hf.trans (lF hh hst hA0)) hr' p2)
      ·exact h.elim
     ·exact h.elim
    ·obtain ⟨st1,h1,h2⟩:=jG h
     exact yT (Q:=Q) hE hr h1 (fun ρ' a' w' hr'=>xD hE hh hI hQ l (k+1) st1 ρ' a' w' hl' hA' (hf.trans (lF hh h1 hA0)) hr' h2)
  split
  ·simp_all
  ·simp_all
end
end Go.Pv
