/-
  The symbolic executor, part f: code, and functions.
-/
import Derived.Test.YtcnfagefgkblkaaGreatDoorVrke
set_option linter.defProp false
set_option linter.unusedSimpArgs false
namespace Go.Pv
open Go Go.RowKit
abbrev Inl:=FuncId->List D->(Nat->Option bE)->Nat->KN->Prop
abbrev Ent:=Option (Sy×Bool×Sy)
section
variable (C : gZ) (P : Program) (E : Env) (nt : Nat)
def APC (dr:Bool) (o:Oper) (st:St):Option (FuncId×List D):=match dr,o.op with
 | false,.call c=>match c.callee with
  | .value f=>match jT (ev (cD true st.s) f) with
   | some (fid,a,b)=>match E fid,a++c.args.toList.map (ev (cD true st.s))++b with
    | none,l=>some (fid,l)
    | some (.BEM _),.p (.v (.pointer none))::l=>some (fid,.p (.v (.pointer none))::l)
    | _,_=>none
   | none=>none
  | _=>none
 | _,_=>none
def A68 (σ:Nat->Option bE) (d:D) (K:D->(Nat->Option bE)->Prop):Prop :=
 match d with
 | .it k=>match σ k with
  | some (.lB m since seen last)=>match m with
   | none=>K (.p (.v (.tuple #[.bool false]))) σ
   | some m=>match σ m with
    | some (.map _ es)=>C.zX (decide (es.length<=since)&&decide (since<=last)) (C.each es.length seen (K (.p (.v (.tuple #[.bool false]))) σ)
      λi=>K (.bX [.p (.v (.bool true)),.any,.any]) (b8 σ k (some (.lB (some m) since (seen++[i]) es.length))))
    | _=>C.bad 401
  | some (.b9 es since seen last)=>C.zX (decide (es.length<=since)&&decide (since<=last)) (C.each es.length seen (K (.p (.v (.tuple #[.bool false]))) σ)
      λi=>K (.bX [.p (.v (.bool true)),.any,.any]) (b8 σ k (some (.b9 es since (seen++[i]) es.length))))
  | _=>C.bad 402
 | _=>C.bad 403
def BG7 (en:Ent) (σ:Nat->Option bE) (d:D) (K:D->Prop):Prop :=
 match d,en with
 | .it k,some (kr,ag,r)=>match σ k with
  | some (.lB m _ seen last)=>match m with
   | some m=>match σ m with
    | some (.map _ es)=>C.zX (decide (es.length=last)) (C.ent kr ag r es seen λx y=>K (.p (.bX [.v (LJ kr x),aF ag r y])))
    | _=>C.bad 411
   | none=>C.bad 412
  | some (.b9 es _ seen last)=>C.zX (decide (es.length=last)) (C.ent kr ag r (rI es) seen λx y=>K (.p (.bX [.v (LJ kr x),aF ag r y])))
  | _=>C.bad 413
 | _,_=>C.bad 414
def mapOf (dr:Bool) (o:Oper):Option (Bool×Operand):=match dr,o.guard,o.op with
 | false,none,.next it false=>some (true,it)
 | false,none,.entry it=>some (false,it)
 | _,_,_=>none
def evK (I:Inl) (en:Ent) (dr:Bool) (ops:Array Oper):List Oper->St->(St->Prop)->Prop
 | [],st,K=>K st
 | o::r,st,K=>splitK ops o st λst =>
  match APC E dr o st with
  | some (fid,args)=>match gI ops st.s o with
   | some true=>I fid args st.σ st.n λd σ' n'=>I9 C.toCombs nt st o.dst d σ' n' λst'=>evK I en dr ops r st' K
   | some false=>I9 C.toCombs nt st o.dst (.p (.v undef)) st.σ st.n λst'=>evK I en dr ops r st' K
   | none=>C.bad 203
  | none=>match mapOf dr o with
   | some (true,it)=>A68 C st.σ (ev (cD true st.s) it) λd σ'=>I9 C.toCombs nt st o.dst d σ' st.n λst'=>evK I en dr ops r st' K
   | some (false,it)=>BG7 C en st.σ (ev (cD true st.s) it) λd=>I9 C.toCombs nt st o.dst d st.σ (st.n+1) λst'=>evK I en dr ops r st' K
   | none=>CX C.toCombs P E nt ops o st λst'=>evK I en dr ops r st' K
end
def AJC (P:Program) (I:Inl):Prop:=∀ (cx:Cx) (ρ:Nat->Option Loc) (σ:Nat->Option bE) (n:Nat) (w:World) (fid:FuncId) (args:List D) (vs:Array Value) (K:KN),cx.P=P->Good P w->Inv cx ρ σ n w->dF (Rd w (Own cx ρ σ) ρ) args vs->I fid args σ n K ->
 (∃ fn,P.funcs[fid]? = some fn/\(fn.name == "runtime.NumGoroutine")=false/\fn.body.isNone=false) /\
 Calls P fid vs w (λe w'=>∃ v ρ' d σ' n',e = .returned v/\Inv cx ρ' σ' n' w'/\bO cx ρ ρ' σ σ' w w'/\Rd w' (Own cx ρ' σ') ρ' d v/\rK σ n σ' n'/\K d σ' n')
section
variable {P : Program} {E : Env} {nt : Nat} {ops : Array Oper}
def A3W (hh:fH E) {I:Inl} {en:Ent} {A:Nat->Bool} {st₀:St} {K:St->Prop}:∀ (l:List Oper) (st:St),(∀ o∈l,∀ t,o.dst=some t->A t=true)->Fr A st₀ st->evK bS P E nt I en true ops l st K ->
  ∃ st',evL P E nt ops l st=some st'/\Fr A st₀ st'/\K st'
 | [],st,_,hf,h=>⟨st,rfl,hf,h⟩
 | o::l,st,hA,hf,h=>by
  have h:=sR h;simp only[APC,mapOf] at h;obtain ⟨st1,h1,h2⟩:=jC h;obtain ⟨st2,h3,h4,h5⟩:=A3W hh l st1 (λo ho=>hA o (by simp[ho])) (hf.trans (lK hh h1 (hA o (by simp)))) h2;exact ⟨st2,by simp only[evL,h1,Option.bind_some,h3],h4,h5⟩
def w8 (M:Bool) (C:gZ) (P:Program) (E:Env) (nt:Nat) (ops:Array Oper) (base:Nat):List Nat->St->(St->Prop)->Prop
 | [],st,K=>K st
 | j::r,st,K=>match ops[j]? with
  | none=>C.bad 900
  | some o=>splitK ops o st λst=>match bW M E ops o with
   | .free=>CX C.toCombs P E nt ops o st λst'=>w8 M C P E nt ops base r st' K
   | .quiet=>CX C.toCombs P E nt ops o ⟨st.s,wZ base st.σ,st.n⟩ λst'=>w8 M C P E nt ops base r ⟨st'.s,st.σ,st.n⟩ K
   | .alloc=>match o.op with
    | .alloc e=>match (tz? P e).bind λz=>tK (z.cells.toList.map λv=>.p (.v v)),st.σ (base+j) with
     | some b,none=>I9 C.toCombs nt st o.dst (.ptr (base+j) 0 0) (b8 st.σ (base+j) (some b)) st.n λst'=>w8 M C P E nt ops base r st' K
     | _,_=>C.bad 901
    | _=>C.bad 901
   | .new=>match o.op with
    | .store t a v=>match ev (cD true st.s) a with
     | .ptr k x y=>match decide (base<=k),kZ P st.σ t (.ptr k x y) (ev (cD true st.s) v) with
      | true,some σ'=>I9 C.toCombs nt st o.dst (.p (.v undef)) σ' st.n λst'=>w8 M C P E nt ops base r st' K
      | _,_=>C.bad 902
     | _=>C.bad 903
    | _=>C.bad 903
   | .old=>match o.op with
    | .store t a v=>match ev (cD true st.s) a with
     | .ptr k x y=>match kZ P st.σ t (.ptr k x y) (ev (cD true st.s) v) with
      | some σ'=>I9 C.toCombs nt st o.dst (.p (.v undef)) σ' st.n λst'=>w8 M C P E nt ops base r st' K
      | _=>C.bad 905
     | _=>C.bad 906
    | _=>C.bad 906
   | .ask=>CX C.toCombs P E nt ops o st λst'=>w8 M C P E nt ops base r st' K
   | .app=>CX C.toCombs P E nt ops o st λst'=>w8 M C P E nt ops base r st' K
   | .mk=>CX C.toCombs P E nt ops o st λst'=>w8 M C P E nt ops base r st' K
   | .xA=>CX C.toCombs P E nt ops o st λst'=>w8 M C P E nt ops base r st' K
def VO {P:Program} {σ σ':Nat->Option bE} {t:TypeId} {k x y n:Nat} {v:D} (h:kZ P σ t (.ptr k x y) v=some σ'):rK σ n σ' n:=by
 unfold kZ at h;simp only at h;split at h
 ·rename_i hk hz;split at h
  ·split at h
   ·cases h;exact rK.set _ (ak _) hk rfl
   ·cases h
  ·cases h
 ·rename_i hk hz;split at h
  ·split at h
   ·cases h;exact rK.set _ (ak _) hk rfl
   ·cases h
  ·cases h
 ·cases h
variable {M:Bool}{base:Nat}{st st1:St}
def A2P {P:Program} {E:Env} {nt:Nat} {ops:Array Oper} {j:Nat} {o:Oper} (hk:bW M E ops o = .app) (h1:fD P E nt ops o st=some st1):gN M P E nt ops base j o st=some st1:=by
 obtain ⟨c,ho,hc⟩:=AE9 hk;unfold fD at h1;rw[if_neg (by rw[ho];simp[eF,hc])] at h1;unfold gN fZ;rw[hk];cases hg:gI ops st.s o with
 | none=>rw[hg] at h1;cases h1
 | some b=>cases b with
  | false=>rw[hg] at h1;exact h1
  | true =>
   rw[hg] at h1;rw[ho] at h1;rw[ho];unfold nv at h1;dsimp only at h1 ⊢;split at h1
   ·rename_i d σ' n' hn;split at hn
    ·rename_i x y t u _ ha hb;rw[ha,hb];dsimp only;cases hap:iX P st.σ st.n t u (ev (cD true st.s) x) (ev (cD true st.s) y) with
     | none=>rw[hap] at hn;cases hn
     | some r=>rw[hap] at hn;cases hn;exact h1
    ·simp_all
    ·simp_all
    ·cases hn
   ·cases h1
def BEP {P:Program} {E:Env} {nt:Nat} {ops:Array Oper} {j:Nat} {o:Oper} (hk:bW M E ops o = .mk) (h1:fD P E nt ops o st=some st1):gN M P E nt ops base j o st=some st1:=by
 unfold fD at h1;rw[if_neg (by rw[BEO hk];decide)] at h1;unfold gN fZ;rw[hk]
 grind
def AVM {E:Env} {ops:Array Oper} {o:Oper} (h:bW M E ops o = .xA):eF E o.op=false:=by
 unfold bW at h
 grind
def AVR {P:Program} {E:Env} {nt:Nat} {ops:Array Oper} {j:Nat} {o:Oper} (hk:bW M E ops o = .xA) (h1:fD P E nt ops o st=some st1) (hn:st.n<=st1.n):gN M P E nt ops base j o st=some st1:=by
 unfold fD at h1;rw[if_neg (by rw[AVM hk];decide)] at h1;unfold gN fZ;rw[hk];cases hg:gI ops st.s o with
 | none=>rw[hg] at h1;cases h1
 | some b=>cases b with
  | false=>rw[hg] at h1;exact h1
  | true =>
   rw[hg] at h1;dsimp only at h1 ⊢;split at h1
   ·rename_i d σ' n' hn';obtain ⟨l1,rfl⟩:=sK h1;have hb:Nat.ble st.n n'=true:=Nat.ble_eq_true_of_le hn;rw[hn'];dsimp only;rw[hb];exact h1
   ·cases h1
def E2 {M:Bool} {P:Program} {E:Env} {nt:Nat} {ops:Array Oper} {base:Nat} (hh:fH E) {A:Nat->Bool} {st₀:St} {K:St->Prop} (hA:∀ o∈ops.toList,∀ t,o.dst=some t->A t=true):∀ (l:List Nat) (st:St),Fr A st₀ st->w8 M bS P E nt ops base l st K ->
  ∃ st',evD M P E nt ops base l st=some st'/\Fr A st₀ st'/\K st'
 | [],st,hf,h=>⟨st,rfl,hf,h⟩
 | j::l,st,hf,h=>by
  unfold w8 at h;split at h
  ·exact h.elim
  ·rename_i o h0;have h:=sR h;have hA0:=hA o (by rw[Array.mem_toList_iff];exact Array.mem_of_getElem? h0);have go:∀ {st1:St},gN M P E nt ops base j o st=some st1->Fr A st st1->w8 M bS P E nt ops base l st1 K->∃ st',evD M P E nt ops base (j::l) st=some st'/\Fr A st₀ st'/\K st':=by
    intro st1 h1 hf1 h2;obtain ⟨st2,h3,h4,h5⟩:=E2 hh hA l st1 (hf.trans hf1) h2;exact ⟨st2,by simp only[evD,h0,h1,Option.bind_some,h3],h4,h5⟩
   split at h
   ·rename_i hk;obtain ⟨st1,h1,h2⟩:=jC h;refine go ?_ (lK hh h1 hA0) h2;unfold fD at h1;rw[if_pos (pS (I1 hk))] at h1;unfold gN;rw[p8 hk];split at h1
    ·simp_all
    ·cases h1
   ·rename_i hk;obtain ⟨st1,h1,h2⟩:=jC h;unfold fD at h1;rw[if_pos (Y4 (wD hk))] at h1;split at h1
    ·rename_i d hd;obtain ⟨l1,rfl⟩:=sK h1;have hp:rN nt st o.dst d st.σ st.n=some ⟨tJ st.s o.dst d,st.σ,st.n⟩:=wF l1;refine go (st1:=⟨tJ st.s o.dst d,st.σ,st.n⟩) ?_ (oF hp hA0 ⟨ak _,λ_ _ _ h _=>h⟩) h2;unfold gN;rw[lW hk,hd];exact hp
    ·cases h1
   ·split at h
    ·split at h
     ·rename_i b hb hσ;obtain ⟨st1,h1,h2⟩:=iN h;refine go ?_ (oF h1 hA0 ⟨ak _,λk x hk hx hw=>?_⟩) h2
      ·unfold gN fZ;simp_all
      ·rw[bL _ _ (λe=>by subst e;rw[hσ] at hx;cases hx)];exact hx
     ·exact h.elim
    ·exact h.elim
   ·split at h
    ·split at h
     ·split at h
      ·rename_i σ' hb hst;obtain ⟨st1,h1,h2⟩:=iN h;refine go ?_ (oF h1 hA0 (VO hst)) h2;unfold gN fZ;simp_all
      ·exact h.elim
     ·exact h.elim
    ·exact h.elim
   ·split at h
    ·split at h
     ·split at h
      ·rename_i σ' hst;obtain ⟨st1,h1,h2⟩:=iN h;refine go ?_ (oF h1 hA0 (VO hst)) h2;unfold gN fZ;simp_all
      ·exact h.elim
     ·exact h.elim
    ·exact h.elim
   ·rename_i hk;obtain ⟨st1,h1,h2⟩:=jC h;refine go ?_ (lK hh h1 hA0) h2;unfold fD at h1;rw[if_pos (A6L hk)] at h1;unfold gN;rw[EY hk];split at h1
    ·simp_all
    ·cases h1
   ·rename_i hk;obtain ⟨st1,h1,h2⟩:=jC h;exact go (A2P hk h1) (lK hh h1 hA0) h2
   ·rename_i hk;obtain ⟨st1,h1,h2⟩:=jC h;exact go (BEP hk h1) (lK hh h1 hA0) h2
   ·rename_i hk;obtain ⟨st1,h1,h2⟩:=jC h;have hf1:=lK hh h1 hA0;exact go (AVR hk h1 hf1.b.1) hf1 h2
def BCR (C:gZ) (g:Nat->Prop):List Nat->Prop
 | []=>C.bad 508
 | [i]=>g i
 | i::j::l=>C.both (g i) (BCR C g (j::l))
def anyS (C:gZ) (P:Program) (E:Env) (nt:Nat) (ops:Array Oper) (K:St->Prop):Nat->Array Bool->St->Prop
 | 0,listed,st=>match Region.ready .any ops listed with
  | []=>K st
  | _=>C.bad 507
 | f+1,listed,st=>match Region.ready .any ops listed with
  | []=>K st
  | i::l=>BCR C (λi=>match ops[i]? with
   | none=>C.bad 509
   | some o=>splitK ops o st λst=>CX C.toCombs P E nt ops o st λst'=>anyS C P E nt ops K f (listed.setIfInBounds i true) st') (i::l)
def N7 {g:Nat->Prop}:∀ {l:List Nat},BCR bS g l->∀ i∈l,g i
 | [],h,_,_=>h.elim
 | [a],h,i,hi=>by
  cases List.mem_singleton.1 hi;exact h
 | a::j::l,h,i,hi=>by
  obtain ⟨h1,h2⟩:=h;rcases List.mem_cons.1 hi with rfl|hi
  ·exact h1
  ·exact N7 (l:=j::l) h2 i hi
def ABY {P:Program} {E:Env} {nt:Nat} {ops:Array Oper} (hh:fH E) {A:Nat->Bool} {st₀:St} {K:St->Prop} (hA:∀ o∈ops.toList,∀ t,o.dst=some t->A t=true):∀ (f:Nat) (listed:Array Bool) (st:St),Fr A st₀ st->anyS bS P E nt ops K f listed st ->
  SJ P E nt ops (λst'=>Fr A st₀ st'/\K st') f listed st
 | 0,listed,st,hf,h=>by
  unfold anyS at h;split at h
  ·rename_i h0;exact ⟨h0,hf,h⟩
  ·exact h.elim
 | f+1,listed,st,hf,h=>by
  unfold anyS at h;split at h
  ·rename_i h0;exact ⟨λ_=>⟨hf,h⟩,λi hi=>by rw[h0] at hi;cases hi⟩
  ·rename_i i0 l h0;refine ⟨λh1=>(by rw[h0] at h1;cases h1),λi hi=>?_⟩;rw[h0] at hi;have h2:=N7 h i hi;split at h2
   ·exact h2.elim
   ·rename_i o ho;have hA0:=hA o (by rw[Array.mem_toList_iff];exact Array.mem_of_getElem? ho);obtain ⟨st1,h3,h4⟩:=jC (sR h2);exact ⟨o,st1,ho,h3,ABY hh hA f _ st1 (hf.trans (lK hh h3 hA0)) h4⟩
def TG {P:Program} {E:Env} {nt:Nat} {ops:Array Oper} {Q Q':St->Prop} (hQ:∀ s,Q s->Q' s):∀ {f:Nat} {listed:Array Bool} {st:St},SJ P E nt ops Q f listed st->SJ P E nt ops Q' f listed st
 | 0,_,_,h=>⟨h.1,hQ _ h.2⟩
 | _+1,_,_,h=>⟨λh0=>hQ _ (h.1 h0),λi hi=>by
  obtain ⟨o,st',h1,h2,h3⟩:=h.2 i hi;exact ⟨o,st',h1,h2,TG hQ h3⟩⟩
variable {cx:Cx}{Q:Exit->St->Prop}
def BHT {E:Env} {nt:Nat} {ops:Array Oper} (hE:aQ cx.P E) (hm:cx.P.follows .mixedOrders=true) {id:Nat} (h:SJ cx.P E nt ops (λs=>Q .normal s) ops.size (Array.replicate ops.size false) st):AW cx nt (.region id ops true) Q st:=by
 intro ρ a w hr;refine wp_region_any hm ?_;have hd:Below w.heap.size w w.drew:=(Below.refl _ _).drew;have hr':Rel cx nt ρ st a w.drew:=⟨hr.inv.grow hd (ak _),hr.nt,hr.defers,hr.keeps.trans' (bO.gM hd),hr.pR.below hd,λi=>(hr.nF i).grow hd⟩
 exact LU (Q:=λs=>Q .normal s) (Q':=sV cx nt Q) hE (λs ρ a w hs hr=>⟨s,ρ,hr,hs⟩) ops.size (Array.replicate ops.size false) st ρ a w.drew hr' h
def BDF (M:Bool) (E:Env) (ops:Array Oper) (ms:List Nat) (listed:Array Bool) (k:Nat):Bool:=(List.range ops.size).all λj=>decide (j=k)||listed.getD j true||U8 M E ops ms k j
def OD (M:Bool) (C:gZ) (P:Program) (E:Env) (nt:Nat) (ops:Array Oper) (base:Nat) (ms:List Nat) (K:St->Prop):Nat->Array Bool->St->Prop
 | 0,listed,st=>match Region.ready .any ops listed with
  | []=>K st
  | _=>C.bad 511
 | f+1,listed,st=>match Region.ready .any ops listed with
  | []=>K st
  | i::l=>match (i::l).find? (BDF M E ops ms listed) with
   | some k=>w8 M C P E nt ops base [k] st λst'=>OD M C P E nt ops base ms K f (listed.setIfInBounds k true) st'
   | none=>BCR C (λk=>w8 M C P E nt ops base [k] st λst'=>OD M C P E nt ops base ms K f (listed.setIfInBounds k true) st') (i::l)
def BDD {P:Program} {E:Env} {nt:Nat} {ops:Array Oper} {k:Nat} {st':St} (h:evD M P E nt ops base [k] st=some st'):∃ o,ops[k]? = some o/\gN M P E nt ops base k o st=some st':=by
 simp only[evD] at h;split at h
 ·simp_all
 ·cases h
def TI {M:Bool} {P:Program} {E:Env} {nt:Nat} {ops:Array Oper} {base:Nat} {ms:List Nat} (hms:∀ j i,(ms.getD j 0).testBit i=true->Reach ops j i) (hh:fH E) {A:Nat->Bool} {st₀:St} {K:St->Prop} (hA:∀ o∈ops.toList,∀ t,o.dst=some t->A t=true) :
  ∀ (f:Nat) (listed:Array Bool) (st:St),qL ops listed->base<=st.n->Fr A st₀ st->OD M bS P E nt ops base ms K f listed st->SK M P E nt ops base (λst'=>Fr A st₀ st'/\K st') f listed st
 | 0,listed,st,_,_,hf,h=>by
  unfold OD at h;split at h
  ·rename_i h0;exact ⟨h0,hf,h⟩
  ·exact h.elim
 | f+1,listed,st,hc,hb,hf,h=>by
  have one:∀ {k:Nat},k∈Region.ready .any ops listed->(w8 M bS P E nt ops base [k] st λst'=>OD M bS P E nt ops base ms K f (listed.setIfInBounds k true) st')->∃ o st',ops[k]? = some o/\gN M P E nt ops base k o st=some st'/\SK M P E nt ops base (λst'=>Fr A st₀ st'/\K st') f (listed.setIfInBounds k true) st':=by
   intro k hk h;obtain ⟨st1,h1,h2,h3⟩:=E2 hh hA [k] st (Fr.refl _ _) h;obtain ⟨o,h0,h1⟩:=BDD h1;exact ⟨o,st1,h0,h1,TI hms hh hA f _ st1 (iZ hc hk) (Nat.le_trans hb (wR h1)) (hf.trans h2) h3⟩
  unfold OD at h;split at h
  ·rename_i h0;exact ⟨λ_=>⟨hf,h⟩,λi hi=>by rw[h0] at hi;cases hi⟩
  ·rename_i i0 l h0;split at h
   ·rename_i k hk;have hr:k∈Region.ready .any ops listed:=by rw[h0];exact List.mem_of_find?_eq_some hk
    obtain ⟨o,st1,ho,h1,h2⟩:=one hr h;have hfst:=List.find?_some hk;refine OB ho f listed st st1 hc hb (λj oj hoj hjk hun=>?_) hr h1 h2;have hjs:j<ops.size:=(Array.getElem?_eq_some_iff.1 hoj).1;have:=List.all_eq_true.1 hfst j (by simpa using hjs);simp only[Bool.or_eq_true,ae] at this;rcases this with (hle|hl)|hp
    ·omega
    ·simp_all
    ·unfold U8 at hp;simp only[Bool.or_eq_true] at hp;rcases hp with hp|hp
     ·simp_all
     ·simp_all
   ·refine ⟨λh1=>(by rw[h0] at h1;cases h1),λi hi=>?_⟩;have hi':=hi;rw[h0] at hi';exact one hi (N7 h i hi')
def TH {M:Bool} {P:Program} {E:Env} {nt:Nat} {ops:Array Oper} {base:Nat} {Q Q':St->Prop} (hQ:∀ s,Q s->Q' s):∀ {f:Nat} {listed:Array Bool} {st:St},SK M P E nt ops base Q f listed st->SK M P E nt ops base Q' f listed st
 | 0,_,_,h=>⟨h.1,hQ _ h.2⟩
 | _+1,_,_,h=>⟨λh0=>hQ _ (h.1 h0),λi hi=>by
  obtain ⟨o,st',h1,h2,h3⟩:=h.2 i hi;exact ⟨o,st',h1,h2,TH hQ h3⟩⟩
def AXP {E:Env} {nt:Nat} {ops:Array Oper} (hE:aQ cx.P E) (hm:cx.P.follows .mixedOrders=true) {id:Nat} (hmx:AVV M E ops=true) (h:SK M cx.P E nt ops st.n (λs=>Q .normal s) ops.size (Array.replicate ops.size false) (fJ ops st)):AW cx nt (.region id ops true) Q st:=by
 intro ρ a w hr;refine wp_region_any hm ?_;have hd:Below w.heap.size w w.drew:=(Below.refl _ _).drew;have hr':Rel cx nt ρ (fJ ops st) a w.drew:=⟨hr.inv.grow hd (Nat.le_add_right _ _),hr.nt,hr.defers,hr.keeps.trans' (bO.gM hd),hr.pR.below hd,λi=>(hr.nF i).grow hd⟩
 have hρ0:∀ k,st.n<=k->ρ k=none:=λk hk=>by
  cases hx:ρ k with
  | none=>rfl
  | some l=>have:=(hr.inv.new k l hx).1;omega
 exact LV hmx (Q:=λs=>Q .normal s) (Q':=sV cx nt Q) hE (λs ρ a w hs hr=>⟨s,ρ,hr,hs⟩) ops.size (Array.replicate ops.size false) (fJ ops st) ρ a w.drew hr' (by simp) (ak _) (λ_ i hi _ _=>hρ0 _ (by omega)) h
def ALL {dr:Bool} {o:Oper} {fid:FuncId} {args:List D} (h:APC E dr o st=some (fid,args)):∃ c f a b,o.op = .call c/\c.callee = .value f/\jT (ev (cD true st.s) f)=some (fid,a,b)/\args=a++c.args.toList.map (ev (cD true st.s))++b:=by
 unfold APC at h;split at h
 ·rename_i c hc;split at h
  ·rename_i f hf;split at h
   ·rename_i fid' a b hcal;split at h
    ·cases h;exact ⟨c,f,a,b,hc,hf,hcal,rfl⟩
    ·rename_i hl;cases h;exact ⟨c,f,a,b,hc,hf,hcal,hl.symm⟩
    ·cases h
   ·cases h
  ·cases h
 ·cases h
def QB {dr b:Bool} {o:Oper} {it:Operand} (h:mapOf dr o=some (b,it)):o.guard=none/\((b=true/\o.op = .next it false)\/(b=false/\o.op = .entry it)):=by
 unfold mapOf at h
 grind
end
section
variable {cx : Cx} {E : Env} {nt : Nat} {ops : Array Oper}
def xR (hE:aQ cx.P E) (hh:fH E) {I:Inl} (hI:AJC cx.P I) {en:Ent} {A:Nat->Bool} {st₀:St} {K:St->Prop} {Q:Exit->Act->World->Prop} (hQ:∀ st' ρ a w,Rel cx nt ρ st' a w->Fr A st₀ st'->K st'->Q .normal a w) :
  ∀ (l:List Oper) (k:Nat) (st:St) (ρ:Nat->Option Loc) (a:Act) (w:World),(∀ j,l[j]? = ops[k+j]?)->(∀ o∈l,∀ t,o.dst=some t->A t=true)->Fr A st₀ st->Rel cx nt ρ st a w ->
  evK bS cx.P E nt I en false ops l st K->wpOps cx.P ops Q (List.range' k l.length) a w
 | [],_,st,ρ,a,w,_,_,hf,hr,h=>by
  simpa [wpOps] using hQ st ρ a w hr hf h
 | o::l,k,st,ρ,a,w,hl,hA,hf,hr,h=>by
  have h:=sR h;have h0:ops[k]? = some o:=by simpa using (hl 0).symm
  simp only[List.length_cons,List.range'_succ,wpOps_cons];unfold wpOp;simp only[h0];have hl':∀ j,l[j]? = ops[k+1+j]? := λj=>by have:=hl (j+1);simpa [Nat.add_assoc,Nat.add_comm 1 j] using this
  have hA':∀ o∈l,∀ t,o.dst=some t->A t=true:=λo ho=>hA o (by simp[ho]);have hA0:=hA o (by simp);have key:if Region.wanted o (yielded ops a.tmps) then o.wp cx.P a w (wpOps cx.P ops Q (List.range' (k+1) l.length)) Q else wpOps cx.P ops Q (List.range' (k+1) l.length) (a.put o.dst undef) w:=by
   split at h
   ·rename_i fid args hin;obtain ⟨c,f,a1,b1,hop,hcal,hd,rfl⟩:=ALL hin;split at h
    ·rename_i hg;rw[eJ hr hg];obtain ⟨va,vb,hfv,e1,e2⟩:=HZ (hr.evS f) hd;have hargs:dF (Rd w (Own cx ρ st.σ) ρ) (a1++c.args.toList.map (ev (cD true st.s))++b1) (va++c.args.map a.eval++vb):=(e1.append (evs hr.evS c.args)).append e2;obtain ⟨⟨fn,f1,f2,f3⟩,hc⟩:=hI cx ρ st.σ st.n w fid _ _ _ rfl hr.pR hr.inv hargs h;unfold Oper.wp;have he:(execOp a.eval o).run cx.P w = .ok (.enter fid (va++c.args.map a.eval++vb)) w:=by
      have e2':¬ fn.name = "runtime.NumGoroutine" := by simpa using f2
      have e3':¬ fn.body=none:=by intro h;simp[h] at f3
      simp[execOp,hop,resolve,hcal,hfv,Deferred.ofValue,invoke,callFunc,f1,e2',e3']
     rw[he];refine hc.mono ?_;rintro e w' ⟨v,ρ',d,σ',n',rfl,g1,g2,g3,g4,g5⟩;obtain ⟨st',p1,p2⟩:=iN g5;exact xR hE hh hI hQ l (k+1) st' ρ' _ w' hl' hA' (hf.trans (oF p1 hA0 g4)) (eZ hr p1 g1 g2 g3) p2
    ·rename_i hg;rw[eJ hr hg];obtain ⟨st',p1,p2⟩:=iN h;exact xR hE hh hI hQ l (k+1) st' ρ _ w hl' hA' (hf.trans (oF p1 hA0 (rK.refl _ _))) (eZ hr p1 hr.inv (bO.refl _ _ _ _) (.p _ _ (.v _))) p2
    ·exact h.elim
   ·split at h
    ·rename_i it hmo;obtain ⟨hg,hop⟩:=QB hmo;have hop:o.op = .next it false:=by rcases hop with ⟨_,h⟩|⟨h,_⟩;exact h;cases h
     have hw:Region.wanted o (yielded ops a.tmps)=true:=by simp[Region.wanted,hg]
     simp only[hw,if_true];have fin:∀ outs,CV st.σ (ev (cD true st.s) it)=some outs->(∀ d σ',(d,σ')∈outs->∃ d',(∀ w own ρ v,Rd w own ρ d v->Rd w own ρ d' v)/\rK st.σ st.n σ' st.n/\I9 bS.toCombs nt st o.dst d' σ' st.n λst'=>evK bS cx.P E nt I en false ops l st' K) ->
       o.wp cx.P a w (wpOps cx.P ops Q (List.range' (k+1) l.length)) Q:=by
      intro outs ho hall;obtain ⟨v,w',d,σ',hrun,hmem,hinv,hkeep,hrd⟩:=AFR hr ho (ty:=o.type);obtain ⟨d',g1,g2,g3⟩:=hall d σ' hmem;obtain ⟨st',p1,p2⟩:=iN g3;unfold Oper.wp;have hx:(execOp a.eval o).run cx.P w = .ok (.value v) w':=by
       simp only[execOp,hop,Sem.run_bind,hrun,Result.andThen_ok,Sem.run_pure]
      rw[hx];exact xR hE hh hI hQ l (k+1) st' ρ _ w' hl' hA' (hf.trans (oF p1 hA0 g2)) (eZ hr p1 hinv hkeep (g1 _ _ _ _ hrd)) p2
     unfold A68 at h;split at h
     ·rename_i kk hk;split at h
      ·rename_i m since seen last hσ;split at h
       ·refine fin [(.p (.v (.tuple #[.bool false])),st.σ)] (by simp only[CV,hk,hσ]) λd σ' hm=>?_;cases List.mem_singleton.1 hm;exact ⟨_,λ_ _ _ _ h=>h,rK.refl _ _,h⟩
       ·rename_i m;split at h
        ·rename_i ro es hm;obtain ⟨hb,hA1,hB1⟩:=h;cases hleft:cE es.length seen with
         | nil =>
          refine fin [(.p (.v (.tuple #[.bool false])),st.σ)] ?_ λd σ' hm=>?_
          ·simp only[CV,hk,hσ,hm];simp_all
          ·cases List.mem_singleton.1 hm;exact ⟨_,λ_ _ _ _ h=>h,rK.refl _ _,hA1 hleft⟩
         | cons i0 left0 =>
          have hlt:∀ i∈cE es.length seen,i<es.length:=by
           intro i hi;simp only[cE,List.mem_filter,List.mem_range] at hi;exact hi.1
          have hmap:∀ (L:List Nat),(∀ i∈L,i<es.length)->∃ outs,(L.mapM λi=>(es[i]?).map λe=>(D.bX [.p (.v (.bool true)),.p (.v e.1),e.2],b8 st.σ kk (some (.lB (some m) since (seen++[i]) es.length))))=some outs /\
            ∀ d σ',(d,σ')∈outs->∃ i∈L,∃ e:Value×D,d=D.bX [.p (.v (.bool true)),.p (.v e.1),e.2]/\σ'=b8 st.σ kk (some (.lB (some m) since (seen++[i]) es.length)):=by
           intro L
           induction L with
           | nil=>intro _;exact ⟨[],rfl,λ_ _ h=>by cases h⟩
           | cons i L ih =>
            intro hL;obtain ⟨outs,q1,q2⟩:=ih λj hj=>hL j (by simp[hj]);have hi:=hL i (by simp);refine ⟨(D.bX [.p (.v (.bool true)),.p (.v es[i].1),es[i].2],b8 st.σ kk (some (.lB (some m) since (seen++[i]) es.length)))::outs,?_,λd σ' hm=>?_⟩
            ·simp_all
            ·rcases List.mem_cons.1 hm with hm|hm
             ·simp_all
             ·simp_all
          obtain ⟨outs,q1,q2⟩:=hmap (cE es.length seen) hlt;refine fin outs ?_ λd σ' hm=>?_
          ·simp only[CV,hk,hσ,hm];simp_all
          ·obtain ⟨i,hi,e,rfl,rfl⟩:=q2 d σ' hm;refine ⟨_,λw own ρ v hv=>?_,rK.set _ (ak _) hσ rfl,hB1 i hi⟩;cases hv with
           | bX _ vs z1 z2 =>
            refine .bX _ vs (by simpa using z1) λj hj=>?_
            match j,hj with
            | 0,_=>simpa using z2 0 (by simp)
            | 1,_=>exact .any _
            | 2,_=>exact .any _
        ·exact h.elim
      ·rename_i es since seen last hσ;obtain ⟨hb,hA1,hB1⟩:=h;simp only[ac,ae] at hb;cases hleft:cE es.length seen with
       | nil =>
        refine fin [(.p (.v (.tuple #[.bool false])),st.σ)] ?_ λd σ' hm=>?_
        ·simp only[CV,hk,hσ];simp_all
        ·cases List.mem_singleton.1 hm;exact ⟨_,λ_ _ _ _ h=>h,rK.refl _ _,hA1 hleft⟩
       | cons i0 left0 =>
        have hlt:∀ i∈cE es.length seen,i<es.length:=by
         intro i hi;simp only[cE,List.mem_filter,List.mem_range] at hi;exact hi.1
        have hmap:∀ (L:List Nat),(∀ i∈L,i<es.length)->∃ outs,(L.mapM λi=>(es[i]?).map λe=>(D.bX [.p (.v (.bool true)),.p (.v e.1),.p e.2],b8 st.σ kk (some (.b9 es since (seen++[i]) es.length))))=some outs /\
          ∀ d σ',(d,σ')∈outs->∃ i∈L,∃ e:Value×T,d=D.bX [.p (.v (.bool true)),.p (.v e.1),.p e.2]/\σ'=b8 st.σ kk (some (.b9 es since (seen++[i]) es.length)):=by
         intro L
         induction L with
         | nil=>intro _;exact ⟨[],rfl,λ_ _ h=>by cases h⟩
         | cons i L ih =>
          intro hL;obtain ⟨outs,q1,q2⟩:=ih λj hj=>hL j (by simp[hj]);have hi:=hL i (by simp);refine ⟨(D.bX [.p (.v (.bool true)),.p (.v es[i].1),.p es[i].2],b8 st.σ kk (some (.b9 es since (seen++[i]) es.length)))::outs,?_,λd σ' hm=>?_⟩
          ·rw[List.mapM_cons,List.getElem?_eq_getElem hi,q1];rfl
          ·rcases List.mem_cons.1 hm with hm|hm
           ·cases hm;exact ⟨i,by simp,es[i],rfl,rfl⟩
           ·obtain ⟨j,hj,e,q3⟩:=q2 d σ' hm;exact ⟨j,by simp[hj],e,q3⟩
        obtain ⟨outs,q1,q2⟩:=hmap (cE es.length seen) hlt;refine fin outs ?_ λd σ' hm=>?_
        ·simp only[CV,hk,hσ];rw[if_pos hb];rw[hleft] at q1 ⊢;exact q1
        ·obtain ⟨i,hi,e,rfl,rfl⟩:=q2 d σ' hm;refine ⟨_,λw own ρ v hv=>?_,rK.set _ (ak _) hσ rfl,hB1 i hi⟩;cases hv with
         | bX _ vs z1 z2 =>
          refine .bX _ vs (by simpa using z1) λj hj=>?_
          match j,hj with
          | 0,_=>simpa using z2 0 (by simp)
          | 1,_=>exact .any _
          | 2,_=>exact .any _
      ·exact h.elim
     ·exact h.elim
    ·rename_i it hmo;obtain ⟨hg,hop⟩:=QB hmo;have hop:o.op = .entry it:=by rcases hop with ⟨h,_⟩|⟨_,h⟩;cases h;exact h
     unfold BG7 at h;split at h
     ·rename_i kk kr ag r hk hev;split at h
      ·rename_i m since seen last hσ;split at h
       ·split at h
        ·rename_i ro es hm;obtain ⟨hb,i,x,y,g1,g2,g3⟩:=h;have hb:es.length=last:=of_decide_eq_true hb;obtain ⟨st',p1,p2⟩:=iN g3;have hent:AJ2 st.σ (ev (cD true st.s) it)=some (.p (.bX [.v (LJ kr x),aF ag r y])):=by
          simp only[AJ2,hk,hσ,hm,ah hb,g1,g2,Option.map_some,a8]
         have hst:fD cx.P E nt ops o st=some st':=by
          have hg1:gI ops st.s o=some true:=by simp[gI,hg]
          unfold fD;simp only[hop,eF,Bool.false_eq_true,if_false,hg1,nv,hent,one,Option.map_some,p1]
         exact AI (Q:=Q) hE hr hst (λρ' a' w' hr'=>xR hE hh hI hQ l (k+1) st' ρ' a' w' hl' hA' (hf.trans (lK hh hst hA0)) hr' p2)
        ·exact h.elim
       ·exact h.elim
      ·rename_i es since seen last hσ;obtain ⟨hb,i,x,y,g1,g2,g3⟩:=h;have hb:es.length=last:=of_decide_eq_true hb;obtain ⟨st',p1,p2⟩:=iN g3;have g4:∃ e,es[i]? = some e/\e.1=LJ kr x/\e.2=aF ag r y:=by
        simp only[rI,List.getElem?_map,aa,a8,Prod.mk.injEq,D.p.injEq] at g2;omega
       obtain ⟨e,q1,q2,q3⟩:=g4;have hent:AJ2 st.σ (ev (cD true st.s) it)=some (.p (.bX [.v (LJ kr x),aF ag r y])):=by
        simp only[AJ2,hk,hσ,ah hb,g1,q1,Option.map_some,q2,q3]
       have hst:fD cx.P E nt ops o st=some st':=by
        have hg1:gI ops st.s o=some true:=by simp[gI,hg]
        unfold fD;simp only[hop,eF,Bool.false_eq_true,if_false,hg1,nv,hent,one,Option.map_some,p1]
       exact AI (Q:=Q) hE hr hst (λρ' a' w' hr'=>xR hE hh hI hQ l (k+1) st' ρ' a' w' hl' hA' (hf.trans (lK hh hst hA0)) hr' p2)
      ·exact h.elim
     ·exact h.elim
    ·obtain ⟨st1,h1,h2⟩:=jC h;exact AI (Q:=Q) hE hr h1 (λρ' a' w' hr'=>xR hE hh hI hQ l (k+1) st1 ρ' a' w' hl' hA' (hf.trans (lK hh h1 hA0)) hr' h2)
  split
  ·simp_all
  ·simp_all
end
end Go.Pv
