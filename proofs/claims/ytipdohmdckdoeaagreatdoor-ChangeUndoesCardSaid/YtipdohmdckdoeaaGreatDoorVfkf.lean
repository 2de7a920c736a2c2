/-
  The symbolic executor, part f: code, and functions.
-/
import Derived.Test.YtipdohmdckdoeaaGreatDoorVfke
set_option linter.defProp false
set_option linter.unusedSimpArgs false
namespace Go.Pv
open Go Go.RowKit
abbrev Inl:=FuncId->List D->(Nat->Option bE)->Nat->KN->Prop
abbrev Ent:=Option (Sy×Bool×Sy)
section
variable (C : jG) (P : Program) (E : Env) (nt : Nat)
def AL7 (dr:Bool) (o:Oper) (st:St):Option (FuncId×List D):=match dr,o.op with
 | false,.call c=>match c.callee with
  | .value f=>match j5 (ev (cL true st.s) f) with
   | some (fid,a,b)=>match E fid,a++c.args.toList.map (ev (cL true st.s))++b with
    | none,l=>some (fid,l)
    | some (.ASG _),.p (.v (.pointer none))::l=>some (fid,.p (.v (.pointer none))::l)
    | _,_=>none
   | none=>none
  | _=>none
 | _,_=>none
def A4A (σ:Nat->Option bE) (d:D) (K:D->(Nat->Option bE)->Prop):Prop :=
 match d with
 | .it k=>match σ k with
  | some (.nJ m since seen last)=>match m with
   | none=>K (.p (.v (.tuple #[.bool false]))) σ
   | some m=>match σ m with
    | some (.map _ es)=>C.yJ (decide (es.length<=since)&&decide (since<=last)) (C.each es.length seen (K (.p (.v (.tuple #[.bool false]))) σ)
      λi=>K (.bY [.p (.v (.bool true)),.any,.any]) (cC σ k (some (.nJ (some m) since (seen++[i]) es.length))))
    | _=>C.bad 401
  | some (.cH es since seen last)=>C.yJ (decide (es.length<=since)&&decide (since<=last)) (C.each es.length seen (K (.p (.v (.tuple #[.bool false]))) σ)
      λi=>K (.bY [.p (.v (.bool true)),.any,.any]) (cC σ k (some (.cH es since (seen++[i]) es.length))))
  | _=>C.bad 402
 | _=>C.bad 403
def BD6 (en:Ent) (σ:Nat->Option bE) (d:D) (K:D->Prop):Prop :=
 match d,en with
 | .it k,some (kr,ag,r)=>match σ k with
  | some (.nJ m _ seen last)=>match m with
   | some m=>match σ m with
    | some (.map _ es)=>C.yJ (decide (es.length=last)) (C.ent kr ag r es seen λx y=>K (.p (.bY [.v (ON kr x),aF ag r y])))
    | _=>C.bad 411
   | none=>C.bad 412
  | some (.cH es _ seen last)=>C.yJ (decide (es.length=last)) (C.ent kr ag r (rK es) seen λx y=>K (.p (.bY [.v (ON kr x),aF ag r y])))
  | _=>C.bad 413
 | _,_=>C.bad 414
def mapOf (dr:Bool) (o:Oper):Option (Bool×Operand):=match dr,o.guard,o.op with
 | false,none,.next it false=>some (true,it)
 | false,none,.entry it=>some (false,it)
 | _,_,_=>none
def evK (I:Inl) (en:Ent) (dr:Bool) (ops:Array Oper):List Oper->St->(St->Prop)->Prop
 | [],st,K=>K st
 | o::r,st,K=>splitK ops o st λst =>
  match AL7 E dr o st with
  | some (fid,args)=>match fT ops st.s o with
   | some true=>I fid args st.σ st.n λd σ' n'=>HW C.toCombs nt st o.dst d σ' n' λst'=>evK I en dr ops r st' K
   | some false=>HW C.toCombs nt st o.dst (.p (.v undef)) st.σ st.n λst'=>evK I en dr ops r st' K
   | none=>C.bad 203
  | none=>match mapOf dr o with
   | some (true,it)=>A4A C st.σ (ev (cL true st.s) it) λd σ'=>HW C.toCombs nt st o.dst d σ' st.n λst'=>evK I en dr ops r st' K
   | some (false,it)=>BD6 C en st.σ (ev (cL true st.s) it) λd=>HW C.toCombs nt st o.dst d st.σ (st.n+1) λst'=>evK I en dr ops r st' K
   | none=>BJ C.toCombs P E nt ops o st λst'=>evK I en dr ops r st' K
end
def AGP (P:Program) (I:Inl):Prop:=∀ (cx:Cx) (ρ:Nat->Option Loc) (σ:Nat->Option bE) (n:Nat) (w:World) (fid:FuncId) (args:List D) (vs:Array Value) (K:KN),cx.P=P->Good P w->Inv cx ρ σ n w->dJ (Rd w (Own cx ρ σ) ρ) args vs->I fid args σ n K ->
 (∃ fn,P.funcs[fid]? = some fn/\(fn.name == "runtime.NumGoroutine")=false/\fn.body.isNone=false) /\
 Calls P fid vs w (λe w'=>∃ v ρ' d σ' n',e = .returned v/\Inv cx ρ' σ' n' w'/\bQ cx ρ ρ' σ σ' w w'/\Rd w' (Own cx ρ' σ') ρ' d v/\uX σ n σ' n'/\K d σ' n')
section
variable {P : Program} {E : Env} {nt : Nat} {ops : Array Oper}
def A0F (hh:gE E) {I:Inl} {en:Ent} {A:Nat->Bool} {st₀:St} {K:St->Prop}:∀ (l:List Oper) (st:St),(∀ o∈l,∀ t,o.dst=some t->A t=true)->Fr A st₀ st->evK bX P E nt I en true ops l st K ->
  ∃ st',evL P E nt ops l st=some st'/\Fr A st₀ st'/\K st'
 | [],st,_,hf,h=>⟨st,rfl,hf,h⟩
 | o::l,st,hA,hf,h=>by
  have h:=sK h;simp only[AL7,mapOf] at h;obtain ⟨st1,h1,h2⟩:=jO h;obtain ⟨st2,h3,h4,h5⟩:=A0F hh l st1 (λo ho=>hA o (by simp[ho])) (hf.trans (lS hh h1 (hA o (by simp)))) h2;exact ⟨st2,by simp only[evL,h1,Option.bind_some,h3],h4,h5⟩
def wL (M:Bool) (C:jG) (P:Program) (E:Env) (nt:Nat) (ops:Array Oper) (base:Nat):List Nat->St->(St->Prop)->Prop
 | [],st,K=>K st
 | j::r,st,K=>match ops[j]? with
  | none=>C.bad 900
  | some o=>splitK ops o st λst=>match cD M E ops o with
   | .free=>BJ C.toCombs P E nt ops o st λst'=>wL M C P E nt ops base r st' K
   | .quiet=>BJ C.toCombs P E nt ops o ⟨st.s,wF base st.σ,st.n⟩ λst'=>wL M C P E nt ops base r ⟨st'.s,st.σ,st.n⟩ K
   | .alloc=>match o.op with
    | .alloc e=>match (tz? P e).bind λz=>pD (z.cells.toList.map λv=>.p (.v v)),st.σ (base+j) with
     | some b,none=>HW C.toCombs nt st o.dst (.ptr (base+j) 0 0) (cC st.σ (base+j) (some b)) st.n λst'=>wL M C P E nt ops base r st' K
     | _,_=>C.bad 901
    | _=>C.bad 901
   | .new=>match o.op with
    | .store t a v=>match ev (cL true st.s) a with
     | .ptr k x y=>match decide (base<=k),j4 P st.σ t (.ptr k x y) (ev (cL true st.s) v) with
      | true,some σ'=>HW C.toCombs nt st o.dst (.p (.v undef)) σ' st.n λst'=>wL M C P E nt ops base r st' K
      | _,_=>C.bad 902
     | _=>C.bad 903
    | _=>C.bad 903
   | .old=>match o.op with
    | .store t a v=>match ev (cL true st.s) a with
     | .ptr k x y=>match j4 P st.σ t (.ptr k x y) (ev (cL true st.s) v) with
      | some σ'=>HW C.toCombs nt st o.dst (.p (.v undef)) σ' st.n λst'=>wL M C P E nt ops base r st' K
      | _=>C.bad 905
     | _=>C.bad 906
    | _=>C.bad 906
   | .ask=>BJ C.toCombs P E nt ops o st λst'=>wL M C P E nt ops base r st' K
   | .app=>BJ C.toCombs P E nt ops o st λst'=>wL M C P E nt ops base r st' K
   | .mk=>BJ C.toCombs P E nt ops o st λst'=>wL M C P E nt ops base r st' K
   | .wN=>BJ C.toCombs P E nt ops o st λst'=>wL M C P E nt ops base r st' K
def TS {P:Program} {σ σ':Nat->Option bE} {t:TypeId} {k x y n:Nat} {v:D} (h:j4 P σ t (.ptr k x y) v=some σ'):uX σ n σ' n:=by
 unfold j4 at h;simp only at h;split at h
 ·rename_i hk hz;split at h
  ·split at h
   ·cases h;exact uX.set _ (al _) hk rfl
   ·cases h
  ·cases h
 ·rename_i hk hz;split at h
  ·split at h
   ·cases h;exact uX.set _ (al _) hk rfl
   ·cases h
  ·cases h
 ·cases h
variable {M:Bool}{base:Nat}{st st1:St}
def AZE {P:Program} {E:Env} {nt:Nat} {ops:Array Oper} {j:Nat} {o:Oper} (hk:cD M E ops o = .app) (h1:fE P E nt ops o st=some st1):hO M P E nt ops base j o st=some st1:=by
 obtain ⟨c,ho,hc⟩:=ACT hk;unfold fE at h1;rw[if_neg (by rw[ho];simp[eH,hc])] at h1;unfold hO gM;rw[hk];dsimp only;cases hg:fT ops st.s o with
 | none=>rw[hg] at h1;cases h1
 | some b=>cases b with
  | false=>rw[hg] at h1;exact h1
  | true =>
   rw[hg] at h1;dsimp only at h1 ⊢;rw[ho] at h1;rw[ho];unfold nv at h1;dsimp only at h1 ⊢;rw[hc] at h1;split at h1
   ·rename_i d σ' n' hn;split at hn
    ·rename_i x y t u _ ha hb;rw[ha,hb];dsimp only;unfold one at hn;cases hap:jH P st.σ st.n t u (ev (cL true st.s) x) (ev (cL true st.s) y) with
     | none=>rw[hap] at hn;cases hn
     | some r=>rw[hap] at hn;cases hn;exact h1
    ·rename_i hv;cases hv
    ·rename_i hv _ _;cases hv
    ·cases hn
   ·cases h1
def BBN {P:Program} {E:Env} {nt:Nat} {ops:Array Oper} {j:Nat} {o:Oper} (hk:cD M E ops o = .mk) (h1:fE P E nt ops o st=some st1):hO M P E nt ops base j o st=some st1:=by
 unfold fE at h1;rw[if_neg (by rw[BBM hk];decide)] at h1;unfold hO gM;rw[hk];dsimp only;cases hg:fT ops st.s o with
 | none=>rw[hg] at h1;cases h1
 | some b=>cases b with
  | false=>rw[hg] at h1;exact h1
  | true =>
   rw[hg] at h1;dsimp only at h1 ⊢;split at h1
   ·rename_i d σ' n' hn;rw[hn];exact h1
   ·cases h1
def AR6 {E:Env} {ops:Array Oper} {o:Oper} (h:cD M E ops o = .wN):eH E o.op=false:=by
 unfold cD at h;split at h
 ·cases h
 ·cases h
 ·cases h
 ·rename_i h1 h2 h3;cases hq:eH E o.op with
  | false=>rfl
  | true=>exact absurd hq h3
def ASD {P:Program} {E:Env} {nt:Nat} {ops:Array Oper} {j:Nat} {o:Oper} (hk:cD M E ops o = .wN) (h1:fE P E nt ops o st=some st1) (hn:st.n<=st1.n):hO M P E nt ops base j o st=some st1:=by
 unfold fE at h1;rw[if_neg (by rw[AR6 hk];decide)] at h1;unfold hO gM;rw[hk];dsimp only;cases hg:fT ops st.s o with
 | none=>rw[hg] at h1;cases h1
 | some b=>cases b with
  | false=>rw[hg] at h1;exact h1
  | true =>
   rw[hg] at h1;dsimp only at h1 ⊢;split at h1
   ·rename_i d σ' n' hn';obtain ⟨l1,rfl⟩:=sD h1;have hb:Nat.ble st.n n'=true:=Nat.ble_eq_true_of_le hn;rw[hn'];dsimp only;rw[hb];exact h1
   ·cases h1
def D8 {M:Bool} {P:Program} {E:Env} {nt:Nat} {ops:Array Oper} {base:Nat} (hh:gE E) {A:Nat->Bool} {st₀:St} {K:St->Prop} (hA:∀ o∈ops.toList,∀ t,o.dst=some t->A t=true):∀ (l:List Nat) (st:St),Fr A st₀ st->wL M bX P E nt ops base l st K ->
  ∃ st',U8 M P E nt ops base l st=some st'/\Fr A st₀ st'/\K st'
 | [],st,hf,h=>⟨st,rfl,hf,h⟩
 | j::l,st,hf,h=>by
  unfold wL at h;split at h
  ·exact h.elim
  ·rename_i o h0;have h:=sK h;have hA0:=hA o (by rw[Array.mem_toList_iff];exact Array.mem_of_getElem? h0);have go:∀ {st1:St},hO M P E nt ops base j o st=some st1->Fr A st st1->wL M bX P E nt ops base l st1 K->∃ st',U8 M P E nt ops base (j::l) st=some st'/\Fr A st₀ st'/\K st':=by
    intro st1 h1 hf1 h2;obtain ⟨st2,h3,h4,h5⟩:=D8 hh hA l st1 (hf.trans hf1) h2;exact ⟨st2,by simp only[U8,h0,h1,Option.bind_some,h3],h4,h5⟩
   split at h
   ·rename_i hk;obtain ⟨st1,h1,h2⟩:=jO h;refine go ?_ (lS hh h1 hA0) h2;unfold fE at h1;rw[if_pos (pS (HO hk))] at h1;unfold hO;rw[p8 hk];split at h1
    ·rename_i d hd;rw[hd];exact h1
    ·cases h1
   ·rename_i hk;obtain ⟨st1,h1,h2⟩:=jO h;unfold fE at h1;rw[if_pos (WM (vN hk))] at h1;simp only at h1;split at h1
    ·rename_i d hd;obtain ⟨l1,rfl⟩:=sD h1;have hp:rM nt st o.dst d st.σ st.n=some ⟨rO st.s o.dst d,st.σ,st.n⟩:=vR l1;refine go (st1:=⟨rO st.s o.dst d,st.σ,st.n⟩) ?_ (oI hp hA0 ⟨al _,λ_ _ _ h _=>h⟩) h2;unfold hO;rw[lZ hk,hd];exact hp
    ·cases h1
   ·rename_i hk;split at h
    ·rename_i e ho;split at h
     ·rename_i b hb hσ;obtain ⟨st1,h1,h2⟩:=iX h;refine go ?_ (oI h1 hA0 ⟨al _,λk x hk hx hw=>?_⟩) h2
      ·unfold hO gM;rw[hk];simp only[ho,hb];exact h1
      ·rw[bK _ _ (λe=>by subst e;rw[hσ] at hx;cases hx)];exact hx
     ·exact h.elim
    ·exact h.elim
   ·rename_i hk;split at h
    ·rename_i t a v ho;split at h
     ·rename_i k x y hev;split at h
      ·rename_i σ' hb hst;obtain ⟨st1,h1,h2⟩:=iX h;refine go ?_ (oI h1 hA0 (TS hst)) h2;unfold hO gM;rw[hk];simp only[ho,hev,hb,hst];exact h1
      ·exact h.elim
     ·exact h.elim
    ·exact h.elim
   ·rename_i hk;split at h
    ·rename_i t a v ho;split at h
     ·rename_i k x y hev;split at h
      ·rename_i σ' hst;obtain ⟨st1,h1,h2⟩:=iX h;refine go ?_ (oI h1 hA0 (TS hst)) h2;unfold hO gM;rw[hk];simp only[ho,hev,hst];exact h1
      ·exact h.elim
     ·exact h.elim
    ·exact h.elim
   ·rename_i hk;obtain ⟨st1,h1,h2⟩:=jO h;refine go ?_ (lS hh h1 hA0) h2;unfold fE at h1;rw[if_pos (A3J hk)] at h1;unfold hO;rw[D4 hk];split at h1
    ·rename_i d hd;rw[hd];exact h1
    ·cases h1
   ·rename_i hk;obtain ⟨st1,h1,h2⟩:=jO h;exact go (AZE hk h1) (lS hh h1 hA0) h2
   ·rename_i hk;obtain ⟨st1,h1,h2⟩:=jO h;exact go (BBN hk h1) (lS hh h1 hA0) h2
   ·rename_i hk;obtain ⟨st1,h1,h2⟩:=jO h;have hf1:=lS hh h1 hA0;exact go (ASD hk h1 hf1.b.1) hf1 h2
def A9Q (C:jG) (g:Nat->Prop):List Nat->Prop
 | []=>C.bad 508
 | [i]=>g i
 | i::j::l=>C.both (g i) (A9Q C g (j::l))
def anyS (C:jG) (P:Program) (E:Env) (nt:Nat) (ops:Array Oper) (K:St->Prop):Nat->Array Bool->St->Prop
 | 0,listed,st=>match Region.ready .any ops listed with
  | []=>K st
  | _=>C.bad 507
 | f+1,listed,st=>match Region.ready .any ops listed with
  | []=>K st
  | i::l=>A9Q C (λi=>match ops[i]? with
   | none=>C.bad 509
   | some o=>splitK ops o st λst=>BJ C.toCombs P E nt ops o st λst'=>anyS C P E nt ops K f (listed.setIfInBounds i true) st') (i::l)
def MM {g:Nat->Prop}:∀ {l:List Nat},A9Q bX g l->∀ i∈l,g i
 | [],h,_,_=>h.elim
 | [a],h,i,hi=>by
  cases List.mem_singleton.1 hi;exact h
 | a::j::l,h,i,hi=>by
  obtain ⟨h1,h2⟩:=h;rcases List.mem_cons.1 hi with rfl|hi
  ·exact h1
  ·exact MM (l:=j::l) h2 i hi
def ZU {P:Program} {E:Env} {nt:Nat} {ops:Array Oper} (hh:gE E) {A:Nat->Bool} {st₀:St} {K:St->Prop} (hA:∀ o∈ops.toList,∀ t,o.dst=some t->A t=true):∀ (f:Nat) (listed:Array Bool) (st:St),Fr A st₀ st->anyS bX P E nt ops K f listed st ->
  QN P E nt ops (λst'=>Fr A st₀ st'/\K st') f listed st
 | 0,listed,st,hf,h=>by
  unfold anyS at h;split at h
  ·rename_i h0;exact ⟨h0,hf,h⟩
  ·exact h.elim
 | f+1,listed,st,hf,h=>by
  unfold anyS at h;split at h
  ·rename_i h0;exact ⟨λ_=>⟨hf,h⟩,λi hi=>by rw[h0] at hi;cases hi⟩
  ·rename_i i0 l h0;refine ⟨λh1=>(by rw[h0] at h1;cases h1),λi hi=>?_⟩;rw[h0] at hi;have h2:=MM h i hi;split at h2
   ·exact h2.elim
   ·rename_i o ho;have hA0:=hA o (by rw[Array.mem_toList_iff];exact Array.mem_of_getElem? ho);obtain ⟨st1,h3,h4⟩:=jO (sK h2);exact ⟨o,st1,ho,h3,ZU hh hA f _ st1 (hf.trans (lS hh h3 hA0)) h4⟩
def RE {P:Program} {E:Env} {nt:Nat} {ops:Array Oper} {Q Q':St->Prop} (hQ:∀ s,Q s->Q' s):∀ {f:Nat} {listed:Array Bool} {st:St},QN P E nt ops Q f listed st->QN P E nt ops Q' f listed st
 | 0,_,_,h=>⟨h.1,hQ _ h.2⟩
 | _+1,_,_,h=>⟨λh0=>hQ _ (h.1 h0),λi hi=>by
  obtain ⟨o,st',h1,h2,h3⟩:=h.2 i hi;exact ⟨o,st',h1,h2,RE hQ h3⟩⟩
variable {cx:Cx}{Q:Exit->St->Prop}
def BEM {E:Env} {nt:Nat} {ops:Array Oper} (hE:aR cx.P E) (hm:cx.P.follows .mixedOrders=true) {id:Nat} (h:QN cx.P E nt ops (λs=>Q .normal s) ops.size (Array.replicate ops.size false) st):AW cx nt (.region id ops true) Q st:=by
 intro ρ a w hr;refine wp_region_any hm ?_;have hd:Below w.heap.size w w.drew:=(Below.refl _ _).drew;have hr':Rel cx nt ρ st a w.drew:=⟨hr.inv.grow hd (al _),hr.nt,hr.defers,hr.keeps.trans' (bQ.gY hd),hr.oO.below hd,λi=>(hr.nG i).grow hd⟩
 exact KB (Q:=λs=>Q .normal s) (Q':=sO cx nt Q) hE (λs ρ a w hs hr=>⟨s,ρ,hr,hs⟩) ops.size (Array.replicate ops.size false) st ρ a w.drew hr' h
def BAD (M:Bool) (E:Env) (ops:Array Oper) (ms:List Nat) (listed:Array Bool) (k:Nat):Bool:=(List.range ops.size).all λj=>decide (j=k)||listed.getD j true||TG M E ops ms k j
def MR (M:Bool) (C:jG) (P:Program) (E:Env) (nt:Nat) (ops:Array Oper) (base:Nat) (ms:List Nat) (K:St->Prop):Nat->Array Bool->St->Prop
 | 0,listed,st=>match Region.ready .any ops listed with
  | []=>K st
  | _=>C.bad 511
 | f+1,listed,st=>match Region.ready .any ops listed with
  | []=>K st
  | i::l=>match (i::l).find? (BAD M E ops ms listed) with
   | some k=>wL M C P E nt ops base [k] st λst'=>MR M C P E nt ops base ms K f (listed.setIfInBounds k true) st'
   | none=>A9Q C (λk=>wL M C P E nt ops base [k] st λst'=>MR M C P E nt ops base ms K f (listed.setIfInBounds k true) st') (i::l)
def BAC {P:Program} {E:Env} {nt:Nat} {ops:Array Oper} {k:Nat} {st':St} (h:U8 M P E nt ops base [k] st=some st'):∃ o,ops[k]? = some o/\hO M P E nt ops base k o st=some st':=by
 simp only[U8] at h;split at h
 ·rename_i o h0;simp only[Option.bind_eq_some_iff] at h;obtain ⟨st1,h1,h2⟩:=h;cases h2;exact ⟨o,h0,h1⟩
 ·cases h
def RG {M:Bool} {P:Program} {E:Env} {nt:Nat} {ops:Array Oper} {base:Nat} {ms:List Nat} (hms:∀ j i,(ms.getD j 0).testBit i=true->Reach ops j i) (hh:gE E) {A:Nat->Bool} {st₀:St} {K:St->Prop} (hA:∀ o∈ops.toList,∀ t,o.dst=some t->A t=true) :
  ∀ (f:Nat) (listed:Array Bool) (st:St),qP ops listed->base<=st.n->Fr A st₀ st->MR M bX P E nt ops base ms K f listed st->QO M P E nt ops base (λst'=>Fr A st₀ st'/\K st') f listed st
 | 0,listed,st,_,_,hf,h=>by
  unfold MR at h;split at h
  ·rename_i h0;exact ⟨h0,hf,h⟩
  ·exact h.elim
 | f+1,listed,st,hc,hb,hf,h=>by
  have one:∀ {k:Nat},k∈Region.ready .any ops listed->(wL M bX P E nt ops base [k] st λst'=>MR M bX P E nt ops base ms K f (listed.setIfInBounds k true) st')->∃ o st',ops[k]? = some o/\hO M P E nt ops base k o st=some st'/\QO M P E nt ops base (λst'=>Fr A st₀ st'/\K st') f (listed.setIfInBounds k true) st':=by
   intro k hk h;obtain ⟨st1,h1,h2,h3⟩:=D8 hh hA [k] st (Fr.refl _ _) h;obtain ⟨o,h0,h1⟩:=BAC h1;exact ⟨o,st1,h0,h1,RG hms hh hA f _ st1 (jK hc hk) (Nat.le_trans hb (wA h1)) (hf.trans h2) h3⟩
  unfold MR at h;split at h
  ·rename_i h0;exact ⟨λ_=>⟨hf,h⟩,λi hi=>by rw[h0] at hi;cases hi⟩
  ·rename_i i0 l h0;split at h
   ·rename_i k hk;have hr:k∈Region.ready .any ops listed:=by rw[h0];exact List.mem_of_find?_eq_some hk
    obtain ⟨o,st1,ho,h1,h2⟩:=one hr h;have hfst:=List.find?_some hk;refine MO ho f listed st st1 hc hb (λj oj hoj hjk hun=>?_) hr h1 h2;have hjs:j<ops.size:=(Array.getElem?_eq_some_iff.1 hoj).1;have:=List.all_eq_true.1 hfst j (by simpa using hjs);simp only[Bool.or_eq_true,ah] at this;rcases this with (hle|hl)|hp
    ·exact absurd hle hjk
    ·rw[hun] at hl;cases hl
    ·unfold TG at hp;simp only[Bool.or_eq_true] at hp;rcases hp with hp|hp
     ·exact .inl (hms j k hp)
     ·rw[ho,hoj] at hp;simp only[ac] at hp;exact .inr ⟨hp.2,hp.1⟩
   ·refine ⟨λh1=>(by rw[h0] at h1;cases h1),λi hi=>?_⟩;have hi':=hi;rw[h0] at hi';exact one hi (MM h i hi')
def RF {M:Bool} {P:Program} {E:Env} {nt:Nat} {ops:Array Oper} {base:Nat} {Q Q':St->Prop} (hQ:∀ s,Q s->Q' s):∀ {f:Nat} {listed:Array Bool} {st:St},QO M P E nt ops base Q f listed st->QO M P E nt ops base Q' f listed st
 | 0,_,_,h=>⟨h.1,hQ _ h.2⟩
 | _+1,_,_,h=>⟨λh0=>hQ _ (h.1 h0),λi hi=>by
  obtain ⟨o,st',h1,h2,h3⟩:=h.2 i hi;exact ⟨o,st',h1,h2,RF hQ h3⟩⟩
def AT6 {E:Env} {nt:Nat} {ops:Array Oper} (hE:aR cx.P E) (hm:cx.P.follows .mixedOrders=true) {id:Nat} (hmx:ASJ M E ops=true) (h:QO M cx.P E nt ops st.n (λs=>Q .normal s) ops.size (Array.replicate ops.size false) (fJ ops st)):AW cx nt (.region id ops true) Q st:=by
 intro ρ a w hr;refine wp_region_any hm ?_;have hd:Below w.heap.size w w.drew:=(Below.refl _ _).drew;have hr':Rel cx nt ρ (fJ ops st) a w.drew:=⟨hr.inv.grow hd (Nat.le_add_right _ _),hr.nt,hr.defers,hr.keeps.trans' (bQ.gY hd),hr.oO.below hd,λi=>(hr.nG i).grow hd⟩
 have hρ0:∀ k,st.n<=k->ρ k=none:=λk hk=>by
  cases hx:ρ k with
  | none=>rfl
  | some l=>have:=(hr.inv.new k l hx).1;omega
 exact KC hmx (Q:=λs=>Q .normal s) (Q':=sO cx nt Q) hE (λs ρ a w hs hr=>⟨s,ρ,hr,hs⟩) ops.size (Array.replicate ops.size false) (fJ ops st) ρ a w.drew hr' (by simp) (al _) (λ_ i hi _ _=>hρ0 _ (by omega)) h
def AIP {dr:Bool} {o:Oper} {fid:FuncId} {args:List D} (h:AL7 E dr o st=some (fid,args)):∃ c f a b,o.op = .call c/\c.callee = .value f/\j5 (ev (cL true st.s) f)=some (fid,a,b)/\args=a++c.args.toList.map (ev (cL true st.s))++b:=by
 unfold AL7 at h;split at h
 ·rename_i c hc;split at h
  ·rename_i f hf;split at h
   ·rename_i fid' a b hcal;split at h
    ·cases h;exact ⟨c,f,a,b,hc,hf,hcal,rfl⟩
    ·rename_i hl;cases h;exact ⟨c,f,a,b,hc,hf,hcal,hl.symm⟩
    ·cases h
   ·cases h
  ·cases h
 ·cases h
def OQ {dr b:Bool} {o:Oper} {it:Operand} (h:mapOf dr o=some (b,it)):o.guard=none/\((b=true/\o.op = .next it false)\/(b=false/\o.op = .entry it)):=by
 unfold mapOf at h;split at h
 ·rename_i hg ho;cases h;exact ⟨hg,.inl ⟨rfl,ho⟩⟩
 ·rename_i hg ho;cases h;exact ⟨hg,.inr ⟨rfl,ho⟩⟩
 ·cases h
end
section
variable {cx : Cx} {E : Env} {nt : Nat} {ops : Array Oper}
def xE (hE:aR cx.P E) (hh:gE E) {I:Inl} (hI:AGP cx.P I) {en:Ent} {A:Nat->Bool} {st₀:St} {K:St->Prop} {Q:Exit->Act->World->Prop} (hQ:∀ st' ρ a w,Rel cx nt ρ st' a w->Fr A st₀ st'->K st'->Q .normal a w) :
  ∀ (l:List Oper) (k:Nat) (st:St) (ρ:Nat->Option Loc) (a:Act) (w:World),(∀ j,l[j]? = ops[k+j]?)->(∀ o∈l,∀ t,o.dst=some t->A t=true)->Fr A st₀ st->Rel cx nt ρ st a w ->
  evK bX cx.P E nt I en false ops l st K->wpOps cx.P ops Q (List.range' k l.length) a w
 | [],_,st,ρ,a,w,_,_,hf,hr,h=>by
  simpa [wpOps] using hQ st ρ a w hr hf h
 | o::l,k,st,ρ,a,w,hl,hA,hf,hr,h=>by
  have h:=sK h;have h0:ops[k]? = some o:=by simpa using (hl 0).symm
  simp only[List.length_cons,List.range'_succ,wpOps_cons];unfold wpOp;simp only[h0];have hl':∀ j,l[j]? = ops[k+1+j]? := λj=>by have:=hl (j+1);simpa [Nat.add_assoc,Nat.add_comm 1 j] using this
  have hA':∀ o∈l,∀ t,o.dst=some t->A t=true:=λo ho=>hA o (by simp[ho]);have hA0:=hA o (by simp);have key:if Region.wanted o (yielded ops a.tmps) then o.wp cx.P a w (wpOps cx.P ops Q (List.range' (k+1) l.length)) Q else wpOps cx.P ops Q (List.range' (k+1) l.length) (a.put o.dst undef) w:=by
   split at h
   ·rename_i fid args hin;obtain ⟨c,f,a1,b1,hop,hcal,hd,rfl⟩:=AIP hin;split at h
    ·rename_i hg;rw[eY hr hg];simp only[if_true];obtain ⟨va,vb,hfv,e1,e2⟩:=GR (hr.evS f) hd;have hargs:dJ (Rd w (Own cx ρ st.σ) ρ) (a1++c.args.toList.map (ev (cL true st.s))++b1) (va++c.args.map a.eval++vb):=(e1.append (evs hr.evS c.args)).append e2;obtain ⟨⟨fn,f1,f2,f3⟩,hc⟩:=hI cx ρ st.σ st.n w fid _ _ _ rfl hr.oO hr.inv hargs h;unfold Oper.wp;have he:(execOp a.eval o).run cx.P w = .ok (.enter fid (va++c.args.map a.eval++vb)) w:=by
      have e2':¬ fn.name = "runtime.NumGoroutine" := by simpa using f2
      have e3':¬ fn.body=none:=by intro h;simp[h] at f3
      simp[execOp,hop,resolve,hcal,hfv,Deferred.ofValue,invoke,callFunc,f1,e2',e3']
     rw[he];refine hc.mono ?_;rintro e w' ⟨v,ρ',d,σ',n',rfl,g1,g2,g3,g4,g5⟩;obtain ⟨st',p1,p2⟩:=iX g5;exact xE hE hh hI hQ l (k+1) st' ρ' _ w' hl' hA' (hf.trans (oI p1 hA0 g4)) (fA hr p1 g1 g2 g3) p2
    ·rename_i hg;rw[eY hr hg];simp only[Bool.false_eq_true,if_false];obtain ⟨st',p1,p2⟩:=iX h;exact xE hE hh hI hQ l (k+1) st' ρ _ w hl' hA' (hf.trans (oI p1 hA0 (uX.refl _ _))) (fA hr p1 hr.inv (bQ.refl _ _ _ _) (.p _ _ (.v _))) p2
    ·exact h.elim
   ·split at h
    ·rename_i it hmo;obtain ⟨hg,hop⟩:=OQ hmo;have hop:o.op = .next it false:=by rcases hop with ⟨_,h⟩|⟨h,_⟩;exact h;cases h
     have hw:Region.wanted o (yielded ops a.tmps)=true:=by simp[Region.wanted,hg]
     simp only[hw,if_true];have fin:∀ outs,BG st.σ (ev (cL true st.s) it)=some outs->(∀ d σ',(d,σ')∈outs->∃ d',(∀ w own ρ v,Rd w own ρ d v->Rd w own ρ d' v)/\uX st.σ st.n σ' st.n/\HW bX.toCombs nt st o.dst d' σ' st.n λst'=>evK bX cx.P E nt I en false ops l st' K) ->
       o.wp cx.P a w (wpOps cx.P ops Q (List.range' (k+1) l.length)) Q:=by
      intro outs ho hall;obtain ⟨v,w',d,σ',hrun,hmem,hinv,hkeep,hrd⟩:=ADB hr ho (ty:=o.type);obtain ⟨d',g1,g2,g3⟩:=hall d σ' hmem;obtain ⟨st',p1,p2⟩:=iX g3;unfold Oper.wp;have hx:(execOp a.eval o).run cx.P w = .ok (.value v) w':=by
       simp only[execOp,hop,Sem.run_bind,hrun,Result.andThen_ok,Sem.run_pure]
      rw[hx];exact xE hE hh hI hQ l (k+1) st' ρ _ w' hl' hA' (hf.trans (oI p1 hA0 g2)) (fA hr p1 hinv hkeep (g1 _ _ _ _ hrd)) p2
     unfold A4A at h;split at h
     ·rename_i kk hk;split at h
      ·rename_i m since seen last hσ;split at h
       ·refine fin [(.p (.v (.tuple #[.bool false])),st.σ)] (by simp only[BG,hk,hσ]) λd σ' hm=>?_;cases List.mem_singleton.1 hm;exact ⟨_,λ_ _ _ _ h=>h,uX.refl _ _,h⟩
       ·rename_i m;split at h
        ·rename_i ro es hm;obtain ⟨hb,hA1,hB1⟩:=h;simp only[ac,ah] at hb;cases hleft:cU es.length seen with
         | nil =>
          refine fin [(.p (.v (.tuple #[.bool false])),st.σ)] ?_ λd σ' hm=>?_
          ·simp only[BG,hk,hσ,hm];rw[if_pos hb,hleft]
          ·cases List.mem_singleton.1 hm;exact ⟨_,λ_ _ _ _ h=>h,uX.refl _ _,hA1 hleft⟩
         | cons i0 left0 =>
          have hlt:∀ i∈cU es.length seen,i<es.length:=by
           intro i hi;simp only[cU,List.mem_filter,List.mem_range] at hi;exact hi.1
          have hmap:∀ (L:List Nat),(∀ i∈L,i<es.length)->∃ outs,(L.mapM λi=>(es[i]?).map λe=>(D.bY [.p (.v (.bool true)),.p (.v e.1),e.2],cC st.σ kk (some (.nJ (some m) since (seen++[i]) es.length))))=some outs /\
            ∀ d σ',(d,σ')∈outs->∃ i∈L,∃ e:Value×D,d=D.bY [.p (.v (.bool true)),.p (.v e.1),e.2]/\σ'=cC st.σ kk (some (.nJ (some m) since (seen++[i]) es.length)):=by
           intro L
           induction L with
           | nil=>intro _;exact ⟨[],rfl,λ_ _ h=>by cases h⟩
           | cons i L ih =>
            intro hL;obtain ⟨outs,q1,q2⟩:=ih λj hj=>hL j (by simp[hj]);have hi:=hL i (by simp);refine ⟨(D.bY [.p (.v (.bool true)),.p (.v es[i].1),es[i].2],cC st.σ kk (some (.nJ (some m) since (seen++[i]) es.length)))::outs,?_,λd σ' hm=>?_⟩
            ·rw[List.mapM_cons,List.getElem?_eq_getElem hi,q1];rfl
            ·rcases List.mem_cons.1 hm with hm|hm
             ·cases hm;exact ⟨i,by simp,es[i],rfl,rfl⟩
             ·obtain ⟨j,hj,e,q3⟩:=q2 d σ' hm;exact ⟨j,by simp[hj],e,q3⟩
          obtain ⟨outs,q1,q2⟩:=hmap (cU es.length seen) hlt;refine fin outs ?_ λd σ' hm=>?_
          ·simp only[BG,hk,hσ,hm];rw[if_pos hb];rw[hleft] at q1 ⊢;exact q1
          ·obtain ⟨i,hi,e,rfl,rfl⟩:=q2 d σ' hm;refine ⟨_,λw own ρ v hv=>?_,uX.set _ (al _) hσ rfl,hB1 i hi⟩;cases hv with
           | bY _ vs z1 z2 =>
            refine .bY _ vs (by simpa using z1) λj hj=>?_
            match j,hj with
            | 0,_=>simpa using z2 0 (by simp)
            | 1,_=>exact .any _
            | 2,_=>exact .any _
        ·exact h.elim
      ·rename_i es since seen last hσ;obtain ⟨hb,hA1,hB1⟩:=h;simp only[ac,ah] at hb;cases hleft:cU es.length seen with
       | nil =>
        refine fin [(.p (.v (.tuple #[.bool false])),st.σ)] ?_ λd σ' hm=>?_
        ·simp only[BG,hk,hσ];rw[if_pos hb,hleft]
        ·cases List.mem_singleton.1 hm;exact ⟨_,λ_ _ _ _ h=>h,uX.refl _ _,hA1 hleft⟩
       | cons i0 left0 =>
        have hlt:∀ i∈cU es.length seen,i<es.length:=by
         intro i hi;simp only[cU,List.mem_filter,List.mem_range] at hi;exact hi.1
        have hmap:∀ (L:List Nat),(∀ i∈L,i<es.length)->∃ outs,(L.mapM λi=>(es[i]?).map λe=>(D.bY [.p (.v (.bool true)),.p (.v e.1),.p e.2],cC st.σ kk (some (.cH es since (seen++[i]) es.length))))=some outs /\
          ∀ d σ',(d,σ')∈outs->∃ i∈L,∃ e:Value×T,d=D.bY [.p (.v (.bool true)),.p (.v e.1),.p e.2]/\σ'=cC st.σ kk (some (.cH es since (seen++[i]) es.length)):=by
         intro L
         induction L with
         | nil=>intro _;exact ⟨[],rfl,λ_ _ h=>by cases h⟩
         | cons i L ih =>
          intro hL;obtain ⟨outs,q1,q2⟩:=ih λj hj=>hL j (by simp[hj]);have hi:=hL i (by simp);refine ⟨(D.bY [.p (.v (.bool true)),.p (.v es[i].1),.p es[i].2],cC st.σ kk (some (.cH es since (seen++[i]) es.length)))::outs,?_,λd σ' hm=>?_⟩
          ·rw[List.mapM_cons,List.getElem?_eq_getElem hi,q1];rfl
          ·rcases List.mem_cons.1 hm with hm|hm
           ·cases hm;exact ⟨i,by simp,es[i],rfl,rfl⟩
           ·obtain ⟨j,hj,e,q3⟩:=q2 d σ' hm;exact ⟨j,by simp[hj],e,q3⟩
        obtain ⟨outs,q1,q2⟩:=hmap (cU es.length seen) hlt;refine fin outs ?_ λd σ' hm=>?_
        ·simp only[BG,hk,hσ];rw[if_pos hb];rw[hleft] at q1 ⊢;exact q1
        ·obtain ⟨i,hi,e,rfl,rfl⟩:=q2 d σ' hm;refine ⟨_,λw own ρ v hv=>?_,uX.set _ (al _) hσ rfl,hB1 i hi⟩;cases hv with
         | bY _ vs z1 z2 =>
          refine .bY _ vs (by simpa using z1) λj hj=>?_
          match j,hj with
          | 0,_=>simpa using z2 0 (by simp)
          | 1,_=>exact .any _
          | 2,_=>exact .any _
      ·exact h.elim
     ·exact h.elim
    ·rename_i it hmo;obtain ⟨hg,hop⟩:=OQ hmo;have hop:o.op = .entry it:=by rcases hop with ⟨h,_⟩|⟨_,h⟩;cases h;exact h
     unfold BD6 at h;split at h
     ·rename_i kk kr ag r hk hev;split at h
      ·rename_i m since seen last hσ;split at h
       ·rename_i m;split at h
        ·rename_i ro es hm;obtain ⟨hb,i,x,y,g1,g2,g3⟩:=h;have hb:es.length=last:=of_decide_eq_true hb;obtain ⟨st',p1,p2⟩:=iX g3;have hent:AHF st.σ (ev (cL true st.s) it)=some (.p (.bY [.v (ON kr x),aF ag r y])):=by
          simp only[AHF,hk,hσ,hm,ai hb,g1,g2,Option.map_some,cG]
         have hst:fE cx.P E nt ops o st=some st':=by
          have hg1:fT ops st.s o=some true:=by simp[fT,hg]
          unfold fE;simp only[hop,eH,Bool.false_eq_true,if_false,hg1,nv,hent,one,Option.map_some,p1]
         exact yT (Q:=Q) hE hr hst (λρ' a' w' hr'=>xE hE hh hI hQ l (k+1) st' ρ' a' w' hl' hA' (hf.trans (lS hh hst hA0)) hr' p2)
        ·exact h.elim
       ·exact h.elim
      ·rename_i es since seen last hσ;obtain ⟨hb,i,x,y,g1,g2,g3⟩:=h;have hb:es.length=last:=of_decide_eq_true hb;obtain ⟨st',p1,p2⟩:=iX g3;have g4:∃ e,es[i]? = some e/\e.1=ON kr x/\e.2=aF ag r y:=by
        simp only[rK,List.getElem?_map,aa,cG,Prod.mk.injEq,D.p.injEq] at g2;obtain ⟨e,q1,q2,q3⟩:=g2;exact ⟨e,q1,q2,q3⟩
       obtain ⟨e,q1,q2,q3⟩:=g4;have hent:AHF st.σ (ev (cL true st.s) it)=some (.p (.bY [.v (ON kr x),aF ag r y])):=by
        simp only[AHF,hk,hσ,ai hb,g1,q1,Option.map_some,q2,q3]
       have hst:fE cx.P E nt ops o st=some st':=by
        have hg1:fT ops st.s o=some true:=by simp[fT,hg]
        unfold fE;simp only[hop,eH,Bool.false_eq_true,if_false,hg1,nv,hent,one,Option.map_some,p1]
       exact yT (Q:=Q) hE hr hst (λρ' a' w' hr'=>xE hE hh hI hQ l (k+1) st' ρ' a' w' hl' hA' (hf.trans (lS hh hst hA0)) hr' p2)
      ·exact h.elim
     ·exact h.elim
    ·obtain ⟨st1,h1,h2⟩:=jO h;exact yT (Q:=Q) hE hr h1 (λρ' a' w' hr'=>xE hE hh hI hQ l (k+1) st1 ρ' a' w' hl' hA' (hf.trans (lS hh h1 hA0)) hr' h2)
  split
  ·rename_i hw;simp only[hw,if_true] at key;exact .inl key
  ·rename_i hw;simp only[hw] at key;exact key
end
end Go.Pv
