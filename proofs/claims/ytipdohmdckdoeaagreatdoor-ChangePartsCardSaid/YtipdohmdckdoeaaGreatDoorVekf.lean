/-
  The symbolic executor, part f: code, and functions.
-/
import Derived.Test.YtipdohmdckdoeaaGreatDoorVeke
set_option linter.defProp false
set_option linter.unusedSimpArgs false
namespace Go.Pv
open Go Go.RowKit
abbrev Inl:=FuncId->List D->(Nat->Option bH)->Nat->KN->Prop
abbrev Ent:=Option (Sy×Bool×Sy)
section
variable (C : iU) (P : Program) (E : Env) (nt : Nat)
def AKH (dr:Bool) (o:Oper) (st:St):Option (FuncId×List D):=match dr,o.op with
 | false,.call c=>match c.callee with
  | .value f=>match jQ (ev (cB true st.s) f) with
   | some (fid,a,b)=>match E fid,a++c.args.toList.map (ev (cB true st.s))++b with
    | none,l=>some (fid,l)
    | some (.AP9 _),.p (.v (.pointer none))::l=>some (fid,.p (.v (.pointer none))::l)
    | _,_=>none
   | none=>none
  | _=>none
 | _,_=>none
def A0N (σ:Nat->Option bH) (d:D) (K:D->(Nat->Option bH)->Prop):Prop :=
 match d with
 | .it k=>match σ k with
  | some (.nF m since seen last)=>match m with
   | none=>K (.p (.v (.tuple #[.bool false]))) σ
   | some m=>match σ m with
    | some (.map _ es)=>C.zM (decide (es.length<=since)&&decide (since<=last)) (C.each es.length seen (K (.p (.v (.tuple #[.bool false]))) σ)
      λi=>K (.b7 [.p (.v (.bool true)),.any,.any]) (bZ σ k (some (.nF (some m) since (seen++[i]) es.length))))
    | _=>C.bad 401
  | some (.b9 es since seen last)=>C.zM (decide (es.length<=since)&&decide (since<=last)) (C.each es.length seen (K (.p (.v (.tuple #[.bool false]))) σ)
      λi=>K (.b7 [.p (.v (.bool true)),.any,.any]) (bZ σ k (some (.b9 es since (seen++[i]) es.length))))
  | _=>C.bad 402
 | _=>C.bad 403
def A9N (en:Ent) (σ:Nat->Option bH) (d:D) (K:D->Prop):Prop :=
 match d,en with
 | .it k,some (kr,ag,r)=>match σ k with
  | some (.nF m _ seen last)=>match m with
   | some m=>match σ m with
    | some (.map _ es)=>C.zM (decide (es.length=last)) (C.ent kr ag r es seen λx y=>K (.p (.b7 [.v (N0 kr x),aG ag r y])))
    | _=>C.bad 411
   | none=>C.bad 412
  | some (.b9 es _ seen last)=>C.zM (decide (es.length=last)) (C.ent kr ag r (qZ es) seen λx y=>K (.p (.b7 [.v (N0 kr x),aG ag r y])))
  | _=>C.bad 413
 | _,_=>C.bad 414
def mapOf (dr:Bool) (o:Oper):Option (Bool×Operand):=match dr,o.guard,o.op with
 | false,none,.next it false=>some (true,it)
 | false,none,.entry it=>some (false,it)
 | _,_,_=>none
def evK (I:Inl) (en:Ent) (dr:Bool) (ops:Array Oper):List Oper->St->(St->Prop)->Prop
 | [],st,K=>K st
 | o::r,st,K=>splitK ops o st λst =>
  match AKH E dr o st with
  | some (fid,args)=>match fJ ops st.s o with
   | some true=>I fid args st.σ st.n λd σ' n'=>HE C.toCombs nt st o.dst d σ' n' λst'=>evK I en dr ops r st' K
   | some false=>HE C.toCombs nt st o.dst (.p (.v undef)) st.σ st.n λst'=>evK I en dr ops r st' K
   | none=>C.bad 203
  | none=>match mapOf dr o with
   | some (true,it)=>A0N C st.σ (ev (cB true st.s) it) λd σ'=>HE C.toCombs nt st o.dst d σ' st.n λst'=>evK I en dr ops r st' K
   | some (false,it)=>A9N C en st.σ (ev (cB true st.s) it) λd=>HE C.toCombs nt st o.dst d st.σ (st.n+1) λst'=>evK I en dr ops r st' K
   | none=>A8 C.toCombs P E nt ops o st λst'=>evK I en dr ops r st' K
end
def AFB (P:Program) (I:Inl):Prop:=∀ (cx:Cx) (ρ:Nat->Option Loc) (σ:Nat->Option bH) (n:Nat) (w:World) (fid:FuncId) (args:List D) (vs:Array Value) (K:KN),cx.P=P->Good P w->Inv cx ρ σ n w->cY (Rd w (Own cx ρ σ) ρ) args vs->I fid args σ n K ->
 (∃ fn,P.funcs[fid]? = some fn/\(fn.name == "runtime.NumGoroutine")=false/\fn.body.isNone=false) /\
 Calls P fid vs w (λe w'=>∃ v ρ' d σ' n',e = .returned v/\Inv cx ρ' σ' n' w'/\bP cx ρ ρ' σ σ' w w'/\Rd w' (Own cx ρ' σ') ρ' d v/\uM σ n σ' n'/\K d σ' n')
section
variable {P : Program} {E : Env} {nt : Nat} {ops : Array Oper}
def AXM (hh:fQ E) {I:Inl} {en:Ent} {A:Nat->Bool} {st₀:St} {K:St->Prop}:∀ (l:List Oper) (st:St),(∀ o∈l,∀ t,o.dst=some t->A t=true)->Fr A st₀ st->evK bY P E nt I en true ops l st K ->
  ∃ st',evL P E nt ops l st=some st'/\Fr A st₀ st'/\K st'
 | [],st,_,hf,h=>⟨st,rfl,hf,h⟩
 | o::l,st,hA,hf,h=>by
  have h:=r7 h;simp only[AKH,mapOf] at h;obtain ⟨st1,h1,h2⟩:=jB h;obtain ⟨st2,h3,h4,h5⟩:=AXM hh l st1 (λo ho=>hA o (by simp[ho])) (hf.trans (lG hh h1 (hA o (by simp)))) h2;exact ⟨st2,by simp only[evL,h1,Option.bind_some,h3],h4,h5⟩
def wG (M:Bool) (C:iU) (P:Program) (E:Env) (nt:Nat) (ops:Array Oper) (base:Nat):List Nat->St->(St->Prop)->Prop
 | [],st,K=>K st
 | j::r,st,K=>match ops[j]? with
  | none=>C.bad 900
  | some o=>splitK ops o st λst=>match bX M E ops o with
   | .free=>A8 C.toCombs P E nt ops o st λst'=>wG M C P E nt ops base r st' K
   | .quiet=>A8 C.toCombs P E nt ops o ⟨st.s,v8 base st.σ,st.n⟩ λst'=>wG M C P E nt ops base r ⟨st'.s,st.σ,st.n⟩ K
   | .alloc=>match o.op with
    | .alloc e=>match (tz? P e).bind λz=>o9 (z.cells.toList.map λv=>.p (.v v)),st.σ (base+j) with
     | some b,none=>HE C.toCombs nt st o.dst (.ptr (base+j) 0 0) (bZ st.σ (base+j) (some b)) st.n λst'=>wG M C P E nt ops base r st' K
     | _,_=>C.bad 901
    | _=>C.bad 901
   | .new=>match o.op with
    | .store t a v=>match ev (cB true st.s) a with
     | .ptr k x y=>match decide (base<=k),jP P st.σ t (.ptr k x y) (ev (cB true st.s) v) with
      | true,some σ'=>HE C.toCombs nt st o.dst (.p (.v undef)) σ' st.n λst'=>wG M C P E nt ops base r st' K
      | _,_=>C.bad 902
     | _=>C.bad 903
    | _=>C.bad 903
   | .old=>match o.op with
    | .store t a v=>match ev (cB true st.s) a with
     | .ptr k x y=>match jP P st.σ t (.ptr k x y) (ev (cB true st.s) v) with
      | some σ'=>HE C.toCombs nt st o.dst (.p (.v undef)) σ' st.n λst'=>wG M C P E nt ops base r st' K
      | _=>C.bad 905
     | _=>C.bad 906
    | _=>C.bad 906
   | .ask=>A8 C.toCombs P E nt ops o st λst'=>wG M C P E nt ops base r st' K
   | .app=>A8 C.toCombs P E nt ops o st λst'=>wG M C P E nt ops base r st' K
   | .mk=>A8 C.toCombs P E nt ops o st λst'=>wG M C P E nt ops base r st' K
   | .wI=>A8 C.toCombs P E nt ops o st λst'=>wG M C P E nt ops base r st' K
def TG {P:Program} {σ σ':Nat->Option bH} {t:TypeId} {k x y n:Nat} {v:D} (h:jP P σ t (.ptr k x y) v=some σ'):uM σ n σ' n:=by
 unfold jP at h;simp only at h;split at h
 ·rename_i hk hz;split at h
  ·split at h
   ·cases h;exact uM.set _ (al _) hk rfl
   ·cases h
  ·cases h
 ·rename_i hk hz;split at h
  ·split at h
   ·cases h;exact uM.set _ (al _) hk rfl
   ·cases h
  ·cases h
 ·cases h
variable {M:Bool}{base:Nat}{st st1:St}
def AWI {P:Program} {E:Env} {nt:Nat} {ops:Array Oper} {j:Nat} {o:Oper} (hk:bX M E ops o = .app) (h1:eV P E nt ops o st=some st1):gI M P E nt ops base j o st=some st1:=by
 obtain ⟨c,ho,hc⟩:=ABO hk;unfold eV at h1;rw[if_neg (by rw[ho];simp[dO,hc])] at h1;unfold gI fW;rw[hk];dsimp only;cases hg:fJ ops st.s o with
 | none=>rw[hg] at h1;cases h1
 | some b=>cases b with
  | false=>rw[hg] at h1;exact h1
  | true =>
   rw[hg] at h1;dsimp only at h1 ⊢;rw[ho] at h1;rw[ho];unfold nv at h1;dsimp only at h1 ⊢;rw[hc] at h1;split at h1
   ·rename_i d σ' n' hn;split at hn
    ·rename_i x y t u _ ha hb;rw[ha,hb];dsimp only;unfold one at hn;cases hap:iV P st.σ st.n t u (ev (cB true st.s) x) (ev (cB true st.s) y) with
     | none=>rw[hap] at hn;cases hn
     | some r=>rw[hap] at hn;cases hn;exact h1
    ·rename_i hv;cases hv
    ·rename_i hv _ _;cases hv
    ·cases hn
   ·cases h1
def A7F {P:Program} {E:Env} {nt:Nat} {ops:Array Oper} {j:Nat} {o:Oper} (hk:bX M E ops o = .mk) (h1:eV P E nt ops o st=some st1):gI M P E nt ops base j o st=some st1:=by
 unfold eV at h1;rw[if_neg (by rw[A7E hk];decide)] at h1;unfold gI fW;rw[hk];dsimp only;cases hg:fJ ops st.s o with
 | none=>rw[hg] at h1;cases h1
 | some b=>cases b with
  | false=>rw[hg] at h1;exact h1
  | true =>
   rw[hg] at h1;dsimp only at h1 ⊢;split at h1
   ·rename_i d σ' n' hn;rw[hn];exact h1
   ·cases h1
def APZ {E:Env} {ops:Array Oper} {o:Oper} (h:bX M E ops o = .wI):dO E o.op=false:=by
 unfold bX at h;split at h
 ·cases h
 ·cases h
 ·cases h
 ·rename_i h1 h2 h3;cases hq:dO E o.op with
  | false=>rfl
  | true=>exact absurd hq h3
def AP6 {P:Program} {E:Env} {nt:Nat} {ops:Array Oper} {j:Nat} {o:Oper} (hk:bX M E ops o = .wI) (h1:eV P E nt ops o st=some st1) (hn:st.n<=st1.n):gI M P E nt ops base j o st=some st1:=by
 unfold eV at h1;rw[if_neg (by rw[APZ hk];decide)] at h1;unfold gI fW;rw[hk];dsimp only;cases hg:fJ ops st.s o with
 | none=>rw[hg] at h1;cases h1
 | some b=>cases b with
  | false=>rw[hg] at h1;exact h1
  | true =>
   rw[hg] at h1;dsimp only at h1 ⊢;split at h1
   ·rename_i d σ' n' hn';obtain ⟨l1,rfl⟩:=rX h1;have hb:Nat.ble st.n n'=true:=Nat.ble_eq_true_of_le hn;rw[hn'];dsimp only;rw[hb];exact h1
   ·cases h1
def C5 {M:Bool} {P:Program} {E:Env} {nt:Nat} {ops:Array Oper} {base:Nat} (hh:fQ E) {A:Nat->Bool} {st₀:St} {K:St->Prop} (hA:∀ o∈ops.toList,∀ t,o.dst=some t->A t=true):∀ (l:List Nat) (st:St),Fr A st₀ st->wG M bY P E nt ops base l st K ->
  ∃ st',UY M P E nt ops base l st=some st'/\Fr A st₀ st'/\K st'
 | [],st,hf,h=>⟨st,rfl,hf,h⟩
 | j::l,st,hf,h=>by
  unfold wG at h;split at h
  ·exact h.elim
  ·rename_i o h0;have h:=r7 h;have hA0:=hA o (by rw[Array.mem_toList_iff];exact Array.mem_of_getElem? h0);have go:∀ {st1:St},gI M P E nt ops base j o st=some st1->Fr A st st1->wG M bY P E nt ops base l st1 K->∃ st',UY M P E nt ops base (j::l) st=some st'/\Fr A st₀ st'/\K st':=by
    intro st1 h1 hf1 h2;obtain ⟨st2,h3,h4,h5⟩:=C5 hh hA l st1 (hf.trans hf1) h2;exact ⟨st2,by simp only[UY,h0,h1,Option.bind_some,h3],h4,h5⟩
   split at h
   ·rename_i hk;obtain ⟨st1,h1,h2⟩:=jB h;refine go ?_ (lG hh h1 hA0) h2;unfold eV at h1;rw[if_pos (pO (G6 hk))] at h1;unfold gI;rw[pU hk];split at h1
    ·rename_i d hd;rw[hd];exact h1
    ·cases h1
   ·rename_i hk;obtain ⟨st1,h1,h2⟩:=jB h;unfold eV at h1;rw[if_pos (V5 (vE hk))] at h1;simp only at h1;split at h1
    ·rename_i d hd;obtain ⟨l1,rfl⟩:=rX h1;have hp:rA nt st o.dst d st.σ st.n=some ⟨rC st.s o.dst d,st.σ,st.n⟩:=vI l1;refine go (st1:=⟨rC st.s o.dst d,st.σ,st.n⟩) ?_ (oH hp hA0 ⟨al _,λ_ _ _ h _=>h⟩) h2;unfold gI;rw[lS hk,hd];exact hp
    ·cases h1
   ·rename_i hk;split at h
    ·rename_i e ho;split at h
     ·rename_i b hb hσ;obtain ⟨st1,h1,h2⟩:=iL h;refine go ?_ (oH h1 hA0 ⟨al _,λk x hk hx hw=>?_⟩) h2
      ·unfold gI fW;rw[hk];simp only[ho,hb];exact h1
      ·rw[bL _ _ (λe=>by subst e;rw[hσ] at hx;cases hx)];exact hx
     ·exact h.elim
    ·exact h.elim
   ·rename_i hk;split at h
    ·rename_i t a v ho;split at h
     ·rename_i k x y hev;split at h
      ·rename_i σ' hb hst;obtain ⟨st1,h1,h2⟩:=iL h;refine go ?_ (oH h1 hA0 (TG hst)) h2;unfold gI fW;rw[hk];simp only[ho,hev,hb,hst];exact h1
      ·exact h.elim
     ·exact h.elim
    ·exact h.elim
   ·rename_i hk;split at h
    ·rename_i t a v ho;split at h
     ·rename_i k x y hev;split at h
      ·rename_i σ' hst;obtain ⟨st1,h1,h2⟩:=iL h;refine go ?_ (oH h1 hA0 (TG hst)) h2;unfold gI fW;rw[hk];simp only[ho,hev,hst];exact h1
      ·exact h.elim
     ·exact h.elim
    ·exact h.elim
   ·rename_i hk;obtain ⟨st1,h1,h2⟩:=jB h;refine go ?_ (lG hh h1 hA0) h2;unfold eV at h1;rw[if_pos (AZZ hk)] at h1;unfold gI;rw[C1 hk];split at h1
    ·rename_i d hd;rw[hd];exact h1
    ·cases h1
   ·rename_i hk;obtain ⟨st1,h1,h2⟩:=jB h;exact go (AWI hk h1) (lG hh h1 hA0) h2
   ·rename_i hk;obtain ⟨st1,h1,h2⟩:=jB h;exact go (A7F hk h1) (lG hh h1 hA0) h2
   ·rename_i hk;obtain ⟨st1,h1,h2⟩:=jB h;have hf1:=lG hh h1 hA0;exact go (AP6 hk h1 hf1.b.1) hf1 h2
def A5L (C:iU) (g:Nat->Prop):List Nat->Prop
 | []=>C.bad 508
 | [i]=>g i
 | i::j::l=>C.both (g i) (A5L C g (j::l))
def anyS (C:iU) (P:Program) (E:Env) (nt:Nat) (ops:Array Oper) (K:St->Prop):Nat->Array Bool->St->Prop
 | 0,listed,st=>match Region.ready .any ops listed with
  | []=>K st
  | _=>C.bad 507
 | f+1,listed,st=>match Region.ready .any ops listed with
  | []=>K st
  | i::l=>A5L C (λi=>match ops[i]? with
   | none=>C.bad 509
   | some o=>splitK ops o st λst=>A8 C.toCombs P E nt ops o st λst'=>anyS C P E nt ops K f (listed.setIfInBounds i true) st') (i::l)
def L0 {g:Nat->Prop}:∀ {l:List Nat},A5L bY g l->∀ i∈l,g i
 | [],h,_,_=>h.elim
 | [a],h,i,hi=>by
  cases List.mem_singleton.1 hi;exact h
 | a::j::l,h,i,hi=>by
  obtain ⟨h1,h2⟩:=h;rcases List.mem_cons.1 hi with rfl|hi
  ·exact h1
  ·exact L0 (l:=j::l) h2 i hi
def Y2 {P:Program} {E:Env} {nt:Nat} {ops:Array Oper} (hh:fQ E) {A:Nat->Bool} {st₀:St} {K:St->Prop} (hA:∀ o∈ops.toList,∀ t,o.dst=some t->A t=true):∀ (f:Nat) (listed:Array Bool) (st:St),Fr A st₀ st->anyS bY P E nt ops K f listed st ->
  P8 P E nt ops (λst'=>Fr A st₀ st'/\K st') f listed st
 | 0,listed,st,hf,h=>by
  unfold anyS at h;split at h
  ·rename_i h0;exact ⟨h0,hf,h⟩
  ·exact h.elim
 | f+1,listed,st,hf,h=>by
  unfold anyS at h;split at h
  ·rename_i h0;exact ⟨λ_=>⟨hf,h⟩,λi hi=>by rw[h0] at hi;cases hi⟩
  ·rename_i i0 l h0;refine ⟨λh1=>(by rw[h0] at h1;cases h1),λi hi=>?_⟩;rw[h0] at hi;have h2:=L0 h i hi;split at h2
   ·exact h2.elim
   ·rename_i o ho;have hA0:=hA o (by rw[Array.mem_toList_iff];exact Array.mem_of_getElem? ho);obtain ⟨st1,h3,h4⟩:=jB (r7 h2);exact ⟨o,st1,ho,h3,Y2 hh hA f _ st1 (hf.trans (lG hh h3 hA0)) h4⟩
def QY {P:Program} {E:Env} {nt:Nat} {ops:Array Oper} {Q Q':St->Prop} (hQ:∀ s,Q s->Q' s):∀ {f:Nat} {listed:Array Bool} {st:St},P8 P E nt ops Q f listed st->P8 P E nt ops Q' f listed st
 | 0,_,_,h=>⟨h.1,hQ _ h.2⟩
 | _+1,_,_,h=>⟨λh0=>hQ _ (h.1 h0),λi hi=>by
  obtain ⟨o,st',h1,h2,h3⟩:=h.2 i hi;exact ⟨o,st',h1,h2,QY hQ h3⟩⟩
variable {cx:Cx}{Q:Exit->St->Prop}
def A90 {E:Env} {nt:Nat} {ops:Array Oper} (hE:aV cx.P E) (hm:cx.P.follows .mixedOrders=true) {id:Nat} (h:P8 cx.P E nt ops (λs=>Q .normal s) ops.size (Array.replicate ops.size false) st):AW cx nt (.region id ops true) Q st:=by
 intro ρ a w hr;refine wp_region_any hm ?_;have hd:Below w.heap.size w w.drew:=(Below.refl _ _).drew;have hr':Rel cx nt ρ st a w.drew:=⟨hr.inv.grow hd (al _),hr.nt,hr.defers,hr.keeps.trans' (bP.gH hd),hr.oO.below hd,λi=>(hr.nC i).grow hd⟩
 exact JT (Q:=λs=>Q .normal s) (Q':=sB cx nt Q) hE (λs ρ a w hs hr=>⟨s,ρ,hr,hs⟩) ops.size (Array.replicate ops.size false) st ρ a w.drew hr' h
def A59 (M:Bool) (E:Env) (ops:Array Oper) (ms:List Nat) (listed:Array Bool) (k:Nat):Bool:=(List.range ops.size).all λj=>decide (j=k)||listed.getD j true||S4 M E ops ms k j
def L4 (M:Bool) (C:iU) (P:Program) (E:Env) (nt:Nat) (ops:Array Oper) (base:Nat) (ms:List Nat) (K:St->Prop):Nat->Array Bool->St->Prop
 | 0,listed,st=>match Region.ready .any ops listed with
  | []=>K st
  | _=>C.bad 511
 | f+1,listed,st=>match Region.ready .any ops listed with
  | []=>K st
  | i::l=>match (i::l).find? (A59 M E ops ms listed) with
   | some k=>wG M C P E nt ops base [k] st λst'=>L4 M C P E nt ops base ms K f (listed.setIfInBounds k true) st'
   | none=>A5L C (λk=>wG M C P E nt ops base [k] st λst'=>L4 M C P E nt ops base ms K f (listed.setIfInBounds k true) st') (i::l)
def A58 {P:Program} {E:Env} {nt:Nat} {ops:Array Oper} {k:Nat} {st':St} (h:UY M P E nt ops base [k] st=some st'):∃ o,ops[k]? = some o/\gI M P E nt ops base k o st=some st':=by
 simp only[UY] at h;split at h
 ·rename_i o h0;simp only[Option.bind_eq_some_iff] at h;obtain ⟨st1,h1,h2⟩:=h;cases h2;exact ⟨o,h0,h1⟩
 ·cases h
def Q0 {M:Bool} {P:Program} {E:Env} {nt:Nat} {ops:Array Oper} {base:Nat} {ms:List Nat} (hms:∀ j i,(ms.getD j 0).testBit i=true->Reach ops j i) (hh:fQ E) {A:Nat->Bool} {st₀:St} {K:St->Prop} (hA:∀ o∈ops.toList,∀ t,o.dst=some t->A t=true) :
  ∀ (f:Nat) (listed:Array Bool) (st:St),qE ops listed->base<=st.n->Fr A st₀ st->L4 M bY P E nt ops base ms K f listed st->P9 M P E nt ops base (λst'=>Fr A st₀ st'/\K st') f listed st
 | 0,listed,st,_,_,hf,h=>by
  unfold L4 at h;split at h
  ·rename_i h0;exact ⟨h0,hf,h⟩
  ·exact h.elim
 | f+1,listed,st,hc,hb,hf,h=>by
  have one:∀ {k:Nat},k∈Region.ready .any ops listed->(wG M bY P E nt ops base [k] st λst'=>L4 M bY P E nt ops base ms K f (listed.setIfInBounds k true) st')->∃ o st',ops[k]? = some o/\gI M P E nt ops base k o st=some st'/\P9 M P E nt ops base (λst'=>Fr A st₀ st'/\K st') f (listed.setIfInBounds k true) st':=by
   intro k hk h;obtain ⟨st1,h1,h2,h3⟩:=C5 hh hA [k] st (Fr.refl _ _) h;obtain ⟨o,h0,h1⟩:=A58 h1;exact ⟨o,st1,h0,h1,Q0 hms hh hA f _ st1 (iX hc hk) (Nat.le_trans hb (vV h1)) (hf.trans h2) h3⟩
  unfold L4 at h;split at h
  ·rename_i h0;exact ⟨λ_=>⟨hf,h⟩,λi hi=>by rw[h0] at hi;cases hi⟩
  ·rename_i i0 l h0;split at h
   ·rename_i k hk;have hr:k∈Region.ready .any ops listed:=by rw[h0];exact List.mem_of_find?_eq_some hk
    obtain ⟨o,st1,ho,h1,h2⟩:=one hr h;have hfst:=List.find?_some hk;refine L2 ho f listed st st1 hc hb (λj oj hoj hjk hun=>?_) hr h1 h2;have hjs:j<ops.size:=(Array.getElem?_eq_some_iff.1 hoj).1;have:=List.all_eq_true.1 hfst j (by simpa using hjs);simp only[Bool.or_eq_true,ah] at this;rcases this with (hle|hl)|hp
    ·exact absurd hle hjk
    ·rw[hun] at hl;cases hl
    ·unfold S4 at hp;simp only[Bool.or_eq_true] at hp;rcases hp with hp|hp
     ·exact .inl (hms j k hp)
     ·rw[ho,hoj] at hp;simp only[ac] at hp;exact .inr ⟨hp.2,hp.1⟩
   ·refine ⟨λh1=>(by rw[h0] at h1;cases h1),λi hi=>?_⟩;have hi':=hi;rw[h0] at hi';exact one hi (L0 h i hi')
def QZ {M:Bool} {P:Program} {E:Env} {nt:Nat} {ops:Array Oper} {base:Nat} {Q Q':St->Prop} (hQ:∀ s,Q s->Q' s):∀ {f:Nat} {listed:Array Bool} {st:St},P9 M P E nt ops base Q f listed st->P9 M P E nt ops base Q' f listed st
 | 0,_,_,h=>⟨h.1,hQ _ h.2⟩
 | _+1,_,_,h=>⟨λh0=>hQ _ (h.1 h0),λi hi=>by
  obtain ⟨o,st',h1,h2,h3⟩:=h.2 i hi;exact ⟨o,st',h1,h2,QZ hQ h3⟩⟩
def AR3 {E:Env} {nt:Nat} {ops:Array Oper} (hE:aV cx.P E) (hm:cx.P.follows .mixedOrders=true) {id:Nat} (hmx:AQC M E ops=true) (h:P9 M cx.P E nt ops st.n (λs=>Q .normal s) ops.size (Array.replicate ops.size false) (eY ops st)):AW cx nt (.region id ops true) Q st:=by
 intro ρ a w hr;refine wp_region_any hm ?_;have hd:Below w.heap.size w w.drew:=(Below.refl _ _).drew;have hr':Rel cx nt ρ (eY ops st) a w.drew:=⟨hr.inv.grow hd (Nat.le_add_right _ _),hr.nt,hr.defers,hr.keeps.trans' (bP.gH hd),hr.oO.below hd,λi=>(hr.nC i).grow hd⟩
 have hρ0:∀ k,st.n<=k->ρ k=none:=λk hk=>by
  cases hx:ρ k with
  | none=>rfl
  | some l=>have:=(hr.inv.new k l hx).1;omega
 exact JU hmx (Q:=λs=>Q .normal s) (Q':=sB cx nt Q) hE (λs ρ a w hs hr=>⟨s,ρ,hr,hs⟩) ops.size (Array.replicate ops.size false) (eY ops st) ρ a w.drew hr' (by simp) (al _) (λ_ i hi _ _=>hρ0 _ (by omega)) h
def AG7 {dr:Bool} {o:Oper} {fid:FuncId} {args:List D} (h:AKH E dr o st=some (fid,args)):∃ c f a b,o.op = .call c/\c.callee = .value f/\jQ (ev (cB true st.s) f)=some (fid,a,b)/\args=a++c.args.toList.map (ev (cB true st.s))++b:=by
 unfold AKH at h;split at h
 ·rename_i c hc;split at h
  ·rename_i f hf;split at h
   ·rename_i fid' a b hcal;split at h
    ·cases h;exact ⟨c,f,a,b,hc,hf,hcal,rfl⟩
    ·rename_i hl;cases h;exact ⟨c,f,a,b,hc,hf,hcal,hl.symm⟩
    ·cases h
   ·cases h
  ·cases h
 ·cases h
def N3 {dr b:Bool} {o:Oper} {it:Operand} (h:mapOf dr o=some (b,it)):o.guard=none/\((b=true/\o.op = .next it false)\/(b=false/\o.op = .entry it)):=by
 unfold mapOf at h;split at h
 ·rename_i hg ho;cases h;exact ⟨hg,.inl ⟨rfl,ho⟩⟩
 ·rename_i hg ho;cases h;exact ⟨hg,.inr ⟨rfl,ho⟩⟩
 ·cases h
end
section
variable {cx : Cx} {E : Env} {nt : Nat} {ops : Array Oper}
def w5 (hE:aV cx.P E) (hh:fQ E) {I:Inl} (hI:AFB cx.P I) {en:Ent} {A:Nat->Bool} {st₀:St} {K:St->Prop} {Q:Exit->Act->World->Prop} (hQ:∀ st' ρ a w,Rel cx nt ρ st' a w->Fr A st₀ st'->K st'->Q .normal a w) :
  ∀ (l:List Oper) (k:Nat) (st:St) (ρ:Nat->Option Loc) (a:Act) (w:World),(∀ j,l[j]? = ops[k+j]?)->(∀ o∈l,∀ t,o.dst=some t->A t=true)->Fr A st₀ st->Rel cx nt ρ st a w ->
  evK bY cx.P E nt I en false ops l st K->wpOps cx.P ops Q (List.range' k l.length) a w
 | [],_,st,ρ,a,w,_,_,hf,hr,h=>by
  simpa [wpOps] using hQ st ρ a w hr hf h
 | o::l,k,st,ρ,a,w,hl,hA,hf,hr,h=>by
  have h:=r7 h;have h0:ops[k]? = some o:=by simpa using (hl 0).symm
  simp only[List.length_cons,List.range'_succ,wpOps_cons];unfold wpOp;simp only[h0];have hl':∀ j,l[j]? = ops[k+1+j]? := λj=>by have:=hl (j+1);simpa [Nat.add_assoc,Nat.add_comm 1 j] using this
  have hA':∀ o∈l,∀ t,o.dst=some t->A t=true:=λo ho=>hA o (by simp[ho]);have hA0:=hA o (by simp);have key:if Region.wanted o (yielded ops a.tmps) then o.wp cx.P a w (wpOps cx.P ops Q (List.range' (k+1) l.length)) Q else wpOps cx.P ops Q (List.range' (k+1) l.length) (a.put o.dst undef) w:=by
   split at h
   ·rename_i fid args hin;obtain ⟨c,f,a1,b1,hop,hcal,hd,rfl⟩:=AG7 hin;split at h
    ·rename_i hg;rw[eA hr hg];simp only[if_true];obtain ⟨va,vb,hfv,e1,e2⟩:=F1 (hr.evS f) hd;have hargs:cY (Rd w (Own cx ρ st.σ) ρ) (a1++c.args.toList.map (ev (cB true st.s))++b1) (va++c.args.map a.eval++vb):=(e1.append (evs hr.evS c.args)).append e2;obtain ⟨⟨fn,f1,f2,f3⟩,hc⟩:=hI cx ρ st.σ st.n w fid _ _ _ rfl hr.oO hr.inv hargs h;unfold Oper.wp;have he:(execOp a.eval o).run cx.P w = .ok (.enter fid (va++c.args.map a.eval++vb)) w:=by
      have e2':¬ fn.name = "runtime.NumGoroutine" := by simpa using f2
      have e3':¬ fn.body=none:=by intro h;simp[h] at f3
      simp[execOp,hop,resolve,hcal,hfv,Deferred.ofValue,invoke,callFunc,f1,e2',e3']
     rw[he];refine hc.mono ?_;rintro e w' ⟨v,ρ',d,σ',n',rfl,g1,g2,g3,g4,g5⟩;obtain ⟨st',p1,p2⟩:=iL g5;exact w5 hE hh hI hQ l (k+1) st' ρ' _ w' hl' hA' (hf.trans (oH p1 hA0 g4)) (eP hr p1 g1 g2 g3) p2
    ·rename_i hg;rw[eA hr hg];simp only[Bool.false_eq_true,if_false];obtain ⟨st',p1,p2⟩:=iL h;exact w5 hE hh hI hQ l (k+1) st' ρ _ w hl' hA' (hf.trans (oH p1 hA0 (uM.refl _ _))) (eP hr p1 hr.inv (bP.refl _ _ _ _) (.p _ _ (.v _))) p2
    ·exact h.elim
   ·split at h
    ·rename_i it hmo;obtain ⟨hg,hop⟩:=N3 hmo;have hop:o.op = .next it false:=by rcases hop with ⟨_,h⟩|⟨h,_⟩;exact h;cases h
     have hw:Region.wanted o (yielded ops a.tmps)=true:=by simp[Region.wanted,hg]
     simp only[hw,if_true];have fin:∀ outs,A6 st.σ (ev (cB true st.s) it)=some outs->(∀ d σ',(d,σ')∈outs->∃ d',(∀ w own ρ v,Rd w own ρ d v->Rd w own ρ d' v)/\uM st.σ st.n σ' st.n/\HE bY.toCombs nt st o.dst d' σ' st.n λst'=>evK bY cx.P E nt I en false ops l st' K) ->
       o.wp cx.P a w (wpOps cx.P ops Q (List.range' (k+1) l.length)) Q:=by
      intro outs ho hall;obtain ⟨v,w',d,σ',hrun,hmem,hinv,hkeep,hrd⟩:=AB6 hr ho (ty:=o.type);obtain ⟨d',g1,g2,g3⟩:=hall d σ' hmem;obtain ⟨st',p1,p2⟩:=iL g3;unfold Oper.wp;have hx:(execOp a.eval o).run cx.P w = .ok (.value v) w':=by
       simp only[execOp,hop,Sem.run_bind,hrun,Result.andThen_ok,Sem.run_pure]
      rw[hx];exact w5 hE hh hI hQ l (k+1) st' ρ _ w' hl' hA' (hf.trans (oH p1 hA0 g2)) (eP hr p1 hinv hkeep (g1 _ _ _ _ hrd)) p2
     unfold A0N at h;split at h
     ·rename_i kk hk;split at h
      ·rename_i m since seen last hσ;split at h
       ·refine fin [(.p (.v (.tuple #[.bool false])),st.σ)] (by simp only[A6,hk,hσ]) λd σ' hm=>?_;cases List.mem_singleton.1 hm;exact ⟨_,λ_ _ _ _ h=>h,uM.refl _ _,h⟩
       ·rename_i m;split at h
        ·rename_i ro es hm;obtain ⟨hb,hA1,hB1⟩:=h;simp only[ac,ah] at hb;cases hleft:cK es.length seen with
         | nil =>
          refine fin [(.p (.v (.tuple #[.bool false])),st.σ)] ?_ λd σ' hm=>?_
          ·simp only[A6,hk,hσ,hm];rw[if_pos hb,hleft]
          ·cases List.mem_singleton.1 hm;exact ⟨_,λ_ _ _ _ h=>h,uM.refl _ _,hA1 hleft⟩
         | cons i0 left0 =>
          have hlt:∀ i∈cK es.length seen,i<es.length:=by
           intro i hi;simp only[cK,List.mem_filter,List.mem_range] at hi;exact hi.1
          have hmap:∀ (L:List Nat),(∀ i∈L,i<es.length)->∃ outs,(L.mapM λi=>(es[i]?).map λe=>(D.b7 [.p (.v (.bool true)),.p (.v e.1),e.2],bZ st.σ kk (some (.nF (some m) since (seen++[i]) es.length))))=some outs /\
            ∀ d σ',(d,σ')∈outs->∃ i∈L,∃ e:Value×D,d=D.b7 [.p (.v (.bool true)),.p (.v e.1),e.2]/\σ'=bZ st.σ kk (some (.nF (some m) since (seen++[i]) es.length)):=by
           intro L
           induction L with
           | nil=>intro _;exact ⟨[],rfl,λ_ _ h=>by cases h⟩
           | cons i L ih =>
            intro hL;obtain ⟨outs,q1,q2⟩:=ih λj hj=>hL j (by simp[hj]);have hi:=hL i (by simp);refine ⟨(D.b7 [.p (.v (.bool true)),.p (.v es[i].1),es[i].2],bZ st.σ kk (some (.nF (some m) since (seen++[i]) es.length)))::outs,?_,λd σ' hm=>?_⟩
            ·rw[List.mapM_cons,List.getElem?_eq_getElem hi,q1];rfl
            ·rcases List.mem_cons.1 hm with hm|hm
             ·cases hm;exact ⟨i,by simp,es[i],rfl,rfl⟩
             ·obtain ⟨j,hj,e,q3⟩:=q2 d σ' hm;exact ⟨j,by simp[hj],e,q3⟩
          obtain ⟨outs,q1,q2⟩:=hmap (cK es.length seen) hlt;refine fin outs ?_ λd σ' hm=>?_
          ·simp only[A6,hk,hσ,hm];rw[if_pos hb];rw[hleft] at q1 ⊢;exact q1
          ·obtain ⟨i,hi,e,rfl,rfl⟩:=q2 d σ' hm;refine ⟨_,λw own ρ v hv=>?_,uM.set _ (al _) hσ rfl,hB1 i hi⟩;cases hv with
           | b7 _ vs z1 z2 =>
            refine .b7 _ vs (by simpa using z1) λj hj=>?_
            match j,hj with
            | 0,_=>simpa using z2 0 (by simp)
            | 1,_=>exact .any _
            | 2,_=>exact .any _
        ·exact h.elim
      ·rename_i es since seen last hσ;obtain ⟨hb,hA1,hB1⟩:=h;simp only[ac,ah] at hb;cases hleft:cK es.length seen with
       | nil =>
        refine fin [(.p (.v (.tuple #[.bool false])),st.σ)] ?_ λd σ' hm=>?_
        ·simp only[A6,hk,hσ];rw[if_pos hb,hleft]
        ·cases List.mem_singleton.1 hm;exact ⟨_,λ_ _ _ _ h=>h,uM.refl _ _,hA1 hleft⟩
       | cons i0 left0 =>
        have hlt:∀ i∈cK es.length seen,i<es.length:=by
         intro i hi;simp only[cK,List.mem_filter,List.mem_range] at hi;exact hi.1
        have hmap:∀ (L:List Nat),(∀ i∈L,i<es.length)->∃ outs,(L.mapM λi=>(es[i]?).map λe=>(D.b7 [.p (.v (.bool true)),.p (.v e.1),.p e.2],bZ st.σ kk (some (.b9 es since (seen++[i]) es.length))))=some outs /\
          ∀ d σ',(d,σ')∈outs->∃ i∈L,∃ e:Value×T,d=D.b7 [.p (.v (.bool true)),.p (.v e.1),.p e.2]/\σ'=bZ st.σ kk (some (.b9 es since (seen++[i]) es.length)):=by
         intro L
         induction L with
         | nil=>intro _;exact ⟨[],rfl,λ_ _ h=>by cases h⟩
         | cons i L ih =>
          intro hL;obtain ⟨outs,q1,q2⟩:=ih λj hj=>hL j (by simp[hj]);have hi:=hL i (by simp);refine ⟨(D.b7 [.p (.v (.bool true)),.p (.v es[i].1),.p es[i].2],bZ st.σ kk (some (.b9 es since (seen++[i]) es.length)))::outs,?_,λd σ' hm=>?_⟩
          ·rw[List.mapM_cons,List.getElem?_eq_getElem hi,q1];rfl
          ·rcases List.mem_cons.1 hm with hm|hm
           ·cases hm;exact ⟨i,by simp,es[i],rfl,rfl⟩
           ·obtain ⟨j,hj,e,q3⟩:=q2 d σ' hm;exact ⟨j,by simp[hj],e,q3⟩
        obtain ⟨outs,q1,q2⟩:=hmap (cK es.length seen) hlt;refine fin outs ?_ λd σ' hm=>?_
        ·simp only[A6,hk,hσ];rw[if_pos hb];rw[hleft] at q1 ⊢;exact q1
        ·obtain ⟨i,hi,e,rfl,rfl⟩:=q2 d σ' hm;refine ⟨_,λw own ρ v hv=>?_,uM.set _ (al _) hσ rfl,hB1 i hi⟩;cases hv with
         | b7 _ vs z1 z2 =>
          refine .b7 _ vs (by simpa using z1) λj hj=>?_
          match j,hj with
          | 0,_=>simpa using z2 0 (by simp)
          | 1,_=>exact .any _
          | 2,_=>exact .any _
      ·exact h.elim
     ·exact h.elim
    ·rename_i it hmo;obtain ⟨hg,hop⟩:=N3 hmo;have hop:o.op = .entry it:=by rcases hop with ⟨h,_⟩|⟨_,h⟩;cases h;exact h
     unfold A9N at h;split at h
     ·rename_i kk kr ag r hk hev;split at h
      ·rename_i m since seen last hσ;split at h
       ·rename_i m;split at h
        ·rename_i ro es hm;obtain ⟨hb,i,x,y,g1,g2,g3⟩:=h;have hb:es.length=last:=of_decide_eq_true hb;obtain ⟨st',p1,p2⟩:=iL g3;have hent:AF2 st.σ (ev (cB true st.s) it)=some (.p (.b7 [.v (N0 kr x),aG ag r y])):=by
          simp only[AF2,hk,hσ,hm,ai hb,g1,g2,Option.map_some,b8]
         have hst:eV cx.P E nt ops o st=some st':=by
          have hg1:fJ ops st.s o=some true:=by simp[fJ,hg]
          unfold eV;simp only[hop,dO,Bool.false_eq_true,if_false,hg1,nv,hent,one,Option.map_some,p1]
         exact yK (Q:=Q) hE hr hst (λρ' a' w' hr'=>w5 hE hh hI hQ l (k+1) st' ρ' a' w' hl' hA' (hf.trans (lG hh hst hA0)) hr' p2)
        ·exact h.elim
       ·exact h.elim
      ·rename_i es since seen last hσ;obtain ⟨hb,i,x,y,g1,g2,g3⟩:=h;have hb:es.length=last:=of_decide_eq_true hb;obtain ⟨st',p1,p2⟩:=iL g3;have g4:∃ e,es[i]? = some e/\e.1=N0 kr x/\e.2=aG ag r y:=by
        simp only[qZ,List.getElem?_map,aa,b8,Prod.mk.injEq,D.p.injEq] at g2;obtain ⟨e,q1,q2,q3⟩:=g2;exact ⟨e,q1,q2,q3⟩
       obtain ⟨e,q1,q2,q3⟩:=g4;have hent:AF2 st.σ (ev (cB true st.s) it)=some (.p (.b7 [.v (N0 kr x),aG ag r y])):=by
        simp only[AF2,hk,hσ,ai hb,g1,q1,Option.map_some,q2,q3]
       have hst:eV cx.P E nt ops o st=some st':=by
        have hg1:fJ ops st.s o=some true:=by simp[fJ,hg]
        unfold eV;simp only[hop,dO,Bool.false_eq_true,if_false,hg1,nv,hent,one,Option.map_some,p1]
       exact yK (Q:=Q) hE hr hst (λρ' a' w' hr'=>w5 hE hh hI hQ l (k+1) st' ρ' a' w' hl' hA' (hf.trans (lG hh hst hA0)) hr' p2)
      ·exact h.elim
     ·exact h.elim
    ·obtain ⟨st1,h1,h2⟩:=jB h;exact yK (Q:=Q) hE hr h1 (λρ' a' w' hr'=>w5 hE hh hI hQ l (k+1) st1 ρ' a' w' hl' hA' (hf.trans (lG hh h1 hA0)) hr' h2)
  split
  ·rename_i hw;simp only[hw,if_true] at key;exact .inl key
  ·rename_i hw;simp only[hw] at key;exact key
end
end Go.Pv
