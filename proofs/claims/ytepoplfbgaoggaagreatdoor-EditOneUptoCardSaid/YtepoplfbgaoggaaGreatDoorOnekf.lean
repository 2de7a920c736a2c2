/-
  The symbolic executor, part f: code, and functions.
-/
import Derived.Test.YtepoplfbgaoggaaGreatDoorOneke
set_option linter.defProp false
set_option linter.unusedSimpArgs false
namespace Go.Pv
open Go Go.RowKit
abbrev Inl:=FuncId->List D->(Nat->Option bL)->Nat->KN->Prop
abbrev Ent:=Option (Sy×Bool×Sy)
section
variable (C : mM) (P : Program) (E : Env) (nt : Nat)
def AU9 (dr:Bool) (o:Oper) (st:St):Option (FuncId×List D):=match dr,o.op with
 | false,.call c=>match c.callee with
  | .value f=>match lC (ev (cN true st.s) f) with
   | some (fid,a,b)=>match E fid with
    | none=>some (fid,a++c.args.toList.map (ev (cN true st.s))++b)
    | _=>none
   | none=>none
  | _=>none
 | _,_=>none
def BB3 (σ:Nat->Option bL) (d:D) (K:D->(Nat->Option bL)->Prop):Prop :=
 match d with
 | .it k=>match σ k with
  | some (.cF es since seen last)=>C.PW (decide (es.length<=since)&&decide (since<=last)) (C.each es.length seen (K (.p (.v (.tuple #[.bool false]))) σ)
      λi=>K (.cB [.p (.v (.bool true)),.any,.any]) (cJ σ k (some (.cF es since (seen++[i]) es.length))))
  | _=>C.bad 402
 | _=>C.bad 403
def BLD (en:Ent) (σ:Nat->Option bL) (d:D) (K:D->Prop):Prop :=
 match d,en with
 | .it k,some (kr,ag,r)=>match σ k with
  | some (.cF es _ seen last)=>C.PW (decide (es.length=last)) (C.ent kr ag r (s0 es) seen λx y=>K (.p (.cB [.v (AED kr x),aH ag r y])))
  | _=>C.bad 413
 | _,_=>C.bad 414
def mapOf (dr:Bool) (o:Oper):Option (Bool×Operand):=match dr,o.guard,o.op with
 | false,none,.next it false=>some (true,it)
 | false,none,.entry it=>some (false,it)
 | _,_,_=>none
def evK (I:Inl) (en:Ent) (dr:Bool) (ops:Array Oper):List Oper->St->(St->Prop)->Prop
 | [],st,K=>K st
 | o::r,st,K=>splitK ops o st λst =>
  match AU9 E dr o st with
  | some (fid,args)=>match iY ops st.s o with
   | some true=>I fid args st.σ st.n λd σ' n'=>MW C.toCombs nt st o.dst d σ' n' λst'=>evK I en dr ops r st' K
   | some false=>MW C.toCombs nt st o.dst (.p (.v undef)) st.σ st.n λst'=>evK I en dr ops r st' K
   | none=>C.bad 203
  | none=>match mapOf dr o with
   | some (true,it)=>BB3 C st.σ (ev (cN true st.s) it) λd σ'=>MW C.toCombs nt st o.dst d σ' st.n λst'=>evK I en dr ops r st' K
   | some (false,it)=>BLD C en st.σ (ev (cN true st.s) it) λd=>MW C.toCombs nt st o.dst d st.σ (st.n+1) λst'=>evK I en dr ops r st' K
   | none=>KE C.toCombs P E nt ops o st λst'=>evK I en dr ops r st' K
end
def APD (P:Program) (I:Inl):Prop:=∀ (cx:Cx) (ρ:Nat->Option Loc) (σ:Nat->Option bL) (n:Nat) (w:World) (fid:FuncId) (args:List D) (vs:Array Value) (K:KN),cx.P=P->Good P w->Inv cx ρ σ n w->dO (Rd w (bY cx ρ σ) ρ) args vs->I fid args σ n K ->
 (∃ fn,P.funcs[fid]? = some fn/\(fn.name == "runtime.NumGoroutine")=false/\fn.body.isNone=false) /\
 Calls P fid vs w (λe w'=>∃ v ρ' d σ' n',e = .returned v/\Inv cx ρ' σ' n' w'/\bZ cx ρ ρ' σ σ' w w'/\Rd w' (bY cx ρ' σ') ρ' d v/\D9 σ n σ' n'/\K d σ' n')
section
variable {P : Program} {E : Env} {nt : Nat} {ops : Array Oper}
def A8L (hh:iH E) {I:Inl} {en:Ent} {A:Nat->Bool} {st₀:St} {K:St->Prop}:∀ (l:List Oper) (st:St),(∀ o∈l,∀ t,o.dst=some t->A t=true)->Fr A st₀ st->evK cA P E nt I en true ops l st K ->
  ∃ st',evL P E nt ops l st=some st'/\Fr A st₀ st'/\K st'
 | [],st,_,hf,h=>⟨st,rfl,hf,h⟩
 | o::l,st,hA,hf,h=>by
  have h:=CF h;simp only[AU9,mapOf] at h;obtain ⟨st1,h1,h2⟩:=kY h;obtain ⟨st2,h3,h4,h5⟩:=A8L hh l st1 (λo ho=>hA o (by simp[ho])) (hf.trans (qF hh h1 (hA o (by simp)))) h2;exact ⟨st2,by simp only[evL,h1,Option.bind_some,h3],h4,h5⟩
def G9 (M:Bool) (C:mM) (P:Program) (E:Env) (nt:Nat) (ops:Array Oper) (base:Nat):List Nat->St->(St->Prop)->Prop
 | [],st,K=>K st
 | j::r,st,K=>match ops[j]? with
  | none=>C.bad 900
  | some o=>splitK ops o st λst=>match b9 M E ops o with
   | .free=>KE C.toCombs P E nt ops o st λst'=>G9 M C P E nt ops base r st' K
   | .quiet=>KE C.toCombs P E nt ops o ⟨st.s,zI base st.σ,st.n⟩ λst'=>G9 M C P E nt ops base r ⟨st'.s,st.σ,st.n⟩ K
   | .alloc=>match o.op with
    | .alloc e=>match (tz? P e).bind λz=>uW (z.cells.toList.map λv=>.p (.v v)),st.σ (base+j) with
     | some b,none=>MW C.toCombs nt st o.dst (.ptr (base+j) 0 0) (cJ st.σ (base+j) (some b)) st.n λst'=>G9 M C P E nt ops base r st' K
     | _,_=>C.bad 901
    | _=>C.bad 901
   | .new=>match o.op with
    | .store t a v=>match ev (cN true st.s) a with
     | .ptr k x y=>match decide (base<=k)&&(M||decide (k<base+ops.size)),lV P st.σ t (.ptr k x y) (ev (cN true st.s) v) with
      | true,some σ'=>MW C.toCombs nt st o.dst (.p (.v undef)) σ' st.n λst'=>G9 M C P E nt ops base r st' K
      | _,_=>C.bad 902
     | _=>C.bad 903
    | _=>C.bad 903
   | .old=>match o.op with
    | .store t a v=>match ev (cN true st.s) a with
     | .ptr k x y=>match lV P st.σ t (.ptr k x y) (ev (cN true st.s) v) with
      | some σ'=>MW C.toCombs nt st o.dst (.p (.v undef)) σ' st.n λst'=>G9 M C P E nt ops base r st' K
      | _=>C.bad 905
     | _=>C.bad 906
    | _=>C.bad 906
   | .ask=>KE C.toCombs P E nt ops o st λst'=>G9 M C P E nt ops base r st' K
   | .app=>KE C.toCombs P E nt ops o st λst'=>G9 M C P E nt ops base r st' K
   | .mk=>KE C.toCombs P E nt ops o st λst'=>G9 M C P E nt ops base r st' K
   | .BM=>KE C.toCombs P E nt ops o st λst'=>G9 M C P E nt ops base r st' K
def AA3 {P:Program} {σ σ':Nat->Option bL} {t:TypeId} {k x y n:Nat} {v:D} (h:lV P σ t (.ptr k x y) v=some σ'):D9 σ n σ' n:=by
 unfold lV at h;simp only at h;split at h
 ·rename_i hk hz;split at h
  ·split at h
   ·cases h;exact D9.set _ (al _) hk rfl
   ·cases h
  ·cases h
 ·rename_i hk hz;split at h
  ·split at h
   ·cases h;exact D9.set _ (al _) hk rfl
   ·cases h
  ·cases h
 ·cases h
variable {M:Bool}{base:Nat}{st st1:St}
def A7L {P:Program} {E:Env} {nt:Nat} {ops:Array Oper} {j:Nat} {o:Oper} (hk:b9 M E ops o = .app) (h1:gK P E nt ops o st=some st1):iV M P E nt ops base j o st=some st1:=by
 obtain ⟨c,ho,hc⟩:=ALC hk;unfold gK at h1;rw[if_neg (by rw[ho];simp[fC,hc])] at h1;unfold iV gR;rw[hk];cases hg:iY ops st.s o with
 | none=>rw[hg] at h1;cases h1
 | some b=>cases b with
  | false=>rw[hg] at h1;exact h1
  | true =>
   rw[hg] at h1;rw[ho] at h1;rw[ho];unfold nv at h1;dsimp only at h1 ⊢;split at h1
   ·rename_i d σ' n' hn;split at hn
    ·rename_i x y t u _ ha hb;rw[ha,hb];dsimp only;cases hap:kC P st.σ st.n t u (ev (cN true st.s) x) (ev (cN true st.s) y) with
     | none=>rw[hap] at hn;cases hn
     | some r=>rw[hap] at hn;cases hn;exact h1
    ·simp_all
    ·cases hn
   ·cases h1
def BIW {P:Program} {E:Env} {nt:Nat} {ops:Array Oper} {j:Nat} {o:Oper} (hk:b9 M E ops o = .mk) (h1:gK P E nt ops o st=some st1):iV M P E nt ops base j o st=some st1:=by
 unfold gK at h1;rw[if_neg (by rw[BIV hk];decide)] at h1;unfold iV gR;rw[hk]
 grind
def A1S {E:Env} {ops:Array Oper} {o:Oper} (h:b9 M E ops o = .BM):fC E o.op=false:=by
 unfold b9 at h
 grind
def A1V {P:Program} {E:Env} {nt:Nat} {ops:Array Oper} {j:Nat} {o:Oper} (hk:b9 M E ops o = .BM) (h1:gK P E nt ops o st=some st1) (hn:st.n<=st1.n):iV M P E nt ops base j o st=some st1:=by
 unfold gK at h1;rw[if_neg (by rw[A1S hk];decide)] at h1;unfold iV gR;rw[hk];cases hg:iY ops st.s o with
 | none=>rw[hg] at h1;cases h1
 | some b=>cases b with
  | false=>rw[hg] at h1;exact h1
  | true =>
   rw[hg] at h1;dsimp only at h1 ⊢;split at h1
   ·rename_i d σ' n' hn';obtain ⟨l1,rfl⟩:=uC h1;have hb:Nat.ble st.n n'=true:=Nat.ble_eq_true_of_le hn;rw[hn'];dsimp only;rw[hb];exact h1
   ·cases h1
def AC4 {M:Bool} {P:Program} {E:Env} {nt:Nat} {ops:Array Oper} {base:Nat} (hh:iH E) {A:Nat->Bool} {st₀:St} {K:St->Prop} (hA:∀ o∈ops.toList,∀ t,o.dst=some t->A t=true):∀ (l:List Nat) (st:St),Fr A st₀ st->G9 M cA P E nt ops base l st K ->
  ∃ st',evD M P E nt ops base l st=some st'/\Fr A st₀ st'/\K st'
 | [],st,hf,h=>⟨st,rfl,hf,h⟩
 | j::l,st,hf,h=>by
  unfold G9 at h;split at h
  ·exact h.elim
  ·rename_i o h0;have h:=CF h;have hA0:=hA o (by rw[Array.mem_toList_iff];exact Array.mem_of_getElem? h0);have go:∀ {st1:St},iV M P E nt ops base j o st=some st1->Fr A st st1->G9 M cA P E nt ops base l st1 K->∃ st',evD M P E nt ops base (j::l) st=some st'/\Fr A st₀ st'/\K st':=by
    intro st1 h1 hf1 h2;obtain ⟨st2,h3,h4,h5⟩:=AC4 hh hA l st1 (hf.trans hf1) h2;exact ⟨st2,by simp only[evD,h0,h1,Option.bind_some,h3],h4,h5⟩
   split at h
   ·rename_i hk;obtain ⟨st1,h1,h2⟩:=kY h;refine go ?_ (qF hh h1 hA0) h2;unfold gK at h1;rw[if_pos (rA (ML hk))] at h1;unfold iV;rw[rG hk];split at h1
    ·simp_all
    ·cases h1
   ·rename_i hk;obtain ⟨st1,h1,h2⟩:=kY h;unfold gK at h1;rw[if_pos (AEQ (yF hk))] at h1;split at h1
    ·rename_i d hd;obtain ⟨l1,rfl⟩:=uC h1;have hp:wQ nt st o.dst d st.σ st.n=some ⟨uV st.s o.dst d,st.σ,st.n⟩:=yL l1;refine go (st1:=⟨uV st.s o.dst d,st.σ,st.n⟩) ?_ (pC hp hA0 ⟨al _,λ_ _ _ h _=>h⟩) h2;unfold iV;rw[mN hk,hd];exact hp
    ·cases h1
   ·split at h
    ·split at h
     ·rename_i b hb hσ;obtain ⟨st1,h1,h2⟩:=j6 h;refine go ?_ (pC h1 hA0 ⟨al _,λk x hk hx hw=>?_⟩) h2
      ·unfold iV gR;simp_all
      ·rw[bU _ _ (λe=>by subst e;rw[hσ] at hx;cases hx)];exact hx
     ·exact h.elim
    ·exact h.elim
   ·rename_i hk;split at h
    ·rename_i t a v ho;split at h
     ·rename_i kk x y hv;split at h
      ·rename_i σ' hb hst;obtain ⟨st1,h1,h2⟩:=j6 h;refine go ?_ (pC h1 hA0 (AA3 hst)) h2;unfold iV gR;simp only[hk,ho,hv,hb,hst,Option.map_some,Option.bind_some];exact h1
      ·exact h.elim
     ·exact h.elim
    ·exact h.elim
   ·split at h
    ·split at h
     ·split at h
      ·rename_i σ' hst;obtain ⟨st1,h1,h2⟩:=j6 h;refine go ?_ (pC h1 hA0 (AA3 hst)) h2;unfold iV gR;simp_all
      ·exact h.elim
     ·exact h.elim
    ·exact h.elim
   ·rename_i hk;obtain ⟨st1,h1,h2⟩:=kY h;refine go ?_ (qF hh h1 hA0) h2;unfold gK at h1;rw[if_pos (BBJ hk)] at h1;unfold iV;rw[G4 hk];split at h1
    ·simp_all
    ·cases h1
   ·rename_i hk;obtain ⟨st1,h1,h2⟩:=kY h;exact go (A7L hk h1) (qF hh h1 hA0) h2
   ·rename_i hk;obtain ⟨st1,h1,h2⟩:=kY h;exact go (BIW hk h1) (qF hh h1 hA0) h2
   ·rename_i hk;obtain ⟨st1,h1,h2⟩:=kY h;have hf1:=qF hh h1 hA0;exact go (A1V hk h1 hf1.b.1) hf1 h2
def ARQ {dr:Bool} {o:Oper} {fid:FuncId} {args:List D} (h:AU9 E dr o st=some (fid,args)):∃ c f a b,o.op = .call c/\c.callee = .value f/\lC (ev (cN true st.s) f)=some (fid,a,b)/\args=a++c.args.toList.map (ev (cN true st.s))++b:=by
 unfold AU9 at h;split at h
 ·rename_i c hc;split at h
  ·rename_i f hf;split at h
   ·rename_i fid' a b hcal;split at h
    ·cases h;exact ⟨c,f,a,b,hc,hf,hcal,rfl⟩
    ·cases h
   ·cases h
  ·cases h
 ·cases h
def U8 {dr b:Bool} {o:Oper} {it:Operand} (h:mapOf dr o=some (b,it)):o.guard=none/\((b=true/\o.op = .next it false)\/(b=false/\o.op = .entry it)):=by
 unfold mapOf at h
 grind
end
section
variable {cx : Cx} {E : Env} {nt : Nat} {ops : Array Oper}
def FA (hE:bB cx.P E) (hh:iH E) {I:Inl} (hI:APD cx.P I) {en:Ent} {A:Nat->Bool} {st₀:St} {K:St->Prop} {Q:Exit->Act->World->Prop} (hQ:∀ st' ρ a w,Rel cx nt ρ st' a w->Fr A st₀ st'->K st'->Q .normal a w) :
  ∀ (l:List Oper) (k:Nat) (st:St) (ρ:Nat->Option Loc) (a:Act) (w:World),(∀ j,l[j]? = ops[k+j]?)->(∀ o∈l,∀ t,o.dst=some t->A t=true)->Fr A st₀ st->Rel cx nt ρ st a w ->
  evK cA cx.P E nt I en false ops l st K->wpOps cx.P ops Q (List.range' k l.length) a w
 | [],_,st,ρ,a,w,_,_,hf,hr,h=>by
  simpa [wpOps] using hQ st ρ a w hr hf h
 | o::l,k,st,ρ,a,w,hl,hA,hf,hr,h=>by
  have h:=CF h;have h0:ops[k]? = some o:=by simpa using (hl 0).symm
  simp only[List.length_cons,List.range'_succ,wpOps_cons];unfold wpOp;simp only[h0];have hl':∀ j,l[j]? = ops[k+1+j]? := λj=>by have:=hl (j+1);simpa [Nat.add_assoc,Nat.add_comm 1 j] using this
  have hA':∀ o∈l,∀ t,o.dst=some t->A t=true:=λo ho=>hA o (by simp[ho]);have hA0:=hA o (by simp);have key:if Region.wanted o (yielded ops a.tmps) then o.wp cx.P a w (wpOps cx.P ops Q (List.range' (k+1) l.length)) Q else wpOps cx.P ops Q (List.range' (k+1) l.length) (a.put o.dst undef) w:=by
   split at h
   ·rename_i fid args hin;obtain ⟨c,f,a1,b1,hop,hcal,hd,rfl⟩:=ARQ hin;split at h
    ·rename_i hg;rw[fB hr hg];obtain ⟨va,vb,hfv,e1,e2⟩:=LF (hr.evS f) hd;have hargs:dO (Rd w (bY cx ρ st.σ) ρ) (a1++c.args.toList.map (ev (cN true st.s))++b1) (va++c.args.map a.eval++vb):=(e1.append (evs hr.evS c.args)).append e2;obtain ⟨⟨fn,f1,f2,f3⟩,hc⟩:=hI cx ρ st.σ st.n w fid _ _ _ rfl hr.yB hr.inv hargs h;unfold Oper.wp;have he:(execOp a.eval o).run cx.P w = .ok (.enter fid (va++c.args.map a.eval++vb)) w:=by
      have e2':¬ fn.name = "runtime.NumGoroutine" := by simpa using f2
      have e3':¬ fn.body=none:=by intro h;simp[h] at f3
      simp[execOp,hop,resolve,hcal,hfv,Deferred.ofValue,invoke,callFunc,f1,e2',e3']
     rw[he];refine hc.mono ?_;rintro e w' ⟨v,ρ',d,σ',n',rfl,g1,g2,g3,g4,g5⟩;obtain ⟨st',p1,p2⟩:=j6 g5;exact FA hE hh hI hQ l (k+1) st' ρ' _ w' hl' hA' (hf.trans (pC p1 hA0 g4)) (fR hr p1 g1 g2 g3) p2
    ·rename_i hg;rw[fB hr hg];obtain ⟨st',p1,p2⟩:=j6 h;exact FA hE hh hI hQ l (k+1) st' ρ _ w hl' hA' (hf.trans (pC p1 hA0 (D9.refl _ _))) (fR hr p1 hr.inv (bZ.refl _ _ _ _) (.p _ _ (.v _))) p2
    ·exact h.elim
   ·split at h
    ·rename_i it hmo;obtain ⟨hg,hop⟩:=U8 hmo;have hop:o.op = .next it false:=by rcases hop with ⟨_,h⟩|⟨h,_⟩;exact h;cases h
     have hw:Region.wanted o (yielded ops a.tmps)=true:=by simp[Region.wanted,hg]
     simp only[hw,if_true];have fin:∀ outs,ALR st.σ (ev (cN true st.s) it)=some outs->(∀ d σ',(d,σ')∈outs->∃ d',(∀ w own ρ v,Rd w own ρ d v->Rd w own ρ d' v)/\D9 st.σ st.n σ' st.n/\MW cA.toCombs nt st o.dst d' σ' st.n λst'=>evK cA cx.P E nt I en false ops l st' K) ->
       o.wp cx.P a w (wpOps cx.P ops Q (List.range' (k+1) l.length)) Q:=by
      intro outs ho hall;obtain ⟨v,w',d,σ',hrun,hmem,hinv,hkeep,hrd⟩:=BB4 hr ho (ty:=o.type);obtain ⟨d',g1,g2,g3⟩:=hall d σ' hmem;obtain ⟨st',p1,p2⟩:=j6 g3;unfold Oper.wp;have hx:(execOp a.eval o).run cx.P w = .ok (.value v) w':=by
       simp only[execOp,hop,Sem.run_bind,hrun,Result.andThen_ok,Sem.run_pure]
      rw[hx];exact FA hE hh hI hQ l (k+1) st' ρ _ w' hl' hA' (hf.trans (pC p1 hA0 g2)) (fR hr p1 hinv hkeep (g1 _ _ _ _ hrd)) p2
     unfold BB3 at h;split at h
     ·rename_i kk hk;split at h
      ·rename_i es since seen last hσ;obtain ⟨hb,hA1,hB1⟩:=h;simp only[ac,ah] at hb;cases hleft:eC es.length seen with
       | nil =>
        refine fin [(.p (.v (.tuple #[.bool false])),st.σ)] ?_ λd σ' hm=>?_
        ·simp only[ALR,hk,hσ];simp_all
        ·cases List.mem_singleton.1 hm;exact ⟨_,λ_ _ _ _ h=>h,D9.refl _ _,hA1 hleft⟩
       | cons i0 left0 =>
        have hlt:∀ i∈eC es.length seen,i<es.length:=by
         intro i hi;simp only[eC,List.mem_filter,List.mem_range] at hi;exact hi.1
        have hmap:∀ (L:List Nat),(∀ i∈L,i<es.length)->∃ outs,(L.mapM λi=>(es[i]?).map λe=>(D.cB [.p (.v (.bool true)),.p (.v e.1),.p e.2],cJ st.σ kk (some (.cF es since (seen++[i]) es.length))))=some outs /\
          ∀ d σ',(d,σ')∈outs->∃ i∈L,∃ e:Value×T,d=D.cB [.p (.v (.bool true)),.p (.v e.1),.p e.2]/\σ'=cJ st.σ kk (some (.cF es since (seen++[i]) es.length)):=by
         intro L
         induction L with
         | nil=>intro _;exact ⟨[],rfl,λ_ _ h=>by cases h⟩
         | cons i L ih =>
          intro hL;obtain ⟨outs,q1,q2⟩:=ih λj hj=>hL j (by simp[hj]);have hi:=hL i (by simp);refine ⟨(D.cB [.p (.v (.bool true)),.p (.v es[i].1),.p es[i].2],cJ st.σ kk (some (.cF es since (seen++[i]) es.length)))::outs,?_,λd σ' hm=>?_⟩
          ·rw[List.mapM_cons,List.getElem?_eq_getElem hi,q1];rfl
          ·rcases List.mem_cons.1 hm with hm|hm
           ·cases hm;exact ⟨i,by simp,es[i],rfl,rfl⟩
           ·obtain ⟨j,hj,e,q3⟩:=q2 d σ' hm;exact ⟨j,by simp[hj],e,q3⟩
        obtain ⟨outs,q1,q2⟩:=hmap (eC es.length seen) hlt;refine fin outs ?_ λd σ' hm=>?_
        ·simp only[ALR,hk,hσ];rw[if_pos hb];rw[hleft] at q1 ⊢;exact q1
        ·obtain ⟨i,hi,e,rfl,rfl⟩:=q2 d σ' hm;refine ⟨_,λw own ρ v hv=>?_,D9.set _ (al _) hσ rfl,hB1 i hi⟩;cases hv with
         | cB _ vs z1 z2 =>
          refine .cB _ vs (by simpa using z1) λj hj=>?_
          match j,hj with
          | 0,_=>simpa using z2 0 (by simp)
          | 1,_=>exact .any _
          | 2,_=>exact .any _
      ·exact h.elim
     ·exact h.elim
    ·rename_i it hmo;obtain ⟨hg,hop⟩:=U8 hmo;have hop:o.op = .entry it:=by rcases hop with ⟨h,_⟩|⟨_,h⟩;cases h;exact h
     unfold BLD at h;split at h
     ·rename_i kk kr ag r hk hev;split at h
      ·rename_i es since seen last hσ;obtain ⟨hb,i,x,y,g1,g2,g3⟩:=h;have hb:es.length=last:=of_decide_eq_true hb;obtain ⟨st',p1,p2⟩:=j6 g3;have g4:∃ e,es[i]? = some e/\e.1=AED kr x/\e.2=aH ag r y:=by
        simp only[s0,List.getElem?_map,aa,dC,Prod.mk.injEq,D.p.injEq] at g2;omega
       obtain ⟨e,q1,q2,q3⟩:=g4;have hent:A8H st.σ (ev (cN true st.s) it)=some (.p (.cB [.v (AED kr x),aH ag r y])):=by
        simp only[A8H,hk,hσ,ai hb,g1,q1,Option.map_some,q2,q3]
       have hst:gK cx.P E nt ops o st=some st':=by
        have hg1:iY ops st.s o=some true:=by simp[iY,hg]
        unfold gK;simp only[hop,fC,Bool.false_eq_true,if_false,hg1,nv,hent,one,Option.map_some,p1]
       exact KF (Q:=Q) hE hr hst (λρ' a' w' hr'=>FA hE hh hI hQ l (k+1) st' ρ' a' w' hl' hA' (hf.trans (qF hh hst hA0)) hr' p2)
      ·exact h.elim
     ·exact h.elim
    ·obtain ⟨st1,h1,h2⟩:=kY h;exact KF (Q:=Q) hE hr h1 (λρ' a' w' hr'=>FA hE hh hI hQ l (k+1) st1 ρ' a' w' hl' hA' (hf.trans (qF hh h1 hA0)) hr' h2)
  split
  ·simp_all
  ·simp_all
end
end Go.Pv
