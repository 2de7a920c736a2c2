/-
  The pure evaluator, part n: code, and functions.
-/
import Derived.Test.YtepoplfbgaoggaaGreatDoorOnewv
import Derived.Maps.RangeRun
import Derived.Scope
set_option linter.defProp false
set_option linter.unusedSimpArgs false
namespace Go.Pv
open Go Go.RowKit
def BFA (N:St->Prop) (Q:Exit->St->Prop):Exit->St->Prop
 | .normal,st=>N st
 | e,st=>Q e st
def S7 (id:Nat) (Q:Exit->St->Prop):Exit->St->Prop
 | .exit id',st=>if id'=id then Q .normal st else Q (.exit id') st
 | e,st=>Q e st
def AVM (Q:Exit->St->Prop):Exit->St->Prop
 | .goto _,_=>False
 | e,st=>Q e st
def eC (n:Nat) (seen:List Nat):List Nat:=(List.range n).filter λi=>!seen.contains i
def ALR (σ:Nat->Option bL) (d:D):Option (List (D×(Nat->Option bL))) :=
 match d with
 | .it k =>
  match σ k with
  | some (.cF es since seen last) =>
    if es.length<=since/\since<=last then
     match eC es.length seen with
     | []=>some [(.p (.v (.tuple #[.bool false])),σ)]
     | left=>left.mapM λi=>(es[i]?).map λe=>(D.cB [.p (.v (.bool true)),.p (.v e.1),.p e.2],cJ σ k (some (.cF es since (seen++[i]) es.length)))
    else none
  | _=>none
 | _=>none
section
variable {cx : Cx} {nt : Nat} {E : Env}
variable {st:St}
def AW.mono {c:Code} {Q Q':Exit->St->Prop} (h:AW cx nt c Q st) (hq:∀ e st,Q e st->Q' e st):AW cx nt c Q' st :=
 λρ a w hr=>wp_mono (h ρ a w hr) λ_ _ _ ⟨st,ρ,h1,h2⟩=>⟨st,ρ,h1,hq _ _ h2⟩
variable {ρ:Nat->Option Loc}{l:Loc}{outs:List (D×(Nat->Option bL))}{ty:TypeId}
def A14 {a:Act} {w:World} (hr:Rel cx nt ρ st a w) {it:Operand} {k:Nat} {x0:bL} (hval:a.eval it = .pointer (some ⟨l.bV,0,none⟩)) (hσ:st.σ k=some x0) (hwr:iN x0=true) (hl:ρ k=some l) (hL:0<l.L+l.C) {b since last:Nat} {seen:List Nat} {ents:Array MapEntry} {es:List (Value×D)}
  (mk:List Nat->bL) (hob:w.heap[l.bV]? = some (.mapIter (some b) since seen.toArray last)) (hom:w.heap[b]? = some (.map ents es.length)) (hsz:ents.size=es.length) (hent:∀ i (h:i<es.length),∃ e,ents[i]? = some e/\e.key=es[i].1/\e.born=i/\Rd w (bY cx ρ st.σ) ρ es[i].2 e.val)
  (hok1:es.length<=since) (hok2:since<=last) (hmk:∀ s,gC w (bY cx ρ st.σ) ρ l (.mapIter (some b) since s.toArray es.length) (mk s))
  (h:(match eC es.length seen with
     | []=>some [(.p (.v (.tuple #[.bool false])),st.σ)]
     | left=>left.mapM λi=>(es[i]?).map λe=>(D.cB [.p (.v (.bool true)),.p (.v e.1),e.2],cJ st.σ k (some (mk (seen++[i])))))=some outs) :
  ∃ v w' d σ',(Instr.next (a.eval it) false ty).run cx.P w = .ok v w'/\(d,σ')∈outs/\Inv cx ρ σ' st.n w'/\bZ cx ρ ρ st.σ σ' w w'/\Rd w' (bY cx ρ σ') ρ d v:=by
 have hborn:∀ (i:Nat) (x:MapEntry),ents[i]? = some x->x.born=i/\i<es.length:=by
  intro i x hx;have hi:i<es.length:=by rw[<-hsz];exact (Array.getElem?_eq_some_iff.1 hx).1
  obtain ⟨e,e1,e2,e3,e4⟩:=hent i hi;rw[hx] at e1;cases e1;exact ⟨e3,hi⟩
 have hold:∀ x∈ents.toList,x.born<since:=by
  intro x hx;obtain ⟨i,hi,rfl⟩:=List.mem_iff_getElem.1 hx;have:=hborn i _ (by rw[<-Array.getElem?_toList,List.getElem?_eq_getElem hi]);omega
 have hleft:∀ x∈(leftOf ents seen.toArray).toList,∃ i,ents[i]? = some x/\i∈eC es.length seen:=by
  intro x hx;simp only[leftOf,Array.toList_filter,List.mem_filter] at hx;obtain ⟨h1,h2⟩:=hx;obtain ⟨i,hi,rfl⟩:=List.mem_iff_getElem.1 h1;have hg:ents[i]? = some ents.toList[i]:=by rw[<-Array.getElem?_toList,List.getElem?_eq_getElem hi]
  obtain ⟨hb1,hb2⟩:=hborn i _ hg;refine ⟨i,hg,?_⟩;simp only[eC,List.mem_filter,List.mem_range];refine ⟨hb2,?_⟩;rw[hb1] at h2;simpa using h2
 rw[hval];rcases run_next_at (P:=cx.P) w ty l.bV b since last seen.toArray ents es.length hob hom hold hok2 with ⟨h0,hrun⟩|⟨x,hx,w1,hw1,hrun⟩
 ·have hnil:eC es.length seen=[]:=by
   rw[List.eq_nil_iff_forall_not_mem];intro i hi;simp only[eC,List.mem_filter,List.mem_range] at hi;obtain ⟨e,e1,e2,e3,e4⟩:=hent i hi.1;have:e∈leftOf ents seen.toArray:=by
    simp only[leftOf,Array.mem_filter];refine ⟨Array.mem_of_getElem? e1,?_⟩;rw[e3];simpa using hi.2
   rw[Array.eq_empty_of_size_eq_zero h0] at this;simp at this
  rw[hnil] at h;cases h;exact ⟨_,w,_,_,hrun,List.mem_singleton.2 rfl,hr.inv,bZ.refl _ _ _ _,.p _ _ (.v _)⟩
 ·obtain ⟨i,hi,hil⟩:=hleft x hx;obtain ⟨hb1,hb2⟩:=hborn i x hi;obtain ⟨e,e1,e2,e3,e4⟩:=hent i hb2;rw[hi] at e1;cases e1;split at h
  ·rename_i hnil;rw[hnil] at hil;cases hil
  ·rename_i left hne;obtain ⟨q,hq,hqe⟩:=List.mem_iff_getElem.1 hil;obtain ⟨g1,g2⟩:=mapM_some_length h;have g3:=g2 q hq (by omega);rw[hqe,List.getElem?_eq_getElem hb2] at g3;simp only[Option.map_some,Option.some.injEq] at g3;refine ⟨_,_,D.cB [.p (.v (.bool true)),.p (.v es[i].1),es[i].2],cJ st.σ k (some (mk (seen++[i]))),hrun,?_,?_⟩
   ·rw[g3];exact ak _
   ·have hlt:l.bV<w.heap.size:=((hr.inv.new k l hl).2 hL).1;have hwo:w1.os=w.os/\w1.tape=w.tape/\w1.output=w.output/\w1.heap=w.heap:=by
     rcases hw1 with rfl|rfl<;>exact ⟨rfl,rfl,rfl,rfl⟩
    obtain ⟨k1,k2⟩:=hr.inv.AF0 (n':=st.n) (al _) hσ hl hL hwr (.mapIter (some b) since (seen.toArray.push x.born) es.length) (mk (seen++[i]))
     (w':=ChangeMaps.setBlock w1 l.bV (.mapIter (some b) since (seen.toArray.push x.born) es.length)) hwo.1 hwo.2.1 hwo.2.2.1 (by simp[ChangeMaps.setBlock,hwo.2.2.2]) (by simp[ChangeMaps.setBlock,hwo.2.2.2,hlt])
     (λb hne=>by simp[ChangeMaps.setBlock,hwo.2.2.2,Array.getElem?_setIfInBounds_ne (Ne.symm hne)]) (NW hob (λ_ _ _ e=>by cases e)) (by
      have:=hmk (seen++[i]);rw[hb1];simpa using this)
    refine ⟨k1,k2,?_⟩;refine .cB _ _ (by simp) λj hj=>?_
    match j,hj with
    | 0,_=>exact .p _ _ (.v _)
    | 1,_=>simp only[List.getElem_cons_succ,List.getElem_cons_zero];rw[<-e2];exact .p _ _ (.v _)
    | 2,_=>exact k2.rd e4
def BB4 {a:Act} {w:World} (hr:Rel cx nt ρ st a w) {it:Operand} (h:ALR st.σ (ev (cN true st.s) it)=some outs) :
  ∃ v w' d σ',(Instr.next (a.eval it) false ty).run cx.P w = .ok v w'/\(d,σ')∈outs/\Inv cx ρ σ' st.n w'/\bZ cx ρ ρ st.σ σ' w w'/\Rd w' (bY cx ρ σ') ρ d v:=by
 unfold ALR at h;split at h
 ·rename_i k hk;have hit:=hr.evS it;rw[hk] at hit;obtain ⟨l,hl,hval⟩:∃ l,ρ k=some l/\a.eval it = .pointer (some ⟨l.bV,0,none⟩):=by
   generalize a.eval it=q at hit ⊢;cases hit with
   | it _ l hl=>exact ⟨l,hl,rfl⟩
  split at h
  ·rename_i es since seen last hσ;obtain ⟨l',hl',hL,ob,hob,hb⟩:=hr.inv.loc hσ (λ_ _ e=>by cases e);rw[hl] at hl';cases hl';cases hb with
   | rows _ _ _ hr=>simp[fJ] at hr
   | cF _ b _ _ _ hmp =>
   split at h
   ·rename_i hok;obtain ⟨hok1,hok2⟩:=hok;have hmp':=hmp;cases hmp with
    | mp _ _ ents f h1 h2 h3 h4 h5 h6 =>
    have hlen:(s0 es).length=es.length:=by simp[s0]
    refine A14 (es:=s0 es) (b:=b) (ents:=ents) (since:=since) (last:=last) (seen:=seen) hr hval hσ rfl hl hL (λs=>.cF es since s es.length) hob (by rw[hlen];exact h3) (by rw[hlen];exact h4) (λi hi=>?_) (by rw[hlen];exact hok1) hok2 (λs=>by rw[hlen];exact .cF es b since s es.length hmp') ?_
    ·have hi':i<es.length:=by rw[<-hlen];exact hi
     obtain ⟨a1,a2,a3⟩:=h5 i hi';refine ⟨f i,a1,by simpa [s0] using a2,a3,?_⟩;simp only[s0,List.getElem_map];exact .p _ _ (h6 i hi')
    ·rw[hlen,<-h];have hg:∀ i:Nat,(s0 es)[i]? = (es[i]?).map λ(e:Value×T)=>(e.1,D.p e.2):=λi=>by simp[s0]
     cases eC es.length seen with
     | nil=>rfl
     | cons i left =>
      simp only[hg,Option.map_map];rfl
   ·cases h
  ·cases h
 ·cases h
end
inductive Bd:T->Prop
 | v (x:Value):Bd (.v x)
 | agg (cs:List T):(∀ c∈cs,Bd c)->Bd (.agg cs)
 | cB (cs:List T):(∀ c∈cs,Bd c)->Bd (.cB cs)
 | sl (f:Bool) (rows:List (List T)):rows.length<=2 ^ 47->(∀ r∈rows,∀ c∈r,Bd c)->Bd (.sl f rows)
 | ne (f:Bool):Bd (.ne f)
 | ref (cs:List T):(∀ c∈cs,Bd c)->Bd (.ref cs)
 | fn (f:FuncId) (a b:List T):(∀ c∈a,Bd c)->(∀ c∈b,Bd c)->Bd (.fn f a b)
 | mp (es:List (Value×T)):(∀ e∈es,Bd e.2)->Bd (.mp es)
def cS.bd {w:World} {own:Nat->Prop} {t:T} {v:Value} (h:cS w own t v):Bd t:=by
 have mem:∀ {cs:List T} {f:∀ i,i<cs.length->Value},(∀ i (h:i<cs.length),Bd cs[i])->∀ c∈cs,Bd c:=by
  intro cs f h c hc;obtain ⟨i,hi,rfl⟩:=List.mem_iff_getElem.1 hc;exact h i hi
 induction h with
 | v x=>exact .v x
 | agg cs vs _ _ ih=>exact .agg cs λc hc=>by obtain ⟨i,hi,rfl⟩:=List.mem_iff_getElem.1 hc;exact ih i hi
 | cB cs vs _ _ ih=>exact .cB cs λc hc=>by obtain ⟨i,hi,rfl⟩:=List.mem_iff_getElem.1 hc;exact ih i hi
 | dF f a cap _ _=>exact .sl f [] (by simp) (by simp)
 | ne f a cap _=>exact .ne f
 | sl f rows sz b o cap g h1 h2 h3 h4 h45 h5 h6 h7 _ ih =>
  refine .sl f rows h2 λr hr c hc=>?_;obtain ⟨i,hi,rfl⟩:=List.mem_iff_getElem.1 hr;obtain ⟨j,hj,rfl⟩:=List.mem_iff_getElem.1 hc;exact ih i j hi hj
 | ref cs b o f _ _ _ _ ih=>exact .ref cs λc hc=>by obtain ⟨i,hi,rfl⟩:=List.mem_iff_getElem.1 hc;exact ih i hi
 | fn f fs cs va vb _ _ _ _ ih1 ih2 =>
  exact .fn f fs cs (λc hc=>by obtain ⟨i,hi,rfl⟩:=List.mem_iff_getElem.1 hc;exact ih1 i hi) (λc hc=>by obtain ⟨i,hi,rfl⟩:=List.mem_iff_getElem.1 hc;exact ih2 i hi)
 | mp es b ents f _ _ _ _ _ _ ih=>exact .mp es λc hc=>by obtain ⟨i,hi,rfl⟩:=List.mem_iff_getElem.1 hc;exact ih i hi
@[simp] def BTJ (x:Value):Bd (.v x):=.v x
@[simp] def BLX (cs:List T):Bd (.agg cs)↔∀ c∈cs,Bd c:=⟨λh=>by cases h with|agg _ h=>exact h,.agg cs⟩
@[simp] def BKO (f:Bool) (rows:List (List T)):Bd (.sl f rows)↔rows.length<=2 ^ 47/\∀ r∈rows,∀ c∈r,Bd c:=⟨λh=>by cases h with|sl _ _ h1 h2=>exact ⟨h1,h2⟩,λh=>.sl f rows h.1 h.2⟩
@[simp] def BS8 (cs:List T):Bd (.ref cs)↔∀ c∈cs,Bd c:=⟨λh=>by cases h with|ref _ h=>exact h,.ref cs⟩
@[simp] def BTG (f:FuncId) (a b:List T):Bd (.fn f a b)↔(∀ c∈a,Bd c)/\∀ c∈b,Bd c:=⟨λh=>by cases h with|fn _ _ _ h1 h2=>exact ⟨h1,h2⟩,λh=>.fn f a b h.1 h.2⟩
def st0 (args:List T):St:=⟨λi=>match args[i]? with|some t=>.p t|none=>.p (.v undef),λ_=>none,0⟩
def zS (P:Program) (st:St):List ResultVar->Option (List D)
 | []=>some []
 | .tmp t::r=>(zS P st r).map (strip true (st.s t) :: ·)
 | .cell a t::r=>match BL P st.σ t (strip true (st.s a)) with
  | some d=>(zS P st r).map (d :: ·)
  | none=>none
def cS.canon {w:World} {own:Nat->Prop}:∀ (n:Nat) {t:T} {v:Value},cS w own t v->cS w own (T.canon n t) v:=by
 intro n;have sl:∀ {f:Bool} {rows:List (List T)} {v:Value},cS w own (.sl f rows) v->cS w own (.sl false rows) v:=by
  intro f rows v h;cases h with
  | dF _ a cap hf hn=>exact .dF false a cap (by simp) hn
  | sl _ _ sz b o cap g h1 h2 h3 h4 h45 h5 h6 h7 h8=>exact .sl false rows sz b o cap g h1 h2 (by simp) h4 h45 h5 h6 h7 h8
 induction n with
 | zero =>
  intro t v h;unfold T.canon;split
  ·exact sl h
  ·cases h;exact .dF false none 0 (by simp) (by simp)
  ·cases h with
   | ne _ a cap hf=>exact .dF false (some a) cap (by simp) (by simp)
  ·omega
  ·omega
  ·exact h
 | succ n ih =>
  intro t v h;unfold T.canon;split
  ·exact sl h
  ·cases h;exact .dF false none 0 (by simp) (by simp)
  ·cases h with
   | ne _ a cap hf=>exact .dF false (some a) cap (by simp) (by simp)
  ·rename_i m cs e;cases e;cases h with
   | agg _ vs h1 h2=>exact .agg _ vs (by simpa using h1) λi hi=>by simpa using ih (h2 i (by simpa using hi))
  ·rename_i m cs e;cases e;cases h with
   | cB _ vs h1 h2=>exact .cB _ vs (by simpa using h1) λi hi=>by simpa using ih (h2 i (by simpa using hi))
  ·exact h
def BP6 (P:Program) (rs:Array ResultVar) (st:St):Option T :=
 match zS P st rs.toList with
 | some [d]=>(j1 st.σ 6 d).map (T.canon 4)
 | some ds=>(j1 st.σ 6 (.cB ds)).map (T.canon 4)
 | none=>none
def BT (tmps:Array Value):ResultVar->Sem Value
 | .tmp t=>pure (tmps.getD t undef)
 | .cell x t=>do loadVar t (<-asAddr (tmps.getD x undef))
def iZ (fn:Func) (tmps:Array Value):results fn tmps=(do
  let vs <-fn.results.mapM (BT tmps)
  pure (if h:vs.size=1 then vs[0] else .tuple vs)):=by
 rfl
def p8 {cx:Cx} {nt:Nat} {ρ:Nat->Option Loc} {st:St} {a:Act} {w:World} (hr:Rel cx nt ρ st a w):∀ {rs:List ResultVar} {ds:List D},zS cx.P st rs=some ds ->
  ∃ vs:List Value,(rs.mapM (BT a.tmps)).run cx.P w = .ok vs w/\dO (Rd w (bY cx ρ st.σ) ρ) ds vs.toArray
 | [],ds,h=>by simp only[zS] at h;cases h;exact ⟨[],by simp,dO.nil⟩
 | .tmp t::rs,ds,h=>by
  simp only[zS,aa] at h;obtain ⟨ds',h',rfl⟩:=h;obtain ⟨vs,h1,h2⟩:=p8 hr h';refine ⟨a.tmps.getD t undef::vs,by simp only[List.mapM_cons,BT,Sem.run_bind,Sem.run_pure,Result.andThen_ok,h1],?_⟩;have:=(dO.one (XN (hr.uD t))).append h2;simp_all
 | .cell x t::rs,ds,h=>by
  simp only[zS] at h;split at h
  ·rename_i d hd;simp only[aa] at h;obtain ⟨ds',h',rfl⟩:=h;obtain ⟨vs,h1,h2⟩:=p8 hr h';obtain ⟨v,h3,h4⟩:=ALE hr.inv (XN (hr.uD x)) hd;have h5:(do loadVar t (<-asAddr (a.tmps.getD x undef)):Sem Value).run cx.P w = .ok v w:=by
    generalize a.tmps.getD x undef=q at *;cases q with
    | pointer p=>cases p with
     | none=>simp[Instr.loadAt,Instr.sureAddr] at h3
     | some p=>simpa [Instr.loadAt,Instr.sureAddr,asAddr] using h3
    | _=>simp[Instr.loadAt,Instr.sureAddr] at h3
   refine ⟨v::vs,?_,?_⟩
   ·rw[List.mapM_cons];rw[Sem.run_bind,show BT a.tmps (.cell x t)=(do loadVar t (<-asAddr (a.tmps.getD x undef))) from rfl,h5];simp_all
   ·have:=(dO.one h4).append h2;simp_all
  ·cases h
variable {cx:Cx}{nt:Nat}{ρ:Nat->Option Loc}{st:St}
def BD0 {a:Act} {w:World} (hr:Rel cx nt ρ st a w) {fn:Func} {r:T} (h:BP6 cx.P fn.results st=some r) :
  ∃ v,(results fn a.tmps).run cx.P w = .ok v w/\cS w cx.own r v:=by
 unfold BP6 at h;have run:∀ {ds:List D},zS cx.P st fn.results.toList=some ds->∃ vs:Array Value,(fn.results.mapM (BT a.tmps)).run cx.P w = .ok vs w/\dO (Rd w (bY cx ρ st.σ) ρ) ds vs:=by
  intro ds hds;obtain ⟨vs,h1,h2⟩:=p8 hr hds;refine ⟨vs.toArray,?_,h2⟩;rw[Array.mapM_eq_mapM_toList,Sem.run_map,h1];rfl
 split at h
 ·rename_i d hd;obtain ⟨vs,h1,h2⟩:=run hd;have hs:vs.size=1:=by simpa using h2.1
  refine ⟨vs[0],?_,?_⟩
  ·rw[iZ,Sem.run_bind,h1];simp[hs]
  ·have h3:=h2.2 0 (by simp);have h4:vs.getD 0 undef=vs[0]:=by simp[Array.getD,hs]
   rw[h4] at h3;simp only[aa] at h;obtain ⟨r',hr',rfl⟩:=h;exact (UF hr.inv 6 h3 hr').canon 4
 ·rename_i ds hne hds;obtain ⟨vs,h1,h2⟩:=run hds;have hs:¬ vs.size=1:=by
   intro hs;rw[h2.1] at hs;obtain ⟨d,rfl⟩:=List.length_eq_one_iff.1 hs;simp_all
  refine ⟨.tuple vs,?_,?_⟩
  ·rw[iZ,Sem.run_bind,h1];simp[hs]
  ·simp only[aa] at h;obtain ⟨r',hr',rfl⟩:=h;exact (UF hr.inv 6 (.cB ds vs h2.1 h2.2) hr').canon 4
 ·cases h
def stD (args:List D) (σ:Nat->Option bL) (n:Nat):St:=⟨λi=>match args[i]? with|some d=>d|none=>.p (.v undef),σ,n⟩
variable {σ:Nat->Option bL}
def Q5 {n:Nat} {w:World} {args:List D} {vs:Array Value} (hI:Inv cx ρ σ n w) (hk:bZ cx cx.ρb ρ cx.σb σ cx.wb w) (hG:Good cx.P w) (ha:dO (Rd w (bY cx ρ σ) ρ) args vs) (hlen:args.length<=nt) :
  Rel cx nt ρ (stD args σ n) { tmps:=vs++Array.replicate (nt-vs.size) undef,defers:=[] } w:=by
 refine ⟨hI,by simp[ha.1];omega,rfl,hk,hG,λi=>?_⟩;by_cases hi:i<args.length
 ·have h1:=ha.2 i hi;have hs:i<vs.size:=by rw[ha.1];exact hi
  simp only[Array.getD_eq_getD_getElem?,Array.getElem?_append_left hs] at h1 ⊢;simp only[stD,List.getElem?_eq_getElem hi];exact h1
 ·have hs:vs.size<=i:=by rw[ha.1];omega
  have hu:((vs++Array.replicate (nt-vs.size) undef).getD i undef)=undef:=by
   simp only[Array.getD_eq_getD_getElem?,Array.getElem?_append_right hs,Array.getElem?_replicate];split<;>rfl
  simp only[hu,stD,List.getElem?_eq_none (Nat.le_of_not_lt hi)];exact .p _ _ (.v _)
def YF (P:Program) (own:Nat->Prop) (w:World):Cx:=⟨P,own,w,λ_=>none,λ_=>none,w,[]⟩
def BR8 (P:Program) (own:Nat->Prop) (w:World) (hG:Good P w) (hown:∀ b,own b->b<w.heap.size):Inv (YF P own w) (λ_=>none) (λ_=>none) 0 w :=
 ⟨λk x hk=>by simp at hk,λk k' x x' l l' hk=>by simp at hk,λk l hk=>by simp at hk,λk x l hk=>by simp at hk,ACR (Below.refl _ _),hown,hG.2,λa h=>by cases h⟩
variable {P:Program}
def Q4 {own:Nat->Prop} {w:World} {args:List T} {vs:Array Value} (hG:Good P w) (hown:∀ b,own b->b<w.heap.size) (ha:dO (cS w own) args vs) (hlen:args.length<=nt) :
  Rel (YF P own w) nt (λ_=>none) (st0 args) { tmps:=vs++Array.replicate (nt-vs.size) undef,defers:=[] } w:=by
 have hI:=BR8 P own w hG hown;have hown':∀ b,bY (YF P own w) (λ_=>none) (λ_=>none) b->own b:=λb hb=>by
  rcases hb with hb|⟨k,l,x,hk,_,_⟩
  ·exact hb
  ·simp at hk
 have:=Q5 (cx:=YF P own w) (nt:=nt) (args:=args.map .p) (vs:=vs) hI (bZ.refl _ _ _ _) hG (dO.map (R:=cS w own) _ ha (λd v h=>.p _ _ (h.less hown'))) (by simpa using hlen);have e:stD (args.map .p) (λ_=>none) 0=st0 args:=by
  unfold stD st0
  congr 1
  funext i
  cases h:args[i]? <;> simp[h]
 simp_all
def BSY (ds:List D):D:=match qU ds with
 | some ts=>.p (.cB ts)
 | none=>.cB ds
def BD2 (P:Program) (rs:Array ResultVar) (st:St):Option (D×(Nat->Option bL)×Nat) :=
 match zS P st rs.toList with
 | some [d]=>some (d,st.σ,st.n)
 | some ds=>some (BSY ds,st.σ,st.n)
 | none=>none
def AMW {a:Act} {w:World} (hr:Rel cx nt ρ st a w) {fn:Func} {r:D×(Nat->Option bL)×Nat} (h:BD2 cx.P fn.results st=some r) :
  ∃ v,(results fn a.tmps).run cx.P w = .ok v w/\Rd w (bY cx ρ st.σ) ρ r.1 v/\r.2=(st.σ,st.n):=by
 have run:∀ {ds:List D},zS cx.P st fn.results.toList=some ds->∃ vs:Array Value,(fn.results.mapM (BT a.tmps)).run cx.P w = .ok vs w/\dO (Rd w (bY cx ρ st.σ) ρ) ds vs:=by
  intro ds hds;obtain ⟨vs,h1,h2⟩:=p8 hr hds;refine ⟨vs.toArray,?_,h2⟩;rw[Array.mapM_eq_mapM_toList,Sem.run_map,h1];rfl
 unfold BD2 at h;split at h
 ·rename_i d hd;cases h;obtain ⟨vs,h1,h2⟩:=run hd;have hs:vs.size=1:=by simpa using h2.1
  refine ⟨vs[0],?_,?_,rfl⟩
  ·rw[iZ,Sem.run_bind,h1];simp[hs]
  ·have h3:=h2.2 0 (by simp);simp_all
 ·rename_i ds hne hds;cases h;obtain ⟨vs,h1,h2⟩:=run hds;have hs:¬ vs.size=1:=by
   intro hs;rw[h2.1] at hs;obtain ⟨d,rfl⟩:=List.length_eq_one_iff.1 hs;simp_all
  refine ⟨.tuple vs,?_,?_,rfl⟩
  ·rw[iZ,Sem.run_bind,h1];simp[hs]
  ·unfold BSY;split
   ·rename_i ts hts;have:=xF h2 hts;exact .p _ _ (.cB _ _ this.1 this.2)
   ·exact .cB _ _ h2.1 h2.2
 ·cases h
def A1J {f:FuncId} {fn:Func} {c:Code} (hf:P.funcs[f]? = some fn) (hname:(fn.name == "runtime.NumGoroutine")=false) (hb:fn.body=some c) {g:List D->(Nat->Option bL)->Nat->Option (D×(Nat->Option bL)×Nat)}
  (h:∀ args σ n r,g args σ n=some r->args.length<=fn.ntmps/\∀ cx:Cx,cx.P=P->AW cx fn.ntmps c (λe st=>(e = .normal\/e = .ret)/\BD2 P fn.results st=some r) (stD args σ n)):fI P f g:=by
 refine ⟨⟨fn,hf,hname,by simp[hb]⟩,λcx ρ σ n w args vs d σ' n' hcP hG hI ha hg=>?_⟩;subst hcP;obtain ⟨hlen,hw⟩:=h args σ n _ hg
 let cx':Cx:=⟨cx.P,cx.own,cx.w0,ρ,σ,w,cx.arg⟩
 have hI':Inv cx' ρ σ n w:=⟨hI.boxes,hI.inj,hI.new,hI.uQ,hI.below,hI.nC,hI.low⟩
 refine calls_of_wp hf hb ?_;have hr:Rel cx' fn.ntmps ρ (stD args σ n) { tmps:=vs++Array.replicate (fn.ntmps-vs.size) undef,defers:=[] } w:=Q5 hI' (bZ.refl _ _ _ _) hG ha hlen;refine wp_mono (hw cx' rfl _ _ w hr) ?_;rintro e a' w' ⟨st',ρ',hr',he,hres⟩;obtain ⟨v,h1,h2,h3⟩:=AMW hr' hres;obtain ⟨rfl,rfl⟩:=h3;have hI2:Inv cx ρ' st'.σ st'.n w':=⟨hr'.inv.boxes,hr'.inv.inj,hr'.inv.new,hr'.inv.uQ,hr'.inv.below,hr'.inv.nC,hr'.inv.low⟩
 have hk2:bZ cx ρ ρ' σ st'.σ w w':=⟨hr'.keeps.cell,hr'.keeps.size,hr'.keeps.own,hr'.keeps.loc,hr'.keeps.shape,hr'.keeps.ro⟩
 rcases he with rfl|rfl
 ·exact ⟨hr'.defers,v,h1,v,ρ',rfl,hI2,hk2,h2⟩
 ·exact ⟨hr'.defers,v,h1,v,ρ',rfl,hI2,hk2,h2⟩
def toRo:bL->bL
 | .rows _ rs=>.rows true rs
 | .arr _ z rows=>.arr true z rows
 | .map _ es=>.map true es
 | _=>.held
def roS (σ:Nat->Option bL):Nat->Option bL:=λk=>match σ k with
 | some x=>some (toRo x)
 | none=>none
def wrS (σ:Nat->Option bL):Nat->Option bL:=λk=>match σ k with
 | some x=>match iN x with
  | true=>some x
  | false=>none
 | none=>none
def ANC {k:Nat} {x:bL} (h:wrS σ k=some x):σ k=some x:=by
 unfold wrS at h
 grind
def A3M (P:Program) (rs:Array ResultVar) (st:St):Option T :=
 match zS P st rs.toList with
 | some [d]=>(j1 (wrS st.σ) 6 d).map (T.canon 4)
 | some ds=>(j1 (wrS st.σ) 6 (.cB ds)).map (T.canon 4)
 | none=>none
def BU {k:Nat} {x:bL} (h:roS σ k=some x):∃ y,σ k=some y/\x=toRo y:=by
 unfold roS at h
 grind
def toRo_wr (x:bL):iN (toRo x)=false:=by cases x<;>rfl
def AVP {cx':Cx} (ho:cx'.own=cx.own):bY cx' ρ (roS σ)=bY cx ρ σ:=by
 funext b
 simp only[bY,ho,eq_iff_iff];refine or_congr Iff.rfl ⟨λ⟨k,l,x,h1,h2⟩=>?_,λ⟨k,l,x,h1,h2⟩=>⟨k,l,toRo x,by simp[roS,h1],h2⟩⟩;obtain ⟨y,h3,_⟩:=BU h1;exact ⟨k,l,y,h3,h2⟩
variable {l:Loc}
def gC.toRo {w:World} {own:Nat->Prop} {o:Obj} {x:bL} (h:gC w own ρ l o x):gC w own ρ l o (toRo x):=by
 cases h with
 | rows _ rs c hr hz h =>
  cases x with
  | rows ro rs'=>cases hr;exact .rows _ _ c rfl (λ_ _ _ e=>by cases e) h
  | arr ro z rows=>cases hr;exact .rows _ _ c rfl (λ_ _ _ e=>by cases e;exact hz _ _ _ rfl) h
  | _=>simp[fJ] at hr
 | map ro es ents h1 h2=>exact .map true es ents h1 h2
 | mL s pos=>exact .held _
 | cF es b since seen last h=>exact .held _
 | held o=>exact .held _
def Inv.toRo {n:Nat} {w:World} (h:Inv cx ρ σ n w) (hlow:cx.P.low<=w.heap.size):Inv ⟨cx.P,cx.own,w,ρ,roS σ,w,[]⟩ ρ (roS σ) n w:=by
 have ho:bY ⟨cx.P,cx.own,w,ρ,roS σ,w,[]⟩ ρ (roS σ)=bY cx ρ σ:=AVP rfl;refine ⟨λk x hk=>?_,λk k' x x' l l' h1 h2=>?_,h.new,λk x l hk _ _ hw=>?_,ACR (Below.refl _ _),λb hb=>?_,hlow,λa h=>by cases h⟩
 ·obtain ⟨y,hy,rfl⟩:=BU hk;obtain ⟨l,hl,h1,h2⟩:=h.boxes k y hy;refine ⟨l,hl,λhL=>?_,λh0=>?_⟩
  ·obtain ⟨o,e1,e2⟩:=h1 hL;rw[ho];exact ⟨o,e1,e2.toRo⟩
  ·obtain ⟨ro,z,rfl⟩:=h2 h0;exact ⟨true,z,rfl⟩
 ·obtain ⟨y,hy,_⟩:=BU h1;obtain ⟨y',hy',_⟩:=BU h2;exact h.inj k k' y y' l l' hy hy'
 ·obtain ⟨y,hy,rfl⟩:=BU hk;rw[toRo_wr] at hw;cases hw
 ·have:=h.nC b hb;have:=h.below.size;show b<w.heap.size;omega
def BD4 {a:Act} {w:World} {own0:Nat->Prop} (hr:Rel cx nt ρ st a w) (hn:cx.arg=[]) (h0:∀ b,own0 b->bY cx ρ st.σ b) (h1:∀ b,own0 b->b<cx.w0.heap.size) {fn:Func} {r:T} (h:A3M cx.P fn.results st=some r) :
  ∃ v,(results fn a.tmps).run cx.P w = .ok v w/\cS w own0 r v:=by
 have hwr:∀ k x,wrS st.σ k=some x->st.σ k=some x/\iN x=true:=by
  intro k x hk;unfold wrS at hk
  grind
 have fr:∀ {d:D} {t:T} {v:Value},Rd w (bY cx ρ st.σ) ρ d v->j1 (wrS st.σ) 6 d=some t->cS w own0 t v:=λhd hf =>
  UE hr.inv h0 (λk x hk=>(hwr k x hk).1) (λk x l hk hl hL ho=>by
   obtain ⟨hk1,hk2⟩:=hwr k x hk;have:=hr.inv.ALK hn k x l hk1 hl hL hk2;have:=h1 _ ho;omega) 6 hd hf
 unfold A3M at h;have run:∀ {ds:List D},zS cx.P st fn.results.toList=some ds->∃ vs:Array Value,(fn.results.mapM (BT a.tmps)).run cx.P w = .ok vs w/\dO (Rd w (bY cx ρ st.σ) ρ) ds vs:=by
  intro ds hds;obtain ⟨vs,h1,h2⟩:=p8 hr hds;refine ⟨vs.toArray,?_,h2⟩;rw[Array.mapM_eq_mapM_toList,Sem.run_map,h1];rfl
 split at h
 ·rename_i d hd;obtain ⟨vs,h1,h2⟩:=run hd;have hs:vs.size=1:=by simpa using h2.1
  refine ⟨vs[0],?_,?_⟩
  ·rw[iZ,Sem.run_bind,h1];simp[hs]
  ·have h3:=h2.2 0 (by simp);have h4:vs.getD 0 undef=vs[0]:=by simp[Array.getD,hs]
   rw[h4] at h3;simp only[aa] at h;obtain ⟨r',hr',rfl⟩:=h;exact (fr h3 hr').canon 4
 ·rename_i ds hne hds;obtain ⟨vs,h1,h2⟩:=run hds;have hs:¬ vs.size=1:=by
   intro hs;rw[h2.1] at hs;obtain ⟨d,rfl⟩:=List.length_eq_one_iff.1 hs;simp_all
  refine ⟨.tuple vs,?_,?_⟩
  ·rw[iZ,Sem.run_bind,h1];simp[hs]
  ·simp only[aa] at h;obtain ⟨r',hr',rfl⟩:=h;exact (fr (.cB ds vs h2.1 h2.2) hr').canon 4
 ·cases h
def A3L {f:FuncId} {fn:Func} {c:Code} (hf:P.funcs[f]? = some fn) (hname:(fn.name == "runtime.NumGoroutine")=false) (hb:fn.body=some c) {g:List D->(Nat->Option bL)->Nat->Option T}
  (h:∀ args σ n r,g args σ n=some r->args.length<=fn.ntmps/\∀ cx:Cx,cx.P=P->AW cx fn.ntmps c (λe st=>(e = .normal\/e = .ret)/\A3M P fn.results st=some r) (stD args (roS σ) n)):xE P f g:=by
 refine ⟨⟨fn,hf,hname,by simp[hb]⟩,λcx ρ σ n w args vs r hcP hG hI ha hg=>?_⟩;subst hcP;obtain ⟨hlen,hw⟩:=h args σ n _ hg
 let cx':Cx:=⟨cx.P,cx.own,w,ρ,roS σ,w,[]⟩
 have hI':Inv cx' ρ (roS σ) n w:=hI.toRo hG.2;have ho:bY cx' ρ (roS σ)=bY cx ρ σ:=AVP rfl;refine calls_of_wp hf hb ?_;have hr:Rel cx' fn.ntmps ρ (stD args (roS σ) n) { tmps:=vs++Array.replicate (fn.ntmps-vs.size) undef,defers:=[] } w:=Q5 hI' (bZ.refl _ _ _ _) hG (by rw[ho];exact ha) hlen;refine wp_mono (hw cx' rfl _ _ w hr) ?_;rintro e a' w' ⟨st',ρ',hr',he,hres⟩;have hown:∀ b,bY cx ρ σ b->bY cx' ρ' st'.σ b:=by
  intro b hb;rcases hb with hb|⟨k,l,x,h1,h2,h3,h4⟩
  ·exact .inl hb
  ·obtain ⟨x',h5,_⟩:=hr'.keeps.ro k (toRo x) (by show roS σ k=_;simp[roS,h1]) (toRo_wr x);exact .inr ⟨k,l,x',h5,hr'.keeps.loc k l h2,h3,h4⟩
 obtain ⟨v,h1,h2⟩:=BD4 (own0:=bY cx ρ σ) hr' rfl hown (λb hb=>bY.lt hI hb) hres;rcases he with rfl|rfl
 ·exact ⟨hr'.defers,v,h1,v,rfl,h2,hr'.inv.below.toB⟩
 ·exact ⟨hr'.defers,v,h1,v,rfl,h2,hr'.inv.below.toB⟩
def BP7 (P:Program) (rs:Array ResultVar) (st:St):Option (List (List T)) :=
 match zS P st rs.toList with
 | some [.p t]=>match gP t with
  | some (_,[])=>some []
  | _=>none
 | some [.own k]=>match st.σ k with
  | some (.arr false _ rows)=>some rows
  | _=>none
 | _=>none
def BD1 {a:Act} {w:World} (hr:Rel cx nt ρ st a w) (hn:cx.arg=[]) {fn:Func} {rows:List (List T)} (h:BP7 cx.P fn.results st=some rows) :
  ∃ v,(results fn a.tmps).run cx.P w = .ok v w/\(rows=[]->cS w cx.own (.sl false []) v) /\
   (rows≠[]->∃ bV sz C ty c,v = .slice (some ⟨bV,0,none⟩) rows.length C/\C<=maxLen/\cx.w0.heap.size<=bV/\w.heap[bV]? = some (.cells c ty (0,0)) /\
    gC w (λb=>cx.own b\/b=bV) (λ_=>none) ⟨bV,sz,C,ty,rows.length⟩ (.cells c ty (0,0)) (.arr false sz rows)):=by
 have run:∀ {d:D},zS cx.P st fn.results.toList=some [d]->∃ v,(results fn a.tmps).run cx.P w = .ok v w/\Rd w (bY cx ρ st.σ) ρ d v:=by
  intro d hds;obtain ⟨vs,h1,h2⟩:=p8 hr hds;have hs:vs.toArray.size=1:=by simpa using h2.1
  refine ⟨vs.toArray[0],?_,?_⟩
  ·rw[iZ,Array.mapM_eq_mapM_toList,Sem.run_bind,Sem.run_map,h1];simp_all
  ·have h3:=h2.2 0 (by simp);simp_all
 unfold BP7 at h;split at h
 ·rename_i t ht;obtain ⟨v,h1,h2⟩:=run ht;split at h
  ·rename_i f hrow;cases h;refine ⟨v,h1,λ_=>?_,λh=>absurd rfl h⟩;cases h2 with
   | p _ _ h2 =>
   have:=oA h2 hrow;cases this with
   | dF _ a cap hf hn=>exact .dF false a cap (by simp) hn
   | sl _ _ sz bV off cap fc k1 k2 k3 k4 k5 k6 k7 k8 k9=>exact (cS.sl f [] sz bV off cap fc k1 k2 k3 k4 k5 k6 k7 k8 k9).canon 0 |>.less λ_ h=>.inl h
  ·cases h
 ·rename_i k hk;obtain ⟨v,h1,h2⟩:=run hk;split at h
  ·rename_i z rows' hσ;cases h;have hσ':(st.σ k).bind fJ=some (bK rows):=by rw[hσ];rfl
   cases h2 with
   | eW _ l a hl h0 =>
    have hL:=hr.inv.qA hσ' hl;have:rows=[]:=by rw[show l.L=0 by omega] at hL;simpa using hL
    subst this;exact ⟨_,h1,λ_=>.dF false a 0 (by simp) (by simp),λh=>absurd rfl h⟩
   | own _ l hl h0 hc1 hc2 =>
    have hL:=hr.inv.qA hσ' hl;simp only[dL] at hL;by_cases hne:rows=[]
    ·subst hne;refine ⟨_,h1,λ_=>?_,λh=>absurd rfl h⟩;rw[<-hL];exact .dF false _ _ (by simp) (by simp)
    refine ⟨_,h1,λe=>absurd e hne,λ_=>?_⟩;obtain ⟨l',c,hl',_,hheap,hb⟩:=hr.inv.rows hσ' (by simpa using hne);rw[hl] at hl';cases hl';refine ⟨l.bV,l.sz,l.C,l.e,c,by rw[hL],hc2,hr.inv.ALK hn k _ l hσ hl h0 rfl,hheap,?_⟩;refine gC.rows (l:=⟨l.bV,l.sz,l.C,l.e,rows.length⟩) _ (bK rows) c rfl (λ_ _ _ e=>by cases e;rfl) ⟨hb.size,hb.pos,hb.small,hb.len,by simp,hb.width,λi j hi hj=>?_,hb.one⟩;obtain ⟨u,u1,u2⟩:=hb.cell i j hi hj;refine ⟨u,u1,?_⟩;have hp:∃ t,(bK rows)[i][j] = .p t:=by
     simp only[bK,List.getElem_map];simp
    obtain ⟨t,ht⟩:=hp;rw[ht] at u2 ⊢;cases u2 with
    | p _ _ u2 =>
    refine .p _ _ (u2.less λb hb=>?_);rcases hb with hb|rfl
    ·exact .inl hb
    ·exact .inr ⟨k,l,_,hσ,hl,h0,rfl⟩
  ·cases h
 ·cases h
def BIF (τ:Nat->Option bL):List D->Option (List T)
 | []=>some []
 | d::l=>match j1 τ 5 d,BIF τ l with
  | some t,some ts=>some (T.canon 4 t::ts)
  | _,_=>none
def AJF {τ:Nat->Option bL}:∀ {ds:List D} {cs:List T},BIF τ ds=some cs->cs.length=ds.length/\∀ i (h:i<ds.length) (h':i<cs.length),∃ t,j1 τ 5 ds[i]=some t/\cs[i]=T.canon 4 t
 | [],cs,h=>by cases h;exact ⟨rfl,λi h=>absurd h (Nat.not_lt_zero _)⟩
 | d::l,cs,h=>by
  unfold BIF at h;split at h
  ·rename_i t ts h1 h2;cases h;obtain ⟨e,ih⟩:=AJF h2;refine ⟨by simp[e],λi hi hi'=>?_⟩;cases i with
   | zero=>exact ⟨t,h1,rfl⟩
   | succ i=>exact ih i (by simpa using hi) (by simpa using hi')
  ·cases h
def BP8 (P:Program) (c:Nat) (rs:Array ResultVar) (st:St):Option (List T) :=
 match zS P st rs.toList with
 | some [.agg ds]=>match ds[c]? with
  | some (.own k)=>match st.σ k with
   | some (.arr false _ rows)=>BIF (cJ (wrS st.σ) k none) (ds.set c (.p (.sl false rows)))
   | _=>none
  | _=>none
 | _=>none
def BD3 {a:Act} {w:World} (hr:Rel cx nt ρ st a w) (hn:cx.arg=[]) {fn:Func} {c:Nat} {cs:List T} (h:BP8 cx.P c fn.results st=some cs) :
  ∃ vc:Array Value,(results fn a.tmps).run cx.P w = .ok (.agg vc) w/\vc.size=cs.length/\∀ fl r0 rows,cs[c]? = some (.sl fl (r0::rows)) ->
   ∃ bV sz C ty cc,(∀ i (h:i<cs.length),i≠c->cS w (λb=>cx.own b\/b=bV) cs[i] (vc.getD i undef))/\vc.getD c undef = .slice (some ⟨bV,0,none⟩) (r0::rows).length C/\C<=maxLen/\cx.w0.heap.size<=bV /\
    w.heap[bV]? = some (.cells cc ty (0,0))/\gC w (λb=>cx.own b\/b=bV) (λ_=>none) ⟨bV,sz,C,ty,(r0::rows).length⟩ (.cells cc ty (0,0)) (.arr false sz (r0::rows)):=by
 have run:∀ {d:D},zS cx.P st fn.results.toList=some [d]->∃ v,(results fn a.tmps).run cx.P w = .ok v w/\Rd w (bY cx ρ st.σ) ρ d v:=by
  intro d hds;obtain ⟨vs,h1,h2⟩:=p8 hr hds;have hs:vs.toArray.size=1:=by simpa using h2.1
  refine ⟨vs.toArray[0],?_,?_⟩
  ·rw[iZ,Array.mapM_eq_mapM_toList,Sem.run_bind,Sem.run_map,h1];simp_all
  ·have h3:=h2.2 0 (by simp);simp_all
 unfold BP8 at h;split at h
 case h_2=>cases h
 rename_i ds hds;obtain ⟨v,h1,h2⟩:=run hds;split at h
 case h_2=>cases h
 rename_i k hk;split at h
 case h_2=>cases h
 rename_i z rows' hσ;obtain ⟨hlen,hget⟩:=AJF h;rw[List.length_set] at hlen;cases h2 with
 | agg _ vs hsz hcells =>
 have hcl:c<ds.length:=(List.getElem?_eq_some_iff.1 hk).1;have hck:ds[c] = .own k:=(List.getElem?_eq_some_iff.1 hk).2;refine ⟨vs,h1,by rw[hsz,hlen],λfl r0 rows hcs=>?_⟩;have hrows:rows'=r0::rows:=by
  obtain ⟨t,t1,t2⟩:=hget c (by simpa using hcl) (by omega);rw[List.getElem_set_self] at t1;cases t1;have:=(List.getElem?_eq_some_iff.1 hcs).2;rw[t2] at this;simp only[T.canon,T.sl.injEq] at this;exact this.2
 subst hrows;have hσ':(st.σ k).bind fJ=some (bK (r0::rows)):=by rw[hσ];rfl
 have hown:=hcells c hcl;rw[hck] at hown;generalize hvc:vs.getD c undef=vk at hown;cases hown with
 | eW _ l a' hl h0 =>
  have hL:=hr.inv.qA hσ' hl;simp_all
 | own _ l hl h0 hc1 hc2 =>
  have hL:=hr.inv.qA hσ' hl;simp only[dL] at hL;obtain ⟨l',cc,hl',_,hheap,hb⟩:=hr.inv.rows hσ' (by simp);rw[hl] at hl';cases hl';refine ⟨l.bV,l.sz,l.C,l.e,cc,λi hi hne=>?_,by rw[hL],hc2,hr.inv.ALK hn k _ l hσ hl h0 rfl,hheap,?_⟩
  ·obtain ⟨t,t1,t2⟩:=hget i (by rw[List.length_set];omega) hi;rw[List.getElem_set_ne (λe=>hne e.symm)] at t1;rw[t2];refine cS.canon 4 ?_;refine UE (τ:=cJ (wrS st.σ) k none) hr.inv (λb hb=>?_) (λj x hj=>?_) (λj x l2 hj hl2 hL2 hc=>?_) 5 (hcells i (by omega)) t1
   ·rcases hb with hb|rfl
    ·exact .inl hb
    ·exact .inr ⟨k,l,_,hσ,hl,h0,rfl⟩
   ·by_cases e:j=k
    ·simp_all
    ·rw[bU _ _ e] at hj;exact ANC hj
   ·by_cases e:j=k
    ·simp_all
    ·rw[bU _ _ e] at hj;rcases hc with hc|hc
     ·exact hr.inv.BK8 hl2 hL2 hc
     ·exact e (hr.inv.inj j k x _ l2 l (ANC hj) hσ hl2 hl hL2 h0 hc)
  ·refine gC.rows (l:=⟨l.bV,l.sz,l.C,l.e,(r0::rows).length⟩) _ (bK (r0::rows)) cc rfl (λ_ _ _ e=>by cases e;rfl) ⟨hb.size,hb.pos,hb.small,hb.len,by simp,hb.width,λi j hi hj=>?_,hb.one⟩;obtain ⟨u,u1,u2⟩:=hb.cell i j hi hj;refine ⟨u,u1,?_⟩;have hp:∃ t,(bK (r0::rows))[i][j] = .p t:=by
    simp only[bK,List.getElem_map];simp
   obtain ⟨t,ht⟩:=hp;rw[ht] at u2 ⊢;cases u2 with
   | p _ _ u2 =>
   refine .p _ _ (u2.less λb hb=>?_);rcases hb with hb|rfl
   ·exact .inl hb
   ·exact .inr ⟨k,l,_,hσ,hl,h0,rfl⟩
end Go.Pv
