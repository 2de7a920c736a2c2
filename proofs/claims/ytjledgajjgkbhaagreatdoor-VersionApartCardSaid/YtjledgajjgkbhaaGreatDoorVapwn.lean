/-
  The pure evaluator, part n: code, and functions.
-/
import Derived.Test.YtjledgajjgkbhaaGreatDoorVapwv
import Derived.Maps.RangeRun
import Derived.Scope
set_option linter.defProp false
set_option linter.unusedSimpArgs false
namespace Go.Pv
open Go Go.RowKit
def AEQ (N:St→Prop) (Q:Exit→St→Prop):Exit→St→Prop
 | .normal,st=>N st
 | e,st=>Q e st
def G9 (id:Nat) (Q:Exit→St→Prop):Exit→St→Prop
 | .exit id',st=>if id'=id then Q .normal st else Q (.exit id') st
 | e,st=>Q e st
def WX (Q:Exit→St→Prop):Exit→St→Prop
 | .goto _,_=>False
 | e,st=>Q e st
def dA (n:Nat) (seen:List Nat):List Nat:=(List.range n).filter fun i=>!seen.contains i
def BK (σ:Nat→Option bB) (d:D):Option (List (D×(Nat→Option bB))) :=
 match d with
 | .it k =>
  match σ k with
  | some (.nJ none _ _ _)=>some [(.p (.v (.tuple #[.bool false])),σ)]
  | some (.nJ (some m) since seen last) =>
   match σ m with
   | some (.map _ es) =>
    if es.length≤since∧since≤last then
     match dA es.length seen with
     | []=>some [(.p (.v (.tuple #[.bool false])),σ)]
     | left=>left.mapM fun i=>(es[i]?).map fun e=>(D.bZ [.p (.v (.bool true)),.p (.v e.1),e.2],bY σ k (some (.nJ (some m) since (seen++[i]) es.length)))
    else none
   | _=>none
  | some (.cD es since seen last) =>
    if es.length≤since∧since≤last then
     match dA es.length seen with
     | []=>some [(.p (.v (.tuple #[.bool false])),σ)]
     | left=>left.mapM fun i=>(es[i]?).map fun e=>(D.bZ [.p (.v (.bool true)),.p (.v e.1),.p e.2],bY σ k (some (.cD es since (seen++[i]) es.length)))
    else none
  | _=>none
 | _=>none
def evR (P:Program) (E:Env) (nt:Nat) (ops:Array Oper) (st:St):Option (List St) :=
 match ops.toList with
 | ⟨dst,.next it false,_,_,_,none⟩::r =>
  (BK st.σ (ev (cB true st.s) it)).bind fun outs=>outs.mapM fun (x:D×(Nat→Option bB))=>(q9 nt st dst x.1 x.2 st.n).bind (evL P E nt ops r)
 | l=>(evL P E nt ops l st).map ([·])
def FR (P:Program) (E:Env) (nt:Nat) (ops:Array Oper) (N:St→Prop) (st:St):Prop :=
 match evR P E nt ops st with
 | some l=>∀ st'∈l,N st'
 | none=>False
def NH (d:D) (A B:Prop):Prop :=
 match d with
 | .p (.v (.bool b))=>if b=true then A else B
 | _=>False
def steps (ops:Array Oper):Bool:=match ops.toList with
 | ⟨_,.next _ false,_,_,_,none⟩::_=>true
 | _=>false
def BQ (P:Program) (E:Env) (nt:Nat):Code→(Exit→St→Prop)→St→Prop
 | .skip,Q,st=>Q .normal st
 | .label _,Q,st=>Q .normal st
 | .region _ ops draw,Q,st=>((draw=false∨(rS (E.view draw) ops=true∧steps ops=false))∧FR P (E.view draw) nt ops (Q .normal) st) ∨
   (draw=true∧sG false (E.view draw) ops=true∧∃ st',evD false P (E.view draw) nt ops st.n (D0 false (E.view draw) ops) (fA ops st)=some st'∧Q .normal st') ∨
   (draw=true∧∃ l,VH P (E.view draw) nt ops ops.size (Array.replicate ops.size false) st=some l∧∀ s∈DD nt l,Q .normal s)
 | .seq a b,Q,st=>BQ P E nt a (AEQ (BQ P E nt b Q) Q) st
 | .cond c t e,Q,st=>NH (ev (cB true st.s) c) (BQ P E nt t Q st) (BQ P E nt e Q st)
 | .block id b,Q,st=>BQ P E nt b (G9 id Q) st
 | .loop b,Q,st=>∀ X:St→Prop,(∀ st,BQ P E nt b (AEQ X Q) st→X st)→X st
 | .exit id,Q,st=>Q (.exit id) st
 | .ret,Q,st=>Q .ret st
 | .scope b,Q,st=>BQ P E nt b (WX Q) st
 | _,_,_=>False
section
variable {cx : Cx} {nt : Nat} {E : Env}
theorem AW.mono {c:Code} {Q Q':Exit→St→Prop} {st:St} (h:AW cx nt c Q st) (hq:∀ e st,Q e st→Q' e st):AW cx nt c Q' st :=
 fun ρ a w hr=>wp_mono (h ρ a w hr) fun _ _ _ ⟨st,ρ,h1,h2⟩=>⟨st,ρ,h1,hq _ _ h2⟩
theorem APR {P:Program} {ops:Array Oper} (h:steps ops=false) (st:St):evR P E nt ops st=(evL P E nt ops ops.toList st).map ([·]):=by
 unfold evR
 unfold steps at h
 grind
theorem TJ {ρ:Nat→Option Loc} {st:St} {a:Act} {w:World} (hr:Rel cx nt ρ st a w) {it:Operand} {k:Nat} {l:Loc} {x0:bB} (hval:a.eval it = .pointer (some ⟨l.bJ,0,none⟩)) (hσ:st.σ k=some x0) (hwr:gM x0=true) (hl:ρ k=some l) (hL:0<l.L+l.C) {b since last:Nat} {seen:List Nat} {ents:Array MapEntry} {es:List (Value×D)}
  (mk:List Nat→bB) (hob:w.heap[l.bJ]? = some (.mapIter (some b) since seen.toArray last)) (hom:w.heap[b]? = some (.map ents es.length)) (hsz:ents.size=es.length) (hent:∀ i (h:i<es.length),∃ e,ents[i]? = some e∧e.key=es[i].1∧e.born=i∧Rd w (bL cx ρ st.σ) ρ es[i].2 e.val)
  (hok1:es.length≤since) (hok2:since≤last) (hmk:∀ s,dV w (bL cx ρ st.σ) ρ l (.mapIter (some b) since s.toArray es.length) (mk s)) {outs:List (D×(Nat→Option bB))}
  (h:(match dA es.length seen with
     | []=>some [(.p (.v (.tuple #[.bool false])),st.σ)]
     | left=>left.mapM fun i=>(es[i]?).map fun e=>(D.bZ [.p (.v (.bool true)),.p (.v e.1),e.2],bY st.σ k (some (mk (seen++[i])))))=some outs) {ty:TypeId} :
  ∃ v w' d σ',(Instr.next (a.eval it) false ty).run cx.P w = .ok v w'∧(d,σ')∈outs∧Inv cx ρ σ' st.n w'∧bO cx ρ ρ st.σ σ' w w'∧Rd w' (bL cx ρ σ') ρ d v:=by
 have hborn:∀ (i:Nat) (x:MapEntry),ents[i]? = some x→x.born=i∧i<es.length:=by
  intro i x hx
  have hi:i<es.length:=by rw[←hsz];exact (Array.getElem?_eq_some_iff.1 hx).1
  obtain ⟨e,e1,e2,e3,e4⟩:=hent i hi
  rw[hx] at e1;cases e1
  exact ⟨e3,hi⟩
 have hold:∀ x∈ents.toList,x.born<since:=by
  intro x hx
  obtain ⟨i,hi,rfl⟩:=List.mem_iff_getElem.1 hx
  have:=hborn i _ (by rw[←Array.getElem?_toList,List.getElem?_eq_getElem hi])
  omega
 have hleft:∀ x∈(leftOf ents seen.toArray).toList,∃ i,ents[i]? = some x∧i∈dA es.length seen:=by
  intro x hx
  simp only[leftOf,Array.toList_filter,List.mem_filter] at hx
  obtain ⟨h1,h2⟩:=hx
  obtain ⟨i,hi,rfl⟩:=List.mem_iff_getElem.1 h1
  have hg:ents[i]? = some ents.toList[i]:=by rw[←Array.getElem?_toList,List.getElem?_eq_getElem hi]
  obtain ⟨hb1,hb2⟩:=hborn i _ hg
  refine ⟨i,hg,?_⟩
  simp only[dA,List.mem_filter,List.mem_range]
  refine ⟨hb2,?_⟩
  rw[hb1] at h2
  simpa using h2
 rw[hval]
 rcases run_next_at (P:=cx.P) w ty l.bJ b since last seen.toArray ents es.length hob hom hold hok2 with ⟨h0,hrun⟩|⟨x,hx,w1,hw1,hrun⟩
 ·have hnil:dA es.length seen=[]:=by
   rw[List.eq_nil_iff_forall_not_mem]
   intro i hi
   simp only[dA,List.mem_filter,List.mem_range] at hi
   obtain ⟨e,e1,e2,e3,e4⟩:=hent i hi.1
   have:e∈leftOf ents seen.toArray:=by
    simp only[leftOf,Array.mem_filter]
    refine ⟨Array.mem_of_getElem? e1,?_⟩
    rw[e3];simpa using hi.2
   rw[Array.eq_empty_of_size_eq_zero h0] at this
   simp at this
  rw[hnil] at h
  cases h
  exact ⟨_,w,_,_,hrun,List.mem_singleton.2 rfl,hr.inv,bO.refl _ _ _ _,.p _ _ (.v _)⟩
 ·obtain ⟨i,hi,hil⟩:=hleft x hx
  obtain ⟨hb1,hb2⟩:=hborn i x hi
  obtain ⟨e,e1,e2,e3,e4⟩:=hent i hb2
  rw[hi] at e1;cases e1
  split at h
  ·rename_i hnil;rw[hnil] at hil;cases hil
  ·rename_i left hne
   obtain ⟨q,hq,hqe⟩:=List.mem_iff_getElem.1 hil
   obtain ⟨g1,g2⟩:=mapM_some_length h
   have g3:=g2 q hq (by omega)
   rw[hqe,List.getElem?_eq_getElem hb2] at g3
   simp only[Option.map_some,Option.some.injEq] at g3
   refine ⟨_,_,D.bZ [.p (.v (.bool true)),.p (.v es[i].1),es[i].2],bY st.σ k (some (mk (seen++[i]))),hrun,?_,?_⟩
   ·rw[g3];exact List.getElem_mem _
   ·have hlt:l.bJ<w.heap.size:=((hr.inv.new k l hl).2 hL).1
    have hwo:w1.os=w.os∧w1.tape=w.tape∧w1.output=w.output∧w1.heap=w.heap:=by
     rcases hw1 with rfl|rfl<;>exact ⟨rfl,rfl,rfl,rfl⟩
    obtain ⟨k1,k2⟩:=hr.inv.QB (n':=st.n) (Nat.le_refl _) hσ hl hL hwr (.mapIter (some b) since (seen.toArray.push x.born) es.length) (mk (seen++[i]))
     (w':=ChangeMaps.setBlock w1 l.bJ (.mapIter (some b) since (seen.toArray.push x.born) es.length)) hwo.1 hwo.2.1 hwo.2.2.1 (by simp[ChangeMaps.setBlock,hwo.2.2.2]) (by simp[ChangeMaps.setBlock,hwo.2.2.2,hlt])
     (fun b hne=>by simp[ChangeMaps.setBlock,hwo.2.2.2,Array.getElem?_setIfInBounds_ne (Ne.symm hne)]) (IU hob (fun _ _ _ e=>by cases e)) (by
      have:=hmk (seen++[i])
      rw[hb1]
      simpa using this)
    refine ⟨k1,k2,?_⟩
    refine .bZ _ _ (by simp) fun j hj=>?_
    match j,hj with
    | 0,_=>exact .p _ _ (.v _)
    | 1,_=>simp only[List.getElem_cons_succ,List.getElem_cons_zero];rw[←e2];exact .p _ _ (.v _)
    | 2,_=>exact k2.rd e4
theorem ADQ {ρ:Nat→Option Loc} {st:St} {a:Act} {w:World} (hr:Rel cx nt ρ st a w) {it:Operand} {outs:List (D×(Nat→Option bB))} (h:BK st.σ (ev (cB true st.s) it)=some outs) {ty:TypeId} :
  ∃ v w' d σ',(Instr.next (a.eval it) false ty).run cx.P w = .ok v w'∧(d,σ')∈outs∧Inv cx ρ σ' st.n w'∧bO cx ρ ρ st.σ σ' w w'∧Rd w' (bL cx ρ σ') ρ d v:=by
 unfold BK at h
 split at h
 ·rename_i k hk
  have hit:=hr.evS it
  rw[hk] at hit
  obtain ⟨l,hl,hval⟩:∃ l,ρ k=some l∧a.eval it = .pointer (some ⟨l.bJ,0,none⟩):=by
   generalize a.eval it=q at hit ⊢
   cases hit with
   | it _ l hl=>exact ⟨l,hl,rfl⟩
  split at h
  ·rename_i x1 x2 x3 hσ
   cases h
   obtain ⟨l',hl',hL,ob,hob,hb⟩:=hr.inv.loc hσ (fun _ _ e=>by cases e)
   rw[hl] at hl';cases hl'
   cases hb with
   | rows _ _ _ hr=>simp[eC] at hr
   | sE =>
   refine ⟨.tuple #[.bool false],w,_,_,?_,List.mem_singleton.2 rfl,hr.inv,bO.refl _ _ _ _,.p _ _ (.v _)⟩
   simp[Instr.next,hval,getObj,Sem.run,hob]
  ·rename_i m since seen last hσ
   obtain ⟨l',hl',hL,ob,hob,hb⟩:=hr.inv.loc hσ (fun _ _ e=>by cases e)
   rw[hl] at hl';cases hl'
   cases hb with
   | rows _ _ _ hr=>simp[eC] at hr
   | nJ _ lm _ _ _ hlm =>
   split at h
   ·rename_i _ es hm
    split at h
    ·rename_i hok
     obtain ⟨hok1,hok2⟩:=hok
     obtain ⟨lm',hlm',hLm,om,hom,hbm⟩:=hr.inv.loc hm (fun _ _ e=>by cases e)
     rw[hlm] at hlm';cases hlm'
     cases hbm with
     | rows _ _ _ hr=>simp[eC] at hr
     | map _ _ ents hsz hent =>
     exact TJ hr hval hσ rfl hl hL (fun s=>.nJ (some m) since s es.length) hob hom hsz hent hok1 hok2 (fun s=>.nJ m lm since s es.length hlm) h
    ·cases h
   ·cases h
  ·rename_i es since seen last hσ
   obtain ⟨l',hl',hL,ob,hob,hb⟩:=hr.inv.loc hσ (fun _ _ e=>by cases e)
   rw[hl] at hl';cases hl'
   cases hb with
   | rows _ _ _ hr=>simp[eC] at hr
   | cD _ b _ _ _ hmp =>
   split at h
   ·rename_i hok
    obtain ⟨hok1,hok2⟩:=hok
    have hmp':=hmp
    cases hmp with
    | mp _ _ ents f h1 h2 h3 h4 h5 h6 =>
    have hlen:(qX es).length=es.length:=by simp[qX]
    refine TJ (es:=qX es) (b:=b) (ents:=ents) (since:=since) (last:=last) (seen:=seen) hr hval hσ rfl hl hL (fun s=>.cD es since s es.length) hob (by rw[hlen];exact h3) (by rw[hlen];exact h4) (fun i hi=>?_) (by rw[hlen];exact hok1) hok2 (fun s=>by rw[hlen];exact .cD es b since s es.length hmp') ?_
    ·have hi':i<es.length:=by rw[←hlen];exact hi
     obtain ⟨a1,a2,a3⟩:=h5 i hi'
     refine ⟨f i,a1,by simpa [qX] using a2,a3,?_⟩
     simp only[qX,List.getElem_map]
     exact .p _ _ (h6 i hi')
    ·rw[hlen,←h]
     have hg:∀ i:Nat,(qX es)[i]? = (es[i]?).map fun (e:Value×T)=>(e.1,D.p e.2):=fun i=>by simp[qX]
     cases dA es.length seen with
     | nil=>rfl
     | cons i left =>
      simp only[hg,Option.map_map]
      rfl
   ·cases h
  ·cases h
 ·cases h
theorem A8T (hE:aT cx.P E) (hm:cx.P.follows .mixedOrders=true) {id:Nat} {ops:Array Oper} {draw:Bool} {Q:Exit→St→Prop} {st:St} (h1:draw=false∨(rS E ops=true∧steps ops=false)) (h2:FR cx.P E nt ops (Q .normal) st):AW cx nt (.region id ops draw) Q st:=by
 unfold FR at h2
 by_cases hs:steps ops=false
 ·rw[APR hs] at h2
  cases he:evL cx.P E nt ops ops.toList st with
  | none=>rw[he] at h2;exact h2.elim
  | some st' =>
   rw[he] at h2
   have h3:Q .normal st':=h2 st' (List.mem_singleton.2 rfl)
   cases draw with
   | false=>exact ANE hE he h3
   | true=>exact AK3 hE hm (by simpa [hs] using h1) he h3
 ·have hdr:draw=false:=by
   simp_all
  subst hdr
  unfold evR at h2
  unfold steps at hs
  split at hs
  ·rename_i dst it ty pos after r e
   rw[e] at h2
   simp only at h2
   cases hn:BK st.σ (ev (cB true st.s) it) with
   | none=>rw[hn] at h2;exact h2.elim
   | some outs =>
   rw[hn] at h2
   simp only[Option.bind_some] at h2
   cases hall:outs.mapM fun (x:D×(Nat→Option bB))=>(q9 nt st dst x.1 x.2 st.n).bind (evL cx.P E nt ops r) with
   | none=>rw[hall] at h2;exact h2.elim
   | some sts =>
   rw[hall] at h2
   intro ρ a w hr
   refine wp_region ?_
   obtain ⟨v,w',d,σ',hrun,hmem,hinv,hkeep,hrd⟩:=ADQ hr hn (ty:=ty)
   obtain ⟨i,hi,hie⟩:=List.mem_iff_getElem.1 hmem
   obtain ⟨g1,g2⟩:=mapM_some_length hall
   have g3:=g2 i hi (by omega)
   rw[hie] at g3
   simp only[Option.bind_eq_some_iff] at g3
   obtain ⟨st1,g4,g5⟩:=g3
   have hr1:=eM hr g4 hinv hkeep hrd
   have hlen:ops.size=r.length+1:=by rw[←Array.length_toList,e];rfl
   have h0:ops[0]? = some ⟨dst,.next it false,ty,pos,after,none⟩:=by rw[←Array.getElem?_toList,e];rfl
   rw[List.range_eq_range',hlen,List.range'_succ,wpOps_cons]
   unfold wpOp
   simp only[h0]
   left
   unfold Oper.wp
   have hx:(execOp a.eval ⟨dst,.next it false,ty,pos,after,none⟩).run cx.P w = .ok (.value v) w':=by
    simp only[execOp,Sem.run_bind,hrun,Result.andThen_ok,Sem.run_pure]
   rw[hx]
   refine AHC hE (Q:=sA cx nt Q) (fun ρ a w hr'=>⟨sts[i],ρ,hr',h2 _ (List.getElem_mem _)⟩) r 1 st1 ρ _ w' (fun j=>?_) hr1 g5
   rw[←Array.getElem?_toList,e,Nat.add_comm]
   rfl
  ·simp_all
theorem T8 (hE:aT cx.P E) (hm:cx.P.follows .mixedOrders=true):∀ (c:Code) (Q:Exit→St→Prop) (st:St),BQ cx.P E nt c Q st→AW cx nt c Q st:=by
 intro c
 induction c with
 | skip=>exact fun Q st h ρ a w hr=>wp_skip ⟨st,ρ,hr,h⟩
 | label l=>exact fun Q st h ρ a w hr=>wp_label ⟨st,ρ,hr,h⟩
 | region id ops draw =>
  intro Q st h
  rcases h with ⟨h1,h2⟩|⟨rfl,h2,st',h3,h4⟩|⟨rfl,l,h3,h4⟩
  ·exact A8T (hE.view _) hm h1 h2
  ·exact Y1 (hE.view _) hm h2 h3 h4
  ·exact A8R (hE.view _) hm h3 h4
 | seq a b iha ihb =>
  intro Q st h ρ act w hr
  refine wp_seq (wp_mono (iha _ st h ρ act w hr) ?_)
  rintro e a' w' ⟨st',ρ',hr',hq⟩
  cases e<;>first|exact ihb Q st' hq ρ' a' w' hr'|exact ⟨st',ρ',hr',hq⟩
 | cond c t e iht ihe =>
  intro Q st h ρ a w hr
  simp only[BQ] at h
  unfold NH at h
  split at h
  ·rename_i b hb
   have hev:=hr.evS c
   rw[hb] at hev
   have hval:a.eval c = .bool b:=by
    generalize a.eval c=q at hev ⊢
    cases hev with
    | p _ _ h=>cases h;rfl
   refine wp_cond hval ?_
   split at h
   ·rename_i hbt;rw[if_pos hbt];exact iht Q st h ρ a w hr
   ·rename_i hbf;rw[if_neg hbf];exact ihe Q st h ρ a w hr
  ·simp_all
 | block id b ih =>
  intro Q st h ρ a w hr
  refine wp_block (wp_mono (ih _ st h ρ a w hr) ?_)
  rintro e a' w' ⟨st',ρ',hr',hq⟩
  cases e with
  | exit id' =>
   simp only[G9] at hq
   simp only[Exit.inBlock]
   split at hq
   ·rename_i e;rw[if_pos e];exact ⟨st',ρ',hr',hq⟩
   ·rename_i e;rw[if_neg e];exact ⟨st',ρ',hr',hq⟩
  | _=>exact ⟨st',ρ',hr',hq⟩
 | loop b ih =>
  intro Q st h ρ a w hr
  intro fb k cs
  have key:∀ (ρ:Nat→Option Loc) (a:Act) (w:World),Rel cx nt ρ st a w→∃ e a' w',sA cx nt Q e a' w'∧Arrives cx.P (lone (fb.at a (.code b :: .inLoop b::k)) cs w) fb k cs e a' w':=by
   refine h (fun st=>∀ (ρ:Nat→Option Loc) (a:Act) (w:World),Rel cx nt ρ st a w→∃ e a' w',sA cx nt Q e a' w'∧Arrives cx.P (lone (fb.at a (.code b :: .inLoop b::k)) cs w) fb k cs e a' w') ?_
   intro st h ρ a w hr
   obtain ⟨e,a₁,w₁,⟨st₁,ρ₁,hr₁,hq⟩,harr⟩:=ih _ st h ρ a w hr fb (.inLoop b::k) cs
   cases e with
   | normal =>
    obtain ⟨e₂,a₂,w₂,hq₂,harr₂⟩:=hq ρ₁ a₁ w₁ hr₁
    exact ⟨e₂,a₂,w₂,hq₂,.of_steps (Steps.trans harr (.one step_inLoop)) harr₂⟩
   | exit id=>exact ⟨_,a₁,w₁,⟨st₁,ρ₁,hr₁,hq⟩,.pass (x:=.inLoop b) rfl (fun _ _=>.inl (by simp)) harr⟩
   | goto l=>exact ⟨_,a₁,w₁,⟨st₁,ρ₁,hr₁,hq⟩,.pass (x:=.inLoop b) rfl (fun _ _=>.inl (by simp)) harr⟩
   | ret=>exact ⟨_,a₁,w₁,⟨st₁,ρ₁,hr₁,hq⟩,.pass (x:=.inLoop b) rfl (fun _ _=>.inl (by simp)) harr⟩
   | panic ch=>exact ⟨_,a₁,w₁,⟨st₁,ρ₁,hr₁,hq⟩,.pass (x:=.inLoop b) rfl (fun _ _=>.inl (by simp)) harr⟩
   | outgrown=>exact ⟨_,a₁,w₁,⟨st₁,ρ₁,hr₁,hq⟩,.pass (x:=.inLoop b) rfl (fun _ _=>.inl (by simp)) harr⟩
  obtain ⟨e,a',w',hq,harr⟩:=key ρ a w hr
  exact ⟨e,a',w',hq,.of_steps (.one step_loop) harr⟩
 | exit id=>exact fun Q st h ρ a w hr=>wp_exit ⟨st,ρ,hr,h⟩
 | ret=>exact fun Q st h ρ a w hr=>wp_ret ⟨st,ρ,hr,h⟩
 | rangeFunc _ _ _ _=>exact fun Q st h=>h.elim
 | scope b ih =>
  intro Q st h ρ a w hr
  refine wp_scope_straight (wp_mono (ih _ st h ρ a w hr) ?_)
  rintro e a' w' ⟨st',ρ',hr',hq⟩
  cases e with
  | goto l=>exact hq.elim
  | _=>exact ⟨st',ρ',hr',hq⟩
 | goto _=>exact fun Q st h=>h.elim
 | refuse _=>exact fun Q st h=>h.elim
end
inductive Bd:T→Prop
 | v (x:Value):Bd (.v x)
 | agg (cs:List T):(∀ c∈cs,Bd c)→Bd (.agg cs)
 | bZ (cs:List T):(∀ c∈cs,Bd c)→Bd (.bZ cs)
 | sl (f:Bool) (rows:List (List T)):rows.length≤2 ^ 47→(∀ r∈rows,∀ c∈r,Bd c)→Bd (.sl f rows)
 | ne (f:Bool):Bd (.ne f)
 | ref (cs:List T):(∀ c∈cs,Bd c)→Bd (.ref cs)
 | fn (f:FuncId) (a b:List T):(∀ c∈a,Bd c)→(∀ c∈b,Bd c)→Bd (.fn f a b)
 | mp (es:List (Value×T)):(∀ e∈es,Bd e.2)→Bd (.mp es)
theorem cN.bd {w:World} {own:Nat→Prop} {t:T} {v:Value} (h:cN w own t v):Bd t:=by
 have mem:∀ {cs:List T} {f:∀ i,i<cs.length→Value},(∀ i (h:i<cs.length),Bd cs[i])→∀ c∈cs,Bd c:=by
  intro cs f h c hc
  obtain ⟨i,hi,rfl⟩:=List.mem_iff_getElem.1 hc
  exact h i hi
 induction h with
 | v x=>exact .v x
 | agg cs vs _ _ ih=>exact .agg cs fun c hc=>by obtain ⟨i,hi,rfl⟩:=List.mem_iff_getElem.1 hc;exact ih i hi
 | bZ cs vs _ _ ih=>exact .bZ cs fun c hc=>by obtain ⟨i,hi,rfl⟩:=List.mem_iff_getElem.1 hc;exact ih i hi
 | cQ f a cap _ _=>exact .sl f [] (by simp) (by simp)
 | ne f a cap _=>exact .ne f
 | sl f rows sz b o cap g h1 h2 h3 h4 h45 h5 h6 h7 _ ih =>
  refine .sl f rows h2 fun r hr c hc=>?_
  obtain ⟨i,hi,rfl⟩:=List.mem_iff_getElem.1 hr
  obtain ⟨j,hj,rfl⟩:=List.mem_iff_getElem.1 hc
  exact ih i j hi hj
 | ref cs b o f _ _ _ _ ih=>exact .ref cs fun c hc=>by obtain ⟨i,hi,rfl⟩:=List.mem_iff_getElem.1 hc;exact ih i hi
 | fn f fs cs va vb _ _ _ _ ih1 ih2 =>
  exact .fn f fs cs (fun c hc=>by obtain ⟨i,hi,rfl⟩:=List.mem_iff_getElem.1 hc;exact ih1 i hi) (fun c hc=>by obtain ⟨i,hi,rfl⟩:=List.mem_iff_getElem.1 hc;exact ih2 i hi)
 | mp es b ents f _ _ _ _ _ _ ih=>exact .mp es fun c hc=>by obtain ⟨i,hi,rfl⟩:=List.mem_iff_getElem.1 hc;exact ih i hi
@[simp] theorem BFW (x:Value):Bd (.v x):=.v x
@[simp] theorem LQ (cs:List T):Bd (.agg cs)↔∀ c∈cs,Bd c:=⟨fun h=>by cases h with|agg _ h=>exact h,.agg cs⟩
@[simp] theorem A7M (f:Bool) (rows:List (List T)):Bd (.sl f rows)↔rows.length≤2 ^ 47∧∀ r∈rows,∀ c∈r,Bd c:=⟨fun h=>by cases h with|sl _ _ h1 h2=>exact ⟨h1,h2⟩,fun h=>.sl f rows h.1 h.2⟩
@[simp] theorem BFL (cs:List T):Bd (.ref cs)↔∀ c∈cs,Bd c:=⟨fun h=>by cases h with|ref _ h=>exact h,.ref cs⟩
@[simp] theorem BDJ (f:FuncId) (a b:List T):Bd (.fn f a b)↔(∀ c∈a,Bd c)∧∀ c∈b,Bd c:=⟨fun h=>by cases h with|fn _ _ _ h1 h2=>exact ⟨h1,h2⟩,fun h=>.fn f a b h.1 h.2⟩
def st0 (args:List T):St:=⟨fun i=>match args[i]? with|some t=>.p t|none=>.p (.v undef),fun _=>none,0⟩
def vO (P:Program) (st:St):List ResultVar→Option (List D)
 | []=>some []
 | .tmp t::r=>(vO P st r).map (strip true (st.s t) :: ·)
 | .cell a t::r=>match yB P st.σ t (strip true (st.s a)) with
  | some d=>(vO P st r).map (d :: ·)
  | none=>none
theorem cN.canon {w:World} {own:Nat→Prop}:∀ (n:Nat) {t:T} {v:Value},cN w own t v→cN w own (T.canon n t) v:=by
 intro n
 have sl:∀ {f:Bool} {rows:List (List T)} {v:Value},cN w own (.sl f rows) v→cN w own (.sl false rows) v:=by
  intro f rows v h
  cases h with
  | cQ _ a cap hf hn=>exact .cQ false a cap (by simp) hn
  | sl _ _ sz b o cap g h1 h2 h3 h4 h45 h5 h6 h7 h8=>exact .sl false rows sz b o cap g h1 h2 (by simp) h4 h45 h5 h6 h7 h8
 induction n with
 | zero =>
  intro t v h
  unfold T.canon
  split
  ·exact sl h
  ·cases h;exact .cQ false none 0 (by simp) (by simp)
  ·cases h with
   | ne _ a cap hf=>exact .cQ false (some a) cap (by simp) (by simp)
  ·omega
  ·omega
  ·exact h
 | succ n ih =>
  intro t v h
  unfold T.canon
  split
  ·exact sl h
  ·cases h;exact .cQ false none 0 (by simp) (by simp)
  ·cases h with
   | ne _ a cap hf=>exact .cQ false (some a) cap (by simp) (by simp)
  ·rename_i m cs e
   cases e
   cases h with
   | agg _ vs h1 h2=>exact .agg _ vs (by simpa using h1) fun i hi=>by simpa using ih (h2 i (by simpa using hi))
  ·rename_i m cs e
   cases e
   cases h with
   | bZ _ vs h1 h2=>exact .bZ _ vs (by simpa using h1) fun i hi=>by simpa using ih (h2 i (by simpa using hi))
  ·exact h
def BCT (P:Program) (rs:Array ResultVar) (st:St):Option T :=
 match vO P st rs.toList with
 | some [d]=>(iA st.σ 6 d).map (T.canon 4)
 | some ds=>(iA st.σ 6 (.bZ ds)).map (T.canon 4)
 | none=>none
def vP (tmps:Array Value):ResultVar→Sem Value
 | .tmp t=>pure (tmps.getD t undef)
 | .cell x t=>do loadVar t (←asAddr (tmps.getD x undef))
theorem gJ (fn:Func) (tmps:Array Value):results fn tmps=(do
  let vs ←fn.results.mapM (vP tmps)
  pure (if h:vs.size=1 then vs[0] else .tuple vs)):=by
 rfl
theorem nB {cx:Cx} {nt:Nat} {ρ:Nat→Option Loc} {st:St} {a:Act} {w:World} (hr:Rel cx nt ρ st a w):∀ {rs:List ResultVar} {ds:List D},vO cx.P st rs=some ds →
  ∃ vs:List Value,(rs.mapM (vP a.tmps)).run cx.P w = .ok vs w∧cZ (Rd w (bL cx ρ st.σ) ρ) ds vs.toArray
 | [],ds,h=>by simp only[vO] at h;cases h;exact ⟨[],by simp,cZ.nil⟩
 | .tmp t::rs,ds,h=>by
  simp only[vO,Option.map_eq_some_iff] at h
  obtain ⟨ds',h',rfl⟩:=h
  obtain ⟨vs,h1,h2⟩:=nB hr h'
  refine ⟨a.tmps.getD t undef::vs,by simp only[List.mapM_cons,vP,Sem.run_bind,Sem.run_pure,Result.andThen_ok,h1],?_⟩
  have:=(cZ.one (QM (hr.nD t))).append h2
  simp_all
 | .cell x t::rs,ds,h=>by
  simp only[vO] at h
  split at h
  ·rename_i d hd
   simp only[Option.map_eq_some_iff] at h
   obtain ⟨ds',h',rfl⟩:=h
   obtain ⟨vs,h1,h2⟩:=nB hr h'
   obtain ⟨v,h3,h4⟩:=ADD hr.inv (QM (hr.nD x)) hd
   have h5:(do loadVar t (←asAddr (a.tmps.getD x undef)):Sem Value).run cx.P w = .ok v w:=by
    generalize a.tmps.getD x undef=q at *
    cases q with
    | pointer p=>cases p with
     | none=>simp[Instr.loadAt,Instr.sureAddr] at h3
     | some p=>simpa [Instr.loadAt,Instr.sureAddr,asAddr] using h3
    | _=>simp[Instr.loadAt,Instr.sureAddr] at h3
   refine ⟨v::vs,?_,?_⟩
   ·rw[List.mapM_cons]
    rw[Sem.run_bind,show vP a.tmps (.cell x t)=(do loadVar t (←asAddr (a.tmps.getD x undef))) from rfl,h5]
    simp_all
   ·have:=(cZ.one h4).append h2
    simp_all
  ·cases h
theorem A1Y {cx:Cx} {nt:Nat} {ρ:Nat→Option Loc} {st:St} {a:Act} {w:World} (hr:Rel cx nt ρ st a w) {fn:Func} {r:T} (h:BCT cx.P fn.results st=some r) :
  ∃ v,(results fn a.tmps).run cx.P w = .ok v w∧cN w cx.own r v:=by
 unfold BCT at h
 have run:∀ {ds:List D},vO cx.P st fn.results.toList=some ds→∃ vs:Array Value,(fn.results.mapM (vP a.tmps)).run cx.P w = .ok vs w∧cZ (Rd w (bL cx ρ st.σ) ρ) ds vs:=by
  intro ds hds
  obtain ⟨vs,h1,h2⟩:=nB hr hds
  refine ⟨vs.toArray,?_,h2⟩
  rw[Array.mapM_eq_mapM_toList,Sem.run_map,h1]
  rfl
 split at h
 ·rename_i d hd
  obtain ⟨vs,h1,h2⟩:=run hd
  have hs:vs.size=1:=by simpa using h2.1
  refine ⟨vs[0],?_,?_⟩
  ·rw[gJ,Sem.run_bind,h1]
   simp[hs]
  ·have h3:=h2.2 0 (by simp)
   have h4:vs.getD 0 undef=vs[0]:=by simp[Array.getD,hs]
   rw[h4] at h3
   simp only[Option.map_eq_some_iff] at h
   obtain ⟨r',hr',rfl⟩:=h
   exact (CE hr.inv 6 h3 hr').canon 4
 ·rename_i ds hne hds
  obtain ⟨vs,h1,h2⟩:=run hds
  have hs:¬ vs.size=1:=by
   intro hs
   rw[h2.1] at hs
   obtain ⟨d,rfl⟩:=List.length_eq_one_iff.1 hs
   simp_all
  refine ⟨.tuple vs,?_,?_⟩
  ·rw[gJ,Sem.run_bind,h1]
   simp[hs]
  ·simp only[Option.map_eq_some_iff] at h
   obtain ⟨r',hr',rfl⟩:=h
   exact (CE hr.inv 6 (.bZ ds vs h2.1 h2.2) hr').canon 4
 ·cases h
def GK (args:List D) (σ:Nat→Option bB) (n:Nat):St:=⟨fun i=>match args[i]? with|some d=>d|none=>.p (.v undef),σ,n⟩
theorem wB {cx:Cx} {nt:Nat} {ρ:Nat→Option Loc} {σ:Nat→Option bB} {n:Nat} {w:World} {args:List D} {vs:Array Value} (hI:Inv cx ρ σ n w) (hk:bO cx cx.ρb ρ cx.σb σ cx.wb w) (hG:Good cx.P w) (ha:cZ (Rd w (bL cx ρ σ) ρ) args vs) (hlen:args.length≤nt) :
  Rel cx nt ρ (GK args σ n) { tmps:=vs++Array.replicate (nt-vs.size) undef,defers:=[] } w:=by
 refine ⟨hI,by simp[ha.1];omega,rfl,hk,hG,fun i=>?_⟩
 by_cases hi:i<args.length
 ·have h1:=ha.2 i hi
  have hs:i<vs.size:=by rw[ha.1];exact hi
  simp only[Array.getD_eq_getD_getElem?,Array.getElem?_append_left hs] at h1 ⊢
  simp only[GK,List.getElem?_eq_getElem hi]
  exact h1
 ·have hs:vs.size≤i:=by rw[ha.1];omega
  have hu:((vs++Array.replicate (nt-vs.size) undef).getD i undef)=undef:=by
   simp only[Array.getD_eq_getD_getElem?,Array.getElem?_append_right hs,Array.getElem?_replicate]
   split<;>rfl
  simp only[hu,GK,List.getElem?_eq_none (Nat.le_of_not_lt hi)]
  exact .p _ _ (.v _)
def KC (P:Program) (own:Nat→Prop) (w:World):Cx:=⟨P,own,w,fun _=>none,fun _=>none,w,[]⟩
theorem BA4 (P:Program) (own:Nat→Prop) (w:World) (hG:Good P w) (hown:∀ b,own b→b<w.heap.size):Inv (KC P own w) (fun _=>none) (fun _=>none) 0 w :=
 ⟨fun k x hk=>by simp at hk,fun k k' x x' l l' hk=>by simp at hk,fun k l hk=>by simp at hk,fun k x l hk=>by simp at hk,B4 (Below.refl _ _),hown,hG.2,fun a h=>by cases h⟩
theorem LC {P:Program} {own:Nat→Prop} {w:World} {nt:Nat} {args:List T} {vs:Array Value} (hG:Good P w) (hown:∀ b,own b→b<w.heap.size) (ha:cZ (cN w own) args vs) (hlen:args.length≤nt) :
  Rel (KC P own w) nt (fun _=>none) (st0 args) { tmps:=vs++Array.replicate (nt-vs.size) undef,defers:=[] } w:=by
 have hI:=BA4 P own w hG hown
 have hown':∀ b,bL (KC P own w) (fun _=>none) (fun _=>none) b→own b:=fun b hb=>by
  rcases hb with hb|⟨k,l,x,hk,_,_⟩
  ·exact hb
  ·simp at hk
 have:=wB (cx:=KC P own w) (nt:=nt) (args:=args.map .p) (vs:=vs) hI (bO.refl _ _ _ _) hG (cZ.map (R:=cN w own) _ ha (fun d v h=>.p _ _ (h.less hown'))) (by simpa using hlen)
 have e:GK (args.map .p) (fun _=>none) 0=st0 args:=by
  unfold GK st0
  congr 1
  funext i
  cases h:args[i]? <;> simp[h]
 simp_all
def BFD (ds:List D):D:=match gZ ds with
 | some ts=>.p (.bZ ts)
 | none=>.bZ ds
def A10 (P:Program) (rs:Array ResultVar) (st:St):Option (D×(Nat→Option bB)×Nat) :=
 match vO P st rs.toList with
 | some [d]=>some (d,st.σ,st.n)
 | some ds=>some (BFD ds,st.σ,st.n)
 | none=>none
theorem AEH {cx:Cx} {nt:Nat} {ρ:Nat→Option Loc} {st:St} {a:Act} {w:World} (hr:Rel cx nt ρ st a w) {fn:Func} {r:D×(Nat→Option bB)×Nat} (h:A10 cx.P fn.results st=some r) :
  ∃ v,(results fn a.tmps).run cx.P w = .ok v w∧Rd w (bL cx ρ st.σ) ρ r.1 v∧r.2=(st.σ,st.n):=by
 have run:∀ {ds:List D},vO cx.P st fn.results.toList=some ds→∃ vs:Array Value,(fn.results.mapM (vP a.tmps)).run cx.P w = .ok vs w∧cZ (Rd w (bL cx ρ st.σ) ρ) ds vs:=by
  intro ds hds
  obtain ⟨vs,h1,h2⟩:=nB hr hds
  refine ⟨vs.toArray,?_,h2⟩
  rw[Array.mapM_eq_mapM_toList,Sem.run_map,h1]
  rfl
 unfold A10 at h
 split at h
 ·rename_i d hd
  cases h
  obtain ⟨vs,h1,h2⟩:=run hd
  have hs:vs.size=1:=by simpa using h2.1
  refine ⟨vs[0],?_,?_,rfl⟩
  ·rw[gJ,Sem.run_bind,h1]
   simp[hs]
  ·have h3:=h2.2 0 (by simp)
   simp_all
 ·rename_i ds hne hds
  cases h
  obtain ⟨vs,h1,h2⟩:=run hds
  have hs:¬ vs.size=1:=by
   intro hs
   rw[h2.1] at hs
   obtain ⟨d,rfl⟩:=List.length_eq_one_iff.1 hs
   simp_all
  refine ⟨.tuple vs,?_,?_,rfl⟩
  ·rw[gJ,Sem.run_bind,h1]
   simp[hs]
  ·unfold BFD
   split
   ·rename_i ts hts
    have:=uI h2 hts
    exact .p _ _ (.bZ _ _ this.1 this.2)
   ·exact .bZ _ _ h2.1 h2.2
 ·cases h
theorem AQY {P:Program} {E:Env} (hE:aT P E) (hm:P.follows .mixedOrders=true) {f:FuncId} {fn:Func} {c:Code} (hf:P.funcs[f]? = some fn) (hname:(fn.name == "runtime.NumGoroutine")=false) (hb:fn.body=some c) {g:List D→(Nat→Option bB)→Nat→Option (D×(Nat→Option bB)×Nat)}
  (h:∀ args σ n r,g args σ n=some r→args.length≤fn.ntmps∧BQ P E fn.ntmps c (fun e st=>(e = .normal∨e = .ret)∧A10 P fn.results st=some r) (GK args σ n)):cY P f g:=by
 refine ⟨⟨fn,hf,hname,by simp[hb]⟩,fun cx ρ σ n w args vs d σ' n' hcP hG hI ha hg=>?_⟩
 subst hcP
 obtain ⟨hlen,hw⟩:=h args σ n _ hg
 let cx':Cx:=⟨cx.P,cx.own,cx.w0,ρ,σ,w,cx.arg⟩
 have hI':Inv cx' ρ σ n w:=⟨hI.boxes,hI.inj,hI.new,hI.q7,hI.below,hI.jY,hI.low⟩
 refine calls_of_wp hf hb ?_
 have hr:Rel cx' fn.ntmps ρ (GK args σ n) { tmps:=vs++Array.replicate (fn.ntmps-vs.size) undef,defers:=[] } w:=wB hI' (bO.refl _ _ _ _) hG ha hlen
 refine wp_mono (T8 (cx:=cx') hE hm c _ (GK args σ n) hw _ _ w hr) ?_
 rintro e a' w' ⟨st',ρ',hr',he,hres⟩
 obtain ⟨v,h1,h2,h3⟩:=AEH hr' hres
 obtain ⟨rfl,rfl⟩:=h3
 have hI2:Inv cx ρ' st'.σ st'.n w':=⟨hr'.inv.boxes,hr'.inv.inj,hr'.inv.new,hr'.inv.q7,hr'.inv.below,hr'.inv.jY,hr'.inv.low⟩
 have hk2:bO cx ρ ρ' σ st'.σ w w':=⟨hr'.keeps.cell,hr'.keeps.size,hr'.keeps.own,hr'.keeps.loc,hr'.keeps.shape,hr'.keeps.ro⟩
 rcases he with rfl|rfl
 ·exact ⟨hr'.defers,v,h1,v,ρ',rfl,hI2,hk2,h2⟩
 ·exact ⟨hr'.defers,v,h1,v,ρ',rfl,hI2,hk2,h2⟩
def toRo:bB→bB
 | .rows _ rs=>.rows true rs
 | .arr _ z rows=>.arr true z rows
 | .map _ es=>.map true es
 | _=>.held
def XA (σ:Nat→Option bB):Nat→Option bB:=fun k=>match σ k with
 | some x=>some (toRo x)
 | none=>none
def wrS (σ:Nat→Option bB):Nat→Option bB:=fun k=>match σ k with
 | some x=>match gM x with
  | true=>some x
  | false=>none
 | none=>none
theorem AER {σ:Nat→Option bB} {k:Nat} {x:bB} (h:wrS σ k=some x):σ k=some x:=by
 unfold wrS at h
 grind
def AJR (P:Program) (rs:Array ResultVar) (st:St):Option T :=
 match vO P st rs.toList with
 | some [d]=>(iA (wrS st.σ) 6 d).map (T.canon 4)
 | some ds=>(iA (wrS st.σ) 6 (.bZ ds)).map (T.canon 4)
 | none=>none
theorem yK {σ:Nat→Option bB} {k:Nat} {x:bB} (h:XA σ k=some x):∃ y,σ k=some y∧x=toRo y:=by
 unfold XA at h
 grind
theorem toRo_wr (x:bB):gM (toRo x)=false:=by cases x<;>rfl
theorem AMO {cx cx':Cx} (ho:cx'.own=cx.own) {ρ:Nat→Option Loc} {σ:Nat→Option bB}:bL cx' ρ (XA σ)=bL cx ρ σ:=by
 funext b
 simp only[bL,ho,eq_iff_iff]
 refine or_congr Iff.rfl ⟨fun ⟨k,l,x,h1,h2⟩=>?_,fun ⟨k,l,x,h1,h2⟩=>⟨k,l,toRo x,by simp[XA,h1],h2⟩⟩
 obtain ⟨y,h3,_⟩:=yK h1
 exact ⟨k,l,y,h3,h2⟩
theorem dV.toRo {w:World} {own:Nat→Prop} {ρ:Nat→Option Loc} {l:Loc} {o:Obj} {x:bB} (h:dV w own ρ l o x):dV w own ρ l o (toRo x):=by
 cases h with
 | rows _ rs c hr hz h =>
  cases x with
  | rows ro rs'=>cases hr;exact .rows _ _ c rfl (fun _ _ _ e=>by cases e) h
  | arr ro z rows=>cases hr;exact .rows _ _ c rfl (fun _ _ _ e=>by cases e;exact hz _ _ _ rfl) h
  | _=>simp[eC] at hr
 | map ro es ents h1 h2=>exact .map true es ents h1 h2
 | kT s pos=>exact .held _
 | nJ m l' since seen last h=>exact .held _
 | sE=>exact .held _
 | cD es b since seen last h=>exact .held _
 | held o=>exact .held _
theorem Inv.toRo {cx:Cx} {ρ:Nat→Option Loc} {σ:Nat→Option bB} {n:Nat} {w:World} (h:Inv cx ρ σ n w) (hlow:cx.P.low≤w.heap.size):Inv ⟨cx.P,cx.own,w,ρ,XA σ,w,[]⟩ ρ (XA σ) n w:=by
 have ho:bL ⟨cx.P,cx.own,w,ρ,XA σ,w,[]⟩ ρ (XA σ)=bL cx ρ σ:=AMO rfl
 refine ⟨fun k x hk=>?_,fun k k' x x' l l' h1 h2=>?_,h.new,fun k x l hk _ _ hw=>?_,B4 (Below.refl _ _),fun b hb=>?_,hlow,fun a h=>by cases h⟩
 ·obtain ⟨y,hy,rfl⟩:=yK hk
  obtain ⟨l,hl,h1,h2⟩:=h.boxes k y hy
  refine ⟨l,hl,fun hL=>?_,fun h0=>?_⟩
  ·obtain ⟨o,e1,e2⟩:=h1 hL
   rw[ho]
   exact ⟨o,e1,e2.toRo⟩
  ·obtain ⟨ro,z,rfl⟩:=h2 h0
   exact ⟨true,z,rfl⟩
 ·obtain ⟨y,hy,_⟩:=yK h1
  obtain ⟨y',hy',_⟩:=yK h2
  exact h.inj k k' y y' l l' hy hy'
 ·obtain ⟨y,hy,rfl⟩:=yK hk
  rw[toRo_wr] at hw
  cases hw
 ·have:=h.jY b hb
  have:=h.below.size
  show b<w.heap.size
  omega
theorem PG {cx:Cx} {nt:Nat} {ρ:Nat→Option Loc} {st:St} {a:Act} {w:World} {own0:Nat→Prop} (hr:Rel cx nt ρ st a w) (hn:cx.arg=[]) (h0:∀ b,own0 b→bL cx ρ st.σ b) (h1:∀ b,own0 b→b<cx.w0.heap.size) {fn:Func} {r:T} (h:AJR cx.P fn.results st=some r) :
  ∃ v,(results fn a.tmps).run cx.P w = .ok v w∧cN w own0 r v:=by
 have hwr:∀ k x,wrS st.σ k=some x→st.σ k=some x∧gM x=true:=by
  intro k x hk
  unfold wrS at hk
  grind
 have fr:∀ {d:D} {t:T} {v:Value},Rd w (bL cx ρ st.σ) ρ d v→iA (wrS st.σ) 6 d=some t→cN w own0 t v:=fun hd hf =>
  xH hr.inv h0 (fun k x hk=>(hwr k x hk).1) (fun k x l hk hl hL ho=>by
   obtain ⟨hk1,hk2⟩:=hwr k x hk
   have:=hr.inv.TE hn k x l hk1 hl hL hk2
   have:=h1 _ ho
   omega) 6 hd hf
 unfold AJR at h
 have run:∀ {ds:List D},vO cx.P st fn.results.toList=some ds→∃ vs:Array Value,(fn.results.mapM (vP a.tmps)).run cx.P w = .ok vs w∧cZ (Rd w (bL cx ρ st.σ) ρ) ds vs:=by
  intro ds hds
  obtain ⟨vs,h1,h2⟩:=nB hr hds
  refine ⟨vs.toArray,?_,h2⟩
  rw[Array.mapM_eq_mapM_toList,Sem.run_map,h1]
  rfl
 split at h
 ·rename_i d hd
  obtain ⟨vs,h1,h2⟩:=run hd
  have hs:vs.size=1:=by simpa using h2.1
  refine ⟨vs[0],?_,?_⟩
  ·rw[gJ,Sem.run_bind,h1]
   simp[hs]
  ·have h3:=h2.2 0 (by simp)
   have h4:vs.getD 0 undef=vs[0]:=by simp[Array.getD,hs]
   rw[h4] at h3
   simp only[Option.map_eq_some_iff] at h
   obtain ⟨r',hr',rfl⟩:=h
   exact (fr h3 hr').canon 4
 ·rename_i ds hne hds
  obtain ⟨vs,h1,h2⟩:=run hds
  have hs:¬ vs.size=1:=by
   intro hs
   rw[h2.1] at hs
   obtain ⟨d,rfl⟩:=List.length_eq_one_iff.1 hs
   simp_all
  refine ⟨.tuple vs,?_,?_⟩
  ·rw[gJ,Sem.run_bind,h1]
   simp[hs]
  ·simp only[Option.map_eq_some_iff] at h
   obtain ⟨r',hr',rfl⟩:=h
   exact (fr (.bZ ds vs h2.1 h2.2) hr').canon 4
 ·cases h
theorem ASL {P:Program} {E:Env} (hE:aT P E) (hm:P.follows .mixedOrders=true) {f:FuncId} {fn:Func} {c:Code} (hf:P.funcs[f]? = some fn) (hname:(fn.name == "runtime.NumGoroutine")=false) (hb:fn.body=some c) {g:List D→(Nat→Option bB)→Nat→Option T}
  (h:∀ args σ n r,g args σ n=some r→args.length≤fn.ntmps∧BQ P E fn.ntmps c (fun e st=>(e = .normal∨e = .ret)∧AJR P fn.results st=some r) (GK args (XA σ) n)):lM P f g:=by
 refine ⟨⟨fn,hf,hname,by simp[hb]⟩,fun cx ρ σ n w args vs r hcP hG hI ha hg=>?_⟩
 subst hcP
 obtain ⟨hlen,hw⟩:=h args σ n _ hg
 let cx':Cx:=⟨cx.P,cx.own,w,ρ,XA σ,w,[]⟩
 have hI':Inv cx' ρ (XA σ) n w:=hI.toRo hG.2
 have ho:bL cx' ρ (XA σ)=bL cx ρ σ:=AMO rfl
 refine calls_of_wp hf hb ?_
 have hr:Rel cx' fn.ntmps ρ (GK args (XA σ) n) { tmps:=vs++Array.replicate (fn.ntmps-vs.size) undef,defers:=[] } w:=wB hI' (bO.refl _ _ _ _) hG (by rw[ho];exact ha) hlen
 refine wp_mono (T8 (cx:=cx') hE hm c _ (GK args (XA σ) n) hw _ _ w hr) ?_
 rintro e a' w' ⟨st',ρ',hr',he,hres⟩
 have hown:∀ b,bL cx ρ σ b→bL cx' ρ' st'.σ b:=by
  intro b hb
  rcases hb with hb|⟨k,l,x,h1,h2,h3,h4⟩
  ·exact .inl hb
  ·obtain ⟨x',h5,_⟩:=hr'.keeps.ro k (toRo x) (by show XA σ k=_;simp[XA,h1]) (toRo_wr x)
   exact .inr ⟨k,l,x',h5,hr'.keeps.loc k l h2,h3,h4⟩
 obtain ⟨v,h1,h2⟩:=PG (own0:=bL cx ρ σ) hr' rfl hown (fun b hb=>bL.lt hI hb) hres
 rcases he with rfl|rfl
 ·exact ⟨hr'.defers,v,h1,v,rfl,h2,hr'.inv.below.toB⟩
 ·exact ⟨hr'.defers,v,h1,v,rfl,h2,hr'.inv.below.toB⟩
def BCU (P:Program) (rs:Array ResultVar) (st:St):Option (List (List T)) :=
 match vO P st rs.toList with
 | some [.p t]=>match fK t with
  | some (_,[])=>some []
  | _=>none
 | some [.own k]=>match st.σ k with
  | some (.arr false _ rows)=>some rows
  | _=>none
 | _=>none
theorem A1Z {cx:Cx} {nt:Nat} {ρ:Nat→Option Loc} {st:St} {a:Act} {w:World} (hr:Rel cx nt ρ st a w) (hn:cx.arg=[]) {fn:Func} {rows:List (List T)} (h:BCU cx.P fn.results st=some rows) :
  ∃ v,(results fn a.tmps).run cx.P w = .ok v w∧(rows=[]→cN w cx.own (.sl false []) v) ∧
   (rows≠[]→∃ bJ sz C ty c,v = .slice (some ⟨bJ,0,none⟩) rows.length C∧C≤maxLen∧cx.w0.heap.size≤bJ∧w.heap[bJ]? = some (.cells c ty (0,0)) ∧
    dV w (fun b=>cx.own b∨b=bJ) (fun _=>none) ⟨bJ,sz,C,ty,rows.length⟩ (.cells c ty (0,0)) (.arr false sz rows)):=by
 have run:∀ {d:D},vO cx.P st fn.results.toList=some [d]→∃ v,(results fn a.tmps).run cx.P w = .ok v w∧Rd w (bL cx ρ st.σ) ρ d v:=by
  intro d hds
  obtain ⟨vs,h1,h2⟩:=nB hr hds
  have hs:vs.toArray.size=1:=by simpa using h2.1
  refine ⟨vs.toArray[0],?_,?_⟩
  ·rw[gJ,Array.mapM_eq_mapM_toList,Sem.run_bind,Sem.run_map,h1]
   simp_all
  ·have h3:=h2.2 0 (by simp)
   simp_all
 unfold BCU at h
 split at h
 ·rename_i t ht
  obtain ⟨v,h1,h2⟩:=run ht
  split at h
  ·rename_i f hrow
   cases h
   refine ⟨v,h1,fun _=>?_,fun h=>absurd rfl h⟩
   cases h2 with
   | p _ _ h2 =>
   have:=lD h2 hrow
   cases this with
   | cQ _ a cap hf hn=>exact .cQ false a cap (by simp) hn
   | sl _ _ sz bJ off cap fc k1 k2 k3 k4 k5 k6 k7 k8 k9=>exact (cN.sl f [] sz bJ off cap fc k1 k2 k3 k4 k5 k6 k7 k8 k9).canon 0 |>.less fun _ h=>.inl h
  ·cases h
 ·rename_i k hk
  obtain ⟨v,h1,h2⟩:=run hk
  split at h
  ·rename_i z rows' hσ
   cases h
   have hσ':(st.σ k).bind eC=some (aU rows):=by rw[hσ];rfl
   cases h2 with
   | c0 _ l a hl h0 =>
    have hL:=hr.inv.lC hσ' hl
    have:rows=[]:=by rw[show l.L=0 by omega] at hL;simpa using hL
    subst this
    exact ⟨_,h1,fun _=>.cQ false a 0 (by simp) (by simp),fun h=>absurd rfl h⟩
   | own _ l hl h0 hc1 hc2 =>
    have hL:=hr.inv.lC hσ' hl
    simp only[bU] at hL
    by_cases hne:rows=[]
    ·subst hne
     refine ⟨_,h1,fun _=>?_,fun h=>absurd rfl h⟩
     rw[←hL]
     exact .cQ false _ _ (by simp) (by simp)
    refine ⟨_,h1,fun e=>absurd e hne,fun _=>?_⟩
    obtain ⟨l',c,hl',_,hheap,hb⟩:=hr.inv.rows hσ' (by simpa using hne)
    rw[hl] at hl';cases hl'
    refine ⟨l.bJ,l.sz,l.C,l.e,c,by rw[hL],hc2,hr.inv.TE hn k _ l hσ hl h0 rfl,hheap,?_⟩
    refine dV.rows (l:=⟨l.bJ,l.sz,l.C,l.e,rows.length⟩) _ (aU rows) c rfl (fun _ _ _ e=>by cases e;rfl) ⟨hb.size,hb.pos,hb.small,hb.len,by simp,hb.width,fun i j hi hj=>?_,hb.one⟩
    obtain ⟨u,u1,u2⟩:=hb.cell i j hi hj
    refine ⟨u,u1,?_⟩
    have hp:∃ t,(aU rows)[i][j] = .p t:=by
     simp only[aU,List.getElem_map]
     simp
    obtain ⟨t,ht⟩:=hp
    rw[ht] at u2 ⊢
    cases u2 with
    | p _ _ u2 =>
    refine .p _ _ (u2.less fun b hb=>?_)
    rcases hb with hb|rfl
    ·exact .inl hb
    ·exact .inr ⟨k,l,_,hσ,hl,h0,rfl⟩
  ·cases h
 ·cases h
def A5M (τ:Nat→Option bB):List D→Option (List T)
 | []=>some []
 | d::l=>match iA τ 5 d,A5M τ l with
  | some t,some ts=>some (T.canon 4 t::ts)
  | _,_=>none
theorem ABF {τ:Nat→Option bB}:∀ {ds:List D} {cs:List T},A5M τ ds=some cs→cs.length=ds.length∧∀ i (h:i<ds.length) (h':i<cs.length),∃ t,iA τ 5 ds[i]=some t∧cs[i]=T.canon 4 t
 | [],cs,h=>by cases h;exact ⟨rfl,fun i h=>absurd h (Nat.not_lt_zero _)⟩
 | d::l,cs,h=>by
  unfold A5M at h
  split at h
  ·rename_i t ts h1 h2
   cases h
   obtain ⟨e,ih⟩:=ABF h2
   refine ⟨by simp[e],fun i hi hi'=>?_⟩
   cases i with
   | zero=>exact ⟨t,h1,rfl⟩
   | succ i=>exact ih i (by simpa using hi) (by simpa using hi')
  ·cases h
def BCV (P:Program) (c:Nat) (rs:Array ResultVar) (st:St):Option (List T) :=
 match vO P st rs.toList with
 | some [.agg ds]=>match ds[c]? with
  | some (.own k)=>match st.σ k with
   | some (.arr false _ rows)=>A5M (bY (wrS st.σ) k none) (ds.set c (.p (.sl false rows)))
   | _=>none
  | _=>none
 | _=>none
theorem A11 {cx:Cx} {nt:Nat} {ρ:Nat→Option Loc} {st:St} {a:Act} {w:World} (hr:Rel cx nt ρ st a w) (hn:cx.arg=[]) {fn:Func} {c:Nat} {cs:List T} (h:BCV cx.P c fn.results st=some cs) :
  ∃ vc:Array Value,(results fn a.tmps).run cx.P w = .ok (.agg vc) w∧vc.size=cs.length∧∀ fl r0 rows,cs[c]? = some (.sl fl (r0::rows)) →
   ∃ bJ sz C ty cc,(∀ i (h:i<cs.length),i≠c→cN w (fun b=>cx.own b∨b=bJ) cs[i] (vc.getD i undef))∧vc.getD c undef = .slice (some ⟨bJ,0,none⟩) (r0::rows).length C∧C≤maxLen∧cx.w0.heap.size≤bJ ∧
    w.heap[bJ]? = some (.cells cc ty (0,0))∧dV w (fun b=>cx.own b∨b=bJ) (fun _=>none) ⟨bJ,sz,C,ty,(r0::rows).length⟩ (.cells cc ty (0,0)) (.arr false sz (r0::rows)):=by
 have run:∀ {d:D},vO cx.P st fn.results.toList=some [d]→∃ v,(results fn a.tmps).run cx.P w = .ok v w∧Rd w (bL cx ρ st.σ) ρ d v:=by
  intro d hds
  obtain ⟨vs,h1,h2⟩:=nB hr hds
  have hs:vs.toArray.size=1:=by simpa using h2.1
  refine ⟨vs.toArray[0],?_,?_⟩
  ·rw[gJ,Array.mapM_eq_mapM_toList,Sem.run_bind,Sem.run_map,h1]
   simp_all
  ·have h3:=h2.2 0 (by simp)
   simp_all
 unfold BCV at h
 split at h
 case h_2=>cases h
 rename_i ds hds
 obtain ⟨v,h1,h2⟩:=run hds
 split at h
 case h_2=>cases h
 rename_i k hk
 split at h
 case h_2=>cases h
 rename_i z rows' hσ
 obtain ⟨hlen,hget⟩:=ABF h
 rw[List.length_set] at hlen
 cases h2 with
 | agg _ vs hsz hcells =>
 have hcl:c<ds.length:=(List.getElem?_eq_some_iff.1 hk).1
 have hck:ds[c] = .own k:=(List.getElem?_eq_some_iff.1 hk).2
 refine ⟨vs,h1,by rw[hsz,hlen],fun fl r0 rows hcs=>?_⟩
 have hrows:rows'=r0::rows:=by
  obtain ⟨t,t1,t2⟩:=hget c (by simpa using hcl) (by omega)
  rw[List.getElem_set_self] at t1
  cases t1
  have:=(List.getElem?_eq_some_iff.1 hcs).2
  rw[t2] at this
  simp only[T.canon,T.sl.injEq] at this
  exact this.2
 subst hrows
 have hσ':(st.σ k).bind eC=some (aU (r0::rows)):=by rw[hσ];rfl
 have hown:=hcells c hcl
 rw[hck] at hown
 generalize hvc:vs.getD c undef=vk at hown
 cases hown with
 | c0 _ l a' hl h0 =>
  have hL:=hr.inv.lC hσ' hl
  simp_all
 | own _ l hl h0 hc1 hc2 =>
  have hL:=hr.inv.lC hσ' hl
  simp only[bU] at hL
  obtain ⟨l',cc,hl',_,hheap,hb⟩:=hr.inv.rows hσ' (by simp)
  rw[hl] at hl';cases hl'
  refine ⟨l.bJ,l.sz,l.C,l.e,cc,fun i hi hne=>?_,by rw[hL],hc2,hr.inv.TE hn k _ l hσ hl h0 rfl,hheap,?_⟩
  ·obtain ⟨t,t1,t2⟩:=hget i (by rw[List.length_set];omega) hi
   rw[List.getElem_set_ne (fun e=>hne e.symm)] at t1
   rw[t2]
   refine cN.canon 4 ?_
   refine xH (τ:=bY (wrS st.σ) k none) hr.inv (fun b hb=>?_) (fun j x hj=>?_) (fun j x l2 hj hl2 hL2 hc=>?_) 5 (hcells i (by omega)) t1
   ·rcases hb with hb|rfl
    ·exact .inl hb
    ·exact .inr ⟨k,l,_,hσ,hl,h0,rfl⟩
   ·by_cases e:j=k
    ·simp_all
    ·rw[bK _ _ e] at hj
     exact AER hj
   ·by_cases e:j=k
    ·simp_all
    ·rw[bK _ _ e] at hj
     rcases hc with hc|hc
     ·exact hr.inv.AWW hl2 hL2 hc
     ·exact e (hr.inv.inj j k x _ l2 l (AER hj) hσ hl2 hl hL2 h0 hc)
  ·refine dV.rows (l:=⟨l.bJ,l.sz,l.C,l.e,(r0::rows).length⟩) _ (aU (r0::rows)) cc rfl (fun _ _ _ e=>by cases e;rfl) ⟨hb.size,hb.pos,hb.small,hb.len,by simp,hb.width,fun i j hi hj=>?_,hb.one⟩
   obtain ⟨u,u1,u2⟩:=hb.cell i j hi hj
   refine ⟨u,u1,?_⟩
   have hp:∃ t,(aU (r0::rows))[i][j] = .p t:=by
    simp only[aU,List.getElem_map]
    simp
   obtain ⟨t,ht⟩:=hp
   rw[ht] at u2 ⊢
   cases u2 with
   | p _ _ u2 =>
   refine .p _ _ (u2.less fun b hb=>?_)
   rcases hb with hb|rfl
   ·exact .inl hb
   ·exact .inr ⟨k,l,_,hσ,hl,h0,rfl⟩
section
variable {P : Program} {E : Env} {nt : Nat}
theorem AO5 {id:Nat} {ops:Array Oper} {draw:Bool} {Q:Exit→St→Prop} {st:St} (h:(draw=false∨(rS (E.view draw) ops=true∧steps ops=false))∧FR P (E.view draw) nt ops (Q .normal) st):BQ P E nt (.region id ops draw) Q st:=.inl h
theorem AO7 {id:Nat} {ops:Array Oper} {Q:Exit→St→Prop} {st st':St} (h1:sG false (E.view true) ops=true) (h2:evD false P (E.view true) nt ops st.n (D0 false (E.view true) ops) (fA ops st)=some st') (h3:Q .normal st'):BQ P E nt (.region id ops true) Q st:=.inr (.inl ⟨rfl,h1,st',h2,h3⟩)
theorem AO6 {id:Nat} {ops:Array Oper} {Q:Exit→St→Prop} {st:St} {l:List St} (h2:VH P (E.view true) nt ops ops.size (Array.replicate ops.size false) st=some l) (h3:∀ s∈DD nt l,Q .normal s):BQ P E nt (.region id ops true) Q st:=.inr (.inr ⟨rfl,l,h2,h3⟩)
theorem A4B {b:Code} {Q:Exit→St→Prop} {st:St} (h:∀ X:St→Prop,(∀ st,BQ P E nt b (AEQ X Q) st→X st)→X st):BQ P E nt (.loop b) Q st:=h
theorem A4A {l:Nat} {Q:Exit→St→Prop} {st:St} (h:Q .normal st):BQ P E nt (.label l) Q st:=h
theorem A39 {c:Operand} {t e:Code} {Q:Exit→St→Prop} {st:St} (h:NH (ev (cB true st.s) c) (BQ P E nt t Q st) (BQ P E nt e Q st)):BQ P E nt (.cond c t e) Q st:=h
theorem BD5 {a b:Code} {Q:Exit→St→Prop} {st:St} (h:BQ P E nt a (AEQ (BQ P E nt b Q) Q) st):BQ P E nt (.seq a b) Q st:=h
theorem A4C {b:Code} {Q:Exit→St→Prop} {st:St} (h:BQ P E nt b (WX Q) st):BQ P E nt (.scope b) Q st:=h
theorem A38 {id:Nat} {b:Code} {Q:Exit→St→Prop} {st:St} (h:BQ P E nt b (G9 id Q) st):BQ P E nt (.block id b) Q st:=h
theorem A88 {Q:Exit→St→Prop} {st:St} (h:Q .normal st):BQ P E nt .skip Q st:=h
theorem BD4 {Q:Exit→St→Prop} {st:St} (h:Q .ret st):BQ P E nt .ret Q st:=h
theorem A87 {id:Nat} {Q:Exit→St→Prop} {st:St} (h:Q (.exit id) st):BQ P E nt (.exit id) Q st:=h
theorem AG5 {A B:Prop} (h:A):NH (.p (.v (.bool true))) A B:=by simpa [NH] using h
theorem AAR {A B:Prop} (h:B):NH (.p (.v (.bool false))) A B:=by simpa [NH] using h
end
attribute [irreducible] BQ
end Go.Pv
