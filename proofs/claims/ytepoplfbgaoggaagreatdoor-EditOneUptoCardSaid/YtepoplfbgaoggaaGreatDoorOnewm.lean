/-
  The pure evaluator, part m: regions, in the order of the text and in whatever order they draw; the rules of control.
-/
import Derived.Test.YtepoplfbgaoggaaGreatDoorOnewl
import Derived.LoopN
set_option linter.defProp false
set_option linter.unusedSimpArgs false
namespace Go.Pv
open Go Go.RowKit
def evL (P:Program) (E:Env) (nt:Nat) (ops:Array Oper):List Oper->St->Option St
 | [],st=>some st
 | o::r,st=>(gK P E nt ops o st).bind (evL P E nt ops r)
def DZ (cx:Cx) (nt:Nat) (Q:Exit->St->Prop):Exit->Act->World->Prop:=λe a w=>∃ st ρ,Rel cx nt ρ st a w/\Q e st
def AW (cx:Cx) (nt:Nat) (c:Code) (Q:Exit->St->Prop) (st:St):Prop:=∀ ρ a w,Rel cx nt ρ st a w->c.wp cx.P (DZ cx nt Q) a w
def u7 (P:Program) (b:Code) (Q:Exit->Act->World->Prop) (a:Act) (w:World):Prop :=
 ∀ (fb:Frame) (k:List Item) (cs:List Frame),∃ e a' w',Q e a' w'/\Arrives P (lone (fb.at a (.code b :: .inLoop b::k)) cs w) fb k cs e a' w'
variable {P:Program}{Q:Exit->Act->World->Prop}
def u7.wp {b:Code} {a:Act} {w:World} (h:u7 P b Q a w):(Code.loop b).wp P Q a w:=by
 intro fb k cs;obtain ⟨e,a',w',hq,harr⟩:=h fb k cs;exact ⟨e,a',w',hq,.of_steps (.one step_loop) harr⟩
def u7.round {b:Code} {a:Act} {w:World} (h:b.wp P (λe a w=>match e with
  | .normal=>u7 P b Q a w
  | e=>Q e a w) a w):u7 P b Q a w:=by
 intro fb k cs;obtain ⟨e,a₁,w₁,hq,harr⟩:=h fb (.inLoop b::k) cs;cases e with
 | normal =>
  obtain ⟨e₂,a₂,w₂,hq₂,harr₂⟩:=hq fb k cs;exact ⟨e₂,a₂,w₂,hq₂,.of_steps (Steps.trans harr (.one step_inLoop)) harr₂⟩
 | exit id=>exact ⟨_,a₁,w₁,hq,.pass (x:=.inLoop b) rfl (λ_ _=>.inl (by simp)) harr⟩
 | goto l=>exact ⟨_,a₁,w₁,hq,.pass (x:=.inLoop b) rfl (λ_ _=>.inl (by simp)) harr⟩
 | ret=>exact ⟨_,a₁,w₁,hq,.pass (x:=.inLoop b) rfl (λ_ _=>.inl (by simp)) harr⟩
 | panic ch=>exact ⟨_,a₁,w₁,hq,.pass (x:=.inLoop b) rfl (λ_ _=>.inl (by simp)) harr⟩
 | outgrown=>exact ⟨_,a₁,w₁,hq,.pass (x:=.inLoop b) rfl (λ_ _=>.inl (by simp)) harr⟩
section
variable {cx : Cx} {nt : Nat} {E : Env} {ops : Array Oper}
def A8M (hE:bB cx.P E) {Q:Exit->Act->World->Prop} {st':St} (hQ:∀ ρ a w,Rel cx nt ρ st' a w->Q .normal a w):∀ (l:List Oper) (k:Nat) (st:St) (ρ:Nat->Option Loc) (a:Act) (w:World),(∀ j,l[j]? = ops[k+j]?)->Rel cx nt ρ st a w ->
  evL cx.P E nt ops l st=some st'->wpOps cx.P ops Q (List.range' k l.length) a w
 | [],_,st,ρ,a,w,_,hr,h=>by
  cases h;simpa [wpOps] using hQ ρ a w hr
 | o::l,k,st,ρ,a,w,hl,hr,h=>by
  simp only[evL,Option.bind_eq_some_iff] at h;obtain ⟨st1,h1,h2⟩:=h;have h0:ops[k]? = some o:=by simpa using (hl 0).symm
  simp only[List.length_cons,List.range'_succ,wpOps_cons];unfold wpOp;have:=KF (Q:=Q) hE hr h1 (K:=wpOps cx.P ops Q (List.range' (k+1) l.length)) (λρ' a' w' hr'=>A8M hE hQ l (k+1) st1 ρ' a' w' (λj=>by have:=hl (j+1);simpa [Nat.add_assoc,Nat.add_comm 1 j] using this) hr' h2)
  grind
variable {st st':St}
def AW1 (hE:bB cx.P E) {id:Nat} {Q:Exit->St->Prop} (h:evL cx.P E nt ops ops.toList st=some st') (hq:Q .normal st'):AW cx nt (.region id ops false) Q st:=by
 intro ρ a w hr;refine wp_region ?_;have:=A8M (Q:=DZ cx nt Q) hE (λρ a w hr'=>⟨st',ρ,hr',hq⟩) ops.toList 0 st ρ a w (by simp) hr h;rw[List.range_eq_range'];omega
inductive Reach (ops:Array Oper):Nat->Nat->Prop
 | direct {j:Nat} {o:Oper} {e:Edge}:ops[j]? = some o->e∈o.after->Region.binds .any e=true->Reach ops j e.on
 | step {j i:Nat} {o:Oper} {e:Edge}:ops[j]? = some o->e∈o.after->Region.binds .any e=true->Reach ops e.on i->Reach ops j i
def uL (ops:Array Oper) (listed:Array Bool):Prop:=∀ m o,ops[m]? = some o->listed.getD m false=true->∀ e∈o.after,Region.binds .any e=true->listed.getD e.on false=true
def Reach.listed {listed:Array Bool} (hc:uL ops listed) {j i:Nat} (h:Reach ops j i):(∀ o,ops[j]? = some o->∀ e∈o.after,Region.binds .any e=true->listed.getD e.on false=true)->listed.getD i false=true:=by
 induction h with
 | direct h1 h2 h3=>exact λh=>h _ h1 _ h2 h3
 | step h1 h2 h3 _ ih=>exact λh=>ih λo ho=>hc _ o ho (h _ h1 _ h2 h3)
def U9 (acc:List Nat) (o:Oper):Nat:=o.after.toList.foldl (λs e=>if Region.binds .any e then s ||| 2 ^ e.on ||| acc.getD e.on 0 else s) 0
def I8:List Oper->List Nat->List Nat
 | [],acc=>acc
 | o::r,acc=>I8 r (acc++[U9 acc o])
def UB (acc:List Nat) (i:Nat):∀ (l:List Edge) (s:Nat),(l.foldl (λs e=>if Region.binds .any e then s ||| 2 ^ e.on ||| acc.getD e.on 0 else s) s).testBit i=true ->
  s.testBit i=true\/∃ e∈l,Region.binds .any e=true/\(e.on=i\/(acc.getD e.on 0).testBit i=true)
 | [],s,h=>.inl h
 | e::l,s,h=>by
  simp only[List.foldl_cons] at h;rcases UB acc i l _ h with h|⟨e',he',h1,h2⟩
  ·split at h
   ·simp only[Nat.testBit_or,Bool.or_eq_true,Nat.testBit_two_pow,ah] at h;rcases h with (h|h)|h
    ·simp_all
    ·simp_all
    ·simp_all
   ·simp_all
  ·exact .inr ⟨e',by simp[he'],h1,h2⟩
def tX:∀ (l:List Oper) (acc:List Nat),(∀ j,l[j]? = ops[acc.length+j]?)->(∀ j i,(acc.getD j 0).testBit i=true->Reach ops j i)->∀ j i,((I8 l acc).getD j 0).testBit i=true->Reach ops j i
 | [],_,_,h=>h
 | o::l,acc,hl,h=>by
  have h0:ops[acc.length]? = some o:=by simpa using (hl 0).symm
  refine tX l (acc++[U9 acc o]) (λj=>by have:=hl (j+1);simpa [Nat.add_assoc,Nat.add_comm 1 j] using this) ?_;intro j i hb;by_cases hj:j<acc.length
  ·have e:(acc++[U9 acc o]).getD j 0=acc.getD j 0:=by simp[List.getElem?_append_left hj]
   simp_all
  ·by_cases hj':j=acc.length
   ·subst hj';simp at hb;rcases UB acc i _ _ hb with hb|⟨e,he,h1,h2⟩
    ·simp at hb
    ·have he':e∈o.after:=by simpa using he
     rcases h2 with rfl|h2
     ·exact .direct h0 he' h1
     ·exact .step h0 he' h1 (h _ _ h2)
   ·have e:(acc++[U9 acc o]).getD j 0=0:=by
     simp[List.getElem?_eq_none (show (acc++[U9 acc o]).length<=j by simp;omega)]
    simp_all
def mP (E:Env) (op:Op):Bool :=
 match op with
 | .makeSlice t _ _=>E.still t
 | .convert src _ _=>!E.marked (6000000000+src)
 | .buildSlice .. | .move _ | .assign _ | .pick .. | .build .. | .binOp .. | .unOp .. | .fieldAddr .. | .field .. | .index .. | .extract .. => true
 | _=>false
def BDG (E:Env) (ops:Array Oper) (ms:List Nat) (k j:Nat):Bool :=
 (ms.getD j 0).testBit k||(match ops[k]?,ops[j]? with
  | some a,some b=>a.apart ops b&&((fC E a.op&&fC E b.op)||mP E a.op||mP E b.op)
  | _,_=>false)
def wO (E:Env) (ops:Array Oper) (ms:List Nat):Nat->Nat->Array Bool->Bool
 | 0,_,listed=>(Region.ready .any ops listed).isEmpty
 | f+1,k,listed=>(Region.ready .any ops listed).contains k&&(List.range ops.size).all (λj=>decide (j<=k)||BDG E ops ms k j)&&wO E ops ms f (k+1) (listed.setIfInBounds k true)
def QS (E:Env) (ops:Array Oper):Bool:=wO E ops (I8 ops.toList []) ops.size 0 (Array.replicate ops.size false)
def A7H (P:Program) (E:Env) (nt:Nat) (ops:Array Oper) (Q:St->Prop):Nat->Array Bool->St->Prop
 | 0,listed,st=>Region.ready .any ops listed=[]/\Q st
 | f+1,listed,st=>(Region.ready .any ops listed=[]->Q st)/\∀ i∈Region.ready .any ops listed,∃ o st',ops[i]? = some o/\gK P E nt ops o st=some st'/\A7H P E nt ops Q f (listed.setIfInBounds i true) st'
def AUK (hE:bB cx.P E) {Q:St->Prop} {Q':Exit->Act->World->Prop} (hQ:∀ st ρ a w,Q st->Rel cx nt ρ st a w->Q' .normal a w):∀ (f:Nat) (listed:Array Bool) (st:St) (ρ:Nat->Option Loc) (a:Act) (w:World),Rel cx nt ρ st a w ->
  A7H cx.P E nt ops Q f listed st->wpAny cx.P .any ops Q' f listed a w
 | 0,_,st,ρ,a,w,hr,h=>⟨h.1,hQ st ρ a w h.2 hr⟩
 | f+1,listed,st,ρ,a,w,hr,h=>by
  refine ⟨λh0=>hQ st ρ a w (h.1 h0) hr,λi hi=>?_⟩;obtain ⟨o,st',h0,h1,h2⟩:=h.2 i hi;unfold wpOp;have:=KF (Q:=Q') hE hr h1 (K:=wpAny cx.P .any ops Q' f (listed.setIfInBounds i true)) (λρ' a' w' hr'=>AUK hE hQ f _ st' ρ' a' w' hr' h2)
  grind
variable {s':Nat->D}
def HA {s:Nat->D} {x:Operand} (h:∀ t,x = .tmp t->s t=s' t):ev s x=ev s' x:=by
 cases x with
 | tmp t=>exact h t rfl
 | _=>rfl
def CR {s:Nat->D} {xs:List Operand} (h:∀ x∈xs,ev s x=ev s' x):xs.map (ev s)=xs.map (ev s'):=List.map_congr_left h
variable {σ:Nat->Option bL}
def BDM {n:Nat} {s₀ s₀' s:Nat->D} {cg:Bool} {op:Op} (h₀:∀ x∈op.operands,ev s₀ x=ev s₀' x) (h:∀ x∈op.operands,ev s x=ev s' x):qv P E n σ s₀ s cg op=qv P E n σ s₀' s' cg op:=by
 cases op<;>simp only[Op.operands] at h h₀<;>simp only[qv]
 case move x=>rw[h x (by simp)]
 case assign x=>rw[h x (by simp)]
 case pick c a b=>rw[h c (by simp),h a (by simp),h b (by simp),h₀ a (by simp),h₀ b (by simp)]
 case build t parts =>
  have:(parts.toList.map λx=>(x.1,ev s x.2))=parts.toList.map λx=>(x.1,ev s' x.2):=List.map_congr_left λx hx=>by rw[h x.2 (by simp;exact ⟨x.1,by simpa using hx⟩)]
  rw[this]
 case buildSlice t n parts =>
  have:(parts.toList.map λx=>(x.1,ev s x.2))=parts.toList.map λx=>(x.1,ev s' x.2):=List.map_congr_left λx hx=>by rw[h x.2 (by simp;exact ⟨x.1,by simpa using hx⟩)]
  rw[this]
 case makeSlice t l c=>rw[h l (by simp),h c (by simp)]
 case load t a=>rw[h a (by simp)]
 case binOp op t x y u=>rw[h x (by simp),h y (by simp)]
 case unOp op t x=>rw[h x (by simp)]
 case convert a b x=>rw[h x (by simp)]
 case makeFunc f first cap =>
  cases f<;>try rfl
  simp only;rw[CR (s:=s) (s':=s') (xs:=first.toList) (λx hx=>h x (by simp;exact .inl (by simpa using hx))),CR (s:=s) (s':=s') (xs:=cap.toList) (λx hx=>h x (by simp;exact .inr (by simpa using hx)))]
 case slice t x lo hi mx =>
  have hm:∀ (o:Option Operand),(∀ y,o=some y->ev s y=ev s' y)->o.map (ev s)=o.map (ev s'):=by
   intro o ho;cases o with
   | none=>rfl
   | some y=>simp[ho y rfl]
  simp_all
 case fieldAddr t x i=>rw[h x (by simp)]
 case field t x i=>rw[h x (by simp)]
 case indexAddr t x i=>rw[h x (by simp),h i (by simp)]
 case index t x i=>rw[h x (by simp),h i (by simp)]
 case extract x i=>rw[h x (by simp)]
 case lookup t x i ok=>rw[h x (by simp),h i (by simp)]
 case nilCheck x=>rw[h x (by simp)]
 case call c =>
  have hargs:∀ x∈c.args.toList,ev s x=ev s' x:=λx hx=>h x (by simp[Call.operands];exact .inr (by simpa using hx));have hmap:=CR hargs;split
  ·split
   ·simp_all
   ·rfl
  ·rw[hmap]
  ·rw[hmap]
  ·rename_i f hf;rw[hmap,h f (by simp[Call.operands,hf])]
  ·rfl
def nY {s:Nat->D} {o:Oper} (h:∀ t∈o.looksAt ops,s t=s' t):iY ops s o=iY ops s' o:=by
 unfold iY;cases hg:o.guard with
 | none=>rfl
 | some gw =>
  obtain ⟨j,want⟩:=gw;simp only;cases ht:(ops[j]?).bind (·.dst) with
  | none=>rfl
  | some t =>
   simp only;rw[h t (by simp[Oper.looksAt,hg,ht])]
def kV {n:Nat} {s:Nat->D} {o:Oper} (h:∀ t∈o.looksAt ops,s t=s' t):iU P E ops n σ s o=iU P E ops n σ s' o:=by
 unfold iU;rw[nY h];cases iY ops s' o with
 | none=>rfl
 | some c =>
  cases c with
  | false=>rfl
  | true =>
  rw[BDM (s₀:=s) (s₀':=s') (s:=cN true s) (s':=cN true s') (λx hx=>HA λt ht=>by
   subst ht;exact h t (by simp[Oper.looksAt];exact .inl ⟨.tmp t,by simpa using hx,rfl⟩)) (λx hx=>HA λt ht=>by
   subst ht;simp only[cN];rw[h t (by simp[Oper.looksAt];exact .inl ⟨.tmp t,by simpa using hx,rfl⟩)])]
variable {oi oj:Oper}{st₁ st₂:St}
def ASW (hi:fC E oi.op=true) (hj:fC E oj.op=true) (hap:oi.apart ops oj=true) (h1:gK P E nt ops oi st=some st₁) (h2:gK P E nt ops oj st₁=some st₂) :
  ∃ st₃,gK P E nt ops oj st=some st₃/\gK P E nt ops oi st₃=some st₂:=by
 obtain ⟨a1,a2,a3⟩:=Oper.apart_spec hap;unfold gK at h1 h2 ⊢;simp only[hi,hj,if_true] at h1 h2 ⊢;split at h1
 ·rename_i d hd;unfold wQ at h1;cases hdi:oi.dst with
  | none =>
   simp only[hdi] at h1;cases h1;simp only[] at h2;refine ⟨st₂,h2,?_⟩;split at h2
   ·rename_i e he;unfold wQ at h2;cases hdj:oj.dst with
    | none=>simp only[hdj] at h2;cases h2;simp only[hd,wQ,hdi]
    | some t =>
     simp only[hdj] at h2;split at h2
     ·cases h2;have:iU P E ops st.n st.σ (cJ st.s t e) oi=some d:=by
       rw[<-hd];exact kV λu hu=>bU _ _ (λeq=>a3 t hdj (eq ▸ hu))
      simp only[this,wQ,hdi]
     ·cases h2
   ·cases h2
  | some t =>
   simp only[hdi] at h1;split at h1
   ·rename_i htn;cases h1;simp only at h2;split at h2
    ·rename_i e he;have he':iU P E ops st.n st.σ st.s oj=some e:=by
      rw[<-he];exact (kV λu hu=>(bU _ _ (λ(eq:u=t)=>a1 t hdi (by rw[<-eq];exact hu))).symm)
     simp only[he'];unfold wQ at h2 ⊢;cases hdj:oj.dst with
     | none =>
      simp only[hdj] at h2;cases h2;exact ⟨_,rfl,by simp only[hd,hdi,htn,if_true]⟩
     | some t' =>
      simp only[hdj] at h2;split at h2
      ·rename_i htn';cases h2;refine ⟨⟨cJ st.s t' e,st.σ,st.n⟩,by simp only[htn',if_true],?_⟩;have:iU P E ops st.n st.σ (cJ st.s t' e) oi=some d:=by
        rw[<-hd];exact kV λu hu=>bU _ _ (λeq=>a3 t' hdj (eq ▸ hu))
       have hne:t'≠t:=λeq=>a2 t hdi (eq ▸ hdj);simp only[this,hdi,htn,if_true];rw[KH _ _ _ hne]
      ·cases h2
    ·cases h2
   ·cases h1
 ·cases h1
def rA {op:Op} (h:mP E op=true):fC E op=true:=by
 cases op<;>simp[mP] at h<;>first|rfl|simp[fC,h]
def AER {op:Op} (h:mP E op=true) (n n':Nat) (σ σ':Nat->Option bL) (s₀ s:Nat->D) (cg:Bool):qv P E n σ s₀ s cg op=qv P E n' σ' s₀ s cg op:=by
 cases op<;>simp[mP] at h<;>first
  | rfl
  | (simp only[qv,h])
def VJ {s:Nat->D} {k:Nat} {op:Op} (h:∀ x∈op.operands,ev s x=ev s' x):nv P E σ s k op=nv P E σ s' k op:=by
 cases op<;>simp only[Op.operands] at h<;>simp only[nv]
 case box t x=>rw[h x (by simp)]
 case store t a v=>rw[h a (by simp),h v (by simp)]
 case range t x=>rw[h x (by simp)]
 case next it b=>rw[h it (by simp)]
 case makeMap t r=>cases r with
  | none=>rfl
  | some r=>simp only;rw[h r (by simp)]
 case makeSlice t l c=>rw[h l (by simp),h c (by simp)]
 case mapUpdate t m i v=>rw[h m (by simp),h i (by simp),h v (by simp)]
 case entry it=>rw[h it (by simp)]
 case call c =>
  have hargs:∀ x∈c.args.toList,ev s x=ev s' x:=λx hx=>h x (by simp[Call.operands];exact .inr (by simpa using hx));split
  ·simp_all
  ·rename_i f hc;rw[CR hargs,h f (by simp[Call.operands,hc])]
  ·rfl
def LN (P:Program) (E:Env) (ops:Array Oper) (o:Oper) (s:Nat->D) (σ:Nat->Option bL) (n:Nat):Option (D×(Nat->Option bL)×Nat) :=
 if fC E o.op=true then (iU P E ops n σ s o).map λd=>(d,σ,n)
 else match iY ops s o with
  | some true=>nv P E σ (cN true s) n o.op
  | some false=>some (.p (.v undef),σ,n)
  | none=>none
def CG {o:Oper}:gK P E nt ops o st=(LN P E ops o st.s st.σ st.n).bind λx=>wQ nt st o.dst x.1 x.2.1 x.2.2:=by
 unfold gK LN
 grind
def TN {o:Oper} {s:Nat->D} {n:Nat} (h:∀ t∈o.looksAt ops,s t=s' t):LN P E ops o s σ n=LN P E ops o s' σ n:=by
 unfold LN;rw[kV h,nY h];rw[VJ (s:=cN true s) (s':=cN true s') (λx hx=>HA λt ht=>by
   subst ht;simp only[cN];rw[h t (by simp[Oper.looksAt];exact .inl ⟨.tmp t,by simpa using hx,rfl⟩)])]
def CQ {o:Oper} (hf:mP E o.op=true) {s:Nat->D} (σ σ₀:Nat->Option bL) (n n₀:Nat):LN P E ops o s σ n=(LN P E ops o s σ₀ n₀).map λx=>(x.1,σ,n):=by
 unfold LN;rw[if_pos (rA hf),if_pos (rA hf)];have:iU P E ops n σ s o=iU P E ops n₀ σ₀ s o:=by
  unfold iU;cases iY ops s o with
  | none=>rfl
  | some c=>cases c<;>simp only[AER hf n n₀ σ σ₀]
 rw[this];cases iU P E ops n₀ σ₀ s o<;>rfl
def uV (s:Nat->D) (dst:Option Tmp) (d:D):Nat->D:=match dst with|some t=>cJ s t d|none=>s
variable {dst:Option Tmp}{σ':Nat->Option bL}{n':Nat}
def uC {d:D} (h:wQ nt st dst d σ' n'=some st'):(∀ t,dst=some t->t<nt)/\st'=⟨uV st.s dst d,σ',n'⟩:=by
 unfold wQ at h;cases dst with
 | none=>cases h;exact ⟨λt ht=>by simp at ht,rfl⟩
 | some u =>
  simp only at h;split at h
  ·rename_i hlt;cases h;exact ⟨λt ht=>by cases ht;exact hlt,rfl⟩
  ·cases h
def yL {d:D} (h:∀ t,dst=some t->t<nt):wQ nt st dst d σ' n'=some ⟨uV st.s dst d,σ',n'⟩:=by
 unfold wQ uV
 grind
def A03 (hf:mP E oi.op=true\/mP E oj.op=true) (hap:oi.apart ops oj=true) (h1:gK P E nt ops oi st=some st₁) (h2:gK P E nt ops oj st₁=some st₂) :
  ∃ st₃,gK P E nt ops oj st=some st₃/\gK P E nt ops oi st₃=some st₂:=by
 obtain ⟨a1,a2,a3⟩:=Oper.apart_spec hap;rw[CG,Option.bind_eq_some_iff] at h1 h2;obtain ⟨⟨di,σi,ni⟩,e1,p1⟩:=h1;obtain ⟨⟨dj,σj,nj⟩,e2,p2⟩:=h2;obtain ⟨l1,rfl⟩:=uC p1;obtain ⟨l2,rfl⟩:=uC p2;have c2:∀ σ n,LN P E ops oj (uV st.s oi.dst di) σ n=LN P E ops oj st.s σ n:=λσ n=>TN λu hu=>by
  cases hd:oi.dst with
  | none=>rfl
  | some t=>exact bU _ _ (λ(eq:u=t)=>a1 t hd (by rw[<-eq];exact hu))
 have c1:∀ σ n,LN P E ops oi (uV st.s oj.dst dj) σ n=LN P E ops oi st.s σ n:=λσ n=>TN λu hu=>by
  cases hd:oj.dst with
  | none=>rfl
  | some t=>exact bU _ _ (λ(eq:u=t)=>a3 t hd (by rw[<-eq];exact hu))
 have cu:∀ (σ:Nat->Option bL) (n:Nat),(⟨uV (uV st.s oj.dst dj) oi.dst di,σ,n⟩:St)=⟨uV (uV st.s oi.dst di) oj.dst dj,σ,n⟩:=by
  intro σ n;cases hdi:oi.dst with
  | none=>rfl
  | some t =>
   cases hdj:oj.dst with
   | none=>rfl
   | some t' =>
    simp only[uV];rw[KH _ _ _ (λ(eq:t'=t)=>a2 t hdi (eq ▸ hdj))]
 simp only[] at e2;rw[c2] at e2;rcases hf with hf|hf
 ·
  rw[CQ hf st.σ st.σ st.n st.n] at e1;simp only[aa,Prod.mk.injEq] at e1;obtain ⟨x,ex,ed,eσ,en⟩:=e1;subst eσ en ed;refine ⟨_,by rw[CG,e2];exact yL l2,?_⟩;rw[CG];simp only[];rw[c1,CQ hf σj st.σ nj st.n,ex];refine (yL l1).trans ?_;exact congrArg some (cu σj nj)
 ·
  rw[CQ hf σi st.σ ni st.n] at e2;simp only[aa,Prod.mk.injEq] at e2;obtain ⟨x,ex,ed,eσ,en⟩:=e2;subst eσ en ed;have ex':LN P E ops oj st.s st.σ st.n=some (x.1,st.σ,st.n):=by
   rw[CQ hf st.σ st.σ st.n st.n,ex];rfl
  refine ⟨_,by rw[CG,ex'];exact yL l2,?_⟩;rw[CG];simp only[];rw[c1,e1];refine (yL l1).trans ?_;exact congrArg some (cu σi ni)
def lK {listed:Array Bool} (hc:uL ops listed) {i:Nat} (hi:i∈Region.ready .any ops listed):uL ops (listed.setIfInBounds i true):=by
 obtain ⟨_,o,ho,hall⟩:=mem_ready.1 hi;intro m om hom hm e he hb;by_cases hmi:i=m
 ·subst hmi;rw[ho] at hom;cases hom;exact getD_set_true (hall e he hb)
 ·rw[getD_set_ne false hmi] at hm;exact getD_set_true (hc m om hom hm e he hb)
def APG {Q:St->Prop} {i:Nat} (hi:ops[i]? = some oi) :
  ∀ (f:Nat) (listed:Array Bool) (st st₁:St),uL ops listed ->
   (∀ j oj,ops[j]? = some oj->j≠i->listed.getD j true=false->Reach ops j i\/(((fC E oi.op=true/\fC E oj.op=true)\/mP E oi.op=true\/mP E oj.op=true)/\oi.apart ops oj=true)) ->
   i∈Region.ready .any ops listed->gK P E nt ops oi st=some st₁ ->
   A7H P E nt ops Q f (listed.setIfInBounds i true) st₁->A7H P E nt ops Q (f+1) listed st:=by
 intro f
 induction f with
 | zero =>
  intro listed st st₁ _ _ hr hs H;refine ⟨λh=>(by rw[h] at hr;cases hr),λj hj=>?_⟩;by_cases hji:j=i
  ·simp_all
  ·have:=ready_mono hj hji;rw[H.1] at this;cases this
 | succ f ih =>
  intro listed st st₁ hc hfree hr hs H;refine ⟨λh=>(by rw[h] at hr;cases hr),λj hj=>?_⟩;by_cases hji:j=i
  ·simp_all
  ·obtain ⟨oj,st₂,hoj,h2,H2⟩:=H.2 j (ready_mono hj hji);obtain ⟨hjun,oj',hoj',hall⟩:=mem_ready.1 hj;rw[hoj] at hoj';cases hoj';have hiun:=(mem_ready.1 hr).1;rcases hfree j oj hoj hji hjun with hre|⟨q,hap⟩
   ·have:=hre.listed hc (λo ho e he hb=>by rw[hoj] at ho;cases ho;exact hall e he hb);rcases Nat.lt_or_ge i listed.size with h'|h'
    ·simp_all
    ·simp_all
   ·obtain ⟨st₃,h3,h4⟩:∃ st₃,gK P E nt ops oj st=some st₃/\gK P E nt ops oi st₃=some st₂:=by
     rcases q with ⟨q1,q2⟩|q
     ·exact ASW q1 q2 hap hs h2
     ·exact A03 q hap hs h2
    refine ⟨oj,st₃,hoj,h3,ih (listed.setIfInBounds j true) st₃ st₂ (lK hc hj) (λk ok hk hki hun=>?_) (ready_mono hr (Ne.symm hji)) h4 ?_⟩
    ·by_cases hjk:j=k
     ·simp_all
     ·simp_all
    ·rw[Array.setIfInBounds_comm _ _ hji];exact H2
def AH2 {P:Program} {Q:St->Prop} {ms:List Nat} (hms:∀ j i,(ms.getD j 0).testBit i=true->Reach ops j i) {st':St} (hQ:Q st'):∀ (l:List Oper) (k:Nat) (listed:Array Bool) (st:St),(∀ j,l[j]? = ops[k+j]?)->uL ops listed ->
  (∀ j,j<k->listed.getD j true=true)->wO E ops ms l.length k listed=true->evL P E nt ops l st=some st'->A7H P E nt ops Q l.length listed st
 | [],_,_,st,_,_,_,hB,h=>by
  cases h;exact ⟨by simpa [wO] using hB,hQ⟩
 | o::l,k,listed,st,hl,hc,hlow,hB,h=>by
  have h0:ops[k]? = some o:=by simpa using (hl 0).symm
  simp only[List.length_cons,wO,ac] at hB;obtain ⟨⟨hr,hf⟩,hB'⟩:=hB;have hr':k∈Region.ready .any ops listed:=by simpa using hr
  simp only[evL,Option.bind_eq_some_iff] at h;obtain ⟨st1,h1,h2⟩:=h;refine APG h0 l.length listed st st1 hc (λj oj hoj hjk hun=>?_) hr' h1 (AH2 hms hQ l (k+1) _ st1 (λj=>by have:=hl (j+1);simpa [Nat.add_assoc,Nat.add_comm 1 j] using this) (lK hc hr') (λj hj=>?_) hB' h2)
  ·have hjs:j<ops.size:=(Array.getElem?_eq_some_iff.1 hoj).1;have:=List.all_eq_true.1 hf j (by simpa using hjs);simp only[Bool.or_eq_true,ah] at this;rcases this with hle|hp
   ·have:j<k:=by omega
    simp_all
   ·unfold BDG at hp;simp only[Bool.or_eq_true] at hp;rcases hp with hp|hp
    ·simp_all
    ·rw[h0,hoj] at hp;simp only[ac,Bool.or_eq_true] at hp;obtain ⟨hp1,(hp2|hp2)|hp2⟩:=hp
     ·simp_all
     ·simp_all
     ·simp_all
  ·by_cases e:k=j
   ·simp_all
   ·rw[getD_set_ne true e];exact hlow j (by omega)
def AUC (hE:bB cx.P E) (hm:cx.P.follows .mixedOrders=true) {id:Nat} {Q:Exit->St->Prop} (hB:QS E ops=true) (h:evL cx.P E nt ops ops.toList st=some st') (hq:Q .normal st'):AW cx nt (.region id ops true) Q st:=by
 intro ρ a w hr;refine wp_region_any hm ?_;have hd:Below w.heap.size w w.drew:=(Below.refl _ _).drew;have hr':Rel cx nt ρ st a w.drew:=⟨hr.inv.grow hd (al _),hr.nt,hr.defers,hr.keeps.trans' (bZ.pV hd),hr.yB.below hd,λi=>(hr.uD i).grow hd⟩
 have hlex:=AH2 (P:=cx.P) (E:=E) (nt:=nt) (Q:=λs=>s=st') (ms:=I8 ops.toList []) (λj i hb=>tX ops.toList [] (by simp) (λj i hb=>by simp at hb) j i hb) rfl ops.toList 0 (Array.replicate ops.size false) st (by simp)
  (λm o _ hm'=>by simp[Array.getElem?_replicate] at hm';split at hm'<;>simp at hm') (λj hj=>by omega) (by simpa [QS] using hB) h
 exact AUK (Q:=λs=>s=st') (Q':=DZ cx nt Q) hE (λs ρ a w hs hr=>by subst hs;exact ⟨s,ρ,hr,hq⟩) ops.size (Array.replicate ops.size false) st ρ a w.drew hr' (by simpa using hlex)
end
end Go.Pv
