/-
  The pure evaluator, part m: regions, in the order of the text and in whatever order they draw; the rules of control.
-/
import Derived.Test.YtcnfagefgkblkaaGreatDoorVrwl
import Derived.LoopN
set_option linter.defProp false
set_option linter.unusedSimpArgs false
namespace Go.Pv
open Go Go.RowKit
def evL (P:Program) (E:Env) (nt:Nat) (ops:Array Oper):List Oper->St->Option St
 | [],st=>some st
 | o::r,st=>(fD P E nt ops o st).bind (evL P E nt ops r)
def sV (cx:Cx) (nt:Nat) (Q:Exit->St->Prop):Exit->Act->World->Prop:=λe a w=>∃ st ρ,Rel cx nt ρ st a w/\Q e st
def AW (cx:Cx) (nt:Nat) (c:Code) (Q:Exit->St->Prop) (st:St):Prop:=∀ ρ a w,Rel cx nt ρ st a w->c.wp cx.P (sV cx nt Q) a w
section
variable {cx : Cx} {nt : Nat} {E : Env} {ops : Array Oper}
def AJ3 (hE:aQ cx.P E) {Q:Exit->Act->World->Prop} {st':St} (hQ:∀ ρ a w,Rel cx nt ρ st' a w->Q .normal a w):∀ (l:List Oper) (k:Nat) (st:St) (ρ:Nat->Option Loc) (a:Act) (w:World),(∀ j,l[j]? = ops[k+j]?)->Rel cx nt ρ st a w ->
  evL cx.P E nt ops l st=some st'->wpOps cx.P ops Q (List.range' k l.length) a w
 | [],_,st,ρ,a,w,_,hr,h=>by
  cases h;simpa [wpOps] using hQ ρ a w hr
 | o::l,k,st,ρ,a,w,hl,hr,h=>by
  simp only[evL,Option.bind_eq_some_iff] at h;obtain ⟨st1,h1,h2⟩:=h;have h0:ops[k]? = some o:=by simpa using (hl 0).symm
  simp only[List.length_cons,List.range'_succ,wpOps_cons];unfold wpOp;have:=AI (Q:=Q) hE hr h1 (K:=wpOps cx.P ops Q (List.range' (k+1) l.length)) (λρ' a' w' hr'=>AJ3 hE hQ l (k+1) st1 ρ' a' w' (λj=>by have:=hl (j+1);simpa [Nat.add_assoc,Nat.add_comm 1 j] using this) hr' h2)
  grind
variable {Q:Exit->St->Prop}{st st':St}
def AQR (hE:aQ cx.P E) {id:Nat} (h:evL cx.P E nt ops ops.toList st=some st') (hq:Q .normal st'):AW cx nt (.region id ops false) Q st:=by
 intro ρ a w hr;refine wp_region ?_;have:=AJ3 (Q:=sV cx nt Q) hE (λρ a w hr'=>⟨st',ρ,hr',hq⟩) ops.toList 0 st ρ a w (by simp) hr h;rw[List.range_eq_range'];omega
inductive Reach (ops:Array Oper):Nat->Nat->Prop
 | direct {j:Nat} {o:Oper} {e:Edge}:ops[j]? = some o->e∈o.after->Region.binds .any e=true->Reach ops j e.on
 | step {j i:Nat} {o:Oper} {e:Edge}:ops[j]? = some o->e∈o.after->Region.binds .any e=true->Reach ops e.on i->Reach ops j i
def qL (ops:Array Oper) (listed:Array Bool):Prop:=∀ m o,ops[m]? = some o->listed.getD m false=true->∀ e∈o.after,Region.binds .any e=true->listed.getD e.on false=true
def Reach.listed {listed:Array Bool} (hc:qL ops listed) {j i:Nat} (h:Reach ops j i):(∀ o,ops[j]? = some o->∀ e∈o.after,Region.binds .any e=true->listed.getD e.on false=true)->listed.getD i false=true:=by
 induction h with
 | direct h1 h2 h3=>exact λh=>h _ h1 _ h2 h3
 | step h1 h2 h3 _ ih=>exact λh=>ih λo ho=>hc _ o ho (h _ h1 _ h2 h3)
def QC (acc:List Nat) (o:Oper):Nat:=o.after.toList.foldl (λs e=>if Region.binds .any e then s ||| 2 ^ e.on ||| acc.getD e.on 0 else s) 0
def w3:List Oper->List Nat->List Nat
 | [],acc=>acc
 | o::r,acc=>w3 r (acc++[QC acc o])
def PK (acc:List Nat) (i:Nat):∀ (l:List Edge) (s:Nat),(l.foldl (λs e=>if Region.binds .any e then s ||| 2 ^ e.on ||| acc.getD e.on 0 else s) s).testBit i=true ->
  s.testBit i=true\/∃ e∈l,Region.binds .any e=true/\(e.on=i\/(acc.getD e.on 0).testBit i=true)
 | [],s,h=>.inl h
 | e::l,s,h=>by
  simp only[List.foldl_cons] at h;rcases PK acc i l _ h with h|⟨e',he',h1,h2⟩
  ·split at h
   ·simp only[Nat.testBit_or,Bool.or_eq_true,Nat.testBit_two_pow,ae] at h;rcases h with (h|h)|h
    ·simp_all
    ·simp_all
    ·simp_all
   ·simp_all
  ·exact .inr ⟨e',by simp[he'],h1,h2⟩
def mJ:∀ (l:List Oper) (acc:List Nat),(∀ j,l[j]? = ops[acc.length+j]?)->(∀ j i,(acc.getD j 0).testBit i=true->Reach ops j i)->∀ j i,((w3 l acc).getD j 0).testBit i=true->Reach ops j i
 | [],_,_,h=>h
 | o::l,acc,hl,h=>by
  have h0:ops[acc.length]? = some o:=by simpa using (hl 0).symm
  refine mJ l (acc++[QC acc o]) (λj=>by have:=hl (j+1);simpa [Nat.add_assoc,Nat.add_comm 1 j] using this) ?_;intro j i hb;by_cases hj:j<acc.length
  ·have e:(acc++[QC acc o]).getD j 0=acc.getD j 0:=by simp[List.getElem?_append_left hj]
   simp_all
  ·by_cases hj':j=acc.length
   ·subst hj';simp at hb;rcases PK acc i _ _ hb with hb|⟨e,he,h1,h2⟩
    ·simp at hb
    ·have he':e∈o.after:=by simpa using he
     rcases h2 with rfl|h2
     ·exact .direct h0 he' h1
     ·exact .step h0 he' h1 (h _ _ h2)
   ·have e:(acc++[QC acc o]).getD j 0=0:=by
     simp[List.getElem?_eq_none (show (acc++[QC acc o]).length<=j by simp;omega)]
    simp_all
def kW (E:Env) (op:Op):Bool :=
 match op with
 | .buildSlice t _ _=>!E.marked t
 | .makeSlice t _ _=>E.still t
 | .convert src _ _=>!E.marked (6000000000+src)
 | .move _ | .assign _ | .pick .. | .build .. | .binOp .. | .unOp .. | .fieldAddr .. | .field .. | .index .. | .extract .. => true
 | _=>false
def A8B (E:Env) (ops:Array Oper) (ms:List Nat) (k j:Nat):Bool :=
 (ms.getD j 0).testBit k||(match ops[k]?,ops[j]? with
  | some a,some b=>a.apart ops b&&((eF E a.op&&eF E b.op)||kW E a.op||kW E b.op)
  | _,_=>false)
def uU (E:Env) (ops:Array Oper) (ms:List Nat):Nat->Nat->Array Bool->Bool
 | 0,_,listed=>(Region.ready .any ops listed).isEmpty
 | f+1,k,listed=>(Region.ready .any ops listed).contains k&&(List.range ops.size).all (λj=>decide (j<=k)||A8B E ops ms k j)&&uU E ops ms f (k+1) (listed.setIfInBounds k true)
def sJ (E:Env) (ops:Array Oper):Bool:=uU E ops (w3 ops.toList []) ops.size 0 (Array.replicate ops.size false)
def SJ (P:Program) (E:Env) (nt:Nat) (ops:Array Oper) (Q:St->Prop):Nat->Array Bool->St->Prop
 | 0,listed,st=>Region.ready .any ops listed=[]/\Q st
 | f+1,listed,st=>(Region.ready .any ops listed=[]->Q st)/\∀ i∈Region.ready .any ops listed,∃ o st',ops[i]? = some o/\fD P E nt ops o st=some st'/\SJ P E nt ops Q f (listed.setIfInBounds i true) st'
def LU (hE:aQ cx.P E) {Q:St->Prop} {Q':Exit->Act->World->Prop} (hQ:∀ st ρ a w,Q st->Rel cx nt ρ st a w->Q' .normal a w):∀ (f:Nat) (listed:Array Bool) (st:St) (ρ:Nat->Option Loc) (a:Act) (w:World),Rel cx nt ρ st a w ->
  SJ cx.P E nt ops Q f listed st->wpAny cx.P .any ops Q' f listed a w
 | 0,_,st,ρ,a,w,hr,h=>⟨h.1,hQ st ρ a w h.2 hr⟩
 | f+1,listed,st,ρ,a,w,hr,h=>by
  refine ⟨λh0=>hQ st ρ a w (h.1 h0) hr,λi hi=>?_⟩;obtain ⟨o,st',h0,h1,h2⟩:=h.2 i hi;unfold wpOp;have:=AI (Q:=Q') hE hr h1 (K:=wpAny cx.P .any ops Q' f (listed.setIfInBounds i true)) (λρ' a' w' hr'=>LU hE hQ f _ st' ρ' a' w' hr' h2)
  grind
variable {s':Nat->D}
def E3 {s:Nat->D} {x:Operand} (h:∀ t,x = .tmp t->s t=s' t):ev s x=ev s' x:=by
 cases x with
 | tmp t=>exact h t rfl
 | _=>rfl
def AR {s:Nat->D} {xs:List Operand} (h:∀ x∈xs,ev s x=ev s' x):xs.map (ev s)=xs.map (ev s'):=List.map_congr_left h
variable {P:Program}{σ:Nat->Option bE}
def A8K {n:Nat} {s₀ s₀' s:Nat->D} {cg:Bool} {op:Op} (h₀:∀ x∈op.operands,ev s₀ x=ev s₀' x) (h:∀ x∈op.operands,ev s x=ev s' x):qv P E n σ s₀ s cg op=qv P E n σ s₀' s' cg op:=by
 cases op<;>simp only[Op.operands] at h h₀<;>simp only[qv]
 case move x=>rw[h x (by simp)]
 case assign x=>rw[h x (by simp)]
 case pick c a b=>rw[h c (by simp),h a (by simp),h b (by simp),h₀ a (by simp),h₀ b (by simp)]
 case build t parts =>
  have:(parts.toList.map λx=>(x.1,ev s x.2))=parts.toList.map λx=>(x.1,ev s' x.2):=List.map_congr_left λx hx=>by rw[h x.2 (by simp;exact ⟨x.1,by simpa using hx⟩)]
  rw[this]
 case buildSlice t n parts =>
  have:(parts.toList.map λx=>(x.1,ev s x.2))=parts.toList.map λx=>(x.1,ev s' x.2):=List.map_congr_left λx hx=>by rw[h x.2 (by simp;exact ⟨x.1,by simpa using hx⟩)]
  rw[this]
 case makeSlice t l c=>rw[h l (by simp),h c (by simp)]
 case load t a=>rw[h a (by simp)]
 case binOp op t x y u=>rw[h x (by simp),h y (by simp)]
 case unOp op t x=>rw[h x (by simp)]
 case convert a b x=>rw[h x (by simp)]
 case makeFunc f first cap =>
  cases f<;>try rfl
  simp only;rw[AR (s:=s) (s':=s') (xs:=first.toList) (λx hx=>h x (by simp;exact .inl (by simpa using hx))),AR (s:=s) (s':=s') (xs:=cap.toList) (λx hx=>h x (by simp;exact .inr (by simpa using hx)))]
 case slice t x lo hi mx =>
  have hm:∀ (o:Option Operand),(∀ y,o=some y->ev s y=ev s' y)->o.map (ev s)=o.map (ev s'):=by
   intro o ho;cases o with
   | none=>rfl
   | some y=>simp[ho y rfl]
  simp_all
 case fieldAddr t x i=>rw[h x (by simp)]
 case field t x i=>rw[h x (by simp)]
 case indexAddr t x i=>rw[h x (by simp),h i (by simp)]
 case index t x i=>rw[h x (by simp),h i (by simp)]
 case extract x i=>rw[h x (by simp)]
 case lookup t x i ok=>rw[h x (by simp),h i (by simp)]
 case nilCheck x=>rw[h x (by simp)]
 case call c =>
  have hargs:∀ x∈c.args.toList,ev s x=ev s' x:=λx hx=>h x (by simp[Call.operands];exact .inr (by simpa using hx));have hmap:=AR hargs;split
  ·split
   ·simp_all
   ·rfl
  ·rw[hmap]
  ·rw[hmap]
  ·rename_i f hf;rw[hmap,h f (by simp[Call.operands,hf])]
  ·rfl
def nA {s:Nat->D} {o:Oper} (h:∀ t∈o.looksAt ops,s t=s' t):gI ops s o=gI ops s' o:=by
 unfold gI;cases hg:o.guard with
 | none=>rfl
 | some gw =>
  obtain ⟨j,want⟩:=gw;simp only;cases ht:(ops[j]?).bind (·.dst) with
  | none=>rfl
  | some t =>
   simp only;rw[h t (by simp[Oper.looksAt,hg,ht])]
def kH {n:Nat} {s:Nat->D} {o:Oper} (h:∀ t∈o.looksAt ops,s t=s' t):gY P E ops n σ s o=gY P E ops n σ s' o:=by
 unfold gY;rw[nA h];cases gI ops s' o with
 | none=>rfl
 | some c =>
  cases c with
  | false=>rfl
  | true =>
  rw[A8K (s₀:=s) (s₀':=s') (s:=cD true s) (s':=cD true s') (λx hx=>E3 λt ht=>by
   subst ht;exact h t (by simp[Oper.looksAt];exact .inl ⟨.tmp t,by simpa using hx,rfl⟩)) (λx hx=>E3 λt ht=>by
   subst ht;simp only[cD];rw[h t (by simp[Oper.looksAt];exact .inl ⟨.tmp t,by simpa using hx,rfl⟩)])]
variable {oi oj:Oper}{st₁ st₂:St}
def AMK (hi:eF E oi.op=true) (hj:eF E oj.op=true) (hap:oi.apart ops oj=true) (h1:fD P E nt ops oi st=some st₁) (h2:fD P E nt ops oj st₁=some st₂) :
  ∃ st₃,fD P E nt ops oj st=some st₃/\fD P E nt ops oi st₃=some st₂:=by
 obtain ⟨a1,a2,a3⟩:=Oper.apart_spec hap;unfold fD at h1 h2 ⊢;simp only[hi,hj,if_true] at h1 h2 ⊢;split at h1
 ·rename_i d hd;unfold rN at h1;cases hdi:oi.dst with
  | none =>
   simp only[hdi] at h1;cases h1;simp only[] at h2;refine ⟨st₂,h2,?_⟩;split at h2
   ·rename_i e he;unfold rN at h2;cases hdj:oj.dst with
    | none=>simp only[hdj] at h2;cases h2;simp only[hd,rN,hdi]
    | some t =>
     simp only[hdj] at h2;split at h2
     ·cases h2;have:gY P E ops st.n st.σ (b8 st.s t e) oi=some d:=by
       rw[<-hd];exact kH λu hu=>bL _ _ (λeq=>a3 t hdj (eq ▸ hu))
      simp only[this,rN,hdi]
     ·cases h2
   ·cases h2
  | some t =>
   simp only[hdi] at h1;split at h1
   ·rename_i htn;cases h1;simp only at h2;split at h2
    ·rename_i e he;have he':gY P E ops st.n st.σ st.s oj=some e:=by
      rw[<-he];exact (kH λu hu=>(bL _ _ (λ(eq:u=t)=>a1 t hdi (by rw[<-eq];exact hu))).symm)
     simp only[he'];unfold rN at h2 ⊢;cases hdj:oj.dst with
     | none =>
      simp only[hdj] at h2;cases h2;exact ⟨_,rfl,by simp only[hd,hdi,htn,if_true]⟩
     | some t' =>
      simp only[hdj] at h2;split at h2
      ·rename_i htn';cases h2;refine ⟨⟨b8 st.s t' e,st.σ,st.n⟩,by simp only[htn',if_true],?_⟩;have:gY P E ops st.n st.σ (b8 st.s t' e) oi=some d:=by
        rw[<-hd];exact kH λu hu=>bL _ _ (λeq=>a3 t' hdj (eq ▸ hu))
       have hne:t'≠t:=λeq=>a2 t hdi (eq ▸ hdj);simp only[this,hdi,htn,if_true];rw[HC _ _ _ hne]
      ·cases h2
    ·cases h2
   ·cases h1
 ·cases h1
def pS {op:Op} (h:kW E op=true):eF E op=true:=by
 cases op<;>simp[kW] at h<;>first|rfl|simp[eF,h]
def Y5 {op:Op} (h:kW E op=true) (n n':Nat) (σ σ':Nat->Option bE) (s₀ s:Nat->D) (cg:Bool):qv P E n σ s₀ s cg op=qv P E n' σ' s₀ s cg op:=by
 cases op<;>simp[kW] at h<;>first
  | rfl
  | (simp only[qv,h])
def QL {s:Nat->D} {k:Nat} {op:Op} (h:∀ x∈op.operands,ev s x=ev s' x):nv P E σ s k op=nv P E σ s' k op:=by
 cases op<;>simp only[Op.operands] at h<;>simp only[nv]
 case box t x=>rw[h x (by simp)]
 case store t a v=>rw[h a (by simp),h v (by simp)]
 case range t x=>rw[h x (by simp)]
 case next it b=>rw[h it (by simp)]
 case makeMap t r=>cases r with
  | none=>rfl
  | some r=>simp only;rw[h r (by simp)]
 case makeSlice t l c=>rw[h l (by simp),h c (by simp)]
 case buildSlice t n parts =>
  have:(parts.toList.map λx=>(x.1,ev s x.2))=parts.toList.map λx=>(x.1,ev s' x.2):=List.map_congr_left λx hx=>by rw[h x.2 (by simp;exact ⟨x.1,by simpa using hx⟩)]
  rw[this]
 case mapUpdate t m i v=>rw[h m (by simp),h i (by simp),h v (by simp)]
 case insert t m i v=>rw[h m (by simp),h i (by simp),h v (by simp)]
 case mapEntry t m i=>rw[h m (by simp),h i (by simp)]
 case entryStore t m i v=>rw[h m (by simp),h i (by simp),h v (by simp)]
 case entry it=>rw[h it (by simp)]
 case call c =>
  have hargs:∀ x∈c.args.toList,ev s x=ev s' x:=λx hx=>h x (by simp[Call.operands];exact .inr (by simpa using hx));split
  ·simp_all
  ·rename_i f hc;rw[AR hargs,h f (by simp[Call.operands,hc])]
  ·simp_all
  ·rfl
def H6 (P:Program) (E:Env) (ops:Array Oper) (o:Oper) (s:Nat->D) (σ:Nat->Option bE) (n:Nat):Option (D×(Nat->Option bE)×Nat) :=
 if eF E o.op=true then (gY P E ops n σ s o).map λd=>(d,σ,n)
 else match gI ops s o with
  | some true=>nv P E σ (cD true s) n o.op
  | some false=>some (.p (.v undef),σ,n)
  | none=>none
def AH {o:Oper}:fD P E nt ops o st=(H6 P E ops o st.s st.σ st.n).bind λx=>rN nt st o.dst x.1 x.2.1 x.2.2:=by
 unfold fD H6
 grind
def O0 {o:Oper} {s:Nat->D} {n:Nat} (h:∀ t∈o.looksAt ops,s t=s' t):H6 P E ops o s σ n=H6 P E ops o s' σ n:=by
 unfold H6;rw[kH h,nA h];rw[QL (s:=cD true s) (s':=cD true s') (λx hx=>E3 λt ht=>by
   subst ht;simp only[cD];rw[h t (by simp[Oper.looksAt];exact .inl ⟨.tmp t,by simpa using hx,rfl⟩)])]
def AQ {o:Oper} (hf:kW E o.op=true) {s:Nat->D} (σ σ₀:Nat->Option bE) (n n₀:Nat):H6 P E ops o s σ n=(H6 P E ops o s σ₀ n₀).map λx=>(x.1,σ,n):=by
 unfold H6;rw[if_pos (pS hf),if_pos (pS hf)];have:gY P E ops n σ s o=gY P E ops n₀ σ₀ s o:=by
  unfold gY;cases gI ops s o with
  | none=>rfl
  | some c=>cases c<;>simp only[Y5 hf n n₀ σ σ₀]
 rw[this];cases gY P E ops n₀ σ₀ s o<;>rfl
def tJ (s:Nat->D) (dst:Option Tmp) (d:D):Nat->D:=match dst with|some t=>b8 s t d|none=>s
variable {dst:Option Tmp}{σ':Nat->Option bE}{n':Nat}
def sK {d:D} (h:rN nt st dst d σ' n'=some st'):(∀ t,dst=some t->t<nt)/\st'=⟨tJ st.s dst d,σ',n'⟩:=by
 unfold rN at h;cases dst with
 | none=>cases h;exact ⟨λt ht=>by simp at ht,rfl⟩
 | some u =>
  simp only at h;split at h
  ·rename_i hlt;cases h;exact ⟨λt ht=>by cases ht;exact hlt,rfl⟩
  ·cases h
def wF {d:D} (h:∀ t,dst=some t->t<nt):rN nt st dst d σ' n'=some ⟨tJ st.s dst d,σ',n'⟩:=by
 unfold rN tJ
 grind
def AUO (hf:kW E oi.op=true\/kW E oj.op=true) (hap:oi.apart ops oj=true) (h1:fD P E nt ops oi st=some st₁) (h2:fD P E nt ops oj st₁=some st₂) :
  ∃ st₃,fD P E nt ops oj st=some st₃/\fD P E nt ops oi st₃=some st₂:=by
 obtain ⟨a1,a2,a3⟩:=Oper.apart_spec hap;rw[AH,Option.bind_eq_some_iff] at h1 h2;obtain ⟨⟨di,σi,ni⟩,e1,p1⟩:=h1;obtain ⟨⟨dj,σj,nj⟩,e2,p2⟩:=h2;obtain ⟨l1,rfl⟩:=sK p1;obtain ⟨l2,rfl⟩:=sK p2;have c2:∀ σ n,H6 P E ops oj (tJ st.s oi.dst di) σ n=H6 P E ops oj st.s σ n:=λσ n=>O0 λu hu=>by
  cases hd:oi.dst with
  | none=>rfl
  | some t=>exact bL _ _ (λ(eq:u=t)=>a1 t hd (by rw[<-eq];exact hu))
 have c1:∀ σ n,H6 P E ops oi (tJ st.s oj.dst dj) σ n=H6 P E ops oi st.s σ n:=λσ n=>O0 λu hu=>by
  cases hd:oj.dst with
  | none=>rfl
  | some t=>exact bL _ _ (λ(eq:u=t)=>a3 t hd (by rw[<-eq];exact hu))
 have cu:∀ (σ:Nat->Option bE) (n:Nat),(⟨tJ (tJ st.s oj.dst dj) oi.dst di,σ,n⟩:St)=⟨tJ (tJ st.s oi.dst di) oj.dst dj,σ,n⟩:=by
  intro σ n;cases hdi:oi.dst with
  | none=>rfl
  | some t =>
   cases hdj:oj.dst with
   | none=>rfl
   | some t' =>
    simp only[tJ];rw[HC _ _ _ (λ(eq:t'=t)=>a2 t hdi (eq ▸ hdj))]
 simp only[] at e2;rw[c2] at e2;rcases hf with hf|hf
 ·
  rw[AQ hf st.σ st.σ st.n st.n] at e1;simp only[aa,Prod.mk.injEq] at e1;obtain ⟨x,ex,ed,eσ,en⟩:=e1;subst eσ en ed;refine ⟨_,by rw[AH,e2];exact wF l2,?_⟩;rw[AH];simp only[];rw[c1,AQ hf σj st.σ nj st.n,ex];refine (wF l1).trans ?_;exact congrArg some (cu σj nj)
 ·
  rw[AQ hf σi st.σ ni st.n] at e2;simp only[aa,Prod.mk.injEq] at e2;obtain ⟨x,ex,ed,eσ,en⟩:=e2;subst eσ en ed;have ex':H6 P E ops oj st.s st.σ st.n=some (x.1,st.σ,st.n):=by
   rw[AQ hf st.σ st.σ st.n st.n,ex];rfl
  refine ⟨_,by rw[AH,ex'];exact wF l2,?_⟩;rw[AH];simp only[];rw[c1,e1];refine (wF l1).trans ?_;exact congrArg some (cu σi ni)
def iZ {listed:Array Bool} (hc:qL ops listed) {i:Nat} (hi:i∈Region.ready .any ops listed):qL ops (listed.setIfInBounds i true):=by
 obtain ⟨_,o,ho,hall⟩:=mem_ready.1 hi;intro m om hom hm e he hb;by_cases hmi:i=m
 ·subst hmi;rw[ho] at hom;cases hom;exact getD_set_true (hall e he hb)
 ·rw[getD_set_ne false hmi] at hm;exact getD_set_true (hc m om hom hm e he hb)
def AJF {Q:St->Prop} {i:Nat} (hi:ops[i]? = some oi) :
  ∀ (f:Nat) (listed:Array Bool) (st st₁:St),qL ops listed ->
   (∀ j oj,ops[j]? = some oj->j≠i->listed.getD j true=false->Reach ops j i\/(((eF E oi.op=true/\eF E oj.op=true)\/kW E oi.op=true\/kW E oj.op=true)/\oi.apart ops oj=true)) ->
   i∈Region.ready .any ops listed->fD P E nt ops oi st=some st₁ ->
   SJ P E nt ops Q f (listed.setIfInBounds i true) st₁->SJ P E nt ops Q (f+1) listed st:=by
 intro f
 induction f with
 | zero =>
  intro listed st st₁ _ _ hr hs H;refine ⟨λh=>(by rw[h] at hr;cases hr),λj hj=>?_⟩;by_cases hji:j=i
  ·simp_all
  ·have:=ready_mono hj hji;rw[H.1] at this;cases this
 | succ f ih =>
  intro listed st st₁ hc hfree hr hs H;refine ⟨λh=>(by rw[h] at hr;cases hr),λj hj=>?_⟩;by_cases hji:j=i
  ·simp_all
  ·obtain ⟨oj,st₂,hoj,h2,H2⟩:=H.2 j (ready_mono hj hji);obtain ⟨hjun,oj',hoj',hall⟩:=mem_ready.1 hj;rw[hoj] at hoj';cases hoj';have hiun:=(mem_ready.1 hr).1;rcases hfree j oj hoj hji hjun with hre|⟨q,hap⟩
   ·have:=hre.listed hc (λo ho e he hb=>by rw[hoj] at ho;cases ho;exact hall e he hb);rcases Nat.lt_or_ge i listed.size with h'|h'
    ·simp_all
    ·simp_all
   ·obtain ⟨st₃,h3,h4⟩:∃ st₃,fD P E nt ops oj st=some st₃/\fD P E nt ops oi st₃=some st₂:=by
     rcases q with ⟨q1,q2⟩|q
     ·exact AMK q1 q2 hap hs h2
     ·exact AUO q hap hs h2
    refine ⟨oj,st₃,hoj,h3,ih (listed.setIfInBounds j true) st₃ st₂ (iZ hc hj) (λk ok hk hki hun=>?_) (ready_mono hr (Ne.symm hji)) h4 ?_⟩
    ·by_cases hjk:j=k
     ·simp_all
     ·simp_all
    ·rw[Array.setIfInBounds_comm _ _ hji];exact H2
def ABX {P:Program} {Q:St->Prop} {ms:List Nat} (hms:∀ j i,(ms.getD j 0).testBit i=true->Reach ops j i) {st':St} (hQ:Q st'):∀ (l:List Oper) (k:Nat) (listed:Array Bool) (st:St),(∀ j,l[j]? = ops[k+j]?)->qL ops listed ->
  (∀ j,j<k->listed.getD j true=true)->uU E ops ms l.length k listed=true->evL P E nt ops l st=some st'->SJ P E nt ops Q l.length listed st
 | [],_,_,st,_,_,_,hB,h=>by
  cases h;exact ⟨by simpa [uU] using hB,hQ⟩
 | o::l,k,listed,st,hl,hc,hlow,hB,h=>by
  have h0:ops[k]? = some o:=by simpa using (hl 0).symm
  simp only[List.length_cons,uU,ac] at hB;obtain ⟨⟨hr,hf⟩,hB'⟩:=hB;have hr':k∈Region.ready .any ops listed:=by simpa using hr
  simp only[evL,Option.bind_eq_some_iff] at h;obtain ⟨st1,h1,h2⟩:=h;refine AJF h0 l.length listed st st1 hc (λj oj hoj hjk hun=>?_) hr' h1 (ABX hms hQ l (k+1) _ st1 (λj=>by have:=hl (j+1);simpa [Nat.add_assoc,Nat.add_comm 1 j] using this) (iZ hc hr') (λj hj=>?_) hB' h2)
  ·have hjs:j<ops.size:=(Array.getElem?_eq_some_iff.1 hoj).1;have:=List.all_eq_true.1 hf j (by simpa using hjs);simp only[Bool.or_eq_true,ae] at this;rcases this with hle|hp
   ·have:j<k:=by omega
    simp_all
   ·unfold A8B at hp;simp only[Bool.or_eq_true] at hp;rcases hp with hp|hp
    ·simp_all
    ·rw[h0,hoj] at hp;simp only[ac,Bool.or_eq_true] at hp;obtain ⟨hp1,(hp2|hp2)|hp2⟩:=hp
     ·simp_all
     ·simp_all
     ·simp_all
  ·by_cases e:k=j
   ·simp_all
   ·rw[getD_set_ne true e];exact hlow j (by omega)
def AN8 (hE:aQ cx.P E) (hm:cx.P.follows .mixedOrders=true) {id:Nat} (hB:sJ E ops=true) (h:evL cx.P E nt ops ops.toList st=some st') (hq:Q .normal st'):AW cx nt (.region id ops true) Q st:=by
 intro ρ a w hr;refine wp_region_any hm ?_;have hd:Below w.heap.size w w.drew:=(Below.refl _ _).drew;have hr':Rel cx nt ρ st a w.drew:=⟨hr.inv.grow hd (ak _),hr.nt,hr.defers,hr.keeps.trans' (bO.gM hd),hr.pR.below hd,λi=>(hr.nF i).grow hd⟩
 have hlex:=ABX (P:=cx.P) (E:=E) (nt:=nt) (Q:=λs=>s=st') (ms:=w3 ops.toList []) (λj i hb=>mJ ops.toList [] (by simp) (λj i hb=>by simp at hb) j i hb) rfl ops.toList 0 (Array.replicate ops.size false) st (by simp)
  (λm o _ hm'=>by simp[Array.getElem?_replicate] at hm';split at hm'<;>simp at hm') (λj hj=>by omega) (by simpa [sJ] using hB) h
 exact LU (Q:=λs=>s=st') (Q':=sV cx nt Q) hE (λs ρ a w hs hr=>by subst hs;exact ⟨s,ρ,hr,hq⟩) ops.size (Array.replicate ops.size false) st ρ a w.drew hr' (by simpa using hlex)
end
end Go.Pv
