/-
  The pure evaluator, part m: regions, in the order of the text and in whatever order they draw; the rules of control.
-/
import Derived.Test.YtcnfagefgkblkaaGreatDoorVswl
import Derived.LoopN
set_option linter.defProp false
set_option linter.unusedSimpArgs false
namespace Go.Pv
open Go Go.RowKit
def evL (P:Program) (E:Env) (nt:Nat) (ops:Array Oper):List Oper→St→Option St
 | [],st=>some st
 | o::r,st=>(eG P E nt ops o st).bind (evL P E nt ops r)
def q0 (cx:Cx) (nt:Nat) (Q:Exit→St→Prop):Exit→Act→World→Prop:=fun e a w=>∃ st ρ,Rel cx nt ρ st a w∧Q e st
def AW (cx:Cx) (nt:Nat) (c:Code) (Q:Exit→St→Prop) (st:St):Prop:=∀ ρ a w,Rel cx nt ρ st a w→c.wp cx.P (q0 cx nt Q) a w
section
variable {cx : Cx} {nt : Nat} {E : Env} {ops : Array Oper}
theorem ADO (hE:aQ cx.P E) {Q:Exit→Act→World→Prop} {st':St} (hQ:∀ ρ a w,Rel cx nt ρ st' a w→Q .normal a w):∀ (l:List Oper) (k:Nat) (st:St) (ρ:Nat→Option Loc) (a:Act) (w:World),(∀ j,l[j]? = ops[k+j]?)→Rel cx nt ρ st a w →
  evL cx.P E nt ops l st=some st'→wpOps cx.P ops Q (List.range' k l.length) a w
 | [],_,st,ρ,a,w,_,hr,h=>by
  simp only[evL] at h
  cases h
  simpa [wpOps] using hQ ρ a w hr
 | o::l,k,st,ρ,a,w,hl,hr,h=>by
  simp only[evL,Option.bind_eq_some_iff] at h
  obtain ⟨st1,h1,h2⟩:=h
  have h0:ops[k]? = some o:=by simpa using (hl 0).symm
  simp only[List.length_cons,List.range'_succ,wpOps_cons]
  unfold wpOp
  simp only[h0]
  have:=wX (Q:=Q) hE hr h1 (K:=wpOps cx.P ops Q (List.range' (k+1) l.length)) (fun ρ' a' w' hr'=>ADO hE hQ l (k+1) st1 ρ' a' w' (fun j=>by have:=hl (j+1);simpa [Nat.add_assoc,Nat.add_comm 1 j] using this) hr' h2)
  split
  ·rename_i hw;simp only[hw,if_true] at this;exact .inl this
  ·rename_i hw;simp only[hw] at this;exact this
theorem AJE (hE:aQ cx.P E) {id:Nat} {Q:Exit→St→Prop} {st st':St} (h:evL cx.P E nt ops ops.toList st=some st') (hq:Q .normal st'):AW cx nt (.region id ops false) Q st:=by
 intro ρ a w hr
 refine wp_region ?_
 have:=ADO (Q:=q0 cx nt Q) hE (fun ρ a w hr'=>⟨st',ρ,hr',hq⟩) ops.toList 0 st ρ a w (by simp) hr h
 rw[List.range_eq_range']
 simpa using this
inductive Reach (ops:Array Oper):Nat→Nat→Prop
 | direct {j:Nat} {o:Oper} {e:Edge}:ops[j]? = some o→e∈o.after→Region.binds .any e=true→Reach ops j e.on
 | step {j i:Nat} {o:Oper} {e:Edge}:ops[j]? = some o→e∈o.after→Region.binds .any e=true→Reach ops e.on i→Reach ops j i
def o2 (ops:Array Oper) (listed:Array Bool):Prop:=∀ m o,ops[m]? = some o→listed.getD m false=true→∀ e∈o.after,Region.binds .any e=true→listed.getD e.on false=true
theorem Reach.listed {listed:Array Bool} (hc:o2 ops listed) {j i:Nat} (h:Reach ops j i):(∀ o,ops[j]? = some o→∀ e∈o.after,Region.binds .any e=true→listed.getD e.on false=true)→listed.getD i false=true:=by
 induction h with
 | direct h1 h2 h3=>exact fun h=>h _ h1 _ h2 h3
 | step h1 h2 h3 _ ih=>exact fun h=>ih fun o ho=>hc _ o ho (h _ h1 _ h2 h3)
def LZ (acc:List Nat) (o:Oper):Nat:=o.after.toList.foldl (fun s e=>if Region.binds .any e then s ||| 2 ^ e.on ||| acc.getD e.on 0 else s) 0
def uL:List Oper→List Nat→List Nat
 | [],acc=>acc
 | o::r,acc=>uL r (acc++[LZ acc o])
theorem LB (acc:List Nat) (i:Nat):∀ (l:List Edge) (s:Nat),(l.foldl (fun s e=>if Region.binds .any e then s ||| 2 ^ e.on ||| acc.getD e.on 0 else s) s).testBit i=true →
  s.testBit i=true∨∃ e∈l,Region.binds .any e=true∧(e.on=i∨(acc.getD e.on 0).testBit i=true)
 | [],s,h=>.inl h
 | e::l,s,h=>by
  simp only[List.foldl_cons] at h
  rcases LB acc i l _ h with h|⟨e',he',h1,h2⟩
  ·split at h
   ·rename_i hb
    simp only[Nat.testBit_or,Bool.or_eq_true,Nat.testBit_two_pow,decide_eq_true_eq] at h
    rcases h with (h|h)|h
    ·exact .inl h
    ·exact .inr ⟨e,by simp,hb,.inl h⟩
    ·exact .inr ⟨e,by simp,hb,.inr h⟩
   ·exact .inl h
  ·exact .inr ⟨e',by simp[he'],h1,h2⟩
theorem lG:∀ (l:List Oper) (acc:List Nat),(∀ j,l[j]? = ops[acc.length+j]?)→(∀ j i,(acc.getD j 0).testBit i=true→Reach ops j i)→∀ j i,((uL l acc).getD j 0).testBit i=true→Reach ops j i
 | [],_,_,h=>h
 | o::l,acc,hl,h=>by
  have h0:ops[acc.length]? = some o:=by simpa using (hl 0).symm
  refine lG l (acc++[LZ acc o]) (fun j=>by have:=hl (j+1);simpa [Nat.add_assoc,Nat.add_comm 1 j] using this) ?_
  intro j i hb
  by_cases hj:j<acc.length
  ·have e:(acc++[LZ acc o]).getD j 0=acc.getD j 0:=by simp[List.getElem?_append_left hj]
   rw[e] at hb;exact h j i hb
  ·by_cases hj':j=acc.length
   ·subst hj'
    simp at hb
    rcases LB acc i _ _ hb with hb|⟨e,he,h1,h2⟩
    ·simp at hb
    ·have he':e∈o.after:=by simpa using he
     rcases h2 with rfl|h2
     ·exact .direct h0 he' h1
     ·exact .step h0 he' h1 (h _ _ h2)
   ·have e:(acc++[LZ acc o]).getD j 0=0:=by
     simp[List.getElem?_eq_none (show (acc++[LZ acc o]).length≤j by simp;omega)]
    rw[e] at hb;simp at hb
def jX (E:Env) (op:Op):Bool :=
 match op with
 | .buildSlice t _ _=>!E.marked t
 | .makeSlice t _ _=>E.still t
 | .convert src _ _=>!E.marked (6000000000+src)
 | .move _ | .assign _ | .pick .. | .build .. | .binOp .. | .unOp .. | .fieldAddr .. | .field .. | .index .. | .extract .. => true
 | _=>false
def AYD (E:Env) (ops:Array Oper) (ms:List Nat) (k j:Nat):Bool :=
 (ms.getD j 0).testBit k||(match ops[k]?,ops[j]? with
  | some a,some b=>a.apart ops b&&((dG E a.op&&dG E b.op)||jX E a.op||jX E b.op)
  | _,_=>false)
def sG (E:Env) (ops:Array Oper) (ms:List Nat):Nat→Nat→Array Bool→Bool
 | 0,_,listed=>(Region.ready .any ops listed).isEmpty
 | f+1,k,listed=>(Region.ready .any ops listed).contains k&&(List.range ops.size).all (fun j=>decide (j≤k)||AYD E ops ms k j)&&sG E ops ms f (k+1) (listed.setIfInBounds k true)
def qR (E:Env) (ops:Array Oper):Bool:=sG E ops (uL ops.toList []) ops.size 0 (Array.replicate ops.size false)
def NY (P:Program) (E:Env) (nt:Nat) (ops:Array Oper) (Q:St→Prop):Nat→Array Bool→St→Prop
 | 0,listed,st=>Region.ready .any ops listed=[]∧Q st
 | f+1,listed,st=>(Region.ready .any ops listed=[]→Q st)∧∀ i∈Region.ready .any ops listed,∃ o st',ops[i]? = some o∧eG P E nt ops o st=some st'∧NY P E nt ops Q f (listed.setIfInBounds i true) st'
theorem H3 (hE:aQ cx.P E) {Q:St→Prop} {Q':Exit→Act→World→Prop} (hQ:∀ st ρ a w,Q st→Rel cx nt ρ st a w→Q' .normal a w):∀ (f:Nat) (listed:Array Bool) (st:St) (ρ:Nat→Option Loc) (a:Act) (w:World),Rel cx nt ρ st a w →
  NY cx.P E nt ops Q f listed st→wpAny cx.P .any ops Q' f listed a w
 | 0,_,st,ρ,a,w,hr,h=>⟨h.1,hQ st ρ a w h.2 hr⟩
 | f+1,listed,st,ρ,a,w,hr,h=>by
  refine ⟨fun h0=>hQ st ρ a w (h.1 h0) hr,fun i hi=>?_⟩
  obtain ⟨o,st',h0,h1,h2⟩:=h.2 i hi
  unfold wpOp
  simp only[h0]
  have:=wX (Q:=Q') hE hr h1 (K:=wpAny cx.P .any ops Q' f (listed.setIfInBounds i true)) (fun ρ' a' w' hr'=>H3 hE hQ f _ st' ρ' a' w' hr' h2)
  split
  ·rename_i hw;simp only[hw,if_true] at this;exact .inl this
  ·rename_i hw;simp only[hw] at this;exact this
theorem BJ {s s':Nat→D} {x:Operand} (h:∀ t,x = .tmp t→s t=s' t):ev s x=ev s' x:=by
 cases x with
 | tmp t=>exact h t rfl
 | _=>rfl
theorem xA {s s':Nat→D} {xs:List Operand} (h:∀ x∈xs,ev s x=ev s' x):xs.map (ev s)=xs.map (ev s'):=List.map_congr_left h
theorem AYK {P:Program} {n:Nat} {σ:Nat→Option a6} {s₀ s₀' s s':Nat→D} {cg:Bool} {op:Op} (h₀:∀ x∈op.operands,ev s₀ x=ev s₀' x) (h:∀ x∈op.operands,ev s x=ev s' x):qv P E n σ s₀ s cg op=qv P E n σ s₀' s' cg op:=by
 cases op<;>simp only[Op.operands] at h h₀<;>simp only[qv]
 case move x=>rw[h x (by simp)]
 case assign x=>rw[h x (by simp)]
 case pick c a b=>rw[h c (by simp),h a (by simp),h b (by simp),h₀ a (by simp),h₀ b (by simp)]
 case build t parts =>
  have:(parts.toList.map fun x=>(x.1,ev s x.2))=parts.toList.map fun x=>(x.1,ev s' x.2):=List.map_congr_left fun x hx=>by rw[h x.2 (by simp;exact ⟨x.1,by simpa using hx⟩)]
  rw[this]
 case buildSlice t n parts =>
  have:(parts.toList.map fun x=>(x.1,ev s x.2))=parts.toList.map fun x=>(x.1,ev s' x.2):=List.map_congr_left fun x hx=>by rw[h x.2 (by simp;exact ⟨x.1,by simpa using hx⟩)]
  rw[this]
 case makeSlice t l c=>rw[h l (by simp),h c (by simp)]
 case load t a=>rw[h a (by simp)]
 case binOp op t x y u=>rw[h x (by simp),h y (by simp)]
 case unOp op t x=>rw[h x (by simp)]
 case convert a b x=>rw[h x (by simp)]
 case makeFunc f first cap =>
  cases f<;>try rfl
  simp only
  rw[xA (s:=s) (s':=s') (xs:=first.toList) (fun x hx=>h x (by simp;exact .inl (by simpa using hx))),xA (s:=s) (s':=s') (xs:=cap.toList) (fun x hx=>h x (by simp;exact .inr (by simpa using hx)))]
 case slice t x lo hi mx =>
  have hm:∀ (o:Option Operand),(∀ y,o=some y→ev s y=ev s' y)→o.map (ev s)=o.map (ev s'):=by
   intro o ho;cases o with
   | none=>rfl
   | some y=>simp[ho y rfl]
  rw[h x (by simp),hm lo (fun y hy=>h y (by subst hy;simp)),hm hi (fun y hy=>h y (by subst hy;simp)),hm mx (fun y hy=>h y (by subst hy;simp))]
 case fieldAddr t x i=>rw[h x (by simp)]
 case field t x i=>rw[h x (by simp)]
 case indexAddr t x i=>rw[h x (by simp),h i (by simp)]
 case index t x i=>rw[h x (by simp),h i (by simp)]
 case extract x i=>rw[h x (by simp)]
 case lookup t x i ok=>rw[h x (by simp),h i (by simp)]
 case nilCheck x=>rw[h x (by simp)]
 case call c =>
  have hargs:∀ x∈c.args.toList,ev s x=ev s' x:=fun x hx=>h x (by simp[Call.operands];exact .inr (by simpa using hx))
  have hmap:=xA hargs
  split
  ·split
   ·rename_i t x ht hx
    rw[hargs x (by rw[hx];simp)]
   ·rfl
  ·rw[hmap]
  ·rw[hmap]
  ·rename_i f hf
   rw[hmap,h f (by simp[Call.operands,hf])]
  ·rfl
theorem lZ {s s':Nat→D} {o:Oper} (h:∀ t∈o.looksAt ops,s t=s' t):eY ops s o=eY ops s' o:=by
 unfold eY
 cases hg:o.guard with
 | none=>rfl
 | some gw =>
  obtain ⟨j,want⟩:=gw
  simp only
  cases ht:(ops[j]?).bind (·.dst) with
  | none=>rfl
  | some t =>
   simp only
   rw[h t (by simp[Oper.looksAt,hg,ht])]
theorem jH {P:Program} {n:Nat} {σ:Nat→Option a6} {s s':Nat→D} {o:Oper} (h:∀ t∈o.looksAt ops,s t=s' t):fR P E ops n σ s o=fR P E ops n σ s' o:=by
 unfold fR
 rw[lZ h]
 cases eY ops s' o with
 | none=>rfl
 | some c =>
  cases c with
  | false=>rfl
  | true =>
  simp only
  rw[AYK (s₀:=s) (s₀':=s') (s:=bY true s) (s':=bY true s') (fun x hx=>BJ fun t ht=>by
   subst ht
   exact h t (by simp[Oper.looksAt];exact .inl ⟨.tmp t,by simpa using hx,rfl⟩)) (fun x hx=>BJ fun t ht=>by
   subst ht
   simp only[bY]
   rw[h t (by simp[Oper.looksAt];exact .inl ⟨.tmp t,by simpa using hx,rfl⟩)])]
theorem AFX {P:Program} {oi oj:Oper} {st st₁ st₂:St} (hi:dG E oi.op=true) (hj:dG E oj.op=true) (hap:oi.apart ops oj=true) (h1:eG P E nt ops oi st=some st₁) (h2:eG P E nt ops oj st₁=some st₂) :
  ∃ st₃,eG P E nt ops oj st=some st₃∧eG P E nt ops oi st₃=some st₂:=by
 obtain ⟨a1,a2,a3⟩:=Oper.apart_spec hap
 unfold eG at h1 h2 ⊢
 simp only[hi,hj,if_true] at h1 h2 ⊢
 split at h1
 ·rename_i d hd
  unfold pZ at h1
  cases hdi:oi.dst with
  | none =>
   simp only[hdi] at h1
   cases h1
   simp only[] at h2
   refine ⟨st₂,h2,?_⟩
   split at h2
   ·rename_i e he
    unfold pZ at h2
    cases hdj:oj.dst with
    | none=>simp only[hdj] at h2;cases h2;simp only[hd,pZ,hdi]
    | some t =>
     simp only[hdj] at h2
     split at h2
     ·cases h2
      have:fR P E ops st.n st.σ (bX st.s t e) oi=some d:=by
       rw[←hd]
       exact jH fun u hu=>bE _ _ (fun eq=>a3 t hdj (eq ▸ hu))
      simp only[this,pZ,hdi]
     ·cases h2
   ·cases h2
  | some t =>
   simp only[hdi] at h1
   split at h1
   ·rename_i htn
    cases h1
    simp only at h2
    split at h2
    ·rename_i e he
     have he':fR P E ops st.n st.σ st.s oj=some e:=by
      rw[←he]
      exact (jH fun u hu=>(bE _ _ (fun (eq:u=t)=>a1 t hdi (by rw[←eq];exact hu))).symm)
     simp only[he']
     unfold pZ at h2 ⊢
     cases hdj:oj.dst with
     | none =>
      simp only[hdj] at h2
      cases h2
      exact ⟨_,rfl,by simp only[hd,hdi,htn,if_true]⟩
     | some t' =>
      simp only[hdj] at h2
      split at h2
      ·rename_i htn'
       cases h2
       refine ⟨⟨bX st.s t' e,st.σ,st.n⟩,by simp only[htn',if_true],?_⟩
       have:fR P E ops st.n st.σ (bX st.s t' e) oi=some d:=by
        rw[←hd]
        exact jH fun u hu=>bE _ _ (fun eq=>a3 t' hdj (eq ▸ hu))
       have hne:t'≠t:=fun eq=>a2 t hdi (eq ▸ hdj)
       simp only[this,hdi,htn,if_true]
       rw[DW _ _ _ hne]
      ·cases h2
    ·cases h2
   ·cases h1
 ·cases h1
theorem oJ {op:Op} (h:jX E op=true):dG E op=true:=by
 cases op<;>simp[jX] at h<;>first|rfl|simp[dG,h]
theorem TS {P:Program} {op:Op} (h:jX E op=true) (n n':Nat) (σ σ':Nat→Option a6) (s₀ s:Nat→D) (cg:Bool):qv P E n σ s₀ s cg op=qv P E n' σ' s₀ s cg op:=by
 cases op<;>simp[jX] at h<;>first
  | rfl
  | (simp only[qv,h])
theorem L7 {P:Program} {σ:Nat→Option a6} {s s':Nat→D} {k:Nat} {op:Op} (h:∀ x∈op.operands,ev s x=ev s' x):nv P E σ s k op=nv P E σ s' k op:=by
 cases op<;>simp only[Op.operands] at h<;>simp only[nv]
 case box t x=>rw[h x (by simp)]
 case store t a v=>rw[h a (by simp),h v (by simp)]
 case range t x=>rw[h x (by simp)]
 case next it b=>rw[h it (by simp)]
 case makeMap t r=>cases r with
  | none=>rfl
  | some r=>simp only;rw[h r (by simp)]
 case makeSlice t l c=>rw[h l (by simp),h c (by simp)]
 case buildSlice t n parts =>
  have:(parts.toList.map fun x=>(x.1,ev s x.2))=parts.toList.map fun x=>(x.1,ev s' x.2):=List.map_congr_left fun x hx=>by rw[h x.2 (by simp;exact ⟨x.1,by simpa using hx⟩)]
  rw[this]
 case mapUpdate t m i v=>rw[h m (by simp),h i (by simp),h v (by simp)]
 case insert t m i v=>rw[h m (by simp),h i (by simp),h v (by simp)]
 case mapEntry t m i=>rw[h m (by simp),h i (by simp)]
 case entryStore t m i v=>rw[h m (by simp),h i (by simp),h v (by simp)]
 case entry it=>rw[h it (by simp)]
 case call c =>
  have hargs:∀ x∈c.args.toList,ev s x=ev s' x:=fun x hx=>h x (by simp[Call.operands];exact .inr (by simpa using hx))
  split
  ·rename_i x y t u hc ha hat
   rw[hargs x (by rw[ha];simp),hargs y (by rw[ha];simp)]
  ·rename_i f hc
   rw[xA hargs,h f (by simp[Call.operands,hc])]
  ·rename_i x y t u hc ha hat
   rw[hargs x (by rw[ha];simp),hargs y (by rw[ha];simp)]
  ·rfl
def EP (P:Program) (E:Env) (ops:Array Oper) (o:Oper) (s:Nat→D) (σ:Nat→Option a6) (n:Nat):Option (D×(Nat→Option a6)×Nat) :=
 if dG E o.op=true then (fR P E ops n σ s o).map fun d=>(d,σ,n)
 else match eY ops s o with
  | some true=>nv P E σ (bY true s) n o.op
  | some false=>some (.p (.v undef),σ,n)
  | none=>none
theorem wW {P:Program} {o:Oper} {st:St}:eG P E nt ops o st=(EP P E ops o st.s st.σ st.n).bind fun x=>pZ nt st o.dst x.1 x.2.1 x.2.2:=by
 unfold eG EP
 split
 ·cases fR P E ops st.n st.σ st.s o<;>rfl
 ·cases eY ops st.s o with
  | none=>rfl
  | some c=>cases c with
   | false=>rfl
   | true =>
    simp only
    cases nv P E st.σ (bY true st.s) st.n o.op with
    | none=>rfl
    | some x=>obtain ⟨d,σ',n'⟩:=x;rfl
theorem KQ {P:Program} {o:Oper} {s s':Nat→D} {σ:Nat→Option a6} {n:Nat} (h:∀ t∈o.looksAt ops,s t=s' t):EP P E ops o s σ n=EP P E ops o s' σ n:=by
 unfold EP
 rw[jH h,lZ h]
 rw[L7 (s:=bY true s) (s':=bY true s') (fun x hx=>BJ fun t ht=>by
   subst ht
   simp only[bY]
   rw[h t (by simp[Oper.looksAt];exact .inl ⟨.tmp t,by simpa using hx,rfl⟩)])]
theorem w8 {P:Program} {o:Oper} (hf:jX E o.op=true) {s:Nat→D} (σ σ₀:Nat→Option a6) (n n₀:Nat):EP P E ops o s σ n=(EP P E ops o s σ₀ n₀).map fun x=>(x.1,σ,n):=by
 unfold EP
 rw[if_pos (oJ hf),if_pos (oJ hf)]
 have:fR P E ops n σ s o=fR P E ops n₀ σ₀ s o:=by
  unfold fR
  cases eY ops s o with
  | none=>rfl
  | some c=>cases c<;>simp only[TS hf n n₀ σ σ₀]
 rw[this]
 cases fR P E ops n₀ σ₀ s o<;>rfl
def p0 (s:Nat→D) (dst:Option Tmp) (d:D):Nat→D:=match dst with|some t=>bX s t d|none=>s
theorem qS {st st':St} {dst:Option Tmp} {d:D} {σ':Nat→Option a6} {n':Nat} (h:pZ nt st dst d σ' n'=some st'):(∀ t,dst=some t→t<nt)∧st'=⟨p0 st.s dst d,σ',n'⟩:=by
 unfold pZ at h
 cases dst with
 | none=>cases h;exact ⟨fun t ht=>by simp at ht,rfl⟩
 | some u =>
  simp only at h
  split at h
  ·rename_i hlt
   cases h;exact ⟨fun t ht=>by cases ht;exact hlt,rfl⟩
  ·cases h
theorem tQ {st:St} {dst:Option Tmp} {d:D} {σ':Nat→Option a6} {n':Nat} (h:∀ t,dst=some t→t<nt):pZ nt st dst d σ' n'=some ⟨p0 st.s dst d,σ',n'⟩:=by
 unfold pZ p0
 cases dst with
 | none=>rfl
 | some t=>simp[h t rfl]
theorem AMY {P:Program} {oi oj:Oper} {st st₁ st₂:St} (hf:jX E oi.op=true∨jX E oj.op=true) (hap:oi.apart ops oj=true) (h1:eG P E nt ops oi st=some st₁) (h2:eG P E nt ops oj st₁=some st₂) :
  ∃ st₃,eG P E nt ops oj st=some st₃∧eG P E nt ops oi st₃=some st₂:=by
 obtain ⟨a1,a2,a3⟩:=Oper.apart_spec hap
 rw[wW,Option.bind_eq_some_iff] at h1 h2
 obtain ⟨⟨di,σi,ni⟩,e1,p1⟩:=h1
 obtain ⟨⟨dj,σj,nj⟩,e2,p2⟩:=h2
 obtain ⟨l1,rfl⟩:=qS p1
 obtain ⟨l2,rfl⟩:=qS p2
 have c2:∀ σ n,EP P E ops oj (p0 st.s oi.dst di) σ n=EP P E ops oj st.s σ n:=fun σ n=>KQ fun u hu=>by
  cases hd:oi.dst with
  | none=>rfl
  | some t=>exact bE _ _ (fun (eq:u=t)=>a1 t hd (by rw[←eq];exact hu))
 have c1:∀ σ n,EP P E ops oi (p0 st.s oj.dst dj) σ n=EP P E ops oi st.s σ n:=fun σ n=>KQ fun u hu=>by
  cases hd:oj.dst with
  | none=>rfl
  | some t=>exact bE _ _ (fun (eq:u=t)=>a3 t hd (by rw[←eq];exact hu))
 have cu:∀ (σ:Nat→Option a6) (n:Nat),(⟨p0 (p0 st.s oj.dst dj) oi.dst di,σ,n⟩:St)=⟨p0 (p0 st.s oi.dst di) oj.dst dj,σ,n⟩:=by
  intro σ n
  cases hdi:oi.dst with
  | none=>rfl
  | some t =>
   cases hdj:oj.dst with
   | none=>rfl
   | some t' =>
    simp only[p0]
    rw[DW _ _ _ (fun (eq:t'=t)=>a2 t hdi (eq ▸ hdj))]
 simp only[] at e2
 rw[c2] at e2
 rcases hf with hf|hf
 ·
  rw[w8 hf st.σ st.σ st.n st.n] at e1
  simp only[Option.map_eq_some_iff,Prod.mk.injEq] at e1
  obtain ⟨x,ex,ed,eσ,en⟩:=e1
  subst eσ en ed
  refine ⟨_,by rw[wW,e2];exact tQ l2,?_⟩
  rw[wW]
  simp only[]
  rw[c1,w8 hf σj st.σ nj st.n,ex]
  refine (tQ l1).trans ?_
  exact congrArg some (cu σj nj)
 ·
  rw[w8 hf σi st.σ ni st.n] at e2
  simp only[Option.map_eq_some_iff,Prod.mk.injEq] at e2
  obtain ⟨x,ex,ed,eσ,en⟩:=e2
  subst eσ en ed
  have ex':EP P E ops oj st.s st.σ st.n=some (x.1,st.σ,st.n):=by
   rw[w8 hf st.σ st.σ st.n st.n,ex];rfl
  refine ⟨_,by rw[wW,ex'];exact tQ l2,?_⟩
  rw[wW]
  simp only[]
  rw[c1,e1]
  refine (tQ l1).trans ?_
  exact congrArg some (cu σi ni)
theorem iD {listed:Array Bool} (hc:o2 ops listed) {i:Nat} (hi:i∈Region.ready .any ops listed):o2 ops (listed.setIfInBounds i true):=by
 obtain ⟨_,o,ho,hall⟩:=mem_ready.1 hi
 intro m om hom hm e he hb
 by_cases hmi:i=m
 ·subst hmi
  rw[ho] at hom;cases hom
  exact getD_set_true (hall e he hb)
 ·rw[getD_set_ne false hmi] at hm
  exact getD_set_true (hc m om hom hm e he hb)
theorem AC2 {P:Program} {Q:St→Prop} {i:Nat} {oi:Oper} (hi:ops[i]? = some oi) :
  ∀ (f:Nat) (listed:Array Bool) (st st₁:St),o2 ops listed →
   (∀ j oj,ops[j]? = some oj→j≠i→listed.getD j true=false→Reach ops j i∨(((dG E oi.op=true∧dG E oj.op=true)∨jX E oi.op=true∨jX E oj.op=true)∧oi.apart ops oj=true)) →
   i∈Region.ready .any ops listed→eG P E nt ops oi st=some st₁ →
   NY P E nt ops Q f (listed.setIfInBounds i true) st₁→NY P E nt ops Q (f+1) listed st:=by
 intro f
 induction f with
 | zero =>
  intro listed st st₁ _ _ hr hs H
  refine ⟨fun h=>(by rw[h] at hr;cases hr),fun j hj=>?_⟩
  by_cases hji:j=i
  ·subst hji;exact ⟨oi,st₁,hi,hs,H⟩
  ·have:=ready_mono hj hji
   rw[H.1] at this
   cases this
 | succ f ih =>
  intro listed st st₁ hc hfree hr hs H
  refine ⟨fun h=>(by rw[h] at hr;cases hr),fun j hj=>?_⟩
  by_cases hji:j=i
  ·subst hji;exact ⟨oi,st₁,hi,hs,H⟩
  ·obtain ⟨oj,st₂,hoj,h2,H2⟩:=H.2 j (ready_mono hj hji)
   obtain ⟨hjun,oj',hoj',hall⟩:=mem_ready.1 hj
   rw[hoj] at hoj';cases hoj'
   have hiun:=(mem_ready.1 hr).1
   rcases hfree j oj hoj hji hjun with hre|⟨q,hap⟩
   ·exfalso
    have:=hre.listed hc (fun o ho e he hb=>by rw[hoj] at ho;cases ho;exact hall e he hb)
    rcases Nat.lt_or_ge i listed.size with h'|h'
    ·simp[h'] at hiun this;rw[hiun] at this;cases this
    ·simp[Array.getElem?_eq_none h'] at this
   ·obtain ⟨st₃,h3,h4⟩:∃ st₃,eG P E nt ops oj st=some st₃∧eG P E nt ops oi st₃=some st₂:=by
     rcases q with ⟨q1,q2⟩|q
     ·exact AFX q1 q2 hap hs h2
     ·exact AMY q hap hs h2
    refine ⟨oj,st₃,hoj,h3,ih (listed.setIfInBounds j true) st₃ st₂ (iD hc hj) (fun k ok hk hki hun=>?_) (ready_mono hr (Ne.symm hji)) h4 ?_⟩
    ·refine hfree k ok hk hki ?_
     by_cases hjk:j=k
     ·subst hjk;exact hjun
     ·rw[getD_set_ne true hjk] at hun;exact hun
    ·rw[Array.setIfInBounds_comm _ _ hji]
     exact H2
theorem WA {P:Program} {Q:St→Prop} {ms:List Nat} (hms:∀ j i,(ms.getD j 0).testBit i=true→Reach ops j i) {st':St} (hQ:Q st'):∀ (l:List Oper) (k:Nat) (listed:Array Bool) (st:St),(∀ j,l[j]? = ops[k+j]?)→o2 ops listed →
  (∀ j,j<k→listed.getD j true=true)→sG E ops ms l.length k listed=true→evL P E nt ops l st=some st'→NY P E nt ops Q l.length listed st
 | [],_,_,st,_,_,_,hB,h=>by
  simp only[evL] at h
  cases h
  exact ⟨by simpa [sG] using hB,hQ⟩
 | o::l,k,listed,st,hl,hc,hlow,hB,h=>by
  have h0:ops[k]? = some o:=by simpa using (hl 0).symm
  simp only[List.length_cons,sG,Bool.and_eq_true] at hB
  obtain ⟨⟨hr,hf⟩,hB'⟩:=hB
  have hr':k∈Region.ready .any ops listed:=by simpa using hr
  simp only[evL,Option.bind_eq_some_iff] at h
  obtain ⟨st1,h1,h2⟩:=h
  refine AC2 h0 l.length listed st st1 hc (fun j oj hoj hjk hun=>?_) hr' h1 (WA hms hQ l (k+1) _ st1 (fun j=>by have:=hl (j+1);simpa [Nat.add_assoc,Nat.add_comm 1 j] using this) (iD hc hr') (fun j hj=>?_) hB' h2)
  ·have hjs:j<ops.size:=(Array.getElem?_eq_some_iff.1 hoj).1
   have:=List.all_eq_true.1 hf j (by simpa using hjs)
   simp only[Bool.or_eq_true,decide_eq_true_eq] at this
   rcases this with hle|hp
   ·have:j<k:=by omega
    have:=hlow j this
    rw[hun] at this;cases this
   ·unfold AYD at hp
    simp only[Bool.or_eq_true] at hp
    rcases hp with hp|hp
    ·exact .inl (hms j k hp)
    ·rw[h0,hoj] at hp
     simp only[Bool.and_eq_true,Bool.or_eq_true] at hp
     obtain ⟨hp1,(hp2|hp2)|hp2⟩:=hp
     ·exact .inr ⟨.inl hp2,hp1⟩
     ·exact .inr ⟨.inr (.inl hp2),hp1⟩
     ·exact .inr ⟨.inr (.inr hp2),hp1⟩
  ·by_cases e:k=j
   ·subst e
    have hk:k<listed.size:=by
     rcases Nat.lt_or_ge k listed.size with h'|h'
     ·exact h'
     ·have:=(mem_ready.1 hr').1
      simp[Array.getElem?_eq_none h'] at this
    simp[hk]
   ·rw[getD_set_ne true e]
    exact hlow j (by omega)
theorem AG9 (hE:aQ cx.P E) (hm:cx.P.follows .mixedOrders=true) {id:Nat} {Q:Exit→St→Prop} {st st':St} (hB:qR E ops=true) (h:evL cx.P E nt ops ops.toList st=some st') (hq:Q .normal st'):AW cx nt (.region id ops true) Q st:=by
 intro ρ a w hr
 refine wp_region_any hm ?_
 have hd:Below w.heap.size w w.drew:=(Below.refl _ _).drew
 have hr':Rel cx nt ρ st a w.drew:=⟨hr.inv.grow hd (Nat.le_refl _),hr.nt,hr.defers,hr.keeps.trans' (bJ.fM hd),hr.oI.below hd,fun i=>(hr.l9 i).grow hd⟩
 have hlex:=WA (P:=cx.P) (E:=E) (nt:=nt) (Q:=fun s=>s=st') (ms:=uL ops.toList []) (fun j i hb=>lG ops.toList [] (by simp) (fun j i hb=>by simp at hb) j i hb) rfl ops.toList 0 (Array.replicate ops.size false) st (by simp)
  (fun m o _ hm'=>by simp[Array.getElem?_replicate] at hm';split at hm'<;>simp at hm') (fun j hj=>by omega) (by simpa [qR] using hB) h
 exact H3 (Q:=fun s=>s=st') (Q':=q0 cx nt Q) hE (fun s ρ a w hs hr=>by subst hs;exact ⟨s,ρ,hr,hq⟩) ops.size (Array.replicate ops.size false) st ρ a w.drew hr' (by simpa using hlex)
end
end Go.Pv
