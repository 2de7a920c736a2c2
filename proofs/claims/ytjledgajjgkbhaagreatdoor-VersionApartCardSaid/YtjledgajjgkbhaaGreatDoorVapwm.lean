/-
  The pure evaluator, part m: regions, in the order of the text and in whatever order they draw; the rules of control.
-/
import Derived.Test.YtjledgajjgkbhaaGreatDoorVapwl
import Derived.LoopN
set_option linter.defProp false
set_option linter.unusedSimpArgs false
namespace Go.Pv
open Go Go.RowKit
def evL (P:Program) (E:Env) (nt:Nat) (ops:Array Oper):List Oper→St→Option St
 | [],st=>some st
 | o::r,st=>(eZ P E nt ops o st).bind (evL P E nt ops r)
def sA (cx:Cx) (nt:Nat) (Q:Exit→St→Prop):Exit→Act→World→Prop:=fun e a w=>∃ st ρ,Rel cx nt ρ st a w∧Q e st
def AW (cx:Cx) (nt:Nat) (c:Code) (Q:Exit→St→Prop) (st:St):Prop:=∀ ρ a w,Rel cx nt ρ st a w→c.wp cx.P (sA cx nt Q) a w
section
variable {cx : Cx} {nt : Nat} {E : Env} {ops : Array Oper}
theorem AHC (hE:aT cx.P E) {Q:Exit→Act→World→Prop} {st':St} (hQ:∀ ρ a w,Rel cx nt ρ st' a w→Q .normal a w):∀ (l:List Oper) (k:Nat) (st:St) (ρ:Nat→Option Loc) (a:Act) (w:World),(∀ j,l[j]? = ops[k+j]?)→Rel cx nt ρ st a w →
  evL cx.P E nt ops l st=some st'→wpOps cx.P ops Q (List.range' k l.length) a w
 | [],_,st,ρ,a,w,_,hr,h=>by
  cases h
  simpa [wpOps] using hQ ρ a w hr
 | o::l,k,st,ρ,a,w,hl,hr,h=>by
  simp only[evL,Option.bind_eq_some_iff] at h
  obtain ⟨st1,h1,h2⟩:=h
  have h0:ops[k]? = some o:=by simpa using (hl 0).symm
  simp only[List.length_cons,List.range'_succ,wpOps_cons]
  unfold wpOp
  have:=yT (Q:=Q) hE hr h1 (K:=wpOps cx.P ops Q (List.range' (k+1) l.length)) (fun ρ' a' w' hr'=>AHC hE hQ l (k+1) st1 ρ' a' w' (fun j=>by have:=hl (j+1);simpa [Nat.add_assoc,Nat.add_comm 1 j] using this) hr' h2)
  grind
theorem ANE (hE:aT cx.P E) {id:Nat} {Q:Exit→St→Prop} {st st':St} (h:evL cx.P E nt ops ops.toList st=some st') (hq:Q .normal st'):AW cx nt (.region id ops false) Q st:=by
 intro ρ a w hr
 refine wp_region ?_
 have:=AHC (Q:=sA cx nt Q) hE (fun ρ a w hr'=>⟨st',ρ,hr',hq⟩) ops.toList 0 st ρ a w (by simp) hr h
 rw[List.range_eq_range']
 omega
inductive Reach (ops:Array Oper):Nat→Nat→Prop
 | direct {j:Nat} {o:Oper} {e:Edge}:ops[j]? = some o→e∈o.after→Region.binds .any e=true→Reach ops j e.on
 | step {j i:Nat} {o:Oper} {e:Edge}:ops[j]? = some o→e∈o.after→Region.binds .any e=true→Reach ops e.on i→Reach ops j i
def pZ (ops:Array Oper) (listed:Array Bool):Prop:=∀ m o,ops[m]? = some o→listed.getD m false=true→∀ e∈o.after,Region.binds .any e=true→listed.getD e.on false=true
theorem Reach.listed {listed:Array Bool} (hc:pZ ops listed) {j i:Nat} (h:Reach ops j i):(∀ o,ops[j]? = some o→∀ e∈o.after,Region.binds .any e=true→listed.getD e.on false=true)→listed.getD i false=true:=by
 induction h with
 | direct h1 h2 h3=>exact fun h=>h _ h1 _ h2 h3
 | step h1 h2 h3 _ ih=>exact fun h=>ih fun o ho=>hc _ o ho (h _ h1 _ h2 h3)
def OU (acc:List Nat) (o:Oper):Nat:=o.after.toList.foldl (fun s e=>if Region.binds .any e then s ||| 2 ^ e.on ||| acc.getD e.on 0 else s) 0
def wI:List Oper→List Nat→List Nat
 | [],acc=>acc
 | o::r,acc=>wI r (acc++[OU acc o])
theorem N7 (acc:List Nat) (i:Nat):∀ (l:List Edge) (s:Nat),(l.foldl (fun s e=>if Region.binds .any e then s ||| 2 ^ e.on ||| acc.getD e.on 0 else s) s).testBit i=true →
  s.testBit i=true∨∃ e∈l,Region.binds .any e=true∧(e.on=i∨(acc.getD e.on 0).testBit i=true)
 | [],s,h=>.inl h
 | e::l,s,h=>by
  simp only[List.foldl_cons] at h
  rcases N7 acc i l _ h with h|⟨e',he',h1,h2⟩
  ·split at h
   ·simp only[Nat.testBit_or,Bool.or_eq_true,Nat.testBit_two_pow,decide_eq_true_eq] at h
    rcases h with (h|h)|h
    ·simp_all
    ·simp_all
    ·simp_all
   ·simp_all
  ·exact .inr ⟨e',by simp[he'],h1,h2⟩
theorem mD:∀ (l:List Oper) (acc:List Nat),(∀ j,l[j]? = ops[acc.length+j]?)→(∀ j i,(acc.getD j 0).testBit i=true→Reach ops j i)→∀ j i,((wI l acc).getD j 0).testBit i=true→Reach ops j i
 | [],_,_,h=>h
 | o::l,acc,hl,h=>by
  have h0:ops[acc.length]? = some o:=by simpa using (hl 0).symm
  refine mD l (acc++[OU acc o]) (fun j=>by have:=hl (j+1);simpa [Nat.add_assoc,Nat.add_comm 1 j] using this) ?_
  intro j i hb
  by_cases hj:j<acc.length
  ·have e:(acc++[OU acc o]).getD j 0=acc.getD j 0:=by simp[List.getElem?_append_left hj]
   simp_all
  ·by_cases hj':j=acc.length
   ·subst hj'
    simp at hb
    rcases N7 acc i _ _ hb with hb|⟨e,he,h1,h2⟩
    ·simp at hb
    ·have he':e∈o.after:=by simpa using he
     rcases h2 with rfl|h2
     ·exact .direct h0 he' h1
     ·exact .step h0 he' h1 (h _ _ h2)
   ·have e:(acc++[OU acc o]).getD j 0=0:=by
     simp[List.getElem?_eq_none (show (acc++[OU acc o]).length≤j by simp;omega)]
    simp_all
def kU (E:Env) (op:Op):Bool :=
 match op with
 | .buildSlice t _ _=>!E.marked t
 | .makeSlice t _ _=>E.still t
 | .convert src _ _=>!E.marked (6000000000+src)
 | .move _ | .assign _ | .pick .. | .build .. | .binOp .. | .unOp .. | .fieldAddr .. | .field .. | .index .. | .extract .. => true
 | _=>false
def A1C (E:Env) (ops:Array Oper) (ms:List Nat) (k j:Nat):Bool :=
 (ms.getD j 0).testBit k||(match ops[k]?,ops[j]? with
  | some a,some b=>a.apart ops b&&((eG E a.op&&eG E b.op)||kU E a.op||kU E b.op)
  | _,_=>false)
def tV (E:Env) (ops:Array Oper) (ms:List Nat):Nat→Nat→Array Bool→Bool
 | 0,_,listed=>(Region.ready .any ops listed).isEmpty
 | f+1,k,listed=>(Region.ready .any ops listed).contains k&&(List.range ops.size).all (fun j=>decide (j≤k)||A1C E ops ms k j)&&tV E ops ms f (k+1) (listed.setIfInBounds k true)
def rS (E:Env) (ops:Array Oper):Bool:=tV E ops (wI ops.toList []) ops.size 0 (Array.replicate ops.size false)
def Q1 (P:Program) (E:Env) (nt:Nat) (ops:Array Oper) (Q:St→Prop):Nat→Array Bool→St→Prop
 | 0,listed,st=>Region.ready .any ops listed=[]∧Q st
 | f+1,listed,st=>(Region.ready .any ops listed=[]→Q st)∧∀ i∈Region.ready .any ops listed,∃ o st',ops[i]? = some o∧eZ P E nt ops o st=some st'∧Q1 P E nt ops Q f (listed.setIfInBounds i true) st'
theorem KS (hE:aT cx.P E) {Q:St→Prop} {Q':Exit→Act→World→Prop} (hQ:∀ st ρ a w,Q st→Rel cx nt ρ st a w→Q' .normal a w):∀ (f:Nat) (listed:Array Bool) (st:St) (ρ:Nat→Option Loc) (a:Act) (w:World),Rel cx nt ρ st a w →
  Q1 cx.P E nt ops Q f listed st→wpAny cx.P .any ops Q' f listed a w
 | 0,_,st,ρ,a,w,hr,h=>⟨h.1,hQ st ρ a w h.2 hr⟩
 | f+1,listed,st,ρ,a,w,hr,h=>by
  refine ⟨fun h0=>hQ st ρ a w (h.1 h0) hr,fun i hi=>?_⟩
  obtain ⟨o,st',h0,h1,h2⟩:=h.2 i hi
  unfold wpOp
  have:=yT (Q:=Q') hE hr h1 (K:=wpAny cx.P .any ops Q' f (listed.setIfInBounds i true)) (fun ρ' a' w' hr'=>KS hE hQ f _ st' ρ' a' w' hr' h2)
  grind
theorem D8 {s s':Nat→D} {x:Operand} (h:∀ t,x = .tmp t→s t=s' t):ev s x=ev s' x:=by
 cases x with
 | tmp t=>exact h t rfl
 | _=>rfl
theorem zB {s s':Nat→D} {xs:List Operand} (h:∀ x∈xs,ev s x=ev s' x):xs.map (ev s)=xs.map (ev s'):=List.map_congr_left h
theorem A1K {P:Program} {n:Nat} {σ:Nat→Option bB} {s₀ s₀' s s':Nat→D} {cg:Bool} {op:Op} (h₀:∀ x∈op.operands,ev s₀ x=ev s₀' x) (h:∀ x∈op.operands,ev s x=ev s' x):qv P E n σ s₀ s cg op=qv P E n σ s₀' s' cg op:=by
 cases op<;>simp only[Op.operands] at h h₀<;>simp only[qv]
 case move x=>rw[h x (by simp)]
 case assign x=>rw[h x (by simp)]
 case pick c a b=>rw[h c (by simp),h a (by simp),h b (by simp),h₀ a (by simp),h₀ b (by simp)]
 case build t parts =>
  have:(parts.toList.map fun x=>(x.1,ev s x.2))=parts.toList.map fun x=>(x.1,ev s' x.2):=List.map_congr_left fun x hx=>by rw[h x.2 (by simp;exact ⟨x.1,by simpa using hx⟩)]
  rw[this]
 case buildSlice t n parts =>
  have:(parts.toList.map fun x=>(x.1,ev s x.2))=parts.toList.map fun x=>(x.1,ev s' x.2):=List.map_congr_left fun x hx=>by rw[h x.2 (by simp;exact ⟨x.1,by simpa using hx⟩)]
  rw[this]
 case makeSlice t l c=>rw[h l (by simp),h c (by simp)]
 case load t a=>rw[h a (by simp)]
 case binOp op t x y u=>rw[h x (by simp),h y (by simp)]
 case unOp op t x=>rw[h x (by simp)]
 case convert a b x=>rw[h x (by simp)]
 case makeFunc f first cap =>
  cases f<;>try rfl
  simp only
  rw[zB (s:=s) (s':=s') (xs:=first.toList) (fun x hx=>h x (by simp;exact .inl (by simpa using hx))),zB (s:=s) (s':=s') (xs:=cap.toList) (fun x hx=>h x (by simp;exact .inr (by simpa using hx)))]
 case slice t x lo hi mx =>
  have hm:∀ (o:Option Operand),(∀ y,o=some y→ev s y=ev s' y)→o.map (ev s)=o.map (ev s'):=by
   intro o ho;cases o with
   | none=>rfl
   | some y=>simp[ho y rfl]
  simp_all
 case fieldAddr t x i=>rw[h x (by simp)]
 case field t x i=>rw[h x (by simp)]
 case indexAddr t x i=>rw[h x (by simp),h i (by simp)]
 case index t x i=>rw[h x (by simp),h i (by simp)]
 case extract x i=>rw[h x (by simp)]
 case lookup t x i ok=>rw[h x (by simp),h i (by simp)]
 case nilCheck x=>rw[h x (by simp)]
 case call c =>
  have hargs:∀ x∈c.args.toList,ev s x=ev s' x:=fun x hx=>h x (by simp[Call.operands];exact .inr (by simpa using hx))
  have hmap:=zB hargs
  split
  ·split
   ·simp_all
   ·rfl
  ·rw[hmap]
  ·rw[hmap]
  ·rename_i f hf
   rw[hmap,h f (by simp[Call.operands,hf])]
  ·rfl
theorem kM {s s':Nat→D} {o:Oper} (h:∀ t∈o.looksAt ops,s t=s' t):e8 ops s o=e8 ops s' o:=by
 unfold e8
 cases hg:o.guard with
 | none=>rfl
 | some gw =>
  obtain ⟨j,want⟩:=gw
  simp only
  cases ht:(ops[j]?).bind (·.dst) with
  | none=>rfl
  | some t =>
   simp only
   rw[h t (by simp[Oper.looksAt,hg,ht])]
theorem kC {P:Program} {n:Nat} {σ:Nat→Option bB} {s s':Nat→D} {o:Oper} (h:∀ t∈o.looksAt ops,s t=s' t):gW P E ops n σ s o=gW P E ops n σ s' o:=by
 unfold gW
 rw[kM h]
 cases e8 ops s' o with
 | none=>rfl
 | some c =>
  cases c with
  | false=>rfl
  | true =>
  rw[A1K (s₀:=s) (s₀':=s') (s:=cB true s) (s':=cB true s') (fun x hx=>D8 fun t ht=>by
   subst ht
   exact h t (by simp[Oper.looksAt];exact .inl ⟨.tmp t,by simpa using hx,rfl⟩)) (fun x hx=>D8 fun t ht=>by
   subst ht
   simp only[cB]
   rw[h t (by simp[Oper.looksAt];exact .inl ⟨.tmp t,by simpa using hx,rfl⟩)])]
theorem AJN {P:Program} {oi oj:Oper} {st st₁ st₂:St} (hi:eG E oi.op=true) (hj:eG E oj.op=true) (hap:oi.apart ops oj=true) (h1:eZ P E nt ops oi st=some st₁) (h2:eZ P E nt ops oj st₁=some st₂) :
  ∃ st₃,eZ P E nt ops oj st=some st₃∧eZ P E nt ops oi st₃=some st₂:=by
 obtain ⟨a1,a2,a3⟩:=Oper.apart_spec hap
 unfold eZ at h1 h2 ⊢
 simp only[hi,hj,if_true] at h1 h2 ⊢
 split at h1
 ·rename_i d hd
  unfold q9 at h1
  cases hdi:oi.dst with
  | none =>
   simp only[hdi] at h1
   cases h1
   simp only[] at h2
   refine ⟨st₂,h2,?_⟩
   split at h2
   ·rename_i e he
    unfold q9 at h2
    cases hdj:oj.dst with
    | none=>simp only[hdj] at h2;cases h2;simp only[hd,q9,hdi]
    | some t =>
     simp only[hdj] at h2
     split at h2
     ·cases h2
      have:gW P E ops st.n st.σ (bY st.s t e) oi=some d:=by
       rw[←hd]
       exact kC fun u hu=>bK _ _ (fun eq=>a3 t hdj (eq ▸ hu))
      simp only[this,q9,hdi]
     ·cases h2
   ·cases h2
  | some t =>
   simp only[hdi] at h1
   split at h1
   ·rename_i htn
    cases h1
    simp only at h2
    split at h2
    ·rename_i e he
     have he':gW P E ops st.n st.σ st.s oj=some e:=by
      rw[←he]
      exact (kC fun u hu=>(bK _ _ (fun (eq:u=t)=>a1 t hdi (by rw[←eq];exact hu))).symm)
     simp only[he']
     unfold q9 at h2 ⊢
     cases hdj:oj.dst with
     | none =>
      simp only[hdj] at h2
      cases h2
      exact ⟨_,rfl,by simp only[hd,hdi,htn,if_true]⟩
     | some t' =>
      simp only[hdj] at h2
      split at h2
      ·rename_i htn'
       cases h2
       refine ⟨⟨bY st.s t' e,st.σ,st.n⟩,by simp only[htn',if_true],?_⟩
       have:gW P E ops st.n st.σ (bY st.s t' e) oi=some d:=by
        rw[←hd]
        exact kC fun u hu=>bK _ _ (fun eq=>a3 t' hdj (eq ▸ hu))
       have hne:t'≠t:=fun eq=>a2 t hdi (eq ▸ hdj)
       simp only[this,hdi,htn,if_true]
       rw[GG _ _ _ hne]
      ·cases h2
    ·cases h2
   ·cases h1
 ·cases h1
theorem pF {op:Op} (h:kU E op=true):eG E op=true:=by
 cases op<;>simp[kU] at h<;>first|rfl|simp[eG,h]
theorem W7 {P:Program} {op:Op} (h:kU E op=true) (n n':Nat) (σ σ':Nat→Option bB) (s₀ s:Nat→D) (cg:Bool):qv P E n σ s₀ s cg op=qv P E n' σ' s₀ s cg op:=by
 cases op<;>simp[kU] at h<;>first
  | rfl
  | (simp only[qv,h])
theorem O2 {P:Program} {σ:Nat→Option bB} {s s':Nat→D} {k:Nat} {op:Op} (h:∀ x∈op.operands,ev s x=ev s' x):nv P E σ s k op=nv P E σ s' k op:=by
 cases op<;>simp only[Op.operands] at h<;>simp only[nv]
 case box t x=>rw[h x (by simp)]
 case store t a v=>rw[h a (by simp),h v (by simp)]
 case range t x=>rw[h x (by simp)]
 case next it b=>rw[h it (by simp)]
 case makeMap t r=>cases r with
  | none=>rfl
  | some r=>simp only;rw[h r (by simp)]
 case makeSlice t l c=>rw[h l (by simp),h c (by simp)]
 case buildSlice t n parts =>
  have:(parts.toList.map fun x=>(x.1,ev s x.2))=parts.toList.map fun x=>(x.1,ev s' x.2):=List.map_congr_left fun x hx=>by rw[h x.2 (by simp;exact ⟨x.1,by simpa using hx⟩)]
  rw[this]
 case mapUpdate t m i v=>rw[h m (by simp),h i (by simp),h v (by simp)]
 case insert t m i v=>rw[h m (by simp),h i (by simp),h v (by simp)]
 case mapEntry t m i=>rw[h m (by simp),h i (by simp)]
 case entryStore t m i v=>rw[h m (by simp),h i (by simp),h v (by simp)]
 case entry it=>rw[h it (by simp)]
 case call c =>
  have hargs:∀ x∈c.args.toList,ev s x=ev s' x:=fun x hx=>h x (by simp[Call.operands];exact .inr (by simpa using hx))
  split
  ·simp_all
  ·rename_i f hc
   rw[zB hargs,h f (by simp[Call.operands,hc])]
  ·simp_all
  ·rfl
def HG (P:Program) (E:Env) (ops:Array Oper) (o:Oper) (s:Nat→D) (σ:Nat→Option bB) (n:Nat):Option (D×(Nat→Option bB)×Nat) :=
 if eG E o.op=true then (gW P E ops n σ s o).map fun d=>(d,σ,n)
 else match e8 ops s o with
  | some true=>nv P E σ (cB true s) n o.op
  | some false=>some (.p (.v undef),σ,n)
  | none=>none
theorem yS {P:Program} {o:Oper} {st:St}:eZ P E nt ops o st=(HG P E ops o st.s st.σ st.n).bind fun x=>q9 nt st o.dst x.1 x.2.1 x.2.2:=by
 unfold eZ HG
 grind
theorem NO {P:Program} {o:Oper} {s s':Nat→D} {σ:Nat→Option bB} {n:Nat} (h:∀ t∈o.looksAt ops,s t=s' t):HG P E ops o s σ n=HG P E ops o s' σ n:=by
 unfold HG
 rw[kC h,kM h]
 rw[O2 (s:=cB true s) (s':=cB true s') (fun x hx=>D8 fun t ht=>by
   subst ht
   simp only[cB]
   rw[h t (by simp[Oper.looksAt];exact .inl ⟨.tmp t,by simpa using hx,rfl⟩)])]
theorem zA {P:Program} {o:Oper} (hf:kU E o.op=true) {s:Nat→D} (σ σ₀:Nat→Option bB) (n n₀:Nat):HG P E ops o s σ n=(HG P E ops o s σ₀ n₀).map fun x=>(x.1,σ,n):=by
 unfold HG
 rw[if_pos (pF hf),if_pos (pF hf)]
 have:gW P E ops n σ s o=gW P E ops n₀ σ₀ s o:=by
  unfold gW
  cases e8 ops s o with
  | none=>rfl
  | some c=>cases c<;>simp only[W7 hf n n₀ σ σ₀]
 rw[this]
 cases gW P E ops n₀ σ₀ s o<;>rfl
def sK (s:Nat→D) (dst:Option Tmp) (d:D):Nat→D:=match dst with|some t=>bY s t d|none=>s
theorem rU {st st':St} {dst:Option Tmp} {d:D} {σ':Nat→Option bB} {n':Nat} (h:q9 nt st dst d σ' n'=some st'):(∀ t,dst=some t→t<nt)∧st'=⟨sK st.s dst d,σ',n'⟩:=by
 unfold q9 at h
 cases dst with
 | none=>cases h;exact ⟨fun t ht=>by simp at ht,rfl⟩
 | some u =>
  simp only at h
  split at h
  ·rename_i hlt
   cases h;exact ⟨fun t ht=>by cases ht;exact hlt,rfl⟩
  ·cases h
theorem vN {st:St} {dst:Option Tmp} {d:D} {σ':Nat→Option bB} {n':Nat} (h:∀ t,dst=some t→t<nt):q9 nt st dst d σ' n'=some ⟨sK st.s dst d,σ',n'⟩:=by
 unfold q9 sK
 grind
theorem AQK {P:Program} {oi oj:Oper} {st st₁ st₂:St} (hf:kU E oi.op=true∨kU E oj.op=true) (hap:oi.apart ops oj=true) (h1:eZ P E nt ops oi st=some st₁) (h2:eZ P E nt ops oj st₁=some st₂) :
  ∃ st₃,eZ P E nt ops oj st=some st₃∧eZ P E nt ops oi st₃=some st₂:=by
 obtain ⟨a1,a2,a3⟩:=Oper.apart_spec hap
 rw[yS,Option.bind_eq_some_iff] at h1 h2
 obtain ⟨⟨di,σi,ni⟩,e1,p1⟩:=h1
 obtain ⟨⟨dj,σj,nj⟩,e2,p2⟩:=h2
 obtain ⟨l1,rfl⟩:=rU p1
 obtain ⟨l2,rfl⟩:=rU p2
 have c2:∀ σ n,HG P E ops oj (sK st.s oi.dst di) σ n=HG P E ops oj st.s σ n:=fun σ n=>NO fun u hu=>by
  cases hd:oi.dst with
  | none=>rfl
  | some t=>exact bK _ _ (fun (eq:u=t)=>a1 t hd (by rw[←eq];exact hu))
 have c1:∀ σ n,HG P E ops oi (sK st.s oj.dst dj) σ n=HG P E ops oi st.s σ n:=fun σ n=>NO fun u hu=>by
  cases hd:oj.dst with
  | none=>rfl
  | some t=>exact bK _ _ (fun (eq:u=t)=>a3 t hd (by rw[←eq];exact hu))
 have cu:∀ (σ:Nat→Option bB) (n:Nat),(⟨sK (sK st.s oj.dst dj) oi.dst di,σ,n⟩:St)=⟨sK (sK st.s oi.dst di) oj.dst dj,σ,n⟩:=by
  intro σ n
  cases hdi:oi.dst with
  | none=>rfl
  | some t =>
   cases hdj:oj.dst with
   | none=>rfl
   | some t' =>
    simp only[sK]
    rw[GG _ _ _ (fun (eq:t'=t)=>a2 t hdi (eq ▸ hdj))]
 simp only[] at e2
 rw[c2] at e2
 rcases hf with hf|hf
 ·
  rw[zA hf st.σ st.σ st.n st.n] at e1
  simp only[Option.map_eq_some_iff,Prod.mk.injEq] at e1
  obtain ⟨x,ex,ed,eσ,en⟩:=e1
  subst eσ en ed
  refine ⟨_,by rw[yS,e2];exact vN l2,?_⟩
  rw[yS]
  simp only[]
  rw[c1,zA hf σj st.σ nj st.n,ex]
  refine (vN l1).trans ?_
  exact congrArg some (cu σj nj)
 ·
  rw[zA hf σi st.σ ni st.n] at e2
  simp only[Option.map_eq_some_iff,Prod.mk.injEq] at e2
  obtain ⟨x,ex,ed,eσ,en⟩:=e2
  subst eσ en ed
  have ex':HG P E ops oj st.s st.σ st.n=some (x.1,st.σ,st.n):=by
   rw[zA hf st.σ st.σ st.n st.n,ex];rfl
  refine ⟨_,by rw[yS,ex'];exact vN l2,?_⟩
  rw[yS]
  simp only[]
  rw[c1,e1]
  refine (vN l1).trans ?_
  exact congrArg some (cu σi ni)
theorem jD {listed:Array Bool} (hc:pZ ops listed) {i:Nat} (hi:i∈Region.ready .any ops listed):pZ ops (listed.setIfInBounds i true):=by
 obtain ⟨_,o,ho,hall⟩:=mem_ready.1 hi
 intro m om hom hm e he hb
 by_cases hmi:i=m
 ·subst hmi
  rw[ho] at hom;cases hom
  exact getD_set_true (hall e he hb)
 ·rw[getD_set_ne false hmi] at hm
  exact getD_set_true (hc m om hom hm e he hb)
theorem AGS {P:Program} {Q:St→Prop} {i:Nat} {oi:Oper} (hi:ops[i]? = some oi) :
  ∀ (f:Nat) (listed:Array Bool) (st st₁:St),pZ ops listed →
   (∀ j oj,ops[j]? = some oj→j≠i→listed.getD j true=false→Reach ops j i∨(((eG E oi.op=true∧eG E oj.op=true)∨kU E oi.op=true∨kU E oj.op=true)∧oi.apart ops oj=true)) →
   i∈Region.ready .any ops listed→eZ P E nt ops oi st=some st₁ →
   Q1 P E nt ops Q f (listed.setIfInBounds i true) st₁→Q1 P E nt ops Q (f+1) listed st:=by
 intro f
 induction f with
 | zero =>
  intro listed st st₁ _ _ hr hs H
  refine ⟨fun h=>(by rw[h] at hr;cases hr),fun j hj=>?_⟩
  by_cases hji:j=i
  ·simp_all
  ·have:=ready_mono hj hji
   rw[H.1] at this
   cases this
 | succ f ih =>
  intro listed st st₁ hc hfree hr hs H
  refine ⟨fun h=>(by rw[h] at hr;cases hr),fun j hj=>?_⟩
  by_cases hji:j=i
  ·simp_all
  ·obtain ⟨oj,st₂,hoj,h2,H2⟩:=H.2 j (ready_mono hj hji)
   obtain ⟨hjun,oj',hoj',hall⟩:=mem_ready.1 hj
   rw[hoj] at hoj';cases hoj'
   have hiun:=(mem_ready.1 hr).1
   rcases hfree j oj hoj hji hjun with hre|⟨q,hap⟩
   ·have:=hre.listed hc (fun o ho e he hb=>by rw[hoj] at ho;cases ho;exact hall e he hb)
    rcases Nat.lt_or_ge i listed.size with h'|h'
    ·simp_all
    ·simp_all
   ·obtain ⟨st₃,h3,h4⟩:∃ st₃,eZ P E nt ops oj st=some st₃∧eZ P E nt ops oi st₃=some st₂:=by
     rcases q with ⟨q1,q2⟩|q
     ·exact AJN q1 q2 hap hs h2
     ·exact AQK q hap hs h2
    refine ⟨oj,st₃,hoj,h3,ih (listed.setIfInBounds j true) st₃ st₂ (jD hc hj) (fun k ok hk hki hun=>?_) (ready_mono hr (Ne.symm hji)) h4 ?_⟩
    ·by_cases hjk:j=k
     ·simp_all
     ·simp_all
    ·rw[Array.setIfInBounds_comm _ _ hji]
     exact H2
theorem Z8 {P:Program} {Q:St→Prop} {ms:List Nat} (hms:∀ j i,(ms.getD j 0).testBit i=true→Reach ops j i) {st':St} (hQ:Q st'):∀ (l:List Oper) (k:Nat) (listed:Array Bool) (st:St),(∀ j,l[j]? = ops[k+j]?)→pZ ops listed →
  (∀ j,j<k→listed.getD j true=true)→tV E ops ms l.length k listed=true→evL P E nt ops l st=some st'→Q1 P E nt ops Q l.length listed st
 | [],_,_,st,_,_,_,hB,h=>by
  cases h
  exact ⟨by simpa [tV] using hB,hQ⟩
 | o::l,k,listed,st,hl,hc,hlow,hB,h=>by
  have h0:ops[k]? = some o:=by simpa using (hl 0).symm
  simp only[List.length_cons,tV,Bool.and_eq_true] at hB
  obtain ⟨⟨hr,hf⟩,hB'⟩:=hB
  have hr':k∈Region.ready .any ops listed:=by simpa using hr
  simp only[evL,Option.bind_eq_some_iff] at h
  obtain ⟨st1,h1,h2⟩:=h
  refine AGS h0 l.length listed st st1 hc (fun j oj hoj hjk hun=>?_) hr' h1 (Z8 hms hQ l (k+1) _ st1 (fun j=>by have:=hl (j+1);simpa [Nat.add_assoc,Nat.add_comm 1 j] using this) (jD hc hr') (fun j hj=>?_) hB' h2)
  ·have hjs:j<ops.size:=(Array.getElem?_eq_some_iff.1 hoj).1
   have:=List.all_eq_true.1 hf j (by simpa using hjs)
   simp only[Bool.or_eq_true,decide_eq_true_eq] at this
   rcases this with hle|hp
   ·have:j<k:=by omega
    simp_all
   ·unfold A1C at hp
    simp only[Bool.or_eq_true] at hp
    rcases hp with hp|hp
    ·simp_all
    ·rw[h0,hoj] at hp
     simp only[Bool.and_eq_true,Bool.or_eq_true] at hp
     obtain ⟨hp1,(hp2|hp2)|hp2⟩:=hp
     ·simp_all
     ·simp_all
     ·simp_all
  ·by_cases e:k=j
   ·simp_all
   ·rw[getD_set_ne true e]
    exact hlow j (by omega)
theorem AK3 (hE:aT cx.P E) (hm:cx.P.follows .mixedOrders=true) {id:Nat} {Q:Exit→St→Prop} {st st':St} (hB:rS E ops=true) (h:evL cx.P E nt ops ops.toList st=some st') (hq:Q .normal st'):AW cx nt (.region id ops true) Q st:=by
 intro ρ a w hr
 refine wp_region_any hm ?_
 have hd:Below w.heap.size w w.drew:=(Below.refl _ _).drew
 have hr':Rel cx nt ρ st a w.drew:=⟨hr.inv.grow hd (Nat.le_refl _),hr.nt,hr.defers,hr.keeps.trans' (bO.gV hd),hr.oW.below hd,fun i=>(hr.nD i).grow hd⟩
 have hlex:=Z8 (P:=cx.P) (E:=E) (nt:=nt) (Q:=fun s=>s=st') (ms:=wI ops.toList []) (fun j i hb=>mD ops.toList [] (by simp) (fun j i hb=>by simp at hb) j i hb) rfl ops.toList 0 (Array.replicate ops.size false) st (by simp)
  (fun m o _ hm'=>by simp[Array.getElem?_replicate] at hm';split at hm'<;>simp at hm') (fun j hj=>by omega) (by simpa [rS] using hB) h
 exact KS (Q:=fun s=>s=st') (Q':=sA cx nt Q) hE (fun s ρ a w hs hr=>by subst hs;exact ⟨s,ρ,hr,hq⟩) ops.size (Array.replicate ops.size false) st ρ a w.drew hr' (by simpa using hlex)
end
end Go.Pv
