/-
  The pure evaluator, part u: closed runs: code as a function that the kernel computes.
-/
import Derived.Test.YtdplnhkfbmgofaaGreatDoorPv2wn
set_option linter.defProp false
set_option linter.unusedSimpArgs false
namespace Go.Pv
open Go Go.RowKit
def AUA {α β:Type} (f:α→Option (List β)):List α→Option (List β)
 | []=>some []
 | a::l=>match f a with
  | none=>none
  | some x=>match AUA f l with
   | none=>none
   | some y=>some (x++y)
theorem ED {α β:Type} {f:α→Option (List β)}:∀ {l:List α} {r:List β},AUA f l=some r→∀ a∈l,∃ x,f a=some x∧∀ b∈x,b∈r
 | [],_,_,a,ha=>by cases ha
 | a::l,r,h,b,hb=>by
  simp only[AUA] at h
  split at h
  ·cases h
  ·rename_i x hx
   split at h
   ·cases h
   ·rename_i y hy
    cases h
    rcases List.mem_cons.1 hb with rfl|hb
    ·exact ⟨x,hx,fun c hc=>by simp[hc]⟩
    ·obtain ⟨z,h1,h2⟩:=ED hy b hb
     exact ⟨z,h1,fun c hc=>by simp[h2 c hc]⟩
def rnd (F:St→Option (List (Exit×St))):Nat→St→Option (List (Exit×St))
 | 0,_=>none
 | n+1,st=>match F st with
  | none=>none
  | some l=>AUA (fun x=>match x with
   | (.normal,st')=>rnd F n st'
   | x=>some [x]) l
def ATO (id:Nat) (x:Exit×St):Exit×St:=match x with
 | (.exit id',st)=>if id'=id then (.normal,st) else (.exit id',st)
 | x=>x
def ADL:Exit→Bool
 | .goto _=>true
 | _=>false
def q8 (P:Program) (E:Env) (nt N:Nat):Code→St→Option (List (Exit×St))
 | .skip,st=>some [(.normal,st)]
 | .label _,st=>some [(.normal,st)]
 | .region _ ops draw,st =>
  match draw,steps ops,qI (E.view draw) ops with
  | false,_,_|true,false,true=>(evR P (E.view draw) nt ops st).map (·.map fun s=>(Exit.normal,s))
  | true,_,_=>match q0 false (E.view true) ops with
   | true=>(VV false P (E.view true) nt ops st.n (AS false (E.view true) ops) (gB ops st)).map fun s=>[(Exit.normal,s)]
   | false=>match Nat.ble ops.size 10 with
    | true=>(Q3 P (E.view true) nt ops ops.size (Array.replicate ops.size false) st).map fun l=>(zX nt l).map fun s=>(Exit.normal,s)
    | false=>none
 | .seq a b,st=>match q8 P E nt N a st with
  | none=>none
  | some l=>AUA (fun x=>match x with
   | (.normal,st')=>q8 P E nt N b st'
   | x=>some [x]) l
 | .cond c t e,st=>match ev (b8 true st.s) c with
  | .p (.v (.bool true))=>q8 P E nt N t st
  | .p (.v (.bool false))=>q8 P E nt N e st
  | _=>none
 | .block id b,st=>(q8 P E nt N b st).map (·.map (ATO id))
 | .loop b,st=>rnd (q8 P E nt N b) N st
 | .exit id,st=>some [(.exit id,st)]
 | .ret,st=>some [(.ret,st)]
 | .scope b,st=>match q8 P E nt N b st with
  | some l=>match l.any fun x=>ADL x.1 with
   | true=>none
   | false=>some l
  | none=>none
 | _,_=>none
theorem LV {P:Program} {E:Env} {nt N:Nat}:∀ (c:Code) (st:St) (l:List (Exit×St)) (Q:Exit→St→Prop),q8 P E nt N c st=some l→(∀ x∈l,Q x.1 x.2)→yT P E nt c Q st:=by
 intro c
 induction c with
 | skip=>intro st l Q h hq;cases h;exact A3A (hq (.normal,st) (List.mem_singleton.2 rfl))
 | label l=>intro st l Q h hq;cases h;exact AYU (l:=l) (hq (.normal,st) (List.mem_singleton.2 rfl))
 | region id ops draw =>
  intro st l Q h hq
  have key:((draw=false∨(qI (E.view draw) ops=true∧steps ops=false))∧(evR P (E.view draw) nt ops st).map (·.map fun s=>(Exit.normal,s))=some l) ∨
    (draw=true∧q0 false (E.view true) ops=true∧(VV false P (E.view true) nt ops st.n (AS false (E.view true) ops) (gB ops st)).map (fun s=>[(Exit.normal,s)])=some l) ∨
    (draw=true∧(Q3 P (E.view true) nt ops ops.size (Array.replicate ops.size false) st).map (fun l=>(zX nt l).map fun s=>(Exit.normal,s))=some l):=by
   simp only[q8] at h
   split at h
   ·exact .inl ⟨.inl rfl,h⟩
   ·rename_i h1 h2;exact .inl ⟨.inr ⟨h2,h1⟩,h⟩
   ·split at h
    ·rename_i hd;exact .inr (.inl ⟨rfl,hd,h⟩)
    ·split at h
     ·exact .inr (.inr ⟨rfl,h⟩)
     ·cases h
  rcases key with key|⟨rfl,hd,h2⟩|⟨rfl,h2⟩
  rotate_left
  rotate_left
  ·simp only[Option.map_eq_some_iff] at h2
   obtain ⟨sts,h3,rfl⟩:=h2
   exact AI7 h3 fun s hs=>hq (.normal,s) (List.mem_map.2 ⟨s,hs,rfl⟩)
  rotate_left
  ·simp only[Option.map_eq_some_iff] at h2
   obtain ⟨st',h3,rfl⟩:=h2
   exact AI8 hd h3 (hq (.normal,st') (List.mem_singleton.2 rfl))
  obtain ⟨h1,h2⟩:=key
  refine AI6 ⟨h1,?_⟩
  simp only[Option.map_eq_some_iff] at h2
  obtain ⟨sts,h3,rfl⟩:=h2
  unfold B8
  rw[h3]
  exact fun st' hs=>hq (.normal,st') (List.mem_map.2 ⟨st',hs,rfl⟩)
 | seq a b iha ihb =>
  intro st l Q h hq
  simp only[q8] at h
  split at h
  ·cases h
  ·rename_i la hla
   refine A78 ?_
   refine iha st la _ hla fun x hx=>?_
   obtain ⟨y,h1,h2⟩:=ED h x hx
   obtain ⟨e,st'⟩:=x
   cases e with
   | normal=>exact ihb st' y Q h1 fun z hz=>hq z (h2 z hz)
   | _=>cases h1;exact hq _ (h2 _ (List.mem_singleton.2 rfl))
 | cond c t e iht ihe =>
  intro st l Q h hq
  simp only[q8] at h
  refine AYT ?_
  split at h
  ·rename_i hc;rw[hc];exact AB8 (iht st l Q h hq)
  ·rename_i hc;rw[hc];exact VP (ihe st l Q h hq)
  ·cases h
 | block id b ih =>
  intro st l Q h hq
  simp only[q8,Option.map_eq_some_iff] at h
  obtain ⟨lb,h1,rfl⟩:=h
  refine AYS ?_
  refine ih st lb _ h1 fun x hx=>?_
  have:=hq (ATO id x) (List.mem_map.2 ⟨x,hx,rfl⟩)
  obtain ⟨e,st'⟩:=x
  cases e with
  | exit id' =>
   simp only[ATO,DE] at this ⊢
   split<;>rename_i e<;>simp only[e,if_true,if_false] at this<;>exact this
  | _=>exact this
 | loop b ih =>
  intro st l Q h hq
  refine AYV fun X hX=>?_
  simp only[q8] at h
  have key:∀ (n:Nat) (st:St) (l:List (Exit×St)),rnd (q8 P E nt N b) n st=some l→(∀ x∈l,Q x.1 x.2)→X st:=by
   intro n
   induction n with
   | zero=>intro st l h;cases h
   | succ n ihn =>
    intro st l h hq
    simp only[rnd] at h
    split at h
    ·cases h
    ·rename_i lb hlb
     refine hX st (ih st lb _ hlb fun x hx=>?_)
     obtain ⟨y,h1,h2⟩:=ED h x hx
     obtain ⟨e,st'⟩:=x
     cases e with
     | normal=>exact ihn st' y h1 fun z hz=>hq z (h2 z hz)
     | _=>cases h1;exact hq _ (h2 _ (List.mem_singleton.2 rfl))
  exact key N st l h hq
 | exit id=>intro st l Q h hq;cases h;exact A29 (hq (.exit id,st) (List.mem_singleton.2 rfl))
 | ret=>intro st l Q h hq;cases h;exact A77 (hq (.ret,st) (List.mem_singleton.2 rfl))
 | rangeFunc _ _ _ _=>intro st l Q h;cases h
 | scope b ih =>
  intro st l Q h hq
  simp only[q8] at h
  split at h
  ·rename_i l' hl
   split at h
   ·cases h
   ·rename_i hg
    cases h
    refine AYW (ih st l _ hl fun x hx=>?_)
    have hng:ADL x.1=false:=by
     cases hgx:ADL x.1 with
     | false=>rfl
     | true=>rw[List.any_eq_true.2 ⟨x,hx,hgx⟩] at hg;cases hg
    have:=hq x hx
    obtain ⟨e,st'⟩:=x
    cases e with
    | goto l=>cases hng
    | _=>exact this
  ·cases h
 | goto _=>intro st l Q h;cases h
 | refuse _=>intro st l Q h;cases h
mutual
def T.same:T→T→Bool
 | .v (.int k a),.v (.int k' b)=>decide (k=k')&&a == b
 | .v (.bool a),.v (.bool b)=>a == b
 | .v (.string a),.v (.string b)=>decide (a=b)
 | .agg a,.agg b=>wF a b
 | .cC a,.cC b=>wF a b
 | .sl f a,.sl g b=>(f == g)&&xC a b
 | _,_=>false
def wF:List T→List T→Bool
 | [],[]=>true
 | a::l,b::m=>T.same a b&&wF l m
 | _,_=>false
def xC:List (List T)→List (List T)→Bool
 | [],[]=>true
 | a::l,b::m=>wF a b&&xC l m
 | _,_=>false
end
mutual
theorem T.AG2:∀ (a b:T),T.same a b=true→a=b
 | a,b,h=>by
  unfold T.same at h
  split at h
  ·simp at h;obtain ⟨rfl,rfl⟩:=h;rfl
  ·simp at h;subst h;rfl
  ·simp at h;subst h;rfl
  ·rw[xB _ _ h]
  ·rw[xB _ _ h]
  ·simp only[Bool.and_eq_true,beq_iff_eq] at h;rw[MK _ _ h.2,h.1]
  ·cases h
theorem xB:∀ (a b:List T),wF a b=true→a=b
 | [],[],_=>rfl
 | a::l,b::m,h=>by simp only[wF,Bool.and_eq_true] at h;rw[T.AG2 a b h.1,xB l m h.2]
 | [],_::_,h=>by simp[wF] at h
 | _::_,[],h=>by simp[wF] at h
theorem MK:∀ (a b:List (List T)),xC a b=true→a=b
 | [],[],_=>rfl
 | a::l,b::m,h=>by simp only[xC,Bool.and_eq_true] at h;rw[xB a b h.1,MK l m h.2]
 | [],_::_,h=>by simp[xC] at h
 | _::_,[],h=>by simp[xC] at h
end
def mA:Exit→Bool
 | .normal=>true
 | .ret=>true
 | _=>false
def z7 (F:St→Option T):List (Exit×St)→Option T
 | []=>none
 | [(e,st)]=>match mA e with
  | true=>F st
  | false=>none
 | (e,st)::l=>match mA e,F st,z7 F l with
  | true,some a,some b=>if T.same a b=true then some b else none
  | _,_,_=>none
theorem Y6 {F:St→Option T}:∀ {l:List (Exit×St)} {r:T},z7 F l=some r→∀ x∈l,(x.1 = .normal∨x.1 = .ret)∧F x.2=some r:=by
 have hx:∀ e,mA e=true→e = .normal∨e = .ret:=by
  intro e he;cases e<;>simp[mA] at he<;>simp
 intro l
 induction l with
 | nil=>intro r h x hx;cases hx
 | cons y l ih =>
  intro r h x hm
  obtain ⟨e,st⟩:=y
  cases l with
  | nil =>
   simp only[z7] at h
   split at h
   ·rename_i he
    rcases List.mem_cons.1 hm with rfl|hm
    ·exact ⟨hx _ he,h⟩
    ·cases hm
   ·cases h
  | cons z l =>
   simp only[z7] at h
   split at h
   ·rename_i a b he ha hb
    split at h
    ·rename_i hs
     cases h
     rcases List.mem_cons.1 hm with rfl|hm
     ·exact ⟨hx _ he,by rw[ha,T.AG2 _ _ hs]⟩
     ·exact ih hb x hm
    ·cases h
   ·cases h
def HT (P:Program) (rs:Array ResultVar):List (Exit×St)→Option (D×(Nat→Option bE)×Nat)
 | [(e,st)]=>match mA e with
  | true=>AVT P rs st
  | false=>none
 | _=>none
def A4Z (B:Env) (f:FuncId):Bool:=match B (3000000000+f) with
 | some .mark=>true
 | _=>false
def HG (P:Program) (N:Nat) (hp:FuncId→Bool) (B:Env):Nat→Env
 | 0=>fun _=>none
 | k+1=>fun f=>match B f with
  | some x=>some x
  | none=>match P.funcs[f]? with
  | none=>none
  | some fn=>match fn.body with
   | none=>none
   | some c =>
    match hp f,A4Z B f with
    | true,false=>some (.heap fun args σ n=>match decide (args.length≤fn.ntmps),q8 P (HG P N hp B k) fn.ntmps N c (PW args σ n) with
     | true,some l=>HT P fn.results l
     | _,_=>none)
    | false,_=>some (.read fun args σ n=>match decide (args.length≤fn.ntmps),q8 P (HG P N hp B k) fn.ntmps N c (PW args (SV σ) n) with
     | true,some l=>z7 (AMI P fn.results) l
     | _,_=>none)
    | true,true=>some (.both (fun args σ n=>match decide (args.length≤fn.ntmps),q8 P (HG P N hp B k) fn.ntmps N c (PW args (SV σ) n) with
     | true,some l=>z7 (AMI P fn.results) l
     | _,_=>none) (fun args σ n=>match decide (args.length≤fn.ntmps),q8 P (HG P N hp B k) fn.ntmps N c (PW args σ n) with
     | true,some l=>HT P fn.results l
     | _,_=>none))
def cM (P:Program):Bool:=P.funcs.all fun fn=>!(fn.name == "runtime.NumGoroutine")
theorem AG1 {P:Program} (hm:P.follows .mixedOrders=true) (hn:cM P=true) (N:Nat) (hp:FuncId→Bool) {B:Env} (hB:aR P B):∀ k,aR P (HG P N hp B k):=by
 intro k
 induction k with
 | zero=>intro f x h;cases h
 | succ k ih =>
  intro f x h
  simp only[HG] at h
  split at h
  ·rename_i hx;cases h;exact hB f _ hx
  split at h
  ·cases h
  ·rename_i fn hf
   have hname:(fn.name == "runtime.NumGoroutine")=false:=by
    have:=Array.all_eq_true_iff_forall_mem.1 hn fn (Array.mem_of_getElem? hf)
    simpa using this
   split at h
   ·cases h
   ·rename_i c hb
    have hheap:cW P f (fun args σ n=>match decide (args.length≤fn.ntmps),q8 P (HG P N hp B k) fn.ntmps N c (PW args σ n) with
     | true,some l=>HT P fn.results l
     | _,_=>none):=by
     refine AKW ih hm hf hname hb fun args σ n r hg=>?_
     split at hg
     ·rename_i l hl hr
      refine ⟨by simpa using hl,LV c _ l _ hr ?_⟩
      unfold HT at hg
      split at hg
      ·rename_i e st
       split at hg
       ·rename_i he
        intro x hx
        rcases List.mem_cons.1 hx with rfl|hx
        ·exact ⟨by cases e<;>simp[mA] at he<;>simp,hg⟩
        ·cases hx
       ·cases hg
      ·cases hg
     ·cases hg
    have hread:qV P f (fun args σ n=>match decide (args.length≤fn.ntmps),q8 P (HG P N hp B k) fn.ntmps N c (PW args (SV σ) n) with
     | true,some l=>z7 (AMI P fn.results) l
     | _,_=>none):=by
     refine AMH ih hm hf hname hb fun args σ n r hg=>?_
     split at hg
     ·rename_i l hl hr
      exact ⟨by simpa using hl,LV c _ l _ hr fun x hx=>Y6 hg x hx⟩
     ·cases hg
    split at h
    ·cases h;exact hheap
    ·cases h;exact hread
    ·cases h;exact ⟨hread,hheap⟩
def AVW (P:Program) (N:Nat) (hp:FuncId→Bool) (B:Env) (k:Nat) (f:FuncId) (args:List T):Option T :=
 match HG P N hp B k f with
 | some (.read g)=>g (args.map .p) (fun _=>none) 0
 | _=>none
theorem qV.pure {P:Program} {f:FuncId} {g:List D→(Nat→Option bE)→Nat→Option T} (h:qV P f g):aN P f (fun args=>g (args.map .p) (fun _=>none) 0):=by
 refine ⟨h.entry,fun w own args vs r hG hown ha hr=>?_⟩
 have hown':∀ b,bP (RH P own w) (fun _=>none) (fun _=>none) b↔own b:=fun b=>by
  refine ⟨fun hb=>?_,fun hb=>.inl hb⟩
  rcases hb with hb|⟨k,l,x,hk,_,_⟩
  ·exact hb
  ·cases hk
 refine (h.calls (RH P own w) (fun _=>none) (fun _=>none) 0 w (args.map .p) vs r rfl hG (A8X P own w hG hown) (cT.map (R:=cH w own) _ ha fun d v hd=>.p _ _ (hd.less fun b hb=>(hown' b).1 hb)) hr).mono ?_
 rintro e w' ⟨v,rfl,h1,h2⟩
 exact ⟨v,rfl,h1.less fun b hb=>(hown' b).2 hb,h2⟩
theorem AJ8 {P:Program} (hm:P.follows .mixedOrders=true) (hn:cM P=true) (N:Nat) (hp:FuncId→Bool) {B:Env} (hB:aR P B) (k:Nat) {f:FuncId} {r:T} (h:AVW P N hp B k f []=some r):aN P f (fun args=>match args with | []=>some r|_=>none):=by
 unfold AVW at h
 split at h
 ·rename_i g hg
  have hp:aN P f _:=qV.pure (AG1 hm hn N hp hB k f _ hg)
  refine ⟨hp.entry,fun w own args vs r' hG ho ha hr=>?_⟩
  split at hr
  ·cases hr;exact hp.calls w own [] vs r hG ho ha h
  ·cases hr
 ·cases h
end Go.Pv
