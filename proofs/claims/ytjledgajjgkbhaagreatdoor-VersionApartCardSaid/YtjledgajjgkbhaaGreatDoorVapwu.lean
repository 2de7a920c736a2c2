/-
  The pure evaluator, part u: closed runs: code as a function that the kernel computes.
-/
import Derived.Test.YtjledgajjgkbhaaGreatDoorVapwn
set_option linter.defProp false
set_option linter.unusedSimpArgs false
namespace Go.Pv
open Go Go.RowKit
def AZ9 {α β:Type} (f:α→Option (List β)):List α→Option (List β)
 | []=>some []
 | a::l=>match f a with
  | none=>none
  | some x=>match AZ9 f l with
   | none=>none
   | some y=>some (x++y)
theorem H4 {α β:Type} {f:α→Option (List β)}:∀ {l:List α} {r:List β},AZ9 f l=some r→∀ a∈l,∃ x,f a=some x∧∀ b∈x,b∈r
 | [],_,_,a,ha=>by cases ha
 | a::l,r,h,b,hb=>by
  simp only[AZ9] at h
  split at h
  ·cases h
  ·split at h
   ·cases h
   ·rename_i y hy
    cases h
    rcases List.mem_cons.1 hb with rfl|hb
    ·simp_all
    ·obtain ⟨z,h1,h2⟩:=H4 hy b hb
     simp_all
def rnd (F:St→Option (List (Exit×St))):Nat→St→Option (List (Exit×St))
 | 0,_=>none
 | n+1,st=>match F st with
  | none=>none
  | some l=>AZ9 (fun x=>match x with
   | (.normal,st')=>rnd F n st'
   | x=>some [x]) l
def AZM (id:Nat) (x:Exit×St):Exit×St:=match x with
 | (.exit id',st)=>if id'=id then (.normal,st) else (.exit id',st)
 | x=>x
def AIQ:Exit→Bool
 | .goto _=>true
 | _=>false
def tZ (P:Program) (E:Env) (nt N:Nat):Code→St→Option (List (Exit×St))
 | .skip,st=>some [(.normal,st)]
 | .label _,st=>some [(.normal,st)]
 | .region _ ops draw,st =>
  match draw,steps ops,rS (E.view draw) ops with
  | false,_,_|true,false,true=>(evR P (E.view draw) nt ops st).map (·.map fun s=>(Exit.normal,s))
  | true,_,_=>match sG false (E.view true) ops with
   | true=>(evD false P (E.view true) nt ops st.n (D0 false (E.view true) ops) (fA ops st)).map fun s=>[(Exit.normal,s)]
   | false=>match Nat.ble ops.size 10 with
    | true=>(VH P (E.view true) nt ops ops.size (Array.replicate ops.size false) st).map fun l=>(DD nt l).map fun s=>(Exit.normal,s)
    | false=>none
 | .seq a b,st=>match tZ P E nt N a st with
  | none=>none
  | some l=>AZ9 (fun x=>match x with
   | (.normal,st')=>tZ P E nt N b st'
   | x=>some [x]) l
 | .cond c t e,st=>match ev (cB true st.s) c with
  | .p (.v (.bool true))=>tZ P E nt N t st
  | .p (.v (.bool false))=>tZ P E nt N e st
  | _=>none
 | .block id b,st=>(tZ P E nt N b st).map (·.map (AZM id))
 | .loop b,st=>rnd (tZ P E nt N b) N st
 | .exit id,st=>some [(.exit id,st)]
 | .ret,st=>some [(.ret,st)]
 | .scope b,st=>match tZ P E nt N b st with
  | some l=>match l.any fun x=>AIQ x.1 with
   | true=>none
   | false=>some l
  | none=>none
 | _,_=>none
theorem PJ {P:Program} {E:Env} {nt N:Nat}:∀ (c:Code) (st:St) (l:List (Exit×St)) (Q:Exit→St→Prop),tZ P E nt N c st=some l→(∀ x∈l,Q x.1 x.2)→BQ P E nt c Q st:=by
 intro c
 induction c with
 | skip=>intro st l Q h hq;cases h;exact A88 (hq (.normal,st) (List.mem_singleton.2 rfl))
 | label l=>intro st l Q h hq;cases h;exact A4A (l:=l) (hq (.normal,st) (List.mem_singleton.2 rfl))
 | region id ops draw =>
  intro st l Q h hq
  have key:((draw=false∨(rS (E.view draw) ops=true∧steps ops=false))∧(evR P (E.view draw) nt ops st).map (·.map fun s=>(Exit.normal,s))=some l) ∨
    (draw=true∧sG false (E.view true) ops=true∧(evD false P (E.view true) nt ops st.n (D0 false (E.view true) ops) (fA ops st)).map (fun s=>[(Exit.normal,s)])=some l) ∨
    (draw=true∧(VH P (E.view true) nt ops ops.size (Array.replicate ops.size false) st).map (fun l=>(DD nt l).map fun s=>(Exit.normal,s))=some l):=by
   simp only[tZ] at h
   split at h
   ·simp_all
   ·simp_all
   ·split at h
    ·simp_all
    ·split at h
     ·simp_all
     ·cases h
  rcases key with key|⟨rfl,hd,h2⟩|⟨rfl,h2⟩
  rotate_left
  rotate_left
  ·simp only[Option.map_eq_some_iff] at h2
   obtain ⟨sts,h3,rfl⟩:=h2
   exact AO6 h3 fun s hs=>hq (.normal,s) (List.mem_map.2 ⟨s,hs,rfl⟩)
  rotate_left
  ·simp only[Option.map_eq_some_iff] at h2
   obtain ⟨st',h3,rfl⟩:=h2
   exact AO7 hd h3 (hq (.normal,st') (List.mem_singleton.2 rfl))
  obtain ⟨h1,h2⟩:=key
  refine AO5 ⟨h1,?_⟩
  simp only[Option.map_eq_some_iff] at h2
  obtain ⟨sts,h3,rfl⟩:=h2
  unfold FR
  simp_all
 | seq a b iha ihb =>
  intro st l Q h hq
  simp only[tZ] at h
  split at h
  ·cases h
  ·rename_i la hla
   refine BD5 ?_
   refine iha st la _ hla fun x hx=>?_
   obtain ⟨y,h1,h2⟩:=H4 h x hx
   obtain ⟨e,st'⟩:=x
   cases e with
   | normal=>exact ihb st' y Q h1 fun z hz=>hq z (h2 z hz)
   | _=>cases h1;exact hq _ (h2 _ (List.mem_singleton.2 rfl))
 | cond c t e iht ihe =>
  intro st l Q h hq
  simp only[tZ] at h
  refine A39 ?_
  split at h
  ·rename_i hc;rw[hc];exact AG5 (iht st l Q h hq)
  ·rename_i hc;rw[hc];exact AAR (ihe st l Q h hq)
  ·cases h
 | block id b ih =>
  intro st l Q h hq
  simp only[tZ,Option.map_eq_some_iff] at h
  obtain ⟨lb,h1,rfl⟩:=h
  refine A38 ?_
  refine ih st lb _ h1 fun x hx=>?_
  have:=hq (AZM id x) (List.mem_map.2 ⟨x,hx,rfl⟩)
  obtain ⟨e,st'⟩:=x
  cases e with
  | exit id' =>
   simp only[AZM,G9] at this ⊢
   split<;>rename_i e<;>simp only[e,if_true,if_false] at this<;>exact this
  | _=>exact this
 | loop b ih =>
  intro st l Q h hq
  refine A4B fun X hX=>?_
  have key:∀ (n:Nat) (st:St) (l:List (Exit×St)),rnd (tZ P E nt N b) n st=some l→(∀ x∈l,Q x.1 x.2)→X st:=by
   intro n
   induction n with
   | zero=>intro st l h;cases h
   | succ n ihn =>
    intro st l h hq
    simp only[rnd] at h
    split at h
    ·cases h
    ·rename_i lb hlb
     refine hX st (ih st lb _ hlb fun x hx=>?_)
     obtain ⟨y,h1,h2⟩:=H4 h x hx
     obtain ⟨e,st'⟩:=x
     cases e with
     | normal=>exact ihn st' y h1 fun z hz=>hq z (h2 z hz)
     | _=>cases h1;exact hq _ (h2 _ (List.mem_singleton.2 rfl))
  exact key N st l h hq
 | exit id=>intro st l Q h hq;cases h;exact A87 (hq (.exit id,st) (List.mem_singleton.2 rfl))
 | ret=>intro st l Q h hq;cases h;exact BD4 (hq (.ret,st) (List.mem_singleton.2 rfl))
 | rangeFunc _ _ _ _=>intro st l Q h;cases h
 | scope b ih =>
  intro st l Q h hq
  simp only[tZ] at h
  split at h
  ·rename_i l' hl
   split at h
   ·cases h
   ·rename_i hg
    cases h
    refine A4C (ih st l _ hl fun x hx=>?_)
    have hng:AIQ x.1=false:=by
     cases hgx:AIQ x.1 with
     | false=>rfl
     | true=>rw[List.any_eq_true.2 ⟨x,hx,hgx⟩] at hg;cases hg
    have:=hq x hx
    obtain ⟨e,st'⟩:=x
    cases e with
    | goto l=>cases hng
    | _=>exact this
  ·cases h
 | goto _=>intro st l Q h;cases h
 | refuse _=>intro st l Q h;cases h
mutual
def T.same:T→T→Bool
 | .v (.int k a),.v (.int k' b)=>decide (k=k')&&a == b
 | .v (.bool a),.v (.bool b)=>a == b
 | .v (.string a),.v (.string b)=>decide (a=b)
 | .agg a,.agg b=>yN a b
 | .bZ a,.bZ b=>yN a b
 | .sl f a,.sl g b=>(f == g)&&zT a b
 | _,_=>false
def yN:List T→List T→Bool
 | [],[]=>true
 | a::l,b::m=>T.same a b&&yN l m
 | _,_=>false
def zT:List (List T)→List (List T)→Bool
 | [],[]=>true
 | a::l,b::m=>yN a b&&zT l m
 | _,_=>false
end
mutual
theorem T.AM1:∀ (a b:T),T.same a b=true→a=b
 | a,b,h=>by
  unfold T.same at h
  split at h
  ·simp at h;obtain ⟨rfl,rfl⟩:=h;rfl
  ·simp at h;subst h;rfl
  ·simp at h;subst h;rfl
  ·rw[zS _ _ h]
  ·rw[zS _ _ h]
  ·simp only[Bool.and_eq_true,beq_iff_eq] at h;rw[P8 _ _ h.2,h.1]
  ·cases h
theorem zS:∀ (a b:List T),yN a b=true→a=b
 | [],[],_=>rfl
 | a::l,b::m,h=>by simp only[yN,Bool.and_eq_true] at h;rw[T.AM1 a b h.1,zS l m h.2]
 | [],_::_,h=>by simp[yN] at h
 | _::_,[],h=>by simp[yN] at h
theorem P8:∀ (a b:List (List T)),zT a b=true→a=b
 | [],[],_=>rfl
 | a::l,b::m,h=>by simp only[zT,Bool.and_eq_true] at h;rw[zS a b h.1,P8 l m h.2]
 | [],_::_,h=>by simp[zT] at h
 | _::_,[],h=>by simp[zT] at h
end
def kV:Exit→Bool
 | .normal=>true
 | .ret=>true
 | _=>false
def DI (F:St→Option T):List (Exit×St)→Option T
 | []=>none
 | [(e,st)]=>match kV e with
  | true=>F st
  | false=>none
 | (e,st)::l=>match kV e,F st,DI F l with
  | true,some a,some b=>if T.same a b=true then some b else none
  | _,_,_=>none
theorem AEG {F:St→Option T}:∀ {l:List (Exit×St)} {r:T},DI F l=some r→∀ x∈l,(x.1 = .normal∨x.1 = .ret)∧F x.2=some r:=by
 have hx:∀ e,kV e=true→e = .normal∨e = .ret:=by
  intro e he;cases e<;>simp[kV] at he<;>simp
 intro l
 induction l with
 | nil=>intro r h x hx;cases hx
 | cons y l ih =>
  intro r h x hm
  cases l with
  | nil =>
   simp only[DI] at h
   split at h
   ·simp_all
   ·cases h
  | cons z l =>
   simp only[DI] at h
   split at h
   ·rename_i a b he ha hb
    split at h
    ·rename_i hs
     cases h
     rcases List.mem_cons.1 hm with rfl|hm
     ·exact ⟨hx _ he,by rw[ha,T.AM1 _ _ hs]⟩
     ·exact ih hb x hm
    ·cases h
   ·cases h
def K0 (P:Program) (rs:Array ResultVar):List (Exit×St)→Option (D×(Nat→Option bB)×Nat)
 | [(e,st)]=>match kV e with
  | true=>A10 P rs st
  | false=>none
 | _=>none
def BA5 (B:Env) (f:FuncId):Bool:=match B (3000000000+f) with
 | some .mark=>true
 | _=>false
def KL (P:Program) (N:Nat) (hp:FuncId→Bool) (B:Env):Nat→Env
 | 0=>fun _=>none
 | k+1=>fun f=>match B f with
  | some x=>some x
  | none=>match P.funcs[f]? with
  | none=>none
  | some fn=>match fn.body with
   | none=>none
   | some c =>
    match hp f,BA5 B f with
    | true,false=>some (.heap fun args σ n=>match decide (args.length≤fn.ntmps),tZ P (KL P N hp B k) fn.ntmps N c (GK args σ n) with
     | true,some l=>K0 P fn.results l
     | _,_=>none)
    | false,_=>some (.read fun args σ n=>match decide (args.length≤fn.ntmps),tZ P (KL P N hp B k) fn.ntmps N c (GK args (XA σ) n) with
     | true,some l=>DI (AJR P fn.results) l
     | _,_=>none)
    | true,true=>some (.both (fun args σ n=>match decide (args.length≤fn.ntmps),tZ P (KL P N hp B k) fn.ntmps N c (GK args (XA σ) n) with
     | true,some l=>DI (AJR P fn.results) l
     | _,_=>none) (fun args σ n=>match decide (args.length≤fn.ntmps),tZ P (KL P N hp B k) fn.ntmps N c (GK args σ n) with
     | true,some l=>K0 P fn.results l
     | _,_=>none))
def cE (P:Program):Bool:=P.funcs.all fun fn=>!(fn.name == "runtime.NumGoroutine")
theorem AMZ {P:Program} (hm:P.follows .mixedOrders=true) (hn:cE P=true) (N:Nat) (hp:FuncId→Bool) {B:Env} (hB:aT P B):∀ k,aT P (KL P N hp B k):=by
 intro k
 induction k with
 | zero=>intro f x h;cases h
 | succ k ih =>
  intro f x h
  simp only[KL] at h
  split at h
  ·rename_i hx;cases h;exact hB f _ hx
  split at h
  ·cases h
  ·rename_i fn hf
   have hname:(fn.name == "runtime.NumGoroutine")=false:=by
    have:=Array.all_eq_true_iff_forall_mem.1 hn fn (Array.mem_of_getElem? hf)
    simp_all
   split at h
   ·cases h
   ·rename_i c hb
    have hheap:cY P f (fun args σ n=>match decide (args.length≤fn.ntmps),tZ P (KL P N hp B k) fn.ntmps N c (GK args σ n) with
     | true,some l=>K0 P fn.results l
     | _,_=>none):=by
     refine AQY ih hm hf hname hb fun args σ n r hg=>?_
     split at hg
     ·rename_i l hl hr
      refine ⟨by simpa using hl,PJ c _ l _ hr ?_⟩
      unfold K0 at hg
      split at hg
      ·rename_i e st
       split at hg
       ·rename_i he
        intro x hx
        rcases List.mem_cons.1 hx with rfl|hx
        ·exact ⟨by cases e<;>simp[kV] at he<;>simp,hg⟩
        ·cases hx
       ·cases hg
      ·cases hg
     ·cases hg
    have hread:lM P f (fun args σ n=>match decide (args.length≤fn.ntmps),tZ P (KL P N hp B k) fn.ntmps N c (GK args (XA σ) n) with
     | true,some l=>DI (AJR P fn.results) l
     | _,_=>none):=by
     refine ASL ih hm hf hname hb fun args σ n r hg=>?_
     split at hg
     ·rename_i l hl hr
      exact ⟨by simpa using hl,PJ c _ l _ hr fun x hx=>AEG hg x hx⟩
     ·cases hg
    split at h
    ·cases h;exact hheap
    ·cases h;exact hread
    ·cases h;exact ⟨hread,hheap⟩
def ASO (P:Program) (N:Nat) (hp:FuncId→Bool) (B:Env) (k:Nat) (f:FuncId) (args:List T):Option T :=
 match KL P N hp B k f with
 | some (.read g)=>g (args.map .p) (fun _=>none) 0
 | _=>none
theorem lM.pure {P:Program} {f:FuncId} {g:List D→(Nat→Option bB)→Nat→Option T} (h:lM P f g):aN P f (fun args=>g (args.map .p) (fun _=>none) 0):=by
 refine ⟨h.entry,fun w own args vs r hG hown ha hr=>?_⟩
 have hown':∀ b,bL (KC P own w) (fun _=>none) (fun _=>none) b↔own b:=fun b=>by
  refine ⟨fun hb=>?_,fun hb=>.inl hb⟩
  rcases hb with hb|⟨k,l,x,hk,_,_⟩
  ·exact hb
  ·cases hk
 refine (h.calls (KC P own w) (fun _=>none) (fun _=>none) 0 w (args.map .p) vs r rfl hG (BA4 P own w hG hown) (cZ.map (R:=cN w own) _ ha fun d v hd=>.p _ _ (hd.less fun b hb=>(hown' b).1 hb)) hr).mono ?_
 rintro e w' ⟨v,rfl,h1,h2⟩
 exact ⟨v,rfl,h1.less fun b hb=>(hown' b).2 hb,h2⟩
theorem AP8 {P:Program} (hm:P.follows .mixedOrders=true) (hn:cE P=true) (N:Nat) (hp:FuncId→Bool) {B:Env} (hB:aT P B) (k:Nat) {f:FuncId} {r:T} (h:ASO P N hp B k f []=some r):aN P f (fun args=>match args with | []=>some r|_=>none):=by
 unfold ASO at h
 split at h
 ·rename_i g hg
  have hp:aN P f _:=lM.pure (AMZ hm hn N hp hB k f _ hg)
  refine ⟨hp.entry,fun w own args vs r' hG ho ha hr=>?_⟩
  split at hr
  ·cases hr;exact hp.calls w own [] vs r hG ho ha h
  ·cases hr
 ·cases h
end Go.Pv
