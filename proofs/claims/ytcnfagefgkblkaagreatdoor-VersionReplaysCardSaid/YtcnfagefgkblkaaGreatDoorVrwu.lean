/-
  The pure evaluator, part u: closed runs: code as a function that the kernel computes.
-/
import Derived.Test.YtcnfagefgkblkaaGreatDoorVrwn
set_option linter.defProp false
set_option linter.unusedSimpArgs false
namespace Go.Pv
open Go Go.RowKit
def A6Z {α β:Type} (f:α->Option (List β)):List α->Option (List β)
 | []=>some []
 | a::l=>match f a with
  | none=>none
  | some x=>match A6Z f l with
   | none=>none
   | some y=>some (x++y)
def I4 {α β:Type} {f:α->Option (List β)}:∀ {l:List α} {r:List β},A6Z f l=some r->∀ a∈l,∃ x,f a=some x/\∀ b∈x,b∈r
 | [],_,_,a,ha=>by cases ha
 | a::l,r,h,b,hb=>by
  simp only[A6Z] at h;split at h
  ·cases h
  ·rename_i x hx;split at h
   ·cases h
   ·rename_i y hy;cases h;rcases List.mem_cons.1 hb with rfl|hb
    ·exact ⟨x,hx,λc hc=>by simp[hc]⟩
    ·obtain ⟨z,h1,h2⟩:=I4 hy b hb;exact ⟨z,h1,λc hc=>by simp[h2 c hc]⟩
def rnd (F:St->Option (List (Exit×St))):Nat->St->Option (List (Exit×St))
 | 0,_=>none
 | n+1,st=>match F st with
  | none=>none
  | some l=>A6Z (λx=>match x with
   | (.normal,st')=>rnd F n st'
   | x=>some [x]) l
def A6D (id:Nat) (x:Exit×St):Exit×St:=match x with
 | (.exit id',st)=>if id'=id then (.normal,st) else (.exit id',st)
 | x=>x
def ALM:Exit->Bool
 | .goto _=>true
 | _=>false
def tI (P:Program) (E:Env) (nt N:Nat):Code->St->Option (List (Exit×St))
 | .skip,st=>some [(.normal,st)]
 | .label _,st=>some [(.normal,st)]
 | .region _ ops draw,st =>
  match draw,steps ops,sJ (E.view draw) ops with
  | false,_,_|true,false,true=>(evR P (E.view draw) nt ops st).map (·.map λs=>(Exit.normal,s))
  | true,_,_=>match tG false (E.view true) ops with
   | true=>(evD false P (E.view true) nt ops st.n (ES false (E.view true) ops) (fJ ops st)).map λs=>[(Exit.normal,s)]
   | false=>match Nat.ble ops.size 10 with
    | true=>(W2 P (E.view true) nt ops ops.size (Array.replicate ops.size false) st).map λl=>(D1 nt l).map λs=>(Exit.normal,s)
    | false=>none
 | .seq a b,st=>match tI P E nt N a st with
  | none=>none
  | some l=>A6Z (λx=>match x with
   | (.normal,st')=>tI P E nt N b st'
   | x=>some [x]) l
 | .cond c t e,st=>match ev (cD true st.s) c with
  | .p (.v (.bool true))=>tI P E nt N t st
  | .p (.v (.bool false))=>tI P E nt N e st
  | _=>none
 | .block id b,st=>(tI P E nt N b st).map (·.map (A6D id))
 | .loop b,st=>rnd (tI P E nt N b) N st
 | .exit id,st=>some [(.exit id,st)]
 | .ret,st=>some [(.ret,st)]
 | .scope b,st=>match tI P E nt N b st with
  | some l=>match l.any λx=>ALM x.1 with
   | true=>none
   | false=>some l
  | none=>none
 | _,_=>none
variable {P:Program}
def QY {E:Env} {nt N:Nat}:∀ (c:Code) (st:St) (l:List (Exit×St)) (Q:Exit->St->Prop),tI P E nt N c st=some l->(∀ x∈l,Q x.1 x.2)->C0 P E nt c Q st:=by
 intro c
 induction c with
 | skip=>intro st l Q h hq;cases h;exact BI5 (hq (.normal,st) (List.mem_singleton.2 rfl))
 | label l=>intro st l Q h hq;cases h;exact BCK (l:=l) (hq (.normal,st) (List.mem_singleton.2 rfl))
 | region id ops draw =>
  intro st l Q h hq;have key:((draw=false\/(sJ (E.view draw) ops=true/\steps ops=false))/\(evR P (E.view draw) nt ops st).map (·.map λs=>(Exit.normal,s))=some l) \/
    (draw=true/\tG false (E.view true) ops=true/\(evD false P (E.view true) nt ops st.n (ES false (E.view true) ops) (fJ ops st)).map (λs=>[(Exit.normal,s)])=some l) \/
    (draw=true/\(W2 P (E.view true) nt ops ops.size (Array.replicate ops.size false) st).map (λl=>(D1 nt l).map λs=>(Exit.normal,s))=some l):=by
   simp only[tI] at h;split at h
   ·exact .inl ⟨.inl rfl,h⟩
   ·rename_i h1 h2;exact .inl ⟨.inr ⟨h2,h1⟩,h⟩
   ·split at h
    ·rename_i hd;exact .inr (.inl ⟨rfl,hd,h⟩)
    ·split at h
     ·exact .inr (.inr ⟨rfl,h⟩)
     ·cases h
  rcases key with key|⟨rfl,hd,h2⟩|⟨rfl,h2⟩
  rotate_left
  rotate_left
  ·simp only[aa] at h2;obtain ⟨sts,h3,rfl⟩:=h2;exact ASY h3 λs hs=>hq (.normal,s) (List.mem_map.2 ⟨s,hs,rfl⟩)
  rotate_left
  ·simp only[aa] at h2;obtain ⟨st',h3,rfl⟩:=h2;exact ASZ hd h3 (hq (.normal,st') (List.mem_singleton.2 rfl))
  obtain ⟨h1,h2⟩:=key;refine ASX ⟨h1,?_⟩;simp only[aa] at h2;obtain ⟨sts,h3,rfl⟩:=h2;unfold GL;rw[h3];exact λst' hs=>hq (.normal,st') (List.mem_map.2 ⟨st',hs,rfl⟩)
 | seq a b iha ihb =>
  intro st l Q h hq;simp only[tI] at h;split at h
  ·cases h
  ·rename_i la hla;refine BOU ?_;refine iha st la _ hla λx hx=>?_;obtain ⟨y,h1,h2⟩:=I4 h x hx;obtain ⟨e,st'⟩:=x;cases e with
   | normal=>exact ihb st' y Q h1 λz hz=>hq z (h2 z hz)
   | _=>cases h1;exact hq _ (h2 _ (List.mem_singleton.2 rfl))
 | cond c t e iht ihe =>
  intro st l Q h hq;simp only[tI] at h;refine BCJ ?_;split at h
  ·rename_i hc;rw[hc];exact AJV (iht st l Q h hq)
  ·rename_i hc;rw[hc];exact ACH (ihe st l Q h hq)
  ·cases h
 | block id b ih =>
  intro st l Q h hq;simp only[tI,aa] at h;obtain ⟨lb,h1,rfl⟩:=h;refine BCI ?_;refine ih st lb _ h1 λx hx=>?_;have:=hq (A6D id x) (List.mem_map.2 ⟨x,hx,rfl⟩);obtain ⟨e,st'⟩:=x;cases e with
  | exit id' =>
   simp only[A6D,HY] at this ⊢;split<;>rename_i e<;>simp only[e,if_true,if_false] at this<;>exact this
  | _=>exact this
 | loop b ih =>
  intro st l Q h hq;refine BCL λX hX=>?_;simp only[tI] at h;have key:∀ (n:Nat) (st:St) (l:List (Exit×St)),rnd (tI P E nt N b) n st=some l->(∀ x∈l,Q x.1 x.2)->X st:=by
   intro n
   induction n with
   | zero=>intro st l h;cases h
   | succ n ihn =>
    intro st l h hq;simp only[rnd] at h;split at h
    ·cases h
    ·rename_i lb hlb;refine hX st (ih st lb _ hlb λx hx=>?_);obtain ⟨y,h1,h2⟩:=I4 h x hx;obtain ⟨e,st'⟩:=x;cases e with
     | normal=>exact ihn st' y h1 λz hz=>hq z (h2 z hz)
     | _=>cases h1;exact hq _ (h2 _ (List.mem_singleton.2 rfl))
  exact key N st l h hq
 | exit id=>intro st l Q h hq;cases h;exact BI4 (hq (.exit id,st) (List.mem_singleton.2 rfl))
 | ret=>intro st l Q h hq;cases h;exact BOT (hq (.ret,st) (List.mem_singleton.2 rfl))
 | rangeFunc _ _ _ _=>intro st l Q h;cases h
 | scope b ih =>
  intro st l Q h hq;simp only[tI] at h;split at h
  ·rename_i l' hl;split at h
   ·cases h
   ·rename_i hg;cases h;refine BCM (ih st l _ hl λx hx=>?_);have hng:ALM x.1=false:=by
     cases hgx:ALM x.1 with
     | false=>rfl
     | true=>rw[List.any_eq_true.2 ⟨x,hx,hgx⟩] at hg;cases hg
    have:=hq x hx;obtain ⟨e,st'⟩:=x;cases e with
    | goto l=>cases hng
    | _=>exact this
  ·cases h
 | goto _=>intro st l Q h;cases h
 | refuse _=>intro st l Q h;cases h
mutual
def T.same:T->T->Bool
 | .v (.int k a),.v (.int k' b)=>decide (k=k')&&a == b
 | .v (.bool a),.v (.bool b)=>a == b
 | .v (.string a),.v (.string b)=>decide (a=b)
 | .agg a,.agg b=>z8 a b
 | .bX a,.bX b=>z8 a b
 | .sl f a,.sl g b=>(f == g)&&BG a b
 | _,_=>false
def z8:List T->List T->Bool
 | [],[]=>true
 | a::l,b::m=>T.same a b&&z8 l m
 | _,_=>false
def BG:List (List T)->List (List T)->Bool
 | [],[]=>true
 | a::l,b::m=>z8 a b&&BG l m
 | _,_=>false
end
mutual
def T.AQF:∀ (a b:T),T.same a b=true->a=b
 | a,b,h=>by
  unfold T.same at h;split at h
  ·simp at h;obtain ⟨rfl,rfl⟩:=h;rfl
  ·simp at h;subst h;rfl
  ·simp at h;subst h;rfl
  ·rw[BF _ _ h]
  ·rw[BF _ _ h]
  ·simp only[ac,beq_iff_eq] at h;rw[RP _ _ h.2,h.1]
  ·cases h
def BF:∀ (a b:List T),z8 a b=true->a=b
 | [],[],_=>rfl
 | a::l,b::m,h=>by simp only[z8,ac] at h;rw[T.AQF a b h.1,BF l m h.2]
 | [],_::_,h=>by simp[z8] at h
 | _::_,[],h=>by simp[z8] at h
def RP:∀ (a b:List (List T)),BG a b=true->a=b
 | [],[],_=>rfl
 | a::l,b::m,h=>by simp only[BG,ac] at h;rw[BF a b h.1,RP l m h.2]
 | [],_::_,h=>by simp[BG] at h
 | _::_,[],h=>by simp[BG] at h
end
def lY:Exit->Bool
 | .normal=>true
 | .ret=>true
 | _=>false
def D5 (F:St->Option T):List (Exit×St)->Option T
 | []=>none
 | [(e,st)]=>match lY e with
  | true=>F st
  | false=>none
 | (e,st)::l=>match lY e,F st,D5 F l with
  | true,some a,some b=>if T.same a b=true then some b else none
  | _,_,_=>none
def AGJ {F:St->Option T}:∀ {l:List (Exit×St)} {r:T},D5 F l=some r->∀ x∈l,(x.1 = .normal\/x.1 = .ret)/\F x.2=some r:=by
 have hx:∀ e,lY e=true->e = .normal\/e = .ret:=by
  intro e he;cases e<;>simp[lY] at he<;>simp
 intro l
 induction l with
 | nil=>intro r h x hx;cases hx
 | cons y l ih =>
  intro r h x hm;obtain ⟨e,st⟩:=y;cases l with
  | nil =>
   simp only[D5] at h;split at h
   ·rename_i he;rcases List.mem_cons.1 hm with rfl|hm
    ·exact ⟨hx _ he,h⟩
    ·cases hm
   ·cases h
  | cons z l =>
   simp only[D5] at h;split at h
   ·rename_i a b he ha hb;split at h
    ·rename_i hs;cases h;rcases List.mem_cons.1 hm with rfl|hm
     ·exact ⟨hx _ he,by rw[ha,T.AQF _ _ hs]⟩
     ·exact ih hb x hm
    ·cases h
   ·cases h
def L4 (P:Program) (rs:Array ResultVar):List (Exit×St)->Option (D×(Nat->Option bE)×Nat)
 | [(e,st)]=>match lY e with
  | true=>A81 P rs st
  | false=>none
 | _=>none
def BK3 (B:Env) (f:FuncId):Bool:=match B (3000000000+f) with
 | some .mark=>true
 | _=>false
def LM (P:Program) (N:Nat) (hp:FuncId->Bool) (B:Env):Nat->Env
 | 0=>λ_=>none
 | k+1=>λf=>match B f with
  | some x=>some x
  | none=>match P.funcs[f]? with
  | none=>none
  | some fn=>match fn.body with
   | none=>none
   | some c =>
    match hp f,BK3 B f with
    | true,false=>some (.heap λargs σ n=>match decide (args.length<=fn.ntmps),tI P (LM P N hp B k) fn.ntmps N c (R1 args σ n) with
     | true,some l=>L4 P fn.results l
     | _,_=>none)
    | false,_=>some (.read λargs σ n=>match decide (args.length<=fn.ntmps),tI P (LM P N hp B k) fn.ntmps N c (R1 args (Y8 σ) n) with
     | true,some l=>D5 (AMO P fn.results) l
     | _,_=>none)
    | true,true=>some (.both (λargs σ n=>match decide (args.length<=fn.ntmps),tI P (LM P N hp B k) fn.ntmps N c (R1 args (Y8 σ) n) with
     | true,some l=>D5 (AMO P fn.results) l
     | _,_=>none) (λargs σ n=>match decide (args.length<=fn.ntmps),tI P (LM P N hp B k) fn.ntmps N c (R1 args σ n) with
     | true,some l=>L4 P fn.results l
     | _,_=>none))
def cI (P:Program):Bool:=P.funcs.all λfn=>!(fn.name == "runtime.NumGoroutine")
variable {P:Program}{B:Env}
def AQC (hm:P.follows .mixedOrders=true) (hn:cI P=true) (N:Nat) (hp:FuncId->Bool) (hB:aQ P B):∀ k,aQ P (LM P N hp B k):=by
 intro k
 induction k with
 | zero=>intro f x h;cases h
 | succ k ih =>
  intro f x h;simp only[LM] at h;split at h
  ·rename_i hx;cases h;exact hB f _ hx
  split at h
  ·cases h
  ·rename_i fn hf
   have hname:(fn.name == "runtime.NumGoroutine")=false:=by
    have:=Array.all_eq_true_iff_forall_mem.1 hn fn (Array.mem_of_getElem? hf);simpa using this
   split at h
   ·cases h
   ·rename_i c hb;have hheap:cB P f (λargs σ n=>match decide (args.length<=fn.ntmps),tI P (LM P N hp B k) fn.ntmps N c (R1 args σ n) with
     | true,some l=>L4 P fn.results l
     | _,_=>none):=by
     refine AVB ih hm hf hname hb λargs σ n r hg=>?_;split at hg
     ·rename_i l hl hr;refine ⟨by simpa using hl,QY c _ l _ hr ?_⟩;unfold L4 at hg;split at hg
      ·rename_i e st;split at hg
       ·rename_i he;intro x hx;rcases List.mem_cons.1 hx with rfl|hx
        ·exact ⟨by cases e<;>simp[lY] at he<;>simp,hg⟩
        ·cases hx
       ·cases hg
      ·cases hg
     ·cases hg
    have hread:o0 P f (λargs σ n=>match decide (args.length<=fn.ntmps),tI P (LM P N hp B k) fn.ntmps N c (R1 args (Y8 σ) n) with
     | true,some l=>D5 (AMO P fn.results) l
     | _,_=>none):=by
     refine AW9 ih hm hf hname hb λargs σ n r hg=>?_;split at hg
     ·rename_i l hl hr;exact ⟨by simpa using hl,QY c _ l _ hr λx hx=>AGJ hg x hx⟩
     ·cases hg
    split at h
    ·cases h;exact hheap
    ·cases h;exact hread
    ·cases h;exact ⟨hread,hheap⟩
def AXC (P:Program) (N:Nat) (hp:FuncId->Bool) (B:Env) (k:Nat) (f:FuncId) (args:List T):Option T :=
 match LM P N hp B k f with
 | some (.read g)=>g (args.map .p) (λ_=>none) 0
 | _=>none
def o0.pure {f:FuncId} {g:List D->(Nat->Option bE)->Nat->Option T} (h:o0 P f g):aM P f (λargs=>g (args.map .p) (λ_=>none) 0):=by
 refine ⟨h.entry,λw own args vs r hG hown ha hr=>?_⟩;have hown':∀ b,Own (SQ P own w) (λ_=>none) (λ_=>none) b↔own b:=λb=>by
  refine ⟨λhb=>?_,λhb=>.inl hb⟩;rcases hb with hb|⟨k,l,x,hk,_,_⟩
  ·exact hb
  ·cases hk
 refine (h.calls (SQ P own w) (λ_=>none) (λ_=>none) 0 w (args.map .p) vs r rfl hG (BPC P own w hG hown) (dF.map (R:=cO w own) _ ha λd v hd=>.p _ _ (hd.less λb hb=>(hown' b).1 hb)) hr).mono ?_;rintro e w' ⟨v,rfl,h1,h2⟩;exact ⟨v,rfl,h1.less λb hb=>(hown' b).2 hb,h2⟩
def AUB (hm:P.follows .mixedOrders=true) (hn:cI P=true) (N:Nat) (hp:FuncId->Bool) (hB:aQ P B) (k:Nat) {f:FuncId} {r:T} (h:AXC P N hp B k f []=some r):aM P f (λargs=>match args with | []=>some r|_=>none):=by
 unfold AXC at h;split at h
 ·rename_i g hg;have hp:aM P f _:=o0.pure (AQC hm hn N hp hB k f _ hg);refine ⟨hp.entry,λw own args vs r' hG ho ha hr=>?_⟩;split at hr
  ·cases hr;exact hp.calls w own [] vs r hG ho ha h
  ·cases hr
 ·cases h
end Go.Pv
