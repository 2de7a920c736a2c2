/-
  The pure evaluator, part u: closed runs: code as a function that the kernel computes.
-/
import Derived.Test.YtepoplfbgaoggaaGreatDoorOnewn
set_option linter.defProp false
set_option linter.unusedSimpArgs false
namespace Go.Pv
open Go Go.RowKit
def BBX {α β:Type} (f:α->Option (List β)):List α->Option (List β)
 | []=>some []
 | a::l=>match f a with
  | none=>none
  | some x=>match BBX f l with
   | none=>none
   | some y=>some (x++y)
def MN {α β:Type} {f:α->Option (List β)}:∀ {l:List α} {r:List β},BBX f l=some r->∀ a∈l,∃ x,f a=some x/\∀ b∈x,b∈r
 | [],_,_,a,ha=>by cases ha
 | a::l,r,h,b,hb=>by
  simp only[BBX] at h;split at h
  ·cases h
  ·split at h
   ·cases h
   ·rename_i y hy;cases h;rcases List.mem_cons.1 hb with rfl|hb
    ·simp_all
    ·obtain ⟨z,h1,h2⟩:=MN hy b hb;simp_all
def rnd (F:St->Option (List (Exit×St))):Nat->St->Option (List (Exit×St))
 | 0,_=>none
 | n+1,st=>match F st with
  | none=>none
  | some l=>BBX (λx=>match x with
   | (.normal,st')=>rnd F n st'
   | x=>some [x]) l
def BA7 (id:Nat) (x:Exit×St):Exit×St:=match x with
 | (.exit id',st)=>if id'=id then (.normal,st) else (.exit id',st)
 | x=>x
def ARR:Exit->Bool
 | .goto _=>true
 | _=>false
def wR (P:Program) (E:Env) (nt N:Nat):Code->St->Option (List (Exit×St))
 | .skip,st=>some [(.normal,st)]
 | .label _,st=>some [(.normal,st)]
 | .region _ ops draw,st =>
  match draw,QS (E.view draw) ops with
  | false,_|true,true=>(evL P (E.view draw) nt ops ops.toList st).map λs=>[(Exit.normal,s)]
  | true,_=>match AUR (E.view true) ops st with
   | some (M,base)=>(evD M P (E.view true) nt ops base (APR M (E.view true) ops) (p9 ops st)).map λs=>[(Exit.normal,s)]
   | none=>none
 | .seq a b,st=>match wR P E nt N a st with
  | none=>none
  | some l=>BBX (λx=>match x with
   | (.normal,st')=>wR P E nt N b st'
   | x=>some [x]) l
 | .cond c t e,st=>match ev (cN true st.s) c with
  | .p (.v (.bool true))=>wR P E nt N t st
  | .p (.v (.bool false))=>wR P E nt N e st
  | _=>none
 | .block id b,st=>(wR P E nt N b st).map (·.map (BA7 id))
 | .loop b,st=>rnd (wR P E nt N b) N st
 | .exit id,st=>some [(.exit id,st)]
 | .ret,st=>some [(.ret,st)]
 | .scope b,st=>match wR P E nt N b st with
  | some l=>match l.any λx=>ARR x.1 with
   | true=>none
   | false=>some l
  | none=>none
 | _,_=>none
def V2 {cx:Cx} {E:Env} {nt N:Nat} (hE:bB cx.P E) (hm:cx.P.follows .mixedOrders=true):∀ (c:Code) (st:St) (l:List (Exit×St)) (Q:Exit->St->Prop),wR cx.P E nt N c st=some l->(∀ x∈l,Q x.1 x.2)->AW cx nt c Q st:=by
 intro c
 induction c with
 | skip=>intro st l Q h hq ρ a w hr;cases h;exact wp_skip ⟨st,ρ,hr,hq (.normal,st) (List.mem_singleton.2 rfl)⟩
 | label _=>intro st l Q h hq ρ a w hr;cases h;exact wp_label ⟨st,ρ,hr,hq (.normal,st) (List.mem_singleton.2 rfl)⟩
 | region id ops draw =>
  intro st l Q h hq;simp only[wR] at h;have one:∀ {E':Env},(evL cx.P E' nt ops ops.toList st).map (λs=>[(Exit.normal,s)])=some l->∃ st',evL cx.P E' nt ops ops.toList st=some st'/\Q .normal st':=λh=>by
   simp only[aa] at h;obtain ⟨st',h3,rfl⟩:=h;exact ⟨st',h3,hq (.normal,st') (List.mem_singleton.2 rfl)⟩
  split at h
  ·obtain ⟨st',h1,h2⟩:=one h;exact AW1 (hE.view _) h1 h2
  ·rename_i ho;obtain ⟨st',h1,h2⟩:=one h;exact AUC (hE.view _) hm ho h1 h2
  ·split at h
   ·rename_i M base hd;simp only[aa] at h;obtain ⟨st',h3,rfl⟩:=h;exact AGW (hE.view _) hm hd h3 (hq (.normal,st') (List.mem_singleton.2 rfl))
   ·cases h
 | seq a b iha ihb =>
  intro st l Q h hq ρ act w hr;simp only[wR] at h;split at h
  ·cases h
  ·rename_i la hla;refine wp_seq (wp_mono (iha st la (BFA (AW cx nt b Q) Q) hla (λx hx=>?_) ρ act w hr) ?_)
   ·obtain ⟨y,h1,h2⟩:=MN h x hx;obtain ⟨e,st'⟩:=x;cases e with
    | normal=>exact ihb st' y Q h1 λz hz=>hq z (h2 z hz)
    | _=>cases h1;exact hq _ (h2 _ (List.mem_singleton.2 rfl))
   ·rintro e a' w' ⟨st',ρ',hr',hq⟩;cases e<;>first|exact hq ρ' a' w' hr'|exact ⟨st',ρ',hr',hq⟩
 | cond c t e iht ihe =>
  intro st l Q h hq ρ a w hr;simp only[wR] at h;have hv:∀ b,ev (cN true st.s) c = .p (.v (.bool b))->a.eval c = .bool b:=λb hb=>by
   have hev:=hr.evS c;rw[hb] at hev;generalize a.eval c=q at hev ⊢;cases hev with
   | p _ _ h=>cases h;rfl
  split at h
  ·rename_i hc;exact wp_cond (hv _ hc) (iht st l Q h hq ρ a w hr)
  ·rename_i hc;exact wp_cond (hv _ hc) (ihe st l Q h hq ρ a w hr)
  ·cases h
 | block id b ih =>
  intro st l Q h hq ρ a w hr;simp only[wR,aa] at h;obtain ⟨lb,h1,rfl⟩:=h;refine wp_block (wp_mono (ih st lb (S7 id Q) h1 (λx hx=>?_) ρ a w hr) ?_)
  ·have:=hq (BA7 id x) (List.mem_map.2 ⟨x,hx,rfl⟩);obtain ⟨e,st'⟩:=x;cases e with
   | exit id' =>
    simp only[BA7,S7] at this ⊢;split<;>rename_i e<;>simp only[e,if_true,if_false] at this<;>exact this
   | _=>exact this
  ·rintro e a' w' ⟨st',ρ',hr',hq⟩;cases e with
   | exit id' =>
    simp only[S7] at hq;simp only[Exit.inBlock];split at hq
    ·rename_i e;rw[if_pos e];exact ⟨st',ρ',hr',hq⟩
    ·rename_i e;rw[if_neg e];exact ⟨st',ρ',hr',hq⟩
   | _=>exact ⟨st',ρ',hr',hq⟩
 | loop b ih =>
  intro st l Q h hq ρ a w hr;refine u7.wp ?_;have key:∀ (n:Nat) (st:St) (l:List (Exit×St)),rnd (wR cx.P E nt N b) n st=some l->(∀ x∈l,Q x.1 x.2)->∀ ρ a w,Rel cx nt ρ st a w->u7 cx.P b (DZ cx nt Q) a w:=by
   intro n
   induction n with
   | zero=>intro st l h;cases h
   | succ n ihn =>
    intro st l h hq ρ a w hr;simp only[rnd] at h;split at h
    ·cases h
    ·rename_i lb hlb;refine u7.round (wp_mono (ih st lb (BFA (λst=>∀ ρ a w,Rel cx nt ρ st a w->u7 cx.P b (DZ cx nt Q) a w) Q) hlb (λx hx=>?_) ρ a w hr) ?_)
     ·obtain ⟨y,h1,h2⟩:=MN h x hx;obtain ⟨e,st'⟩:=x;cases e with
      | normal=>exact ihn st' y h1 λz hz=>hq z (h2 z hz)
      | _=>cases h1;exact hq _ (h2 _ (List.mem_singleton.2 rfl))
     ·rintro e a' w' ⟨st',ρ',hr',hq⟩;cases e<;>first|exact hq ρ' a' w' hr'|exact ⟨st',ρ',hr',hq⟩
  exact key N st l h hq ρ a w hr
 | exit id=>intro st l Q h hq ρ a w hr;cases h;exact wp_exit ⟨st,ρ,hr,hq (.exit id,st) (List.mem_singleton.2 rfl)⟩
 | ret=>intro st l Q h hq ρ a w hr;cases h;exact wp_ret ⟨st,ρ,hr,hq (.ret,st) (List.mem_singleton.2 rfl)⟩
 | rangeFunc _ _ _ _=>intro st l Q h;cases h
 | scope b ih =>
  intro st l Q h hq ρ a w hr;simp only[wR] at h;split at h
  ·rename_i l' hl;split at h
   ·cases h
   ·rename_i hg;cases h;refine wp_scope_straight (wp_mono (ih st l (AVM Q) hl (λx hx=>?_) ρ a w hr) ?_)
    ·have hng:ARR x.1=false:=by
      cases hgx:ARR x.1 with
      | false=>rfl
      | true=>rw[List.any_eq_true.2 ⟨x,hx,hgx⟩] at hg;cases hg
     have:=hq x hx;obtain ⟨e,st'⟩:=x;cases e with
     | goto l=>cases hng
     | _=>exact this
    ·rintro e a' w' ⟨st',ρ',hr',hq⟩;cases e with
     | goto l=>exact hq.elim
     | _=>exact ⟨st',ρ',hr',hq⟩
  ·cases h
 | goto _=>intro st l Q h;cases h
 | refuse _=>intro st l Q h;cases h
mutual
def T.same:T->T->Bool
 | .v (.int k a),.v (.int k' b)=>decide (k=k')&&a == b
 | .v (.bool a),.v (.bool b)=>a == b
 | .v (.string a),.v (.string b)=>decide (a=b)
 | .agg a,.agg b=>BW a b
 | .cB a,.cB b=>BW a b
 | .sl f a,.sl g b=>(f == g)&&DA a b
 | _,_=>false
def BW:List T->List T->Bool
 | [],[]=>true
 | a::l,b::m=>T.same a b&&BW l m
 | _,_=>false
def DA:List (List T)->List (List T)->Bool
 | [],[]=>true
 | a::l,b::m=>BW a b&&DA l m
 | _,_=>false
end
mutual
def T.AWE:∀ (a b:T),T.same a b=true->a=b
 | a,b,h=>by
  unfold T.same at h;split at h
  ·simp at h;obtain ⟨rfl,rfl⟩:=h;rfl
  ·simp at h;subst h;rfl
  ·simp at h;subst h;rfl
  ·rw[C9 _ _ h]
  ·rw[C9 _ _ h]
  ·simp only[ac,beq_iff_eq] at h;rw[W8 _ _ h.2,h.1]
  ·cases h
def C9:∀ (a b:List T),BW a b=true->a=b
 | [],[],_=>rfl
 | a::l,b::m,h=>by simp only[BW,ac] at h;rw[T.AWE a b h.1,C9 l m h.2]
 | [],_::_,h=>by simp[BW] at h
 | _::_,[],h=>by simp[BW] at h
def W8:∀ (a b:List (List T)),DA a b=true->a=b
 | [],[],_=>rfl
 | a::l,b::m,h=>by simp only[DA,ac] at h;rw[C9 a b h.1,W8 l m h.2]
 | [],_::_,h=>by simp[DA] at h
 | _::_,[],h=>by simp[DA] at h
end
def n7:Exit->Bool
 | .normal=>true
 | .ret=>true
 | _=>false
def FW (F:St->Option T):List (Exit×St)->Option T
 | []=>none
 | [(e,st)]=>match n7 e with
  | true=>F st
  | false=>none
 | (e,st)::l=>match n7 e,F st,FW F l with
  | true,some a,some b=>if T.same a b=true then some b else none
  | _,_,_=>none
def AMV {F:St->Option T}:∀ {l:List (Exit×St)} {r:T},FW F l=some r->∀ x∈l,(x.1 = .normal\/x.1 = .ret)/\F x.2=some r:=by
 have hx:∀ e,n7 e=true->e = .normal\/e = .ret:=by
  intro e he;cases e<;>simp[n7] at he<;>simp
 intro l
 induction l with
 | nil=>intro r h x hx;cases hx
 | cons y l ih =>
  intro r h x hm;cases l with
  | nil =>
   simp only[FW] at h;split at h
   ·simp_all
   ·cases h
  | cons z l =>
   simp only[FW] at h;split at h
   ·rename_i a b he ha hb;split at h
    ·rename_i hs;cases h;rcases List.mem_cons.1 hm with rfl|hm
     ·exact ⟨hx _ he,by rw[ha,T.AWE _ _ hs]⟩
     ·exact ih hb x hm
    ·cases h
   ·cases h
def QT (P:Program) (rs:Array ResultVar):List (Exit×St)->Option (D×(Nat->Option bL)×Nat)
 | [(e,st)]=>match n7 e with
  | true=>BD2 P rs st
  | false=>none
 | _=>none
def BOI (B:Env) (f:FuncId):Bool:=match B (3000000000+f) with
 | some .mark=>true
 | _=>false
def AE0 (P:Program) (N:Nat) (hp:FuncId->Bool) (B:Env):Nat->Env
 | 0=>λ_=>none
 | k+1=>λf=>match B f with
  | some x=>some x
  | none=>match P.funcs[f]? with
  | none=>none
  | some fn=>match fn.body with
   | none=>none
   | some c =>
    match hp f,BOI B f with
    | true,false=>some (.heap λargs σ n=>match decide (args.length<=fn.ntmps),wR P (AE0 P N hp B k) fn.ntmps N c (stD args σ n) with
     | true,some l=>QT P fn.results l
     | _,_=>none)
    | false,_=>some (.read λargs σ n=>match decide (args.length<=fn.ntmps),wR P (AE0 P N hp B k) fn.ntmps N c (stD args (roS σ) n) with
     | true,some l=>FW (A3M P fn.results) l
     | _,_=>none)
    | true,true=>some (.both (λargs σ n=>match decide (args.length<=fn.ntmps),wR P (AE0 P N hp B k) fn.ntmps N c (stD args (roS σ) n) with
     | true,some l=>FW (A3M P fn.results) l
     | _,_=>none) (λargs σ n=>match decide (args.length<=fn.ntmps),wR P (AE0 P N hp B k) fn.ntmps N c (stD args σ n) with
     | true,some l=>QT P fn.results l
     | _,_=>none))
def cU (P:Program):Bool:=P.funcs.all λfn=>!(fn.name == "runtime.NumGoroutine")
variable {P:Program}{B:Env}
def BJ9 (hm:P.follows .mixedOrders=true) (hn:cU P=true) (N:Nat) (hp:FuncId->Bool) (hB:bB P B):∀ k,bB P (AE0 P N hp B k):=by
 intro k
 induction k with
 | zero=>intro f x h;cases h
 | succ k ih =>
  intro f x h;simp only[AE0] at h;split at h
  ·rename_i hx;cases h;exact hB f _ hx
  split at h
  ·cases h
  ·rename_i fn hf
   have hname:(fn.name == "runtime.NumGoroutine")=false:=by
    have:=Array.all_eq_true_iff_forall_mem.1 hn fn (Array.mem_of_getElem? hf);simp_all
   split at h
   ·cases h
   ·rename_i c hb;have hheap:fI P f (λargs σ n=>match decide (args.length<=fn.ntmps),wR P (AE0 P N hp B k) fn.ntmps N c (stD args σ n) with
     | true,some l=>QT P fn.results l
     | _,_=>none):=by
     refine A1J hf hname hb λargs σ n r hg=>?_;split at hg
     ·rename_i l hl hr;refine ⟨by simpa using hl,λcx hP=>?_⟩;subst hP;refine V2 ih hm c _ l _ hr ?_;unfold QT at hg;split at hg
      ·rename_i e st;split at hg
       ·rename_i he;intro x hx;rcases List.mem_cons.1 hx with rfl|hx
        ·exact ⟨by cases e<;>simp[n7] at he<;>simp,hg⟩
        ·cases hx
       ·cases hg
      ·cases hg
     ·cases hg
    have hread:xE P f (λargs σ n=>match decide (args.length<=fn.ntmps),wR P (AE0 P N hp B k) fn.ntmps N c (stD args (roS σ) n) with
     | true,some l=>FW (A3M P fn.results) l
     | _,_=>none):=by
     refine A3L hf hname hb λargs σ n r hg=>?_;split at hg
     ·rename_i l hl hr;exact ⟨by simpa using hl,λcx hP=>by subst hP;exact V2 ih hm c _ l _ hr λx hx=>AMV hg x hx⟩
     ·cases hg
    split at h
    ·cases h;exact hheap
    ·cases h;exact hread
    ·cases h;exact ⟨hread,hheap⟩
def BST (P:Program) (N:Nat) (hp:FuncId->Bool) (B:Env) (k:Nat) (f:FuncId) (args:List T):Option T :=
 match AE0 P N hp B k f with
 | some (.read g)=>g (args.map .p) (λ_=>none) 0
 | _=>none
def xE.pure {f:FuncId} {g:List D->(Nat->Option bL)->Nat->Option T} (h:xE P f g):aT P f (λargs=>g (args.map .p) (λ_=>none) 0):=by
 refine ⟨h.entry,λw own args vs r hG hown ha hr=>?_⟩;have hown':∀ b,bY (YF P own w) (λ_=>none) (λ_=>none) b↔own b:=λb=>by
  refine ⟨λhb=>?_,λhb=>.inl hb⟩;rcases hb with hb|⟨k,l,x,hk,_,_⟩
  ·exact hb
  ·cases hk
 refine (h.calls (YF P own w) (λ_=>none) (λ_=>none) 0 w (args.map .p) vs r rfl hG (BR8 P own w hG hown) (dO.map (R:=cS w own) _ ha λd v hd=>.p _ _ (hd.less λb hb=>(hown' b).1 hb)) hr).mono ?_;rintro e w' ⟨v,rfl,h1,h2⟩;exact ⟨v,rfl,h1.less λb hb=>(hown' b).2 hb,h2⟩
def A0N (hm:P.follows .mixedOrders=true) (hn:cU P=true) (N:Nat) (hp:FuncId->Bool) (hB:bB P B) (k:Nat) {f:FuncId} {r:T} (h:BST P N hp B k f []=some r):aT P f (λargs=>match args with | []=>some r|_=>none):=by
 unfold BST at h;split at h
 ·rename_i g hg;have hp:aT P f _:=xE.pure (BJ9 hm hn N hp hB k f _ hg);refine ⟨hp.entry,λw own args vs r' hG ho ha hr=>?_⟩;split at hr
  ·cases hr;exact hp.calls w own [] vs r hG ho ha h
  ·cases hr
 ·cases h
end Go.Pv
