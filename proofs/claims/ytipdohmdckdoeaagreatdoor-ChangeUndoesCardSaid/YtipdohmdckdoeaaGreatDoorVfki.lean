/-
  The symbolic executor, part i: copies of slices (a slice without elements may be nil or not).
-/
import Derived.Test.YtipdohmdckdoeaaGreatDoorVfkh
set_option linter.defProp false
set_option linter.unusedSimpArgs false
namespace Go.Pv
open Go Go.RowKit
inductive RB:T->T->Prop
 | same (t:T):RB t t
 | nil (f:Bool):RB (.sl f []) (.v (.slice none 0 0))
 | ne (f:Bool):RB (.sl f []) (.ne f)
 | isNe (f:Bool):RB (.ne f) (.ne f)
def GM:List T->List T->Prop
 | [],[]=>True
 | a::l,b::m=>RB a b/\(∀ f,b≠.sl f [])/\GM l m
 | _,_=>False
def cS.BB {w:World} {own:Nat->Prop} {t:T} {v:Value} (h:cS w own t v):∃ t',RB t t'/\(∀ f,t'≠.sl f [])/\cS w own t' v:=by
 by_cases hs:∃ f,t = .sl f []
 ·obtain ⟨f,rfl⟩:=hs;cases h with
  | cX _ a cap hf hn =>
   cases a with
   | none=>have:=hn rfl;subst this;exact ⟨_,.nil f,by simp,.v _⟩
   | some a=>exact ⟨_,.ne f,by simp,.ne f a cap hf⟩
  | sl _ _ sz b o cap g h1 h2 h3 h4 h45 h5 h6 h7 h8=>exact ⟨_,.ne f,by simp,.ne f ⟨b,o,none⟩ cap (by simpa using h3)⟩
 ·exact ⟨t,.same t,λf e=>hs ⟨f,e⟩,h⟩
def dJ.BB {w:World} {own:Nat->Prop}:∀ {ts:List T} {l:List Value},dJ (cS w own) ts l.toArray->∃ ts',GM ts ts'/\dJ (cS w own) ts' l.toArray
 | [],l,h=>⟨[],trivial,h⟩
 | t::ts,[],h=>by have:=h.1;simp at this
 | t::ts,v::l,h=>by
  have h0:=h.2 0 (by simp);simp only[List.getElem_cons_zero] at h0;have e0:((v::l).toArray.getD 0 undef)=v:=by simp[Array.getD]
  rw[e0] at h0;obtain ⟨t',f1,f2,f3⟩:=h0.BB;have ht:dJ (cS w own) ts l.toArray:=⟨by have:=h.1;simpa using this,λi hi=>by
   have:=h.2 (i+1) (by simpa using hi);simpa [Array.getD_eq_getD_getElem?] using this⟩
  obtain ⟨ts',g1,g2⟩:=dJ.BB ht;refine ⟨t'::ts',⟨f1,f2,g1⟩,?_⟩;have:=(dJ.one f3).append g2;simpa using this
variable {P:Program}
def aO.BB {f:FuncId} {g g':List T->Option T} (h:aO P f g') (hg:∀ args r,g args=some r->∀ args',GM args args'->g' args'=some r):aO P f g :=
 ⟨h.entry,λw own args vs r hG ho ha hr=>by
  obtain ⟨l⟩:=vs;obtain ⟨args',h1,h2⟩:=dJ.BB ha;exact h.calls w own args' _ r hG ho h2 (hg args r hr args' h1)⟩
def fP.BB {f:FuncId} {g g':List T->Option (List (List T))} (h:fP P f g') (hg:∀ args r,g args=some r->∀ args',GM args args'->g' args'=some r):fP P f g :=
 ⟨h.entry,λw own args vs r hG ho ha hr=>by
  obtain ⟨l⟩:=vs;obtain ⟨args',h1,h2⟩:=dJ.BB ha;exact h.calls w own args' _ r hG ho h2 (hg args r hr args' h1)⟩
def pU (r:Sy) (b:Nat) (l:List r.den):Option (List (List T)):=match decide (l.length*b<=140737488355328)&&decide (l.length<=140737488355328) with
 | true=>some (List.map r.enc l)
 | false=>none
def fM (r:Sy) (b:Nat) (l:List r.den):Option T:=(pU r b l).map (.sl false)
variable {args':List T}
def AQO {r:Sy} {l:List r.den} (h:GM [T.sl false (List.map r.enc l)] args') :
  (l=[]/\(args'=[.v (.slice none 0 0)]\/∃ f,args'=[.ne f]))\/∃ a m,l=a::m/\args'=[.sl false (r.enc a::List.map r.enc m)]:=by
 match args',h with
 | [],h=>exact h.elim
 | [b],h =>
  obtain ⟨h1,h2,_⟩:=h;cases l with
  | nil =>
   simp only[List.map_nil] at h1;generalize ht:T.sl false []=t at h1;cases h1 with
   | same=>subst ht;exact absurd rfl (h2 false)
   | nil f=>exact .inl ⟨rfl,.inl rfl⟩
   | ne f=>exact .inl ⟨rfl,.inr ⟨f,rfl⟩⟩
   | isNe f=>cases ht
  | cons a m =>
   simp only[List.map_cons] at h1;generalize ht:T.sl false (r.enc a::List.map r.enc m)=t at h1;cases h1 with
   | same=>exact .inr ⟨a,m,rfl,by rw[ht]⟩
   | nil f=>cases ht
   | ne f=>cases ht
   | isNe f=>cases ht
 | _::_::_,h=>exact h.2.2.elim
def tL (r:Sy) (l:List r.den):iB r.w (List.map r.enc l)=true:=by
 simp only[iB,List.all_map,List.all_eq_true,Function.comp_apply,ah];exact λx _=>Sy.cP r x
section
variable {P : Program} {f : FuncId} {r : Sy} {b : Nat}
def AEO (P:Program) (f:FuncId) (z b:Nat):Prop :=
 (∀ R,QG bX P (Env.of []) (λ_=>a6) 1 f [T.v (.slice none 0 0)] R=R []) /\
 (∀ fl R,QG bX P (Env.of []) (λ_=>a6) 1 f [T.ne fl] R=b7 (iB z ([]:List (List T))&&true&&decide (0<=140737488355328)&&decide (([]:List (List T)).length<=140737488355328)) (R [])) /\
 (∀ fl a rows R,QG bX P (Env.of []) (λ_=>a6) 1 f [T.sl fl (a::rows)] R=b7 (iB z (a::rows)&&true&&decide ((a::rows).length*b<=140737488355328)&&decide ((a::rows).length<=140737488355328)) (R (a::rows)))
def T4 (P:Program) (f:FuncId) (z b:Nat):Prop :=
 (∀ R,dM bX P (Env.of []) (λ_=>a6) 1 f [T.v (.slice none 0 0)] R=R (.sl false [])) /\
 (∀ fl R,dM bX P (Env.of []) (λ_=>a6) 1 f [T.ne fl] R=b7 (iB z ([]:List (List T))&&true&&decide (0<=140737488355328)&&decide (([]:List (List T)).length<=140737488355328)) (R (.sl false []))) /\
 (∀ fl a rows R,dM bX P (Env.of []) (λ_=>a6) 1 f [T.sl fl (a::rows)] R=b7 (iB z (a::rows)&&true&&decide ((a::rows).length*b<=140737488355328)&&decide ((a::rows).length<=140737488355328)) (R (.sl false (a::rows))))
def mU (z b:Nat):List T->Option (List (List T))
 | [.v (.slice none 0 0)]=>some []
 | [.ne _]=>some []
 | [.sl _ (a::rows)]=>match iB z (a::rows)&&true&&decide ((a::rows).length*b<=140737488355328)&&decide ((a::rows).length<=140737488355328) with
  | true=>some (a::rows)
  | false=>none
 | _=>none
def N8 {l:List r.den} {rows:List (List T)} (h:pU r b l=some rows) (hf:GM (Sh.l6 [(false,.li r)] l) args'):mU r.w b args'=some rows:=by
 unfold pU at h;split at h
 ·rename_i hb;cases h;simp only[ac,ah] at hb;rcases AQO (r:=r) (l:=l) hf with ⟨rfl,rfl|⟨fl,rfl⟩⟩|⟨a,m,rfl,rfl⟩
  ·rfl
  ·rfl
  ·have h1:iB r.w (r.enc a::List.map r.enc m)=true:=tL r (a::m);have h2:(r.enc a::List.map r.enc m).length=(a::m).length:=by simp
   simp only[mU,h1,h2,Bool.true_and,hb.1,hb.2,decide_true,List.map_cons]
 ·cases h
def AP7 (hm:P.follows .mixedOrders=true) (hn:cR P=true) (hex:∃ fn c,P.funcs[f]? = some fn/\fn.body=some c) (h:AEO P f r.w b):fP P f (gS [(false,.li r)] (pU r b)):=by
 refine fP.BB (g':=mU r.w b) (N5 (Hs:=λ_=>a6) (aR.nil _) hm hn (aN (l:=[]) rfl) 1 hex λargs rows hg _=>?_) λargs rows hg args' hf=>?_
 ·unfold mU at hg;split at hg
  ·cases hg;rw[h.1]
  ·cases hg;rw[h.2.1];exact ⟨by simp[iB],rfl⟩
  ·rename_i fl a rows';split at hg
   ·rename_i hb;cases hg;rw[h.2.2];exact ⟨hb,rfl⟩
   ·cases hg
  ·cases hg
 ·obtain ⟨l,rfl,hl⟩:=zK hg;exact N8 hl hf
def GV (hm:P.follows .mixedOrders=true) (hn:cR P=true) (hex:∃ fn c,P.funcs[f]? = some fn/\fn.body=some c) (h:T4 P f r.w b):aO P f (gS [(false,.li r)] (fM r b)):=by
 refine aO.BB (g':=λargs=>(mU r.w b args).map (.sl false)) (HV (Hs:=λ_=>a6) (aR.nil _) hm hn (aN (l:=[]) rfl) 1 hex λargs rows hg _=>?_) λargs rows hg args' hf=>?_
 ·simp only[aa] at hg;obtain ⟨rs,hg,rfl⟩:=hg;unfold mU at hg;split at hg
  ·cases hg;rw[h.1]
  ·cases hg;rw[h.2.1];exact ⟨by simp[iB],rfl⟩
  ·rename_i fl a rows';split at hg
   ·rename_i hb;cases hg;rw[h.2.2];exact ⟨hb,rfl⟩
   ·cases hg
  ·cases hg
 ·obtain ⟨l,rfl,hl⟩:=zK hg;simp only[fM,aa] at hl;obtain ⟨rs,hl,rfl⟩:=hl;show Option.map (T.sl false) (mU r.w b args')=_;rw[N8 hl hf];rfl
end
end Go.Pv
