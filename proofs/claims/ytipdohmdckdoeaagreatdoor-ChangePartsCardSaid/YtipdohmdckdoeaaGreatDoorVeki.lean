/-
  The symbolic executor, part i: copies of slices (a slice without elements may be nil or not).
-/
import Derived.Test.YtipdohmdckdoeaaGreatDoorVekh
set_option linter.defProp false
set_option linter.unusedSimpArgs false
namespace Go.Pv
open Go Go.RowKit
inductive QV:T->T->Prop
 | same (t:T):QV t t
 | nil (f:Bool):QV (.sl f []) (.v (.slice none 0 0))
 | ne (f:Bool):QV (.sl f []) (.ne f)
 | isNe (f:Bool):QV (.ne f) (.ne f)
def FX:List T->List T->Prop
 | [],[]=>True
 | a::l,b::m=>QV a b/\(∀ f,b≠.sl f [])/\FX l m
 | _,_=>False
def cG.AU {w:World} {own:Nat->Prop} {t:T} {v:Value} (h:cG w own t v):∃ t',QV t t'/\(∀ f,t'≠.sl f [])/\cG w own t' v:=by
 by_cases hs:∃ f,t = .sl f []
 ·obtain ⟨f,rfl⟩:=hs;cases h with
  | cM _ a cap hf hn =>
   cases a with
   | none=>have:=hn rfl;subst this;exact ⟨_,.nil f,by simp,.v _⟩
   | some a=>exact ⟨_,.ne f,by simp,.ne f a cap hf⟩
  | sl _ _ sz b o cap g h1 h2 h3 h4 h45 h5 h6 h7 h8=>exact ⟨_,.ne f,by simp,.ne f ⟨b,o,none⟩ cap (by simpa using h3)⟩
 ·exact ⟨t,.same t,λf e=>hs ⟨f,e⟩,h⟩
def cY.AU {w:World} {own:Nat->Prop}:∀ {ts:List T} {l:List Value},cY (cG w own) ts l.toArray->∃ ts',FX ts ts'/\cY (cG w own) ts' l.toArray
 | [],l,h=>⟨[],trivial,h⟩
 | t::ts,[],h=>by have:=h.1;simp at this
 | t::ts,v::l,h=>by
  have h0:=h.2 0 (by simp);simp only[List.getElem_cons_zero] at h0;have e0:((v::l).toArray.getD 0 undef)=v:=by simp[Array.getD]
  rw[e0] at h0;obtain ⟨t',f1,f2,f3⟩:=h0.AU;have ht:cY (cG w own) ts l.toArray:=⟨by have:=h.1;simpa using this,λi hi=>by
   have:=h.2 (i+1) (by simpa using hi);simpa [Array.getD_eq_getD_getElem?] using this⟩
  obtain ⟨ts',g1,g2⟩:=cY.AU ht;refine ⟨t'::ts',⟨f1,f2,g1⟩,?_⟩;have:=(cY.one f3).append g2;simpa using this
variable {P:Program}
def aP.AU {f:FuncId} {g g':List T->Option T} (h:aP P f g') (hg:∀ args r,g args=some r->∀ args',FX args args'->g' args'=some r):aP P f g :=
 ⟨h.entry,λw own args vs r hG ho ha hr=>by
  obtain ⟨l⟩:=vs;obtain ⟨args',h1,h2⟩:=cY.AU ha;exact h.calls w own args' _ r hG ho h2 (hg args r hr args' h1)⟩
def fE.AU {f:FuncId} {g g':List T->Option (List (List T))} (h:fE P f g') (hg:∀ args r,g args=some r->∀ args',FX args args'->g' args'=some r):fE P f g :=
 ⟨h.entry,λw own args vs r hG ho ha hr=>by
  obtain ⟨l⟩:=vs;obtain ⟨args',h1,h2⟩:=cY.AU ha;exact h.calls w own args' _ r hG ho h2 (hg args r hr args' h1)⟩
def pQ (r:Sy) (b:Nat) (l:List r.den):Option (List (List T)):=match decide (l.length*b<=140737488355328)&&decide (l.length<=140737488355328) with
 | true=>some (List.map r.enc l)
 | false=>none
def fA (r:Sy) (b:Nat) (l:List r.den):Option T:=(pQ r b l).map (.sl false)
variable {args':List T}
def AOH {r:Sy} {l:List r.den} (h:FX [T.sl false (List.map r.enc l)] args') :
  (l=[]/\(args'=[.v (.slice none 0 0)]\/∃ f,args'=[.ne f]))\/∃ a m,l=a::m/\args'=[.sl false (r.enc a::List.map r.enc m)]:=by
 match args',h with
 | [],h=>exact h.elim
 | [b],h =>
  obtain ⟨h1,h2,_⟩:=h;cases l with
  | nil =>
   simp only[List.map_nil] at h1;generalize ht:T.sl false []=t at h1;cases h1 with
   | same=>subst ht;exact absurd rfl (h2 false)
   | nil f=>exact .inl ⟨rfl,.inl rfl⟩
   | ne f=>exact .inl ⟨rfl,.inr ⟨f,rfl⟩⟩
   | isNe f=>cases ht
  | cons a m =>
   simp only[List.map_cons] at h1;generalize ht:T.sl false (r.enc a::List.map r.enc m)=t at h1;cases h1 with
   | same=>exact .inr ⟨a,m,rfl,by rw[ht]⟩
   | nil f=>cases ht
   | ne f=>cases ht
   | isNe f=>cases ht
 | _::_::_,h=>exact h.2.2.elim
def sR (r:Sy) (l:List r.den):eQ r.w (List.map r.enc l)=true:=by
 simp only[eQ,List.all_map,List.all_eq_true,Function.comp_apply,ah];exact λx _=>Sy.cW r x
section
variable {P : Program} {f : FuncId} {r : Sy} {b : Nat}
def ADE (P:Program) (f:FuncId) (z b:Nat):Prop :=
 (∀ R,PW bY P (Env.of []) (λ_=>bA) 1 f [T.v (.slice none 0 0)] R=R []) /\
 (∀ fl R,PW bY P (Env.of []) (λ_=>bA) 1 f [T.ne fl] R=bR (eQ z ([]:List (List T))&&true&&decide (0<=140737488355328)&&decide (([]:List (List T)).length<=140737488355328)) (R [])) /\
 (∀ fl a rows R,PW bY P (Env.of []) (λ_=>bA) 1 f [T.sl fl (a::rows)] R=bR (eQ z (a::rows)&&true&&decide ((a::rows).length*b<=140737488355328)&&decide ((a::rows).length<=140737488355328)) (R (a::rows)))
def TR (P:Program) (f:FuncId) (z b:Nat):Prop :=
 (∀ R,eG bY P (Env.of []) (λ_=>bA) 1 f [T.v (.slice none 0 0)] R=R (.sl false [])) /\
 (∀ fl R,eG bY P (Env.of []) (λ_=>bA) 1 f [T.ne fl] R=bR (eQ z ([]:List (List T))&&true&&decide (0<=140737488355328)&&decide (([]:List (List T)).length<=140737488355328)) (R (.sl false []))) /\
 (∀ fl a rows R,eG bY P (Env.of []) (λ_=>bA) 1 f [T.sl fl (a::rows)] R=bR (eQ z (a::rows)&&true&&decide ((a::rows).length*b<=140737488355328)&&decide ((a::rows).length<=140737488355328)) (R (.sl false (a::rows))))
def mO (z b:Nat):List T->Option (List (List T))
 | [.v (.slice none 0 0)]=>some []
 | [.ne _]=>some []
 | [.sl _ (a::rows)]=>match eQ z (a::rows)&&true&&decide ((a::rows).length*b<=140737488355328)&&decide ((a::rows).length<=140737488355328) with
  | true=>some (a::rows)
  | false=>none
 | _=>none
def NK {l:List r.den} {rows:List (List T)} (h:pQ r b l=some rows) (hf:FX (Sh.lT [(false,.li r)] l) args'):mO r.w b args'=some rows:=by
 unfold pQ at h;split at h
 ·rename_i hb;cases h;simp only[ac,ah] at hb;rcases AOH (r:=r) (l:=l) hf with ⟨rfl,rfl|⟨fl,rfl⟩⟩|⟨a,m,rfl,rfl⟩
  ·rfl
  ·rfl
  ·have h1:eQ r.w (r.enc a::List.map r.enc m)=true:=sR r (a::m);have h2:(r.enc a::List.map r.enc m).length=(a::m).length:=by simp
   simp only[mO,h1,h2,Bool.true_and,hb.1,hb.2,decide_true,List.map_cons]
 ·cases h
def ANZ (hm:P.follows .mixedOrders=true) (hn:cF P=true) (hex:∃ fn c,P.funcs[f]? = some fn/\fn.body=some c) (h:ADE P f r.w b):fE P f (gS [(false,.li r)] (pQ r b)):=by
 refine fE.AU (g':=mO r.w b) (NH (Hs:=λ_=>bA) (aV.nil _) hm hn (aO (l:=[]) rfl) 1 hex λargs rows hg _=>?_) λargs rows hg args' hf=>?_
 ·unfold mO at hg;split at hg
  ·cases hg;rw[h.1]
  ·cases hg;rw[h.2.1];exact ⟨by simp[eQ],rfl⟩
  ·rename_i fl a rows';split at hg
   ·rename_i hb;cases hg;rw[h.2.2];exact ⟨hb,rfl⟩
   ·cases hg
  ·cases hg
 ·obtain ⟨l,rfl,hl⟩:=yX hg;exact NK hl hf
def F3 (hm:P.follows .mixedOrders=true) (hn:cF P=true) (hex:∃ fn c,P.funcs[f]? = some fn/\fn.body=some c) (h:TR P f r.w b):aP P f (gS [(false,.li r)] (fA r b)):=by
 refine aP.AU (g':=λargs=>(mO r.w b args).map (.sl false)) (HD (Hs:=λ_=>bA) (aV.nil _) hm hn (aO (l:=[]) rfl) 1 hex λargs rows hg _=>?_) λargs rows hg args' hf=>?_
 ·simp only[aa] at hg;obtain ⟨rs,hg,rfl⟩:=hg;unfold mO at hg;split at hg
  ·cases hg;rw[h.1]
  ·cases hg;rw[h.2.1];exact ⟨by simp[eQ],rfl⟩
  ·rename_i fl a rows';split at hg
   ·rename_i hb;cases hg;rw[h.2.2];exact ⟨hb,rfl⟩
   ·cases hg
  ·cases hg
 ·obtain ⟨l,rfl,hl⟩:=yX hg;simp only[fA,aa] at hl;obtain ⟨rs,hl,rfl⟩:=hl;show Option.map (T.sl false) (mO r.w b args')=_;rw[NK hl hf];rfl
end
end Go.Pv
