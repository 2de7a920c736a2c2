/-
  The symbolic executor, part i: copies of slices (a slice without elements may be nil or not).
-/
import Derived.Test.YtlongjgklndggaaGreatDoorVbkh
set_option linter.defProp false
set_option linter.unusedSimpArgs false
namespace Go.Pv
open Go Go.RowKit
inductive vP:T→T→Prop
 | same (t:T):vP t t
 | nil (f:Bool):vP (.sl f []) (.v (.slice none 0 0))
 | ne (f:Bool):vP (.sl f []) (.ne f)
 | isNe (f:Bool):vP (.ne f) (.ne f)
def oN:List T→List T→Prop
 | [],[]=>True
 | a::l,b::m=>vP a b∧(∀ f,b≠.sl f [])∧oN l m
 | _,_=>False
theorem aU.pS {w:World} {own:Nat→Prop} {t:T} {v:Value} (h:aU w own t v):∃ t',vP t t'∧(∀ f,t'≠.sl f [])∧aU w own t' v:=by
 by_cases hs:∃ f,t = .sl f []
 ·obtain ⟨f,rfl⟩:=hs
  cases h with
  | aV _ a cap hf hn =>
   cases a with
   | none=>have:=hn rfl;subst this;exact ⟨_,.nil f,by simp,.v _⟩
   | some a=>exact ⟨_,.ne f,by simp,.ne f a cap hf⟩
  | sl _ _ sz b o cap g h1 h2 h3 h4 h45 h5 h6 h7 h8=>exact ⟨_,.ne f,by simp,.ne f ⟨b,o,none⟩ cap (by simpa using h3)⟩
 ·exact ⟨t,.same t,fun f e=>hs ⟨f,e⟩,h⟩
theorem aY.pS {w:World} {own:Nat→Prop}:∀ {ts:List T} {l:List Value},aY (aU w own) ts l.toArray→∃ ts',oN ts ts'∧aY (aU w own) ts' l.toArray
 | [],l,h=>⟨[],trivial,h⟩
 | t::ts,[],h=>by have:=h.1;simp at this
 | t::ts,v::l,h=>by
  have h0:=h.2 0 (by simp)
  simp only[List.getElem_cons_zero] at h0
  have e0:((v::l).toArray.getD 0 undef)=v:=by simp[Array.getD]
  rw[e0] at h0
  obtain ⟨t',f1,f2,f3⟩:=h0.pS
  have ht:aY (aU w own) ts l.toArray:=⟨by have:=h.1;simpa using this,fun i hi=>by
   have:=h.2 (i+1) (by simpa using hi)
   simpa [Array.getD_eq_getD_getElem?] using this⟩
  obtain ⟨ts',g1,g2⟩:=aY.pS ht
  refine ⟨t'::ts',⟨f1,f2,g1⟩,?_⟩
  have:=(aY.one f3).append g2
  simpa using this
theorem aW.pS {P:Program} {f:FuncId} {g g':List T→Option T} (h:aW P f g') (hg:∀ args r,g args=some r→∀ args',oN args args'→g' args'=some r):aW P f g :=
 ⟨h.entry,fun w own args vs r hG ho ha hr=>by
  obtain ⟨l⟩:=vs
  obtain ⟨args',h1,h2⟩:=aY.pS ha
  exact h.calls w own args' _ r hG ho h2 (hg args r hr args' h1)⟩
theorem fU.pS {P:Program} {f:FuncId} {g g':List T→Option (List (List T))} (h:fU P f g') (hg:∀ args r,g args=some r→∀ args',oN args args'→g' args'=some r):fU P f g :=
 ⟨h.entry,fun w own args vs r hG ho ha hr=>by
  obtain ⟨l⟩:=vs
  obtain ⟨args',h1,h2⟩:=aY.pS ha
  exact h.calls w own args' _ r hG ho h2 (hg args r hr args' h1)⟩
def jV (r:Sy) (b:Nat) (l:List r.den):Option (List (List T)):=match decide (l.length*b≤140737488355328)&&decide (l.length≤140737488355328) with
 | true=>some (List.map r.enc l)
 | false=>none
theorem HA {r:Sy} {l:List r.den} {args':List T} (h:oN [T.sl false (List.map r.enc l)] args') :
  (l=[]∧(args'=[.v (.slice none 0 0)]∨∃ f,args'=[.ne f]))∨∃ a m,l=a::m∧args'=[.sl false (r.enc a::List.map r.enc m)]:=by
 match args',h with
 | [],h=>exact h.elim
 | [b],h =>
  obtain ⟨h1,h2,_⟩:=h
  cases l with
  | nil =>
   simp only[List.map_nil] at h1
   generalize ht:T.sl false []=t at h1
   cases h1 with
   | same=>subst ht;exact absurd rfl (h2 false)
   | nil f=>exact .inl ⟨rfl,.inl rfl⟩
   | ne f=>exact .inl ⟨rfl,.inr ⟨f,rfl⟩⟩
   | isNe f=>cases ht
  | cons a m =>
   simp only[List.map_cons] at h1
   generalize ht:T.sl false (r.enc a::List.map r.enc m)=t at h1
   cases h1 with
   | same=>exact .inr ⟨a,m,rfl,by rw[ht]⟩
   | nil f=>cases ht
   | ne f=>cases ht
   | isNe f=>cases ht
 | _::_::_,h=>exact h.2.2.elim
theorem zO (r:Sy) (l:List r.den):dP r.w (List.map r.enc l)=true:=by
 simp only[dP,List.all_map,List.all_eq_true,Function.comp_apply,decide_eq_true_eq]
 exact fun x _=>Sy.bD r x
section
variable {P : Program} {f : FuncId} {r : Sy} {b : Nat}
def IV (P:Program) (f:FuncId) (z b:Nat):Prop :=
 (∀ R,u5 bC P (Env.of []) (fun _=>cN) 1 f [T.v (.slice none 0 0)] R=R []) ∧
 (∀ fl R,u5 bC P (Env.of []) (fun _=>cN) 1 f [T.ne fl] R=c4 (dP z ([]:List (List T))&&true&&decide (0≤140737488355328)&&decide (([]:List (List T)).length≤140737488355328)) (R [])) ∧
 (∀ fl a rows R,u5 bC P (Env.of []) (fun _=>cN) 1 f [T.sl fl (a::rows)] R=c4 (dP z (a::rows)&&true&&decide ((a::rows).length*b≤140737488355328)&&decide ((a::rows).length≤140737488355328)) (R (a::rows)))
def rM (z b:Nat):List T→Option (List (List T))
 | [.v (.slice none 0 0)]=>some []
 | [.ne _]=>some []
 | [.sl _ (a::rows)]=>match dP z (a::rows)&&true&&decide ((a::rows).length*b≤140737488355328)&&decide ((a::rows).length≤140737488355328) with
  | true=>some (a::rows)
  | false=>none
 | _=>none
theorem DI {l:List r.den} {rows:List (List T)} (h:jV r b l=some rows) {args':List T} (hf:oN (Sh.dQ [(false,.li r)] l) args'):rM r.w b args'=some rows:=by
 unfold jV at h
 split at h
 ·rename_i hb
  cases h
  simp only[Bool.and_eq_true,decide_eq_true_eq] at hb
  rcases HA (r:=r) (l:=l) hf with ⟨rfl,rfl|⟨fl,rfl⟩⟩|⟨a,m,rfl,rfl⟩
  ·rfl
  ·rfl
  ·have h1:dP r.w (r.enc a::List.map r.enc m)=true:=zO r (a::m)
   have h2:(r.enc a::List.map r.enc m).length=(a::m).length:=by simp
   simp only[rM,h1,h2,Bool.true_and,hb.1,hb.2,decide_true,List.map_cons]
 ·cases h
theorem GV (hm:P.follows .mixedOrders=true) (hn:a6 P=true) (hex:∃ fn c,P.funcs[f]? = some fn∧fn.body=some c) (h:IV P f r.w b):fU P f (gS [(false,.li r)] (jV r b)):=by
 refine fU.pS (g':=rM r.w b) (DG (Hs:=fun _=>cN) (aL.nil _) hm hn (aZ (l:=[]) rfl) 1 hex fun args rows hg _=>?_) fun args rows hg args' hf=>?_
 ·unfold rM at hg
  split at hg
  ·cases hg;rw[h.1]
  ·cases hg;rw[h.2.1];exact ⟨by simp[dP],rfl⟩
  ·rename_i fl a rows'
   split at hg
   ·rename_i hb
    cases hg;rw[h.2.2];exact ⟨hb,rfl⟩
   ·cases hg
  ·cases hg
 ·obtain ⟨l,rfl,hl⟩:=yA hg
  exact DI hl hf
end
end Go.Pv
