/-
  The symbolic executor, part i: copies of slices (a slice without elements may be nil or not).
-/
import Derived.Test.YtlongjgklndggaaGreatDoorVakh
set_option linter.defProp false
set_option linter.unusedSimpArgs false
namespace Go.Pv
open Go Go.RowKit
inductive xQ:T→T→Prop
 | same (t:T):xQ t t
 | nil (f:Bool):xQ (.sl f []) (.v (.slice none 0 0))
 | ne (f:Bool):xQ (.sl f []) (.ne f)
 | isNe (f:Bool):xQ (.ne f) (.ne f)
def pS:List T→List T→Prop
 | [],[]=>True
 | a::l,b::m=>xQ a b∧(∀ f,b≠.sl f [])∧pS l m
 | _,_=>False
theorem aY.r8 {w:World} {own:Nat→Prop} {t:T} {v:Value} (h:aY w own t v):∃ t',xQ t t'∧(∀ f,t'≠.sl f [])∧aY w own t' v:=by
 by_cases hs:∃ f,t = .sl f []
 ·obtain ⟨f,rfl⟩:=hs
  cases h with
  | bB _ a cap hf hn =>
   cases a with
   | none=>have:=hn rfl;subst this;exact ⟨_,.nil f,by simp,.v _⟩
   | some a=>exact ⟨_,.ne f,by simp,.ne f a cap hf⟩
  | sl _ _ sz b o cap g h1 h2 h3 h4 h45 h5 h6 h7 h8=>exact ⟨_,.ne f,by simp,.ne f ⟨b,o,none⟩ cap (by simpa using h3)⟩
 ·exact ⟨t,.same t,fun f e=>hs ⟨f,e⟩,h⟩
theorem bC.r8 {w:World} {own:Nat→Prop}:∀ {ts:List T} {l:List Value},bC (aY w own) ts l.toArray→∃ ts',pS ts ts'∧bC (aY w own) ts' l.toArray
 | [],l,h=>⟨[],trivial,h⟩
 | t::ts,[],h=>by have:=h.1;simp at this
 | t::ts,v::l,h=>by
  have h0:=h.2 0 (by simp)
  simp only[List.getElem_cons_zero] at h0
  have e0:((v::l).toArray.getD 0 undef)=v:=by simp[Array.getD]
  rw[e0] at h0
  obtain ⟨t',f1,f2,f3⟩:=h0.r8
  have ht:bC (aY w own) ts l.toArray:=⟨by have:=h.1;simpa using this,fun i hi=>by
   have:=h.2 (i+1) (by simpa using hi)
   simpa [Array.getD_eq_getD_getElem?] using this⟩
  obtain ⟨ts',g1,g2⟩:=bC.r8 ht
  refine ⟨t'::ts',⟨f1,f2,g1⟩,?_⟩
  have:=(bC.one f3).append g2
  simpa using this
theorem aU.r8 {P:Program} {f:FuncId} {g g':List T→Option T} (h:aU P f g') (hg:∀ args r,g args=some r→∀ args',pS args args'→g' args'=some r):aU P f g :=
 ⟨h.entry,fun w own args vs r hG ho ha hr=>by
  obtain ⟨l⟩:=vs
  obtain ⟨args',h1,h2⟩:=bC.r8 ha
  exact h.calls w own args' _ r hG ho h2 (hg args r hr args' h1)⟩
theorem gN.r8 {P:Program} {f:FuncId} {g g':List T→Option (List (List T))} (h:gN P f g') (hg:∀ args r,g args=some r→∀ args',pS args args'→g' args'=some r):gN P f g :=
 ⟨h.entry,fun w own args vs r hG ho ha hr=>by
  obtain ⟨l⟩:=vs
  obtain ⟨args',h1,h2⟩:=bC.r8 ha
  exact h.calls w own args' _ r hG ho h2 (hg args r hr args' h1)⟩
def kV (r:Sy) (b:Nat) (l:List r.den):Option (List (List T)):=match decide (l.length*b≤140737488355328)&&decide (l.length≤140737488355328) with
 | true=>some (List.map r.enc l)
 | false=>none
theorem KE {r:Sy} {l:List r.den} {args':List T} (h:pS [T.sl false (List.map r.enc l)] args') :
  (l=[]∧(args'=[.v (.slice none 0 0)]∨∃ f,args'=[.ne f]))∨∃ a m,l=a::m∧args'=[.sl false (r.enc a::List.map r.enc m)]:=by
 match args',h with
 | [],h=>exact h.elim
 | [b],h =>
  obtain ⟨h1,h2,_⟩:=h
  cases l with
  | nil =>
   simp only[List.map_nil] at h1
   generalize ht:T.sl false []=t at h1
   cases h1 with
   | same=>subst ht;exact absurd rfl (h2 false)
   | nil f=>exact .inl ⟨rfl,.inl rfl⟩
   | ne f=>exact .inl ⟨rfl,.inr ⟨f,rfl⟩⟩
   | isNe f=>cases ht
  | cons a m =>
   simp only[List.map_cons] at h1
   generalize ht:T.sl false (r.enc a::List.map r.enc m)=t at h1
   cases h1 with
   | same=>exact .inr ⟨a,m,rfl,by rw[ht]⟩
   | nil f=>cases ht
   | ne f=>cases ht
   | isNe f=>cases ht
 | _::_::_,h=>exact h.2.2.elim
theorem CC (r:Sy) (l:List r.den):dM r.w (List.map r.enc l)=true:=by
 simp only[dM,List.all_map,List.all_eq_true,Function.comp_apply,decide_eq_true_eq]
 exact fun x _=>Sy.bR r x
section
variable {P : Program} {f : FuncId} {r : Sy} {b : Nat}
def L3 (P:Program) (f:FuncId) (z b:Nat):Prop :=
 (∀ R,wY bP P (Env.of []) (fun _=>bK) 1 f [T.v (.slice none 0 0)] R=R []) ∧
 (∀ fl R,wY bP P (Env.of []) (fun _=>bK) 1 f [T.ne fl] R=cQ (dM z ([]:List (List T))&&true&&decide (0≤140737488355328)&&decide (([]:List (List T)).length≤140737488355328)) (R [])) ∧
 (∀ fl a rows R,wY bP P (Env.of []) (fun _=>bK) 1 f [T.sl fl (a::rows)] R=cQ (dM z (a::rows)&&true&&decide ((a::rows).length*b≤140737488355328)&&decide ((a::rows).length≤140737488355328)) (R (a::rows)))
def tG (z b:Nat):List T→Option (List (List T))
 | [.v (.slice none 0 0)]=>some []
 | [.ne _]=>some []
 | [.sl _ (a::rows)]=>match dM z (a::rows)&&true&&decide ((a::rows).length*b≤140737488355328)&&decide ((a::rows).length≤140737488355328) with
  | true=>some (a::rows)
  | false=>none
 | _=>none
theorem GJ {l:List r.den} {rows:List (List T)} (h:kV r b l=some rows) {args':List T} (hf:pS (Sh.dS [(false,.li r)] l) args'):tG r.w b args'=some rows:=by
 unfold kV at h
 split at h
 ·rename_i hb
  cases h
  simp only[Bool.and_eq_true,decide_eq_true_eq] at hb
  rcases KE (r:=r) (l:=l) hf with ⟨rfl,rfl|⟨fl,rfl⟩⟩|⟨a,m,rfl,rfl⟩
  ·rfl
  ·rfl
  ·have h1:dM r.w (r.enc a::List.map r.enc m)=true:=CC r (a::m)
   have h2:(r.enc a::List.map r.enc m).length=(a::m).length:=by simp
   simp only[tG,h1,h2,Bool.true_and,hb.1,hb.2,decide_true,List.map_cons]
 ·cases h
theorem JY (hm:P.follows .mixedOrders=true) (hn:a7 P=true) (hex:∃ fn c,P.funcs[f]? = some fn∧fn.body=some c) (h:L3 P f r.w b):gN P f (gS [(false,.li r)] (kV r b)):=by
 refine gN.r8 (g':=tG r.w b) (GH (Hs:=fun _=>bK) (aM.nil _) hm hn (aP (l:=[]) rfl) 1 hex fun args rows hg _=>?_) fun args rows hg args' hf=>?_
 ·unfold tG at hg
  split at hg
  ·cases hg;rw[h.1]
  ·cases hg;rw[h.2.1];exact ⟨by simp[dM],rfl⟩
  ·rename_i fl a rows'
   split at hg
   ·rename_i hb
    cases hg;rw[h.2.2];exact ⟨hb,rfl⟩
   ·cases hg
  ·cases hg
 ·obtain ⟨l,rfl,hl⟩:=AN hg
  exact GJ hl hf
end
end Go.Pv
