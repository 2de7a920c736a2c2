/-
  The symbolic executor, part i: copies of slices (a slice without elements may be nil or not).
-/
import Derived.Test.YtcdomkejkfcjlaaGreatDoorPskh
set_option linter.unusedSimpArgs false
namespace Go.Pv
open Go Go.RowKit
inductive ND:T→T→Prop
 | same (t:T):ND t t
 | nil (f:Bool):ND (.sl f []) (.v (.slice none 0 0))
 | ne (f:Bool):ND (.sl f []) (.ne f)
 | isNe (f:Bool):ND (.ne f) (.ne f)
def D7:List T→List T→Prop
 | [],[]=>True
 | a::l,b::m=>ND a b∧(∀ f,b≠.sl f [])∧D7 l m
 | _,_=>False
theorem bW.A9 {w:World} {own:Nat→Prop} {t:T} {v:Value} (h:bW w own t v):∃ t',ND t t'∧(∀ f,t'≠.sl f [])∧bW w own t' v:=by
 by_cases hs:∃ f,t = .sl f []
 ·obtain ⟨f,rfl⟩:=hs
  cases h with
  | bU _ a cap hf hn =>
   cases a with
   | none=>have:=hn rfl;subst this;exact ⟨_,.nil f,by simp,.v _⟩
   | some a=>exact ⟨_,.ne f,by simp,.ne f a cap hf⟩
  | sl _ _ sz b o cap g h1 h2 h3 h4 h45 h5 h6 h7 h8=>exact ⟨_,.ne f,by simp,.ne f ⟨b,o,none⟩ cap (by simpa using h3)⟩
 ·exact ⟨t,.same t,fun f e=>hs ⟨f,e⟩,h⟩
theorem b8.A9 {w:World} {own:Nat→Prop}:∀ {ts:List T} {l:List Value},b8 (bW w own) ts l.toArray→∃ ts',D7 ts ts'∧b8 (bW w own) ts' l.toArray
 | [],l,h=>⟨[],trivial,h⟩
 | t::ts,[],h=>by have:=h.1;simp at this
 | t::ts,v::l,h=>by
  have h0:=h.2 0 (by simp)
  simp only[List.getElem_cons_zero] at h0
  have e0:((v::l).toArray.getD 0 undef)=v:=by simp[Array.getD]
  rw[e0] at h0
  obtain ⟨t',f1,f2,f3⟩:=h0.A9
  have ht:b8 (bW w own) ts l.toArray:=⟨by have:=h.1;simpa using this,fun i hi=>by
   have:=h.2 (i+1) (by simpa using hi)
   simpa [Array.getD_eq_getD_getElem?] using this⟩
  obtain ⟨ts',g1,g2⟩:=b8.A9 ht
  refine ⟨t'::ts',⟨f1,f2,g1⟩,?_⟩
  have:=(b8.one f3).append g2
  simpa using this
theorem aJ.A9 {P:Program} {f:FuncId} {g g':List T→Option T} (h:aJ P f g') (hg:∀ args r,g args=some r→∀ args',D7 args args'→g' args'=some r):aJ P f g :=
 ⟨h.entry,fun w own args vs r hG ho ha hr=>by
  obtain ⟨l⟩:=vs
  obtain ⟨args',h1,h2⟩:=b8.A9 ha
  exact h.calls w own args' _ r hG ho h2 (hg args r hr args' h1)⟩
theorem l7.A9 {P:Program} {f:FuncId} {g g':List T→Option (List (List T))} (h:l7 P f g') (hg:∀ args r,g args=some r→∀ args',D7 args args'→g' args'=some r):l7 P f g :=
 ⟨h.entry,fun w own args vs r hG ho ha hr=>by
  obtain ⟨l⟩:=vs
  obtain ⟨args',h1,h2⟩:=b8.A9 ha
  exact h.calls w own args' _ r hG ho h2 (hg args r hr args' h1)⟩
def oY (r:Sy) (b:Nat) (l:List r.den):Option (List (List T)):=match decide (l.length*b≤140737488355328)&&decide (l.length≤140737488355328) with
 | true=>some (List.map r.enc l)
 | false=>none
def iI (r:Sy) (b:Nat) (l:List r.den):Option T:=(oY r b l).map (.sl false)
theorem AGY {r:Sy} {l:List r.den} {args':List T} (h:D7 [T.sl false (List.map r.enc l)] args') :
  (l=[]∧(args'=[.v (.slice none 0 0)]∨∃ f,args'=[.ne f]))∨∃ a m,l=a::m∧args'=[.sl false (r.enc a::List.map r.enc m)]:=by
 match args',h with
 | [],h=>exact h.elim
 | [b],h =>
  obtain ⟨h1,h2,_⟩:=h
  cases l with
  | nil =>
   simp only[List.map_nil] at h1
   generalize ht:T.sl false []=t at h1
   cases h1 with
   | same=>subst ht;exact absurd rfl (h2 false)
   | nil f=>exact .inl ⟨rfl,.inl rfl⟩
   | ne f=>exact .inl ⟨rfl,.inr ⟨f,rfl⟩⟩
   | isNe f=>cases ht
  | cons a m =>
   simp only[List.map_cons] at h1
   generalize ht:T.sl false (r.enc a::List.map r.enc m)=t at h1
   cases h1 with
   | same=>exact .inr ⟨a,m,rfl,by rw[ht]⟩
   | nil f=>cases ht
   | ne f=>cases ht
   | isNe f=>cases ht
 | _::_::_,h=>exact h.2.2.elim
theorem JD (r:Sy) (l:List r.den):fH r.w (List.map r.enc l)=true:=by
 simp only[fH,List.all_map,List.all_eq_true,Function.comp_apply,decide_eq_true_eq]
 exact fun x _=>Sy.cX r x
section
variable {P : Program} {f : FuncId} {r : Sy} {b : Nat}
def AI9 (P:Program) (f:FuncId) (z b:Nat):Prop :=
 (∀ R,L7 aV P (Env.of []) (fun _=>aU) 1 f [T.v (.slice none 0 0)] R=R []) ∧
 (∀ fl R,L7 aV P (Env.of []) (fun _=>aU) 1 f [T.ne fl] R=cL (fH z ([]:List (List T))&&true&&decide (0≤140737488355328)&&decide (([]:List (List T)).length≤140737488355328)) (R [])) ∧
 (∀ fl a rows R,L7 aV P (Env.of []) (fun _=>aU) 1 f [T.sl fl (a::rows)] R=cL (fH z (a::rows)&&true&&decide ((a::rows).length*b≤140737488355328)&&decide ((a::rows).length≤140737488355328)) (R (a::rows)))
def Z4 (P:Program) (f:FuncId) (z b:Nat):Prop :=
 (∀ R,bK aV P (Env.of []) (fun _=>aU) 1 f [T.v (.slice none 0 0)] R=R (.sl false [])) ∧
 (∀ fl R,bK aV P (Env.of []) (fun _=>aU) 1 f [T.ne fl] R=cL (fH z ([]:List (List T))&&true&&decide (0≤140737488355328)&&decide (([]:List (List T)).length≤140737488355328)) (R (.sl false []))) ∧
 (∀ fl a rows R,bK aV P (Env.of []) (fun _=>aU) 1 f [T.sl fl (a::rows)] R=cL (fH z (a::rows)&&true&&decide ((a::rows).length*b≤140737488355328)&&decide ((a::rows).length≤140737488355328)) (R (.sl false (a::rows))))
def rT (z b:Nat):List T→Option (List (List T))
 | [.v (.slice none 0 0)]=>some []
 | [.ne _]=>some []
 | [.sl _ (a::rows)]=>match fH z (a::rows)&&true&&decide ((a::rows).length*b≤140737488355328)&&decide ((a::rows).length≤140737488355328) with
  | true=>some (a::rows)
  | false=>none
 | _=>none
theorem KM {l:List r.den} {rows:List (List T)} (h:oY r b l=some rows) {args':List T} (hf:D7 (Sh.bO [(false,.li r)] l) args'):rT r.w b args'=some rows:=by
 unfold oY at h
 split at h
 ·rename_i hb
  cases h
  simp only[Bool.and_eq_true,decide_eq_true_eq] at hb
  rcases AGY (r:=r) (l:=l) hf with ⟨rfl,rfl|⟨fl,rfl⟩⟩|⟨a,m,rfl,rfl⟩
  ·rfl
  ·rfl
  ·have h1:fH r.w (r.enc a::List.map r.enc m)=true:=JD r (a::m)
   have h2:(r.enc a::List.map r.enc m).length=(a::m).length:=by simp
   simp only[rT,h1,h2,Bool.true_and,hb.1,hb.2,decide_true,List.map_cons]
 ·cases h
theorem AGL (hm:P.follows .mixedOrders=true) (hn:dG P=true) (hex:∃ fn c,P.funcs[f]? = some fn∧fn.body=some c) (h:AI9 P f r.w b):l7 P f (gS [(false,.li r)] (oY r b)):=by
 refine l7.A9 (g':=rT r.w b) (ACH (Hs:=fun _=>aU) (aG.nil _) hm hn (aN (l:=[]) rfl) 1 hex fun args rows hg _=>?_) fun args rows hg args' hf=>?_
 ·unfold rT at hg
  split at hg
  ·cases hg;rw[h.1]
  ·cases hg;rw[h.2.1];exact ⟨by simp[fH],rfl⟩
  ·rename_i fl a rows'
   split at hg
   ·rename_i hb
    cases hg;rw[h.2.2];exact ⟨hb,rfl⟩
   ·cases hg
  ·cases hg
 ·obtain ⟨l,rfl,hl⟩:=GY hg
  exact KM hl hf
theorem N4 (hm:P.follows .mixedOrders=true) (hn:dG P=true) (hex:∃ fn c,P.funcs[f]? = some fn∧fn.body=some c) (h:Z4 P f r.w b):aJ P f (gS [(false,.li r)] (iI r b)):=by
 refine aJ.A9 (g':=fun args=>(rT r.w b args).map (.sl false)) (O3 (Hs:=fun _=>aU) (aG.nil _) hm hn (aN (l:=[]) rfl) 1 hex fun args rows hg _=>?_) fun args rows hg args' hf=>?_
 ·simp only[Option.map_eq_some_iff] at hg
  obtain ⟨rs,hg,rfl⟩:=hg
  unfold rT at hg
  split at hg
  ·cases hg;rw[h.1]
  ·cases hg;rw[h.2.1];exact ⟨by simp[fH],rfl⟩
  ·rename_i fl a rows'
   split at hg
   ·rename_i hb
    cases hg;rw[h.2.2];exact ⟨hb,rfl⟩
   ·cases hg
  ·cases hg
 ·obtain ⟨l,rfl,hl⟩:=GY hg
  simp only[iI,Option.map_eq_some_iff] at hl
  obtain ⟨rs,hl,rfl⟩:=hl
  show Option.map (T.sl false) (rT r.w b args')=_
  rw[KM hl hf];rfl
end
end Go.Pv
