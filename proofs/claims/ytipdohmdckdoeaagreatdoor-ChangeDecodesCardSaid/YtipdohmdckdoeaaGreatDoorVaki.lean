/-
  The symbolic executor, part i: copies of slices (a slice without elements may be nil or not).
-/
import Derived.Test.YtipdohmdckdoeaaGreatDoorVakh
set_option linter.defProp false
set_option linter.unusedSimpArgs false
namespace Go.Pv
open Go Go.RowKit
inductive DZ:T→T→Prop
 | same (t:T):DZ t t
 | nil (f:Bool):DZ (.sl f []) (.v (.slice none 0 0))
 | ne (f:Bool):DZ (.sl f []) (.ne f)
 | isNe (f:Bool):DZ (.ne f) (.ne f)
def GB:List T→List T→Prop
 | [],[]=>True
 | a::l,b::m=>DZ a b∧(∀ f,b≠.sl f [])∧GB l m
 | _,_=>False
theorem bK.yA {w:World} {own:Nat→Prop} {t:T} {v:Value} (h:bK w own t v):∃ t',DZ t t'∧(∀ f,t'≠.sl f [])∧bK w own t' v:=by
 by_cases hs:∃ f,t = .sl f []
 ·obtain ⟨f,rfl⟩:=hs
  cases h with
  | b6 _ a cap hf hn =>
   cases a with
   | none=>have:=hn rfl;subst this;exact ⟨_,.nil f,by simp,.v _⟩
   | some a=>exact ⟨_,.ne f,by simp,.ne f a cap hf⟩
  | sl _ _ sz b o cap g h1 h2 h3 h4 h45 h5 h6 h7 h8=>exact ⟨_,.ne f,by simp,.ne f ⟨b,o,none⟩ cap (by simpa using h3)⟩
 ·exact ⟨t,.same t,fun f e=>hs ⟨f,e⟩,h⟩
theorem bX.yA {w:World} {own:Nat→Prop}:∀ {ts:List T} {l:List Value},bX (bK w own) ts l.toArray→∃ ts',GB ts ts'∧bX (bK w own) ts' l.toArray
 | [],l,h=>⟨[],trivial,h⟩
 | t::ts,[],h=>by have:=h.1;simp at this
 | t::ts,v::l,h=>by
  have h0:=h.2 0 (by simp)
  simp only[List.getElem_cons_zero] at h0
  have e0:((v::l).toArray.getD 0 undef)=v:=by simp[Array.getD]
  rw[e0] at h0
  obtain ⟨t',f1,f2,f3⟩:=h0.yA
  have ht:bX (bK w own) ts l.toArray:=⟨by have:=h.1;simpa using this,fun i hi=>by
   have:=h.2 (i+1) (by simpa using hi)
   simpa [Array.getD_eq_getD_getElem?] using this⟩
  obtain ⟨ts',g1,g2⟩:=bX.yA ht
  refine ⟨t'::ts',⟨f1,f2,g1⟩,?_⟩
  have:=(bX.one f3).append g2
  simpa using this
theorem aZ.yA {P:Program} {f:FuncId} {g g':List T→Option T} (h:aZ P f g') (hg:∀ args r,g args=some r→∀ args',GB args args'→g' args'=some r):aZ P f g :=
 ⟨h.entry,fun w own args vs r hG ho ha hr=>by
  obtain ⟨l⟩:=vs
  obtain ⟨args',h1,h2⟩:=bX.yA ha
  exact h.calls w own args' _ r hG ho h2 (hg args r hr args' h1)⟩
theorem dZ.yA {P:Program} {f:FuncId} {g g':List T→Option (List (List T))} (h:dZ P f g') (hg:∀ args r,g args=some r→∀ args',GB args args'→g' args'=some r):dZ P f g :=
 ⟨h.entry,fun w own args vs r hG ho ha hr=>by
  obtain ⟨l⟩:=vs
  obtain ⟨args',h1,h2⟩:=bX.yA ha
  exact h.calls w own args' _ r hG ho h2 (hg args r hr args' h1)⟩
def AHV (r:Sy) (b:Nat) (l:List r.den):Option (List (List T)):=match decide (l.length*b≤140737488355328)&&decide (l.length≤140737488355328) with
 | true=>some (List.map r.enc l)
 | false=>none
theorem VF (r:Sy) (l:List r.den):dG r.w (List.map r.enc l)=true:=by
 simp only[dG,List.all_map,List.all_eq_true,Function.comp_apply,decide_eq_true_eq]
 exact fun x _=>Sy.cP r x
section
variable {P : Program} {f : FuncId} {r : Sy} {b : Nat}
def ADI (P:Program) (f:FuncId) (z b:Nat):Prop :=
 (∀ R,DA b9 P (Env.of []) (fun _=>bW) 1 f [T.v (.slice none 0 0)] R=R []) ∧
 (∀ fl R,DA b9 P (Env.of []) (fun _=>bW) 1 f [T.ne fl] R=aD (dG z ([]:List (List T))&&true&&decide (0≤140737488355328)&&decide (([]:List (List T)).length≤140737488355328)) (R [])) ∧
 (∀ fl a rows R,DA b9 P (Env.of []) (fun _=>bW) 1 f [T.sl fl (a::rows)] R=aD (dG z (a::rows)&&true&&decide ((a::rows).length*b≤140737488355328)&&decide ((a::rows).length≤140737488355328)) (R (a::rows)))
def zJ (z b:Nat):List T→Option (List (List T))
 | [.v (.slice none 0 0)]=>some []
 | [.ne _]=>some []
 | [.sl _ (a::rows)]=>match dG z (a::rows)&&true&&decide ((a::rows).length*b≤140737488355328)&&decide ((a::rows).length≤140737488355328) with
  | true=>some (a::rows)
  | false=>none
 | _=>none
end
end Go.Pv
