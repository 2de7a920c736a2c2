/-
  The symbolic executor, part i: copies of slices (a slice without elements may be nil or not).
-/
import Derived.Test.YtokajdeigdelgaaGreatDoorPv5kh
set_option linter.defProp false
set_option linter.unusedSimpArgs false
namespace Go.Pv
open Go Go.RowKit
inductive x8:T→T→Prop
 | same (t:T):x8 t t
 | nil (f:Bool):x8 (.sl f []) (.v (.slice none 0 0))
 | ne (f:Bool):x8 (.sl f []) (.ne f)
 | isNe (f:Bool):x8 (.ne f) (.ne f)
def AZ:List T→List T→Prop
 | [],[]=>True
 | a::l,b::m=>x8 a b∧(∀ f,b≠.sl f [])∧AZ l m
 | _,_=>False
theorem bD.rW {w:World} {own:Nat→Prop} {t:T} {v:Value} (h:bD w own t v):∃ t',x8 t t'∧(∀ f,t'≠.sl f [])∧bD w own t' v:=by
 by_cases hs:∃ f,t = .sl f []
 ·obtain ⟨f,rfl⟩:=hs
  cases h with
  | bJ _ a cap hf hn =>
   cases a with
   | none=>have:=hn rfl;subst this;exact ⟨_,.nil f,by simp,.v _⟩
   | some a=>exact ⟨_,.ne f,by simp,.ne f a cap hf⟩
  | sl _ _ sz b o cap g h1 h2 h3 h4 h45 h5 h6 h7 h8=>exact ⟨_,.ne f,by simp,.ne f ⟨b,o,none⟩ cap (by simpa using h3)⟩
 ·exact ⟨t,.same t,fun f e=>hs ⟨f,e⟩,h⟩
theorem bN.rW {w:World} {own:Nat→Prop}:∀ {ts:List T} {l:List Value},bN (bD w own) ts l.toArray→∃ ts',AZ ts ts'∧bN (bD w own) ts' l.toArray
 | [],l,h=>⟨[],trivial,h⟩
 | t::ts,[],h=>by have:=h.1;simp at this
 | t::ts,v::l,h=>by
  have h0:=h.2 0 (by simp)
  simp only[List.getElem_cons_zero] at h0
  have e0:((v::l).toArray.getD 0 undef)=v:=by simp[Array.getD]
  rw[e0] at h0
  obtain ⟨t',f1,f2,f3⟩:=h0.rW
  have ht:bN (bD w own) ts l.toArray:=⟨by have:=h.1;simpa using this,fun i hi=>by
   have:=h.2 (i+1) (by simpa using hi)
   simpa [Array.getD_eq_getD_getElem?] using this⟩
  obtain ⟨ts',g1,g2⟩:=bN.rW ht
  refine ⟨t'::ts',⟨f1,f2,g1⟩,?_⟩
  have:=(bN.one f3).append g2
  simpa using this
theorem aW.rW {P:Program} {f:FuncId} {g g':List T→Option T} (h:aW P f g') (hg:∀ args r,g args=some r→∀ args',AZ args args'→g' args'=some r):aW P f g :=
 ⟨h.entry,fun w own args vs r hG ho ha hr=>by
  obtain ⟨l⟩:=vs
  obtain ⟨args',h1,h2⟩:=bN.rW ha
  exact h.calls w own args' _ r hG ho h2 (hg args r hr args' h1)⟩
theorem dD.rW {P:Program} {f:FuncId} {g g':List T→Option (List (List T))} (h:dD P f g') (hg:∀ args r,g args=some r→∀ args',AZ args args'→g' args'=some r):dD P f g :=
 ⟨h.entry,fun w own args vs r hG ho ha hr=>by
  obtain ⟨l⟩:=vs
  obtain ⟨args',h1,h2⟩:=bN.rW ha
  exact h.calls w own args' _ r hG ho h2 (hg args r hr args' h1)⟩
def ZK (r:Sy) (b:Nat) (l:List r.den):Option (List (List T)):=match decide (l.length*b≤140737488355328)&&decide (l.length≤140737488355328) with
 | true=>some (List.map r.enc l)
 | false=>none
theorem NS (r:Sy) (l:List r.den):eG r.w (List.map r.enc l)=true:=by
 simp only[eG,List.all_map,List.all_eq_true,Function.comp_apply,decide_eq_true_eq]
 exact fun x _=>Sy.cB r x
section
variable {P : Program} {f : FuncId} {r : Sy} {b : Nat}
def UN (P:Program) (f:FuncId) (z b:Nat):Prop :=
 (∀ R,w8 bQ P (Env.of []) (fun _=>bU) 1 f [T.v (.slice none 0 0)] R=R []) ∧
 (∀ fl R,w8 bQ P (Env.of []) (fun _=>bU) 1 f [T.ne fl] R=aF (eG z ([]:List (List T))&&true&&decide (0≤140737488355328)&&decide (([]:List (List T)).length≤140737488355328)) (R [])) ∧
 (∀ fl a rows R,w8 bQ P (Env.of []) (fun _=>bU) 1 f [T.sl fl (a::rows)] R=aF (eG z (a::rows)&&true&&decide ((a::rows).length*b≤140737488355328)&&decide ((a::rows).length≤140737488355328)) (R (a::rows)))
def sR (z b:Nat):List T→Option (List (List T))
 | [.v (.slice none 0 0)]=>some []
 | [.ne _]=>some []
 | [.sl _ (a::rows)]=>match eG z (a::rows)&&true&&decide ((a::rows).length*b≤140737488355328)&&decide ((a::rows).length≤140737488355328) with
  | true=>some (a::rows)
  | false=>none
 | _=>none
end
end Go.Pv
