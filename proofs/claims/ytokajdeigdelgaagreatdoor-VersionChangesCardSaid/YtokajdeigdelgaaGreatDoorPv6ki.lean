/-
  The symbolic executor, part i: copies of slices (a slice without elements may be nil or not).
-/
import Derived.Test.YtokajdeigdelgaaGreatDoorPv6kh
set_option linter.defProp false
set_option linter.unusedSimpArgs false
namespace Go.Pv
open Go Go.RowKit
inductive wL:T→T→Prop
 | same (t:T):wL t t
 | nil (f:Bool):wL (.sl f []) (.v (.slice none 0 0))
 | ne (f:Bool):wL (.sl f []) (.ne f)
 | isNe (f:Bool):wL (.ne f) (.ne f)
def yJ:List T→List T→Prop
 | [],[]=>True
 | a::l,b::m=>wL a b∧(∀ f,b≠.sl f [])∧yJ l m
 | _,_=>False
theorem a6.rL {w:World} {own:Nat→Prop} {t:T} {v:Value} (h:a6 w own t v):∃ t',wL t t'∧(∀ f,t'≠.sl f [])∧a6 w own t' v:=by
 by_cases hs:∃ f,t = .sl f []
 ·obtain ⟨f,rfl⟩:=hs
  cases h with
  | bH _ a cap hf hn =>
   cases a with
   | none=>have:=hn rfl;subst this;exact ⟨_,.nil f,by simp,.v _⟩
   | some a=>exact ⟨_,.ne f,by simp,.ne f a cap hf⟩
  | sl _ _ sz b o cap g h1 h2 h3 h4 h45 h5 h6 h7 h8=>exact ⟨_,.ne f,by simp,.ne f ⟨b,o,none⟩ cap (by simpa using h3)⟩
 ·exact ⟨t,.same t,fun f e=>hs ⟨f,e⟩,h⟩
theorem bE.rL {w:World} {own:Nat→Prop}:∀ {ts:List T} {l:List Value},bE (a6 w own) ts l.toArray→∃ ts',yJ ts ts'∧bE (a6 w own) ts' l.toArray
 | [],l,h=>⟨[],trivial,h⟩
 | t::ts,[],h=>by have:=h.1;simp at this
 | t::ts,v::l,h=>by
  have h0:=h.2 0 (by simp)
  simp only[List.getElem_cons_zero] at h0
  have e0:((v::l).toArray.getD 0 undef)=v:=by simp[Array.getD]
  rw[e0] at h0
  obtain ⟨t',f1,f2,f3⟩:=h0.rL
  have ht:bE (a6 w own) ts l.toArray:=⟨by have:=h.1;simpa using this,fun i hi=>by
   have:=h.2 (i+1) (by simpa using hi)
   simpa [Array.getD_eq_getD_getElem?] using this⟩
  obtain ⟨ts',g1,g2⟩:=bE.rL ht
  refine ⟨t'::ts',⟨f1,f2,g1⟩,?_⟩
  have:=(bE.one f3).append g2
  simpa using this
theorem aW.rL {P:Program} {f:FuncId} {g g':List T→Option T} (h:aW P f g') (hg:∀ args r,g args=some r→∀ args',yJ args args'→g' args'=some r):aW P f g :=
 ⟨h.entry,fun w own args vs r hG ho ha hr=>by
  obtain ⟨l⟩:=vs
  obtain ⟨args',h1,h2⟩:=bE.rL ha
  exact h.calls w own args' _ r hG ho h2 (hg args r hr args' h1)⟩
theorem b6.rL {P:Program} {f:FuncId} {g g':List T→Option (List (List T))} (h:b6 P f g') (hg:∀ args r,g args=some r→∀ args',yJ args args'→g' args'=some r):b6 P f g :=
 ⟨h.entry,fun w own args vs r hG ho ha hr=>by
  obtain ⟨l⟩:=vs
  obtain ⟨args',h1,h2⟩:=bE.rL ha
  exact h.calls w own args' _ r hG ho h2 (hg args r hr args' h1)⟩
def T7 (r:Sy) (b:Nat) (l:List r.den):Option (List (List T)):=match decide (l.length*b≤140737488355328)&&decide (l.length≤140737488355328) with
 | true=>some (List.map r.enc l)
 | false=>none
theorem KI (r:Sy) (l:List r.den):dL r.w (List.map r.enc l)=true:=by
 simp only[dL,List.all_map,List.all_eq_true,Function.comp_apply,decide_eq_true_eq]
 exact fun x _=>Sy.bO r x
section
variable {P : Program} {f : FuncId} {r : Sy} {b : Nat}
def PW (P:Program) (f:FuncId) (z b:Nat):Prop :=
 (∀ R,o0 cA P (Env.of []) (fun _=>bL) 1 f [T.v (.slice none 0 0)] R=R []) ∧
 (∀ fl R,o0 cA P (Env.of []) (fun _=>bL) 1 f [T.ne fl] R=bT (dL z ([]:List (List T))&&true&&decide (0≤140737488355328)&&decide (([]:List (List T)).length≤140737488355328)) (R [])) ∧
 (∀ fl a rows R,o0 cA P (Env.of []) (fun _=>bL) 1 f [T.sl fl (a::rows)] R=bT (dL z (a::rows)&&true&&decide ((a::rows).length*b≤140737488355328)&&decide ((a::rows).length≤140737488355328)) (R (a::rows)))
def sH (z b:Nat):List T→Option (List (List T))
 | [.v (.slice none 0 0)]=>some []
 | [.ne _]=>some []
 | [.sl _ (a::rows)]=>match dL z (a::rows)&&true&&decide ((a::rows).length*b≤140737488355328)&&decide ((a::rows).length≤140737488355328) with
  | true=>some (a::rows)
  | false=>none
 | _=>none
end
end Go.Pv
