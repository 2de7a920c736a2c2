/-
  How one reasons about maps with keys that are strings: only what a key leads to.
-/
import Derived.Test.YtokajdeigdelgaaGreatDoorPv6km
set_option linter.defProp false
set_option linter.unusedSimpArgs false
set_option linter.unusedVariables false
namespace Go.Pv
open Go Go.RowKit Go.MapKept
theorem vI (a b:ByteArray):Instr.sameNow .string (.string a) (.string b)=some (decide (a=b)):=by
 by_cases h:a=b
 ·subst h
  rw[decide_eq_true rfl]
  simp only[Instr.sameNow,Option.some.injEq]
  exact (bytes_beq _ _).2 rfl
 ·rw[decide_eq_false h]
  simp only[Instr.sameNow,Option.some.injEq]
  exact Bool.eq_false_iff.2 fun h'=>h ((bytes_beq _ _).1 h')
section
variable {r : Sy}
def eO {α:Type}:List (ByteArray×α)→ByteArray→Option α
 | [],_=>none
 | e::es,k=>if e.1=k then some e.2 else eO es k
theorem oO {α:Type} (k:ByteArray):∀ (es:List (ByteArray×α)),(eO es k=none∧∀ e∈es,e.1≠k)∨∃ j,∃ hj:j<es.length,es[j].1=k∧(∀ q (hq:q<j),es[q].1≠k)∧eO es k=some es[j].2
 | []=>.inl ⟨rfl,by simp⟩
 | e::es=>by
  by_cases h:e.1=k
  ·exact .inr ⟨0,by simp,by simpa using h,fun q hq=>by omega,by simp[eO,h]⟩
  ·rcases oO k es with ⟨h1,h2⟩|⟨j,hj,h1,h2,h3⟩
   ·refine .inl ⟨by simp[eO,h,h1],fun x hx=>?_⟩
    rcases List.mem_cons.1 hx with rfl|hx
    ·exact h
    ·exact h2 x hx
   ·refine .inr ⟨j+1,by simpa using hj,by simpa using h1,fun q hq=>?_,by simp[eO,h,h3]⟩
    match q with
    | 0=>simpa using h
    | q+1=>have:=h2 q (by omega);simpa using this
end
end Go.Pv
