/-
  How one reasons about maps with keys that are integers.
-/
import Derived.Test.YtokajdeigdelgaaGreatDoorPv6kh
set_option linter.defProp false
set_option linter.unusedSimpArgs false
set_option linter.unusedVariables false
namespace Go.Pv
open Go Go.RowKit
theorem rW {n:Nat} {seen:List Nat} {i:Nat}:i∈a7 n seen↔i<n∧i∉seen:=by
 simp[a7]
theorem zQ {n i:Nat} {seen:List Nat} (h:i∈a7 n seen):(a7 n (seen++[i])).length<(a7 n seen).length:=by
 have e:a7 n (seen++[i])=(a7 n seen).filter fun x=>decide (x≠i):=by
  unfold a7
  rw[List.filter_filter]
  refine List.filter_congr fun x _=>?_
  by_cases hx:x=i<;>by_cases hs:x∈seen<;>simp[hx,hs]
 rw[e]
 exact List.length_filter_lt_length_iff_exists.2 ⟨i,h,by simp⟩
theorem CC (n:Nat):(a7 n []).length=n:=by unfold a7;rw[List.filter_eq_self.2 (by simp)];simp
end Go.Pv
