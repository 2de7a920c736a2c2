/-
  How one reasons about maps with keys that are integers.
-/
import Derived.Test.YtjledgajjgkbhaaGreatDoorVapkh
set_option linter.defProp false
set_option linter.unusedSimpArgs false
set_option linter.unusedVariables false
namespace Go.Pv
open Go Go.RowKit
def Sy.atom:Sy→Bool
 | .int _=>true
 | .bool=>true
 | .str=>true
 | _=>false
theorem rR {n:Nat} {seen:List Nat} {i:Nat}:i∈dA n seen↔i<n∧i∉seen:=by
 simp[dA]
theorem FF {n i:Nat} {seen:List Nat} (h:i∈dA n seen):(dA n (seen++[i])).length<(dA n seen).length:=by
 have e:dA n (seen++[i])=(dA n seen).filter fun x=>decide (x≠i):=by
  unfold dA
  rw[List.filter_filter]
  refine List.filter_congr fun x _=>?_
  by_cases hx:x=i<;>by_cases hs:x∈seen<;>simp[hx,hs]
 rw[e]
 exact List.length_filter_lt_length_iff_exists.2 ⟨i,h,by simp⟩
theorem JY (n:Nat):(dA n []).length=n:=by unfold dA;rw[List.filter_eq_self.2 (by simp)];simp
end Go.Pv
