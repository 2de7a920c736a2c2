/-
  How one reasons about maps with keys that are integers.
-/
import Derived.Test.YtdeckddpmegjeaaGreatDoorPv3kh
set_option linter.defProp false
set_option linter.unusedSimpArgs false
set_option linter.unusedVariables false
namespace Go.Pv
open Go Go.RowKit
def Sy.atom:Sy→Bool
 | .int _=>true
 | .bool=>true
 | .str=>true
 | _=>false
theorem qW {n:Nat} {seen:List Nat} {i:Nat}:i∈cS n seen↔i<n∧i∉seen:=by
 simp[cS]
theorem CR {n i:Nat} {seen:List Nat} (h:i∈cS n seen):(cS n (seen++[i])).length<(cS n seen).length:=by
 have e:cS n (seen++[i])=(cS n seen).filter fun x=>decide (x≠i):=by
  unfold cS
  rw[List.filter_filter]
  refine List.filter_congr fun x _=>?_
  by_cases hx:x=i<;>by_cases hs:x∈seen<;>simp[hx,hs]
 rw[e]
 exact List.length_filter_lt_length_iff_exists.2 ⟨i,h,by simp⟩
theorem G1 (n:Nat):(cS n []).length=n:=by unfold cS;rw[List.filter_eq_self.2 (by simp)];simp
end Go.Pv
