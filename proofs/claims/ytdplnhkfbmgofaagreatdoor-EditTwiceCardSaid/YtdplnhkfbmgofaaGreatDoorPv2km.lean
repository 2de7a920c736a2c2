/-
  How one reasons about maps with keys that are integers.
-/
import Derived.Test.YtdplnhkfbmgofaaGreatDoorPv2kh
set_option linter.defProp false
set_option linter.unusedSimpArgs false
set_option linter.unusedVariables false
namespace Go.Pv
open Go Go.RowKit
def Sy.atom:Sy→Bool
 | .int _=>true
 | .bool=>true
 | .str=>true
 | _=>false
theorem qG {n:Nat} {seen:List Nat} {i:Nat}:i∈cN n seen↔i<n∧i∉seen:=by
 simp[cN]
theorem BZ {n i:Nat} {seen:List Nat} (h:i∈cN n seen):(cN n (seen++[i])).length<(cN n seen).length:=by
 have e:cN n (seen++[i])=(cN n seen).filter fun x=>decide (x≠i):=by
  unfold cN
  rw[List.filter_filter]
  refine List.filter_congr fun x _=>?_
  by_cases hx:x=i<;>by_cases hs:x∈seen<;>simp[hx,hs]
 rw[e]
 exact List.length_filter_lt_length_iff_exists.2 ⟨i,h,by simp⟩
theorem GA (n:Nat):(cN n []).length=n:=by unfold cN;rw[List.filter_eq_self.2 (by simp)];simp
end Go.Pv
