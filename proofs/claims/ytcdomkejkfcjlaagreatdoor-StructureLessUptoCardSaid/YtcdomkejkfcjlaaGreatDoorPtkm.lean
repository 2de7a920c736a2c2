/-
  How one reasons about maps with keys that are integers.
-/
import Derived.Test.YtcdomkejkfcjlaaGreatDoorPtkh
set_option linter.unusedSimpArgs false
set_option linter.unusedVariables false
namespace Go.Pv
open Go Go.RowKit
def Sy.atom:Sy→Bool
 | .int _=>true
 | .bool=>true
 | .str=>true
 | _=>false
theorem rF {n:Nat} {seen:List Nat} {i:Nat}:i∈cK n seen↔i<n∧i∉seen:=by
 simp[cK]
theorem EU {n i:Nat} {seen:List Nat} (h:i∈cK n seen):(cK n (seen++[i])).length<(cK n seen).length:=by
 have e:cK n (seen++[i])=(cK n seen).filter fun x=>decide (x≠i):=by
  unfold cK
  rw[List.filter_filter]
  refine List.filter_congr fun x _=>?_
  by_cases hx:x=i<;>by_cases hs:x∈seen<;>simp[hx,hs]
 rw[e]
 exact List.length_filter_lt_length_iff_exists.2 ⟨i,h,by simp⟩
theorem LB (n:Nat):(cK n []).length=n:=by unfold cK;rw[List.filter_eq_self.2 (by simp)];simp
end Go.Pv
