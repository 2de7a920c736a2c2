/-
  How one reasons about maps with keys that are integers.
-/
import Derived.Test.YtcdomkejkfcjlaaGreatDoorPrkh
set_option linter.unusedSimpArgs false
set_option linter.unusedVariables false
namespace Go.Pv
open Go Go.RowKit
def Sy.atom:Sy→Bool
 | .int _=>true
 | .bool=>true
 | .str=>true
 | _=>false
theorem rW {n:Nat} {seen:List Nat} {i:Nat}:i∈cI n seen↔i<n∧i∉seen:=by
 simp[cI]
theorem EH {n i:Nat} {seen:List Nat} (h:i∈cI n seen):(cI n (seen++[i])).length<(cI n seen).length:=by
 have e:cI n (seen++[i])=(cI n seen).filter fun x=>decide (x≠i):=by
  unfold cI
  rw[List.filter_filter]
  refine List.filter_congr fun x _=>?_
  by_cases hx:x=i<;>by_cases hs:x∈seen<;>simp[hx,hs]
 rw[e]
 exact List.length_filter_lt_length_iff_exists.2 ⟨i,h,by simp⟩
theorem K0 (n:Nat):(cI n []).length=n:=by unfold cI;rw[List.filter_eq_self.2 (by simp)];simp
end Go.Pv
