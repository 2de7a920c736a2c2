/-
  How one reasons about maps with keys that are integers.
-/
import Derived.Test.YtipdohmdckdoeaaGreatDoorVekh
set_option linter.defProp false
set_option linter.unusedSimpArgs false
set_option linter.unusedVariables false
namespace Go.Pv
open Go Go.RowKit
def Sy.atom:Sy->Bool
 | .int _=>true
 | .bool=>true
 | .str=>true
 | _=>false
variable {seen:List Nat}
def mD {n:Nat} {i:Nat}:i∈cK n seen↔i<n/\i∉seen:=by
 simp[cK]
def vF {n i:Nat} (h:i∈cK n seen):(cK n (seen++[i])).length<(cK n seen).length:=by
 have e:cK n (seen++[i])=(cK n seen).filter λx=>decide (x≠i):=by
  unfold cK;rw[List.filter_filter];refine List.filter_congr λx _=>?_;by_cases hx:x=i<;>by_cases hs:x∈seen<;>simp[hx,hs]
 rw[e];exact List.length_filter_lt_length_iff_exists.2 ⟨i,h,by simp⟩
def xY (n:Nat):(cK n []).length=n:=by unfold cK;rw[List.filter_eq_self.2 (by simp)];simp
end Go.Pv
