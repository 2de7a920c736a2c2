/-
  How one reasons about maps with keys that are integers.
-/
import Derived.Test.YtipdohmdckdoeaaGreatDoorVdkh
set_option linter.defProp false
set_option linter.unusedSimpArgs false
set_option linter.unusedVariables false
namespace Go.Pv
open Go Go.RowKit
def Sy.atom:Sy->Bool
 | .int _=>true
 | .bool=>true
 | .str=>true
 | _=>false
variable {seen:List Nat}
def mL {n:Nat} {i:Nat}:i∈cM n seen↔i<n/\i∉seen:=by
 simp[cM]
def vR {n i:Nat} (h:i∈cM n seen):(cM n (seen++[i])).length<(cM n seen).length:=by
 have e:cM n (seen++[i])=(cM n seen).filter λx=>decide (x≠i):=by
  unfold cM;rw[List.filter_filter];refine List.filter_congr λx _=>?_;by_cases hx:x=i<;>by_cases hs:x∈seen<;>simp[hx,hs]
 rw[e];exact List.length_filter_lt_length_iff_exists.2 ⟨i,h,by simp⟩
def yZ (n:Nat):(cM n []).length=n:=by unfold cM;rw[List.filter_eq_self.2 (by simp)];simp
end Go.Pv
