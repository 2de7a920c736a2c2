/-
  How one reasons about maps with keys that are integers.
-/
import Derived.Test.YtipdohmdckdoeaaGreatDoorVckh
set_option linter.defProp false
set_option linter.unusedSimpArgs false
set_option linter.unusedVariables false
namespace Go.Pv
open Go Go.RowKit
def Sy.atom:Sy->Bool
 | .int _=>true
 | .bool=>true
 | .str=>true
 | _=>false
variable {seen:List Nat}
def nC {n:Nat} {i:Nat}:i∈cT n seen↔i<n/\i∉seen:=by
 simp[cT]
def wW {n i:Nat} (h:i∈cT n seen):(cT n (seen++[i])).length<(cT n seen).length:=by
 have e:cT n (seen++[i])=(cT n seen).filter λx=>decide (x≠i):=by
  unfold cT;rw[List.filter_filter];refine List.filter_congr λx _=>?_;by_cases hx:x=i<;>by_cases hs:x∈seen<;>simp[hx,hs]
 rw[e];exact List.length_filter_lt_length_iff_exists.2 ⟨i,h,by simp⟩
def AO (n:Nat):(cT n []).length=n:=by unfold cT;rw[List.filter_eq_self.2 (by simp)];simp
end Go.Pv
