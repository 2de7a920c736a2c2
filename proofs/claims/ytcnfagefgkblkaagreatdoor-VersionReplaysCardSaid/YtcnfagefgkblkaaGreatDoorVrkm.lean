/-
  How one reasons about maps with keys that are integers.
-/
import Derived.Test.YtcnfagefgkblkaaGreatDoorVrkh
set_option linter.defProp false
set_option linter.unusedSimpArgs false
set_option linter.unusedVariables false
namespace Go.Pv
open Go Go.RowKit
def Sy.atom:Sy->Bool
 | .int _=>true
 | .bool=>true
 | .str=>true
 | _=>false
variable {seen:List Nat}
def iU {n:Nat} {i:Nat}:i∈cE n seen↔i<n/\i∉seen:=by
 simp[cE]
def pU {n i:Nat} (h:i∈cE n seen):(cE n (seen++[i])).length<(cE n seen).length:=by
 have e:cE n (seen++[i])=(cE n seen).filter λx=>decide (x≠i):=by
  unfold cE;rw[List.filter_filter];refine List.filter_congr λx _=>?_;by_cases hx:x=i<;>by_cases hs:x∈seen<;>simp[hx,hs]
 rw[e];exact List.length_filter_lt_length_iff_exists.2 ⟨i,h,by simp⟩
def sF (n:Nat):(cE n []).length=n:=by unfold cE;rw[List.filter_eq_self.2 (by simp)];simp
end Go.Pv
