/-
  How one reasons about maps with keys that are integers.
-/
import Derived.Test.YtipdohmdckdoeaaGreatDoorVfkh
set_option linter.defProp false
set_option linter.unusedSimpArgs false
set_option linter.unusedVariables false
namespace Go.Pv
open Go Go.RowKit
abbrev eI (r:Sy):=cG (.int .i64) false r
def Sy.atom:Sy->Bool
 | .int _=>true
 | .bool=>true
 | .str=>true
 | _=>false
variable {seen:List Nat}
def mL {n:Nat} {i:Nat}:i∈cU n seen↔i<n/\i∉seen:=by
 simp[cU]
def vO {n i:Nat} (h:i∈cU n seen):(cU n (seen++[i])).length<(cU n seen).length:=by
 have e:cU n (seen++[i])=(cU n seen).filter λx=>decide (x≠i):=by
  unfold cU;rw[List.filter_filter];refine List.filter_congr λx _=>?_;by_cases hx:x=i<;>by_cases hs:x∈seen<;>simp[hx,hs]
 rw[e];exact List.length_filter_lt_length_iff_exists.2 ⟨i,h,by simp⟩
def yC (n:Nat):(cU n []).length=n:=by unfold cU;rw[List.filter_eq_self.2 (by simp)];simp
end Go.Pv
