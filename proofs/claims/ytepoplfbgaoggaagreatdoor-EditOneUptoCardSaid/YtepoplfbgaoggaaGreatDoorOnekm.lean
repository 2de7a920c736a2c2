/-
  How one reasons about maps with keys that are integers.
-/
import Derived.Test.YtepoplfbgaoggaaGreatDoorOnekh
set_option linter.defProp false
set_option linter.unusedSimpArgs false
set_option linter.unusedVariables false
namespace Go.Pv
open Go Go.RowKit
def Sy.atom:Sy->Bool
 | .int _=>true
 | .bool=>true
 | .str=>true
 | _=>false
variable {seen:List Nat}
def uA {n:Nat} {i:Nat}:i∈eC n seen↔i<n/\i∉seen:=by
 simp[eC]
def JA {n i:Nat} (h:i∈eC n seen):(eC n (seen++[i])).length<(eC n seen).length:=by
 have e:eC n (seen++[i])=(eC n seen).filter λx=>decide (x≠i):=by
  unfold eC;rw[List.filter_filter];refine List.filter_congr λx _=>?_;by_cases hx:x=i<;>by_cases hs:x∈seen<;>simp[hx,hs]
 rw[e];exact List.length_filter_lt_length_iff_exists.2 ⟨i,h,by simp⟩
def O9 (n:Nat):(eC n []).length=n:=by unfold eC;rw[List.filter_eq_self.2 (by simp)];simp
end Go.Pv
