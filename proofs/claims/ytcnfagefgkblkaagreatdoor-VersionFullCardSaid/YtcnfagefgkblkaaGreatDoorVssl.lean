/-
  What stands between the full stops of a string: plain facts.
-/
import Derived.Lib.SplitLaws
import Derived.Lib.IndexBytes
set_option linter.defProp false
set_option linter.unusedSimpArgs false
set_option linter.unusedVariables false
namespace Go.Pv
open Go Go.Lib
def spl:List UInt8→List (List UInt8)
 | []=>[[]]
 | b::l=>if b=46 then []::spl l else match spl l with
  | h::t=>(b::h)::t
  | []=>[[b]]
theorem AZZ (l:List UInt8):spl l≠[]:=by
 cases l with
 | nil=>simp[spl]
 | cons b l =>
  unfold spl
  split
  ·simp
  ·split<;>simp
theorem AEY {b:UInt8} {l:List UInt8} (h:b≠46):index (b::l) [46]=if index l [46] == -1 then -1 else index l [46]+1:=by
 simp only[index_one]
 rw[indexByte]
 rw[if_neg (by simpa using h)]
theorem AO5 {b:UInt8} {l:List UInt8} (h:b≠46):∀ k,splitK [46] 0 k (b::l)=match splitK [46] 0 k l with
  | h::t=>(b::h)::t
  | []=>[[b]]
 | 0=>rfl
 | k+1=>by
  have hge:=index_ge l [46]
  rw[splitK,splitK,AEY h]
  by_cases hm:index l [46] = -1
  ·simp[hm]
  ·have h1:¬ (index l [46] == -1)=true:=by simpa using hm
   have h2:¬ (index l [46]+1 == -1)=true:=by simp;omega
   have e1:(index l [46]+1).toNat=(index l [46]).toNat+1:=by omega
   rw[if_neg h1,if_neg h2,if_neg h1,e1]
   simp[Nat.add_right_comm]
theorem AZ:∀ l:List UInt8,splitK [46] 0 (l.count 46) l=spl l
 | []=>rfl
 | b::l=>by
  by_cases h:b=46
  ·subst h
   have:(46::l:List UInt8).count 46=l.count 46+1:=by simp
   rw[this,splitK]
   have hi:index (46::l:List UInt8) [46]=0:=by rw[index_one,indexByte];simp
   rw[hi,spl,if_pos rfl,←AZ l]
   simp
  ·rw[List.count_cons_of_ne (by simpa using h),AO5 h,AZ l,spl,if_neg h]
abbrev dot:ByteArray:=⟨#[46]⟩
def dP (s:ByteArray):List ByteArray:=splitB dot 0 (countB s dot) s
theorem C9 (s:ByteArray):(dP s).map (·.data.toList)=spl s.data.toList:=by
 unfold dP
 rw[splitB_data]
 show splitK [46] 0 (count s.data.toList [46]) s.data.toList=_
 rw[count_one,AZ]
def AO8:List (List UInt8)→Nat
 | []=>0
 | a::l=>a.length+AO8 l
theorem AJC:∀ l:List UInt8,AO8 (spl l)+(spl l).length=l.length+1
 | []=>rfl
 | b::l=>by
  have ih:=AJC l
  unfold spl
  split
  ·simp[AO8];omega
  ·cases h:spl l with
   | nil=>exact absurd h (AZZ l)
   | cons a t=>rw[h] at ih;simp[AO8] at ih ⊢;omega
def nM:List ByteArray→Nat
 | []=>0
 | a::l=>a.size+nM l
theorem AJB:∀ l:List ByteArray,nM l=AO8 (l.map (·.data.toList))
 | []=>rfl
 | a::l=>by
  simp only[nM,List.map_cons,AO8,AJB l]
  have:a.data.toList.length=a.size:=by rw[Array.length_toList];rfl
  omega
theorem AOV (s:ByteArray):nM (dP s)+(dP s).length=s.size+1:=by
 have h:=AJC s.data.toList
 rw[←C9,←AJB,List.length_map] at h
 have e:s.data.toList.length=s.size:=by rw[Array.length_toList];rfl
 rw[e] at h;exact h
theorem AOU (s:ByteArray):1≤(dP s).length:=by
 have h:(dP s).map (·.data.toList)≠[]:=by rw[C9];exact AZZ _
 have:dP s≠[]:=fun e=>h (by rw[e];rfl)
 exact Nat.pos_of_ne_zero fun e=>this (List.length_eq_zero_iff.1 e)
end Go.Pv
