/-
  What stands between the full stops of a string: plain facts.
-/
import Derived.Lib.SplitLaws
import Derived.Lib.IndexBytes
set_option linter.defProp false
set_option linter.unusedSimpArgs false
set_option linter.unusedVariables false
namespace Go.Pv
open Go Go.Lib
def spl:List UInt8→List (List UInt8)
 | []=>[[]]
 | b::l=>if b=46 then []::spl l else match spl l with
  | h::t=>(b::h)::t
  | []=>[[b]]
theorem AWN (l:List UInt8):spl l≠[]:=by
 cases l with
 | nil=>simp[spl]
 | cons b l =>
  unfold spl
  split
  ·simp
  ·split<;>simp
theorem ADJ {b:UInt8} {l:List UInt8} (h:b≠46):index (b::l) [46]=if index l [46] == -1 then -1 else index l [46]+1:=by
 simp only[index_one]
 rw[indexByte]
 rw[if_neg (by simpa using h)]
theorem AMO {b:UInt8} {l:List UInt8} (h:b≠46):∀ k,splitK [46] 0 k (b::l)=match splitK [46] 0 k l with
  | h::t=>(b::h)::t
  | []=>[[b]]
 | 0=>rfl
 | k+1=>by
  have hge:=index_ge l [46]
  rw[splitK,splitK,ADJ h]
  by_cases hm:index l [46] = -1
  ·simp[hm]
  ·have h1:¬ (index l [46] == -1)=true:=by simpa using hm
   have h2:¬ (index l [46]+1 == -1)=true:=by simp;omega
   have e1:(index l [46]+1).toNat=(index l [46]).toNat+1:=by omega
   rw[if_neg h1,if_neg h2,if_neg h1,e1]
   simp[Nat.add_right_comm]
theorem AG:∀ l:List UInt8,splitK [46] 0 (l.count 46) l=spl l
 | []=>rfl
 | b::l=>by
  by_cases h:b=46
  ·subst h
   have:(46::l:List UInt8).count 46=l.count 46+1:=by simp
   rw[this,splitK]
   have hi:index (46::l:List UInt8) [46]=0:=by rw[index_one,indexByte];simp
   rw[hi,spl,if_pos rfl,←AG l]
   simp
  ·rw[List.count_cons_of_ne (by simpa using h),AMO h,AG l,spl,if_neg h]
abbrev dot:ByteArray:=⟨#[46]⟩
def dO (s:ByteArray):List ByteArray:=splitB dot 0 (countB s dot) s
theorem B5 (s:ByteArray):(dO s).map (·.data.toList)=spl s.data.toList:=by
 unfold dO
 rw[splitB_data]
 show splitK [46] 0 (count s.data.toList [46]) s.data.toList=_
 rw[count_one,AG]
def AMQ:List (List UInt8)→Nat
 | []=>0
 | a::l=>a.length+AMQ l
theorem AG8:∀ l:List UInt8,AMQ (spl l)+(spl l).length=l.length+1
 | []=>rfl
 | b::l=>by
  have ih:=AG8 l
  unfold spl
  split
  ·simp[AMQ];omega
  ·cases h:spl l with
   | nil=>exact absurd h (AWN l)
   | cons a t=>rw[h] at ih;simp[AMQ] at ih ⊢;omega
def nH:List ByteArray→Nat
 | []=>0
 | a::l=>a.size+nH l
theorem AG7:∀ l:List ByteArray,nH l=AMQ (l.map (·.data.toList))
 | []=>rfl
 | a::l=>by
  simp only[nH,List.map_cons,AMQ,AG7 l]
  have:a.data.toList.length=a.size:=by rw[Array.length_toList];rfl
  omega
theorem AMF (s:ByteArray):nH (dO s)+(dO s).length=s.size+1:=by
 have h:=AG8 s.data.toList
 rw[←B5,←AG7,List.length_map] at h
 have e:s.data.toList.length=s.size:=by rw[Array.length_toList];rfl
 rw[e] at h;exact h
theorem AME (s:ByteArray):1≤(dO s).length:=by
 have h:(dO s).map (·.data.toList)≠[]:=by rw[B5];exact AWN _
 have:dO s≠[]:=fun e=>h (by rw[e];rfl)
 exact Nat.pos_of_ne_zero fun e=>this (List.length_eq_zero_iff.1 e)
end Go.Pv
