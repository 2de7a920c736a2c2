/-
  What stands between the full stops of a string: plain facts.
-/
import Derived.Lib.SplitLaws
import Derived.Lib.IndexBytes
set_option linter.defProp false
set_option linter.unusedSimpArgs false
set_option linter.unusedVariables false
namespace Go.Pv
open Go Go.Lib
def spl:List UInt8→List (List UInt8)
 | []=>[[]]
 | b::l=>if b=46 then []::spl l else match spl l with
  | h::t=>(b::h)::t
  | []=>[[b]]
theorem A2U (l:List UInt8):spl l≠[]:=by
 cases l with
 | nil=>simp[spl]
 | cons b l =>
  unfold spl
  split
  ·simp
  ·split<;>simp
theorem AIO {b:UInt8} {l:List UInt8} (h:b≠46):index (b::l) [46]=if index l [46] == -1 then -1 else index l [46]+1:=by
 simp only[index_one]
 rw[indexByte]
 rw[if_neg (by simpa using h)]
theorem AST {b:UInt8} {l:List UInt8} (h:b≠46):∀ k,splitK [46] 0 k (b::l)=match splitK [46] 0 k l with
  | h::t=>(b::h)::t
  | []=>[[b]]
 | 0=>rfl
 | k+1=>by
  have hge:=index_ge l [46]
  rw[splitK,splitK,AIO h]
  by_cases hm:index l [46] = -1
  ·simp[hm]
  ·have h1:¬ (index l [46] == -1)=true:=by simpa using hm
   have h2:¬ (index l [46]+1 == -1)=true:=by simp;omega
   have e1:(index l [46]+1).toNat=(index l [46]).toNat+1:=by omega
   rw[if_neg h1,if_neg h2,if_neg h1,e1]
   simp[Nat.add_right_comm]
theorem DQ:∀ l:List UInt8,splitK [46] 0 (l.count 46) l=spl l
 | []=>rfl
 | b::l=>by
  by_cases h:b=46
  ·subst h
   have:(46::l:List UInt8).count 46=l.count 46+1:=by simp
   rw[this,splitK]
   have hi:index (46::l:List UInt8) [46]=0:=by rw[index_one,indexByte];simp
   rw[hi,spl,if_pos rfl,←DQ l]
   simp
  ·rw[List.count_cons_of_ne (by simpa using h),AST h,DQ l,spl,if_neg h]
abbrev dot:ByteArray:=⟨#[46]⟩
def eK (s:ByteArray):List ByteArray:=splitB dot 0 (countB s dot) s
theorem FN (s:ByteArray):(eK s).map (·.data.toList)=spl s.data.toList:=by
 unfold eK
 rw[splitB_data]
 show splitK [46] 0 (count s.data.toList [46]) s.data.toList=_
 rw[count_one,DQ]
def ASX:List (List UInt8)→Nat
 | []=>0
 | a::l=>a.length+ASX l
theorem AM9:∀ l:List UInt8,ASX (spl l)+(spl l).length=l.length+1
 | []=>rfl
 | b::l=>by
  have ih:=AM9 l
  unfold spl
  split
  ·simp[ASX];omega
  ·cases h:spl l with
   | nil=>exact absurd h (A2U l)
   | cons a t=>rw[h] at ih;simp[ASX] at ih ⊢;omega
def oR:List ByteArray→Nat
 | []=>0
 | a::l=>a.size+oR l
theorem AM8:∀ l:List ByteArray,oR l=ASX (l.map (·.data.toList))
 | []=>rfl
 | a::l=>by
  simp only[oR,List.map_cons,ASX,AM8 l]
  have:a.data.toList.length=a.size:=by rw[Array.length_toList];rfl
  omega
theorem ASJ (s:ByteArray):oR (eK s)+(eK s).length=s.size+1:=by
 have h:=AM9 s.data.toList
 rw[←FN,←AM8,List.length_map] at h
 have e:s.data.toList.length=s.size:=by rw[Array.length_toList];rfl
 rw[e] at h;exact h
theorem ASI (s:ByteArray):1≤(eK s).length:=by
 have h:(eK s).map (·.data.toList)≠[]:=by rw[FN];exact A2U _
 have:eK s≠[]:=fun e=>h (by rw[e];rfl)
 exact Nat.pos_of_ne_zero fun e=>this (List.length_eq_zero_iff.1 e)
end Go.Pv
