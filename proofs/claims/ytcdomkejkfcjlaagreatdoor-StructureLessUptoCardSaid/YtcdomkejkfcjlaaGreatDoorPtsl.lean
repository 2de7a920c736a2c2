/-
  What stands between the full stops of a string: plain facts.
-/
import Derived.Lib.SplitLaws
import Derived.Lib.IndexBytes
set_option linter.unusedSimpArgs false
set_option linter.unusedVariables false
namespace Go.Pv
open Go Go.Lib
def SW:List UInt8→List (List UInt8)
 | []=>[[]]
 | b::l=>if b=46 then []::SW l else match SW l with
  | h::t=>(b::h)::t
  | []=>[[b]]
def TZ (acc l:List UInt8):List (List UInt8):=match SW l with
 | h::t=>(acc++h)::t
 | []=>[acc]
theorem ABW (l:List UInt8):SW l≠[]:=by
 cases l with
 | nil=>simp[SW]
 | cons b l =>
  unfold SW
  split
  ·simp
  ·split<;>simp
theorem AJF (l:List UInt8):TZ [] l=SW l:=by
 unfold TZ
 cases h:SW l with
 | nil=>exact absurd h (ABW l)
 | cons a t=>rfl
theorem A10 (acc:List UInt8):TZ acc []=[acc]:=by simp[TZ,SW]
theorem A1Z (acc l:List UInt8):TZ acc (46::l)=acc::SW l:=by simp[TZ,SW]
theorem AWF (acc l:List UInt8) {b:UInt8} (h:b≠46):TZ acc (b::l)=TZ (acc++[b]) l:=by
 unfold TZ
 rw[SW,if_neg h]
 cases hl:SW l with
 | nil=>exact absurd hl (ABW l)
 | cons a t=>simp
theorem ANN {b:UInt8} {l:List UInt8} (h:b≠46):index (b::l) [46]=if index l [46] == -1 then -1 else index l [46]+1:=by
 simp only[index_one]
 rw[indexByte]
 rw[if_neg (by simpa using h)]
theorem AWH {b:UInt8} {l:List UInt8} (h:b≠46):∀ k,splitK [46] 0 k (b::l)=match splitK [46] 0 k l with
  | h::t=>(b::h)::t
  | []=>[[b]]
 | 0=>rfl
 | k+1=>by
  have hge:=index_ge l [46]
  rw[splitK,splitK,ANN h]
  by_cases hm:index l [46] = -1
  ·simp[hm]
  ·have h1:¬ (index l [46] == -1)=true:=by simpa using hm
   have h2:¬ (index l [46]+1 == -1)=true:=by simp;omega
   have e1:(index l [46]+1).toNat=(index l [46]).toNat+1:=by omega
   rw[if_neg h1,if_neg h2,if_neg h1,e1]
   simp[Nat.add_right_comm]
theorem DM:∀ l:List UInt8,splitK [46] 0 (l.count 46) l=SW l
 | []=>rfl
 | b::l=>by
  by_cases h:b=46
  ·subst h
   have:(46::l:List UInt8).count 46=l.count 46+1:=by simp
   rw[this,splitK]
   have hi:index (46::l:List UInt8) [46]=0:=by rw[index_one,indexByte];simp
   rw[hi,SW,if_pos rfl,←DM l]
   simp
  ·rw[List.count_cons_of_ne (by simpa using h),AWH h,DM l,SW,if_neg h]
abbrev dot:ByteArray:=⟨#[46]⟩
def c0 (s:ByteArray):List ByteArray:=splitB dot 0 (countB s dot) s
theorem vQ (s:ByteArray):(c0 s).map (·.data.toList)=SW s.data.toList:=by
 unfold c0
 rw[splitB_data]
 show splitK [46] 0 (count s.data.toList [46]) s.data.toList=_
 rw[count_one,DM]
theorem A6H {a b:ByteArray} (h:a.data.toList=b.data.toList):a=b:=by
 apply ByteArray.ext
 exact Array.toList_inj.1 h
theorem parts_eq {out:List ByteArray} {s:ByteArray} (h:out.map (·.data.toList)=SW s.data.toList):out=c0 s:=by
 rw[←vQ] at h
 exact List.map_inj_right (fun _ _ e=>A6H e) |>.1 h
def mY:List (List UInt8)→Nat
 | []=>0
 | a::l=>a.length+mY l
theorem ARG:∀ l:List UInt8,mY (SW l)+(SW l).length=l.length+1
 | []=>rfl
 | b::l=>by
  have ih:=ARG l
  unfold SW
  split
  ·simp[mY];omega
  ·cases h:SW l with
   | nil=>exact absurd h (ABW l)
   | cons a t=>rw[h] at ih;simp[mY] at ih ⊢;omega
def n7:List ByteArray→Nat
 | []=>0
 | a::l=>a.size+n7 l
theorem ARF:∀ l:List ByteArray,n7 l=mY (l.map (·.data.toList))
 | []=>rfl
 | a::l=>by
  simp only[n7,List.map_cons,mY,ARF l]
  have:a.data.toList.length=a.size:=by rw[Array.length_toList];rfl
  omega
theorem WC (s:ByteArray):n7 (c0 s)+(c0 s).length=s.size+1:=by
 have h:=ARG s.data.toList
 rw[←vQ,←ARF,List.length_map] at h
 have e:s.data.toList.length=s.size:=by rw[Array.length_toList];rfl
 rw[e] at h;exact h
theorem AV3 (s:ByteArray):1≤(c0 s).length:=by
 have h:(c0 s).map (·.data.toList)≠[]:=by rw[vQ];exact ABW _
 have:c0 s≠[]:=fun e=>h (by rw[e];rfl)
 exact Nat.pos_of_ne_zero fun e=>this (List.length_eq_zero_iff.1 e)
end Go.Pv
