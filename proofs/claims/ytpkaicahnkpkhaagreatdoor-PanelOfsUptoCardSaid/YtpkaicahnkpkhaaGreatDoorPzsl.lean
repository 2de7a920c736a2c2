/-
  What stands between the full stops of a string: plain facts.
-/
import Derived.Lib.SplitLaws
import Derived.Lib.IndexBytes
set_option linter.unusedSimpArgs false
set_option linter.unusedVariables false
namespace Go.Pv
open Go Go.Lib
def MT:List UInt8→List (List UInt8)
 | []=>[[]]
 | b::l=>if b=46 then []::MT l else match MT l with
  | h::t=>(b::h)::t
  | []=>[[b]]
def N0 (acc l:List UInt8):List (List UInt8):=match MT l with
 | h::t=>(acc++h)::t
 | []=>[acc]
theorem US (l:List UInt8):MT l≠[]:=by
 cases l with
 | nil=>simp[MT]
 | cons b l =>
  unfold MT
  split
  ·simp
  ·split<;>simp
theorem ABO (l:List UInt8):N0 [] l=MT l:=by
 unfold N0
 cases h:MT l with
 | nil=>exact absurd h (US l)
 | cons a t=>rfl
theorem ASB (acc:List UInt8):N0 acc []=[acc]:=by simp[N0,MT]
theorem ASA (acc l:List UInt8):N0 acc (46::l)=acc::MT l:=by simp[N0,MT]
theorem ANI (acc l:List UInt8) {b:UInt8} (h:b≠46):N0 acc (b::l)=N0 (acc++[b]) l:=by
 unfold N0
 rw[MT,if_neg h]
 cases hl:MT l with
 | nil=>exact absurd hl (US l)
 | cons a t=>simp
theorem AFS {b:UInt8} {l:List UInt8} (h:b≠46):index (b::l) [46]=if index l [46] == -1 then -1 else index l [46]+1:=by
 simp only[index_one]
 rw[indexByte]
 rw[if_neg (by simpa using h)]
theorem ANK {b:UInt8} {l:List UInt8} (h:b≠46):∀ k,splitK [46] 0 k (b::l)=match splitK [46] 0 k l with
  | h::t=>(b::h)::t
  | []=>[[b]]
 | 0=>rfl
 | k+1=>by
  have hge:=index_ge l [46]
  rw[splitK,splitK,AFS h]
  by_cases hm:index l [46] = -1
  ·simp[hm]
  ·have h1:¬ (index l [46] == -1)=true:=by simpa using hm
   have h2:¬ (index l [46]+1 == -1)=true:=by simp;omega
   have e1:(index l [46]+1).toNat=(index l [46]).toNat+1:=by omega
   rw[if_neg h1,if_neg h2,if_neg h1,e1]
   simp[Nat.add_right_comm]
theorem yU:∀ l:List UInt8,splitK [46] 0 (l.count 46) l=MT l
 | []=>rfl
 | b::l=>by
  by_cases h:b=46
  ·subst h
   have:(46::l:List UInt8).count 46=l.count 46+1:=by simp
   rw[this,splitK]
   have hi:index (46::l:List UInt8) [46]=0:=by rw[index_one,indexByte];simp
   rw[hi,MT,if_pos rfl,←yU l]
   simp
  ·rw[List.count_cons_of_ne (by simpa using h),ANK h,yU l,MT,if_neg h]
abbrev dot:ByteArray:=⟨#[46]⟩
def cP (s:ByteArray):List ByteArray:=splitB dot 0 (countB s dot) s
theorem rG (s:ByteArray):(cP s).map (·.data.toList)=MT s.data.toList:=by
 unfold cP
 rw[splitB_data]
 show splitK [46] 0 (count s.data.toList [46]) s.data.toList=_
 rw[count_one,yU]
theorem AWD {a b:ByteArray} (h:a.data.toList=b.data.toList):a=b:=by
 apply ByteArray.ext
 exact Array.toList_inj.1 h
theorem parts_eq {out:List ByteArray} {s:ByteArray} (h:out.map (·.data.toList)=MT s.data.toList):out=cP s:=by
 rw[←rG] at h
 exact List.map_inj_right (fun _ _ e=>AWD e) |>.1 h
def kX:List (List UInt8)→Nat
 | []=>0
 | a::l=>a.length+kX l
theorem AI0:∀ l:List UInt8,kX (MT l)+(MT l).length=l.length+1
 | []=>rfl
 | b::l=>by
  have ih:=AI0 l
  unfold MT
  split
  ·simp[kX];omega
  ·cases h:MT l with
   | nil=>exact absurd h (US l)
   | cons a t=>rw[h] at ih;simp[kX] at ih ⊢;omega
def lR:List ByteArray→Nat
 | []=>0
 | a::l=>a.size+lR l
theorem AIZ:∀ l:List ByteArray,lR l=kX (l.map (·.data.toList))
 | []=>rfl
 | a::l=>by
  simp only[lR,List.map_cons,kX,AIZ l]
  have:a.data.toList.length=a.size:=by rw[Array.length_toList];rfl
  omega
theorem P2 (s:ByteArray):lR (cP s)+(cP s).length=s.size+1:=by
 have h:=AI0 s.data.toList
 rw[←rG,←AIZ,List.length_map] at h
 have e:s.data.toList.length=s.size:=by rw[Array.length_toList];rfl
 rw[e] at h;exact h
theorem AM3 (s:ByteArray):1≤(cP s).length:=by
 have h:(cP s).map (·.data.toList)≠[]:=by rw[rG];exact US _
 have:cP s≠[]:=fun e=>h (by rw[e];rfl)
 exact Nat.pos_of_ne_zero fun e=>this (List.length_eq_zero_iff.1 e)
end Go.Pv
