/-
  What stands between the full stops of a string: plain facts.
-/
import Derived.Lib.SplitLaws
import Derived.Lib.IndexBytes
set_option linter.unusedSimpArgs false
set_option linter.unusedVariables false
namespace Go.Pv
open Go Go.Lib
def L0:List UInt8→List (List UInt8)
 | []=>[[]]
 | b::l=>if b=46 then []::L0 l else match L0 l with
  | h::t=>(b::h)::t
  | []=>[[b]]
def NB (acc l:List UInt8):List (List UInt8):=match L0 l with
 | h::t=>(acc++h)::t
 | []=>[acc]
theorem AD0 (l:List UInt8):L0 l≠[]:=by
 cases l with
 | nil=>simp[L0]
 | cons b l =>
  unfold L0
  split
  ·simp
  ·split<;>simp
theorem ZO (l:List UInt8):NB [] l=L0 l:=by
 unfold NB
 cases h:L0 l with
 | nil=>exact absurd h (AD0 l)
 | cons a t=>rfl
theorem AMP (acc:List UInt8):NB acc []=[acc]:=by simp[NB,L0]
theorem AMO (acc l:List UInt8):NB acc (46::l)=acc::L0 l:=by simp[NB,L0]
theorem AI3 (acc l:List UInt8) {b:UInt8} (h:b≠46):NB acc (b::l)=NB (acc++[b]) l:=by
 unfold NB
 rw[L0,if_neg h]
 cases hl:L0 l with
 | nil=>exact absurd hl (AD0 l)
 | cons a t=>simp
theorem ACT {b:UInt8} {l:List UInt8} (h:b≠46):index (b::l) [46]=if index l [46] == -1 then -1 else index l [46]+1:=by
 simp only[index_one]
 rw[indexByte]
 rw[if_neg (by simpa using h)]
theorem AI5 {b:UInt8} {l:List UInt8} (h:b≠46):∀ k,splitK [46] 0 k (b::l)=match splitK [46] 0 k l with
  | h::t=>(b::h)::t
  | []=>[[b]]
 | 0=>rfl
 | k+1=>by
  have hge:=index_ge l [46]
  rw[splitK,splitK,ACT h]
  by_cases hm:index l [46] = -1
  ·simp[hm]
  ·have h1:¬ (index l [46] == -1)=true:=by simpa using hm
   have h2:¬ (index l [46]+1 == -1)=true:=by simp;omega
   have e1:(index l [46]+1).toNat=(index l [46]).toNat+1:=by omega
   rw[if_neg h1,if_neg h2,if_neg h1,e1]
   simp[Nat.add_right_comm]
theorem AO:∀ l:List UInt8,splitK [46] 0 (l.count 46) l=L0 l
 | []=>rfl
 | b::l=>by
  by_cases h:b=46
  ·subst h
   have:(46::l:List UInt8).count 46=l.count 46+1:=by simp
   rw[this,splitK]
   have hi:index (46::l:List UInt8) [46]=0:=by rw[index_one,indexByte];simp
   rw[hi,L0,if_pos rfl,←AO l]
   simp
  ·rw[List.count_cons_of_ne (by simpa using h),AI5 h,AO l,L0,if_neg h]
abbrev dot:ByteArray:=⟨#[46]⟩
def gJ (s:ByteArray):List ByteArray:=splitB dot 0 (countB s dot) s
theorem B4 (s:ByteArray):(gJ s).map (·.data.toList)=L0 s.data.toList:=by
 unfold gJ
 rw[splitB_data]
 show splitK [46] 0 (count s.data.toList [46]) s.data.toList=_
 rw[count_one,AO]
theorem AP5 {a b:ByteArray} (h:a.data.toList=b.data.toList):a=b:=by
 apply ByteArray.ext
 exact Array.toList_inj.1 h
theorem parts_eq {out:List ByteArray} {s:ByteArray} (h:out.map (·.data.toList)=L0 s.data.toList):out=gJ s:=by
 rw[←B4] at h
 exact List.map_inj_right (fun _ _ e=>AP5 e) |>.1 h
def kT:List (List UInt8)→Nat
 | []=>0
 | a::l=>a.length+kT l
theorem AFO:∀ l:List UInt8,kT (L0 l)+(L0 l).length=l.length+1
 | []=>rfl
 | b::l=>by
  have ih:=AFO l
  unfold L0
  split
  ·simp[kT];omega
  ·cases h:L0 l with
   | nil=>exact absurd h (AD0 l)
   | cons a t=>rw[h] at ih;simp[kT] at ih ⊢;omega
def AFM:List ByteArray→Nat
 | []=>0
 | a::l=>a.size+AFM l
theorem AFN:∀ l:List ByteArray,AFM l=kT (l.map (·.data.toList))
 | []=>rfl
 | a::l=>by
  simp only[AFM,List.map_cons,kT,AFN l]
  have:a.data.toList.length=a.size:=by rw[Array.length_toList];rfl
  omega
theorem AIQ (s:ByteArray):AFM (gJ s)+(gJ s).length=s.size+1:=by
 have h:=AFO s.data.toList
 rw[←B4,←AFN,List.length_map] at h
 have e:s.data.toList.length=s.size:=by rw[Array.length_toList];rfl
 rw[e] at h;exact h
end Go.Pv
