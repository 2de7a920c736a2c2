/-
  What stands between the full stops of a string: plain facts.
-/
import Derived.Lib.SplitLaws
import Derived.Lib.IndexBytes
set_option linter.defProp false
set_option linter.unusedSimpArgs false
set_option linter.unusedVariables false
namespace Go.Pv
open Go Go.Lib
def spl:List UInt8->List (List UInt8)
 | []=>[[]]
 | b::l=>if b=46 then []::spl l else match spl l with
  | h::t=>(b::h)::t
  | []=>[[b]]
def A6S (l:List UInt8):spl l≠[]:=by
 cases l with
 | nil=>simp[spl]
 | cons b l =>
  unfold spl;split
  ·simp
  ·split<;>simp
def AIN {b:UInt8} {l:List UInt8} (h:b≠46):index (b::l) [46]=if index l [46] == -1 then -1 else index l [46]+1:=by
 simp only[index_one];rw[indexByte];rw[if_neg (by simpa using h)]
def AT0 {b:UInt8} {l:List UInt8} (h:b≠46):∀ k,splitK [46] 0 k (b::l)=match splitK [46] 0 k l with
  | h::t=>(b::h)::t
  | []=>[[b]]
 | 0=>rfl
 | k+1=>by
  have hge:=index_ge l [46];rw[splitK,splitK,AIN h];by_cases hm:index l [46] = -1
  ·simp[hm]
  ·have h1:¬ (index l [46] == -1)=true:=by simpa using hm
   have h2:¬ (index l [46]+1 == -1)=true:=by simp;omega
   have e1:(index l [46]+1).toNat=(index l [46]).toNat+1:=by omega
   rw[if_neg h1,if_neg h2,if_neg h1,e1];simp[Nat.add_right_comm]
def DM:∀ l:List UInt8,splitK [46] 0 (l.count 46) l=spl l
 | []=>rfl
 | b::l=>by
  by_cases h:b=46
  ·subst h;have:(46::l:List UInt8).count 46=l.count 46+1:=by simp
   rw[this,splitK];have hi:index (46::l:List UInt8) [46]=0:=by rw[index_one,indexByte];simp
   rw[hi,spl,if_pos rfl,<-DM l];simp
  ·rw[List.count_cons_of_ne (by simpa using h),AT0 h,DM l,spl,if_neg h]
abbrev dot:ByteArray:=⟨#[46]⟩
def eZ (s:ByteArray):List ByteArray:=splitB dot 0 (countB s dot) s
def FF (s:ByteArray):(eZ s).map (·.data.toList)=spl s.data.toList:=by
 unfold eZ;rw[splitB_data];show splitK [46] 0 (count s.data.toList [46]) s.data.toList=_;rw[count_one,DM]
def AT2:List (List UInt8)->Nat
 | []=>0
 | a::l=>a.length+AT2 l
def ANC:∀ l:List UInt8,AT2 (spl l)+(spl l).length=l.length+1
 | []=>rfl
 | b::l=>by
  have ih:=ANC l;unfold spl;split
  ·simp[AT2];omega
  ·cases h:spl l with
   | nil=>exact absurd h (A6S l)
   | cons a t=>rw[h] at ih;simp[AT2] at ih ⊢;omega
def oZ:List ByteArray->Nat
 | []=>0
 | a::l=>a.size+oZ l
def ANB:∀ l:List ByteArray,oZ l=AT2 (l.map (·.data.toList))
 | []=>rfl
 | a::l=>by
  simp only[oZ,List.map_cons,AT2,ANB l];have:a.data.toList.length=a.size:=by rw[Array.length_toList];rfl
  omega
def ATN (s:ByteArray):oZ (eZ s)+(eZ s).length=s.size+1:=by
 have h:=ANC s.data.toList;rw[<-FF,<-ANB,List.length_map] at h;have e:s.data.toList.length=s.size:=by rw[Array.length_toList];rfl
 rw[e] at h;exact h
def ATM (s:ByteArray):1<=(eZ s).length:=by
 have h:(eZ s).map (·.data.toList)≠[]:=by rw[FF];exact A6S _
 have:eZ s≠[]:=λe=>h (by rw[e];rfl);exact Nat.pos_of_ne_zero λe=>this (List.length_eq_zero_iff.1 e)
end Go.Pv
