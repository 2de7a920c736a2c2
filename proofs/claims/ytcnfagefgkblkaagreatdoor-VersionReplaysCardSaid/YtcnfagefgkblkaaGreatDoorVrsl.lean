/-
  What stands between the full stops of a string: plain facts.
-/
import Derived.Lib.SplitLaws
import Derived.Lib.IndexBytes
set_option linter.defProp false
set_option linter.unusedSimpArgs false
set_option linter.unusedVariables false
namespace Go.Pv
open Go Go.Lib
def spl:List UInt8->List (List UInt8)
 | []=>[[]]
 | b::l=>if b=46 then []::spl l else match spl l with
  | h::t=>(b::h)::t
  | []=>[[b]]
def A9Z (l:List UInt8):spl l≠[]:=by
 cases l with
 | nil=>simp[spl]
 | cons b l =>
  unfold spl;split
  ·simp
  ·split<;>simp
def ALK {b:UInt8} {l:List UInt8} (h:b≠46):index (b::l) [46]=if index l [46] == -1 then -1 else index l [46]+1:=by
 simp only[index_one];rw[indexByte];rw[if_neg (by simpa using h)]
def AXI {b:UInt8} {l:List UInt8} (h:b≠46):∀ k,splitK [46] 0 k (b::l)=match splitK [46] 0 k l with
  | h::t=>(b::h)::t
  | []=>[[b]]
 | 0=>rfl
 | k+1=>by
  have hge:=index_ge l [46];rw[splitK,splitK,ALK h];by_cases hm:index l [46] = -1
  ·simp[hm]
  ·have h1:¬ (index l [46] == -1)=true:=by simpa using hm
   have h2:¬ (index l [46]+1 == -1)=true:=by simp;omega
   have e1:(index l [46]+1).toNat=(index l [46]).toNat+1:=by omega
   rw[if_neg h1,if_neg h2,if_neg h1,e1];simp[Nat.add_right_comm]
def EG:∀ l:List UInt8,splitK [46] 0 (l.count 46) l=spl l
 | []=>rfl
 | b::l=>by
  by_cases h:b=46
  ·subst h;have:(46::l:List UInt8).count 46=l.count 46+1:=by simp
   rw[this,splitK];have hi:index (46::l:List UInt8) [46]=0:=by rw[index_one,indexByte];simp
   rw[hi,spl,if_pos rfl,<-EG l];simp
  ·rw[List.count_cons_of_ne (by simpa using h),AXI h,EG l,spl,if_neg h]
abbrev dot:ByteArray:=⟨#[46]⟩
def eM (s:ByteArray):List ByteArray:=splitB dot 0 (countB s dot) s
def GI (s:ByteArray):(eM s).map (·.data.toList)=spl s.data.toList:=by
 unfold eM;rw[splitB_data];show splitK [46] 0 (count s.data.toList [46]) s.data.toList=_;rw[count_one,EG]
def AXL:List (List UInt8)->Nat
 | []=>0
 | a::l=>a.length+AXL l
def AQO:∀ l:List UInt8,AXL (spl l)+(spl l).length=l.length+1
 | []=>rfl
 | b::l=>by
  have ih:=AQO l;unfold spl;split
  ·simp[AXL];omega
  ·cases h:spl l with
   | nil=>exact absurd h (A9Z l)
   | cons a t=>rw[h] at ih;simp[AXL] at ih ⊢;omega
def oW:List ByteArray->Nat
 | []=>0
 | a::l=>a.size+oW l
def AQN:∀ l:List ByteArray,oW l=AXL (l.map (·.data.toList))
 | []=>rfl
 | a::l=>by
  simp only[oW,List.map_cons,AXL,AQN l];have:a.data.toList.length=a.size:=by rw[Array.length_toList];rfl
  omega
def AW5 (s:ByteArray):oW (eM s)+(eM s).length=s.size+1:=by
 have h:=AQO s.data.toList;rw[<-GI,<-AQN,List.length_map] at h;have e:s.data.toList.length=s.size:=by rw[Array.length_toList];rfl
 rw[e] at h;exact h
def AW4 (s:ByteArray):1<=(eM s).length:=by
 have h:(eM s).map (·.data.toList)≠[]:=by rw[GI];exact A9Z _
 have:eM s≠[]:=λe=>h (by rw[e];rfl);exact Nat.pos_of_ne_zero λe=>this (List.length_eq_zero_iff.1 e)
end Go.Pv
