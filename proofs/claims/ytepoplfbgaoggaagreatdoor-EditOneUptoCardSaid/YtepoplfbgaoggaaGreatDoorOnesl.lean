/-
  What stands between the full stops of a string: plain facts.
-/
import Derived.Lib.SplitLaws
import Derived.Lib.IndexBytes
set_option linter.defProp false
set_option linter.unusedSimpArgs false
set_option linter.unusedVariables false
namespace Go.Pv
open Go Go.Lib
def XK:List UInt8->List (List UInt8)
 | []=>[[]]
 | b::l=>if b=46 then []::XK l else match XK l with
  | h::t=>(b::h)::t
  | []=>[[b]]
def YS (acc l:List UInt8):List (List UInt8):=match XK l with
 | h::t=>(acc++h)::t
 | []=>[acc]
def AGI (l:List UInt8):XK l≠[]:=by
 cases l with
 | nil=>simp[XK]
 | cons b l =>
  unfold XK;split
  ·simp
  ·split<;>simp
def AM2 (l:List UInt8):YS [] l=XK l:=by
 unfold YS;cases h:XK l with
 | nil=>exact absurd h (AGI l)
 | cons a t=>rfl
def BE4 (acc:List UInt8):YS acc []=[acc]:=by simp[YS,XK]
def BE3 (acc l:List UInt8):YS acc (46::l)=acc::XK l:=by simp[YS,XK]
def A3V (acc l:List UInt8) {b:UInt8} (h:b≠46):YS acc (b::l)=YS (acc++[b]) l:=by
 unfold YS;rw[XK,if_neg h];cases hl:XK l with
 | nil=>exact absurd hl (AGI l)
 | cons a t=>simp
variable {l:List UInt8}
def ARO {b:UInt8} (h:b≠46):index (b::l) [46]=if index l [46] == -1 then -1 else index l [46]+1:=by
 simp only[index_one];rw[indexByte];rw[if_neg (by simpa using h)]
def A3W {b:UInt8} (h:b≠46):∀ k,splitK [46] 0 k (b::l)=match splitK [46] 0 k l with
  | h::t=>(b::h)::t
  | []=>[[b]]
 | 0=>rfl
 | k+1=>by
  have hge:=index_ge l [46];rw[splitK,splitK,ARO h];by_cases hm:index l [46] = -1
  ·simp[hm]
  ·have h1:¬ (index l [46] == -1)=true:=by simpa using hm
   have h2:¬ (index l [46]+1 == -1)=true:=by simp;omega
   have e1:(index l [46]+1).toNat=(index l [46]).toNat+1:=by omega
   rw[if_neg h1,if_neg h2,if_neg h1,e1];simp[Nat.add_right_comm]
def F8:∀ l:List UInt8,splitK [46] 0 (l.count 46) l=XK l
 | []=>rfl
 | b::l=>by
  by_cases h:b=46
  ·subst h;have:(46::l:List UInt8).count 46=l.count 46+1:=by simp
   rw[this,splitK];have hi:index (46::l:List UInt8) [46]=0:=by rw[index_one,indexByte];simp
   rw[hi,XK,if_pos rfl,<-F8 l];simp
  ·rw[List.count_cons_of_ne (by simpa using h),A3W h,F8 l,XK,if_neg h]
abbrev dot:ByteArray:=⟨#[46]⟩
def dZ (s:ByteArray):List ByteArray:=splitB dot 0 (countB s dot) s
def yK (s:ByteArray):(dZ s).map (·.data.toList)=XK s.data.toList:=by
 unfold dZ;rw[splitB_data];show splitK [46] 0 (count s.data.toList [46]) s.data.toList=_;rw[count_one,F8]
def BMI {a b:ByteArray} (h:a.data.toList=b.data.toList):a=b:=by
 apply ByteArray.ext;exact Array.toList_inj.1 h
def parts_eq {out:List ByteArray} {s:ByteArray} (h:out.map (·.data.toList)=XK s.data.toList):out=dZ s:=by
 rw[<-yK] at h;exact List.map_inj_right (λ_ _ e=>BMI e) |>.1 h
def o1:List (List UInt8)->Nat
 | []=>0
 | a::l=>a.length+o1 l
def AWM:∀ l:List UInt8,o1 (XK l)+(XK l).length=l.length+1
 | []=>rfl
 | b::l=>by
  have ih:=AWM l;unfold XK;split
  ·simp[o1];omega
  ·cases h:XK l with
   | nil=>exact absurd h (AGI l)
   | cons a t=>rw[h] at ih;simp[o1] at ih ⊢;omega
def qG:List ByteArray->Nat
 | []=>0
 | a::l=>a.size+qG l
def AWK:∀ l:List ByteArray,qG l=o1 (l.map (·.data.toList))
 | []=>rfl
 | a::l=>by
  simp only[qG,List.map_cons,o1,AWK l];have:a.data.toList.length=a.size:=by rw[Array.length_toList];rfl
  omega
def AAL (s:ByteArray):qG (dZ s)+(dZ s).length=s.size+1:=by
 have h:=AWM s.data.toList;rw[<-yK,<-AWK,List.length_map] at h;have e:s.data.toList.length=s.size:=by rw[Array.length_toList];rfl
 rw[e] at h;exact h
def A3J (s:ByteArray):1<=(dZ s).length:=by
 have h:(dZ s).map (·.data.toList)≠[]:=by rw[yK];exact AGI _
 have:dZ s≠[]:=λe=>h (by rw[e];rfl);exact Nat.pos_of_ne_zero λe=>this (List.length_eq_zero_iff.1 e)
end Go.Pv
