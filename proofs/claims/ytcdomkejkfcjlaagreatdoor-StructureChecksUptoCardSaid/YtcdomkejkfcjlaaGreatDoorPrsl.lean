/-
  What stands between the full stops of a string: plain facts.
-/
import Derived.Lib.SplitLaws
import Derived.Lib.IndexBytes
set_option linter.unusedSimpArgs false
set_option linter.unusedVariables false
namespace Go.Pv
open Go Go.Lib
def SI:List UInt8→List (List UInt8)
 | []=>[[]]
 | b::l=>if b=46 then []::SI l else match SI l with
  | h::t=>(b::h)::t
  | []=>[[b]]
def TO (acc l:List UInt8):List (List UInt8):=match SI l with
 | h::t=>(acc++h)::t
 | []=>[acc]
theorem ABA (l:List UInt8):SI l≠[]:=by
 cases l with
 | nil=>simp[SI]
 | cons b l =>
  unfold SI
  split
  ·simp
  ·split<;>simp
theorem AIQ (l:List UInt8):TO [] l=SI l:=by
 unfold TO
 cases h:SI l with
 | nil=>exact absurd h (ABA l)
 | cons a t=>rfl
theorem A0M (acc:List UInt8):TO acc []=[acc]:=by simp[TO,SI]
theorem A0L (acc l:List UInt8):TO acc (46::l)=acc::SI l:=by simp[TO,SI]
theorem AU7 (acc l:List UInt8) {b:UInt8} (h:b≠46):TO acc (b::l)=TO (acc++[b]) l:=by
 unfold TO
 rw[SI,if_neg h]
 cases hl:SI l with
 | nil=>exact absurd hl (ABA l)
 | cons a t=>simp
theorem AMV {b:UInt8} {l:List UInt8} (h:b≠46):index (b::l) [46]=if index l [46] == -1 then -1 else index l [46]+1:=by
 simp only[index_one]
 rw[indexByte]
 rw[if_neg (by simpa using h)]
theorem AU9 {b:UInt8} {l:List UInt8} (h:b≠46):∀ k,splitK [46] 0 k (b::l)=match splitK [46] 0 k l with
  | h::t=>(b::h)::t
  | []=>[[b]]
 | 0=>rfl
 | k+1=>by
  have hge:=index_ge l [46]
  rw[splitK,splitK,AMV h]
  by_cases hm:index l [46] = -1
  ·simp[hm]
  ·have h1:¬ (index l [46] == -1)=true:=by simpa using hm
   have h2:¬ (index l [46]+1 == -1)=true:=by simp;omega
   have e1:(index l [46]+1).toNat=(index l [46]).toNat+1:=by omega
   rw[if_neg h1,if_neg h2,if_neg h1,e1]
   simp[Nat.add_right_comm]
theorem DA:∀ l:List UInt8,splitK [46] 0 (l.count 46) l=SI l
 | []=>rfl
 | b::l=>by
  by_cases h:b=46
  ·subst h
   have:(46::l:List UInt8).count 46=l.count 46+1:=by simp
   rw[this,splitK]
   have hi:index (46::l:List UInt8) [46]=0:=by rw[index_one,indexByte];simp
   rw[hi,SI,if_pos rfl,←DA l]
   simp
  ·rw[List.count_cons_of_ne (by simpa using h),AU9 h,DA l,SI,if_neg h]
abbrev dot:ByteArray:=⟨#[46]⟩
def cZ (s:ByteArray):List ByteArray:=splitB dot 0 (countB s dot) s
theorem vM (s:ByteArray):(cZ s).map (·.data.toList)=SI s.data.toList:=by
 unfold cZ
 rw[splitB_data]
 show splitK [46] 0 (count s.data.toList [46]) s.data.toList=_
 rw[count_one,DA]
theorem A4Z {a b:ByteArray} (h:a.data.toList=b.data.toList):a=b:=by
 apply ByteArray.ext
 exact Array.toList_inj.1 h
theorem parts_eq {out:List ByteArray} {s:ByteArray} (h:out.map (·.data.toList)=SI s.data.toList):out=cZ s:=by
 rw[←vM] at h
 exact List.map_inj_right (fun _ _ e=>A4Z e) |>.1 h
def mN:List (List UInt8)→Nat
 | []=>0
 | a::l=>a.length+mN l
theorem AQJ:∀ l:List UInt8,mN (SI l)+(SI l).length=l.length+1
 | []=>rfl
 | b::l=>by
  have ih:=AQJ l
  unfold SI
  split
  ·simp[mN];omega
  ·cases h:SI l with
   | nil=>exact absurd h (ABA l)
   | cons a t=>rw[h] at ih;simp[mN] at ih ⊢;omega
def nQ:List ByteArray→Nat
 | []=>0
 | a::l=>a.size+nQ l
theorem AQI:∀ l:List ByteArray,nQ l=mN (l.map (·.data.toList))
 | []=>rfl
 | a::l=>by
  simp only[nQ,List.map_cons,mN,AQI l]
  have:a.data.toList.length=a.size:=by rw[Array.length_toList];rfl
  omega
theorem VT (s:ByteArray):nQ (cZ s)+(cZ s).length=s.size+1:=by
 have h:=AQJ s.data.toList
 rw[←vM,←AQI,List.length_map] at h
 have e:s.data.toList.length=s.size:=by rw[Array.length_toList];rfl
 rw[e] at h;exact h
theorem AUV (s:ByteArray):1≤(cZ s).length:=by
 have h:(cZ s).map (·.data.toList)≠[]:=by rw[vM];exact ABA _
 have:cZ s≠[]:=fun e=>h (by rw[e];rfl)
 exact Nat.pos_of_ne_zero fun e=>this (List.length_eq_zero_iff.1 e)
end Go.Pv
