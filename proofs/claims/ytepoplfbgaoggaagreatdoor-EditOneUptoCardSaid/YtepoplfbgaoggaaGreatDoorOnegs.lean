/-
  strings.Split, by the library's contract.
-/
import Derived.Test.YtepoplfbgaoggaaGreatDoorOnewu
import Derived.Test.YtepoplfbgaoggaaGreatDoorOnels
import Derived.Lib.SplitLaws
set_option linter.defProp false
set_option linter.unusedSimpArgs false
set_option linter.unusedVariables false
namespace Go.Pv
open Go Go.RowKit Go.Proofs
def LV:List T->Option T
 | [.v (.string s),.v (.string sep)]=>match decide (s.size<4294967281),decide (1<=sep.size) with
  | true,true=>some (.sl true ((Lib.splitB sep 0 (Lib.countB s sep) s).map λx=>[.v (.string x)]))
  | _,_=>none
 | _=>none
def AS0 {w:World} {own:Nat->Prop} (ho:∀ b,own b->b<w.heap.size) (l:List Value) (ty:TypeId) (hl:l≠[]) (h47:l.length<=2 ^ 47) (hc:∀ v∈l,v.oneCell'=true) :
  cS (w.alloc (.cells l.toArray ty)) own (.sl true (l.map λv=>[.v v])) (.slice (some ⟨w.heap.size,0,none⟩) l.length l.length):=by
 have:=cS.sl (w:=w.alloc (.cells l.toArray ty)) (own:=own) true (l.map λv=>[.v v]) 1 w.heap.size 0 l.length (λi _=>l.getD i undef) (by simp) (by simpa using h47) (by simp) (λh=>by have:=ho _ h;omega) (by simp) (by simp) (by omega)
  (λi j hi hj=>?_) (λi j hi hj=>?_)
 ·simpa using this
 ·have hi':i<l.length:=by simpa using hi
  have hj':j=0:=by omega
  subst hj';have e:l.getD i undef=l[i]:=by simp[List.getD_eq_getElem?_getD,hi']
  rw[e];refine ⟨?_,hc _ (ak hi')⟩;have hb:(w.alloc (.cells l.toArray ty)).heap[w.heap.size]? = some (.cells l.toArray ty (0,0)):=by show (w.heap.push _)[w.heap.size]? = _;simp
  simp only[World.cell?];rw[hb];simp[hi']
 ·have hi':i<l.length:=by simpa using hi
  simp at hj;subst hj;have e:l.getD i undef=l[i]:=by simp[List.getD_eq_getElem?_getD,hi']
  rw[e];simp;exact .v _
def AZD {w:World} (o:Obj):Below w.heap.size w (w.alloc o):=(Below.refl _ _).alloc (al _) o
def T8:aT Tryz.prog 257 LV:=by
 refine ⟨⟨_,Tryz.func257,by kernel_rfl,by kernel_rfl⟩,λw own args vs r hG hown ha hg=>?_⟩;unfold LV at hg;split at hg
 ·rename_i s sep;split at hg
  ·rename_i h1 h2;cases hg;have e0:=ha.2 0 (by simp);have e1:=ha.2 1 (by simp);have hv:vs = #[.string s,.string sep]:=by
    have hs:vs.size=2:=ha.1;obtain ⟨l⟩:=vs
    match l,hs with
    | [a,b],_ =>
     simp at e0 e1;cases e0;cases e1;rfl
   subst hv;have hc:=Any.strings_Split_shaped Tryz.BBN s sep w hG.1 (by simpa using h1) (by simpa using h2);refine Calls.mono hc ?_;rintro e w' ⟨rfl,rfl⟩;refine ⟨_,rfl,?_,AZD _⟩;have hlen:=Lib.splitB_all sep (by simpa using h2) 0 _ s rfl;have hle:=Lib.countB_le sep (by simpa using h2) _ s (al _);have hs:s.size<4294967281:=by simpa using h1
   have:=AS0 (w:=w) hown ((Lib.splitB sep 0 (Lib.countB s sep) s).map Value.string) (Tryz.I4.t 9) (by intro e;have:=congrArg List.length e;simp[hlen] at this) (by simp[hlen];omega) (by intro v hv;obtain ⟨x,_,rfl⟩:=List.mem_map.1 hv;rfl);simp only[ae,hlen,List.map_map] at this;exact this
  ·cases hg
 ·cases hg
end Go.Pv
