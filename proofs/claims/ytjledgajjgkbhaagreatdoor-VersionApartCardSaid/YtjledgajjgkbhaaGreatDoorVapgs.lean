/-
  strings.Split, by the library's contract.
-/
import Derived.Test.YtjledgajjgkbhaaGreatDoorVapwu
import Derived.Test.YtjledgajjgkbhaaGreatDoorVapls
import Derived.Lib.SplitLaws
set_option linter.defProp false
set_option linter.unusedSimpArgs false
set_option linter.unusedVariables false
namespace Go.Pv
open Go Go.RowKit Go.Proofs
def sC:List T→Option T
 | [.v (.string s),.v (.string sep)]=>match decide (s.size<4294967281),decide (1≤sep.size) with
  | true,true=>some (.sl true ((Lib.splitB sep 0 (Lib.countB s sep) s).map fun x=>[.v (.string x)]))
  | _,_=>none
 | _=>none
theorem AJQ {w:World} {own:Nat→Prop} (ho:∀ b,own b→b<w.heap.size) (l:List Value) (ty:TypeId) (hl:l≠[]) (h47:l.length≤2 ^ 47) (hc:∀ v∈l,v.oneCell'=true) :
  cN (w.alloc (.cells l.toArray ty)) own (.sl true (l.map fun v=>[.v v])) (.slice (some ⟨w.heap.size,0,none⟩) l.length l.length):=by
 have:=cN.sl (w:=w.alloc (.cells l.toArray ty)) (own:=own) true (l.map fun v=>[.v v]) 1 w.heap.size 0 l.length (fun i _=>l.getD i undef) (by simp) (by simpa using h47) (by simp) (fun h=>by have:=ho _ h;omega) (by simp) (by simp) (by omega)
  (fun i j hi hj=>?_) (fun i j hi hj=>?_)
 ·simpa using this
 ·have hi':i<l.length:=by simpa using hi
  have hj':j=0:=by omega
  subst hj'
  have e:l.getD i undef=l[i]:=by simp[List.getD_eq_getElem?_getD,hi']
  rw[e]
  refine ⟨?_,hc _ (List.getElem_mem hi')⟩
  have hb:(w.alloc (.cells l.toArray ty)).heap[w.heap.size]? = some (.cells l.toArray ty (0,0)):=by show (w.heap.push _)[w.heap.size]? = _;simp
  simp only[World.cell?]
  rw[hb]
  simp[hi']
 ·have hi':i<l.length:=by simpa using hi
  simp at hj
  subst hj
  have e:l.getD i undef=l[i]:=by simp[List.getD_eq_getElem?_getD,hi']
  rw[e]
  simp
  exact .v _
theorem APA {w:World} (o:Obj):Below w.heap.size w (w.alloc o):=(Below.refl _ _).alloc (Nat.le_refl _) o
theorem xG:aN Tryz.prog 119 sC:=by
 refine ⟨⟨_,Tryz.func119,by kernel_rfl,by kernel_rfl⟩,fun w own args vs r hG hown ha hg=>?_⟩
 unfold sC at hg
 split at hg
 ·rename_i s sep
  split at hg
  ·rename_i h1 h2
   cases hg
   have e0:=ha.2 0 (by simp)
   have e1:=ha.2 1 (by simp)
   have hv:vs = #[.string s,.string sep]:=by
    have hs:vs.size=2:=ha.1
    obtain ⟨l⟩:=vs
    match l,hs with
    | [a,b],_ =>
     simp at e0 e1
     cases e0;cases e1;rfl
   subst hv
   have hc:=Any.strings_Split_shaped Tryz.AZ0 s sep w hG.1 (by simpa using h1) (by simpa using h2)
   refine Calls.mono hc ?_
   rintro e w' ⟨rfl,rfl⟩
   refine ⟨_,rfl,?_,APA _⟩
   have hlen:=Lib.splitB_all sep (by simpa using h2) 0 _ s rfl
   have hle:=Lib.countB_le sep (by simpa using h2) _ s (Nat.le_refl _)
   have hs:s.size<4294967281:=by simpa using h1
   have:=AJQ (w:=w) hown ((Lib.splitB sep 0 (Lib.countB s sep) s).map Value.string) (Tryz.FA.t 9) (by intro e;have:=congrArg List.length e;simp[hlen] at this) (by simp[hlen];omega) (by intro v hv;obtain ⟨x,_,rfl⟩:=List.mem_map.1 hv;rfl)
   simp only[List.length_map,hlen,List.map_map] at this
   exact this
  ·cases hg
 ·cases hg
end Go.Pv
