/-
  Copies of slices for closed runs (an empty slice may be nil or not); functions that read, as functions of data.
-/
import Derived.Test.YtepoplfbgaoggaaGreatDoorOneki
import Derived.Test.YtepoplfbgaoggaaGreatDoorOnewu
set_option linter.defProp false
set_option linter.unusedSimpArgs false
set_option linter.unusedVariables false
namespace Go.Pv
open Go Go.RowKit
def LU (z b:Nat):List T->Option (List (List T))
 | [.sl _ []]=>some []
 | args=>nQ z b args
def mW {P:Program} {f:FuncId} {z b:Nat} (hm:P.follows .mixedOrders=true) (hn:cU P=true) (hex:∃ fn c,P.funcs[f]? = some fn/\fn.body=some c) (h:ANL P f z b):gL P f (LU z b):=by
 refine gL.EC (g':=nQ z b) (UC (Hs:=λ_=>bH) (bB.nil _) hm hn (aQ (l:=[]) rfl) 1 hex λargs rows hg _=>?_) λargs rows hg args' hf=>?_
 ·unfold nQ at hg;split at hg
  ·cases hg;rw[h.1]
  ·cases hg;rw[h.2.1];exact ⟨by simp[iD],rfl⟩
  ·rename_i fl a rows';split at hg
   ·rename_i hb;cases hg;rw[h.2.2];exact ⟨hb,rfl⟩
   ·cases hg
  ·cases hg
 ·match args,args',hf with
  | [],[],_=>exact hg
  | [x],[y],hf =>
   obtain ⟨h1,h2,_⟩:=hf;cases h1 with
   | same =>
    unfold LU at hg;split at hg
    ·rename_i f' e;simp only[List.cons.injEq,and_true] at e;exact absurd e (h2 f')
    ·exact hg
   | nil f=>cases hg;rfl
   | ne f=>cases hg;rfl
   | isNe f=>exact hg
  | x::x'::l,y::y'::m,hf =>
   exfalso;unfold LU nQ at hg;simp at hg
end Go.Pv
