/-
  Copies of slices for closed runs (an empty slice may be nil or not); functions that read, as functions of data.
-/
import Derived.Test.YtipdohmdckdoeaaGreatDoorVfki
import Derived.Test.YtipdohmdckdoeaaGreatDoorVfwu
set_option linter.defProp false
set_option linter.unusedSimpArgs false
set_option linter.unusedVariables false
namespace Go.Pv
open Go Go.RowKit
def qB (z b:Nat):List T->Option (List (List T))
 | [.sl _ []]=>some []
 | args=>mU z b args
variable {P:Program}
def kP {f:FuncId} {z b:Nat} (hm:P.follows .mixedOrders=true) (hn:cR P=true) (hex:∃ fn c,P.funcs[f]? = some fn/\fn.body=some c) (h:AEO P f z b):fP P f (qB z b):=by
 refine fP.BB (g':=mU z b) (N5 (Hs:=λ_=>a6) (aR.nil _) hm hn (aN (l:=[]) rfl) 1 hex λargs rows hg _=>?_) λargs rows hg args' hf=>?_
 ·unfold mU at hg;split at hg
  ·cases hg;rw[h.1]
  ·cases hg;rw[h.2.1];exact ⟨by simp[iB],rfl⟩
  ·rename_i fl a rows';split at hg
   ·rename_i hb;cases hg;rw[h.2.2];exact ⟨hb,rfl⟩
   ·cases hg
  ·cases hg
 ·match args,args',hf with
  | [],[],_=>exact hg
  | [x],[y],hf =>
   obtain ⟨h1,h2,_⟩:=hf;cases h1 with
   | same =>
    unfold qB at hg;split at hg
    ·rename_i f' e;simp only[List.cons.injEq,and_true] at e;exact absurd e (h2 f')
    ·exact hg
   | nil f=>cases hg;rfl
   | ne f=>cases hg;rfl
   | isNe f=>exact hg
  | x::x'::l,y::y'::m,hf =>
   exfalso;unfold qB mU at hg;simp at hg
variable {B:Env}
def oA {N:Nat} {hp:FuncId->Bool} {k:Nat} {f:FuncId} {fn:Func} {c:Code} (hB:B f=none) (hf:P.funcs[f]? = some fn) (hb:fn.body=some c) (hh:hp f=false):∃ g,H0 P N hp B (k+1) f=some (.read g):=by
 simp only[H0,hB,hf,hb,hh];exact ⟨_,rfl⟩
def mA (hm:P.follows .mixedOrders=true) (hn:cR P=true) (N:Nat) (hp:FuncId->Bool) (hB:aR P B) (k:Nat) {f:FuncId} (h:∃ g,H0 P N hp B k f=some (.read g)):aO P f (PE P N hp B k f):=by
 obtain ⟨g,hg⟩:=h;have:=sP.pure (WT hm hn N hp hB k f _ hg);unfold PE;rw[hg];exact this
end Go.Pv
