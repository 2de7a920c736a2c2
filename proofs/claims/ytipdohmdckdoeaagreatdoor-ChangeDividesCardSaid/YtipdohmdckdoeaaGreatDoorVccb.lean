/-
  Copies of slices for closed runs (an empty slice may be nil or not); functions that read, as functions of data.
-/
import Derived.Test.YtipdohmdckdoeaaGreatDoorVcki
import Derived.Test.YtipdohmdckdoeaaGreatDoorVcwu
set_option linter.defProp false
set_option linter.unusedSimpArgs false
set_option linter.unusedVariables false
namespace Go.Pv
open Go Go.RowKit
def qY (z b:Nat):List T->Option (List (List T))
 | [.sl _ []]=>some []
 | args=>nN z b args
variable {P:Program}
def kZ {f:FuncId} {z b:Nat} (hm:P.follows .mixedOrders=true) (hn:cM P=true) (hex:∃ fn c,P.funcs[f]? = some fn/\fn.body=some c) (h:AID P f z b):fT P f (qY z b):=by
 refine fT.D0 (g':=nN z b) (RV (Hs:=λ_=>bA) (aU.nil _) hm hn (aO (l:=[]) rfl) 1 hex λargs rows hg _=>?_) λargs rows hg args' hf=>?_
 ·unfold nN at hg;split at hg
  ·cases hg;rw[h.1]
  ·cases hg;rw[h.2.1];exact ⟨by simp[eE],rfl⟩
  ·rename_i fl a rows';split at hg
   ·rename_i hb;cases hg;rw[h.2.2];exact ⟨hb,rfl⟩
   ·cases hg
  ·cases hg
 ·match args,args',hf with
  | [],[],_=>exact hg
  | [x],[y],hf =>
   obtain ⟨h1,h2,_⟩:=hf;cases h1 with
   | same =>
    unfold qY at hg;split at hg
    ·rename_i f' e;simp only[List.cons.injEq,and_true] at e;exact absurd e (h2 f')
    ·exact hg
   | nil f=>cases hg;rfl
   | ne f=>cases hg;rfl
   | isNe f=>exact hg
  | x::x'::l,y::y'::m,hf =>
   exfalso;unfold qY nN at hg;simp at hg
variable {B:Env}
def oS {N:Nat} {hp:FuncId->Bool} {k:Nat} {f:FuncId} {fn:Func} {c:Code} (hB:B f=none) (hf:P.funcs[f]? = some fn) (hb:fn.body=some c) (hh:hp f=false):∃ g,LR P N hp B (k+1) f=some (.read g):=by
 simp only[LR,hB,hf,hb,hh];exact ⟨_,rfl⟩
def mS (hm:P.follows .mixedOrders=true) (hn:cM P=true) (N:Nat) (hp:FuncId->Bool) (hB:aU P B) (k:Nat) {f:FuncId} (h:∃ g,LR P N hp B k f=some (.read g)):aP P f (TB P N hp B k f):=by
 obtain ⟨g,hg⟩:=h;have:=tT.pure (ABL hm hn N hp hB k f _ hg);unfold TB;rw[hg];exact this
end Go.Pv
