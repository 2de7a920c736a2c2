/-
  Copies of slices for closed runs (an empty slice may be nil or not); functions that read, as functions of data.
-/
import Derived.Test.YtcnfagefgkblkaaGreatDoorVrki
import Derived.Test.YtcnfagefgkblkaaGreatDoorVrwu
set_option linter.defProp false
set_option linter.unusedSimpArgs false
set_option linter.unusedVariables false
namespace Go.Pv
open Go Go.RowKit
def oL (z b:Nat):List T->Option (List (List T))
 | [.sl _ []]=>some []
 | args=>mS z b args
variable {P:Program}
def jN {f:FuncId} {z b:Nat} (hm:P.follows .mixedOrders=true) (hn:cI P=true) (hex:∃ fn c,P.funcs[f]? = some fn/\fn.body=some c) (h:AG1 P f z b):fE P f (oL z b):=by
 refine fE.CM (g':=mS z b) (PM (Hs:=λ_=>aX) (aQ.nil _) hm hn (aL (l:=[]) rfl) 1 hex λargs rows hg _=>?_) λargs rows hg args' hf=>?_
 ·unfold mS at hg;split at hg
  ·cases hg;rw[h.1]
  ·cases hg;rw[h.2.1];exact ⟨by simp[eP],rfl⟩
  ·rename_i fl a rows';split at hg
   ·rename_i hb;cases hg;rw[h.2.2];exact ⟨hb,rfl⟩
   ·cases hg
  ·cases hg
 ·match args,args',hf with
  | [],[],_=>exact hg
  | [x],[y],hf =>
   obtain ⟨h1,h2,_⟩:=hf;cases h1 with
   | same =>
    unfold oL at hg;split at hg
    ·rename_i f' e;simp only[List.cons.injEq,and_true] at e;exact absurd e (h2 f')
    ·exact hg
   | nil f=>cases hg;rfl
   | ne f=>cases hg;rfl
   | isNe f=>exact hg
  | x::x'::l,y::y'::m,hf =>
   exfalso;unfold oL mS at hg;simp at hg
variable {B:Env}
def VI {N:Nat} {hp:FuncId->Bool} {k:Nat} {f:FuncId} {fn:Func} {c:Code} (hB:B f=none) (hf:P.funcs[f]? = some fn) (hb:fn.body=some c) (hh:hp f=false):∃ g,LM P N hp B (k+1) f=some (.read g):=by
 simp only[LM,hB,hf,hb,hh];exact ⟨_,rfl⟩
def QW (hm:P.follows .mixedOrders=true) (hn:cI P=true) (N:Nat) (hp:FuncId->Bool) (hB:aQ P B) (k:Nat) {f:FuncId} (h:∃ g,LM P N hp B k f=some (.read g)):aM P f (AXC P N hp B k f):=by
 obtain ⟨g,hg⟩:=h;have:=o0.pure (AQC hm hn N hp hB k f _ hg);unfold AXC;rw[hg];exact this
end Go.Pv
