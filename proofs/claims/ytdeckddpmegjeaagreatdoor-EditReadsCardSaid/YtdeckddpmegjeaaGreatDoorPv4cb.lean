/-
  Copies of slices for closed runs (an empty slice may be nil or not); functions that read, as functions of data.
-/
import Derived.Test.YtdeckddpmegjeaaGreatDoorPv4ki
import Derived.Test.YtdeckddpmegjeaaGreatDoorPv4wu
set_option linter.defProp false
set_option linter.unusedSimpArgs false
set_option linter.unusedVariables false
namespace Go.Pv
open Go Go.RowKit
def iL (z b:Nat):List T→Option (List (List T))
 | [.sl _ []]=>some []
 | args=>rU z b args
theorem eK {P:Program} {f:FuncId} {z b:Nat} (hm:P.follows .mixedOrders=true) (hn:cA P=true) (hex:∃ fn c,P.funcs[f]? = some fn∧fn.body=some c) (h:RL P f z b):dB P f (iL z b):=by
 refine dB.qC (g':=rU z b) (E5 (Hs:=fun _=>bT) (aM.nil _) hm hn (aX (l:=[]) rfl) 1 hex fun args rows hg _=>?_) fun args rows hg args' hf=>?_
 ·unfold rU at hg
  split at hg
  ·cases hg;rw[h.1]
  ·cases hg;rw[h.2.1];exact ⟨by simp[fV],rfl⟩
  ·rename_i fl a rows'
   split at hg
   ·rename_i hb
    cases hg;rw[h.2.2];exact ⟨hb,rfl⟩
   ·cases hg
  ·cases hg
 ·match args,args',hf with
  | [],[],_=>exact hg
  | [x],[y],hf =>
   obtain ⟨h1,h2,_⟩:=hf
   cases h1 with
   | same =>
    unfold iL at hg
    split at hg
    ·rename_i f' e
     simp only[List.cons.injEq,and_true] at e
     exact absurd e (h2 f')
    ·exact hg
   | nil f=>cases hg;rfl
   | ne f=>cases hg;rfl
   | isNe f=>exact hg
  | x::x'::l,y::y'::m,hf =>
   exfalso
   unfold iL rU at hg
   simp at hg
theorem KW {P:Program} {N:Nat} {hp:FuncId→Bool} {B:Env} {k:Nat} {f:FuncId} {fn:Func} {c:Code} (hB:B f=none) (hf:P.funcs[f]? = some fn) (hb:fn.body=some c) (hh:hp f=false):∃ g,rM P N hp B (k+1) f=some (.read g):=by
 simp only[rM,hB,hf,hb,hh]
 exact ⟨_,rfl⟩
theorem F1 {P:Program} (hm:P.follows .mixedOrders=true) (hn:cA P=true) (N:Nat) (hp:FuncId→Bool) {B:Env} (hB:aM P B) (k:Nat) {f:FuncId} (h:∃ g,rM P N hp B k f=some (.read g)):bE P f (OI P N hp B k f):=by
 obtain ⟨g,hg⟩:=h
 have:=jJ.pure (H8 hm hn N hp hB k f _ hg)
 unfold OI
 rw[hg]
 exact this
end Go.Pv
