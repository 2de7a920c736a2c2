/-
  Copies of slices for closed runs (an empty slice may be nil or not); functions that read, as functions of data.
-/
import Derived.Test.YtokajdeigdelgaaGreatDoorPv6ki
import Derived.Test.YtokajdeigdelgaaGreatDoorPv6wu
set_option linter.defProp false
set_option linter.unusedSimpArgs false
set_option linter.unusedVariables false
namespace Go.Pv
open Go Go.RowKit
def fU (z b:Nat):List T→Option (List (List T))
 | [.sl _ []]=>some []
 | args=>sH z b args
theorem dF {P:Program} {f:FuncId} {z b:Nat} (hm:P.follows .mixedOrders=true) (hn:bS P=true) (hex:∃ fn c,P.funcs[f]? = some fn∧fn.body=some c) (h:PW P f z b):b6 P f (fU z b):=by
 refine b6.rL (g':=sH z b) (uH (Hs:=fun _=>bL) (aG.nil _) hm hn (aV (l:=[]) rfl) 1 hex fun args rows hg _=>?_) fun args rows hg args' hf=>?_
 ·unfold sH at hg
  split at hg
  ·cases hg;rw[h.1]
  ·cases hg;rw[h.2.1];exact ⟨by simp[dL],rfl⟩
  ·rename_i fl a rows'
   split at hg
   ·rename_i hb
    cases hg;rw[h.2.2];exact ⟨hb,rfl⟩
   ·cases hg
  ·cases hg
 ·match args,args',hf with
  | [],[],_=>exact hg
  | [x],[y],hf =>
   obtain ⟨h1,h2,_⟩:=hf
   cases h1 with
   | same =>
    unfold fU at hg
    split at hg
    ·rename_i f' e
     simp only[List.cons.injEq,and_true] at e
     exact absurd e (h2 f')
    ·exact hg
   | nil f=>cases hg;rfl
   | ne f=>cases hg;rfl
   | isNe f=>exact hg
  | x::x'::l,y::y'::m,hf =>
   exfalso
   unfold fU sH at hg
   simp at hg
theorem xT {P:Program} {N:Nat} {hp:FuncId→Bool} {B:Env} {k:Nat} {f:FuncId} {fn:Func} {c:Code} (hB:B f=none) (hf:P.funcs[f]? = some fn) (hb:fn.body=some c) (hh:hp f=false):∃ g,sC P N hp B (k+1) f=some (.read g):=by
 simp only[sC,hB,hf,hb,hh]
 exact ⟨_,rfl⟩
theorem u5 {P:Program} (hm:P.follows .mixedOrders=true) (hn:bS P=true) (N:Nat) (hp:FuncId→Bool) {B:Env} (hB:aG P B) (k:Nat) {f:FuncId} (h:∃ g,sC P N hp B k f=some (.read g)):aW P f (I6 P N hp B k f):=by
 obtain ⟨g,hg⟩:=h
 have:=iM.pure (GP hm hn N hp hB k f _ hg)
 unfold I6
 rw[hg]
 exact this
end Go.Pv
