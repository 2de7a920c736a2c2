/-
  Copies of slices for closed runs (an empty slice may be nil or not); functions that read, as functions of data.
-/
import Derived.Test.YtokajdeigdelgaaGreatDoorPv5ki
import Derived.Test.YtokajdeigdelgaaGreatDoorPv5wu
set_option linter.defProp false
set_option linter.unusedSimpArgs false
set_option linter.unusedVariables false
namespace Go.Pv
open Go Go.RowKit
def jA (z b:Nat):List T→Option (List (List T))
 | [.sl _ []]=>some []
 | args=>sR z b args
theorem eP {P:Program} {f:FuncId} {z b:Nat} (hm:P.follows .mixedOrders=true) (hn:bV P=true) (hex:∃ fn c,P.funcs[f]? = some fn∧fn.body=some c) (h:UN P f z b):dD P f (jA z b):=by
 refine dD.rW (g':=sR z b) (G1 (Hs:=fun _=>bU) (aK.nil _) hm hn (aU (l:=[]) rfl) 1 hex fun args rows hg _=>?_) fun args rows hg args' hf=>?_
 ·unfold sR at hg
  split at hg
  ·cases hg;rw[h.1]
  ·cases hg;rw[h.2.1];exact ⟨by simp[eG],rfl⟩
  ·rename_i fl a rows'
   split at hg
   ·rename_i hb
    cases hg;rw[h.2.2];exact ⟨hb,rfl⟩
   ·cases hg
  ·cases hg
 ·match args,args',hf with
  | [],[],_=>exact hg
  | [x],[y],hf =>
   obtain ⟨h1,h2,_⟩:=hf
   cases h1 with
   | same =>
    unfold jA at hg
    split at hg
    ·rename_i f' e
     simp only[List.cons.injEq,and_true] at e
     exact absurd e (h2 f')
    ·exact hg
   | nil f=>cases hg;rfl
   | ne f=>cases hg;rfl
   | isNe f=>exact hg
  | x::x'::l,y::y'::m,hf =>
   exfalso
   unfold jA sR at hg
   simp at hg
theorem M1 {P:Program} {N:Nat} {hp:FuncId→Bool} {B:Env} {k:Nat} {f:FuncId} {fn:Func} {c:Code} (hB:B f=none) (hf:P.funcs[f]? = some fn) (hb:fn.body=some c) (hh:hp f=false):∃ g,sL P N hp B (k+1) f=some (.read g):=by
 simp only[sL,hB,hf,hb,hh]
 exact ⟨_,rfl⟩
theorem H0 {P:Program} (hm:P.follows .mixedOrders=true) (hn:bV P=true) (N:Nat) (hp:FuncId→Bool) {B:Env} (hB:aK P B) (k:Nat) {f:FuncId} (h:∃ g,sL P N hp B k f=some (.read g)):aW P f (Q3 P N hp B k f):=by
 obtain ⟨g,hg⟩:=h
 have:=jW.pure (J9 hm hn N hp hB k f _ hg)
 unfold Q3
 rw[hg]
 exact this
end Go.Pv
