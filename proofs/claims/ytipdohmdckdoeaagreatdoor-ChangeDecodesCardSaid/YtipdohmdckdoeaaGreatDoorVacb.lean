/-
  Copies of slices for closed runs (an empty slice may be nil or not); functions that read, as functions of data.
-/
import Derived.Test.YtipdohmdckdoeaaGreatDoorVaki
import Derived.Test.YtipdohmdckdoeaaGreatDoorVawu
set_option linter.defProp false
set_option linter.unusedSimpArgs false
set_option linter.unusedVariables false
namespace Go.Pv
open Go Go.RowKit
def jY (z b:Nat):List T→Option (List (List T))
 | [.sl _ []]=>some []
 | args=>zJ z b args
theorem fR {P:Program} {f:FuncId} {z b:Nat} (hm:P.follows .mixedOrders=true) (hn:cH P=true) (hex:∃ fn c,P.funcs[f]? = some fn∧fn.body=some c) (h:ADI P f z b):dZ P f (jY z b):=by
 refine dZ.yA (g':=zJ z b) (M9 (Hs:=fun _=>bW) (aH.nil _) hm hn (aX (l:=[]) rfl) 1 hex fun args rows hg _=>?_) fun args rows hg args' hf=>?_
 ·unfold zJ at hg
  split at hg
  ·cases hg;rw[h.1]
  ·cases hg;rw[h.2.1];exact ⟨by simp[dG],rfl⟩
  ·rename_i fl a rows'
   split at hg
   ·rename_i hb
    cases hg;rw[h.2.2];exact ⟨hb,rfl⟩
   ·cases hg
  ·cases hg
 ·match args,args',hf with
  | [],[],_=>exact hg
  | [x],[y],hf =>
   obtain ⟨h1,h2,_⟩:=hf
   cases h1 with
   | same =>
    unfold jY at hg
    split at hg
    ·rename_i f' e
     simp only[List.cons.injEq,and_true] at e
     exact absurd e (h2 f')
    ·exact hg
   | nil f=>cases hg;rfl
   | ne f=>cases hg;rfl
   | isNe f=>exact hg
  | x::x'::l,y::y'::m,hf =>
   exfalso
   unfold jY zJ at hg
   simp at hg
theorem FD {P:Program} {N:Nat} {hp:FuncId→Bool} {B:Env} {k:Nat} {f:FuncId} {fn:Func} {c:Code} (hB:B f=none) (hf:P.funcs[f]? = some fn) (hb:fn.body=some c) (hh:hp f=false):∃ g,zB P N hp B (k+1) f=some (.read g):=by
 simp only[zB,hB,hf,hb,hh]
 exact ⟨_,rfl⟩
theorem CR {P:Program} (hm:P.follows .mixedOrders=true) (hn:cH P=true) (N:Nat) (hp:FuncId→Bool) {B:Env} (hB:aH P B) (k:Nat) {f:FuncId} (h:∃ g,zB P N hp B k f=some (.read g)):aZ P f (T6 P N hp B k f):=by
 obtain ⟨g,hg⟩:=h
 have:=lL.pure (QX hm hn N hp hB k f _ hg)
 unfold T6
 rw[hg]
 exact this
end Go.Pv
