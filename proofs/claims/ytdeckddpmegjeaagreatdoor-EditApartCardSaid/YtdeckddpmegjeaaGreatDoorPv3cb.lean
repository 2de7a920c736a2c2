/-
  Copies of slices for closed runs (an empty slice may be nil or not); functions that read, as functions of data.
-/
import Derived.Test.YtdeckddpmegjeaaGreatDoorPv3ki
import Derived.Test.YtdeckddpmegjeaaGreatDoorPv3wu
set_option linter.defProp false
set_option linter.unusedSimpArgs false
set_option linter.unusedVariables false
namespace Go.Pv
open Go Go.RowKit
def qA (z b:Nat):List T→Option (List (List T))
 | [.sl _ []]=>some []
 | args=>l6 z b args
theorem jX {P:Program} {f:FuncId} {z b:Nat} (hm:P.follows .mixedOrders=true) (hn:cG P=true) (hex:∃ fn c,P.funcs[f]? = some fn∧fn.body=some c) (h:ABE P f z b):eR P f (qA z b):=by
 refine eR.zJ (g':=l6 z b) (LI (Hs:=fun _=>aZ) (aT.nil _) hm hn (aN (l:=[]) rfl) 1 hex fun args rows hg _=>?_) fun args rows hg args' hf=>?_
 ·unfold l6 at hg
  split at hg
  ·cases hg;rw[h.1]
  ·cases hg;rw[h.2.1];exact ⟨by simp[eE],rfl⟩
  ·rename_i fl a rows'
   split at hg
   ·rename_i hb
    cases hg;rw[h.2.2];exact ⟨hb,rfl⟩
   ·cases hg
  ·cases hg
 ·match args,args',hf with
  | [],[],_=>exact hg
  | [x],[y],hf =>
   obtain ⟨h1,h2,_⟩:=hf
   cases h1 with
   | same =>
    unfold qA at hg
    split at hg
    ·rename_i f' e
     simp only[List.cons.injEq,and_true] at e
     exact absurd e (h2 f')
    ·exact hg
   | nil f=>cases hg;rfl
   | ne f=>cases hg;rfl
   | isNe f=>exact hg
  | x::x'::l,y::y'::m,hf =>
   exfalso
   unfold qA l6 at hg
   simp at hg
theorem AO1 {P:Program} {N:Nat} {hp:FuncId→Bool} {B:Env} {k:Nat} {f:FuncId} {fn:Func} {c:Code} (hB:B f=none) (hf:P.funcs[f]? = some fn) (hb:fn.body=some c) (hh:hp f=false):∃ g,IC P N hp B (k+1) f=some (.read g):=by
 simp only[IC,hB,hf,hb,hh]
 exact ⟨_,rfl⟩
theorem AFW {P:Program} (hm:P.follows .mixedOrders=true) (hn:cG P=true) (N:Nat) (hp:FuncId→Bool) {B:Env} (hB:aT P B) (k:Nat) {f:FuncId} (h:∃ g,IC P N hp B k f=some (.read g)):aO P f (AYU P N hp B k f):=by
 obtain ⟨g,hg⟩:=h
 have:=rF.pure (AI3 hm hn N hp hB k f _ hg)
 unfold AYU
 rw[hg]
 exact this
end Go.Pv
