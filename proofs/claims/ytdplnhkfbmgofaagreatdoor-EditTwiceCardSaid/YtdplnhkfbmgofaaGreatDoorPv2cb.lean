/-
  Copies of slices for closed runs (an empty slice may be nil or not); functions that read, as functions of data.
-/
import Derived.Test.YtdplnhkfbmgofaaGreatDoorPv2ki
import Derived.Test.YtdplnhkfbmgofaaGreatDoorPv2wu
set_option linter.defProp false
set_option linter.unusedSimpArgs false
set_option linter.unusedVariables false
namespace Go.Pv
open Go Go.RowKit
def pK (z b:Nat):List T→Option (List (List T))
 | [.sl _ []]=>some []
 | args=>kZ z b args
theorem jE {P:Program} {f:FuncId} {z b:Nat} (hm:P.follows .mixedOrders=true) (hn:cM P=true) (hex:∃ fn c,P.funcs[f]? = some fn∧fn.body=some c) (h:ZO P f z b):eE P f (pK z b):=by
 refine eE.yF (g':=kZ z b) (KI (Hs:=fun _=>aX) (aR.nil _) hm hn (aL (l:=[]) rfl) 1 hex fun args rows hg _=>?_) fun args rows hg args' hf=>?_
 ·unfold kZ at hg
  split at hg
  ·cases hg;rw[h.1]
  ·cases hg;rw[h.2.1];exact ⟨by simp[gC],rfl⟩
  ·rename_i fl a rows'
   split at hg
   ·rename_i hb
    cases hg;rw[h.2.2];exact ⟨hb,rfl⟩
   ·cases hg
  ·cases hg
 ·match args,args',hf with
  | [],[],_=>exact hg
  | [x],[y],hf =>
   obtain ⟨h1,h2,_⟩:=hf
   cases h1 with
   | same =>
    unfold pK at hg
    split at hg
    ·rename_i f' e
     simp only[List.cons.injEq,and_true] at e
     exact absurd e (h2 f')
    ·exact hg
   | nil f=>cases hg;rfl
   | ne f=>cases hg;rfl
   | isNe f=>exact hg
  | x::x'::l,y::y'::m,hf =>
   exfalso
   unfold pK kZ at hg
   simp at hg
theorem AMK {P:Program} {N:Nat} {hp:FuncId→Bool} {B:Env} {k:Nat} {f:FuncId} {fn:Func} {c:Code} (hB:B f=none) (hf:P.funcs[f]? = some fn) (hb:fn.body=some c) (hh:hp f=false):∃ g,HG P N hp B (k+1) f=some (.read g):=by
 simp only[HG,hB,hf,hb,hh]
 exact ⟨_,rfl⟩
theorem AD9 {P:Program} (hm:P.follows .mixedOrders=true) (hn:cM P=true) (N:Nat) (hp:FuncId→Bool) {B:Env} (hB:aR P B) (k:Nat) {f:FuncId} (h:∃ g,HG P N hp B k f=some (.read g)):aN P f (AVW P N hp B k f):=by
 obtain ⟨g,hg⟩:=h
 have:=qV.pure (AG1 hm hn N hp hB k f _ hg)
 unfold AVW
 rw[hg]
 exact this
end Go.Pv
