/-
  Copies of slices for closed runs (an empty slice may be nil or not); functions that read, as functions of data.
-/
import Derived.Test.YtcnfagefgkblkaaGreatDoorVski
import Derived.Test.YtcnfagefgkblkaaGreatDoorVswu
set_option linter.defProp false
set_option linter.unusedSimpArgs false
set_option linter.unusedVariables false
namespace Go.Pv
open Go Go.RowKit
def nB (z b:Nat):List T→Option (List (List T))
 | [.sl _ []]=>some []
 | args=>lR z b args
theorem iQ {P:Program} {f:FuncId} {z b:Nat} (hm:P.follows .mixedOrders=true) (hn:cD P=true) (hex:∃ fn c,P.funcs[f]? = some fn∧fn.body=some c) (h:AA6 P f z b):eH P f (nB z b):=by
 refine eH.yZ (g':=lR z b) (LD (Hs:=fun _=>aX) (aQ.nil _) hm hn (aL (l:=[]) rfl) 1 hex fun args rows hg _=>?_) fun args rows hg args' hf=>?_
 ·unfold lR at hg
  split at hg
  ·cases hg;rw[h.1]
  ·cases hg;rw[h.2.1];exact ⟨by simp[fS],rfl⟩
  ·rename_i fl a rows'
   split at hg
   ·rename_i hb
    cases hg;rw[h.2.2];exact ⟨hb,rfl⟩
   ·cases hg
  ·cases hg
 ·match args,args',hf with
  | [],[],_=>exact hg
  | [x],[y],hf =>
   obtain ⟨h1,h2,_⟩:=hf
   cases h1 with
   | same =>
    unfold nB at hg
    split at hg
    ·rename_i f' e
     simp only[List.cons.injEq,and_true] at e
     exact absurd e (h2 f')
    ·exact hg
   | nil f=>cases hg;rfl
   | ne f=>cases hg;rfl
   | isNe f=>exact hg
  | x::x'::l,y::y'::m,hf =>
   exfalso
   unfold nB lR at hg
   simp at hg
theorem FW {P:Program} {N:Nat} {hp:FuncId→Bool} {B:Env} {k:Nat} {f:FuncId} {fn:Func} {c:Code} (hB:B f=none) (hf:P.funcs[f]? = some fn) (hb:fn.body=some c) (hh:hp f=false):∃ g,FV P N hp B (k+1) f=some (.read g):=by
 simp only[FV,hB,hf,hb,hh]
 exact ⟨_,rfl⟩
theorem MI {P:Program} (hm:P.follows .mixedOrders=true) (hn:cD P=true) (N:Nat) (hp:FuncId→Bool) {B:Env} (hB:aQ P B) (k:Nat) {f:FuncId} (h:∃ g,FV P N hp B k f=some (.read g)):aN P f (AO0 P N hp B k f):=by
 obtain ⟨g,hg⟩:=h
 have:=o3.pure (TW hm hn N hp hB k f _ hg)
 unfold AO0
 rw[hg]
 exact this
end Go.Pv
