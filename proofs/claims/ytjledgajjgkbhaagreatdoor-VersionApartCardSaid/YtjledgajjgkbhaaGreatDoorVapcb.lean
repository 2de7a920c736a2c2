/-
  Copies of slices for closed runs (an empty slice may be nil or not); functions that read, as functions of data.
-/
import Derived.Test.YtjledgajjgkbhaaGreatDoorVapki
import Derived.Test.YtjledgajjgkbhaaGreatDoorVapwu
set_option linter.defProp false
set_option linter.unusedSimpArgs false
set_option linter.unusedVariables false
namespace Go.Pv
open Go Go.RowKit
def oG (z b:Nat):List T→Option (List (List T))
 | [.sl _ []]=>some []
 | args=>mO z b args
theorem jO {P:Program} {f:FuncId} {z b:Nat} (hm:P.follows .mixedOrders=true) (hn:cE P=true) (hex:∃ fn c,P.funcs[f]? = some fn∧fn.body=some c) (h:AEZ P f z b):e6 P f (oG z b):=by
 refine e6.A9 (g':=mO z b) (N9 (Hs:=fun _=>bI) (aT.nil _) hm hn (aL (l:=[]) rfl) 1 hex fun args rows hg _=>?_) fun args rows hg args' hf=>?_
 ·unfold mO at hg
  split at hg
  ·cases hg;rw[h.1]
  ·cases hg;rw[h.2.1];exact ⟨by simp[fE],rfl⟩
  ·rename_i fl a rows'
   split at hg
   ·rename_i hb
    cases hg;rw[h.2.2];exact ⟨hb,rfl⟩
   ·cases hg
  ·cases hg
 ·match args,args',hf with
  | [],[],_=>exact hg
  | [x],[y],hf =>
   obtain ⟨h1,h2,_⟩:=hf
   cases h1 with
   | same =>
    unfold oG at hg
    split at hg
    ·rename_i f' e
     simp only[List.cons.injEq,and_true] at e
     exact absurd e (h2 f')
    ·exact hg
   | nil f=>cases hg;rfl
   | ne f=>cases hg;rfl
   | isNe f=>exact hg
  | x::x'::l,y::y'::m,hf =>
   exfalso
   unfold oG mO at hg
   simp at hg
theorem TY {P:Program} {N:Nat} {hp:FuncId→Bool} {B:Env} {k:Nat} {f:FuncId} {fn:Func} {c:Code} (hB:B f=none) (hf:P.funcs[f]? = some fn) (hb:fn.body=some c) (hh:hp f=false):∃ g,KL P N hp B (k+1) f=some (.read g):=by
 simp only[KL,hB,hf,hb,hh]
 exact ⟨_,rfl⟩
theorem PE {P:Program} (hm:P.follows .mixedOrders=true) (hn:cE P=true) (N:Nat) (hp:FuncId→Bool) {B:Env} (hB:aT P B) (k:Nat) {f:FuncId} (h:∃ g,KL P N hp B k f=some (.read g)):aN P f (ASO P N hp B k f):=by
 obtain ⟨g,hg⟩:=h
 have:=lM.pure (AMZ hm hn N hp hB k f _ hg)
 unfold ASO
 rw[hg]
 exact this
end Go.Pv
