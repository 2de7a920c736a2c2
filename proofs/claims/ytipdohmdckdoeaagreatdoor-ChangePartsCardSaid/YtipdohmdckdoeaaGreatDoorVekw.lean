/-
  Closed runs of functions that turn a record of the caller's own through a pointer.
-/
import Derived.Test.YtipdohmdckdoeaaGreatDoorVekv
import Derived.Test.YtipdohmdckdoeaaGreatDoorVecb
set_option linter.defProp false
set_option linter.unusedSimpArgs false
set_option linter.unusedVariables false
namespace Go.Pv
open Go Go.RowKit
noncomputable def A18 (P:Program) (N:Nat) (hp:FuncId->Bool) (B:Env) (k:Nat) (f:FuncId) (args:List T):Option T:=match args,P.funcs[f]? with
 | .agg row::ts,some fn=>match fn.body,decide (ts.length+1<=fn.ntmps) with
  | some c,true=>match rB P (HG P N hp B k) fn.ntmps N c (stM row ts) with
   | some [(e,st)]=>match kS e,A12 P fn.results st with
    | true,some (cs,t)=>some (.b7 (.agg cs::t))
    | _,_=>none
   | _=>none
  | _,_=>none
 | _,_=>none
variable {P:Program}
def AHH (hm:P.follows .mixedOrders=true) (hn:cF P=true) (N:Nat) (hp:FuncId->Bool) {B:Env} (hB:aV P B) (k:Nat) {f:FuncId} {fn:Func} {c:Code} (hf:P.funcs[f]? = some fn) (hb:fn.body=some c):cN P f (vZ (A18 P N hp B k f)) :=
 AQA hn hf hb λrow ts r hg _=>by
  unfold A18 at hg;rw[hf] at hg;dsimp only at hg;rw[hb] at hg;split at hg
  case h_2=>cases hg
  rename_i c' hc hl;cases hc;split at hg
  case h_2=>cases hg
  rename_i e st hr;split at hg
  case h_2=>cases hg
  rename_i cs t he hres;cases hg;refine ⟨of_decide_eq_true hl,λcx hP=>?_⟩;subst hP;refine IE (WA hm hn N hp hB k) hm c _ _ (CJ c _ _ _ hr λx hx=>?_);cases List.mem_singleton.1 hx;unfold BFB;rw[he,hres]
def Z6 {f:FuncId} {g g':List T->Option T} (h:cN P f (vZ g)) (hg:∀ args r,g' args=some r->g args=some r):cN P f (vZ g'):=⟨h.entry,λcx ρ σ n w args vs d σ' n' hP hG hI ha hr=>h.calls cx ρ σ n w args vs d σ' n' hP hG hI ha (by
 unfold vZ at hr ⊢;split at hr
 case h_2=>cases hr
 split at hr
 case h_2=>cases hr
 rename_i h1 h2;split at hr
 case h_2=>cases hr
 rename_i h3 h4;split at hr
 case h_2=>cases hr
 rename_i h5;rw[hg _ _ h5];exact hr)⟩
end Go.Pv
