/-
  Closed runs of functions that turn a record of the caller's own through a pointer.
-/
import Derived.Test.YtipdohmdckdoeaaGreatDoorVdkv
import Derived.Test.YtipdohmdckdoeaaGreatDoorVdcb
set_option linter.defProp false
set_option linter.unusedSimpArgs false
set_option linter.unusedVariables false
namespace Go.Pv
open Go Go.RowKit
noncomputable def A19 (P:Program) (N:Nat) (hp:FuncId->Bool) (B:Env) (k:Nat) (f:FuncId) (args:List T):Option T:=match args,P.funcs[f]? with
 | .agg row::ts,some fn=>match fn.body,decide (ts.length+1<=fn.ntmps) with
  | some c,true=>match rM P (HR P N hp B k) fn.ntmps N c (stM row ts) with
   | some [(e,st)]=>match lA e,A13 P fn.results st with
    | true,some (cs,t)=>some (.b9 (.agg cs::t))
    | _,_=>none
   | _=>none
  | _,_=>none
 | _,_=>none
variable {P:Program}
def AHI (hm:P.follows .mixedOrders=true) (hn:cI P=true) (N:Nat) (hp:FuncId->Bool) {B:Env} (hB:aU P B) (k:Nat) {f:FuncId} {fn:Func} {c:Code} (hf:P.funcs[f]? = some fn) (hb:fn.body=some c):cF P f (wI (A19 P N hp B k f)) :=
 AP7 hn hf hb λrow ts r hg _=>by
  unfold A19 at hg;rw[hf] at hg;dsimp only at hg;rw[hb] at hg;split at hg
  case h_2=>cases hg
  rename_i c' hc hl;cases hc;split at hg
  case h_2=>cases hg
  rename_i e st hr;split at hg
  case h_2=>cases hg
  rename_i cs t he hres;cases hg;refine ⟨of_decide_eq_true hl,λcx hP=>?_⟩;subst hP;refine IQ (V7 hm hn N hp hB k) hm c _ _ (DF c _ _ _ hr λx hx=>?_);cases List.mem_singleton.1 hx;unfold BFF;rw[he,hres]
def Z5 {f:FuncId} {g g':List T->Option T} (h:cF P f (wI g)) (hg:∀ args r,g' args=some r->g args=some r):cF P f (wI g'):=⟨h.entry,λcx ρ σ n w args vs d σ' n' hP hG hI ha hr=>h.calls cx ρ σ n w args vs d σ' n' hP hG hI ha (by
 unfold wI at hr ⊢;split at hr
 case h_2=>cases hr
 split at hr
 case h_2=>cases hr
 rename_i h1 h2;split at hr
 case h_2=>cases hr
 rename_i h3 h4;split at hr
 case h_2=>cases hr
 rename_i h5;rw[hg _ _ h5];exact hr)⟩
end Go.Pv
