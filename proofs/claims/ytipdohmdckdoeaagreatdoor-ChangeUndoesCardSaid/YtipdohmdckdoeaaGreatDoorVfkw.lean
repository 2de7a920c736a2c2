/-
  Closed runs of functions that turn a record of the caller's own through a pointer.
-/
import Derived.Test.YtipdohmdckdoeaaGreatDoorVfkv
import Derived.Test.YtipdohmdckdoeaaGreatDoorVfcb
set_option linter.defProp false
set_option linter.unusedSimpArgs false
set_option linter.unusedVariables false
namespace Go.Pv
open Go Go.RowKit
noncomputable def A5W (P:Program) (N:Nat) (hp:FuncId->Bool) (B:Env) (k:Nat) (f:FuncId) (args:List T):Option T:=match args,P.funcs[f]? with
 | .agg row::ts,some fn=>match fn.body,decide (ts.length+1<=fn.ntmps) with
  | some c,true=>match rN P (H0 P N hp B k) fn.ntmps N c (stM row ts) with
   | some [(e,st)]=>match lF e,A5Q P fn.results st with
    | true,some (cs,t)=>some (.bY (.agg cs::t))
    | _,_=>none
   | _=>none
  | _,_=>none
 | _,_=>none
variable {P:Program}
def AIZ (hm:P.follows .mixedOrders=true) (hn:cR P=true) (N:Nat) (hp:FuncId->Bool) {B:Env} (hB:aR P B) (k:Nat) {f:FuncId} {fn:Func} {c:Code} (hf:P.funcs[f]? = some fn) (hb:fn.body=some c):cZ P f (wD (A5W P N hp B k f)) :=
 ASH hn hf hb λrow ts r hg _=>by
  unfold A5W at hg;rw[hf] at hg;dsimp only at hg;rw[hb] at hg;split at hg
  case h_2=>cases hg
  rename_i c' hc hl;cases hc;split at hg
  case h_2=>cases hg
  rename_i e st hr;split at hg
  case h_2=>cases hg
  rename_i cs t he hres;cases hg;refine ⟨of_decide_eq_true hl,λcx hP=>?_⟩;subst hP;refine I1 (WT hm hn N hp hB k) hm c _ _ (DH c _ _ _ hr λx hx=>?_);cases List.mem_singleton.1 hx;unfold BKJ;rw[he,hres]
def AAX {f:FuncId} {g g':List T->Option T} (h:cZ P f (wD g)) (hg:∀ args r,g' args=some r->g args=some r):cZ P f (wD g'):=⟨h.entry,λcx ρ σ n w args vs d σ' n' hP hG hI ha hr=>h.calls cx ρ σ n w args vs d σ' n' hP hG hI ha (by
 unfold wD at hr ⊢;split at hr
 case h_2=>cases hr
 split at hr
 case h_2=>cases hr
 rename_i h1 h2;split at hr
 case h_2=>cases hr
 rename_i h3 h4;split at hr
 case h_2=>cases hr
 rename_i h5;rw[hg _ _ h5];exact hr)⟩
end Go.Pv
