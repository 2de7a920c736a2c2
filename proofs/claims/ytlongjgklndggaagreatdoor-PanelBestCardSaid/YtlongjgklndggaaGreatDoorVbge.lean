/-
  math/bits.Add64: the model stands in for it.
-/
import Derived.Test.YtlongjgklndggaaGreatDoorVbwu
import Derived.Laws.Externs
import Derived.Test.YtlongjgklndggaaGreatDoorProg
set_option linter.defProp false
set_option linter.unusedSimpArgs false
set_option linter.unusedVariables false
namespace Go.Pv
open Go Go.RowKit Go.Proofs
def x9:List T→Option T
 | [.v (.int .u64 x),.v (.int .u64 y),.v (.int .u64 c)]=>match decide (0≤x),decide (0≤y),decide (0≤c),decide (c≤1) with
  | true,true,true,true=>some (.aR [.v (.int .u64 ((x+y+c) % 18446744073709551616)),.v (.int .u64 ((x+y+c) / 18446744073709551616))])
  | _,_,_,_=>none
 | _=>none
theorem J8:I7 Tryz.prog 56 x9:=by
 intro w own args vs r ha hg
 unfold x9 at hg
 split at hg
 ·rename_i x y c
  split at hg
  ·rename_i h1 h2 h3 h4
   have h1:=of_decide_eq_true h1
   have h2:=of_decide_eq_true h2
   have h3:=of_decide_eq_true h3
   have h4:=of_decide_eq_true h4
   cases hg
   have e0:=ha.2 0 (by simp)
   have e1:=ha.2 1 (by simp)
   have e2:=ha.2 2 (by simp)
   have hv:vs = #[.int .u64 x,.int .u64 y,.int .u64 c]:=by
    have hs:vs.size=3:=ha.1
    obtain ⟨l⟩:=vs
    match l,hs with
    | [a,b,c],_ =>
     simp at e0 e1 e2
     cases e0;cases e1;cases e2;rfl
   subst hv
   have hr:=run_callFunc_extern (P:=Tryz.prog) (f:=56) (e:=add64Entry) Tryz.func56 (by kernel_rfl) (by kernel_rfl) (by kernel_rfl) (by kernel_rfl) #[.int .u64 x,.int .u64 y,.int .u64 c] w
   rw[run_add64 x y c h1 h2 h3 h4] at hr
   refine ⟨_,hr,?_⟩
   exact .aR _ _ rfl fun i hi=>by
    match i,hi with
    | 0,_=>exact .v _
    | 1,_=>exact .v _
  ·cases hg
 ·cases hg
end Go.Pv
