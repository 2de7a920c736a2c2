/-
  The examples of chapter 39, run by the kernel.
-/
import Derived.Test.YtglbgioimibmjaaGreatDoorPgs
import Derived.Test.YtglbgioimibmjaaGreatDoorPge
import Derived.Test.YtglbgioimibmjaaGreatDoorPca
import Derived.Test.YtglbgioimibmjaaGreatDoorProg
import Derived.KernelRfl
set_option linter.unusedSimpArgs false
set_option linter.unusedVariables false
namespace Go.Pv
open Go Go.Proofs

def heap39 : FuncId → Bool := fun f => [87, 102, 115, 51, 50, 42].contains f
noncomputable def known39 : Env := Env.of [(94, .pure gSplit), (64, .ext gAdd64), (44, .fresh1 gClI), (1000000000 + 36, .mark), (2000000000, .mark)]
def gTrue : List T → Option T := fun args => match args with | [] => some (.v (.bool true)) | _ => none
def g_alive39 : List T → Option T := gTrue
theorem fn_alive39 : PureFn Tryz.prog 9 g_alive39 :=
  fn_of_run (by kernel_rfl) (by kernel_rfl) 400 heap39 (B := known39) (EnvOk.cons (x := .pure gSplit) fn_split (EnvOk.cons (x := .ext gAdd64) fn_add64 (EnvOk.cons (x := .fresh1 gClI) fn_clI (EnvOk.cons (x := .mark) trivial (EnvOk.cons (x := .mark) trivial (EnvOk.nil _)))))) 60 (by kernel_rfl)
end Go.Pv
