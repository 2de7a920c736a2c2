/-
  The examples of chapter 17, run by the kernel.
-/
import Derived.Test.YtjbepehejjmjoaaGreatDoorPgs
import Derived.Test.YtjbepehejjmjoaaGreatDoorProg
import Derived.KernelRfl
set_option linter.unusedSimpArgs false
set_option linter.unusedVariables false
namespace Go.Pv
open Go Go.Proofs

def heap17 : FuncId → Bool := fun f => [18, 39, 38, 24, 68].contains f
def known17 : Env := Env.of [(99, .pure gSplit), (1000000000 + 23, .mark), (3000000000 + 18, .mark)]
def gTrue : List T → Option T := fun args => match args with | [] => some (.v (.bool true)) | _ => none
def g_awake17 : List T → Option T := gTrue
theorem fn_awake17 : PureFn Tryz.prog 9 g_awake17 :=
  fn_of_run (by kernel_rfl) (by kernel_rfl) 400 heap17 (B := known17) (EnvOk.cons (x := .pure gSplit) fn_split (EnvOk.cons (x := .mark) trivial (EnvOk.cons (x := .mark) trivial (EnvOk.nil _)))) 40 (by kernel_rfl)
end Go.Pv
