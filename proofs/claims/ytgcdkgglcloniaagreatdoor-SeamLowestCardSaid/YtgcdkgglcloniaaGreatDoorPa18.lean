/-
  The examples of chapter 18, run by the kernel.
-/
import Derived.Test.YtgcdkgglcloniaaGreatDoorPgs
import Derived.Test.YtgcdkgglcloniaaGreatDoorProg
import Derived.KernelRfl
namespace Go.Pv
open Go Go.Proofs

def heap18 : FuncId → Bool := fun f => [50, 73, 91, 27, 28].contains f
def known18 : Env := Env.of [(53, .pure gSplit)]
def gTrue : List T → Option T := fun args => match args with | [] => some (.v (.bool true)) | _ => none
def g_awake18 : List T → Option T := gTrue
theorem fn_awake18 : PureFn Tryz.prog 8 g_awake18 :=
  fn_of_run (by kernel_rfl) (by kernel_rfl) 400 heap18 (B := known18) (EnvOk.cons fn_split (EnvOk.nil _)) 40 (by kernel_rfl)
end Go.Pv
