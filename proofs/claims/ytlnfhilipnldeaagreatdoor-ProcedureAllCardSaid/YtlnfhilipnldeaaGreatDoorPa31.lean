/-
  The examples of chapter 31, run by the kernel.
-/
import Derived.Test.YtlnfhilipnldeaaGreatDoorPwu
import Derived.Test.YtlnfhilipnldeaaGreatDoorProg
import Derived.KernelRfl
namespace Go.Pv
open Go Go.Proofs

def gTrue : List T → Option T := fun args => match args with | [] => some (.v (.bool true)) | _ => none
def g_awake31 : List T → Option T := gTrue
theorem fn_awake31 : PureFn Tryz.prog 6 g_awake31 :=
  fn_of_run (by kernel_rfl) (by kernel_rfl) 400 (fun _ => false) (B := Env.of []) (EnvOk.nil _) 40 (by kernel_rfl)
end Go.Pv
