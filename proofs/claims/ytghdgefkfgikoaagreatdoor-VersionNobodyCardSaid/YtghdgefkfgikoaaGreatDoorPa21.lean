/-
  The examples of chapter 21, run by the kernel.
-/
import Derived.Test.YtghdgefkfgikoaaGreatDoorPcb
import Derived.Test.YtghdgefkfgikoaaGreatDoorPgs
import Derived.Test.YtghdgefkfgikoaaGreatDoorPsa
set_option linter.unusedSimpArgs false
set_option linter.unusedVariables false
namespace Go.Pv
open Go Go.Proofs
theorem fn_clSec : FreshFn Tryz.prog 70 (gCL 4 40) := cloneX_of mixed' plain' ⟨_, _, Tryz.func70, rfl⟩ ⟨fun R => by kernel_rfl, fun fl R => by kernel_rfl, fun fl a rows R => by kernel_rfl⟩
theorem fn_clInt : FreshFn Tryz.prog 73 (gCL 1 8) := cloneX_of mixed' plain' ⟨_, _, Tryz.func73, rfl⟩ ⟨fun R => by kernel_rfl, fun fl R => by kernel_rfl, fun fl a rows R => by kernel_rfl⟩
theorem fn_clNode : FreshFn Tryz.prog 74 (gCL 3 40) := cloneX_of mixed' plain' ⟨_, _, Tryz.func74, rfl⟩ ⟨fun R => by kernel_rfl, fun fl R => by kernel_rfl, fun fl a rows R => by kernel_rfl⟩
theorem fn_clSeam : FreshFn Tryz.prog 75 (gCL 6 72) := cloneX_of mixed' plain' ⟨_, _, Tryz.func75, rfl⟩ ⟨fun R => by kernel_rfl, fun fl R => by kernel_rfl, fun fl a rows R => by kernel_rfl⟩
theorem fn_clNeed : FreshFn Tryz.prog 76 (gCL 3 40) := cloneX_of mixed' plain' ⟨_, _, Tryz.func76, rfl⟩ ⟨fun R => by kernel_rfl, fun fl R => by kernel_rfl, fun fl a rows R => by kernel_rfl⟩
theorem fn_clPt : FreshFn Tryz.prog 117 (gCL 2 16) := cloneX_of mixed' plain' ⟨_, _, Tryz.func117, rfl⟩ ⟨fun R => by kernel_rfl, fun fl R => by kernel_rfl, fun fl a rows R => by kernel_rfl⟩
theorem fn_clPtt : FreshFn Tryz.prog 170 (gCL 1 24) := cloneX_of mixed' plain' ⟨_, _, Tryz.func170, rfl⟩ ⟨fun R => by kernel_rfl, fun fl R => by kernel_rfl, fun fl a rows R => by kernel_rfl⟩
theorem fn_clPart : FreshFn Tryz.prog 171 (gCL 18 208) := cloneX_of mixed' plain' ⟨_, _, Tryz.func171, rfl⟩ ⟨fun R => by kernel_rfl, fun fl R => by kernel_rfl, fun fl a rows R => by kernel_rfl⟩
theorem fn_clPack : FreshFn Tryz.prog 172 (gCL 5 88) := cloneX_of mixed' plain' ⟨_, _, Tryz.func172, rfl⟩ ⟨fun R => by kernel_rfl, fun fl R => by kernel_rfl, fun fl a rows R => by kernel_rfl⟩
theorem fn_clStr : FreshFn Tryz.prog 119 (gCL 1 16) := cloneX_of mixed' plain' ⟨_, _, Tryz.func119, rfl⟩ ⟨fun R => by kernel_rfl, fun fl R => by kernel_rfl, fun fl a rows R => by kernel_rfl⟩
/-! ### An edit, a change order: as functions of data, run -/
def heapE : FuncId → Bool := fun f => [131, 63, 111, 148, 233, 240].contains f
noncomputable def knownE : Env := Env.of [(130, .pure gSplit), (70, .fresh (gCL 4 40)), (73, .fresh (gCL 1 8)), (74, .fresh (gCL 3 40)), (75, .fresh (gCL 6 72)), (76, .fresh (gCL 3 40)), (117, .fresh (gCL 2 16)), (170, .fresh (gCL 1 24)), (171, .fresh (gCL 18 208)), (172, .fresh (gCL 5 88)), (119, .fresh (gCL 1 16)), (5000000000 + 28, .mark)]
theorem knownE_ok : EnvOk Tryz.prog knownE := EnvOk.cons (x := .pure gSplit) fn_split (EnvOk.cons (x := .fresh (gCL 4 40)) fn_clSec (EnvOk.cons (x := .fresh (gCL 1 8)) fn_clInt (EnvOk.cons (x := .fresh (gCL 3 40)) fn_clNode (EnvOk.cons (x := .fresh (gCL 6 72)) fn_clSeam (EnvOk.cons (x := .fresh (gCL 3 40)) fn_clNeed (EnvOk.cons (x := .fresh (gCL 2 16)) fn_clPt (EnvOk.cons (x := .fresh (gCL 1 24)) fn_clPtt (EnvOk.cons (x := .fresh (gCL 18 208)) fn_clPart (EnvOk.cons (x := .fresh (gCL 5 88)) fn_clPack (EnvOk.cons (x := .fresh (gCL 1 16)) fn_clStr (EnvOk.cons (x := .mark) trivial (EnvOk.nil _))))))))))))
noncomputable def gEd : List T → Option T := runP Tryz.prog 400 heapE knownE 40 120
theorem fn_gEd : PureFn Tryz.prog 120 gEd := pureFn_run mixed' plain' 400 heapE knownE_ok 40 (runE_read (k := 39) (fn := _) (c := _) (by kernel_rfl) Tryz.func120 rfl (by kernel_rfl))
noncomputable def knownA : Env := Env.of [(130, .pure gSplit), (120, .pure gEd)]
theorem knownA_ok : EnvOk Tryz.prog knownA := EnvOk.cons (x := .pure gSplit) fn_split (EnvOk.cons (x := .pure gEd) fn_gEd (EnvOk.nil _))
noncomputable def gAp : List T → Option T := runP Tryz.prog 400 heapE knownA 40 41
theorem fn_gAp : PureFn Tryz.prog 41 gAp := pureFn_run mixed' plain' 400 heapE knownA_ok 40 (runE_read (k := 39) (fn := _) (c := _) (by kernel_rfl) Tryz.func41 rfl (by kernel_rfl))
/-! ### The examples -/
def heap21 : FuncId → Bool := fun f => [13, 15, 16, 18, 44, 11, 131, 63, 111, 10, 22, 25, 28, 31, 35, 59, 87, 36].contains f
noncomputable def known21 : Env := Env.of [(130, .pure gSplit), (41, .pure gAp), (70, .fresh (gCL 4 40)), (73, .fresh (gCL 1 8)), (74, .fresh (gCL 3 40)), (75, .fresh (gCL 6 72)), (76, .fresh (gCL 3 40)), (117, .fresh (gCL 2 16)), (170, .fresh (gCL 1 24)), (171, .fresh (gCL 18 208)), (172, .fresh (gCL 5 88)), (119, .fresh (gCL 1 16))]
theorem known21_ok : EnvOk Tryz.prog known21 := EnvOk.cons (x := .pure gSplit) fn_split (EnvOk.cons (x := .pure gAp) fn_gAp (EnvOk.cons (x := .fresh (gCL 4 40)) fn_clSec (EnvOk.cons (x := .fresh (gCL 1 8)) fn_clInt (EnvOk.cons (x := .fresh (gCL 3 40)) fn_clNode (EnvOk.cons (x := .fresh (gCL 6 72)) fn_clSeam (EnvOk.cons (x := .fresh (gCL 3 40)) fn_clNeed (EnvOk.cons (x := .fresh (gCL 2 16)) fn_clPt (EnvOk.cons (x := .fresh (gCL 1 24)) fn_clPtt (EnvOk.cons (x := .fresh (gCL 18 208)) fn_clPart (EnvOk.cons (x := .fresh (gCL 5 88)) fn_clPack (EnvOk.cons (x := .fresh (gCL 1 16)) fn_clStr (EnvOk.nil _))))))))))))
def gTrue : List T → Option T := fun args => match args with | [] => some (.v (.bool true)) | _ => none
def g_alive21 : List T → Option T := gTrue
theorem fn_alive21 : PureFn Tryz.prog 7 g_alive21 :=
  fn_of_run mixed' plain' 400 heap21 (B := known21) known21_ok 40 (by kernel_rfl)
end Go.Pv
