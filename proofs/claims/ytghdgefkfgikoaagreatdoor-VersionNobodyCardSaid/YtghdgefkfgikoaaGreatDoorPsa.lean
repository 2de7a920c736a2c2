/-
  Facts on the program that every function's file asks for.
-/
import Derived.Test.YtghdgefkfgikoaaGreatDoorPki
import Derived.Test.YtghdgefkfgikoaaGreatDoorPty
import Derived.Test.YtghdgefkfgikoaaGreatDoorProg
import Derived.KernelRfl
set_option linter.unusedSimpArgs false
set_option linter.unusedVariables false
namespace Go.Pv
open Go Go.Proofs
theorem mixed' : Tryz.prog.follows .mixedOrders = true := by kernel_rfl
theorem plain' : plainNames Tryz.prog = true := by kernel_rfl
end Go.Pv
