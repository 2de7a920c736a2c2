/-
  Facts on the program that every function's file asks for.
-/
import Derived.Test.YtlpcelingpgmfaaDoorPki
import Derived.Test.YtlpcelingpgmfaaDoorPty
import Derived.Test.YtlpcelingpgmfaaDoorProg
import Derived.KernelRfl
set_option linter.unusedSimpArgs false
set_option linter.unusedVariables false
namespace Go.Pv
open Go Go.Proofs
theorem mixed' : Tryd.prog.follows .mixedOrders = true := by kernel_rfl
theorem plain' : plainNames Tryd.prog = true := by kernel_rfl
end Go.Pv
