/-
  Facts on the program that every function's file asks for.
-/
import Derived.Test.YtlnfhilipnldeaaPki
import Derived.Test.YtlnfhilipnldeaaPty
import Derived.Test.YtlnfhilipnldeaaProg
import Derived.KernelRfl
set_option linter.unusedSimpArgs false
set_option linter.unusedVariables false
namespace Go.Pv
open Go Go.Proofs
theorem mixed' : Try.prog.follows .mixedOrders = true := by kernel_rfl
theorem plain' : plainNames Try.prog = true := by kernel_rfl
end Go.Pv
