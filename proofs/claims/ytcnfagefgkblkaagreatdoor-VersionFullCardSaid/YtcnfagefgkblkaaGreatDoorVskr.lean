/-
  slices.Grow at nil, by its contract.
-/
import Derived.Test.YtcnfagefgkblkaaGreatDoorVsin
import Derived.Shelf.Spec.SlicesGrow
set_option linter.defProp false
set_option linter.unusedSimpArgs false
set_option linter.unusedVariables false
namespace Go.Pv
open Go Go.RowKit Go.Sort Go.Proofs Go.Shelf
end Go.Pv
