/-
  A function that sorts one array of the caller's own, by its contract.
-/
import Derived.Test.YtcnfagefgkblkaaGreatDoorVskh
import Derived.Sort.OwnSortedInts
set_option linter.defProp false
set_option linter.unusedSimpArgs false
set_option linter.unusedVariables false
namespace Go.Pv
open Go Go.RowKit Go.Sort
end Go.Pv
