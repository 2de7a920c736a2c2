/-
  Functions of the library that shorten or sort one array of strings of the caller's own, by their contracts.
-/
import Derived.Test.YtcnfagefgkblkaaGreatDoorVsin
import Derived.Test.YtcnfagefgkblkaaGreatDoorVskl
import Derived.Shelf.SlicesE.DeleteFunc
set_option linter.defProp false
set_option linter.unusedSimpArgs false
set_option linter.unusedVariables false
namespace Go.Pv
open Go Go.RowKit Go.Sort Go.Proofs
end Go.Pv
