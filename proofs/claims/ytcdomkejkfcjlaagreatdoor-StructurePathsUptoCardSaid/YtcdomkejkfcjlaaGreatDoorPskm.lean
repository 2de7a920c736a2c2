/-
  How one reasons about maps with keys that are integers.
-/
import Derived.Test.YtcdomkejkfcjlaaGreatDoorPskh
set_option linter.unusedSimpArgs false
set_option linter.unusedVariables false
namespace Go.Pv
open Go Go.RowKit
def Sy.atom:Sy→Bool
 | .int _=>true
 | .bool=>true
 | .str=>true
 | _=>false
end Go.Pv
