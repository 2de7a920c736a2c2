/-
  The symbolic executor, part v: functions that turn a record of the caller's own through a pointer.
-/
import Derived.Test.YtjledgajjgkbhaaGreatDoorVapkh
set_option linter.defProp false
set_option linter.unusedSimpArgs false
namespace Go.Pv
open Go Go.RowKit
section
variable {P : Program} {E : Env} {Hs : FuncId → Hint}
end
end Go.Pv
