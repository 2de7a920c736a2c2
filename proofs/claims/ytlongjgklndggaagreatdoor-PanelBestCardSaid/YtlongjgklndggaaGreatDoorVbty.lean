/-
  Names for the rows of this program's records, printed by a program of mine (gen_ty.py).
-/
import Derived.Test.YtlongjgklndggaaGreatDoorVbkg
set_option linter.defProp false
namespace Go.Pv
open Go
abbrev cL:Sy:=(.pr (.li (.int .i64)) (.pr (.li (.int .i64)) (.pr (.li (.int .i64)) (.li (.int .i64)))))
abbrev bZ:Type:=((List (Int))×((List (Int))×((List (Int))×(List (Int)))))
abbrev aI:Sy:=(.pr .str (.pr (.int .i64) (.pr (.int .i64) (.pr (.int .i64) (.pr (.int .i64) (.int .i64))))))
abbrev aM:Type:=((ByteArray)×((Int)×((Int)×((Int)×((Int)×(Int))))))
abbrev iJ:Type:=((Int)×(Int))
end Go.Pv
