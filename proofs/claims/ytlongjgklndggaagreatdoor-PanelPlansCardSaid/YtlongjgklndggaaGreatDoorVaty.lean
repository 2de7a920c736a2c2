/-
  Names for the rows of this program's records, printed by a program of mine (gen_ty.py).
-/
import Derived.Test.YtlongjgklndggaaGreatDoorVakg
set_option linter.defProp false
namespace Go.Pv
open Go
abbrev bG:Sy:=(.pr (.li (.int .i64)) (.pr (.li (.int .i64)) (.pr (.li (.int .i64)) (.li (.int .i64)))))
abbrev bQ:Type:=((List (Int))×((List (Int))×((List (Int))×(List (Int)))))
abbrev aR:Sy:=(.pr .str (.pr (.int .i64) (.pr (.int .i64) (.pr (.int .i64) (.pr (.int .i64) (.int .i64))))))
abbrev aV:Type:=((ByteArray)×((Int)×((Int)×((Int)×((Int)×(Int))))))
abbrev jJ:Type:=((Int)×(Int))
abbrev aE:Sy:=(.pr (.li (.li (.int .i64))) (.pr (.int .i64) (.pr (.li (.int .i64)) (.pr (.int .i64) .bool))))
abbrev a6:Type:=((List (List (Int)))×((Int)×((List (Int))×((Int)×(Bool)))))
end Go.Pv
