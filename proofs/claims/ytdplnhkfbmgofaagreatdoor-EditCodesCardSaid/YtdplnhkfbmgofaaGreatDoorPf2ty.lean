/-
  Names for the rows of this program's records, printed by a program of mine (gen_ty.py).
-/
import Derived.Test.YtdplnhkfbmgofaaGreatDoorPf2kg
set_option linter.defProp false
namespace Go.Pv
open Go
abbrev UJ:Sy:=(.pr .str (.pr (.int .i64) .str))
abbrev SU:Type:=((ByteArray)×((Int)×(ByteArray)))
abbrev aS:Sy:=(.pr (.int .i64) (.int .i64))
abbrev bK:Type:=((Int)×(Int))
abbrev R1:Sy:=(.pr (.li aS) (.li (.li aS)))
abbrev QN:Type:=((List (bK))×(List (List (bK))))
abbrev CI:Sy:=(.pr (.int .i64) (.pr (.int .i64) (.int .i64)))
abbrev C1:Type:=((Int)×((Int)×(Int)))
abbrev R0:Sy:=(.pr CI (.int .i64))
abbrev QM:Type:=((C1)×(Int))
abbrev iD:Sy:=(.pr .str (.pr (.int .i64) (.pr (.int .i64) (.pr .str (.pr .str (.pr (.int .i64) (.pr R1 (.pr .str (.pr (.int .i64) (.pr (.int .i64) (.pr CI R0)))))))))))
abbrev gO:Type:=((ByteArray)×((Int)×((Int)×((ByteArray)×((ByteArray)×((Int)×((QN)×((ByteArray)×((Int)×((Int)×((C1)×(QM))))))))))))
abbrev UK:Sy:=(.pr .str (.pr .str (.pr .str (.pr (.int .i64) (.pr (.int .i64) (.int .i64))))))
abbrev SV:Type:=((ByteArray)×((ByteArray)×((ByteArray)×((Int)×((Int)×(Int))))))
abbrev M0:Sy:=(.pr .str (.pr .str (.pr (.li .str) (.pr (.int .i64) (.li .str)))))
abbrev JO:Type:=((ByteArray)×((ByteArray)×((List (ByteArray))×((Int)×(List (ByteArray))))))
abbrev UI:Sy:=(.pr (.int .i64) (.pr .str .str))
abbrev SS:Type:=((Int)×((ByteArray)×(ByteArray)))
abbrev dD:Sy:=(.pr (.int .i64) (.pr .str (.pr .str (.pr UJ (.pr iD (.pr UK (.pr M0 UI)))))))
abbrev eD:Type:=((Int)×((ByteArray)×((ByteArray)×((SU)×((gO)×((SV)×((JO)×(SS))))))))
end Go.Pv
