/-
  Names for the rows of this program's records, printed by a program of mine (gen_ty.py).
-/
import Derived.Test.YtokajdeigdelgaaGreatDoorPv6kg
set_option linter.defProp false
namespace Go.Pv
open Go
abbrev aM:Sy:=(.pr .str (.pr (.int .i64) .str))
abbrev bX:Type:=((ByteArray)×((Int)×(ByteArray)))
abbrev aT:Sy:=(.pr (.int .i64) (.int .i64))
abbrev dG:Type:=((Int)×(Int))
abbrev kG:Sy:=(.pr (.li aT) (.li (.li aT)))
abbrev tA:Type:=((List (dG))×(List (List (dG))))
abbrev TX:Sy:=(.pr (.int .i64) (.pr (.int .i64) (.int .i64)))
abbrev SL:Type:=((Int)×((Int)×(Int)))
abbrev RV:Sy:=(.pr TX (.int .i64))
abbrev QF:Type:=((SL)×(Int))
abbrev aI:Sy:=(.pr .str (.pr (.int .i64) (.pr (.int .i64) (.pr .str (.pr .str (.pr (.int .i64) (.pr kG (.pr .str (.pr (.int .i64) (.pr (.int .i64) (.pr TX RV)))))))))))
abbrev bK:Type:=((ByteArray)×((Int)×((Int)×((ByteArray)×((ByteArray)×((Int)×((tA)×((ByteArray)×((Int)×((Int)×((SL)×(QF))))))))))))
abbrev aN:Sy:=(.pr .str (.pr .str (.pr .str (.pr (.int .i64) (.pr (.int .i64) (.int .i64))))))
abbrev bY:Type:=((ByteArray)×((ByteArray)×((ByteArray)×((Int)×((Int)×(Int))))))
abbrev aA:Sy:=(.pr .str (.pr .str (.pr (.li .str) (.pr (.int .i64) (.li .str)))))
abbrev aQ:Type:=((ByteArray)×((ByteArray)×((List (ByteArray))×((Int)×(List (ByteArray))))))
abbrev MW:Sy:=(.pr (.int .i64) (.pr .str .str))
abbrev O8:Type:=((Int)×((ByteArray)×(ByteArray)))
abbrev aC:Sy:=(.pr .str (.pr (.li aM) (.pr (.li aI) (.pr (.li aN) (.pr (.li aA) (.li MW))))))
abbrev aR:Type:=((ByteArray)×((List (bX))×((List (bK))×((List (bY))×((List (aQ))×(List (O8)))))))
abbrev KC:Type:=((Int)×((ByteArray)×((ByteArray)×((bX)×((bK)×((bY)×((aQ)×(O8))))))))
end Go.Pv
