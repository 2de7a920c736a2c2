/-
  Names for the rows of this program's records, printed by a program of mine (gen_ty.py).
-/
import Derived.Test.YtipdohmdckdoeaaGreatDoorVakg
set_option linter.defProp false
namespace Go.Pv
open Go
abbrev AHO:Sy:=(.pr .str (.pr (.int .i64) .str))
abbrev O5:Type:=((ByteArray)×((Int)×(ByteArray)))
abbrev aP:Sy:=(.pr (.int .i64) (.int .i64))
abbrev bI:Type:=((Int)×(Int))
abbrev AFE:Sy:=(.pr (.li aP) (.li (.li aP)))
abbrev ADS:Type:=((List (bI))×(List (List (bI))))
abbrev AHQ:Sy:=(.pr (.int .i64) (.pr (.int .i64) (.int .i64)))
abbrev GD:Type:=((Int)×((Int)×(Int)))
abbrev AFD:Sy:=(.pr AHQ (.int .i64))
abbrev ADR:Type:=((GD)×(Int))
abbrev sG:Sy:=(.pr .str (.pr (.int .i64) (.pr (.int .i64) (.pr .str (.pr .str (.pr (.int .i64) (.pr AFE (.pr .str (.pr (.int .i64) (.pr (.int .i64) (.pr AHQ AFD)))))))))))
abbrev iC:Type:=((ByteArray)×((Int)×((Int)×((ByteArray)×((ByteArray)×((Int)×((ADS)×((ByteArray)×((Int)×((Int)×((GD)×(ADR))))))))))))
abbrev AHP:Sy:=(.pr .str (.pr .str (.pr .str (.pr (.int .i64) (.pr (.int .i64) (.int .i64))))))
abbrev O6:Type:=((ByteArray)×((ByteArray)×((ByteArray)×((Int)×((Int)×(Int))))))
abbrev ZT:Sy:=(.pr .str (.pr .str (.pr (.li .str) (.pr (.int .i64) (.li .str)))))
abbrev uM:Type:=((ByteArray)×((ByteArray)×((List (ByteArray))×((Int)×(List (ByteArray))))))
abbrev AHN:Sy:=(.pr (.int .i64) (.pr .str .str))
abbrev O4:Type:=((Int)×((ByteArray)×(ByteArray)))
abbrev aR:Sy:=(.pr (.int .i64) (.pr .str (.pr .str (.pr AHO (.pr sG (.pr AHP (.pr ZT AHN)))))))
abbrev bD:Type:=((Int)×((ByteArray)×((ByteArray)×((O5)×((iC)×((O6)×((uM)×(O4))))))))
abbrev aU:Sy:=(.pr .str (.li aR))
abbrev bB:Type:=((ByteArray)×(List (bD)))
abbrev aA:Sy:=(.pr .str (.int .i64))
abbrev aB:Type:=((ByteArray)×(Int))
abbrev lI:Sy:=aA
abbrev cW:Type:=(aB)
end Go.Pv
