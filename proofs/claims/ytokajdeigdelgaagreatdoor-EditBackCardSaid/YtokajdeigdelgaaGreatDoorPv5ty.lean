/-
  Names for the rows of this program's records, printed by a program of mine (gen_ty.py).
-/
import Derived.Test.YtokajdeigdelgaaGreatDoorPv5kg
set_option linter.defProp false
namespace Go.Pv
open Go
abbrev ZA:Sy:=(.pr .str (.pr (.int .i64) .str))
abbrev C3:Type:=((ByteArray)×((Int)×(ByteArray)))
abbrev aC:Sy:=(.pr (.int .i64) (.int .i64))
abbrev aQ:Type:=((Int)×(Int))
abbrev lK:Sy:=(.pr (.li aC) (.li (.li aC)))
abbrev tP:Type:=((List (aQ))×(List (List (aQ))))
abbrev V8:Sy:=(.pr (.int .i64) (.pr (.int .i64) (.int .i64)))
abbrev tQ:Type:=((Int)×((Int)×(Int)))
abbrev V7:Sy:=(.pr V8 (.int .i64))
abbrev UT:Type:=((tQ)×(Int))
abbrev eU:Sy:=(.pr .str (.pr (.int .i64) (.pr (.int .i64) (.pr .str (.pr .str (.pr (.int .i64) (.pr lK (.pr .str (.pr (.int .i64) (.pr (.int .i64) (.pr V8 V7)))))))))))
abbrev dI:Type:=((ByteArray)×((Int)×((Int)×((ByteArray)×((ByteArray)×((Int)×((tP)×((ByteArray)×((Int)×((Int)×((tQ)×(UT))))))))))))
abbrev ZB:Sy:=(.pr .str (.pr .str (.pr .str (.pr (.int .i64) (.pr (.int .i64) (.int .i64))))))
abbrev C4:Type:=((ByteArray)×((ByteArray)×((ByteArray)×((Int)×((Int)×(Int))))))
abbrev fX:Sy:=(.pr .str (.pr .str (.pr (.li .str) (.pr (.int .i64) (.li .str)))))
abbrev fO:Type:=((ByteArray)×((ByteArray)×((List (ByteArray))×((Int)×(List (ByteArray))))))
abbrev Y9:Sy:=(.pr (.int .i64) (.pr .str .str))
abbrev C2:Type:=((Int)×((ByteArray)×(ByteArray)))
abbrev bX:Sy:=(.pr (.int .i64) (.pr .str (.pr .str (.pr ZA (.pr eU (.pr ZB (.pr fX Y9)))))))
abbrev cH:Type:=((Int)×((ByteArray)×((ByteArray)×((C3)×((dI)×((C4)×((fO)×(C2))))))))
abbrev aA:Sy:=(.pr .str (.int .i64))
abbrev aB:Type:=((ByteArray)×(Int))
abbrev mU:Sy:=aA
abbrev cF:Type:=(aB)
end Go.Pv
