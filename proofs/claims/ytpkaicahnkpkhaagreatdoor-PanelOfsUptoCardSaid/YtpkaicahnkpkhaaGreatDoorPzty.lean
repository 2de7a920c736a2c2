/-
  Names for the rows of this program's records, printed by a program of mine (gen_ty.py).
-/
import Derived.Test.YtpkaicahnkpkhaaGreatDoorPzkg
namespace Go.Pv
open Go
abbrev eZ:Sy:=(.pr .str (.pr (.int .i64) .str))
abbrev mU:Type:=((ByteArray)×((Int)×(ByteArray)))
abbrev aA:Sy:=(.pr (.int .i64) (.int .i64))
abbrev aI:Type:=((Int)×(Int))
abbrev b6:Sy:=(.pr (.li aA) (.li (.li aA)))
abbrev dP:Type:=((List (aI))×(List (List (aI))))
abbrev FM:Sy:=(.pr (.int .i64) (.pr (.int .i64) (.int .i64)))
abbrev XR:Type:=((Int)×((Int)×(Int)))
abbrev cI:Sy:=(.pr FM (.int .i64))
abbrev qN:Type:=((XR)×(Int))
abbrev aP:Sy:=(.pr .str (.pr (.int .i64) (.pr (.int .i64) (.pr .str (.pr .str (.pr (.int .i64) (.pr b6 (.pr .str (.pr (.int .i64) (.pr (.int .i64) (.pr FM cI)))))))))))
abbrev bC:Type:=((ByteArray)×((Int)×((Int)×((ByteArray)×((ByteArray)×((Int)×((dP)×((ByteArray)×((Int)×((Int)×((XR)×(qN))))))))))))
abbrev cR:Sy:=(.pr .str (.pr .str (.pr .str (.pr (.int .i64) (.pr (.int .i64) (.int .i64))))))
abbrev b8:Type:=((ByteArray)×((ByteArray)×((ByteArray)×((Int)×((Int)×(Int))))))
abbrev j9:Sy:=(.pr .str (.pr .str (.pr (.li .str) (.pr (.int .i64) (.li .str)))))
abbrev KA:Type:=((ByteArray)×((ByteArray)×((List (ByteArray))×((Int)×(List (ByteArray))))))
abbrev AVZ:Sy:=(.pr (.int .i64) (.pr .str .str))
abbrev AYK:Type:=((Int)×((ByteArray)×(ByteArray)))
abbrev aL:Sy:=(.pr .str (.pr (.li eZ) (.pr (.li aP) (.pr (.li cR) (.pr (.li j9) (.li AVZ))))))
abbrev aQ:Type:=((ByteArray)×((List (mU))×((List (bC))×((List (b8))×((List (KA))×(List (AYK)))))))
abbrev bK:Sy:=(.pr .str (.pr (.int .i64) (.pr (.int .i64) (.li (.int .i64)))))
abbrev dO:Type:=((ByteArray)×((Int)×((Int)×(List (Int)))))
abbrev aW:Sy:=(.pr .str (.pr (.int .i64) (.pr (.int .i64) (.int .i64))))
abbrev bQ:Type:=((ByteArray)×((Int)×((Int)×(Int))))
abbrev aG:Sy:=(.pr (.li bK) (.li aW))
abbrev aM:Type:=((List (dO))×(List (bQ)))
abbrev M7:Sy:=(.pr .str (.pr (.int .i64) (.pr (.int .i64) (.pr (.int .i64) (.pr (.int .i64) (.int .i64))))))
abbrev jX:Type:=((ByteArray)×((Int)×((Int)×((Int)×((Int)×(Int))))))
end Go.Pv
