/-
  Names for the rows of this program's records, printed by a program of mine (gen_ty.py).
-/
import Derived.Test.YtdplnhkfbmgofaaGreatDoorPv2kg
set_option linter.defProp false
namespace Go.Pv
open Go
abbrev aZ:Sy:=(.pr .str (.pr (.int .i64) .str))
abbrev bI:Type:=((ByteArray)×((Int)×(ByteArray)))
abbrev aA:Sy:=(.pr (.int .i64) (.int .i64))
abbrev aP:Type:=((Int)×(Int))
abbrev gO:Sy:=(.pr (.li aA) (.li (.li aA)))
abbrev kW:Type:=((List (aP))×(List (List (aP))))
abbrev AMS:Sy:=(.pr (.int .i64) (.pr (.int .i64) (.int .i64)))
abbrev AI5:Type:=((Int)×((Int)×(Int)))
abbrev eC:Sy:=(.pr AMS (.int .i64))
abbrev zD:Type:=((AI5)×(Int))
abbrev aO:Sy:=(.pr .str (.pr (.int .i64) (.pr (.int .i64) (.pr .str (.pr .str (.pr (.int .i64) (.pr gO (.pr .str (.pr (.int .i64) (.pr (.int .i64) (.pr AMS eC)))))))))))
abbrev aY:Type:=((ByteArray)×((Int)×((Int)×((ByteArray)×((ByteArray)×((Int)×((kW)×((ByteArray)×((Int)×((Int)×((AI5)×(zD))))))))))))
abbrev a7:Sy:=(.pr .str (.pr .str (.pr .str (.pr (.int .i64) (.pr (.int .i64) (.int .i64))))))
abbrev bK:Type:=((ByteArray)×((ByteArray)×((ByteArray)×((Int)×((Int)×(Int))))))
abbrev aG:Sy:=(.pr .str (.pr .str (.pr (.li .str) (.pr (.int .i64) (.li .str)))))
abbrev aM:Type:=((ByteArray)×((ByteArray)×((List (ByteArray))×((Int)×(List (ByteArray))))))
abbrev aQ:Sy:=(.pr (.int .i64) (.pr .str .str))
abbrev bC:Type:=((Int)×((ByteArray)×(ByteArray)))
abbrev aU:Sy:=(.pr (.int .i64) (.pr .str (.pr .str (.pr aZ (.pr aO (.pr a7 (.pr aG aQ)))))))
abbrev a8:Type:=((Int)×((ByteArray)×((ByteArray)×((bI)×((aY)×((bK)×((aM)×(bC))))))))
abbrev aE:Sy:=(.pr .str (.pr (.li aZ) (.pr (.li aO) (.pr (.li a7) (.pr (.li aG) (.li aQ))))))
abbrev aC:Type:=((ByteArray)×((List (bI))×((List (aY))×((List (bK))×((List (aM))×(List (bC)))))))
abbrev bT:Sy:=(.pr .str (.pr (.int .i64) (.pr (.int .i64) (.li (.int .i64)))))
abbrev dA:Type:=((ByteArray)×((Int)×((Int)×(List (Int)))))
abbrev bM:Sy:=(.pr .str (.pr (.int .i64) (.pr (.int .i64) (.int .i64))))
abbrev cD:Type:=((ByteArray)×((Int)×((Int)×(Int))))
abbrev aK:Sy:=(.pr (.li bT) (.li bM))
abbrev aI:Type:=((List (dA))×(List (cD)))
abbrev aD:Type:=((ByteArray)×(Int))
end Go.Pv
