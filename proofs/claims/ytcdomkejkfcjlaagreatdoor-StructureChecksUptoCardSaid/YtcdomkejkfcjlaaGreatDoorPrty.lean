/-
  Names for the rows of this program's records, printed by a program of mine (gen_ty.py).
-/
import Derived.Test.YtcdomkejkfcjlaaGreatDoorPrkg
namespace Go.Pv
open Go
abbrev bH:Sy:=(.pr .str (.pr (.int .i64) .str))
abbrev gU:Type:=((ByteArray)×((Int)×(ByteArray)))
abbrev aA:Sy:=(.pr (.int .i64) (.int .i64))
abbrev aJ:Type:=((Int)×(Int))
abbrev cD:Sy:=(.pr (.li aA) (.li (.li aA)))
abbrev eL:Type:=((List (aJ))×(List (List (aJ))))
abbrev J6:Sy:=(.pr (.int .i64) (.pr (.int .i64) (.int .i64)))
abbrev AEU:Type:=((Int)×((Int)×(Int)))
abbrev cV:Sy:=(.pr J6 (.int .i64))
abbrev uP:Type:=((AEU)×(Int))
abbrev aX:Sy:=(.pr .str (.pr (.int .i64) (.pr (.int .i64) (.pr .str (.pr .str (.pr (.int .i64) (.pr cD (.pr .str (.pr (.int .i64) (.pr (.int .i64) (.pr J6 cV)))))))))))
abbrev bL:Type:=((ByteArray)×((Int)×((Int)×((ByteArray)×((ByteArray)×((Int)×((eL)×((ByteArray)×((Int)×((Int)×((AEU)×(uP))))))))))))
abbrev bW:Sy:=(.pr .str (.pr .str (.pr .str (.pr (.int .i64) (.pr (.int .i64) (.int .i64))))))
abbrev o5:Type:=((ByteArray)×((ByteArray)×((ByteArray)×((Int)×((Int)×(Int))))))
abbrev aR:Sy:=(.pr .str (.pr .str (.pr (.li .str) (.pr (.int .i64) (.li .str)))))
abbrev cB:Type:=((ByteArray)×((ByteArray)×((List (ByteArray))×((Int)×(List (ByteArray))))))
abbrev b6:Sy:=(.pr (.int .i64) (.pr .str .str))
abbrev n7:Type:=((Int)×((ByteArray)×(ByteArray)))
abbrev aM:Sy:=(.pr .str (.pr (.li bH) (.pr (.li aX) (.pr (.li bW) (.pr (.li aR) (.li b6))))))
abbrev aF:Type:=((ByteArray)×((List (gU))×((List (bL))×((List (o5))×((List (cB))×(List (n7)))))))
abbrev bD:Sy:=(.pr .str (.pr (.int .i64) (.pr (.int .i64) (.li (.int .i64)))))
abbrev cR:Type:=((ByteArray)×((Int)×((Int)×(List (Int)))))
abbrev aZ:Sy:=(.pr .str (.pr (.int .i64) (.pr (.int .i64) (.int .i64))))
abbrev bQ:Type:=((ByteArray)×((Int)×((Int)×(Int))))
abbrev aH:Sy:=(.pr (.li bD) (.li aZ))
abbrev aN:Type:=((List (cR))×(List (bQ)))
end Go.Pv
