/-
  Names for the rows of this program's records, printed by a program of mine (gen_ty.py).
-/
import Derived.Test.YtcdomkejkfcjlaaGreatDoorPtkg
namespace Go.Pv
open Go
abbrev bE:Sy:=(.pr .str (.pr (.int .i64) .str))
abbrev gT:Type:=((ByteArray)×((Int)×(ByteArray)))
abbrev aA:Sy:=(.pr (.int .i64) (.int .i64))
abbrev aJ:Type:=((Int)×(Int))
abbrev cF:Sy:=(.pr (.li aA) (.li (.li aA)))
abbrev eQ:Type:=((List (aJ))×(List (List (aJ))))
abbrev KJ:Sy:=(.pr (.int .i64) (.pr (.int .i64) (.int .i64)))
abbrev AFH:Type:=((Int)×((Int)×(Int)))
abbrev cW:Sy:=(.pr KJ (.int .i64))
abbrev uL:Type:=((AFH)×(Int))
abbrev aU:Sy:=(.pr .str (.pr (.int .i64) (.pr (.int .i64) (.pr .str (.pr .str (.pr (.int .i64) (.pr cF (.pr .str (.pr (.int .i64) (.pr (.int .i64) (.pr KJ cW)))))))))))
abbrev bM:Type:=((ByteArray)×((Int)×((Int)×((ByteArray)×((ByteArray)×((Int)×((eQ)×((ByteArray)×((Int)×((Int)×((AFH)×(uL))))))))))))
abbrev a6:Sy:=(.pr .str (.pr .str (.pr .str (.pr (.int .i64) (.pr (.int .i64) (.int .i64))))))
abbrev l9:Type:=((ByteArray)×((ByteArray)×((ByteArray)×((Int)×((Int)×(Int))))))
abbrev aP:Sy:=(.pr .str (.pr .str (.pr (.li .str) (.pr (.int .i64) (.li .str)))))
abbrev cC:Type:=((ByteArray)×((ByteArray)×((List (ByteArray))×((Int)×(List (ByteArray))))))
abbrev aQ:Sy:=(.pr (.int .i64) (.pr .str .str))
abbrev fQ:Type:=((Int)×((ByteArray)×(ByteArray)))
abbrev aL:Sy:=(.pr .str (.pr (.li bE) (.pr (.li aU) (.pr (.li a6) (.pr (.li aP) (.li aQ))))))
abbrev aF:Type:=((ByteArray)×((List (gT))×((List (bM))×((List (l9))×((List (cC))×(List (fQ)))))))
abbrev bH:Sy:=(.pr .str (.pr (.int .i64) (.pr (.int .i64) (.li (.int .i64)))))
abbrev cS:Type:=((ByteArray)×((Int)×((Int)×(List (Int)))))
abbrev a7:Sy:=(.pr .str (.pr (.int .i64) (.pr (.int .i64) (.int .i64))))
abbrev bU:Type:=((ByteArray)×((Int)×((Int)×(Int))))
abbrev aE:Sy:=(.pr (.li bH) (.li a7))
abbrev aN:Type:=((List (cS))×(List (bU)))
end Go.Pv
