/-
  Names for the rows of this program's records, printed by a program of mine (gen_ty.py).
-/
import Derived.Test.YtcdomkejkfcjlaaGreatDoorPskg
namespace Go.Pv
open Go
abbrev bM:Sy:=(.pr .str (.pr (.int .i64) .str))
abbrev cW:Type:=((ByteArray)×((Int)×(ByteArray)))
abbrev aA:Sy:=(.pr (.int .i64) (.int .i64))
abbrev aK:Type:=((Int)×(Int))
abbrev eZ:Sy:=(.pr (.li aA) (.li (.li aA)))
abbrev fN:Type:=((List (aK))×(List (List (aK))))
abbrev Z1:Sy:=(.pr (.int .i64) (.pr (.int .i64) (.int .i64)))
abbrev AF6:Type:=((Int)×((Int)×(Int)))
abbrev qA:Sy:=(.pr Z1 (.int .i64))
abbrev JA:Type:=((AF6)×(Int))
abbrev bB:Sy:=(.pr .str (.pr (.int .i64) (.pr (.int .i64) (.pr .str (.pr .str (.pr (.int .i64) (.pr eZ (.pr .str (.pr (.int .i64) (.pr (.int .i64) (.pr Z1 qA)))))))))))
abbrev bI:Type:=((ByteArray)×((Int)×((Int)×((ByteArray)×((ByteArray)×((Int)×((fN)×((ByteArray)×((Int)×((Int)×((AF6)×(JA))))))))))))
abbrev gN:Sy:=(.pr .str (.pr .str (.pr .str (.pr (.int .i64) (.pr (.int .i64) (.int .i64))))))
abbrev xV:Type:=((ByteArray)×((ByteArray)×((ByteArray)×((Int)×((Int)×(Int))))))
abbrev aX:Sy:=(.pr .str (.pr .str (.pr (.li .str) (.pr (.int .i64) (.li .str)))))
abbrev bZ:Type:=((ByteArray)×((ByteArray)×((List (ByteArray))×((Int)×(List (ByteArray))))))
abbrev fT:Sy:=(.pr (.int .i64) (.pr .str .str))
abbrev qC:Type:=((Int)×((ByteArray)×(ByteArray)))
abbrev aE:Sy:=(.pr .str (.pr (.li bM) (.pr (.li bB) (.pr (.li gN) (.pr (.li aX) (.li fT))))))
abbrev aH:Type:=((ByteArray)×((List (cW))×((List (bI))×((List (xV))×((List (bZ))×(List (qC)))))))
abbrev bS:Sy:=(.pr .str (.pr (.int .i64) (.pr (.int .i64) (.li (.int .i64)))))
abbrev e9:Type:=((ByteArray)×((Int)×((Int)×(List (Int)))))
abbrev b6:Sy:=(.pr .str (.pr (.int .i64) (.pr (.int .i64) (.int .i64))))
abbrev fV:Type:=((ByteArray)×((Int)×((Int)×(Int))))
abbrev aL:Sy:=(.pr (.li bS) (.li b6))
abbrev aM:Type:=((List (e9))×(List (fV)))
end Go.Pv
