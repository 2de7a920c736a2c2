/-
  Names for the rows of this program's records, printed by a program of mine (gen_ty.py).
-/
import Derived.Test.YtdeckddpmegjeaaGreatDoorPv3kg
set_option linter.defProp false
namespace Go.Pv
open Go
abbrev a6:Sy:=(.pr .str (.pr (.int .i64) .str))
abbrev bE:Type:=((ByteArray)×((Int)×(ByteArray)))
abbrev aA:Sy:=(.pr (.int .i64) (.int .i64))
abbrev aP:Type:=((Int)×(Int))
abbrev dZ:Sy:=(.pr (.li aA) (.li (.li aA)))
abbrev jA:Type:=((List (aP))×(List (List (aP))))
abbrev APC:Sy:=(.pr (.int .i64) (.pr (.int .i64) (.int .i64)))
abbrev ALB:Type:=((Int)×((Int)×(Int)))
abbrev eQ:Sy:=(.pr APC (.int .i64))
abbrev AD:Type:=((ALB)×(Int))
abbrev aM:Sy:=(.pr .str (.pr (.int .i64) (.pr (.int .i64) (.pr .str (.pr .str (.pr (.int .i64) (.pr dZ (.pr .str (.pr (.int .i64) (.pr (.int .i64) (.pr APC eQ)))))))))))
abbrev aV:Type:=((ByteArray)×((Int)×((Int)×((ByteArray)×((ByteArray)×((Int)×((jA)×((ByteArray)×((Int)×((Int)×((ALB)×(AD))))))))))))
abbrev a7:Sy:=(.pr .str (.pr .str (.pr .str (.pr (.int .i64) (.pr (.int .i64) (.int .i64))))))
abbrev bI:Type:=((ByteArray)×((ByteArray)×((ByteArray)×((Int)×((Int)×(Int))))))
abbrev aF:Sy:=(.pr .str (.pr .str (.pr (.li .str) (.pr (.int .i64) (.li .str)))))
abbrev aL:Type:=((ByteArray)×((ByteArray)×((List (ByteArray))×((Int)×(List (ByteArray))))))
abbrev aS:Sy:=(.pr (.int .i64) (.pr .str .str))
abbrev a8:Type:=((Int)×((ByteArray)×(ByteArray)))
abbrev aE:Sy:=(.pr .str (.pr (.li a6) (.pr (.li aM) (.pr (.li a7) (.pr (.li aF) (.li aS))))))
abbrev aB:Type:=((ByteArray)×((List (bE))×((List (aV))×((List (bI))×((List (aL))×(List (a8)))))))
abbrev dD:Sy:=(.pr .str (.pr (.int .i64) (.pr (.int .i64) (.li (.int .i64)))))
abbrev fM:Type:=((ByteArray)×((Int)×((Int)×(List (Int)))))
abbrev bT:Sy:=(.pr .str (.pr (.int .i64) (.pr (.int .i64) (.int .i64))))
abbrev cJ:Type:=((ByteArray)×((Int)×((Int)×(Int))))
abbrev aK:Sy:=(.pr (.li dD) (.li bT))
abbrev aH:Type:=((List (fM))×(List (cJ)))
abbrev aQ:Sy:=(.pr (.int .i64) (.pr .str (.pr .str (.pr a6 (.pr aM (.pr a7 (.pr aF aS)))))))
abbrev aX:Type:=((Int)×((ByteArray)×((ByteArray)×((bE)×((aV)×((bI)×((aL)×(a8))))))))
abbrev rD:Sy:=(.pr aK (.pr aQ aQ))
abbrev jE:Type:=((aH)×((aX)×(aX)))
abbrev aD:Type:=((ByteArray)×(Int))
end Go.Pv
