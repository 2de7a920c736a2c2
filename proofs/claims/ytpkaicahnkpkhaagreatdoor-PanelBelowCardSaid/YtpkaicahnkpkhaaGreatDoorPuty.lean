/-
  Names for the rows of this program's records, printed by a program of mine (gen_ty.py).
-/
import Derived.Test.YtpkaicahnkpkhaaGreatDoorPukg
namespace Go.Pv
open Go
abbrev bM:Sy:=(.pr .str (.pr (.int .i64) .str))
abbrev jW:Type:=((ByteArray)×((Int)×(ByteArray)))
abbrev aA:Sy:=(.pr (.int .i64) (.int .i64))
abbrev aK:Type:=((Int)×(Int))
abbrev eE:Sy:=(.pr (.li aA) (.li (.li aA)))
abbrev fW:Type:=((List (aK))×(List (List (aK))))
abbrev ABN:Sy:=(.pr (.int .i64) (.pr (.int .i64) (.int .i64)))
abbrev AEL:Type:=((Int)×((Int)×(Int)))
abbrev dF:Sy:=(.pr ABN (.int .i64))
abbrev vK:Type:=((AEL)×(Int))
abbrev aQ:Sy:=(.pr .str (.pr (.int .i64) (.pr (.int .i64) (.pr .str (.pr .str (.pr (.int .i64) (.pr eE (.pr .str (.pr (.int .i64) (.pr (.int .i64) (.pr ABN dF)))))))))))
abbrev bE:Type:=((ByteArray)×((Int)×((Int)×((ByteArray)×((ByteArray)×((Int)×((fW)×((ByteArray)×((Int)×((Int)×((AEL)×(vK))))))))))))
abbrev bT:Sy:=(.pr .str (.pr .str (.pr .str (.pr (.int .i64) (.pr (.int .i64) (.int .i64))))))
abbrev cN:Type:=((ByteArray)×((ByteArray)×((ByteArray)×((Int)×((Int)×(Int))))))
abbrev aW:Sy:=(.pr .str (.pr .str (.pr (.li .str) (.pr (.int .i64) (.li .str)))))
abbrev eP:Type:=((ByteArray)×((ByteArray)×((List (ByteArray))×((Int)×(List (ByteArray))))))
abbrev cO:Sy:=(.pr (.int .i64) (.pr .str .str))
abbrev w6:Type:=((Int)×((ByteArray)×(ByteArray)))
abbrev aN:Sy:=(.pr .str (.pr (.li bM) (.pr (.li aQ) (.pr (.li bT) (.pr (.li aW) (.li cO))))))
abbrev aC:Type:=((ByteArray)×((List (jW))×((List (bE))×((List (cN))×((List (eP))×(List (w6)))))))
abbrev bR:Sy:=(.pr .str (.pr (.int .i64) (.pr (.int .i64) (.li (.int .i64)))))
abbrev dI:Type:=((ByteArray)×((Int)×((Int)×(List (Int)))))
abbrev aR:Sy:=(.pr .str (.pr (.int .i64) (.pr (.int .i64) (.int .i64))))
abbrev bQ:Type:=((ByteArray)×((Int)×((Int)×(Int))))
abbrev aI:Sy:=(.pr (.li bR) (.li aR))
abbrev aL:Type:=((List (dI))×(List (bQ)))
abbrev J3:Sy:=(.pr .str (.pr (.int .i64) (.pr (.int .i64) (.pr (.int .i64) (.pr (.int .i64) (.int .i64))))))
abbrev jA:Type:=((ByteArray)×((Int)×((Int)×((Int)×((Int)×(Int))))))
end Go.Pv
