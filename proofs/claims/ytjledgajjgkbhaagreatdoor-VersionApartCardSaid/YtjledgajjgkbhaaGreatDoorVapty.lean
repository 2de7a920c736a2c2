/-
  Names for the rows of this program's records, printed by a program of mine (gen_ty.py).
-/
import Derived.Test.YtjledgajjgkbhaaGreatDoorVapkg
set_option linter.defProp false
namespace Go.Pv
open Go
abbrev aW:Sy:=(.pr .str (.pr (.int .i64) .str))
abbrev dL:Type:=((ByteArray)×((Int)×(ByteArray)))
abbrev aA:Sy:=(.pr (.int .i64) (.int .i64))
abbrev aO:Type:=((Int)×(Int))
abbrev eR:Sy:=(.pr (.li aA) (.li (.li aA)))
abbrev jQ:Type:=((List (aO))×(List (List (aO))))
abbrev ASY:Sy:=(.pr (.int .i64) (.pr (.int .i64) (.int .i64)))
abbrev AO4:Type:=((Int)×((Int)×(Int)))
abbrev fD:Sy:=(.pr ASY (.int .i64))
abbrev B2:Type:=((AO4)×(Int))
abbrev aJ:Sy:=(.pr .str (.pr (.int .i64) (.pr (.int .i64) (.pr .str (.pr .str (.pr (.int .i64) (.pr eR (.pr .str (.pr (.int .i64) (.pr (.int .i64) (.pr ASY fD)))))))))))
abbrev bC:Type:=((ByteArray)×((Int)×((Int)×((ByteArray)×((ByteArray)×((Int)×((jQ)×((ByteArray)×((Int)×((Int)×((AO4)×(B2))))))))))))
abbrev aY:Sy:=(.pr .str (.pr .str (.pr .str (.pr (.int .i64) (.pr (.int .i64) (.int .i64))))))
abbrev eB:Type:=((ByteArray)×((ByteArray)×((ByteArray)×((Int)×((Int)×(Int))))))
abbrev aE:Sy:=(.pr .str (.pr .str (.pr (.li .str) (.pr (.int .i64) (.li .str)))))
abbrev aV:Type:=((ByteArray)×((ByteArray)×((List (ByteArray))×((Int)×(List (ByteArray))))))
abbrev aR:Sy:=(.pr (.int .i64) (.pr .str .str))
abbrev cX:Type:=((Int)×((ByteArray)×(ByteArray)))
abbrev aB:Sy:=(.pr .str (.pr (.li aW) (.pr (.li aJ) (.pr (.li aY) (.pr (.li aE) (.li aR))))))
abbrev aC:Type:=((ByteArray)×((List (dL))×((List (bC))×((List (eB))×((List (aV))×(List (cX)))))))
abbrev bN:Sy:=(.pr .str (.pr (.int .i64) (.pr (.int .i64) (.li (.int .i64)))))
abbrev cR:Type:=((ByteArray)×((Int)×((Int)×(List (Int)))))
abbrev bD:Sy:=(.pr .str (.pr (.int .i64) (.pr (.int .i64) (.int .i64))))
abbrev cG:Type:=((ByteArray)×((Int)×((Int)×(Int))))
abbrev aK:Sy:=(.pr (.li bN) (.li bD))
abbrev aH:Type:=((List (cR))×(List (cG)))
abbrev aM:Sy:=(.pr (.int .i64) (.pr .str (.pr .str (.pr aW (.pr aJ (.pr aY (.pr aE aR)))))))
abbrev aX:Type:=((Int)×((ByteArray)×((ByteArray)×((dL)×((bC)×((eB)×((aV)×(cX))))))))
abbrev bA:Sy:=(.pr .str (.li aM))
abbrev bT:Type:=((ByteArray)×(List (aX)))
abbrev gK:Sy:=(.pr aK (.pr aB (.pr (.li bA) aB)))
abbrev fW:Type:=((aH)×((aC)×((List (bT))×(aC))))
abbrev iJ:Type:=((T)×((T)×((T)×((T)×(T)))))
end Go.Pv
