/-
  Names for the rows of this program's records, printed by a program of mine (gen_ty.py).
-/
import Derived.Test.YtipdohmdckdoeaaGreatDoorVckg
set_option linter.defProp false
namespace Go.Pv
open Go
abbrev bC:Sy:=(.pr .str (.pr (.int .i64) .str))
abbrev bR:Type:=((iII)×((Int)×(iII)))
abbrev aA:Sy:=(.pr (.int .i64) (.int .i64))
abbrev aX:Type:=((Int)×(Int))
abbrev e8:Sy:=(.pr (.li aA) (.li (.li aA)))
abbrev j6:Type:=((List (aX))×(List (List (aX))))
abbrev AXW:Sy:=(.pr (.int .i64) (.pr (.int .i64) (.int .i64)))
abbrev AS7:Type:=((Int)×((Int)×(Int)))
abbrev fR:Sy:=(.pr AXW (.int .i64))
abbrev EP:Type:=((AS7)×(Int))
abbrev aN:Sy:=(.pr .str (.pr (.int .i64) (.pr (.int .i64) (.pr .str (.pr .str (.pr (.int .i64) (.pr e8 (.pr .str (.pr (.int .i64) (.pr (.int .i64) (.pr AXW fR)))))))))))
abbrev a8:Type:=((iII)×((Int)×((Int)×((iII)×((iII)×((Int)×((j6)×((iII)×((Int)×((Int)×((AS7)×(EP))))))))))))
abbrev bD:Sy:=(.pr .str (.pr .str (.pr .str (.pr (.int .i64) (.pr (.int .i64) (.int .i64))))))
abbrev bU:Type:=((iII)×((iII)×((iII)×((Int)×((Int)×(Int))))))
abbrev aH:Sy:=(.pr .str (.pr .str (.pr (.li .str) (.pr (.int .i64) (.li .str)))))
abbrev aQ:Type:=((iII)×((iII)×((List (iII))×((Int)×(List (iII))))))
abbrev aZ:Sy:=(.pr (.int .i64) (.pr .str .str))
abbrev bI:Type:=((Int)×((iII)×(iII)))
abbrev aM:Sy:=(.pr (.int .i64) (.pr .str (.pr .str (.pr bC (.pr aN (.pr bD (.pr aH aZ)))))))
abbrev aV:Type:=((Int)×((iII)×((iII)×((bR)×((a8)×((bU)×((aQ)×(bI))))))))
abbrev b9:Sy:=(.pr .str (.li aM))
abbrev cN:Type:=((iII)×(List (aV)))
abbrev aD:Sy:=(.pr .str (.pr (.li bC) (.pr (.li aN) (.pr (.li bD) (.pr (.li aH) (.li aZ))))))
abbrev aB:Type:=((iII)×((List (bR))×((List (a8))×((List (bU))×((List (aQ))×(List (bI)))))))
abbrev dO:Sy:=(.pr .str (.pr (.int .i64) (.pr (.int .i64) (.li (.int .i64)))))
abbrev gW:Type:=((iII)×((Int)×((Int)×(List (Int)))))
abbrev b7:Sy:=(.pr .str (.pr (.int .i64) (.pr (.int .i64) (.int .i64))))
abbrev cU:Type:=((iII)×((Int)×((Int)×(Int))))
abbrev aK:Sy:=(.pr (.li dO) (.li b7))
abbrev aI:Type:=((List (gW))×(List (cU)))
abbrev tO:Sy:=(.pr aD (.pr aK (.pr b9 b9)))
abbrev nJ:Type:=((aB)×((aI)×((cN)×(cN))))
abbrev aE:Type:=((iII)×(Int))
abbrev pPP (x:Int):T:=.v (.int .i64 x)
abbrev pPQ (x:ByteArray):T:=.v (.string x)
abbrev pPR (x:Bool):T:=.v (.bool x)
end Go.Pv
