/-
  Names for the rows of this program's records, printed by a program of mine (gen_ty.py).
-/
import Derived.Test.YtipdohmdckdoeaaGreatDoorVfkg
set_option linter.defProp false
namespace Go.Pv
open Go
abbrev bC:Sy:=(.pr .str (.pr (.int .i64) .str))
abbrev fQ:Type:=((iII)×((Int)×(iII)))
abbrev aC:Sy:=(.pr (.int .i64) (.int .i64))
abbrev aU:Type:=((Int)×(Int))
abbrev e8:Sy:=(.pr (.li aC) (.li (.li aC)))
abbrev j0:Type:=((List (aU))×(List (List (aU))))
abbrev AT5:Sy:=(.pr (.int .i64) (.pr (.int .i64) (.int .i64)))
abbrev APU:Type:=((Int)×((Int)×(Int)))
abbrev fO:Sy:=(.pr AT5 (.int .i64))
abbrev B0:Type:=((APU)×(Int))
abbrev aP:Sy:=(.pr .str (.pr (.int .i64) (.pr (.int .i64) (.pr .str (.pr .str (.pr (.int .i64) (.pr e8 (.pr .str (.pr (.int .i64) (.pr (.int .i64) (.pr AT5 fO)))))))))))
abbrev bD:Type:=((iII)×((Int)×((Int)×((iII)×((iII)×((Int)×((j0)×((iII)×((Int)×((Int)×((APU)×(B0))))))))))))
abbrev bI:Sy:=(.pr .str (.pr .str (.pr .str (.pr (.int .i64) (.pr (.int .i64) (.int .i64))))))
abbrev iH:Type:=((iII)×((iII)×((iII)×((Int)×((Int)×(Int))))))
abbrev aH:Sy:=(.pr .str (.pr .str (.pr (.li .str) (.pr (.int .i64) (.li .str)))))
abbrev bA:Type:=((iII)×((iII)×((List (iII))×((Int)×(List (iII))))))
abbrev a7:Sy:=(.pr (.int .i64) (.pr .str .str))
abbrev cM:Type:=((Int)×((iII)×(iII)))
abbrev aJ:Sy:=(.pr (.int .i64) (.pr .str (.pr .str (.pr bC (.pr aP (.pr bI (.pr aH a7)))))))
abbrev aQ:Type:=((Int)×((iII)×((iII)×((fQ)×((bD)×((iH)×((bA)×(cM))))))))
abbrev dN:Sy:=(.pr .str (.li aJ))
abbrev dG:Type:=((iII)×(List (aQ)))
abbrev aB:Sy:=(.pr .str (.pr (.li bC) (.pr (.li aP) (.pr (.li bI) (.pr (.li aH) (.li a7))))))
abbrev aA:Type:=((iII)×((List (fQ))×((List (bD))×((List (iH))×((List (bA))×(List (cM)))))))
abbrev dX:Sy:=(.pr .str (.pr (.int .i64) (.pr (.int .i64) (.li (.int .i64)))))
abbrev gN:Type:=((iII)×((Int)×((Int)×(List (Int)))))
abbrev b9:Sy:=(.pr .str (.pr (.int .i64) (.pr (.int .i64) (.int .i64))))
abbrev cW:Type:=((iII)×((Int)×((Int)×(Int))))
abbrev aI:Sy:=(.pr (.li dX) (.li b9))
abbrev aE:Type:=((List (gN))×(List (cW)))
abbrev aG:Type:=((iII)×(Int))
abbrev pPP (x:Int):T:=.v (.int .i64 x)
abbrev pPQ (x:ByteArray):T:=.v (.string x)
abbrev pPR (x:Bool):T:=.v (.bool x)
end Go.Pv
