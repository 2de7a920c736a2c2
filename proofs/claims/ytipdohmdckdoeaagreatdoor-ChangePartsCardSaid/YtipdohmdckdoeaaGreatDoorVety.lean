/-
  Names for the rows of this program's records, printed by a program of mine (gen_ty.py).
-/
import Derived.Test.YtipdohmdckdoeaaGreatDoorVekg
set_option linter.defProp false
namespace Go.Pv
open Go
abbrev bC:Sy:=(.pr .str (.pr (.int .i64) .str))
abbrev bQ:Type:=((iII)×((Int)×(iII)))
abbrev aA:Sy:=(.pr (.int .i64) (.int .i64))
abbrev aU:Type:=((Int)×(Int))
abbrev eK:Sy:=(.pr (.li aA) (.li (.li aA)))
abbrev jL:Type:=((List (aU))×(List (List (aU))))
abbrev AR2:Sy:=(.pr (.int .i64) (.pr (.int .i64) (.int .i64)))
abbrev ANJ:Type:=((Int)×((Int)×(Int)))
abbrev fC:Sy:=(.pr AR2 (.int .i64))
abbrev BL:Type:=((ANJ)×(Int))
abbrev aK:Sy:=(.pr .str (.pr (.int .i64) (.pr (.int .i64) (.pr .str (.pr .str (.pr (.int .i64) (.pr eK (.pr .str (.pr (.int .i64) (.pr (.int .i64) (.pr AR2 fC)))))))))))
abbrev a8:Type:=((iII)×((Int)×((Int)×((iII)×((iII)×((Int)×((jL)×((iII)×((Int)×((Int)×((ANJ)×(BL))))))))))))
abbrev bE:Sy:=(.pr .str (.pr .str (.pr .str (.pr (.int .i64) (.pr (.int .i64) (.int .i64))))))
abbrev bT:Type:=((iII)×((iII)×((iII)×((Int)×((Int)×(Int))))))
abbrev aH:Sy:=(.pr .str (.pr .str (.pr (.li .str) (.pr (.int .i64) (.li .str)))))
abbrev aQ:Type:=((iII)×((iII)×((List (iII))×((Int)×(List (iII))))))
abbrev aZ:Sy:=(.pr (.int .i64) (.pr .str .str))
abbrev bM:Type:=((Int)×((iII)×(iII)))
abbrev aN:Sy:=(.pr (.int .i64) (.pr .str (.pr .str (.pr bC (.pr aK (.pr bE (.pr aH aZ)))))))
abbrev aX:Type:=((Int)×((iII)×((iII)×((bQ)×((a8)×((bT)×((aQ)×(bM))))))))
abbrev dF:Sy:=(.pr .str (.li aN))
abbrev cZ:Type:=((iII)×(List (aX)))
abbrev aD:Sy:=(.pr .str (.pr (.li bC) (.pr (.li aK) (.pr (.li bE) (.pr (.li aH) (.li aZ))))))
abbrev aB:Type:=((iII)×((List (bQ))×((List (a8))×((List (bT))×((List (aQ))×(List (bM)))))))
abbrev dI:Sy:=(.pr .str (.pr (.int .i64) (.pr (.int .i64) (.li (.int .i64)))))
abbrev fY:Type:=((iII)×((Int)×((Int)×(List (Int)))))
abbrev bW:Sy:=(.pr .str (.pr (.int .i64) (.pr (.int .i64) (.int .i64))))
abbrev cL:Type:=((iII)×((Int)×((Int)×(Int))))
abbrev aM:Sy:=(.pr (.li dI) (.li bW))
abbrev aI:Type:=((List (fY))×(List (cL)))
abbrev aE:Type:=((iII)×(Int))
abbrev pPP (x:Int):T:=.v (.int .i64 x)
abbrev pPQ (x:ByteArray):T:=.v (.string x)
abbrev pPR (x:Bool):T:=.v (.bool x)
end Go.Pv
