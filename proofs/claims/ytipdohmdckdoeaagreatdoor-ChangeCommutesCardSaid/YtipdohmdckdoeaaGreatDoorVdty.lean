/-
  Names for the rows of this program's records, printed by a program of mine (gen_ty.py).
-/
import Derived.Test.YtipdohmdckdoeaaGreatDoorVdkg
set_option linter.defProp false
namespace Go.Pv
open Go
abbrev bB:Sy:=(.pr .str (.pr (.int .i64) .str))
abbrev bN:Type:=((iII)×((Int)×(iII)))
abbrev aA:Sy:=(.pr (.int .i64) (.int .i64))
abbrev aR:Type:=((Int)×(Int))
abbrev eP:Sy:=(.pr (.li aA) (.li (.li aA)))
abbrev jQ:Type:=((List (aR))×(List (List (aR))))
abbrev AR0:Sy:=(.pr (.int .i64) (.pr (.int .i64) (.int .i64)))
abbrev ANK:Type:=((Int)×((Int)×(Int)))
abbrev fD:Sy:=(.pr AR0 (.int .i64))
abbrev CL:Type:=((ANK)×(Int))
abbrev aN:Sy:=(.pr .str (.pr (.int .i64) (.pr (.int .i64) (.pr .str (.pr .str (.pr (.int .i64) (.pr eP (.pr .str (.pr (.int .i64) (.pr (.int .i64) (.pr AR0 fD)))))))))))
abbrev a8:Type:=((iII)×((Int)×((Int)×((iII)×((iII)×((Int)×((jQ)×((iII)×((Int)×((Int)×((ANK)×(CL))))))))))))
abbrev bC:Sy:=(.pr .str (.pr .str (.pr .str (.pr (.int .i64) (.pr (.int .i64) (.int .i64))))))
abbrev bS:Type:=((iII)×((iII)×((iII)×((Int)×((Int)×(Int))))))
abbrev aF:Sy:=(.pr .str (.pr .str (.pr (.li .str) (.pr (.int .i64) (.li .str)))))
abbrev aQ:Type:=((iII)×((iII)×((List (iII))×((Int)×(List (iII))))))
abbrev aY:Sy:=(.pr (.int .i64) (.pr .str .str))
abbrev bE:Type:=((Int)×((iII)×(iII)))
abbrev aM:Sy:=(.pr (.int .i64) (.pr .str (.pr .str (.pr bB (.pr aN (.pr bC (.pr aF aY)))))))
abbrev aV:Type:=((Int)×((iII)×((iII)×((bN)×((a8)×((bS)×((aQ)×(bE))))))))
abbrev dB:Sy:=(.pr .str (.li aM))
abbrev dJ:Type:=((iII)×(List (aV)))
abbrev aD:Sy:=(.pr .str (.pr (.li bB) (.pr (.li aN) (.pr (.li bC) (.pr (.li aF) (.li aY))))))
abbrev aB:Type:=((iII)×((List (bN))×((List (a8))×((List (bS))×((List (aQ))×(List (bE)))))))
abbrev dH:Sy:=(.pr .str (.pr (.int .i64) (.pr (.int .i64) (.li (.int .i64)))))
abbrev gE:Type:=((iII)×((Int)×((Int)×(List (Int)))))
abbrev bZ:Sy:=(.pr .str (.pr (.int .i64) (.pr (.int .i64) (.int .i64))))
abbrev cN:Type:=((iII)×((Int)×((Int)×(Int))))
abbrev aK:Sy:=(.pr (.li dH) (.li bZ))
abbrev aI:Type:=((List (gE))×(List (cN)))
abbrev sN:Sy:=(.pr aD (.pr aK (.pr dB dB)))
abbrev mP:Type:=((aB)×((aI)×((dJ)×(dJ))))
abbrev aE:Type:=((iII)×(Int))
abbrev pPP (x:Int):T:=.v (.int .i64 x)
abbrev pPQ (x:ByteArray):T:=.v (.string x)
abbrev pPR (x:Bool):T:=.v (.bool x)
end Go.Pv
