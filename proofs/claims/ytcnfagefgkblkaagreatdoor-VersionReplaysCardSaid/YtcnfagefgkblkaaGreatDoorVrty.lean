/-
  Names for the rows of this program's records, printed by a program of mine (gen_ty.py).
-/
import Derived.Test.YtcnfagefgkblkaaGreatDoorVrkg
set_option linter.defProp false
namespace Go.Pv
open Go
abbrev aS:Sy:=(.pr .str (.pr (.int .i64) .str))
abbrev cH:Type:=((iII)×((Int)×(iII)))
abbrev aA:Sy:=(.pr (.int .i64) (.int .i64))
abbrev aO:Type:=((Int)×(Int))
abbrev eW:Sy:=(.pr (.li aA) (.li (.li aA)))
abbrev jP:Type:=((List (aO))×(List (List (aO))))
abbrev AXO:Sy:=(.pr (.int .i64) (.pr (.int .i64) (.int .i64)))
abbrev ASW:Type:=((Int)×((Int)×(Int)))
abbrev fM:Sy:=(.pr AXO (.int .i64))
abbrev DC:Type:=((ASW)×(Int))
abbrev aJ:Sy:=(.pr .str (.pr (.int .i64) (.pr (.int .i64) (.pr .str (.pr .str (.pr (.int .i64) (.pr eW (.pr .str (.pr (.int .i64) (.pr (.int .i64) (.pr AXO fM)))))))))))
abbrev bB:Type:=((iII)×((Int)×((Int)×((iII)×((iII)×((Int)×((jP)×((iII)×((Int)×((Int)×((ASW)×(DC))))))))))))
abbrev aV:Sy:=(.pr .str (.pr .str (.pr .str (.pr (.int .i64) (.pr (.int .i64) (.int .i64))))))
abbrev cJ:Type:=((iII)×((iII)×((iII)×((Int)×((Int)×(Int))))))
abbrev aE:Sy:=(.pr .str (.pr .str (.pr (.li .str) (.pr (.int .i64) (.li .str)))))
abbrev aT:Type:=((iII)×((iII)×((List (iII))×((Int)×(List (iII))))))
abbrev aW:Sy:=(.pr (.int .i64) (.pr .str .str))
abbrev cQ:Type:=((Int)×((iII)×(iII)))
abbrev aC:Sy:=(.pr .str (.pr (.li aS) (.pr (.li aJ) (.pr (.li aV) (.pr (.li aE) (.li aW))))))
abbrev aB:Type:=((iII)×((List (cH))×((List (bB))×((List (cJ))×((List (aT))×(List (cQ)))))))
abbrev bM:Sy:=(.pr .str (.pr (.int .i64) (.pr (.int .i64) (.li (.int .i64)))))
abbrev cT:Type:=((iII)×((Int)×((Int)×(List (Int)))))
abbrev bG:Sy:=(.pr .str (.pr (.int .i64) (.pr (.int .i64) (.int .i64))))
abbrev cA:Type:=((iII)×((Int)×((Int)×(Int))))
abbrev aK:Sy:=(.pr (.li bM) (.li bG))
abbrev aG:Type:=((List (cT))×(List (cA)))
abbrev aN:Sy:=(.pr (.int .i64) (.pr .str (.pr .str (.pr aS (.pr aJ (.pr aV (.pr aE aW)))))))
abbrev aZ:Type:=((Int)×((iII)×((iII)×((cH)×((bB)×((cJ)×((aT)×(cQ))))))))
abbrev a6:Sy:=(.pr .str (.li aN))
abbrev bK:Type:=((iII)×(List (aZ)))
abbrev bU:Sy:=(.pr aK (.pr aC (.pr (.li a6) aC)))
abbrev cP:Type:=((aG)×((aB)×((List (bK))×(aB))))
abbrev qO:Type:=((T)×((T)×((T)×((T)×(T)))))
abbrev pPP (x:Int):T:=.v (.int .i64 x)
abbrev pPQ (x:ByteArray):T:=.v (.string x)
abbrev pPR (x:Bool):T:=.v (.bool x)
end Go.Pv
