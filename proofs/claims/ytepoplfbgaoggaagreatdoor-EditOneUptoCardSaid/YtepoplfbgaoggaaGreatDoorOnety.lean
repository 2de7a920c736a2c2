/-
  Names for the rows of this program's records, printed by a program of mine (gen_ty.py).
-/
import Derived.Test.YtepoplfbgaoggaaGreatDoorOnekg
set_option linter.defProp false
namespace Go.Pv
open Go
abbrev bC:Sy:=(.pr .str (.pr (.int .i64) .str))
abbrev eH:Type:=((iII)×((Int)×(iII)))
abbrev aC:Sy:=(.pr (.int .i64) (.int .i64))
abbrev aN:Type:=((Int)×(Int))
abbrev dG:Sy:=(.pr (.li aC) (.li (.li aC)))
abbrev eM:Type:=((List (aN))×(List (List (aN))))
abbrev YV:Sy:=(.pr (.int .i64) (.pr (.int .i64) (.int .i64)))
abbrev ACE:Type:=((Int)×((Int)×(Int)))
abbrev eO:Sy:=(.pr YV (.int .i64))
abbrev uN:Type:=((ACE)×(Int))
abbrev aS:Sy:=(.pr .str (.pr (.int .i64) (.pr (.int .i64) (.pr .str (.pr .str (.pr (.int .i64) (.pr dG (.pr .str (.pr (.int .i64) (.pr (.int .i64) (.pr YV eO)))))))))))
abbrev bG:Type:=((iII)×((Int)×((Int)×((iII)×((iII)×((Int)×((eM)×((iII)×((Int)×((Int)×((ACE)×(uN))))))))))))
abbrev bI:Sy:=(.pr .str (.pr .str (.pr .str (.pr (.int .i64) (.pr (.int .i64) (.int .i64))))))
abbrev gE:Type:=((iII)×((iII)×((iII)×((Int)×((Int)×(Int))))))
abbrev aK:Sy:=(.pr .str (.pr .str (.pr (.li .str) (.pr (.int .i64) (.li .str)))))
abbrev bE:Type:=((iII)×((iII)×((List (iII))×((Int)×(List (iII))))))
abbrev a6:Sy:=(.pr (.int .i64) (.pr .str .str))
abbrev cP:Type:=((Int)×((iII)×(iII)))
abbrev aF:Sy:=(.pr .str (.pr (.li bC) (.pr (.li aS) (.pr (.li bI) (.pr (.li aK) (.li a6))))))
abbrev aG:Type:=((iII)×((List (eH))×((List (bG))×((List (gE))×((List (bE))×(List (cP)))))))
abbrev bX:Sy:=(.pr .str (.pr (.int .i64) (.pr (.int .i64) (.li (.int .i64)))))
abbrev dH:Type:=((iII)×((Int)×((Int)×(List (Int)))))
abbrev bN:Sy:=(.pr .str (.pr (.int .i64) (.pr (.int .i64) (.int .i64))))
abbrev cH:Type:=((iII)×((Int)×((Int)×(Int))))
abbrev aO:Sy:=(.pr (.li bX) (.li bN))
abbrev aL:Type:=((List (dH))×(List (cH)))
abbrev aW:Sy:=(.pr (.int .i64) (.pr .str (.pr .str (.pr bC (.pr aS (.pr bI (.pr aK a6)))))))
abbrev bD:Type:=((Int)×((iII)×((iII)×((eH)×((bG)×((gE)×((bE)×(cP))))))))
abbrev aI:Type:=((iII)×(Int))
abbrev pPP (x:Int):T:=.v (.int .i64 x)
abbrev pPQ (x:ByteArray):T:=.v (.string x)
abbrev pPR (x:Bool):T:=.v (.bool x)
end Go.Pv
