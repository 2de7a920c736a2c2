/-
  Names for the rows of this program's records, printed by a program of mine (gen_ty.py).
-/
import Derived.Test.YtcnfagefgkblkaaGreatDoorVskg
set_option linter.defProp false
namespace Go.Pv
open Go
abbrev aV:Sy:=(.pr .str (.pr (.int .i64) .str))
abbrev dC:Type:=((ByteArray)×((Int)×(ByteArray)))
abbrev aA:Sy:=(.pr (.int .i64) (.int .i64))
abbrev aO:Type:=((Int)×(Int))
abbrev gW:Sy:=(.pr (.li aA) (.li (.li aA)))
abbrev lL:Type:=((List (aO))×(List (List (aO))))
abbrev AO9:Sy:=(.pr (.int .i64) (.pr (.int .i64) (.int .i64)))
abbrev ALD:Type:=((Int)×((Int)×(Int)))
abbrev eT:Sy:=(.pr AO9 (.int .i64))
abbrev zQ:Type:=((ALD)×(Int))
abbrev aK:Sy:=(.pr .str (.pr (.int .i64) (.pr (.int .i64) (.pr .str (.pr .str (.pr (.int .i64) (.pr gW (.pr .str (.pr (.int .i64) (.pr (.int .i64) (.pr AO9 eT)))))))))))
abbrev a8:Type:=((ByteArray)×((Int)×((Int)×((ByteArray)×((ByteArray)×((Int)×((lL)×((ByteArray)×((Int)×((Int)×((ALD)×(zQ))))))))))))
abbrev aY:Sy:=(.pr .str (.pr .str (.pr .str (.pr (.int .i64) (.pr (.int .i64) (.int .i64))))))
abbrev dJ:Type:=((ByteArray)×((ByteArray)×((ByteArray)×((Int)×((Int)×(Int))))))
abbrev aE:Sy:=(.pr .str (.pr .str (.pr (.li .str) (.pr (.int .i64) (.li .str)))))
abbrev aW:Type:=((ByteArray)×((ByteArray)×((List (ByteArray))×((Int)×(List (ByteArray))))))
abbrev aP:Sy:=(.pr (.int .i64) (.pr .str .str))
abbrev b8:Type:=((Int)×((ByteArray)×(ByteArray)))
abbrev aC:Sy:=(.pr .str (.pr (.li aV) (.pr (.li aK) (.pr (.li aY) (.pr (.li aE) (.li aP))))))
abbrev aB:Type:=((ByteArray)×((List (dC))×((List (a8))×((List (dJ))×((List (aW))×(List (b8)))))))
abbrev bQ:Sy:=(.pr .str (.pr (.int .i64) (.pr (.int .i64) (.li (.int .i64)))))
abbrev cR:Type:=((ByteArray)×((Int)×((Int)×(List (Int)))))
abbrev bH:Sy:=(.pr .str (.pr (.int .i64) (.pr (.int .i64) (.int .i64))))
abbrev cA:Type:=((ByteArray)×((Int)×((Int)×(Int))))
abbrev aJ:Sy:=(.pr (.li bQ) (.li bH))
abbrev aH:Type:=((List (cR))×(List (cA)))
abbrev aM:Sy:=(.pr (.int .i64) (.pr .str (.pr .str (.pr aV (.pr aK (.pr aY (.pr aE aP)))))))
abbrev aZ:Type:=((Int)×((ByteArray)×((ByteArray)×((dC)×((a8)×((dJ)×((aW)×(b8))))))))
abbrev bA:Sy:=(.pr .str (.li aM))
abbrev cG:Type:=((ByteArray)×(List (aZ)))
abbrev o4:Type:=((T)×((T)×((T)×((T)×(T)))))
end Go.Pv
