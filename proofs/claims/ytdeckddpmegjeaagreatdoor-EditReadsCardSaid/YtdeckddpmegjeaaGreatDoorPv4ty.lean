/-
  Names for the rows of this program's records, printed by a program of mine (gen_ty.py).
-/
import Derived.Test.YtdeckddpmegjeaaGreatDoorPv4kg
set_option linter.defProp false
namespace Go.Pv
open Go
abbrev VJ:Sy:=(.pr .str (.pr (.int .i64) .str))
abbrev QQ:Type:=((ByteArray)×((Int)×(ByteArray)))
abbrev aH:Sy:=(.pr (.int .i64) (.int .i64))
abbrev aV:Type:=((Int)×(Int))
abbrev kP:Sy:=(.pr (.li aH) (.li (.li aH)))
abbrev sU:Type:=((List (aV))×(List (List (aV))))
abbrev VL:Sy:=(.pr (.int .i64) (.pr (.int .i64) (.int .i64)))
abbrev sV:Type:=((Int)×((Int)×(Int)))
abbrev S0:Sy:=(.pr VL (.int .i64))
abbrev RP:Type:=((sV)×(Int))
abbrev gP:Sy:=(.pr .str (.pr (.int .i64) (.pr (.int .i64) (.pr .str (.pr .str (.pr (.int .i64) (.pr kP (.pr .str (.pr (.int .i64) (.pr (.int .i64) (.pr VL S0)))))))))))
abbrev fR:Type:=((ByteArray)×((Int)×((Int)×((ByteArray)×((ByteArray)×((Int)×((sU)×((ByteArray)×((Int)×((Int)×((sV)×(RP))))))))))))
abbrev VK:Sy:=(.pr .str (.pr .str (.pr .str (.pr (.int .i64) (.pr (.int .i64) (.int .i64))))))
abbrev QR:Type:=((ByteArray)×((ByteArray)×((ByteArray)×((Int)×((Int)×(Int))))))
abbrev fO:Sy:=(.pr .str (.pr .str (.pr (.li .str) (.pr (.int .i64) (.li .str)))))
abbrev jQ:Type:=((ByteArray)×((ByteArray)×((List (ByteArray))×((Int)×(List (ByteArray))))))
abbrev VI:Sy:=(.pr (.int .i64) (.pr .str .str))
abbrev QP:Type:=((Int)×((ByteArray)×(ByteArray)))
abbrev eZ:Sy:=(.pr (.int .i64) (.pr .str (.pr .str (.pr VJ (.pr gP (.pr VK (.pr fO VI)))))))
abbrev kQ:Type:=((Int)×((ByteArray)×((ByteArray)×((QQ)×((fR)×((QR)×((jQ)×(QP))))))))
abbrev aC:Sy:=(.pr .str (.int .i64))
abbrev aD:Type:=((ByteArray)×(Int))
abbrev jG:Sy:=aC
abbrev cC:Type:=(aD)
abbrev aA:Sy:=(.pr .str (.pr (.int .i64) (.int .i64)))
abbrev aB:Type:=((ByteArray)×((Int)×(Int)))
end Go.Pv
