/-
  Functions of the library that shorten or sort one array of strings of the caller's own, by their contracts.
-/
import Derived.Test.YtipdohmdckdoeaaGreatDoorVein
import Derived.Test.YtipdohmdckdoeaaGreatDoorVekl
import Derived.Shelf.SlicesE.DeleteFunc
set_option linter.defProp false
set_option linter.unusedSimpArgs false
set_option linter.unusedVariables false
namespace Go.Pv
open Go Go.RowKit Go.Sort Go.Proofs
def A8W:List T->Option (List UInt8)
 | [.v (.string b)]=>some b.data.toList
 | _=>none
def MM:List (List T)->Option (List (List UInt8))
 | []=>some []
 | r::l=>match A8W r,MM l with
  | some a,some m=>some (a::m)
  | _,_=>none
def ARY {r:List T} {a:List UInt8} (h:A8W r=some a):r=[.v (encStr a)]:=by
 unfold A8W at h;split at h
 ·cases h;rfl
 ·cases h
def MN:∀ rows l,MM rows=some l->rows=l.map λa=>[.v (encStr a)]
 | [],_,h=>by cases h;rfl
 | r::rs,l,h=>by
  unfold MM at h;split at h
  ·rename_i a m e1 e2;cases h;rw[List.map_cons,<-MN rs m e2,ARY e1]
  ·cases h
def Q5:∀ L:List iII,MM (List.map Sy.str.enc L)=some (L.map λb=>b.data.toList)
 | []=>rfl
 | a::l=>by
  show (match A8W [T.v (.string a)],MM (List.map Sy.str.enc l) with
   | some a,some m=>some (a::m)
   | _,_=>none)=_
  rw[Q5 l];rfl
end Go.Pv
