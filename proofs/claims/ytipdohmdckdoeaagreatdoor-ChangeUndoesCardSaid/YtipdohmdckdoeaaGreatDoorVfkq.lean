/-
  Functions of the library that shorten or sort one array of strings of the caller's own, by their contracts.
-/
import Derived.Test.YtipdohmdckdoeaaGreatDoorVfin
import Derived.Test.YtipdohmdckdoeaaGreatDoorVfkl
import Derived.Shelf.SlicesE.DeleteFunc
set_option linter.defProp false
set_option linter.unusedSimpArgs false
set_option linter.unusedVariables false
namespace Go.Pv
open Go Go.RowKit Go.Sort Go.Proofs
def BC6:List T->Option (List UInt8)
 | [.v (.string b)]=>some b.data.toList
 | _=>none
def NF:List (List T)->Option (List (List UInt8))
 | []=>some []
 | r::l=>match BC6 r,NF l with
  | some a,some m=>some (a::m)
  | _,_=>none
def AT3 {r:List T} {a:List UInt8} (h:BC6 r=some a):r=[.v (encStr a)]:=by
 unfold BC6 at h;split at h
 ·cases h;rfl
 ·cases h
def NG:∀ rows l,NF rows=some l->rows=l.map λa=>[.v (encStr a)]
 | [],_,h=>by cases h;rfl
 | r::rs,l,h=>by
  unfold NF at h;split at h
  ·rename_i a m e1 e2;cases h;rw[List.map_cons,<-NG rs m e2,AT3 e1]
  ·cases h
def RT:∀ L:List iII,NF (List.map Sy.str.enc L)=some (L.map λb=>b.data.toList)
 | []=>rfl
 | a::l=>by
  show (match BC6 [T.v (.string a)],NF (List.map Sy.str.enc l) with
   | some a,some m=>some (a::m)
   | _,_=>none)=_
  rw[RT l];rfl
end Go.Pv
