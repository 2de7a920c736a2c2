/-
  The symbolic executor, part a: types of rows, and the words in which it speaks.
-/
import Derived.Test.YtepoplfbgaoggaaGreatDoorOnewu
set_option linter.defProp false
set_option linter.unusedSimpArgs false
namespace Go.Pv
open Go Go.RowKit
inductive Sy where
 | int (k:IntKind)
 | bool
 | str
 | any
 | pr (x y:Sy)
 | li (r:Sy)
abbrev Sy.den:Sy->Type
 | .int _=>Int
 | .bool=>Bool
 | .str=>iII
 | .any=>T
 | .pr a b=>a.den×b.den
 | .li r=>List r.den
def Sy.w:Sy->Nat
 | .pr a b=>a.w+b.w
 | _=>1
def Sy.enc:(r:Sy)->r.den->List T
 | .int k,n=>[.v (.int k n)]
 | .bool,x=>[.v (.bool x)]
 | .str,x=>[.v (.string x)]
 | .any,x=>[x]
 | .pr a b,x=>a.enc x.1++b.enc x.2
 | .li r,l=>[.sl false (l.map r.enc)]
def Sy.dV:∀ (r:Sy) (x:r.den),(r.enc x).length=r.w
 | .int _,_=>rfl
 | .bool,_=>rfl
 | .str,_=>rfl
 | .any,_=>rfl
 | .pr a b,x=>by simp only[Sy.enc,List.length_append,Sy.dV a,Sy.dV b,Sy.w]
 | .li _,_=>rfl
def map_inj {α β:Type} {f:α->β} (hf:∀ x y,f x=f y->x=y):∀ {l m:List α},l.map f=m.map f->l=m
 | [],[],_=>rfl
 | [],_::_,h=>by simp at h
 | _::_,[],h=>by simp at h
 | a::l,b::m,h=>by simp only[List.map_cons,List.cons.injEq] at h;rw[hf _ _ h.1,map_inj hf h.2]
def Sy.eU:∀ (r:Sy) (x y:r.den),r.enc x=r.enc y->x=y
 | .int _,x,y,h=>by cases (List.cons.inj h).1;rfl
 | .bool,x,y,h=>by cases (List.cons.inj h).1;rfl
 | .str,x,y,h=>by cases (List.cons.inj h).1;rfl
 | .any,x,y,h=>(List.cons.inj h).1
 | .pr a b,x,y,h=>by
  simp only[Sy.enc] at h;have:=List.append_inj h (by rw[Sy.dV,Sy.dV]);exact Prod.ext (Sy.eU a _ _ this.1) (Sy.eU b _ _ this.2)
 | .li r,x,y,h=>by
  simp only[Sy.enc,List.cons.injEq,T.sl.injEq] at h;exact map_inj (Sy.eU r) h.1.2
def syL:List (Option Sy)->Option Sy
 | []=>none
 | [a]=>a
 | a::l=>match a,syL l with
  | some a,some b=>some (.pr a b)
  | _,_=>none
def syF (P:Program):Nat->TypeId->Option Sy
 | 0,_=>none
 | n+1,t=>match P.underlying t with
  | some (.int k)=>some (.int k)
  | some .bool=>some .bool
  | some .string=>some .str
  | some (.slice e)=>match syF P n e with
   | some r=>some (.li r)
   | none=>some .any
  | some (.struct fs)=>syL (fs.toList.map λf=>syF P n f.type)
  | some (.array m e)=>syL (List.replicate m (syF P n e))
  | some _=>some .any
  | none=>none
def AT9 (P:Program) (t:TypeId):Option Sy:=syF P 12 t
def hdT:List T->T
 | t::_=>t
 | []=>.v undef
def aH (ag:Bool) (r:Sy) (x:r.den):T:=match ag with
 | true=>.agg (r.enc x)
 | false=>hdT (r.enc x)
abbrev Sh:=List (Bool×Sy)
abbrev Sh.den:Sh->Type
 | []=>Unit
 | [a]=>a.2.den
 | a::l=>a.2.den×Sh.den l
def Sh.lD:(s:Sh)->Sh.den s->List T
 | [],_=>[]
 | [a],x=>[aH a.1 a.2 x]
 | a::b::l,x=>aH a.1 a.2 x.1::Sh.lD (b::l) x.2
def Sh.enc (s:Sh) (x:Sh.den s):T:=match s with
 | [a]=>aH a.1 a.2 x
 | s=>.cB (Sh.lD s x)
def shL (P:Program):List TypeId->Option Sh
 | []=>some []
 | t::l=>match EA P t,AT9 P t,shL P l with
  | some ag,some r,some s=>some ((ag,r)::s)
  | _,_,_=>none
structure Combs where
 bad:Nat->Prop
 rows:(r:Sy)->List (List T)->Int->(r.den->Prop)->Prop
 part:(r:Sy)->List (List T)->Nat->Nat->(r.den->Prop)->Prop
 row:List (List T)->Nat->(List T->Prop)->Prop
 dec:(r:Sy)->List (List T)->(List r.den->Prop)->Prop
 call:(s:Sh)->Option T->(Sh.den s->Prop)->Prop
 fresh:(r:Sy)->Option (List (List T))->(List r.den->Prop)->Prop
 PW:Bool->Prop->Prop
 byte:iII->Int->(Int->Prop)->Prop
 find:(kd:TypeDesc)->Value->List (Value×D)->(ag:Bool)->(r:Sy)->Prop->(Nat->r.den->Prop)->Prop
 opt:(α:Type)->Option α->(α->Prop)->Prop
 loop:(S:Type)->((S->Prop)->S->Prop)->S->Prop
 join:(S:Type)->((S->Prop)->Prop)->(S->Prop)->Prop
def aE (b:Bool) (A B:Prop):Prop:=match b with
 | true=>A
 | false=>B
def wN {b:Bool} {A B:Prop}:aE b A B↔(b=true->A)/\(b=false->B):=by cases b<;>simp[aE]
def tD (_:Nat):Prop:=False
def aU (r:Sy) (rows:List (List T)) (i:Int) (K:r.den->Prop):Prop:=∃ y,0<=i/\rows[i.toNat]? = some (r.enc y)/\K y
def kU (r:Sy) (rows:List (List T)) (i o:Nat) (K:r.den->Prop):Prop:=∃ row y,rows[i]? = some row/\o+r.w<=row.length/\(row.drop o).take r.w=r.enc y/\K y
def D6 (rows:List (List T)) (i:Nat) (K:List T->Prop):Prop:=∃ row,rows[i]? = some row/\K row
def lZ (rows:List (List T)):List (List T):=rows.map λr=>r.map (T.canon 0)
def cD (r:Sy) (rows:List (List T)) (K:List r.den->Prop):Prop:=∃ l,lZ rows=l.map r.enc/\K l
def aJ (s:Sh) (a:Option T) (K:Sh.den s->Prop):Prop:=∃ y,a=some (Sh.enc s y)/\K y
def fK (r:Sy) (a:Option (List (List T))) (K:List r.den->Prop):Prop:=∃ l,a=some (l.map r.enc)/\K l
def bO (b:Bool) (K:Prop):Prop:=b=true/\K
def G0 (s:iII) (i:Int) (K:Int->Prop):Prop:=∃ b:UInt8,0<=i/\s.data[i.toNat]? = some b/\K b.toNat
def jC (kd:TypeDesc) (k:Value) (es:List (Value×D)) (ag:Bool) (r:Sy) (A:Prop) (B:Nat->r.den->Prop):Prop :=
 (findD kd k es 0=some none/\A)\/∃ i y,findD kd k es 0=some (some (i,.p (aH ag r y)))/\B i y
def qQ (α:Type) (a:Option α) (K:α->Prop):Prop:=∃ y,a=some y/\K y
def a7 (S:Type) (F:(S->Prop)->S->Prop) (s:S):Prop:=∀ X:S->Prop,(∀ s,F X s->X s)->X s
def tW (S:Type) (A:(S->Prop)->Prop) (K:S->Prop):Prop:=A K
def tE:Combs where
 bad:=tD
 rows:=aU
 part:=kU
 row:=D6
 dec:=cD
 call:=aJ
 fresh:=fK
 PW:=bO
 byte:=G0
 find:=jC
 opt:=qQ
 loop:=a7
 join:=tW
end Go.Pv
