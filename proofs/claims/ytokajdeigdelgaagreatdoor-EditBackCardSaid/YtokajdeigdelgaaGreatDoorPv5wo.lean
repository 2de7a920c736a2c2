/-
  The pure evaluator, part o: how code is walked, one piece at a time; lists that are read.
-/
import Derived.Test.YtokajdeigdelgaaGreatDoorPv5wu
set_option linter.defProp false
set_option linter.unusedSimpArgs false
namespace Go.Pv
open Go Go.RowKit
@[simp] theorem X9 (k:IntKind) (n:Int):T.leaf (.v (.int k n))=true:=rfl
@[simp] theorem YC (s:ByteArray):T.leaf (.v (.string s))=true:=rfl
@[simp] theorem WN (b:Bool):T.leaf (.v (.bool b))=true:=rfl
@[simp] theorem VM (a:Option Addr) (n c:Nat):T.leaf (.v (.slice a n c))=true:=rfl
@[simp] theorem S0 (a:Option Addr):T.leaf (.v (.pointer a))=true:=rfl
@[simp] theorem YA (a:Option Nat):T.leaf (.v (.map a))=true:=rfl
@[simp] theorem SZ:T.leaf (.v .nilFunc)=true:=rfl
@[simp] theorem RH:T.leaf (.v .nilIface)=true:=rfl
@[simp] theorem WO (cs:Array Value):T.leaf (.v (.agg cs))=false:=rfl
@[simp] theorem X5 (cs:List T):T.leaf (.agg cs)=false:=rfl
@[simp] theorem YD (cs:List T):T.leaf (.bB cs)=false:=rfl
@[simp] theorem ZG (f:Bool) (rows:List (List T)):T.leaf (.sl f rows)=true:=rfl
@[simp] theorem ZF (f:Bool):T.leaf (.ne f)=true:=rfl
@[simp] theorem W6 (f:Bool):T.cells (.ne f)=[.ne f]:=rfl
@[simp] theorem YZ (f:Bool):cT (.ne f)=some (f,[]):=rfl
@[simp] theorem YB (cs:List T):T.leaf (.ref cs)=true:=rfl
@[simp] theorem ZE (f:FuncId) (a b:List T):T.leaf (.fn f a b)=true:=rfl
@[simp] theorem WC (k:IntKind) (n:Int):T.cells (.v (.int k n))=[.v (.int k n)]:=rfl
@[simp] theorem WE (s:ByteArray):T.cells (.v (.string s))=[.v (.string s)]:=rfl
@[simp] theorem UY (b:Bool):T.cells (.v (.bool b))=[.v (.bool b)]:=rfl
@[simp] theorem TU (a:Option Addr) (n c:Nat):T.cells (.v (.slice a n c))=[.v (.slice a n c)]:=rfl
@[simp] theorem RG (a:Option Addr):T.cells (.v (.pointer a))=[.v (.pointer a)]:=rfl
@[simp] theorem U0 (a:Option Nat):T.cells (.v (.map a))=[.v (.map a)]:=rfl
@[simp] theorem UZ (cs:Array Value):T.cells (.v (.agg cs))=cs.toList.map .v:=rfl
@[simp] theorem WB (cs:List T):T.cells (.agg cs)=cs:=rfl
@[simp] theorem W7 (f:Bool) (rows:List (List T)):T.cells (.sl f rows)=[.sl f rows]:=rfl
@[simp] theorem WD (cs:List T):T.cells (.ref cs)=[.ref cs]:=rfl
@[simp] theorem W5 (f:FuncId) (a b:List T):T.cells (.fn f a b)=[.fn f a b]:=rfl
@[simp] theorem ZI (k:Nat):((k:Int)<0)↔False:=by simp
@[simp] theorem YF (k:Nat):((k:Int)+1<0)↔False:=by simp;omega
@[simp] theorem Y0 (f:Bool) (rows:List (List T)):cT (.sl f rows)=some (f,rows):=rfl
@[simp] theorem WQ:cT (.v (.slice none 0 0))=some (true,[]):=rfl
theorem eF (n:Int) (h1:-9223372036854775808≤n) (h2:n≤9223372036854775807):IntKind.i64.wrap n=n:=by
 simp only[IntKind.wrap,IntKind.bits,IntKind.signed]
 simp
 omega
end Go.Pv
