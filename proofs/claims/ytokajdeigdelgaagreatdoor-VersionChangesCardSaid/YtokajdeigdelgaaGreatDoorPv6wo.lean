/-
  The pure evaluator, part o: how code is walked, one piece at a time; lists that are read.
-/
import Derived.Test.YtokajdeigdelgaaGreatDoorPv6wu
set_option linter.defProp false
set_option linter.unusedSimpArgs false
namespace Go.Pv
open Go Go.RowKit
@[simp] theorem S9 (k:IntKind) (n:Int):T.leaf (.v (.int k n))=true:=rfl
@[simp] theorem TC (s:ByteArray):T.leaf (.v (.string s))=true:=rfl
@[simp] theorem SA (b:Bool):T.leaf (.v (.bool b))=true:=rfl
@[simp] theorem Q7 (a:Option Addr) (n c:Nat):T.leaf (.v (.slice a n c))=true:=rfl
@[simp] theorem OD (a:Option Addr):T.leaf (.v (.pointer a))=true:=rfl
@[simp] theorem TA (a:Option Nat):T.leaf (.v (.map a))=true:=rfl
@[simp] theorem OC:T.leaf (.v .nilFunc)=true:=rfl
@[simp] theorem MZ:T.leaf (.v .nilIface)=true:=rfl
@[simp] theorem SB (cs:Array Value):T.leaf (.v (.agg cs))=false:=rfl
@[simp] theorem S8 (cs:List T):T.leaf (.agg cs)=false:=rfl
@[simp] theorem TD (cs:List T):T.leaf (.cB cs)=false:=rfl
@[simp] theorem T3 (f:Bool) (rows:List (List T)):T.leaf (.sl f rows)=true:=rfl
@[simp] theorem T2 (f:Bool):T.leaf (.ne f)=true:=rfl
@[simp] theorem SW (f:Bool):T.cells (.ne f)=[.ne f]:=rfl
@[simp] theorem TQ (f:Bool):cF (.ne f)=some (f,[]):=rfl
@[simp] theorem TB (cs:List T):T.leaf (.ref cs)=true:=rfl
@[simp] theorem T1 (f:FuncId) (a b:List T):T.leaf (.fn f a b)=true:=rfl
@[simp] theorem RZ (k:IntKind) (n:Int):T.cells (.v (.int k n))=[.v (.int k n)]:=rfl
@[simp] theorem R1 (s:ByteArray):T.cells (.v (.string s))=[.v (.string s)]:=rfl
@[simp] theorem QK (b:Bool):T.cells (.v (.bool b))=[.v (.bool b)]:=rfl
@[simp] theorem PA (a:Option Addr) (n c:Nat):T.cells (.v (.slice a n c))=[.v (.slice a n c)]:=rfl
@[simp] theorem MY (a:Option Addr):T.cells (.v (.pointer a))=[.v (.pointer a)]:=rfl
@[simp] theorem QM (a:Option Nat):T.cells (.v (.map a))=[.v (.map a)]:=rfl
@[simp] theorem QL (cs:Array Value):T.cells (.v (.agg cs))=cs.toList.map .v:=rfl
@[simp] theorem RY (cs:List T):T.cells (.agg cs)=cs:=rfl
@[simp] theorem SX (f:Bool) (rows:List (List T)):T.cells (.sl f rows)=[.sl f rows]:=rfl
@[simp] theorem R0 (cs:List T):T.cells (.ref cs)=[.ref cs]:=rfl
@[simp] theorem SV (f:FuncId) (a b:List T):T.cells (.fn f a b)=[.fn f a b]:=rfl
@[simp] theorem T5 (k:Nat):((k:Int)<0)↔False:=by simp
@[simp] theorem TG (k:Nat):((k:Int)+1<0)↔False:=by simp;omega
@[simp] theorem TR (f:Bool) (rows:List (List T)):cF (.sl f rows)=some (f,rows):=rfl
@[simp] theorem SC:cF (.v (.slice none 0 0))=some (true,[]):=rfl
theorem fS (n:Int) (h1:-9223372036854775808≤n) (h2:n≤9223372036854775807):IntKind.i64.wrap n=n:=by
 simp only[IntKind.wrap,IntKind.bits,IntKind.signed]
 simp
 omega
end Go.Pv
