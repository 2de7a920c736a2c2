/-
  The pure evaluator, part o: how code is walked, one piece at a time; lists that are read.
-/
import Derived.Test.YtlongjgklndggaaGreatDoorVbwu
set_option linter.defProp false
set_option linter.unusedSimpArgs false
namespace Go.Pv
open Go Go.RowKit
@[simp] theorem TF (k:IntKind) (n:Int):T.leaf (.v (.int k n))=true:=rfl
@[simp] theorem TI (s:ByteArray):T.leaf (.v (.string s))=true:=rfl
@[simp] theorem SF (b:Bool):T.leaf (.v (.bool b))=true:=rfl
@[simp] theorem Q9 (a:Option Addr) (n c:Nat):T.leaf (.v (.slice a n c))=true:=rfl
@[simp] theorem N3 (a:Option Addr):T.leaf (.v (.pointer a))=true:=rfl
@[simp] theorem TG (a:Option Nat):T.leaf (.v (.map a))=true:=rfl
@[simp] theorem N2:T.leaf (.v .nilFunc)=true:=rfl
@[simp] theorem MK:T.leaf (.v .nilIface)=true:=rfl
@[simp] theorem SG (cs:Array Value):T.leaf (.v (.agg cs))=false:=rfl
@[simp] theorem TE (cs:List T):T.leaf (.agg cs)=false:=rfl
@[simp] theorem TJ (cs:List T):T.leaf (.aR cs)=false:=rfl
@[simp] theorem T2 (f:Bool) (rows:List (List T)):T.leaf (.sl f rows)=true:=rfl
@[simp] theorem T1 (f:Bool):T.leaf (.ne f)=true:=rfl
@[simp] theorem S0 (f:Bool):T.cells (.ne f)=[.ne f]:=rfl
@[simp] theorem TQ (f:Bool):bT (.ne f)=some (f,[]):=rfl
@[simp] theorem TH (cs:List T):T.leaf (.ref cs)=true:=rfl
@[simp] theorem T0 (f:FuncId) (a b:List T):T.leaf (.fn f a b)=true:=rfl
@[simp] theorem R5 (k:IntKind) (n:Int):T.cells (.v (.int k n))=[.v (.int k n)]:=rfl
@[simp] theorem R7 (s:ByteArray):T.cells (.v (.string s))=[.v (.string s)]:=rfl
@[simp] theorem QL (b:Bool):T.cells (.v (.bool b))=[.v (.bool b)]:=rfl
@[simp] theorem O5 (a:Option Addr) (n c:Nat):T.cells (.v (.slice a n c))=[.v (.slice a n c)]:=rfl
@[simp] theorem MI (a:Option Addr):T.cells (.v (.pointer a))=[.v (.pointer a)]:=rfl
@[simp] theorem QN (a:Option Nat):T.cells (.v (.map a))=[.v (.map a)]:=rfl
@[simp] theorem QM (cs:Array Value):T.cells (.v (.agg cs))=cs.toList.map .v:=rfl
@[simp] theorem R4 (cs:List T):T.cells (.agg cs)=cs:=rfl
@[simp] theorem S1 (f:Bool) (rows:List (List T)):T.cells (.sl f rows)=[.sl f rows]:=rfl
@[simp] theorem R6 (cs:List T):T.cells (.ref cs)=[.ref cs]:=rfl
@[simp] theorem SZ (f:FuncId) (a b:List T):T.cells (.fn f a b)=[.fn f a b]:=rfl
@[simp] theorem T4 (k:Nat):((k:Int)<0)↔False:=by simp
@[simp] theorem TL (k:Nat):((k:Int)+1<0)↔False:=by simp;omega
@[simp] theorem TR (f:Bool) (rows:List (List T)):bT (.sl f rows)=some (f,rows):=rfl
@[simp] theorem SH:bT (.v (.slice none 0 0))=some (true,[]):=rfl
theorem bN (n:Int) (h1:-9223372036854775808≤n) (h2:n≤9223372036854775807):IntKind.i64.wrap n=n:=by
 simp only[IntKind.wrap,IntKind.bits,IntKind.signed]
 simp
 omega
end Go.Pv
