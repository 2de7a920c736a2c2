/-
  The pure evaluator, part o: how code is walked, one piece at a time; lists that are read.
-/
import Derived.Test.YtdplnhkfbmgofaaGreatDoorPf2wu
set_option linter.defProp false
set_option linter.unusedSimpArgs false
namespace Go.Pv
open Go Go.RowKit
@[simp] theorem TX (k:IntKind) (n:Int):T.leaf (.v (.int k n))=true:=rfl
@[simp] theorem T0 (s:ByteArray):T.leaf (.v (.string s))=true:=rfl
@[simp] theorem SH (b:Bool):T.leaf (.v (.bool b))=true:=rfl
@[simp] theorem RE (a:Option Addr) (n c:Nat):T.leaf (.v (.slice a n c))=true:=rfl
@[simp] theorem OY (a:Option Addr):T.leaf (.v (.pointer a))=true:=rfl
@[simp] theorem TY (a:Option Nat):T.leaf (.v (.map a))=true:=rfl
@[simp] theorem OX:T.leaf (.v .nilFunc)=true:=rfl
@[simp] theorem M4:T.leaf (.v .nilIface)=true:=rfl
@[simp] theorem SI (cs:Array Value):T.leaf (.v (.agg cs))=false:=rfl
@[simp] theorem TW (cs:List T):T.leaf (.agg cs)=false:=rfl
@[simp] theorem T1 (cs:List T):T.leaf (.cF cs)=false:=rfl
@[simp] theorem UT (f:Bool) (rows:List (List T)):T.leaf (.sl f rows)=true:=rfl
@[simp] theorem US (f:Bool):T.leaf (.ne f)=true:=rfl
@[simp] theorem S6 (f:Bool):T.cells (.ne f)=[.ne f]:=rfl
@[simp] theorem UA (f:Bool):cE (.ne f)=some (f,[]):=rfl
@[simp] theorem TZ (cs:List T):T.leaf (.ref cs)=true:=rfl
@[simp] theorem UR (f:FuncId) (a b:List T):T.leaf (.fn f a b)=true:=rfl
@[simp] theorem R5 (k:IntKind) (n:Int):T.cells (.v (.int k n))=[.v (.int k n)]:=rfl
@[simp] theorem R7 (s:ByteArray):T.cells (.v (.string s))=[.v (.string s)]:=rfl
@[simp] theorem QT (b:Bool):T.cells (.v (.bool b))=[.v (.bool b)]:=rfl
@[simp] theorem PR (a:Option Addr) (n c:Nat):T.cells (.v (.slice a n c))=[.v (.slice a n c)]:=rfl
@[simp] theorem M3 (a:Option Addr):T.cells (.v (.pointer a))=[.v (.pointer a)]:=rfl
@[simp] theorem QV (a:Option Nat):T.cells (.v (.map a))=[.v (.map a)]:=rfl
@[simp] theorem QU (cs:Array Value):T.cells (.v (.agg cs))=cs.toList.map .v:=rfl
@[simp] theorem R4 (cs:List T):T.cells (.agg cs)=cs:=rfl
@[simp] theorem S7 (f:Bool) (rows:List (List T)):T.cells (.sl f rows)=[.sl f rows]:=rfl
@[simp] theorem R6 (cs:List T):T.cells (.ref cs)=[.ref cs]:=rfl
@[simp] theorem S5 (f:FuncId) (a b:List T):T.cells (.fn f a b)=[.fn f a b]:=rfl
@[simp] theorem UW (k:Nat):((k:Int)<0)↔False:=by simp
@[simp] theorem T4 (k:Nat):((k:Int)+1<0)↔False:=by simp;omega
@[simp] theorem UB (f:Bool) (rows:List (List T)):cE (.sl f rows)=some (f,rows):=rfl
@[simp] theorem SK:cE (.v (.slice none 0 0))=some (true,[]):=rfl
theorem eS (n:Int) (h1:-9223372036854775808≤n) (h2:n≤9223372036854775807):IntKind.i64.wrap n=n:=by
 simp only[IntKind.wrap,IntKind.bits,IntKind.signed]
 simp
 omega
end Go.Pv
