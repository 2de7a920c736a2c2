/-
  The pure evaluator, part o: how code is walked, one piece at a time; lists that are read.
-/
import Derived.Test.YtcdomkejkfcjlaaGreatDoorPtwu
set_option linter.unusedSimpArgs false
namespace Go.Pv
open Go Go.RowKit
@[simp] theorem A9X (k:IntKind) (n:Int):T.leaf (.v (.int k n))=true:=rfl
@[simp] theorem A90 (s:ByteArray):T.leaf (.v (.string s))=true:=rfl
@[simp] theorem A8V (b:Bool):T.leaf (.v (.bool b))=true:=rfl
@[simp] theorem A7P (a:Option Addr) (n c:Nat):T.leaf (.v (.slice a n c))=true:=rfl
@[simp] theorem A30 (a:Option Addr):T.leaf (.v (.pointer a))=true:=rfl
@[simp] theorem A9Y (a:Option Nat):T.leaf (.v (.map a))=true:=rfl
@[simp] theorem A3Z:T.leaf (.v .nilFunc)=true:=rfl
@[simp] theorem A2F:T.leaf (.v .nilIface)=true:=rfl
@[simp] theorem A8W (cs:Array Value):T.leaf (.v (.agg cs))=false:=rfl
@[simp] theorem A9W (cs:List T):T.leaf (.agg cs)=false:=rfl
@[simp] theorem A91 (cs:List T):T.leaf (.cR cs)=false:=rfl
@[simp] theorem BAM (f:Bool) (rows:List (List T)):T.leaf (.sl f rows)=true:=rfl
@[simp] theorem BAL (f:Bool):T.leaf (.ne f)=true:=rfl
@[simp] theorem A9C (f:Bool):T.cells (.ne f)=[.ne f]:=rfl
@[simp] theorem BAB (f:Bool):gF (.ne f)=some (f,[]):=rfl
@[simp] theorem A9Z (cs:List T):T.leaf (.ref cs)=true:=rfl
@[simp] theorem BAK (f:FuncId) (a b:List T):T.leaf (.fn f a b)=true:=rfl
@[simp] theorem A8N (k:IntKind) (n:Int):T.cells (.v (.int k n))=[.v (.int k n)]:=rfl
@[simp] theorem A8P (s:ByteArray):T.cells (.v (.string s))=[.v (.string s)]:=rfl
@[simp] theorem A6K (b:Bool):T.cells (.v (.bool b))=[.v (.bool b)]:=rfl
@[simp] theorem A5P (a:Option Addr) (n c:Nat):T.cells (.v (.slice a n c))=[.v (.slice a n c)]:=rfl
@[simp] theorem A2E (a:Option Addr):T.cells (.v (.pointer a))=[.v (.pointer a)]:=rfl
@[simp] theorem A6M (a:Option Nat):T.cells (.v (.map a))=[.v (.map a)]:=rfl
@[simp] theorem A6L (cs:Array Value):T.cells (.v (.agg cs))=cs.toList.map .v:=rfl
@[simp] theorem A8M (cs:List T):T.cells (.agg cs)=cs:=rfl
@[simp] theorem A9D (f:Bool) (rows:List (List T)):T.cells (.sl f rows)=[.sl f rows]:=rfl
@[simp] theorem A8O (cs:List T):T.cells (.ref cs)=[.ref cs]:=rfl
@[simp] theorem A9B (f:FuncId) (a b:List T):T.cells (.fn f a b)=[.fn f a b]:=rfl
@[simp] theorem BAN (k:Nat):((k:Int)<0)↔False:=by simp
@[simp] theorem A93 (k:Nat):((k:Int)+1<0)↔False:=by simp;omega
@[simp] theorem BAC (f:Bool) (rows:List (List T)):gF (.sl f rows)=some (f,rows):=rfl
@[simp] theorem A8X:gF (.v (.slice none 0 0))=some (true,[]):=rfl
theorem aS (n:Int) (h1:-9223372036854775808≤n) (h2:n≤9223372036854775807):IntKind.i64.wrap n=n:=by
 simp only[IntKind.wrap,IntKind.bits,IntKind.signed]
 simp
 omega
end Go.Pv
