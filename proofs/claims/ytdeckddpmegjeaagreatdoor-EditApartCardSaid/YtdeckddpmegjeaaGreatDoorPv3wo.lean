/-
  The pure evaluator, part o: how code is walked, one piece at a time; lists that are read.
-/
import Derived.Test.YtdeckddpmegjeaaGreatDoorPv3wu
set_option linter.defProp false
set_option linter.unusedSimpArgs false
namespace Go.Pv
open Go Go.RowKit
@[simp] theorem BDL (k:IntKind) (n:Int):T.leaf (.v (.int k n))=true:=rfl
@[simp] theorem BDO (s:ByteArray):T.leaf (.v (.string s))=true:=rfl
@[simp] theorem BBF (b:Bool):T.leaf (.v (.bool b))=true:=rfl
@[simp] theorem A9A (a:Option Addr) (n c:Nat):T.leaf (.v (.slice a n c))=true:=rfl
@[simp] theorem A3K (a:Option Addr):T.leaf (.v (.pointer a))=true:=rfl
@[simp] theorem BDM (a:Option Nat):T.leaf (.v (.map a))=true:=rfl
@[simp] theorem A3J:T.leaf (.v .nilFunc)=true:=rfl
@[simp] theorem AZY:T.leaf (.v .nilIface)=true:=rfl
@[simp] theorem BBG (cs:Array Value):T.leaf (.v (.agg cs))=false:=rfl
@[simp] theorem BDK (cs:List T):T.leaf (.agg cs)=false:=rfl
@[simp] theorem BDP (cs:List T):T.leaf (.cA cs)=false:=rfl
@[simp] theorem BEE (f:Bool) (rows:List (List T)):T.leaf (.sl f rows)=true:=rfl
@[simp] theorem BED (f:Bool):T.leaf (.ne f)=true:=rfl
@[simp] theorem BCW (f:Bool):T.cells (.ne f)=[.ne f]:=rfl
@[simp] theorem BDZ (f:Bool):eV (.ne f)=some (f,[]):=rfl
@[simp] theorem BDN (cs:List T):T.leaf (.ref cs)=true:=rfl
@[simp] theorem BEC (f:FuncId) (a b:List T):T.leaf (.fn f a b)=true:=rfl
@[simp] theorem BA7 (k:IntKind) (n:Int):T.cells (.v (.int k n))=[.v (.int k n)]:=rfl
@[simp] theorem BA9 (s:ByteArray):T.cells (.v (.string s))=[.v (.string s)]:=rfl
@[simp] theorem A69 (b:Bool):T.cells (.v (.bool b))=[.v (.bool b)]:=rfl
@[simp] theorem A5S (a:Option Addr) (n c:Nat):T.cells (.v (.slice a n c))=[.v (.slice a n c)]:=rfl
@[simp] theorem AZX (a:Option Addr):T.cells (.v (.pointer a))=[.v (.pointer a)]:=rfl
@[simp] theorem A7B (a:Option Nat):T.cells (.v (.map a))=[.v (.map a)]:=rfl
@[simp] theorem A7A (cs:Array Value):T.cells (.v (.agg cs))=cs.toList.map .v:=rfl
@[simp] theorem BA6 (cs:List T):T.cells (.agg cs)=cs:=rfl
@[simp] theorem BCX (f:Bool) (rows:List (List T)):T.cells (.sl f rows)=[.sl f rows]:=rfl
@[simp] theorem BA8 (cs:List T):T.cells (.ref cs)=[.ref cs]:=rfl
@[simp] theorem BCV (f:FuncId) (a b:List T):T.cells (.fn f a b)=[.fn f a b]:=rfl
@[simp] theorem BEF (k:Nat):((k:Int)<0)↔False:=by simp
@[simp] theorem BDR (k:Nat):((k:Int)+1<0)↔False:=by simp;omega
@[simp] theorem BD0 (f:Bool) (rows:List (List T)):eV (.sl f rows)=some (f,rows):=rfl
@[simp] theorem BBH:eV (.v (.slice none 0 0))=some (true,[]):=rfl
theorem bD (n:Int) (h1:-9223372036854775808≤n) (h2:n≤9223372036854775807):IntKind.i64.wrap n=n:=by
 simp only[IntKind.wrap,IntKind.bits,IntKind.signed]
 simp
 omega
end Go.Pv
