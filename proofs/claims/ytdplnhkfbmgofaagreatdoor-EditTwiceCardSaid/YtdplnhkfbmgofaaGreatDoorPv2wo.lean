/-
  The pure evaluator, part o: how code is walked, one piece at a time; lists that are read.
-/
import Derived.Test.YtdplnhkfbmgofaaGreatDoorPv2wu
set_option linter.defProp false
set_option linter.unusedSimpArgs false
namespace Go.Pv
open Go Go.RowKit
@[simp] theorem A82 (k:IntKind) (n:Int):T.leaf (.v (.int k n))=true:=rfl
@[simp] theorem A85 (s:ByteArray):T.leaf (.v (.string s))=true:=rfl
@[simp] theorem A60 (b:Bool):T.leaf (.v (.bool b))=true:=rfl
@[simp] theorem A42 (a:Option Addr) (n c:Nat):T.leaf (.v (.slice a n c))=true:=rfl
@[simp] theorem AZ0 (a:Option Addr):T.leaf (.v (.pointer a))=true:=rfl
@[simp] theorem A83 (a:Option Nat):T.leaf (.v (.map a))=true:=rfl
@[simp] theorem AZZ:T.leaf (.v .nilFunc)=true:=rfl
@[simp] theorem AWV:T.leaf (.v .nilIface)=true:=rfl
@[simp] theorem A61 (cs:Array Value):T.leaf (.v (.agg cs))=false:=rfl
@[simp] theorem A81 (cs:List T):T.leaf (.agg cs)=false:=rfl
@[simp] theorem A86 (cs:List T):T.leaf (.cC cs)=false:=rfl
@[simp] theorem A9S (f:Bool) (rows:List (List T)):T.leaf (.sl f rows)=true:=rfl
@[simp] theorem A9R (f:Bool):T.leaf (.ne f)=true:=rfl
@[simp] theorem A8D (f:Bool):T.cells (.ne f)=[.ne f]:=rfl
@[simp] theorem A9F (f:Bool):eN (.ne f)=some (f,[]):=rfl
@[simp] theorem A84 (cs:List T):T.leaf (.ref cs)=true:=rfl
@[simp] theorem A9Q (f:FuncId) (a b:List T):T.leaf (.fn f a b)=true:=rfl
@[simp] theorem A6S (k:IntKind) (n:Int):T.cells (.v (.int k n))=[.v (.int k n)]:=rfl
@[simp] theorem A6U (s:ByteArray):T.cells (.v (.string s))=[.v (.string s)]:=rfl
@[simp] theorem A3E (b:Bool):T.cells (.v (.bool b))=[.v (.bool b)]:=rfl
@[simp] theorem A1W (a:Option Addr) (n c:Nat):T.cells (.v (.slice a n c))=[.v (.slice a n c)]:=rfl
@[simp] theorem AWU (a:Option Addr):T.cells (.v (.pointer a))=[.v (.pointer a)]:=rfl
@[simp] theorem A3G (a:Option Nat):T.cells (.v (.map a))=[.v (.map a)]:=rfl
@[simp] theorem A3F (cs:Array Value):T.cells (.v (.agg cs))=cs.toList.map .v:=rfl
@[simp] theorem A6R (cs:List T):T.cells (.agg cs)=cs:=rfl
@[simp] theorem A8E (f:Bool) (rows:List (List T)):T.cells (.sl f rows)=[.sl f rows]:=rfl
@[simp] theorem A6T (cs:List T):T.cells (.ref cs)=[.ref cs]:=rfl
@[simp] theorem A8C (f:FuncId) (a b:List T):T.cells (.fn f a b)=[.fn f a b]:=rfl
@[simp] theorem A9T (k:Nat):((k:Int)<0)↔False:=by simp
@[simp] theorem A88 (k:Nat):((k:Int)+1<0)↔False:=by simp;omega
@[simp] theorem A9G (f:Bool) (rows:List (List T)):eN (.sl f rows)=some (f,rows):=rfl
@[simp] theorem A62:eN (.v (.slice none 0 0))=some (true,[]):=rfl
theorem bB (n:Int) (h1:-9223372036854775808≤n) (h2:n≤9223372036854775807):IntKind.i64.wrap n=n:=by
 simp only[IntKind.wrap,IntKind.bits,IntKind.signed]
 simp
 omega
end Go.Pv
