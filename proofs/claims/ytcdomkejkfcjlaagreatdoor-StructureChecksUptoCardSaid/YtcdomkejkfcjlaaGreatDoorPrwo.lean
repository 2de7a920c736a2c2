/-
  The pure evaluator, part o: how code is walked, one piece at a time; lists that are read.
-/
import Derived.Test.YtcdomkejkfcjlaaGreatDoorPrwu
set_option linter.unusedSimpArgs false
namespace Go.Pv
open Go Go.RowKit
@[simp] theorem A8G (k:IntKind) (n:Int):T.leaf (.v (.int k n))=true:=rfl
@[simp] theorem A8J (s:ByteArray):T.leaf (.v (.string s))=true:=rfl
@[simp] theorem A7E (b:Bool):T.leaf (.v (.bool b))=true:=rfl
@[simp] theorem A57 (a:Option Addr) (n c:Nat):T.leaf (.v (.slice a n c))=true:=rfl
@[simp] theorem A2J (a:Option Addr):T.leaf (.v (.pointer a))=true:=rfl
@[simp] theorem A8H (a:Option Nat):T.leaf (.v (.map a))=true:=rfl
@[simp] theorem A2I:T.leaf (.v .nilFunc)=true:=rfl
@[simp] theorem A0Z:T.leaf (.v .nilIface)=true:=rfl
@[simp] theorem A7F (cs:Array Value):T.leaf (.v (.agg cs))=false:=rfl
@[simp] theorem A8F (cs:List T):T.leaf (.agg cs)=false:=rfl
@[simp] theorem A8K (cs:List T):T.leaf (.cQ cs)=false:=rfl
@[simp] theorem A85 (f:Bool) (rows:List (List T)):T.leaf (.sl f rows)=true:=rfl
@[simp] theorem A84 (f:Bool):T.leaf (.ne f)=true:=rfl
@[simp] theorem A7V (f:Bool):T.cells (.ne f)=[.ne f]:=rfl
@[simp] theorem A8U (f:Bool):fZ (.ne f)=some (f,[]):=rfl
@[simp] theorem A8I (cs:List T):T.leaf (.ref cs)=true:=rfl
@[simp] theorem A83 (f:FuncId) (a b:List T):T.leaf (.fn f a b)=true:=rfl
@[simp] theorem A66 (k:IntKind) (n:Int):T.cells (.v (.int k n))=[.v (.int k n)]:=rfl
@[simp] theorem A68 (s:ByteArray):T.cells (.v (.string s))=[.v (.string s)]:=rfl
@[simp] theorem A42 (b:Bool):T.cells (.v (.bool b))=[.v (.bool b)]:=rfl
@[simp] theorem A37 (a:Option Addr) (n c:Nat):T.cells (.v (.slice a n c))=[.v (.slice a n c)]:=rfl
@[simp] theorem A0Y (a:Option Addr):T.cells (.v (.pointer a))=[.v (.pointer a)]:=rfl
@[simp] theorem A44 (a:Option Nat):T.cells (.v (.map a))=[.v (.map a)]:=rfl
@[simp] theorem A43 (cs:Array Value):T.cells (.v (.agg cs))=cs.toList.map .v:=rfl
@[simp] theorem A65 (cs:List T):T.cells (.agg cs)=cs:=rfl
@[simp] theorem A7W (f:Bool) (rows:List (List T)):T.cells (.sl f rows)=[.sl f rows]:=rfl
@[simp] theorem A67 (cs:List T):T.cells (.ref cs)=[.ref cs]:=rfl
@[simp] theorem A7U (f:FuncId) (a b:List T):T.cells (.fn f a b)=[.fn f a b]:=rfl
@[simp] theorem A86 (k:Nat):((k:Int)<0)↔False:=by simp
@[simp] theorem A8M (k:Nat):((k:Int)+1<0)↔False:=by simp;omega
@[simp] theorem A8V (f:Bool) (rows:List (List T)):fZ (.sl f rows)=some (f,rows):=rfl
@[simp] theorem A7G:fZ (.v (.slice none 0 0))=some (true,[]):=rfl
theorem aQ (n:Int) (h1:-9223372036854775808≤n) (h2:n≤9223372036854775807):IntKind.i64.wrap n=n:=by
 simp only[IntKind.wrap,IntKind.bits,IntKind.signed]
 simp
 omega
end Go.Pv
