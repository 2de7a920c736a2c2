/-
  The pure evaluator, part o: how code is walked, one piece at a time; lists that are read.
-/
import Derived.Test.YtjledgajjgkbhaaGreatDoorVapwu
set_option linter.defProp false
set_option linter.unusedSimpArgs false
namespace Go.Pv
open Go Go.RowKit
@[simp] theorem BEP (k:IntKind) (n:Int):T.leaf (.v (.int k n))=true:=rfl
@[simp] theorem BES (s:ByteArray):T.leaf (.v (.string s))=true:=rfl
@[simp] theorem BDG (b:Bool):T.leaf (.v (.bool b))=true:=rfl
@[simp] theorem BA8 (a:Option Addr) (n c:Nat):T.leaf (.v (.slice a n c))=true:=rfl
@[simp] theorem A5U (a:Option Addr):T.leaf (.v (.pointer a))=true:=rfl
@[simp] theorem BEQ (a:Option Nat):T.leaf (.v (.map a))=true:=rfl
@[simp] theorem A5T:T.leaf (.v .nilFunc)=true:=rfl
@[simp] theorem A23:T.leaf (.v .nilIface)=true:=rfl
@[simp] theorem BDH (cs:Array Value):T.leaf (.v (.agg cs))=false:=rfl
@[simp] theorem BEO (cs:List T):T.leaf (.agg cs)=false:=rfl
@[simp] theorem BET (cs:List T):T.leaf (.bZ cs)=false:=rfl
@[simp] theorem BFI (f:Bool) (rows:List (List T)):T.leaf (.sl f rows)=true:=rfl
@[simp] theorem BFH (f:Bool):T.leaf (.ne f)=true:=rfl
@[simp] theorem BEB (f:Bool):T.cells (.ne f)=[.ne f]:=rfl
@[simp] theorem BE3 (f:Bool):fK (.ne f)=some (f,[]):=rfl
@[simp] theorem BER (cs:List T):T.leaf (.ref cs)=true:=rfl
@[simp] theorem BFG (f:FuncId) (a b:List T):T.leaf (.fn f a b)=true:=rfl
@[simp] theorem BC8 (k:IntKind) (n:Int):T.cells (.v (.int k n))=[.v (.int k n)]:=rfl
@[simp] theorem BDA (s:ByteArray):T.cells (.v (.string s))=[.v (.string s)]:=rfl
@[simp] theorem A9B (b:Bool):T.cells (.v (.bool b))=[.v (.bool b)]:=rfl
@[simp] theorem A71 (a:Option Addr) (n c:Nat):T.cells (.v (.slice a n c))=[.v (.slice a n c)]:=rfl
@[simp] theorem A22 (a:Option Addr):T.cells (.v (.pointer a))=[.v (.pointer a)]:=rfl
@[simp] theorem A9D (a:Option Nat):T.cells (.v (.map a))=[.v (.map a)]:=rfl
@[simp] theorem A9C (cs:Array Value):T.cells (.v (.agg cs))=cs.toList.map .v:=rfl
@[simp] theorem BC7 (cs:List T):T.cells (.agg cs)=cs:=rfl
@[simp] theorem BEC (f:Bool) (rows:List (List T)):T.cells (.sl f rows)=[.sl f rows]:=rfl
@[simp] theorem BC9 (cs:List T):T.cells (.ref cs)=[.ref cs]:=rfl
@[simp] theorem BEA (f:FuncId) (a b:List T):T.cells (.fn f a b)=[.fn f a b]:=rfl
@[simp] theorem BFJ (k:Nat):((k:Int)<0)↔False:=by simp
@[simp] theorem BEV (k:Nat):((k:Int)+1<0)↔False:=by simp;omega
@[simp] theorem BE4 (f:Bool) (rows:List (List T)):fK (.sl f rows)=some (f,rows):=rfl
@[simp] theorem BDI:fK (.v (.slice none 0 0))=some (true,[]):=rfl
theorem bH (n:Int) (h1:-9223372036854775808≤n) (h2:n≤9223372036854775807):IntKind.i64.wrap n=n:=by
 simp only[IntKind.wrap,IntKind.bits,IntKind.signed]
 simp
 omega
end Go.Pv
