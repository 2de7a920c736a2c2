/-
  The pure evaluator, part o: how code is walked, one piece at a time; lists that are read.
-/
import Derived.Test.YtpkaicahnkpkhaaGreatDoorPzwu
set_option linter.unusedSimpArgs false
namespace Go.Pv
open Go Go.RowKit
@[simp] theorem AZD (k:IntKind) (n:Int):T.leaf (.v (.int k n))=true:=rfl
@[simp] theorem AZG (s:ByteArray):T.leaf (.v (.string s))=true:=rfl
@[simp] theorem AYC (b:Bool):T.leaf (.v (.bool b))=true:=rfl
@[simp] theorem AW7 (a:Option Addr) (n c:Nat):T.leaf (.v (.slice a n c))=true:=rfl
@[simp] theorem AT1 (a:Option Addr):T.leaf (.v (.pointer a))=true:=rfl
@[simp] theorem AZE (a:Option Nat):T.leaf (.v (.map a))=true:=rfl
@[simp] theorem AT0:T.leaf (.v .nilFunc)=true:=rfl
@[simp] theorem ASN:T.leaf (.v .nilIface)=true:=rfl
@[simp] theorem AYD (cs:Array Value):T.leaf (.v (.agg cs))=false:=rfl
@[simp] theorem AZC (cs:List T):T.leaf (.agg cs)=false:=rfl
@[simp] theorem AZH (cs:List T):T.leaf (.bX cs)=false:=rfl
@[simp] theorem AZ3 (f:Bool) (rows:List (List T)):T.leaf (.sl f rows)=true:=rfl
@[simp] theorem AZ2 (f:Bool):T.leaf (.ne f)=true:=rfl
@[simp] theorem AYU (f:Bool):T.cells (.ne f)=[.ne f]:=rfl
@[simp] theorem AZR (f:Bool):eX (.ne f)=some (f,[]):=rfl
@[simp] theorem AZF (cs:List T):T.leaf (.ref cs)=true:=rfl
@[simp] theorem AZ1 (f:FuncId) (a b:List T):T.leaf (.fn f a b)=true:=rfl
@[simp] theorem AX4 (k:IntKind) (n:Int):T.cells (.v (.int k n))=[.v (.int k n)]:=rfl
@[simp] theorem AX6 (s:ByteArray):T.cells (.v (.string s))=[.v (.string s)]:=rfl
@[simp] theorem AWG (b:Bool):T.cells (.v (.bool b))=[.v (.bool b)]:=rfl
@[simp] theorem AVJ (a:Option Addr) (n c:Nat):T.cells (.v (.slice a n c))=[.v (.slice a n c)]:=rfl
@[simp] theorem ASM (a:Option Addr):T.cells (.v (.pointer a))=[.v (.pointer a)]:=rfl
@[simp] theorem AWI (a:Option Nat):T.cells (.v (.map a))=[.v (.map a)]:=rfl
@[simp] theorem AWH (cs:Array Value):T.cells (.v (.agg cs))=cs.toList.map .v:=rfl
@[simp] theorem AX3 (cs:List T):T.cells (.agg cs)=cs:=rfl
@[simp] theorem AYV (f:Bool) (rows:List (List T)):T.cells (.sl f rows)=[.sl f rows]:=rfl
@[simp] theorem AX5 (cs:List T):T.cells (.ref cs)=[.ref cs]:=rfl
@[simp] theorem AYT (f:FuncId) (a b:List T):T.cells (.fn f a b)=[.fn f a b]:=rfl
@[simp] theorem AZ4 (k:Nat):((k:Int)<0)↔False:=by simp
@[simp] theorem AZJ (k:Nat):((k:Int)+1<0)↔False:=by simp;omega
@[simp] theorem AZS (f:Bool) (rows:List (List T)):eX (.sl f rows)=some (f,rows):=rfl
@[simp] theorem AYE:eX (.v (.slice none 0 0))=some (true,[]):=rfl
theorem aO (n:Int) (h1:-9223372036854775808≤n) (h2:n≤9223372036854775807):IntKind.i64.wrap n=n:=by
 simp only[IntKind.wrap,IntKind.bits,IntKind.signed]
 simp
 omega
end Go.Pv
