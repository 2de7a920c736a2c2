/-
  The pure evaluator, part o: how code is walked, one piece at a time; lists that are read.
-/
import Derived.Test.YtlongjgklndggaaGreatDoorVawu
set_option linter.defProp false
set_option linter.unusedSimpArgs false
namespace Go.Pv
open Go Go.RowKit
@[simp] theorem WZ (k:IntKind) (n:Int):T.leaf (.v (.int k n))=true:=rfl
@[simp] theorem W2 (s:ByteArray):T.leaf (.v (.string s))=true:=rfl
@[simp] theorem VY (b:Bool):T.leaf (.v (.bool b))=true:=rfl
@[simp] theorem UY (a:Option Addr) (n c:Nat):T.leaf (.v (.slice a n c))=true:=rfl
@[simp] theorem R3 (a:Option Addr):T.leaf (.v (.pointer a))=true:=rfl
@[simp] theorem W0 (a:Option Nat):T.leaf (.v (.map a))=true:=rfl
@[simp] theorem R2:T.leaf (.v .nilFunc)=true:=rfl
@[simp] theorem P9:T.leaf (.v .nilIface)=true:=rfl
@[simp] theorem VZ (cs:Array Value):T.leaf (.v (.agg cs))=false:=rfl
@[simp] theorem WY (cs:List T):T.leaf (.agg cs)=false:=rfl
@[simp] theorem W3 (cs:List T):T.leaf (.aQ cs)=false:=rfl
@[simp] theorem XM (f:Bool) (rows:List (List T)):T.leaf (.sl f rows)=true:=rfl
@[simp] theorem XL (f:Bool):T.leaf (.ne f)=true:=rfl
@[simp] theorem WJ (f:Bool):T.cells (.ne f)=[.ne f]:=rfl
@[simp] theorem XA (f:Bool):cG (.ne f)=some (f,[]):=rfl
@[simp] theorem W1 (cs:List T):T.leaf (.ref cs)=true:=rfl
@[simp] theorem XK (f:FuncId) (a b:List T):T.leaf (.fn f a b)=true:=rfl
@[simp] theorem VO (k:IntKind) (n:Int):T.cells (.v (.int k n))=[.v (.int k n)]:=rfl
@[simp] theorem VQ (s:ByteArray):T.cells (.v (.string s))=[.v (.string s)]:=rfl
@[simp] theorem UB (b:Bool):T.cells (.v (.bool b))=[.v (.bool b)]:=rfl
@[simp] theorem S2 (a:Option Addr) (n c:Nat):T.cells (.v (.slice a n c))=[.v (.slice a n c)]:=rfl
@[simp] theorem P8 (a:Option Addr):T.cells (.v (.pointer a))=[.v (.pointer a)]:=rfl
@[simp] theorem UD (a:Option Nat):T.cells (.v (.map a))=[.v (.map a)]:=rfl
@[simp] theorem UC (cs:Array Value):T.cells (.v (.agg cs))=cs.toList.map .v:=rfl
@[simp] theorem VN (cs:List T):T.cells (.agg cs)=cs:=rfl
@[simp] theorem WK (f:Bool) (rows:List (List T)):T.cells (.sl f rows)=[.sl f rows]:=rfl
@[simp] theorem VP (cs:List T):T.cells (.ref cs)=[.ref cs]:=rfl
@[simp] theorem WI (f:FuncId) (a b:List T):T.cells (.fn f a b)=[.fn f a b]:=rfl
@[simp] theorem XO (k:Nat):((k:Int)<0)↔False:=by simp
@[simp] theorem W5 (k:Nat):((k:Int)+1<0)↔False:=by simp;omega
@[simp] theorem XB (f:Bool) (rows:List (List T)):cG (.sl f rows)=some (f,rows):=rfl
@[simp] theorem V0:cG (.v (.slice none 0 0))=some (true,[]):=rfl
theorem bN (n:Int) (h1:-9223372036854775808≤n) (h2:n≤9223372036854775807):IntKind.i64.wrap n=n:=by
 simp only[IntKind.wrap,IntKind.bits,IntKind.signed]
 simp
 omega
end Go.Pv
