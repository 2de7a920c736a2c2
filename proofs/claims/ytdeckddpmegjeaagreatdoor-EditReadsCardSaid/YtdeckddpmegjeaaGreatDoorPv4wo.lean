/-
  The pure evaluator, part o: how code is walked, one piece at a time; lists that are read.
-/
import Derived.Test.YtdeckddpmegjeaaGreatDoorPv4wu
set_option linter.defProp false
set_option linter.unusedSimpArgs false
namespace Go.Pv
open Go Go.RowKit
@[simp] theorem UN (k:IntKind) (n:Int):T.leaf (.v (.int k n))=true:=rfl
@[simp] theorem UQ (s:ByteArray):T.leaf (.v (.string s))=true:=rfl
@[simp] theorem TF (b:Bool):T.leaf (.v (.bool b))=true:=rfl
@[simp] theorem SF (a:Option Addr) (n c:Nat):T.leaf (.v (.slice a n c))=true:=rfl
@[simp] theorem PY (a:Option Addr):T.leaf (.v (.pointer a))=true:=rfl
@[simp] theorem UO (a:Option Nat):T.leaf (.v (.map a))=true:=rfl
@[simp] theorem PX:T.leaf (.v .nilFunc)=true:=rfl
@[simp] theorem OT:T.leaf (.v .nilIface)=true:=rfl
@[simp] theorem TG (cs:Array Value):T.leaf (.v (.agg cs))=false:=rfl
@[simp] theorem UM (cs:List T):T.leaf (.agg cs)=false:=rfl
@[simp] theorem UR (cs:List T):T.leaf (.aT cs)=false:=rfl
@[simp] theorem VP (f:Bool) (rows:List (List T)):T.leaf (.sl f rows)=true:=rfl
@[simp] theorem VO (f:Bool):T.leaf (.ne f)=true:=rfl
@[simp] theorem TV (f:Bool):T.cells (.ne f)=[.ne f]:=rfl
@[simp] theorem U6 (f:Bool):cT (.ne f)=some (f,[]):=rfl
@[simp] theorem UP (cs:List T):T.leaf (.ref cs)=true:=rfl
@[simp] theorem VN (f:FuncId) (a b:List T):T.leaf (.fn f a b)=true:=rfl
@[simp] theorem S4 (k:IntKind) (n:Int):T.cells (.v (.int k n))=[.v (.int k n)]:=rfl
@[simp] theorem S6 (s:ByteArray):T.cells (.v (.string s))=[.v (.string s)]:=rfl
@[simp] theorem RT (b:Bool):T.cells (.v (.bool b))=[.v (.bool b)]:=rfl
@[simp] theorem QU (a:Option Addr) (n c:Nat):T.cells (.v (.slice a n c))=[.v (.slice a n c)]:=rfl
@[simp] theorem OS (a:Option Addr):T.cells (.v (.pointer a))=[.v (.pointer a)]:=rfl
@[simp] theorem RV (a:Option Nat):T.cells (.v (.map a))=[.v (.map a)]:=rfl
@[simp] theorem RU (cs:Array Value):T.cells (.v (.agg cs))=cs.toList.map .v:=rfl
@[simp] theorem S3 (cs:List T):T.cells (.agg cs)=cs:=rfl
@[simp] theorem TW (f:Bool) (rows:List (List T)):T.cells (.sl f rows)=[.sl f rows]:=rfl
@[simp] theorem S5 (cs:List T):T.cells (.ref cs)=[.ref cs]:=rfl
@[simp] theorem TU (f:FuncId) (a b:List T):T.cells (.fn f a b)=[.fn f a b]:=rfl
@[simp] theorem VR (k:Nat):((k:Int)<0)↔False:=by simp
@[simp] theorem UT (k:Nat):((k:Int)+1<0)↔False:=by simp;omega
@[simp] theorem U7 (f:Bool) (rows:List (List T)):cT (.sl f rows)=some (f,rows):=rfl
@[simp] theorem TH:cT (.v (.slice none 0 0))=some (true,[]):=rfl
theorem bB (n:Int) (h1:-9223372036854775808≤n) (h2:n≤9223372036854775807):IntKind.i64.wrap n=n:=by
 simp only[IntKind.wrap,IntKind.bits,IntKind.signed]
 simp
 omega
end Go.Pv
