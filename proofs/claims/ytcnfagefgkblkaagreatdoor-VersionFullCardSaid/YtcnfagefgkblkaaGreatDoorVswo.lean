/-
  The pure evaluator, part o: how code is walked, one piece at a time; lists that are read.
-/
import Derived.Test.YtcnfagefgkblkaaGreatDoorVswu
set_option linter.defProp false
set_option linter.unusedSimpArgs false
namespace Go.Pv
open Go Go.RowKit
@[simp] theorem BDN (k:IntKind) (n:Int):T.leaf (.v (.int k n))=true:=rfl
@[simp] theorem BDQ (s:ByteArray):T.leaf (.v (.string s))=true:=rfl
@[simp] theorem BBS (b:Bool):T.leaf (.v (.bool b))=true:=rfl
@[simp] theorem A9L (a:Option Addr) (n c:Nat):T.leaf (.v (.slice a n c))=true:=rfl
@[simp] theorem A3P (a:Option Addr):T.leaf (.v (.pointer a))=true:=rfl
@[simp] theorem BDO (a:Option Nat):T.leaf (.v (.map a))=true:=rfl
@[simp] theorem A3O:T.leaf (.v .nilFunc)=true:=rfl
@[simp] theorem A0B:T.leaf (.v .nilIface)=true:=rfl
@[simp] theorem BBT (cs:Array Value):T.leaf (.v (.agg cs))=false:=rfl
@[simp] theorem BDM (cs:List T):T.leaf (.agg cs)=false:=rfl
@[simp] theorem BDR (cs:List T):T.leaf (.bU cs)=false:=rfl
@[simp] theorem BEI (f:Bool) (rows:List (List T)):T.leaf (.sl f rows)=true:=rfl
@[simp] theorem BEH (f:Bool):T.leaf (.ne f)=true:=rfl
@[simp] theorem BC8 (f:Bool):T.cells (.ne f)=[.ne f]:=rfl
@[simp] theorem BD2 (f:Bool):eW (.ne f)=some (f,[]):=rfl
@[simp] theorem BDP (cs:List T):T.leaf (.ref cs)=true:=rfl
@[simp] theorem BEG (f:FuncId) (a b:List T):T.leaf (.fn f a b)=true:=rfl
@[simp] theorem BBK (k:IntKind) (n:Int):T.cells (.v (.int k n))=[.v (.int k n)]:=rfl
@[simp] theorem BBM (s:ByteArray):T.cells (.v (.string s))=[.v (.string s)]:=rfl
@[simp] theorem A7K (b:Bool):T.cells (.v (.bool b))=[.v (.bool b)]:=rfl
@[simp] theorem A5S (a:Option Addr) (n c:Nat):T.cells (.v (.slice a n c))=[.v (.slice a n c)]:=rfl
@[simp] theorem A0A (a:Option Addr):T.cells (.v (.pointer a))=[.v (.pointer a)]:=rfl
@[simp] theorem A7M (a:Option Nat):T.cells (.v (.map a))=[.v (.map a)]:=rfl
@[simp] theorem A7L (cs:Array Value):T.cells (.v (.agg cs))=cs.toList.map .v:=rfl
@[simp] theorem BBJ (cs:List T):T.cells (.agg cs)=cs:=rfl
@[simp] theorem BC9 (f:Bool) (rows:List (List T)):T.cells (.sl f rows)=[.sl f rows]:=rfl
@[simp] theorem BBL (cs:List T):T.cells (.ref cs)=[.ref cs]:=rfl
@[simp] theorem BC7 (f:FuncId) (a b:List T):T.cells (.fn f a b)=[.fn f a b]:=rfl
@[simp] theorem BEJ (k:Nat):((k:Int)<0)↔False:=by simp
@[simp] theorem BDT (k:Nat):((k:Int)+1<0)↔False:=by simp;omega
@[simp] theorem BD3 (f:Bool) (rows:List (List T)):eW (.sl f rows)=some (f,rows):=rfl
@[simp] theorem BBU:eW (.v (.slice none 0 0))=some (true,[]):=rfl
theorem bB (n:Int) (h1:-9223372036854775808≤n) (h2:n≤9223372036854775807):IntKind.i64.wrap n=n:=by
 simp only[IntKind.wrap,IntKind.bits,IntKind.signed]
 simp
 omega
end Go.Pv
