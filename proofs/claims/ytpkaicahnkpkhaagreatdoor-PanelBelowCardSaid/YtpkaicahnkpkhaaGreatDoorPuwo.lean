/-
  The pure evaluator, part o: how code is walked, one piece at a time; lists that are read.
-/
import Derived.Test.YtpkaicahnkpkhaaGreatDoorPuwu
set_option linter.unusedSimpArgs false
namespace Go.Pv
open Go Go.RowKit
@[simp] theorem AV1 (k:IntKind) (n:Int):T.leaf (.v (.int k n))=true:=rfl
@[simp] theorem AV4 (s:ByteArray):T.leaf (.v (.string s))=true:=rfl
@[simp] theorem AUX (b:Bool):T.leaf (.v (.bool b))=true:=rfl
@[simp] theorem ATL (a:Option Addr) (n c:Nat):T.leaf (.v (.slice a n c))=true:=rfl
@[simp] theorem APY (a:Option Addr):T.leaf (.v (.pointer a))=true:=rfl
@[simp] theorem AV2 (a:Option Nat):T.leaf (.v (.map a))=true:=rfl
@[simp] theorem APX:T.leaf (.v .nilFunc)=true:=rfl
@[simp] theorem AN8:T.leaf (.v .nilIface)=true:=rfl
@[simp] theorem AUY (cs:Array Value):T.leaf (.v (.agg cs))=false:=rfl
@[simp] theorem AV0 (cs:List T):T.leaf (.agg cs)=false:=rfl
@[simp] theorem AV5 (cs:List T):T.leaf (.cF cs)=false:=rfl
@[simp] theorem AWS (f:Bool) (rows:List (List T)):T.leaf (.sl f rows)=true:=rfl
@[simp] theorem AWR (f:Bool):T.leaf (.ne f)=true:=rfl
@[simp] theorem AVG (f:Bool):T.cells (.ne f)=[.ne f]:=rfl
@[simp] theorem AWF (f:Bool):eH (.ne f)=some (f,[]):=rfl
@[simp] theorem AV3 (cs:List T):T.leaf (.ref cs)=true:=rfl
@[simp] theorem AWQ (f:FuncId) (a b:List T):T.leaf (.fn f a b)=true:=rfl
@[simp] theorem AUP (k:IntKind) (n:Int):T.cells (.v (.int k n))=[.v (.int k n)]:=rfl
@[simp] theorem AUR (s:ByteArray):T.cells (.v (.string s))=[.v (.string s)]:=rfl
@[simp] theorem ASD (b:Bool):T.cells (.v (.bool b))=[.v (.bool b)]:=rfl
@[simp] theorem ARL (a:Option Addr) (n c:Nat):T.cells (.v (.slice a n c))=[.v (.slice a n c)]:=rfl
@[simp] theorem AN7 (a:Option Addr):T.cells (.v (.pointer a))=[.v (.pointer a)]:=rfl
@[simp] theorem ASF (a:Option Nat):T.cells (.v (.map a))=[.v (.map a)]:=rfl
@[simp] theorem ASE (cs:Array Value):T.cells (.v (.agg cs))=cs.toList.map .v:=rfl
@[simp] theorem AUO (cs:List T):T.cells (.agg cs)=cs:=rfl
@[simp] theorem AVH (f:Bool) (rows:List (List T)):T.cells (.sl f rows)=[.sl f rows]:=rfl
@[simp] theorem AUQ (cs:List T):T.cells (.ref cs)=[.ref cs]:=rfl
@[simp] theorem AVF (f:FuncId) (a b:List T):T.cells (.fn f a b)=[.fn f a b]:=rfl
@[simp] theorem AWT (k:Nat):((k:Int)<0)↔False:=by simp
@[simp] theorem AV7 (k:Nat):((k:Int)+1<0)↔False:=by simp;omega
@[simp] theorem AWG (f:Bool) (rows:List (List T)):eH (.sl f rows)=some (f,rows):=rfl
@[simp] theorem AUZ:eH (.v (.slice none 0 0))=some (true,[]):=rfl
theorem aO (n:Int) (h1:-9223372036854775808≤n) (h2:n≤9223372036854775807):IntKind.i64.wrap n=n:=by
 simp only[IntKind.wrap,IntKind.bits,IntKind.signed]
 simp
 omega
end Go.Pv
