/-
  The pure evaluator, part o: how code is walked, one piece at a time; lists that are read.
-/
import Derived.Test.YtcdomkejkfcjlaaGreatDoorPswu
set_option linter.unusedSimpArgs false
namespace Go.Pv
open Go Go.RowKit
@[simp] theorem ASY (k:IntKind) (n:Int):T.leaf (.v (.int k n))=true:=rfl
@[simp] theorem AS1 (s:ByteArray):T.leaf (.v (.string s))=true:=rfl
@[simp] theorem ARW (b:Bool):T.leaf (.v (.bool b))=true:=rfl
@[simp] theorem AQV (a:Option Addr) (n c:Nat):T.leaf (.v (.slice a n c))=true:=rfl
@[simp] theorem AN7 (a:Option Addr):T.leaf (.v (.pointer a))=true:=rfl
@[simp] theorem ASZ (a:Option Nat):T.leaf (.v (.map a))=true:=rfl
@[simp] theorem AN6:T.leaf (.v .nilFunc)=true:=rfl
@[simp] theorem AM3:T.leaf (.v .nilIface)=true:=rfl
@[simp] theorem ARX (cs:Array Value):T.leaf (.v (.agg cs))=false:=rfl
@[simp] theorem ASX (cs:List T):T.leaf (.agg cs)=false:=rfl
@[simp] theorem AS2 (cs:List T):T.leaf (.cA cs)=false:=rfl
@[simp] theorem ATQ (f:Bool) (rows:List (List T)):T.leaf (.sl f rows)=true:=rfl
@[simp] theorem ATP (f:Bool):T.leaf (.ne f)=true:=rfl
@[simp] theorem ASF (f:Bool):T.cells (.ne f)=[.ne f]:=rfl
@[simp] theorem ATF (f:Bool):dU (.ne f)=some (f,[]):=rfl
@[simp] theorem AS0 (cs:List T):T.leaf (.ref cs)=true:=rfl
@[simp] theorem ATO (f:FuncId) (a b:List T):T.leaf (.fn f a b)=true:=rfl
@[simp] theorem ARO (k:IntKind) (n:Int):T.cells (.v (.int k n))=[.v (.int k n)]:=rfl
@[simp] theorem ARQ (s:ByteArray):T.cells (.v (.string s))=[.v (.string s)]:=rfl
@[simp] theorem AP8 (b:Bool):T.cells (.v (.bool b))=[.v (.bool b)]:=rfl
@[simp] theorem APE (a:Option Addr) (n c:Nat):T.cells (.v (.slice a n c))=[.v (.slice a n c)]:=rfl
@[simp] theorem AM2 (a:Option Addr):T.cells (.v (.pointer a))=[.v (.pointer a)]:=rfl
@[simp] theorem AQA (a:Option Nat):T.cells (.v (.map a))=[.v (.map a)]:=rfl
@[simp] theorem AP9 (cs:Array Value):T.cells (.v (.agg cs))=cs.toList.map .v:=rfl
@[simp] theorem ARN (cs:List T):T.cells (.agg cs)=cs:=rfl
@[simp] theorem ASG (f:Bool) (rows:List (List T)):T.cells (.sl f rows)=[.sl f rows]:=rfl
@[simp] theorem ARP (cs:List T):T.cells (.ref cs)=[.ref cs]:=rfl
@[simp] theorem ASE (f:FuncId) (a b:List T):T.cells (.fn f a b)=[.fn f a b]:=rfl
@[simp] theorem ATR (k:Nat):((k:Int)<0)↔False:=by simp
@[simp] theorem AS4 (k:Nat):((k:Int)+1<0)↔False:=by simp;omega
@[simp] theorem ATG (f:Bool) (rows:List (List T)):dU (.sl f rows)=some (f,rows):=rfl
@[simp] theorem ARY:dU (.v (.slice none 0 0))=some (true,[]):=rfl
theorem aP (n:Int) (h1:-9223372036854775808≤n) (h2:n≤9223372036854775807):IntKind.i64.wrap n=n:=by
 simp only[IntKind.wrap,IntKind.bits,IntKind.signed]
 simp
 omega
end Go.Pv
