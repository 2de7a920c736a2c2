/-
  The pure evaluator, part o: how code is walked, one piece at a time; lists that are read.
-/
import Derived.Test.YtepoplfbgaoggaaGreatDoorOnewu
set_option linter.defProp false
set_option linter.unusedSimpArgs false
namespace Go.Pv
open Go Go.RowKit
@[simp] def BSD (k:IntKind) (n:Int):T.leaf (.v (.int k n))=true:=rfl
@[simp] def BSG (s:iII):T.leaf (.v (.string s))=true:=rfl
@[simp] def BQV (b:Bool):T.leaf (.v (.bool b))=true:=rfl
@[simp] def BOL (a:Option Addr) (n c:Nat):T.leaf (.v (.slice a n c))=true:=rfl
@[simp] def BIL (a:Option Addr):T.leaf (.v (.pointer a))=true:=rfl
@[simp] def BSE (a:Option Nat):T.leaf (.v (.map a))=true:=rfl
@[simp] def BIK:T.leaf (.v .nilFunc)=true:=rfl
@[simp] def BFT:T.leaf (.v .nilIface)=true:=rfl
@[simp] def BQW (cs:Array Value):T.leaf (.v (.agg cs))=false:=rfl
@[simp] def BSC (cs:List T):T.leaf (.agg cs)=false:=rfl
@[simp] def BSH (cs:List T):T.leaf (.cB cs)=false:=rfl
@[simp] def BS5 (f:Bool) (rows:List (List T)):T.leaf (.sl f rows)=true:=rfl
@[simp] def BS4 (f:Bool):T.leaf (.ne f)=true:=rfl
@[simp] def BRU (f:Bool):T.cells (.ne f)=[.ne f]:=rfl
@[simp] def BSR (f:Bool):gP (.ne f)=some (f,[]):=rfl
@[simp] def BSF (cs:List T):T.leaf (.ref cs)=true:=rfl
@[simp] def BS3 (f:FuncId) (a b:List T):T.leaf (.fn f a b)=true:=rfl
@[simp] def BQN (k:IntKind) (n:Int):T.cells (.v (.int k n))=[.v (.int k n)]:=rfl
@[simp] def BQP (s:iII):T.cells (.v (.string s))=[.v (.string s)]:=rfl
@[simp] def BML (b:Bool):T.cells (.v (.bool b))=[.v (.bool b)]:=rfl
@[simp] def BK4 (a:Option Addr) (n c:Nat):T.cells (.v (.slice a n c))=[.v (.slice a n c)]:=rfl
@[simp] def BFS (a:Option Addr):T.cells (.v (.pointer a))=[.v (.pointer a)]:=rfl
@[simp] def BMN (a:Option Nat):T.cells (.v (.map a))=[.v (.map a)]:=rfl
@[simp] def BMM (cs:Array Value):T.cells (.v (.agg cs))=cs.toList.map .v:=rfl
@[simp] def BQM (cs:List T):T.cells (.agg cs)=cs:=rfl
@[simp] def BRV (f:Bool) (rows:List (List T)):T.cells (.sl f rows)=[.sl f rows]:=rfl
@[simp] def BQO (cs:List T):T.cells (.ref cs)=[.ref cs]:=rfl
@[simp] def BRT (f:FuncId) (a b:List T):T.cells (.fn f a b)=[.fn f a b]:=rfl
@[simp] def BS6 (k:Nat):((k:Int)<0)↔False:=by simp
@[simp] def BSJ (k:Nat):((k:Int)+1<0)↔False:=by simp;omega
@[simp] def BSS (f:Bool) (rows:List (List T)):gP (.sl f rows)=some (f,rows):=rfl
@[simp] def BQX:gP (.v (.slice none 0 0))=some (true,[]):=rfl
def aZ (n:Int) (h1:-9223372036854775808<=n) (h2:n<=9223372036854775807):IntKind.i64.wrap n=n:=by
 simp only[IntKind.wrap,IntKind.bits,IntKind.signed];simp;omega
end Go.Pv
