/-
  The pure evaluator, part o: how code is walked, one piece at a time; lists that are read.
-/
import Derived.Test.YtipdohmdckdoeaaGreatDoorVcwu
set_option linter.defProp false
set_option linter.unusedSimpArgs false
namespace Go.Pv
open Go Go.RowKit
@[simp] def BOI (k:IntKind) (n:Int):T.leaf (.v (.int k n))=true:=rfl
@[simp] def BOL (s:iII):T.leaf (.v (.string s))=true:=rfl
@[simp] def BL7 (b:Bool):T.leaf (.v (.bool b))=true:=rfl
@[simp] def BJS (a:Option Addr) (n c:Nat):T.leaf (.v (.slice a n c))=true:=rfl
@[simp] def BDU (a:Option Addr):T.leaf (.v (.pointer a))=true:=rfl
@[simp] def BOJ (a:Option Nat):T.leaf (.v (.map a))=true:=rfl
@[simp] def BDT:T.leaf (.v .nilFunc)=true:=rfl
@[simp] def A9V:T.leaf (.v .nilIface)=true:=rfl
@[simp] def BL8 (cs:Array Value):T.leaf (.v (.agg cs))=false:=rfl
@[simp] def BOH (cs:List T):T.leaf (.agg cs)=false:=rfl
@[simp] def BOM (cs:List T):T.leaf (.cE cs)=false:=rfl
@[simp] def BPF (f:Bool) (rows:List (List T)):T.leaf (.sl f rows)=true:=rfl
@[simp] def BPE (f:Bool):T.leaf (.ne f)=true:=rfl
@[simp] def BNP (f:Bool):T.cells (.ne f)=[.ne f]:=rfl
@[simp] def BOZ (f:Bool):fO (.ne f)=some (f,[]):=rfl
@[simp] def BOK (cs:List T):T.leaf (.ref cs)=true:=rfl
@[simp] def BPD (f:FuncId) (a b:List T):T.leaf (.fn f a b)=true:=rfl
@[simp] def BLZ (k:IntKind) (n:Int):T.cells (.v (.int k n))=[.v (.int k n)]:=rfl
@[simp] def BL1 (s:iII):T.cells (.v (.string s))=[.v (.string s)]:=rfl
@[simp] def BHP (b:Bool):T.cells (.v (.bool b))=[.v (.bool b)]:=rfl
@[simp] def BF8 (a:Option Addr) (n c:Nat):T.cells (.v (.slice a n c))=[.v (.slice a n c)]:=rfl
@[simp] def A9U (a:Option Addr):T.cells (.v (.pointer a))=[.v (.pointer a)]:=rfl
@[simp] def BHR (a:Option Nat):T.cells (.v (.map a))=[.v (.map a)]:=rfl
@[simp] def BHQ (cs:Array Value):T.cells (.v (.agg cs))=cs.toList.map .v:=rfl
@[simp] def BLY (cs:List T):T.cells (.agg cs)=cs:=rfl
@[simp] def BNQ (f:Bool) (rows:List (List T)):T.cells (.sl f rows)=[.sl f rows]:=rfl
@[simp] def BL0 (cs:List T):T.cells (.ref cs)=[.ref cs]:=rfl
@[simp] def BNO (f:FuncId) (a b:List T):T.cells (.fn f a b)=[.fn f a b]:=rfl
@[simp] def BPG (k:Nat):((k:Int)<0)↔False:=by simp
@[simp] def BOP (k:Nat):((k:Int)+1<0)↔False:=by simp;omega
@[simp] def BO0 (f:Bool) (rows:List (List T)):fO (.sl f rows)=some (f,rows):=rfl
@[simp] def BL9:fO (.v (.slice none 0 0))=some (true,[]):=rfl
def bG (n:Int) (h1:-9223372036854775808<=n) (h2:n<=9223372036854775807):IntKind.i64.wrap n=n:=by
 simp only[IntKind.wrap,IntKind.bits,IntKind.signed];simp;omega
end Go.Pv
