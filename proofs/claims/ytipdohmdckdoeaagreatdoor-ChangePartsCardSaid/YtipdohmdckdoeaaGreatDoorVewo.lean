/-
  The pure evaluator, part o: how code is walked, one piece at a time; lists that are read.
-/
import Derived.Test.YtipdohmdckdoeaaGreatDoorVewu
set_option linter.defProp false
set_option linter.unusedSimpArgs false
namespace Go.Pv
open Go Go.RowKit
@[simp] def BH6 (k:IntKind) (n:Int):T.leaf (.v (.int k n))=true:=rfl
@[simp] def BH9 (s:iII):T.leaf (.v (.string s))=true:=rfl
@[simp] def BFR (b:Bool):T.leaf (.v (.bool b))=true:=rfl
@[simp] def BDA (a:Option Addr) (n c:Nat):T.leaf (.v (.slice a n c))=true:=rfl
@[simp] def A66 (a:Option Addr):T.leaf (.v (.pointer a))=true:=rfl
@[simp] def BH7 (a:Option Nat):T.leaf (.v (.map a))=true:=rfl
@[simp] def A65:T.leaf (.v .nilFunc)=true:=rfl
@[simp] def A3E:T.leaf (.v .nilIface)=true:=rfl
@[simp] def BFS (cs:Array Value):T.leaf (.v (.agg cs))=false:=rfl
@[simp] def BH5 (cs:List T):T.leaf (.agg cs)=false:=rfl
@[simp] def BIA (cs:List T):T.leaf (.b7 cs)=false:=rfl
@[simp] def BIZ (f:Bool) (rows:List (List T)):T.leaf (.sl f rows)=true:=rfl
@[simp] def BIY (f:Bool):T.leaf (.ne f)=true:=rfl
@[simp] def BHB (f:Bool):T.cells (.ne f)=[.ne f]:=rfl
@[simp] def BIK (f:Bool):eZ (.ne f)=some (f,[]):=rfl
@[simp] def BH8 (cs:List T):T.leaf (.ref cs)=true:=rfl
@[simp] def BIX (f:FuncId) (a b:List T):T.leaf (.fn f a b)=true:=rfl
@[simp] def BFJ (k:IntKind) (n:Int):T.cells (.v (.int k n))=[.v (.int k n)]:=rfl
@[simp] def BFL (s:iII):T.cells (.v (.string s))=[.v (.string s)]:=rfl
@[simp] def BA1 (b:Bool):T.cells (.v (.bool b))=[.v (.bool b)]:=rfl
@[simp] def A9L (a:Option Addr) (n c:Nat):T.cells (.v (.slice a n c))=[.v (.slice a n c)]:=rfl
@[simp] def A3D (a:Option Addr):T.cells (.v (.pointer a))=[.v (.pointer a)]:=rfl
@[simp] def BA3 (a:Option Nat):T.cells (.v (.map a))=[.v (.map a)]:=rfl
@[simp] def BA2 (cs:Array Value):T.cells (.v (.agg cs))=cs.toList.map .v:=rfl
@[simp] def BFI (cs:List T):T.cells (.agg cs)=cs:=rfl
@[simp] def BHC (f:Bool) (rows:List (List T)):T.cells (.sl f rows)=[.sl f rows]:=rfl
@[simp] def BFK (cs:List T):T.cells (.ref cs)=[.ref cs]:=rfl
@[simp] def BHA (f:FuncId) (a b:List T):T.cells (.fn f a b)=[.fn f a b]:=rfl
@[simp] def BI0 (k:Nat):((k:Int)<0)↔False:=by simp
@[simp] def BID (k:Nat):((k:Int)+1<0)↔False:=by simp;omega
@[simp] def BIL (f:Bool) (rows:List (List T)):eZ (.sl f rows)=some (f,rows):=rfl
@[simp] def BFT:eZ (.v (.slice none 0 0))=some (true,[]):=rfl
def bG (n:Int) (h1:-9223372036854775808<=n) (h2:n<=9223372036854775807):IntKind.i64.wrap n=n:=by
 simp only[IntKind.wrap,IntKind.bits,IntKind.signed];simp;omega
end Go.Pv
