/-
  The pure evaluator, part o: how code is walked, one piece at a time; lists that are read.
-/
import Derived.Test.YtipdohmdckdoeaaGreatDoorVfwu
set_option linter.defProp false
set_option linter.unusedSimpArgs false
namespace Go.Pv
open Go Go.RowKit
@[simp] def BNE (k:IntKind) (n:Int):T.leaf (.v (.int k n))=true:=rfl
@[simp] def BNH (s:iII):T.leaf (.v (.string s))=true:=rfl
@[simp] def BK0 (b:Bool):T.leaf (.v (.bool b))=true:=rfl
@[simp] def BH7 (a:Option Addr) (n c:Nat):T.leaf (.v (.slice a n c))=true:=rfl
@[simp] def BBE (a:Option Addr):T.leaf (.v (.pointer a))=true:=rfl
@[simp] def BNF (a:Option Nat):T.leaf (.v (.map a))=true:=rfl
@[simp] def BBD:T.leaf (.v .nilFunc)=true:=rfl
@[simp] def A7A:T.leaf (.v .nilIface)=true:=rfl
@[simp] def BK1 (cs:Array Value):T.leaf (.v (.agg cs))=false:=rfl
@[simp] def BND (cs:List T):T.leaf (.agg cs)=false:=rfl
@[simp] def BNI (cs:List T):T.leaf (.bY cs)=false:=rfl
@[simp] def BN9 (f:Bool) (rows:List (List T)):T.leaf (.sl f rows)=true:=rfl
@[simp] def BN8 (f:Bool):T.leaf (.ne f)=true:=rfl
@[simp] def BML (f:Bool):T.cells (.ne f)=[.ne f]:=rfl
@[simp] def BNS (f:Bool):fK (.ne f)=some (f,[]):=rfl
@[simp] def BNG (cs:List T):T.leaf (.ref cs)=true:=rfl
@[simp] def BN7 (f:FuncId) (a b:List T):T.leaf (.fn f a b)=true:=rfl
@[simp] def BKS (k:IntKind) (n:Int):T.cells (.v (.int k n))=[.v (.int k n)]:=rfl
@[simp] def BKU (s:iII):T.cells (.v (.string s))=[.v (.string s)]:=rfl
@[simp] def BFP (b:Bool):T.cells (.v (.bool b))=[.v (.bool b)]:=rfl
@[simp] def BD3 (a:Option Addr) (n c:Nat):T.cells (.v (.slice a n c))=[.v (.slice a n c)]:=rfl
@[simp] def A69 (a:Option Addr):T.cells (.v (.pointer a))=[.v (.pointer a)]:=rfl
@[simp] def BFR (a:Option Nat):T.cells (.v (.map a))=[.v (.map a)]:=rfl
@[simp] def BFQ (cs:Array Value):T.cells (.v (.agg cs))=cs.toList.map .v:=rfl
@[simp] def BKR (cs:List T):T.cells (.agg cs)=cs:=rfl
@[simp] def BMM (f:Bool) (rows:List (List T)):T.cells (.sl f rows)=[.sl f rows]:=rfl
@[simp] def BKT (cs:List T):T.cells (.ref cs)=[.ref cs]:=rfl
@[simp] def BMK (f:FuncId) (a b:List T):T.cells (.fn f a b)=[.fn f a b]:=rfl
@[simp] def BOA (k:Nat):((k:Int)<0)↔False:=by simp
@[simp] def BNK (k:Nat):((k:Int)+1<0)↔False:=by simp;omega
@[simp] def BNT (f:Bool) (rows:List (List T)):fK (.sl f rows)=some (f,rows):=rfl
@[simp] def BK2:fK (.v (.slice none 0 0))=some (true,[]):=rfl
def bB (n:Int) (h1:-9223372036854775808<=n) (h2:n<=9223372036854775807):IntKind.i64.wrap n=n:=by
 simp only[IntKind.wrap,IntKind.bits,IntKind.signed];simp;omega
end Go.Pv
