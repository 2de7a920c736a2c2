/-
  The pure evaluator, part o: how code is walked, one piece at a time; lists that are read.
-/
import Derived.Test.YtipdohmdckdoeaaGreatDoorVdwu
set_option linter.defProp false
set_option linter.unusedSimpArgs false
namespace Go.Pv
open Go Go.RowKit
@[simp] def BH7 (k:IntKind) (n:Int):T.leaf (.v (.int k n))=true:=rfl
@[simp] def BIA (s:iII):T.leaf (.v (.string s))=true:=rfl
@[simp] def BFV (b:Bool):T.leaf (.v (.bool b))=true:=rfl
@[simp] def BDG (a:Option Addr) (n c:Nat):T.leaf (.v (.slice a n c))=true:=rfl
@[simp] def A7A (a:Option Addr):T.leaf (.v (.pointer a))=true:=rfl
@[simp] def BH8 (a:Option Nat):T.leaf (.v (.map a))=true:=rfl
@[simp] def A69:T.leaf (.v .nilFunc)=true:=rfl
@[simp] def A3F:T.leaf (.v .nilIface)=true:=rfl
@[simp] def BFW (cs:Array Value):T.leaf (.v (.agg cs))=false:=rfl
@[simp] def BH6 (cs:List T):T.leaf (.agg cs)=false:=rfl
@[simp] def BIB (cs:List T):T.leaf (.b9 cs)=false:=rfl
@[simp] def BI3 (f:Bool) (rows:List (List T)):T.leaf (.sl f rows)=true:=rfl
@[simp] def BI2 (f:Bool):T.leaf (.ne f)=true:=rfl
@[simp] def BHE (f:Bool):T.cells (.ne f)=[.ne f]:=rfl
@[simp] def BIN (f:Bool):fA (.ne f)=some (f,[]):=rfl
@[simp] def BH9 (cs:List T):T.leaf (.ref cs)=true:=rfl
@[simp] def BI1 (f:FuncId) (a b:List T):T.leaf (.fn f a b)=true:=rfl
@[simp] def BFN (k:IntKind) (n:Int):T.cells (.v (.int k n))=[.v (.int k n)]:=rfl
@[simp] def BFP (s:iII):T.cells (.v (.string s))=[.v (.string s)]:=rfl
@[simp] def BBB (b:Bool):T.cells (.v (.bool b))=[.v (.bool b)]:=rfl
@[simp] def A9Q (a:Option Addr) (n c:Nat):T.cells (.v (.slice a n c))=[.v (.slice a n c)]:=rfl
@[simp] def A3E (a:Option Addr):T.cells (.v (.pointer a))=[.v (.pointer a)]:=rfl
@[simp] def BBD (a:Option Nat):T.cells (.v (.map a))=[.v (.map a)]:=rfl
@[simp] def BBC (cs:Array Value):T.cells (.v (.agg cs))=cs.toList.map .v:=rfl
@[simp] def BFM (cs:List T):T.cells (.agg cs)=cs:=rfl
@[simp] def BHF (f:Bool) (rows:List (List T)):T.cells (.sl f rows)=[.sl f rows]:=rfl
@[simp] def BFO (cs:List T):T.cells (.ref cs)=[.ref cs]:=rfl
@[simp] def BHD (f:FuncId) (a b:List T):T.cells (.fn f a b)=[.fn f a b]:=rfl
@[simp] def BI4 (k:Nat):((k:Int)<0)↔False:=by simp
@[simp] def BID (k:Nat):((k:Int)+1<0)↔False:=by simp;omega
@[simp] def BIO (f:Bool) (rows:List (List T)):fA (.sl f rows)=some (f,rows):=rfl
@[simp] def BFX:fA (.v (.slice none 0 0))=some (true,[]):=rfl
def bH (n:Int) (h1:-9223372036854775808<=n) (h2:n<=9223372036854775807):IntKind.i64.wrap n=n:=by
 simp only[IntKind.wrap,IntKind.bits,IntKind.signed];simp;omega
end Go.Pv
