/-
  The pure evaluator, part o: how code is walked, one piece at a time; lists that are read.
-/
import Derived.Test.YtcnfagefgkblkaaGreatDoorVrwu
set_option linter.defProp false
set_option linter.unusedSimpArgs false
namespace Go.Pv
open Go Go.RowKit
@[simp] def BPH (k:IntKind) (n:Int):T.leaf (.v (.int k n))=true:=rfl
@[simp] def BPK (s:iII):T.leaf (.v (.string s))=true:=rfl
@[simp] def BNI (b:Bool):T.leaf (.v (.bool b))=true:=rfl
@[simp] def BK6 (a:Option Addr) (n c:Nat):T.leaf (.v (.slice a n c))=true:=rfl
@[simp] def BEF (a:Option Addr):T.leaf (.v (.pointer a))=true:=rfl
@[simp] def BPI (a:Option Nat):T.leaf (.v (.map a))=true:=rfl
@[simp] def BEE:T.leaf (.v .nilFunc)=true:=rfl
@[simp] def A99:T.leaf (.v .nilIface)=true:=rfl
@[simp] def BNJ (cs:Array Value):T.leaf (.v (.agg cs))=false:=rfl
@[simp] def BPG (cs:List T):T.leaf (.agg cs)=false:=rfl
@[simp] def BPL (cs:List T):T.leaf (.bX cs)=false:=rfl
@[simp] def BQG (f:Bool) (rows:List (List T)):T.leaf (.sl f rows)=true:=rfl
@[simp] def BQF (f:Bool):T.leaf (.ne f)=true:=rfl
@[simp] def BO0 (f:Bool):T.cells (.ne f)=[.ne f]:=rfl
@[simp] def BPY (f:Bool):fP (.ne f)=some (f,[]):=rfl
@[simp] def BPJ (cs:List T):T.leaf (.ref cs)=true:=rfl
@[simp] def BQE (f:FuncId) (a b:List T):T.leaf (.fn f a b)=true:=rfl
@[simp] def BNA (k:IntKind) (n:Int):T.cells (.v (.int k n))=[.v (.int k n)]:=rfl
@[simp] def BNC (s:iII):T.cells (.v (.string s))=[.v (.string s)]:=rfl
@[simp] def BI8 (b:Bool):T.cells (.v (.bool b))=[.v (.bool b)]:=rfl
@[simp] def BG4 (a:Option Addr) (n c:Nat):T.cells (.v (.slice a n c))=[.v (.slice a n c)]:=rfl
@[simp] def A98 (a:Option Addr):T.cells (.v (.pointer a))=[.v (.pointer a)]:=rfl
@[simp] def BJA (a:Option Nat):T.cells (.v (.map a))=[.v (.map a)]:=rfl
@[simp] def BI9 (cs:Array Value):T.cells (.v (.agg cs))=cs.toList.map .v:=rfl
@[simp] def BM9 (cs:List T):T.cells (.agg cs)=cs:=rfl
@[simp] def BO1 (f:Bool) (rows:List (List T)):T.cells (.sl f rows)=[.sl f rows]:=rfl
@[simp] def BNB (cs:List T):T.cells (.ref cs)=[.ref cs]:=rfl
@[simp] def BOZ (f:FuncId) (a b:List T):T.cells (.fn f a b)=[.fn f a b]:=rfl
@[simp] def BQH (k:Nat):((k:Int)<0)↔False:=by simp
@[simp] def BPN (k:Nat):((k:Int)+1<0)↔False:=by simp;omega
@[simp] def BPZ (f:Bool) (rows:List (List T)):fP (.sl f rows)=some (f,rows):=rfl
@[simp] def BNK:fP (.v (.slice none 0 0))=some (true,[]):=rfl
def bD (n:Int) (h1:-9223372036854775808<=n) (h2:n<=9223372036854775807):IntKind.i64.wrap n=n:=by
 simp only[IntKind.wrap,IntKind.bits,IntKind.signed];simp;omega
end Go.Pv
