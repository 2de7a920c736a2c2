/-
  The pure evaluator, part o: how code is walked, one piece at a time; lists that are read.
-/
import Derived.Test.YtipdohmdckdoeaaGreatDoorVawu
set_option linter.defProp false
set_option linter.unusedSimpArgs false
namespace Go.Pv
open Go Go.RowKit
@[simp] theorem AGV (k:IntKind) (n:Int):T.leaf (.v (.int k n))=true:=rfl
@[simp] theorem AGY (s:ByteArray):T.leaf (.v (.string s))=true:=rfl
@[simp] theorem AFS (b:Bool):T.leaf (.v (.bool b))=true:=rfl
@[simp] theorem AER (a:Option Addr) (n c:Nat):T.leaf (.v (.slice a n c))=true:=rfl
@[simp] theorem ABT (a:Option Addr):T.leaf (.v (.pointer a))=true:=rfl
@[simp] theorem AGW (a:Option Nat):T.leaf (.v (.map a))=true:=rfl
@[simp] theorem ABS:T.leaf (.v .nilFunc)=true:=rfl
@[simp] theorem ZW:T.leaf (.v .nilIface)=true:=rfl
@[simp] theorem AFT (cs:Array Value):T.leaf (.v (.agg cs))=false:=rfl
@[simp] theorem AGU (cs:List T):T.leaf (.agg cs)=false:=rfl
@[simp] theorem AGZ (cs:List T):T.leaf (.bN cs)=false:=rfl
@[simp] theorem AHT (f:Bool) (rows:List (List T)):T.leaf (.sl f rows)=true:=rfl
@[simp] theorem AHS (f:Bool):T.leaf (.ne f)=true:=rfl
@[simp] theorem AF6 (f:Bool):T.cells (.ne f)=[.ne f]:=rfl
@[simp] theorem AHE (f:Bool):dF (.ne f)=some (f,[]):=rfl
@[simp] theorem AGX (cs:List T):T.leaf (.ref cs)=true:=rfl
@[simp] theorem AHR (f:FuncId) (a b:List T):T.leaf (.fn f a b)=true:=rfl
@[simp] theorem AFK (k:IntKind) (n:Int):T.cells (.v (.int k n))=[.v (.int k n)]:=rfl
@[simp] theorem AFM (s:ByteArray):T.cells (.v (.string s))=[.v (.string s)]:=rfl
@[simp] theorem ADY (b:Bool):T.cells (.v (.bool b))=[.v (.bool b)]:=rfl
@[simp] theorem ACW (a:Option Addr) (n c:Nat):T.cells (.v (.slice a n c))=[.v (.slice a n c)]:=rfl
@[simp] theorem ZV (a:Option Addr):T.cells (.v (.pointer a))=[.v (.pointer a)]:=rfl
@[simp] theorem AD0 (a:Option Nat):T.cells (.v (.map a))=[.v (.map a)]:=rfl
@[simp] theorem ADZ (cs:Array Value):T.cells (.v (.agg cs))=cs.toList.map .v:=rfl
@[simp] theorem AFJ (cs:List T):T.cells (.agg cs)=cs:=rfl
@[simp] theorem AF7 (f:Bool) (rows:List (List T)):T.cells (.sl f rows)=[.sl f rows]:=rfl
@[simp] theorem AFL (cs:List T):T.cells (.ref cs)=[.ref cs]:=rfl
@[simp] theorem AF5 (f:FuncId) (a b:List T):T.cells (.fn f a b)=[.fn f a b]:=rfl
@[simp] theorem AHU (k:Nat):((k:Int)<0)↔False:=by simp
@[simp] theorem AG2 (k:Nat):((k:Int)+1<0)↔False:=by simp;omega
@[simp] theorem AHF (f:Bool) (rows:List (List T)):dF (.sl f rows)=some (f,rows):=rfl
@[simp] theorem AFU:dF (.v (.slice none 0 0))=some (true,[]):=rfl
theorem cX (n:Int) (h1:-9223372036854775808≤n) (h2:n≤9223372036854775807):IntKind.i64.wrap n=n:=by
 simp only[IntKind.wrap,IntKind.bits,IntKind.signed]
 simp
 omega
end Go.Pv
