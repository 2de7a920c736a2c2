/-
  DERIVED: THE SHELF's CONTRACTS AT THIS DUMP, IN PLAIN WORDS (tools/lay-plain.mjs out of 'TryzShelf.lean', which tools/lay-shelf.mjs wrote): THE SAME DECLARATIONS UNDER THE SAME NAMES: 'import', 'namespace', 'open', 'def', 'theorem' AND NOTHING ELSE: no command of the shelf's: FOR A HAND-IN. Each laying: the table of numbers ('.._ren') and one theorem, a field a fact of the dump's own or the kernel's comparison; each contract: ONE APPLICATION.
-/
import Derived.Ground.NamesProg
import Derived.Shelf.Strings.SplitShaped
import Derived.Test.YtjledgajjgkbhaaGreatDoorProg
set_option linter.defProp false
namespace Go.Proofs
open Go.Shelf
def Tryz.FA:Go.Shelf.Ren:=⟨fun|146=>119|221=>144|268=>170|138=>171|143=>172|195=>287|197=>288|218=>289|219=>290|260=>322|217=>323|225=>324|224=>325|267=>326|266=>339|314=>340|n=>n,fun|9=>9|31=>63|3=>3|4=>4|0=>0|105=>286|21=>21|5=>5|46=>156|119=>322|139=>325|138=>324|146=>326|51=>190|n=>n,fun|1=>0|3=>1|4=>2|n=>n⟩
theorem Tryz.AZ0:Go.Proofs.LaysM.n146 Tryz.prog Tryz.FA:={
 mixed:=by kernel_rfl
 f138:=Tryz.func171.trans (congrArg some (by kernel_rfl))
 f143:=Tryz.func172.trans (congrArg some (by kernel_rfl))
 f146:=Tryz.func119.trans (congrArg some (by kernel_rfl))
 f195:=Tryz.func287.trans (congrArg some (by kernel_rfl))
 f197:=Tryz.func288.trans (congrArg some (by kernel_rfl))
 f217:=Tryz.func323.trans (congrArg some (by kernel_rfl))
 f218:=Tryz.func289.trans (congrArg some (by kernel_rfl))
 f219:=Tryz.func290.trans (congrArg some (by kernel_rfl))
 f221:=Tryz.func144.trans (congrArg some (by kernel_rfl))
 f224:=Tryz.func325.trans (congrArg some (by kernel_rfl))
 f225:=Tryz.func324.trans (congrArg some (by kernel_rfl))
 f260:=Tryz.func322.trans (congrArg some (by kernel_rfl))
 f266:=Tryz.func339.trans (congrArg some (by kernel_rfl))
 f267:=Tryz.func326.trans (congrArg some (by kernel_rfl))
 f268:=Tryz.func170.trans (congrArg some (by kernel_rfl))
 f314:=Tryz.func340.trans (congrArg some (by kernel_rfl))
 t0:=Tryz.underlying0
 a0:=Tryz.isAgg0
 z0:=Tryz.sizeOf0
 v0:=Tryz.zeroValue0
 t3:=Tryz.underlying3
 a3:=Tryz.isAgg3
 z3:=Tryz.sizeOf3
 v3:=Tryz.zeroValue3
 t4:=Tryz.underlying4
 a4:=Tryz.isAgg4
 z4:=Tryz.sizeOf4
 v4:=Tryz.zeroValue4
 t5:=Tryz.underlying5
 a5:=Tryz.isAgg5
 z5:=Tryz.sizeOf5
 v5:=Tryz.zeroValue5
 t9:=Tryz.underlying9
 a9:=Tryz.isAgg9
 z9:=Tryz.sizeOf9
 v9:=Tryz.zeroValue9
 t21:=Tryz.underlying21
 a21:=Tryz.isAgg21
 z21:=Tryz.sizeOf21
 v21:=Tryz.zeroValue21
 t31:=Tryz.underlying63
 a31:=Tryz.isAgg63
 z31:=Tryz.sizeOf63
 v31:=Tryz.zeroValue63
 t46:=Tryz.underlying156
 a46:=Tryz.isAgg156
 z46:=Tryz.sizeOf156
 v46:=Tryz.zeroValue156
 t51:=Tryz.underlying190
 a51:=Tryz.isAgg190
 z51:=Tryz.sizeOf190
 v51:=Tryz.zeroValue190
 t105:=Tryz.underlying286
 a105:=Tryz.isAgg286
 z105:=Tryz.sizeOf286
 v105:=Tryz.zeroValue286
 t119:=Tryz.underlying322
 a119:=Tryz.isAgg322
 z119:=Tryz.sizeOf322
 t138:=Tryz.underlying324
 a138:=Tryz.isAgg324
 z138:=Tryz.sizeOf324
 v138:=Tryz.zeroValue324
 t139:=Tryz.underlying325
 a139:=Tryz.isAgg325
 z139:=Tryz.sizeOf325
 v139:=Tryz.zeroValue325
 t146:=Tryz.underlying326
 a146:=Tryz.isAgg326
 z146:=Tryz.sizeOf326
 v146:=Tryz.zeroValue326
 g1:=by kernel_rfl
 g3:=by kernel_rfl
 g4:=by kernel_rfl
 i0:=by kernel_rfl
 i3:=by kernel_rfl
 i4:=by kernel_rfl
 i5:=by kernel_rfl
 i9:=by kernel_rfl
 i21:=by kernel_rfl
 i31:=by kernel_rfl
 i46:=by kernel_rfl
 i51:=by kernel_rfl
 i105:=by kernel_rfl
 i138:=by kernel_rfl
 i139:=by kernel_rfl
 i146:=by kernel_rfl
 m1:=by kernel_rfl
 s1_3:=fun w h=>Go.Proofs.cell_of_shapedOpen_int (zero:=#[.int .i64 0]) (t:=3) h (of_decide_eq_true (by kernel_rfl)) (by kernel_rfl) rfl (by kernel_rfl) (by kernel_rfl) Tryz.underlying3
 m3:=by kernel_rfl
 m4:=by kernel_rfl }
end Go.Proofs
