/-
  DERIVED: THE SHELF's CONTRACTS AT THIS DUMP, IN PLAIN WORDS (tools/lay-plain.mjs out of 'TryzShelf.lean', which tools/lay-shelf.mjs wrote): THE SAME DECLARATIONS UNDER THE SAME NAMES: 'import', 'namespace', 'open', 'def', 'theorem' AND NOTHING ELSE: no command of the shelf's: FOR A HAND-IN. Each laying: the table of numbers ('.._ren') and one theorem, a field a fact of the dump's own or the kernel's comparison; each contract: ONE APPLICATION.
-/
import Derived.Ground.NamesProg
import Derived.Shelf.Strings.SplitShaped
import Derived.Test.YtokajdeigdelgaaGreatDoorProg
set_option linter.defProp false
namespace Go.Proofs
open Go.Shelf
def Tryz.pU:Go.Shelf.Ren:=⟨fun|146=>311|221=>351|268=>374|138=>375|143=>376|195=>391|197=>392|218=>393|219=>394|260=>408|217=>409|225=>410|224=>411|267=>412|266=>415|314=>416|n=>n,fun|9=>9|31=>31|3=>3|4=>4|0=>0|105=>366|21=>21|5=>5|46=>177|119=>378|139=>381|138=>380|146=>382|51=>233|n=>n,fun|1=>0|3=>1|4=>2|n=>n⟩
theorem Tryz.LL:Go.Proofs.LaysM.n146 Tryz.prog Tryz.pU:={
 mixed:=by kernel_rfl
 f138:=Tryz.func375.trans (congrArg some (by kernel_rfl))
 f143:=Tryz.func376.trans (congrArg some (by kernel_rfl))
 f146:=Tryz.func311.trans (congrArg some (by kernel_rfl))
 f195:=Tryz.func391.trans (congrArg some (by kernel_rfl))
 f197:=Tryz.func392.trans (congrArg some (by kernel_rfl))
 f217:=Tryz.func409.trans (congrArg some (by kernel_rfl))
 f218:=Tryz.func393.trans (congrArg some (by kernel_rfl))
 f219:=Tryz.func394.trans (congrArg some (by kernel_rfl))
 f221:=Tryz.func351.trans (congrArg some (by kernel_rfl))
 f224:=Tryz.func411.trans (congrArg some (by kernel_rfl))
 f225:=Tryz.func410.trans (congrArg some (by kernel_rfl))
 f260:=Tryz.func408.trans (congrArg some (by kernel_rfl))
 f266:=Tryz.func415.trans (congrArg some (by kernel_rfl))
 f267:=Tryz.func412.trans (congrArg some (by kernel_rfl))
 f268:=Tryz.func374.trans (congrArg some (by kernel_rfl))
 f314:=Tryz.func416.trans (congrArg some (by kernel_rfl))
 t0:=Tryz.underlying0
 a0:=Tryz.isAgg0
 z0:=Tryz.sizeOf0
 v0:=Tryz.zeroValue0
 t3:=Tryz.underlying3
 a3:=Tryz.isAgg3
 z3:=Tryz.sizeOf3
 v3:=Tryz.zeroValue3
 t4:=Tryz.underlying4
 a4:=Tryz.isAgg4
 z4:=Tryz.sizeOf4
 v4:=Tryz.zeroValue4
 t5:=Tryz.underlying5
 a5:=Tryz.isAgg5
 z5:=Tryz.sizeOf5
 v5:=Tryz.zeroValue5
 t9:=Tryz.underlying9
 a9:=Tryz.isAgg9
 z9:=Tryz.sizeOf9
 v9:=Tryz.zeroValue9
 t21:=Tryz.underlying21
 a21:=Tryz.isAgg21
 z21:=Tryz.sizeOf21
 v21:=Tryz.zeroValue21
 t31:=Tryz.underlying31
 a31:=Tryz.isAgg31
 z31:=Tryz.sizeOf31
 v31:=Tryz.zeroValue31
 t46:=Tryz.underlying177
 a46:=Tryz.isAgg177
 z46:=Tryz.sizeOf177
 v46:=Tryz.zeroValue177
 t51:=Tryz.underlying233
 a51:=Tryz.isAgg233
 z51:=Tryz.sizeOf233
 v51:=Tryz.zeroValue233
 t105:=Tryz.underlying366
 a105:=Tryz.isAgg366
 z105:=Tryz.sizeOf366
 v105:=Tryz.zeroValue366
 t119:=Tryz.underlying378
 a119:=Tryz.isAgg378
 z119:=Tryz.sizeOf378
 t138:=Tryz.underlying380
 a138:=Tryz.isAgg380
 z138:=Tryz.sizeOf380
 v138:=Tryz.zeroValue380
 t139:=Tryz.underlying381
 a139:=Tryz.isAgg381
 z139:=Tryz.sizeOf381
 v139:=Tryz.zeroValue381
 t146:=Tryz.underlying382
 a146:=Tryz.isAgg382
 z146:=Tryz.sizeOf382
 v146:=Tryz.zeroValue382
 g1:=by kernel_rfl
 g3:=by kernel_rfl
 g4:=by kernel_rfl
 i0:=by kernel_rfl
 i3:=by kernel_rfl
 i4:=by kernel_rfl
 i5:=by kernel_rfl
 i9:=by kernel_rfl
 i21:=by kernel_rfl
 i31:=by kernel_rfl
 i46:=by kernel_rfl
 i51:=by kernel_rfl
 i105:=by kernel_rfl
 i138:=by kernel_rfl
 i139:=by kernel_rfl
 i146:=by kernel_rfl
 m1:=by kernel_rfl
 s1_3:=fun w h=>Go.Proofs.cell_of_shapedOpen_int (zero:=#[.int .i64 0]) (t:=3) h (of_decide_eq_true (by kernel_rfl)) (by kernel_rfl) rfl (by kernel_rfl) (by kernel_rfl) Tryz.underlying3
 m3:=by kernel_rfl
 m4:=by kernel_rfl }
end Go.Proofs
