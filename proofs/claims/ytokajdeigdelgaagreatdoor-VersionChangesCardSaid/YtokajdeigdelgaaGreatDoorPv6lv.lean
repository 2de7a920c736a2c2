/-
  DERIVED: THE SHELF's CONTRACTS AT THIS DUMP, IN PLAIN WORDS (tools/lay-plain.mjs out of 'TryzSheli.lean', which tools/lay-shelf.mjs wrote): THE SAME DECLARATIONS UNDER THE SAME NAMES: 'import', 'namespace', 'open', 'def', 'theorem' AND NOTHING ELSE: no command of the shelf's: FOR A HAND-IN. Each laying: the table of numbers ('.._ren') and one theorem, a field a fact of the dump's own or the kernel's comparison; each contract: ONE APPLICATION.
-/
import Derived.Ground.NamesProg
import Derived.Shelf.Sort.Plain
import Derived.Shelf.Slices.In.SortNone
import Derived.Shelf.Slices.CompactS
import Derived.Test.YtokajdeigdelgaaGreatDoorProg
set_option linter.defProp false
namespace Go.Proofs
open Go.Shelf
def Tryz.B3:Go.Shelf.Ren:=⟨fun|190=>52|125=>106|258=>105|128=>158|129=>159|302=>149|303=>150|304=>151|305=>152|306=>153|307=>154|308=>155|309=>156|310=>157|333=>199|329=>200|330=>201|334=>202|335=>203|336=>204|344=>327|n=>n,fun|31=>31|9=>9|3=>3|46=>177|0=>0|51=>233|53=>188|4=>4|183=>225|182=>224|131=>230|5=>5|218=>265|222=>269|228=>314|229=>315|n=>n,fun|n=>n⟩
theorem Tryz.F9:Go.Proofs.Lays.n190 Tryz.prog Tryz.B3:={
 mixed:=by kernel_rfl
 f125:=Tryz.func106.trans (congrArg some (by kernel_rfl))
 f128:=Tryz.func158.trans (congrArg some (by kernel_rfl))
 f129:=Tryz.func159.trans (congrArg some (by kernel_rfl))
 f190:=Tryz.func52.trans (congrArg some (by kernel_rfl))
 f258:=Tryz.func105.trans (congrArg some (by kernel_rfl))
 f302:=Tryz.func149.trans (congrArg some (by kernel_rfl))
 f303:=Tryz.func150.trans (congrArg some (by kernel_rfl))
 f304:=Tryz.func151.trans (congrArg some (by kernel_rfl))
 f305:=Tryz.func152.trans (congrArg some (by kernel_rfl))
 f306:=Tryz.func153.trans (congrArg some (by kernel_rfl))
 f307:=Tryz.func154.trans (congrArg some (by kernel_rfl))
 f308:=Tryz.func155.trans (congrArg some (by kernel_rfl))
 f309:=Tryz.func156.trans (congrArg some (by kernel_rfl))
 f310:=Tryz.func157.trans (congrArg some (by kernel_rfl))
 f329:=Tryz.func200.trans (congrArg some (by kernel_rfl))
 f330:=Tryz.func201.trans (congrArg some (by kernel_rfl))
 f333:=Tryz.func199.trans (congrArg some (by kernel_rfl))
 f334:=Tryz.func202.trans (congrArg some (by kernel_rfl))
 f335:=Tryz.func203.trans (congrArg some (by kernel_rfl))
 f336:=Tryz.func204.trans (congrArg some (by kernel_rfl))
 f344:=Tryz.func327.trans (congrArg some (by kernel_rfl))
 t0:=Tryz.underlying0
 a0:=Tryz.isAgg0
 z0:=Tryz.sizeOf0
 v0:=Tryz.zeroValue0
 t3:=Tryz.underlying3
 a3:=Tryz.isAgg3
 z3:=Tryz.sizeOf3
 v3:=Tryz.zeroValue3
 t4:=Tryz.underlying4
 a4:=Tryz.isAgg4
 z4:=Tryz.sizeOf4
 v4:=Tryz.zeroValue4
 t5:=Tryz.underlying5
 a5:=Tryz.isAgg5
 z5:=Tryz.sizeOf5
 v5:=Tryz.zeroValue5
 t9:=Tryz.underlying9
 a9:=Tryz.isAgg9
 z9:=Tryz.sizeOf9
 v9:=Tryz.zeroValue9
 t31:=Tryz.underlying31
 a31:=Tryz.isAgg31
 z31:=Tryz.sizeOf31
 v31:=Tryz.zeroValue31
 t46:=Tryz.underlying177
 a46:=Tryz.isAgg177
 z46:=Tryz.sizeOf177
 v46:=Tryz.zeroValue177
 t51:=Tryz.underlying233
 a51:=Tryz.isAgg233
 z51:=Tryz.sizeOf233
 v51:=Tryz.zeroValue233
 t53:=Tryz.underlying188
 a53:=Tryz.isAgg188
 z53:=Tryz.sizeOf188
 v53:=Tryz.zeroValue188
 t131:=Tryz.underlying230
 a131:=Tryz.isAgg230
 z131:=Tryz.sizeOf230
 v131:=Tryz.zeroValue230
 t182:=Tryz.underlying224
 a182:=Tryz.isAgg224
 z182:=Tryz.sizeOf224
 v182:=Tryz.zeroValue224
 t183:=Tryz.underlying225
 a183:=Tryz.isAgg225
 z183:=Tryz.sizeOf225
 v183:=Tryz.zeroValue225
 t218:=Tryz.underlying265
 a218:=Tryz.isAgg265
 z218:=Tryz.sizeOf265
 v218:=Tryz.zeroValue265
 t222:=Tryz.underlying269
 a222:=Tryz.isAgg269
 z222:=Tryz.sizeOf269
 v222:=Tryz.zeroValue269
 t228:=Tryz.underlying314
 a228:=Tryz.isAgg314
 z228:=Tryz.sizeOf314
 v228:=Tryz.zeroValue314
 t229:=Tryz.underlying315
 a229:=Tryz.isAgg315
 z229:=Tryz.sizeOf315
 v229:=Tryz.zeroValue315 }
def Tryz.B4:Go.Shelf.Ren:=⟨fun|194=>53|n=>n,fun|31=>31|9=>9|3=>3|4=>4|0=>0|n=>n,fun|n=>n⟩
theorem Tryz.GA:Go.Proofs.Lays.n194 Tryz.prog Tryz.B4:={
 mixed:=by kernel_rfl
 f194:=Tryz.func53.trans (congrArg some (by kernel_rfl))
 t0:=Tryz.underlying0
 a0:=Tryz.isAgg0
 z0:=Tryz.sizeOf0
 v0:=Tryz.zeroValue0
 t3:=Tryz.underlying3
 a3:=Tryz.isAgg3
 z3:=Tryz.sizeOf3
 v3:=Tryz.zeroValue3
 t4:=Tryz.underlying4
 a4:=Tryz.isAgg4
 z4:=Tryz.sizeOf4
 v4:=Tryz.zeroValue4
 t9:=Tryz.underlying9
 a9:=Tryz.isAgg9
 z9:=Tryz.sizeOf9
 v9:=Tryz.zeroValue9
 t31:=Tryz.underlying31
 a31:=Tryz.isAgg31
 z31:=Tryz.sizeOf31
 v31:=Tryz.zeroValue31 }
end Go.Proofs
