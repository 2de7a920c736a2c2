/-
  DERIVED: THE SHELF's CONTRACTS AT THIS DUMP, IN PLAIN WORDS (tools/lay-plain.mjs out of 'TryzSheli.lean', which tools/lay-shelf.mjs wrote): THE SAME DECLARATIONS UNDER THE SAME NAMES: 'import', 'namespace', 'open', 'def', 'theorem' AND NOTHING ELSE: no command of the shelf's: FOR A HAND-IN. Each laying: the table of numbers ('.._ren') and one theorem, a field a fact of the dump's own or the kernel's comparison; each contract: ONE APPLICATION.
-/
import Derived.Ground.NamesProg
import Derived.Shelf.Sort.Plain
import Derived.Shelf.Slices.In.SortNone
import Derived.Shelf.Slices.CompactS
import Derived.Test.YtipdohmdckdoeaaGreatDoorProg
set_option linter.defProp false
namespace Go.Proofs
open Go.Shelf
def Tryz.ACU:Go.Shelf.Ren:=⟨λ|190=>71|125=>114|258=>113|128=>254|129=>255|302=>245|303=>246|304=>247|305=>248|306=>249|307=>250|308=>251|309=>252|310=>253|333=>300|329=>301|330=>302|334=>303|335=>304|336=>296|344=>332|n=>n,λ|31=>62|9=>9|3=>3|46=>149|0=>0|51=>246|53=>126|4=>4|183=>239|182=>238|131=>189|5=>5|218=>285|222=>289|228=>315|229=>316|n=>n,λ|n=>n⟩
def Tryz.AMC:Go.Proofs.Lays.n190 Tryz.prog Tryz.ACU:={
 mixed:=by kernel_rfl
 f125:=Tryz.func114.trans (congrArg some (by kernel_rfl))
 f128:=Tryz.func254.trans (congrArg some (by kernel_rfl))
 f129:=Tryz.func255.trans (congrArg some (by kernel_rfl))
 f190:=Tryz.func71.trans (congrArg some (by kernel_rfl))
 f258:=Tryz.func113.trans (congrArg some (by kernel_rfl))
 f302:=Tryz.func245.trans (congrArg some (by kernel_rfl))
 f303:=Tryz.func246.trans (congrArg some (by kernel_rfl))
 f304:=Tryz.func247.trans (congrArg some (by kernel_rfl))
 f305:=Tryz.func248.trans (congrArg some (by kernel_rfl))
 f306:=Tryz.func249.trans (congrArg some (by kernel_rfl))
 f307:=Tryz.func250.trans (congrArg some (by kernel_rfl))
 f308:=Tryz.func251.trans (congrArg some (by kernel_rfl))
 f309:=Tryz.func252.trans (congrArg some (by kernel_rfl))
 f310:=Tryz.func253.trans (congrArg some (by kernel_rfl))
 f329:=Tryz.func301.trans (congrArg some (by kernel_rfl))
 f330:=Tryz.func302.trans (congrArg some (by kernel_rfl))
 f333:=Tryz.func300.trans (congrArg some (by kernel_rfl))
 f334:=Tryz.func303.trans (congrArg some (by kernel_rfl))
 f335:=Tryz.func304.trans (congrArg some (by kernel_rfl))
 f336:=Tryz.func296.trans (congrArg some (by kernel_rfl))
 f344:=Tryz.func332.trans (congrArg some (by kernel_rfl))
 t0:=Tryz.underlying0
 a0:=Tryz.isAgg0
 z0:=Tryz.sizeOf0
 v0:=Tryz.zeroValue0
 t3:=Tryz.underlying3
 a3:=Tryz.isAgg3
 z3:=Tryz.sizeOf3
 v3:=Tryz.zeroValue3
 t4:=Tryz.underlying4
 a4:=Tryz.isAgg4
 z4:=Tryz.sizeOf4
 v4:=Tryz.zeroValue4
 t5:=Tryz.underlying5
 a5:=Tryz.isAgg5
 z5:=Tryz.sizeOf5
 v5:=Tryz.zeroValue5
 t9:=Tryz.underlying9
 a9:=Tryz.isAgg9
 z9:=Tryz.sizeOf9
 v9:=Tryz.zeroValue9
 t31:=Tryz.underlying62
 a31:=Tryz.isAgg62
 z31:=Tryz.sizeOf62
 v31:=Tryz.zeroValue62
 t46:=Tryz.underlying149
 a46:=Tryz.isAgg149
 z46:=Tryz.sizeOf149
 v46:=Tryz.zeroValue149
 t51:=Tryz.underlying246
 a51:=Tryz.isAgg246
 z51:=Tryz.sizeOf246
 v51:=Tryz.zeroValue246
 t53:=Tryz.underlying126
 a53:=Tryz.isAgg126
 z53:=Tryz.sizeOf126
 v53:=Tryz.zeroValue126
 t131:=Tryz.underlying189
 a131:=Tryz.isAgg189
 z131:=Tryz.sizeOf189
 v131:=Tryz.zeroValue189
 t182:=Tryz.underlying238
 a182:=Tryz.isAgg238
 z182:=Tryz.sizeOf238
 v182:=Tryz.zeroValue238
 t183:=Tryz.underlying239
 a183:=Tryz.isAgg239
 z183:=Tryz.sizeOf239
 v183:=Tryz.zeroValue239
 t218:=Tryz.underlying285
 a218:=Tryz.isAgg285
 z218:=Tryz.sizeOf285
 v218:=Tryz.zeroValue285
 t222:=Tryz.underlying289
 a222:=Tryz.isAgg289
 z222:=Tryz.sizeOf289
 v222:=Tryz.zeroValue289
 t228:=Tryz.underlying315
 a228:=Tryz.isAgg315
 z228:=Tryz.sizeOf315
 v228:=Tryz.zeroValue315
 t229:=Tryz.underlying316
 a229:=Tryz.isAgg316
 z229:=Tryz.sizeOf316
 v229:=Tryz.zeroValue316 }
end Go.Proofs
