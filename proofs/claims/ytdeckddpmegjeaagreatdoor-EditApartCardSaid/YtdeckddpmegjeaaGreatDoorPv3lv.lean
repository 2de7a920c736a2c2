/-
  DERIVED: THE SHELF's CONTRACTS AT THIS DUMP, IN PLAIN WORDS (tools/lay-plain.mjs out of 'TryzSheli.lean', which tools/lay-shelf.mjs wrote): THE SAME DECLARATIONS UNDER THE SAME NAMES: 'import', 'namespace', 'open', 'def', 'theorem' AND NOTHING ELSE: no command of the shelf's: FOR A HAND-IN. Each laying: the table of numbers ('.._ren') and one theorem, a field a fact of the dump's own or the kernel's comparison; each contract: ONE APPLICATION.
-/
import Derived.Ground.NamesProg
import Derived.Shelf.Sort.Plain
import Derived.Shelf.Slices.In.SortNone
import Derived.Shelf.Slices.CompactS
import Derived.Test.YtdeckddpmegjeaaGreatDoorProg
set_option linter.defProp false
namespace Go.Proofs
open Go.Shelf
def Tryz.ZN:Go.Shelf.Ren:=⟨fun|190=>30|125=>64|258=>63|128=>215|129=>216|302=>206|303=>207|304=>208|305=>209|306=>210|307=>211|308=>212|309=>213|310=>214|333=>266|329=>267|330=>268|334=>269|335=>270|336=>262|344=>298|n=>n,fun|31=>47|9=>9|3=>3|46=>110|0=>0|51=>197|53=>107|4=>4|183=>189|182=>188|131=>194|5=>5|218=>247|222=>251|228=>281|229=>282|n=>n,fun|n=>n⟩
theorem Tryz.AIB:Go.Proofs.Lays.n190 Tryz.prog Tryz.ZN:={
 mixed:=by kernel_rfl
 f125:=Tryz.func64.trans (congrArg some (by kernel_rfl))
 f128:=Tryz.func215.trans (congrArg some (by kernel_rfl))
 f129:=Tryz.func216.trans (congrArg some (by kernel_rfl))
 f190:=Tryz.func30.trans (congrArg some (by kernel_rfl))
 f258:=Tryz.func63.trans (congrArg some (by kernel_rfl))
 f302:=Tryz.func206.trans (congrArg some (by kernel_rfl))
 f303:=Tryz.func207.trans (congrArg some (by kernel_rfl))
 f304:=Tryz.func208.trans (congrArg some (by kernel_rfl))
 f305:=Tryz.func209.trans (congrArg some (by kernel_rfl))
 f306:=Tryz.func210.trans (congrArg some (by kernel_rfl))
 f307:=Tryz.func211.trans (congrArg some (by kernel_rfl))
 f308:=Tryz.func212.trans (congrArg some (by kernel_rfl))
 f309:=Tryz.func213.trans (congrArg some (by kernel_rfl))
 f310:=Tryz.func214.trans (congrArg some (by kernel_rfl))
 f329:=Tryz.func267.trans (congrArg some (by kernel_rfl))
 f330:=Tryz.func268.trans (congrArg some (by kernel_rfl))
 f333:=Tryz.func266.trans (congrArg some (by kernel_rfl))
 f334:=Tryz.func269.trans (congrArg some (by kernel_rfl))
 f335:=Tryz.func270.trans (congrArg some (by kernel_rfl))
 f336:=Tryz.func262.trans (congrArg some (by kernel_rfl))
 f344:=Tryz.func298.trans (congrArg some (by kernel_rfl))
 t0:=Tryz.underlying0
 a0:=Tryz.isAgg0
 z0:=Tryz.sizeOf0
 v0:=Tryz.zeroValue0
 t3:=Tryz.underlying3
 a3:=Tryz.isAgg3
 z3:=Tryz.sizeOf3
 v3:=Tryz.zeroValue3
 t4:=Tryz.underlying4
 a4:=Tryz.isAgg4
 z4:=Tryz.sizeOf4
 v4:=Tryz.zeroValue4
 t5:=Tryz.underlying5
 a5:=Tryz.isAgg5
 z5:=Tryz.sizeOf5
 v5:=Tryz.zeroValue5
 t9:=Tryz.underlying9
 a9:=Tryz.isAgg9
 z9:=Tryz.sizeOf9
 v9:=Tryz.zeroValue9
 t31:=Tryz.underlying47
 a31:=Tryz.isAgg47
 z31:=Tryz.sizeOf47
 v31:=Tryz.zeroValue47
 t46:=Tryz.underlying110
 a46:=Tryz.isAgg110
 z46:=Tryz.sizeOf110
 v46:=Tryz.zeroValue110
 t51:=Tryz.underlying197
 a51:=Tryz.isAgg197
 z51:=Tryz.sizeOf197
 v51:=Tryz.zeroValue197
 t53:=Tryz.underlying107
 a53:=Tryz.isAgg107
 z53:=Tryz.sizeOf107
 v53:=Tryz.zeroValue107
 t131:=Tryz.underlying194
 a131:=Tryz.isAgg194
 z131:=Tryz.sizeOf194
 v131:=Tryz.zeroValue194
 t182:=Tryz.underlying188
 a182:=Tryz.isAgg188
 z182:=Tryz.sizeOf188
 v182:=Tryz.zeroValue188
 t183:=Tryz.underlying189
 a183:=Tryz.isAgg189
 z183:=Tryz.sizeOf189
 v183:=Tryz.zeroValue189
 t218:=Tryz.underlying247
 a218:=Tryz.isAgg247
 z218:=Tryz.sizeOf247
 v218:=Tryz.zeroValue247
 t222:=Tryz.underlying251
 a222:=Tryz.isAgg251
 z222:=Tryz.sizeOf251
 v222:=Tryz.zeroValue251
 t228:=Tryz.underlying281
 a228:=Tryz.isAgg281
 z228:=Tryz.sizeOf281
 v228:=Tryz.zeroValue281
 t229:=Tryz.underlying282
 a229:=Tryz.isAgg282
 z229:=Tryz.sizeOf282
 v229:=Tryz.zeroValue282 }
def Tryz.ZO:Go.Shelf.Ren:=⟨fun|194=>32|n=>n,fun|31=>47|9=>9|3=>3|4=>4|0=>0|n=>n,fun|n=>n⟩
theorem Tryz.AIC:Go.Proofs.Lays.n194 Tryz.prog Tryz.ZO:={
 mixed:=by kernel_rfl
 f194:=Tryz.func32.trans (congrArg some (by kernel_rfl))
 t0:=Tryz.underlying0
 a0:=Tryz.isAgg0
 z0:=Tryz.sizeOf0
 v0:=Tryz.zeroValue0
 t3:=Tryz.underlying3
 a3:=Tryz.isAgg3
 z3:=Tryz.sizeOf3
 v3:=Tryz.zeroValue3
 t4:=Tryz.underlying4
 a4:=Tryz.isAgg4
 z4:=Tryz.sizeOf4
 v4:=Tryz.zeroValue4
 t9:=Tryz.underlying9
 a9:=Tryz.isAgg9
 z9:=Tryz.sizeOf9
 v9:=Tryz.zeroValue9
 t31:=Tryz.underlying47
 a31:=Tryz.isAgg47
 z31:=Tryz.sizeOf47
 v31:=Tryz.zeroValue47 }
end Go.Proofs
