/-
  DERIVED: THE SHELF's CONTRACTS AT THIS DUMP, IN PLAIN WORDS (tools/lay-plain.mjs out of 'TryzSheli.lean', which tools/lay-shelf.mjs wrote): THE SAME DECLARATIONS UNDER THE SAME NAMES: 'import', 'namespace', 'open', 'def', 'theorem' AND NOTHING ELSE: no command of the shelf's: FOR A HAND-IN. Each laying: the table of numbers ('.._ren') and one theorem, a field a fact of the dump's own or the kernel's comparison; each contract: ONE APPLICATION.
-/
import Derived.Ground.NamesProg
import Derived.Shelf.Sort.Plain
import Derived.Shelf.Slices.In.SortNone
import Derived.Shelf.Slices.CompactS
import Derived.Test.YtcnfagefgkblkaaGreatDoorProg
set_option linter.defProp false
namespace Go.Proofs
open Go.Shelf
def Tryz.AFA:Go.Shelf.Ren:=⟨λ|190=>51|125=>91|258=>90|128=>130|129=>131|302=>121|303=>122|304=>123|305=>124|306=>125|307=>126|308=>127|309=>128|310=>129|333=>162|329=>163|330=>164|334=>165|335=>166|336=>167|344=>289|n=>n,λ|31=>63|9=>9|3=>3|46=>165|0=>0|51=>208|53=>210|4=>4|183=>201|182=>200|131=>177|5=>5|218=>235|222=>239|228=>282|229=>283|n=>n,λ|n=>n⟩
def Tryz.APH:Go.Proofs.Lays.n190 Tryz.prog Tryz.AFA:={
 mixed:=by kernel_rfl
 f125:=Tryz.func91.trans (congrArg some (by kernel_rfl))
 f128:=Tryz.func130.trans (congrArg some (by kernel_rfl))
 f129:=Tryz.func131.trans (congrArg some (by kernel_rfl))
 f190:=Tryz.func51.trans (congrArg some (by kernel_rfl))
 f258:=Tryz.func90.trans (congrArg some (by kernel_rfl))
 f302:=Tryz.func121.trans (congrArg some (by kernel_rfl))
 f303:=Tryz.func122.trans (congrArg some (by kernel_rfl))
 f304:=Tryz.func123.trans (congrArg some (by kernel_rfl))
 f305:=Tryz.func124.trans (congrArg some (by kernel_rfl))
 f306:=Tryz.func125.trans (congrArg some (by kernel_rfl))
 f307:=Tryz.func126.trans (congrArg some (by kernel_rfl))
 f308:=Tryz.func127.trans (congrArg some (by kernel_rfl))
 f309:=Tryz.func128.trans (congrArg some (by kernel_rfl))
 f310:=Tryz.func129.trans (congrArg some (by kernel_rfl))
 f329:=Tryz.func163.trans (congrArg some (by kernel_rfl))
 f330:=Tryz.func164.trans (congrArg some (by kernel_rfl))
 f333:=Tryz.func162.trans (congrArg some (by kernel_rfl))
 f334:=Tryz.func165.trans (congrArg some (by kernel_rfl))
 f335:=Tryz.func166.trans (congrArg some (by kernel_rfl))
 f336:=Tryz.func167.trans (congrArg some (by kernel_rfl))
 f344:=Tryz.func289.trans (congrArg some (by kernel_rfl))
 t0:=Tryz.underlying0
 a0:=Tryz.isAgg0
 z0:=Tryz.sizeOf0
 v0:=Tryz.zeroValue0
 t3:=Tryz.underlying3
 a3:=Tryz.isAgg3
 z3:=Tryz.sizeOf3
 v3:=Tryz.zeroValue3
 t4:=Tryz.underlying4
 a4:=Tryz.isAgg4
 z4:=Tryz.sizeOf4
 v4:=Tryz.zeroValue4
 t5:=Tryz.underlying5
 a5:=Tryz.isAgg5
 z5:=Tryz.sizeOf5
 v5:=Tryz.zeroValue5
 t9:=Tryz.underlying9
 a9:=Tryz.isAgg9
 z9:=Tryz.sizeOf9
 v9:=Tryz.zeroValue9
 t31:=Tryz.underlying63
 a31:=Tryz.isAgg63
 z31:=Tryz.sizeOf63
 v31:=Tryz.zeroValue63
 t46:=Tryz.underlying165
 a46:=Tryz.isAgg165
 z46:=Tryz.sizeOf165
 v46:=Tryz.zeroValue165
 t51:=Tryz.underlying208
 a51:=Tryz.isAgg208
 z51:=Tryz.sizeOf208
 v51:=Tryz.zeroValue208
 t53:=Tryz.underlying210
 a53:=Tryz.isAgg210
 z53:=Tryz.sizeOf210
 v53:=Tryz.zeroValue210
 t131:=Tryz.underlying177
 a131:=Tryz.isAgg177
 z131:=Tryz.sizeOf177
 v131:=Tryz.zeroValue177
 t182:=Tryz.underlying200
 a182:=Tryz.isAgg200
 z182:=Tryz.sizeOf200
 v182:=Tryz.zeroValue200
 t183:=Tryz.underlying201
 a183:=Tryz.isAgg201
 z183:=Tryz.sizeOf201
 v183:=Tryz.zeroValue201
 t218:=Tryz.underlying235
 a218:=Tryz.isAgg235
 z218:=Tryz.sizeOf235
 v218:=Tryz.zeroValue235
 t222:=Tryz.underlying239
 a222:=Tryz.isAgg239
 z222:=Tryz.sizeOf239
 v222:=Tryz.zeroValue239
 t228:=Tryz.underlying282
 a228:=Tryz.isAgg282
 z228:=Tryz.sizeOf282
 v228:=Tryz.zeroValue282
 t229:=Tryz.underlying283
 a229:=Tryz.isAgg283
 z229:=Tryz.sizeOf283
 v229:=Tryz.zeroValue283 }
def Tryz.AFB:Go.Shelf.Ren:=⟨λ|194=>52|n=>n,λ|31=>63|9=>9|3=>3|4=>4|0=>0|n=>n,λ|n=>n⟩
def Tryz.API:Go.Proofs.Lays.n194 Tryz.prog Tryz.AFB:={
 mixed:=by kernel_rfl
 f194:=Tryz.func52.trans (congrArg some (by kernel_rfl))
 t0:=Tryz.underlying0
 a0:=Tryz.isAgg0
 z0:=Tryz.sizeOf0
 v0:=Tryz.zeroValue0
 t3:=Tryz.underlying3
 a3:=Tryz.isAgg3
 z3:=Tryz.sizeOf3
 v3:=Tryz.zeroValue3
 t4:=Tryz.underlying4
 a4:=Tryz.isAgg4
 z4:=Tryz.sizeOf4
 v4:=Tryz.zeroValue4
 t9:=Tryz.underlying9
 a9:=Tryz.isAgg9
 z9:=Tryz.sizeOf9
 v9:=Tryz.zeroValue9
 t31:=Tryz.underlying63
 a31:=Tryz.isAgg63
 z31:=Tryz.sizeOf63
 v31:=Tryz.zeroValue63 }
end Go.Proofs
