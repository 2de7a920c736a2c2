/-
  DERIVED: THE SHELF's CONTRACTS AT THIS DUMP, IN PLAIN WORDS (tools/lay-plain.mjs out of 'TryzShelf.lean', which tools/lay-shelf.mjs wrote): THE SAME DECLARATIONS UNDER THE SAME NAMES: 'import', 'namespace', 'open', 'def', 'theorem' AND NOTHING ELSE: no command of the shelf's: FOR A HAND-IN. Each laying: the table of numbers ('.._ren') and one theorem, a field a fact of the dump's own or the kernel's comparison; each contract: ONE APPLICATION.
-/
import Derived.Ground.NamesProg
import Derived.Shelf.Strings.SplitShaped
import Derived.Test.YtipdohmdckdoeaaGreatDoorProg
set_option linter.defProp false
namespace Go.Proofs
open Go.Shelf
def Tryz.E5:Go.Shelf.Ren:=⟨λ|146=>83|221=>115|268=>256|138=>257|143=>258|195=>305|197=>306|218=>307|219=>308|260=>333|217=>334|225=>335|224=>336|267=>337|266=>352|314=>353|n=>n,λ|9=>9|31=>62|3=>3|4=>4|0=>0|105=>292|21=>21|5=>5|46=>149|119=>326|139=>329|138=>328|146=>330|51=>246|n=>n,λ|1=>0|3=>1|4=>2|n=>n⟩
def Tryz.A3P:Go.Proofs.LaysM.n146 Tryz.prog Tryz.E5:={
 mixed:=by kernel_rfl
 f138:=Tryz.func257.trans (congrArg some (by kernel_rfl))
 f143:=Tryz.func258.trans (congrArg some (by kernel_rfl))
 f146:=Tryz.func83.trans (congrArg some (by kernel_rfl))
 f195:=Tryz.func305.trans (congrArg some (by kernel_rfl))
 f197:=Tryz.func306.trans (congrArg some (by kernel_rfl))
 f217:=Tryz.func334.trans (congrArg some (by kernel_rfl))
 f218:=Tryz.func307.trans (congrArg some (by kernel_rfl))
 f219:=Tryz.func308.trans (congrArg some (by kernel_rfl))
 f221:=Tryz.func115.trans (congrArg some (by kernel_rfl))
 f224:=Tryz.func336.trans (congrArg some (by kernel_rfl))
 f225:=Tryz.func335.trans (congrArg some (by kernel_rfl))
 f260:=Tryz.func333.trans (congrArg some (by kernel_rfl))
 f266:=Tryz.func352.trans (congrArg some (by kernel_rfl))
 f267:=Tryz.func337.trans (congrArg some (by kernel_rfl))
 f268:=Tryz.func256.trans (congrArg some (by kernel_rfl))
 f314:=Tryz.func353.trans (congrArg some (by kernel_rfl))
 t0:=Tryz.underlying0
 a0:=Tryz.isAgg0
 z0:=Tryz.sizeOf0
 v0:=Tryz.zeroValue0
 t3:=Tryz.underlying3
 a3:=Tryz.isAgg3
 z3:=Tryz.sizeOf3
 v3:=Tryz.zeroValue3
 t4:=Tryz.underlying4
 a4:=Tryz.isAgg4
 z4:=Tryz.sizeOf4
 v4:=Tryz.zeroValue4
 t5:=Tryz.underlying5
 a5:=Tryz.isAgg5
 z5:=Tryz.sizeOf5
 v5:=Tryz.zeroValue5
 t9:=Tryz.underlying9
 a9:=Tryz.isAgg9
 z9:=Tryz.sizeOf9
 v9:=Tryz.zeroValue9
 t21:=Tryz.underlying21
 a21:=Tryz.isAgg21
 z21:=Tryz.sizeOf21
 v21:=Tryz.zeroValue21
 t31:=Tryz.underlying62
 a31:=Tryz.isAgg62
 z31:=Tryz.sizeOf62
 v31:=Tryz.zeroValue62
 t46:=Tryz.underlying149
 a46:=Tryz.isAgg149
 z46:=Tryz.sizeOf149
 v46:=Tryz.zeroValue149
 t51:=Tryz.underlying246
 a51:=Tryz.isAgg246
 z51:=Tryz.sizeOf246
 v51:=Tryz.zeroValue246
 t105:=Tryz.underlying292
 a105:=Tryz.isAgg292
 z105:=Tryz.sizeOf292
 v105:=Tryz.zeroValue292
 t119:=Tryz.underlying326
 a119:=Tryz.isAgg326
 z119:=Tryz.sizeOf326
 t138:=Tryz.underlying328
 a138:=Tryz.isAgg328
 z138:=Tryz.sizeOf328
 v138:=Tryz.zeroValue328
 t139:=Tryz.underlying329
 a139:=Tryz.isAgg329
 z139:=Tryz.sizeOf329
 v139:=Tryz.zeroValue329
 t146:=Tryz.underlying330
 a146:=Tryz.isAgg330
 z146:=Tryz.sizeOf330
 v146:=Tryz.zeroValue330
 g1:=by kernel_rfl
 g3:=by kernel_rfl
 g4:=by kernel_rfl
 i0:=by kernel_rfl
 i3:=by kernel_rfl
 i4:=by kernel_rfl
 i5:=by kernel_rfl
 i9:=by kernel_rfl
 i21:=by kernel_rfl
 i31:=by kernel_rfl
 i46:=by kernel_rfl
 i51:=by kernel_rfl
 i105:=by kernel_rfl
 i138:=by kernel_rfl
 i139:=by kernel_rfl
 i146:=by kernel_rfl
 m1:=by kernel_rfl
 s1_3:=λw h=>Go.Proofs.cell_of_shapedOpen_int (zero:=#[.int .i64 0]) (t:=3) h (of_decide_eq_true (by kernel_rfl)) (by kernel_rfl) rfl (by kernel_rfl) (by kernel_rfl) Tryz.underlying3
 m3:=by kernel_rfl
 m4:=by kernel_rfl }
end Go.Proofs
