/-
  DERIVED: THE SHELF's CONTRACTS AT THIS DUMP, IN PLAIN WORDS (tools/lay-plain.mjs out of 'TryzShelf.lean', which tools/lay-shelf.mjs wrote): THE SAME DECLARATIONS UNDER THE SAME NAMES: 'import', 'namespace', 'open', 'def', 'theorem' AND NOTHING ELSE: no command of the shelf's: FOR A HAND-IN. Each laying: the table of numbers ('.._ren') and one theorem, a field a fact of the dump's own or the kernel's comparison; each contract: ONE APPLICATION.
-/
import Derived.Ground.NamesProg
import Derived.Shelf.Strings.SplitShaped
import Derived.Test.YtepoplfbgaoggaaGreatDoorProg
set_option linter.defProp false
namespace Go.Proofs
open Go.Shelf
def Tryz.I4:Go.Shelf.Ren:=⟨λ|146=>257|221=>317|268=>352|138=>353|143=>354|195=>373|197=>374|218=>375|219=>376|260=>391|217=>392|225=>393|224=>394|267=>395|266=>398|314=>399|n=>n,λ|9=>9|31=>47|3=>3|4=>4|0=>0|105=>308|21=>21|5=>5|46=>195|119=>318|139=>321|138=>320|146=>322|51=>250|n=>n,λ|1=>0|3=>1|4=>2|n=>n⟩
def Tryz.BBN:Go.Proofs.LaysM.n146 Tryz.prog Tryz.I4:={
 mixed:=by kernel_rfl
 f138:=Tryz.func353.trans (congrArg some (by kernel_rfl))
 f143:=Tryz.func354.trans (congrArg some (by kernel_rfl))
 f146:=Tryz.func257.trans (congrArg some (by kernel_rfl))
 f195:=Tryz.func373.trans (congrArg some (by kernel_rfl))
 f197:=Tryz.func374.trans (congrArg some (by kernel_rfl))
 f217:=Tryz.func392.trans (congrArg some (by kernel_rfl))
 f218:=Tryz.func375.trans (congrArg some (by kernel_rfl))
 f219:=Tryz.func376.trans (congrArg some (by kernel_rfl))
 f221:=Tryz.func317.trans (congrArg some (by kernel_rfl))
 f224:=Tryz.func394.trans (congrArg some (by kernel_rfl))
 f225:=Tryz.func393.trans (congrArg some (by kernel_rfl))
 f260:=Tryz.func391.trans (congrArg some (by kernel_rfl))
 f266:=Tryz.func398.trans (congrArg some (by kernel_rfl))
 f267:=Tryz.func395.trans (congrArg some (by kernel_rfl))
 f268:=Tryz.func352.trans (congrArg some (by kernel_rfl))
 f314:=Tryz.func399.trans (congrArg some (by kernel_rfl))
 t0:=Tryz.underlying0
 a0:=Tryz.isAgg0
 z0:=Tryz.sizeOf0
 v0:=Tryz.zeroValue0
 t3:=Tryz.underlying3
 a3:=Tryz.isAgg3
 z3:=Tryz.sizeOf3
 v3:=Tryz.zeroValue3
 t4:=Tryz.underlying4
 a4:=Tryz.isAgg4
 z4:=Tryz.sizeOf4
 v4:=Tryz.zeroValue4
 t5:=Tryz.underlying5
 a5:=Tryz.isAgg5
 z5:=Tryz.sizeOf5
 v5:=Tryz.zeroValue5
 t9:=Tryz.underlying9
 a9:=Tryz.isAgg9
 z9:=Tryz.sizeOf9
 v9:=Tryz.zeroValue9
 t21:=Tryz.underlying21
 a21:=Tryz.isAgg21
 z21:=Tryz.sizeOf21
 v21:=Tryz.zeroValue21
 t31:=Tryz.underlying47
 a31:=Tryz.isAgg47
 z31:=Tryz.sizeOf47
 v31:=Tryz.zeroValue47
 t46:=Tryz.underlying195
 a46:=Tryz.isAgg195
 z46:=Tryz.sizeOf195
 v46:=Tryz.zeroValue195
 t51:=Tryz.underlying250
 a51:=Tryz.isAgg250
 z51:=Tryz.sizeOf250
 v51:=Tryz.zeroValue250
 t105:=Tryz.underlying308
 a105:=Tryz.isAgg308
 z105:=Tryz.sizeOf308
 v105:=Tryz.zeroValue308
 t119:=Tryz.underlying318
 a119:=Tryz.isAgg318
 z119:=Tryz.sizeOf318
 t138:=Tryz.underlying320
 a138:=Tryz.isAgg320
 z138:=Tryz.sizeOf320
 v138:=Tryz.zeroValue320
 t139:=Tryz.underlying321
 a139:=Tryz.isAgg321
 z139:=Tryz.sizeOf321
 v139:=Tryz.zeroValue321
 t146:=Tryz.underlying322
 a146:=Tryz.isAgg322
 z146:=Tryz.sizeOf322
 v146:=Tryz.zeroValue322
 g1:=by kernel_rfl
 g3:=by kernel_rfl
 g4:=by kernel_rfl
 i0:=by kernel_rfl
 i3:=by kernel_rfl
 i4:=by kernel_rfl
 i5:=by kernel_rfl
 i9:=by kernel_rfl
 i21:=by kernel_rfl
 i31:=by kernel_rfl
 i46:=by kernel_rfl
 i51:=by kernel_rfl
 i105:=by kernel_rfl
 i138:=by kernel_rfl
 i139:=by kernel_rfl
 i146:=by kernel_rfl
 m1:=by kernel_rfl
 s1_3:=λw h=>Go.Proofs.cell_of_shapedOpen_int (zero:=#[.int .i64 0]) (t:=3) h (of_decide_eq_true (by kernel_rfl)) (by kernel_rfl) rfl (by kernel_rfl) (by kernel_rfl) Tryz.underlying3
 m3:=by kernel_rfl
 m4:=by kernel_rfl }
end Go.Proofs
