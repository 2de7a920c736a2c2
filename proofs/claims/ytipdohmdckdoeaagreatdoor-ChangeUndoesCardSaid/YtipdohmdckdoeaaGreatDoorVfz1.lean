/-
  Facts on the program that every function's file asks for.
  slices.Clone, Insert, Delete at the design's lists.
  The seam, the part, the section with an identifier.
  And what these ask for.
-/
import Derived.Test.YtipdohmdckdoeaaGreatDoorVfki
import Derived.Test.YtipdohmdckdoeaaGreatDoorVfty
import Derived.Test.YtipdohmdckdoeaaGreatDoorProg
import Derived.KernelRfl
import Derived.Test.YtipdohmdckdoeaaGreatDoorVfin
import Derived.Test.YtipdohmdckdoeaaGreatDoorVfkj
import Derived.Test.YtipdohmdckdoeaaGreatDoorVfkn
import Derived.Test.YtipdohmdckdoeaaGreatDoorVfgs
import Derived.Test.YtipdohmdckdoeaaGreatDoorVfsl
import Derived.Laws.RangeAny
import Derived.Test.YtipdohmdckdoeaaGreatDoorVfkm
set_option linter.defProp false
set_option linter.unusedSimpArgs false
set_option linter.unusedVariables false
noncomputable section
namespace Go.Pv
open Go Go.Proofs IntKind
def aV:Tryz.prog.follows .mixedOrders=true:=by kernel_rfl
def aY:cR Tryz.prog=true:=by kernel_rfl
end Go.Pv
set_option maxRecDepth 100000
namespace Go.Pv
open Go Go.Proofs IntKind
variable {P:Program}
def pF {t:TypeId} {zv:Value} {z b:Nat} (h:(P.info? t).map (λi=>(i.zero,i.size,i.bytes))=some (some zv,z,b)):∃ i,P.info? t=some i/\i.zero=some zv/\i.size=z/\i.bytes=b:=by
 simp only[aa,Prod.mk.injEq] at h;obtain ⟨i,h1,h2,h3,h4⟩:=h;exact ⟨i,h1,h2,h3,h4⟩
def YN:Value:=.agg #[.string ⟨#[]⟩,.int .i64 0,.string ⟨#[]⟩]
def YM:Value:=.agg #[.int .i64 0,.string ⟨#[]⟩,.string ⟨#[]⟩]
def YP:Value:=.agg #[.string ⟨#[]⟩,.string ⟨#[]⟩,.string ⟨#[]⟩,.int .i64 0,.int .i64 0,.int .i64 0]
def AS:Value:=.agg #[.string ⟨#[]⟩,.string ⟨#[]⟩,.slice none 0 0,.int .i64 0,.slice none 0 0]
def YO:Value:=.agg #[.string ⟨#[]⟩,.int .i64 0,.int .i64 0,.string ⟨#[]⟩,.string ⟨#[]⟩,.int .i64 0,.slice none 0 0,.slice none 0 0,.string ⟨#[]⟩,.int .i64 0,.int .i64 0,.int .i64 0,.int .i64 0,.int .i64 0,.int .i64 0,.int .i64 0,.int .i64 0,.int .i64 0]
def A5I:Go.Shelf.Ren:=⟨λ|22=>280|29=>322|30=>323|n=>n,λ|9=>59|24=>32|n=>n,λ|n=>n⟩
def A3B:QM Tryz.prog A5I 3 40 YN:={
 mixed:=aV
 f22:=Exists.intro ("slices.Insert[[]shipyard/api.Node,shipyard/api.Node]") ⟨by decide,Tryz.func280.trans (congrArg some (by kernel_rfl))⟩
 ov:=λargs w=>run_callFunc_extern (P:=Tryz.prog) (f:=322) (e:=Extern.SlicesOverlaps.overlaps #[32,32] #[4]) Tryz.func322 (by kernel_rfl) (by kernel_rfl) (by kernel_rfl) (by kernel_rfl) args w
 t0:=by kernel_rfl
 a0:=λ_=>by kernel_rfl
 z0:=λ_=>by kernel_rfl
 v0:=λ_=>by kernel_rfl
 t3:=by kernel_rfl
 a3:=λ_=>by kernel_rfl
 z3:=λ_=>by kernel_rfl
 v3:=λ_=>by kernel_rfl
 t4:=by kernel_rfl
 a4:=λ_=>by kernel_rfl
 z4:=λ_=>by kernel_rfl
 v4:=λ_=>by kernel_rfl
 z9:=λ_=>by kernel_rfl
 t24:=by kernel_rfl
 a24:=λ_=>by kernel_rfl
 z24:=λ_=>by kernel_rfl
 v24:=λ_=>by kernel_rfl
 i9:=pF (by kernel_rfl) }
def kT:List (List T)->List T->Option (List (List T)):=VK 3 40
def CF:cZ Tryz.prog 280 (mV 3 kT) :=
 oQ A3B (by decide) rfl (by decide) ⟨_,Tryz.func280,rfl,rfl⟩
def A5E:Go.Shelf.Ren:=⟨λ|45=>281|n=>n,λ|23=>59|22=>32|n=>n,λ|n=>n⟩
def AZ5:AEP Tryz.prog A5E 3 YN:={
 mixed:=aV
 f45:=Exists.intro ("slices.Delete[[]shipyard/api.Node,shipyard/api.Node]") ⟨by decide,Tryz.func281.trans (congrArg some (by kernel_rfl))⟩
 t0:=by kernel_rfl
 a0:=λ_=>by kernel_rfl
 z0:=λ_=>by kernel_rfl
 v0:=λ_=>by kernel_rfl
 t3:=by kernel_rfl
 a3:=λ_=>by kernel_rfl
 z3:=λ_=>by kernel_rfl
 v3:=λ_=>by kernel_rfl
 t4:=by kernel_rfl
 a4:=λ_=>by kernel_rfl
 z4:=λ_=>by kernel_rfl
 v4:=λ_=>by kernel_rfl
 t22:=by kernel_rfl
 a22:=λ_=>by kernel_rfl
 z22:=λ_=>by kernel_rfl
 v22:=λ_=>by kernel_rfl
 z23:=λ_=>by kernel_rfl
 v23:=λ_=>by kernel_rfl
 i23:=by
  obtain ⟨i,h1,_,h2,_⟩:=pF (P:=Tryz.prog) (t:=59) (zv:=YN) (z:=3) (b:=40) (by kernel_rfl);exact ⟨i,h1,h2⟩ }
def G7:List (List T)->List T->Option (List (List T)):=VJ 3
def AHJ:cZ Tryz.prog 281 (mV 3 G7) :=
 oP AZ5 rfl (by decide) ⟨_,Tryz.func281,rfl,rfl⟩
def ADV:Go.Shelf.Ren:=⟨λ|41=>103|n=>n,λ|23=>59|22=>32|n=>n,λ|n=>n⟩
def AZT:SlLaysE0.n41 Tryz.prog ADV:={
 mixed:=aV
 f41:=Exists.intro ("slices.Clone[[]shipyard/api.Node,shipyard/api.Node]") ⟨by decide,Tryz.func103.trans (congrArg some (by kernel_rfl))⟩
 t4:=by kernel_rfl
 a4:=λ_=>by kernel_rfl
 z4:=λ_=>by kernel_rfl
 v4:=λ_=>by kernel_rfl
 t22:=by kernel_rfl
 a22:=λ_=>by kernel_rfl
 z22:=λ_=>by kernel_rfl
 v22:=λ_=>by kernel_rfl }
def AR0:∃ i0,(Tryz.prog).info? (ADV.t 23)=some i0/\i0.zero=some YN/\i0.size=3/\i0.bytes=40:=pF (by kernel_rfl)
def CC:cZ Tryz.prog 103 (CJ 3 40) :=
 pZ AZT AR0 (λ_=>by kernel_rfl) (by decide) rfl (by decide) ⟨_,Tryz.func103,rfl,rfl⟩
def A5H:Go.Shelf.Ren:=⟨λ|22=>298|29=>330|30=>331|n=>n,λ|9=>66|24=>36|n=>n,λ|n=>n⟩
def A3A:QM Tryz.prog A5H 3 40 YM:={
 mixed:=aV
 f22:=Exists.intro ("slices.Insert[[]shipyard/api.Need,shipyard/api.Need]") ⟨by decide,Tryz.func298.trans (congrArg some (by kernel_rfl))⟩
 ov:=λargs w=>run_callFunc_extern (P:=Tryz.prog) (f:=330) (e:=Extern.SlicesOverlaps.overlaps #[36,36] #[4]) Tryz.func330 (by kernel_rfl) (by kernel_rfl) (by kernel_rfl) (by kernel_rfl) args w
 t0:=by kernel_rfl
 a0:=λ_=>by kernel_rfl
 z0:=λ_=>by kernel_rfl
 v0:=λ_=>by kernel_rfl
 t3:=by kernel_rfl
 a3:=λ_=>by kernel_rfl
 z3:=λ_=>by kernel_rfl
 v3:=λ_=>by kernel_rfl
 t4:=by kernel_rfl
 a4:=λ_=>by kernel_rfl
 z4:=λ_=>by kernel_rfl
 v4:=λ_=>by kernel_rfl
 z9:=λ_=>by kernel_rfl
 t24:=by kernel_rfl
 a24:=λ_=>by kernel_rfl
 z24:=λ_=>by kernel_rfl
 v24:=λ_=>by kernel_rfl
 i9:=pF (by kernel_rfl) }
def kS:List (List T)->List T->Option (List (List T)):=VK 3 40
def N0:cZ Tryz.prog 298 (mV 3 kS) :=
 oQ A3A (by decide) rfl (by decide) ⟨_,Tryz.func298,rfl,rfl⟩
def A5D:Go.Shelf.Ren:=⟨λ|45=>299|n=>n,λ|23=>66|22=>36|n=>n,λ|n=>n⟩
def AZ4:AEP Tryz.prog A5D 3 YM:={
 mixed:=aV
 f45:=Exists.intro ("slices.Delete[[]shipyard/api.Need,shipyard/api.Need]") ⟨by decide,Tryz.func299.trans (congrArg some (by kernel_rfl))⟩
 t0:=by kernel_rfl
 a0:=λ_=>by kernel_rfl
 z0:=λ_=>by kernel_rfl
 v0:=λ_=>by kernel_rfl
 t3:=by kernel_rfl
 a3:=λ_=>by kernel_rfl
 z3:=λ_=>by kernel_rfl
 v3:=λ_=>by kernel_rfl
 t4:=by kernel_rfl
 a4:=λ_=>by kernel_rfl
 z4:=λ_=>by kernel_rfl
 v4:=λ_=>by kernel_rfl
 t22:=by kernel_rfl
 a22:=λ_=>by kernel_rfl
 z22:=λ_=>by kernel_rfl
 v22:=λ_=>by kernel_rfl
 z23:=λ_=>by kernel_rfl
 v23:=λ_=>by kernel_rfl
 i23:=by
  obtain ⟨i,h1,_,h2,_⟩:=pF (P:=Tryz.prog) (t:=66) (zv:=YM) (z:=3) (b:=40) (by kernel_rfl);exact ⟨i,h1,h2⟩ }
def zM:List (List T)->List T->Option (List (List T)):=VJ 3
def NZ:cZ Tryz.prog 299 (mV 3 zM) :=
 oP AZ4 rfl (by decide) ⟨_,Tryz.func299,rfl,rfl⟩
def ADU:Go.Shelf.Ren:=⟨λ|41=>105|n=>n,λ|23=>66|22=>36|n=>n,λ|n=>n⟩
def AZS:SlLaysE0.n41 Tryz.prog ADU:={
 mixed:=aV
 f41:=Exists.intro ("slices.Clone[[]shipyard/api.Need,shipyard/api.Need]") ⟨by decide,Tryz.func105.trans (congrArg some (by kernel_rfl))⟩
 t4:=by kernel_rfl
 a4:=λ_=>by kernel_rfl
 z4:=λ_=>by kernel_rfl
 v4:=λ_=>by kernel_rfl
 t22:=by kernel_rfl
 a22:=λ_=>by kernel_rfl
 z22:=λ_=>by kernel_rfl
 v22:=λ_=>by kernel_rfl }
def ARZ:∃ i0,(Tryz.prog).info? (ADU.t 23)=some i0/\i0.zero=some YM/\i0.size=3/\i0.bytes=40:=pF (by kernel_rfl)
def CB:cZ Tryz.prog 105 (CJ 3 40) :=
 pZ AZS ARZ (λ_=>by kernel_rfl) (by decide) rfl (by decide) ⟨_,Tryz.func105,rfl,rfl⟩
def A5K:Go.Shelf.Ren:=⟨λ|22=>288|29=>326|30=>327|n=>n,λ|9=>61|24=>34|n=>n,λ|n=>n⟩
def A3D:QM Tryz.prog A5K 6 72 YP:={
 mixed:=aV
 f22:=Exists.intro ("slices.Insert[[]shipyard/api.Seam,shipyard/api.Seam]") ⟨by decide,Tryz.func288.trans (congrArg some (by kernel_rfl))⟩
 ov:=λargs w=>run_callFunc_extern (P:=Tryz.prog) (f:=326) (e:=Extern.SlicesOverlaps.overlaps #[34,34] #[4]) Tryz.func326 (by kernel_rfl) (by kernel_rfl) (by kernel_rfl) (by kernel_rfl) args w
 t0:=by kernel_rfl
 a0:=λ_=>by kernel_rfl
 z0:=λ_=>by kernel_rfl
 v0:=λ_=>by kernel_rfl
 t3:=by kernel_rfl
 a3:=λ_=>by kernel_rfl
 z3:=λ_=>by kernel_rfl
 v3:=λ_=>by kernel_rfl
 t4:=by kernel_rfl
 a4:=λ_=>by kernel_rfl
 z4:=λ_=>by kernel_rfl
 v4:=λ_=>by kernel_rfl
 z9:=λ_=>by kernel_rfl
 t24:=by kernel_rfl
 a24:=λ_=>by kernel_rfl
 z24:=λ_=>by kernel_rfl
 v24:=λ_=>by kernel_rfl
 i9:=pF (by kernel_rfl) }
def uA:List (List T)->List T->Option (List (List T)):=VK 6 72
def AHN:cZ Tryz.prog 288 (mV 6 uA) :=
 oQ A3D (by decide) rfl (by decide) ⟨_,Tryz.func288,rfl,rfl⟩
def A5G:Go.Shelf.Ren:=⟨λ|45=>289|n=>n,λ|23=>61|22=>34|n=>n,λ|n=>n⟩
def AZ7:AEP Tryz.prog A5G 6 YP:={
 mixed:=aV
 f45:=Exists.intro ("slices.Delete[[]shipyard/api.Seam,shipyard/api.Seam]") ⟨by decide,Tryz.func289.trans (congrArg some (by kernel_rfl))⟩
 t0:=by kernel_rfl
 a0:=λ_=>by kernel_rfl
 z0:=λ_=>by kernel_rfl
 v0:=λ_=>by kernel_rfl
 t3:=by kernel_rfl
 a3:=λ_=>by kernel_rfl
 z3:=λ_=>by kernel_rfl
 v3:=λ_=>by kernel_rfl
 t4:=by kernel_rfl
 a4:=λ_=>by kernel_rfl
 z4:=λ_=>by kernel_rfl
 v4:=λ_=>by kernel_rfl
 t22:=by kernel_rfl
 a22:=λ_=>by kernel_rfl
 z22:=λ_=>by kernel_rfl
 v22:=λ_=>by kernel_rfl
 z23:=λ_=>by kernel_rfl
 v23:=λ_=>by kernel_rfl
 i23:=by
  obtain ⟨i,h1,_,h2,_⟩:=pF (P:=Tryz.prog) (t:=61) (zv:=YP) (z:=6) (b:=72) (by kernel_rfl);exact ⟨i,h1,h2⟩ }
def G9:List (List T)->List T->Option (List (List T)):=VJ 6
def AHL:cZ Tryz.prog 289 (mV 6 G9) :=
 oP AZ7 rfl (by decide) ⟨_,Tryz.func289,rfl,rfl⟩
def ADX:Go.Shelf.Ren:=⟨λ|41=>104|n=>n,λ|23=>61|22=>34|n=>n,λ|n=>n⟩
def AZV:SlLaysE0.n41 Tryz.prog ADX:={
 mixed:=aV
 f41:=Exists.intro ("slices.Clone[[]shipyard/api.Seam,shipyard/api.Seam]") ⟨by decide,Tryz.func104.trans (congrArg some (by kernel_rfl))⟩
 t4:=by kernel_rfl
 a4:=λ_=>by kernel_rfl
 z4:=λ_=>by kernel_rfl
 v4:=λ_=>by kernel_rfl
 t22:=by kernel_rfl
 a22:=λ_=>by kernel_rfl
 z22:=λ_=>by kernel_rfl
 v22:=λ_=>by kernel_rfl }
def AR2:∃ i0,(Tryz.prog).info? (ADX.t 23)=some i0/\i0.zero=some YP/\i0.size=6/\i0.bytes=72:=pF (by kernel_rfl)
def CE:cZ Tryz.prog 104 (CJ 6 72) :=
 pZ AZV AR2 (λ_=>by kernel_rfl) (by decide) rfl (by decide) ⟨_,Tryz.func104,rfl,rfl⟩
def ADZ:Go.Shelf.Ren:=⟨λ|22=>292|29=>328|30=>329|n=>n,λ|9=>64|24=>35|n=>n,λ|n=>n⟩
def ACL:QM Tryz.prog ADZ 5 88 AS:={
 mixed:=aV
 f22:=Exists.intro ("slices.Insert[[]shipyard/api.Package,shipyard/api.Package]") ⟨by decide,Tryz.func292.trans (congrArg some (by kernel_rfl))⟩
 ov:=λargs w=>run_callFunc_extern (P:=Tryz.prog) (f:=328) (e:=Extern.SlicesOverlaps.overlaps #[35,35] #[4]) Tryz.func328 (by kernel_rfl) (by kernel_rfl) (by kernel_rfl) (by kernel_rfl) args w
 t0:=by kernel_rfl
 a0:=λ_=>by kernel_rfl
 z0:=λ_=>by kernel_rfl
 v0:=λ_=>by kernel_rfl
 t3:=by kernel_rfl
 a3:=λ_=>by kernel_rfl
 z3:=λ_=>by kernel_rfl
 v3:=λ_=>by kernel_rfl
 t4:=by kernel_rfl
 a4:=λ_=>by kernel_rfl
 z4:=λ_=>by kernel_rfl
 v4:=λ_=>by kernel_rfl
 z9:=λ_=>by kernel_rfl
 t24:=by kernel_rfl
 a24:=λ_=>by kernel_rfl
 z24:=λ_=>by kernel_rfl
 v24:=λ_=>by kernel_rfl
 i9:=pF (by kernel_rfl) }
def mX:List (List T)->List T->Option (List (List T)):=VK 5 88
def QU:cZ Tryz.prog 292 (mV 5 mX) :=
 oQ ACL (by decide) rfl (by decide) ⟨_,Tryz.func292,rfl,rfl⟩
def ADY:Go.Shelf.Ren:=⟨λ|45=>290|n=>n,λ|23=>64|22=>35|n=>n,λ|n=>n⟩
def AAG:AEP Tryz.prog ADY 5 AS:={
 mixed:=aV
 f45:=Exists.intro ("slices.Delete[[]shipyard/api.Package,shipyard/api.Package]") ⟨by decide,Tryz.func290.trans (congrArg some (by kernel_rfl))⟩
 t0:=by kernel_rfl
 a0:=λ_=>by kernel_rfl
 z0:=λ_=>by kernel_rfl
 v0:=λ_=>by kernel_rfl
 t3:=by kernel_rfl
 a3:=λ_=>by kernel_rfl
 z3:=λ_=>by kernel_rfl
 v3:=λ_=>by kernel_rfl
 t4:=by kernel_rfl
 a4:=λ_=>by kernel_rfl
 z4:=λ_=>by kernel_rfl
 v4:=λ_=>by kernel_rfl
 t22:=by kernel_rfl
 a22:=λ_=>by kernel_rfl
 z22:=λ_=>by kernel_rfl
 v22:=λ_=>by kernel_rfl
 z23:=λ_=>by kernel_rfl
 v23:=λ_=>by kernel_rfl
 i23:=by
  obtain ⟨i,h1,_,h2,_⟩:=pF (P:=Tryz.prog) (t:=64) (zv:=AS) (z:=5) (b:=88) (by kernel_rfl);exact ⟨i,h1,h2⟩ }
def mW:List (List T)->List T->Option (List (List T)):=VJ 5
def BC:cZ Tryz.prog 290 (mV 5 mW) :=
 oP AAG rfl (by decide) ⟨_,Tryz.func290,rfl,rfl⟩
def JO:Go.Shelf.Ren:=⟨λ|41=>107|n=>n,λ|23=>64|22=>35|n=>n,λ|n=>n⟩
def Z9:SlLaysE0.n41 Tryz.prog JO:={
 mixed:=aV
 f41:=Exists.intro ("slices.Clone[[]shipyard/api.Package,shipyard/api.Package]") ⟨by decide,Tryz.func107.trans (congrArg some (by kernel_rfl))⟩
 t4:=by kernel_rfl
 a4:=λ_=>by kernel_rfl
 z4:=λ_=>by kernel_rfl
 v4:=λ_=>by kernel_rfl
 t22:=by kernel_rfl
 a22:=λ_=>by kernel_rfl
 z22:=λ_=>by kernel_rfl
 v22:=λ_=>by kernel_rfl }
def VX:∃ i0,(Tryz.prog).info? (JO.t 23)=some i0/\i0.zero=some AS/\i0.size=5/\i0.bytes=88:=pF (by kernel_rfl)
def oF:cZ Tryz.prog 107 (CJ 5 88) :=
 pZ Z9 VX (λ_=>by kernel_rfl) (by decide) rfl (by decide) ⟨_,Tryz.func107,rfl,rfl⟩
def A5J:Go.Shelf.Ren:=⟨λ|22=>285|29=>324|30=>325|n=>n,λ|9=>57|24=>33|n=>n,λ|n=>n⟩
def A3C:QM Tryz.prog A5J 18 208 YO:={
 mixed:=aV
 f22:=Exists.intro ("slices.Insert[[]shipyard/api.Part,shipyard/api.Part]") ⟨by decide,Tryz.func285.trans (congrArg some (by kernel_rfl))⟩
 ov:=λargs w=>run_callFunc_extern (P:=Tryz.prog) (f:=324) (e:=Extern.SlicesOverlaps.overlaps #[33,33] #[4]) Tryz.func324 (by kernel_rfl) (by kernel_rfl) (by kernel_rfl) (by kernel_rfl) args w
 t0:=by kernel_rfl
 a0:=λ_=>by kernel_rfl
 z0:=λ_=>by kernel_rfl
 v0:=λ_=>by kernel_rfl
 t3:=by kernel_rfl
 a3:=λ_=>by kernel_rfl
 z3:=λ_=>by kernel_rfl
 v3:=λ_=>by kernel_rfl
 t4:=by kernel_rfl
 a4:=λ_=>by kernel_rfl
 z4:=λ_=>by kernel_rfl
 v4:=λ_=>by kernel_rfl
 z9:=λ_=>by kernel_rfl
 t24:=by kernel_rfl
 a24:=λ_=>by kernel_rfl
 z24:=λ_=>by kernel_rfl
 v24:=λ_=>by kernel_rfl
 i9:=pF (by kernel_rfl) }
def tZ:List (List T)->List T->Option (List (List T)):=VK 18 208
def AHM:cZ Tryz.prog 285 (mV 18 tZ) :=
 oQ A3C (by decide) rfl (by decide) ⟨_,Tryz.func285,rfl,rfl⟩
def A5F:Go.Shelf.Ren:=⟨λ|45=>286|n=>n,λ|23=>57|22=>33|n=>n,λ|n=>n⟩
def AZ6:AEP Tryz.prog A5F 18 YO:={
 mixed:=aV
 f45:=Exists.intro ("slices.Delete[[]shipyard/api.Part,shipyard/api.Part]") ⟨by decide,Tryz.func286.trans (congrArg some (by kernel_rfl))⟩
 t0:=by kernel_rfl
 a0:=λ_=>by kernel_rfl
 z0:=λ_=>by kernel_rfl
 v0:=λ_=>by kernel_rfl
 t3:=by kernel_rfl
 a3:=λ_=>by kernel_rfl
 z3:=λ_=>by kernel_rfl
 v3:=λ_=>by kernel_rfl
 t4:=by kernel_rfl
 a4:=λ_=>by kernel_rfl
 z4:=λ_=>by kernel_rfl
 v4:=λ_=>by kernel_rfl
 t22:=by kernel_rfl
 a22:=λ_=>by kernel_rfl
 z22:=λ_=>by kernel_rfl
 v22:=λ_=>by kernel_rfl
 z23:=λ_=>by kernel_rfl
 v23:=λ_=>by kernel_rfl
 i23:=by
  obtain ⟨i,h1,_,h2,_⟩:=pF (P:=Tryz.prog) (t:=57) (zv:=YO) (z:=18) (b:=208) (by kernel_rfl);exact ⟨i,h1,h2⟩ }
def G8:List (List T)->List T->Option (List (List T)):=VJ 18
def AHK:cZ Tryz.prog 286 (mV 18 G8) :=
 oP AZ6 rfl (by decide) ⟨_,Tryz.func286,rfl,rfl⟩
def ADW:Go.Shelf.Ren:=⟨λ|41=>106|n=>n,λ|23=>57|22=>33|n=>n,λ|n=>n⟩
def AZU:SlLaysE0.n41 Tryz.prog ADW:={
 mixed:=aV
 f41:=Exists.intro ("slices.Clone[[]shipyard/api.Part,shipyard/api.Part]") ⟨by decide,Tryz.func106.trans (congrArg some (by kernel_rfl))⟩
 t4:=by kernel_rfl
 a4:=λ_=>by kernel_rfl
 z4:=λ_=>by kernel_rfl
 v4:=λ_=>by kernel_rfl
 t22:=by kernel_rfl
 a22:=λ_=>by kernel_rfl
 z22:=λ_=>by kernel_rfl
 v22:=λ_=>by kernel_rfl }
def AR1:∃ i0,(Tryz.prog).info? (ADW.t 23)=some i0/\i0.zero=some YO/\i0.size=18/\i0.bytes=208:=pF (by kernel_rfl)
def CD:cZ Tryz.prog 106 (CJ 18 208) :=
 pZ AZU AR1 (λ_=>by kernel_rfl) (by decide) rfl (by decide) ⟨_,Tryz.func106,rfl,rfl⟩
def BN6:Value:=.slice none 0 0
def AM4:Go.Shelf.Ren:=⟨λ|41=>137|n=>n,λ|23=>48|22=>49|n=>n,λ|n=>n⟩
def A91:SlLaysE0.n41 Tryz.prog AM4:={
 mixed:=aV
 f41:=Exists.intro ("slices.Clone[[][]shipyard/api.Point,[]shipyard/api.Point]") ⟨by decide,Tryz.func137.trans (congrArg some (by kernel_rfl))⟩
 t4:=by kernel_rfl
 a4:=λ_=>by kernel_rfl
 z4:=λ_=>by kernel_rfl
 v4:=λ_=>by kernel_rfl
 t22:=by kernel_rfl
 a22:=λ_=>by kernel_rfl
 z22:=λ_=>by kernel_rfl
 v22:=λ_=>by kernel_rfl }
def A27:∃ i0,(Tryz.prog).info? (AM4.t 23)=some i0/\i0.zero=some BN6/\i0.size=1/\i0.bytes=24:=pF (by kernel_rfl)
def AQX:cZ Tryz.prog 137 (CJ 1 24) :=
 pZ A91 A27 (λ_=>by kernel_rfl) (by decide) rfl (by decide) ⟨_,Tryz.func137,rfl,rfl⟩
end Go.Pv
namespace Go.Pv
open Go Go.Proofs IntKind
def oB (d:aA) (id:iII):Option iH:=d.2.2.2.1.find? λs=>decide (s.1=id)
def partOf (d:aA) (id:iII):Option bD:=d.2.2.1.find? λs=>decide (s.1=id)
def dR (d:aA) (id:iII):Option fQ:=d.2.1.find? λs=>decide (s.1=id)
def P4 (m:aE) (n:iII):Option cW:=m.2.find? λs=>decide (s.1=n)
def bS:iH:=(⟨#[]⟩,⟨#[]⟩,⟨#[]⟩,0,0,0)
def bR:fQ:=(⟨#[]⟩,0,⟨#[]⟩)
def bL:bD:=(⟨#[]⟩,0,0,⟨#[]⟩,⟨#[]⟩,0,([],[]),⟨#[]⟩,0,0,(0,0,0),(0,0,0),0)
def BH:cW:=(⟨#[]⟩,0,0,0)
variable {α:Type}
def found (no:α) (o:Option α):α×Bool:=match o with
 | some s=>(s,true)
 | none=>(no,false)
def sJ (x:aA×iII):Option T:=some (Sh.enc [(true,bI),(false,.bool)] (found bS (oB x.1 x.2)))
def XR (x:aA×iII):Option T:=some (Sh.enc [(true,aP),(false,.bool)] (found bL (partOf x.1 x.2)))
def sG (x:aA×iII):Option T:=some (Sh.enc [(true,bC),(false,.bool)] (found bR (dR x.1 x.2)))
def oD (x:aE×iII):Option T:=some (Sh.enc [(true,b9),(false,.bool)] (found BH (P4 x.1 x.2)))
def BE2:Env:=Env.of []
def BFI:FuncId->Hint:=cF 197 [(2,.inv [.val 11 false (.int .i64),.fix 1])] (λ_=>a6)
def AV7:aR Tryz.prog BE2:=.nil _
def d6:T:=pPQ ({data:=#[]})
def t6(a0:aA):List (List T):=List.map bI.enc a0.2.2.2.1
def AGH(a0:aA)(a1:iII)(R:T->Prop):Prop:=gH (bE.rows false [[D.p d6,D.p d6, D.p d6,D.p (pPP 0), D.p (pPP 0),D.p (pPP 0)]]) (bE.rows false [[D.p d6,D.p d6, D.p d6,D.p (pPP 0), D.p (pPP 0),D.p (pPP 0)]]) (a8 (Int×PUnit×PUnit) (λX0 s1=>aD (decide (s1.1<(↑(t6 a0).length:Int))) (aX bI (t6 a0) s1.1 λ(y2:iH)=>aD (decide (y2.1=a1)) (R (T.bY [aF true bI y2,pPR true])) (gH (bE.rows false [[D.p d6, D.p d6, D.p d6, D.p (pPP 0), D.p (pPP 0), D.p (pPP 0)]]) (bE.rows false [[D.p d6, D.p d6, D.p d6, D.p (pPP 0), D.p (pPP 0), D.p (pPP 0)]]) (X0 (i64.wrap (s1.1+1),(),())))) (R (T.bY [T.agg [pPQ ({data:=#[]}),pPQ ({data:=#[]}), pPQ ({data:=#[]}),pPP 0, pPP 0,pPP 0], pPR false]))) (0,(),()))
abbrev AJ3:Sh:=[(true,aB),(false,Sy.str)]
def sW:List T->Option T:=gS AJ3 sJ
def HD {a0 a1}:sW [aF true aB a0,pPQ a1]=sJ (a0,a1):=bH (s:=AJ3) rfl (a0,a1) rfl
def BCI:tG Tryz.prog 197 sW sJ (cQ AJ3) AGH:=iR (a1:=(true,aB)) (a2:=(false,Sy.str)) (Hs:=BFI) (k:=8) AV7 aV aY (aN rfl) ⟨_,_,Tryz.func197,rfl⟩ rfl λ_ _ _=>by kernel_rfl
def VH:aO Tryz.prog 197 sW:=BCI λd id r h hb=>by
 have hl:d.2.2.2.1.length<=2 ^ 47:=hb.1.2.2.2.1.1;unfold AGH t6 d6;rw[dS];refine bN d.2.2.2.1.length (λk s=>s=((k:Int),(),())/\(d.2.2.2.1.drop k).find? (λs=>decide (s.1=id))=oB d id) ⟨rfl,rfl⟩ ?_;rintro X k s hk ⟨rfl,hf⟩ hX;simp only[ae,HQ,dS];by_cases hlt:k<d.2.2.2.1.length
 ·rw[p9 hlt] at hf;simp only[hlt,decide_true,aD,bG (r:=bI) hlt];cases hc:decide (d.2.2.2.1[k].1=id) with
  | true =>
   simp only[hc,if_true] at hf;simp only[sJ,sJ,<-hf] at h;cases h;rfl
  | false =>
   simp only[hc] at hf;refine hX _ hlt ⟨?_,hf⟩;simp only[Prod.mk.injEq,and_true];exact bB _ (by omega) (by omega)
 ·have:k=d.2.2.2.1.length:=by omega
  subst this;simp only[List.drop_length,List.find?_nil] at hf;simp only[sJ,sJ,<-hf] at h;simp only[hlt,decide_false,aD];cases h;rfl
def BEX:Env:=Env.of []
def BFD:FuncId->Hint:=cF 149 [(2,.inv [.val 11 false (.int .i64),.fix 1])] (λ_=>a6)
def AV2:aR Tryz.prog BEX:=.nil _
def t7(a0:aA):List (List T):=List.map bC.enc a0.2.1
def AGB(a0:aA)(a1:iII)(R:T->Prop):Prop:=gH (bE.rows false [[D.p d6,D.p (pPP 0), D.p d6]]) (bE.rows false [[D.p d6,D.p (pPP 0), D.p d6]]) (a8 (Int×PUnit×PUnit) (λX0 s1=>aD (decide (s1.1<(↑(t7 a0).length:Int))) (aX bC (t7 a0) s1.1 λ(y2:fQ)=>aD (decide (y2.1=a1)) (R (T.bY [aF true bC y2,pPR true])) (gH (bE.rows false [[D.p d6, D.p (pPP 0), D.p d6]]) (bE.rows false [[D.p d6, D.p (pPP 0), D.p d6]]) (X0 (i64.wrap (s1.1+1),(),())))) (R (T.bY [T.agg [pPQ ({data:=#[]}),pPP 0, pPQ ({data:=#[]})], pPR false]))) (0,(),()))
abbrev AJY:Sh:=[(true,aB),(false,Sy.str)]
def sU:List T->Option T:=gS AJY sG
def HB {a0 a1}:sU [aF true aB a0,pPQ a1]=sG (a0,a1):=bH (s:=AJY) rfl (a0,a1) rfl
def BCD:tG Tryz.prog 149 sU sG (cQ AJY) AGB:=iR (a1:=(true,aB)) (a2:=(false,Sy.str)) (Hs:=BFD) (k:=8) AV2 aV aY (aN rfl) ⟨_,_,Tryz.func149,rfl⟩ rfl λ_ _ _=>by kernel_rfl
def VF:aO Tryz.prog 149 sU:=BCD λd id r h hb=>by
 have hl:d.2.1.length<=2 ^ 47:=hb.1.2.1.1;unfold AGB t7 d6;rw[dS];refine bN d.2.1.length (λk s=>s=((k:Int),(),())/\(d.2.1.drop k).find? (λs=>decide (s.1=id))=dR d id) ⟨rfl,rfl⟩ ?_;rintro X k s hk ⟨rfl,hf⟩ hX;simp only[ae,HQ,dS];by_cases hlt:k<d.2.1.length
 ·rw[p9 hlt] at hf;simp only[hlt,decide_true,aD,bG (r:=bC) hlt];cases hc:decide (d.2.1[k].1=id) with
  | true =>
   simp only[hc,if_true] at hf;simp only[sG,sG,<-hf] at h;cases h;rfl
  | false =>
   simp only[hc] at hf;refine hX _ hlt ⟨?_,hf⟩;simp only[Prod.mk.injEq,and_true];exact bB _ (by omega) (by omega)
 ·have:k=d.2.1.length:=by omega
  subst this;simp only[List.drop_length,List.find?_nil] at hf;simp only[sG,sG,<-hf] at h;simp only[hlt,decide_false,aD];cases h;rfl
def AOP:Env:=Env.of []
def APR:FuncId->Hint:=cF 319 [(2,.inv [.val 8 false (.int .i64)])] (λ_=>a6)
def Y5:aR Tryz.prog AOP:=.nil _
def g9(X0:Int×PUnit->Prop)(s1:Int×PUnit):Prop:=X0 (i64.wrap (s1.1+1),())
def BOZ:List T:=[T.agg [pPQ ({data:=#[]}),pPP 0, pPP 0,pPP 0], pPR false]
def GJ(a0:aE)(a1:iII)(R:T->Prop):Prop:=a8 (Int×PUnit) (λX0 s1=>aD (decide (s1.1<(↑(List.map b9.enc a0.2).length:Int))) (aX b9 (List.map b9.enc a0.2) s1.1 λ(y2:cW)=>aD (decide (y2.1=a1)) (aD (decide (s1.1<0)) (R (T.bY BOZ)) (aX b9 (List.map b9.enc a0.2) s1.1 λ(y3:cW)=>R (T.bY [aF true b9 y3,pPR true]))) (g9 X0 s1)) (R (T.bY BOZ))) (0,())
abbrev IE:Sh:=[(true,aI),(false,Sy.str)]
def dC:List T->Option T:=gS IE oD
def VT {a0 a1}:dC [aF true aI a0,pPQ a1]=oD (a0,a1):=bH (s:=IE) rfl (a0,a1) rfl
def AJC:tG Tryz.prog 270 dC oD (cQ IE) GJ:=iR (a1:=(true,aI)) (a2:=(false,Sy.str)) (Hs:=APR) (k:=8) Y5 aV aY (aN rfl) ⟨_,_,Tryz.func270,rfl⟩ rfl λ_ _ _=>by kernel_rfl
def N2:aO Tryz.prog 270 dC:=AJC λm n r h hb=>by
 have hl:m.2.length<=2 ^ 47:=hb.1.2.1;unfold GJ BOZ g9;refine bN m.2.length (λk s=>s=((k:Int),())/\(m.2.drop k).find? (λs=>decide (s.1=n))=P4 m n) ⟨rfl,rfl⟩ ?_;rintro X k s hk ⟨rfl,hf⟩ hX;simp only[ae,HQ];by_cases hlt:k<m.2.length
 ·rw[p9 hlt] at hf;have h0:¬ ((k:Int)<0):=by omega
  simp only[hlt,decide_true,aD,bG (r:=b9) hlt,h0,decide_false];cases hc:decide (m.2[k].1=n) with
  | true =>
   simp only[hc,if_true] at hf;simp only[oD,<-hf] at h;cases h;rfl
  | false =>
   simp only[hc] at hf;refine hX _ hlt ⟨?_,hf⟩;simp only[Prod.mk.injEq,and_true];exact bB _ (by omega) (by omega)
 ·have:k=m.2.length:=by omega
  subst this;simp only[List.drop_length,List.find?_nil] at hf;simp only[oD,<-hf] at h;simp only[hlt,decide_false,aD];cases h;rfl
end Go.Pv
namespace Go.Pv
open Go Go.Proofs IntKind
def AG6:T4 Tryz.prog 136 2 16:=⟨λR=>by kernel_rfl,λfl R=>by kernel_rfl,λfl a rows R=>by kernel_rfl⟩
def kR:List T->Option T:=gS [(false,.li aC)] (fM aC 16)
def pL {u0}:kR [T.sl false (List.map (Sy.enc aC) u0)]=fM aC 16 u0:=bH (s:=[(false,.li aC)]) rfl u0 rfl
def NY:aO Tryz.prog 136 kR:=GV aV aY ⟨_,_,Tryz.func136,rfl⟩ AG6
def Z7:AEO Tryz.prog 137 1 24:=⟨λR=>by kernel_rfl,λfl R=>by kernel_rfl,λfl a rows R=>by kernel_rfl⟩
def vD:List T->Option (List (List T)):=gS [(false,.li (.li aC))] (pU (.li aC) 24)
def QV {u0}:vD [T.sl false (List.map (Sy.enc (.li aC)) u0)]=pU (.li aC) 24 u0:=bH (s:=[(false,.li (.li aC))]) rfl u0 rfl
def AAP:fP Tryz.prog 137 vD:=AP7 aV aY ⟨_,_,Tryz.func137,rfl⟩ Z7
def lO (b:Nat) (n:Nat):Bool:=decide (n*b<=140737488355328)&&decide (n<=140737488355328)
def FB (s:j0):Bool:=lO 16 s.1.length&&lO 24 s.2.length&&s.2.all λh=>lO 16 h.length
def dU (p:bD):Bool:=FB p.2.2.2.2.2.2.1
def A0 (d:aA):Bool:=d.2.2.1.all dU
def jL {r:Sy} {b:Nat} {l:List r.den} (h:lO b l.length=true):pU r b l=some (List.map r.enc l):=by
 unfold pU;unfold lO at h;rw[h]
def kN (x:aA×iII):Option T:=match A0 x.1 with
 | true=>XR x
 | false=>none
def A7G:Env:=Env.of [(136,.pure kR),(137,.fresh vD)]
def A87:FuncId->Hint:=cF 94 [(2,.inv [.val 13 false (.int .i64),.fix 1]),(7,.alt [.val 37 false (.int .i64),.arr 4 1 (.li aC)] [.val 37 false (.int .i64)])] (λ_=>a6)
def AOY:aR Tryz.prog A7G:=.cons NY (.cons AAP (.nil _))
def d9:T:=T.v (Value.slice none 0 0)
def f6:Sh:=[(false,aC.li)]
def H1(a0:aA):List (List T):=List.map aP.enc a0.2.2.1
def i6(y7:List aU):List (List T):=List.map aC.enc y7
def AC(y2:bD):List (List T):=List.map aC.li.enc y2.2.2.2.2.2.2.1.2
def NE(s12:Int×List (List aU)×PUnit):List (List T):=List.map aC.li.enc s12.2.1
def BO1(y7:List aU):List T:=[T.sl false (i6 y7)]
def BO9(y2:bD):List (List T):=List.map aC.enc y2.2.2.2.2.2.2.1.1
def UH(a0:aA)(a1:iII)(R:T->Prop):Prop:=gH (bE.rows false [[D.p d6,D.p (pPP 0), D.p (pPP 0),D.p d6, D.p d6,D.p (pPP 0), D.p d9,D.p d9, D.p d6,D.p (pPP 0), D.p (pPP 0),D.p (pPP 0), D.p (pPP 0),D.p (pPP 0), D.p (pPP 0),D.p (pPP 0), D.p (pPP 0),D.p (pPP 0)]]) (bE.rows false [[D.p d6,D.p (pPP 0), D.p (pPP 0),D.p d6, D.p d6,D.p (pPP 0), D.p d9,D.p d9, D.p d6,D.p (pPP 0), D.p (pPP 0),D.p (pPP 0), D.p (pPP 0),D.p (pPP 0), D.p (pPP 0),D.p (pPP 0), D.p (pPP 0),D.p (pPP 0)]]) (a8 (Int×PUnit×PUnit) (λX0 s1=>aD (decide (s1.1<(↑(H1 a0).length:Int))) (aX aP (H1 a0) s1.1 λ(y2:bD)=>aD (decide (y2.1=a1)) (aM f6 (kR [T.sl false (BO9 y2)]) λ(y3:List aU)=>fB aC.li (vD [T.sl false (AC y2)]) λ(y4:List (List aU))=>aD y4.isEmpty (a8 (Int×PUnit) (λX5 s6=>aD (decide (s6.1<(↑0:Int))) (aX aC.li [] s6.1 λ(y7:List aU)=>aM f6 (kR (BO1 y7)) λ(y8:List aU)=>aX aC.li [] s6.1 λ(y9:List aU)=>cA 104) (R (T.bY [T.agg [pPQ y2.1,pPP y2.2.1, pPP y2.2.2.1, pPQ y2.2.2.2.1, pPQ y2.2.2.2.2.1, pPP y2.2.2.2.2.2.1, T.sl false (i6 y3),T.sl false [], pPQ y2.2.2.2.2.2.2.2.1, pPP y2.2.2.2.2.2.2.2.2.1, pPP y2.2.2.2.2.2.2.2.2.2.1, pPP y2.2.2.2.2.2.2.2.2.2.2.1.1, pPP y2.2.2.2.2.2.2.2.2.2.2.1.2.1, pPP y2.2.2.2.2.2.2.2.2.2.2.1.2.2, pPP y2.2.2.2.2.2.2.2.2.2.2.2.1.1, pPP y2.2.2.2.2.2.2.2.2.2.2.2.1.2.1, pPP y2.2.2.2.2.2.2.2.2.2.2.2.1.2.2, pPP y2.2.2.2.2.2.2.2.2.2.2.2.2], pPR true]))) (0,())) (iT aC.li (List.map aC.li.enc y4) λ(y10:List (List aU))=>a8 (Int×List (List aU)×PUnit) (λX11 s12=>aD (decide (s12.1<(↑(List.map aC.li.enc y4).length:Int))) (aX aC.li (NE s12) s12.1 λ(y13:List aU)=>jD aC.li (NE s12) (Int.toNat s12.1) 0 λ(y14:List aU)=>aM f6 (kR (BO1 y14)) λ(y15:List aU)=>aX aC.li (NE s12) s12.1 λ(y16:List aU)=>wP (NE s12) (Int.toNat s12.1) λ(y17:List T)=>b7 (decide (1<=y17.length)) (iT aC.li ((NE s12).set (Int.toNat s12.1) (bU y17 0 (BO1 y15))) λ(y18:List (List aU))=>X11 (i64.wrap (s12.1+1),y18,()))) (R (T.bY [T.agg [pPQ y2.1, pPP y2.2.1, pPP y2.2.2.1, pPQ y2.2.2.2.1, pPQ y2.2.2.2.2.1, pPP y2.2.2.2.2.2.1, T.sl false (i6 y3), T.sl false (NE s12), pPQ y2.2.2.2.2.2.2.2.1, pPP y2.2.2.2.2.2.2.2.2.1, pPP y2.2.2.2.2.2.2.2.2.2.1, pPP y2.2.2.2.2.2.2.2.2.2.2.1.1, pPP y2.2.2.2.2.2.2.2.2.2.2.1.2.1, pPP y2.2.2.2.2.2.2.2.2.2.2.1.2.2, pPP y2.2.2.2.2.2.2.2.2.2.2.2.1.1, pPP y2.2.2.2.2.2.2.2.2.2.2.2.1.2.1, pPP y2.2.2.2.2.2.2.2.2.2.2.2.1.2.2, pPP y2.2.2.2.2.2.2.2.2.2.2.2.2], pPR true]))) (0,y10,()))) (gH (bE.rows false [[D.p d6, D.p (pPP 0), D.p (pPP 0), D.p d6, D.p d6, D.p (pPP 0), D.p d9,D.p d9, D.p d6, D.p (pPP 0), D.p (pPP 0), D.p (pPP 0), D.p (pPP 0), D.p (pPP 0), D.p (pPP 0), D.p (pPP 0), D.p (pPP 0), D.p (pPP 0)]]) (bE.rows false [[D.p d6, D.p (pPP 0), D.p (pPP 0), D.p d6, D.p d6, D.p (pPP 0), D.p d9,D.p d9, D.p d6, D.p (pPP 0), D.p (pPP 0), D.p (pPP 0), D.p (pPP 0), D.p (pPP 0), D.p (pPP 0), D.p (pPP 0), D.p (pPP 0), D.p (pPP 0)]]) (X0 (i64.wrap (s1.1+1),(),())))) (R (T.bY [T.agg [pPQ ({data:=#[]}),pPP 0, pPP 0,pPQ ({data:=#[]}), pPQ ({data:=#[]}),pPP 0, T.sl false [],T.sl false [],pPQ ({data:=#[]}), pPP 0,pPP 0, pPP 0,pPP 0, pPP 0,pPP 0, pPP 0,pPP 0, pPP 0], pPR false]))) (0,(),()))
abbrev WY:Sh:=[(true,aB),(false,Sy.str)]
def fZ:List T->Option T:=gS WY kN
def nW {a0 a1}:fZ [aF true aB a0,pPQ a1]=kN (a0,a1):=bH (s:=WY) rfl (a0,a1) rfl
def A4N:tG Tryz.prog 94 fZ kN (cQ WY) UH:=iR (a1:=(true,aB)) (a2:=(false,Sy.str)) (Hs:=A87) (k:=8) AOY aV aY (aN rfl) ⟨_,_,Tryz.func94,rfl⟩ rfl λ_ _ _=>by kernel_rfl
def qV:aO Tryz.prog 94 fZ:=A4N λd id r h hb=>by
 have hl:d.2.2.1.length<=2 ^ 47:=hb.1.2.2.1.1;unfold kN at h;split at h
 ·rename_i hok;unfold UH BO9 BO1 NE AC i6 H1 f6 d9 d6;rw[dS];refine bN d.2.2.1.length (λk s=>s=((k:Int),(),())/\(d.2.2.1.drop k).find? (λs=>decide (s.1=id))=partOf d id) ⟨rfl,rfl⟩ ?_;rintro X k s hk ⟨rfl,hf⟩ hX;simp only[ae,HQ,dS];by_cases hlt:k<d.2.2.1.length
  ·rw[p9 hlt] at hf;have hp:dU d.2.2.1[k]=true:=List.all_eq_true.1 hok _ (ak hlt);simp only[hlt,decide_true,aD,bG (r:=aP) hlt];generalize d.2.2.1[k]=p at *;unfold dU FB at hp;simp only[ac] at hp;obtain ⟨⟨hp1,hp2⟩,hp3⟩:=hp;cases hc:decide (p.1=id) with
   | true =>
    simp only[hc,if_true] at hf;simp only[XR,<-hf] at h;cases h;simp only[];refine aK (s:=[(false,aC.li)]) (y:=p.2.2.2.2.2.2.1.1) (by rw[pL,fM,jL hp1];rfl) ?_;refine eR (r:=.li aC) (l:=p.2.2.2.2.2.2.1.2) (by rw[QV,jL hp2]) _ ?_;obtain ⟨p1,p2,p3,p4,p5,p6,⟨o,hs⟩,p7⟩:=p;have hb47:hs.length<=140737488355328:=by
     simp only[lO,ac,ah] at hp2;exact hp2.2
    cases hs with
    | nil =>
     simp only[List.isEmpty_nil];refine bN 0 (λk s=>s=((k:Int),())) rfl ?_;rintro X k s hk rfl hX;have:k=0:=by omega
     subst this;rfl
    | cons h0 hs =>
     generalize hhs:h0::hs=hh at *;have he:hh.isEmpty=false:=by rw[<-hhs];rfl
     simp only[he];rw[eX (r:=.li aC) rfl];refine bN hh.length (λk s=>s=((k:Int),hh,())) rfl ?_;rintro X k s hk rfl hX;simp only[ae,HQ];by_cases hlt:k<hh.length
     ·have hok:lO 16 hh[k].length=true:=List.all_eq_true.1 hp3 _ (ak hlt);simp only[hlt,decide_true,Int.toNat_natCast,bG (r:=.li aC) hlt,jU (r:=.li aC) hlt,pT (r:=.li aC) hlt];refine aK (s:=[(false,aC.li)]) (y:=hh[k]) (by rw[pL,fM,jL hok];rfl) ?_;refine ⟨rfl,?_⟩;have e:bU (Sy.enc (.li aC) hh[k]) 0 [T.sl false (List.map aC.enc hh[k])]=Sy.enc (.li aC) hh[k]:=rfl;rw[e,FN (r:=.li aC) hlt,eX (r:=.li aC) rfl];refine hX _ hlt ?_;simp only[Prod.mk.injEq,and_true];exact bB _ (by omega) (by omega)
     ·simp only[hlt,decide_false];rfl
   | false =>
    simp only[hc] at hf;refine hX _ hlt ⟨?_,hf⟩;simp only[Prod.mk.injEq,and_true];exact bB _ (by omega) (by omega)
  ·have:k=d.2.2.1.length:=by omega
   subst this;simp only[List.drop_length,List.find?_nil] at hf;simp only[XR,<-hf] at h;simp only[hlt,decide_false,aD];cases h;rfl
 ·cases h
end Go.Pv
namespace Go.Pv
open Go Go.Proofs IntKind
abbrev qF:Sh:=[(false,.bool)]
variable {A B:Prop}
def gX {p:Prop} {i:Decidable p} (h:p) (ha:A):aD (@decide p i) A B:=by rw[show @decide p i=true from ai h];exact ha
def jI {p:Prop} {i:Decidable p} (h:¬ p) (hb:B):aD (@decide p i) A B:=by rw[show @decide p i=false from aj h];exact hb
def cO {p:Prop} {i:Decidable p} (h1:p->A) (h2:¬ p->B):aD (@decide p i) A B:=by
 by_cases h:p
 ·rw[ai h];exact h1 h
 ·rw[aj h];exact h2 h
def lK {p:Prop} {i:Decidable p} (h1:¬ p->A) (h2:p->B):aD (!(@decide p i)) A B:=by
 by_cases h:p
 ·rw[ai h];exact h2 h
 ·rw[aj h];exact h1 h
def DQ {c:Bool} (h1:c=true->A) (h2:c=false->B):aD c A B:=by cases c with
 | true=>exact h1 rfl
 | false=>exact h2 rfl
def lD {c:Bool} (h1:c=false->A) (h2:c=true->B):aD (!c) A B:=by cases c with
 | true=>exact h2 rfl
 | false=>exact h1 rfl
def b6 {α:Type} (f:α->Int):List α->Int
 | []=>0
 | a::l=>if f a=0 then b6 f l else f a
def qU {r:Sy} {l:List r.den} (f:r.den->Int) (hl:l.length<=140737488355328) {Body:(Int×PUnit->Prop)->Int×PUnit->r.den->Prop} {Exit:Prop}
  (hbody:∀ (X:Int×PUnit->Prop) (s:Int×PUnit) (y:r.den),y∈l->(f y=0->X (i64.wrap (s.1+1),()))->(f y≠0->b6 f l=f y)->Body X s y) (hexit:b6 f l=0->Exit) :
  a8 (Int×PUnit) (λ(X:Int×PUnit->Prop) (s:Int×PUnit)=>aD (decide (s.1<((List.map r.enc l).length:Int))) (aX r (List.map r.enc l) s.1 λy=>Body X s y) Exit) (0,()):=by
 refine bN l.length (λk s=>s=((k:Int),())/\b6 f l=b6 f (l.drop k)) ⟨rfl,by rw[List.drop_zero]⟩ ?_;rintro X k s hk ⟨rfl,he⟩ hX;dsimp only;refine cO (λhlt=>?_) λhge=>?_
 ·rw[ae] at hlt;have hlt:k<l.length:=by omega
  rw[bG hlt];have hd:l.drop k=l[k]::l.drop (k+1):=List.drop_eq_getElem_cons hlt;rw[hd,b6] at he;refine hbody X _ _ (ak hlt) (λh0=>?_) λh0=>by rw[he,if_neg h0]
  rw[if_pos h0] at he;exact hX _ hlt ⟨by rw[show i64.wrap ((k:Int)+1)=((k+1:Nat):Int) from bB _ (by omega) (by omega)],he⟩
 ·rw[ae] at hge;have:k=l.length:=by omega
  subst this;rw[List.drop_length] at he;exact hexit he
end Go.Pv
namespace Go.Pv
open Go Go.Proofs IntKind
def upF (d:aA):Nat->iII->List iII->List iII×Bool
 | 0,_,_=>([],false)
 | n+1,id,l=>match dR d id with
  | none=>([],false)
  | some x=>if x.2.1=1 then (l++[id],true) else upF d n x.2.2 (l++[id])
def up (d:aA) (id:iII):List iII×Bool:=upF d 65 id []
def ANJ {d:aA}:∀ {n:Nat} {id:iII} {l:List iII},(upF d n id l).1.length<=l.length+n
 | 0,_,_=>by simp[upF]
 | n+1,id,l=>by
  unfold upF;cases dR d id with
  | none=>simp
  | some x =>
   by_cases hx:x.2.1=1
   ·simp only[hx,if_true];simp
   ·simp only[hx,if_false];have:=ANJ (d:=d) (n:=n) (id:=x.2.2) (l:=l++[id]);simp at this;omega
def BKN (d:aA) (id:iII):(up d id).1.length<=65:=by have:=ANJ (d:=d) (n:=65) (id:=id) (l:=[]);simpa [up] using this
def AZD {l:List iII} (h:l.length<=8000000000000) (K:Prop):b7 (decide (((List.map Sy.str.enc l).length+1)*16<=140737488355328)&&decide ((List.map Sy.str.enc l).length+1<=140737488355328)) K=K:=by
 have e:(decide (((List.map Sy.str.enc l).length+1)*16<=140737488355328)&&decide ((List.map Sy.str.enc l).length+1<=140737488355328))=true:=by
  simp only[ae,ac,ah];omega
 rw[e];simp[b7]
def AAE {l:List iII} {x:iII} (K:List iII->Prop):iT Sy.str (List.map Sy.str.enc l++[[pPQ x]]) K=K (l++[x]):=GW (r:=.str) rfl l _ x rfl K
def A0C {l:List iII} {x:iII}:List.map Sy.str.enc l++[[pPQ x]]=List.map Sy.str.enc (l++[x]):=by simp[Sy.enc]
end Go.Pv
namespace Go.Pv
open Go Go.Proofs IntKind
variable {α:Type}
def pE (a b:α):Bool:=@decide (a=b) (Classical.propDecidable _)
def eG {a b:α}:pE a b=true↔a=b:=by unfold pE;exact @decide_eq_true_iff _ (Classical.propDecidable _)
@[simp] def BMX (a:α):pE a a=true:=eG.2 rfl
def xC {a b:α} (h:¬ a=b):pE a b=false:=by
 cases hc:pE a b with
 | false=>rfl
 | true=>exact absurd (eG.1 hc) h
def ACR (c d:Bool) (r:T):aD c (pPR d=r) (pPR false=r)=(pPR (c&&d)=r):=by cases c<;>simp[aD]
def SY (c d:Bool) (r:T):aD (!c) (pPR false=r) (pPR d=r)=(pPR (c&&d)=r):=by cases c<;>simp[aD]
def BD5 (x:Bool):Sh.enc qF x=pPR x:=rfl
def yH (y:Bool) (K:Bool->Prop):aM [(false,Sy.bool)] (some (Sh.enc qF y)) K=K y:=yZ (s:=qF) rfl y K
variable {R:T->Prop}
def ATW {r:Sy} {l m:List r.den} (hlen:l.length=m.length) (hl:l.length<=2 ^ 47) (test:r.den->r.den->Bool) (ht:∀ x y,test x y=true↔x=y) (hR:R (pPR (pE l m))) :
  a8 (Int×PUnit) (λ(X:Int×PUnit->Prop) (s:Int×PUnit)=>aD (decide (s.1<(↑(List.map r.enc l).length:Int))) (aX r (List.map r.enc l) s.1 λy=>aX r (List.map r.enc m) s.1 λz=>aD (!(test y z)) (R (pPR false)) (X (i64.wrap (s.1+1),()))) (R (pPR true))) (0,()):=by
 refine bN l.length (λk s=>s=((k:Int),())/\(l=m↔l.drop k=m.drop k)) ⟨rfl,by simp⟩ ?_;rintro X k s hk ⟨rfl,he⟩ hX;dsimp only;by_cases hlt:k<l.length
 ·have hlt2:k<m.length:=by omega
  refine gX (by simp[hlt]) ?_;rw[bG hlt,bG hlt2];rw[List.drop_eq_getElem_cons hlt,List.drop_eq_getElem_cons hlt2,List.cons.injEq] at he;by_cases h1:l[k]=m[k]
  ·rw[(ht _ _).2 h1,Bool.not_true,pA];refine hX _ hlt ⟨by rw[show i64.wrap ((k:Int)+1)=((k+1:Nat):Int) from bB _ (by omega) (by omega)],?_⟩;rw[he];exact ⟨λh=>h.2,λh=>⟨h1,h⟩⟩
  ·have:test l[k] m[k]=false:=by
    cases hc:test l[k] m[k] with
    | false=>rfl
    | true=>exact absurd ((ht _ _).1 hc) h1
   rw[this,Bool.not_false,kH];rwa[xC λh=>h1 (he.1 h).1] at hR
 ·have:k=l.length:=by omega
  subst this;refine jI (by simp) ?_;rwa[eG.2 (he.2 (by rw[List.drop_length,hlen,List.drop_length]))] at hR
def FM {r:Sy} {l m:List r.den} (hl:l.length<=2 ^ 47) (test:r.den->r.den->Bool) (ht:∀ x y,test x y=true↔x=y) (hR:R (pPR (pE l m))) :
  aD (!decide ((↑(List.map r.enc l).length:Int)=(↑(List.map r.enc m).length:Int))) (R (pPR false)) (a8 (Int×PUnit) (λ(X:Int×PUnit->Prop) (s:Int×PUnit)=>aD (decide (s.1<(↑(List.map r.enc l).length:Int))) (aX r (List.map r.enc l) s.1 λy=>aX r (List.map r.enc m) s.1 λz=>aD (!(test y z)) (R (pPR false)) (X (i64.wrap (s.1+1),()))) (R (pPR true))) (0,())):=by
 by_cases hlen:l.length=m.length
 ·rw[show (!decide ((↑(List.map r.enc l).length:Int)=(↑(List.map r.enc m).length:Int)))=false by simp[hlen],pA];exact ATW hlen hl test ht hR
 ·rw[show (!decide ((↑(List.map r.enc l).length:Int)=(↑(List.map r.enc m).length:Int)))=true by simp;omega,kH];rwa[xC λh=>hlen (by rw[h])] at hR
def eK (d:aA) (id:iII):Option bA:=d.2.2.2.2.1.find? λs=>decide (s.1=id)
def noPack:bA:=(⟨#[]⟩,⟨#[]⟩,[],0,[])
def Z8:T4 Tryz.prog 243 1 16:=⟨λR=>by kernel_rfl,λfl R=>by kernel_rfl,λfl a rows R=>by kernel_rfl⟩
def kE:List T->Option T:=gS [(false,.li .str)] (fM .str 16)
def oG {u0}:kE [T.sl false (List.map (Sy.enc .str) u0)]=fM .str 16 u0:=bH (s:=[(false,.li .str)]) rfl u0 rfl
def JA:aO Tryz.prog 243 kE:=GV aV aY ⟨_,_,Tryz.func243,rfl⟩ Z8
def dL (p:bA):Bool:=lO 16 p.2.2.1.length&&lO 16 p.2.2.2.2.length
def zT (d:aA):Bool:=d.2.2.2.2.1.all dL
def ADJ (d:aA) (t:T):Option T:=match zT d with
 | true=>some t
 | false=>none
def A4Z {d:aA} {t r:T} (h:ADJ d t=some r):zT d=true/\r=t:=by
 unfold ADJ at h;split at h
 ·cases h;exact ⟨by assumption,rfl⟩
 ·cases h
def O7 {d:aA} (t:T) (h:zT d=true):ADJ d t=some t:=by unfold ADJ;rw[h]
def AF (x:aA×iII):Option T:=ADJ x.1 (Sh.enc [(true,aH),(false,.bool)] (found noPack (eK x.1 x.2)))
def BEY:Env:=Env.of [(243,.pure kE)]
def BFE:FuncId->Hint:=cF 217 [(2,.inv [.val 11 false (.int .i64),.fix 1])] (λ_=>a6)
def AV3:aR Tryz.prog BEY:=.cons JA (.nil _)
def f0:Sh:=[(false,Sy.str.li)]
def m8(a0:aA):List (List T):=List.map aH.enc a0.2.2.2.2.1
def IO(y3:List iII):List (List T):=List.map Sy.str.enc y3
def BO5(y2:bA):List (List T):=List.map Sy.str.enc y2.2.2.2.2
def BO8(y2:bA):List (List T):=List.map Sy.str.enc y2.2.2.1
def AGD(a0:aA)(a1:iII)(R:T->Prop):Prop:=gH (bE.rows false [[D.p d6,D.p d6, D.p d9,D.p (pPP 0), D.p d9]]) (bE.rows false [[D.p d6,D.p d6, D.p d9,D.p (pPP 0), D.p d9]]) (a8 (Int×PUnit×PUnit) (λX0 s1=>aD (decide (s1.1<(↑(m8 a0).length:Int))) (aX aH (m8 a0) s1.1 λ(y2:bA)=>aD (decide (y2.1=a1)) (aM f0 (kE [T.sl false (BO8 y2)]) λ(y3:List iII)=>aM f0 (kE [T.sl false (BO5 y2)]) λ(y4:List iII)=>R (T.bY [T.agg [pPQ y2.1,pPQ y2.2.1, T.sl false (IO y3), pPP y2.2.2.2.1, T.sl false (IO y4)], pPR true])) (gH (bE.rows false [[D.p d6, D.p d6, D.p d9, D.p (pPP 0), D.p d9]]) (bE.rows false [[D.p d6, D.p d6, D.p d9, D.p (pPP 0), D.p d9]]) (X0 (i64.wrap (s1.1+1),(),())))) (R (T.bY [T.agg [pPQ ({data:=#[]}),pPQ ({data:=#[]}), T.sl false [],pPP 0,T.sl false []], pPR false]))) (0,(),()))
abbrev AJZ:Sh:=[(true,aB),(false,Sy.str)]
def sV:List T->Option T:=gS AJZ AF
def HC {a0 a1}:sV [aF true aB a0,pPQ a1]=AF (a0,a1):=bH (s:=AJZ) rfl (a0,a1) rfl
def BCE:tG Tryz.prog 217 sV AF (cQ AJZ) AGD:=iR (a1:=(true,aB)) (a2:=(false,Sy.str)) (Hs:=BFE) (k:=8) AV3 aV aY (aN rfl) ⟨_,_,Tryz.func217,rfl⟩ rfl λ_ _ _=>by kernel_rfl
def VG:aO Tryz.prog 217 sV:=BCE λd id r h hb=>by
 have hl:d.2.2.2.2.1.length<=2 ^ 47:=hb.1.2.2.2.2.1.1;obtain ⟨hok,rfl⟩:=A4Z h;clear h;unfold AGD BO8 BO5 IO m8 f0 d9 d6;rw[dS];refine bN d.2.2.2.2.1.length (λk s=>s=((k:Int),(),())/\(d.2.2.2.2.1.drop k).find? (λs=>decide (s.1=id))=eK d id) ⟨rfl,rfl⟩ ?_;rintro X k s hk ⟨rfl,hf⟩ hX;simp only[ae,HQ,dS];by_cases hlt:k<d.2.2.2.2.1.length
 ·rw[p9 hlt] at hf;have hp:dL d.2.2.2.2.1[k]=true:=List.all_eq_true.1 hok _ (ak hlt);simp only[hlt,decide_true,aD,bG (r:=aH) hlt];unfold dL at hp;simp only[ac] at hp;cases hc:decide (d.2.2.2.2.1[k].1=id) with
  | true =>
   simp only[hc,if_true] at hf;rw[<-hf];refine aK (s:=[(false,.li .str)]) (y:=d.2.2.2.2.1[k].2.2.1) (by rw[oG,fM,jL hp.1];rfl) ?_;refine aK (s:=[(false,.li .str)]) (y:=d.2.2.2.2.1[k].2.2.2.2) (by rw[oG,fM,jL hp.2];rfl) ?_;rfl
  | false =>
   simp only[hc] at hf;refine hX _ hlt ⟨?_,hf⟩;simp only[Prod.mk.injEq,and_true];exact bB _ (by omega) (by omega)
 ·have:k=d.2.2.2.2.1.length:=by omega
  subst this;simp only[List.drop_length,List.find?_nil] at hf;rw[<-hf];simp only[hlt,decide_false,aD];rfl
def uV (x:List aU×List aU):Option T:=some (Sh.enc qF (pE x.1 x.2))
def uW (x:j0×j0):Option T:=some (Sh.enc qF (pE x.1 x.2))
def oY (x:bD×bD):Option T:=some (Sh.enc qF (pE x.1 x.2))
def yQ (x:List iII×List iII):Option T:=some (Sh.enc qF (pE x.1 x.2))
def oX (x:bA×bA):Option T:=some (Sh.enc qF (pE x.1 x.2))
def AVI:Env:=Env.of []
def AY2:FuncId->Hint:=cF 95 [(4,.inv [.val 5 false (.int .i64)])] (λ_=>a6)
def AFP:aR Tryz.prog AVI:=.nil _
def d4:T:=pPR false
def d7:T:=pPR true
def LE(a0:List aU)(a1:List aU)(R:T->Prop):Prop:=a8 (Int×PUnit) (λX0 s1=>aD (decide (s1.1<(↑(i6 a0).length:Int))) (aX aC (i6 a0) s1.1 λ(y2:aU)=>aX aC (i6 a1) s1.1 λ(y3:aU)=>aD (!(decide (y2.1=y3.1)&&(decide (y2.2=y3.2)&&true))) (R d4) (g9 X0 s1)) (R d7)) (0,())
def ME(a0:List aU)(a1:List aU)(R:T->Prop):Prop:=aD (!decide ((↑(i6 a0).length:Int)=(↑(i6 a1).length:Int))) (R d4) (LE a0 a1 R)
abbrev PX:Sh:=[(false,aC.li),(false,aC.li)]
def uF:List T->Option T:=gS PX uV
def ACE {a0 a1}:uF [T.sl false (List.map aC.enc a0),T.sl false (List.map aC.enc a1)]=uV (a0,a1):=bH (s:=PX) rfl (a0,a1) rfl
def AS9:tG Tryz.prog 95 uF uV (cQ PX) ME:=iR (a1:=(false,aC.li)) (a2:=(false,aC.li)) (Hs:=AY2) (k:=8) AFP aV aY (aN rfl) ⟨_,_,Tryz.func95,rfl⟩ rfl λ_ _ _=>by kernel_rfl
def AQ8:aO Tryz.prog 95 uF:=AS9 λa b r h hb=>by
 cases h;unfold ME LE i6 g9 d7 d4;refine FM (r:=aC) (R:=λy=>y=Sh.enc qF (pE a b)) hb.1.1 _ (λx y=>?_) rfl;simp only[Bool.and_true,ac,ah,Prod.ext_iff]
def AVJ:Env:=Env.of [(95,.pure uF)]
def AY3:FuncId->Hint:=cF 67 [(4,.inv [.val 5 false (.int .i64)])] (λ_=>a6)
def AFQ:aR Tryz.prog AVJ:=.cons AQ8 (.nil _)
def d5:Sh:=[(false,Sy.bool)]
def BPD(a0:j0):List (List T):=List.map aC.li.enc a0.2
def MF(a0:j0)(a1:j0)(R:T->Prop):Prop:=aM d5 (uF [T.sl false (List.map aC.enc a0.1),T.sl false (List.map aC.enc a1.1)]) λ(y0:Bool)=>aD (!y0) (R d4) (aD (!decide ((↑(BPD a0).length:Int) = (↑(BPD a1).length:Int))) (R d4) (a8 (Int×PUnit) (λX1 s2=>aD (decide (s2.1<(↑(BPD a0).length:Int))) (aX aC.li (BPD a0) s2.1 λ(y3:List aU)=>aX aC.li (BPD a1) s2.1 λ(y4:List aU)=>aM d5 (uF [T.sl false (i6 y3),T.sl false (i6 y4)]) λ(y5:Bool)=>aD (!y5) (R d4) (g9 X1 s2)) (R d7)) (0,())))
abbrev PY:Sh:=[(true,e8),(true,e8)]
def xX:List T->Option T:=gS PY uW
def ACF {a0 a1}:xX [aF true e8 a0,aF true e8 a1]=uW (a0,a1):=bH (s:=PY) rfl (a0,a1) rfl
def ATA:tG Tryz.prog 67 xX uW (cQ PY) MF:=iR (a1:=(true,e8)) (a2:=(true,e8)) (Hs:=AY3) (k:=8) AFQ aV aY (aN rfl) ⟨_,_,Tryz.func67,rfl⟩ rfl λ_ _ _=>by kernel_rfl
def ARA:aO Tryz.prog 67 xX:=ATA λa b r h hb=>by
 cases h;unfold MF BPD i6 g9 d7 d5 d4;have u:=@ACE;simp only[u,uV,yH];by_cases h1:a.1=b.1
 ·rw[eG.2 h1,Bool.not_true,pA];refine FM (r:=.li aC) (R:=λy=>y=Sh.enc qF (pE a b)) hb.1.2.1 _ (λx y=>eG) ?_;show T.v (.bool (pE a.2 b.2))=T.v (.bool (pE a b))
  congr 2
  rw[Bool.eq_iff_iff,eG,eG,Prod.ext_iff];exact ⟨λh=>⟨h1,h⟩,λh=>h.2⟩
 ·rw[xC h1,Bool.not_false,kH,xC λh=>h1 (by rw[h])];rfl
def AE1:Env:=Env.of [(67,.pure xX)]
def AGO:FuncId->Hint:=λ_=>a6
def UA:aR Tryz.prog AE1:=.cons ARA (.nil _)
def BY(a0:bD)(a1:bD)(R:T->Prop):Prop:=aD (!decide (a0.1=a1.1)) (R d4) (aD (!decide (a0.2.1=a1.2.1)) (R d4) (aD (!decide (a0.2.2.1=a1.2.2.1)) (R d4) (aD (!decide (a0.2.2.2.1=a1.2.2.2.1)) (R d4) (aD (!decide (a0.2.2.2.2.1=a1.2.2.2.2.1)) (R d4) (aD (!decide (a0.2.2.2.2.2.1=a1.2.2.2.2.2.1)) (R d4) (aM d5 (xX [aF true e8 a0.2.2.2.2.2.2.1, aF true e8 a1.2.2.2.2.2.2.1]) λ(y0:Bool)=>aD y0 (aD (decide (a0.2.2.2.2.2.2.2.1=a1.2.2.2.2.2.2.2.1)) (aD (decide (a0.2.2.2.2.2.2.2.2.1=a1.2.2.2.2.2.2.2.2.1)) (aD (decide (a0.2.2.2.2.2.2.2.2.2.1=a1.2.2.2.2.2.2.2.2.2.1)) (aD (decide (a0.2.2.2.2.2.2.2.2.2.2.1.1 = a1.2.2.2.2.2.2.2.2.2.2.1.1) && (decide (a0.2.2.2.2.2.2.2.2.2.2.1.2.1 = a1.2.2.2.2.2.2.2.2.2.2.1.2.1) && (decide (a0.2.2.2.2.2.2.2.2.2.2.1.2.2 = a1.2.2.2.2.2.2.2.2.2.2.1.2.2) && true))) (R (pPR (decide (a0.2.2.2.2.2.2.2.2.2.2.2.1.1 = a1.2.2.2.2.2.2.2.2.2.2.2.1.1) && (decide (a0.2.2.2.2.2.2.2.2.2.2.2.1.2.1 = a1.2.2.2.2.2.2.2.2.2.2.2.1.2.1) && (decide (a0.2.2.2.2.2.2.2.2.2.2.2.1.2.2 = a1.2.2.2.2.2.2.2.2.2.2.2.1.2.2) && true)) && (decide (a0.2.2.2.2.2.2.2.2.2.2.2.2 = a1.2.2.2.2.2.2.2.2.2.2.2.2) && true)))) (R d4)) (R d4)) (R d4)) (R d4)) (R d4)))))))
abbrev DL:Sh:=[(true,aP),(true,aP)]
def q8:List T->Option T:=gS DL oY
def QZ {a0 a1}:q8 [aF true aP a0,aF true aP a1]=oY (a0,a1):=bH (s:=DL) rfl (a0,a1) rfl
def ADH:tG Tryz.prog 42 q8 oY (cQ DL) BY:=iR (a1:=(true,aP)) (a2:=(true,aP)) (Hs:=AGO) (k:=8) UA aV aY (aN rfl) ⟨_,_,Tryz.func42,rfl⟩ rfl λ_ _ _=>by kernel_rfl
def AAV:aO Tryz.prog 42 q8:=ADH λa b r h hb=>by
 cases h;unfold BY d5 d4;simp only[ACF,uW,yH];simp only[BD5,ACR,SY]
 congr 2
 rw[Bool.eq_iff_iff,eG];simp only[Bool.and_true,ac,ah,eG,Prod.ext_iff,and_assoc]
def A7M:Env:=Env.of []
def A9D:FuncId->Hint:=cF 25 [(4,.inv [.val 5 false (.int .i64)])] (λ_=>a6)
def AO4:aR Tryz.prog A7M:=.nil _
def UN(a0:List iII)(a1:List iII)(R:T->Prop):Prop:=aD (!decide ((↑(IO a0).length:Int)=(↑(IO a1).length:Int))) (R d4) (a8 (Int×PUnit) (λX0 s1=>aD (decide (s1.1<(↑(IO a0).length:Int))) (aX Sy.str (IO a0) s1.1 λ(y2:iII)=>aX Sy.str (IO a1) s1.1 λ(y3:iII)=>aD (!decide (y2=y3)) (R d4) (g9 X0 s1)) (R d7)) (0,()))
abbrev XA:Sh:=[(false,Sy.str.li),(false,Sy.str.li)]
def zN:List T->Option T:=gS XA yQ
def AIH {a0 a1}:zN [T.sl false (List.map Sy.str.enc a0),T.sl false (List.map Sy.str.enc a1)]=yQ (a0,a1):=bH (s:=XA) rfl (a0,a1) rfl
def A4T:tG Tryz.prog 25 zN yQ (cQ XA) UN:=iR (a1:=(false,Sy.str.li)) (a2:=(false,Sy.str.li)) (Hs:=A9D) (k:=8) AO4 aV aY (aN rfl) ⟨_,_,Tryz.func25,rfl⟩ rfl λ_ _ _=>by kernel_rfl
def A0W:aO Tryz.prog 25 zN:=A4T λa b r h hb=>by
 cases h;unfold UN IO g9 d7 d4;exact FM (r:=.str) (R:=λy=>y=Sh.enc qF (pE a b)) hb.1.1 _ (λx y=>decide_eq_true_iff) rfl
def AE0:Env:=Env.of [(25,.pure zN)]
def AGN:FuncId->Hint:=λ_=>a6
def T9:aR Tryz.prog AE0:=.cons A0W (.nil _)
def BX(a0:bA)(a1:bA)(R:T->Prop):Prop:=aD (decide (a0.1=a1.1)) (aD (decide (a0.2.1=a1.2.1)) (aD (decide (a0.2.2.2.1=a1.2.2.2.1)) (aM d5 (zN [T.sl false (BO8 a0), T.sl false (BO8 a1)]) λ(y0:Bool)=>aD y0 (aM d5 (zN [T.sl false (BO5 a0), T.sl false (BO5 a1)]) λ(y1:Bool)=>R (pPR y1)) (R d4)) (R d4)) (R d4)) (R d4)
abbrev DK:Sh:=[(true,aH),(true,aH)]
def q7:List T->Option T:=gS DK oX
def QY {a0 a1}:q7 [aF true aH a0,aF true aH a1]=oX (a0,a1):=bH (s:=DK) rfl (a0,a1) rfl
def ADG:tG Tryz.prog 43 q7 oX (cQ DK) BX:=iR (a1:=(true,aH)) (a2:=(true,aH)) (Hs:=AGN) (k:=8) T9 aV aY (aN rfl) ⟨_,_,Tryz.func43,rfl⟩ rfl λ_ _ _=>by kernel_rfl
def AAU:aO Tryz.prog 43 q7:=ADG λa b r h hb=>by
 cases h;unfold BX BO8 BO5 d5 d4;have u:=@AIH;simp only[u,yQ,yH];simp only[BD5,ACR,SY]
 congr 2
 rw[Bool.eq_iff_iff,eG];simp only[Bool.and_true,ac,ah,eG,Prod.ext_iff];exact ⟨λ⟨h1,h2,h3,h4,h5⟩=>⟨h1,h2,h4,h3,h5⟩,λ⟨h1,h2,h4,h3,h5⟩=>⟨h1,h2,h3,h4,h5⟩⟩
end Go.Pv
namespace Go.Pv
open Go Go.Proofs IntKind
def few (d:aA) (n:Int):Bool:=decide ((d.2.1.length:Int)<=n)&&decide ((d.2.2.1.length:Int)<=n)&&decide ((d.2.2.2.1.length:Int)<=n)&&decide ((d.2.2.2.2.1.length:Int)<=n)&&decide ((d.2.2.2.2.2.length:Int)<=n)&&d.2.2.2.2.1.all λk=>decide ((k.2.2.1.length:Int)<=n)&&decide ((k.2.2.2.2.length:Int)<=n)
def XL (x:aA×Int):Option T:=some (Sh.enc qF (few x.1 x.2))
def BLD:Env:=Env.of []
def BL0:FuncId->Hint:=cF 40 [(4,.inv [.val 5 false (.int .i64)])] (λ_=>a6)
def A77:aR Tryz.prog BLD:=.nil _
def GE(a0:aA):List (List T):=List.map a7.enc a0.2.2.2.2.2
def AW0(a0:aA)(a1:Int)(R:T->Prop):Prop:=aD (decide (a1<(↑(t7 a0).length:Int))) (R d4) (aD (decide (a1<(↑(H1 a0).length:Int))) (R d4) (aD (decide (a1<(↑(t6 a0).length:Int))) (R d4) (aD (decide (a1<(↑(m8 a0).length:Int))) (R d4) (aD (decide (a1<(↑(GE a0).length:Int))) (R d4) (a8 (Int×PUnit) (λX0 s1=>aD (decide (s1.1<(↑(m8 a0).length:Int))) (aX aH (m8 a0) s1.1 λ(y2:bA)=>aD (decide (a1<(↑(BO8 y2).length:Int))) (R d4) (aX aH (m8 a0) s1.1 λ(y3:bA)=>aD (decide (a1<(↑(BO5 y3).length:Int))) (R d4) (g9 X0 s1))) (R d7)) (0,()))))))
abbrev A56:Sh:=[(true,aB),(false,(Sy.int IntKind.i64))]
def ABC:List T->Option T:=gS A56 XL
def A1V {a0 a1}:ABC [aF true aB a0,pPP a1]=XL (a0,a1):=bH (s:=A56) rfl (a0,a1) rfl
def BI0:tG Tryz.prog 40 ABC XL (cQ A56) AW0:=iR (a1:=(true,aB)) (a2:=(false,(Sy.int IntKind.i64))) (Hs:=BL0) (k:=8) A77 aV aY (aN rfl) ⟨_,_,Tryz.func40,rfl⟩ rfl λ_ _ _=>by kernel_rfl
variable {A B:Prop}
def j9 {n:Int} {m:Nat} (h1:¬ (m:Int)<=n->A) (h2:(m:Int)<=n->B):aD (decide (n<(m:Int))) A B:=by
 by_cases h:(m:Int)<=n
 ·exact jI (by omega) (h2 h)
 ·exact gX (by omega) (h1 h)
variable {α:Type}
def MN {p:α->Bool} {l:List α} {k:Nat} (h:k<l.length):(l.drop k).all p=(p l[k]&&(l.drop (k+1)).all p):=by rw[List.drop_eq_getElem_cons h,List.all_cons]
def BGK:aO Tryz.prog 40 ABC:=BI0 λd n r h hb=>by
 cases h;have hl:d.2.2.2.2.1.length<=2 ^ 47:=hb.1.2.2.2.2.1.1;have no:few d n=false->pPR false=Sh.enc qF (few d n):=λh=>by rw[h];rfl
 unfold AW0 BO8 BO5 g9 H1 GE t7 t6 m8 d7 d4;simp only[ae];refine j9 (λh=>no (by simp[few,h])) λg1=>?_;refine j9 (λh=>no (by simp[few,h])) λg2=>?_;refine j9 (λh=>no (by simp[few,h])) λg3=>?_;refine j9 (λh=>no (by simp[few,h])) λg4=>?_;refine j9 (λh=>no (by simp[few,h])) λg5=>?_;refine bN d.2.2.2.2.1.length (λk s=>s=((k:Int),())/\few d n=(d.2.2.2.2.1.drop k).all λk=>decide ((k.2.2.1.length:Int)<=n)&&decide ((k.2.2.2.2.length:Int)<=n)) ⟨rfl,by simp only[few,g1,g2,g3,g4,g5,decide_true,Bool.true_and,List.drop_zero]⟩ ?_;rintro X k s hk ⟨rfl,he⟩ hX;dsimp only;by_cases hlt:k<d.2.2.2.2.1.length
 ·rw[MN hlt] at he;refine gX (by simp[hlt]) ?_;rw[bG (r:=aH) hlt]
  try simp only[ae]
  refine j9 (λh=>no (by rw[he];simp[h])) λg6=>?_
  try rw[bG (r:=aH) hlt]
  try simp only[ae]
  refine j9 (λh=>no (by rw[he];simp[h])) λg7=>?_;refine hX _ hlt ⟨by rw[show i64.wrap ((k:Int)+1)=((k+1:Nat):Int) from bB _ (by omega) (by omega)],?_⟩;rw[he];simp only[g6,g7,decide_true,Bool.true_and]
 ·have:k=d.2.2.2.2.1.length:=by omega
  subst this;refine jI (by simp) ?_;rw[he];simp only[List.drop_length,List.all_nil];rfl
def BJX {d:aA} (h:InS aB d):A0 d=true:=by
 refine List.all_eq_true.2 λp hp=>?_;obtain ⟨_,_,⟨_,_,h3⟩,_⟩:=h;have h4:=h3 p hp;obtain ⟨_,_,_,_,_,_,⟨⟨h5,h6,_⟩,h7,h8,h9⟩,_⟩:=h4;unfold dU FB lO;simp only[ac,ah,List.all_eq_true];refine ⟨⟨⟨?_,?_⟩,?_,?_⟩,λq hq=>?_⟩
 ·exact h5
 ·exact h6
 ·exact h7
 ·exact h8
 ·obtain ⟨g1,g2,_⟩:=h9 q hq;exact ⟨g1,g2⟩
def BJY {d:aA} (h:InS aB d):zT d=true:=by
 refine List.all_eq_true.2 λp hp=>?_;obtain ⟨_,_,_,_,⟨_,_,h3⟩,_⟩:=h;obtain ⟨_,_,⟨h5,h6,_⟩,_,⟨h7,h8,_⟩⟩:=h3 p hp;unfold dL lO;simp only[ac,ah];exact ⟨⟨h5,h6⟩,h7,h8⟩
def rA {c:Bool} (h1:c=true->A) (h2:c=false->B):aD c A B:=by cases c with
 | true=>exact h1 rfl
 | false=>exact h2 rfl
def gB {c:Bool} (h1:c=false->A) (h2:c=true->B):aD (!c) A B:=by cases c with
 | true=>exact h2 rfl
 | false=>exact h1 rfl
end Go.Pv
namespace Go.Pv
open Go Go.Proofs IntKind
def F0 (x:List aU×List aU):Option T:=some (Sh.enc qF (pE x.1 x.2))
def sH (x:bD×bD):Option T:=some (Sh.enc qF (pE x.1 x.2))
def AKI (x:aA×aA):Option T:=some (Sh.enc qF (pE x.1 x.2))
def pV:=AKI
def BE3:Env:=Env.of []
def BFJ:FuncId->Hint:=cF 274 [(4,.inv [.val 13 false (.int .i64)])] (λ_=>a6)
def AV8:aR Tryz.prog BE3:=.nil _
def AGI(a0:List aU)(a1:List aU)(R:T->Prop):Prop:=aD (!decide ((↑(i6 a0).length:Int)=(↑(i6 a1).length:Int))) (R d4) (LE a0 a1 R)
abbrev AJ4:Sh:=[(false,aC.li),(false,aC.li)]
def HE:List T->Option T:=gS AJ4 F0
def ARV {a0 a1}:HE [T.sl false (List.map aC.enc a0),T.sl false (List.map aC.enc a1)]=F0 (a0,a1):=bH (s:=AJ4) rfl (a0,a1) rfl
def BCJ:tG Tryz.prog 274 HE F0 (cQ AJ4) AGI:=iR (a1:=(false,aC.li)) (a2:=(false,aC.li)) (Hs:=BFJ) (k:=8) AV8 aV aY (aN rfl) ⟨_,_,Tryz.func274,rfl⟩ rfl λ_ _ _=>by kernel_rfl
def BA4:aO Tryz.prog 274 HE:=BCJ λa b r h hb=>by
 cases h;unfold AGI LE i6 g9 d7 d4;refine FM (r:=aC) (R:=λy=>y=Sh.enc qF (pE a b)) hb.1.1 _ (λx y=>?_) rfl;simp only[Bool.and_true,ac,ah,Prod.ext_iff]
variable {N Y:Prop}
def tP {r:Sy} {l m:List r.den} (hlen:l.length=m.length) (hl:l.length<=2 ^ 47) (test:r.den->r.den->Bool) (ht:∀ x y,test x y=true↔x=y) (hY:l=m->Y) (hN:¬ l=m->N) :
  a8 (Int×PUnit) (λ(X:Int×PUnit->Prop) (s:Int×PUnit)=>aD (decide (s.1<(↑(List.map r.enc l).length:Int))) (aX r (List.map r.enc l) s.1 λy=>aX r (List.map r.enc m) s.1 λz=>aD (!(test y z)) N (X (i64.wrap (s.1+1),()))) Y) (0,()):=by
 refine bN l.length (λk s=>s=((k:Int),())/\(l=m↔l.drop k=m.drop k)) ⟨rfl,by simp⟩ ?_;rintro X k s hk ⟨rfl,he⟩ hX;dsimp only;by_cases hlt:k<l.length
 ·have hlt2:k<m.length:=by omega
  refine gX (by simp[hlt]) ?_;rw[bG hlt,bG hlt2];rw[List.drop_eq_getElem_cons hlt,List.drop_eq_getElem_cons hlt2,List.cons.injEq] at he;refine gB (λh=>hN λe=>?_) λh=>?_
  ·rw[(ht _ _).2 (he.1 e).1] at h;cases h
  ·have h1:=(ht _ _).1 h;refine hX _ hlt ⟨by rw[show i64.wrap ((k:Int)+1)=((k+1:Nat):Int) from bB _ (by omega) (by omega)],?_⟩;rw[he];exact ⟨λh=>h.2,λh=>⟨h1,h⟩⟩
 ·have:k=l.length:=by omega
  subst this;refine jI (by simp) ?_;exact hY (he.2 (by rw[List.drop_length,hlen,List.drop_length]))
variable {α β:Type}
def HR {f:α->β} {l m:List α} (h:decide ((↑(List.map f l).length:Int)=(↑(List.map f m).length:Int))=true):l.length=m.length:=by simp at h;omega
def U3 {r:Sy} {l m:List r.den} (hl:l.length<=2 ^ 47) (test:r.den->r.den->Bool) (ht:∀ x y,test x y=true↔x=y) (hY:l=m->Y) (hN:¬ l=m->N) :
  aD (!decide ((↑(List.map r.enc l).length:Int)=(↑(List.map r.enc m).length:Int))) N (a8 (Int×PUnit) (λ(X:Int×PUnit->Prop) (s:Int×PUnit)=>aD (decide (s.1<(↑(List.map r.enc l).length:Int))) (aX r (List.map r.enc l) s.1 λy=>aX r (List.map r.enc m) s.1 λz=>aD (!(test y z)) N (X (i64.wrap (s.1+1),()))) Y) (0,())) :=
 gB (λh=>hN λe=>by simp[e] at h) λh=>tP (HR h) hl test ht hY hN
def AEZ:Env:=Env.of [(274,.pure HE)]
def AGM:FuncId->Hint:=cF 275 [(4,.inv [.val 17 false (.int .i64)])] (λ_=>a6)
def T8:aR Tryz.prog AEZ:=.cons BA4 (.nil _)
def BW(a0:bD)(a1:bD)(R:T->Prop):Prop:=aD (!decide (a0.1=a1.1)) (R d4) (aD (!decide (a0.2.1=a1.2.1)) (R d4) (aD (!decide (a0.2.2.1=a1.2.2.1)) (R d4) (aD (!decide (a0.2.2.2.1=a1.2.2.2.1)) (R d4) (aD (!decide (a0.2.2.2.2.1=a1.2.2.2.2.1)) (R d4) (aD (!decide (a0.2.2.2.2.2.1=a1.2.2.2.2.2.1)) (R d4) (aD (!decide (a0.2.2.2.2.2.2.2.1=a1.2.2.2.2.2.2.2.1)) (R d4) (aD (!decide (a0.2.2.2.2.2.2.2.2.1=a1.2.2.2.2.2.2.2.2.1)) (R d4) (aD (!decide (a0.2.2.2.2.2.2.2.2.2.1=a1.2.2.2.2.2.2.2.2.2.1)) (R d4) (aD (!(decide (a0.2.2.2.2.2.2.2.2.2.2.1.1 = a1.2.2.2.2.2.2.2.2.2.2.1.1) && (decide (a0.2.2.2.2.2.2.2.2.2.2.1.2.1 = a1.2.2.2.2.2.2.2.2.2.2.1.2.1) && (decide (a0.2.2.2.2.2.2.2.2.2.2.1.2.2 = a1.2.2.2.2.2.2.2.2.2.2.1.2.2) && true)))) (R d4) (aD (!(decide (a0.2.2.2.2.2.2.2.2.2.2.2.1.1 = a1.2.2.2.2.2.2.2.2.2.2.2.1.1) && (decide (a0.2.2.2.2.2.2.2.2.2.2.2.1.2.1 = a1.2.2.2.2.2.2.2.2.2.2.2.1.2.1) && (decide (a0.2.2.2.2.2.2.2.2.2.2.2.1.2.2 = a1.2.2.2.2.2.2.2.2.2.2.2.1.2.2) && true)) && (decide (a0.2.2.2.2.2.2.2.2.2.2.2.2 = a1.2.2.2.2.2.2.2.2.2.2.2.2) && true))) (R d4) (aM d5 (HE [T.sl false (BO9 a0), T.sl false (BO9 a1)]) λ(y0:Bool)=>aD y0 (aD (!decide ((↑(AC a0).length:Int) = (↑(AC a1).length:Int))) (R d4) (a8 (Int×PUnit) (λX1 s2=>aD (decide (s2.1 < (↑(AC a0).length : Int))) (aX aC.li (AC a0) s2.1 λ(y3:List aU)=>aX aC.li (AC a1) s2.1 λ(y4:List aU)=>aM d5 (HE [T.sl false (i6 y3), T.sl false (i6 y4)]) λ(y5:Bool)=>aD (!y5) (R d4) (g9 X1 s2)) (R d7)) (0,()))) (R d4))))))))))))
abbrev DJ:Sh:=[(true,aP),(true,aP)]
def qY:List T->Option T:=gS DJ sH
def QX {a0 a1}:qY [aF true aP a0,aF true aP a1]=sH (a0,a1):=bH (s:=DJ) rfl (a0,a1) rfl
def ADF:tG Tryz.prog 134 qY sH (cQ DJ) BW:=iR (a1:=(true,aP)) (a2:=(true,aP)) (Hs:=AGM) (k:=8) T8 aV aY (aN rfl) ⟨_,_,Tryz.func134,rfl⟩ rfl λ_ _ _=>by kernel_rfl
def AAT:aO Tryz.prog 134 qY:=ADF λa b r h hb=>by
 cases h;have no:¬ a=b->pPR false=Sh.enc qF (pE a b):=λh=>by rw[xC h];rfl
 have yes:a=b->pPR true=Sh.enc qF (pE a b):=λh=>by rw[eG.2 h];rfl
 have hl:a.2.2.2.2.2.2.1.2.length<=2 ^ 47:=hb.1.2.2.2.2.2.2.1.2.1;unfold BW BO9 AC i6 g9 d7 d5 d4;have u:=@ARV;simp only[u,F0,yH];refine gB (λh=>no λe=>by simp[e] at h) λh1=>?_;refine gB (λh=>no λe=>by simp[e] at h) λh2=>?_;refine gB (λh=>no λe=>by simp[e] at h) λh3=>?_;refine gB (λh=>no λe=>by simp[e] at h) λh4=>?_;refine gB (λh=>no λe=>by simp[e] at h) λh5=>?_;refine gB (λh=>no λe=>by simp[e] at h) λh6=>?_;refine gB (λh=>no λe=>by simp[e] at h) λh7=>?_;refine gB (λh=>no λe=>by simp[e] at h) λh8=>?_;refine gB (λh=>no λe=>by simp[e] at h) λh9=>?_;refine gB (λh=>no λe=>by simp[e] at h) λh10=>?_;refine gB (λh=>no λe=>by simp[e] at h) λh11=>?_;refine rA (λh12=>?_) (λh=>no λe=>by simp[e] at h);refine U3 (r:=.li aC) hl _ (λx y=>eG) (λh13=>yes ?_) (λh=>no λe=>h (by rw[e]));simp only[Bool.and_true,ac,ah,eG] at h1 h2 h3 h4 h5 h6 h7 h8 h9 h10 h11 h12;simp only[Prod.ext_iff];exact ⟨h1,h2,h3,h4,h5,h6,⟨h12,h13⟩,h7,h8,h9,h10,h11⟩
def YT:Env:=Env.of [(42,.pure q8),(43,.pure q7)]
def ZM:FuncId->Hint:=cF 15 [(4,.inv [.val 5 false (.int .i64)]),(9,.inv [.val 6 false (.int .i64)]),(14,.inv [.val 7 false (.int .i64)]),(19,.inv [.val 8 false (.int .i64)]),(24,.inv [.val 9 false (.int .i64)])] (λ_=>a6)
def QL:aR Tryz.prog YT:=.cons AAV (.cons AAU (.nil _))
def wR(a0:aA)(a1:aA)(R:T->Prop):Prop:=aD (!decide (a0.1=a1.1)) (R d4) (aD (!decide ((↑(t7 a0).length:Int)=(↑(t7 a1).length:Int))) (R d4) (aD (!decide ((↑(H1 a0).length:Int) = (↑(H1 a1).length:Int))) (R d4) (aD (!decide ((↑(t6 a0).length:Int) = (↑(t6 a1).length:Int))) (R d4) (aD (!decide ((↑(m8 a0).length:Int) = (↑(m8 a1).length:Int))) (R d4) (aD (!decide ((↑(GE a0).length:Int) = (↑(GE a1).length:Int))) (R d4) (a8 (Int×PUnit) (λX0 s1=>aD (decide (s1.1<(↑(t7 a0).length:Int))) (aX bC (t7 a0) s1.1 λ(y2:fQ)=>aX bC (t7 a1) s1.1 λ(y3:fQ)=>aD (!(decide (y2.1=y3.1) && (decide (y2.2.1=y3.2.1)&&(decide (y2.2.2=y3.2.2)&&true)))) (R d4) (g9 X0 s1)) (a8 (Int×PUnit) (λX4 s5=>aD (decide (s5.1<(↑(H1 a0).length:Int))) (aX aP (H1 a0) s5.1 λ(y6:bD)=>aX aP (H1 a1) s5.1 λ(y7:bD)=>aM d5 (q8 [aF true aP y6,aF true aP y7]) λ(y8:Bool)=>aD (!y8) (R d4) (g9 X4 s5)) (a8 (Int×PUnit) (λX9 s10=>aD (decide (s10.1<(↑(t6 a0).length:Int))) (aX bI (t6 a0) s10.1 λ(y11:iH)=>aX bI (t6 a1) s10.1 λ(y12:iH)=>aD (!(decide (y11.1=y12.1) && (decide (y11.2.1=y12.2.1) && (decide (y11.2.2.1=y12.2.2.1) && (decide (y11.2.2.2.1=y12.2.2.2.1) && (decide (y11.2.2.2.2.1=y12.2.2.2.2.1) && (decide (y11.2.2.2.2.2=y12.2.2.2.2.2) && true))))))) (R d4) (g9 X9 s10)) (a8 (Int×PUnit) (λX13 s14=>aD (decide (s14.1<(↑(m8 a0).length:Int))) (aX aH (m8 a0) s14.1 λ(y15:bA)=>aX aH (m8 a1) s14.1 λ(y16:bA)=>aM d5 (q7 [aF true aH y15,aF true aH y16]) λ(y17:Bool)=>aD (!y17) (R d4) (g9 X13 s14)) (a8 (Int×PUnit) (λX18 s19=>aD (decide (s19.1 < (↑(GE a0).length:Int))) (aX a7 (GE a0) s19.1 λ(y20:cM)=>aX a7 (GE a1) s19.1 λ(y21:cM)=>aD (!(decide (y20.1=y21.1) && (decide (y20.2.1=y21.2.1) && (decide (y20.2.2=y21.2.2)&&true)))) (R d4) (g9 X18 s19)) (R d7)) (0,()))) (0,()))) (0,()))) (0,()))) (0,())))))))
abbrev yL:Sh:=[(true,aB),(true,aB)]
def oM:List T->Option T:=gS yL pV
def OC {a0 a1}:oM [aF true aB a0,aF true aB a1]=pV (a0,a1):=bH (s:=yL) rfl (a0,a1) rfl
def WC:tG Tryz.prog 15 oM pV (cQ yL) wR:=iR (a1:=(true,aB)) (a2:=(true,aB)) (Hs:=ZM) (k:=8) QL aV aY (aN rfl) ⟨_,_,Tryz.func15,rfl⟩ rfl λ_ _ _=>by kernel_rfl
def VE:aO Tryz.prog 15 oM:=WC λa b r h hb=>by
 cases h;have no:¬ a=b->pPR false=Sh.enc qF (pE a b):=λh=>by rw[xC h];rfl
 have yes:a=b->pPR true=Sh.enc qF (pE a b):=λh=>by rw[eG.2 h];rfl
 obtain ⟨⟨_,⟨b1,_⟩,⟨b2,_⟩,⟨b3,_⟩,⟨b4,_⟩,⟨b5,_⟩⟩,_⟩:=hb;unfold wR g9 H1 GE t7 t6 m8 d7 d5 d4;simp only[QZ,oY,QY,oX,yH];refine gB (λh=>no λe=>by simp[e] at h) λh1=>?_;refine gB (λh=>no λe=>by simp[e] at h) λg1=>?_;refine gB (λh=>no λe=>by simp[e] at h) λg2=>?_;refine gB (λh=>no λe=>by simp[e] at h) λg3=>?_;refine gB (λh=>no λe=>by simp[e] at h) λg4=>?_;refine gB (λh=>no λe=>by simp[e] at h) λg5=>?_;refine tP (r:=bC) (HR g1) b1 _ (λx y=>?_) (λh2=>?_) (λh=>no λe=>h (by rw[e]))
 ·simp only[Bool.and_true,ac,ah,Prod.ext_iff]
 refine tP (r:=aP) (HR g2) b2 _ (λx y=>eG) (λh3=>?_) (λh=>no λe=>h (by rw[e]));refine tP (r:=bI) (HR g3) b3 _ (λx y=>?_) (λh4=>?_) (λh=>no λe=>h (by rw[e]))
 ·simp only[Bool.and_true,ac,ah,Prod.ext_iff]
 refine tP (r:=aH) (HR g4) b4 _ (λx y=>eG) (λh5=>?_) (λh=>no λe=>h (by rw[e]));refine tP (r:=a7) (HR g5) b5 _ (λx y=>?_) (λh6=>yes ?_) (λh=>no λe=>h (by rw[e]))
 ·simp only[Bool.and_true,ac,ah,Prod.ext_iff]
 exact Prod.ext (by simpa using h1) (Prod.ext h2 (Prod.ext h3 (Prod.ext h4 (Prod.ext h5 h6))))
end Go.Pv
namespace Go.Pv
open Go Go.Proofs IntKind
def fG {r:Sy} (hr:r.pure=true) {l:List r.den} {rows:List (List T)} {K:List r.den->Prop} (e:rows=List.map r.enc l) (h:K l):iT r rows K:=by subst e;rw[eX hr];exact h
def w9 {r:Sy} {l:List r.den} {z b:Nat} (hz:r.w=z) (h:lO b l.length=true):(((List.map r.enc l).all λq=>decide (q.length=z))&&decide ((List.map r.enc l).length*b<=140737488355328)&&decide ((List.map r.enc l).length<=140737488355328))=true:=by
 unfold lO at h;rw[ac] at h;rw[ae,h.1,h.2,Bool.and_true,Bool.and_true];subst hz;refine List.all_eq_true.2 λq hq=>?_;obtain ⟨x,_,rfl⟩:=List.mem_map.1 hq;exact ai (Sy.cP r x)
def iO (p:bD):Option T:=match dU p with
 | true=>some (Sh.enc [(true,aP)] p)
 | false=>none
def AOG:Env:=Env.of [(136,.pure kR),(137,.dup 1 24)]
def API:FuncId->Hint:=cF 108 [(4,.inv [.val 21 false (.int .i64),.arr 3 1 (.li aC)])] (λ_=>a6)
def YW:aR Tryz.prog AOG:=.cons NY (aR.cons (x:=.dup 1 24) AQX (.nil _))
def F9(a0:bD)(R:T->Prop):Prop:=aM f6 (kR [T.sl false (BO9 a0)]) λ(y0:List aU)=>b7 (((AC a0).all λ(r:List T)=>decide (r.length=1)) && decide ((AC a0).length*24<=140737488355328) && decide ((AC a0).length<=140737488355328)) (iT aC.li (AC a0) λ(y1:List (List aU))=>a8 (Int×List (List aU)×PUnit) (λX2 s3=>aD (decide (s3.1<(↑(AC a0).length:Int))) (aX aC.li (NE s3) s3.1 λ(y4:List aU)=>jD aC.li (NE s3) (Int.toNat s3.1) 0 λ(y5:List aU)=>aM f6 (kR (BO1 y5)) λ(y6:List aU)=>aX aC.li (NE s3) s3.1 λ(y7:List aU)=>wP (NE s3) (Int.toNat s3.1) λ(y8:List T)=>b7 (decide (1<=y8.length)) (iT aC.li ((NE s3).set (Int.toNat s3.1) (bU y8 0 (BO1 y6))) λ(y9:List (List aU))=>X2 (i64.wrap (s3.1+1),y9,()))) (R (T.agg [pPQ a0.1,pPP a0.2.1, pPP a0.2.2.1, pPQ a0.2.2.2.1,pPQ a0.2.2.2.2.1, pPP a0.2.2.2.2.2.1, T.sl false (i6 y0), T.sl false (NE s3), pPQ a0.2.2.2.2.2.2.2.1, pPP a0.2.2.2.2.2.2.2.2.1, pPP a0.2.2.2.2.2.2.2.2.2.1, pPP a0.2.2.2.2.2.2.2.2.2.2.1.1, pPP a0.2.2.2.2.2.2.2.2.2.2.1.2.1, pPP a0.2.2.2.2.2.2.2.2.2.2.1.2.2, pPP a0.2.2.2.2.2.2.2.2.2.2.2.1.1, pPP a0.2.2.2.2.2.2.2.2.2.2.2.1.2.1, pPP a0.2.2.2.2.2.2.2.2.2.2.2.1.2.2, pPP a0.2.2.2.2.2.2.2.2.2.2.2.2]))) (0,y1,()))
abbrev H6:Sh:=[(true,aP)]
def e6:List T->Option T:=gS H6 iO
def pM {a0}:e6 [aF true aP a0]=iO (a0):=bH (s:=H6) rfl (a0) rfl
def AI3:yW Tryz.prog 108 e6 iO (cQ H6) F9:=kW (a1:=(true,aP)) (Hs:=API) (k:=8) YW aV aY (aN rfl) ⟨_,_,Tryz.func108,rfl⟩ rfl λ_ _=>by kernel_rfl
def nU:aO Tryz.prog 108 e6:=AI3 λp r h hb=>by
 clear hb;have hp:dU p=true:=by
  unfold iO at h;split at h
  ·assumption
  ·cases h
 have e:Sh.enc [(true,aP)] p=r:=by
  unfold iO at h;rw[hp] at h;exact Option.some.inj h
 subst e;clear h;unfold dU FB at hp;simp only[ac] at hp;obtain ⟨⟨hp1,hp2⟩,hp3⟩:=hp;have hb47:p.2.2.2.2.2.2.1.2.length<=140737488355328:=by
  simp only[lO,ac,ah] at hp2;exact hp2.2
 unfold F9 BO9 BO1 NE AC i6 f6;refine aK (s:=[(false,aC.li)]) (y:=p.2.2.2.2.2.2.1.1) (by rw[pL,fM,jL hp1];rfl) ?_;refine ⟨w9 (r:=.li aC) rfl hp2,?_⟩;obtain ⟨p1,p2,p3,p4,p5,p6,⟨o,hh⟩,p7⟩:=p;dsimp only at hp1 hp2 hp3 hb47 ⊢;rw[eX (r:=.li aC) rfl];refine bN hh.length (λk s=>s=((k:Int),hh,())) rfl ?_;rintro X k s hk rfl hX;dsimp only;refine cO (λhlt=>?_) λhge=>rfl;rw[ae] at hlt;have hlt:k<hh.length:=by omega
 have hok:lO 16 hh[k].length=true:=List.all_eq_true.1 hp3 _ (ak hlt);rw[bG (r:=.li aC) hlt,show Int.toNat (k:Int)=k from rfl,jU (r:=.li aC) hlt];refine aK (s:=[(false,aC.li)]) (y:=hh[k]) (by rw[pL,fM,jL hok];rfl) ?_;rw[bG (r:=.li aC) hlt,pT (r:=.li aC) hlt];refine ⟨rfl,?_⟩;have e:bU (Sy.enc (.li aC) hh[k]) 0 [T.sl false (List.map aC.enc hh[k])]=Sy.enc (.li aC) hh[k]:=rfl;rw[e,FN (r:=.li aC) hlt,eX (r:=.li aC) rfl];refine hX _ hlt ?_;simp only[Prod.mk.injEq,and_true];exact bB _ (by omega) (by omega)
def jM (p:bA):Option T:=match dL p with
 | true=>some (Sh.enc [(true,aH)] p)
 | false=>none
def AOF:Env:=Env.of [(243,.pure kE)]
def APH:FuncId->Hint:=λ_=>a6
def YV:aR Tryz.prog AOF:=.cons JA (.nil _)
def F8(a0:bA)(R:T->Prop):Prop:=aM f0 (kE [T.sl false (BO8 a0)]) λ(y0:List iII)=>aM f0 (kE [T.sl false (BO5 a0)]) λ(y1:List iII)=>R (T.agg [pPQ a0.1,pPQ a0.2.1, T.sl false (IO y0),pPP a0.2.2.2.1, T.sl false (IO y1)])
abbrev H5:Sh:=[(true,aH)]
def jZ:List T->Option T:=gS H5 jM
def vE {a0}:jZ [aF true aH a0]=jM (a0):=bH (s:=H5) rfl (a0) rfl
def AI2:yW Tryz.prog 109 jZ jM (cQ H5) F8:=kW (a1:=(true,aH)) (Hs:=APH) (k:=8) YV aV aY (aN rfl) ⟨_,_,Tryz.func109,rfl⟩ rfl λ_ _=>by kernel_rfl
def CA:aO Tryz.prog 109 jZ:=AI2 λp r h hb=>by
 clear hb;have hp:dL p=true:=by
  unfold jM at h;split at h
  ·assumption
  ·cases h
 have e:Sh.enc [(true,aH)] p=r:=by
  unfold jM at h;rw[hp] at h;exact Option.some.inj h
 subst e;clear h;unfold dL at hp;rw[ac] at hp;unfold F8 BO8 BO5 IO f0;refine aK (s:=[(false,.li .str)]) (y:=p.2.2.1) (by rw[oG,fM,jL hp.1];rfl) ?_;refine aK (s:=[(false,.li .str)]) (y:=p.2.2.2.2) (by rw[oG,fM,jL hp.2];rfl) ?_;rfl
def TP {α:Type}:∀ (xs pre:List α),bU (pre++xs) pre.length xs=pre++xs
 | [],pre=>rfl
 | x::xs,pre=>by
  unfold bU;rw[show (pre++x::xs).set pre.length x=(pre++[x])++xs by simp,show pre.length+1=(pre++[x]).length by simp,TP xs (pre++[x])];simp
variable {α:Type}
def JS (r:List α):bU r 0 r=r:=TP r []
def o5 (d:aA):Bool:=(A0 d&&zT d)&&((decide (d.2.1.length<=1000)&&decide (d.2.2.1.length<=1000))&&(decide (d.2.2.2.1.length<=1000)&&(decide (d.2.2.2.2.1.length<=1000)&&decide (d.2.2.2.2.2.length<=1000))))
structure OkC (d:aA):Prop where
 A0:A0 d=true
 zT:zT d=true
 n:d.2.1.length<=1000
 p:d.2.2.1.length<=1000
 s:d.2.2.2.1.length<=1000
 k:d.2.2.2.2.1.length<=1000
 r:d.2.2.2.2.2.length<=1000
def eV {d:aA} (h:o5 d=true):OkC d:=by
 simp only[o5,ac,ah] at h;exact ⟨h.1.1,h.1.2,h.2.1.1,h.2.1.2,h.2.2.1,h.2.2.2.1,h.2.2.2.2⟩
def eE {b n:Nat} (hn:n<=1000) (hb:b<=1000):lO b n=true:=by
 have:=Nat.mul_le_mul hn hb;unfold lO;rw[ai (by omega),ai (by omega)];rfl
def sE (d:aA):Option T:=match o5 d with
 | true=>some (Sh.enc [(true,aB)] d)
 | false=>none
def AET:Env:=Env.of [(103,.dup 3 40),(104,.dup 6 72),(105,.dup 3 40),(106,.dup 18 208),(107,.dup 5 88),(108,.pure e6),(109,.pure jZ)]
def AGK:FuncId->Hint:=cF 69 [(4,.inv [.val 28 false (.int .i64),.arr 30 18 aP]),(9,.inv [.val 45 false (.int .i64),.arr 31 5 aH])] (λ_=>a6)
def YU:aR Tryz.prog AET:=aR.cons (x:=.dup 3 40) CC (aR.cons (x:=.dup 6 72) CE (aR.cons (x:=.dup 3 40) CB (aR.cons (x:=.dup 18 208) CD (aR.cons (x:=.dup 5 88) oF (.cons nU (.cons CA (.nil _)))))))
def LU (a0:aA) (R:T->Prop):Prop :=
 b7
 (((List.map bC.enc a0.2.1).all λ(r:List T)=>decide (r.length=3)) &&
 decide ((List.map bC.enc a0.2.1).length*40<=140737488355328) &&
 decide ((List.map bC.enc a0.2.1).length<=140737488355328))
 (b7
 (((List.map bI.enc a0.2.2.2.1).all λ(r:List T)=>decide (r.length=6)) &&
 decide ((List.map bI.enc a0.2.2.2.1).length*72<=140737488355328) &&
 decide ((List.map bI.enc a0.2.2.2.1).length<=140737488355328))
 (b7
 (((List.map a7.enc a0.2.2.2.2.2).all λ(r:List T)=>decide (r.length=3)) &&
 decide ((List.map a7.enc a0.2.2.2.2.2).length*40<=140737488355328) &&
 decide ((List.map a7.enc a0.2.2.2.2.2).length<=140737488355328))
 (b7
 (((List.map aP.enc a0.2.2.1).all λ(r:List T)=>decide (r.length=18)) &&
 decide ((List.map aP.enc a0.2.2.1).length*208<=140737488355328) &&
 decide ((List.map aP.enc a0.2.2.1).length<=140737488355328))
 (b7
 (((List.map aH.enc a0.2.2.2.2.1).all λ(r:List T)=>decide (r.length=5)) &&
 decide ((List.map aH.enc a0.2.2.2.2.1).length*88<=140737488355328) &&
 decide ((List.map aH.enc a0.2.2.2.2.1).length<=140737488355328))
 (iT aP (List.map aP.enc a0.2.2.1) λ(y0:List bD) =>
 a8 (Int×List bD×PUnit)
 (λ(X1:Int×List bD×PUnit->Prop) (s2:Int×List bD×PUnit) =>
 aD (decide (s2.1<(↑(List.map aP.enc a0.2.2.1).length:Int)))
 (aX aP (List.map aP.enc s2.2.1) s2.1 λ(y3:bD) =>
 jD aP (List.map aP.enc s2.2.1) (Int.toNat s2.1) 0
 λ(y4:bD) =>
 aM [(true,aP)] (e6 [aF true aP y4])
 λ(y5:bD) =>
 aX aP (List.map aP.enc s2.2.1) s2.1 λ(y6:bD) =>
 wP (List.map aP.enc s2.2.1) (Int.toNat s2.1) λ(y7:List T) =>
 b7 (decide (18<=y7.length))
 (iT aP
 ((List.map aP.enc s2.2.1).set (Int.toNat s2.1)
 (bU y7 0
 (aP.enc y5)))
 λ(y8:List bD)=>X1 (i64.wrap (s2.1+1),y8,())))
 (iT aH (List.map aH.enc a0.2.2.2.2.1)
 λ(y9:List bA) =>
 a8 (Int×List bA×PUnit)
 (λ(X10:Int×List bA×PUnit->Prop) (s11:Int×List bA×PUnit) =>
 aD
 (decide (s11.1<(↑(List.map aH.enc a0.2.2.2.2.1).length:Int)))
 (aX aH (List.map aH.enc s11.2.1) s11.1
 λ(y12:bA) =>
 jD aH (List.map aH.enc s11.2.1) (Int.toNat s11.1) 0
 λ(y13:bA) =>
 aM [(true,aH)]
 (jZ [aF true aH y13]) λ(y14:bA) =>
 aX aH (List.map aH.enc s11.2.1) s11.1
 λ(y15:bA) =>
 wP (List.map aH.enc s11.2.1) (Int.toNat s11.1)
 λ(y16:List T) =>
 b7 (decide (5<=y16.length))
 (iT aH
 ((List.map aH.enc s11.2.1).set (Int.toNat s11.1)
 (bU y16 0
 [pPQ y14.1,
 pPQ y14.2.1,
 T.sl false (List.map Sy.str.enc y14.2.2.1),
 pPP y14.2.2.2.1,
 T.sl false (List.map Sy.str.enc y14.2.2.2.2)]))
 λ(y17:List bA) =>
 X10 (i64.wrap (s11.1+1),y17,())))
 (R
 ((aF true aB (a0.1,a0.2.1,s2.2.1,a0.2.2.2.1,s11.2.1,a0.2.2.2.2.2)))))
 (0,y9,())))
 (0,y0,()))))))
abbrev PF:Sh:=[(true,aB)]
def cI:List T->Option T:=gS PF sE
def qC {a0}:cI [aF true aB a0]=sE (a0):=bH (s:=PF) rfl (a0) rfl
def BB4:yW Tryz.prog 69 cI sE (cQ PF) LU:=kW (a1:=(true,aB)) (Hs:=AGK) (k:=8) YU aV aY (aN rfl) ⟨_,_,Tryz.func69,rfl⟩ rfl λ_ _=>by kernel_rfl
def AZX {d:aA} (hp:o5 d=true):LU d (λy=>y=Sh.enc [(true,aB)] d):=by
 have c:=eV hp;unfold LU;refine ⟨w9 (r:=bC) rfl (eE c.n (by decide)),⟨w9 (r:=bI) rfl (eE c.s (by decide)),⟨w9 (r:=a7) rfl (eE c.r (by decide)),⟨w9 (r:=aP) rfl (eE c.p (by decide)),⟨w9 (r:=aH) rfl (eE c.k (by decide)),?_⟩⟩⟩⟩⟩;rw[eX (r:=aP) rfl];have hpn:=c.p;have hkn:=c.k;refine bN d.2.2.1.length (λk s=>s=((k:Int),d.2.2.1,())) rfl ?_;rintro X k s hk rfl hX;dsimp only;refine cO (λhlt=>?_) λhge=>?_
 ·rw[ae] at hlt;have hlt:k<d.2.2.1.length:=by omega
  have hok:dU d.2.2.1[k]=true:=List.all_eq_true.1 c.A0 _ (ak hlt);rw[bG (r:=aP) hlt,show Int.toNat (k:Int)=k from rfl,jU (r:=aP) hlt];refine aK (s:=[(true,aP)]) (y:=d.2.2.1[k]) ((pM ..).trans (by unfold iO;rw[hok])) ?_;rw[bG (r:=aP) hlt,pT (r:=aP) hlt];refine ⟨by rw[Sy.cP];rfl,?_⟩;have h1:(List.map aP.enc d.2.2.1).set k (bU (Sy.enc aP d.2.2.1[k]) 0 (Sy.enc aP d.2.2.1[k]))=List.map aP.enc d.2.2.1:=by rw[JS];exact FN (r:=aP) hlt
  refine (fG (r:=aP) rfl h1 ?_);refine hX _ hlt ?_;simp only[Prod.mk.injEq,and_true];exact bB _ (by omega) (by omega)
 ·rw[eX (r:=aH) rfl];refine bN d.2.2.2.2.1.length (λk s=>s=((k:Int),d.2.2.2.2.1,())) rfl ?_;rintro Y j s hj rfl hY;dsimp only;refine cO (λhlt=>?_) λhge=>rfl;rw[ae] at hlt;have hlt:j<d.2.2.2.2.1.length:=by omega
  have hok:dL d.2.2.2.2.1[j]=true:=List.all_eq_true.1 c.zT _ (ak hlt);rw[bG (r:=aH) hlt,show Int.toNat (j:Int)=j from rfl,jU (r:=aH) hlt];refine aK (s:=[(true,aH)]) (y:=d.2.2.2.2.1[j]) ((vE ..).trans (by unfold jM;rw[hok])) ?_;rw[bG (r:=aH) hlt,pT (r:=aH) hlt];refine ⟨by rw[Sy.cP];rfl,?_⟩;have h1:(List.map aH.enc d.2.2.2.2.1).set j (bU (Sy.enc aH d.2.2.2.2.1[j]) 0 (Sy.enc aH d.2.2.2.2.1[j]))=List.map aH.enc d.2.2.2.2.1:=by rw[JS];exact FN (r:=aH) hlt
  refine (fG (r:=aH) rfl h1 ?_);refine hY _ hlt ?_;simp only[Prod.mk.injEq,and_true];exact bB _ (by omega) (by omega)
def e9:aO Tryz.prog 69 cI:=BB4 λd r h hb=>by
 clear hb;have hp:o5 d=true:=by
  unfold sE at h;split at h
  ·assumption
  ·cases h
 have e:Sh.enc [(true,aB)] d=r:=by
  unfold sE at h;rw[hp] at h;exact Option.some.inj h
 subst e;exact AZX hp
def FZ (x:aQ×aQ):Option T:=some (Sh.enc qF (pE x.1 x.2))
def A7L:Env:=Env.of [(134,.pure qY)]
def A9C:FuncId->Hint:=cF 135 [(4,.inv [.val 13 false (.int .i64)])] (λ_=>a6)
def AO3:aR Tryz.prog A7L:=.cons AAT (.nil _)
def WF(a0:aQ):List (List T):=List.map Sy.str.enc a0.2.2.2.2.2.2.1.2.2.2.2
def ACM(a0:aQ):List (List T):=List.map Sy.str.enc a0.2.2.2.2.2.2.1.2.2.1
def UM(a0:aQ)(a1:aQ)(R:T->Prop):Prop:=aD (decide (a0.1=a1.1)) (aD (decide (a0.2.1=a1.2.1)) (aD (decide (a0.2.2.1=a1.2.2.1)) (aD (decide (a0.2.2.2.1.1=a1.2.2.2.1.1) && (decide (a0.2.2.2.1.2.1=a1.2.2.2.1.2.1) && (decide (a0.2.2.2.1.2.2=a1.2.2.2.1.2.2)&&true))) (aM d5 (qY [aF true aP a0.2.2.2.2.1,aF true aP a1.2.2.2.2.1]) λ(y0:Bool)=>aD y0 (aD (decide (a0.2.2.2.2.2.1.1=a1.2.2.2.2.2.1.1) && (decide (a0.2.2.2.2.2.1.2.1=a1.2.2.2.2.2.1.2.1) && (decide (a0.2.2.2.2.2.1.2.2.1=a1.2.2.2.2.2.1.2.2.1) && (decide (a0.2.2.2.2.2.1.2.2.2.1=a1.2.2.2.2.2.1.2.2.2.1) && (decide (a0.2.2.2.2.2.1.2.2.2.2.1 = a1.2.2.2.2.2.1.2.2.2.2.1) && (decide (a0.2.2.2.2.2.1.2.2.2.2.2 = a1.2.2.2.2.2.1.2.2.2.2.2) && true)))))) (aD (decide (a0.2.2.2.2.2.2.2.1=a1.2.2.2.2.2.2.2.1) && (decide (a0.2.2.2.2.2.2.2.2.1=a1.2.2.2.2.2.2.2.2.1) && (decide (a0.2.2.2.2.2.2.2.2.2=a1.2.2.2.2.2.2.2.2.2)&&true))) (aD (decide (a0.2.2.2.2.2.2.1.1=a1.2.2.2.2.2.2.1.1)) (aD (decide (a0.2.2.2.2.2.2.1.2.1=a1.2.2.2.2.2.2.1.2.1)) (aD (decide (a0.2.2.2.2.2.2.1.2.2.2.1 = a1.2.2.2.2.2.2.1.2.2.2.1)) (aD (!decide ((↑(ACM a0).length:Int) = (↑(ACM a1).length:Int))) (R d4) (a8 (Int×PUnit) (λX1 s2=>aD (decide (s2.1 < (↑(ACM a0).length : Int))) (aX Sy.str (ACM a0) s2.1 λ(y3:iII)=>aX Sy.str (ACM a1) s2.1 λ(y4:iII)=>aD (!decide (y3=y4)) (R d4) (g9 X1 s2)) (aD (!decide ((↑(WF a0).length : Int) = (↑(WF a1).length : Int))) (R d4) (a8 (Int×PUnit) (λX5 s6=>aD (decide (s6.1 < (↑(WF a0).length : Int))) (aX Sy.str (WF a0) s6.1 λ(y7:iII)=>aX Sy.str (WF a1) s6.1 λ(y8:iII)=>aD (!decide (y7=y8)) (R d4) (g9 X5 s6)) (R d7)) (0,())))) (0,()))) (R d4)) (R d4)) (R d4)) (R d4)) (R d4)) (R d4)) (R d4)) (R d4)) (R d4)) (R d4)
abbrev W9:Sh:=[(true,aJ),(true,aJ)]
def dB:List T->Option T:=gS W9 FZ
def qZ {a0 a1}:dB [aF true aJ a0,aF true aJ a1]=FZ (a0,a1):=bH (s:=W9) rfl (a0,a1) rfl
def A4S:tG Tryz.prog 93 dB FZ (cQ W9) UM:=iR (a1:=(true,aJ)) (a2:=(true,aJ)) (Hs:=A9C) (k:=8) AO3 aV aY (aN rfl) ⟨_,_,Tryz.func93,rfl⟩ rfl λ_ _ _=>by kernel_rfl
def jR:aO Tryz.prog 93 dB:=A4S λa b r h hb=>by
 cases h;have no:¬ a=b->pPR false=Sh.enc qF (pE a b):=λh=>by rw[xC h];rfl
 have yes:a=b->pPR true=Sh.enc qF (pE a b):=λh=>by rw[eG.2 h];rfl
 have hl1:a.2.2.2.2.2.2.1.2.2.1.length<=2 ^ 47:=hb.1.2.2.2.2.2.2.1.2.2.1.1;have hl2:a.2.2.2.2.2.2.1.2.2.2.2.length<=2 ^ 47:=hb.1.2.2.2.2.2.2.1.2.2.2.2.1;clear hb;unfold UM ACM WF g9 d7 d5 d4;refine rA (λh1=>?_) (λh=>no λe=>by simp[e] at h);refine rA (λh2=>?_) (λh=>no λe=>by simp[e] at h);refine rA (λh3=>?_) (λh=>no λe=>by simp[e] at h);refine rA (λh4=>?_) (λh=>no λe=>by simp[e] at h);refine aK (s:=qF) (y:=pE (a.2.2.2.2.1) (b.2.2.2.2.1)) (QX ..) ?_;refine rA (λh5=>?_) (λh=>no λe=>by simp[e] at h);refine rA (λh6=>?_) (λh=>no λe=>by simp[e] at h);refine rA (λh7=>?_) (λh=>no λe=>by simp[e] at h);refine rA (λh8=>?_) (λh=>no λe=>by simp[e] at h);refine rA (λh9=>?_) (λh=>no λe=>by simp[e] at h);refine rA (λh10=>?_) (λh=>no λe=>by simp[e] at h);refine U3 (r:=.str) hl1 (λy z=>decide (y=z)) (λx y=>decide_eq_true_iff) (λh11=>?_) (λh=>no λe=>h (by rw[e]));refine U3 (r:=.str) hl2 (λy z=>decide (y=z)) (λx y=>decide_eq_true_iff) (λh12=>yes ?_) (λh=>no λe=>h (by rw[e]));simp only[Bool.and_true,ac,ah,eG] at h1 h2 h3 h4 h5 h6 h7 h8 h9 h10;simp only[Prod.ext_iff];exact ⟨h1,h2,h3,h4,by simpa only [Prod.ext_iff] using h5,h6,⟨h8,h9,h11,h10,h12⟩,h7⟩
end Go.Pv
namespace Go.Pv
open Go Go.Proofs IntKind
def V8 (l:List iII) (x:iII):Bool:=l.any λy=>decide (y=x)
def E9 {l:List iII} {x:iII}:V8 l x=true↔x∈l:=by
 simp only[V8,List.any_eq_true,ah];exact ⟨λ⟨y,h,e⟩=>e ▸ h,λh=>⟨x,h,rfl⟩⟩
def Sy.tl:Sy->Sy
 | .pr _ b=>b
 | x=>x
def HN:List iII->Nat->List (iII×Int)->List (iII×Int)
 | [],_,es=>es
 | a::l,i,es=>HN l (i+1) (match fH es a with
  | none=>nM es a (i:Int)
  | some _=>es)
def jC (l:List iII):List (iII×Int):=HN l 0 []
variable {α:Type}
def ids (l:List (iII×α)):List iII:=l.map λx=>x.1
variable {β:Type}
def rE (l:List α) (r:β):Option β:=match decide (l.length<=140737488355328) with
 | true=>some r
 | false=>none
def kJ {l:List α} {t r:β} (h:rE l t=some r):l.length<=140737488355328/\r=t:=by
 unfold rE at h;split at h
 ·rename_i hc;cases h;exact ⟨of_decide_eq_true hc,rfl⟩
 ·cases h
def kK {l:List α} (t:β) (h:l.length<=140737488355328):rE l t=some t:=by unfold rE;rw[ai h]
def A94 (es:List (iII×Int)):List.map (λ(e:Value×D)=>(e.1,YJ e.2)) (List.map (cG Sy.str false (Sy.int IntKind.i64)) es)=bP es:=by
 rw[List.map_map];rfl
def KI {r:Sy} {l:List (iII×r.den)} (hl:l.length<=140737488355328) :
 dK Sy.str false (Sy.int IntKind.i64) [] λ(y0:List (iII×Int)) =>
 a8 (List (iII×Int)×Int×PUnit)
  (λ(X1:List (iII×Int)×Int×PUnit->Prop) (s2:List (iII×Int)×Int×PUnit) =>
   aD (decide (s2.2.1<(↑l.length:Int)))
    (aX (.pr .str r) (List.map (Sy.pr .str r).enc l) s2.2.1 λ(y3:iII×r.den) =>
     iI TypeDesc.string (Value.string y3.1)
      (List.map (cG Sy.str false (Sy.int IntKind.i64)) s2.1) false
      (Sy.int IntKind.i64)
      (aX (.pr .str r) (List.map (Sy.pr .str r).enc l) s2.2.1 λ(y7:iII×r.den) =>
       lP (Option (Nat×D))
        (findD TypeDesc.string (Value.string y7.1)
         (List.map (cG Sy.str false (Sy.int IntKind.i64)) s2.1) 0)
        λ(y8:Option (Nat×D)) =>
        dK Sy.str false (Sy.int IntKind.i64)
         (e7 (List.map (cG Sy.str false (Sy.int IntKind.i64)) s2.1) y8
          (Value.string y7.1) (D.p (pPP s2.2.1)))
         λ(y9:List (iII×Int))=>X1 (y9,i64.wrap (s2.2.1+1),()))
      λ(i4:Nat) (y5:Int) =>
      dK Sy.str false (Sy.int IntKind.i64)
       (List.map (cG Sy.str false (Sy.int IntKind.i64)) s2.1)
       λ(y6:List (iII×Int))=>X1 (y6,i64.wrap (s2.2.1+1),()))
    (b7
     ((List.map (cG Sy.str false (Sy.int IntKind.i64)) s2.1).all
      λ(e:Value×D)=>AR5 e.2)
     ((λy=>y=T.mp (bP (jC (ids l))))
      (T.mp
       (List.map (λ(e:Value×D)=>(e.1,YJ e.2))
        (List.map (cG Sy.str false (Sy.int IntKind.i64)) s2.1))))))
  (y0,0,()):=by
 refine kD (r:=.int .i64) rfl [] _ ?_;refine bN l.length (λk s=>∃ es,s=(es,(k:Int),())/\HN (ids (l.drop k)) k es=jC (ids l)) ⟨[],rfl,rfl⟩ ?_;rintro X k s hk ⟨es,rfl,hes⟩ hX;dsimp only;have hw:i64.wrap ((k:Int)+1)=((k+1:Nat):Int):=bB _ (by omega) (by omega);by_cases hlt:k<l.length
 ·refine gX (by omega) ?_;rw[bG (r:=.pr .str r) hlt];have hd:ids (l.drop k)=l[k].1::ids (l.drop (k+1)):=by rw[List.drop_eq_getElem_cons hlt];rfl
  rw[hd] at hes;simp only[HN] at hes;refine zD (r:=.int .i64) (λhno=>?_) (λi v hv=>?_)
  ·rw[hno] at hes;rw[bG (r:=.pr .str r) hlt];exact AL9 (r:=.int .i64) rfl (v:=(k:Int)) (hX _ hlt ⟨_,by rw[hw],hes⟩)
  ·rw[hv] at hes;exact kD (r:=.int .i64) rfl es _ (hX _ hlt ⟨_,by rw[hw],hes⟩)
 ·have:k=l.length:=by omega
  subst this;refine jI (by omega) ?_;rw[List.drop_length] at hes;refine ⟨?_,?_⟩
  ·rw[List.all_eq_true];intro e he;obtain ⟨x,_,rfl⟩:=List.mem_map.1 he;rfl
  ·show T.mp _=_;rw[A94];rw[<-hes];rfl
def tH (a0:aA):List T:=[pPP (a0.2.1.length:Int),T.fn 119 [] [T.ref [T.ref (aB.enc a0)]]]
def AUT:Env:=Env.of []
def BDR:FuncId->Hint:=cF 118 [(3,.inv [.map 0 .str false (.int .i64),.val 12 false (.int .i64)])] (λ_=>a6)
def A8I:aR Tryz.prog AUT:=.nil _
def bF:Sy:=Sy.int IntKind.i64
def m7(s2:List aG×Int×PUnit)(R:T->Prop):Prop:=b7 ((List.map (cG Sy.str false bF) s2.1).all λ(e:Value×D)=>AR5 e.2) (R (T.mp (List.map (λ(e:Value×D)=>(e.1,YJ e.2)) (List.map (cG Sy.str false bF) s2.1))))
def IR(s2:List aG×Int×PUnit)(X1:List aG×Int×PUnit->Prop):Prop:=dK Sy.str false bF (List.map (cG Sy.str false bF) s2.1) λ(y6:List aG)=>X1 (y6,i64.wrap (s2.2.1+1),())
def AXK(a0:aA)(R:T->Prop):Prop:=dK Sy.str false bF [] λ(y0:List aG)=>a8 (List aG×Int×PUnit) (λX1 s2=>aD (decide (s2.2.1<(↑a0.2.1.length:Int))) (aX bC (t7 a0) s2.2.1 λ(y3:fQ)=>iI TypeDesc.string (Value.string y3.1) (List.map (cG Sy.str false bF) s2.1) false bF (aX bC (t7 a0) s2.2.1 λ(y7:fQ)=>lP (Option (Nat×D)) (findD TypeDesc.string (Value.string y7.1) (List.map (cG Sy.str false bF) s2.1) 0) λ(y8:Option (Nat×D))=>dK Sy.str false bF (e7 (List.map (cG Sy.str false bF) s2.1) y8 (Value.string y7.1) (D.p (pPP s2.2.1))) λ(y9:List aG)=>X1 (y9,i64.wrap (s2.2.1+1),())) λ(i4:Nat) (y5:Int)=>IR s2 X1) (m7 s2 R)) (y0,0,())
def AXL ( a0 R):wB bX Tryz.prog AUT BDR 8 118 (tH a0) R=AXK a0 R:=by kernel_rfl
def AKS (d:aA):Option (List (iII×Int)):=rE d.2.1 (jC (ids d.2.1))
def AN5 (d d':aA) (h:tH d=tH d'):d=d':=by
 unfold tH at h;simp only[List.cons.injEq,T.fn.injEq,T.ref.injEq,and_true,true_and] at h;exact Sy.eU aB _ _ h.2
def ABE:List T->Option (List (iII×Int)):=gA (λ(x:aA)=>tH x) AKS
def A2H (a0:aA):ABE (tH a0)=AKS a0:=dY (A:=(λ(x:aA)=>tH x)) AN5 a0
def BJB (h:∀ (a0:aA) (r:List (iII×Int)),AKS a0=some r->(∀ t∈tH a0,Bd t)->AXK a0 (λy=>y = .mp (bP r))):kZ Tryz.prog 118 (sR ABE) :=
 EB (E:=AUT) (Hs:=BDR) A8I aV aY (aN rfl) 8 ⟨_,_,Tryz.func118,rfl⟩ λx r h1 h2=>by
  rw[AXL];exact h x r h1 h2
def BGX:kZ Tryz.prog 118 (sR ABE):=BJB λd r h hb=>by
 obtain ⟨hl,rfl⟩:=kJ h;unfold AXK IR m7 t7 bF;exact KI (r:=bC.tl) (l:=d.2.1) hl
def tI (a0:aA):List T:=[pPP (a0.2.2.1.length:Int),T.fn 120 [] [T.ref [T.ref (aB.enc a0)]]]
def AUU:Env:=Env.of []
def BDS:FuncId->Hint:=cF 118 [(3,.inv [.map 0 .str false (.int .i64),.val 12 false (.int .i64)])] (λ_=>a6)
def A8J:aR Tryz.prog AUU:=.nil _
def AXM(a0:aA)(R:T->Prop):Prop:=dK Sy.str false bF [] λ(y0:List aG)=>a8 (List aG×Int×PUnit) (λX1 s2=>aD (decide (s2.2.1<(↑a0.2.2.1.length:Int))) (aX aP (H1 a0) s2.2.1 λ(y3:bD)=>iI TypeDesc.string (Value.string y3.1) (List.map (cG Sy.str false bF) s2.1) false bF (aX aP (H1 a0) s2.2.1 λ(y7:bD)=>lP (Option (Nat×D)) (findD TypeDesc.string (Value.string y7.1) (List.map (cG Sy.str false bF) s2.1) 0) λ(y8:Option (Nat×D))=>dK Sy.str false bF (e7 (List.map (cG Sy.str false bF) s2.1) y8 (Value.string y7.1) (D.p (pPP s2.2.1))) λ(y9:List aG)=>X1 (y9,i64.wrap (s2.2.1+1),())) λ(i4:Nat) (y5:Int)=>IR s2 X1) (m7 s2 R)) (y0,0,())
def AXN ( a0 R):wB bX Tryz.prog AUU BDS 8 118 (tI a0) R=AXM a0 R:=by kernel_rfl
def AKT (d:aA):Option (List (iII×Int)):=rE d.2.2.1 (jC (ids d.2.2.1))
def AN6 (d d':aA) (h:tI d=tI d'):d=d':=by
 unfold tI at h;simp only[List.cons.injEq,T.fn.injEq,T.ref.injEq,and_true,true_and] at h;exact Sy.eU aB _ _ h.2
def ABF:List T->Option (List (iII×Int)):=gA (λ(x:aA)=>tI x) AKT
def A2I (a0:aA):ABF (tI a0)=AKT a0:=dY (A:=(λ(x:aA)=>tI x)) AN6 a0
def BJC (h:∀ (a0:aA) (r:List (iII×Int)),AKT a0=some r->(∀ t∈tI a0,Bd t)->AXM a0 (λy=>y = .mp (bP r))):kZ Tryz.prog 118 (sR ABF) :=
 EB (E:=AUU) (Hs:=BDS) A8J aV aY (aN rfl) 8 ⟨_,_,Tryz.func118,rfl⟩ λx r h1 h2=>by
  rw[AXN];exact h x r h1 h2
def BGY:kZ Tryz.prog 118 (sR ABF):=BJC λd r h hb=>by
 obtain ⟨hl,rfl⟩:=kJ h;unfold AXM IR m7 H1 bF;exact KI (r:=aP.tl) (l:=d.2.2.1) hl
def tJ (a0:aA):List T:=[pPP (a0.2.2.2.1.length:Int),T.fn 121 [] [T.ref [T.ref (aB.enc a0)]]]
def AUV:Env:=Env.of []
def BDT:FuncId->Hint:=cF 118 [(3,.inv [.map 0 .str false (.int .i64),.val 12 false (.int .i64)])] (λ_=>a6)
def A8K:aR Tryz.prog AUV:=.nil _
def AXO(a0:aA)(R:T->Prop):Prop:=dK Sy.str false bF [] λ(y0:List aG)=>a8 (List aG×Int×PUnit) (λX1 s2=>aD (decide (s2.2.1<(↑a0.2.2.2.1.length:Int))) (aX bI (t6 a0) s2.2.1 λ(y3:iH)=>iI TypeDesc.string (Value.string y3.1) (List.map (cG Sy.str false bF) s2.1) false bF (aX bI (t6 a0) s2.2.1 λ(y7:iH)=>lP (Option (Nat×D)) (findD TypeDesc.string (Value.string y7.1) (List.map (cG Sy.str false bF) s2.1) 0) λ(y8:Option (Nat×D))=>dK Sy.str false bF (e7 (List.map (cG Sy.str false bF) s2.1) y8 (Value.string y7.1) (D.p (pPP s2.2.1))) λ(y9:List aG)=>X1 (y9,i64.wrap (s2.2.1+1),())) λ(i4:Nat) (y5:Int)=>IR s2 X1) (m7 s2 R)) (y0,0,())
def AXP ( a0 R):wB bX Tryz.prog AUV BDT 8 118 (tJ a0) R=AXO a0 R:=by kernel_rfl
def AKU (d:aA):Option (List (iII×Int)):=rE d.2.2.2.1 (jC (ids d.2.2.2.1))
def AN7 (d d':aA) (h:tJ d=tJ d'):d=d':=by
 unfold tJ at h;simp only[List.cons.injEq,T.fn.injEq,T.ref.injEq,and_true,true_and] at h;exact Sy.eU aB _ _ h.2
def ABG:List T->Option (List (iII×Int)):=gA (λ(x:aA)=>tJ x) AKU
def A2J (a0:aA):ABG (tJ a0)=AKU a0:=dY (A:=(λ(x:aA)=>tJ x)) AN7 a0
def BJD (h:∀ (a0:aA) (r:List (iII×Int)),AKU a0=some r->(∀ t∈tJ a0,Bd t)->AXO a0 (λy=>y = .mp (bP r))):kZ Tryz.prog 118 (sR ABG) :=
 EB (E:=AUV) (Hs:=BDT) A8K aV aY (aN rfl) 8 ⟨_,_,Tryz.func118,rfl⟩ λx r h1 h2=>by
  rw[AXP];exact h x r h1 h2
def BGZ:kZ Tryz.prog 118 (sR ABG):=BJD λd r h hb=>by
 obtain ⟨hl,rfl⟩:=kJ h;unfold AXO IR m7 t6 bF;exact KI (r:=bI.tl) (l:=d.2.2.2.1) hl
def tK (a0:aA):List T:=[pPP (a0.2.2.2.2.1.length:Int),T.fn 122 [] [T.ref [T.ref (aB.enc a0)]]]
def AUW:Env:=Env.of []
def BDU:FuncId->Hint:=cF 118 [(3,.inv [.map 0 .str false (.int .i64),.val 12 false (.int .i64)])] (λ_=>a6)
def A8L:aR Tryz.prog AUW:=.nil _
def AXQ(a0:aA)(R:T->Prop):Prop:=dK Sy.str false bF [] λ(y0:List aG)=>a8 (List aG×Int×PUnit) (λX1 s2=>aD (decide (s2.2.1<(↑a0.2.2.2.2.1.length:Int))) (aX aH (m8 a0) s2.2.1 λ(y3:bA)=>iI TypeDesc.string (Value.string y3.1) (List.map (cG Sy.str false bF) s2.1) false bF (aX aH (m8 a0) s2.2.1 λ(y7:bA)=>lP (Option (Nat×D)) (findD TypeDesc.string (Value.string y7.1) (List.map (cG Sy.str false bF) s2.1) 0) λ(y8:Option (Nat×D))=>dK Sy.str false bF (e7 (List.map (cG Sy.str false bF) s2.1) y8 (Value.string y7.1) (D.p (pPP s2.2.1))) λ(y9:List aG)=>X1 (y9,i64.wrap (s2.2.1+1),())) λ(i4:Nat) (y5:Int)=>IR s2 X1) (m7 s2 R)) (y0,0,())
def AXR ( a0 R):wB bX Tryz.prog AUW BDU 8 118 (tK a0) R=AXQ a0 R:=by kernel_rfl
def AKV (d:aA):Option (List (iII×Int)):=rE d.2.2.2.2.1 (jC (ids d.2.2.2.2.1))
def AN8 (d d':aA) (h:tK d=tK d'):d=d':=by
 unfold tK at h;simp only[List.cons.injEq,T.fn.injEq,T.ref.injEq,and_true,true_and] at h;exact Sy.eU aB _ _ h.2
def ABH:List T->Option (List (iII×Int)):=gA (λ(x:aA)=>tK x) AKV
def A2K (a0:aA):ABH (tK a0)=AKV a0:=dY (A:=(λ(x:aA)=>tK x)) AN8 a0
def BJE (h:∀ (a0:aA) (r:List (iII×Int)),AKV a0=some r->(∀ t∈tK a0,Bd t)->AXQ a0 (λy=>y = .mp (bP r))):kZ Tryz.prog 118 (sR ABH) :=
 EB (E:=AUW) (Hs:=BDU) A8L aV aY (aN rfl) 8 ⟨_,_,Tryz.func118,rfl⟩ λx r h1 h2=>by
  rw[AXR];exact h x r h1 h2
def BG0:kZ Tryz.prog 118 (sR ABH):=BJE λd r h hb=>by
 obtain ⟨hl,rfl⟩:=kJ h;unfold AXQ IR m7 m8 bF;exact KI (r:=aH.tl) (l:=d.2.2.2.2.1) hl
end Go.Pv
namespace Go.Pv
open Go Go.Proofs IntKind
variable {α:Type}
def orG (g1 g2:List T->Option α) (a:List T):Option α:=match g1 a with
 | some r=>some r
 | none=>g2 a
variable {g1 g2:List T->Option α}
def O8 {a:List T} {r:α} (h:g1 a=some r):orG g1 g2 a=some r:=by unfold orG;rw[h]
def pG {a:List T} (h:g1 a=none):orG g1 g2 a=g2 a:=by unfold orG;rw[h]
def TD {a:List T} {r:α} (h:orG g1 g2 a=some r):g1 a=some r\/g2 a=some r:=by
 unfold orG at h;split at h
 ·rename_i r' h1;cases h;exact .inl h1
 ·exact .inr h
variable {P:Program}
def aO.or {f:FuncId} {g1 g2:List T->Option T} (h1:aO P f g1) (h2:aO P f g2):aO P f (orG g1 g2):=⟨h1.entry,λw own args vs r hG ho ha hr=>by
 rcases TD hr with h|h
 ·exact h1.calls w own args vs r hG ho ha h
 ·exact h2.calls w own args vs r hG ho ha h⟩
def kZ.orM {f:FuncId} {g1 g2:List T->Option (List (iII×Int))} (h1:kZ P f (sR g1)) (h2:kZ P f (sR g2)):kZ P f (sR (orG g1 g2)):=⟨h1.entry,λw own args vs r hG ho ha hr=>by
 simp only[sR,aa] at hr;obtain ⟨es,h,rfl⟩:=hr;rcases TD h with h|h
 ·exact h1.calls w own args vs _ hG ho ha (by simp[sR,h])
 ·exact h2.calls w own args vs _ hG ho ha (by simp[sR,h])⟩
def ART:List T->Option (List (iII×Int)):=orG ABE (orG ABF (orG ABG ABH))
def BMY:kZ Tryz.prog 118 (sR ART):=.orM BGX (.orM BGY (.orM BGZ BG0))
def iS {X:Type} {A:X->List T} {sp:X->Option α} {args:List T} (h:∀ x,args≠A x):gA A sp args=none:=by
 unfold gA;rw[dif_neg];rintro ⟨x,hx⟩;exact h x hx
def pY:List iII->Bool
 | a::b::l=>!(cY b a||decide (b=a))&&pY (b::l)
 | _=>true
def AZI {l:List iII} {k:Nat} (h:k+1<l.length):pY (l.drop k)=(!(cY l[k+1] l[k]||decide (l[k+1]=l[k]))&&pY (l.drop (k+1))):=by
 rw[List.drop_eq_getElem_cons (show k<l.length by omega),List.drop_eq_getElem_cons h,pY]
def A9S {l:List iII} {k:Nat} (h:l.length<=k+1):pY (l.drop k)=true:=by
 rcases Nat.lt_or_ge k l.length with h1|h1
 ·rw[List.drop_eq_getElem_cons h1,List.drop_eq_nil_of_le h];rfl
 ·rw[List.drop_eq_nil_of_le h1];rfl
variable {R:T->Prop}
def FK {r:Sy} {p:r.den->iII} {l:List r.den} (hl:l.length<=140737488355328) (hR:R (pPR (pY (l.map p)))) :
 a8 (Int×PUnit)
 (λ(X0:Int×PUnit->Prop) (s1:Int×PUnit) =>
  aD (decide (s1.1<(↑l.length:Int)))
   (aX r (List.map r.enc l) s1.1 λ(y2:r.den) =>
    aX r (List.map r.enc l) (i64.wrap (s1.1-1))
     λ(y3:r.den) =>
     aD (cY (p y2) (p y3)||decide (p y2=p y3)) (R (pPR false))
      (X0 (i64.wrap (s1.1+1),())))
   (R (pPR true)))
 (1,()):=by
 refine bN l.length (λk s=>s=(((k+1:Nat):Int),())/\pY (l.map p)=pY ((l.map p).drop k)) ⟨rfl,by rw[List.drop_zero]⟩ ?_;rintro X k s hk ⟨rfl,he⟩ hX;dsimp only;have hw:i64.wrap (((k+1:Nat):Int)+1)=((k+1+1:Nat):Int):=bB _ (by omega) (by omega);have hw1:i64.wrap (((k+1:Nat):Int)-1)=((k:Nat):Int):=by rw[bB _ (by omega) (by omega)];omega
 by_cases hlt:k+1<l.length
 ·refine gX (by omega) ?_;rw[bG hlt,hw1,bG (show k<l.length by omega)];rw[AZI (by rw[ae];exact hlt)] at he;rw[List.getElem_map,List.getElem_map] at he;cases hc:(cY (p l[k+1]) (p l[k])||decide (p l[k+1]=p l[k])) with
  | true =>
   rw[kH];rw[hc,Bool.not_true,Bool.false_and] at he;rwa[he] at hR
  | false =>
   rw[pA];rw[hc,Bool.not_false,Bool.true_and] at he;exact hX _ (by omega) ⟨by rw[hw],he⟩
 ·refine jI (by omega) ?_;rw[A9S (by rw[ae];omega)] at he;rwa[he] at hR
def rU (a0:List iII):List T:=[pPP (a0.length:Int),T.fn 272 [] [T.ref [T.sl false (List.map Sy.str.enc a0)]]]
def AVG:Env:=Env.of []
def BD0:FuncId->Hint:=cF 123 [(2,.inv [.val 5 false (.int .i64)])] (λ_=>a6)
def A81:aR Tryz.prog AVG:=.nil _
def AYC(a0:List iII)(R:T->Prop):Prop:=a8 (Int×PUnit) (λX0 s1=>aD (decide (s1.1<(↑a0.length:Int))) (aX Sy.str (IO a0) s1.1 λ(y2:iII)=>aX Sy.str (IO a0) (i64.wrap (s1.1-1)) λ(y3:iII)=>aD (cY y2 y3||decide (y2=y3)) (R d4) (g9 X0 s1)) (R d7)) (1,())
def AYD ( a0 R):dM bX Tryz.prog AVG BD0 8 123 (rU a0) R=AYC a0 R:=by kernel_rfl
def AK1 (l:List iII):Option T:=rE l (pPR (pY l))
def AOE (d d':List iII) (h:rU d=rU d'):d=d':=by
 unfold rU at h;simp only[List.cons.injEq,T.fn.injEq,T.ref.injEq,and_true,true_and,T.sl.injEq] at h;exact map_inj (Sy.eU .str) h.2
def ACC:List T->Option (T):=gA (λ(x:List iII)=>rU x) AK1
def A20 (a0:List iII):ACC (rU a0)=AK1 a0:=dY (A:=(λ(x:List iII)=>rU x)) AOE a0
def BJU (h:∀ (a0:List iII) (r:T),AK1 a0=some r->(∀ t∈rU a0,Bd t)->AYC a0 (λy=>y=r)):aO Tryz.prog 123 ACC :=
 cE (E:=AVG) (Hs:=BD0) A81 aV aY (aN rfl) 8 ⟨_,_,Tryz.func123,rfl⟩ λx r h1 h2=>by
  rw[AYD];exact h x r h1 h2
def BHG:aO Tryz.prog 123 ACC:=BJU λl r h hb=>by
 obtain ⟨hl,rfl⟩:=kJ h;unfold AYC IO g9 d7 d4;exact FK (r:=.str) (p:=λy=>y) (R:=λy=>y=pPR (pY l)) hl (by simp)
def rQ (a0:aA):List T:=[pPP (a0.2.1.length:Int),T.fn 124 [] [T.ref [T.ref (aB.enc a0)]]]
def AVC:Env:=Env.of []
def BDW:FuncId->Hint:=cF 123 [(2,.inv [.val 5 false (.int .i64)])] (λ_=>a6)
def A8X:aR Tryz.prog AVC:=.nil _
def AX4(a0:aA)(R:T->Prop):Prop:=a8 (Int×PUnit) (λX0 s1=>aD (decide (s1.1<(↑a0.2.1.length:Int))) (aX bC (t7 a0) s1.1 λ(y2:fQ)=>aX bC (t7 a0) (i64.wrap (s1.1-1)) λ(y3:fQ)=>aD (cY y2.1 y3.1||decide (y2.1=y3.1)) (R d4) (g9 X0 s1)) (R d7)) (1,())
def AX5 ( a0 R):dM bX Tryz.prog AVC BDW 8 123 (rQ a0) R=AX4 a0 R:=by kernel_rfl
def AKX (d:aA):Option T:=rE d.2.1 (pPR (pY (ids d.2.1)))
def AOA (d d':aA) (h:rQ d=rQ d'):d=d':=by
 unfold rQ at h;simp only[List.cons.injEq,T.fn.injEq,T.ref.injEq,and_true,true_and] at h;exact Sy.eU aB _ _ h.2
def AB8:List T->Option (T):=gA (λ(x:aA)=>rQ x) AKX
def A2W (a0:aA):AB8 (rQ a0)=AKX a0:=dY (A:=(λ(x:aA)=>rQ x)) AOA a0
def BJQ (h:∀ (a0:aA) (r:T),AKX a0=some r->(∀ t∈rQ a0,Bd t)->AX4 a0 (λy=>y=r)):aO Tryz.prog 123 AB8 :=
 cE (E:=AVC) (Hs:=BDW) A8X aV aY (aN rfl) 8 ⟨_,_,Tryz.func123,rfl⟩ λx r h1 h2=>by
  rw[AX5];exact h x r h1 h2
def BHC:aO Tryz.prog 123 AB8:=BJQ λd r h hb=>by
 obtain ⟨hl,rfl⟩:=kJ h;unfold AX4 g9 t7 d7 d4;exact FK (r:=bC) (p:=λy=>y.1) (R:=λy=>y=pPR (pY (ids d.2.1))) hl rfl
def rR (a0:aA):List T:=[pPP (a0.2.2.1.length:Int),T.fn 125 [] [T.ref [T.ref (aB.enc a0)]]]
def AVD:Env:=Env.of []
def BDX:FuncId->Hint:=cF 123 [(2,.inv [.val 5 false (.int .i64)])] (λ_=>a6)
def A8Y:aR Tryz.prog AVD:=.nil _
def AX6(a0:aA)(R:T->Prop):Prop:=a8 (Int×PUnit) (λX0 s1=>aD (decide (s1.1<(↑a0.2.2.1.length:Int))) (aX aP (H1 a0) s1.1 λ(y2:bD)=>aX aP (H1 a0) (i64.wrap (s1.1-1)) λ(y3:bD)=>aD (cY y2.1 y3.1||decide (y2.1=y3.1)) (R d4) (g9 X0 s1)) (R d7)) (1,())
def AX7 ( a0 R):dM bX Tryz.prog AVD BDX 8 123 (rR a0) R=AX6 a0 R:=by kernel_rfl
def AKY (d:aA):Option T:=rE d.2.2.1 (pPR (pY (ids d.2.2.1)))
def AOB (d d':aA) (h:rR d=rR d'):d=d':=by
 unfold rR at h;simp only[List.cons.injEq,T.fn.injEq,T.ref.injEq,and_true,true_and] at h;exact Sy.eU aB _ _ h.2
def AB9:List T->Option (T):=gA (λ(x:aA)=>rR x) AKY
def A2X (a0:aA):AB9 (rR a0)=AKY a0:=dY (A:=(λ(x:aA)=>rR x)) AOB a0
def BJR (h:∀ (a0:aA) (r:T),AKY a0=some r->(∀ t∈rR a0,Bd t)->AX6 a0 (λy=>y=r)):aO Tryz.prog 123 AB9 :=
 cE (E:=AVD) (Hs:=BDX) A8Y aV aY (aN rfl) 8 ⟨_,_,Tryz.func123,rfl⟩ λx r h1 h2=>by
  rw[AX7];exact h x r h1 h2
def BHD:aO Tryz.prog 123 AB9:=BJR λd r h hb=>by
 obtain ⟨hl,rfl⟩:=kJ h;unfold AX6 g9 H1 d7 d4;exact FK (r:=aP) (p:=λy=>y.1) (R:=λy=>y=pPR (pY (ids d.2.2.1))) hl rfl
def rS (a0:aA):List T:=[pPP (a0.2.2.2.1.length:Int),T.fn 126 [] [T.ref [T.ref (aB.enc a0)]]]
def AVE:Env:=Env.of []
def BDY:FuncId->Hint:=cF 123 [(2,.inv [.val 5 false (.int .i64)])] (λ_=>a6)
def A8Z:aR Tryz.prog AVE:=.nil _
def AX8(a0:aA)(R:T->Prop):Prop:=a8 (Int×PUnit) (λX0 s1=>aD (decide (s1.1<(↑a0.2.2.2.1.length:Int))) (aX bI (t6 a0) s1.1 λ(y2:iH)=>aX bI (t6 a0) (i64.wrap (s1.1-1)) λ(y3:iH)=>aD (cY y2.1 y3.1||decide (y2.1=y3.1)) (R d4) (g9 X0 s1)) (R d7)) (1,())
def AX9 ( a0 R):dM bX Tryz.prog AVE BDY 8 123 (rS a0) R=AX8 a0 R:=by kernel_rfl
def AKZ (d:aA):Option T:=rE d.2.2.2.1 (pPR (pY (ids d.2.2.2.1)))
def AOC (d d':aA) (h:rS d=rS d'):d=d':=by
 unfold rS at h;simp only[List.cons.injEq,T.fn.injEq,T.ref.injEq,and_true,true_and] at h;exact Sy.eU aB _ _ h.2
def ACA:List T->Option (T):=gA (λ(x:aA)=>rS x) AKZ
def A2Y (a0:aA):ACA (rS a0)=AKZ a0:=dY (A:=(λ(x:aA)=>rS x)) AOC a0
def BJS (h:∀ (a0:aA) (r:T),AKZ a0=some r->(∀ t∈rS a0,Bd t)->AX8 a0 (λy=>y=r)):aO Tryz.prog 123 ACA :=
 cE (E:=AVE) (Hs:=BDY) A8Z aV aY (aN rfl) 8 ⟨_,_,Tryz.func123,rfl⟩ λx r h1 h2=>by
  rw[AX9];exact h x r h1 h2
def BHE:aO Tryz.prog 123 ACA:=BJS λd r h hb=>by
 obtain ⟨hl,rfl⟩:=kJ h;unfold AX8 g9 t6 d7 d4;exact FK (r:=bI) (p:=λy=>y.1) (R:=λy=>y=pPR (pY (ids d.2.2.2.1))) hl rfl
def rT (a0:aA):List T:=[pPP (a0.2.2.2.2.1.length:Int),T.fn 127 [] [T.ref [T.ref (aB.enc a0)]]]
def AVF:Env:=Env.of []
def BDZ:FuncId->Hint:=cF 123 [(2,.inv [.val 5 false (.int .i64)])] (λ_=>a6)
def A80:aR Tryz.prog AVF:=.nil _
def AYA(a0:aA)(R:T->Prop):Prop:=a8 (Int×PUnit) (λX0 s1=>aD (decide (s1.1<(↑a0.2.2.2.2.1.length:Int))) (aX aH (m8 a0) s1.1 λ(y2:bA)=>aX aH (m8 a0) (i64.wrap (s1.1-1)) λ(y3:bA)=>aD (cY y2.1 y3.1||decide (y2.1=y3.1)) (R d4) (g9 X0 s1)) (R d7)) (1,())
def AYB ( a0 R):dM bX Tryz.prog AVF BDZ 8 123 (rT a0) R=AYA a0 R:=by kernel_rfl
def AK0 (d:aA):Option T:=rE d.2.2.2.2.1 (pPR (pY (ids d.2.2.2.2.1)))
def AOD (d d':aA) (h:rT d=rT d'):d=d':=by
 unfold rT at h;simp only[List.cons.injEq,T.fn.injEq,T.ref.injEq,and_true,true_and] at h;exact Sy.eU aB _ _ h.2
def ACB:List T->Option (T):=gA (λ(x:aA)=>rT x) AK0
def A2Z (a0:aA):ACB (rT a0)=AK0 a0:=dY (A:=(λ(x:aA)=>rT x)) AOD a0
def BJT (h:∀ (a0:aA) (r:T),AK0 a0=some r->(∀ t∈rT a0,Bd t)->AYA a0 (λy=>y=r)):aO Tryz.prog 123 ACB :=
 cE (E:=AVF) (Hs:=BDZ) A80 aV aY (aN rfl) 8 ⟨_,_,Tryz.func123,rfl⟩ λx r h1 h2=>by
  rw[AYB];exact h x r h1 h2
def BHF:aO Tryz.prog 123 ACB:=BJT λd r h hb=>by
 obtain ⟨hl,rfl⟩:=kJ h;unfold AYA g9 m8 d7 d4;exact FK (r:=aH) (p:=λy=>y.1) (R:=λy=>y=pPR (pY (ids d.2.2.2.2.1))) hl rfl
def wM:List T->Option T:=orG AB8 (orG AB9 (orG ACA (orG ACB ACC)))
def BD7:aO Tryz.prog 123 wM:=.or BHC (.or BHD (.or BHE (.or BHF BHG)))
def BHN {d:aA} (h:d.2.1.length<=140737488355328):ART (tH d)=some (jC (ids d.2.1)):=by
 have h1:ABE (tH d)=some (jC (ids d.2.1)):=by rw[A2H];exact kK _ h
 exact (O8 h1)
def BHR {d:aA} (h:d.2.1.length<=140737488355328):wM (rQ d)=some (pPR (pY (ids d.2.1))):=by
 have h1:AB8 (rQ d)=some (pPR (pY (ids d.2.1))):=by rw[A2W];exact kK _ h
 exact (O8 h1)
def BHO {d:aA} (h:d.2.2.1.length<=140737488355328):ART (tI d)=some (jC (ids d.2.2.1)):=by
 have h1:ABF (tI d)=some (jC (ids d.2.2.1)):=by rw[A2I];exact kK _ h
 exact ((pG (iS λx h=>by simp[tH,tI] at h)).trans (O8 h1))
def BHS {d:aA} (h:d.2.2.1.length<=140737488355328):wM (rR d)=some (pPR (pY (ids d.2.2.1))):=by
 have h1:AB9 (rR d)=some (pPR (pY (ids d.2.2.1))):=by rw[A2X];exact kK _ h
 exact ((pG (iS λx h=>by simp[rQ,rR] at h)).trans (O8 h1))
def BHP {d:aA} (h:d.2.2.2.1.length<=140737488355328):ART (tJ d)=some (jC (ids d.2.2.2.1)):=by
 have h1:ABG (tJ d)=some (jC (ids d.2.2.2.1)):=by rw[A2J];exact kK _ h
 exact ((pG (iS λx h=>by simp[tH,tJ] at h)).trans ((pG (iS λx h=>by simp[tI,tJ] at h)).trans (O8 h1)))
def BHT {d:aA} (h:d.2.2.2.1.length<=140737488355328):wM (rS d)=some (pPR (pY (ids d.2.2.2.1))):=by
 have h1:ACA (rS d)=some (pPR (pY (ids d.2.2.2.1))):=by rw[A2Y];exact kK _ h
 exact ((pG (iS λx h=>by simp[rQ,rS] at h)).trans ((pG (iS λx h=>by simp[rR,rS] at h)).trans (O8 h1)))
def BHQ {d:aA} (h:d.2.2.2.2.1.length<=140737488355328):ART (tK d)=some (jC (ids d.2.2.2.2.1)):=by
 have h1:ABH (tK d)=some (jC (ids d.2.2.2.2.1)):=by rw[A2K];exact kK _ h
 exact ((pG (iS λx h=>by simp[tH,tK] at h)).trans ((pG (iS λx h=>by simp[tI,tK] at h)).trans ((pG (iS λx h=>by simp[tJ,tK] at h)).trans h1)))
def BHU {d:aA} (h:d.2.2.2.2.1.length<=140737488355328):wM (rT d)=some (pPR (pY (ids d.2.2.2.2.1))):=by
 have h1:ACB (rT d)=some (pPR (pY (ids d.2.2.2.2.1))):=by rw[A2Z];exact kK _ h
 exact ((pG (iS λx h=>by simp[rQ,rT] at h)).trans ((pG (iS λx h=>by simp[rR,rT] at h)).trans ((pG (iS λx h=>by simp[rS,rT] at h)).trans (O8 h1))))
def A21 {l:List iII} (h:l.length<=140737488355328):wM (rU l)=some (pPR (pY l)):=by
 have h1:ACC (rU l)=some (pPR (pY l)):=by rw[A20];exact kK _ h
 exact ((pG (iS λx h=>by simp[rQ,rU] at h)).trans ((pG (iS λx h=>by simp[rR,rU] at h)).trans ((pG (iS λx h=>by simp[rS,rU] at h)).trans ((pG (iS λx h=>by simp[rT,rU] at h)).trans h1))))
abbrev QH (d:aA) (m1 m2 m3 m4:List (iII×Int)):T:=T.ref [T.ref (aB.enc d),T.mp (bP m1),T.mp (bP m2),T.mp (bP m3),T.mp (bP m4)]
end Go.Pv
namespace Go.Pv
open Go Go.Proofs IntKind
abbrev q_b:Sh:=[(false,.bool)]
abbrev BJ3:Sh:=[(false,.li .str)]
def yR (x:iII×iII):Option T:=match decide (x.1.size<4294967281),decide (1<=x.2.size) with
 | true,true=>some (Sh.enc BJ3 (Lib.splitB x.2 0 (Lib.countB x.1 x.2) x.1))
 | _,_=>none
def xZ:List T->Option T:=gS [(false,.str),(false,.str)] yR
def ACH {a b:iII}:xZ [pPQ a,pPQ b]=yR (a,b):=bH (s:=[(false,.str),(false,.str)]) rfl (a,b) rfl
def ARC:aO Tryz.prog 83 xZ:=by
 refine ⟨xH.entry,λw own args vs r hG ho ha hg=>?_⟩;obtain ⟨⟨a,b⟩,rfl,hx⟩:=zK hg;unfold yR at hx;split at hx
 ·rename_i h1 h2;cases hx;have hs:sS [.v (.string a),.v (.string b)]=some (.sl true ((Lib.splitB b 0 (Lib.countB a b) a).map λx=>[.v (.string x)])):=by
   unfold sS;simp only[h1,h2]
  refine (xH.calls w own _ vs _ hG ho ha hs).mono ?_;rintro e w' ⟨v,rfl,hr,hb⟩;exact ⟨v,rfl,hr.canon 0,hb⟩
 ·cases hx
end Go.Pv
namespace Go.Pv
open Go Go.Proofs IntKind
def sB (n:Int):Bool:=(decide (97<=n)&&decide (n<=122))||(decide (65<=n)&&decide (n<=90))
def B6 (n:Int):Bool:=decide (48<=n)&&decide (n<=57)
def nameAt (i:Nat) (b:UInt8):Bool:=sB b.toNat||(decide (i≠0)&&(B6 b.toNat||decide ((b.toNat:Int)=95)||decide ((b.toNat:Int)=45)))
def isName (s:iII):Bool:=decide (s.size≠0)&&decide (s.size<=16)&&(List.range s.size).all λi=>match s.data[i]? with|some b=>nameAt i b|none=>true
def AD6 (s:iII):Option T:=some (Sh.enc q_b (isName s))
abbrev uT:=AD6
def BC3 (l:List iII):Int:=(l.length:Int)-1+oZ l
def BNY (s:iII):Option T:=match decide (s.size<=1099511627776) with
 | true=>some (Sh.enc BJ3 (eZ s))
 | false=>none
def uU (l:List iII):Option T:=match decide (l.length<=65)&&decide (oZ l<=64) with
 | true=>some (Sh.enc q_b (l.all isName&&(decide (1<=l.length)&&decide (l.length<=8)&&decide (BC3 l<=64))))
 | false=>none
def oS (s:iII):Bool:=decide (s.size<=64)&&decide ((eZ s).length<=8)&&(eZ s).all isName
def FT (s:iII):Option T:=some (Sh.enc q_b (oS s))
def pX {n:Nat} {f:Nat->Bool}:(List.range n).all f=true↔∀ i,i<n->f i=true:=by simp
def AR4 {s:iII} (h0:s.size≠0) (h1:s.size<=16) (h2:∀ i b,s.data[i]? = some b->nameAt i b=true):isName s=true:=by
 unfold isName;simp only[h0,h1,decide_true,Bool.true_and,ac,pX,ne_eq,not_false_eq_true,true_and];intro i hi;split
 ·rename_i b hb;exact h2 i b hb
 ·rfl
def CN {s:iII} (h:s.size=0\/16<s.size\/∃ i b,s.data[i]? = some b/\nameAt i b=false):isName s=false:=by
 rw[Bool.eq_false_iff];intro hn;unfold isName at hn;simp only[ac,pX,ah] at hn;rcases h with h|h|⟨i,b,hb,hf⟩
 ·exact hn.1.1 h
 ·have:=hn.1.2;omega
 ·have hi:i<s.size:=(Array.getElem?_eq_some_iff.1 hb).1;have:=hn.2 i hi;rw[hb] at this;simp only[hf] at this;cases this
def AC6 (b:UInt8):nameAt 0 b=sB b.toNat:=by simp[nameAt]
def ALS {s:iII}:s = { data:=#[] }↔s.size=0:=⟨λe=>by subst e;rfl,λe=>ByteArray.ext (Array.eq_empty_of_size_eq_zero e)⟩
def AUJ:Env:=Env.of []
def AYJ:FuncId->Hint:=λf=>match f == 85 with|true=>⟨λr=>match r == 4 with|true=>.inv [.lC 0]|false=>.none,λi j=>match i == 6&&j == 6 with|true=>some [.val 5 false .bool,.fix 0]|false=>match i == 7&&j == 7 with|true=>some [.val 6 false .bool,.fix 0]|false=>none,λ_=>none⟩|false=>a6
def AE8:aR Tryz.prog AUJ:=.nil _
def EQ(s1:(iII×Nat)×PUnit)(X2:Bool×PUnit×PUnit->Prop):Prop:=aD (decide (97<=(↑(Utf8.decode s1.1.1 s1.1.2).1:Int))) (gH (bE.lC s1.1.1 (s1.1.2+(Utf8.decode s1.1.1 s1.1.2).2)) (bE.lC s1.1.1 (s1.1.2+(Utf8.decode s1.1.1 s1.1.2).2)) (X2 (decide ((↑(Utf8.decode s1.1.1 s1.1.2).1:Int)<=122),(),()))) (gH (bE.lC s1.1.1 (s1.1.2+(Utf8.decode s1.1.1 s1.1.2).2)) (bE.lC s1.1.1 (s1.1.2+(Utf8.decode s1.1.1 s1.1.2).2)) (X2 (false,(),())))
def FS(s1:(iII×Nat)×PUnit)(X2:Bool×PUnit×PUnit->Prop):Prop:=gH (bE.lC s1.1.1 (s1.1.2+(Utf8.decode s1.1.1 s1.1.2).2)) (bE.lC s1.1.1 (s1.1.2+(Utf8.decode s1.1.1 s1.1.2).2)) (X2 (true,(),()))
def M2(s1:(iII×Nat)×PUnit)(X4:Bool×PUnit×PUnit->Prop):Prop:=aD (decide ((↑(Utf8.decode s1.1.1 s1.1.2).1:Int)=95)) (FS s1 X4) (gH (bE.lC s1.1.1 (s1.1.2+(Utf8.decode s1.1.1 s1.1.2).2)) (bE.lC s1.1.1 (s1.1.2+(Utf8.decode s1.1.1 s1.1.2).2)) (X4 (decide ((↑(Utf8.decode s1.1.1 s1.1.2).1:Int)=45),(),())))
def LX(a0:iII)(R:T->Prop):Prop:=aD (decide (a0 = {data:=#[]})) (R d4) (aD (decide (16<(↑(ByteArray.size a0):Int))) (R d4) (a8 ((iII×Nat)×PUnit) (λX0 s1=>aD (decide (s1.1.2<s1.1.1.size)) (sA (Bool×PUnit×PUnit) (λ(X2:Bool×PUnit×PUnit->Prop)=>aD (decide (65<=(↑(Utf8.decode s1.1.1 s1.1.2).1:Int))) (aD (decide ((↑(Utf8.decode s1.1.1 s1.1.2).1:Int)<=90)) (FS s1 X2) (EQ s1 X2)) (EQ s1 X2)) λ(s3:Bool×PUnit×PUnit)=>sA (Bool×PUnit×PUnit) (λ(X4:Bool×PUnit×PUnit->Prop)=>aD (decide (48<=(↑(Utf8.decode s1.1.1 s1.1.2).1:Int))) (aD (decide ((↑(Utf8.decode s1.1.1 s1.1.2).1:Int)<=57)) (FS s1 X4) (M2 s1 X4)) (M2 s1 X4)) λ(s5:Bool×PUnit×PUnit)=>aD (!s3.1) (aD (decide ((↑s1.1.2:Int)=0)) (R d4) (aD (!s5.1) (R d4) (X0 ((s1.1.1,s1.1.2+(Utf8.decode s1.1.1 s1.1.2).2),())))) (X0 ((s1.1.1,s1.1.2+(Utf8.decode s1.1.1 s1.1.2).2),()))) (R d7)) ((a0,0),())))
abbrev PG:Sh:=[(false,Sy.str)]
abbrev FI:Sh:=[(false,Sy.bool)]
def Q7 (y:Sh.den FI) (K:Sh.den FI->Prop):aM FI (some (Sh.enc FI y)) K=K y:=yZ rfl y K
def iU:List T->Option T:=gS PG uT
def xN {a0}:iU [pPQ a0]=uT (a0):=bH (s:=PG) rfl (a0) rfl
def ASS:yW Tryz.prog 85 iU uT (cQ PG) LX:=kW (a1:=(false,Sy.str)) (Hs:=AYJ) (k:=8) AE8 aV aY (aN rfl) ⟨_,_,Tryz.func85,rfl⟩ rfl λ_ _=>by kernel_rfl
variable {K:Bool×PUnit×PUnit->Prop}
def ACV (c:Int) (hX:K (sB c,(),())):sA (Bool×PUnit×PUnit) (λX=>aD (decide (65<=c)) (aD (decide (c<=90)) (X (true,(),())) (aD (decide (97<=c)) (X (decide (c<=122),(),())) (X (false,(),())))) (aD (decide (97<=c)) (X (decide (c<=122),(),())) (X (false,(),())))) K:=by
 simp only[ACS,zQ];unfold sB at hX;by_cases h1:65<=c<;>by_cases h2:c<=90<;>by_cases h3:97<=c<;>by_cases h4:c<=122<;>simp[h1,h2,h3,h4] at hX ⊢ <;> first|exact hX|omega
def VI (c:Int) (hX:K (B6 c||decide (c=95)||decide (c=45),(),())):sA (Bool×PUnit×PUnit) (λX=>aD (decide (48<=c)) (aD (decide (c<=57)) (X (true,(),())) (aD (decide (c=95)) (X (true,(),())) (X (decide (c=45),(),())))) (aD (decide (c=95)) (X (true,(),())) (X (decide (c=45),(),())))) K:=by
 simp only[ACS,zQ];unfold B6 at hX;by_cases h1:48<=c<;>by_cases h2:c<=57<;>by_cases h3:c=95<;>simp[h1,h2,h3] at hX ⊢ <;> first|exact hX|omega
def zI:aO Tryz.prog 85 iU:=ASS λs r h hb=>by
 have h':some (Sh.enc q_b (isName s))=some r:=h;cases h';clear h;unfold LX M2 FS EQ d7 d4;by_cases h0:s.size=0
 ·exact gX (ALS.2 h0) (by rw[CN (.inl h0)];rfl)
 refine jI (λe=>h0 (ALS.1 e)) ?_;by_cases h16:16<s.size
 ·exact gX (by omega) (by rw[CN (.inr (.inl h16))];rfl)
 refine jI (by omega) ?_;refine bN s.size (λk t=>t=((s,k),())/\∀ i b,i<k->s.data[i]? = some b->nameAt i b=true) ⟨rfl,by simp⟩ ?_;rintro X k t hk ⟨rfl,hno⟩ hX;simp only[dS];by_cases hlt:k<s.size
 ·refine gX hlt ?_;have hb:s.data[k]? = some (s[k]'hlt):=by
   rw[Array.getElem?_eq_getElem hlt];rfl
  refine ACV (Utf8.decode s k).1 ?_;refine VI (Utf8.decode s k).1 ?_;dsimp only;have stop:nameAt k (s[k]'hlt)=false->pPR false=Sh.enc q_b (isName s):=λhn=>by rw[CN (.inr (.inr ⟨k,_,hb,hn⟩))];rfl
  by_cases hasc:(s[k]'hlt).toNat<128
  ·have hd:=decode_ascii s k hlt hasc;have go:nameAt k (s[k]'hlt)=true->X ((s,k+(Utf8.decode s k).2),()):=λhn=>by
    rw[hd];exact hX _ hlt ⟨rfl,λi b' hi hb'=>by
     by_cases e:i=k
     ·subst e;rw[hb] at hb';cases hb';exact hn
     ·exact hno i b' (by omega) hb'⟩
   have e1:((Utf8.decode s k).1:Int)=((s[k]'hlt).toNat:Int):=by rw[hd]
   rw[e1];cases hl:sB ((s[k]'hlt).toNat:Int) with
   | true=>rw[Bool.not_true,pA];exact go (by simp[nameAt,hl])
   | false =>
    rw[Bool.not_false,kH];by_cases hk0:k=0
    ·exact gX (by omega) (stop (by subst hk0;rw[AC6];exact hl))
    ·refine jI (by omega) ?_;cases hf:(B6 ((s[k]'hlt).toNat:Int)||decide (((s[k]'hlt).toNat:Int)=95)||decide (((s[k]'hlt).toNat:Int)=45)) with
     | true=>rw[Bool.not_true,pA];exact go (by unfold nameAt;rw[hl,hf];simp[hk0])
     | false=>rw[Bool.not_false,kH];exact stop (by unfold nameAt;rw[hl,hf];simp)
  ·obtain ⟨hd1,hd2⟩:=decode_high s k hlt (by omega);have hl:sB ((Utf8.decode s k).1:Int)=false:=by
    unfold sB;simp;omega
   have hf:(B6 ((Utf8.decode s k).1:Int)||decide (((Utf8.decode s k).1:Int)=95)||decide (((Utf8.decode s k).1:Int)=45))=false:=by
    unfold B6;simp;omega
   have hn:nameAt k (s[k]'hlt)=false:=by
    unfold nameAt sB B6;simp;omega
   rw[hl,hf,Bool.not_false,kH];by_cases hk0:k=0
   ·exact gX (by omega) (stop hn)
   ·refine jI (by omega) ?_;rw[kH];exact stop hn
 ·refine jI hlt ?_;rw[AR4 h0 (by omega) (λi b h=>hno i b (by have:=(Array.getElem?_eq_some_iff.1 h).1;have:i<s.size:=this;omega) h)];rfl
def A7E:Env:=Env.of [(85,.pure iU)]
def A85:FuncId->Hint:=cF 82 [(3,.inv [.val 3 false (.int .i64),.val 11 false (.int .i64)])] (λ_=>a6)
def AOV:aR Tryz.prog A7E:=.cons zI (.nil _)
def UE(a0:List iII)(R:T->Prop):Prop:=a8 (Int×Int×PUnit) (λX0 s1=>aD (decide (s1.2.1<(↑(IO a0).length:Int))) (aX Sy.str (IO a0) s1.2.1 λ(y2:iII)=>aM d5 (iU [pPQ y2]) λ(y3:Bool)=>aD (!y3) (R d4) (X0 (i64.wrap (s1.1+(↑y2.size:Int)),i64.wrap (s1.2.1+1),()))) (aD (decide (1<=(↑(IO a0).length:Int))) (aD (decide ((↑(IO a0).length:Int)<=8)) (R (pPR (decide (s1.1<=64)))) (R d4)) (R d4))) (i64.wrap ((↑(IO a0).length:Int)-1),0,())
abbrev WW:Sh:=[(false,Sy.str.li)]
def EK:List T->Option T:=gS WW uU
def AH8 {a0}:EK [T.sl false (List.map Sy.str.enc a0)]=uU (a0):=bH (s:=WW) rfl (a0) rfl
def A4K:yW Tryz.prog 82 EK uU (cQ WW) UE:=kW (a1:=(false,Sy.str.li)) (Hs:=A85) (k:=8) AOV aV aY (aN rfl) ⟨_,_,Tryz.func82,rfl⟩ rfl λ_ _=>by kernel_rfl
def DN:∀ (l:List iII) (x:iII),oZ (l++[x])=oZ l+x.size
 | [],x=>by simp[oZ]
 | a::l,x=>by simp only[List.cons_append,oZ,DN l x];omega
def QF:∀ (l:List iII) (k:Nat),oZ (l.take k)<=oZ l
 | [],k=>by simp
 | a::l,0=>by simp[oZ]
 | a::l,k+1=>by simp only[List.take_succ_cons,oZ];have:=QF l k;omega
def A0P:aO Tryz.prog 82 EK:=A4K λl r h hb=>by
 unfold uU at h;split at h
 ·rename_i hsz;simp only[ac,ah] at hsz;obtain ⟨hl65,hs64⟩:=hsz;cases h;unfold UE IO d5 d4;refine bN l.length (λk t=>t=((l.length:Int)-1+oZ (l.take k),(k:Int),())/\(l.take k).all isName=true) ⟨by
   simp only[List.take_zero,oZ,ae,Prod.mk.injEq,and_true];rw[bB _ (by omega) (by omega)];simp,by simp⟩ ?_
  rintro X k t hk ⟨rfl,hall⟩ hX;dsimp only;by_cases hlt:k<l.length
  ·refine gX (by simp[hlt]) ?_;rw[bG (r:=.str) hlt];refine aK (s:=q_b) (y:=isName l[k]) xN ?_;have hsum:=QF l (k+1);have htake:l.take (k+1)=l.take k++[l[k]]:=List.take_succ_eq_append_getElem hlt;cases hn:isName l[k] with
   | false =>
    rw[Bool.not_false,kH];have:l.all isName=false:=by
     rw[Bool.eq_false_iff];intro ha;have:=List.all_eq_true.1 ha _ (ak hlt);rw[hn] at this;cases this
    rw[this];rfl
   | true =>
    rw[Bool.not_true,pA];rw[htake,DN] at hsum;refine hX _ hlt ⟨?_,by rw[htake,List.all_append,hall];simp[hn]⟩;rw[htake,DN];simp only[Prod.mk.injEq,and_true];exact ⟨by rw[bB _ (by omega) (by omega)];simp;omega,bB _ (by omega) (by omega)⟩
  ·have:k=l.length:=by omega
   subst this;rw[List.take_length] at hall;refine jI (by simp) ?_;rw[List.take_length,hall];by_cases h1:1<=l.length
   ·refine gX (by simp only[ae];omega) ?_;by_cases h2:l.length<=8
    ·refine gX (by simp only[ae];omega) ?_;rw[ai h1,ai h2];rfl
    ·refine jI (by simp only[ae];omega) ?_;rw[aj h2,Bool.and_false];rfl
   ·refine jI (by simp only[ae];omega) ?_;rw[aj h1];rfl
 ·cases h
def BEW:Env:=Env.of [(83,.pure xZ),(82,.pure EK)]
def BFC:FuncId->Hint:=λ_=>a6
def AVY:aR Tryz.prog BEW:=.cons ARC (.cons A0P (.nil _))
def AF7(a0:iII)(R:T->Prop):Prop:=aD (decide ((↑(ByteArray.size a0):Int)<=64)) (aM f0 (xZ [pPQ a0,pPQ ({data:=#[46]})]) λ(y0:List iII)=>aM d5 (EK [T.sl false (IO y0)]) λ(y1:Bool)=>R (pPR y1)) (R d4)
abbrev AJX:Sh:=[(false,Sy.str)]
abbrev WO:Sh:=[(false,Sy.bool)]
def ADQ (y:Sh.den WO) (K:Sh.den WO->Prop):aM WO (some (Sh.enc WO y)) K=K y:=yZ rfl y K
def eW:List T->Option T:=gS AJX FT
def HA {a0}:eW [pPQ a0]=FT (a0):=bH (s:=AJX) rfl (a0) rfl
def BB9:yW Tryz.prog 64 eW FT (cQ AJX) AF7:=kW (a1:=(false,Sy.str)) (Hs:=BFC) (k:=8) AVY aV aY (aN rfl) ⟨_,_,Tryz.func64,rfl⟩ rfl λ_ _=>by kernel_rfl
def zH:aO Tryz.prog 64 eW:=BB9 λs r h hb=>by
 have h':some (Sh.enc q_b (oS s))=some r:=h;cases h';clear h;unfold AF7 IO f0 d5 d4 oS;by_cases h64:s.size<=64
 ·refine gX (by omega) ?_;have hsum:=ATN s;have hpos:=ATM s;refine aK (s:=BJ3) (y:=eZ s) ?_ ?_
  ·rw[show xZ [pPQ s,pPQ ({ data:=#[46] })]=yR (s,dot) from ACH];unfold yR;rw[show decide (s.size<4294967281)=true by simp;omega,show decide (1<=dot.size)=true from rfl];rfl
  ·refine aK (s:=q_b) (y:=(eZ s).all isName&&(decide (1<=(eZ s).length)&&decide ((eZ s).length<=8)&&decide (BC3 (eZ s)<=64))) ?_ ?_
   ·rw[AH8];unfold uU;rw[show (decide ((eZ s).length<=65)&&decide (oZ (eZ s)<=64))=true by simp;omega]
   ·have h1:decide (1<=(eZ s).length)=true:=ai hpos;have h2:decide (BC3 (eZ s)<=64)=true:=ai (by unfold BC3;omega);have h3:decide (s.size<=64)=true:=ai h64;rw[h1,h2,h3];simp[Bool.and_comm,Sh.enc,aF,Sy.enc,hdT]
 ·refine jI (by omega) ?_;rw[aj h64];rfl
end Go.Pv
namespace Go.Pv
open Go Go.Proofs IntKind
def Seen (es:List (iII×Bool)) (S:iII->Prop):Prop:=(∀ id b,fH es id=some b->b=true)/\∀ id,fH es id=some true↔S id
def Seen.nil:Seen [] λ_=>False:=⟨λid b h=>(by cases h),λid=>⟨λh=>(by cases h),λh=>h.elim⟩⟩
variable {es:List (iII×Bool)}{S:iII->Prop}
def Seen.ins (h:Seen es S) (k:iII):Seen (nM es k true) λid=>S id\/k=id:=by
 refine ⟨λid b hb=>?_,λid=>?_⟩
 ·rw[x5] at hb;split at hb
  ·cases hb;rfl
  ·exact h.1 id b hb
 ·rw[x5];split
  ·rename_i e;exact ⟨λ_=>.inr e,λ_=>rfl⟩
  ·rename_i e;rw[h.2];exact ⟨.inl,λh=>h.resolve_right e⟩
def Seen.congr {S':iII->Prop} (h:Seen es S) (e:∀ id,S id↔S' id):Seen es S':=⟨h.1,λid=>(h.2 id).trans (e id)⟩
abbrev RS:=List (Value×T)×Nat×List Nat×Nat
variable {m:List (iII×Int)}
def A0D {seen:List Nat} {i:Nat} (hi:i<m.length) (K:iII->Int->Prop) (hk:K m[i].1 m[i].2):B7 .str false (.int .i64) (rK (bP m)) (seen++[i]) K :=
 ⟨i,m[i].1,m[i].2,by simp,by simp only[rK,bP,List.map_map,List.getElem?_map,List.getElem?_eq_getElem hi];rfl,hk⟩
def A90 {R7 K:Prop} (hS:Seen es S) (hbad:(∃ i,∃ h:i<m.length,S m[i].1)->R7) (hgood:(∀ i (h:i<m.length),¬ S m[i].1)->K) :
  a8 (RS×PUnit) (λ(X:RS×PUnit->Prop) (s:RS×PUnit)=>b7 (decide (s.1.1.length<=s.1.2.1)&&decide (s.1.2.1<=s.1.2.2.2)) (tT s.1.1.length s.1.2.2.1 K λ(i:Nat) =>
   b7 (decide (s.1.1.length=s.1.1.length)) (B7 Sy.str false (Sy.int IntKind.i64) (rK s.1.1) (s.1.2.2.1++[i]) λ(k:iII) (y:Int) =>
    iI TypeDesc.string (Value.string k) (List.map (cG Sy.str false Sy.bool) es) false Sy.bool (X ((s.1.1,s.1.2.1,s.1.2.2.1++[i],s.1.1.length),())) λ(j:Nat) (b:Bool) =>
     aD b R7 (X ((s.1.1,s.1.2.1,s.1.2.2.1++[i],s.1.1.length),()))))) ((bP m,(bP m).length,[],(bP m).length),()):=by
 have hml:(bP m).length=m.length:=by simp[bP]
 refine bN m.length (λk t=>∃ seen,t=((bP m,(bP m).length,seen,(bP m).length),())/\(cU m.length seen).length+k<=m.length/\∀ i (h:i<m.length),i∈seen->¬ S m[i].1) ⟨[],rfl,by rw[yC];omega,by simp⟩ ?_;rintro X k t hk ⟨seen,rfl,hlen,hJ⟩ hX;dsimp only;refine ⟨by simp,?_,?_⟩
 ·intro hm;rw[hml] at hm;refine hgood λi hi=>hJ i hi ?_;refine Classical.byContradiction λhc=>?_;have:i∈cU m.length seen:=mL.2 ⟨hi,hc⟩;rw[hm] at this;cases this
 ·intro i hi;rw[hml] at hi;have hi1:=(mL.1 hi).1;have hst:=vO hi;refine ⟨by simp,A0D hi1 _ ?_⟩;have go:¬ S m[i].1->X ((bP m,(bP m).length,seen++[i],(bP m).length),()):=λhn=>hX _ (by omega) ⟨_,rfl,by omega,λj hj hm=>by
   rcases List.mem_append.1 hm with h|h
   ·exact hJ j hj h
   ·simp at h;subst h;exact hn⟩
  refine zD (r:=.bool) (λhno=>go λh=>?_) λj b hb=>?_
  ·have:=(hS.2 m[i].1).2 h;rw[hno] at this;cases this
  ·have:=hS.1 _ _ hb;subst this;rw[kH];exact hbad ⟨i,hi1,(hS.2 _).1 hb⟩
def A9O {K:List (iII×Bool)×RS×PUnit->Prop} (hS:Seen es S) (hgood:∀ es' rs,Seen es' (λid=>S id\/∃ i,∃ h:i<m.length,m[i].1=id)->K (es',rs,())) :
  dK Sy.str false Sy.bool (List.map (cG Sy.str false Sy.bool) es) λ(y:List (iII×Bool)) =>
  a8 (List (iII×Bool)×RS×PUnit) (λ(X:List (iII×Bool)×RS×PUnit->Prop) (s:List (iII×Bool)×RS×PUnit)=>b7 (decide (s.2.1.1.length<=s.2.1.2.1)&&decide (s.2.1.2.1<=s.2.1.2.2.2)) (tT s.2.1.1.length s.2.1.2.2.1 (K s) λ(i:Nat) =>
   b7 (decide (s.2.1.1.length=s.2.1.1.length)) (B7 Sy.str false (Sy.int IntKind.i64) (rK s.2.1.1) (s.2.1.2.2.1++[i]) λ(k:iII) (y:Int) =>
    lP (Option (Nat×D)) (findD TypeDesc.string (ON Sy.str k) (List.map (cG Sy.str false Sy.bool) s.1) 0) λ(y37:Option (Nat×D)) =>
     dK Sy.str false Sy.bool (e7 (List.map (cG Sy.str false Sy.bool) s.1) y37 (Value.string k) (D.p (T.v (.bool true)))) λ(y38:List (iII×Bool)) =>
      X (y38,(s.2.1.1,s.2.1.2.1,s.2.1.2.2.1++[i],s.2.1.1.length),())))) (y,(bP m,(bP m).length,[],(bP m).length),()):=by
 have hml:(bP m).length=m.length:=by simp[bP]
 refine kD (r:=.bool) rfl es _ ?_;refine bN m.length (λk t=>∃ seen es',t=(es',(bP m,(bP m).length,seen,(bP m).length),())/\(cU m.length seen).length+k<=m.length/\Seen es' (λid=>S id\/∃ i,∃ h:i<m.length,i∈seen/\m[i].1=id)) ⟨[],es,rfl,by rw[yC];omega,hS.congr (by simp)⟩ ?_;rintro X k t hk ⟨seen,es',rfl,hlen,hJ⟩ hX;dsimp only;refine ⟨by simp,?_,?_⟩
 ·intro hm;rw[hml] at hm;refine hgood _ _ (hJ.congr λid=>⟨λh=>h.imp_right λ⟨i,hi,_,e⟩=>⟨i,hi,e⟩,λh=>h.imp_right λ⟨i,hi,e⟩=>⟨i,hi,?_,e⟩⟩);refine Classical.byContradiction λhc=>?_;have:i∈cU m.length seen:=mL.2 ⟨hi,hc⟩;rw[hm] at this;cases this
 ·intro i hi;rw[hml] at hi;have hi1:=(mL.1 hi).1;have hst:=vO hi;refine ⟨by simp,A0D hi1 _ ?_⟩;refine AL9 (r:=.bool) rfl (es:=es') (k:=m[i].1) (v:=true) (hX _ (by omega) ⟨seen++[i],_,rfl,by omega,(hJ.ins _).congr λid=>⟨?_,?_⟩⟩)
  ·rintro ((h|⟨j,hj,hm,e⟩)|h)
   ·exact .inl h
   ·exact .inr ⟨j,hj,by simp[hm],e⟩
   ·exact .inr ⟨i,hi1,by simp,h⟩
  ·rintro (h|⟨j,hj,hm,e⟩)
   ·exact .inl (.inl h)
   ·rcases List.mem_append.1 hm with hm|hm
    ·exact .inl (.inr ⟨j,hj,hm,e⟩)
    ·simp at hm;subst hm;exact .inr e
def ltN (a b:cM):Bool:=decide (a.1<b.1)||(decide (a.1=b.1)&&(cY a.2.1 b.2.1||(decide (a.2.1=b.2.1)&&cY a.2.2 b.2.2)))
def M0:List cM->Bool
 | a::b::l=>ltN a b&&M0 (b::l)
 | _=>true
def APY {l:List cM} {k:Nat} (h:k+1<l.length):M0 (l.drop k)=(ltN l[k] l[k+1]&&M0 (l.drop (k+1))):=by
 rw[List.drop_eq_getElem_cons (show k<l.length by omega),List.drop_eq_getElem_cons h,M0]
def AZH {l:List cM} {k:Nat} (h:l.length<=k+1):M0 (l.drop k)=true:=by
 rcases Nat.lt_or_ge k l.length with h1|h1
 ·rw[List.drop_eq_getElem_cons h1,List.drop_eq_nil_of_le h];rfl
 ·rw[List.drop_eq_nil_of_le h1];rfl
def SU (k:iII) (v:Int) (id:iII):∀ es:List (iII×Int),id∈(nM es k v).map (λe=>e.1)↔id∈es.map (λe=>e.1)\/id=k
 | []=>by simp[nM]
 | e::es=>by
  simp only[nM];split
  ·rename_i h;simp only[List.map_cons,List.mem_cons];rw[<-h];constructor
   ·rintro (h|h)
    ·exact .inl (.inl h)
    ·exact .inl (.inr h)
   ·rintro ((h|h)|h)
    ·exact .inl h
    ·exact .inr h
    ·exact .inl h
  ·simp only[List.map_cons,List.mem_cons,SU k v id es,or_assoc]
def SZ (id:iII):∀ (l:List iII) (i:Nat) (es:List (iII×Int)),id∈(HN l i es).map (λe=>e.1)↔id∈es.map (λe=>e.1)\/id∈l
 | [],i,es=>by simp[HN]
 | a::l,i,es=>by
  simp only[HN];rw[SZ id l];cases h:fH es a with
  | none=>simp only[SU,List.mem_cons,or_assoc]
  | some v =>
   simp only[List.mem_cons];have ha:a∈es.map (λe=>e.1):=by
    rcases q9 a es with ⟨h1,_⟩|⟨j,hj,h1,_⟩
    ·rw[h] at h1;cases h1
    ·exact List.mem_map.2 ⟨es[j],ak hj,h1⟩
   constructor
   ·rintro (h|h)
    ·exact .inl h
    ·exact .inr (.inr h)
   ·rintro (h|rfl|h)
    ·exact .inl h
    ·exact .inl ha
    ·exact .inr h
def lL {l:List iII} {id:iII}:(∃ i,∃ h:i<(jC l).length,(jC l)[i].1=id)↔id∈l:=by
 have h:=SZ id l 0 [];simp only[List.map_nil,List.not_mem_nil,false_or] at h;rw[<-h,List.mem_map];constructor
 ·rintro ⟨i,hi,e⟩;exact ⟨_,ak hi,e⟩
 ·rintro ⟨e,he,h⟩;obtain ⟨i,hi,rfl⟩:=List.mem_iff_getElem.1 he;exact ⟨i,hi,h⟩
def BQ (a0:aA) (m1:List aG) (m2:List aG) (m3:List aG) (m4:List aG):List T:=[QH a0 m1 m2 m3 m4]
def AEU:Env:=Env.of [(123,.pure wM)]
def AYI:FuncId->Hint:=λf=>match f == 87 with|true=>⟨λr=>match r == 9 with|true=>.inv [.val 4 false .bool,.val 5 false (.int .i64)]|false=>match r == 17 with|true=>.AK9 5|false=>match r == 20 with|true=>.alts [[.cH 30],[.cH 29],[.cH 28],[.cH 27],[.cH 26],[.cH 25],[.cH 24],[.cH 23],[.cH 22],[.cH 21],[.cH 20],[.cH 19],[.cH 18],[.cH 17],[.cH 16],[.cH 15],[.cH 14],[.cH 13],[.cH 12],[.cH 11],[.cH 10],[.cH 9],[.cH 8],[.cH 7],[.cH 6],[.cH 5],[.cH 4],[.cH 3],[.cH 2]]|false=>match r == 25 with|true=>.alts [[.map 2 .str false .bool,.cH 30],[.map 2 .str false .bool,.cH 29],[.map 2 .str false .bool,.cH 28],[.map 2 .str false .bool,.cH 27],[.map 2 .str false .bool,.cH 26],[.map 2 .str false .bool,.cH 25],[.map 2 .str false .bool,.cH 24],[.map 2 .str false .bool,.cH 23],[.map 2 .str false .bool,.cH 22],[.map 2 .str false .bool,.cH 21],[.map 2 .str false .bool,.cH 20],[.map 2 .str false .bool,.cH 19],[.map 2 .str false .bool,.cH 18],[.map 2 .str false .bool,.cH 17],[.map 2 .str false .bool,.cH 16],[.map 2 .str false .bool,.cH 15],[.map 2 .str false .bool,.cH 14],[.map 2 .str false .bool,.cH 13],[.map 2 .str false .bool,.cH 12],[.map 2 .str false .bool,.cH 11],[.map 2 .str false .bool,.cH 10],[.map 2 .str false .bool,.cH 9],[.map 2 .str false .bool,.cH 8],[.map 2 .str false .bool,.cH 7],[.map 2 .str false .bool,.cH 6],[.map 2 .str false .bool,.cH 5],[.map 2 .str false .bool,.cH 4],[.map 2 .str false .bool,.cH 3],[.map 2 .str false .bool,.cH 2]]|false=>.none,λi j=>match i == 5&&j == 5 with|true=>some [.val 4 false .bool]|false=>match i == 6&&j == 6 with|true=>some [.val 4 false .bool]|false=>match i == 7&&j == 7 with|true=>some [.val 4 false .bool]|false=>none,λr=>match r == 21 with|true=>some (.str,false,(.int .i64))|false=>match r == 26 with|true=>some (.str,false,(.int .i64))|false=>none⟩|false=>a6
def AVX:aR Tryz.prog AEU:=.cons BD7 (.nil _)
def f8(a0:aA):List T:=[pPQ a0.1, T.sl false (t7 a0), T.sl false (H1 a0), T.sl false (t6 a0), T.sl false (m8 a0), T.sl false (GE a0)]
def i7(a0:aA):List T:=[pPQ a0.1,T.sl false (t7 a0), T.sl false (H1 a0), T.sl false (t6 a0), T.sl false (m8 a0), T.sl false (GE a0)]
def AF5(a0:aA)(m1:List aG)(m2:List aG)(m3:List aG)(m4:List aG)(R:T->Prop):Prop:=aD (decide (64<(↑(t7 a0).length:Int))) (R (pPP 4)) (aD (decide (256<(↑(H1 a0).length:Int))) (R (pPP 4)) (aD (decide (256<(↑(t6 a0).length:Int))) (R (pPP 4)) (aD (decide (64<(↑(m8 a0).length:Int))) (R (pPP 4)) (aD (decide (256<(↑(GE a0).length:Int))) (R (pPP 4)) (aM d5 (wM [pPP (↑(t7 a0).length:Int), T.fn 124 [] [T.ref [T.ref (i7 a0)]]]) λ(y0:Bool)=>sA (Bool×PUnit) (λ(X1:Bool×PUnit->Prop)=>aD y0 (aM d5 (wM [pPP (↑(H1 a0).length:Int), T.fn 125 [] [T.ref [T.ref (f8 a0)]]]) λ(y2:Bool)=>X1 (y2,())) (X1 (false,()))) λ(s3:Bool×PUnit)=>sA (Bool×PUnit) (λ(X4:Bool×PUnit->Prop)=>aD s3.1 (aM d5 (wM [pPP (↑(t6 a0).length:Int), T.fn 126 [] [T.ref [T.ref (f8 a0)]]]) λ(y5:Bool)=>X4 (y5,())) (X4 (false,()))) λ(s6:Bool×PUnit)=>sA (Bool×PUnit) (λ(X7:Bool×PUnit->Prop)=>aD s6.1 (aM d5 (wM [pPP (↑(m8 a0).length:Int), T.fn 127 [] [T.ref [T.ref (f8 a0)]]]) λ(y8:Bool)=>X7 (y8,())) (X7 (false,()))) λ(s9:Bool×PUnit)=>a8 (Bool×Int×PUnit) (λX10 s11=>aD (decide (s11.2.1<(↑(GE a0).length:Int))) (aX a7 (GE a0) (i64.wrap (s11.2.1-1)) λ(y12:cM)=>aX a7 (GE a0) s11.2.1 λ(y13:cM)=>aD s11.1 (aD (decide (y12.1<y13.1)) (X10 (true,i64.wrap (s11.2.1+1),())) (aD (decide (y12.1=y13.1)) (aD (cY y12.2.1 y13.2.1) (X10 (true,i64.wrap (s11.2.1+1),())) (aD (decide (y12.2.1=y13.2.1)) (X10 (cY y12.2.2 y13.2.2,i64.wrap (s11.2.1+1), ())) (X10 (false,i64.wrap (s11.2.1+1),())))) (X10 (false,i64.wrap (s11.2.1+1),())))) (X10 (false,i64.wrap (s11.2.1+1),()))) (aD (!s11.1) (R (pPP 11)) (a8 ((List (Value×T)×Nat×List Nat×Nat)×PUnit) (λ(X14:(List (Value×T)×Nat×List Nat×Nat)×PUnit->Prop) (s15:(List (Value×T)×Nat×List Nat×Nat)×PUnit)=>b7 (decide (s15.1.1.length<=s15.1.2.1) && decide (s15.1.2.1<=s15.1.2.2.2)) (tT s15.1.1.length s15.1.2.2.1 (dK Sy.str false Sy.bool [] λ(y16:List (iII×Bool))=>a8 (List (iII×Bool) × (List (Value×T)×Nat×List Nat×Nat)×PUnit) (λ(X17 : List (iII×Bool) × (List (Value×T)×Nat×List Nat×Nat)×PUnit -> Prop) (s18 : List (iII×Bool) × (List (Value×T)×Nat×List Nat×Nat)×PUnit)=>b7 (decide (s18.2.1.1.length<=s18.2.1.2.1) && decide (s18.2.1.2.1<=s18.2.1.2.2.2)) (tT s18.2.1.1.length s18.2.1.2.2.1 (a8 ((List (Value×T)×Nat×List Nat×Nat)×PUnit) (λ(X19 : (List (Value×T)×Nat×List Nat×Nat)×PUnit->Prop) (nK:(List (Value×T)×Nat×List Nat×Nat)×PUnit)=>b7 (decide (nK.1.1.length<=nK.1.2.1) && decide (nK.1.2.1<=nK.1.2.2.2)) (tT nK.1.1.length nK.1.2.2.1 (dK Sy.str false Sy.bool (List.map (cG Sy.str false Sy.bool) s18.1) λ(y21:List (iII×Bool))=>a8 (List (iII×Bool) × (List (Value×T)×Nat×List Nat×Nat)×PUnit) (λ(X22 : List (iII×Bool) × (List (Value×T)×Nat×List Nat×Nat) × PUnit -> Prop) (s23 : List (iII×Bool) × (List (Value×T)×Nat×List Nat×Nat) × PUnit)=>b7 (decide (s23.2.1.1.length<=s23.2.1.2.1) && decide (s23.2.1.2.1<=s23.2.1.2.2.2)) (tT s23.2.1.1.length s23.2.1.2.2.1 (a8 ((List (Value×T)×Nat×List Nat×Nat) × PUnit) (λ(X24 : (List (Value×T) × Nat×List Nat×Nat) × PUnit -> Prop) (s25 : (List (Value×T) × Nat×List Nat×Nat) × PUnit)=>b7 (decide (s25.1.1.length<=s25.1.2.1) && decide (s25.1.2.1<=s25.1.2.2.2)) (tT s25.1.1.length s25.1.2.2.1 (dK Sy.str false Sy.bool (List.map (cG Sy.str false Sy.bool) s23.1) λ(y26:List (iII×Bool))=>a8 (List (iII×Bool) × (List (Value×T) × Nat×List Nat×Nat) × PUnit) (λ(X27 : List (iII×Bool) × (List (Value×T) × Nat×List Nat×Nat) × PUnit -> Prop) (s28 : List (iII×Bool) × (List (Value×T) × Nat×List Nat×Nat) × PUnit)=>b7 (decide (s28.2.1.1.length <= s28.2.1.2.1) && decide (s28.2.1.2.1 <= s28.2.1.2.2.2)) (tT s28.2.1.1.length s28.2.1.2.2.1 (a8 ((List (Value×T) × Nat×List Nat×Nat) × PUnit) (λ(X29 : (List (Value×T) × Nat×List Nat×Nat) × PUnit -> Prop) (s30 : (List (Value×T) × Nat×List Nat×Nat) × PUnit)=>b7 (decide (s30.1.1.length <= s30.1.2.1) && decide (s30.1.2.1 <= s30.1.2.2.2)) (tT s30.1.1.length s30.1.2.2.1 (dK Sy.str false Sy.bool (List.map (cG Sy.str false Sy.bool) s28.1) λ(y31 : List (iII×Bool))=>a8 (List (iII×Bool) × (List (Value × T) × Nat × List Nat×Nat) × PUnit) (λ(X32 : List (iII × Bool) × (List (Value × T) × Nat × List Nat × Nat) × PUnit -> Prop) (s33 : List (iII × Bool) × (List (Value × T) × Nat × List Nat × Nat) × PUnit)=>b7 (decide (s33.2.1.1.length <= s33.2.1.2.1) && decide (s33.2.1.2.1 <= s33.2.1.2.2.2)) (tT s33.2.1.1.length s33.2.1.2.2.1 (R (pPP 0)) λ(i34:Nat)=>b7 (decide (s33.2.1.1.length = s33.2.1.1.length)) (B7 Sy.str false bF (rK s33.2.1.1) (s33.2.1.2.2.1 ++ [i34]) λ(k35 : iII) (y36:Int)=>lP (Option (Nat × D)) (findD TypeDesc.string (ON Sy.str k35) (List.map (cG Sy.str false Sy.bool) s33.1) 0) λ(y37 : Option (Nat × D))=>dK Sy.str false Sy.bool (e7 (List.map (cG Sy.str false Sy.bool) s33.1) y37 (Value.string k35) (D.p d7)) λ(y38 : List (iII × Bool))=>X32 (y38, (s33.2.1.1, s33.2.1.2.1, s33.2.1.2.2.1 ++ [i34], s33.2.1.1.length), ())))) (y31, (bP m4, (bP m4).length, [], (bP m4).length), ())) λ(i39:Nat)=>b7 (decide (s30.1.1.length = s30.1.1.length)) (B7 Sy.str false bF (rK s30.1.1) (s30.1.2.2.1 ++ [i39]) λ(k40:iII) (y41:Int)=>iI TypeDesc.string (Value.string k40) (List.map (cG Sy.str false Sy.bool) s28.1) false Sy.bool (X29 ((s30.1.1, s30.1.2.1, s30.1.2.2.1 ++ [i39], s30.1.1.length), ())) λ(i42:Nat) (y43:Bool)=>aD y43 (R (pPP 7)) (X29 ((s30.1.1, s30.1.2.1, s30.1.2.2.1 ++ [i39], s30.1.1.length), ()))))) ((bP m4, (bP m4).length,[], (bP m4).length), ())) λ(i44:Nat)=>b7 (decide (s28.2.1.1.length = s28.2.1.1.length)) (B7 Sy.str false bF (rK s28.2.1.1) (s28.2.1.2.2.1++[i44]) λ(k45:iII) (y46:Int)=>lP (Option (Nat×D)) (findD TypeDesc.string (ON Sy.str k45) (List.map (cG Sy.str false Sy.bool) s28.1) 0) λ(y47 : Option (Nat×D))=>dK Sy.str false Sy.bool (e7 (List.map (cG Sy.str false Sy.bool) s28.1) y47 (Value.string k45) (D.p d7)) λ(y48 : List (iII×Bool))=>X27 (y48, (s28.2.1.1, s28.2.1.2.1, s28.2.1.2.2.1 ++ [i44], s28.2.1.1.length), ())))) (y26, (bP m3,(bP m3).length,[], (bP m3).length), ())) λ(i49:Nat)=>b7 (decide (s25.1.1.length=s25.1.1.length)) (B7 Sy.str false bF (rK s25.1.1) (s25.1.2.2.1++[i49]) λ(k50:iII) (y51:Int)=>iI TypeDesc.string (Value.string k50) (List.map (cG Sy.str false Sy.bool) s23.1) false Sy.bool (X24 ((s25.1.1,s25.1.2.1, s25.1.2.2.1++[i49], s25.1.1.length), ())) λ(i52:Nat) (y53:Bool)=>aD y53 (R (pPP 7)) (X24 ((s25.1.1,s25.1.2.1, s25.1.2.2.1++[i49], s25.1.1.length), ()))))) ((bP m3,(bP m3).length,[], (bP m3).length), ())) λ(i54:Nat)=>b7 (decide (s23.2.1.1.length=s23.2.1.1.length)) (B7 Sy.str false bF (rK s23.2.1.1) (s23.2.1.2.2.1++[i54]) λ(k55:iII) (y56:Int)=>lP (Option (Nat×D)) (findD TypeDesc.string (ON Sy.str k55) (List.map (cG Sy.str false Sy.bool) s23.1) 0) λ(y57:Option (Nat×D))=>dK Sy.str false Sy.bool (e7 (List.map (cG Sy.str false Sy.bool) s23.1) y57 (Value.string k55) (D.p d7)) λ(y58:List (iII×Bool))=>X22 (y58, (s23.2.1.1,s23.2.1.2.1, s23.2.1.2.2.1++[i54], s23.2.1.1.length), ())))) (y21, (bP m2,(bP m2).length,[], (bP m2).length), ())) λ(i59:Nat)=>b7 (decide (nK.1.1.length=nK.1.1.length)) (B7 Sy.str false bF (rK nK.1.1) (nK.1.2.2.1++[i59]) λ(k60:iII) (y61:Int)=>iI TypeDesc.string (Value.string k60) (List.map (cG Sy.str false Sy.bool) s18.1) false Sy.bool (X19 ((nK.1.1,nK.1.2.1, nK.1.2.2.1++[i59],nK.1.1.length), ())) λ(i62:Nat) (y63:Bool)=>aD y63 (R (pPP 7)) (X19 ((nK.1.1,nK.1.2.1, nK.1.2.2.1++[i59],nK.1.1.length), ()))))) ((bP m2,(bP m2).length,[],(bP m2).length),())) λ(i64:Nat)=>b7 (decide (s18.2.1.1.length=s18.2.1.1.length)) (B7 Sy.str false bF (rK s18.2.1.1) (s18.2.1.2.2.1++[i64]) λ(k65:iII) (y66:Int)=>lP (Option (Nat×D)) (findD TypeDesc.string (ON Sy.str k65) (List.map (cG Sy.str false Sy.bool) s18.1) 0) λ(y67:Option (Nat×D))=>dK Sy.str false Sy.bool (e7 (List.map (cG Sy.str false Sy.bool) s18.1) y67 (Value.string k65) (D.p d7)) λ(y68:List (iII×Bool))=>X17 (y68, (s18.2.1.1,s18.2.1.2.1, s18.2.1.2.2.1++[i64],s18.2.1.1.length), ())))) (y16,(bP m1,(bP m1).length,[],(bP m1).length),())) λ(i69:Nat)=>b7 (decide (s15.1.1.length=s15.1.1.length)) (B7 Sy.str false bF (rK s15.1.1) (s15.1.2.2.1++[i69]) λ(k70:iII) (y71:Int)=>iI TypeDesc.string (Value.string k70) [] false Sy.bool (X14 ((s15.1.1,s15.1.2.1,s15.1.2.2.1++[i69], s15.1.1.length), ())) λ(i72:Nat) (y73:Bool)=>aD y73 (R (pPP 7)) (X14 ((s15.1.1,s15.1.2.1,s15.1.2.2.1++[i69], s15.1.1.length), ()))))) ((bP m1,(bP m1).length,[],(bP m1).length),())))) (s9.1,1,()))))))
def APB ( a0 m1 m2 m3 m4 R):dM bX Tryz.prog AEU AYI 8 87 (BQ a0 m1 m2 m3 m4) R=AF5 a0 m1 m2 m3 m4 R:=by kernel_rfl
abbrev MP:=List (iII×Int)
def D6 {a b:MP} (h:bP a=bP b):a=b:=map_inj (λx y h=>by
 simp only[Prod.mk.injEq,Value.string.injEq,T.v.injEq,Value.int.injEq,true_and] at h;exact Prod.ext h.1 h.2) h
def rJ {x y:aA×MP×MP×MP×MP} (h:QH x.1 x.2.1 x.2.2.1 x.2.2.2.1 x.2.2.2.2=QH y.1 y.2.1 y.2.2.1 y.2.2.2.1 y.2.2.2.2):x=y:=by
 simp only[QH,T.ref.injEq,List.cons.injEq,T.mp.injEq,and_true] at h;obtain ⟨h0,h1,h2,h3,h4⟩:=h;exact Prod.ext (Sy.eU aB _ _ h0) (Prod.ext (D6 h1) (Prod.ext (D6 h2) (Prod.ext (D6 h3) (D6 h4))))
def AEJ (x y:aA×MP×MP×MP×MP) (h:BQ x.1 x.2.1 x.2.2.1 x.2.2.2.1 x.2.2.2.2=BQ y.1 y.2.1 y.2.2.1 y.2.2.2.1 y.2.2.2.2):x=y:=rJ (List.cons.inj h).1
def lV (d:aA):Bool:=decide (64<d.2.1.length)||decide (256<d.2.2.1.length)||decide (256<d.2.2.2.1.length)||decide (64<d.2.2.2.2.1.length)||decide (256<d.2.2.2.2.2.length)
def j8 (d:aA):Bool:=pY (ids d.2.1)&&pY (ids d.2.2.1)&&pY (ids d.2.2.2.1)&&pY (ids d.2.2.2.2.1)&&M0 d.2.2.2.2.2
def BFU (l1 l2 l3 l4:List iII):Bool:=(l2.any (V8 l1))||(l3.any λx=>V8 l1 x||V8 l2 x)||(l4.any λx=>V8 l1 x||V8 l2 x||V8 l3 x)
def AHD (d:aA):Bool:=BFU (ids d.2.1) (ids d.2.2.1) (ids d.2.2.2.1) (ids d.2.2.2.2.1)
def mF (d:aA):Int:=if lV d=true then 4 else if j8 d=false then 11 else if AHD d=true then 7 else 0
def BJZ (x:aA×MP×MP×MP×MP):Bool:=decide (x.2.1=jC (ids x.1.2.1))&&decide (x.2.2.1=jC (ids x.1.2.2.1))&&decide (x.2.2.2.1=jC (ids x.1.2.2.2.1))&&decide (x.2.2.2.2=jC (ids x.1.2.2.2.2.1)) &&
 (decide (x.1.2.1.length<=140737488355328)&&decide (x.1.2.2.1.length<=140737488355328)&&decide (x.1.2.2.2.1.length<=140737488355328)&&decide (x.1.2.2.2.2.1.length<=140737488355328)&&decide (x.1.2.2.2.2.2.length<=140737488355328))
structure nT (d:aA):Prop where
 n:d.2.1.length<=140737488355328
 p:d.2.2.1.length<=140737488355328
 s:d.2.2.2.1.length<=140737488355328
 k:d.2.2.2.2.1.length<=140737488355328
 r:d.2.2.2.2.2.length<=140737488355328
def O2 {x:aA×MP×MP×MP×MP}:BJZ x=true↔x=(x.1,jC (ids x.1.2.1),jC (ids x.1.2.2.1),jC (ids x.1.2.2.2.1),jC (ids x.1.2.2.2.2.1))/\nT x.1:=by
 obtain ⟨d,a,b,c,e⟩:=x;simp only[BJZ,ac,ah,Prod.mk.injEq,true_and];constructor
 ·rintro ⟨⟨⟨⟨rfl,rfl⟩,rfl⟩,rfl⟩,⟨⟨⟨h1,h2⟩,h3⟩,h4⟩,h5⟩;exact ⟨⟨rfl,rfl,rfl,rfl⟩,h1,h2,h3,h4,h5⟩
 ·rintro ⟨⟨rfl,rfl,rfl,rfl⟩,h1,h2,h3,h4,h5⟩;exact ⟨⟨⟨⟨rfl,rfl⟩,rfl⟩,rfl⟩,⟨⟨⟨h1,h2⟩,h3⟩,h4⟩,h5⟩
def wH (x:aA×MP×MP×MP×MP) (t:T):Option T:=match BJZ x with
 | true=>some t
 | false=>none
def oV {x:aA×MP×MP×MP×MP} {t r:T} (h:wH x t=some r):x=(x.1,jC (ids x.1.2.1),jC (ids x.1.2.2.1),jC (ids x.1.2.2.2.1),jC (ids x.1.2.2.2.2.1))/\nT x.1/\r=t:=by
 unfold wH at h;split at h
 ·rename_i hc;cases h;exact ⟨(O2.1 hc).1,(O2.1 hc).2,rfl⟩
 ·cases h
def oW {d:aA} (h:nT d) (t:T):wH (d,jC (ids d.2.1),jC (ids d.2.2.1),jC (ids d.2.2.2.1),jC (ids d.2.2.2.2.1)) t=some t:=by
 unfold wH;rw[O2.2 ⟨rfl,h⟩]
def XM (x:aA×MP×MP×MP×MP):Option T:=wH x (T.v (Value.int .i64 (mF x.1)))
def OF:List T->Option (T):=gA (λ(x:aA×List aG×List aG×List aG×List aG)=>BQ x.1 x.2.1 x.2.2.1 x.2.2.2.1 x.2.2.2.2) XM
def ARP (a0:aA) (m1:List aG) (m2:List aG) (m3:List aG) (m4:List aG):OF (BQ a0 m1 m2 m3 m4)=XM (a0,m1,m2,m3,m4):=dY (A:=(λ(x:aA×List aG×List aG×List aG×List aG)=>BQ x.1 x.2.1 x.2.2.1 x.2.2.2.1 x.2.2.2.2)) AEJ (a0,m1,m2,m3,m4)
def BB8 (h:∀ (a0:aA) (m1:List aG) (m2:List aG) (m3:List aG) (m4:List aG) (r:T),XM (a0,m1,m2,m3,m4)=some r->(∀ t∈BQ a0 m1 m2 m3 m4,Bd t)->AF5 a0 m1 m2 m3 m4 (λy=>y=r)):aO Tryz.prog 87 OF :=
 cE (E:=AEU) (Hs:=AYI) AVX aV aY (aN rfl) 8 ⟨_,_,Tryz.func87,rfl⟩ λx r h1 h2=>by
  rw[APB];exact h x.1 x.2.1 x.2.2.1 x.2.2.2.1 x.2.2.2.2 r h1 h2
def KK {A:List T} {b:Bool} (h:wM A=some (pPR b)) (K:Bool->Prop) (hk:K b):aM [(false,Sy.bool)] (wM A) K:=aK (s:=[(false,Sy.bool)]) (y:=b) h hk
def BAQ:aO Tryz.prog 87 OF:=BB8 λd m1 m2 m3 m4 r h hb=>by
 obtain ⟨hx,hs,rfl⟩:=oV h;simp only[Prod.mk.injEq,true_and] at hx;obtain ⟨rfl,rfl,rfl,rfl⟩:=hx;clear h;have is:∀ {n:Int},mF d=n->T.v (.int .i64 n)=T.v (.int .i64 (mF d)):=λh=>by rw[h]
 have long:lV d=true->mF d=4:=λh=>by unfold mF;rw[if_pos h]
 unfold AF5 i7 f8 H1 GE t7 t6 m8 d7 d5 bF;refine cO (λh=>is (long (by rw[ae] at h;simp only[lV,Bool.or_eq_true,ah];omega))) λl1=>?_;refine cO (λh=>is (long (by rw[ae] at h;simp only[lV,Bool.or_eq_true,ah];omega))) λl2=>?_;refine cO (λh=>is (long (by rw[ae] at h;simp only[lV,Bool.or_eq_true,ah];omega))) λl3=>?_;refine cO (λh=>is (long (by rw[ae] at h;simp only[lV,Bool.or_eq_true,ah];omega))) λl4=>?_;refine cO (λh=>is (long (by rw[ae] at h;simp only[lV,Bool.or_eq_true,ah];omega))) λl5=>?_;rw[ae] at l1 l2 l3 l4 l5;have notLong:lV d=false:=by simp only[lV,Bool.or_eq_false_iff,decide_eq_false_iff_not];omega
 refine KK (by rw[ae];exact BHR hs.n) _ ?_;have step:∀ {b c:Bool} {A:List T} {Z:Bool×PUnit->Prop},wM A=some (T.v (.bool c))->Z (b&&c,())->sA (Bool×PUnit) (λ(X:Bool×PUnit->Prop)=>aD b (aM [(false,Sy.bool)] (wM A) λ(y2:Bool)=>X (y2,())) (X (false,()))) Z:=λ{b c A Z} hA hZ=>by
  rw[zQ];cases b with
  | true=>rw[kH];exact KK hA _ hZ
  | false=>rw[pA];exact hZ
 refine step (by rw[ae];exact BHS hs.p) ?_;refine step (by rw[ae];exact BHT hs.s) ?_;refine step (by rw[ae];exact BHU hs.k) ?_;refine bN d.2.2.2.2.2.length (λk s=>∃ b,s=(b,((k+1:Nat):Int),())/\(b&&M0 (d.2.2.2.2.2.drop k))=j8 d) ⟨_,rfl,by rw[List.drop_zero];rfl⟩ ?_;rintro X k s hk ⟨b,rfl,he⟩ hX;dsimp only;have hr:=hs.r;have hw:i64.wrap (((k+1:Nat):Int)+1)=((k+1+1:Nat):Int):=bB _ (by omega) (by omega);have hw1:i64.wrap (((k+1:Nat):Int)-1)=((k:Nat):Int):=by rw[bB _ (by omega) (by omega)];omega
 refine cO (λhlt=>?_) λhge=>?_
 ·have hlt:k+1<d.2.2.2.2.2.length:=by rw[ae] at hlt;omega
  rw[hw1,bG (r:=a7) (show k<d.2.2.2.2.2.length by omega),bG (r:=a7) hlt,hw];rw[APY hlt] at he;have go:∀ c,(b&&ltN d.2.2.2.2.2[k] d.2.2.2.2.2[k+1])=c->X (c,((k+1+1:Nat):Int),()):=λc hc=>hX _ (by omega) ⟨c,rfl,by rw[<-hc,Bool.and_assoc];exact he⟩;generalize d.2.2.2.2.2[k]=u at go;generalize d.2.2.2.2.2[k+1]=v at go;cases b with
  | false=>rw[pA];exact go _ rfl
  | true =>
   rw[kH];simp only[Bool.true_and,ltN] at go;refine cO (λh=>go _ (by simp[h])) λh1=>?_;refine cO (λh2=>?_) λh2=>go _ (by simp[h1,h2]);refine DQ (λh3=>go _ (by simp[h2,h3])) λh3=>?_;refine cO (λh4=>go _ (by rw[aj h1,ai h2,h3,ai h4];rfl)) λh4=>go _ (by rw[aj h1,ai h2,h3,aj h4];rfl)
 ·rw[ae] at hge;rw[AZH (by omega),Bool.and_true] at he;refine lD (λh=>is (by unfold mF;rw[notLong,if_neg (by simp),<-he,h];rfl)) λh=>?_;have dup:AHD d=true->T.v (.int .i64 7)=T.v (.int .i64 (mF d)):=λh7=>is (by unfold mF;rw[notLong,if_neg (by simp),<-he,h,if_neg (by simp),if_pos h7]);have dup':(∃ i,∃ h:i<(jC (ids d.2.2.1)).length,(jC (ids d.2.2.1))[i].1∈ids d.2.1)\/(∃ i,∃ h:i<(jC (ids d.2.2.2.1)).length,(jC (ids d.2.2.2.1))[i].1∈ids d.2.1\/(jC (ids d.2.2.2.1))[i].1∈ids d.2.2.1)\/(∃ i,∃ h:i<(jC (ids d.2.2.2.2.1)).length,((jC (ids d.2.2.2.2.1))[i].1∈ids d.2.1\/(jC (ids d.2.2.2.2.1))[i].1∈ids d.2.2.1)\/(jC (ids d.2.2.2.2.1))[i].1∈ids d.2.2.2.1)->AHD d=true:=by
   intro h;simp only[AHD,BFU,Bool.or_eq_true,List.any_eq_true,E9];rcases h with ⟨i,hi,h⟩|⟨i,hi,h⟩|⟨i,hi,h⟩
   ·exact .inl (.inl ⟨_,lL.1 ⟨i,hi,rfl⟩,h⟩)
   ·exact .inl (.inr ⟨_,lL.1 ⟨i,hi,rfl⟩,h⟩)
   ·exact .inr ⟨_,lL.1 ⟨i,hi,rfl⟩,h⟩
  have m1:=λid=>(@lL (ids d.2.1) id)
  refine A90 (m:=jC (ids d.2.1)) (es:=[]) (R7:=T.v (.int .i64 7)=T.v (.int .i64 (mF d))) Seen.nil (λh=>by obtain ⟨_,_,h⟩:=h;exact h.elim) λ_=>?_;refine A9O (m:=jC (ids d.2.1)) (es:=[]) Seen.nil λe1 rs1 s1=>?_;have s1:=s1.congr (S':=λid=>id∈ids d.2.1) λid=>by rw[lL];simp
  refine A90 (m:=jC (ids d.2.2.1)) s1 (λh=>dup (dup' (.inl h))) λn1=>?_;refine A9O (m:=jC (ids d.2.2.1)) s1 λe2 rs2 s2=>?_;have s2:=s2.congr (S':=λid=>id∈ids d.2.1\/id∈ids d.2.2.1) λid=>by rw[lL]
  refine A90 (m:=jC (ids d.2.2.2.1)) s2 (λh=>dup (dup' (.inr (.inl h)))) λn2=>?_;refine A9O (m:=jC (ids d.2.2.2.1)) s2 λe3 rs3 s3=>?_;have s3:=s3.congr (S':=λid=>(id∈ids d.2.1\/id∈ids d.2.2.1)\/id∈ids d.2.2.2.1) λid=>by rw[lL]
  refine A90 (m:=jC (ids d.2.2.2.2.1)) s3 (λh=>dup (dup' (.inr (.inr h)))) λn3=>?_;refine A9O (m:=jC (ids d.2.2.2.2.1)) s3 λe4 rs4 s4=>is ?_;have nd:AHD d=false:=by
   rw[Bool.eq_false_iff];intro h;simp only[AHD,BFU,Bool.or_eq_true,List.any_eq_true,E9] at h;rcases h with (⟨x,hx,h⟩|⟨x,hx,h⟩)|⟨x,hx,h⟩
   ·obtain ⟨i,hi,rfl⟩:=lL.2 hx;exact n1 i hi h
   ·obtain ⟨i,hi,rfl⟩:=lL.2 hx;exact n2 i hi h
   ·obtain ⟨i,hi,rfl⟩:=lL.2 hx;exact n3 i hi h
  unfold mF;rw[notLong,if_neg (by simp),<-he,h,if_neg (by simp),nd,if_neg (by simp)]
end Go.Pv
namespace Go.Pv
open Go Go.Proofs IntKind
def BM5:List T->Option T:=λ_=>none
variable {P:Program}
def aO.nil {f:FuncId} (h:∃ fn,P.funcs[f]? = some fn/\(fn.name == "runtime.NumGoroutine")=false/\fn.body.isNone=false):aO P f BM5:=⟨h,λ_ _ _ _ _ _ _ _ h=>by cases h⟩
def AC4 (es:MP):rK (bP es)=List.map (cG Sy.str false (Sy.int IntKind.i64)) es:=by
 unfold rK bP;rw[List.map_map];rfl
def SP {α:Type} (id:iII):∀ (l:List (iII×α)) (i:Nat) (es:MP),(∃ v,fH es id=some v/\fH (HN (ids l) i es) id=some v)\/(fH es id=none/\fH (HN (ids l) i es) id=none/\l.find? (λs=>decide (s.1=id))=none) \/
  (fH es id=none/\∃ k,∃ h:k<l.length,fH (HN (ids l) i es) id=some ((i+k:Nat):Int)/\l.find? (λs=>decide (s.1=id))=some l[k])
 | [],i,es=>by
  cases h:fH es id with
  | none=>exact .inr (.inl ⟨rfl,by simpa [ids,HN] using h,rfl⟩)
  | some v=>exact .inl ⟨v,rfl,by simpa [ids,HN] using h⟩
 | a::l,i,es=>by
  have hs:ids (a::l)=a.1::ids l:=rfl;rw[hs];simp only[HN];have ih:=SP id l (i+1) (match fH es a.1 with|none=>nM es a.1 (i:Int)|some _=>es);by_cases ha:a.1=id
  ·subst ha;cases hc:fH es a.1 with
   | some v =>
    simp only[hc] at ih ⊢;rcases ih with ⟨v',h1,h2⟩|⟨h1,_⟩|⟨h1,_⟩
    ·exact .inl ⟨v',h1,h2⟩
    ·cases h1
    ·cases h1
   | none =>
    simp only[hc] at ih ⊢;have hg:fH (nM es a.1 (i:Int)) a.1=some (i:Int):=by rw[x5];simp
    rw[hg] at ih;rcases ih with ⟨v',h1,h2⟩|⟨h1,_⟩|⟨h1,_⟩
    ·cases h1;exact .inr (.inr ⟨by first|rfl|trivial,0,by simp,by simpa using h2,by simp⟩)
    ·cases h1
    ·cases h1
  ·have hg:fH (match fH es a.1 with|none=>nM es a.1 (i:Int)|some _=>es) id=fH es id:=by
    cases hc:fH es a.1 with
    | none=>simp only[x5,ha,if_false]
    | some v=>rfl
   rw[hg] at ih;rcases ih with ⟨v',h1,h2⟩|⟨h1,h2,h3⟩|⟨h1,k,hk,h2,h3⟩
   ·exact .inl ⟨v',h1,h2⟩
   ·exact .inr (.inl ⟨h1,h2,by rw[List.find?_cons_of_neg (by simpa using ha)];exact h3⟩)
   ·exact .inr (.inr ⟨h1,k+1,by simpa using hk,h2.trans (by congr 2;omega),by rw[List.find?_cons_of_neg (by simpa using ha)];simpa using h3⟩)
variable {α:Type}
def x6 (id:iII) (l:List (iII×α)):(fH (jC (ids l)) id=none/\l.find? (λs=>decide (s.1=id))=none)\/(∃ k,∃ h:k<l.length,fH (jC (ids l)) id=some (k:Int)/\l.find? (λs=>decide (s.1=id))=some l[k]):=by
 rcases SP id l 0 [] with ⟨v,h,_⟩|⟨_,h1,h2⟩|⟨_,k,hk,h1,h2⟩
 ·cases h
 ·exact .inl ⟨h1,h2⟩
 ·exact .inr ⟨k,hk,h1.trans (by rw[Nat.zero_add]),h2⟩
variable {A:Prop}
def ixK {id:iII} {l:List (iII×α)} {B:Nat->Int->Prop} (hA:l.find? (λs=>decide (s.1=id))=none->A) (hB:∀ i k (h:k<l.length),l.find? (λs=>decide (s.1=id))=some l[k]->B i (k:Int)) :
  iI TypeDesc.string (Value.string id) (rK (bP (jC (ids l)))) false (Sy.int IntKind.i64) A B:=by
 rw[AC4];refine zD (r:=.int .i64) (λh=>hA ?_) λi v h=>?_
 ·rcases x6 id l with ⟨_,h2⟩|⟨k,hk,h1,_⟩
  ·exact h2
  ·rw[h] at h1;cases h1
 ·rcases x6 id l with ⟨h1,_⟩|⟨k,hk,h1,h2⟩
  ·rw[h] at h1;cases h1
  ·rw[h] at h1;cases h1;exact hB i k hk h2
def mO (a0:aA) (m1:List aG) (m2:List aG) (m3:List aG) (m4:List aG) (a5:iII):List T:=[QH a0 m1 m2 m3 m4,pPQ a5]
def LP:Env:=Env.of []
def ZO:FuncId->Hint:=cF 260 [(3,.inv [.val 1 false .str,.own 6 1 .str,.val 9 false (.int .i64)])] (λ_=>a6)
def AFR:aR Tryz.prog LP:=.nil _
def MG(a0:aA)(m1:List aG)(m2:List aG)(m3:List aG)(m4:List aG)(a5:iII)(R:T->Prop):Prop:=a8 (iII×List iII×Int×PUnit) (λX0 s1=>aD (decide (s1.2.2.1<65)) (iI TypeDesc.string (Value.string s1.1) (rK (bP m1)) false bF (R (T.bY [T.sl false [],pPR false])) λ(i2:Nat) (y3:Int)=>aX bC (t7 a0) y3 λ(y4:fQ)=>b7 (decide (((List.map Sy.str.enc s1.2.1).length+1)*16<=140737488355328) && decide ((List.map Sy.str.enc s1.2.1).length+1<=140737488355328)) (aD (decide (y4.2.1=1)) (R (T.bY [T.sl false (List.map Sy.str.enc s1.2.1++[[pPQ s1.1]]), pPR true])) (iT Sy.str (List.map Sy.str.enc s1.2.1++[[pPQ s1.1]]) λ(y5:List iII)=>X0 (y4.2.2,y5,i64.wrap (s1.2.2.1+1),())))) (R (T.bY [T.sl false [],pPR false]))) (a5,[],0,())
def ZE ( a0 m1 m2 m3 m4 a5 R):dM bX Tryz.prog LP ZO 8 128 (mO a0 m1 m2 m3 m4 a5) R=MG a0 m1 m2 m3 m4 a5 R:=by kernel_rfl
def DS (x y:aA×MP×MP×MP×MP×iII) (h:mO x.1 x.2.1 x.2.2.1 x.2.2.2.1 x.2.2.2.2.1 x.2.2.2.2.2=mO y.1 y.2.1 y.2.2.1 y.2.2.2.1 y.2.2.2.2.1 y.2.2.2.2.2):x=y:=by
 obtain ⟨h1,h2⟩:=List.cons.inj h;have:=rJ (x:=(x.1,x.2.1,x.2.2.1,x.2.2.2.1,x.2.2.2.2.1)) (y:=(y.1,y.2.1,y.2.2.1,y.2.2.2.1,y.2.2.2.2.1)) h1;simp only[List.cons.injEq,T.v.injEq,Value.string.injEq,and_true] at h2;simp only[Prod.mk.injEq] at this;obtain ⟨e1,e2,e3,e4,e5⟩:=this;exact Prod.ext e1 (Prod.ext e2 (Prod.ext e3 (Prod.ext e4 (Prod.ext e5 h2))))
def IZ (x:aA×MP×MP×MP×MP×iII):Option T:=wH (x.1,x.2.1,x.2.2.1,x.2.2.2.1,x.2.2.2.2.1) (Sh.enc [(false,.li .str),(false,.bool)] (up x.1 x.2.2.2.2.2))
def lJ:List T->Option (T):=gA (λ(x:aA×List aG×List aG×List aG×List aG×iII)=>mO x.1 x.2.1 x.2.2.1 x.2.2.2.1 x.2.2.2.2.1 x.2.2.2.2.2) IZ
def ACI (a0:aA) (m1:List aG) (m2:List aG) (m3:List aG) (m4:List aG) (a5:iII):lJ (mO a0 m1 m2 m3 m4 a5)=IZ (a0,m1,m2,m3,m4,a5):=dY (A:=(λ(x:aA×List aG×List aG×List aG×List aG×iII)=>mO x.1 x.2.1 x.2.2.1 x.2.2.2.1 x.2.2.2.2.1 x.2.2.2.2.2)) DS (a0,m1,m2,m3,m4,a5)
def ATB (h:∀ (a0:aA) (m1:List aG) (m2:List aG) (m3:List aG) (m4:List aG) (a5:iII) (r:T),IZ (a0,m1,m2,m3,m4,a5)=some r->(∀ t∈mO a0 m1 m2 m3 m4 a5,Bd t)->MG a0 m1 m2 m3 m4 a5 (λy=>y=r)):aO Tryz.prog 128 lJ :=
 cE (E:=LP) (Hs:=ZO) AFR aV aY (aN rfl) 8 ⟨_,_,Tryz.func128,rfl⟩ λx r h1 h2=>by
  rw[ZE];exact h x.1 x.2.1 x.2.2.1 x.2.2.2.1 x.2.2.2.2.1 x.2.2.2.2.2 r h1 h2
def SD:aO Tryz.prog 128 lJ:=ATB λd m1 m2 m3 m4 id0 r h hb=>by
 obtain ⟨hx,hs,rfl⟩:=oV h;simp only[Prod.mk.injEq,true_and] at hx;obtain ⟨rfl,rfl,rfl,rfl⟩:=hx;clear h;unfold MG t7 bF;refine bN 65 (λk s=>∃ id' l',s=(id',l',(k:Int),())/\l'.length=k/\upF d (65-k) id' l'=up d id0) ⟨id0,[],rfl,rfl,rfl⟩ ?_;rintro X k s hk ⟨id',l',rfl,hl,hu⟩ hX;dsimp only;have stop:up d id0=([],false)->T.bY [T.sl false [],T.v (.bool false)]=Sh.enc [(false,.li .str),(false,.bool)] (up d id0):=λh=>by rw[h];rfl
 refine cO (λhlt=>?_) λhge=>stop ?_
 ·have hlt:k<65:=by omega
  obtain ⟨m,hm⟩:∃ m,65-k=m+1:=⟨64-k,by omega⟩
  rw[hm] at hu;simp only[upF] at hu;refine ixK (λhn=>stop ?_) λi j hj hn=>?_
  ·have hn:dR d id'=none:=hn;rw[hn] at hu;exact hu.symm
  ·have hn:dR d id'=some d.2.1[j]:=hn;simp only[hn] at hu;rw[bG (r:=bC) hj,AZD (by omega),AAE];refine cO (λh1=>?_) λh1=>?_
   ·rw[if_pos h1] at hu;rw[<-hu,A0C];rfl
   ·rw[if_neg h1] at hu;exact hX _ hlt ⟨_,_,by rw[show i64.wrap ((k:Int)+1)=((k+1:Nat):Int) from bB _ (by omega) (by omega)],by simp[hl],by rw[<-hu];congr 1;omega⟩
 ·have:65-k=0:=by omega
  rw[this] at hu;exact hu.symm
def nP (d:aA) (n:fQ):Int:=if oS n.1=false then 6 else if ¬ n.2.1=1/\¬ n.2.1=2 then 10 else if n.2.1=1/\¬ n.2.2 = { data:=#[] } then 2 else if n.2.1=2/\(dR d n.2.2).isNone=true then 8 else 0
def Q4 (d:aA):Bool:=d.2.1.any λn=>!(up d n.1).2
def RU (d:aA):Bool:=d.2.1.any λn=>decide (8<(up d n.1).1.length)
def iV (d:aA):Int:=if b6 (nP d) d.2.1=0 then (if Q4 d=true then 20 else if RU d=true then 13 else 0) else b6 (nP d) d.2.1
def qN (a0:aA) (m1:List aG) (m2:List aG) (m3:List aG) (m4:List aG):List T:=[QH a0 m1 m2 m3 m4]
def LK:Env:=Env.of [(64,.pure eW),(128,.pure lJ)]
def ZH:FuncId->Hint:=cF 88 [(2,.inv [.val 20 false (.int .i64)]),(16,.inv [.val 7 false .bool,.val 74 false (.int .i64)])] (λ_=>a6)
def AE4:aR Tryz.prog LK:=.cons zH (.cons SD (.nil _))
def m9(R:T->Prop):Prop:=R (pPP 8)
def BOV(R:T->Prop):Prop:=R (pPP 2)
def BOW:T:=pPP 10
def BOY(R:T->Prop):Prop:=R (pPP 6)
def BO2(R:T->Prop):Prop:=R (pPP 0)
def BO4(y2:fQ)(R:T->Prop)(X0:Int×PUnit->Prop)(s1:Int×PUnit):Prop:=aD (decide (y2.2.1=1)) (aD (!decide (y2.2.2 = {data:=#[]})) (BOV R) (aD (decide (y2.2.1=2)) (g9 X0 s1) (g9 X0 s1))) (aD (decide (y2.2.1=2)) (g9 X0 s1) (g9 X0 s1))
def BO7(y2:fQ)(R:T->Prop)(X0:Int×PUnit->Prop)(s1:Int×PUnit):Prop:=aD (decide (y2.2.1=1)) (aD (!decide (y2.2.2 = {data:=#[]})) (BOV R) (aD (decide (y2.2.1=2)) (m9 R) (g9 X0 s1))) (aD (decide (y2.2.1=2)) (m9 R) (g9 X0 s1))
def LR(a0:aA)(m1:List aG)(m2:List aG)(m3:List aG)(m4:List aG)(R:T->Prop):Prop:=a8 (Int×PUnit) (λX0 s1=>aD (decide (s1.1<(↑(t7 a0).length:Int))) (aX bC (t7 a0) s1.1 λ(y2:fQ)=>iI TypeDesc.string (Value.string y2.2.2) (rK (bP m1)) false bF (aM d5 (eW [pPQ y2.1]) λ(y6:Bool)=>aD (!y6) (BOY R) (aD (!decide (y2.2.1=1)) (aD (!decide (y2.2.1=2)) (R BOW) (BO7 y2 R X0 s1)) (BO7 y2 R X0 s1))) λ(i3:Nat) (y4:Int)=>aM d5 (eW [pPQ y2.1]) λ(y5:Bool)=>aD (!y5) (BOY R) (aD (!decide (y2.2.1=1)) (aD (!decide (y2.2.1=2)) (R BOW) (BO4 y2 R X0 s1)) (BO4 y2 R X0 s1))) (a8 (Bool×Int×PUnit) (λX7 s8=>aD (decide (s8.2.1<(↑(t7 a0).length:Int))) (aX bC (t7 a0) s8.2.1 λ(y9:fQ)=>aM [(false,Sy.str.li),(false,Sy.bool)] (lJ [T.ref [T.ref (i7 a0), T.mp (bP m1),T.mp (bP m2),T.mp (bP m3), T.mp (bP m4)], pPQ y9.1]) λ(y10:List iII×Bool)=>aD (!y10.2) (R (pPP 20)) (aD s8.1 (X7 (true,i64.wrap (s8.2.1+1),())) (X7 (decide (8<(↑(List.map Sy.str.enc y10.1).length:Int)), i64.wrap (s8.2.1+1),())))) (aD s8.1 (R (pPP 13)) (BO2 R))) (false,0,()))) (0,())
def Y9 ( a0 m1 m2 m3 m4 R):dM bX Tryz.prog LK ZH 8 88 (qN a0 m1 m2 m3 m4) R=LR a0 m1 m2 m3 m4 R:=by kernel_rfl
def TY (x y:aA×MP×MP×MP×MP) (h:qN x.1 x.2.1 x.2.2.1 x.2.2.2.1 x.2.2.2.2=qN y.1 y.2.1 y.2.2.1 y.2.2.2.1 y.2.2.2.2):x=y:=rJ (List.cons.inj h).1
def IM (x:aA×MP×MP×MP×MP):Option T:=wH x (T.v (Value.int .i64 (iV x.1)))
def xK:List T->Option (T):=gA (λ(x:aA×List aG×List aG×List aG×List aG)=>qN x.1 x.2.1 x.2.2.1 x.2.2.2.1 x.2.2.2.2) IM
def AA0 (a0:aA) (m1:List aG) (m2:List aG) (m3:List aG) (m4:List aG):xK (qN a0 m1 m2 m3 m4)=IM (a0,m1,m2,m3,m4):=dY (A:=(λ(x:aA×List aG×List aG×List aG×List aG)=>qN x.1 x.2.1 x.2.2.1 x.2.2.2.1 x.2.2.2.2)) TY (a0,m1,m2,m3,m4)
def ASO (h:∀ (a0:aA) (m1:List aG) (m2:List aG) (m3:List aG) (m4:List aG) (r:T),IM (a0,m1,m2,m3,m4)=some r->(∀ t∈qN a0 m1 m2 m3 m4,Bd t)->LR a0 m1 m2 m3 m4 (λy=>y=r)):aO Tryz.prog 88 xK :=
 cE (E:=LK) (Hs:=ZH) AE4 aV aY (aN rfl) 8 ⟨_,_,Tryz.func88,rfl⟩ λx r h1 h2=>by
  rw[Y9];exact h x.1 x.2.1 x.2.2.1 x.2.2.2.1 x.2.2.2.2 r h1 h2
def JF {d:aA} (hs:nT d) (id:iII):lJ (mO d (jC (ids d.2.1)) (jC (ids d.2.2.1)) (jC (ids d.2.2.2.1)) (jC (ids d.2.2.2.2.1)) id)=some (Sh.enc [(false,.li .str),(false,.bool)] (up d id)):=by
 rw[ACI];exact oW hs _
def nY (s:iII) (K:Bool->Prop):aM [(false,Sy.bool)] (eW [pPQ s]) K=K (oS s):=by
 rw[show eW [pPQ s]=FT s from HA];exact ADQ _ K
def AQS:aO Tryz.prog 88 xK:=ASO λd m1 m2 m3 m4 r h hb=>by
 obtain ⟨hx,hs,rfl⟩:=oV h;simp only[Prod.mk.injEq,true_and] at hx;obtain ⟨rfl,rfl,rfl,rfl⟩:=hx;clear h;have is:∀ {n:Int},iV d=n->T.v (.int .i64 n)=T.v (.int .i64 (iV d)):=λh=>by rw[h]
 unfold LR BO7 BO4 BO2 i7 g9 BOY BOW BOV m9 H1 GE t7 t6 m8 d5 bF;refine qU (r:=bC) (nP d) hs.n (λX s y hy hok hbad=>?_) λh0=>?_
 ·have bad:∀ {n:Int},n≠0->nP d y=n->T.v (.int .i64 n)=T.v (.int .i64 (iV d)):=λhn h=>is (by
   have:=hbad (by rw[h];exact hn);unfold iV;rw[if_neg (by rw[this,h];exact hn),this,h])
  have tail:∀ {Z2 Z:Prop},oS y.1=true->(y.2.1=2->Z2)->(nP d y=0->Z) ->
   aD (!decide (y.2.1=1))
        (aD (!decide (y.2.1=2)) (T.v (.int .i64 10)=T.v (.int .i64 (iV d)))
         (aD (decide (y.2.1=1))
          (aD (!decide (y.2.2 = { data:=#[] })) (T.v (.int .i64 2)=T.v (.int .i64 (iV d)))
           (aD (decide (y.2.1=2)) Z2 Z))
          (aD (decide (y.2.1=2)) Z2 Z)))
        (aD (decide (y.2.1=1))
         (aD (!decide (y.2.2 = { data:=#[] })) (T.v (.int .i64 2)=T.v (.int .i64 (iV d)))
          (aD (decide (y.2.1=2)) Z2 Z))
         (aD (decide (y.2.1=2)) Z2 Z)):=by
   intro Z2 Z hid h2 h1;refine lK (λg1=>?_) λg1=>?_
   ·refine lK (λg2=>bad (by decide) (by unfold nP;rw[if_neg (by simp[hid]),if_pos ⟨g1,g2⟩])) λg2=>?_;refine cO (λh=>absurd h g1) λ_=>?_;exact cO (λ_=>h2 g2) λh=>absurd g2 h
   ·refine cO (λ_=>?_) λh=>absurd g1 h;refine lK (λg3=>bad (by decide) (by unfold nP;rw[if_neg (by simp[hid]),if_neg (by simp[g1]),if_pos ⟨g1,g3⟩])) λg3=>?_;exact cO (λh=>by rw[g1] at h;cases h) λh=>h1 (by unfold nP;rw[if_neg (by simp[hid]),if_neg (by simp[g1]),if_neg (by simp[g3]),if_neg (by simp[h])])
  refine ixK (λhn=>?_) λi j hj hn=>?_
  ·have hn:dR d y.2.2=none:=hn;rw[nY];refine lD (λhid=>bad (by decide) (by unfold nP;rw[if_pos hid])) λhid=>?_;refine tail hid (λh2=>bad (by decide) ?_) λh0=>hok h0;unfold nP;rw[if_neg (by simp[hid]),if_neg (by simp[h2]),if_neg (by simp[h2]),if_pos ⟨h2,by rw[hn];rfl⟩]
  ·have hn:dR d y.2.2=some d.2.1[j]:=hn;rw[nY];refine lD (λhid=>bad (by decide) (by unfold nP;rw[if_pos hid])) λhid=>?_;refine tail hid (λh2=>hok ?_) λh0=>hok h0;unfold nP;rw[if_neg (by simp[hid]),if_neg (by simp[h2]),if_neg (by simp[h2]),if_neg (by simp[hn])]
 ·have hn:d.2.1.length<=140737488355328:=hs.n;refine bN d.2.1.length (λk s=>s=((d.2.1.take k).any (λn=>decide (8<(up d n.1).1.length)),(k:Int),())/\∀ n∈d.2.1.take k,(up d n.1).2=true) ⟨rfl,by simp⟩ ?_;rintro X k s hk ⟨rfl,hall⟩ hX;dsimp only;refine cO (λhlt=>?_) λhge=>?_
  ·rw[ae] at hlt;have hlt:k<d.2.1.length:=by omega
   rw[bG (r:=bC) hlt];refine aK (s:=[(false,.li .str),(false,.bool)]) (JF hs d.2.1[k].1) ?_;have ht:d.2.1.take (k+1)=d.2.1.take k++[d.2.1[k]]:=List.take_succ_eq_append_getElem hlt;have hw:i64.wrap ((k:Int)+1)=((k+1:Nat):Int):=bB _ (by omega) (by omega);refine lD (λhu=>is ?_) λhu=>?_
   ·unfold iV;rw[if_pos h0,if_pos (show Q4 d=true from List.any_eq_true.2 ⟨_,ak hlt,by rw[hu];rfl⟩)]
   ·have hall':∀ n∈d.2.1.take (k+1),(up d n.1).2=true:=λn hm=>by
     rw[ht] at hm;rcases List.mem_append.1 hm with h|h
     ·exact hall n h
     ·simp at h;subst h;exact hu
    refine DQ (λhd=>?_) λhd=>?_
    ·refine hX _ hlt ⟨?_,hall'⟩;rw[hw,ht,List.any_append,hd];rfl
    ·refine hX _ hlt ⟨?_,hall'⟩;rw[hw,ht,List.any_append,hd];simp only[ae,List.any_cons,List.any_nil,Bool.or_false,Bool.false_or,Prod.mk.injEq,and_true]
     congr 1
     exact propext ⟨λh=>by omega,λh=>by omega⟩
  ·rw[ae] at hge;have:k=d.2.1.length:=by omega
   subst this;rw[List.take_length] at hall ⊢;have hnu:Q4 d=false:=by
    rw[Bool.eq_false_iff];intro h;obtain ⟨n,hm,h⟩:=List.any_eq_true.1 h;rw[hall n hm] at h;cases h
   refine DQ (λh=>is ?_) λh=>is ?_
   ·unfold iV;rw[if_pos h0,hnu,if_neg (by simp),if_pos (show RU d=true from h)]
   ·unfold iV;rw[if_pos h0,hnu,if_neg (by simp),if_neg (by rw[show RU d=false from h];simp)]
end Go.Pv
namespace Go.Pv
open Go Go.Proofs IntKind
def nS (d:aA) (s:iH):Int:=if oS s.1=false\/oS s.2.1=false\/oS s.2.2.1=false then 6 else if s.2.1=s.2.2.1 then 2 else if ¬ s.2.2.2.1=1/\¬ s.2.2.2.1=2 then 10 else if s.2.2.2.2.1<1\/32768<s.2.2.2.2.1\/s.2.2.2.2.2<1\/3<s.2.2.2.2.2 then 9 else if (partOf d s.2.1).isNone=true\/(partOf d s.2.2.1).isNone=true then 8 else 0
def qO (a0:aA) (m1:List aG) (m2:List aG) (m3:List aG) (m4:List aG):List T:=[QH a0 m1 m2 m3 m4]
def LL:Env:=Env.of [(64,.pure eW)]
def ZI:FuncId->Hint:=cF 90 [(2,.inv [.val 17 false (.int .i64)])] (λ_=>a6)
def AE5:aR Tryz.prog LL:=.cons zH (.nil _)
def t8(R:T->Prop):Prop:=R (pPP 9)
def AIG(y2:iH)(R:T->Prop):Prop:=aD (decide (y2.2.2.2.2.1<1)) (t8 R) (aD (decide (32768<y2.2.2.2.2.1)) (t8 R) (aD (decide (y2.2.2.2.2.2<1)) (t8 R) (aD (decide (3<y2.2.2.2.2.2)) (t8 R) (m9 R))))
def f9(y2:iH)(R:T->Prop):Prop:=aM d5 (eW [pPQ y2.1]) λ(y15:Bool)=>aD (!y15) (BOY R) (aM d5 (eW [pPQ y2.2.1]) λ(y16:Bool)=>aD (!y16) (BOY R) (aM d5 (eW [pPQ y2.2.2.1]) λ(y17:Bool)=>aD (!y17) (BOY R) (aD (decide (y2.2.1=y2.2.2.1)) (BOV R) (aD (!decide (y2.2.2.2.1=1)) (aD (!decide (y2.2.2.2.1=2)) (R BOW) (AIG y2 R)) (AIG y2 R)))))
def BO3(y2:iH)(R:T->Prop)(X0:Int×PUnit->Prop)(s1:Int×PUnit):Prop:=aD (decide (y2.2.2.2.2.1<1)) (t8 R) (aD (decide (32768<y2.2.2.2.2.1)) (t8 R) (aD (decide (y2.2.2.2.2.2<1)) (t8 R) (aD (decide (3<y2.2.2.2.2.2)) (t8 R) (g9 X0 s1))))
def LS(a0:aA)(m1:List aG)(m2:List aG)(m3:List aG)(m4:List aG)(R:T->Prop):Prop:=a8 (Int×PUnit) (λX0 s1=>aD (decide (s1.1<(↑(t6 a0).length:Int))) (aX bI (t6 a0) s1.1 λ(y2:iH)=>iI TypeDesc.string (Value.string y2.2.1) (rK (bP m2)) false bF (iI TypeDesc.string (Value.string y2.2.2.1) (rK (bP m2)) false bF (f9 y2 R) λ(i13:Nat) (y14:Int)=>f9 y2 R) λ(i3:Nat) (y4:Int)=>iI TypeDesc.string (Value.string y2.2.2.1) (rK (bP m2)) false bF (f9 y2 R) λ(i5:Nat) (y6:Int)=>aM d5 (eW [pPQ y2.1]) λ(y7:Bool)=>aD (!y7) (BOY R) (aM d5 (eW [pPQ y2.2.1]) λ(y8:Bool)=>aD (!y8) (BOY R) (aM d5 (eW [pPQ y2.2.2.1]) λ(y9:Bool)=>aD (!y9) (BOY R) (aD (decide (y2.2.1=y2.2.2.1)) (BOV R) (aD (!decide (y2.2.2.2.1=1)) (aD (!decide (y2.2.2.2.1=2)) (R BOW) (BO3 y2 R X0 s1)) (BO3 y2 R X0 s1)))))) (BO2 R)) (0,())
def ZA ( a0 m1 m2 m3 m4 R):dM bX Tryz.prog LL ZI 8 90 (qO a0 m1 m2 m3 m4) R=LS a0 m1 m2 m3 m4 R:=by kernel_rfl
def TZ (x y:aA×MP×MP×MP×MP) (h:qO x.1 x.2.1 x.2.2.1 x.2.2.2.1 x.2.2.2.2=qO y.1 y.2.1 y.2.2.1 y.2.2.2.1 y.2.2.2.2):x=y:=rJ (List.cons.inj h).1
def IP (x:aA×MP×MP×MP×MP):Option T:=wH x (T.v (Value.int .i64 (b6 (nS x.1) x.1.2.2.2.1)))
def xL:List T->Option (T):=gA (λ(x:aA×List aG×List aG×List aG×List aG)=>qO x.1 x.2.1 x.2.2.1 x.2.2.2.1 x.2.2.2.2) IP
def AA1 (a0:aA) (m1:List aG) (m2:List aG) (m3:List aG) (m4:List aG):xL (qO a0 m1 m2 m3 m4)=IP (a0,m1,m2,m3,m4):=dY (A:=(λ(x:aA×List aG×List aG×List aG×List aG)=>qO x.1 x.2.1 x.2.2.1 x.2.2.2.1 x.2.2.2.2)) TZ (a0,m1,m2,m3,m4)
def ASP (h:∀ (a0:aA) (m1:List aG) (m2:List aG) (m3:List aG) (m4:List aG) (r:T),IP (a0,m1,m2,m3,m4)=some r->(∀ t∈qO a0 m1 m2 m3 m4,Bd t)->LS a0 m1 m2 m3 m4 (λy=>y=r)):aO Tryz.prog 90 xL :=
 cE (E:=LL) (Hs:=ZI) AE5 aV aY (aN rfl) 8 ⟨_,_,Tryz.func90,rfl⟩ λx r h1 h2=>by
  rw[ZA];exact h x.1 x.2.1 x.2.2.1 x.2.2.2.1 x.2.2.2.2 r h1 h2
def AQT:aO Tryz.prog 90 xL:=ASP λd m1 m2 m3 m4 r h hb=>by
 obtain ⟨hx,hs,rfl⟩:=oV h;simp only[Prod.mk.injEq,true_and] at hx;obtain ⟨rfl,rfl,rfl,rfl⟩:=hx;replace hs:nT d:=hs;clear h;unfold LS BO3 BO2 g9 f9 BOY BOW BOV AIG t8 m9 t6 d5 bF;refine qU (r:=bI) (nS d) hs.s (λX s y hy hok hbad=>?_) λh0=>?_
 ·have bad:∀ {n:Int},n≠0->nS d y=n->pPP n=pPP (b6 (nS d) d.2.2.2.1):=λhn h=>by
   rw[hbad (by rw[h];exact hn),h]
  clear hbad hb
  repeat' first
   | refine ixK (λhn=>?_) (λi j hj hn=>?_)
   | rw[nY]
   | refine lK (λh=>?_) (λh=>?_)
   | refine cO (λh=>?_) (λh=>?_)
   | refine lD (λh=>?_) (λh=>?_)
  all_goals first
   | (exfalso;omega)
   | (refine bad (by decide) ?_;clear bad hok;unfold nS;simp[*,partOf,eK];done)
   | (refine hok ?_;clear bad hok;unfold nS;simp[*,partOf,eK];done)
 ·show _=pPP (b6 (nS d) d.2.2.2.1);rw[h0]
def rP (a0:aA) (m1:List aG) (m2:List aG) (m3:List aG) (m4:List aG) (a5:iII):List T:=[QH a0 m1 m2 m3 m4,pPQ a5]
def T5:Env:=Env.of []
def ALC:FuncId->Hint:=λ_=>a6
def AOU:aR Tryz.prog T5:=.nil _
def UD(a0:aA)(m1:List aG)(m2:List aG)(m3:List aG)(m4:List aG)(a5:iII)(R:T->Prop):Prop:=iI TypeDesc.string (Value.string a5) (rK (bP m1)) false bF (R d4) λ(i0:Nat) (y1:Int)=>aX bC (t7 a0) y1 λ(y2:fQ)=>R (pPR (decide (y2.2.1=1)))
def AF6 ( a0 m1 m2 m3 m4 a5 R):dM bX Tryz.prog T5 ALC 8 131 (rP a0 m1 m2 m3 m4 a5) R=UD a0 m1 m2 m3 m4 a5 R:=by kernel_rfl
def oR (d:aA) (id:iII):Bool:=match dR d id with
 | some n=>decide (n.2.1=1)
 | none=>false
def YS (x y:aA×MP×MP×MP×MP×iII) (h:rP x.1 x.2.1 x.2.2.1 x.2.2.2.1 x.2.2.2.2.1 x.2.2.2.2.2=rP y.1 y.2.1 y.2.2.1 y.2.2.2.1 y.2.2.2.2.1 y.2.2.2.2.2):x=y:=DS x y h
def P7 (x:aA×MP×MP×MP×MP×iII):Option T:=wH (x.1,x.2.1,x.2.2.1,x.2.2.2.1,x.2.2.2.2.1) (pPR (oR x.1 x.2.2.2.2.2))
def iJ:List T->Option (T):=gA (λ(x:aA×List aG×List aG×List aG×List aG×iII)=>rP x.1 x.2.1 x.2.2.1 x.2.2.2.1 x.2.2.2.2.1 x.2.2.2.2.2) P7
def AH4 (a0:aA) (m1:List aG) (m2:List aG) (m3:List aG) (m4:List aG) (a5:iII):iJ (rP a0 m1 m2 m3 m4 a5)=P7 (a0,m1,m2,m3,m4,a5):=dY (A:=(λ(x:aA×List aG×List aG×List aG×List aG×iII)=>rP x.1 x.2.1 x.2.2.1 x.2.2.2.1 x.2.2.2.2.1 x.2.2.2.2.2)) YS (a0,m1,m2,m3,m4,a5)
def A4J (h:∀ (a0:aA) (m1:List aG) (m2:List aG) (m3:List aG) (m4:List aG) (a5:iII) (r:T),P7 (a0,m1,m2,m3,m4,a5)=some r->(∀ t∈rP a0 m1 m2 m3 m4 a5,Bd t)->UD a0 m1 m2 m3 m4 a5 (λy=>y=r)):aO Tryz.prog 131 iJ :=
 cE (E:=T5) (Hs:=ALC) AOU aV aY (aN rfl) 8 ⟨_,_,Tryz.func131,rfl⟩ λx r h1 h2=>by
  rw[AF6];exact h x.1 x.2.1 x.2.2.1 x.2.2.2.1 x.2.2.2.2.1 x.2.2.2.2.2 r h1 h2
def AAQ:aO Tryz.prog 131 iJ:=A4J λd m1 m2 m3 m4 id0 r h hb=>by
 obtain ⟨hx,hs,rfl⟩:=oV h;simp only[Prod.mk.injEq,true_and] at hx;obtain ⟨rfl,rfl,rfl,rfl⟩:=hx;replace hs:nT d:=hs;clear h;unfold UD t7 d4 bF;refine ixK (λhn=>?_) λi j hj hn=>?_
 ·have hn:dR d id0=none:=hn;show _=pPR (oR d id0);unfold oR;rw[hn]
 ·have hn:dR d id0=some d.2.1[j]:=hn;rw[bG (r:=bC) hj];show _=pPR (oR d id0);unfold oR;rw[hn]
def OG {d:aA} (hs:nT d) (id:iII):iJ (rP d (jC (ids d.2.1)) (jC (ids d.2.2.1)) (jC (ids d.2.2.2.1)) (jC (ids d.2.2.2.2.1)) id)=some (Sh.enc [(false,.bool)] (oR d id)):=by
 rw[AH4];exact oW hs _
def rD (d:aA) (x:cM):Int:=if x.1<1\/3<x.1 then 10 else if x.2.2=x.2.1 then 2 else if oR d x.2.1=false then 8 else if (x.1=1/\¬ x.2.2 = { data:=#[] }/\oR d x.2.2=false)\/(x.1=2/\oR d x.2.2=false)\/(x.1=3/\(eK d x.2.2).isNone=true) then 8 else 0
def qM (a0:aA) (m1:List aG) (m2:List aG) (m3:List aG) (m4:List aG):List T:=[QH a0 m1 m2 m3 m4]
def LJ:Env:=Env.of [(131,.pure iJ)]
def ZG:FuncId->Hint:=cF 92 [(2,.inv [.val 15 false (.int .i64)])] (λ_=>a6)
def AE3:aR Tryz.prog LJ:=.cons AAQ (.nil _)
def v6(a0:aA)(m1:List aG)(m2:List aG)(m3:List aG)(m4:List aG)(y2:cM):List T:=[T.ref [T.ref (f8 a0), T.mp (bP m1),T.mp (bP m2),T.mp (bP m3), T.mp (bP m4)], pPQ y2.2.2]
def BO0(y2:cM)(X0:Int×PUnit->Prop)(s1:Int×PUnit):Prop:=aD (decide (y2.1=3)) (g9 X0 s1) (g9 X0 s1)
def BPB(y2:cM)(R:T->Prop)(X0:Int×PUnit->Prop)(s1:Int×PUnit):Prop:=aD (decide (y2.1=3)) (m9 R) (g9 X0 s1)
def LQ(a0:aA)(m1:List aG)(m2:List aG)(m3:List aG)(m4:List aG)(R:T->Prop):Prop:=a8 (Int×PUnit) (λX0 s1=>aD (decide (s1.1<(↑(GE a0).length:Int))) (aX a7 (GE a0) s1.1 λ(y2:cM)=>iI TypeDesc.string (Value.string y2.2.2) (rK (bP m4)) false bF (aD (decide (y2.1<1)) (R BOW) (aD (decide (3<y2.1)) (R BOW) (aD (decide (y2.2.2=y2.2.1)) (BOV R) (aM d5 (iJ [T.ref [T.ref (i7 a0), T.mp (bP m1),T.mp (bP m2),T.mp (bP m3), T.mp (bP m4)], pPQ y2.2.1]) λ(y10:Bool)=>aD (!y10) (m9 R) (aD (decide (y2.1=1)) (aD (!decide (y2.2.2 = {data:=#[]})) (aM d5 (iJ (v6 a0 m1 m2 m3 m4 y2)) λ(y11:Bool)=>aD (!y11) (m9 R) (aD (decide (y2.1=2)) (aM d5 (iJ [T.ref [T.ref (f8 a0), T.mp (bP m1),T.mp (bP m2), T.mp (bP m3),T.mp (bP m4)], pPQ y2.2.2]) λ(y12:Bool)=>aD (!y12) (m9 R) (BPB y2 R X0 s1)) (BPB y2 R X0 s1))) (aD (decide (y2.1=2)) (aM d5 (iJ (v6 a0 m1 m2 m3 m4 y2)) λ(y13:Bool)=>aD (!y13) (m9 R) (BPB y2 R X0 s1)) (BPB y2 R X0 s1))) (aD (decide (y2.1=2)) (aM d5 (iJ (v6 a0 m1 m2 m3 m4 y2)) λ(y14:Bool)=>aD (!y14) (m9 R) (BPB y2 R X0 s1)) (BPB y2 R X0 s1))))))) λ(i3:Nat) (y4:Int)=>aD (decide (y2.1<1)) (R BOW) (aD (decide (3<y2.1)) (R BOW) (aD (decide (y2.2.2=y2.2.1)) (BOV R) (aM d5 (iJ [T.ref [T.ref (i7 a0), T.mp (bP m1),T.mp (bP m2),T.mp (bP m3), T.mp (bP m4)], pPQ y2.2.1]) λ(y5:Bool)=>aD (!y5) (m9 R) (aD (decide (y2.1=1)) (aD (!decide (y2.2.2 = {data:=#[]})) (aM d5 (iJ (v6 a0 m1 m2 m3 m4 y2)) λ(y6:Bool)=>aD (!y6) (m9 R) (aD (decide (y2.1=2)) (aM d5 (iJ [T.ref [T.ref (f8 a0), T.mp (bP m1),T.mp (bP m2), T.mp (bP m3),T.mp (bP m4)], pPQ y2.2.2]) λ(y7:Bool)=>aD (!y7) (m9 R) (BO0 y2 X0 s1)) (BO0 y2 X0 s1))) (aD (decide (y2.1=2)) (aM d5 (iJ (v6 a0 m1 m2 m3 m4 y2)) λ(y8:Bool)=>aD (!y8) (m9 R) (BO0 y2 X0 s1)) (BO0 y2 X0 s1))) (aD (decide (y2.1=2)) (aM d5 (iJ (v6 a0 m1 m2 m3 m4 y2)) λ(y9:Bool)=>aD (!y9) (m9 R) (BO0 y2 X0 s1)) (BO0 y2 X0 s1))))))) (BO2 R)) (0,())
def Y8 ( a0 m1 m2 m3 m4 R):dM bX Tryz.prog LJ ZG 8 92 (qM a0 m1 m2 m3 m4) R=LQ a0 m1 m2 m3 m4 R:=by kernel_rfl
def TX (x y:aA×MP×MP×MP×MP) (h:qM x.1 x.2.1 x.2.2.1 x.2.2.2.1 x.2.2.2.2=qM y.1 y.2.1 y.2.2.1 y.2.2.2.1 y.2.2.2.2):x=y:=rJ (List.cons.inj h).1
def IL (x:aA×MP×MP×MP×MP):Option T:=wH x (T.v (Value.int .i64 (b6 (rD x.1) x.1.2.2.2.2.2)))
def xJ:List T->Option (T):=gA (λ(x:aA×List aG×List aG×List aG×List aG)=>qM x.1 x.2.1 x.2.2.1 x.2.2.2.1 x.2.2.2.2) IL
def AAZ (a0:aA) (m1:List aG) (m2:List aG) (m3:List aG) (m4:List aG):xJ (qM a0 m1 m2 m3 m4)=IL (a0,m1,m2,m3,m4):=dY (A:=(λ(x:aA×List aG×List aG×List aG×List aG)=>qM x.1 x.2.1 x.2.2.1 x.2.2.2.1 x.2.2.2.2)) TX (a0,m1,m2,m3,m4)
def ASN (h:∀ (a0:aA) (m1:List aG) (m2:List aG) (m3:List aG) (m4:List aG) (r:T),IL (a0,m1,m2,m3,m4)=some r->(∀ t∈qM a0 m1 m2 m3 m4,Bd t)->LQ a0 m1 m2 m3 m4 (λy=>y=r)):aO Tryz.prog 92 xJ :=
 cE (E:=LJ) (Hs:=ZG) AE3 aV aY (aN rfl) 8 ⟨_,_,Tryz.func92,rfl⟩ λx r h1 h2=>by
  rw[Y8];exact h x.1 x.2.1 x.2.2.1 x.2.2.2.1 x.2.2.2.2 r h1 h2
def AQR:aO Tryz.prog 92 xJ:=ASN λd m1 m2 m3 m4 r h hb=>by
 obtain ⟨hx,hs,rfl⟩:=oV h;simp only[Prod.mk.injEq,true_and] at hx;obtain ⟨rfl,rfl,rfl,rfl⟩:=hx;replace hs:nT d:=hs;clear h;unfold LQ BPB BO0 BO2 v6 i7 g9 BOW BOV m9 f8 H1 GE t7 t6 m8 d5 bF;refine qU (r:=a7) (rD d) hs.r (λX s y hy hok hbad=>?_) λh0=>?_
 ·have bad:∀ {n:Int},n≠0->rD d y=n->pPP n=pPP (b6 (rD d) d.2.2.2.2.2):=λhn h=>by
   rw[hbad (by rw[h];exact hn),h]
  clear hbad hb
  repeat' first
   | refine ixK (λhn=>?_) (λi j hj hn=>?_)
   | rw[nY]
   | refine aK (s:=[(false,.bool)]) (OG hs _) ?_
   | refine lK (λh=>?_) (λh=>?_)
   | refine cO (λh=>?_) (λh=>?_)
   | refine lD (λh=>?_) (λh=>?_)
  all_goals first
   | (exfalso;omega)
   | (refine bad (by decide) ?_;clear bad hok;unfold rD;simp[*,partOf,eK];done)
   | (refine hok ?_;clear bad hok;unfold rD;simp[*,partOf,eK];done)
   | (refine hok ?_;clear bad hok hs hy;unfold rD;simp_all[partOf,eK];done)
 ·show _=pPP (b6 (rD d) d.2.2.2.2.2);rw[h0]
end Go.Pv
namespace Go.Pv
open Go Go.Proofs IntKind
def BEV:Env:=Env.of []
def BFB:FuncId->Hint:=cF 273 [(2,.inv [.val 9 false (.int .i64)])] (λ_=>a6)
def AVW:aR Tryz.prog BEV:=.nil _
def AF4(a0:Int)(a1:List aU)(R:T->Prop):Prop:=a8 (Int×PUnit) (λX0 s1=>aD (decide (s1.1<(↑(i6 a1).length:Int))) (aX aC (i6 a1) s1.1 λ(y2:aU)=>aD (decide (y2.1<0)) (t8 R) (aD (decide (a0<=y2.1)) (t8 R) (aD (decide (y2.2<0)) (t8 R) (aD (decide (a0<=y2.2)) (t8 R) (aD (decide (y2.1=y2.2)) (BOV R) (g9 X0 s1)))))) (BO2 R)) (0,())
abbrev AJW:Sh:=[(false,(Sy.int IntKind.i64)),(false,aC.li)]
def NN (n:Int) (x:aU):Int:=if x.1<0\/n<=x.1\/x.2<0\/n<=x.2 then 9 else if x.1=x.2 then 2 else 0
def KR (x:Int×List aU):Option T:=rE x.2 (T.v (Value.int .i64 (b6 (NN x.1) x.2)))
def OE:List T->Option T:=gS AJW KR
def ARO {a0 a1}:OE [pPP a0,T.sl false (List.map aC.enc a1)]=KR (a0,a1):=bH (s:=AJW) rfl (a0,a1) rfl
def BB7:tG Tryz.prog 273 OE KR (cQ AJW) AF4:=iR (a1:=(false,(Sy.int IntKind.i64))) (a2:=(false,aC.li)) (Hs:=BFB) (k:=8) AVW aV aY (aN rfl) ⟨_,_,Tryz.func273,rfl⟩ rfl λ_ _ _=>by kernel_rfl
def BAP:aO Tryz.prog 273 OE:=BB7 λn l r h hb=>by
 obtain ⟨hl,rfl⟩:=kJ h;clear h;unfold AF4 BO2 i6 g9 BOV t8;refine qU (r:=aC) (NN n) hl (λX s y hy hok hbad=>?_) λh0=>?_
 ·have bad:∀ {m:Int},m≠0->NN n y=m->pPP m=pPP (b6 (NN n) l):=λhn h=>by
   rw[hbad (by rw[h];exact hn),h]
  clear hbad hb
  repeat' first
   | refine lK (λh=>?_) (λh=>?_)
   | refine cO (λh=>?_) (λh=>?_)
  all_goals first
   | (exfalso;omega)
   | (refine bad (by decide) ?_;clear bad hok;unfold NN;first|(rw[if_pos (by omega)];done)|(rw[if_neg (by omega),if_pos (by omega)];done))
   | (refine hok ?_;clear bad hok;unfold NN;rw[if_neg (by omega),if_neg (by omega)];done)
 ·show _=pPP (b6 (NN n) l);rw[h0]
def T6:Env:=Env.of [(273,.pure OE)]
def ALD:FuncId->Hint:=cF 133 [(8,.inv [.arr 0 1 (.int .i64),.val 31 false (.int .i64)]),(14,.inv [.arr 0 1 (.int .i64),.own 10 1 (.int .i64),.arr 2 1 .bool]),(16,.inv [.val 52 false (.int .i64),.fix 0,.fix 2,.fix 3]),(22,.inv [.arr 0 1 (.int .i64),.val 75 false (.int .i64)])] (λ_=>a6)
def AOW:aR Tryz.prog T6:=.cons BAP (.nil _)
def d8:Sh:=[(false,Sy.int IntKind.i64)]
def LT(s14:List Int×List Int×List Bool×PUnit):List (List T):=List.map Sy.bool.enc s14.2.2.1
def UV(s3:List Int×Int×PUnit):List (List T):=List.map bF.enc s3.1
def BOX(s14:List Int×List Int×List Bool×PUnit):List (List T):=List.map bF.enc s14.2.1
def BPA(s14:List Int×List Int×List Bool×PUnit):List (List T):=List.map bF.enc s14.1
def BPC(R:T->Prop):Prop:=b7 (pPP 9).flat (R (T.bY [T.sl false [],pPP 9]))
def UF(a0:Int)(a1:List aU)(R:T->Prop):Prop:=aD (decide (a0<0)) (BPC R) (aD (decide (256<a0)) (BPC R) (aM d8 (OE [pPP a0,T.sl false (i6 a1)]) λ(y0:Int)=>aD (!decide (y0=0)) (b7 (pPP y0).flat (R (T.bY [T.sl false [],pPP y0]))) (b7 ((decide (a0=a0)||decide (a0=0))&&decide (0<=a0)&&decide (a0*(↑8:Int)<=140737488355328) && decide (a0<=140737488355328)) (iT bF (List.replicate (Int.toNat a0) [pPP 0]) λ(y1:List Int)=>a8 (List Int×Int×PUnit) (λX2 s3=>aD (decide (s3.2.1<(↑(i6 a1).length:Int))) (aX aC (i6 a1) s3.2.1 λ(y4:aU)=>aX bF (UV s3) y4.2 λ(y5:Int)=>jD bF (UV s3) (Int.toNat y4.2) 0 λ(y6:Int)=>aX bF (UV s3) y4.2 λ(y7:Int)=>wP (UV s3) (Int.toNat y4.2) λ(y8:List T)=>b7 (decide (1<=y8.length)) (iT bF ((UV s3).set (Int.toNat y4.2) (bU y8 0 [pPP (i64.wrap (y6+1))])) λ(y9:List Int)=>X2 (y9,i64.wrap (s3.2.1+1),()))) (b7 ((decide (0=a0)||true)&&decide (0<=a0)&&decide (a0*(↑8:Int)<=140737488355328) && decide (a0<=140737488355328)) (b7 ((decide (a0=a0)||decide (a0=0))&&decide (0<=a0) && decide (a0*(↑1:Int)<=140737488355328) && decide (a0<=140737488355328)) (iT bF (UV s3) λ(y10:List Int)=>iT bF [] λ(y11:List Int)=>iT Sy.bool (List.replicate (Int.toNat a0) [pPR false]) λ(y12:List Bool)=>a8 (List Int×List Int×List Bool×PUnit) (λX13 s14=>aD (decide ((↑(BOX s14).length:Int)<a0)) (gH (bE.arr false 1 (BPA s14)) (bE.arr false 1 (BPA s14)) (gH (bE.arr false 1 (LT s14)) (bE.arr false 1 (LT s14)) (gH (bE.arr false 1 (BOX s14)) (bE.arr false 1 (BOX s14)) (a8 (Int×PUnit×PUnit×PUnit×PUnit) (λ(X15:Int×PUnit×PUnit×PUnit×PUnit->Prop) (J6:Int×PUnit×PUnit×PUnit×PUnit)=>aD (decide (J6.1<a0)) (aX Sy.bool (LT s14) J6.1 λ(y17:Bool)=>jD Sy.bool (LT s14) (Int.toNat J6.1) 0 λ(y18:Bool)=>aD y18 (gH (bE.arr false 1 (BPA s14)) (bE.arr false 1 (BPA s14)) (gH (bE.arr false 1 (LT s14)) (bE.arr false 1 (LT s14)) (gH (bE.arr false 1 (BOX s14)) (bE.arr false 1 (BOX s14)) (X15 (i64.wrap (J6.1+1),(),(),(),()))))) (aX bF (BPA s14) J6.1 λ(y19:Int)=>jD bF (BPA s14) (Int.toNat J6.1) 0 λ(y20:Int)=>aD (decide (0<y20)) (gH (bE.arr false 1 (BPA s14)) (bE.arr false 1 (BPA s14)) (gH (bE.arr false 1 (LT s14)) (bE.arr false 1 (LT s14)) (gH (bE.arr false 1 (BOX s14)) (bE.arr false 1 (BOX s14)) (X15 (i64.wrap (J6.1+1),(),(),(), ()))))) (aX Sy.bool (LT s14) J6.1 λ(y21:Bool)=>wP (LT s14) (Int.toNat J6.1) λ(y22:List T)=>b7 (decide (1<=y22.length)) (b7 (decide (((BOX s14).length + 1) * 8 <= 140737488355328) && decide ((BOX s14).length + 1 <= 140737488355328)) (iT bF (BPA s14) λ(y23:List Int)=>a8 (List Int×Int×PUnit) (λX24 s25=>aD (decide (s25.2.1 < (↑(i6 a1).length : Int))) (aX aC (i6 a1) s25.2.1 λ(y26:aU)=>aD (decide (y26.1=J6.1)) (aX bF (UV s25) y26.2 λ(y27:Int)=>jD bF (UV s25) (Int.toNat y26.2) 0 λ(y28:Int)=>aX bF (UV s25) y26.2 λ(y29:Int)=>wP (UV s25) (Int.toNat y26.2) λ(y30:List T)=>b7 (decide (1<=y30.length)) (iT bF ((UV s25).set (Int.toNat y26.2) (bU y30 0 [pPP (i64.wrap (y28-1))])) λ(y31:List Int)=>X24 (y31, i64.wrap (s25.2.1+1), ()))) (iT bF (UV s25) λ(y32:List Int)=>X24 (y32, i64.wrap (s25.2.1+1), ()))) (iT bF (UV s25) λ(y33:List Int)=>iT bF (List.map bF.enc s14.2.1 ++ [[pPP J6.1]]) λ(y34:List Int)=>iT Sy.bool ((LT s14).set (Int.toNat J6.1) (bU y22 0 [pPR true])) λ(y35:List Bool)=>X13 (y33,y34,y35,()))) (y23,0,())))))) (b7 (pPP 20).flat (R (T.bY [T.sl false [], pPP 20])))) (0,(),(),(),()))))) (b7 ((BOX s14).all λ(r:List T)=>r.all T.flat) (b7 (pPP 0).flat (R (T.bY [T.sl false (BOX s14), pPP 0]))))) (y10,y11,y12,()))))) (y1,0,())))))
def AGC ( a0 a1 R):wB bX Tryz.prog T6 ALD 8 133 [aF false (Sy.int IntKind.i64) a0,aF false aC.li a1] R=UF a0 a1 R:=by kernel_rfl
abbrev KM:Sh:=[(false,(Sy.int IntKind.i64)),(false,aC.li)]
abbrev zW:Sh:=[(false,(Sy.int IntKind.i64).li),(false,Sy.int IntKind.i64)]
def AZW (b:List Int) (e:aU):List Int:=b.set e.2.toNat (i64.wrap (b.getD e.2.toNat 0+1))
def AZ2 (v:Int) (b:List Int) (e:aU):List Int:=if e.1=v then b.set e.2.toNat (i64.wrap (b.getD e.2.toNat 0-1)) else b
def JB (b:List Int) (t:List Bool) (k:Nat):Bool:=!t.getD k false&&decide (b.getD k 0<=0)
def DE (l:List aU) (n:Nat):Nat->List Int->List Int->List Bool->List Int×Int
 | 0,_,o,_=>(o,0)
 | f+1,b,o,t=>match (List.range n).find? (JB b t) with
  | none=>([],20)
  | some v=>DE l n f (l.foldl (AZ2 v) b) (o++[(v:Int)]) (t.set v true)
def l9 (n:Int) (l:List aU):List Int×Int :=
 if n<0\/256<n then ([],9) else if b6 (NN n) l=0 then DE l n.toNat n.toNat (l.foldl AZW (List.replicate n.toNat 0)) [] (List.replicate n.toNat false) else ([],b6 (NN n) l)
def AAL {α:Type} {f:α->Int}:∀ {l:List α},b6 f l=0->∀ a∈l,f a=0
 | [],_,_,h=>by cases h
 | b::l,h,a,ha=>by
  unfold b6 at h;split at h
  ·rename_i hb;rcases List.mem_cons.1 ha with rfl|ha
   ·exact hb
   ·exact AAL h a ha
  ·exact absurd h ‹_›
def zX {r:Sy} {l:List r.den} {i:Int} (h0:0<=i) (h:i.toNat<l.length) (K:r.den->Prop):aX r (List.map r.enc l) i K=K l[i.toNat]:=by
 have e:i=((i.toNat:Nat):Int):=by omega
 have:=bG h K;rw[<-e] at this;exact this
def AM8 {l:List Int} {k:Nat} (h:k<l.length) (y:Int):(List.map (Sy.int .i64).enc l).set k (bU ((Sy.int .i64).enc l[k]) 0 [pPP y])=List.map (Sy.int .i64).enc (l.set k y):=by
 rw[List.map_set];rfl
def A6N {l:List Bool} {k:Nat} (h:k<l.length) (y:Bool):(List.map Sy.bool.enc l).set k (bU (Sy.bool.enc l[k]) 0 [pPR y])=List.map Sy.bool.enc (l.set k y):=by
 rw[List.map_set];rfl
variable {α:Type}
def zO {l:List α} {k:Nat} (d:α) (h:k<l.length):l.getD k d=l[k]:=by simp[List.getD,h]
def BCZ (n:Nat):List.replicate n [T.v (Value.int .i64 0)]=List.map (Sy.int .i64).enc (List.replicate n 0):=by rw[List.map_replicate];rfl
def A5L (n:Nat):List.replicate n [pPR false]=List.map Sy.bool.enc (List.replicate n false):=by rw[List.map_replicate];rfl
def AQP (l:List Int):((List.map (Sy.int .i64).enc l).all λ(r:List T)=>r.all T.flat)=true:=by
 rw[List.all_map,List.all_eq_true];intro a _;rfl
def P9 (x:Int×List aU):Option T:=rE x.2 (Sh.enc zW (l9 x.1 x.2))
def EL:List T->Option (T):=gS KM P9
def AH9 {a0 a1}:EL [pPP a0,T.sl false (List.map aC.enc a1)]=P9 (a0,a1):=bH (s:=KM) rfl (a0,a1) rfl
def A4L (h:∀ a0 a1 r,P9 (a0,a1)=some r->cQ KM (a0,a1)->UF a0 a1 (λy=>y=r)):kZ Tryz.prog 133 EL :=
 BBP (E:=T6) (Hs:=ALD) AOW aV aY (aN rfl) 8 ⟨_,_,Tryz.func133,rfl⟩ rfl λx r h1 h2=>by
  obtain ⟨a0,a1⟩:=x;rw[show Sh.l6 KM (a0,a1)=[aF false (Sy.int IntKind.i64) a0,aF false aC.li a1] from rfl,AGC];exact h a0 a1 r h1 h2
def A0Q:kZ Tryz.prog 133 EL:=A4L λn l r h hb=>by
 obtain ⟨hl,rfl⟩:=kJ h;clear h;have hl:l.length<=140737488355328:=hl;unfold UF BPC BPA BOX UV LT i6 d8 bF;refine cO (λh=>?_) λhn0=>?_
 ·refine ⟨rfl,?_⟩;show _=Sh.enc zW (l9 n l);rw[l9,if_pos (Or.inl h)];rfl
 refine cO (λh=>?_) λhn1=>?_
 ·refine ⟨rfl,?_⟩;show _=Sh.enc zW (l9 n l);rw[l9,if_pos (Or.inr h)];rfl
 refine aK (s:=[(false,.int .i64)]) (y:=b6 (NN n) l) (by rw[ARO];exact kK _ hl) ?_;refine lK (λh0=>?_) (λh0=>?_)
 ·refine ⟨rfl,?_⟩;show _=Sh.enc zW (l9 n l);rw[l9,if_neg (by omega),if_neg h0];rfl
 have hv:l9 n l=DE l n.toNat n.toNat (l.foldl AZW (List.replicate n.toNat 0)) [] (List.replicate n.toNat false):=by
  rw[l9,if_neg (by omega),if_pos h0]
 have hend:∀ e∈l,0<=e.1/\e.1<n/\0<=e.2/\e.2<n:=λe he=>by
  have:=AAL h0 e he;unfold NN at this;split at this
  ·exact absurd this (by decide)
  ·omega
 clear h0 hb;obtain ⟨N,rfl⟩:∃ N:Nat,n=(N:Int):=⟨n.toNat,by omega⟩
 rw[Int.toNat_natCast] at hv ⊢;refine ⟨by simp;omega,?_⟩;rw[BCZ,eX rfl];refine bN l.length (λk s=>s.2.1=(k:Int)/\s.1.length=N/\(l.drop k).foldl AZW s.1=l.foldl AZW (List.replicate N 0)) ⟨rfl,by simp,rfl⟩ ?_;rintro X k ⟨b,i,u⟩ hk ⟨rfl,hbl,hbf⟩ hX;dsimp only at hbl hbf ⊢;refine cO (λhlt=>?_) λhge=>?_
 ·rw[ae] at hlt;have hlt:k<l.length:=by omega
  rw[bG hlt];obtain ⟨-,-,e0,e1⟩:=hend _ (ak hlt);have hj:(l[k].2).toNat<b.length:=by omega
  rw[zX e0 hj,jU hj,zX e0 hj,pT hj];refine ⟨rfl,?_⟩;rw[AM8 hj,eX rfl];refine hX _ hlt ⟨?_,?_,?_⟩
  ·show i64.wrap ((k:Int)+1)=_;rw[bB]<;>omega
  ·show (List.set _ _ _).length=N;rw[List.length_set];exact hbl
  ·rw[List.drop_eq_getElem_cons hlt,List.foldl_cons] at hbf;rw[<-hbf]
   congr 1
   unfold AZW;rw[zO (l:=b) 0 hj]
 rw[ae] at hge;have hkl:k=l.length:=by omega
 subst hkl;rw[List.drop_length,List.foldl_nil] at hbf;rw[<-hbf] at hv;refine ⟨by simp;omega,⟨by simp;omega,?_⟩⟩;rw[eX rfl,AZ3,A5L,eX rfl];clear hX hge hbf;refine bN N (λk s=>s.1.length=N/\s.2.1.length=k/\s.2.2.1.length=N/\DE l N (N-k) s.1 s.2.1 s.2.2.1=l9 N l) ⟨hbl,rfl,by simp,by rw[hv];rfl⟩ ?_;clear hv hbl b u;rintro X k ⟨b,o,t,u⟩ hk ⟨hbl,hol,htl,hr⟩ hX;dsimp only at hbl hol htl hr ⊢;refine cO (λhlt=>?_) λhge=>?_
 ·rw[ae,hol] at hlt;have hlt:k<N:=by omega
  rw[dS,dS,dS];obtain ⟨m,hm⟩:∃ m,N-k=m+1:=⟨N-k-1,by omega⟩
  rw[hm,DE] at hr;refine bN N (λj s=>s.1=(j:Int)/\(List.range N).find? (JB b t)=(List.range' j (N-j)).find? (JB b t)) ⟨rfl,by rw[List.range_eq_range'];rfl⟩ ?_;rintro Y j ⟨i,u1,u2,u3,u4⟩ hj ⟨rfl,hf⟩ hY;dsimp only at hf ⊢;refine cO (λhjn=>?_) λhjn=>?_
  ·have hjn:j<N:=by omega
   have hjb:j<b.length:=by omega
   have hjt:j<t.length:=by omega
   obtain ⟨q,hq⟩:∃ q,N-j=q+1:=⟨N-j-1,by omega⟩
   rw[hq,List.range'_succ,List.find?_cons] at hf;have next:JB b t j=false->Y (i64.wrap ((j:Int)+1),(),(),(),()):=λh=>by
    refine hY _ hjn ⟨?_,?_⟩
    ·show i64.wrap ((j:Int)+1)=_;rw[bB]<;>omega
    ·rw[hf,h];rw[show N-(j+1)=q by omega]
   simp only[Int.toNat_natCast];rw[bG hjt,jU hjt];refine DQ (λht=>?_) λht=>?_
   ·rw[dS,dS,dS];exact next (by rw[JB,zO (l:=t) false hjt,ht];rfl)
   rw[bG hjb,jU hjb];refine cO (λhp=>?_) λhp=>?_
   ·rw[dS,dS,dS];exact next (by rw[JB,zO (l:=b) 0 hjb,aj (by omega),Bool.and_false])
   have hfree:JB b t j=true:=by rw[JB,zO (l:=b) 0 hjb,zO (l:=t) false hjt,ht,ai (by omega)];rfl
   rw[hfree] at hf;rw[hf] at hr;dsimp only at hr;clear next hY hf
   rw[bG hjt,pT hjt];refine ⟨rfl,⟨by simp;omega,?_⟩⟩;rw[eX rfl];refine bN l.length (λk s=>s.2.1=(k:Int)/\s.1.length=N/\(l.drop k).foldl (AZ2 j) s.1=l.foldl (AZ2 j) b) ⟨rfl,hbl,rfl⟩ ?_;rintro Z i ⟨c,i',u⟩ hi ⟨rfl,hcl,hcf⟩ hZ;dsimp only at hcl hcf ⊢;refine cO (λhlt=>?_) λhge=>?_
   ·rw[ae] at hlt;have hlt:i<l.length:=by omega
    rw[bG hlt];obtain ⟨-,-,e0,e1⟩:=hend _ (ak hlt);have hjc:(l[i].2).toNat<c.length:=by omega
    rw[List.drop_eq_getElem_cons hlt,List.foldl_cons] at hcf;have hw:i64.wrap ((i:Int)+1)=((i+1:Nat):Int):=by rw[bB]<;>omega
    refine cO (λhv=>?_) λhv=>?_
    ·rw[zX e0 hjc,jU hjc,zX e0 hjc,pT hjc];refine ⟨rfl,?_⟩;rw[AM8 hjc,eX rfl];refine hZ _ hlt ⟨hw,?_,?_⟩
     ·show (List.set _ _ _).length=N;rw[List.length_set];exact hcl
     ·rw[<-hcf]
      congr 1
      unfold AZ2;rw[if_pos hv,zO (l:=c) 0 hjc]
    ·rw[eX rfl];refine hZ _ hlt ⟨hw,hcl,?_⟩;rw[<-hcf]
     congr 1
     unfold AZ2;rw[if_neg hv]
   ·rw[ae] at hge;have hil:i=l.length:=by omega
    subst hil;rw[List.drop_length,List.foldl_nil] at hcf;rw[eX rfl,GW (r:=.int .i64) rfl o [T.v (.int .i64 (j:Int))] (j:Int) rfl,A6N hjt,eX rfl];refine hX _ hlt ⟨hcl,by simp[hol],by simp[htl],?_⟩;rw[show N-(k+1)=m by omega];show DE l N m c (o++[(j:Int)]) (t.set j true)=_;rw[hcf];exact hr
  ·have hjn:j=N:=by omega
   subst hjn;rw[Nat.sub_self] at hf;rw[show (List.range' j 0)=[] from rfl,List.find?_nil] at hf;rw[hf] at hr;refine ⟨rfl,?_⟩;show _=Sh.enc zW (l9 (j:Int) l);rw[<-hr];rfl
 ·rw[ae,hol] at hge;have hkN:k=N:=by omega
  subst hkN;rw[Nat.sub_self,DE] at hr;refine ⟨AQP o,rfl,?_⟩;show _=Sh.enc zW (l9 (k:Int) l);rw[<-hr];rfl
end Go.Pv
namespace Go.Pv
open Go Go.Proofs IntKind
def wQ (a0:List iII):List T:=[T.sl false (List.map Sy.str.enc a0)]
def AE2:Env:=Env.of []
def AY4:FuncId->Hint:=λ_=>a6
def AV9:aR Tryz.prog AE2:=.nil _
def AGJ(a0:List iII)(R:T->Prop):Prop:=R (T.fn 272 [] [T.ref [T.sl false (IO a0)]])
def APF ( a0 R):dM bX Tryz.prog AE2 AY4 8 132 (wQ a0) R=AGJ a0 R:=by kernel_rfl
def YC (l:List iII):Option T:=some (T.fn 272 [] [T.ref [T.sl false (List.map Sy.str.enc l)]])
def AEN (x y:List iII) (h:wQ x=wQ y):x=y:=by
 unfold wQ at h;have h:=(T.sl.injEq .. ▸ (List.cons.inj h).1)
 exact map_inj (Sy.eU .str) h.2
def HF:List T->Option (T):=gA (λ(x:List iII)=>wQ x) YC
def SO (a0:List iII):HF (wQ a0)=YC a0:=dY (A:=(λ(x:List iII)=>wQ x)) AEN a0
def BCK (h:∀ (a0:List iII) (r:T),YC a0=some r->(∀ t∈wQ a0,Bd t)->AGJ a0 (λy=>y=r)):aO Tryz.prog 132 HF :=
 cE (E:=AE2) (Hs:=AY4) AV9 aV aY (aN rfl) 8 ⟨_,_,Tryz.func132,rfl⟩ λx r h1 h2=>by
  rw[APF];exact h x r h1 h2
def BA5:aO Tryz.prog 132 HF:=BCK λl r h hb=>by
 cases h;unfold AGJ IO;rfl
end Go.Pv
namespace Go.Pv
abbrev Pt:=Int×Int
def eP (a b c:Pt):Int:=(b.1-a.1)*(c.2-a.2)-(b.2-a.2)*(c.1-a.1)
def QK (n:Int):Int:=if n<0 then -1 else if 0<n then 1 else 0
def btw (a b q:Pt):Bool:=decide (min a.1 b.1<=q.1)&&decide (q.1<=max a.1 b.1)&&(decide (min a.2 b.2<=q.2)&&decide (q.2<=max a.2 b.2))
def WE (a b q:Pt):Bool:=decide (eP a b q=0)&&btw a b q
def nD (a b c d:Pt):Bool:=WE a b c||WE a b d||WE c d a||WE c d b||(decide (QK (eP a b c)*QK (eP a b d)<0)&&decide (QK (eP c d a)*QK (eP c d b)<0))
def eC (q:Pt):Prop:=-32768<=q.1/\q.1<=32768∧-32768<=q.2/\q.2<=32768
def DD {x y M N:Int} (hx:-M<=x/\x<=M) (hy:-N<=y/\y<=N) (hM:0<=M) (hN:0<=N):-(M*N)<=x*y/\x*y<=M*N:=by
 have h1:x.natAbs<=M.toNat:=by omega
 have h2:y.natAbs<=N.toNat:=by omega
 have h3:=Nat.mul_le_mul h1 h2;rw[<-Int.natAbs_mul] at h3;have h4:((M.toNat*N.toNat:Nat):Int)=M*N:=by
  rw[Int.natCast_mul,Int.toNat_of_nonneg hM,Int.toNat_of_nonneg hN]
 omega
def AZ0 {a b c:Pt} (ha:eC a) (hb:eC b) (hc:eC c):(-4294967296<=(b.1-a.1)*(c.2-a.2)/\(b.1-a.1)*(c.2-a.2)<=4294967296)/\(-4294967296<=(b.2-a.2)*(c.1-a.1)/\(b.2-a.2)*(c.1-a.1)<=4294967296):=by
 unfold eC at ha hb hc;have h1:=DD (x:=b.1-a.1) (y:=c.2-a.2) (M:=65536) (N:=65536) (by omega) (by omega) (by omega) (by omega);have h2:=DD (x:=b.2-a.2) (y:=c.1-a.1) (M:=65536) (N:=65536) (by omega) (by omega) (by omega) (by omega);constructor<;>constructor<;>omega
def A6O (n:Int):-1<=QK n/\QK n<=1:=by unfold QK;split<;>(try split)<;>omega
end Go.Pv
namespace Go.Pv
end Go.Pv
namespace Go.Pv
def hit (a b q:Pt):Bool:=(decide (a.2<=q.2)&&decide (q.2<b.2)&&decide (0<eP a b q))||(decide (b.2<=q.2)&&decide (q.2<a.2)&&decide (eP a b q<0))
def dr (u v w:Pt):Bool:=decide (u.2<w.2)&&decide (w.2<=v.2)&&decide (eP u v w<0)
def NC (a b q:Pt):eP b a q = - eP a b q:=by simp only[eP];grind
def BH8 {a b q:Pt} (h:eP a b q=0) (hab:a.2<b.2) (h1:a.2<=q.2) (h2:q.2<=b.2):btw a b q=true:=by
 have e:(b.1-a.1)*(q.2-a.2)=(b.2-a.2)*(q.1-a.1):=by unfold eP at h;omega
 have hx:min a.1 b.1<=q.1/\q.1<=max a.1 b.1:=by
  rcases Int.le_total a.1 b.1 with hd|hd
  ·have m1:=Int.mul_nonneg (show 0<=b.1-a.1 by omega) (show 0<=q.2-a.2 by omega);have m2:(b.1-a.1)*(q.2-a.2)<=(b.1-a.1)*(b.2-a.2):=Int.mul_le_mul_of_nonneg_left (by omega) (by omega);have p1:0<=q.1-a.1:=by
    refine Int.not_lt.1 λh=>?_;have:=Int.mul_neg_of_pos_of_neg (show 0<b.2-a.2 by omega) h;omega
   have p2:q.1-a.1<=b.1-a.1:=by
    refine Int.not_lt.1 λh=>?_;have h3:=Int.mul_lt_mul_of_pos_left h (show 0<b.2-a.2 by omega);have h4:(b.2-a.2)*(b.1-a.1)=(b.1-a.1)*(b.2-a.2):=Int.mul_comm _ _;omega
   omega
  ·have m1:=Int.mul_nonneg (show 0<=a.1-b.1 by omega) (show 0<=q.2-a.2 by omega);have m2:(a.1-b.1)*(q.2-a.2)<=(a.1-b.1)*(b.2-a.2):=Int.mul_le_mul_of_nonneg_left (by omega) (by omega);have e1:(a.1-b.1)*(q.2-a.2) = - ((b.1-a.1)*(q.2-a.2)):=by grind
   have p1:q.1-a.1<=0:=by
    refine Int.not_lt.1 λh=>?_;have:=Int.mul_pos (show 0<b.2-a.2 by omega) h;omega
   have p2:b.1-a.1<=q.1-a.1:=by
    refine Int.not_lt.1 λh=>?_;have h3:=Int.mul_lt_mul_of_pos_left h (show 0<b.2-a.2 by omega);have h4:(a.1-b.1)*(b.2-a.2) = - ((b.2-a.2)*(b.1-a.1)):=by grind
    omega
   omega
 simp only[btw,ac,ah];omega
def BCN {a b q:Pt} (h:eP a b q=0) (hab:a.2<b.2) (h1:a.2<=q.2) (h2:q.2<=b.2):WE a b q=true:=by
 unfold WE;rw[ai h,BH8 h hab h1 h2];rfl
end Go.Pv
namespace Go.Pv
end Go.Pv
namespace Go.Pv
def AZL (a b q:Pt):btw b a q=btw a b q:=by unfold btw;rw[Int.min_comm b.1,Int.max_comm b.1,Int.min_comm b.2,Int.max_comm b.2]
def BCM (a b q:Pt):WE b a q=WE a b q:=by
 unfold WE;rw[AZL,NC a b q]
 congr 1
 exact decide_eq_decide.2 (by omega)
def A68:Nat->(Nat->Bool)->Bool
 | 0,_=>false
 | n+1,f=>A68 n f ^^ f n
def pt (p:List Pt) (i:Nat):Pt:=p.getD i (0,0)
def nx (p:List Pt) (i:Nat):Pt:=pt p ((i+1) % p.length)
def BBB (p:List Pt) (q:Pt):Bool:=A68 p.length λi=>hit (pt p i) (nx p i) q
end Go.Pv
namespace Go.Pv
open Go Go.Proofs IntKind
instance BOB (q:Pt):Decidable (eC q):=by unfold eC;infer_instance
def jQ {a b:Bool} (h:a=b):pPR a=pPR b:=by rw[h]
def J0 {a b:Int} (h:a=b):pPP a=pPP b:=by rw[h]
variable {α:Type}
def OT (a b c:Pt) (r:α):Option α:=match decide (eC a/\eC b/\eC c) with
 | true=>some r
 | false=>none
def OU {a b c:Pt} {t r:α} (h:OT a b c t=some r):eC a/\eC b/\eC c/\r=t:=by
 unfold OT at h;split at h
 ·rename_i hc;cases h;obtain ⟨h1,h2,h3⟩:=of_decide_eq_true hc;exact ⟨h1,h2,h3,rfl⟩
 ·cases h
def OV {a b c:Pt} (t:α) (ha:eC a) (hb:eC b) (hc:eC c):OT a b c t=some t:=by unfold OT;rw[ai ⟨ha,hb,hc⟩]
def QI {a b c:Pt} (ha:eC a) (hb:eC b) (hc:eC c):i64.wrap (i64.wrap (i64.wrap (b.1-a.1)*i64.wrap (c.2-a.2))-i64.wrap (i64.wrap (b.2-a.2)*i64.wrap (c.1-a.1)))=eP a b c:=by
 have h:=AZ0 ha hb hc;unfold eC at ha hb hc;rw[bB (b.1-a.1) (by omega) (by omega),bB (c.2-a.2) (by omega) (by omega),bB (b.2-a.2) (by omega) (by omega),bB (c.1-a.1) (by omega) (by omega),
  bB ((b.1-a.1)*(c.2-a.2)) (by omega) (by omega),bB ((b.2-a.2)*(c.1-a.1)) (by omega) (by omega),bB _ (by omega) (by omega)]
 rfl
def F7 (m n:Int):i64.wrap (QK m*QK n)=QK m*QK n:=by
 have h:=DD (A6O m) (A6O n) (by omega) (by omega);exact bB _ (by omega) (by omega)
def V9 (a b:Int):(if b<a then b else a)=min a b:=by omega
def V7 (a b:Int):(if a<b then b else a)=max a b:=by omega
def AU3:Env:=Env.of []
def AYS:FuncId->Hint:=λ_=>a6
def AFE:aR Tryz.prog AU3:=.nil _
def ST(a1:aU)(a0:aU)(a2:aU):T:=pPP (i64.wrap (i64.wrap (i64.wrap (a1.1-a0.1)*i64.wrap (a2.2-a0.2)) - i64.wrap (i64.wrap (a1.2-a0.2)*i64.wrap (a2.1-a0.1))))
def L3(a0:aU)(a1:aU)(a2:aU)(R:T->Prop):Prop:=R (ST a1 a0 a2)
abbrev PM:Sh:=[(true,aC),(true,aC),(true,aC)]
def AH (x:aU×aU×aU):Option T:=OT x.1 x.2.1 x.2.2 (T.v (Value.int .i64 (eP x.1 x.2.1 x.2.2)))
def gW:List T->Option T:=gS PM AH
def ABO {a0 a1 a2}:gW [aF true aC a0,aF true aC a1,aF true aC a2]=AH (a0,a1,a2):=bH (s:=PM) rfl (a0,a1,a2) rfl
def ASY:Of3 Tryz.prog 356 gW AH (cQ PM) L3:=J4 (a1:=(true,aC)) (a2:=(true,aC)) (a3:=(true,aC)) (Hs:=AYS) (k:=8) AFE aV aY (aN rfl) ⟨_,_,Tryz.func356,rfl⟩ rfl λ_ _ _ _=>by kernel_rfl
def zJ:aO Tryz.prog 356 gW:=ASY λa b c r h hb=>by
 obtain ⟨h1,h2,h3,rfl⟩:=OU h;unfold L3 ST;exact J0 (QI h1 h2 h3)
def kF {a b c:Pt} (h1:eC a) (h2:eC b) (h3:eC c):gW [aF true aC a,aF true aC b,aF true aC c]=some (Sh.enc [(false,.int .i64)] (eP a b c)):=(ABO ..).trans (OV _ h1 h2 h3)
def AVB:Env:=Env.of []
def AY0:FuncId->Hint:=λ_=>a6
def AFM:aR Tryz.prog AVB:=.nil _
def MB(a0:aU)(a1:aU)(a2:aU)(R:T->Prop):Prop:=R (ST a1 a0 a2)
abbrev PV:Sh:=[(true,aC),(true,aC),(true,aC)]
def AN (x:aU×aU×aU):Option T:=OT x.1 x.2.1 x.2.2 (T.v (Value.int .i64 (eP x.1 x.2.1 x.2.2)))
def nB:List T->Option T:=gS PV AN
def AB6 {a0 a1 a2}:nB [aF true aC a0,aF true aC a1,aF true aC a2]=AN (a0,a1,a2):=bH (s:=PV) rfl (a0,a1,a2) rfl
def AS6:Of3 Tryz.prog 359 nB AN (cQ PV) MB:=J4 (a1:=(true,aC)) (a2:=(true,aC)) (a3:=(true,aC)) (Hs:=AY0) (k:=8) AFM aV aY (aN rfl) ⟨_,_,Tryz.func359,rfl⟩ rfl λ_ _ _ _=>by kernel_rfl
def AQ6:aO Tryz.prog 359 nB:=AS6 λa b c r h hb=>by
 obtain ⟨h1,h2,h3,rfl⟩:=OU h;unfold MB ST;exact J0 (QI h1 h2 h3)
def r7 {a b c:Pt} (h1:eC a) (h2:eC b) (h3:eC c):nB [aF true aC a,aF true aC b,aF true aC c]=some (Sh.enc [(false,.int .i64)] (eP a b c)):=(AB6 ..).trans (OV _ h1 h2 h3)
def A7J:Env:=Env.of []
def A9A:FuncId->Hint:=λ_=>a6
def AO1:aR Tryz.prog A7J:=.nil _
def UK(a0:Int)(R:T->Prop):Prop:=aD (!decide (a0=a0)) (R (pPP (-1))) (aD (decide (a0<0)) (R (pPP (-1))) (aD (decide (0<a0)) (R (pPP 1)) (BO2 R)))
abbrev W7:Sh:=[(false,(Sy.int IntKind.i64))]
def FX (n:Int):Option T:=some (T.v (Value.int .i64 (QK n)))
def pQ:List T->Option T:=gS W7 FX
def AIE {a0}:pQ [pPP a0]=FX (a0):=bH (s:=W7) rfl (a0) rfl
def A4Q:yW Tryz.prog 367 pQ FX (cQ W7) UK:=kW (a1:=(false,(Sy.int IntKind.i64))) (Hs:=A9A) (k:=8) AO1 aV aY (aN rfl) ⟨_,_,Tryz.func367,rfl⟩ rfl λ_ _=>by kernel_rfl
def vG (n:Int):pQ [pPP n]=some (Sh.enc [(false,.int .i64)] (QK n)):=AIE ..
def A7K:Env:=Env.of []
def A9B:FuncId->Hint:=λ_=>a6
def AO2:aR Tryz.prog A7K:=.nil _
def UL(a0:Int)(R:T->Prop):Prop:=R (pPP (if 1<if a0 < -1 then -1 else a0 then 1 else if a0 < -1 then -1 else a0))
abbrev W8:Sh:=[(false,(Sy.int IntKind.i64))]
def FY (n:Int):Option T:=some (T.v (Value.int .i64 (QK n)))
def pR:List T->Option T:=gS W8 FY
def AIF {a0}:pR [pPP a0]=FY (a0):=bH (s:=W8) rfl (a0) rfl
def A4R:yW Tryz.prog 358 pR FY (cQ W8) UL:=kW (a1:=(false,(Sy.int IntKind.i64))) (Hs:=A9B) (k:=8) AO2 aV aY (aN rfl) ⟨_,_,Tryz.func358,rfl⟩ rfl λ_ _=>by kernel_rfl
def vH (n:Int):pR [pPP n]=some (Sh.enc [(false,.int .i64)] (QK n)):=AIF ..
def A0U:aO Tryz.prog 367 pQ:=A4Q λn r h hb=>by
 cases h;unfold UK BO2;refine lK (λh=>absurd rfl h) λ_=>?_;exact cO (λh=>J0 (by unfold QK;rw[if_pos h])) λh=>cO (λh2=>J0 (by unfold QK;rw[if_neg h,if_pos h2])) λh2=>J0 (by unfold QK;rw[if_neg h,if_neg h2])
def A0V:aO Tryz.prog 358 pR:=A4R λn r h hb=>by
 cases h;unfold UL;refine J0 ?_;unfold QK;omega
def AON:Env:=Env.of []
def APP:FuncId->Hint:=λ_=>a6
def Y3:aR Tryz.prog AON:=.nil _
def WP(a2:aU)(a0:aU)(a1:aU)(R:T->Prop):Prop:=aD (decide (a2.1<=if a0.1<a1.1 then a1.1 else a0.1)) (aD (decide ((if a1.2<a0.2 then a1.2 else a0.2)<=a2.2)) (R (pPR (decide (a2.2<=if a0.2<a1.2 then a1.2 else a0.2)))) (R d4)) (R d4)
def GH(a0:aU)(a1:aU)(a2:aU)(R:T->Prop):Prop:=aD (decide ((if a1.1<a0.1 then a1.1 else a0.1)<=a2.1)) (WP a2 a0 a1 R) (R d4)
abbrev IC:Sh:=[(true,aC),(true,aC),(true,aC)]
def vZ (x:aU×aU×aU):Option T:=some (pPR (btw x.1 x.2.1 x.2.2))
def uC:List T->Option T:=gS IC vZ
def VQ {a0 a1 a2}:uC [aF true aC a0,aF true aC a1,aF true aC a2]=vZ (a0,a1,a2):=bH (s:=IC) rfl (a0,a1,a2) rfl
def AJA:Of3 Tryz.prog 368 uC vZ (cQ IC) GH:=J4 (a1:=(true,aC)) (a2:=(true,aC)) (a3:=(true,aC)) (Hs:=APP) (k:=8) Y3 aV aY (aN rfl) ⟨_,_,Tryz.func368,rfl⟩ rfl λ_ _ _ _=>by kernel_rfl
def AHS:aO Tryz.prog 368 uC:=AJA λa b c r h hb=>by
 cases h;unfold GH WP d4;rw[V9,V9,V7,V7];refine cO (λh1=>cO (λh2=>cO (λh3=>jQ ?_) λh3=>jQ ?_) λh2=>jQ ?_) λh1=>jQ ?_
 all_goals simp[btw,h1]
 all_goals simp[h2]
 all_goals simp[h3]
def BLP:Env:=Env.of []
def BMC:FuncId->Hint:=λ_=>a6
def A82:aR Tryz.prog BLP:=.nil _
def AYE(a0:aU)(a1:aU)(a2:aU)(R:T->Prop):Prop:=aD (decide ((if a1.1<a0.1 then a1.1 else a0.1)<=a2.1)) (WP a2 a0 a1 R) (R d4)
abbrev A6I:Sh:=[(true,aC),(true,aC),(true,aC)]
abbrev AM3:Sh:=[(false,Sy.bool)]
def AJL (y:Sh.den AM3) (K:Sh.den AM3->Prop):aM AM3 (some (Sh.enc AM3 y)) K=K y:=yZ rfl y K
def QA (x:aU×aU×aU):Option T:=some (pPR (btw x.1 x.2.1 x.2.2))
def fD:List T->Option T:=gS A6I QA
def A22 {a0 a1 a2}:fD [aF true aC a0,aF true aC a1,aF true aC a2]=QA (a0,a1,a2):=bH (s:=A6I) rfl (a0,a1,a2) rfl
def BJV:Of3 Tryz.prog 360 fD QA (cQ A6I) AYE:=J4 (a1:=(true,aC)) (a2:=(true,aC)) (a3:=(true,aC)) (Hs:=BMC) (k:=8) A82 aV aY (aN rfl) ⟨_,_,Tryz.func360,rfl⟩ rfl λ_ _ _ _=>by kernel_rfl
def BHH:aO Tryz.prog 360 fD:=BJV λa b c r h hb=>by
 cases h;unfold AYE WP d4;rw[V9,V9,V7,V7];refine cO (λh1=>cO (λh2=>cO (λh3=>jQ ?_) λh3=>jQ ?_) λh2=>jQ ?_) λh1=>jQ ?_
 all_goals simp[btw,h1]
 all_goals simp[h2]
 all_goals simp[h3]
def BLO:Env:=Env.of [(356,.pure gW),(368,.pure uC)]
def BMB:FuncId->Hint:=λ_=>a6
def A8W:aR Tryz.prog BLO:=.cons zJ (.cons AHS (.nil _))
def GT(a0:aU)(a1:aU)(a2:aU):List T:=[aF true aC a0,aF true aC a1,aF true aC a2]
def AX3(a0:aU)(a1:aU)(a2:aU)(R:T->Prop):Prop:=aM d8 (gW (GT a0 a1 a2)) λ(y0:Int)=>aD (decide (y0=0)) (aM d5 (uC (GT a0 a1 a2)) λ(y1:Bool)=>R (pPR y1)) (R d4)
abbrev A6H:Sh:=[(true,aC),(true,aC),(true,aC)]
def YB (x:aU×aU×aU):Option T:=OT x.1 x.2.1 x.2.2 (pPR (WE x.1 x.2.1 x.2.2))
def xS:List T->Option T:=gS A6H YB
def A2V {a0 a1 a2}:xS [aF true aC a0,aF true aC a1,aF true aC a2]=YB (a0,a1,a2):=bH (s:=A6H) rfl (a0,a1,a2) rfl
def BJP:Of3 Tryz.prog 361 xS YB (cQ A6H) AX3:=J4 (a1:=(true,aC)) (a2:=(true,aC)) (a3:=(true,aC)) (Hs:=BMB) (k:=8) A8W aV aY (aN rfl) ⟨_,_,Tryz.func361,rfl⟩ rfl λ_ _ _ _=>by kernel_rfl
def A0T:aO Tryz.prog 361 xS:=BJP λa b c r h hb=>by
 obtain ⟨h1,h2,h3,rfl⟩:=OU h;unfold AX3 GT d8 d5 d4;refine aK (s:=[(false,.int .i64)]) (kF h1 h2 h3) ?_;refine cO (λh=>?_) λh=>jQ (by unfold WE;rw[aj h];rfl);refine aK (s:=[(false,.bool)]) (y:=btw a b c) (VQ ..) ?_;exact jQ (by unfold WE;rw[ai h];rfl)
def xT {a b c:Pt} (h1:eC a) (h2:eC b) (h3:eC c):xS [aF true aC a,aF true aC b,aF true aC c]=some (Sh.enc [(false,.bool)] (WE a b c)):=(A2V ..).trans (OV _ h1 h2 h3)
def S5 (a b c d:Pt) (r:α):Option α:=match decide (eC a/\eC b/\eC c/\eC d) with
 | true=>some r
 | false=>none
def AC7 {a b c d:Pt} {t r:α} (h:S5 a b c d t=some r):eC a/\eC b/\eC c/\eC d/\r=t:=by
 unfold S5 at h;split at h
 ·rename_i hc;cases h;obtain ⟨h1,h2,h3,h4⟩:=of_decide_eq_true hc;exact ⟨h1,h2,h3,h4,rfl⟩
 ·cases h
def AC8 {a b c d:Pt} (t:α) (ha:eC a) (hb:eC b) (hc:eC c) (hd:eC d):S5 a b c d t=some t:=by unfold S5;rw[ai ⟨ha,hb,hc,hd⟩]
def A7I:Env:=Env.of [(356,.pure gW),(361,.pure xS),(367,.pure pQ)]
def A89:FuncId->Hint:=λ_=>a6
def AO0:aR Tryz.prog A7I:=.cons zJ (.cons A0T (.cons A0U (.nil _)))
def n8(a0:aU)(a1:aU)(a3:aU):List T:=[aF true aC a0,aF true aC a1, aF true aC a3]
def BO6(y4:Int):List T:=[pPP y4]
def UJ(a0:aU)(a1:aU)(a2:aU)(a3:aU)(R:T->Prop):Prop:=aM d5 (xS (GT a0 a1 a2)) λ(y0:Bool)=>aD y0 (R d7) (aM d5 (xS (GT a0 a1 a3)) λ(y1:Bool)=>aD y1 (R d7) (aM d5 (xS (GT a2 a3 a0)) λ(y2:Bool)=>aD y2 (R d7) (aM d5 (xS (GT a2 a3 a1)) λ(y3:Bool)=>aD y3 (R d7) (aM d8 (gW (GT a0 a1 a2)) λ(y4:Int)=>aM d8 (pQ (BO6 y4)) λ(y5:Int)=>aM d8 (gW (n8 a0 a1 a3)) λ(y6:Int)=>aM d8 (pQ (BO6 y6)) λ(y7:Int)=>aD (decide (i64.wrap (y5*y7)<0)) (aM d8 (gW (n8 a2 a3 a0)) λ(y8:Int)=>aM d8 (pQ (BO6 y8)) λ(y9:Int)=>aM d8 (gW (n8 a2 a3 a1)) λ(y10:Int)=>aM d8 (pQ (BO6 y10)) λ(y11:Int)=>R (pPR (decide (i64.wrap (y9*y11)<0)))) (R d4)))))
abbrev W0:Sh:=[(true,aC),(true,aC),(true,aC),(true,aC)]
def FW (x:aU×aU×aU×aU):Option T:=S5 x.1 x.2.1 x.2.2.1 x.2.2.2 (pPR (nD x.1 x.2.1 x.2.2.1 x.2.2.2))
def r6:List T->Option T:=gS W0 FW
def AIC {a0 a1 a2 a3}:r6 [aF true aC a0,aF true aC a1,aF true aC a2,
 aF true aC a3]=FW (a0,a1,a2,a3):=bH (s:=W0) rfl (a0,a1,a2,a3) rfl
def A4P:Of4 Tryz.prog 357 r6 FW (cQ W0) UJ:=BNM (a1:=(true,aC)) (a2:=(true,aC)) (a3:=(true,aC)) (a4:=(true,aC)) (Hs:=A89) (k:=8) AO0 aV aY (aN rfl) ⟨_,_,Tryz.func357,rfl⟩ rfl λ_ _ _ _ _=>by kernel_rfl
def A0S:aO Tryz.prog 357 r6:=A4P λa b c d r h hb=>by
 obtain ⟨h1,h2,h3,h4,rfl⟩:=AC7 h;unfold UJ BO6 GT n8 d8 d7 d5 d4;refine aK (s:=[(false,.bool)]) (xT h1 h2 h3) ?_;refine DQ (λh=>jQ (by unfold nD;rw[h];rfl)) λk1=>?_;refine aK (s:=[(false,.bool)]) (xT h1 h2 h4) ?_;refine DQ (λh=>jQ (by unfold nD;rw[h,k1];rfl)) λk2=>?_;refine aK (s:=[(false,.bool)]) (xT h3 h4 h1) ?_;refine DQ (λh=>jQ (by unfold nD;rw[h,k1,k2];rfl)) λk3=>?_;refine aK (s:=[(false,.bool)]) (xT h3 h4 h2) ?_;refine DQ (λh=>jQ (by unfold nD;rw[h,k1,k2,k3];rfl)) λk4=>?_;refine aK (s:=[(false,.int .i64)]) (kF h1 h2 h3) ?_;refine aK (s:=[(false,.int .i64)]) (vG _) ?_;refine aK (s:=[(false,.int .i64)]) (kF h1 h2 h4) ?_;refine aK (s:=[(false,.int .i64)]) (vG _) ?_;rw[F7];refine cO (λh=>?_) λh=>jQ (by unfold nD;rw[k1,k2,k3,k4,aj h];rfl);refine aK (s:=[(false,.int .i64)]) (kF h3 h4 h1) ?_;refine aK (s:=[(false,.int .i64)]) (vG _) ?_;refine aK (s:=[(false,.int .i64)]) (kF h3 h4 h2) ?_;refine aK (s:=[(false,.int .i64)]) (vG _) ?_;rw[F7];exact jQ (by unfold nD;rw[k1,k2,k3,k4,ai h];rfl)
def AID {a b c d:Pt} (h1:eC a) (h2:eC b) (h3:eC c) (h4:eC d):r6 [aF true aC a,aF true aC b,aF true aC c,aF true aC d]=some (Sh.enc [(false,.bool)] (nD a b c d)):=(AIC ..).trans (AC8 _ h1 h2 h3 h4)
def BEZ:Env:=Env.of []
def BFF:FuncId->Hint:=λ_=>a6
def AV4:aR Tryz.prog BEZ:=.nil _
def AGE(a0:aU)(R:T->Prop):Prop:=aD (decide (a0.1 < -32768)) (R d7) (aD (decide (32768<a0.1)) (R d7) (aD (decide (a0.2 < -32768)) (R d7) (R (pPR (decide (32768<a0.2))))))
abbrev AJ0:Sh:=[(true,aC)]
def KS (q:aU):Option T:=some (pPR (!decide (eC q)))
def CK:List T->Option T:=gS AJ0 KS
def SK {a0}:CK [aF true aC a0]=KS (a0):=bH (s:=AJ0) rfl (a0) rfl
def BCF:yW Tryz.prog 340 CK KS (cQ AJ0) AGE:=kW (a1:=(true,aC)) (Hs:=BFF) (k:=8) AV4 aV aY (aN rfl) ⟨_,_,Tryz.func340,rfl⟩ rfl λ_ _=>by kernel_rfl
def AL1:aO Tryz.prog 340 CK:=BCF λq r h hb=>by
 cases h;unfold AGE d7;have no:¬ eC q->true = !decide (eC q):=λh=>by rw[aj h];rfl
 refine cO (λh=>jQ (no (by unfold eC;omega))) λh1=>cO (λh=>jQ (no (by unfold eC;omega))) λh2=>cO (λh=>jQ (no (by unfold eC;omega))) λh3=>jQ ?_;by_cases h:eC q
 ·rw[ai h,Bool.not_true];unfold eC at h;exact aj (by omega)
 ·rw[aj h,Bool.not_false];unfold eC at h;exact ai (by omega)
def A6P {n:Int}:QK n=0↔n=0:=by
 unfold QK;split
 ·omega
 ·split<;>omega
def AVH:Env:=Env.of [(359,.pure nB),(358,.pure pR),(360,.pure fD)]
def AY1:FuncId->Hint:=λ_=>a6
def AFO:aR Tryz.prog AVH:=.cons AQ6 (.cons A0V (.cons BHH (.nil _)))
def RK(y5:Int)(a2:aU)(a3:aU)(a0:aU)(R:T->Prop)(y7:Int)(a1:aU):Prop:=aD (decide (y5=0)) (aM d5 (fD (n8 a2 a3 a0)) λ(y10:Bool)=>aD y10 (R d7) (aD (decide (y7=0)) (aM d5 (fD (n8 a2 a3 a1)) λ(y11:Bool)=>R (pPR y11)) (R d4))) (aD (decide (y7=0)) (aM d5 (fD (n8 a2 a3 a1)) λ(y12:Bool)=>R (pPR y12)) (R d4))
def f7(y3:Int)(a0:aU)(a1:aU)(a3:aU)(R:T->Prop)(y5:Int)(a2:aU)(y7:Int):Prop:=aD (decide (y3=0)) (aM d5 (fD (n8 a0 a1 a3)) λ(y9:Bool)=>aD y9 (R d7) (RK y5 a2 a3 a0 R y7 a1)) (RK y5 a2 a3 a0 R y7 a1)
def MD(a0:aU)(a1:aU)(a2:aU)(a3:aU)(R:T->Prop):Prop:=aM d8 (nB (GT a0 a1 a2)) λ(y0:Int)=>aM d8 (pR (BO6 y0)) λ(y1:Int)=>aM d8 (nB (GT a0 a1 a3)) λ(y2:Int)=>aM d8 (pR (BO6 y2)) λ(y3:Int)=>aM d8 (nB (GT a2 a3 a0)) λ(y4:Int)=>aM d8 (pR (BO6 y4)) λ(y5:Int)=>aM d8 (nB (GT a2 a3 a1)) λ(y6:Int)=>aM d8 (pR (BO6 y6)) λ(y7:Int)=>aD (decide (i64.wrap (y1*y3)<0)) (aD (decide (i64.wrap (y5*y7)<0)) (R d7) (aD (decide (y1=0)) (aM d5 (fD (n8 a0 a1 a2)) λ(y8:Bool)=>aD y8 (R d7) (f7 y3 a0 a1 a3 R y5 a2 y7)) (f7 y3 a0 a1 a3 R y5 a2 y7))) (aD (decide (y1=0)) (aM d5 (fD (n8 a0 a1 a2)) λ(y23:Bool)=>aD y23 (R d7) (f7 y3 a0 a1 a3 R y5 a2 y7)) (f7 y3 a0 a1 a3 R y5 a2 y7))
abbrev PW:Sh:=[(true,aC),(true,aC),(true,aC),(true,aC)]
def AO (x:aU×aU×aU×aU):Option T:=S5 x.1 x.2.1 x.2.2.1 x.2.2.2 (pPR (nD x.1 x.2.1 x.2.2.1 x.2.2.2))
def xW:List T->Option T:=gS PW AO
def ACD {a0 a1 a2 a3}:xW [aF true aC a0,aF true aC a1,aF true aC a2,
 aF true aC a3]=AO (a0,a1,a2,a3):=bH (s:=PW) rfl (a0,a1,a2,a3) rfl
def AS8:Of4 Tryz.prog 344 xW AO (cQ PW) MD:=BNM (a1:=(true,aC)) (a2:=(true,aC)) (a3:=(true,aC)) (a4:=(true,aC)) (Hs:=AY1) (k:=8) AFO aV aY (aN rfl) ⟨_,_,Tryz.func344,rfl⟩ rfl λ_ _ _ _ _=>by kernel_rfl
def A5V (a b c:Pt) (K:Bool->Prop):aM [(false,Sy.bool)] (fD [aF true aC a,aF true aC b,aF true aC c]) K=K (btw a b c):=by
 rw[show fD [aF true aC a,aF true aC b,aF true aC c]=QA (a,b,c) from A22 ..];exact AJL _ K
def AQ7:aO Tryz.prog 344 xW:=AS8 λa b c d r h hb=>by
 obtain ⟨h1,h2,h3,h4,rfl⟩:=AC7 h;unfold MD BO6 GT f7 RK n8 d8 d7 d5 d4;refine aK (s:=[(false,.int .i64)]) (r7 h1 h2 h3) ?_;refine aK (s:=[(false,.int .i64)]) (vH _) ?_;refine aK (s:=[(false,.int .i64)]) (r7 h1 h2 h4) ?_;refine aK (s:=[(false,.int .i64)]) (vH _) ?_;refine aK (s:=[(false,.int .i64)]) (r7 h3 h4 h1) ?_;refine aK (s:=[(false,.int .i64)]) (vH _) ?_;refine aK (s:=[(false,.int .i64)]) (r7 h3 h4 h2) ?_;refine aK (s:=[(false,.int .i64)]) (vH _) ?_;rw[F7,F7];have e:∀ {n:Bool},nD a b c d=n->pPR n=pPR (nD a b c d):=λh=>by rw[h]
 simp only[A5V];unfold nD at e;unfold WE at e;clear h hb
 repeat' first
  | refine cO (λh=>?_) (λh=>?_)
  | refine DQ (λh=>?_) (λh=>?_)
 all_goals (refine e ?_;clear e;simp only[A6P] at *;simp[*,show QK 0=0 from rfl])
end Go.Pv
namespace Go.Pv
open Go Go.Proofs IntKind
def WJ {p:List Pt} {i:Nat} (h:i<p.length):pt p i=p[i]:=by unfold pt;rw[List.getD_eq_getElem?_getD,List.getElem?_eq_getElem h];rfl
def fY {p:List aU} {k:Nat} (h:k<p.length) (K:aU->Prop):aX aC (List.map aC.enc p) (k:Int) K=K (pt p k):=by
 rw[bG (r:=aC) h,WJ h]
def vJ {i n c:Nat} (hn:n<=1000) (hi:i<=1000) (hc:c<=2):(i64.wrap ((i:Int)+(c:Int))).tmod (n:Int)=(((i+c) % n:Nat):Int):=by
 rw[bB _ (by omega) (by omega),Int.tmod_eq_emod_of_nonneg (by omega),Int.natCast_emod,Int.natCast_add]
def AQC (a b c:Pt):Int:=(a.1-b.1)*(c.1-b.1)+(a.2-b.2)*(c.2-b.2)
def Q6 (p:List Pt) (i k:Nat):Bool:=!(!decide ((k+1) % p.length=i)&&nD (pt p i) (nx p i) (pt p k) (nx p k))
def nxx (p:List Pt) (i:Nat):Pt:=pt p ((i+2) % p.length)
def ADI (p:List Pt) (i:Nat):Bool:=!decide (pt p i=nx p i)&&(!(decide (eP (pt p i) (nx p i) (nxx p i)=0)&&decide (0<AQC (pt p i) (nx p i) (nxx p i)))&&(List.range p.length).all λk=>decide (k<i+2)||Q6 p i k)
def JR (p:List Pt):Bool:=(List.range p.length).all (ADI p)
def kY (p:List Pt):Prop:=∀ q∈p,eC q
def OW (p:List Pt):Bool:=p.all λq=>decide (eC q)
def n7 {p:List Pt}:OW p=true↔kY p:=by
 simp only[OW,List.all_eq_true,ah];exact Iff.rfl
def kY.pt {p:List Pt} (h:kY p) (i:Nat):eC (pt p i):=by
 rcases Nat.lt_or_ge i p.length with hi|hi
 ·rw[WJ hi];exact h _ (ak hi)
 ·unfold Go.Pv.pt;rw[List.getD_eq_getElem?_getD,List.getElem?_eq_none hi];unfold eC;decide
def Q5 (p:List Pt):Bool:=decide (p.length<=1000)&&OW p
variable {α:Type}
def TC (p:List Pt) (r:α):Option α:=match Q5 p with
 | true=>some r
 | false=>none
def ADK {p:List Pt} {t r:α} (h:TC p t=some r):p.length<=1000/\kY p/\r=t:=by
 unfold TC at h;split at h
 ·rename_i hc;simp only[Q5,ac,ah,n7] at hc;cases h;exact ⟨hc.1,hc.2,rfl⟩
 ·cases h
def ADL {p:List Pt} (t:α) (h:p.length<=1000) (h2:kY p):TC p t=some t:=by
 unfold TC;rw[show Q5 p=true by simp only[Q5,ac,ah,n7];exact ⟨h,h2⟩]
def A67 {a b c:Pt} (ha:eC a) (hb:eC b) (hc:eC c):i64.wrap (i64.wrap (i64.wrap (a.1-b.1)*i64.wrap (c.1-b.1))+i64.wrap (i64.wrap (a.2-b.2)*i64.wrap (c.2-b.2)))=AQC a b c:=by
 unfold eC at ha hb hc;have h1:=DD (x:=a.1-b.1) (y:=c.1-b.1) (M:=65536) (N:=65536) (by omega) (by omega) (by omega) (by omega);have h2:=DD (x:=a.2-b.2) (y:=c.2-b.2) (M:=65536) (N:=65536) (by omega) (by omega) (by omega) (by omega);rw[bB (a.1-b.1) (by omega) (by omega),bB (c.2-b.2) (by omega) (by omega),bB (a.2-b.2) (by omega) (by omega),bB (c.1-b.1) (by omega) (by omega),
  bB ((a.1-b.1)*(c.1-b.1)) (by omega) (by omega),bB ((a.2-b.2)*(c.2-b.2)) (by omega) (by omega),bB _ (by omega) (by omega)]
 rfl
def AOL:Env:=Env.of [(356,.pure gW),(357,.pure r6)]
def APN:FuncId->Hint:=cF 341 [(3,.inv [.val 13 false (.int .i64)]),(12,.inv [.val 8 false (.int .i64)])] (λ_=>a6)
def Y1:aR Tryz.prog AOL:=.cons zJ (.cons A0S (.nil _))
def i8(a0:List aU)(s1:Int×PUnit)(y2:aU)(y3:aU)(R:T->Prop)(X0:Int×PUnit->Prop):Prop:=a8 (Int×PUnit) (λX6 s7=>aD (decide (s7.1<(↑(i6 a0).length:Int))) (b7 (!decide ((↑(i6 a0).length:Int)=0)) (aD (!decide ((i64.wrap (s7.1+1)).tmod (↑(i6 a0).length:Int) = s1.1)) (aX aC (i6 a0) s7.1 λ(y8:aU)=>b7 (!decide ((↑(i6 a0).length:Int)=0)) (aX aC (i6 a0) ((i64.wrap (s7.1+1)).tmod (↑(i6 a0).length:Int)) λ(y9:aU)=>aM d5 (r6 [aF true aC y2,aF true aC y3, aF true aC y8,aF true aC y9]) λ(y10:Bool)=>aD y10 (R d4) (g9 X6 s7))) (g9 X6 s7))) (g9 X0 s1)) (i64.wrap (s1.1+2),())
def GF(a0:List aU)(R:T->Prop):Prop:=a8 (Int×PUnit) (λX0 s1=>aD (decide (s1.1<(↑(i6 a0).length:Int))) (aX aC (i6 a0) s1.1 λ(y2:aU)=>b7 (!decide ((↑(i6 a0).length:Int)=0)) (aX aC (i6 a0) ((i64.wrap (s1.1+1)).tmod (↑(i6 a0).length:Int)) λ(y3:aU)=>aD (decide (y2.1=y3.1)&&(decide (y2.2=y3.2)&&true)) (R d4) (b7 (!decide ((↑(i6 a0).length:Int)=0)) (aX aC (i6 a0) ((i64.wrap (s1.1+2)).tmod (↑(i6 a0).length:Int)) λ(y4:aU)=>aM d8 (gW (n8 y2 y3 y4)) λ(y5:Int)=>aD (decide (y5=0)) (aD (decide (0 < i64.wrap (i64.wrap (i64.wrap (y2.1-y3.1)*i64.wrap (y4.1-y3.1)) + i64.wrap (i64.wrap (y2.2-y3.2)*i64.wrap (y4.2-y3.2))))) (R d4) (i8 a0 s1 y2 y3 R X0)) (i8 a0 s1 y2 y3 R X0))))) (R d7)) (0,())
abbrev IA:Sh:=[(false,aC.li)]
def vX (p:List aU):Option T:=TC p (pPR (JR p))
def nX:List T->Option T:=gS IA vX
def VN {a0}:nX [T.sl false (List.map aC.enc a0)]=vX (a0):=bH (s:=IA) rfl (a0) rfl
def AI8:yW Tryz.prog 341 nX vX (cQ IA) GF:=kW (a1:=(false,aC.li)) (Hs:=APN) (k:=8) Y1 aV aY (aN rfl) ⟨_,_,Tryz.func341,rfl⟩ rfl λ_ _=>by kernel_rfl
def UU {n:Nat} {f:Nat->Bool} {i:Nat} (hi:i<n) (h:f i=false):(List.range n).all f=false:=by
 rw[Bool.eq_false_iff];intro ha;have:=pX.1 ha i hi;rw[h] at this;cases this
def ATY {p:List aU} {i:Nat} (hl:p.length<=1000) (hn:kY p) (hi:i<p.length) {Bad Good:Prop} (hbad:(List.range p.length).all (λk=>decide (k<i+2)||Q6 p i k)=false->Bad) (hgood:(List.range p.length).all (λk=>decide (k<i+2)||Q6 p i k)=true->Good) :
  a8 (Int×PUnit)
   (λ(X6:Int×PUnit->Prop) (s7:Int×PUnit) =>
    aD (decide (s7.1<(↑(List.map aC.enc p).length:Int)))
     (b7 (!decide ((↑(List.map aC.enc p).length:Int)=0))
      (aD (!decide ((i64.wrap (s7.1+1)).tmod (↑(List.map aC.enc p).length:Int)=(i:Int)))
       (aX aC (List.map aC.enc p) s7.1 λ(y8:aU) =>
        b7 (!decide ((↑(List.map aC.enc p).length:Int)=0))
         (aX aC (List.map aC.enc p) ((i64.wrap (s7.1+1)).tmod (↑(List.map aC.enc p).length:Int))
          λ(y9:aU) =>
          aM [(false,Sy.bool)] (r6 [aF true aC (pt p i),aF true aC (nx p i),aF true aC y8,aF true aC y9])
           λ(y10:Bool)=>aD y10 Bad (X6 (i64.wrap (s7.1+1),()))))
       (X6 (i64.wrap (s7.1+1),()))))
     Good)
   (i64.wrap ((i:Int)+2),()):=by
 refine bN p.length (λm s=>s=(((i+2+m:Nat):Int),())/\∀ k,k<i+2+m->k<p.length->(decide (k<i+2)||Q6 p i k)=true) ⟨by rw[bB _ (by omega) (by omega)];simp,λk h1 h2=>by simp at h1;simp[h1]⟩ ?_;rintro X m s hm ⟨rfl,hJ⟩ hX;dsimp only;rw[ae];refine cO (λhlt=>?_) λhge=>hgood (pX.2 λk hk=>hJ k (by omega) hk);have hk:i+2+m<p.length:=by omega
 have hne:(!decide ((p.length:Int)=0))=true:=by rw[aj (by omega)];rfl
 have hix:(i64.wrap (((i+2+m:Nat):Int)+1)).tmod (p.length:Int)=(((i+2+m+1) % p.length:Nat):Int):=vJ (c:=1) hl (by omega) (by omega);have hw:i64.wrap (((i+2+m:Nat):Int)+1)=((i+2+(m+1):Nat):Int):=by rw[bB _ (by omega) (by omega)];omega
 have hmod:(i+2+m+1) % p.length<p.length:=Nat.mod_lt _ (by omega);have go:Q6 p i (i+2+m)=true->X (((i+2+(m+1):Nat):Int),()):=λh=>hX _ (by omega) ⟨rfl,λk h1 h2=>by
  rcases Nat.lt_or_ge k (i+2+m) with h3|h3
  ·exact hJ k h3 h2
  ·have:k=i+2+m:=by omega
   subst this;rw[h];simp⟩
 refine ⟨hne,?_⟩;rw[hix,hw];refine lK (λh=>?_) λh=>go (by unfold Q6;rw[ai (show (i+2+m+1) % p.length=i by omega)];rfl);rw[fY hk,A5M,fY hmod];refine ⟨hne,?_⟩;refine aK (s:=[(false,.bool)]) (AID (hn.pt _) (hn.pt _) (hn.pt _) (hn.pt _)) ?_;have e:Q6 p i (i+2+m) = !nD (pt p i) (nx p i) (pt p (i+2+m)) (nx p (i+2+m)):=by
  unfold Q6;rw[aj (show ¬ (i+2+m+1) % p.length=i by omega)];rfl
 refine DQ (λhm=>hbad (UU hk ?_)) λhm=>go ?_
 ·show (decide (i+2+m<i+2)||Q6 p i (i+2+m))=false;rw[e,show nD (pt p i) (nx p i) (pt p (i+2+m)) (nx p (i+2+m))=true from hm];simp
 ·rw[e,show nD (pt p i) (nx p i) (pt p (i+2+m)) (nx p (i+2+m))=false from hm];rfl
def AHR:aO Tryz.prog 341 nX:=AI8 λp r h hb=>by
 obtain ⟨hl,hn,rfl⟩:=ADK h;clear h;unfold GF i8 i6 g9 n8 d8 d7 d5 d4;refine bN p.length (λk s=>s=((k:Int),())/\∀ i,i<k->i<p.length->ADI p i=true) ⟨rfl,λi h=>by omega⟩ ?_;rintro X k s hk ⟨rfl,hJ⟩ hX;dsimp only;refine cO (λhlt=>?_) λhge=>jQ (Eq.symm (pX.2 λi hi=>hJ i (by rw[ae] at hge;omega) hi));rw[ae] at hlt;have hlt:k<p.length:=by omega
 have hne:(!decide (((List.map aC.enc p).length:Int)=0))=true:=by rw[ae,aj (by omega)];rfl
 have hm1:(k+1) % p.length<p.length:=Nat.mod_lt _ (by omega);have hm2:(k+2) % p.length<p.length:=Nat.mod_lt _ (by omega);have i1:(i64.wrap ((k:Int)+1)).tmod ((List.map aC.enc p).length:Int)=(((k+1) % p.length:Nat):Int):=by rw[ae];exact vJ (c:=1) hl (by omega) (by omega)
 have i2:(i64.wrap ((k:Int)+2)).tmod ((List.map aC.enc p).length:Int)=(((k+2) % p.length:Nat):Int):=by rw[ae];exact vJ (c:=2) hl (by omega) (by omega)
 have bad:ADI p k=false->pPR false=pPR (JR p):=λh=>jQ (UU hlt h).symm;have oO:ADI p k=true->X (i64.wrap ((k:Int)+1),()):=λh=>hX _ hlt ⟨by rw[show i64.wrap ((k:Int)+1)=((k+1:Nat):Int) from bB _ (by omega) (by omega)],λi h1 h2=>by
  rcases Nat.lt_or_ge i k with h3|h3
  ·exact hJ i h3 h2
  ·have:i=k:=by omega
   subst this;exact h⟩
 rw[fY hlt,i1];refine ⟨hne,?_⟩;rw[fY hm1];have heq:(decide ((pt p k).1=(pt p ((k+1) % p.length)).1)&&(decide ((pt p k).2=(pt p ((k+1) % p.length)).2)&&true))=decide (pt p k=nx p k):=by
  rw[Bool.and_true,<-Bool.decide_and];exact decide_eq_decide.2 Prod.ext_iff.symm
 rw[heq];refine cO (λh=>bad (by unfold ADI;rw[ai h];rfl)) λh1=>?_;refine ⟨hne,?_⟩;rw[i2,fY hm2];refine aK (s:=[(false,.int .i64)]) (kF (hn.pt _) (hn.pt _) (hn.pt _)) ?_;have inner:(decide (eP (pt p k) (nx p k) (nxx p k)=0)&&decide (0<AQC (pt p k) (nx p k) (nxx p k)))=false->ADI p k=(List.range p.length).all λj=>decide (j<k+2)||Q6 p k j:=λh=>by
  unfold ADI;rw[aj h1,h];simp
 have tail:(decide (eP (pt p k) (nx p k) (nxx p k)=0)&&decide (0<AQC (pt p k) (nx p k) (nxx p k)))=false->_:=λh=>ATY (Bad:=pPR false=pPR (JR p)) (Good:=X (i64.wrap ((k:Int)+1),())) hl hn hlt (λh2=>bad (by rw[inner h,h2])) (λh2=>oO (by rw[inner h,h2]));refine cO (λh2=>?_) λh2=>tail (by rw[show decide (eP (pt p k) (nx p k) (nxx p k)=0)=false from aj h2];rfl);rw[A67 (hn.pt _) (hn.pt _) (hn.pt _)];refine cO (λh3=>bad ?_) λh3=>tail (by rw[show decide (0<AQC (pt p k) (nx p k) (nxx p k))=false from aj h3];simp);unfold ADI;rw[ai (show eP (pt p k) (nx p k) (nxx p k)=0 from h2),ai (show 0<AQC (pt p k) (nx p k) (nxx p k) from h3)];simp
def VO {p:List Pt} (h:p.length<=1000) (h2:kY p):nX [T.sl false (List.map aC.enc p)]=some (Sh.enc [(false,.bool)] (JR p)):=(VN ..).trans (ADL _ h h2)
def A5:Nat->(Nat->Int)->Int
 | 0,_=>0
 | n+1,f=>A5 n f+f n
def AJ7 (p:List Pt) (i:Nat):Int:=(pt p i).1*(nx p i).2-(nx p i).1*(pt p i).2
def MY (p:List Pt):Int:=A5 p.length (AJ7 p)
def AM9 {p:List Pt} (h:kY p) (i:Nat):(-1073741824<=(pt p i).1*(nx p i).2/\(pt p i).1*(nx p i).2<=1073741824)/\(-1073741824<=(nx p i).1*(pt p i).2/\(nx p i).1*(pt p i).2<=1073741824):=by
 have h1:=h.pt i;have h2:eC (nx p i):=h.pt _;unfold eC at h1 h2;have b1:=DD (x:=(pt p i).1) (y:=(nx p i).2) (M:=32768) (N:=32768) (by omega) (by omega) (by omega) (by omega);have b2:=DD (x:=(nx p i).1) (y:=(pt p i).2) (M:=32768) (N:=32768) (by omega) (by omega) (by omega) (by omega);constructor<;>constructor<;>omega
def KE {p:List Pt} (h:kY p):∀ n:Nat,-(2147483648*(n:Int))<=A5 n (AJ7 p)/\A5 n (AJ7 p)<=2147483648*(n:Int)
 | 0=>by simp[A5]
 | n+1=>by
  have ih:=KE h n;have hb:=AM9 h n;unfold A5;have e:AJ7 p n=(pt p n).1*(nx p n).2-(nx p n).1*(pt p n).2:=rfl;constructor<;>push_cast<;>omega
def A7F:Env:=Env.of []
def A86:FuncId->Hint:=cF 342 [(3,.inv [.val 3 false (.int .i64),.val 9 false (.int .i64)])] (λ_=>a6)
def AOX:aR Tryz.prog A7F:=.nil _
def UG(a0:List aU)(R:T->Prop):Prop:=a8 (Int×Int×PUnit) (λX0 s1=>aD (decide (s1.2.1<(↑(i6 a0).length:Int))) (aX aC (i6 a0) s1.2.1 λ(y2:aU)=>b7 (!decide ((↑(i6 a0).length:Int)=0)) (aX aC (i6 a0) ((i64.wrap (s1.2.1+1)).tmod (↑(i6 a0).length:Int)) λ(y3:aU)=>X0 (i64.wrap (s1.1 + i64.wrap (i64.wrap (y2.1*y3.2)-i64.wrap (y3.1*y2.2))), i64.wrap (s1.2.1+1),()))) (R (pPP s1.1))) (0,0,())
abbrev WX:Sh:=[(false,aC.li)]
def FU (p:List aU):Option T:=TC p (T.v (Value.int .i64 (MY p)))
def pN:List T->Option T:=gS WX FU
def AIA {a0}:pN [T.sl false (List.map aC.enc a0)]=FU (a0):=bH (s:=WX) rfl (a0) rfl
def A4M:yW Tryz.prog 342 pN FU (cQ WX) UG:=kW (a1:=(false,aC.li)) (Hs:=A86) (k:=8) AOX aV aY (aN rfl) ⟨_,_,Tryz.func342,rfl⟩ rfl λ_ _=>by kernel_rfl
def AAS:aO Tryz.prog 342 pN:=A4M λp r h hb=>by
 obtain ⟨hl,hn,rfl⟩:=ADK h;clear h;unfold UG i6;refine bN p.length (λk s=>s=(A5 k (AJ7 p),(k:Int),())) rfl ?_;rintro X k s hk rfl hX;dsimp only;refine cO (λhlt=>?_) λhge=>J0 (by rw[ae] at hge;rw[show k=p.length by omega];rfl);rw[ae] at hlt;have hlt:k<p.length:=by omega
 have hne:(!decide (((List.map aC.enc p).length:Int)=0))=true:=by rw[ae,aj (by omega)];rfl
 have hm1:(k+1) % p.length<p.length:=Nat.mod_lt _ (by omega);have i1:(i64.wrap ((k:Int)+1)).tmod ((List.map aC.enc p).length:Int)=(((k+1) % p.length:Nat):Int):=by rw[ae];exact vJ (c:=1) hl (by omega) (by omega)
 rw[fY hlt,i1];refine ⟨hne,?_⟩;rw[fY hm1];have hb1:=AM9 hn k;have hb2:=KE hn k;have hb3:=KE hn (k+1);refine hX _ hlt ?_;rw[show i64.wrap ((k:Int)+1)=((k+1:Nat):Int) from bB _ (by omega) (by omega)];have e:i64.wrap (A5 k (AJ7 p)+i64.wrap (i64.wrap ((pt p k).1*(nx p k).2)-i64.wrap ((nx p k).1*(pt p k).2)))=A5 (k+1) (AJ7 p):=by
  rw[bB ((pt p k).1*(nx p k).2) (by omega) (by omega),bB ((nx p k).1*(pt p k).2) (by omega) (by omega),bB ((pt p k).1*(nx p k).2-(nx p k).1*(pt p k).2) (by omega) (by omega),bB _ (by omega) (by omega)];rfl
 rw[<-e];rfl
def OH {p:List Pt} (h:p.length<=1000) (h2:kY p):pN [T.sl false (List.map aC.enc p)]=some (Sh.enc [(false,.int .i64)] (MY p)):=(AIA ..).trans (ADL _ h h2)
def lB (p:List Pt):Int:=if p.length<3 then 3 else if 32<p.length then 4 else if OW p=false then 9 else if JR p=false\/MY p=0 then 17 else 0
def AOJ:Env:=Env.of [(340,.pure CK),(341,.pure nX),(342,.pure pN)]
def APL:FuncId->Hint:=cF 355 [(2,.inv [.val 8 false (.int .i64)])] (λ_=>a6)
def YZ:aR Tryz.prog AOJ:=.cons AL1 (.cons AHR (.cons AAS (.nil _)))
def PP(a0:List aU)(R:T->Prop):Prop:=aM d5 (nX (BO1 a0)) λ(y4:Bool)=>aD (!y4) (R (pPP 17)) (aM d8 (pN (BO1 a0)) λ(y5:Int)=>aD (decide (y5=0)) (R (pPP 17)) (BO2 R))
def GC(a0:List aU)(R:T->Prop):Prop:=aD (decide ((↑(i6 a0).length:Int)<3)) (R (pPP 3)) (aD (decide (32<(↑(i6 a0).length:Int))) (R (pPP 4)) (a8 (Int×PUnit) (λX0 s1=>aD (decide (s1.1<(↑(i6 a0).length:Int))) (aX aC (i6 a0) s1.1 λ(y2:aU)=>aM d5 (CK [aF true aC y2]) λ(y3:Bool)=>aD y3 (aD (decide (0<=s1.1)) (t8 R) (PP a0 R)) (g9 X0 s1)) (PP a0 R)) (0,())))
abbrev H8:Sh:=[(false,aC.li)]
def vW (p:List aU):Option T:=some (T.v (Value.int .i64 (lB p)))
def iG:List T->Option T:=gS H8 vW
def VM {a0}:iG [T.sl false (List.map aC.enc a0)]=vW (a0):=bH (s:=H8) rfl (a0) rfl
def AI6:yW Tryz.prog 310 iG vW (cQ H8) GC:=kW (a1:=(false,aC.li)) (Hs:=APL) (k:=8) YZ aV aY (aN rfl) ⟨_,_,Tryz.func310,rfl⟩ rfl λ_ _=>by kernel_rfl
def CG:aO Tryz.prog 310 iG:=AI6 λp r h hb=>by
 cases h;have is:∀ {n:Int},lB p=n->pPP n=pPP (lB p):=λh=>by rw[h]
 unfold GC PP BO2 BO1 i6 g9 t8 d8 d5;refine cO (λh=>is (by rw[ae] at h;unfold lB;rw[if_pos (by omega)])) λh1=>?_;refine cO (λh=>is (by rw[ae] at h h1;unfold lB;rw[if_neg (by omega),if_pos (by omega)])) λh2=>?_;rw[ae] at h1 h2;refine bN p.length (λk s=>s=((k:Int),())/\∀ i,i<k->i<p.length->eC (pt p i)) ⟨rfl,λi h=>by omega⟩ ?_;rintro X k s hk ⟨rfl,hJ⟩ hX;dsimp only;refine cO (λhlt=>?_) λhge=>?_
 ·rw[ae] at hlt;have hlt:k<p.length:=by omega
  rw[fY hlt];refine aK (s:=[(false,.bool)]) (y:=!decide (eC (pt p k))) (SK ..) ?_;refine lK (λhf=>?_) λhn=>hX _ hlt ⟨by rw[show i64.wrap ((k:Int)+1)=((k+1:Nat):Int) from bB _ (by omega) (by omega)],λi h1 h2=>by
   rcases Nat.lt_or_ge i k with h3|h3
   ·exact hJ i h3 h2
   ·have:i=k:=by omega
    subst this;exact hn⟩
  refine cO (λ_=>is ?_) λh=>by omega
  have:OW p=false:=by
   rw[Bool.eq_false_iff];intro h;have:=n7.1 h _ (ak hlt);rw[<-WJ hlt] at this;exact hf this
  unfold lB;rw[if_neg (by omega),if_neg (by omega),if_pos this]
 ·have hN:kY p:=λq hq=>by
   obtain ⟨i,hi,rfl⟩:=List.mem_iff_getElem.1 hq;rw[<-WJ hi];rw[ae] at hge;exact hJ i (by omega) hi
  have hnb:¬ OW p=false:=by rw[n7.2 hN];simp
  refine aK (s:=[(false,.bool)]) (VO (by omega) hN) ?_;refine lD (λh=>is (by unfold lB;rw[if_neg (by omega),if_neg (by omega),if_neg hnb,if_pos (.inl h)])) λhs=>?_;refine aK (s:=[(false,.int .i64)]) (OH (by omega) hN) ?_;refine cO (λh=>is (by unfold lB;rw[if_neg (by omega),if_neg (by omega),if_neg hnb,if_pos (.inr h)])) λha=>is ?_;unfold lB;rw[if_neg (by omega),if_neg (by omega),if_neg hnb,if_neg];rintro (h|h)
  ·rw[show JR p=true from hs] at h;cases h
  ·exact ha h
def pO (p:List Pt):iG [T.sl false (List.map aC.enc p)]=some (Sh.enc [(false,.int .i64)] (lB p)):=VM ..
def uP {p:List Pt} (h:lB p=0):3<=p.length/\p.length<=32/\kY p/\JR p=true/\MY p≠0:=by
 unfold lB at h;by_cases h1:p.length<3
 ·rw[if_pos h1] at h;cases h
 rw[if_neg h1] at h;by_cases h2:32<p.length
 ·rw[if_pos h2] at h;cases h
 rw[if_neg h2] at h;by_cases h3:OW p=false
 ·rw[if_pos h3] at h;cases h
 rw[if_neg h3] at h;by_cases h4:JR p=false\/MY p=0
 ·rw[if_pos h4] at h;cases h
 refine ⟨by omega,by omega,n7.1 (by simpa using h3),by simpa using λe=>h4 (.inl e),λe=>h4 (.inr e)⟩
def rW (p:List Pt):Int:=if lB p=0 then MY p else 0
def AU2:Env:=Env.of [(310,.pure iG),(342,.pure pN)]
def AYR:FuncId->Hint:=λ_=>a6
def AFD:aR Tryz.prog AU2:=.cons CG (.cons AAS (.nil _))
def L2(a0:List aU)(R:T->Prop):Prop:=aM d8 (iG (BO1 a0)) λ(y0:Int)=>aD (!decide (y0=0)) (BO2 R) (aM d8 (pN (BO1 a0)) λ(y1:Int)=>R (pPP y1))
abbrev PL:Sh:=[(false,aC.li)]
def AG (p:List aU):Option T:=some (T.v (Value.int .i64 (rW p)))
def mY:List T->Option T:=gS PL AG
def ABN {a0}:mY [T.sl false (List.map aC.enc a0)]=AG (a0):=bH (s:=PL) rfl (a0) rfl
def ASX:yW Tryz.prog 311 mY AG (cQ PL) L2:=kW (a1:=(false,aC.li)) (Hs:=AYR) (k:=8) AFD aV aY (aN rfl) ⟨_,_,Tryz.func311,rfl⟩ rfl λ_ _=>by kernel_rfl
def R9:aO Tryz.prog 311 mY:=ASX λp r h hb=>by
 cases h;unfold L2 BO2 BO1 i6 d8;refine aK (s:=[(false,.int .i64)]) (pO p) ?_;refine lK (λh=>J0 (by unfold rW;rw[if_neg h])) λh=>?_;obtain ⟨_,h2,h3,_⟩:=uP h;refine aK (s:=[(false,.int .i64)]) (OH (by omega) h3) ?_;exact J0 (by unfold rW;rw[if_pos h])
def xR (p:List Pt):mY [T.sl false (List.map aC.enc p)]=some (Sh.enc [(false,.int .i64)] (rW p)):=ABN ..
end Go.Pv
end
