/-
  Facts on the program that every function's file asks for.
  slices.Clone, Insert, Delete at the design's lists.
  The seam, the part, the section with an identifier.
  The part with an identifier, as the program finds it; how thick a seam is.
  Words that several files share.
  The way from the block down to a part.
  Packages; equality of lists, shapes, parts and packages.
  StructureFinds: Part, Node, Seam and Package answer as the reference does.
  StructureSames: Same answers as the reference does.
  edit.same; copies of parts, packages, designs.
  Chapter 17: the indices of a design, walked.
  Chapter 17: rising, walked.
  strings.Split on typed data.
  Names and identifiers.
  Chapter 17: the tree's form, walked.
  Chapter 17: the tree's other methods where a design's elements are empty, and Check there.
  Chapter 17: the tree's seams and requirements.
  dag.Order, walked.
  Chapter 17: the tree's parts and packages, walked; Check, walked.
  Plane geometry, plain.
  poly: crosses and edges.
  poly: simple contours and their areas.
-/
import Derived.Test.YtipdohmdckdoeaaGreatDoorVeki
import Derived.Test.YtipdohmdckdoeaaGreatDoorVety
import Derived.Test.YtipdohmdckdoeaaGreatDoorProg
import Derived.KernelRfl
import Derived.Test.YtipdohmdckdoeaaGreatDoorVein
import Derived.Test.YtipdohmdckdoeaaGreatDoorVekj
import Derived.Test.YtipdohmdckdoeaaGreatDoorVekn
import Derived.Test.YtipdohmdckdoeaaGreatDoorVegs
import Derived.Test.YtipdohmdckdoeaaGreatDoorVesl
import Derived.Laws.RangeAny
import Derived.Test.YtipdohmdckdoeaaGreatDoorVekm
set_option linter.defProp false
set_option linter.unusedSimpArgs false
set_option linter.unusedVariables false
namespace Go.Pv
open Go Go.Proofs IntKind
def aY:Tryz.prog.follows .mixedOrders=true:=by kernel_rfl
def a7:cF Tryz.prog=true:=by kernel_rfl
end Go.Pv
set_option maxRecDepth 100000
namespace Go.Pv
open Go Go.Proofs IntKind
variable {P:Program}
def pA {t:TypeId} {zv:Value} {z b:Nat} (h:(P.info? t).map (λi=>(i.zero,i.size,i.bytes))=some (some zv,z,b)):∃ i,P.info? t=some i/\i.zero=some zv/\i.size=z/\i.bytes=b:=by
 simp only[aa,Prod.mk.injEq] at h;obtain ⟨i,h1,h2,h3,h4⟩:=h;exact ⟨i,h1,h2,h3,h4⟩
def XN:Value:=.agg #[.string ⟨#[]⟩,.int .i64 0,.string ⟨#[]⟩]
def XM:Value:=.agg #[.int .i64 0,.string ⟨#[]⟩,.string ⟨#[]⟩]
def XP:Value:=.agg #[.string ⟨#[]⟩,.string ⟨#[]⟩,.string ⟨#[]⟩,.int .i64 0,.int .i64 0,.int .i64 0]
def AG:Value:=.agg #[.string ⟨#[]⟩,.string ⟨#[]⟩,.slice none 0 0,.int .i64 0,.slice none 0 0]
def XO:Value:=.agg #[.string ⟨#[]⟩,.int .i64 0,.int .i64 0,.string ⟨#[]⟩,.string ⟨#[]⟩,.int .i64 0,.slice none 0 0,.slice none 0 0,.string ⟨#[]⟩,.int .i64 0,.int .i64 0,.int .i64 0,.int .i64 0,.int .i64 0,.int .i64 0,.int .i64 0,.int .i64 0,.int .i64 0]
def A1U:Go.Shelf.Ren:=⟨λ|22=>280|29=>322|30=>323|n=>n,λ|9=>59|24=>32|n=>n,λ|n=>n⟩
def AZU:P7 Tryz.prog A1U 3 40 XN:={
 mixed:=aY
 f22:=Exists.intro ("slices.Insert[[]shipyard/api.Node,shipyard/api.Node]") ⟨by decide,Tryz.func280.trans (congrArg some (by kernel_rfl))⟩
 ov:=λargs w=>run_callFunc_extern (P:=Tryz.prog) (f:=322) (e:=Extern.SlicesOverlaps.overlaps #[32,32] #[4]) Tryz.func322 (by kernel_rfl) (by kernel_rfl) (by kernel_rfl) (by kernel_rfl) args w
 t0:=by kernel_rfl
 a0:=λ_=>by kernel_rfl
 z0:=λ_=>by kernel_rfl
 v0:=λ_=>by kernel_rfl
 t3:=by kernel_rfl
 a3:=λ_=>by kernel_rfl
 z3:=λ_=>by kernel_rfl
 v3:=λ_=>by kernel_rfl
 t4:=by kernel_rfl
 a4:=λ_=>by kernel_rfl
 z4:=λ_=>by kernel_rfl
 v4:=λ_=>by kernel_rfl
 z9:=λ_=>by kernel_rfl
 t24:=by kernel_rfl
 a24:=λ_=>by kernel_rfl
 z24:=λ_=>by kernel_rfl
 v24:=λ_=>by kernel_rfl
 i9:=pA (by kernel_rfl) }
def kD:List (List T)->List T->Option (List (List T)):=U6 3 40
def B0:cN Tryz.prog 280 (mP 3 kD) :=
 oQ AZU (by decide) rfl (by decide) ⟨_,Tryz.func280,rfl,rfl⟩
def A1Q:Go.Shelf.Ren:=⟨λ|45=>281|n=>n,λ|23=>59|22=>32|n=>n,λ|n=>n⟩
def AXA:ADF Tryz.prog A1Q 3 XN:={
 mixed:=aY
 f45:=Exists.intro ("slices.Delete[[]shipyard/api.Node,shipyard/api.Node]") ⟨by decide,Tryz.func281.trans (congrArg some (by kernel_rfl))⟩
 t0:=by kernel_rfl
 a0:=λ_=>by kernel_rfl
 z0:=λ_=>by kernel_rfl
 v0:=λ_=>by kernel_rfl
 t3:=by kernel_rfl
 a3:=λ_=>by kernel_rfl
 z3:=λ_=>by kernel_rfl
 v3:=λ_=>by kernel_rfl
 t4:=by kernel_rfl
 a4:=λ_=>by kernel_rfl
 z4:=λ_=>by kernel_rfl
 v4:=λ_=>by kernel_rfl
 t22:=by kernel_rfl
 a22:=λ_=>by kernel_rfl
 z22:=λ_=>by kernel_rfl
 v22:=λ_=>by kernel_rfl
 z23:=λ_=>by kernel_rfl
 v23:=λ_=>by kernel_rfl
 i23:=by
  obtain ⟨i,h1,_,h2,_⟩:=pA (P:=Tryz.prog) (t:=59) (zv:=XN) (z:=3) (b:=40) (by kernel_rfl);exact ⟨i,h1,h2⟩ }
def GH:List (List T)->List T->Option (List (List T)):=U5 3
def AF6:cN Tryz.prog 281 (mP 3 GH) :=
 oP AXA rfl (by decide) ⟨_,Tryz.func281,rfl,rfl⟩
def ACS:Go.Shelf.Ren:=⟨λ|41=>103|n=>n,λ|23=>59|22=>32|n=>n,λ|n=>n⟩
def AWW:SlLaysE0.n41 Tryz.prog ACS:={
 mixed:=aY
 f41:=Exists.intro ("slices.Clone[[]shipyard/api.Node,shipyard/api.Node]") ⟨by decide,Tryz.func103.trans (congrArg some (by kernel_rfl))⟩
 t4:=by kernel_rfl
 a4:=λ_=>by kernel_rfl
 z4:=λ_=>by kernel_rfl
 v4:=λ_=>by kernel_rfl
 t22:=by kernel_rfl
 a22:=λ_=>by kernel_rfl
 z22:=λ_=>by kernel_rfl
 v22:=λ_=>by kernel_rfl }
def APS:∃ i0,(Tryz.prog).info? (ACS.t 23)=some i0/\i0.zero=some XN/\i0.size=3/\i0.bytes=40:=pA (by kernel_rfl)
def BX:cN Tryz.prog 103 (B5 3 40) :=
 pT AWW APS (λ_=>by kernel_rfl) (by decide) rfl (by decide) ⟨_,Tryz.func103,rfl,rfl⟩
def A1T:Go.Shelf.Ren:=⟨λ|22=>298|29=>330|30=>331|n=>n,λ|9=>66|24=>36|n=>n,λ|n=>n⟩
def AZT:P7 Tryz.prog A1T 3 40 XM:={
 mixed:=aY
 f22:=Exists.intro ("slices.Insert[[]shipyard/api.Need,shipyard/api.Need]") ⟨by decide,Tryz.func298.trans (congrArg some (by kernel_rfl))⟩
 ov:=λargs w=>run_callFunc_extern (P:=Tryz.prog) (f:=330) (e:=Extern.SlicesOverlaps.overlaps #[36,36] #[4]) Tryz.func330 (by kernel_rfl) (by kernel_rfl) (by kernel_rfl) (by kernel_rfl) args w
 t0:=by kernel_rfl
 a0:=λ_=>by kernel_rfl
 z0:=λ_=>by kernel_rfl
 v0:=λ_=>by kernel_rfl
 t3:=by kernel_rfl
 a3:=λ_=>by kernel_rfl
 z3:=λ_=>by kernel_rfl
 v3:=λ_=>by kernel_rfl
 t4:=by kernel_rfl
 a4:=λ_=>by kernel_rfl
 z4:=λ_=>by kernel_rfl
 v4:=λ_=>by kernel_rfl
 z9:=λ_=>by kernel_rfl
 t24:=by kernel_rfl
 a24:=λ_=>by kernel_rfl
 z24:=λ_=>by kernel_rfl
 v24:=λ_=>by kernel_rfl
 i9:=pA (by kernel_rfl) }
def kC:List (List T)->List T->Option (List (List T)):=U6 3 40
def M9:cN Tryz.prog 298 (mP 3 kC) :=
 oQ AZT (by decide) rfl (by decide) ⟨_,Tryz.func298,rfl,rfl⟩
def A1P:Go.Shelf.Ren:=⟨λ|45=>299|n=>n,λ|23=>66|22=>36|n=>n,λ|n=>n⟩
def AW9:ADF Tryz.prog A1P 3 XM:={
 mixed:=aY
 f45:=Exists.intro ("slices.Delete[[]shipyard/api.Need,shipyard/api.Need]") ⟨by decide,Tryz.func299.trans (congrArg some (by kernel_rfl))⟩
 t0:=by kernel_rfl
 a0:=λ_=>by kernel_rfl
 z0:=λ_=>by kernel_rfl
 v0:=λ_=>by kernel_rfl
 t3:=by kernel_rfl
 a3:=λ_=>by kernel_rfl
 z3:=λ_=>by kernel_rfl
 v3:=λ_=>by kernel_rfl
 t4:=by kernel_rfl
 a4:=λ_=>by kernel_rfl
 z4:=λ_=>by kernel_rfl
 v4:=λ_=>by kernel_rfl
 t22:=by kernel_rfl
 a22:=λ_=>by kernel_rfl
 z22:=λ_=>by kernel_rfl
 v22:=λ_=>by kernel_rfl
 z23:=λ_=>by kernel_rfl
 v23:=λ_=>by kernel_rfl
 i23:=by
  obtain ⟨i,h1,_,h2,_⟩:=pA (P:=Tryz.prog) (t:=66) (zv:=XM) (z:=3) (b:=40) (by kernel_rfl);exact ⟨i,h1,h2⟩ }
def yZ:List (List T)->List T->Option (List (List T)):=U5 3
def M8:cN Tryz.prog 299 (mP 3 yZ) :=
 oP AW9 rfl (by decide) ⟨_,Tryz.func299,rfl,rfl⟩
def ACR:Go.Shelf.Ren:=⟨λ|41=>105|n=>n,λ|23=>66|22=>36|n=>n,λ|n=>n⟩
def AWV:SlLaysE0.n41 Tryz.prog ACR:={
 mixed:=aY
 f41:=Exists.intro ("slices.Clone[[]shipyard/api.Need,shipyard/api.Need]") ⟨by decide,Tryz.func105.trans (congrArg some (by kernel_rfl))⟩
 t4:=by kernel_rfl
 a4:=λ_=>by kernel_rfl
 z4:=λ_=>by kernel_rfl
 v4:=λ_=>by kernel_rfl
 t22:=by kernel_rfl
 a22:=λ_=>by kernel_rfl
 z22:=λ_=>by kernel_rfl
 v22:=λ_=>by kernel_rfl }
def APR:∃ i0,(Tryz.prog).info? (ACR.t 23)=some i0/\i0.zero=some XM/\i0.size=3/\i0.bytes=40:=pA (by kernel_rfl)
def BW:cN Tryz.prog 105 (B5 3 40) :=
 pT AWV APR (λ_=>by kernel_rfl) (by decide) rfl (by decide) ⟨_,Tryz.func105,rfl,rfl⟩
def A1W:Go.Shelf.Ren:=⟨λ|22=>288|29=>326|30=>327|n=>n,λ|9=>61|24=>34|n=>n,λ|n=>n⟩
def AZW:P7 Tryz.prog A1W 6 72 XP:={
 mixed:=aY
 f22:=Exists.intro ("slices.Insert[[]shipyard/api.Seam,shipyard/api.Seam]") ⟨by decide,Tryz.func288.trans (congrArg some (by kernel_rfl))⟩
 ov:=λargs w=>run_callFunc_extern (P:=Tryz.prog) (f:=326) (e:=Extern.SlicesOverlaps.overlaps #[34,34] #[4]) Tryz.func326 (by kernel_rfl) (by kernel_rfl) (by kernel_rfl) (by kernel_rfl) args w
 t0:=by kernel_rfl
 a0:=λ_=>by kernel_rfl
 z0:=λ_=>by kernel_rfl
 v0:=λ_=>by kernel_rfl
 t3:=by kernel_rfl
 a3:=λ_=>by kernel_rfl
 z3:=λ_=>by kernel_rfl
 v3:=λ_=>by kernel_rfl
 t4:=by kernel_rfl
 a4:=λ_=>by kernel_rfl
 z4:=λ_=>by kernel_rfl
 v4:=λ_=>by kernel_rfl
 z9:=λ_=>by kernel_rfl
 t24:=by kernel_rfl
 a24:=λ_=>by kernel_rfl
 z24:=λ_=>by kernel_rfl
 v24:=λ_=>by kernel_rfl
 i9:=pA (by kernel_rfl) }
def tK:List (List T)->List T->Option (List (List T)):=U6 6 72
def AGA:cN Tryz.prog 288 (mP 6 tK) :=
 oQ AZW (by decide) rfl (by decide) ⟨_,Tryz.func288,rfl,rfl⟩
def A1S:Go.Shelf.Ren:=⟨λ|45=>289|n=>n,λ|23=>61|22=>34|n=>n,λ|n=>n⟩
def AXC:ADF Tryz.prog A1S 6 XP:={
 mixed:=aY
 f45:=Exists.intro ("slices.Delete[[]shipyard/api.Seam,shipyard/api.Seam]") ⟨by decide,Tryz.func289.trans (congrArg some (by kernel_rfl))⟩
 t0:=by kernel_rfl
 a0:=λ_=>by kernel_rfl
 z0:=λ_=>by kernel_rfl
 v0:=λ_=>by kernel_rfl
 t3:=by kernel_rfl
 a3:=λ_=>by kernel_rfl
 z3:=λ_=>by kernel_rfl
 v3:=λ_=>by kernel_rfl
 t4:=by kernel_rfl
 a4:=λ_=>by kernel_rfl
 z4:=λ_=>by kernel_rfl
 v4:=λ_=>by kernel_rfl
 t22:=by kernel_rfl
 a22:=λ_=>by kernel_rfl
 z22:=λ_=>by kernel_rfl
 v22:=λ_=>by kernel_rfl
 z23:=λ_=>by kernel_rfl
 v23:=λ_=>by kernel_rfl
 i23:=by
  obtain ⟨i,h1,_,h2,_⟩:=pA (P:=Tryz.prog) (t:=61) (zv:=XP) (z:=6) (b:=72) (by kernel_rfl);exact ⟨i,h1,h2⟩ }
def GJ:List (List T)->List T->Option (List (List T)):=U5 6
def AF8:cN Tryz.prog 289 (mP 6 GJ) :=
 oP AXC rfl (by decide) ⟨_,Tryz.func289,rfl,rfl⟩
def ACU:Go.Shelf.Ren:=⟨λ|41=>104|n=>n,λ|23=>61|22=>34|n=>n,λ|n=>n⟩
def AWY:SlLaysE0.n41 Tryz.prog ACU:={
 mixed:=aY
 f41:=Exists.intro ("slices.Clone[[]shipyard/api.Seam,shipyard/api.Seam]") ⟨by decide,Tryz.func104.trans (congrArg some (by kernel_rfl))⟩
 t4:=by kernel_rfl
 a4:=λ_=>by kernel_rfl
 z4:=λ_=>by kernel_rfl
 v4:=λ_=>by kernel_rfl
 t22:=by kernel_rfl
 a22:=λ_=>by kernel_rfl
 z22:=λ_=>by kernel_rfl
 v22:=λ_=>by kernel_rfl }
def APU:∃ i0,(Tryz.prog).info? (ACU.t 23)=some i0/\i0.zero=some XP/\i0.size=6/\i0.bytes=72:=pA (by kernel_rfl)
def BZ:cN Tryz.prog 104 (B5 6 72) :=
 pT AWY APU (λ_=>by kernel_rfl) (by decide) rfl (by decide) ⟨_,Tryz.func104,rfl,rfl⟩
def ACW:Go.Shelf.Ren:=⟨λ|22=>292|29=>328|30=>329|n=>n,λ|9=>64|24=>35|n=>n,λ|n=>n⟩
def ABH:P7 Tryz.prog ACW 5 88 AG:={
 mixed:=aY
 f22:=Exists.intro ("slices.Insert[[]shipyard/api.Package,shipyard/api.Package]") ⟨by decide,Tryz.func292.trans (congrArg some (by kernel_rfl))⟩
 ov:=λargs w=>run_callFunc_extern (P:=Tryz.prog) (f:=328) (e:=Extern.SlicesOverlaps.overlaps #[35,35] #[4]) Tryz.func328 (by kernel_rfl) (by kernel_rfl) (by kernel_rfl) (by kernel_rfl) args w
 t0:=by kernel_rfl
 a0:=λ_=>by kernel_rfl
 z0:=λ_=>by kernel_rfl
 v0:=λ_=>by kernel_rfl
 t3:=by kernel_rfl
 a3:=λ_=>by kernel_rfl
 z3:=λ_=>by kernel_rfl
 v3:=λ_=>by kernel_rfl
 t4:=by kernel_rfl
 a4:=λ_=>by kernel_rfl
 z4:=λ_=>by kernel_rfl
 v4:=λ_=>by kernel_rfl
 z9:=λ_=>by kernel_rfl
 t24:=by kernel_rfl
 a24:=λ_=>by kernel_rfl
 z24:=λ_=>by kernel_rfl
 v24:=λ_=>by kernel_rfl
 i9:=pA (by kernel_rfl) }
def mR:List (List T)->List T->Option (List (List T)):=U6 5 88
def QF:cN Tryz.prog 292 (mP 5 mR) :=
 oQ ABH (by decide) rfl (by decide) ⟨_,Tryz.func292,rfl,rfl⟩
def ACV:Go.Shelf.Ren:=⟨λ|45=>290|n=>n,λ|23=>64|22=>35|n=>n,λ|n=>n⟩
def ZN:ADF Tryz.prog ACV 5 AG:={
 mixed:=aY
 f45:=Exists.intro ("slices.Delete[[]shipyard/api.Package,shipyard/api.Package]") ⟨by decide,Tryz.func290.trans (congrArg some (by kernel_rfl))⟩
 t0:=by kernel_rfl
 a0:=λ_=>by kernel_rfl
 z0:=λ_=>by kernel_rfl
 v0:=λ_=>by kernel_rfl
 t3:=by kernel_rfl
 a3:=λ_=>by kernel_rfl
 z3:=λ_=>by kernel_rfl
 v3:=λ_=>by kernel_rfl
 t4:=by kernel_rfl
 a4:=λ_=>by kernel_rfl
 z4:=λ_=>by kernel_rfl
 v4:=λ_=>by kernel_rfl
 t22:=by kernel_rfl
 a22:=λ_=>by kernel_rfl
 z22:=λ_=>by kernel_rfl
 v22:=λ_=>by kernel_rfl
 z23:=λ_=>by kernel_rfl
 v23:=λ_=>by kernel_rfl
 i23:=by
  obtain ⟨i,h1,_,h2,_⟩:=pA (P:=Tryz.prog) (t:=64) (zv:=AG) (z:=5) (b:=88) (by kernel_rfl);exact ⟨i,h1,h2⟩ }
def mQ:List (List T)->List T->Option (List (List T)):=U5 5
def AV:cN Tryz.prog 290 (mP 5 mQ) :=
 oP ZN rfl (by decide) ⟨_,Tryz.func290,rfl,rfl⟩
def I6:Go.Shelf.Ren:=⟨λ|41=>107|n=>n,λ|23=>64|22=>35|n=>n,λ|n=>n⟩
def ZG:SlLaysE0.n41 Tryz.prog I6:={
 mixed:=aY
 f41:=Exists.intro ("slices.Clone[[]shipyard/api.Package,shipyard/api.Package]") ⟨by decide,Tryz.func107.trans (congrArg some (by kernel_rfl))⟩
 t4:=by kernel_rfl
 a4:=λ_=>by kernel_rfl
 z4:=λ_=>by kernel_rfl
 v4:=λ_=>by kernel_rfl
 t22:=by kernel_rfl
 a22:=λ_=>by kernel_rfl
 z22:=λ_=>by kernel_rfl
 v22:=λ_=>by kernel_rfl }
def VJ:∃ i0,(Tryz.prog).info? (I6.t 23)=some i0/\i0.zero=some AG/\i0.size=5/\i0.bytes=88:=pA (by kernel_rfl)
def oE:cN Tryz.prog 107 (B5 5 88) :=
 pT ZG VJ (λ_=>by kernel_rfl) (by decide) rfl (by decide) ⟨_,Tryz.func107,rfl,rfl⟩
def A1V:Go.Shelf.Ren:=⟨λ|22=>285|29=>324|30=>325|n=>n,λ|9=>57|24=>33|n=>n,λ|n=>n⟩
def AZV:P7 Tryz.prog A1V 18 208 XO:={
 mixed:=aY
 f22:=Exists.intro ("slices.Insert[[]shipyard/api.Part,shipyard/api.Part]") ⟨by decide,Tryz.func285.trans (congrArg some (by kernel_rfl))⟩
 ov:=λargs w=>run_callFunc_extern (P:=Tryz.prog) (f:=324) (e:=Extern.SlicesOverlaps.overlaps #[33,33] #[4]) Tryz.func324 (by kernel_rfl) (by kernel_rfl) (by kernel_rfl) (by kernel_rfl) args w
 t0:=by kernel_rfl
 a0:=λ_=>by kernel_rfl
 z0:=λ_=>by kernel_rfl
 v0:=λ_=>by kernel_rfl
 t3:=by kernel_rfl
 a3:=λ_=>by kernel_rfl
 z3:=λ_=>by kernel_rfl
 v3:=λ_=>by kernel_rfl
 t4:=by kernel_rfl
 a4:=λ_=>by kernel_rfl
 z4:=λ_=>by kernel_rfl
 v4:=λ_=>by kernel_rfl
 z9:=λ_=>by kernel_rfl
 t24:=by kernel_rfl
 a24:=λ_=>by kernel_rfl
 z24:=λ_=>by kernel_rfl
 v24:=λ_=>by kernel_rfl
 i9:=pA (by kernel_rfl) }
def tJ:List (List T)->List T->Option (List (List T)):=U6 18 208
def AF9:cN Tryz.prog 285 (mP 18 tJ) :=
 oQ AZV (by decide) rfl (by decide) ⟨_,Tryz.func285,rfl,rfl⟩
def A1R:Go.Shelf.Ren:=⟨λ|45=>286|n=>n,λ|23=>57|22=>33|n=>n,λ|n=>n⟩
def AXB:ADF Tryz.prog A1R 18 XO:={
 mixed:=aY
 f45:=Exists.intro ("slices.Delete[[]shipyard/api.Part,shipyard/api.Part]") ⟨by decide,Tryz.func286.trans (congrArg some (by kernel_rfl))⟩
 t0:=by kernel_rfl
 a0:=λ_=>by kernel_rfl
 z0:=λ_=>by kernel_rfl
 v0:=λ_=>by kernel_rfl
 t3:=by kernel_rfl
 a3:=λ_=>by kernel_rfl
 z3:=λ_=>by kernel_rfl
 v3:=λ_=>by kernel_rfl
 t4:=by kernel_rfl
 a4:=λ_=>by kernel_rfl
 z4:=λ_=>by kernel_rfl
 v4:=λ_=>by kernel_rfl
 t22:=by kernel_rfl
 a22:=λ_=>by kernel_rfl
 z22:=λ_=>by kernel_rfl
 v22:=λ_=>by kernel_rfl
 z23:=λ_=>by kernel_rfl
 v23:=λ_=>by kernel_rfl
 i23:=by
  obtain ⟨i,h1,_,h2,_⟩:=pA (P:=Tryz.prog) (t:=57) (zv:=XO) (z:=18) (b:=208) (by kernel_rfl);exact ⟨i,h1,h2⟩ }
def GI:List (List T)->List T->Option (List (List T)):=U5 18
def AF7:cN Tryz.prog 286 (mP 18 GI) :=
 oP AXB rfl (by decide) ⟨_,Tryz.func286,rfl,rfl⟩
def ACT:Go.Shelf.Ren:=⟨λ|41=>106|n=>n,λ|23=>57|22=>33|n=>n,λ|n=>n⟩
def AWX:SlLaysE0.n41 Tryz.prog ACT:={
 mixed:=aY
 f41:=Exists.intro ("slices.Clone[[]shipyard/api.Part,shipyard/api.Part]") ⟨by decide,Tryz.func106.trans (congrArg some (by kernel_rfl))⟩
 t4:=by kernel_rfl
 a4:=λ_=>by kernel_rfl
 z4:=λ_=>by kernel_rfl
 v4:=λ_=>by kernel_rfl
 t22:=by kernel_rfl
 a22:=λ_=>by kernel_rfl
 z22:=λ_=>by kernel_rfl
 v22:=λ_=>by kernel_rfl }
def APT:∃ i0,(Tryz.prog).info? (ACT.t 23)=some i0/\i0.zero=some XO/\i0.size=18/\i0.bytes=208:=pA (by kernel_rfl)
def BY:cN Tryz.prog 106 (B5 18 208) :=
 pT AWX APT (λ_=>by kernel_rfl) (by decide) rfl (by decide) ⟨_,Tryz.func106,rfl,rfl⟩
def BIW:Value:=.slice none 0 0
def ALD:Go.Shelf.Ren:=⟨λ|41=>137|n=>n,λ|23=>48|22=>49|n=>n,λ|n=>n⟩
def A5X:SlLaysE0.n41 Tryz.prog ALD:={
 mixed:=aY
 f41:=Exists.intro ("slices.Clone[[][]shipyard/api.Point,[]shipyard/api.Point]") ⟨by decide,Tryz.func137.trans (congrArg some (by kernel_rfl))⟩
 t4:=by kernel_rfl
 a4:=λ_=>by kernel_rfl
 z4:=λ_=>by kernel_rfl
 v4:=λ_=>by kernel_rfl
 t22:=by kernel_rfl
 a22:=λ_=>by kernel_rfl
 z22:=λ_=>by kernel_rfl
 v22:=λ_=>by kernel_rfl }
def AZR:∃ i0,(Tryz.prog).info? (ALD.t 23)=some i0/\i0.zero=some BIW/\i0.size=1/\i0.bytes=24:=pA (by kernel_rfl)
def AOQ:cN Tryz.prog 137 (B5 1 24) :=
 pT A5X AZR (λ_=>by kernel_rfl) (by decide) rfl (by decide) ⟨_,Tryz.func137,rfl,rfl⟩
end Go.Pv
namespace Go.Pv
open Go Go.Proofs IntKind
def yD (d:aB) (id:iII):Option bT:=d.2.2.2.1.find? λs=>decide (s.1=id)
def partOf (d:aB) (id:iII):Option a8:=d.2.2.1.find? λs=>decide (s.1=id)
def iD (d:aB) (id:iII):Option bQ:=d.2.1.find? λs=>decide (s.1=id)
def PK (m:aI) (n:iII):Option cL:=m.2.find? λs=>decide (s.1=n)
def iC:bT:=(⟨#[]⟩,⟨#[]⟩,⟨#[]⟩,0,0,0)
def iB:bQ:=(⟨#[]⟩,0,⟨#[]⟩)
def dV:a8:=(⟨#[]⟩,0,0,⟨#[]⟩,⟨#[]⟩,0,([],[]),⟨#[]⟩,0,0,(0,0,0),(0,0,0),0)
def A7:cL:=(⟨#[]⟩,0,0,0)
variable {α:Type}
def found (no:α) (o:Option α):α×Bool:=match o with
 | some s=>(s,true)
 | none=>(no,false)
def r6 (x:aB×iII):Option T:=some (Sh.enc [(true,bE),(false,.bool)] (found iC (yD x.1 x.2)))
def zX (x:aB×iII):Option T:=some (Sh.enc [(true,aK),(false,.bool)] (found dV (partOf x.1 x.2)))
def r4 (x:aB×iII):Option T:=some (Sh.enc [(true,bC),(false,.bool)] (found iB (iD x.1 x.2)))
def oA (x:aI×iII):Option T:=some (Sh.enc [(true,bW),(false,.bool)] (found A7 (PK x.1 x.2)))
abbrev p8:=zX
noncomputable def BAF:Env:=Env.of []
def BAU:FuncId->Hint:=b6 197 [(2,.inv [.val 11 false (.int .i64),.fix 1])] (λ_=>bA)
def ATU:aV Tryz.prog BAF:=.nil _
def d5:T:=pPQ ({data:=#[]})
def IO(a0:aB):List (List T):=List.map bE.enc a0.2.2.2.1
def AE3(a0:aB)(a1:iII)(R:T->Prop):Prop:=fS (bH.rows false [[D.p d5,D.p d5, D.p d5,D.p (pPP 0), D.p (pPP 0),D.p (pPP 0)]]) (bH.rows false [[D.p d5,D.p d5, D.p d5,D.p (pPP 0), D.p (pPP 0),D.p (pPP 0)]]) (bB (Int×PUnit×PUnit) (λX0 s1=>aC (decide (s1.1<(↑(IO a0).length:Int))) (aR bE (IO a0) s1.1 λ(y2:bT)=>aC (decide (y2.1=a1)) (R (T.b7 [aG true bE y2,pPR true])) (fS (bH.rows false [[D.p d5, D.p d5, D.p d5, D.p (pPP 0), D.p (pPP 0), D.p (pPP 0)]]) (bH.rows false [[D.p d5, D.p d5, D.p d5, D.p (pPP 0), D.p (pPP 0), D.p (pPP 0)]]) (X0 (i64.wrap (s1.1+1),(),())))) (R (T.b7 [T.agg [pPQ ({data:=#[]}),pPQ ({data:=#[]}), pPQ ({data:=#[]}),pPP 0, pPP 0,pPP 0], pPR false]))) (0,(),()))
abbrev AIM:Sh:=[(true,aD),(false,Sy.str)]
noncomputable def CA:List T->Option T:=gS AIM r6
def SF {a0 a1}:CA [aG true aD a0,pPQ a1]=r6 (a0,a1):=bI (s:=AIM) rfl (a0,a1) rfl
def A78:rJ Tryz.prog 197 CA r6 (cC AIM) AE3:=gZ (a1:=(true,aD)) (a2:=(false,Sy.str)) (sp:=r6) (F:=AE3) (Hs:=BAU) (f:=197) (k:=8) ATU aY a7 (aO rfl) ⟨_,_,Tryz.func197,rfl⟩ rfl λ_ _ _=>by kernel_rfl
def AKD:aP Tryz.prog 197 CA:=A78 λd id r h hb=>by
 have hl:d.2.2.2.1.length<=2 ^ 47:=hb.1.2.2.2.1.1;unfold AE3 IO d5;rw[cS];refine bK d.2.2.2.1.length (λk s=>s=((k:Int),(),())/\(d.2.2.2.1.drop k).find? (λs=>decide (s.1=id))=yD d id) ⟨rfl,rfl⟩ ?_;rintro X k s hk ⟨rfl,hf⟩ hX;simp only[ae,CD,cS];by_cases hlt:k<d.2.2.2.1.length
 ·rw[nQ hlt] at hf;simp only[hlt,decide_true,aC,bD (r:=bE) hlt];cases hc:decide (d.2.2.2.1[k].1=id) with
  | true =>
   simp only[hc,if_true] at hf;simp only[r6,r6,<-hf] at h;cases h;rfl
  | false =>
   simp only[hc] at hf;refine hX _ hlt ⟨?_,hf⟩;simp only[Prod.mk.injEq,and_true];exact bG _ (by omega) (by omega)
 ·have:k=d.2.2.2.1.length:=by omega
  subst this;simp only[List.drop_length,List.find?_nil] at hf;simp only[r6,r6,<-hf] at h;simp only[hlt,decide_false,aC];cases h;rfl
noncomputable def ASR:Env:=Env.of []
def AVT:FuncId->Hint:=b6 20 [(2,.inv [.val 6 false (.int .i64),.fix 1])] (λ_=>bA)
def AD1:aV Tryz.prog ASR:=.nil _
def d7:T:=T.v (Value.slice none 0 0)
def IR(a0:aB):List (List T):=List.map aK.enc a0.2.2.1
def i6(X0:Int×PUnit×PUnit->Prop)(s1:Int×PUnit×PUnit):Prop:=fS (bH.rows false [[D.p d5, D.p (pPP 0), D.p (pPP 0), D.p d5, D.p d5, D.p (pPP 0), D.p d7,D.p d7, D.p d5, D.p (pPP 0), D.p (pPP 0), D.p (pPP 0), D.p (pPP 0), D.p (pPP 0), D.p (pPP 0), D.p (pPP 0), D.p (pPP 0), D.p (pPP 0)]]) (bH.rows false [[D.p d5, D.p (pPP 0), D.p (pPP 0), D.p d5, D.p d5, D.p (pPP 0), D.p d7,D.p d7, D.p d5, D.p (pPP 0), D.p (pPP 0), D.p (pPP 0), D.p (pPP 0), D.p (pPP 0), D.p (pPP 0), D.p (pPP 0), D.p (pPP 0), D.p (pPP 0)]]) (X0 (i64.wrap (s1.1+1),(),()))
def m8:List T:=[T.agg [pPQ ({data:=#[]}),pPP 0, pPP 0,pPQ ({data:=#[]}), pPQ ({data:=#[]}),pPP 0, T.sl false [],T.sl false [],pPQ ({data:=#[]}), pPP 0,pPP 0, pPP 0,pPP 0, pPP 0,pPP 0, pPP 0,pPP 0, pPP 0], pPR false]
def LB(a0:aB)(a1:iII)(R:T->Prop):Prop:=fS (bH.rows false [[D.p d5,D.p (pPP 0), D.p (pPP 0),D.p d5, D.p d5,D.p (pPP 0), D.p d7,D.p d7, D.p d5,D.p (pPP 0), D.p (pPP 0),D.p (pPP 0), D.p (pPP 0),D.p (pPP 0), D.p (pPP 0),D.p (pPP 0), D.p (pPP 0),D.p (pPP 0)]]) (bH.rows false [[D.p d5,D.p (pPP 0), D.p (pPP 0),D.p d5, D.p d5,D.p (pPP 0), D.p d7,D.p d7, D.p d5,D.p (pPP 0), D.p (pPP 0),D.p (pPP 0), D.p (pPP 0),D.p (pPP 0), D.p (pPP 0),D.p (pPP 0), D.p (pPP 0),D.p (pPP 0)]]) (bB (Int×PUnit×PUnit) (λX0 s1=>aC (decide (s1.1<(↑(IR a0).length:Int))) (aR aK (IR a0) s1.1 λ(y2:a8)=>aC (decide (y2.1=a1)) (aR aK (IR a0) s1.1 λ(y3:a8)=>R (T.b7 [aG true aK y3,pPR true])) (i6 X0 s1)) (R (T.b7 m8))) (0,(),()))
abbrev OZ:Sh:=[(true,aD),(false,Sy.str)]
noncomputable def tL:List T->Option T:=gS OZ p8
def IT {a0 a1}:tL [aG true aD a0,pPQ a1]=p8 (a0,a1):=bI (s:=OZ) rfl (a0,a1) rfl
def AQR:rJ Tryz.prog 20 tL p8 (cC OZ) LB:=gZ (a1:=(true,aD)) (a2:=(false,Sy.str)) (sp:=p8) (F:=LB) (Hs:=AVT) (f:=20) (k:=8) AD1 aY a7 (aO rfl) ⟨_,_,Tryz.func20,rfl⟩ rfl λ_ _ _=>by kernel_rfl
def AOU:aP Tryz.prog 20 tL:=AQR λd id r h hb=>by
 have hl:d.2.2.1.length<=2 ^ 47:=hb.1.2.2.1.1;unfold LB m8 i6 IR d7 d5;rw[cS];refine bK d.2.2.1.length (λk s=>s=((k:Int),(),())/\(d.2.2.1.drop k).find? (λs=>decide (s.1=id))=partOf d id) ⟨rfl,rfl⟩ ?_;rintro X k s hk ⟨rfl,hf⟩ hX;simp only[ae,CD,cS];by_cases hlt:k<d.2.2.1.length
 ·rw[nQ hlt] at hf;simp only[hlt,decide_true,aC,bD (r:=aK) hlt];cases hc:decide (d.2.2.1[k].1=id) with
  | true =>
   simp only[hc,if_true] at hf;simp only[p8,zX,<-hf] at h;cases h;rfl
  | false =>
   simp only[hc] at hf;refine hX _ hlt ⟨?_,hf⟩;simp only[Prod.mk.injEq,and_true];exact bG _ (by omega) (by omega)
 ·have:k=d.2.2.1.length:=by omega
  subst this;simp only[List.drop_length,List.find?_nil] at hf;simp only[p8,zX,<-hf] at h;simp only[hlt,decide_false,aC];cases h;rfl
noncomputable def BAA:Env:=Env.of []
def BAP:FuncId->Hint:=b6 149 [(2,.inv [.val 11 false (.int .i64),.fix 1])] (λ_=>bA)
def ATP:aV Tryz.prog BAA:=.nil _
def GT(a0:aB):List (List T):=List.map bC.enc a0.2.1
def AEX(a0:aB)(a1:iII)(R:T->Prop):Prop:=fS (bH.rows false [[D.p d5,D.p (pPP 0), D.p d5]]) (bH.rows false [[D.p d5,D.p (pPP 0), D.p d5]]) (bB (Int×PUnit×PUnit) (λX0 s1=>aC (decide (s1.1<(↑(GT a0).length:Int))) (aR bC (GT a0) s1.1 λ(y2:bQ)=>aC (decide (y2.1=a1)) (R (T.b7 [aG true bC y2,pPR true])) (fS (bH.rows false [[D.p d5, D.p (pPP 0), D.p d5]]) (bH.rows false [[D.p d5, D.p (pPP 0), D.p d5]]) (X0 (i64.wrap (s1.1+1),(),())))) (R (T.b7 [T.agg [pPQ ({data:=#[]}),pPP 0, pPQ ({data:=#[]})], pPR false]))) (0,(),()))
abbrev AIH:Sh:=[(true,aD),(false,Sy.str)]
noncomputable def B7:List T->Option T:=gS AIH r4
def R0 {a0 a1}:B7 [aG true aD a0,pPQ a1]=r4 (a0,a1):=bI (s:=AIH) rfl (a0,a1) rfl
def A73:rJ Tryz.prog 149 B7 r4 (cC AIH) AEX:=gZ (a1:=(true,aD)) (a2:=(false,Sy.str)) (sp:=r4) (F:=AEX) (Hs:=BAP) (f:=149) (k:=8) ATP aY a7 (aO rfl) ⟨_,_,Tryz.func149,rfl⟩ rfl λ_ _ _=>by kernel_rfl
def AJ9:aP Tryz.prog 149 B7:=A73 λd id r h hb=>by
 have hl:d.2.1.length<=2 ^ 47:=hb.1.2.1.1;unfold AEX GT d5;rw[cS];refine bK d.2.1.length (λk s=>s=((k:Int),(),())/\(d.2.1.drop k).find? (λs=>decide (s.1=id))=iD d id) ⟨rfl,rfl⟩ ?_;rintro X k s hk ⟨rfl,hf⟩ hX;simp only[ae,CD,cS];by_cases hlt:k<d.2.1.length
 ·rw[nQ hlt] at hf;simp only[hlt,decide_true,aC,bD (r:=bC) hlt];cases hc:decide (d.2.1[k].1=id) with
  | true =>
   simp only[hc,if_true] at hf;simp only[r4,r4,<-hf] at h;cases h;rfl
  | false =>
   simp only[hc] at hf;refine hX _ hlt ⟨?_,hf⟩;simp only[Prod.mk.injEq,and_true];exact bG _ (by omega) (by omega)
 ·have:k=d.2.1.length:=by omega
  subst this;simp only[List.drop_length,List.find?_nil] at hf;simp only[r4,r4,<-hf] at h;simp only[hlt,decide_false,aC];cases h;rfl
noncomputable def AMH:Env:=Env.of []
def ANG:FuncId->Hint:=b6 319 [(2,.inv [.val 8 false (.int .i64)])] (λ_=>bA)
def YE:aV Tryz.prog AMH:=.nil _
def f9(X0:Int×PUnit->Prop)(s1:Int×PUnit):Prop:=X0 (i64.wrap (s1.1+1),())
def BJS:List T:=[T.agg [pPQ ({data:=#[]}),pPP 0, pPP 0,pPP 0], pPR false]
def FU(a0:aI)(a1:iII)(R:T->Prop):Prop:=bB (Int×PUnit) (λX0 s1=>aC (decide (s1.1<(↑(List.map bW.enc a0.2).length:Int))) (aR bW (List.map bW.enc a0.2) s1.1 λ(y2:cL)=>aC (decide (y2.1=a1)) (aC (decide (s1.1<0)) (R (T.b7 BJS)) (aR bW (List.map bW.enc a0.2) s1.1 λ(y3:cL)=>R (T.b7 [aG true bW y3,pPR true]))) (f9 X0 s1)) (R (T.b7 BJS))) (0,())
abbrev HR:Sh:=[(true,aM),(false,Sy.str)]
noncomputable def cO:List T->Option T:=gS HR oA
def VF {a0 a1}:cO [aG true aM a0,pPQ a1]=oA (a0,a1):=bI (s:=HR) rfl (a0,a1) rfl
def AHV:rJ Tryz.prog 270 cO oA (cC HR) FU:=gZ (a1:=(true,aM)) (a2:=(false,Sy.str)) (sp:=oA) (F:=FU) (Hs:=ANG) (f:=270) (k:=8) YE aY a7 (aO rfl) ⟨_,_,Tryz.func270,rfl⟩ rfl λ_ _ _=>by kernel_rfl
def NB:aP Tryz.prog 270 cO:=AHV λm n r h hb=>by
 have hl:m.2.length<=2 ^ 47:=hb.1.2.1;unfold FU BJS f9;refine bK m.2.length (λk s=>s=((k:Int),())/\(m.2.drop k).find? (λs=>decide (s.1=n))=PK m n) ⟨rfl,rfl⟩ ?_;rintro X k s hk ⟨rfl,hf⟩ hX;simp only[ae,CD];by_cases hlt:k<m.2.length
 ·rw[nQ hlt] at hf;have h0:¬ ((k:Int)<0):=by omega
  simp only[hlt,decide_true,aC,bD (r:=bW) hlt,h0,decide_false];cases hc:decide (m.2[k].1=n) with
  | true =>
   simp only[hc,if_true] at hf;simp only[oA,<-hf] at h;cases h;rfl
  | false =>
   simp only[hc] at hf;refine hX _ hlt ⟨?_,hf⟩;simp only[Prod.mk.injEq,and_true];exact bG _ (by omega) (by omega)
 ·have:k=m.2.length:=by omega
  subst this;simp only[List.drop_length,List.find?_nil] at hf;simp only[oA,<-hf] at h;simp only[hlt,decide_false,aC];cases h;rfl
end Go.Pv
namespace Go.Pv
open Go Go.Proofs IntKind
def AFV:TR Tryz.prog 136 2 16:=⟨λR=>by kernel_rfl,λfl R=>by kernel_rfl,λfl a rows R=>by kernel_rfl⟩
noncomputable def j9:List T->Option T:=gS [(false,.li aA)] (fA aA 16)
def pG {u0}:j9 [T.sl false (List.map (Sy.enc aA) u0)]=fA aA 16 u0:=bI (s:=[(false,.li aA)]) rfl u0 rfl
def M6:aP Tryz.prog 136 j9:=F3 aY a7 ⟨_,_,Tryz.func136,rfl⟩ AFV
def ZE:ADE Tryz.prog 137 1 24:=⟨λR=>by kernel_rfl,λfl R=>by kernel_rfl,λfl a rows R=>by kernel_rfl⟩
noncomputable def uW:List T->Option (List (List T)):=gS [(false,.li (.li aA))] (pQ (.li aA) 24)
def QH {u0}:uW [T.sl false (List.map (Sy.enc (.li aA)) u0)]=pQ (.li aA) 24 u0:=bI (s:=[(false,.li (.li aA))]) rfl u0 rfl
def ZW:fE Tryz.prog 137 uW:=ANZ aY a7 ⟨_,_,Tryz.func137,rfl⟩ ZE
def lB (b:Nat) (n:Nat):Bool:=decide (n*b<=140737488355328)&&decide (n<=140737488355328)
def EM (s:jL):Bool:=lB 16 s.1.length&&lB 24 s.2.length&&s.2.all λh=>lB 16 h.length
def fL (p:a8):Bool:=EM p.2.2.2.2.2.2.1
def I4 (d:aB):Bool:=d.2.2.1.all fL
def iY {r:Sy} {b:Nat} {l:List r.den} (h:lB b l.length=true):pQ r b l=some (List.map r.enc l):=by
 unfold pQ;unfold lB at h;rw[h]
def lF (x:aB×iII):Option T:=match I4 x.1 with
 | true=>zX x
 | false=>none
noncomputable def A3L:Env:=Env.of [(136,.pure j9),(137,.fresh uW)]
def A43:FuncId->Hint:=b6 94 [(2,.inv [.val 13 false (.int .i64),.fix 1]),(7,.alt [.val 37 false (.int .i64),.arr 4 1 (.li aA)] [.val 37 false (.int .i64)])] (λ_=>bA)
def AMR:aV Tryz.prog A3L:=.cons M6 (.cons ZW (.nil _))
def f0:Sh:=[(false,aA.li)]
def g9(y7:List aU):List (List T):=List.map aA.enc y7
def v6(y2:a8):List (List T):=List.map aA.li.enc y2.2.2.2.2.2.2.1.2
def PP(s12:Int×List (List aU)×PUnit):List (List T):=List.map aA.li.enc s12.2.1
def BJU(y7:List aU):List T:=[T.sl false (g9 y7)]
def BJ0(y2:a8):List (List T):=List.map aA.enc y2.2.2.2.2.2.2.1.1
def T6(a0:aB)(a1:iII)(R:T->Prop):Prop:=fS (bH.rows false [[D.p d5,D.p (pPP 0), D.p (pPP 0),D.p d5, D.p d5,D.p (pPP 0), D.p d7,D.p d7, D.p d5,D.p (pPP 0), D.p (pPP 0),D.p (pPP 0), D.p (pPP 0),D.p (pPP 0), D.p (pPP 0),D.p (pPP 0), D.p (pPP 0),D.p (pPP 0)]]) (bH.rows false [[D.p d5,D.p (pPP 0), D.p (pPP 0),D.p d5, D.p d5,D.p (pPP 0), D.p d7,D.p d7, D.p d5,D.p (pPP 0), D.p (pPP 0),D.p (pPP 0), D.p (pPP 0),D.p (pPP 0), D.p (pPP 0),D.p (pPP 0), D.p (pPP 0),D.p (pPP 0)]]) (bB (Int×PUnit×PUnit) (λX0 s1=>aC (decide (s1.1<(↑(IR a0).length:Int))) (aR aK (IR a0) s1.1 λ(y2:a8)=>aC (decide (y2.1=a1)) (aJ f0 (j9 [T.sl false (BJ0 y2)]) λ(y3:List aU)=>eR aA.li (uW [T.sl false (v6 y2)]) λ(y4:List (List aU))=>aC y4.isEmpty (bB (Int×PUnit) (λX5 s6=>aC (decide (s6.1<(↑0:Int))) (aR aA.li [] s6.1 λ(y7:List aU)=>aJ f0 (j9 (BJU y7)) λ(y8:List aU)=>aR aA.li [] s6.1 λ(y9:List aU)=>q8 104) (R (T.b7 [T.agg [pPQ y2.1,pPP y2.2.1, pPP y2.2.2.1, pPQ y2.2.2.2.1, pPQ y2.2.2.2.2.1, pPP y2.2.2.2.2.2.1, T.sl false (g9 y3),T.sl false [], pPQ y2.2.2.2.2.2.2.2.1, pPP y2.2.2.2.2.2.2.2.2.1, pPP y2.2.2.2.2.2.2.2.2.2.1, pPP y2.2.2.2.2.2.2.2.2.2.2.1.1, pPP y2.2.2.2.2.2.2.2.2.2.2.1.2.1, pPP y2.2.2.2.2.2.2.2.2.2.2.1.2.2, pPP y2.2.2.2.2.2.2.2.2.2.2.2.1.1, pPP y2.2.2.2.2.2.2.2.2.2.2.2.1.2.1, pPP y2.2.2.2.2.2.2.2.2.2.2.2.1.2.2, pPP y2.2.2.2.2.2.2.2.2.2.2.2.2], pPR true]))) (0,())) (dM aA.li (List.map aA.li.enc y4) λ(y10:List (List aU))=>bB (Int×List (List aU)×PUnit) (λX11 s12=>aC (decide (s12.1<(↑(List.map aA.li.enc y4).length:Int))) (aR aA.li (PP s12) s12.1 λ(y13:List aU)=>iJ aA.li (PP s12) (Int.toNat s12.1) 0 λ(y14:List aU)=>aJ f0 (j9 (BJU y14)) λ(y15:List aU)=>aR aA.li (PP s12) s12.1 λ(y16:List aU)=>EX (PP s12) (Int.toNat s12.1) λ(y17:List T)=>bR (decide (1<=y17.length)) (dM aA.li ((PP s12).set (Int.toNat s12.1) (bV y17 0 (BJU y15))) λ(y18:List (List aU))=>X11 (i64.wrap (s12.1+1),y18,()))) (R (T.b7 [T.agg [pPQ y2.1, pPP y2.2.1, pPP y2.2.2.1, pPQ y2.2.2.2.1, pPQ y2.2.2.2.2.1, pPP y2.2.2.2.2.2.1, T.sl false (g9 y3), T.sl false (PP s12), pPQ y2.2.2.2.2.2.2.2.1, pPP y2.2.2.2.2.2.2.2.2.1, pPP y2.2.2.2.2.2.2.2.2.2.1, pPP y2.2.2.2.2.2.2.2.2.2.2.1.1, pPP y2.2.2.2.2.2.2.2.2.2.2.1.2.1, pPP y2.2.2.2.2.2.2.2.2.2.2.1.2.2, pPP y2.2.2.2.2.2.2.2.2.2.2.2.1.1, pPP y2.2.2.2.2.2.2.2.2.2.2.2.1.2.1, pPP y2.2.2.2.2.2.2.2.2.2.2.2.1.2.2, pPP y2.2.2.2.2.2.2.2.2.2.2.2.2], pPR true]))) (0,y10,()))) (i6 X0 s1)) (R (T.b7 m8))) (0,(),()))
abbrev WH:Sh:=[(true,aD),(false,Sy.str)]
noncomputable def lK:List T->Option T:=gS WH lF
def qM {a0 a1}:lK [aG true aD a0,pPQ a1]=lF (a0,a1):=bI (s:=WH) rfl (a0,a1) rfl
def A02:rJ Tryz.prog 94 lK lF (cC WH) T6:=gZ (a1:=(true,aD)) (a2:=(false,Sy.str)) (sp:=lF) (F:=T6) (Hs:=A43) (f:=94) (k:=8) AMR aY a7 (aO rfl) ⟨_,_,Tryz.func94,rfl⟩ rfl λ_ _ _=>by kernel_rfl
def C9:aP Tryz.prog 94 lK:=A02 λd id r h hb=>by
 have hl:d.2.2.1.length<=2 ^ 47:=hb.1.2.2.1.1;unfold lF at h;split at h
 ·rename_i hok;unfold T6 BJ0 BJU PP v6 m8 i6 g9 IR f0 d7 d5;rw[cS];refine bK d.2.2.1.length (λk s=>s=((k:Int),(),())/\(d.2.2.1.drop k).find? (λs=>decide (s.1=id))=partOf d id) ⟨rfl,rfl⟩ ?_;rintro X k s hk ⟨rfl,hf⟩ hX;simp only[ae,CD,cS];by_cases hlt:k<d.2.2.1.length
  ·rw[nQ hlt] at hf;have hp:fL d.2.2.1[k]=true:=List.all_eq_true.1 hok _ (ak hlt);simp only[hlt,decide_true,aC,bD (r:=aK) hlt];generalize d.2.2.1[k]=p at *;unfold fL EM at hp;simp only[ac] at hp;obtain ⟨⟨hp1,hp2⟩,hp3⟩:=hp;cases hc:decide (p.1=id) with
   | true =>
    simp only[hc,if_true] at hf;simp only[zX,<-hf] at h;cases h;simp only[];refine aF (s:=[(false,aA.li)]) (y:=p.2.2.2.2.2.2.1.1) (by rw[pG,fA,iY hp1];rfl) ?_;refine dW (r:=.li aA) (l:=p.2.2.2.2.2.2.1.2) (by rw[QH,iY hp2]) _ ?_;obtain ⟨p1,p2,p3,p4,p5,p6,⟨o,hs⟩,p7⟩:=p;have hb47:hs.length<=140737488355328:=by
     simp only[lB,ac,ah] at hp2;exact hp2.2
    cases hs with
    | nil =>
     simp only[List.isEmpty_nil];refine bK 0 (λk s=>s=((k:Int),())) rfl ?_;rintro X k s hk rfl hX;have:k=0:=by omega
     subst this;rfl
    | cons h0 hs =>
     generalize hhs:h0::hs=hh at *;have he:hh.isEmpty=false:=by rw[<-hhs];rfl
     simp only[he];rw[dH (r:=.li aA) rfl];refine bK hh.length (λk s=>s=((k:Int),hh,())) rfl ?_;rintro X k s hk rfl hX;simp only[ae,CD];by_cases hlt:k<hh.length
     ·have hok:lB 16 hh[k].length=true:=List.all_eq_true.1 hp3 _ (ak hlt);simp only[hlt,decide_true,Int.toNat_natCast,bD (r:=.li aA) hlt,iK (r:=.li aA) hlt,pP (r:=.li aA) hlt];refine aF (s:=[(false,aA.li)]) (y:=hh[k]) (by rw[pG,fA,iY hok];rfl) ?_;refine ⟨rfl,?_⟩;have e:bV (Sy.enc (.li aA) hh[k]) 0 [T.sl false (List.map aA.enc hh[k])]=Sy.enc (.li aA) hh[k]:=rfl;rw[e,EZ (r:=.li aA) hlt,dH (r:=.li aA) rfl];refine hX _ hlt ?_;simp only[Prod.mk.injEq,and_true];exact bG _ (by omega) (by omega)
     ·simp only[hlt,decide_false];rfl
   | false =>
    simp only[hc] at hf;refine hX _ hlt ⟨?_,hf⟩;simp only[Prod.mk.injEq,and_true];exact bG _ (by omega) (by omega)
  ·have:k=d.2.2.1.length:=by omega
   subst this;simp only[List.drop_length,List.find?_nil] at hf;simp only[zX,<-hf] at h;simp only[hlt,decide_false,aC];cases h;rfl
 ·cases h
end Go.Pv
namespace Go.Pv
open Go Go.Proofs IntKind
abbrev kO:Sh:=[(false,.bool)]
variable {A B:Prop}
def eN {p:Prop} {i:Decidable p} (h:p) (ha:A):aC (@decide p i) A B:=by rw[show @decide p i=true from ai h];exact ha
def gK {p:Prop} {i:Decidable p} (h:¬ p) (hb:B):aC (@decide p i) A B:=by rw[show @decide p i=false from aj h];exact hb
def cA {p:Prop} {i:Decidable p} (h1:p->A) (h2:¬ p->B):aC (@decide p i) A B:=by
 by_cases h:p
 ·rw[ai h];exact h1 h
 ·rw[aj h];exact h2 h
def kX {p:Prop} {i:Decidable p} (h1:¬ p->A) (h2:p->B):aC (!(@decide p i)) A B:=by
 by_cases h:p
 ·rw[ai h];exact h2 h
 ·rw[aj h];exact h1 h
def vA {c:Bool} (h1:c=true->A) (h2:c=false->B):aC c A B:=by cases c with
 | true=>exact h1 rfl
 | false=>exact h2 rfl
def fK {c:Bool} (h1:c=false->A) (h2:c=true->B):aC (!c) A B:=by cases c with
 | true=>exact h2 rfl
 | false=>exact h1 rfl
def cH {α:Type} (f:α->Int):List α->Int
 | []=>0
 | a::l=>if f a=0 then cH f l else f a
def qJ {r:Sy} {l:List r.den} (f:r.den->Int) (hl:l.length<=140737488355328) {Body:(Int×PUnit->Prop)->Int×PUnit->r.den->Prop} {Exit:Prop}
  (hbody:∀ (X:Int×PUnit->Prop) (s:Int×PUnit) (y:r.den),y∈l->(f y=0->X (i64.wrap (s.1+1),()))->(f y≠0->cH f l=f y)->Body X s y) (hexit:cH f l=0->Exit) :
  bB (Int×PUnit) (λ(X:Int×PUnit->Prop) (s:Int×PUnit)=>aC (decide (s.1<((List.map r.enc l).length:Int))) (aR r (List.map r.enc l) s.1 λy=>Body X s y) Exit) (0,()):=by
 refine bK l.length (λk s=>s=((k:Int),())/\cH f l=cH f (l.drop k)) ⟨rfl,by rw[List.drop_zero]⟩ ?_;rintro X k s hk ⟨rfl,he⟩ hX;dsimp only;refine cA (λhlt=>?_) λhge=>?_
 ·rw[ae] at hlt;have hlt:k<l.length:=by omega
  rw[bD hlt];have hd:l.drop k=l[k]::l.drop (k+1):=List.drop_eq_getElem_cons hlt;rw[hd,cH] at he;refine hbody X _ _ (ak hlt) (λh0=>?_) λh0=>by rw[he,if_neg h0]
  rw[if_pos h0] at he;exact hX _ hlt ⟨by rw[show i64.wrap ((k:Int)+1)=((k+1:Nat):Int) from bG _ (by omega) (by omega)],he⟩
 ·rw[ae] at hge;have:k=l.length:=by omega
  subst this;rw[List.drop_length] at he;exact hexit he
end Go.Pv
namespace Go.Pv
open Go Go.Proofs IntKind
def upF (d:aB):Nat->iII->List iII->List iII×Bool
 | 0,_,_=>([],false)
 | n+1,id,l=>match iD d id with
  | none=>([],false)
  | some x=>if x.2.1=1 then (l++[id],true) else upF d n x.2.2 (l++[id])
def up (d:aB) (id:iII):List iII×Bool:=upF d 65 id []
def ALN {d:aB}:∀ {n:Nat} {id:iII} {l:List iII},(upF d n id l).1.length<=l.length+n
 | 0,_,_=>by simp[upF]
 | n+1,id,l=>by
  unfold upF;cases iD d id with
  | none=>simp
  | some x =>
   by_cases hx:x.2.1=1
   ·simp only[hx,if_true];simp
   ·simp only[hx,if_false];have:=ALN (d:=d) (n:=n) (id:=x.2.2) (l:=l++[id]);simp at this;omega
def BFE (d:aB) (id:iII):(up d id).1.length<=65:=by have:=ALN (d:=d) (n:=65) (id:=id) (l:=[]);simpa [up] using this
def AFJ {l:List iII} (h:l.length<=8000000000000) (K:Prop):bR (decide (((List.map Sy.str.enc l).length+1)*16<=140737488355328)&&decide ((List.map Sy.str.enc l).length+1<=140737488355328)) K=K:=by
 have e:(decide (((List.map Sy.str.enc l).length+1)*16<=140737488355328)&&decide ((List.map Sy.str.enc l).length+1<=140737488355328))=true:=by
  simp only[ae,ac,ah];omega
 rw[e];simp[bR]
def MO {l:List iII} {x:iII} (K:List iII->Prop):dM Sy.str (List.map Sy.str.enc l++[[pPQ x]]) K=K (l++[x]):=F4 (r:=.str) rfl l _ x rfl K
def AXJ {l:List iII} {x:iII}:List.map Sy.str.enc l++[[pPQ x]]=List.map Sy.str.enc (l++[x]):=by simp[Sy.enc]
end Go.Pv
namespace Go.Pv
open Go Go.Proofs IntKind
variable {α:Type}
noncomputable def nJ (a b:α):Bool:=@decide (a=b) (Classical.propDecidable _)
def fP {a b:α}:nJ a b=true↔a=b:=by unfold nJ;exact @decide_eq_true_iff _ (Classical.propDecidable _)
@[simp] def BHP (a:α):nJ a a=true:=fP.2 rfl
def BT {a b:α} (h:¬ a=b):nJ a b=false:=by
 cases hc:nJ a b with
 | false=>rfl
 | true=>exact absurd (fP.1 hc) h
def AZY (c d:Bool) (r:T):aC c (pPR d=r) (pPR false=r)=(pPR (c&&d)=r):=by cases c<;>simp[aC]
def APY (c d:Bool) (r:T):aC (!c) (pPR false=r) (pPR d=r)=(pPR (c&&d)=r):=by cases c<;>simp[aC]
def BHM (x:Bool):Sh.enc kO x=pPR x:=rfl
def ET (y:Bool) (K:Bool->Prop):aJ [(false,Sy.bool)] (some (Sh.enc kO y)) K=K y:=yP (s:=kO) rfl y K
variable {R:T->Prop}
def ARQ {r:Sy} {l m:List r.den} (hlen:l.length=m.length) (hl:l.length<=2 ^ 47) (test:r.den->r.den->Bool) (ht:∀ x y,test x y=true↔x=y) (hR:R (pPR (nJ l m))) :
  bB (Int×PUnit) (λ(X:Int×PUnit->Prop) (s:Int×PUnit)=>aC (decide (s.1<(↑(List.map r.enc l).length:Int))) (aR r (List.map r.enc l) s.1 λy=>aR r (List.map r.enc m) s.1 λz=>aC (!(test y z)) (R (pPR false)) (X (i64.wrap (s.1+1),()))) (R (pPR true))) (0,()):=by
 refine bK l.length (λk s=>s=((k:Int),())/\(l=m↔l.drop k=m.drop k)) ⟨rfl,by simp⟩ ?_;rintro X k s hk ⟨rfl,he⟩ hX;dsimp only;by_cases hlt:k<l.length
 ·have hlt2:k<m.length:=by omega
  refine eN (by simp[hlt]) ?_;rw[bD hlt,bD hlt2];rw[List.drop_eq_getElem_cons hlt,List.drop_eq_getElem_cons hlt2,List.cons.injEq] at he;by_cases h1:l[k]=m[k]
  ·rw[(ht _ _).2 h1,Bool.not_true,o6];refine hX _ hlt ⟨by rw[show i64.wrap ((k:Int)+1)=((k+1:Nat):Int) from bG _ (by omega) (by omega)],?_⟩;rw[he];exact ⟨λh=>h.2,λh=>⟨h1,h⟩⟩
  ·have:test l[k] m[k]=false:=by
    cases hc:test l[k] m[k] with
    | false=>rfl
    | true=>exact absurd ((ht _ _).1 hc) h1
   rw[this,Bool.not_false,jY];rwa[BT λh=>h1 (he.1 h).1] at hR
 ·have:k=l.length:=by omega
  subst this;refine gK (by simp) ?_;rwa[fP.2 (he.2 (by rw[List.drop_length,hlen,List.drop_length]))] at hR
def PI {r:Sy} {l m:List r.den} (hl:l.length<=2 ^ 47) (test:r.den->r.den->Bool) (ht:∀ x y,test x y=true↔x=y) (hR:R (pPR (nJ l m))) :
  aC (!decide ((↑(List.map r.enc l).length:Int)=(↑(List.map r.enc m).length:Int))) (R (pPR false)) (bB (Int×PUnit) (λ(X:Int×PUnit->Prop) (s:Int×PUnit)=>aC (decide (s.1<(↑(List.map r.enc l).length:Int))) (aR r (List.map r.enc l) s.1 λy=>aR r (List.map r.enc m) s.1 λz=>aC (!(test y z)) (R (pPR false)) (X (i64.wrap (s.1+1),()))) (R (pPR true))) (0,())):=by
 by_cases hlen:l.length=m.length
 ·rw[show (!decide ((↑(List.map r.enc l).length:Int)=(↑(List.map r.enc m).length:Int)))=false by simp[hlen],o6];exact ARQ hlen hl test ht hR
 ·rw[show (!decide ((↑(List.map r.enc l).length:Int)=(↑(List.map r.enc m).length:Int)))=true by simp;omega,jY];rwa[BT λh=>hlen (by rw[h])] at hR
def mZ (d:aB) (id:iII):Option aQ:=d.2.2.2.2.1.find? λs=>decide (s.1=id)
def noPack:aQ:=(⟨#[]⟩,⟨#[]⟩,[],0,[])
def ZF:TR Tryz.prog 243 1 16:=⟨λR=>by kernel_rfl,λfl R=>by kernel_rfl,λfl a rows R=>by kernel_rfl⟩
noncomputable def jV:List T->Option T:=gS [(false,.li .str)] (fA .str 16)
def oF {u0}:jV [T.sl false (List.map (Sy.enc .str) u0)]=fA .str 16 u0:=bI (s:=[(false,.li .str)]) rfl u0 rfl
def IP:aP Tryz.prog 243 jV:=F3 aY a7 ⟨_,_,Tryz.func243,rfl⟩ ZF
def eT (p:aQ):Bool:=lB 16 p.2.2.1.length&&lB 16 p.2.2.2.2.length
def HA (d:aB):Bool:=d.2.2.2.2.1.all eT
def ACE (d:aB) (t:T):Option T:=match HA d with
 | true=>some t
 | false=>none
def A1E {d:aB} {t r:T} (h:ACE d t=some r):HA d=true/\r=t:=by
 unfold ACE at h;split at h
 ·cases h;exact ⟨by assumption,rfl⟩
 ·cases h
def ACF {d:aB} (t:T) (h:HA d=true):ACE d t=some t:=by unfold ACE;rw[h]
def J8 (x:aB×iII):Option T:=ACE x.1 (Sh.enc [(true,aH),(false,.bool)] (found noPack (mZ x.1 x.2)))
noncomputable def BAB:Env:=Env.of [(243,.pure jV)]
def BAQ:FuncId->Hint:=b6 217 [(2,.inv [.val 11 false (.int .i64),.fix 1])] (λ_=>bA)
def ATQ:aV Tryz.prog BAB:=.cons IP (.nil _)
def eI:Sh:=[(false,Sy.str.li)]
def FS(a0:aB):List (List T):=List.map aH.enc a0.2.2.2.2.1
def M2(y3:List iII):List (List T):=List.map Sy.str.enc y3
def AEZ(a0:aB)(a1:iII)(R:T->Prop):Prop:=fS (bH.rows false [[D.p d5,D.p d5, D.p d7,D.p (pPP 0), D.p d7]]) (bH.rows false [[D.p d5,D.p d5, D.p d7,D.p (pPP 0), D.p d7]]) (bB (Int×PUnit×PUnit) (λX0 s1=>aC (decide (s1.1<(↑(FS a0).length:Int))) (aR aH (FS a0) s1.1 λ(y2:aQ)=>aC (decide (y2.1=a1)) (aJ eI (jV [T.sl false (List.map Sy.str.enc y2.2.2.1)]) λ(y3:List iII)=>aJ eI (jV [T.sl false (List.map Sy.str.enc y2.2.2.2.2)]) λ(y4:List iII)=>R (T.b7 [T.agg [pPQ y2.1,pPQ y2.2.1, T.sl false (M2 y3), pPP y2.2.2.2.1, T.sl false (M2 y4)], pPR true])) (fS (bH.rows false [[D.p d5, D.p d5, D.p d7, D.p (pPP 0), D.p d7]]) (bH.rows false [[D.p d5, D.p d5, D.p d7, D.p (pPP 0), D.p d7]]) (X0 (i64.wrap (s1.1+1),(),())))) (R (T.b7 [T.agg [pPQ ({data:=#[]}),pPQ ({data:=#[]}), T.sl false [],pPP 0,T.sl false []], pPR false]))) (0,(),()))
abbrev AII:Sh:=[(true,aD),(false,Sy.str)]
noncomputable def B8:List T->Option T:=gS AII J8
def R1 {a0 a1}:B8 [aG true aD a0,pPQ a1]=J8 (a0,a1):=bI (s:=AII) rfl (a0,a1) rfl
def A74:rJ Tryz.prog 217 B8 J8 (cC AII) AEZ:=gZ (a1:=(true,aD)) (a2:=(false,Sy.str)) (sp:=J8) (F:=AEZ) (Hs:=BAQ) (f:=217) (k:=8) ATQ aY a7 (aO rfl) ⟨_,_,Tryz.func217,rfl⟩ rfl λ_ _ _=>by kernel_rfl
def AKA:aP Tryz.prog 217 B8:=A74 λd id r h hb=>by
 have hl:d.2.2.2.2.1.length<=2 ^ 47:=hb.1.2.2.2.2.1.1;obtain ⟨hok,rfl⟩:=A1E h;clear h;unfold AEZ M2 FS eI d7 d5;rw[cS];refine bK d.2.2.2.2.1.length (λk s=>s=((k:Int),(),())/\(d.2.2.2.2.1.drop k).find? (λs=>decide (s.1=id))=mZ d id) ⟨rfl,rfl⟩ ?_;rintro X k s hk ⟨rfl,hf⟩ hX;simp only[ae,CD,cS];by_cases hlt:k<d.2.2.2.2.1.length
 ·rw[nQ hlt] at hf;have hp:eT d.2.2.2.2.1[k]=true:=List.all_eq_true.1 hok _ (ak hlt);simp only[hlt,decide_true,aC,bD (r:=aH) hlt];unfold eT at hp;simp only[ac] at hp;cases hc:decide (d.2.2.2.2.1[k].1=id) with
  | true =>
   simp only[hc,if_true] at hf;rw[<-hf];refine aF (s:=[(false,.li .str)]) (y:=d.2.2.2.2.1[k].2.2.1) (by rw[oF,fA,iY hp.1];rfl) ?_;refine aF (s:=[(false,.li .str)]) (y:=d.2.2.2.2.1[k].2.2.2.2) (by rw[oF,fA,iY hp.2];rfl) ?_;rfl
  | false =>
   simp only[hc] at hf;refine hX _ hlt ⟨?_,hf⟩;simp only[Prod.mk.injEq,and_true];exact bG _ (by omega) (by omega)
 ·have:k=d.2.2.2.2.1.length:=by omega
  subst this;simp only[List.drop_length,List.find?_nil] at hf;rw[<-hf];simp only[hlt,decide_false,aC];rfl
noncomputable def uH (x:List aU×List aU):Option T:=some (Sh.enc kO (nJ x.1 x.2))
noncomputable def uI (x:jL×jL):Option T:=some (Sh.enc kO (nJ x.1 x.2))
noncomputable def mF (x:a8×a8):Option T:=some (Sh.enc kO (nJ x.1 x.2))
noncomputable def oI:=mF
noncomputable def AS7:Env:=Env.of []
def AV4:FuncId->Hint:=b6 95 [(4,.inv [.val 5 false (.int .i64)])] (λ_=>bA)
def AED:aV Tryz.prog AS7:=.nil _
def d4:T:=pPR false
def d8:T:=pPR true
def LE(a0:List aU)(a1:List aU)(R:T->Prop):Prop:=bB (Int×PUnit) (λX0 s1=>aC (decide (s1.1<(↑(g9 a0).length:Int))) (aR aA (g9 a0) s1.1 λ(y2:aU)=>aR aA (g9 a1) s1.1 λ(y3:aU)=>aC (!(decide (y2.1=y3.1)&&(decide (y2.2=y3.2)&&true))) (R d4) (f9 X0 s1)) (R d8)) (0,())
def LP(a0:List aU)(a1:List aU)(R:T->Prop):Prop:=aC (!decide ((↑(g9 a0).length:Int)=(↑(g9 a1).length:Int))) (R d4) (LE a0 a1 R)
abbrev PA:Sh:=[(false,aA.li),(false,aA.li)]
noncomputable def tQ:List T->Option T:=gS PA uH
def AA8 {a0 a1}:tQ [T.sl false (List.map aA.enc a0),T.sl false (List.map aA.enc a1)]=uH (a0,a1):=bI (s:=PA) rfl (a0,a1) rfl
def AQ3:rJ Tryz.prog 95 tQ uH (cC PA) LP:=gZ (a1:=(false,aA.li)) (a2:=(false,aA.li)) (sp:=uH) (F:=LP) (Hs:=AV4) (f:=95) (k:=8) AED aY a7 (aO rfl) ⟨_,_,Tryz.func95,rfl⟩ rfl λ_ _ _=>by kernel_rfl
def AO2:aP Tryz.prog 95 tQ:=AQ3 λa b r h hb=>by
 cases h;unfold LP LE g9 f9 d8 d4;refine PI (r:=aA) (R:=λy=>y=Sh.enc kO (nJ a b)) hb.1.1 _ (λx y=>?_) rfl;simp only[Bool.and_true,ac,ah,Prod.ext_iff]
noncomputable def AS8:Env:=Env.of [(95,.pure tQ)]
def AV5:FuncId->Hint:=b6 67 [(4,.inv [.val 5 false (.int .i64)])] (λ_=>bA)
def AEE:aV Tryz.prog AS8:=.cons AO2 (.nil _)
def d6:Sh:=[(false,Sy.bool)]
def BJ4(a0:jL):List (List T):=List.map aA.li.enc a0.2
def LQ(a0:jL)(a1:jL)(R:T->Prop):Prop:=aJ d6 (tQ [T.sl false (List.map aA.enc a0.1),T.sl false (List.map aA.enc a1.1)]) λ(y0:Bool)=>aC (!y0) (R d4) (aC (!decide ((↑(BJ4 a0).length:Int) = (↑(BJ4 a1).length:Int))) (R d4) (bB (Int×PUnit) (λX1 s2=>aC (decide (s2.1<(↑(BJ4 a0).length:Int))) (aR aA.li (BJ4 a0) s2.1 λ(y3:List aU)=>aR aA.li (BJ4 a1) s2.1 λ(y4:List aU)=>aJ d6 (tQ [T.sl false (g9 y3),T.sl false (g9 y4)]) λ(y5:Bool)=>aC (!y5) (R d4) (f9 X1 s2)) (R d8)) (0,())))
abbrev PB:Sh:=[(true,eK),(true,eK)]
noncomputable def xO:List T->Option T:=gS PB uI
def AA9 {a0 a1}:xO [aG true eK a0,aG true eK a1]=uI (a0,a1):=bI (s:=PB) rfl (a0,a1) rfl
def AQ4:rJ Tryz.prog 67 xO uI (cC PB) LQ:=gZ (a1:=(true,eK)) (a2:=(true,eK)) (sp:=uI) (F:=LQ) (Hs:=AV5) (f:=67) (k:=8) AEE aY a7 (aO rfl) ⟨_,_,Tryz.func67,rfl⟩ rfl λ_ _ _=>by kernel_rfl
def AO3:aP Tryz.prog 67 xO:=AQ4 λa b r h hb=>by
 cases h;unfold LQ BJ4 g9 f9 d8 d6 d4;have u:=@AA8;simp only[u,uH,ET];by_cases h1:a.1=b.1
 ·rw[fP.2 h1,Bool.not_true,o6];refine PI (r:=.li aA) (R:=λy=>y=Sh.enc kO (nJ a b)) hb.1.2.1 _ (λx y=>fP) ?_;show T.v (.bool (nJ a.2 b.2))=T.v (.bool (nJ a b))
  congr 2
  rw[Bool.eq_iff_iff,fP,fP,Prod.ext_iff];exact ⟨λh=>⟨h1,h⟩,λh=>h.2⟩
 ·rw[BT h1,Bool.not_false,jY,BT λh=>h1 (by rw[h])];rfl
noncomputable def ADO:Env:=Env.of [(67,.pure xO)]
def AFA:FuncId->Hint:=λ_=>bA
def TY:aV Tryz.prog ADO:=.cons AO3 (.nil _)
def BK(a0:a8)(a1:a8)(R:T->Prop):Prop:=aC (!decide (a0.1=a1.1)) (R d4) (aC (!decide (a0.2.1=a1.2.1)) (R d4) (aC (!decide (a0.2.2.1=a1.2.2.1)) (R d4) (aC (!decide (a0.2.2.2.1=a1.2.2.2.1)) (R d4) (aC (!decide (a0.2.2.2.2.1=a1.2.2.2.2.1)) (R d4) (aC (!decide (a0.2.2.2.2.2.1=a1.2.2.2.2.2.1)) (R d4) (aJ d6 (xO [aG true eK a0.2.2.2.2.2.2.1, aG true eK a1.2.2.2.2.2.2.1]) λ(y0:Bool)=>aC y0 (aC (decide (a0.2.2.2.2.2.2.2.1=a1.2.2.2.2.2.2.2.1)) (aC (decide (a0.2.2.2.2.2.2.2.2.1=a1.2.2.2.2.2.2.2.2.1)) (aC (decide (a0.2.2.2.2.2.2.2.2.2.1=a1.2.2.2.2.2.2.2.2.2.1)) (aC (decide (a0.2.2.2.2.2.2.2.2.2.2.1.1 = a1.2.2.2.2.2.2.2.2.2.2.1.1) && (decide (a0.2.2.2.2.2.2.2.2.2.2.1.2.1 = a1.2.2.2.2.2.2.2.2.2.2.1.2.1) && (decide (a0.2.2.2.2.2.2.2.2.2.2.1.2.2 = a1.2.2.2.2.2.2.2.2.2.2.1.2.2) && true))) (R (pPR (decide (a0.2.2.2.2.2.2.2.2.2.2.2.1.1 = a1.2.2.2.2.2.2.2.2.2.2.2.1.1) && (decide (a0.2.2.2.2.2.2.2.2.2.2.2.1.2.1 = a1.2.2.2.2.2.2.2.2.2.2.2.1.2.1) && (decide (a0.2.2.2.2.2.2.2.2.2.2.2.1.2.2 = a1.2.2.2.2.2.2.2.2.2.2.2.1.2.2) && true)) && (decide (a0.2.2.2.2.2.2.2.2.2.2.2.2 = a1.2.2.2.2.2.2.2.2.2.2.2.2) && true)))) (R d4)) (R d4)) (R d4)) (R d4)) (R d4)))))))
abbrev CN:Sh:=[(true,aK),(true,aK)]
noncomputable def qO:List T->Option T:=gS CN mF
def QK {a0 a1}:qO [aG true aK a0,aG true aK a1]=mF (a0,a1):=bI (s:=CN) rfl (a0,a1) rfl
def ACC:rJ Tryz.prog 42 qO mF (cC CN) BK:=gZ (a1:=(true,aK)) (a2:=(true,aK)) (sp:=mF) (F:=BK) (Hs:=AFA) (f:=42) (k:=8) TY aY a7 (aO rfl) ⟨_,_,Tryz.func42,rfl⟩ rfl λ_ _ _=>by kernel_rfl
def Z4:aP Tryz.prog 42 qO:=ACC λa b r h hb=>by
 cases h;unfold BK d6 d4;simp only[AA9,uI,ET];simp only[BHM,AZY,APY]
 congr 2
 rw[Bool.eq_iff_iff,fP];simp only[Bool.and_true,ac,ah,fP,Prod.ext_iff,and_assoc]
noncomputable def TU:Env:=Env.of [(42,.pure qO)]
def UG:FuncId->Hint:=λ_=>bA
def KW:aV Tryz.prog TU:=.cons Z4 (.nil _)
def uL(a0:a8)(a1:a8)(R:T->Prop):Prop:=aJ d6 (qO [aG true aK a0,aG true aK a1]) λ(y0:Bool)=>R (pPR y0)
abbrev vN:Sh:=[(true,aK),(true,aK)]
noncomputable def iW:List T->Option T:=gS vN oI
def JK {a0 a1}:iW [aG true aK a0,aG true aK a1]=oI (a0,a1):=bI (s:=vN) rfl (a0,a1) rfl
def QP:rJ Tryz.prog 23 iW oI (cC vN) uL:=gZ (a1:=(true,aK)) (a2:=(true,aK)) (sp:=oI) (F:=uL) (Hs:=UG) (f:=23) (k:=8) KW aY a7 (aO rfl) ⟨_,_,Tryz.func23,rfl⟩ rfl λ_ _ _=>by kernel_rfl
def QG:aP Tryz.prog 23 iW:=QP λa b r h hb=>by
 cases h;unfold uL d6;simp only[QK,mF,ET];rfl
end Go.Pv
namespace Go.Pv
open Go Go.Proofs IntKind
def few (d:aB) (n:Int):Bool:=decide ((d.2.1.length:Int)<=n)&&decide ((d.2.2.1.length:Int)<=n)&&decide ((d.2.2.2.1.length:Int)<=n)&&decide ((d.2.2.2.2.1.length:Int)<=n)&&decide ((d.2.2.2.2.2.length:Int)<=n)&&d.2.2.2.2.1.all λk=>decide ((k.2.2.1.length:Int)<=n)&&decide ((k.2.2.2.2.length:Int)<=n)
def WY (x:aB×Int):Option T:=some (Sh.enc kO (few x.1 x.2))
noncomputable def BF3:Env:=Env.of []
def BGP:FuncId->Hint:=b6 40 [(4,.inv [.val 5 false (.int .i64)])] (λ_=>bA)
def A4C:aV Tryz.prog BF3:=.nil _
def RK(a0:aB):List (List T):=List.map aZ.enc a0.2.2.2.2.2
def AUN(a0:aB)(a1:Int)(R:T->Prop):Prop:=aC (decide (a1<(↑(GT a0).length:Int))) (R d4) (aC (decide (a1<(↑(IR a0).length:Int))) (R d4) (aC (decide (a1<(↑(IO a0).length:Int))) (R d4) (aC (decide (a1<(↑(FS a0).length:Int))) (R d4) (aC (decide (a1<(↑(RK a0).length:Int))) (R d4) (bB (Int×PUnit) (λX0 s1=>aC (decide (s1.1<(↑(FS a0).length:Int))) (aR aH (FS a0) s1.1 λ(y2:aQ)=>aC (decide (a1<(↑(List.map Sy.str.enc y2.2.2.1).length:Int))) (R d4) (aR aH (FS a0) s1.1 λ(y3:aQ)=>aC (decide (a1<(↑(List.map Sy.str.enc y3.2.2.2.2).length:Int))) (R d4) (f9 X0 s1))) (R d8)) (0,()))))))
abbrev A2I:Sh:=[(true,aD),(false,(Sy.int IntKind.i64))]
noncomputable def AAE:List T->Option T:=gS A2I WY
def AY0 {a0 a1}:AAE [aG true aD a0,pPP a1]=WY (a0,a1):=bI (s:=A2I) rfl (a0,a1) rfl
def BD4:rJ Tryz.prog 40 AAE WY (cC A2I) AUN:=gZ (a1:=(true,aD)) (a2:=(false,(Sy.int IntKind.i64))) (sp:=WY) (F:=AUN) (Hs:=BGP) (f:=40) (k:=8) A4C aY a7 (aO rfl) ⟨_,_,Tryz.func40,rfl⟩ rfl λ_ _ _=>by kernel_rfl
variable {A B:Prop}
def jR {n:Int} {m:Nat} (h1:¬ (m:Int)<=n->A) (h2:(m:Int)<=n->B):aC (decide (n<(m:Int))) A B:=by
 by_cases h:(m:Int)<=n
 ·exact gK (by omega) (h2 h)
 ·exact eN (by omega) (h1 h)
variable {α:Type}
def L1 {p:α->Bool} {l:List α} {k:Nat} (h:k<l.length):(l.drop k).all p=(p l[k]&&(l.drop (k+1)).all p):=by rw[List.drop_eq_getElem_cons h,List.all_cons]
def BBY:aP Tryz.prog 40 AAE:=BD4 λd n r h hb=>by
 cases h;have hl:d.2.2.2.2.1.length<=2 ^ 47:=hb.1.2.2.2.2.1.1;have no:few d n=false->pPR false=Sh.enc kO (few d n):=λh=>by rw[h];rfl
 unfold AUN f9 RK IR IO GT FS d8 d4;simp only[ae];refine jR (λh=>no (by simp[few,h])) λg1=>?_;refine jR (λh=>no (by simp[few,h])) λg2=>?_;refine jR (λh=>no (by simp[few,h])) λg3=>?_;refine jR (λh=>no (by simp[few,h])) λg4=>?_;refine jR (λh=>no (by simp[few,h])) λg5=>?_;refine bK d.2.2.2.2.1.length (λk s=>s=((k:Int),())/\few d n=(d.2.2.2.2.1.drop k).all λk=>decide ((k.2.2.1.length:Int)<=n)&&decide ((k.2.2.2.2.length:Int)<=n)) ⟨rfl,by simp only[few,g1,g2,g3,g4,g5,decide_true,Bool.true_and,List.drop_zero]⟩ ?_;rintro X k s hk ⟨rfl,he⟩ hX;dsimp only;by_cases hlt:k<d.2.2.2.2.1.length
 ·rw[L1 hlt] at he;refine eN (by simp[hlt]) ?_;rw[bD (r:=aH) hlt]
  try simp only[ae]
  refine jR (λh=>no (by rw[he];simp[h])) λg6=>?_
  try rw[bD (r:=aH) hlt]
  try simp only[ae]
  refine jR (λh=>no (by rw[he];simp[h])) λg7=>?_;refine hX _ hlt ⟨by rw[show i64.wrap ((k:Int)+1)=((k+1:Nat):Int) from bG _ (by omega) (by omega)],?_⟩;rw[he];simp only[g6,g7,decide_true,Bool.true_and]
 ·have:k=d.2.2.2.2.1.length:=by omega
  subst this;refine gK (by simp) ?_;rw[he];simp only[List.drop_length,List.all_nil];rfl
def BES {d:aB} (h:InS aD d):I4 d=true:=by
 refine List.all_eq_true.2 λp hp=>?_;obtain ⟨_,_,⟨_,_,h3⟩,_⟩:=h;have h4:=h3 p hp;obtain ⟨_,_,_,_,_,_,⟨⟨h5,h6,_⟩,h7,h8,h9⟩,_⟩:=h4;unfold fL EM lB;simp only[ac,ah,List.all_eq_true];refine ⟨⟨⟨?_,?_⟩,?_,?_⟩,λq hq=>?_⟩
 ·exact h5
 ·exact h6
 ·exact h7
 ·exact h8
 ·obtain ⟨g1,g2,_⟩:=h9 q hq;exact ⟨g1,g2⟩
def BET {d:aB} (h:InS aD d):HA d=true:=by
 refine List.all_eq_true.2 λp hp=>?_;obtain ⟨_,_,_,_,⟨_,_,h3⟩,_⟩:=h;obtain ⟨_,_,⟨h5,h6,_⟩,_,⟨h7,h8,_⟩⟩:=h3 p hp;unfold eT lB;simp only[ac,ah];exact ⟨⟨h5,h6⟩,h7,h8⟩
def qQ {c:Bool} (h1:c=true->A) (h2:c=false->B):aC c A B:=by cases c with
 | true=>exact h1 rfl
 | false=>exact h2 rfl
def kF {c:Bool} (h1:c=false->A) (h2:c=true->B):aC (!c) A B:=by cases c with
 | true=>exact h2 rfl
 | false=>exact h1 rfl
end Go.Pv
namespace Go.Pv
open Go Go.Proofs IntKind
noncomputable def FB (x:List aU×List aU):Option T:=some (Sh.enc kO (nJ x.1 x.2))
noncomputable def r5 (x:a8×a8):Option T:=some (Sh.enc kO (nJ x.1 x.2))
noncomputable def BAG:Env:=Env.of []
def BAV:FuncId->Hint:=b6 274 [(4,.inv [.val 13 false (.int .i64)])] (λ_=>bA)
def ATV:aV Tryz.prog BAG:=.nil _
def AE4(a0:List aU)(a1:List aU)(R:T->Prop):Prop:=aC (!decide ((↑(g9 a0).length:Int)=(↑(g9 a1).length:Int))) (R d4) (LE a0 a1 R)
abbrev AIN:Sh:=[(false,aA.li),(false,aA.li)]
noncomputable def GM:List T->Option T:=gS AIN FB
def APN {a0 a1}:GM [T.sl false (List.map aA.enc a0),T.sl false (List.map aA.enc a1)]=FB (a0,a1):=bI (s:=AIN) rfl (a0,a1) rfl
def A79:rJ Tryz.prog 274 GM FB (cC AIN) AE4:=gZ (a1:=(false,aA.li)) (a2:=(false,aA.li)) (sp:=FB) (F:=AE4) (Hs:=BAV) (f:=274) (k:=8) ATV aY a7 (aO rfl) ⟨_,_,Tryz.func274,rfl⟩ rfl λ_ _ _=>by kernel_rfl
def A6W:aP Tryz.prog 274 GM:=A79 λa b r h hb=>by
 cases h;unfold AE4 LE g9 f9 d8 d4;refine PI (r:=aA) (R:=λy=>y=Sh.enc kO (nJ a b)) hb.1.1 _ (λx y=>?_) rfl;simp only[Bool.and_true,ac,ah,Prod.ext_iff]
variable {N Y:Prop}
def AWZ {r:Sy} {l m:List r.den} (hlen:l.length=m.length) (hl:l.length<=2 ^ 47) (test:r.den->r.den->Bool) (ht:∀ x y,test x y=true↔x=y) (hY:l=m->Y) (hN:¬ l=m->N) :
  bB (Int×PUnit) (λ(X:Int×PUnit->Prop) (s:Int×PUnit)=>aC (decide (s.1<(↑(List.map r.enc l).length:Int))) (aR r (List.map r.enc l) s.1 λy=>aR r (List.map r.enc m) s.1 λz=>aC (!(test y z)) N (X (i64.wrap (s.1+1),()))) Y) (0,()):=by
 refine bK l.length (λk s=>s=((k:Int),())/\(l=m↔l.drop k=m.drop k)) ⟨rfl,by simp⟩ ?_;rintro X k s hk ⟨rfl,he⟩ hX;dsimp only;by_cases hlt:k<l.length
 ·have hlt2:k<m.length:=by omega
  refine eN (by simp[hlt]) ?_;rw[bD hlt,bD hlt2];rw[List.drop_eq_getElem_cons hlt,List.drop_eq_getElem_cons hlt2,List.cons.injEq] at he;refine kF (λh=>hN λe=>?_) λh=>?_
  ·rw[(ht _ _).2 (he.1 e).1] at h;cases h
  ·have h1:=(ht _ _).1 h;refine hX _ hlt ⟨by rw[show i64.wrap ((k:Int)+1)=((k+1:Nat):Int) from bG _ (by omega) (by omega)],?_⟩;rw[he];exact ⟨λh=>h.2,λh=>⟨h1,h⟩⟩
 ·have:k=l.length:=by omega
  subst this;refine gK (by simp) ?_;exact hY (he.2 (by rw[List.drop_length,hlen,List.drop_length]))
variable {α β:Type}
def BDB {f:α->β} {l m:List α} (h:decide ((↑(List.map f l).length:Int)=(↑(List.map f m).length:Int))=true):l.length=m.length:=by simp at h;omega
def UU {r:Sy} {l m:List r.den} (hl:l.length<=2 ^ 47) (test:r.den->r.den->Bool) (ht:∀ x y,test x y=true↔x=y) (hY:l=m->Y) (hN:¬ l=m->N) :
  aC (!decide ((↑(List.map r.enc l).length:Int)=(↑(List.map r.enc m).length:Int))) N (bB (Int×PUnit) (λ(X:Int×PUnit->Prop) (s:Int×PUnit)=>aC (decide (s.1<(↑(List.map r.enc l).length:Int))) (aR r (List.map r.enc l) s.1 λy=>aR r (List.map r.enc m) s.1 λz=>aC (!(test y z)) N (X (i64.wrap (s.1+1),()))) Y) (0,())) :=
 kF (λh=>hN λe=>by simp[e] at h) λh=>AWZ (BDB h) hl test ht hY hN
noncomputable def ADN:Env:=Env.of [(274,.pure GM)]
def AE9:FuncId->Hint:=b6 275 [(4,.inv [.val 17 false (.int .i64)])] (λ_=>bA)
def TX:aV Tryz.prog ADN:=.cons A6W (.nil _)
def BJ(a0:a8)(a1:a8)(R:T->Prop):Prop:=aC (!decide (a0.1=a1.1)) (R d4) (aC (!decide (a0.2.1=a1.2.1)) (R d4) (aC (!decide (a0.2.2.1=a1.2.2.1)) (R d4) (aC (!decide (a0.2.2.2.1=a1.2.2.2.1)) (R d4) (aC (!decide (a0.2.2.2.2.1=a1.2.2.2.2.1)) (R d4) (aC (!decide (a0.2.2.2.2.2.1=a1.2.2.2.2.2.1)) (R d4) (aC (!decide (a0.2.2.2.2.2.2.2.1=a1.2.2.2.2.2.2.2.1)) (R d4) (aC (!decide (a0.2.2.2.2.2.2.2.2.1=a1.2.2.2.2.2.2.2.2.1)) (R d4) (aC (!decide (a0.2.2.2.2.2.2.2.2.2.1=a1.2.2.2.2.2.2.2.2.2.1)) (R d4) (aC (!(decide (a0.2.2.2.2.2.2.2.2.2.2.1.1 = a1.2.2.2.2.2.2.2.2.2.2.1.1) && (decide (a0.2.2.2.2.2.2.2.2.2.2.1.2.1 = a1.2.2.2.2.2.2.2.2.2.2.1.2.1) && (decide (a0.2.2.2.2.2.2.2.2.2.2.1.2.2 = a1.2.2.2.2.2.2.2.2.2.2.1.2.2) && true)))) (R d4) (aC (!(decide (a0.2.2.2.2.2.2.2.2.2.2.2.1.1 = a1.2.2.2.2.2.2.2.2.2.2.2.1.1) && (decide (a0.2.2.2.2.2.2.2.2.2.2.2.1.2.1 = a1.2.2.2.2.2.2.2.2.2.2.2.1.2.1) && (decide (a0.2.2.2.2.2.2.2.2.2.2.2.1.2.2 = a1.2.2.2.2.2.2.2.2.2.2.2.1.2.2) && true)) && (decide (a0.2.2.2.2.2.2.2.2.2.2.2.2 = a1.2.2.2.2.2.2.2.2.2.2.2.2) && true))) (R d4) (aJ d6 (GM [T.sl false (BJ0 a0), T.sl false (BJ0 a1)]) λ(y0:Bool)=>aC y0 (aC (!decide ((↑(v6 a0).length:Int) = (↑(v6 a1).length:Int))) (R d4) (bB (Int×PUnit) (λX1 s2=>aC (decide (s2.1 < (↑(v6 a0).length : Int))) (aR aA.li (v6 a0) s2.1 λ(y3:List aU)=>aR aA.li (v6 a1) s2.1 λ(y4:List aU)=>aJ d6 (GM [T.sl false (g9 y3), T.sl false (g9 y4)]) λ(y5:Bool)=>aC (!y5) (R d4) (f9 X1 s2)) (R d8)) (0,()))) (R d4))))))))))))
abbrev CM:Sh:=[(true,aK),(true,aK)]
noncomputable def qN:List T->Option T:=gS CM r5
def QJ {a0 a1}:qN [aG true aK a0,aG true aK a1]=r5 (a0,a1):=bI (s:=CM) rfl (a0,a1) rfl
def ACB:rJ Tryz.prog 134 qN r5 (cC CM) BJ:=gZ (a1:=(true,aK)) (a2:=(true,aK)) (sp:=r5) (F:=BJ) (Hs:=AE9) (f:=134) (k:=8) TX aY a7 (aO rfl) ⟨_,_,Tryz.func134,rfl⟩ rfl λ_ _ _=>by kernel_rfl
def Z3:aP Tryz.prog 134 qN:=ACB λa b r h hb=>by
 cases h;have no:¬ a=b->pPR false=Sh.enc kO (nJ a b):=λh=>by rw[BT h];rfl
 have yes:a=b->pPR true=Sh.enc kO (nJ a b):=λh=>by rw[fP.2 h];rfl
 have hl:a.2.2.2.2.2.2.1.2.length<=2 ^ 47:=hb.1.2.2.2.2.2.2.1.2.1;unfold BJ BJ0 v6 g9 f9 d8 d6 d4;have u:=@APN;simp only[u,FB,ET];refine kF (λh=>no λe=>by simp[e] at h) λh1=>?_;refine kF (λh=>no λe=>by simp[e] at h) λh2=>?_;refine kF (λh=>no λe=>by simp[e] at h) λh3=>?_;refine kF (λh=>no λe=>by simp[e] at h) λh4=>?_;refine kF (λh=>no λe=>by simp[e] at h) λh5=>?_;refine kF (λh=>no λe=>by simp[e] at h) λh6=>?_;refine kF (λh=>no λe=>by simp[e] at h) λh7=>?_;refine kF (λh=>no λe=>by simp[e] at h) λh8=>?_;refine kF (λh=>no λe=>by simp[e] at h) λh9=>?_;refine kF (λh=>no λe=>by simp[e] at h) λh10=>?_;refine kF (λh=>no λe=>by simp[e] at h) λh11=>?_;refine qQ (λh12=>?_) (λh=>no λe=>by simp[e] at h);refine UU (r:=.li aA) hl _ (λx y=>fP) (λh13=>yes ?_) (λh=>no λe=>h (by rw[e]));simp only[Bool.and_true,ac,ah,fP] at h1 h2 h3 h4 h5 h6 h7 h8 h9 h10 h11 h12;simp only[Prod.ext_iff];exact ⟨h1,h2,h3,h4,h5,h6,⟨h12,h13⟩,h7,h8,h9,h10,h11⟩
end Go.Pv
namespace Go.Pv
open Go Go.Proofs IntKind
def rO {r:Sy} (hr:r.pure=true) {l:List r.den} {rows:List (List T)} {K:List r.den->Prop} (e:rows=List.map r.enc l) (h:K l):dM r rows K:=by subst e;rw[dH hr];exact h
def wW {r:Sy} {l:List r.den} {z b:Nat} (hz:r.w=z) (h:lB b l.length=true):(((List.map r.enc l).all λq=>decide (q.length=z))&&decide ((List.map r.enc l).length*b<=140737488355328)&&decide ((List.map r.enc l).length<=140737488355328))=true:=by
 unfold lB at h;rw[ac] at h;rw[ae,h.1,h.2,Bool.and_true,Bool.and_true];subst hz;refine List.all_eq_true.2 λq hq=>?_;obtain ⟨x,_,rfl⟩:=List.mem_map.1 hq;exact ai (Sy.cW r x)
def iZ (p:a8):Option T:=match fL p with
 | true=>some (Sh.enc [(true,aK)] p)
 | false=>none
noncomputable def AMA:Env:=Env.of [(136,.pure j9),(137,.dup 1 24)]
def AM8:FuncId->Hint:=b6 108 [(4,.inv [.val 21 false (.int .i64),.arr 3 1 (.li aA)])] (λ_=>bA)
def XX:aV Tryz.prog AMA:=.cons M6 (aV.cons (x:=.dup 1 24) AOQ (.nil _))
def FM(a0:a8)(R:T->Prop):Prop:=aJ f0 (j9 [T.sl false (BJ0 a0)]) λ(y0:List aU)=>bR (((v6 a0).all λ(r:List T)=>decide (r.length=1)) && decide ((v6 a0).length*24<=140737488355328) && decide ((v6 a0).length<=140737488355328)) (dM aA.li (v6 a0) λ(y1:List (List aU))=>bB (Int×List (List aU)×PUnit) (λX2 s3=>aC (decide (s3.1<(↑(v6 a0).length:Int))) (aR aA.li (PP s3) s3.1 λ(y4:List aU)=>iJ aA.li (PP s3) (Int.toNat s3.1) 0 λ(y5:List aU)=>aJ f0 (j9 (BJU y5)) λ(y6:List aU)=>aR aA.li (PP s3) s3.1 λ(y7:List aU)=>EX (PP s3) (Int.toNat s3.1) λ(y8:List T)=>bR (decide (1<=y8.length)) (dM aA.li ((PP s3).set (Int.toNat s3.1) (bV y8 0 (BJU y6))) λ(y9:List (List aU))=>X2 (i64.wrap (s3.1+1),y9,()))) (R (T.agg [pPQ a0.1,pPP a0.2.1, pPP a0.2.2.1, pPQ a0.2.2.2.1,pPQ a0.2.2.2.2.1, pPP a0.2.2.2.2.2.1, T.sl false (g9 y0), T.sl false (PP s3), pPQ a0.2.2.2.2.2.2.2.1, pPP a0.2.2.2.2.2.2.2.2.1, pPP a0.2.2.2.2.2.2.2.2.2.1, pPP a0.2.2.2.2.2.2.2.2.2.2.1.1, pPP a0.2.2.2.2.2.2.2.2.2.2.1.2.1, pPP a0.2.2.2.2.2.2.2.2.2.2.1.2.2, pPP a0.2.2.2.2.2.2.2.2.2.2.2.1.1, pPP a0.2.2.2.2.2.2.2.2.2.2.2.1.2.1, pPP a0.2.2.2.2.2.2.2.2.2.2.2.1.2.2, pPP a0.2.2.2.2.2.2.2.2.2.2.2.2]))) (0,y1,()))
abbrev HK:Sh:=[(true,aK)]
noncomputable def iG:List T->Option T:=gS HK iZ
def uX {a0}:iG [aG true aK a0]=iZ (a0):=bI (s:=HK) rfl (a0) rfl
def AHO:wP Tryz.prog 108 iG iZ (cC HK) FM:=jZ (a1:=(true,aK)) (sp:=iZ) (F:=FM) (Hs:=AM8) (f:=108) (k:=8) XX aY a7 (aO rfl) ⟨_,_,Tryz.func108,rfl⟩ rfl λ_ _=>by kernel_rfl
def uV:aP Tryz.prog 108 iG:=AHO λp r h hb=>by
 clear hb;have hp:fL p=true:=by
  unfold iZ at h;split at h
  ·assumption
  ·cases h
 have e:Sh.enc [(true,aK)] p=r:=by
  unfold iZ at h;rw[hp] at h;exact Option.some.inj h
 subst e;clear h;unfold fL EM at hp;simp only[ac] at hp;obtain ⟨⟨hp1,hp2⟩,hp3⟩:=hp;have hb47:p.2.2.2.2.2.2.1.2.length<=140737488355328:=by
  simp only[lB,ac,ah] at hp2;exact hp2.2
 unfold FM BJ0 BJU PP v6 g9 f0;refine aF (s:=[(false,aA.li)]) (y:=p.2.2.2.2.2.2.1.1) (by rw[pG,fA,iY hp1];rfl) ?_;refine ⟨wW (r:=.li aA) rfl hp2,?_⟩;obtain ⟨p1,p2,p3,p4,p5,p6,⟨o,hh⟩,p7⟩:=p;dsimp only at hp1 hp2 hp3 hb47 ⊢;rw[dH (r:=.li aA) rfl];refine bK hh.length (λk s=>s=((k:Int),hh,())) rfl ?_;rintro X k s hk rfl hX;dsimp only;refine cA (λhlt=>?_) λhge=>rfl;rw[ae] at hlt;have hlt:k<hh.length:=by omega
 have hok:lB 16 hh[k].length=true:=List.all_eq_true.1 hp3 _ (ak hlt);rw[bD (r:=.li aA) hlt,show Int.toNat (k:Int)=k from rfl,iK (r:=.li aA) hlt];refine aF (s:=[(false,aA.li)]) (y:=hh[k]) (by rw[pG,fA,iY hok];rfl) ?_;rw[bD (r:=.li aA) hlt,pP (r:=.li aA) hlt];refine ⟨rfl,?_⟩;have e:bV (Sy.enc (.li aA) hh[k]) 0 [T.sl false (List.map aA.enc hh[k])]=Sy.enc (.li aA) hh[k]:=rfl;rw[e,EZ (r:=.li aA) hlt,dH (r:=.li aA) rfl];refine hX _ hlt ?_;simp only[Prod.mk.injEq,and_true];exact bG _ (by omega) (by omega)
def j5 (p:aQ):Option T:=match eT p with
 | true=>some (Sh.enc [(true,aH)] p)
 | false=>none
noncomputable def AL9:Env:=Env.of [(243,.pure jV)]
def AM7:FuncId->Hint:=λ_=>bA
def XW:aV Tryz.prog AL9:=.cons IP (.nil _)
def FL(a0:aQ)(R:T->Prop):Prop:=aJ eI (jV [T.sl false (List.map Sy.str.enc a0.2.2.1)]) λ(y0:List iII)=>aJ eI (jV [T.sl false (List.map Sy.str.enc a0.2.2.2.2)]) λ(y1:List iII)=>R (T.agg [pPQ a0.1,pPQ a0.2.1, T.sl false (M2 y0),pPP a0.2.2.2.1, T.sl false (M2 y1)])
abbrev HJ:Sh:=[(true,aH)]
noncomputable def nS:List T->Option T:=gS HJ j5
def DH {a0}:nS [aG true aH a0]=j5 (a0):=bI (s:=HJ) rfl (a0) rfl
def AHN:wP Tryz.prog 109 nS j5 (cC HJ) FL:=jZ (a1:=(true,aH)) (sp:=j5) (F:=FL) (Hs:=AM7) (f:=109) (k:=8) XW aY a7 (aO rfl) ⟨_,_,Tryz.func109,rfl⟩ rfl λ_ _=>by kernel_rfl
def M7:aP Tryz.prog 109 nS:=AHN λp r h hb=>by
 clear hb;have hp:eT p=true:=by
  unfold j5 at h;split at h
  ·assumption
  ·cases h
 have e:Sh.enc [(true,aH)] p=r:=by
  unfold j5 at h;rw[hp] at h;exact Option.some.inj h
 subst e;clear h;unfold eT at hp;rw[ac] at hp;unfold FL M2 eI;refine aF (s:=[(false,.li .str)]) (y:=p.2.2.1) (by rw[oF,fA,iY hp.1];rfl) ?_;refine aF (s:=[(false,.li .str)]) (y:=p.2.2.2.2) (by rw[oF,fA,iY hp.2];rfl) ?_;rfl
def TD {α:Type}:∀ (xs pre:List α),bV (pre++xs) pre.length xs=pre++xs
 | [],pre=>rfl
 | x::xs,pre=>by
  unfold bV;rw[show (pre++x::xs).set pre.length x=(pre++[x])++xs by simp,show pre.length+1=(pre++[x]).length by simp,TD xs (pre++[x])];simp
variable {α:Type}
def JA (r:List α):bV r 0 r=r:=TD r []
def vG (d:aB):Bool:=(I4 d&&HA d)&&((decide (d.2.1.length<=1000)&&decide (d.2.2.1.length<=1000))&&(decide (d.2.2.2.1.length<=1000)&&(decide (d.2.2.2.2.1.length<=1000)&&decide (d.2.2.2.2.2.length<=1000))))
structure OkC (d:aB):Prop where
 I4:I4 d=true
 HA:HA d=true
 n:d.2.1.length<=1000
 p:d.2.2.1.length<=1000
 s:d.2.2.2.1.length<=1000
 k:d.2.2.2.2.1.length<=1000
 r:d.2.2.2.2.2.length<=1000
def dZ {d:aB} (h:vG d=true):OkC d:=by
 simp only[vG,ac,ah] at h;exact ⟨h.1.1,h.1.2,h.2.1.1,h.2.1.2,h.2.2.1,h.2.2.2.1,h.2.2.2.2⟩
def dN {b n:Nat} (hn:n<=1000) (hb:b<=1000):lB b n=true:=by
 have:=Nat.mul_le_mul hn hb;unfold lB;rw[ai (by omega),ai (by omega)];rfl
def rY (d:aB):Option T:=match vG d with
 | true=>some (Sh.enc [(true,aD)] d)
 | false=>none
noncomputable def ADJ:Env:=Env.of [(103,.dup 3 40),(104,.dup 6 72),(105,.dup 3 40),(106,.dup 18 208),(107,.dup 5 88),(108,.pure iG),(109,.pure nS)]
def AE6:FuncId->Hint:=b6 69 [(4,.inv [.val 28 false (.int .i64),.arr 30 18 aK]),(9,.inv [.val 45 false (.int .i64),.arr 31 5 aH])] (λ_=>bA)
def XV:aV Tryz.prog ADJ:=aV.cons (x:=.dup 3 40) BX (aV.cons (x:=.dup 6 72) BZ (aV.cons (x:=.dup 3 40) BW (aV.cons (x:=.dup 18 208) BY (aV.cons (x:=.dup 5 88) oE (.cons uV (.cons M7 (.nil _)))))))
def K0 (a0:aB) (R:T->Prop):Prop :=
 bR
 (((List.map bC.enc a0.2.1).all λ(r:List T)=>decide (r.length=3)) &&
 decide ((List.map bC.enc a0.2.1).length*40<=140737488355328) &&
 decide ((List.map bC.enc a0.2.1).length<=140737488355328))
 (bR
 (((List.map bE.enc a0.2.2.2.1).all λ(r:List T)=>decide (r.length=6)) &&
 decide ((List.map bE.enc a0.2.2.2.1).length*72<=140737488355328) &&
 decide ((List.map bE.enc a0.2.2.2.1).length<=140737488355328))
 (bR
 (((List.map aZ.enc a0.2.2.2.2.2).all λ(r:List T)=>decide (r.length=3)) &&
 decide ((List.map aZ.enc a0.2.2.2.2.2).length*40<=140737488355328) &&
 decide ((List.map aZ.enc a0.2.2.2.2.2).length<=140737488355328))
 (bR
 (((List.map aK.enc a0.2.2.1).all λ(r:List T)=>decide (r.length=18)) &&
 decide ((List.map aK.enc a0.2.2.1).length*208<=140737488355328) &&
 decide ((List.map aK.enc a0.2.2.1).length<=140737488355328))
 (bR
 (((List.map aH.enc a0.2.2.2.2.1).all λ(r:List T)=>decide (r.length=5)) &&
 decide ((List.map aH.enc a0.2.2.2.2.1).length*88<=140737488355328) &&
 decide ((List.map aH.enc a0.2.2.2.2.1).length<=140737488355328))
 (dM aK (List.map aK.enc a0.2.2.1) λ(y0:List a8) =>
 bB (Int×List a8×PUnit)
 (λ(X1:Int×List a8×PUnit->Prop) (s2:Int×List a8×PUnit) =>
 aC (decide (s2.1<(↑(List.map aK.enc a0.2.2.1).length:Int)))
 (aR aK (List.map aK.enc s2.2.1) s2.1 λ(y3:a8) =>
 iJ aK (List.map aK.enc s2.2.1) (Int.toNat s2.1) 0
 λ(y4:a8) =>
 aJ [(true,aK)] (iG [aG true aK y4])
 λ(y5:a8) =>
 aR aK (List.map aK.enc s2.2.1) s2.1 λ(y6:a8) =>
 EX (List.map aK.enc s2.2.1) (Int.toNat s2.1) λ(y7:List T) =>
 bR (decide (18<=y7.length))
 (dM aK
 ((List.map aK.enc s2.2.1).set (Int.toNat s2.1)
 (bV y7 0
 [pPQ y5.1,
 pPP y5.2.1,
 pPP y5.2.2.1,
 pPQ y5.2.2.2.1,
 pPQ y5.2.2.2.2.1,
 pPP y5.2.2.2.2.2.1,
 T.sl false (List.map aA.enc y5.2.2.2.2.2.2.1.1),
 T.sl false
 (List.map aA.li.enc y5.2.2.2.2.2.2.1.2),
 pPQ y5.2.2.2.2.2.2.2.1,
 pPP y5.2.2.2.2.2.2.2.2.1,
 pPP y5.2.2.2.2.2.2.2.2.2.1,
 pPP y5.2.2.2.2.2.2.2.2.2.2.1.1,
 pPP y5.2.2.2.2.2.2.2.2.2.2.1.2.1,
 pPP y5.2.2.2.2.2.2.2.2.2.2.1.2.2,
 pPP y5.2.2.2.2.2.2.2.2.2.2.2.1.1,
 pPP y5.2.2.2.2.2.2.2.2.2.2.2.1.2.1,
 pPP y5.2.2.2.2.2.2.2.2.2.2.2.1.2.2,
 pPP y5.2.2.2.2.2.2.2.2.2.2.2.2]))
 λ(y8:List a8)=>X1 (i64.wrap (s2.1+1),y8,())))
 (dM aH (List.map aH.enc a0.2.2.2.2.1)
 λ(y9:List aQ) =>
 bB (Int×List aQ×PUnit)
 (λ(X10:Int×List aQ×PUnit->Prop) (s11:Int×List aQ×PUnit) =>
 aC
 (decide (s11.1<(↑(List.map aH.enc a0.2.2.2.2.1).length:Int)))
 (aR aH (List.map aH.enc s11.2.1) s11.1
 λ(y12:aQ) =>
 iJ aH (List.map aH.enc s11.2.1) (Int.toNat s11.1) 0
 λ(y13:aQ) =>
 aJ [(true,aH)]
 (nS [aG true aH y13]) λ(y14:aQ) =>
 aR aH (List.map aH.enc s11.2.1) s11.1
 λ(y15:aQ) =>
 EX (List.map aH.enc s11.2.1) (Int.toNat s11.1)
 λ(y16:List T) =>
 bR (decide (5<=y16.length))
 (dM aH
 ((List.map aH.enc s11.2.1).set (Int.toNat s11.1)
 (bV y16 0
 [pPQ y14.1,
 pPQ y14.2.1,
 T.sl false (List.map Sy.str.enc y14.2.2.1),
 pPP y14.2.2.2.1,
 T.sl false (List.map Sy.str.enc y14.2.2.2.2)]))
 λ(y17:List aQ) =>
 X10 (i64.wrap (s11.1+1),y17,())))
 (R
 (T.agg
 [pPQ a0.1,
 T.sl false (List.map bC.enc a0.2.1),
 T.sl false (List.map aK.enc s2.2.1),
 T.sl false (List.map bE.enc a0.2.2.2.1),
 T.sl false (List.map aH.enc s11.2.1),
 T.sl false (List.map aZ.enc a0.2.2.2.2.2)])))
 (0,y9,())))
 (0,y0,()))))))
abbrev OS:Sh:=[(true,aD)]
noncomputable def fG:List T->Option T:=gS OS rY
def gR {a0}:fG [aG true aD a0]=rY (a0):=bI (s:=OS) rfl (a0) rfl
def A7Y:wP Tryz.prog 69 fG rY (cC OS) K0:=jZ (a1:=(true,aD)) (sp:=rY) (F:=K0) (Hs:=AE6) (f:=69) (k:=8) XV aY a7 (aO rfl) ⟨_,_,Tryz.func69,rfl⟩ rfl λ_ _=>by kernel_rfl
def AW1 {d:aB} (hp:vG d=true):K0 d (λy=>y=Sh.enc [(true,aD)] d):=by
 have c:=dZ hp;unfold K0;refine ⟨wW (r:=bC) rfl (dN c.n (by decide)),⟨wW (r:=bE) rfl (dN c.s (by decide)),⟨wW (r:=aZ) rfl (dN c.r (by decide)),⟨wW (r:=aK) rfl (dN c.p (by decide)),⟨wW (r:=aH) rfl (dN c.k (by decide)),?_⟩⟩⟩⟩⟩;rw[dH (r:=aK) rfl];have hpn:=c.p;have hkn:=c.k;refine bK d.2.2.1.length (λk s=>s=((k:Int),d.2.2.1,())) rfl ?_;rintro X k s hk rfl hX;dsimp only;refine cA (λhlt=>?_) λhge=>?_
 ·rw[ae] at hlt;have hlt:k<d.2.2.1.length:=by omega
  have hok:fL d.2.2.1[k]=true:=List.all_eq_true.1 c.I4 _ (ak hlt);rw[bD (r:=aK) hlt,show Int.toNat (k:Int)=k from rfl,iK (r:=aK) hlt];refine aF (s:=[(true,aK)]) (y:=d.2.2.1[k]) ((uX ..).trans (by unfold iZ;rw[hok])) ?_;rw[bD (r:=aK) hlt,pP (r:=aK) hlt];refine ⟨by rw[Sy.cW];rfl,?_⟩;have h1:(List.map aK.enc d.2.2.1).set k (bV (Sy.enc aK d.2.2.1[k]) 0 (Sy.enc aK d.2.2.1[k]))=List.map aK.enc d.2.2.1:=by rw[JA];exact EZ (r:=aK) hlt
  refine (rO (r:=aK) rfl h1 ?_);refine hX _ hlt ?_;simp only[Prod.mk.injEq,and_true];exact bG _ (by omega) (by omega)
 ·rw[dH (r:=aH) rfl];refine bK d.2.2.2.2.1.length (λk s=>s=((k:Int),d.2.2.2.2.1,())) rfl ?_;rintro Y j s hj rfl hY;dsimp only;refine cA (λhlt=>?_) λhge=>rfl;rw[ae] at hlt;have hlt:j<d.2.2.2.2.1.length:=by omega
  have hok:eT d.2.2.2.2.1[j]=true:=List.all_eq_true.1 c.HA _ (ak hlt);rw[bD (r:=aH) hlt,show Int.toNat (j:Int)=j from rfl,iK (r:=aH) hlt];refine aF (s:=[(true,aH)]) (y:=d.2.2.2.2.1[j]) ((DH ..).trans (by unfold j5;rw[hok])) ?_;rw[bD (r:=aH) hlt,pP (r:=aH) hlt];refine ⟨by rw[Sy.cW];rfl,?_⟩;have h1:(List.map aH.enc d.2.2.2.2.1).set j (bV (Sy.enc aH d.2.2.2.2.1[j]) 0 (Sy.enc aH d.2.2.2.2.1[j]))=List.map aH.enc d.2.2.2.2.1:=by rw[JA];exact EZ (r:=aH) hlt
  refine (rO (r:=aH) rfl h1 ?_);refine hY _ hlt ?_;simp only[Prod.mk.injEq,and_true];exact bG _ (by omega) (by omega)
def oD:aP Tryz.prog 69 fG:=A7Y λd r h hb=>by
 clear hb;have hp:vG d=true:=by
  unfold rY at h;split at h
  ·assumption
  ·cases h
 have e:Sh.enc [(true,aD)] d=r:=by
  unfold rY at h;rw[hp] at h;exact Option.some.inj h
 subst e;exact AW1 hp
noncomputable def FA (x:aX×aX):Option T:=some (Sh.enc kO (nJ x.1 x.2))
noncomputable def A3Q:Env:=Env.of [(134,.pure qN)]
def A48:FuncId->Hint:=b6 135 [(4,.inv [.val 13 false (.int .i64)])] (λ_=>bA)
def AMW:aV Tryz.prog A3Q:=.cons Z3 (.nil _)
def ACM(a0:aX):List (List T):=List.map Sy.str.enc a0.2.2.2.2.2.2.1.2.2.2.2
def BJM(a0:aX):List (List T):=List.map Sy.str.enc a0.2.2.2.2.2.2.1.2.2.1
def UB(a0:aX)(a1:aX)(R:T->Prop):Prop:=aC (decide (a0.1=a1.1)) (aC (decide (a0.2.1=a1.2.1)) (aC (decide (a0.2.2.1=a1.2.2.1)) (aC (decide (a0.2.2.2.1.1=a1.2.2.2.1.1) && (decide (a0.2.2.2.1.2.1=a1.2.2.2.1.2.1) && (decide (a0.2.2.2.1.2.2=a1.2.2.2.1.2.2)&&true))) (aJ d6 (qN [aG true aK a0.2.2.2.2.1,aG true aK a1.2.2.2.2.1]) λ(y0:Bool)=>aC y0 (aC (decide (a0.2.2.2.2.2.1.1=a1.2.2.2.2.2.1.1) && (decide (a0.2.2.2.2.2.1.2.1=a1.2.2.2.2.2.1.2.1) && (decide (a0.2.2.2.2.2.1.2.2.1=a1.2.2.2.2.2.1.2.2.1) && (decide (a0.2.2.2.2.2.1.2.2.2.1=a1.2.2.2.2.2.1.2.2.2.1) && (decide (a0.2.2.2.2.2.1.2.2.2.2.1 = a1.2.2.2.2.2.1.2.2.2.2.1) && (decide (a0.2.2.2.2.2.1.2.2.2.2.2 = a1.2.2.2.2.2.1.2.2.2.2.2) && true)))))) (aC (decide (a0.2.2.2.2.2.2.2.1=a1.2.2.2.2.2.2.2.1) && (decide (a0.2.2.2.2.2.2.2.2.1=a1.2.2.2.2.2.2.2.2.1) && (decide (a0.2.2.2.2.2.2.2.2.2=a1.2.2.2.2.2.2.2.2.2)&&true))) (aC (decide (a0.2.2.2.2.2.2.1.1=a1.2.2.2.2.2.2.1.1)) (aC (decide (a0.2.2.2.2.2.2.1.2.1=a1.2.2.2.2.2.2.1.2.1)) (aC (decide (a0.2.2.2.2.2.2.1.2.2.2.1 = a1.2.2.2.2.2.2.1.2.2.2.1)) (aC (!decide ((↑(BJM a0).length:Int) = (↑(BJM a1).length:Int))) (R d4) (bB (Int×PUnit) (λX1 s2=>aC (decide (s2.1 < (↑(BJM a0).length : Int))) (aR Sy.str (BJM a0) s2.1 λ(y3:iII)=>aR Sy.str (BJM a1) s2.1 λ(y4:iII)=>aC (!decide (y3=y4)) (R d4) (f9 X1 s2)) (aC (!decide ((↑(ACM a0).length : Int) = (↑(ACM a1).length : Int))) (R d4) (bB (Int×PUnit) (λX5 s6=>aC (decide (s6.1 < (↑(ACM a0).length : Int))) (aR Sy.str (ACM a0) s6.1 λ(y7:iII)=>aR Sy.str (ACM a1) s6.1 λ(y8:iII)=>aC (!decide (y7=y8)) (R d4) (f9 X5 s6)) (R d8)) (0,())))) (0,()))) (R d4)) (R d4)) (R d4)) (R d4)) (R d4)) (R d4)) (R d4)) (R d4)) (R d4)) (R d4)
abbrev WM:Sh:=[(true,aN),(true,aN)]
noncomputable def cE:List T->Option T:=gS WM FA
def fH {a0 a1}:cE [aG true aN a0,aG true aN a1]=FA (a0,a1):=bI (s:=WM) rfl (a0,a1) rfl
def A07:rJ Tryz.prog 93 cE FA (cC WM) UB:=gZ (a1:=(true,aN)) (a2:=(true,aN)) (sp:=FA) (F:=UB) (Hs:=A48) (f:=93) (k:=8) AMW aY a7 (aO rfl) ⟨_,_,Tryz.func93,rfl⟩ rfl λ_ _ _=>by kernel_rfl
def jE:aP Tryz.prog 93 cE:=A07 λa b r h hb=>by
 cases h;have no:¬ a=b->pPR false=Sh.enc kO (nJ a b):=λh=>by rw[BT h];rfl
 have yes:a=b->pPR true=Sh.enc kO (nJ a b):=λh=>by rw[fP.2 h];rfl
 have hl1:a.2.2.2.2.2.2.1.2.2.1.length<=2 ^ 47:=hb.1.2.2.2.2.2.2.1.2.2.1.1;have hl2:a.2.2.2.2.2.2.1.2.2.2.2.length<=2 ^ 47:=hb.1.2.2.2.2.2.2.1.2.2.2.2.1;clear hb;unfold UB BJM ACM f9 d8 d6 d4;refine qQ (λh1=>?_) (λh=>no λe=>by simp[e] at h);refine qQ (λh2=>?_) (λh=>no λe=>by simp[e] at h);refine qQ (λh3=>?_) (λh=>no λe=>by simp[e] at h);refine qQ (λh4=>?_) (λh=>no λe=>by simp[e] at h);refine aF (s:=kO) (y:=nJ (a.2.2.2.2.1) (b.2.2.2.2.1)) (QJ ..) ?_;refine qQ (λh5=>?_) (λh=>no λe=>by simp[e] at h);refine qQ (λh6=>?_) (λh=>no λe=>by simp[e] at h);refine qQ (λh7=>?_) (λh=>no λe=>by simp[e] at h);refine qQ (λh8=>?_) (λh=>no λe=>by simp[e] at h);refine qQ (λh9=>?_) (λh=>no λe=>by simp[e] at h);refine qQ (λh10=>?_) (λh=>no λe=>by simp[e] at h);refine UU (r:=.str) hl1 (λy z=>decide (y=z)) (λx y=>decide_eq_true_iff) (λh11=>?_) (λh=>no λe=>h (by rw[e]));refine UU (r:=.str) hl2 (λy z=>decide (y=z)) (λx y=>decide_eq_true_iff) (λh12=>yes ?_) (λh=>no λe=>h (by rw[e]));simp only[Bool.and_true,ac,ah,fP] at h1 h2 h3 h4 h5 h6 h7 h8 h9 h10;simp only[Prod.ext_iff];exact ⟨h1,h2,h3,h4,by simpa only [Prod.ext_iff] using h5,h6,⟨h8,h9,h11,h10,h12⟩,h7⟩
end Go.Pv
namespace Go.Pv
open Go Go.Proofs IntKind
def VU (l:List iII) (x:iII):Bool:=l.any λy=>decide (y=x)
def EK {l:List iII} {x:iII}:VU l x=true↔x∈l:=by
 simp only[VU,List.any_eq_true,ah];exact ⟨λ⟨y,h,e⟩=>e ▸ h,λh=>⟨x,h,rfl⟩⟩
def Sy.tl:Sy->Sy
 | .pr _ b=>b
 | x=>x
def GW:List iII->Nat->List (iII×Int)->List (iII×Int)
 | [],_,es=>es
 | a::l,i,es=>GW l (i+1) (match fI es a with
  | none=>nK es a (i:Int)
  | some _=>es)
def iR (l:List iII):List (iII×Int):=GW l 0 []
variable {α:Type}
def ids (l:List (iII×α)):List iII:=l.map λx=>x.1
variable {β:Type}
def qT (l:List α) (r:β):Option β:=match decide (l.length<=140737488355328) with
 | true=>some r
 | false=>none
def j1 {l:List α} {t r:β} (h:qT l t=some r):l.length<=140737488355328/\r=t:=by
 unfold qT at h;split at h
 ·rename_i hc;cases h;exact ⟨of_decide_eq_true hc,rfl⟩
 ·cases h
def j2 {l:List α} (t:β) (h:l.length<=140737488355328):qT l t=some t:=by unfold qT;rw[ai h]
def A50 (es:List (iII×Int)):List.map (λ(e:Value×D)=>(e.1,XJ e.2)) (List.map (b8 Sy.str false (Sy.int IntKind.i64)) es)=bO es:=by
 rw[List.map_map];rfl
def JZ {r:Sy} {l:List (iII×r.den)} (hl:l.length<=140737488355328) :
 dA Sy.str false (Sy.int IntKind.i64) [] λ(y0:List (iII×Int)) =>
 bB (List (iII×Int)×Int×PUnit)
  (λ(X1:List (iII×Int)×Int×PUnit->Prop) (s2:List (iII×Int)×Int×PUnit) =>
   aC (decide (s2.2.1<(↑l.length:Int)))
    (aR (.pr .str r) (List.map (Sy.pr .str r).enc l) s2.2.1 λ(y3:iII×r.den) =>
     gW TypeDesc.string (Value.string y3.1)
      (List.map (b8 Sy.str false (Sy.int IntKind.i64)) s2.1) false
      (Sy.int IntKind.i64)
      (aR (.pr .str r) (List.map (Sy.pr .str r).enc l) s2.2.1 λ(y7:iII×r.den) =>
       lC (Option (Nat×D))
        (findD TypeDesc.string (Value.string y7.1)
         (List.map (b8 Sy.str false (Sy.int IntKind.i64)) s2.1) 0)
        λ(y8:Option (Nat×D)) =>
        dA Sy.str false (Sy.int IntKind.i64)
         (eJ (List.map (b8 Sy.str false (Sy.int IntKind.i64)) s2.1) y8
          (Value.string y7.1) (D.p (pPP s2.2.1)))
         λ(y9:List (iII×Int))=>X1 (y9,i64.wrap (s2.2.1+1),()))
      λ(i4:Nat) (y5:Int) =>
      dA Sy.str false (Sy.int IntKind.i64)
       (List.map (b8 Sy.str false (Sy.int IntKind.i64)) s2.1)
       λ(y6:List (iII×Int))=>X1 (y6,i64.wrap (s2.2.1+1),()))
    (bR
     ((List.map (b8 Sy.str false (Sy.int IntKind.i64)) s2.1).all
      λ(e:Value×D)=>APX e.2)
     ((λy=>y=T.mp (bO (iR (ids l))))
      (T.mp
       (List.map (λ(e:Value×D)=>(e.1,XJ e.2))
        (List.map (b8 Sy.str false (Sy.int IntKind.i64)) s2.1))))))
  (y0,0,()):=by
 refine jU (r:=.int .i64) rfl [] _ ?_;refine bK l.length (λk s=>∃ es,s=(es,(k:Int),())/\GW (ids (l.drop k)) k es=iR (ids l)) ⟨[],rfl,rfl⟩ ?_;rintro X k s hk ⟨es,rfl,hes⟩ hX;dsimp only;have hw:i64.wrap ((k:Int)+1)=((k+1:Nat):Int):=bG _ (by omega) (by omega);by_cases hlt:k<l.length
 ·refine eN (by omega) ?_;rw[bD (r:=.pr .str r) hlt];have hd:ids (l.drop k)=l[k].1::ids (l.drop (k+1)):=by rw[List.drop_eq_getElem_cons hlt];rfl
  rw[hd] at hes;simp only[GW] at hes;refine yU (r:=.int .i64) (λhno=>?_) (λi v hv=>?_)
  ·rw[hno] at hes;rw[bD (r:=.pr .str r) hlt];exact AKJ (r:=.int .i64) rfl (v:=(k:Int)) (hX _ hlt ⟨_,by rw[hw],hes⟩)
  ·rw[hv] at hes;exact jU (r:=.int .i64) rfl es _ (hX _ hlt ⟨_,by rw[hw],hes⟩)
 ·have:k=l.length:=by omega
  subst this;refine gK (by omega) ?_;rw[List.drop_length] at hes;refine ⟨?_,?_⟩
  ·rw[List.all_eq_true];intro e he;obtain ⟨x,_,rfl⟩:=List.mem_map.1 he;rfl
  ·show T.mp _=_;rw[A50];rw[<-hes];rfl
def sN (a0:aB):List T:=[pPP (a0.2.1.length:Int),T.fn 119 [] [T.ref [T.ref (aD.enc a0)]]]
noncomputable def ASH:Env:=Env.of []
def A88:FuncId->Hint:=b6 118 [(3,.inv [.map 0 .str false (.int .i64),.val 12 false (.int .i64)])] (λ_=>bA)
def A4D:aV Tryz.prog ASH:=.nil _
def bF:Sy:=Sy.int IntKind.i64
def m7(s2:List aE×Int×PUnit)(R:T->Prop):Prop:=bR ((List.map (b8 Sy.str false bF) s2.1).all λ(e:Value×D)=>APX e.2) (R (T.mp (List.map (λ(e:Value×D)=>(e.1,XJ e.2)) (List.map (b8 Sy.str false bF) s2.1))))
def H1(s2:List aE×Int×PUnit)(X1:List aE×Int×PUnit->Prop):Prop:=dA Sy.str false bF (List.map (b8 Sy.str false bF) s2.1) λ(y6:List aE)=>X1 (y6,i64.wrap (s2.2.1+1),())
def AUO(a0:aB)(R:T->Prop):Prop:=dA Sy.str false bF [] λ(y0:List aE)=>bB (List aE×Int×PUnit) (λX1 s2=>aC (decide (s2.2.1<(↑a0.2.1.length:Int))) (aR bC (GT a0) s2.2.1 λ(y3:bQ)=>gW TypeDesc.string (Value.string y3.1) (List.map (b8 Sy.str false bF) s2.1) false bF (aR bC (GT a0) s2.2.1 λ(y7:bQ)=>lC (Option (Nat×D)) (findD TypeDesc.string (Value.string y7.1) (List.map (b8 Sy.str false bF) s2.1) 0) λ(y8:Option (Nat×D))=>dA Sy.str false bF (eJ (List.map (b8 Sy.str false bF) s2.1) y8 (Value.string y7.1) (D.p (pPP s2.2.1))) λ(y9:List aE)=>X1 (y9,i64.wrap (s2.2.1+1),())) λ(i4:Nat) (y5:Int)=>H1 s2 X1) (m7 s2 R)) (y0,0,())
def AUP ( a0 R):vW bY Tryz.prog ASH A88 8 118 (sN a0) R=AUO a0 R:=by kernel_rfl
def AI0 (d:aB):Option (List (iII×Int)):=qT d.2.1 (iR (ids d.2.1))
def ALY (d d':aB) (h:sN d=sN d'):d=d':=by
 unfold sN at h;simp only[List.cons.injEq,T.fn.injEq,T.ref.injEq,and_true,true_and] at h;exact Sy.dY aD _ _ h.2
noncomputable def AAF:List T->Option (List (iII×Int)):=gA (λ(x:aB)=>sN x) AI0
def AY1 (a0:aB):AAF (sN a0)=AI0 a0:=fN (A:=(λ(x:aB)=>sN x)) ALY a0
def BD5 (h:∀ (a0:aB) (r:List (iII×Int)),AI0 a0=some r->(∀ t∈sN a0,Bd t)->AUO a0 (λy=>y = .mp (bO r))):kK Tryz.prog 118 (sE AAF) :=
 C7 (E:=ASH) (Hs:=A88) A4D aY a7 (aO rfl) 8 ⟨_,_,Tryz.func118,rfl⟩ λx r h1 h2=>by
  rw[AUP];exact h x r h1 h2
def BB1:kK Tryz.prog 118 (sE AAF):=BD5 λd r h hb=>by
 obtain ⟨hl,rfl⟩:=j1 h;unfold AUO H1 m7 GT bF;exact JZ (r:=bC.tl) (l:=d.2.1) hl
def sO (a0:aB):List T:=[pPP (a0.2.2.1.length:Int),T.fn 120 [] [T.ref [T.ref (aD.enc a0)]]]
noncomputable def ASI:Env:=Env.of []
def A89:FuncId->Hint:=b6 118 [(3,.inv [.map 0 .str false (.int .i64),.val 12 false (.int .i64)])] (λ_=>bA)
def A4E:aV Tryz.prog ASI:=.nil _
def AUQ(a0:aB)(R:T->Prop):Prop:=dA Sy.str false bF [] λ(y0:List aE)=>bB (List aE×Int×PUnit) (λX1 s2=>aC (decide (s2.2.1<(↑a0.2.2.1.length:Int))) (aR aK (IR a0) s2.2.1 λ(y3:a8)=>gW TypeDesc.string (Value.string y3.1) (List.map (b8 Sy.str false bF) s2.1) false bF (aR aK (IR a0) s2.2.1 λ(y7:a8)=>lC (Option (Nat×D)) (findD TypeDesc.string (Value.string y7.1) (List.map (b8 Sy.str false bF) s2.1) 0) λ(y8:Option (Nat×D))=>dA Sy.str false bF (eJ (List.map (b8 Sy.str false bF) s2.1) y8 (Value.string y7.1) (D.p (pPP s2.2.1))) λ(y9:List aE)=>X1 (y9,i64.wrap (s2.2.1+1),())) λ(i4:Nat) (y5:Int)=>H1 s2 X1) (m7 s2 R)) (y0,0,())
def AUR ( a0 R):vW bY Tryz.prog ASI A89 8 118 (sO a0) R=AUQ a0 R:=by kernel_rfl
def AI1 (d:aB):Option (List (iII×Int)):=qT d.2.2.1 (iR (ids d.2.2.1))
def ALZ (d d':aB) (h:sO d=sO d'):d=d':=by
 unfold sO at h;simp only[List.cons.injEq,T.fn.injEq,T.ref.injEq,and_true,true_and] at h;exact Sy.dY aD _ _ h.2
noncomputable def AAG:List T->Option (List (iII×Int)):=gA (λ(x:aB)=>sO x) AI1
def AY2 (a0:aB):AAG (sO a0)=AI1 a0:=fN (A:=(λ(x:aB)=>sO x)) ALZ a0
def BD6 (h:∀ (a0:aB) (r:List (iII×Int)),AI1 a0=some r->(∀ t∈sO a0,Bd t)->AUQ a0 (λy=>y = .mp (bO r))):kK Tryz.prog 118 (sE AAG) :=
 C7 (E:=ASI) (Hs:=A89) A4E aY a7 (aO rfl) 8 ⟨_,_,Tryz.func118,rfl⟩ λx r h1 h2=>by
  rw[AUR];exact h x r h1 h2
def BB2:kK Tryz.prog 118 (sE AAG):=BD6 λd r h hb=>by
 obtain ⟨hl,rfl⟩:=j1 h;unfold AUQ H1 m7 IR bF;exact JZ (r:=aK.tl) (l:=d.2.2.1) hl
def sP (a0:aB):List T:=[pPP (a0.2.2.2.1.length:Int),T.fn 121 [] [T.ref [T.ref (aD.enc a0)]]]
noncomputable def ASJ:Env:=Env.of []
def A9A:FuncId->Hint:=b6 118 [(3,.inv [.map 0 .str false (.int .i64),.val 12 false (.int .i64)])] (λ_=>bA)
def A4F:aV Tryz.prog ASJ:=.nil _
def AUS(a0:aB)(R:T->Prop):Prop:=dA Sy.str false bF [] λ(y0:List aE)=>bB (List aE×Int×PUnit) (λX1 s2=>aC (decide (s2.2.1<(↑a0.2.2.2.1.length:Int))) (aR bE (IO a0) s2.2.1 λ(y3:bT)=>gW TypeDesc.string (Value.string y3.1) (List.map (b8 Sy.str false bF) s2.1) false bF (aR bE (IO a0) s2.2.1 λ(y7:bT)=>lC (Option (Nat×D)) (findD TypeDesc.string (Value.string y7.1) (List.map (b8 Sy.str false bF) s2.1) 0) λ(y8:Option (Nat×D))=>dA Sy.str false bF (eJ (List.map (b8 Sy.str false bF) s2.1) y8 (Value.string y7.1) (D.p (pPP s2.2.1))) λ(y9:List aE)=>X1 (y9,i64.wrap (s2.2.1+1),())) λ(i4:Nat) (y5:Int)=>H1 s2 X1) (m7 s2 R)) (y0,0,())
def AUT ( a0 R):vW bY Tryz.prog ASJ A9A 8 118 (sP a0) R=AUS a0 R:=by kernel_rfl
def AI2 (d:aB):Option (List (iII×Int)):=qT d.2.2.2.1 (iR (ids d.2.2.2.1))
def AL0 (d d':aB) (h:sP d=sP d'):d=d':=by
 unfold sP at h;simp only[List.cons.injEq,T.fn.injEq,T.ref.injEq,and_true,true_and] at h;exact Sy.dY aD _ _ h.2
noncomputable def AAH:List T->Option (List (iII×Int)):=gA (λ(x:aB)=>sP x) AI2
def AY3 (a0:aB):AAH (sP a0)=AI2 a0:=fN (A:=(λ(x:aB)=>sP x)) AL0 a0
def BD7 (h:∀ (a0:aB) (r:List (iII×Int)),AI2 a0=some r->(∀ t∈sP a0,Bd t)->AUS a0 (λy=>y = .mp (bO r))):kK Tryz.prog 118 (sE AAH) :=
 C7 (E:=ASJ) (Hs:=A9A) A4F aY a7 (aO rfl) 8 ⟨_,_,Tryz.func118,rfl⟩ λx r h1 h2=>by
  rw[AUT];exact h x r h1 h2
def BB3:kK Tryz.prog 118 (sE AAH):=BD7 λd r h hb=>by
 obtain ⟨hl,rfl⟩:=j1 h;unfold AUS H1 m7 IO bF;exact JZ (r:=bE.tl) (l:=d.2.2.2.1) hl
def sQ (a0:aB):List T:=[pPP (a0.2.2.2.2.1.length:Int),T.fn 122 [] [T.ref [T.ref (aD.enc a0)]]]
noncomputable def ASK:Env:=Env.of []
def A9B:FuncId->Hint:=b6 118 [(3,.inv [.map 0 .str false (.int .i64),.val 12 false (.int .i64)])] (λ_=>bA)
def A4G:aV Tryz.prog ASK:=.nil _
def AUU(a0:aB)(R:T->Prop):Prop:=dA Sy.str false bF [] λ(y0:List aE)=>bB (List aE×Int×PUnit) (λX1 s2=>aC (decide (s2.2.1<(↑a0.2.2.2.2.1.length:Int))) (aR aH (FS a0) s2.2.1 λ(y3:aQ)=>gW TypeDesc.string (Value.string y3.1) (List.map (b8 Sy.str false bF) s2.1) false bF (aR aH (FS a0) s2.2.1 λ(y7:aQ)=>lC (Option (Nat×D)) (findD TypeDesc.string (Value.string y7.1) (List.map (b8 Sy.str false bF) s2.1) 0) λ(y8:Option (Nat×D))=>dA Sy.str false bF (eJ (List.map (b8 Sy.str false bF) s2.1) y8 (Value.string y7.1) (D.p (pPP s2.2.1))) λ(y9:List aE)=>X1 (y9,i64.wrap (s2.2.1+1),())) λ(i4:Nat) (y5:Int)=>H1 s2 X1) (m7 s2 R)) (y0,0,())
def AUV ( a0 R):vW bY Tryz.prog ASK A9B 8 118 (sQ a0) R=AUU a0 R:=by kernel_rfl
def AI3 (d:aB):Option (List (iII×Int)):=qT d.2.2.2.2.1 (iR (ids d.2.2.2.2.1))
def AL1 (d d':aB) (h:sQ d=sQ d'):d=d':=by
 unfold sQ at h;simp only[List.cons.injEq,T.fn.injEq,T.ref.injEq,and_true,true_and] at h;exact Sy.dY aD _ _ h.2
noncomputable def AAI:List T->Option (List (iII×Int)):=gA (λ(x:aB)=>sQ x) AI3
def AY4 (a0:aB):AAI (sQ a0)=AI3 a0:=fN (A:=(λ(x:aB)=>sQ x)) AL1 a0
def BD8 (h:∀ (a0:aB) (r:List (iII×Int)),AI3 a0=some r->(∀ t∈sQ a0,Bd t)->AUU a0 (λy=>y = .mp (bO r))):kK Tryz.prog 118 (sE AAI) :=
 C7 (E:=ASK) (Hs:=A9B) A4G aY a7 (aO rfl) 8 ⟨_,_,Tryz.func118,rfl⟩ λx r h1 h2=>by
  rw[AUV];exact h x r h1 h2
def BB4:kK Tryz.prog 118 (sE AAI):=BD8 λd r h hb=>by
 obtain ⟨hl,rfl⟩:=j1 h;unfold AUU H1 m7 FS bF;exact JZ (r:=aH.tl) (l:=d.2.2.2.2.1) hl
end Go.Pv
namespace Go.Pv
open Go Go.Proofs IntKind
variable {α:Type}
def orG (g1 g2:List T->Option α) (a:List T):Option α:=match g1 a with
 | some r=>some r
 | none=>g2 a
variable {g1 g2:List T->Option α}
def OK {a:List T} {r:α} (h:g1 a=some r):orG g1 g2 a=some r:=by unfold orG;rw[h]
def pB {a:List T} (h:g1 a=none):orG g1 g2 a=g2 a:=by unfold orG;rw[h]
def S1 {a:List T} {r:α} (h:orG g1 g2 a=some r):g1 a=some r\/g2 a=some r:=by
 unfold orG at h;split at h
 ·rename_i r' h1;cases h;exact .inl h1
 ·exact .inr h
variable {P:Program}
def aP.or {f:FuncId} {g1 g2:List T->Option T} (h1:aP P f g1) (h2:aP P f g2):aP P f (orG g1 g2):=⟨h1.entry,λw own args vs r hG ho ha hr=>by
 rcases S1 hr with h|h
 ·exact h1.calls w own args vs r hG ho ha h
 ·exact h2.calls w own args vs r hG ho ha h⟩
def kK.orM {f:FuncId} {g1 g2:List T->Option (List (iII×Int))} (h1:kK P f (sE g1)) (h2:kK P f (sE g2)):kK P f (sE (orG g1 g2)):=⟨h1.entry,λw own args vs r hG ho ha hr=>by
 simp only[sE,aa] at hr;obtain ⟨es,h,rfl⟩:=hr;rcases S1 h with h|h
 ·exact h1.calls w own args vs _ hG ho ha (by simp[sE,h])
 ·exact h2.calls w own args vs _ hG ho ha (by simp[sE,h])⟩
noncomputable def APL:List T->Option (List (iII×Int)):=orG AAF (orG AAG (orG AAH AAI))
def BHQ:kK Tryz.prog 118 (sE APL):=.orM BB1 (.orM BB2 (.orM BB3 BB4))
def iF {X:Type} {A:X->List T} {sp:X->Option α} {args:List T} (h:∀ x,args≠A x):gA A sp args=none:=by
 unfold gA;rw[dif_neg];rintro ⟨x,hx⟩;exact h x hx
def q7:List iII->Bool
 | a::b::l=>!(cD b a||decide (b=a))&&q7 (b::l)
 | _=>true
def AWN {l:List iII} {k:Nat} (h:k+1<l.length):q7 (l.drop k)=(!(cD l[k+1] l[k]||decide (l[k+1]=l[k]))&&q7 (l.drop (k+1))):=by
 rw[List.drop_eq_getElem_cons (show k<l.length by omega),List.drop_eq_getElem_cons h,q7]
def A5O {l:List iII} {k:Nat} (h:l.length<=k+1):q7 (l.drop k)=true:=by
 rcases Nat.lt_or_ge k l.length with h1|h1
 ·rw[List.drop_eq_getElem_cons h1,List.drop_eq_nil_of_le h];rfl
 ·rw[List.drop_eq_nil_of_le h1];rfl
variable {R:T->Prop}
def EW {r:Sy} {p:r.den->iII} {l:List r.den} (hl:l.length<=140737488355328) (hR:R (pPR (q7 (l.map p)))) :
 bB (Int×PUnit)
 (λ(X0:Int×PUnit->Prop) (s1:Int×PUnit) =>
  aC (decide (s1.1<(↑l.length:Int)))
   (aR r (List.map r.enc l) s1.1 λ(y2:r.den) =>
    aR r (List.map r.enc l) (i64.wrap (s1.1-1))
     λ(y3:r.den) =>
     aC (cD (p y2) (p y3)||decide (p y2=p y3)) (R (pPR false))
      (X0 (i64.wrap (s1.1+1),())))
   (R (pPR true)))
 (1,()):=by
 refine bK l.length (λk s=>s=(((k+1:Nat):Int),())/\q7 (l.map p)=q7 ((l.map p).drop k)) ⟨rfl,by rw[List.drop_zero]⟩ ?_;rintro X k s hk ⟨rfl,he⟩ hX;dsimp only;have hw:i64.wrap (((k+1:Nat):Int)+1)=((k+1+1:Nat):Int):=bG _ (by omega) (by omega);have hw1:i64.wrap (((k+1:Nat):Int)-1)=((k:Nat):Int):=by rw[bG _ (by omega) (by omega)];omega
 by_cases hlt:k+1<l.length
 ·refine eN (by omega) ?_;rw[bD hlt,hw1,bD (show k<l.length by omega)];rw[AWN (by rw[ae];exact hlt)] at he;rw[List.getElem_map,List.getElem_map] at he;cases hc:(cD (p l[k+1]) (p l[k])||decide (p l[k+1]=p l[k])) with
  | true =>
   rw[jY];rw[hc,Bool.not_true,Bool.false_and] at he;rwa[he] at hR
  | false =>
   rw[o6];rw[hc,Bool.not_false,Bool.true_and] at he;exact hX _ (by omega) ⟨by rw[hw],he⟩
 ·refine gK (by omega) ?_;rw[A5O (by rw[ae];omega)] at he;rwa[he] at hR
def rI (a0:List iII):List T:=[pPP (a0.length:Int),T.fn 272 [] [T.ref [T.sl false (List.map Sy.str.enc a0)]]]
noncomputable def AS5:Env:=Env.of []
def A9H:FuncId->Hint:=b6 123 [(2,.inv [.val 5 false (.int .i64)])] (λ_=>bA)
def A4W:aV Tryz.prog AS5:=.nil _
def AVG(a0:List iII)(R:T->Prop):Prop:=bB (Int×PUnit) (λX0 s1=>aC (decide (s1.1<(↑a0.length:Int))) (aR Sy.str (M2 a0) s1.1 λ(y2:iII)=>aR Sy.str (M2 a0) (i64.wrap (s1.1-1)) λ(y3:iII)=>aC (cD y2 y3||decide (y2=y3)) (R d4) (f9 X0 s1)) (R d8)) (1,())
def AVH ( a0 R):eG bY Tryz.prog AS5 A9H 8 123 (rI a0) R=AVG a0 R:=by kernel_rfl
def AI9 (l:List iII):Option T:=qT l (pPR (q7 l))
def AL7 (d d':List iII) (h:rI d=rI d'):d=d':=by
 unfold rI at h;simp only[List.cons.injEq,T.fn.injEq,T.ref.injEq,and_true,true_and,T.sl.injEq] at h;exact map_inj (Sy.dY .str) h.2
noncomputable def AA6:List T->Option (T):=gA (λ(x:List iII)=>rI x) AI9
def AZK (a0:List iII):AA6 (rI a0)=AI9 a0:=fN (A:=(λ(x:List iII)=>rI x)) AL7 a0
def BEO (h:∀ (a0:List iII) (r:T),AI9 a0=some r->(∀ t∈rI a0,Bd t)->AVG a0 (λy=>y=r)):aP Tryz.prog 123 AA6 :=
 cQ (E:=AS5) (Hs:=A9H) A4W aY a7 (aO rfl) 8 ⟨_,_,Tryz.func123,rfl⟩ λx r h1 h2=>by
  rw[AVH];exact h x r h1 h2
def BCK:aP Tryz.prog 123 AA6:=BEO λl r h hb=>by
 obtain ⟨hl,rfl⟩:=j1 h;unfold AVG M2 f9 d8 d4;exact EW (r:=.str) (p:=λy=>y) (R:=λy=>y=pPR (q7 l)) hl (by simp)
def rE (a0:aB):List T:=[pPP (a0.2.1.length:Int),T.fn 124 [] [T.ref [T.ref (aD.enc a0)]]]
noncomputable def AS1:Env:=Env.of []
def A9D:FuncId->Hint:=b6 123 [(2,.inv [.val 5 false (.int .i64)])] (λ_=>bA)
def A4S:aV Tryz.prog AS1:=.nil _
def AU8(a0:aB)(R:T->Prop):Prop:=bB (Int×PUnit) (λX0 s1=>aC (decide (s1.1<(↑a0.2.1.length:Int))) (aR bC (GT a0) s1.1 λ(y2:bQ)=>aR bC (GT a0) (i64.wrap (s1.1-1)) λ(y3:bQ)=>aC (cD y2.1 y3.1||decide (y2.1=y3.1)) (R d4) (f9 X0 s1)) (R d8)) (1,())
def AU9 ( a0 R):eG bY Tryz.prog AS1 A9D 8 123 (rE a0) R=AU8 a0 R:=by kernel_rfl
def AI5 (d:aB):Option T:=qT d.2.1 (pPR (q7 (ids d.2.1)))
def AL3 (d d':aB) (h:rE d=rE d'):d=d':=by
 unfold rE at h;simp only[List.cons.injEq,T.fn.injEq,T.ref.injEq,and_true,true_and] at h;exact Sy.dY aD _ _ h.2
noncomputable def AA2:List T->Option (T):=gA (λ(x:aB)=>rE x) AI5
def AZG (a0:aB):AA2 (rE a0)=AI5 a0:=fN (A:=(λ(x:aB)=>rE x)) AL3 a0
def BEK (h:∀ (a0:aB) (r:T),AI5 a0=some r->(∀ t∈rE a0,Bd t)->AU8 a0 (λy=>y=r)):aP Tryz.prog 123 AA2 :=
 cQ (E:=AS1) (Hs:=A9D) A4S aY a7 (aO rfl) 8 ⟨_,_,Tryz.func123,rfl⟩ λx r h1 h2=>by
  rw[AU9];exact h x r h1 h2
def BCG:aP Tryz.prog 123 AA2:=BEK λd r h hb=>by
 obtain ⟨hl,rfl⟩:=j1 h;unfold AU8 f9 GT d8 d4;exact EW (r:=bC) (p:=λy=>y.1) (R:=λy=>y=pPR (q7 (ids d.2.1))) hl rfl
def rF (a0:aB):List T:=[pPP (a0.2.2.1.length:Int),T.fn 125 [] [T.ref [T.ref (aD.enc a0)]]]
noncomputable def AS2:Env:=Env.of []
def A9E:FuncId->Hint:=b6 123 [(2,.inv [.val 5 false (.int .i64)])] (λ_=>bA)
def A4T:aV Tryz.prog AS2:=.nil _
def AVA(a0:aB)(R:T->Prop):Prop:=bB (Int×PUnit) (λX0 s1=>aC (decide (s1.1<(↑a0.2.2.1.length:Int))) (aR aK (IR a0) s1.1 λ(y2:a8)=>aR aK (IR a0) (i64.wrap (s1.1-1)) λ(y3:a8)=>aC (cD y2.1 y3.1||decide (y2.1=y3.1)) (R d4) (f9 X0 s1)) (R d8)) (1,())
def AVB ( a0 R):eG bY Tryz.prog AS2 A9E 8 123 (rF a0) R=AVA a0 R:=by kernel_rfl
def AI6 (d:aB):Option T:=qT d.2.2.1 (pPR (q7 (ids d.2.2.1)))
def AL4 (d d':aB) (h:rF d=rF d'):d=d':=by
 unfold rF at h;simp only[List.cons.injEq,T.fn.injEq,T.ref.injEq,and_true,true_and] at h;exact Sy.dY aD _ _ h.2
noncomputable def AA3:List T->Option (T):=gA (λ(x:aB)=>rF x) AI6
def AZH (a0:aB):AA3 (rF a0)=AI6 a0:=fN (A:=(λ(x:aB)=>rF x)) AL4 a0
def BEL (h:∀ (a0:aB) (r:T),AI6 a0=some r->(∀ t∈rF a0,Bd t)->AVA a0 (λy=>y=r)):aP Tryz.prog 123 AA3 :=
 cQ (E:=AS2) (Hs:=A9E) A4T aY a7 (aO rfl) 8 ⟨_,_,Tryz.func123,rfl⟩ λx r h1 h2=>by
  rw[AVB];exact h x r h1 h2
def BCH:aP Tryz.prog 123 AA3:=BEL λd r h hb=>by
 obtain ⟨hl,rfl⟩:=j1 h;unfold AVA f9 IR d8 d4;exact EW (r:=aK) (p:=λy=>y.1) (R:=λy=>y=pPR (q7 (ids d.2.2.1))) hl rfl
def rG (a0:aB):List T:=[pPP (a0.2.2.2.1.length:Int),T.fn 126 [] [T.ref [T.ref (aD.enc a0)]]]
noncomputable def AS3:Env:=Env.of []
def A9F:FuncId->Hint:=b6 123 [(2,.inv [.val 5 false (.int .i64)])] (λ_=>bA)
def A4U:aV Tryz.prog AS3:=.nil _
def AVC(a0:aB)(R:T->Prop):Prop:=bB (Int×PUnit) (λX0 s1=>aC (decide (s1.1<(↑a0.2.2.2.1.length:Int))) (aR bE (IO a0) s1.1 λ(y2:bT)=>aR bE (IO a0) (i64.wrap (s1.1-1)) λ(y3:bT)=>aC (cD y2.1 y3.1||decide (y2.1=y3.1)) (R d4) (f9 X0 s1)) (R d8)) (1,())
def AVD ( a0 R):eG bY Tryz.prog AS3 A9F 8 123 (rG a0) R=AVC a0 R:=by kernel_rfl
def AI7 (d:aB):Option T:=qT d.2.2.2.1 (pPR (q7 (ids d.2.2.2.1)))
def AL5 (d d':aB) (h:rG d=rG d'):d=d':=by
 unfold rG at h;simp only[List.cons.injEq,T.fn.injEq,T.ref.injEq,and_true,true_and] at h;exact Sy.dY aD _ _ h.2
noncomputable def AA4:List T->Option (T):=gA (λ(x:aB)=>rG x) AI7
def AZI (a0:aB):AA4 (rG a0)=AI7 a0:=fN (A:=(λ(x:aB)=>rG x)) AL5 a0
def BEM (h:∀ (a0:aB) (r:T),AI7 a0=some r->(∀ t∈rG a0,Bd t)->AVC a0 (λy=>y=r)):aP Tryz.prog 123 AA4 :=
 cQ (E:=AS3) (Hs:=A9F) A4U aY a7 (aO rfl) 8 ⟨_,_,Tryz.func123,rfl⟩ λx r h1 h2=>by
  rw[AVD];exact h x r h1 h2
def BCI:aP Tryz.prog 123 AA4:=BEM λd r h hb=>by
 obtain ⟨hl,rfl⟩:=j1 h;unfold AVC f9 IO d8 d4;exact EW (r:=bE) (p:=λy=>y.1) (R:=λy=>y=pPR (q7 (ids d.2.2.2.1))) hl rfl
def rH (a0:aB):List T:=[pPP (a0.2.2.2.2.1.length:Int),T.fn 127 [] [T.ref [T.ref (aD.enc a0)]]]
noncomputable def AS4:Env:=Env.of []
def A9G:FuncId->Hint:=b6 123 [(2,.inv [.val 5 false (.int .i64)])] (λ_=>bA)
def A4V:aV Tryz.prog AS4:=.nil _
def AVE(a0:aB)(R:T->Prop):Prop:=bB (Int×PUnit) (λX0 s1=>aC (decide (s1.1<(↑a0.2.2.2.2.1.length:Int))) (aR aH (FS a0) s1.1 λ(y2:aQ)=>aR aH (FS a0) (i64.wrap (s1.1-1)) λ(y3:aQ)=>aC (cD y2.1 y3.1||decide (y2.1=y3.1)) (R d4) (f9 X0 s1)) (R d8)) (1,())
def AVF ( a0 R):eG bY Tryz.prog AS4 A9G 8 123 (rH a0) R=AVE a0 R:=by kernel_rfl
def AI8 (d:aB):Option T:=qT d.2.2.2.2.1 (pPR (q7 (ids d.2.2.2.2.1)))
def AL6 (d d':aB) (h:rH d=rH d'):d=d':=by
 unfold rH at h;simp only[List.cons.injEq,T.fn.injEq,T.ref.injEq,and_true,true_and] at h;exact Sy.dY aD _ _ h.2
noncomputable def AA5:List T->Option (T):=gA (λ(x:aB)=>rH x) AI8
def AZJ (a0:aB):AA5 (rH a0)=AI8 a0:=fN (A:=(λ(x:aB)=>rH x)) AL6 a0
def BEN (h:∀ (a0:aB) (r:T),AI8 a0=some r->(∀ t∈rH a0,Bd t)->AVE a0 (λy=>y=r)):aP Tryz.prog 123 AA5 :=
 cQ (E:=AS4) (Hs:=A9G) A4V aY a7 (aO rfl) 8 ⟨_,_,Tryz.func123,rfl⟩ λx r h1 h2=>by
  rw[AVF];exact h x r h1 h2
def BCJ:aP Tryz.prog 123 AA5:=BEN λd r h hb=>by
 obtain ⟨hl,rfl⟩:=j1 h;unfold AVE f9 FS d8 d4;exact EW (r:=aH) (p:=λy=>y.1) (R:=λy=>y=pPR (q7 (ids d.2.2.2.2.1))) hl rfl
noncomputable def wH:List T->Option T:=orG AA2 (orG AA3 (orG AA4 (orG AA5 AA6)))
def A9O:aP Tryz.prog 123 wH:=.or BCG (.or BCH (.or BCI (.or BCJ BCK)))
def BCR {d:aB} (h:d.2.1.length<=140737488355328):APL (sN d)=some (iR (ids d.2.1)):=by
 have h1:AAF (sN d)=some (iR (ids d.2.1)):=by rw[AY1];exact j2 _ h
 exact (OK h1)
def BCV {d:aB} (h:d.2.1.length<=140737488355328):wH (rE d)=some (pPR (q7 (ids d.2.1))):=by
 have h1:AA2 (rE d)=some (pPR (q7 (ids d.2.1))):=by rw[AZG];exact j2 _ h
 exact (OK h1)
def BCS {d:aB} (h:d.2.2.1.length<=140737488355328):APL (sO d)=some (iR (ids d.2.2.1)):=by
 have h1:AAG (sO d)=some (iR (ids d.2.2.1)):=by rw[AY2];exact j2 _ h
 exact ((pB (iF λx h=>by simp[sN,sO] at h)).trans (OK h1))
def BCW {d:aB} (h:d.2.2.1.length<=140737488355328):wH (rF d)=some (pPR (q7 (ids d.2.2.1))):=by
 have h1:AA3 (rF d)=some (pPR (q7 (ids d.2.2.1))):=by rw[AZH];exact j2 _ h
 exact ((pB (iF λx h=>by simp[rE,rF] at h)).trans (OK h1))
def BCT {d:aB} (h:d.2.2.2.1.length<=140737488355328):APL (sP d)=some (iR (ids d.2.2.2.1)):=by
 have h1:AAH (sP d)=some (iR (ids d.2.2.2.1)):=by rw[AY3];exact j2 _ h
 exact ((pB (iF λx h=>by simp[sN,sP] at h)).trans ((pB (iF λx h=>by simp[sO,sP] at h)).trans (OK h1)))
def BCX {d:aB} (h:d.2.2.2.1.length<=140737488355328):wH (rG d)=some (pPR (q7 (ids d.2.2.2.1))):=by
 have h1:AA4 (rG d)=some (pPR (q7 (ids d.2.2.2.1))):=by rw[AZI];exact j2 _ h
 exact ((pB (iF λx h=>by simp[rE,rG] at h)).trans ((pB (iF λx h=>by simp[rF,rG] at h)).trans (OK h1)))
def BCU {d:aB} (h:d.2.2.2.2.1.length<=140737488355328):APL (sQ d)=some (iR (ids d.2.2.2.2.1)):=by
 have h1:AAI (sQ d)=some (iR (ids d.2.2.2.2.1)):=by rw[AY4];exact j2 _ h
 exact ((pB (iF λx h=>by simp[sN,sQ] at h)).trans ((pB (iF λx h=>by simp[sO,sQ] at h)).trans ((pB (iF λx h=>by simp[sP,sQ] at h)).trans h1)))
def BCY {d:aB} (h:d.2.2.2.2.1.length<=140737488355328):wH (rH d)=some (pPR (q7 (ids d.2.2.2.2.1))):=by
 have h1:AA5 (rH d)=some (pPR (q7 (ids d.2.2.2.2.1))):=by rw[AZJ];exact j2 _ h
 exact ((pB (iF λx h=>by simp[rE,rH] at h)).trans ((pB (iF λx h=>by simp[rF,rH] at h)).trans ((pB (iF λx h=>by simp[rG,rH] at h)).trans (OK h1))))
def AZL {l:List iII} (h:l.length<=140737488355328):wH (rI l)=some (pPR (q7 l)):=by
 have h1:AA6 (rI l)=some (pPR (q7 l)):=by rw[AZK];exact j2 _ h
 exact ((pB (iF λx h=>by simp[rE,rI] at h)).trans ((pB (iF λx h=>by simp[rF,rI] at h)).trans ((pB (iF λx h=>by simp[rG,rI] at h)).trans ((pB (iF λx h=>by simp[rH,rI] at h)).trans h1))))
abbrev PX (d:aB) (m1 m2 m3 m4:List (iII×Int)):T:=T.ref [T.ref (aD.enc d),T.mp (bO m1),T.mp (bO m2),T.mp (bO m3),T.mp (bO m4)]
end Go.Pv
namespace Go.Pv
open Go Go.Proofs IntKind
abbrev q_b:Sh:=[(false,.bool)]
abbrev BEX:Sh:=[(false,.li .str)]
def yH (x:iII×iII):Option T:=match decide (x.1.size<4294967281),decide (1<=x.2.size) with
 | true,true=>some (Sh.enc BEX (Lib.splitB x.2 0 (Lib.countB x.1 x.2) x.1))
 | _,_=>none
noncomputable def xQ:List T->Option T:=gS [(false,.str),(false,.str)] yH
def ABB {a b:iII}:xQ [pPQ a,pPQ b]=yH (a,b):=bI (s:=[(false,.str),(false,.str)]) rfl (a,b) rfl
def AO5:aP Tryz.prog 83 xQ:=by
 refine ⟨w9.entry,λw own args vs r hG ho ha hg=>?_⟩;obtain ⟨⟨a,b⟩,rfl,hx⟩:=yX hg;unfold yH at hx;split at hx
 ·rename_i h1 h2;cases hx;have hs:sF [.v (.string a),.v (.string b)]=some (.sl true ((Lib.splitB b 0 (Lib.countB a b) a).map λx=>[.v (.string x)])):=by
   unfold sF;simp only[h1,h2]
  refine (w9.calls w own _ vs _ hG ho ha hs).mono ?_;rintro e w' ⟨v,rfl,hr,hb⟩;exact ⟨v,rfl,hr.canon 0,hb⟩
 ·cases hx
end Go.Pv
namespace Go.Pv
open Go Go.Proofs IntKind
def rV (n:Int):Bool:=(decide (97<=n)&&decide (n<=122))||(decide (65<=n)&&decide (n<=90))
def BR (n:Int):Bool:=decide (48<=n)&&decide (n<=57)
def nameAt (i:Nat) (b:UInt8):Bool:=rV b.toNat||(decide (i≠0)&&(BR b.toNat||decide ((b.toNat:Int)=95)||decide ((b.toNat:Int)=45)))
def isName (s:iII):Bool:=decide (s.size≠0)&&decide (s.size<=16)&&(List.range s.size).all λi=>match s.data[i]? with|some b=>nameAt i b|none=>true
def AC2 (s:iII):Option T:=some (Sh.enc q_b (isName s))
abbrev uF:=AC2
def A8S (l:List iII):Int:=(l.length:Int)-1+oW l
def BIP (s:iII):Option T:=match decide (s.size<=1099511627776) with
 | true=>some (Sh.enc BEX (eE s))
 | false=>none
def uG (l:List iII):Option T:=match decide (l.length<=65)&&decide (oW l<=64) with
 | true=>some (Sh.enc q_b (l.all isName&&(decide (1<=l.length)&&decide (l.length<=8)&&decide (A8S l<=64))))
 | false=>none
def sH (s:iII):Bool:=decide (s.size<=64)&&decide ((eE s).length<=8)&&(eE s).all isName
def E4 (s:iII):Option T:=some (Sh.enc q_b (sH s))
def pS {n:Nat} {f:Nat->Bool}:(List.range n).all f=true↔∀ i,i<n->f i=true:=by simp
def APW {s:iII} (h0:s.size≠0) (h1:s.size<=16) (h2:∀ i b,s.data[i]? = some b->nameAt i b=true):isName s=true:=by
 unfold isName;simp only[h0,h1,decide_true,Bool.true_and,ac,pS,ne_eq,not_false_eq_true,true_and];intro i hi;split
 ·rename_i b hb;exact h2 i b hb
 ·rfl
def CC {s:iII} (h:s.size=0\/16<s.size\/∃ i b,s.data[i]? = some b/\nameAt i b=false):isName s=false:=by
 rw[Bool.eq_false_iff];intro hn;unfold isName at hn;simp only[ac,pS,ah] at hn;rcases h with h|h|⟨i,b,hb,hf⟩
 ·exact hn.1.1 h
 ·have:=hn.1.2;omega
 ·have hi:i<s.size:=(Array.getElem?_eq_some_iff.1 hb).1;have:=hn.2 i hi;rw[hb] at this;simp only[hf] at this;cases this
def AB1 (b:UInt8):nameAt 0 b=rV b.toNat:=by simp[nameAt]
def AJ1 {s:iII}:s = { data:=#[] }↔s.size=0:=⟨λe=>by subst e;rfl,λe=>ByteArray.ext (Array.eq_empty_of_size_eq_zero e)⟩
noncomputable def ASG:Env:=Env.of []
def AVN:FuncId->Hint:=λf=>match f == 85 with|true=>⟨λr=>match r == 4 with|true=>.inv [.kP 0]|false=>.none,λi j=>match i == 6&&j == 6 with|true=>some [.val 5 false .bool,.fix 0]|false=>match i == 7&&j == 7 with|true=>some [.val 6 false .bool,.fix 0]|false=>none,λ_=>none⟩|false=>bA
def ADV:aV Tryz.prog ASG:=.nil _
def AC(s1:(iII×Nat)×PUnit)(X2:Bool×PUnit×PUnit->Prop):Prop:=aC (decide (97<=(↑(Utf8.decode s1.1.1 s1.1.2).1:Int))) (fS (bH.kP s1.1.1 (s1.1.2+(Utf8.decode s1.1.1 s1.1.2).2)) (bH.kP s1.1.1 (s1.1.2+(Utf8.decode s1.1.1 s1.1.2).2)) (X2 (decide ((↑(Utf8.decode s1.1.1 s1.1.2).1:Int)<=122),(),()))) (fS (bH.kP s1.1.1 (s1.1.2+(Utf8.decode s1.1.1 s1.1.2).2)) (bH.kP s1.1.1 (s1.1.2+(Utf8.decode s1.1.1 s1.1.2).2)) (X2 (false,(),())))
def EQ(s1:(iII×Nat)×PUnit)(X2:Bool×PUnit×PUnit->Prop):Prop:=fS (bH.kP s1.1.1 (s1.1.2+(Utf8.decode s1.1.1 s1.1.2).2)) (bH.kP s1.1.1 (s1.1.2+(Utf8.decode s1.1.1 s1.1.2).2)) (X2 (true,(),()))
def NE(s1:(iII×Nat)×PUnit)(X4:Bool×PUnit×PUnit->Prop):Prop:=aC (decide ((↑(Utf8.decode s1.1.1 s1.1.2).1:Int)=95)) (EQ s1 X4) (fS (bH.kP s1.1.1 (s1.1.2+(Utf8.decode s1.1.1 s1.1.2).2)) (bH.kP s1.1.1 (s1.1.2+(Utf8.decode s1.1.1 s1.1.2).2)) (X4 (decide ((↑(Utf8.decode s1.1.1 s1.1.2).1:Int)=45),(),())))
def K3(a0:iII)(R:T->Prop):Prop:=aC (decide (a0 = {data:=#[]})) (R d4) (aC (decide (16<(↑(ByteArray.size a0):Int))) (R d4) (bB ((iII×Nat)×PUnit) (λX0 s1=>aC (decide (s1.1.2<s1.1.1.size)) (rU (Bool×PUnit×PUnit) (λ(X2:Bool×PUnit×PUnit->Prop)=>aC (decide (65<=(↑(Utf8.decode s1.1.1 s1.1.2).1:Int))) (aC (decide ((↑(Utf8.decode s1.1.1 s1.1.2).1:Int)<=90)) (EQ s1 X2) (AC s1 X2)) (AC s1 X2)) λ(s3:Bool×PUnit×PUnit)=>rU (Bool×PUnit×PUnit) (λ(X4:Bool×PUnit×PUnit->Prop)=>aC (decide (48<=(↑(Utf8.decode s1.1.1 s1.1.2).1:Int))) (aC (decide ((↑(Utf8.decode s1.1.1 s1.1.2).1:Int)<=57)) (EQ s1 X4) (NE s1 X4)) (NE s1 X4)) λ(s5:Bool×PUnit×PUnit)=>aC (!s3.1) (aC (decide ((↑s1.1.2:Int)=0)) (R d4) (aC (!s5.1) (R d4) (X0 ((s1.1.1,s1.1.2+(Utf8.decode s1.1.1 s1.1.2).2),())))) (X0 ((s1.1.1,s1.1.2+(Utf8.decode s1.1.1 s1.1.2).2),()))) (R d8)) ((a0,0),())))
abbrev OT:Sh:=[(false,Sy.str)]
abbrev EU:Sh:=[(false,Sy.bool)]
def QS (y:Sh.den EU) (K:Sh.den EU->Prop):aJ EU (some (Sh.enc EU y)) K=K y:=yP rfl y K
noncomputable def iH:List T->Option T:=gS OT uF
def xE {a0}:iH [pPQ a0]=uF (a0):=bI (s:=OT) rfl (a0) rfl
def AQL:wP Tryz.prog 85 iH uF (cC OT) K3:=jZ (a1:=(false,Sy.str)) (sp:=uF) (F:=K3) (Hs:=AVN) (f:=85) (k:=8) ADV aY a7 (aO rfl) ⟨_,_,Tryz.func85,rfl⟩ rfl λ_ _=>by kernel_rfl
variable {K:Bool×PUnit×PUnit->Prop}
def ABQ (c:Int) (hX:K (rV c,(),())):rU (Bool×PUnit×PUnit) (λX=>aC (decide (65<=c)) (aC (decide (c<=90)) (X (true,(),())) (aC (decide (97<=c)) (X (decide (c<=122),(),())) (X (false,(),())))) (aC (decide (97<=c)) (X (decide (c<=122),(),())) (X (false,(),())))) K:=by
 simp only[ABN,zG];unfold rV at hX;by_cases h1:65<=c<;>by_cases h2:c<=90<;>by_cases h3:97<=c<;>by_cases h4:c<=122<;>simp[h1,h2,h3,h4] at hX ⊢ <;> first|exact hX|omega
def U3 (c:Int) (hX:K (BR c||decide (c=95)||decide (c=45),(),())):rU (Bool×PUnit×PUnit) (λX=>aC (decide (48<=c)) (aC (decide (c<=57)) (X (true,(),())) (aC (decide (c=95)) (X (true,(),())) (X (decide (c=45),(),())))) (aC (decide (c=95)) (X (true,(),())) (X (decide (c=45),(),())))) K:=by
 simp only[ABN,zG];unfold BR at hX;by_cases h1:48<=c<;>by_cases h2:c<=57<;>by_cases h3:c=95<;>simp[h1,h2,h3] at hX ⊢ <;> first|exact hX|omega
def yV:aP Tryz.prog 85 iH:=AQL λs r h hb=>by
 have h':some (Sh.enc q_b (isName s))=some r:=h;cases h';clear h;unfold K3 NE EQ AC d8 d4;by_cases h0:s.size=0
 ·exact eN (AJ1.2 h0) (by rw[CC (.inl h0)];rfl)
 refine gK (λe=>h0 (AJ1.1 e)) ?_;by_cases h16:16<s.size
 ·exact eN (by omega) (by rw[CC (.inr (.inl h16))];rfl)
 refine gK (by omega) ?_;refine bK s.size (λk t=>t=((s,k),())/\∀ i b,i<k->s.data[i]? = some b->nameAt i b=true) ⟨rfl,by simp⟩ ?_;rintro X k t hk ⟨rfl,hno⟩ hX;simp only[cS];by_cases hlt:k<s.size
 ·refine eN hlt ?_;have hb:s.data[k]? = some (s[k]'hlt):=by
   rw[Array.getElem?_eq_getElem hlt];rfl
  refine ABQ (Utf8.decode s k).1 ?_;refine U3 (Utf8.decode s k).1 ?_;dsimp only;have stop:nameAt k (s[k]'hlt)=false->pPR false=Sh.enc q_b (isName s):=λhn=>by rw[CC (.inr (.inr ⟨k,_,hb,hn⟩))];rfl
  by_cases hasc:(s[k]'hlt).toNat<128
  ·have hd:=decode_ascii s k hlt hasc;have go:nameAt k (s[k]'hlt)=true->X ((s,k+(Utf8.decode s k).2),()):=λhn=>by
    rw[hd];exact hX _ hlt ⟨rfl,λi b' hi hb'=>by
     by_cases e:i=k
     ·subst e;rw[hb] at hb';cases hb';exact hn
     ·exact hno i b' (by omega) hb'⟩
   have e1:((Utf8.decode s k).1:Int)=((s[k]'hlt).toNat:Int):=by rw[hd]
   rw[e1];cases hl:rV ((s[k]'hlt).toNat:Int) with
   | true=>rw[Bool.not_true,o6];exact go (by simp[nameAt,hl])
   | false =>
    rw[Bool.not_false,jY];by_cases hk0:k=0
    ·exact eN (by omega) (stop (by subst hk0;rw[AB1];exact hl))
    ·refine gK (by omega) ?_;cases hf:(BR ((s[k]'hlt).toNat:Int)||decide (((s[k]'hlt).toNat:Int)=95)||decide (((s[k]'hlt).toNat:Int)=45)) with
     | true=>rw[Bool.not_true,o6];exact go (by unfold nameAt;rw[hl,hf];simp[hk0])
     | false=>rw[Bool.not_false,jY];exact stop (by unfold nameAt;rw[hl,hf];simp)
  ·obtain ⟨hd1,hd2⟩:=decode_high s k hlt (by omega);have hl:rV ((Utf8.decode s k).1:Int)=false:=by
    unfold rV;simp;omega
   have hf:(BR ((Utf8.decode s k).1:Int)||decide (((Utf8.decode s k).1:Int)=95)||decide (((Utf8.decode s k).1:Int)=45))=false:=by
    unfold BR;simp;omega
   have hn:nameAt k (s[k]'hlt)=false:=by
    unfold nameAt rV BR;simp;omega
   rw[hl,hf,Bool.not_false,jY];by_cases hk0:k=0
   ·exact eN (by omega) (stop hn)
   ·refine gK (by omega) ?_;rw[jY];exact stop hn
 ·refine gK hlt ?_;rw[APW h0 (by omega) (λi b h=>hno i b (by have:=(Array.getElem?_eq_some_iff.1 h).1;have:i<s.size:=this;omega) h)];rfl
noncomputable def A3J:Env:=Env.of [(85,.pure iH)]
def A41:FuncId->Hint:=b6 82 [(3,.inv [.val 3 false (.int .i64),.val 11 false (.int .i64)])] (λ_=>bA)
def AMO:aV Tryz.prog A3J:=.cons yV (.nil _)
def T3(a0:List iII)(R:T->Prop):Prop:=bB (Int×Int×PUnit) (λX0 s1=>aC (decide (s1.2.1<(↑(M2 a0).length:Int))) (aR Sy.str (M2 a0) s1.2.1 λ(y2:iII)=>aJ d6 (iH [pPQ y2]) λ(y3:Bool)=>aC (!y3) (R d4) (X0 (i64.wrap (s1.1+(↑y2.size:Int)),i64.wrap (s1.2.1+1),()))) (aC (decide (1<=(↑(M2 a0).length:Int))) (aC (decide ((↑(M2 a0).length:Int)<=8)) (R (pPR (decide (s1.1<=64)))) (R d4)) (R d4))) (i64.wrap ((↑(M2 a0).length:Int)-1),0,())
abbrev WE:Sh:=[(false,Sy.str.li)]
noncomputable def DJ:List T->Option T:=gS WE uG
def AGQ {a0}:DJ [T.sl false (List.map Sy.str.enc a0)]=uG (a0):=bI (s:=WE) rfl (a0) rfl
def A0Z:wP Tryz.prog 82 DJ uG (cC WE) T3:=jZ (a1:=(false,Sy.str.li)) (sp:=uG) (F:=T3) (Hs:=A41) (f:=82) (k:=8) AMO aY a7 (aO rfl) ⟨_,_,Tryz.func82,rfl⟩ rfl λ_ _=>by kernel_rfl
def CQ:∀ (l:List iII) (x:iII),oW (l++[x])=oW l+x.size
 | [],x=>by simp[oW]
 | a::l,x=>by simp only[List.cons_append,oW,CQ l x];omega
def PV:∀ (l:List iII) (k:Nat),oW (l.take k)<=oW l
 | [],k=>by simp
 | a::l,0=>by simp[oW]
 | a::l,k+1=>by simp only[List.take_succ_cons,oW];have:=PV l k;omega
def AXW:aP Tryz.prog 82 DJ:=A0Z λl r h hb=>by
 unfold uG at h;split at h
 ·rename_i hsz;simp only[ac,ah] at hsz;obtain ⟨hl65,hs64⟩:=hsz;cases h;unfold T3 M2 d6 d4;refine bK l.length (λk t=>t=((l.length:Int)-1+oW (l.take k),(k:Int),())/\(l.take k).all isName=true) ⟨by
   simp only[List.take_zero,oW,ae,Prod.mk.injEq,and_true];rw[bG _ (by omega) (by omega)];simp,by simp⟩ ?_
  rintro X k t hk ⟨rfl,hall⟩ hX;dsimp only;by_cases hlt:k<l.length
  ·refine eN (by simp[hlt]) ?_;rw[bD (r:=.str) hlt];refine aF (s:=q_b) (y:=isName l[k]) xE ?_;have hsum:=PV l (k+1);have htake:l.take (k+1)=l.take k++[l[k]]:=List.take_succ_eq_append_getElem hlt;cases hn:isName l[k] with
   | false =>
    rw[Bool.not_false,jY];have:l.all isName=false:=by
     rw[Bool.eq_false_iff];intro ha;have:=List.all_eq_true.1 ha _ (ak hlt);rw[hn] at this;cases this
    rw[this];rfl
   | true =>
    rw[Bool.not_true,o6];rw[htake,CQ] at hsum;refine hX _ hlt ⟨?_,by rw[htake,List.all_append,hall];simp[hn]⟩;rw[htake,CQ];simp only[Prod.mk.injEq,and_true];exact ⟨by rw[bG _ (by omega) (by omega)];simp;omega,bG _ (by omega) (by omega)⟩
  ·have:k=l.length:=by omega
   subst this;rw[List.take_length] at hall;refine gK (by simp) ?_;rw[List.take_length,hall];by_cases h1:1<=l.length
   ·refine eN (by simp only[ae];omega) ?_;by_cases h2:l.length<=8
    ·refine eN (by simp only[ae];omega) ?_;rw[ai h1,ai h2];rfl
    ·refine gK (by simp only[ae];omega) ?_;rw[aj h2,Bool.and_false];rfl
   ·refine gK (by simp only[ae];omega) ?_;rw[aj h1];rfl
 ·cases h
noncomputable def A99:Env:=Env.of [(83,.pure xQ),(82,.pure DJ)]
def BAO:FuncId->Hint:=λ_=>bA
def ATO:aV Tryz.prog A99:=.cons AO5 (.cons AXW (.nil _))
def AEW(a0:iII)(R:T->Prop):Prop:=aC (decide ((↑(ByteArray.size a0):Int)<=64)) (aJ eI (xQ [pPQ a0,pPQ ({data:=#[46]})]) λ(y0:List iII)=>aJ d6 (DJ [T.sl false (M2 y0)]) λ(y1:Bool)=>R (pPR y1)) (R d4)
abbrev AIF:Sh:=[(false,Sy.str)]
abbrev V7:Sh:=[(false,Sy.bool)]
def ACN (y:Sh.den V7) (K:Sh.den V7->Prop):aJ V7 (some (Sh.enc V7 y)) K=K y:=yP rfl y K
noncomputable def eH:List T->Option T:=gS AIF E4
def RY {a0}:eH [pPQ a0]=E4 (a0):=bI (s:=AIF) rfl (a0) rfl
def A72:wP Tryz.prog 64 eH E4 (cC AIF) AEW:=jZ (a1:=(false,Sy.str)) (sp:=E4) (F:=AEW) (Hs:=BAO) (f:=64) (k:=8) ATO aY a7 (aO rfl) ⟨_,_,Tryz.func64,rfl⟩ rfl λ_ _=>by kernel_rfl
def C8:aP Tryz.prog 64 eH:=A72 λs r h hb=>by
 have h':some (Sh.enc q_b (sH s))=some r:=h;cases h';clear h;unfold AEW M2 eI d6 d4 sH;by_cases h64:s.size<=64
 ·refine eN (by omega) ?_;have hsum:=ARH s;have hpos:=ARG s;refine aF (s:=BEX) (y:=eE s) ?_ ?_
  ·rw[show xQ [pPQ s,pPQ ({ data:=#[46] })]=yH (s,dot) from ABB];unfold yH;rw[show decide (s.size<4294967281)=true by simp;omega,show decide (1<=dot.size)=true from rfl];rfl
  ·refine aF (s:=q_b) (y:=(eE s).all isName&&(decide (1<=(eE s).length)&&decide ((eE s).length<=8)&&decide (A8S (eE s)<=64))) ?_ ?_
   ·rw[AGQ];unfold uG;rw[show (decide ((eE s).length<=65)&&decide (oW (eE s)<=64))=true by simp;omega]
   ·have h1:decide (1<=(eE s).length)=true:=ai hpos;have h2:decide (A8S (eE s)<=64)=true:=ai (by unfold A8S;omega);have h3:decide (s.size<=64)=true:=ai h64;rw[h1,h2,h3];simp[Bool.and_comm,Sh.enc,aG,Sy.enc,hdT]
 ·refine gK (by omega) ?_;rw[aj h64];rfl
end Go.Pv
namespace Go.Pv
open Go Go.Proofs IntKind
def Seen (es:List (iII×Bool)) (S:iII->Prop):Prop:=(∀ id b,fI es id=some b->b=true)/\∀ id,fI es id=some true↔S id
def Seen.nil:Seen [] λ_=>False:=⟨λid b h=>(by cases h),λid=>⟨λh=>(by cases h),λh=>h.elim⟩⟩
variable {es:List (iII×Bool)}{S:iII->Prop}
def Seen.ins (h:Seen es S) (k:iII):Seen (nK es k true) λid=>S id\/k=id:=by
 refine ⟨λid b hb=>?_,λid=>?_⟩
 ·rw[xR] at hb;split at hb
  ·cases hb;rfl
  ·exact h.1 id b hb
 ·rw[xR];split
  ·rename_i e;exact ⟨λ_=>.inr e,λ_=>rfl⟩
  ·rename_i e;rw[h.2];exact ⟨.inl,λh=>h.resolve_right e⟩
def Seen.congr {S':iII->Prop} (h:Seen es S) (e:∀ id,S id↔S' id):Seen es S':=⟨h.1,λid=>(h.2 id).trans (e id)⟩
abbrev RS:=List (Value×T)×Nat×List Nat×Nat
variable {m:List (iII×Int)}
def AXK {seen:List Nat} {i:Nat} (hi:i<m.length) (K:iII->Int->Prop) (hk:K m[i].1 m[i].2):BS .str false (.int .i64) (qZ (bO m)) (seen++[i]) K :=
 ⟨i,m[i].1,m[i].2,by simp,by simp only[qZ,bO,List.map_map,List.getElem?_map,List.getElem?_eq_getElem hi];rfl,hk⟩
def A5W {R7 K:Prop} (hS:Seen es S) (hbad:(∃ i,∃ h:i<m.length,S m[i].1)->R7) (hgood:(∀ i (h:i<m.length),¬ S m[i].1)->K) :
  bB (RS×PUnit) (λ(X:RS×PUnit->Prop) (s:RS×PUnit)=>bR (decide (s.1.1.length<=s.1.2.1)&&decide (s.1.2.1<=s.1.2.2.2)) (sZ s.1.1.length s.1.2.2.1 K λ(i:Nat) =>
   bR (decide (s.1.1.length=s.1.1.length)) (BS Sy.str false (Sy.int IntKind.i64) (qZ s.1.1) (s.1.2.2.1++[i]) λ(k:iII) (y:Int) =>
    gW TypeDesc.string (Value.string k) (List.map (b8 Sy.str false Sy.bool) es) false Sy.bool (X ((s.1.1,s.1.2.1,s.1.2.2.1++[i],s.1.1.length),())) λ(j:Nat) (b:Bool) =>
     aC b R7 (X ((s.1.1,s.1.2.1,s.1.2.2.1++[i],s.1.1.length),()))))) ((bO m,(bO m).length,[],(bO m).length),()):=by
 have hml:(bO m).length=m.length:=by simp[bO]
 refine bK m.length (λk t=>∃ seen,t=((bO m,(bO m).length,seen,(bO m).length),())/\(cK m.length seen).length+k<=m.length/\∀ i (h:i<m.length),i∈seen->¬ S m[i].1) ⟨[],rfl,by rw[xY];omega,by simp⟩ ?_;rintro X k t hk ⟨seen,rfl,hlen,hJ⟩ hX;dsimp only;refine ⟨by simp,?_,?_⟩
 ·intro hm;rw[hml] at hm;refine hgood λi hi=>hJ i hi ?_;refine Classical.byContradiction λhc=>?_;have:i∈cK m.length seen:=mD.2 ⟨hi,hc⟩;rw[hm] at this;cases this
 ·intro i hi;rw[hml] at hi;have hi1:=(mD.1 hi).1;have hst:=vF hi;refine ⟨by simp,AXK hi1 _ ?_⟩;have go:¬ S m[i].1->X ((bO m,(bO m).length,seen++[i],(bO m).length),()):=λhn=>hX _ (by omega) ⟨_,rfl,by omega,λj hj hm=>by
   rcases List.mem_append.1 hm with h|h
   ·exact hJ j hj h
   ·simp at h;subst h;exact hn⟩
  refine yU (r:=.bool) (λhno=>go λh=>?_) λj b hb=>?_
  ·have:=(hS.2 m[i].1).2 h;rw[hno] at this;cases this
  ·have:=hS.1 _ _ hb;subst this;rw[jY];exact hbad ⟨i,hi1,(hS.2 _).1 hb⟩
def A5J {K:List (iII×Bool)×RS×PUnit->Prop} (hS:Seen es S) (hgood:∀ es' rs,Seen es' (λid=>S id\/∃ i,∃ h:i<m.length,m[i].1=id)->K (es',rs,())) :
  dA Sy.str false Sy.bool (List.map (b8 Sy.str false Sy.bool) es) λ(y:List (iII×Bool)) =>
  bB (List (iII×Bool)×RS×PUnit) (λ(X:List (iII×Bool)×RS×PUnit->Prop) (s:List (iII×Bool)×RS×PUnit)=>bR (decide (s.2.1.1.length<=s.2.1.2.1)&&decide (s.2.1.2.1<=s.2.1.2.2.2)) (sZ s.2.1.1.length s.2.1.2.2.1 (K s) λ(i:Nat) =>
   bR (decide (s.2.1.1.length=s.2.1.1.length)) (BS Sy.str false (Sy.int IntKind.i64) (qZ s.2.1.1) (s.2.1.2.2.1++[i]) λ(k:iII) (y:Int) =>
    lC (Option (Nat×D)) (findD TypeDesc.string (N0 Sy.str k) (List.map (b8 Sy.str false Sy.bool) s.1) 0) λ(y37:Option (Nat×D)) =>
     dA Sy.str false Sy.bool (eJ (List.map (b8 Sy.str false Sy.bool) s.1) y37 (Value.string k) (D.p (T.v (.bool true)))) λ(y38:List (iII×Bool)) =>
      X (y38,(s.2.1.1,s.2.1.2.1,s.2.1.2.2.1++[i],s.2.1.1.length),())))) (y,(bO m,(bO m).length,[],(bO m).length),()):=by
 have hml:(bO m).length=m.length:=by simp[bO]
 refine jU (r:=.bool) rfl es _ ?_;refine bK m.length (λk t=>∃ seen es',t=(es',(bO m,(bO m).length,seen,(bO m).length),())/\(cK m.length seen).length+k<=m.length/\Seen es' (λid=>S id\/∃ i,∃ h:i<m.length,i∈seen/\m[i].1=id)) ⟨[],es,rfl,by rw[xY];omega,hS.congr (by simp)⟩ ?_;rintro X k t hk ⟨seen,es',rfl,hlen,hJ⟩ hX;dsimp only;refine ⟨by simp,?_,?_⟩
 ·intro hm;rw[hml] at hm;refine hgood _ _ (hJ.congr λid=>⟨λh=>h.imp_right λ⟨i,hi,_,e⟩=>⟨i,hi,e⟩,λh=>h.imp_right λ⟨i,hi,e⟩=>⟨i,hi,?_,e⟩⟩);refine Classical.byContradiction λhc=>?_;have:i∈cK m.length seen:=mD.2 ⟨hi,hc⟩;rw[hm] at this;cases this
 ·intro i hi;rw[hml] at hi;have hi1:=(mD.1 hi).1;have hst:=vF hi;refine ⟨by simp,AXK hi1 _ ?_⟩;refine AKJ (r:=.bool) rfl (es:=es') (k:=m[i].1) (v:=true) (hX _ (by omega) ⟨seen++[i],_,rfl,by omega,(hJ.ins _).congr λid=>⟨?_,?_⟩⟩)
  ·rintro ((h|⟨j,hj,hm,e⟩)|h)
   ·exact .inl h
   ·exact .inr ⟨j,hj,by simp[hm],e⟩
   ·exact .inr ⟨i,hi1,by simp,h⟩
  ·rintro (h|⟨j,hj,hm,e⟩)
   ·exact .inl (.inl h)
   ·rcases List.mem_append.1 hm with hm|hm
    ·exact .inl (.inr ⟨j,hj,hm,e⟩)
    ·simp at hm;subst hm;exact .inr e
def ltN (a b:bM):Bool:=decide (a.1<b.1)||(decide (a.1=b.1)&&(cD a.2.1 b.2.1||(decide (a.2.1=b.2.1)&&cD a.2.2 b.2.2)))
def Y8:List bM->Bool
 | a::b::l=>ltN a b&&Y8 (b::l)
 | _=>true
def ANN {l:List bM} {k:Nat} (h:k+1<l.length):Y8 (l.drop k)=(ltN l[k] l[k+1]&&Y8 (l.drop (k+1))):=by
 rw[List.drop_eq_getElem_cons (show k<l.length by omega),List.drop_eq_getElem_cons h,Y8]
def AWL {l:List bM} {k:Nat} (h:l.length<=k+1):Y8 (l.drop k)=true:=by
 rcases Nat.lt_or_ge k l.length with h1|h1
 ·rw[List.drop_eq_getElem_cons h1,List.drop_eq_nil_of_le h];rfl
 ·rw[List.drop_eq_nil_of_le h1];rfl
def SL (k:iII) (v:Int) (id:iII):∀ es:List (iII×Int),id∈(nK es k v).map (λe=>e.1)↔id∈es.map (λe=>e.1)\/id=k
 | []=>by simp[nK]
 | e::es=>by
  simp only[nK];split
  ·rename_i h;simp only[List.map_cons,List.mem_cons];rw[<-h];constructor
   ·rintro (h|h)
    ·exact .inl (.inl h)
    ·exact .inl (.inr h)
   ·rintro ((h|h)|h)
    ·exact .inl h
    ·exact .inr h
    ·exact .inl h
  ·simp only[List.map_cons,List.mem_cons,SL k v id es,or_assoc]
def SM (id:iII):∀ (l:List iII) (i:Nat) (es:List (iII×Int)),id∈(GW l i es).map (λe=>e.1)↔id∈es.map (λe=>e.1)\/id∈l
 | [],i,es=>by simp[GW]
 | a::l,i,es=>by
  simp only[GW];rw[SM id l];cases h:fI es a with
  | none=>simp only[SL,List.mem_cons,or_assoc]
  | some v =>
   simp only[List.mem_cons];have ha:a∈es.map (λe=>e.1):=by
    rcases qP a es with ⟨h1,_⟩|⟨j,hj,h1,_⟩
    ·rw[h] at h1;cases h1
    ·exact List.mem_map.2 ⟨es[j],ak hj,h1⟩
   constructor
   ·rintro (h|h)
    ·exact .inl h
    ·exact .inr (.inr h)
   ·rintro (h|rfl|h)
    ·exact .inl h
    ·exact .inl ha
    ·exact .inr h
def kY {l:List iII} {id:iII}:(∃ i,∃ h:i<(iR l).length,(iR l)[i].1=id)↔id∈l:=by
 have h:=SM id l 0 [];simp only[List.map_nil,List.not_mem_nil,false_or] at h;rw[<-h,List.mem_map];constructor
 ·rintro ⟨i,hi,e⟩;exact ⟨_,ak hi,e⟩
 ·rintro ⟨e,he,h⟩;obtain ⟨i,hi,rfl⟩:=List.mem_iff_getElem.1 he;exact ⟨i,hi,h⟩
def BF (a0:aB) (m1:List aE) (m2:List aE) (m3:List aE) (m4:List aE):List T:=[PX a0 m1 m2 m3 m4]
noncomputable def ADK:Env:=Env.of [(123,.pure wH)]
def AVM:FuncId->Hint:=λf=>match f == 87 with|true=>⟨λr=>match r == 9 with|true=>.inv [.val 4 false .bool,.val 5 false (.int .i64)]|false=>match r == 17 with|true=>.AJK 5|false=>match r == 20 with|true=>.alts [[.b9 30],[.b9 29],[.b9 28],[.b9 27],[.b9 26],[.b9 25],[.b9 24],[.b9 23],[.b9 22],[.b9 21],[.b9 20],[.b9 19],[.b9 18],[.b9 17],[.b9 16],[.b9 15],[.b9 14],[.b9 13],[.b9 12],[.b9 11],[.b9 10],[.b9 9],[.b9 8],[.b9 7],[.b9 6],[.b9 5],[.b9 4],[.b9 3],[.b9 2]]|false=>match r == 25 with|true=>.alts [[.map 2 .str false .bool,.b9 30],[.map 2 .str false .bool,.b9 29],[.map 2 .str false .bool,.b9 28],[.map 2 .str false .bool,.b9 27],[.map 2 .str false .bool,.b9 26],[.map 2 .str false .bool,.b9 25],[.map 2 .str false .bool,.b9 24],[.map 2 .str false .bool,.b9 23],[.map 2 .str false .bool,.b9 22],[.map 2 .str false .bool,.b9 21],[.map 2 .str false .bool,.b9 20],[.map 2 .str false .bool,.b9 19],[.map 2 .str false .bool,.b9 18],[.map 2 .str false .bool,.b9 17],[.map 2 .str false .bool,.b9 16],[.map 2 .str false .bool,.b9 15],[.map 2 .str false .bool,.b9 14],[.map 2 .str false .bool,.b9 13],[.map 2 .str false .bool,.b9 12],[.map 2 .str false .bool,.b9 11],[.map 2 .str false .bool,.b9 10],[.map 2 .str false .bool,.b9 9],[.map 2 .str false .bool,.b9 8],[.map 2 .str false .bool,.b9 7],[.map 2 .str false .bool,.b9 6],[.map 2 .str false .bool,.b9 5],[.map 2 .str false .bool,.b9 4],[.map 2 .str false .bool,.b9 3],[.map 2 .str false .bool,.b9 2]]|false=>.none,λi j=>match i == 5&&j == 5 with|true=>some [.val 4 false .bool]|false=>match i == 6&&j == 6 with|true=>some [.val 4 false .bool]|false=>match i == 7&&j == 7 with|true=>some [.val 4 false .bool]|false=>none,λr=>match r == 21 with|true=>some (.str,false,(.int .i64))|false=>match r == 26 with|true=>some (.str,false,(.int .i64))|false=>none⟩|false=>bA
def ATN:aV Tryz.prog ADK:=.cons A9O (.nil _)
def f6(a0:aB):List T:=[pPQ a0.1, T.sl false (GT a0), T.sl false (IR a0), T.sl false (IO a0), T.sl false (FS a0), T.sl false (RK a0)]
def i7(a0:aB):List T:=[pPQ a0.1,T.sl false (GT a0), T.sl false (IR a0), T.sl false (IO a0), T.sl false (FS a0), T.sl false (RK a0)]
def AEU(a0:aB)(m1:List aE)(m2:List aE)(m3:List aE)(m4:List aE)(R:T->Prop):Prop:=aC (decide (64<(↑(GT a0).length:Int))) (R (pPP 4)) (aC (decide (256<(↑(IR a0).length:Int))) (R (pPP 4)) (aC (decide (256<(↑(IO a0).length:Int))) (R (pPP 4)) (aC (decide (64<(↑(FS a0).length:Int))) (R (pPP 4)) (aC (decide (256<(↑(RK a0).length:Int))) (R (pPP 4)) (aJ d6 (wH [pPP (↑(GT a0).length:Int), T.fn 124 [] [T.ref [T.ref (i7 a0)]]]) λ(y0:Bool)=>rU (Bool×PUnit) (λ(X1:Bool×PUnit->Prop)=>aC y0 (aJ d6 (wH [pPP (↑(IR a0).length:Int), T.fn 125 [] [T.ref [T.ref (f6 a0)]]]) λ(y2:Bool)=>X1 (y2,())) (X1 (false,()))) λ(s3:Bool×PUnit)=>rU (Bool×PUnit) (λ(X4:Bool×PUnit->Prop)=>aC s3.1 (aJ d6 (wH [pPP (↑(IO a0).length:Int), T.fn 126 [] [T.ref [T.ref (f6 a0)]]]) λ(y5:Bool)=>X4 (y5,())) (X4 (false,()))) λ(s6:Bool×PUnit)=>rU (Bool×PUnit) (λ(X7:Bool×PUnit->Prop)=>aC s6.1 (aJ d6 (wH [pPP (↑(FS a0).length:Int), T.fn 127 [] [T.ref [T.ref (f6 a0)]]]) λ(y8:Bool)=>X7 (y8,())) (X7 (false,()))) λ(s9:Bool×PUnit)=>bB (Bool×Int×PUnit) (λX10 s11=>aC (decide (s11.2.1<(↑(RK a0).length:Int))) (aR aZ (RK a0) (i64.wrap (s11.2.1-1)) λ(y12:bM)=>aR aZ (RK a0) s11.2.1 λ(y13:bM)=>aC s11.1 (aC (decide (y12.1<y13.1)) (X10 (true,i64.wrap (s11.2.1+1),())) (aC (decide (y12.1=y13.1)) (aC (cD y12.2.1 y13.2.1) (X10 (true,i64.wrap (s11.2.1+1),())) (aC (decide (y12.2.1=y13.2.1)) (X10 (cD y12.2.2 y13.2.2,i64.wrap (s11.2.1+1), ())) (X10 (false,i64.wrap (s11.2.1+1),())))) (X10 (false,i64.wrap (s11.2.1+1),())))) (X10 (false,i64.wrap (s11.2.1+1),()))) (aC (!s11.1) (R (pPP 11)) (bB ((List (Value×T)×Nat×List Nat×Nat)×PUnit) (λ(X14:(List (Value×T)×Nat×List Nat×Nat)×PUnit->Prop) (s15:(List (Value×T)×Nat×List Nat×Nat)×PUnit)=>bR (decide (s15.1.1.length<=s15.1.2.1) && decide (s15.1.2.1<=s15.1.2.2.2)) (sZ s15.1.1.length s15.1.2.2.1 (dA Sy.str false Sy.bool [] λ(y16:List (iII×Bool))=>bB (List (iII×Bool) × (List (Value×T)×Nat×List Nat×Nat)×PUnit) (λ(X17 : List (iII×Bool) × (List (Value×T)×Nat×List Nat×Nat)×PUnit -> Prop) (s18 : List (iII×Bool) × (List (Value×T)×Nat×List Nat×Nat)×PUnit)=>bR (decide (s18.2.1.1.length<=s18.2.1.2.1) && decide (s18.2.1.2.1<=s18.2.1.2.2.2)) (sZ s18.2.1.1.length s18.2.1.2.2.1 (bB ((List (Value×T)×Nat×List Nat×Nat)×PUnit) (λ(X19 : (List (Value×T)×Nat×List Nat×Nat)×PUnit->Prop) (nG:(List (Value×T)×Nat×List Nat×Nat)×PUnit)=>bR (decide (nG.1.1.length<=nG.1.2.1) && decide (nG.1.2.1<=nG.1.2.2.2)) (sZ nG.1.1.length nG.1.2.2.1 (dA Sy.str false Sy.bool (List.map (b8 Sy.str false Sy.bool) s18.1) λ(y21:List (iII×Bool))=>bB (List (iII×Bool) × (List (Value×T)×Nat×List Nat×Nat)×PUnit) (λ(X22 : List (iII×Bool) × (List (Value×T)×Nat×List Nat×Nat) × PUnit -> Prop) (s23 : List (iII×Bool) × (List (Value×T)×Nat×List Nat×Nat) × PUnit)=>bR (decide (s23.2.1.1.length<=s23.2.1.2.1) && decide (s23.2.1.2.1<=s23.2.1.2.2.2)) (sZ s23.2.1.1.length s23.2.1.2.2.1 (bB ((List (Value×T)×Nat×List Nat×Nat) × PUnit) (λ(X24 : (List (Value×T) × Nat×List Nat×Nat) × PUnit -> Prop) (s25 : (List (Value×T) × Nat×List Nat×Nat) × PUnit)=>bR (decide (s25.1.1.length<=s25.1.2.1) && decide (s25.1.2.1<=s25.1.2.2.2)) (sZ s25.1.1.length s25.1.2.2.1 (dA Sy.str false Sy.bool (List.map (b8 Sy.str false Sy.bool) s23.1) λ(y26:List (iII×Bool))=>bB (List (iII×Bool) × (List (Value×T) × Nat×List Nat×Nat) × PUnit) (λ(X27 : List (iII×Bool) × (List (Value×T) × Nat×List Nat×Nat) × PUnit -> Prop) (s28 : List (iII×Bool) × (List (Value×T) × Nat×List Nat×Nat) × PUnit)=>bR (decide (s28.2.1.1.length <= s28.2.1.2.1) && decide (s28.2.1.2.1 <= s28.2.1.2.2.2)) (sZ s28.2.1.1.length s28.2.1.2.2.1 (bB ((List (Value×T) × Nat×List Nat×Nat) × PUnit) (λ(X29 : (List (Value×T) × Nat×List Nat×Nat) × PUnit -> Prop) (s30 : (List (Value×T) × Nat×List Nat×Nat) × PUnit)=>bR (decide (s30.1.1.length <= s30.1.2.1) && decide (s30.1.2.1 <= s30.1.2.2.2)) (sZ s30.1.1.length s30.1.2.2.1 (dA Sy.str false Sy.bool (List.map (b8 Sy.str false Sy.bool) s28.1) λ(y31 : List (iII×Bool))=>bB (List (iII×Bool) × (List (Value × T) × Nat × List Nat×Nat) × PUnit) (λ(X32 : List (iII × Bool) × (List (Value × T) × Nat × List Nat × Nat) × PUnit -> Prop) (s33 : List (iII × Bool) × (List (Value × T) × Nat × List Nat × Nat) × PUnit)=>bR (decide (s33.2.1.1.length <= s33.2.1.2.1) && decide (s33.2.1.2.1 <= s33.2.1.2.2.2)) (sZ s33.2.1.1.length s33.2.1.2.2.1 (R (pPP 0)) λ(i34:Nat)=>bR (decide (s33.2.1.1.length = s33.2.1.1.length)) (BS Sy.str false bF (qZ s33.2.1.1) (s33.2.1.2.2.1 ++ [i34]) λ(k35 : iII) (y36:Int)=>lC (Option (Nat × D)) (findD TypeDesc.string (N0 Sy.str k35) (List.map (b8 Sy.str false Sy.bool) s33.1) 0) λ(y37 : Option (Nat × D))=>dA Sy.str false Sy.bool (eJ (List.map (b8 Sy.str false Sy.bool) s33.1) y37 (Value.string k35) (D.p d8)) λ(y38 : List (iII × Bool))=>X32 (y38, (s33.2.1.1, s33.2.1.2.1, s33.2.1.2.2.1 ++ [i34], s33.2.1.1.length), ())))) (y31, (bO m4, (bO m4).length, [], (bO m4).length), ())) λ(i39:Nat)=>bR (decide (s30.1.1.length = s30.1.1.length)) (BS Sy.str false bF (qZ s30.1.1) (s30.1.2.2.1 ++ [i39]) λ(k40:iII) (y41:Int)=>gW TypeDesc.string (Value.string k40) (List.map (b8 Sy.str false Sy.bool) s28.1) false Sy.bool (X29 ((s30.1.1, s30.1.2.1, s30.1.2.2.1 ++ [i39], s30.1.1.length), ())) λ(i42:Nat) (y43:Bool)=>aC y43 (R (pPP 7)) (X29 ((s30.1.1, s30.1.2.1, s30.1.2.2.1 ++ [i39], s30.1.1.length), ()))))) ((bO m4, (bO m4).length,[], (bO m4).length), ())) λ(i44:Nat)=>bR (decide (s28.2.1.1.length = s28.2.1.1.length)) (BS Sy.str false bF (qZ s28.2.1.1) (s28.2.1.2.2.1++[i44]) λ(k45:iII) (y46:Int)=>lC (Option (Nat×D)) (findD TypeDesc.string (N0 Sy.str k45) (List.map (b8 Sy.str false Sy.bool) s28.1) 0) λ(y47 : Option (Nat×D))=>dA Sy.str false Sy.bool (eJ (List.map (b8 Sy.str false Sy.bool) s28.1) y47 (Value.string k45) (D.p d8)) λ(y48 : List (iII×Bool))=>X27 (y48, (s28.2.1.1, s28.2.1.2.1, s28.2.1.2.2.1 ++ [i44], s28.2.1.1.length), ())))) (y26, (bO m3,(bO m3).length,[], (bO m3).length), ())) λ(i49:Nat)=>bR (decide (s25.1.1.length=s25.1.1.length)) (BS Sy.str false bF (qZ s25.1.1) (s25.1.2.2.1++[i49]) λ(k50:iII) (y51:Int)=>gW TypeDesc.string (Value.string k50) (List.map (b8 Sy.str false Sy.bool) s23.1) false Sy.bool (X24 ((s25.1.1,s25.1.2.1, s25.1.2.2.1++[i49], s25.1.1.length), ())) λ(i52:Nat) (y53:Bool)=>aC y53 (R (pPP 7)) (X24 ((s25.1.1,s25.1.2.1, s25.1.2.2.1++[i49], s25.1.1.length), ()))))) ((bO m3,(bO m3).length,[], (bO m3).length), ())) λ(i54:Nat)=>bR (decide (s23.2.1.1.length=s23.2.1.1.length)) (BS Sy.str false bF (qZ s23.2.1.1) (s23.2.1.2.2.1++[i54]) λ(k55:iII) (y56:Int)=>lC (Option (Nat×D)) (findD TypeDesc.string (N0 Sy.str k55) (List.map (b8 Sy.str false Sy.bool) s23.1) 0) λ(y57:Option (Nat×D))=>dA Sy.str false Sy.bool (eJ (List.map (b8 Sy.str false Sy.bool) s23.1) y57 (Value.string k55) (D.p d8)) λ(y58:List (iII×Bool))=>X22 (y58, (s23.2.1.1,s23.2.1.2.1, s23.2.1.2.2.1++[i54], s23.2.1.1.length), ())))) (y21, (bO m2,(bO m2).length,[], (bO m2).length), ())) λ(i59:Nat)=>bR (decide (nG.1.1.length=nG.1.1.length)) (BS Sy.str false bF (qZ nG.1.1) (nG.1.2.2.1++[i59]) λ(k60:iII) (y61:Int)=>gW TypeDesc.string (Value.string k60) (List.map (b8 Sy.str false Sy.bool) s18.1) false Sy.bool (X19 ((nG.1.1,nG.1.2.1, nG.1.2.2.1++[i59],nG.1.1.length), ())) λ(i62:Nat) (y63:Bool)=>aC y63 (R (pPP 7)) (X19 ((nG.1.1,nG.1.2.1, nG.1.2.2.1++[i59],nG.1.1.length), ()))))) ((bO m2,(bO m2).length,[],(bO m2).length),())) λ(i64:Nat)=>bR (decide (s18.2.1.1.length=s18.2.1.1.length)) (BS Sy.str false bF (qZ s18.2.1.1) (s18.2.1.2.2.1++[i64]) λ(k65:iII) (y66:Int)=>lC (Option (Nat×D)) (findD TypeDesc.string (N0 Sy.str k65) (List.map (b8 Sy.str false Sy.bool) s18.1) 0) λ(y67:Option (Nat×D))=>dA Sy.str false Sy.bool (eJ (List.map (b8 Sy.str false Sy.bool) s18.1) y67 (Value.string k65) (D.p d8)) λ(y68:List (iII×Bool))=>X17 (y68, (s18.2.1.1,s18.2.1.2.1, s18.2.1.2.2.1++[i64],s18.2.1.1.length), ())))) (y16,(bO m1,(bO m1).length,[],(bO m1).length),())) λ(i69:Nat)=>bR (decide (s15.1.1.length=s15.1.1.length)) (BS Sy.str false bF (qZ s15.1.1) (s15.1.2.2.1++[i69]) λ(k70:iII) (y71:Int)=>gW TypeDesc.string (Value.string k70) [] false Sy.bool (X14 ((s15.1.1,s15.1.2.1,s15.1.2.2.1++[i69], s15.1.1.length), ())) λ(i72:Nat) (y73:Bool)=>aC y73 (R (pPP 7)) (X14 ((s15.1.1,s15.1.2.1,s15.1.2.2.1++[i69], s15.1.1.length), ()))))) ((bO m1,(bO m1).length,[],(bO m1).length),())))) (s9.1,1,()))))))
def AM4 ( a0 m1 m2 m3 m4 R):eG bY Tryz.prog ADK AVM 8 87 (BF a0 m1 m2 m3 m4) R=AEU a0 m1 m2 m3 m4 R:=by kernel_rfl
abbrev MP:=List (iII×Int)
def C3 {a b:MP} (h:bO a=bO b):a=b:=map_inj (λx y h=>by
 simp only[Prod.mk.injEq,Value.string.injEq,T.v.injEq,Value.int.injEq,true_and] at h;exact Prod.ext h.1 h.2) h
def qW {x y:aB×MP×MP×MP×MP} (h:PX x.1 x.2.1 x.2.2.1 x.2.2.2.1 x.2.2.2.2=PX y.1 y.2.1 y.2.2.1 y.2.2.2.1 y.2.2.2.2):x=y:=by
 simp only[PX,T.ref.injEq,List.cons.injEq,T.mp.injEq,and_true] at h;obtain ⟨h0,h1,h2,h3,h4⟩:=h;exact Prod.ext (Sy.dY aD _ _ h0) (Prod.ext (C3 h1) (Prod.ext (C3 h2) (Prod.ext (C3 h3) (C3 h4))))
def ADC (x y:aB×MP×MP×MP×MP) (h:BF x.1 x.2.1 x.2.2.1 x.2.2.2.1 x.2.2.2.2=BF y.1 y.2.1 y.2.2.1 y.2.2.2.1 y.2.2.2.2):x=y:=qW (List.cons.inj h).1
def nE (d:aB):Bool:=decide (64<d.2.1.length)||decide (256<d.2.2.1.length)||decide (256<d.2.2.2.1.length)||decide (64<d.2.2.2.2.1.length)||decide (256<d.2.2.2.2.2.length)
def zF (d:aB):Bool:=q7 (ids d.2.1)&&q7 (ids d.2.2.1)&&q7 (ids d.2.2.2.1)&&q7 (ids d.2.2.2.2.1)&&Y8 d.2.2.2.2.2
def BA9 (l1 l2 l3 l4:List iII):Bool:=(l2.any (VU l1))||(l3.any λx=>VU l1 x||VU l2 x)||(l4.any λx=>VU l1 x||VU l2 x||VU l3 x)
def AN5 (d:aB):Bool:=BA9 (ids d.2.1) (ids d.2.2.1) (ids d.2.2.2.1) (ids d.2.2.2.2.1)
def oM (d:aB):Int:=if nE d=true then 4 else if zF d=false then 11 else if AN5 d=true then 7 else 0
def BEU (x:aB×MP×MP×MP×MP):Bool:=decide (x.2.1=iR (ids x.1.2.1))&&decide (x.2.2.1=iR (ids x.1.2.2.1))&&decide (x.2.2.2.1=iR (ids x.1.2.2.2.1))&&decide (x.2.2.2.2=iR (ids x.1.2.2.2.2.1)) &&
 (decide (x.1.2.1.length<=140737488355328)&&decide (x.1.2.2.1.length<=140737488355328)&&decide (x.1.2.2.2.1.length<=140737488355328)&&decide (x.1.2.2.2.2.1.length<=140737488355328)&&decide (x.1.2.2.2.2.2.length<=140737488355328))
structure nP (d:aB):Prop where
 n:d.2.1.length<=140737488355328
 p:d.2.2.1.length<=140737488355328
 s:d.2.2.2.1.length<=140737488355328
 k:d.2.2.2.2.1.length<=140737488355328
 r:d.2.2.2.2.2.length<=140737488355328
def OE {x:aB×MP×MP×MP×MP}:BEU x=true↔x=(x.1,iR (ids x.1.2.1),iR (ids x.1.2.2.1),iR (ids x.1.2.2.2.1),iR (ids x.1.2.2.2.2.1))/\nP x.1:=by
 obtain ⟨d,a,b,c,e⟩:=x;simp only[BEU,ac,ah,Prod.mk.injEq,true_and];constructor
 ·rintro ⟨⟨⟨⟨rfl,rfl⟩,rfl⟩,rfl⟩,⟨⟨⟨h1,h2⟩,h3⟩,h4⟩,h5⟩;exact ⟨⟨rfl,rfl,rfl,rfl⟩,h1,h2,h3,h4,h5⟩
 ·rintro ⟨⟨rfl,rfl,rfl,rfl⟩,h1,h2,h3,h4,h5⟩;exact ⟨⟨⟨⟨rfl,rfl⟩,rfl⟩,rfl⟩,⟨⟨⟨h1,h2⟩,h3⟩,h4⟩,h5⟩
def wB (x:aB×MP×MP×MP×MP) (t:T):Option T:=match BEU x with
 | true=>some t
 | false=>none
def oT {x:aB×MP×MP×MP×MP} {t r:T} (h:wB x t=some r):x=(x.1,iR (ids x.1.2.1),iR (ids x.1.2.2.1),iR (ids x.1.2.2.2.1),iR (ids x.1.2.2.2.2.1))/\nP x.1/\r=t:=by
 unfold wB at h;split at h
 ·rename_i hc;cases h;exact ⟨(OE.1 hc).1,(OE.1 hc).2,rfl⟩
 ·cases h
def oU {d:aB} (h:nP d) (t:T):wB (d,iR (ids d.2.1),iR (ids d.2.2.1),iR (ids d.2.2.2.1),iR (ids d.2.2.2.2.1)) t=some t:=by
 unfold wB;rw[OE.2 ⟨rfl,h⟩]
def WZ (x:aB×MP×MP×MP×MP):Option T:=wB x (T.v (Value.int .i64 (oM x.1)))
noncomputable def NO:List T->Option (T):=gA (λ(x:aB×List aE×List aE×List aE×List aE)=>BF x.1 x.2.1 x.2.2.1 x.2.2.2.1 x.2.2.2.2) WZ
def APK (a0:aB) (m1:List aE) (m2:List aE) (m3:List aE) (m4:List aE):NO (BF a0 m1 m2 m3 m4)=WZ (a0,m1,m2,m3,m4):=fN (A:=(λ(x:aB×List aE×List aE×List aE×List aE)=>BF x.1 x.2.1 x.2.2.1 x.2.2.2.1 x.2.2.2.2)) ADC (a0,m1,m2,m3,m4)
def A71 (h:∀ (a0:aB) (m1:List aE) (m2:List aE) (m3:List aE) (m4:List aE) (r:T),WZ (a0,m1,m2,m3,m4)=some r->(∀ t∈BF a0 m1 m2 m3 m4,Bd t)->AEU a0 m1 m2 m3 m4 (λy=>y=r)):aP Tryz.prog 87 NO :=
 cQ (E:=ADK) (Hs:=AVM) ATN aY a7 (aO rfl) 8 ⟨_,_,Tryz.func87,rfl⟩ λx r h1 h2=>by
  rw[AM4];exact h x.1 x.2.1 x.2.2.1 x.2.2.2.1 x.2.2.2.2 r h1 h2
def J2 {A:List T} {b:Bool} (h:wH A=some (pPR b)) (K:Bool->Prop) (hk:K b):aJ [(false,Sy.bool)] (wH A) K:=aF (s:=[(false,Sy.bool)]) (y:=b) h hk
def A6L:aP Tryz.prog 87 NO:=A71 λd m1 m2 m3 m4 r h hb=>by
 obtain ⟨hx,hs,rfl⟩:=oT h;simp only[Prod.mk.injEq,true_and] at hx;obtain ⟨rfl,rfl,rfl,rfl⟩:=hx;clear h;have is:∀ {n:Int},oM d=n->T.v (.int .i64 n)=T.v (.int .i64 (oM d)):=λh=>by rw[h]
 have long:nE d=true->oM d=4:=λh=>by unfold oM;rw[if_pos h]
 unfold AEU i7 f6 RK IR IO GT FS d8 d6 bF;refine cA (λh=>is (long (by rw[ae] at h;simp only[nE,Bool.or_eq_true,ah];omega))) λl1=>?_;refine cA (λh=>is (long (by rw[ae] at h;simp only[nE,Bool.or_eq_true,ah];omega))) λl2=>?_;refine cA (λh=>is (long (by rw[ae] at h;simp only[nE,Bool.or_eq_true,ah];omega))) λl3=>?_;refine cA (λh=>is (long (by rw[ae] at h;simp only[nE,Bool.or_eq_true,ah];omega))) λl4=>?_;refine cA (λh=>is (long (by rw[ae] at h;simp only[nE,Bool.or_eq_true,ah];omega))) λl5=>?_;rw[ae] at l1 l2 l3 l4 l5;have notLong:nE d=false:=by simp only[nE,Bool.or_eq_false_iff,decide_eq_false_iff_not];omega
 refine J2 (by rw[ae];exact BCV hs.n) _ ?_;have step:∀ {b c:Bool} {A:List T} {Z:Bool×PUnit->Prop},wH A=some (T.v (.bool c))->Z (b&&c,())->rU (Bool×PUnit) (λ(X:Bool×PUnit->Prop)=>aC b (aJ [(false,Sy.bool)] (wH A) λ(y2:Bool)=>X (y2,())) (X (false,()))) Z:=λ{b c A Z} hA hZ=>by
  rw[zG];cases b with
  | true=>rw[jY];exact J2 hA _ hZ
  | false=>rw[o6];exact hZ
 refine step (by rw[ae];exact BCW hs.p) ?_;refine step (by rw[ae];exact BCX hs.s) ?_;refine step (by rw[ae];exact BCY hs.k) ?_;refine bK d.2.2.2.2.2.length (λk s=>∃ b,s=(b,((k+1:Nat):Int),())/\(b&&Y8 (d.2.2.2.2.2.drop k))=zF d) ⟨_,rfl,by rw[List.drop_zero];rfl⟩ ?_;rintro X k s hk ⟨b,rfl,he⟩ hX;dsimp only;have hr:=hs.r;have hw:i64.wrap (((k+1:Nat):Int)+1)=((k+1+1:Nat):Int):=bG _ (by omega) (by omega);have hw1:i64.wrap (((k+1:Nat):Int)-1)=((k:Nat):Int):=by rw[bG _ (by omega) (by omega)];omega
 refine cA (λhlt=>?_) λhge=>?_
 ·have hlt:k+1<d.2.2.2.2.2.length:=by rw[ae] at hlt;omega
  rw[hw1,bD (r:=aZ) (show k<d.2.2.2.2.2.length by omega),bD (r:=aZ) hlt,hw];rw[ANN hlt] at he;have go:∀ c,(b&&ltN d.2.2.2.2.2[k] d.2.2.2.2.2[k+1])=c->X (c,((k+1+1:Nat):Int),()):=λc hc=>hX _ (by omega) ⟨c,rfl,by rw[<-hc,Bool.and_assoc];exact he⟩;generalize d.2.2.2.2.2[k]=u at go;generalize d.2.2.2.2.2[k+1]=v at go;cases b with
  | false=>rw[o6];exact go _ rfl
  | true =>
   rw[jY];simp only[Bool.true_and,ltN] at go;refine cA (λh=>go _ (by simp[h])) λh1=>?_;refine cA (λh2=>?_) λh2=>go _ (by simp[h1,h2]);refine vA (λh3=>go _ (by simp[h2,h3])) λh3=>?_;refine cA (λh4=>go _ (by rw[aj h1,ai h2,h3,ai h4];rfl)) λh4=>go _ (by rw[aj h1,ai h2,h3,aj h4];rfl)
 ·rw[ae] at hge;rw[AWL (by omega),Bool.and_true] at he;refine fK (λh=>is (by unfold oM;rw[notLong,if_neg (by simp),<-he,h];rfl)) λh=>?_;have dup:AN5 d=true->T.v (.int .i64 7)=T.v (.int .i64 (oM d)):=λh7=>is (by unfold oM;rw[notLong,if_neg (by simp),<-he,h,if_neg (by simp),if_pos h7]);have dup':(∃ i,∃ h:i<(iR (ids d.2.2.1)).length,(iR (ids d.2.2.1))[i].1∈ids d.2.1)\/(∃ i,∃ h:i<(iR (ids d.2.2.2.1)).length,(iR (ids d.2.2.2.1))[i].1∈ids d.2.1\/(iR (ids d.2.2.2.1))[i].1∈ids d.2.2.1)\/(∃ i,∃ h:i<(iR (ids d.2.2.2.2.1)).length,((iR (ids d.2.2.2.2.1))[i].1∈ids d.2.1\/(iR (ids d.2.2.2.2.1))[i].1∈ids d.2.2.1)\/(iR (ids d.2.2.2.2.1))[i].1∈ids d.2.2.2.1)->AN5 d=true:=by
   intro h;simp only[AN5,BA9,Bool.or_eq_true,List.any_eq_true,EK];rcases h with ⟨i,hi,h⟩|⟨i,hi,h⟩|⟨i,hi,h⟩
   ·exact .inl (.inl ⟨_,kY.1 ⟨i,hi,rfl⟩,h⟩)
   ·exact .inl (.inr ⟨_,kY.1 ⟨i,hi,rfl⟩,h⟩)
   ·exact .inr ⟨_,kY.1 ⟨i,hi,rfl⟩,h⟩
  have m1:=λid=>(@kY (ids d.2.1) id)
  refine A5W (m:=iR (ids d.2.1)) (es:=[]) (R7:=T.v (.int .i64 7)=T.v (.int .i64 (oM d))) Seen.nil (λh=>by obtain ⟨_,_,h⟩:=h;exact h.elim) λ_=>?_;refine A5J (m:=iR (ids d.2.1)) (es:=[]) Seen.nil λe1 rs1 s1=>?_;have s1:=s1.congr (S':=λid=>id∈ids d.2.1) λid=>by rw[kY];simp
  refine A5W (m:=iR (ids d.2.2.1)) s1 (λh=>dup (dup' (.inl h))) λn1=>?_;refine A5J (m:=iR (ids d.2.2.1)) s1 λe2 rs2 s2=>?_;have s2:=s2.congr (S':=λid=>id∈ids d.2.1\/id∈ids d.2.2.1) λid=>by rw[kY]
  refine A5W (m:=iR (ids d.2.2.2.1)) s2 (λh=>dup (dup' (.inr (.inl h)))) λn2=>?_;refine A5J (m:=iR (ids d.2.2.2.1)) s2 λe3 rs3 s3=>?_;have s3:=s3.congr (S':=λid=>(id∈ids d.2.1\/id∈ids d.2.2.1)\/id∈ids d.2.2.2.1) λid=>by rw[kY]
  refine A5W (m:=iR (ids d.2.2.2.2.1)) s3 (λh=>dup (dup' (.inr (.inr h)))) λn3=>?_;refine A5J (m:=iR (ids d.2.2.2.2.1)) s3 λe4 rs4 s4=>is ?_;have nd:AN5 d=false:=by
   rw[Bool.eq_false_iff];intro h;simp only[AN5,BA9,Bool.or_eq_true,List.any_eq_true,EK] at h;rcases h with (⟨x,hx,h⟩|⟨x,hx,h⟩)|⟨x,hx,h⟩
   ·obtain ⟨i,hi,rfl⟩:=kY.2 hx;exact n1 i hi h
   ·obtain ⟨i,hi,rfl⟩:=kY.2 hx;exact n2 i hi h
   ·obtain ⟨i,hi,rfl⟩:=kY.2 hx;exact n3 i hi h
  unfold oM;rw[notLong,if_neg (by simp),<-he,h,if_neg (by simp),nd,if_neg (by simp)]
end Go.Pv
namespace Go.Pv
open Go Go.Proofs IntKind
def BHX:List T->Option T:=λ_=>none
variable {P:Program}
def aP.nil {f:FuncId} (h:∃ fn,P.funcs[f]? = some fn/\(fn.name == "runtime.NumGoroutine")=false/\fn.body.isNone=false):aP P f BHX:=⟨h,λ_ _ _ _ _ _ _ _ h=>by cases h⟩
def ABZ (es:MP):qZ (bO es)=List.map (b8 Sy.str false (Sy.int IntKind.i64)) es:=by
 unfold qZ bO;rw[List.map_map];rfl
def SH {α:Type} (id:iII):∀ (l:List (iII×α)) (i:Nat) (es:MP),(∃ v,fI es id=some v/\fI (GW (ids l) i es) id=some v)\/(fI es id=none/\fI (GW (ids l) i es) id=none/\l.find? (λs=>decide (s.1=id))=none) \/
  (fI es id=none/\∃ k,∃ h:k<l.length,fI (GW (ids l) i es) id=some ((i+k:Nat):Int)/\l.find? (λs=>decide (s.1=id))=some l[k])
 | [],i,es=>by
  cases h:fI es id with
  | none=>exact .inr (.inl ⟨rfl,by simpa [ids,GW] using h,rfl⟩)
  | some v=>exact .inl ⟨v,rfl,by simpa [ids,GW] using h⟩
 | a::l,i,es=>by
  have hs:ids (a::l)=a.1::ids l:=rfl;rw[hs];simp only[GW];have ih:=SH id l (i+1) (match fI es a.1 with|none=>nK es a.1 (i:Int)|some _=>es);by_cases ha:a.1=id
  ·subst ha;cases hc:fI es a.1 with
   | some v =>
    simp only[hc] at ih ⊢;rcases ih with ⟨v',h1,h2⟩|⟨h1,_⟩|⟨h1,_⟩
    ·exact .inl ⟨v',h1,h2⟩
    ·cases h1
    ·cases h1
   | none =>
    simp only[hc] at ih ⊢;have hg:fI (nK es a.1 (i:Int)) a.1=some (i:Int):=by rw[xR];simp
    rw[hg] at ih;rcases ih with ⟨v',h1,h2⟩|⟨h1,_⟩|⟨h1,_⟩
    ·cases h1;exact .inr (.inr ⟨by first|rfl|trivial,0,by simp,by simpa using h2,by simp⟩)
    ·cases h1
    ·cases h1
  ·have hg:fI (match fI es a.1 with|none=>nK es a.1 (i:Int)|some _=>es) id=fI es id:=by
    cases hc:fI es a.1 with
    | none=>simp only[xR,ha,if_false]
    | some v=>rfl
   rw[hg] at ih;rcases ih with ⟨v',h1,h2⟩|⟨h1,h2,h3⟩|⟨h1,k,hk,h2,h3⟩
   ·exact .inl ⟨v',h1,h2⟩
   ·exact .inr (.inl ⟨h1,h2,by rw[List.find?_cons_of_neg (by simpa using ha)];exact h3⟩)
   ·exact .inr (.inr ⟨h1,k+1,by simpa using hk,h2.trans (by congr 2;omega),by rw[List.find?_cons_of_neg (by simpa using ha)];simpa using h3⟩)
variable {α:Type}
def DP (id:iII) (l:List (iII×α)):(fI (iR (ids l)) id=none/\l.find? (λs=>decide (s.1=id))=none)\/(∃ k,∃ h:k<l.length,fI (iR (ids l)) id=some (k:Int)/\l.find? (λs=>decide (s.1=id))=some l[k]):=by
 rcases SH id l 0 [] with ⟨v,h,_⟩|⟨_,h1,h2⟩|⟨_,k,hk,h1,h2⟩
 ·cases h
 ·exact .inl ⟨h1,h2⟩
 ·exact .inr ⟨k,hk,h1.trans (by rw[Nat.zero_add]),h2⟩
variable {A:Prop}
def ixK {id:iII} {l:List (iII×α)} {B:Nat->Int->Prop} (hA:l.find? (λs=>decide (s.1=id))=none->A) (hB:∀ i k (h:k<l.length),l.find? (λs=>decide (s.1=id))=some l[k]->B i (k:Int)) :
  gW TypeDesc.string (Value.string id) (qZ (bO (iR (ids l)))) false (Sy.int IntKind.i64) A B:=by
 rw[ABZ];refine yU (r:=.int .i64) (λh=>hA ?_) λi v h=>?_
 ·rcases DP id l with ⟨_,h2⟩|⟨k,hk,h1,_⟩
  ·exact h2
  ·rw[h] at h1;cases h1
 ·rcases DP id l with ⟨h1,_⟩|⟨k,hk,h1,h2⟩
  ·rw[h] at h1;cases h1
  ·rw[h] at h1;cases h1;exact hB i k hk h2
def mK (a0:aB) (m1:List aE) (m2:List aE) (m3:List aE) (m4:List aE) (a5:iII):List T:=[PX a0 m1 m2 m3 m4,pPQ a5]
noncomputable def KV:Env:=Env.of []
def YV:FuncId->Hint:=b6 260 [(3,.inv [.val 1 false .str,.own 6 1 .str,.val 9 false (.int .i64)])] (λ_=>bA)
def AEF:aV Tryz.prog KV:=.nil _
def LR(a0:aB)(m1:List aE)(m2:List aE)(m3:List aE)(m4:List aE)(a5:iII)(R:T->Prop):Prop:=bB (iII×List iII×Int×PUnit) (λX0 s1=>aC (decide (s1.2.2.1<65)) (gW TypeDesc.string (Value.string s1.1) (qZ (bO m1)) false bF (R (T.b7 [T.sl false [],pPR false])) λ(i2:Nat) (y3:Int)=>aR bC (GT a0) y3 λ(y4:bQ)=>bR (decide (((List.map Sy.str.enc s1.2.1).length+1)*16<=140737488355328) && decide ((List.map Sy.str.enc s1.2.1).length+1<=140737488355328)) (aC (decide (y4.2.1=1)) (R (T.b7 [T.sl false (List.map Sy.str.enc s1.2.1++[[pPQ s1.1]]), pPR true])) (dM Sy.str (List.map Sy.str.enc s1.2.1++[[pPQ s1.1]]) λ(y5:List iII)=>X0 (y4.2.2,y5,i64.wrap (s1.2.2.1+1),())))) (R (T.b7 [T.sl false [],pPR false]))) (a5,[],0,())
def YN ( a0 m1 m2 m3 m4 a5 R):eG bY Tryz.prog KV YV 8 128 (mK a0 m1 m2 m3 m4 a5) R=LR a0 m1 m2 m3 m4 a5 R:=by kernel_rfl
def CU (x y:aB×MP×MP×MP×MP×iII) (h:mK x.1 x.2.1 x.2.2.1 x.2.2.2.1 x.2.2.2.2.1 x.2.2.2.2.2=mK y.1 y.2.1 y.2.2.1 y.2.2.2.1 y.2.2.2.2.1 y.2.2.2.2.2):x=y:=by
 obtain ⟨h1,h2⟩:=List.cons.inj h;have:=qW (x:=(x.1,x.2.1,x.2.2.1,x.2.2.2.1,x.2.2.2.2.1)) (y:=(y.1,y.2.1,y.2.2.1,y.2.2.2.1,y.2.2.2.2.1)) h1;simp only[List.cons.injEq,T.v.injEq,Value.string.injEq,and_true] at h2;simp only[Prod.mk.injEq] at this;obtain ⟨e1,e2,e3,e4,e5⟩:=this;exact Prod.ext e1 (Prod.ext e2 (Prod.ext e3 (Prod.ext e4 (Prod.ext e5 h2))))
def IB (x:aB×MP×MP×MP×MP×iII):Option T:=wB (x.1,x.2.1,x.2.2.1,x.2.2.2.1,x.2.2.2.2.1) (Sh.enc [(false,.li .str),(false,.bool)] (up x.1 x.2.2.2.2.2))
noncomputable def kW:List T->Option (T):=gA (λ(x:aB×List aE×List aE×List aE×List aE×iII)=>mK x.1 x.2.1 x.2.2.1 x.2.2.2.1 x.2.2.2.2.1 x.2.2.2.2.2) IB
def ABC (a0:aB) (m1:List aE) (m2:List aE) (m3:List aE) (m4:List aE) (a5:iII):kW (mK a0 m1 m2 m3 m4 a5)=IB (a0,m1,m2,m3,m4,a5):=fN (A:=(λ(x:aB×List aE×List aE×List aE×List aE×iII)=>mK x.1 x.2.1 x.2.2.1 x.2.2.2.1 x.2.2.2.2.1 x.2.2.2.2.2)) CU (a0,m1,m2,m3,m4,a5)
def AQ5 (h:∀ (a0:aB) (m1:List aE) (m2:List aE) (m3:List aE) (m4:List aE) (a5:iII) (r:T),IB (a0,m1,m2,m3,m4,a5)=some r->(∀ t∈mK a0 m1 m2 m3 m4 a5,Bd t)->LR a0 m1 m2 m3 m4 a5 (λy=>y=r)):aP Tryz.prog 128 kW :=
 cQ (E:=KV) (Hs:=YV) AEF aY a7 (aO rfl) 8 ⟨_,_,Tryz.func128,rfl⟩ λx r h1 h2=>by
  rw[YN];exact h x.1 x.2.1 x.2.2.1 x.2.2.2.1 x.2.2.2.2.1 x.2.2.2.2.2 r h1 h2
def RL:aP Tryz.prog 128 kW:=AQ5 λd m1 m2 m3 m4 id0 r h hb=>by
 obtain ⟨hx,hs,rfl⟩:=oT h;simp only[Prod.mk.injEq,true_and] at hx;obtain ⟨rfl,rfl,rfl,rfl⟩:=hx;clear h;unfold LR GT bF;refine bK 65 (λk s=>∃ id' l',s=(id',l',(k:Int),())/\l'.length=k/\upF d (65-k) id' l'=up d id0) ⟨id0,[],rfl,rfl,rfl⟩ ?_;rintro X k s hk ⟨id',l',rfl,hl,hu⟩ hX;dsimp only;have stop:up d id0=([],false)->T.b7 [T.sl false [],T.v (.bool false)]=Sh.enc [(false,.li .str),(false,.bool)] (up d id0):=λh=>by rw[h];rfl
 refine cA (λhlt=>?_) λhge=>stop ?_
 ·have hlt:k<65:=by omega
  obtain ⟨m,hm⟩:∃ m,65-k=m+1:=⟨64-k,by omega⟩
  rw[hm] at hu;simp only[upF] at hu;refine ixK (λhn=>stop ?_) λi j hj hn=>?_
  ·have hn:iD d id'=none:=hn;rw[hn] at hu;exact hu.symm
  ·have hn:iD d id'=some d.2.1[j]:=hn;simp only[hn] at hu;rw[bD (r:=bC) hj,AFJ (by omega),MO];refine cA (λh1=>?_) λh1=>?_
   ·rw[if_pos h1] at hu;rw[<-hu,AXJ];rfl
   ·rw[if_neg h1] at hu;exact hX _ hlt ⟨_,_,by rw[show i64.wrap ((k:Int)+1)=((k+1:Nat):Int) from bG _ (by omega) (by omega)],by simp[hl],by rw[<-hu];congr 1;omega⟩
 ·have:65-k=0:=by omega
  rw[this] at hu;exact hu.symm
def tZ (d:aB) (n:bQ):Int:=if sH n.1=false then 6 else if ¬ n.2.1=1/\¬ n.2.1=2 then 10 else if n.2.1=1/\¬ n.2.2 = { data:=#[] } then 2 else if n.2.1=2/\(iD d n.2.2).isNone=true then 8 else 0
def A7O (d:aB):Bool:=d.2.1.any λn=>!(up d n.1).2
def AW8 (d:aB):Bool:=d.2.1.any λn=>decide (8<(up d n.1).1.length)
def lV (d:aB):Int:=if cH (tZ d) d.2.1=0 then (if A7O d=true then 20 else if AW8 d=true then 13 else 0) else cH (tZ d) d.2.1
def qC (a0:aB) (m1:List aE) (m2:List aE) (m3:List aE) (m4:List aE):List T:=[PX a0 m1 m2 m3 m4]
noncomputable def KQ:Env:=Env.of [(64,.pure eH),(128,.pure kW)]
def YQ:FuncId->Hint:=b6 88 [(2,.inv [.val 20 false (.int .i64)]),(16,.inv [.val 7 false .bool,.val 74 false (.int .i64)])] (λ_=>bA)
def ADR:aV Tryz.prog KQ:=.cons C8 (.cons RL (.nil _))
def m9(R:T->Prop):Prop:=R (pPP 8)
def BJO(R:T->Prop):Prop:=R (pPP 2)
def BJP:T:=pPP 10
def BJR(R:T->Prop):Prop:=R (pPP 6)
def BJV(R:T->Prop):Prop:=R (pPP 0)
def BJX(y2:bQ)(R:T->Prop)(X0:Int×PUnit->Prop)(s1:Int×PUnit):Prop:=aC (decide (y2.2.1=1)) (aC (!decide (y2.2.2 = {data:=#[]})) (BJO R) (aC (decide (y2.2.1=2)) (f9 X0 s1) (f9 X0 s1))) (aC (decide (y2.2.1=2)) (f9 X0 s1) (f9 X0 s1))
def BJZ(y2:bQ)(R:T->Prop)(X0:Int×PUnit->Prop)(s1:Int×PUnit):Prop:=aC (decide (y2.2.1=1)) (aC (!decide (y2.2.2 = {data:=#[]})) (BJO R) (aC (decide (y2.2.1=2)) (m9 R) (f9 X0 s1))) (aC (decide (y2.2.1=2)) (m9 R) (f9 X0 s1))
def KY(a0:aB)(m1:List aE)(m2:List aE)(m3:List aE)(m4:List aE)(R:T->Prop):Prop:=bB (Int×PUnit) (λX0 s1=>aC (decide (s1.1<(↑(GT a0).length:Int))) (aR bC (GT a0) s1.1 λ(y2:bQ)=>gW TypeDesc.string (Value.string y2.2.2) (qZ (bO m1)) false bF (aJ d6 (eH [pPQ y2.1]) λ(y6:Bool)=>aC (!y6) (BJR R) (aC (!decide (y2.2.1=1)) (aC (!decide (y2.2.1=2)) (R BJP) (BJZ y2 R X0 s1)) (BJZ y2 R X0 s1))) λ(i3:Nat) (y4:Int)=>aJ d6 (eH [pPQ y2.1]) λ(y5:Bool)=>aC (!y5) (BJR R) (aC (!decide (y2.2.1=1)) (aC (!decide (y2.2.1=2)) (R BJP) (BJX y2 R X0 s1)) (BJX y2 R X0 s1))) (bB (Bool×Int×PUnit) (λX7 s8=>aC (decide (s8.2.1<(↑(GT a0).length:Int))) (aR bC (GT a0) s8.2.1 λ(y9:bQ)=>aJ [(false,Sy.str.li),(false,Sy.bool)] (kW [T.ref [T.ref (i7 a0), T.mp (bO m1),T.mp (bO m2),T.mp (bO m3), T.mp (bO m4)], pPQ y9.1]) λ(y10:List iII×Bool)=>aC (!y10.2) (R (pPP 20)) (aC s8.1 (X7 (true,i64.wrap (s8.2.1+1),())) (X7 (decide (8<(↑(List.map Sy.str.enc y10.1).length:Int)), i64.wrap (s8.2.1+1),())))) (aC s8.1 (R (pPP 13)) (BJV R))) (false,0,()))) (0,())
def YI ( a0 m1 m2 m3 m4 R):eG bY Tryz.prog KQ YQ 8 88 (qC a0 m1 m2 m3 m4) R=KY a0 m1 m2 m3 m4 R:=by kernel_rfl
def TL (x y:aB×MP×MP×MP×MP) (h:qC x.1 x.2.1 x.2.2.1 x.2.2.2.1 x.2.2.2.2=qC y.1 y.2.1 y.2.2.1 y.2.2.2.1 y.2.2.2.2):x=y:=qW (List.cons.inj h).1
def HZ (x:aB×MP×MP×MP×MP):Option T:=wB x (T.v (Value.int .i64 (lV x.1)))
noncomputable def xC:List T->Option (T):=gA (λ(x:aB×List aE×List aE×List aE×List aE)=>qC x.1 x.2.1 x.2.2.1 x.2.2.2.1 x.2.2.2.2) HZ
def Z9 (a0:aB) (m1:List aE) (m2:List aE) (m3:List aE) (m4:List aE):xC (qC a0 m1 m2 m3 m4)=HZ (a0,m1,m2,m3,m4):=fN (A:=(λ(x:aB×List aE×List aE×List aE×List aE)=>qC x.1 x.2.1 x.2.2.1 x.2.2.2.1 x.2.2.2.2)) TL (a0,m1,m2,m3,m4)
def AQH (h:∀ (a0:aB) (m1:List aE) (m2:List aE) (m3:List aE) (m4:List aE) (r:T),HZ (a0,m1,m2,m3,m4)=some r->(∀ t∈qC a0 m1 m2 m3 m4,Bd t)->KY a0 m1 m2 m3 m4 (λy=>y=r)):aP Tryz.prog 88 xC :=
 cQ (E:=KQ) (Hs:=YQ) ADR aY a7 (aO rfl) 8 ⟨_,_,Tryz.func88,rfl⟩ λx r h1 h2=>by
  rw[YI];exact h x.1 x.2.1 x.2.2.1 x.2.2.2.1 x.2.2.2.2 r h1 h2
def IW {d:aB} (hs:nP d) (id:iII):kW (mK d (iR (ids d.2.1)) (iR (ids d.2.2.1)) (iR (ids d.2.2.2.1)) (iR (ids d.2.2.2.2.1)) id)=some (Sh.enc [(false,.li .str),(false,.bool)] (up d id)):=by
 rw[ABC];exact oU hs _
def nU (s:iII) (K:Bool->Prop):aJ [(false,Sy.bool)] (eH [pPQ s]) K=K (sH s):=by
 rw[show eH [pPQ s]=E4 s from RY];exact ACN _ K
def AOL:aP Tryz.prog 88 xC:=AQH λd m1 m2 m3 m4 r h hb=>by
 obtain ⟨hx,hs,rfl⟩:=oT h;simp only[Prod.mk.injEq,true_and] at hx;obtain ⟨rfl,rfl,rfl,rfl⟩:=hx;clear h;have is:∀ {n:Int},lV d=n->T.v (.int .i64 n)=T.v (.int .i64 (lV d)):=λh=>by rw[h]
 unfold KY BJZ BJX BJV i7 f9 BJR BJP BJO m9 RK IR IO GT FS d6 bF;refine qJ (r:=bC) (tZ d) hs.n (λX s y hy hok hbad=>?_) λh0=>?_
 ·have bad:∀ {n:Int},n≠0->tZ d y=n->T.v (.int .i64 n)=T.v (.int .i64 (lV d)):=λhn h=>is (by
   have:=hbad (by rw[h];exact hn);unfold lV;rw[if_neg (by rw[this,h];exact hn),this,h])
  have tail:∀ {Z2 Z:Prop},sH y.1=true->(y.2.1=2->Z2)->(tZ d y=0->Z) ->
   aC (!decide (y.2.1=1))
        (aC (!decide (y.2.1=2)) (T.v (.int .i64 10)=T.v (.int .i64 (lV d)))
         (aC (decide (y.2.1=1))
          (aC (!decide (y.2.2 = { data:=#[] })) (T.v (.int .i64 2)=T.v (.int .i64 (lV d)))
           (aC (decide (y.2.1=2)) Z2 Z))
          (aC (decide (y.2.1=2)) Z2 Z)))
        (aC (decide (y.2.1=1))
         (aC (!decide (y.2.2 = { data:=#[] })) (T.v (.int .i64 2)=T.v (.int .i64 (lV d)))
          (aC (decide (y.2.1=2)) Z2 Z))
         (aC (decide (y.2.1=2)) Z2 Z)):=by
   intro Z2 Z hid h2 h1;refine kX (λg1=>?_) λg1=>?_
   ·refine kX (λg2=>bad (by decide) (by unfold tZ;rw[if_neg (by simp[hid]),if_pos ⟨g1,g2⟩])) λg2=>?_;refine cA (λh=>absurd h g1) λ_=>?_;exact cA (λ_=>h2 g2) λh=>absurd g2 h
   ·refine cA (λ_=>?_) λh=>absurd g1 h;refine kX (λg3=>bad (by decide) (by unfold tZ;rw[if_neg (by simp[hid]),if_neg (by simp[g1]),if_pos ⟨g1,g3⟩])) λg3=>?_;exact cA (λh=>by rw[g1] at h;cases h) λh=>h1 (by unfold tZ;rw[if_neg (by simp[hid]),if_neg (by simp[g1]),if_neg (by simp[g3]),if_neg (by simp[h])])
  refine ixK (λhn=>?_) λi j hj hn=>?_
  ·have hn:iD d y.2.2=none:=hn;rw[nU];refine fK (λhid=>bad (by decide) (by unfold tZ;rw[if_pos hid])) λhid=>?_;refine tail hid (λh2=>bad (by decide) ?_) λh0=>hok h0;unfold tZ;rw[if_neg (by simp[hid]),if_neg (by simp[h2]),if_neg (by simp[h2]),if_pos ⟨h2,by rw[hn];rfl⟩]
  ·have hn:iD d y.2.2=some d.2.1[j]:=hn;rw[nU];refine fK (λhid=>bad (by decide) (by unfold tZ;rw[if_pos hid])) λhid=>?_;refine tail hid (λh2=>hok ?_) λh0=>hok h0;unfold tZ;rw[if_neg (by simp[hid]),if_neg (by simp[h2]),if_neg (by simp[h2]),if_neg (by simp[hn])]
 ·have hn:d.2.1.length<=140737488355328:=hs.n;refine bK d.2.1.length (λk s=>s=((d.2.1.take k).any (λn=>decide (8<(up d n.1).1.length)),(k:Int),())/\∀ n∈d.2.1.take k,(up d n.1).2=true) ⟨rfl,by simp⟩ ?_;rintro X k s hk ⟨rfl,hall⟩ hX;dsimp only;refine cA (λhlt=>?_) λhge=>?_
  ·rw[ae] at hlt;have hlt:k<d.2.1.length:=by omega
   rw[bD (r:=bC) hlt];refine aF (s:=[(false,.li .str),(false,.bool)]) (IW hs d.2.1[k].1) ?_;have ht:d.2.1.take (k+1)=d.2.1.take k++[d.2.1[k]]:=List.take_succ_eq_append_getElem hlt;have hw:i64.wrap ((k:Int)+1)=((k+1:Nat):Int):=bG _ (by omega) (by omega);refine fK (λhu=>is ?_) λhu=>?_
   ·unfold lV;rw[if_pos h0,if_pos (show A7O d=true from List.any_eq_true.2 ⟨_,ak hlt,by rw[hu];rfl⟩)]
   ·have hall':∀ n∈d.2.1.take (k+1),(up d n.1).2=true:=λn hm=>by
     rw[ht] at hm;rcases List.mem_append.1 hm with h|h
     ·exact hall n h
     ·simp at h;subst h;exact hu
    refine vA (λhd=>?_) λhd=>?_
    ·refine hX _ hlt ⟨?_,hall'⟩;rw[hw,ht,List.any_append,hd];rfl
    ·refine hX _ hlt ⟨?_,hall'⟩;rw[hw,ht,List.any_append,hd];simp only[ae,List.any_cons,List.any_nil,Bool.or_false,Bool.false_or,Prod.mk.injEq,and_true]
     congr 1
     exact propext ⟨λh=>by omega,λh=>by omega⟩
  ·rw[ae] at hge;have:k=d.2.1.length:=by omega
   subst this;rw[List.take_length] at hall ⊢;have hnu:A7O d=false:=by
    rw[Bool.eq_false_iff];intro h;obtain ⟨n,hm,h⟩:=List.any_eq_true.1 h;rw[hall n hm] at h;cases h
   refine vA (λh=>is ?_) λh=>is ?_
   ·unfold lV;rw[if_pos h0,hnu,if_neg (by simp),if_pos (show AW8 d=true from h)]
   ·unfold lV;rw[if_pos h0,hnu,if_neg (by simp),if_neg (by rw[show AW8 d=false from h];simp)]
end Go.Pv
namespace Go.Pv
open Go Go.Proofs IntKind
def wE (d:aB) (s:bT):Int:=if sH s.1=false\/sH s.2.1=false\/sH s.2.2.1=false then 6 else if s.2.1=s.2.2.1 then 2 else if ¬ s.2.2.2.1=1/\¬ s.2.2.2.1=2 then 10 else if s.2.2.2.2.1<1\/32768<s.2.2.2.2.1\/s.2.2.2.2.2<1\/3<s.2.2.2.2.2 then 9 else if (partOf d s.2.1).isNone=true\/(partOf d s.2.2.1).isNone=true then 8 else 0
def qD (a0:aB) (m1:List aE) (m2:List aE) (m3:List aE) (m4:List aE):List T:=[PX a0 m1 m2 m3 m4]
noncomputable def KR:Env:=Env.of [(64,.pure eH)]
def YR:FuncId->Hint:=b6 90 [(2,.inv [.val 17 false (.int .i64)])] (λ_=>bA)
def ADS:aV Tryz.prog KR:=.cons C8 (.nil _)
def t7(R:T->Prop):Prop:=R (pPP 9)
def BJN(y2:bT)(R:T->Prop):Prop:=aC (decide (y2.2.2.2.2.1<1)) (t7 R) (aC (decide (32768<y2.2.2.2.2.1)) (t7 R) (aC (decide (y2.2.2.2.2.2<1)) (t7 R) (aC (decide (3<y2.2.2.2.2.2)) (t7 R) (m9 R))))
def f8(y2:bT)(R:T->Prop):Prop:=aJ d6 (eH [pPQ y2.1]) λ(y15:Bool)=>aC (!y15) (BJR R) (aJ d6 (eH [pPQ y2.2.1]) λ(y16:Bool)=>aC (!y16) (BJR R) (aJ d6 (eH [pPQ y2.2.2.1]) λ(y17:Bool)=>aC (!y17) (BJR R) (aC (decide (y2.2.1=y2.2.2.1)) (BJO R) (aC (!decide (y2.2.2.2.1=1)) (aC (!decide (y2.2.2.2.1=2)) (R BJP) (BJN y2 R)) (BJN y2 R)))))
def BJW(y2:bT)(R:T->Prop)(X0:Int×PUnit->Prop)(s1:Int×PUnit):Prop:=aC (decide (y2.2.2.2.2.1<1)) (t7 R) (aC (decide (32768<y2.2.2.2.2.1)) (t7 R) (aC (decide (y2.2.2.2.2.2<1)) (t7 R) (aC (decide (3<y2.2.2.2.2.2)) (t7 R) (f9 X0 s1))))
def KZ(a0:aB)(m1:List aE)(m2:List aE)(m3:List aE)(m4:List aE)(R:T->Prop):Prop:=bB (Int×PUnit) (λX0 s1=>aC (decide (s1.1<(↑(IO a0).length:Int))) (aR bE (IO a0) s1.1 λ(y2:bT)=>gW TypeDesc.string (Value.string y2.2.1) (qZ (bO m2)) false bF (gW TypeDesc.string (Value.string y2.2.2.1) (qZ (bO m2)) false bF (f8 y2 R) λ(i13:Nat) (y14:Int)=>f8 y2 R) λ(i3:Nat) (y4:Int)=>gW TypeDesc.string (Value.string y2.2.2.1) (qZ (bO m2)) false bF (f8 y2 R) λ(i5:Nat) (y6:Int)=>aJ d6 (eH [pPQ y2.1]) λ(y7:Bool)=>aC (!y7) (BJR R) (aJ d6 (eH [pPQ y2.2.1]) λ(y8:Bool)=>aC (!y8) (BJR R) (aJ d6 (eH [pPQ y2.2.2.1]) λ(y9:Bool)=>aC (!y9) (BJR R) (aC (decide (y2.2.1=y2.2.2.1)) (BJO R) (aC (!decide (y2.2.2.2.1=1)) (aC (!decide (y2.2.2.2.1=2)) (R BJP) (BJW y2 R X0 s1)) (BJW y2 R X0 s1)))))) (BJV R)) (0,())
def YJ ( a0 m1 m2 m3 m4 R):eG bY Tryz.prog KR YR 8 90 (qD a0 m1 m2 m3 m4) R=KZ a0 m1 m2 m3 m4 R:=by kernel_rfl
def TM (x y:aB×MP×MP×MP×MP) (h:qD x.1 x.2.1 x.2.2.1 x.2.2.2.1 x.2.2.2.2=qD y.1 y.2.1 y.2.2.1 y.2.2.2.1 y.2.2.2.2):x=y:=qW (List.cons.inj h).1
def H0 (x:aB×MP×MP×MP×MP):Option T:=wB x (T.v (Value.int .i64 (cH (wE x.1) x.1.2.2.2.1)))
noncomputable def xD:List T->Option (T):=gA (λ(x:aB×List aE×List aE×List aE×List aE)=>qD x.1 x.2.1 x.2.2.1 x.2.2.2.1 x.2.2.2.2) H0
def AAA (a0:aB) (m1:List aE) (m2:List aE) (m3:List aE) (m4:List aE):xD (qD a0 m1 m2 m3 m4)=H0 (a0,m1,m2,m3,m4):=fN (A:=(λ(x:aB×List aE×List aE×List aE×List aE)=>qD x.1 x.2.1 x.2.2.1 x.2.2.2.1 x.2.2.2.2)) TM (a0,m1,m2,m3,m4)
def AQI (h:∀ (a0:aB) (m1:List aE) (m2:List aE) (m3:List aE) (m4:List aE) (r:T),H0 (a0,m1,m2,m3,m4)=some r->(∀ t∈qD a0 m1 m2 m3 m4,Bd t)->KZ a0 m1 m2 m3 m4 (λy=>y=r)):aP Tryz.prog 90 xD :=
 cQ (E:=KR) (Hs:=YR) ADS aY a7 (aO rfl) 8 ⟨_,_,Tryz.func90,rfl⟩ λx r h1 h2=>by
  rw[YJ];exact h x.1 x.2.1 x.2.2.1 x.2.2.2.1 x.2.2.2.2 r h1 h2
def AOM:aP Tryz.prog 90 xD:=AQI λd m1 m2 m3 m4 r h hb=>by
 obtain ⟨hx,hs,rfl⟩:=oT h;simp only[Prod.mk.injEq,true_and] at hx;obtain ⟨rfl,rfl,rfl,rfl⟩:=hx;replace hs:nP d:=hs;clear h;unfold KZ BJW BJV f9 f8 BJR BJP BJO BJN t7 m9 IO d6 bF;refine qJ (r:=bE) (wE d) hs.s (λX s y hy hok hbad=>?_) λh0=>?_
 ·have bad:∀ {n:Int},n≠0->wE d y=n->pPP n=pPP (cH (wE d) d.2.2.2.1):=λhn h=>by
   rw[hbad (by rw[h];exact hn),h]
  clear hbad hb
  repeat' first
   | refine ixK (λhn=>?_) (λi j hj hn=>?_)
   | rw[nU]
   | refine kX (λh=>?_) (λh=>?_)
   | refine cA (λh=>?_) (λh=>?_)
   | refine fK (λh=>?_) (λh=>?_)
  all_goals first
   | (exfalso;omega)
   | (refine bad (by decide) ?_;clear bad hok;unfold wE;simp[*,partOf,mZ];done)
   | (refine hok ?_;clear bad hok;unfold wE;simp[*,partOf,mZ];done)
 ·show _=pPP (cH (wE d) d.2.2.2.1);rw[h0]
def rD (a0:aB) (m1:List aE) (m2:List aE) (m3:List aE) (m4:List aE) (a5:iII):List T:=[PX a0 m1 m2 m3 m4,pPQ a5]
noncomputable def TS:Env:=Env.of []
def AJM:FuncId->Hint:=λ_=>bA
def AMM:aV Tryz.prog TS:=.nil _
def T1(a0:aB)(m1:List aE)(m2:List aE)(m3:List aE)(m4:List aE)(a5:iII)(R:T->Prop):Prop:=gW TypeDesc.string (Value.string a5) (qZ (bO m1)) false bF (R d4) λ(i0:Nat) (y1:Int)=>aR bC (GT a0) y1 λ(y2:bQ)=>R (pPR (decide (y2.2.1=1)))
def AEV ( a0 m1 m2 m3 m4 a5 R):eG bY Tryz.prog TS AJM 8 131 (rD a0 m1 m2 m3 m4 a5) R=T1 a0 m1 m2 m3 m4 a5 R:=by kernel_rfl
def xV (d:aB) (id:iII):Bool:=match iD d id with
 | some n=>decide (n.2.1=1)
 | none=>false
def XT (x y:aB×MP×MP×MP×MP×iII) (h:rD x.1 x.2.1 x.2.2.1 x.2.2.2.1 x.2.2.2.2.1 x.2.2.2.2.2=rD y.1 y.2.1 y.2.2.1 y.2.2.2.1 y.2.2.2.2.1 y.2.2.2.2.2):x=y:=CU x y h
def PO (x:aB×MP×MP×MP×MP×iII):Option T:=wB (x.1,x.2.1,x.2.2.1,x.2.2.2.1,x.2.2.2.2.1) (pPR (xV x.1 x.2.2.2.2.2))
noncomputable def gX:List T->Option (T):=gA (λ(x:aB×List aE×List aE×List aE×List aE×iII)=>rD x.1 x.2.1 x.2.2.1 x.2.2.2.1 x.2.2.2.2.1 x.2.2.2.2.2) PO
def AGO (a0:aB) (m1:List aE) (m2:List aE) (m3:List aE) (m4:List aE) (a5:iII):gX (rD a0 m1 m2 m3 m4 a5)=PO (a0,m1,m2,m3,m4,a5):=fN (A:=(λ(x:aB×List aE×List aE×List aE×List aE×iII)=>rD x.1 x.2.1 x.2.2.1 x.2.2.2.1 x.2.2.2.2.1 x.2.2.2.2.2)) XT (a0,m1,m2,m3,m4,a5)
def A0X (h:∀ (a0:aB) (m1:List aE) (m2:List aE) (m3:List aE) (m4:List aE) (a5:iII) (r:T),PO (a0,m1,m2,m3,m4,a5)=some r->(∀ t∈rD a0 m1 m2 m3 m4 a5,Bd t)->T1 a0 m1 m2 m3 m4 a5 (λy=>y=r)):aP Tryz.prog 131 gX :=
 cQ (E:=TS) (Hs:=AJM) AMM aY a7 (aO rfl) 8 ⟨_,_,Tryz.func131,rfl⟩ λx r h1 h2=>by
  rw[AEV];exact h x.1 x.2.1 x.2.2.1 x.2.2.2.1 x.2.2.2.2.1 x.2.2.2.2.2 r h1 h2
def ZY:aP Tryz.prog 131 gX:=A0X λd m1 m2 m3 m4 id0 r h hb=>by
 obtain ⟨hx,hs,rfl⟩:=oT h;simp only[Prod.mk.injEq,true_and] at hx;obtain ⟨rfl,rfl,rfl,rfl⟩:=hx;replace hs:nP d:=hs;clear h;unfold T1 GT d4 bF;refine ixK (λhn=>?_) λi j hj hn=>?_
 ·have hn:iD d id0=none:=hn;show _=pPR (xV d id0);unfold xV;rw[hn]
 ·have hn:iD d id0=some d.2.1[j]:=hn;rw[bD (r:=bC) hj];show _=pPR (xV d id0);unfold xV;rw[hn]
def NQ {d:aB} (hs:nP d) (id:iII):gX (rD d (iR (ids d.2.1)) (iR (ids d.2.2.1)) (iR (ids d.2.2.2.1)) (iR (ids d.2.2.2.2.1)) id)=some (Sh.enc [(false,.bool)] (xV d id)):=by
 rw[AGO];exact oU hs _
def xZ (d:aB) (x:bM):Int:=if x.1<1\/3<x.1 then 10 else if x.2.2=x.2.1 then 2 else if xV d x.2.1=false then 8 else if (x.1=1/\¬ x.2.2 = { data:=#[] }/\xV d x.2.2=false)\/(x.1=2/\xV d x.2.2=false)\/(x.1=3/\(mZ d x.2.2).isNone=true) then 8 else 0
def qB (a0:aB) (m1:List aE) (m2:List aE) (m3:List aE) (m4:List aE):List T:=[PX a0 m1 m2 m3 m4]
noncomputable def KP:Env:=Env.of [(131,.pure gX)]
def YP:FuncId->Hint:=b6 92 [(2,.inv [.val 15 false (.int .i64)])] (λ_=>bA)
def ADQ:aV Tryz.prog KP:=.cons ZY (.nil _)
def t8(a0:aB)(m1:List aE)(m2:List aE)(m3:List aE)(m4:List aE)(y2:bM):List T:=[T.ref [T.ref (f6 a0), T.mp (bO m1),T.mp (bO m2),T.mp (bO m3), T.mp (bO m4)], pPQ y2.2.2]
def BJT(y2:bM)(X0:Int×PUnit->Prop)(s1:Int×PUnit):Prop:=aC (decide (y2.1=3)) (f9 X0 s1) (f9 X0 s1)
def BJ2(y2:bM)(R:T->Prop)(X0:Int×PUnit->Prop)(s1:Int×PUnit):Prop:=aC (decide (y2.1=3)) (m9 R) (f9 X0 s1)
def KX(a0:aB)(m1:List aE)(m2:List aE)(m3:List aE)(m4:List aE)(R:T->Prop):Prop:=bB (Int×PUnit) (λX0 s1=>aC (decide (s1.1<(↑(RK a0).length:Int))) (aR aZ (RK a0) s1.1 λ(y2:bM)=>gW TypeDesc.string (Value.string y2.2.2) (qZ (bO m4)) false bF (aC (decide (y2.1<1)) (R BJP) (aC (decide (3<y2.1)) (R BJP) (aC (decide (y2.2.2=y2.2.1)) (BJO R) (aJ d6 (gX [T.ref [T.ref (i7 a0), T.mp (bO m1),T.mp (bO m2),T.mp (bO m3), T.mp (bO m4)], pPQ y2.2.1]) λ(y10:Bool)=>aC (!y10) (m9 R) (aC (decide (y2.1=1)) (aC (!decide (y2.2.2 = {data:=#[]})) (aJ d6 (gX (t8 a0 m1 m2 m3 m4 y2)) λ(y11:Bool)=>aC (!y11) (m9 R) (aC (decide (y2.1=2)) (aJ d6 (gX [T.ref [T.ref (f6 a0), T.mp (bO m1),T.mp (bO m2), T.mp (bO m3),T.mp (bO m4)], pPQ y2.2.2]) λ(y12:Bool)=>aC (!y12) (m9 R) (BJ2 y2 R X0 s1)) (BJ2 y2 R X0 s1))) (aC (decide (y2.1=2)) (aJ d6 (gX (t8 a0 m1 m2 m3 m4 y2)) λ(y13:Bool)=>aC (!y13) (m9 R) (BJ2 y2 R X0 s1)) (BJ2 y2 R X0 s1))) (aC (decide (y2.1=2)) (aJ d6 (gX (t8 a0 m1 m2 m3 m4 y2)) λ(y14:Bool)=>aC (!y14) (m9 R) (BJ2 y2 R X0 s1)) (BJ2 y2 R X0 s1))))))) λ(i3:Nat) (y4:Int)=>aC (decide (y2.1<1)) (R BJP) (aC (decide (3<y2.1)) (R BJP) (aC (decide (y2.2.2=y2.2.1)) (BJO R) (aJ d6 (gX [T.ref [T.ref (i7 a0), T.mp (bO m1),T.mp (bO m2),T.mp (bO m3), T.mp (bO m4)], pPQ y2.2.1]) λ(y5:Bool)=>aC (!y5) (m9 R) (aC (decide (y2.1=1)) (aC (!decide (y2.2.2 = {data:=#[]})) (aJ d6 (gX (t8 a0 m1 m2 m3 m4 y2)) λ(y6:Bool)=>aC (!y6) (m9 R) (aC (decide (y2.1=2)) (aJ d6 (gX [T.ref [T.ref (f6 a0), T.mp (bO m1),T.mp (bO m2), T.mp (bO m3),T.mp (bO m4)], pPQ y2.2.2]) λ(y7:Bool)=>aC (!y7) (m9 R) (BJT y2 X0 s1)) (BJT y2 X0 s1))) (aC (decide (y2.1=2)) (aJ d6 (gX (t8 a0 m1 m2 m3 m4 y2)) λ(y8:Bool)=>aC (!y8) (m9 R) (BJT y2 X0 s1)) (BJT y2 X0 s1))) (aC (decide (y2.1=2)) (aJ d6 (gX (t8 a0 m1 m2 m3 m4 y2)) λ(y9:Bool)=>aC (!y9) (m9 R) (BJT y2 X0 s1)) (BJT y2 X0 s1))))))) (BJV R)) (0,())
def YH ( a0 m1 m2 m3 m4 R):eG bY Tryz.prog KP YP 8 92 (qB a0 m1 m2 m3 m4) R=KX a0 m1 m2 m3 m4 R:=by kernel_rfl
def TK (x y:aB×MP×MP×MP×MP) (h:qB x.1 x.2.1 x.2.2.1 x.2.2.2.1 x.2.2.2.2=qB y.1 y.2.1 y.2.2.1 y.2.2.2.1 y.2.2.2.2):x=y:=qW (List.cons.inj h).1
def HY (x:aB×MP×MP×MP×MP):Option T:=wB x (T.v (Value.int .i64 (cH (xZ x.1) x.1.2.2.2.2.2)))
noncomputable def xB:List T->Option (T):=gA (λ(x:aB×List aE×List aE×List aE×List aE)=>qB x.1 x.2.1 x.2.2.1 x.2.2.2.1 x.2.2.2.2) HY
def Z8 (a0:aB) (m1:List aE) (m2:List aE) (m3:List aE) (m4:List aE):xB (qB a0 m1 m2 m3 m4)=HY (a0,m1,m2,m3,m4):=fN (A:=(λ(x:aB×List aE×List aE×List aE×List aE)=>qB x.1 x.2.1 x.2.2.1 x.2.2.2.1 x.2.2.2.2)) TK (a0,m1,m2,m3,m4)
def AQG (h:∀ (a0:aB) (m1:List aE) (m2:List aE) (m3:List aE) (m4:List aE) (r:T),HY (a0,m1,m2,m3,m4)=some r->(∀ t∈qB a0 m1 m2 m3 m4,Bd t)->KX a0 m1 m2 m3 m4 (λy=>y=r)):aP Tryz.prog 92 xB :=
 cQ (E:=KP) (Hs:=YP) ADQ aY a7 (aO rfl) 8 ⟨_,_,Tryz.func92,rfl⟩ λx r h1 h2=>by
  rw[YH];exact h x.1 x.2.1 x.2.2.1 x.2.2.2.1 x.2.2.2.2 r h1 h2
def AOK:aP Tryz.prog 92 xB:=AQG λd m1 m2 m3 m4 r h hb=>by
 obtain ⟨hx,hs,rfl⟩:=oT h;simp only[Prod.mk.injEq,true_and] at hx;obtain ⟨rfl,rfl,rfl,rfl⟩:=hx;replace hs:nP d:=hs;clear h;unfold KX BJ2 BJT BJV t8 i7 f9 BJP BJO m9 f6 RK IR IO GT FS d6 bF;refine qJ (r:=aZ) (xZ d) hs.r (λX s y hy hok hbad=>?_) λh0=>?_
 ·have bad:∀ {n:Int},n≠0->xZ d y=n->pPP n=pPP (cH (xZ d) d.2.2.2.2.2):=λhn h=>by
   rw[hbad (by rw[h];exact hn),h]
  clear hbad hb
  repeat' first
   | refine ixK (λhn=>?_) (λi j hj hn=>?_)
   | rw[nU]
   | refine aF (s:=[(false,.bool)]) (NQ hs _) ?_
   | refine kX (λh=>?_) (λh=>?_)
   | refine cA (λh=>?_) (λh=>?_)
   | refine fK (λh=>?_) (λh=>?_)
  all_goals first
   | (exfalso;omega)
   | (refine bad (by decide) ?_;clear bad hok;unfold xZ;simp[*,partOf,mZ];done)
   | (refine hok ?_;clear bad hok;unfold xZ;simp[*,partOf,mZ];done)
   | (refine hok ?_;clear bad hok hs hy;unfold xZ;simp_all[partOf,mZ];done)
 ·show _=pPP (cH (xZ d) d.2.2.2.2.2);rw[h0]
end Go.Pv
namespace Go.Pv
open Go Go.Proofs IntKind
noncomputable def A98:Env:=Env.of []
def BAN:FuncId->Hint:=b6 273 [(2,.inv [.val 9 false (.int .i64)])] (λ_=>bA)
def ATM:aV Tryz.prog A98:=.nil _
def AET(a0:Int)(a1:List aU)(R:T->Prop):Prop:=bB (Int×PUnit) (λX0 s1=>aC (decide (s1.1<(↑(g9 a1).length:Int))) (aR aA (g9 a1) s1.1 λ(y2:aU)=>aC (decide (y2.1<0)) (t7 R) (aC (decide (a0<=y2.1)) (t7 R) (aC (decide (y2.2<0)) (t7 R) (aC (decide (a0<=y2.2)) (t7 R) (aC (decide (y2.1=y2.2)) (BJO R) (f9 X0 s1)))))) (BJV R)) (0,())
abbrev AIE:Sh:=[(false,(Sy.int IntKind.i64)),(false,aA.li)]
def MU (n:Int) (x:aU):Int:=if x.1<0\/n<=x.1\/x.2<0\/n<=x.2 then 9 else if x.1=x.2 then 2 else 0
def J7 (x:Int×List aU):Option T:=qT x.2 (T.v (Value.int .i64 (cH (MU x.1) x.2)))
noncomputable def NN:List T->Option T:=gS AIE J7
def APJ {a0 a1}:NN [pPP a0,T.sl false (List.map aA.enc a1)]=J7 (a0,a1):=bI (s:=AIE) rfl (a0,a1) rfl
def A70:rJ Tryz.prog 273 NN J7 (cC AIE) AET:=gZ (a1:=(false,(Sy.int IntKind.i64))) (a2:=(false,aA.li)) (sp:=J7) (F:=AET) (Hs:=BAN) (f:=273) (k:=8) ATM aY a7 (aO rfl) ⟨_,_,Tryz.func273,rfl⟩ rfl λ_ _ _=>by kernel_rfl
def A6K:aP Tryz.prog 273 NN:=A70 λn l r h hb=>by
 obtain ⟨hl,rfl⟩:=j1 h;clear h;unfold AET BJV g9 f9 BJO t7;refine qJ (r:=aA) (MU n) hl (λX s y hy hok hbad=>?_) λh0=>?_
 ·have bad:∀ {m:Int},m≠0->MU n y=m->pPP m=pPP (cH (MU n) l):=λhn h=>by
   rw[hbad (by rw[h];exact hn),h]
  clear hbad hb
  repeat' first
   | refine kX (λh=>?_) (λh=>?_)
   | refine cA (λh=>?_) (λh=>?_)
  all_goals first
   | (exfalso;omega)
   | (refine bad (by decide) ?_;clear bad hok;unfold MU;first|(rw[if_pos (by omega)];done)|(rw[if_neg (by omega),if_pos (by omega)];done))
   | (refine hok ?_;clear bad hok;unfold MU;rw[if_neg (by omega),if_neg (by omega)];done)
 ·show _=pPP (cH (MU n) l);rw[h0]
noncomputable def TT:Env:=Env.of [(273,.pure NN)]
def AJN:FuncId->Hint:=b6 133 [(8,.inv [.arr 0 1 (.int .i64),.val 31 false (.int .i64)]),(14,.inv [.arr 0 1 (.int .i64),.own 10 1 (.int .i64),.arr 2 1 .bool]),(16,.inv [.val 52 false (.int .i64),.fix 0,.fix 2,.fix 3]),(22,.inv [.arr 0 1 (.int .i64),.val 75 false (.int .i64)])] (λ_=>bA)
def AMP:aV Tryz.prog TT:=.cons A6K (.nil _)
def d9:Sh:=[(false,Sy.int IntKind.i64)]
def LT(s14:List Int×List Int×List Bool×PUnit):List (List T):=List.map Sy.bool.enc s14.2.2.1
def WP(s3:List Int×Int×PUnit):List (List T):=List.map bF.enc s3.1
def BJQ(s14:List Int×List Int×List Bool×PUnit):List (List T):=List.map bF.enc s14.2.1
def BJ1(s14:List Int×List Int×List Bool×PUnit):List (List T):=List.map bF.enc s14.1
def BJ3(R:T->Prop):Prop:=bR (pPP 9).flat (R (T.b7 [T.sl false [],pPP 9]))
def T4(a0:Int)(a1:List aU)(R:T->Prop):Prop:=aC (decide (a0<0)) (BJ3 R) (aC (decide (256<a0)) (BJ3 R) (aJ d9 (NN [pPP a0,T.sl false (g9 a1)]) λ(y0:Int)=>aC (!decide (y0=0)) (bR (pPP y0).flat (R (T.b7 [T.sl false [],pPP y0]))) (bR ((decide (a0=a0)||decide (a0=0))&&decide (0<=a0)&&decide (a0*(↑8:Int)<=140737488355328) && decide (a0<=140737488355328)) (dM bF (List.replicate (Int.toNat a0) [pPP 0]) λ(y1:List Int)=>bB (List Int×Int×PUnit) (λX2 s3=>aC (decide (s3.2.1<(↑(g9 a1).length:Int))) (aR aA (g9 a1) s3.2.1 λ(y4:aU)=>aR bF (WP s3) y4.2 λ(y5:Int)=>iJ bF (WP s3) (Int.toNat y4.2) 0 λ(y6:Int)=>aR bF (WP s3) y4.2 λ(y7:Int)=>EX (WP s3) (Int.toNat y4.2) λ(y8:List T)=>bR (decide (1<=y8.length)) (dM bF ((WP s3).set (Int.toNat y4.2) (bV y8 0 [pPP (i64.wrap (y6+1))])) λ(y9:List Int)=>X2 (y9,i64.wrap (s3.2.1+1),()))) (bR ((decide (0=a0)||true)&&decide (0<=a0)&&decide (a0*(↑8:Int)<=140737488355328) && decide (a0<=140737488355328)) (bR ((decide (a0=a0)||decide (a0=0))&&decide (0<=a0) && decide (a0*(↑1:Int)<=140737488355328) && decide (a0<=140737488355328)) (dM bF (WP s3) λ(y10:List Int)=>dM bF [] λ(y11:List Int)=>dM Sy.bool (List.replicate (Int.toNat a0) [pPR false]) λ(y12:List Bool)=>bB (List Int×List Int×List Bool×PUnit) (λX13 s14=>aC (decide ((↑(BJQ s14).length:Int)<a0)) (fS (bH.arr false 1 (BJ1 s14)) (bH.arr false 1 (BJ1 s14)) (fS (bH.arr false 1 (LT s14)) (bH.arr false 1 (LT s14)) (fS (bH.arr false 1 (BJQ s14)) (bH.arr false 1 (BJQ s14)) (bB (Int×PUnit×PUnit×PUnit×PUnit) (λ(X15:Int×PUnit×PUnit×PUnit×PUnit->Prop) (CK:Int×PUnit×PUnit×PUnit×PUnit)=>aC (decide (CK.1<a0)) (aR Sy.bool (LT s14) CK.1 λ(y17:Bool)=>iJ Sy.bool (LT s14) (Int.toNat CK.1) 0 λ(y18:Bool)=>aC y18 (fS (bH.arr false 1 (BJ1 s14)) (bH.arr false 1 (BJ1 s14)) (fS (bH.arr false 1 (LT s14)) (bH.arr false 1 (LT s14)) (fS (bH.arr false 1 (BJQ s14)) (bH.arr false 1 (BJQ s14)) (X15 (i64.wrap (CK.1+1),(),(),(),()))))) (aR bF (BJ1 s14) CK.1 λ(y19:Int)=>iJ bF (BJ1 s14) (Int.toNat CK.1) 0 λ(y20:Int)=>aC (decide (0<y20)) (fS (bH.arr false 1 (BJ1 s14)) (bH.arr false 1 (BJ1 s14)) (fS (bH.arr false 1 (LT s14)) (bH.arr false 1 (LT s14)) (fS (bH.arr false 1 (BJQ s14)) (bH.arr false 1 (BJQ s14)) (X15 (i64.wrap (CK.1+1),(),(),(), ()))))) (aR Sy.bool (LT s14) CK.1 λ(y21:Bool)=>EX (LT s14) (Int.toNat CK.1) λ(y22:List T)=>bR (decide (1<=y22.length)) (bR (decide (((BJQ s14).length + 1) * 8 <= 140737488355328) && decide ((BJQ s14).length + 1 <= 140737488355328)) (dM bF (BJ1 s14) λ(y23:List Int)=>bB (List Int×Int×PUnit) (λX24 s25=>aC (decide (s25.2.1 < (↑(g9 a1).length : Int))) (aR aA (g9 a1) s25.2.1 λ(y26:aU)=>aC (decide (y26.1=CK.1)) (aR bF (WP s25) y26.2 λ(y27:Int)=>iJ bF (WP s25) (Int.toNat y26.2) 0 λ(y28:Int)=>aR bF (WP s25) y26.2 λ(y29:Int)=>EX (WP s25) (Int.toNat y26.2) λ(y30:List T)=>bR (decide (1<=y30.length)) (dM bF ((WP s25).set (Int.toNat y26.2) (bV y30 0 [pPP (i64.wrap (y28-1))])) λ(y31:List Int)=>X24 (y31, i64.wrap (s25.2.1+1), ()))) (dM bF (WP s25) λ(y32:List Int)=>X24 (y32, i64.wrap (s25.2.1+1), ()))) (dM bF (WP s25) λ(y33:List Int)=>dM bF (List.map bF.enc s14.2.1 ++ [[pPP CK.1]]) λ(y34:List Int)=>dM Sy.bool ((LT s14).set (Int.toNat CK.1) (bV y22 0 [pPR true])) λ(y35:List Bool)=>X13 (y33,y34,y35,()))) (y23,0,())))))) (bR (pPP 20).flat (R (T.b7 [T.sl false [], pPP 20])))) (0,(),(),(),()))))) (bR ((BJQ s14).all λ(r:List T)=>r.all T.flat) (bR (pPP 0).flat (R (T.b7 [T.sl false (BJQ s14), pPP 0]))))) (y10,y11,y12,()))))) (y1,0,())))))
def AEY ( a0 a1 R):vW bY Tryz.prog TT AJN 8 133 [aG false (Sy.int IntKind.i64) a0,aG false aA.li a1] R=T4 a0 a1 R:=by kernel_rfl
abbrev J3:Sh:=[(false,(Sy.int IntKind.i64)),(false,aA.li)]
abbrev zL:Sh:=[(false,(Sy.int IntKind.i64).li),(false,Sy.int IntKind.i64)]
def AW0 (b:List Int) (e:aU):List Int:=b.set e.2.toNat (i64.wrap (b.getD e.2.toNat 0+1))
def AW6 (v:Int) (b:List Int) (e:aU):List Int:=if e.1=v then b.set e.2.toNat (i64.wrap (b.getD e.2.toNat 0-1)) else b
def IQ (b:List Int) (t:List Bool) (k:Nat):Bool:=!t.getD k false&&decide (b.getD k 0<=0)
def CG (l:List aU) (n:Nat):Nat->List Int->List Int->List Bool->List Int×Int
 | 0,_,o,_=>(o,0)
 | f+1,b,o,t=>match (List.range n).find? (IQ b t) with
  | none=>([],20)
  | some v=>CG l n f (l.foldl (AW6 v) b) (o++[(v:Int)]) (t.set v true)
def lW (n:Int) (l:List aU):List Int×Int :=
 if n<0\/256<n then ([],9) else if cH (MU n) l=0 then CG l n.toNat n.toNat (l.foldl AW0 (List.replicate n.toNat 0)) [] (List.replicate n.toNat false) else ([],cH (MU n) l)
def ZS {α:Type} {f:α->Int}:∀ {l:List α},cH f l=0->∀ a∈l,f a=0
 | [],_,_,h=>by cases h
 | b::l,h,a,ha=>by
  unfold cH at h;split at h
  ·rename_i hb;rcases List.mem_cons.1 ha with rfl|ha
   ·exact hb
   ·exact ZS h a ha
  ·exact absurd h ‹_›
def zN {r:Sy} {l:List r.den} {i:Int} (h0:0<=i) (h:i.toNat<l.length) (K:r.den->Prop):aR r (List.map r.enc l) i K=K l[i.toNat]:=by
 have e:i=((i.toNat:Nat):Int):=by omega
 have:=bD h K;rw[<-e] at this;exact this
def ALI {l:List Int} {k:Nat} (h:k<l.length) (y:Int):(List.map (Sy.int .i64).enc l).set k (bV ((Sy.int .i64).enc l[k]) 0 [pPP y])=List.map (Sy.int .i64).enc (l.set k y):=by
 rw[List.map_set];rfl
def A2X {l:List Bool} {k:Nat} (h:k<l.length) (y:Bool):(List.map Sy.bool.enc l).set k (bV (Sy.bool.enc l[k]) 0 [pPR y])=List.map Sy.bool.enc (l.set k y):=by
 rw[List.map_set];rfl
variable {α:Type}
def zD {l:List α} {k:Nat} (d:α) (h:k<l.length):l.getD k d=l[k]:=by simp[List.getD,h]
def A8P (n:Nat):List.replicate n [T.v (Value.int .i64 0)]=List.map (Sy.int .i64).enc (List.replicate n 0):=by rw[List.map_replicate];rfl
def A1X (n:Nat):List.replicate n [pPR false]=List.map Sy.bool.enc (List.replicate n false):=by rw[List.map_replicate];rfl
def AOI (l:List Int):((List.map (Sy.int .i64).enc l).all λ(r:List T)=>r.all T.flat)=true:=by
 rw[List.all_map,List.all_eq_true];intro a _;rfl
def PQ (x:Int×List aU):Option T:=qT x.2 (Sh.enc zL (lW x.1 x.2))
noncomputable def DK:List T->Option (T):=gS J3 PQ
def AGR {a0 a1}:DK [pPP a0,T.sl false (List.map aA.enc a1)]=PQ (a0,a1):=bI (s:=J3) rfl (a0,a1) rfl
def A00 (h:∀ a0 a1 r,PQ (a0,a1)=some r->cC J3 (a0,a1)->T4 a0 a1 (λy=>y=r)):kK Tryz.prog 133 DK :=
 A7L (E:=TT) (Hs:=AJN) AMP aY a7 (aO rfl) 8 ⟨_,_,Tryz.func133,rfl⟩ rfl λx r h1 h2=>by
  obtain ⟨a0,a1⟩:=x;rw[show Sh.lT J3 (a0,a1)=[aG false (Sy.int IntKind.i64) a0,aG false aA.li a1] from rfl,AEY];exact h a0 a1 r h1 h2
def AXX:kK Tryz.prog 133 DK:=A00 λn l r h hb=>by
 obtain ⟨hl,rfl⟩:=j1 h;clear h;have hl:l.length<=140737488355328:=hl;unfold T4 BJ3 BJ1 BJQ WP LT g9 d9 bF;refine cA (λh=>?_) λhn0=>?_
 ·refine ⟨rfl,?_⟩;show _=Sh.enc zL (lW n l);rw[lW,if_pos (Or.inl h)];rfl
 refine cA (λh=>?_) λhn1=>?_
 ·refine ⟨rfl,?_⟩;show _=Sh.enc zL (lW n l);rw[lW,if_pos (Or.inr h)];rfl
 refine aF (s:=[(false,.int .i64)]) (y:=cH (MU n) l) (by rw[APJ];exact j2 _ hl) ?_;refine kX (λh0=>?_) (λh0=>?_)
 ·refine ⟨rfl,?_⟩;show _=Sh.enc zL (lW n l);rw[lW,if_neg (by omega),if_neg h0];rfl
 have hv:lW n l=CG l n.toNat n.toNat (l.foldl AW0 (List.replicate n.toNat 0)) [] (List.replicate n.toNat false):=by
  rw[lW,if_neg (by omega),if_pos h0]
 have hend:∀ e∈l,0<=e.1/\e.1<n/\0<=e.2/\e.2<n:=λe he=>by
  have:=ZS h0 e he;unfold MU at this;split at this
  ·exact absurd this (by decide)
  ·omega
 clear h0 hb;obtain ⟨N,rfl⟩:∃ N:Nat,n=(N:Int):=⟨n.toNat,by omega⟩
 rw[Int.toNat_natCast] at hv ⊢;refine ⟨by simp;omega,?_⟩;rw[A8P,dH rfl];refine bK l.length (λk s=>s.2.1=(k:Int)/\s.1.length=N/\(l.drop k).foldl AW0 s.1=l.foldl AW0 (List.replicate N 0)) ⟨rfl,by simp,rfl⟩ ?_;rintro X k ⟨b,i,u⟩ hk ⟨rfl,hbl,hbf⟩ hX;dsimp only at hbl hbf ⊢;refine cA (λhlt=>?_) λhge=>?_
 ·rw[ae] at hlt;have hlt:k<l.length:=by omega
  rw[bD hlt];obtain ⟨-,-,e0,e1⟩:=hend _ (ak hlt);have hj:(l[k].2).toNat<b.length:=by omega
  rw[zN e0 hj,iK hj,zN e0 hj,pP hj];refine ⟨rfl,?_⟩;rw[ALI hj,dH rfl];refine hX _ hlt ⟨?_,?_,?_⟩
  ·show i64.wrap ((k:Int)+1)=_;rw[bG]<;>omega
  ·show (List.set _ _ _).length=N;rw[List.length_set];exact hbl
  ·rw[List.drop_eq_getElem_cons hlt,List.foldl_cons] at hbf;rw[<-hbf]
   congr 1
   unfold AW0;rw[zD (l:=b) 0 hj]
 rw[ae] at hge;have hkl:k=l.length:=by omega
 subst hkl;rw[List.drop_length,List.foldl_nil] at hbf;rw[<-hbf] at hv;refine ⟨by simp;omega,⟨by simp;omega,?_⟩⟩;rw[dH rfl,AW7,A1X,dH rfl];clear hX hge hbf;refine bK N (λk s=>s.1.length=N/\s.2.1.length=k/\s.2.2.1.length=N/\CG l N (N-k) s.1 s.2.1 s.2.2.1=lW N l) ⟨hbl,rfl,by simp,by rw[hv];rfl⟩ ?_;clear hv hbl b u;rintro X k ⟨b,o,t,u⟩ hk ⟨hbl,hol,htl,hr⟩ hX;dsimp only at hbl hol htl hr ⊢;refine cA (λhlt=>?_) λhge=>?_
 ·rw[ae,hol] at hlt;have hlt:k<N:=by omega
  rw[cS,cS,cS];obtain ⟨m,hm⟩:∃ m,N-k=m+1:=⟨N-k-1,by omega⟩
  rw[hm,CG] at hr;refine bK N (λj s=>s.1=(j:Int)/\(List.range N).find? (IQ b t)=(List.range' j (N-j)).find? (IQ b t)) ⟨rfl,by rw[List.range_eq_range'];rfl⟩ ?_;rintro Y j ⟨i,u1,u2,u3,u4⟩ hj ⟨rfl,hf⟩ hY;dsimp only at hf ⊢;refine cA (λhjn=>?_) λhjn=>?_
  ·have hjn:j<N:=by omega
   have hjb:j<b.length:=by omega
   have hjt:j<t.length:=by omega
   obtain ⟨q,hq⟩:∃ q,N-j=q+1:=⟨N-j-1,by omega⟩
   rw[hq,List.range'_succ,List.find?_cons] at hf;have next:IQ b t j=false->Y (i64.wrap ((j:Int)+1),(),(),(),()):=λh=>by
    refine hY _ hjn ⟨?_,?_⟩
    ·show i64.wrap ((j:Int)+1)=_;rw[bG]<;>omega
    ·rw[hf,h];rw[show N-(j+1)=q by omega]
   simp only[Int.toNat_natCast];rw[bD hjt,iK hjt];refine vA (λht=>?_) λht=>?_
   ·rw[cS,cS,cS];exact next (by rw[IQ,zD (l:=t) false hjt,ht];rfl)
   rw[bD hjb,iK hjb];refine cA (λhp=>?_) λhp=>?_
   ·rw[cS,cS,cS];exact next (by rw[IQ,zD (l:=b) 0 hjb,aj (by omega),Bool.and_false])
   have hfree:IQ b t j=true:=by rw[IQ,zD (l:=b) 0 hjb,zD (l:=t) false hjt,ht,ai (by omega)];rfl
   rw[hfree] at hf;rw[hf] at hr;dsimp only at hr;clear next hY hf
   rw[bD hjt,pP hjt];refine ⟨rfl,⟨by simp;omega,?_⟩⟩;rw[dH rfl];refine bK l.length (λk s=>s.2.1=(k:Int)/\s.1.length=N/\(l.drop k).foldl (AW6 j) s.1=l.foldl (AW6 j) b) ⟨rfl,hbl,rfl⟩ ?_;rintro Z i ⟨c,i',u⟩ hi ⟨rfl,hcl,hcf⟩ hZ;dsimp only at hcl hcf ⊢;refine cA (λhlt=>?_) λhge=>?_
   ·rw[ae] at hlt;have hlt:i<l.length:=by omega
    rw[bD hlt];obtain ⟨-,-,e0,e1⟩:=hend _ (ak hlt);have hjc:(l[i].2).toNat<c.length:=by omega
    rw[List.drop_eq_getElem_cons hlt,List.foldl_cons] at hcf;have hw:i64.wrap ((i:Int)+1)=((i+1:Nat):Int):=by rw[bG]<;>omega
    refine cA (λhv=>?_) λhv=>?_
    ·rw[zN e0 hjc,iK hjc,zN e0 hjc,pP hjc];refine ⟨rfl,?_⟩;rw[ALI hjc,dH rfl];refine hZ _ hlt ⟨hw,?_,?_⟩
     ·show (List.set _ _ _).length=N;rw[List.length_set];exact hcl
     ·rw[<-hcf]
      congr 1
      unfold AW6;rw[if_pos hv,zD (l:=c) 0 hjc]
    ·rw[dH rfl];refine hZ _ hlt ⟨hw,hcl,?_⟩;rw[<-hcf]
     congr 1
     unfold AW6;rw[if_neg hv]
   ·rw[ae] at hge;have hil:i=l.length:=by omega
    subst hil;rw[List.drop_length,List.foldl_nil] at hcf;rw[dH rfl,F4 (r:=.int .i64) rfl o [T.v (.int .i64 (j:Int))] (j:Int) rfl,A2X hjt,dH rfl];refine hX _ hlt ⟨hcl,by simp[hol],by simp[htl],?_⟩;rw[show N-(k+1)=m by omega];show CG l N m c (o++[(j:Int)]) (t.set j true)=_;rw[hcf];exact hr
  ·have hjn:j=N:=by omega
   subst hjn;rw[Nat.sub_self] at hf;rw[show (List.range' j 0)=[] from rfl,List.find?_nil] at hf;rw[hf] at hr;refine ⟨rfl,?_⟩;show _=Sh.enc zL (lW (j:Int) l);rw[<-hr];rfl
 ·rw[ae,hol] at hge;have hkN:k=N:=by omega
  subst hkN;rw[Nat.sub_self,CG] at hr;refine ⟨AOI o,rfl,?_⟩;show _=Sh.enc zL (lW (k:Int) l);rw[<-hr];rfl
end Go.Pv
namespace Go.Pv
open Go Go.Proofs IntKind
def wK (a0:List iII):List T:=[T.sl false (List.map Sy.str.enc a0)]
noncomputable def ADP:Env:=Env.of []
def AV6:FuncId->Hint:=λ_=>bA
def ATW:aV Tryz.prog ADP:=.nil _
def AE5(a0:List iII)(R:T->Prop):Prop:=R (T.fn 272 [] [T.ref [T.sl false (M2 a0)]])
def AM5 ( a0 R):eG bY Tryz.prog ADP AV6 8 132 (wK a0) R=AE5 a0 R:=by kernel_rfl
def XG (l:List iII):Option T:=some (T.fn 272 [] [T.ref [T.sl false (List.map Sy.str.enc l)]])
def ADD (x y:List iII) (h:wK x=wK y):x=y:=by
 unfold wK at h;have h:=(T.sl.injEq .. ▸ (List.cons.inj h).1)
 exact map_inj (Sy.dY .str) h.2
noncomputable def GN:List T->Option (T):=gA (λ(x:List iII)=>wK x) XG
def SG (a0:List iII):GN (wK a0)=XG a0:=fN (A:=(λ(x:List iII)=>wK x)) ADD a0
def A8A (h:∀ (a0:List iII) (r:T),XG a0=some r->(∀ t∈wK a0,Bd t)->AE5 a0 (λy=>y=r)):aP Tryz.prog 132 GN :=
 cQ (E:=ADP) (Hs:=AV6) ATW aY a7 (aO rfl) 8 ⟨_,_,Tryz.func132,rfl⟩ λx r h1 h2=>by
  rw[AM5];exact h x r h1 h2
def A6X:aP Tryz.prog 132 GN:=A8A λl r h hb=>by
 cases h;unfold AE5 M2;rfl
end Go.Pv
namespace Go.Pv
abbrev Pt:=Int×Int
def dU (a b c:Pt):Int:=(b.1-a.1)*(c.2-a.2)-(b.2-a.2)*(c.1-a.1)
def P4 (n:Int):Int:=if n<0 then -1 else if 0<n then 1 else 0
def btw (a b q:Pt):Bool:=decide (min a.1 b.1<=q.1)&&decide (q.1<=max a.1 b.1)&&(decide (min a.2 b.2<=q.2)&&decide (q.2<=max a.2 b.2))
def VZ (a b q:Pt):Bool:=decide (dU a b q=0)&&btw a b q
def mX (a b c d:Pt):Bool:=VZ a b c||VZ a b d||VZ c d a||VZ c d b||(decide (P4 (dU a b c)*P4 (dU a b d)<0)&&decide (P4 (dU c d a)*P4 (dU c d b)<0))
def dL (q:Pt):Prop:=-32768<=q.1/\q.1<=32768∧-32768<=q.2/\q.2<=32768
def CF {x y M N:Int} (hx:-M<=x/\x<=M) (hy:-N<=y/\y<=N) (hM:0<=M) (hN:0<=N):-(M*N)<=x*y/\x*y<=M*N:=by
 have h1:x.natAbs<=M.toNat:=by omega
 have h2:y.natAbs<=N.toNat:=by omega
 have h3:=Nat.mul_le_mul h1 h2;rw[<-Int.natAbs_mul] at h3;have h4:((M.toNat*N.toNat:Nat):Int)=M*N:=by
  rw[Int.natCast_mul,Int.toNat_of_nonneg hM,Int.toNat_of_nonneg hN]
 omega
def AW3 {a b c:Pt} (ha:dL a) (hb:dL b) (hc:dL c):(-4294967296<=(b.1-a.1)*(c.2-a.2)/\(b.1-a.1)*(c.2-a.2)<=4294967296)/\(-4294967296<=(b.2-a.2)*(c.1-a.1)/\(b.2-a.2)*(c.1-a.1)<=4294967296):=by
 unfold dL at ha hb hc;have h1:=CF (x:=b.1-a.1) (y:=c.2-a.2) (M:=65536) (N:=65536) (by omega) (by omega) (by omega) (by omega);have h2:=CF (x:=b.2-a.2) (y:=c.1-a.1) (M:=65536) (N:=65536) (by omega) (by omega) (by omega) (by omega);constructor<;>constructor<;>omega
def A2Y (n:Int):-1<=P4 n/\P4 n<=1:=by unfold P4;split<;>(try split)<;>omega
end Go.Pv
namespace Go.Pv
end Go.Pv
namespace Go.Pv
def hit (a b q:Pt):Bool:=(decide (a.2<=q.2)&&decide (q.2<b.2)&&decide (0<dU a b q))||(decide (b.2<=q.2)&&decide (q.2<a.2)&&decide (dU a b q<0))
def dr (u v w:Pt):Bool:=decide (u.2<w.2)&&decide (w.2<=v.2)&&decide (dU u v w<0)
def MK (a b q:Pt):dU b a q = - dU a b q:=by simp only[dU];grind
def BDC {a b q:Pt} (h:dU a b q=0) (hab:a.2<b.2) (h1:a.2<=q.2) (h2:q.2<=b.2):btw a b q=true:=by
 have e:(b.1-a.1)*(q.2-a.2)=(b.2-a.2)*(q.1-a.1):=by unfold dU at h;omega
 have hx:min a.1 b.1<=q.1/\q.1<=max a.1 b.1:=by
  rcases Int.le_total a.1 b.1 with hd|hd
  ·have m1:=Int.mul_nonneg (show 0<=b.1-a.1 by omega) (show 0<=q.2-a.2 by omega);have m2:(b.1-a.1)*(q.2-a.2)<=(b.1-a.1)*(b.2-a.2):=Int.mul_le_mul_of_nonneg_left (by omega) (by omega);have p1:0<=q.1-a.1:=by
    refine Int.not_lt.1 λh=>?_;have:=Int.mul_neg_of_pos_of_neg (show 0<b.2-a.2 by omega) h;omega
   have p2:q.1-a.1<=b.1-a.1:=by
    refine Int.not_lt.1 λh=>?_;have h3:=Int.mul_lt_mul_of_pos_left h (show 0<b.2-a.2 by omega);have h4:(b.2-a.2)*(b.1-a.1)=(b.1-a.1)*(b.2-a.2):=Int.mul_comm _ _;omega
   omega
  ·have m1:=Int.mul_nonneg (show 0<=a.1-b.1 by omega) (show 0<=q.2-a.2 by omega);have m2:(a.1-b.1)*(q.2-a.2)<=(a.1-b.1)*(b.2-a.2):=Int.mul_le_mul_of_nonneg_left (by omega) (by omega);have e1:(a.1-b.1)*(q.2-a.2) = - ((b.1-a.1)*(q.2-a.2)):=by grind
   have p1:q.1-a.1<=0:=by
    refine Int.not_lt.1 λh=>?_;have:=Int.mul_pos (show 0<b.2-a.2 by omega) h;omega
   have p2:b.1-a.1<=q.1-a.1:=by
    refine Int.not_lt.1 λh=>?_;have h3:=Int.mul_lt_mul_of_pos_left h (show 0<b.2-a.2 by omega);have h4:(a.1-b.1)*(b.2-a.2) = - ((b.2-a.2)*(b.1-a.1)):=by grind
    omega
   omega
 simp only[btw,ac,ah];omega
def A8E {a b q:Pt} (h:dU a b q=0) (hab:a.2<b.2) (h1:a.2<=q.2) (h2:q.2<=b.2):VZ a b q=true:=by
 unfold VZ;rw[ai h,BDC h hab h1 h2];rfl
end Go.Pv
namespace Go.Pv
end Go.Pv
namespace Go.Pv
def AWQ (a b q:Pt):btw b a q=btw a b q:=by unfold btw;rw[Int.min_comm b.1,Int.max_comm b.1,Int.min_comm b.2,Int.max_comm b.2]
def A8D (a b q:Pt):VZ b a q=VZ a b q:=by
 unfold VZ;rw[AWQ,MK a b q]
 congr 1
 exact decide_eq_decide.2 (by omega)
def A3C:Nat->(Nat->Bool)->Bool
 | 0,_=>false
 | n+1,f=>A3C n f ^^ f n
def pt (p:List Pt) (i:Nat):Pt:=p.getD i (0,0)
def nx (p:List Pt) (i:Nat):Pt:=pt p ((i+1) % p.length)
def A63 (p:List Pt) (q:Pt):Bool:=A3C p.length λi=>hit (pt p i) (nx p i) q
end Go.Pv
namespace Go.Pv
open Go Go.Proofs IntKind
instance BI1 (q:Pt):Decidable (dL q):=by unfold dL;infer_instance
def jD {a b:Bool} (h:a=b):pPR a=pPR b:=by rw[h]
def JM {a b:Int} (h:a=b):pPP a=pPP b:=by rw[h]
variable {α:Type}
def N6 (a b c:Pt) (r:α):Option α:=match decide (dL a/\dL b/\dL c) with
 | true=>some r
 | false=>none
def N7 {a b c:Pt} {t r:α} (h:N6 a b c t=some r):dL a/\dL b/\dL c/\r=t:=by
 unfold N6 at h;split at h
 ·rename_i hc;cases h;obtain ⟨h1,h2,h3⟩:=of_decide_eq_true hc;exact ⟨h1,h2,h3,rfl⟩
 ·cases h
def N8 {a b c:Pt} (t:α) (ha:dL a) (hb:dL b) (hc:dL c):N6 a b c t=some t:=by unfold N6;rw[ai ⟨ha,hb,hc⟩]
def P2 {a b c:Pt} (ha:dL a) (hb:dL b) (hc:dL c):i64.wrap (i64.wrap (i64.wrap (b.1-a.1)*i64.wrap (c.2-a.2))-i64.wrap (i64.wrap (b.2-a.2)*i64.wrap (c.1-a.1)))=dU a b c:=by
 have h:=AW3 ha hb hc;unfold dL at ha hb hc;rw[bG (b.1-a.1) (by omega) (by omega),bG (c.2-a.2) (by omega) (by omega),bG (b.2-a.2) (by omega) (by omega),bG (c.1-a.1) (by omega) (by omega),
  bG ((b.1-a.1)*(c.2-a.2)) (by omega) (by omega),bG ((b.2-a.2)*(c.1-a.1)) (by omega) (by omega),bG _ (by omega) (by omega)]
 rfl
def FK (m n:Int):i64.wrap (P4 m*P4 n)=P4 m*P4 n:=by
 have h:=CF (A2Y m) (A2Y n) (by omega) (by omega);exact bG _ (by omega) (by omega)
def VV (a b:Int):(if b<a then b else a)=min a b:=by omega
def VT (a b:Int):(if a<b then b else a)=max a b:=by omega
noncomputable def ASS:Env:=Env.of []
def AVU:FuncId->Hint:=λ_=>bA
def AD2:aV Tryz.prog ASS:=.nil _
def WF(a1:aU)(a0:aU)(a2:aU):T:=pPP (i64.wrap (i64.wrap (i64.wrap (a1.1-a0.1)*i64.wrap (a2.2-a0.2)) - i64.wrap (i64.wrap (a1.2-a0.2)*i64.wrap (a2.1-a0.1))))
def LC(a0:aU)(a1:aU)(a2:aU)(R:T->Prop):Prop:=R (WF a1 a0 a2)
abbrev O0:Sh:=[(true,aA),(true,aA),(true,aA)]
def zY (x:aU×aU×aU):Option T:=N6 x.1 x.2.1 x.2.2 (T.v (Value.int .i64 (dU x.1 x.2.1 x.2.2)))
noncomputable def gF:List T->Option T:=gS O0 zY
def AAP {a0 a1 a2}:gF [aG true aA a0,aG true aA a1,aG true aA a2]=zY (a0,a1,a2):=bI (s:=O0) rfl (a0,a1,a2) rfl
def AQS:Of3 Tryz.prog 356 gF zY (cC O0) LC:=QO (a1:=(true,aA)) (a2:=(true,aA)) (a3:=(true,aA)) (sp:=zY) (F:=LC) (Hs:=AVU) (f:=356) (k:=8) AD2 aY a7 (aO rfl) ⟨_,_,Tryz.func356,rfl⟩ rfl λ_ _ _ _=>by kernel_rfl
def yW:aP Tryz.prog 356 gF:=AQS λa b c r h hb=>by
 obtain ⟨h1,h2,h3,rfl⟩:=N7 h;unfold LC WF;exact JM (P2 h1 h2 h3)
def jW {a b c:Pt} (h1:dL a) (h2:dL b) (h3:dL c):gF [aG true aA a,aG true aA b,aG true aA c]=some (Sh.enc [(false,.int .i64)] (dU a b c)):=(AAP ..).trans (N8 _ h1 h2 h3)
noncomputable def AS0:Env:=Env.of []
def AV2:FuncId->Hint:=λ_=>bA
def AEA:aV Tryz.prog AS0:=.nil _
def LM(a0:aU)(a1:aU)(a2:aU)(R:T->Prop):Prop:=R (WF a1 a0 a2)
abbrev O8:Sh:=[(true,aA),(true,aA),(true,aA)]
def AB (x:aU×aU×aU):Option T:=N6 x.1 x.2.1 x.2.2 (T.v (Value.int .i64 (dU x.1 x.2.1 x.2.2)))
noncomputable def mV:List T->Option T:=gS O8 AB
def AA0 {a0 a1 a2}:mV [aG true aA a0,aG true aA a1,aG true aA a2]=AB (a0,a1,a2):=bI (s:=O8) rfl (a0,a1,a2) rfl
def AQ0:Of3 Tryz.prog 359 mV AB (cC O8) LM:=QO (a1:=(true,aA)) (a2:=(true,aA)) (a3:=(true,aA)) (sp:=AB) (F:=LM) (Hs:=AV2) (f:=359) (k:=8) AEA aY a7 (aO rfl) ⟨_,_,Tryz.func359,rfl⟩ rfl λ_ _ _ _=>by kernel_rfl
def AO0:aP Tryz.prog 359 mV:=AQ0 λa b c r h hb=>by
 obtain ⟨h1,h2,h3,rfl⟩:=N7 h;unfold LM WF;exact JM (P2 h1 h2 h3)
def rS {a b c:Pt} (h1:dL a) (h2:dL b) (h3:dL c):mV [aG true aA a,aG true aA b,aG true aA c]=some (Sh.enc [(false,.int .i64)] (dU a b c)):=(AA0 ..).trans (N8 _ h1 h2 h3)
noncomputable def A3O:Env:=Env.of []
def A46:FuncId->Hint:=λ_=>bA
def AMU:aV Tryz.prog A3O:=.nil _
def T9(a0:Int)(R:T->Prop):Prop:=aC (!decide (a0=a0)) (R (pPP (-1))) (aC (decide (a0<0)) (R (pPP (-1))) (aC (decide (0<a0)) (R (pPP 1)) (BJV R)))
abbrev WK:Sh:=[(false,(Sy.int IntKind.i64))]
def E8 (n:Int):Option T:=some (T.v (Value.int .i64 (P4 n)))
noncomputable def pM:List T->Option T:=gS WK E8
def AGW {a0}:pM [pPP a0]=E8 (a0):=bI (s:=WK) rfl (a0) rfl
def A05:wP Tryz.prog 367 pM E8 (cC WK) T9:=jZ (a1:=(false,(Sy.int IntKind.i64))) (sp:=E8) (F:=T9) (Hs:=A46) (f:=367) (k:=8) AMU aY a7 (aO rfl) ⟨_,_,Tryz.func367,rfl⟩ rfl λ_ _=>by kernel_rfl
def u5 (n:Int):pM [pPP n]=some (Sh.enc [(false,.int .i64)] (P4 n)):=AGW ..
noncomputable def A3P:Env:=Env.of []
def A47:FuncId->Hint:=λ_=>bA
def AMV:aV Tryz.prog A3P:=.nil _
def UA(a0:Int)(R:T->Prop):Prop:=R (pPP (if 1<if a0 < -1 then -1 else a0 then 1 else if a0 < -1 then -1 else a0))
abbrev WL:Sh:=[(false,(Sy.int IntKind.i64))]
def E9 (n:Int):Option T:=some (T.v (Value.int .i64 (P4 n)))
noncomputable def pN:List T->Option T:=gS WL E9
def AGX {a0}:pN [pPP a0]=E9 (a0):=bI (s:=WL) rfl (a0) rfl
def A06:wP Tryz.prog 358 pN E9 (cC WL) UA:=jZ (a1:=(false,(Sy.int IntKind.i64))) (sp:=E9) (F:=UA) (Hs:=A47) (f:=358) (k:=8) AMV aY a7 (aO rfl) ⟨_,_,Tryz.func358,rfl⟩ rfl λ_ _=>by kernel_rfl
def u6 (n:Int):pN [pPP n]=some (Sh.enc [(false,.int .i64)] (P4 n)):=AGX ..
def AX1:aP Tryz.prog 367 pM:=A05 λn r h hb=>by
 cases h;unfold T9 BJV;refine kX (λh=>absurd rfl h) λ_=>?_;exact cA (λh=>JM (by unfold P4;rw[if_pos h])) λh=>cA (λh2=>JM (by unfold P4;rw[if_neg h,if_pos h2])) λh2=>JM (by unfold P4;rw[if_neg h,if_neg h2])
def AX2:aP Tryz.prog 358 pN:=A06 λn r h hb=>by
 cases h;unfold UA;refine JM ?_;unfold P4;omega
noncomputable def AMF:Env:=Env.of []
def ANE:FuncId->Hint:=λ_=>bA
def YC:aV Tryz.prog AMF:=.nil _
def AIG(a2:aU)(a0:aU)(a1:aU)(R:T->Prop):Prop:=aC (decide (a2.1<=if a0.1<a1.1 then a1.1 else a0.1)) (aC (decide ((if a1.2<a0.2 then a1.2 else a0.2)<=a2.2)) (R (pPR (decide (a2.2<=if a0.2<a1.2 then a1.2 else a0.2)))) (R d4)) (R d4)
def FR(a0:aU)(a1:aU)(a2:aU)(R:T->Prop):Prop:=aC (decide ((if a1.1<a0.1 then a1.1 else a0.1)<=a2.1)) (AIG a2 a0 a1 R) (R d4)
abbrev HP:Sh:=[(true,aA),(true,aA),(true,aA)]
def vS (x:aU×aU×aU):Option T:=some (pPR (btw x.1 x.2.1 x.2.2))
noncomputable def tN:List T->Option T:=gS HP vS
def VC {a0 a1 a2}:tN [aG true aA a0,aG true aA a1,aG true aA a2]=vS (a0,a1,a2):=bI (s:=HP) rfl (a0,a1,a2) rfl
def AHT:Of3 Tryz.prog 368 tN vS (cC HP) FR:=QO (a1:=(true,aA)) (a2:=(true,aA)) (a3:=(true,aA)) (sp:=vS) (F:=FR) (Hs:=ANE) (f:=368) (k:=8) YC aY a7 (aO rfl) ⟨_,_,Tryz.func368,rfl⟩ rfl λ_ _ _ _=>by kernel_rfl
def AGD:aP Tryz.prog 368 tN:=AHT λa b c r h hb=>by
 cases h;unfold FR AIG d4;rw[VV,VV,VT,VT];refine cA (λh1=>cA (λh2=>cA (λh3=>jD ?_) λh3=>jD ?_) λh2=>jD ?_) λh1=>jD ?_
 all_goals simp[btw,h1]
 all_goals simp[h2]
 all_goals simp[h3]
noncomputable def BGE:Env:=Env.of []
def BG0:FuncId->Hint:=λ_=>bA
def A4X:aV Tryz.prog BGE:=.nil _
def AVI(a0:aU)(a1:aU)(a2:aU)(R:T->Prop):Prop:=aC (decide ((if a1.1<a0.1 then a1.1 else a0.1)<=a2.1)) (AIG a2 a0 a1 R) (R d4)
abbrev A2T:Sh:=[(true,aA),(true,aA),(true,aA)]
abbrev ALA:Sh:=[(false,Sy.bool)]
def AH4 (y:Sh.den ALA) (K:Sh.den ALA->Prop):aJ ALA (some (Sh.enc ALA y)) K=K y:=yP rfl y K
def PR (x:aU×aU×aU):Option T:=some (pPR (btw x.1 x.2.1 x.2.2))
noncomputable def eU:List T->Option T:=gS A2T PR
def AZM {a0 a1 a2}:eU [aG true aA a0,aG true aA a1,aG true aA a2]=PR (a0,a1,a2):=bI (s:=A2T) rfl (a0,a1,a2) rfl
def BEP:Of3 Tryz.prog 360 eU PR (cC A2T) AVI:=QO (a1:=(true,aA)) (a2:=(true,aA)) (a3:=(true,aA)) (sp:=PR) (F:=AVI) (Hs:=BG0) (f:=360) (k:=8) A4X aY a7 (aO rfl) ⟨_,_,Tryz.func360,rfl⟩ rfl λ_ _ _ _=>by kernel_rfl
def BCL:aP Tryz.prog 360 eU:=BEP λa b c r h hb=>by
 cases h;unfold AVI AIG d4;rw[VV,VV,VT,VT];refine cA (λh1=>cA (λh2=>cA (λh3=>jD ?_) λh3=>jD ?_) λh2=>jD ?_) λh1=>jD ?_
 all_goals simp[btw,h1]
 all_goals simp[h2]
 all_goals simp[h3]
noncomputable def BGD:Env:=Env.of [(356,.pure gF),(368,.pure tN)]
def BGZ:FuncId->Hint:=λ_=>bA
def A4R:aV Tryz.prog BGD:=.cons yW (.cons AGD (.nil _))
def GE(a0:aU)(a1:aU)(a2:aU):List T:=[aG true aA a0,aG true aA a1,aG true aA a2]
def AU7(a0:aU)(a1:aU)(a2:aU)(R:T->Prop):Prop:=aJ d9 (gF (GE a0 a1 a2)) λ(y0:Int)=>aC (decide (y0=0)) (aJ d6 (tN (GE a0 a1 a2)) λ(y1:Bool)=>R (pPR y1)) (R d4)
abbrev A2S:Sh:=[(true,aA),(true,aA),(true,aA)]
def XF (x:aU×aU×aU):Option T:=N6 x.1 x.2.1 x.2.2 (pPR (VZ x.1 x.2.1 x.2.2))
noncomputable def xJ:List T->Option T:=gS A2S XF
def AZF {a0 a1 a2}:xJ [aG true aA a0,aG true aA a1,aG true aA a2]=XF (a0,a1,a2):=bI (s:=A2S) rfl (a0,a1,a2) rfl
def BEJ:Of3 Tryz.prog 361 xJ XF (cC A2S) AU7:=QO (a1:=(true,aA)) (a2:=(true,aA)) (a3:=(true,aA)) (sp:=XF) (F:=AU7) (Hs:=BGZ) (f:=361) (k:=8) A4R aY a7 (aO rfl) ⟨_,_,Tryz.func361,rfl⟩ rfl λ_ _ _ _=>by kernel_rfl
def AX0:aP Tryz.prog 361 xJ:=BEJ λa b c r h hb=>by
 obtain ⟨h1,h2,h3,rfl⟩:=N7 h;unfold AU7 GE d9 d6 d4;refine aF (s:=[(false,.int .i64)]) (jW h1 h2 h3) ?_;refine cA (λh=>?_) λh=>jD (by unfold VZ;rw[aj h];rfl);refine aF (s:=[(false,.bool)]) (y:=btw a b c) (VC ..) ?_;exact jD (by unfold VZ;rw[ai h];rfl)
def xK {a b c:Pt} (h1:dL a) (h2:dL b) (h3:dL c):xJ [aG true aA a,aG true aA b,aG true aA c]=some (Sh.enc [(false,.bool)] (VZ a b c)):=(AZF ..).trans (N8 _ h1 h2 h3)
def SR (a b c d:Pt) (r:α):Option α:=match decide (dL a/\dL b/\dL c/\dL d) with
 | true=>some r
 | false=>none
def AB2 {a b c d:Pt} {t r:α} (h:SR a b c d t=some r):dL a/\dL b/\dL c/\dL d/\r=t:=by
 unfold SR at h;split at h
 ·rename_i hc;cases h;obtain ⟨h1,h2,h3,h4⟩:=of_decide_eq_true hc;exact ⟨h1,h2,h3,h4,rfl⟩
 ·cases h
def AB3 {a b c d:Pt} (t:α) (ha:dL a) (hb:dL b) (hc:dL c) (hd:dL d):SR a b c d t=some t:=by unfold SR;rw[ai ⟨ha,hb,hc,hd⟩]
noncomputable def A3N:Env:=Env.of [(356,.pure gF),(361,.pure xJ),(367,.pure pM)]
def A45:FuncId->Hint:=λ_=>bA
def AMT:aV Tryz.prog A3N:=.cons yW (.cons AX0 (.cons AX1 (.nil _)))
def t6(a0:aU)(a1:aU)(a3:aU):List T:=[aG true aA a0,aG true aA a1, aG true aA a3]
def BJY(y4:Int):List T:=[pPP y4]
def T8(a0:aU)(a1:aU)(a2:aU)(a3:aU)(R:T->Prop):Prop:=aJ d6 (xJ (GE a0 a1 a2)) λ(y0:Bool)=>aC y0 (R d8) (aJ d6 (xJ (GE a0 a1 a3)) λ(y1:Bool)=>aC y1 (R d8) (aJ d6 (xJ (GE a2 a3 a0)) λ(y2:Bool)=>aC y2 (R d8) (aJ d6 (xJ (GE a2 a3 a1)) λ(y3:Bool)=>aC y3 (R d8) (aJ d9 (gF (GE a0 a1 a2)) λ(y4:Int)=>aJ d9 (pM (BJY y4)) λ(y5:Int)=>aJ d9 (gF (t6 a0 a1 a3)) λ(y6:Int)=>aJ d9 (pM (BJY y6)) λ(y7:Int)=>aC (decide (i64.wrap (y5*y7)<0)) (aJ d9 (gF (t6 a2 a3 a0)) λ(y8:Int)=>aJ d9 (pM (BJY y8)) λ(y9:Int)=>aJ d9 (gF (t6 a2 a3 a1)) λ(y10:Int)=>aJ d9 (pM (BJY y10)) λ(y11:Int)=>R (pPR (decide (i64.wrap (y9*y11)<0)))) (R d4)))))
abbrev WJ:Sh:=[(true,aA),(true,aA),(true,aA),(true,aA)]
def E7 (x:aU×aU×aU×aU):Option T:=SR x.1 x.2.1 x.2.2.1 x.2.2.2 (pPR (mX x.1 x.2.1 x.2.2.1 x.2.2.2))
noncomputable def rR:List T->Option T:=gS WJ E7
def AGU {a0 a1 a2 a3}:rR [aG true aA a0,aG true aA a1,aG true aA a2,
 aG true aA a3]=E7 (a0,a1,a2,a3):=bI (s:=WJ) rfl (a0,a1,a2,a3) rfl
def A04:Of4 Tryz.prog 357 rR E7 (cC WJ) T8:=BIF (a1:=(true,aA)) (a2:=(true,aA)) (a3:=(true,aA)) (a4:=(true,aA)) (sp:=E7) (F:=T8) (Hs:=A45) (f:=357) (k:=8) AMT aY a7 (aO rfl) ⟨_,_,Tryz.func357,rfl⟩ rfl λ_ _ _ _ _=>by kernel_rfl
def AXZ:aP Tryz.prog 357 rR:=A04 λa b c d r h hb=>by
 obtain ⟨h1,h2,h3,h4,rfl⟩:=AB2 h;unfold T8 BJY GE t6 d9 d8 d6 d4;refine aF (s:=[(false,.bool)]) (xK h1 h2 h3) ?_;refine vA (λh=>jD (by unfold mX;rw[h];rfl)) λk1=>?_;refine aF (s:=[(false,.bool)]) (xK h1 h2 h4) ?_;refine vA (λh=>jD (by unfold mX;rw[h,k1];rfl)) λk2=>?_;refine aF (s:=[(false,.bool)]) (xK h3 h4 h1) ?_;refine vA (λh=>jD (by unfold mX;rw[h,k1,k2];rfl)) λk3=>?_;refine aF (s:=[(false,.bool)]) (xK h3 h4 h2) ?_;refine vA (λh=>jD (by unfold mX;rw[h,k1,k2,k3];rfl)) λk4=>?_;refine aF (s:=[(false,.int .i64)]) (jW h1 h2 h3) ?_;refine aF (s:=[(false,.int .i64)]) (u5 _) ?_;refine aF (s:=[(false,.int .i64)]) (jW h1 h2 h4) ?_;refine aF (s:=[(false,.int .i64)]) (u5 _) ?_;rw[FK];refine cA (λh=>?_) λh=>jD (by unfold mX;rw[k1,k2,k3,k4,aj h];rfl);refine aF (s:=[(false,.int .i64)]) (jW h3 h4 h1) ?_;refine aF (s:=[(false,.int .i64)]) (u5 _) ?_;refine aF (s:=[(false,.int .i64)]) (jW h3 h4 h2) ?_;refine aF (s:=[(false,.int .i64)]) (u5 _) ?_;rw[FK];exact jD (by unfold mX;rw[k1,k2,k3,k4,ai h];rfl)
def AGV {a b c d:Pt} (h1:dL a) (h2:dL b) (h3:dL c) (h4:dL d):rR [aG true aA a,aG true aA b,aG true aA c,aG true aA d]=some (Sh.enc [(false,.bool)] (mX a b c d)):=(AGU ..).trans (AB3 _ h1 h2 h3 h4)
noncomputable def BAC:Env:=Env.of []
def BAR:FuncId->Hint:=λ_=>bA
def ATR:aV Tryz.prog BAC:=.nil _
def AE0(a0:aU)(R:T->Prop):Prop:=aC (decide (a0.1 < -32768)) (R d8) (aC (decide (32768<a0.1)) (R d8) (aC (decide (a0.2 < -32768)) (R d8) (R (pPR (decide (32768<a0.2))))))
abbrev AIJ:Sh:=[(true,aA)]
def J9 (q:aU):Option T:=some (pPR (!decide (dL q)))
noncomputable def B9:List T->Option T:=gS AIJ J9
def R3 {a0}:B9 [aG true aA a0]=J9 (a0):=bI (s:=AIJ) rfl (a0) rfl
def A75:wP Tryz.prog 340 B9 J9 (cC AIJ) AE0:=jZ (a1:=(true,aA)) (sp:=J9) (F:=AE0) (Hs:=BAR) (f:=340) (k:=8) ATR aY a7 (aO rfl) ⟨_,_,Tryz.func340,rfl⟩ rfl λ_ _=>by kernel_rfl
def AKB:aP Tryz.prog 340 B9:=A75 λq r h hb=>by
 cases h;unfold AE0 d8;have no:¬ dL q->true = !decide (dL q):=λh=>by rw[aj h];rfl
 refine cA (λh=>jD (no (by unfold dL;omega))) λh1=>cA (λh=>jD (no (by unfold dL;omega))) λh2=>cA (λh=>jD (no (by unfold dL;omega))) λh3=>jD ?_;by_cases h:dL q
 ·rw[ai h,Bool.not_true];unfold dL at h;exact aj (by omega)
 ·rw[aj h,Bool.not_false];unfold dL at h;exact ai (by omega)
def A2Z {n:Int}:P4 n=0↔n=0:=by
 unfold P4;split
 ·omega
 ·split<;>omega
noncomputable def AS6:Env:=Env.of [(359,.pure mV),(358,.pure pN),(360,.pure eU)]
def AV3:FuncId->Hint:=λ_=>bA
def AEC:aV Tryz.prog AS6:=.cons AO0 (.cons AX2 (.cons BCL (.nil _)))
def UV(y5:Int)(a2:aU)(a3:aU)(a0:aU)(R:T->Prop)(y7:Int)(a1:aU):Prop:=aC (decide (y5=0)) (aJ d6 (eU (t6 a2 a3 a0)) λ(y10:Bool)=>aC y10 (R d8) (aC (decide (y7=0)) (aJ d6 (eU (t6 a2 a3 a1)) λ(y11:Bool)=>R (pPR y11)) (R d4))) (aC (decide (y7=0)) (aJ d6 (eU (t6 a2 a3 a1)) λ(y12:Bool)=>R (pPR y12)) (R d4))
def f5(y3:Int)(a0:aU)(a1:aU)(a3:aU)(R:T->Prop)(y5:Int)(a2:aU)(y7:Int):Prop:=aC (decide (y3=0)) (aJ d6 (eU (t6 a0 a1 a3)) λ(y9:Bool)=>aC y9 (R d8) (UV y5 a2 a3 a0 R y7 a1)) (UV y5 a2 a3 a0 R y7 a1)
def LO(a0:aU)(a1:aU)(a2:aU)(a3:aU)(R:T->Prop):Prop:=aJ d9 (mV (GE a0 a1 a2)) λ(y0:Int)=>aJ d9 (pN (BJY y0)) λ(y1:Int)=>aJ d9 (mV (GE a0 a1 a3)) λ(y2:Int)=>aJ d9 (pN (BJY y2)) λ(y3:Int)=>aJ d9 (mV (GE a2 a3 a0)) λ(y4:Int)=>aJ d9 (pN (BJY y4)) λ(y5:Int)=>aJ d9 (mV (GE a2 a3 a1)) λ(y6:Int)=>aJ d9 (pN (BJY y6)) λ(y7:Int)=>aC (decide (i64.wrap (y1*y3)<0)) (aC (decide (i64.wrap (y5*y7)<0)) (R d8) (aC (decide (y1=0)) (aJ d6 (eU (t6 a0 a1 a2)) λ(y8:Bool)=>aC y8 (R d8) (f5 y3 a0 a1 a3 R y5 a2 y7)) (f5 y3 a0 a1 a3 R y5 a2 y7))) (aC (decide (y1=0)) (aJ d6 (eU (t6 a0 a1 a2)) λ(y23:Bool)=>aC y23 (R d8) (f5 y3 a0 a1 a3 R y5 a2 y7)) (f5 y3 a0 a1 a3 R y5 a2 y7))
abbrev O9:Sh:=[(true,aA),(true,aA),(true,aA),(true,aA)]
def AD (x:aU×aU×aU×aU):Option T:=SR x.1 x.2.1 x.2.2.1 x.2.2.2 (pPR (mX x.1 x.2.1 x.2.2.1 x.2.2.2))
noncomputable def xN:List T->Option T:=gS O9 AD
def AA7 {a0 a1 a2 a3}:xN [aG true aA a0,aG true aA a1,aG true aA a2,
 aG true aA a3]=AD (a0,a1,a2,a3):=bI (s:=O9) rfl (a0,a1,a2,a3) rfl
def AQ2:Of4 Tryz.prog 344 xN AD (cC O9) LO:=BIF (a1:=(true,aA)) (a2:=(true,aA)) (a3:=(true,aA)) (a4:=(true,aA)) (sp:=AD) (F:=LO) (Hs:=AV3) (f:=344) (k:=8) AEC aY a7 (aO rfl) ⟨_,_,Tryz.func344,rfl⟩ rfl λ_ _ _ _ _=>by kernel_rfl
def A17 (a b c:Pt) (K:Bool->Prop):aJ [(false,Sy.bool)] (eU [aG true aA a,aG true aA b,aG true aA c]) K=K (btw a b c):=by
 rw[show eU [aG true aA a,aG true aA b,aG true aA c]=PR (a,b,c) from AZM ..];exact AH4 _ K
def AO1:aP Tryz.prog 344 xN:=AQ2 λa b c d r h hb=>by
 obtain ⟨h1,h2,h3,h4,rfl⟩:=AB2 h;unfold LO BJY GE f5 UV t6 d9 d8 d6 d4;refine aF (s:=[(false,.int .i64)]) (rS h1 h2 h3) ?_;refine aF (s:=[(false,.int .i64)]) (u6 _) ?_;refine aF (s:=[(false,.int .i64)]) (rS h1 h2 h4) ?_;refine aF (s:=[(false,.int .i64)]) (u6 _) ?_;refine aF (s:=[(false,.int .i64)]) (rS h3 h4 h1) ?_;refine aF (s:=[(false,.int .i64)]) (u6 _) ?_;refine aF (s:=[(false,.int .i64)]) (rS h3 h4 h2) ?_;refine aF (s:=[(false,.int .i64)]) (u6 _) ?_;rw[FK,FK];have e:∀ {n:Bool},mX a b c d=n->pPR n=pPR (mX a b c d):=λh=>by rw[h]
 simp only[A17];unfold mX at e;unfold VZ at e;clear h hb
 repeat' first
  | refine cA (λh=>?_) (λh=>?_)
  | refine vA (λh=>?_) (λh=>?_)
 all_goals (refine e ?_;clear e;simp only[A2Z] at *;simp[*,show P4 0=0 from rfl])
end Go.Pv
namespace Go.Pv
open Go Go.Proofs IntKind
def V2 {p:List Pt} {i:Nat} (h:i<p.length):pt p i=p[i]:=by unfold pt;rw[List.getD_eq_getElem?_getD,List.getElem?_eq_getElem h];rfl
def fO {p:List aU} {k:Nat} (h:k<p.length) (K:aU->Prop):aR aA (List.map aA.enc p) (k:Int) K=K (pt p k):=by
 rw[bD (r:=aA) h,V2 h]
def u9 {i n c:Nat} (hn:n<=1000) (hi:i<=1000) (hc:c<=2):(i64.wrap ((i:Int)+(c:Int))).tmod (n:Int)=(((i+c) % n:Nat):Int):=by
 rw[bG _ (by omega) (by omega),Int.tmod_eq_emod_of_nonneg (by omega),Int.natCast_emod,Int.natCast_add]
def AN4 (a b c:Pt):Int:=(a.1-b.1)*(c.1-b.1)+(a.2-b.2)*(c.2-b.2)
def QR (p:List Pt) (i k:Nat):Bool:=!(!decide ((k+1) % p.length=i)&&mX (pt p i) (nx p i) (pt p k) (nx p k))
def nxx (p:List Pt) (i:Nat):Pt:=pt p ((i+2) % p.length)
def ACD (p:List Pt) (i:Nat):Bool:=!decide (pt p i=nx p i)&&(!(decide (dU (pt p i) (nx p i) (nxx p i)=0)&&decide (0<AN4 (pt p i) (nx p i) (nxx p i)))&&(List.range p.length).all λk=>decide (k<i+2)||QR p i k)
def I9 (p:List Pt):Bool:=(List.range p.length).all (ACD p)
def kJ (p:List Pt):Prop:=∀ q∈p,dL q
def N9 (p:List Pt):Bool:=p.all λq=>decide (dL q)
def nW {p:List Pt}:N9 p=true↔kJ p:=by
 simp only[N9,List.all_eq_true,ah];exact Iff.rfl
def kJ.pt {p:List Pt} (h:kJ p) (i:Nat):dL (pt p i):=by
 rcases Nat.lt_or_ge i p.length with hi|hi
 ·rw[V2 hi];exact h _ (ak hi)
 ·unfold Go.Pv.pt;rw[List.getD_eq_getElem?_getD,List.getElem?_eq_none hi];unfold dL;decide
def QQ (p:List Pt):Bool:=decide (p.length<=1000)&&N9 p
variable {α:Type}
def SZ (p:List Pt) (r:α):Option α:=match QQ p with
 | true=>some r
 | false=>none
def ACG {p:List Pt} {t r:α} (h:SZ p t=some r):p.length<=1000/\kJ p/\r=t:=by
 unfold SZ at h;split at h
 ·rename_i hc;simp only[QQ,ac,ah,nW] at hc;cases h;exact ⟨hc.1,hc.2,rfl⟩
 ·cases h
def ACH {p:List Pt} (t:α) (h:p.length<=1000) (h2:kJ p):SZ p t=some t:=by
 unfold SZ;rw[show QQ p=true by simp only[QQ,ac,ah,nW];exact ⟨h,h2⟩]
def A3B {a b c:Pt} (ha:dL a) (hb:dL b) (hc:dL c):i64.wrap (i64.wrap (i64.wrap (a.1-b.1)*i64.wrap (c.1-b.1))+i64.wrap (i64.wrap (a.2-b.2)*i64.wrap (c.2-b.2)))=AN4 a b c:=by
 unfold dL at ha hb hc;have h1:=CF (x:=a.1-b.1) (y:=c.1-b.1) (M:=65536) (N:=65536) (by omega) (by omega) (by omega) (by omega);have h2:=CF (x:=a.2-b.2) (y:=c.2-b.2) (M:=65536) (N:=65536) (by omega) (by omega) (by omega) (by omega);rw[bG (a.1-b.1) (by omega) (by omega),bG (c.2-b.2) (by omega) (by omega),bG (a.2-b.2) (by omega) (by omega),bG (c.1-b.1) (by omega) (by omega),
  bG ((a.1-b.1)*(c.1-b.1)) (by omega) (by omega),bG ((a.2-b.2)*(c.2-b.2)) (by omega) (by omega),bG _ (by omega) (by omega)]
 rfl
noncomputable def AMD:Env:=Env.of [(356,.pure gF),(357,.pure rR)]
def ANB:FuncId->Hint:=b6 341 [(3,.inv [.val 13 false (.int .i64)]),(12,.inv [.val 8 false (.int .i64)])] (λ_=>bA)
def YA:aV Tryz.prog AMD:=.cons yW (.cons AXZ (.nil _))
def i8(a0:List aU)(s1:Int×PUnit)(y2:aU)(y3:aU)(R:T->Prop)(X0:Int×PUnit->Prop):Prop:=bB (Int×PUnit) (λX6 s7=>aC (decide (s7.1<(↑(g9 a0).length:Int))) (bR (!decide ((↑(g9 a0).length:Int)=0)) (aC (!decide ((i64.wrap (s7.1+1)).tmod (↑(g9 a0).length:Int) = s1.1)) (aR aA (g9 a0) s7.1 λ(y8:aU)=>bR (!decide ((↑(g9 a0).length:Int)=0)) (aR aA (g9 a0) ((i64.wrap (s7.1+1)).tmod (↑(g9 a0).length:Int)) λ(y9:aU)=>aJ d6 (rR [aG true aA y2,aG true aA y3, aG true aA y8,aG true aA y9]) λ(y10:Bool)=>aC y10 (R d4) (f9 X6 s7))) (f9 X6 s7))) (f9 X0 s1)) (i64.wrap (s1.1+2),())
def FP(a0:List aU)(R:T->Prop):Prop:=bB (Int×PUnit) (λX0 s1=>aC (decide (s1.1<(↑(g9 a0).length:Int))) (aR aA (g9 a0) s1.1 λ(y2:aU)=>bR (!decide ((↑(g9 a0).length:Int)=0)) (aR aA (g9 a0) ((i64.wrap (s1.1+1)).tmod (↑(g9 a0).length:Int)) λ(y3:aU)=>aC (decide (y2.1=y3.1)&&(decide (y2.2=y3.2)&&true)) (R d4) (bR (!decide ((↑(g9 a0).length:Int)=0)) (aR aA (g9 a0) ((i64.wrap (s1.1+2)).tmod (↑(g9 a0).length:Int)) λ(y4:aU)=>aJ d9 (gF (t6 y2 y3 y4)) λ(y5:Int)=>aC (decide (y5=0)) (aC (decide (0 < i64.wrap (i64.wrap (i64.wrap (y2.1-y3.1)*i64.wrap (y4.1-y3.1)) + i64.wrap (i64.wrap (y2.2-y3.2)*i64.wrap (y4.2-y3.2))))) (R d4) (i8 a0 s1 y2 y3 R X0)) (i8 a0 s1 y2 y3 R X0))))) (R d8)) (0,())
abbrev HN:Sh:=[(false,aA.li)]
def vQ (p:List aU):Option T:=SZ p (pPR (I9 p))
noncomputable def nT:List T->Option T:=gS HN vQ
def U9 {a0}:nT [T.sl false (List.map aA.enc a0)]=vQ (a0):=bI (s:=HN) rfl (a0) rfl
def AHR:wP Tryz.prog 341 nT vQ (cC HN) FP:=jZ (a1:=(false,aA.li)) (sp:=vQ) (F:=FP) (Hs:=ANB) (f:=341) (k:=8) YA aY a7 (aO rfl) ⟨_,_,Tryz.func341,rfl⟩ rfl λ_ _=>by kernel_rfl
def UM {n:Nat} {f:Nat->Bool} {i:Nat} (hi:i<n) (h:f i=false):(List.range n).all f=false:=by
 rw[Bool.eq_false_iff];intro ha;have:=pS.1 ha i hi;rw[h] at this;cases this
def ARS {p:List aU} {i:Nat} (hl:p.length<=1000) (hn:kJ p) (hi:i<p.length) {Bad Good:Prop} (hbad:(List.range p.length).all (λk=>decide (k<i+2)||QR p i k)=false->Bad) (hgood:(List.range p.length).all (λk=>decide (k<i+2)||QR p i k)=true->Good) :
  bB (Int×PUnit)
   (λ(X6:Int×PUnit->Prop) (s7:Int×PUnit) =>
    aC (decide (s7.1<(↑(List.map aA.enc p).length:Int)))
     (bR (!decide ((↑(List.map aA.enc p).length:Int)=0))
      (aC (!decide ((i64.wrap (s7.1+1)).tmod (↑(List.map aA.enc p).length:Int)=(i:Int)))
       (aR aA (List.map aA.enc p) s7.1 λ(y8:aU) =>
        bR (!decide ((↑(List.map aA.enc p).length:Int)=0))
         (aR aA (List.map aA.enc p) ((i64.wrap (s7.1+1)).tmod (↑(List.map aA.enc p).length:Int))
          λ(y9:aU) =>
          aJ [(false,Sy.bool)] (rR [aG true aA (pt p i),aG true aA (nx p i),aG true aA y8,aG true aA y9])
           λ(y10:Bool)=>aC y10 Bad (X6 (i64.wrap (s7.1+1),()))))
       (X6 (i64.wrap (s7.1+1),()))))
     Good)
   (i64.wrap ((i:Int)+2),()):=by
 refine bK p.length (λm s=>s=(((i+2+m:Nat):Int),())/\∀ k,k<i+2+m->k<p.length->(decide (k<i+2)||QR p i k)=true) ⟨by rw[bG _ (by omega) (by omega)];simp,λk h1 h2=>by simp at h1;simp[h1]⟩ ?_;rintro X m s hm ⟨rfl,hJ⟩ hX;dsimp only;rw[ae];refine cA (λhlt=>?_) λhge=>hgood (pS.2 λk hk=>hJ k (by omega) hk);have hk:i+2+m<p.length:=by omega
 have hne:(!decide ((p.length:Int)=0))=true:=by rw[aj (by omega)];rfl
 have hix:(i64.wrap (((i+2+m:Nat):Int)+1)).tmod (p.length:Int)=(((i+2+m+1) % p.length:Nat):Int):=u9 (c:=1) hl (by omega) (by omega);have hw:i64.wrap (((i+2+m:Nat):Int)+1)=((i+2+(m+1):Nat):Int):=by rw[bG _ (by omega) (by omega)];omega
 have hmod:(i+2+m+1) % p.length<p.length:=Nat.mod_lt _ (by omega);have go:QR p i (i+2+m)=true->X (((i+2+(m+1):Nat):Int),()):=λh=>hX _ (by omega) ⟨rfl,λk h1 h2=>by
  rcases Nat.lt_or_ge k (i+2+m) with h3|h3
  ·exact hJ k h3 h2
  ·have:k=i+2+m:=by omega
   subst this;rw[h];simp⟩
 refine ⟨hne,?_⟩;rw[hix,hw];refine kX (λh=>?_) λh=>go (by unfold QR;rw[ai (show (i+2+m+1) % p.length=i by omega)];rfl);rw[fO hk,A1Y,fO hmod];refine ⟨hne,?_⟩;refine aF (s:=[(false,.bool)]) (AGV (hn.pt _) (hn.pt _) (hn.pt _) (hn.pt _)) ?_;have e:QR p i (i+2+m) = !mX (pt p i) (nx p i) (pt p (i+2+m)) (nx p (i+2+m)):=by
  unfold QR;rw[aj (show ¬ (i+2+m+1) % p.length=i by omega)];rfl
 refine vA (λhm=>hbad (UM hk ?_)) λhm=>go ?_
 ·show (decide (i+2+m<i+2)||QR p i (i+2+m))=false;rw[e,show mX (pt p i) (nx p i) (pt p (i+2+m)) (nx p (i+2+m))=true from hm];simp
 ·rw[e,show mX (pt p i) (nx p i) (pt p (i+2+m)) (nx p (i+2+m))=false from hm];rfl
def AGC:aP Tryz.prog 341 nT:=AHR λp r h hb=>by
 obtain ⟨hl,hn,rfl⟩:=ACG h;clear h;unfold FP i8 g9 f9 t6 d9 d8 d6 d4;refine bK p.length (λk s=>s=((k:Int),())/\∀ i,i<k->i<p.length->ACD p i=true) ⟨rfl,λi h=>by omega⟩ ?_;rintro X k s hk ⟨rfl,hJ⟩ hX;dsimp only;refine cA (λhlt=>?_) λhge=>jD (Eq.symm (pS.2 λi hi=>hJ i (by rw[ae] at hge;omega) hi));rw[ae] at hlt;have hlt:k<p.length:=by omega
 have hne:(!decide (((List.map aA.enc p).length:Int)=0))=true:=by rw[ae,aj (by omega)];rfl
 have hm1:(k+1) % p.length<p.length:=Nat.mod_lt _ (by omega);have hm2:(k+2) % p.length<p.length:=Nat.mod_lt _ (by omega);have i1:(i64.wrap ((k:Int)+1)).tmod ((List.map aA.enc p).length:Int)=(((k+1) % p.length:Nat):Int):=by rw[ae];exact u9 (c:=1) hl (by omega) (by omega)
 have i2:(i64.wrap ((k:Int)+2)).tmod ((List.map aA.enc p).length:Int)=(((k+2) % p.length:Nat):Int):=by rw[ae];exact u9 (c:=2) hl (by omega) (by omega)
 have bad:ACD p k=false->pPR false=pPR (I9 p):=λh=>jD (UM hlt h).symm;have oO:ACD p k=true->X (i64.wrap ((k:Int)+1),()):=λh=>hX _ hlt ⟨by rw[show i64.wrap ((k:Int)+1)=((k+1:Nat):Int) from bG _ (by omega) (by omega)],λi h1 h2=>by
  rcases Nat.lt_or_ge i k with h3|h3
  ·exact hJ i h3 h2
  ·have:i=k:=by omega
   subst this;exact h⟩
 rw[fO hlt,i1];refine ⟨hne,?_⟩;rw[fO hm1];have heq:(decide ((pt p k).1=(pt p ((k+1) % p.length)).1)&&(decide ((pt p k).2=(pt p ((k+1) % p.length)).2)&&true))=decide (pt p k=nx p k):=by
  rw[Bool.and_true,<-Bool.decide_and];exact decide_eq_decide.2 Prod.ext_iff.symm
 rw[heq];refine cA (λh=>bad (by unfold ACD;rw[ai h];rfl)) λh1=>?_;refine ⟨hne,?_⟩;rw[i2,fO hm2];refine aF (s:=[(false,.int .i64)]) (jW (hn.pt _) (hn.pt _) (hn.pt _)) ?_;have inner:(decide (dU (pt p k) (nx p k) (nxx p k)=0)&&decide (0<AN4 (pt p k) (nx p k) (nxx p k)))=false->ACD p k=(List.range p.length).all λj=>decide (j<k+2)||QR p k j:=λh=>by
  unfold ACD;rw[aj h1,h];simp
 have tail:(decide (dU (pt p k) (nx p k) (nxx p k)=0)&&decide (0<AN4 (pt p k) (nx p k) (nxx p k)))=false->_:=λh=>ARS (Bad:=pPR false=pPR (I9 p)) (Good:=X (i64.wrap ((k:Int)+1),())) hl hn hlt (λh2=>bad (by rw[inner h,h2])) (λh2=>oO (by rw[inner h,h2]));refine cA (λh2=>?_) λh2=>tail (by rw[show decide (dU (pt p k) (nx p k) (nxx p k)=0)=false from aj h2];rfl);rw[A3B (hn.pt _) (hn.pt _) (hn.pt _)];refine cA (λh3=>bad ?_) λh3=>tail (by rw[show decide (0<AN4 (pt p k) (nx p k) (nxx p k))=false from aj h3];simp);unfold ACD;rw[ai (show dU (pt p k) (nx p k) (nxx p k)=0 from h2),ai (show 0<AN4 (pt p k) (nx p k) (nxx p k) from h3)];simp
def VA {p:List Pt} (h:p.length<=1000) (h2:kJ p):nT [T.sl false (List.map aA.enc p)]=some (Sh.enc [(false,.bool)] (I9 p)):=(U9 ..).trans (ACH _ h h2)
def AN:Nat->(Nat->Int)->Int
 | 0,_=>0
 | n+1,f=>AN n f+f n
def AIP (p:List Pt) (i:Nat):Int:=(pt p i).1*(nx p i).2-(nx p i).1*(pt p i).2
def L7 (p:List Pt):Int:=AN p.length (AIP p)
def ALJ {p:List Pt} (h:kJ p) (i:Nat):(-1073741824<=(pt p i).1*(nx p i).2/\(pt p i).1*(nx p i).2<=1073741824)/\(-1073741824<=(nx p i).1*(pt p i).2/\(nx p i).1*(pt p i).2<=1073741824):=by
 have h1:=h.pt i;have h2:dL (nx p i):=h.pt _;unfold dL at h1 h2;have b1:=CF (x:=(pt p i).1) (y:=(nx p i).2) (M:=32768) (N:=32768) (by omega) (by omega) (by omega) (by omega);have b2:=CF (x:=(nx p i).1) (y:=(pt p i).2) (M:=32768) (N:=32768) (by omega) (by omega) (by omega) (by omega);constructor<;>constructor<;>omega
def JV {p:List Pt} (h:kJ p):∀ n:Nat,-(2147483648*(n:Int))<=AN n (AIP p)/\AN n (AIP p)<=2147483648*(n:Int)
 | 0=>by simp[AN]
 | n+1=>by
  have ih:=JV h n;have hb:=ALJ h n;unfold AN;have e:AIP p n=(pt p n).1*(nx p n).2-(nx p n).1*(pt p n).2:=rfl;constructor<;>push_cast<;>omega
noncomputable def A3K:Env:=Env.of []
def A42:FuncId->Hint:=b6 342 [(3,.inv [.val 3 false (.int .i64),.val 9 false (.int .i64)])] (λ_=>bA)
def AMQ:aV Tryz.prog A3K:=.nil _
def T5(a0:List aU)(R:T->Prop):Prop:=bB (Int×Int×PUnit) (λX0 s1=>aC (decide (s1.2.1<(↑(g9 a0).length:Int))) (aR aA (g9 a0) s1.2.1 λ(y2:aU)=>bR (!decide ((↑(g9 a0).length:Int)=0)) (aR aA (g9 a0) ((i64.wrap (s1.2.1+1)).tmod (↑(g9 a0).length:Int)) λ(y3:aU)=>X0 (i64.wrap (s1.1 + i64.wrap (i64.wrap (y2.1*y3.2)-i64.wrap (y3.1*y2.2))), i64.wrap (s1.2.1+1),()))) (R (pPP s1.1))) (0,0,())
abbrev WG:Sh:=[(false,aA.li)]
def E5 (p:List aU):Option T:=SZ p (T.v (Value.int .i64 (L7 p)))
noncomputable def pJ:List T->Option T:=gS WG E5
def AGS {a0}:pJ [T.sl false (List.map aA.enc a0)]=E5 (a0):=bI (s:=WG) rfl (a0) rfl
def A01:wP Tryz.prog 342 pJ E5 (cC WG) T5:=jZ (a1:=(false,aA.li)) (sp:=E5) (F:=T5) (Hs:=A42) (f:=342) (k:=8) AMQ aY a7 (aO rfl) ⟨_,_,Tryz.func342,rfl⟩ rfl λ_ _=>by kernel_rfl
def Z1:aP Tryz.prog 342 pJ:=A01 λp r h hb=>by
 obtain ⟨hl,hn,rfl⟩:=ACG h;clear h;unfold T5 g9;refine bK p.length (λk s=>s=(AN k (AIP p),(k:Int),())) rfl ?_;rintro X k s hk rfl hX;dsimp only;refine cA (λhlt=>?_) λhge=>JM (by rw[ae] at hge;rw[show k=p.length by omega];rfl);rw[ae] at hlt;have hlt:k<p.length:=by omega
 have hne:(!decide (((List.map aA.enc p).length:Int)=0))=true:=by rw[ae,aj (by omega)];rfl
 have hm1:(k+1) % p.length<p.length:=Nat.mod_lt _ (by omega);have i1:(i64.wrap ((k:Int)+1)).tmod ((List.map aA.enc p).length:Int)=(((k+1) % p.length:Nat):Int):=by rw[ae];exact u9 (c:=1) hl (by omega) (by omega)
 rw[fO hlt,i1];refine ⟨hne,?_⟩;rw[fO hm1];have hb1:=ALJ hn k;have hb2:=JV hn k;have hb3:=JV hn (k+1);refine hX _ hlt ?_;rw[show i64.wrap ((k:Int)+1)=((k+1:Nat):Int) from bG _ (by omega) (by omega)];have e:i64.wrap (AN k (AIP p)+i64.wrap (i64.wrap ((pt p k).1*(nx p k).2)-i64.wrap ((nx p k).1*(pt p k).2)))=AN (k+1) (AIP p):=by
  rw[bG ((pt p k).1*(nx p k).2) (by omega) (by omega),bG ((nx p k).1*(pt p k).2) (by omega) (by omega),bG ((pt p k).1*(nx p k).2-(nx p k).1*(pt p k).2) (by omega) (by omega),bG _ (by omega) (by omega)];rfl
 rw[<-e];rfl
def NS {p:List Pt} (h:p.length<=1000) (h2:kJ p):pJ [T.sl false (List.map aA.enc p)]=some (Sh.enc [(false,.int .i64)] (L7 p)):=(AGS ..).trans (ACH _ h h2)
def kN (p:List Pt):Int:=if p.length<3 then 3 else if 32<p.length then 4 else if N9 p=false then 9 else if I9 p=false\/L7 p=0 then 17 else 0
noncomputable def AMC:Env:=Env.of [(340,.pure B9),(341,.pure nT),(342,.pure pJ)]
def ANA:FuncId->Hint:=b6 355 [(2,.inv [.val 8 false (.int .i64)])] (λ_=>bA)
def XZ:aV Tryz.prog AMC:=.cons AKB (.cons AGC (.cons Z1 (.nil _)))
def ST(a0:List aU)(R:T->Prop):Prop:=aJ d6 (nT (BJU a0)) λ(y4:Bool)=>aC (!y4) (R (pPP 17)) (aJ d9 (pJ (BJU a0)) λ(y5:Int)=>aC (decide (y5=0)) (R (pPP 17)) (BJV R))
def FO(a0:List aU)(R:T->Prop):Prop:=aC (decide ((↑(g9 a0).length:Int)<3)) (R (pPP 3)) (aC (decide (32<(↑(g9 a0).length:Int))) (R (pPP 4)) (bB (Int×PUnit) (λX0 s1=>aC (decide (s1.1<(↑(g9 a0).length:Int))) (aR aA (g9 a0) s1.1 λ(y2:aU)=>aJ d6 (B9 [aG true aA y2]) λ(y3:Bool)=>aC y3 (aC (decide (0<=s1.1)) (t7 R) (ST a0 R)) (f9 X0 s1)) (ST a0 R)) (0,())))
abbrev HM:Sh:=[(false,aA.li)]
def vP (p:List aU):Option T:=some (T.v (Value.int .i64 (kN p)))
noncomputable def gU:List T->Option T:=gS HM vP
def U8 {a0}:gU [T.sl false (List.map aA.enc a0)]=vP (a0):=bI (s:=HM) rfl (a0) rfl
def AHQ:wP Tryz.prog 310 gU vP (cC HM) FO:=jZ (a1:=(false,aA.li)) (sp:=vP) (F:=FO) (Hs:=ANA) (f:=310) (k:=8) XZ aY a7 (aO rfl) ⟨_,_,Tryz.func310,rfl⟩ rfl λ_ _=>by kernel_rfl
def B1:aP Tryz.prog 310 gU:=AHQ λp r h hb=>by
 cases h;have is:∀ {n:Int},kN p=n->pPP n=pPP (kN p):=λh=>by rw[h]
 unfold FO ST BJV BJU g9 f9 t7 d9 d6;refine cA (λh=>is (by rw[ae] at h;unfold kN;rw[if_pos (by omega)])) λh1=>?_;refine cA (λh=>is (by rw[ae] at h h1;unfold kN;rw[if_neg (by omega),if_pos (by omega)])) λh2=>?_;rw[ae] at h1 h2;refine bK p.length (λk s=>s=((k:Int),())/\∀ i,i<k->i<p.length->dL (pt p i)) ⟨rfl,λi h=>by omega⟩ ?_;rintro X k s hk ⟨rfl,hJ⟩ hX;dsimp only;refine cA (λhlt=>?_) λhge=>?_
 ·rw[ae] at hlt;have hlt:k<p.length:=by omega
  rw[fO hlt];refine aF (s:=[(false,.bool)]) (y:=!decide (dL (pt p k))) (R3 ..) ?_;refine kX (λhf=>?_) λhn=>hX _ hlt ⟨by rw[show i64.wrap ((k:Int)+1)=((k+1:Nat):Int) from bG _ (by omega) (by omega)],λi h1 h2=>by
   rcases Nat.lt_or_ge i k with h3|h3
   ·exact hJ i h3 h2
   ·have:i=k:=by omega
    subst this;exact hn⟩
  refine cA (λ_=>is ?_) λh=>by omega
  have:N9 p=false:=by
   rw[Bool.eq_false_iff];intro h;have:=nW.1 h _ (ak hlt);rw[<-V2 hlt] at this;exact hf this
  unfold kN;rw[if_neg (by omega),if_neg (by omega),if_pos this]
 ·have hN:kJ p:=λq hq=>by
   obtain ⟨i,hi,rfl⟩:=List.mem_iff_getElem.1 hq;rw[<-V2 hi];rw[ae] at hge;exact hJ i (by omega) hi
  have hnb:¬ N9 p=false:=by rw[nW.2 hN];simp
  refine aF (s:=[(false,.bool)]) (VA (by omega) hN) ?_;refine fK (λh=>is (by unfold kN;rw[if_neg (by omega),if_neg (by omega),if_neg hnb,if_pos (.inl h)])) λhs=>?_;refine aF (s:=[(false,.int .i64)]) (NS (by omega) hN) ?_;refine cA (λh=>is (by unfold kN;rw[if_neg (by omega),if_neg (by omega),if_neg hnb,if_pos (.inr h)])) λha=>is ?_;unfold kN;rw[if_neg (by omega),if_neg (by omega),if_neg hnb,if_neg];rintro (h|h)
  ·rw[show I9 p=true from hs] at h;cases h
  ·exact ha h
def pK (p:List Pt):gU [T.sl false (List.map aA.enc p)]=some (Sh.enc [(false,.int .i64)] (kN p)):=U8 ..
def uB {p:List Pt} (h:kN p=0):3<=p.length/\p.length<=32/\kJ p/\I9 p=true/\L7 p≠0:=by
 unfold kN at h;by_cases h1:p.length<3
 ·rw[if_pos h1] at h;cases h
 rw[if_neg h1] at h;by_cases h2:32<p.length
 ·rw[if_pos h2] at h;cases h
 rw[if_neg h2] at h;by_cases h3:N9 p=false
 ·rw[if_pos h3] at h;cases h
 rw[if_neg h3] at h;by_cases h4:I9 p=false\/L7 p=0
 ·rw[if_pos h4] at h;cases h
 refine ⟨by omega,by omega,nW.1 (by simpa using h3),by simpa using λe=>h4 (.inl e),λe=>h4 (.inr e)⟩
def rL (p:List Pt):Int:=if kN p=0 then L7 p else 0
noncomputable def ASQ:Env:=Env.of [(310,.pure gU),(342,.pure pJ)]
def AVS:FuncId->Hint:=λ_=>bA
def AD0:aV Tryz.prog ASQ:=.cons B1 (.cons Z1 (.nil _))
def LA(a0:List aU)(R:T->Prop):Prop:=aJ d9 (gU (BJU a0)) λ(y0:Int)=>aC (!decide (y0=0)) (BJV R) (aJ d9 (pJ (BJU a0)) λ(y1:Int)=>R (pPP y1))
abbrev OY:Sh:=[(false,aA.li)]
def zW (p:List aU):Option T:=some (T.v (Value.int .i64 (rL p)))
noncomputable def mS:List T->Option T:=gS OY zW
def AAO {a0}:mS [T.sl false (List.map aA.enc a0)]=zW (a0):=bI (s:=OY) rfl (a0) rfl
def AQQ:wP Tryz.prog 311 mS zW (cC OY) LA:=jZ (a1:=(false,aA.li)) (sp:=zW) (F:=LA) (Hs:=AVS) (f:=311) (k:=8) AD0 aY a7 (aO rfl) ⟨_,_,Tryz.func311,rfl⟩ rfl λ_ _=>by kernel_rfl
def RG:aP Tryz.prog 311 mS:=AQQ λp r h hb=>by
 cases h;unfold LA BJV BJU g9 d9;refine aF (s:=[(false,.int .i64)]) (pK p) ?_;refine kX (λh=>JM (by unfold rL;rw[if_neg h])) λh=>?_;obtain ⟨_,h2,h3,_⟩:=uB h;refine aF (s:=[(false,.int .i64)]) (NS (by omega) h3) ?_;exact JM (by unfold rL;rw[if_pos h])
def xI (p:List Pt):mS [T.sl false (List.map aA.enc p)]=some (Sh.enc [(false,.int .i64)] (rL p)):=AAO ..
end Go.Pv
