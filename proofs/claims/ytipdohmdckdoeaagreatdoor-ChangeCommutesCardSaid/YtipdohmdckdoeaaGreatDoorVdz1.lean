/-
  Facts on the program that every function's file asks for.
  slices.Clone, Insert, Delete at the design's lists.
  The seam, the part, the section with an identifier.
  The part with an identifier, as the program finds it; how thick a seam is.
  Words that several files share.
  The way from the block down to a part.
  Packages; equality of lists, shapes, parts and packages.
  StructureFinds: Part, Node, Seam and Package answer as the reference does.
  StructureSames: Same answers as the reference does.
  edit.same; copies of parts, packages, designs.
  Chapter 17: the indices of a design, walked.
  Chapter 17: rising, walked.
  strings.Split on typed data.
  Names and identifiers.
  Chapter 17: the tree's form, walked.
  Chapter 17: the tree's other methods where a design's elements are empty, and Check there.
  Chapter 17: the tree's seams and requirements.
  dag.Order, walked.
  Chapter 17: the tree's parts and packages, walked; Check, walked.
  Plane geometry, plain.
  poly: crosses and edges.
  poly: simple contours and their areas.
-/
import Derived.Test.YtipdohmdckdoeaaGreatDoorVdki
import Derived.Test.YtipdohmdckdoeaaGreatDoorVdty
import Derived.Test.YtipdohmdckdoeaaGreatDoorProg
import Derived.KernelRfl
import Derived.Test.YtipdohmdckdoeaaGreatDoorVdin
import Derived.Test.YtipdohmdckdoeaaGreatDoorVdkj
import Derived.Test.YtipdohmdckdoeaaGreatDoorVdkn
import Derived.Test.YtipdohmdckdoeaaGreatDoorVdgs
import Derived.Test.YtipdohmdckdoeaaGreatDoorVdsl
import Derived.Laws.RangeAny
import Derived.Test.YtipdohmdckdoeaaGreatDoorVdkm
set_option linter.defProp false
set_option linter.unusedSimpArgs false
set_option linter.unusedVariables false
namespace Go.Pv
open Go Go.Proofs IntKind
def aZ:Tryz.prog.follows .mixedOrders=true:=by kernel_rfl
def a7:cI Tryz.prog=true:=by kernel_rfl
end Go.Pv
set_option maxRecDepth 100000
namespace Go.Pv
open Go Go.Proofs IntKind
variable {P:Program}
def pE {t:TypeId} {zv:Value} {z b:Nat} (h:(P.info? t).map (λi=>(i.zero,i.size,i.bytes))=some (some zv,z,b)):∃ i,P.info? t=some i/\i.zero=some zv/\i.size=z/\i.bytes=b:=by
 simp only[aa,Prod.mk.injEq] at h;obtain ⟨i,h1,h2,h3,h4⟩:=h;exact ⟨i,h1,h2,h3,h4⟩
def XJ:Value:=.agg #[.string ⟨#[]⟩,.int .i64 0,.string ⟨#[]⟩]
def XI:Value:=.agg #[.int .i64 0,.string ⟨#[]⟩,.string ⟨#[]⟩]
def XL:Value:=.agg #[.string ⟨#[]⟩,.string ⟨#[]⟩,.string ⟨#[]⟩,.int .i64 0,.int .i64 0,.int .i64 0]
def BF:Value:=.agg #[.string ⟨#[]⟩,.string ⟨#[]⟩,.slice none 0 0,.int .i64 0,.slice none 0 0]
def XK:Value:=.agg #[.string ⟨#[]⟩,.int .i64 0,.int .i64 0,.string ⟨#[]⟩,.string ⟨#[]⟩,.int .i64 0,.slice none 0 0,.slice none 0 0,.string ⟨#[]⟩,.int .i64 0,.int .i64 0,.int .i64 0,.int .i64 0,.int .i64 0,.int .i64 0,.int .i64 0,.int .i64 0,.int .i64 0]
def A1V:Go.Shelf.Ren:=⟨λ|22=>280|29=>322|30=>323|n=>n,λ|9=>59|24=>32|n=>n,λ|n=>n⟩
def AZS:P5 Tryz.prog A1V 3 40 XJ:={
 mixed:=aZ
 f22:=Exists.intro ("slices.Insert[[]shipyard/api.Node,shipyard/api.Node]") ⟨by decide,Tryz.func280.trans (congrArg some (by kernel_rfl))⟩
 ov:=λargs w=>run_callFunc_extern (P:=Tryz.prog) (f:=322) (e:=Extern.SlicesOverlaps.overlaps #[32,32] #[4]) Tryz.func322 (by kernel_rfl) (by kernel_rfl) (by kernel_rfl) (by kernel_rfl) args w
 t0:=by kernel_rfl
 a0:=λ_=>by kernel_rfl
 z0:=λ_=>by kernel_rfl
 v0:=λ_=>by kernel_rfl
 t3:=by kernel_rfl
 a3:=λ_=>by kernel_rfl
 z3:=λ_=>by kernel_rfl
 v3:=λ_=>by kernel_rfl
 t4:=by kernel_rfl
 a4:=λ_=>by kernel_rfl
 z4:=λ_=>by kernel_rfl
 v4:=λ_=>by kernel_rfl
 z9:=λ_=>by kernel_rfl
 t24:=by kernel_rfl
 a24:=λ_=>by kernel_rfl
 z24:=λ_=>by kernel_rfl
 v24:=λ_=>by kernel_rfl
 i9:=pE (by kernel_rfl) }
def kL:List (List T)->List T->Option (List (List T)):=U4 3 40
def CY:cF Tryz.prog 280 (j0 3 kL) :=
 oQ AZS (by decide) rfl (by decide) ⟨_,Tryz.func280,rfl,rfl⟩
def A1R:Go.Shelf.Ren:=⟨λ|45=>281|n=>n,λ|23=>59|22=>32|n=>n,λ|n=>n⟩
def AW8:ADF Tryz.prog A1R 3 XJ:={
 mixed:=aZ
 f45:=Exists.intro ("slices.Delete[[]shipyard/api.Node,shipyard/api.Node]") ⟨by decide,Tryz.func281.trans (congrArg some (by kernel_rfl))⟩
 t0:=by kernel_rfl
 a0:=λ_=>by kernel_rfl
 z0:=λ_=>by kernel_rfl
 v0:=λ_=>by kernel_rfl
 t3:=by kernel_rfl
 a3:=λ_=>by kernel_rfl
 z3:=λ_=>by kernel_rfl
 v3:=λ_=>by kernel_rfl
 t4:=by kernel_rfl
 a4:=λ_=>by kernel_rfl
 z4:=λ_=>by kernel_rfl
 v4:=λ_=>by kernel_rfl
 t22:=by kernel_rfl
 a22:=λ_=>by kernel_rfl
 z22:=λ_=>by kernel_rfl
 v22:=λ_=>by kernel_rfl
 z23:=λ_=>by kernel_rfl
 v23:=λ_=>by kernel_rfl
 i23:=by
  obtain ⟨i,h1,_,h2,_⟩:=pE (P:=Tryz.prog) (t:=59) (zv:=XJ) (z:=3) (b:=40) (by kernel_rfl);exact ⟨i,h1,h2⟩ }
def GX:List (List T)->List T->Option (List (List T)):=U3 3
def AF7:cF Tryz.prog 281 (j0 3 GX) :=
 oP AW8 rfl (by decide) ⟨_,Tryz.func281,rfl,rfl⟩
def ACR:Go.Shelf.Ren:=⟨λ|41=>103|n=>n,λ|23=>59|22=>32|n=>n,λ|n=>n⟩
def AWT:SlLaysE0.n41 Tryz.prog ACR:={
 mixed:=aZ
 f41:=Exists.intro ("slices.Clone[[]shipyard/api.Node,shipyard/api.Node]") ⟨by decide,Tryz.func103.trans (congrArg some (by kernel_rfl))⟩
 t4:=by kernel_rfl
 a4:=λ_=>by kernel_rfl
 z4:=λ_=>by kernel_rfl
 v4:=λ_=>by kernel_rfl
 t22:=by kernel_rfl
 a22:=λ_=>by kernel_rfl
 z22:=λ_=>by kernel_rfl
 v22:=λ_=>by kernel_rfl }
def APQ:∃ i0,(Tryz.prog).info? (ACR.t 23)=some i0/\i0.zero=some XJ/\i0.size=3/\i0.bytes=40:=pE (by kernel_rfl)
def CV:cF Tryz.prog 103 (C2 3 40) :=
 p9 AWT APQ (λ_=>by kernel_rfl) (by decide) rfl (by decide) ⟨_,Tryz.func103,rfl,rfl⟩
def A1U:Go.Shelf.Ren:=⟨λ|22=>298|29=>330|30=>331|n=>n,λ|9=>66|24=>36|n=>n,λ|n=>n⟩
def AZR:P5 Tryz.prog A1U 3 40 XI:={
 mixed:=aZ
 f22:=Exists.intro ("slices.Insert[[]shipyard/api.Need,shipyard/api.Need]") ⟨by decide,Tryz.func298.trans (congrArg some (by kernel_rfl))⟩
 ov:=λargs w=>run_callFunc_extern (P:=Tryz.prog) (f:=330) (e:=Extern.SlicesOverlaps.overlaps #[36,36] #[4]) Tryz.func330 (by kernel_rfl) (by kernel_rfl) (by kernel_rfl) (by kernel_rfl) args w
 t0:=by kernel_rfl
 a0:=λ_=>by kernel_rfl
 z0:=λ_=>by kernel_rfl
 v0:=λ_=>by kernel_rfl
 t3:=by kernel_rfl
 a3:=λ_=>by kernel_rfl
 z3:=λ_=>by kernel_rfl
 v3:=λ_=>by kernel_rfl
 t4:=by kernel_rfl
 a4:=λ_=>by kernel_rfl
 z4:=λ_=>by kernel_rfl
 v4:=λ_=>by kernel_rfl
 z9:=λ_=>by kernel_rfl
 t24:=by kernel_rfl
 a24:=λ_=>by kernel_rfl
 z24:=λ_=>by kernel_rfl
 v24:=λ_=>by kernel_rfl
 i9:=pE (by kernel_rfl) }
def kK:List (List T)->List T->Option (List (List T)):=U4 3 40
def NJ:cF Tryz.prog 298 (j0 3 kK) :=
 oQ AZR (by decide) rfl (by decide) ⟨_,Tryz.func298,rfl,rfl⟩
def A1Q:Go.Shelf.Ren:=⟨λ|45=>299|n=>n,λ|23=>66|22=>36|n=>n,λ|n=>n⟩
def AW7:ADF Tryz.prog A1Q 3 XI:={
 mixed:=aZ
 f45:=Exists.intro ("slices.Delete[[]shipyard/api.Need,shipyard/api.Need]") ⟨by decide,Tryz.func299.trans (congrArg some (by kernel_rfl))⟩
 t0:=by kernel_rfl
 a0:=λ_=>by kernel_rfl
 z0:=λ_=>by kernel_rfl
 v0:=λ_=>by kernel_rfl
 t3:=by kernel_rfl
 a3:=λ_=>by kernel_rfl
 z3:=λ_=>by kernel_rfl
 v3:=λ_=>by kernel_rfl
 t4:=by kernel_rfl
 a4:=λ_=>by kernel_rfl
 z4:=λ_=>by kernel_rfl
 v4:=λ_=>by kernel_rfl
 t22:=by kernel_rfl
 a22:=λ_=>by kernel_rfl
 z22:=λ_=>by kernel_rfl
 v22:=λ_=>by kernel_rfl
 z23:=λ_=>by kernel_rfl
 v23:=λ_=>by kernel_rfl
 i23:=by
  obtain ⟨i,h1,_,h2,_⟩:=pE (P:=Tryz.prog) (t:=66) (zv:=XI) (z:=3) (b:=40) (by kernel_rfl);exact ⟨i,h1,h2⟩ }
def AA:List (List T)->List T->Option (List (List T)):=U3 3
def NI:cF Tryz.prog 299 (j0 3 AA) :=
 oP AW7 rfl (by decide) ⟨_,Tryz.func299,rfl,rfl⟩
def ACQ:Go.Shelf.Ren:=⟨λ|41=>105|n=>n,λ|23=>66|22=>36|n=>n,λ|n=>n⟩
def AWS:SlLaysE0.n41 Tryz.prog ACQ:={
 mixed:=aZ
 f41:=Exists.intro ("slices.Clone[[]shipyard/api.Need,shipyard/api.Need]") ⟨by decide,Tryz.func105.trans (congrArg some (by kernel_rfl))⟩
 t4:=by kernel_rfl
 a4:=λ_=>by kernel_rfl
 z4:=λ_=>by kernel_rfl
 v4:=λ_=>by kernel_rfl
 t22:=by kernel_rfl
 a22:=λ_=>by kernel_rfl
 z22:=λ_=>by kernel_rfl
 v22:=λ_=>by kernel_rfl }
def APP:∃ i0,(Tryz.prog).info? (ACQ.t 23)=some i0/\i0.zero=some XI/\i0.size=3/\i0.bytes=40:=pE (by kernel_rfl)
def CU:cF Tryz.prog 105 (C2 3 40) :=
 p9 AWS APP (λ_=>by kernel_rfl) (by decide) rfl (by decide) ⟨_,Tryz.func105,rfl,rfl⟩
def A1X:Go.Shelf.Ren:=⟨λ|22=>288|29=>326|30=>327|n=>n,λ|9=>61|24=>34|n=>n,λ|n=>n⟩
def AZU:P5 Tryz.prog A1X 6 72 XL:={
 mixed:=aZ
 f22:=Exists.intro ("slices.Insert[[]shipyard/api.Seam,shipyard/api.Seam]") ⟨by decide,Tryz.func288.trans (congrArg some (by kernel_rfl))⟩
 ov:=λargs w=>run_callFunc_extern (P:=Tryz.prog) (f:=326) (e:=Extern.SlicesOverlaps.overlaps #[34,34] #[4]) Tryz.func326 (by kernel_rfl) (by kernel_rfl) (by kernel_rfl) (by kernel_rfl) args w
 t0:=by kernel_rfl
 a0:=λ_=>by kernel_rfl
 z0:=λ_=>by kernel_rfl
 v0:=λ_=>by kernel_rfl
 t3:=by kernel_rfl
 a3:=λ_=>by kernel_rfl
 z3:=λ_=>by kernel_rfl
 v3:=λ_=>by kernel_rfl
 t4:=by kernel_rfl
 a4:=λ_=>by kernel_rfl
 z4:=λ_=>by kernel_rfl
 v4:=λ_=>by kernel_rfl
 z9:=λ_=>by kernel_rfl
 t24:=by kernel_rfl
 a24:=λ_=>by kernel_rfl
 z24:=λ_=>by kernel_rfl
 v24:=λ_=>by kernel_rfl
 i9:=pE (by kernel_rfl) }
def tZ:List (List T)->List T->Option (List (List T)):=U4 6 72
def AGB:cF Tryz.prog 288 (j0 6 tZ) :=
 oQ AZU (by decide) rfl (by decide) ⟨_,Tryz.func288,rfl,rfl⟩
def A1T:Go.Shelf.Ren:=⟨λ|45=>289|n=>n,λ|23=>61|22=>34|n=>n,λ|n=>n⟩
def AXA:ADF Tryz.prog A1T 6 XL:={
 mixed:=aZ
 f45:=Exists.intro ("slices.Delete[[]shipyard/api.Seam,shipyard/api.Seam]") ⟨by decide,Tryz.func289.trans (congrArg some (by kernel_rfl))⟩
 t0:=by kernel_rfl
 a0:=λ_=>by kernel_rfl
 z0:=λ_=>by kernel_rfl
 v0:=λ_=>by kernel_rfl
 t3:=by kernel_rfl
 a3:=λ_=>by kernel_rfl
 z3:=λ_=>by kernel_rfl
 v3:=λ_=>by kernel_rfl
 t4:=by kernel_rfl
 a4:=λ_=>by kernel_rfl
 z4:=λ_=>by kernel_rfl
 v4:=λ_=>by kernel_rfl
 t22:=by kernel_rfl
 a22:=λ_=>by kernel_rfl
 z22:=λ_=>by kernel_rfl
 v22:=λ_=>by kernel_rfl
 z23:=λ_=>by kernel_rfl
 v23:=λ_=>by kernel_rfl
 i23:=by
  obtain ⟨i,h1,_,h2,_⟩:=pE (P:=Tryz.prog) (t:=61) (zv:=XL) (z:=6) (b:=72) (by kernel_rfl);exact ⟨i,h1,h2⟩ }
def GZ:List (List T)->List T->Option (List (List T)):=U3 6
def AF9:cF Tryz.prog 289 (j0 6 GZ) :=
 oP AXA rfl (by decide) ⟨_,Tryz.func289,rfl,rfl⟩
def ACT:Go.Shelf.Ren:=⟨λ|41=>104|n=>n,λ|23=>61|22=>34|n=>n,λ|n=>n⟩
def AWV:SlLaysE0.n41 Tryz.prog ACT:={
 mixed:=aZ
 f41:=Exists.intro ("slices.Clone[[]shipyard/api.Seam,shipyard/api.Seam]") ⟨by decide,Tryz.func104.trans (congrArg some (by kernel_rfl))⟩
 t4:=by kernel_rfl
 a4:=λ_=>by kernel_rfl
 z4:=λ_=>by kernel_rfl
 v4:=λ_=>by kernel_rfl
 t22:=by kernel_rfl
 a22:=λ_=>by kernel_rfl
 z22:=λ_=>by kernel_rfl
 v22:=λ_=>by kernel_rfl }
def APS:∃ i0,(Tryz.prog).info? (ACT.t 23)=some i0/\i0.zero=some XL/\i0.size=6/\i0.bytes=72:=pE (by kernel_rfl)
def CX:cF Tryz.prog 104 (C2 6 72) :=
 p9 AWV APS (λ_=>by kernel_rfl) (by decide) rfl (by decide) ⟨_,Tryz.func104,rfl,rfl⟩
def ACV:Go.Shelf.Ren:=⟨λ|22=>292|29=>328|30=>329|n=>n,λ|9=>64|24=>35|n=>n,λ|n=>n⟩
def ABD:P5 Tryz.prog ACV 5 88 BF:={
 mixed:=aZ
 f22:=Exists.intro ("slices.Insert[[]shipyard/api.Package,shipyard/api.Package]") ⟨by decide,Tryz.func292.trans (congrArg some (by kernel_rfl))⟩
 ov:=λargs w=>run_callFunc_extern (P:=Tryz.prog) (f:=328) (e:=Extern.SlicesOverlaps.overlaps #[35,35] #[4]) Tryz.func328 (by kernel_rfl) (by kernel_rfl) (by kernel_rfl) (by kernel_rfl) args w
 t0:=by kernel_rfl
 a0:=λ_=>by kernel_rfl
 z0:=λ_=>by kernel_rfl
 v0:=λ_=>by kernel_rfl
 t3:=by kernel_rfl
 a3:=λ_=>by kernel_rfl
 z3:=λ_=>by kernel_rfl
 v3:=λ_=>by kernel_rfl
 t4:=by kernel_rfl
 a4:=λ_=>by kernel_rfl
 z4:=λ_=>by kernel_rfl
 v4:=λ_=>by kernel_rfl
 z9:=λ_=>by kernel_rfl
 t24:=by kernel_rfl
 a24:=λ_=>by kernel_rfl
 z24:=λ_=>by kernel_rfl
 v24:=λ_=>by kernel_rfl
 i9:=pE (by kernel_rfl) }
def mW:List (List T)->List T->Option (List (List T)):=U4 5 88
def QD:cF Tryz.prog 292 (j0 5 mW) :=
 oQ ABD (by decide) rfl (by decide) ⟨_,Tryz.func292,rfl,rfl⟩
def ACU:Go.Shelf.Ren:=⟨λ|45=>290|n=>n,λ|23=>64|22=>35|n=>n,λ|n=>n⟩
def ZK:ADF Tryz.prog ACU 5 BF:={
 mixed:=aZ
 f45:=Exists.intro ("slices.Delete[[]shipyard/api.Package,shipyard/api.Package]") ⟨by decide,Tryz.func290.trans (congrArg some (by kernel_rfl))⟩
 t0:=by kernel_rfl
 a0:=λ_=>by kernel_rfl
 z0:=λ_=>by kernel_rfl
 v0:=λ_=>by kernel_rfl
 t3:=by kernel_rfl
 a3:=λ_=>by kernel_rfl
 z3:=λ_=>by kernel_rfl
 v3:=λ_=>by kernel_rfl
 t4:=by kernel_rfl
 a4:=λ_=>by kernel_rfl
 z4:=λ_=>by kernel_rfl
 v4:=λ_=>by kernel_rfl
 t22:=by kernel_rfl
 a22:=λ_=>by kernel_rfl
 z22:=λ_=>by kernel_rfl
 v22:=λ_=>by kernel_rfl
 z23:=λ_=>by kernel_rfl
 v23:=λ_=>by kernel_rfl
 i23:=by
  obtain ⟨i,h1,_,h2,_⟩:=pE (P:=Tryz.prog) (t:=64) (zv:=BF) (z:=5) (b:=88) (by kernel_rfl);exact ⟨i,h1,h2⟩ }
def mV:List (List T)->List T->Option (List (List T)):=U3 5
def B1:cF Tryz.prog 290 (j0 5 mV) :=
 oP ZK rfl (by decide) ⟨_,Tryz.func290,rfl,rfl⟩
def JK:Go.Shelf.Ren:=⟨λ|41=>107|n=>n,λ|23=>64|22=>35|n=>n,λ|n=>n⟩
def ZD:SlLaysE0.n41 Tryz.prog JK:={
 mixed:=aZ
 f41:=Exists.intro ("slices.Clone[[]shipyard/api.Package,shipyard/api.Package]") ⟨by decide,Tryz.func107.trans (congrArg some (by kernel_rfl))⟩
 t4:=by kernel_rfl
 a4:=λ_=>by kernel_rfl
 z4:=λ_=>by kernel_rfl
 v4:=λ_=>by kernel_rfl
 t22:=by kernel_rfl
 a22:=λ_=>by kernel_rfl
 z22:=λ_=>by kernel_rfl
 v22:=λ_=>by kernel_rfl }
def VG:∃ i0,(Tryz.prog).info? (JK.t 23)=some i0/\i0.zero=some BF/\i0.size=5/\i0.bytes=88:=pE (by kernel_rfl)
def oF:cF Tryz.prog 107 (C2 5 88) :=
 p9 ZD VG (λ_=>by kernel_rfl) (by decide) rfl (by decide) ⟨_,Tryz.func107,rfl,rfl⟩
def A1W:Go.Shelf.Ren:=⟨λ|22=>285|29=>324|30=>325|n=>n,λ|9=>57|24=>33|n=>n,λ|n=>n⟩
def AZT:P5 Tryz.prog A1W 18 208 XK:={
 mixed:=aZ
 f22:=Exists.intro ("slices.Insert[[]shipyard/api.Part,shipyard/api.Part]") ⟨by decide,Tryz.func285.trans (congrArg some (by kernel_rfl))⟩
 ov:=λargs w=>run_callFunc_extern (P:=Tryz.prog) (f:=324) (e:=Extern.SlicesOverlaps.overlaps #[33,33] #[4]) Tryz.func324 (by kernel_rfl) (by kernel_rfl) (by kernel_rfl) (by kernel_rfl) args w
 t0:=by kernel_rfl
 a0:=λ_=>by kernel_rfl
 z0:=λ_=>by kernel_rfl
 v0:=λ_=>by kernel_rfl
 t3:=by kernel_rfl
 a3:=λ_=>by kernel_rfl
 z3:=λ_=>by kernel_rfl
 v3:=λ_=>by kernel_rfl
 t4:=by kernel_rfl
 a4:=λ_=>by kernel_rfl
 z4:=λ_=>by kernel_rfl
 v4:=λ_=>by kernel_rfl
 z9:=λ_=>by kernel_rfl
 t24:=by kernel_rfl
 a24:=λ_=>by kernel_rfl
 z24:=λ_=>by kernel_rfl
 v24:=λ_=>by kernel_rfl
 i9:=pE (by kernel_rfl) }
def tY:List (List T)->List T->Option (List (List T)):=U4 18 208
def AGA:cF Tryz.prog 285 (j0 18 tY) :=
 oQ AZT (by decide) rfl (by decide) ⟨_,Tryz.func285,rfl,rfl⟩
def A1S:Go.Shelf.Ren:=⟨λ|45=>286|n=>n,λ|23=>57|22=>33|n=>n,λ|n=>n⟩
def AW9:ADF Tryz.prog A1S 18 XK:={
 mixed:=aZ
 f45:=Exists.intro ("slices.Delete[[]shipyard/api.Part,shipyard/api.Part]") ⟨by decide,Tryz.func286.trans (congrArg some (by kernel_rfl))⟩
 t0:=by kernel_rfl
 a0:=λ_=>by kernel_rfl
 z0:=λ_=>by kernel_rfl
 v0:=λ_=>by kernel_rfl
 t3:=by kernel_rfl
 a3:=λ_=>by kernel_rfl
 z3:=λ_=>by kernel_rfl
 v3:=λ_=>by kernel_rfl
 t4:=by kernel_rfl
 a4:=λ_=>by kernel_rfl
 z4:=λ_=>by kernel_rfl
 v4:=λ_=>by kernel_rfl
 t22:=by kernel_rfl
 a22:=λ_=>by kernel_rfl
 z22:=λ_=>by kernel_rfl
 v22:=λ_=>by kernel_rfl
 z23:=λ_=>by kernel_rfl
 v23:=λ_=>by kernel_rfl
 i23:=by
  obtain ⟨i,h1,_,h2,_⟩:=pE (P:=Tryz.prog) (t:=57) (zv:=XK) (z:=18) (b:=208) (by kernel_rfl);exact ⟨i,h1,h2⟩ }
def GY:List (List T)->List T->Option (List (List T)):=U3 18
def AF8:cF Tryz.prog 286 (j0 18 GY) :=
 oP AW9 rfl (by decide) ⟨_,Tryz.func286,rfl,rfl⟩
def ACS:Go.Shelf.Ren:=⟨λ|41=>106|n=>n,λ|23=>57|22=>33|n=>n,λ|n=>n⟩
def AWU:SlLaysE0.n41 Tryz.prog ACS:={
 mixed:=aZ
 f41:=Exists.intro ("slices.Clone[[]shipyard/api.Part,shipyard/api.Part]") ⟨by decide,Tryz.func106.trans (congrArg some (by kernel_rfl))⟩
 t4:=by kernel_rfl
 a4:=λ_=>by kernel_rfl
 z4:=λ_=>by kernel_rfl
 v4:=λ_=>by kernel_rfl
 t22:=by kernel_rfl
 a22:=λ_=>by kernel_rfl
 z22:=λ_=>by kernel_rfl
 v22:=λ_=>by kernel_rfl }
def APR:∃ i0,(Tryz.prog).info? (ACS.t 23)=some i0/\i0.zero=some XK/\i0.size=18/\i0.bytes=208:=pE (by kernel_rfl)
def CW:cF Tryz.prog 106 (C2 18 208) :=
 p9 AWU APR (λ_=>by kernel_rfl) (by decide) rfl (by decide) ⟨_,Tryz.func106,rfl,rfl⟩
def BI0:Value:=.slice none 0 0
def ALG:Go.Shelf.Ren:=⟨λ|41=>137|n=>n,λ|23=>48|22=>49|n=>n,λ|n=>n⟩
def A5X:SlLaysE0.n41 Tryz.prog ALG:={
 mixed:=aZ
 f41:=Exists.intro ("slices.Clone[[][]shipyard/api.Point,[]shipyard/api.Point]") ⟨by decide,Tryz.func137.trans (congrArg some (by kernel_rfl))⟩
 t4:=by kernel_rfl
 a4:=λ_=>by kernel_rfl
 z4:=λ_=>by kernel_rfl
 v4:=λ_=>by kernel_rfl
 t22:=by kernel_rfl
 a22:=λ_=>by kernel_rfl
 z22:=λ_=>by kernel_rfl
 v22:=λ_=>by kernel_rfl }
def AZP:∃ i0,(Tryz.prog).info? (ALG.t 23)=some i0/\i0.zero=some BI0/\i0.size=1/\i0.bytes=24:=pE (by kernel_rfl)
def AOO:cF Tryz.prog 137 (C2 1 24) :=
 p9 A5X AZP (λ_=>by kernel_rfl) (by decide) rfl (by decide) ⟨_,Tryz.func137,rfl,rfl⟩
end Go.Pv
namespace Go.Pv
open Go Go.Proofs IntKind
def o9 (d:aB) (id:iII):Option bS:=d.2.2.2.1.find? λs=>decide (s.1=id)
def partOf (d:aB) (id:iII):Option a8:=d.2.2.1.find? λs=>decide (s.1=id)
def eG (d:aB) (id:iII):Option bN:=d.2.1.find? λs=>decide (s.1=id)
def PK (m:aI) (n:iII):Option cN:=m.2.find? λs=>decide (s.1=n)
def iG:bS:=(⟨#[]⟩,⟨#[]⟩,⟨#[]⟩,0,0,0)
def iF:bN:=(⟨#[]⟩,0,⟨#[]⟩)
def eN:a8:=(⟨#[]⟩,0,0,⟨#[]⟩,⟨#[]⟩,0,([],[]),⟨#[]⟩,0,0,(0,0,0),(0,0,0),0)
def B7:cN:=(⟨#[]⟩,0,0,0)
variable {α:Type}
def found (no:α) (o:Option α):α×Bool:=match o with
 | some s=>(s,true)
 | none=>(no,false)
def sK (x:aB×iII):Option T:=some (Sh.enc [(true,bC),(false,.bool)] (found iG (o9 x.1 x.2)))
def WV (x:aB×iII):Option T:=some (Sh.enc [(true,aN),(false,.bool)] (found eN (partOf x.1 x.2)))
def sH (x:aB×iII):Option T:=some (Sh.enc [(true,bB),(false,.bool)] (found iF (eG x.1 x.2)))
def oB (x:aI×iII):Option T:=some (Sh.enc [(true,bZ),(false,.bool)] (found B7 (PK x.1 x.2)))
noncomputable def BAP:Env:=Env.of []
def BA5:FuncId->Hint:=cA 197 [(2,.inv [.val 11 false (.int .i64),.fix 1])] (λ_=>bA)
def ATS:aU Tryz.prog BAP:=.nil _
def d6:T:=pPQ ({data:=#[]})
def t6(a0:aB):List (List T):=List.map bC.enc a0.2.2.2.1
def AE3(a0:aB)(a1:iII)(R:T->Prop):Prop:=gV (bG.rows false [[D.p d6,D.p d6, D.p d6,D.p (pPP 0), D.p (pPP 0),D.p (pPP 0)]]) (bG.rows false [[D.p d6,D.p d6, D.p d6,D.p (pPP 0), D.p (pPP 0),D.p (pPP 0)]]) (bD (Int×PUnit×PUnit) (λX0 s1=>aC (decide (s1.1<(↑(t6 a0).length:Int))) (aX bC (t6 a0) s1.1 λ(y2:bS)=>aC (decide (y2.1=a1)) (R (T.b9 [aH true bC y2,pPR true])) (gV (bG.rows false [[D.p d6, D.p d6, D.p d6, D.p (pPP 0), D.p (pPP 0), D.p (pPP 0)]]) (bG.rows false [[D.p d6, D.p d6, D.p d6, D.p (pPP 0), D.p (pPP 0), D.p (pPP 0)]]) (X0 (i64.wrap (s1.1+1),(),())))) (R (T.b9 [T.agg [pPQ ({data:=#[]}),pPQ ({data:=#[]}), pPQ ({data:=#[]}),pPP 0, pPP 0,pPP 0], pPR false]))) (0,(),()))
abbrev AIK:Sh:=[(true,aD),(false,Sy.str)]
noncomputable def C6:List T->Option T:=gS AIK sK
def SF {a0 a1}:C6 [aH true aD a0,pPQ a1]=sK (a0,a1):=bJ (s:=AIK) rfl (a0,a1) rfl
def A8E:sP Tryz.prog 197 C6 sK (cJ AIK) AE3:=iH (a1:=(true,aD)) (a2:=(false,Sy.str)) (sp:=sK) (F:=AE3) (Hs:=BA5) (f:=197) (k:=8) ATS aZ a7 (aO rfl) ⟨_,_,Tryz.func197,rfl⟩ rfl λ_ _ _=>by kernel_rfl
def AJ9:aP Tryz.prog 197 C6:=A8E λd id r h hb=>by
 have hl:d.2.2.2.1.length<=2 ^ 47:=hb.1.2.2.2.1.1;unfold AE3 t6 d6;rw[dE];refine bP d.2.2.2.1.length (λk s=>s=((k:Int),(),())/\(d.2.2.2.1.drop k).find? (λs=>decide (s.1=id))=o9 d id) ⟨rfl,rfl⟩ ?_;rintro X k s hk ⟨rfl,hf⟩ hX;simp only[ae,HE,dE];by_cases hlt:k<d.2.2.2.1.length
 ·rw[qB hlt] at hf;simp only[hlt,decide_true,aC,bK (r:=bC) hlt];cases hc:decide (d.2.2.2.1[k].1=id) with
  | true =>
   simp only[hc,if_true] at hf;simp only[sK,sK,<-hf] at h;cases h;rfl
  | false =>
   simp only[hc] at hf;refine hX _ hlt ⟨?_,hf⟩;simp only[Prod.mk.injEq,and_true];exact bH _ (by omega) (by omega)
 ·have:k=d.2.2.2.1.length:=by omega
  subst this;simp only[List.drop_length,List.find?_nil] at hf;simp only[sK,sK,<-hf] at h;simp only[hlt,decide_false,aC];cases h;rfl
noncomputable def BAK:Env:=Env.of []
def BA0:FuncId->Hint:=cA 149 [(2,.inv [.val 11 false (.int .i64),.fix 1])] (λ_=>bA)
def ATN:aU Tryz.prog BAK:=.nil _
def t7(a0:aB):List (List T):=List.map bB.enc a0.2.1
def AEX(a0:aB)(a1:iII)(R:T->Prop):Prop:=gV (bG.rows false [[D.p d6,D.p (pPP 0), D.p d6]]) (bG.rows false [[D.p d6,D.p (pPP 0), D.p d6]]) (bD (Int×PUnit×PUnit) (λX0 s1=>aC (decide (s1.1<(↑(t7 a0).length:Int))) (aX bB (t7 a0) s1.1 λ(y2:bN)=>aC (decide (y2.1=a1)) (R (T.b9 [aH true bB y2,pPR true])) (gV (bG.rows false [[D.p d6, D.p (pPP 0), D.p d6]]) (bG.rows false [[D.p d6, D.p (pPP 0), D.p d6]]) (X0 (i64.wrap (s1.1+1),(),())))) (R (T.b9 [T.agg [pPQ ({data:=#[]}),pPP 0, pPQ ({data:=#[]})], pPR false]))) (0,(),()))
abbrev AIE:Sh:=[(true,aD),(false,Sy.str)]
noncomputable def C3:List T->Option T:=gS AIE sH
def R0 {a0 a1}:C3 [aH true aD a0,pPQ a1]=sH (a0,a1):=bJ (s:=AIE) rfl (a0,a1) rfl
def A79:sP Tryz.prog 149 C3 sH (cJ AIE) AEX:=iH (a1:=(true,aD)) (a2:=(false,Sy.str)) (sp:=sH) (F:=AEX) (Hs:=BA0) (f:=149) (k:=8) ATN aZ a7 (aO rfl) ⟨_,_,Tryz.func149,rfl⟩ rfl λ_ _ _=>by kernel_rfl
def AJ5:aP Tryz.prog 149 C3:=A79 λd id r h hb=>by
 have hl:d.2.1.length<=2 ^ 47:=hb.1.2.1.1;unfold AEX t7 d6;rw[dE];refine bP d.2.1.length (λk s=>s=((k:Int),(),())/\(d.2.1.drop k).find? (λs=>decide (s.1=id))=eG d id) ⟨rfl,rfl⟩ ?_;rintro X k s hk ⟨rfl,hf⟩ hX;simp only[ae,HE,dE];by_cases hlt:k<d.2.1.length
 ·rw[qB hlt] at hf;simp only[hlt,decide_true,aC,bK (r:=bB) hlt];cases hc:decide (d.2.1[k].1=id) with
  | true =>
   simp only[hc,if_true] at hf;simp only[sH,sH,<-hf] at h;cases h;rfl
  | false =>
   simp only[hc] at hf;refine hX _ hlt ⟨?_,hf⟩;simp only[Prod.mk.injEq,and_true];exact bH _ (by omega) (by omega)
 ·have:k=d.2.1.length:=by omega
  subst this;simp only[List.drop_length,List.find?_nil] at hf;simp only[sH,sH,<-hf] at h;simp only[hlt,decide_false,aC];cases h;rfl
noncomputable def AMK:Env:=Env.of []
def ANH:FuncId->Hint:=cA 319 [(2,.inv [.val 8 false (.int .i64)])] (λ_=>bA)
def YA:aU Tryz.prog AMK:=.nil _
def f9(X0:Int×PUnit->Prop)(s1:Int×PUnit):Prop:=X0 (i64.wrap (s1.1+1),())
def BJU:List T:=[T.agg [pPQ ({data:=#[]}),pPP 0, pPP 0,pPP 0], pPR false]
def F6(a0:aI)(a1:iII)(R:T->Prop):Prop:=bD (Int×PUnit) (λX0 s1=>aC (decide (s1.1<(↑(List.map bZ.enc a0.2).length:Int))) (aX bZ (List.map bZ.enc a0.2) s1.1 λ(y2:cN)=>aC (decide (y2.1=a1)) (aC (decide (s1.1<0)) (R (T.b9 BJU)) (aX bZ (List.map bZ.enc a0.2) s1.1 λ(y3:cN)=>R (T.b9 [aH true bZ y3,pPR true]))) (f9 X0 s1)) (R (T.b9 BJU))) (0,())
abbrev H4:Sh:=[(true,aK),(false,Sy.str)]
noncomputable def cS:List T->Option T:=gS H4 oB
def VD {a0 a1}:cS [aH true aK a0,pPQ a1]=oB (a0,a1):=bJ (s:=H4) rfl (a0,a1) rfl
def AHU:sP Tryz.prog 270 cS oB (cJ H4) F6:=iH (a1:=(true,aK)) (a2:=(false,Sy.str)) (sp:=oB) (F:=F6) (Hs:=ANH) (f:=270) (k:=8) YA aZ a7 (aO rfl) ⟨_,_,Tryz.func270,rfl⟩ rfl λ_ _ _=>by kernel_rfl
def NL:aP Tryz.prog 270 cS:=AHU λm n r h hb=>by
 have hl:m.2.length<=2 ^ 47:=hb.1.2.1;unfold F6 BJU f9;refine bP m.2.length (λk s=>s=((k:Int),())/\(m.2.drop k).find? (λs=>decide (s.1=n))=PK m n) ⟨rfl,rfl⟩ ?_;rintro X k s hk ⟨rfl,hf⟩ hX;simp only[ae,HE];by_cases hlt:k<m.2.length
 ·rw[qB hlt] at hf;have h0:¬ ((k:Int)<0):=by omega
  simp only[hlt,decide_true,aC,bK (r:=bZ) hlt,h0,decide_false];cases hc:decide (m.2[k].1=n) with
  | true =>
   simp only[hc,if_true] at hf;simp only[oB,<-hf] at h;cases h;rfl
  | false =>
   simp only[hc] at hf;refine hX _ hlt ⟨?_,hf⟩;simp only[Prod.mk.injEq,and_true];exact bH _ (by omega) (by omega)
 ·have:k=m.2.length:=by omega
  subst this;simp only[List.drop_length,List.find?_nil] at hf;simp only[oB,<-hf] at h;simp only[hlt,decide_false,aC];cases h;rfl
end Go.Pv
namespace Go.Pv
open Go Go.Proofs IntKind
def AFU:TR Tryz.prog 136 2 16:=⟨λR=>by kernel_rfl,λfl R=>by kernel_rfl,λfl a rows R=>by kernel_rfl⟩
noncomputable def kJ:List T->Option T:=gS [(false,.li aA)] (fC aA 16)
def pN {u0}:kJ [T.sl false (List.map (Sy.enc aA) u0)]=fC aA 16 u0:=bJ (s:=[(false,.li aA)]) rfl u0 rfl
def NG:aP Tryz.prog 136 kJ:=GH aZ a7 ⟨_,_,Tryz.func136,rfl⟩ AFU
def ZB:ADE Tryz.prog 137 1 24:=⟨λR=>by kernel_rfl,λfl R=>by kernel_rfl,λfl a rows R=>by kernel_rfl⟩
noncomputable def vF:List T->Option (List (List T)):=gS [(false,.li (.li aA))] (pX (.li aA) 24)
def QE {u0}:vF [T.sl false (List.map (Sy.enc (.li aA)) u0)]=pX (.li aA) 24 u0:=bJ (s:=[(false,.li (.li aA))]) rfl u0 rfl
def ZW:fG Tryz.prog 137 vF:=ANX aZ a7 ⟨_,_,Tryz.func137,rfl⟩ ZB
def lJ (b:Nat) (n:Nat):Bool:=decide (n*b<=140737488355328)&&decide (n<=140737488355328)
def EX (s:jQ):Bool:=lJ 16 s.1.length&&lJ 24 s.2.length&&s.2.all λh=>lJ 16 h.length
def fM (p:a8):Bool:=EX p.2.2.2.2.2.2.1
def JH (d:aB):Bool:=d.2.2.1.all fM
def jC {r:Sy} {b:Nat} {l:List r.den} (h:lJ b l.length=true):pX r b l=some (List.map r.enc l):=by
 unfold pX;unfold lJ at h;rw[h]
def lM (x:aB×iII):Option T:=match JH x.1 with
 | true=>WV x
 | false=>none
noncomputable def A3L:Env:=Env.of [(136,.pure kJ),(137,.fresh vF)]
def A41:FuncId->Hint:=cA 94 [(2,.inv [.val 13 false (.int .i64),.fix 1]),(7,.alt [.val 37 false (.int .i64),.arr 4 1 (.li aA)] [.val 37 false (.int .i64)])] (λ_=>bA)
def AMS:aU Tryz.prog A3L:=.cons NG (.cons ZW (.nil _))
def d9:T:=T.v (Value.slice none 0 0)
def f0:Sh:=[(false,aA.li)]
def H1(a0:aB):List (List T):=List.map aN.enc a0.2.2.1
def g9(y7:List aR):List (List T):=List.map aA.enc y7
def AC(y2:a8):List (List T):=List.map aA.li.enc y2.2.2.2.2.2.2.1.2
def NE(s12:Int×List (List aR)×PUnit):List (List T):=List.map aA.li.enc s12.2.1
def BJW(y7:List aR):List T:=[T.sl false (g9 y7)]
def BJ4(y2:a8):List (List T):=List.map aA.enc y2.2.2.2.2.2.2.1.1
def T3(a0:aB)(a1:iII)(R:T->Prop):Prop:=gV (bG.rows false [[D.p d6,D.p (pPP 0), D.p (pPP 0),D.p d6, D.p d6,D.p (pPP 0), D.p d9,D.p d9, D.p d6,D.p (pPP 0), D.p (pPP 0),D.p (pPP 0), D.p (pPP 0),D.p (pPP 0), D.p (pPP 0),D.p (pPP 0), D.p (pPP 0),D.p (pPP 0)]]) (bG.rows false [[D.p d6,D.p (pPP 0), D.p (pPP 0),D.p d6, D.p d6,D.p (pPP 0), D.p d9,D.p d9, D.p d6,D.p (pPP 0), D.p (pPP 0),D.p (pPP 0), D.p (pPP 0),D.p (pPP 0), D.p (pPP 0),D.p (pPP 0), D.p (pPP 0),D.p (pPP 0)]]) (bD (Int×PUnit×PUnit) (λX0 s1=>aC (decide (s1.1<(↑(H1 a0).length:Int))) (aX aN (H1 a0) s1.1 λ(y2:a8)=>aC (decide (y2.1=a1)) (aJ f0 (kJ [T.sl false (BJ4 y2)]) λ(y3:List aR)=>bU aA.li (vF [T.sl false (AC y2)]) λ(y4:List (List aR))=>aC y4.isEmpty (bD (Int×PUnit) (λX5 s6=>aC (decide (s6.1<(↑0:Int))) (aX aA.li [] s6.1 λ(y7:List aR)=>aJ f0 (kJ (BJW y7)) λ(y8:List aR)=>aX aA.li [] s6.1 λ(y9:List aR)=>nN 104) (R (T.b9 [T.agg [pPQ y2.1,pPP y2.2.1, pPP y2.2.2.1, pPQ y2.2.2.2.1, pPQ y2.2.2.2.2.1, pPP y2.2.2.2.2.2.1, T.sl false (g9 y3),T.sl false [], pPQ y2.2.2.2.2.2.2.2.1, pPP y2.2.2.2.2.2.2.2.2.1, pPP y2.2.2.2.2.2.2.2.2.2.1, pPP y2.2.2.2.2.2.2.2.2.2.2.1.1, pPP y2.2.2.2.2.2.2.2.2.2.2.1.2.1, pPP y2.2.2.2.2.2.2.2.2.2.2.1.2.2, pPP y2.2.2.2.2.2.2.2.2.2.2.2.1.1, pPP y2.2.2.2.2.2.2.2.2.2.2.2.1.2.1, pPP y2.2.2.2.2.2.2.2.2.2.2.2.1.2.2, pPP y2.2.2.2.2.2.2.2.2.2.2.2.2], pPR true]))) (0,())) (jI aA.li (List.map aA.li.enc y4) λ(y10:List (List aR))=>bD (Int×List (List aR)×PUnit) (λX11 s12=>aC (decide (s12.1<(↑(List.map aA.li.enc y4).length:Int))) (aX aA.li (NE s12) s12.1 λ(y13:List aR)=>fH aA.li (NE s12) (Int.toNat s12.1) 0 λ(y14:List aR)=>aJ f0 (kJ (BJW y14)) λ(y15:List aR)=>aX aA.li (NE s12) s12.1 λ(y16:List aR)=>E7 (NE s12) (Int.toNat s12.1) λ(y17:List T)=>bQ (decide (1<=y17.length)) (jI aA.li ((NE s12).set (Int.toNat s12.1) (bX y17 0 (BJW y15))) λ(y18:List (List aR))=>X11 (i64.wrap (s12.1+1),y18,()))) (R (T.b9 [T.agg [pPQ y2.1, pPP y2.2.1, pPP y2.2.2.1, pPQ y2.2.2.2.1, pPQ y2.2.2.2.2.1, pPP y2.2.2.2.2.2.1, T.sl false (g9 y3), T.sl false (NE s12), pPQ y2.2.2.2.2.2.2.2.1, pPP y2.2.2.2.2.2.2.2.2.1, pPP y2.2.2.2.2.2.2.2.2.2.1, pPP y2.2.2.2.2.2.2.2.2.2.2.1.1, pPP y2.2.2.2.2.2.2.2.2.2.2.1.2.1, pPP y2.2.2.2.2.2.2.2.2.2.2.1.2.2, pPP y2.2.2.2.2.2.2.2.2.2.2.2.1.1, pPP y2.2.2.2.2.2.2.2.2.2.2.2.1.2.1, pPP y2.2.2.2.2.2.2.2.2.2.2.2.1.2.2, pPP y2.2.2.2.2.2.2.2.2.2.2.2.2], pPR true]))) (0,y10,()))) (gV (bG.rows false [[D.p d6, D.p (pPP 0), D.p (pPP 0), D.p d6, D.p d6, D.p (pPP 0), D.p d9,D.p d9, D.p d6, D.p (pPP 0), D.p (pPP 0), D.p (pPP 0), D.p (pPP 0), D.p (pPP 0), D.p (pPP 0), D.p (pPP 0), D.p (pPP 0), D.p (pPP 0)]]) (bG.rows false [[D.p d6, D.p (pPP 0), D.p (pPP 0), D.p d6, D.p d6, D.p (pPP 0), D.p d9,D.p d9, D.p d6, D.p (pPP 0), D.p (pPP 0), D.p (pPP 0), D.p (pPP 0), D.p (pPP 0), D.p (pPP 0), D.p (pPP 0), D.p (pPP 0), D.p (pPP 0)]]) (X0 (i64.wrap (s1.1+1),(),())))) (R (T.b9 [T.agg [pPQ ({data:=#[]}),pPP 0, pPP 0,pPQ ({data:=#[]}), pPQ ({data:=#[]}),pPP 0, T.sl false [],T.sl false [],pPQ ({data:=#[]}), pPP 0,pPP 0, pPP 0,pPP 0, pPP 0,pPP 0, pPP 0,pPP 0, pPP 0], pPR false]))) (0,(),()))
abbrev WB:Sh:=[(true,aD),(false,Sy.str)]
noncomputable def lS:List T->Option T:=gS WB lM
def qV {a0 a1}:lS [aH true aD a0,pPQ a1]=lM (a0,a1):=bJ (s:=WB) rfl (a0,a1) rfl
def A00:sP Tryz.prog 94 lS lM (cJ WB) T3:=iH (a1:=(true,aD)) (a2:=(false,Sy.str)) (sp:=lM) (F:=T3) (Hs:=A41) (f:=94) (k:=8) AMS aZ a7 (aO rfl) ⟨_,_,Tryz.func94,rfl⟩ rfl λ_ _ _=>by kernel_rfl
def D6:aP Tryz.prog 94 lS:=A00 λd id r h hb=>by
 have hl:d.2.2.1.length<=2 ^ 47:=hb.1.2.2.1.1;unfold lM at h;split at h
 ·rename_i hok;unfold T3 BJ4 BJW NE AC g9 H1 f0 d9 d6;rw[dE];refine bP d.2.2.1.length (λk s=>s=((k:Int),(),())/\(d.2.2.1.drop k).find? (λs=>decide (s.1=id))=partOf d id) ⟨rfl,rfl⟩ ?_;rintro X k s hk ⟨rfl,hf⟩ hX;simp only[ae,HE,dE];by_cases hlt:k<d.2.2.1.length
  ·rw[qB hlt] at hf;have hp:fM d.2.2.1[k]=true:=List.all_eq_true.1 hok _ (ak hlt);simp only[hlt,decide_true,aC,bK (r:=aN) hlt];generalize d.2.2.1[k]=p at *;unfold fM EX at hp;simp only[ac] at hp;obtain ⟨⟨hp1,hp2⟩,hp3⟩:=hp;cases hc:decide (p.1=id) with
   | true =>
    simp only[hc,if_true] at hf;simp only[WV,<-hf] at h;cases h;simp only[];refine aG (s:=[(false,aA.li)]) (y:=p.2.2.2.2.2.2.1.1) (by rw[pN,fC,jC hp1];rfl) ?_;refine dV (r:=.li aA) (l:=p.2.2.2.2.2.2.1.2) (by rw[QE,jC hp2]) _ ?_;obtain ⟨p1,p2,p3,p4,p5,p6,⟨o,hs⟩,p7⟩:=p;have hb47:hs.length<=140737488355328:=by
     simp only[lJ,ac,ah] at hp2;exact hp2.2
    cases hs with
    | nil =>
     simp only[List.isEmpty_nil];refine bP 0 (λk s=>s=((k:Int),())) rfl ?_;rintro X k s hk rfl hX;have:k=0:=by omega
     subst this;rfl
    | cons h0 hs =>
     generalize hhs:h0::hs=hh at *;have he:hh.isEmpty=false:=by rw[<-hhs];rfl
     simp only[he];rw[dP (r:=.li aA) rfl];refine bP hh.length (λk s=>s=((k:Int),hh,())) rfl ?_;rintro X k s hk rfl hX;simp only[ae,HE];by_cases hlt:k<hh.length
     ·have hok:lJ 16 hh[k].length=true:=List.all_eq_true.1 hp3 _ (ak hlt);simp only[hlt,decide_true,Int.toNat_natCast,bK (r:=.li aA) hlt,jM (r:=.li aA) hlt,pW (r:=.li aA) hlt];refine aG (s:=[(false,aA.li)]) (y:=hh[k]) (by rw[pN,fC,jC hok];rfl) ?_;refine ⟨rfl,?_⟩;have e:bX (Sy.enc (.li aA) hh[k]) 0 [T.sl false (List.map aA.enc hh[k])]=Sy.enc (.li aA) hh[k]:=rfl;rw[e,FC (r:=.li aA) hlt,dP (r:=.li aA) rfl];refine hX _ hlt ?_;simp only[Prod.mk.injEq,and_true];exact bH _ (by omega) (by omega)
     ·simp only[hlt,decide_false];rfl
   | false =>
    simp only[hc] at hf;refine hX _ hlt ⟨?_,hf⟩;simp only[Prod.mk.injEq,and_true];exact bH _ (by omega) (by omega)
  ·have:k=d.2.2.1.length:=by omega
   subst this;simp only[List.drop_length,List.find?_nil] at hf;simp only[WV,<-hf] at h;simp only[hlt,decide_false,aC];cases h;rfl
 ·cases h
end Go.Pv
namespace Go.Pv
open Go Go.Proofs IntKind
abbrev lB:Sh:=[(false,.bool)]
variable {A B:Prop}
def gK {p:Prop} {i:Decidable p} (h:p) (ha:A):aC (@decide p i) A B:=by rw[show @decide p i=true from ai h];exact ha
def jA {p:Prop} {i:Decidable p} (h:¬ p) (hb:B):aC (@decide p i) A B:=by rw[show @decide p i=false from aj h];exact hb
def cC {p:Prop} {i:Decidable p} (h1:p->A) (h2:¬ p->B):aC (@decide p i) A B:=by
 by_cases h:p
 ·rw[ai h];exact h1 h
 ·rw[aj h];exact h2 h
def kU {p:Prop} {i:Decidable p} (h1:¬ p->A) (h2:p->B):aC (!(@decide p i)) A B:=by
 by_cases h:p
 ·rw[ai h];exact h2 h
 ·rw[aj h];exact h1 h
def wU {c:Bool} (h1:c=true->A) (h2:c=false->B):aC c A B:=by cases c with
 | true=>exact h1 rfl
 | false=>exact h2 rfl
def iE {c:Bool} (h1:c=false->A) (h2:c=true->B):aC (!c) A B:=by cases c with
 | true=>exact h2 rfl
 | false=>exact h1 rfl
def cG {α:Type} (f:α->Int):List α->Int
 | []=>0
 | a::l=>if f a=0 then cG f l else f a
def qS {r:Sy} {l:List r.den} (f:r.den->Int) (hl:l.length<=140737488355328) {Body:(Int×PUnit->Prop)->Int×PUnit->r.den->Prop} {Exit:Prop}
  (hbody:∀ (X:Int×PUnit->Prop) (s:Int×PUnit) (y:r.den),y∈l->(f y=0->X (i64.wrap (s.1+1),()))->(f y≠0->cG f l=f y)->Body X s y) (hexit:cG f l=0->Exit) :
  bD (Int×PUnit) (λ(X:Int×PUnit->Prop) (s:Int×PUnit)=>aC (decide (s.1<((List.map r.enc l).length:Int))) (aX r (List.map r.enc l) s.1 λy=>Body X s y) Exit) (0,()):=by
 refine bP l.length (λk s=>s=((k:Int),())/\cG f l=cG f (l.drop k)) ⟨rfl,by rw[List.drop_zero]⟩ ?_;rintro X k s hk ⟨rfl,he⟩ hX;dsimp only;refine cC (λhlt=>?_) λhge=>?_
 ·rw[ae] at hlt;have hlt:k<l.length:=by omega
  rw[bK hlt];have hd:l.drop k=l[k]::l.drop (k+1):=List.drop_eq_getElem_cons hlt;rw[hd,cG] at he;refine hbody X _ _ (ak hlt) (λh0=>?_) λh0=>by rw[he,if_neg h0]
  rw[if_pos h0] at he;exact hX _ hlt ⟨by rw[show i64.wrap ((k:Int)+1)=((k+1:Nat):Int) from bH _ (by omega) (by omega)],he⟩
 ·rw[ae] at hge;have:k=l.length:=by omega
  subst this;rw[List.drop_length] at he;exact hexit he
end Go.Pv
namespace Go.Pv
open Go Go.Proofs IntKind
def upF (d:aB):Nat->iII->List iII->List iII×Bool
 | 0,_,_=>([],false)
 | n+1,id,l=>match eG d id with
  | none=>([],false)
  | some x=>if x.2.1=1 then (l++[id],true) else upF d n x.2.2 (l++[id])
def up (d:aB) (id:iII):List iII×Bool:=upF d 65 id []
def ALP {d:aB}:∀ {n:Nat} {id:iII} {l:List iII},(upF d n id l).1.length<=l.length+n
 | 0,_,_=>by simp[upF]
 | n+1,id,l=>by
  unfold upF;cases eG d id with
  | none=>simp
  | some x =>
   by_cases hx:x.2.1=1
   ·simp only[hx,if_true];simp
   ·simp only[hx,if_false];have:=ALP (d:=d) (n:=n) (id:=x.2.2) (l:=l++[id]);simp at this;omega
def BFI (d:aB) (id:iII):(up d id).1.length<=65:=by have:=ALP (d:=d) (n:=65) (id:=id) (l:=[]);simpa [up] using this
def AFI {l:List iII} (h:l.length<=8000000000000) (K:Prop):bQ (decide (((List.map Sy.str.enc l).length+1)*16<=140737488355328)&&decide ((List.map Sy.str.enc l).length+1<=140737488355328)) K=K:=by
 have e:(decide (((List.map Sy.str.enc l).length+1)*16<=140737488355328)&&decide ((List.map Sy.str.enc l).length+1<=140737488355328))=true:=by
  simp only[ae,ac,ah];omega
 rw[e];simp[bQ]
def MX {l:List iII} {x:iII} (K:List iII->Prop):jI Sy.str (List.map Sy.str.enc l++[[pPQ x]]) K=K (l++[x]):=GI (r:=.str) rfl l _ x rfl K
def AXG {l:List iII} {x:iII}:List.map Sy.str.enc l++[[pPQ x]]=List.map Sy.str.enc (l++[x]):=by simp[Sy.enc]
end Go.Pv
namespace Go.Pv
open Go Go.Proofs IntKind
variable {α:Type}
noncomputable def l8 (a b:α):Bool:=@decide (a=b) (Classical.propDecidable _)
def dX {a b:α}:l8 a b=true↔a=b:=by unfold l8;exact @decide_eq_true_iff _ (Classical.propDecidable _)
@[simp] def BHQ (a:α):l8 a a=true:=dX.2 rfl
def xE {a b:α} (h:¬ a=b):l8 a b=false:=by
 cases hc:l8 a b with
 | false=>rfl
 | true=>exact absurd (dX.1 hc) h
def ABH (c d:Bool) (r:T):aC c (pPR d=r) (pPR false=r)=(pPR (c&&d)=r):=by cases c<;>simp[aC]
def SN (c d:Bool) (r:T):aC (!c) (pPR false=r) (pPR d=r)=(pPR (c&&d)=r):=by cases c<;>simp[aC]
def A9S (x:Bool):Sh.enc lB x=pPR x:=rfl
def zF (y:Bool) (K:Bool->Prop):aJ [(false,Sy.bool)] (some (Sh.enc lB y)) K=K y:=zU (s:=lB) rfl y K
variable {R:T->Prop}
def ARQ {r:Sy} {l m:List r.den} (hlen:l.length=m.length) (hl:l.length<=2 ^ 47) (test:r.den->r.den->Bool) (ht:∀ x y,test x y=true↔x=y) (hR:R (pPR (l8 l m))) :
  bD (Int×PUnit) (λ(X:Int×PUnit->Prop) (s:Int×PUnit)=>aC (decide (s.1<(↑(List.map r.enc l).length:Int))) (aX r (List.map r.enc l) s.1 λy=>aX r (List.map r.enc m) s.1 λz=>aC (!(test y z)) (R (pPR false)) (X (i64.wrap (s.1+1),()))) (R (pPR true))) (0,()):=by
 refine bP l.length (λk s=>s=((k:Int),())/\(l=m↔l.drop k=m.drop k)) ⟨rfl,by simp⟩ ?_;rintro X k s hk ⟨rfl,he⟩ hX;dsimp only;by_cases hlt:k<l.length
 ·have hlt2:k<m.length:=by omega
  refine gK (by simp[hlt]) ?_;rw[bK hlt,bK hlt2];rw[List.drop_eq_getElem_cons hlt,List.drop_eq_getElem_cons hlt2,List.cons.injEq] at he;by_cases h1:l[k]=m[k]
  ·rw[(ht _ _).2 h1,Bool.not_true,o7];refine hX _ hlt ⟨by rw[show i64.wrap ((k:Int)+1)=((k+1:Nat):Int) from bH _ (by omega) (by omega)],?_⟩;rw[he];exact ⟨λh=>h.2,λh=>⟨h1,h⟩⟩
  ·have:test l[k] m[k]=false:=by
    cases hc:test l[k] m[k] with
    | false=>rfl
    | true=>exact absurd ((ht _ _).1 hc) h1
   rw[this,Bool.not_false,jS];rwa[xE λh=>h1 (he.1 h).1] at hR
 ·have:k=l.length:=by omega
  subst this;refine jA (by simp) ?_;rwa[dX.2 (he.2 (by rw[List.drop_length,hlen,List.drop_length]))] at hR
def FA {r:Sy} {l m:List r.den} (hl:l.length<=2 ^ 47) (test:r.den->r.den->Bool) (ht:∀ x y,test x y=true↔x=y) (hR:R (pPR (l8 l m))) :
  aC (!decide ((↑(List.map r.enc l).length:Int)=(↑(List.map r.enc m).length:Int))) (R (pPR false)) (bD (Int×PUnit) (λ(X:Int×PUnit->Prop) (s:Int×PUnit)=>aC (decide (s.1<(↑(List.map r.enc l).length:Int))) (aX r (List.map r.enc l) s.1 λy=>aX r (List.map r.enc m) s.1 λz=>aC (!(test y z)) (R (pPR false)) (X (i64.wrap (s.1+1),()))) (R (pPR true))) (0,())):=by
 by_cases hlen:l.length=m.length
 ·rw[show (!decide ((↑(List.map r.enc l).length:Int)=(↑(List.map r.enc m).length:Int)))=false by simp[hlen],o7];exact ARQ hlen hl test ht hR
 ·rw[show (!decide ((↑(List.map r.enc l).length:Int)=(↑(List.map r.enc m).length:Int)))=true by simp;omega,jS];rwa[xE λh=>hlen (by rw[h])] at hR
def iO (d:aB) (id:iII):Option aQ:=d.2.2.2.2.1.find? λs=>decide (s.1=id)
def noPack:aQ:=(⟨#[]⟩,⟨#[]⟩,[],0,[])
def ZC:TR Tryz.prog 243 1 16:=⟨λR=>by kernel_rfl,λfl R=>by kernel_rfl,λfl a rows R=>by kernel_rfl⟩
noncomputable def j1:List T->Option T:=gS [(false,.li .str)] (fC .str 16)
def oG {u0}:j1 [T.sl false (List.map (Sy.enc .str) u0)]=fC .str 16 u0:=bJ (s:=[(false,.li .str)]) rfl u0 rfl
def I1:aP Tryz.prog 243 j1:=GH aZ a7 ⟨_,_,Tryz.func243,rfl⟩ ZC
def eU (p:aQ):Bool:=lJ 16 p.2.2.1.length&&lJ 16 p.2.2.2.2.length
def HJ (d:aB):Bool:=d.2.2.2.2.1.all eU
def ACD (d:aB) (t:T):Option T:=match HJ d with
 | true=>some t
 | false=>none
def A1B {d:aB} {t r:T} (h:ACD d t=some r):HJ d=true/\r=t:=by
 unfold ACD at h;split at h
 ·cases h;exact ⟨by assumption,rfl⟩
 ·cases h
def ACE {d:aB} (t:T) (h:HJ d=true):ACD d t=some t:=by unfold ACD;rw[h]
def KK (x:aB×iII):Option T:=ACD x.1 (Sh.enc [(true,aF),(false,.bool)] (found noPack (iO x.1 x.2)))
noncomputable def BAL:Env:=Env.of [(243,.pure j1)]
def BA1:FuncId->Hint:=cA 217 [(2,.inv [.val 11 false (.int .i64),.fix 1])] (λ_=>bA)
def ATO:aU Tryz.prog BAL:=.cons I1 (.nil _)
def eI:Sh:=[(false,Sy.str.li)]
def m7(a0:aB):List (List T):=List.map aF.enc a0.2.2.2.2.1
def IO(y3:List iII):List (List T):=List.map Sy.str.enc y3
def BJ0(y2:aQ):List (List T):=List.map Sy.str.enc y2.2.2.2.2
def BJ3(y2:aQ):List (List T):=List.map Sy.str.enc y2.2.2.1
def AEZ(a0:aB)(a1:iII)(R:T->Prop):Prop:=gV (bG.rows false [[D.p d6,D.p d6, D.p d9,D.p (pPP 0), D.p d9]]) (bG.rows false [[D.p d6,D.p d6, D.p d9,D.p (pPP 0), D.p d9]]) (bD (Int×PUnit×PUnit) (λX0 s1=>aC (decide (s1.1<(↑(m7 a0).length:Int))) (aX aF (m7 a0) s1.1 λ(y2:aQ)=>aC (decide (y2.1=a1)) (aJ eI (j1 [T.sl false (BJ3 y2)]) λ(y3:List iII)=>aJ eI (j1 [T.sl false (BJ0 y2)]) λ(y4:List iII)=>R (T.b9 [T.agg [pPQ y2.1,pPQ y2.2.1, T.sl false (IO y3), pPP y2.2.2.2.1, T.sl false (IO y4)], pPR true])) (gV (bG.rows false [[D.p d6, D.p d6, D.p d9, D.p (pPP 0), D.p d9]]) (bG.rows false [[D.p d6, D.p d6, D.p d9, D.p (pPP 0), D.p d9]]) (X0 (i64.wrap (s1.1+1),(),())))) (R (T.b9 [T.agg [pPQ ({data:=#[]}),pPQ ({data:=#[]}), T.sl false [],pPP 0,T.sl false []], pPR false]))) (0,(),()))
abbrev AIF:Sh:=[(true,aD),(false,Sy.str)]
noncomputable def C4:List T->Option T:=gS AIF KK
def R1 {a0 a1}:C4 [aH true aD a0,pPQ a1]=KK (a0,a1):=bJ (s:=AIF) rfl (a0,a1) rfl
def A8A:sP Tryz.prog 217 C4 KK (cJ AIF) AEZ:=iH (a1:=(true,aD)) (a2:=(false,Sy.str)) (sp:=KK) (F:=AEZ) (Hs:=BA1) (f:=217) (k:=8) ATO aZ a7 (aO rfl) ⟨_,_,Tryz.func217,rfl⟩ rfl λ_ _ _=>by kernel_rfl
def AJ6:aP Tryz.prog 217 C4:=A8A λd id r h hb=>by
 have hl:d.2.2.2.2.1.length<=2 ^ 47:=hb.1.2.2.2.2.1.1;obtain ⟨hok,rfl⟩:=A1B h;clear h;unfold AEZ BJ3 BJ0 IO m7 eI d9 d6;rw[dE];refine bP d.2.2.2.2.1.length (λk s=>s=((k:Int),(),())/\(d.2.2.2.2.1.drop k).find? (λs=>decide (s.1=id))=iO d id) ⟨rfl,rfl⟩ ?_;rintro X k s hk ⟨rfl,hf⟩ hX;simp only[ae,HE,dE];by_cases hlt:k<d.2.2.2.2.1.length
 ·rw[qB hlt] at hf;have hp:eU d.2.2.2.2.1[k]=true:=List.all_eq_true.1 hok _ (ak hlt);simp only[hlt,decide_true,aC,bK (r:=aF) hlt];unfold eU at hp;simp only[ac] at hp;cases hc:decide (d.2.2.2.2.1[k].1=id) with
  | true =>
   simp only[hc,if_true] at hf;rw[<-hf];refine aG (s:=[(false,.li .str)]) (y:=d.2.2.2.2.1[k].2.2.1) (by rw[oG,fC,jC hp.1];rfl) ?_;refine aG (s:=[(false,.li .str)]) (y:=d.2.2.2.2.1[k].2.2.2.2) (by rw[oG,fC,jC hp.2];rfl) ?_;rfl
  | false =>
   simp only[hc] at hf;refine hX _ hlt ⟨?_,hf⟩;simp only[Prod.mk.injEq,and_true];exact bH _ (by omega) (by omega)
 ·have:k=d.2.2.2.2.1.length:=by omega
  subst this;simp only[List.drop_length,List.find?_nil] at hf;rw[<-hf];simp only[hlt,decide_false,aC];rfl
noncomputable def uU (x:List aR×List aR):Option T:=some (Sh.enc lB (l8 x.1 x.2))
noncomputable def uV (x:jQ×jQ):Option T:=some (Sh.enc lB (l8 x.1 x.2))
noncomputable def oW (x:a8×a8):Option T:=some (Sh.enc lB (l8 x.1 x.2))
noncomputable def zM (x:List iII×List iII):Option T:=some (Sh.enc lB (l8 x.1 x.2))
noncomputable def oV (x:aQ×aQ):Option T:=some (Sh.enc lB (l8 x.1 x.2))
noncomputable def AS5:Env:=Env.of []
def AV2:FuncId->Hint:=cA 95 [(4,.inv [.val 5 false (.int .i64)])] (λ_=>bA)
def AED:aU Tryz.prog AS5:=.nil _
def d4:T:=pPR false
def d7:T:=pPR true
def LE(a0:List aR)(a1:List aR)(R:T->Prop):Prop:=bD (Int×PUnit) (λX0 s1=>aC (decide (s1.1<(↑(g9 a0).length:Int))) (aX aA (g9 a0) s1.1 λ(y2:aR)=>aX aA (g9 a1) s1.1 λ(y3:aR)=>aC (!(decide (y2.1=y3.1)&&(decide (y2.2=y3.2)&&true))) (R d4) (f9 X0 s1)) (R d7)) (0,())
def L0(a0:List aR)(a1:List aR)(R:T->Prop):Prop:=aC (!decide ((↑(g9 a0).length:Int)=(↑(g9 a1).length:Int))) (R d4) (LE a0 a1 R)
abbrev PC:Sh:=[(false,aA.li),(false,aA.li)]
noncomputable def uE:List T->Option T:=gS PC uU
def AA7 {a0 a1}:uE [T.sl false (List.map aA.enc a0),T.sl false (List.map aA.enc a1)]=uU (a0,a1):=bJ (s:=PC) rfl (a0,a1) rfl
def AQ3:sP Tryz.prog 95 uE uU (cJ PC) L0:=iH (a1:=(false,aA.li)) (a2:=(false,aA.li)) (sp:=uU) (F:=L0) (Hs:=AV2) (f:=95) (k:=8) AED aZ a7 (aO rfl) ⟨_,_,Tryz.func95,rfl⟩ rfl λ_ _ _=>by kernel_rfl
def AO0:aP Tryz.prog 95 uE:=AQ3 λa b r h hb=>by
 cases h;unfold L0 LE g9 f9 d7 d4;refine FA (r:=aA) (R:=λy=>y=Sh.enc lB (l8 a b)) hb.1.1 _ (λx y=>?_) rfl;simp only[Bool.and_true,ac,ah,Prod.ext_iff]
noncomputable def AS6:Env:=Env.of [(95,.pure uE)]
def AV3:FuncId->Hint:=cA 67 [(4,.inv [.val 5 false (.int .i64)])] (λ_=>bA)
def AEE:aU Tryz.prog AS6:=.cons AO0 (.nil _)
def d5:Sh:=[(false,Sy.bool)]
def BJ8(a0:jQ):List (List T):=List.map aA.li.enc a0.2
def L1(a0:jQ)(a1:jQ)(R:T->Prop):Prop:=aJ d5 (uE [T.sl false (List.map aA.enc a0.1),T.sl false (List.map aA.enc a1.1)]) λ(y0:Bool)=>aC (!y0) (R d4) (aC (!decide ((↑(BJ8 a0).length:Int) = (↑(BJ8 a1).length:Int))) (R d4) (bD (Int×PUnit) (λX1 s2=>aC (decide (s2.1<(↑(BJ8 a0).length:Int))) (aX aA.li (BJ8 a0) s2.1 λ(y3:List aR)=>aX aA.li (BJ8 a1) s2.1 λ(y4:List aR)=>aJ d5 (uE [T.sl false (g9 y3),T.sl false (g9 y4)]) λ(y5:Bool)=>aC (!y5) (R d4) (f9 X1 s2)) (R d7)) (0,())))
abbrev PD:Sh:=[(true,eP),(true,eP)]
noncomputable def xY:List T->Option T:=gS PD uV
def AA8 {a0 a1}:xY [aH true eP a0,aH true eP a1]=uV (a0,a1):=bJ (s:=PD) rfl (a0,a1) rfl
def AQ4:sP Tryz.prog 67 xY uV (cJ PD) L1:=iH (a1:=(true,eP)) (a2:=(true,eP)) (sp:=uV) (F:=L1) (Hs:=AV3) (f:=67) (k:=8) AEE aZ a7 (aO rfl) ⟨_,_,Tryz.func67,rfl⟩ rfl λ_ _ _=>by kernel_rfl
def AO1:aP Tryz.prog 67 xY:=AQ4 λa b r h hb=>by
 cases h;unfold L1 BJ8 g9 f9 d7 d5 d4;have u:=@AA7;simp only[u,uU,zF];by_cases h1:a.1=b.1
 ·rw[dX.2 h1,Bool.not_true,o7];refine FA (r:=.li aA) (R:=λy=>y=Sh.enc lB (l8 a b)) hb.1.2.1 _ (λx y=>dX) ?_;show T.v (.bool (l8 a.2 b.2))=T.v (.bool (l8 a b))
  congr 2
  rw[Bool.eq_iff_iff,dX,dX,Prod.ext_iff];exact ⟨λh=>⟨h1,h⟩,λh=>h.2⟩
 ·rw[xE h1,Bool.not_false,jS,xE λh=>h1 (by rw[h])];rfl
noncomputable def ADO:Env:=Env.of [(67,.pure xY)]
def AFA:FuncId->Hint:=λ_=>bA
def TX:aU Tryz.prog ADO:=.cons AO1 (.nil _)
def CK(a0:a8)(a1:a8)(R:T->Prop):Prop:=aC (!decide (a0.1=a1.1)) (R d4) (aC (!decide (a0.2.1=a1.2.1)) (R d4) (aC (!decide (a0.2.2.1=a1.2.2.1)) (R d4) (aC (!decide (a0.2.2.2.1=a1.2.2.2.1)) (R d4) (aC (!decide (a0.2.2.2.2.1=a1.2.2.2.2.1)) (R d4) (aC (!decide (a0.2.2.2.2.2.1=a1.2.2.2.2.2.1)) (R d4) (aJ d5 (xY [aH true eP a0.2.2.2.2.2.2.1, aH true eP a1.2.2.2.2.2.2.1]) λ(y0:Bool)=>aC y0 (aC (decide (a0.2.2.2.2.2.2.2.1=a1.2.2.2.2.2.2.2.1)) (aC (decide (a0.2.2.2.2.2.2.2.2.1=a1.2.2.2.2.2.2.2.2.1)) (aC (decide (a0.2.2.2.2.2.2.2.2.2.1=a1.2.2.2.2.2.2.2.2.2.1)) (aC (decide (a0.2.2.2.2.2.2.2.2.2.2.1.1 = a1.2.2.2.2.2.2.2.2.2.2.1.1) && (decide (a0.2.2.2.2.2.2.2.2.2.2.1.2.1 = a1.2.2.2.2.2.2.2.2.2.2.1.2.1) && (decide (a0.2.2.2.2.2.2.2.2.2.2.1.2.2 = a1.2.2.2.2.2.2.2.2.2.2.1.2.2) && true))) (R (pPR (decide (a0.2.2.2.2.2.2.2.2.2.2.2.1.1 = a1.2.2.2.2.2.2.2.2.2.2.2.1.1) && (decide (a0.2.2.2.2.2.2.2.2.2.2.2.1.2.1 = a1.2.2.2.2.2.2.2.2.2.2.2.1.2.1) && (decide (a0.2.2.2.2.2.2.2.2.2.2.2.1.2.2 = a1.2.2.2.2.2.2.2.2.2.2.2.1.2.2) && true)) && (decide (a0.2.2.2.2.2.2.2.2.2.2.2.2 = a1.2.2.2.2.2.2.2.2.2.2.2.2) && true)))) (R d4)) (R d4)) (R d4)) (R d4)) (R d4)))))))
abbrev DJ:Sh:=[(true,aN),(true,aN)]
noncomputable def qY:List T->Option T:=gS DJ oW
def QI {a0 a1}:qY [aH true aN a0,aH true aN a1]=oW (a0,a1):=bJ (s:=DJ) rfl (a0,a1) rfl
def AB9:sP Tryz.prog 42 qY oW (cJ DJ) CK:=iH (a1:=(true,aN)) (a2:=(true,aN)) (sp:=oW) (F:=CK) (Hs:=AFA) (f:=42) (k:=8) TX aZ a7 (aO rfl) ⟨_,_,Tryz.func42,rfl⟩ rfl λ_ _ _=>by kernel_rfl
def Z3:aP Tryz.prog 42 qY:=AB9 λa b r h hb=>by
 cases h;unfold CK d5 d4;simp only[AA8,uV,zF];simp only[A9S,ABH,SN]
 congr 2
 rw[Bool.eq_iff_iff,dX];simp only[Bool.and_true,ac,ah,dX,Prod.ext_iff,and_assoc]
noncomputable def A3R:Env:=Env.of []
def A47:FuncId->Hint:=cA 25 [(4,.inv [.val 5 false (.int .i64)])] (λ_=>bA)
def AMY:aU Tryz.prog A3R:=.nil _
def T9(a0:List iII)(a1:List iII)(R:T->Prop):Prop:=aC (!decide ((↑(IO a0).length:Int)=(↑(IO a1).length:Int))) (R d4) (bD (Int×PUnit) (λX0 s1=>aC (decide (s1.1<(↑(IO a0).length:Int))) (aX Sy.str (IO a0) s1.1 λ(y2:iII)=>aX Sy.str (IO a1) s1.1 λ(y3:iII)=>aC (!decide (y2=y3)) (R d4) (f9 X0 s1)) (R d7)) (0,()))
abbrev WI:Sh:=[(false,Sy.str.li),(false,Sy.str.li)]
noncomputable def AD:List T->Option T:=gS WI zM
def AGX {a0 a1}:AD [T.sl false (List.map Sy.str.enc a0),T.sl false (List.map Sy.str.enc a1)]=zM (a0,a1):=bJ (s:=WI) rfl (a0,a1) rfl
def A06:sP Tryz.prog 25 AD zM (cJ WI) T9:=iH (a1:=(false,Sy.str.li)) (a2:=(false,Sy.str.li)) (sp:=zM) (F:=T9) (Hs:=A47) (f:=25) (k:=8) AMY aZ a7 (aO rfl) ⟨_,_,Tryz.func25,rfl⟩ rfl λ_ _ _=>by kernel_rfl
def AXZ:aP Tryz.prog 25 AD:=A06 λa b r h hb=>by
 cases h;unfold T9 IO f9 d7 d4;exact FA (r:=.str) (R:=λy=>y=Sh.enc lB (l8 a b)) hb.1.1 _ (λx y=>decide_eq_true_iff) rfl
noncomputable def ADN:Env:=Env.of [(25,.pure AD)]
def AE9:FuncId->Hint:=λ_=>bA
def TW:aU Tryz.prog ADN:=.cons AXZ (.nil _)
def CJ(a0:aQ)(a1:aQ)(R:T->Prop):Prop:=aC (decide (a0.1=a1.1)) (aC (decide (a0.2.1=a1.2.1)) (aC (decide (a0.2.2.2.1=a1.2.2.2.1)) (aJ d5 (AD [T.sl false (BJ3 a0), T.sl false (BJ3 a1)]) λ(y0:Bool)=>aC y0 (aJ d5 (AD [T.sl false (BJ0 a0), T.sl false (BJ0 a1)]) λ(y1:Bool)=>R (pPR y1)) (R d4)) (R d4)) (R d4)) (R d4)
abbrev DI:Sh:=[(true,aF),(true,aF)]
noncomputable def qX:List T->Option T:=gS DI oV
def QH {a0 a1}:qX [aH true aF a0,aH true aF a1]=oV (a0,a1):=bJ (s:=DI) rfl (a0,a1) rfl
def AB8:sP Tryz.prog 43 qX oV (cJ DI) CJ:=iH (a1:=(true,aF)) (a2:=(true,aF)) (sp:=oV) (F:=CJ) (Hs:=AE9) (f:=43) (k:=8) TW aZ a7 (aO rfl) ⟨_,_,Tryz.func43,rfl⟩ rfl λ_ _ _=>by kernel_rfl
def Z1:aP Tryz.prog 43 qX:=AB8 λa b r h hb=>by
 cases h;unfold CJ BJ3 BJ0 d5 d4;have u:=@AGX;simp only[u,zM,zF];simp only[A9S,ABH,SN]
 congr 2
 rw[Bool.eq_iff_iff,dX];simp only[Bool.and_true,ac,ah,dX,Prod.ext_iff];exact ⟨λ⟨h1,h2,h3,h4,h5⟩=>⟨h1,h2,h4,h3,h5⟩,λ⟨h1,h2,h4,h3,h5⟩=>⟨h1,h2,h3,h4,h5⟩⟩
end Go.Pv
namespace Go.Pv
open Go Go.Proofs IntKind
def ZP (d:aB) (n:Int):Bool:=decide ((d.2.1.length:Int)<=n)&&decide ((d.2.2.1.length:Int)<=n)&&decide ((d.2.2.2.1.length:Int)<=n)&&decide ((d.2.2.2.2.1.length:Int)<=n)&&decide ((d.2.2.2.2.2.length:Int)<=n)&&d.2.2.2.2.1.all λk=>decide ((k.2.2.1.length:Int)<=n)&&decide ((k.2.2.2.2.length:Int)<=n)
def WT (x:aB×Int):Option T:=some (Sh.enc lB (ZP x.1 x.2))
noncomputable def BF7:Env:=Env.of []
def BGT:FuncId->Hint:=cA 40 [(4,.inv [.val 5 false (.int .i64)])] (λ_=>bA)
def A4C:aU Tryz.prog BF7:=.nil _
def GE(a0:aB):List (List T):=List.map aY.enc a0.2.2.2.2.2
def AUL(a0:aB)(a1:Int)(R:T->Prop):Prop:=aC (decide (a1<(↑(t7 a0).length:Int))) (R d4) (aC (decide (a1<(↑(H1 a0).length:Int))) (R d4) (aC (decide (a1<(↑(t6 a0).length:Int))) (R d4) (aC (decide (a1<(↑(m7 a0).length:Int))) (R d4) (aC (decide (a1<(↑(GE a0).length:Int))) (R d4) (bD (Int×PUnit) (λX0 s1=>aC (decide (s1.1<(↑(m7 a0).length:Int))) (aX aF (m7 a0) s1.1 λ(y2:aQ)=>aC (decide (a1<(↑(BJ3 y2).length:Int))) (R d4) (aX aF (m7 a0) s1.1 λ(y3:aQ)=>aC (decide (a1<(↑(BJ0 y3).length:Int))) (R d4) (f9 X0 s1))) (R d7)) (0,()))))))
abbrev A2K:Sh:=[(true,aD),(false,(Sy.int IntKind.i64))]
noncomputable def RX:List T->Option T:=gS A2K WT
def AAC {a0 a1}:RX [aH true aD a0,pPP a1]=WT (a0,a1):=bJ (s:=A2K) rfl (a0,a1) rfl
def BD9:sP Tryz.prog 40 RX WT (cJ A2K) AUL:=iH (a1:=(true,aD)) (a2:=(false,(Sy.int IntKind.i64))) (sp:=WT) (F:=AUL) (Hs:=BGT) (f:=40) (k:=8) A4C aZ a7 (aO rfl) ⟨_,_,Tryz.func40,rfl⟩ rfl λ_ _ _=>by kernel_rfl
variable {A B:Prop}
def jW {n:Int} {m:Nat} (h1:¬ (m:Int)<=n->A) (h2:(m:Int)<=n->B):aC (decide (n<(m:Int))) A B:=by
 by_cases h:(m:Int)<=n
 ·exact jA (by omega) (h2 h)
 ·exact gK (by omega) (h1 h)
variable {α:Type}
def MA {p:α->Bool} {l:List α} {k:Nat} (h:k<l.length):(l.drop k).all p=(p l[k]&&(l.drop (k+1)).all p):=by rw[List.drop_eq_getElem_cons h,List.all_cons]
def BB4:aP Tryz.prog 40 RX:=BD9 λd n r h hb=>by
 cases h;have hl:d.2.2.2.2.1.length<=2 ^ 47:=hb.1.2.2.2.2.1.1;have no:ZP d n=false->pPR false=Sh.enc lB (ZP d n):=λh=>by rw[h];rfl
 unfold AUL BJ3 BJ0 f9 H1 GE t7 t6 m7 d7 d4;simp only[ae];refine jW (λh=>no (by simp[ZP,h])) λg1=>?_;refine jW (λh=>no (by simp[ZP,h])) λg2=>?_;refine jW (λh=>no (by simp[ZP,h])) λg3=>?_;refine jW (λh=>no (by simp[ZP,h])) λg4=>?_;refine jW (λh=>no (by simp[ZP,h])) λg5=>?_;refine bP d.2.2.2.2.1.length (λk s=>s=((k:Int),())/\ZP d n=(d.2.2.2.2.1.drop k).all λk=>decide ((k.2.2.1.length:Int)<=n)&&decide ((k.2.2.2.2.length:Int)<=n)) ⟨rfl,by simp only[ZP,g1,g2,g3,g4,g5,decide_true,Bool.true_and,List.drop_zero]⟩ ?_;rintro X k s hk ⟨rfl,he⟩ hX;dsimp only;by_cases hlt:k<d.2.2.2.2.1.length
 ·rw[MA hlt] at he;refine gK (by simp[hlt]) ?_;rw[bK (r:=aF) hlt]
  try simp only[ae]
  refine jW (λh=>no (by rw[he];simp[h])) λg6=>?_
  try rw[bK (r:=aF) hlt]
  try simp only[ae]
  refine jW (λh=>no (by rw[he];simp[h])) λg7=>?_;refine hX _ hlt ⟨by rw[show i64.wrap ((k:Int)+1)=((k+1:Nat):Int) from bH _ (by omega) (by omega)],?_⟩;rw[he];simp only[g6,g7,decide_true,Bool.true_and]
 ·have:k=d.2.2.2.2.1.length:=by omega
  subst this;refine jA (by simp) ?_;rw[he];simp only[List.drop_length,List.all_nil];rfl
def BEX {d:aB} (h:InS aD d):JH d=true:=by
 refine List.all_eq_true.2 λp hp=>?_;obtain ⟨_,_,⟨_,_,h3⟩,_⟩:=h;have h4:=h3 p hp;obtain ⟨_,_,_,_,_,_,⟨⟨h5,h6,_⟩,h7,h8,h9⟩,_⟩:=h4;unfold fM EX lJ;simp only[ac,ah,List.all_eq_true];refine ⟨⟨⟨?_,?_⟩,?_,?_⟩,λq hq=>?_⟩
 ·exact h5
 ·exact h6
 ·exact h7
 ·exact h8
 ·obtain ⟨g1,g2,_⟩:=h9 q hq;exact ⟨g1,g2⟩
def BEY {d:aB} (h:InS aD d):HJ d=true:=by
 refine List.all_eq_true.2 λp hp=>?_;obtain ⟨_,_,_,_,⟨_,_,h3⟩,_⟩:=h;obtain ⟨_,_,⟨h5,h6,_⟩,_,⟨h7,h8,_⟩⟩:=h3 p hp;unfold eU lJ;simp only[ac,ah];exact ⟨⟨h5,h6⟩,h7,h8⟩
def q9 {c:Bool} (h1:c=true->A) (h2:c=false->B):aC c A B:=by cases c with
 | true=>exact h1 rfl
 | false=>exact h2 rfl
def fR {c:Bool} (h1:c=false->A) (h2:c=true->B):aC (!c) A B:=by cases c with
 | true=>exact h2 rfl
 | false=>exact h1 rfl
end Go.Pv
namespace Go.Pv
open Go Go.Proofs IntKind
noncomputable def FP (x:List aR×List aR):Option T:=some (Sh.enc lB (l8 x.1 x.2))
noncomputable def sJ (x:a8×a8):Option T:=some (Sh.enc lB (l8 x.1 x.2))
noncomputable def AIZ (x:aB×aB):Option T:=some (Sh.enc lB (l8 x.1 x.2))
noncomputable def pY:=AIZ
noncomputable def BAQ:Env:=Env.of []
def BA6:FuncId->Hint:=cA 274 [(4,.inv [.val 13 false (.int .i64)])] (λ_=>bA)
def ATT:aU Tryz.prog BAQ:=.nil _
def AE4(a0:List aR)(a1:List aR)(R:T->Prop):Prop:=aC (!decide ((↑(g9 a0).length:Int)=(↑(g9 a1).length:Int))) (R d4) (LE a0 a1 R)
abbrev AIL:Sh:=[(false,aA.li),(false,aA.li)]
noncomputable def G2:List T->Option T:=gS AIL FP
def APL {a0 a1}:G2 [T.sl false (List.map aA.enc a0),T.sl false (List.map aA.enc a1)]=FP (a0,a1):=bJ (s:=AIL) rfl (a0,a1) rfl
def A8F:sP Tryz.prog 274 G2 FP (cJ AIL) AE4:=iH (a1:=(false,aA.li)) (a2:=(false,aA.li)) (sp:=FP) (F:=AE4) (Hs:=BA6) (f:=274) (k:=8) ATT aZ a7 (aO rfl) ⟨_,_,Tryz.func274,rfl⟩ rfl λ_ _ _=>by kernel_rfl
def A60:aP Tryz.prog 274 G2:=A8F λa b r h hb=>by
 cases h;unfold AE4 LE g9 f9 d7 d4;refine FA (r:=aA) (R:=λy=>y=Sh.enc lB (l8 a b)) hb.1.1 _ (λx y=>?_) rfl;simp only[Bool.and_true,ac,ah,Prod.ext_iff]
variable {N Y:Prop}
def tP {r:Sy} {l m:List r.den} (hlen:l.length=m.length) (hl:l.length<=2 ^ 47) (test:r.den->r.den->Bool) (ht:∀ x y,test x y=true↔x=y) (hY:l=m->Y) (hN:¬ l=m->N) :
  bD (Int×PUnit) (λ(X:Int×PUnit->Prop) (s:Int×PUnit)=>aC (decide (s.1<(↑(List.map r.enc l).length:Int))) (aX r (List.map r.enc l) s.1 λy=>aX r (List.map r.enc m) s.1 λz=>aC (!(test y z)) N (X (i64.wrap (s.1+1),()))) Y) (0,()):=by
 refine bP l.length (λk s=>s=((k:Int),())/\(l=m↔l.drop k=m.drop k)) ⟨rfl,by simp⟩ ?_;rintro X k s hk ⟨rfl,he⟩ hX;dsimp only;by_cases hlt:k<l.length
 ·have hlt2:k<m.length:=by omega
  refine gK (by simp[hlt]) ?_;rw[bK hlt,bK hlt2];rw[List.drop_eq_getElem_cons hlt,List.drop_eq_getElem_cons hlt2,List.cons.injEq] at he;refine fR (λh=>hN λe=>?_) λh=>?_
  ·rw[(ht _ _).2 (he.1 e).1] at h;cases h
  ·have h1:=(ht _ _).1 h;refine hX _ hlt ⟨by rw[show i64.wrap ((k:Int)+1)=((k+1:Nat):Int) from bH _ (by omega) (by omega)],?_⟩;rw[he];exact ⟨λh=>h.2,λh=>⟨h1,h⟩⟩
 ·have:k=l.length:=by omega
  subst this;refine jA (by simp) ?_;exact hY (he.2 (by rw[List.drop_length,hlen,List.drop_length]))
variable {α β:Type}
def HF {f:α->β} {l m:List α} (h:decide ((↑(List.map f l).length:Int)=(↑(List.map f m).length:Int))=true):l.length=m.length:=by simp at h;omega
def UQ {r:Sy} {l m:List r.den} (hl:l.length<=2 ^ 47) (test:r.den->r.den->Bool) (ht:∀ x y,test x y=true↔x=y) (hY:l=m->Y) (hN:¬ l=m->N) :
  aC (!decide ((↑(List.map r.enc l).length:Int)=(↑(List.map r.enc m).length:Int))) N (bD (Int×PUnit) (λ(X:Int×PUnit->Prop) (s:Int×PUnit)=>aC (decide (s.1<(↑(List.map r.enc l).length:Int))) (aX r (List.map r.enc l) s.1 λy=>aX r (List.map r.enc m) s.1 λz=>aC (!(test y z)) N (X (i64.wrap (s.1+1),()))) Y) (0,())) :=
 fR (λh=>hN λe=>by simp[e] at h) λh=>tP (HF h) hl test ht hY hN
noncomputable def ADM:Env:=Env.of [(274,.pure G2)]
def AE8:FuncId->Hint:=cA 275 [(4,.inv [.val 17 false (.int .i64)])] (λ_=>bA)
def TV:aU Tryz.prog ADM:=.cons A60 (.nil _)
def CI(a0:a8)(a1:a8)(R:T->Prop):Prop:=aC (!decide (a0.1=a1.1)) (R d4) (aC (!decide (a0.2.1=a1.2.1)) (R d4) (aC (!decide (a0.2.2.1=a1.2.2.1)) (R d4) (aC (!decide (a0.2.2.2.1=a1.2.2.2.1)) (R d4) (aC (!decide (a0.2.2.2.2.1=a1.2.2.2.2.1)) (R d4) (aC (!decide (a0.2.2.2.2.2.1=a1.2.2.2.2.2.1)) (R d4) (aC (!decide (a0.2.2.2.2.2.2.2.1=a1.2.2.2.2.2.2.2.1)) (R d4) (aC (!decide (a0.2.2.2.2.2.2.2.2.1=a1.2.2.2.2.2.2.2.2.1)) (R d4) (aC (!decide (a0.2.2.2.2.2.2.2.2.2.1=a1.2.2.2.2.2.2.2.2.2.1)) (R d4) (aC (!(decide (a0.2.2.2.2.2.2.2.2.2.2.1.1 = a1.2.2.2.2.2.2.2.2.2.2.1.1) && (decide (a0.2.2.2.2.2.2.2.2.2.2.1.2.1 = a1.2.2.2.2.2.2.2.2.2.2.1.2.1) && (decide (a0.2.2.2.2.2.2.2.2.2.2.1.2.2 = a1.2.2.2.2.2.2.2.2.2.2.1.2.2) && true)))) (R d4) (aC (!(decide (a0.2.2.2.2.2.2.2.2.2.2.2.1.1 = a1.2.2.2.2.2.2.2.2.2.2.2.1.1) && (decide (a0.2.2.2.2.2.2.2.2.2.2.2.1.2.1 = a1.2.2.2.2.2.2.2.2.2.2.2.1.2.1) && (decide (a0.2.2.2.2.2.2.2.2.2.2.2.1.2.2 = a1.2.2.2.2.2.2.2.2.2.2.2.1.2.2) && true)) && (decide (a0.2.2.2.2.2.2.2.2.2.2.2.2 = a1.2.2.2.2.2.2.2.2.2.2.2.2) && true))) (R d4) (aJ d5 (G2 [T.sl false (BJ4 a0), T.sl false (BJ4 a1)]) λ(y0:Bool)=>aC y0 (aC (!decide ((↑(AC a0).length:Int) = (↑(AC a1).length:Int))) (R d4) (bD (Int×PUnit) (λX1 s2=>aC (decide (s2.1 < (↑(AC a0).length : Int))) (aX aA.li (AC a0) s2.1 λ(y3:List aR)=>aX aA.li (AC a1) s2.1 λ(y4:List aR)=>aJ d5 (G2 [T.sl false (g9 y3), T.sl false (g9 y4)]) λ(y5:Bool)=>aC (!y5) (R d4) (f9 X1 s2)) (R d7)) (0,()))) (R d4))))))))))))
abbrev DH:Sh:=[(true,aN),(true,aN)]
noncomputable def qW:List T->Option T:=gS DH sJ
def QG {a0 a1}:qW [aH true aN a0,aH true aN a1]=sJ (a0,a1):=bJ (s:=DH) rfl (a0,a1) rfl
def AB7:sP Tryz.prog 134 qW sJ (cJ DH) CI:=iH (a1:=(true,aN)) (a2:=(true,aN)) (sp:=sJ) (F:=CI) (Hs:=AE8) (f:=134) (k:=8) TV aZ a7 (aO rfl) ⟨_,_,Tryz.func134,rfl⟩ rfl λ_ _ _=>by kernel_rfl
def Z0:aP Tryz.prog 134 qW:=AB7 λa b r h hb=>by
 cases h;have no:¬ a=b->pPR false=Sh.enc lB (l8 a b):=λh=>by rw[xE h];rfl
 have yes:a=b->pPR true=Sh.enc lB (l8 a b):=λh=>by rw[dX.2 h];rfl
 have hl:a.2.2.2.2.2.2.1.2.length<=2 ^ 47:=hb.1.2.2.2.2.2.2.1.2.1;unfold CI BJ4 AC g9 f9 d7 d5 d4;have u:=@APL;simp only[u,FP,zF];refine fR (λh=>no λe=>by simp[e] at h) λh1=>?_;refine fR (λh=>no λe=>by simp[e] at h) λh2=>?_;refine fR (λh=>no λe=>by simp[e] at h) λh3=>?_;refine fR (λh=>no λe=>by simp[e] at h) λh4=>?_;refine fR (λh=>no λe=>by simp[e] at h) λh5=>?_;refine fR (λh=>no λe=>by simp[e] at h) λh6=>?_;refine fR (λh=>no λe=>by simp[e] at h) λh7=>?_;refine fR (λh=>no λe=>by simp[e] at h) λh8=>?_;refine fR (λh=>no λe=>by simp[e] at h) λh9=>?_;refine fR (λh=>no λe=>by simp[e] at h) λh10=>?_;refine fR (λh=>no λe=>by simp[e] at h) λh11=>?_;refine q9 (λh12=>?_) (λh=>no λe=>by simp[e] at h);refine UQ (r:=.li aA) hl _ (λx y=>dX) (λh13=>yes ?_) (λh=>no λe=>h (by rw[e]));simp only[Bool.and_true,ac,ah,dX] at h1 h2 h3 h4 h5 h6 h7 h8 h9 h10 h11 h12;simp only[Prod.ext_iff];exact ⟨h1,h2,h3,h4,h5,h6,⟨h12,h13⟩,h7,h8,h9,h10,h11⟩
noncomputable def XQ:Env:=Env.of [(42,.pure qY),(43,.pure qX)]
def YQ:FuncId->Hint:=cA 15 [(4,.inv [.val 5 false (.int .i64)]),(9,.inv [.val 6 false (.int .i64)]),(14,.inv [.val 7 false (.int .i64)]),(19,.inv [.val 8 false (.int .i64)]),(24,.inv [.val 9 false (.int .i64)])] (λ_=>bA)
def P4:aU Tryz.prog XQ:=.cons Z3 (.cons Z1 (.nil _))
def wX(a0:aB)(a1:aB)(R:T->Prop):Prop:=aC (!decide (a0.1=a1.1)) (R d4) (aC (!decide ((↑(t7 a0).length:Int)=(↑(t7 a1).length:Int))) (R d4) (aC (!decide ((↑(H1 a0).length:Int) = (↑(H1 a1).length:Int))) (R d4) (aC (!decide ((↑(t6 a0).length:Int) = (↑(t6 a1).length:Int))) (R d4) (aC (!decide ((↑(m7 a0).length:Int) = (↑(m7 a1).length:Int))) (R d4) (aC (!decide ((↑(GE a0).length:Int) = (↑(GE a1).length:Int))) (R d4) (bD (Int×PUnit) (λX0 s1=>aC (decide (s1.1<(↑(t7 a0).length:Int))) (aX bB (t7 a0) s1.1 λ(y2:bN)=>aX bB (t7 a1) s1.1 λ(y3:bN)=>aC (!(decide (y2.1=y3.1) && (decide (y2.2.1=y3.2.1)&&(decide (y2.2.2=y3.2.2)&&true)))) (R d4) (f9 X0 s1)) (bD (Int×PUnit) (λX4 s5=>aC (decide (s5.1<(↑(H1 a0).length:Int))) (aX aN (H1 a0) s5.1 λ(y6:a8)=>aX aN (H1 a1) s5.1 λ(y7:a8)=>aJ d5 (qY [aH true aN y6,aH true aN y7]) λ(y8:Bool)=>aC (!y8) (R d4) (f9 X4 s5)) (bD (Int×PUnit) (λX9 s10=>aC (decide (s10.1<(↑(t6 a0).length:Int))) (aX bC (t6 a0) s10.1 λ(y11:bS)=>aX bC (t6 a1) s10.1 λ(y12:bS)=>aC (!(decide (y11.1=y12.1) && (decide (y11.2.1=y12.2.1) && (decide (y11.2.2.1=y12.2.2.1) && (decide (y11.2.2.2.1=y12.2.2.2.1) && (decide (y11.2.2.2.2.1=y12.2.2.2.2.1) && (decide (y11.2.2.2.2.2=y12.2.2.2.2.2) && true))))))) (R d4) (f9 X9 s10)) (bD (Int×PUnit) (λX13 s14=>aC (decide (s14.1<(↑(m7 a0).length:Int))) (aX aF (m7 a0) s14.1 λ(y15:aQ)=>aX aF (m7 a1) s14.1 λ(y16:aQ)=>aJ d5 (qX [aH true aF y15,aH true aF y16]) λ(y17:Bool)=>aC (!y17) (R d4) (f9 X13 s14)) (bD (Int×PUnit) (λX18 s19=>aC (decide (s19.1 < (↑(GE a0).length:Int))) (aX aY (GE a0) s19.1 λ(y20:bE)=>aX aY (GE a1) s19.1 λ(y21:bE)=>aC (!(decide (y20.1=y21.1) && (decide (y20.2.1=y21.2.1) && (decide (y20.2.2=y21.2.2)&&true)))) (R d4) (f9 X18 s19)) (R d7)) (0,()))) (0,()))) (0,()))) (0,()))) (0,())))))))
abbrev zI:Sh:=[(true,aD),(true,aD)]
noncomputable def oM:List T->Option T:=gS zI pY
def NV {a0 a1}:oM [aH true aD a0,aH true aD a1]=pY (a0,a1):=bJ (s:=zI) rfl (a0,a1) rfl
def VU:sP Tryz.prog 15 oM pY (cJ zI) wX:=iH (a1:=(true,aD)) (a2:=(true,aD)) (sp:=pY) (F:=wX) (Hs:=YQ) (f:=15) (k:=8) P4 aZ a7 (aO rfl) ⟨_,_,Tryz.func15,rfl⟩ rfl λ_ _ _=>by kernel_rfl
def U0:aP Tryz.prog 15 oM:=VU λa b r h hb=>by
 cases h;have no:¬ a=b->pPR false=Sh.enc lB (l8 a b):=λh=>by rw[xE h];rfl
 have yes:a=b->pPR true=Sh.enc lB (l8 a b):=λh=>by rw[dX.2 h];rfl
 obtain ⟨⟨_,⟨b1,_⟩,⟨b2,_⟩,⟨b3,_⟩,⟨b4,_⟩,⟨b5,_⟩⟩,_⟩:=hb;unfold wX f9 H1 GE t7 t6 m7 d7 d5 d4;simp only[QI,oW,QH,oV,zF];refine fR (λh=>no λe=>by simp[e] at h) λh1=>?_;refine fR (λh=>no λe=>by simp[e] at h) λg1=>?_;refine fR (λh=>no λe=>by simp[e] at h) λg2=>?_;refine fR (λh=>no λe=>by simp[e] at h) λg3=>?_;refine fR (λh=>no λe=>by simp[e] at h) λg4=>?_;refine fR (λh=>no λe=>by simp[e] at h) λg5=>?_;refine tP (r:=bB) (HF g1) b1 _ (λx y=>?_) (λh2=>?_) (λh=>no λe=>h (by rw[e]))
 ·simp only[Bool.and_true,ac,ah,Prod.ext_iff]
 refine tP (r:=aN) (HF g2) b2 _ (λx y=>dX) (λh3=>?_) (λh=>no λe=>h (by rw[e]));refine tP (r:=bC) (HF g3) b3 _ (λx y=>?_) (λh4=>?_) (λh=>no λe=>h (by rw[e]))
 ·simp only[Bool.and_true,ac,ah,Prod.ext_iff]
 refine tP (r:=aF) (HF g4) b4 _ (λx y=>dX) (λh5=>?_) (λh=>no λe=>h (by rw[e]));refine tP (r:=aY) (HF g5) b5 _ (λx y=>?_) (λh6=>yes ?_) (λh=>no λe=>h (by rw[e]))
 ·simp only[Bool.and_true,ac,ah,Prod.ext_iff]
 exact Prod.ext (by simpa using h1) (Prod.ext h2 (Prod.ext h3 (Prod.ext h4 (Prod.ext h5 h6))))
end Go.Pv
namespace Go.Pv
open Go Go.Proofs IntKind
def rX {r:Sy} (hr:r.pure=true) {l:List r.den} {rows:List (List T)} {K:List r.den->Prop} (e:rows=List.map r.enc l) (h:K l):jI r rows K:=by subst e;rw[dP hr];exact h
def xC {r:Sy} {l:List r.den} {z b:Nat} (hz:r.w=z) (h:lJ b l.length=true):(((List.map r.enc l).all λq=>decide (q.length=z))&&decide ((List.map r.enc l).length*b<=140737488355328)&&decide ((List.map r.enc l).length<=140737488355328))=true:=by
 unfold lJ at h;rw[ac] at h;rw[ae,h.1,h.2,Bool.and_true,Bool.and_true];subst hz;refine List.all_eq_true.2 λq hq=>?_;obtain ⟨x,_,rfl⟩:=List.mem_map.1 hq;exact ai (Sy.cY r x)
def jD (p:a8):Option T:=match fM p with
 | true=>some (Sh.enc [(true,aN)] p)
 | false=>none
noncomputable def AMD:Env:=Env.of [(136,.pure kJ),(137,.dup 1 24)]
def AM9:FuncId->Hint:=cA 108 [(4,.inv [.val 21 false (.int .i64),.arr 3 1 (.li aA)])] (λ_=>bA)
def XT:aU Tryz.prog AMD:=.cons NG (aU.cons (x:=.dup 1 24) AOO (.nil _))
def FZ(a0:a8)(R:T->Prop):Prop:=aJ f0 (kJ [T.sl false (BJ4 a0)]) λ(y0:List aR)=>bQ (((AC a0).all λ(r:List T)=>decide (r.length=1)) && decide ((AC a0).length*24<=140737488355328) && decide ((AC a0).length<=140737488355328)) (jI aA.li (AC a0) λ(y1:List (List aR))=>bD (Int×List (List aR)×PUnit) (λX2 s3=>aC (decide (s3.1<(↑(AC a0).length:Int))) (aX aA.li (NE s3) s3.1 λ(y4:List aR)=>fH aA.li (NE s3) (Int.toNat s3.1) 0 λ(y5:List aR)=>aJ f0 (kJ (BJW y5)) λ(y6:List aR)=>aX aA.li (NE s3) s3.1 λ(y7:List aR)=>E7 (NE s3) (Int.toNat s3.1) λ(y8:List T)=>bQ (decide (1<=y8.length)) (jI aA.li ((NE s3).set (Int.toNat s3.1) (bX y8 0 (BJW y6))) λ(y9:List (List aR))=>X2 (i64.wrap (s3.1+1),y9,()))) (R (T.agg [pPQ a0.1,pPP a0.2.1, pPP a0.2.2.1, pPQ a0.2.2.2.1,pPQ a0.2.2.2.2.1, pPP a0.2.2.2.2.2.1, T.sl false (g9 y0), T.sl false (NE s3), pPQ a0.2.2.2.2.2.2.2.1, pPP a0.2.2.2.2.2.2.2.2.1, pPP a0.2.2.2.2.2.2.2.2.2.1, pPP a0.2.2.2.2.2.2.2.2.2.2.1.1, pPP a0.2.2.2.2.2.2.2.2.2.2.1.2.1, pPP a0.2.2.2.2.2.2.2.2.2.2.1.2.2, pPP a0.2.2.2.2.2.2.2.2.2.2.2.1.1, pPP a0.2.2.2.2.2.2.2.2.2.2.2.1.2.1, pPP a0.2.2.2.2.2.2.2.2.2.2.2.1.2.2, pPP a0.2.2.2.2.2.2.2.2.2.2.2.2]))) (0,y1,()))
abbrev HV:Sh:=[(true,aN)]
noncomputable def iL:List T->Option T:=gS HV jD
def vG {a0}:iL [aH true aN a0]=jD (a0):=bJ (s:=HV) rfl (a0) rfl
def AHN:w5 Tryz.prog 108 iL jD (cJ HV) FZ:=j5 (a1:=(true,aN)) (sp:=jD) (F:=FZ) (Hs:=AM9) (f:=108) (k:=8) XT aZ a7 (aO rfl) ⟨_,_,Tryz.func108,rfl⟩ rfl λ_ _=>by kernel_rfl
def vE:aP Tryz.prog 108 iL:=AHN λp r h hb=>by
 clear hb;have hp:fM p=true:=by
  unfold jD at h;split at h
  ·assumption
  ·cases h
 have e:Sh.enc [(true,aN)] p=r:=by
  unfold jD at h;rw[hp] at h;exact Option.some.inj h
 subst e;clear h;unfold fM EX at hp;simp only[ac] at hp;obtain ⟨⟨hp1,hp2⟩,hp3⟩:=hp;have hb47:p.2.2.2.2.2.2.1.2.length<=140737488355328:=by
  simp only[lJ,ac,ah] at hp2;exact hp2.2
 unfold FZ BJ4 BJW NE AC g9 f0;refine aG (s:=[(false,aA.li)]) (y:=p.2.2.2.2.2.2.1.1) (by rw[pN,fC,jC hp1];rfl) ?_;refine ⟨xC (r:=.li aA) rfl hp2,?_⟩;obtain ⟨p1,p2,p3,p4,p5,p6,⟨o,hh⟩,p7⟩:=p;dsimp only at hp1 hp2 hp3 hb47 ⊢;rw[dP (r:=.li aA) rfl];refine bP hh.length (λk s=>s=((k:Int),hh,())) rfl ?_;rintro X k s hk rfl hX;dsimp only;refine cC (λhlt=>?_) λhge=>rfl;rw[ae] at hlt;have hlt:k<hh.length:=by omega
 have hok:lJ 16 hh[k].length=true:=List.all_eq_true.1 hp3 _ (ak hlt);rw[bK (r:=.li aA) hlt,show Int.toNat (k:Int)=k from rfl,jM (r:=.li aA) hlt];refine aG (s:=[(false,aA.li)]) (y:=hh[k]) (by rw[pN,fC,jC hok];rfl) ?_;rw[bK (r:=.li aA) hlt,pW (r:=.li aA) hlt];refine ⟨rfl,?_⟩;have e:bX (Sy.enc (.li aA) hh[k]) 0 [T.sl false (List.map aA.enc hh[k])]=Sy.enc (.li aA) hh[k]:=rfl;rw[e,FC (r:=.li aA) hlt,dP (r:=.li aA) rfl];refine hX _ hlt ?_;simp only[Prod.mk.injEq,and_true];exact bH _ (by omega) (by omega)
def kE (p:aQ):Option T:=match eU p with
 | true=>some (Sh.enc [(true,aF)] p)
 | false=>none
noncomputable def AMC:Env:=Env.of [(243,.pure j1)]
def AM8:FuncId->Hint:=λ_=>bA
def XS:aU Tryz.prog AMC:=.cons I1 (.nil _)
def FY(a0:aQ)(R:T->Prop):Prop:=aJ eI (j1 [T.sl false (BJ3 a0)]) λ(y0:List iII)=>aJ eI (j1 [T.sl false (BJ0 a0)]) λ(y1:List iII)=>R (T.agg [pPQ a0.1,pPQ a0.2.1, T.sl false (IO y0),pPP a0.2.2.2.1, T.sl false (IO y1)])
abbrev HU:Sh:=[(true,aF)]
noncomputable def nT:List T->Option T:=gS HU kE
def EE {a0}:nT [aH true aF a0]=kE (a0):=bJ (s:=HU) rfl (a0) rfl
def AHM:w5 Tryz.prog 109 nT kE (cJ HU) FY:=j5 (a1:=(true,aF)) (sp:=kE) (F:=FY) (Hs:=AM8) (f:=109) (k:=8) XS aZ a7 (aO rfl) ⟨_,_,Tryz.func109,rfl⟩ rfl λ_ _=>by kernel_rfl
def NH:aP Tryz.prog 109 nT:=AHM λp r h hb=>by
 clear hb;have hp:eU p=true:=by
  unfold kE at h;split at h
  ·assumption
  ·cases h
 have e:Sh.enc [(true,aF)] p=r:=by
  unfold kE at h;rw[hp] at h;exact Option.some.inj h
 subst e;clear h;unfold eU at hp;rw[ac] at hp;unfold FY BJ3 BJ0 IO eI;refine aG (s:=[(false,.li .str)]) (y:=p.2.2.1) (by rw[oG,fC,jC hp.1];rfl) ?_;refine aG (s:=[(false,.li .str)]) (y:=p.2.2.2.2) (by rw[oG,fC,jC hp.2];rfl) ?_;rfl
def TD {α:Type}:∀ (xs pre:List α),bX (pre++xs) pre.length xs=pre++xs
 | [],pre=>rfl
 | x::xs,pre=>by
  unfold bX;rw[show (pre++x::xs).set pre.length x=(pre++[x])++xs by simp,show pre.length+1=(pre++[x]).length by simp,TD xs (pre++[x])];simp
variable {α:Type}
def JO (r:List α):bX r 0 r=r:=TD r []
def vS (d:aB):Bool:=(JH d&&HJ d)&&((decide (d.2.1.length<=1000)&&decide (d.2.2.1.length<=1000))&&(decide (d.2.2.2.1.length<=1000)&&(decide (d.2.2.2.2.1.length<=1000)&&decide (d.2.2.2.2.2.length<=1000))))
structure OkC (d:aB):Prop where
 JH:JH d=true
 HJ:HJ d=true
 n:d.2.1.length<=1000
 p:d.2.2.1.length<=1000
 s:d.2.2.2.1.length<=1000
 k:d.2.2.2.2.1.length<=1000
 r:d.2.2.2.2.2.length<=1000
def dY {d:aB} (h:vS d=true):OkC d:=by
 simp only[vS,ac,ah] at h;exact ⟨h.1.1,h.1.2,h.2.1.1,h.2.1.2,h.2.2.1,h.2.2.2.1,h.2.2.2.2⟩
def dL {b n:Nat} (hn:n<=1000) (hb:b<=1000):lJ b n=true:=by
 have:=Nat.mul_le_mul hn hb;unfold lJ;rw[ai (by omega),ai (by omega)];rfl
def sF (d:aB):Option T:=match vS d with
 | true=>some (Sh.enc [(true,aD)] d)
 | false=>none
noncomputable def ADJ:Env:=Env.of [(103,.dup 3 40),(104,.dup 6 72),(105,.dup 3 40),(106,.dup 18 208),(107,.dup 5 88),(108,.pure iL),(109,.pure nT)]
def AE6:FuncId->Hint:=cA 69 [(4,.inv [.val 28 false (.int .i64),.arr 30 18 aN]),(9,.inv [.val 45 false (.int .i64),.arr 31 5 aF])] (λ_=>bA)
def XR:aU Tryz.prog ADJ:=aU.cons (x:=.dup 3 40) CV (aU.cons (x:=.dup 6 72) CX (aU.cons (x:=.dup 3 40) CU (aU.cons (x:=.dup 18 208) CW (aU.cons (x:=.dup 5 88) oF (.cons vE (.cons NH (.nil _)))))))
def LC (a0:aB) (R:T->Prop):Prop :=
 bQ
 (((List.map bB.enc a0.2.1).all λ(r:List T)=>decide (r.length=3)) &&
 decide ((List.map bB.enc a0.2.1).length*40<=140737488355328) &&
 decide ((List.map bB.enc a0.2.1).length<=140737488355328))
 (bQ
 (((List.map bC.enc a0.2.2.2.1).all λ(r:List T)=>decide (r.length=6)) &&
 decide ((List.map bC.enc a0.2.2.2.1).length*72<=140737488355328) &&
 decide ((List.map bC.enc a0.2.2.2.1).length<=140737488355328))
 (bQ
 (((List.map aY.enc a0.2.2.2.2.2).all λ(r:List T)=>decide (r.length=3)) &&
 decide ((List.map aY.enc a0.2.2.2.2.2).length*40<=140737488355328) &&
 decide ((List.map aY.enc a0.2.2.2.2.2).length<=140737488355328))
 (bQ
 (((List.map aN.enc a0.2.2.1).all λ(r:List T)=>decide (r.length=18)) &&
 decide ((List.map aN.enc a0.2.2.1).length*208<=140737488355328) &&
 decide ((List.map aN.enc a0.2.2.1).length<=140737488355328))
 (bQ
 (((List.map aF.enc a0.2.2.2.2.1).all λ(r:List T)=>decide (r.length=5)) &&
 decide ((List.map aF.enc a0.2.2.2.2.1).length*88<=140737488355328) &&
 decide ((List.map aF.enc a0.2.2.2.2.1).length<=140737488355328))
 (jI aN (List.map aN.enc a0.2.2.1) λ(y0:List a8) =>
 bD (Int×List a8×PUnit)
 (λ(X1:Int×List a8×PUnit->Prop) (s2:Int×List a8×PUnit) =>
 aC (decide (s2.1<(↑(List.map aN.enc a0.2.2.1).length:Int)))
 (aX aN (List.map aN.enc s2.2.1) s2.1 λ(y3:a8) =>
 fH aN (List.map aN.enc s2.2.1) (Int.toNat s2.1) 0
 λ(y4:a8) =>
 aJ [(true,aN)] (iL [aH true aN y4])
 λ(y5:a8) =>
 aX aN (List.map aN.enc s2.2.1) s2.1 λ(y6:a8) =>
 E7 (List.map aN.enc s2.2.1) (Int.toNat s2.1) λ(y7:List T) =>
 bQ (decide (18<=y7.length))
 (jI aN
 ((List.map aN.enc s2.2.1).set (Int.toNat s2.1)
 (bX y7 0
 [pPQ y5.1,
 pPP y5.2.1,
 pPP y5.2.2.1,
 pPQ y5.2.2.2.1,
 pPQ y5.2.2.2.2.1,
 pPP y5.2.2.2.2.2.1,
 T.sl false (List.map aA.enc y5.2.2.2.2.2.2.1.1),
 T.sl false
 (List.map aA.li.enc y5.2.2.2.2.2.2.1.2),
 pPQ y5.2.2.2.2.2.2.2.1,
 pPP y5.2.2.2.2.2.2.2.2.1,
 pPP y5.2.2.2.2.2.2.2.2.2.1,
 pPP y5.2.2.2.2.2.2.2.2.2.2.1.1,
 pPP y5.2.2.2.2.2.2.2.2.2.2.1.2.1,
 pPP y5.2.2.2.2.2.2.2.2.2.2.1.2.2,
 pPP y5.2.2.2.2.2.2.2.2.2.2.2.1.1,
 pPP y5.2.2.2.2.2.2.2.2.2.2.2.1.2.1,
 pPP y5.2.2.2.2.2.2.2.2.2.2.2.1.2.2,
 pPP y5.2.2.2.2.2.2.2.2.2.2.2.2]))
 λ(y8:List a8)=>X1 (i64.wrap (s2.1+1),y8,())))
 (jI aF (List.map aF.enc a0.2.2.2.2.1)
 λ(y9:List aQ) =>
 bD (Int×List aQ×PUnit)
 (λ(X10:Int×List aQ×PUnit->Prop) (s11:Int×List aQ×PUnit) =>
 aC
 (decide (s11.1<(↑(List.map aF.enc a0.2.2.2.2.1).length:Int)))
 (aX aF (List.map aF.enc s11.2.1) s11.1
 λ(y12:aQ) =>
 fH aF (List.map aF.enc s11.2.1) (Int.toNat s11.1) 0
 λ(y13:aQ) =>
 aJ [(true,aF)]
 (nT [aH true aF y13]) λ(y14:aQ) =>
 aX aF (List.map aF.enc s11.2.1) s11.1
 λ(y15:aQ) =>
 E7 (List.map aF.enc s11.2.1) (Int.toNat s11.1)
 λ(y16:List T) =>
 bQ (decide (5<=y16.length))
 (jI aF
 ((List.map aF.enc s11.2.1).set (Int.toNat s11.1)
 (bX y16 0
 [pPQ y14.1,
 pPQ y14.2.1,
 T.sl false (List.map Sy.str.enc y14.2.2.1),
 pPP y14.2.2.2.1,
 T.sl false (List.map Sy.str.enc y14.2.2.2.2)]))
 λ(y17:List aQ) =>
 X10 (i64.wrap (s11.1+1),y17,())))
 (R
 (T.agg
 [pPQ a0.1,
 T.sl false (List.map bB.enc a0.2.1),
 T.sl false (List.map aN.enc s2.2.1),
 T.sl false (List.map bC.enc a0.2.2.2.1),
 T.sl false (List.map aF.enc s11.2.1),
 T.sl false (List.map aY.enc a0.2.2.2.2.2)])))
 (0,y9,())))
 (0,y0,()))))))
abbrev OV:Sh:=[(true,aD)]
noncomputable def fJ:List T->Option T:=gS OV sF
def gZ {a0}:fJ [aH true aD a0]=sF (a0):=bJ (s:=OV) rfl (a0) rfl
def A74:w5 Tryz.prog 69 fJ sF (cJ OV) LC:=j5 (a1:=(true,aD)) (sp:=sF) (F:=LC) (Hs:=AE6) (f:=69) (k:=8) XR aZ a7 (aO rfl) ⟨_,_,Tryz.func69,rfl⟩ rfl λ_ _=>by kernel_rfl
def AWY {d:aB} (hp:vS d=true):LC d (λy=>y=Sh.enc [(true,aD)] d):=by
 have c:=dY hp;unfold LC;refine ⟨xC (r:=bB) rfl (dL c.n (by decide)),⟨xC (r:=bC) rfl (dL c.s (by decide)),⟨xC (r:=aY) rfl (dL c.r (by decide)),⟨xC (r:=aN) rfl (dL c.p (by decide)),⟨xC (r:=aF) rfl (dL c.k (by decide)),?_⟩⟩⟩⟩⟩;rw[dP (r:=aN) rfl];have hpn:=c.p;have hkn:=c.k;refine bP d.2.2.1.length (λk s=>s=((k:Int),d.2.2.1,())) rfl ?_;rintro X k s hk rfl hX;dsimp only;refine cC (λhlt=>?_) λhge=>?_
 ·rw[ae] at hlt;have hlt:k<d.2.2.1.length:=by omega
  have hok:fM d.2.2.1[k]=true:=List.all_eq_true.1 c.JH _ (ak hlt);rw[bK (r:=aN) hlt,show Int.toNat (k:Int)=k from rfl,jM (r:=aN) hlt];refine aG (s:=[(true,aN)]) (y:=d.2.2.1[k]) ((vG ..).trans (by unfold jD;rw[hok])) ?_;rw[bK (r:=aN) hlt,pW (r:=aN) hlt];refine ⟨by rw[Sy.cY];rfl,?_⟩;have h1:(List.map aN.enc d.2.2.1).set k (bX (Sy.enc aN d.2.2.1[k]) 0 (Sy.enc aN d.2.2.1[k]))=List.map aN.enc d.2.2.1:=by rw[JO];exact FC (r:=aN) hlt
  refine (rX (r:=aN) rfl h1 ?_);refine hX _ hlt ?_;simp only[Prod.mk.injEq,and_true];exact bH _ (by omega) (by omega)
 ·rw[dP (r:=aF) rfl];refine bP d.2.2.2.2.1.length (λk s=>s=((k:Int),d.2.2.2.2.1,())) rfl ?_;rintro Y j s hj rfl hY;dsimp only;refine cC (λhlt=>?_) λhge=>rfl;rw[ae] at hlt;have hlt:j<d.2.2.2.2.1.length:=by omega
  have hok:eU d.2.2.2.2.1[j]=true:=List.all_eq_true.1 c.HJ _ (ak hlt);rw[bK (r:=aF) hlt,show Int.toNat (j:Int)=j from rfl,jM (r:=aF) hlt];refine aG (s:=[(true,aF)]) (y:=d.2.2.2.2.1[j]) ((EE ..).trans (by unfold kE;rw[hok])) ?_;rw[bK (r:=aF) hlt,pW (r:=aF) hlt];refine ⟨by rw[Sy.cY];rfl,?_⟩;have h1:(List.map aF.enc d.2.2.2.2.1).set j (bX (Sy.enc aF d.2.2.2.2.1[j]) 0 (Sy.enc aF d.2.2.2.2.1[j]))=List.map aF.enc d.2.2.2.2.1:=by rw[JO];exact FC (r:=aF) hlt
  refine (rX (r:=aF) rfl h1 ?_);refine hY _ hlt ?_;simp only[Prod.mk.injEq,and_true];exact bH _ (by omega) (by omega)
def oE:aP Tryz.prog 69 fJ:=A74 λd r h hb=>by
 clear hb;have hp:vS d=true:=by
  unfold sF at h;split at h
  ·assumption
  ·cases h
 have e:Sh.enc [(true,aD)] d=r:=by
  unfold sF at h;rw[hp] at h;exact Option.some.inj h
 subst e;exact AWY hp
noncomputable def FO (x:aV×aV):Option T:=some (Sh.enc lB (l8 x.1 x.2))
noncomputable def A3Q:Env:=Env.of [(134,.pure qW)]
def A46:FuncId->Hint:=cA 135 [(4,.inv [.val 13 false (.int .i64)])] (λ_=>bA)
def AMX:aU Tryz.prog A3Q:=.cons Z0 (.nil _)
def WF(a0:aV):List (List T):=List.map Sy.str.enc a0.2.2.2.2.2.2.1.2.2.2.2
def ACM(a0:aV):List (List T):=List.map Sy.str.enc a0.2.2.2.2.2.2.1.2.2.1
def T8(a0:aV)(a1:aV)(R:T->Prop):Prop:=aC (decide (a0.1=a1.1)) (aC (decide (a0.2.1=a1.2.1)) (aC (decide (a0.2.2.1=a1.2.2.1)) (aC (decide (a0.2.2.2.1.1=a1.2.2.2.1.1) && (decide (a0.2.2.2.1.2.1=a1.2.2.2.1.2.1) && (decide (a0.2.2.2.1.2.2=a1.2.2.2.1.2.2)&&true))) (aJ d5 (qW [aH true aN a0.2.2.2.2.1,aH true aN a1.2.2.2.2.1]) λ(y0:Bool)=>aC y0 (aC (decide (a0.2.2.2.2.2.1.1=a1.2.2.2.2.2.1.1) && (decide (a0.2.2.2.2.2.1.2.1=a1.2.2.2.2.2.1.2.1) && (decide (a0.2.2.2.2.2.1.2.2.1=a1.2.2.2.2.2.1.2.2.1) && (decide (a0.2.2.2.2.2.1.2.2.2.1=a1.2.2.2.2.2.1.2.2.2.1) && (decide (a0.2.2.2.2.2.1.2.2.2.2.1 = a1.2.2.2.2.2.1.2.2.2.2.1) && (decide (a0.2.2.2.2.2.1.2.2.2.2.2 = a1.2.2.2.2.2.1.2.2.2.2.2) && true)))))) (aC (decide (a0.2.2.2.2.2.2.2.1=a1.2.2.2.2.2.2.2.1) && (decide (a0.2.2.2.2.2.2.2.2.1=a1.2.2.2.2.2.2.2.2.1) && (decide (a0.2.2.2.2.2.2.2.2.2=a1.2.2.2.2.2.2.2.2.2)&&true))) (aC (decide (a0.2.2.2.2.2.2.1.1=a1.2.2.2.2.2.2.1.1)) (aC (decide (a0.2.2.2.2.2.2.1.2.1=a1.2.2.2.2.2.2.1.2.1)) (aC (decide (a0.2.2.2.2.2.2.1.2.2.2.1 = a1.2.2.2.2.2.2.1.2.2.2.1)) (aC (!decide ((↑(ACM a0).length:Int) = (↑(ACM a1).length:Int))) (R d4) (bD (Int×PUnit) (λX1 s2=>aC (decide (s2.1 < (↑(ACM a0).length : Int))) (aX Sy.str (ACM a0) s2.1 λ(y3:iII)=>aX Sy.str (ACM a1) s2.1 λ(y4:iII)=>aC (!decide (y3=y4)) (R d4) (f9 X1 s2)) (aC (!decide ((↑(WF a0).length : Int) = (↑(WF a1).length : Int))) (R d4) (bD (Int×PUnit) (λX5 s6=>aC (decide (s6.1 < (↑(WF a0).length : Int))) (aX Sy.str (WF a0) s6.1 λ(y7:iII)=>aX Sy.str (WF a1) s6.1 λ(y8:iII)=>aC (!decide (y7=y8)) (R d4) (f9 X5 s6)) (R d7)) (0,())))) (0,()))) (R d4)) (R d4)) (R d4)) (R d4)) (R d4)) (R d4)) (R d4)) (R d4)) (R d4)) (R d4)
abbrev WH:Sh:=[(true,aM),(true,aM)]
noncomputable def cH:List T->Option T:=gS WH FO
def fK {a0 a1}:cH [aH true aM a0,aH true aM a1]=FO (a0,a1):=bJ (s:=WH) rfl (a0,a1) rfl
def A05:sP Tryz.prog 93 cH FO (cJ WH) T8:=iH (a1:=(true,aM)) (a2:=(true,aM)) (sp:=FO) (F:=T8) (Hs:=A46) (f:=93) (k:=8) AMX aZ a7 (aO rfl) ⟨_,_,Tryz.func93,rfl⟩ rfl λ_ _ _=>by kernel_rfl
def jJ:aP Tryz.prog 93 cH:=A05 λa b r h hb=>by
 cases h;have no:¬ a=b->pPR false=Sh.enc lB (l8 a b):=λh=>by rw[xE h];rfl
 have yes:a=b->pPR true=Sh.enc lB (l8 a b):=λh=>by rw[dX.2 h];rfl
 have hl1:a.2.2.2.2.2.2.1.2.2.1.length<=2 ^ 47:=hb.1.2.2.2.2.2.2.1.2.2.1.1;have hl2:a.2.2.2.2.2.2.1.2.2.2.2.length<=2 ^ 47:=hb.1.2.2.2.2.2.2.1.2.2.2.2.1;clear hb;unfold T8 ACM WF f9 d7 d5 d4;refine q9 (λh1=>?_) (λh=>no λe=>by simp[e] at h);refine q9 (λh2=>?_) (λh=>no λe=>by simp[e] at h);refine q9 (λh3=>?_) (λh=>no λe=>by simp[e] at h);refine q9 (λh4=>?_) (λh=>no λe=>by simp[e] at h);refine aG (s:=lB) (y:=l8 (a.2.2.2.2.1) (b.2.2.2.2.1)) (QG ..) ?_;refine q9 (λh5=>?_) (λh=>no λe=>by simp[e] at h);refine q9 (λh6=>?_) (λh=>no λe=>by simp[e] at h);refine q9 (λh7=>?_) (λh=>no λe=>by simp[e] at h);refine q9 (λh8=>?_) (λh=>no λe=>by simp[e] at h);refine q9 (λh9=>?_) (λh=>no λe=>by simp[e] at h);refine q9 (λh10=>?_) (λh=>no λe=>by simp[e] at h);refine UQ (r:=.str) hl1 (λy z=>decide (y=z)) (λx y=>decide_eq_true_iff) (λh11=>?_) (λh=>no λe=>h (by rw[e]));refine UQ (r:=.str) hl2 (λy z=>decide (y=z)) (λx y=>decide_eq_true_iff) (λh12=>yes ?_) (λh=>no λe=>h (by rw[e]));simp only[Bool.and_true,ac,ah,dX] at h1 h2 h3 h4 h5 h6 h7 h8 h9 h10;simp only[Prod.ext_iff];exact ⟨h1,h2,h3,h4,by simpa only [Prod.ext_iff] using h5,h6,⟨h8,h9,h11,h10,h12⟩,h7⟩
end Go.Pv
namespace Go.Pv
open Go Go.Proofs IntKind
def VQ (l:List iII) (x:iII):Bool:=l.any λy=>decide (y=x)
def EV {l:List iII} {x:iII}:VQ l x=true↔x∈l:=by
 simp only[VQ,List.any_eq_true,ah];exact ⟨λ⟨y,h,e⟩=>e ▸ h,λh=>⟨x,h,rfl⟩⟩
def Sy.tl:Sy->Sy
 | .pr _ b=>b
 | x=>x
def HB:List iII->Nat->List (iII×Int)->List (iII×Int)
 | [],_,es=>es
 | a::l,i,es=>HB l (i+1) (match fF es a with
  | none=>nO es a (i:Int)
  | some _=>es)
def iV (l:List iII):List (iII×Int):=HB l 0 []
variable {α:Type}
def ids (l:List (iII×α)):List iII:=l.map λx=>x.1
variable {β:Type}
def rC (l:List α) (r:β):Option β:=match decide (l.length<=140737488355328) with
 | true=>some r
 | false=>none
def j7 {l:List α} {t r:β} (h:rC l t=some r):l.length<=140737488355328/\r=t:=by
 unfold rC at h;split at h
 ·rename_i hc;cases h;exact ⟨of_decide_eq_true hc,rfl⟩
 ·cases h
def j8 {l:List α} (t:β) (h:l.length<=140737488355328):rC l t=some t:=by unfold rC;rw[ai h]
def A50 (es:List (iII×Int)):List.map (λ(e:Value×D)=>(e.1,XF e.2)) (List.map (bY Sy.str false (Sy.int IntKind.i64)) es)=bO es:=by
 rw[List.map_map];rfl
def KA {r:Sy} {l:List (iII×r.den)} (hl:l.length<=140737488355328) :
 cO Sy.str false (Sy.int IntKind.i64) [] λ(y0:List (iII×Int)) =>
 bD (List (iII×Int)×Int×PUnit)
  (λ(X1:List (iII×Int)×Int×PUnit->Prop) (s2:List (iII×Int)×Int×PUnit) =>
   aC (decide (s2.2.1<(↑l.length:Int)))
    (aX (.pr .str r) (List.map (Sy.pr .str r).enc l) s2.2.1 λ(y3:iII×r.den) =>
     gR TypeDesc.string (Value.string y3.1)
      (List.map (bY Sy.str false (Sy.int IntKind.i64)) s2.1) false
      (Sy.int IntKind.i64)
      (aX (.pr .str r) (List.map (Sy.pr .str r).enc l) s2.2.1 λ(y7:iII×r.den) =>
       eE (Option (Nat×D))
        (findD TypeDesc.string (Value.string y7.1)
         (List.map (bY Sy.str false (Sy.int IntKind.i64)) s2.1) 0)
        λ(y8:Option (Nat×D)) =>
        cO Sy.str false (Sy.int IntKind.i64)
         (dZ (List.map (bY Sy.str false (Sy.int IntKind.i64)) s2.1) y8
          (Value.string y7.1) (D.p (pPP s2.2.1)))
         λ(y9:List (iII×Int))=>X1 (y9,i64.wrap (s2.2.1+1),()))
      λ(i4:Nat) (y5:Int) =>
      cO Sy.str false (Sy.int IntKind.i64)
       (List.map (bY Sy.str false (Sy.int IntKind.i64)) s2.1)
       λ(y6:List (iII×Int))=>X1 (y6,i64.wrap (s2.2.1+1),()))
    (bQ
     ((List.map (bY Sy.str false (Sy.int IntKind.i64)) s2.1).all
      λ(e:Value×D)=>APV e.2)
     ((λy=>y=T.mp (bO (iV (ids l))))
      (T.mp
       (List.map (λ(e:Value×D)=>(e.1,XF e.2))
        (List.map (bY Sy.str false (Sy.int IntKind.i64)) s2.1))))))
  (y0,0,()):=by
 refine jY (r:=.int .i64) rfl [] _ ?_;refine bP l.length (λk s=>∃ es,s=(es,(k:Int),())/\HB (ids (l.drop k)) k es=iV (ids l)) ⟨[],rfl,rfl⟩ ?_;rintro X k s hk ⟨es,rfl,hes⟩ hX;dsimp only;have hw:i64.wrap ((k:Int)+1)=((k+1:Nat):Int):=bH _ (by omega) (by omega);by_cases hlt:k<l.length
 ·refine gK (by omega) ?_;rw[bK (r:=.pr .str r) hlt];have hd:ids (l.drop k)=l[k].1::ids (l.drop (k+1)):=by rw[List.drop_eq_getElem_cons hlt];rfl
  rw[hd] at hes;simp only[HB] at hes;refine vB (r:=.int .i64) (λhno=>?_) (λi v hv=>?_)
  ·rw[hno] at hes;rw[bK (r:=.pr .str r) hlt];exact AKG (r:=.int .i64) rfl (v:=(k:Int)) (hX _ hlt ⟨_,by rw[hw],hes⟩)
  ·rw[hv] at hes;exact jY (r:=.int .i64) rfl es _ (hX _ hlt ⟨_,by rw[hw],hes⟩)
 ·have:k=l.length:=by omega
  subst this;refine jA (by omega) ?_;rw[List.drop_length] at hes;refine ⟨?_,?_⟩
  ·rw[List.all_eq_true];intro e he;obtain ⟨x,_,rfl⟩:=List.mem_map.1 he;rfl
  ·show T.mp _=_;rw[A50];rw[<-hes];rfl
def tE (a0:aB):List T:=[pPP (a0.2.1.length:Int),T.fn 119 [] [T.ref [T.ref (aD.enc a0)]]]
noncomputable def ASF:Env:=Env.of []
def A9D:FuncId->Hint:=cA 118 [(3,.inv [.map 0 .str false (.int .i64),.val 12 false (.int .i64)])] (λ_=>bA)
def A4D:aU Tryz.prog ASF:=.nil _
def bF:Sy:=Sy.int IntKind.i64
def i8(s2:List aE×Int×PUnit)(R:T->Prop):Prop:=bQ ((List.map (bY Sy.str false bF) s2.1).all λ(e:Value×D)=>APV e.2) (R (T.mp (List.map (λ(e:Value×D)=>(e.1,XF e.2)) (List.map (bY Sy.str false bF) s2.1))))
def IR(s2:List aE×Int×PUnit)(X1:List aE×Int×PUnit->Prop):Prop:=cO Sy.str false bF (List.map (bY Sy.str false bF) s2.1) λ(y6:List aE)=>X1 (y6,i64.wrap (s2.2.1+1),())
def AUM(a0:aB)(R:T->Prop):Prop:=cO Sy.str false bF [] λ(y0:List aE)=>bD (List aE×Int×PUnit) (λX1 s2=>aC (decide (s2.2.1<(↑a0.2.1.length:Int))) (aX bB (t7 a0) s2.2.1 λ(y3:bN)=>gR TypeDesc.string (Value.string y3.1) (List.map (bY Sy.str false bF) s2.1) false bF (aX bB (t7 a0) s2.2.1 λ(y7:bN)=>eE (Option (Nat×D)) (findD TypeDesc.string (Value.string y7.1) (List.map (bY Sy.str false bF) s2.1) 0) λ(y8:Option (Nat×D))=>cO Sy.str false bF (dZ (List.map (bY Sy.str false bF) s2.1) y8 (Value.string y7.1) (D.p (pPP s2.2.1))) λ(y9:List aE)=>X1 (y9,i64.wrap (s2.2.1+1),())) λ(i4:Nat) (y5:Int)=>IR s2 X1) (i8 s2 R)) (y0,0,())
def AUN ( a0 R):wE b8 Tryz.prog ASF A9D 8 118 (tE a0) R=AUM a0 R:=by kernel_rfl
def AI0 (d:aB):Option (List (iII×Int)):=rC d.2.1 (iV (ids d.2.1))
def AL2 (d d':aB) (h:tE d=tE d'):d=d':=by
 unfold tE at h;simp only[List.cons.injEq,T.fn.injEq,T.ref.injEq,and_true,true_and] at h;exact Sy.dM aD _ _ h.2
noncomputable def AAD:List T->Option (List (iII×Int)):=gA (λ(x:aB)=>tE x) AI0
def AYY (a0:aB):AAD (tE a0)=AI0 a0:=fP (A:=(λ(x:aB)=>tE x)) AL2 a0
def BEA (h:∀ (a0:aB) (r:List (iII×Int)),AI0 a0=some r->(∀ t∈tE a0,Bd t)->AUM a0 (λy=>y = .mp (bO r))):kR Tryz.prog 118 (sU AAD) :=
 D4 (E:=ASF) (Hs:=A9D) A4D aZ a7 (aO rfl) 8 ⟨_,_,Tryz.func118,rfl⟩ λx r h1 h2=>by
  rw[AUN];exact h x r h1 h2
def BB7:kR Tryz.prog 118 (sU AAD):=BEA λd r h hb=>by
 obtain ⟨hl,rfl⟩:=j7 h;unfold AUM IR i8 t7 bF;exact KA (r:=bB.tl) (l:=d.2.1) hl
def tG (a0:aB):List T:=[pPP (a0.2.2.1.length:Int),T.fn 120 [] [T.ref [T.ref (aD.enc a0)]]]
noncomputable def ASG:Env:=Env.of []
def A9E:FuncId->Hint:=cA 118 [(3,.inv [.map 0 .str false (.int .i64),.val 12 false (.int .i64)])] (λ_=>bA)
def A4E:aU Tryz.prog ASG:=.nil _
def AUO(a0:aB)(R:T->Prop):Prop:=cO Sy.str false bF [] λ(y0:List aE)=>bD (List aE×Int×PUnit) (λX1 s2=>aC (decide (s2.2.1<(↑a0.2.2.1.length:Int))) (aX aN (H1 a0) s2.2.1 λ(y3:a8)=>gR TypeDesc.string (Value.string y3.1) (List.map (bY Sy.str false bF) s2.1) false bF (aX aN (H1 a0) s2.2.1 λ(y7:a8)=>eE (Option (Nat×D)) (findD TypeDesc.string (Value.string y7.1) (List.map (bY Sy.str false bF) s2.1) 0) λ(y8:Option (Nat×D))=>cO Sy.str false bF (dZ (List.map (bY Sy.str false bF) s2.1) y8 (Value.string y7.1) (D.p (pPP s2.2.1))) λ(y9:List aE)=>X1 (y9,i64.wrap (s2.2.1+1),())) λ(i4:Nat) (y5:Int)=>IR s2 X1) (i8 s2 R)) (y0,0,())
def AUP ( a0 R):wE b8 Tryz.prog ASG A9E 8 118 (tG a0) R=AUO a0 R:=by kernel_rfl
def AI1 (d:aB):Option (List (iII×Int)):=rC d.2.2.1 (iV (ids d.2.2.1))
def AL3 (d d':aB) (h:tG d=tG d'):d=d':=by
 unfold tG at h;simp only[List.cons.injEq,T.fn.injEq,T.ref.injEq,and_true,true_and] at h;exact Sy.dM aD _ _ h.2
noncomputable def AAE:List T->Option (List (iII×Int)):=gA (λ(x:aB)=>tG x) AI1
def AYZ (a0:aB):AAE (tG a0)=AI1 a0:=fP (A:=(λ(x:aB)=>tG x)) AL3 a0
def BEB (h:∀ (a0:aB) (r:List (iII×Int)),AI1 a0=some r->(∀ t∈tG a0,Bd t)->AUO a0 (λy=>y = .mp (bO r))):kR Tryz.prog 118 (sU AAE) :=
 D4 (E:=ASG) (Hs:=A9E) A4E aZ a7 (aO rfl) 8 ⟨_,_,Tryz.func118,rfl⟩ λx r h1 h2=>by
  rw[AUP];exact h x r h1 h2
def BB8:kR Tryz.prog 118 (sU AAE):=BEB λd r h hb=>by
 obtain ⟨hl,rfl⟩:=j7 h;unfold AUO IR i8 H1 bF;exact KA (r:=aN.tl) (l:=d.2.2.1) hl
def tH (a0:aB):List T:=[pPP (a0.2.2.2.1.length:Int),T.fn 121 [] [T.ref [T.ref (aD.enc a0)]]]
noncomputable def ASH:Env:=Env.of []
def A9F:FuncId->Hint:=cA 118 [(3,.inv [.map 0 .str false (.int .i64),.val 12 false (.int .i64)])] (λ_=>bA)
def A4F:aU Tryz.prog ASH:=.nil _
def AUQ(a0:aB)(R:T->Prop):Prop:=cO Sy.str false bF [] λ(y0:List aE)=>bD (List aE×Int×PUnit) (λX1 s2=>aC (decide (s2.2.1<(↑a0.2.2.2.1.length:Int))) (aX bC (t6 a0) s2.2.1 λ(y3:bS)=>gR TypeDesc.string (Value.string y3.1) (List.map (bY Sy.str false bF) s2.1) false bF (aX bC (t6 a0) s2.2.1 λ(y7:bS)=>eE (Option (Nat×D)) (findD TypeDesc.string (Value.string y7.1) (List.map (bY Sy.str false bF) s2.1) 0) λ(y8:Option (Nat×D))=>cO Sy.str false bF (dZ (List.map (bY Sy.str false bF) s2.1) y8 (Value.string y7.1) (D.p (pPP s2.2.1))) λ(y9:List aE)=>X1 (y9,i64.wrap (s2.2.1+1),())) λ(i4:Nat) (y5:Int)=>IR s2 X1) (i8 s2 R)) (y0,0,())
def AUR ( a0 R):wE b8 Tryz.prog ASH A9F 8 118 (tH a0) R=AUQ a0 R:=by kernel_rfl
def AI2 (d:aB):Option (List (iII×Int)):=rC d.2.2.2.1 (iV (ids d.2.2.2.1))
def AL4 (d d':aB) (h:tH d=tH d'):d=d':=by
 unfold tH at h;simp only[List.cons.injEq,T.fn.injEq,T.ref.injEq,and_true,true_and] at h;exact Sy.dM aD _ _ h.2
noncomputable def AAF:List T->Option (List (iII×Int)):=gA (λ(x:aB)=>tH x) AI2
def AY0 (a0:aB):AAF (tH a0)=AI2 a0:=fP (A:=(λ(x:aB)=>tH x)) AL4 a0
def BEC (h:∀ (a0:aB) (r:List (iII×Int)),AI2 a0=some r->(∀ t∈tH a0,Bd t)->AUQ a0 (λy=>y = .mp (bO r))):kR Tryz.prog 118 (sU AAF) :=
 D4 (E:=ASH) (Hs:=A9F) A4F aZ a7 (aO rfl) 8 ⟨_,_,Tryz.func118,rfl⟩ λx r h1 h2=>by
  rw[AUR];exact h x r h1 h2
def BB9:kR Tryz.prog 118 (sU AAF):=BEC λd r h hb=>by
 obtain ⟨hl,rfl⟩:=j7 h;unfold AUQ IR i8 t6 bF;exact KA (r:=bC.tl) (l:=d.2.2.2.1) hl
def tI (a0:aB):List T:=[pPP (a0.2.2.2.2.1.length:Int),T.fn 122 [] [T.ref [T.ref (aD.enc a0)]]]
noncomputable def ASI:Env:=Env.of []
def A9G:FuncId->Hint:=cA 118 [(3,.inv [.map 0 .str false (.int .i64),.val 12 false (.int .i64)])] (λ_=>bA)
def A4G:aU Tryz.prog ASI:=.nil _
def AUS(a0:aB)(R:T->Prop):Prop:=cO Sy.str false bF [] λ(y0:List aE)=>bD (List aE×Int×PUnit) (λX1 s2=>aC (decide (s2.2.1<(↑a0.2.2.2.2.1.length:Int))) (aX aF (m7 a0) s2.2.1 λ(y3:aQ)=>gR TypeDesc.string (Value.string y3.1) (List.map (bY Sy.str false bF) s2.1) false bF (aX aF (m7 a0) s2.2.1 λ(y7:aQ)=>eE (Option (Nat×D)) (findD TypeDesc.string (Value.string y7.1) (List.map (bY Sy.str false bF) s2.1) 0) λ(y8:Option (Nat×D))=>cO Sy.str false bF (dZ (List.map (bY Sy.str false bF) s2.1) y8 (Value.string y7.1) (D.p (pPP s2.2.1))) λ(y9:List aE)=>X1 (y9,i64.wrap (s2.2.1+1),())) λ(i4:Nat) (y5:Int)=>IR s2 X1) (i8 s2 R)) (y0,0,())
def AUT ( a0 R):wE b8 Tryz.prog ASI A9G 8 118 (tI a0) R=AUS a0 R:=by kernel_rfl
def AI3 (d:aB):Option (List (iII×Int)):=rC d.2.2.2.2.1 (iV (ids d.2.2.2.2.1))
def AL5 (d d':aB) (h:tI d=tI d'):d=d':=by
 unfold tI at h;simp only[List.cons.injEq,T.fn.injEq,T.ref.injEq,and_true,true_and] at h;exact Sy.dM aD _ _ h.2
noncomputable def AAG:List T->Option (List (iII×Int)):=gA (λ(x:aB)=>tI x) AI3
def AY1 (a0:aB):AAG (tI a0)=AI3 a0:=fP (A:=(λ(x:aB)=>tI x)) AL5 a0
def BED (h:∀ (a0:aB) (r:List (iII×Int)),AI3 a0=some r->(∀ t∈tI a0,Bd t)->AUS a0 (λy=>y = .mp (bO r))):kR Tryz.prog 118 (sU AAG) :=
 D4 (E:=ASI) (Hs:=A9G) A4G aZ a7 (aO rfl) 8 ⟨_,_,Tryz.func118,rfl⟩ λx r h1 h2=>by
  rw[AUT];exact h x r h1 h2
def BCA:kR Tryz.prog 118 (sU AAG):=BED λd r h hb=>by
 obtain ⟨hl,rfl⟩:=j7 h;unfold AUS IR i8 m7 bF;exact KA (r:=aF.tl) (l:=d.2.2.2.2.1) hl
end Go.Pv
namespace Go.Pv
open Go Go.Proofs IntKind
variable {α:Type}
def orG (g1 g2:List T->Option α) (a:List T):Option α:=match g1 a with
 | some r=>some r
 | none=>g2 a
variable {g1 g2:List T->Option α}
def OO {a:List T} {r:α} (h:g1 a=some r):orG g1 g2 a=some r:=by unfold orG;rw[h]
def pH {a:List T} (h:g1 a=none):orG g1 g2 a=g2 a:=by unfold orG;rw[h]
def S1 {a:List T} {r:α} (h:orG g1 g2 a=some r):g1 a=some r\/g2 a=some r:=by
 unfold orG at h;split at h
 ·rename_i r' h1;cases h;exact .inl h1
 ·exact .inr h
variable {P:Program}
def aP.or {f:FuncId} {g1 g2:List T->Option T} (h1:aP P f g1) (h2:aP P f g2):aP P f (orG g1 g2):=⟨h1.entry,λw own args vs r hG ho ha hr=>by
 rcases S1 hr with h|h
 ·exact h1.calls w own args vs r hG ho ha h
 ·exact h2.calls w own args vs r hG ho ha h⟩
def kR.orM {f:FuncId} {g1 g2:List T->Option (List (iII×Int))} (h1:kR P f (sU g1)) (h2:kR P f (sU g2)):kR P f (sU (orG g1 g2)):=⟨h1.entry,λw own args vs r hG ho ha hr=>by
 simp only[sU,aa] at hr;obtain ⟨es,h,rfl⟩:=hr;rcases S1 h with h|h
 ·exact h1.calls w own args vs _ hG ho ha (by simp[sU,h])
 ·exact h2.calls w own args vs _ hG ho ha (by simp[sU,h])⟩
noncomputable def APJ:List T->Option (List (iII×Int)):=orG AAD (orG AAE (orG AAF AAG))
def BHR:kR Tryz.prog 118 (sU APJ):=.orM BB7 (.orM BB8 (.orM BB9 BCA))
def iJ {X:Type} {A:X->List T} {sp:X->Option α} {args:List T} (h:∀ x,args≠A x):gA A sp args=none:=by
 unfold gA;rw[dif_neg];rintro ⟨x,hx⟩;exact h x hx
def pB:List iII->Bool
 | a::b::l=>!(cR b a||decide (b=a))&&pB (b::l)
 | _=>true
def AWJ {l:List iII} {k:Nat} (h:k+1<l.length):pB (l.drop k)=(!(cR l[k+1] l[k]||decide (l[k+1]=l[k]))&&pB (l.drop (k+1))):=by
 rw[List.drop_eq_getElem_cons (show k<l.length by omega),List.drop_eq_getElem_cons h,pB]
def A5O {l:List iII} {k:Nat} (h:l.length<=k+1):pB (l.drop k)=true:=by
 rcases Nat.lt_or_ge k l.length with h1|h1
 ·rw[List.drop_eq_getElem_cons h1,List.drop_eq_nil_of_le h];rfl
 ·rw[List.drop_eq_nil_of_le h1];rfl
variable {R:T->Prop}
def E6 {r:Sy} {p:r.den->iII} {l:List r.den} (hl:l.length<=140737488355328) (hR:R (pPR (pB (l.map p)))) :
 bD (Int×PUnit)
 (λ(X0:Int×PUnit->Prop) (s1:Int×PUnit) =>
  aC (decide (s1.1<(↑l.length:Int)))
   (aX r (List.map r.enc l) s1.1 λ(y2:r.den) =>
    aX r (List.map r.enc l) (i64.wrap (s1.1-1))
     λ(y3:r.den) =>
     aC (cR (p y2) (p y3)||decide (p y2=p y3)) (R (pPR false))
      (X0 (i64.wrap (s1.1+1),())))
   (R (pPR true)))
 (1,()):=by
 refine bP l.length (λk s=>s=(((k+1:Nat):Int),())/\pB (l.map p)=pB ((l.map p).drop k)) ⟨rfl,by rw[List.drop_zero]⟩ ?_;rintro X k s hk ⟨rfl,he⟩ hX;dsimp only;have hw:i64.wrap (((k+1:Nat):Int)+1)=((k+1+1:Nat):Int):=bH _ (by omega) (by omega);have hw1:i64.wrap (((k+1:Nat):Int)-1)=((k:Nat):Int):=by rw[bH _ (by omega) (by omega)];omega
 by_cases hlt:k+1<l.length
 ·refine gK (by omega) ?_;rw[bK hlt,hw1,bK (show k<l.length by omega)];rw[AWJ (by rw[ae];exact hlt)] at he;rw[List.getElem_map,List.getElem_map] at he;cases hc:(cR (p l[k+1]) (p l[k])||decide (p l[k+1]=p l[k])) with
  | true =>
   rw[jS];rw[hc,Bool.not_true,Bool.false_and] at he;rwa[he] at hR
  | false =>
   rw[o7];rw[hc,Bool.not_false,Bool.true_and] at he;exact hX _ (by omega) ⟨by rw[hw],he⟩
 ·refine jA (by omega) ?_;rw[A5O (by rw[ae];omega)] at he;rwa[he] at hR
def rT (a0:List iII):List T:=[pPP (a0.length:Int),T.fn 272 [] [T.ref [T.sl false (List.map Sy.str.enc a0)]]]
noncomputable def AS3:Env:=Env.of []
def A9M:FuncId->Hint:=cA 123 [(2,.inv [.val 5 false (.int .i64)])] (λ_=>bA)
def A4W:aU Tryz.prog AS3:=.nil _
def AVE(a0:List iII)(R:T->Prop):Prop:=bD (Int×PUnit) (λX0 s1=>aC (decide (s1.1<(↑a0.length:Int))) (aX Sy.str (IO a0) s1.1 λ(y2:iII)=>aX Sy.str (IO a0) (i64.wrap (s1.1-1)) λ(y3:iII)=>aC (cR y2 y3||decide (y2=y3)) (R d4) (f9 X0 s1)) (R d7)) (1,())
def AVF ( a0 R):eJ b8 Tryz.prog AS3 A9M 8 123 (rT a0) R=AVE a0 R:=by kernel_rfl
def AI9 (l:List iII):Option T:=rC l (pPR (pB l))
def AMB (d d':List iII) (h:rT d=rT d'):d=d':=by
 unfold rT at h;simp only[List.cons.injEq,T.fn.injEq,T.ref.injEq,and_true,true_and,T.sl.injEq] at h;exact map_inj (Sy.dM .str) h.2
noncomputable def AA5:List T->Option (T):=gA (λ(x:List iII)=>rT x) AI9
def AZH (a0:List iII):AA5 (rT a0)=AI9 a0:=fP (A:=(λ(x:List iII)=>rT x)) AMB a0
def BET (h:∀ (a0:List iII) (r:T),AI9 a0=some r->(∀ t∈rT a0,Bd t)->AVE a0 (λy=>y=r)):aP Tryz.prog 123 AA5 :=
 cU (E:=AS3) (Hs:=A9M) A4W aZ a7 (aO rfl) 8 ⟨_,_,Tryz.func123,rfl⟩ λx r h1 h2=>by
  rw[AVF];exact h x r h1 h2
def BCQ:aP Tryz.prog 123 AA5:=BET λl r h hb=>by
 obtain ⟨hl,rfl⟩:=j7 h;unfold AVE IO f9 d7 d4;exact E6 (r:=.str) (p:=λy=>y) (R:=λy=>y=pPR (pB l)) hl (by simp)
def rP (a0:aB):List T:=[pPP (a0.2.1.length:Int),T.fn 124 [] [T.ref [T.ref (aD.enc a0)]]]
noncomputable def ASZ:Env:=Env.of []
def A9I:FuncId->Hint:=cA 123 [(2,.inv [.val 5 false (.int .i64)])] (λ_=>bA)
def A4S:aU Tryz.prog ASZ:=.nil _
def AU6(a0:aB)(R:T->Prop):Prop:=bD (Int×PUnit) (λX0 s1=>aC (decide (s1.1<(↑a0.2.1.length:Int))) (aX bB (t7 a0) s1.1 λ(y2:bN)=>aX bB (t7 a0) (i64.wrap (s1.1-1)) λ(y3:bN)=>aC (cR y2.1 y3.1||decide (y2.1=y3.1)) (R d4) (f9 X0 s1)) (R d7)) (1,())
def AU7 ( a0 R):eJ b8 Tryz.prog ASZ A9I 8 123 (rP a0) R=AU6 a0 R:=by kernel_rfl
def AI5 (d:aB):Option T:=rC d.2.1 (pPR (pB (ids d.2.1)))
def AL7 (d d':aB) (h:rP d=rP d'):d=d':=by
 unfold rP at h;simp only[List.cons.injEq,T.fn.injEq,T.ref.injEq,and_true,true_and] at h;exact Sy.dM aD _ _ h.2
noncomputable def AA1:List T->Option (T):=gA (λ(x:aB)=>rP x) AI5
def AZD (a0:aB):AA1 (rP a0)=AI5 a0:=fP (A:=(λ(x:aB)=>rP x)) AL7 a0
def BEP (h:∀ (a0:aB) (r:T),AI5 a0=some r->(∀ t∈rP a0,Bd t)->AU6 a0 (λy=>y=r)):aP Tryz.prog 123 AA1 :=
 cU (E:=ASZ) (Hs:=A9I) A4S aZ a7 (aO rfl) 8 ⟨_,_,Tryz.func123,rfl⟩ λx r h1 h2=>by
  rw[AU7];exact h x r h1 h2
def BCM:aP Tryz.prog 123 AA1:=BEP λd r h hb=>by
 obtain ⟨hl,rfl⟩:=j7 h;unfold AU6 f9 t7 d7 d4;exact E6 (r:=bB) (p:=λy=>y.1) (R:=λy=>y=pPR (pB (ids d.2.1))) hl rfl
def rQ (a0:aB):List T:=[pPP (a0.2.2.1.length:Int),T.fn 125 [] [T.ref [T.ref (aD.enc a0)]]]
noncomputable def AS0:Env:=Env.of []
def A9J:FuncId->Hint:=cA 123 [(2,.inv [.val 5 false (.int .i64)])] (λ_=>bA)
def A4T:aU Tryz.prog AS0:=.nil _
def AU8(a0:aB)(R:T->Prop):Prop:=bD (Int×PUnit) (λX0 s1=>aC (decide (s1.1<(↑a0.2.2.1.length:Int))) (aX aN (H1 a0) s1.1 λ(y2:a8)=>aX aN (H1 a0) (i64.wrap (s1.1-1)) λ(y3:a8)=>aC (cR y2.1 y3.1||decide (y2.1=y3.1)) (R d4) (f9 X0 s1)) (R d7)) (1,())
def AU9 ( a0 R):eJ b8 Tryz.prog AS0 A9J 8 123 (rQ a0) R=AU8 a0 R:=by kernel_rfl
def AI6 (d:aB):Option T:=rC d.2.2.1 (pPR (pB (ids d.2.2.1)))
def AL8 (d d':aB) (h:rQ d=rQ d'):d=d':=by
 unfold rQ at h;simp only[List.cons.injEq,T.fn.injEq,T.ref.injEq,and_true,true_and] at h;exact Sy.dM aD _ _ h.2
noncomputable def AA2:List T->Option (T):=gA (λ(x:aB)=>rQ x) AI6
def AZE (a0:aB):AA2 (rQ a0)=AI6 a0:=fP (A:=(λ(x:aB)=>rQ x)) AL8 a0
def BEQ (h:∀ (a0:aB) (r:T),AI6 a0=some r->(∀ t∈rQ a0,Bd t)->AU8 a0 (λy=>y=r)):aP Tryz.prog 123 AA2 :=
 cU (E:=AS0) (Hs:=A9J) A4T aZ a7 (aO rfl) 8 ⟨_,_,Tryz.func123,rfl⟩ λx r h1 h2=>by
  rw[AU9];exact h x r h1 h2
def BCN:aP Tryz.prog 123 AA2:=BEQ λd r h hb=>by
 obtain ⟨hl,rfl⟩:=j7 h;unfold AU8 f9 H1 d7 d4;exact E6 (r:=aN) (p:=λy=>y.1) (R:=λy=>y=pPR (pB (ids d.2.2.1))) hl rfl
def rR (a0:aB):List T:=[pPP (a0.2.2.2.1.length:Int),T.fn 126 [] [T.ref [T.ref (aD.enc a0)]]]
noncomputable def AS1:Env:=Env.of []
def A9K:FuncId->Hint:=cA 123 [(2,.inv [.val 5 false (.int .i64)])] (λ_=>bA)
def A4U:aU Tryz.prog AS1:=.nil _
def AVA(a0:aB)(R:T->Prop):Prop:=bD (Int×PUnit) (λX0 s1=>aC (decide (s1.1<(↑a0.2.2.2.1.length:Int))) (aX bC (t6 a0) s1.1 λ(y2:bS)=>aX bC (t6 a0) (i64.wrap (s1.1-1)) λ(y3:bS)=>aC (cR y2.1 y3.1||decide (y2.1=y3.1)) (R d4) (f9 X0 s1)) (R d7)) (1,())
def AVB ( a0 R):eJ b8 Tryz.prog AS1 A9K 8 123 (rR a0) R=AVA a0 R:=by kernel_rfl
def AI7 (d:aB):Option T:=rC d.2.2.2.1 (pPR (pB (ids d.2.2.2.1)))
def AL9 (d d':aB) (h:rR d=rR d'):d=d':=by
 unfold rR at h;simp only[List.cons.injEq,T.fn.injEq,T.ref.injEq,and_true,true_and] at h;exact Sy.dM aD _ _ h.2
noncomputable def AA3:List T->Option (T):=gA (λ(x:aB)=>rR x) AI7
def AZF (a0:aB):AA3 (rR a0)=AI7 a0:=fP (A:=(λ(x:aB)=>rR x)) AL9 a0
def BER (h:∀ (a0:aB) (r:T),AI7 a0=some r->(∀ t∈rR a0,Bd t)->AVA a0 (λy=>y=r)):aP Tryz.prog 123 AA3 :=
 cU (E:=AS1) (Hs:=A9K) A4U aZ a7 (aO rfl) 8 ⟨_,_,Tryz.func123,rfl⟩ λx r h1 h2=>by
  rw[AVB];exact h x r h1 h2
def BCO:aP Tryz.prog 123 AA3:=BER λd r h hb=>by
 obtain ⟨hl,rfl⟩:=j7 h;unfold AVA f9 t6 d7 d4;exact E6 (r:=bC) (p:=λy=>y.1) (R:=λy=>y=pPR (pB (ids d.2.2.2.1))) hl rfl
def rS (a0:aB):List T:=[pPP (a0.2.2.2.2.1.length:Int),T.fn 127 [] [T.ref [T.ref (aD.enc a0)]]]
noncomputable def AS2:Env:=Env.of []
def A9L:FuncId->Hint:=cA 123 [(2,.inv [.val 5 false (.int .i64)])] (λ_=>bA)
def A4V:aU Tryz.prog AS2:=.nil _
def AVC(a0:aB)(R:T->Prop):Prop:=bD (Int×PUnit) (λX0 s1=>aC (decide (s1.1<(↑a0.2.2.2.2.1.length:Int))) (aX aF (m7 a0) s1.1 λ(y2:aQ)=>aX aF (m7 a0) (i64.wrap (s1.1-1)) λ(y3:aQ)=>aC (cR y2.1 y3.1||decide (y2.1=y3.1)) (R d4) (f9 X0 s1)) (R d7)) (1,())
def AVD ( a0 R):eJ b8 Tryz.prog AS2 A9L 8 123 (rS a0) R=AVC a0 R:=by kernel_rfl
def AI8 (d:aB):Option T:=rC d.2.2.2.2.1 (pPR (pB (ids d.2.2.2.2.1)))
def AMA (d d':aB) (h:rS d=rS d'):d=d':=by
 unfold rS at h;simp only[List.cons.injEq,T.fn.injEq,T.ref.injEq,and_true,true_and] at h;exact Sy.dM aD _ _ h.2
noncomputable def AA4:List T->Option (T):=gA (λ(x:aB)=>rS x) AI8
def AZG (a0:aB):AA4 (rS a0)=AI8 a0:=fP (A:=(λ(x:aB)=>rS x)) AMA a0
def BES (h:∀ (a0:aB) (r:T),AI8 a0=some r->(∀ t∈rS a0,Bd t)->AVC a0 (λy=>y=r)):aP Tryz.prog 123 AA4 :=
 cU (E:=AS2) (Hs:=A9L) A4V aZ a7 (aO rfl) 8 ⟨_,_,Tryz.func123,rfl⟩ λx r h1 h2=>by
  rw[AVD];exact h x r h1 h2
def BCP:aP Tryz.prog 123 AA4:=BES λd r h hb=>by
 obtain ⟨hl,rfl⟩:=j7 h;unfold AVC f9 m7 d7 d4;exact E6 (r:=aF) (p:=λy=>y.1) (R:=λy=>y=pPR (pB (ids d.2.2.2.2.1))) hl rfl
noncomputable def wR:List T->Option T:=orG AA1 (orG AA2 (orG AA3 (orG AA4 AA5)))
def A9U:aP Tryz.prog 123 wR:=.or BCM (.or BCN (.or BCO (.or BCP BCQ)))
def BCX {d:aB} (h:d.2.1.length<=140737488355328):APJ (tE d)=some (iV (ids d.2.1)):=by
 have h1:AAD (tE d)=some (iV (ids d.2.1)):=by rw[AYY];exact j8 _ h
 exact (OO h1)
def BC1 {d:aB} (h:d.2.1.length<=140737488355328):wR (rP d)=some (pPR (pB (ids d.2.1))):=by
 have h1:AA1 (rP d)=some (pPR (pB (ids d.2.1))):=by rw[AZD];exact j8 _ h
 exact (OO h1)
def BCY {d:aB} (h:d.2.2.1.length<=140737488355328):APJ (tG d)=some (iV (ids d.2.2.1)):=by
 have h1:AAE (tG d)=some (iV (ids d.2.2.1)):=by rw[AYZ];exact j8 _ h
 exact ((pH (iJ λx h=>by simp[tE,tG] at h)).trans (OO h1))
def BC2 {d:aB} (h:d.2.2.1.length<=140737488355328):wR (rQ d)=some (pPR (pB (ids d.2.2.1))):=by
 have h1:AA2 (rQ d)=some (pPR (pB (ids d.2.2.1))):=by rw[AZE];exact j8 _ h
 exact ((pH (iJ λx h=>by simp[rP,rQ] at h)).trans (OO h1))
def BCZ {d:aB} (h:d.2.2.2.1.length<=140737488355328):APJ (tH d)=some (iV (ids d.2.2.2.1)):=by
 have h1:AAF (tH d)=some (iV (ids d.2.2.2.1)):=by rw[AY0];exact j8 _ h
 exact ((pH (iJ λx h=>by simp[tE,tH] at h)).trans ((pH (iJ λx h=>by simp[tG,tH] at h)).trans (OO h1)))
def BC3 {d:aB} (h:d.2.2.2.1.length<=140737488355328):wR (rR d)=some (pPR (pB (ids d.2.2.2.1))):=by
 have h1:AA3 (rR d)=some (pPR (pB (ids d.2.2.2.1))):=by rw[AZF];exact j8 _ h
 exact ((pH (iJ λx h=>by simp[rP,rR] at h)).trans ((pH (iJ λx h=>by simp[rQ,rR] at h)).trans (OO h1)))
def BC0 {d:aB} (h:d.2.2.2.2.1.length<=140737488355328):APJ (tI d)=some (iV (ids d.2.2.2.2.1)):=by
 have h1:AAG (tI d)=some (iV (ids d.2.2.2.2.1)):=by rw[AY1];exact j8 _ h
 exact ((pH (iJ λx h=>by simp[tE,tI] at h)).trans ((pH (iJ λx h=>by simp[tG,tI] at h)).trans ((pH (iJ λx h=>by simp[tH,tI] at h)).trans h1)))
def BC4 {d:aB} (h:d.2.2.2.2.1.length<=140737488355328):wR (rS d)=some (pPR (pB (ids d.2.2.2.2.1))):=by
 have h1:AA4 (rS d)=some (pPR (pB (ids d.2.2.2.2.1))):=by rw[AZG];exact j8 _ h
 exact ((pH (iJ λx h=>by simp[rP,rS] at h)).trans ((pH (iJ λx h=>by simp[rQ,rS] at h)).trans ((pH (iJ λx h=>by simp[rR,rS] at h)).trans (OO h1))))
def AZI {l:List iII} (h:l.length<=140737488355328):wR (rT l)=some (pPR (pB l)):=by
 have h1:AA5 (rT l)=some (pPR (pB l)):=by rw[AZH];exact j8 _ h
 exact ((pH (iJ λx h=>by simp[rP,rT] at h)).trans ((pH (iJ λx h=>by simp[rQ,rT] at h)).trans ((pH (iJ λx h=>by simp[rR,rT] at h)).trans ((pH (iJ λx h=>by simp[rS,rT] at h)).trans h1))))
abbrev PX (d:aB) (m1 m2 m3 m4:List (iII×Int)):T:=T.ref [T.ref (aD.enc d),T.mp (bO m1),T.mp (bO m2),T.mp (bO m3),T.mp (bO m4)]
end Go.Pv
namespace Go.Pv
open Go Go.Proofs IntKind
abbrev q_b:Sh:=[(false,.bool)]
abbrev BE1:Sh:=[(false,.li .str)]
def zN (x:iII×iII):Option T:=match decide (x.1.size<4294967281),decide (1<=x.2.size) with
 | true,true=>some (Sh.enc BE1 (Lib.splitB x.2 0 (Lib.countB x.1 x.2) x.1))
 | _,_=>none
noncomputable def x5:List T->Option T:=gS [(false,.str),(false,.str)] zN
def AA9 {a b:iII}:x5 [pPQ a,pPQ b]=zN (a,b):=bJ (s:=[(false,.str),(false,.str)]) rfl (a,b) rfl
def AO2:aP Tryz.prog 83 x5:=by
 refine ⟨xI.entry,λw own args vs r hG ho ha hg=>?_⟩;obtain ⟨⟨a,b⟩,rfl,hx⟩:=z7 hg;unfold zN at hx;split at hx
 ·rename_i h1 h2;cases hx;have hs:sV [.v (.string a),.v (.string b)]=some (.sl true ((Lib.splitB b 0 (Lib.countB a b) a).map λx=>[.v (.string x)])):=by
   unfold sV;simp only[h1,h2]
  refine (xI.calls w own _ vs _ hG ho ha hs).mono ?_;rintro e w' ⟨v,rfl,hr,hb⟩;exact ⟨v,rfl,hr.canon 0,hb⟩
 ·cases hx
end Go.Pv
namespace Go.Pv
open Go Go.Proofs IntKind
def sC (n:Int):Bool:=(decide (97<=n)&&decide (n<=122))||(decide (65<=n)&&decide (n<=90))
def CR (n:Int):Bool:=decide (48<=n)&&decide (n<=57)
def nameAt (i:Nat) (b:UInt8):Bool:=sC b.toNat||(decide (i≠0)&&(CR b.toNat||decide ((b.toNat:Int)=95)||decide ((b.toNat:Int)=45)))
def isName (s:iII):Bool:=decide (s.size≠0)&&decide (s.size<=16)&&(List.range s.size).all λi=>match s.data[i]? with|some b=>nameAt i b|none=>true
def AC2 (s:iII):Option T:=some (Sh.enc q_b (isName s))
abbrev uR:=AC2
def A8X (l:List iII):Int:=(l.length:Int)-1+oX l
def BIT (s:iII):Option T:=match decide (s.size<=1099511627776) with
 | true=>some (Sh.enc BE1 (eH s))
 | false=>none
def uT (l:List iII):Option T:=match decide (l.length<=65)&&decide (oX l<=64) with
 | true=>some (Sh.enc q_b (l.all isName&&(decide (1<=l.length)&&decide (l.length<=8)&&decide (A8X l<=64))))
 | false=>none
def pU (s:iII):Bool:=decide (s.size<=64)&&decide ((eH s).length<=8)&&(eH s).all isName
def FI (s:iII):Option T:=some (Sh.enc q_b (pU s))
def p8 {n:Nat} {f:Nat->Bool}:(List.range n).all f=true↔∀ i,i<n->f i=true:=by simp
def APU {s:iII} (h0:s.size≠0) (h1:s.size<=16) (h2:∀ i b,s.data[i]? = some b->nameAt i b=true):isName s=true:=by
 unfold isName;simp only[h0,h1,decide_true,Bool.true_and,ac,p8,ne_eq,not_false_eq_true,true_and];intro i hi;split
 ·rename_i b hb;exact h2 i b hb
 ·rfl
def C8 {s:iII} (h:s.size=0\/16<s.size\/∃ i b,s.data[i]? = some b/\nameAt i b=false):isName s=false:=by
 rw[Bool.eq_false_iff];intro hn;unfold isName at hn;simp only[ac,p8,ah] at hn;rcases h with h|h|⟨i,b,hb,hf⟩
 ·exact hn.1.1 h
 ·have:=hn.1.2;omega
 ·have hi:i<s.size:=(Array.getElem?_eq_some_iff.1 hb).1;have:=hn.2 i hi;rw[hb] at this;simp only[hf] at this;cases this
def ABX (b:UInt8):nameAt 0 b=sC b.toNat:=by simp[nameAt]
def AJW {s:iII}:s = { data:=#[] }↔s.size=0:=⟨λe=>by subst e;rfl,λe=>ByteArray.ext (Array.eq_empty_of_size_eq_zero e)⟩
noncomputable def ASE:Env:=Env.of []
def AVL:FuncId->Hint:=λf=>match f == 85 with|true=>⟨λr=>match r == 4 with|true=>.inv [.kW 0]|false=>.none,λi j=>match i == 6&&j == 6 with|true=>some [.val 5 false .bool,.fix 0]|false=>match i == 7&&j == 7 with|true=>some [.val 6 false .bool,.fix 0]|false=>none,λ_=>none⟩|false=>bA
def ADV:aU Tryz.prog ASE:=.nil _
def EQ(s1:(iII×Nat)×PUnit)(X2:Bool×PUnit×PUnit->Prop):Prop:=aC (decide (97<=(↑(Utf8.decode s1.1.1 s1.1.2).1:Int))) (gV (bG.kW s1.1.1 (s1.1.2+(Utf8.decode s1.1.1 s1.1.2).2)) (bG.kW s1.1.1 (s1.1.2+(Utf8.decode s1.1.1 s1.1.2).2)) (X2 (decide ((↑(Utf8.decode s1.1.1 s1.1.2).1:Int)<=122),(),()))) (gV (bG.kW s1.1.1 (s1.1.2+(Utf8.decode s1.1.1 s1.1.2).2)) (bG.kW s1.1.1 (s1.1.2+(Utf8.decode s1.1.1 s1.1.2).2)) (X2 (false,(),())))
def FS(s1:(iII×Nat)×PUnit)(X2:Bool×PUnit×PUnit->Prop):Prop:=gV (bG.kW s1.1.1 (s1.1.2+(Utf8.decode s1.1.1 s1.1.2).2)) (bG.kW s1.1.1 (s1.1.2+(Utf8.decode s1.1.1 s1.1.2).2)) (X2 (true,(),()))
def M2(s1:(iII×Nat)×PUnit)(X4:Bool×PUnit×PUnit->Prop):Prop:=aC (decide ((↑(Utf8.decode s1.1.1 s1.1.2).1:Int)=95)) (FS s1 X4) (gV (bG.kW s1.1.1 (s1.1.2+(Utf8.decode s1.1.1 s1.1.2).2)) (bG.kW s1.1.1 (s1.1.2+(Utf8.decode s1.1.1 s1.1.2).2)) (X4 (decide ((↑(Utf8.decode s1.1.1 s1.1.2).1:Int)=45),(),())))
def LG(a0:iII)(R:T->Prop):Prop:=aC (decide (a0 = {data:=#[]})) (R d4) (aC (decide (16<(↑(ByteArray.size a0):Int))) (R d4) (bD ((iII×Nat)×PUnit) (λX0 s1=>aC (decide (s1.1.2<s1.1.1.size)) (sB (Bool×PUnit×PUnit) (λ(X2:Bool×PUnit×PUnit->Prop)=>aC (decide (65<=(↑(Utf8.decode s1.1.1 s1.1.2).1:Int))) (aC (decide ((↑(Utf8.decode s1.1.1 s1.1.2).1:Int)<=90)) (FS s1 X2) (EQ s1 X2)) (EQ s1 X2)) λ(s3:Bool×PUnit×PUnit)=>sB (Bool×PUnit×PUnit) (λ(X4:Bool×PUnit×PUnit->Prop)=>aC (decide (48<=(↑(Utf8.decode s1.1.1 s1.1.2).1:Int))) (aC (decide ((↑(Utf8.decode s1.1.1 s1.1.2).1:Int)<=57)) (FS s1 X4) (M2 s1 X4)) (M2 s1 X4)) λ(s5:Bool×PUnit×PUnit)=>aC (!s3.1) (aC (decide ((↑s1.1.2:Int)=0)) (R d4) (aC (!s5.1) (R d4) (X0 ((s1.1.1,s1.1.2+(Utf8.decode s1.1.1 s1.1.2).2),())))) (X0 ((s1.1.1,s1.1.2+(Utf8.decode s1.1.1 s1.1.2).2),()))) (R d7)) ((a0,0),())))
abbrev OW:Sh:=[(false,Sy.str)]
abbrev E4:Sh:=[(false,Sy.bool)]
def QO (y:Sh.den E4) (K:Sh.den E4->Prop):aJ E4 (some (Sh.enc E4 y)) K=K y:=zU rfl y K
noncomputable def iM:List T->Option T:=gS OW uR
def xO {a0}:iM [pPQ a0]=uR (a0):=bJ (s:=OW) rfl (a0) rfl
def AQL:w5 Tryz.prog 85 iM uR (cJ OW) LG:=j5 (a1:=(false,Sy.str)) (sp:=uR) (F:=LG) (Hs:=AVL) (f:=85) (k:=8) ADV aZ a7 (aO rfl) ⟨_,_,Tryz.func85,rfl⟩ rfl λ_ _=>by kernel_rfl
variable {K:Bool×PUnit×PUnit->Prop}
def ABM (c:Int) (hX:K (sC c,(),())):sB (Bool×PUnit×PUnit) (λX=>aC (decide (65<=c)) (aC (decide (c<=90)) (X (true,(),())) (aC (decide (97<=c)) (X (decide (c<=122),(),())) (X (false,(),())))) (aC (decide (97<=c)) (X (decide (c<=122),(),())) (X (false,(),())))) K:=by
 simp only[ABI,AI];unfold sC at hX;by_cases h1:65<=c<;>by_cases h2:c<=90<;>by_cases h3:97<=c<;>by_cases h4:c<=122<;>simp[h1,h2,h3,h4] at hX ⊢ <;> first|exact hX|omega
def U1 (c:Int) (hX:K (CR c||decide (c=95)||decide (c=45),(),())):sB (Bool×PUnit×PUnit) (λX=>aC (decide (48<=c)) (aC (decide (c<=57)) (X (true,(),())) (aC (decide (c=95)) (X (true,(),())) (X (decide (c=45),(),())))) (aC (decide (c=95)) (X (true,(),())) (X (decide (c=45),(),())))) K:=by
 simp only[ABI,AI];unfold CR at hX;by_cases h1:48<=c<;>by_cases h2:c<=57<;>by_cases h3:c=95<;>simp[h1,h2,h3] at hX ⊢ <;> first|exact hX|omega
def zZ:aP Tryz.prog 85 iM:=AQL λs r h hb=>by
 have h':some (Sh.enc q_b (isName s))=some r:=h;cases h';clear h;unfold LG M2 FS EQ d7 d4;by_cases h0:s.size=0
 ·exact gK (AJW.2 h0) (by rw[C8 (.inl h0)];rfl)
 refine jA (λe=>h0 (AJW.1 e)) ?_;by_cases h16:16<s.size
 ·exact gK (by omega) (by rw[C8 (.inr (.inl h16))];rfl)
 refine jA (by omega) ?_;refine bP s.size (λk t=>t=((s,k),())/\∀ i b,i<k->s.data[i]? = some b->nameAt i b=true) ⟨rfl,by simp⟩ ?_;rintro X k t hk ⟨rfl,hno⟩ hX;simp only[dE];by_cases hlt:k<s.size
 ·refine gK hlt ?_;have hb:s.data[k]? = some (s[k]'hlt):=by
   rw[Array.getElem?_eq_getElem hlt];rfl
  refine ABM (Utf8.decode s k).1 ?_;refine U1 (Utf8.decode s k).1 ?_;dsimp only;have stop:nameAt k (s[k]'hlt)=false->pPR false=Sh.enc q_b (isName s):=λhn=>by rw[C8 (.inr (.inr ⟨k,_,hb,hn⟩))];rfl
  by_cases hasc:(s[k]'hlt).toNat<128
  ·have hd:=decode_ascii s k hlt hasc;have go:nameAt k (s[k]'hlt)=true->X ((s,k+(Utf8.decode s k).2),()):=λhn=>by
    rw[hd];exact hX _ hlt ⟨rfl,λi b' hi hb'=>by
     by_cases e:i=k
     ·subst e;rw[hb] at hb';cases hb';exact hn
     ·exact hno i b' (by omega) hb'⟩
   have e1:((Utf8.decode s k).1:Int)=((s[k]'hlt).toNat:Int):=by rw[hd]
   rw[e1];cases hl:sC ((s[k]'hlt).toNat:Int) with
   | true=>rw[Bool.not_true,o7];exact go (by simp[nameAt,hl])
   | false =>
    rw[Bool.not_false,jS];by_cases hk0:k=0
    ·exact gK (by omega) (stop (by subst hk0;rw[ABX];exact hl))
    ·refine jA (by omega) ?_;cases hf:(CR ((s[k]'hlt).toNat:Int)||decide (((s[k]'hlt).toNat:Int)=95)||decide (((s[k]'hlt).toNat:Int)=45)) with
     | true=>rw[Bool.not_true,o7];exact go (by unfold nameAt;rw[hl,hf];simp[hk0])
     | false=>rw[Bool.not_false,jS];exact stop (by unfold nameAt;rw[hl,hf];simp)
  ·obtain ⟨hd1,hd2⟩:=decode_high s k hlt (by omega);have hl:sC ((Utf8.decode s k).1:Int)=false:=by
    unfold sC;simp;omega
   have hf:(CR ((Utf8.decode s k).1:Int)||decide (((Utf8.decode s k).1:Int)=95)||decide (((Utf8.decode s k).1:Int)=45))=false:=by
    unfold CR;simp;omega
   have hn:nameAt k (s[k]'hlt)=false:=by
    unfold nameAt sC CR;simp;omega
   rw[hl,hf,Bool.not_false,jS];by_cases hk0:k=0
   ·exact gK (by omega) (stop hn)
   ·refine jA (by omega) ?_;rw[jS];exact stop hn
 ·refine jA hlt ?_;rw[APU h0 (by omega) (λi b h=>hno i b (by have:=(Array.getElem?_eq_some_iff.1 h).1;have:i<s.size:=this;omega) h)];rfl
noncomputable def A3J:Env:=Env.of [(85,.pure iM)]
def A4Z:FuncId->Hint:=cA 82 [(3,.inv [.val 3 false (.int .i64),.val 11 false (.int .i64)])] (λ_=>bA)
def AMP:aU Tryz.prog A3J:=.cons zZ (.nil _)
def T0(a0:List iII)(R:T->Prop):Prop:=bD (Int×Int×PUnit) (λX0 s1=>aC (decide (s1.2.1<(↑(IO a0).length:Int))) (aX Sy.str (IO a0) s1.2.1 λ(y2:iII)=>aJ d5 (iM [pPQ y2]) λ(y3:Bool)=>aC (!y3) (R d4) (X0 (i64.wrap (s1.1+(↑y2.size:Int)),i64.wrap (s1.2.1+1),()))) (aC (decide (1<=(↑(IO a0).length:Int))) (aC (decide ((↑(IO a0).length:Int)<=8)) (R (pPR (decide (s1.1<=64)))) (R d4)) (R d4))) (i64.wrap ((↑(IO a0).length:Int)-1),0,())
abbrev V9:Sh:=[(false,Sy.str.li)]
noncomputable def EF:List T->Option T:=gS V9 uT
def AGP {a0}:EF [T.sl false (List.map Sy.str.enc a0)]=uT (a0):=bJ (s:=V9) rfl (a0) rfl
def A0X:w5 Tryz.prog 82 EF uT (cJ V9) T0:=j5 (a1:=(false,Sy.str.li)) (sp:=uT) (F:=T0) (Hs:=A4Z) (f:=82) (k:=8) AMP aZ a7 (aO rfl) ⟨_,_,Tryz.func82,rfl⟩ rfl λ_ _=>by kernel_rfl
def DM:∀ (l:List iII) (x:iII),oX (l++[x])=oX l+x.size
 | [],x=>by simp[oX]
 | a::l,x=>by simp only[List.cons_append,oX,DM l x];omega
def PV:∀ (l:List iII) (k:Nat),oX (l.take k)<=oX l
 | [],k=>by simp
 | a::l,0=>by simp[oX]
 | a::l,k+1=>by simp only[List.take_succ_cons,oX];have:=PV l k;omega
def AXS:aP Tryz.prog 82 EF:=A0X λl r h hb=>by
 unfold uT at h;split at h
 ·rename_i hsz;simp only[ac,ah] at hsz;obtain ⟨hl65,hs64⟩:=hsz;cases h;unfold T0 IO d5 d4;refine bP l.length (λk t=>t=((l.length:Int)-1+oX (l.take k),(k:Int),())/\(l.take k).all isName=true) ⟨by
   simp only[List.take_zero,oX,ae,Prod.mk.injEq,and_true];rw[bH _ (by omega) (by omega)];simp,by simp⟩ ?_
  rintro X k t hk ⟨rfl,hall⟩ hX;dsimp only;by_cases hlt:k<l.length
  ·refine gK (by simp[hlt]) ?_;rw[bK (r:=.str) hlt];refine aG (s:=q_b) (y:=isName l[k]) xO ?_;have hsum:=PV l (k+1);have htake:l.take (k+1)=l.take k++[l[k]]:=List.take_succ_eq_append_getElem hlt;cases hn:isName l[k] with
   | false =>
    rw[Bool.not_false,jS];have:l.all isName=false:=by
     rw[Bool.eq_false_iff];intro ha;have:=List.all_eq_true.1 ha _ (ak hlt);rw[hn] at this;cases this
    rw[this];rfl
   | true =>
    rw[Bool.not_true,o7];rw[htake,DM] at hsum;refine hX _ hlt ⟨?_,by rw[htake,List.all_append,hall];simp[hn]⟩;rw[htake,DM];simp only[Prod.mk.injEq,and_true];exact ⟨by rw[bH _ (by omega) (by omega)];simp;omega,bH _ (by omega) (by omega)⟩
  ·have:k=l.length:=by omega
   subst this;rw[List.take_length] at hall;refine jA (by simp) ?_;rw[List.take_length,hall];by_cases h1:1<=l.length
   ·refine gK (by simp only[ae];omega) ?_;by_cases h2:l.length<=8
    ·refine gK (by simp only[ae];omega) ?_;rw[ai h1,ai h2];rfl
    ·refine jA (by simp only[ae];omega) ?_;rw[aj h2,Bool.and_false];rfl
   ·refine jA (by simp only[ae];omega) ?_;rw[aj h1];rfl
 ·cases h
noncomputable def BAJ:Env:=Env.of [(83,.pure x5),(82,.pure EF)]
def BAZ:FuncId->Hint:=λ_=>bA
def ATM:aU Tryz.prog BAJ:=.cons AO2 (.cons AXS (.nil _))
def AEW(a0:iII)(R:T->Prop):Prop:=aC (decide ((↑(ByteArray.size a0):Int)<=64)) (aJ eI (x5 [pPQ a0,pPQ ({data:=#[46]})]) λ(y0:List iII)=>aJ d5 (EF [T.sl false (IO y0)]) λ(y1:Bool)=>R (pPR y1)) (R d4)
abbrev AID:Sh:=[(false,Sy.str)]
abbrev V4:Sh:=[(false,Sy.bool)]
def ACL (y:Sh.den V4) (K:Sh.den V4->Prop):aJ V4 (some (Sh.enc V4 y)) K=K y:=zU rfl y K
noncomputable def eM:List T->Option T:=gS AID FI
def RY {a0}:eM [pPQ a0]=FI (a0):=bJ (s:=AID) rfl (a0) rfl
def A78:w5 Tryz.prog 64 eM FI (cJ AID) AEW:=j5 (a1:=(false,Sy.str)) (sp:=FI) (F:=AEW) (Hs:=BAZ) (f:=64) (k:=8) ATM aZ a7 (aO rfl) ⟨_,_,Tryz.func64,rfl⟩ rfl λ_ _=>by kernel_rfl
def D5:aP Tryz.prog 64 eM:=A78 λs r h hb=>by
 have h':some (Sh.enc q_b (pU s))=some r:=h;cases h';clear h;unfold AEW IO eI d5 d4 pU;by_cases h64:s.size<=64
 ·refine gK (by omega) ?_;have hsum:=ARG s;have hpos:=ARF s;refine aG (s:=BE1) (y:=eH s) ?_ ?_
  ·rw[show x5 [pPQ s,pPQ ({ data:=#[46] })]=zN (s,dot) from AA9];unfold zN;rw[show decide (s.size<4294967281)=true by simp;omega,show decide (1<=dot.size)=true from rfl];rfl
  ·refine aG (s:=q_b) (y:=(eH s).all isName&&(decide (1<=(eH s).length)&&decide ((eH s).length<=8)&&decide (A8X (eH s)<=64))) ?_ ?_
   ·rw[AGP];unfold uT;rw[show (decide ((eH s).length<=65)&&decide (oX (eH s)<=64))=true by simp;omega]
   ·have h1:decide (1<=(eH s).length)=true:=ai hpos;have h2:decide (A8X (eH s)<=64)=true:=ai (by unfold A8X;omega);have h3:decide (s.size<=64)=true:=ai h64;rw[h1,h2,h3];simp[Bool.and_comm,Sh.enc,aH,Sy.enc,hdT]
 ·refine jA (by omega) ?_;rw[aj h64];rfl
end Go.Pv
namespace Go.Pv
open Go Go.Proofs IntKind
def Seen (es:List (iII×Bool)) (S:iII->Prop):Prop:=(∀ id b,fF es id=some b->b=true)/\∀ id,fF es id=some true↔S id
def Seen.nil:Seen [] λ_=>False:=⟨λid b h=>(by cases h),λid=>⟨λh=>(by cases h),λh=>h.elim⟩⟩
variable {es:List (iII×Bool)}{S:iII->Prop}
def Seen.ins (h:Seen es S) (k:iII):Seen (nO es k true) λid=>S id\/k=id:=by
 refine ⟨λid b hb=>?_,λid=>?_⟩
 ·rw[x6] at hb;split at hb
  ·cases hb;rfl
  ·exact h.1 id b hb
 ·rw[x6];split
  ·rename_i e;exact ⟨λ_=>.inr e,λ_=>rfl⟩
  ·rename_i e;rw[h.2];exact ⟨.inl,λh=>h.resolve_right e⟩
def Seen.congr {S':iII->Prop} (h:Seen es S) (e:∀ id,S id↔S' id):Seen es S':=⟨h.1,λid=>(h.2 id).trans (e id)⟩
abbrev RS:=List (Value×T)×Nat×List Nat×Nat
variable {m:List (iII×Int)}
def AXH {seen:List Nat} {i:Nat} (hi:i<m.length) (K:iII->Int->Prop) (hk:K m[i].1 m[i].2):BI .str false (.int .i64) (rJ (bO m)) (seen++[i]) K :=
 ⟨i,m[i].1,m[i].2,by simp,by simp only[rJ,bO,List.map_map,List.getElem?_map,List.getElem?_eq_getElem hi];rfl,hk⟩
def A5W {R7 K:Prop} (hS:Seen es S) (hbad:(∃ i,∃ h:i<m.length,S m[i].1)->R7) (hgood:(∀ i (h:i<m.length),¬ S m[i].1)->K) :
  bD (RS×PUnit) (λ(X:RS×PUnit->Prop) (s:RS×PUnit)=>bQ (decide (s.1.1.length<=s.1.2.1)&&decide (s.1.2.1<=s.1.2.2.2)) (rY s.1.1.length s.1.2.2.1 K λ(i:Nat) =>
   bQ (decide (s.1.1.length=s.1.1.length)) (BI Sy.str false (Sy.int IntKind.i64) (rJ s.1.1) (s.1.2.2.1++[i]) λ(k:iII) (y:Int) =>
    gR TypeDesc.string (Value.string k) (List.map (bY Sy.str false Sy.bool) es) false Sy.bool (X ((s.1.1,s.1.2.1,s.1.2.2.1++[i],s.1.1.length),())) λ(j:Nat) (b:Bool) =>
     aC b R7 (X ((s.1.1,s.1.2.1,s.1.2.2.1++[i],s.1.1.length),()))))) ((bO m,(bO m).length,[],(bO m).length),()):=by
 have hml:(bO m).length=m.length:=by simp[bO]
 refine bP m.length (λk t=>∃ seen,t=((bO m,(bO m).length,seen,(bO m).length),())/\(cM m.length seen).length+k<=m.length/\∀ i (h:i<m.length),i∈seen->¬ S m[i].1) ⟨[],rfl,by rw[yZ];omega,by simp⟩ ?_;rintro X k t hk ⟨seen,rfl,hlen,hJ⟩ hX;dsimp only;refine ⟨by simp,?_,?_⟩
 ·intro hm;rw[hml] at hm;refine hgood λi hi=>hJ i hi ?_;refine Classical.byContradiction λhc=>?_;have:i∈cM m.length seen:=mL.2 ⟨hi,hc⟩;rw[hm] at this;cases this
 ·intro i hi;rw[hml] at hi;have hi1:=(mL.1 hi).1;have hst:=vR hi;refine ⟨by simp,AXH hi1 _ ?_⟩;have go:¬ S m[i].1->X ((bO m,(bO m).length,seen++[i],(bO m).length),()):=λhn=>hX _ (by omega) ⟨_,rfl,by omega,λj hj hm=>by
   rcases List.mem_append.1 hm with h|h
   ·exact hJ j hj h
   ·simp at h;subst h;exact hn⟩
  refine vB (r:=.bool) (λhno=>go λh=>?_) λj b hb=>?_
  ·have:=(hS.2 m[i].1).2 h;rw[hno] at this;cases this
  ·have:=hS.1 _ _ hb;subst this;rw[jS];exact hbad ⟨i,hi1,(hS.2 _).1 hb⟩
def A5I {K:List (iII×Bool)×RS×PUnit->Prop} (hS:Seen es S) (hgood:∀ es' rs,Seen es' (λid=>S id\/∃ i,∃ h:i<m.length,m[i].1=id)->K (es',rs,())) :
  cO Sy.str false Sy.bool (List.map (bY Sy.str false Sy.bool) es) λ(y:List (iII×Bool)) =>
  bD (List (iII×Bool)×RS×PUnit) (λ(X:List (iII×Bool)×RS×PUnit->Prop) (s:List (iII×Bool)×RS×PUnit)=>bQ (decide (s.2.1.1.length<=s.2.1.2.1)&&decide (s.2.1.2.1<=s.2.1.2.2.2)) (rY s.2.1.1.length s.2.1.2.2.1 (K s) λ(i:Nat) =>
   bQ (decide (s.2.1.1.length=s.2.1.1.length)) (BI Sy.str false (Sy.int IntKind.i64) (rJ s.2.1.1) (s.2.1.2.2.1++[i]) λ(k:iII) (y:Int) =>
    eE (Option (Nat×D)) (findD TypeDesc.string (N4 Sy.str k) (List.map (bY Sy.str false Sy.bool) s.1) 0) λ(y37:Option (Nat×D)) =>
     cO Sy.str false Sy.bool (dZ (List.map (bY Sy.str false Sy.bool) s.1) y37 (Value.string k) (D.p (T.v (.bool true)))) λ(y38:List (iII×Bool)) =>
      X (y38,(s.2.1.1,s.2.1.2.1,s.2.1.2.2.1++[i],s.2.1.1.length),())))) (y,(bO m,(bO m).length,[],(bO m).length),()):=by
 have hml:(bO m).length=m.length:=by simp[bO]
 refine jY (r:=.bool) rfl es _ ?_;refine bP m.length (λk t=>∃ seen es',t=(es',(bO m,(bO m).length,seen,(bO m).length),())/\(cM m.length seen).length+k<=m.length/\Seen es' (λid=>S id\/∃ i,∃ h:i<m.length,i∈seen/\m[i].1=id)) ⟨[],es,rfl,by rw[yZ];omega,hS.congr (by simp)⟩ ?_;rintro X k t hk ⟨seen,es',rfl,hlen,hJ⟩ hX;dsimp only;refine ⟨by simp,?_,?_⟩
 ·intro hm;rw[hml] at hm;refine hgood _ _ (hJ.congr λid=>⟨λh=>h.imp_right λ⟨i,hi,_,e⟩=>⟨i,hi,e⟩,λh=>h.imp_right λ⟨i,hi,e⟩=>⟨i,hi,?_,e⟩⟩);refine Classical.byContradiction λhc=>?_;have:i∈cM m.length seen:=mL.2 ⟨hi,hc⟩;rw[hm] at this;cases this
 ·intro i hi;rw[hml] at hi;have hi1:=(mL.1 hi).1;have hst:=vR hi;refine ⟨by simp,AXH hi1 _ ?_⟩;refine AKG (r:=.bool) rfl (es:=es') (k:=m[i].1) (v:=true) (hX _ (by omega) ⟨seen++[i],_,rfl,by omega,(hJ.ins _).congr λid=>⟨?_,?_⟩⟩)
  ·rintro ((h|⟨j,hj,hm,e⟩)|h)
   ·exact .inl h
   ·exact .inr ⟨j,hj,by simp[hm],e⟩
   ·exact .inr ⟨i,hi1,by simp,h⟩
  ·rintro (h|⟨j,hj,hm,e⟩)
   ·exact .inl (.inl h)
   ·rcases List.mem_append.1 hm with hm|hm
    ·exact .inl (.inr ⟨j,hj,hm,e⟩)
    ·simp at hm;subst hm;exact .inr e
def ltN (a b:bE):Bool:=decide (a.1<b.1)||(decide (a.1=b.1)&&(cR a.2.1 b.2.1||(decide (a.2.1=b.2.1)&&cR a.2.2 b.2.2)))
def MI:List bE->Bool
 | a::b::l=>ltN a b&&MI (b::l)
 | _=>true
def ANO {l:List bE} {k:Nat} (h:k+1<l.length):MI (l.drop k)=(ltN l[k] l[k+1]&&MI (l.drop (k+1))):=by
 rw[List.drop_eq_getElem_cons (show k<l.length by omega),List.drop_eq_getElem_cons h,MI]
def AWH {l:List bE} {k:Nat} (h:l.length<=k+1):MI (l.drop k)=true:=by
 rcases Nat.lt_or_ge k l.length with h1|h1
 ·rw[List.drop_eq_getElem_cons h1,List.drop_eq_nil_of_le h];rfl
 ·rw[List.drop_eq_nil_of_le h1];rfl
def SM (k:iII) (v:Int) (id:iII):∀ es:List (iII×Int),id∈(nO es k v).map (λe=>e.1)↔id∈es.map (λe=>e.1)\/id=k
 | []=>by simp[nO]
 | e::es=>by
  simp only[nO];split
  ·rename_i h;simp only[List.map_cons,List.mem_cons];rw[<-h];constructor
   ·rintro (h|h)
    ·exact .inl (.inl h)
    ·exact .inl (.inr h)
   ·rintro ((h|h)|h)
    ·exact .inl h
    ·exact .inr h
    ·exact .inl h
  ·simp only[List.map_cons,List.mem_cons,SM k v id es,or_assoc]
def SO (id:iII):∀ (l:List iII) (i:Nat) (es:List (iII×Int)),id∈(HB l i es).map (λe=>e.1)↔id∈es.map (λe=>e.1)\/id∈l
 | [],i,es=>by simp[HB]
 | a::l,i,es=>by
  simp only[HB];rw[SO id l];cases h:fF es a with
  | none=>simp only[SM,List.mem_cons,or_assoc]
  | some v =>
   simp only[List.mem_cons];have ha:a∈es.map (λe=>e.1):=by
    rcases q8 a es with ⟨h1,_⟩|⟨j,hj,h1,_⟩
    ·rw[h] at h1;cases h1
    ·exact List.mem_map.2 ⟨es[j],ak hj,h1⟩
   constructor
   ·rintro (h|h)
    ·exact .inl h
    ·exact .inr (.inr h)
   ·rintro (h|rfl|h)
    ·exact .inl h
    ·exact .inl ha
    ·exact .inr h
def lH {l:List iII} {id:iII}:(∃ i,∃ h:i<(iV l).length,(iV l)[i].1=id)↔id∈l:=by
 have h:=SO id l 0 [];simp only[List.map_nil,List.not_mem_nil,false_or] at h;rw[<-h,List.mem_map];constructor
 ·rintro ⟨i,hi,e⟩;exact ⟨_,ak hi,e⟩
 ·rintro ⟨e,he,h⟩;obtain ⟨i,hi,rfl⟩:=List.mem_iff_getElem.1 he;exact ⟨i,hi,h⟩
def CF (a0:aB) (m1:List aE) (m2:List aE) (m3:List aE) (m4:List aE):List T:=[PX a0 m1 m2 m3 m4]
noncomputable def ADK:Env:=Env.of [(123,.pure wR)]
def AVK:FuncId->Hint:=λf=>match f == 87 with|true=>⟨λr=>match r == 9 with|true=>.inv [.val 4 false .bool,.val 5 false (.int .i64)]|false=>match r == 17 with|true=>.PZ 5|false=>match r == 20 with|true=>.alts [[.cB 30],[.cB 29],[.cB 28],[.cB 27],[.cB 26],[.cB 25],[.cB 24],[.cB 23],[.cB 22],[.cB 21],[.cB 20],[.cB 19],[.cB 18],[.cB 17],[.cB 16],[.cB 15],[.cB 14],[.cB 13],[.cB 12],[.cB 11],[.cB 10],[.cB 9],[.cB 8],[.cB 7],[.cB 6],[.cB 5],[.cB 4],[.cB 3],[.cB 2]]|false=>match r == 25 with|true=>.alts [[.map 2 .str false .bool,.cB 30],[.map 2 .str false .bool,.cB 29],[.map 2 .str false .bool,.cB 28],[.map 2 .str false .bool,.cB 27],[.map 2 .str false .bool,.cB 26],[.map 2 .str false .bool,.cB 25],[.map 2 .str false .bool,.cB 24],[.map 2 .str false .bool,.cB 23],[.map 2 .str false .bool,.cB 22],[.map 2 .str false .bool,.cB 21],[.map 2 .str false .bool,.cB 20],[.map 2 .str false .bool,.cB 19],[.map 2 .str false .bool,.cB 18],[.map 2 .str false .bool,.cB 17],[.map 2 .str false .bool,.cB 16],[.map 2 .str false .bool,.cB 15],[.map 2 .str false .bool,.cB 14],[.map 2 .str false .bool,.cB 13],[.map 2 .str false .bool,.cB 12],[.map 2 .str false .bool,.cB 11],[.map 2 .str false .bool,.cB 10],[.map 2 .str false .bool,.cB 9],[.map 2 .str false .bool,.cB 8],[.map 2 .str false .bool,.cB 7],[.map 2 .str false .bool,.cB 6],[.map 2 .str false .bool,.cB 5],[.map 2 .str false .bool,.cB 4],[.map 2 .str false .bool,.cB 3],[.map 2 .str false .bool,.cB 2]]|false=>.none,λi j=>match i == 5&&j == 5 with|true=>some [.val 4 false .bool]|false=>match i == 6&&j == 6 with|true=>some [.val 4 false .bool]|false=>match i == 7&&j == 7 with|true=>some [.val 4 false .bool]|false=>none,λr=>match r == 21 with|true=>some (.str,false,(.int .i64))|false=>match r == 26 with|true=>some (.str,false,(.int .i64))|false=>none⟩|false=>bA
def ATL:aU Tryz.prog ADK:=.cons A9U (.nil _)
def f7(a0:aB):List T:=[pPQ a0.1, T.sl false (t7 a0), T.sl false (H1 a0), T.sl false (t6 a0), T.sl false (m7 a0), T.sl false (GE a0)]
def i6(a0:aB):List T:=[pPQ a0.1,T.sl false (t7 a0), T.sl false (H1 a0), T.sl false (t6 a0), T.sl false (m7 a0), T.sl false (GE a0)]
def AEU(a0:aB)(m1:List aE)(m2:List aE)(m3:List aE)(m4:List aE)(R:T->Prop):Prop:=aC (decide (64<(↑(t7 a0).length:Int))) (R (pPP 4)) (aC (decide (256<(↑(H1 a0).length:Int))) (R (pPP 4)) (aC (decide (256<(↑(t6 a0).length:Int))) (R (pPP 4)) (aC (decide (64<(↑(m7 a0).length:Int))) (R (pPP 4)) (aC (decide (256<(↑(GE a0).length:Int))) (R (pPP 4)) (aJ d5 (wR [pPP (↑(t7 a0).length:Int), T.fn 124 [] [T.ref [T.ref (i6 a0)]]]) λ(y0:Bool)=>sB (Bool×PUnit) (λ(X1:Bool×PUnit->Prop)=>aC y0 (aJ d5 (wR [pPP (↑(H1 a0).length:Int), T.fn 125 [] [T.ref [T.ref (f7 a0)]]]) λ(y2:Bool)=>X1 (y2,())) (X1 (false,()))) λ(s3:Bool×PUnit)=>sB (Bool×PUnit) (λ(X4:Bool×PUnit->Prop)=>aC s3.1 (aJ d5 (wR [pPP (↑(t6 a0).length:Int), T.fn 126 [] [T.ref [T.ref (f7 a0)]]]) λ(y5:Bool)=>X4 (y5,())) (X4 (false,()))) λ(s6:Bool×PUnit)=>sB (Bool×PUnit) (λ(X7:Bool×PUnit->Prop)=>aC s6.1 (aJ d5 (wR [pPP (↑(m7 a0).length:Int), T.fn 127 [] [T.ref [T.ref (f7 a0)]]]) λ(y8:Bool)=>X7 (y8,())) (X7 (false,()))) λ(s9:Bool×PUnit)=>bD (Bool×Int×PUnit) (λX10 s11=>aC (decide (s11.2.1<(↑(GE a0).length:Int))) (aX aY (GE a0) (i64.wrap (s11.2.1-1)) λ(y12:bE)=>aX aY (GE a0) s11.2.1 λ(y13:bE)=>aC s11.1 (aC (decide (y12.1<y13.1)) (X10 (true,i64.wrap (s11.2.1+1),())) (aC (decide (y12.1=y13.1)) (aC (cR y12.2.1 y13.2.1) (X10 (true,i64.wrap (s11.2.1+1),())) (aC (decide (y12.2.1=y13.2.1)) (X10 (cR y12.2.2 y13.2.2,i64.wrap (s11.2.1+1), ())) (X10 (false,i64.wrap (s11.2.1+1),())))) (X10 (false,i64.wrap (s11.2.1+1),())))) (X10 (false,i64.wrap (s11.2.1+1),()))) (aC (!s11.1) (R (pPP 11)) (bD ((List (Value×T)×Nat×List Nat×Nat)×PUnit) (λ(X14:(List (Value×T)×Nat×List Nat×Nat)×PUnit->Prop) (s15:(List (Value×T)×Nat×List Nat×Nat)×PUnit)=>bQ (decide (s15.1.1.length<=s15.1.2.1) && decide (s15.1.2.1<=s15.1.2.2.2)) (rY s15.1.1.length s15.1.2.2.1 (cO Sy.str false Sy.bool [] λ(y16:List (iII×Bool))=>bD (List (iII×Bool) × (List (Value×T)×Nat×List Nat×Nat)×PUnit) (λ(X17 : List (iII×Bool) × (List (Value×T)×Nat×List Nat×Nat)×PUnit -> Prop) (s18 : List (iII×Bool) × (List (Value×T)×Nat×List Nat×Nat)×PUnit)=>bQ (decide (s18.2.1.1.length<=s18.2.1.2.1) && decide (s18.2.1.2.1<=s18.2.1.2.2.2)) (rY s18.2.1.1.length s18.2.1.2.2.1 (bD ((List (Value×T)×Nat×List Nat×Nat)×PUnit) (λ(X19 : (List (Value×T)×Nat×List Nat×Nat)×PUnit->Prop) (nL:(List (Value×T)×Nat×List Nat×Nat)×PUnit)=>bQ (decide (nL.1.1.length<=nL.1.2.1) && decide (nL.1.2.1<=nL.1.2.2.2)) (rY nL.1.1.length nL.1.2.2.1 (cO Sy.str false Sy.bool (List.map (bY Sy.str false Sy.bool) s18.1) λ(y21:List (iII×Bool))=>bD (List (iII×Bool) × (List (Value×T)×Nat×List Nat×Nat)×PUnit) (λ(X22 : List (iII×Bool) × (List (Value×T)×Nat×List Nat×Nat) × PUnit -> Prop) (s23 : List (iII×Bool) × (List (Value×T)×Nat×List Nat×Nat) × PUnit)=>bQ (decide (s23.2.1.1.length<=s23.2.1.2.1) && decide (s23.2.1.2.1<=s23.2.1.2.2.2)) (rY s23.2.1.1.length s23.2.1.2.2.1 (bD ((List (Value×T)×Nat×List Nat×Nat) × PUnit) (λ(X24 : (List (Value×T) × Nat×List Nat×Nat) × PUnit -> Prop) (s25 : (List (Value×T) × Nat×List Nat×Nat) × PUnit)=>bQ (decide (s25.1.1.length<=s25.1.2.1) && decide (s25.1.2.1<=s25.1.2.2.2)) (rY s25.1.1.length s25.1.2.2.1 (cO Sy.str false Sy.bool (List.map (bY Sy.str false Sy.bool) s23.1) λ(y26:List (iII×Bool))=>bD (List (iII×Bool) × (List (Value×T) × Nat×List Nat×Nat) × PUnit) (λ(X27 : List (iII×Bool) × (List (Value×T) × Nat×List Nat×Nat) × PUnit -> Prop) (s28 : List (iII×Bool) × (List (Value×T) × Nat×List Nat×Nat) × PUnit)=>bQ (decide (s28.2.1.1.length <= s28.2.1.2.1) && decide (s28.2.1.2.1 <= s28.2.1.2.2.2)) (rY s28.2.1.1.length s28.2.1.2.2.1 (bD ((List (Value×T) × Nat×List Nat×Nat) × PUnit) (λ(X29 : (List (Value×T) × Nat×List Nat×Nat) × PUnit -> Prop) (s30 : (List (Value×T) × Nat×List Nat×Nat) × PUnit)=>bQ (decide (s30.1.1.length <= s30.1.2.1) && decide (s30.1.2.1 <= s30.1.2.2.2)) (rY s30.1.1.length s30.1.2.2.1 (cO Sy.str false Sy.bool (List.map (bY Sy.str false Sy.bool) s28.1) λ(y31 : List (iII×Bool))=>bD (List (iII×Bool) × (List (Value × T) × Nat × List Nat×Nat) × PUnit) (λ(X32 : List (iII × Bool) × (List (Value × T) × Nat × List Nat × Nat) × PUnit -> Prop) (s33 : List (iII × Bool) × (List (Value × T) × Nat × List Nat × Nat) × PUnit)=>bQ (decide (s33.2.1.1.length <= s33.2.1.2.1) && decide (s33.2.1.2.1 <= s33.2.1.2.2.2)) (rY s33.2.1.1.length s33.2.1.2.2.1 (R (pPP 0)) λ(i34:Nat)=>bQ (decide (s33.2.1.1.length = s33.2.1.1.length)) (BI Sy.str false bF (rJ s33.2.1.1) (s33.2.1.2.2.1 ++ [i34]) λ(k35 : iII) (y36:Int)=>eE (Option (Nat × D)) (findD TypeDesc.string (N4 Sy.str k35) (List.map (bY Sy.str false Sy.bool) s33.1) 0) λ(y37 : Option (Nat × D))=>cO Sy.str false Sy.bool (dZ (List.map (bY Sy.str false Sy.bool) s33.1) y37 (Value.string k35) (D.p d7)) λ(y38 : List (iII × Bool))=>X32 (y38, (s33.2.1.1, s33.2.1.2.1, s33.2.1.2.2.1 ++ [i34], s33.2.1.1.length), ())))) (y31, (bO m4, (bO m4).length, [], (bO m4).length), ())) λ(i39:Nat)=>bQ (decide (s30.1.1.length = s30.1.1.length)) (BI Sy.str false bF (rJ s30.1.1) (s30.1.2.2.1 ++ [i39]) λ(k40:iII) (y41:Int)=>gR TypeDesc.string (Value.string k40) (List.map (bY Sy.str false Sy.bool) s28.1) false Sy.bool (X29 ((s30.1.1, s30.1.2.1, s30.1.2.2.1 ++ [i39], s30.1.1.length), ())) λ(i42:Nat) (y43:Bool)=>aC y43 (R (pPP 7)) (X29 ((s30.1.1, s30.1.2.1, s30.1.2.2.1 ++ [i39], s30.1.1.length), ()))))) ((bO m4, (bO m4).length,[], (bO m4).length), ())) λ(i44:Nat)=>bQ (decide (s28.2.1.1.length = s28.2.1.1.length)) (BI Sy.str false bF (rJ s28.2.1.1) (s28.2.1.2.2.1++[i44]) λ(k45:iII) (y46:Int)=>eE (Option (Nat×D)) (findD TypeDesc.string (N4 Sy.str k45) (List.map (bY Sy.str false Sy.bool) s28.1) 0) λ(y47 : Option (Nat×D))=>cO Sy.str false Sy.bool (dZ (List.map (bY Sy.str false Sy.bool) s28.1) y47 (Value.string k45) (D.p d7)) λ(y48 : List (iII×Bool))=>X27 (y48, (s28.2.1.1, s28.2.1.2.1, s28.2.1.2.2.1 ++ [i44], s28.2.1.1.length), ())))) (y26, (bO m3,(bO m3).length,[], (bO m3).length), ())) λ(i49:Nat)=>bQ (decide (s25.1.1.length=s25.1.1.length)) (BI Sy.str false bF (rJ s25.1.1) (s25.1.2.2.1++[i49]) λ(k50:iII) (y51:Int)=>gR TypeDesc.string (Value.string k50) (List.map (bY Sy.str false Sy.bool) s23.1) false Sy.bool (X24 ((s25.1.1,s25.1.2.1, s25.1.2.2.1++[i49], s25.1.1.length), ())) λ(i52:Nat) (y53:Bool)=>aC y53 (R (pPP 7)) (X24 ((s25.1.1,s25.1.2.1, s25.1.2.2.1++[i49], s25.1.1.length), ()))))) ((bO m3,(bO m3).length,[], (bO m3).length), ())) λ(i54:Nat)=>bQ (decide (s23.2.1.1.length=s23.2.1.1.length)) (BI Sy.str false bF (rJ s23.2.1.1) (s23.2.1.2.2.1++[i54]) λ(k55:iII) (y56:Int)=>eE (Option (Nat×D)) (findD TypeDesc.string (N4 Sy.str k55) (List.map (bY Sy.str false Sy.bool) s23.1) 0) λ(y57:Option (Nat×D))=>cO Sy.str false Sy.bool (dZ (List.map (bY Sy.str false Sy.bool) s23.1) y57 (Value.string k55) (D.p d7)) λ(y58:List (iII×Bool))=>X22 (y58, (s23.2.1.1,s23.2.1.2.1, s23.2.1.2.2.1++[i54], s23.2.1.1.length), ())))) (y21, (bO m2,(bO m2).length,[], (bO m2).length), ())) λ(i59:Nat)=>bQ (decide (nL.1.1.length=nL.1.1.length)) (BI Sy.str false bF (rJ nL.1.1) (nL.1.2.2.1++[i59]) λ(k60:iII) (y61:Int)=>gR TypeDesc.string (Value.string k60) (List.map (bY Sy.str false Sy.bool) s18.1) false Sy.bool (X19 ((nL.1.1,nL.1.2.1, nL.1.2.2.1++[i59],nL.1.1.length), ())) λ(i62:Nat) (y63:Bool)=>aC y63 (R (pPP 7)) (X19 ((nL.1.1,nL.1.2.1, nL.1.2.2.1++[i59],nL.1.1.length), ()))))) ((bO m2,(bO m2).length,[],(bO m2).length),())) λ(i64:Nat)=>bQ (decide (s18.2.1.1.length=s18.2.1.1.length)) (BI Sy.str false bF (rJ s18.2.1.1) (s18.2.1.2.2.1++[i64]) λ(k65:iII) (y66:Int)=>eE (Option (Nat×D)) (findD TypeDesc.string (N4 Sy.str k65) (List.map (bY Sy.str false Sy.bool) s18.1) 0) λ(y67:Option (Nat×D))=>cO Sy.str false Sy.bool (dZ (List.map (bY Sy.str false Sy.bool) s18.1) y67 (Value.string k65) (D.p d7)) λ(y68:List (iII×Bool))=>X17 (y68, (s18.2.1.1,s18.2.1.2.1, s18.2.1.2.2.1++[i64],s18.2.1.1.length), ())))) (y16,(bO m1,(bO m1).length,[],(bO m1).length),())) λ(i69:Nat)=>bQ (decide (s15.1.1.length=s15.1.1.length)) (BI Sy.str false bF (rJ s15.1.1) (s15.1.2.2.1++[i69]) λ(k70:iII) (y71:Int)=>gR TypeDesc.string (Value.string k70) [] false Sy.bool (X14 ((s15.1.1,s15.1.2.1,s15.1.2.2.1++[i69], s15.1.1.length), ())) λ(i72:Nat) (y73:Bool)=>aC y73 (R (pPP 7)) (X14 ((s15.1.1,s15.1.2.1,s15.1.2.2.1++[i69], s15.1.1.length), ()))))) ((bO m1,(bO m1).length,[],(bO m1).length),())))) (s9.1,1,()))))))
def AM5 ( a0 m1 m2 m3 m4 R):eJ b8 Tryz.prog ADK AVK 8 87 (CF a0 m1 m2 m3 m4) R=AEU a0 m1 m2 m3 m4 R:=by kernel_rfl
abbrev MP:=List (iII×Int)
def D0 {a b:MP} (h:bO a=bO b):a=b:=map_inj (λx y h=>by
 simp only[Prod.mk.injEq,Value.string.injEq,T.v.injEq,Value.int.injEq,true_and] at h;exact Prod.ext h.1 h.2) h
def rG {x y:aB×MP×MP×MP×MP} (h:PX x.1 x.2.1 x.2.2.1 x.2.2.2.1 x.2.2.2.2=PX y.1 y.2.1 y.2.2.1 y.2.2.2.1 y.2.2.2.2):x=y:=by
 simp only[PX,T.ref.injEq,List.cons.injEq,T.mp.injEq,and_true] at h;obtain ⟨h0,h1,h2,h3,h4⟩:=h;exact Prod.ext (Sy.dM aD _ _ h0) (Prod.ext (D0 h1) (Prod.ext (D0 h2) (Prod.ext (D0 h3) (D0 h4))))
def ADC (x y:aB×MP×MP×MP×MP) (h:CF x.1 x.2.1 x.2.2.1 x.2.2.2.1 x.2.2.2.2=CF y.1 y.2.1 y.2.2.1 y.2.2.2.1 y.2.2.2.2):x=y:=rG (List.cons.inj h).1
def nK (d:aB):Bool:=decide (64<d.2.1.length)||decide (256<d.2.2.1.length)||decide (256<d.2.2.2.1.length)||decide (64<d.2.2.2.2.1.length)||decide (256<d.2.2.2.2.2.length)
def iK (d:aB):Bool:=pB (ids d.2.1)&&pB (ids d.2.2.1)&&pB (ids d.2.2.2.1)&&pB (ids d.2.2.2.2.1)&&MI d.2.2.2.2.2
def BBF (l1 l2 l3 l4:List iII):Bool:=(l2.any (VQ l1))||(l3.any λx=>VQ l1 x||VQ l2 x)||(l4.any λx=>VQ l1 x||VQ l2 x||VQ l3 x)
def AN3 (d:aB):Bool:=BBF (ids d.2.1) (ids d.2.2.1) (ids d.2.2.2.1) (ids d.2.2.2.2.1)
def oL (d:aB):Int:=if nK d=true then 4 else if iK d=false then 11 else if AN3 d=true then 7 else 0
def BEZ (x:aB×MP×MP×MP×MP):Bool:=decide (x.2.1=iV (ids x.1.2.1))&&decide (x.2.2.1=iV (ids x.1.2.2.1))&&decide (x.2.2.2.1=iV (ids x.1.2.2.2.1))&&decide (x.2.2.2.2=iV (ids x.1.2.2.2.2.1)) &&
 (decide (x.1.2.1.length<=140737488355328)&&decide (x.1.2.2.1.length<=140737488355328)&&decide (x.1.2.2.2.1.length<=140737488355328)&&decide (x.1.2.2.2.2.1.length<=140737488355328)&&decide (x.1.2.2.2.2.2.length<=140737488355328))
structure nS (d:aB):Prop where
 n:d.2.1.length<=140737488355328
 p:d.2.2.1.length<=140737488355328
 s:d.2.2.2.1.length<=140737488355328
 k:d.2.2.2.2.1.length<=140737488355328
 r:d.2.2.2.2.2.length<=140737488355328
def OK {x:aB×MP×MP×MP×MP}:BEZ x=true↔x=(x.1,iV (ids x.1.2.1),iV (ids x.1.2.2.1),iV (ids x.1.2.2.2.1),iV (ids x.1.2.2.2.2.1))/\nS x.1:=by
 obtain ⟨d,a,b,c,e⟩:=x;simp only[BEZ,ac,ah,Prod.mk.injEq,true_and];constructor
 ·rintro ⟨⟨⟨⟨rfl,rfl⟩,rfl⟩,rfl⟩,⟨⟨⟨h1,h2⟩,h3⟩,h4⟩,h5⟩;exact ⟨⟨rfl,rfl,rfl,rfl⟩,h1,h2,h3,h4,h5⟩
 ·rintro ⟨⟨rfl,rfl,rfl,rfl⟩,h1,h2,h3,h4,h5⟩;exact ⟨⟨⟨⟨rfl,rfl⟩,rfl⟩,rfl⟩,⟨⟨⟨h1,h2⟩,h3⟩,h4⟩,h5⟩
def wM (x:aB×MP×MP×MP×MP) (t:T):Option T:=match BEZ x with
 | true=>some t
 | false=>none
def oT {x:aB×MP×MP×MP×MP} {t r:T} (h:wM x t=some r):x=(x.1,iV (ids x.1.2.1),iV (ids x.1.2.2.1),iV (ids x.1.2.2.2.1),iV (ids x.1.2.2.2.2.1))/\nS x.1/\r=t:=by
 unfold wM at h;split at h
 ·rename_i hc;cases h;exact ⟨(OK.1 hc).1,(OK.1 hc).2,rfl⟩
 ·cases h
def oU {d:aB} (h:nS d) (t:T):wM (d,iV (ids d.2.1),iV (ids d.2.2.1),iV (ids d.2.2.2.1),iV (ids d.2.2.2.2.1)) t=some t:=by
 unfold wM;rw[OK.2 ⟨rfl,h⟩]
def WU (x:aB×MP×MP×MP×MP):Option T:=wM x (T.v (Value.int .i64 (oL x.1)))
noncomputable def NY:List T->Option (T):=gA (λ(x:aB×List aE×List aE×List aE×List aE)=>CF x.1 x.2.1 x.2.2.1 x.2.2.2.1 x.2.2.2.2) WU
def API (a0:aB) (m1:List aE) (m2:List aE) (m3:List aE) (m4:List aE):NY (CF a0 m1 m2 m3 m4)=WU (a0,m1,m2,m3,m4):=fP (A:=(λ(x:aB×List aE×List aE×List aE×List aE)=>CF x.1 x.2.1 x.2.2.1 x.2.2.2.1 x.2.2.2.2)) ADC (a0,m1,m2,m3,m4)
def A77 (h:∀ (a0:aB) (m1:List aE) (m2:List aE) (m3:List aE) (m4:List aE) (r:T),WU (a0,m1,m2,m3,m4)=some r->(∀ t∈CF a0 m1 m2 m3 m4,Bd t)->AEU a0 m1 m2 m3 m4 (λy=>y=r)):aP Tryz.prog 87 NY :=
 cU (E:=ADK) (Hs:=AVK) ATL aZ a7 (aO rfl) 8 ⟨_,_,Tryz.func87,rfl⟩ λx r h1 h2=>by
  rw[AM5];exact h x.1 x.2.1 x.2.2.1 x.2.2.2.1 x.2.2.2.2 r h1 h2
def KE {A:List T} {b:Bool} (h:wR A=some (pPR b)) (K:Bool->Prop) (hk:K b):aJ [(false,Sy.bool)] (wR A) K:=aG (s:=[(false,Sy.bool)]) (y:=b) h hk
def A6O:aP Tryz.prog 87 NY:=A77 λd m1 m2 m3 m4 r h hb=>by
 obtain ⟨hx,hs,rfl⟩:=oT h;simp only[Prod.mk.injEq,true_and] at hx;obtain ⟨rfl,rfl,rfl,rfl⟩:=hx;clear h;have is:∀ {n:Int},oL d=n->T.v (.int .i64 n)=T.v (.int .i64 (oL d)):=λh=>by rw[h]
 have long:nK d=true->oL d=4:=λh=>by unfold oL;rw[if_pos h]
 unfold AEU i6 f7 H1 GE t7 t6 m7 d7 d5 bF;refine cC (λh=>is (long (by rw[ae] at h;simp only[nK,Bool.or_eq_true,ah];omega))) λl1=>?_;refine cC (λh=>is (long (by rw[ae] at h;simp only[nK,Bool.or_eq_true,ah];omega))) λl2=>?_;refine cC (λh=>is (long (by rw[ae] at h;simp only[nK,Bool.or_eq_true,ah];omega))) λl3=>?_;refine cC (λh=>is (long (by rw[ae] at h;simp only[nK,Bool.or_eq_true,ah];omega))) λl4=>?_;refine cC (λh=>is (long (by rw[ae] at h;simp only[nK,Bool.or_eq_true,ah];omega))) λl5=>?_;rw[ae] at l1 l2 l3 l4 l5;have notLong:nK d=false:=by simp only[nK,Bool.or_eq_false_iff,decide_eq_false_iff_not];omega
 refine KE (by rw[ae];exact BC1 hs.n) _ ?_;have step:∀ {b c:Bool} {A:List T} {Z:Bool×PUnit->Prop},wR A=some (T.v (.bool c))->Z (b&&c,())->sB (Bool×PUnit) (λ(X:Bool×PUnit->Prop)=>aC b (aJ [(false,Sy.bool)] (wR A) λ(y2:Bool)=>X (y2,())) (X (false,()))) Z:=λ{b c A Z} hA hZ=>by
  rw[AI];cases b with
  | true=>rw[jS];exact KE hA _ hZ
  | false=>rw[o7];exact hZ
 refine step (by rw[ae];exact BC2 hs.p) ?_;refine step (by rw[ae];exact BC3 hs.s) ?_;refine step (by rw[ae];exact BC4 hs.k) ?_;refine bP d.2.2.2.2.2.length (λk s=>∃ b,s=(b,((k+1:Nat):Int),())/\(b&&MI (d.2.2.2.2.2.drop k))=iK d) ⟨_,rfl,by rw[List.drop_zero];rfl⟩ ?_;rintro X k s hk ⟨b,rfl,he⟩ hX;dsimp only;have hr:=hs.r;have hw:i64.wrap (((k+1:Nat):Int)+1)=((k+1+1:Nat):Int):=bH _ (by omega) (by omega);have hw1:i64.wrap (((k+1:Nat):Int)-1)=((k:Nat):Int):=by rw[bH _ (by omega) (by omega)];omega
 refine cC (λhlt=>?_) λhge=>?_
 ·have hlt:k+1<d.2.2.2.2.2.length:=by rw[ae] at hlt;omega
  rw[hw1,bK (r:=aY) (show k<d.2.2.2.2.2.length by omega),bK (r:=aY) hlt,hw];rw[ANO hlt] at he;have go:∀ c,(b&&ltN d.2.2.2.2.2[k] d.2.2.2.2.2[k+1])=c->X (c,((k+1+1:Nat):Int),()):=λc hc=>hX _ (by omega) ⟨c,rfl,by rw[<-hc,Bool.and_assoc];exact he⟩;generalize d.2.2.2.2.2[k]=u at go;generalize d.2.2.2.2.2[k+1]=v at go;cases b with
  | false=>rw[o7];exact go _ rfl
  | true =>
   rw[jS];simp only[Bool.true_and,ltN] at go;refine cC (λh=>go _ (by simp[h])) λh1=>?_;refine cC (λh2=>?_) λh2=>go _ (by simp[h1,h2]);refine wU (λh3=>go _ (by simp[h2,h3])) λh3=>?_;refine cC (λh4=>go _ (by rw[aj h1,ai h2,h3,ai h4];rfl)) λh4=>go _ (by rw[aj h1,ai h2,h3,aj h4];rfl)
 ·rw[ae] at hge;rw[AWH (by omega),Bool.and_true] at he;refine iE (λh=>is (by unfold oL;rw[notLong,if_neg (by simp),<-he,h];rfl)) λh=>?_;have dup:AN3 d=true->T.v (.int .i64 7)=T.v (.int .i64 (oL d)):=λh7=>is (by unfold oL;rw[notLong,if_neg (by simp),<-he,h,if_neg (by simp),if_pos h7]);have dup':(∃ i,∃ h:i<(iV (ids d.2.2.1)).length,(iV (ids d.2.2.1))[i].1∈ids d.2.1)\/(∃ i,∃ h:i<(iV (ids d.2.2.2.1)).length,(iV (ids d.2.2.2.1))[i].1∈ids d.2.1\/(iV (ids d.2.2.2.1))[i].1∈ids d.2.2.1)\/(∃ i,∃ h:i<(iV (ids d.2.2.2.2.1)).length,((iV (ids d.2.2.2.2.1))[i].1∈ids d.2.1\/(iV (ids d.2.2.2.2.1))[i].1∈ids d.2.2.1)\/(iV (ids d.2.2.2.2.1))[i].1∈ids d.2.2.2.1)->AN3 d=true:=by
   intro h;simp only[AN3,BBF,Bool.or_eq_true,List.any_eq_true,EV];rcases h with ⟨i,hi,h⟩|⟨i,hi,h⟩|⟨i,hi,h⟩
   ·exact .inl (.inl ⟨_,lH.1 ⟨i,hi,rfl⟩,h⟩)
   ·exact .inl (.inr ⟨_,lH.1 ⟨i,hi,rfl⟩,h⟩)
   ·exact .inr ⟨_,lH.1 ⟨i,hi,rfl⟩,h⟩
  have m1:=λid=>(@lH (ids d.2.1) id)
  refine A5W (m:=iV (ids d.2.1)) (es:=[]) (R7:=T.v (.int .i64 7)=T.v (.int .i64 (oL d))) Seen.nil (λh=>by obtain ⟨_,_,h⟩:=h;exact h.elim) λ_=>?_;refine A5I (m:=iV (ids d.2.1)) (es:=[]) Seen.nil λe1 rs1 s1=>?_;have s1:=s1.congr (S':=λid=>id∈ids d.2.1) λid=>by rw[lH];simp
  refine A5W (m:=iV (ids d.2.2.1)) s1 (λh=>dup (dup' (.inl h))) λn1=>?_;refine A5I (m:=iV (ids d.2.2.1)) s1 λe2 rs2 s2=>?_;have s2:=s2.congr (S':=λid=>id∈ids d.2.1\/id∈ids d.2.2.1) λid=>by rw[lH]
  refine A5W (m:=iV (ids d.2.2.2.1)) s2 (λh=>dup (dup' (.inr (.inl h)))) λn2=>?_;refine A5I (m:=iV (ids d.2.2.2.1)) s2 λe3 rs3 s3=>?_;have s3:=s3.congr (S':=λid=>(id∈ids d.2.1\/id∈ids d.2.2.1)\/id∈ids d.2.2.2.1) λid=>by rw[lH]
  refine A5W (m:=iV (ids d.2.2.2.2.1)) s3 (λh=>dup (dup' (.inr (.inr h)))) λn3=>?_;refine A5I (m:=iV (ids d.2.2.2.2.1)) s3 λe4 rs4 s4=>is ?_;have nd:AN3 d=false:=by
   rw[Bool.eq_false_iff];intro h;simp only[AN3,BBF,Bool.or_eq_true,List.any_eq_true,EV] at h;rcases h with (⟨x,hx,h⟩|⟨x,hx,h⟩)|⟨x,hx,h⟩
   ·obtain ⟨i,hi,rfl⟩:=lH.2 hx;exact n1 i hi h
   ·obtain ⟨i,hi,rfl⟩:=lH.2 hx;exact n2 i hi h
   ·obtain ⟨i,hi,rfl⟩:=lH.2 hx;exact n3 i hi h
  unfold oL;rw[notLong,if_neg (by simp),<-he,h,if_neg (by simp),nd,if_neg (by simp)]
end Go.Pv
namespace Go.Pv
open Go Go.Proofs IntKind
def BHY:List T->Option T:=λ_=>none
variable {P:Program}
def aP.nil {f:FuncId} (h:∃ fn,P.funcs[f]? = some fn/\(fn.name == "runtime.NumGoroutine")=false/\fn.body.isNone=false):aP P f BHY:=⟨h,λ_ _ _ _ _ _ _ _ h=>by cases h⟩
def ABV (es:MP):rJ (bO es)=List.map (bY Sy.str false (Sy.int IntKind.i64)) es:=by
 unfold rJ bO;rw[List.map_map];rfl
def SH {α:Type} (id:iII):∀ (l:List (iII×α)) (i:Nat) (es:MP),(∃ v,fF es id=some v/\fF (HB (ids l) i es) id=some v)\/(fF es id=none/\fF (HB (ids l) i es) id=none/\l.find? (λs=>decide (s.1=id))=none) \/
  (fF es id=none/\∃ k,∃ h:k<l.length,fF (HB (ids l) i es) id=some ((i+k:Nat):Int)/\l.find? (λs=>decide (s.1=id))=some l[k])
 | [],i,es=>by
  cases h:fF es id with
  | none=>exact .inr (.inl ⟨rfl,by simpa [ids,HB] using h,rfl⟩)
  | some v=>exact .inl ⟨v,rfl,by simpa [ids,HB] using h⟩
 | a::l,i,es=>by
  have hs:ids (a::l)=a.1::ids l:=rfl;rw[hs];simp only[HB];have ih:=SH id l (i+1) (match fF es a.1 with|none=>nO es a.1 (i:Int)|some _=>es);by_cases ha:a.1=id
  ·subst ha;cases hc:fF es a.1 with
   | some v =>
    simp only[hc] at ih ⊢;rcases ih with ⟨v',h1,h2⟩|⟨h1,_⟩|⟨h1,_⟩
    ·exact .inl ⟨v',h1,h2⟩
    ·cases h1
    ·cases h1
   | none =>
    simp only[hc] at ih ⊢;have hg:fF (nO es a.1 (i:Int)) a.1=some (i:Int):=by rw[x6];simp
    rw[hg] at ih;rcases ih with ⟨v',h1,h2⟩|⟨h1,_⟩|⟨h1,_⟩
    ·cases h1;exact .inr (.inr ⟨by first|rfl|trivial,0,by simp,by simpa using h2,by simp⟩)
    ·cases h1
    ·cases h1
  ·have hg:fF (match fF es a.1 with|none=>nO es a.1 (i:Int)|some _=>es) id=fF es id:=by
    cases hc:fF es a.1 with
    | none=>simp only[x6,ha,if_false]
    | some v=>rfl
   rw[hg] at ih;rcases ih with ⟨v',h1,h2⟩|⟨h1,h2,h3⟩|⟨h1,k,hk,h2,h3⟩
   ·exact .inl ⟨v',h1,h2⟩
   ·exact .inr (.inl ⟨h1,h2,by rw[List.find?_cons_of_neg (by simpa using ha)];exact h3⟩)
   ·exact .inr (.inr ⟨h1,k+1,by simpa using hk,h2.trans (by congr 2;omega),by rw[List.find?_cons_of_neg (by simpa using ha)];simpa using h3⟩)
variable {α:Type}
def EL (id:iII) (l:List (iII×α)):(fF (iV (ids l)) id=none/\l.find? (λs=>decide (s.1=id))=none)\/(∃ k,∃ h:k<l.length,fF (iV (ids l)) id=some (k:Int)/\l.find? (λs=>decide (s.1=id))=some l[k]):=by
 rcases SH id l 0 [] with ⟨v,h,_⟩|⟨_,h1,h2⟩|⟨_,k,hk,h1,h2⟩
 ·cases h
 ·exact .inl ⟨h1,h2⟩
 ·exact .inr ⟨k,hk,h1.trans (by rw[Nat.zero_add]),h2⟩
variable {A:Prop}
def ixK {id:iII} {l:List (iII×α)} {B:Nat->Int->Prop} (hA:l.find? (λs=>decide (s.1=id))=none->A) (hB:∀ i k (h:k<l.length),l.find? (λs=>decide (s.1=id))=some l[k]->B i (k:Int)) :
  gR TypeDesc.string (Value.string id) (rJ (bO (iV (ids l)))) false (Sy.int IntKind.i64) A B:=by
 rw[ABV];refine vB (r:=.int .i64) (λh=>hA ?_) λi v h=>?_
 ·rcases EL id l with ⟨_,h2⟩|⟨k,hk,h1,_⟩
  ·exact h2
  ·rw[h] at h1;cases h1
 ·rcases EL id l with ⟨h1,_⟩|⟨k,hk,h1,h2⟩
  ·rw[h] at h1;cases h1
  ·rw[h] at h1;cases h1;exact hB i k hk h2
def mO (a0:aB) (m1:List aE) (m2:List aE) (m3:List aE) (m4:List aE) (a5:iII):List T:=[PX a0 m1 m2 m3 m4,pPQ a5]
noncomputable def K8:Env:=Env.of []
def YS:FuncId->Hint:=cA 260 [(3,.inv [.val 1 false .str,.own 6 1 .str,.val 9 false (.int .i64)])] (λ_=>bA)
def AEF:aU Tryz.prog K8:=.nil _
def L2(a0:aB)(m1:List aE)(m2:List aE)(m3:List aE)(m4:List aE)(a5:iII)(R:T->Prop):Prop:=bD (iII×List iII×Int×PUnit) (λX0 s1=>aC (decide (s1.2.2.1<65)) (gR TypeDesc.string (Value.string s1.1) (rJ (bO m1)) false bF (R (T.b9 [T.sl false [],pPR false])) λ(i2:Nat) (y3:Int)=>aX bB (t7 a0) y3 λ(y4:bN)=>bQ (decide (((List.map Sy.str.enc s1.2.1).length+1)*16<=140737488355328) && decide ((List.map Sy.str.enc s1.2.1).length+1<=140737488355328)) (aC (decide (y4.2.1=1)) (R (T.b9 [T.sl false (List.map Sy.str.enc s1.2.1++[[pPQ s1.1]]), pPR true])) (jI Sy.str (List.map Sy.str.enc s1.2.1++[[pPQ s1.1]]) λ(y5:List iII)=>X0 (y4.2.2,y5,i64.wrap (s1.2.2.1+1),())))) (R (T.b9 [T.sl false [],pPR false]))) (a5,[],0,())
def YJ ( a0 m1 m2 m3 m4 a5 R):eJ b8 Tryz.prog K8 YS 8 128 (mO a0 m1 m2 m3 m4 a5) R=L2 a0 m1 m2 m3 m4 a5 R:=by kernel_rfl
def DP (x y:aB×MP×MP×MP×MP×iII) (h:mO x.1 x.2.1 x.2.2.1 x.2.2.2.1 x.2.2.2.2.1 x.2.2.2.2.2=mO y.1 y.2.1 y.2.2.1 y.2.2.2.1 y.2.2.2.2.1 y.2.2.2.2.2):x=y:=by
 obtain ⟨h1,h2⟩:=List.cons.inj h;have:=rG (x:=(x.1,x.2.1,x.2.2.1,x.2.2.2.1,x.2.2.2.2.1)) (y:=(y.1,y.2.1,y.2.2.1,y.2.2.2.1,y.2.2.2.2.1)) h1;simp only[List.cons.injEq,T.v.injEq,Value.string.injEq,and_true] at h2;simp only[Prod.mk.injEq] at this;obtain ⟨e1,e2,e3,e4,e5⟩:=this;exact Prod.ext e1 (Prod.ext e2 (Prod.ext e3 (Prod.ext e4 (Prod.ext e5 h2))))
def IL (x:aB×MP×MP×MP×MP×iII):Option T:=wM (x.1,x.2.1,x.2.2.1,x.2.2.2.1,x.2.2.2.2.1) (Sh.enc [(false,.li .str),(false,.bool)] (up x.1 x.2.2.2.2.2))
noncomputable def lG:List T->Option (T):=gA (λ(x:aB×List aE×List aE×List aE×List aE×iII)=>mO x.1 x.2.1 x.2.2.1 x.2.2.2.1 x.2.2.2.2.1 x.2.2.2.2.2) IL
def ABA (a0:aB) (m1:List aE) (m2:List aE) (m3:List aE) (m4:List aE) (a5:iII):lG (mO a0 m1 m2 m3 m4 a5)=IL (a0,m1,m2,m3,m4,a5):=fP (A:=(λ(x:aB×List aE×List aE×List aE×List aE×iII)=>mO x.1 x.2.1 x.2.2.1 x.2.2.2.1 x.2.2.2.2.1 x.2.2.2.2.2)) DP (a0,m1,m2,m3,m4,a5)
def AQ5 (h:∀ (a0:aB) (m1:List aE) (m2:List aE) (m3:List aE) (m4:List aE) (a5:iII) (r:T),IL (a0,m1,m2,m3,m4,a5)=some r->(∀ t∈mO a0 m1 m2 m3 m4 a5,Bd t)->L2 a0 m1 m2 m3 m4 a5 (λy=>y=r)):aP Tryz.prog 128 lG :=
 cU (E:=K8) (Hs:=YS) AEF aZ a7 (aO rfl) 8 ⟨_,_,Tryz.func128,rfl⟩ λx r h1 h2=>by
  rw[YJ];exact h x.1 x.2.1 x.2.2.1 x.2.2.2.1 x.2.2.2.2.1 x.2.2.2.2.2 r h1 h2
def RJ:aP Tryz.prog 128 lG:=AQ5 λd m1 m2 m3 m4 id0 r h hb=>by
 obtain ⟨hx,hs,rfl⟩:=oT h;simp only[Prod.mk.injEq,true_and] at hx;obtain ⟨rfl,rfl,rfl,rfl⟩:=hx;clear h;unfold L2 t7 bF;refine bP 65 (λk s=>∃ id' l',s=(id',l',(k:Int),())/\l'.length=k/\upF d (65-k) id' l'=up d id0) ⟨id0,[],rfl,rfl,rfl⟩ ?_;rintro X k s hk ⟨id',l',rfl,hl,hu⟩ hX;dsimp only;have stop:up d id0=([],false)->T.b9 [T.sl false [],T.v (.bool false)]=Sh.enc [(false,.li .str),(false,.bool)] (up d id0):=λh=>by rw[h];rfl
 refine cC (λhlt=>?_) λhge=>stop ?_
 ·have hlt:k<65:=by omega
  obtain ⟨m,hm⟩:∃ m,65-k=m+1:=⟨64-k,by omega⟩
  rw[hm] at hu;simp only[upF] at hu;refine ixK (λhn=>stop ?_) λi j hj hn=>?_
  ·have hn:eG d id'=none:=hn;rw[hn] at hu;exact hu.symm
  ·have hn:eG d id'=some d.2.1[j]:=hn;simp only[hn] at hu;rw[bK (r:=bB) hj,AFI (by omega),MX];refine cC (λh1=>?_) λh1=>?_
   ·rw[if_pos h1] at hu;rw[<-hu,AXG];rfl
   ·rw[if_neg h1] at hu;exact hX _ hlt ⟨_,_,by rw[show i64.wrap ((k:Int)+1)=((k+1:Nat):Int) from bH _ (by omega) (by omega)],by simp[hl],by rw[<-hu];congr 1;omega⟩
 ·have:65-k=0:=by omega
  rw[this] at hu;exact hu.symm
def pG (d:aB) (n:bN):Int:=if pU n.1=false then 6 else if ¬ n.2.1=1/\¬ n.2.1=2 then 10 else if n.2.1=1/\¬ n.2.2 = { data:=#[] } then 2 else if n.2.1=2/\(eG d n.2.2).isNone=true then 8 else 0
def A0P (d:aB):Bool:=d.2.1.any λn=>!(up d n.1).2
def AW4 (d:aB):Bool:=d.2.1.any λn=>decide (8<(up d n.1).1.length)
def j4 (d:aB):Int:=if cG (pG d) d.2.1=0 then (if A0P d=true then 20 else if AW4 d=true then 13 else 0) else cG (pG d) d.2.1
def qL (a0:aB) (m1:List aE) (m2:List aE) (m3:List aE) (m4:List aE):List T:=[PX a0 m1 m2 m3 m4]
noncomputable def K1:Env:=Env.of [(64,.pure eM),(128,.pure lG)]
def YM:FuncId->Hint:=cA 88 [(2,.inv [.val 20 false (.int .i64)]),(16,.inv [.val 7 false .bool,.val 74 false (.int .i64)])] (λ_=>bA)
def ADR:aU Tryz.prog K1:=.cons D5 (.cons RJ (.nil _))
def m8(R:T->Prop):Prop:=R (pPP 8)
def BJQ(R:T->Prop):Prop:=R (pPP 2)
def BJR:T:=pPP 10
def BJT(R:T->Prop):Prop:=R (pPP 6)
def BJX(R:T->Prop):Prop:=R (pPP 0)
def BJZ(y2:bN)(R:T->Prop)(X0:Int×PUnit->Prop)(s1:Int×PUnit):Prop:=aC (decide (y2.2.1=1)) (aC (!decide (y2.2.2 = {data:=#[]})) (BJQ R) (aC (decide (y2.2.1=2)) (f9 X0 s1) (f9 X0 s1))) (aC (decide (y2.2.1=2)) (f9 X0 s1) (f9 X0 s1))
def BJ2(y2:bN)(R:T->Prop)(X0:Int×PUnit->Prop)(s1:Int×PUnit):Prop:=aC (decide (y2.2.1=1)) (aC (!decide (y2.2.2 = {data:=#[]})) (BJQ R) (aC (decide (y2.2.1=2)) (m8 R) (f9 X0 s1))) (aC (decide (y2.2.1=2)) (m8 R) (f9 X0 s1))
def LA(a0:aB)(m1:List aE)(m2:List aE)(m3:List aE)(m4:List aE)(R:T->Prop):Prop:=bD (Int×PUnit) (λX0 s1=>aC (decide (s1.1<(↑(t7 a0).length:Int))) (aX bB (t7 a0) s1.1 λ(y2:bN)=>gR TypeDesc.string (Value.string y2.2.2) (rJ (bO m1)) false bF (aJ d5 (eM [pPQ y2.1]) λ(y6:Bool)=>aC (!y6) (BJT R) (aC (!decide (y2.2.1=1)) (aC (!decide (y2.2.1=2)) (R BJR) (BJ2 y2 R X0 s1)) (BJ2 y2 R X0 s1))) λ(i3:Nat) (y4:Int)=>aJ d5 (eM [pPQ y2.1]) λ(y5:Bool)=>aC (!y5) (BJT R) (aC (!decide (y2.2.1=1)) (aC (!decide (y2.2.1=2)) (R BJR) (BJZ y2 R X0 s1)) (BJZ y2 R X0 s1))) (bD (Bool×Int×PUnit) (λX7 s8=>aC (decide (s8.2.1<(↑(t7 a0).length:Int))) (aX bB (t7 a0) s8.2.1 λ(y9:bN)=>aJ [(false,Sy.str.li),(false,Sy.bool)] (lG [T.ref [T.ref (i6 a0), T.mp (bO m1),T.mp (bO m2),T.mp (bO m3), T.mp (bO m4)], pPQ y9.1]) λ(y10:List iII×Bool)=>aC (!y10.2) (R (pPP 20)) (aC s8.1 (X7 (true,i64.wrap (s8.2.1+1),())) (X7 (decide (8<(↑(List.map Sy.str.enc y10.1).length:Int)), i64.wrap (s8.2.1+1),())))) (aC s8.1 (R (pPP 13)) (BJX R))) (false,0,()))) (0,())
def YE ( a0 m1 m2 m3 m4 R):eJ b8 Tryz.prog K1 YM 8 88 (qL a0 m1 m2 m3 m4) R=LA a0 m1 m2 m3 m4 R:=by kernel_rfl
def TL (x y:aB×MP×MP×MP×MP) (h:qL x.1 x.2.1 x.2.2.1 x.2.2.2.1 x.2.2.2.2=qL y.1 y.2.1 y.2.2.1 y.2.2.2.1 y.2.2.2.2):x=y:=rG (List.cons.inj h).1
def IB (x:aB×MP×MP×MP×MP):Option T:=wM x (T.v (Value.int .i64 (j4 x.1)))
noncomputable def xM:List T->Option (T):=gA (λ(x:aB×List aE×List aE×List aE×List aE)=>qL x.1 x.2.1 x.2.2.1 x.2.2.2.1 x.2.2.2.2) IB
def Z7 (a0:aB) (m1:List aE) (m2:List aE) (m3:List aE) (m4:List aE):xM (qL a0 m1 m2 m3 m4)=IB (a0,m1,m2,m3,m4):=fP (A:=(λ(x:aB×List aE×List aE×List aE×List aE)=>qL x.1 x.2.1 x.2.2.1 x.2.2.2.1 x.2.2.2.2)) TL (a0,m1,m2,m3,m4)
def AQH (h:∀ (a0:aB) (m1:List aE) (m2:List aE) (m3:List aE) (m4:List aE) (r:T),IB (a0,m1,m2,m3,m4)=some r->(∀ t∈qL a0 m1 m2 m3 m4,Bd t)->LA a0 m1 m2 m3 m4 (λy=>y=r)):aP Tryz.prog 88 xM :=
 cU (E:=K1) (Hs:=YM) ADR aZ a7 (aO rfl) 8 ⟨_,_,Tryz.func88,rfl⟩ λx r h1 h2=>by
  rw[YE];exact h x.1 x.2.1 x.2.2.1 x.2.2.2.1 x.2.2.2.2 r h1 h2
def I7 {d:aB} (hs:nS d) (id:iII):lG (mO d (iV (ids d.2.1)) (iV (ids d.2.2.1)) (iV (ids d.2.2.2.1)) (iV (ids d.2.2.2.2.1)) id)=some (Sh.enc [(false,.li .str),(false,.bool)] (up d id)):=by
 rw[ABA];exact oU hs _
def nV (s:iII) (K:Bool->Prop):aJ [(false,Sy.bool)] (eM [pPQ s]) K=K (pU s):=by
 rw[show eM [pPQ s]=FI s from RY];exact ACL _ K
def AOJ:aP Tryz.prog 88 xM:=AQH λd m1 m2 m3 m4 r h hb=>by
 obtain ⟨hx,hs,rfl⟩:=oT h;simp only[Prod.mk.injEq,true_and] at hx;obtain ⟨rfl,rfl,rfl,rfl⟩:=hx;clear h;have is:∀ {n:Int},j4 d=n->T.v (.int .i64 n)=T.v (.int .i64 (j4 d)):=λh=>by rw[h]
 unfold LA BJ2 BJZ BJX i6 f9 BJT BJR BJQ m8 H1 GE t7 t6 m7 d5 bF;refine qS (r:=bB) (pG d) hs.n (λX s y hy hok hbad=>?_) λh0=>?_
 ·have bad:∀ {n:Int},n≠0->pG d y=n->T.v (.int .i64 n)=T.v (.int .i64 (j4 d)):=λhn h=>is (by
   have:=hbad (by rw[h];exact hn);unfold j4;rw[if_neg (by rw[this,h];exact hn),this,h])
  have tail:∀ {Z2 Z:Prop},pU y.1=true->(y.2.1=2->Z2)->(pG d y=0->Z) ->
   aC (!decide (y.2.1=1))
        (aC (!decide (y.2.1=2)) (T.v (.int .i64 10)=T.v (.int .i64 (j4 d)))
         (aC (decide (y.2.1=1))
          (aC (!decide (y.2.2 = { data:=#[] })) (T.v (.int .i64 2)=T.v (.int .i64 (j4 d)))
           (aC (decide (y.2.1=2)) Z2 Z))
          (aC (decide (y.2.1=2)) Z2 Z)))
        (aC (decide (y.2.1=1))
         (aC (!decide (y.2.2 = { data:=#[] })) (T.v (.int .i64 2)=T.v (.int .i64 (j4 d)))
          (aC (decide (y.2.1=2)) Z2 Z))
         (aC (decide (y.2.1=2)) Z2 Z)):=by
   intro Z2 Z hid h2 h1;refine kU (λg1=>?_) λg1=>?_
   ·refine kU (λg2=>bad (by decide) (by unfold pG;rw[if_neg (by simp[hid]),if_pos ⟨g1,g2⟩])) λg2=>?_;refine cC (λh=>absurd h g1) λ_=>?_;exact cC (λ_=>h2 g2) λh=>absurd g2 h
   ·refine cC (λ_=>?_) λh=>absurd g1 h;refine kU (λg3=>bad (by decide) (by unfold pG;rw[if_neg (by simp[hid]),if_neg (by simp[g1]),if_pos ⟨g1,g3⟩])) λg3=>?_;exact cC (λh=>by rw[g1] at h;cases h) λh=>h1 (by unfold pG;rw[if_neg (by simp[hid]),if_neg (by simp[g1]),if_neg (by simp[g3]),if_neg (by simp[h])])
  refine ixK (λhn=>?_) λi j hj hn=>?_
  ·have hn:eG d y.2.2=none:=hn;rw[nV];refine iE (λhid=>bad (by decide) (by unfold pG;rw[if_pos hid])) λhid=>?_;refine tail hid (λh2=>bad (by decide) ?_) λh0=>hok h0;unfold pG;rw[if_neg (by simp[hid]),if_neg (by simp[h2]),if_neg (by simp[h2]),if_pos ⟨h2,by rw[hn];rfl⟩]
  ·have hn:eG d y.2.2=some d.2.1[j]:=hn;rw[nV];refine iE (λhid=>bad (by decide) (by unfold pG;rw[if_pos hid])) λhid=>?_;refine tail hid (λh2=>hok ?_) λh0=>hok h0;unfold pG;rw[if_neg (by simp[hid]),if_neg (by simp[h2]),if_neg (by simp[h2]),if_neg (by simp[hn])]
 ·have hn:d.2.1.length<=140737488355328:=hs.n;refine bP d.2.1.length (λk s=>s=((d.2.1.take k).any (λn=>decide (8<(up d n.1).1.length)),(k:Int),())/\∀ n∈d.2.1.take k,(up d n.1).2=true) ⟨rfl,by simp⟩ ?_;rintro X k s hk ⟨rfl,hall⟩ hX;dsimp only;refine cC (λhlt=>?_) λhge=>?_
  ·rw[ae] at hlt;have hlt:k<d.2.1.length:=by omega
   rw[bK (r:=bB) hlt];refine aG (s:=[(false,.li .str),(false,.bool)]) (I7 hs d.2.1[k].1) ?_;have ht:d.2.1.take (k+1)=d.2.1.take k++[d.2.1[k]]:=List.take_succ_eq_append_getElem hlt;have hw:i64.wrap ((k:Int)+1)=((k+1:Nat):Int):=bH _ (by omega) (by omega);refine iE (λhu=>is ?_) λhu=>?_
   ·unfold j4;rw[if_pos h0,if_pos (show A0P d=true from List.any_eq_true.2 ⟨_,ak hlt,by rw[hu];rfl⟩)]
   ·have hall':∀ n∈d.2.1.take (k+1),(up d n.1).2=true:=λn hm=>by
     rw[ht] at hm;rcases List.mem_append.1 hm with h|h
     ·exact hall n h
     ·simp at h;subst h;exact hu
    refine wU (λhd=>?_) λhd=>?_
    ·refine hX _ hlt ⟨?_,hall'⟩;rw[hw,ht,List.any_append,hd];rfl
    ·refine hX _ hlt ⟨?_,hall'⟩;rw[hw,ht,List.any_append,hd];simp only[ae,List.any_cons,List.any_nil,Bool.or_false,Bool.false_or,Prod.mk.injEq,and_true]
     congr 1
     exact propext ⟨λh=>by omega,λh=>by omega⟩
  ·rw[ae] at hge;have:k=d.2.1.length:=by omega
   subst this;rw[List.take_length] at hall ⊢;have hnu:A0P d=false:=by
    rw[Bool.eq_false_iff];intro h;obtain ⟨n,hm,h⟩:=List.any_eq_true.1 h;rw[hall n hm] at h;cases h
   refine wU (λh=>is ?_) λh=>is ?_
   ·unfold j4;rw[if_pos h0,hnu,if_neg (by simp),if_pos (show AW4 d=true from h)]
   ·unfold j4;rw[if_pos h0,hnu,if_neg (by simp),if_neg (by rw[show AW4 d=false from h];simp)]
end Go.Pv
namespace Go.Pv
open Go Go.Proofs IntKind
def rE (d:aB) (s:bS):Int:=if pU s.1=false\/pU s.2.1=false\/pU s.2.2.1=false then 6 else if s.2.1=s.2.2.1 then 2 else if ¬ s.2.2.2.1=1/\¬ s.2.2.2.1=2 then 10 else if s.2.2.2.2.1<1\/32768<s.2.2.2.2.1\/s.2.2.2.2.2<1\/3<s.2.2.2.2.2 then 9 else if (partOf d s.2.1).isNone=true\/(partOf d s.2.2.1).isNone=true then 8 else 0
def qM (a0:aB) (m1:List aE) (m2:List aE) (m3:List aE) (m4:List aE):List T:=[PX a0 m1 m2 m3 m4]
noncomputable def K2:Env:=Env.of [(64,.pure eM)]
def YN:FuncId->Hint:=cA 90 [(2,.inv [.val 17 false (.int .i64)])] (λ_=>bA)
def ADS:aU Tryz.prog K2:=.cons D5 (.nil _)
def t8(R:T->Prop):Prop:=R (pPP 9)
def AIG(y2:bS)(R:T->Prop):Prop:=aC (decide (y2.2.2.2.2.1<1)) (t8 R) (aC (decide (32768<y2.2.2.2.2.1)) (t8 R) (aC (decide (y2.2.2.2.2.2<1)) (t8 R) (aC (decide (3<y2.2.2.2.2.2)) (t8 R) (m8 R))))
def f8(y2:bS)(R:T->Prop):Prop:=aJ d5 (eM [pPQ y2.1]) λ(y15:Bool)=>aC (!y15) (BJT R) (aJ d5 (eM [pPQ y2.2.1]) λ(y16:Bool)=>aC (!y16) (BJT R) (aJ d5 (eM [pPQ y2.2.2.1]) λ(y17:Bool)=>aC (!y17) (BJT R) (aC (decide (y2.2.1=y2.2.2.1)) (BJQ R) (aC (!decide (y2.2.2.2.1=1)) (aC (!decide (y2.2.2.2.1=2)) (R BJR) (AIG y2 R)) (AIG y2 R)))))
def BJY(y2:bS)(R:T->Prop)(X0:Int×PUnit->Prop)(s1:Int×PUnit):Prop:=aC (decide (y2.2.2.2.2.1<1)) (t8 R) (aC (decide (32768<y2.2.2.2.2.1)) (t8 R) (aC (decide (y2.2.2.2.2.2<1)) (t8 R) (aC (decide (3<y2.2.2.2.2.2)) (t8 R) (f9 X0 s1))))
def LB(a0:aB)(m1:List aE)(m2:List aE)(m3:List aE)(m4:List aE)(R:T->Prop):Prop:=bD (Int×PUnit) (λX0 s1=>aC (decide (s1.1<(↑(t6 a0).length:Int))) (aX bC (t6 a0) s1.1 λ(y2:bS)=>gR TypeDesc.string (Value.string y2.2.1) (rJ (bO m2)) false bF (gR TypeDesc.string (Value.string y2.2.2.1) (rJ (bO m2)) false bF (f8 y2 R) λ(i13:Nat) (y14:Int)=>f8 y2 R) λ(i3:Nat) (y4:Int)=>gR TypeDesc.string (Value.string y2.2.2.1) (rJ (bO m2)) false bF (f8 y2 R) λ(i5:Nat) (y6:Int)=>aJ d5 (eM [pPQ y2.1]) λ(y7:Bool)=>aC (!y7) (BJT R) (aJ d5 (eM [pPQ y2.2.1]) λ(y8:Bool)=>aC (!y8) (BJT R) (aJ d5 (eM [pPQ y2.2.2.1]) λ(y9:Bool)=>aC (!y9) (BJT R) (aC (decide (y2.2.1=y2.2.2.1)) (BJQ R) (aC (!decide (y2.2.2.2.1=1)) (aC (!decide (y2.2.2.2.1=2)) (R BJR) (BJY y2 R X0 s1)) (BJY y2 R X0 s1)))))) (BJX R)) (0,())
def YF ( a0 m1 m2 m3 m4 R):eJ b8 Tryz.prog K2 YN 8 90 (qM a0 m1 m2 m3 m4) R=LB a0 m1 m2 m3 m4 R:=by kernel_rfl
def TM (x y:aB×MP×MP×MP×MP) (h:qM x.1 x.2.1 x.2.2.1 x.2.2.2.1 x.2.2.2.2=qM y.1 y.2.1 y.2.2.1 y.2.2.2.1 y.2.2.2.2):x=y:=rG (List.cons.inj h).1
def IC (x:aB×MP×MP×MP×MP):Option T:=wM x (T.v (Value.int .i64 (cG (rE x.1) x.1.2.2.2.1)))
noncomputable def xN:List T->Option (T):=gA (λ(x:aB×List aE×List aE×List aE×List aE)=>qM x.1 x.2.1 x.2.2.1 x.2.2.2.1 x.2.2.2.2) IC
def Z8 (a0:aB) (m1:List aE) (m2:List aE) (m3:List aE) (m4:List aE):xN (qM a0 m1 m2 m3 m4)=IC (a0,m1,m2,m3,m4):=fP (A:=(λ(x:aB×List aE×List aE×List aE×List aE)=>qM x.1 x.2.1 x.2.2.1 x.2.2.2.1 x.2.2.2.2)) TM (a0,m1,m2,m3,m4)
def AQI (h:∀ (a0:aB) (m1:List aE) (m2:List aE) (m3:List aE) (m4:List aE) (r:T),IC (a0,m1,m2,m3,m4)=some r->(∀ t∈qM a0 m1 m2 m3 m4,Bd t)->LB a0 m1 m2 m3 m4 (λy=>y=r)):aP Tryz.prog 90 xN :=
 cU (E:=K2) (Hs:=YN) ADS aZ a7 (aO rfl) 8 ⟨_,_,Tryz.func90,rfl⟩ λx r h1 h2=>by
  rw[YF];exact h x.1 x.2.1 x.2.2.1 x.2.2.2.1 x.2.2.2.2 r h1 h2
def AOK:aP Tryz.prog 90 xN:=AQI λd m1 m2 m3 m4 r h hb=>by
 obtain ⟨hx,hs,rfl⟩:=oT h;simp only[Prod.mk.injEq,true_and] at hx;obtain ⟨rfl,rfl,rfl,rfl⟩:=hx;replace hs:nS d:=hs;clear h;unfold LB BJY BJX f9 f8 BJT BJR BJQ AIG t8 m8 t6 d5 bF;refine qS (r:=bC) (rE d) hs.s (λX s y hy hok hbad=>?_) λh0=>?_
 ·have bad:∀ {n:Int},n≠0->rE d y=n->pPP n=pPP (cG (rE d) d.2.2.2.1):=λhn h=>by
   rw[hbad (by rw[h];exact hn),h]
  clear hbad hb
  repeat' first
   | refine ixK (λhn=>?_) (λi j hj hn=>?_)
   | rw[nV]
   | refine kU (λh=>?_) (λh=>?_)
   | refine cC (λh=>?_) (λh=>?_)
   | refine iE (λh=>?_) (λh=>?_)
  all_goals first
   | (exfalso;omega)
   | (refine bad (by decide) ?_;clear bad hok;unfold rE;simp[*,partOf,iO];done)
   | (refine hok ?_;clear bad hok;unfold rE;simp[*,partOf,iO];done)
 ·show _=pPP (cG (rE d) d.2.2.2.1);rw[h0]
def rO (a0:aB) (m1:List aE) (m2:List aE) (m3:List aE) (m4:List aE) (a5:iII):List T:=[PX a0 m1 m2 m3 m4,pPQ a5]
noncomputable def TS:Env:=Env.of []
def AJJ:FuncId->Hint:=λ_=>bA
def AMO:aU Tryz.prog TS:=.nil _
def TZ(a0:aB)(m1:List aE)(m2:List aE)(m3:List aE)(m4:List aE)(a5:iII)(R:T->Prop):Prop:=gR TypeDesc.string (Value.string a5) (rJ (bO m1)) false bF (R d4) λ(i0:Nat) (y1:Int)=>aX bB (t7 a0) y1 λ(y2:bN)=>R (pPR (decide (y2.2.1=1)))
def AEV ( a0 m1 m2 m3 m4 a5 R):eJ b8 Tryz.prog TS AJJ 8 131 (rO a0 m1 m2 m3 m4 a5) R=TZ a0 m1 m2 m3 m4 a5 R:=by kernel_rfl
def pF (d:aB) (id:iII):Bool:=match eG d id with
 | some n=>decide (n.2.1=1)
 | none=>false
def XP (x y:aB×MP×MP×MP×MP×iII) (h:rO x.1 x.2.1 x.2.2.1 x.2.2.2.1 x.2.2.2.2.1 x.2.2.2.2.2=rO y.1 y.2.1 y.2.2.1 y.2.2.2.1 y.2.2.2.2.1 y.2.2.2.2.2):x=y:=DP x y h
def PO (x:aB×MP×MP×MP×MP×iII):Option T:=wM (x.1,x.2.1,x.2.2.1,x.2.2.2.1,x.2.2.2.2.1) (pPR (pF x.1 x.2.2.2.2.2))
noncomputable def iA:List T->Option (T):=gA (λ(x:aB×List aE×List aE×List aE×List aE×iII)=>rO x.1 x.2.1 x.2.2.1 x.2.2.2.1 x.2.2.2.2.1 x.2.2.2.2.2) PO
def AGO (a0:aB) (m1:List aE) (m2:List aE) (m3:List aE) (m4:List aE) (a5:iII):iA (rO a0 m1 m2 m3 m4 a5)=PO (a0,m1,m2,m3,m4,a5):=fP (A:=(λ(x:aB×List aE×List aE×List aE×List aE×iII)=>rO x.1 x.2.1 x.2.2.1 x.2.2.2.1 x.2.2.2.2.1 x.2.2.2.2.2)) XP (a0,m1,m2,m3,m4,a5)
def A0W (h:∀ (a0:aB) (m1:List aE) (m2:List aE) (m3:List aE) (m4:List aE) (a5:iII) (r:T),PO (a0,m1,m2,m3,m4,a5)=some r->(∀ t∈rO a0 m1 m2 m3 m4 a5,Bd t)->TZ a0 m1 m2 m3 m4 a5 (λy=>y=r)):aP Tryz.prog 131 iA :=
 cU (E:=TS) (Hs:=AJJ) AMO aZ a7 (aO rfl) 8 ⟨_,_,Tryz.func131,rfl⟩ λx r h1 h2=>by
  rw[AEV];exact h x.1 x.2.1 x.2.2.1 x.2.2.2.1 x.2.2.2.2.1 x.2.2.2.2.2 r h1 h2
def ZX:aP Tryz.prog 131 iA:=A0W λd m1 m2 m3 m4 id0 r h hb=>by
 obtain ⟨hx,hs,rfl⟩:=oT h;simp only[Prod.mk.injEq,true_and] at hx;obtain ⟨rfl,rfl,rfl,rfl⟩:=hx;replace hs:nS d:=hs;clear h;unfold TZ t7 d4 bF;refine ixK (λhn=>?_) λi j hj hn=>?_
 ·have hn:eG d id0=none:=hn;show _=pPR (pF d id0);unfold pF;rw[hn]
 ·have hn:eG d id0=some d.2.1[j]:=hn;rw[bK (r:=bB) hj];show _=pPR (pF d id0);unfold pF;rw[hn]
def NZ {d:aB} (hs:nS d) (id:iII):iA (rO d (iV (ids d.2.1)) (iV (ids d.2.2.1)) (iV (ids d.2.2.2.1)) (iV (ids d.2.2.2.2.1)) id)=some (Sh.enc [(false,.bool)] (pF d id)):=by
 rw[AGO];exact oU hs _
def uL (d:aB) (x:bE):Int:=if x.1<1\/3<x.1 then 10 else if x.2.2=x.2.1 then 2 else if pF d x.2.1=false then 8 else if (x.1=1/\¬ x.2.2 = { data:=#[] }/\pF d x.2.2=false)\/(x.1=2/\pF d x.2.2=false)\/(x.1=3/\(iO d x.2.2).isNone=true) then 8 else 0
def qK (a0:aB) (m1:List aE) (m2:List aE) (m3:List aE) (m4:List aE):List T:=[PX a0 m1 m2 m3 m4]
noncomputable def K0:Env:=Env.of [(131,.pure iA)]
def YL:FuncId->Hint:=cA 92 [(2,.inv [.val 15 false (.int .i64)])] (λ_=>bA)
def ADQ:aU Tryz.prog K0:=.cons ZX (.nil _)
def v6(a0:aB)(m1:List aE)(m2:List aE)(m3:List aE)(m4:List aE)(y2:bE):List T:=[T.ref [T.ref (f7 a0), T.mp (bO m1),T.mp (bO m2),T.mp (bO m3), T.mp (bO m4)], pPQ y2.2.2]
def BJV(y2:bE)(X0:Int×PUnit->Prop)(s1:Int×PUnit):Prop:=aC (decide (y2.1=3)) (f9 X0 s1) (f9 X0 s1)
def BJ6(y2:bE)(R:T->Prop)(X0:Int×PUnit->Prop)(s1:Int×PUnit):Prop:=aC (decide (y2.1=3)) (m8 R) (f9 X0 s1)
def K9(a0:aB)(m1:List aE)(m2:List aE)(m3:List aE)(m4:List aE)(R:T->Prop):Prop:=bD (Int×PUnit) (λX0 s1=>aC (decide (s1.1<(↑(GE a0).length:Int))) (aX aY (GE a0) s1.1 λ(y2:bE)=>gR TypeDesc.string (Value.string y2.2.2) (rJ (bO m4)) false bF (aC (decide (y2.1<1)) (R BJR) (aC (decide (3<y2.1)) (R BJR) (aC (decide (y2.2.2=y2.2.1)) (BJQ R) (aJ d5 (iA [T.ref [T.ref (i6 a0), T.mp (bO m1),T.mp (bO m2),T.mp (bO m3), T.mp (bO m4)], pPQ y2.2.1]) λ(y10:Bool)=>aC (!y10) (m8 R) (aC (decide (y2.1=1)) (aC (!decide (y2.2.2 = {data:=#[]})) (aJ d5 (iA (v6 a0 m1 m2 m3 m4 y2)) λ(y11:Bool)=>aC (!y11) (m8 R) (aC (decide (y2.1=2)) (aJ d5 (iA [T.ref [T.ref (f7 a0), T.mp (bO m1),T.mp (bO m2), T.mp (bO m3),T.mp (bO m4)], pPQ y2.2.2]) λ(y12:Bool)=>aC (!y12) (m8 R) (BJ6 y2 R X0 s1)) (BJ6 y2 R X0 s1))) (aC (decide (y2.1=2)) (aJ d5 (iA (v6 a0 m1 m2 m3 m4 y2)) λ(y13:Bool)=>aC (!y13) (m8 R) (BJ6 y2 R X0 s1)) (BJ6 y2 R X0 s1))) (aC (decide (y2.1=2)) (aJ d5 (iA (v6 a0 m1 m2 m3 m4 y2)) λ(y14:Bool)=>aC (!y14) (m8 R) (BJ6 y2 R X0 s1)) (BJ6 y2 R X0 s1))))))) λ(i3:Nat) (y4:Int)=>aC (decide (y2.1<1)) (R BJR) (aC (decide (3<y2.1)) (R BJR) (aC (decide (y2.2.2=y2.2.1)) (BJQ R) (aJ d5 (iA [T.ref [T.ref (i6 a0), T.mp (bO m1),T.mp (bO m2),T.mp (bO m3), T.mp (bO m4)], pPQ y2.2.1]) λ(y5:Bool)=>aC (!y5) (m8 R) (aC (decide (y2.1=1)) (aC (!decide (y2.2.2 = {data:=#[]})) (aJ d5 (iA (v6 a0 m1 m2 m3 m4 y2)) λ(y6:Bool)=>aC (!y6) (m8 R) (aC (decide (y2.1=2)) (aJ d5 (iA [T.ref [T.ref (f7 a0), T.mp (bO m1),T.mp (bO m2), T.mp (bO m3),T.mp (bO m4)], pPQ y2.2.2]) λ(y7:Bool)=>aC (!y7) (m8 R) (BJV y2 X0 s1)) (BJV y2 X0 s1))) (aC (decide (y2.1=2)) (aJ d5 (iA (v6 a0 m1 m2 m3 m4 y2)) λ(y8:Bool)=>aC (!y8) (m8 R) (BJV y2 X0 s1)) (BJV y2 X0 s1))) (aC (decide (y2.1=2)) (aJ d5 (iA (v6 a0 m1 m2 m3 m4 y2)) λ(y9:Bool)=>aC (!y9) (m8 R) (BJV y2 X0 s1)) (BJV y2 X0 s1))))))) (BJX R)) (0,())
def YD ( a0 m1 m2 m3 m4 R):eJ b8 Tryz.prog K0 YL 8 92 (qK a0 m1 m2 m3 m4) R=K9 a0 m1 m2 m3 m4 R:=by kernel_rfl
def TK (x y:aB×MP×MP×MP×MP) (h:qK x.1 x.2.1 x.2.2.1 x.2.2.2.1 x.2.2.2.2=qK y.1 y.2.1 y.2.2.1 y.2.2.2.1 y.2.2.2.2):x=y:=rG (List.cons.inj h).1
def IA (x:aB×MP×MP×MP×MP):Option T:=wM x (T.v (Value.int .i64 (cG (uL x.1) x.1.2.2.2.2.2)))
noncomputable def xL:List T->Option (T):=gA (λ(x:aB×List aE×List aE×List aE×List aE)=>qK x.1 x.2.1 x.2.2.1 x.2.2.2.1 x.2.2.2.2) IA
def Z6 (a0:aB) (m1:List aE) (m2:List aE) (m3:List aE) (m4:List aE):xL (qK a0 m1 m2 m3 m4)=IA (a0,m1,m2,m3,m4):=fP (A:=(λ(x:aB×List aE×List aE×List aE×List aE)=>qK x.1 x.2.1 x.2.2.1 x.2.2.2.1 x.2.2.2.2)) TK (a0,m1,m2,m3,m4)
def AQG (h:∀ (a0:aB) (m1:List aE) (m2:List aE) (m3:List aE) (m4:List aE) (r:T),IA (a0,m1,m2,m3,m4)=some r->(∀ t∈qK a0 m1 m2 m3 m4,Bd t)->K9 a0 m1 m2 m3 m4 (λy=>y=r)):aP Tryz.prog 92 xL :=
 cU (E:=K0) (Hs:=YL) ADQ aZ a7 (aO rfl) 8 ⟨_,_,Tryz.func92,rfl⟩ λx r h1 h2=>by
  rw[YD];exact h x.1 x.2.1 x.2.2.1 x.2.2.2.1 x.2.2.2.2 r h1 h2
def AOI:aP Tryz.prog 92 xL:=AQG λd m1 m2 m3 m4 r h hb=>by
 obtain ⟨hx,hs,rfl⟩:=oT h;simp only[Prod.mk.injEq,true_and] at hx;obtain ⟨rfl,rfl,rfl,rfl⟩:=hx;replace hs:nS d:=hs;clear h;unfold K9 BJ6 BJV BJX v6 i6 f9 BJR BJQ m8 f7 H1 GE t7 t6 m7 d5 bF;refine qS (r:=aY) (uL d) hs.r (λX s y hy hok hbad=>?_) λh0=>?_
 ·have bad:∀ {n:Int},n≠0->uL d y=n->pPP n=pPP (cG (uL d) d.2.2.2.2.2):=λhn h=>by
   rw[hbad (by rw[h];exact hn),h]
  clear hbad hb
  repeat' first
   | refine ixK (λhn=>?_) (λi j hj hn=>?_)
   | rw[nV]
   | refine aG (s:=[(false,.bool)]) (NZ hs _) ?_
   | refine kU (λh=>?_) (λh=>?_)
   | refine cC (λh=>?_) (λh=>?_)
   | refine iE (λh=>?_) (λh=>?_)
  all_goals first
   | (exfalso;omega)
   | (refine bad (by decide) ?_;clear bad hok;unfold uL;simp[*,partOf,iO];done)
   | (refine hok ?_;clear bad hok;unfold uL;simp[*,partOf,iO];done)
   | (refine hok ?_;clear bad hok hs hy;unfold uL;simp_all[partOf,iO];done)
 ·show _=pPP (cG (uL d) d.2.2.2.2.2);rw[h0]
end Go.Pv
namespace Go.Pv
open Go Go.Proofs IntKind
noncomputable def BAI:Env:=Env.of []
def BAY:FuncId->Hint:=cA 273 [(2,.inv [.val 9 false (.int .i64)])] (λ_=>bA)
def ATK:aU Tryz.prog BAI:=.nil _
def AET(a0:Int)(a1:List aR)(R:T->Prop):Prop:=bD (Int×PUnit) (λX0 s1=>aC (decide (s1.1<(↑(g9 a1).length:Int))) (aX aA (g9 a1) s1.1 λ(y2:aR)=>aC (decide (y2.1<0)) (t8 R) (aC (decide (a0<=y2.1)) (t8 R) (aC (decide (y2.2<0)) (t8 R) (aC (decide (a0<=y2.2)) (t8 R) (aC (decide (y2.1=y2.2)) (BJQ R) (f9 X0 s1)))))) (BJX R)) (0,())
abbrev AIC:Sh:=[(false,(Sy.int IntKind.i64)),(false,aA.li)]
def M4 (n:Int) (x:aR):Int:=if x.1<0\/n<=x.1\/x.2<0\/n<=x.2 then 9 else if x.1=x.2 then 2 else 0
def KJ (x:Int×List aR):Option T:=rC x.2 (T.v (Value.int .i64 (cG (M4 x.1) x.2)))
noncomputable def NW:List T->Option T:=gS AIC KJ
def APH {a0 a1}:NW [pPP a0,T.sl false (List.map aA.enc a1)]=KJ (a0,a1):=bJ (s:=AIC) rfl (a0,a1) rfl
def A76:sP Tryz.prog 273 NW KJ (cJ AIC) AET:=iH (a1:=(false,(Sy.int IntKind.i64))) (a2:=(false,aA.li)) (sp:=KJ) (F:=AET) (Hs:=BAY) (f:=273) (k:=8) ATK aZ a7 (aO rfl) ⟨_,_,Tryz.func273,rfl⟩ rfl λ_ _ _=>by kernel_rfl
def A6N:aP Tryz.prog 273 NW:=A76 λn l r h hb=>by
 obtain ⟨hl,rfl⟩:=j7 h;clear h;unfold AET BJX g9 f9 BJQ t8;refine qS (r:=aA) (M4 n) hl (λX s y hy hok hbad=>?_) λh0=>?_
 ·have bad:∀ {m:Int},m≠0->M4 n y=m->pPP m=pPP (cG (M4 n) l):=λhn h=>by
   rw[hbad (by rw[h];exact hn),h]
  clear hbad hb
  repeat' first
   | refine kU (λh=>?_) (λh=>?_)
   | refine cC (λh=>?_) (λh=>?_)
  all_goals first
   | (exfalso;omega)
   | (refine bad (by decide) ?_;clear bad hok;unfold M4;first|(rw[if_pos (by omega)];done)|(rw[if_neg (by omega),if_pos (by omega)];done))
   | (refine hok ?_;clear bad hok;unfold M4;rw[if_neg (by omega),if_neg (by omega)];done)
 ·show _=pPP (cG (M4 n) l);rw[h0]
noncomputable def TT:Env:=Env.of [(273,.pure NW)]
def AJK:FuncId->Hint:=cA 133 [(8,.inv [.arr 0 1 (.int .i64),.val 31 false (.int .i64)]),(14,.inv [.arr 0 1 (.int .i64),.own 10 1 (.int .i64),.arr 2 1 .bool]),(16,.inv [.val 52 false (.int .i64),.fix 0,.fix 2,.fix 3]),(22,.inv [.arr 0 1 (.int .i64),.val 75 false (.int .i64)])] (λ_=>bA)
def AMQ:aU Tryz.prog TT:=.cons A6N (.nil _)
def d8:Sh:=[(false,Sy.int IntKind.i64)]
def LT(s14:List Int×List Int×List Bool×PUnit):List (List T):=List.map Sy.bool.enc s14.2.2.1
def UV(s3:List Int×Int×PUnit):List (List T):=List.map bF.enc s3.1
def BJS(s14:List Int×List Int×List Bool×PUnit):List (List T):=List.map bF.enc s14.2.1
def BJ5(s14:List Int×List Int×List Bool×PUnit):List (List T):=List.map bF.enc s14.1
def BJ7(R:T->Prop):Prop:=bQ (pPP 9).flat (R (T.b9 [T.sl false [],pPP 9]))
def T1(a0:Int)(a1:List aR)(R:T->Prop):Prop:=aC (decide (a0<0)) (BJ7 R) (aC (decide (256<a0)) (BJ7 R) (aJ d8 (NW [pPP a0,T.sl false (g9 a1)]) λ(y0:Int)=>aC (!decide (y0=0)) (bQ (pPP y0).flat (R (T.b9 [T.sl false [],pPP y0]))) (bQ ((decide (a0=a0)||decide (a0=0))&&decide (0<=a0)&&decide (a0*(↑8:Int)<=140737488355328) && decide (a0<=140737488355328)) (jI bF (List.replicate (Int.toNat a0) [pPP 0]) λ(y1:List Int)=>bD (List Int×Int×PUnit) (λX2 s3=>aC (decide (s3.2.1<(↑(g9 a1).length:Int))) (aX aA (g9 a1) s3.2.1 λ(y4:aR)=>aX bF (UV s3) y4.2 λ(y5:Int)=>fH bF (UV s3) (Int.toNat y4.2) 0 λ(y6:Int)=>aX bF (UV s3) y4.2 λ(y7:Int)=>E7 (UV s3) (Int.toNat y4.2) λ(y8:List T)=>bQ (decide (1<=y8.length)) (jI bF ((UV s3).set (Int.toNat y4.2) (bX y8 0 [pPP (i64.wrap (y6+1))])) λ(y9:List Int)=>X2 (y9,i64.wrap (s3.2.1+1),()))) (bQ ((decide (0=a0)||true)&&decide (0<=a0)&&decide (a0*(↑8:Int)<=140737488355328) && decide (a0<=140737488355328)) (bQ ((decide (a0=a0)||decide (a0=0))&&decide (0<=a0) && decide (a0*(↑1:Int)<=140737488355328) && decide (a0<=140737488355328)) (jI bF (UV s3) λ(y10:List Int)=>jI bF [] λ(y11:List Int)=>jI Sy.bool (List.replicate (Int.toNat a0) [pPR false]) λ(y12:List Bool)=>bD (List Int×List Int×List Bool×PUnit) (λX13 s14=>aC (decide ((↑(BJS s14).length:Int)<a0)) (gV (bG.arr false 1 (BJ5 s14)) (bG.arr false 1 (BJ5 s14)) (gV (bG.arr false 1 (LT s14)) (bG.arr false 1 (LT s14)) (gV (bG.arr false 1 (BJS s14)) (bG.arr false 1 (BJS s14)) (bD (Int×PUnit×PUnit×PUnit×PUnit) (λ(X15:Int×PUnit×PUnit×PUnit×PUnit->Prop) (J0:Int×PUnit×PUnit×PUnit×PUnit)=>aC (decide (J0.1<a0)) (aX Sy.bool (LT s14) J0.1 λ(y17:Bool)=>fH Sy.bool (LT s14) (Int.toNat J0.1) 0 λ(y18:Bool)=>aC y18 (gV (bG.arr false 1 (BJ5 s14)) (bG.arr false 1 (BJ5 s14)) (gV (bG.arr false 1 (LT s14)) (bG.arr false 1 (LT s14)) (gV (bG.arr false 1 (BJS s14)) (bG.arr false 1 (BJS s14)) (X15 (i64.wrap (J0.1+1),(),(),(),()))))) (aX bF (BJ5 s14) J0.1 λ(y19:Int)=>fH bF (BJ5 s14) (Int.toNat J0.1) 0 λ(y20:Int)=>aC (decide (0<y20)) (gV (bG.arr false 1 (BJ5 s14)) (bG.arr false 1 (BJ5 s14)) (gV (bG.arr false 1 (LT s14)) (bG.arr false 1 (LT s14)) (gV (bG.arr false 1 (BJS s14)) (bG.arr false 1 (BJS s14)) (X15 (i64.wrap (J0.1+1),(),(),(), ()))))) (aX Sy.bool (LT s14) J0.1 λ(y21:Bool)=>E7 (LT s14) (Int.toNat J0.1) λ(y22:List T)=>bQ (decide (1<=y22.length)) (bQ (decide (((BJS s14).length + 1) * 8 <= 140737488355328) && decide ((BJS s14).length + 1 <= 140737488355328)) (jI bF (BJ5 s14) λ(y23:List Int)=>bD (List Int×Int×PUnit) (λX24 s25=>aC (decide (s25.2.1 < (↑(g9 a1).length : Int))) (aX aA (g9 a1) s25.2.1 λ(y26:aR)=>aC (decide (y26.1=J0.1)) (aX bF (UV s25) y26.2 λ(y27:Int)=>fH bF (UV s25) (Int.toNat y26.2) 0 λ(y28:Int)=>aX bF (UV s25) y26.2 λ(y29:Int)=>E7 (UV s25) (Int.toNat y26.2) λ(y30:List T)=>bQ (decide (1<=y30.length)) (jI bF ((UV s25).set (Int.toNat y26.2) (bX y30 0 [pPP (i64.wrap (y28-1))])) λ(y31:List Int)=>X24 (y31, i64.wrap (s25.2.1+1), ()))) (jI bF (UV s25) λ(y32:List Int)=>X24 (y32, i64.wrap (s25.2.1+1), ()))) (jI bF (UV s25) λ(y33:List Int)=>jI bF (List.map bF.enc s14.2.1 ++ [[pPP J0.1]]) λ(y34:List Int)=>jI Sy.bool ((LT s14).set (Int.toNat J0.1) (bX y22 0 [pPR true])) λ(y35:List Bool)=>X13 (y33,y34,y35,()))) (y23,0,())))))) (bQ (pPP 20).flat (R (T.b9 [T.sl false [], pPP 20])))) (0,(),(),(),()))))) (bQ ((BJS s14).all λ(r:List T)=>r.all T.flat) (bQ (pPP 0).flat (R (T.b9 [T.sl false (BJS s14), pPP 0]))))) (y10,y11,y12,()))))) (y1,0,())))))
def AEY ( a0 a1 R):wE b8 Tryz.prog TT AJK 8 133 [aH false (Sy.int IntKind.i64) a0,aH false aA.li a1] R=T1 a0 a1 R:=by kernel_rfl
abbrev KF:Sh:=[(false,(Sy.int IntKind.i64)),(false,aA.li)]
abbrev AN:Sh:=[(false,(Sy.int IntKind.i64).li),(false,Sy.int IntKind.i64)]
def AWW (b:List Int) (e:aR):List Int:=b.set e.2.toNat (i64.wrap (b.getD e.2.toNat 0+1))
def AW2 (v:Int) (b:List Int) (e:aR):List Int:=if e.1=v then b.set e.2.toNat (i64.wrap (b.getD e.2.toNat 0-1)) else b
def I2 (b:List Int) (t:List Bool) (k:Nat):Bool:=!t.getD k false&&decide (b.getD k 0<=0)
def DC (l:List aR) (n:Nat):Nat->List Int->List Int->List Bool->List Int×Int
 | 0,_,o,_=>(o,0)
 | f+1,b,o,t=>match (List.range n).find? (I2 b t) with
  | none=>([],20)
  | some v=>DC l n f (l.foldl (AW2 v) b) (o++[(v:Int)]) (t.set v true)
def l9 (n:Int) (l:List aR):List Int×Int :=
 if n<0\/256<n then ([],9) else if cG (M4 n) l=0 then DC l n.toNat n.toNat (l.foldl AWW (List.replicate n.toNat 0)) [] (List.replicate n.toNat false) else ([],cG (M4 n) l)
def ZS {α:Type} {f:α->Int}:∀ {l:List α},cG f l=0->∀ a∈l,f a=0
 | [],_,_,h=>by cases h
 | b::l,h,a,ha=>by
  unfold cG at h;split at h
  ·rename_i hb;rcases List.mem_cons.1 ha with rfl|ha
   ·exact hb
   ·exact ZS h a ha
  ·exact absurd h ‹_›
def AP {r:Sy} {l:List r.den} {i:Int} (h0:0<=i) (h:i.toNat<l.length) (K:r.den->Prop):aX r (List.map r.enc l) i K=K l[i.toNat]:=by
 have e:i=((i.toNat:Nat):Int):=by omega
 have:=bK h K;rw[<-e] at this;exact this
def ALK {l:List Int} {k:Nat} (h:k<l.length) (y:Int):(List.map (Sy.int .i64).enc l).set k (bX ((Sy.int .i64).enc l[k]) 0 [pPP y])=List.map (Sy.int .i64).enc (l.set k y):=by
 rw[List.map_set];rfl
def A2Z {l:List Bool} {k:Nat} (h:k<l.length) (y:Bool):(List.map Sy.bool.enc l).set k (bX (Sy.bool.enc l[k]) 0 [pPR y])=List.map Sy.bool.enc (l.set k y):=by
 rw[List.map_set];rfl
variable {α:Type}
def AH {l:List α} {k:Nat} (d:α) (h:k<l.length):l.getD k d=l[k]:=by simp[List.getD,h]
def A8S (n:Nat):List.replicate n [T.v (Value.int .i64 0)]=List.map (Sy.int .i64).enc (List.replicate n 0):=by rw[List.map_replicate];rfl
def A1Y (n:Nat):List.replicate n [pPR false]=List.map Sy.bool.enc (List.replicate n false):=by rw[List.map_replicate];rfl
def AOG (l:List Int):((List.map (Sy.int .i64).enc l).all λ(r:List T)=>r.all T.flat)=true:=by
 rw[List.all_map,List.all_eq_true];intro a _;rfl
def PQ (x:Int×List aR):Option T:=rC x.2 (Sh.enc AN (l9 x.1 x.2))
noncomputable def EG:List T->Option (T):=gS KF PQ
def AGQ {a0 a1}:EG [pPP a0,T.sl false (List.map aA.enc a1)]=PQ (a0,a1):=bJ (s:=KF) rfl (a0,a1) rfl
def A0Y (h:∀ a0 a1 r,PQ (a0,a1)=some r->cJ KF (a0,a1)->T1 a0 a1 (λy=>y=r)):kR Tryz.prog 133 EG :=
 A7P (E:=TT) (Hs:=AJK) AMQ aZ a7 (aO rfl) 8 ⟨_,_,Tryz.func133,rfl⟩ rfl λx r h1 h2=>by
  obtain ⟨a0,a1⟩:=x;rw[show Sh.l7 KF (a0,a1)=[aH false (Sy.int IntKind.i64) a0,aH false aA.li a1] from rfl,AEY];exact h a0 a1 r h1 h2
def AXT:kR Tryz.prog 133 EG:=A0Y λn l r h hb=>by
 obtain ⟨hl,rfl⟩:=j7 h;clear h;have hl:l.length<=140737488355328:=hl;unfold T1 BJ7 BJ5 BJS UV LT g9 d8 bF;refine cC (λh=>?_) λhn0=>?_
 ·refine ⟨rfl,?_⟩;show _=Sh.enc AN (l9 n l);rw[l9,if_pos (Or.inl h)];rfl
 refine cC (λh=>?_) λhn1=>?_
 ·refine ⟨rfl,?_⟩;show _=Sh.enc AN (l9 n l);rw[l9,if_pos (Or.inr h)];rfl
 refine aG (s:=[(false,.int .i64)]) (y:=cG (M4 n) l) (by rw[APH];exact j8 _ hl) ?_;refine kU (λh0=>?_) (λh0=>?_)
 ·refine ⟨rfl,?_⟩;show _=Sh.enc AN (l9 n l);rw[l9,if_neg (by omega),if_neg h0];rfl
 have hv:l9 n l=DC l n.toNat n.toNat (l.foldl AWW (List.replicate n.toNat 0)) [] (List.replicate n.toNat false):=by
  rw[l9,if_neg (by omega),if_pos h0]
 have hend:∀ e∈l,0<=e.1/\e.1<n/\0<=e.2/\e.2<n:=λe he=>by
  have:=ZS h0 e he;unfold M4 at this;split at this
  ·exact absurd this (by decide)
  ·omega
 clear h0 hb;obtain ⟨N,rfl⟩:∃ N:Nat,n=(N:Int):=⟨n.toNat,by omega⟩
 rw[Int.toNat_natCast] at hv ⊢;refine ⟨by simp;omega,?_⟩;rw[A8S,dP rfl];refine bP l.length (λk s=>s.2.1=(k:Int)/\s.1.length=N/\(l.drop k).foldl AWW s.1=l.foldl AWW (List.replicate N 0)) ⟨rfl,by simp,rfl⟩ ?_;rintro X k ⟨b,i,u⟩ hk ⟨rfl,hbl,hbf⟩ hX;dsimp only at hbl hbf ⊢;refine cC (λhlt=>?_) λhge=>?_
 ·rw[ae] at hlt;have hlt:k<l.length:=by omega
  rw[bK hlt];obtain ⟨-,-,e0,e1⟩:=hend _ (ak hlt);have hj:(l[k].2).toNat<b.length:=by omega
  rw[AP e0 hj,jM hj,AP e0 hj,pW hj];refine ⟨rfl,?_⟩;rw[ALK hj,dP rfl];refine hX _ hlt ⟨?_,?_,?_⟩
  ·show i64.wrap ((k:Int)+1)=_;rw[bH]<;>omega
  ·show (List.set _ _ _).length=N;rw[List.length_set];exact hbl
  ·rw[List.drop_eq_getElem_cons hlt,List.foldl_cons] at hbf;rw[<-hbf]
   congr 1
   unfold AWW;rw[AH (l:=b) 0 hj]
 rw[ae] at hge;have hkl:k=l.length:=by omega
 subst hkl;rw[List.drop_length,List.foldl_nil] at hbf;rw[<-hbf] at hv;refine ⟨by simp;omega,⟨by simp;omega,?_⟩⟩;rw[dP rfl,AW3,A1Y,dP rfl];clear hX hge hbf;refine bP N (λk s=>s.1.length=N/\s.2.1.length=k/\s.2.2.1.length=N/\DC l N (N-k) s.1 s.2.1 s.2.2.1=l9 N l) ⟨hbl,rfl,by simp,by rw[hv];rfl⟩ ?_;clear hv hbl b u;rintro X k ⟨b,o,t,u⟩ hk ⟨hbl,hol,htl,hr⟩ hX;dsimp only at hbl hol htl hr ⊢;refine cC (λhlt=>?_) λhge=>?_
 ·rw[ae,hol] at hlt;have hlt:k<N:=by omega
  rw[dE,dE,dE];obtain ⟨m,hm⟩:∃ m,N-k=m+1:=⟨N-k-1,by omega⟩
  rw[hm,DC] at hr;refine bP N (λj s=>s.1=(j:Int)/\(List.range N).find? (I2 b t)=(List.range' j (N-j)).find? (I2 b t)) ⟨rfl,by rw[List.range_eq_range'];rfl⟩ ?_;rintro Y j ⟨i,u1,u2,u3,u4⟩ hj ⟨rfl,hf⟩ hY;dsimp only at hf ⊢;refine cC (λhjn=>?_) λhjn=>?_
  ·have hjn:j<N:=by omega
   have hjb:j<b.length:=by omega
   have hjt:j<t.length:=by omega
   obtain ⟨q,hq⟩:∃ q,N-j=q+1:=⟨N-j-1,by omega⟩
   rw[hq,List.range'_succ,List.find?_cons] at hf;have next:I2 b t j=false->Y (i64.wrap ((j:Int)+1),(),(),(),()):=λh=>by
    refine hY _ hjn ⟨?_,?_⟩
    ·show i64.wrap ((j:Int)+1)=_;rw[bH]<;>omega
    ·rw[hf,h];rw[show N-(j+1)=q by omega]
   simp only[Int.toNat_natCast];rw[bK hjt,jM hjt];refine wU (λht=>?_) λht=>?_
   ·rw[dE,dE,dE];exact next (by rw[I2,AH (l:=t) false hjt,ht];rfl)
   rw[bK hjb,jM hjb];refine cC (λhp=>?_) λhp=>?_
   ·rw[dE,dE,dE];exact next (by rw[I2,AH (l:=b) 0 hjb,aj (by omega),Bool.and_false])
   have hfree:I2 b t j=true:=by rw[I2,AH (l:=b) 0 hjb,AH (l:=t) false hjt,ht,ai (by omega)];rfl
   rw[hfree] at hf;rw[hf] at hr;dsimp only at hr;clear next hY hf
   rw[bK hjt,pW hjt];refine ⟨rfl,⟨by simp;omega,?_⟩⟩;rw[dP rfl];refine bP l.length (λk s=>s.2.1=(k:Int)/\s.1.length=N/\(l.drop k).foldl (AW2 j) s.1=l.foldl (AW2 j) b) ⟨rfl,hbl,rfl⟩ ?_;rintro Z i ⟨c,i',u⟩ hi ⟨rfl,hcl,hcf⟩ hZ;dsimp only at hcl hcf ⊢;refine cC (λhlt=>?_) λhge=>?_
   ·rw[ae] at hlt;have hlt:i<l.length:=by omega
    rw[bK hlt];obtain ⟨-,-,e0,e1⟩:=hend _ (ak hlt);have hjc:(l[i].2).toNat<c.length:=by omega
    rw[List.drop_eq_getElem_cons hlt,List.foldl_cons] at hcf;have hw:i64.wrap ((i:Int)+1)=((i+1:Nat):Int):=by rw[bH]<;>omega
    refine cC (λhv=>?_) λhv=>?_
    ·rw[AP e0 hjc,jM hjc,AP e0 hjc,pW hjc];refine ⟨rfl,?_⟩;rw[ALK hjc,dP rfl];refine hZ _ hlt ⟨hw,?_,?_⟩
     ·show (List.set _ _ _).length=N;rw[List.length_set];exact hcl
     ·rw[<-hcf]
      congr 1
      unfold AW2;rw[if_pos hv,AH (l:=c) 0 hjc]
    ·rw[dP rfl];refine hZ _ hlt ⟨hw,hcl,?_⟩;rw[<-hcf]
     congr 1
     unfold AW2;rw[if_neg hv]
   ·rw[ae] at hge;have hil:i=l.length:=by omega
    subst hil;rw[List.drop_length,List.foldl_nil] at hcf;rw[dP rfl,GI (r:=.int .i64) rfl o [T.v (.int .i64 (j:Int))] (j:Int) rfl,A2Z hjt,dP rfl];refine hX _ hlt ⟨hcl,by simp[hol],by simp[htl],?_⟩;rw[show N-(k+1)=m by omega];show DC l N m c (o++[(j:Int)]) (t.set j true)=_;rw[hcf];exact hr
  ·have hjn:j=N:=by omega
   subst hjn;rw[Nat.sub_self] at hf;rw[show (List.range' j 0)=[] from rfl,List.find?_nil] at hf;rw[hf] at hr;refine ⟨rfl,?_⟩;show _=Sh.enc AN (l9 (j:Int) l);rw[<-hr];rfl
 ·rw[ae,hol] at hge;have hkN:k=N:=by omega
  subst hkN;rw[Nat.sub_self,DC] at hr;refine ⟨AOG o,rfl,?_⟩;show _=Sh.enc AN (l9 (k:Int) l);rw[<-hr];rfl
end Go.Pv
namespace Go.Pv
open Go Go.Proofs IntKind
def wV (a0:List iII):List T:=[T.sl false (List.map Sy.str.enc a0)]
noncomputable def ADP:Env:=Env.of []
def AV4:FuncId->Hint:=λ_=>bA
def ATU:aU Tryz.prog ADP:=.nil _
def AE5(a0:List iII)(R:T->Prop):Prop:=R (T.fn 272 [] [T.ref [T.sl false (IO a0)]])
def AM6 ( a0 R):eJ b8 Tryz.prog ADP AV4 8 132 (wV a0) R=AE5 a0 R:=by kernel_rfl
def XC (l:List iII):Option T:=some (T.fn 272 [] [T.ref [T.sl false (List.map Sy.str.enc l)]])
def ADD (x y:List iII) (h:wV x=wV y):x=y:=by
 unfold wV at h;have h:=(T.sl.injEq .. ▸ (List.cons.inj h).1)
 exact map_inj (Sy.dM .str) h.2
noncomputable def G3:List T->Option (T):=gA (λ(x:List iII)=>wV x) XC
def SG (a0:List iII):G3 (wV a0)=XC a0:=fP (A:=(λ(x:List iII)=>wV x)) ADD a0
def A8G (h:∀ (a0:List iII) (r:T),XC a0=some r->(∀ t∈wV a0,Bd t)->AE5 a0 (λy=>y=r)):aP Tryz.prog 132 G3 :=
 cU (E:=ADP) (Hs:=AV4) ATU aZ a7 (aO rfl) 8 ⟨_,_,Tryz.func132,rfl⟩ λx r h1 h2=>by
  rw[AM6];exact h x r h1 h2
def A61:aP Tryz.prog 132 G3:=A8G λl r h hb=>by
 cases h;unfold AE5 IO;rfl
end Go.Pv
namespace Go.Pv
abbrev Pt:=Int×Int
def dU (a b c:Pt):Int:=(b.1-a.1)*(c.2-a.2)-(b.2-a.2)*(c.1-a.1)
def P3 (n:Int):Int:=if n<0 then -1 else if 0<n then 1 else 0
def btw (a b q:Pt):Bool:=decide (min a.1 b.1<=q.1)&&decide (q.1<=max a.1 b.1)&&(decide (min a.2 b.2<=q.2)&&decide (q.2<=max a.2 b.2))
def VW (a b q:Pt):Bool:=decide (dU a b q=0)&&btw a b q
def nC (a b c d:Pt):Bool:=VW a b c||VW a b d||VW c d a||VW c d b||(decide (P3 (dU a b c)*P3 (dU a b d)<0)&&decide (P3 (dU c d a)*P3 (dU c d b)<0))
def dK (q:Pt):Prop:=-32768<=q.1/\q.1<=32768∧-32768<=q.2/\q.2<=32768
def DA {x y M N:Int} (hx:-M<=x/\x<=M) (hy:-N<=y/\y<=N) (hM:0<=M) (hN:0<=N):-(M*N)<=x*y/\x*y<=M*N:=by
 have h1:x.natAbs<=M.toNat:=by omega
 have h2:y.natAbs<=N.toNat:=by omega
 have h3:=Nat.mul_le_mul h1 h2;rw[<-Int.natAbs_mul] at h3;have h4:((M.toNat*N.toNat:Nat):Int)=M*N:=by
  rw[Int.natCast_mul,Int.toNat_of_nonneg hM,Int.toNat_of_nonneg hN]
 omega
def AW0 {a b c:Pt} (ha:dK a) (hb:dK b) (hc:dK c):(-4294967296<=(b.1-a.1)*(c.2-a.2)/\(b.1-a.1)*(c.2-a.2)<=4294967296)/\(-4294967296<=(b.2-a.2)*(c.1-a.1)/\(b.2-a.2)*(c.1-a.1)<=4294967296):=by
 unfold dK at ha hb hc;have h1:=DA (x:=b.1-a.1) (y:=c.2-a.2) (M:=65536) (N:=65536) (by omega) (by omega) (by omega) (by omega);have h2:=DA (x:=b.2-a.2) (y:=c.1-a.1) (M:=65536) (N:=65536) (by omega) (by omega) (by omega) (by omega);constructor<;>constructor<;>omega
def A20 (n:Int):-1<=P3 n/\P3 n<=1:=by unfold P3;split<;>(try split)<;>omega
end Go.Pv
namespace Go.Pv
end Go.Pv
namespace Go.Pv
def hit (a b q:Pt):Bool:=(decide (a.2<=q.2)&&decide (q.2<b.2)&&decide (0<dU a b q))||(decide (b.2<=q.2)&&decide (q.2<a.2)&&decide (dU a b q<0))
def dr (u v w:Pt):Bool:=decide (u.2<w.2)&&decide (w.2<=v.2)&&decide (dU u v w<0)
def MV (a b q:Pt):dU b a q = - dU a b q:=by simp only[dU];grind
def BDH {a b q:Pt} (h:dU a b q=0) (hab:a.2<b.2) (h1:a.2<=q.2) (h2:q.2<=b.2):btw a b q=true:=by
 have e:(b.1-a.1)*(q.2-a.2)=(b.2-a.2)*(q.1-a.1):=by unfold dU at h;omega
 have hx:min a.1 b.1<=q.1/\q.1<=max a.1 b.1:=by
  rcases Int.le_total a.1 b.1 with hd|hd
  ·have m1:=Int.mul_nonneg (show 0<=b.1-a.1 by omega) (show 0<=q.2-a.2 by omega);have m2:(b.1-a.1)*(q.2-a.2)<=(b.1-a.1)*(b.2-a.2):=Int.mul_le_mul_of_nonneg_left (by omega) (by omega);have p1:0<=q.1-a.1:=by
    refine Int.not_lt.1 λh=>?_;have:=Int.mul_neg_of_pos_of_neg (show 0<b.2-a.2 by omega) h;omega
   have p2:q.1-a.1<=b.1-a.1:=by
    refine Int.not_lt.1 λh=>?_;have h3:=Int.mul_lt_mul_of_pos_left h (show 0<b.2-a.2 by omega);have h4:(b.2-a.2)*(b.1-a.1)=(b.1-a.1)*(b.2-a.2):=Int.mul_comm _ _;omega
   omega
  ·have m1:=Int.mul_nonneg (show 0<=a.1-b.1 by omega) (show 0<=q.2-a.2 by omega);have m2:(a.1-b.1)*(q.2-a.2)<=(a.1-b.1)*(b.2-a.2):=Int.mul_le_mul_of_nonneg_left (by omega) (by omega);have e1:(a.1-b.1)*(q.2-a.2) = - ((b.1-a.1)*(q.2-a.2)):=by grind
   have p1:q.1-a.1<=0:=by
    refine Int.not_lt.1 λh=>?_;have:=Int.mul_pos (show 0<b.2-a.2 by omega) h;omega
   have p2:b.1-a.1<=q.1-a.1:=by
    refine Int.not_lt.1 λh=>?_;have h3:=Int.mul_lt_mul_of_pos_left h (show 0<b.2-a.2 by omega);have h4:(a.1-b.1)*(b.2-a.2) = - ((b.2-a.2)*(b.1-a.1)):=by grind
    omega
   omega
 simp only[btw,ac,ah];omega
def A8J {a b q:Pt} (h:dU a b q=0) (hab:a.2<b.2) (h1:a.2<=q.2) (h2:q.2<=b.2):VW a b q=true:=by
 unfold VW;rw[ai h,BDH h hab h1 h2];rfl
end Go.Pv
namespace Go.Pv
end Go.Pv
namespace Go.Pv
def AWN (a b q:Pt):btw b a q=btw a b q:=by unfold btw;rw[Int.min_comm b.1,Int.max_comm b.1,Int.min_comm b.2,Int.max_comm b.2]
def A8I (a b q:Pt):VW b a q=VW a b q:=by
 unfold VW;rw[AWN,MV a b q]
 congr 1
 exact decide_eq_decide.2 (by omega)
def A3D:Nat->(Nat->Bool)->Bool
 | 0,_=>false
 | n+1,f=>A3D n f ^^ f n
def pt (p:List Pt) (i:Nat):Pt:=p.getD i (0,0)
def nx (p:List Pt) (i:Nat):Pt:=pt p ((i+1) % p.length)
def A67 (p:List Pt) (q:Pt):Bool:=A3D p.length λi=>hit (pt p i) (nx p i) q
end Go.Pv
namespace Go.Pv
open Go Go.Proofs IntKind
instance BI5 (q:Pt):Decidable (dK q):=by unfold dK;infer_instance
def jH {a b:Bool} (h:a=b):pPR a=pPR b:=by rw[h]
def JX {a b:Int} (h:a=b):pPP a=pPP b:=by rw[h]
variable {α:Type}
def OC (a b c:Pt) (r:α):Option α:=match decide (dK a/\dK b/\dK c) with
 | true=>some r
 | false=>none
def OD {a b c:Pt} {t r:α} (h:OC a b c t=some r):dK a/\dK b/\dK c/\r=t:=by
 unfold OC at h;split at h
 ·rename_i hc;cases h;obtain ⟨h1,h2,h3⟩:=of_decide_eq_true hc;exact ⟨h1,h2,h3,rfl⟩
 ·cases h
def OE {a b c:Pt} (t:α) (ha:dK a) (hb:dK b) (hc:dK c):OC a b c t=some t:=by unfold OC;rw[ai ⟨ha,hb,hc⟩]
def P1 {a b c:Pt} (ha:dK a) (hb:dK b) (hc:dK c):i64.wrap (i64.wrap (i64.wrap (b.1-a.1)*i64.wrap (c.2-a.2))-i64.wrap (i64.wrap (b.2-a.2)*i64.wrap (c.1-a.1)))=dU a b c:=by
 have h:=AW0 ha hb hc;unfold dK at ha hb hc;rw[bH (b.1-a.1) (by omega) (by omega),bH (c.2-a.2) (by omega) (by omega),bH (b.2-a.2) (by omega) (by omega),bH (c.1-a.1) (by omega) (by omega),
  bH ((b.1-a.1)*(c.2-a.2)) (by omega) (by omega),bH ((b.2-a.2)*(c.1-a.1)) (by omega) (by omega),bH _ (by omega) (by omega)]
 rfl
def FX (m n:Int):i64.wrap (P3 m*P3 n)=P3 m*P3 n:=by
 have h:=DA (A20 m) (A20 n) (by omega) (by omega);exact bH _ (by omega) (by omega)
def VR (a b:Int):(if b<a then b else a)=min a b:=by omega
def VP (a b:Int):(if a<b then b else a)=max a b:=by omega
noncomputable def ASQ:Env:=Env.of []
def AVS:FuncId->Hint:=λ_=>bA
def AD2:aU Tryz.prog ASQ:=.nil _
def ST(a1:aR)(a0:aR)(a2:aR):T:=pPP (i64.wrap (i64.wrap (i64.wrap (a1.1-a0.1)*i64.wrap (a2.2-a0.2)) - i64.wrap (i64.wrap (a1.2-a0.2)*i64.wrap (a2.1-a0.1))))
def LO(a0:aR)(a1:aR)(a2:aR)(R:T->Prop):Prop:=R (ST a1 a0 a2)
abbrev O2:Sh:=[(true,aA),(true,aA),(true,aA)]
def A5 (x:aR×aR×aR):Option T:=OC x.1 x.2.1 x.2.2 (T.v (Value.int .i64 (dU x.1 x.2.1 x.2.2)))
noncomputable def gJ:List T->Option T:=gS O2 A5
def AAO {a0 a1 a2}:gJ [aH true aA a0,aH true aA a1,aH true aA a2]=A5 (a0,a1,a2):=bJ (s:=O2) rfl (a0,a1,a2) rfl
def AQS:Of3 Tryz.prog 356 gJ A5 (cJ O2) LO:=AB5 (a1:=(true,aA)) (a2:=(true,aA)) (a3:=(true,aA)) (sp:=A5) (F:=LO) (Hs:=AVS) (f:=356) (k:=8) AD2 aZ a7 (aO rfl) ⟨_,_,Tryz.func356,rfl⟩ rfl λ_ _ _ _=>by kernel_rfl
def z6:aP Tryz.prog 356 gJ:=AQS λa b c r h hb=>by
 obtain ⟨h1,h2,h3,rfl⟩:=OD h;unfold LO ST;exact JX (P1 h1 h2 h3)
def j2 {a b c:Pt} (h1:dK a) (h2:dK b) (h3:dK c):gJ [aH true aA a,aH true aA b,aH true aA c]=some (Sh.enc [(false,.int .i64)] (dU a b c)):=(AAO ..).trans (OE _ h1 h2 h3)
noncomputable def ASY:Env:=Env.of []
def AV0:FuncId->Hint:=λ_=>bA
def AEA:aU Tryz.prog ASY:=.nil _
def LX(a0:aR)(a1:aR)(a2:aR)(R:T->Prop):Prop:=R (ST a1 a0 a2)
abbrev PA:Sh:=[(true,aA),(true,aA),(true,aA)]
def BB (x:aR×aR×aR):Option T:=OC x.1 x.2.1 x.2.2 (T.v (Value.int .i64 (dU x.1 x.2.1 x.2.2)))
noncomputable def nA:List T->Option T:=gS PA BB
def AAZ {a0 a1 a2}:nA [aH true aA a0,aH true aA a1,aH true aA a2]=BB (a0,a1,a2):=bJ (s:=PA) rfl (a0,a1,a2) rfl
def AQ0:Of3 Tryz.prog 359 nA BB (cJ PA) LX:=AB5 (a1:=(true,aA)) (a2:=(true,aA)) (a3:=(true,aA)) (sp:=BB) (F:=LX) (Hs:=AV0) (f:=359) (k:=8) AEA aZ a7 (aO rfl) ⟨_,_,Tryz.func359,rfl⟩ rfl λ_ _ _ _=>by kernel_rfl
def AOY:aP Tryz.prog 359 nA:=AQ0 λa b c r h hb=>by
 obtain ⟨h1,h2,h3,rfl⟩:=OD h;unfold LX ST;exact JX (P1 h1 h2 h3)
def r8 {a b c:Pt} (h1:dK a) (h2:dK b) (h3:dK c):nA [aH true aA a,aH true aA b,aH true aA c]=some (Sh.enc [(false,.int .i64)] (dU a b c)):=(AAZ ..).trans (OE _ h1 h2 h3)
noncomputable def A3O:Env:=Env.of []
def A44:FuncId->Hint:=λ_=>bA
def AMV:aU Tryz.prog A3O:=.nil _
def T6(a0:Int)(R:T->Prop):Prop:=aC (!decide (a0=a0)) (R (pPP (-1))) (aC (decide (a0<0)) (R (pPP (-1))) (aC (decide (0<a0)) (R (pPP 1)) (BJX R)))
abbrev WE:Sh:=[(false,(Sy.int IntKind.i64))]
def FM (n:Int):Option T:=some (T.v (Value.int .i64 (P3 n)))
noncomputable def pR:List T->Option T:=gS WE FM
def AGV {a0}:pR [pPP a0]=FM (a0):=bJ (s:=WE) rfl (a0) rfl
def A03:w5 Tryz.prog 367 pR FM (cJ WE) T6:=j5 (a1:=(false,(Sy.int IntKind.i64))) (sp:=FM) (F:=T6) (Hs:=A44) (f:=367) (k:=8) AMV aZ a7 (aO rfl) ⟨_,_,Tryz.func367,rfl⟩ rfl λ_ _=>by kernel_rfl
def vI (n:Int):pR [pPP n]=some (Sh.enc [(false,.int .i64)] (P3 n)):=AGV ..
noncomputable def A3P:Env:=Env.of []
def A45:FuncId->Hint:=λ_=>bA
def AMW:aU Tryz.prog A3P:=.nil _
def T7(a0:Int)(R:T->Prop):Prop:=R (pPP (if 1<if a0 < -1 then -1 else a0 then 1 else if a0 < -1 then -1 else a0))
abbrev WG:Sh:=[(false,(Sy.int IntKind.i64))]
def FN (n:Int):Option T:=some (T.v (Value.int .i64 (P3 n)))
noncomputable def pS:List T->Option T:=gS WG FN
def AGW {a0}:pS [pPP a0]=FN (a0):=bJ (s:=WG) rfl (a0) rfl
def A04:w5 Tryz.prog 358 pS FN (cJ WG) T7:=j5 (a1:=(false,(Sy.int IntKind.i64))) (sp:=FN) (F:=T7) (Hs:=A45) (f:=358) (k:=8) AMW aZ a7 (aO rfl) ⟨_,_,Tryz.func358,rfl⟩ rfl λ_ _=>by kernel_rfl
def vJ (n:Int):pS [pPP n]=some (Sh.enc [(false,.int .i64)] (P3 n)):=AGW ..
def AXX:aP Tryz.prog 367 pR:=A03 λn r h hb=>by
 cases h;unfold T6 BJX;refine kU (λh=>absurd rfl h) λ_=>?_;exact cC (λh=>JX (by unfold P3;rw[if_pos h])) λh=>cC (λh2=>JX (by unfold P3;rw[if_neg h,if_pos h2])) λh2=>JX (by unfold P3;rw[if_neg h,if_neg h2])
def AXY:aP Tryz.prog 358 pS:=A04 λn r h hb=>by
 cases h;unfold T7;refine JX ?_;unfold P3;omega
noncomputable def AMI:Env:=Env.of []
def ANF:FuncId->Hint:=λ_=>bA
def XY:aU Tryz.prog AMI:=.nil _
def WP(a2:aR)(a0:aR)(a1:aR)(R:T->Prop):Prop:=aC (decide (a2.1<=if a0.1<a1.1 then a1.1 else a0.1)) (aC (decide ((if a1.2<a0.2 then a1.2 else a0.2)<=a2.2)) (R (pPR (decide (a2.2<=if a0.2<a1.2 then a1.2 else a0.2)))) (R d4)) (R d4)
def F4(a0:aR)(a1:aR)(a2:aR)(R:T->Prop):Prop:=aC (decide ((if a1.1<a0.1 then a1.1 else a0.1)<=a2.1)) (WP a2 a0 a1 R) (R d4)
abbrev H0:Sh:=[(true,aA),(true,aA),(true,aA)]
def wA (x:aR×aR×aR):Option T:=some (pPR (btw x.1 x.2.1 x.2.2))
noncomputable def uB:List T->Option T:=gS H0 wA
def VA {a0 a1 a2}:uB [aH true aA a0,aH true aA a1,aH true aA a2]=wA (a0,a1,a2):=bJ (s:=H0) rfl (a0,a1,a2) rfl
def AHS:Of3 Tryz.prog 368 uB wA (cJ H0) F4:=AB5 (a1:=(true,aA)) (a2:=(true,aA)) (a3:=(true,aA)) (sp:=wA) (F:=F4) (Hs:=ANF) (f:=368) (k:=8) XY aZ a7 (aO rfl) ⟨_,_,Tryz.func368,rfl⟩ rfl λ_ _ _ _=>by kernel_rfl
def AGE:aP Tryz.prog 368 uB:=AHS λa b c r h hb=>by
 cases h;unfold F4 WP d4;rw[VR,VR,VP,VP];refine cC (λh1=>cC (λh2=>cC (λh3=>jH ?_) λh3=>jH ?_) λh2=>jH ?_) λh1=>jH ?_
 all_goals simp[btw,h1]
 all_goals simp[h2]
 all_goals simp[h3]
noncomputable def BGI:Env:=Env.of []
def BG4:FuncId->Hint:=λ_=>bA
def A4X:aU Tryz.prog BGI:=.nil _
def AVG(a0:aR)(a1:aR)(a2:aR)(R:T->Prop):Prop:=aC (decide ((if a1.1<a0.1 then a1.1 else a0.1)<=a2.1)) (WP a2 a0 a1 R) (R d4)
abbrev A2V:Sh:=[(true,aA),(true,aA),(true,aA)]
abbrev ALC:Sh:=[(false,Sy.bool)]
def AH1 (y:Sh.den ALC) (K:Sh.den ALC->Prop):aJ ALC (some (Sh.enc ALC y)) K=K y:=zU rfl y K
def PR (x:aR×aR×aR):Option T:=some (pPR (btw x.1 x.2.1 x.2.2))
noncomputable def eV:List T->Option T:=gS A2V PR
def AZJ {a0 a1 a2}:eV [aH true aA a0,aH true aA a1,aH true aA a2]=PR (a0,a1,a2):=bJ (s:=A2V) rfl (a0,a1,a2) rfl
def BEU:Of3 Tryz.prog 360 eV PR (cJ A2V) AVG:=AB5 (a1:=(true,aA)) (a2:=(true,aA)) (a3:=(true,aA)) (sp:=PR) (F:=AVG) (Hs:=BG4) (f:=360) (k:=8) A4X aZ a7 (aO rfl) ⟨_,_,Tryz.func360,rfl⟩ rfl λ_ _ _ _=>by kernel_rfl
def BCR:aP Tryz.prog 360 eV:=BEU λa b c r h hb=>by
 cases h;unfold AVG WP d4;rw[VR,VR,VP,VP];refine cC (λh1=>cC (λh2=>cC (λh3=>jH ?_) λh3=>jH ?_) λh2=>jH ?_) λh1=>jH ?_
 all_goals simp[btw,h1]
 all_goals simp[h2]
 all_goals simp[h3]
noncomputable def BGH:Env:=Env.of [(356,.pure gJ),(368,.pure uB)]
def BG3:FuncId->Hint:=λ_=>bA
def A4R:aU Tryz.prog BGH:=.cons z6 (.cons AGE (.nil _))
def GT(a0:aR)(a1:aR)(a2:aR):List T:=[aH true aA a0,aH true aA a1,aH true aA a2]
def AU5(a0:aR)(a1:aR)(a2:aR)(R:T->Prop):Prop:=aJ d8 (gJ (GT a0 a1 a2)) λ(y0:Int)=>aC (decide (y0=0)) (aJ d5 (uB (GT a0 a1 a2)) λ(y1:Bool)=>R (pPR y1)) (R d4)
abbrev A2U:Sh:=[(true,aA),(true,aA),(true,aA)]
def XB (x:aR×aR×aR):Option T:=OC x.1 x.2.1 x.2.2 (pPR (VW x.1 x.2.1 x.2.2))
noncomputable def xT:List T->Option T:=gS A2U XB
def AZC {a0 a1 a2}:xT [aH true aA a0,aH true aA a1,aH true aA a2]=XB (a0,a1,a2):=bJ (s:=A2U) rfl (a0,a1,a2) rfl
def BEO:Of3 Tryz.prog 361 xT XB (cJ A2U) AU5:=AB5 (a1:=(true,aA)) (a2:=(true,aA)) (a3:=(true,aA)) (sp:=XB) (F:=AU5) (Hs:=BG3) (f:=361) (k:=8) A4R aZ a7 (aO rfl) ⟨_,_,Tryz.func361,rfl⟩ rfl λ_ _ _ _=>by kernel_rfl
def AXW:aP Tryz.prog 361 xT:=BEO λa b c r h hb=>by
 obtain ⟨h1,h2,h3,rfl⟩:=OD h;unfold AU5 GT d8 d5 d4;refine aG (s:=[(false,.int .i64)]) (j2 h1 h2 h3) ?_;refine cC (λh=>?_) λh=>jH (by unfold VW;rw[aj h];rfl);refine aG (s:=[(false,.bool)]) (y:=btw a b c) (VA ..) ?_;exact jH (by unfold VW;rw[ai h];rfl)
def xU {a b c:Pt} (h1:dK a) (h2:dK b) (h3:dK c):xT [aH true aA a,aH true aA b,aH true aA c]=some (Sh.enc [(false,.bool)] (VW a b c)):=(AZC ..).trans (OE _ h1 h2 h3)
def SV (a b c d:Pt) (r:α):Option α:=match decide (dK a/\dK b/\dK c/\dK d) with
 | true=>some r
 | false=>none
def ABY {a b c d:Pt} {t r:α} (h:SV a b c d t=some r):dK a/\dK b/\dK c/\dK d/\r=t:=by
 unfold SV at h;split at h
 ·rename_i hc;cases h;obtain ⟨h1,h2,h3,h4⟩:=of_decide_eq_true hc;exact ⟨h1,h2,h3,h4,rfl⟩
 ·cases h
def ABZ {a b c d:Pt} (t:α) (ha:dK a) (hb:dK b) (hc:dK c) (hd:dK d):SV a b c d t=some t:=by unfold SV;rw[ai ⟨ha,hb,hc,hd⟩]
noncomputable def A3N:Env:=Env.of [(356,.pure gJ),(361,.pure xT),(367,.pure pR)]
def A43:FuncId->Hint:=λ_=>bA
def AMU:aU Tryz.prog A3N:=.cons z6 (.cons AXW (.cons AXX (.nil _)))
def m9(a0:aR)(a1:aR)(a3:aR):List T:=[aH true aA a0,aH true aA a1, aH true aA a3]
def BJ1(y4:Int):List T:=[pPP y4]
def T5(a0:aR)(a1:aR)(a2:aR)(a3:aR)(R:T->Prop):Prop:=aJ d5 (xT (GT a0 a1 a2)) λ(y0:Bool)=>aC y0 (R d7) (aJ d5 (xT (GT a0 a1 a3)) λ(y1:Bool)=>aC y1 (R d7) (aJ d5 (xT (GT a2 a3 a0)) λ(y2:Bool)=>aC y2 (R d7) (aJ d5 (xT (GT a2 a3 a1)) λ(y3:Bool)=>aC y3 (R d7) (aJ d8 (gJ (GT a0 a1 a2)) λ(y4:Int)=>aJ d8 (pR (BJ1 y4)) λ(y5:Int)=>aJ d8 (gJ (m9 a0 a1 a3)) λ(y6:Int)=>aJ d8 (pR (BJ1 y6)) λ(y7:Int)=>aC (decide (i64.wrap (y5*y7)<0)) (aJ d8 (gJ (m9 a2 a3 a0)) λ(y8:Int)=>aJ d8 (pR (BJ1 y8)) λ(y9:Int)=>aJ d8 (gJ (m9 a2 a3 a1)) λ(y10:Int)=>aJ d8 (pR (BJ1 y10)) λ(y11:Int)=>R (pPR (decide (i64.wrap (y9*y11)<0)))) (R d4)))))
abbrev WD:Sh:=[(true,aA),(true,aA),(true,aA),(true,aA)]
def FL (x:aR×aR×aR×aR):Option T:=SV x.1 x.2.1 x.2.2.1 x.2.2.2 (pPR (nC x.1 x.2.1 x.2.2.1 x.2.2.2))
noncomputable def r7:List T->Option T:=gS WD FL
def AGT {a0 a1 a2 a3}:r7 [aH true aA a0,aH true aA a1,aH true aA a2,
 aH true aA a3]=FL (a0,a1,a2,a3):=bJ (s:=WD) rfl (a0,a1,a2,a3) rfl
def A02:Of4 Tryz.prog 357 r7 FL (cJ WD) T5:=BIG (a1:=(true,aA)) (a2:=(true,aA)) (a3:=(true,aA)) (a4:=(true,aA)) (sp:=FL) (F:=T5) (Hs:=A43) (f:=357) (k:=8) AMU aZ a7 (aO rfl) ⟨_,_,Tryz.func357,rfl⟩ rfl λ_ _ _ _ _=>by kernel_rfl
def AXV:aP Tryz.prog 357 r7:=A02 λa b c d r h hb=>by
 obtain ⟨h1,h2,h3,h4,rfl⟩:=ABY h;unfold T5 BJ1 GT m9 d8 d7 d5 d4;refine aG (s:=[(false,.bool)]) (xU h1 h2 h3) ?_;refine wU (λh=>jH (by unfold nC;rw[h];rfl)) λk1=>?_;refine aG (s:=[(false,.bool)]) (xU h1 h2 h4) ?_;refine wU (λh=>jH (by unfold nC;rw[h,k1];rfl)) λk2=>?_;refine aG (s:=[(false,.bool)]) (xU h3 h4 h1) ?_;refine wU (λh=>jH (by unfold nC;rw[h,k1,k2];rfl)) λk3=>?_;refine aG (s:=[(false,.bool)]) (xU h3 h4 h2) ?_;refine wU (λh=>jH (by unfold nC;rw[h,k1,k2,k3];rfl)) λk4=>?_;refine aG (s:=[(false,.int .i64)]) (j2 h1 h2 h3) ?_;refine aG (s:=[(false,.int .i64)]) (vI _) ?_;refine aG (s:=[(false,.int .i64)]) (j2 h1 h2 h4) ?_;refine aG (s:=[(false,.int .i64)]) (vI _) ?_;rw[FX];refine cC (λh=>?_) λh=>jH (by unfold nC;rw[k1,k2,k3,k4,aj h];rfl);refine aG (s:=[(false,.int .i64)]) (j2 h3 h4 h1) ?_;refine aG (s:=[(false,.int .i64)]) (vI _) ?_;refine aG (s:=[(false,.int .i64)]) (j2 h3 h4 h2) ?_;refine aG (s:=[(false,.int .i64)]) (vI _) ?_;rw[FX];exact jH (by unfold nC;rw[k1,k2,k3,k4,ai h];rfl)
def AGU {a b c d:Pt} (h1:dK a) (h2:dK b) (h3:dK c) (h4:dK d):r7 [aH true aA a,aH true aA b,aH true aA c,aH true aA d]=some (Sh.enc [(false,.bool)] (nC a b c d)):=(AGT ..).trans (ABZ _ h1 h2 h3 h4)
noncomputable def BAM:Env:=Env.of []
def BA2:FuncId->Hint:=λ_=>bA
def ATP:aU Tryz.prog BAM:=.nil _
def AE0(a0:aR)(R:T->Prop):Prop:=aC (decide (a0.1 < -32768)) (R d7) (aC (decide (32768<a0.1)) (R d7) (aC (decide (a0.2 < -32768)) (R d7) (R (pPR (decide (32768<a0.2))))))
abbrev AIH:Sh:=[(true,aA)]
def KL (q:aR):Option T:=some (pPR (!decide (dK q)))
noncomputable def C5:List T->Option T:=gS AIH KL
def R3 {a0}:C5 [aH true aA a0]=KL (a0):=bJ (s:=AIH) rfl (a0) rfl
def A8B:w5 Tryz.prog 340 C5 KL (cJ AIH) AE0:=j5 (a1:=(true,aA)) (sp:=KL) (F:=AE0) (Hs:=BA2) (f:=340) (k:=8) ATP aZ a7 (aO rfl) ⟨_,_,Tryz.func340,rfl⟩ rfl λ_ _=>by kernel_rfl
def AJ7:aP Tryz.prog 340 C5:=A8B λq r h hb=>by
 cases h;unfold AE0 d7;have no:¬ dK q->true = !decide (dK q):=λh=>by rw[aj h];rfl
 refine cC (λh=>jH (no (by unfold dK;omega))) λh1=>cC (λh=>jH (no (by unfold dK;omega))) λh2=>cC (λh=>jH (no (by unfold dK;omega))) λh3=>jH ?_;by_cases h:dK q
 ·rw[ai h,Bool.not_true];unfold dK at h;exact aj (by omega)
 ·rw[aj h,Bool.not_false];unfold dK at h;exact ai (by omega)
def A21 {n:Int}:P3 n=0↔n=0:=by
 unfold P3;split
 ·omega
 ·split<;>omega
noncomputable def AS4:Env:=Env.of [(359,.pure nA),(358,.pure pS),(360,.pure eV)]
def AV1:FuncId->Hint:=λ_=>bA
def AEC:aU Tryz.prog AS4:=.cons AOY (.cons AXY (.cons BCR (.nil _)))
def RK(y5:Int)(a2:aR)(a3:aR)(a0:aR)(R:T->Prop)(y7:Int)(a1:aR):Prop:=aC (decide (y5=0)) (aJ d5 (eV (m9 a2 a3 a0)) λ(y10:Bool)=>aC y10 (R d7) (aC (decide (y7=0)) (aJ d5 (eV (m9 a2 a3 a1)) λ(y11:Bool)=>R (pPR y11)) (R d4))) (aC (decide (y7=0)) (aJ d5 (eV (m9 a2 a3 a1)) λ(y12:Bool)=>R (pPR y12)) (R d4))
def f5(y3:Int)(a0:aR)(a1:aR)(a3:aR)(R:T->Prop)(y5:Int)(a2:aR)(y7:Int):Prop:=aC (decide (y3=0)) (aJ d5 (eV (m9 a0 a1 a3)) λ(y9:Bool)=>aC y9 (R d7) (RK y5 a2 a3 a0 R y7 a1)) (RK y5 a2 a3 a0 R y7 a1)
def LZ(a0:aR)(a1:aR)(a2:aR)(a3:aR)(R:T->Prop):Prop:=aJ d8 (nA (GT a0 a1 a2)) λ(y0:Int)=>aJ d8 (pS (BJ1 y0)) λ(y1:Int)=>aJ d8 (nA (GT a0 a1 a3)) λ(y2:Int)=>aJ d8 (pS (BJ1 y2)) λ(y3:Int)=>aJ d8 (nA (GT a2 a3 a0)) λ(y4:Int)=>aJ d8 (pS (BJ1 y4)) λ(y5:Int)=>aJ d8 (nA (GT a2 a3 a1)) λ(y6:Int)=>aJ d8 (pS (BJ1 y6)) λ(y7:Int)=>aC (decide (i64.wrap (y1*y3)<0)) (aC (decide (i64.wrap (y5*y7)<0)) (R d7) (aC (decide (y1=0)) (aJ d5 (eV (m9 a0 a1 a2)) λ(y8:Bool)=>aC y8 (R d7) (f5 y3 a0 a1 a3 R y5 a2 y7)) (f5 y3 a0 a1 a3 R y5 a2 y7))) (aC (decide (y1=0)) (aJ d5 (eV (m9 a0 a1 a2)) λ(y23:Bool)=>aC y23 (R d7) (f5 y3 a0 a1 a3 R y5 a2 y7)) (f5 y3 a0 a1 a3 R y5 a2 y7))
abbrev PB:Sh:=[(true,aA),(true,aA),(true,aA),(true,aA)]
def BC (x:aR×aR×aR×aR):Option T:=SV x.1 x.2.1 x.2.2.1 x.2.2.2 (pPR (nC x.1 x.2.1 x.2.2.1 x.2.2.2))
noncomputable def xX:List T->Option T:=gS PB BC
def AA6 {a0 a1 a2 a3}:xX [aH true aA a0,aH true aA a1,aH true aA a2,
 aH true aA a3]=BC (a0,a1,a2,a3):=bJ (s:=PB) rfl (a0,a1,a2,a3) rfl
def AQ2:Of4 Tryz.prog 344 xX BC (cJ PB) LZ:=BIG (a1:=(true,aA)) (a2:=(true,aA)) (a3:=(true,aA)) (a4:=(true,aA)) (sp:=BC) (F:=LZ) (Hs:=AV1) (f:=344) (k:=8) AEC aZ a7 (aO rfl) ⟨_,_,Tryz.func344,rfl⟩ rfl λ_ _ _ _ _=>by kernel_rfl
def A18 (a b c:Pt) (K:Bool->Prop):aJ [(false,Sy.bool)] (eV [aH true aA a,aH true aA b,aH true aA c]) K=K (btw a b c):=by
 rw[show eV [aH true aA a,aH true aA b,aH true aA c]=PR (a,b,c) from AZJ ..];exact AH1 _ K
def AOZ:aP Tryz.prog 344 xX:=AQ2 λa b c d r h hb=>by
 obtain ⟨h1,h2,h3,h4,rfl⟩:=ABY h;unfold LZ BJ1 GT f5 RK m9 d8 d7 d5 d4;refine aG (s:=[(false,.int .i64)]) (r8 h1 h2 h3) ?_;refine aG (s:=[(false,.int .i64)]) (vJ _) ?_;refine aG (s:=[(false,.int .i64)]) (r8 h1 h2 h4) ?_;refine aG (s:=[(false,.int .i64)]) (vJ _) ?_;refine aG (s:=[(false,.int .i64)]) (r8 h3 h4 h1) ?_;refine aG (s:=[(false,.int .i64)]) (vJ _) ?_;refine aG (s:=[(false,.int .i64)]) (r8 h3 h4 h2) ?_;refine aG (s:=[(false,.int .i64)]) (vJ _) ?_;rw[FX,FX];have e:∀ {n:Bool},nC a b c d=n->pPR n=pPR (nC a b c d):=λh=>by rw[h]
 simp only[A18];unfold nC at e;unfold VW at e;clear h hb
 repeat' first
  | refine cC (λh=>?_) (λh=>?_)
  | refine wU (λh=>?_) (λh=>?_)
 all_goals (refine e ?_;clear e;simp only[A21] at *;simp[*,show P3 0=0 from rfl])
end Go.Pv
namespace Go.Pv
open Go Go.Proofs IntKind
def VZ {p:List Pt} {i:Nat} (h:i<p.length):pt p i=p[i]:=by unfold pt;rw[List.getD_eq_getElem?_getD,List.getElem?_eq_getElem h];rfl
def fQ {p:List aR} {k:Nat} (h:k<p.length) (K:aR->Prop):aX aA (List.map aA.enc p) (k:Int) K=K (pt p k):=by
 rw[bK (r:=aA) h,VZ h]
def vM {i n c:Nat} (hn:n<=1000) (hi:i<=1000) (hc:c<=2):(i64.wrap ((i:Int)+(c:Int))).tmod (n:Int)=(((i+c) % n:Nat):Int):=by
 rw[bH _ (by omega) (by omega),Int.tmod_eq_emod_of_nonneg (by omega),Int.natCast_emod,Int.natCast_add]
def AN2 (a b c:Pt):Int:=(a.1-b.1)*(c.1-b.1)+(a.2-b.2)*(c.2-b.2)
def QN (p:List Pt) (i k:Nat):Bool:=!(!decide ((k+1) % p.length=i)&&nC (pt p i) (nx p i) (pt p k) (nx p k))
def nxx (p:List Pt) (i:Nat):Pt:=pt p ((i+2) % p.length)
def ACA (p:List Pt) (i:Nat):Bool:=!decide (pt p i=nx p i)&&(!(decide (dU (pt p i) (nx p i) (nxx p i)=0)&&decide (0<AN2 (pt p i) (nx p i) (nxx p i)))&&(List.range p.length).all λk=>decide (k<i+2)||QN p i k)
def JN (p:List Pt):Bool:=(List.range p.length).all (ACA p)
def kQ (p:List Pt):Prop:=∀ q∈p,dK q
def OF (p:List Pt):Bool:=p.all λq=>decide (dK q)
def nX {p:List Pt}:OF p=true↔kQ p:=by
 simp only[OF,List.all_eq_true,ah];exact Iff.rfl
def kQ.pt {p:List Pt} (h:kQ p) (i:Nat):dK (pt p i):=by
 rcases Nat.lt_or_ge i p.length with hi|hi
 ·rw[VZ hi];exact h _ (ak hi)
 ·unfold Go.Pv.pt;rw[List.getD_eq_getElem?_getD,List.getElem?_eq_none hi];unfold dK;decide
def QM (p:List Pt):Bool:=decide (p.length<=1000)&&OF p
variable {α:Type}
def S0 (p:List Pt) (r:α):Option α:=match QM p with
 | true=>some r
 | false=>none
def ACF {p:List Pt} {t r:α} (h:S0 p t=some r):p.length<=1000/\kQ p/\r=t:=by
 unfold S0 at h;split at h
 ·rename_i hc;simp only[QM,ac,ah,nX] at hc;cases h;exact ⟨hc.1,hc.2,rfl⟩
 ·cases h
def ACG {p:List Pt} (t:α) (h:p.length<=1000) (h2:kQ p):S0 p t=some t:=by
 unfold S0;rw[show QM p=true by simp only[QM,ac,ah,nX];exact ⟨h,h2⟩]
def A3C {a b c:Pt} (ha:dK a) (hb:dK b) (hc:dK c):i64.wrap (i64.wrap (i64.wrap (a.1-b.1)*i64.wrap (c.1-b.1))+i64.wrap (i64.wrap (a.2-b.2)*i64.wrap (c.2-b.2)))=AN2 a b c:=by
 unfold dK at ha hb hc;have h1:=DA (x:=a.1-b.1) (y:=c.1-b.1) (M:=65536) (N:=65536) (by omega) (by omega) (by omega) (by omega);have h2:=DA (x:=a.2-b.2) (y:=c.2-b.2) (M:=65536) (N:=65536) (by omega) (by omega) (by omega) (by omega);rw[bH (a.1-b.1) (by omega) (by omega),bH (c.2-b.2) (by omega) (by omega),bH (a.2-b.2) (by omega) (by omega),bH (c.1-b.1) (by omega) (by omega),
  bH ((a.1-b.1)*(c.1-b.1)) (by omega) (by omega),bH ((a.2-b.2)*(c.2-b.2)) (by omega) (by omega),bH _ (by omega) (by omega)]
 rfl
noncomputable def AMG:Env:=Env.of [(356,.pure gJ),(357,.pure r7)]
def ANC:FuncId->Hint:=cA 341 [(3,.inv [.val 13 false (.int .i64)]),(12,.inv [.val 8 false (.int .i64)])] (λ_=>bA)
def XW:aU Tryz.prog AMG:=.cons z6 (.cons AXV (.nil _))
def i7(a0:List aR)(s1:Int×PUnit)(y2:aR)(y3:aR)(R:T->Prop)(X0:Int×PUnit->Prop):Prop:=bD (Int×PUnit) (λX6 s7=>aC (decide (s7.1<(↑(g9 a0).length:Int))) (bQ (!decide ((↑(g9 a0).length:Int)=0)) (aC (!decide ((i64.wrap (s7.1+1)).tmod (↑(g9 a0).length:Int) = s1.1)) (aX aA (g9 a0) s7.1 λ(y8:aR)=>bQ (!decide ((↑(g9 a0).length:Int)=0)) (aX aA (g9 a0) ((i64.wrap (s7.1+1)).tmod (↑(g9 a0).length:Int)) λ(y9:aR)=>aJ d5 (r7 [aH true aA y2,aH true aA y3, aH true aA y8,aH true aA y9]) λ(y10:Bool)=>aC y10 (R d4) (f9 X6 s7))) (f9 X6 s7))) (f9 X0 s1)) (i64.wrap (s1.1+2),())
def F2(a0:List aR)(R:T->Prop):Prop:=bD (Int×PUnit) (λX0 s1=>aC (decide (s1.1<(↑(g9 a0).length:Int))) (aX aA (g9 a0) s1.1 λ(y2:aR)=>bQ (!decide ((↑(g9 a0).length:Int)=0)) (aX aA (g9 a0) ((i64.wrap (s1.1+1)).tmod (↑(g9 a0).length:Int)) λ(y3:aR)=>aC (decide (y2.1=y3.1)&&(decide (y2.2=y3.2)&&true)) (R d4) (bQ (!decide ((↑(g9 a0).length:Int)=0)) (aX aA (g9 a0) ((i64.wrap (s1.1+2)).tmod (↑(g9 a0).length:Int)) λ(y4:aR)=>aJ d8 (gJ (m9 y2 y3 y4)) λ(y5:Int)=>aC (decide (y5=0)) (aC (decide (0 < i64.wrap (i64.wrap (i64.wrap (y2.1-y3.1)*i64.wrap (y4.1-y3.1)) + i64.wrap (i64.wrap (y2.2-y3.2)*i64.wrap (y4.2-y3.2))))) (R d4) (i7 a0 s1 y2 y3 R X0)) (i7 a0 s1 y2 y3 R X0))))) (R d7)) (0,())
abbrev HY:Sh:=[(false,aA.li)]
def v7 (p:List aR):Option T:=S0 p (pPR (JN p))
noncomputable def nU:List T->Option T:=gS HY v7
def U7 {a0}:nU [T.sl false (List.map aA.enc a0)]=v7 (a0):=bJ (s:=HY) rfl (a0) rfl
def AHQ:w5 Tryz.prog 341 nU v7 (cJ HY) F2:=j5 (a1:=(false,aA.li)) (sp:=v7) (F:=F2) (Hs:=ANC) (f:=341) (k:=8) XW aZ a7 (aO rfl) ⟨_,_,Tryz.func341,rfl⟩ rfl λ_ _=>by kernel_rfl
def UI {n:Nat} {f:Nat->Bool} {i:Nat} (hi:i<n) (h:f i=false):(List.range n).all f=false:=by
 rw[Bool.eq_false_iff];intro ha;have:=p8.1 ha i hi;rw[h] at this;cases this
def ARS {p:List aR} {i:Nat} (hl:p.length<=1000) (hn:kQ p) (hi:i<p.length) {Bad Good:Prop} (hbad:(List.range p.length).all (λk=>decide (k<i+2)||QN p i k)=false->Bad) (hgood:(List.range p.length).all (λk=>decide (k<i+2)||QN p i k)=true->Good) :
  bD (Int×PUnit)
   (λ(X6:Int×PUnit->Prop) (s7:Int×PUnit) =>
    aC (decide (s7.1<(↑(List.map aA.enc p).length:Int)))
     (bQ (!decide ((↑(List.map aA.enc p).length:Int)=0))
      (aC (!decide ((i64.wrap (s7.1+1)).tmod (↑(List.map aA.enc p).length:Int)=(i:Int)))
       (aX aA (List.map aA.enc p) s7.1 λ(y8:aR) =>
        bQ (!decide ((↑(List.map aA.enc p).length:Int)=0))
         (aX aA (List.map aA.enc p) ((i64.wrap (s7.1+1)).tmod (↑(List.map aA.enc p).length:Int))
          λ(y9:aR) =>
          aJ [(false,Sy.bool)] (r7 [aH true aA (pt p i),aH true aA (nx p i),aH true aA y8,aH true aA y9])
           λ(y10:Bool)=>aC y10 Bad (X6 (i64.wrap (s7.1+1),()))))
       (X6 (i64.wrap (s7.1+1),()))))
     Good)
   (i64.wrap ((i:Int)+2),()):=by
 refine bP p.length (λm s=>s=(((i+2+m:Nat):Int),())/\∀ k,k<i+2+m->k<p.length->(decide (k<i+2)||QN p i k)=true) ⟨by rw[bH _ (by omega) (by omega)];simp,λk h1 h2=>by simp at h1;simp[h1]⟩ ?_;rintro X m s hm ⟨rfl,hJ⟩ hX;dsimp only;rw[ae];refine cC (λhlt=>?_) λhge=>hgood (p8.2 λk hk=>hJ k (by omega) hk);have hk:i+2+m<p.length:=by omega
 have hne:(!decide ((p.length:Int)=0))=true:=by rw[aj (by omega)];rfl
 have hix:(i64.wrap (((i+2+m:Nat):Int)+1)).tmod (p.length:Int)=(((i+2+m+1) % p.length:Nat):Int):=vM (c:=1) hl (by omega) (by omega);have hw:i64.wrap (((i+2+m:Nat):Int)+1)=((i+2+(m+1):Nat):Int):=by rw[bH _ (by omega) (by omega)];omega
 have hmod:(i+2+m+1) % p.length<p.length:=Nat.mod_lt _ (by omega);have go:QN p i (i+2+m)=true->X (((i+2+(m+1):Nat):Int),()):=λh=>hX _ (by omega) ⟨rfl,λk h1 h2=>by
  rcases Nat.lt_or_ge k (i+2+m) with h3|h3
  ·exact hJ k h3 h2
  ·have:k=i+2+m:=by omega
   subst this;rw[h];simp⟩
 refine ⟨hne,?_⟩;rw[hix,hw];refine kU (λh=>?_) λh=>go (by unfold QN;rw[ai (show (i+2+m+1) % p.length=i by omega)];rfl);rw[fQ hk,A1Z,fQ hmod];refine ⟨hne,?_⟩;refine aG (s:=[(false,.bool)]) (AGU (hn.pt _) (hn.pt _) (hn.pt _) (hn.pt _)) ?_;have e:QN p i (i+2+m) = !nC (pt p i) (nx p i) (pt p (i+2+m)) (nx p (i+2+m)):=by
  unfold QN;rw[aj (show ¬ (i+2+m+1) % p.length=i by omega)];rfl
 refine wU (λhm=>hbad (UI hk ?_)) λhm=>go ?_
 ·show (decide (i+2+m<i+2)||QN p i (i+2+m))=false;rw[e,show nC (pt p i) (nx p i) (pt p (i+2+m)) (nx p (i+2+m))=true from hm];simp
 ·rw[e,show nC (pt p i) (nx p i) (pt p (i+2+m)) (nx p (i+2+m))=false from hm];rfl
def AGD:aP Tryz.prog 341 nU:=AHQ λp r h hb=>by
 obtain ⟨hl,hn,rfl⟩:=ACF h;clear h;unfold F2 i7 g9 f9 m9 d8 d7 d5 d4;refine bP p.length (λk s=>s=((k:Int),())/\∀ i,i<k->i<p.length->ACA p i=true) ⟨rfl,λi h=>by omega⟩ ?_;rintro X k s hk ⟨rfl,hJ⟩ hX;dsimp only;refine cC (λhlt=>?_) λhge=>jH (Eq.symm (p8.2 λi hi=>hJ i (by rw[ae] at hge;omega) hi));rw[ae] at hlt;have hlt:k<p.length:=by omega
 have hne:(!decide (((List.map aA.enc p).length:Int)=0))=true:=by rw[ae,aj (by omega)];rfl
 have hm1:(k+1) % p.length<p.length:=Nat.mod_lt _ (by omega);have hm2:(k+2) % p.length<p.length:=Nat.mod_lt _ (by omega);have i1:(i64.wrap ((k:Int)+1)).tmod ((List.map aA.enc p).length:Int)=(((k+1) % p.length:Nat):Int):=by rw[ae];exact vM (c:=1) hl (by omega) (by omega)
 have i2:(i64.wrap ((k:Int)+2)).tmod ((List.map aA.enc p).length:Int)=(((k+2) % p.length:Nat):Int):=by rw[ae];exact vM (c:=2) hl (by omega) (by omega)
 have bad:ACA p k=false->pPR false=pPR (JN p):=λh=>jH (UI hlt h).symm;have oO:ACA p k=true->X (i64.wrap ((k:Int)+1),()):=λh=>hX _ hlt ⟨by rw[show i64.wrap ((k:Int)+1)=((k+1:Nat):Int) from bH _ (by omega) (by omega)],λi h1 h2=>by
  rcases Nat.lt_or_ge i k with h3|h3
  ·exact hJ i h3 h2
  ·have:i=k:=by omega
   subst this;exact h⟩
 rw[fQ hlt,i1];refine ⟨hne,?_⟩;rw[fQ hm1];have heq:(decide ((pt p k).1=(pt p ((k+1) % p.length)).1)&&(decide ((pt p k).2=(pt p ((k+1) % p.length)).2)&&true))=decide (pt p k=nx p k):=by
  rw[Bool.and_true,<-Bool.decide_and];exact decide_eq_decide.2 Prod.ext_iff.symm
 rw[heq];refine cC (λh=>bad (by unfold ACA;rw[ai h];rfl)) λh1=>?_;refine ⟨hne,?_⟩;rw[i2,fQ hm2];refine aG (s:=[(false,.int .i64)]) (j2 (hn.pt _) (hn.pt _) (hn.pt _)) ?_;have inner:(decide (dU (pt p k) (nx p k) (nxx p k)=0)&&decide (0<AN2 (pt p k) (nx p k) (nxx p k)))=false->ACA p k=(List.range p.length).all λj=>decide (j<k+2)||QN p k j:=λh=>by
  unfold ACA;rw[aj h1,h];simp
 have tail:(decide (dU (pt p k) (nx p k) (nxx p k)=0)&&decide (0<AN2 (pt p k) (nx p k) (nxx p k)))=false->_:=λh=>ARS (Bad:=pPR false=pPR (JN p)) (Good:=X (i64.wrap ((k:Int)+1),())) hl hn hlt (λh2=>bad (by rw[inner h,h2])) (λh2=>oO (by rw[inner h,h2]));refine cC (λh2=>?_) λh2=>tail (by rw[show decide (dU (pt p k) (nx p k) (nxx p k)=0)=false from aj h2];rfl);rw[A3C (hn.pt _) (hn.pt _) (hn.pt _)];refine cC (λh3=>bad ?_) λh3=>tail (by rw[show decide (0<AN2 (pt p k) (nx p k) (nxx p k))=false from aj h3];simp);unfold ACA;rw[ai (show dU (pt p k) (nx p k) (nxx p k)=0 from h2),ai (show 0<AN2 (pt p k) (nx p k) (nxx p k) from h3)];simp
def U8 {p:List Pt} (h:p.length<=1000) (h2:kQ p):nU [T.sl false (List.map aA.enc p)]=some (Sh.enc [(false,.bool)] (JN p)):=(U7 ..).trans (ACG _ h h2)
def BU:Nat->(Nat->Int)->Int
 | 0,_=>0
 | n+1,f=>BU n f+f n
def AIO (p:List Pt) (i:Nat):Int:=(pt p i).1*(nx p i).2-(nx p i).1*(pt p i).2
def MG (p:List Pt):Int:=BU p.length (AIO p)
def ALL {p:List Pt} (h:kQ p) (i:Nat):(-1073741824<=(pt p i).1*(nx p i).2/\(pt p i).1*(nx p i).2<=1073741824)/\(-1073741824<=(nx p i).1*(pt p i).2/\(nx p i).1*(pt p i).2<=1073741824):=by
 have h1:=h.pt i;have h2:dK (nx p i):=h.pt _;unfold dK at h1 h2;have b1:=DA (x:=(pt p i).1) (y:=(nx p i).2) (M:=32768) (N:=32768) (by omega) (by omega) (by omega) (by omega);have b2:=DA (x:=(nx p i).1) (y:=(pt p i).2) (M:=32768) (N:=32768) (by omega) (by omega) (by omega) (by omega);constructor<;>constructor<;>omega
def J7 {p:List Pt} (h:kQ p):∀ n:Nat,-(2147483648*(n:Int))<=BU n (AIO p)/\BU n (AIO p)<=2147483648*(n:Int)
 | 0=>by simp[BU]
 | n+1=>by
  have ih:=J7 h n;have hb:=ALL h n;unfold BU;have e:AIO p n=(pt p n).1*(nx p n).2-(nx p n).1*(pt p n).2:=rfl;constructor<;>push_cast<;>omega
noncomputable def A3K:Env:=Env.of []
def A40:FuncId->Hint:=cA 342 [(3,.inv [.val 3 false (.int .i64),.val 9 false (.int .i64)])] (λ_=>bA)
def AMR:aU Tryz.prog A3K:=.nil _
def T2(a0:List aR)(R:T->Prop):Prop:=bD (Int×Int×PUnit) (λX0 s1=>aC (decide (s1.2.1<(↑(g9 a0).length:Int))) (aX aA (g9 a0) s1.2.1 λ(y2:aR)=>bQ (!decide ((↑(g9 a0).length:Int)=0)) (aX aA (g9 a0) ((i64.wrap (s1.2.1+1)).tmod (↑(g9 a0).length:Int)) λ(y3:aR)=>X0 (i64.wrap (s1.1 + i64.wrap (i64.wrap (y2.1*y3.2)-i64.wrap (y3.1*y2.2))), i64.wrap (s1.2.1+1),()))) (R (pPP s1.1))) (0,0,())
abbrev WA:Sh:=[(false,aA.li)]
def FJ (p:List aR):Option T:=S0 p (T.v (Value.int .i64 (MG p)))
noncomputable def pO:List T->Option T:=gS WA FJ
def AGR {a0}:pO [T.sl false (List.map aA.enc a0)]=FJ (a0):=bJ (s:=WA) rfl (a0) rfl
def A0Z:w5 Tryz.prog 342 pO FJ (cJ WA) T2:=j5 (a1:=(false,aA.li)) (sp:=FJ) (F:=T2) (Hs:=A40) (f:=342) (k:=8) AMR aZ a7 (aO rfl) ⟨_,_,Tryz.func342,rfl⟩ rfl λ_ _=>by kernel_rfl
def ZZ:aP Tryz.prog 342 pO:=A0Z λp r h hb=>by
 obtain ⟨hl,hn,rfl⟩:=ACF h;clear h;unfold T2 g9;refine bP p.length (λk s=>s=(BU k (AIO p),(k:Int),())) rfl ?_;rintro X k s hk rfl hX;dsimp only;refine cC (λhlt=>?_) λhge=>JX (by rw[ae] at hge;rw[show k=p.length by omega];rfl);rw[ae] at hlt;have hlt:k<p.length:=by omega
 have hne:(!decide (((List.map aA.enc p).length:Int)=0))=true:=by rw[ae,aj (by omega)];rfl
 have hm1:(k+1) % p.length<p.length:=Nat.mod_lt _ (by omega);have i1:(i64.wrap ((k:Int)+1)).tmod ((List.map aA.enc p).length:Int)=(((k+1) % p.length:Nat):Int):=by rw[ae];exact vM (c:=1) hl (by omega) (by omega)
 rw[fQ hlt,i1];refine ⟨hne,?_⟩;rw[fQ hm1];have hb1:=ALL hn k;have hb2:=J7 hn k;have hb3:=J7 hn (k+1);refine hX _ hlt ?_;rw[show i64.wrap ((k:Int)+1)=((k+1:Nat):Int) from bH _ (by omega) (by omega)];have e:i64.wrap (BU k (AIO p)+i64.wrap (i64.wrap ((pt p k).1*(nx p k).2)-i64.wrap ((nx p k).1*(pt p k).2)))=BU (k+1) (AIO p):=by
  rw[bH ((pt p k).1*(nx p k).2) (by omega) (by omega),bH ((nx p k).1*(pt p k).2) (by omega) (by omega),bH ((pt p k).1*(nx p k).2-(nx p k).1*(pt p k).2) (by omega) (by omega),bH _ (by omega) (by omega)];rfl
 rw[<-e];rfl
def N0 {p:List Pt} (h:p.length<=1000) (h2:kQ p):pO [T.sl false (List.map aA.enc p)]=some (Sh.enc [(false,.int .i64)] (MG p)):=(AGR ..).trans (ACG _ h h2)
def kV (p:List Pt):Int:=if p.length<3 then 3 else if 32<p.length then 4 else if OF p=false then 9 else if JN p=false\/MG p=0 then 17 else 0
noncomputable def AMF:Env:=Env.of [(340,.pure C5),(341,.pure nU),(342,.pure pO)]
def ANB:FuncId->Hint:=cA 355 [(2,.inv [.val 8 false (.int .i64)])] (λ_=>bA)
def XV:aU Tryz.prog AMF:=.cons AJ7 (.cons AGD (.cons ZZ (.nil _)))
def PP(a0:List aR)(R:T->Prop):Prop:=aJ d5 (nU (BJW a0)) λ(y4:Bool)=>aC (!y4) (R (pPP 17)) (aJ d8 (pO (BJW a0)) λ(y5:Int)=>aC (decide (y5=0)) (R (pPP 17)) (BJX R))
def F1(a0:List aR)(R:T->Prop):Prop:=aC (decide ((↑(g9 a0).length:Int)<3)) (R (pPP 3)) (aC (decide (32<(↑(g9 a0).length:Int))) (R (pPP 4)) (bD (Int×PUnit) (λX0 s1=>aC (decide (s1.1<(↑(g9 a0).length:Int))) (aX aA (g9 a0) s1.1 λ(y2:aR)=>aJ d5 (C5 [aH true aA y2]) λ(y3:Bool)=>aC y3 (aC (decide (0<=s1.1)) (t8 R) (PP a0 R)) (f9 X0 s1)) (PP a0 R)) (0,())))
abbrev HX:Sh:=[(false,aA.li)]
def vZ (p:List aR):Option T:=some (T.v (Value.int .i64 (kV p)))
noncomputable def hO:List T->Option T:=gS HX vZ
def U6 {a0}:hO [T.sl false (List.map aA.enc a0)]=vZ (a0):=bJ (s:=HX) rfl (a0) rfl
def AHP:w5 Tryz.prog 310 hO vZ (cJ HX) F1:=j5 (a1:=(false,aA.li)) (sp:=vZ) (F:=F1) (Hs:=ANB) (f:=310) (k:=8) XV aZ a7 (aO rfl) ⟨_,_,Tryz.func310,rfl⟩ rfl λ_ _=>by kernel_rfl
def CZ:aP Tryz.prog 310 hO:=AHP λp r h hb=>by
 cases h;have is:∀ {n:Int},kV p=n->pPP n=pPP (kV p):=λh=>by rw[h]
 unfold F1 PP BJX BJW g9 f9 t8 d8 d5;refine cC (λh=>is (by rw[ae] at h;unfold kV;rw[if_pos (by omega)])) λh1=>?_;refine cC (λh=>is (by rw[ae] at h h1;unfold kV;rw[if_neg (by omega),if_pos (by omega)])) λh2=>?_;rw[ae] at h1 h2;refine bP p.length (λk s=>s=((k:Int),())/\∀ i,i<k->i<p.length->dK (pt p i)) ⟨rfl,λi h=>by omega⟩ ?_;rintro X k s hk ⟨rfl,hJ⟩ hX;dsimp only;refine cC (λhlt=>?_) λhge=>?_
 ·rw[ae] at hlt;have hlt:k<p.length:=by omega
  rw[fQ hlt];refine aG (s:=[(false,.bool)]) (y:=!decide (dK (pt p k))) (R3 ..) ?_;refine kU (λhf=>?_) λhn=>hX _ hlt ⟨by rw[show i64.wrap ((k:Int)+1)=((k+1:Nat):Int) from bH _ (by omega) (by omega)],λi h1 h2=>by
   rcases Nat.lt_or_ge i k with h3|h3
   ·exact hJ i h3 h2
   ·have:i=k:=by omega
    subst this;exact hn⟩
  refine cC (λ_=>is ?_) λh=>by omega
  have:OF p=false:=by
   rw[Bool.eq_false_iff];intro h;have:=nX.1 h _ (ak hlt);rw[<-VZ hlt] at this;exact hf this
  unfold kV;rw[if_neg (by omega),if_neg (by omega),if_pos this]
 ·have hN:kQ p:=λq hq=>by
   obtain ⟨i,hi,rfl⟩:=List.mem_iff_getElem.1 hq;rw[<-VZ hi];rw[ae] at hge;exact hJ i (by omega) hi
  have hnb:¬ OF p=false:=by rw[nX.2 hN];simp
  refine aG (s:=[(false,.bool)]) (U8 (by omega) hN) ?_;refine iE (λh=>is (by unfold kV;rw[if_neg (by omega),if_neg (by omega),if_neg hnb,if_pos (.inl h)])) λhs=>?_;refine aG (s:=[(false,.int .i64)]) (N0 (by omega) hN) ?_;refine cC (λh=>is (by unfold kV;rw[if_neg (by omega),if_neg (by omega),if_neg hnb,if_pos (.inr h)])) λha=>is ?_;unfold kV;rw[if_neg (by omega),if_neg (by omega),if_neg hnb,if_neg];rintro (h|h)
  ·rw[show JN p=true from hs] at h;cases h
  ·exact ha h
def pP (p:List Pt):hO [T.sl false (List.map aA.enc p)]=some (Sh.enc [(false,.int .i64)] (kV p)):=U6 ..
def uN {p:List Pt} (h:kV p=0):3<=p.length/\p.length<=32/\kQ p/\JN p=true/\MG p≠0:=by
 unfold kV at h;by_cases h1:p.length<3
 ·rw[if_pos h1] at h;cases h
 rw[if_neg h1] at h;by_cases h2:32<p.length
 ·rw[if_pos h2] at h;cases h
 rw[if_neg h2] at h;by_cases h3:OF p=false
 ·rw[if_pos h3] at h;cases h
 rw[if_neg h3] at h;by_cases h4:JN p=false\/MG p=0
 ·rw[if_pos h4] at h;cases h
 refine ⟨by omega,by omega,nX.1 (by simpa using h3),by simpa using λe=>h4 (.inl e),λe=>h4 (.inr e)⟩
def rU (p:List Pt):Int:=if kV p=0 then MG p else 0
noncomputable def ASP:Env:=Env.of [(310,.pure hO),(342,.pure pO)]
def AVR:FuncId->Hint:=λ_=>bA
def AD1:aU Tryz.prog ASP:=.cons CZ (.cons ZZ (.nil _))
def LN(a0:List aR)(R:T->Prop):Prop:=aJ d8 (hO (BJW a0)) λ(y0:Int)=>aC (!decide (y0=0)) (BJX R) (aJ d8 (pO (BJW a0)) λ(y1:Int)=>R (pPP y1))
abbrev O1:Sh:=[(false,aA.li)]
def A0 (p:List aR):Option T:=some (T.v (Value.int .i64 (rU p)))
noncomputable def mX:List T->Option T:=gS O1 A0
def AAN {a0}:mX [T.sl false (List.map aA.enc a0)]=A0 (a0):=bJ (s:=O1) rfl (a0) rfl
def AQR:w5 Tryz.prog 311 mX A0 (cJ O1) LN:=j5 (a1:=(false,aA.li)) (sp:=A0) (F:=LN) (Hs:=AVR) (f:=311) (k:=8) AD1 aZ a7 (aO rfl) ⟨_,_,Tryz.func311,rfl⟩ rfl λ_ _=>by kernel_rfl
def RF:aP Tryz.prog 311 mX:=AQR λp r h hb=>by
 cases h;unfold LN BJX BJW g9 d8;refine aG (s:=[(false,.int .i64)]) (pP p) ?_;refine kU (λh=>JX (by unfold rU;rw[if_neg h])) λh=>?_;obtain ⟨_,h2,h3,_⟩:=uN h;refine aG (s:=[(false,.int .i64)]) (N0 (by omega) h3) ?_;exact JX (by unfold rU;rw[if_pos h])
def xS (p:List Pt):mX [T.sl false (List.map aA.enc p)]=some (Sh.enc [(false,.int .i64)] (rU p)):=AAN ..
end Go.Pv
