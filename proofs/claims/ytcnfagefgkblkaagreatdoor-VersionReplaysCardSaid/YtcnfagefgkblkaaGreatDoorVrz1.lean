/-
  Facts on the program that every function's file asks for.
  slices.Clone, Insert, Delete at the design's lists.
  The seam, the part, the section with an identifier.
  The part with an identifier, as the program finds it; how thick a seam is.
  Words that several files share.
  The way from the block down to a part.
  Packages; equality of lists, shapes, parts and packages.
  StructureFinds: Part, Node, Seam and Package answer as the reference does.
  StructureSames: Same answers as the reference does.
  edit.same; copies of parts, packages, designs.
  Chapter 17: the indices of a design, walked.
  Chapter 17: rising, walked.
  strings.Split on typed data.
  Names and identifiers.
  Chapter 17: the tree's form, walked.
  Chapter 17: the tree's other methods where a design's elements are empty, and Check there.
  Chapter 17: the tree's seams and requirements.
  dag.Order, walked.
  Chapter 17: the tree's parts and packages, walked; Check, walked.
  Plane geometry, plain.
  poly: crosses and edges.
  poly: simple contours and their areas.
-/
import Derived.Test.YtcnfagefgkblkaaGreatDoorVrki
import Derived.Test.YtcnfagefgkblkaaGreatDoorVrty
import Derived.Test.YtcnfagefgkblkaaGreatDoorProg
import Derived.KernelRfl
import Derived.Test.YtcnfagefgkblkaaGreatDoorVrin
import Derived.Test.YtcnfagefgkblkaaGreatDoorVrkj
import Derived.Test.YtcnfagefgkblkaaGreatDoorVrkn
import Derived.Test.YtcnfagefgkblkaaGreatDoorVrgs
import Derived.Test.YtcnfagefgkblkaaGreatDoorVrsl
import Derived.Laws.RangeAny
import Derived.Test.YtcnfagefgkblkaaGreatDoorVrkm
set_option linter.defProp false
set_option linter.unusedSimpArgs false
set_option linter.unusedVariables false
noncomputable section
namespace Go.Pv
open Go Go.Proofs IntKind
def aR:Tryz.prog.follows .mixedOrders=true:=by kernel_rfl
def aU:cI Tryz.prog=true:=by kernel_rfl
end Go.Pv
set_option maxRecDepth 100000
namespace Go.Pv
open Go Go.Proofs IntKind
variable {P:Program}
def pE {t:TypeId} {zv:Value} {z b:Nat} (h:(P.info? t).map (λi=>(i.zero,i.size,i.bytes))=some (some zv,z,b)):∃ i,P.info? t=some i/\i.zero=some zv/\i.size=z/\i.bytes=b:=by
 simp only[aa,Prod.mk.injEq] at h;obtain ⟨i,h1,h2,h3,h4⟩:=h;exact ⟨i,h1,h2,h3,h4⟩
def AAN:Value:=.agg #[.string ⟨#[]⟩,.int .i64 0,.string ⟨#[]⟩]
def AAM:Value:=.agg #[.int .i64 0,.string ⟨#[]⟩,.string ⟨#[]⟩]
def AAP:Value:=.agg #[.string ⟨#[]⟩,.string ⟨#[]⟩,.string ⟨#[]⟩,.int .i64 0,.int .i64 0,.int .i64 0]
def B2:Value:=.agg #[.string ⟨#[]⟩,.string ⟨#[]⟩,.slice none 0 0,.int .i64 0,.slice none 0 0]
def AAO:Value:=.agg #[.string ⟨#[]⟩,.int .i64 0,.int .i64 0,.string ⟨#[]⟩,.string ⟨#[]⟩,.int .i64 0,.slice none 0 0,.slice none 0 0,.string ⟨#[]⟩,.int .i64 0,.int .i64 0,.int .i64 0,.int .i64 0,.int .i64 0,.int .i64 0,.int .i64 0,.int .i64 0,.int .i64 0]
def A8U:Go.Shelf.Ren:=⟨λ|22=>307|29=>339|30=>340|n=>n,λ|9=>55|24=>22|n=>n,λ|n=>n⟩
def A6H:SI Tryz.prog A8U 3 40 AAN:={
 mixed:=aR
 f22:=Exists.intro ("slices.Insert[[]shipyard/api.Node,shipyard/api.Node]") ⟨by decide,Tryz.func307.trans (congrArg some (by kernel_rfl))⟩
 ov:=λargs w=>run_callFunc_extern (P:=Tryz.prog) (f:=339) (e:=Extern.SlicesOverlaps.overlaps #[22,22] #[4]) Tryz.func339 (by kernel_rfl) (by kernel_rfl) (by kernel_rfl) (by kernel_rfl) args w
 t0:=by kernel_rfl
 a0:=λ_=>by kernel_rfl
 z0:=λ_=>by kernel_rfl
 v0:=λ_=>by kernel_rfl
 t3:=by kernel_rfl
 a3:=λ_=>by kernel_rfl
 z3:=λ_=>by kernel_rfl
 v3:=λ_=>by kernel_rfl
 t4:=by kernel_rfl
 a4:=λ_=>by kernel_rfl
 z4:=λ_=>by kernel_rfl
 v4:=λ_=>by kernel_rfl
 z9:=λ_=>by kernel_rfl
 t24:=by kernel_rfl
 a24:=λ_=>by kernel_rfl
 z24:=λ_=>by kernel_rfl
 v24:=λ_=>by kernel_rfl
 i9:=pE (by kernel_rfl) }
def uH:List (List T)->List T->Option (List (List T)):=XT 3 40
def AKE:cB Tryz.prog 307 (j5 3 uH) :=
 oP A6H (by decide) rfl (by decide) ⟨_,Tryz.func307,rfl,rfl⟩
def A8Q:Go.Shelf.Ren:=⟨λ|45=>308|n=>n,λ|23=>55|22=>22|n=>n,λ|n=>n⟩
def A3H:AG2 Tryz.prog A8Q 3 AAN:={
 mixed:=aR
 f45:=Exists.intro ("slices.Delete[[]shipyard/api.Node,shipyard/api.Node]") ⟨by decide,Tryz.func308.trans (congrArg some (by kernel_rfl))⟩
 t0:=by kernel_rfl
 a0:=λ_=>by kernel_rfl
 z0:=λ_=>by kernel_rfl
 v0:=λ_=>by kernel_rfl
 t3:=by kernel_rfl
 a3:=λ_=>by kernel_rfl
 z3:=λ_=>by kernel_rfl
 v3:=λ_=>by kernel_rfl
 t4:=by kernel_rfl
 a4:=λ_=>by kernel_rfl
 z4:=λ_=>by kernel_rfl
 v4:=λ_=>by kernel_rfl
 t22:=by kernel_rfl
 a22:=λ_=>by kernel_rfl
 z22:=λ_=>by kernel_rfl
 v22:=λ_=>by kernel_rfl
 z23:=λ_=>by kernel_rfl
 v23:=λ_=>by kernel_rfl
 i23:=by
  obtain ⟨i,h1,_,h2,_⟩:=pE (P:=Tryz.prog) (t:=55) (zv:=AAN) (z:=3) (b:=40) (by kernel_rfl);exact ⟨i,h1,h2⟩ }
def IG:List (List T)->List T->Option (List (List T)):=XS 3
def AKB:cB Tryz.prog 308 (j5 3 IG) :=
 oO A3H rfl (by decide) ⟨_,Tryz.func308,rfl,rfl⟩
def AGE:Go.Shelf.Ren:=⟨λ|41=>69|n=>n,λ|23=>55|22=>22|n=>n,λ|n=>n⟩
def A24:SlLaysE0.n41 Tryz.prog AGE:={
 mixed:=aR
 f41:=Exists.intro ("slices.Clone[[]shipyard/api.Node,shipyard/api.Node]") ⟨by decide,Tryz.func69.trans (congrArg some (by kernel_rfl))⟩
 t4:=by kernel_rfl
 a4:=λ_=>by kernel_rfl
 z4:=λ_=>by kernel_rfl
 v4:=λ_=>by kernel_rfl
 t22:=by kernel_rfl
 a22:=λ_=>by kernel_rfl
 z22:=λ_=>by kernel_rfl
 v22:=λ_=>by kernel_rfl }
def AVG:∃ i0,(Tryz.prog).info? (AGE.t 23)=some i0/\i0.zero=some AAN/\i0.size=3/\i0.bytes=40:=pE (by kernel_rfl)
def DO:cB Tryz.prog 69 (DU 3 40) :=
 p0 A24 AVG (λ_=>by kernel_rfl) (by decide) rfl (by decide) ⟨_,Tryz.func69,rfl,rfl⟩
def A8T:Go.Shelf.Ren:=⟨λ|22=>324|29=>347|30=>348|n=>n,λ|9=>67|24=>26|n=>n,λ|n=>n⟩
def A6G:SI Tryz.prog A8T 3 40 AAM:={
 mixed:=aR
 f22:=Exists.intro ("slices.Insert[[]shipyard/api.Need,shipyard/api.Need]") ⟨by decide,Tryz.func324.trans (congrArg some (by kernel_rfl))⟩
 ov:=λargs w=>run_callFunc_extern (P:=Tryz.prog) (f:=347) (e:=Extern.SlicesOverlaps.overlaps #[26,26] #[4]) Tryz.func347 (by kernel_rfl) (by kernel_rfl) (by kernel_rfl) (by kernel_rfl) args w
 t0:=by kernel_rfl
 a0:=λ_=>by kernel_rfl
 z0:=λ_=>by kernel_rfl
 v0:=λ_=>by kernel_rfl
 t3:=by kernel_rfl
 a3:=λ_=>by kernel_rfl
 z3:=λ_=>by kernel_rfl
 v3:=λ_=>by kernel_rfl
 t4:=by kernel_rfl
 a4:=λ_=>by kernel_rfl
 z4:=λ_=>by kernel_rfl
 v4:=λ_=>by kernel_rfl
 z9:=λ_=>by kernel_rfl
 t24:=by kernel_rfl
 a24:=λ_=>by kernel_rfl
 z24:=λ_=>by kernel_rfl
 v24:=λ_=>by kernel_rfl
 i9:=pE (by kernel_rfl) }
def kM:List (List T)->List T->Option (List (List T)):=XT 3 40
def PH:cB Tryz.prog 324 (j5 3 kM) :=
 oP A6G (by decide) rfl (by decide) ⟨_,Tryz.func324,rfl,rfl⟩
def A8P:Go.Shelf.Ren:=⟨λ|45=>325|n=>n,λ|23=>67|22=>26|n=>n,λ|n=>n⟩
def A3G:AG2 Tryz.prog A8P 3 AAM:={
 mixed:=aR
 f45:=Exists.intro ("slices.Delete[[]shipyard/api.Need,shipyard/api.Need]") ⟨by decide,Tryz.func325.trans (congrArg some (by kernel_rfl))⟩
 t0:=by kernel_rfl
 a0:=λ_=>by kernel_rfl
 z0:=λ_=>by kernel_rfl
 v0:=λ_=>by kernel_rfl
 t3:=by kernel_rfl
 a3:=λ_=>by kernel_rfl
 z3:=λ_=>by kernel_rfl
 v3:=λ_=>by kernel_rfl
 t4:=by kernel_rfl
 a4:=λ_=>by kernel_rfl
 z4:=λ_=>by kernel_rfl
 v4:=λ_=>by kernel_rfl
 t22:=by kernel_rfl
 a22:=λ_=>by kernel_rfl
 z22:=λ_=>by kernel_rfl
 v22:=λ_=>by kernel_rfl
 z23:=λ_=>by kernel_rfl
 v23:=λ_=>by kernel_rfl
 i23:=by
  obtain ⟨i,h1,_,h2,_⟩:=pE (P:=Tryz.prog) (t:=67) (zv:=AAM) (z:=3) (b:=40) (by kernel_rfl);exact ⟨i,h1,h2⟩ }
def AY:List (List T)->List T->Option (List (List T)):=XS 3
def PG:cB Tryz.prog 325 (j5 3 AY) :=
 oO A3G rfl (by decide) ⟨_,Tryz.func325,rfl,rfl⟩
def AGD:Go.Shelf.Ren:=⟨λ|41=>71|n=>n,λ|23=>67|22=>26|n=>n,λ|n=>n⟩
def A23:SlLaysE0.n41 Tryz.prog AGD:={
 mixed:=aR
 f41:=Exists.intro ("slices.Clone[[]shipyard/api.Need,shipyard/api.Need]") ⟨by decide,Tryz.func71.trans (congrArg some (by kernel_rfl))⟩
 t4:=by kernel_rfl
 a4:=λ_=>by kernel_rfl
 z4:=λ_=>by kernel_rfl
 v4:=λ_=>by kernel_rfl
 t22:=by kernel_rfl
 a22:=λ_=>by kernel_rfl
 z22:=λ_=>by kernel_rfl
 v22:=λ_=>by kernel_rfl }
def AVF:∃ i0,(Tryz.prog).info? (AGD.t 23)=some i0/\i0.zero=some AAM/\i0.size=3/\i0.bytes=40:=pE (by kernel_rfl)
def DN:cB Tryz.prog 71 (DU 3 40) :=
 p0 A23 AVF (λ_=>by kernel_rfl) (by decide) rfl (by decide) ⟨_,Tryz.func71,rfl,rfl⟩
def A8W:Go.Shelf.Ren:=⟨λ|22=>315|29=>343|30=>344|n=>n,λ|9=>60|24=>24|n=>n,λ|n=>n⟩
def A6J:SI Tryz.prog A8W 6 72 AAP:={
 mixed:=aR
 f22:=Exists.intro ("slices.Insert[[]shipyard/api.Seam,shipyard/api.Seam]") ⟨by decide,Tryz.func315.trans (congrArg some (by kernel_rfl))⟩
 ov:=λargs w=>run_callFunc_extern (P:=Tryz.prog) (f:=343) (e:=Extern.SlicesOverlaps.overlaps #[24,24] #[4]) Tryz.func343 (by kernel_rfl) (by kernel_rfl) (by kernel_rfl) (by kernel_rfl) args w
 t0:=by kernel_rfl
 a0:=λ_=>by kernel_rfl
 z0:=λ_=>by kernel_rfl
 v0:=λ_=>by kernel_rfl
 t3:=by kernel_rfl
 a3:=λ_=>by kernel_rfl
 z3:=λ_=>by kernel_rfl
 v3:=λ_=>by kernel_rfl
 t4:=by kernel_rfl
 a4:=λ_=>by kernel_rfl
 z4:=λ_=>by kernel_rfl
 v4:=λ_=>by kernel_rfl
 z9:=λ_=>by kernel_rfl
 t24:=by kernel_rfl
 a24:=λ_=>by kernel_rfl
 z24:=λ_=>by kernel_rfl
 v24:=λ_=>by kernel_rfl
 i9:=pE (by kernel_rfl) }
def uJ:List (List T)->List T->Option (List (List T)):=XT 6 72
def AKG:cB Tryz.prog 315 (j5 6 uJ) :=
 oP A6J (by decide) rfl (by decide) ⟨_,Tryz.func315,rfl,rfl⟩
def A8S:Go.Shelf.Ren:=⟨λ|45=>316|n=>n,λ|23=>60|22=>24|n=>n,λ|n=>n⟩
def A3J:AG2 Tryz.prog A8S 6 AAP:={
 mixed:=aR
 f45:=Exists.intro ("slices.Delete[[]shipyard/api.Seam,shipyard/api.Seam]") ⟨by decide,Tryz.func316.trans (congrArg some (by kernel_rfl))⟩
 t0:=by kernel_rfl
 a0:=λ_=>by kernel_rfl
 z0:=λ_=>by kernel_rfl
 v0:=λ_=>by kernel_rfl
 t3:=by kernel_rfl
 a3:=λ_=>by kernel_rfl
 z3:=λ_=>by kernel_rfl
 v3:=λ_=>by kernel_rfl
 t4:=by kernel_rfl
 a4:=λ_=>by kernel_rfl
 z4:=λ_=>by kernel_rfl
 v4:=λ_=>by kernel_rfl
 t22:=by kernel_rfl
 a22:=λ_=>by kernel_rfl
 z22:=λ_=>by kernel_rfl
 v22:=λ_=>by kernel_rfl
 z23:=λ_=>by kernel_rfl
 v23:=λ_=>by kernel_rfl
 i23:=by
  obtain ⟨i,h1,_,h2,_⟩:=pE (P:=Tryz.prog) (t:=60) (zv:=AAP) (z:=6) (b:=72) (by kernel_rfl);exact ⟨i,h1,h2⟩ }
def II:List (List T)->List T->Option (List (List T)):=XS 6
def AKD:cB Tryz.prog 316 (j5 6 II) :=
 oO A3J rfl (by decide) ⟨_,Tryz.func316,rfl,rfl⟩
def AGG:Go.Shelf.Ren:=⟨λ|41=>70|n=>n,λ|23=>60|22=>24|n=>n,λ|n=>n⟩
def A26:SlLaysE0.n41 Tryz.prog AGG:={
 mixed:=aR
 f41:=Exists.intro ("slices.Clone[[]shipyard/api.Seam,shipyard/api.Seam]") ⟨by decide,Tryz.func70.trans (congrArg some (by kernel_rfl))⟩
 t4:=by kernel_rfl
 a4:=λ_=>by kernel_rfl
 z4:=λ_=>by kernel_rfl
 v4:=λ_=>by kernel_rfl
 t22:=by kernel_rfl
 a22:=λ_=>by kernel_rfl
 z22:=λ_=>by kernel_rfl
 v22:=λ_=>by kernel_rfl }
def AVI:∃ i0,(Tryz.prog).info? (AGG.t 23)=some i0/\i0.zero=some AAP/\i0.size=6/\i0.bytes=72:=pE (by kernel_rfl)
def DQ:cB Tryz.prog 70 (DU 6 72) :=
 p0 A26 AVI (λ_=>by kernel_rfl) (by decide) rfl (by decide) ⟨_,Tryz.func70,rfl,rfl⟩
def AGI:Go.Shelf.Ren:=⟨λ|22=>319|29=>345|30=>346|n=>n,λ|9=>65|24=>25|n=>n,λ|n=>n⟩
def AE4:SI Tryz.prog AGI 5 88 B2:={
 mixed:=aR
 f22:=Exists.intro ("slices.Insert[[]shipyard/api.Package,shipyard/api.Package]") ⟨by decide,Tryz.func319.trans (congrArg some (by kernel_rfl))⟩
 ov:=λargs w=>run_callFunc_extern (P:=Tryz.prog) (f:=345) (e:=Extern.SlicesOverlaps.overlaps #[25,25] #[4]) Tryz.func345 (by kernel_rfl) (by kernel_rfl) (by kernel_rfl) (by kernel_rfl) args w
 t0:=by kernel_rfl
 a0:=λ_=>by kernel_rfl
 z0:=λ_=>by kernel_rfl
 v0:=λ_=>by kernel_rfl
 t3:=by kernel_rfl
 a3:=λ_=>by kernel_rfl
 z3:=λ_=>by kernel_rfl
 v3:=λ_=>by kernel_rfl
 t4:=by kernel_rfl
 a4:=λ_=>by kernel_rfl
 z4:=λ_=>by kernel_rfl
 v4:=λ_=>by kernel_rfl
 z9:=λ_=>by kernel_rfl
 t24:=by kernel_rfl
 a24:=λ_=>by kernel_rfl
 z24:=λ_=>by kernel_rfl
 v24:=λ_=>by kernel_rfl
 i9:=pE (by kernel_rfl) }
def mV:List (List T)->List T->Option (List (List T)):=XT 5 88
def SS:cB Tryz.prog 319 (j5 5 mV) :=
 oP AE4 (by decide) rfl (by decide) ⟨_,Tryz.func319,rfl,rfl⟩
def AGH:Go.Shelf.Ren:=⟨λ|45=>317|n=>n,λ|23=>65|22=>25|n=>n,λ|n=>n⟩
def ACN:AG2 Tryz.prog AGH 5 B2:={
 mixed:=aR
 f45:=Exists.intro ("slices.Delete[[]shipyard/api.Package,shipyard/api.Package]") ⟨by decide,Tryz.func317.trans (congrArg some (by kernel_rfl))⟩
 t0:=by kernel_rfl
 a0:=λ_=>by kernel_rfl
 z0:=λ_=>by kernel_rfl
 v0:=λ_=>by kernel_rfl
 t3:=by kernel_rfl
 a3:=λ_=>by kernel_rfl
 z3:=λ_=>by kernel_rfl
 v3:=λ_=>by kernel_rfl
 t4:=by kernel_rfl
 a4:=λ_=>by kernel_rfl
 z4:=λ_=>by kernel_rfl
 v4:=λ_=>by kernel_rfl
 t22:=by kernel_rfl
 a22:=λ_=>by kernel_rfl
 z22:=λ_=>by kernel_rfl
 v22:=λ_=>by kernel_rfl
 z23:=λ_=>by kernel_rfl
 v23:=λ_=>by kernel_rfl
 i23:=by
  obtain ⟨i,h1,_,h2,_⟩:=pE (P:=Tryz.prog) (t:=65) (zv:=B2) (z:=5) (b:=88) (by kernel_rfl);exact ⟨i,h1,h2⟩ }
def mU:List (List T)->List T->Option (List (List T)):=XS 5
def CN:cB Tryz.prog 317 (j5 5 mU) :=
 oO ACN rfl (by decide) ⟨_,Tryz.func317,rfl,rfl⟩
def K4:Go.Shelf.Ren:=⟨λ|41=>159|n=>n,λ|23=>65|22=>25|n=>n,λ|n=>n⟩
def ACG:SlLaysE0.n41 Tryz.prog K4:={
 mixed:=aR
 f41:=Exists.intro ("slices.Clone[[]shipyard/api.Package,shipyard/api.Package]") ⟨by decide,Tryz.func159.trans (congrArg some (by kernel_rfl))⟩
 t4:=by kernel_rfl
 a4:=λ_=>by kernel_rfl
 z4:=λ_=>by kernel_rfl
 v4:=λ_=>by kernel_rfl
 t22:=by kernel_rfl
 a22:=λ_=>by kernel_rfl
 z22:=λ_=>by kernel_rfl
 v22:=λ_=>by kernel_rfl }
def YJ:∃ i0,(Tryz.prog).info? (K4.t 23)=some i0/\i0.zero=some B2/\i0.size=5/\i0.bytes=88:=pE (by kernel_rfl)
def oE:cB Tryz.prog 159 (DU 5 88) :=
 p0 ACG YJ (λ_=>by kernel_rfl) (by decide) rfl (by decide) ⟨_,Tryz.func159,rfl,rfl⟩
def A8V:Go.Shelf.Ren:=⟨λ|22=>312|29=>341|30=>342|n=>n,λ|9=>53|24=>23|n=>n,λ|n=>n⟩
def A6I:SI Tryz.prog A8V 18 208 AAO:={
 mixed:=aR
 f22:=Exists.intro ("slices.Insert[[]shipyard/api.Part,shipyard/api.Part]") ⟨by decide,Tryz.func312.trans (congrArg some (by kernel_rfl))⟩
 ov:=λargs w=>run_callFunc_extern (P:=Tryz.prog) (f:=341) (e:=Extern.SlicesOverlaps.overlaps #[23,23] #[4]) Tryz.func341 (by kernel_rfl) (by kernel_rfl) (by kernel_rfl) (by kernel_rfl) args w
 t0:=by kernel_rfl
 a0:=λ_=>by kernel_rfl
 z0:=λ_=>by kernel_rfl
 v0:=λ_=>by kernel_rfl
 t3:=by kernel_rfl
 a3:=λ_=>by kernel_rfl
 z3:=λ_=>by kernel_rfl
 v3:=λ_=>by kernel_rfl
 t4:=by kernel_rfl
 a4:=λ_=>by kernel_rfl
 z4:=λ_=>by kernel_rfl
 v4:=λ_=>by kernel_rfl
 z9:=λ_=>by kernel_rfl
 t24:=by kernel_rfl
 a24:=λ_=>by kernel_rfl
 z24:=λ_=>by kernel_rfl
 v24:=λ_=>by kernel_rfl
 i9:=pE (by kernel_rfl) }
def uI:List (List T)->List T->Option (List (List T)):=XT 18 208
def AKF:cB Tryz.prog 312 (j5 18 uI) :=
 oP A6I (by decide) rfl (by decide) ⟨_,Tryz.func312,rfl,rfl⟩
def A8R:Go.Shelf.Ren:=⟨λ|45=>313|n=>n,λ|23=>53|22=>23|n=>n,λ|n=>n⟩
def A3I:AG2 Tryz.prog A8R 18 AAO:={
 mixed:=aR
 f45:=Exists.intro ("slices.Delete[[]shipyard/api.Part,shipyard/api.Part]") ⟨by decide,Tryz.func313.trans (congrArg some (by kernel_rfl))⟩
 t0:=by kernel_rfl
 a0:=λ_=>by kernel_rfl
 z0:=λ_=>by kernel_rfl
 v0:=λ_=>by kernel_rfl
 t3:=by kernel_rfl
 a3:=λ_=>by kernel_rfl
 z3:=λ_=>by kernel_rfl
 v3:=λ_=>by kernel_rfl
 t4:=by kernel_rfl
 a4:=λ_=>by kernel_rfl
 z4:=λ_=>by kernel_rfl
 v4:=λ_=>by kernel_rfl
 t22:=by kernel_rfl
 a22:=λ_=>by kernel_rfl
 z22:=λ_=>by kernel_rfl
 v22:=λ_=>by kernel_rfl
 z23:=λ_=>by kernel_rfl
 v23:=λ_=>by kernel_rfl
 i23:=by
  obtain ⟨i,h1,_,h2,_⟩:=pE (P:=Tryz.prog) (t:=53) (zv:=AAO) (z:=18) (b:=208) (by kernel_rfl);exact ⟨i,h1,h2⟩ }
def IH:List (List T)->List T->Option (List (List T)):=XS 18
def AKC:cB Tryz.prog 313 (j5 18 IH) :=
 oO A3I rfl (by decide) ⟨_,Tryz.func313,rfl,rfl⟩
def AGF:Go.Shelf.Ren:=⟨λ|41=>158|n=>n,λ|23=>53|22=>23|n=>n,λ|n=>n⟩
def A25:SlLaysE0.n41 Tryz.prog AGF:={
 mixed:=aR
 f41:=Exists.intro ("slices.Clone[[]shipyard/api.Part,shipyard/api.Part]") ⟨by decide,Tryz.func158.trans (congrArg some (by kernel_rfl))⟩
 t4:=by kernel_rfl
 a4:=λ_=>by kernel_rfl
 z4:=λ_=>by kernel_rfl
 v4:=λ_=>by kernel_rfl
 t22:=by kernel_rfl
 a22:=λ_=>by kernel_rfl
 z22:=λ_=>by kernel_rfl
 v22:=λ_=>by kernel_rfl }
def AVH:∃ i0,(Tryz.prog).info? (AGF.t 23)=some i0/\i0.zero=some AAO/\i0.size=18/\i0.bytes=208:=pE (by kernel_rfl)
def DP:cB Tryz.prog 158 (DU 18 208) :=
 p0 A25 AVH (λ_=>by kernel_rfl) (by decide) rfl (by decide) ⟨_,Tryz.func158,rfl,rfl⟩
def BQD:Value:=.slice none 0 0
def AQB:Go.Shelf.Ren:=⟨λ|41=>157|n=>n,λ|23=>44|22=>45|n=>n,λ|n=>n⟩
def BC1:SlLaysE0.n41 Tryz.prog AQB:={
 mixed:=aR
 f41:=Exists.intro ("slices.Clone[[][]shipyard/api.Point,[]shipyard/api.Point]") ⟨by decide,Tryz.func157.trans (congrArg some (by kernel_rfl))⟩
 t4:=by kernel_rfl
 a4:=λ_=>by kernel_rfl
 z4:=λ_=>by kernel_rfl
 v4:=λ_=>by kernel_rfl
 t22:=by kernel_rfl
 a22:=λ_=>by kernel_rfl
 z22:=λ_=>by kernel_rfl
 v22:=λ_=>by kernel_rfl }
def A6E:∃ i0,(Tryz.prog).info? (AQB.t 23)=some i0/\i0.zero=some BQD/\i0.size=1/\i0.bytes=24:=pE (by kernel_rfl)
def AT7:cB Tryz.prog 157 (DU 1 24) :=
 p0 BC1 A6E (λ_=>by kernel_rfl) (by decide) rfl (by decide) ⟨_,Tryz.func157,rfl,rfl⟩
end Go.Pv
namespace Go.Pv
open Go Go.Proofs IntKind
def oA (d:aB) (id:iII):Option cJ:=d.2.2.2.1.find? λs=>decide (s.1=id)
def partOf (d:aB) (id:iII):Option bB:=d.2.2.1.find? λs=>decide (s.1=id)
def eV (d:aB) (id:iII):Option cH:=d.2.1.find? λs=>decide (s.1=id)
def RQ (m:aG) (n:iII):Option cA:=m.2.find? λs=>decide (s.1=n)
def fB:cJ:=(⟨#[]⟩,⟨#[]⟩,⟨#[]⟩,0,0,0)
def fA:cH:=(⟨#[]⟩,0,⟨#[]⟩)
def dO:bB:=(⟨#[]⟩,0,0,⟨#[]⟩,⟨#[]⟩,0,([],[]),⟨#[]⟩,0,0,(0,0,0),(0,0,0),0)
def CW:cA:=(⟨#[]⟩,0,0,0)
variable {α:Type}
def found (no:α) (o:Option α):α×Bool:=match o with
 | some s=>(s,true)
 | none=>(no,false)
def sQ (x:aB×iII):Option T:=some (Sh.enc [(true,aV),(false,.bool)] (found fB (oA x.1 x.2)))
def Z4 (x:aB×iII):Option T:=some (Sh.enc [(true,aJ),(false,.bool)] (found dO (partOf x.1 x.2)))
def sO (x:aB×iII):Option T:=some (Sh.enc [(true,aS),(false,.bool)] (found fA (eV x.1 x.2)))
def oB (x:aG×iII):Option T:=some (Sh.enc [(true,bG),(false,.bool)] (found CW (RQ x.1 x.2)))
def BH7:Env:=Env.of []
def BIT:FuncId->Hint:=bT 243 [(2,.inv [.val 11 false (.int .i64),.fix 1])] (λ_=>aX)
def AZK:aQ Tryz.prog BH7:=.nil _
def d5:T:=pPQ ({data:=#[]})
def t6(a0:aB):List (List T):=List.map aV.enc a0.2.2.2.1
def AIZ(a0:aB)(a1:iII)(R:T->Prop):Prop:=fK (bE.rows false [[D.p d5,D.p d5, D.p d5,D.p (pPP 0), D.p (pPP 0),D.p (pPP 0)]]) (bE.rows false [[D.p d5,D.p d5, D.p d5,D.p (pPP 0), D.p (pPP 0),D.p (pPP 0)]]) (a7 (Int×PUnit×PUnit) (λX0 s1=>aD (decide (s1.1<(↑(t6 a0).length:Int))) (aP aV (t6 a0) s1.1 λ(y2:cJ)=>aD (decide (y2.1=a1)) (R (T.bX [aF true aV y2,pPR true])) (fK (bE.rows false [[D.p d5, D.p d5, D.p d5, D.p (pPP 0), D.p (pPP 0), D.p (pPP 0)]]) (bE.rows false [[D.p d5, D.p d5, D.p d5, D.p (pPP 0), D.p (pPP 0), D.p (pPP 0)]]) (X0 (i64.wrap (s1.1+1),(),())))) (R (T.bX [T.agg [pPQ ({data:=#[]}),pPQ ({data:=#[]}), pPQ ({data:=#[]}),pPP 0, pPP 0,pPP 0], pPR false]))) (0,(),()))
abbrev AM2:Sh:=[(true,aC),(false,Sy.str)]
def DY:List T->Option T:=gS AM2 sQ
def UM {a0 a1}:DY [aF true aC a0,pPQ a1]=sQ (a0,a1):=bA (s:=AM2) rfl (a0,a1) rfl
def BFK:qN Tryz.prog 243 DY sQ (bY AM2) AIZ:=gL (a1:=(true,aC)) (a2:=(false,Sy.str)) (Hs:=BIT) (k:=8) AZK aR aU (aL rfl) ⟨_,_,Tryz.func243,rfl⟩ rfl λ_ _ _=>by kernel_rfl
def AO7:aM Tryz.prog 243 DY:=BFK λd id r h hb=>by
 have hl:d.2.2.2.1.length<=2 ^ 47:=hb.1.2.2.2.1.1;unfold AIZ t6 d5;rw[cU];refine bI d.2.2.2.1.length (λk s=>s=((k:Int),(),())/\(d.2.2.2.1.drop k).find? (λs=>decide (s.1=id))=oA d id) ⟨rfl,rfl⟩ ?_;rintro X k s hk ⟨rfl,hf⟩ hX;simp only[ad,I2,cU];by_cases hlt:k<d.2.2.2.1.length
 ·rw[p9 hlt] at hf;simp only[hlt,decide_true,aD,bC (r:=aV) hlt];cases hc:decide (d.2.2.2.1[k].1=id) with
  | true =>
   simp only[hc,if_true] at hf;simp only[sQ,sQ,<-hf] at h;cases h;rfl
  | false =>
   simp only[hc] at hf;refine hX _ hlt ⟨?_,hf⟩;simp only[Prod.mk.injEq,and_true];exact bD _ (by omega) (by omega)
 ·have:k=d.2.2.2.1.length:=by omega
  subst this;simp only[List.drop_length,List.find?_nil] at hf;simp only[sQ,sQ,<-hf] at h;simp only[hlt,decide_false,aD];cases h;rfl
def BH2:Env:=Env.of []
def BIO:FuncId->Hint:=bT 195 [(2,.inv [.val 11 false (.int .i64),.fix 1])] (λ_=>aX)
def AZF:aQ Tryz.prog BH2:=.nil _
def t7(a0:aB):List (List T):=List.map aS.enc a0.2.1
def AIT(a0:aB)(a1:iII)(R:T->Prop):Prop:=fK (bE.rows false [[D.p d5,D.p (pPP 0), D.p d5]]) (bE.rows false [[D.p d5,D.p (pPP 0), D.p d5]]) (a7 (Int×PUnit×PUnit) (λX0 s1=>aD (decide (s1.1<(↑(t7 a0).length:Int))) (aP aS (t7 a0) s1.1 λ(y2:cH)=>aD (decide (y2.1=a1)) (R (T.bX [aF true aS y2,pPR true])) (fK (bE.rows false [[D.p d5, D.p (pPP 0), D.p d5]]) (bE.rows false [[D.p d5, D.p (pPP 0), D.p d5]]) (X0 (i64.wrap (s1.1+1),(),())))) (R (T.bX [T.agg [pPQ ({data:=#[]}),pPP 0, pPQ ({data:=#[]})], pPR false]))) (0,(),()))
abbrev AMX:Sh:=[(true,aC),(false,Sy.str)]
def DV:List T->Option T:=gS AMX sO
def UG {a0 a1}:DV [aF true aC a0,pPQ a1]=sO (a0,a1):=bA (s:=AMX) rfl (a0,a1) rfl
def BFF:qN Tryz.prog 195 DV sO (bY AMX) AIT:=gL (a1:=(true,aC)) (a2:=(false,Sy.str)) (Hs:=BIO) (k:=8) AZF aR aU (aL rfl) ⟨_,_,Tryz.func195,rfl⟩ rfl λ_ _ _=>by kernel_rfl
def AO3:aM Tryz.prog 195 DV:=BFF λd id r h hb=>by
 have hl:d.2.1.length<=2 ^ 47:=hb.1.2.1.1;unfold AIT t7 d5;rw[cU];refine bI d.2.1.length (λk s=>s=((k:Int),(),())/\(d.2.1.drop k).find? (λs=>decide (s.1=id))=eV d id) ⟨rfl,rfl⟩ ?_;rintro X k s hk ⟨rfl,hf⟩ hX;simp only[ad,I2,cU];by_cases hlt:k<d.2.1.length
 ·rw[p9 hlt] at hf;simp only[hlt,decide_true,aD,bC (r:=aS) hlt];cases hc:decide (d.2.1[k].1=id) with
  | true =>
   simp only[hc,if_true] at hf;simp only[sO,sO,<-hf] at h;cases h;rfl
  | false =>
   simp only[hc] at hf;refine hX _ hlt ⟨?_,hf⟩;simp only[Prod.mk.injEq,and_true];exact bD _ (by omega) (by omega)
 ·have:k=d.2.1.length:=by omega
  subst this;simp only[List.drop_length,List.find?_nil] at hf;simp only[sO,sO,<-hf] at h;simp only[hlt,decide_false,aD];cases h;rfl
def ARL:Env:=Env.of []
def AST:FuncId->Hint:=bT 178 [(2,.inv [.val 8 false (.int .i64)])] (λ_=>aX)
def ABA:aQ Tryz.prog ARL:=.nil _
def f9(X0:Int×PUnit->Prop)(s1:Int×PUnit):Prop:=X0 (i64.wrap (s1.1+1),())
def BQ3:List T:=[T.agg [pPQ ({data:=#[]}),pPP 0, pPP 0,pPP 0], pPR false]
def HS(a0:aG)(a1:iII)(R:T->Prop):Prop:=a7 (Int×PUnit) (λX0 s1=>aD (decide (s1.1<(↑(List.map bG.enc a0.2).length:Int))) (aP bG (List.map bG.enc a0.2) s1.1 λ(y2:cA)=>aD (decide (y2.1=a1)) (aD (decide (s1.1<0)) (R (T.bX BQ3)) (aP bG (List.map bG.enc a0.2) s1.1 λ(y3:cA)=>R (T.bX [aF true bG y3,pPR true]))) (f9 X0 s1)) (R (T.bX BQ3))) (0,())
abbrev JO:Sh:=[(true,aK),(false,Sy.str)]
def cW:List T->Option T:=gS JO oB
def YF {a0 a1}:cW [aF true aK a0,pPQ a1]=oB (a0,a1):=bA (s:=JO) rfl (a0,a1) rfl
def AME:qN Tryz.prog 145 cW oB (bY JO) HS:=gL (a1:=(true,aK)) (a2:=(false,Sy.str)) (Hs:=AST) (k:=8) ABA aR aU (aL rfl) ⟨_,_,Tryz.func145,rfl⟩ rfl λ_ _ _=>by kernel_rfl
def PJ:aM Tryz.prog 145 cW:=AME λm n r h hb=>by
 have hl:m.2.length<=2 ^ 47:=hb.1.2.1;unfold HS BQ3 f9;refine bI m.2.length (λk s=>s=((k:Int),())/\(m.2.drop k).find? (λs=>decide (s.1=n))=RQ m n) ⟨rfl,rfl⟩ ?_;rintro X k s hk ⟨rfl,hf⟩ hX;simp only[ad,I2];by_cases hlt:k<m.2.length
 ·rw[p9 hlt] at hf;have h0:¬ ((k:Int)<0):=by omega
  simp only[hlt,decide_true,aD,bC (r:=bG) hlt,h0,decide_false];cases hc:decide (m.2[k].1=n) with
  | true =>
   simp only[hc,if_true] at hf;simp only[oB,<-hf] at h;cases h;rfl
  | false =>
   simp only[hc] at hf;refine hX _ hlt ⟨?_,hf⟩;simp only[Prod.mk.injEq,and_true];exact bD _ (by omega) (by omega)
 ·have:k=m.2.length:=by omega
  subst this;simp only[List.drop_length,List.find?_nil] at hf;simp only[oB,<-hf] at h;simp only[hlt,decide_false,aD];cases h;rfl
end Go.Pv
namespace Go.Pv
open Go Go.Proofs IntKind
def AJS:xF Tryz.prog 111 2 16:=⟨λR=>by kernel_rfl,λfl R=>by kernel_rfl,λfl a rows R=>by kernel_rfl⟩
def fN:List T->Option T:=gS [(false,.li aA)] (cZ aA 16)
def kL {u0}:fN [T.sl false (List.map (Sy.enc aA) u0)]=cZ aA 16 u0:=bA (s:=[(false,.li aA)]) rfl u0 rfl
def vP:aM Tryz.prog 111 fN:=nR aR aU ⟨_,_,Tryz.func111,rfl⟩ AJS
def ACE:AG1 Tryz.prog 157 1 24:=⟨λR=>by kernel_rfl,λfl R=>by kernel_rfl,λfl a rows R=>by kernel_rfl⟩
def vS:List T->Option (List (List T)):=gS [(false,.li (.li aA))] (pW (.li aA) 24)
def SV {u0}:vS [T.sl false (List.map (Sy.enc (.li aA)) u0)]=pW (.li aA) 24 u0:=bA (s:=[(false,.li (.li aA))]) rfl u0 rfl
def AC1:fE Tryz.prog 157 vS:=ATB aR aU ⟨_,_,Tryz.func157,rfl⟩ ACE
def dX (b:Nat) (n:Nat):Bool:=decide (n*b<=140737488355328)&&decide (n<=140737488355328)
def BC (s:jP):Bool:=dX 16 s.1.length&&dX 24 s.2.length&&s.2.all λh=>dX 16 h.length
def dP (p:bB):Bool:=BC p.2.2.2.2.2.2.1
def BA (d:aB):Bool:=d.2.2.1.all dP
def iD {r:Sy} {b:Nat} {l:List r.den} (h:dX b l.length=true):pW r b l=some (List.map r.enc l):=by
 unfold pW;unfold dX at h;rw[h]
def lJ (x:aB×iII):Option T:=match BA x.1 with
 | true=>Z4 x
 | false=>none
def BAJ:Env:=Env.of [(111,.pure fN),(157,.fresh vS)]
def BB6:FuncId->Hint:=bT 119 [(2,.inv [.val 13 false (.int .i64),.fix 1]),(7,.alt [.val 37 false (.int .i64),.arr 4 1 (.li aA)] [.val 37 false (.int .i64)])] (λ_=>aX)
def AR0:aQ Tryz.prog BAJ:=.cons vP (.cons AC1 (.nil _))
def d8:T:=T.v (Value.slice none 0 0)
def eI:Sh:=[(false,aA.li)]
def GT(a0:aB):List (List T):=List.map aJ.enc a0.2.2.1
def g9(y7:List aO):List (List T):=List.map aA.enc y7
def v6(y2:bB):List (List T):=List.map aA.li.enc y2.2.2.2.2.2.2.1.2
def NE(s12:Int×List (List aO)×PUnit):List (List T):=List.map aA.li.enc s12.2.1
def BQ5(y7:List aO):List T:=[T.sl false (g9 y7)]
def BRD(y2:bB):List (List T):=List.map aA.enc y2.2.2.2.2.2.2.1.1
def WN(a0:aB)(a1:iII)(R:T->Prop):Prop:=fK (bE.rows false [[D.p d5,D.p (pPP 0), D.p (pPP 0),D.p d5, D.p d5,D.p (pPP 0), D.p d8,D.p d8, D.p d5,D.p (pPP 0), D.p (pPP 0),D.p (pPP 0), D.p (pPP 0),D.p (pPP 0), D.p (pPP 0),D.p (pPP 0), D.p (pPP 0),D.p (pPP 0)]]) (bE.rows false [[D.p d5,D.p (pPP 0), D.p (pPP 0),D.p d5, D.p d5,D.p (pPP 0), D.p d8,D.p d8, D.p d5,D.p (pPP 0), D.p (pPP 0),D.p (pPP 0), D.p (pPP 0),D.p (pPP 0), D.p (pPP 0),D.p (pPP 0), D.p (pPP 0),D.p (pPP 0)]]) (a7 (Int×PUnit×PUnit) (λX0 s1=>aD (decide (s1.1<(↑(GT a0).length:Int))) (aP aJ (GT a0) s1.1 λ(y2:bB)=>aD (decide (y2.1=a1)) (aI eI (fN [T.sl false (BRD y2)]) λ(y3:List aO)=>bP aA.li (vS [T.sl false (v6 y2)]) λ(y4:List (List aO))=>aD y4.isEmpty (a7 (Int×PUnit) (λX5 s6=>aD (decide (s6.1<(↑0:Int))) (aP aA.li [] s6.1 λ(y7:List aO)=>aI eI (fN (BQ5 y7)) λ(y8:List aO)=>aP aA.li [] s6.1 λ(y9:List aO)=>nJ 104) (R (T.bX [T.agg [pPQ y2.1,pPP y2.2.1, pPP y2.2.2.1, pPQ y2.2.2.2.1, pPQ y2.2.2.2.2.1, pPP y2.2.2.2.2.2.1, T.sl false (g9 y3),T.sl false [], pPQ y2.2.2.2.2.2.2.2.1, pPP y2.2.2.2.2.2.2.2.2.1, pPP y2.2.2.2.2.2.2.2.2.2.1, pPP y2.2.2.2.2.2.2.2.2.2.2.1.1, pPP y2.2.2.2.2.2.2.2.2.2.2.1.2.1, pPP y2.2.2.2.2.2.2.2.2.2.2.1.2.2, pPP y2.2.2.2.2.2.2.2.2.2.2.2.1.1, pPP y2.2.2.2.2.2.2.2.2.2.2.2.1.2.1, pPP y2.2.2.2.2.2.2.2.2.2.2.2.1.2.2, pPP y2.2.2.2.2.2.2.2.2.2.2.2.2], pPR true]))) (0,())) (bZ aA.li (List.map aA.li.enc y4) λ(y10:List (List aO))=>a7 (Int×List (List aO)×PUnit) (λX11 s12=>aD (decide (s12.1<(↑(List.map aA.li.enc y4).length:Int))) (aP aA.li (NE s12) s12.1 λ(y13:List aO)=>eK aA.li (NE s12) (Int.toNat s12.1) 0 λ(y14:List aO)=>aI eI (fN (BQ5 y14)) λ(y15:List aO)=>aP aA.li (NE s12) s12.1 λ(y16:List aO)=>GN (NE s12) (Int.toNat s12.1) λ(y17:List T)=>bH (decide (1<=y17.length)) (bZ aA.li ((NE s12).set (Int.toNat s12.1) (bR y17 0 (BQ5 y15))) λ(y18:List (List aO))=>X11 (i64.wrap (s12.1+1),y18,()))) (R (T.bX [T.agg [pPQ y2.1, pPP y2.2.1, pPP y2.2.2.1, pPQ y2.2.2.2.1, pPQ y2.2.2.2.2.1, pPP y2.2.2.2.2.2.1, T.sl false (g9 y3), T.sl false (NE s12), pPQ y2.2.2.2.2.2.2.2.1, pPP y2.2.2.2.2.2.2.2.2.1, pPP y2.2.2.2.2.2.2.2.2.2.1, pPP y2.2.2.2.2.2.2.2.2.2.2.1.1, pPP y2.2.2.2.2.2.2.2.2.2.2.1.2.1, pPP y2.2.2.2.2.2.2.2.2.2.2.1.2.2, pPP y2.2.2.2.2.2.2.2.2.2.2.2.1.1, pPP y2.2.2.2.2.2.2.2.2.2.2.2.1.2.1, pPP y2.2.2.2.2.2.2.2.2.2.2.2.1.2.2, pPP y2.2.2.2.2.2.2.2.2.2.2.2.2], pPR true]))) (0,y10,()))) (fK (bE.rows false [[D.p d5, D.p (pPP 0), D.p (pPP 0), D.p d5, D.p d5, D.p (pPP 0), D.p d8,D.p d8, D.p d5, D.p (pPP 0), D.p (pPP 0), D.p (pPP 0), D.p (pPP 0), D.p (pPP 0), D.p (pPP 0), D.p (pPP 0), D.p (pPP 0), D.p (pPP 0)]]) (bE.rows false [[D.p d5, D.p (pPP 0), D.p (pPP 0), D.p d5, D.p d5, D.p (pPP 0), D.p d8,D.p d8, D.p d5, D.p (pPP 0), D.p (pPP 0), D.p (pPP 0), D.p (pPP 0), D.p (pPP 0), D.p (pPP 0), D.p (pPP 0), D.p (pPP 0), D.p (pPP 0)]]) (X0 (i64.wrap (s1.1+1),(),())))) (R (T.bX [T.agg [pPQ ({data:=#[]}),pPP 0, pPP 0,pPQ ({data:=#[]}), pPQ ({data:=#[]}),pPP 0, T.sl false [],T.sl false [],pPQ ({data:=#[]}), pPP 0,pPP 0, pPP 0,pPP 0, pPP 0,pPP 0, pPP 0,pPP 0, pPP 0], pPR false]))) (0,(),()))
abbrev ZJ:Sh:=[(true,aC),(false,Sy.str)]
def lO:List T->Option T:=gS ZJ lJ
def qX {a0 a1}:lO [aF true aC a0,pPQ a1]=lJ (a0,a1):=bA (s:=ZJ) rfl (a0,a1) rfl
def A7U:qN Tryz.prog 119 lO lJ (bY ZJ) WN:=gL (a1:=(true,aC)) (a2:=(false,Sy.str)) (Hs:=BB6) (k:=8) AR0 aR aU (aL rfl) ⟨_,_,Tryz.func119,rfl⟩ rfl λ_ _ _=>by kernel_rfl
def E8:aM Tryz.prog 119 lO:=A7U λd id r h hb=>by
 have hl:d.2.2.1.length<=2 ^ 47:=hb.1.2.2.1.1;unfold lJ at h;split at h
 ·rename_i hok;unfold WN BRD BQ5 NE v6 g9 GT eI d8 d5;rw[cU];refine bI d.2.2.1.length (λk s=>s=((k:Int),(),())/\(d.2.2.1.drop k).find? (λs=>decide (s.1=id))=partOf d id) ⟨rfl,rfl⟩ ?_;rintro X k s hk ⟨rfl,hf⟩ hX;simp only[ad,I2,cU];by_cases hlt:k<d.2.2.1.length
  ·rw[p9 hlt] at hf;have hp:dP d.2.2.1[k]=true:=List.all_eq_true.1 hok _ (aj hlt);simp only[hlt,decide_true,aD,bC (r:=aJ) hlt];generalize d.2.2.1[k]=p at *;unfold dP BC at hp;simp only[ac] at hp;obtain ⟨⟨hp1,hp2⟩,hp3⟩:=hp;cases hc:decide (p.1=id) with
   | true =>
    simp only[hc,if_true] at hf;simp only[Z4,<-hf] at h;cases h;simp only[];refine aH (s:=[(false,aA.li)]) (y:=p.2.2.2.2.2.2.1.1) (by rw[kL,cZ,iD hp1];rfl) ?_;refine eE (r:=.li aA) (l:=p.2.2.2.2.2.2.1.2) (by rw[SV,iD hp2]) _ ?_;obtain ⟨p1,p2,p3,p4,p5,p6,⟨o,hs⟩,p7⟩:=p;have hb47:hs.length<=140737488355328:=by
     simp only[dX,ac,ae] at hp2;exact hp2.2
    cases hs with
    | nil =>
     simp only[List.isEmpty_nil];refine bI 0 (λk s=>s=((k:Int),())) rfl ?_;rintro X k s hk rfl hX;have:k=0:=by omega
     subst this;rfl
    | cons h0 hs =>
     generalize hhs:h0::hs=hh at *;have he:hh.isEmpty=false:=by rw[<-hhs];rfl
     simp only[he];rw[dW (r:=.li aA) rfl];refine bI hh.length (λk s=>s=((k:Int),hh,())) rfl ?_;rintro X k s hk rfl hX;simp only[ad,I2];by_cases hlt:k<hh.length
     ·have hok:dX 16 hh[k].length=true:=List.all_eq_true.1 hp3 _ (aj hlt);simp only[hlt,decide_true,Int.toNat_natCast,bC (r:=.li aA) hlt,jJ (r:=.li aA) hlt,pV (r:=.li aA) hlt];refine aH (s:=[(false,aA.li)]) (y:=hh[k]) (by rw[kL,cZ,iD hok];rfl) ?_;refine ⟨rfl,?_⟩;have e:bR (Sy.enc (.li aA) hh[k]) 0 [T.sl false (List.map aA.enc hh[k])]=Sy.enc (.li aA) hh[k]:=rfl;rw[e,GR (r:=.li aA) hlt,dW (r:=.li aA) rfl];refine hX _ hlt ?_;simp only[Prod.mk.injEq,and_true];exact bD _ (by omega) (by omega)
     ·simp only[hlt,decide_false];rfl
   | false =>
    simp only[hc] at hf;refine hX _ hlt ⟨?_,hf⟩;simp only[Prod.mk.injEq,and_true];exact bD _ (by omega) (by omega)
  ·have:k=d.2.2.1.length:=by omega
   subst this;simp only[List.drop_length,List.find?_nil] at hf;simp only[Z4,<-hf] at h;simp only[hlt,decide_false,aD];cases h;rfl
 ·cases h
end Go.Pv
namespace Go.Pv
open Go Go.Proofs IntKind
abbrev pC:Sh:=[(false,.bool)]
variable {A B:Prop}
def fG {p:Prop} {i:Decidable p} (h:p) (ha:A):aD (@decide p i) A B:=by rw[show @decide p i=true from ah h];exact ha
def gW {p:Prop} {i:Decidable p} (h:¬ p) (hb:B):aD (@decide p i) A B:=by rw[show @decide p i=false from ai h];exact hb
def bV {p:Prop} {i:Decidable p} (h1:p->A) (h2:¬ p->B):aD (@decide p i) A B:=by
 by_cases h:p
 ·rw[ah h];exact h1 h
 ·rw[ai h];exact h2 h
def lA {p:Prop} {i:Decidable p} (h1:¬ p->A) (h2:p->B):aD (!(@decide p i)) A B:=by
 by_cases h:p
 ·rw[ah h];exact h2 h
 ·rw[ai h];exact h1 h
def IU {c:Bool} (h1:c=true->A) (h2:c=false->B):aD c A B:=by cases c with
 | true=>exact h1 rfl
 | false=>exact h2 rfl
def jI {c:Bool} (h1:c=false->A) (h2:c=true->B):aD (!c) A B:=by cases c with
 | true=>exact h2 rfl
 | false=>exact h1 rfl
def cF {α:Type} (f:α->Int):List α->Int
 | []=>0
 | a::l=>if f a=0 then cF f l else f a
def qT {r:Sy} {l:List r.den} (f:r.den->Int) (hl:l.length<=140737488355328) {Body:(Int×PUnit->Prop)->Int×PUnit->r.den->Prop} {Exit:Prop}
  (hbody:∀ (X:Int×PUnit->Prop) (s:Int×PUnit) (y:r.den),y∈l->(f y=0->X (i64.wrap (s.1+1),()))->(f y≠0->cF f l=f y)->Body X s y) (hexit:cF f l=0->Exit) :
  a7 (Int×PUnit) (λ(X:Int×PUnit->Prop) (s:Int×PUnit)=>aD (decide (s.1<((List.map r.enc l).length:Int))) (aP r (List.map r.enc l) s.1 λy=>Body X s y) Exit) (0,()):=by
 refine bI l.length (λk s=>s=((k:Int),())/\cF f l=cF f (l.drop k)) ⟨rfl,by rw[List.drop_zero]⟩ ?_;rintro X k s hk ⟨rfl,he⟩ hX;dsimp only;refine bV (λhlt=>?_) λhge=>?_
 ·rw[ad] at hlt;have hlt:k<l.length:=by omega
  rw[bC hlt];have hd:l.drop k=l[k]::l.drop (k+1):=List.drop_eq_getElem_cons hlt;rw[hd,cF] at he;refine hbody X _ _ (aj hlt) (λh0=>?_) λh0=>by rw[he,if_neg h0]
  rw[if_pos h0] at he;exact hX _ hlt ⟨by rw[show i64.wrap ((k:Int)+1)=((k+1:Nat):Int) from bD _ (by omega) (by omega)],he⟩
 ·rw[ad] at hge;have:k=l.length:=by omega
  subst this;rw[List.drop_length] at he;exact hexit he
end Go.Pv
namespace Go.Pv
open Go Go.Proofs IntKind
def upF (d:aB):Nat->iII->List iII->List iII×Bool
 | 0,_,_=>([],false)
 | n+1,id,l=>match eV d id with
  | none=>([],false)
  | some x=>if x.2.1=1 then (l++[id],true) else upF d n x.2.2 (l++[id])
def up (d:aB) (id:iII):List iII×Bool:=upF d 65 id []
def AQP {d:aB}:∀ {n:Nat} {id:iII} {l:List iII},(upF d n id l).1.length<=l.length+n
 | 0,_,_=>by simp[upF]
 | n+1,id,l=>by
  unfold upF;cases eV d id with
  | none=>simp
  | some x =>
   by_cases hx:x.2.1=1
   ·simp only[hx,if_true];simp
   ·simp only[hx,if_false];have:=AQP (d:=d) (n:=n) (id:=x.2.2) (l:=l++[id]);simp at this;omega
def BM5 (d:aB) (id:iII):(up d id).1.length<=65:=by have:=AQP (d:=d) (n:=65) (id:=id) (l:=[]);simpa [up] using this
def AJJ {l:List iII} (h:l.length<=8000000000000) (K:Prop):bH (decide (((List.map Sy.str.enc l).length+1)*16<=140737488355328)&&decide ((List.map Sy.str.enc l).length+1<=140737488355328)) K=K:=by
 have e:(decide (((List.map Sy.str.enc l).length+1)*16<=140737488355328)&&decide ((List.map Sy.str.enc l).length+1<=140737488355328))=true:=by
  simp only[ad,ac,ae];omega
 rw[e];simp[bH]
def OW {l:List iII} {x:iII} (K:List iII->Prop):bZ Sy.str (List.map Sy.str.enc l++[[pPQ x]]) K=K (l++[x]):=AP (r:=.str) rfl l _ x rfl K
def A3S {l:List iII} {x:iII}:List.map Sy.str.enc l++[[pPQ x]]=List.map Sy.str.enc (l++[x]):=by simp[Sy.enc]
end Go.Pv
namespace Go.Pv
open Go Go.Proofs IntKind
variable {α:Type}
def mB (a b:α):Bool:=@decide (a=b) (Classical.propDecidable _)
def eG {a b:α}:mB a b=true↔a=b:=by unfold mB;exact @decide_eq_true_iff _ (Classical.propDecidable _)
@[simp] def ACQ (a:α):mB a a=true:=eG.2 rfl
def xP {a b:α} (h:¬ a=b):mB a b=false:=by
 cases hc:mB a b with
 | false=>rfl
 | true=>exact absurd (eG.1 hc) h
def P7 (c d:Bool) (r:T):aD c (pPR d=r) (pPR false=r)=(pPR (c&&d)=r):=by cases c<;>simp[aD]
def IZ (c d:Bool) (r:T):aD (!c) (pPR false=r) (pPR d=r)=(pPR (c&&d)=r):=by cases c<;>simp[aD]
def A3R (x:Bool):Sh.enc pC x=pPR x:=rfl
def uW (y:Bool) (K:Bool->Prop):aI [(false,Sy.bool)] (some (Sh.enc pC y)) K=K y:=AM (s:=pC) rfl y K
variable {R:T->Prop}
def AXD {r:Sy} {l m:List r.den} (hlen:l.length=m.length) (hl:l.length<=2 ^ 47) (test:r.den->r.den->Bool) (ht:∀ x y,test x y=true↔x=y) (hR:R (pPR (mB l m))) :
  a7 (Int×PUnit) (λ(X:Int×PUnit->Prop) (s:Int×PUnit)=>aD (decide (s.1<(↑(List.map r.enc l).length:Int))) (aP r (List.map r.enc l) s.1 λy=>aP r (List.map r.enc m) s.1 λz=>aD (!(test y z)) (R (pPR false)) (X (i64.wrap (s.1+1),()))) (R (pPR true))) (0,()):=by
 refine bI l.length (λk s=>s=((k:Int),())/\(l=m↔l.drop k=m.drop k)) ⟨rfl,by simp⟩ ?_;rintro X k s hk ⟨rfl,he⟩ hX;dsimp only;by_cases hlt:k<l.length
 ·have hlt2:k<m.length:=by omega
  refine fG (by simp[hlt]) ?_;rw[bC hlt,bC hlt2];rw[List.drop_eq_getElem_cons hlt,List.drop_eq_getElem_cons hlt2,List.cons.injEq] at he;by_cases h1:l[k]=m[k]
  ·rw[(ht _ _).2 h1,Bool.not_true,nW];refine hX _ hlt ⟨by rw[show i64.wrap ((k:Int)+1)=((k+1:Nat):Int) from bD _ (by omega) (by omega)],?_⟩;rw[he];exact ⟨λh=>h.2,λh=>⟨h1,h⟩⟩
  ·have:test l[k] m[k]=false:=by
    cases hc:test l[k] m[k] with
    | false=>rfl
    | true=>exact absurd ((ht _ _).1 hc) h1
   rw[this,Bool.not_false,kC];rwa[xP λh=>h1 (he.1 h).1] at hR
 ·have:k=l.length:=by omega
  subst this;refine gW (by simp) ?_;rwa[eG.2 (he.2 (by rw[List.drop_length,hlen,List.drop_length]))] at hR
def AA {r:Sy} {l m:List r.den} (hl:l.length<=2 ^ 47) (test:r.den->r.den->Bool) (ht:∀ x y,test x y=true↔x=y) (hR:R (pPR (mB l m))) :
  aD (!decide ((↑(List.map r.enc l).length:Int)=(↑(List.map r.enc m).length:Int))) (R (pPR false)) (a7 (Int×PUnit) (λ(X:Int×PUnit->Prop) (s:Int×PUnit)=>aD (decide (s.1<(↑(List.map r.enc l).length:Int))) (aP r (List.map r.enc l) s.1 λy=>aP r (List.map r.enc m) s.1 λz=>aD (!(test y z)) (R (pPR false)) (X (i64.wrap (s.1+1),()))) (R (pPR true))) (0,())):=by
 by_cases hlen:l.length=m.length
 ·rw[show (!decide ((↑(List.map r.enc l).length:Int)=(↑(List.map r.enc m).length:Int)))=false by simp[hlen],nW];exact AXD hlen hl test ht hR
 ·rw[show (!decide ((↑(List.map r.enc l).length:Int)=(↑(List.map r.enc m).length:Int)))=true by simp;omega,kC];rwa[xP λh=>hlen (by rw[h])] at hR
def iB (d:aB) (id:iII):Option aT:=d.2.2.2.2.1.find? λs=>decide (s.1=id)
def noPack:aT:=(⟨#[]⟩,⟨#[]⟩,[],0,[])
def ACF:xF Tryz.prog 113 1 16:=⟨λR=>by kernel_rfl,λfl R=>by kernel_rfl,λfl a rows R=>by kernel_rfl⟩
def gF:List T->Option T:=gS [(false,.li .str)] (cZ .str 16)
def jO {u0}:gF [T.sl false (List.map (Sy.enc .str) u0)]=cZ .str 16 u0:=bA (s:=[(false,.li .str)]) rfl u0 rfl
def xT:aM Tryz.prog 113 gF:=nR aR aU ⟨_,_,Tryz.func113,rfl⟩ ACF
def dI (p:aT):Bool:=dX 16 p.2.2.1.length&&dX 16 p.2.2.2.2.length
def zR (d:aB):Bool:=d.2.2.2.2.1.all dI
def AF3 (d:aB) (t:T):Option T:=match zR d with
 | true=>some t
 | false=>none
def A78 {d:aB} {t r:T} (h:AF3 d t=some r):zR d=true/\r=t:=by
 unfold AF3 at h;split at h
 ·cases h;exact ⟨by assumption,rfl⟩
 ·cases h
def AF4 {d:aB} (t:T) (h:zR d=true):AF3 d t=some t:=by unfold AF3;rw[h]
def BQ (x:aB×iII):Option T:=AF3 x.1 (Sh.enc [(true,aE),(false,.bool)] (found noPack (iB x.1 x.2)))
def BH3:Env:=Env.of [(113,.pure gF)]
def BIP:FuncId->Hint:=bT 263 [(2,.inv [.val 11 false (.int .i64),.fix 1])] (λ_=>aX)
def AZG:aQ Tryz.prog BH3:=.cons xT (.nil _)
def d9:Sh:=[(false,Sy.str.li)]
def m7(a0:aB):List (List T):=List.map aE.enc a0.2.2.2.2.1
def IO(y3:List iII):List (List T):=List.map Sy.str.enc y3
def BQ9(y2:aT):List (List T):=List.map Sy.str.enc y2.2.2.2.2
def BRC(y2:aT):List (List T):=List.map Sy.str.enc y2.2.2.1
def AIV(a0:aB)(a1:iII)(R:T->Prop):Prop:=fK (bE.rows false [[D.p d5,D.p d5, D.p d8,D.p (pPP 0), D.p d8]]) (bE.rows false [[D.p d5,D.p d5, D.p d8,D.p (pPP 0), D.p d8]]) (a7 (Int×PUnit×PUnit) (λX0 s1=>aD (decide (s1.1<(↑(m7 a0).length:Int))) (aP aE (m7 a0) s1.1 λ(y2:aT)=>aD (decide (y2.1=a1)) (aI d9 (gF [T.sl false (BRC y2)]) λ(y3:List iII)=>aI d9 (gF [T.sl false (BQ9 y2)]) λ(y4:List iII)=>R (T.bX [T.agg [pPQ y2.1,pPQ y2.2.1, T.sl false (IO y3), pPP y2.2.2.2.1, T.sl false (IO y4)], pPR true])) (fK (bE.rows false [[D.p d5, D.p d5, D.p d8, D.p (pPP 0), D.p d8]]) (bE.rows false [[D.p d5, D.p d5, D.p d8, D.p (pPP 0), D.p d8]]) (X0 (i64.wrap (s1.1+1),(),())))) (R (T.bX [T.agg [pPQ ({data:=#[]}),pPQ ({data:=#[]}), T.sl false [],pPP 0,T.sl false []], pPR false]))) (0,(),()))
abbrev AMY:Sh:=[(true,aC),(false,Sy.str)]
def DW:List T->Option T:=gS AMY BQ
def UH {a0 a1}:DW [aF true aC a0,pPQ a1]=BQ (a0,a1):=bA (s:=AMY) rfl (a0,a1) rfl
def BFG:qN Tryz.prog 263 DW BQ (bY AMY) AIV:=gL (a1:=(true,aC)) (a2:=(false,Sy.str)) (Hs:=BIP) (k:=8) AZG aR aU (aL rfl) ⟨_,_,Tryz.func263,rfl⟩ rfl λ_ _ _=>by kernel_rfl
def AO4:aM Tryz.prog 263 DW:=BFG λd id r h hb=>by
 have hl:d.2.2.2.2.1.length<=2 ^ 47:=hb.1.2.2.2.2.1.1;obtain ⟨hok,rfl⟩:=A78 h;clear h;unfold AIV BRC BQ9 IO m7 d9 d8 d5;rw[cU];refine bI d.2.2.2.2.1.length (λk s=>s=((k:Int),(),())/\(d.2.2.2.2.1.drop k).find? (λs=>decide (s.1=id))=iB d id) ⟨rfl,rfl⟩ ?_;rintro X k s hk ⟨rfl,hf⟩ hX;simp only[ad,I2,cU];by_cases hlt:k<d.2.2.2.2.1.length
 ·rw[p9 hlt] at hf;have hp:dI d.2.2.2.2.1[k]=true:=List.all_eq_true.1 hok _ (aj hlt);simp only[hlt,decide_true,aD,bC (r:=aE) hlt];unfold dI at hp;simp only[ac] at hp;cases hc:decide (d.2.2.2.2.1[k].1=id) with
  | true =>
   simp only[hc,if_true] at hf;rw[<-hf];refine aH (s:=[(false,.li .str)]) (y:=d.2.2.2.2.1[k].2.2.1) (by rw[jO,cZ,iD hp.1];rfl) ?_;refine aH (s:=[(false,.li .str)]) (y:=d.2.2.2.2.1[k].2.2.2.2) (by rw[jO,cZ,iD hp.2];rfl) ?_;rfl
  | false =>
   simp only[hc] at hf;refine hX _ hlt ⟨?_,hf⟩;simp only[Prod.mk.injEq,and_true];exact bD _ (by omega) (by omega)
 ·have:k=d.2.2.2.2.1.length:=by omega
  subst this;simp only[List.drop_length,List.find?_nil] at hf;rw[<-hf];simp only[hlt,decide_false,aD];rfl
def vA (x:List aO×List aO):Option T:=some (Sh.enc pC (mB x.1 x.2))
def vB (x:jP×jP):Option T:=some (Sh.enc pC (mB x.1 x.2))
def oV (x:bB×bB):Option T:=some (Sh.enc pC (mB x.1 x.2))
def AE (x:List iII×List iII):Option T:=some (Sh.enc pC (mB x.1 x.2))
def oU (x:aT×aT):Option T:=some (Sh.enc pC (mB x.1 x.2))
def AYX:Env:=Env.of []
def A2D:FuncId->Hint:=bT 114 [(4,.inv [.val 5 false (.int .i64)])] (λ_=>aX)
def AH6:aQ Tryz.prog AYX:=.nil _
def d3:T:=pPR false
def d6:T:=pPR true
def LE(a0:List aO)(a1:List aO)(R:T->Prop):Prop:=a7 (Int×PUnit) (λX0 s1=>aD (decide (s1.1<(↑(g9 a0).length:Int))) (aP aA (g9 a0) s1.1 λ(y2:aO)=>aP aA (g9 a1) s1.1 λ(y3:aO)=>aD (!(decide (y2.1=y3.1)&&(decide (y2.2=y3.2)&&true))) (R d3) (f9 X0 s1)) (R d6)) (0,())
def NY(a0:List aO)(a1:List aO)(R:T->Prop):Prop:=aD (!decide ((↑(g9 a0).length:Int)=(↑(g9 a1).length:Int))) (R d3) (LE a0 a1 R)
abbrev RJ:Sh:=[(false,aA.li),(false,aA.li)]
def uO:List T->Option T:=gS RJ vA
def AEX {a0 a1}:uO [T.sl false (List.map aA.enc a0),T.sl false (List.map aA.enc a1)]=vA (a0,a1):=bA (s:=RJ) rfl (a0,a1) rfl
def AWS:qN Tryz.prog 114 uO vA (bY RJ) NY:=gL (a1:=(false,aA.li)) (a2:=(false,aA.li)) (Hs:=A2D) (k:=8) AH6 aR aU (aL rfl) ⟨_,_,Tryz.func114,rfl⟩ rfl λ_ _ _=>by kernel_rfl
def AUJ:aM Tryz.prog 114 uO:=AWS λa b r h hb=>by
 cases h;unfold NY LE g9 f9 d6 d3;refine AA (r:=aA) (R:=λy=>y=Sh.enc pC (mB a b)) hb.1.1 _ (λx y=>?_) rfl;simp only[Bool.and_true,ac,ae,Prod.ext_iff]
def AYY:Env:=Env.of [(114,.pure uO)]
def A2E:FuncId->Hint:=bT 76 [(4,.inv [.val 5 false (.int .i64)])] (λ_=>aX)
def AH7:aQ Tryz.prog AYY:=.cons AUJ (.nil _)
def d4:Sh:=[(false,Sy.bool)]
def BRH(a0:jP):List (List T):=List.map aA.li.enc a0.2
def NZ(a0:jP)(a1:jP)(R:T->Prop):Prop:=aI d4 (uO [T.sl false (List.map aA.enc a0.1),T.sl false (List.map aA.enc a1.1)]) λ(y0:Bool)=>aD (!y0) (R d3) (aD (!decide ((↑(BRH a0).length:Int) = (↑(BRH a1).length:Int))) (R d3) (a7 (Int×PUnit) (λX1 s2=>aD (decide (s2.1<(↑(BRH a0).length:Int))) (aP aA.li (BRH a0) s2.1 λ(y3:List aO)=>aP aA.li (BRH a1) s2.1 λ(y4:List aO)=>aI d4 (uO [T.sl false (g9 y3),T.sl false (g9 y4)]) λ(y5:Bool)=>aD (!y5) (R d3) (f9 X1 s2)) (R d6)) (0,())))
abbrev RL:Sh:=[(true,eW),(true,eW)]
def yG:List T->Option T:=gS RL vB
def AEY {a0 a1}:yG [aF true eW a0,aF true eW a1]=vB (a0,a1):=bA (s:=RL) rfl (a0,a1) rfl
def AWT:qN Tryz.prog 76 yG vB (bY RL) NZ:=gL (a1:=(true,eW)) (a2:=(true,eW)) (Hs:=A2E) (k:=8) AH7 aR aU (aL rfl) ⟨_,_,Tryz.func76,rfl⟩ rfl λ_ _ _=>by kernel_rfl
def AUK:aM Tryz.prog 76 yG:=AWT λa b r h hb=>by
 cases h;unfold NZ BRH g9 f9 d6 d4 d3;have u:=@AEX;simp only[u,vA,uW];by_cases h1:a.1=b.1
 ·rw[eG.2 h1,Bool.not_true,nW];refine AA (r:=.li aA) (R:=λy=>y=Sh.enc pC (mB a b)) hb.1.2.1 _ (λx y=>eG) ?_;show T.v (.bool (mB a.2 b.2))=T.v (.bool (mB a b))
  congr 2
  rw[Bool.eq_iff_iff,eG,eG,Prod.ext_iff];exact ⟨λh=>⟨h1,h⟩,λh=>h.2⟩
 ·rw[xP h1,Bool.not_false,kC,xP λh=>h1 (by rw[h])];rfl
def AHE:Env:=Env.of [(76,.pure yG)]
def AJB:FuncId->Hint:=λ_=>aX
def V8:aQ Tryz.prog AHE:=.cons AUK (.nil _)
def DA(a0:bB)(a1:bB)(R:T->Prop):Prop:=aD (!decide (a0.1=a1.1)) (R d3) (aD (!decide (a0.2.1=a1.2.1)) (R d3) (aD (!decide (a0.2.2.1=a1.2.2.1)) (R d3) (aD (!decide (a0.2.2.2.1=a1.2.2.2.1)) (R d3) (aD (!decide (a0.2.2.2.2.1=a1.2.2.2.2.1)) (R d3) (aD (!decide (a0.2.2.2.2.2.1=a1.2.2.2.2.2.1)) (R d3) (aI d4 (yG [aF true eW a0.2.2.2.2.2.2.1, aF true eW a1.2.2.2.2.2.2.1]) λ(y0:Bool)=>aD y0 (aD (decide (a0.2.2.2.2.2.2.2.1=a1.2.2.2.2.2.2.2.1)) (aD (decide (a0.2.2.2.2.2.2.2.2.1=a1.2.2.2.2.2.2.2.2.1)) (aD (decide (a0.2.2.2.2.2.2.2.2.2.1=a1.2.2.2.2.2.2.2.2.2.1)) (aD (decide (a0.2.2.2.2.2.2.2.2.2.2.1.1 = a1.2.2.2.2.2.2.2.2.2.2.1.1) && (decide (a0.2.2.2.2.2.2.2.2.2.2.1.2.1 = a1.2.2.2.2.2.2.2.2.2.2.1.2.1) && (decide (a0.2.2.2.2.2.2.2.2.2.2.1.2.2 = a1.2.2.2.2.2.2.2.2.2.2.1.2.2) && true))) (R (pPR (decide (a0.2.2.2.2.2.2.2.2.2.2.2.1.1 = a1.2.2.2.2.2.2.2.2.2.2.2.1.1) && (decide (a0.2.2.2.2.2.2.2.2.2.2.2.1.2.1 = a1.2.2.2.2.2.2.2.2.2.2.2.1.2.1) && (decide (a0.2.2.2.2.2.2.2.2.2.2.2.1.2.2 = a1.2.2.2.2.2.2.2.2.2.2.2.1.2.2) && true)) && (decide (a0.2.2.2.2.2.2.2.2.2.2.2.2 = a1.2.2.2.2.2.2.2.2.2.2.2.2) && true)))) (R d3)) (R d3)) (R d3)) (R d3)) (R d3)))))))
abbrev EA:Sh:=[(true,aJ),(true,aJ)]
def q0:List T->Option T:=gS EA oV
def SY {a0 a1}:q0 [aF true aJ a0,aF true aJ a1]=oV (a0,a1):=bA (s:=EA) rfl (a0,a1) rfl
def AFX:qN Tryz.prog 30 q0 oV (bY EA) DA:=gL (a1:=(true,aJ)) (a2:=(true,aJ)) (Hs:=AJB) (k:=8) V8 aR aU (aL rfl) ⟨_,_,Tryz.func30,rfl⟩ rfl λ_ _ _=>by kernel_rfl
def AC6:aM Tryz.prog 30 q0:=AFX λa b r h hb=>by
 cases h;unfold DA d4 d3;simp only[AEY,vB,uW];simp only[A3R,P7,IZ]
 congr 2
 rw[Bool.eq_iff_iff,eG];simp only[Bool.and_true,ac,ae,eG,Prod.ext_iff,and_assoc]
def BAP:Env:=Env.of []
def BCC:FuncId->Hint:=bT 77 [(4,.inv [.val 5 false (.int .i64)])] (λ_=>aX)
def AR6:aQ Tryz.prog BAP:=.nil _
def WU(a0:List iII)(a1:List iII)(R:T->Prop):Prop:=aD (!decide ((↑(IO a0).length:Int)=(↑(IO a1).length:Int))) (R d3) (a7 (Int×PUnit) (λX0 s1=>aD (decide (s1.1<(↑(IO a0).length:Int))) (aP Sy.str (IO a0) s1.1 λ(y2:iII)=>aP Sy.str (IO a1) s1.1 λ(y3:iII)=>aD (!decide (y2=y3)) (R d3) (f9 X0 s1)) (R d6)) (0,()))
abbrev ZQ:Sh:=[(false,Sy.str.li),(false,Sy.str.li)]
def AZ:List T->Option T:=gS ZQ AE
def ALA {a0 a1}:AZ [T.sl false (List.map Sy.str.enc a0),T.sl false (List.map Sy.str.enc a1)]=AE (a0,a1):=bA (s:=ZQ) rfl (a0,a1) rfl
def A70:qN Tryz.prog 77 AZ AE (bY ZQ) WU:=gL (a1:=(false,Sy.str.li)) (a2:=(false,Sy.str.li)) (Hs:=BCC) (k:=8) AR6 aR aU (aL rfl) ⟨_,_,Tryz.func77,rfl⟩ rfl λ_ _ _=>by kernel_rfl
def A4J:aM Tryz.prog 77 AZ:=A70 λa b r h hb=>by
 cases h;unfold WU IO f9 d6 d3;exact AA (r:=.str) (R:=λy=>y=Sh.enc pC (mB a b)) hb.1.1 _ (λx y=>decide_eq_true_iff) rfl
def AHD:Env:=Env.of [(77,.pure AZ)]
def AJA:FuncId->Hint:=λ_=>aX
def V7:aQ Tryz.prog AHD:=.cons A4J (.nil _)
def C9(a0:aT)(a1:aT)(R:T->Prop):Prop:=aD (decide (a0.1=a1.1)) (aD (decide (a0.2.1=a1.2.1)) (aD (decide (a0.2.2.2.1=a1.2.2.2.1)) (aI d4 (AZ [T.sl false (BRC a0), T.sl false (BRC a1)]) λ(y0:Bool)=>aD y0 (aI d4 (AZ [T.sl false (BQ9 a0), T.sl false (BQ9 a1)]) λ(y1:Bool)=>R (pPR y1)) (R d3)) (R d3)) (R d3)) (R d3)
abbrev D9:Sh:=[(true,aE),(true,aE)]
def qZ:List T->Option T:=gS D9 oU
def SX {a0 a1}:qZ [aF true aE a0,aF true aE a1]=oU (a0,a1):=bA (s:=D9) rfl (a0,a1) rfl
def AFW:qN Tryz.prog 31 qZ oU (bY D9) C9:=gL (a1:=(true,aE)) (a2:=(true,aE)) (Hs:=AJA) (k:=8) V7 aR aU (aL rfl) ⟨_,_,Tryz.func31,rfl⟩ rfl λ_ _ _=>by kernel_rfl
def AC5:aM Tryz.prog 31 qZ:=AFW λa b r h hb=>by
 cases h;unfold C9 BRC BQ9 d4 d3;have u:=@ALA;simp only[u,AE,uW];simp only[A3R,P7,IZ]
 congr 2
 rw[Bool.eq_iff_iff,eG];simp only[Bool.and_true,ac,ae,eG,Prod.ext_iff];exact ⟨λ⟨h1,h2,h3,h4,h5⟩=>⟨h1,h2,h4,h3,h5⟩,λ⟨h1,h2,h4,h3,h5⟩=>⟨h1,h2,h3,h4,h5⟩⟩
end Go.Pv
namespace Go.Pv
open Go Go.Proofs IntKind
def few (d:aB) (n:Int):Bool:=decide ((d.2.1.length:Int)<=n)&&decide ((d.2.2.1.length:Int)<=n)&&decide ((d.2.2.2.1.length:Int)<=n)&&decide ((d.2.2.2.2.1.length:Int)<=n)&&decide ((d.2.2.2.2.2.length:Int)<=n)&&d.2.2.2.2.1.all λk=>decide ((k.2.2.1.length:Int)<=n)&&decide ((k.2.2.2.2.length:Int)<=n)
def Z0 (x:aB×Int):Option T:=some (Sh.enc pC (few x.1 x.2))
def BNT:Env:=Env.of []
def BOE:FuncId->Hint:=bT 22 [(4,.inv [.val 5 false (.int .i64)])] (λ_=>aX)
def BBB:aQ Tryz.prog BNT:=.nil _
def FS(a0:aB):List (List T):=List.map aW.enc a0.2.2.2.2.2
def A0L(a0:aB)(a1:Int)(R:T->Prop):Prop:=aD (decide (a1<(↑(t7 a0).length:Int))) (R d3) (aD (decide (a1<(↑(GT a0).length:Int))) (R d3) (aD (decide (a1<(↑(t6 a0).length:Int))) (R d3) (aD (decide (a1<(↑(m7 a0).length:Int))) (R d3) (aD (decide (a1<(↑(FS a0).length:Int))) (R d3) (a7 (Int×PUnit) (λX0 s1=>aD (decide (s1.1<(↑(m7 a0).length:Int))) (aP aE (m7 a0) s1.1 λ(y2:aT)=>aD (decide (a1<(↑(BRC y2).length:Int))) (R d3) (aP aE (m7 a0) s1.1 λ(y3:aT)=>aD (decide (a1<(↑(BQ9 y3).length:Int))) (R d3) (f9 X0 s1))) (R d6)) (0,()))))))
abbrev A9E:Sh:=[(true,aC),(false,(Sy.int IntKind.i64))]
def ADV:List T->Option T:=gS A9E Z0
def A5I {a0 a1}:ADV [aF true aC a0,pPP a1]=Z0 (a0,a1):=bA (s:=A9E) rfl (a0,a1) rfl
def BLY:qN Tryz.prog 22 ADV Z0 (bY A9E) A0L:=gL (a1:=(true,aC)) (a2:=(false,(Sy.int IntKind.i64))) (Hs:=BOE) (k:=8) BBB aR aU (aL rfl) ⟨_,_,Tryz.func22,rfl⟩ rfl λ_ _ _=>by kernel_rfl
variable {A B:Prop}
def jW {n:Int} {m:Nat} (h1:¬ (m:Int)<=n->A) (h2:(m:Int)<=n->B):aD (decide (n<(m:Int))) A B:=by
 by_cases h:(m:Int)<=n
 ·exact gW (by omega) (h2 h)
 ·exact fG (by omega) (h1 h)
variable {α:Type}
def OA {p:α->Bool} {l:List α} {k:Nat} (h:k<l.length):(l.drop k).all p=(p l[k]&&(l.drop (k+1)).all p):=by rw[List.drop_eq_getElem_cons h,List.all_cons]
def BJZ:aM Tryz.prog 22 ADV:=BLY λd n r h hb=>by
 cases h;have hl:d.2.2.2.2.1.length<=2 ^ 47:=hb.1.2.2.2.2.1.1;have no:few d n=false->pPR false=Sh.enc pC (few d n):=λh=>by rw[h];rfl
 unfold A0L BRC BQ9 f9 GT FS t7 t6 m7 d6 d3;simp only[ad];refine jW (λh=>no (by simp[few,h])) λg1=>?_;refine jW (λh=>no (by simp[few,h])) λg2=>?_;refine jW (λh=>no (by simp[few,h])) λg3=>?_;refine jW (λh=>no (by simp[few,h])) λg4=>?_;refine jW (λh=>no (by simp[few,h])) λg5=>?_;refine bI d.2.2.2.2.1.length (λk s=>s=((k:Int),())/\few d n=(d.2.2.2.2.1.drop k).all λk=>decide ((k.2.2.1.length:Int)<=n)&&decide ((k.2.2.2.2.length:Int)<=n)) ⟨rfl,by simp only[few,g1,g2,g3,g4,g5,decide_true,Bool.true_and,List.drop_zero]⟩ ?_;rintro X k s hk ⟨rfl,he⟩ hX;dsimp only;by_cases hlt:k<d.2.2.2.2.1.length
 ·rw[OA hlt] at he;refine fG (by simp[hlt]) ?_;rw[bC (r:=aE) hlt]
  try simp only[ad]
  refine jW (λh=>no (by rw[he];simp[h])) λg6=>?_
  try rw[bC (r:=aE) hlt]
  try simp only[ad]
  refine jW (λh=>no (by rw[he];simp[h])) λg7=>?_;refine hX _ hlt ⟨by rw[show i64.wrap ((k:Int)+1)=((k+1:Nat):Int) from bD _ (by omega) (by omega)],?_⟩;rw[he];simp only[g6,g7,decide_true,Bool.true_and]
 ·have:k=d.2.2.2.2.1.length:=by omega
  subst this;refine gW (by simp) ?_;rw[he];simp only[List.drop_length,List.all_nil];rfl
def BMM {d:aB} (h:InS aC d):BA d=true:=by
 refine List.all_eq_true.2 λp hp=>?_;obtain ⟨_,_,⟨_,_,h3⟩,_⟩:=h;have h4:=h3 p hp;obtain ⟨_,_,_,_,_,_,⟨⟨h5,h6,_⟩,h7,h8,h9⟩,_⟩:=h4;unfold dP BC dX;simp only[ac,ae,List.all_eq_true];refine ⟨⟨⟨?_,?_⟩,?_,?_⟩,λq hq=>?_⟩
 ·exact h5
 ·exact h6
 ·exact h7
 ·exact h8
 ·obtain ⟨g1,g2,_⟩:=h9 q hq;exact ⟨g1,g2⟩
def BMN {d:aB} (h:InS aC d):zR d=true:=by
 refine List.all_eq_true.2 λp hp=>?_;obtain ⟨_,_,_,_,⟨_,_,h3⟩,_⟩:=h;obtain ⟨_,_,⟨h5,h6,_⟩,_,⟨h7,h8,_⟩⟩:=h3 p hp;unfold dI dX;simp only[ac,ae];exact ⟨⟨h5,h6⟩,h7,h8⟩
def q9 {c:Bool} (h1:c=true->A) (h2:c=false->B):aD c A B:=by cases c with
 | true=>exact h1 rfl
 | false=>exact h2 rfl
def fU {c:Bool} (h1:c=false->A) (h2:c=true->B):aD (!c) A B:=by cases c with
 | true=>exact h2 rfl
 | false=>exact h1 rfl
end Go.Pv
namespace Go.Pv
open Go Go.Proofs IntKind
def G7 (x:List aO×List aO):Option T:=some (Sh.enc pC (mB x.1 x.2))
def sP (x:bB×bB):Option T:=some (Sh.enc pC (mB x.1 x.2))
def RW (x:aB×aB):Option T:=some (Sh.enc pC (mB x.1 x.2))
def nG:=RW
def BH8:Env:=Env.of []
def BIU:FuncId->Hint:=bT 86 [(4,.inv [.val 13 false (.int .i64)])] (λ_=>aX)
def AZL:aQ Tryz.prog BH8:=.nil _
def AI0(a0:List aO)(a1:List aO)(R:T->Prop):Prop:=aD (!decide ((↑(g9 a0).length:Int)=(↑(g9 a1).length:Int))) (R d3) (LE a0 a1 R)
abbrev AM3:Sh:=[(false,aA.li),(false,aA.li)]
def IK:List T->Option T:=gS AM3 G7
def AU2 {a0 a1}:IK [T.sl false (List.map aA.enc a0),T.sl false (List.map aA.enc a1)]=G7 (a0,a1):=bA (s:=AM3) rfl (a0,a1) rfl
def BFL:qN Tryz.prog 86 IK G7 (bY AM3) AI0:=gL (a1:=(false,aA.li)) (a2:=(false,aA.li)) (Hs:=BIU) (k:=8) AZL aR aU (aL rfl) ⟨_,_,Tryz.func86,rfl⟩ rfl λ_ _ _=>by kernel_rfl
def BDU:aM Tryz.prog 86 IK:=BFL λa b r h hb=>by
 cases h;unfold AI0 LE g9 f9 d6 d3;refine AA (r:=aA) (R:=λy=>y=Sh.enc pC (mB a b)) hb.1.1 _ (λx y=>?_) rfl;simp only[Bool.and_true,ac,ae,Prod.ext_iff]
variable {N Y:Prop}
def tV {r:Sy} {l m:List r.den} (hlen:l.length=m.length) (hl:l.length<=2 ^ 47) (test:r.den->r.den->Bool) (ht:∀ x y,test x y=true↔x=y) (hY:l=m->Y) (hN:¬ l=m->N) :
  a7 (Int×PUnit) (λ(X:Int×PUnit->Prop) (s:Int×PUnit)=>aD (decide (s.1<(↑(List.map r.enc l).length:Int))) (aP r (List.map r.enc l) s.1 λy=>aP r (List.map r.enc m) s.1 λz=>aD (!(test y z)) N (X (i64.wrap (s.1+1),()))) Y) (0,()):=by
 refine bI l.length (λk s=>s=((k:Int),())/\(l=m↔l.drop k=m.drop k)) ⟨rfl,by simp⟩ ?_;rintro X k s hk ⟨rfl,he⟩ hX;dsimp only;by_cases hlt:k<l.length
 ·have hlt2:k<m.length:=by omega
  refine fG (by simp[hlt]) ?_;rw[bC hlt,bC hlt2];rw[List.drop_eq_getElem_cons hlt,List.drop_eq_getElem_cons hlt2,List.cons.injEq] at he;refine fU (λh=>hN λe=>?_) λh=>?_
  ·rw[(ht _ _).2 (he.1 e).1] at h;cases h
  ·have h1:=(ht _ _).1 h;refine hX _ hlt ⟨by rw[show i64.wrap ((k:Int)+1)=((k+1:Nat):Int) from bD _ (by omega) (by omega)],?_⟩;rw[he];exact ⟨λh=>h.2,λh=>⟨h1,h⟩⟩
 ·have:k=l.length:=by omega
  subst this;refine gW (by simp) ?_;exact hY (he.2 (by rw[List.drop_length,hlen,List.drop_length]))
variable {α β:Type}
def I3 {f:α->β} {l m:List α} (h:decide ((↑(List.map f l).length:Int)=(↑(List.map f m).length:Int))=true):l.length=m.length:=by simp at h;omega
def XG {r:Sy} {l m:List r.den} (hl:l.length<=2 ^ 47) (test:r.den->r.den->Bool) (ht:∀ x y,test x y=true↔x=y) (hY:l=m->Y) (hN:¬ l=m->N) :
  aD (!decide ((↑(List.map r.enc l).length:Int)=(↑(List.map r.enc m).length:Int))) N (a7 (Int×PUnit) (λ(X:Int×PUnit->Prop) (s:Int×PUnit)=>aD (decide (s.1<(↑(List.map r.enc l).length:Int))) (aP r (List.map r.enc l) s.1 λy=>aP r (List.map r.enc m) s.1 λz=>aD (!(test y z)) N (X (i64.wrap (s.1+1),()))) Y) (0,())) :=
 fU (λh=>hN λe=>by simp[e] at h) λh=>tV (I3 h) hl test ht hY hN
def AHC:Env:=Env.of [(86,.pure IK)]
def AI9:FuncId->Hint:=bT 87 [(4,.inv [.val 17 false (.int .i64)])] (λ_=>aX)
def V6:aQ Tryz.prog AHC:=.cons BDU (.nil _)
def C8(a0:bB)(a1:bB)(R:T->Prop):Prop:=aD (!decide (a0.1=a1.1)) (R d3) (aD (!decide (a0.2.1=a1.2.1)) (R d3) (aD (!decide (a0.2.2.1=a1.2.2.1)) (R d3) (aD (!decide (a0.2.2.2.1=a1.2.2.2.1)) (R d3) (aD (!decide (a0.2.2.2.2.1=a1.2.2.2.2.1)) (R d3) (aD (!decide (a0.2.2.2.2.2.1=a1.2.2.2.2.2.1)) (R d3) (aD (!decide (a0.2.2.2.2.2.2.2.1=a1.2.2.2.2.2.2.2.1)) (R d3) (aD (!decide (a0.2.2.2.2.2.2.2.2.1=a1.2.2.2.2.2.2.2.2.1)) (R d3) (aD (!decide (a0.2.2.2.2.2.2.2.2.2.1=a1.2.2.2.2.2.2.2.2.2.1)) (R d3) (aD (!(decide (a0.2.2.2.2.2.2.2.2.2.2.1.1 = a1.2.2.2.2.2.2.2.2.2.2.1.1) && (decide (a0.2.2.2.2.2.2.2.2.2.2.1.2.1 = a1.2.2.2.2.2.2.2.2.2.2.1.2.1) && (decide (a0.2.2.2.2.2.2.2.2.2.2.1.2.2 = a1.2.2.2.2.2.2.2.2.2.2.1.2.2) && true)))) (R d3) (aD (!(decide (a0.2.2.2.2.2.2.2.2.2.2.2.1.1 = a1.2.2.2.2.2.2.2.2.2.2.2.1.1) && (decide (a0.2.2.2.2.2.2.2.2.2.2.2.1.2.1 = a1.2.2.2.2.2.2.2.2.2.2.2.1.2.1) && (decide (a0.2.2.2.2.2.2.2.2.2.2.2.1.2.2 = a1.2.2.2.2.2.2.2.2.2.2.2.1.2.2) && true)) && (decide (a0.2.2.2.2.2.2.2.2.2.2.2.2 = a1.2.2.2.2.2.2.2.2.2.2.2.2) && true))) (R d3) (aI d4 (IK [T.sl false (BRD a0), T.sl false (BRD a1)]) λ(y0:Bool)=>aD y0 (aD (!decide ((↑(v6 a0).length:Int) = (↑(v6 a1).length:Int))) (R d3) (a7 (Int×PUnit) (λX1 s2=>aD (decide (s2.1 < (↑(v6 a0).length : Int))) (aP aA.li (v6 a0) s2.1 λ(y3:List aO)=>aP aA.li (v6 a1) s2.1 λ(y4:List aO)=>aI d4 (IK [T.sl false (g9 y3), T.sl false (g9 y4)]) λ(y5:Bool)=>aD (!y5) (R d3) (f9 X1 s2)) (R d6)) (0,()))) (R d3))))))))))))
abbrev D8:Sh:=[(true,aJ),(true,aJ)]
def j6:List T->Option T:=gS D8 sP
def CQ {a0 a1}:j6 [aF true aJ a0,aF true aJ a1]=sP (a0,a1):=bA (s:=D8) rfl (a0,a1) rfl
def AFV:qN Tryz.prog 43 j6 sP (bY D8) C8:=gL (a1:=(true,aJ)) (a2:=(true,aJ)) (Hs:=AI9) (k:=8) V6 aR aU (aL rfl) ⟨_,_,Tryz.func43,rfl⟩ rfl λ_ _ _=>by kernel_rfl
def KM:aM Tryz.prog 43 j6:=AFV λa b r h hb=>by
 cases h;have no:¬ a=b->pPR false=Sh.enc pC (mB a b):=λh=>by rw[xP h];rfl
 have yes:a=b->pPR true=Sh.enc pC (mB a b):=λh=>by rw[eG.2 h];rfl
 have hl:a.2.2.2.2.2.2.1.2.length<=2 ^ 47:=hb.1.2.2.2.2.2.2.1.2.1;unfold C8 BRD v6 g9 f9 d6 d4 d3;have u:=@AU2;simp only[u,G7,uW];refine fU (λh=>no λe=>by simp[e] at h) λh1=>?_;refine fU (λh=>no λe=>by simp[e] at h) λh2=>?_;refine fU (λh=>no λe=>by simp[e] at h) λh3=>?_;refine fU (λh=>no λe=>by simp[e] at h) λh4=>?_;refine fU (λh=>no λe=>by simp[e] at h) λh5=>?_;refine fU (λh=>no λe=>by simp[e] at h) λh6=>?_;refine fU (λh=>no λe=>by simp[e] at h) λh7=>?_;refine fU (λh=>no λe=>by simp[e] at h) λh8=>?_;refine fU (λh=>no λe=>by simp[e] at h) λh9=>?_;refine fU (λh=>no λe=>by simp[e] at h) λh10=>?_;refine fU (λh=>no λe=>by simp[e] at h) λh11=>?_;refine q9 (λh12=>?_) (λh=>no λe=>by simp[e] at h);refine XG (r:=.li aA) hl _ (λx y=>eG) (λh13=>yes ?_) (λh=>no λe=>h (by rw[e]));simp only[Bool.and_true,ac,ae,eG] at h1 h2 h3 h4 h5 h6 h7 h8 h9 h10 h11 h12;simp only[Prod.ext_iff];exact ⟨h1,h2,h3,h4,h5,h6,⟨h12,h13⟩,h7,h8,h9,h10,h11⟩
def AAV:Env:=Env.of [(30,.pure q0),(31,.pure qZ)]
def ABQ:FuncId->Hint:=bT 11 [(4,.inv [.val 5 false (.int .i64)]),(9,.inv [.val 6 false (.int .i64)]),(14,.inv [.val 7 false (.int .i64)]),(19,.inv [.val 8 false (.int .i64)]),(24,.inv [.val 9 false (.int .i64)])] (λ_=>aX)
def SH:aQ Tryz.prog AAV:=.cons AC6 (.cons AC5 (.nil _))
def xG(a0:aB)(a1:aB)(R:T->Prop):Prop:=aD (!decide (a0.1=a1.1)) (R d3) (aD (!decide ((↑(t7 a0).length:Int)=(↑(t7 a1).length:Int))) (R d3) (aD (!decide ((↑(GT a0).length:Int) = (↑(GT a1).length:Int))) (R d3) (aD (!decide ((↑(t6 a0).length:Int) = (↑(t6 a1).length:Int))) (R d3) (aD (!decide ((↑(m7 a0).length:Int) = (↑(m7 a1).length:Int))) (R d3) (aD (!decide ((↑(FS a0).length:Int) = (↑(FS a1).length:Int))) (R d3) (a7 (Int×PUnit) (λX0 s1=>aD (decide (s1.1<(↑(t7 a0).length:Int))) (aP aS (t7 a0) s1.1 λ(y2:cH)=>aP aS (t7 a1) s1.1 λ(y3:cH)=>aD (!(decide (y2.1=y3.1) && (decide (y2.2.1=y3.2.1)&&(decide (y2.2.2=y3.2.2)&&true)))) (R d3) (f9 X0 s1)) (a7 (Int×PUnit) (λX4 s5=>aD (decide (s5.1<(↑(GT a0).length:Int))) (aP aJ (GT a0) s5.1 λ(y6:bB)=>aP aJ (GT a1) s5.1 λ(y7:bB)=>aI d4 (q0 [aF true aJ y6,aF true aJ y7]) λ(y8:Bool)=>aD (!y8) (R d3) (f9 X4 s5)) (a7 (Int×PUnit) (λX9 s10=>aD (decide (s10.1<(↑(t6 a0).length:Int))) (aP aV (t6 a0) s10.1 λ(y11:cJ)=>aP aV (t6 a1) s10.1 λ(y12:cJ)=>aD (!(decide (y11.1=y12.1) && (decide (y11.2.1=y12.2.1) && (decide (y11.2.2.1=y12.2.2.1) && (decide (y11.2.2.2.1=y12.2.2.2.1) && (decide (y11.2.2.2.2.1=y12.2.2.2.2.1) && (decide (y11.2.2.2.2.2=y12.2.2.2.2.2) && true))))))) (R d3) (f9 X9 s10)) (a7 (Int×PUnit) (λX13 s14=>aD (decide (s14.1<(↑(m7 a0).length:Int))) (aP aE (m7 a0) s14.1 λ(y15:aT)=>aP aE (m7 a1) s14.1 λ(y16:aT)=>aI d4 (qZ [aF true aE y15,aF true aE y16]) λ(y17:Bool)=>aD (!y17) (R d3) (f9 X13 s14)) (a7 (Int×PUnit) (λX18 s19=>aD (decide (s19.1 < (↑(FS a0).length:Int))) (aP aW (FS a0) s19.1 λ(y20:cQ)=>aP aW (FS a1) s19.1 λ(y21:cQ)=>aD (!(decide (y20.1=y21.1) && (decide (y20.2.1=y21.2.1) && (decide (y20.2.2=y21.2.2)&&true)))) (R d3) (f9 X18 s19)) (R d6)) (0,()))) (0,()))) (0,()))) (0,()))) (0,())))))))
abbrev z7:Sh:=[(true,aC),(true,aC)]
def oM:List T->Option T:=gS z7 nG
def PT {a0 a1}:oM [aF true aC a0,aF true aC a1]=nG (a0,a1):=bA (s:=z7) rfl (a0,a1) rfl
def YX:qN Tryz.prog 11 oM nG (bY z7) xG:=gL (a1:=(true,aC)) (a2:=(true,aC)) (Hs:=ABQ) (k:=8) SH aR aU (aL rfl) ⟨_,_,Tryz.func11,rfl⟩ rfl λ_ _ _=>by kernel_rfl
def XP:aM Tryz.prog 11 oM:=YX λa b r h hb=>by
 cases h;have no:¬ a=b->pPR false=Sh.enc pC (mB a b):=λh=>by rw[xP h];rfl
 have yes:a=b->pPR true=Sh.enc pC (mB a b):=λh=>by rw[eG.2 h];rfl
 obtain ⟨⟨_,⟨b1,_⟩,⟨b2,_⟩,⟨b3,_⟩,⟨b4,_⟩,⟨b5,_⟩⟩,_⟩:=hb;unfold xG f9 GT FS t7 t6 m7 d6 d4 d3;simp only[SY,oV,SX,oU,uW];refine fU (λh=>no λe=>by simp[e] at h) λh1=>?_;refine fU (λh=>no λe=>by simp[e] at h) λg1=>?_;refine fU (λh=>no λe=>by simp[e] at h) λg2=>?_;refine fU (λh=>no λe=>by simp[e] at h) λg3=>?_;refine fU (λh=>no λe=>by simp[e] at h) λg4=>?_;refine fU (λh=>no λe=>by simp[e] at h) λg5=>?_;refine tV (r:=aS) (I3 g1) b1 _ (λx y=>?_) (λh2=>?_) (λh=>no λe=>h (by rw[e]))
 ·simp only[Bool.and_true,ac,ae,Prod.ext_iff]
 refine tV (r:=aJ) (I3 g2) b2 _ (λx y=>eG) (λh3=>?_) (λh=>no λe=>h (by rw[e]));refine tV (r:=aV) (I3 g3) b3 _ (λx y=>?_) (λh4=>?_) (λh=>no λe=>h (by rw[e]))
 ·simp only[Bool.and_true,ac,ae,Prod.ext_iff]
 refine tV (r:=aE) (I3 g4) b4 _ (λx y=>eG) (λh5=>?_) (λh=>no λe=>h (by rw[e]));refine tV (r:=aW) (I3 g5) b5 _ (λx y=>?_) (λh6=>yes ?_) (λh=>no λe=>h (by rw[e]))
 ·simp only[Bool.and_true,ac,ae,Prod.ext_iff]
 exact Prod.ext (by simpa using h1) (Prod.ext h2 (Prod.ext h3 (Prod.ext h4 (Prod.ext h5 h6))))
end Go.Pv
namespace Go.Pv
open Go Go.Proofs IntKind
def eQ {r:Sy} (hr:r.pure=true) {l:List r.den} {rows:List (List T)} {K:List r.den->Prop} (e:rows=List.map r.enc l) (h:K l):bZ r rows K:=by subst e;rw[dW hr];exact h
def xN {r:Sy} {l:List r.den} {z b:Nat} (hz:r.w=z) (h:dX b l.length=true):(((List.map r.enc l).all λq=>decide (q.length=z))&&decide ((List.map r.enc l).length*b<=140737488355328)&&decide ((List.map r.enc l).length<=140737488355328))=true:=by
 unfold dX at h;rw[ac] at h;rw[ad,h.1,h.2,Bool.and_true,Bool.and_true];subst hz;refine List.all_eq_true.2 λq hq=>?_;obtain ⟨x,_,rfl⟩:=List.mem_map.1 hq;exact ah (Sy.dA r x)
def jA (p:bB):Option T:=match dP p with
 | true=>some (Sh.enc [(true,aJ)] p)
 | false=>none
def ARC:Env:=Env.of [(111,.pure fN),(157,.dup 1 24)]
def ASK:FuncId->Hint:=bT 160 [(4,.inv [.val 21 false (.int .i64),.arr 3 1 (.li aA)])] (λ_=>aX)
def AAY:aQ Tryz.prog ARC:=.cons vP (aQ.cons (x:=.dup 1 24) AT7 (.nil _))
def HJ(a0:bB)(R:T->Prop):Prop:=aI eI (fN [T.sl false (BRD a0)]) λ(y0:List aO)=>bH (((v6 a0).all λ(r:List T)=>decide (r.length=1)) && decide ((v6 a0).length*24<=140737488355328) && decide ((v6 a0).length<=140737488355328)) (bZ aA.li (v6 a0) λ(y1:List (List aO))=>a7 (Int×List (List aO)×PUnit) (λX2 s3=>aD (decide (s3.1<(↑(v6 a0).length:Int))) (aP aA.li (NE s3) s3.1 λ(y4:List aO)=>eK aA.li (NE s3) (Int.toNat s3.1) 0 λ(y5:List aO)=>aI eI (fN (BQ5 y5)) λ(y6:List aO)=>aP aA.li (NE s3) s3.1 λ(y7:List aO)=>GN (NE s3) (Int.toNat s3.1) λ(y8:List T)=>bH (decide (1<=y8.length)) (bZ aA.li ((NE s3).set (Int.toNat s3.1) (bR y8 0 (BQ5 y6))) λ(y9:List (List aO))=>X2 (i64.wrap (s3.1+1),y9,()))) (R (T.agg [pPQ a0.1,pPP a0.2.1, pPP a0.2.2.1, pPQ a0.2.2.2.1,pPQ a0.2.2.2.2.1, pPP a0.2.2.2.2.2.1, T.sl false (g9 y0), T.sl false (NE s3), pPQ a0.2.2.2.2.2.2.2.1, pPP a0.2.2.2.2.2.2.2.2.1, pPP a0.2.2.2.2.2.2.2.2.2.1, pPP a0.2.2.2.2.2.2.2.2.2.2.1.1, pPP a0.2.2.2.2.2.2.2.2.2.2.1.2.1, pPP a0.2.2.2.2.2.2.2.2.2.2.1.2.2, pPP a0.2.2.2.2.2.2.2.2.2.2.2.1.1, pPP a0.2.2.2.2.2.2.2.2.2.2.2.1.2.1, pPP a0.2.2.2.2.2.2.2.2.2.2.2.1.2.2, pPP a0.2.2.2.2.2.2.2.2.2.2.2.2]))) (0,y1,()))
abbrev JF:Sh:=[(true,aJ)]
def iI:List T->Option T:=gS JF jA
def vT {a0}:iI [aF true aJ a0]=jA (a0):=bA (s:=JF) rfl (a0) rfl
def AL2:qM Tryz.prog 160 iI jA (bY JF) HJ:=gK (a1:=(true,aJ)) (Hs:=ASK) (k:=8) AAY aR aU (aL rfl) ⟨_,_,Tryz.func160,rfl⟩ rfl λ_ _=>by kernel_rfl
def vQ:aM Tryz.prog 160 iI:=AL2 λp r h hb=>by
 clear hb;have hp:dP p=true:=by
  unfold jA at h;split at h
  ·assumption
  ·cases h
 have e:Sh.enc [(true,aJ)] p=r:=by
  unfold jA at h;rw[hp] at h;exact Option.some.inj h
 subst e;clear h;unfold dP BC at hp;simp only[ac] at hp;obtain ⟨⟨hp1,hp2⟩,hp3⟩:=hp;have hb47:p.2.2.2.2.2.2.1.2.length<=140737488355328:=by
  simp only[dX,ac,ae] at hp2;exact hp2.2
 unfold HJ BRD BQ5 NE v6 g9 eI;refine aH (s:=[(false,aA.li)]) (y:=p.2.2.2.2.2.2.1.1) (by rw[kL,cZ,iD hp1];rfl) ?_;refine ⟨xN (r:=.li aA) rfl hp2,?_⟩;obtain ⟨p1,p2,p3,p4,p5,p6,⟨o,hh⟩,p7⟩:=p;dsimp only at hp1 hp2 hp3 hb47 ⊢;rw[dW (r:=.li aA) rfl];refine bI hh.length (λk s=>s=((k:Int),hh,())) rfl ?_;rintro X k s hk rfl hX;dsimp only;refine bV (λhlt=>?_) λhge=>rfl;rw[ad] at hlt;have hlt:k<hh.length:=by omega
 have hok:dX 16 hh[k].length=true:=List.all_eq_true.1 hp3 _ (aj hlt);rw[bC (r:=.li aA) hlt,show Int.toNat (k:Int)=k from rfl,jJ (r:=.li aA) hlt];refine aH (s:=[(false,aA.li)]) (y:=hh[k]) (by rw[kL,cZ,iD hok];rfl) ?_;rw[bC (r:=.li aA) hlt,pV (r:=.li aA) hlt];refine ⟨rfl,?_⟩;have e:bR (Sy.enc (.li aA) hh[k]) 0 [T.sl false (List.map aA.enc hh[k])]=Sy.enc (.li aA) hh[k]:=rfl;rw[e,GR (r:=.li aA) hlt,dW (r:=.li aA) rfl];refine hX _ hlt ?_;simp only[Prod.mk.injEq,and_true];exact bD _ (by omega) (by omega)
def kJ (p:aT):Option T:=match dI p with
 | true=>some (Sh.enc [(true,aE)] p)
 | false=>none
def ARB:Env:=Env.of [(113,.pure gF)]
def ASJ:FuncId->Hint:=λ_=>aX
def AAX:aQ Tryz.prog ARB:=.cons xT (.nil _)
def HI(a0:aT)(R:T->Prop):Prop:=aI d9 (gF [T.sl false (BRC a0)]) λ(y0:List iII)=>aI d9 (gF [T.sl false (BQ9 a0)]) λ(y1:List iII)=>R (T.agg [pPQ a0.1,pPQ a0.2.1, T.sl false (IO y0),pPP a0.2.2.2.1, T.sl false (IO y1)])
abbrev JE:Sh:=[(true,aE)]
def nT:List T->Option T:=gS JE kJ
def FD {a0}:nT [aF true aE a0]=kJ (a0):=bA (s:=JE) rfl (a0) rfl
def AL1:qM Tryz.prog 161 nT kJ (bY JE) HI:=gK (a1:=(true,aE)) (Hs:=ASJ) (k:=8) AAX aR aU (aL rfl) ⟨_,_,Tryz.func161,rfl⟩ rfl λ_ _=>by kernel_rfl
def PD:aM Tryz.prog 161 nT:=AL1 λp r h hb=>by
 clear hb;have hp:dI p=true:=by
  unfold kJ at h;split at h
  ·assumption
  ·cases h
 have e:Sh.enc [(true,aE)] p=r:=by
  unfold kJ at h;rw[hp] at h;exact Option.some.inj h
 subst e;clear h;unfold dI at hp;rw[ac] at hp;unfold HI BRC BQ9 IO d9;refine aH (s:=[(false,.li .str)]) (y:=p.2.2.1) (by rw[jO,cZ,iD hp.1];rfl) ?_;refine aH (s:=[(false,.li .str)]) (y:=p.2.2.2.2) (by rw[jO,cZ,iD hp.2];rfl) ?_;rfl
def VL {α:Type}:∀ (xs pre:List α),bR (pre++xs) pre.length xs=pre++xs
 | [],pre=>rfl
 | x::xs,pre=>by
  unfold bR;rw[show (pre++x::xs).set pre.length x=(pre++[x])++xs by simp,show pre.length+1=(pre++[x]).length by simp,VL xs (pre++[x])];simp
variable {α:Type}
def K8 (r:List α):bR r 0 r=r:=VL r []
def rJ (d:aB):Bool:=(BA d&&zR d)&&((decide (d.2.1.length<=1000)&&decide (d.2.2.1.length<=1000))&&(decide (d.2.2.2.1.length<=1000)&&(decide (d.2.2.2.2.1.length<=1000)&&decide (d.2.2.2.2.2.length<=1000))))
structure OkC (d:aB):Prop where
 BA:BA d=true
 zR:zR d=true
 n:d.2.1.length<=1000
 p:d.2.2.1.length<=1000
 s:d.2.2.2.1.length<=1000
 k:d.2.2.2.2.1.length<=1000
 r:d.2.2.2.2.2.length<=1000
def fO {d:aB} (h:rJ d=true):OkC d:=by
 simp only[rJ,ac,ae] at h;exact ⟨h.1.1,h.1.2,h.2.1.1,h.2.1.2,h.2.2.1,h.2.2.2.1,h.2.2.2.2⟩
def dR {b n:Nat} (hn:n<=1000) (hb:b<=1000):dX b n=true:=by
 have:=Nat.mul_le_mul hn hb;unfold dX;rw[ah (by omega),ah (by omega)];rfl
def sM (d:aB):Option T:=match rJ d with
 | true=>some (Sh.enc [(true,aC)] d)
 | false=>none
def AG7:Env:=Env.of [(69,.dup 3 40),(70,.dup 6 72),(71,.dup 3 40),(158,.dup 18 208),(159,.dup 5 88),(160,.pure iI),(161,.pure nT)]
def AI7:FuncId->Hint:=bT 120 [(4,.inv [.val 28 false (.int .i64),.arr 30 18 aJ]),(9,.inv [.val 45 false (.int .i64),.arr 31 5 aE])] (λ_=>aX)
def AAW:aQ Tryz.prog AG7:=aQ.cons (x:=.dup 3 40) DO (aQ.cons (x:=.dup 6 72) DQ (aQ.cons (x:=.dup 3 40) DN (aQ.cons (x:=.dup 18 208) DP (aQ.cons (x:=.dup 5 88) oE (.cons vQ (.cons PD (.nil _)))))))
def M9 (a0:aB) (R:T->Prop):Prop :=
 bH
 (((List.map aS.enc a0.2.1).all λ(r:List T)=>decide (r.length=3)) &&
 decide ((List.map aS.enc a0.2.1).length*40<=140737488355328) &&
 decide ((List.map aS.enc a0.2.1).length<=140737488355328))
 (bH
 (((List.map aV.enc a0.2.2.2.1).all λ(r:List T)=>decide (r.length=6)) &&
 decide ((List.map aV.enc a0.2.2.2.1).length*72<=140737488355328) &&
 decide ((List.map aV.enc a0.2.2.2.1).length<=140737488355328))
 (bH
 (((List.map aW.enc a0.2.2.2.2.2).all λ(r:List T)=>decide (r.length=3)) &&
 decide ((List.map aW.enc a0.2.2.2.2.2).length*40<=140737488355328) &&
 decide ((List.map aW.enc a0.2.2.2.2.2).length<=140737488355328))
 (bH
 (((List.map aJ.enc a0.2.2.1).all λ(r:List T)=>decide (r.length=18)) &&
 decide ((List.map aJ.enc a0.2.2.1).length*208<=140737488355328) &&
 decide ((List.map aJ.enc a0.2.2.1).length<=140737488355328))
 (bH
 (((List.map aE.enc a0.2.2.2.2.1).all λ(r:List T)=>decide (r.length=5)) &&
 decide ((List.map aE.enc a0.2.2.2.2.1).length*88<=140737488355328) &&
 decide ((List.map aE.enc a0.2.2.2.2.1).length<=140737488355328))
 (bZ aJ (List.map aJ.enc a0.2.2.1) λ(y0:List bB) =>
 a7 (Int×List bB×PUnit)
 (λ(X1:Int×List bB×PUnit->Prop) (s2:Int×List bB×PUnit) =>
 aD (decide (s2.1<(↑(List.map aJ.enc a0.2.2.1).length:Int)))
 (aP aJ (List.map aJ.enc s2.2.1) s2.1 λ(y3:bB) =>
 eK aJ (List.map aJ.enc s2.2.1) (Int.toNat s2.1) 0
 λ(y4:bB) =>
 aI [(true,aJ)] (iI [aF true aJ y4])
 λ(y5:bB) =>
 aP aJ (List.map aJ.enc s2.2.1) s2.1 λ(y6:bB) =>
 GN (List.map aJ.enc s2.2.1) (Int.toNat s2.1) λ(y7:List T) =>
 bH (decide (18<=y7.length))
 (bZ aJ
 ((List.map aJ.enc s2.2.1).set (Int.toNat s2.1)
 (bR y7 0
 (aJ.enc y5)))
 λ(y8:List bB)=>X1 (i64.wrap (s2.1+1),y8,())))
 (bZ aE (List.map aE.enc a0.2.2.2.2.1)
 λ(y9:List aT) =>
 a7 (Int×List aT×PUnit)
 (λ(X10:Int×List aT×PUnit->Prop) (s11:Int×List aT×PUnit) =>
 aD
 (decide (s11.1<(↑(List.map aE.enc a0.2.2.2.2.1).length:Int)))
 (aP aE (List.map aE.enc s11.2.1) s11.1
 λ(y12:aT) =>
 eK aE (List.map aE.enc s11.2.1) (Int.toNat s11.1) 0
 λ(y13:aT) =>
 aI [(true,aE)]
 (nT [aF true aE y13]) λ(y14:aT) =>
 aP aE (List.map aE.enc s11.2.1) s11.1
 λ(y15:aT) =>
 GN (List.map aE.enc s11.2.1) (Int.toNat s11.1)
 λ(y16:List T) =>
 bH (decide (5<=y16.length))
 (bZ aE
 ((List.map aE.enc s11.2.1).set (Int.toNat s11.1)
 (bR y16 0
 [pPQ y14.1,
 pPQ y14.2.1,
 T.sl false (List.map Sy.str.enc y14.2.2.1),
 pPP y14.2.2.2.1,
 T.sl false (List.map Sy.str.enc y14.2.2.2.2)]))
 λ(y17:List aT) =>
 X10 (i64.wrap (s11.1+1),y17,())))
 (R
 ((aF true aC (a0.1,a0.2.1,s2.2.1,a0.2.2.2.1,s11.2.1,a0.2.2.2.2.2)))))
 (0,y9,())))
 (0,y0,()))))))
abbrev QZ:Sh:=[(true,aC)]
def eT:List T->Option T:=gS QZ sM
def uB {a0}:eT [aF true aC a0]=sM (a0):=bA (s:=QZ) rfl (a0) rfl
def BE8:qM Tryz.prog 120 eT sM (bY QZ) M9:=gK (a1:=(true,aC)) (Hs:=AI7) (k:=8) AAW aR aU (aL rfl) ⟨_,_,Tryz.func120,rfl⟩ rfl λ_ _=>by kernel_rfl
def A28 {d:aB} (hp:rJ d=true):M9 d (λy=>y=Sh.enc [(true,aC)] d):=by
 have c:=fO hp;unfold M9;refine ⟨xN (r:=aS) rfl (dR c.n (by decide)),⟨xN (r:=aV) rfl (dR c.s (by decide)),⟨xN (r:=aW) rfl (dR c.r (by decide)),⟨xN (r:=aJ) rfl (dR c.p (by decide)),⟨xN (r:=aE) rfl (dR c.k (by decide)),?_⟩⟩⟩⟩⟩;rw[dW (r:=aJ) rfl];have hpn:=c.p;have hkn:=c.k;refine bI d.2.2.1.length (λk s=>s=((k:Int),d.2.2.1,())) rfl ?_;rintro X k s hk rfl hX;dsimp only;refine bV (λhlt=>?_) λhge=>?_
 ·rw[ad] at hlt;have hlt:k<d.2.2.1.length:=by omega
  have hok:dP d.2.2.1[k]=true:=List.all_eq_true.1 c.BA _ (aj hlt);rw[bC (r:=aJ) hlt,show Int.toNat (k:Int)=k from rfl,jJ (r:=aJ) hlt];refine aH (s:=[(true,aJ)]) (y:=d.2.2.1[k]) ((vT ..).trans (by unfold jA;rw[hok])) ?_;rw[bC (r:=aJ) hlt,pV (r:=aJ) hlt];refine ⟨by rw[Sy.dA];rfl,?_⟩;have h1:(List.map aJ.enc d.2.2.1).set k (bR (Sy.enc aJ d.2.2.1[k]) 0 (Sy.enc aJ d.2.2.1[k]))=List.map aJ.enc d.2.2.1:=by rw[K8];exact GR (r:=aJ) hlt
  refine (eQ (r:=aJ) rfl h1 ?_);refine hX _ hlt ?_;simp only[Prod.mk.injEq,and_true];exact bD _ (by omega) (by omega)
 ·rw[dW (r:=aE) rfl];refine bI d.2.2.2.2.1.length (λk s=>s=((k:Int),d.2.2.2.2.1,())) rfl ?_;rintro Y j s hj rfl hY;dsimp only;refine bV (λhlt=>?_) λhge=>rfl;rw[ad] at hlt;have hlt:j<d.2.2.2.2.1.length:=by omega
  have hok:dI d.2.2.2.2.1[j]=true:=List.all_eq_true.1 c.zR _ (aj hlt);rw[bC (r:=aE) hlt,show Int.toNat (j:Int)=j from rfl,jJ (r:=aE) hlt];refine aH (s:=[(true,aE)]) (y:=d.2.2.2.2.1[j]) ((FD ..).trans (by unfold kJ;rw[hok])) ?_;rw[bC (r:=aE) hlt,pV (r:=aE) hlt];refine ⟨by rw[Sy.dA];rfl,?_⟩;have h1:(List.map aE.enc d.2.2.2.2.1).set j (bR (Sy.enc aE d.2.2.2.2.1[j]) 0 (Sy.enc aE d.2.2.2.2.1[j]))=List.map aE.enc d.2.2.2.2.1:=by rw[K8];exact GR (r:=aE) hlt
  refine (eQ (r:=aE) rfl h1 ?_);refine hY _ hlt ?_;simp only[Prod.mk.injEq,and_true];exact bD _ (by omega) (by omega)
def oD:aM Tryz.prog 120 eT:=BE8 λd r h hb=>by
 clear hb;have hp:rJ d=true:=by
  unfold sM at h;split at h
  ·assumption
  ·cases h
 have e:Sh.enc [(true,aC)] d=r:=by
  unfold sM at h;rw[hp] at h;exact Option.some.inj h
 subst e;exact A28 hp
def G6 (x:aZ×aZ):Option T:=some (Sh.enc pC (mB x.1 x.2))
def BAO:Env:=Env.of [(43,.pure j6)]
def BCB:FuncId->Hint:=bT 50 [(4,.inv [.val 13 false (.int .i64)])] (λ_=>aX)
def AR5:aQ Tryz.prog BAO:=.cons KM (.nil _)
def WF(a0:aZ):List (List T):=List.map Sy.str.enc a0.2.2.2.2.2.2.1.2.2.2.2
def ACM(a0:aZ):List (List T):=List.map Sy.str.enc a0.2.2.2.2.2.2.1.2.2.1
def WT(a0:aZ)(a1:aZ)(R:T->Prop):Prop:=aD (decide (a0.1=a1.1)) (aD (decide (a0.2.1=a1.2.1)) (aD (decide (a0.2.2.1=a1.2.2.1)) (aD (decide (a0.2.2.2.1.1=a1.2.2.2.1.1) && (decide (a0.2.2.2.1.2.1=a1.2.2.2.1.2.1) && (decide (a0.2.2.2.1.2.2=a1.2.2.2.1.2.2)&&true))) (aI d4 (j6 [aF true aJ a0.2.2.2.2.1,aF true aJ a1.2.2.2.2.1]) λ(y0:Bool)=>aD y0 (aD (decide (a0.2.2.2.2.2.1.1=a1.2.2.2.2.2.1.1) && (decide (a0.2.2.2.2.2.1.2.1=a1.2.2.2.2.2.1.2.1) && (decide (a0.2.2.2.2.2.1.2.2.1=a1.2.2.2.2.2.1.2.2.1) && (decide (a0.2.2.2.2.2.1.2.2.2.1=a1.2.2.2.2.2.1.2.2.2.1) && (decide (a0.2.2.2.2.2.1.2.2.2.2.1 = a1.2.2.2.2.2.1.2.2.2.2.1) && (decide (a0.2.2.2.2.2.1.2.2.2.2.2 = a1.2.2.2.2.2.1.2.2.2.2.2) && true)))))) (aD (decide (a0.2.2.2.2.2.2.2.1=a1.2.2.2.2.2.2.2.1) && (decide (a0.2.2.2.2.2.2.2.2.1=a1.2.2.2.2.2.2.2.2.1) && (decide (a0.2.2.2.2.2.2.2.2.2=a1.2.2.2.2.2.2.2.2.2)&&true))) (aD (decide (a0.2.2.2.2.2.2.1.1=a1.2.2.2.2.2.2.1.1)) (aD (decide (a0.2.2.2.2.2.2.1.2.1=a1.2.2.2.2.2.2.1.2.1)) (aD (decide (a0.2.2.2.2.2.2.1.2.2.2.1 = a1.2.2.2.2.2.2.1.2.2.2.1)) (aD (!decide ((↑(ACM a0).length:Int) = (↑(ACM a1).length:Int))) (R d3) (a7 (Int×PUnit) (λX1 s2=>aD (decide (s2.1 < (↑(ACM a0).length : Int))) (aP Sy.str (ACM a0) s2.1 λ(y3:iII)=>aP Sy.str (ACM a1) s2.1 λ(y4:iII)=>aD (!decide (y3=y4)) (R d3) (f9 X1 s2)) (aD (!decide ((↑(WF a0).length : Int) = (↑(WF a1).length : Int))) (R d3) (a7 (Int×PUnit) (λX5 s6=>aD (decide (s6.1 < (↑(WF a0).length : Int))) (aP Sy.str (WF a0) s6.1 λ(y7:iII)=>aP Sy.str (WF a1) s6.1 λ(y8:iII)=>aD (!decide (y7=y8)) (R d3) (f9 X5 s6)) (R d6)) (0,())))) (0,()))) (R d3)) (R d3)) (R d3)) (R d3)) (R d3)) (R d3)) (R d3)) (R d3)) (R d3)) (R d3)
abbrev ZP:Sh:=[(true,aN),(true,aN)]
def cV:List T->Option T:=gS ZP G6
def qY {a0 a1}:cV [aF true aN a0,aF true aN a1]=G6 (a0,a1):=bA (s:=ZP) rfl (a0,a1) rfl
def A7Z:qN Tryz.prog 118 cV G6 (bY ZP) WT:=gL (a1:=(true,aN)) (a2:=(true,aN)) (Hs:=BCB) (k:=8) AR5 aR aU (aL rfl) ⟨_,_,Tryz.func118,rfl⟩ rfl λ_ _ _=>by kernel_rfl
def jF:aM Tryz.prog 118 cV:=A7Z λa b r h hb=>by
 cases h;have no:¬ a=b->pPR false=Sh.enc pC (mB a b):=λh=>by rw[xP h];rfl
 have yes:a=b->pPR true=Sh.enc pC (mB a b):=λh=>by rw[eG.2 h];rfl
 have hl1:a.2.2.2.2.2.2.1.2.2.1.length<=2 ^ 47:=hb.1.2.2.2.2.2.2.1.2.2.1.1;have hl2:a.2.2.2.2.2.2.1.2.2.2.2.length<=2 ^ 47:=hb.1.2.2.2.2.2.2.1.2.2.2.2.1;clear hb;unfold WT ACM WF f9 d6 d4 d3;refine q9 (λh1=>?_) (λh=>no λe=>by simp[e] at h);refine q9 (λh2=>?_) (λh=>no λe=>by simp[e] at h);refine q9 (λh3=>?_) (λh=>no λe=>by simp[e] at h);refine q9 (λh4=>?_) (λh=>no λe=>by simp[e] at h);refine aH (s:=pC) (y:=mB (a.2.2.2.2.1) (b.2.2.2.2.1)) (CQ ..) ?_;refine q9 (λh5=>?_) (λh=>no λe=>by simp[e] at h);refine q9 (λh6=>?_) (λh=>no λe=>by simp[e] at h);refine q9 (λh7=>?_) (λh=>no λe=>by simp[e] at h);refine q9 (λh8=>?_) (λh=>no λe=>by simp[e] at h);refine q9 (λh9=>?_) (λh=>no λe=>by simp[e] at h);refine q9 (λh10=>?_) (λh=>no λe=>by simp[e] at h);refine XG (r:=.str) hl1 (λy z=>decide (y=z)) (λx y=>decide_eq_true_iff) (λh11=>?_) (λh=>no λe=>h (by rw[e]));refine XG (r:=.str) hl2 (λy z=>decide (y=z)) (λx y=>decide_eq_true_iff) (λh12=>yes ?_) (λh=>no λe=>h (by rw[e]));simp only[Bool.and_true,ac,ae,eG] at h1 h2 h3 h4 h5 h6 h7 h8 h9 h10;simp only[Prod.ext_iff];exact ⟨h1,h2,h3,h4,by simpa only [Prod.ext_iff] using h5,h6,⟨h8,h9,h11,h10,h12⟩,h7⟩
end Go.Pv
namespace Go.Pv
open Go Go.Proofs IntKind
def YT (l:List iII) (x:iII):Bool:=l.any λy=>decide (y=x)
def F9 {l:List iII} {x:iII}:YT l x=true↔x∈l:=by
 simp only[YT,List.any_eq_true,ae];exact ⟨λ⟨y,h,e⟩=>e ▸ h,λh=>⟨x,h,rfl⟩⟩
def Sy.tl:Sy->Sy
 | .pr _ b=>b
 | x=>x
def I0:List iII->Nat->List (iII×Int)->List (iII×Int)
 | [],_,es=>es
 | a::l,i,es=>I0 l (i+1) (match eC es a with
  | none=>nK es a (i:Int)
  | some _=>es)
def iT (l:List iII):List (iII×Int):=I0 l 0 []
variable {α:Type}
def ids (l:List (iII×α)):List iII:=l.map λx=>x.1
variable {β:Type}
def rC (l:List α) (r:β):Option β:=match decide (l.length<=140737488355328) with
 | true=>some r
 | false=>none
def kE {l:List α} {t r:β} (h:rC l t=some r):l.length<=140737488355328/\r=t:=by
 unfold rC at h;split at h
 ·rename_i hc;cases h;exact ⟨of_decide_eq_true hc,rfl⟩
 ·cases h
def kF {l:List α} (t:β) (h:l.length<=140737488355328):rC l t=some t:=by unfold rC;rw[ah h]
def BC5 (es:List (iII×Int)):List.map (λ(e:Value×D)=>(e.1,AAK e.2)) (List.map (a8 Sy.str false (Sy.int IntKind.i64)) es)=bN es:=by
 rw[List.map_map];rfl
def L1 {r:Sy} {l:List (iII×r.den)} (hl:l.length<=140737488355328) :
 b7 Sy.str false (Sy.int IntKind.i64) [] λ(y0:List (iII×Int)) =>
 a7 (List (iII×Int)×Int×PUnit)
  (λ(X1:List (iII×Int)×Int×PUnit->Prop) (s2:List (iII×Int)×Int×PUnit) =>
   aD (decide (s2.2.1<(↑l.length:Int)))
    (aP (.pr .str r) (List.map (Sy.pr .str r).enc l) s2.2.1 λ(y3:iII×r.den) =>
     dJ TypeDesc.string (Value.string y3.1)
      (List.map (a8 Sy.str false (Sy.int IntKind.i64)) s2.1) false
      (Sy.int IntKind.i64)
      (aP (.pr .str r) (List.map (Sy.pr .str r).enc l) s2.2.1 λ(y7:iII×r.den) =>
       dS (Option (Nat×D))
        (findD TypeDesc.string (Value.string y7.1)
         (List.map (a8 Sy.str false (Sy.int IntKind.i64)) s2.1) 0)
        λ(y8:Option (Nat×D)) =>
        b7 Sy.str false (Sy.int IntKind.i64)
         (dB (List.map (a8 Sy.str false (Sy.int IntKind.i64)) s2.1) y8
          (Value.string y7.1) (D.p (pPP s2.2.1)))
         λ(y9:List (iII×Int))=>X1 (y9,i64.wrap (s2.2.1+1),()))
      λ(i4:Nat) (y5:Int) =>
      b7 Sy.str false (Sy.int IntKind.i64)
       (List.map (a8 Sy.str false (Sy.int IntKind.i64)) s2.1)
       λ(y6:List (iII×Int))=>X1 (y6,i64.wrap (s2.2.1+1),()))
    (bH
     ((List.map (a8 Sy.str false (Sy.int IntKind.i64)) s2.1).all
      λ(e:Value×D)=>AVL e.2)
     ((λy=>y=T.mp (bN (iT (ids l))))
      (T.mp
       (List.map (λ(e:Value×D)=>(e.1,AAK e.2))
        (List.map (a8 Sy.str false (Sy.int IntKind.i64)) s2.1))))))
  (y0,0,()):=by
 refine j2 (r:=.int .i64) rfl [] _ ?_;refine bI l.length (λk s=>∃ es,s=(es,(k:Int),())/\I0 (ids (l.drop k)) k es=iT (ids l)) ⟨[],rfl,rfl⟩ ?_;rintro X k s hk ⟨es,rfl,hes⟩ hX;dsimp only;have hw:i64.wrap ((k:Int)+1)=((k+1:Nat):Int):=bD _ (by omega) (by omega);by_cases hlt:k<l.length
 ·refine fG (by omega) ?_;rw[bC (r:=.pr .str r) hlt];have hd:ids (l.drop k)=l[k].1::ids (l.drop (k+1)):=by rw[List.drop_eq_getElem_cons hlt];rfl
  rw[hd] at hes;simp only[I0] at hes;refine E4 (r:=.int .i64) (λhno=>?_) (λi v hv=>?_)
  ·rw[hno] at hes;rw[bC (r:=.pr .str r) hlt];exact APE (r:=.int .i64) rfl (v:=(k:Int)) (hX _ hlt ⟨_,by rw[hw],hes⟩)
  ·rw[hv] at hes;exact j2 (r:=.int .i64) rfl es _ (hX _ hlt ⟨_,by rw[hw],hes⟩)
 ·have:k=l.length:=by omega
  subst this;refine gW (by omega) ?_;rw[List.drop_length] at hes;refine ⟨?_,?_⟩
  ·rw[List.all_eq_true];intro e he;obtain ⟨x,_,rfl⟩:=List.mem_map.1 he;rfl
  ·show T.mp _=_;rw[BC5];rw[<-hes];rfl
def tL (a0:aB):List T:=[pPP (a0.2.1.length:Int),T.fn 96 [] [T.ref [T.ref (aC.enc a0)]]]
def AX7:Env:=Env.of []
def BGQ:FuncId->Hint:=bT 95 [(3,.inv [.map 0 .str false (.int .i64),.val 12 false (.int .i64)])] (λ_=>aX)
def BBD:aQ Tryz.prog AX7:=.nil _
def bF:Sy:=Sy.int IntKind.i64
def i8(s2:List (iII×Int)×Int×PUnit)(R:T->Prop):Prop:=bH ((List.map (a8 Sy.str false bF) s2.1).all λ(e:Value×D)=>AVL e.2) (R (T.mp (List.map (λ(e:Value×D)=>(e.1,AAK e.2)) (List.map (a8 Sy.str false bF) s2.1))))
def H1(s2:List (iII×Int)×Int×PUnit)(X1:List (iII×Int)×Int×PUnit->Prop):Prop:=b7 Sy.str false bF (List.map (a8 Sy.str false bF) s2.1) λ(y6:List (iII×Int))=>X1 (y6,i64.wrap (s2.2.1+1),())
def A0O(a0:aB)(R:T->Prop):Prop:=b7 Sy.str false bF [] λ(y0:List (iII×Int))=>a7 (List (iII×Int)×Int×PUnit) (λX1 s2=>aD (decide (s2.2.1<(↑a0.2.1.length:Int))) (aP aS (t7 a0) s2.2.1 λ(y3:cH)=>dJ TypeDesc.string (Value.string y3.1) (List.map (a8 Sy.str false bF) s2.1) false bF (aP aS (t7 a0) s2.2.1 λ(y7:cH)=>dS (Option (Nat×D)) (findD TypeDesc.string (Value.string y7.1) (List.map (a8 Sy.str false bF) s2.1) 0) λ(y8:Option (Nat×D))=>b7 Sy.str false bF (dB (List.map (a8 Sy.str false bF) s2.1) y8 (Value.string y7.1) (D.p (pPP s2.2.1))) λ(y9:List (iII×Int))=>X1 (y9,i64.wrap (s2.2.1+1),())) λ(i4:Nat) (y5:Int)=>H1 s2 X1) (i8 s2 R)) (y0,0,())
def A0P ( a0 R):wS bS Tryz.prog AX7 BGQ 8 95 (tL a0) R=A0O a0 R:=by kernel_rfl
def ANP (d:aB):Option (List (iII×Int)):=rC d.2.1 (iT (ids d.2.1))
def AQ1 (d d':aB) (h:tL d=tL d'):d=d':=by
 unfold tL at h;simp only[List.cons.injEq,T.fn.injEq,T.ref.injEq,and_true,true_and] at h;exact Sy.c0 aC _ _ h.2
def ADW:List T->Option (List (iII×Int)):=gA (λ(x:aB)=>tL x) ANP
def A5K (a0:aB):ADW (tL a0)=ANP a0:=eR (A:=(λ(x:aB)=>tL x)) AQ1 a0
def BL0 (h:∀ (a0:aB) (r:List (iII×Int)),ANP a0=some r->(∀ t∈tL a0,Bd t)->A0O a0 (λy=>y = .mp (bN r))):kR Tryz.prog 95 (sX ADW) :=
 E6 (E:=AX7) (Hs:=BGQ) BBD aR aU (aL rfl) 8 ⟨_,_,Tryz.func95,rfl⟩ λx r h1 h2=>by
  rw[A0P];exact h x r h1 h2
def BJ3:kR Tryz.prog 95 (sX ADW):=BL0 λd r h hb=>by
 obtain ⟨hl,rfl⟩:=kE h;unfold A0O H1 i8 t7 bF;exact L1 (r:=aS.tl) (l:=d.2.1) hl
def tM (a0:aB):List T:=[pPP (a0.2.2.1.length:Int),T.fn 97 [] [T.ref [T.ref (aC.enc a0)]]]
def AX8:Env:=Env.of []
def BGR:FuncId->Hint:=bT 95 [(3,.inv [.map 0 .str false (.int .i64),.val 12 false (.int .i64)])] (λ_=>aX)
def BBE:aQ Tryz.prog AX8:=.nil _
def A0Q(a0:aB)(R:T->Prop):Prop:=b7 Sy.str false bF [] λ(y0:List (iII×Int))=>a7 (List (iII×Int)×Int×PUnit) (λX1 s2=>aD (decide (s2.2.1<(↑a0.2.2.1.length:Int))) (aP aJ (GT a0) s2.2.1 λ(y3:bB)=>dJ TypeDesc.string (Value.string y3.1) (List.map (a8 Sy.str false bF) s2.1) false bF (aP aJ (GT a0) s2.2.1 λ(y7:bB)=>dS (Option (Nat×D)) (findD TypeDesc.string (Value.string y7.1) (List.map (a8 Sy.str false bF) s2.1) 0) λ(y8:Option (Nat×D))=>b7 Sy.str false bF (dB (List.map (a8 Sy.str false bF) s2.1) y8 (Value.string y7.1) (D.p (pPP s2.2.1))) λ(y9:List (iII×Int))=>X1 (y9,i64.wrap (s2.2.1+1),())) λ(i4:Nat) (y5:Int)=>H1 s2 X1) (i8 s2 R)) (y0,0,())
def A0R ( a0 R):wS bS Tryz.prog AX8 BGR 8 95 (tM a0) R=A0Q a0 R:=by kernel_rfl
def ANQ (d:aB):Option (List (iII×Int)):=rC d.2.2.1 (iT (ids d.2.2.1))
def AQ2 (d d':aB) (h:tM d=tM d'):d=d':=by
 unfold tM at h;simp only[List.cons.injEq,T.fn.injEq,T.ref.injEq,and_true,true_and] at h;exact Sy.c0 aC _ _ h.2
def ADX:List T->Option (List (iII×Int)):=gA (λ(x:aB)=>tM x) ANQ
def A5L (a0:aB):ADX (tM a0)=ANQ a0:=eR (A:=(λ(x:aB)=>tM x)) AQ2 a0
def BL1 (h:∀ (a0:aB) (r:List (iII×Int)),ANQ a0=some r->(∀ t∈tM a0,Bd t)->A0Q a0 (λy=>y = .mp (bN r))):kR Tryz.prog 95 (sX ADX) :=
 E6 (E:=AX8) (Hs:=BGR) BBE aR aU (aL rfl) 8 ⟨_,_,Tryz.func95,rfl⟩ λx r h1 h2=>by
  rw[A0R];exact h x r h1 h2
def BJ4:kR Tryz.prog 95 (sX ADX):=BL1 λd r h hb=>by
 obtain ⟨hl,rfl⟩:=kE h;unfold A0Q H1 i8 GT bF;exact L1 (r:=aJ.tl) (l:=d.2.2.1) hl
def tN (a0:aB):List T:=[pPP (a0.2.2.2.1.length:Int),T.fn 98 [] [T.ref [T.ref (aC.enc a0)]]]
def AX9:Env:=Env.of []
def BGS:FuncId->Hint:=bT 95 [(3,.inv [.map 0 .str false (.int .i64),.val 12 false (.int .i64)])] (λ_=>aX)
def BBF:aQ Tryz.prog AX9:=.nil _
def A0S(a0:aB)(R:T->Prop):Prop:=b7 Sy.str false bF [] λ(y0:List (iII×Int))=>a7 (List (iII×Int)×Int×PUnit) (λX1 s2=>aD (decide (s2.2.1<(↑a0.2.2.2.1.length:Int))) (aP aV (t6 a0) s2.2.1 λ(y3:cJ)=>dJ TypeDesc.string (Value.string y3.1) (List.map (a8 Sy.str false bF) s2.1) false bF (aP aV (t6 a0) s2.2.1 λ(y7:cJ)=>dS (Option (Nat×D)) (findD TypeDesc.string (Value.string y7.1) (List.map (a8 Sy.str false bF) s2.1) 0) λ(y8:Option (Nat×D))=>b7 Sy.str false bF (dB (List.map (a8 Sy.str false bF) s2.1) y8 (Value.string y7.1) (D.p (pPP s2.2.1))) λ(y9:List (iII×Int))=>X1 (y9,i64.wrap (s2.2.1+1),())) λ(i4:Nat) (y5:Int)=>H1 s2 X1) (i8 s2 R)) (y0,0,())
def A0T ( a0 R):wS bS Tryz.prog AX9 BGS 8 95 (tN a0) R=A0S a0 R:=by kernel_rfl
def ANR (d:aB):Option (List (iII×Int)):=rC d.2.2.2.1 (iT (ids d.2.2.2.1))
def AQ3 (d d':aB) (h:tN d=tN d'):d=d':=by
 unfold tN at h;simp only[List.cons.injEq,T.fn.injEq,T.ref.injEq,and_true,true_and] at h;exact Sy.c0 aC _ _ h.2
def ADY:List T->Option (List (iII×Int)):=gA (λ(x:aB)=>tN x) ANR
def A5M (a0:aB):ADY (tN a0)=ANR a0:=eR (A:=(λ(x:aB)=>tN x)) AQ3 a0
def BL2 (h:∀ (a0:aB) (r:List (iII×Int)),ANR a0=some r->(∀ t∈tN a0,Bd t)->A0S a0 (λy=>y = .mp (bN r))):kR Tryz.prog 95 (sX ADY) :=
 E6 (E:=AX9) (Hs:=BGS) BBF aR aU (aL rfl) 8 ⟨_,_,Tryz.func95,rfl⟩ λx r h1 h2=>by
  rw[A0T];exact h x r h1 h2
def BJ5:kR Tryz.prog 95 (sX ADY):=BL2 λd r h hb=>by
 obtain ⟨hl,rfl⟩:=kE h;unfold A0S H1 i8 t6 bF;exact L1 (r:=aV.tl) (l:=d.2.2.2.1) hl
def tO (a0:aB):List T:=[pPP (a0.2.2.2.2.1.length:Int),T.fn 99 [] [T.ref [T.ref (aC.enc a0)]]]
def AYA:Env:=Env.of []
def BGT:FuncId->Hint:=bT 95 [(3,.inv [.map 0 .str false (.int .i64),.val 12 false (.int .i64)])] (λ_=>aX)
def BBG:aQ Tryz.prog AYA:=.nil _
def A0U(a0:aB)(R:T->Prop):Prop:=b7 Sy.str false bF [] λ(y0:List (iII×Int))=>a7 (List (iII×Int)×Int×PUnit) (λX1 s2=>aD (decide (s2.2.1<(↑a0.2.2.2.2.1.length:Int))) (aP aE (m7 a0) s2.2.1 λ(y3:aT)=>dJ TypeDesc.string (Value.string y3.1) (List.map (a8 Sy.str false bF) s2.1) false bF (aP aE (m7 a0) s2.2.1 λ(y7:aT)=>dS (Option (Nat×D)) (findD TypeDesc.string (Value.string y7.1) (List.map (a8 Sy.str false bF) s2.1) 0) λ(y8:Option (Nat×D))=>b7 Sy.str false bF (dB (List.map (a8 Sy.str false bF) s2.1) y8 (Value.string y7.1) (D.p (pPP s2.2.1))) λ(y9:List (iII×Int))=>X1 (y9,i64.wrap (s2.2.1+1),())) λ(i4:Nat) (y5:Int)=>H1 s2 X1) (i8 s2 R)) (y0,0,())
def A0V ( a0 R):wS bS Tryz.prog AYA BGT 8 95 (tO a0) R=A0U a0 R:=by kernel_rfl
def ANS (d:aB):Option (List (iII×Int)):=rC d.2.2.2.2.1 (iT (ids d.2.2.2.2.1))
def AQ4 (d d':aB) (h:tO d=tO d'):d=d':=by
 unfold tO at h;simp only[List.cons.injEq,T.fn.injEq,T.ref.injEq,and_true,true_and] at h;exact Sy.c0 aC _ _ h.2
def ADZ:List T->Option (List (iII×Int)):=gA (λ(x:aB)=>tO x) ANS
def A5N (a0:aB):ADZ (tO a0)=ANS a0:=eR (A:=(λ(x:aB)=>tO x)) AQ4 a0
def BL3 (h:∀ (a0:aB) (r:List (iII×Int)),ANS a0=some r->(∀ t∈tO a0,Bd t)->A0U a0 (λy=>y = .mp (bN r))):kR Tryz.prog 95 (sX ADZ) :=
 E6 (E:=AYA) (Hs:=BGT) BBG aR aU (aL rfl) 8 ⟨_,_,Tryz.func95,rfl⟩ λx r h1 h2=>by
  rw[A0V];exact h x r h1 h2
def BJ6:kR Tryz.prog 95 (sX ADZ):=BL3 λd r h hb=>by
 obtain ⟨hl,rfl⟩:=kE h;unfold A0U H1 i8 m7 bF;exact L1 (r:=aE.tl) (l:=d.2.2.2.2.1) hl
end Go.Pv
namespace Go.Pv
open Go Go.Proofs IntKind
variable {α:Type}
def orG (g1 g2:List T->Option α) (a:List T):Option α:=match g1 a with
 | some r=>some r
 | none=>g2 a
variable {g1 g2:List T->Option α}
def QR {a:List T} {r:α} (h:g1 a=some r):orG g1 g2 a=some r:=by unfold orG;rw[h]
def pG {a:List T} (h:g1 a=none):orG g1 g2 a=g2 a:=by unfold orG;rw[h]
def U6 {a:List T} {r:α} (h:orG g1 g2 a=some r):g1 a=some r\/g2 a=some r:=by
 unfold orG at h;split at h
 ·rename_i r' h1;cases h;exact .inl h1
 ·exact .inr h
variable {P:Program}
def aM.or {f:FuncId} {g1 g2:List T->Option T} (h1:aM P f g1) (h2:aM P f g2):aM P f (orG g1 g2):=⟨h1.entry,λw own args vs r hG ho ha hr=>by
 rcases U6 hr with h|h
 ·exact h1.calls w own args vs r hG ho ha h
 ·exact h2.calls w own args vs r hG ho ha h⟩
def kR.orM {f:FuncId} {g1 g2:List T->Option (List (iII×Int))} (h1:kR P f (sX g1)) (h2:kR P f (sX g2)):kR P f (sX (orG g1 g2)):=⟨h1.entry,λw own args vs r hG ho ha hr=>by
 simp only[sX,aa] at hr;obtain ⟨es,h,rfl⟩:=hr;rcases U6 h with h|h
 ·exact h1.calls w own args vs _ hG ho ha (by simp[sX,h])
 ·exact h2.calls w own args vs _ hG ho ha (by simp[sX,h])⟩
def AU0:List T->Option (List (iII×Int)):=orG ADW (orG ADX (orG ADY ADZ))
def BO6:kR Tryz.prog 95 (sX AU0):=.orM BJ3 (.orM BJ4 (.orM BJ5 BJ6))
def iH {X:Type} {A:X->List T} {sp:X->Option α} {args:List T} (h:∀ x,args≠A x):gA A sp args=none:=by
 unfold gA;rw[dif_neg];rintro ⟨x,hx⟩;exact h x hx
def pZ:List iII->Bool
 | a::b::l=>!(cY b a||decide (b=a))&&pZ (b::l)
 | _=>true
def A2U {l:List iII} {k:Nat} (h:k+1<l.length):pZ (l.drop k)=(!(cY l[k+1] l[k]||decide (l[k+1]=l[k]))&&pZ (l.drop (k+1))):=by
 rw[List.drop_eq_getElem_cons (show k<l.length by omega),List.drop_eq_getElem_cons h,pZ]
def BCS {l:List iII} {k:Nat} (h:l.length<=k+1):pZ (l.drop k)=true:=by
 rcases Nat.lt_or_ge k l.length with h1|h1
 ·rw[List.drop_eq_getElem_cons h1,List.drop_eq_nil_of_le h];rfl
 ·rw[List.drop_eq_nil_of_le h1];rfl
variable {R:T->Prop}
def GM {r:Sy} {p:r.den->iII} {l:List r.den} (hl:l.length<=140737488355328) (hR:R (pPR (pZ (l.map p)))) :
 a7 (Int×PUnit)
 (λ(X0:Int×PUnit->Prop) (s1:Int×PUnit) =>
  aD (decide (s1.1<(↑l.length:Int)))
   (aP r (List.map r.enc l) s1.1 λ(y2:r.den) =>
    aP r (List.map r.enc l) (i64.wrap (s1.1-1))
     λ(y3:r.den) =>
     aD (cY (p y2) (p y3)||decide (p y2=p y3)) (R (pPR false))
      (X0 (i64.wrap (s1.1+1),())))
   (R (pPR true)))
 (1,()):=by
 refine bI l.length (λk s=>s=(((k+1:Nat):Int),())/\pZ (l.map p)=pZ ((l.map p).drop k)) ⟨rfl,by rw[List.drop_zero]⟩ ?_;rintro X k s hk ⟨rfl,he⟩ hX;dsimp only;have hw:i64.wrap (((k+1:Nat):Int)+1)=((k+1+1:Nat):Int):=bD _ (by omega) (by omega);have hw1:i64.wrap (((k+1:Nat):Int)-1)=((k:Nat):Int):=by rw[bD _ (by omega) (by omega)];omega
 by_cases hlt:k+1<l.length
 ·refine fG (by omega) ?_;rw[bC hlt,hw1,bC (show k<l.length by omega)];rw[A2U (by rw[ad];exact hlt)] at he;rw[List.getElem_map,List.getElem_map] at he;cases hc:(cY (p l[k+1]) (p l[k])||decide (p l[k+1]=p l[k])) with
  | true =>
   rw[kC];rw[hc,Bool.not_true,Bool.false_and] at he;rwa[he] at hR
  | false =>
   rw[nW];rw[hc,Bool.not_false,Bool.true_and] at he;exact hX _ (by omega) ⟨by rw[hw],he⟩
 ·refine gW (by omega) ?_;rw[BCS (by rw[ad];omega)] at he;rwa[he] at hR
def rW (a0:List iII):List T:=[pPP (a0.length:Int),T.fn 147 [] [T.ref [T.sl false (List.map Sy.str.enc a0)]]]
def AYV:Env:=Env.of []
def BGZ:FuncId->Hint:=bT 100 [(2,.inv [.val 5 false (.int .i64)])] (λ_=>aX)
def BBW:aQ Tryz.prog AYV:=.nil _
def A1G(a0:List iII)(R:T->Prop):Prop:=a7 (Int×PUnit) (λX0 s1=>aD (decide (s1.1<(↑a0.length:Int))) (aP Sy.str (IO a0) s1.1 λ(y2:iII)=>aP Sy.str (IO a0) (i64.wrap (s1.1-1)) λ(y3:iII)=>aD (cY y2 y3||decide (y2=y3)) (R d3) (f9 X0 s1)) (R d6)) (1,())
def A1H ( a0 R):dV bS Tryz.prog AYV BGZ 8 100 (rW a0) R=A1G a0 R:=by kernel_rfl
def ANY (l:List iII):Option T:=rC l (pPR (pZ l))
def ARA (d d':List iII) (h:rW d=rW d'):d=d':=by
 unfold rW at h;simp only[List.cons.injEq,T.fn.injEq,T.ref.injEq,and_true,true_and,T.sl.injEq] at h;exact map_inj (Sy.c0 .str) h.2
def AEV:List T->Option (T):=gA (λ(x:List iII)=>rW x) ANY
def A53 (a0:List iII):AEV (rW a0)=ANY a0:=eR (A:=(λ(x:List iII)=>rW x)) ARA a0
def BMJ (h:∀ (a0:List iII) (r:T),ANY a0=some r->(∀ t∈rW a0,Bd t)->A1G a0 (λy=>y=r)):aM Tryz.prog 100 AEV :=
 cG (E:=AYV) (Hs:=BGZ) BBW aR aU (aL rfl) 8 ⟨_,_,Tryz.func100,rfl⟩ λx r h1 h2=>by
  rw[A1H];exact h x r h1 h2
def BKM:aM Tryz.prog 100 AEV:=BMJ λl r h hb=>by
 obtain ⟨hl,rfl⟩:=kE h;unfold A1G IO f9 d6 d3;exact GM (r:=.str) (p:=λy=>y) (R:=λy=>y=pPR (pZ l)) hl (by simp)
def rS (a0:aB):List T:=[pPP (a0.2.1.length:Int),T.fn 101 [] [T.ref [T.ref (aC.enc a0)]]]
def AYR:Env:=Env.of []
def BGV:FuncId->Hint:=bT 100 [(2,.inv [.val 5 false (.int .i64)])] (λ_=>aX)
def BBS:aQ Tryz.prog AYR:=.nil _
def A08(a0:aB)(R:T->Prop):Prop:=a7 (Int×PUnit) (λX0 s1=>aD (decide (s1.1<(↑a0.2.1.length:Int))) (aP aS (t7 a0) s1.1 λ(y2:cH)=>aP aS (t7 a0) (i64.wrap (s1.1-1)) λ(y3:cH)=>aD (cY y2.1 y3.1||decide (y2.1=y3.1)) (R d3) (f9 X0 s1)) (R d6)) (1,())
def A09 ( a0 R):dV bS Tryz.prog AYR BGV 8 100 (rS a0) R=A08 a0 R:=by kernel_rfl
def ANU (d:aB):Option T:=rC d.2.1 (pPR (pZ (ids d.2.1)))
def AQ6 (d d':aB) (h:rS d=rS d'):d=d':=by
 unfold rS at h;simp only[List.cons.injEq,T.fn.injEq,T.ref.injEq,and_true,true_and] at h;exact Sy.c0 aC _ _ h.2
def AER:List T->Option (T):=gA (λ(x:aB)=>rS x) ANU
def A5Z (a0:aB):AER (rS a0)=ANU a0:=eR (A:=(λ(x:aB)=>rS x)) AQ6 a0
def BMF (h:∀ (a0:aB) (r:T),ANU a0=some r->(∀ t∈rS a0,Bd t)->A08 a0 (λy=>y=r)):aM Tryz.prog 100 AER :=
 cG (E:=AYR) (Hs:=BGV) BBS aR aU (aL rfl) 8 ⟨_,_,Tryz.func100,rfl⟩ λx r h1 h2=>by
  rw[A09];exact h x r h1 h2
def BKI:aM Tryz.prog 100 AER:=BMF λd r h hb=>by
 obtain ⟨hl,rfl⟩:=kE h;unfold A08 f9 t7 d6 d3;exact GM (r:=aS) (p:=λy=>y.1) (R:=λy=>y=pPR (pZ (ids d.2.1))) hl rfl
def rT (a0:aB):List T:=[pPP (a0.2.2.1.length:Int),T.fn 102 [] [T.ref [T.ref (aC.enc a0)]]]
def AYS:Env:=Env.of []
def BGW:FuncId->Hint:=bT 100 [(2,.inv [.val 5 false (.int .i64)])] (λ_=>aX)
def BBT:aQ Tryz.prog AYS:=.nil _
def A1A(a0:aB)(R:T->Prop):Prop:=a7 (Int×PUnit) (λX0 s1=>aD (decide (s1.1<(↑a0.2.2.1.length:Int))) (aP aJ (GT a0) s1.1 λ(y2:bB)=>aP aJ (GT a0) (i64.wrap (s1.1-1)) λ(y3:bB)=>aD (cY y2.1 y3.1||decide (y2.1=y3.1)) (R d3) (f9 X0 s1)) (R d6)) (1,())
def A1B ( a0 R):dV bS Tryz.prog AYS BGW 8 100 (rT a0) R=A1A a0 R:=by kernel_rfl
def ANV (d:aB):Option T:=rC d.2.2.1 (pPR (pZ (ids d.2.2.1)))
def AQ7 (d d':aB) (h:rT d=rT d'):d=d':=by
 unfold rT at h;simp only[List.cons.injEq,T.fn.injEq,T.ref.injEq,and_true,true_and] at h;exact Sy.c0 aC _ _ h.2
def AES:List T->Option (T):=gA (λ(x:aB)=>rT x) ANV
def A50 (a0:aB):AES (rT a0)=ANV a0:=eR (A:=(λ(x:aB)=>rT x)) AQ7 a0
def BMG (h:∀ (a0:aB) (r:T),ANV a0=some r->(∀ t∈rT a0,Bd t)->A1A a0 (λy=>y=r)):aM Tryz.prog 100 AES :=
 cG (E:=AYS) (Hs:=BGW) BBT aR aU (aL rfl) 8 ⟨_,_,Tryz.func100,rfl⟩ λx r h1 h2=>by
  rw[A1B];exact h x r h1 h2
def BKJ:aM Tryz.prog 100 AES:=BMG λd r h hb=>by
 obtain ⟨hl,rfl⟩:=kE h;unfold A1A f9 GT d6 d3;exact GM (r:=aJ) (p:=λy=>y.1) (R:=λy=>y=pPR (pZ (ids d.2.2.1))) hl rfl
def rU (a0:aB):List T:=[pPP (a0.2.2.2.1.length:Int),T.fn 103 [] [T.ref [T.ref (aC.enc a0)]]]
def AYT:Env:=Env.of []
def BGX:FuncId->Hint:=bT 100 [(2,.inv [.val 5 false (.int .i64)])] (λ_=>aX)
def BBU:aQ Tryz.prog AYT:=.nil _
def A1C(a0:aB)(R:T->Prop):Prop:=a7 (Int×PUnit) (λX0 s1=>aD (decide (s1.1<(↑a0.2.2.2.1.length:Int))) (aP aV (t6 a0) s1.1 λ(y2:cJ)=>aP aV (t6 a0) (i64.wrap (s1.1-1)) λ(y3:cJ)=>aD (cY y2.1 y3.1||decide (y2.1=y3.1)) (R d3) (f9 X0 s1)) (R d6)) (1,())
def A1D ( a0 R):dV bS Tryz.prog AYT BGX 8 100 (rU a0) R=A1C a0 R:=by kernel_rfl
def ANW (d:aB):Option T:=rC d.2.2.2.1 (pPR (pZ (ids d.2.2.2.1)))
def AQ8 (d d':aB) (h:rU d=rU d'):d=d':=by
 unfold rU at h;simp only[List.cons.injEq,T.fn.injEq,T.ref.injEq,and_true,true_and] at h;exact Sy.c0 aC _ _ h.2
def AET:List T->Option (T):=gA (λ(x:aB)=>rU x) ANW
def A51 (a0:aB):AET (rU a0)=ANW a0:=eR (A:=(λ(x:aB)=>rU x)) AQ8 a0
def BMH (h:∀ (a0:aB) (r:T),ANW a0=some r->(∀ t∈rU a0,Bd t)->A1C a0 (λy=>y=r)):aM Tryz.prog 100 AET :=
 cG (E:=AYT) (Hs:=BGX) BBU aR aU (aL rfl) 8 ⟨_,_,Tryz.func100,rfl⟩ λx r h1 h2=>by
  rw[A1D];exact h x r h1 h2
def BKK:aM Tryz.prog 100 AET:=BMH λd r h hb=>by
 obtain ⟨hl,rfl⟩:=kE h;unfold A1C f9 t6 d6 d3;exact GM (r:=aV) (p:=λy=>y.1) (R:=λy=>y=pPR (pZ (ids d.2.2.2.1))) hl rfl
def rV (a0:aB):List T:=[pPP (a0.2.2.2.2.1.length:Int),T.fn 104 [] [T.ref [T.ref (aC.enc a0)]]]
def AYU:Env:=Env.of []
def BGY:FuncId->Hint:=bT 100 [(2,.inv [.val 5 false (.int .i64)])] (λ_=>aX)
def BBV:aQ Tryz.prog AYU:=.nil _
def A1E(a0:aB)(R:T->Prop):Prop:=a7 (Int×PUnit) (λX0 s1=>aD (decide (s1.1<(↑a0.2.2.2.2.1.length:Int))) (aP aE (m7 a0) s1.1 λ(y2:aT)=>aP aE (m7 a0) (i64.wrap (s1.1-1)) λ(y3:aT)=>aD (cY y2.1 y3.1||decide (y2.1=y3.1)) (R d3) (f9 X0 s1)) (R d6)) (1,())
def A1F ( a0 R):dV bS Tryz.prog AYU BGY 8 100 (rV a0) R=A1E a0 R:=by kernel_rfl
def ANX (d:aB):Option T:=rC d.2.2.2.2.1 (pPR (pZ (ids d.2.2.2.2.1)))
def AQ9 (d d':aB) (h:rV d=rV d'):d=d':=by
 unfold rV at h;simp only[List.cons.injEq,T.fn.injEq,T.ref.injEq,and_true,true_and] at h;exact Sy.c0 aC _ _ h.2
def AEU:List T->Option (T):=gA (λ(x:aB)=>rV x) ANX
def A52 (a0:aB):AEU (rV a0)=ANX a0:=eR (A:=(λ(x:aB)=>rV x)) AQ9 a0
def BMI (h:∀ (a0:aB) (r:T),ANX a0=some r->(∀ t∈rV a0,Bd t)->A1E a0 (λy=>y=r)):aM Tryz.prog 100 AEU :=
 cG (E:=AYU) (Hs:=BGY) BBV aR aU (aL rfl) 8 ⟨_,_,Tryz.func100,rfl⟩ λx r h1 h2=>by
  rw[A1F];exact h x r h1 h2
def BKL:aM Tryz.prog 100 AEU:=BMI λd r h hb=>by
 obtain ⟨hl,rfl⟩:=kE h;unfold A1E f9 m7 d6 d3;exact GM (r:=aE) (p:=λy=>y.1) (R:=λy=>y=pPR (pZ (ids d.2.2.2.2.1))) hl rfl
def w9:List T->Option T:=orG AER (orG AES (orG AET (orG AEU AEV)))
def BG8:aM Tryz.prog 100 w9:=.or BKI (.or BKJ (.or BKK (.or BKL BKM)))
def BKO {d:aB} (h:d.2.1.length<=140737488355328):AU0 (tL d)=some (iT (ids d.2.1)):=by
 have h1:ADW (tL d)=some (iT (ids d.2.1)):=by rw[A5K];exact kF _ h
 exact (QR h1)
def BKS {d:aB} (h:d.2.1.length<=140737488355328):w9 (rS d)=some (pPR (pZ (ids d.2.1))):=by
 have h1:AER (rS d)=some (pPR (pZ (ids d.2.1))):=by rw[A5Z];exact kF _ h
 exact (QR h1)
def BKP {d:aB} (h:d.2.2.1.length<=140737488355328):AU0 (tM d)=some (iT (ids d.2.2.1)):=by
 have h1:ADX (tM d)=some (iT (ids d.2.2.1)):=by rw[A5L];exact kF _ h
 exact ((pG (iH λx h=>by simp[tL,tM] at h)).trans (QR h1))
def BKT {d:aB} (h:d.2.2.1.length<=140737488355328):w9 (rT d)=some (pPR (pZ (ids d.2.2.1))):=by
 have h1:AES (rT d)=some (pPR (pZ (ids d.2.2.1))):=by rw[A50];exact kF _ h
 exact ((pG (iH λx h=>by simp[rS,rT] at h)).trans (QR h1))
def BKQ {d:aB} (h:d.2.2.2.1.length<=140737488355328):AU0 (tN d)=some (iT (ids d.2.2.2.1)):=by
 have h1:ADY (tN d)=some (iT (ids d.2.2.2.1)):=by rw[A5M];exact kF _ h
 exact ((pG (iH λx h=>by simp[tL,tN] at h)).trans ((pG (iH λx h=>by simp[tM,tN] at h)).trans (QR h1)))
def BKU {d:aB} (h:d.2.2.2.1.length<=140737488355328):w9 (rU d)=some (pPR (pZ (ids d.2.2.2.1))):=by
 have h1:AET (rU d)=some (pPR (pZ (ids d.2.2.2.1))):=by rw[A51];exact kF _ h
 exact ((pG (iH λx h=>by simp[rS,rU] at h)).trans ((pG (iH λx h=>by simp[rT,rU] at h)).trans (QR h1)))
def BKR {d:aB} (h:d.2.2.2.2.1.length<=140737488355328):AU0 (tO d)=some (iT (ids d.2.2.2.2.1)):=by
 have h1:ADZ (tO d)=some (iT (ids d.2.2.2.2.1)):=by rw[A5N];exact kF _ h
 exact ((pG (iH λx h=>by simp[tL,tO] at h)).trans ((pG (iH λx h=>by simp[tM,tO] at h)).trans ((pG (iH λx h=>by simp[tN,tO] at h)).trans h1)))
def BKV {d:aB} (h:d.2.2.2.2.1.length<=140737488355328):w9 (rV d)=some (pPR (pZ (ids d.2.2.2.2.1))):=by
 have h1:AEU (rV d)=some (pPR (pZ (ids d.2.2.2.2.1))):=by rw[A52];exact kF _ h
 exact ((pG (iH λx h=>by simp[rS,rV] at h)).trans ((pG (iH λx h=>by simp[rT,rV] at h)).trans ((pG (iH λx h=>by simp[rU,rV] at h)).trans (QR h1))))
def A54 {l:List iII} (h:l.length<=140737488355328):w9 (rW l)=some (pPR (pZ l)):=by
 have h1:AEV (rW l)=some (pPR (pZ l)):=by rw[A53];exact kF _ h
 exact ((pG (iH λx h=>by simp[rS,rW] at h)).trans ((pG (iH λx h=>by simp[rT,rW] at h)).trans ((pG (iH λx h=>by simp[rU,rW] at h)).trans ((pG (iH λx h=>by simp[rV,rW] at h)).trans h1))))
abbrev R8 (d:aB) (m1 m2 m3 m4:List (iII×Int)):T:=T.ref [T.ref (aC.enc d),T.mp (bN m1),T.mp (bN m2),T.mp (bN m3),T.mp (bN m4)]
end Go.Pv
namespace Go.Pv
open Go Go.Proofs IntKind
abbrev q_b:Sh:=[(false,.bool)]
abbrev BMQ:Sh:=[(false,.li .str)]
def AG (x:iII×iII):Option T:=match decide (x.1.size<4294967281),decide (1<=x.2.size) with
 | true,true=>some (Sh.enc BMQ (Lib.splitB x.2 0 (Lib.countB x.1 x.2) x.1))
 | _,_=>none
def yI:List T->Option T:=gS [(false,.str),(false,.str)] AG
def AEZ {a b:iII}:yI [pPQ a,pPQ b]=AG (a,b):=bA (s:=[(false,.str),(false,.str)]) rfl (a,b) rfl
def AUL:aM Tryz.prog 116 yI:=by
 refine ⟨xU.entry,λw own args vs r hG ho ha hg=>?_⟩;obtain ⟨⟨a,b⟩,rfl,hx⟩:=vR hg;unfold AG at hx;split at hx
 ·rename_i h1 h2;cases hx;have hs:sY [.v (.string a),.v (.string b)]=some (.sl true ((Lib.splitB b 0 (Lib.countB a b) a).map λx=>[.v (.string x)])):=by
   unfold sY;simp only[h1,h2]
  refine (xU.calls w own _ vs _ hG ho ha hs).mono ?_;rintro e w' ⟨v,rfl,hr,hb⟩;exact ⟨v,rfl,hr.canon 0,hb⟩
 ·cases hx
end Go.Pv
namespace Go.Pv
open Go Go.Proofs IntKind
def sE (n:Int):Bool:=(decide (97<=n)&&decide (n<=122))||(decide (65<=n)&&decide (n<=90))
def DJ (n:Int):Bool:=decide (48<=n)&&decide (n<=57)
def nameAt (i:Nat) (b:UInt8):Bool:=sE b.toNat||(decide (i≠0)&&(DJ b.toNat||decide ((b.toNat:Int)=95)||decide ((b.toNat:Int)=45)))
def isName (s:iII):Bool:=decide (s.size≠0)&&decide (s.size<=16)&&(List.range s.size).all λi=>match s.data[i]? with|some b=>nameAt i b|none=>true
def AGP (s:iII):Option T:=some (Sh.enc q_b (isName s))
abbrev u6:=AGP
def BF9 (l:List iII):Int:=(l.length:Int)-1+oW l
def BP5 (s:iII):Option T:=match decide (s.size<=1099511627776) with
 | true=>some (Sh.enc BMQ (eM s))
 | false=>none
def u9 (l:List iII):Option T:=match decide (l.length<=65)&&decide (oW l<=64) with
 | true=>some (Sh.enc q_b (l.all isName&&(decide (1<=l.length)&&decide (l.length<=8)&&decide (BF9 l<=64))))
 | false=>none
def pT (s:iII):Bool:=decide (s.size<=64)&&decide ((eM s).length<=8)&&(eM s).all isName
def G0 (s:iII):Option T:=some (Sh.enc q_b (pT s))
def pY {n:Nat} {f:Nat->Bool}:(List.range n).all f=true↔∀ i,i<n->f i=true:=by simp
def AVK {s:iII} (h0:s.size≠0) (h1:s.size<=16) (h2:∀ i b,s.data[i]? = some b->nameAt i b=true):isName s=true:=by
 unfold isName;simp only[h0,h1,decide_true,Bool.true_and,ac,pY,ne_eq,not_false_eq_true,true_and];intro i hi;split
 ·rename_i b hb;exact h2 i b hb
 ·rfl
def D0 {s:iII} (h:s.size=0\/16<s.size\/∃ i b,s.data[i]? = some b/\nameAt i b=false):isName s=false:=by
 rw[Bool.eq_false_iff];intro hn;unfold isName at hn;simp only[ac,pY,ae] at hn;rcases h with h|h|⟨i,b,hb,hf⟩
 ·exact hn.1.1 h
 ·have:=hn.1.2;omega
 ·have hi:i<s.size:=(Array.getElem?_eq_some_iff.1 hb).1;have:=hn.2 i hi;rw[hb] at this;simp only[hf] at this;cases this
def AFM (b:UInt8):nameAt 0 b=sE b.toNat:=by simp[nameAt]
def AOS {s:iII}:s = { data:=#[] }↔s.size=0:=⟨λe=>by subst e;rfl,λe=>ByteArray.ext (Array.eq_empty_of_size_eq_zero e)⟩
def AX6:Env:=Env.of []
def A1W:FuncId->Hint:=λf=>match f == 57 with|true=>⟨λr=>match r == 4 with|true=>.inv [.kV 0]|false=>.none,λi j=>match i == 6&&j == 6 with|true=>some [.val 5 false .bool,.fix 0]|false=>match i == 7&&j == 7 with|true=>some [.val 6 false .bool,.fix 0]|false=>none,λ_=>none⟩|false=>aX
def AHO:aQ Tryz.prog AX6:=.nil _
def AC(s1:(iII×Nat)×PUnit)(X2:Bool×PUnit×PUnit->Prop):Prop:=aD (decide (97<=(↑(Utf8.decode s1.1.1 s1.1.2).1:Int))) (fK (bE.kV s1.1.1 (s1.1.2+(Utf8.decode s1.1.1 s1.1.2).2)) (bE.kV s1.1.1 (s1.1.2+(Utf8.decode s1.1.1 s1.1.2).2)) (X2 (decide ((↑(Utf8.decode s1.1.1 s1.1.2).1:Int)<=122),(),()))) (fK (bE.kV s1.1.1 (s1.1.2+(Utf8.decode s1.1.1 s1.1.2).2)) (bE.kV s1.1.1 (s1.1.2+(Utf8.decode s1.1.1 s1.1.2).2)) (X2 (false,(),())))
def EQ(s1:(iII×Nat)×PUnit)(X2:Bool×PUnit×PUnit->Prop):Prop:=fK (bE.kV s1.1.1 (s1.1.2+(Utf8.decode s1.1.1 s1.1.2).2)) (bE.kV s1.1.1 (s1.1.2+(Utf8.decode s1.1.1 s1.1.2).2)) (X2 (true,(),()))
def M2(s1:(iII×Nat)×PUnit)(X4:Bool×PUnit×PUnit->Prop):Prop:=aD (decide ((↑(Utf8.decode s1.1.1 s1.1.2).1:Int)=95)) (EQ s1 X4) (fK (bE.kV s1.1.1 (s1.1.2+(Utf8.decode s1.1.1 s1.1.2).2)) (bE.kV s1.1.1 (s1.1.2+(Utf8.decode s1.1.1 s1.1.2).2)) (X4 (decide ((↑(Utf8.decode s1.1.1 s1.1.2).1:Int)=45),(),())))
def NG(a0:iII)(R:T->Prop):Prop:=aD (decide (a0 = {data:=#[]})) (R d3) (aD (decide (16<(↑(ByteArray.size a0):Int))) (R d3) (a7 ((iII×Nat)×PUnit) (λX0 s1=>aD (decide (s1.1.2<s1.1.1.size)) (sD (Bool×PUnit×PUnit) (λ(X2:Bool×PUnit×PUnit->Prop)=>aD (decide (65<=(↑(Utf8.decode s1.1.1 s1.1.2).1:Int))) (aD (decide ((↑(Utf8.decode s1.1.1 s1.1.2).1:Int)<=90)) (EQ s1 X2) (AC s1 X2)) (AC s1 X2)) λ(s3:Bool×PUnit×PUnit)=>sD (Bool×PUnit×PUnit) (λ(X4:Bool×PUnit×PUnit->Prop)=>aD (decide (48<=(↑(Utf8.decode s1.1.1 s1.1.2).1:Int))) (aD (decide ((↑(Utf8.decode s1.1.1 s1.1.2).1:Int)<=57)) (EQ s1 X4) (M2 s1 X4)) (M2 s1 X4)) λ(s5:Bool×PUnit×PUnit)=>aD (!s3.1) (aD (decide ((↑s1.1.2:Int)=0)) (R d3) (aD (!s5.1) (R d3) (X0 ((s1.1.1,s1.1.2+(Utf8.decode s1.1.1 s1.1.2).2),())))) (X0 ((s1.1.1,s1.1.2+(Utf8.decode s1.1.1 s1.1.2).2),()))) (R d6)) ((a0,0),())))
abbrev Q3:Sh:=[(false,Sy.str)]
abbrev GK:Sh:=[(false,Sy.bool)]
def S5 (y:Sh.den GK) (K:Sh.den GK->Prop):aI GK (some (Sh.enc GK y)) K=K y:=AM rfl y K
def iJ:List T->Option T:=gS Q3 u6
def x6 {a0}:iJ [pPQ a0]=u6 (a0):=bA (s:=Q3) rfl (a0) rfl
def AWA:qM Tryz.prog 57 iJ u6 (bY Q3) NG:=gK (a1:=(false,Sy.str)) (Hs:=A1W) (k:=8) AHO aR aU (aL rfl) ⟨_,_,Tryz.func57,rfl⟩ rfl λ_ _=>by kernel_rfl
variable {K:Bool×PUnit×PUnit->Prop}
def AFC (c:Int) (hX:K (sE c,(),())):sD (Bool×PUnit×PUnit) (λX=>aD (decide (65<=c)) (aD (decide (c<=90)) (X (true,(),())) (aD (decide (97<=c)) (X (decide (c<=122),(),())) (X (false,(),())))) (aD (decide (97<=c)) (X (decide (c<=122),(),())) (X (false,(),())))) K:=by
 simp only[AE8,A6];unfold sE at hX;by_cases h1:65<=c<;>by_cases h2:c<=90<;>by_cases h3:97<=c<;>by_cases h4:c<=122<;>simp[h1,h2,h3,h4] at hX ⊢ <;> first|exact hX|omega
def XQ (c:Int) (hX:K (DJ c||decide (c=95)||decide (c=45),(),())):sD (Bool×PUnit×PUnit) (λX=>aD (decide (48<=c)) (aD (decide (c<=57)) (X (true,(),())) (aD (decide (c=95)) (X (true,(),())) (X (decide (c=45),(),())))) (aD (decide (c=95)) (X (true,(),())) (X (decide (c=45),(),())))) K:=by
 simp only[AE8,A6];unfold DJ at hX;by_cases h1:48<=c<;>by_cases h2:c<=57<;>by_cases h3:c=95<;>simp[h1,h2,h3] at hX ⊢ <;> first|exact hX|omega
def AS:aM Tryz.prog 57 iJ:=AWA λs r h hb=>by
 have h':some (Sh.enc q_b (isName s))=some r:=h;cases h';clear h;unfold NG M2 EQ AC d6 d3;by_cases h0:s.size=0
 ·exact fG (AOS.2 h0) (by rw[D0 (.inl h0)];rfl)
 refine gW (λe=>h0 (AOS.1 e)) ?_;by_cases h16:16<s.size
 ·exact fG (by omega) (by rw[D0 (.inr (.inl h16))];rfl)
 refine gW (by omega) ?_;refine bI s.size (λk t=>t=((s,k),())/\∀ i b,i<k->s.data[i]? = some b->nameAt i b=true) ⟨rfl,by simp⟩ ?_;rintro X k t hk ⟨rfl,hno⟩ hX;simp only[cU];by_cases hlt:k<s.size
 ·refine fG hlt ?_;have hb:s.data[k]? = some (s[k]'hlt):=by
   rw[Array.getElem?_eq_getElem hlt];rfl
  refine AFC (Utf8.decode s k).1 ?_;refine XQ (Utf8.decode s k).1 ?_;dsimp only;have stop:nameAt k (s[k]'hlt)=false->pPR false=Sh.enc q_b (isName s):=λhn=>by rw[D0 (.inr (.inr ⟨k,_,hb,hn⟩))];rfl
  by_cases hasc:(s[k]'hlt).toNat<128
  ·have hd:=decode_ascii s k hlt hasc;have go:nameAt k (s[k]'hlt)=true->X ((s,k+(Utf8.decode s k).2),()):=λhn=>by
    rw[hd];exact hX _ hlt ⟨rfl,λi b' hi hb'=>by
     by_cases e:i=k
     ·subst e;rw[hb] at hb';cases hb';exact hn
     ·exact hno i b' (by omega) hb'⟩
   have e1:((Utf8.decode s k).1:Int)=((s[k]'hlt).toNat:Int):=by rw[hd]
   rw[e1];cases hl:sE ((s[k]'hlt).toNat:Int) with
   | true=>rw[Bool.not_true,nW];exact go (by simp[nameAt,hl])
   | false =>
    rw[Bool.not_false,kC];by_cases hk0:k=0
    ·exact fG (by omega) (stop (by subst hk0;rw[AFM];exact hl))
    ·refine gW (by omega) ?_;cases hf:(DJ ((s[k]'hlt).toNat:Int)||decide (((s[k]'hlt).toNat:Int)=95)||decide (((s[k]'hlt).toNat:Int)=45)) with
     | true=>rw[Bool.not_true,nW];exact go (by unfold nameAt;rw[hl,hf];simp[hk0])
     | false=>rw[Bool.not_false,kC];exact stop (by unfold nameAt;rw[hl,hf];simp)
  ·obtain ⟨hd1,hd2⟩:=decode_high s k hlt (by omega);have hl:sE ((Utf8.decode s k).1:Int)=false:=by
    unfold sE;simp;omega
   have hf:(DJ ((Utf8.decode s k).1:Int)||decide (((Utf8.decode s k).1:Int)=95)||decide (((Utf8.decode s k).1:Int)=45))=false:=by
    unfold DJ;simp;omega
   have hn:nameAt k (s[k]'hlt)=false:=by
    unfold nameAt sE DJ;simp;omega
   rw[hl,hf,Bool.not_false,kC];by_cases hk0:k=0
   ·exact fG (by omega) (stop hn)
   ·refine gW (by omega) ?_;rw[kC];exact stop hn
 ·refine gW hlt ?_;rw[AVK h0 (by omega) (λi b h=>hno i b (by have:=(Array.getElem?_eq_some_iff.1 h).1;have:i<s.size:=this;omega) h)];rfl
def BAH:Env:=Env.of [(57,.pure iJ)]
def BB4:FuncId->Hint:=bT 115 [(3,.inv [.val 3 false (.int .i64),.val 11 false (.int .i64)])] (λ_=>aX)
def ARX:aQ Tryz.prog BAH:=.cons AS (.nil _)
def WK(a0:List iII)(R:T->Prop):Prop:=a7 (Int×Int×PUnit) (λX0 s1=>aD (decide (s1.2.1<(↑(IO a0).length:Int))) (aP Sy.str (IO a0) s1.2.1 λ(y2:iII)=>aI d4 (iJ [pPQ y2]) λ(y3:Bool)=>aD (!y3) (R d3) (X0 (i64.wrap (s1.1+(↑y2.size:Int)),i64.wrap (s1.2.1+1),()))) (aD (decide (1<=(↑(IO a0).length:Int))) (aD (decide ((↑(IO a0).length:Int)<=8)) (R (pPR (decide (s1.1<=64)))) (R d3)) (R d3))) (i64.wrap ((↑(IO a0).length:Int)-1),0,())
abbrev ZH:Sh:=[(false,Sy.str.li)]
def FQ:List T->Option T:=gS ZH u9
def AK2 {a0}:FQ [T.sl false (List.map Sy.str.enc a0)]=u9 (a0):=bA (s:=ZH) rfl (a0) rfl
def A7R:qM Tryz.prog 115 FQ u9 (bY ZH) WK:=gK (a1:=(false,Sy.str.li)) (Hs:=BB4) (k:=8) ARX aR aU (aL rfl) ⟨_,_,Tryz.func115,rfl⟩ rfl λ_ _=>by kernel_rfl
def EH:∀ (l:List iII) (x:iII),oW (l++[x])=oW l+x.size
 | [],x=>by simp[oW]
 | a::l,x=>by simp only[List.cons_append,oW,EH l x];omega
def R5:∀ (l:List iII) (k:Nat),oW (l.take k)<=oW l
 | [],k=>by simp
 | a::l,0=>by simp[oW]
 | a::l,k+1=>by simp only[List.take_succ_cons,oW];have:=R5 l k;omega
def A4C:aM Tryz.prog 115 FQ:=A7R λl r h hb=>by
 unfold u9 at h;split at h
 ·rename_i hsz;simp only[ac,ae] at hsz;obtain ⟨hl65,hs64⟩:=hsz;cases h;unfold WK IO d4 d3;refine bI l.length (λk t=>t=((l.length:Int)-1+oW (l.take k),(k:Int),())/\(l.take k).all isName=true) ⟨by
   simp only[List.take_zero,oW,ad,Prod.mk.injEq,and_true];rw[bD _ (by omega) (by omega)];simp,by simp⟩ ?_
  rintro X k t hk ⟨rfl,hall⟩ hX;dsimp only;by_cases hlt:k<l.length
  ·refine fG (by simp[hlt]) ?_;rw[bC (r:=.str) hlt];refine aH (s:=q_b) (y:=isName l[k]) x6 ?_;have hsum:=R5 l (k+1);have htake:l.take (k+1)=l.take k++[l[k]]:=List.take_succ_eq_append_getElem hlt;cases hn:isName l[k] with
   | false =>
    rw[Bool.not_false,kC];have:l.all isName=false:=by
     rw[Bool.eq_false_iff];intro ha;have:=List.all_eq_true.1 ha _ (aj hlt);rw[hn] at this;cases this
    rw[this];rfl
   | true =>
    rw[Bool.not_true,nW];rw[htake,EH] at hsum;refine hX _ hlt ⟨?_,by rw[htake,List.all_append,hall];simp[hn]⟩;rw[htake,EH];simp only[Prod.mk.injEq,and_true];exact ⟨by rw[bD _ (by omega) (by omega)];simp;omega,bD _ (by omega) (by omega)⟩
  ·have:k=l.length:=by omega
   subst this;rw[List.take_length] at hall;refine gW (by simp) ?_;rw[List.take_length,hall];by_cases h1:1<=l.length
   ·refine fG (by simp only[ad];omega) ?_;by_cases h2:l.length<=8
    ·refine fG (by simp only[ad];omega) ?_;rw[ah h1,ah h2];rfl
    ·refine gW (by simp only[ad];omega) ?_;rw[ai h2,Bool.and_false];rfl
   ·refine gW (by simp only[ad];omega) ?_;rw[ai h1];rfl
 ·cases h
def BH1:Env:=Env.of [(116,.pure yI),(115,.pure FQ)]
def BIN:FuncId->Hint:=λ_=>aX
def AZE:aQ Tryz.prog BH1:=.cons AUL (.cons A4C (.nil _))
def AIS(a0:iII)(R:T->Prop):Prop:=aD (decide ((↑(ByteArray.size a0):Int)<=64)) (aI d9 (yI [pPQ a0,pPQ ({data:=#[46]})]) λ(y0:List iII)=>aI d4 (FQ [T.sl false (IO y0)]) λ(y1:Bool)=>R (pPR y1)) (R d3)
abbrev AMW:Sh:=[(false,Sy.str)]
abbrev Y6:Sh:=[(false,Sy.bool)]
def AF9 (y:Sh.den Y6) (K:Sh.den Y6->Prop):aI Y6 (some (Sh.enc Y6 y)) K=K y:=AM rfl y K
def eU:List T->Option T:=gS AMW G0
def UE {a0}:eU [pPQ a0]=G0 (a0):=bA (s:=AMW) rfl (a0) rfl
def BFE:qM Tryz.prog 82 eU G0 (bY AMW) AIS:=gK (a1:=(false,Sy.str)) (Hs:=BIN) (k:=8) AZE aR aU (aL rfl) ⟨_,_,Tryz.func82,rfl⟩ rfl λ_ _=>by kernel_rfl
def E7:aM Tryz.prog 82 eU:=BFE λs r h hb=>by
 have h':some (Sh.enc q_b (pT s))=some r:=h;cases h';clear h;unfold AIS IO d9 d4 d3 pT;by_cases h64:s.size<=64
 ·refine fG (by omega) ?_;have hsum:=AW5 s;have hpos:=AW4 s;refine aH (s:=BMQ) (y:=eM s) ?_ ?_
  ·rw[show yI [pPQ s,pPQ ({ data:=#[46] })]=AG (s,dot) from AEZ];unfold AG;rw[show decide (s.size<4294967281)=true by simp;omega,show decide (1<=dot.size)=true from rfl];rfl
  ·refine aH (s:=q_b) (y:=(eM s).all isName&&(decide (1<=(eM s).length)&&decide ((eM s).length<=8)&&decide (BF9 (eM s)<=64))) ?_ ?_
   ·rw[AK2];unfold u9;rw[show (decide ((eM s).length<=65)&&decide (oW (eM s)<=64))=true by simp;omega]
   ·have h1:decide (1<=(eM s).length)=true:=ah hpos;have h2:decide (BF9 (eM s)<=64)=true:=ah (by unfold BF9;omega);have h3:decide (s.size<=64)=true:=ah h64;rw[h1,h2,h3];simp[Bool.and_comm,Sh.enc,aF,Sy.enc,hdT]
 ·refine gW (by omega) ?_;rw[ai h64];rfl
end Go.Pv
namespace Go.Pv
open Go Go.Proofs IntKind
def Seen (es:List (iII×Bool)) (S:iII->Prop):Prop:=(∀ id b,eC es id=some b->b=true)/\∀ id,eC es id=some true↔S id
def Seen.nil:Seen [] λ_=>False:=⟨λid b h=>(by cases h),λid=>⟨λh=>(by cases h),λh=>h.elim⟩⟩
variable {es:List (iII×Bool)}{S:iII->Prop}
def Seen.ins (h:Seen es S) (k:iII):Seen (nK es k true) λid=>S id\/k=id:=by
 refine ⟨λid b hb=>?_,λid=>?_⟩
 ·rw[yJ] at hb;split at hb
  ·cases hb;rfl
  ·exact h.1 id b hb
 ·rw[yJ];split
  ·rename_i e;exact ⟨λ_=>.inr e,λ_=>rfl⟩
  ·rename_i e;rw[h.2];exact ⟨.inl,λh=>h.resolve_right e⟩
def Seen.congr {S':iII->Prop} (h:Seen es S) (e:∀ id,S id↔S' id):Seen es S':=⟨h.1,λid=>(h.2 id).trans (e id)⟩
abbrev RS:=List (Value×T)×Nat×List Nat×Nat
variable {m:List (iII×Int)}
def A3T {seen:List Nat} {i:Nat} (hi:i<m.length) (K:iII->Int->Prop) (hk:K m[i].1 m[i].2):o7 .str false (.int .i64) (rI (bN m)) (seen++[i]) K :=
 ⟨i,m[i].1,m[i].2,by simp,by simp only[rI,bN,List.map_map,List.getElem?_map,List.getElem?_eq_getElem hi];rfl,hk⟩
def BC0 {R7 K:Prop} (hS:Seen es S) (hbad:(∃ i,∃ h:i<m.length,S m[i].1)->R7) (hgood:(∀ i (h:i<m.length),¬ S m[i].1)->K) :
  a7 (RS×PUnit) (λ(X:RS×PUnit->Prop) (s:RS×PUnit)=>bH (decide (s.1.1.length<=s.1.2.1)&&decide (s.1.2.1<=s.1.2.2.2)) (j3 s.1.1.length s.1.2.2.1 K λ(i:Nat) =>
   bH (decide (s.1.1.length=s.1.1.length)) (o7 Sy.str false (Sy.int IntKind.i64) (rI s.1.1) (s.1.2.2.1++[i]) λ(k:iII) (y:Int) =>
    dJ TypeDesc.string (Value.string k) (List.map (a8 Sy.str false Sy.bool) es) false Sy.bool (X ((s.1.1,s.1.2.1,s.1.2.2.1++[i],s.1.1.length),())) λ(j:Nat) (b:Bool) =>
     aD b R7 (X ((s.1.1,s.1.2.1,s.1.2.2.1++[i],s.1.1.length),()))))) ((bN m,(bN m).length,[],(bN m).length),()):=by
 have hml:(bN m).length=m.length:=by simp[bN]
 refine bI m.length (λk t=>∃ seen,t=((bN m,(bN m).length,seen,(bN m).length),())/\(cE m.length seen).length+k<=m.length/\∀ i (h:i<m.length),i∈seen->¬ S m[i].1) ⟨[],rfl,by rw[sF];omega,by simp⟩ ?_;rintro X k t hk ⟨seen,rfl,hlen,hJ⟩ hX;dsimp only;refine ⟨by simp,?_,?_⟩
 ·intro hm;rw[hml] at hm;refine hgood λi hi=>hJ i hi ?_;refine Classical.byContradiction λhc=>?_;have:i∈cE m.length seen:=iU.2 ⟨hi,hc⟩;rw[hm] at this;cases this
 ·intro i hi;rw[hml] at hi;have hi1:=(iU.1 hi).1;have hst:=pU hi;refine ⟨by simp,A3T hi1 _ ?_⟩;have go:¬ S m[i].1->X ((bN m,(bN m).length,seen++[i],(bN m).length),()):=λhn=>hX _ (by omega) ⟨_,rfl,by omega,λj hj hm=>by
   rcases List.mem_append.1 hm with h|h
   ·exact hJ j hj h
   ·simp at h;subst h;exact hn⟩
  refine E4 (r:=.bool) (λhno=>go λh=>?_) λj b hb=>?_
  ·have:=(hS.2 m[i].1).2 h;rw[hno] at this;cases this
  ·have:=hS.1 _ _ hb;subst this;rw[kC];exact hbad ⟨i,hi1,(hS.2 _).1 hb⟩
def BCO {K:List (iII×Bool)×RS×PUnit->Prop} (hS:Seen es S) (hgood:∀ es' rs,Seen es' (λid=>S id\/∃ i,∃ h:i<m.length,m[i].1=id)->K (es',rs,())) :
  b7 Sy.str false Sy.bool (List.map (a8 Sy.str false Sy.bool) es) λ(y:List (iII×Bool)) =>
  a7 (List (iII×Bool)×RS×PUnit) (λ(X:List (iII×Bool)×RS×PUnit->Prop) (s:List (iII×Bool)×RS×PUnit)=>bH (decide (s.2.1.1.length<=s.2.1.2.1)&&decide (s.2.1.2.1<=s.2.1.2.2.2)) (j3 s.2.1.1.length s.2.1.2.2.1 (K s) λ(i:Nat) =>
   bH (decide (s.2.1.1.length=s.2.1.1.length)) (o7 Sy.str false (Sy.int IntKind.i64) (rI s.2.1.1) (s.2.1.2.2.1++[i]) λ(k:iII) (y:Int) =>
    dS (Option (Nat×D)) (findD TypeDesc.string (LJ Sy.str k) (List.map (a8 Sy.str false Sy.bool) s.1) 0) λ(y37:Option (Nat×D)) =>
     b7 Sy.str false Sy.bool (dB (List.map (a8 Sy.str false Sy.bool) s.1) y37 (Value.string k) (D.p (T.v (.bool true)))) λ(y38:List (iII×Bool)) =>
      X (y38,(s.2.1.1,s.2.1.2.1,s.2.1.2.2.1++[i],s.2.1.1.length),())))) (y,(bN m,(bN m).length,[],(bN m).length),()):=by
 have hml:(bN m).length=m.length:=by simp[bN]
 refine j2 (r:=.bool) rfl es _ ?_;refine bI m.length (λk t=>∃ seen es',t=(es',(bN m,(bN m).length,seen,(bN m).length),())/\(cE m.length seen).length+k<=m.length/\Seen es' (λid=>S id\/∃ i,∃ h:i<m.length,i∈seen/\m[i].1=id)) ⟨[],es,rfl,by rw[sF];omega,hS.congr (by simp)⟩ ?_;rintro X k t hk ⟨seen,es',rfl,hlen,hJ⟩ hX;dsimp only;refine ⟨by simp,?_,?_⟩
 ·intro hm;rw[hml] at hm;refine hgood _ _ (hJ.congr λid=>⟨λh=>h.imp_right λ⟨i,hi,_,e⟩=>⟨i,hi,e⟩,λh=>h.imp_right λ⟨i,hi,e⟩=>⟨i,hi,?_,e⟩⟩);refine Classical.byContradiction λhc=>?_;have:i∈cE m.length seen:=iU.2 ⟨hi,hc⟩;rw[hm] at this;cases this
 ·intro i hi;rw[hml] at hi;have hi1:=(iU.1 hi).1;have hst:=pU hi;refine ⟨by simp,A3T hi1 _ ?_⟩;refine APE (r:=.bool) rfl (es:=es') (k:=m[i].1) (v:=true) (hX _ (by omega) ⟨seen++[i],_,rfl,by omega,(hJ.ins _).congr λid=>⟨?_,?_⟩⟩)
  ·rintro ((h|⟨j,hj,hm,e⟩)|h)
   ·exact .inl h
   ·exact .inr ⟨j,hj,by simp[hm],e⟩
   ·exact .inr ⟨i,hi1,by simp,h⟩
  ·rintro (h|⟨j,hj,hm,e⟩)
   ·exact .inl (.inl h)
   ·rcases List.mem_append.1 hm with hm|hm
    ·exact .inl (.inr ⟨j,hj,hm,e⟩)
    ·simp at hm;subst hm;exact .inr e
def ltN (a b:cQ):Bool:=decide (a.1<b.1)||(decide (a.1=b.1)&&(cY a.2.1 b.2.1||(decide (a.2.1=b.2.1)&&cY a.2.2 b.2.2)))
def AB5:List cQ->Bool
 | a::b::l=>ltN a b&&AB5 (b::l)
 | _=>true
def AS0 {l:List cQ} {k:Nat} (h:k+1<l.length):AB5 (l.drop k)=(ltN l[k] l[k+1]&&AB5 (l.drop (k+1))):=by
 rw[List.drop_eq_getElem_cons (show k<l.length by omega),List.drop_eq_getElem_cons h,AB5]
def A2T {l:List cQ} {k:Nat} (h:l.length<=k+1):AB5 (l.drop k)=true:=by
 rcases Nat.lt_or_ge k l.length with h1|h1
 ·rw[List.drop_eq_getElem_cons h1,List.drop_eq_nil_of_le h];rfl
 ·rw[List.drop_eq_nil_of_le h1];rfl
def UT (k:iII) (v:Int) (id:iII):∀ es:List (iII×Int),id∈(nK es k v).map (λe=>e.1)↔id∈es.map (λe=>e.1)\/id=k
 | []=>by simp[nK]
 | e::es=>by
  simp only[nK];split
  ·rename_i h;simp only[List.map_cons,List.mem_cons];rw[<-h];constructor
   ·rintro (h|h)
    ·exact .inl (.inl h)
    ·exact .inl (.inr h)
   ·rintro ((h|h)|h)
    ·exact .inl h
    ·exact .inr h
    ·exact .inl h
  ·simp only[List.map_cons,List.mem_cons,UT k v id es,or_assoc]
def UU (id:iII):∀ (l:List iII) (i:Nat) (es:List (iII×Int)),id∈(I0 l i es).map (λe=>e.1)↔id∈es.map (λe=>e.1)\/id∈l
 | [],i,es=>by simp[I0]
 | a::l,i,es=>by
  simp only[I0];rw[UU id l];cases h:eC es a with
  | none=>simp only[UT,List.mem_cons,or_assoc]
  | some v =>
   simp only[List.mem_cons];have ha:a∈es.map (λe=>e.1):=by
    rcases lX a es with ⟨h1,_⟩|⟨j,hj,h1,_⟩
    ·rw[h] at h1;cases h1
    ·exact List.mem_map.2 ⟨es[j],aj hj,h1⟩
   constructor
   ·rintro (h|h)
    ·exact .inl h
    ·exact .inr (.inr h)
   ·rintro (h|rfl|h)
    ·exact .inl h
    ·exact .inl ha
    ·exact .inr h
def lF {l:List iII} {id:iII}:(∃ i,∃ h:i<(iT l).length,(iT l)[i].1=id)↔id∈l:=by
 have h:=UU id l 0 [];simp only[List.map_nil,List.not_mem_nil,false_or] at h;rw[<-h,List.mem_map];constructor
 ·rintro ⟨i,hi,e⟩;exact ⟨_,aj hi,e⟩
 ·rintro ⟨e,he,h⟩;obtain ⟨i,hi,rfl⟩:=List.mem_iff_getElem.1 he;exact ⟨i,hi,h⟩
def C4 (a0:aB) (m1:List (iII×Int)) (m2:List (iII×Int)) (m3:List (iII×Int)) (m4:List (iII×Int)):List T:=[R8 a0 m1 m2 m3 m4]
def AG8:Env:=Env.of [(100,.pure w9)]
def A1T:FuncId->Hint:=λf=>match f == 59 with|true=>⟨λr=>match r == 9 with|true=>.inv [.val 4 false .bool,.val 5 false (.int .i64)]|false=>match r == 17 with|true=>.SA 5|false=>match r == 20 with|true=>.alts [[.b9 30],[.b9 29],[.b9 28],[.b9 27],[.b9 26],[.b9 25],[.b9 24],[.b9 23],[.b9 22],[.b9 21],[.b9 20],[.b9 19],[.b9 18],[.b9 17],[.b9 16],[.b9 15],[.b9 14],[.b9 13],[.b9 12],[.b9 11],[.b9 10],[.b9 9],[.b9 8],[.b9 7],[.b9 6],[.b9 5],[.b9 4],[.b9 3],[.b9 2]]|false=>match r == 25 with|true=>.alts [[.map 2 .str false .bool,.b9 30],[.map 2 .str false .bool,.b9 29],[.map 2 .str false .bool,.b9 28],[.map 2 .str false .bool,.b9 27],[.map 2 .str false .bool,.b9 26],[.map 2 .str false .bool,.b9 25],[.map 2 .str false .bool,.b9 24],[.map 2 .str false .bool,.b9 23],[.map 2 .str false .bool,.b9 22],[.map 2 .str false .bool,.b9 21],[.map 2 .str false .bool,.b9 20],[.map 2 .str false .bool,.b9 19],[.map 2 .str false .bool,.b9 18],[.map 2 .str false .bool,.b9 17],[.map 2 .str false .bool,.b9 16],[.map 2 .str false .bool,.b9 15],[.map 2 .str false .bool,.b9 14],[.map 2 .str false .bool,.b9 13],[.map 2 .str false .bool,.b9 12],[.map 2 .str false .bool,.b9 11],[.map 2 .str false .bool,.b9 10],[.map 2 .str false .bool,.b9 9],[.map 2 .str false .bool,.b9 8],[.map 2 .str false .bool,.b9 7],[.map 2 .str false .bool,.b9 6],[.map 2 .str false .bool,.b9 5],[.map 2 .str false .bool,.b9 4],[.map 2 .str false .bool,.b9 3],[.map 2 .str false .bool,.b9 2]]|false=>.none,λi j=>match i == 5&&j == 5 with|true=>some [.val 4 false .bool]|false=>match i == 6&&j == 6 with|true=>some [.val 4 false .bool]|false=>match i == 7&&j == 7 with|true=>some [.val 4 false .bool]|false=>none,λr=>match r == 21 with|true=>some (.str,false,(.int .i64))|false=>match r == 26 with|true=>some (.str,false,(.int .i64))|false=>none⟩|false=>aX
def AZB:aQ Tryz.prog AG8:=.cons BG8 (.nil _)
def f7(a0:aB):List T:=[pPQ a0.1, T.sl false (t7 a0), T.sl false (GT a0), T.sl false (t6 a0), T.sl false (m7 a0), T.sl false (FS a0)]
def i6(a0:aB):List T:=[pPQ a0.1,T.sl false (t7 a0), T.sl false (GT a0), T.sl false (t6 a0), T.sl false (m7 a0), T.sl false (FS a0)]
def AIO(a0:aB)(m1:List (iII×Int))(m2:List (iII×Int))(m3:List (iII×Int))(m4:List (iII×Int))(R:T->Prop):Prop:=aD (decide (64<(↑(t7 a0).length:Int))) (R (pPP 4)) (aD (decide (256<(↑(GT a0).length:Int))) (R (pPP 4)) (aD (decide (256<(↑(t6 a0).length:Int))) (R (pPP 4)) (aD (decide (64<(↑(m7 a0).length:Int))) (R (pPP 4)) (aD (decide (256<(↑(FS a0).length:Int))) (R (pPP 4)) (aI d4 (w9 [pPP (↑(t7 a0).length:Int), T.fn 101 [] [T.ref [T.ref (i6 a0)]]]) λ(y0:Bool)=>sD (Bool×PUnit) (λ(X1:Bool×PUnit->Prop)=>aD y0 (aI d4 (w9 [pPP (↑(GT a0).length:Int), T.fn 102 [] [T.ref [T.ref (f7 a0)]]]) λ(y2:Bool)=>X1 (y2,())) (X1 (false,()))) λ(s3:Bool×PUnit)=>sD (Bool×PUnit) (λ(X4:Bool×PUnit->Prop)=>aD s3.1 (aI d4 (w9 [pPP (↑(t6 a0).length:Int), T.fn 103 [] [T.ref [T.ref (f7 a0)]]]) λ(y5:Bool)=>X4 (y5,())) (X4 (false,()))) λ(s6:Bool×PUnit)=>sD (Bool×PUnit) (λ(X7:Bool×PUnit->Prop)=>aD s6.1 (aI d4 (w9 [pPP (↑(m7 a0).length:Int), T.fn 104 [] [T.ref [T.ref (f7 a0)]]]) λ(y8:Bool)=>X7 (y8,())) (X7 (false,()))) λ(s9:Bool×PUnit)=>a7 (Bool×Int×PUnit) (λX10 s11=>aD (decide (s11.2.1<(↑(FS a0).length:Int))) (aP aW (FS a0) (i64.wrap (s11.2.1-1)) λ(y12:cQ)=>aP aW (FS a0) s11.2.1 λ(y13:cQ)=>aD s11.1 (aD (decide (y12.1<y13.1)) (X10 (true,i64.wrap (s11.2.1+1),())) (aD (decide (y12.1=y13.1)) (aD (cY y12.2.1 y13.2.1) (X10 (true,i64.wrap (s11.2.1+1),())) (aD (decide (y12.2.1=y13.2.1)) (X10 (cY y12.2.2 y13.2.2,i64.wrap (s11.2.1+1), ())) (X10 (false,i64.wrap (s11.2.1+1),())))) (X10 (false,i64.wrap (s11.2.1+1),())))) (X10 (false,i64.wrap (s11.2.1+1),()))) (aD (!s11.1) (R (pPP 11)) (a7 ((List (Value×T)×Nat×List Nat×Nat)×PUnit) (λ(X14:(List (Value×T)×Nat×List Nat×Nat)×PUnit->Prop) (s15:(List (Value×T)×Nat×List Nat×Nat)×PUnit)=>bH (decide (s15.1.1.length<=s15.1.2.1) && decide (s15.1.2.1<=s15.1.2.2.2)) (j3 s15.1.1.length s15.1.2.2.1 (b7 Sy.str false Sy.bool [] λ(y16:List (iII×Bool))=>a7 (List (iII×Bool) × (List (Value×T)×Nat×List Nat×Nat)×PUnit) (λ(X17 : List (iII×Bool) × (List (Value×T)×Nat×List Nat×Nat)×PUnit -> Prop) (s18 : List (iII×Bool) × (List (Value×T)×Nat×List Nat×Nat)×PUnit)=>bH (decide (s18.2.1.1.length<=s18.2.1.2.1) && decide (s18.2.1.2.1<=s18.2.1.2.2.2)) (j3 s18.2.1.1.length s18.2.1.2.2.1 (a7 ((List (Value×T)×Nat×List Nat×Nat)×PUnit) (λ(X19 : (List (Value×T)×Nat×List Nat×Nat)×PUnit->Prop) (s20:(List (Value×T)×Nat×List Nat×Nat)×PUnit)=>bH (decide (s20.1.1.length<=s20.1.2.1) && decide (s20.1.2.1<=s20.1.2.2.2)) (j3 s20.1.1.length s20.1.2.2.1 (b7 Sy.str false Sy.bool (List.map (a8 Sy.str false Sy.bool) s18.1) λ(y21:List (iII×Bool))=>a7 (List (iII×Bool) × (List (Value×T)×Nat×List Nat×Nat)×PUnit) (λ(X22 : List (iII×Bool) × (List (Value×T)×Nat×List Nat×Nat) × PUnit -> Prop) (s23 : List (iII×Bool) × (List (Value×T)×Nat×List Nat×Nat) × PUnit)=>bH (decide (s23.2.1.1.length<=s23.2.1.2.1) && decide (s23.2.1.2.1<=s23.2.1.2.2.2)) (j3 s23.2.1.1.length s23.2.1.2.2.1 (a7 ((List (Value×T)×Nat×List Nat×Nat) × PUnit) (λ(X24 : (List (Value×T) × Nat×List Nat×Nat) × PUnit -> Prop) (s25 : (List (Value×T) × Nat×List Nat×Nat) × PUnit)=>bH (decide (s25.1.1.length<=s25.1.2.1) && decide (s25.1.2.1<=s25.1.2.2.2)) (j3 s25.1.1.length s25.1.2.2.1 (b7 Sy.str false Sy.bool (List.map (a8 Sy.str false Sy.bool) s23.1) λ(y26:List (iII×Bool))=>a7 (List (iII×Bool) × (List (Value×T) × Nat×List Nat×Nat) × PUnit) (λ(X27 : List (iII×Bool) × (List (Value×T) × Nat×List Nat×Nat) × PUnit -> Prop) (s28 : List (iII×Bool) × (List (Value×T) × Nat×List Nat×Nat) × PUnit)=>bH (decide (s28.2.1.1.length <= s28.2.1.2.1) && decide (s28.2.1.2.1 <= s28.2.1.2.2.2)) (j3 s28.2.1.1.length s28.2.1.2.2.1 (a7 ((List (Value×T) × Nat×List Nat×Nat) × PUnit) (λ(X29 : (List (Value×T) × Nat×List Nat×Nat) × PUnit -> Prop) (s30 : (List (Value×T) × Nat×List Nat×Nat) × PUnit)=>bH (decide (s30.1.1.length <= s30.1.2.1) && decide (s30.1.2.1 <= s30.1.2.2.2)) (j3 s30.1.1.length s30.1.2.2.1 (b7 Sy.str false Sy.bool (List.map (a8 Sy.str false Sy.bool) s28.1) λ(y31 : List (iII×Bool))=>a7 (List (iII×Bool) × (List (Value × T) × Nat × List Nat×Nat) × PUnit) (λ(X32 : List (iII × Bool) × (List (Value × T) × Nat × List Nat × Nat) × PUnit -> Prop) (s33 : List (iII × Bool) × (List (Value × T) × Nat × List Nat × Nat) × PUnit)=>bH (decide (s33.2.1.1.length <= s33.2.1.2.1) && decide (s33.2.1.2.1 <= s33.2.1.2.2.2)) (j3 s33.2.1.1.length s33.2.1.2.2.1 (R (pPP 0)) λ(i34:Nat)=>bH (decide (s33.2.1.1.length = s33.2.1.1.length)) (o7 Sy.str false bF (rI s33.2.1.1) (s33.2.1.2.2.1 ++ [i34]) λ(k35 : iII) (y36:Int)=>dS (Option (Nat × D)) (findD TypeDesc.string (LJ Sy.str k35) (List.map (a8 Sy.str false Sy.bool) s33.1) 0) λ(y37 : Option (Nat × D))=>b7 Sy.str false Sy.bool (dB (List.map (a8 Sy.str false Sy.bool) s33.1) y37 (Value.string k35) (D.p d6)) λ(y38 : List (iII × Bool))=>X32 (y38, (s33.2.1.1, s33.2.1.2.1, s33.2.1.2.2.1 ++ [i34], s33.2.1.1.length), ())))) (y31, (bN m4, (bN m4).length, [], (bN m4).length), ())) λ(i39:Nat)=>bH (decide (s30.1.1.length = s30.1.1.length)) (o7 Sy.str false bF (rI s30.1.1) (s30.1.2.2.1 ++ [i39]) λ(k40:iII) (y41:Int)=>dJ TypeDesc.string (Value.string k40) (List.map (a8 Sy.str false Sy.bool) s28.1) false Sy.bool (X29 ((s30.1.1, s30.1.2.1, s30.1.2.2.1 ++ [i39], s30.1.1.length), ())) λ(i42:Nat) (y43:Bool)=>aD y43 (R (pPP 7)) (X29 ((s30.1.1, s30.1.2.1, s30.1.2.2.1 ++ [i39], s30.1.1.length), ()))))) ((bN m4, (bN m4).length,[], (bN m4).length), ())) λ(i44:Nat)=>bH (decide (s28.2.1.1.length = s28.2.1.1.length)) (o7 Sy.str false bF (rI s28.2.1.1) (s28.2.1.2.2.1++[i44]) λ(k45:iII) (y46:Int)=>dS (Option (Nat×D)) (findD TypeDesc.string (LJ Sy.str k45) (List.map (a8 Sy.str false Sy.bool) s28.1) 0) λ(y47 : Option (Nat×D))=>b7 Sy.str false Sy.bool (dB (List.map (a8 Sy.str false Sy.bool) s28.1) y47 (Value.string k45) (D.p d6)) λ(y48 : List (iII×Bool))=>X27 (y48, (s28.2.1.1, s28.2.1.2.1, s28.2.1.2.2.1 ++ [i44], s28.2.1.1.length), ())))) (y26, (bN m3,(bN m3).length,[], (bN m3).length), ())) λ(i49:Nat)=>bH (decide (s25.1.1.length=s25.1.1.length)) (o7 Sy.str false bF (rI s25.1.1) (s25.1.2.2.1++[i49]) λ(k50:iII) (y51:Int)=>dJ TypeDesc.string (Value.string k50) (List.map (a8 Sy.str false Sy.bool) s23.1) false Sy.bool (X24 ((s25.1.1,s25.1.2.1, s25.1.2.2.1++[i49], s25.1.1.length), ())) λ(i52:Nat) (y53:Bool)=>aD y53 (R (pPP 7)) (X24 ((s25.1.1,s25.1.2.1, s25.1.2.2.1++[i49], s25.1.1.length), ()))))) ((bN m3,(bN m3).length,[], (bN m3).length), ())) λ(i54:Nat)=>bH (decide (s23.2.1.1.length=s23.2.1.1.length)) (o7 Sy.str false bF (rI s23.2.1.1) (s23.2.1.2.2.1++[i54]) λ(k55:iII) (y56:Int)=>dS (Option (Nat×D)) (findD TypeDesc.string (LJ Sy.str k55) (List.map (a8 Sy.str false Sy.bool) s23.1) 0) λ(y57:Option (Nat×D))=>b7 Sy.str false Sy.bool (dB (List.map (a8 Sy.str false Sy.bool) s23.1) y57 (Value.string k55) (D.p d6)) λ(y58:List (iII×Bool))=>X22 (y58, (s23.2.1.1,s23.2.1.2.1, s23.2.1.2.2.1++[i54], s23.2.1.1.length), ())))) (y21, (bN m2,(bN m2).length,[], (bN m2).length), ())) λ(i59:Nat)=>bH (decide (s20.1.1.length=s20.1.1.length)) (o7 Sy.str false bF (rI s20.1.1) (s20.1.2.2.1++[i59]) λ(k60:iII) (y61:Int)=>dJ TypeDesc.string (Value.string k60) (List.map (a8 Sy.str false Sy.bool) s18.1) false Sy.bool (X19 ((s20.1.1,s20.1.2.1, s20.1.2.2.1++[i59],s20.1.1.length), ())) λ(i62:Nat) (y63:Bool)=>aD y63 (R (pPP 7)) (X19 ((s20.1.1,s20.1.2.1, s20.1.2.2.1++[i59],s20.1.1.length), ()))))) ((bN m2,(bN m2).length,[],(bN m2).length),())) λ(i64:Nat)=>bH (decide (s18.2.1.1.length=s18.2.1.1.length)) (o7 Sy.str false bF (rI s18.2.1.1) (s18.2.1.2.2.1++[i64]) λ(k65:iII) (y66:Int)=>dS (Option (Nat×D)) (findD TypeDesc.string (LJ Sy.str k65) (List.map (a8 Sy.str false Sy.bool) s18.1) 0) λ(y67:Option (Nat×D))=>b7 Sy.str false Sy.bool (dB (List.map (a8 Sy.str false Sy.bool) s18.1) y67 (Value.string k65) (D.p d6)) λ(y68:List (iII×Bool))=>X17 (y68, (s18.2.1.1,s18.2.1.2.1, s18.2.1.2.2.1++[i64],s18.2.1.1.length), ())))) (y16,(bN m1,(bN m1).length,[],(bN m1).length),())) λ(i69:Nat)=>bH (decide (s15.1.1.length=s15.1.1.length)) (o7 Sy.str false bF (rI s15.1.1) (s15.1.2.2.1++[i69]) λ(k70:iII) (y71:Int)=>dJ TypeDesc.string (Value.string k70) [] false Sy.bool (X14 ((s15.1.1,s15.1.2.1,s15.1.2.2.1++[i69], s15.1.1.length), ())) λ(i72:Nat) (y73:Bool)=>aD y73 (R (pPP 7)) (X14 ((s15.1.1,s15.1.2.1,s15.1.2.2.1++[i69], s15.1.1.length), ()))))) ((bN m1,(bN m1).length,[],(bN m1).length),())))) (s9.1,1,()))))))
def ASE ( a0 m1 m2 m3 m4 R):dV bS Tryz.prog AG8 A1T 8 59 (C4 a0 m1 m2 m3 m4) R=AIO a0 m1 m2 m3 m4 R:=by kernel_rfl
abbrev MP:=List (iII×Int)
def E0 {a b:MP} (h:bN a=bN b):a=b:=map_inj (λx y h=>by
 simp only[Prod.mk.injEq,Value.string.injEq,T.v.injEq,Value.int.injEq,true_and] at h;exact Prod.ext h.1 h.2) h
def rG {x y:aB×MP×MP×MP×MP} (h:R8 x.1 x.2.1 x.2.2.1 x.2.2.2.1 x.2.2.2.2=R8 y.1 y.2.1 y.2.2.1 y.2.2.2.1 y.2.2.2.2):x=y:=by
 simp only[R8,T.ref.injEq,List.cons.injEq,T.mp.injEq,and_true] at h;obtain ⟨h0,h1,h2,h3,h4⟩:=h;exact Prod.ext (Sy.c0 aC _ _ h0) (Prod.ext (E0 h1) (Prod.ext (E0 h2) (Prod.ext (E0 h3) (E0 h4))))
def AGZ (x y:aB×MP×MP×MP×MP) (h:C4 x.1 x.2.1 x.2.2.1 x.2.2.2.1 x.2.2.2.2=C4 y.1 y.2.1 y.2.2.1 y.2.2.2.1 y.2.2.2.2):x=y:=rG (List.cons.inj h).1
def nH (d:aB):Bool:=decide (64<d.2.1.length)||decide (256<d.2.2.1.length)||decide (256<d.2.2.2.1.length)||decide (64<d.2.2.2.2.1.length)||decide (256<d.2.2.2.2.2.length)
def jV (d:aB):Bool:=pZ (ids d.2.1)&&pZ (ids d.2.2.1)&&pZ (ids d.2.2.2.1)&&pZ (ids d.2.2.2.2.1)&&AB5 d.2.2.2.2.2
def BJF (l1 l2 l3 l4:List iII):Bool:=(l2.any (YT l1))||(l3.any λx=>YT l1 x||YT l2 x)||(l4.any λx=>YT l1 x||YT l2 x||YT l3 x)
def ATM (d:aB):Bool:=BJF (ids d.2.1) (ids d.2.2.1) (ids d.2.2.2.1) (ids d.2.2.2.2.1)
def oK (d:aB):Int:=if nH d=true then 4 else if jV d=false then 11 else if ATM d=true then 7 else 0
def BMO (x:aB×MP×MP×MP×MP):Bool:=decide (x.2.1=iT (ids x.1.2.1))&&decide (x.2.2.1=iT (ids x.1.2.2.1))&&decide (x.2.2.2.1=iT (ids x.1.2.2.2.1))&&decide (x.2.2.2.2=iT (ids x.1.2.2.2.2.1)) &&
 (decide (x.1.2.1.length<=140737488355328)&&decide (x.1.2.2.1.length<=140737488355328)&&decide (x.1.2.2.2.1.length<=140737488355328)&&decide (x.1.2.2.2.2.1.length<=140737488355328)&&decide (x.1.2.2.2.2.2.length<=140737488355328))
structure nQ (d:aB):Prop where
 n:d.2.1.length<=140737488355328
 p:d.2.2.1.length<=140737488355328
 s:d.2.2.2.1.length<=140737488355328
 k:d.2.2.2.2.1.length<=140737488355328
 r:d.2.2.2.2.2.length<=140737488355328
def QN {x:aB×MP×MP×MP×MP}:BMO x=true↔x=(x.1,iT (ids x.1.2.1),iT (ids x.1.2.2.1),iT (ids x.1.2.2.2.1),iT (ids x.1.2.2.2.2.1))/\nQ x.1:=by
 obtain ⟨d,a,b,c,e⟩:=x;simp only[BMO,ac,ae,Prod.mk.injEq,true_and];constructor
 ·rintro ⟨⟨⟨⟨rfl,rfl⟩,rfl⟩,rfl⟩,⟨⟨⟨h1,h2⟩,h3⟩,h4⟩,h5⟩;exact ⟨⟨rfl,rfl,rfl,rfl⟩,h1,h2,h3,h4,h5⟩
 ·rintro ⟨⟨rfl,rfl,rfl,rfl⟩,h1,h2,h3,h4,h5⟩;exact ⟨⟨⟨⟨rfl,rfl⟩,rfl⟩,rfl⟩,⟨⟨⟨h1,h2⟩,h3⟩,h4⟩,h5⟩
def w4 (x:aB×MP×MP×MP×MP) (t:T):Option T:=match BMO x with
 | true=>some t
 | false=>none
def oR {x:aB×MP×MP×MP×MP} {t r:T} (h:w4 x t=some r):x=(x.1,iT (ids x.1.2.1),iT (ids x.1.2.2.1),iT (ids x.1.2.2.2.1),iT (ids x.1.2.2.2.2.1))/\nQ x.1/\r=t:=by
 unfold w4 at h;split at h
 ·rename_i hc;cases h;exact ⟨(QN.1 hc).1,(QN.1 hc).2,rfl⟩
 ·cases h
def oS {d:aB} (h:nQ d) (t:T):w4 (d,iT (ids d.2.1),iT (ids d.2.2.1),iT (ids d.2.2.2.1),iT (ids d.2.2.2.2.1)) t=some t:=by
 unfold w4;rw[QN.2 ⟨rfl,h⟩]
def Z1 (x:aB×MP×MP×MP×MP):Option T:=w4 x (T.v (Value.int .i64 (oK x.1)))
def PW:List T->Option (T):=gA (λ(x:aB×(List (iII×Int))×(List (iII×Int))×(List (iII×Int))×List (iII×Int))=>C4 x.1 x.2.1 x.2.2.1 x.2.2.2.1 x.2.2.2.2) Z1
def AUX (a0:aB) (m1:List (iII×Int)) (m2:List (iII×Int)) (m3:List (iII×Int)) (m4:List (iII×Int)):PW (C4 a0 m1 m2 m3 m4)=Z1 (a0,m1,m2,m3,m4):=eR (A:=(λ(x:aB×(List (iII×Int))×(List (iII×Int))×(List (iII×Int))×List (iII×Int))=>C4 x.1 x.2.1 x.2.2.1 x.2.2.2.1 x.2.2.2.2)) AGZ (a0,m1,m2,m3,m4)
def BFB (h:∀ (a0:aB) (m1:List (iII×Int)) (m2:List (iII×Int)) (m3:List (iII×Int)) (m4:List (iII×Int)) (r:T),Z1 (a0,m1,m2,m3,m4)=some r->(∀ t∈C4 a0 m1 m2 m3 m4,Bd t)->AIO a0 m1 m2 m3 m4 (λy=>y=r)):aM Tryz.prog 59 PW :=
 cG (E:=AG8) (Hs:=A1T) AZB aR aU (aL rfl) 8 ⟨_,_,Tryz.func59,rfl⟩ λx r h1 h2=>by
  rw[ASE];exact h x.1 x.2.1 x.2.2.1 x.2.2.2.1 x.2.2.2.2 r h1 h2
def L5 {A:List T} {b:Bool} (h:w9 A=some (pPR b)) (K:Bool->Prop) (hk:K b):aI [(false,Sy.bool)] (w9 A) K:=aH (s:=[(false,Sy.bool)]) (y:=b) h hk
def BDP:aM Tryz.prog 59 PW:=BFB λd m1 m2 m3 m4 r h hb=>by
 obtain ⟨hx,hs,rfl⟩:=oR h;simp only[Prod.mk.injEq,true_and] at hx;obtain ⟨rfl,rfl,rfl,rfl⟩:=hx;clear h;have is:∀ {n:Int},oK d=n->T.v (.int .i64 n)=T.v (.int .i64 (oK d)):=λh=>by rw[h]
 have long:nH d=true->oK d=4:=λh=>by unfold oK;rw[if_pos h]
 unfold AIO i6 f7 GT FS t7 t6 m7 d6 d4 bF;refine bV (λh=>is (long (by rw[ad] at h;simp only[nH,Bool.or_eq_true,ae];omega))) λl1=>?_;refine bV (λh=>is (long (by rw[ad] at h;simp only[nH,Bool.or_eq_true,ae];omega))) λl2=>?_;refine bV (λh=>is (long (by rw[ad] at h;simp only[nH,Bool.or_eq_true,ae];omega))) λl3=>?_;refine bV (λh=>is (long (by rw[ad] at h;simp only[nH,Bool.or_eq_true,ae];omega))) λl4=>?_;refine bV (λh=>is (long (by rw[ad] at h;simp only[nH,Bool.or_eq_true,ae];omega))) λl5=>?_;rw[ad] at l1 l2 l3 l4 l5;have notLong:nH d=false:=by simp only[nH,Bool.or_eq_false_iff,decide_eq_false_iff_not];omega
 refine L5 (by rw[ad];exact BKS hs.n) _ ?_;have step:∀ {b c:Bool} {A:List T} {Z:Bool×PUnit->Prop},w9 A=some (T.v (.bool c))->Z (b&&c,())->sD (Bool×PUnit) (λ(X:Bool×PUnit->Prop)=>aD b (aI [(false,Sy.bool)] (w9 A) λ(y2:Bool)=>X (y2,())) (X (false,()))) Z:=λ{b c A Z} hA hZ=>by
  rw[A6];cases b with
  | true=>rw[kC];exact L5 hA _ hZ
  | false=>rw[nW];exact hZ
 refine step (by rw[ad];exact BKT hs.p) ?_;refine step (by rw[ad];exact BKU hs.s) ?_;refine step (by rw[ad];exact BKV hs.k) ?_;refine bI d.2.2.2.2.2.length (λk s=>∃ b,s=(b,((k+1:Nat):Int),())/\(b&&AB5 (d.2.2.2.2.2.drop k))=jV d) ⟨_,rfl,by rw[List.drop_zero];rfl⟩ ?_;rintro X k s hk ⟨b,rfl,he⟩ hX;dsimp only;have hr:=hs.r;have hw:i64.wrap (((k+1:Nat):Int)+1)=((k+1+1:Nat):Int):=bD _ (by omega) (by omega);have hw1:i64.wrap (((k+1:Nat):Int)-1)=((k:Nat):Int):=by rw[bD _ (by omega) (by omega)];omega
 refine bV (λhlt=>?_) λhge=>?_
 ·have hlt:k+1<d.2.2.2.2.2.length:=by rw[ad] at hlt;omega
  rw[hw1,bC (r:=aW) (show k<d.2.2.2.2.2.length by omega),bC (r:=aW) hlt,hw];rw[AS0 hlt] at he;have go:∀ c,(b&&ltN d.2.2.2.2.2[k] d.2.2.2.2.2[k+1])=c->X (c,((k+1+1:Nat):Int),()):=λc hc=>hX _ (by omega) ⟨c,rfl,by rw[<-hc,Bool.and_assoc];exact he⟩;generalize d.2.2.2.2.2[k]=u at go;generalize d.2.2.2.2.2[k+1]=v at go;cases b with
  | false=>rw[nW];exact go _ rfl
  | true =>
   rw[kC];simp only[Bool.true_and,ltN] at go;refine bV (λh=>go _ (by simp[h])) λh1=>?_;refine bV (λh2=>?_) λh2=>go _ (by simp[h1,h2]);refine IU (λh3=>go _ (by simp[h2,h3])) λh3=>?_;refine bV (λh4=>go _ (by rw[ai h1,ah h2,h3,ah h4];rfl)) λh4=>go _ (by rw[ai h1,ah h2,h3,ai h4];rfl)
 ·rw[ad] at hge;rw[A2T (by omega),Bool.and_true] at he;refine jI (λh=>is (by unfold oK;rw[notLong,if_neg (by simp),<-he,h];rfl)) λh=>?_;have dup:ATM d=true->T.v (.int .i64 7)=T.v (.int .i64 (oK d)):=λh7=>is (by unfold oK;rw[notLong,if_neg (by simp),<-he,h,if_neg (by simp),if_pos h7]);have dup':(∃ i,∃ h:i<(iT (ids d.2.2.1)).length,(iT (ids d.2.2.1))[i].1∈ids d.2.1)\/(∃ i,∃ h:i<(iT (ids d.2.2.2.1)).length,(iT (ids d.2.2.2.1))[i].1∈ids d.2.1\/(iT (ids d.2.2.2.1))[i].1∈ids d.2.2.1)\/(∃ i,∃ h:i<(iT (ids d.2.2.2.2.1)).length,((iT (ids d.2.2.2.2.1))[i].1∈ids d.2.1\/(iT (ids d.2.2.2.2.1))[i].1∈ids d.2.2.1)\/(iT (ids d.2.2.2.2.1))[i].1∈ids d.2.2.2.1)->ATM d=true:=by
   intro h;simp only[ATM,BJF,Bool.or_eq_true,List.any_eq_true,F9];rcases h with ⟨i,hi,h⟩|⟨i,hi,h⟩|⟨i,hi,h⟩
   ·exact .inl (.inl ⟨_,lF.1 ⟨i,hi,rfl⟩,h⟩)
   ·exact .inl (.inr ⟨_,lF.1 ⟨i,hi,rfl⟩,h⟩)
   ·exact .inr ⟨_,lF.1 ⟨i,hi,rfl⟩,h⟩
  have m1:=λid=>(@lF (ids d.2.1) id)
  refine BC0 (m:=iT (ids d.2.1)) (es:=[]) (R7:=T.v (.int .i64 7)=T.v (.int .i64 (oK d))) Seen.nil (λh=>by obtain ⟨_,_,h⟩:=h;exact h.elim) λ_=>?_;refine BCO (m:=iT (ids d.2.1)) (es:=[]) Seen.nil λe1 rs1 s1=>?_;have s1:=s1.congr (S':=λid=>id∈ids d.2.1) λid=>by rw[lF];simp
  refine BC0 (m:=iT (ids d.2.2.1)) s1 (λh=>dup (dup' (.inl h))) λn1=>?_;refine BCO (m:=iT (ids d.2.2.1)) s1 λe2 rs2 s2=>?_;have s2:=s2.congr (S':=λid=>id∈ids d.2.1\/id∈ids d.2.2.1) λid=>by rw[lF]
  refine BC0 (m:=iT (ids d.2.2.2.1)) s2 (λh=>dup (dup' (.inr (.inl h)))) λn2=>?_;refine BCO (m:=iT (ids d.2.2.2.1)) s2 λe3 rs3 s3=>?_;have s3:=s3.congr (S':=λid=>(id∈ids d.2.1\/id∈ids d.2.2.1)\/id∈ids d.2.2.2.1) λid=>by rw[lF]
  refine BC0 (m:=iT (ids d.2.2.2.2.1)) s3 (λh=>dup (dup' (.inr (.inr h)))) λn3=>?_;refine BCO (m:=iT (ids d.2.2.2.2.1)) s3 λe4 rs4 s4=>is ?_;have nd:ATM d=false:=by
   rw[Bool.eq_false_iff];intro h;simp only[ATM,BJF,Bool.or_eq_true,List.any_eq_true,F9] at h;rcases h with (⟨x,hx,h⟩|⟨x,hx,h⟩)|⟨x,hx,h⟩
   ·obtain ⟨i,hi,rfl⟩:=lF.2 hx;exact n1 i hi h
   ·obtain ⟨i,hi,rfl⟩:=lF.2 hx;exact n2 i hi h
   ·obtain ⟨i,hi,rfl⟩:=lF.2 hx;exact n3 i hi h
  unfold oK;rw[notLong,if_neg (by simp),<-he,h,if_neg (by simp),nd,if_neg (by simp)]
end Go.Pv
namespace Go.Pv
open Go Go.Proofs IntKind
def BO9:List T->Option T:=λ_=>none
variable {P:Program}
def aM.nil {f:FuncId} (h:∃ fn,P.funcs[f]? = some fn/\(fn.name == "runtime.NumGoroutine")=false/\fn.body.isNone=false):aM P f BO9:=⟨h,λ_ _ _ _ _ _ _ _ h=>by cases h⟩
def AFK (es:MP):rI (bN es)=List.map (a8 Sy.str false (Sy.int IntKind.i64)) es:=by
 unfold rI bN;rw[List.map_map];rfl
def UO {α:Type} (id:iII):∀ (l:List (iII×α)) (i:Nat) (es:MP),(∃ v,eC es id=some v/\eC (I0 (ids l) i es) id=some v)\/(eC es id=none/\eC (I0 (ids l) i es) id=none/\l.find? (λs=>decide (s.1=id))=none) \/
  (eC es id=none/\∃ k,∃ h:k<l.length,eC (I0 (ids l) i es) id=some ((i+k:Nat):Int)/\l.find? (λs=>decide (s.1=id))=some l[k])
 | [],i,es=>by
  cases h:eC es id with
  | none=>exact .inr (.inl ⟨rfl,by simpa [ids,I0] using h,rfl⟩)
  | some v=>exact .inl ⟨v,rfl,by simpa [ids,I0] using h⟩
 | a::l,i,es=>by
  have hs:ids (a::l)=a.1::ids l:=rfl;rw[hs];simp only[I0];have ih:=UO id l (i+1) (match eC es a.1 with|none=>nK es a.1 (i:Int)|some _=>es);by_cases ha:a.1=id
  ·subst ha;cases hc:eC es a.1 with
   | some v =>
    simp only[hc] at ih ⊢;rcases ih with ⟨v',h1,h2⟩|⟨h1,_⟩|⟨h1,_⟩
    ·exact .inl ⟨v',h1,h2⟩
    ·cases h1
    ·cases h1
   | none =>
    simp only[hc] at ih ⊢;have hg:eC (nK es a.1 (i:Int)) a.1=some (i:Int):=by rw[yJ];simp
    rw[hg] at ih;rcases ih with ⟨v',h1,h2⟩|⟨h1,_⟩|⟨h1,_⟩
    ·cases h1;exact .inr (.inr ⟨by first|rfl|trivial,0,by simp,by simpa using h2,by simp⟩)
    ·cases h1
    ·cases h1
  ·have hg:eC (match eC es a.1 with|none=>nK es a.1 (i:Int)|some _=>es) id=eC es id:=by
    cases hc:eC es a.1 with
    | none=>simp only[yJ,ha,if_false]
    | some v=>rfl
   rw[hg] at ih;rcases ih with ⟨v',h1,h2⟩|⟨h1,h2,h3⟩|⟨h1,k,hk,h2,h3⟩
   ·exact .inl ⟨v',h1,h2⟩
   ·exact .inr (.inl ⟨h1,h2,by rw[List.find?_cons_of_neg (by simpa using ha)];exact h3⟩)
   ·exact .inr (.inr ⟨h1,k+1,by simpa using hk,h2.trans (by congr 2;omega),by rw[List.find?_cons_of_neg (by simpa using ha)];simpa using h3⟩)
variable {α:Type}
def F0 (id:iII) (l:List (iII×α)):(eC (iT (ids l)) id=none/\l.find? (λs=>decide (s.1=id))=none)\/(∃ k,∃ h:k<l.length,eC (iT (ids l)) id=some (k:Int)/\l.find? (λs=>decide (s.1=id))=some l[k]):=by
 rcases UO id l 0 [] with ⟨v,h,_⟩|⟨_,h1,h2⟩|⟨_,k,hk,h1,h2⟩
 ·cases h
 ·exact .inl ⟨h1,h2⟩
 ·exact .inr ⟨k,hk,h1.trans (by rw[Nat.zero_add]),h2⟩
variable {A:Prop}
def ixK {id:iII} {l:List (iII×α)} {B:Nat->Int->Prop} (hA:l.find? (λs=>decide (s.1=id))=none->A) (hB:∀ i k (h:k<l.length),l.find? (λs=>decide (s.1=id))=some l[k]->B i (k:Int)) :
  dJ TypeDesc.string (Value.string id) (rI (bN (iT (ids l)))) false (Sy.int IntKind.i64) A B:=by
 rw[AFK];refine E4 (r:=.int .i64) (λh=>hA ?_) λi v h=>?_
 ·rcases F0 id l with ⟨_,h2⟩|⟨k,hk,h1,_⟩
  ·exact h2
  ·rw[h] at h1;cases h1
 ·rcases F0 id l with ⟨h1,_⟩|⟨k,hk,h1,h2⟩
  ·rw[h] at h1;cases h1
  ·rw[h] at h1;cases h1;exact hB i k hk h2
def mN (a0:aB) (m1:List (iII×Int)) (m2:List (iII×Int)) (m3:List (iII×Int)) (m4:List (iII×Int)) (a5:iII):List T:=[R8 a0 m1 m2 m3 m4,pPQ a5]
def M5:Env:=Env.of []
def ABS:FuncId->Hint:=bT 135 [(3,.inv [.val 1 false .str,.own 6 1 .str,.val 9 false (.int .i64)])] (λ_=>aX)
def AH8:aQ Tryz.prog M5:=.nil _
def N0(a0:aB)(m1:List (iII×Int))(m2:List (iII×Int))(m3:List (iII×Int))(m4:List (iII×Int))(a5:iII)(R:T->Prop):Prop:=a7 (iII×List iII×Int×PUnit) (λX0 s1=>aD (decide (s1.2.2.1<65)) (dJ TypeDesc.string (Value.string s1.1) (rI (bN m1)) false bF (R (T.bX [T.sl false [],pPR false])) λ(i2:Nat) (y3:Int)=>aP aS (t7 a0) y3 λ(y4:cH)=>bH (decide (((List.map Sy.str.enc s1.2.1).length+1)*16<=140737488355328) && decide ((List.map Sy.str.enc s1.2.1).length+1<=140737488355328)) (aD (decide (y4.2.1=1)) (R (T.bX [T.sl false (List.map Sy.str.enc s1.2.1++[[pPQ s1.1]]), pPR true])) (bZ Sy.str (List.map Sy.str.enc s1.2.1++[[pPQ s1.1]]) λ(y5:List iII)=>X0 (y4.2.2,y5,i64.wrap (s1.2.2.1+1),())))) (R (T.bX [T.sl false [],pPR false]))) (a5,[],0,())
def ABJ ( a0 m1 m2 m3 m4 a5 R):dV bS Tryz.prog M5 ABS 8 105 (mN a0 m1 m2 m3 m4 a5) R=N0 a0 m1 m2 m3 m4 a5 R:=by kernel_rfl
def EJ (x y:aB×MP×MP×MP×MP×iII) (h:mN x.1 x.2.1 x.2.2.1 x.2.2.2.1 x.2.2.2.2.1 x.2.2.2.2.2=mN y.1 y.2.1 y.2.2.1 y.2.2.2.1 y.2.2.2.2.1 y.2.2.2.2.2):x=y:=by
 obtain ⟨h1,h2⟩:=List.cons.inj h;have:=rG (x:=(x.1,x.2.1,x.2.2.1,x.2.2.2.1,x.2.2.2.2.1)) (y:=(y.1,y.2.1,y.2.2.1,y.2.2.2.1,y.2.2.2.2.1)) h1;simp only[List.cons.injEq,T.v.injEq,Value.string.injEq,and_true] at h2;simp only[Prod.mk.injEq] at this;obtain ⟨e1,e2,e3,e4,e5⟩:=this;exact Prod.ext e1 (Prod.ext e2 (Prod.ext e3 (Prod.ext e4 (Prod.ext e5 h2))))
def J7 (x:aB×MP×MP×MP×MP×iII):Option T:=w4 (x.1,x.2.1,x.2.2.1,x.2.2.2.1,x.2.2.2.2.1) (Sh.enc [(false,.li .str),(false,.bool)] (up x.1 x.2.2.2.2.2))
def lE:List T->Option (T):=gA (λ(x:aB×(List (iII×Int))×(List (iII×Int))×(List (iII×Int))×(List (iII×Int))×iII)=>mN x.1 x.2.1 x.2.2.1 x.2.2.2.1 x.2.2.2.2.1 x.2.2.2.2.2) J7
def AE0 (a0:aB) (m1:List (iII×Int)) (m2:List (iII×Int)) (m3:List (iII×Int)) (m4:List (iII×Int)) (a5:iII):lE (mN a0 m1 m2 m3 m4 a5)=J7 (a0,m1,m2,m3,m4,a5):=eR (A:=(λ(x:aB×(List (iII×Int))×(List (iII×Int))×(List (iII×Int))×(List (iII×Int))×iII)=>mN x.1 x.2.1 x.2.2.1 x.2.2.2.1 x.2.2.2.2.1 x.2.2.2.2.2)) EJ (a0,m1,m2,m3,m4,a5)
def AWU (h:∀ (a0:aB) (m1:List (iII×Int)) (m2:List (iII×Int)) (m3:List (iII×Int)) (m4:List (iII×Int)) (a5:iII) (r:T),J7 (a0,m1,m2,m3,m4,a5)=some r->(∀ t∈mN a0 m1 m2 m3 m4 a5,Bd t)->N0 a0 m1 m2 m3 m4 a5 (λy=>y=r)):aM Tryz.prog 105 lE :=
 cG (E:=M5) (Hs:=ABS) AH8 aR aU (aL rfl) 8 ⟨_,_,Tryz.func105,rfl⟩ λx r h1 h2=>by
  rw[ABJ];exact h x.1 x.2.1 x.2.2.1 x.2.2.2.1 x.2.2.2.2.1 x.2.2.2.2.2 r h1 h2
def T7:aM Tryz.prog 105 lE:=AWU λd m1 m2 m3 m4 id0 r h hb=>by
 obtain ⟨hx,hs,rfl⟩:=oR h;simp only[Prod.mk.injEq,true_and] at hx;obtain ⟨rfl,rfl,rfl,rfl⟩:=hx;clear h;unfold N0 t7 bF;refine bI 65 (λk s=>∃ id' l',s=(id',l',(k:Int),())/\l'.length=k/\upF d (65-k) id' l'=up d id0) ⟨id0,[],rfl,rfl,rfl⟩ ?_;rintro X k s hk ⟨id',l',rfl,hl,hu⟩ hX;dsimp only;have stop:up d id0=([],false)->T.bX [T.sl false [],T.v (.bool false)]=Sh.enc [(false,.li .str),(false,.bool)] (up d id0):=λh=>by rw[h];rfl
 refine bV (λhlt=>?_) λhge=>stop ?_
 ·have hlt:k<65:=by omega
  obtain ⟨m,hm⟩:∃ m,65-k=m+1:=⟨64-k,by omega⟩
  rw[hm] at hu;simp only[upF] at hu;refine ixK (λhn=>stop ?_) λi j hj hn=>?_
  ·have hn:eV d id'=none:=hn;rw[hn] at hu;exact hu.symm
  ·have hn:eV d id'=some d.2.1[j]:=hn;simp only[hn] at hu;rw[bC (r:=aS) hj,AJJ (by omega),OW];refine bV (λh1=>?_) λh1=>?_
   ·rw[if_pos h1] at hu;rw[<-hu,A3S];rfl
   ·rw[if_neg h1] at hu;exact hX _ hlt ⟨_,_,by rw[show i64.wrap ((k:Int)+1)=((k+1:Nat):Int) from bD _ (by omega) (by omega)],by simp[hl],by rw[<-hu];congr 1;omega⟩
 ·have:65-k=0:=by omega
  rw[this] at hu;exact hu.symm
def pF (d:aB) (n:cH):Int:=if pT n.1=false then 6 else if ¬ n.2.1=1/\¬ n.2.1=2 then 10 else if n.2.1=1/\¬ n.2.2 = { data:=#[] } then 2 else if n.2.1=2/\(eV d n.2.2).isNone=true then 8 else 0
def A7C (d:aB):Bool:=d.2.1.any λn=>!(up d n.1).2
def A3F (d:aB):Bool:=d.2.1.any λn=>decide (8<(up d n.1).1.length)
def kD (d:aB):Int:=if cF (pF d) d.2.1=0 then (if A7C d=true then 20 else if A3F d=true then 13 else 0) else cF (pF d) d.2.1
def qJ (a0:aB) (m1:List (iII×Int)) (m2:List (iII×Int)) (m3:List (iII×Int)) (m4:List (iII×Int)):List T:=[R8 a0 m1 m2 m3 m4]
def MZ:Env:=Env.of [(82,.pure eU),(105,.pure lE)]
def ABM:FuncId->Hint:=bT 60 [(2,.inv [.val 20 false (.int .i64)]),(16,.inv [.val 7 false .bool,.val 74 false (.int .i64)])] (λ_=>aX)
def AHH:aQ Tryz.prog MZ:=.cons E7 (.cons T7 (.nil _))
def m8(R:T->Prop):Prop:=R (pPP 8)
def BQZ(R:T->Prop):Prop:=R (pPP 2)
def BQ0:T:=pPP 10
def BQ2(R:T->Prop):Prop:=R (pPP 6)
def BQ6(R:T->Prop):Prop:=R (pPP 0)
def BQ8(y2:cH)(R:T->Prop)(X0:Int×PUnit->Prop)(s1:Int×PUnit):Prop:=aD (decide (y2.2.1=1)) (aD (!decide (y2.2.2 = {data:=#[]})) (BQZ R) (aD (decide (y2.2.1=2)) (f9 X0 s1) (f9 X0 s1))) (aD (decide (y2.2.1=2)) (f9 X0 s1) (f9 X0 s1))
def BRB(y2:cH)(R:T->Prop)(X0:Int×PUnit->Prop)(s1:Int×PUnit):Prop:=aD (decide (y2.2.1=1)) (aD (!decide (y2.2.2 = {data:=#[]})) (BQZ R) (aD (decide (y2.2.1=2)) (m8 R) (f9 X0 s1))) (aD (decide (y2.2.1=2)) (m8 R) (f9 X0 s1))
def M7(a0:aB)(m1:List (iII×Int))(m2:List (iII×Int))(m3:List (iII×Int))(m4:List (iII×Int))(R:T->Prop):Prop:=a7 (Int×PUnit) (λX0 s1=>aD (decide (s1.1<(↑(t7 a0).length:Int))) (aP aS (t7 a0) s1.1 λ(y2:cH)=>dJ TypeDesc.string (Value.string y2.2.2) (rI (bN m1)) false bF (aI d4 (eU [pPQ y2.1]) λ(y6:Bool)=>aD (!y6) (BQ2 R) (aD (!decide (y2.2.1=1)) (aD (!decide (y2.2.1=2)) (R BQ0) (BRB y2 R X0 s1)) (BRB y2 R X0 s1))) λ(i3:Nat) (y4:Int)=>aI d4 (eU [pPQ y2.1]) λ(y5:Bool)=>aD (!y5) (BQ2 R) (aD (!decide (y2.2.1=1)) (aD (!decide (y2.2.1=2)) (R BQ0) (BQ8 y2 R X0 s1)) (BQ8 y2 R X0 s1))) (a7 (Bool×Int×PUnit) (λX7 s8=>aD (decide (s8.2.1<(↑(t7 a0).length:Int))) (aP aS (t7 a0) s8.2.1 λ(y9:cH)=>aI [(false,Sy.str.li),(false,Sy.bool)] (lE [T.ref [T.ref (i6 a0), T.mp (bN m1),T.mp (bN m2),T.mp (bN m3), T.mp (bN m4)], pPQ y9.1]) λ(y10:List iII×Bool)=>aD (!y10.2) (R (pPP 20)) (aD s8.1 (X7 (true,i64.wrap (s8.2.1+1),())) (X7 (decide (8<(↑(List.map Sy.str.enc y10.1).length:Int)), i64.wrap (s8.2.1+1),())))) (aD s8.1 (R (pPP 13)) (BQ6 R))) (false,0,()))) (0,())
def ABE ( a0 m1 m2 m3 m4 R):dV bS Tryz.prog MZ ABM 8 60 (qJ a0 m1 m2 m3 m4) R=M7 a0 m1 m2 m3 m4 R:=by kernel_rfl
def VU (x y:aB×MP×MP×MP×MP) (h:qJ x.1 x.2.1 x.2.2.1 x.2.2.2.1 x.2.2.2.2=qJ y.1 y.2.1 y.2.2.1 y.2.2.2.1 y.2.2.2.2):x=y:=rG (List.cons.inj h).1
def JW (x:aB×MP×MP×MP×MP):Option T:=w4 x (T.v (Value.int .i64 (kD x.1)))
def xX:List T->Option (T):=gA (λ(x:aB×(List (iII×Int))×(List (iII×Int))×(List (iII×Int))×List (iII×Int))=>qJ x.1 x.2.1 x.2.2.1 x.2.2.2.1 x.2.2.2.2) JW
def ADE (a0:aB) (m1:List (iII×Int)) (m2:List (iII×Int)) (m3:List (iII×Int)) (m4:List (iII×Int)):xX (qJ a0 m1 m2 m3 m4)=JW (a0,m1,m2,m3,m4):=eR (A:=(λ(x:aB×(List (iII×Int))×(List (iII×Int))×(List (iII×Int))×List (iII×Int))=>qJ x.1 x.2.1 x.2.2.1 x.2.2.2.1 x.2.2.2.2)) VU (a0,m1,m2,m3,m4)
def AV3 (h:∀ (a0:aB) (m1:List (iII×Int)) (m2:List (iII×Int)) (m3:List (iII×Int)) (m4:List (iII×Int)) (r:T),JW (a0,m1,m2,m3,m4)=some r->(∀ t∈qJ a0 m1 m2 m3 m4,Bd t)->M7 a0 m1 m2 m3 m4 (λy=>y=r)):aM Tryz.prog 60 xX :=
 cG (E:=MZ) (Hs:=ABM) AHH aR aU (aL rfl) 8 ⟨_,_,Tryz.func60,rfl⟩ λx r h1 h2=>by
  rw[ABE];exact h x.1 x.2.1 x.2.2.1 x.2.2.2.1 x.2.2.2.2 r h1 h2
def KU {d:aB} (hs:nQ d) (id:iII):lE (mN d (iT (ids d.2.1)) (iT (ids d.2.2.1)) (iT (ids d.2.2.2.1)) (iT (ids d.2.2.2.2.1)) id)=some (Sh.enc [(false,.li .str),(false,.bool)] (up d id)):=by
 rw[AE0];exact oS hs _
def nV (s:iII) (K:Bool->Prop):aI [(false,Sy.bool)] (eU [pPQ s]) K=K (pT s):=by
 rw[show eU [pPQ s]=G0 s from UE];exact AF9 _ K
def ATZ:aM Tryz.prog 60 xX:=AV3 λd m1 m2 m3 m4 r h hb=>by
 obtain ⟨hx,hs,rfl⟩:=oR h;simp only[Prod.mk.injEq,true_and] at hx;obtain ⟨rfl,rfl,rfl,rfl⟩:=hx;clear h;have is:∀ {n:Int},kD d=n->T.v (.int .i64 n)=T.v (.int .i64 (kD d)):=λh=>by rw[h]
 unfold M7 BRB BQ8 BQ6 i6 f9 BQ2 BQ0 BQZ m8 GT FS t7 t6 m7 d4 bF;refine qT (r:=aS) (pF d) hs.n (λX s y hy hok hbad=>?_) λh0=>?_
 ·have bad:∀ {n:Int},n≠0->pF d y=n->T.v (.int .i64 n)=T.v (.int .i64 (kD d)):=λhn h=>is (by
   have:=hbad (by rw[h];exact hn);unfold kD;rw[if_neg (by rw[this,h];exact hn),this,h])
  have tail:∀ {Z2 Z:Prop},pT y.1=true->(y.2.1=2->Z2)->(pF d y=0->Z) ->
   aD (!decide (y.2.1=1))
        (aD (!decide (y.2.1=2)) (T.v (.int .i64 10)=T.v (.int .i64 (kD d)))
         (aD (decide (y.2.1=1))
          (aD (!decide (y.2.2 = { data:=#[] })) (T.v (.int .i64 2)=T.v (.int .i64 (kD d)))
           (aD (decide (y.2.1=2)) Z2 Z))
          (aD (decide (y.2.1=2)) Z2 Z)))
        (aD (decide (y.2.1=1))
         (aD (!decide (y.2.2 = { data:=#[] })) (T.v (.int .i64 2)=T.v (.int .i64 (kD d)))
          (aD (decide (y.2.1=2)) Z2 Z))
         (aD (decide (y.2.1=2)) Z2 Z)):=by
   intro Z2 Z hid h2 h1;refine lA (λg1=>?_) λg1=>?_
   ·refine lA (λg2=>bad (by decide) (by unfold pF;rw[if_neg (by simp[hid]),if_pos ⟨g1,g2⟩])) λg2=>?_;refine bV (λh=>absurd h g1) λ_=>?_;exact bV (λ_=>h2 g2) λh=>absurd g2 h
   ·refine bV (λ_=>?_) λh=>absurd g1 h;refine lA (λg3=>bad (by decide) (by unfold pF;rw[if_neg (by simp[hid]),if_neg (by simp[g1]),if_pos ⟨g1,g3⟩])) λg3=>?_;exact bV (λh=>by rw[g1] at h;cases h) λh=>h1 (by unfold pF;rw[if_neg (by simp[hid]),if_neg (by simp[g1]),if_neg (by simp[g3]),if_neg (by simp[h])])
  refine ixK (λhn=>?_) λi j hj hn=>?_
  ·have hn:eV d y.2.2=none:=hn;rw[nV];refine jI (λhid=>bad (by decide) (by unfold pF;rw[if_pos hid])) λhid=>?_;refine tail hid (λh2=>bad (by decide) ?_) λh0=>hok h0;unfold pF;rw[if_neg (by simp[hid]),if_neg (by simp[h2]),if_neg (by simp[h2]),if_pos ⟨h2,by rw[hn];rfl⟩]
  ·have hn:eV d y.2.2=some d.2.1[j]:=hn;rw[nV];refine jI (λhid=>bad (by decide) (by unfold pF;rw[if_pos hid])) λhid=>?_;refine tail hid (λh2=>hok ?_) λh0=>hok h0;unfold pF;rw[if_neg (by simp[hid]),if_neg (by simp[h2]),if_neg (by simp[h2]),if_neg (by simp[hn])]
 ·have hn:d.2.1.length<=140737488355328:=hs.n;refine bI d.2.1.length (λk s=>s=((d.2.1.take k).any (λn=>decide (8<(up d n.1).1.length)),(k:Int),())/\∀ n∈d.2.1.take k,(up d n.1).2=true) ⟨rfl,by simp⟩ ?_;rintro X k s hk ⟨rfl,hall⟩ hX;dsimp only;refine bV (λhlt=>?_) λhge=>?_
  ·rw[ad] at hlt;have hlt:k<d.2.1.length:=by omega
   rw[bC (r:=aS) hlt];refine aH (s:=[(false,.li .str),(false,.bool)]) (KU hs d.2.1[k].1) ?_;have ht:d.2.1.take (k+1)=d.2.1.take k++[d.2.1[k]]:=List.take_succ_eq_append_getElem hlt;have hw:i64.wrap ((k:Int)+1)=((k+1:Nat):Int):=bD _ (by omega) (by omega);refine jI (λhu=>is ?_) λhu=>?_
   ·unfold kD;rw[if_pos h0,if_pos (show A7C d=true from List.any_eq_true.2 ⟨_,aj hlt,by rw[hu];rfl⟩)]
   ·have hall':∀ n∈d.2.1.take (k+1),(up d n.1).2=true:=λn hm=>by
     rw[ht] at hm;rcases List.mem_append.1 hm with h|h
     ·exact hall n h
     ·simp at h;subst h;exact hu
    refine IU (λhd=>?_) λhd=>?_
    ·refine hX _ hlt ⟨?_,hall'⟩;rw[hw,ht,List.any_append,hd];rfl
    ·refine hX _ hlt ⟨?_,hall'⟩;rw[hw,ht,List.any_append,hd];simp only[ad,List.any_cons,List.any_nil,Bool.or_false,Bool.false_or,Prod.mk.injEq,and_true]
     congr 1
     exact propext ⟨λh=>by omega,λh=>by omega⟩
  ·rw[ad] at hge;have:k=d.2.1.length:=by omega
   subst this;rw[List.take_length] at hall ⊢;have hnu:A7C d=false:=by
    rw[Bool.eq_false_iff];intro h;obtain ⟨n,hm,h⟩:=List.any_eq_true.1 h;rw[hall n hm] at h;cases h
   refine IU (λh=>is ?_) λh=>is ?_
   ·unfold kD;rw[if_pos h0,hnu,if_neg (by simp),if_pos (show A3F d=true from h)]
   ·unfold kD;rw[if_pos h0,hnu,if_neg (by simp),if_neg (by rw[show A3F d=false from h];simp)]
end Go.Pv
namespace Go.Pv
open Go Go.Proofs IntKind
def rE (d:aB) (s:cJ):Int:=if pT s.1=false\/pT s.2.1=false\/pT s.2.2.1=false then 6 else if s.2.1=s.2.2.1 then 2 else if ¬ s.2.2.2.1=1/\¬ s.2.2.2.1=2 then 10 else if s.2.2.2.2.1<1\/32768<s.2.2.2.2.1\/s.2.2.2.2.2<1\/3<s.2.2.2.2.2 then 9 else if (partOf d s.2.1).isNone=true\/(partOf d s.2.2.1).isNone=true then 8 else 0
def qK (a0:aB) (m1:List (iII×Int)) (m2:List (iII×Int)) (m3:List (iII×Int)) (m4:List (iII×Int)):List T:=[R8 a0 m1 m2 m3 m4]
def M0:Env:=Env.of [(82,.pure eU)]
def ABN:FuncId->Hint:=bT 62 [(2,.inv [.val 17 false (.int .i64)])] (λ_=>aX)
def AHI:aQ Tryz.prog M0:=.cons E7 (.nil _)
def t8(R:T->Prop):Prop:=R (pPP 9)
def AIG(y2:cJ)(R:T->Prop):Prop:=aD (decide (y2.2.2.2.2.1<1)) (t8 R) (aD (decide (32768<y2.2.2.2.2.1)) (t8 R) (aD (decide (y2.2.2.2.2.2<1)) (t8 R) (aD (decide (3<y2.2.2.2.2.2)) (t8 R) (m8 R))))
def f8(y2:cJ)(R:T->Prop):Prop:=aI d4 (eU [pPQ y2.1]) λ(y15:Bool)=>aD (!y15) (BQ2 R) (aI d4 (eU [pPQ y2.2.1]) λ(y16:Bool)=>aD (!y16) (BQ2 R) (aI d4 (eU [pPQ y2.2.2.1]) λ(y17:Bool)=>aD (!y17) (BQ2 R) (aD (decide (y2.2.1=y2.2.2.1)) (BQZ R) (aD (!decide (y2.2.2.2.1=1)) (aD (!decide (y2.2.2.2.1=2)) (R BQ0) (AIG y2 R)) (AIG y2 R)))))
def BQ7(y2:cJ)(R:T->Prop)(X0:Int×PUnit->Prop)(s1:Int×PUnit):Prop:=aD (decide (y2.2.2.2.2.1<1)) (t8 R) (aD (decide (32768<y2.2.2.2.2.1)) (t8 R) (aD (decide (y2.2.2.2.2.2<1)) (t8 R) (aD (decide (3<y2.2.2.2.2.2)) (t8 R) (f9 X0 s1))))
def M8(a0:aB)(m1:List (iII×Int))(m2:List (iII×Int))(m3:List (iII×Int))(m4:List (iII×Int))(R:T->Prop):Prop:=a7 (Int×PUnit) (λX0 s1=>aD (decide (s1.1<(↑(t6 a0).length:Int))) (aP aV (t6 a0) s1.1 λ(y2:cJ)=>dJ TypeDesc.string (Value.string y2.2.1) (rI (bN m2)) false bF (dJ TypeDesc.string (Value.string y2.2.2.1) (rI (bN m2)) false bF (f8 y2 R) λ(i13:Nat) (y14:Int)=>f8 y2 R) λ(i3:Nat) (y4:Int)=>dJ TypeDesc.string (Value.string y2.2.2.1) (rI (bN m2)) false bF (f8 y2 R) λ(i5:Nat) (y6:Int)=>aI d4 (eU [pPQ y2.1]) λ(y7:Bool)=>aD (!y7) (BQ2 R) (aI d4 (eU [pPQ y2.2.1]) λ(y8:Bool)=>aD (!y8) (BQ2 R) (aI d4 (eU [pPQ y2.2.2.1]) λ(y9:Bool)=>aD (!y9) (BQ2 R) (aD (decide (y2.2.1=y2.2.2.1)) (BQZ R) (aD (!decide (y2.2.2.2.1=1)) (aD (!decide (y2.2.2.2.1=2)) (R BQ0) (BQ7 y2 R X0 s1)) (BQ7 y2 R X0 s1)))))) (BQ6 R)) (0,())
def ABF ( a0 m1 m2 m3 m4 R):dV bS Tryz.prog M0 ABN 8 62 (qK a0 m1 m2 m3 m4) R=M8 a0 m1 m2 m3 m4 R:=by kernel_rfl
def VV (x y:aB×MP×MP×MP×MP) (h:qK x.1 x.2.1 x.2.2.1 x.2.2.2.1 x.2.2.2.2=qK y.1 y.2.1 y.2.2.1 y.2.2.2.1 y.2.2.2.2):x=y:=rG (List.cons.inj h).1
def JX (x:aB×MP×MP×MP×MP):Option T:=w4 x (T.v (Value.int .i64 (cF (rE x.1) x.1.2.2.2.1)))
def xY:List T->Option (T):=gA (λ(x:aB×(List (iII×Int))×(List (iII×Int))×(List (iII×Int))×List (iII×Int))=>qK x.1 x.2.1 x.2.2.1 x.2.2.2.1 x.2.2.2.2) JX
def ADF (a0:aB) (m1:List (iII×Int)) (m2:List (iII×Int)) (m3:List (iII×Int)) (m4:List (iII×Int)):xY (qK a0 m1 m2 m3 m4)=JX (a0,m1,m2,m3,m4):=eR (A:=(λ(x:aB×(List (iII×Int))×(List (iII×Int))×(List (iII×Int))×List (iII×Int))=>qK x.1 x.2.1 x.2.2.1 x.2.2.2.1 x.2.2.2.2)) VV (a0,m1,m2,m3,m4)
def AV4 (h:∀ (a0:aB) (m1:List (iII×Int)) (m2:List (iII×Int)) (m3:List (iII×Int)) (m4:List (iII×Int)) (r:T),JX (a0,m1,m2,m3,m4)=some r->(∀ t∈qK a0 m1 m2 m3 m4,Bd t)->M8 a0 m1 m2 m3 m4 (λy=>y=r)):aM Tryz.prog 62 xY :=
 cG (E:=M0) (Hs:=ABN) AHI aR aU (aL rfl) 8 ⟨_,_,Tryz.func62,rfl⟩ λx r h1 h2=>by
  rw[ABF];exact h x.1 x.2.1 x.2.2.1 x.2.2.2.1 x.2.2.2.2 r h1 h2
def AT0:aM Tryz.prog 62 xY:=AV4 λd m1 m2 m3 m4 r h hb=>by
 obtain ⟨hx,hs,rfl⟩:=oR h;simp only[Prod.mk.injEq,true_and] at hx;obtain ⟨rfl,rfl,rfl,rfl⟩:=hx;replace hs:nQ d:=hs;clear h;unfold M8 BQ7 BQ6 f9 f8 BQ2 BQ0 BQZ AIG t8 m8 t6 d4 bF;refine qT (r:=aV) (rE d) hs.s (λX s y hy hok hbad=>?_) λh0=>?_
 ·have bad:∀ {n:Int},n≠0->rE d y=n->pPP n=pPP (cF (rE d) d.2.2.2.1):=λhn h=>by
   rw[hbad (by rw[h];exact hn),h]
  clear hbad hb
  repeat' first
   | refine ixK (λhn=>?_) (λi j hj hn=>?_)
   | rw[nV]
   | refine lA (λh=>?_) (λh=>?_)
   | refine bV (λh=>?_) (λh=>?_)
   | refine jI (λh=>?_) (λh=>?_)
  all_goals first
   | (exfalso;omega)
   | (refine bad (by decide) ?_;clear bad hok;unfold rE;simp[*,partOf,iB];done)
   | (refine hok ?_;clear bad hok;unfold rE;simp[*,partOf,iB];done)
 ·show _=pPP (cF (rE d) d.2.2.2.1);rw[h0]
def rR (a0:aB) (m1:List (iII×Int)) (m2:List (iII×Int)) (m3:List (iII×Int)) (m4:List (iII×Int)) (a5:iII):List T:=[R8 a0 m1 m2 m3 m4,pPQ a5]
def V2:Env:=Env.of []
def AOD:FuncId->Hint:=λ_=>aX
def ARW:aQ Tryz.prog V2:=.nil _
def WJ(a0:aB)(m1:List (iII×Int))(m2:List (iII×Int))(m3:List (iII×Int))(m4:List (iII×Int))(a5:iII)(R:T->Prop):Prop:=dJ TypeDesc.string (Value.string a5) (rI (bN m1)) false bF (R d3) λ(i0:Nat) (y1:Int)=>aP aS (t7 a0) y1 λ(y2:cH)=>R (pPR (decide (y2.2.1=1)))
def AIR ( a0 m1 m2 m3 m4 a5 R):dV bS Tryz.prog V2 AOD 8 108 (rR a0 m1 m2 m3 m4 a5) R=WJ a0 m1 m2 m3 m4 a5 R:=by kernel_rfl
def yP (d:aB) (id:iII):Bool:=match eV d id with
 | some n=>decide (n.2.1=1)
 | none=>false
def AAU (x y:aB×MP×MP×MP×MP×iII) (h:rR x.1 x.2.1 x.2.2.1 x.2.2.2.1 x.2.2.2.2.1 x.2.2.2.2.2=rR y.1 y.2.1 y.2.2.1 y.2.2.2.1 y.2.2.2.2.1 y.2.2.2.2.2):x=y:=EJ x y h
def RX (x:aB×MP×MP×MP×MP×iII):Option T:=w4 (x.1,x.2.1,x.2.2.1,x.2.2.2.1,x.2.2.2.2.1) (pPR (yP x.1 x.2.2.2.2.2))
def gV:List T->Option (T):=gA (λ(x:aB×(List (iII×Int))×(List (iII×Int))×(List (iII×Int))×(List (iII×Int))×iII)=>rR x.1 x.2.1 x.2.2.1 x.2.2.2.1 x.2.2.2.2.1 x.2.2.2.2.2) RX
def AK1 (a0:aB) (m1:List (iII×Int)) (m2:List (iII×Int)) (m3:List (iII×Int)) (m4:List (iII×Int)) (a5:iII):gV (rR a0 m1 m2 m3 m4 a5)=RX (a0,m1,m2,m3,m4,a5):=eR (A:=(λ(x:aB×(List (iII×Int))×(List (iII×Int))×(List (iII×Int))×(List (iII×Int))×iII)=>rR x.1 x.2.1 x.2.2.1 x.2.2.2.1 x.2.2.2.2.1 x.2.2.2.2.2)) AAU (a0,m1,m2,m3,m4,a5)
def A7Q (h:∀ (a0:aB) (m1:List (iII×Int)) (m2:List (iII×Int)) (m3:List (iII×Int)) (m4:List (iII×Int)) (a5:iII) (r:T),RX (a0,m1,m2,m3,m4,a5)=some r->(∀ t∈rR a0 m1 m2 m3 m4 a5,Bd t)->WJ a0 m1 m2 m3 m4 a5 (λy=>y=r)):aM Tryz.prog 108 gV :=
 cG (E:=V2) (Hs:=AOD) ARW aR aU (aL rfl) 8 ⟨_,_,Tryz.func108,rfl⟩ λx r h1 h2=>by
  rw[AIR];exact h x.1 x.2.1 x.2.2.1 x.2.2.2.1 x.2.2.2.2.1 x.2.2.2.2.2 r h1 h2
def AC2:aM Tryz.prog 108 gV:=A7Q λd m1 m2 m3 m4 id0 r h hb=>by
 obtain ⟨hx,hs,rfl⟩:=oR h;simp only[Prod.mk.injEq,true_and] at hx;obtain ⟨rfl,rfl,rfl,rfl⟩:=hx;replace hs:nQ d:=hs;clear h;unfold WJ t7 d3 bF;refine ixK (λhn=>?_) λi j hj hn=>?_
 ·have hn:eV d id0=none:=hn;show _=pPR (yP d id0);unfold yP;rw[hn]
 ·have hn:eV d id0=some d.2.1[j]:=hn;rw[bC (r:=aS) hj];show _=pPR (yP d id0);unfold yP;rw[hn]
def PX {d:aB} (hs:nQ d) (id:iII):gV (rR d (iT (ids d.2.1)) (iT (ids d.2.2.1)) (iT (ids d.2.2.2.1)) (iT (ids d.2.2.2.2.1)) id)=some (Sh.enc [(false,.bool)] (yP d id)):=by
 rw[AK1];exact oS hs _
def zQ (d:aB) (x:cQ):Int:=if x.1<1\/3<x.1 then 10 else if x.2.2=x.2.1 then 2 else if yP d x.2.1=false then 8 else if (x.1=1/\¬ x.2.2 = { data:=#[] }/\yP d x.2.2=false)\/(x.1=2/\yP d x.2.2=false)\/(x.1=3/\(iB d x.2.2).isNone=true) then 8 else 0
def qI (a0:aB) (m1:List (iII×Int)) (m2:List (iII×Int)) (m3:List (iII×Int)) (m4:List (iII×Int)):List T:=[R8 a0 m1 m2 m3 m4]
def MY:Env:=Env.of [(108,.pure gV)]
def ABL:FuncId->Hint:=bT 64 [(2,.inv [.val 15 false (.int .i64)])] (λ_=>aX)
def AHG:aQ Tryz.prog MY:=.cons AC2 (.nil _)
def IR(a0:aB)(m1:List (iII×Int))(m2:List (iII×Int))(m3:List (iII×Int))(m4:List (iII×Int))(y2:cQ):List T:=[T.ref [T.ref (f7 a0), T.mp (bN m1),T.mp (bN m2),T.mp (bN m3), T.mp (bN m4)], pPQ y2.2.2]
def BQ4(y2:cQ)(X0:Int×PUnit->Prop)(s1:Int×PUnit):Prop:=aD (decide (y2.1=3)) (f9 X0 s1) (f9 X0 s1)
def BRF(y2:cQ)(R:T->Prop)(X0:Int×PUnit->Prop)(s1:Int×PUnit):Prop:=aD (decide (y2.1=3)) (m8 R) (f9 X0 s1)
def M6(a0:aB)(m1:List (iII×Int))(m2:List (iII×Int))(m3:List (iII×Int))(m4:List (iII×Int))(R:T->Prop):Prop:=a7 (Int×PUnit) (λX0 s1=>aD (decide (s1.1<(↑(FS a0).length:Int))) (aP aW (FS a0) s1.1 λ(y2:cQ)=>dJ TypeDesc.string (Value.string y2.2.2) (rI (bN m4)) false bF (aD (decide (y2.1<1)) (R BQ0) (aD (decide (3<y2.1)) (R BQ0) (aD (decide (y2.2.2=y2.2.1)) (BQZ R) (aI d4 (gV [T.ref [T.ref (i6 a0), T.mp (bN m1),T.mp (bN m2),T.mp (bN m3), T.mp (bN m4)], pPQ y2.2.1]) λ(y10:Bool)=>aD (!y10) (m8 R) (aD (decide (y2.1=1)) (aD (!decide (y2.2.2 = {data:=#[]})) (aI d4 (gV (IR a0 m1 m2 m3 m4 y2)) λ(y11:Bool)=>aD (!y11) (m8 R) (aD (decide (y2.1=2)) (aI d4 (gV [T.ref [T.ref (f7 a0), T.mp (bN m1),T.mp (bN m2), T.mp (bN m3),T.mp (bN m4)], pPQ y2.2.2]) λ(y12:Bool)=>aD (!y12) (m8 R) (BRF y2 R X0 s1)) (BRF y2 R X0 s1))) (aD (decide (y2.1=2)) (aI d4 (gV (IR a0 m1 m2 m3 m4 y2)) λ(y13:Bool)=>aD (!y13) (m8 R) (BRF y2 R X0 s1)) (BRF y2 R X0 s1))) (aD (decide (y2.1=2)) (aI d4 (gV (IR a0 m1 m2 m3 m4 y2)) λ(y14:Bool)=>aD (!y14) (m8 R) (BRF y2 R X0 s1)) (BRF y2 R X0 s1))))))) λ(i3:Nat) (y4:Int)=>aD (decide (y2.1<1)) (R BQ0) (aD (decide (3<y2.1)) (R BQ0) (aD (decide (y2.2.2=y2.2.1)) (BQZ R) (aI d4 (gV [T.ref [T.ref (i6 a0), T.mp (bN m1),T.mp (bN m2),T.mp (bN m3), T.mp (bN m4)], pPQ y2.2.1]) λ(y5:Bool)=>aD (!y5) (m8 R) (aD (decide (y2.1=1)) (aD (!decide (y2.2.2 = {data:=#[]})) (aI d4 (gV (IR a0 m1 m2 m3 m4 y2)) λ(y6:Bool)=>aD (!y6) (m8 R) (aD (decide (y2.1=2)) (aI d4 (gV [T.ref [T.ref (f7 a0), T.mp (bN m1),T.mp (bN m2), T.mp (bN m3),T.mp (bN m4)], pPQ y2.2.2]) λ(y7:Bool)=>aD (!y7) (m8 R) (BQ4 y2 X0 s1)) (BQ4 y2 X0 s1))) (aD (decide (y2.1=2)) (aI d4 (gV (IR a0 m1 m2 m3 m4 y2)) λ(y8:Bool)=>aD (!y8) (m8 R) (BQ4 y2 X0 s1)) (BQ4 y2 X0 s1))) (aD (decide (y2.1=2)) (aI d4 (gV (IR a0 m1 m2 m3 m4 y2)) λ(y9:Bool)=>aD (!y9) (m8 R) (BQ4 y2 X0 s1)) (BQ4 y2 X0 s1))))))) (BQ6 R)) (0,())
def ABD ( a0 m1 m2 m3 m4 R):dV bS Tryz.prog MY ABL 8 64 (qI a0 m1 m2 m3 m4) R=M6 a0 m1 m2 m3 m4 R:=by kernel_rfl
def VT (x y:aB×MP×MP×MP×MP) (h:qI x.1 x.2.1 x.2.2.1 x.2.2.2.1 x.2.2.2.2=qI y.1 y.2.1 y.2.2.1 y.2.2.2.1 y.2.2.2.2):x=y:=rG (List.cons.inj h).1
def JV (x:aB×MP×MP×MP×MP):Option T:=w4 x (T.v (Value.int .i64 (cF (zQ x.1) x.1.2.2.2.2.2)))
def xW:List T->Option (T):=gA (λ(x:aB×(List (iII×Int))×(List (iII×Int))×(List (iII×Int))×List (iII×Int))=>qI x.1 x.2.1 x.2.2.1 x.2.2.2.1 x.2.2.2.2) JV
def ADD (a0:aB) (m1:List (iII×Int)) (m2:List (iII×Int)) (m3:List (iII×Int)) (m4:List (iII×Int)):xW (qI a0 m1 m2 m3 m4)=JV (a0,m1,m2,m3,m4):=eR (A:=(λ(x:aB×(List (iII×Int))×(List (iII×Int))×(List (iII×Int))×List (iII×Int))=>qI x.1 x.2.1 x.2.2.1 x.2.2.2.1 x.2.2.2.2)) VT (a0,m1,m2,m3,m4)
def AV2 (h:∀ (a0:aB) (m1:List (iII×Int)) (m2:List (iII×Int)) (m3:List (iII×Int)) (m4:List (iII×Int)) (r:T),JV (a0,m1,m2,m3,m4)=some r->(∀ t∈qI a0 m1 m2 m3 m4,Bd t)->M6 a0 m1 m2 m3 m4 (λy=>y=r)):aM Tryz.prog 64 xW :=
 cG (E:=MY) (Hs:=ABL) AHG aR aU (aL rfl) 8 ⟨_,_,Tryz.func64,rfl⟩ λx r h1 h2=>by
  rw[ABD];exact h x.1 x.2.1 x.2.2.1 x.2.2.2.1 x.2.2.2.2 r h1 h2
def ATY:aM Tryz.prog 64 xW:=AV2 λd m1 m2 m3 m4 r h hb=>by
 obtain ⟨hx,hs,rfl⟩:=oR h;simp only[Prod.mk.injEq,true_and] at hx;obtain ⟨rfl,rfl,rfl,rfl⟩:=hx;replace hs:nQ d:=hs;clear h;unfold M6 BRF BQ4 BQ6 IR i6 f9 BQ0 BQZ m8 f7 GT FS t7 t6 m7 d4 bF;refine qT (r:=aW) (zQ d) hs.r (λX s y hy hok hbad=>?_) λh0=>?_
 ·have bad:∀ {n:Int},n≠0->zQ d y=n->pPP n=pPP (cF (zQ d) d.2.2.2.2.2):=λhn h=>by
   rw[hbad (by rw[h];exact hn),h]
  clear hbad hb
  repeat' first
   | refine ixK (λhn=>?_) (λi j hj hn=>?_)
   | rw[nV]
   | refine aH (s:=[(false,.bool)]) (PX hs _) ?_
   | refine lA (λh=>?_) (λh=>?_)
   | refine bV (λh=>?_) (λh=>?_)
   | refine jI (λh=>?_) (λh=>?_)
  all_goals first
   | (exfalso;omega)
   | (refine bad (by decide) ?_;clear bad hok;unfold zQ;simp[*,partOf,iB];done)
   | (refine hok ?_;clear bad hok;unfold zQ;simp[*,partOf,iB];done)
   | (refine hok ?_;clear bad hok hs hy;unfold zQ;simp_all[partOf,iB];done)
 ·show _=pPP (cF (zQ d) d.2.2.2.2.2);rw[h0]
end Go.Pv
namespace Go.Pv
open Go Go.Proofs IntKind
def BH0:Env:=Env.of []
def BIM:FuncId->Hint:=bT 148 [(2,.inv [.val 9 false (.int .i64)])] (λ_=>aX)
def AZA:aQ Tryz.prog BH0:=.nil _
def AIN(a0:Int)(a1:List aO)(R:T->Prop):Prop:=a7 (Int×PUnit) (λX0 s1=>aD (decide (s1.1<(↑(g9 a1).length:Int))) (aP aA (g9 a1) s1.1 λ(y2:aO)=>aD (decide (y2.1<0)) (t8 R) (aD (decide (a0<=y2.1)) (t8 R) (aD (decide (y2.2<0)) (t8 R) (aD (decide (a0<=y2.2)) (t8 R) (aD (decide (y2.1=y2.2)) (BQZ R) (f9 X0 s1)))))) (BQ6 R)) (0,())
abbrev AMV:Sh:=[(false,(Sy.int IntKind.i64)),(false,aA.li)]
def O2 (n:Int) (x:aO):Int:=if x.1<0\/n<=x.1\/x.2<0\/n<=x.2 then 9 else if x.1=x.2 then 2 else 0
def MA (x:Int×List aO):Option T:=rC x.2 (T.v (Value.int .i64 (cF (O2 x.1) x.2)))
def PV:List T->Option T:=gS AMV MA
def AUW {a0 a1}:PV [pPP a0,T.sl false (List.map aA.enc a1)]=MA (a0,a1):=bA (s:=AMV) rfl (a0,a1) rfl
def BFA:qN Tryz.prog 148 PV MA (bY AMV) AIN:=gL (a1:=(false,(Sy.int IntKind.i64))) (a2:=(false,aA.li)) (Hs:=BIM) (k:=8) AZA aR aU (aL rfl) ⟨_,_,Tryz.func148,rfl⟩ rfl λ_ _ _=>by kernel_rfl
def BDO:aM Tryz.prog 148 PV:=BFA λn l r h hb=>by
 obtain ⟨hl,rfl⟩:=kE h;clear h;unfold AIN BQ6 g9 f9 BQZ t8;refine qT (r:=aA) (O2 n) hl (λX s y hy hok hbad=>?_) λh0=>?_
 ·have bad:∀ {m:Int},m≠0->O2 n y=m->pPP m=pPP (cF (O2 n) l):=λhn h=>by
   rw[hbad (by rw[h];exact hn),h]
  clear hbad hb
  repeat' first
   | refine lA (λh=>?_) (λh=>?_)
   | refine bV (λh=>?_) (λh=>?_)
  all_goals first
   | (exfalso;omega)
   | (refine bad (by decide) ?_;clear bad hok;unfold O2;first|(rw[if_pos (by omega)];done)|(rw[if_neg (by omega),if_pos (by omega)];done))
   | (refine hok ?_;clear bad hok;unfold O2;rw[if_neg (by omega),if_neg (by omega)];done)
 ·show _=pPP (cF (O2 n) l);rw[h0]
def V3:Env:=Env.of [(148,.pure PV)]
def AOE:FuncId->Hint:=bT 110 [(8,.inv [.arr 0 1 (.int .i64),.val 31 false (.int .i64)]),(14,.inv [.arr 0 1 (.int .i64),.own 10 1 (.int .i64),.arr 2 1 .bool]),(16,.inv [.val 52 false (.int .i64),.fix 0,.fix 2,.fix 3]),(22,.inv [.arr 0 1 (.int .i64),.val 75 false (.int .i64)])] (λ_=>aX)
def ARY:aQ Tryz.prog V3:=.cons BDO (.nil _)
def d7:Sh:=[(false,Sy.int IntKind.i64)]
def LT(s14:List Int×List Int×List Bool×PUnit):List (List T):=List.map Sy.bool.enc s14.2.2.1
def UV(s3:List Int×Int×PUnit):List (List T):=List.map bF.enc s3.1
def BQ1(s14:List Int×List Int×List Bool×PUnit):List (List T):=List.map bF.enc s14.2.1
def BRE(s14:List Int×List Int×List Bool×PUnit):List (List T):=List.map bF.enc s14.1
def BRG(R:T->Prop):Prop:=bH (pPP 9).flat (R (T.bX [T.sl false [],pPP 9]))
def WL(a0:Int)(a1:List aO)(R:T->Prop):Prop:=aD (decide (a0<0)) (BRG R) (aD (decide (256<a0)) (BRG R) (aI d7 (PV [pPP a0,T.sl false (g9 a1)]) λ(y0:Int)=>aD (!decide (y0=0)) (bH (pPP y0).flat (R (T.bX [T.sl false [],pPP y0]))) (bH ((decide (a0=a0)||decide (a0=0))&&decide (0<=a0)&&decide (a0*(↑8:Int)<=140737488355328) && decide (a0<=140737488355328)) (bZ bF (List.replicate (Int.toNat a0) [pPP 0]) λ(y1:List Int)=>a7 (List Int×Int×PUnit) (λX2 s3=>aD (decide (s3.2.1<(↑(g9 a1).length:Int))) (aP aA (g9 a1) s3.2.1 λ(y4:aO)=>aP bF (UV s3) y4.2 λ(y5:Int)=>eK bF (UV s3) (Int.toNat y4.2) 0 λ(y6:Int)=>aP bF (UV s3) y4.2 λ(y7:Int)=>GN (UV s3) (Int.toNat y4.2) λ(y8:List T)=>bH (decide (1<=y8.length)) (bZ bF ((UV s3).set (Int.toNat y4.2) (bR y8 0 [pPP (i64.wrap (y6+1))])) λ(y9:List Int)=>X2 (y9,i64.wrap (s3.2.1+1),()))) (bH ((decide (0=a0)||true)&&decide (0<=a0)&&decide (a0*(↑8:Int)<=140737488355328) && decide (a0<=140737488355328)) (bH ((decide (a0=a0)||decide (a0=0))&&decide (0<=a0) && decide (a0*(↑1:Int)<=140737488355328) && decide (a0<=140737488355328)) (bZ bF (UV s3) λ(y10:List Int)=>bZ bF [] λ(y11:List Int)=>bZ Sy.bool (List.replicate (Int.toNat a0) [pPR false]) λ(y12:List Bool)=>a7 (List Int×List Int×List Bool×PUnit) (λX13 s14=>aD (decide ((↑(BQ1 s14).length:Int)<a0)) (fK (bE.arr false 1 (BRE s14)) (bE.arr false 1 (BRE s14)) (fK (bE.arr false 1 (LT s14)) (bE.arr false 1 (LT s14)) (fK (bE.arr false 1 (BQ1 s14)) (bE.arr false 1 (BQ1 s14)) (a7 (Int×PUnit×PUnit×PUnit×PUnit) (λX15 s16=>aD (decide (s16.1<a0)) (aP Sy.bool (LT s14) s16.1 λ(y17:Bool)=>eK Sy.bool (LT s14) (Int.toNat s16.1) 0 λ(y18:Bool)=>aD y18 (fK (bE.arr false 1 (BRE s14)) (bE.arr false 1 (BRE s14)) (fK (bE.arr false 1 (LT s14)) (bE.arr false 1 (LT s14)) (fK (bE.arr false 1 (BQ1 s14)) (bE.arr false 1 (BQ1 s14)) (X15 (i64.wrap (s16.1+1),(),(),(),()))))) (aP bF (BRE s14) s16.1 λ(y19:Int)=>eK bF (BRE s14) (Int.toNat s16.1) 0 λ(y20:Int)=>aD (decide (0<y20)) (fK (bE.arr false 1 (BRE s14)) (bE.arr false 1 (BRE s14)) (fK (bE.arr false 1 (LT s14)) (bE.arr false 1 (LT s14)) (fK (bE.arr false 1 (BQ1 s14)) (bE.arr false 1 (BQ1 s14)) (X15 (i64.wrap (s16.1+1),(),(),(), ()))))) (aP Sy.bool (LT s14) s16.1 λ(y21:Bool)=>GN (LT s14) (Int.toNat s16.1) λ(y22:List T)=>bH (decide (1<=y22.length)) (bH (decide (((BQ1 s14).length + 1) * 8 <= 140737488355328) && decide ((BQ1 s14).length + 1 <= 140737488355328)) (bZ bF (BRE s14) λ(y23:List Int)=>a7 (List Int×Int×PUnit) (λX24 s25=>aD (decide (s25.2.1 < (↑(g9 a1).length : Int))) (aP aA (g9 a1) s25.2.1 λ(y26:aO)=>aD (decide (y26.1=s16.1)) (aP bF (UV s25) y26.2 λ(y27:Int)=>eK bF (UV s25) (Int.toNat y26.2) 0 λ(y28:Int)=>aP bF (UV s25) y26.2 λ(y29:Int)=>GN (UV s25) (Int.toNat y26.2) λ(y30:List T)=>bH (decide (1<=y30.length)) (bZ bF ((UV s25).set (Int.toNat y26.2) (bR y30 0 [pPP (i64.wrap (y28-1))])) λ(y31:List Int)=>X24 (y31, i64.wrap (s25.2.1+1), ()))) (bZ bF (UV s25) λ(y32:List Int)=>X24 (y32, i64.wrap (s25.2.1+1), ()))) (bZ bF (UV s25) λ(y33:List Int)=>bZ bF (List.map bF.enc s14.2.1 ++ [[pPP s16.1]]) λ(y34:List Int)=>bZ Sy.bool ((LT s14).set (Int.toNat s16.1) (bR y22 0 [pPR true])) λ(y35:List Bool)=>X13 (y33,y34,y35,()))) (y23,0,())))))) (bH (pPP 20).flat (R (T.bX [T.sl false [], pPP 20])))) (0,(),(),(),()))))) (bH ((BQ1 s14).all λ(r:List T)=>r.all T.flat) (bH (pPP 0).flat (R (T.bX [T.sl false (BQ1 s14), pPP 0]))))) (y10,y11,y12,()))))) (y1,0,())))))
def AIU ( a0 a1 R):wS bS Tryz.prog V3 AOE 8 110 [aF false (Sy.int IntKind.i64) a0,aF false aA.li a1] R=WL a0 a1 R:=by kernel_rfl
abbrev L6:Sh:=[(false,(Sy.int IntKind.i64)),(false,aA.li)]
abbrev BD:Sh:=[(false,(Sy.int IntKind.i64).li),(false,Sy.int IntKind.i64)]
def A27 (b:List Int) (e:aO):List Int:=b.set e.2.toNat (i64.wrap (b.getD e.2.toNat 0+1))
def A3D (v:Int) (b:List Int) (e:aO):List Int:=if e.1=v then b.set e.2.toNat (i64.wrap (b.getD e.2.toNat 0-1)) else b
def KO (b:List Int) (t:List Bool) (k:Nat):Bool:=!t.getD k false&&decide (b.getD k 0<=0)
def D3 (l:List aO) (n:Nat):Nat->List Int->List Int->List Bool->List Int×Int
 | 0,_,o,_=>(o,0)
 | f+1,b,o,t=>match (List.range n).find? (KO b t) with
  | none=>([],20)
  | some v=>D3 l n f (l.foldl (A3D v) b) (o++[(v:Int)]) (t.set v true)
def lZ (n:Int) (l:List aO):List Int×Int :=
 if n<0\/256<n then ([],9) else if cF (O2 n) l=0 then D3 l n.toNat n.toNat (l.foldl A27 (List.replicate n.toNat 0)) [] (List.replicate n.toNat false) else ([],cF (O2 n) l)
def ACV {α:Type} {f:α->Int}:∀ {l:List α},cF f l=0->∀ a∈l,f a=0
 | [],_,_,h=>by cases h
 | b::l,h,a,ha=>by
  unfold cF at h;split at h
  ·rename_i hb;rcases List.mem_cons.1 ha with rfl|ha
   ·exact hb
   ·exact ACV h a ha
  ·exact absurd h ‹_›
def BE {r:Sy} {l:List r.den} {i:Int} (h0:0<=i) (h:i.toNat<l.length) (K:r.den->Prop):aP r (List.map r.enc l) i K=K l[i.toNat]:=by
 have e:i=((i.toNat:Nat):Int):=by omega
 have:=bC h K;rw[<-e] at this;exact this
def AQK {l:List Int} {k:Nat} (h:k<l.length) (y:Int):(List.map (Sy.int .i64).enc l).set k (bR ((Sy.int .i64).enc l[k]) 0 [pPP y])=List.map (Sy.int .i64).enc (l.set k y):=by
 rw[List.map_set];rfl
def A9S {l:List Bool} {k:Nat} (h:k<l.length) (y:Bool):(List.map Sy.bool.enc l).set k (bR (Sy.bool.enc l[k]) 0 [pPR y])=List.map Sy.bool.enc (l.set k y):=by
 rw[List.map_set];rfl
variable {α:Type}
def A5 {l:List α} {k:Nat} (d:α) (h:k<l.length):l.getD k d=l[k]:=by simp[List.getD,h]
def BF5 (n:Nat):List.replicate n [T.v (Value.int .i64 0)]=List.map (Sy.int .i64).enc (List.replicate n 0):=by rw[List.map_replicate];rfl
def A8X (n:Nat):List.replicate n [pPR false]=List.map Sy.bool.enc (List.replicate n false):=by rw[List.map_replicate];rfl
def ATW (l:List Int):((List.map (Sy.int .i64).enc l).all λ(r:List T)=>r.all T.flat)=true:=by
 rw[List.all_map,List.all_eq_true];intro a _;rfl
def RY (x:Int×List aO):Option T:=rC x.2 (Sh.enc BD (lZ x.1 x.2))
def FR:List T->Option (T):=gS L6 RY
def AK3 {a0 a1}:FR [pPP a0,T.sl false (List.map aA.enc a1)]=RY (a0,a1):=bA (s:=L6) rfl (a0,a1) rfl
def A7S (h:∀ a0 a1 r,RY (a0,a1)=some r->bY L6 (a0,a1)->WL a0 a1 (λy=>y=r)):kR Tryz.prog 110 FR :=
 BEV (E:=V3) (Hs:=AOE) ARY aR aU (aL rfl) 8 ⟨_,_,Tryz.func110,rfl⟩ rfl λx r h1 h2=>by
  obtain ⟨a0,a1⟩:=x;rw[show Sh.iS L6 (a0,a1)=[aF false (Sy.int IntKind.i64) a0,aF false aA.li a1] from rfl,AIU];exact h a0 a1 r h1 h2
def A4D:kR Tryz.prog 110 FR:=A7S λn l r h hb=>by
 obtain ⟨hl,rfl⟩:=kE h;clear h;have hl:l.length<=140737488355328:=hl;unfold WL BRG BRE BQ1 UV LT g9 d7 bF;refine bV (λh=>?_) λhn0=>?_
 ·refine ⟨rfl,?_⟩;show _=Sh.enc BD (lZ n l);rw[lZ,if_pos (Or.inl h)];rfl
 refine bV (λh=>?_) λhn1=>?_
 ·refine ⟨rfl,?_⟩;show _=Sh.enc BD (lZ n l);rw[lZ,if_pos (Or.inr h)];rfl
 refine aH (s:=[(false,.int .i64)]) (y:=cF (O2 n) l) (by rw[AUW];exact kF _ hl) ?_;refine lA (λh0=>?_) (λh0=>?_)
 ·refine ⟨rfl,?_⟩;show _=Sh.enc BD (lZ n l);rw[lZ,if_neg (by omega),if_neg h0];rfl
 have hv:lZ n l=D3 l n.toNat n.toNat (l.foldl A27 (List.replicate n.toNat 0)) [] (List.replicate n.toNat false):=by
  rw[lZ,if_neg (by omega),if_pos h0]
 have hend:∀ e∈l,0<=e.1/\e.1<n/\0<=e.2/\e.2<n:=λe he=>by
  have:=ACV h0 e he;unfold O2 at this;split at this
  ·exact absurd this (by decide)
  ·omega
 clear h0 hb;obtain ⟨N,rfl⟩:∃ N:Nat,n=(N:Int):=⟨n.toNat,by omega⟩
 rw[Int.toNat_natCast] at hv ⊢;refine ⟨by simp;omega,?_⟩;rw[BF5,dW rfl];refine bI l.length (λk s=>s.2.1=(k:Int)/\s.1.length=N/\(l.drop k).foldl A27 s.1=l.foldl A27 (List.replicate N 0)) ⟨rfl,by simp,rfl⟩ ?_;rintro X k ⟨b,i,u⟩ hk ⟨rfl,hbl,hbf⟩ hX;dsimp only at hbl hbf ⊢;refine bV (λhlt=>?_) λhge=>?_
 ·rw[ad] at hlt;have hlt:k<l.length:=by omega
  rw[bC hlt];obtain ⟨-,-,e0,e1⟩:=hend _ (aj hlt);have hj:(l[k].2).toNat<b.length:=by omega
  rw[BE e0 hj,jJ hj,BE e0 hj,pV hj];refine ⟨rfl,?_⟩;rw[AQK hj,dW rfl];refine hX _ hlt ⟨?_,?_,?_⟩
  ·show i64.wrap ((k:Int)+1)=_;rw[bD]<;>omega
  ·show (List.set _ _ _).length=N;rw[List.length_set];exact hbl
  ·rw[List.drop_eq_getElem_cons hlt,List.foldl_cons] at hbf;rw[<-hbf]
   congr 1
   unfold A27;rw[A5 (l:=b) 0 hj]
 rw[ad] at hge;have hkl:k=l.length:=by omega
 subst hkl;rw[List.drop_length,List.foldl_nil] at hbf;rw[<-hbf] at hv;refine ⟨by simp;omega,⟨by simp;omega,?_⟩⟩;rw[dW rfl,A3E,A8X,dW rfl];clear hX hge hbf;refine bI N (λk s=>s.1.length=N/\s.2.1.length=k/\s.2.2.1.length=N/\D3 l N (N-k) s.1 s.2.1 s.2.2.1=lZ N l) ⟨hbl,rfl,by simp,by rw[hv];rfl⟩ ?_;clear hv hbl b u;rintro X k ⟨b,o,t,u⟩ hk ⟨hbl,hol,htl,hr⟩ hX;dsimp only at hbl hol htl hr ⊢;refine bV (λhlt=>?_) λhge=>?_
 ·rw[ad,hol] at hlt;have hlt:k<N:=by omega
  rw[cU,cU,cU];obtain ⟨m,hm⟩:∃ m,N-k=m+1:=⟨N-k-1,by omega⟩
  rw[hm,D3] at hr;refine bI N (λj s=>s.1=(j:Int)/\(List.range N).find? (KO b t)=(List.range' j (N-j)).find? (KO b t)) ⟨rfl,by rw[List.range_eq_range'];rfl⟩ ?_;rintro Y j ⟨i,u1,u2,u3,u4⟩ hj ⟨rfl,hf⟩ hY;dsimp only at hf ⊢;refine bV (λhjn=>?_) λhjn=>?_
  ·have hjn:j<N:=by omega
   have hjb:j<b.length:=by omega
   have hjt:j<t.length:=by omega
   obtain ⟨q,hq⟩:∃ q,N-j=q+1:=⟨N-j-1,by omega⟩
   rw[hq,List.range'_succ,List.find?_cons] at hf;have next:KO b t j=false->Y (i64.wrap ((j:Int)+1),(),(),(),()):=λh=>by
    refine hY _ hjn ⟨?_,?_⟩
    ·show i64.wrap ((j:Int)+1)=_;rw[bD]<;>omega
    ·rw[hf,h];rw[show N-(j+1)=q by omega]
   simp only[Int.toNat_natCast];rw[bC hjt,jJ hjt];refine IU (λht=>?_) λht=>?_
   ·rw[cU,cU,cU];exact next (by rw[KO,A5 (l:=t) false hjt,ht];rfl)
   rw[bC hjb,jJ hjb];refine bV (λhp=>?_) λhp=>?_
   ·rw[cU,cU,cU];exact next (by rw[KO,A5 (l:=b) 0 hjb,ai (by omega),Bool.and_false])
   have hfree:KO b t j=true:=by rw[KO,A5 (l:=b) 0 hjb,A5 (l:=t) false hjt,ht,ah (by omega)];rfl
   rw[hfree] at hf;rw[hf] at hr;dsimp only at hr;clear next hY hf
   rw[bC hjt,pV hjt];refine ⟨rfl,⟨by simp;omega,?_⟩⟩;rw[dW rfl];refine bI l.length (λk s=>s.2.1=(k:Int)/\s.1.length=N/\(l.drop k).foldl (A3D j) s.1=l.foldl (A3D j) b) ⟨rfl,hbl,rfl⟩ ?_;rintro Z i ⟨c,i',u⟩ hi ⟨rfl,hcl,hcf⟩ hZ;dsimp only at hcl hcf ⊢;refine bV (λhlt=>?_) λhge=>?_
   ·rw[ad] at hlt;have hlt:i<l.length:=by omega
    rw[bC hlt];obtain ⟨-,-,e0,e1⟩:=hend _ (aj hlt);have hjc:(l[i].2).toNat<c.length:=by omega
    rw[List.drop_eq_getElem_cons hlt,List.foldl_cons] at hcf;have hw:i64.wrap ((i:Int)+1)=((i+1:Nat):Int):=by rw[bD]<;>omega
    refine bV (λhv=>?_) λhv=>?_
    ·rw[BE e0 hjc,jJ hjc,BE e0 hjc,pV hjc];refine ⟨rfl,?_⟩;rw[AQK hjc,dW rfl];refine hZ _ hlt ⟨hw,?_,?_⟩
     ·show (List.set _ _ _).length=N;rw[List.length_set];exact hcl
     ·rw[<-hcf]
      congr 1
      unfold A3D;rw[if_pos hv,A5 (l:=c) 0 hjc]
    ·rw[dW rfl];refine hZ _ hlt ⟨hw,hcl,?_⟩;rw[<-hcf]
     congr 1
     unfold A3D;rw[if_neg hv]
   ·rw[ad] at hge;have hil:i=l.length:=by omega
    subst hil;rw[List.drop_length,List.foldl_nil] at hcf;rw[dW rfl,AP (r:=.int .i64) rfl o [T.v (.int .i64 (j:Int))] (j:Int) rfl,A9S hjt,dW rfl];refine hX _ hlt ⟨hcl,by simp[hol],by simp[htl],?_⟩;rw[show N-(k+1)=m by omega];show D3 l N m c (o++[(j:Int)]) (t.set j true)=_;rw[hcf];exact hr
  ·have hjn:j=N:=by omega
   subst hjn;rw[Nat.sub_self] at hf;rw[show (List.range' j 0)=[] from rfl,List.find?_nil] at hf;rw[hf] at hr;refine ⟨rfl,?_⟩;show _=Sh.enc BD (lZ (j:Int) l);rw[<-hr];rfl
 ·rw[ad,hol] at hge;have hkN:k=N:=by omega
  subst hkN;rw[Nat.sub_self,D3] at hr;refine ⟨ATW o,rfl,?_⟩;show _=Sh.enc BD (lZ (k:Int) l);rw[<-hr];rfl
end Go.Pv
namespace Go.Pv
open Go Go.Proofs IntKind
def xD (a0:List iII):List T:=[T.sl false (List.map Sy.str.enc a0)]
def AHF:Env:=Env.of []
def A2F:FuncId->Hint:=λ_=>aX
def AZM:aQ Tryz.prog AHF:=.nil _
def AI1(a0:List iII)(R:T->Prop):Prop:=R (T.fn 147 [] [T.ref [T.sl false (IO a0)]])
def ASH ( a0 R):dV bS Tryz.prog AHF A2F 8 109 (xD a0) R=AI1 a0 R:=by kernel_rfl
def AAF (l:List iII):Option T:=some (T.fn 147 [] [T.ref [T.sl false (List.map Sy.str.enc l)]])
def AG0 (x y:List iII) (h:xD x=xD y):x=y:=by
 unfold xD at h;have h:=(T.sl.injEq .. ▸ (List.cons.inj h).1)
 exact map_inj (Sy.c0 .str) h.2
def IL:List T->Option (T):=gA (λ(x:List iII)=>xD x) AAF
def UN (a0:List iII):IL (xD a0)=AAF a0:=eR (A:=(λ(x:List iII)=>xD x)) AG0 a0
def BFM (h:∀ (a0:List iII) (r:T),AAF a0=some r->(∀ t∈xD a0,Bd t)->AI1 a0 (λy=>y=r)):aM Tryz.prog 109 IL :=
 cG (E:=AHF) (Hs:=A2F) AZM aR aU (aL rfl) 8 ⟨_,_,Tryz.func109,rfl⟩ λx r h1 h2=>by
  rw[ASH];exact h x r h1 h2
def BDV:aM Tryz.prog 109 IL:=BFM λl r h hb=>by
 cases h;unfold AI1 IO;rfl
end Go.Pv
namespace Go.Pv
abbrev Pt:=Int×Int
def eB (a b c:Pt):Int:=(b.1-a.1)*(c.2-a.2)-(b.2-a.2)*(c.1-a.1)
def SD (n:Int):Int:=if n<0 then -1 else if 0<n then 1 else 0
def btw (a b q:Pt):Bool:=decide (min a.1 b.1<=q.1)&&decide (q.1<=max a.1 b.1)&&(decide (min a.2 b.2<=q.2)&&decide (q.2<=max a.2 b.2))
def YY (a b q:Pt):Bool:=decide (eB a b q=0)&&btw a b q
def nC (a b c d:Pt):Bool:=YY a b c||YY a b d||YY c d a||YY c d b||(decide (SD (eB a b c)*SD (eB a b d)<0)&&decide (SD (eB c d a)*SD (eB c d b)<0))
def dQ (q:Pt):Prop:=-32768<=q.1/\q.1<=32768∧-32768<=q.2/\q.2<=32768
def D2 {x y M N:Int} (hx:-M<=x/\x<=M) (hy:-N<=y/\y<=N) (hM:0<=M) (hN:0<=N):-(M*N)<=x*y/\x*y<=M*N:=by
 have h1:x.natAbs<=M.toNat:=by omega
 have h2:y.natAbs<=N.toNat:=by omega
 have h3:=Nat.mul_le_mul h1 h2;rw[<-Int.natAbs_mul] at h3;have h4:((M.toNat*N.toNat:Nat):Int)=M*N:=by
  rw[Int.natCast_mul,Int.toNat_of_nonneg hM,Int.toNat_of_nonneg hN]
 omega
def A3B {a b c:Pt} (ha:dQ a) (hb:dQ b) (hc:dQ c):(-4294967296<=(b.1-a.1)*(c.2-a.2)/\(b.1-a.1)*(c.2-a.2)<=4294967296)/\(-4294967296<=(b.2-a.2)*(c.1-a.1)/\(b.2-a.2)*(c.1-a.1)<=4294967296):=by
 unfold dQ at ha hb hc;have h1:=D2 (x:=b.1-a.1) (y:=c.2-a.2) (M:=65536) (N:=65536) (by omega) (by omega) (by omega) (by omega);have h2:=D2 (x:=b.2-a.2) (y:=c.1-a.1) (M:=65536) (N:=65536) (by omega) (by omega) (by omega) (by omega);constructor<;>constructor<;>omega
def A9T (n:Int):-1<=SD n/\SD n<=1:=by unfold SD;split<;>(try split)<;>omega
end Go.Pv
namespace Go.Pv
end Go.Pv
namespace Go.Pv
def hit (a b q:Pt):Bool:=(decide (a.2<=q.2)&&decide (q.2<b.2)&&decide (0<eB a b q))||(decide (b.2<=q.2)&&decide (q.2<a.2)&&decide (eB a b q<0))
def dr (u v w:Pt):Bool:=decide (u.2<w.2)&&decide (w.2<=v.2)&&decide (eB u v w<0)
def OU (a b q:Pt):eB b a q = - eB a b q:=by simp only[eB];grind
def BK8 {a b q:Pt} (h:eB a b q=0) (hab:a.2<b.2) (h1:a.2<=q.2) (h2:q.2<=b.2):btw a b q=true:=by
 have e:(b.1-a.1)*(q.2-a.2)=(b.2-a.2)*(q.1-a.1):=by unfold eB at h;omega
 have hx:min a.1 b.1<=q.1/\q.1<=max a.1 b.1:=by
  rcases Int.le_total a.1 b.1 with hd|hd
  ·have m1:=Int.mul_nonneg (show 0<=b.1-a.1 by omega) (show 0<=q.2-a.2 by omega);have m2:(b.1-a.1)*(q.2-a.2)<=(b.1-a.1)*(b.2-a.2):=Int.mul_le_mul_of_nonneg_left (by omega) (by omega);have p1:0<=q.1-a.1:=by
    refine Int.not_lt.1 λh=>?_;have:=Int.mul_neg_of_pos_of_neg (show 0<b.2-a.2 by omega) h;omega
   have p2:q.1-a.1<=b.1-a.1:=by
    refine Int.not_lt.1 λh=>?_;have h3:=Int.mul_lt_mul_of_pos_left h (show 0<b.2-a.2 by omega);have h4:(b.2-a.2)*(b.1-a.1)=(b.1-a.1)*(b.2-a.2):=Int.mul_comm _ _;omega
   omega
  ·have m1:=Int.mul_nonneg (show 0<=a.1-b.1 by omega) (show 0<=q.2-a.2 by omega);have m2:(a.1-b.1)*(q.2-a.2)<=(a.1-b.1)*(b.2-a.2):=Int.mul_le_mul_of_nonneg_left (by omega) (by omega);have e1:(a.1-b.1)*(q.2-a.2) = - ((b.1-a.1)*(q.2-a.2)):=by grind
   have p1:q.1-a.1<=0:=by
    refine Int.not_lt.1 λh=>?_;have:=Int.mul_pos (show 0<b.2-a.2 by omega) h;omega
   have p2:b.1-a.1<=q.1-a.1:=by
    refine Int.not_lt.1 λh=>?_;have h3:=Int.mul_lt_mul_of_pos_left h (show 0<b.2-a.2 by omega);have h4:(a.1-b.1)*(b.2-a.2) = - ((b.2-a.2)*(b.1-a.1)):=by grind
    omega
   omega
 simp only[btw,ac,ae];omega
def BFY {a b q:Pt} (h:eB a b q=0) (hab:a.2<b.2) (h1:a.2<=q.2) (h2:q.2<=b.2):YY a b q=true:=by
 unfold YY;rw[ah h,BK8 h hab h1 h2];rfl
end Go.Pv
namespace Go.Pv
end Go.Pv
namespace Go.Pv
def A2X (a b q:Pt):btw b a q=btw a b q:=by unfold btw;rw[Int.min_comm b.1,Int.max_comm b.1,Int.min_comm b.2,Int.max_comm b.2]
def BFX (a b q:Pt):YY b a q=YY a b q:=by
 unfold YY;rw[A2X,OU a b q]
 congr 1
 exact decide_eq_decide.2 (by omega)
def A97:Nat->(Nat->Bool)->Bool
 | 0,_=>false
 | n+1,f=>A97 n f ^^ f n
def pt (p:List Pt) (i:Nat):Pt:=p.getD i (0,0)
def nx (p:List Pt) (i:Nat):Pt:=pt p ((i+1) % p.length)
def BED (p:List Pt) (q:Pt):Bool:=A97 p.length λi=>hit (pt p i) (nx p i) q
end Go.Pv
namespace Go.Pv
open Go Go.Proofs IntKind
instance BQI (q:Pt):Decidable (dQ q):=by unfold dQ;infer_instance
def jE {a b:Bool} (h:a=b):pPR a=pPR b:=by rw[h]
def LI {a b:Int} (h:a=b):pPP a=pPP b:=by rw[h]
variable {α:Type}
def QF (a b c:Pt) (r:α):Option α:=match decide (dQ a/\dQ b/\dQ c) with
 | true=>some r
 | false=>none
def QG {a b c:Pt} {t r:α} (h:QF a b c t=some r):dQ a/\dQ b/\dQ c/\r=t:=by
 unfold QF at h;split at h
 ·rename_i hc;cases h;obtain ⟨h1,h2,h3⟩:=of_decide_eq_true hc;exact ⟨h1,h2,h3,rfl⟩
 ·cases h
def QH {a b c:Pt} (t:α) (ha:dQ a) (hb:dQ b) (hc:dQ c):QF a b c t=some t:=by unfold QF;rw[ah ⟨ha,hb,hc⟩]
def SB {a b c:Pt} (ha:dQ a) (hb:dQ b) (hc:dQ c):i64.wrap (i64.wrap (i64.wrap (b.1-a.1)*i64.wrap (c.2-a.2))-i64.wrap (i64.wrap (b.2-a.2)*i64.wrap (c.1-a.1)))=eB a b c:=by
 have h:=A3B ha hb hc;unfold dQ at ha hb hc;rw[bD (b.1-a.1) (by omega) (by omega),bD (c.2-a.2) (by omega) (by omega),bD (b.2-a.2) (by omega) (by omega),bD (c.1-a.1) (by omega) (by omega),
  bD ((b.1-a.1)*(c.2-a.2)) (by omega) (by omega),bD ((b.2-a.2)*(c.1-a.1)) (by omega) (by omega),bD _ (by omega) (by omega)]
 rfl
def HE (m n:Int):i64.wrap (SD m*SD n)=SD m*SD n:=by
 have h:=D2 (A9T m) (A9T n) (by omega) (by omega);exact bD _ (by omega) (by omega)
def YU (a b:Int):(if b<a then b else a)=min a b:=by omega
def YS (a b:Int):(if a<b then b else a)=max a b:=by omega
def AYI:Env:=Env.of []
def A13:FuncId->Hint:=λ_=>aX
def AHV:aQ Tryz.prog AYI:=.nil _
def ST(a1:aO)(a0:aO)(a2:aO):T:=pPP (i64.wrap (i64.wrap (i64.wrap (a1.1-a0.1)*i64.wrap (a2.2-a0.2)) - i64.wrap (i64.wrap (a1.2-a0.2)*i64.wrap (a2.1-a0.1))))
def NN(a0:aO)(a1:aO)(a2:aO)(R:T->Prop):Prop:=R (ST a1 a0 a2)
abbrev Q9:Sh:=[(true,aA),(true,aA),(true,aA)]
def BS (x:aO×aO×aO):Option T:=QF x.1 x.2.1 x.2.2 (T.v (Value.int .i64 (eB x.1 x.2.1 x.2.2)))
def gH:List T->Option T:=gS Q9 BS
def AD7 {a0 a1 a2}:gH [aF true aA a0,aF true aA a1,aF true aA a2]=BS (a0,a1,a2):=bA (s:=Q9) rfl (a0,a1,a2) rfl
def AWH:Of3 Tryz.prog 328 gH BS (bY Q9) NN:=S2 (a1:=(true,aA)) (a2:=(true,aA)) (a3:=(true,aA)) (Hs:=A13) (k:=8) AHV aR aU (aL rfl) ⟨_,_,Tryz.func328,rfl⟩ rfl λ_ _ _ _=>by kernel_rfl
def AU:aM Tryz.prog 328 gH:=AWH λa b c r h hb=>by
 obtain ⟨h1,h2,h3,rfl⟩:=QG h;unfold NN ST;exact LI (SB h1 h2 h3)
def j7 {a b c:Pt} (h1:dQ a) (h2:dQ b) (h3:dQ c):gH [aF true aA a,aF true aA b,aF true aA c]=some (Sh.enc [(false,.int .i64)] (eB a b c)):=(AD7 ..).trans (QH _ h1 h2 h3)
def AYQ:Env:=Env.of []
def A2B:FuncId->Hint:=λ_=>aX
def AH3:aQ Tryz.prog AYQ:=.nil _
def NV(a0:aO)(a1:aO)(a2:aO)(R:T->Prop):Prop:=R (ST a1 a0 a2)
abbrev RH:Sh:=[(true,aA),(true,aA),(true,aA)]
def BY (x:aO×aO×aO):Option T:=QF x.1 x.2.1 x.2.2 (T.v (Value.int .i64 (eB x.1 x.2.1 x.2.2)))
def mZ:List T->Option T:=gS RH BY
def AEP {a0 a1 a2}:mZ [aF true aA a0,aF true aA a1,aF true aA a2]=BY (a0,a1,a2):=bA (s:=RH) rfl (a0,a1,a2) rfl
def AWP:Of3 Tryz.prog 331 mZ BY (bY RH) NV:=S2 (a1:=(true,aA)) (a2:=(true,aA)) (a3:=(true,aA)) (Hs:=A2B) (k:=8) AH3 aR aU (aL rfl) ⟨_,_,Tryz.func331,rfl⟩ rfl λ_ _ _ _=>by kernel_rfl
def AUH:aM Tryz.prog 331 mZ:=AWP λa b c r h hb=>by
 obtain ⟨h1,h2,h3,rfl⟩:=QG h;unfold NV ST;exact LI (SB h1 h2 h3)
def sA {a b c:Pt} (h1:dQ a) (h2:dQ b) (h3:dQ c):mZ [aF true aA a,aF true aA b,aF true aA c]=some (Sh.enc [(false,.int .i64)] (eB a b c)):=(AEP ..).trans (QH _ h1 h2 h3)
def BAM:Env:=Env.of []
def BB9:FuncId->Hint:=λ_=>aX
def AR3:aQ Tryz.prog BAM:=.nil _
def WR(a0:Int)(R:T->Prop):Prop:=aD (!decide (a0=a0)) (R (pPP (-1))) (aD (decide (a0<0)) (R (pPP (-1))) (aD (decide (0<a0)) (R (pPP 1)) (BQ6 R)))
abbrev ZN:Sh:=[(false,(Sy.int IntKind.i64))]
def G4 (n:Int):Option T:=some (T.v (Value.int .i64 (SD n)))
def pP:List T->Option T:=gS ZN G4
def AK8 {a0}:pP [pPP a0]=G4 (a0):=bA (s:=ZN) rfl (a0) rfl
def A7X:qM Tryz.prog 349 pP G4 (bY ZN) WR:=gK (a1:=(false,(Sy.int IntKind.i64))) (Hs:=BB9) (k:=8) AR3 aR aU (aL rfl) ⟨_,_,Tryz.func349,rfl⟩ rfl λ_ _=>by kernel_rfl
def vV (n:Int):pP [pPP n]=some (Sh.enc [(false,.int .i64)] (SD n)):=AK8 ..
def BAN:Env:=Env.of []
def BCA:FuncId->Hint:=λ_=>aX
def AR4:aQ Tryz.prog BAN:=.nil _
def WS(a0:Int)(R:T->Prop):Prop:=R (pPP (if 1<if a0 < -1 then -1 else a0 then 1 else if a0 < -1 then -1 else a0))
abbrev ZO:Sh:=[(false,(Sy.int IntKind.i64))]
def G5 (n:Int):Option T:=some (T.v (Value.int .i64 (SD n)))
def pQ:List T->Option T:=gS ZO G5
def AK9 {a0}:pQ [pPP a0]=G5 (a0):=bA (s:=ZO) rfl (a0) rfl
def A7Y:qM Tryz.prog 330 pQ G5 (bY ZO) WS:=gK (a1:=(false,(Sy.int IntKind.i64))) (Hs:=BCA) (k:=8) AR4 aR aU (aL rfl) ⟨_,_,Tryz.func330,rfl⟩ rfl λ_ _=>by kernel_rfl
def vW (n:Int):pQ [pPP n]=some (Sh.enc [(false,.int .i64)] (SD n)):=AK9 ..
def A4H:aM Tryz.prog 349 pP:=A7X λn r h hb=>by
 cases h;unfold WR BQ6;refine lA (λh=>absurd rfl h) λ_=>?_;exact bV (λh=>LI (by unfold SD;rw[if_pos h])) λh=>bV (λh2=>LI (by unfold SD;rw[if_neg h,if_pos h2])) λh2=>LI (by unfold SD;rw[if_neg h,if_neg h2])
def A4I:aM Tryz.prog 330 pQ:=A7Y λn r h hb=>by
 cases h;unfold WS;refine LI ?_;unfold SD;omega
def ARJ:Env:=Env.of []
def ASR:FuncId->Hint:=λ_=>aX
def AA8:aQ Tryz.prog ARJ:=.nil _
def WP(a2:aO)(a0:aO)(a1:aO)(R:T->Prop):Prop:=aD (decide (a2.1<=if a0.1<a1.1 then a1.1 else a0.1)) (aD (decide ((if a1.2<a0.2 then a1.2 else a0.2)<=a2.2)) (R (pPR (decide (a2.2<=if a0.2<a1.2 then a1.2 else a0.2)))) (R d3)) (R d3)
def HQ(a0:aO)(a1:aO)(a2:aO)(R:T->Prop):Prop:=aD (decide ((if a1.1<a0.1 then a1.1 else a0.1)<=a2.1)) (WP a2 a0 a1 R) (R d3)
abbrev JM:Sh:=[(true,aA),(true,aA),(true,aA)]
def wO (x:aO×aO×aO):Option T:=some (pPR (btw x.1 x.2.1 x.2.2))
def uL:List T->Option T:=gS JM wO
def YC {a0 a1 a2}:uL [aF true aA a0,aF true aA a1,aF true aA a2]=wO (a0,a1,a2):=bA (s:=JM) rfl (a0,a1,a2) rfl
def AMC:Of3 Tryz.prog 350 uL wO (bY JM) HQ:=S2 (a1:=(true,aA)) (a2:=(true,aA)) (a3:=(true,aA)) (Hs:=ASR) (k:=8) AA8 aR aU (aL rfl) ⟨_,_,Tryz.func350,rfl⟩ rfl λ_ _ _ _=>by kernel_rfl
def AKJ:aM Tryz.prog 350 uL:=AMC λa b c r h hb=>by
 cases h;unfold HQ WP d3;rw[YU,YU,YS,YS];refine bV (λh1=>bV (λh2=>bV (λh3=>jE ?_) λh3=>jE ?_) λh2=>jE ?_) λh1=>jE ?_
 all_goals simp[btw,h1]
 all_goals simp[h2]
 all_goals simp[h3]
def BN4:Env:=Env.of []
def BOP:FuncId->Hint:=λ_=>aX
def BBX:aQ Tryz.prog BN4:=.nil _
def A1I(a0:aO)(a1:aO)(a2:aO)(R:T->Prop):Prop:=aD (decide ((if a1.1<a0.1 then a1.1 else a0.1)<=a2.1)) (WP a2 a0 a1 R) (R d3)
abbrev A9P:Sh:=[(true,aA),(true,aA),(true,aA)]
abbrev AP7:Sh:=[(false,Sy.bool)]
def AML (y:Sh.den AP7) (K:Sh.den AP7->Prop):aI AP7 (some (Sh.enc AP7 y)) K=K y:=AM rfl y K
def RZ (x:aO×aO×aO):Option T:=some (pPR (btw x.1 x.2.1 x.2.2))
def fC:List T->Option T:=gS A9P RZ
def A55 {a0 a1 a2}:fC [aF true aA a0,aF true aA a1,aF true aA a2]=RZ (a0,a1,a2):=bA (s:=A9P) rfl (a0,a1,a2) rfl
def BMK:Of3 Tryz.prog 332 fC RZ (bY A9P) A1I:=S2 (a1:=(true,aA)) (a2:=(true,aA)) (a3:=(true,aA)) (Hs:=BOP) (k:=8) BBX aR aU (aL rfl) ⟨_,_,Tryz.func332,rfl⟩ rfl λ_ _ _ _=>by kernel_rfl
def BKN:aM Tryz.prog 332 fC:=BMK λa b c r h hb=>by
 cases h;unfold A1I WP d3;rw[YU,YU,YS,YS];refine bV (λh1=>bV (λh2=>bV (λh3=>jE ?_) λh3=>jE ?_) λh2=>jE ?_) λh1=>jE ?_
 all_goals simp[btw,h1]
 all_goals simp[h2]
 all_goals simp[h3]
def BN3:Env:=Env.of [(328,.pure gH),(350,.pure uL)]
def BOO:FuncId->Hint:=λ_=>aX
def BBR:aQ Tryz.prog BN3:=.cons AU (.cons AKJ (.nil _))
def GE(a0:aO)(a1:aO)(a2:aO):List T:=[aF true aA a0,aF true aA a1,aF true aA a2]
def A07(a0:aO)(a1:aO)(a2:aO)(R:T->Prop):Prop:=aI d7 (gH (GE a0 a1 a2)) λ(y0:Int)=>aD (decide (y0=0)) (aI d4 (uL (GE a0 a1 a2)) λ(y1:Bool)=>R (pPR y1)) (R d3)
abbrev A9O:Sh:=[(true,aA),(true,aA),(true,aA)]
def AAE (x:aO×aO×aO):Option T:=QF x.1 x.2.1 x.2.2 (pPR (YY x.1 x.2.1 x.2.2))
def yB:List T->Option T:=gS A9O AAE
def A5Y {a0 a1 a2}:yB [aF true aA a0,aF true aA a1,aF true aA a2]=AAE (a0,a1,a2):=bA (s:=A9O) rfl (a0,a1,a2) rfl
def BME:Of3 Tryz.prog 333 yB AAE (bY A9O) A07:=S2 (a1:=(true,aA)) (a2:=(true,aA)) (a3:=(true,aA)) (Hs:=BOO) (k:=8) BBR aR aU (aL rfl) ⟨_,_,Tryz.func333,rfl⟩ rfl λ_ _ _ _=>by kernel_rfl
def A4G:aM Tryz.prog 333 yB:=BME λa b c r h hb=>by
 obtain ⟨h1,h2,h3,rfl⟩:=QG h;unfold A07 GE d7 d4 d3;refine aH (s:=[(false,.int .i64)]) (j7 h1 h2 h3) ?_;refine bV (λh=>?_) λh=>jE (by unfold YY;rw[ai h];rfl);refine aH (s:=[(false,.bool)]) (y:=btw a b c) (YC ..) ?_;exact jE (by unfold YY;rw[ah h];rfl)
def yC {a b c:Pt} (h1:dQ a) (h2:dQ b) (h3:dQ c):yB [aF true aA a,aF true aA b,aF true aA c]=some (Sh.enc [(false,.bool)] (YY a b c)):=(A5Y ..).trans (QH _ h1 h2 h3)
def U1 (a b c d:Pt) (r:α):Option α:=match decide (dQ a/\dQ b/\dQ c/\dQ d) with
 | true=>some r
 | false=>none
def AFN {a b c d:Pt} {t r:α} (h:U1 a b c d t=some r):dQ a/\dQ b/\dQ c/\dQ d/\r=t:=by
 unfold U1 at h;split at h
 ·rename_i hc;cases h;obtain ⟨h1,h2,h3,h4⟩:=of_decide_eq_true hc;exact ⟨h1,h2,h3,h4,rfl⟩
 ·cases h
def AFO {a b c d:Pt} (t:α) (ha:dQ a) (hb:dQ b) (hc:dQ c) (hd:dQ d):U1 a b c d t=some t:=by unfold U1;rw[ah ⟨ha,hb,hc,hd⟩]
def BAL:Env:=Env.of [(328,.pure gH),(333,.pure yB),(349,.pure pP)]
def BB8:FuncId->Hint:=λ_=>aX
def AR2:aQ Tryz.prog BAL:=.cons AU (.cons A4G (.cons A4H (.nil _)))
def m9(a0:aO)(a1:aO)(a3:aO):List T:=[aF true aA a0,aF true aA a1, aF true aA a3]
def BRA(y4:Int):List T:=[pPP y4]
def WQ(a0:aO)(a1:aO)(a2:aO)(a3:aO)(R:T->Prop):Prop:=aI d4 (yB (GE a0 a1 a2)) λ(y0:Bool)=>aD y0 (R d6) (aI d4 (yB (GE a0 a1 a3)) λ(y1:Bool)=>aD y1 (R d6) (aI d4 (yB (GE a2 a3 a0)) λ(y2:Bool)=>aD y2 (R d6) (aI d4 (yB (GE a2 a3 a1)) λ(y3:Bool)=>aD y3 (R d6) (aI d7 (gH (GE a0 a1 a2)) λ(y4:Int)=>aI d7 (pP (BRA y4)) λ(y5:Int)=>aI d7 (gH (m9 a0 a1 a3)) λ(y6:Int)=>aI d7 (pP (BRA y6)) λ(y7:Int)=>aD (decide (i64.wrap (y5*y7)<0)) (aI d7 (gH (m9 a2 a3 a0)) λ(y8:Int)=>aI d7 (pP (BRA y8)) λ(y9:Int)=>aI d7 (gH (m9 a2 a3 a1)) λ(y10:Int)=>aI d7 (pP (BRA y10)) λ(y11:Int)=>R (pPR (decide (i64.wrap (y9*y11)<0)))) (R d3)))))
abbrev ZM:Sh:=[(true,aA),(true,aA),(true,aA),(true,aA)]
def G3 (x:aO×aO×aO×aO):Option T:=U1 x.1 x.2.1 x.2.2.1 x.2.2.2 (pPR (nC x.1 x.2.1 x.2.2.1 x.2.2.2))
def r8:List T->Option T:=gS ZM G3
def AK6 {a0 a1 a2 a3}:r8 [aF true aA a0,aF true aA a1,aF true aA a2,
 aF true aA a3]=G3 (a0,a1,a2,a3):=bA (s:=ZM) rfl (a0,a1,a2,a3) rfl
def A7W:Of4 Tryz.prog 329 r8 G3 (bY ZM) WQ:=BPQ (a1:=(true,aA)) (a2:=(true,aA)) (a3:=(true,aA)) (a4:=(true,aA)) (Hs:=BB8) (k:=8) AR2 aR aU (aL rfl) ⟨_,_,Tryz.func329,rfl⟩ rfl λ_ _ _ _ _=>by kernel_rfl
def A4F:aM Tryz.prog 329 r8:=A7W λa b c d r h hb=>by
 obtain ⟨h1,h2,h3,h4,rfl⟩:=AFN h;unfold WQ BRA GE m9 d7 d6 d4 d3;refine aH (s:=[(false,.bool)]) (yC h1 h2 h3) ?_;refine IU (λh=>jE (by unfold nC;rw[h];rfl)) λk1=>?_;refine aH (s:=[(false,.bool)]) (yC h1 h2 h4) ?_;refine IU (λh=>jE (by unfold nC;rw[h,k1];rfl)) λk2=>?_;refine aH (s:=[(false,.bool)]) (yC h3 h4 h1) ?_;refine IU (λh=>jE (by unfold nC;rw[h,k1,k2];rfl)) λk3=>?_;refine aH (s:=[(false,.bool)]) (yC h3 h4 h2) ?_;refine IU (λh=>jE (by unfold nC;rw[h,k1,k2,k3];rfl)) λk4=>?_;refine aH (s:=[(false,.int .i64)]) (j7 h1 h2 h3) ?_;refine aH (s:=[(false,.int .i64)]) (vV _) ?_;refine aH (s:=[(false,.int .i64)]) (j7 h1 h2 h4) ?_;refine aH (s:=[(false,.int .i64)]) (vV _) ?_;rw[HE];refine bV (λh=>?_) λh=>jE (by unfold nC;rw[k1,k2,k3,k4,ai h];rfl);refine aH (s:=[(false,.int .i64)]) (j7 h3 h4 h1) ?_;refine aH (s:=[(false,.int .i64)]) (vV _) ?_;refine aH (s:=[(false,.int .i64)]) (j7 h3 h4 h2) ?_;refine aH (s:=[(false,.int .i64)]) (vV _) ?_;rw[HE];exact jE (by unfold nC;rw[k1,k2,k3,k4,ah h];rfl)
def AK7 {a b c d:Pt} (h1:dQ a) (h2:dQ b) (h3:dQ c) (h4:dQ d):r8 [aF true aA a,aF true aA b,aF true aA c,aF true aA d]=some (Sh.enc [(false,.bool)] (nC a b c d)):=(AK6 ..).trans (AFO _ h1 h2 h3 h4)
def BH4:Env:=Env.of []
def BIQ:FuncId->Hint:=λ_=>aX
def AZH:aQ Tryz.prog BH4:=.nil _
def AIW(a0:aO)(R:T->Prop):Prop:=aD (decide (a0.1 < -32768)) (R d6) (aD (decide (32768<a0.1)) (R d6) (aD (decide (a0.2 < -32768)) (R d6) (R (pPR (decide (32768<a0.2))))))
abbrev AMZ:Sh:=[(true,aA)]
def MB (q:aO):Option T:=some (pPR (!decide (dQ q)))
def DX:List T->Option T:=gS AMZ MB
def UI {a0}:DX [aF true aA a0]=MB (a0):=bA (s:=AMZ) rfl (a0) rfl
def BFH:qM Tryz.prog 292 DX MB (bY AMZ) AIW:=gK (a1:=(true,aA)) (Hs:=BIQ) (k:=8) AZH aR aU (aL rfl) ⟨_,_,Tryz.func292,rfl⟩ rfl λ_ _=>by kernel_rfl
def AO5:aM Tryz.prog 292 DX:=BFH λq r h hb=>by
 cases h;unfold AIW d6;have no:¬ dQ q->true = !decide (dQ q):=λh=>by rw[ai h];rfl
 refine bV (λh=>jE (no (by unfold dQ;omega))) λh1=>bV (λh=>jE (no (by unfold dQ;omega))) λh2=>bV (λh=>jE (no (by unfold dQ;omega))) λh3=>jE ?_;by_cases h:dQ q
 ·rw[ah h,Bool.not_true];unfold dQ at h;exact ai (by omega)
 ·rw[ai h,Bool.not_false];unfold dQ at h;exact ah (by omega)
def A9U {n:Int}:SD n=0↔n=0:=by
 unfold SD;split
 ·omega
 ·split<;>omega
def AYW:Env:=Env.of [(331,.pure mZ),(330,.pure pQ),(332,.pure fC)]
def A2C:FuncId->Hint:=λ_=>aX
def AH5:aQ Tryz.prog AYW:=.cons AUH (.cons A4I (.cons BKN (.nil _)))
def RK(y5:Int)(a2:aO)(a3:aO)(a0:aO)(R:T->Prop)(y7:Int)(a1:aO):Prop:=aD (decide (y5=0)) (aI d4 (fC (m9 a2 a3 a0)) λ(y10:Bool)=>aD y10 (R d6) (aD (decide (y7=0)) (aI d4 (fC (m9 a2 a3 a1)) λ(y11:Bool)=>R (pPR y11)) (R d3))) (aD (decide (y7=0)) (aI d4 (fC (m9 a2 a3 a1)) λ(y12:Bool)=>R (pPR y12)) (R d3))
def f0(y3:Int)(a0:aO)(a1:aO)(a3:aO)(R:T->Prop)(y5:Int)(a2:aO)(y7:Int):Prop:=aD (decide (y3=0)) (aI d4 (fC (m9 a0 a1 a3)) λ(y9:Bool)=>aD y9 (R d6) (RK y5 a2 a3 a0 R y7 a1)) (RK y5 a2 a3 a0 R y7 a1)
def NX(a0:aO)(a1:aO)(a2:aO)(a3:aO)(R:T->Prop):Prop:=aI d7 (mZ (GE a0 a1 a2)) λ(y0:Int)=>aI d7 (pQ (BRA y0)) λ(y1:Int)=>aI d7 (mZ (GE a0 a1 a3)) λ(y2:Int)=>aI d7 (pQ (BRA y2)) λ(y3:Int)=>aI d7 (mZ (GE a2 a3 a0)) λ(y4:Int)=>aI d7 (pQ (BRA y4)) λ(y5:Int)=>aI d7 (mZ (GE a2 a3 a1)) λ(y6:Int)=>aI d7 (pQ (BRA y6)) λ(y7:Int)=>aD (decide (i64.wrap (y1*y3)<0)) (aD (decide (i64.wrap (y5*y7)<0)) (R d6) (aD (decide (y1=0)) (aI d4 (fC (m9 a0 a1 a2)) λ(y8:Bool)=>aD y8 (R d6) (f0 y3 a0 a1 a3 R y5 a2 y7)) (f0 y3 a0 a1 a3 R y5 a2 y7))) (aD (decide (y1=0)) (aI d4 (fC (m9 a0 a1 a2)) λ(y23:Bool)=>aD y23 (R d6) (f0 y3 a0 a1 a3 R y5 a2 y7)) (f0 y3 a0 a1 a3 R y5 a2 y7))
abbrev RI:Sh:=[(true,aA),(true,aA),(true,aA),(true,aA)]
def BZ (x:aO×aO×aO×aO):Option T:=U1 x.1 x.2.1 x.2.2.1 x.2.2.2 (pPR (nC x.1 x.2.1 x.2.2.1 x.2.2.2))
def yF:List T->Option T:=gS RI BZ
def AEW {a0 a1 a2 a3}:yF [aF true aA a0,aF true aA a1,aF true aA a2,
 aF true aA a3]=BZ (a0,a1,a2,a3):=bA (s:=RI) rfl (a0,a1,a2,a3) rfl
def AWR:Of4 Tryz.prog 296 yF BZ (bY RI) NX:=BPQ (a1:=(true,aA)) (a2:=(true,aA)) (a3:=(true,aA)) (a4:=(true,aA)) (Hs:=A2C) (k:=8) AH5 aR aU (aL rfl) ⟨_,_,Tryz.func296,rfl⟩ rfl λ_ _ _ _ _=>by kernel_rfl
def A84 (a b c:Pt) (K:Bool->Prop):aI [(false,Sy.bool)] (fC [aF true aA a,aF true aA b,aF true aA c]) K=K (btw a b c):=by
 rw[show fC [aF true aA a,aF true aA b,aF true aA c]=RZ (a,b,c) from A55 ..];exact AML _ K
def AUI:aM Tryz.prog 296 yF:=AWR λa b c d r h hb=>by
 obtain ⟨h1,h2,h3,h4,rfl⟩:=AFN h;unfold NX BRA GE f0 RK m9 d7 d6 d4 d3;refine aH (s:=[(false,.int .i64)]) (sA h1 h2 h3) ?_;refine aH (s:=[(false,.int .i64)]) (vW _) ?_;refine aH (s:=[(false,.int .i64)]) (sA h1 h2 h4) ?_;refine aH (s:=[(false,.int .i64)]) (vW _) ?_;refine aH (s:=[(false,.int .i64)]) (sA h3 h4 h1) ?_;refine aH (s:=[(false,.int .i64)]) (vW _) ?_;refine aH (s:=[(false,.int .i64)]) (sA h3 h4 h2) ?_;refine aH (s:=[(false,.int .i64)]) (vW _) ?_;rw[HE,HE];have e:∀ {n:Bool},nC a b c d=n->pPR n=pPR (nC a b c d):=λh=>by rw[h]
 simp only[A84];unfold nC at e;unfold YY at e;clear h hb
 repeat' first
  | refine bV (λh=>?_) (λh=>?_)
  | refine IU (λh=>?_) (λh=>?_)
 all_goals (refine e ?_;clear e;simp only[A9U] at *;simp[*,show SD 0=0 from rfl])
end Go.Pv
namespace Go.Pv
open Go Go.Proofs IntKind
def Y1 {p:List Pt} {i:Nat} (h:i<p.length):pt p i=p[i]:=by unfold pt;rw[List.getD_eq_getElem?_getD,List.getElem?_eq_getElem h];rfl
def fR {p:List aO} {k:Nat} (h:k<p.length) (K:aO->Prop):aP aA (List.map aA.enc p) (k:Int) K=K (pt p k):=by
 rw[bC (r:=aA) h,Y1 h]
def wA {i n c:Nat} (hn:n<=1000) (hi:i<=1000) (hc:c<=2):(i64.wrap ((i:Int)+(c:Int))).tmod (n:Int)=(((i+c) % n:Nat):Int):=by
 rw[bD _ (by omega) (by omega),Int.tmod_eq_emod_of_nonneg (by omega),Int.natCast_emod,Int.natCast_add]
def ATL (a b c:Pt):Int:=(a.1-b.1)*(c.1-b.1)+(a.2-b.2)*(c.2-b.2)
def S4 (p:List Pt) (i k:Nat):Bool:=!(!decide ((k+1) % p.length=i)&&nC (pt p i) (nx p i) (pt p k) (nx p k))
def nxx (p:List Pt) (i:Nat):Pt:=pt p ((i+2) % p.length)
def AFY (p:List Pt) (i:Nat):Bool:=!decide (pt p i=nx p i)&&(!(decide (eB (pt p i) (nx p i) (nxx p i)=0)&&decide (0<ATL (pt p i) (nx p i) (nxx p i)))&&(List.range p.length).all λk=>decide (k<i+2)||S4 p i k)
def K7 (p:List Pt):Bool:=(List.range p.length).all (AFY p)
def kQ (p:List Pt):Prop:=∀ q∈p,dQ q
def QI (p:List Pt):Bool:=p.all λq=>decide (dQ q)
def nY {p:List Pt}:QI p=true↔kQ p:=by
 simp only[QI,List.all_eq_true,ae];exact Iff.rfl
def kQ.pt {p:List Pt} (h:kQ p) (i:Nat):dQ (pt p i):=by
 rcases Nat.lt_or_ge i p.length with hi|hi
 ·rw[Y1 hi];exact h _ (aj hi)
 ·unfold Go.Pv.pt;rw[List.getD_eq_getElem?_getD,List.getElem?_eq_none hi];unfold dQ;decide
def S3 (p:List Pt):Bool:=decide (p.length<=1000)&&QI p
variable {α:Type}
def U5 (p:List Pt) (r:α):Option α:=match S3 p with
 | true=>some r
 | false=>none
def AF5 {p:List Pt} {t r:α} (h:U5 p t=some r):p.length<=1000/\kQ p/\r=t:=by
 unfold U5 at h;split at h
 ·rename_i hc;simp only[S3,ac,ae,nY] at hc;cases h;exact ⟨hc.1,hc.2,rfl⟩
 ·cases h
def AF6 {p:List Pt} (t:α) (h:p.length<=1000) (h2:kQ p):U5 p t=some t:=by
 unfold U5;rw[show S3 p=true by simp only[S3,ac,ae,nY];exact ⟨h,h2⟩]
def A96 {a b c:Pt} (ha:dQ a) (hb:dQ b) (hc:dQ c):i64.wrap (i64.wrap (i64.wrap (a.1-b.1)*i64.wrap (c.1-b.1))+i64.wrap (i64.wrap (a.2-b.2)*i64.wrap (c.2-b.2)))=ATL a b c:=by
 unfold dQ at ha hb hc;have h1:=D2 (x:=a.1-b.1) (y:=c.1-b.1) (M:=65536) (N:=65536) (by omega) (by omega) (by omega) (by omega);have h2:=D2 (x:=a.2-b.2) (y:=c.2-b.2) (M:=65536) (N:=65536) (by omega) (by omega) (by omega) (by omega);rw[bD (a.1-b.1) (by omega) (by omega),bD (c.2-b.2) (by omega) (by omega),bD (a.2-b.2) (by omega) (by omega),bD (c.1-b.1) (by omega) (by omega),
  bD ((a.1-b.1)*(c.1-b.1)) (by omega) (by omega),bD ((a.2-b.2)*(c.2-b.2)) (by omega) (by omega),bD _ (by omega) (by omega)]
 rfl
def ARH:Env:=Env.of [(328,.pure gH),(329,.pure r8)]
def ASP:FuncId->Hint:=bT 293 [(3,.inv [.val 13 false (.int .i64)]),(12,.inv [.val 8 false (.int .i64)])] (λ_=>aX)
def AA6:aQ Tryz.prog ARH:=.cons AU (.cons A4F (.nil _))
def i7(a0:List aO)(s1:Int×PUnit)(y2:aO)(y3:aO)(R:T->Prop)(X0:Int×PUnit->Prop):Prop:=a7 (Int×PUnit) (λX6 s7=>aD (decide (s7.1<(↑(g9 a0).length:Int))) (bH (!decide ((↑(g9 a0).length:Int)=0)) (aD (!decide ((i64.wrap (s7.1+1)).tmod (↑(g9 a0).length:Int) = s1.1)) (aP aA (g9 a0) s7.1 λ(y8:aO)=>bH (!decide ((↑(g9 a0).length:Int)=0)) (aP aA (g9 a0) ((i64.wrap (s7.1+1)).tmod (↑(g9 a0).length:Int)) λ(y9:aO)=>aI d4 (r8 [aF true aA y2,aF true aA y3, aF true aA y8,aF true aA y9]) λ(y10:Bool)=>aD y10 (R d3) (f9 X6 s7))) (f9 X6 s7))) (f9 X0 s1)) (i64.wrap (s1.1+2),())
def HO(a0:List aO)(R:T->Prop):Prop:=a7 (Int×PUnit) (λX0 s1=>aD (decide (s1.1<(↑(g9 a0).length:Int))) (aP aA (g9 a0) s1.1 λ(y2:aO)=>bH (!decide ((↑(g9 a0).length:Int)=0)) (aP aA (g9 a0) ((i64.wrap (s1.1+1)).tmod (↑(g9 a0).length:Int)) λ(y3:aO)=>aD (decide (y2.1=y3.1)&&(decide (y2.2=y3.2)&&true)) (R d3) (bH (!decide ((↑(g9 a0).length:Int)=0)) (aP aA (g9 a0) ((i64.wrap (s1.1+2)).tmod (↑(g9 a0).length:Int)) λ(y4:aO)=>aI d7 (gH (m9 y2 y3 y4)) λ(y5:Int)=>aD (decide (y5=0)) (aD (decide (0 < i64.wrap (i64.wrap (i64.wrap (y2.1-y3.1)*i64.wrap (y4.1-y3.1)) + i64.wrap (i64.wrap (y2.2-y3.2)*i64.wrap (y4.2-y3.2))))) (R d3) (i7 a0 s1 y2 y3 R X0)) (i7 a0 s1 y2 y3 R X0))))) (R d6)) (0,())
abbrev JK:Sh:=[(false,aA.li)]
def wM (p:List aO):Option T:=U5 p (pPR (K7 p))
def nU:List T->Option T:=gS JK wM
def XZ {a0}:nU [T.sl false (List.map aA.enc a0)]=wM (a0):=bA (s:=JK) rfl (a0) rfl
def AMA:qM Tryz.prog 293 nU wM (bY JK) HO:=gK (a1:=(false,aA.li)) (Hs:=ASP) (k:=8) AA6 aR aU (aL rfl) ⟨_,_,Tryz.func293,rfl⟩ rfl λ_ _=>by kernel_rfl
def W4 {n:Nat} {f:Nat->Bool} {i:Nat} (hi:i<n) (h:f i=false):(List.range n).all f=false:=by
 rw[Bool.eq_false_iff];intro ha;have:=pY.1 ha i hi;rw[h] at this;cases this
def AXF {p:List aO} {i:Nat} (hl:p.length<=1000) (hn:kQ p) (hi:i<p.length) {Bad Good:Prop} (hbad:(List.range p.length).all (λk=>decide (k<i+2)||S4 p i k)=false->Bad) (hgood:(List.range p.length).all (λk=>decide (k<i+2)||S4 p i k)=true->Good) :
  a7 (Int×PUnit)
   (λ(X6:Int×PUnit->Prop) (s7:Int×PUnit) =>
    aD (decide (s7.1<(↑(List.map aA.enc p).length:Int)))
     (bH (!decide ((↑(List.map aA.enc p).length:Int)=0))
      (aD (!decide ((i64.wrap (s7.1+1)).tmod (↑(List.map aA.enc p).length:Int)=(i:Int)))
       (aP aA (List.map aA.enc p) s7.1 λ(y8:aO) =>
        bH (!decide ((↑(List.map aA.enc p).length:Int)=0))
         (aP aA (List.map aA.enc p) ((i64.wrap (s7.1+1)).tmod (↑(List.map aA.enc p).length:Int))
          λ(y9:aO) =>
          aI [(false,Sy.bool)] (r8 [aF true aA (pt p i),aF true aA (nx p i),aF true aA y8,aF true aA y9])
           λ(y10:Bool)=>aD y10 Bad (X6 (i64.wrap (s7.1+1),()))))
       (X6 (i64.wrap (s7.1+1),()))))
     Good)
   (i64.wrap ((i:Int)+2),()):=by
 refine bI p.length (λm s=>s=(((i+2+m:Nat):Int),())/\∀ k,k<i+2+m->k<p.length->(decide (k<i+2)||S4 p i k)=true) ⟨by rw[bD _ (by omega) (by omega)];simp,λk h1 h2=>by simp at h1;simp[h1]⟩ ?_;rintro X m s hm ⟨rfl,hJ⟩ hX;dsimp only;rw[ad];refine bV (λhlt=>?_) λhge=>hgood (pY.2 λk hk=>hJ k (by omega) hk);have hk:i+2+m<p.length:=by omega
 have hne:(!decide ((p.length:Int)=0))=true:=by rw[ai (by omega)];rfl
 have hix:(i64.wrap (((i+2+m:Nat):Int)+1)).tmod (p.length:Int)=(((i+2+m+1) % p.length:Nat):Int):=wA (c:=1) hl (by omega) (by omega);have hw:i64.wrap (((i+2+m:Nat):Int)+1)=((i+2+(m+1):Nat):Int):=by rw[bD _ (by omega) (by omega)];omega
 have hmod:(i+2+m+1) % p.length<p.length:=Nat.mod_lt _ (by omega);have go:S4 p i (i+2+m)=true->X (((i+2+(m+1):Nat):Int),()):=λh=>hX _ (by omega) ⟨rfl,λk h1 h2=>by
  rcases Nat.lt_or_ge k (i+2+m) with h3|h3
  ·exact hJ k h3 h2
  ·have:k=i+2+m:=by omega
   subst this;rw[h];simp⟩
 refine ⟨hne,?_⟩;rw[hix,hw];refine lA (λh=>?_) λh=>go (by unfold S4;rw[ah (show (i+2+m+1) % p.length=i by omega)];rfl);rw[fR hk,A8Y,fR hmod];refine ⟨hne,?_⟩;refine aH (s:=[(false,.bool)]) (AK7 (hn.pt _) (hn.pt _) (hn.pt _) (hn.pt _)) ?_;have e:S4 p i (i+2+m) = !nC (pt p i) (nx p i) (pt p (i+2+m)) (nx p (i+2+m)):=by
  unfold S4;rw[ai (show ¬ (i+2+m+1) % p.length=i by omega)];rfl
 refine IU (λhm=>hbad (W4 hk ?_)) λhm=>go ?_
 ·show (decide (i+2+m<i+2)||S4 p i (i+2+m))=false;rw[e,show nC (pt p i) (nx p i) (pt p (i+2+m)) (nx p (i+2+m))=true from hm];simp
 ·rw[e,show nC (pt p i) (nx p i) (pt p (i+2+m)) (nx p (i+2+m))=false from hm];rfl
def AKI:aM Tryz.prog 293 nU:=AMA λp r h hb=>by
 obtain ⟨hl,hn,rfl⟩:=AF5 h;clear h;unfold HO i7 g9 f9 m9 d7 d6 d4 d3;refine bI p.length (λk s=>s=((k:Int),())/\∀ i,i<k->i<p.length->AFY p i=true) ⟨rfl,λi h=>by omega⟩ ?_;rintro X k s hk ⟨rfl,hJ⟩ hX;dsimp only;refine bV (λhlt=>?_) λhge=>jE (Eq.symm (pY.2 λi hi=>hJ i (by rw[ad] at hge;omega) hi));rw[ad] at hlt;have hlt:k<p.length:=by omega
 have hne:(!decide (((List.map aA.enc p).length:Int)=0))=true:=by rw[ad,ai (by omega)];rfl
 have hm1:(k+1) % p.length<p.length:=Nat.mod_lt _ (by omega);have hm2:(k+2) % p.length<p.length:=Nat.mod_lt _ (by omega);have i1:(i64.wrap ((k:Int)+1)).tmod ((List.map aA.enc p).length:Int)=(((k+1) % p.length:Nat):Int):=by rw[ad];exact wA (c:=1) hl (by omega) (by omega)
 have i2:(i64.wrap ((k:Int)+2)).tmod ((List.map aA.enc p).length:Int)=(((k+2) % p.length:Nat):Int):=by rw[ad];exact wA (c:=2) hl (by omega) (by omega)
 have bad:AFY p k=false->pPR false=pPR (K7 p):=λh=>jE (W4 hlt h).symm;have pR:AFY p k=true->X (i64.wrap ((k:Int)+1),()):=λh=>hX _ hlt ⟨by rw[show i64.wrap ((k:Int)+1)=((k+1:Nat):Int) from bD _ (by omega) (by omega)],λi h1 h2=>by
  rcases Nat.lt_or_ge i k with h3|h3
  ·exact hJ i h3 h2
  ·have:i=k:=by omega
   subst this;exact h⟩
 rw[fR hlt,i1];refine ⟨hne,?_⟩;rw[fR hm1];have heq:(decide ((pt p k).1=(pt p ((k+1) % p.length)).1)&&(decide ((pt p k).2=(pt p ((k+1) % p.length)).2)&&true))=decide (pt p k=nx p k):=by
  rw[Bool.and_true,<-Bool.decide_and];exact decide_eq_decide.2 Prod.ext_iff.symm
 rw[heq];refine bV (λh=>bad (by unfold AFY;rw[ah h];rfl)) λh1=>?_;refine ⟨hne,?_⟩;rw[i2,fR hm2];refine aH (s:=[(false,.int .i64)]) (j7 (hn.pt _) (hn.pt _) (hn.pt _)) ?_;have inner:(decide (eB (pt p k) (nx p k) (nxx p k)=0)&&decide (0<ATL (pt p k) (nx p k) (nxx p k)))=false->AFY p k=(List.range p.length).all λj=>decide (j<k+2)||S4 p k j:=λh=>by
  unfold AFY;rw[ai h1,h];simp
 have tail:(decide (eB (pt p k) (nx p k) (nxx p k)=0)&&decide (0<ATL (pt p k) (nx p k) (nxx p k)))=false->_:=λh=>AXF (Bad:=pPR false=pPR (K7 p)) (Good:=X (i64.wrap ((k:Int)+1),())) hl hn hlt (λh2=>bad (by rw[inner h,h2])) (λh2=>pR (by rw[inner h,h2]));refine bV (λh2=>?_) λh2=>tail (by rw[show decide (eB (pt p k) (nx p k) (nxx p k)=0)=false from ai h2];rfl);rw[A96 (hn.pt _) (hn.pt _) (hn.pt _)];refine bV (λh3=>bad ?_) λh3=>tail (by rw[show decide (0<ATL (pt p k) (nx p k) (nxx p k))=false from ai h3];simp);unfold AFY;rw[ah (show eB (pt p k) (nx p k) (nxx p k)=0 from h2),ah (show 0<ATL (pt p k) (nx p k) (nxx p k) from h3)];simp
def YA {p:List Pt} (h:p.length<=1000) (h2:kQ p):nU [T.sl false (List.map aA.enc p)]=some (Sh.enc [(false,.bool)] (K7 p)):=(XZ ..).trans (AF6 _ h h2)
def CG:Nat->(Nat->Int)->Int
 | 0,_=>0
 | n+1,f=>CG n f+f n
def ANE (p:List Pt) (i:Nat):Int:=(pt p i).1*(nx p i).2-(nx p i).1*(pt p i).2
def OH (p:List Pt):Int:=CG p.length (ANE p)
def AQL {p:List Pt} (h:kQ p) (i:Nat):(-1073741824<=(pt p i).1*(nx p i).2/\(pt p i).1*(nx p i).2<=1073741824)/\(-1073741824<=(nx p i).1*(pt p i).2/\(nx p i).1*(pt p i).2<=1073741824):=by
 have h1:=h.pt i;have h2:dQ (nx p i):=h.pt _;unfold dQ at h1 h2;have b1:=D2 (x:=(pt p i).1) (y:=(nx p i).2) (M:=32768) (N:=32768) (by omega) (by omega) (by omega) (by omega);have b2:=D2 (x:=(nx p i).1) (y:=(pt p i).2) (M:=32768) (N:=32768) (by omega) (by omega) (by omega) (by omega);constructor<;>constructor<;>omega
def LW {p:List Pt} (h:kQ p):∀ n:Nat,-(2147483648*(n:Int))<=CG n (ANE p)/\CG n (ANE p)<=2147483648*(n:Int)
 | 0=>by simp[CG]
 | n+1=>by
  have ih:=LW h n;have hb:=AQL h n;unfold CG;have e:ANE p n=(pt p n).1*(nx p n).2-(nx p n).1*(pt p n).2:=rfl;constructor<;>push_cast<;>omega
def BAI:Env:=Env.of []
def BB5:FuncId->Hint:=bT 294 [(3,.inv [.val 3 false (.int .i64),.val 9 false (.int .i64)])] (λ_=>aX)
def ARZ:aQ Tryz.prog BAI:=.nil _
def WM(a0:List aO)(R:T->Prop):Prop:=a7 (Int×Int×PUnit) (λX0 s1=>aD (decide (s1.2.1<(↑(g9 a0).length:Int))) (aP aA (g9 a0) s1.2.1 λ(y2:aO)=>bH (!decide ((↑(g9 a0).length:Int)=0)) (aP aA (g9 a0) ((i64.wrap (s1.2.1+1)).tmod (↑(g9 a0).length:Int)) λ(y3:aO)=>X0 (i64.wrap (s1.1 + i64.wrap (i64.wrap (y2.1*y3.2)-i64.wrap (y3.1*y2.2))), i64.wrap (s1.2.1+1),()))) (R (pPP s1.1))) (0,0,())
abbrev ZI:Sh:=[(false,aA.li)]
def G1 (p:List aO):Option T:=U5 p (T.v (Value.int .i64 (OH p)))
def pM:List T->Option T:=gS ZI G1
def AK4 {a0}:pM [T.sl false (List.map aA.enc a0)]=G1 (a0):=bA (s:=ZI) rfl (a0) rfl
def A7T:qM Tryz.prog 294 pM G1 (bY ZI) WM:=gK (a1:=(false,aA.li)) (Hs:=BB5) (k:=8) ARZ aR aU (aL rfl) ⟨_,_,Tryz.func294,rfl⟩ rfl λ_ _=>by kernel_rfl
def AC4:aM Tryz.prog 294 pM:=A7T λp r h hb=>by
 obtain ⟨hl,hn,rfl⟩:=AF5 h;clear h;unfold WM g9;refine bI p.length (λk s=>s=(CG k (ANE p),(k:Int),())) rfl ?_;rintro X k s hk rfl hX;dsimp only;refine bV (λhlt=>?_) λhge=>LI (by rw[ad] at hge;rw[show k=p.length by omega];rfl);rw[ad] at hlt;have hlt:k<p.length:=by omega
 have hne:(!decide (((List.map aA.enc p).length:Int)=0))=true:=by rw[ad,ai (by omega)];rfl
 have hm1:(k+1) % p.length<p.length:=Nat.mod_lt _ (by omega);have i1:(i64.wrap ((k:Int)+1)).tmod ((List.map aA.enc p).length:Int)=(((k+1) % p.length:Nat):Int):=by rw[ad];exact wA (c:=1) hl (by omega) (by omega)
 rw[fR hlt,i1];refine ⟨hne,?_⟩;rw[fR hm1];have hb1:=AQL hn k;have hb2:=LW hn k;have hb3:=LW hn (k+1);refine hX _ hlt ?_;rw[show i64.wrap ((k:Int)+1)=((k+1:Nat):Int) from bD _ (by omega) (by omega)];have e:i64.wrap (CG k (ANE p)+i64.wrap (i64.wrap ((pt p k).1*(nx p k).2)-i64.wrap ((nx p k).1*(pt p k).2)))=CG (k+1) (ANE p):=by
  rw[bD ((pt p k).1*(nx p k).2) (by omega) (by omega),bD ((nx p k).1*(pt p k).2) (by omega) (by omega),bD ((pt p k).1*(nx p k).2-(nx p k).1*(pt p k).2) (by omega) (by omega),bD _ (by omega) (by omega)];rfl
 rw[<-e];rfl
def PY {p:List Pt} (h:p.length<=1000) (h2:kQ p):pM [T.sl false (List.map aA.enc p)]=some (Sh.enc [(false,.int .i64)] (OH p)):=(AK4 ..).trans (AF6 _ h h2)
def kU (p:List Pt):Int:=if p.length<3 then 3 else if 32<p.length then 4 else if QI p=false then 9 else if K7 p=false\/OH p=0 then 17 else 0
def ARG:Env:=Env.of [(292,.pure DX),(293,.pure nU),(294,.pure pM)]
def ASO:FuncId->Hint:=bT 327 [(2,.inv [.val 8 false (.int .i64)])] (λ_=>aX)
def AA5:aQ Tryz.prog ARG:=.cons AO5 (.cons AKI (.cons AC4 (.nil _)))
def PP(a0:List aO)(R:T->Prop):Prop:=aI d4 (nU (BQ5 a0)) λ(y4:Bool)=>aD (!y4) (R (pPP 17)) (aI d7 (pM (BQ5 a0)) λ(y5:Int)=>aD (decide (y5=0)) (R (pPP 17)) (BQ6 R))
def HN(a0:List aO)(R:T->Prop):Prop:=aD (decide ((↑(g9 a0).length:Int)<3)) (R (pPP 3)) (aD (decide (32<(↑(g9 a0).length:Int))) (R (pPP 4)) (a7 (Int×PUnit) (λX0 s1=>aD (decide (s1.1<(↑(g9 a0).length:Int))) (aP aA (g9 a0) s1.1 λ(y2:aO)=>aI d4 (DX [aF true aA y2]) λ(y3:Bool)=>aD y3 (aD (decide (0<=s1.1)) (t8 R) (PP a0 R)) (f9 X0 s1)) (PP a0 R)) (0,())))
abbrev JJ:Sh:=[(false,aA.li)]
def wL (p:List aO):Option T:=some (T.v (Value.int .i64 (kU p)))
def gU:List T->Option T:=gS JJ wL
def XY {a0}:gU [T.sl false (List.map aA.enc a0)]=wL (a0):=bA (s:=JJ) rfl (a0) rfl
def AL9:qM Tryz.prog 170 gU wL (bY JJ) HN:=gK (a1:=(false,aA.li)) (Hs:=ASO) (k:=8) AA5 aR aU (aL rfl) ⟨_,_,Tryz.func170,rfl⟩ rfl λ_ _=>by kernel_rfl
def DR:aM Tryz.prog 170 gU:=AL9 λp r h hb=>by
 cases h;have is:∀ {n:Int},kU p=n->pPP n=pPP (kU p):=λh=>by rw[h]
 unfold HN PP BQ6 BQ5 g9 f9 t8 d7 d4;refine bV (λh=>is (by rw[ad] at h;unfold kU;rw[if_pos (by omega)])) λh1=>?_;refine bV (λh=>is (by rw[ad] at h h1;unfold kU;rw[if_neg (by omega),if_pos (by omega)])) λh2=>?_;rw[ad] at h1 h2;refine bI p.length (λk s=>s=((k:Int),())/\∀ i,i<k->i<p.length->dQ (pt p i)) ⟨rfl,λi h=>by omega⟩ ?_;rintro X k s hk ⟨rfl,hJ⟩ hX;dsimp only;refine bV (λhlt=>?_) λhge=>?_
 ·rw[ad] at hlt;have hlt:k<p.length:=by omega
  rw[fR hlt];refine aH (s:=[(false,.bool)]) (y:=!decide (dQ (pt p k))) (UI ..) ?_;refine lA (λhf=>?_) λhn=>hX _ hlt ⟨by rw[show i64.wrap ((k:Int)+1)=((k+1:Nat):Int) from bD _ (by omega) (by omega)],λi h1 h2=>by
   rcases Nat.lt_or_ge i k with h3|h3
   ·exact hJ i h3 h2
   ·have:i=k:=by omega
    subst this;exact hn⟩
  refine bV (λ_=>is ?_) λh=>by omega
  have:QI p=false:=by
   rw[Bool.eq_false_iff];intro h;have:=nY.1 h _ (aj hlt);rw[<-Y1 hlt] at this;exact hf this
  unfold kU;rw[if_neg (by omega),if_neg (by omega),if_pos this]
 ·have hN:kQ p:=λq hq=>by
   obtain ⟨i,hi,rfl⟩:=List.mem_iff_getElem.1 hq;rw[<-Y1 hi];rw[ad] at hge;exact hJ i (by omega) hi
  have hnb:¬ QI p=false:=by rw[nY.2 hN];simp
  refine aH (s:=[(false,.bool)]) (YA (by omega) hN) ?_;refine jI (λh=>is (by unfold kU;rw[if_neg (by omega),if_neg (by omega),if_neg hnb,if_pos (.inl h)])) λhs=>?_;refine aH (s:=[(false,.int .i64)]) (PY (by omega) hN) ?_;refine bV (λh=>is (by unfold kU;rw[if_neg (by omega),if_neg (by omega),if_neg hnb,if_pos (.inr h)])) λha=>is ?_;unfold kU;rw[if_neg (by omega),if_neg (by omega),if_neg hnb,if_neg];rintro (h|h)
  ·rw[show K7 p=true from hs] at h;cases h
  ·exact ha h
def pN (p:List Pt):gU [T.sl false (List.map aA.enc p)]=some (Sh.enc [(false,.int .i64)] (kU p)):=XY ..
def uV {p:List Pt} (h:kU p=0):3<=p.length/\p.length<=32/\kQ p/\K7 p=true/\OH p≠0:=by
 unfold kU at h;by_cases h1:p.length<3
 ·rw[if_pos h1] at h;cases h
 rw[if_neg h1] at h;by_cases h2:32<p.length
 ·rw[if_pos h2] at h;cases h
 rw[if_neg h2] at h;by_cases h3:QI p=false
 ·rw[if_pos h3] at h;cases h
 rw[if_neg h3] at h;by_cases h4:K7 p=false\/OH p=0
 ·rw[if_pos h4] at h;cases h
 refine ⟨by omega,by omega,nY.1 (by simpa using h3),by simpa using λe=>h4 (.inl e),λe=>h4 (.inr e)⟩
def rX (p:List Pt):Int:=if kU p=0 then OH p else 0
def AYH:Env:=Env.of [(170,.pure gU),(294,.pure pM)]
def A12:FuncId->Hint:=λ_=>aX
def AHU:aQ Tryz.prog AYH:=.cons DR (.cons AC4 (.nil _))
def NM(a0:List aO)(R:T->Prop):Prop:=aI d7 (gU (BQ5 a0)) λ(y0:Int)=>aD (!decide (y0=0)) (BQ6 R) (aI d7 (pM (BQ5 a0)) λ(y1:Int)=>R (pPP y1))
abbrev Q8:Sh:=[(false,aA.li)]
def BR (p:List aO):Option T:=some (T.v (Value.int .i64 (rX p)))
def mW:List T->Option T:=gS Q8 BR
def AD6 {a0}:mW [T.sl false (List.map aA.enc a0)]=BR (a0):=bA (s:=Q8) rfl (a0) rfl
def AWG:qM Tryz.prog 171 mW BR (bY Q8) NM:=gK (a1:=(false,aA.li)) (Hs:=A12) (k:=8) AHU aR aU (aL rfl) ⟨_,_,Tryz.func171,rfl⟩ rfl λ_ _=>by kernel_rfl
def T3:aM Tryz.prog 171 mW:=AWG λp r h hb=>by
 cases h;unfold NM BQ6 BQ5 g9 d7;refine aH (s:=[(false,.int .i64)]) (pN p) ?_;refine lA (λh=>LI (by unfold rX;rw[if_neg h])) λh=>?_;obtain ⟨_,h2,h3,_⟩:=uV h;refine aH (s:=[(false,.int .i64)]) (PY (by omega) h3) ?_;exact LI (by unfold rX;rw[if_pos h])
def yA (p:List Pt):mW [T.sl false (List.map aA.enc p)]=some (Sh.enc [(false,.int .i64)] (rX p)):=AD6 ..
end Go.Pv
end
