/-
  Facts on the program that every function's file asks for.
  slices.Clone, Insert, Delete at the design's lists.
  The seam, the part, the section with an identifier.
  The part with an identifier, as the program finds it; how thick a seam is.
  Words that several files share.
  The way from the block down to a part.
  Packages; equality of lists, shapes, parts and packages.
  StructureFinds: Part, Node, Seam and Package answer as the reference does.
  StructureSames: Same answers as the reference does.
  edit.same; copies of parts, packages, designs.
  Chapter 17: the indices of a design, walked.
  Chapter 17: rising, walked.
  strings.Split on typed data.
  Names and identifiers.
  Chapter 17: the tree's form, walked.
  Chapter 17: the tree's other methods where a design's elements are empty, and Check there.
  Chapter 17: the tree's seams and requirements.
  dag.Order, walked.
  Chapter 17: the tree's parts and packages, walked; Check, walked.
  Plane geometry, plain.
  poly: crosses and edges.
  poly: simple contours and their areas.
-/
import Derived.Test.YtdeckddpmegjeaaGreatDoorPv3ki
import Derived.Test.YtdeckddpmegjeaaGreatDoorPv3ty
import Derived.Test.YtdeckddpmegjeaaGreatDoorProg
import Derived.KernelRfl
import Derived.Test.YtdeckddpmegjeaaGreatDoorPv3in
import Derived.Test.YtdeckddpmegjeaaGreatDoorPv3kj
import Derived.Test.YtdeckddpmegjeaaGreatDoorPv3kn
import Derived.Test.YtdeckddpmegjeaaGreatDoorPv3gs
import Derived.Test.YtdeckddpmegjeaaGreatDoorPv3sl
import Derived.Laws.RangeAny
import Derived.Test.YtdeckddpmegjeaaGreatDoorPv3km
set_option linter.defProp false
set_option linter.unusedSimpArgs false
set_option linter.unusedVariables false
namespace Go.Pv
open Go Go.Proofs
theorem aU:Tryz.prog.follows .mixedOrders=true:=by kernel_rfl
theorem aY:cG Tryz.prog=true:=by kernel_rfl
end Go.Pv
set_option maxRecDepth 100000
namespace Go.Pv
open Go Go.Proofs
theorem oI {P:Program} {t:TypeId} {zv:Value} {z b:Nat} (h:(P.info? t).map (fun i=>(i.zero,i.size,i.bytes))=some (some zv,z,b)):∃ i,P.info? t=some i∧i.zero=some zv∧i.size=z∧i.bytes=b:=by
 simp only[Option.map_eq_some_iff,Prod.mk.injEq] at h
 obtain ⟨i,h1,h2,h3,h4⟩:=h
 exact ⟨i,h1,h2,h3,h4⟩
def VQ:Value:=.agg #[.string ⟨#[]⟩,.int .i64 0,.string ⟨#[]⟩]
def VP:Value:=.agg #[.int .i64 0,.string ⟨#[]⟩,.string ⟨#[]⟩]
def VS:Value:=.agg #[.string ⟨#[]⟩,.string ⟨#[]⟩,.string ⟨#[]⟩,.int .i64 0,.int .i64 0,.int .i64 0]
def yV:Value:=.agg #[.string ⟨#[]⟩,.string ⟨#[]⟩,.slice none 0 0,.int .i64 0,.slice none 0 0]
def VR:Value:=.agg #[.string ⟨#[]⟩,.int .i64 0,.int .i64 0,.string ⟨#[]⟩,.string ⟨#[]⟩,.int .i64 0,.slice none 0 0,.slice none 0 0,.string ⟨#[]⟩,.int .i64 0,.int .i64 0,.int .i64 0,.int .i64 0,.int .i64 0,.int .i64 0,.int .i64 0,.int .i64 0,.int .i64 0]
def AYI:Go.Shelf.Ren:=⟨fun|22=>246|29=>288|30=>289|n=>n,fun|9=>34|24=>22|n=>n,fun|n=>n⟩
theorem AWM:N7 Tryz.prog AYI 3 40 VQ:={
 mixed:=aU
 f22:=Exists.intro ("slices.Insert[[]shipyard/api.Node,shipyard/api.Node]") ⟨by decide,Tryz.func246.trans (congrArg some (by kernel_rfl))⟩
 ov:=fun args w=>run_callFunc_extern (P:=Tryz.prog) (f:=288) (e:=Extern.SlicesOverlaps.overlaps #[22,22] #[4]) Tryz.func288 (by kernel_rfl) (by kernel_rfl) (by kernel_rfl) (by kernel_rfl) args w
 t0:=by kernel_rfl
 a0:=fun _=>by kernel_rfl
 z0:=fun _=>by kernel_rfl
 v0:=fun _=>by kernel_rfl
 t3:=by kernel_rfl
 a3:=fun _=>by kernel_rfl
 z3:=fun _=>by kernel_rfl
 v3:=fun _=>by kernel_rfl
 t4:=by kernel_rfl
 a4:=fun _=>by kernel_rfl
 z4:=fun _=>by kernel_rfl
 v4:=fun _=>by kernel_rfl
 z9:=fun _=>by kernel_rfl
 t24:=by kernel_rfl
 a24:=fun _=>by kernel_rfl
 z24:=fun _=>by kernel_rfl
 v24:=fun _=>by kernel_rfl
 i9:=oI (by kernel_rfl) }
def sC:List (List T)→List T→Option (List (List T)):=TC 3 40
theorem AD7:cM Tryz.prog 246 (jL 3 sC) :=
 nQ AWM (by decide) rfl (by decide) ⟨_,Tryz.func246,rfl,rfl⟩
def AYE:Go.Shelf.Ren:=⟨fun|45=>247|n=>n,fun|23=>34|22=>22|n=>n,fun|n=>n⟩
theorem AT7:ABF Tryz.prog AYE 3 VQ:={
 mixed:=aU
 f45:=Exists.intro ("slices.Delete[[]shipyard/api.Node,shipyard/api.Node]") ⟨by decide,Tryz.func247.trans (congrArg some (by kernel_rfl))⟩
 t0:=by kernel_rfl
 a0:=fun _=>by kernel_rfl
 z0:=fun _=>by kernel_rfl
 v0:=fun _=>by kernel_rfl
 t3:=by kernel_rfl
 a3:=fun _=>by kernel_rfl
 z3:=fun _=>by kernel_rfl
 v3:=fun _=>by kernel_rfl
 t4:=by kernel_rfl
 a4:=fun _=>by kernel_rfl
 z4:=fun _=>by kernel_rfl
 v4:=fun _=>by kernel_rfl
 t22:=by kernel_rfl
 a22:=fun _=>by kernel_rfl
 z22:=fun _=>by kernel_rfl
 v22:=fun _=>by kernel_rfl
 z23:=fun _=>by kernel_rfl
 v23:=fun _=>by kernel_rfl
 i23:=by
  obtain ⟨i,h1,_,h2,_⟩:=oI (P:=Tryz.prog) (t:=34) (zv:=VQ) (z:=3) (b:=40) (by kernel_rfl)
  exact ⟨i,h1,h2⟩ }
def EL:List (List T)→List T→Option (List (List T)):=TB 3
theorem AD4:cM Tryz.prog 247 (jL 3 EL) :=
 nP AT7 rfl (by decide) ⟨_,Tryz.func247,rfl,rfl⟩
def AAR:Go.Shelf.Ren:=⟨fun|41=>70|n=>n,fun|23=>34|22=>22|n=>n,fun|n=>n⟩
theorem ATV:SlLaysE0.n41 Tryz.prog AAR:={
 mixed:=aU
 f41:=Exists.intro ("slices.Clone[[]shipyard/api.Node,shipyard/api.Node]") ⟨by decide,Tryz.func70.trans (congrArg some (by kernel_rfl))⟩
 t4:=by kernel_rfl
 a4:=fun _=>by kernel_rfl
 z4:=fun _=>by kernel_rfl
 v4:=fun _=>by kernel_rfl
 t22:=by kernel_rfl
 a22:=fun _=>by kernel_rfl
 z22:=fun _=>by kernel_rfl
 v22:=fun _=>by kernel_rfl }
theorem ANC:∃ i0,(Tryz.prog).info? (AAR.t 23)=some i0∧i0.zero=some VQ∧i0.size=3∧i0.bytes=40:=oI (by kernel_rfl)
theorem AP:cM Tryz.prog 70 (AV 3 40) :=
 o3 ATV ANC (fun _=>by kernel_rfl) (by decide) rfl (by decide) ⟨_,Tryz.func70,rfl,rfl⟩
def AYH:Go.Shelf.Ren:=⟨fun|22=>264|29=>296|30=>297|n=>n,fun|9=>51|24=>26|n=>n,fun|n=>n⟩
theorem AWL:N7 Tryz.prog AYH 3 40 VP:={
 mixed:=aU
 f22:=Exists.intro ("slices.Insert[[]shipyard/api.Need,shipyard/api.Need]") ⟨by decide,Tryz.func264.trans (congrArg some (by kernel_rfl))⟩
 ov:=fun args w=>run_callFunc_extern (P:=Tryz.prog) (f:=296) (e:=Extern.SlicesOverlaps.overlaps #[26,26] #[4]) Tryz.func296 (by kernel_rfl) (by kernel_rfl) (by kernel_rfl) (by kernel_rfl) args w
 t0:=by kernel_rfl
 a0:=fun _=>by kernel_rfl
 z0:=fun _=>by kernel_rfl
 v0:=fun _=>by kernel_rfl
 t3:=by kernel_rfl
 a3:=fun _=>by kernel_rfl
 z3:=fun _=>by kernel_rfl
 v3:=fun _=>by kernel_rfl
 t4:=by kernel_rfl
 a4:=fun _=>by kernel_rfl
 z4:=fun _=>by kernel_rfl
 v4:=fun _=>by kernel_rfl
 z9:=fun _=>by kernel_rfl
 t24:=by kernel_rfl
 a24:=fun _=>by kernel_rfl
 z24:=fun _=>by kernel_rfl
 v24:=fun _=>by kernel_rfl
 i9:=oI (by kernel_rfl) }
def jZ:List (List T)→List T→Option (List (List T)):=TC 3 40
theorem LC:cM Tryz.prog 264 (jL 3 jZ) :=
 nQ AWL (by decide) rfl (by decide) ⟨_,Tryz.func264,rfl,rfl⟩
def AYD:Go.Shelf.Ren:=⟨fun|45=>265|n=>n,fun|23=>51|22=>26|n=>n,fun|n=>n⟩
theorem AT6:ABF Tryz.prog AYD 3 VP:={
 mixed:=aU
 f45:=Exists.intro ("slices.Delete[[]shipyard/api.Need,shipyard/api.Need]") ⟨by decide,Tryz.func265.trans (congrArg some (by kernel_rfl))⟩
 t0:=by kernel_rfl
 a0:=fun _=>by kernel_rfl
 z0:=fun _=>by kernel_rfl
 v0:=fun _=>by kernel_rfl
 t3:=by kernel_rfl
 a3:=fun _=>by kernel_rfl
 z3:=fun _=>by kernel_rfl
 v3:=fun _=>by kernel_rfl
 t4:=by kernel_rfl
 a4:=fun _=>by kernel_rfl
 z4:=fun _=>by kernel_rfl
 v4:=fun _=>by kernel_rfl
 t22:=by kernel_rfl
 a22:=fun _=>by kernel_rfl
 z22:=fun _=>by kernel_rfl
 v22:=fun _=>by kernel_rfl
 z23:=fun _=>by kernel_rfl
 v23:=fun _=>by kernel_rfl
 i23:=by
  obtain ⟨i,h1,_,h2,_⟩:=oI (P:=Tryz.prog) (t:=51) (zv:=VP) (z:=3) (b:=40) (by kernel_rfl)
  exact ⟨i,h1,h2⟩ }
def xU:List (List T)→List T→Option (List (List T)):=TB 3
theorem LB:cM Tryz.prog 265 (jL 3 xU) :=
 nP AT6 rfl (by decide) ⟨_,Tryz.func265,rfl,rfl⟩
def AAQ:Go.Shelf.Ren:=⟨fun|41=>72|n=>n,fun|23=>51|22=>26|n=>n,fun|n=>n⟩
theorem ATU:SlLaysE0.n41 Tryz.prog AAQ:={
 mixed:=aU
 f41:=Exists.intro ("slices.Clone[[]shipyard/api.Need,shipyard/api.Need]") ⟨by decide,Tryz.func72.trans (congrArg some (by kernel_rfl))⟩
 t4:=by kernel_rfl
 a4:=fun _=>by kernel_rfl
 z4:=fun _=>by kernel_rfl
 v4:=fun _=>by kernel_rfl
 t22:=by kernel_rfl
 a22:=fun _=>by kernel_rfl
 z22:=fun _=>by kernel_rfl
 v22:=fun _=>by kernel_rfl }
theorem ANB:∃ i0,(Tryz.prog).info? (AAQ.t 23)=some i0∧i0.zero=some VP∧i0.size=3∧i0.bytes=40:=oI (by kernel_rfl)
theorem AO:cM Tryz.prog 72 (AV 3 40) :=
 o3 ATU ANB (fun _=>by kernel_rfl) (by decide) rfl (by decide) ⟨_,Tryz.func72,rfl,rfl⟩
def AYK:Go.Shelf.Ren:=⟨fun|22=>254|29=>292|30=>293|n=>n,fun|9=>46|24=>24|n=>n,fun|n=>n⟩
theorem AWO:N7 Tryz.prog AYK 6 72 VS:={
 mixed:=aU
 f22:=Exists.intro ("slices.Insert[[]shipyard/api.Seam,shipyard/api.Seam]") ⟨by decide,Tryz.func254.trans (congrArg some (by kernel_rfl))⟩
 ov:=fun args w=>run_callFunc_extern (P:=Tryz.prog) (f:=292) (e:=Extern.SlicesOverlaps.overlaps #[24,24] #[4]) Tryz.func292 (by kernel_rfl) (by kernel_rfl) (by kernel_rfl) (by kernel_rfl) args w
 t0:=by kernel_rfl
 a0:=fun _=>by kernel_rfl
 z0:=fun _=>by kernel_rfl
 v0:=fun _=>by kernel_rfl
 t3:=by kernel_rfl
 a3:=fun _=>by kernel_rfl
 z3:=fun _=>by kernel_rfl
 v3:=fun _=>by kernel_rfl
 t4:=by kernel_rfl
 a4:=fun _=>by kernel_rfl
 z4:=fun _=>by kernel_rfl
 v4:=fun _=>by kernel_rfl
 z9:=fun _=>by kernel_rfl
 t24:=by kernel_rfl
 a24:=fun _=>by kernel_rfl
 z24:=fun _=>by kernel_rfl
 v24:=fun _=>by kernel_rfl
 i9:=oI (by kernel_rfl) }
def sE:List (List T)→List T→Option (List (List T)):=TC 6 72
theorem AD9:cM Tryz.prog 254 (jL 6 sE) :=
 nQ AWO (by decide) rfl (by decide) ⟨_,Tryz.func254,rfl,rfl⟩
def AYG:Go.Shelf.Ren:=⟨fun|45=>255|n=>n,fun|23=>46|22=>24|n=>n,fun|n=>n⟩
theorem AT9:ABF Tryz.prog AYG 6 VS:={
 mixed:=aU
 f45:=Exists.intro ("slices.Delete[[]shipyard/api.Seam,shipyard/api.Seam]") ⟨by decide,Tryz.func255.trans (congrArg some (by kernel_rfl))⟩
 t0:=by kernel_rfl
 a0:=fun _=>by kernel_rfl
 z0:=fun _=>by kernel_rfl
 v0:=fun _=>by kernel_rfl
 t3:=by kernel_rfl
 a3:=fun _=>by kernel_rfl
 z3:=fun _=>by kernel_rfl
 v3:=fun _=>by kernel_rfl
 t4:=by kernel_rfl
 a4:=fun _=>by kernel_rfl
 z4:=fun _=>by kernel_rfl
 v4:=fun _=>by kernel_rfl
 t22:=by kernel_rfl
 a22:=fun _=>by kernel_rfl
 z22:=fun _=>by kernel_rfl
 v22:=fun _=>by kernel_rfl
 z23:=fun _=>by kernel_rfl
 v23:=fun _=>by kernel_rfl
 i23:=by
  obtain ⟨i,h1,_,h2,_⟩:=oI (P:=Tryz.prog) (t:=46) (zv:=VS) (z:=6) (b:=72) (by kernel_rfl)
  exact ⟨i,h1,h2⟩ }
def EN:List (List T)→List T→Option (List (List T)):=TB 6
theorem AD6:cM Tryz.prog 255 (jL 6 EN) :=
 nP AT9 rfl (by decide) ⟨_,Tryz.func255,rfl,rfl⟩
def AAT:Go.Shelf.Ren:=⟨fun|41=>71|n=>n,fun|23=>46|22=>24|n=>n,fun|n=>n⟩
theorem ATX:SlLaysE0.n41 Tryz.prog AAT:={
 mixed:=aU
 f41:=Exists.intro ("slices.Clone[[]shipyard/api.Seam,shipyard/api.Seam]") ⟨by decide,Tryz.func71.trans (congrArg some (by kernel_rfl))⟩
 t4:=by kernel_rfl
 a4:=fun _=>by kernel_rfl
 z4:=fun _=>by kernel_rfl
 v4:=fun _=>by kernel_rfl
 t22:=by kernel_rfl
 a22:=fun _=>by kernel_rfl
 z22:=fun _=>by kernel_rfl
 v22:=fun _=>by kernel_rfl }
theorem ANF:∃ i0,(Tryz.prog).info? (AAT.t 23)=some i0∧i0.zero=some VS∧i0.size=6∧i0.bytes=72:=oI (by kernel_rfl)
theorem AR:cM Tryz.prog 71 (AV 6 72) :=
 o3 ATX ANF (fun _=>by kernel_rfl) (by decide) rfl (by decide) ⟨_,Tryz.func71,rfl,rfl⟩
def AAV:Go.Shelf.Ren:=⟨fun|22=>258|29=>294|30=>295|n=>n,fun|9=>49|24=>25|n=>n,fun|n=>n⟩
theorem ZI:N7 Tryz.prog AAV 5 88 yV:={
 mixed:=aU
 f22:=Exists.intro ("slices.Insert[[]shipyard/api.Package,shipyard/api.Package]") ⟨by decide,Tryz.func258.trans (congrArg some (by kernel_rfl))⟩
 ov:=fun args w=>run_callFunc_extern (P:=Tryz.prog) (f:=294) (e:=Extern.SlicesOverlaps.overlaps #[25,25] #[4]) Tryz.func294 (by kernel_rfl) (by kernel_rfl) (by kernel_rfl) (by kernel_rfl) args w
 t0:=by kernel_rfl
 a0:=fun _=>by kernel_rfl
 z0:=fun _=>by kernel_rfl
 v0:=fun _=>by kernel_rfl
 t3:=by kernel_rfl
 a3:=fun _=>by kernel_rfl
 z3:=fun _=>by kernel_rfl
 v3:=fun _=>by kernel_rfl
 t4:=by kernel_rfl
 a4:=fun _=>by kernel_rfl
 z4:=fun _=>by kernel_rfl
 v4:=fun _=>by kernel_rfl
 z9:=fun _=>by kernel_rfl
 t24:=by kernel_rfl
 a24:=fun _=>by kernel_rfl
 z24:=fun _=>by kernel_rfl
 v24:=fun _=>by kernel_rfl
 i9:=oI (by kernel_rfl) }
def l8:List (List T)→List T→Option (List (List T)):=TC 5 88
theorem OG:cM Tryz.prog 258 (jL 5 l8) :=
 nQ ZI (by decide) rfl (by decide) ⟨_,Tryz.func258,rfl,rfl⟩
def AAU:Go.Shelf.Ren:=⟨fun|45=>256|n=>n,fun|23=>49|22=>25|n=>n,fun|n=>n⟩
theorem XH:ABF Tryz.prog AAU 5 yV:={
 mixed:=aU
 f45:=Exists.intro ("slices.Delete[[]shipyard/api.Package,shipyard/api.Package]") ⟨by decide,Tryz.func256.trans (congrArg some (by kernel_rfl))⟩
 t0:=by kernel_rfl
 a0:=fun _=>by kernel_rfl
 z0:=fun _=>by kernel_rfl
 v0:=fun _=>by kernel_rfl
 t3:=by kernel_rfl
 a3:=fun _=>by kernel_rfl
 z3:=fun _=>by kernel_rfl
 v3:=fun _=>by kernel_rfl
 t4:=by kernel_rfl
 a4:=fun _=>by kernel_rfl
 z4:=fun _=>by kernel_rfl
 v4:=fun _=>by kernel_rfl
 t22:=by kernel_rfl
 a22:=fun _=>by kernel_rfl
 z22:=fun _=>by kernel_rfl
 v22:=fun _=>by kernel_rfl
 z23:=fun _=>by kernel_rfl
 v23:=fun _=>by kernel_rfl
 i23:=by
  obtain ⟨i,h1,_,h2,_⟩:=oI (P:=Tryz.prog) (t:=49) (zv:=yV) (z:=5) (b:=88) (by kernel_rfl)
  exact ⟨i,h1,h2⟩ }
def l7:List (List T)→List T→Option (List (List T)):=TB 5
theorem zK:cM Tryz.prog 256 (jL 5 l7) :=
 nP XH rfl (by decide) ⟨_,Tryz.func256,rfl,rfl⟩
def G8:Go.Shelf.Ren:=⟨fun|41=>74|n=>n,fun|23=>49|22=>25|n=>n,fun|n=>n⟩
theorem XA:SlLaysE0.n41 Tryz.prog G8:={
 mixed:=aU
 f41:=Exists.intro ("slices.Clone[[]shipyard/api.Package,shipyard/api.Package]") ⟨by decide,Tryz.func74.trans (congrArg some (by kernel_rfl))⟩
 t4:=by kernel_rfl
 a4:=fun _=>by kernel_rfl
 z4:=fun _=>by kernel_rfl
 v4:=fun _=>by kernel_rfl
 t22:=by kernel_rfl
 a22:=fun _=>by kernel_rfl
 z22:=fun _=>by kernel_rfl
 v22:=fun _=>by kernel_rfl }
theorem TO:∃ i0,(Tryz.prog).info? (G8.t 23)=some i0∧i0.zero=some yV∧i0.size=5∧i0.bytes=88:=oI (by kernel_rfl)
theorem nC:cM Tryz.prog 74 (AV 5 88) :=
 o3 XA TO (fun _=>by kernel_rfl) (by decide) rfl (by decide) ⟨_,Tryz.func74,rfl,rfl⟩
def AYJ:Go.Shelf.Ren:=⟨fun|22=>251|29=>290|30=>291|n=>n,fun|9=>44|24=>23|n=>n,fun|n=>n⟩
theorem AWN:N7 Tryz.prog AYJ 18 208 VR:={
 mixed:=aU
 f22:=Exists.intro ("slices.Insert[[]shipyard/api.Part,shipyard/api.Part]") ⟨by decide,Tryz.func251.trans (congrArg some (by kernel_rfl))⟩
 ov:=fun args w=>run_callFunc_extern (P:=Tryz.prog) (f:=290) (e:=Extern.SlicesOverlaps.overlaps #[23,23] #[4]) Tryz.func290 (by kernel_rfl) (by kernel_rfl) (by kernel_rfl) (by kernel_rfl) args w
 t0:=by kernel_rfl
 a0:=fun _=>by kernel_rfl
 z0:=fun _=>by kernel_rfl
 v0:=fun _=>by kernel_rfl
 t3:=by kernel_rfl
 a3:=fun _=>by kernel_rfl
 z3:=fun _=>by kernel_rfl
 v3:=fun _=>by kernel_rfl
 t4:=by kernel_rfl
 a4:=fun _=>by kernel_rfl
 z4:=fun _=>by kernel_rfl
 v4:=fun _=>by kernel_rfl
 z9:=fun _=>by kernel_rfl
 t24:=by kernel_rfl
 a24:=fun _=>by kernel_rfl
 z24:=fun _=>by kernel_rfl
 v24:=fun _=>by kernel_rfl
 i9:=oI (by kernel_rfl) }
def sD:List (List T)→List T→Option (List (List T)):=TC 18 208
theorem AD8:cM Tryz.prog 251 (jL 18 sD) :=
 nQ AWN (by decide) rfl (by decide) ⟨_,Tryz.func251,rfl,rfl⟩
def AYF:Go.Shelf.Ren:=⟨fun|45=>252|n=>n,fun|23=>44|22=>23|n=>n,fun|n=>n⟩
theorem AT8:ABF Tryz.prog AYF 18 VR:={
 mixed:=aU
 f45:=Exists.intro ("slices.Delete[[]shipyard/api.Part,shipyard/api.Part]") ⟨by decide,Tryz.func252.trans (congrArg some (by kernel_rfl))⟩
 t0:=by kernel_rfl
 a0:=fun _=>by kernel_rfl
 z0:=fun _=>by kernel_rfl
 v0:=fun _=>by kernel_rfl
 t3:=by kernel_rfl
 a3:=fun _=>by kernel_rfl
 z3:=fun _=>by kernel_rfl
 v3:=fun _=>by kernel_rfl
 t4:=by kernel_rfl
 a4:=fun _=>by kernel_rfl
 z4:=fun _=>by kernel_rfl
 v4:=fun _=>by kernel_rfl
 t22:=by kernel_rfl
 a22:=fun _=>by kernel_rfl
 z22:=fun _=>by kernel_rfl
 v22:=fun _=>by kernel_rfl
 z23:=fun _=>by kernel_rfl
 v23:=fun _=>by kernel_rfl
 i23:=by
  obtain ⟨i,h1,_,h2,_⟩:=oI (P:=Tryz.prog) (t:=44) (zv:=VR) (z:=18) (b:=208) (by kernel_rfl)
  exact ⟨i,h1,h2⟩ }
def EM:List (List T)→List T→Option (List (List T)):=TB 18
theorem AD5:cM Tryz.prog 252 (jL 18 EM) :=
 nP AT8 rfl (by decide) ⟨_,Tryz.func252,rfl,rfl⟩
def AAS:Go.Shelf.Ren:=⟨fun|41=>73|n=>n,fun|23=>44|22=>23|n=>n,fun|n=>n⟩
theorem ATW:SlLaysE0.n41 Tryz.prog AAS:={
 mixed:=aU
 f41:=Exists.intro ("slices.Clone[[]shipyard/api.Part,shipyard/api.Part]") ⟨by decide,Tryz.func73.trans (congrArg some (by kernel_rfl))⟩
 t4:=by kernel_rfl
 a4:=fun _=>by kernel_rfl
 z4:=fun _=>by kernel_rfl
 v4:=fun _=>by kernel_rfl
 t22:=by kernel_rfl
 a22:=fun _=>by kernel_rfl
 z22:=fun _=>by kernel_rfl
 v22:=fun _=>by kernel_rfl }
theorem ANE:∃ i0,(Tryz.prog).info? (AAS.t 23)=some i0∧i0.zero=some VR∧i0.size=18∧i0.bytes=208:=oI (by kernel_rfl)
theorem AQ:cM Tryz.prog 73 (AV 18 208) :=
 o3 ATW ANE (fun _=>by kernel_rfl) (by decide) rfl (by decide) ⟨_,Tryz.func73,rfl,rfl⟩
def BEB:Value:=.slice none 0 0
def AI2:Go.Shelf.Ren:=⟨fun|41=>69|n=>n,fun|23=>35|22=>36|n=>n,fun|n=>n⟩
theorem A2H:SlLaysE0.n41 Tryz.prog AI2:={
 mixed:=aU
 f41:=Exists.intro ("slices.Clone[[][]shipyard/api.Point,[]shipyard/api.Point]") ⟨by decide,Tryz.func69.trans (congrArg some (by kernel_rfl))⟩
 t4:=by kernel_rfl
 a4:=fun _=>by kernel_rfl
 z4:=fun _=>by kernel_rfl
 v4:=fun _=>by kernel_rfl
 t22:=by kernel_rfl
 a22:=fun _=>by kernel_rfl
 z22:=fun _=>by kernel_rfl
 v22:=fun _=>by kernel_rfl }
theorem AWJ:∃ i0,(Tryz.prog).info? (AI2.t 23)=some i0∧i0.zero=some BEB∧i0.size=1∧i0.bytes=24:=oI (by kernel_rfl)
theorem AMB:cM Tryz.prog 69 (AV 1 24) :=
 o3 A2H AWJ (fun _=>by kernel_rfl) (by decide) rfl (by decide) ⟨_,Tryz.func69,rfl,rfl⟩
end Go.Pv
namespace Go.Pv
open Go Go.Proofs
def pZ (d:aB) (id:ByteArray):Option bI:=d.2.2.2.1.find? fun s=>decide (s.1=id)
def partOf (d:aB) (id:ByteArray):Option aV:=d.2.2.1.find? fun s=>decide (s.1=id)
def fG (d:aB) (id:ByteArray):Option bE:=d.2.1.find? fun s=>decide (s.1=id)
def NO (m:aH) (n:ByteArray):Option cJ:=m.2.find? fun s=>decide (s.1=n)
def gU:bI:=(⟨#[]⟩,⟨#[]⟩,⟨#[]⟩,0,0,0)
def gT:bE:=(⟨#[]⟩,0,⟨#[]⟩)
def dY:aV:=(⟨#[]⟩,0,0,⟨#[]⟩,⟨#[]⟩,0,([],[]),⟨#[]⟩,0,0,(0,0,0),(0,0,0),0)
def zR:cJ:=(⟨#[]⟩,0,0,0)
def found {α:Type} (no:α) (o:Option α):α×Bool:=match o with
 | some s=>(s,true)
 | none=>(no,false)
def rA (x:aB×ByteArray):Option T:=some (Sh.enc [(true,a7),(false,.bool)] (found gU (pZ x.1 x.2)))
def U7 (x:aB×ByteArray):Option T:=some (Sh.enc [(true,aM),(false,.bool)] (found dY (partOf x.1 x.2)))
def q8 (x:aB×ByteArray):Option T:=some (Sh.enc [(true,a6),(false,.bool)] (found gT (fG x.1 x.2)))
def mY (x:aH×ByteArray):Option T:=some (Sh.enc [(true,bT),(false,.bool)] (found zR (NO x.1 x.2)))
noncomputable def A6P:Env:=Env.of []
def A62:FuncId→Hint:=bX 160 [(2,.inv [.val 11 false (.int .i64),.fix 1])] (fun _=>aZ)
theorem AQZ:aT Tryz.prog A6P:=.nil _
def d5:T:=T.v (.string {data:=#[]})
def m9(a0:aB):List (List T):=List.map a7.enc a0.2.2.2.1
def AC1(a0:aB)(a1:ByteArray)(R:T→Prop):Prop:=fZ (bC.rows false [[D.p d5,D.p d5, D.p d5,D.p (T.v (.int .i64 0)), D.p (T.v (.int .i64 0)),D.p (T.v (.int .i64 0))]]) (bC.rows false [[D.p d5,D.p d5, D.p d5,D.p (T.v (.int .i64 0)), D.p (T.v (.int .i64 0)),D.p (T.v (.int .i64 0))]]) (bA (Int×PUnit×PUnit) (fun X0 s1=>aC (decide (s1.1<(↑(m9 a0).length:Int))) (aR a7 (m9 a0) s1.1 fun (y2:bI)=>aC (decide (y2.1=a1)) (R (T.cA [aI true a7 y2,T.v (.bool true)])) (fZ (bC.rows false [[D.p d5, D.p d5, D.p d5, D.p (T.v (.int .i64 0)), D.p (T.v (.int .i64 0)), D.p (T.v (.int .i64 0))]]) (bC.rows false [[D.p d5, D.p d5, D.p d5, D.p (T.v (.int .i64 0)), D.p (T.v (.int .i64 0)), D.p (T.v (.int .i64 0))]]) (X0 (IntKind.i64.wrap (s1.1+1),(),())))) (R (T.cA [T.agg [T.v (.string {data:=#[]}),T.v (.string {data:=#[]}), T.v (.string {data:=#[]}),T.v (.int .i64 0), T.v (.int .i64 0),T.v (.int .i64 0)], T.v (.bool false)]))) (0,(),()))
abbrev AGE:Sh:=[(true,aE),(false,Sy.str)]
noncomputable def A0:List T→Option T:=gS AGE rA
theorem P9 {a0 a1}:A0 [aI true aE a0,T.v (.string a1)]=rA (a0,a1):=bG (s:=AGE) rfl (a0,a1) rfl
theorem A4H:rQ Tryz.prog 160 A0 rA (cD AGE) AC1:=gZ (a1:=(true,aE)) (a2:=(false,Sy.str)) (sp:=rA) (F:=AC1) (Hs:=A62) (f:=160) (k:=8) AQZ aU aY (aN rfl) ⟨_,_,Tryz.func160,rfl⟩ rfl fun _ _ _=>by kernel_rfl
theorem AH5:aO Tryz.prog 160 A0:=A4H fun d id r h hb=>by
 have hl:d.2.2.2.1.length≤2 ^ 47:=hb.1.2.2.2.1.1
 unfold AC1 m9 d5
 rw[cZ]
 refine bM d.2.2.2.1.length (fun k s=>s=((k:Int),(),())∧(d.2.2.2.1.drop k).find? (fun s=>decide (s.1=id))=pZ d id) ⟨rfl,rfl⟩ ?_
 rintro X k s hk ⟨rfl,hf⟩ hX
 simp only[List.length_map,E0,cZ]
 by_cases hlt:k<d.2.2.2.1.length
 ·rw[o5 hlt] at hf
  simp only[hlt,decide_true,aC,bH (r:=a7) hlt]
  cases hc:decide (d.2.2.2.1[k].1=id) with
  | true =>
   simp only[hc,if_true] at hf
   simp only[rA,rA,←hf] at h
   cases h;rfl
  | false =>
   simp only[hc] at hf
   refine hX _ hlt ⟨?_,hf⟩
   simp only[Prod.mk.injEq,and_true]
   exact bD _ (by omega) (by omega)
 ·have:k=d.2.2.2.1.length:=by omega
  subst this
  simp only[List.drop_length,List.find?_nil] at hf
  simp only[rA,rA,←hf] at h
  simp only[hlt,decide_false,aC]
  cases h;rfl
noncomputable def A6K:Env:=Env.of []
def A6X:FuncId→Hint:=bX 112 [(2,.inv [.val 11 false (.int .i64),.fix 1])] (fun _=>aZ)
theorem AQU:aT Tryz.prog A6K:=.nil _
def t6(a0:aB):List (List T):=List.map a6.enc a0.2.1
def ACV(a0:aB)(a1:ByteArray)(R:T→Prop):Prop:=fZ (bC.rows false [[D.p d5,D.p (T.v (.int .i64 0)), D.p d5]]) (bC.rows false [[D.p d5,D.p (T.v (.int .i64 0)), D.p d5]]) (bA (Int×PUnit×PUnit) (fun X0 s1=>aC (decide (s1.1<(↑(t6 a0).length:Int))) (aR a6 (t6 a0) s1.1 fun (y2:bE)=>aC (decide (y2.1=a1)) (R (T.cA [aI true a6 y2,T.v (.bool true)])) (fZ (bC.rows false [[D.p d5, D.p (T.v (.int .i64 0)), D.p d5]]) (bC.rows false [[D.p d5, D.p (T.v (.int .i64 0)), D.p d5]]) (X0 (IntKind.i64.wrap (s1.1+1),(),())))) (R (T.cA [T.agg [T.v (.string {data:=#[]}),T.v (.int .i64 0), T.v (.string {data:=#[]})], T.v (.bool false)]))) (0,(),()))
abbrev AF9:Sh:=[(true,aE),(false,Sy.str)]
noncomputable def AX:List T→Option T:=gS AF9 q8
theorem PW {a0 a1}:AX [aI true aE a0,T.v (.string a1)]=q8 (a0,a1):=bG (s:=AF9) rfl (a0,a1) rfl
theorem A4C:rQ Tryz.prog 112 AX q8 (cD AF9) ACV:=gZ (a1:=(true,aE)) (a2:=(false,Sy.str)) (sp:=q8) (F:=ACV) (Hs:=A6X) (f:=112) (k:=8) AQU aU aY (aN rfl) ⟨_,_,Tryz.func112,rfl⟩ rfl fun _ _ _=>by kernel_rfl
theorem AH1:aO Tryz.prog 112 AX:=A4C fun d id r h hb=>by
 have hl:d.2.1.length≤2 ^ 47:=hb.1.2.1.1
 unfold ACV t6 d5
 rw[cZ]
 refine bM d.2.1.length (fun k s=>s=((k:Int),(),())∧(d.2.1.drop k).find? (fun s=>decide (s.1=id))=fG d id) ⟨rfl,rfl⟩ ?_
 rintro X k s hk ⟨rfl,hf⟩ hX
 simp only[List.length_map,E0,cZ]
 by_cases hlt:k<d.2.1.length
 ·rw[o5 hlt] at hf
  simp only[hlt,decide_true,aC,bH (r:=a6) hlt]
  cases hc:decide (d.2.1[k].1=id) with
  | true =>
   simp only[hc,if_true] at hf
   simp only[q8,q8,←hf] at h
   cases h;rfl
  | false =>
   simp only[hc] at hf
   refine hX _ hlt ⟨?_,hf⟩
   simp only[Prod.mk.injEq,and_true]
   exact bD _ (by omega) (by omega)
 ·have:k=d.2.1.length:=by omega
  subst this
  simp only[List.drop_length,List.find?_nil] at hf
  simp only[q8,q8,←hf] at h
  simp only[hlt,decide_false,aC]
  cases h;rfl
noncomputable def AKA:Env:=Env.of []
def AK8:FuncId→Hint:=bX 310 [(2,.inv [.val 8 false (.int .i64)])] (fun _=>aZ)
theorem V6:aT Tryz.prog AKA:=.nil _
def f8(X0:Int×PUnit→Prop)(s1:Int×PUnit):Prop:=X0 (IntKind.i64.wrap (s1.1+1),())
def BEY:List T:=[T.agg [T.v (.string {data:=#[]}),T.v (.int .i64 0), T.v (.int .i64 0),T.v (.int .i64 0)], T.v (.bool false)]
def DX(a0:aH)(a1:ByteArray)(R:T→Prop):Prop:=bA (Int×PUnit) (fun X0 s1=>aC (decide (s1.1<(↑(List.map bT.enc a0.2).length:Int))) (aR bT (List.map bT.enc a0.2) s1.1 fun (y2:cJ)=>aC (decide (y2.1=a1)) (aC (decide (s1.1<0)) (R (T.cA BEY)) (aR bT (List.map bT.enc a0.2) s1.1 fun (y3:cJ)=>R (T.cA [aI true bT y3,T.v (.bool true)]))) (f8 X0 s1)) (R (T.cA BEY))) (0,())
abbrev FK:Sh:=[(true,aK),(false,Sy.str)]
noncomputable def cN:List T→Option T:=gS FK mY
theorem TL {a0 a1}:cN [aI true aK a0,T.v (.string a1)]=mY (a0,a1):=bG (s:=FK) rfl (a0,a1) rfl
theorem AFR:rQ Tryz.prog 284 cN mY (cD FK) DX:=gZ (a1:=(true,aK)) (a2:=(false,Sy.str)) (sp:=mY) (F:=DX) (Hs:=AK8) (f:=284) (k:=8) V6 aU aY (aN rfl) ⟨_,_,Tryz.func284,rfl⟩ rfl fun _ _ _=>by kernel_rfl
theorem LF:aO Tryz.prog 284 cN:=AFR fun m n r h hb=>by
 have hl:m.2.length≤2 ^ 47:=hb.1.2.1
 unfold DX BEY f8
 refine bM m.2.length (fun k s=>s=((k:Int),())∧(m.2.drop k).find? (fun s=>decide (s.1=n))=NO m n) ⟨rfl,rfl⟩ ?_
 rintro X k s hk ⟨rfl,hf⟩ hX
 simp only[List.length_map,E0]
 by_cases hlt:k<m.2.length
 ·rw[o5 hlt] at hf
  have h0:¬ ((k:Int)<0):=by omega
  simp only[hlt,decide_true,aC,bH (r:=bT) hlt,h0,decide_false]
  cases hc:decide (m.2[k].1=n) with
  | true =>
   simp only[hc,if_true] at hf
   simp only[mY,←hf] at h
   cases h;rfl
  | false =>
   simp only[hc] at hf
   refine hX _ hlt ⟨?_,hf⟩
   simp only[Prod.mk.injEq,and_true]
   exact bD _ (by omega) (by omega)
 ·have:k=m.2.length:=by omega
  subst this
  simp only[List.drop_length,List.find?_nil] at hf
  simp only[mY,←hf] at h
  simp only[hlt,decide_false,aC]
  cases h;rfl
end Go.Pv
namespace Go.Pv
open Go Go.Proofs
theorem ADS:RQ Tryz.prog 68 2 16:=⟨fun R=>by kernel_rfl,fun fl R=>by kernel_rfl,fun fl a rows R=>by kernel_rfl⟩
noncomputable def jY:List T→Option T:=gS [(false,.li aA)] (eP aA 16)
theorem oO {u0}:jY [T.sl false (List.map (Sy.enc aA) u0)]=eP aA 16 u0:=bG (s:=[(false,.li aA)]) rfl u0 rfl
theorem K9:aO Tryz.prog 68 jY:=D7 aU aY ⟨_,_,Tryz.func68,rfl⟩ ADS
theorem W8:ABE Tryz.prog 69 1 24:=⟨fun R=>by kernel_rfl,fun fl R=>by kernel_rfl,fun fl a rows R=>by kernel_rfl⟩
noncomputable def tT:List T→Option (List (List T)):=gS [(false,.li (.li aA))] (oZ (.li aA) 24)
theorem OH {u0}:tT [T.sl false (List.map (Sy.enc (.li aA)) u0)]=oZ (.li aA) 24 u0:=bG (s:=[(false,.li (.li aA))]) rfl u0 rfl
theorem XP:eR Tryz.prog 69 tT:=ALO aU aY ⟨_,_,Tryz.func69,rfl⟩ W8
def kR (b:Nat) (n:Nat):Bool:=decide (n*b≤140737488355328)&&decide (n≤140737488355328)
def CT (s:jA):Bool:=kR 16 s.1.length&&kR 24 s.2.length&&s.2.all fun h=>kR 16 h.length
def gV (p:aV):Bool:=CT p.2.2.2.2.2.2.1
def T6 (d:aB):Bool:=d.2.2.1.all gV
theorem iP {r:Sy} {b:Nat} {l:List r.den} (h:kR b l.length=true):oZ r b l=some (List.map r.enc l):=by
 unfold oZ;unfold kR at h;rw[h]
def kU (x:aB×ByteArray):Option T:=match T6 x.1 with
 | true=>U7 x
 | false=>none
noncomputable def AZ5:Env:=Env.of [(68,.pure jY),(69,.fresh tT)]
def A1O:FuncId→Hint:=bX 35 [(2,.inv [.val 13 false (.int .i64),.fix 1]),(7,.alt [.val 37 false (.int .i64),.arr 4 1 (.li aA)] [.val 37 false (.int .i64)])] (fun _=>aZ)
theorem AKK:aT Tryz.prog AZ5:=.cons K9 (.cons XP (.nil _))
def d8:T:=T.v (Value.slice none 0 0)
def eI:Sh:=[(false,aA.li)]
def GT(a0:aB):List (List T):=List.map aM.enc a0.2.2.1
def f9(y7:List aP):List (List T):=List.map aA.enc y7
def v6(y2:aV):List (List T):=List.map aA.li.enc y2.2.2.2.2.2.2.1.2
def M2(s12:Int×List (List aP)×PUnit):List (List T):=List.map aA.li.enc s12.2.1
def BE0(y7:List aP):List T:=[T.sl false (f9 y7)]
def BE8(y2:aV):List (List T):=List.map aA.enc y2.2.2.2.2.2.2.1.1
def R8(a0:aB)(a1:ByteArray)(R:T→Prop):Prop:=fZ (bC.rows false [[D.p d5,D.p (T.v (.int .i64 0)), D.p (T.v (.int .i64 0)),D.p d5, D.p d5,D.p (T.v (.int .i64 0)), D.p d8,D.p d8, D.p d5,D.p (T.v (.int .i64 0)), D.p (T.v (.int .i64 0)),D.p (T.v (.int .i64 0)), D.p (T.v (.int .i64 0)),D.p (T.v (.int .i64 0)), D.p (T.v (.int .i64 0)),D.p (T.v (.int .i64 0)), D.p (T.v (.int .i64 0)),D.p (T.v (.int .i64 0))]]) (bC.rows false [[D.p d5,D.p (T.v (.int .i64 0)), D.p (T.v (.int .i64 0)),D.p d5, D.p d5,D.p (T.v (.int .i64 0)), D.p d8,D.p d8, D.p d5,D.p (T.v (.int .i64 0)), D.p (T.v (.int .i64 0)),D.p (T.v (.int .i64 0)), D.p (T.v (.int .i64 0)),D.p (T.v (.int .i64 0)), D.p (T.v (.int .i64 0)),D.p (T.v (.int .i64 0)), D.p (T.v (.int .i64 0)),D.p (T.v (.int .i64 0))]]) (bA (Int×PUnit×PUnit) (fun X0 s1=>aC (decide (s1.1<(↑(GT a0).length:Int))) (aR aM (GT a0) s1.1 fun (y2:aV)=>aC (decide (y2.1=a1)) (aJ eI (jY [T.sl false (BE8 y2)]) fun (y3:List aP)=>bP aA.li (tT [T.sl false (v6 y2)]) fun (y4:List (List aP))=>aC y4.isEmpty (bA (Int×PUnit) (fun X5 s6=>aC (decide (s6.1<(↑0:Int))) (aR aA.li [] s6.1 fun (y7:List aP)=>aJ eI (jY (BE0 y7)) fun (y8:List aP)=>aR aA.li [] s6.1 fun (y9:List aP)=>mL 104) (R (T.cA [T.agg [T.v (.string y2.1),T.v (.int .i64 y2.2.1), T.v (.int .i64 y2.2.2.1), T.v (.string y2.2.2.2.1), T.v (.string y2.2.2.2.2.1), T.v (.int .i64 y2.2.2.2.2.2.1), T.sl false (f9 y3),T.sl false [], T.v (.string y2.2.2.2.2.2.2.2.1), T.v (.int .i64 y2.2.2.2.2.2.2.2.2.1), T.v (.int .i64 y2.2.2.2.2.2.2.2.2.2.1), T.v (.int .i64 y2.2.2.2.2.2.2.2.2.2.2.1.1), T.v (.int .i64 y2.2.2.2.2.2.2.2.2.2.2.1.2.1), T.v (.int .i64 y2.2.2.2.2.2.2.2.2.2.2.1.2.2), T.v (.int .i64 y2.2.2.2.2.2.2.2.2.2.2.2.1.1), T.v (.int .i64 y2.2.2.2.2.2.2.2.2.2.2.2.1.2.1), T.v (.int .i64 y2.2.2.2.2.2.2.2.2.2.2.2.1.2.2), T.v (.int .i64 y2.2.2.2.2.2.2.2.2.2.2.2.2)], T.v (.bool true)]))) (0,())) (lT aA.li (List.map aA.li.enc y4) fun (y10:List (List aP))=>bA (Int×List (List aP)×PUnit) (fun X11 s12=>aC (decide (s12.1<(↑(List.map aA.li.enc y4).length:Int))) (aR aA.li (M2 s12) s12.1 fun (y13:List aP)=>eU aA.li (M2 s12) (Int.toNat s12.1) 0 fun (y14:List aP)=>aJ eI (jY (BE0 y14)) fun (y15:List aP)=>aR aA.li (M2 s12) s12.1 fun (y16:List aP)=>C3 (M2 s12) (Int.toNat s12.1) fun (y17:List T)=>bN (decide (1≤y17.length)) (lT aA.li ((M2 s12).set (Int.toNat s12.1) (bU y17 0 (BE0 y15))) fun (y18:List (List aP))=>X11 (IntKind.i64.wrap (s12.1+1),y18,()))) (R (T.cA [T.agg [T.v (.string y2.1), T.v (.int .i64 y2.2.1), T.v (.int .i64 y2.2.2.1), T.v (.string y2.2.2.2.1), T.v (.string y2.2.2.2.2.1), T.v (.int .i64 y2.2.2.2.2.2.1), T.sl false (f9 y3), T.sl false (M2 s12), T.v (.string y2.2.2.2.2.2.2.2.1), T.v (.int .i64 y2.2.2.2.2.2.2.2.2.1), T.v (.int .i64 y2.2.2.2.2.2.2.2.2.2.1), T.v (.int .i64 y2.2.2.2.2.2.2.2.2.2.2.1.1), T.v (.int .i64 y2.2.2.2.2.2.2.2.2.2.2.1.2.1), T.v (.int .i64 y2.2.2.2.2.2.2.2.2.2.2.1.2.2), T.v (.int .i64 y2.2.2.2.2.2.2.2.2.2.2.2.1.1), T.v (.int .i64 y2.2.2.2.2.2.2.2.2.2.2.2.1.2.1), T.v (.int .i64 y2.2.2.2.2.2.2.2.2.2.2.2.1.2.2), T.v (.int .i64 y2.2.2.2.2.2.2.2.2.2.2.2.2)], T.v (.bool true)]))) (0,y10,()))) (fZ (bC.rows false [[D.p d5, D.p (T.v (.int .i64 0)), D.p (T.v (.int .i64 0)), D.p d5, D.p d5, D.p (T.v (.int .i64 0)), D.p d8,D.p d8, D.p d5, D.p (T.v (.int .i64 0)), D.p (T.v (.int .i64 0)), D.p (T.v (.int .i64 0)), D.p (T.v (.int .i64 0)), D.p (T.v (.int .i64 0)), D.p (T.v (.int .i64 0)), D.p (T.v (.int .i64 0)), D.p (T.v (.int .i64 0)), D.p (T.v (.int .i64 0))]]) (bC.rows false [[D.p d5, D.p (T.v (.int .i64 0)), D.p (T.v (.int .i64 0)), D.p d5, D.p d5, D.p (T.v (.int .i64 0)), D.p d8,D.p d8, D.p d5, D.p (T.v (.int .i64 0)), D.p (T.v (.int .i64 0)), D.p (T.v (.int .i64 0)), D.p (T.v (.int .i64 0)), D.p (T.v (.int .i64 0)), D.p (T.v (.int .i64 0)), D.p (T.v (.int .i64 0)), D.p (T.v (.int .i64 0)), D.p (T.v (.int .i64 0))]]) (X0 (IntKind.i64.wrap (s1.1+1),(),())))) (R (T.cA [T.agg [T.v (.string {data:=#[]}),T.v (.int .i64 0), T.v (.int .i64 0),T.v (.string {data:=#[]}), T.v (.string {data:=#[]}),T.v (.int .i64 0), T.sl false [],T.sl false [],T.v (.string {data:=#[]}), T.v (.int .i64 0),T.v (.int .i64 0), T.v (.int .i64 0),T.v (.int .i64 0), T.v (.int .i64 0),T.v (.int .i64 0), T.v (.int .i64 0),T.v (.int .i64 0), T.v (.int .i64 0)], T.v (.bool false)]))) (0,(),()))
abbrev UO:Sh:=[(true,aE),(false,Sy.str)]
noncomputable def kZ:List T→Option T:=gS UO kU
theorem pP {a0 a1}:kZ [aI true aE a0,T.v (.string a1)]=kU (a0,a1):=bG (s:=UO) rfl (a0,a1) rfl
theorem AXT:rQ Tryz.prog 35 kZ kU (cD UO) R8:=gZ (a1:=(true,aE)) (a2:=(false,Sy.str)) (sp:=kU) (F:=R8) (Hs:=A1O) (f:=35) (k:=8) AKK aU aY (aN rfl) ⟨_,_,Tryz.func35,rfl⟩ rfl fun _ _ _=>by kernel_rfl
theorem B4:aO Tryz.prog 35 kZ:=AXT fun d id r h hb=>by
 have hl:d.2.2.1.length≤2 ^ 47:=hb.1.2.2.1.1
 unfold kU at h
 split at h
 ·rename_i hok
  unfold R8 BE8 BE0 M2 v6 f9 GT eI d8 d5
  rw[cZ]
  refine bM d.2.2.1.length (fun k s=>s=((k:Int),(),())∧(d.2.2.1.drop k).find? (fun s=>decide (s.1=id))=partOf d id) ⟨rfl,rfl⟩ ?_
  rintro X k s hk ⟨rfl,hf⟩ hX
  simp only[List.length_map,E0,cZ]
  by_cases hlt:k<d.2.2.1.length
  ·rw[o5 hlt] at hf
   have hp:gV d.2.2.1[k]=true:=List.all_eq_true.1 hok _ (List.getElem_mem hlt)
   simp only[hlt,decide_true,aC,bH (r:=aM) hlt]
   generalize d.2.2.1[k]=p at *
   unfold gV CT at hp
   simp only[Bool.and_eq_true] at hp
   obtain ⟨⟨hp1,hp2⟩,hp3⟩:=hp
   cases hc:decide (p.1=id) with
   | true =>
    simp only[hc,if_true] at hf
    simp only[U7,←hf] at h
    cases h
    simp only[]
    refine aG (s:=[(false,aA.li)]) (y:=p.2.2.2.2.2.2.1.1) (by rw[oO,eP,iP hp1];rfl) ?_
    refine dO (r:=.li aA) (l:=p.2.2.2.2.2.2.1.2) (by rw[OH,iP hp2]) _ ?_
    obtain ⟨p1,p2,p3,p4,p5,p6,⟨o,hs⟩,p7⟩:=p
    have hb47:hs.length≤140737488355328:=by
     simp only[kR,Bool.and_eq_true,decide_eq_true_eq] at hp2;exact hp2.2
    cases hs with
    | nil =>
     simp only[List.isEmpty_nil]
     refine bM 0 (fun k s=>s=((k:Int),())) rfl ?_
     rintro X k s hk rfl hX
     have:k=0:=by omega
     subst this
     rfl
    | cons h0 hs =>
     generalize hhs:h0::hs=hh at *
     have he:hh.isEmpty=false:=by rw[←hhs];rfl
     simp only[he]
     rw[dR (r:=.li aA) rfl]
     refine bM hh.length (fun k s=>s=((k:Int),hh,())) rfl ?_
     rintro X k s hk rfl hX
     simp only[List.length_map,E0]
     by_cases hlt:k<hh.length
     ·have hok:kR 16 hh[k].length=true:=List.all_eq_true.1 hp3 _ (List.getElem_mem hlt)
      simp only[hlt,decide_true,Int.toNat_natCast,bH (r:=.li aA) hlt,iC (r:=.li aA) hlt,oY (r:=.li aA) hlt]
      refine aG (s:=[(false,aA.li)]) (y:=hh[k]) (by rw[oO,eP,iP hok];rfl) ?_
      refine ⟨rfl,?_⟩
      have e:bU (Sy.enc (.li aA) hh[k]) 0 [T.sl false (List.map aA.enc hh[k])]=Sy.enc (.li aA) hh[k]:=rfl
      rw[e,C6 (r:=.li aA) hlt,dR (r:=.li aA) rfl]
      refine hX _ hlt ?_
      simp only[Prod.mk.injEq,and_true]
      exact bD _ (by omega) (by omega)
     ·simp only[hlt,decide_false]
      rfl
   | false =>
    simp only[hc] at hf
    refine hX _ hlt ⟨?_,hf⟩
    simp only[Prod.mk.injEq,and_true]
    exact bD _ (by omega) (by omega)
  ·have:k=d.2.2.1.length:=by omega
   subst this
   simp only[List.drop_length,List.find?_nil] at hf
   simp only[U7,←hf] at h
   simp only[hlt,decide_false,aC]
   cases h;rfl
 ·cases h
end Go.Pv
namespace Go.Pv
open Go Go.Proofs
abbrev jG:Sh:=[(false,.bool)]
theorem eB {p:Prop} {i:Decidable p} (h:p) {A B:Prop} (ha:A):aC (@decide p i) A B:=by rw[show @decide p i=true from decide_eq_true h];exact ha
theorem fW {p:Prop} {i:Decidable p} (h:¬ p) {A B:Prop} (hb:B):aC (@decide p i) A B:=by rw[show @decide p i=false from decide_eq_false h];exact hb
theorem b8 {p:Prop} {i:Decidable p} {A B:Prop} (h1:p→A) (h2:¬ p→B):aC (@decide p i) A B:=by
 by_cases h:p
 ·rw[decide_eq_true h];exact h1 h
 ·rw[decide_eq_false h];exact h2 h
theorem lA {p:Prop} {i:Decidable p} {A B:Prop} (h1:¬ p→A) (h2:p→B):aC (!(@decide p i)) A B:=by
 by_cases h:p
 ·rw[decide_eq_true h];exact h2 h
 ·rw[decide_eq_false h];exact h1 h
theorem uV {c:Bool} {A B:Prop} (h1:c=true→A) (h2:c=false→B):aC c A B:=by cases c with
 | true=>exact h1 rfl
 | false=>exact h2 rfl
theorem gQ {c:Bool} {A B:Prop} (h1:c=false→A) (h2:c=true→B):aC (!c) A B:=by cases c with
 | true=>exact h2 rfl
 | false=>exact h1 rfl
def cE {α:Type} (f:α→Int):List α→Int
 | []=>0
 | a::l=>if f a=0 then cE f l else f a
theorem pM {r:Sy} {l:List r.den} (f:r.den→Int) (hl:l.length≤140737488355328) {Body:(Int×PUnit→Prop)→Int×PUnit→r.den→Prop} {Exit:Prop}
  (hbody:∀ (X:Int×PUnit→Prop) (s:Int×PUnit) (y:r.den),y∈l→(f y=0→X (IntKind.i64.wrap (s.1+1),()))→(f y≠0→cE f l=f y)→Body X s y) (hexit:cE f l=0→Exit) :
  bA (Int×PUnit) (fun (X:Int×PUnit→Prop) (s:Int×PUnit)=>aC (decide (s.1<((List.map r.enc l).length:Int))) (aR r (List.map r.enc l) s.1 fun y=>Body X s y) Exit) (0,()):=by
 refine bM l.length (fun k s=>s=((k:Int),())∧cE f l=cE f (l.drop k)) ⟨rfl,by rw[List.drop_zero]⟩ ?_
 rintro X k s hk ⟨rfl,he⟩ hX
 dsimp only
 refine b8 (fun hlt=>?_) fun hge=>?_
 ·rw[List.length_map] at hlt
  have hlt:k<l.length:=by omega
  rw[bH hlt]
  have hd:l.drop k=l[k]::l.drop (k+1):=List.drop_eq_getElem_cons hlt
  rw[hd,cE] at he
  refine hbody X _ _ (List.getElem_mem hlt) (fun h0=>?_) fun h0=>by rw[he,if_neg h0]
  rw[if_pos h0] at he
  exact hX _ hlt ⟨by rw[show IntKind.i64.wrap ((k:Int)+1)=((k+1:Nat):Int) from bD _ (by omega) (by omega)],he⟩
 ·rw[List.length_map] at hge
  have:k=l.length:=by omega
  subst this
  rw[List.drop_length] at he
  exact hexit he
end Go.Pv
namespace Go.Pv
open Go Go.Proofs
def upF (d:aB):Nat→ByteArray→List ByteArray→List ByteArray×Bool
 | 0,_,_=>([],false)
 | n+1,id,l=>match fG d id with
  | none=>([],false)
  | some x=>if x.2.1=1 then (l++[id],true) else upF d n x.2.2 (l++[id])
def up (d:aB) (id:ByteArray):List ByteArray×Bool:=upF d 65 id []
theorem AJG {d:aB}:∀ {n:Nat} {id:ByteArray} {l:List ByteArray},(upF d n id l).1.length≤l.length+n
 | 0,_,_=>by simp[upF]
 | n+1,id,l=>by
  unfold upF
  cases fG d id with
  | none=>simp
  | some x =>
   by_cases hx:x.2.1=1
   ·simp only[hx,if_true]
    simp
   ·simp only[hx,if_false]
    have:=AJG (d:=d) (n:=n) (id:=x.2.2) (l:=l++[id])
    simp at this;omega
theorem BA3 (d:aB) (id:ByteArray):(up d id).1.length≤65:=by have:=AJG (d:=d) (n:=65) (id:=id) (l:=[]);simpa [up] using this
theorem A67 {l:List ByteArray} (h:l.length≤8000000000000) (K:Prop):bN (decide (((List.map Sy.str.enc l).length+1)*16≤140737488355328)&&decide ((List.map Sy.str.enc l).length+1≤140737488355328)) K=K:=by
 have e:(decide (((List.map Sy.str.enc l).length+1)*16≤140737488355328)&&decide ((List.map Sy.str.enc l).length+1≤140737488355328))=true:=by
  simp only[List.length_map,Bool.and_eq_true,decide_eq_true_eq]
  omega
 rw[e];simp[bN]
theorem AT4 {l:List ByteArray} {x:ByteArray} (K:List ByteArray→Prop):lT Sy.str (List.map Sy.str.enc l++[[T.v (.string x)]]) K=K (l++[x]):=D8 (r:=.str) rfl l _ x rfl K
theorem AUD {l:List ByteArray} {x:ByteArray}:List.map Sy.str.enc l++[[T.v (.string x)]]=List.map Sy.str.enc (l++[x]):=by simp[Sy.enc]
end Go.Pv
namespace Go.Pv
open Go Go.Proofs
noncomputable def lU {α:Type} (a b:α):Bool:=@decide (a=b) (Classical.propDecidable _)
theorem eT {α:Type} {a b:α}:lU a b=true↔a=b:=by unfold lU;exact @decide_eq_true_iff _ (Classical.propDecidable _)
@[simp] theorem BDA {α:Type} (a:α):lU a a=true:=eT.2 rfl
theorem vU {α:Type} {a b:α} (h:¬ a=b):lU a b=false:=by
 cases hc:lU a b with
 | false=>rfl
 | true=>exact absurd (eT.1 hc) h
theorem ZJ (c d:Bool) (r:T):aC c (T.v (.bool d)=r) (T.v (.bool false)=r)=(T.v (.bool (c&&d))=r):=by cases c<;>simp[aC]
theorem QF (c d:Bool) (r:T):aC (!c) (T.v (.bool false)=r) (T.v (.bool d)=r)=(T.v (.bool (c&&d))=r):=by cases c<;>simp[aC]
theorem A5U (x:Bool):Sh.enc jG x=T.v (.bool x):=rfl
theorem w4 (y:Bool) (K:Bool→Prop):aJ [(false,Sy.bool)] (some (Sh.enc jG y)) K=K y:=xJ (s:=jG) rfl y K
theorem AO2 {r:Sy} {l m:List r.den} (hlen:l.length=m.length) (hl:l.length≤2 ^ 47) (test:r.den→r.den→Bool) (ht:∀ x y,test x y=true↔x=y) {R:T→Prop} (hR:R (T.v (.bool (lU l m)))) :
  bA (Int×PUnit) (fun (X:Int×PUnit→Prop) (s:Int×PUnit)=>aC (decide (s.1<(↑(List.map r.enc l).length:Int))) (aR r (List.map r.enc l) s.1 fun y=>aR r (List.map r.enc m) s.1 fun z=>aC (!(test y z)) (R (T.v (.bool false))) (X (IntKind.i64.wrap (s.1+1),()))) (R (T.v (.bool true)))) (0,()):=by
 refine bM l.length (fun k s=>s=((k:Int),())∧(l=m↔l.drop k=m.drop k)) ⟨rfl,by simp⟩ ?_
 rintro X k s hk ⟨rfl,he⟩ hX
 dsimp only
 by_cases hlt:k<l.length
 ·have hlt2:k<m.length:=by omega
  refine eB (by simp[hlt]) ?_
  rw[bH hlt,bH hlt2]
  rw[List.drop_eq_getElem_cons hlt,List.drop_eq_getElem_cons hlt2,List.cons.injEq] at he
  by_cases h1:l[k]=m[k]
  ·rw[(ht _ _).2 h1,Bool.not_true,oE]
   refine hX _ hlt ⟨by rw[show IntKind.i64.wrap ((k:Int)+1)=((k+1:Nat):Int) from bD _ (by omega) (by omega)],?_⟩
   rw[he];exact ⟨fun h=>h.2,fun h=>⟨h1,h⟩⟩
  ·have:test l[k] m[k]=false:=by
    cases hc:test l[k] m[k] with
    | false=>rfl
    | true=>exact absurd ((ht _ _).1 hc) h1
   rw[this,Bool.not_false,kH]
   rwa[vU fun h=>h1 (he.1 h).1] at hR
 ·have:k=l.length:=by omega
  subst this
  refine fW (by simp) ?_
  rwa[eT.2 (he.2 (by rw[List.drop_length,hlen,List.drop_length]))] at hR
theorem C5 {r:Sy} {l m:List r.den} (hl:l.length≤2 ^ 47) (test:r.den→r.den→Bool) (ht:∀ x y,test x y=true↔x=y) {R:T→Prop} (hR:R (T.v (.bool (lU l m)))) :
  aC (!decide ((↑(List.map r.enc l).length:Int)=(↑(List.map r.enc m).length:Int))) (R (T.v (.bool false))) (bA (Int×PUnit) (fun (X:Int×PUnit→Prop) (s:Int×PUnit)=>aC (decide (s.1<(↑(List.map r.enc l).length:Int))) (aR r (List.map r.enc l) s.1 fun y=>aR r (List.map r.enc m) s.1 fun z=>aC (!(test y z)) (R (T.v (.bool false))) (X (IntKind.i64.wrap (s.1+1),()))) (R (T.v (.bool true)))) (0,())):=by
 by_cases hlen:l.length=m.length
 ·rw[show (!decide ((↑(List.map r.enc l).length:Int)=(↑(List.map r.enc m).length:Int)))=false by simp[hlen],oE]
  exact AO2 hlen hl test ht hR
 ·rw[show (!decide ((↑(List.map r.enc l).length:Int)=(↑(List.map r.enc m).length:Int)))=true by simp;omega,kH]
  rwa[vU fun h=>hlen (by rw[h])] at hR
def jQ (d:aB) (id:ByteArray):Option aL:=d.2.2.2.2.1.find? fun s=>decide (s.1=id)
def noPack:aL:=(⟨#[]⟩,⟨#[]⟩,[],0,[])
theorem W9:RQ Tryz.prog 219 1 16:=⟨fun R=>by kernel_rfl,fun fl R=>by kernel_rfl,fun fl a rows R=>by kernel_rfl⟩
noncomputable def jM:List T→Option T:=gS [(false,.li .str)] (eP .str 16)
theorem nD {u0}:jM [T.sl false (List.map (Sy.enc .str) u0)]=eP .str 16 u0:=bG (s:=[(false,.li .str)]) rfl u0 rfl
theorem GM:aO Tryz.prog 219 jM:=D7 aU aY ⟨_,_,Tryz.func219,rfl⟩ W9
def fT (p:aL):Bool:=kR 16 p.2.2.1.length&&kR 16 p.2.2.2.2.length
def QR (d:aB):Bool:=d.2.2.2.2.1.all fT
def AAE (d:aB) (t:T):Option T:=match QR d with
 | true=>some t
 | false=>none
theorem AX3 {d:aB} {t r:T} (h:AAE d t=some r):QR d=true∧r=t:=by
 unfold AAE at h;split at h
 ·cases h;exact ⟨by assumption,rfl⟩
 ·cases h
theorem AAF {d:aB} (t:T) (h:QR d=true):AAE d t=some t:=by unfold AAE;rw[h]
def IZ (x:aB×ByteArray):Option T:=AAE x.1 (Sh.enc [(true,aF),(false,.bool)] (found noPack (jQ x.1 x.2)))
noncomputable def A6L:Env:=Env.of [(219,.pure jM)]
def A6Y:FuncId→Hint:=bX 180 [(2,.inv [.val 11 false (.int .i64),.fix 1])] (fun _=>aZ)
theorem AQV:aT Tryz.prog A6L:=.cons GM (.nil _)
def d9:Sh:=[(false,Sy.str.li)]
def i8(a0:aB):List (List T):=List.map aF.enc a0.2.2.2.2.1
def H1(y3:List ByteArray):List (List T):=List.map Sy.str.enc y3
def BE4(y2:aL):List (List T):=List.map Sy.str.enc y2.2.2.2.2
def BE7(y2:aL):List (List T):=List.map Sy.str.enc y2.2.2.1
def ACX(a0:aB)(a1:ByteArray)(R:T→Prop):Prop:=fZ (bC.rows false [[D.p d5,D.p d5, D.p d8,D.p (T.v (.int .i64 0)), D.p d8]]) (bC.rows false [[D.p d5,D.p d5, D.p d8,D.p (T.v (.int .i64 0)), D.p d8]]) (bA (Int×PUnit×PUnit) (fun X0 s1=>aC (decide (s1.1<(↑(i8 a0).length:Int))) (aR aF (i8 a0) s1.1 fun (y2:aL)=>aC (decide (y2.1=a1)) (aJ d9 (jM [T.sl false (BE7 y2)]) fun (y3:List ByteArray)=>aJ d9 (jM [T.sl false (BE4 y2)]) fun (y4:List ByteArray)=>R (T.cA [T.agg [T.v (.string y2.1),T.v (.string y2.2.1), T.sl false (H1 y3), T.v (.int .i64 y2.2.2.2.1), T.sl false (H1 y4)], T.v (.bool true)])) (fZ (bC.rows false [[D.p d5, D.p d5, D.p d8, D.p (T.v (.int .i64 0)), D.p d8]]) (bC.rows false [[D.p d5, D.p d5, D.p d8, D.p (T.v (.int .i64 0)), D.p d8]]) (X0 (IntKind.i64.wrap (s1.1+1),(),())))) (R (T.cA [T.agg [T.v (.string {data:=#[]}),T.v (.string {data:=#[]}), T.sl false [],T.v (.int .i64 0),T.sl false []], T.v (.bool false)]))) (0,(),()))
abbrev AGA:Sh:=[(true,aE),(false,Sy.str)]
noncomputable def AY:List T→Option T:=gS AGA IZ
theorem PX {a0 a1}:AY [aI true aE a0,T.v (.string a1)]=IZ (a0,a1):=bG (s:=AGA) rfl (a0,a1) rfl
theorem A4D:rQ Tryz.prog 180 AY IZ (cD AGA) ACX:=gZ (a1:=(true,aE)) (a2:=(false,Sy.str)) (sp:=IZ) (F:=ACX) (Hs:=A6Y) (f:=180) (k:=8) AQV aU aY (aN rfl) ⟨_,_,Tryz.func180,rfl⟩ rfl fun _ _ _=>by kernel_rfl
theorem AH2:aO Tryz.prog 180 AY:=A4D fun d id r h hb=>by
 have hl:d.2.2.2.2.1.length≤2 ^ 47:=hb.1.2.2.2.2.1.1
 obtain ⟨hok,rfl⟩:=AX3 h
 clear h
 unfold ACX BE7 BE4 H1 i8 d9 d8 d5
 rw[cZ]
 refine bM d.2.2.2.2.1.length (fun k s=>s=((k:Int),(),())∧(d.2.2.2.2.1.drop k).find? (fun s=>decide (s.1=id))=jQ d id) ⟨rfl,rfl⟩ ?_
 rintro X k s hk ⟨rfl,hf⟩ hX
 simp only[List.length_map,E0,cZ]
 by_cases hlt:k<d.2.2.2.2.1.length
 ·rw[o5 hlt] at hf
  have hp:fT d.2.2.2.2.1[k]=true:=List.all_eq_true.1 hok _ (List.getElem_mem hlt)
  simp only[hlt,decide_true,aC,bH (r:=aF) hlt]
  unfold fT at hp
  simp only[Bool.and_eq_true] at hp
  cases hc:decide (d.2.2.2.2.1[k].1=id) with
  | true =>
   simp only[hc,if_true] at hf
   rw[←hf]
   refine aG (s:=[(false,.li .str)]) (y:=d.2.2.2.2.1[k].2.2.1) (by rw[nD,eP,iP hp.1];rfl) ?_
   refine aG (s:=[(false,.li .str)]) (y:=d.2.2.2.2.1[k].2.2.2.2) (by rw[nD,eP,iP hp.2];rfl) ?_
   rfl
  | false =>
   simp only[hc] at hf
   refine hX _ hlt ⟨?_,hf⟩
   simp only[Prod.mk.injEq,and_true]
   exact bD _ (by omega) (by omega)
 ·have:k=d.2.2.2.2.1.length:=by omega
  subst this
  simp only[List.drop_length,List.find?_nil] at hf
  rw[←hf]
  simp only[hlt,decide_false,aC]
  rfl
noncomputable def sZ (x:List aP×List aP):Option T:=some (Sh.enc jG (lU x.1 x.2))
noncomputable def s0 (x:jA×jA):Option T:=some (Sh.enc jG (lU x.1 x.2))
noncomputable def nZ (x:aV×aV):Option T:=some (Sh.enc jG (lU x.1 x.2))
noncomputable def xC (x:List ByteArray×List ByteArray):Option T:=some (Sh.enc jG (lU x.1 x.2))
noncomputable def nY (x:aL×aL):Option T:=some (Sh.enc jG (lU x.1 x.2))
noncomputable def AQF:Env:=Env.of []
def AS8:FuncId→Hint:=bX 239 [(4,.inv [.val 5 false (.int .i64)])] (fun _=>aZ)
theorem ACD:aT Tryz.prog AQF:=.nil _
def d3:T:=T.v (.bool false)
def d6:T:=T.v (.bool true)
def IR(a0:List aP)(a1:List aP)(R:T→Prop):Prop:=bA (Int×PUnit) (fun X0 s1=>aC (decide (s1.1<(↑(f9 a0).length:Int))) (aR aA (f9 a0) s1.1 fun (y2:aP)=>aR aA (f9 a1) s1.1 fun (y3:aP)=>aC (!(decide (y2.1=y3.1)&&(decide (y2.2=y3.2)&&true))) (R d3) (f8 X0 s1)) (R d6)) (0,())
def J0(a0:List aP)(a1:List aP)(R:T→Prop):Prop:=aC (!decide ((↑(f9 a0).length:Int)=(↑(f9 a1).length:Int))) (R d3) (IR a0 a1 R)
abbrev NG:Sh:=[(false,aA.li),(false,aA.li)]
noncomputable def sK:List T→Option T:=gS NG sZ
theorem ZB {a0 a1}:sK [T.sl false (List.map aA.enc a0),T.sl false (List.map aA.enc a1)]=sZ (a0,a1):=bG (s:=NG) rfl (a0,a1) rfl
theorem AOJ:rQ Tryz.prog 239 sK sZ (cD NG) J0:=gZ (a1:=(false,aA.li)) (a2:=(false,aA.li)) (sp:=sZ) (F:=J0) (Hs:=AS8) (f:=239) (k:=8) ACD aU aY (aN rfl) ⟨_,_,Tryz.func239,rfl⟩ rfl fun _ _ _=>by kernel_rfl
theorem AMM:aO Tryz.prog 239 sK:=AOJ fun a b r h hb=>by
 cases h
 unfold J0 IR f9 f8 d6 d3
 refine C5 (r:=aA) (R:=fun y=>y=Sh.enc jG (lU a b)) hb.1.1 _ (fun x y=>?_) rfl
 simp only[Bool.and_true,Bool.and_eq_true,decide_eq_true_eq,Prod.ext_iff]
noncomputable def AQG:Env:=Env.of [(239,.pure sK)]
def AS9:FuncId→Hint:=bX 86 [(4,.inv [.val 5 false (.int .i64)])] (fun _=>aZ)
theorem ACE:aT Tryz.prog AQG:=.cons AMM (.nil _)
def d4:Sh:=[(false,Sy.bool)]
def BFC(a0:jA):List (List T):=List.map aA.li.enc a0.2
def J1(a0:jA)(a1:jA)(R:T→Prop):Prop:=aJ d4 (sK [T.sl false (List.map aA.enc a0.1),T.sl false (List.map aA.enc a1.1)]) fun (y0:Bool)=>aC (!y0) (R d3) (aC (!decide ((↑(BFC a0).length:Int) = (↑(BFC a1).length:Int))) (R d3) (bA (Int×PUnit) (fun X1 s2=>aC (decide (s2.1<(↑(BFC a0).length:Int))) (aR aA.li (BFC a0) s2.1 fun (y3:List aP)=>aR aA.li (BFC a1) s2.1 fun (y4:List aP)=>aJ d4 (sK [T.sl false (f9 y3),T.sl false (f9 y4)]) fun (y5:Bool)=>aC (!y5) (R d3) (f8 X1 s2)) (R d6)) (0,())))
abbrev NH:Sh:=[(true,dZ),(true,dZ)]
noncomputable def wM:List T→Option T:=gS NH s0
theorem ZC {a0 a1}:wM [aI true dZ a0,aI true dZ a1]=s0 (a0,a1):=bG (s:=NH) rfl (a0,a1) rfl
theorem AOK:rQ Tryz.prog 86 wM s0 (cD NH) J1:=gZ (a1:=(true,dZ)) (a2:=(true,dZ)) (sp:=s0) (F:=J1) (Hs:=AS9) (f:=86) (k:=8) ACE aU aY (aN rfl) ⟨_,_,Tryz.func86,rfl⟩ rfl fun _ _ _=>by kernel_rfl
theorem AMN:aO Tryz.prog 86 wM:=AOK fun a b r h hb=>by
 cases h
 unfold J1 BFC f9 f8 d6 d4 d3
 have u:=@ZB
 simp only[u,sZ,w4]
 by_cases h1:a.1=b.1
 ·rw[eT.2 h1,Bool.not_true,oE]
  refine C5 (r:=.li aA) (R:=fun y=>y=Sh.enc jG (lU a b)) hb.1.2.1 _ (fun x y=>eT) ?_
  show T.v (.bool (lU a.2 b.2))=T.v (.bool (lU a b))
  congr 2
  rw[Bool.eq_iff_iff,eT,eT,Prod.ext_iff]
  exact ⟨fun h=>⟨h1,h⟩,fun h=>h.2⟩
 ·rw[vU h1,Bool.not_false,kH,vU fun h=>h1 (by rw[h])];rfl
noncomputable def ABP:Env:=Env.of [(86,.pure wM)]
def AC9:FuncId→Hint:=fun _=>aZ
theorem RY:aT Tryz.prog ABP:=.cons AMN (.nil _)
def AA(a0:aV)(a1:aV)(R:T→Prop):Prop:=aC (!decide (a0.1=a1.1)) (R d3) (aC (!decide (a0.2.1=a1.2.1)) (R d3) (aC (!decide (a0.2.2.1=a1.2.2.1)) (R d3) (aC (!decide (a0.2.2.2.1=a1.2.2.2.1)) (R d3) (aC (!decide (a0.2.2.2.2.1=a1.2.2.2.2.1)) (R d3) (aC (!decide (a0.2.2.2.2.2.1=a1.2.2.2.2.2.1)) (R d3) (aJ d4 (wM [aI true dZ a0.2.2.2.2.2.2.1, aI true dZ a1.2.2.2.2.2.2.1]) fun (y0:Bool)=>aC y0 (aC (decide (a0.2.2.2.2.2.2.2.1=a1.2.2.2.2.2.2.2.1)) (aC (decide (a0.2.2.2.2.2.2.2.2.1=a1.2.2.2.2.2.2.2.2.1)) (aC (decide (a0.2.2.2.2.2.2.2.2.2.1=a1.2.2.2.2.2.2.2.2.2.1)) (aC (decide (a0.2.2.2.2.2.2.2.2.2.2.1.1 = a1.2.2.2.2.2.2.2.2.2.2.1.1) && (decide (a0.2.2.2.2.2.2.2.2.2.2.1.2.1 = a1.2.2.2.2.2.2.2.2.2.2.1.2.1) && (decide (a0.2.2.2.2.2.2.2.2.2.2.1.2.2 = a1.2.2.2.2.2.2.2.2.2.2.1.2.2) && true))) (R (T.v (.bool (decide (a0.2.2.2.2.2.2.2.2.2.2.2.1.1 = a1.2.2.2.2.2.2.2.2.2.2.2.1.1) && (decide (a0.2.2.2.2.2.2.2.2.2.2.2.1.2.1 = a1.2.2.2.2.2.2.2.2.2.2.2.1.2.1) && (decide (a0.2.2.2.2.2.2.2.2.2.2.2.1.2.2 = a1.2.2.2.2.2.2.2.2.2.2.2.1.2.2) && true)) && (decide (a0.2.2.2.2.2.2.2.2.2.2.2.2 = a1.2.2.2.2.2.2.2.2.2.2.2.2) && true))))) (R d3)) (R d3)) (R d3)) (R d3)) (R d3)))))))
abbrev BF:Sh:=[(true,aM),(true,aM)]
noncomputable def pS:List T→Option T:=gS BF nZ
theorem OL {a0 a1}:pS [aI true aM a0,aI true aM a1]=nZ (a0,a1):=bG (s:=BF) rfl (a0,a1) rfl
theorem AAC:rQ Tryz.prog 38 pS nZ (cD BF) AA:=gZ (a1:=(true,aM)) (a2:=(true,aM)) (sp:=nZ) (F:=AA) (Hs:=AC9) (f:=38) (k:=8) RY aU aY (aN rfl) ⟨_,_,Tryz.func38,rfl⟩ rfl fun _ _ _=>by kernel_rfl
theorem XW:aO Tryz.prog 38 pS:=AAC fun a b r h hb=>by
 cases h
 unfold AA d4 d3
 simp only[ZC,s0,w4]
 simp only[A5U,ZJ,QF]
 congr 2
 rw[Bool.eq_iff_iff,eT]
 simp only[Bool.and_true,Bool.and_eq_true,decide_eq_true_eq,eT,Prod.ext_iff,and_assoc]
noncomputable def A0B:Env:=Env.of []
def A1U:FuncId→Hint:=bX 28 [(4,.inv [.val 5 false (.int .i64)])] (fun _=>aZ)
theorem AKQ:aT Tryz.prog A0B:=.nil _
def SE(a0:List ByteArray)(a1:List ByteArray)(R:T→Prop):Prop:=aC (!decide ((↑(H1 a0).length:Int)=(↑(H1 a1).length:Int))) (R d3) (bA (Int×PUnit) (fun X0 s1=>aC (decide (s1.1<(↑(H1 a0).length:Int))) (aR Sy.str (H1 a0) s1.1 fun (y2:ByteArray)=>aR Sy.str (H1 a1) s1.1 fun (y3:ByteArray)=>aC (!decide (y2=y3)) (R d3) (f8 X0 s1)) (R d6)) (0,()))
abbrev UU:Sh:=[(false,Sy.str.li),(false,Sy.str.li)]
noncomputable def xW:List T→Option T:=gS UU xC
theorem AEW {a0 a1}:xW [T.sl false (List.map Sy.str.enc a0),T.sl false (List.map Sy.str.enc a1)]=xC (a0,a1):=bG (s:=UU) rfl (a0,a1) rfl
theorem AXZ:rQ Tryz.prog 28 xW xC (cD UU) SE:=gZ (a1:=(false,Sy.str.li)) (a2:=(false,Sy.str.li)) (sp:=xC) (F:=SE) (Hs:=A1U) (f:=28) (k:=8) AKQ aU aY (aN rfl) ⟨_,_,Tryz.func28,rfl⟩ rfl fun _ _ _=>by kernel_rfl
theorem AUX:aO Tryz.prog 28 xW:=AXZ fun a b r h hb=>by
 cases h
 unfold SE H1 f8 d6 d3
 exact C5 (r:=.str) (R:=fun y=>y=Sh.enc jG (lU a b)) hb.1.1 _ (fun x y=>decide_eq_true_iff) rfl
noncomputable def ABO:Env:=Env.of [(28,.pure xW)]
def AC8:FuncId→Hint:=fun _=>aZ
theorem RX:aT Tryz.prog ABO:=.cons AUX (.nil _)
def z8(a0:aL)(a1:aL)(R:T→Prop):Prop:=aC (decide (a0.1=a1.1)) (aC (decide (a0.2.1=a1.2.1)) (aC (decide (a0.2.2.2.1=a1.2.2.2.1)) (aJ d4 (xW [T.sl false (BE7 a0), T.sl false (BE7 a1)]) fun (y0:Bool)=>aC y0 (aJ d4 (xW [T.sl false (BE4 a0), T.sl false (BE4 a1)]) fun (y1:Bool)=>R (T.v (.bool y1))) (R d3)) (R d3)) (R d3)) (R d3)
abbrev BE:Sh:=[(true,aF),(true,aF)]
noncomputable def pR:List T→Option T:=gS BE nY
theorem OK {a0 a1}:pR [aI true aF a0,aI true aF a1]=nY (a0,a1):=bG (s:=BE) rfl (a0,a1) rfl
theorem AAB:rQ Tryz.prog 39 pR nY (cD BE) z8:=gZ (a1:=(true,aF)) (a2:=(true,aF)) (sp:=nY) (F:=z8) (Hs:=AC8) (f:=39) (k:=8) RX aU aY (aN rfl) ⟨_,_,Tryz.func39,rfl⟩ rfl fun _ _ _=>by kernel_rfl
theorem XV:aO Tryz.prog 39 pR:=AAB fun a b r h hb=>by
 cases h
 unfold z8 BE7 BE4 d4 d3
 have u:=@AEW
 simp only[u,xC,w4]
 simp only[A5U,ZJ,QF]
 congr 2
 rw[Bool.eq_iff_iff,eT]
 simp only[Bool.and_true,Bool.and_eq_true,decide_eq_true_eq,eT,Prod.ext_iff]
 exact ⟨fun ⟨h1,h2,h3,h4,h5⟩=>⟨h1,h2,h4,h3,h5⟩,fun ⟨h1,h2,h4,h3,h5⟩=>⟨h1,h2,h3,h4,h5⟩⟩
end Go.Pv
namespace Go.Pv
open Go Go.Proofs
def few (d:aB) (n:Int):Bool:=decide ((d.2.1.length:Int)≤n)&&decide ((d.2.2.1.length:Int)≤n)&&decide ((d.2.2.2.1.length:Int)≤n)&&decide ((d.2.2.2.2.1.length:Int)≤n)&&decide ((d.2.2.2.2.2.length:Int)≤n)&&d.2.2.2.2.1.all fun k=>decide ((k.2.2.1.length:Int)≤n)&&decide ((k.2.2.2.2.length:Int)≤n)
def U5 (x:aB×Int):Option T:=some (Sh.enc jG (few x.1 x.2))
noncomputable def BBQ:Env:=Env.of []
def BCB:FuncId→Hint:=bX 23 [(4,.inv [.val 5 false (.int .i64)])] (fun _=>aZ)
theorem A0W:aT Tryz.prog BBQ:=.nil _
def FS(a0:aB):List (List T):=List.map aS.enc a0.2.2.2.2.2
def ARS(a0:aB)(a1:Int)(R:T→Prop):Prop:=aC (decide (a1<(↑(t6 a0).length:Int))) (R d3) (aC (decide (a1<(↑(GT a0).length:Int))) (R d3) (aC (decide (a1<(↑(m9 a0).length:Int))) (R d3) (aC (decide (a1<(↑(i8 a0).length:Int))) (R d3) (aC (decide (a1<(↑(FS a0).length:Int))) (R d3) (bA (Int×PUnit) (fun X0 s1=>aC (decide (s1.1<(↑(i8 a0).length:Int))) (aR aF (i8 a0) s1.1 fun (y2:aL)=>aC (decide (a1<(↑(BE7 y2).length:Int))) (R d3) (aR aF (i8 a0) s1.1 fun (y3:aL)=>aC (decide (a1<(↑(BE4 y3).length:Int))) (R d3) (f8 X0 s1))) (R d6)) (0,()))))))
abbrev AY3:Sh:=[(true,aE),(false,(Sy.int IntKind.i64))]
noncomputable def YH:List T→Option T:=gS AY3 U5
theorem AVT {a0 a1}:YH [aI true aE a0,T.v (.int .i64 a1)]=U5 (a0,a1):=bG (s:=AY3) rfl (a0,a1) rfl
theorem A90:rQ Tryz.prog 23 YH U5 (cD AY3) ARS:=gZ (a1:=(true,aE)) (a2:=(false,(Sy.int IntKind.i64))) (sp:=U5) (F:=ARS) (Hs:=BCB) (f:=23) (k:=8) A0W aU aY (aN rfl) ⟨_,_,Tryz.func23,rfl⟩ rfl fun _ _ _=>by kernel_rfl
theorem fD {n:Int} {m:Nat} {A B:Prop} (h1:¬ (m:Int)≤n→A) (h2:(m:Int)≤n→B):aC (decide (n<(m:Int))) A B:=by
 by_cases h:(m:Int)≤n
 ·exact fW (by omega) (h2 h)
 ·exact eB (by omega) (h1 h)
theorem KB {α:Type} {p:α→Bool} {l:List α} {k:Nat} (h:k<l.length):(l.drop k).all p=(p l[k]&&(l.drop (k+1)).all p):=by rw[List.drop_eq_getElem_cons h,List.all_cons]
theorem A75:aO Tryz.prog 23 YH:=A90 fun d n r h hb=>by
 cases h
 have hl:d.2.2.2.2.1.length≤2 ^ 47:=hb.1.2.2.2.2.1.1
 have no:few d n=false→T.v (.bool false)=Sh.enc jG (few d n):=fun h=>by rw[h];rfl
 unfold ARS BE7 BE4 f8 GT FS t6 m9 i8 d6 d3
 simp only[List.length_map]
 refine fD (fun h=>no (by simp[few,h])) fun g1=>?_
 refine fD (fun h=>no (by simp[few,h])) fun g2=>?_
 refine fD (fun h=>no (by simp[few,h])) fun g3=>?_
 refine fD (fun h=>no (by simp[few,h])) fun g4=>?_
 refine fD (fun h=>no (by simp[few,h])) fun g5=>?_
 refine bM d.2.2.2.2.1.length (fun k s=>s=((k:Int),())∧few d n=(d.2.2.2.2.1.drop k).all fun k=>decide ((k.2.2.1.length:Int)≤n)&&decide ((k.2.2.2.2.length:Int)≤n)) ⟨rfl,by simp only[few,g1,g2,g3,g4,g5,decide_true,Bool.true_and,List.drop_zero]⟩ ?_
 rintro X k s hk ⟨rfl,he⟩ hX
 dsimp only
 by_cases hlt:k<d.2.2.2.2.1.length
 ·rw[KB hlt] at he
  refine eB (by simp[hlt]) ?_
  rw[bH (r:=aF) hlt]
  try simp only[List.length_map]
  refine fD (fun h=>no (by rw[he];simp[h])) fun g6=>?_
  try rw[bH (r:=aF) hlt]
  try simp only[List.length_map]
  refine fD (fun h=>no (by rw[he];simp[h])) fun g7=>?_
  refine hX _ hlt ⟨by rw[show IntKind.i64.wrap ((k:Int)+1)=((k+1:Nat):Int) from bD _ (by omega) (by omega)],?_⟩
  rw[he]
  simp only[g6,g7,decide_true,Bool.true_and]
 ·have:k=d.2.2.2.2.1.length:=by omega
  subst this
  refine fW (by simp) ?_
  rw[he];simp only[List.drop_length,List.all_nil];rfl
theorem BAO {d:aB} (h:InS aE d):T6 d=true:=by
 refine List.all_eq_true.2 fun p hp=>?_
 obtain ⟨_,_,⟨_,_,h3⟩,_⟩:=h
 have h4:=h3 p hp
 obtain ⟨_,_,_,_,_,_,⟨⟨h5,h6,_⟩,h7,h8,h9⟩,_⟩:=h4
 unfold gV CT kR
 simp only[Bool.and_eq_true,decide_eq_true_eq,List.all_eq_true]
 refine ⟨⟨⟨?_,?_⟩,?_,?_⟩,fun q hq=>?_⟩
 ·exact h5
 ·exact h6
 ·exact h7
 ·exact h8
 ·obtain ⟨g1,g2,_⟩:=h9 q hq
  exact ⟨g1,g2⟩
theorem BAP {d:aB} (h:InS aE d):QR d=true:=by
 refine List.all_eq_true.2 fun p hp=>?_
 obtain ⟨_,_,_,_,⟨_,_,h3⟩,_⟩:=h
 obtain ⟨_,_,⟨h5,h6,_⟩,_,⟨h7,h8,_⟩⟩:=h3 p hp
 unfold fT kR
 simp only[Bool.and_eq_true,decide_eq_true_eq]
 exact ⟨⟨h5,h6⟩,h7,h8⟩
theorem pU {c:Bool} {A B:Prop} (h1:c=true→A) (h2:c=false→B):aC c A B:=by cases c with
 | true=>exact h1 rfl
 | false=>exact h2 rfl
theorem fE {c:Bool} {A B:Prop} (h1:c=false→A) (h2:c=true→B):aC (!c) A B:=by cases c with
 | true=>exact h2 rfl
 | false=>exact h1 rfl
end Go.Pv
namespace Go.Pv
open Go Go.Proofs
noncomputable def DI (x:List aP×List aP):Option T:=some (Sh.enc jG (lU x.1 x.2))
noncomputable def q9 (x:aV×aV):Option T:=some (Sh.enc jG (lU x.1 x.2))
noncomputable def AGT (x:aB×aB):Option T:=some (Sh.enc jG (lU x.1 x.2))
noncomputable def o0:=AGT
noncomputable def A6Q:Env:=Env.of []
def A63:FuncId→Hint:=bX 217 [(4,.inv [.val 13 false (.int .i64)])] (fun _=>aZ)
theorem AQ0:aT Tryz.prog A6Q:=.nil _
def AC2(a0:List aP)(a1:List aP)(R:T→Prop):Prop:=aC (!decide ((↑(f9 a0).length:Int)=(↑(f9 a1).length:Int))) (R d3) (IR a0 a1 R)
abbrev AGF:Sh:=[(false,aA.li),(false,aA.li)]
noncomputable def ER:List T→Option T:=gS AGF DI
theorem AM7 {a0 a1}:ER [T.sl false (List.map aA.enc a0),T.sl false (List.map aA.enc a1)]=DI (a0,a1):=bG (s:=AGF) rfl (a0,a1) rfl
theorem A4I:rQ Tryz.prog 217 ER DI (cD AGF) AC2:=gZ (a1:=(false,aA.li)) (a2:=(false,aA.li)) (sp:=DI) (F:=AC2) (Hs:=A63) (f:=217) (k:=8) AQ0 aU aY (aN rfl) ⟨_,_,Tryz.func217,rfl⟩ rfl fun _ _ _=>by kernel_rfl
theorem A3A:aO Tryz.prog 217 ER:=A4I fun a b r h hb=>by
 cases h
 unfold AC2 IR f9 f8 d6 d3
 refine C5 (r:=aA) (R:=fun y=>y=Sh.enc jG (lU a b)) hb.1.1 _ (fun x y=>?_) rfl
 simp only[Bool.and_true,Bool.and_eq_true,decide_eq_true_eq,Prod.ext_iff]
theorem rZ {r:Sy} {l m:List r.den} (hlen:l.length=m.length) (hl:l.length≤2 ^ 47) (test:r.den→r.den→Bool) (ht:∀ x y,test x y=true↔x=y) {N Y:Prop} (hY:l=m→Y) (hN:¬ l=m→N) :
  bA (Int×PUnit) (fun (X:Int×PUnit→Prop) (s:Int×PUnit)=>aC (decide (s.1<(↑(List.map r.enc l).length:Int))) (aR r (List.map r.enc l) s.1 fun y=>aR r (List.map r.enc m) s.1 fun z=>aC (!(test y z)) N (X (IntKind.i64.wrap (s.1+1),()))) Y) (0,()):=by
 refine bM l.length (fun k s=>s=((k:Int),())∧(l=m↔l.drop k=m.drop k)) ⟨rfl,by simp⟩ ?_
 rintro X k s hk ⟨rfl,he⟩ hX
 dsimp only
 by_cases hlt:k<l.length
 ·have hlt2:k<m.length:=by omega
  refine eB (by simp[hlt]) ?_
  rw[bH hlt,bH hlt2]
  rw[List.drop_eq_getElem_cons hlt,List.drop_eq_getElem_cons hlt2,List.cons.injEq] at he
  refine fE (fun h=>hN fun e=>?_) fun h=>?_
  ·rw[(ht _ _).2 (he.1 e).1] at h;cases h
  ·have h1:=(ht _ _).1 h
   refine hX _ hlt ⟨by rw[show IntKind.i64.wrap ((k:Int)+1)=((k+1:Nat):Int) from bD _ (by omega) (by omega)],?_⟩
   rw[he];exact ⟨fun h=>h.2,fun h=>⟨h1,h⟩⟩
 ·have:k=l.length:=by omega
  subst this
  refine fW (by simp) ?_
  exact hY (he.2 (by rw[List.drop_length,hlen,List.drop_length]))
theorem E1 {α β:Type} {f:α→β} {l m:List α} (h:decide ((↑(List.map f l).length:Int)=(↑(List.map f m).length:Int))=true):l.length=m.length:=by simp at h;omega
theorem SY {r:Sy} {l m:List r.den} (hl:l.length≤2 ^ 47) (test:r.den→r.den→Bool) (ht:∀ x y,test x y=true↔x=y) {N Y:Prop} (hY:l=m→Y) (hN:¬ l=m→N) :
  aC (!decide ((↑(List.map r.enc l).length:Int)=(↑(List.map r.enc m).length:Int))) N (bA (Int×PUnit) (fun (X:Int×PUnit→Prop) (s:Int×PUnit)=>aC (decide (s.1<(↑(List.map r.enc l).length:Int))) (aR r (List.map r.enc l) s.1 fun y=>aR r (List.map r.enc m) s.1 fun z=>aC (!(test y z)) N (X (IntKind.i64.wrap (s.1+1),()))) Y) (0,())) :=
 fE (fun h=>hN fun e=>by simp[e] at h) fun h=>rZ (E1 h) hl test ht hY hN
noncomputable def ABN:Env:=Env.of [(217,.pure ER)]
def AC7:FuncId→Hint:=bX 218 [(4,.inv [.val 17 false (.int .i64)])] (fun _=>aZ)
theorem RW:aT Tryz.prog ABN:=.cons A3A (.nil _)
def z7(a0:aV)(a1:aV)(R:T→Prop):Prop:=aC (!decide (a0.1=a1.1)) (R d3) (aC (!decide (a0.2.1=a1.2.1)) (R d3) (aC (!decide (a0.2.2.1=a1.2.2.1)) (R d3) (aC (!decide (a0.2.2.2.1=a1.2.2.2.1)) (R d3) (aC (!decide (a0.2.2.2.2.1=a1.2.2.2.2.1)) (R d3) (aC (!decide (a0.2.2.2.2.2.1=a1.2.2.2.2.2.1)) (R d3) (aC (!decide (a0.2.2.2.2.2.2.2.1=a1.2.2.2.2.2.2.2.1)) (R d3) (aC (!decide (a0.2.2.2.2.2.2.2.2.1=a1.2.2.2.2.2.2.2.2.1)) (R d3) (aC (!decide (a0.2.2.2.2.2.2.2.2.2.1=a1.2.2.2.2.2.2.2.2.2.1)) (R d3) (aC (!(decide (a0.2.2.2.2.2.2.2.2.2.2.1.1 = a1.2.2.2.2.2.2.2.2.2.2.1.1) && (decide (a0.2.2.2.2.2.2.2.2.2.2.1.2.1 = a1.2.2.2.2.2.2.2.2.2.2.1.2.1) && (decide (a0.2.2.2.2.2.2.2.2.2.2.1.2.2 = a1.2.2.2.2.2.2.2.2.2.2.1.2.2) && true)))) (R d3) (aC (!(decide (a0.2.2.2.2.2.2.2.2.2.2.2.1.1 = a1.2.2.2.2.2.2.2.2.2.2.2.1.1) && (decide (a0.2.2.2.2.2.2.2.2.2.2.2.1.2.1 = a1.2.2.2.2.2.2.2.2.2.2.2.1.2.1) && (decide (a0.2.2.2.2.2.2.2.2.2.2.2.1.2.2 = a1.2.2.2.2.2.2.2.2.2.2.2.1.2.2) && true)) && (decide (a0.2.2.2.2.2.2.2.2.2.2.2.2 = a1.2.2.2.2.2.2.2.2.2.2.2.2) && true))) (R d3) (aJ d4 (ER [T.sl false (BE8 a0), T.sl false (BE8 a1)]) fun (y0:Bool)=>aC y0 (aC (!decide ((↑(v6 a0).length:Int) = (↑(v6 a1).length:Int))) (R d3) (bA (Int×PUnit) (fun X1 s2=>aC (decide (s2.1 < (↑(v6 a0).length : Int))) (aR aA.li (v6 a0) s2.1 fun (y3:List aP)=>aR aA.li (v6 a1) s2.1 fun (y4:List aP)=>aJ d4 (ER [T.sl false (f9 y3), T.sl false (f9 y4)]) fun (y5:Bool)=>aC (!y5) (R d3) (f8 X1 s2)) (R d6)) (0,()))) (R d3))))))))))))
abbrev BD:Sh:=[(true,aM),(true,aM)]
noncomputable def pQ:List T→Option T:=gS BD q9
theorem OJ {a0 a1}:pQ [aI true aM a0,aI true aM a1]=q9 (a0,a1):=bG (s:=BD) rfl (a0,a1) rfl
theorem AAA:rQ Tryz.prog 66 pQ q9 (cD BD) z7:=gZ (a1:=(true,aM)) (a2:=(true,aM)) (sp:=q9) (F:=z7) (Hs:=AC7) (f:=66) (k:=8) RW aU aY (aN rfl) ⟨_,_,Tryz.func66,rfl⟩ rfl fun _ _ _=>by kernel_rfl
theorem XU:aO Tryz.prog 66 pQ:=AAA fun a b r h hb=>by
 cases h
 have no:¬ a=b→T.v (.bool false)=Sh.enc jG (lU a b):=fun h=>by rw[vU h];rfl
 have yes:a=b→T.v (.bool true)=Sh.enc jG (lU a b):=fun h=>by rw[eT.2 h];rfl
 have hl:a.2.2.2.2.2.2.1.2.length≤2 ^ 47:=hb.1.2.2.2.2.2.2.1.2.1
 unfold z7 BE8 v6 f9 f8 d6 d4 d3
 have u:=@AM7
 simp only[u,DI,w4]
 refine fE (fun h=>no fun e=>by simp[e] at h) fun h1=>?_
 refine fE (fun h=>no fun e=>by simp[e] at h) fun h2=>?_
 refine fE (fun h=>no fun e=>by simp[e] at h) fun h3=>?_
 refine fE (fun h=>no fun e=>by simp[e] at h) fun h4=>?_
 refine fE (fun h=>no fun e=>by simp[e] at h) fun h5=>?_
 refine fE (fun h=>no fun e=>by simp[e] at h) fun h6=>?_
 refine fE (fun h=>no fun e=>by simp[e] at h) fun h7=>?_
 refine fE (fun h=>no fun e=>by simp[e] at h) fun h8=>?_
 refine fE (fun h=>no fun e=>by simp[e] at h) fun h9=>?_
 refine fE (fun h=>no fun e=>by simp[e] at h) fun h10=>?_
 refine fE (fun h=>no fun e=>by simp[e] at h) fun h11=>?_
 refine pU (fun h12=>?_) (fun h=>no fun e=>by simp[e] at h)
 refine SY (r:=.li aA) hl _ (fun x y=>eT) (fun h13=>yes ?_) (fun h=>no fun e=>h (by rw[e]))
 simp only[Bool.and_true,Bool.and_eq_true,decide_eq_true_eq,eT] at h1 h2 h3 h4 h5 h6 h7 h8 h9 h10 h11 h12
 simp only[Prod.ext_iff]
 exact ⟨h1,h2,h3,h4,h5,h6,⟨h12,h13⟩,h7,h8,h9,h10,h11⟩
noncomputable def VW:Env:=Env.of [(38,.pure pS),(39,.pure pR)]
def WN:FuncId→Hint:=bX 11 [(4,.inv [.val 5 false (.int .i64)]),(9,.inv [.val 6 false (.int .i64)]),(14,.inv [.val 7 false (.int .i64)]),(19,.inv [.val 8 false (.int .i64)]),(24,.inv [.val 9 false (.int .i64)])] (fun _=>aZ)
theorem N6:aT Tryz.prog VW:=.cons XW (.cons XV (.nil _))
def vL(a0:aB)(a1:aB)(R:T→Prop):Prop:=aC (!decide (a0.1=a1.1)) (R d3) (aC (!decide ((↑(t6 a0).length:Int)=(↑(t6 a1).length:Int))) (R d3) (aC (!decide ((↑(GT a0).length:Int) = (↑(GT a1).length:Int))) (R d3) (aC (!decide ((↑(m9 a0).length:Int) = (↑(m9 a1).length:Int))) (R d3) (aC (!decide ((↑(i8 a0).length:Int) = (↑(i8 a1).length:Int))) (R d3) (aC (!decide ((↑(FS a0).length:Int) = (↑(FS a1).length:Int))) (R d3) (bA (Int×PUnit) (fun X0 s1=>aC (decide (s1.1<(↑(t6 a0).length:Int))) (aR a6 (t6 a0) s1.1 fun (y2:bE)=>aR a6 (t6 a1) s1.1 fun (y3:bE)=>aC (!(decide (y2.1=y3.1) && (decide (y2.2.1=y3.2.1)&&(decide (y2.2.2=y3.2.2)&&true)))) (R d3) (f8 X0 s1)) (bA (Int×PUnit) (fun X4 s5=>aC (decide (s5.1<(↑(GT a0).length:Int))) (aR aM (GT a0) s5.1 fun (y6:aV)=>aR aM (GT a1) s5.1 fun (y7:aV)=>aJ d4 (pS [aI true aM y6,aI true aM y7]) fun (y8:Bool)=>aC (!y8) (R d3) (f8 X4 s5)) (bA (Int×PUnit) (fun X9 s10=>aC (decide (s10.1<(↑(m9 a0).length:Int))) (aR a7 (m9 a0) s10.1 fun (y11:bI)=>aR a7 (m9 a1) s10.1 fun (y12:bI)=>aC (!(decide (y11.1=y12.1) && (decide (y11.2.1=y12.2.1) && (decide (y11.2.2.1=y12.2.2.1) && (decide (y11.2.2.2.1=y12.2.2.2.1) && (decide (y11.2.2.2.2.1=y12.2.2.2.2.1) && (decide (y11.2.2.2.2.2=y12.2.2.2.2.2) && true))))))) (R d3) (f8 X9 s10)) (bA (Int×PUnit) (fun X13 s14=>aC (decide (s14.1<(↑(i8 a0).length:Int))) (aR aF (i8 a0) s14.1 fun (y15:aL)=>aR aF (i8 a1) s14.1 fun (y16:aL)=>aJ d4 (pR [aI true aF y15,aI true aF y16]) fun (y17:Bool)=>aC (!y17) (R d3) (f8 X13 s14)) (bA (Int×PUnit) (fun X18 s19=>aC (decide (s19.1 < (↑(FS a0).length:Int))) (aR aS (FS a0) s19.1 fun (y20:a8)=>aR aS (FS a1) s19.1 fun (y21:a8)=>aC (!(decide (y20.1=y21.1) && (decide (y20.2.1=y21.2.1) && (decide (y20.2.2=y21.2.2)&&true)))) (R d3) (f8 X18 s19)) (R d6)) (0,()))) (0,()))) (0,()))) (0,()))) (0,())))))))
abbrev w7:Sh:=[(true,aE),(true,aE)]
noncomputable def nN:List T→Option T:=gS w7 o0
theorem LN {a0 a1}:nN [aI true aE a0,aI true aE a1]=o0 (a0,a1):=bG (s:=w7) rfl (a0,a1) rfl
theorem T5:rQ Tryz.prog 11 nN o0 (cD w7) vL:=gZ (a1:=(true,aE)) (a2:=(true,aE)) (sp:=o0) (F:=vL) (Hs:=WN) (f:=11) (k:=8) N6 aU aY (aN rfl) ⟨_,_,Tryz.func11,rfl⟩ rfl fun _ _ _=>by kernel_rfl
theorem S7:aO Tryz.prog 11 nN:=T5 fun a b r h hb=>by
 cases h
 have no:¬ a=b→T.v (.bool false)=Sh.enc jG (lU a b):=fun h=>by rw[vU h];rfl
 have yes:a=b→T.v (.bool true)=Sh.enc jG (lU a b):=fun h=>by rw[eT.2 h];rfl
 obtain ⟨⟨_,⟨b1,_⟩,⟨b2,_⟩,⟨b3,_⟩,⟨b4,_⟩,⟨b5,_⟩⟩,_⟩:=hb
 unfold vL f8 GT FS t6 m9 i8 d6 d4 d3
 simp only[OL,nZ,OK,nY,w4]
 refine fE (fun h=>no fun e=>by simp[e] at h) fun h1=>?_
 refine fE (fun h=>no fun e=>by simp[e] at h) fun g1=>?_
 refine fE (fun h=>no fun e=>by simp[e] at h) fun g2=>?_
 refine fE (fun h=>no fun e=>by simp[e] at h) fun g3=>?_
 refine fE (fun h=>no fun e=>by simp[e] at h) fun g4=>?_
 refine fE (fun h=>no fun e=>by simp[e] at h) fun g5=>?_
 refine rZ (r:=a6) (E1 g1) b1 _ (fun x y=>?_) (fun h2=>?_) (fun h=>no fun e=>h (by rw[e]))
 ·simp only[Bool.and_true,Bool.and_eq_true,decide_eq_true_eq,Prod.ext_iff]
 refine rZ (r:=aM) (E1 g2) b2 _ (fun x y=>eT) (fun h3=>?_) (fun h=>no fun e=>h (by rw[e]))
 refine rZ (r:=a7) (E1 g3) b3 _ (fun x y=>?_) (fun h4=>?_) (fun h=>no fun e=>h (by rw[e]))
 ·simp only[Bool.and_true,Bool.and_eq_true,decide_eq_true_eq,Prod.ext_iff]
 refine rZ (r:=aF) (E1 g4) b4 _ (fun x y=>eT) (fun h5=>?_) (fun h=>no fun e=>h (by rw[e]))
 refine rZ (r:=aS) (E1 g5) b5 _ (fun x y=>?_) (fun h6=>yes ?_) (fun h=>no fun e=>h (by rw[e]))
 ·simp only[Bool.and_true,Bool.and_eq_true,decide_eq_true_eq,Prod.ext_iff]
 exact Prod.ext (by simpa using h1) (Prod.ext h2 (Prod.ext h3 (Prod.ext h4 (Prod.ext h5 h6))))
end Go.Pv
namespace Go.Pv
open Go Go.Proofs
theorem GJ {r:Sy} (hr:r.pure=true) {l:List r.den} {rows:List (List T)} {K:List r.den→Prop} (e:rows=List.map r.enc l) (h:K l):lT r rows K:=by subst e;rw[dR hr];exact h
theorem vR {r:Sy} {l:List r.den} {z b:Nat} (hz:r.w=z) (h:kR b l.length=true):(((List.map r.enc l).all fun q=>decide (q.length=z))&&decide ((List.map r.enc l).length*b≤140737488355328)&&decide ((List.map r.enc l).length≤140737488355328))=true:=by
 unfold kR at h
 rw[Bool.and_eq_true] at h
 rw[List.length_map,h.1,h.2,Bool.and_true,Bool.and_true]
 subst hz
 refine List.all_eq_true.2 fun q hq=>?_
 obtain ⟨x,_,rfl⟩:=List.mem_map.1 hq
 exact decide_eq_true (Sy.cV r x)
def iQ (p:aV):Option T:=match gV p with
 | true=>some (Sh.enc [(true,aM)] p)
 | false=>none
noncomputable def AJ3:Env:=Env.of [(68,.pure jY),(69,.dup 1 24)]
def AK1:FuncId→Hint:=bX 75 [(4,.inv [.val 21 false (.int .i64),.arr 3 1 (.li aA)])] (fun _=>aZ)
theorem VZ:aT Tryz.prog AJ3:=.cons K9 (aT.cons (x:=.dup 1 24) AMB (.nil _))
def DQ(a0:aV)(R:T→Prop):Prop:=aJ eI (jY [T.sl false (BE8 a0)]) fun (y0:List aP)=>bN (((v6 a0).all fun (r:List T)=>decide (r.length=1)) && decide ((v6 a0).length*24≤140737488355328) && decide ((v6 a0).length≤140737488355328)) (lT aA.li (v6 a0) fun (y1:List (List aP))=>bA (Int×List (List aP)×PUnit) (fun X2 s3=>aC (decide (s3.1<(↑(v6 a0).length:Int))) (aR aA.li (M2 s3) s3.1 fun (y4:List aP)=>eU aA.li (M2 s3) (Int.toNat s3.1) 0 fun (y5:List aP)=>aJ eI (jY (BE0 y5)) fun (y6:List aP)=>aR aA.li (M2 s3) s3.1 fun (y7:List aP)=>C3 (M2 s3) (Int.toNat s3.1) fun (y8:List T)=>bN (decide (1≤y8.length)) (lT aA.li ((M2 s3).set (Int.toNat s3.1) (bU y8 0 (BE0 y6))) fun (y9:List (List aP))=>X2 (IntKind.i64.wrap (s3.1+1),y9,()))) (R (T.agg [T.v (.string a0.1),T.v (.int .i64 a0.2.1), T.v (.int .i64 a0.2.2.1), T.v (.string a0.2.2.2.1),T.v (.string a0.2.2.2.2.1), T.v (.int .i64 a0.2.2.2.2.2.1), T.sl false (f9 y0), T.sl false (M2 s3), T.v (.string a0.2.2.2.2.2.2.2.1), T.v (.int .i64 a0.2.2.2.2.2.2.2.2.1), T.v (.int .i64 a0.2.2.2.2.2.2.2.2.2.1), T.v (.int .i64 a0.2.2.2.2.2.2.2.2.2.2.1.1), T.v (.int .i64 a0.2.2.2.2.2.2.2.2.2.2.1.2.1), T.v (.int .i64 a0.2.2.2.2.2.2.2.2.2.2.1.2.2), T.v (.int .i64 a0.2.2.2.2.2.2.2.2.2.2.2.1.1), T.v (.int .i64 a0.2.2.2.2.2.2.2.2.2.2.2.1.2.1), T.v (.int .i64 a0.2.2.2.2.2.2.2.2.2.2.2.1.2.2), T.v (.int .i64 a0.2.2.2.2.2.2.2.2.2.2.2.2)]))) (0,y1,()))
abbrev FC:Sh:=[(true,aM)]
noncomputable def hU:List T→Option T:=gS FC iQ
theorem tU {a0}:hU [aI true aM a0]=iQ (a0):=bG (s:=FC) rfl (a0) rfl
theorem AFK:vF Tryz.prog 75 hU iQ (cD FC) DQ:=jJ (a1:=(true,aM)) (sp:=iQ) (F:=DQ) (Hs:=AK1) (f:=75) (k:=8) VZ aU aY (aN rfl) ⟨_,_,Tryz.func75,rfl⟩ rfl fun _ _=>by kernel_rfl
theorem tQ:aO Tryz.prog 75 hU:=AFK fun p r h hb=>by
 clear hb
 have hp:gV p=true:=by
  unfold iQ at h
  split at h
  ·assumption
  ·cases h
 have e:Sh.enc [(true,aM)] p=r:=by
  unfold iQ at h
  rw[hp] at h
  exact Option.some.inj h
 subst e
 clear h
 unfold gV CT at hp
 simp only[Bool.and_eq_true] at hp
 obtain ⟨⟨hp1,hp2⟩,hp3⟩:=hp
 have hb47:p.2.2.2.2.2.2.1.2.length≤140737488355328:=by
  simp only[kR,Bool.and_eq_true,decide_eq_true_eq] at hp2;exact hp2.2
 unfold DQ BE8 BE0 M2 v6 f9 eI
 refine aG (s:=[(false,aA.li)]) (y:=p.2.2.2.2.2.2.1.1) (by rw[oO,eP,iP hp1];rfl) ?_
 refine ⟨vR (r:=.li aA) rfl hp2,?_⟩
 obtain ⟨p1,p2,p3,p4,p5,p6,⟨o,hh⟩,p7⟩:=p
 dsimp only at hp1 hp2 hp3 hb47 ⊢
 rw[dR (r:=.li aA) rfl]
 refine bM hh.length (fun k s=>s=((k:Int),hh,())) rfl ?_
 rintro X k s hk rfl hX
 dsimp only
 refine b8 (fun hlt=>?_) fun hge=>rfl
 rw[List.length_map] at hlt
 have hlt:k<hh.length:=by omega
 have hok:kR 16 hh[k].length=true:=List.all_eq_true.1 hp3 _ (List.getElem_mem hlt)
 rw[bH (r:=.li aA) hlt,show Int.toNat (k:Int)=k from rfl,iC (r:=.li aA) hlt]
 refine aG (s:=[(false,aA.li)]) (y:=hh[k]) (by rw[oO,eP,iP hok];rfl) ?_
 rw[bH (r:=.li aA) hlt,oY (r:=.li aA) hlt]
 refine ⟨rfl,?_⟩
 have e:bU (Sy.enc (.li aA) hh[k]) 0 [T.sl false (List.map aA.enc hh[k])]=Sy.enc (.li aA) hh[k]:=rfl
 rw[e,C6 (r:=.li aA) hlt,dR (r:=.li aA) rfl]
 refine hX _ hlt ?_
 simp only[Prod.mk.injEq,and_true]
 exact bD _ (by omega) (by omega)
def jT (p:aL):Option T:=match fT p with
 | true=>some (Sh.enc [(true,aF)] p)
 | false=>none
noncomputable def AJ2:Env:=Env.of [(219,.pure jM)]
def AK0:FuncId→Hint:=fun _=>aZ
theorem VY:aT Tryz.prog AJ2:=.cons GM (.nil _)
def DP(a0:aL)(R:T→Prop):Prop:=aJ d9 (jM [T.sl false (BE7 a0)]) fun (y0:List ByteArray)=>aJ d9 (jM [T.sl false (BE4 a0)]) fun (y1:List ByteArray)=>R (T.agg [T.v (.string a0.1),T.v (.string a0.2.1), T.sl false (H1 y0),T.v (.int .i64 a0.2.2.2.1), T.sl false (H1 y1)])
abbrev FB:Sh:=[(true,aF)]
noncomputable def mS:List T→Option T:=gS FB jT
theorem CB {a0}:mS [aI true aF a0]=jT (a0):=bG (s:=FB) rfl (a0) rfl
theorem AFJ:vF Tryz.prog 76 mS jT (cD FB) DP:=jJ (a1:=(true,aF)) (sp:=jT) (F:=DP) (Hs:=AK0) (f:=76) (k:=8) VY aU aY (aN rfl) ⟨_,_,Tryz.func76,rfl⟩ rfl fun _ _=>by kernel_rfl
theorem LA:aO Tryz.prog 76 mS:=AFJ fun p r h hb=>by
 clear hb
 have hp:fT p=true:=by
  unfold jT at h
  split at h
  ·assumption
  ·cases h
 have e:Sh.enc [(true,aF)] p=r:=by
  unfold jT at h
  rw[hp] at h
  exact Option.some.inj h
 subst e
 clear h
 unfold fT at hp
 rw[Bool.and_eq_true] at hp
 unfold DP BE7 BE4 H1 d9
 refine aG (s:=[(false,.li .str)]) (y:=p.2.2.1) (by rw[nD,eP,iP hp.1];rfl) ?_
 refine aG (s:=[(false,.li .str)]) (y:=p.2.2.2.2) (by rw[nD,eP,iP hp.2];rfl) ?_
 rfl
theorem Q6 {α:Type}:∀ (xs pre:List α),bU (pre++xs) pre.length xs=pre++xs
 | [],pre=>rfl
 | x::xs,pre=>by
  unfold bU
  rw[show (pre++x::xs).set pre.length x=(pre++[x])++xs by simp,show pre.length+1=(pre++[x]).length by simp,Q6 xs (pre++[x])]
  simp
theorem HB {α:Type} (r:List α):bU r 0 r=r:=Q6 r []
def sP (d:aB):Bool:=(T6 d&&QR d)&&((decide (d.2.1.length≤1000)&&decide (d.2.2.1.length≤1000))&&(decide (d.2.2.2.1.length≤1000)&&(decide (d.2.2.2.2.1.length≤1000)&&decide (d.2.2.2.2.2.length≤1000))))
structure OkC (d:aB):Prop where
 T6:T6 d=true
 QR:QR d=true
 n:d.2.1.length≤1000
 p:d.2.2.1.length≤1000
 s:d.2.2.2.1.length≤1000
 k:d.2.2.2.2.1.length≤1000
 r:d.2.2.2.2.2.length≤1000
theorem dP {d:aB} (h:sP d=true):OkC d:=by
 simp only[sP,Bool.and_eq_true,decide_eq_true_eq] at h
 exact ⟨h.1.1,h.1.2,h.2.1.1,h.2.1.2,h.2.2.1,h.2.2.2.1,h.2.2.2.2⟩
theorem dG {b n:Nat} (hn:n≤1000) (hb:b≤1000):kR b n=true:=by
 have:=Nat.mul_le_mul hn hb
 unfold kR
 rw[decide_eq_true (by omega),decide_eq_true (by omega)];rfl
def q0 (d:aB):Option T:=match sP d with
 | true=>some (Sh.enc [(true,aE)] d)
 | false=>none
noncomputable def ABJ:Env:=Env.of [(70,.dup 3 40),(71,.dup 6 72),(72,.dup 3 40),(73,.dup 18 208),(74,.dup 5 88),(75,.pure hU),(76,.pure mS)]
def AC4:FuncId→Hint:=bX 36 [(4,.inv [.val 28 false (.int .i64),.arr 30 18 aM]),(9,.inv [.val 45 false (.int .i64),.arr 31 5 aF])] (fun _=>aZ)
theorem VX:aT Tryz.prog ABJ:=aT.cons (x:=.dup 3 40) AP (aT.cons (x:=.dup 6 72) AR (aT.cons (x:=.dup 3 40) AO (aT.cons (x:=.dup 18 208) AQ (aT.cons (x:=.dup 5 88) nC (.cons tQ (.cons LA (.nil _)))))))
def JG (a0:aB) (R:T→Prop):Prop :=
 bN
 (((List.map a6.enc a0.2.1).all fun (r:List T)=>decide (r.length=3)) &&
 decide ((List.map a6.enc a0.2.1).length*40≤140737488355328) &&
 decide ((List.map a6.enc a0.2.1).length≤140737488355328))
 (bN
 (((List.map a7.enc a0.2.2.2.1).all fun (r:List T)=>decide (r.length=6)) &&
 decide ((List.map a7.enc a0.2.2.2.1).length*72≤140737488355328) &&
 decide ((List.map a7.enc a0.2.2.2.1).length≤140737488355328))
 (bN
 (((List.map aS.enc a0.2.2.2.2.2).all fun (r:List T)=>decide (r.length=3)) &&
 decide ((List.map aS.enc a0.2.2.2.2.2).length*40≤140737488355328) &&
 decide ((List.map aS.enc a0.2.2.2.2.2).length≤140737488355328))
 (bN
 (((List.map aM.enc a0.2.2.1).all fun (r:List T)=>decide (r.length=18)) &&
 decide ((List.map aM.enc a0.2.2.1).length*208≤140737488355328) &&
 decide ((List.map aM.enc a0.2.2.1).length≤140737488355328))
 (bN
 (((List.map aF.enc a0.2.2.2.2.1).all fun (r:List T)=>decide (r.length=5)) &&
 decide ((List.map aF.enc a0.2.2.2.2.1).length*88≤140737488355328) &&
 decide ((List.map aF.enc a0.2.2.2.2.1).length≤140737488355328))
 (lT aM (List.map aM.enc a0.2.2.1) fun (y0:List aV) =>
 bA (Int×List aV×PUnit)
 (fun (X1:Int×List aV×PUnit→Prop) (s2:Int×List aV×PUnit) =>
 aC (decide (s2.1<(↑(List.map aM.enc a0.2.2.1).length:Int)))
 (aR aM (List.map aM.enc s2.2.1) s2.1 fun (y3:aV) =>
 eU aM (List.map aM.enc s2.2.1) (Int.toNat s2.1) 0
 fun (y4:aV) =>
 aJ [(true,aM)] (hU [aI true aM y4])
 fun (y5:aV) =>
 aR aM (List.map aM.enc s2.2.1) s2.1 fun (y6:aV) =>
 C3 (List.map aM.enc s2.2.1) (Int.toNat s2.1) fun (y7:List T) =>
 bN (decide (18≤y7.length))
 (lT aM
 ((List.map aM.enc s2.2.1).set (Int.toNat s2.1)
 (bU y7 0
 [T.v (.string y5.1),
 T.v (.int .i64 y5.2.1),
 T.v (.int .i64 y5.2.2.1),
 T.v (.string y5.2.2.2.1),
 T.v (.string y5.2.2.2.2.1),
 T.v (.int .i64 y5.2.2.2.2.2.1),
 T.sl false (List.map aA.enc y5.2.2.2.2.2.2.1.1),
 T.sl false
 (List.map aA.li.enc y5.2.2.2.2.2.2.1.2),
 T.v (.string y5.2.2.2.2.2.2.2.1),
 T.v (.int .i64 y5.2.2.2.2.2.2.2.2.1),
 T.v (.int .i64 y5.2.2.2.2.2.2.2.2.2.1),
 T.v (.int .i64 y5.2.2.2.2.2.2.2.2.2.2.1.1),
 T.v (.int .i64 y5.2.2.2.2.2.2.2.2.2.2.1.2.1),
 T.v (.int .i64 y5.2.2.2.2.2.2.2.2.2.2.1.2.2),
 T.v (.int .i64 y5.2.2.2.2.2.2.2.2.2.2.2.1.1),
 T.v (.int .i64 y5.2.2.2.2.2.2.2.2.2.2.2.1.2.1),
 T.v (.int .i64 y5.2.2.2.2.2.2.2.2.2.2.2.1.2.2),
 T.v (.int .i64 y5.2.2.2.2.2.2.2.2.2.2.2.2)]))
 fun (y8:List aV)=>X1 (IntKind.i64.wrap (s2.1+1),y8,())))
 (lT aF (List.map aF.enc a0.2.2.2.2.1)
 fun (y9:List aL) =>
 bA (Int×List aL×PUnit)
 (fun (X10:Int×List aL×PUnit→Prop) (s11:Int×List aL×PUnit) =>
 aC
 (decide (s11.1<(↑(List.map aF.enc a0.2.2.2.2.1).length:Int)))
 (aR aF (List.map aF.enc s11.2.1) s11.1
 fun (y12:aL) =>
 eU aF (List.map aF.enc s11.2.1) (Int.toNat s11.1) 0
 fun (y13:aL) =>
 aJ [(true,aF)]
 (mS [aI true aF y13]) fun (y14:aL) =>
 aR aF (List.map aF.enc s11.2.1) s11.1
 fun (y15:aL) =>
 C3 (List.map aF.enc s11.2.1) (Int.toNat s11.1)
 fun (y16:List T) =>
 bN (decide (5≤y16.length))
 (lT aF
 ((List.map aF.enc s11.2.1).set (Int.toNat s11.1)
 (bU y16 0
 [T.v (.string y14.1),
 T.v (.string y14.2.1),
 T.sl false (List.map Sy.str.enc y14.2.2.1),
 T.v (.int .i64 y14.2.2.2.1),
 T.sl false (List.map Sy.str.enc y14.2.2.2.2)]))
 fun (y17:List aL) =>
 X10 (IntKind.i64.wrap (s11.1+1),y17,())))
 (R
 (T.agg
 [T.v (.string a0.1),
 T.sl false (List.map a6.enc a0.2.1),
 T.sl false (List.map aM.enc s2.2.1),
 T.sl false (List.map a7.enc a0.2.2.2.1),
 T.sl false (List.map aF.enc s11.2.1),
 T.sl false (List.map aS.enc a0.2.2.2.2.2)])))
 (0,y9,())))
 (0,y0,()))))))
abbrev MX:Sh:=[(true,aE)]
noncomputable def eX:List T→Option T:=gS MX q0
theorem gI {a0}:eX [aI true aE a0]=q0 (a0):=bG (s:=MX) rfl (a0) rfl
theorem A37:vF Tryz.prog 36 eX q0 (cD MX) JG:=jJ (a1:=(true,aE)) (sp:=q0) (F:=JG) (Hs:=AC4) (f:=36) (k:=8) VX aU aY (aN rfl) ⟨_,_,Tryz.func36,rfl⟩ rfl fun _ _=>by kernel_rfl
theorem ATZ {d:aB} (hp:sP d=true):JG d (fun y=>y=Sh.enc [(true,aE)] d):=by
 have c:=dP hp
 unfold JG
 refine ⟨vR (r:=a6) rfl (dG c.n (by decide)),⟨vR (r:=a7) rfl (dG c.s (by decide)),⟨vR (r:=aS) rfl (dG c.r (by decide)),⟨vR (r:=aM) rfl (dG c.p (by decide)),⟨vR (r:=aF) rfl (dG c.k (by decide)),?_⟩⟩⟩⟩⟩
 rw[dR (r:=aM) rfl]
 have hpn:=c.p
 have hkn:=c.k
 refine bM d.2.2.1.length (fun k s=>s=((k:Int),d.2.2.1,())) rfl ?_
 rintro X k s hk rfl hX
 dsimp only
 refine b8 (fun hlt=>?_) fun hge=>?_
 ·rw[List.length_map] at hlt
  have hlt:k<d.2.2.1.length:=by omega
  have hok:gV d.2.2.1[k]=true:=List.all_eq_true.1 c.T6 _ (List.getElem_mem hlt)
  rw[bH (r:=aM) hlt,show Int.toNat (k:Int)=k from rfl,iC (r:=aM) hlt]
  refine aG (s:=[(true,aM)]) (y:=d.2.2.1[k]) ((tU ..).trans (by unfold iQ;rw[hok])) ?_
  rw[bH (r:=aM) hlt,oY (r:=aM) hlt]
  refine ⟨by rw[Sy.cV];rfl,?_⟩
  have h1:(List.map aM.enc d.2.2.1).set k (bU (Sy.enc aM d.2.2.1[k]) 0 (Sy.enc aM d.2.2.1[k]))=List.map aM.enc d.2.2.1:=by rw[HB];exact C6 (r:=aM) hlt
  refine (GJ (r:=aM) rfl h1 ?_)
  refine hX _ hlt ?_
  simp only[Prod.mk.injEq,and_true]
  exact bD _ (by omega) (by omega)
 ·rw[dR (r:=aF) rfl]
  refine bM d.2.2.2.2.1.length (fun k s=>s=((k:Int),d.2.2.2.2.1,())) rfl ?_
  rintro Y j s hj rfl hY
  dsimp only
  refine b8 (fun hlt=>?_) fun hge=>rfl
  rw[List.length_map] at hlt
  have hlt:j<d.2.2.2.2.1.length:=by omega
  have hok:fT d.2.2.2.2.1[j]=true:=List.all_eq_true.1 c.QR _ (List.getElem_mem hlt)
  rw[bH (r:=aF) hlt,show Int.toNat (j:Int)=j from rfl,iC (r:=aF) hlt]
  refine aG (s:=[(true,aF)]) (y:=d.2.2.2.2.1[j]) ((CB ..).trans (by unfold jT;rw[hok])) ?_
  rw[bH (r:=aF) hlt,oY (r:=aF) hlt]
  refine ⟨by rw[Sy.cV];rfl,?_⟩
  have h1:(List.map aF.enc d.2.2.2.2.1).set j (bU (Sy.enc aF d.2.2.2.2.1[j]) 0 (Sy.enc aF d.2.2.2.2.1[j]))=List.map aF.enc d.2.2.2.2.1:=by rw[HB];exact C6 (r:=aF) hlt
  refine (GJ (r:=aF) rfl h1 ?_)
  refine hY _ hlt ?_
  simp only[Prod.mk.injEq,and_true]
  exact bD _ (by omega) (by omega)
theorem nB:aO Tryz.prog 36 eX:=A37 fun d r h hb=>by
 clear hb
 have hp:sP d=true:=by
  unfold q0 at h
  split at h
  ·assumption
  ·cases h
 have e:Sh.enc [(true,aE)] d=r:=by
  unfold q0 at h
  rw[hp] at h
  exact Option.some.inj h
 subst e
 exact ATZ hp
noncomputable def DH (x:aX×aX):Option T:=some (Sh.enc jG (lU x.1 x.2))
noncomputable def A0A:Env:=Env.of [(66,.pure pQ)]
def A1T:FuncId→Hint:=bX 67 [(4,.inv [.val 13 false (.int .i64)])] (fun _=>aZ)
theorem AKP:aT Tryz.prog A0A:=.cons XU (.nil _)
def UV(a0:aX):List (List T):=List.map Sy.str.enc a0.2.2.2.2.2.2.1.2.2.2.2
def WP(a0:aX):List (List T):=List.map Sy.str.enc a0.2.2.2.2.2.2.1.2.2.1
def SD(a0:aX)(a1:aX)(R:T→Prop):Prop:=aC (decide (a0.1=a1.1)) (aC (decide (a0.2.1=a1.2.1)) (aC (decide (a0.2.2.1=a1.2.2.1)) (aC (decide (a0.2.2.2.1.1=a1.2.2.2.1.1) && (decide (a0.2.2.2.1.2.1=a1.2.2.2.1.2.1) && (decide (a0.2.2.2.1.2.2=a1.2.2.2.1.2.2)&&true))) (aJ d4 (pQ [aI true aM a0.2.2.2.2.1,aI true aM a1.2.2.2.2.1]) fun (y0:Bool)=>aC y0 (aC (decide (a0.2.2.2.2.2.1.1=a1.2.2.2.2.2.1.1) && (decide (a0.2.2.2.2.2.1.2.1=a1.2.2.2.2.2.1.2.1) && (decide (a0.2.2.2.2.2.1.2.2.1=a1.2.2.2.2.2.1.2.2.1) && (decide (a0.2.2.2.2.2.1.2.2.2.1=a1.2.2.2.2.2.1.2.2.2.1) && (decide (a0.2.2.2.2.2.1.2.2.2.2.1 = a1.2.2.2.2.2.1.2.2.2.2.1) && (decide (a0.2.2.2.2.2.1.2.2.2.2.2 = a1.2.2.2.2.2.1.2.2.2.2.2) && true)))))) (aC (decide (a0.2.2.2.2.2.2.2.1=a1.2.2.2.2.2.2.2.1) && (decide (a0.2.2.2.2.2.2.2.2.1=a1.2.2.2.2.2.2.2.2.1) && (decide (a0.2.2.2.2.2.2.2.2.2=a1.2.2.2.2.2.2.2.2.2)&&true))) (aC (decide (a0.2.2.2.2.2.2.1.1=a1.2.2.2.2.2.2.1.1)) (aC (decide (a0.2.2.2.2.2.2.1.2.1=a1.2.2.2.2.2.2.1.2.1)) (aC (decide (a0.2.2.2.2.2.2.1.2.2.2.1 = a1.2.2.2.2.2.2.1.2.2.2.1)) (aC (!decide ((↑(WP a0).length:Int) = (↑(WP a1).length:Int))) (R d3) (bA (Int×PUnit) (fun X1 s2=>aC (decide (s2.1 < (↑(WP a0).length : Int))) (aR Sy.str (WP a0) s2.1 fun (y3:ByteArray)=>aR Sy.str (WP a1) s2.1 fun (y4:ByteArray)=>aC (!decide (y3=y4)) (R d3) (f8 X1 s2)) (aC (!decide ((↑(UV a0).length : Int) = (↑(UV a1).length : Int))) (R d3) (bA (Int×PUnit) (fun X5 s6=>aC (decide (s6.1 < (↑(UV a0).length : Int))) (aR Sy.str (UV a0) s6.1 fun (y7:ByteArray)=>aR Sy.str (UV a1) s6.1 fun (y8:ByteArray)=>aC (!decide (y7=y8)) (R d3) (f8 X5 s6)) (R d6)) (0,())))) (0,()))) (R d3)) (R d3)) (R d3)) (R d3)) (R d3)) (R d3)) (R d3)) (R d3)) (R d3)) (R d3)
abbrev UT:Sh:=[(true,aQ),(true,aQ)]
noncomputable def cC:List T→Option T:=gS UT DH
theorem eY {a0 a1}:cC [aI true aQ a0,aI true aQ a1]=DH (a0,a1):=bG (s:=UT) rfl (a0,a1) rfl
theorem AXY:rQ Tryz.prog 34 cC DH (cD UT) SD:=gZ (a1:=(true,aQ)) (a2:=(true,aQ)) (sp:=DH) (F:=SD) (Hs:=A1T) (f:=34) (k:=8) AKP aU aY (aN rfl) ⟨_,_,Tryz.func34,rfl⟩ rfl fun _ _ _=>by kernel_rfl
theorem iU:aO Tryz.prog 34 cC:=AXY fun a b r h hb=>by
 cases h
 have no:¬ a=b→T.v (.bool false)=Sh.enc jG (lU a b):=fun h=>by rw[vU h];rfl
 have yes:a=b→T.v (.bool true)=Sh.enc jG (lU a b):=fun h=>by rw[eT.2 h];rfl
 have hl1:a.2.2.2.2.2.2.1.2.2.1.length≤2 ^ 47:=hb.1.2.2.2.2.2.2.1.2.2.1.1
 have hl2:a.2.2.2.2.2.2.1.2.2.2.2.length≤2 ^ 47:=hb.1.2.2.2.2.2.2.1.2.2.2.2.1
 clear hb
 unfold SD WP UV f8 d6 d4 d3
 refine pU (fun h1=>?_) (fun h=>no fun e=>by simp[e] at h)
 refine pU (fun h2=>?_) (fun h=>no fun e=>by simp[e] at h)
 refine pU (fun h3=>?_) (fun h=>no fun e=>by simp[e] at h)
 refine pU (fun h4=>?_) (fun h=>no fun e=>by simp[e] at h)
 refine aG (s:=jG) (y:=lU (a.2.2.2.2.1) (b.2.2.2.2.1)) (OJ ..) ?_
 refine pU (fun h5=>?_) (fun h=>no fun e=>by simp[e] at h)
 refine pU (fun h6=>?_) (fun h=>no fun e=>by simp[e] at h)
 refine pU (fun h7=>?_) (fun h=>no fun e=>by simp[e] at h)
 refine pU (fun h8=>?_) (fun h=>no fun e=>by simp[e] at h)
 refine pU (fun h9=>?_) (fun h=>no fun e=>by simp[e] at h)
 refine pU (fun h10=>?_) (fun h=>no fun e=>by simp[e] at h)
 refine SY (r:=.str) hl1 (fun y z=>decide (y=z)) (fun x y=>decide_eq_true_iff) (fun h11=>?_) (fun h=>no fun e=>h (by rw[e]))
 refine SY (r:=.str) hl2 (fun y z=>decide (y=z)) (fun x y=>decide_eq_true_iff) (fun h12=>yes ?_) (fun h=>no fun e=>h (by rw[e]))
 simp only[Bool.and_true,Bool.and_eq_true,decide_eq_true_eq,eT] at h1 h2 h3 h4 h5 h6 h7 h8 h9 h10
 simp only[Prod.ext_iff]
 exact ⟨h1,h2,h3,h4,by simpa only [Prod.ext_iff] using h5,h6,⟨h8,h9,h11,h10,h12⟩,h7⟩
end Go.Pv
namespace Go.Pv
open Go Go.Proofs
def T0 (l:List ByteArray) (x:ByteArray):Bool:=l.any fun y=>decide (y=x)
theorem CQ {l:List ByteArray} {x:ByteArray}:T0 l x=true↔x∈l:=by
 simp only[T0,List.any_eq_true,decide_eq_true_eq]
 exact ⟨fun ⟨y,h,e⟩=>e ▸ h,fun h=>⟨x,h,rfl⟩⟩
def Sy.tl:Sy→Sy
 | .pr _ b=>b
 | x=>x
def EY:List ByteArray→Nat→List (ByteArray×Int)→List (ByteArray×Int)
 | [],_,es=>es
 | a::l,i,es=>EY l (i+1) (match jI es a with
  | none=>vB es a (i:Int)
  | some _=>es)
def iJ (l:List ByteArray):List (ByteArray×Int):=EY l 0 []
def ids {α:Type} (l:List (ByteArray×α)):List ByteArray:=l.map fun x=>x.1
def pW {α β:Type} (l:List α) (r:β):Option β:=match decide (l.length≤140737488355328) with
 | true=>some r
 | false=>none
theorem jO {α β:Type} {l:List α} {t r:β} (h:pW l t=some r):l.length≤140737488355328∧r=t:=by
 unfold pW at h;split at h
 ·rename_i hc
  cases h;exact ⟨of_decide_eq_true hc,rfl⟩
 ·cases h
theorem jP {α β:Type} {l:List α} (t:β) (h:l.length≤140737488355328):pW l t=some t:=by unfold pW;rw[decide_eq_true h]
theorem A2M (es:List (ByteArray×Int)):List.map (fun (e:Value×D)=>(e.1,VM e.2)) (List.map (cQ Sy.str false (Sy.int IntKind.i64)) es)=bL es:=by
 rw[List.map_map];rfl
theorem IQ {r:Sy} {l:List (ByteArray×r.den)} (hl:l.length≤140737488355328) :
 dS Sy.str false (Sy.int IntKind.i64) [] fun (y0:List (ByteArray×Int)) =>
 bA (List (ByteArray×Int)×Int×PUnit)
  (fun (X1:List (ByteArray×Int)×Int×PUnit→Prop) (s2:List (ByteArray×Int)×Int×PUnit) =>
   aC (decide (s2.2.1<(↑l.length:Int)))
    (aR (.pr .str r) (List.map (Sy.pr .str r).enc l) s2.2.1 fun (y3:ByteArray×r.den) =>
     gX TypeDesc.string (Value.string y3.1)
      (List.map (cQ Sy.str false (Sy.int IntKind.i64)) s2.1) false
      (Sy.int IntKind.i64)
      (aR (.pr .str r) (List.map (Sy.pr .str r).enc l) s2.2.1 fun (y7:ByteArray×r.den) =>
       fH (Option (Nat×D))
        (findD TypeDesc.string (Value.string y7.1)
         (List.map (cQ Sy.str false (Sy.int IntKind.i64)) s2.1) 0)
        fun (y8:Option (Nat×D)) =>
        dS Sy.str false (Sy.int IntKind.i64)
         (e8 (List.map (cQ Sy.str false (Sy.int IntKind.i64)) s2.1) y8
          (Value.string y7.1) (D.p (T.v (.int .i64 s2.2.1))))
         fun (y9:List (ByteArray×Int))=>X1 (y9,IntKind.i64.wrap (s2.2.1+1),()))
      fun (i4:Nat) (y5:Int) =>
      dS Sy.str false (Sy.int IntKind.i64)
       (List.map (cQ Sy.str false (Sy.int IntKind.i64)) s2.1)
       fun (y6:List (ByteArray×Int))=>X1 (y6,IntKind.i64.wrap (s2.2.1+1),()))
    (bN
     ((List.map (cQ Sy.str false (Sy.int IntKind.i64)) s2.1).all
      fun (e:Value×D)=>ANI e.2)
     ((fun y=>y=T.mp (bL (iJ (ids l))))
      (T.mp
       (List.map (fun (e:Value×D)=>(e.1,VM e.2))
        (List.map (cQ Sy.str false (Sy.int IntKind.i64)) s2.1))))))
  (y0,0,()):=by
 refine nJ (r:=.int .i64) rfl [] _ ?_
 refine bM l.length (fun k s=>∃ es,s=(es,(k:Int),())∧EY (ids (l.drop k)) k es=iJ (ids l)) ⟨[],rfl,rfl⟩ ?_
 rintro X k s hk ⟨es,rfl,hes⟩ hX
 dsimp only
 have hw:IntKind.i64.wrap ((k:Int)+1)=((k+1:Nat):Int):=bD _ (by omega) (by omega)
 by_cases hlt:k<l.length
 ·refine eB (by omega) ?_
  rw[bH (r:=.pr .str r) hlt]
  have hd:ids (l.drop k)=l[k].1::ids (l.drop (k+1)):=by rw[List.drop_eq_getElem_cons hlt];rfl
  rw[hd] at hes
  simp only[EY] at hes
  refine B2 (r:=.int .i64) (fun hno=>?_) (fun i v hv=>?_)
  ·rw[hno] at hes
   rw[bH (r:=.pr .str r) hlt]
   exact AWP (r:=.int .i64) rfl (v:=(k:Int)) (hX _ hlt ⟨_,by rw[hw],hes⟩)
  ·rw[hv] at hes
   exact nJ (r:=.int .i64) rfl es _ (hX _ hlt ⟨_,by rw[hw],hes⟩)
 ·have:k=l.length:=by omega
  subst this
  refine fW (by omega) ?_
  rw[List.drop_length] at hes
  refine ⟨?_,?_⟩
  ·rw[List.all_eq_true]
   intro e he
   obtain ⟨x,_,rfl⟩:=List.mem_map.1 he
   rfl
  ·show T.mp _=_
   rw[A2M]
   rw[←hes]
   rfl
def rS (a0:aB):List T:=[T.v (.int .i64 (a0.2.1.length:Int)),T.fn 223 [] [T.ref [T.ref (aE.enc a0)]]]
noncomputable def APQ:Env:=Env.of []
def A5F:FuncId→Hint:=bX 222 [(3,.inv [.map 0 .str false (.int .i64),.val 12 false (.int .i64)])] (fun _=>aZ)
theorem A0X:aT Tryz.prog APQ:=.nil _
def bF:Sy:=Sy.int IntKind.i64
def i7(s2:List aD×Int×PUnit)(R:T→Prop):Prop:=bN ((List.map (cQ Sy.str false bF) s2.1).all fun (e:Value×D)=>ANI e.2) (R (T.mp (List.map (fun (e:Value×D)=>(e.1,VM e.2)) (List.map (cQ Sy.str false bF) s2.1))))
def IO(s2:List aD×Int×PUnit)(X1:List aD×Int×PUnit→Prop):Prop:=dS Sy.str false bF (List.map (cQ Sy.str false bF) s2.1) fun (y6:List aD)=>X1 (y6,IntKind.i64.wrap (s2.2.1+1),())
def ART(a0:aB)(R:T→Prop):Prop:=dS Sy.str false bF [] fun (y0:List aD)=>bA (List aD×Int×PUnit) (fun X1 s2=>aC (decide (s2.2.1<(↑a0.2.1.length:Int))) (aR a6 (t6 a0) s2.2.1 fun (y3:bE)=>gX TypeDesc.string (Value.string y3.1) (List.map (cQ Sy.str false bF) s2.1) false bF (aR a6 (t6 a0) s2.2.1 fun (y7:bE)=>fH (Option (Nat×D)) (findD TypeDesc.string (Value.string y7.1) (List.map (cQ Sy.str false bF) s2.1) 0) fun (y8:Option (Nat×D))=>dS Sy.str false bF (e8 (List.map (cQ Sy.str false bF) s2.1) y8 (Value.string y7.1) (D.p (T.v (.int .i64 s2.2.1)))) fun (y9:List aD)=>X1 (y9,IntKind.i64.wrap (s2.2.1+1),())) fun (i4:Nat) (y5:Int)=>IO s2 X1) (i7 s2 R)) (y0,0,())
theorem ARU ( a0 R):uS bW Tryz.prog APQ A5F 8 222 (rS a0) R=ART a0 R:=by kernel_rfl
def AGU (d:aB):Option (List (ByteArray×Int)):=pW d.2.1 (iJ (ids d.2.1))
theorem AJS (d d':aB) (h:rS d=rS d'):d=d':=by
 unfold rS at h
 simp only[List.cons.injEq,T.fn.injEq,T.ref.injEq,and_true,true_and] at h
 exact Sy.dH aE _ _ h.2
noncomputable def YI:List T→Option (List (ByteArray×Int)):=gA (fun (x:aB)=>rS x) AGU
theorem AVU (a0:aB):YI (rS a0)=AGU a0:=fA (A:=(fun (x:aB)=>rS x)) AJS a0
theorem A91 (h:∀ (a0:aB) (r:List (ByteArray×Int)),AGU a0=some r→(∀ t∈rS a0,Bd t)→ART a0 (fun y=>y = .mp (bL r))):j5 Tryz.prog 222 (rH YI) :=
 B3 (E:=APQ) (Hs:=A5F) A0X aU aY (aN rfl) 8 ⟨_,_,Tryz.func222,rfl⟩ fun x r h1 h2=>by
  rw[ARU]
  exact h x r h1 h2
theorem A77:j5 Tryz.prog 222 (rH YI):=A91 fun d r h hb=>by
 obtain ⟨hl,rfl⟩:=jO h
 unfold ART IO i7 t6 bF
 exact IQ (r:=a6.tl) (l:=d.2.1) hl
def rT (a0:aB):List T:=[T.v (.int .i64 (a0.2.2.1.length:Int)),T.fn 224 [] [T.ref [T.ref (aE.enc a0)]]]
noncomputable def APR:Env:=Env.of []
def A5G:FuncId→Hint:=bX 222 [(3,.inv [.map 0 .str false (.int .i64),.val 12 false (.int .i64)])] (fun _=>aZ)
theorem A0Y:aT Tryz.prog APR:=.nil _
def ARV(a0:aB)(R:T→Prop):Prop:=dS Sy.str false bF [] fun (y0:List aD)=>bA (List aD×Int×PUnit) (fun X1 s2=>aC (decide (s2.2.1<(↑a0.2.2.1.length:Int))) (aR aM (GT a0) s2.2.1 fun (y3:aV)=>gX TypeDesc.string (Value.string y3.1) (List.map (cQ Sy.str false bF) s2.1) false bF (aR aM (GT a0) s2.2.1 fun (y7:aV)=>fH (Option (Nat×D)) (findD TypeDesc.string (Value.string y7.1) (List.map (cQ Sy.str false bF) s2.1) 0) fun (y8:Option (Nat×D))=>dS Sy.str false bF (e8 (List.map (cQ Sy.str false bF) s2.1) y8 (Value.string y7.1) (D.p (T.v (.int .i64 s2.2.1)))) fun (y9:List aD)=>X1 (y9,IntKind.i64.wrap (s2.2.1+1),())) fun (i4:Nat) (y5:Int)=>IO s2 X1) (i7 s2 R)) (y0,0,())
theorem ARW ( a0 R):uS bW Tryz.prog APR A5G 8 222 (rT a0) R=ARV a0 R:=by kernel_rfl
def AGV (d:aB):Option (List (ByteArray×Int)):=pW d.2.2.1 (iJ (ids d.2.2.1))
theorem AJT (d d':aB) (h:rT d=rT d'):d=d':=by
 unfold rT at h
 simp only[List.cons.injEq,T.fn.injEq,T.ref.injEq,and_true,true_and] at h
 exact Sy.dH aE _ _ h.2
noncomputable def YJ:List T→Option (List (ByteArray×Int)):=gA (fun (x:aB)=>rT x) AGV
theorem AVV (a0:aB):YJ (rT a0)=AGV a0:=fA (A:=(fun (x:aB)=>rT x)) AJT a0
theorem A92 (h:∀ (a0:aB) (r:List (ByteArray×Int)),AGV a0=some r→(∀ t∈rT a0,Bd t)→ARV a0 (fun y=>y = .mp (bL r))):j5 Tryz.prog 222 (rH YJ) :=
 B3 (E:=APR) (Hs:=A5G) A0Y aU aY (aN rfl) 8 ⟨_,_,Tryz.func222,rfl⟩ fun x r h1 h2=>by
  rw[ARW]
  exact h x r h1 h2
theorem A78:j5 Tryz.prog 222 (rH YJ):=A92 fun d r h hb=>by
 obtain ⟨hl,rfl⟩:=jO h
 unfold ARV IO i7 GT bF
 exact IQ (r:=aM.tl) (l:=d.2.2.1) hl
def rU (a0:aB):List T:=[T.v (.int .i64 (a0.2.2.2.1.length:Int)),T.fn 225 [] [T.ref [T.ref (aE.enc a0)]]]
noncomputable def APS:Env:=Env.of []
def A5H:FuncId→Hint:=bX 222 [(3,.inv [.map 0 .str false (.int .i64),.val 12 false (.int .i64)])] (fun _=>aZ)
theorem A0Z:aT Tryz.prog APS:=.nil _
def ARX(a0:aB)(R:T→Prop):Prop:=dS Sy.str false bF [] fun (y0:List aD)=>bA (List aD×Int×PUnit) (fun X1 s2=>aC (decide (s2.2.1<(↑a0.2.2.2.1.length:Int))) (aR a7 (m9 a0) s2.2.1 fun (y3:bI)=>gX TypeDesc.string (Value.string y3.1) (List.map (cQ Sy.str false bF) s2.1) false bF (aR a7 (m9 a0) s2.2.1 fun (y7:bI)=>fH (Option (Nat×D)) (findD TypeDesc.string (Value.string y7.1) (List.map (cQ Sy.str false bF) s2.1) 0) fun (y8:Option (Nat×D))=>dS Sy.str false bF (e8 (List.map (cQ Sy.str false bF) s2.1) y8 (Value.string y7.1) (D.p (T.v (.int .i64 s2.2.1)))) fun (y9:List aD)=>X1 (y9,IntKind.i64.wrap (s2.2.1+1),())) fun (i4:Nat) (y5:Int)=>IO s2 X1) (i7 s2 R)) (y0,0,())
theorem ARY ( a0 R):uS bW Tryz.prog APS A5H 8 222 (rU a0) R=ARX a0 R:=by kernel_rfl
def AGW (d:aB):Option (List (ByteArray×Int)):=pW d.2.2.2.1 (iJ (ids d.2.2.2.1))
theorem AJU (d d':aB) (h:rU d=rU d'):d=d':=by
 unfold rU at h
 simp only[List.cons.injEq,T.fn.injEq,T.ref.injEq,and_true,true_and] at h
 exact Sy.dH aE _ _ h.2
noncomputable def YK:List T→Option (List (ByteArray×Int)):=gA (fun (x:aB)=>rU x) AGW
theorem AVW (a0:aB):YK (rU a0)=AGW a0:=fA (A:=(fun (x:aB)=>rU x)) AJU a0
theorem A93 (h:∀ (a0:aB) (r:List (ByteArray×Int)),AGW a0=some r→(∀ t∈rU a0,Bd t)→ARX a0 (fun y=>y = .mp (bL r))):j5 Tryz.prog 222 (rH YK) :=
 B3 (E:=APS) (Hs:=A5H) A0Z aU aY (aN rfl) 8 ⟨_,_,Tryz.func222,rfl⟩ fun x r h1 h2=>by
  rw[ARY]
  exact h x r h1 h2
theorem A79:j5 Tryz.prog 222 (rH YK):=A93 fun d r h hb=>by
 obtain ⟨hl,rfl⟩:=jO h
 unfold ARX IO i7 m9 bF
 exact IQ (r:=a7.tl) (l:=d.2.2.2.1) hl
def rV (a0:aB):List T:=[T.v (.int .i64 (a0.2.2.2.2.1.length:Int)),T.fn 226 [] [T.ref [T.ref (aE.enc a0)]]]
noncomputable def APT:Env:=Env.of []
def A5I:FuncId→Hint:=bX 222 [(3,.inv [.map 0 .str false (.int .i64),.val 12 false (.int .i64)])] (fun _=>aZ)
theorem A00:aT Tryz.prog APT:=.nil _
def ARZ(a0:aB)(R:T→Prop):Prop:=dS Sy.str false bF [] fun (y0:List aD)=>bA (List aD×Int×PUnit) (fun X1 s2=>aC (decide (s2.2.1<(↑a0.2.2.2.2.1.length:Int))) (aR aF (i8 a0) s2.2.1 fun (y3:aL)=>gX TypeDesc.string (Value.string y3.1) (List.map (cQ Sy.str false bF) s2.1) false bF (aR aF (i8 a0) s2.2.1 fun (y7:aL)=>fH (Option (Nat×D)) (findD TypeDesc.string (Value.string y7.1) (List.map (cQ Sy.str false bF) s2.1) 0) fun (y8:Option (Nat×D))=>dS Sy.str false bF (e8 (List.map (cQ Sy.str false bF) s2.1) y8 (Value.string y7.1) (D.p (T.v (.int .i64 s2.2.1)))) fun (y9:List aD)=>X1 (y9,IntKind.i64.wrap (s2.2.1+1),())) fun (i4:Nat) (y5:Int)=>IO s2 X1) (i7 s2 R)) (y0,0,())
theorem AR0 ( a0 R):uS bW Tryz.prog APT A5I 8 222 (rV a0) R=ARZ a0 R:=by kernel_rfl
def AGX (d:aB):Option (List (ByteArray×Int)):=pW d.2.2.2.2.1 (iJ (ids d.2.2.2.2.1))
theorem AJV (d d':aB) (h:rV d=rV d'):d=d':=by
 unfold rV at h
 simp only[List.cons.injEq,T.fn.injEq,T.ref.injEq,and_true,true_and] at h
 exact Sy.dH aE _ _ h.2
noncomputable def YL:List T→Option (List (ByteArray×Int)):=gA (fun (x:aB)=>rV x) AGX
theorem AVX (a0:aB):YL (rV a0)=AGX a0:=fA (A:=(fun (x:aB)=>rV x)) AJV a0
theorem A94 (h:∀ (a0:aB) (r:List (ByteArray×Int)),AGX a0=some r→(∀ t∈rV a0,Bd t)→ARZ a0 (fun y=>y = .mp (bL r))):j5 Tryz.prog 222 (rH YL) :=
 B3 (E:=APT) (Hs:=A5I) A00 aU aY (aN rfl) 8 ⟨_,_,Tryz.func222,rfl⟩ fun x r h1 h2=>by
  rw[AR0]
  exact h x r h1 h2
theorem A8A:j5 Tryz.prog 222 (rH YL):=A94 fun d r h hb=>by
 obtain ⟨hl,rfl⟩:=jO h
 unfold ARZ IO i7 i8 bF
 exact IQ (r:=aF.tl) (l:=d.2.2.2.2.1) hl
end Go.Pv
namespace Go.Pv
open Go Go.Proofs
def orG {α:Type} (g1 g2:List T→Option α) (a:List T):Option α:=match g1 a with
 | some r=>some r
 | none=>g2 a
theorem MR {α:Type} {g1 g2:List T→Option α} {a:List T} {r:α} (h:g1 a=some r):orG g1 g2 a=some r:=by unfold orG;rw[h]
theorem oJ {α:Type} {g1 g2:List T→Option α} {a:List T} (h:g1 a=none):orG g1 g2 a=g2 a:=by unfold orG;rw[h]
theorem QV {α:Type} {g1 g2:List T→Option α} {a:List T} {r:α} (h:orG g1 g2 a=some r):g1 a=some r∨g2 a=some r:=by
 unfold orG at h
 split at h
 ·rename_i r' h1;cases h;exact .inl h1
 ·exact .inr h
theorem aO.or {P:Program} {f:FuncId} {g1 g2:List T→Option T} (h1:aO P f g1) (h2:aO P f g2):aO P f (orG g1 g2):=⟨h1.entry,fun w own args vs r hG ho ha hr=>by
 rcases QV hr with h|h
 ·exact h1.calls w own args vs r hG ho ha h
 ·exact h2.calls w own args vs r hG ho ha h⟩
theorem j5.orM {P:Program} {f:FuncId} {g1 g2:List T→Option (List (ByteArray×Int))} (h1:j5 P f (rH g1)) (h2:j5 P f (rH g2)):j5 P f (rH (orG g1 g2)):=⟨h1.entry,fun w own args vs r hG ho ha hr=>by
 simp only[rH,Option.map_eq_some_iff] at hr
 obtain ⟨es,h,rfl⟩:=hr
 rcases QV h with h|h
 ·exact h1.calls w own args vs _ hG ho ha (by simp[rH,h])
 ·exact h2.calls w own args vs _ hG ho ha (by simp[rH,h])⟩
noncomputable def AM5:List T→Option (List (ByteArray×Int)):=orG YI (orG YJ (orG YK YL))
theorem BDB:j5 Tryz.prog 222 (rH AM5):=.orM A77 (.orM A78 (.orM A79 A8A))
theorem hO {α X:Type} {A:X→List T} {sp:X→Option α} {args:List T} (h:∀ x,args≠A x):gA A sp args=none:=by
 unfold gA;rw[dif_neg];rintro ⟨x,hx⟩;exact h x hx
def rR:List ByteArray→Bool
 | a::b::l=>!(cK b a||decide (b=a))&&rR (b::l)
 | _=>true
theorem ATK {l:List ByteArray} {k:Nat} (h:k+1<l.length):rR (l.drop k)=(!(cK l[k+1] l[k]||decide (l[k+1]=l[k]))&&rR (l.drop (k+1))):=by
 rw[List.drop_eq_getElem_cons (show k<l.length by omega),List.drop_eq_getElem_cons h,rR]
theorem A19 {l:List ByteArray} {k:Nat} (h:l.length≤k+1):rR (l.drop k)=true:=by
 rcases Nat.lt_or_ge k l.length with h1|h1
 ·rw[List.drop_eq_getElem_cons h1,List.drop_eq_nil_of_le h];rfl
 ·rw[List.drop_eq_nil_of_le h1];rfl
theorem C2 {r:Sy} {p:r.den→ByteArray} {l:List r.den} (hl:l.length≤140737488355328) {R:T→Prop} (hR:R (T.v (.bool (rR (l.map p))))) :
 bA (Int×PUnit)
 (fun (X0:Int×PUnit→Prop) (s1:Int×PUnit) =>
  aC (decide (s1.1<(↑l.length:Int)))
   (aR r (List.map r.enc l) s1.1 fun (y2:r.den) =>
    aR r (List.map r.enc l) (IntKind.i64.wrap (s1.1-1))
     fun (y3:r.den) =>
     aC (cK (p y2) (p y3)||decide (p y2=p y3)) (R (T.v (.bool false)))
      (X0 (IntKind.i64.wrap (s1.1+1),())))
   (R (T.v (.bool true))))
 (1,()):=by
 refine bM l.length (fun k s=>s=(((k+1:Nat):Int),())∧rR (l.map p)=rR ((l.map p).drop k)) ⟨rfl,by rw[List.drop_zero]⟩ ?_
 rintro X k s hk ⟨rfl,he⟩ hX
 dsimp only
 have hw:IntKind.i64.wrap (((k+1:Nat):Int)+1)=((k+1+1:Nat):Int):=bD _ (by omega) (by omega)
 have hw1:IntKind.i64.wrap (((k+1:Nat):Int)-1)=((k:Nat):Int):=by rw[bD _ (by omega) (by omega)];omega
 by_cases hlt:k+1<l.length
 ·refine eB (by omega) ?_
  rw[bH hlt,hw1,bH (show k<l.length by omega)]
  rw[ATK (by rw[List.length_map];exact hlt)] at he
  rw[List.getElem_map,List.getElem_map] at he
  cases hc:(cK (p l[k+1]) (p l[k])||decide (p l[k+1]=p l[k])) with
  | true =>
   rw[kH]
   rw[hc,Bool.not_true,Bool.false_and] at he
   rwa[he] at hR
  | false =>
   rw[oE]
   rw[hc,Bool.not_false,Bool.true_and] at he
   exact hX _ (by omega) ⟨by rw[hw],he⟩
 ·refine fW (by omega) ?_
  rw[A19 (by rw[List.length_map];omega)] at he
  rwa[he] at hR
def qK (a0:List ByteArray):List T:=[T.v (.int .i64 (a0.length:Int)),T.fn 286 [] [T.ref [T.sl false (List.map Sy.str.enc a0)]]]
noncomputable def AQD:Env:=Env.of []
def A5O:FuncId→Hint:=bX 227 [(2,.inv [.val 5 false (.int .i64)])] (fun _=>aZ)
theorem A1G:aT Tryz.prog AQD:=.nil _
def ASL(a0:List ByteArray)(R:T→Prop):Prop:=bA (Int×PUnit) (fun X0 s1=>aC (decide (s1.1<(↑a0.length:Int))) (aR Sy.str (H1 a0) s1.1 fun (y2:ByteArray)=>aR Sy.str (H1 a0) (IntKind.i64.wrap (s1.1-1)) fun (y3:ByteArray)=>aC (cK y2 y3||decide (y2=y3)) (R d3) (f8 X0 s1)) (R d6)) (1,())
theorem ASM ( a0 R):dW bW Tryz.prog AQD A5O 8 227 (qK a0) R=ASL a0 R:=by kernel_rfl
def AG3 (l:List ByteArray):Option T:=pW l (T.v (.bool (rR l)))
theorem AJ1 (d d':List ByteArray) (h:qK d=qK d'):d=d':=by
 unfold qK at h
 simp only[List.cons.injEq,T.fn.injEq,T.ref.injEq,and_true,true_and,T.sl.injEq] at h
 exact map_inj (Sy.dH .str) h.2
noncomputable def Y9:List T→Option (T):=gA (fun (x:List ByteArray)=>qK x) AG3
theorem AWD (a0:List ByteArray):Y9 (qK a0)=AG3 a0:=fA (A:=(fun (x:List ByteArray)=>qK x)) AJ1 a0
theorem BAK (h:∀ (a0:List ByteArray) (r:T),AG3 a0=some r→(∀ t∈qK a0,Bd t)→ASL a0 (fun y=>y=r)):aO Tryz.prog 227 Y9 :=
 cP (E:=AQD) (Hs:=A5O) A1G aU aY (aN rfl) 8 ⟨_,_,Tryz.func227,rfl⟩ fun x r h1 h2=>by
  rw[ASM]
  exact h x r h1 h2
theorem A8Q:aO Tryz.prog 227 Y9:=BAK fun l r h hb=>by
 obtain ⟨hl,rfl⟩:=jO h
 unfold ASL H1 f8 d6 d3
 exact C2 (r:=.str) (p:=fun y=>y) (R:=fun y=>y=T.v (.bool (rR l))) hl (by simp)
def qG (a0:aB):List T:=[T.v (.int .i64 (a0.2.1.length:Int)),T.fn 228 [] [T.ref [T.ref (aE.enc a0)]]]
noncomputable def AP9:Env:=Env.of []
def A5K:FuncId→Hint:=bX 227 [(2,.inv [.val 5 false (.int .i64)])] (fun _=>aZ)
theorem A1C:aT Tryz.prog AP9:=.nil _
def ASD(a0:aB)(R:T→Prop):Prop:=bA (Int×PUnit) (fun X0 s1=>aC (decide (s1.1<(↑a0.2.1.length:Int))) (aR a6 (t6 a0) s1.1 fun (y2:bE)=>aR a6 (t6 a0) (IntKind.i64.wrap (s1.1-1)) fun (y3:bE)=>aC (cK y2.1 y3.1||decide (y2.1=y3.1)) (R d3) (f8 X0 s1)) (R d6)) (1,())
theorem ASE ( a0 R):dW bW Tryz.prog AP9 A5K 8 227 (qG a0) R=ASD a0 R:=by kernel_rfl
def AGZ (d:aB):Option T:=pW d.2.1 (T.v (.bool (rR (ids d.2.1))))
theorem AJX (d d':aB) (h:qG d=qG d'):d=d':=by
 unfold qG at h
 simp only[List.cons.injEq,T.fn.injEq,T.ref.injEq,and_true,true_and] at h
 exact Sy.dH aE _ _ h.2
noncomputable def Y5:List T→Option (T):=gA (fun (x:aB)=>qG x) AGZ
theorem AV9 (a0:aB):Y5 (qG a0)=AGZ a0:=fA (A:=(fun (x:aB)=>qG x)) AJX a0
theorem BAG (h:∀ (a0:aB) (r:T),AGZ a0=some r→(∀ t∈qG a0,Bd t)→ASD a0 (fun y=>y=r)):aO Tryz.prog 227 Y5 :=
 cP (E:=AP9) (Hs:=A5K) A1C aU aY (aN rfl) 8 ⟨_,_,Tryz.func227,rfl⟩ fun x r h1 h2=>by
  rw[ASE]
  exact h x r h1 h2
theorem A8M:aO Tryz.prog 227 Y5:=BAG fun d r h hb=>by
 obtain ⟨hl,rfl⟩:=jO h
 unfold ASD f8 t6 d6 d3
 exact C2 (r:=a6) (p:=fun y=>y.1) (R:=fun y=>y=T.v (.bool (rR (ids d.2.1)))) hl rfl
def qH (a0:aB):List T:=[T.v (.int .i64 (a0.2.2.1.length:Int)),T.fn 229 [] [T.ref [T.ref (aE.enc a0)]]]
noncomputable def AQA:Env:=Env.of []
def A5L:FuncId→Hint:=bX 227 [(2,.inv [.val 5 false (.int .i64)])] (fun _=>aZ)
theorem A1D:aT Tryz.prog AQA:=.nil _
def ASF(a0:aB)(R:T→Prop):Prop:=bA (Int×PUnit) (fun X0 s1=>aC (decide (s1.1<(↑a0.2.2.1.length:Int))) (aR aM (GT a0) s1.1 fun (y2:aV)=>aR aM (GT a0) (IntKind.i64.wrap (s1.1-1)) fun (y3:aV)=>aC (cK y2.1 y3.1||decide (y2.1=y3.1)) (R d3) (f8 X0 s1)) (R d6)) (1,())
theorem ASG ( a0 R):dW bW Tryz.prog AQA A5L 8 227 (qH a0) R=ASF a0 R:=by kernel_rfl
def AG0 (d:aB):Option T:=pW d.2.2.1 (T.v (.bool (rR (ids d.2.2.1))))
theorem AJY (d d':aB) (h:qH d=qH d'):d=d':=by
 unfold qH at h
 simp only[List.cons.injEq,T.fn.injEq,T.ref.injEq,and_true,true_and] at h
 exact Sy.dH aE _ _ h.2
noncomputable def Y6:List T→Option (T):=gA (fun (x:aB)=>qH x) AG0
theorem AWA (a0:aB):Y6 (qH a0)=AG0 a0:=fA (A:=(fun (x:aB)=>qH x)) AJY a0
theorem BAH (h:∀ (a0:aB) (r:T),AG0 a0=some r→(∀ t∈qH a0,Bd t)→ASF a0 (fun y=>y=r)):aO Tryz.prog 227 Y6 :=
 cP (E:=AQA) (Hs:=A5L) A1D aU aY (aN rfl) 8 ⟨_,_,Tryz.func227,rfl⟩ fun x r h1 h2=>by
  rw[ASG]
  exact h x r h1 h2
theorem A8N:aO Tryz.prog 227 Y6:=BAH fun d r h hb=>by
 obtain ⟨hl,rfl⟩:=jO h
 unfold ASF f8 GT d6 d3
 exact C2 (r:=aM) (p:=fun y=>y.1) (R:=fun y=>y=T.v (.bool (rR (ids d.2.2.1)))) hl rfl
def qI (a0:aB):List T:=[T.v (.int .i64 (a0.2.2.2.1.length:Int)),T.fn 230 [] [T.ref [T.ref (aE.enc a0)]]]
noncomputable def AQB:Env:=Env.of []
def A5M:FuncId→Hint:=bX 227 [(2,.inv [.val 5 false (.int .i64)])] (fun _=>aZ)
theorem A1E:aT Tryz.prog AQB:=.nil _
def ASH(a0:aB)(R:T→Prop):Prop:=bA (Int×PUnit) (fun X0 s1=>aC (decide (s1.1<(↑a0.2.2.2.1.length:Int))) (aR a7 (m9 a0) s1.1 fun (y2:bI)=>aR a7 (m9 a0) (IntKind.i64.wrap (s1.1-1)) fun (y3:bI)=>aC (cK y2.1 y3.1||decide (y2.1=y3.1)) (R d3) (f8 X0 s1)) (R d6)) (1,())
theorem ASI ( a0 R):dW bW Tryz.prog AQB A5M 8 227 (qI a0) R=ASH a0 R:=by kernel_rfl
def AG1 (d:aB):Option T:=pW d.2.2.2.1 (T.v (.bool (rR (ids d.2.2.2.1))))
theorem AJZ (d d':aB) (h:qI d=qI d'):d=d':=by
 unfold qI at h
 simp only[List.cons.injEq,T.fn.injEq,T.ref.injEq,and_true,true_and] at h
 exact Sy.dH aE _ _ h.2
noncomputable def Y7:List T→Option (T):=gA (fun (x:aB)=>qI x) AG1
theorem AWB (a0:aB):Y7 (qI a0)=AG1 a0:=fA (A:=(fun (x:aB)=>qI x)) AJZ a0
theorem BAI (h:∀ (a0:aB) (r:T),AG1 a0=some r→(∀ t∈qI a0,Bd t)→ASH a0 (fun y=>y=r)):aO Tryz.prog 227 Y7 :=
 cP (E:=AQB) (Hs:=A5M) A1E aU aY (aN rfl) 8 ⟨_,_,Tryz.func227,rfl⟩ fun x r h1 h2=>by
  rw[ASI]
  exact h x r h1 h2
theorem A8O:aO Tryz.prog 227 Y7:=BAI fun d r h hb=>by
 obtain ⟨hl,rfl⟩:=jO h
 unfold ASH f8 m9 d6 d3
 exact C2 (r:=a7) (p:=fun y=>y.1) (R:=fun y=>y=T.v (.bool (rR (ids d.2.2.2.1)))) hl rfl
def qJ (a0:aB):List T:=[T.v (.int .i64 (a0.2.2.2.2.1.length:Int)),T.fn 231 [] [T.ref [T.ref (aE.enc a0)]]]
noncomputable def AQC:Env:=Env.of []
def A5N:FuncId→Hint:=bX 227 [(2,.inv [.val 5 false (.int .i64)])] (fun _=>aZ)
theorem A1F:aT Tryz.prog AQC:=.nil _
def ASJ(a0:aB)(R:T→Prop):Prop:=bA (Int×PUnit) (fun X0 s1=>aC (decide (s1.1<(↑a0.2.2.2.2.1.length:Int))) (aR aF (i8 a0) s1.1 fun (y2:aL)=>aR aF (i8 a0) (IntKind.i64.wrap (s1.1-1)) fun (y3:aL)=>aC (cK y2.1 y3.1||decide (y2.1=y3.1)) (R d3) (f8 X0 s1)) (R d6)) (1,())
theorem ASK ( a0 R):dW bW Tryz.prog AQC A5N 8 227 (qJ a0) R=ASJ a0 R:=by kernel_rfl
def AG2 (d:aB):Option T:=pW d.2.2.2.2.1 (T.v (.bool (rR (ids d.2.2.2.2.1))))
theorem AJ0 (d d':aB) (h:qJ d=qJ d'):d=d':=by
 unfold qJ at h
 simp only[List.cons.injEq,T.fn.injEq,T.ref.injEq,and_true,true_and] at h
 exact Sy.dH aE _ _ h.2
noncomputable def Y8:List T→Option (T):=gA (fun (x:aB)=>qJ x) AG2
theorem AWC (a0:aB):Y8 (qJ a0)=AG2 a0:=fA (A:=(fun (x:aB)=>qJ x)) AJ0 a0
theorem BAJ (h:∀ (a0:aB) (r:T),AG2 a0=some r→(∀ t∈qJ a0,Bd t)→ASJ a0 (fun y=>y=r)):aO Tryz.prog 227 Y8 :=
 cP (E:=AQC) (Hs:=A5N) A1F aU aY (aN rfl) 8 ⟨_,_,Tryz.func227,rfl⟩ fun x r h1 h2=>by
  rw[ASK]
  exact h x r h1 h2
theorem A8P:aO Tryz.prog 227 Y8:=BAJ fun d r h hb=>by
 obtain ⟨hl,rfl⟩:=jO h
 unfold ASJ f8 i8 d6 d3
 exact C2 (r:=aF) (p:=fun y=>y.1) (R:=fun y=>y=T.v (.bool (rR (ids d.2.2.2.2.1)))) hl rfl
noncomputable def vA:List T→Option T:=orG Y5 (orG Y6 (orG Y7 (orG Y8 Y9)))
theorem A5W:aO Tryz.prog 227 vA:=.or A8M (.or A8N (.or A8O (.or A8P A8Q)))
theorem A8T {d:aB} (h:d.2.1.length≤140737488355328):AM5 (rS d)=some (iJ (ids d.2.1)):=by
 have h1:YI (rS d)=some (iJ (ids d.2.1)):=by rw[AVU];exact jP _ h
 exact (MR h1)
theorem A8X {d:aB} (h:d.2.1.length≤140737488355328):vA (qG d)=some (T.v (.bool (rR (ids d.2.1)))):=by
 have h1:Y5 (qG d)=some (T.v (.bool (rR (ids d.2.1)))):=by rw[AV9];exact jP _ h
 exact (MR h1)
theorem A8U {d:aB} (h:d.2.2.1.length≤140737488355328):AM5 (rT d)=some (iJ (ids d.2.2.1)):=by
 have h1:YJ (rT d)=some (iJ (ids d.2.2.1)):=by rw[AVV];exact jP _ h
 exact ((oJ (hO fun x h=>by simp[rS,rT] at h)).trans (MR h1))
theorem A8Y {d:aB} (h:d.2.2.1.length≤140737488355328):vA (qH d)=some (T.v (.bool (rR (ids d.2.2.1)))):=by
 have h1:Y6 (qH d)=some (T.v (.bool (rR (ids d.2.2.1)))):=by rw[AWA];exact jP _ h
 exact ((oJ (hO fun x h=>by simp[qG,qH] at h)).trans (MR h1))
theorem A8V {d:aB} (h:d.2.2.2.1.length≤140737488355328):AM5 (rU d)=some (iJ (ids d.2.2.2.1)):=by
 have h1:YK (rU d)=some (iJ (ids d.2.2.2.1)):=by rw[AVW];exact jP _ h
 exact ((oJ (hO fun x h=>by simp[rS,rU] at h)).trans ((oJ (hO fun x h=>by simp[rT,rU] at h)).trans (MR h1)))
theorem A8Z {d:aB} (h:d.2.2.2.1.length≤140737488355328):vA (qI d)=some (T.v (.bool (rR (ids d.2.2.2.1)))):=by
 have h1:Y7 (qI d)=some (T.v (.bool (rR (ids d.2.2.2.1)))):=by rw[AWB];exact jP _ h
 exact ((oJ (hO fun x h=>by simp[qG,qI] at h)).trans ((oJ (hO fun x h=>by simp[qH,qI] at h)).trans (MR h1)))
theorem A8W {d:aB} (h:d.2.2.2.2.1.length≤140737488355328):AM5 (rV d)=some (iJ (ids d.2.2.2.2.1)):=by
 have h1:YL (rV d)=some (iJ (ids d.2.2.2.2.1)):=by rw[AVX];exact jP _ h
 exact ((oJ (hO fun x h=>by simp[rS,rV] at h)).trans ((oJ (hO fun x h=>by simp[rT,rV] at h)).trans ((oJ (hO fun x h=>by simp[rU,rV] at h)).trans h1)))
theorem A80 {d:aB} (h:d.2.2.2.2.1.length≤140737488355328):vA (qJ d)=some (T.v (.bool (rR (ids d.2.2.2.2.1)))):=by
 have h1:Y8 (qJ d)=some (T.v (.bool (rR (ids d.2.2.2.2.1)))):=by rw[AWC];exact jP _ h
 exact ((oJ (hO fun x h=>by simp[qG,qJ] at h)).trans ((oJ (hO fun x h=>by simp[qH,qJ] at h)).trans ((oJ (hO fun x h=>by simp[qI,qJ] at h)).trans (MR h1))))
theorem AWE {l:List ByteArray} (h:l.length≤140737488355328):vA (qK l)=some (T.v (.bool (rR l))):=by
 have h1:Y9 (qK l)=some (T.v (.bool (rR l))):=by rw[AWD];exact jP _ h
 exact ((oJ (hO fun x h=>by simp[qG,qK] at h)).trans ((oJ (hO fun x h=>by simp[qH,qK] at h)).trans ((oJ (hO fun x h=>by simp[qI,qK] at h)).trans ((oJ (hO fun x h=>by simp[qJ,qK] at h)).trans h1))))
abbrev N0 (d:aB) (m1 m2 m3 m4:List (ByteArray×Int)):T:=T.ref [T.ref (aE.enc d),T.mp (bL m1),T.mp (bL m2),T.mp (bL m3),T.mp (bL m4)]
end Go.Pv
namespace Go.Pv
open Go Go.Proofs
abbrev q_b:Sh:=[(false,.bool)]
abbrev BAS:Sh:=[(false,.li .str)]
def xD (x:ByteArray×ByteArray):Option T:=match decide (x.1.size<4294967281),decide (1≤x.2.size) with
 | true,true=>some (Sh.enc BAS (Lib.splitB x.2 0 (Lib.countB x.1 x.2) x.1))
 | _,_=>none
noncomputable def wO:List T→Option T:=gS [(false,.str),(false,.str)] xD
theorem ZE {a b:ByteArray}:wO [T.v (.string a),T.v (.string b)]=xD (a,b):=bG (s:=[(false,.str),(false,.str)]) rfl (a,b) rfl
theorem AMP:aO Tryz.prog 273 wO:=by
 refine ⟨B5.entry,fun w own args vs r hG ho ha hg=>?_⟩
 obtain ⟨⟨a,b⟩,rfl,hx⟩:=xT hg
 unfold xD at hx
 split at hx
 ·rename_i h1 h2
  cases hx
  have hs:v7 [.v (.string a),.v (.string b)]=some (.sl true ((Lib.splitB b 0 (Lib.countB a b) a).map fun x=>[.v (.string x)])):=by
   unfold v7
   simp only[h1,h2]
  refine (B5.calls w own _ vs _ hG ho ha hs).mono ?_
  rintro e w' ⟨v,rfl,hr,hb⟩
  exact ⟨v,rfl,hr.canon 0,hb⟩
 ·cases hx
end Go.Pv
namespace Go.Pv
open Go Go.Proofs
def qV (n:Int):Bool:=(decide (97≤n)&&decide (n≤122))||(decide (65≤n)&&decide (n≤90))
def AL (n:Int):Bool:=decide (48≤n)&&decide (n≤57)
def nameAt (i:Nat) (b:UInt8):Bool:=qV b.toNat||(decide (i≠0)&&(AL b.toNat||decide ((b.toNat:Int)=95)||decide ((b.toNat:Int)=45)))
def isName (s:ByteArray):Bool:=decide (s.size≠0)&&decide (s.size≤16)&&(List.range s.size).all fun i=>match s.data[i]? with|some b=>nameAt i b|none=>true
def AA2 (s:ByteArray):Option T:=some (Sh.enc q_b (isName s))
abbrev sX:=AA2
def A4U (l:List ByteArray):Int:=(l.length:Int)-1+oA l
def BD3 (s:ByteArray):Option T:=match decide (s.size≤1099511627776) with
 | true=>some (Sh.enc BAS (dV s))
 | false=>none
def sY (l:List ByteArray):Option T:=match decide (l.length≤65)&&decide (oA l≤64) with
 | true=>some (Sh.enc q_b (l.all isName&&(decide (1≤l.length)&&decide (l.length≤8)&&decide (A4U l≤64))))
 | false=>none
def wV (s:ByteArray):Bool:=decide (s.size≤64)&&decide ((dV s).length≤8)&&(dV s).all isName
def DB (s:ByteArray):Option T:=some (Sh.enc q_b (wV s))
theorem o2 {n:Nat} {f:Nat→Bool}:(List.range n).all f=true↔∀ i,i<n→f i=true:=by simp
theorem ANH {s:ByteArray} (h0:s.size≠0) (h1:s.size≤16) (h2:∀ i b,s.data[i]? = some b→nameAt i b=true):isName s=true:=by
 unfold isName
 simp only[h0,h1,decide_true,Bool.true_and,Bool.and_eq_true,o2,ne_eq,not_false_eq_true,true_and]
 intro i hi
 split
 ·rename_i b hb;exact h2 i b hb
 ·rfl
theorem A6 {s:ByteArray} (h:s.size=0∨16<s.size∨∃ i b,s.data[i]? = some b∧nameAt i b=false):isName s=false:=by
 rw[Bool.eq_false_iff]
 intro hn
 unfold isName at hn
 simp only[Bool.and_eq_true,o2,decide_eq_true_eq] at hn
 rcases h with h|h|⟨i,b,hb,hf⟩
 ·exact hn.1.1 h
 ·have:=hn.1.2;omega
 ·have hi:i<s.size:=(Array.getElem?_eq_some_iff.1 hb).1
  have:=hn.2 i hi
  rw[hb] at this
  simp only[hf] at this
  cases this
theorem ZZ (b:UInt8):nameAt 0 b=qV b.toNat:=by simp[nameAt]
theorem AHU {s:ByteArray}:s = { data:=#[] }↔s.size=0:=⟨fun e=>by subst e;rfl,fun e=>ByteArray.ext (Array.eq_empty_of_size_eq_zero e)⟩
noncomputable def APP:Env:=Env.of []
def ASS:FuncId→Hint:=fun f=>match f == 78 with|true=>⟨fun r=>match r == 4 with|true=>.inv [.kC 0]|false=>.none,fun i j=>match i == 6&&j == 6 with|true=>some [.val 5 false .bool,.fix 0]|false=>match i == 7&&j == 7 with|true=>some [.val 6 false .bool,.fix 0]|false=>none,fun _=>none⟩|false=>aZ
theorem ABW:aT Tryz.prog APP:=.nil _
def AC(s1:(ByteArray×Nat)×PUnit)(X2:Bool×PUnit×PUnit→Prop):Prop:=aC (decide (97≤(↑(Utf8.decode s1.1.1 s1.1.2).1:Int))) (fZ (bC.kC s1.1.1 (s1.1.2+(Utf8.decode s1.1.1 s1.1.2).2)) (bC.kC s1.1.1 (s1.1.2+(Utf8.decode s1.1.1 s1.1.2).2)) (X2 (decide ((↑(Utf8.decode s1.1.1 s1.1.2).1:Int)≤122),(),()))) (fZ (bC.kC s1.1.1 (s1.1.2+(Utf8.decode s1.1.1 s1.1.2).2)) (bC.kC s1.1.1 (s1.1.2+(Utf8.decode s1.1.1 s1.1.2).2)) (X2 (false,(),())))
def EQ(s1:(ByteArray×Nat)×PUnit)(X2:Bool×PUnit×PUnit→Prop):Prop:=fZ (bC.kC s1.1.1 (s1.1.2+(Utf8.decode s1.1.1 s1.1.2).2)) (bC.kC s1.1.1 (s1.1.2+(Utf8.decode s1.1.1 s1.1.2).2)) (X2 (true,(),()))
def LT(s1:(ByteArray×Nat)×PUnit)(X4:Bool×PUnit×PUnit→Prop):Prop:=aC (decide ((↑(Utf8.decode s1.1.1 s1.1.2).1:Int)=95)) (EQ s1 X4) (fZ (bC.kC s1.1.1 (s1.1.2+(Utf8.decode s1.1.1 s1.1.2).2)) (bC.kC s1.1.1 (s1.1.2+(Utf8.decode s1.1.1 s1.1.2).2)) (X4 (decide ((↑(Utf8.decode s1.1.1 s1.1.2).1:Int)=45),(),())))
def JJ(a0:ByteArray)(R:T→Prop):Prop:=aC (decide (a0 = {data:=#[]})) (R d3) (aC (decide (16<(↑(ByteArray.size a0):Int))) (R d3) (bA ((ByteArray×Nat)×PUnit) (fun X0 s1=>aC (decide (s1.1.2<s1.1.1.size)) (qU (Bool×PUnit×PUnit) (fun (X2:Bool×PUnit×PUnit→Prop)=>aC (decide (65≤(↑(Utf8.decode s1.1.1 s1.1.2).1:Int))) (aC (decide ((↑(Utf8.decode s1.1.1 s1.1.2).1:Int)≤90)) (EQ s1 X2) (AC s1 X2)) (AC s1 X2)) fun (s3:Bool×PUnit×PUnit)=>qU (Bool×PUnit×PUnit) (fun (X4:Bool×PUnit×PUnit→Prop)=>aC (decide (48≤(↑(Utf8.decode s1.1.1 s1.1.2).1:Int))) (aC (decide ((↑(Utf8.decode s1.1.1 s1.1.2).1:Int)≤57)) (EQ s1 X4) (LT s1 X4)) (LT s1 X4)) fun (s5:Bool×PUnit×PUnit)=>aC (!s3.1) (aC (decide ((↑s1.1.2:Int)=0)) (R d3) (aC (!s5.1) (R d3) (X0 ((s1.1.1,s1.1.2+(Utf8.decode s1.1.1 s1.1.2).2),())))) (X0 ((s1.1.1,s1.1.2+(Utf8.decode s1.1.1 s1.1.2).2),()))) (R d6)) ((a0,0),())))
abbrev MY:Sh:=[(false,Sy.str)]
abbrev C0:Sh:=[(false,Sy.bool)]
theorem OR (y:Sh.den C0) (K:Sh.den C0→Prop):aJ C0 (some (Sh.enc C0 y)) K=K y:=xJ rfl y K
noncomputable def iA:List T→Option T:=gS MY sX
theorem wC {a0}:iA [T.v (.string a0)]=sX (a0):=bG (s:=MY) rfl (a0) rfl
theorem AN2:vF Tryz.prog 78 iA sX (cD MY) JJ:=jJ (a1:=(false,Sy.str)) (sp:=sX) (F:=JJ) (Hs:=ASS) (f:=78) (k:=8) ABW aU aY (aN rfl) ⟨_,_,Tryz.func78,rfl⟩ rfl fun _ _=>by kernel_rfl
theorem ZP (c:Int) {K:Bool×PUnit×PUnit→Prop} (hX:K (qV c,(),())):qU (Bool×PUnit×PUnit) (fun X=>aC (decide (65≤c)) (aC (decide (c≤90)) (X (true,(),())) (aC (decide (97≤c)) (X (decide (c≤122),(),())) (X (false,(),())))) (aC (decide (97≤c)) (X (decide (c≤122),(),())) (X (false,(),())))) K:=by
 simp only[ZK,x6]
 unfold qV at hX
 by_cases h1:65≤c<;>by_cases h2:c≤90<;>by_cases h3:97≤c<;>by_cases h4:c≤122<;>simp[h1,h2,h3,h4] at hX ⊢ <;> first|exact hX|omega
theorem S9 (c:Int) {K:Bool×PUnit×PUnit→Prop} (hX:K (AL c||decide (c=95)||decide (c=45),(),())):qU (Bool×PUnit×PUnit) (fun X=>aC (decide (48≤c)) (aC (decide (c≤57)) (X (true,(),())) (aC (decide (c=95)) (X (true,(),())) (X (decide (c=45),(),())))) (aC (decide (c=95)) (X (true,(),())) (X (decide (c=45),(),())))) K:=by
 simp only[ZK,x6]
 unfold AL at hX
 by_cases h1:48≤c<;>by_cases h2:c≤57<;>by_cases h3:c=95<;>simp[h1,h2,h3] at hX ⊢ <;> first|exact hX|omega
theorem xR:aO Tryz.prog 78 iA:=AN2 fun s r h hb=>by
 have h':some (Sh.enc q_b (isName s))=some r:=h
 cases h'
 clear h
 unfold JJ LT EQ AC d6 d3
 by_cases h0:s.size=0
 ·exact eB (AHU.2 h0) (by rw[A6 (.inl h0)];rfl)
 refine fW (fun e=>h0 (AHU.1 e)) ?_
 by_cases h16:16<s.size
 ·exact eB (by omega) (by rw[A6 (.inr (.inl h16))];rfl)
 refine fW (by omega) ?_
 refine bM s.size (fun k t=>t=((s,k),())∧∀ i b,i<k→s.data[i]? = some b→nameAt i b=true) ⟨rfl,by simp⟩ ?_
 rintro X k t hk ⟨rfl,hno⟩ hX
 simp only[cZ]
 by_cases hlt:k<s.size
 ·refine eB hlt ?_
  have hb:s.data[k]? = some (s[k]'hlt):=by
   rw[Array.getElem?_eq_getElem hlt];rfl
  refine ZP (Utf8.decode s k).1 ?_
  refine S9 (Utf8.decode s k).1 ?_
  dsimp only
  have stop:nameAt k (s[k]'hlt)=false→T.v (.bool false)=Sh.enc q_b (isName s):=fun hn=>by rw[A6 (.inr (.inr ⟨k,_,hb,hn⟩))];rfl
  by_cases hasc:(s[k]'hlt).toNat<128
  ·have hd:=decode_ascii s k hlt hasc
   have go:nameAt k (s[k]'hlt)=true→X ((s,k+(Utf8.decode s k).2),()):=fun hn=>by
    rw[hd]
    exact hX _ hlt ⟨rfl,fun i b' hi hb'=>by
     by_cases e:i=k
     ·subst e;rw[hb] at hb';cases hb';exact hn
     ·exact hno i b' (by omega) hb'⟩
   have e1:((Utf8.decode s k).1:Int)=((s[k]'hlt).toNat:Int):=by rw[hd]
   rw[e1]
   cases hl:qV ((s[k]'hlt).toNat:Int) with
   | true=>rw[Bool.not_true,oE];exact go (by simp[nameAt,hl])
   | false =>
    rw[Bool.not_false,kH]
    by_cases hk0:k=0
    ·exact eB (by omega) (stop (by subst hk0;rw[ZZ];exact hl))
    ·refine fW (by omega) ?_
     cases hf:(AL ((s[k]'hlt).toNat:Int)||decide (((s[k]'hlt).toNat:Int)=95)||decide (((s[k]'hlt).toNat:Int)=45)) with
     | true=>rw[Bool.not_true,oE];exact go (by unfold nameAt;rw[hl,hf];simp[hk0])
     | false=>rw[Bool.not_false,kH];exact stop (by unfold nameAt;rw[hl,hf];simp)
  ·obtain ⟨hd1,hd2⟩:=decode_high s k hlt (by omega)
   have hl:qV ((Utf8.decode s k).1:Int)=false:=by
    unfold qV;simp;omega
   have hf:(AL ((Utf8.decode s k).1:Int)||decide (((Utf8.decode s k).1:Int)=95)||decide (((Utf8.decode s k).1:Int)=45))=false:=by
    unfold AL;simp;omega
   have hn:nameAt k (s[k]'hlt)=false:=by
    unfold nameAt qV AL;simp;omega
   rw[hl,hf,Bool.not_false,kH]
   by_cases hk0:k=0
   ·exact eB (by omega) (stop hn)
   ·refine fW (by omega) ?_
    rw[kH]
    exact stop hn
 ·refine fW hlt ?_
  rw[ANH h0 (by omega) (fun i b h=>hno i b (by have:=(Array.getElem?_eq_some_iff.1 h).1;have:i<s.size:=this;omega) h)];rfl
noncomputable def AZ3:Env:=Env.of [(78,.pure iA)]
def A1M:FuncId→Hint:=bX 272 [(3,.inv [.val 3 false (.int .i64),.val 11 false (.int .i64)])] (fun _=>aZ)
theorem AKH:aT Tryz.prog AZ3:=.cons xR (.nil _)
def R4(a0:List ByteArray)(R:T→Prop):Prop:=bA (Int×Int×PUnit) (fun X0 s1=>aC (decide (s1.2.1<(↑(H1 a0).length:Int))) (aR Sy.str (H1 a0) s1.2.1 fun (y2:ByteArray)=>aJ d4 (iA [T.v (.string y2)]) fun (y3:Bool)=>aC (!y3) (R d3) (X0 (IntKind.i64.wrap (s1.1+(↑y2.size:Int)),IntKind.i64.wrap (s1.2.1+1),()))) (aC (decide (1≤(↑(H1 a0).length:Int))) (aC (decide ((↑(H1 a0).length:Int)≤8)) (R (T.v (.bool (decide (s1.1≤64))))) (R d3)) (R d3))) (IntKind.i64.wrap ((↑(H1 a0).length:Int)-1),0,())
abbrev UM:Sh:=[(false,Sy.str.li)]
noncomputable def CE:List T→Option T:=gS UM sY
theorem AEO {a0}:CE [T.sl false (List.map Sy.str.enc a0)]=sY (a0):=bG (s:=UM) rfl (a0) rfl
theorem AXQ:vF Tryz.prog 272 CE sY (cD UM) R4:=jJ (a1:=(false,Sy.str.li)) (sp:=sY) (F:=R4) (Hs:=A1M) (f:=272) (k:=8) AKH aU aY (aN rfl) ⟨_,_,Tryz.func272,rfl⟩ rfl fun _ _=>by kernel_rfl
theorem BH:∀ (l:List ByteArray) (x:ByteArray),oA (l++[x])=oA l+x.size
 | [],x=>by simp[oA]
 | a::l,x=>by simp only[List.cons_append,oA,BH l x];omega
theorem NY:∀ (l:List ByteArray) (k:Nat),oA (l.take k)≤oA l
 | [],k=>by simp
 | a::l,0=>by simp[oA]
 | a::l,k+1=>by simp only[List.take_succ_cons,oA];have:=NY l k;omega
theorem AUQ:aO Tryz.prog 272 CE:=AXQ fun l r h hb=>by
 unfold sY at h
 split at h
 ·rename_i hsz
  simp only[Bool.and_eq_true,decide_eq_true_eq] at hsz
  obtain ⟨hl65,hs64⟩:=hsz
  cases h
  unfold R4 H1 d4 d3
  refine bM l.length (fun k t=>t=((l.length:Int)-1+oA (l.take k),(k:Int),())∧(l.take k).all isName=true) ⟨by
   simp only[List.take_zero,oA,List.length_map,Prod.mk.injEq,and_true]
   rw[bD _ (by omega) (by omega)];simp,by simp⟩ ?_
  rintro X k t hk ⟨rfl,hall⟩ hX
  dsimp only
  by_cases hlt:k<l.length
  ·refine eB (by simp[hlt]) ?_
   rw[bH (r:=.str) hlt]
   refine aG (s:=q_b) (y:=isName l[k]) wC ?_
   have hsum:=NY l (k+1)
   have htake:l.take (k+1)=l.take k++[l[k]]:=List.take_succ_eq_append_getElem hlt
   cases hn:isName l[k] with
   | false =>
    rw[Bool.not_false,kH]
    have:l.all isName=false:=by
     rw[Bool.eq_false_iff];intro ha
     have:=List.all_eq_true.1 ha _ (List.getElem_mem hlt)
     rw[hn] at this;cases this
    rw[this];rfl
   | true =>
    rw[Bool.not_true,oE]
    rw[htake,BH] at hsum
    refine hX _ hlt ⟨?_,by rw[htake,List.all_append,hall];simp[hn]⟩
    rw[htake,BH]
    simp only[Prod.mk.injEq,and_true]
    exact ⟨by rw[bD _ (by omega) (by omega)];simp;omega,bD _ (by omega) (by omega)⟩
  ·have:k=l.length:=by omega
   subst this
   rw[List.take_length] at hall
   refine fW (by simp) ?_
   rw[List.take_length,hall]
   by_cases h1:1≤l.length
   ·refine eB (by simp only[List.length_map];omega) ?_
    by_cases h2:l.length≤8
    ·refine eB (by simp only[List.length_map];omega) ?_
     rw[decide_eq_true h1,decide_eq_true h2];rfl
    ·refine fW (by simp only[List.length_map];omega) ?_
     rw[decide_eq_false h2,Bool.and_false];rfl
   ·refine fW (by simp only[List.length_map];omega) ?_
    rw[decide_eq_false h1];rfl
 ·cases h
noncomputable def A6J:Env:=Env.of [(273,.pure wO),(272,.pure CE)]
def A6W:FuncId→Hint:=fun _=>aZ
theorem AQT:aT Tryz.prog A6J:=.cons AMP (.cons AUQ (.nil _))
def ACU(a0:ByteArray)(R:T→Prop):Prop:=aC (decide ((↑(ByteArray.size a0):Int)≤64)) (aJ d9 (wO [T.v (.string a0),T.v (.string {data:=#[46]})]) fun (y0:List ByteArray)=>aJ d4 (CE [T.sl false (H1 y0)]) fun (y1:Bool)=>R (T.v (.bool y1))) (R d3)
abbrev AF8:Sh:=[(false,Sy.str)]
abbrev UF:Sh:=[(false,Sy.bool)]
theorem AAM (y:Sh.den UF) (K:Sh.den UF→Prop):aJ UF (some (Sh.enc UF y)) K=K y:=xJ rfl y K
noncomputable def eM:List T→Option T:=gS AF8 DB
theorem AM4 {a0}:eM [T.v (.string a0)]=DB (a0):=bG (s:=AF8) rfl (a0) rfl
theorem A4B:vF Tryz.prog 232 eM DB (cD AF8) ACU:=jJ (a1:=(false,Sy.str)) (sp:=DB) (F:=ACU) (Hs:=A6W) (f:=232) (k:=8) AQT aU aY (aN rfl) ⟨_,_,Tryz.func232,rfl⟩ rfl fun _ _=>by kernel_rfl
theorem IM:aO Tryz.prog 232 eM:=A4B fun s r h hb=>by
 have h':some (Sh.enc q_b (wV s))=some r:=h
 cases h'
 clear h
 unfold ACU H1 d9 d4 d3 wV
 by_cases h64:s.size≤64
 ·refine eB (by omega) ?_
  have hsum:=AOT s
  have hpos:=AOS s
  refine aG (s:=BAS) (y:=dV s) ?_ ?_
  ·rw[show wO [T.v (.string s),T.v (.string { data:=#[46] })]=xD (s,dot) from ZE]
   unfold xD
   rw[show decide (s.size<4294967281)=true by simp;omega,show decide (1≤dot.size)=true from rfl]
   rfl
  ·refine aG (s:=q_b) (y:=(dV s).all isName&&(decide (1≤(dV s).length)&&decide ((dV s).length≤8)&&decide (A4U (dV s)≤64))) ?_ ?_
   ·rw[AEO]
    unfold sY
    rw[show (decide ((dV s).length≤65)&&decide (oA (dV s)≤64))=true by simp;omega]
   ·have h1:decide (1≤(dV s).length)=true:=decide_eq_true hpos
    have h2:decide (A4U (dV s)≤64)=true:=decide_eq_true (by unfold A4U;omega)
    have h3:decide (s.size≤64)=true:=decide_eq_true h64
    rw[h1,h2,h3]
    simp[Bool.and_comm,Sh.enc,aI,Sy.enc,hdT]
 ·refine fW (by omega) ?_
  rw[decide_eq_false h64];rfl
end Go.Pv
namespace Go.Pv
open Go Go.Proofs
def Seen (es:List (ByteArray×Bool)) (S:ByteArray→Prop):Prop:=(∀ id b,jI es id=some b→b=true)∧∀ id,jI es id=some true↔S id
theorem Seen.nil:Seen [] fun _=>False:=⟨fun id b h=>(by cases h),fun id=>⟨fun h=>(by cases h),fun h=>h.elim⟩⟩
theorem Seen.ins {es:List (ByteArray×Bool)} {S:ByteArray→Prop} (h:Seen es S) (k:ByteArray):Seen (vB es k true) fun id=>S id∨k=id:=by
 refine ⟨fun id b hb=>?_,fun id=>?_⟩
 ·rw[wP] at hb
  split at hb
  ·cases hb;rfl
  ·exact h.1 id b hb
 ·rw[wP]
  split
  ·rename_i e;exact ⟨fun _=>.inr e,fun _=>rfl⟩
  ·rename_i e;rw[h.2];exact ⟨.inl,fun h=>h.resolve_right e⟩
theorem Seen.congr {es:List (ByteArray×Bool)} {S S':ByteArray→Prop} (h:Seen es S) (e:∀ id,S id↔S' id):Seen es S':=⟨h.1,fun id=>(h.2 id).trans (e id)⟩
abbrev RS:=List (Value×T)×Nat×List Nat×Nat
theorem AUE {m:List (ByteArray×Int)} {seen:List Nat} {i:Nat} (hi:i<m.length) (K:ByteArray→Int→Prop) (hk:K m[i].1 m[i].2):HI .str false (.int .i64) (qB (bL m)) (seen++[i]) K :=
 ⟨i,m[i].1,m[i].2,by simp,by simp only[qB,bL,List.map_map,List.getElem?_map,List.getElem?_eq_getElem hi];rfl,hk⟩
theorem A2G {m:List (ByteArray×Int)} {es:List (ByteArray×Bool)} {S:ByteArray→Prop} {R7 K:Prop} (hS:Seen es S) (hbad:(∃ i,∃ h:i<m.length,S m[i].1)→R7) (hgood:(∀ i (h:i<m.length),¬ S m[i].1)→K) :
  bA (RS×PUnit) (fun (X:RS×PUnit→Prop) (s:RS×PUnit)=>bN (decide (s.1.1.length≤s.1.2.1)&&decide (s.1.2.1≤s.1.2.2.2)) (vS s.1.1.length s.1.2.2.1 K fun (i:Nat) =>
   bN (decide (s.1.1.length=s.1.1.length)) (HI Sy.str false (Sy.int IntKind.i64) (qB s.1.1) (s.1.2.2.1++[i]) fun (k:ByteArray) (y:Int) =>
    gX TypeDesc.string (Value.string k) (List.map (cQ Sy.str false Sy.bool) es) false Sy.bool (X ((s.1.1,s.1.2.1,s.1.2.2.1++[i],s.1.1.length),())) fun (j:Nat) (b:Bool) =>
     aC b R7 (X ((s.1.1,s.1.2.1,s.1.2.2.1++[i],s.1.1.length),()))))) ((bL m,(bL m).length,[],(bL m).length),()):=by
 have hml:(bL m).length=m.length:=by simp[bL]
 refine bM m.length (fun k t=>∃ seen,t=((bL m,(bL m).length,seen,(bL m).length),())∧(cS m.length seen).length+k≤m.length∧∀ i (h:i<m.length),i∈seen→¬ S m[i].1) ⟨[],rfl,by rw[G1];omega,by simp⟩ ?_
 rintro X k t hk ⟨seen,rfl,hlen,hJ⟩ hX
 dsimp only
 refine ⟨by simp,?_,?_⟩
 ·intro hm
  rw[hml] at hm
  refine hgood fun i hi=>hJ i hi ?_
  refine Classical.byContradiction fun hc=>?_
  have:i∈cS m.length seen:=qW.2 ⟨hi,hc⟩
  rw[hm] at this;cases this
 ·intro i hi
  rw[hml] at hi
  have hi1:=(qW.1 hi).1
  have hst:=CR hi
  refine ⟨by simp,AUE hi1 _ ?_⟩
  have go:¬ S m[i].1→X ((bL m,(bL m).length,seen++[i],(bL m).length),()):=fun hn=>hX _ (by omega) ⟨_,rfl,by omega,fun j hj hm=>by
   rcases List.mem_append.1 hm with h|h
   ·exact hJ j hj h
   ·simp at h;subst h;exact hn⟩
  refine B2 (r:=.bool) (fun hno=>go fun h=>?_) fun j b hb=>?_
  ·have:=(hS.2 m[i].1).2 h
   rw[hno] at this;cases this
  ·have:=hS.1 _ _ hb
   subst this
   rw[kH]
   exact hbad ⟨i,hi1,(hS.2 _).1 hb⟩
theorem A14 {m:List (ByteArray×Int)} {es:List (ByteArray×Bool)} {S:ByteArray→Prop} {K:List (ByteArray×Bool)×RS×PUnit→Prop} (hS:Seen es S) (hgood:∀ es' rs,Seen es' (fun id=>S id∨∃ i,∃ h:i<m.length,m[i].1=id)→K (es',rs,())) :
  dS Sy.str false Sy.bool (List.map (cQ Sy.str false Sy.bool) es) fun (y:List (ByteArray×Bool)) =>
  bA (List (ByteArray×Bool)×RS×PUnit) (fun (X:List (ByteArray×Bool)×RS×PUnit→Prop) (s:List (ByteArray×Bool)×RS×PUnit)=>bN (decide (s.2.1.1.length≤s.2.1.2.1)&&decide (s.2.1.2.1≤s.2.1.2.2.2)) (vS s.2.1.1.length s.2.1.2.2.1 (K s) fun (i:Nat) =>
   bN (decide (s.2.1.1.length=s.2.1.1.length)) (HI Sy.str false (Sy.int IntKind.i64) (qB s.2.1.1) (s.2.1.2.2.1++[i]) fun (k:ByteArray) (y:Int) =>
    fH (Option (Nat×D)) (findD TypeDesc.string (L7 Sy.str k) (List.map (cQ Sy.str false Sy.bool) s.1) 0) fun (y37:Option (Nat×D)) =>
     dS Sy.str false Sy.bool (e8 (List.map (cQ Sy.str false Sy.bool) s.1) y37 (Value.string k) (D.p (T.v (.bool true)))) fun (y38:List (ByteArray×Bool)) =>
      X (y38,(s.2.1.1,s.2.1.2.1,s.2.1.2.2.1++[i],s.2.1.1.length),())))) (y,(bL m,(bL m).length,[],(bL m).length),()):=by
 have hml:(bL m).length=m.length:=by simp[bL]
 refine nJ (r:=.bool) rfl es _ ?_
 refine bM m.length (fun k t=>∃ seen es',t=(es',(bL m,(bL m).length,seen,(bL m).length),())∧(cS m.length seen).length+k≤m.length∧Seen es' (fun id=>S id∨∃ i,∃ h:i<m.length,i∈seen∧m[i].1=id)) ⟨[],es,rfl,by rw[G1];omega,hS.congr (by simp)⟩ ?_
 rintro X k t hk ⟨seen,es',rfl,hlen,hJ⟩ hX
 dsimp only
 refine ⟨by simp,?_,?_⟩
 ·intro hm
  rw[hml] at hm
  refine hgood _ _ (hJ.congr fun id=>⟨fun h=>h.imp_right fun ⟨i,hi,_,e⟩=>⟨i,hi,e⟩,fun h=>h.imp_right fun ⟨i,hi,e⟩=>⟨i,hi,?_,e⟩⟩)
  refine Classical.byContradiction fun hc=>?_
  have:i∈cS m.length seen:=qW.2 ⟨hi,hc⟩
  rw[hm] at this;cases this
 ·intro i hi
  rw[hml] at hi
  have hi1:=(qW.1 hi).1
  have hst:=CR hi
  refine ⟨by simp,AUE hi1 _ ?_⟩
  refine AWP (r:=.bool) rfl (es:=es') (k:=m[i].1) (v:=true) (hX _ (by omega) ⟨seen++[i],_,rfl,by omega,(hJ.ins _).congr fun id=>⟨?_,?_⟩⟩)
  ·rintro ((h|⟨j,hj,hm,e⟩)|h)
   ·exact .inl h
   ·exact .inr ⟨j,hj,by simp[hm],e⟩
   ·exact .inr ⟨i,hi1,by simp,h⟩
  ·rintro (h|⟨j,hj,hm,e⟩)
   ·exact .inl (.inl h)
   ·rcases List.mem_append.1 hm with hm|hm
    ·exact .inl (.inr ⟨j,hj,hm,e⟩)
    ·simp at hm;subst hm;exact .inr e
def ltN (a b:a8):Bool:=decide (a.1<b.1)||(decide (a.1=b.1)&&(cK a.2.1 b.2.1||(decide (a.2.1=b.2.1)&&cK a.2.2 b.2.2)))
def SR:List a8→Bool
 | a::b::l=>ltN a b&&SR (b::l)
 | _=>true
theorem ALF {l:List a8} {k:Nat} (h:k+1<l.length):SR (l.drop k)=(ltN l[k] l[k+1]&&SR (l.drop (k+1))):=by
 rw[List.drop_eq_getElem_cons (show k<l.length by omega),List.drop_eq_getElem_cons h,SR]
theorem ATJ {l:List a8} {k:Nat} (h:l.length≤k+1):SR (l.drop k)=true:=by
 rcases Nat.lt_or_ge k l.length with h1|h1
 ·rw[List.drop_eq_getElem_cons h1,List.drop_eq_nil_of_le h];rfl
 ·rw[List.drop_eq_nil_of_le h1];rfl
theorem QD (k:ByteArray) (v:Int) (id:ByteArray):∀ es:List (ByteArray×Int),id∈(vB es k v).map (fun e=>e.1)↔id∈es.map (fun e=>e.1)∨id=k
 | []=>by simp[vB]
 | e::es=>by
  simp only[vB]
  split
  ·rename_i h
   simp only[List.map_cons,List.mem_cons]
   rw[←h]
   constructor
   ·rintro (h|h)
    ·exact .inl (.inl h)
    ·exact .inl (.inr h)
   ·rintro ((h|h)|h)
    ·exact .inl h
    ·exact .inr h
    ·exact .inl h
  ·simp only[List.map_cons,List.mem_cons,QD k v id es,or_assoc]
theorem QG (id:ByteArray):∀ (l:List ByteArray) (i:Nat) (es:List (ByteArray×Int)),id∈(EY l i es).map (fun e=>e.1)↔id∈es.map (fun e=>e.1)∨id∈l
 | [],i,es=>by simp[EY]
 | a::l,i,es=>by
  simp only[EY]
  rw[QG id l]
  cases h:jI es a with
  | none=>simp only[QD,List.mem_cons,or_assoc]
  | some v =>
   simp only[List.mem_cons]
   have ha:a∈es.map (fun e=>e.1):=by
    rcases tZ a es with ⟨h1,_⟩|⟨j,hj,h1,_⟩
    ·rw[h] at h1;cases h1
    ·exact List.mem_map.2 ⟨es[j],List.getElem_mem hj,h1⟩
   constructor
   ·rintro (h|h)
    ·exact .inl h
    ·exact .inr (.inr h)
   ·rintro (h|rfl|h)
    ·exact .inl h
    ·exact .inl ha
    ·exact .inr h
theorem kP {l:List ByteArray} {id:ByteArray}:(∃ i,∃ h:i<(iJ l).length,(iJ l)[i].1=id)↔id∈l:=by
 have h:=QG id l 0 []
 simp only[List.map_nil,List.not_mem_nil,false_or] at h
 rw[←h,List.mem_map]
 constructor
 ·rintro ⟨i,hi,e⟩;exact ⟨_,List.getElem_mem hi,e⟩
 ·rintro ⟨e,he,h⟩
  obtain ⟨i,hi,rfl⟩:=List.mem_iff_getElem.1 he
  exact ⟨i,hi,h⟩
def zX (a0:aB) (m1:List aD) (m2:List aD) (m3:List aD) (m4:List aD):List T:=[N0 a0 m1 m2 m3 m4]
noncomputable def ABK:Env:=Env.of [(227,.pure vA)]
def ASR:FuncId→Hint:=fun f=>match f == 80 with|true=>⟨fun r=>match r == 9 with|true=>.inv [.val 4 false .bool,.val 5 false (.int .i64)]|false=>match r == 17 with|true=>.N2 5|false=>match r == 20 with|true=>.alts [[.bZ 30],[.bZ 29],[.bZ 28],[.bZ 27],[.bZ 26],[.bZ 25],[.bZ 24],[.bZ 23],[.bZ 22],[.bZ 21],[.bZ 20],[.bZ 19],[.bZ 18],[.bZ 17],[.bZ 16],[.bZ 15],[.bZ 14],[.bZ 13],[.bZ 12],[.bZ 11],[.bZ 10],[.bZ 9],[.bZ 8],[.bZ 7],[.bZ 6],[.bZ 5],[.bZ 4],[.bZ 3],[.bZ 2]]|false=>match r == 25 with|true=>.alts [[.map 2 .str false .bool,.bZ 30],[.map 2 .str false .bool,.bZ 29],[.map 2 .str false .bool,.bZ 28],[.map 2 .str false .bool,.bZ 27],[.map 2 .str false .bool,.bZ 26],[.map 2 .str false .bool,.bZ 25],[.map 2 .str false .bool,.bZ 24],[.map 2 .str false .bool,.bZ 23],[.map 2 .str false .bool,.bZ 22],[.map 2 .str false .bool,.bZ 21],[.map 2 .str false .bool,.bZ 20],[.map 2 .str false .bool,.bZ 19],[.map 2 .str false .bool,.bZ 18],[.map 2 .str false .bool,.bZ 17],[.map 2 .str false .bool,.bZ 16],[.map 2 .str false .bool,.bZ 15],[.map 2 .str false .bool,.bZ 14],[.map 2 .str false .bool,.bZ 13],[.map 2 .str false .bool,.bZ 12],[.map 2 .str false .bool,.bZ 11],[.map 2 .str false .bool,.bZ 10],[.map 2 .str false .bool,.bZ 9],[.map 2 .str false .bool,.bZ 8],[.map 2 .str false .bool,.bZ 7],[.map 2 .str false .bool,.bZ 6],[.map 2 .str false .bool,.bZ 5],[.map 2 .str false .bool,.bZ 4],[.map 2 .str false .bool,.bZ 3],[.map 2 .str false .bool,.bZ 2]]|false=>.none,fun i j=>match i == 5&&j == 5 with|true=>some [.val 4 false .bool]|false=>match i == 6&&j == 6 with|true=>some [.val 4 false .bool]|false=>match i == 7&&j == 7 with|true=>some [.val 4 false .bool]|false=>none,fun r=>match r == 21 with|true=>some (.str,false,(.int .i64))|false=>match r == 26 with|true=>some (.str,false,(.int .i64))|false=>none⟩|false=>aZ
theorem AQS:aT Tryz.prog ABK:=.cons A5W (.nil _)
def f5(a0:aB):List T:=[T.v (.string a0.1), T.sl false (t6 a0), T.sl false (GT a0), T.sl false (m9 a0), T.sl false (i8 a0), T.sl false (FS a0)]
def g9(a0:aB):List T:=[T.v (.string a0.1),T.sl false (t6 a0), T.sl false (GT a0), T.sl false (m9 a0), T.sl false (i8 a0), T.sl false (FS a0)]
def ACS(a0:aB)(m1:List aD)(m2:List aD)(m3:List aD)(m4:List aD)(R:T→Prop):Prop:=aC (decide (64<(↑(t6 a0).length:Int))) (R (T.v (.int .i64 4))) (aC (decide (256<(↑(GT a0).length:Int))) (R (T.v (.int .i64 4))) (aC (decide (256<(↑(m9 a0).length:Int))) (R (T.v (.int .i64 4))) (aC (decide (64<(↑(i8 a0).length:Int))) (R (T.v (.int .i64 4))) (aC (decide (256<(↑(FS a0).length:Int))) (R (T.v (.int .i64 4))) (aJ d4 (vA [T.v (.int .i64 (↑(t6 a0).length:Int)), T.fn 228 [] [T.ref [T.ref (g9 a0)]]]) fun (y0:Bool)=>qU (Bool×PUnit) (fun (X1:Bool×PUnit→Prop)=>aC y0 (aJ d4 (vA [T.v (.int .i64 (↑(GT a0).length:Int)), T.fn 229 [] [T.ref [T.ref (f5 a0)]]]) fun (y2:Bool)=>X1 (y2,())) (X1 (false,()))) fun (s3:Bool×PUnit)=>qU (Bool×PUnit) (fun (X4:Bool×PUnit→Prop)=>aC s3.1 (aJ d4 (vA [T.v (.int .i64 (↑(m9 a0).length:Int)), T.fn 230 [] [T.ref [T.ref (f5 a0)]]]) fun (y5:Bool)=>X4 (y5,())) (X4 (false,()))) fun (s6:Bool×PUnit)=>qU (Bool×PUnit) (fun (X7:Bool×PUnit→Prop)=>aC s6.1 (aJ d4 (vA [T.v (.int .i64 (↑(i8 a0).length:Int)), T.fn 231 [] [T.ref [T.ref (f5 a0)]]]) fun (y8:Bool)=>X7 (y8,())) (X7 (false,()))) fun (s9:Bool×PUnit)=>bA (Bool×Int×PUnit) (fun X10 s11=>aC (decide (s11.2.1<(↑(FS a0).length:Int))) (aR aS (FS a0) (IntKind.i64.wrap (s11.2.1-1)) fun (y12:a8)=>aR aS (FS a0) s11.2.1 fun (y13:a8)=>aC s11.1 (aC (decide (y12.1<y13.1)) (X10 (true,IntKind.i64.wrap (s11.2.1+1),())) (aC (decide (y12.1=y13.1)) (aC (cK y12.2.1 y13.2.1) (X10 (true,IntKind.i64.wrap (s11.2.1+1),())) (aC (decide (y12.2.1=y13.2.1)) (X10 (cK y12.2.2 y13.2.2,IntKind.i64.wrap (s11.2.1+1), ())) (X10 (false,IntKind.i64.wrap (s11.2.1+1),())))) (X10 (false,IntKind.i64.wrap (s11.2.1+1),())))) (X10 (false,IntKind.i64.wrap (s11.2.1+1),()))) (aC (!s11.1) (R (T.v (.int .i64 11))) (bA ((List (Value×T)×Nat×List Nat×Nat)×PUnit) (fun (X14:(List (Value×T)×Nat×List Nat×Nat)×PUnit→Prop) (s15:(List (Value×T)×Nat×List Nat×Nat)×PUnit)=>bN (decide (s15.1.1.length≤s15.1.2.1) && decide (s15.1.2.1≤s15.1.2.2.2)) (vS s15.1.1.length s15.1.2.2.1 (dS Sy.str false Sy.bool [] fun (y16:List (ByteArray×Bool))=>bA (List (ByteArray×Bool) × (List (Value×T)×Nat×List Nat×Nat)×PUnit) (fun (X17 : List (ByteArray×Bool) × (List (Value×T)×Nat×List Nat×Nat)×PUnit → Prop) (s18 : List (ByteArray×Bool) × (List (Value×T)×Nat×List Nat×Nat)×PUnit)=>bN (decide (s18.2.1.1.length≤s18.2.1.2.1) && decide (s18.2.1.2.1≤s18.2.1.2.2.2)) (vS s18.2.1.1.length s18.2.1.2.2.1 (bA ((List (Value×T)×Nat×List Nat×Nat)×PUnit) (fun (X19 : (List (Value×T)×Nat×List Nat×Nat)×PUnit→Prop) (s20:(List (Value×T)×Nat×List Nat×Nat)×PUnit)=>bN (decide (s20.1.1.length≤s20.1.2.1) && decide (s20.1.2.1≤s20.1.2.2.2)) (vS s20.1.1.length s20.1.2.2.1 (dS Sy.str false Sy.bool (List.map (cQ Sy.str false Sy.bool) s18.1) fun (y21:List (ByteArray×Bool))=>bA (List (ByteArray×Bool) × (List (Value×T)×Nat×List Nat×Nat)×PUnit) (fun (X22 : List (ByteArray×Bool) × (List (Value×T)×Nat×List Nat×Nat) × PUnit → Prop) (s23 : List (ByteArray×Bool) × (List (Value×T)×Nat×List Nat×Nat) × PUnit)=>bN (decide (s23.2.1.1.length≤s23.2.1.2.1) && decide (s23.2.1.2.1≤s23.2.1.2.2.2)) (vS s23.2.1.1.length s23.2.1.2.2.1 (bA ((List (Value×T)×Nat×List Nat×Nat) × PUnit) (fun (X24 : (List (Value×T) × Nat×List Nat×Nat) × PUnit → Prop) (s25 : (List (Value×T) × Nat×List Nat×Nat) × PUnit)=>bN (decide (s25.1.1.length≤s25.1.2.1) && decide (s25.1.2.1≤s25.1.2.2.2)) (vS s25.1.1.length s25.1.2.2.1 (dS Sy.str false Sy.bool (List.map (cQ Sy.str false Sy.bool) s23.1) fun (y26:List (ByteArray×Bool))=>bA (List (ByteArray×Bool) × (List (Value×T) × Nat×List Nat×Nat) × PUnit) (fun (X27 : List (ByteArray×Bool) × (List (Value×T) × Nat×List Nat×Nat) × PUnit → Prop) (s28 : List (ByteArray×Bool) × (List (Value×T) × Nat×List Nat×Nat) × PUnit)=>bN (decide (s28.2.1.1.length ≤ s28.2.1.2.1) && decide (s28.2.1.2.1 ≤ s28.2.1.2.2.2)) (vS s28.2.1.1.length s28.2.1.2.2.1 (bA ((List (Value×T) × Nat×List Nat×Nat) × PUnit) (fun (X29 : (List (Value×T) × Nat×List Nat×Nat) × PUnit → Prop) (s30 : (List (Value×T) × Nat×List Nat×Nat) × PUnit)=>bN (decide (s30.1.1.length ≤ s30.1.2.1) && decide (s30.1.2.1 ≤ s30.1.2.2.2)) (vS s30.1.1.length s30.1.2.2.1 (dS Sy.str false Sy.bool (List.map (cQ Sy.str false Sy.bool) s28.1) fun (y31 : List (ByteArray×Bool))=>bA (List (ByteArray×Bool) × (List (Value × T) × Nat × List Nat×Nat) × PUnit) (fun (X32 : List (ByteArray × Bool) × (List (Value × T) × Nat × List Nat × Nat) × PUnit → Prop) (s33 : List (ByteArray × Bool) × (List (Value × T) × Nat × List Nat × Nat) × PUnit)=>bN (decide (s33.2.1.1.length ≤ s33.2.1.2.1) && decide (s33.2.1.2.1 ≤ s33.2.1.2.2.2)) (vS s33.2.1.1.length s33.2.1.2.2.1 (R (T.v (.int .i64 0))) fun (i34:Nat)=>bN (decide (s33.2.1.1.length = s33.2.1.1.length)) (HI Sy.str false bF (qB s33.2.1.1) (s33.2.1.2.2.1 ++ [i34]) fun (k35 : ByteArray) (y36:Int)=>fH (Option (Nat × D)) (findD TypeDesc.string (L7 Sy.str k35) (List.map (cQ Sy.str false Sy.bool) s33.1) 0) fun (y37 : Option (Nat × D))=>dS Sy.str false Sy.bool (e8 (List.map (cQ Sy.str false Sy.bool) s33.1) y37 (Value.string k35) (D.p d6)) fun (y38 : List (ByteArray × Bool))=>X32 (y38, (s33.2.1.1, s33.2.1.2.1, s33.2.1.2.2.1 ++ [i34], s33.2.1.1.length), ())))) (y31, (bL m4, (bL m4).length, [], (bL m4).length), ())) fun (i39:Nat)=>bN (decide (s30.1.1.length = s30.1.1.length)) (HI Sy.str false bF (qB s30.1.1) (s30.1.2.2.1 ++ [i39]) fun (k40:ByteArray) (y41:Int)=>gX TypeDesc.string (Value.string k40) (List.map (cQ Sy.str false Sy.bool) s28.1) false Sy.bool (X29 ((s30.1.1, s30.1.2.1, s30.1.2.2.1 ++ [i39], s30.1.1.length), ())) fun (i42:Nat) (y43:Bool)=>aC y43 (R (T.v (.int .i64 7))) (X29 ((s30.1.1, s30.1.2.1, s30.1.2.2.1 ++ [i39], s30.1.1.length), ()))))) ((bL m4, (bL m4).length,[], (bL m4).length), ())) fun (i44:Nat)=>bN (decide (s28.2.1.1.length = s28.2.1.1.length)) (HI Sy.str false bF (qB s28.2.1.1) (s28.2.1.2.2.1++[i44]) fun (k45:ByteArray) (y46:Int)=>fH (Option (Nat×D)) (findD TypeDesc.string (L7 Sy.str k45) (List.map (cQ Sy.str false Sy.bool) s28.1) 0) fun (y47 : Option (Nat×D))=>dS Sy.str false Sy.bool (e8 (List.map (cQ Sy.str false Sy.bool) s28.1) y47 (Value.string k45) (D.p d6)) fun (y48 : List (ByteArray×Bool))=>X27 (y48, (s28.2.1.1, s28.2.1.2.1, s28.2.1.2.2.1 ++ [i44], s28.2.1.1.length), ())))) (y26, (bL m3,(bL m3).length,[], (bL m3).length), ())) fun (i49:Nat)=>bN (decide (s25.1.1.length=s25.1.1.length)) (HI Sy.str false bF (qB s25.1.1) (s25.1.2.2.1++[i49]) fun (k50:ByteArray) (y51:Int)=>gX TypeDesc.string (Value.string k50) (List.map (cQ Sy.str false Sy.bool) s23.1) false Sy.bool (X24 ((s25.1.1,s25.1.2.1, s25.1.2.2.1++[i49], s25.1.1.length), ())) fun (i52:Nat) (y53:Bool)=>aC y53 (R (T.v (.int .i64 7))) (X24 ((s25.1.1,s25.1.2.1, s25.1.2.2.1++[i49], s25.1.1.length), ()))))) ((bL m3,(bL m3).length,[], (bL m3).length), ())) fun (i54:Nat)=>bN (decide (s23.2.1.1.length=s23.2.1.1.length)) (HI Sy.str false bF (qB s23.2.1.1) (s23.2.1.2.2.1++[i54]) fun (k55:ByteArray) (y56:Int)=>fH (Option (Nat×D)) (findD TypeDesc.string (L7 Sy.str k55) (List.map (cQ Sy.str false Sy.bool) s23.1) 0) fun (y57:Option (Nat×D))=>dS Sy.str false Sy.bool (e8 (List.map (cQ Sy.str false Sy.bool) s23.1) y57 (Value.string k55) (D.p d6)) fun (y58:List (ByteArray×Bool))=>X22 (y58, (s23.2.1.1,s23.2.1.2.1, s23.2.1.2.2.1++[i54], s23.2.1.1.length), ())))) (y21, (bL m2,(bL m2).length,[], (bL m2).length), ())) fun (i59:Nat)=>bN (decide (s20.1.1.length=s20.1.1.length)) (HI Sy.str false bF (qB s20.1.1) (s20.1.2.2.1++[i59]) fun (k60:ByteArray) (y61:Int)=>gX TypeDesc.string (Value.string k60) (List.map (cQ Sy.str false Sy.bool) s18.1) false Sy.bool (X19 ((s20.1.1,s20.1.2.1, s20.1.2.2.1++[i59],s20.1.1.length), ())) fun (i62:Nat) (y63:Bool)=>aC y63 (R (T.v (.int .i64 7))) (X19 ((s20.1.1,s20.1.2.1, s20.1.2.2.1++[i59],s20.1.1.length), ()))))) ((bL m2,(bL m2).length,[],(bL m2).length),())) fun (i64:Nat)=>bN (decide (s18.2.1.1.length=s18.2.1.1.length)) (HI Sy.str false bF (qB s18.2.1.1) (s18.2.1.2.2.1++[i64]) fun (k65:ByteArray) (y66:Int)=>fH (Option (Nat×D)) (findD TypeDesc.string (L7 Sy.str k65) (List.map (cQ Sy.str false Sy.bool) s18.1) 0) fun (y67:Option (Nat×D))=>dS Sy.str false Sy.bool (e8 (List.map (cQ Sy.str false Sy.bool) s18.1) y67 (Value.string k65) (D.p d6)) fun (y68:List (ByteArray×Bool))=>X17 (y68, (s18.2.1.1,s18.2.1.2.1, s18.2.1.2.2.1++[i64],s18.2.1.1.length), ())))) (y16,(bL m1,(bL m1).length,[],(bL m1).length),())) fun (i69:Nat)=>bN (decide (s15.1.1.length=s15.1.1.length)) (HI Sy.str false bF (qB s15.1.1) (s15.1.2.2.1++[i69]) fun (k70:ByteArray) (y71:Int)=>gX TypeDesc.string (Value.string k70) [] false Sy.bool (X14 ((s15.1.1,s15.1.2.1,s15.1.2.2.1++[i69], s15.1.1.length), ())) fun (i72:Nat) (y73:Bool)=>aC y73 (R (T.v (.int .i64 7))) (X14 ((s15.1.1,s15.1.2.1,s15.1.2.2.1++[i69], s15.1.1.length), ()))))) ((bL m1,(bL m1).length,[],(bL m1).length),())))) (s9.1,1,()))))))
theorem AKX ( a0 m1 m2 m3 m4 R):dW bW Tryz.prog ABK ASR 8 80 (zX a0 m1 m2 m3 m4) R=ACS a0 m1 m2 m3 m4 R:=by kernel_rfl
abbrev MP:=List (ByteArray×Int)
theorem BY {a b:MP} (h:bL a=bL b):a=b:=map_inj (fun x y h=>by
 simp only[Prod.mk.injEq,Value.string.injEq,T.v.injEq,Value.int.injEq,true_and] at h
 exact Prod.ext h.1 h.2) h
theorem p8 {x y:aB×MP×MP×MP×MP} (h:N0 x.1 x.2.1 x.2.2.1 x.2.2.2.1 x.2.2.2.2=N0 y.1 y.2.1 y.2.2.1 y.2.2.2.1 y.2.2.2.2):x=y:=by
 simp only[N0,T.ref.injEq,List.cons.injEq,T.mp.injEq,and_true] at h
 obtain ⟨h0,h1,h2,h3,h4⟩:=h
 exact Prod.ext (Sy.dH aE _ _ h0) (Prod.ext (BY h1) (Prod.ext (BY h2) (Prod.ext (BY h3) (BY h4))))
theorem ABC (x y:aB×MP×MP×MP×MP) (h:zX x.1 x.2.1 x.2.2.1 x.2.2.2.1 x.2.2.2.2=zX y.1 y.2.1 y.2.2.1 y.2.2.2.1 y.2.2.2.2):x=y:=p8 (List.cons.inj h).1
def mJ (d:aB):Bool:=decide (64<d.2.1.length)||decide (256<d.2.2.1.length)||decide (256<d.2.2.2.1.length)||decide (64<d.2.2.2.2.1.length)||decide (256<d.2.2.2.2.2.length)
def oV (d:aB):Bool:=rR (ids d.2.1)&&rR (ids d.2.2.1)&&rR (ids d.2.2.2.1)&&rR (ids d.2.2.2.2.1)&&SR d.2.2.2.2.2
def A7L (l1 l2 l3 l4:List ByteArray):Bool:=(l2.any (T0 l1))||(l3.any fun x=>T0 l1 x||T0 l2 x)||(l4.any fun x=>T0 l1 x||T0 l2 x||T0 l3 x)
def ALV (d:aB):Bool:=A7L (ids d.2.1) (ids d.2.2.1) (ids d.2.2.2.1) (ids d.2.2.2.2.1)
def nM (d:aB):Int:=if mJ d=true then 4 else if oV d=false then 11 else if ALV d=true then 7 else 0
def BAQ (x:aB×MP×MP×MP×MP):Bool:=decide (x.2.1=iJ (ids x.1.2.1))&&decide (x.2.2.1=iJ (ids x.1.2.2.1))&&decide (x.2.2.2.1=iJ (ids x.1.2.2.2.1))&&decide (x.2.2.2.2=iJ (ids x.1.2.2.2.2.1)) &&
 (decide (x.1.2.1.length≤140737488355328)&&decide (x.1.2.2.1.length≤140737488355328)&&decide (x.1.2.2.2.1.length≤140737488355328)&&decide (x.1.2.2.2.2.1.length≤140737488355328)&&decide (x.1.2.2.2.2.2.length≤140737488355328))
structure mR (d:aB):Prop where
 n:d.2.1.length≤140737488355328
 p:d.2.2.1.length≤140737488355328
 s:d.2.2.2.1.length≤140737488355328
 k:d.2.2.2.2.1.length≤140737488355328
 r:d.2.2.2.2.2.length≤140737488355328
theorem MM {x:aB×MP×MP×MP×MP}:BAQ x=true↔x=(x.1,iJ (ids x.1.2.1),iJ (ids x.1.2.2.1),iJ (ids x.1.2.2.2.1),iJ (ids x.1.2.2.2.2.1))∧mR x.1:=by
 obtain ⟨d,a,b,c,e⟩:=x
 simp only[BAQ,Bool.and_eq_true,decide_eq_true_eq,Prod.mk.injEq,true_and]
 constructor
 ·rintro ⟨⟨⟨⟨rfl,rfl⟩,rfl⟩,rfl⟩,⟨⟨⟨h1,h2⟩,h3⟩,h4⟩,h5⟩
  exact ⟨⟨rfl,rfl,rfl,rfl⟩,h1,h2,h3,h4,h5⟩
 ·rintro ⟨⟨rfl,rfl,rfl,rfl⟩,h1,h2,h3,h4,h5⟩
  exact ⟨⟨⟨⟨rfl,rfl⟩,rfl⟩,rfl⟩,⟨⟨⟨h1,h2⟩,h3⟩,h4⟩,h5⟩
def u5 (x:aB×MP×MP×MP×MP) (t:T):Option T:=match BAQ x with
 | true=>some t
 | false=>none
theorem nU {x:aB×MP×MP×MP×MP} {t r:T} (h:u5 x t=some r):x=(x.1,iJ (ids x.1.2.1),iJ (ids x.1.2.2.1),iJ (ids x.1.2.2.2.1),iJ (ids x.1.2.2.2.2.1))∧mR x.1∧r=t:=by
 unfold u5 at h;split at h
 ·rename_i hc
  cases h
  exact ⟨(MM.1 hc).1,(MM.1 hc).2,rfl⟩
 ·cases h
theorem nV {d:aB} (h:mR d) (t:T):u5 (d,iJ (ids d.2.1),iJ (ids d.2.2.1),iJ (ids d.2.2.2.1),iJ (ids d.2.2.2.2.1)) t=some t:=by
 unfold u5;rw[MM.2 ⟨rfl,h⟩]
def U6 (x:aB×MP×MP×MP×MP):Option T:=u5 x (T.v (Value.int .i64 (nM x.1)))
noncomputable def LQ:List T→Option (T):=gA (fun (x:aB×List aD×List aD×List aD×List aD)=>zX x.1 x.2.1 x.2.2.1 x.2.2.2.1 x.2.2.2.2) U6
theorem AM3 (a0:aB) (m1:List aD) (m2:List aD) (m3:List aD) (m4:List aD):LQ (zX a0 m1 m2 m3 m4)=U6 (a0,m1,m2,m3,m4):=fA (A:=(fun (x:aB×List aD×List aD×List aD×List aD)=>zX x.1 x.2.1 x.2.2.1 x.2.2.2.1 x.2.2.2.2)) ABC (a0,m1,m2,m3,m4)
theorem A4A (h:∀ (a0:aB) (m1:List aD) (m2:List aD) (m3:List aD) (m4:List aD) (r:T),U6 (a0,m1,m2,m3,m4)=some r→(∀ t∈zX a0 m1 m2 m3 m4,Bd t)→ACS a0 m1 m2 m3 m4 (fun y=>y=r)):aO Tryz.prog 80 LQ :=
 cP (E:=ABK) (Hs:=ASR) AQS aU aY (aN rfl) 8 ⟨_,_,Tryz.func80,rfl⟩ fun x r h1 h2=>by
  rw[AKX]
  exact h x.1 x.2.1 x.2.2.1 x.2.2.2.1 x.2.2.2.2 r h1 h2
theorem IT {A:List T} {b:Bool} (h:vA A=some (T.v (.bool b))) (K:Bool→Prop) (hk:K b):aJ [(false,Sy.bool)] (vA A) K:=aG (s:=[(false,Sy.bool)]) (y:=b) h hk
theorem A26:aO Tryz.prog 80 LQ:=A4A fun d m1 m2 m3 m4 r h hb=>by
 obtain ⟨hx,hs,rfl⟩:=nU h
 simp only[Prod.mk.injEq,true_and] at hx
 obtain ⟨rfl,rfl,rfl,rfl⟩:=hx
 clear h
 have is:∀ {n:Int},nM d=n→T.v (.int .i64 n)=T.v (.int .i64 (nM d)):=fun h=>by rw[h]
 have long:mJ d=true→nM d=4:=fun h=>by unfold nM;rw[if_pos h]
 unfold ACS g9 f5 GT FS t6 m9 i8 d6 d4 bF
 refine b8 (fun h=>is (long (by rw[List.length_map] at h;simp only[mJ,Bool.or_eq_true,decide_eq_true_eq];omega))) fun l1=>?_
 refine b8 (fun h=>is (long (by rw[List.length_map] at h;simp only[mJ,Bool.or_eq_true,decide_eq_true_eq];omega))) fun l2=>?_
 refine b8 (fun h=>is (long (by rw[List.length_map] at h;simp only[mJ,Bool.or_eq_true,decide_eq_true_eq];omega))) fun l3=>?_
 refine b8 (fun h=>is (long (by rw[List.length_map] at h;simp only[mJ,Bool.or_eq_true,decide_eq_true_eq];omega))) fun l4=>?_
 refine b8 (fun h=>is (long (by rw[List.length_map] at h;simp only[mJ,Bool.or_eq_true,decide_eq_true_eq];omega))) fun l5=>?_
 rw[List.length_map] at l1 l2 l3 l4 l5
 have notLong:mJ d=false:=by simp only[mJ,Bool.or_eq_false_iff,decide_eq_false_iff_not];omega
 refine IT (by rw[List.length_map];exact A8X hs.n) _ ?_
 have step:∀ {b c:Bool} {A:List T} {Z:Bool×PUnit→Prop},vA A=some (T.v (.bool c))→Z (b&&c,())→qU (Bool×PUnit) (fun (X:Bool×PUnit→Prop)=>aC b (aJ [(false,Sy.bool)] (vA A) fun (y2:Bool)=>X (y2,())) (X (false,()))) Z:=fun {b c A Z} hA hZ=>by
  rw[x6]
  cases b with
  | true=>rw[kH];exact IT hA _ hZ
  | false=>rw[oE];exact hZ
 refine step (by rw[List.length_map];exact A8Y hs.p) ?_
 refine step (by rw[List.length_map];exact A8Z hs.s) ?_
 refine step (by rw[List.length_map];exact A80 hs.k) ?_
 refine bM d.2.2.2.2.2.length (fun k s=>∃ b,s=(b,((k+1:Nat):Int),())∧(b&&SR (d.2.2.2.2.2.drop k))=oV d) ⟨_,rfl,by rw[List.drop_zero];rfl⟩ ?_
 rintro X k s hk ⟨b,rfl,he⟩ hX
 dsimp only
 have hr:=hs.r
 have hw:IntKind.i64.wrap (((k+1:Nat):Int)+1)=((k+1+1:Nat):Int):=bD _ (by omega) (by omega)
 have hw1:IntKind.i64.wrap (((k+1:Nat):Int)-1)=((k:Nat):Int):=by rw[bD _ (by omega) (by omega)];omega
 refine b8 (fun hlt=>?_) fun hge=>?_
 ·have hlt:k+1<d.2.2.2.2.2.length:=by rw[List.length_map] at hlt;omega
  rw[hw1,bH (r:=aS) (show k<d.2.2.2.2.2.length by omega),bH (r:=aS) hlt,hw]
  rw[ALF hlt] at he
  have go:∀ c,(b&&ltN d.2.2.2.2.2[k] d.2.2.2.2.2[k+1])=c→X (c,((k+1+1:Nat):Int),()):=fun c hc=>hX _ (by omega) ⟨c,rfl,by rw[←hc,Bool.and_assoc];exact he⟩
  generalize d.2.2.2.2.2[k]=u at go
  generalize d.2.2.2.2.2[k+1]=v at go
  cases b with
  | false=>rw[oE];exact go _ rfl
  | true =>
   rw[kH]
   simp only[Bool.true_and,ltN] at go
   refine b8 (fun h=>go _ (by simp[h])) fun h1=>?_
   refine b8 (fun h2=>?_) fun h2=>go _ (by simp[h1,h2])
   refine uV (fun h3=>go _ (by simp[h2,h3])) fun h3=>?_
   refine b8 (fun h4=>go _ (by rw[decide_eq_false h1,decide_eq_true h2,h3,decide_eq_true h4];rfl)) fun h4=>go _ (by rw[decide_eq_false h1,decide_eq_true h2,h3,decide_eq_false h4];rfl)
 ·rw[List.length_map] at hge
  rw[ATJ (by omega),Bool.and_true] at he
  refine gQ (fun h=>is (by unfold nM;rw[notLong,if_neg (by simp),←he,h];rfl)) fun h=>?_
  have dup:ALV d=true→T.v (.int .i64 7)=T.v (.int .i64 (nM d)):=fun h7=>is (by unfold nM;rw[notLong,if_neg (by simp),←he,h,if_neg (by simp),if_pos h7])
  have dup':(∃ i,∃ h:i<(iJ (ids d.2.2.1)).length,(iJ (ids d.2.2.1))[i].1∈ids d.2.1)∨(∃ i,∃ h:i<(iJ (ids d.2.2.2.1)).length,(iJ (ids d.2.2.2.1))[i].1∈ids d.2.1∨(iJ (ids d.2.2.2.1))[i].1∈ids d.2.2.1)∨(∃ i,∃ h:i<(iJ (ids d.2.2.2.2.1)).length,((iJ (ids d.2.2.2.2.1))[i].1∈ids d.2.1∨(iJ (ids d.2.2.2.2.1))[i].1∈ids d.2.2.1)∨(iJ (ids d.2.2.2.2.1))[i].1∈ids d.2.2.2.1)→ALV d=true:=by
   intro h
   simp only[ALV,A7L,Bool.or_eq_true,List.any_eq_true,CQ]
   rcases h with ⟨i,hi,h⟩|⟨i,hi,h⟩|⟨i,hi,h⟩
   ·exact .inl (.inl ⟨_,kP.1 ⟨i,hi,rfl⟩,h⟩)
   ·exact .inl (.inr ⟨_,kP.1 ⟨i,hi,rfl⟩,h⟩)
   ·exact .inr ⟨_,kP.1 ⟨i,hi,rfl⟩,h⟩
  have m1:=fun id=>(@kP (ids d.2.1) id)
  refine A2G (m:=iJ (ids d.2.1)) (es:=[]) (R7:=T.v (.int .i64 7)=T.v (.int .i64 (nM d))) Seen.nil (fun h=>by obtain ⟨_,_,h⟩:=h;exact h.elim) fun _=>?_
  refine A14 (m:=iJ (ids d.2.1)) (es:=[]) Seen.nil fun e1 rs1 s1=>?_
  have s1:=s1.congr (S':=fun id=>id∈ids d.2.1) fun id=>by rw[kP];simp
  refine A2G (m:=iJ (ids d.2.2.1)) s1 (fun h=>dup (dup' (.inl h))) fun n1=>?_
  refine A14 (m:=iJ (ids d.2.2.1)) s1 fun e2 rs2 s2=>?_
  have s2:=s2.congr (S':=fun id=>id∈ids d.2.1∨id∈ids d.2.2.1) fun id=>by rw[kP]
  refine A2G (m:=iJ (ids d.2.2.2.1)) s2 (fun h=>dup (dup' (.inr (.inl h)))) fun n2=>?_
  refine A14 (m:=iJ (ids d.2.2.2.1)) s2 fun e3 rs3 s3=>?_
  have s3:=s3.congr (S':=fun id=>(id∈ids d.2.1∨id∈ids d.2.2.1)∨id∈ids d.2.2.2.1) fun id=>by rw[kP]
  refine A2G (m:=iJ (ids d.2.2.2.2.1)) s3 (fun h=>dup (dup' (.inr (.inr h)))) fun n3=>?_
  refine A14 (m:=iJ (ids d.2.2.2.2.1)) s3 fun e4 rs4 s4=>is ?_
  have nd:ALV d=false:=by
   rw[Bool.eq_false_iff]
   intro h
   simp only[ALV,A7L,Bool.or_eq_true,List.any_eq_true,CQ] at h
   rcases h with (⟨x,hx,h⟩|⟨x,hx,h⟩)|⟨x,hx,h⟩
   ·obtain ⟨i,hi,rfl⟩:=kP.2 hx;exact n1 i hi h
   ·obtain ⟨i,hi,rfl⟩:=kP.2 hx;exact n2 i hi h
   ·obtain ⟨i,hi,rfl⟩:=kP.2 hx;exact n3 i hi h
  unfold nM;rw[notLong,if_neg (by simp),←he,h,if_neg (by simp),nd,if_neg (by simp)]
end Go.Pv
namespace Go.Pv
open Go Go.Proofs
def BDE:List T→Option T:=fun _=>none
theorem aO.nil {P:Program} {f:FuncId} (h:∃ fn,P.funcs[f]? = some fn∧(fn.name == "runtime.NumGoroutine")=false∧fn.body.isNone=false):aO P f BDE:=⟨h,fun _ _ _ _ _ _ _ _ h=>by cases h⟩
theorem ZX (es:MP):qB (bL es)=List.map (cQ Sy.str false (Sy.int IntKind.i64)) es:=by
 unfold qB bL
 rw[List.map_map];rfl
theorem QB {α:Type} (id:ByteArray):∀ (l:List (ByteArray×α)) (i:Nat) (es:MP),(∃ v,jI es id=some v∧jI (EY (ids l) i es) id=some v)∨(jI es id=none∧jI (EY (ids l) i es) id=none∧l.find? (fun s=>decide (s.1=id))=none) ∨
  (jI es id=none∧∃ k,∃ h:k<l.length,jI (EY (ids l) i es) id=some ((i+k:Nat):Int)∧l.find? (fun s=>decide (s.1=id))=some l[k])
 | [],i,es=>by
  cases h:jI es id with
  | none=>exact .inr (.inl ⟨rfl,by simpa [ids,EY] using h,rfl⟩)
  | some v=>exact .inl ⟨v,rfl,by simpa [ids,EY] using h⟩
 | a::l,i,es=>by
  have hs:ids (a::l)=a.1::ids l:=rfl
  rw[hs]
  simp only[EY]
  have ih:=QB id l (i+1) (match jI es a.1 with|none=>vB es a.1 (i:Int)|some _=>es)
  by_cases ha:a.1=id
  ·subst ha
   cases hc:jI es a.1 with
   | some v =>
    simp only[hc] at ih ⊢
    rcases ih with ⟨v',h1,h2⟩|⟨h1,_⟩|⟨h1,_⟩
    ·exact .inl ⟨v',h1,h2⟩
    ·cases h1
    ·cases h1
   | none =>
    simp only[hc] at ih ⊢
    have hg:jI (vB es a.1 (i:Int)) a.1=some (i:Int):=by rw[wP];simp
    rw[hg] at ih
    rcases ih with ⟨v',h1,h2⟩|⟨h1,_⟩|⟨h1,_⟩
    ·cases h1
     exact .inr (.inr ⟨by first|rfl|trivial,0,by simp,by simpa using h2,by simp⟩)
    ·cases h1
    ·cases h1
  ·have hg:jI (match jI es a.1 with|none=>vB es a.1 (i:Int)|some _=>es) id=jI es id:=by
    cases hc:jI es a.1 with
    | none=>simp only[wP,ha,if_false]
    | some v=>rfl
   rw[hg] at ih
   rcases ih with ⟨v',h1,h2⟩|⟨h1,h2,h3⟩|⟨h1,k,hk,h2,h3⟩
   ·exact .inl ⟨v',h1,h2⟩
   ·exact .inr (.inl ⟨h1,h2,by rw[List.find?_cons_of_neg (by simpa using ha)];exact h3⟩)
   ·exact .inr (.inr ⟨h1,k+1,by simpa using hk,h2.trans (by congr 2;omega),by rw[List.find?_cons_of_neg (by simpa using ha)];simpa using h3⟩)
theorem CI {α:Type} (id:ByteArray) (l:List (ByteArray×α)):(jI (iJ (ids l)) id=none∧l.find? (fun s=>decide (s.1=id))=none)∨(∃ k,∃ h:k<l.length,jI (iJ (ids l)) id=some (k:Int)∧l.find? (fun s=>decide (s.1=id))=some l[k]):=by
 rcases QB id l 0 [] with ⟨v,h,_⟩|⟨_,h1,h2⟩|⟨_,k,hk,h1,h2⟩
 ·cases h
 ·exact .inl ⟨h1,h2⟩
 ·exact .inr ⟨k,hk,h1.trans (by rw[Nat.zero_add]),h2⟩
theorem ixK {α:Type} {id:ByteArray} {l:List (ByteArray×α)} {A:Prop} {B:Nat→Int→Prop} (hA:l.find? (fun s=>decide (s.1=id))=none→A) (hB:∀ i k (h:k<l.length),l.find? (fun s=>decide (s.1=id))=some l[k]→B i (k:Int)) :
  gX TypeDesc.string (Value.string id) (qB (bL (iJ (ids l)))) false (Sy.int IntKind.i64) A B:=by
 rw[ZX]
 refine B2 (r:=.int .i64) (fun h=>hA ?_) fun i v h=>?_
 ·rcases CI id l with ⟨_,h2⟩|⟨k,hk,h1,_⟩
  ·exact h2
  ·rw[h] at h1;cases h1
 ·rcases CI id l with ⟨h1,_⟩|⟨k,hk,h1,h2⟩
  ·rw[h] at h1;cases h1
  ·rw[h] at h1;cases h1;exact hB i k hk h2
def lW (a0:aB) (m1:List aD) (m2:List aD) (m3:List aD) (m4:List aD) (a5:ByteArray):List T:=[N0 a0 m1 m2 m3 m4,T.v (.string a5)]
noncomputable def JC:Env:=Env.of []
def WQ:FuncId→Hint:=bX 274 [(3,.inv [.val 1 false .str,.own 6 1 .str,.val 9 false (.int .i64)])] (fun _=>aZ)
theorem ACF:aT Tryz.prog JC:=.nil _
def J2(a0:aB)(m1:List aD)(m2:List aD)(m3:List aD)(m4:List aD)(a5:ByteArray)(R:T→Prop):Prop:=bA (ByteArray×List ByteArray×Int×PUnit) (fun X0 s1=>aC (decide (s1.2.2.1<65)) (gX TypeDesc.string (Value.string s1.1) (qB (bL m1)) false bF (R (T.cA [T.sl false [],T.v (.bool false)])) fun (i2:Nat) (y3:Int)=>aR a6 (t6 a0) y3 fun (y4:bE)=>bN (decide (((List.map Sy.str.enc s1.2.1).length+1)*16≤140737488355328) && decide ((List.map Sy.str.enc s1.2.1).length+1≤140737488355328)) (aC (decide (y4.2.1=1)) (R (T.cA [T.sl false (List.map Sy.str.enc s1.2.1++[[T.v (.string s1.1)]]), T.v (.bool true)])) (lT Sy.str (List.map Sy.str.enc s1.2.1++[[T.v (.string s1.1)]]) fun (y5:List ByteArray)=>X0 (y4.2.2,y5,IntKind.i64.wrap (s1.2.2.1+1),())))) (R (T.cA [T.sl false [],T.v (.bool false)]))) (a5,[],0,())
theorem WG ( a0 m1 m2 m3 m4 a5 R):dW bW Tryz.prog JC WQ 8 233 (lW a0 m1 m2 m3 m4 a5) R=J2 a0 m1 m2 m3 m4 a5 R:=by kernel_rfl
theorem BM (x y:aB×MP×MP×MP×MP×ByteArray) (h:lW x.1 x.2.1 x.2.2.1 x.2.2.2.1 x.2.2.2.2.1 x.2.2.2.2.2=lW y.1 y.2.1 y.2.2.1 y.2.2.2.1 y.2.2.2.2.1 y.2.2.2.2.2):x=y:=by
 obtain ⟨h1,h2⟩:=List.cons.inj h
 have:=p8 (x:=(x.1,x.2.1,x.2.2.1,x.2.2.2.1,x.2.2.2.2.1)) (y:=(y.1,y.2.1,y.2.2.1,y.2.2.2.1,y.2.2.2.2.1)) h1
 simp only[List.cons.injEq,T.v.injEq,Value.string.injEq,and_true] at h2
 simp only[Prod.mk.injEq] at this
 obtain ⟨e1,e2,e3,e4,e5⟩:=this
 exact Prod.ext e1 (Prod.ext e2 (Prod.ext e3 (Prod.ext e4 (Prod.ext e5 h2))))
def F2 (x:aB×MP×MP×MP×MP×ByteArray):Option T:=u5 (x.1,x.2.1,x.2.2.1,x.2.2.2.1,x.2.2.2.2.1) (Sh.enc [(false,.li .str),(false,.bool)] (up x.1 x.2.2.2.2.2))
noncomputable def kO:List T→Option (T):=gA (fun (x:aB×List aD×List aD×List aD×List aD×ByteArray)=>lW x.1 x.2.1 x.2.2.1 x.2.2.2.1 x.2.2.2.2.1 x.2.2.2.2.2) F2
theorem ZF (a0:aB) (m1:List aD) (m2:List aD) (m3:List aD) (m4:List aD) (a5:ByteArray):kO (lW a0 m1 m2 m3 m4 a5)=F2 (a0,m1,m2,m3,m4,a5):=fA (A:=(fun (x:aB×List aD×List aD×List aD×List aD×ByteArray)=>lW x.1 x.2.1 x.2.2.1 x.2.2.2.1 x.2.2.2.2.1 x.2.2.2.2.2)) BM (a0,m1,m2,m3,m4,a5)
theorem AOL (h:∀ (a0:aB) (m1:List aD) (m2:List aD) (m3:List aD) (m4:List aD) (a5:ByteArray) (r:T),F2 (a0,m1,m2,m3,m4,a5)=some r→(∀ t∈lW a0 m1 m2 m3 m4 a5,Bd t)→J2 a0 m1 m2 m3 m4 a5 (fun y=>y=r)):aO Tryz.prog 233 kO :=
 cP (E:=JC) (Hs:=WQ) ACF aU aY (aN rfl) 8 ⟨_,_,Tryz.func233,rfl⟩ fun x r h1 h2=>by
  rw[WG]
  exact h x.1 x.2.1 x.2.2.1 x.2.2.2.1 x.2.2.2.2.1 x.2.2.2.2.2 r h1 h2
theorem PH:aO Tryz.prog 233 kO:=AOL fun d m1 m2 m3 m4 id0 r h hb=>by
 obtain ⟨hx,hs,rfl⟩:=nU h
 simp only[Prod.mk.injEq,true_and] at hx
 obtain ⟨rfl,rfl,rfl,rfl⟩:=hx
 clear h
 unfold J2 t6 bF
 refine bM 65 (fun k s=>∃ id' l',s=(id',l',(k:Int),())∧l'.length=k∧upF d (65-k) id' l'=up d id0) ⟨id0,[],rfl,rfl,rfl⟩ ?_
 rintro X k s hk ⟨id',l',rfl,hl,hu⟩ hX
 dsimp only
 have stop:up d id0=([],false)→T.cA [T.sl false [],T.v (.bool false)]=Sh.enc [(false,.li .str),(false,.bool)] (up d id0):=fun h=>by rw[h];rfl
 refine b8 (fun hlt=>?_) fun hge=>stop ?_
 ·have hlt:k<65:=by omega
  obtain ⟨m,hm⟩:∃ m,65-k=m+1:=⟨64-k,by omega⟩
  rw[hm] at hu
  simp only[upF] at hu
  refine ixK (fun hn=>stop ?_) fun i j hj hn=>?_
  ·have hn:fG d id'=none:=hn
   rw[hn] at hu;exact hu.symm
  ·have hn:fG d id'=some d.2.1[j]:=hn
   simp only[hn] at hu
   rw[bH (r:=a6) hj,A67 (by omega),AT4]
   refine b8 (fun h1=>?_) fun h1=>?_
   ·rw[if_pos h1] at hu
    rw[←hu,AUD];rfl
   ·rw[if_neg h1] at hu
    exact hX _ hlt ⟨_,_,by rw[show IntKind.i64.wrap ((k:Int)+1)=((k+1:Nat):Int) from bD _ (by omega) (by omega)],by simp[hl],by rw[←hu];congr 1;omega⟩
 ·have:65-k=0:=by omega
  rw[this] at hu
  exact hu.symm
def uZ (d:aB) (n:bE):Int:=if wV n.1=false then 6 else if ¬ n.2.1=1∧¬ n.2.1=2 then 10 else if n.2.1=1∧¬ n.2.2 = { data:=#[] } then 2 else if n.2.1=2∧(fG d n.2.2).isNone=true then 8 else 0
def A9I (d:aB):Bool:=d.2.1.any fun n=>!(up d n.1).2
def AT5 (d:aB):Bool:=d.2.1.any fun n=>decide (8<(up d n.1).1.length)
def lJ (d:aB):Int:=if cE (uZ d) d.2.1=0 then (if A9I d=true then 20 else if AT5 d=true then 13 else 0) else cE (uZ d) d.2.1
def pD (a0:aB) (m1:List aD) (m2:List aD) (m3:List aD) (m4:List aD):List T:=[N0 a0 m1 m2 m3 m4]
noncomputable def I7:Env:=Env.of [(232,.pure eM),(233,.pure kO)]
def WJ:FuncId→Hint:=bX 81 [(2,.inv [.val 20 false (.int .i64)]),(16,.inv [.val 7 false .bool,.val 74 false (.int .i64)])] (fun _=>aZ)
theorem ABS:aT Tryz.prog I7:=.cons IM (.cons PH (.nil _))
def m7(R:T→Prop):Prop:=R (T.v (.int .i64 8))
def AIG(R:T→Prop):Prop:=R (T.v (.int .i64 2))
def BEV:T:=T.v (.int .i64 10)
def BEX(R:T→Prop):Prop:=R (T.v (.int .i64 6))
def BE1(R:T→Prop):Prop:=R (T.v (.int .i64 0))
def BE3(y2:bE)(R:T→Prop)(X0:Int×PUnit→Prop)(s1:Int×PUnit):Prop:=aC (decide (y2.2.1=1)) (aC (!decide (y2.2.2 = {data:=#[]})) (AIG R) (aC (decide (y2.2.1=2)) (f8 X0 s1) (f8 X0 s1))) (aC (decide (y2.2.1=2)) (f8 X0 s1) (f8 X0 s1))
def BE6(y2:bE)(R:T→Prop)(X0:Int×PUnit→Prop)(s1:Int×PUnit):Prop:=aC (decide (y2.2.1=1)) (aC (!decide (y2.2.2 = {data:=#[]})) (AIG R) (aC (decide (y2.2.1=2)) (m7 R) (f8 X0 s1))) (aC (decide (y2.2.1=2)) (m7 R) (f8 X0 s1))
def JE(a0:aB)(m1:List aD)(m2:List aD)(m3:List aD)(m4:List aD)(R:T→Prop):Prop:=bA (Int×PUnit) (fun X0 s1=>aC (decide (s1.1<(↑(t6 a0).length:Int))) (aR a6 (t6 a0) s1.1 fun (y2:bE)=>gX TypeDesc.string (Value.string y2.2.2) (qB (bL m1)) false bF (aJ d4 (eM [T.v (.string y2.1)]) fun (y6:Bool)=>aC (!y6) (BEX R) (aC (!decide (y2.2.1=1)) (aC (!decide (y2.2.1=2)) (R BEV) (BE6 y2 R X0 s1)) (BE6 y2 R X0 s1))) fun (i3:Nat) (y4:Int)=>aJ d4 (eM [T.v (.string y2.1)]) fun (y5:Bool)=>aC (!y5) (BEX R) (aC (!decide (y2.2.1=1)) (aC (!decide (y2.2.1=2)) (R BEV) (BE3 y2 R X0 s1)) (BE3 y2 R X0 s1))) (bA (Bool×Int×PUnit) (fun X7 s8=>aC (decide (s8.2.1<(↑(t6 a0).length:Int))) (aR a6 (t6 a0) s8.2.1 fun (y9:bE)=>aJ [(false,Sy.str.li),(false,Sy.bool)] (kO [T.ref [T.ref (g9 a0), T.mp (bL m1),T.mp (bL m2),T.mp (bL m3), T.mp (bL m4)], T.v (.string y9.1)]) fun (y10:List ByteArray×Bool)=>aC (!y10.2) (R (T.v (.int .i64 20))) (aC s8.1 (X7 (true,IntKind.i64.wrap (s8.2.1+1),())) (X7 (decide (8<(↑(List.map Sy.str.enc y10.1).length:Int)), IntKind.i64.wrap (s8.2.1+1),())))) (aC s8.1 (R (T.v (.int .i64 13))) (BE1 R))) (false,0,()))) (0,())
theorem WA ( a0 m1 m2 m3 m4 R):dW bW Tryz.prog I7 WJ 8 81 (pD a0 m1 m2 m3 m4) R=JE a0 m1 m2 m3 m4 R:=by kernel_rfl
theorem RJ (x y:aB×MP×MP×MP×MP) (h:pD x.1 x.2.1 x.2.2.1 x.2.2.2.1 x.2.2.2.2=pD y.1 y.2.1 y.2.2.1 y.2.2.2.1 y.2.2.2.2):x=y:=p8 (List.cons.inj h).1
def FR (x:aB×MP×MP×MP×MP):Option T:=u5 x (T.v (Value.int .i64 (lJ x.1)))
noncomputable def wA:List T→Option (T):=gA (fun (x:aB×List aD×List aD×List aD×List aD)=>pD x.1 x.2.1 x.2.2.1 x.2.2.2.1 x.2.2.2.2) FR
theorem YC (a0:aB) (m1:List aD) (m2:List aD) (m3:List aD) (m4:List aD):wA (pD a0 m1 m2 m3 m4)=FR (a0,m1,m2,m3,m4):=fA (A:=(fun (x:aB×List aD×List aD×List aD×List aD)=>pD x.1 x.2.1 x.2.2.1 x.2.2.2.1 x.2.2.2.2)) RJ (a0,m1,m2,m3,m4)
theorem ANY (h:∀ (a0:aB) (m1:List aD) (m2:List aD) (m3:List aD) (m4:List aD) (r:T),FR (a0,m1,m2,m3,m4)=some r→(∀ t∈pD a0 m1 m2 m3 m4,Bd t)→JE a0 m1 m2 m3 m4 (fun y=>y=r)):aO Tryz.prog 81 wA :=
 cP (E:=I7) (Hs:=WJ) ABS aU aY (aN rfl) 8 ⟨_,_,Tryz.func81,rfl⟩ fun x r h1 h2=>by
  rw[WA]
  exact h x.1 x.2.1 x.2.2.1 x.2.2.2.1 x.2.2.2.2 r h1 h2
theorem GS {d:aB} (hs:mR d) (id:ByteArray):kO (lW d (iJ (ids d.2.1)) (iJ (ids d.2.2.1)) (iJ (ids d.2.2.2.1)) (iJ (ids d.2.2.2.2.1)) id)=some (Sh.enc [(false,.li .str),(false,.bool)] (up d id)):=by
 rw[ZF];exact nV hs _
theorem mU (s:ByteArray) (K:Bool→Prop):aJ [(false,Sy.bool)] (eM [T.v (.string s)]) K=K (wV s):=by
 rw[show eM [T.v (.string s)]=DB s from AM4]
 exact AAM _ K
theorem AL6:aO Tryz.prog 81 wA:=ANY fun d m1 m2 m3 m4 r h hb=>by
 obtain ⟨hx,hs,rfl⟩:=nU h
 simp only[Prod.mk.injEq,true_and] at hx
 obtain ⟨rfl,rfl,rfl,rfl⟩:=hx
 clear h
 have is:∀ {n:Int},lJ d=n→T.v (.int .i64 n)=T.v (.int .i64 (lJ d)):=fun h=>by rw[h]
 unfold JE BE6 BE3 BE1 g9 f8 BEX BEV AIG m7 GT FS t6 m9 i8 d4 bF
 refine pM (r:=a6) (uZ d) hs.n (fun X s y hy hok hbad=>?_) fun h0=>?_
 ·have bad:∀ {n:Int},n≠0→uZ d y=n→T.v (.int .i64 n)=T.v (.int .i64 (lJ d)):=fun hn h=>is (by
   have:=hbad (by rw[h];exact hn)
   unfold lJ
   rw[if_neg (by rw[this,h];exact hn),this,h])
  have tail:∀ {Z2 Z:Prop},wV y.1=true→(y.2.1=2→Z2)→(uZ d y=0→Z) →
   aC (!decide (y.2.1=1))
        (aC (!decide (y.2.1=2)) (T.v (.int .i64 10)=T.v (.int .i64 (lJ d)))
         (aC (decide (y.2.1=1))
          (aC (!decide (y.2.2 = { data:=#[] })) (T.v (.int .i64 2)=T.v (.int .i64 (lJ d)))
           (aC (decide (y.2.1=2)) Z2 Z))
          (aC (decide (y.2.1=2)) Z2 Z)))
        (aC (decide (y.2.1=1))
         (aC (!decide (y.2.2 = { data:=#[] })) (T.v (.int .i64 2)=T.v (.int .i64 (lJ d)))
          (aC (decide (y.2.1=2)) Z2 Z))
         (aC (decide (y.2.1=2)) Z2 Z)):=by
   intro Z2 Z hid h2 h1
   refine lA (fun g1=>?_) fun g1=>?_
   ·refine lA (fun g2=>bad (by decide) (by unfold uZ;rw[if_neg (by simp[hid]),if_pos ⟨g1,g2⟩])) fun g2=>?_
    refine b8 (fun h=>absurd h g1) fun _=>?_
    exact b8 (fun _=>h2 g2) fun h=>absurd g2 h
   ·refine b8 (fun _=>?_) fun h=>absurd g1 h
    refine lA (fun g3=>bad (by decide) (by unfold uZ;rw[if_neg (by simp[hid]),if_neg (by simp[g1]),if_pos ⟨g1,g3⟩])) fun g3=>?_
    exact b8 (fun h=>by rw[g1] at h;cases h) fun h=>h1 (by unfold uZ;rw[if_neg (by simp[hid]),if_neg (by simp[g1]),if_neg (by simp[g3]),if_neg (by simp[h])])
  refine ixK (fun hn=>?_) fun i j hj hn=>?_
  ·have hn:fG d y.2.2=none:=hn
   rw[mU]
   refine gQ (fun hid=>bad (by decide) (by unfold uZ;rw[if_pos hid])) fun hid=>?_
   refine tail hid (fun h2=>bad (by decide) ?_) fun h0=>hok h0
   unfold uZ;rw[if_neg (by simp[hid]),if_neg (by simp[h2]),if_neg (by simp[h2]),if_pos ⟨h2,by rw[hn];rfl⟩]
  ·have hn:fG d y.2.2=some d.2.1[j]:=hn
   rw[mU]
   refine gQ (fun hid=>bad (by decide) (by unfold uZ;rw[if_pos hid])) fun hid=>?_
   refine tail hid (fun h2=>hok ?_) fun h0=>hok h0
   unfold uZ;rw[if_neg (by simp[hid]),if_neg (by simp[h2]),if_neg (by simp[h2]),if_neg (by simp[hn])]
 ·have hn:d.2.1.length≤140737488355328:=hs.n
  refine bM d.2.1.length (fun k s=>s=((d.2.1.take k).any (fun n=>decide (8<(up d n.1).1.length)),(k:Int),())∧∀ n∈d.2.1.take k,(up d n.1).2=true) ⟨rfl,by simp⟩ ?_
  rintro X k s hk ⟨rfl,hall⟩ hX
  dsimp only
  refine b8 (fun hlt=>?_) fun hge=>?_
  ·rw[List.length_map] at hlt
   have hlt:k<d.2.1.length:=by omega
   rw[bH (r:=a6) hlt]
   refine aG (s:=[(false,.li .str),(false,.bool)]) (GS hs d.2.1[k].1) ?_
   have ht:d.2.1.take (k+1)=d.2.1.take k++[d.2.1[k]]:=List.take_succ_eq_append_getElem hlt
   have hw:IntKind.i64.wrap ((k:Int)+1)=((k+1:Nat):Int):=bD _ (by omega) (by omega)
   refine gQ (fun hu=>is ?_) fun hu=>?_
   ·unfold lJ
    rw[if_pos h0,if_pos (show A9I d=true from List.any_eq_true.2 ⟨_,List.getElem_mem hlt,by rw[hu];rfl⟩)]
   ·have hall':∀ n∈d.2.1.take (k+1),(up d n.1).2=true:=fun n hm=>by
     rw[ht] at hm
     rcases List.mem_append.1 hm with h|h
     ·exact hall n h
     ·simp at h;subst h;exact hu
    refine uV (fun hd=>?_) fun hd=>?_
    ·refine hX _ hlt ⟨?_,hall'⟩
     rw[hw,ht,List.any_append,hd];rfl
    ·refine hX _ hlt ⟨?_,hall'⟩
     rw[hw,ht,List.any_append,hd]
     simp only[List.length_map,List.any_cons,List.any_nil,Bool.or_false,Bool.false_or,Prod.mk.injEq,and_true]
     congr 1
     exact propext ⟨fun h=>by omega,fun h=>by omega⟩
  ·rw[List.length_map] at hge
   have:k=d.2.1.length:=by omega
   subst this
   rw[List.take_length] at hall ⊢
   have hnu:A9I d=false:=by
    rw[Bool.eq_false_iff];intro h
    obtain ⟨n,hm,h⟩:=List.any_eq_true.1 h
    rw[hall n hm] at h;cases h
   refine uV (fun h=>is ?_) fun h=>is ?_
   ·unfold lJ;rw[if_pos h0,hnu,if_neg (by simp),if_pos (show AT5 d=true from h)]
   ·unfold lJ;rw[if_pos h0,hnu,if_neg (by simp),if_neg (by rw[show AT5 d=false from h];simp)]
end Go.Pv
namespace Go.Pv
open Go Go.Proofs
def w9 (d:aB) (s:bI):Int:=if wV s.1=false∨wV s.2.1=false∨wV s.2.2.1=false then 6 else if s.2.1=s.2.2.1 then 2 else if ¬ s.2.2.2.1=1∧¬ s.2.2.2.1=2 then 10 else if s.2.2.2.2.1<1∨32768<s.2.2.2.2.1∨s.2.2.2.2.2<1∨3<s.2.2.2.2.2 then 9 else if (partOf d s.2.1).isNone=true∨(partOf d s.2.2.1).isNone=true then 8 else 0
def pE (a0:aB) (m1:List aD) (m2:List aD) (m3:List aD) (m4:List aD):List T:=[N0 a0 m1 m2 m3 m4]
noncomputable def I8:Env:=Env.of [(232,.pure eM)]
def WK:FuncId→Hint:=bX 83 [(2,.inv [.val 17 false (.int .i64)])] (fun _=>aZ)
theorem ABT:aT Tryz.prog I8:=.cons IM (.nil _)
def t7(R:T→Prop):Prop:=R (T.v (.int .i64 9))
def ACM(y2:bI)(R:T→Prop):Prop:=aC (decide (y2.2.2.2.2.1<1)) (t7 R) (aC (decide (32768<y2.2.2.2.2.1)) (t7 R) (aC (decide (y2.2.2.2.2.2<1)) (t7 R) (aC (decide (3<y2.2.2.2.2.2)) (t7 R) (m7 R))))
def f7(y2:bI)(R:T→Prop):Prop:=aJ d4 (eM [T.v (.string y2.1)]) fun (y15:Bool)=>aC (!y15) (BEX R) (aJ d4 (eM [T.v (.string y2.2.1)]) fun (y16:Bool)=>aC (!y16) (BEX R) (aJ d4 (eM [T.v (.string y2.2.2.1)]) fun (y17:Bool)=>aC (!y17) (BEX R) (aC (decide (y2.2.1=y2.2.2.1)) (AIG R) (aC (!decide (y2.2.2.2.1=1)) (aC (!decide (y2.2.2.2.1=2)) (R BEV) (ACM y2 R)) (ACM y2 R)))))
def BE2(y2:bI)(R:T→Prop)(X0:Int×PUnit→Prop)(s1:Int×PUnit):Prop:=aC (decide (y2.2.2.2.2.1<1)) (t7 R) (aC (decide (32768<y2.2.2.2.2.1)) (t7 R) (aC (decide (y2.2.2.2.2.2<1)) (t7 R) (aC (decide (3<y2.2.2.2.2.2)) (t7 R) (f8 X0 s1))))
def JF(a0:aB)(m1:List aD)(m2:List aD)(m3:List aD)(m4:List aD)(R:T→Prop):Prop:=bA (Int×PUnit) (fun X0 s1=>aC (decide (s1.1<(↑(m9 a0).length:Int))) (aR a7 (m9 a0) s1.1 fun (y2:bI)=>gX TypeDesc.string (Value.string y2.2.1) (qB (bL m2)) false bF (gX TypeDesc.string (Value.string y2.2.2.1) (qB (bL m2)) false bF (f7 y2 R) fun (i13:Nat) (y14:Int)=>f7 y2 R) fun (i3:Nat) (y4:Int)=>gX TypeDesc.string (Value.string y2.2.2.1) (qB (bL m2)) false bF (f7 y2 R) fun (i5:Nat) (y6:Int)=>aJ d4 (eM [T.v (.string y2.1)]) fun (y7:Bool)=>aC (!y7) (BEX R) (aJ d4 (eM [T.v (.string y2.2.1)]) fun (y8:Bool)=>aC (!y8) (BEX R) (aJ d4 (eM [T.v (.string y2.2.2.1)]) fun (y9:Bool)=>aC (!y9) (BEX R) (aC (decide (y2.2.1=y2.2.2.1)) (AIG R) (aC (!decide (y2.2.2.2.1=1)) (aC (!decide (y2.2.2.2.1=2)) (R BEV) (BE2 y2 R X0 s1)) (BE2 y2 R X0 s1)))))) (BE1 R)) (0,())
theorem WB ( a0 m1 m2 m3 m4 R):dW bW Tryz.prog I8 WK 8 83 (pE a0 m1 m2 m3 m4) R=JF a0 m1 m2 m3 m4 R:=by kernel_rfl
theorem RL (x y:aB×MP×MP×MP×MP) (h:pE x.1 x.2.1 x.2.2.1 x.2.2.2.1 x.2.2.2.2=pE y.1 y.2.1 y.2.2.1 y.2.2.2.1 y.2.2.2.2):x=y:=p8 (List.cons.inj h).1
def FT (x:aB×MP×MP×MP×MP):Option T:=u5 x (T.v (Value.int .i64 (cE (w9 x.1) x.1.2.2.2.1)))
noncomputable def wB:List T→Option (T):=gA (fun (x:aB×List aD×List aD×List aD×List aD)=>pE x.1 x.2.1 x.2.2.1 x.2.2.2.1 x.2.2.2.2) FT
theorem YD (a0:aB) (m1:List aD) (m2:List aD) (m3:List aD) (m4:List aD):wB (pE a0 m1 m2 m3 m4)=FT (a0,m1,m2,m3,m4):=fA (A:=(fun (x:aB×List aD×List aD×List aD×List aD)=>pE x.1 x.2.1 x.2.2.1 x.2.2.2.1 x.2.2.2.2)) RL (a0,m1,m2,m3,m4)
theorem ANZ (h:∀ (a0:aB) (m1:List aD) (m2:List aD) (m3:List aD) (m4:List aD) (r:T),FT (a0,m1,m2,m3,m4)=some r→(∀ t∈pE a0 m1 m2 m3 m4,Bd t)→JF a0 m1 m2 m3 m4 (fun y=>y=r)):aO Tryz.prog 83 wB :=
 cP (E:=I8) (Hs:=WK) ABT aU aY (aN rfl) 8 ⟨_,_,Tryz.func83,rfl⟩ fun x r h1 h2=>by
  rw[WB]
  exact h x.1 x.2.1 x.2.2.1 x.2.2.2.1 x.2.2.2.2 r h1 h2
theorem AL7:aO Tryz.prog 83 wB:=ANZ fun d m1 m2 m3 m4 r h hb=>by
 obtain ⟨hx,hs,rfl⟩:=nU h
 simp only[Prod.mk.injEq,true_and] at hx
 obtain ⟨rfl,rfl,rfl,rfl⟩:=hx
 replace hs:mR d:=hs
 clear h
 unfold JF BE2 BE1 f8 f7 BEX BEV AIG ACM t7 m7 m9 d4 bF
 refine pM (r:=a7) (w9 d) hs.s (fun X s y hy hok hbad=>?_) fun h0=>?_
 ·have bad:∀ {n:Int},n≠0→w9 d y=n→T.v (.int .i64 n)=T.v (.int .i64 (cE (w9 d) d.2.2.2.1)):=fun hn h=>by
   rw[hbad (by rw[h];exact hn),h]
  clear hbad hb
  repeat' first
   | refine ixK (fun hn=>?_) (fun i j hj hn=>?_)
   | rw[mU]
   | refine lA (fun h=>?_) (fun h=>?_)
   | refine b8 (fun h=>?_) (fun h=>?_)
   | refine gQ (fun h=>?_) (fun h=>?_)
  all_goals first
   | (exfalso;omega)
   | (refine bad (by decide) ?_;clear bad hok;unfold w9;simp[*,partOf,jQ];done)
   | (refine hok ?_;clear bad hok;unfold w9;simp[*,partOf,jQ];done)
 ·show _=T.v (.int .i64 (cE (w9 d) d.2.2.2.1))
  rw[h0]
def qF (a0:aB) (m1:List aD) (m2:List aD) (m3:List aD) (m4:List aD) (a5:ByteArray):List T:=[N0 a0 m1 m2 m3 m4,T.v (.string a5)]
noncomputable def RR:Env:=Env.of []
def AHC:FuncId→Hint:=fun _=>aZ
theorem AKG:aT Tryz.prog RR:=.nil _
def R3(a0:aB)(m1:List aD)(m2:List aD)(m3:List aD)(m4:List aD)(a5:ByteArray)(R:T→Prop):Prop:=gX TypeDesc.string (Value.string a5) (qB (bL m1)) false bF (R d3) fun (i0:Nat) (y1:Int)=>aR a6 (t6 a0) y1 fun (y2:bE)=>R (T.v (.bool (decide (y2.2.1=1))))
theorem ACT ( a0 m1 m2 m3 m4 a5 R):dW bW Tryz.prog RR AHC 8 236 (qF a0 m1 m2 m3 m4 a5) R=R3 a0 m1 m2 m3 m4 a5 R:=by kernel_rfl
def wU (d:aB) (id:ByteArray):Bool:=match fG d id with
 | some n=>decide (n.2.1=1)
 | none=>false
theorem VV (x y:aB×MP×MP×MP×MP×ByteArray) (h:qF x.1 x.2.1 x.2.2.1 x.2.2.2.1 x.2.2.2.2.1 x.2.2.2.2.2=qF y.1 y.2.1 y.2.2.1 y.2.2.2.1 y.2.2.2.2.1 y.2.2.2.2.2):x=y:=BM x y h
def NS (x:aB×MP×MP×MP×MP×ByteArray):Option T:=u5 (x.1,x.2.1,x.2.2.1,x.2.2.2.1,x.2.2.2.2.1) (T.v (.bool (wU x.1 x.2.2.2.2.2)))
noncomputable def gL:List T→Option (T):=gA (fun (x:aB×List aD×List aD×List aD×List aD×ByteArray)=>qF x.1 x.2.1 x.2.2.1 x.2.2.2.1 x.2.2.2.2.1 x.2.2.2.2.2) NS
theorem AEN (a0:aB) (m1:List aD) (m2:List aD) (m3:List aD) (m4:List aD) (a5:ByteArray):gL (qF a0 m1 m2 m3 m4 a5)=NS (a0,m1,m2,m3,m4,a5):=fA (A:=(fun (x:aB×List aD×List aD×List aD×List aD×ByteArray)=>qF x.1 x.2.1 x.2.2.1 x.2.2.2.1 x.2.2.2.2.1 x.2.2.2.2.2)) VV (a0,m1,m2,m3,m4,a5)
theorem AXP (h:∀ (a0:aB) (m1:List aD) (m2:List aD) (m3:List aD) (m4:List aD) (a5:ByteArray) (r:T),NS (a0,m1,m2,m3,m4,a5)=some r→(∀ t∈qF a0 m1 m2 m3 m4 a5,Bd t)→R3 a0 m1 m2 m3 m4 a5 (fun y=>y=r)):aO Tryz.prog 236 gL :=
 cP (E:=RR) (Hs:=AHC) AKG aU aY (aN rfl) 8 ⟨_,_,Tryz.func236,rfl⟩ fun x r h1 h2=>by
  rw[ACT]
  exact h x.1 x.2.1 x.2.2.1 x.2.2.2.1 x.2.2.2.2.1 x.2.2.2.2.2 r h1 h2
theorem XQ:aO Tryz.prog 236 gL:=AXP fun d m1 m2 m3 m4 id0 r h hb=>by
 obtain ⟨hx,hs,rfl⟩:=nU h
 simp only[Prod.mk.injEq,true_and] at hx
 obtain ⟨rfl,rfl,rfl,rfl⟩:=hx
 replace hs:mR d:=hs
 clear h
 unfold R3 t6 d3 bF
 refine ixK (fun hn=>?_) fun i j hj hn=>?_
 ·have hn:fG d id0=none:=hn
  show _=T.v (.bool (wU d id0))
  unfold wU;rw[hn]
 ·have hn:fG d id0=some d.2.1[j]:=hn
  rw[bH (r:=a6) hj]
  show _=T.v (.bool (wU d id0))
  unfold wU;rw[hn]
theorem LR {d:aB} (hs:mR d) (id:ByteArray):gL (qF d (iJ (ids d.2.1)) (iJ (ids d.2.2.1)) (iJ (ids d.2.2.2.1)) (iJ (ids d.2.2.2.2.1)) id)=some (Sh.enc [(false,.bool)] (wU d id)):=by
 rw[AEN];exact nV hs _
def zP (d:aB) (x:a8):Int:=if x.1<1∨3<x.1 then 10 else if x.2.2=x.2.1 then 2 else if wU d x.2.1=false then 8 else if (x.1=1∧¬ x.2.2 = { data:=#[] }∧wU d x.2.2=false)∨(x.1=2∧wU d x.2.2=false)∨(x.1=3∧(jQ d x.2.2).isNone=true) then 8 else 0
def pC (a0:aB) (m1:List aD) (m2:List aD) (m3:List aD) (m4:List aD):List T:=[N0 a0 m1 m2 m3 m4]
noncomputable def I6:Env:=Env.of [(236,.pure gL)]
def WI:FuncId→Hint:=bX 85 [(2,.inv [.val 15 false (.int .i64)])] (fun _=>aZ)
theorem ABR:aT Tryz.prog I6:=.cons XQ (.nil _)
def t8(a0:aB)(m1:List aD)(m2:List aD)(m3:List aD)(m4:List aD)(y2:a8):List T:=[T.ref [T.ref (f5 a0), T.mp (bL m1),T.mp (bL m2),T.mp (bL m3), T.mp (bL m4)], T.v (.string y2.2.2)]
def BEZ(y2:a8)(X0:Int×PUnit→Prop)(s1:Int×PUnit):Prop:=aC (decide (y2.1=3)) (f8 X0 s1) (f8 X0 s1)
def BFA(y2:a8)(R:T→Prop)(X0:Int×PUnit→Prop)(s1:Int×PUnit):Prop:=aC (decide (y2.1=3)) (m7 R) (f8 X0 s1)
def JD(a0:aB)(m1:List aD)(m2:List aD)(m3:List aD)(m4:List aD)(R:T→Prop):Prop:=bA (Int×PUnit) (fun X0 s1=>aC (decide (s1.1<(↑(FS a0).length:Int))) (aR aS (FS a0) s1.1 fun (y2:a8)=>gX TypeDesc.string (Value.string y2.2.2) (qB (bL m4)) false bF (aC (decide (y2.1<1)) (R BEV) (aC (decide (3<y2.1)) (R BEV) (aC (decide (y2.2.2=y2.2.1)) (AIG R) (aJ d4 (gL [T.ref [T.ref (g9 a0), T.mp (bL m1),T.mp (bL m2),T.mp (bL m3), T.mp (bL m4)], T.v (.string y2.2.1)]) fun (y10:Bool)=>aC (!y10) (m7 R) (aC (decide (y2.1=1)) (aC (!decide (y2.2.2 = {data:=#[]})) (aJ d4 (gL (t8 a0 m1 m2 m3 m4 y2)) fun (y11:Bool)=>aC (!y11) (m7 R) (aC (decide (y2.1=2)) (aJ d4 (gL [T.ref [T.ref (f5 a0), T.mp (bL m1),T.mp (bL m2), T.mp (bL m3),T.mp (bL m4)], T.v (.string y2.2.2)]) fun (y12:Bool)=>aC (!y12) (m7 R) (BFA y2 R X0 s1)) (BFA y2 R X0 s1))) (aC (decide (y2.1=2)) (aJ d4 (gL (t8 a0 m1 m2 m3 m4 y2)) fun (y13:Bool)=>aC (!y13) (m7 R) (BFA y2 R X0 s1)) (BFA y2 R X0 s1))) (aC (decide (y2.1=2)) (aJ d4 (gL (t8 a0 m1 m2 m3 m4 y2)) fun (y14:Bool)=>aC (!y14) (m7 R) (BFA y2 R X0 s1)) (BFA y2 R X0 s1))))))) fun (i3:Nat) (y4:Int)=>aC (decide (y2.1<1)) (R BEV) (aC (decide (3<y2.1)) (R BEV) (aC (decide (y2.2.2=y2.2.1)) (AIG R) (aJ d4 (gL [T.ref [T.ref (g9 a0), T.mp (bL m1),T.mp (bL m2),T.mp (bL m3), T.mp (bL m4)], T.v (.string y2.2.1)]) fun (y5:Bool)=>aC (!y5) (m7 R) (aC (decide (y2.1=1)) (aC (!decide (y2.2.2 = {data:=#[]})) (aJ d4 (gL (t8 a0 m1 m2 m3 m4 y2)) fun (y6:Bool)=>aC (!y6) (m7 R) (aC (decide (y2.1=2)) (aJ d4 (gL [T.ref [T.ref (f5 a0), T.mp (bL m1),T.mp (bL m2), T.mp (bL m3),T.mp (bL m4)], T.v (.string y2.2.2)]) fun (y7:Bool)=>aC (!y7) (m7 R) (BEZ y2 X0 s1)) (BEZ y2 X0 s1))) (aC (decide (y2.1=2)) (aJ d4 (gL (t8 a0 m1 m2 m3 m4 y2)) fun (y8:Bool)=>aC (!y8) (m7 R) (BEZ y2 X0 s1)) (BEZ y2 X0 s1))) (aC (decide (y2.1=2)) (aJ d4 (gL (t8 a0 m1 m2 m3 m4 y2)) fun (y9:Bool)=>aC (!y9) (m7 R) (BEZ y2 X0 s1)) (BEZ y2 X0 s1))))))) (BE1 R)) (0,())
theorem V9 ( a0 m1 m2 m3 m4 R):dW bW Tryz.prog I6 WI 8 85 (pC a0 m1 m2 m3 m4) R=JD a0 m1 m2 m3 m4 R:=by kernel_rfl
theorem RI (x y:aB×MP×MP×MP×MP) (h:pC x.1 x.2.1 x.2.2.1 x.2.2.2.1 x.2.2.2.2=pC y.1 y.2.1 y.2.2.1 y.2.2.2.1 y.2.2.2.2):x=y:=p8 (List.cons.inj h).1
def FQ (x:aB×MP×MP×MP×MP):Option T:=u5 x (T.v (Value.int .i64 (cE (zP x.1) x.1.2.2.2.2.2)))
noncomputable def v8:List T→Option (T):=gA (fun (x:aB×List aD×List aD×List aD×List aD)=>pC x.1 x.2.1 x.2.2.1 x.2.2.2.1 x.2.2.2.2) FQ
theorem YB (a0:aB) (m1:List aD) (m2:List aD) (m3:List aD) (m4:List aD):v8 (pC a0 m1 m2 m3 m4)=FQ (a0,m1,m2,m3,m4):=fA (A:=(fun (x:aB×List aD×List aD×List aD×List aD)=>pC x.1 x.2.1 x.2.2.1 x.2.2.2.1 x.2.2.2.2)) RI (a0,m1,m2,m3,m4)
theorem ANX (h:∀ (a0:aB) (m1:List aD) (m2:List aD) (m3:List aD) (m4:List aD) (r:T),FQ (a0,m1,m2,m3,m4)=some r→(∀ t∈pC a0 m1 m2 m3 m4,Bd t)→JD a0 m1 m2 m3 m4 (fun y=>y=r)):aO Tryz.prog 85 v8 :=
 cP (E:=I6) (Hs:=WI) ABR aU aY (aN rfl) 8 ⟨_,_,Tryz.func85,rfl⟩ fun x r h1 h2=>by
  rw[V9]
  exact h x.1 x.2.1 x.2.2.1 x.2.2.2.1 x.2.2.2.2 r h1 h2
theorem AL5:aO Tryz.prog 85 v8:=ANX fun d m1 m2 m3 m4 r h hb=>by
 obtain ⟨hx,hs,rfl⟩:=nU h
 simp only[Prod.mk.injEq,true_and] at hx
 obtain ⟨rfl,rfl,rfl,rfl⟩:=hx
 replace hs:mR d:=hs
 clear h
 unfold JD BFA BEZ BE1 t8 g9 f8 BEV AIG m7 f5 GT FS t6 m9 i8 d4 bF
 refine pM (r:=aS) (zP d) hs.r (fun X s y hy hok hbad=>?_) fun h0=>?_
 ·have bad:∀ {n:Int},n≠0→zP d y=n→T.v (.int .i64 n)=T.v (.int .i64 (cE (zP d) d.2.2.2.2.2)):=fun hn h=>by
   rw[hbad (by rw[h];exact hn),h]
  clear hbad hb
  repeat' first
   | refine ixK (fun hn=>?_) (fun i j hj hn=>?_)
   | rw[mU]
   | refine aG (s:=[(false,.bool)]) (LR hs _) ?_
   | refine lA (fun h=>?_) (fun h=>?_)
   | refine b8 (fun h=>?_) (fun h=>?_)
   | refine gQ (fun h=>?_) (fun h=>?_)
  all_goals first
   | (exfalso;omega)
   | (refine bad (by decide) ?_;clear bad hok;unfold zP;simp[*,partOf,jQ];done)
   | (refine hok ?_;clear bad hok;unfold zP;simp[*,partOf,jQ];done)
   | (refine hok ?_;clear bad hok hs hy;unfold zP;simp_all[partOf,jQ];done)
 ·show _=T.v (.int .i64 (cE (zP d) d.2.2.2.2.2))
  rw[h0]
end Go.Pv
namespace Go.Pv
open Go Go.Proofs
noncomputable def A6I:Env:=Env.of []
def A6V:FuncId→Hint:=bX 287 [(2,.inv [.val 9 false (.int .i64)])] (fun _=>aZ)
theorem AQR:aT Tryz.prog A6I:=.nil _
def ACR(a0:Int)(a1:List aP)(R:T→Prop):Prop:=bA (Int×PUnit) (fun X0 s1=>aC (decide (s1.1<(↑(f9 a1).length:Int))) (aR aA (f9 a1) s1.1 fun (y2:aP)=>aC (decide (y2.1<0)) (t7 R) (aC (decide (a0≤y2.1)) (t7 R) (aC (decide (y2.2<0)) (t7 R) (aC (decide (a0≤y2.2)) (t7 R) (aC (decide (y2.1=y2.2)) (AIG R) (f8 X0 s1)))))) (BE1 R)) (0,())
abbrev AF7:Sh:=[(false,(Sy.int IntKind.i64)),(false,aA.li)]
def KZ (n:Int) (x:aP):Int:=if x.1<0∨n≤x.1∨x.2<0∨n≤x.2 then 9 else if x.1=x.2 then 2 else 0
def IY (x:Int×List aP):Option T:=pW x.2 (T.v (Value.int .i64 (cE (KZ x.1) x.2)))
noncomputable def LO:List T→Option T:=gS AF7 IY
theorem AM2 {a0 a1}:LO [T.v (.int .i64 a0),T.sl false (List.map aA.enc a1)]=IY (a0,a1):=bG (s:=AF7) rfl (a0,a1) rfl
theorem A39:rQ Tryz.prog 287 LO IY (cD AF7) ACR:=gZ (a1:=(false,(Sy.int IntKind.i64))) (a2:=(false,aA.li)) (sp:=IY) (F:=ACR) (Hs:=A6V) (f:=287) (k:=8) AQR aU aY (aN rfl) ⟨_,_,Tryz.func287,rfl⟩ rfl fun _ _ _=>by kernel_rfl
theorem A25:aO Tryz.prog 287 LO:=A39 fun n l r h hb=>by
 obtain ⟨hl,rfl⟩:=jO h
 clear h
 unfold ACR BE1 f9 f8 AIG t7
 refine pM (r:=aA) (KZ n) hl (fun X s y hy hok hbad=>?_) fun h0=>?_
 ·have bad:∀ {m:Int},m≠0→KZ n y=m→T.v (.int .i64 m)=T.v (.int .i64 (cE (KZ n) l)):=fun hn h=>by
   rw[hbad (by rw[h];exact hn),h]
  clear hbad hb
  repeat' first
   | refine lA (fun h=>?_) (fun h=>?_)
   | refine b8 (fun h=>?_) (fun h=>?_)
  all_goals first
   | (exfalso;omega)
   | (refine bad (by decide) ?_;clear bad hok;unfold KZ;first|(rw[if_pos (by omega)];done)|(rw[if_neg (by omega),if_pos (by omega)];done))
   | (refine hok ?_;clear bad hok;unfold KZ;rw[if_neg (by omega),if_neg (by omega)];done)
 ·show _=T.v (.int .i64 (cE (KZ n) l))
  rw[h0]
noncomputable def RT:Env:=Env.of [(287,.pure LO)]
def AHD:FuncId→Hint:=bX 238 [(8,.inv [.arr 0 1 (.int .i64),.val 31 false (.int .i64)]),(14,.inv [.arr 0 1 (.int .i64),.own 10 1 (.int .i64),.arr 2 1 .bool]),(16,.inv [.val 52 false (.int .i64),.fix 0,.fix 2,.fix 3]),(22,.inv [.arr 0 1 (.int .i64),.val 75 false (.int .i64)])] (fun _=>aZ)
theorem AKI:aT Tryz.prog RT:=.cons A25 (.nil _)
def d7:Sh:=[(false,Sy.int IntKind.i64)]
def LE(s14:List Int×List Int×List Bool×PUnit):List (List T):=List.map Sy.bool.enc s14.2.2.1
def ST(s3:List Int×Int×PUnit):List (List T):=List.map bF.enc s3.1
def BEW(s14:List Int×List Int×List Bool×PUnit):List (List T):=List.map bF.enc s14.2.1
def BE9(s14:List Int×List Int×List Bool×PUnit):List (List T):=List.map bF.enc s14.1
def BFB(R:T→Prop):Prop:=bN (T.v (.int .i64 9)).flat (R (T.cA [T.sl false [],T.v (.int .i64 9)]))
def R5(a0:Int)(a1:List aP)(R:T→Prop):Prop:=aC (decide (a0<0)) (BFB R) (aC (decide (256<a0)) (BFB R) (aJ d7 (LO [T.v (.int .i64 a0),T.sl false (f9 a1)]) fun (y0:Int)=>aC (!decide (y0=0)) (bN (T.v (.int .i64 y0)).flat (R (T.cA [T.sl false [],T.v (.int .i64 y0)]))) (bN ((decide (a0=a0)||decide (a0=0))&&decide (0≤a0)&&decide (a0*(↑8:Int)≤140737488355328) && decide (a0≤140737488355328)) (lT bF (List.replicate (Int.toNat a0) [T.v (.int .i64 0)]) fun (y1:List Int)=>bA (List Int×Int×PUnit) (fun X2 s3=>aC (decide (s3.2.1<(↑(f9 a1).length:Int))) (aR aA (f9 a1) s3.2.1 fun (y4:aP)=>aR bF (ST s3) y4.2 fun (y5:Int)=>eU bF (ST s3) (Int.toNat y4.2) 0 fun (y6:Int)=>aR bF (ST s3) y4.2 fun (y7:Int)=>C3 (ST s3) (Int.toNat y4.2) fun (y8:List T)=>bN (decide (1≤y8.length)) (lT bF ((ST s3).set (Int.toNat y4.2) (bU y8 0 [T.v (.int .i64 (IntKind.i64.wrap (y6+1)))])) fun (y9:List Int)=>X2 (y9,IntKind.i64.wrap (s3.2.1+1),()))) (bN ((decide (0=a0)||true)&&decide (0≤a0)&&decide (a0*(↑8:Int)≤140737488355328) && decide (a0≤140737488355328)) (bN ((decide (a0=a0)||decide (a0=0))&&decide (0≤a0) && decide (a0*(↑1:Int)≤140737488355328) && decide (a0≤140737488355328)) (lT bF (ST s3) fun (y10:List Int)=>lT bF [] fun (y11:List Int)=>lT Sy.bool (List.replicate (Int.toNat a0) [T.v (.bool false)]) fun (y12:List Bool)=>bA (List Int×List Int×List Bool×PUnit) (fun X13 s14=>aC (decide ((↑(BEW s14).length:Int)<a0)) (fZ (bC.arr false 1 (BE9 s14)) (bC.arr false 1 (BE9 s14)) (fZ (bC.arr false 1 (LE s14)) (bC.arr false 1 (LE s14)) (fZ (bC.arr false 1 (BEW s14)) (bC.arr false 1 (BEW s14)) (bA (Int×PUnit×PUnit×PUnit×PUnit) (fun X15 s16=>aC (decide (s16.1<a0)) (aR Sy.bool (LE s14) s16.1 fun (y17:Bool)=>eU Sy.bool (LE s14) (Int.toNat s16.1) 0 fun (y18:Bool)=>aC y18 (fZ (bC.arr false 1 (BE9 s14)) (bC.arr false 1 (BE9 s14)) (fZ (bC.arr false 1 (LE s14)) (bC.arr false 1 (LE s14)) (fZ (bC.arr false 1 (BEW s14)) (bC.arr false 1 (BEW s14)) (X15 (IntKind.i64.wrap (s16.1+1),(),(),(),()))))) (aR bF (BE9 s14) s16.1 fun (y19:Int)=>eU bF (BE9 s14) (Int.toNat s16.1) 0 fun (y20:Int)=>aC (decide (0<y20)) (fZ (bC.arr false 1 (BE9 s14)) (bC.arr false 1 (BE9 s14)) (fZ (bC.arr false 1 (LE s14)) (bC.arr false 1 (LE s14)) (fZ (bC.arr false 1 (BEW s14)) (bC.arr false 1 (BEW s14)) (X15 (IntKind.i64.wrap (s16.1+1),(),(),(), ()))))) (aR Sy.bool (LE s14) s16.1 fun (y21:Bool)=>C3 (LE s14) (Int.toNat s16.1) fun (y22:List T)=>bN (decide (1≤y22.length)) (bN (decide (((BEW s14).length + 1) * 8 ≤ 140737488355328) && decide ((BEW s14).length + 1 ≤ 140737488355328)) (lT bF (BE9 s14) fun (y23:List Int)=>bA (List Int×Int×PUnit) (fun X24 s25=>aC (decide (s25.2.1 < (↑(f9 a1).length : Int))) (aR aA (f9 a1) s25.2.1 fun (y26:aP)=>aC (decide (y26.1=s16.1)) (aR bF (ST s25) y26.2 fun (y27:Int)=>eU bF (ST s25) (Int.toNat y26.2) 0 fun (y28:Int)=>aR bF (ST s25) y26.2 fun (y29:Int)=>C3 (ST s25) (Int.toNat y26.2) fun (y30:List T)=>bN (decide (1≤y30.length)) (lT bF ((ST s25).set (Int.toNat y26.2) (bU y30 0 [T.v (.int .i64 (IntKind.i64.wrap (y28-1)))])) fun (y31:List Int)=>X24 (y31, IntKind.i64.wrap (s25.2.1+1), ()))) (lT bF (ST s25) fun (y32:List Int)=>X24 (y32, IntKind.i64.wrap (s25.2.1+1), ()))) (lT bF (ST s25) fun (y33:List Int)=>lT bF (List.map bF.enc s14.2.1 ++ [[T.v (.int .i64 s16.1)]]) fun (y34:List Int)=>lT Sy.bool ((LE s14).set (Int.toNat s16.1) (bU y22 0 [T.v (.bool true)])) fun (y35:List Bool)=>X13 (y33,y34,y35,()))) (y23,0,())))))) (bN (T.v (.int .i64 20)).flat (R (T.cA [T.sl false [], T.v (.int .i64 20)])))) (0,(),(),(),()))))) (bN ((BEW s14).all fun (r:List T)=>r.all T.flat) (bN (T.v (.int .i64 0)).flat (R (T.cA [T.sl false (BEW s14), T.v (.int .i64 0)]))))) (y10,y11,y12,()))))) (y1,0,())))))
theorem ACW ( a0 a1 R):uS bW Tryz.prog RT AHD 8 238 [aI false (Sy.int IntKind.i64) a0,aI false aA.li a1] R=R5 a0 a1 R:=by kernel_rfl
abbrev IU:Sh:=[(false,(Sy.int IntKind.i64)),(false,aA.li)]
abbrev yA:Sh:=[(false,(Sy.int IntKind.i64).li),(false,Sy.int IntKind.i64)]
def ATY (b:List Int) (e:aP):List Int:=b.set e.2.toNat (IntKind.i64.wrap (b.getD e.2.toNat 0+1))
def AT2 (v:Int) (b:List Int) (e:aP):List Int:=if e.1=v then b.set e.2.toNat (IntKind.i64.wrap (b.getD e.2.toNat 0-1)) else b
def GN (b:List Int) (t:List Bool) (k:Nat):Bool:=!t.getD k false&&decide (b.getD k 0≤0)
def A9 (l:List aP) (n:Nat):Nat→List Int→List Int→List Bool→List Int×Int
 | 0,_,o,_=>(o,0)
 | f+1,b,o,t=>match (List.range n).find? (GN b t) with
  | none=>([],20)
  | some v=>A9 l n f (l.foldl (AT2 v) b) (o++[(v:Int)]) (t.set v true)
def lK (n:Int) (l:List aP):List Int×Int :=
 if n<0∨256<n then ([],9) else if cE (KZ n) l=0 then A9 l n.toNat n.toNat (l.foldl ATY (List.replicate n.toNat 0)) [] (List.replicate n.toNat false) else ([],cE (KZ n) l)
theorem XM {α:Type} {f:α→Int}:∀ {l:List α},cE f l=0→∀ a∈l,f a=0
 | [],_,_,h=>by cases h
 | b::l,h,a,ha=>by
  unfold cE at h
  split at h
  ·rename_i hb
   rcases List.mem_cons.1 ha with rfl|ha
   ·exact hb
   ·exact XM h a ha
  ·exact absurd h ‹_›
theorem yB {r:Sy} {l:List r.den} {i:Int} (h0:0≤i) (h:i.toNat<l.length) (K:r.den→Prop):aR r (List.map r.enc l) i K=K l[i.toNat]:=by
 have e:i=((i.toNat:Nat):Int):=by omega
 have:=bH h K
 rw[←e] at this
 exact this
theorem AI7 {l:List Int} {k:Nat} (h:k<l.length) (y:Int):(List.map (Sy.int .i64).enc l).set k (bU ((Sy.int .i64).enc l[k]) 0 [T.v (.int .i64 y)])=List.map (Sy.int .i64).enc (l.set k y):=by
 rw[List.map_set];rfl
theorem AZH {l:List Bool} {k:Nat} (h:k<l.length) (y:Bool):(List.map Sy.bool.enc l).set k (bU (Sy.bool.enc l[k]) 0 [T.v (.bool y)])=List.map Sy.bool.enc (l.set k y):=by
 rw[List.map_set];rfl
theorem x5 {α:Type} {l:List α} {k:Nat} (d:α) (h:k<l.length):l.getD k d=l[k]:=by simp[List.getD,h]
theorem A4T (n:Nat):List.replicate n [T.v (Value.int .i64 0)]=List.map (Sy.int .i64).enc (List.replicate n 0):=by rw[List.map_replicate];rfl
theorem AYL (n:Nat):List.replicate n [T.v (.bool false)]=List.map Sy.bool.enc (List.replicate n false):=by rw[List.map_replicate];rfl
theorem AL3 (l:List Int):((List.map (Sy.int .i64).enc l).all fun (r:List T)=>r.all T.flat)=true:=by
 rw[List.all_map,List.all_eq_true];intro a _;rfl
def NT (x:Int×List aP):Option T:=pW x.2 (Sh.enc yA (lK x.1 x.2))
noncomputable def CF:List T→Option (T):=gS IU NT
theorem AEP {a0 a1}:CF [T.v (.int .i64 a0),T.sl false (List.map aA.enc a1)]=NT (a0,a1):=bG (s:=IU) rfl (a0,a1) rfl
theorem AXR (h:∀ a0 a1 r,NT (a0,a1)=some r→cD IU (a0,a1)→R5 a0 a1 (fun y=>y=r)):j5 Tryz.prog 238 CF :=
 A3X (E:=RT) (Hs:=AHD) AKI aU aY (aN rfl) 8 ⟨_,_,Tryz.func238,rfl⟩ rfl fun x r h1 h2=>by
  obtain ⟨a0,a1⟩:=x
  rw[show Sh.lI IU (a0,a1)=[aI false (Sy.int IntKind.i64) a0,aI false aA.li a1] from rfl,ACW]
  exact h a0 a1 r h1 h2
theorem AUR:j5 Tryz.prog 238 CF:=AXR fun n l r h hb=>by
 obtain ⟨hl,rfl⟩:=jO h
 clear h
 have hl:l.length≤140737488355328:=hl
 unfold R5 BFB BE9 BEW ST LE f9 d7 bF
 refine b8 (fun h=>?_) fun hn0=>?_
 ·refine ⟨rfl,?_⟩
  show _=Sh.enc yA (lK n l)
  rw[lK,if_pos (Or.inl h)];rfl
 refine b8 (fun h=>?_) fun hn1=>?_
 ·refine ⟨rfl,?_⟩
  show _=Sh.enc yA (lK n l)
  rw[lK,if_pos (Or.inr h)];rfl
 refine aG (s:=[(false,.int .i64)]) (y:=cE (KZ n) l) (by rw[AM2];exact jP _ hl) ?_
 refine lA (fun h0=>?_) (fun h0=>?_)
 ·refine ⟨rfl,?_⟩
  show _=Sh.enc yA (lK n l)
  rw[lK,if_neg (by omega),if_neg h0];rfl
 have hv:lK n l=A9 l n.toNat n.toNat (l.foldl ATY (List.replicate n.toNat 0)) [] (List.replicate n.toNat false):=by
  rw[lK,if_neg (by omega),if_pos h0]
 have hend:∀ e∈l,0≤e.1∧e.1<n∧0≤e.2∧e.2<n:=fun e he=>by
  have:=XM h0 e he
  unfold KZ at this
  split at this
  ·exact absurd this (by decide)
  ·omega
 clear h0 hb
 obtain ⟨N,rfl⟩:∃ N:Nat,n=(N:Int):=⟨n.toNat,by omega⟩
 rw[Int.toNat_natCast] at hv ⊢
 refine ⟨by simp;omega,?_⟩
 rw[A4T,dR rfl]
 refine bM l.length (fun k s=>s.2.1=(k:Int)∧s.1.length=N∧(l.drop k).foldl ATY s.1=l.foldl ATY (List.replicate N 0)) ⟨rfl,by simp,rfl⟩ ?_
 rintro X k ⟨b,i,u⟩ hk ⟨rfl,hbl,hbf⟩ hX
 dsimp only at hbl hbf ⊢
 refine b8 (fun hlt=>?_) fun hge=>?_
 ·rw[List.length_map] at hlt
  have hlt:k<l.length:=by omega
  rw[bH hlt]
  obtain ⟨-,-,e0,e1⟩:=hend _ (List.getElem_mem hlt)
  have hj:(l[k].2).toNat<b.length:=by omega
  rw[yB e0 hj,iC hj,yB e0 hj,oY hj]
  refine ⟨rfl,?_⟩
  rw[AI7 hj,dR rfl]
  refine hX _ hlt ⟨?_,?_,?_⟩
  ·show IntKind.i64.wrap ((k:Int)+1)=_
   rw[bD]<;>omega
  ·show (List.set _ _ _).length=N
   rw[List.length_set];exact hbl
  ·rw[List.drop_eq_getElem_cons hlt,List.foldl_cons] at hbf
   rw[←hbf]
   congr 1
   unfold ATY
   rw[x5 (l:=b) 0 hj]
 rw[List.length_map] at hge
 have hkl:k=l.length:=by omega
 subst hkl
 rw[List.drop_length,List.foldl_nil] at hbf
 rw[←hbf] at hv
 refine ⟨by simp;omega,⟨by simp;omega,?_⟩⟩
 rw[dR rfl,AT3,AYL,dR rfl]
 clear hX hge hbf
 refine bM N (fun k s=>s.1.length=N∧s.2.1.length=k∧s.2.2.1.length=N∧A9 l N (N-k) s.1 s.2.1 s.2.2.1=lK N l) ⟨hbl,rfl,by simp,by rw[hv];rfl⟩ ?_
 clear hv hbl b u
 rintro X k ⟨b,o,t,u⟩ hk ⟨hbl,hol,htl,hr⟩ hX
 dsimp only at hbl hol htl hr ⊢
 refine b8 (fun hlt=>?_) fun hge=>?_
 ·rw[List.length_map,hol] at hlt
  have hlt:k<N:=by omega
  rw[cZ,cZ,cZ]
  obtain ⟨m,hm⟩:∃ m,N-k=m+1:=⟨N-k-1,by omega⟩
  rw[hm,A9] at hr
  refine bM N (fun j s=>s.1=(j:Int)∧(List.range N).find? (GN b t)=(List.range' j (N-j)).find? (GN b t)) ⟨rfl,by rw[List.range_eq_range'];rfl⟩ ?_
  rintro Y j ⟨i,u1,u2,u3,u4⟩ hj ⟨rfl,hf⟩ hY
  dsimp only at hf ⊢
  refine b8 (fun hjn=>?_) fun hjn=>?_
  ·have hjn:j<N:=by omega
   have hjb:j<b.length:=by omega
   have hjt:j<t.length:=by omega
   obtain ⟨q,hq⟩:∃ q,N-j=q+1:=⟨N-j-1,by omega⟩
   rw[hq,List.range'_succ,List.find?_cons] at hf
   have next:GN b t j=false→Y (IntKind.i64.wrap ((j:Int)+1),(),(),(),()):=fun h=>by
    refine hY _ hjn ⟨?_,?_⟩
    ·show IntKind.i64.wrap ((j:Int)+1)=_
     rw[bD]<;>omega
    ·rw[hf,h]
     rw[show N-(j+1)=q by omega]
   simp only[Int.toNat_natCast]
   rw[bH hjt,iC hjt]
   refine uV (fun ht=>?_) fun ht=>?_
   ·rw[cZ,cZ,cZ]
    exact next (by rw[GN,x5 (l:=t) false hjt,ht];rfl)
   rw[bH hjb,iC hjb]
   refine b8 (fun hp=>?_) fun hp=>?_
   ·rw[cZ,cZ,cZ]
    exact next (by rw[GN,x5 (l:=b) 0 hjb,decide_eq_false (by omega),Bool.and_false])
   have hfree:GN b t j=true:=by rw[GN,x5 (l:=b) 0 hjb,x5 (l:=t) false hjt,ht,decide_eq_true (by omega)];rfl
   rw[hfree] at hf
   rw[hf] at hr
   dsimp only at hr
   clear next hY hf
   rw[bH hjt,oY hjt]
   refine ⟨rfl,⟨by simp;omega,?_⟩⟩
   rw[dR rfl]
   refine bM l.length (fun k s=>s.2.1=(k:Int)∧s.1.length=N∧(l.drop k).foldl (AT2 j) s.1=l.foldl (AT2 j) b) ⟨rfl,hbl,rfl⟩ ?_
   rintro Z i ⟨c,i',u⟩ hi ⟨rfl,hcl,hcf⟩ hZ
   dsimp only at hcl hcf ⊢
   refine b8 (fun hlt=>?_) fun hge=>?_
   ·rw[List.length_map] at hlt
    have hlt:i<l.length:=by omega
    rw[bH hlt]
    obtain ⟨-,-,e0,e1⟩:=hend _ (List.getElem_mem hlt)
    have hjc:(l[i].2).toNat<c.length:=by omega
    rw[List.drop_eq_getElem_cons hlt,List.foldl_cons] at hcf
    have hw:IntKind.i64.wrap ((i:Int)+1)=((i+1:Nat):Int):=by rw[bD]<;>omega
    refine b8 (fun hv=>?_) fun hv=>?_
    ·rw[yB e0 hjc,iC hjc,yB e0 hjc,oY hjc]
     refine ⟨rfl,?_⟩
     rw[AI7 hjc,dR rfl]
     refine hZ _ hlt ⟨hw,?_,?_⟩
     ·show (List.set _ _ _).length=N
      rw[List.length_set];exact hcl
     ·rw[←hcf]
      congr 1
      unfold AT2
      rw[if_pos hv,x5 (l:=c) 0 hjc]
    ·rw[dR rfl]
     refine hZ _ hlt ⟨hw,hcl,?_⟩
     rw[←hcf]
     congr 1
     unfold AT2
     rw[if_neg hv]
   ·rw[List.length_map] at hge
    have hil:i=l.length:=by omega
    subst hil
    rw[List.drop_length,List.foldl_nil] at hcf
    rw[dR rfl,D8 (r:=.int .i64) rfl o [T.v (.int .i64 (j:Int))] (j:Int) rfl,AZH hjt,dR rfl]
    refine hX _ hlt ⟨hcl,by simp[hol],by simp[htl],?_⟩
    rw[show N-(k+1)=m by omega]
    show A9 l N m c (o++[(j:Int)]) (t.set j true)=_
    rw[hcf];exact hr
  ·have hjn:j=N:=by omega
   subst hjn
   rw[Nat.sub_self] at hf
   rw[show (List.range' j 0)=[] from rfl,List.find?_nil] at hf
   rw[hf] at hr
   refine ⟨rfl,?_⟩
   show _=Sh.enc yA (lK (j:Int) l)
   rw[←hr];rfl
 ·rw[List.length_map,hol] at hge
  have hkN:k=N:=by omega
  subst hkN
  rw[Nat.sub_self,A9] at hr
  refine ⟨AL3 o,rfl,?_⟩
  show _=Sh.enc yA (lK (k:Int) l)
  rw[←hr];rfl
end Go.Pv
namespace Go.Pv
open Go Go.Proofs
def vJ (a0:List ByteArray):List T:=[T.sl false (List.map Sy.str.enc a0)]
noncomputable def ABQ:Env:=Env.of []
def ATA:FuncId→Hint:=fun _=>aZ
theorem AQ1:aT Tryz.prog ABQ:=.nil _
def AC3(a0:List ByteArray)(R:T→Prop):Prop:=R (T.fn 286 [] [T.ref [T.sl false (H1 a0)]])
theorem AKY ( a0 R):dW bW Tryz.prog ABQ ATA 8 237 (vJ a0) R=AC3 a0 R:=by kernel_rfl
def VI (l:List ByteArray):Option T:=some (T.fn 286 [] [T.ref [T.sl false (List.map Sy.str.enc l)]])
theorem ABD (x y:List ByteArray) (h:vJ x=vJ y):x=y:=by
 unfold vJ at h
 have h:=(T.sl.injEq .. ▸ (List.cons.inj h).1)
 exact map_inj (Sy.dH .str) h.2
noncomputable def ES:List T→Option (T):=gA (fun (x:List ByteArray)=>vJ x) VI
theorem QA (a0:List ByteArray):ES (vJ a0)=VI a0:=fA (A:=(fun (x:List ByteArray)=>vJ x)) ABD a0
theorem A4J (h:∀ (a0:List ByteArray) (r:T),VI a0=some r→(∀ t∈vJ a0,Bd t)→AC3 a0 (fun y=>y=r)):aO Tryz.prog 237 ES :=
 cP (E:=ABQ) (Hs:=ATA) AQ1 aU aY (aN rfl) 8 ⟨_,_,Tryz.func237,rfl⟩ fun x r h1 h2=>by
  rw[AKY]
  exact h x r h1 h2
theorem A3B:aO Tryz.prog 237 ES:=A4J fun l r h hb=>by
 cases h
 unfold AC3 H1
 rfl
end Go.Pv
namespace Go.Pv
abbrev Pt:=Int×Int
def dL (a b c:Pt):Int:=(b.1-a.1)*(c.2-a.2)-(b.2-a.2)*(c.1-a.1)
def N5 (n:Int):Int:=if n<0 then -1 else if 0<n then 1 else 0
def btw (a b q:Pt):Bool:=decide (min a.1 b.1≤q.1)&&decide (q.1≤max a.1 b.1)&&(decide (min a.2 b.2≤q.2)&&decide (q.2≤max a.2 b.2))
def T7 (a b q:Pt):Bool:=decide (dL a b q=0)&&btw a b q
def mE (a b c d:Pt):Bool:=T7 a b c||T7 a b d||T7 c d a||T7 c d b||(decide (N5 (dL a b c)*N5 (dL a b d)<0)&&decide (N5 (dL c d a)*N5 (dL c d b)<0))
def dF (q:Pt):Prop:=-32768≤q.1∧q.1≤32768∧-32768≤q.2∧q.2≤32768
theorem A8 {x y M N:Int} (hx:-M≤x∧x≤M) (hy:-N≤y∧y≤N) (hM:0≤M) (hN:0≤N):-(M*N)≤x*y∧x*y≤M*N:=by
 have h1:x.natAbs≤M.toNat:=by omega
 have h2:y.natAbs≤N.toNat:=by omega
 have h3:=Nat.mul_le_mul h1 h2
 rw[←Int.natAbs_mul] at h3
 have h4:((M.toNat*N.toNat:Nat):Int)=M*N:=by
  rw[Int.natCast_mul,Int.toNat_of_nonneg hM,Int.toNat_of_nonneg hN]
 omega
theorem AT0 {a b c:Pt} (ha:dF a) (hb:dF b) (hc:dF c):(-4294967296≤(b.1-a.1)*(c.2-a.2)∧(b.1-a.1)*(c.2-a.2)≤4294967296)∧(-4294967296≤(b.2-a.2)*(c.1-a.1)∧(b.2-a.2)*(c.1-a.1)≤4294967296):=by
 unfold dF at ha hb hc
 have h1:=A8 (x:=b.1-a.1) (y:=c.2-a.2) (M:=65536) (N:=65536) (by omega) (by omega) (by omega) (by omega)
 have h2:=A8 (x:=b.2-a.2) (y:=c.1-a.1) (M:=65536) (N:=65536) (by omega) (by omega) (by omega) (by omega)
 constructor<;>constructor<;>omega
theorem AZI (n:Int):-1≤N5 n∧N5 n≤1:=by unfold N5;split<;>(try split)<;>omega
end Go.Pv
namespace Go.Pv
end Go.Pv
namespace Go.Pv
def hit (a b q:Pt):Bool:=(decide (a.2≤q.2)&&decide (q.2<b.2)&&decide (0<dL a b q))||(decide (b.2≤q.2)&&decide (q.2<a.2)&&decide (dL a b q<0))
def dr (u v w:Pt):Bool:=decide (u.2<w.2)&&decide (w.2≤v.2)&&decide (dL u v w<0)
theorem KT (a b q:Pt):dL b a q = - dL a b q:=by simp only[dL];grind
theorem A9B {a b q:Pt} (h:dL a b q=0) (hab:a.2<b.2) (h1:a.2≤q.2) (h2:q.2≤b.2):btw a b q=true:=by
 have e:(b.1-a.1)*(q.2-a.2)=(b.2-a.2)*(q.1-a.1):=by unfold dL at h;omega
 have hx:min a.1 b.1≤q.1∧q.1≤max a.1 b.1:=by
  rcases Int.le_total a.1 b.1 with hd|hd
  ·have m1:=Int.mul_nonneg (show 0≤b.1-a.1 by omega) (show 0≤q.2-a.2 by omega)
   have m2:(b.1-a.1)*(q.2-a.2)≤(b.1-a.1)*(b.2-a.2):=Int.mul_le_mul_of_nonneg_left (by omega) (by omega)
   have p1:0≤q.1-a.1:=by
    refine Int.not_lt.1 fun h=>?_
    have:=Int.mul_neg_of_pos_of_neg (show 0<b.2-a.2 by omega) h
    omega
   have p2:q.1-a.1≤b.1-a.1:=by
    refine Int.not_lt.1 fun h=>?_
    have h3:=Int.mul_lt_mul_of_pos_left h (show 0<b.2-a.2 by omega)
    have h4:(b.2-a.2)*(b.1-a.1)=(b.1-a.1)*(b.2-a.2):=Int.mul_comm _ _
    omega
   omega
  ·have m1:=Int.mul_nonneg (show 0≤a.1-b.1 by omega) (show 0≤q.2-a.2 by omega)
   have m2:(a.1-b.1)*(q.2-a.2)≤(a.1-b.1)*(b.2-a.2):=Int.mul_le_mul_of_nonneg_left (by omega) (by omega)
   have e1:(a.1-b.1)*(q.2-a.2) = - ((b.1-a.1)*(q.2-a.2)):=by grind
   have p1:q.1-a.1≤0:=by
    refine Int.not_lt.1 fun h=>?_
    have:=Int.mul_pos (show 0<b.2-a.2 by omega) h
    omega
   have p2:b.1-a.1≤q.1-a.1:=by
    refine Int.not_lt.1 fun h=>?_
    have h3:=Int.mul_lt_mul_of_pos_left h (show 0<b.2-a.2 by omega)
    have h4:(a.1-b.1)*(b.2-a.2) = - ((b.2-a.2)*(b.1-a.1)):=by grind
    omega
   omega
 simp only[btw,Bool.and_eq_true,decide_eq_true_eq]
 omega
theorem A4M {a b q:Pt} (h:dL a b q=0) (hab:a.2<b.2) (h1:a.2≤q.2) (h2:q.2≤b.2):T7 a b q=true:=by
 unfold T7;rw[decide_eq_true h,A9B h hab h1 h2];rfl
end Go.Pv
namespace Go.Pv
end Go.Pv
namespace Go.Pv
theorem ATP (a b q:Pt):btw b a q=btw a b q:=by unfold btw;rw[Int.min_comm b.1,Int.max_comm b.1,Int.min_comm b.2,Int.max_comm b.2]
theorem A4L (a b q:Pt):T7 b a q=T7 a b q:=by
 unfold T7;rw[ATP,KT a b q]
 congr 1
 exact decide_eq_decide.2 (by omega)
def AZW:Nat→(Nat→Bool)→Bool
 | 0,_=>false
 | n+1,f=>AZW n f ^^ f n
def pt (p:List Pt) (i:Nat):Pt:=p.getD i (0,0)
def nx (p:List Pt) (i:Nat):Pt:=pt p ((i+1) % p.length)
def A3I (p:List Pt) (q:Pt):Bool:=AZW p.length fun i=>hit (pt p i) (nx p i) q
end Go.Pv
namespace Go.Pv
open Go Go.Proofs
instance BEG (q:Pt):Decidable (dF q):=by unfold dF;infer_instance
theorem iT {a b:Bool} (h:a=b):T.v (.bool a)=T.v (.bool b):=by rw[h]
theorem HK {a b:Int} (h:a=b):T.v (.int .i64 a)=T.v (.int .i64 b):=by rw[h]
def ME {α:Type} (a b c:Pt) (r:α):Option α:=match decide (dF a∧dF b∧dF c) with
 | true=>some r
 | false=>none
theorem MF {α:Type} {a b c:Pt} {t r:α} (h:ME a b c t=some r):dF a∧dF b∧dF c∧r=t:=by
 unfold ME at h;split at h
 ·rename_i hc
  cases h
  obtain ⟨h1,h2,h3⟩:=of_decide_eq_true hc
  exact ⟨h1,h2,h3,rfl⟩
 ·cases h
theorem MG {α:Type} {a b c:Pt} (t:α) (ha:dF a) (hb:dF b) (hc:dF c):ME a b c t=some t:=by unfold ME;rw[decide_eq_true ⟨ha,hb,hc⟩]
theorem N3 {a b c:Pt} (ha:dF a) (hb:dF b) (hc:dF c):IntKind.i64.wrap (IntKind.i64.wrap (IntKind.i64.wrap (b.1-a.1)*IntKind.i64.wrap (c.2-a.2))-IntKind.i64.wrap (IntKind.i64.wrap (b.2-a.2)*IntKind.i64.wrap (c.1-a.1)))=dL a b c:=by
 have h:=AT0 ha hb hc
 unfold dF at ha hb hc
 rw[bD (b.1-a.1) (by omega) (by omega),bD (c.2-a.2) (by omega) (by omega),bD (b.2-a.2) (by omega) (by omega),bD (c.1-a.1) (by omega) (by omega),
  bD ((b.1-a.1)*(c.2-a.2)) (by omega) (by omega),bD ((b.2-a.2)*(c.1-a.1)) (by omega) (by omega),bD _ (by omega) (by omega)]
 rfl
theorem DO (m n:Int):IntKind.i64.wrap (N5 m*N5 n)=N5 m*N5 n:=by
 have h:=A8 (AZI m) (AZI n) (by omega) (by omega)
 exact bD _ (by omega) (by omega)
theorem T1 (a b:Int):(if b<a then b else a)=min a b:=by omega
theorem TZ (a b:Int):(if a<b then b else a)=max a b:=by omega
noncomputable def AP0:Env:=Env.of []
def ASY:FuncId→Hint:=fun _=>aZ
theorem AB2:aT Tryz.prog AP0:=.nil _
def RK(a1:aP)(a0:aP)(a2:aP):T:=T.v (.int .i64 (IntKind.i64.wrap (IntKind.i64.wrap (IntKind.i64.wrap (a1.1-a0.1)*IntKind.i64.wrap (a2.2-a0.2)) - IntKind.i64.wrap (IntKind.i64.wrap (a1.2-a0.2)*IntKind.i64.wrap (a2.1-a0.1)))))
def JP(a0:aP)(a1:aP)(a2:aP)(R:T→Prop):Prop:=R (RK a1 a0 a2)
abbrev M5:Sh:=[(true,aA),(true,aA),(true,aA)]
def yL (x:aP×aP×aP):Option T:=ME x.1 x.2.1 x.2.2 (T.v (Value.int .i64 (dL x.1 x.2.1 x.2.2)))
noncomputable def fQ:List T→Option T:=gS M5 yL
theorem YS {a0 a1 a2}:fQ [aI true aA a0,aI true aA a1,aI true aA a2]=yL (a0,a1,a2):=bG (s:=M5) rfl (a0,a1,a2) rfl
theorem AN8:Of3 Tryz.prog 341 fQ yL (cD M5) JP:=AFI (a1:=(true,aA)) (a2:=(true,aA)) (a3:=(true,aA)) (sp:=yL) (F:=JP) (Hs:=ASY) (f:=341) (k:=8) AB2 aU aY (aN rfl) ⟨_,_,Tryz.func341,rfl⟩ rfl fun _ _ _ _=>by kernel_rfl
theorem xS:aO Tryz.prog 341 fQ:=AN8 fun a b c r h hb=>by
 obtain ⟨h1,h2,h3,rfl⟩:=MF h
 unfold JP RK
 exact HK (N3 h1 h2 h3)
theorem jN {a b c:Pt} (h1:dF a) (h2:dF b) (h3:dF c):fQ [aI true aA a,aI true aA b,aI true aA c]=some (Sh.enc [(false,.int .i64)] (dL a b c)):=(YS ..).trans (MG _ h1 h2 h3)
noncomputable def AP8:Env:=Env.of []
def AS6:FuncId→Hint:=fun _=>aZ
theorem ACA:aT Tryz.prog AP8:=.nil _
def JX(a0:aP)(a1:aP)(a2:aP)(R:T→Prop):Prop:=R (RK a1 a0 a2)
abbrev ND:Sh:=[(true,aA),(true,aA),(true,aA)]
def yR (x:aP×aP×aP):Option T:=ME x.1 x.2.1 x.2.2 (T.v (Value.int .i64 (dL x.1 x.2.1 x.2.2)))
noncomputable def mC:List T→Option T:=gS ND yR
theorem Y3 {a0 a1 a2}:mC [aI true aA a0,aI true aA a1,aI true aA a2]=yR (a0,a1,a2):=bG (s:=ND) rfl (a0,a1,a2) rfl
theorem AOG:Of3 Tryz.prog 344 mC yR (cD ND) JX:=AFI (a1:=(true,aA)) (a2:=(true,aA)) (a3:=(true,aA)) (sp:=yR) (F:=JX) (Hs:=AS6) (f:=344) (k:=8) ACA aU aY (aN rfl) ⟨_,_,Tryz.func344,rfl⟩ rfl fun _ _ _ _=>by kernel_rfl
theorem AMK:aO Tryz.prog 344 mC:=AOG fun a b c r h hb=>by
 obtain ⟨h1,h2,h3,rfl⟩:=MF h
 unfold JX RK
 exact HK (N3 h1 h2 h3)
theorem qS {a b c:Pt} (h1:dF a) (h2:dF b) (h3:dF c):mC [aI true aA a,aI true aA b,aI true aA c]=some (Sh.enc [(false,.int .i64)] (dL a b c)):=(Y3 ..).trans (MG _ h1 h2 h3)
noncomputable def AZ8:Env:=Env.of []
def A1R:FuncId→Hint:=fun _=>aZ
theorem AKN:aT Tryz.prog AZ8:=.nil _
def SB(a0:Int)(R:T→Prop):Prop:=aC (!decide (a0=a0)) (R (T.v (.int .i64 (-1)))) (aC (decide (a0<0)) (R (T.v (.int .i64 (-1)))) (aC (decide (0<a0)) (R (T.v (.int .i64 1))) (BE1 R)))
abbrev UR:Sh:=[(false,(Sy.int IntKind.i64))]
def DF (n:Int):Option T:=some (T.v (Value.int .i64 (N5 n)))
noncomputable def oS:List T→Option T:=gS UR DF
theorem AEU {a0}:oS [T.v (.int .i64 a0)]=DF (a0):=bG (s:=UR) rfl (a0) rfl
theorem AXW:vF Tryz.prog 352 oS DF (cD UR) SB:=jJ (a1:=(false,(Sy.int IntKind.i64))) (sp:=DF) (F:=SB) (Hs:=A1R) (f:=352) (k:=8) AKN aU aY (aN rfl) ⟨_,_,Tryz.func352,rfl⟩ rfl fun _ _=>by kernel_rfl
theorem tW (n:Int):oS [T.v (.int .i64 n)]=some (Sh.enc [(false,.int .i64)] (N5 n)):=AEU ..
noncomputable def AZ9:Env:=Env.of []
def A1S:FuncId→Hint:=fun _=>aZ
theorem AKO:aT Tryz.prog AZ9:=.nil _
def SC(a0:Int)(R:T→Prop):Prop:=R (T.v (.int .i64 (if 1<if a0 < -1 then -1 else a0 then 1 else if a0 < -1 then -1 else a0)))
abbrev US:Sh:=[(false,(Sy.int IntKind.i64))]
def DG (n:Int):Option T:=some (T.v (Value.int .i64 (N5 n)))
noncomputable def oT:List T→Option T:=gS US DG
theorem AEV {a0}:oT [T.v (.int .i64 a0)]=DG (a0):=bG (s:=US) rfl (a0) rfl
theorem AXX:vF Tryz.prog 343 oT DG (cD US) SC:=jJ (a1:=(false,(Sy.int IntKind.i64))) (sp:=DG) (F:=SC) (Hs:=A1S) (f:=343) (k:=8) AKO aU aY (aN rfl) ⟨_,_,Tryz.func343,rfl⟩ rfl fun _ _=>by kernel_rfl
theorem tX (n:Int):oT [T.v (.int .i64 n)]=some (Sh.enc [(false,.int .i64)] (N5 n)):=AEV ..
theorem AUV:aO Tryz.prog 352 oS:=AXW fun n r h hb=>by
 cases h
 unfold SB BE1
 refine lA (fun h=>absurd rfl h) fun _=>?_
 exact b8 (fun h=>HK (by unfold N5;rw[if_pos h])) fun h=>b8 (fun h2=>HK (by unfold N5;rw[if_neg h,if_pos h2])) fun h2=>HK (by unfold N5;rw[if_neg h,if_neg h2])
theorem AUW:aO Tryz.prog 343 oT:=AXX fun n r h hb=>by
 cases h
 unfold SC
 refine HK ?_
 unfold N5
 omega
noncomputable def AJ8:Env:=Env.of []
def AK6:FuncId→Hint:=fun _=>aZ
theorem V4:aT Tryz.prog AJ8:=.nil _
def WF(a2:aP)(a0:aP)(a1:aP)(R:T→Prop):Prop:=aC (decide (a2.1≤if a0.1<a1.1 then a1.1 else a0.1)) (aC (decide ((if a1.2<a0.2 then a1.2 else a0.2)≤a2.2)) (R (T.v (.bool (decide (a2.2≤if a0.2<a1.2 then a1.2 else a0.2))))) (R d3)) (R d3)
def DV(a0:aP)(a1:aP)(a2:aP)(R:T→Prop):Prop:=aC (decide ((if a1.1<a0.1 then a1.1 else a0.1)≤a2.1)) (WF a2 a0 a1 R) (R d3)
abbrev FI:Sh:=[(true,aA),(true,aA),(true,aA)]
def uO (x:aP×aP×aP):Option T:=some (T.v (.bool (btw x.1 x.2.1 x.2.2)))
noncomputable def sG:List T→Option T:=gS FI uO
theorem TI {a0 a1 a2}:sG [aI true aA a0,aI true aA a1,aI true aA a2]=uO (a0,a1,a2):=bG (s:=FI) rfl (a0,a1,a2) rfl
theorem AFP:Of3 Tryz.prog 353 sG uO (cD FI) DV:=AFI (a1:=(true,aA)) (a2:=(true,aA)) (a3:=(true,aA)) (sp:=uO) (F:=DV) (Hs:=AK6) (f:=353) (k:=8) V4 aU aY (aN rfl) ⟨_,_,Tryz.func353,rfl⟩ rfl fun _ _ _ _=>by kernel_rfl
theorem AEC:aO Tryz.prog 353 sG:=AFP fun a b c r h hb=>by
 cases h
 unfold DV WF d3
 rw[T1,T1,TZ,TZ]
 refine b8 (fun h1=>b8 (fun h2=>b8 (fun h3=>iT ?_) fun h3=>iT ?_) fun h2=>iT ?_) fun h1=>iT ?_
 all_goals simp[btw,h1]
 all_goals simp[h2]
 all_goals simp[h3]
noncomputable def BB1:Env:=Env.of []
def BCM:FuncId→Hint:=fun _=>aZ
theorem A1H:aT Tryz.prog BB1:=.nil _
def ASN(a0:aP)(a1:aP)(a2:aP)(R:T→Prop):Prop:=aC (decide ((if a1.1<a0.1 then a1.1 else a0.1)≤a2.1)) (WF a2 a0 a1 R) (R d3)
abbrev AZE:Sh:=[(true,aA),(true,aA),(true,aA)]
abbrev AI1:Sh:=[(false,Sy.bool)]
theorem AFZ (y:Sh.den AI1) (K:Sh.den AI1→Prop):aJ AI1 (some (Sh.enc AI1 y)) K=K y:=xJ rfl y K
def NU (x:aP×aP×aP):Option T:=some (T.v (.bool (btw x.1 x.2.1 x.2.2)))
noncomputable def eH:List T→Option T:=gS AZE NU
theorem AWF {a0 a1 a2}:eH [aI true aA a0,aI true aA a1,aI true aA a2]=NU (a0,a1,a2):=bG (s:=AZE) rfl (a0,a1,a2) rfl
theorem BAL:Of3 Tryz.prog 345 eH NU (cD AZE) ASN:=AFI (a1:=(true,aA)) (a2:=(true,aA)) (a3:=(true,aA)) (sp:=NU) (F:=ASN) (Hs:=BCM) (f:=345) (k:=8) A1H aU aY (aN rfl) ⟨_,_,Tryz.func345,rfl⟩ rfl fun _ _ _ _=>by kernel_rfl
theorem A8R:aO Tryz.prog 345 eH:=BAL fun a b c r h hb=>by
 cases h
 unfold ASN WF d3
 rw[T1,T1,TZ,TZ]
 refine b8 (fun h1=>b8 (fun h2=>b8 (fun h3=>iT ?_) fun h3=>iT ?_) fun h2=>iT ?_) fun h1=>iT ?_
 all_goals simp[btw,h1]
 all_goals simp[h2]
 all_goals simp[h3]
noncomputable def BB0:Env:=Env.of [(341,.pure fQ),(353,.pure sG)]
def BCL:FuncId→Hint:=fun _=>aZ
theorem A1B:aT Tryz.prog BB0:=.cons xS (.cons AEC (.nil _))
def GE(a0:aP)(a1:aP)(a2:aP):List T:=[aI true aA a0,aI true aA a1,aI true aA a2]
def ASC(a0:aP)(a1:aP)(a2:aP)(R:T→Prop):Prop:=aJ d7 (fQ (GE a0 a1 a2)) fun (y0:Int)=>aC (decide (y0=0)) (aJ d4 (sG (GE a0 a1 a2)) fun (y1:Bool)=>R (T.v (.bool y1))) (R d3)
abbrev AZD:Sh:=[(true,aA),(true,aA),(true,aA)]
def VH (x:aP×aP×aP):Option T:=ME x.1 x.2.1 x.2.2 (T.v (.bool (T7 x.1 x.2.1 x.2.2)))
noncomputable def wH:List T→Option T:=gS AZD VH
theorem AV8 {a0 a1 a2}:wH [aI true aA a0,aI true aA a1,aI true aA a2]=VH (a0,a1,a2):=bG (s:=AZD) rfl (a0,a1,a2) rfl
theorem BAF:Of3 Tryz.prog 346 wH VH (cD AZD) ASC:=AFI (a1:=(true,aA)) (a2:=(true,aA)) (a3:=(true,aA)) (sp:=VH) (F:=ASC) (Hs:=BCL) (f:=346) (k:=8) A1B aU aY (aN rfl) ⟨_,_,Tryz.func346,rfl⟩ rfl fun _ _ _ _=>by kernel_rfl
theorem AUU:aO Tryz.prog 346 wH:=BAF fun a b c r h hb=>by
 obtain ⟨h1,h2,h3,rfl⟩:=MF h
 unfold ASC GE d7 d4 d3
 refine aG (s:=[(false,.int .i64)]) (jN h1 h2 h3) ?_
 refine b8 (fun h=>?_) fun h=>iT (by unfold T7;rw[decide_eq_false h];rfl)
 refine aG (s:=[(false,.bool)]) (y:=btw a b c) (TI ..) ?_
 exact iT (by unfold T7;rw[decide_eq_true h];rfl)
theorem wI {a b c:Pt} (h1:dF a) (h2:dF b) (h3:dF c):wH [aI true aA a,aI true aA b,aI true aA c]=some (Sh.enc [(false,.bool)] (T7 a b c)):=(AV8 ..).trans (MG _ h1 h2 h3)
def QM {α:Type} (a b c d:Pt) (r:α):Option α:=match decide (dF a∧dF b∧dF c∧dF d) with
 | true=>some r
 | false=>none
theorem Z0 {α:Type} {a b c d:Pt} {t r:α} (h:QM a b c d t=some r):dF a∧dF b∧dF c∧dF d∧r=t:=by
 unfold QM at h;split at h
 ·rename_i hc
  cases h
  obtain ⟨h1,h2,h3,h4⟩:=of_decide_eq_true hc
  exact ⟨h1,h2,h3,h4,rfl⟩
 ·cases h
theorem Z1 {α:Type} {a b c d:Pt} (t:α) (ha:dF a) (hb:dF b) (hc:dF c) (hd:dF d):QM a b c d t=some t:=by unfold QM;rw[decide_eq_true ⟨ha,hb,hc,hd⟩]
noncomputable def AZ7:Env:=Env.of [(341,.pure fQ),(346,.pure wH),(352,.pure oS)]
def A1Q:FuncId→Hint:=fun _=>aZ
theorem AKM:aT Tryz.prog AZ7:=.cons xS (.cons AUU (.cons AUV (.nil _)))
def m8(a0:aP)(a1:aP)(a3:aP):List T:=[aI true aA a0,aI true aA a1, aI true aA a3]
def BE5(y4:Int):List T:=[T.v (.int .i64 y4)]
def SA(a0:aP)(a1:aP)(a2:aP)(a3:aP)(R:T→Prop):Prop:=aJ d4 (wH (GE a0 a1 a2)) fun (y0:Bool)=>aC y0 (R d6) (aJ d4 (wH (GE a0 a1 a3)) fun (y1:Bool)=>aC y1 (R d6) (aJ d4 (wH (GE a2 a3 a0)) fun (y2:Bool)=>aC y2 (R d6) (aJ d4 (wH (GE a2 a3 a1)) fun (y3:Bool)=>aC y3 (R d6) (aJ d7 (fQ (GE a0 a1 a2)) fun (y4:Int)=>aJ d7 (oS (BE5 y4)) fun (y5:Int)=>aJ d7 (fQ (m8 a0 a1 a3)) fun (y6:Int)=>aJ d7 (oS (BE5 y6)) fun (y7:Int)=>aC (decide (IntKind.i64.wrap (y5*y7)<0)) (aJ d7 (fQ (m8 a2 a3 a0)) fun (y8:Int)=>aJ d7 (oS (BE5 y8)) fun (y9:Int)=>aJ d7 (fQ (m8 a2 a3 a1)) fun (y10:Int)=>aJ d7 (oS (BE5 y10)) fun (y11:Int)=>R (T.v (.bool (decide (IntKind.i64.wrap (y9*y11)<0))))) (R d3)))))
abbrev UQ:Sh:=[(true,aA),(true,aA),(true,aA),(true,aA)]
def DE (x:aP×aP×aP×aP):Option T:=QM x.1 x.2.1 x.2.2.1 x.2.2.2 (T.v (.bool (mE x.1 x.2.1 x.2.2.1 x.2.2.2)))
noncomputable def qR:List T→Option T:=gS UQ DE
theorem AES {a0 a1 a2 a3}:qR [aI true aA a0,aI true aA a1,aI true aA a2,
 aI true aA a3]=DE (a0,a1,a2,a3):=bG (s:=UQ) rfl (a0,a1,a2,a3) rfl
theorem AXV:Of4 Tryz.prog 342 qR DE (cD UQ) SA:=BDT (a1:=(true,aA)) (a2:=(true,aA)) (a3:=(true,aA)) (a4:=(true,aA)) (sp:=DE) (F:=SA) (Hs:=A1Q) (f:=342) (k:=8) AKM aU aY (aN rfl) ⟨_,_,Tryz.func342,rfl⟩ rfl fun _ _ _ _ _=>by kernel_rfl
theorem AUT:aO Tryz.prog 342 qR:=AXV fun a b c d r h hb=>by
 obtain ⟨h1,h2,h3,h4,rfl⟩:=Z0 h
 unfold SA BE5 GE m8 d7 d6 d4 d3
 refine aG (s:=[(false,.bool)]) (wI h1 h2 h3) ?_
 refine uV (fun h=>iT (by unfold mE;rw[h];rfl)) fun k1=>?_
 refine aG (s:=[(false,.bool)]) (wI h1 h2 h4) ?_
 refine uV (fun h=>iT (by unfold mE;rw[h,k1];rfl)) fun k2=>?_
 refine aG (s:=[(false,.bool)]) (wI h3 h4 h1) ?_
 refine uV (fun h=>iT (by unfold mE;rw[h,k1,k2];rfl)) fun k3=>?_
 refine aG (s:=[(false,.bool)]) (wI h3 h4 h2) ?_
 refine uV (fun h=>iT (by unfold mE;rw[h,k1,k2,k3];rfl)) fun k4=>?_
 refine aG (s:=[(false,.int .i64)]) (jN h1 h2 h3) ?_
 refine aG (s:=[(false,.int .i64)]) (tW _) ?_
 refine aG (s:=[(false,.int .i64)]) (jN h1 h2 h4) ?_
 refine aG (s:=[(false,.int .i64)]) (tW _) ?_
 rw[DO]
 refine b8 (fun h=>?_) fun h=>iT (by unfold mE;rw[k1,k2,k3,k4,decide_eq_false h];rfl)
 refine aG (s:=[(false,.int .i64)]) (jN h3 h4 h1) ?_
 refine aG (s:=[(false,.int .i64)]) (tW _) ?_
 refine aG (s:=[(false,.int .i64)]) (jN h3 h4 h2) ?_
 refine aG (s:=[(false,.int .i64)]) (tW _) ?_
 rw[DO]
 exact iT (by unfold mE;rw[k1,k2,k3,k4,decide_eq_true h];rfl)
theorem AET {a b c d:Pt} (h1:dF a) (h2:dF b) (h3:dF c) (h4:dF d):qR [aI true aA a,aI true aA b,aI true aA c,aI true aA d]=some (Sh.enc [(false,.bool)] (mE a b c d)):=(AES ..).trans (Z1 _ h1 h2 h3 h4)
noncomputable def A6M:Env:=Env.of []
def A6Z:FuncId→Hint:=fun _=>aZ
theorem AQW:aT Tryz.prog A6M:=.nil _
def ACY(a0:aP)(R:T→Prop):Prop:=aC (decide (a0.1 < -32768)) (R d6) (aC (decide (32768<a0.1)) (R d6) (aC (decide (a0.2 < -32768)) (R d6) (R (T.v (.bool (decide (32768<a0.2)))))))
abbrev AGB:Sh:=[(true,aA)]
def I0 (q:aP):Option T:=some (T.v (.bool (!decide (dF q))))
noncomputable def AZ:List T→Option T:=gS AGB I0
theorem PY {a0}:AZ [aI true aA a0]=I0 (a0):=bG (s:=AGB) rfl (a0) rfl
theorem A4E:vF Tryz.prog 323 AZ I0 (cD AGB) ACY:=jJ (a1:=(true,aA)) (sp:=I0) (F:=ACY) (Hs:=A6Z) (f:=323) (k:=8) AQW aU aY (aN rfl) ⟨_,_,Tryz.func323,rfl⟩ rfl fun _ _=>by kernel_rfl
theorem AH3:aO Tryz.prog 323 AZ:=A4E fun q r h hb=>by
 cases h
 unfold ACY d6
 have no:¬ dF q→true = !decide (dF q):=fun h=>by rw[decide_eq_false h];rfl
 refine b8 (fun h=>iT (no (by unfold dF;omega))) fun h1=>b8 (fun h=>iT (no (by unfold dF;omega))) fun h2=>b8 (fun h=>iT (no (by unfold dF;omega))) fun h3=>iT ?_
 by_cases h:dF q
 ·rw[decide_eq_true h,Bool.not_true]
  unfold dF at h
  exact decide_eq_false (by omega)
 ·rw[decide_eq_false h,Bool.not_false]
  unfold dF at h
  exact decide_eq_true (by omega)
theorem AZJ {n:Int}:N5 n=0↔n=0:=by
 unfold N5
 split
 ·omega
 ·split<;>omega
noncomputable def AQE:Env:=Env.of [(344,.pure mC),(343,.pure oT),(345,.pure eH)]
def AS7:FuncId→Hint:=fun _=>aZ
theorem ACC:aT Tryz.prog AQE:=.cons AMK (.cons AUW (.cons A8R (.nil _)))
def PP(y5:Int)(a2:aP)(a3:aP)(a0:aP)(R:T→Prop)(y7:Int)(a1:aP):Prop:=aC (decide (y5=0)) (aJ d4 (eH (m8 a2 a3 a0)) fun (y10:Bool)=>aC y10 (R d6) (aC (decide (y7=0)) (aJ d4 (eH (m8 a2 a3 a1)) fun (y11:Bool)=>R (T.v (.bool y11))) (R d3))) (aC (decide (y7=0)) (aJ d4 (eH (m8 a2 a3 a1)) fun (y12:Bool)=>R (T.v (.bool y12))) (R d3))
def f0(y3:Int)(a0:aP)(a1:aP)(a3:aP)(R:T→Prop)(y5:Int)(a2:aP)(y7:Int):Prop:=aC (decide (y3=0)) (aJ d4 (eH (m8 a0 a1 a3)) fun (y9:Bool)=>aC y9 (R d6) (PP y5 a2 a3 a0 R y7 a1)) (PP y5 a2 a3 a0 R y7 a1)
def JZ(a0:aP)(a1:aP)(a2:aP)(a3:aP)(R:T→Prop):Prop:=aJ d7 (mC (GE a0 a1 a2)) fun (y0:Int)=>aJ d7 (oT (BE5 y0)) fun (y1:Int)=>aJ d7 (mC (GE a0 a1 a3)) fun (y2:Int)=>aJ d7 (oT (BE5 y2)) fun (y3:Int)=>aJ d7 (mC (GE a2 a3 a0)) fun (y4:Int)=>aJ d7 (oT (BE5 y4)) fun (y5:Int)=>aJ d7 (mC (GE a2 a3 a1)) fun (y6:Int)=>aJ d7 (oT (BE5 y6)) fun (y7:Int)=>aC (decide (IntKind.i64.wrap (y1*y3)<0)) (aC (decide (IntKind.i64.wrap (y5*y7)<0)) (R d6) (aC (decide (y1=0)) (aJ d4 (eH (m8 a0 a1 a2)) fun (y8:Bool)=>aC y8 (R d6) (f0 y3 a0 a1 a3 R y5 a2 y7)) (f0 y3 a0 a1 a3 R y5 a2 y7))) (aC (decide (y1=0)) (aJ d4 (eH (m8 a0 a1 a2)) fun (y23:Bool)=>aC y23 (R d6) (f0 y3 a0 a1 a3 R y5 a2 y7)) (f0 y3 a0 a1 a3 R y5 a2 y7))
abbrev NF:Sh:=[(true,aA),(true,aA),(true,aA),(true,aA)]
def yS (x:aP×aP×aP×aP):Option T:=QM x.1 x.2.1 x.2.2.1 x.2.2.2 (T.v (.bool (mE x.1 x.2.1 x.2.2.1 x.2.2.2)))
noncomputable def wL:List T→Option T:=gS NF yS
theorem ZA {a0 a1 a2 a3}:wL [aI true aA a0,aI true aA a1,aI true aA a2,
 aI true aA a3]=yS (a0,a1,a2,a3):=bG (s:=NF) rfl (a0,a1,a2,a3) rfl
theorem AOI:Of4 Tryz.prog 327 wL yS (cD NF) JZ:=BDT (a1:=(true,aA)) (a2:=(true,aA)) (a3:=(true,aA)) (a4:=(true,aA)) (sp:=yS) (F:=JZ) (Hs:=AS7) (f:=327) (k:=8) ACC aU aY (aN rfl) ⟨_,_,Tryz.func327,rfl⟩ rfl fun _ _ _ _ _=>by kernel_rfl
theorem AYT (a b c:Pt) (K:Bool→Prop):aJ [(false,Sy.bool)] (eH [aI true aA a,aI true aA b,aI true aA c]) K=K (btw a b c):=by
 rw[show eH [aI true aA a,aI true aA b,aI true aA c]=NU (a,b,c) from AWF ..]
 exact AFZ _ K
theorem AML:aO Tryz.prog 327 wL:=AOI fun a b c d r h hb=>by
 obtain ⟨h1,h2,h3,h4,rfl⟩:=Z0 h
 unfold JZ BE5 GE f0 PP m8 d7 d6 d4 d3
 refine aG (s:=[(false,.int .i64)]) (qS h1 h2 h3) ?_
 refine aG (s:=[(false,.int .i64)]) (tX _) ?_
 refine aG (s:=[(false,.int .i64)]) (qS h1 h2 h4) ?_
 refine aG (s:=[(false,.int .i64)]) (tX _) ?_
 refine aG (s:=[(false,.int .i64)]) (qS h3 h4 h1) ?_
 refine aG (s:=[(false,.int .i64)]) (tX _) ?_
 refine aG (s:=[(false,.int .i64)]) (qS h3 h4 h2) ?_
 refine aG (s:=[(false,.int .i64)]) (tX _) ?_
 rw[DO,DO]
 have e:∀ {n:Bool},mE a b c d=n→T.v (.bool n)=T.v (.bool (mE a b c d)):=fun h=>by rw[h]
 simp only[AYT]
 unfold mE at e
 unfold T7 at e
 clear h hb
 repeat' first
  | refine b8 (fun h=>?_) (fun h=>?_)
  | refine uV (fun h=>?_) (fun h=>?_)
 all_goals (refine e ?_;clear e;simp only[AZJ] at *;simp[*,show N5 0=0 from rfl])
end Go.Pv
namespace Go.Pv
open Go Go.Proofs
theorem UA {p:List Pt} {i:Nat} (h:i<p.length):pt p i=p[i]:=by unfold pt;rw[List.getD_eq_getElem?_getD,List.getElem?_eq_getElem h];rfl
theorem fC {p:List aP} {k:Nat} (h:k<p.length) (K:aP→Prop):aR aA (List.map aA.enc p) (k:Int) K=K (pt p k):=by
 rw[bH (r:=aA) h,UA h]
theorem uA {i n c:Nat} (hn:n≤1000) (hi:i≤1000) (hc:c≤2):(IntKind.i64.wrap ((i:Int)+(c:Int))).tmod (n:Int)=(((i+c) % n:Nat):Int):=by
 rw[bD _ (by omega) (by omega),Int.tmod_eq_emod_of_nonneg (by omega),Int.natCast_emod,Int.natCast_add]
def ALU (a b c:Pt):Int:=(a.1-b.1)*(c.1-b.1)+(a.2-b.2)*(c.2-b.2)
def OQ (p:List Pt) (i k:Nat):Bool:=!(!decide ((k+1) % p.length=i)&&mE (pt p i) (nx p i) (pt p k) (nx p k))
def nxx (p:List Pt) (i:Nat):Pt:=pt p ((i+2) % p.length)
def AAD (p:List Pt) (i:Nat):Bool:=!decide (pt p i=nx p i)&&(!(decide (dL (pt p i) (nx p i) (nxx p i)=0)&&decide (0<ALU (pt p i) (nx p i) (nxx p i)))&&(List.range p.length).all fun k=>decide (k<i+2)||OQ p i k)
def HA (p:List Pt):Bool:=(List.range p.length).all (AAD p)
def j4 (p:List Pt):Prop:=∀ q∈p,dF q
def MH (p:List Pt):Bool:=p.all fun q=>decide (dF q)
theorem mW {p:List Pt}:MH p=true↔j4 p:=by
 simp only[MH,List.all_eq_true,decide_eq_true_eq];exact Iff.rfl
theorem j4.pt {p:List Pt} (h:j4 p) (i:Nat):dF (pt p i):=by
 rcases Nat.lt_or_ge i p.length with hi|hi
 ·rw[UA hi];exact h _ (List.getElem_mem hi)
 ·unfold Go.Pv.pt
  rw[List.getD_eq_getElem?_getD,List.getElem?_eq_none hi]
  unfold dF;decide
def OP (p:List Pt):Bool:=decide (p.length≤1000)&&MH p
def QU {α:Type} (p:List Pt) (r:α):Option α:=match OP p with
 | true=>some r
 | false=>none
theorem AAG {α:Type} {p:List Pt} {t r:α} (h:QU p t=some r):p.length≤1000∧j4 p∧r=t:=by
 unfold QU at h;split at h
 ·rename_i hc
  simp only[OP,Bool.and_eq_true,decide_eq_true_eq,mW] at hc
  cases h;exact ⟨hc.1,hc.2,rfl⟩
 ·cases h
theorem AAH {α:Type} {p:List Pt} (t:α) (h:p.length≤1000) (h2:j4 p):QU p t=some t:=by
 unfold QU;rw[show OP p=true by simp only[OP,Bool.and_eq_true,decide_eq_true_eq,mW];exact ⟨h,h2⟩]
theorem AZV {a b c:Pt} (ha:dF a) (hb:dF b) (hc:dF c):IntKind.i64.wrap (IntKind.i64.wrap (IntKind.i64.wrap (a.1-b.1)*IntKind.i64.wrap (c.1-b.1))+IntKind.i64.wrap (IntKind.i64.wrap (a.2-b.2)*IntKind.i64.wrap (c.2-b.2)))=ALU a b c:=by
 unfold dF at ha hb hc
 have h1:=A8 (x:=a.1-b.1) (y:=c.1-b.1) (M:=65536) (N:=65536) (by omega) (by omega) (by omega) (by omega)
 have h2:=A8 (x:=a.2-b.2) (y:=c.2-b.2) (M:=65536) (N:=65536) (by omega) (by omega) (by omega) (by omega)
 rw[bD (a.1-b.1) (by omega) (by omega),bD (c.2-b.2) (by omega) (by omega),bD (a.2-b.2) (by omega) (by omega),bD (c.1-b.1) (by omega) (by omega),
  bD ((a.1-b.1)*(c.1-b.1)) (by omega) (by omega),bD ((a.2-b.2)*(c.2-b.2)) (by omega) (by omega),bD _ (by omega) (by omega)]
 rfl
noncomputable def AJ6:Env:=Env.of [(341,.pure fQ),(342,.pure qR)]
def AK4:FuncId→Hint:=bX 324 [(3,.inv [.val 13 false (.int .i64)]),(12,.inv [.val 8 false (.int .i64)])] (fun _=>aZ)
theorem V2:aT Tryz.prog AJ6:=.cons xS (.cons AUT (.nil _))
def i6(a0:List aP)(s1:Int×PUnit)(y2:aP)(y3:aP)(R:T→Prop)(X0:Int×PUnit→Prop):Prop:=bA (Int×PUnit) (fun X6 s7=>aC (decide (s7.1<(↑(f9 a0).length:Int))) (bN (!decide ((↑(f9 a0).length:Int)=0)) (aC (!decide ((IntKind.i64.wrap (s7.1+1)).tmod (↑(f9 a0).length:Int) = s1.1)) (aR aA (f9 a0) s7.1 fun (y8:aP)=>bN (!decide ((↑(f9 a0).length:Int)=0)) (aR aA (f9 a0) ((IntKind.i64.wrap (s7.1+1)).tmod (↑(f9 a0).length:Int)) fun (y9:aP)=>aJ d4 (qR [aI true aA y2,aI true aA y3, aI true aA y8,aI true aA y9]) fun (y10:Bool)=>aC y10 (R d3) (f8 X6 s7))) (f8 X6 s7))) (f8 X0 s1)) (IntKind.i64.wrap (s1.1+2),())
def DT(a0:List aP)(R:T→Prop):Prop:=bA (Int×PUnit) (fun X0 s1=>aC (decide (s1.1<(↑(f9 a0).length:Int))) (aR aA (f9 a0) s1.1 fun (y2:aP)=>bN (!decide ((↑(f9 a0).length:Int)=0)) (aR aA (f9 a0) ((IntKind.i64.wrap (s1.1+1)).tmod (↑(f9 a0).length:Int)) fun (y3:aP)=>aC (decide (y2.1=y3.1)&&(decide (y2.2=y3.2)&&true)) (R d3) (bN (!decide ((↑(f9 a0).length:Int)=0)) (aR aA (f9 a0) ((IntKind.i64.wrap (s1.1+2)).tmod (↑(f9 a0).length:Int)) fun (y4:aP)=>aJ d7 (fQ (m8 y2 y3 y4)) fun (y5:Int)=>aC (decide (y5=0)) (aC (decide (0 < IntKind.i64.wrap (IntKind.i64.wrap (IntKind.i64.wrap (y2.1-y3.1)*IntKind.i64.wrap (y4.1-y3.1)) + IntKind.i64.wrap (IntKind.i64.wrap (y2.2-y3.2)*IntKind.i64.wrap (y4.2-y3.2))))) (R d3) (i6 a0 s1 y2 y3 R X0)) (i6 a0 s1 y2 y3 R X0))))) (R d6)) (0,())
abbrev FF:Sh:=[(false,aA.li)]
def uM (p:List aP):Option T:=QU p (T.v (.bool (HA p)))
noncomputable def mT:List T→Option T:=gS FF uM
theorem TF {a0}:mT [T.sl false (List.map aA.enc a0)]=uM (a0):=bG (s:=FF) rfl (a0) rfl
theorem AFN:vF Tryz.prog 324 mT uM (cD FF) DT:=jJ (a1:=(false,aA.li)) (sp:=uM) (F:=DT) (Hs:=AK4) (f:=324) (k:=8) V2 aU aY (aN rfl) ⟨_,_,Tryz.func324,rfl⟩ rfl fun _ _=>by kernel_rfl
theorem SN {n:Nat} {f:Nat→Bool} {i:Nat} (hi:i<n) (h:f i=false):(List.range n).all f=false:=by
 rw[Bool.eq_false_iff];intro ha
 have:=o2.1 ha i hi
 rw[h] at this;cases this
theorem AO4 {p:List aP} {i:Nat} (hl:p.length≤1000) (hn:j4 p) (hi:i<p.length) {Bad Good:Prop} (hbad:(List.range p.length).all (fun k=>decide (k<i+2)||OQ p i k)=false→Bad) (hgood:(List.range p.length).all (fun k=>decide (k<i+2)||OQ p i k)=true→Good) :
  bA (Int×PUnit)
   (fun (X6:Int×PUnit→Prop) (s7:Int×PUnit) =>
    aC (decide (s7.1<(↑(List.map aA.enc p).length:Int)))
     (bN (!decide ((↑(List.map aA.enc p).length:Int)=0))
      (aC (!decide ((IntKind.i64.wrap (s7.1+1)).tmod (↑(List.map aA.enc p).length:Int)=(i:Int)))
       (aR aA (List.map aA.enc p) s7.1 fun (y8:aP) =>
        bN (!decide ((↑(List.map aA.enc p).length:Int)=0))
         (aR aA (List.map aA.enc p) ((IntKind.i64.wrap (s7.1+1)).tmod (↑(List.map aA.enc p).length:Int))
          fun (y9:aP) =>
          aJ [(false,Sy.bool)] (qR [aI true aA (pt p i),aI true aA (nx p i),aI true aA y8,aI true aA y9])
           fun (y10:Bool)=>aC y10 Bad (X6 (IntKind.i64.wrap (s7.1+1),()))))
       (X6 (IntKind.i64.wrap (s7.1+1),()))))
     Good)
   (IntKind.i64.wrap ((i:Int)+2),()):=by
 refine bM p.length (fun m s=>s=(((i+2+m:Nat):Int),())∧∀ k,k<i+2+m→k<p.length→(decide (k<i+2)||OQ p i k)=true) ⟨by rw[bD _ (by omega) (by omega)];simp,fun k h1 h2=>by simp at h1;simp[h1]⟩ ?_
 rintro X m s hm ⟨rfl,hJ⟩ hX
 dsimp only
 rw[List.length_map]
 refine b8 (fun hlt=>?_) fun hge=>hgood (o2.2 fun k hk=>hJ k (by omega) hk)
 have hk:i+2+m<p.length:=by omega
 have hne:(!decide ((p.length:Int)=0))=true:=by rw[decide_eq_false (by omega)];rfl
 have hix:(IntKind.i64.wrap (((i+2+m:Nat):Int)+1)).tmod (p.length:Int)=(((i+2+m+1) % p.length:Nat):Int):=uA (c:=1) hl (by omega) (by omega)
 have hw:IntKind.i64.wrap (((i+2+m:Nat):Int)+1)=((i+2+(m+1):Nat):Int):=by rw[bD _ (by omega) (by omega)];omega
 have hmod:(i+2+m+1) % p.length<p.length:=Nat.mod_lt _ (by omega)
 have go:OQ p i (i+2+m)=true→X (((i+2+(m+1):Nat):Int),()):=fun h=>hX _ (by omega) ⟨rfl,fun k h1 h2=>by
  rcases Nat.lt_or_ge k (i+2+m) with h3|h3
  ·exact hJ k h3 h2
  ·have:k=i+2+m:=by omega
   subst this;rw[h];simp⟩
 refine ⟨hne,?_⟩
 rw[hix,hw]
 refine lA (fun h=>?_) fun h=>go (by unfold OQ;rw[decide_eq_true (show (i+2+m+1) % p.length=i by omega)];rfl)
 rw[fC hk,AYM,fC hmod]
 refine ⟨hne,?_⟩
 refine aG (s:=[(false,.bool)]) (AET (hn.pt _) (hn.pt _) (hn.pt _) (hn.pt _)) ?_
 have e:OQ p i (i+2+m) = !mE (pt p i) (nx p i) (pt p (i+2+m)) (nx p (i+2+m)):=by
  unfold OQ;rw[decide_eq_false (show ¬ (i+2+m+1) % p.length=i by omega)];rfl
 refine uV (fun hm=>hbad (SN hk ?_)) fun hm=>go ?_
 ·show (decide (i+2+m<i+2)||OQ p i (i+2+m))=false
  rw[e,show mE (pt p i) (nx p i) (pt p (i+2+m)) (nx p (i+2+m))=true from hm];simp
 ·rw[e,show mE (pt p i) (nx p i) (pt p (i+2+m)) (nx p (i+2+m))=false from hm];rfl
theorem AEB:aO Tryz.prog 324 mT:=AFN fun p r h hb=>by
 obtain ⟨hl,hn,rfl⟩:=AAG h
 clear h
 unfold DT i6 f9 f8 m8 d7 d6 d4 d3
 refine bM p.length (fun k s=>s=((k:Int),())∧∀ i,i<k→i<p.length→AAD p i=true) ⟨rfl,fun i h=>by omega⟩ ?_
 rintro X k s hk ⟨rfl,hJ⟩ hX
 dsimp only
 refine b8 (fun hlt=>?_) fun hge=>iT (Eq.symm (o2.2 fun i hi=>hJ i (by rw[List.length_map] at hge;omega) hi))
 rw[List.length_map] at hlt
 have hlt:k<p.length:=by omega
 have hne:(!decide (((List.map aA.enc p).length:Int)=0))=true:=by rw[List.length_map,decide_eq_false (by omega)];rfl
 have hm1:(k+1) % p.length<p.length:=Nat.mod_lt _ (by omega)
 have hm2:(k+2) % p.length<p.length:=Nat.mod_lt _ (by omega)
 have i1:(IntKind.i64.wrap ((k:Int)+1)).tmod ((List.map aA.enc p).length:Int)=(((k+1) % p.length:Nat):Int):=by rw[List.length_map];exact uA (c:=1) hl (by omega) (by omega)
 have i2:(IntKind.i64.wrap ((k:Int)+2)).tmod ((List.map aA.enc p).length:Int)=(((k+2) % p.length:Nat):Int):=by rw[List.length_map];exact uA (c:=2) hl (by omega) (by omega)
 have bad:AAD p k=false→T.v (.bool false)=T.v (.bool (HA p)):=fun h=>iT (SN hlt h).symm
 have oU:AAD p k=true→X (IntKind.i64.wrap ((k:Int)+1),()):=fun h=>hX _ hlt ⟨by rw[show IntKind.i64.wrap ((k:Int)+1)=((k+1:Nat):Int) from bD _ (by omega) (by omega)],fun i h1 h2=>by
  rcases Nat.lt_or_ge i k with h3|h3
  ·exact hJ i h3 h2
  ·have:i=k:=by omega
   subst this;exact h⟩
 rw[fC hlt,i1]
 refine ⟨hne,?_⟩
 rw[fC hm1]
 have heq:(decide ((pt p k).1=(pt p ((k+1) % p.length)).1)&&(decide ((pt p k).2=(pt p ((k+1) % p.length)).2)&&true))=decide (pt p k=nx p k):=by
  rw[Bool.and_true,←Bool.decide_and]
  exact decide_eq_decide.2 Prod.ext_iff.symm
 rw[heq]
 refine b8 (fun h=>bad (by unfold AAD;rw[decide_eq_true h];rfl)) fun h1=>?_
 refine ⟨hne,?_⟩
 rw[i2,fC hm2]
 refine aG (s:=[(false,.int .i64)]) (jN (hn.pt _) (hn.pt _) (hn.pt _)) ?_
 have inner:(decide (dL (pt p k) (nx p k) (nxx p k)=0)&&decide (0<ALU (pt p k) (nx p k) (nxx p k)))=false→AAD p k=(List.range p.length).all fun j=>decide (j<k+2)||OQ p k j:=fun h=>by
  unfold AAD;rw[decide_eq_false h1,h];simp
 have tail:(decide (dL (pt p k) (nx p k) (nxx p k)=0)&&decide (0<ALU (pt p k) (nx p k) (nxx p k)))=false→_:=fun h=>AO4 (Bad:=T.v (.bool false)=T.v (.bool (HA p))) (Good:=X (IntKind.i64.wrap ((k:Int)+1),())) hl hn hlt (fun h2=>bad (by rw[inner h,h2])) (fun h2=>oU (by rw[inner h,h2]))
 refine b8 (fun h2=>?_) fun h2=>tail (by rw[show decide (dL (pt p k) (nx p k) (nxx p k)=0)=false from decide_eq_false h2];rfl)
 rw[AZV (hn.pt _) (hn.pt _) (hn.pt _)]
 refine b8 (fun h3=>bad ?_) fun h3=>tail (by rw[show decide (0<ALU (pt p k) (nx p k) (nxx p k))=false from decide_eq_false h3];simp)
 unfold AAD
 rw[decide_eq_true (show dL (pt p k) (nx p k) (nxx p k)=0 from h2),decide_eq_true (show 0<ALU (pt p k) (nx p k) (nxx p k) from h3)]
 simp
theorem TG {p:List Pt} (h:p.length≤1000) (h2:j4 p):mT [T.sl false (List.map aA.enc p)]=some (Sh.enc [(false,.bool)] (HA p)):=(TF ..).trans (AAH _ h h2)
def zB:Nat→(Nat→Int)→Int
 | 0,_=>0
 | n+1,f=>zB n f+f n
def AGH (p:List Pt) (i:Nat):Int:=(pt p i).1*(nx p i).2-(nx p i).1*(pt p i).2
def KH (p:List Pt):Int:=zB p.length (AGH p)
theorem AI8 {p:List Pt} (h:j4 p) (i:Nat):(-1073741824≤(pt p i).1*(nx p i).2∧(pt p i).1*(nx p i).2≤1073741824)∧(-1073741824≤(nx p i).1*(pt p i).2∧(nx p i).1*(pt p i).2≤1073741824):=by
 have h1:=h.pt i
 have h2:dF (nx p i):=h.pt _
 unfold dF at h1 h2
 have b1:=A8 (x:=(pt p i).1) (y:=(nx p i).2) (M:=32768) (N:=32768) (by omega) (by omega) (by omega) (by omega)
 have b2:=A8 (x:=(nx p i).1) (y:=(pt p i).2) (M:=32768) (N:=32768) (by omega) (by omega) (by omega) (by omega)
 constructor<;>constructor<;>omega
theorem IK {p:List Pt} (h:j4 p):∀ n:Nat,-(2147483648*(n:Int))≤zB n (AGH p)∧zB n (AGH p)≤2147483648*(n:Int)
 | 0=>by simp[zB]
 | n+1=>by
  have ih:=IK h n
  have hb:=AI8 h n
  unfold zB
  have e:AGH p n=(pt p n).1*(nx p n).2-(nx p n).1*(pt p n).2:=rfl
  constructor<;>push_cast<;>omega
noncomputable def AZ4:Env:=Env.of []
def A1N:FuncId→Hint:=bX 325 [(3,.inv [.val 3 false (.int .i64),.val 9 false (.int .i64)])] (fun _=>aZ)
theorem AKJ:aT Tryz.prog AZ4:=.nil _
def R6(a0:List aP)(R:T→Prop):Prop:=bA (Int×Int×PUnit) (fun X0 s1=>aC (decide (s1.2.1<(↑(f9 a0).length:Int))) (aR aA (f9 a0) s1.2.1 fun (y2:aP)=>bN (!decide ((↑(f9 a0).length:Int)=0)) (aR aA (f9 a0) ((IntKind.i64.wrap (s1.2.1+1)).tmod (↑(f9 a0).length:Int)) fun (y3:aP)=>X0 (IntKind.i64.wrap (s1.1 + IntKind.i64.wrap (IntKind.i64.wrap (y2.1*y3.2)-IntKind.i64.wrap (y3.1*y2.2))), IntKind.i64.wrap (s1.2.1+1),()))) (R (T.v (.int .i64 s1.1)))) (0,0,())
abbrev UN:Sh:=[(false,aA.li)]
def DC (p:List aP):Option T:=QU p (T.v (Value.int .i64 (KH p)))
noncomputable def oP:List T→Option T:=gS UN DC
theorem AEQ {a0}:oP [T.sl false (List.map aA.enc a0)]=DC (a0):=bG (s:=UN) rfl (a0) rfl
theorem AXS:vF Tryz.prog 325 oP DC (cD UN) R6:=jJ (a1:=(false,aA.li)) (sp:=DC) (F:=R6) (Hs:=A1N) (f:=325) (k:=8) AKJ aU aY (aN rfl) ⟨_,_,Tryz.func325,rfl⟩ rfl fun _ _=>by kernel_rfl
theorem XT:aO Tryz.prog 325 oP:=AXS fun p r h hb=>by
 obtain ⟨hl,hn,rfl⟩:=AAG h
 clear h
 unfold R6 f9
 refine bM p.length (fun k s=>s=(zB k (AGH p),(k:Int),())) rfl ?_
 rintro X k s hk rfl hX
 dsimp only
 refine b8 (fun hlt=>?_) fun hge=>HK (by rw[List.length_map] at hge;rw[show k=p.length by omega];rfl)
 rw[List.length_map] at hlt
 have hlt:k<p.length:=by omega
 have hne:(!decide (((List.map aA.enc p).length:Int)=0))=true:=by rw[List.length_map,decide_eq_false (by omega)];rfl
 have hm1:(k+1) % p.length<p.length:=Nat.mod_lt _ (by omega)
 have i1:(IntKind.i64.wrap ((k:Int)+1)).tmod ((List.map aA.enc p).length:Int)=(((k+1) % p.length:Nat):Int):=by rw[List.length_map];exact uA (c:=1) hl (by omega) (by omega)
 rw[fC hlt,i1]
 refine ⟨hne,?_⟩
 rw[fC hm1]
 have hb1:=AI8 hn k
 have hb2:=IK hn k
 have hb3:=IK hn (k+1)
 refine hX _ hlt ?_
 rw[show IntKind.i64.wrap ((k:Int)+1)=((k+1:Nat):Int) from bD _ (by omega) (by omega)]
 have e:IntKind.i64.wrap (zB k (AGH p)+IntKind.i64.wrap (IntKind.i64.wrap ((pt p k).1*(nx p k).2)-IntKind.i64.wrap ((nx p k).1*(pt p k).2)))=zB (k+1) (AGH p):=by
  rw[bD ((pt p k).1*(nx p k).2) (by omega) (by omega),bD ((nx p k).1*(pt p k).2) (by omega) (by omega),bD ((pt p k).1*(nx p k).2-(nx p k).1*(pt p k).2) (by omega) (by omega),bD _ (by omega) (by omega)]
  rfl
 rw[←e];rfl
theorem LU {p:List Pt} (h:p.length≤1000) (h2:j4 p):oP [T.sl false (List.map aA.enc p)]=some (Sh.enc [(false,.int .i64)] (KH p)):=(AEQ ..).trans (AAH _ h h2)
def j9 (p:List Pt):Int:=if p.length<3 then 3 else if 32<p.length then 4 else if MH p=false then 9 else if HA p=false∨KH p=0 then 17 else 0
noncomputable def AJ5:Env:=Env.of [(323,.pure AZ),(324,.pure mT),(325,.pure oP)]
def AK3:FuncId→Hint:=bX 340 [(2,.inv [.val 8 false (.int .i64)])] (fun _=>aZ)
theorem V1:aT Tryz.prog AJ5:=.cons AH3 (.cons AEB (.cons XT (.nil _)))
def NE(a0:List aP)(R:T→Prop):Prop:=aJ d4 (mT (BE0 a0)) fun (y4:Bool)=>aC (!y4) (R (T.v (.int .i64 17))) (aJ d7 (oP (BE0 a0)) fun (y5:Int)=>aC (decide (y5=0)) (R (T.v (.int .i64 17))) (BE1 R))
def DS(a0:List aP)(R:T→Prop):Prop:=aC (decide ((↑(f9 a0).length:Int)<3)) (R (T.v (.int .i64 3))) (aC (decide (32<(↑(f9 a0).length:Int))) (R (T.v (.int .i64 4))) (bA (Int×PUnit) (fun X0 s1=>aC (decide (s1.1<(↑(f9 a0).length:Int))) (aR aA (f9 a0) s1.1 fun (y2:aP)=>aJ d4 (AZ [aI true aA y2]) fun (y3:Bool)=>aC y3 (aC (decide (0≤s1.1)) (t7 R) (NE a0 R)) (f8 X0 s1)) (NE a0 R)) (0,())))
abbrev FE:Sh:=[(false,aA.li)]
def uL (p:List aP):Option T:=some (T.v (Value.int .i64 (j9 p)))
noncomputable def gJ:List T→Option T:=gS FE uL
theorem TE {a0}:gJ [T.sl false (List.map aA.enc a0)]=uL (a0):=bG (s:=FE) rfl (a0) rfl
theorem AFM:vF Tryz.prog 301 gJ uL (cD FE) DS:=jJ (a1:=(false,aA.li)) (sp:=uL) (F:=DS) (Hs:=AK3) (f:=301) (k:=8) V1 aU aY (aN rfl) ⟨_,_,Tryz.func301,rfl⟩ rfl fun _ _=>by kernel_rfl
theorem AS:aO Tryz.prog 301 gJ:=AFM fun p r h hb=>by
 cases h
 have is:∀ {n:Int},j9 p=n→T.v (.int .i64 n)=T.v (.int .i64 (j9 p)):=fun h=>by rw[h]
 unfold DS NE BE1 BE0 f9 f8 t7 d7 d4
 refine b8 (fun h=>is (by rw[List.length_map] at h;unfold j9;rw[if_pos (by omega)])) fun h1=>?_
 refine b8 (fun h=>is (by rw[List.length_map] at h h1;unfold j9;rw[if_neg (by omega),if_pos (by omega)])) fun h2=>?_
 rw[List.length_map] at h1 h2
 refine bM p.length (fun k s=>s=((k:Int),())∧∀ i,i<k→i<p.length→dF (pt p i)) ⟨rfl,fun i h=>by omega⟩ ?_
 rintro X k s hk ⟨rfl,hJ⟩ hX
 dsimp only
 refine b8 (fun hlt=>?_) fun hge=>?_
 ·rw[List.length_map] at hlt
  have hlt:k<p.length:=by omega
  rw[fC hlt]
  refine aG (s:=[(false,.bool)]) (y:=!decide (dF (pt p k))) (PY ..) ?_
  refine lA (fun hf=>?_) fun hn=>hX _ hlt ⟨by rw[show IntKind.i64.wrap ((k:Int)+1)=((k+1:Nat):Int) from bD _ (by omega) (by omega)],fun i h1 h2=>by
   rcases Nat.lt_or_ge i k with h3|h3
   ·exact hJ i h3 h2
   ·have:i=k:=by omega
    subst this;exact hn⟩
  refine b8 (fun _=>is ?_) fun h=>by omega
  have:MH p=false:=by
   rw[Bool.eq_false_iff];intro h
   have:=mW.1 h _ (List.getElem_mem hlt)
   rw[←UA hlt] at this
   exact hf this
  unfold j9;rw[if_neg (by omega),if_neg (by omega),if_pos this]
 ·have hN:j4 p:=fun q hq=>by
   obtain ⟨i,hi,rfl⟩:=List.mem_iff_getElem.1 hq
   rw[←UA hi]
   rw[List.length_map] at hge
   exact hJ i (by omega) hi
  have hnb:¬ MH p=false:=by rw[mW.2 hN];simp
  refine aG (s:=[(false,.bool)]) (TG (by omega) hN) ?_
  refine gQ (fun h=>is (by unfold j9;rw[if_neg (by omega),if_neg (by omega),if_neg hnb,if_pos (.inl h)])) fun hs=>?_
  refine aG (s:=[(false,.int .i64)]) (LU (by omega) hN) ?_
  refine b8 (fun h=>is (by unfold j9;rw[if_neg (by omega),if_neg (by omega),if_neg hnb,if_pos (.inr h)])) fun ha=>is ?_
  unfold j9
  rw[if_neg (by omega),if_neg (by omega),if_neg hnb,if_neg]
  rintro (h|h)
  ·rw[show HA p=true from hs] at h;cases h
  ·exact ha h
theorem oQ (p:List Pt):gJ [T.sl false (List.map aA.enc p)]=some (Sh.enc [(false,.int .i64)] (j9 p)):=TE ..
theorem sR {p:List Pt} (h:j9 p=0):3≤p.length∧p.length≤32∧j4 p∧HA p=true∧KH p≠0:=by
 unfold j9 at h
 by_cases h1:p.length<3
 ·rw[if_pos h1] at h;cases h
 rw[if_neg h1] at h
 by_cases h2:32<p.length
 ·rw[if_pos h2] at h;cases h
 rw[if_neg h2] at h
 by_cases h3:MH p=false
 ·rw[if_pos h3] at h;cases h
 rw[if_neg h3] at h
 by_cases h4:HA p=false∨KH p=0
 ·rw[if_pos h4] at h;cases h
 refine ⟨by omega,by omega,mW.1 (by simpa using h3),by simpa using fun e=>h4 (.inl e),fun e=>h4 (.inr e)⟩
def qL (p:List Pt):Int:=if j9 p=0 then KH p else 0
noncomputable def APZ:Env:=Env.of [(301,.pure gJ),(325,.pure oP)]
def ASX:FuncId→Hint:=fun _=>aZ
theorem AB1:aT Tryz.prog APZ:=.cons AS (.cons XT (.nil _))
def JO(a0:List aP)(R:T→Prop):Prop:=aJ d7 (gJ (BE0 a0)) fun (y0:Int)=>aC (!decide (y0=0)) (BE1 R) (aJ d7 (oP (BE0 a0)) fun (y1:Int)=>R (T.v (.int .i64 y1)))
abbrev M4:Sh:=[(false,aA.li)]
def yK (p:List aP):Option T:=some (T.v (Value.int .i64 (qL p)))
noncomputable def l9:List T→Option T:=gS M4 yK
theorem YR {a0}:l9 [T.sl false (List.map aA.enc a0)]=yK (a0):=bG (s:=M4) rfl (a0) rfl
theorem AN7:vF Tryz.prog 302 l9 yK (cD M4) JO:=jJ (a1:=(false,aA.li)) (sp:=yK) (F:=JO) (Hs:=ASX) (f:=302) (k:=8) AB1 aU aY (aN rfl) ⟨_,_,Tryz.func302,rfl⟩ rfl fun _ _=>by kernel_rfl
theorem PD:aO Tryz.prog 302 l9:=AN7 fun p r h hb=>by
 cases h
 unfold JO BE1 BE0 f9 d7
 refine aG (s:=[(false,.int .i64)]) (oQ p) ?_
 refine lA (fun h=>HK (by unfold qL;rw[if_neg h])) fun h=>?_
 obtain ⟨_,h2,h3,_⟩:=sR h
 refine aG (s:=[(false,.int .i64)]) (LU (by omega) h3) ?_
 exact HK (by unfold qL;rw[if_pos h])
theorem wG (p:List Pt):l9 [T.sl false (List.map aA.enc p)]=some (Sh.enc [(false,.int .i64)] (qL p)):=YR ..
end Go.Pv
