/-
  Facts on the program that every function's file asks for.
  slices.Clone, Insert, Delete at the design's lists.
  The seam, the part, the section with an identifier.
  The part with an identifier, as the program finds it; how thick a seam is.
  Words that several files share.
  The way from the block down to a part.
  Packages; equality of lists, shapes, parts and packages.
  StructureFinds: Part, Node, Seam and Package answer as the reference does.
  StructureSames: Same answers as the reference does.
  edit.same; copies of parts, packages, designs.
  Chapter 17: the indices of a design, walked.
  Chapter 17: rising, walked.
  strings.Split on typed data.
  Names and identifiers.
  Chapter 17: the tree's form, walked.
  Chapter 17: the tree's other methods where a design's elements are empty, and Check there.
  Chapter 17: the tree's seams and requirements.
  dag.Order, walked.
  Chapter 17: the tree's parts and packages, walked; Check, walked.
  Plane geometry, plain.
  poly: crosses and edges.
  poly: simple contours and their areas.
-/
import Derived.Test.YtjledgajjgkbhaaGreatDoorVapki
import Derived.Test.YtjledgajjgkbhaaGreatDoorVapty
import Derived.Test.YtjledgajjgkbhaaGreatDoorProg
import Derived.KernelRfl
import Derived.Test.YtjledgajjgkbhaaGreatDoorVapin
import Derived.Test.YtjledgajjgkbhaaGreatDoorVapkj
import Derived.Test.YtjledgajjgkbhaaGreatDoorVapkn
import Derived.Test.YtjledgajjgkbhaaGreatDoorVapgs
import Derived.Test.YtjledgajjgkbhaaGreatDoorVapsl
import Derived.Laws.RangeAny
import Derived.Test.YtjledgajjgkbhaaGreatDoorVapkm
set_option linter.defProp false
set_option linter.unusedSimpArgs false
set_option linter.unusedVariables false
namespace Go.Pv
open Go Go.Proofs
theorem aQ:Tryz.prog.follows .mixedOrders=true:=by kernel_rfl
theorem aS:cE Tryz.prog=true:=by kernel_rfl
end Go.Pv
set_option maxRecDepth 100000
namespace Go.Pv
open Go Go.Proofs
theorem o3 {P:Program} {t:TypeId} {zv:Value} {z b:Nat} (h:(P.info? t).map (fun i=>(i.zero,i.size,i.bytes))=some (some zv,z,b)):∃ i,P.info? t=some i∧i.zero=some zv∧i.size=z∧i.bytes=b:=by
 simp only[Option.map_eq_some_iff,Prod.mk.injEq] at h
 obtain ⟨i,h1,h2,h3,h4⟩:=h
 exact ⟨i,h1,h2,h3,h4⟩
def YX:Value:=.agg #[.string ⟨#[]⟩,.int .i64 0,.string ⟨#[]⟩]
def YW:Value:=.agg #[.int .i64 0,.string ⟨#[]⟩,.string ⟨#[]⟩]
def YZ:Value:=.agg #[.string ⟨#[]⟩,.string ⟨#[]⟩,.string ⟨#[]⟩,.int .i64 0,.int .i64 0,.int .i64 0]
def AN:Value:=.agg #[.string ⟨#[]⟩,.string ⟨#[]⟩,.slice none 0 0,.int .i64 0,.slice none 0 0]
def YY:Value:=.agg #[.string ⟨#[]⟩,.int .i64 0,.int .i64 0,.string ⟨#[]⟩,.string ⟨#[]⟩,.int .i64 0,.slice none 0 0,.slice none 0 0,.string ⟨#[]⟩,.int .i64 0,.int .i64 0,.int .i64 0,.int .i64 0,.int .i64 0,.int .i64 0,.int .i64 0,.int .i64 0,.int .i64 0]
def A1T:Go.Shelf.Ren:=⟨fun|22=>303|29=>329|30=>330|n=>n,fun|9=>55|24=>22|n=>n,fun|n=>n⟩
theorem AZQ:Q0 Tryz.prog A1T 3 40 YX:={
 mixed:=aQ
 f22:=Exists.intro ("slices.Insert[[]shipyard/api.Node,shipyard/api.Node]") ⟨by decide,Tryz.func303.trans (congrArg some (by kernel_rfl))⟩
 ov:=fun args w=>run_callFunc_extern (P:=Tryz.prog) (f:=329) (e:=Extern.SlicesOverlaps.overlaps #[22,22] #[4]) Tryz.func329 (by kernel_rfl) (by kernel_rfl) (by kernel_rfl) (by kernel_rfl) args w
 t0:=by kernel_rfl
 a0:=fun _=>by kernel_rfl
 z0:=fun _=>by kernel_rfl
 v0:=fun _=>by kernel_rfl
 t3:=by kernel_rfl
 a3:=fun _=>by kernel_rfl
 z3:=fun _=>by kernel_rfl
 v3:=fun _=>by kernel_rfl
 t4:=by kernel_rfl
 a4:=fun _=>by kernel_rfl
 z4:=fun _=>by kernel_rfl
 v4:=fun _=>by kernel_rfl
 z9:=fun _=>by kernel_rfl
 t24:=by kernel_rfl
 a24:=fun _=>by kernel_rfl
 z24:=fun _=>by kernel_rfl
 v24:=fun _=>by kernel_rfl
 i9:=o3 (by kernel_rfl) }
def tH:List (List T)→List T→Option (List (List T)):=V5 3 40
theorem AHL:cY Tryz.prog 303 (mP 3 tH) :=
 oJ AZQ (by decide) rfl (by decide) ⟨_,Tryz.func303,rfl,rfl⟩
def A1P:Go.Shelf.Ren:=⟨fun|45=>304|n=>n,fun|23=>55|22=>22|n=>n,fun|n=>n⟩
theorem AW2:AE0 Tryz.prog A1P 3 YX:={
 mixed:=aQ
 f45:=Exists.intro ("slices.Delete[[]shipyard/api.Node,shipyard/api.Node]") ⟨by decide,Tryz.func304.trans (congrArg some (by kernel_rfl))⟩
 t0:=by kernel_rfl
 a0:=fun _=>by kernel_rfl
 z0:=fun _=>by kernel_rfl
 v0:=fun _=>by kernel_rfl
 t3:=by kernel_rfl
 a3:=fun _=>by kernel_rfl
 z3:=fun _=>by kernel_rfl
 v3:=fun _=>by kernel_rfl
 t4:=by kernel_rfl
 a4:=fun _=>by kernel_rfl
 z4:=fun _=>by kernel_rfl
 v4:=fun _=>by kernel_rfl
 t22:=by kernel_rfl
 a22:=fun _=>by kernel_rfl
 z22:=fun _=>by kernel_rfl
 v22:=fun _=>by kernel_rfl
 z23:=fun _=>by kernel_rfl
 v23:=fun _=>by kernel_rfl
 i23:=by
  obtain ⟨i,h1,_,h2,_⟩:=o3 (P:=Tryz.prog) (t:=55) (zv:=YX) (z:=3) (b:=40) (by kernel_rfl)
  exact ⟨i,h1,h2⟩ }
def HQ:List (List T)→List T→Option (List (List T)):=V4 3
theorem AHI:cY Tryz.prog 304 (mP 3 HQ) :=
 oI AW2 rfl (by decide) ⟨_,Tryz.func304,rfl,rfl⟩
def AEB:Go.Shelf.Ren:=⟨fun|41=>60|n=>n,fun|23=>55|22=>22|n=>n,fun|n=>n⟩
theorem AWO:SlLaysE0.n41 Tryz.prog AEB:={
 mixed:=aQ
 f41:=Exists.intro ("slices.Clone[[]shipyard/api.Node,shipyard/api.Node]") ⟨by decide,Tryz.func60.trans (congrArg some (by kernel_rfl))⟩
 t4:=by kernel_rfl
 a4:=fun _=>by kernel_rfl
 z4:=fun _=>by kernel_rfl
 v4:=fun _=>by kernel_rfl
 t22:=by kernel_rfl
 a22:=fun _=>by kernel_rfl
 z22:=fun _=>by kernel_rfl
 v22:=fun _=>by kernel_rfl }
theorem AQ3:∃ i0,(Tryz.prog).info? (AEB.t 23)=some i0∧i0.zero=some YX∧i0.size=3∧i0.bytes=40:=o3 (by kernel_rfl)
theorem qF:cY Tryz.prog 60 (CG 3 40) :=
 pM AWO AQ3 (fun _=>by kernel_rfl) (by decide) rfl (by decide) ⟨_,Tryz.func60,rfl,rfl⟩
def A1S:Go.Shelf.Ren:=⟨fun|22=>320|29=>337|30=>338|n=>n,fun|9=>67|24=>26|n=>n,fun|n=>n⟩
theorem AZP:Q0 Tryz.prog A1S 3 40 YW:={
 mixed:=aQ
 f22:=Exists.intro ("slices.Insert[[]shipyard/api.Need,shipyard/api.Need]") ⟨by decide,Tryz.func320.trans (congrArg some (by kernel_rfl))⟩
 ov:=fun args w=>run_callFunc_extern (P:=Tryz.prog) (f:=337) (e:=Extern.SlicesOverlaps.overlaps #[26,26] #[4]) Tryz.func337 (by kernel_rfl) (by kernel_rfl) (by kernel_rfl) (by kernel_rfl) args w
 t0:=by kernel_rfl
 a0:=fun _=>by kernel_rfl
 z0:=fun _=>by kernel_rfl
 v0:=fun _=>by kernel_rfl
 t3:=by kernel_rfl
 a3:=fun _=>by kernel_rfl
 z3:=fun _=>by kernel_rfl
 v3:=fun _=>by kernel_rfl
 t4:=by kernel_rfl
 a4:=fun _=>by kernel_rfl
 z4:=fun _=>by kernel_rfl
 v4:=fun _=>by kernel_rfl
 z9:=fun _=>by kernel_rfl
 t24:=by kernel_rfl
 a24:=fun _=>by kernel_rfl
 z24:=fun _=>by kernel_rfl
 v24:=fun _=>by kernel_rfl
 i9:=o3 (by kernel_rfl) }
def kK:List (List T)→List T→Option (List (List T)):=V5 3 40
theorem N4:cY Tryz.prog 320 (mP 3 kK) :=
 oJ AZP (by decide) rfl (by decide) ⟨_,Tryz.func320,rfl,rfl⟩
def A1O:Go.Shelf.Ren:=⟨fun|45=>321|n=>n,fun|23=>67|22=>26|n=>n,fun|n=>n⟩
theorem AW1:AE0 Tryz.prog A1O 3 YW:={
 mixed:=aQ
 f45:=Exists.intro ("slices.Delete[[]shipyard/api.Need,shipyard/api.Need]") ⟨by decide,Tryz.func321.trans (congrArg some (by kernel_rfl))⟩
 t0:=by kernel_rfl
 a0:=fun _=>by kernel_rfl
 z0:=fun _=>by kernel_rfl
 v0:=fun _=>by kernel_rfl
 t3:=by kernel_rfl
 a3:=fun _=>by kernel_rfl
 z3:=fun _=>by kernel_rfl
 v3:=fun _=>by kernel_rfl
 t4:=by kernel_rfl
 a4:=fun _=>by kernel_rfl
 z4:=fun _=>by kernel_rfl
 v4:=fun _=>by kernel_rfl
 t22:=by kernel_rfl
 a22:=fun _=>by kernel_rfl
 z22:=fun _=>by kernel_rfl
 v22:=fun _=>by kernel_rfl
 z23:=fun _=>by kernel_rfl
 v23:=fun _=>by kernel_rfl
 i23:=by
  obtain ⟨i,h1,_,h2,_⟩:=o3 (P:=Tryz.prog) (t:=67) (zv:=YW) (z:=3) (b:=40) (by kernel_rfl)
  exact ⟨i,h1,h2⟩ }
def zG:List (List T)→List T→Option (List (List T)):=V4 3
theorem N3:cY Tryz.prog 321 (mP 3 zG) :=
 oI AW1 rfl (by decide) ⟨_,Tryz.func321,rfl,rfl⟩
def AEA:Go.Shelf.Ren:=⟨fun|41=>62|n=>n,fun|23=>67|22=>26|n=>n,fun|n=>n⟩
theorem AWN:SlLaysE0.n41 Tryz.prog AEA:={
 mixed:=aQ
 f41:=Exists.intro ("slices.Clone[[]shipyard/api.Need,shipyard/api.Need]") ⟨by decide,Tryz.func62.trans (congrArg some (by kernel_rfl))⟩
 t4:=by kernel_rfl
 a4:=fun _=>by kernel_rfl
 z4:=fun _=>by kernel_rfl
 v4:=fun _=>by kernel_rfl
 t22:=by kernel_rfl
 a22:=fun _=>by kernel_rfl
 z22:=fun _=>by kernel_rfl
 v22:=fun _=>by kernel_rfl }
theorem AQ2:∃ i0,(Tryz.prog).info? (AEA.t 23)=some i0∧i0.zero=some YW∧i0.size=3∧i0.bytes=40:=o3 (by kernel_rfl)
theorem qE:cY Tryz.prog 62 (CG 3 40) :=
 pM AWN AQ2 (fun _=>by kernel_rfl) (by decide) rfl (by decide) ⟨_,Tryz.func62,rfl,rfl⟩
def A1V:Go.Shelf.Ren:=⟨fun|22=>311|29=>333|30=>334|n=>n,fun|9=>60|24=>24|n=>n,fun|n=>n⟩
theorem AZS:Q0 Tryz.prog A1V 6 72 YZ:={
 mixed:=aQ
 f22:=Exists.intro ("slices.Insert[[]shipyard/api.Seam,shipyard/api.Seam]") ⟨by decide,Tryz.func311.trans (congrArg some (by kernel_rfl))⟩
 ov:=fun args w=>run_callFunc_extern (P:=Tryz.prog) (f:=333) (e:=Extern.SlicesOverlaps.overlaps #[24,24] #[4]) Tryz.func333 (by kernel_rfl) (by kernel_rfl) (by kernel_rfl) (by kernel_rfl) args w
 t0:=by kernel_rfl
 a0:=fun _=>by kernel_rfl
 z0:=fun _=>by kernel_rfl
 v0:=fun _=>by kernel_rfl
 t3:=by kernel_rfl
 a3:=fun _=>by kernel_rfl
 z3:=fun _=>by kernel_rfl
 v3:=fun _=>by kernel_rfl
 t4:=by kernel_rfl
 a4:=fun _=>by kernel_rfl
 z4:=fun _=>by kernel_rfl
 v4:=fun _=>by kernel_rfl
 z9:=fun _=>by kernel_rfl
 t24:=by kernel_rfl
 a24:=fun _=>by kernel_rfl
 z24:=fun _=>by kernel_rfl
 v24:=fun _=>by kernel_rfl
 i9:=o3 (by kernel_rfl) }
def tJ:List (List T)→List T→Option (List (List T)):=V5 6 72
theorem AHN:cY Tryz.prog 311 (mP 6 tJ) :=
 oJ AZS (by decide) rfl (by decide) ⟨_,Tryz.func311,rfl,rfl⟩
def A1R:Go.Shelf.Ren:=⟨fun|45=>312|n=>n,fun|23=>60|22=>24|n=>n,fun|n=>n⟩
theorem AW4:AE0 Tryz.prog A1R 6 YZ:={
 mixed:=aQ
 f45:=Exists.intro ("slices.Delete[[]shipyard/api.Seam,shipyard/api.Seam]") ⟨by decide,Tryz.func312.trans (congrArg some (by kernel_rfl))⟩
 t0:=by kernel_rfl
 a0:=fun _=>by kernel_rfl
 z0:=fun _=>by kernel_rfl
 v0:=fun _=>by kernel_rfl
 t3:=by kernel_rfl
 a3:=fun _=>by kernel_rfl
 z3:=fun _=>by kernel_rfl
 v3:=fun _=>by kernel_rfl
 t4:=by kernel_rfl
 a4:=fun _=>by kernel_rfl
 z4:=fun _=>by kernel_rfl
 v4:=fun _=>by kernel_rfl
 t22:=by kernel_rfl
 a22:=fun _=>by kernel_rfl
 z22:=fun _=>by kernel_rfl
 v22:=fun _=>by kernel_rfl
 z23:=fun _=>by kernel_rfl
 v23:=fun _=>by kernel_rfl
 i23:=by
  obtain ⟨i,h1,_,h2,_⟩:=o3 (P:=Tryz.prog) (t:=60) (zv:=YZ) (z:=6) (b:=72) (by kernel_rfl)
  exact ⟨i,h1,h2⟩ }
def HS:List (List T)→List T→Option (List (List T)):=V4 6
theorem AHK:cY Tryz.prog 312 (mP 6 HS) :=
 oI AW4 rfl (by decide) ⟨_,Tryz.func312,rfl,rfl⟩
def AED:Go.Shelf.Ren:=⟨fun|41=>61|n=>n,fun|23=>60|22=>24|n=>n,fun|n=>n⟩
theorem AWQ:SlLaysE0.n41 Tryz.prog AED:={
 mixed:=aQ
 f41:=Exists.intro ("slices.Clone[[]shipyard/api.Seam,shipyard/api.Seam]") ⟨by decide,Tryz.func61.trans (congrArg some (by kernel_rfl))⟩
 t4:=by kernel_rfl
 a4:=fun _=>by kernel_rfl
 z4:=fun _=>by kernel_rfl
 v4:=fun _=>by kernel_rfl
 t22:=by kernel_rfl
 a22:=fun _=>by kernel_rfl
 z22:=fun _=>by kernel_rfl
 v22:=fun _=>by kernel_rfl }
theorem AQ5:∃ i0,(Tryz.prog).info? (AED.t 23)=some i0∧i0.zero=some YZ∧i0.size=6∧i0.bytes=72:=o3 (by kernel_rfl)
theorem qG:cY Tryz.prog 61 (CG 6 72) :=
 pM AWQ AQ5 (fun _=>by kernel_rfl) (by decide) rfl (by decide) ⟨_,Tryz.func61,rfl,rfl⟩
def AEF:Go.Shelf.Ren:=⟨fun|22=>315|29=>335|30=>336|n=>n,fun|9=>65|24=>25|n=>n,fun|n=>n⟩
theorem AC8:Q0 Tryz.prog AEF 5 88 AN:={
 mixed:=aQ
 f22:=Exists.intro ("slices.Insert[[]shipyard/api.Package,shipyard/api.Package]") ⟨by decide,Tryz.func315.trans (congrArg some (by kernel_rfl))⟩
 ov:=fun args w=>run_callFunc_extern (P:=Tryz.prog) (f:=335) (e:=Extern.SlicesOverlaps.overlaps #[25,25] #[4]) Tryz.func335 (by kernel_rfl) (by kernel_rfl) (by kernel_rfl) (by kernel_rfl) args w
 t0:=by kernel_rfl
 a0:=fun _=>by kernel_rfl
 z0:=fun _=>by kernel_rfl
 v0:=fun _=>by kernel_rfl
 t3:=by kernel_rfl
 a3:=fun _=>by kernel_rfl
 z3:=fun _=>by kernel_rfl
 v3:=fun _=>by kernel_rfl
 t4:=by kernel_rfl
 a4:=fun _=>by kernel_rfl
 z4:=fun _=>by kernel_rfl
 v4:=fun _=>by kernel_rfl
 z9:=fun _=>by kernel_rfl
 t24:=by kernel_rfl
 a24:=fun _=>by kernel_rfl
 z24:=fun _=>by kernel_rfl
 v24:=fun _=>by kernel_rfl
 i9:=o3 (by kernel_rfl) }
def mS:List (List T)→List T→Option (List (List T)):=V5 5 88
theorem Q7:cY Tryz.prog 315 (mP 5 mS) :=
 oJ AC8 (by decide) rfl (by decide) ⟨_,Tryz.func315,rfl,rfl⟩
def AEE:Go.Shelf.Ren:=⟨fun|45=>313|n=>n,fun|23=>65|22=>25|n=>n,fun|n=>n⟩
theorem AAX:AE0 Tryz.prog AEE 5 AN:={
 mixed:=aQ
 f45:=Exists.intro ("slices.Delete[[]shipyard/api.Package,shipyard/api.Package]") ⟨by decide,Tryz.func313.trans (congrArg some (by kernel_rfl))⟩
 t0:=by kernel_rfl
 a0:=fun _=>by kernel_rfl
 z0:=fun _=>by kernel_rfl
 v0:=fun _=>by kernel_rfl
 t3:=by kernel_rfl
 a3:=fun _=>by kernel_rfl
 z3:=fun _=>by kernel_rfl
 v3:=fun _=>by kernel_rfl
 t4:=by kernel_rfl
 a4:=fun _=>by kernel_rfl
 z4:=fun _=>by kernel_rfl
 v4:=fun _=>by kernel_rfl
 t22:=by kernel_rfl
 a22:=fun _=>by kernel_rfl
 z22:=fun _=>by kernel_rfl
 v22:=fun _=>by kernel_rfl
 z23:=fun _=>by kernel_rfl
 v23:=fun _=>by kernel_rfl
 i23:=by
  obtain ⟨i,h1,_,h2,_⟩:=o3 (P:=Tryz.prog) (t:=65) (zv:=AN) (z:=5) (b:=88) (by kernel_rfl)
  exact ⟨i,h1,h2⟩ }
def mR:List (List T)→List T→Option (List (List T)):=V4 5
theorem BA:cY Tryz.prog 313 (mP 5 mR) :=
 oI AAX rfl (by decide) ⟨_,Tryz.func313,rfl,rfl⟩
def J1:Go.Shelf.Ren:=⟨fun|41=>166|n=>n,fun|23=>65|22=>25|n=>n,fun|n=>n⟩
theorem AAQ:SlLaysE0.n41 Tryz.prog J1:={
 mixed:=aQ
 f41:=Exists.intro ("slices.Clone[[]shipyard/api.Package,shipyard/api.Package]") ⟨by decide,Tryz.func166.trans (congrArg some (by kernel_rfl))⟩
 t4:=by kernel_rfl
 a4:=fun _=>by kernel_rfl
 z4:=fun _=>by kernel_rfl
 v4:=fun _=>by kernel_rfl
 t22:=by kernel_rfl
 a22:=fun _=>by kernel_rfl
 z22:=fun _=>by kernel_rfl
 v22:=fun _=>by kernel_rfl }
theorem WM:∃ i0,(Tryz.prog).info? (J1.t 23)=some i0∧i0.zero=some AN∧i0.size=5∧i0.bytes=88:=o3 (by kernel_rfl)
theorem n9:cY Tryz.prog 166 (CG 5 88) :=
 pM AAQ WM (fun _=>by kernel_rfl) (by decide) rfl (by decide) ⟨_,Tryz.func166,rfl,rfl⟩
def A1U:Go.Shelf.Ren:=⟨fun|22=>308|29=>331|30=>332|n=>n,fun|9=>53|24=>23|n=>n,fun|n=>n⟩
theorem AZR:Q0 Tryz.prog A1U 18 208 YY:={
 mixed:=aQ
 f22:=Exists.intro ("slices.Insert[[]shipyard/api.Part,shipyard/api.Part]") ⟨by decide,Tryz.func308.trans (congrArg some (by kernel_rfl))⟩
 ov:=fun args w=>run_callFunc_extern (P:=Tryz.prog) (f:=331) (e:=Extern.SlicesOverlaps.overlaps #[23,23] #[4]) Tryz.func331 (by kernel_rfl) (by kernel_rfl) (by kernel_rfl) (by kernel_rfl) args w
 t0:=by kernel_rfl
 a0:=fun _=>by kernel_rfl
 z0:=fun _=>by kernel_rfl
 v0:=fun _=>by kernel_rfl
 t3:=by kernel_rfl
 a3:=fun _=>by kernel_rfl
 z3:=fun _=>by kernel_rfl
 v3:=fun _=>by kernel_rfl
 t4:=by kernel_rfl
 a4:=fun _=>by kernel_rfl
 z4:=fun _=>by kernel_rfl
 v4:=fun _=>by kernel_rfl
 z9:=fun _=>by kernel_rfl
 t24:=by kernel_rfl
 a24:=fun _=>by kernel_rfl
 z24:=fun _=>by kernel_rfl
 v24:=fun _=>by kernel_rfl
 i9:=o3 (by kernel_rfl) }
def tI:List (List T)→List T→Option (List (List T)):=V5 18 208
theorem AHM:cY Tryz.prog 308 (mP 18 tI) :=
 oJ AZR (by decide) rfl (by decide) ⟨_,Tryz.func308,rfl,rfl⟩
def A1Q:Go.Shelf.Ren:=⟨fun|45=>309|n=>n,fun|23=>53|22=>23|n=>n,fun|n=>n⟩
theorem AW3:AE0 Tryz.prog A1Q 18 YY:={
 mixed:=aQ
 f45:=Exists.intro ("slices.Delete[[]shipyard/api.Part,shipyard/api.Part]") ⟨by decide,Tryz.func309.trans (congrArg some (by kernel_rfl))⟩
 t0:=by kernel_rfl
 a0:=fun _=>by kernel_rfl
 z0:=fun _=>by kernel_rfl
 v0:=fun _=>by kernel_rfl
 t3:=by kernel_rfl
 a3:=fun _=>by kernel_rfl
 z3:=fun _=>by kernel_rfl
 v3:=fun _=>by kernel_rfl
 t4:=by kernel_rfl
 a4:=fun _=>by kernel_rfl
 z4:=fun _=>by kernel_rfl
 v4:=fun _=>by kernel_rfl
 t22:=by kernel_rfl
 a22:=fun _=>by kernel_rfl
 z22:=fun _=>by kernel_rfl
 v22:=fun _=>by kernel_rfl
 z23:=fun _=>by kernel_rfl
 v23:=fun _=>by kernel_rfl
 i23:=by
  obtain ⟨i,h1,_,h2,_⟩:=o3 (P:=Tryz.prog) (t:=53) (zv:=YY) (z:=18) (b:=208) (by kernel_rfl)
  exact ⟨i,h1,h2⟩ }
def HR:List (List T)→List T→Option (List (List T)):=V4 18
theorem AHJ:cY Tryz.prog 309 (mP 18 HR) :=
 oI AW3 rfl (by decide) ⟨_,Tryz.func309,rfl,rfl⟩
def AEC:Go.Shelf.Ren:=⟨fun|41=>165|n=>n,fun|23=>53|22=>23|n=>n,fun|n=>n⟩
theorem AWP:SlLaysE0.n41 Tryz.prog AEC:={
 mixed:=aQ
 f41:=Exists.intro ("slices.Clone[[]shipyard/api.Part,shipyard/api.Part]") ⟨by decide,Tryz.func165.trans (congrArg some (by kernel_rfl))⟩
 t4:=by kernel_rfl
 a4:=fun _=>by kernel_rfl
 z4:=fun _=>by kernel_rfl
 v4:=fun _=>by kernel_rfl
 t22:=by kernel_rfl
 a22:=fun _=>by kernel_rfl
 z22:=fun _=>by kernel_rfl
 v22:=fun _=>by kernel_rfl }
theorem AQ4:∃ i0,(Tryz.prog).info? (AEC.t 23)=some i0∧i0.zero=some YY∧i0.size=18∧i0.bytes=208:=o3 (by kernel_rfl)
theorem CC:cY Tryz.prog 165 (CG 18 208) :=
 pM AWP AQ4 (fun _=>by kernel_rfl) (by decide) rfl (by decide) ⟨_,Tryz.func165,rfl,rfl⟩
def BFF:Value:=.slice none 0 0
def AMY:Go.Shelf.Ren:=⟨fun|41=>164|n=>n,fun|23=>44|22=>45|n=>n,fun|n=>n⟩
theorem A4P:SlLaysE0.n41 Tryz.prog AMY:={
 mixed:=aQ
 f41:=Exists.intro ("slices.Clone[[][]shipyard/api.Point,[]shipyard/api.Point]") ⟨by decide,Tryz.func164.trans (congrArg some (by kernel_rfl))⟩
 t4:=by kernel_rfl
 a4:=fun _=>by kernel_rfl
 z4:=fun _=>by kernel_rfl
 v4:=fun _=>by kernel_rfl
 t22:=by kernel_rfl
 a22:=fun _=>by kernel_rfl
 z22:=fun _=>by kernel_rfl
 v22:=fun _=>by kernel_rfl }
theorem AZN:∃ i0,(Tryz.prog).info? (AMY.t 23)=some i0∧i0.zero=some BFF∧i0.size=1∧i0.bytes=24:=o3 (by kernel_rfl)
theorem AP4:cY Tryz.prog 164 (CG 1 24) :=
 pM A4P AZN (fun _=>by kernel_rfl) (by decide) rfl (by decide) ⟨_,Tryz.func164,rfl,rfl⟩
end Go.Pv
namespace Go.Pv
open Go Go.Proofs
def XV (d:aC) (id:ByteArray):Option eB:=d.2.2.2.1.find? fun s=>decide (s.1=id)
def partOf (d:aC) (id:ByteArray):Option bC:=d.2.2.1.find? fun s=>decide (s.1=id)
def j6 (d:aC) (id:ByteArray):Option dL:=d.2.1.find? fun s=>decide (s.1=id)
def QA (m:aH) (n:ByteArray):Option cG:=m.2.find? fun s=>decide (s.1=n)
def eX:eB:=(⟨#[]⟩,⟨#[]⟩,⟨#[]⟩,0,0,0)
def eW:dL:=(⟨#[]⟩,0,⟨#[]⟩)
def dQ:bC:=(⟨#[]⟩,0,0,⟨#[]⟩,⟨#[]⟩,0,([],[]),⟨#[]⟩,0,0,(0,0,0),(0,0,0),0)
def BL:cG:=(⟨#[]⟩,0,0,0)
def found {α:Type} (no:α) (o:Option α):α×Bool:=match o with
 | some s=>(s,true)
 | none=>(no,false)
def r4 (x:aC×ByteArray):Option T:=some (Sh.enc [(true,aY),(false,.bool)] (found eX (XV x.1 x.2)))
def YD (x:aC×ByteArray):Option T:=some (Sh.enc [(true,aJ),(false,.bool)] (found dQ (partOf x.1 x.2)))
def rY (x:aC×ByteArray):Option T:=some (Sh.enc [(true,aW),(false,.bool)] (found eW (j6 x.1 x.2)))
def nZ (x:aH×ByteArray):Option T:=some (Sh.enc [(true,bD),(false,.bool)] (found BL (QA x.1 x.2)))
def A84:FuncId→Hint:=bX 241 [(2,.inv [.val 11 false (.int .i64),.fix 1])] (fun _=>bI)
def d5:T:=T.v (.string {data:=#[]})
def m8(a0:aC):List (List T):=List.map aY.enc a0.2.2.2.1
def AGJ(a0:aC)(a1:ByteArray)(R:T→Prop):Prop:=gN (bB.rows false [[D.p d5,D.p d5, D.p d5,D.p (T.v (.int .i64 0)), D.p (T.v (.int .i64 0)),D.p (T.v (.int .i64 0))]]) (bB.rows false [[D.p d5,D.p d5, D.p d5,D.p (T.v (.int .i64 0)), D.p (T.v (.int .i64 0)),D.p (T.v (.int .i64 0))]]) (aZ (Int×PUnit×PUnit) (fun X0 s1=>aD (decide (s1.1<(↑(m8 a0).length:Int))) (aP aY (m8 a0) s1.1 fun (y2:eB)=>aD (decide (y2.1=a1)) (R (T.bZ [aF true aY y2,T.v (.bool true)])) (gN (bB.rows false [[D.p d5, D.p d5, D.p d5, D.p (T.v (.int .i64 0)), D.p (T.v (.int .i64 0)), D.p (T.v (.int .i64 0))]]) (bB.rows false [[D.p d5, D.p d5, D.p d5, D.p (T.v (.int .i64 0)), D.p (T.v (.int .i64 0)), D.p (T.v (.int .i64 0))]]) (X0 (IntKind.i64.wrap (s1.1+1),(),())))) (R (T.bZ [T.agg [T.v (.string {data:=#[]}),T.v (.string {data:=#[]}), T.v (.string {data:=#[]}),T.v (.int .i64 0), T.v (.int .i64 0),T.v (.int .i64 0)], T.v (.bool false)]))) (0,(),()))
abbrev AJ5:Sh:=[(true,aB),(false,Sy.str)]
noncomputable def CL:List T→Option T:=gS AJ5 r4
theorem S1 {a0 a1}:CL [aF true aB a0,T.v (.string a1)]=r4 (a0,a1):=bE (s:=AJ5) rfl (a0,a1) rfl
theorem A6V:r8 Tryz.prog 241 CL r4 (cC AJ5) AGJ:=iB (a1:=(true,aB)) (a2:=(false,Sy.str)) (sp:=r4) (F:=AGJ) (Hs:=A84) (f:=241) (k:=8) (bW _) aQ aS (aL rfl) ⟨_,_,Tryz.func241,rfl⟩ rfl fun _ _ _=>by kernel_rfl
theorem ALX:aN Tryz.prog 241 CL:=A6V fun d id r h hb=>by
 have hl:d.2.2.2.1.length≤2 ^ 47:=hb.1.2.2.2.1.1
 unfold AGJ m8 d5
 rw[dF]
 refine bM d.2.2.2.1.length (fun k s=>s=((k:Int),(),())∧(d.2.2.2.1.drop k).find? (fun s=>decide (s.1=id))=XV d id) ⟨rfl,rfl⟩ ?_
 rintro X k s hk ⟨rfl,hf⟩ hX
 simp only[List.length_map,H3,dF]
 by_cases hlt:k<d.2.2.2.1.length
 ·rw[pO hlt] at hf
  simp only[hlt,decide_true,aD,bG (r:=aY) hlt]
  cases hc:decide (d.2.2.2.1[k].1=id) with
  | true =>
   simp only[hc,if_true] at hf
   simp only[r4,r4,←hf] at h
   cases h;rfl
  | false =>
   simp only[hc] at hf
   refine hX _ hlt ⟨?_,hf⟩
   simp only[Prod.mk.injEq,and_true]
   exact bH _ (by omega) (by omega)
 ·have:k=d.2.2.2.1.length:=by omega
  subst this
  simp only[List.drop_length,List.find?_nil] at hf
  simp only[r4,r4,←hf] at h
  simp only[hlt,decide_false,aD]
  cases h;rfl
def A82:FuncId→Hint:=bX 193 [(2,.inv [.val 11 false (.int .i64),.fix 1])] (fun _=>bI)
def m9(a0:aC):List (List T):=List.map aW.enc a0.2.1
def AGD(a0:aC)(a1:ByteArray)(R:T→Prop):Prop:=gN (bB.rows false [[D.p d5,D.p (T.v (.int .i64 0)), D.p d5]]) (bB.rows false [[D.p d5,D.p (T.v (.int .i64 0)), D.p d5]]) (aZ (Int×PUnit×PUnit) (fun X0 s1=>aD (decide (s1.1<(↑(m9 a0).length:Int))) (aP aW (m9 a0) s1.1 fun (y2:dL)=>aD (decide (y2.1=a1)) (R (T.bZ [aF true aW y2,T.v (.bool true)])) (gN (bB.rows false [[D.p d5, D.p (T.v (.int .i64 0)), D.p d5]]) (bB.rows false [[D.p d5, D.p (T.v (.int .i64 0)), D.p d5]]) (X0 (IntKind.i64.wrap (s1.1+1),(),())))) (R (T.bZ [T.agg [T.v (.string {data:=#[]}),T.v (.int .i64 0), T.v (.string {data:=#[]})], T.v (.bool false)]))) (0,(),()))
abbrev AJ0:Sh:=[(true,aB),(false,Sy.str)]
noncomputable def CI:List T→Option T:=gS AJ0 rY
theorem SV {a0 a1}:CI [aF true aB a0,T.v (.string a1)]=rY (a0,a1):=bE (s:=AJ0) rfl (a0,a1) rfl
theorem A6Q:r8 Tryz.prog 193 CI rY (cC AJ0) AGD:=iB (a1:=(true,aB)) (a2:=(false,Sy.str)) (sp:=rY) (F:=AGD) (Hs:=A82) (f:=193) (k:=8) (bW _) aQ aS (aL rfl) ⟨_,_,Tryz.func193,rfl⟩ rfl fun _ _ _=>by kernel_rfl
theorem ALT:aN Tryz.prog 193 CI:=A6Q fun d id r h hb=>by
 have hl:d.2.1.length≤2 ^ 47:=hb.1.2.1.1
 unfold AGD m9 d5
 rw[dF]
 refine bM d.2.1.length (fun k s=>s=((k:Int),(),())∧(d.2.1.drop k).find? (fun s=>decide (s.1=id))=j6 d id) ⟨rfl,rfl⟩ ?_
 rintro X k s hk ⟨rfl,hf⟩ hX
 simp only[List.length_map,H3,dF]
 by_cases hlt:k<d.2.1.length
 ·rw[pO hlt] at hf
  simp only[hlt,decide_true,aD,bG (r:=aW) hlt]
  cases hc:decide (d.2.1[k].1=id) with
  | true =>
   simp only[hc,if_true] at hf
   simp only[rY,rY,←hf] at h
   cases h;rfl
  | false =>
   simp only[hc] at hf
   refine hX _ hlt ⟨?_,hf⟩
   simp only[Prod.mk.injEq,and_true]
   exact bH _ (by omega) (by omega)
 ·have:k=d.2.1.length:=by omega
  subst this
  simp only[List.drop_length,List.find?_nil] at hf
  simp only[rY,rY,←hf] at h
  simp only[hlt,decide_false,aD]
  cases h;rfl
def AO2:FuncId→Hint:=bX 154 [(2,.inv [.val 8 false (.int .i64)])] (fun _=>bI)
def f7(X0:Int×PUnit→Prop)(s1:Int×PUnit):Prop:=X0 (IntKind.i64.wrap (s1.1+1),())
def BFZ:List T:=[T.agg [T.v (.string {data:=#[]}),T.v (.int .i64 0), T.v (.int .i64 0),T.v (.int .i64 0)], T.v (.bool false)]
def G2(a0:aH)(a1:ByteArray)(R:T→Prop):Prop:=aZ (Int×PUnit) (fun X0 s1=>aD (decide (s1.1<(↑(List.map bD.enc a0.2).length:Int))) (aP bD (List.map bD.enc a0.2) s1.1 fun (y2:cG)=>aD (decide (y2.1=a1)) (aD (decide (s1.1<0)) (R (T.bZ BFZ)) (aP bD (List.map bD.enc a0.2) s1.1 fun (y3:cG)=>R (T.bZ [aF true bD y3,T.v (.bool true)]))) (f7 X0 s1)) (R (T.bZ BFZ))) (0,())
abbrev IQ:Sh:=[(true,aK),(false,Sy.str)]
noncomputable def cT:List T→Option T:=gS IQ nZ
theorem WJ {a0 a1}:cT [aF true aK a0,T.v (.string a1)]=nZ (a0,a1):=bE (s:=IQ) rfl (a0,a1) rfl
theorem AJI:r8 Tryz.prog 130 cT nZ (cC IQ) G2:=iB (a1:=(true,aK)) (a2:=(false,Sy.str)) (sp:=nZ) (F:=G2) (Hs:=AO2) (f:=130) (k:=8) (bW _) aQ aS (aL rfl) ⟨_,_,Tryz.func130,rfl⟩ rfl fun _ _ _=>by kernel_rfl
theorem N6:aN Tryz.prog 130 cT:=AJI fun m n r h hb=>by
 have hl:m.2.length≤2 ^ 47:=hb.1.2.1
 unfold G2 BFZ f7
 refine bM m.2.length (fun k s=>s=((k:Int),())∧(m.2.drop k).find? (fun s=>decide (s.1=n))=QA m n) ⟨rfl,rfl⟩ ?_
 rintro X k s hk ⟨rfl,hf⟩ hX
 simp only[List.length_map,H3]
 by_cases hlt:k<m.2.length
 ·rw[pO hlt] at hf
  have h0:¬ ((k:Int)<0):=by omega
  simp only[hlt,decide_true,aD,bG (r:=bD) hlt,h0,decide_false]
  cases hc:decide (m.2[k].1=n) with
  | true =>
   simp only[hc,if_true] at hf
   simp only[nZ,←hf] at h
   cases h;rfl
  | false =>
   simp only[hc] at hf
   refine hX _ hlt ⟨?_,hf⟩
   simp only[Prod.mk.injEq,and_true]
   exact bH _ (by omega) (by omega)
 ·have:k=m.2.length:=by omega
  subst this
  simp only[List.drop_length,List.find?_nil] at hf
  simp only[nZ,←hf] at h
  simp only[hlt,decide_false,aD]
  cases h;rfl
end Go.Pv
namespace Go.Pv
open Go Go.Proofs
theorem AG4:LR Tryz.prog 101 2 16:=⟨fun R=>by kernel_rfl,fun fl R=>by kernel_rfl,fun fl a rows R=>by kernel_rfl⟩
noncomputable def fH:List T→Option T:=gS [(false,.li aA)] (dW aA 16)
theorem kJ {u0}:fH [T.sl false (List.map (Sy.enc aA) u0)]=dW aA 16 u0:=bE (s:=[(false,.li aA)]) rfl u0 rfl
theorem uW:aN Tryz.prog 101 fH:=yY aQ aS ⟨_,_,Tryz.func101,rfl⟩ AG4
theorem AAO:AEZ Tryz.prog 164 1 24:=⟨fun R=>by kernel_rfl,fun fl R=>by kernel_rfl,fun fl a rows R=>by kernel_rfl⟩
noncomputable def uZ:List T→Option (List (List T)):=gS [(false,.li (.li aA))] (pH (.li aA) 24)
theorem Q8 {u0}:uZ [T.sl false (List.map (Sy.enc (.li aA)) u0)]=pH (.li aA) 24 u0:=bE (s:=[(false,.li (.li aA))]) rfl u0 rfl
theorem AA8:e6 Tryz.prog 164 uZ:=APH aQ aS ⟨_,_,Tryz.func164,rfl⟩ AAO
def dB (b:Nat) (n:Nat):Bool:=decide (n*b≤140737488355328)&&decide (n≤140737488355328)
def zN (s:jQ):Bool:=dB 16 s.1.length&&dB 24 s.2.length&&s.2.all fun h=>dB 16 h.length
def dR (p:bC):Bool:=zN p.2.2.2.2.2.2.1
def DF (d:aC):Bool:=d.2.2.1.all dR
theorem iC {r:Sy} {b:Nat} {l:List r.den} (h:dB b l.length=true):pH r b l=some (List.map r.enc l):=by
 unfold pH;unfold dB at h;rw[h]
def lE (x:aC×ByteArray):Option T:=match DF x.1 with
 | true=>YD x
 | false=>none
noncomputable def A3A:Env:=Env.of [(101,.pure fH),(164,.fresh uZ)]
def A32:FuncId→Hint:=bX 136 [(2,.inv [.val 13 false (.int .i64),.fix 1]),(7,.alt [.val 37 false (.int .i64),.arr 4 1 (.li aA)] [.val 37 false (.int .i64)])] (fun _=>bI)
theorem AOI:aT Tryz.prog A3A:=.cons uW (.cons AA8 (.nil _))
def d8:T:=T.v (Value.slice none 0 0)
def eI:Sh:=[(false,aA.li)]
def FS(a0:aC):List (List T):=List.map aJ.enc a0.2.2.1
def f8(y7:List aO):List (List T):=List.map aA.enc y7
def t7(y2:bC):List (List T):=List.map aA.li.enc y2.2.2.2.2.2.2.1.2
def LT(s12:Int×List (List aO)×PUnit):List (List T):=List.map aA.li.enc s12.2.1
def BF1(y7:List aO):List T:=[T.sl false (f8 y7)]
def BF9(y2:bC):List (List T):=List.map aA.enc y2.2.2.2.2.2.2.1.1
def U5(a0:aC)(a1:ByteArray)(R:T→Prop):Prop:=gN (bB.rows false [[D.p d5,D.p (T.v (.int .i64 0)), D.p (T.v (.int .i64 0)),D.p d5, D.p d5,D.p (T.v (.int .i64 0)), D.p d8,D.p d8, D.p d5,D.p (T.v (.int .i64 0)), D.p (T.v (.int .i64 0)),D.p (T.v (.int .i64 0)), D.p (T.v (.int .i64 0)),D.p (T.v (.int .i64 0)), D.p (T.v (.int .i64 0)),D.p (T.v (.int .i64 0)), D.p (T.v (.int .i64 0)),D.p (T.v (.int .i64 0))]]) (bB.rows false [[D.p d5,D.p (T.v (.int .i64 0)), D.p (T.v (.int .i64 0)),D.p d5, D.p d5,D.p (T.v (.int .i64 0)), D.p d8,D.p d8, D.p d5,D.p (T.v (.int .i64 0)), D.p (T.v (.int .i64 0)),D.p (T.v (.int .i64 0)), D.p (T.v (.int .i64 0)),D.p (T.v (.int .i64 0)), D.p (T.v (.int .i64 0)),D.p (T.v (.int .i64 0)), D.p (T.v (.int .i64 0)),D.p (T.v (.int .i64 0))]]) (aZ (Int×PUnit×PUnit) (fun X0 s1=>aD (decide (s1.1<(↑(FS a0).length:Int))) (aP aJ (FS a0) s1.1 fun (y2:bC)=>aD (decide (y2.1=a1)) (aI eI (fH [T.sl false (BF9 y2)]) fun (y3:List aO)=>eV aA.li (uZ [T.sl false (t7 y2)]) fun (y4:List (List aO))=>aD y4.isEmpty (aZ (Int×PUnit) (fun X5 s6=>aD (decide (s6.1<(↑0:Int))) (aP aA.li [] s6.1 fun (y7:List aO)=>aI eI (fH (BF1 y7)) fun (y8:List aO)=>aP aA.li [] s6.1 fun (y9:List aO)=>q0 104) (R (T.bZ [T.agg [T.v (.string y2.1),T.v (.int .i64 y2.2.1), T.v (.int .i64 y2.2.2.1), T.v (.string y2.2.2.2.1), T.v (.string y2.2.2.2.2.1), T.v (.int .i64 y2.2.2.2.2.2.1), T.sl false (f8 y3),T.sl false [], T.v (.string y2.2.2.2.2.2.2.2.1), T.v (.int .i64 y2.2.2.2.2.2.2.2.2.1), T.v (.int .i64 y2.2.2.2.2.2.2.2.2.2.1), T.v (.int .i64 y2.2.2.2.2.2.2.2.2.2.2.1.1), T.v (.int .i64 y2.2.2.2.2.2.2.2.2.2.2.1.2.1), T.v (.int .i64 y2.2.2.2.2.2.2.2.2.2.2.1.2.2), T.v (.int .i64 y2.2.2.2.2.2.2.2.2.2.2.2.1.1), T.v (.int .i64 y2.2.2.2.2.2.2.2.2.2.2.2.1.2.1), T.v (.int .i64 y2.2.2.2.2.2.2.2.2.2.2.2.1.2.2), T.v (.int .i64 y2.2.2.2.2.2.2.2.2.2.2.2.2)], T.v (.bool true)]))) (0,())) (cH aA.li (List.map aA.li.enc y4) fun (y10:List (List aO))=>aZ (Int×List (List aO)×PUnit) (fun X11 s12=>aD (decide (s12.1<(↑(List.map aA.li.enc y4).length:Int))) (aP aA.li (LT s12) s12.1 fun (y13:List aO)=>fR aA.li (LT s12) (Int.toNat s12.1) 0 fun (y14:List aO)=>aI eI (fH (BF1 y14)) fun (y15:List aO)=>aP aA.li (LT s12) s12.1 fun (y16:List aO)=>sJ (LT s12) (Int.toNat s12.1) fun (y17:List T)=>bQ (decide (1≤y17.length)) (cH aA.li ((LT s12).set (Int.toNat s12.1) (bP y17 0 (BF1 y15))) fun (y18:List (List aO))=>X11 (IntKind.i64.wrap (s12.1+1),y18,()))) (R (T.bZ [T.agg [T.v (.string y2.1), T.v (.int .i64 y2.2.1), T.v (.int .i64 y2.2.2.1), T.v (.string y2.2.2.2.1), T.v (.string y2.2.2.2.2.1), T.v (.int .i64 y2.2.2.2.2.2.1), T.sl false (f8 y3), T.sl false (LT s12), T.v (.string y2.2.2.2.2.2.2.2.1), T.v (.int .i64 y2.2.2.2.2.2.2.2.2.1), T.v (.int .i64 y2.2.2.2.2.2.2.2.2.2.1), T.v (.int .i64 y2.2.2.2.2.2.2.2.2.2.2.1.1), T.v (.int .i64 y2.2.2.2.2.2.2.2.2.2.2.1.2.1), T.v (.int .i64 y2.2.2.2.2.2.2.2.2.2.2.1.2.2), T.v (.int .i64 y2.2.2.2.2.2.2.2.2.2.2.2.1.1), T.v (.int .i64 y2.2.2.2.2.2.2.2.2.2.2.2.1.2.1), T.v (.int .i64 y2.2.2.2.2.2.2.2.2.2.2.2.1.2.2), T.v (.int .i64 y2.2.2.2.2.2.2.2.2.2.2.2.2)], T.v (.bool true)]))) (0,y10,()))) (gN (bB.rows false [[D.p d5, D.p (T.v (.int .i64 0)), D.p (T.v (.int .i64 0)), D.p d5, D.p d5, D.p (T.v (.int .i64 0)), D.p d8,D.p d8, D.p d5, D.p (T.v (.int .i64 0)), D.p (T.v (.int .i64 0)), D.p (T.v (.int .i64 0)), D.p (T.v (.int .i64 0)), D.p (T.v (.int .i64 0)), D.p (T.v (.int .i64 0)), D.p (T.v (.int .i64 0)), D.p (T.v (.int .i64 0)), D.p (T.v (.int .i64 0))]]) (bB.rows false [[D.p d5, D.p (T.v (.int .i64 0)), D.p (T.v (.int .i64 0)), D.p d5, D.p d5, D.p (T.v (.int .i64 0)), D.p d8,D.p d8, D.p d5, D.p (T.v (.int .i64 0)), D.p (T.v (.int .i64 0)), D.p (T.v (.int .i64 0)), D.p (T.v (.int .i64 0)), D.p (T.v (.int .i64 0)), D.p (T.v (.int .i64 0)), D.p (T.v (.int .i64 0)), D.p (T.v (.int .i64 0)), D.p (T.v (.int .i64 0))]]) (X0 (IntKind.i64.wrap (s1.1+1),(),())))) (R (T.bZ [T.agg [T.v (.string {data:=#[]}),T.v (.int .i64 0), T.v (.int .i64 0),T.v (.string {data:=#[]}), T.v (.string {data:=#[]}),T.v (.int .i64 0), T.sl false [],T.sl false [],T.v (.string {data:=#[]}), T.v (.int .i64 0),T.v (.int .i64 0), T.v (.int .i64 0),T.v (.int .i64 0), T.v (.int .i64 0),T.v (.int .i64 0), T.v (.int .i64 0),T.v (.int .i64 0), T.v (.int .i64 0)], T.v (.bool false)]))) (0,(),()))
abbrev XK:Sh:=[(true,aB),(false,Sy.str)]
noncomputable def lJ:List T→Option T:=gS XK lE
theorem qL {a0 a1}:lJ [aF true aB a0,T.v (.string a1)]=lE (a0,a1):=bE (s:=XK) rfl (a0,a1) rfl
theorem A00:r8 Tryz.prog 136 lJ lE (cC XK) U5:=iB (a1:=(true,aB)) (a2:=(false,Sy.str)) (sp:=lE) (F:=U5) (Hs:=A32) (f:=136) (k:=8) AOI aQ aS (aL rfl) ⟨_,_,Tryz.func136,rfl⟩ rfl fun _ _ _=>by kernel_rfl
theorem EC:aN Tryz.prog 136 lJ:=A00 fun d id r h hb=>by
 have hl:d.2.2.1.length≤2 ^ 47:=hb.1.2.2.1.1
 unfold lE at h
 split at h
 ·rename_i hok
  unfold U5 BF9 BF1 LT t7 f8 FS eI d8 d5
  rw[dF]
  refine bM d.2.2.1.length (fun k s=>s=((k:Int),(),())∧(d.2.2.1.drop k).find? (fun s=>decide (s.1=id))=partOf d id) ⟨rfl,rfl⟩ ?_
  rintro X k s hk ⟨rfl,hf⟩ hX
  simp only[List.length_map,H3,dF]
  by_cases hlt:k<d.2.2.1.length
  ·rw[pO hlt] at hf
   have hp:dR d.2.2.1[k]=true:=List.all_eq_true.1 hok _ (List.getElem_mem hlt)
   simp only[hlt,decide_true,aD,bG (r:=aJ) hlt]
   generalize d.2.2.1[k]=p at *
   unfold dR zN at hp
   simp only[Bool.and_eq_true] at hp
   obtain ⟨⟨hp1,hp2⟩,hp3⟩:=hp
   cases hc:decide (p.1=id) with
   | true =>
    simp only[hc,if_true] at hf
    simp only[YD,←hf] at h
    cases h
    simp only[]
    refine aG (s:=[(false,aA.li)]) (y:=p.2.2.2.2.2.2.1.1) (by rw[kJ,dW,iC hp1];rfl) ?_
    refine eE (r:=.li aA) (l:=p.2.2.2.2.2.2.1.2) (by rw[Q8,iC hp2]) _ ?_
    obtain ⟨p1,p2,p3,p4,p5,p6,⟨o,hs⟩,p7⟩:=p
    have hb47:hs.length≤140737488355328:=by
     simp only[dB,Bool.and_eq_true,decide_eq_true_eq] at hp2;exact hp2.2
    cases hs with
    | nil =>
     simp only[List.isEmpty_nil]
     refine bM 0 (fun k s=>s=((k:Int),())) rfl ?_
     rintro X k s hk rfl hX
     have:k=0:=by omega
     subst this
     rfl
    | cons h0 hs =>
     generalize hhs:h0::hs=hh at *
     have he:hh.isEmpty=false:=by rw[←hhs];rfl
     simp only[he]
     rw[eT (r:=.li aA) rfl]
     refine bM hh.length (fun k s=>s=((k:Int),hh,())) rfl ?_
     rintro X k s hk rfl hX
     simp only[List.length_map,H3]
     by_cases hlt:k<hh.length
     ·have hok:dB 16 hh[k].length=true:=List.all_eq_true.1 hp3 _ (List.getElem_mem hlt)
      simp only[hlt,decide_true,Int.toNat_natCast,bG (r:=.li aA) hlt,iQ (r:=.li aA) hlt,nC (r:=.li aA) hlt]
      refine aG (s:=[(false,aA.li)]) (y:=hh[k]) (by rw[kJ,dW,iC hok];rfl) ?_
      refine ⟨rfl,?_⟩
      have e:bP (Sy.enc (.li aA) hh[k]) 0 [T.sl false (List.map aA.enc hh[k])]=Sy.enc (.li aA) hh[k]:=rfl
      rw[e,FW (r:=.li aA) hlt,eT (r:=.li aA) rfl]
      refine hX _ hlt ?_
      simp only[Prod.mk.injEq,and_true]
      exact bH _ (by omega) (by omega)
     ·simp only[hlt,decide_false]
      rfl
   | false =>
    simp only[hc] at hf
    refine hX _ hlt ⟨?_,hf⟩
    simp only[Prod.mk.injEq,and_true]
    exact bH _ (by omega) (by omega)
  ·have:k=d.2.2.1.length:=by omega
   subst this
   simp only[List.drop_length,List.find?_nil] at hf
   simp only[YD,←hf] at h
   simp only[hlt,decide_false,aD]
   cases h;rfl
 ·cases h
end Go.Pv
namespace Go.Pv
open Go Go.Proofs
abbrev o5:Sh:=[(false,.bool)]
theorem gH {p:Prop} {i:Decidable p} (h:p) {A B:Prop} (ha:A):aD (@decide p i) A B:=by rw[show @decide p i=true from decide_eq_true h];exact ha
theorem jC {p:Prop} {i:Decidable p} (h:¬ p) {A B:Prop} (hb:B):aD (@decide p i) A B:=by rw[show @decide p i=false from decide_eq_false h];exact hb
theorem cF {p:Prop} {i:Decidable p} {A B:Prop} (h1:p→A) (h2:¬ p→B):aD (@decide p i) A B:=by
 by_cases h:p
 ·rw[decide_eq_true h];exact h1 h
 ·rw[decide_eq_false h];exact h2 h
theorem mA {p:Prop} {i:Decidable p} {A B:Prop} (h1:¬ p→A) (h2:p→B):aD (!(@decide p i)) A B:=by
 by_cases h:p
 ·rw[decide_eq_true h];exact h2 h
 ·rw[decide_eq_false h];exact h1 h
theorem BH {c:Bool} {A B:Prop} (h1:c=true→A) (h2:c=false→B):aD c A B:=by cases c with
 | true=>exact h1 rfl
 | false=>exact h2 rfl
theorem jS {c:Bool} {A B:Prop} (h1:c=false→A) (h2:c=true→B):aD (!c) A B:=by cases c with
 | true=>exact h2 rfl
 | false=>exact h1 rfl
def cI {α:Type} (f:α→Int):List α→Int
 | []=>0
 | a::l=>if f a=0 then cI f l else f a
theorem lR {r:Sy} {l:List r.den} (f:r.den→Int) (hl:l.length≤140737488355328) {Body:(Int×PUnit→Prop)→Int×PUnit→r.den→Prop} {Exit:Prop}
  (hbody:∀ (X:Int×PUnit→Prop) (s:Int×PUnit) (y:r.den),y∈l→(f y=0→X (IntKind.i64.wrap (s.1+1),()))→(f y≠0→cI f l=f y)→Body X s y) (hexit:cI f l=0→Exit) :
  aZ (Int×PUnit) (fun (X:Int×PUnit→Prop) (s:Int×PUnit)=>aD (decide (s.1<((List.map r.enc l).length:Int))) (aP r (List.map r.enc l) s.1 fun y=>Body X s y) Exit) (0,()):=by
 refine bM l.length (fun k s=>s=((k:Int),())∧cI f l=cI f (l.drop k)) ⟨rfl,by rw[List.drop_zero]⟩ ?_
 rintro X k s hk ⟨rfl,he⟩ hX
 dsimp only
 refine cF (fun hlt=>?_) fun hge=>?_
 ·rw[List.length_map] at hlt
  have hlt:k<l.length:=by omega
  rw[bG hlt]
  have hd:l.drop k=l[k]::l.drop (k+1):=List.drop_eq_getElem_cons hlt
  rw[hd,cI] at he
  refine hbody X _ _ (List.getElem_mem hlt) (fun h0=>?_) fun h0=>by rw[he,if_neg h0]
  rw[if_pos h0] at he
  exact hX _ hlt ⟨by rw[show IntKind.i64.wrap ((k:Int)+1)=((k+1:Nat):Int) from bH _ (by omega) (by omega)],he⟩
 ·rw[List.length_map] at hge
  have:k=l.length:=by omega
  subst this
  rw[List.drop_length] at he
  exact hexit he
end Go.Pv
namespace Go.Pv
open Go Go.Proofs
def upF (d:aC):Nat→ByteArray→List ByteArray→List ByteArray×Bool
 | 0,_,_=>([],false)
 | n+1,id,l=>match j6 d id with
  | none=>([],false)
  | some x=>if x.2.1=1 then (l++[id],true) else upF d n x.2.2 (l++[id])
def up (d:aC) (id:ByteArray):List ByteArray×Bool:=upF d 65 id []
theorem ANA {d:aC}:∀ {n:Nat} {id:ByteArray} {l:List ByteArray},(upF d n id l).1.length≤l.length+n
 | 0,_,_=>by simp[upF]
 | n+1,id,l=>by
  unfold upF
  cases j6 d id with
  | none=>simp
  | some x =>
   by_cases hx:x.2.1=1
   ·simp only[hx,if_true]
    simp
   ·simp only[hx,if_false]
    have:=ANA (d:=d) (n:=n) (id:=x.2.2) (l:=l++[id])
    simp at this;omega
theorem BC4 (d:aC) (id:ByteArray):(up d id).1.length≤65:=by have:=ANA (d:=d) (n:=65) (id:=id) (l:=[]);simpa [up] using this
theorem A89 {l:List ByteArray} (h:l.length≤8000000000000) (K:Prop):bQ (decide (((List.map Sy.str.enc l).length+1)*16≤140737488355328)&&decide ((List.map Sy.str.enc l).length+1≤140737488355328)) K=K:=by
 have e:(decide (((List.map Sy.str.enc l).length+1)*16≤140737488355328)&&decide ((List.map Sy.str.enc l).length+1≤140737488355328))=true:=by
  simp only[List.length_map,Bool.and_eq_true,decide_eq_true_eq]
  omega
 rw[e];simp[bQ]
theorem AWZ {l:List ByteArray} {x:ByteArray} (K:List ByteArray→Prop):cH Sy.str (List.map Sy.str.enc l++[[T.v (.string x)]]) K=K (l++[x]):=sV (r:=.str) rfl l _ x rfl K
theorem AXA {l:List ByteArray} {x:ByteArray}:List.map Sy.str.enc l++[[T.v (.string x)]]=List.map Sy.str.enc (l++[x]):=by simp[Sy.enc]
end Go.Pv
namespace Go.Pv
open Go Go.Proofs
noncomputable def nH {α:Type} (a b:α):Bool:=@decide (a=b) (Classical.propDecidable _)
theorem dP {α:Type} {a b:α}:nH a b=true↔a=b:=by unfold nH;exact @decide_eq_true_iff _ (Classical.propDecidable _)
@[simp] theorem AA0 {α:Type} (a:α):nH a a=true:=dP.2 rfl
theorem uR {α:Type} {a b:α} (h:¬ a=b):nH a b=false:=by
 cases hc:nH a b with
 | false=>rfl
 | true=>exact absurd (dP.1 hc) h
theorem AC9 (c d:Bool) (r:T):aD c (T.v (.bool d)=r) (T.v (.bool false)=r)=(T.v (.bool (c&&d))=r):=by cases c<;>simp[aD]
theorem S9 (c d:Bool) (r:T):aD (!c) (T.v (.bool false)=r) (T.v (.bool d)=r)=(T.v (.bool (c&&d))=r):=by cases c<;>simp[aD]
theorem A74 (x:Bool):Sh.enc o5 x=T.v (.bool x):=rfl
theorem tY (y:Bool) (K:Bool→Prop):aI [(false,Sy.bool)] (some (Sh.enc o5 y)) K=K y:=yW (s:=o5) rfl y K
theorem ASP {r:Sy} {l m:List r.den} (hlen:l.length=m.length) (hl:l.length≤2 ^ 47) (test:r.den→r.den→Bool) (ht:∀ x y,test x y=true↔x=y) {R:T→Prop} (hR:R (T.v (.bool (nH l m)))) :
  aZ (Int×PUnit) (fun (X:Int×PUnit→Prop) (s:Int×PUnit)=>aD (decide (s.1<(↑(List.map r.enc l).length:Int))) (aP r (List.map r.enc l) s.1 fun y=>aP r (List.map r.enc m) s.1 fun z=>aD (!(test y z)) (R (T.v (.bool false))) (X (IntKind.i64.wrap (s.1+1),()))) (R (T.v (.bool true)))) (0,()):=by
 refine bM l.length (fun k s=>s=((k:Int),())∧(l=m↔l.drop k=m.drop k)) ⟨rfl,by simp⟩ ?_
 rintro X k s hk ⟨rfl,he⟩ hX
 dsimp only
 by_cases hlt:k<l.length
 ·have hlt2:k<m.length:=by omega
  refine gH (by simp[hlt]) ?_
  rw[bG hlt,bG hlt2]
  rw[List.drop_eq_getElem_cons hlt,List.drop_eq_getElem_cons hlt2,List.cons.injEq] at he
  by_cases h1:l[k]=m[k]
  ·rw[(ht _ _).2 h1,Bool.not_true,mX]
   refine hX _ hlt ⟨by rw[show IntKind.i64.wrap ((k:Int)+1)=((k+1:Nat):Int) from bH _ (by omega) (by omega)],?_⟩
   rw[he];exact ⟨fun h=>h.2,fun h=>⟨h1,h⟩⟩
  ·have:test l[k] m[k]=false:=by
    cases hc:test l[k] m[k] with
    | false=>rfl
    | true=>exact absurd ((ht _ _).1 hc) h1
   rw[this,Bool.not_false,jT]
   rwa[uR fun h=>h1 (he.1 h).1] at hR
 ·have:k=l.length:=by omega
  subst this
  refine jC (by simp) ?_
  rwa[dP.2 (he.2 (by rw[List.drop_length,hlen,List.drop_length]))] at hR
theorem FV {r:Sy} {l m:List r.den} (hl:l.length≤2 ^ 47) (test:r.den→r.den→Bool) (ht:∀ x y,test x y=true↔x=y) {R:T→Prop} (hR:R (T.v (.bool (nH l m)))) :
  aD (!decide ((↑(List.map r.enc l).length:Int)=(↑(List.map r.enc m).length:Int))) (R (T.v (.bool false))) (aZ (Int×PUnit) (fun (X:Int×PUnit→Prop) (s:Int×PUnit)=>aD (decide (s.1<(↑(List.map r.enc l).length:Int))) (aP r (List.map r.enc l) s.1 fun y=>aP r (List.map r.enc m) s.1 fun z=>aD (!(test y z)) (R (T.v (.bool false))) (X (IntKind.i64.wrap (s.1+1),()))) (R (T.v (.bool true)))) (0,())):=by
 by_cases hlen:l.length=m.length
 ·rw[show (!decide ((↑(List.map r.enc l).length:Int)=(↑(List.map r.enc m).length:Int)))=false by simp[hlen],mX]
  exact ASP hlen hl test ht hR
 ·rw[show (!decide ((↑(List.map r.enc l).length:Int)=(↑(List.map r.enc m).length:Int)))=true by simp;omega,jT]
  rwa[uR fun h=>hlen (by rw[h])] at hR
def o0 (d:aC) (id:ByteArray):Option aV:=d.2.2.2.2.1.find? fun s=>decide (s.1=id)
def noPack:aV:=(⟨#[]⟩,⟨#[]⟩,[],0,[])
theorem AAP:LR Tryz.prog 103 1 16:=⟨fun R=>by kernel_rfl,fun fl R=>by kernel_rfl,fun fl a rows R=>by kernel_rfl⟩
noncomputable def gE:List T→Option T:=gS [(false,.li .str)] (dW .str 16)
theorem jP {u0}:gE [T.sl false (List.map (Sy.enc .str) u0)]=dW .str 16 u0:=bE (s:=[(false,.li .str)]) rfl u0 rfl
theorem xF:aN Tryz.prog 103 gE:=yY aQ aS ⟨_,_,Tryz.func103,rfl⟩ AAP
def dJ (p:aV):Bool:=dB 16 p.2.2.1.length&&dB 16 p.2.2.2.2.length
def BM (d:aC):Bool:=d.2.2.2.2.1.all dJ
def ADZ (d:aC) (t:T):Option T:=match BM d with
 | true=>some t
 | false=>none
theorem A1B {d:aC} {t r:T} (h:ADZ d t=some r):BM d=true∧r=t:=by
 unfold ADZ at h;split at h
 ·cases h;exact ⟨by assumption,rfl⟩
 ·cases h
theorem AD0 {d:aC} (t:T) (h:BM d=true):ADZ d t=some t:=by unfold ADZ;rw[h]
def AA (x:aC×ByteArray):Option T:=ADZ x.1 (Sh.enc [(true,aE),(false,.bool)] (found noPack (o0 x.1 x.2)))
noncomputable def A8Y:Env:=Env.of [(103,.pure gE)]
def A83:FuncId→Hint:=bX 261 [(2,.inv [.val 11 false (.int .i64),.fix 1])] (fun _=>bI)
theorem AT0:aT Tryz.prog A8Y:=.cons xF (.nil _)
def d9:Sh:=[(false,Sy.str.li)]
def i7(a0:aC):List (List T):=List.map aE.enc a0.2.2.2.2.1
def GT(y3:List ByteArray):List (List T):=List.map Sy.str.enc y3
def BF5(y2:aV):List (List T):=List.map Sy.str.enc y2.2.2.2.2
def BF8(y2:aV):List (List T):=List.map Sy.str.enc y2.2.2.1
def AGF(a0:aC)(a1:ByteArray)(R:T→Prop):Prop:=gN (bB.rows false [[D.p d5,D.p d5, D.p d8,D.p (T.v (.int .i64 0)), D.p d8]]) (bB.rows false [[D.p d5,D.p d5, D.p d8,D.p (T.v (.int .i64 0)), D.p d8]]) (aZ (Int×PUnit×PUnit) (fun X0 s1=>aD (decide (s1.1<(↑(i7 a0).length:Int))) (aP aE (i7 a0) s1.1 fun (y2:aV)=>aD (decide (y2.1=a1)) (aI d9 (gE [T.sl false (BF8 y2)]) fun (y3:List ByteArray)=>aI d9 (gE [T.sl false (BF5 y2)]) fun (y4:List ByteArray)=>R (T.bZ [T.agg [T.v (.string y2.1),T.v (.string y2.2.1), T.sl false (GT y3), T.v (.int .i64 y2.2.2.2.1), T.sl false (GT y4)], T.v (.bool true)])) (gN (bB.rows false [[D.p d5, D.p d5, D.p d8, D.p (T.v (.int .i64 0)), D.p d8]]) (bB.rows false [[D.p d5, D.p d5, D.p d8, D.p (T.v (.int .i64 0)), D.p d8]]) (X0 (IntKind.i64.wrap (s1.1+1),(),())))) (R (T.bZ [T.agg [T.v (.string {data:=#[]}),T.v (.string {data:=#[]}), T.sl false [],T.v (.int .i64 0),T.sl false []], T.v (.bool false)]))) (0,(),()))
abbrev AJ1:Sh:=[(true,aB),(false,Sy.str)]
noncomputable def CJ:List T→Option T:=gS AJ1 AA
theorem SW {a0 a1}:CJ [aF true aB a0,T.v (.string a1)]=AA (a0,a1):=bE (s:=AJ1) rfl (a0,a1) rfl
theorem A6R:r8 Tryz.prog 261 CJ AA (cC AJ1) AGF:=iB (a1:=(true,aB)) (a2:=(false,Sy.str)) (sp:=AA) (F:=AGF) (Hs:=A83) (f:=261) (k:=8) AT0 aQ aS (aL rfl) ⟨_,_,Tryz.func261,rfl⟩ rfl fun _ _ _=>by kernel_rfl
theorem ALU:aN Tryz.prog 261 CJ:=A6R fun d id r h hb=>by
 have hl:d.2.2.2.2.1.length≤2 ^ 47:=hb.1.2.2.2.2.1.1
 obtain ⟨hok,rfl⟩:=A1B h
 clear h
 unfold AGF BF8 BF5 GT i7 d9 d8 d5
 rw[dF]
 refine bM d.2.2.2.2.1.length (fun k s=>s=((k:Int),(),())∧(d.2.2.2.2.1.drop k).find? (fun s=>decide (s.1=id))=o0 d id) ⟨rfl,rfl⟩ ?_
 rintro X k s hk ⟨rfl,hf⟩ hX
 simp only[List.length_map,H3,dF]
 by_cases hlt:k<d.2.2.2.2.1.length
 ·rw[pO hlt] at hf
  have hp:dJ d.2.2.2.2.1[k]=true:=List.all_eq_true.1 hok _ (List.getElem_mem hlt)
  simp only[hlt,decide_true,aD,bG (r:=aE) hlt]
  unfold dJ at hp
  simp only[Bool.and_eq_true] at hp
  cases hc:decide (d.2.2.2.2.1[k].1=id) with
  | true =>
   simp only[hc,if_true] at hf
   rw[←hf]
   refine aG (s:=[(false,.li .str)]) (y:=d.2.2.2.2.1[k].2.2.1) (by rw[jP,dW,iC hp.1];rfl) ?_
   refine aG (s:=[(false,.li .str)]) (y:=d.2.2.2.2.1[k].2.2.2.2) (by rw[jP,dW,iC hp.2];rfl) ?_
   rfl
  | false =>
   simp only[hc] at hf
   refine hX _ hlt ⟨?_,hf⟩
   simp only[Prod.mk.injEq,and_true]
   exact bH _ (by omega) (by omega)
 ·have:k=d.2.2.2.2.1.length:=by omega
  subst this
  simp only[List.drop_length,List.find?_nil] at hf
  rw[←hf]
  simp only[hlt,decide_false,aD]
  rfl
noncomputable def uF (x:List aO×List aO):Option T:=some (Sh.enc o5 (nH x.1 x.2))
noncomputable def uG (x:jQ×jQ):Option T:=some (Sh.enc o5 (nH x.1 x.2))
noncomputable def oQ (x:bC×bC):Option T:=some (Sh.enc o5 (nH x.1 x.2))
noncomputable def yQ (x:List ByteArray×List ByteArray):Option T:=some (Sh.enc o5 (nH x.1 x.2))
noncomputable def oP (x:aV×aV):Option T:=some (Sh.enc o5 (nH x.1 x.2))
def AV1:FuncId→Hint:=bX 105 [(4,.inv [.val 5 false (.int .i64)])] (fun _=>bI)
def d3:T:=T.v (.bool false)
def d6:T:=T.v (.bool true)
def IO(a0:List aO)(a1:List aO)(R:T→Prop):Prop:=aZ (Int×PUnit) (fun X0 s1=>aD (decide (s1.1<(↑(f8 a0).length:Int))) (aP aA (f8 a0) s1.1 fun (y2:aO)=>aP aA (f8 a1) s1.1 fun (y3:aO)=>aD (!(decide (y2.1=y3.1)&&(decide (y2.2=y3.2)&&true))) (R d3) (f7 X0 s1)) (R d6)) (0,())
def MR(a0:List aO)(a1:List aO)(R:T→Prop):Prop:=aD (!decide ((↑(f8 a0).length:Int)=(↑(f8 a1).length:Int))) (R d3) (IO a0 a1 R)
abbrev P4:Sh:=[(false,aA.li),(false,aA.li)]
noncomputable def tO:List T→Option T:=gS P4 uF
theorem AC2 {a0 a1}:tO [T.sl false (List.map aA.enc a0),T.sl false (List.map aA.enc a1)]=uF (a0,a1):=bE (s:=P4) rfl (a0,a1) rfl
theorem AR8:r8 Tryz.prog 105 tO uF (cC P4) MR:=iB (a1:=(false,aA.li)) (a2:=(false,aA.li)) (sp:=uF) (F:=MR) (Hs:=AV1) (f:=105) (k:=8) (bW _) aQ aS (aL rfl) ⟨_,_,Tryz.func105,rfl⟩ rfl fun _ _ _=>by kernel_rfl
theorem AQG:aN Tryz.prog 105 tO:=AR8 fun a b r h hb=>by
 cases h
 unfold MR IO f8 f7 d6 d3
 refine FV (r:=aA) (R:=fun y=>y=Sh.enc o5 (nH a b)) hb.1.1 _ (fun x y=>?_) rfl
 simp only[Bool.and_true,Bool.and_eq_true,decide_eq_true_eq,Prod.ext_iff]
noncomputable def ATO:Env:=Env.of [(105,.pure tO)]
def AV2:FuncId→Hint:=bX 68 [(4,.inv [.val 5 false (.int .i64)])] (fun _=>bI)
theorem AFV:aT Tryz.prog ATO:=.cons AQG (.nil _)
def d4:Sh:=[(false,Sy.bool)]
def BGD(a0:jQ):List (List T):=List.map aA.li.enc a0.2
def MS(a0:jQ)(a1:jQ)(R:T→Prop):Prop:=aI d4 (tO [T.sl false (List.map aA.enc a0.1),T.sl false (List.map aA.enc a1.1)]) fun (y0:Bool)=>aD (!y0) (R d3) (aD (!decide ((↑(BGD a0).length:Int) = (↑(BGD a1).length:Int))) (R d3) (aZ (Int×PUnit) (fun X1 s2=>aD (decide (s2.1<(↑(BGD a0).length:Int))) (aP aA.li (BGD a0) s2.1 fun (y3:List aO)=>aP aA.li (BGD a1) s2.1 fun (y4:List aO)=>aI d4 (tO [T.sl false (f8 y3),T.sl false (f8 y4)]) fun (y5:Bool)=>aD (!y5) (R d3) (f7 X1 s2)) (R d6)) (0,())))
abbrev P5:Sh:=[(true,eR),(true,eR)]
noncomputable def xX:List T→Option T:=gS P5 uG
theorem AC3 {a0 a1}:xX [aF true eR a0,aF true eR a1]=uG (a0,a1):=bE (s:=P5) rfl (a0,a1) rfl
theorem AR9:r8 Tryz.prog 68 xX uG (cC P5) MS:=iB (a1:=(true,eR)) (a2:=(true,eR)) (sp:=uG) (F:=MS) (Hs:=AV2) (f:=68) (k:=8) AFV aQ aS (aL rfl) ⟨_,_,Tryz.func68,rfl⟩ rfl fun _ _ _=>by kernel_rfl
theorem AQH:aN Tryz.prog 68 xX:=AR9 fun a b r h hb=>by
 cases h
 unfold MS BGD f8 f7 d6 d4 d3
 have u:=@AC2
 simp only[u,uF,tY]
 by_cases h1:a.1=b.1
 ·rw[dP.2 h1,Bool.not_true,mX]
  refine FV (r:=.li aA) (R:=fun y=>y=Sh.enc o5 (nH a b)) hb.1.2.1 _ (fun x y=>dP) ?_
  show T.v (.bool (nH a.2 b.2))=T.v (.bool (nH a b))
  congr 2
  rw[Bool.eq_iff_iff,dP,dP,Prod.ext_iff]
  exact ⟨fun h=>⟨h1,h⟩,fun h=>h.2⟩
 ·rw[uR h1,Bool.not_false,jT,uR fun h=>h1 (by rw[h])];rfl
noncomputable def AFB:Env:=Env.of [(68,.pure xX)]
theorem UP:aT Tryz.prog AFB:=.cons AQH (.nil _)
def B1(a0:bC)(a1:bC)(R:T→Prop):Prop:=aD (!decide (a0.1=a1.1)) (R d3) (aD (!decide (a0.2.1=a1.2.1)) (R d3) (aD (!decide (a0.2.2.1=a1.2.2.1)) (R d3) (aD (!decide (a0.2.2.2.1=a1.2.2.2.1)) (R d3) (aD (!decide (a0.2.2.2.2.1=a1.2.2.2.2.1)) (R d3) (aD (!decide (a0.2.2.2.2.2.1=a1.2.2.2.2.2.1)) (R d3) (aI d4 (xX [aF true eR a0.2.2.2.2.2.2.1, aF true eR a1.2.2.2.2.2.2.1]) fun (y0:Bool)=>aD y0 (aD (decide (a0.2.2.2.2.2.2.2.1=a1.2.2.2.2.2.2.2.1)) (aD (decide (a0.2.2.2.2.2.2.2.2.1=a1.2.2.2.2.2.2.2.2.1)) (aD (decide (a0.2.2.2.2.2.2.2.2.2.1=a1.2.2.2.2.2.2.2.2.2.1)) (aD (decide (a0.2.2.2.2.2.2.2.2.2.2.1.1 = a1.2.2.2.2.2.2.2.2.2.2.1.1) && (decide (a0.2.2.2.2.2.2.2.2.2.2.1.2.1 = a1.2.2.2.2.2.2.2.2.2.2.1.2.1) && (decide (a0.2.2.2.2.2.2.2.2.2.2.1.2.2 = a1.2.2.2.2.2.2.2.2.2.2.1.2.2) && true))) (R (T.v (.bool (decide (a0.2.2.2.2.2.2.2.2.2.2.2.1.1 = a1.2.2.2.2.2.2.2.2.2.2.2.1.1) && (decide (a0.2.2.2.2.2.2.2.2.2.2.2.1.2.1 = a1.2.2.2.2.2.2.2.2.2.2.2.1.2.1) && (decide (a0.2.2.2.2.2.2.2.2.2.2.2.1.2.2 = a1.2.2.2.2.2.2.2.2.2.2.2.1.2.2) && true)) && (decide (a0.2.2.2.2.2.2.2.2.2.2.2.2 = a1.2.2.2.2.2.2.2.2.2.2.2.2) && true))))) (R d3)) (R d3)) (R d3)) (R d3)) (R d3)))))))
abbrev DM:Sh:=[(true,aJ),(true,aJ)]
noncomputable def lT:List T→Option T:=gS DM oQ
theorem BD {a0 a1}:lT [aF true aJ a0,aF true aJ a1]=oQ (a0,a1):=bE (s:=DM) rfl (a0,a1) rfl
theorem ADW:r8 Tryz.prog 25 lT oQ (cC DM) B1:=iB (a1:=(true,aJ)) (a2:=(true,aJ)) (sp:=oQ) (F:=B1) (Hs:=dI) (f:=25) (k:=8) UP aQ aS (aL rfl) ⟨_,_,Tryz.func25,rfl⟩ rfl fun _ _ _=>by kernel_rfl
theorem JM:aN Tryz.prog 25 lT:=ADW fun a b r h hb=>by
 cases h
 unfold B1 d4 d3
 simp only[AC3,uG,tY]
 simp only[A74,AC9,S9]
 congr 2
 rw[Bool.eq_iff_iff,dP]
 simp only[Bool.and_true,Bool.and_eq_true,decide_eq_true_eq,dP,Prod.ext_iff,and_assoc]
def A34:FuncId→Hint:=bX 69 [(4,.inv [.val 5 false (.int .i64)])] (fun _=>bI)
def VB(a0:List ByteArray)(a1:List ByteArray)(R:T→Prop):Prop:=aD (!decide ((↑(GT a0).length:Int)=(↑(GT a1).length:Int))) (R d3) (aZ (Int×PUnit) (fun X0 s1=>aD (decide (s1.1<(↑(GT a0).length:Int))) (aP Sy.str (GT a0) s1.1 fun (y2:ByteArray)=>aP Sy.str (GT a1) s1.1 fun (y3:ByteArray)=>aD (!decide (y2=y3)) (R d3) (f7 X0 s1)) (R d6)) (0,()))
abbrev XQ:Sh:=[(false,Sy.str.li),(false,Sy.str.li)]
noncomputable def zH:List T→Option T:=gS XQ yQ
theorem AII {a0 a1}:zH [T.sl false (List.map Sy.str.enc a0),T.sl false (List.map Sy.str.enc a1)]=yQ (a0,a1):=bE (s:=XQ) rfl (a0,a1) rfl
theorem A06:r8 Tryz.prog 69 zH yQ (cC XQ) VB:=iB (a1:=(false,Sy.str.li)) (a2:=(false,Sy.str.li)) (sp:=yQ) (F:=VB) (Hs:=A34) (f:=69) (k:=8) (bW _) aQ aS (aL rfl) ⟨_,_,Tryz.func69,rfl⟩ rfl fun _ _ _=>by kernel_rfl
theorem AXY:aN Tryz.prog 69 zH:=A06 fun a b r h hb=>by
 cases h
 unfold VB GT f7 d6 d3
 exact FV (r:=.str) (R:=fun y=>y=Sh.enc o5 (nH a b)) hb.1.1 _ (fun x y=>decide_eq_true_iff) rfl
noncomputable def AFA:Env:=Env.of [(69,.pure zH)]
theorem UO:aT Tryz.prog AFA:=.cons AXY (.nil _)
def B0(a0:aV)(a1:aV)(R:T→Prop):Prop:=aD (decide (a0.1=a1.1)) (aD (decide (a0.2.1=a1.2.1)) (aD (decide (a0.2.2.2.1=a1.2.2.2.1)) (aI d4 (zH [T.sl false (BF8 a0), T.sl false (BF8 a1)]) fun (y0:Bool)=>aD y0 (aI d4 (zH [T.sl false (BF5 a0), T.sl false (BF5 a1)]) fun (y1:Bool)=>R (T.v (.bool y1))) (R d3)) (R d3)) (R d3)) (R d3)
abbrev DL:Sh:=[(true,aE),(true,aE)]
noncomputable def lS:List T→Option T:=gS DL oP
theorem BC {a0 a1}:lS [aF true aE a0,aF true aE a1]=oP (a0,a1):=bE (s:=DL) rfl (a0,a1) rfl
theorem ADV:r8 Tryz.prog 26 lS oP (cC DL) B0:=iB (a1:=(true,aE)) (a2:=(true,aE)) (sp:=oP) (F:=B0) (Hs:=dI) (f:=26) (k:=8) UO aQ aS (aL rfl) ⟨_,_,Tryz.func26,rfl⟩ rfl fun _ _ _=>by kernel_rfl
theorem JL:aN Tryz.prog 26 lS:=ADV fun a b r h hb=>by
 cases h
 unfold B0 BF8 BF5 d4 d3
 have u:=@AII
 simp only[u,yQ,tY]
 simp only[A74,AC9,S9]
 congr 2
 rw[Bool.eq_iff_iff,dP]
 simp only[Bool.and_true,Bool.and_eq_true,decide_eq_true_eq,dP,Prod.ext_iff]
 exact ⟨fun ⟨h1,h2,h3,h4,h5⟩=>⟨h1,h2,h4,h3,h5⟩,fun ⟨h1,h2,h4,h3,h5⟩=>⟨h1,h2,h3,h4,h5⟩⟩
end Go.Pv
namespace Go.Pv
open Go Go.Proofs
def few (d:aC) (n:Int):Bool:=decide ((d.2.1.length:Int)≤n)&&decide ((d.2.2.1.length:Int)≤n)&&decide ((d.2.2.2.1.length:Int)≤n)&&decide ((d.2.2.2.2.1.length:Int)≤n)&&decide ((d.2.2.2.2.2.length:Int)≤n)&&d.2.2.2.2.1.all fun k=>decide ((k.2.2.1.length:Int)≤n)&&decide ((k.2.2.2.2.length:Int)≤n)
def YB (x:aC×Int):Option T:=some (Sh.enc o5 (few x.1 x.2))
def BD1:FuncId→Hint:=bX 13 [(4,.inv [.val 5 false (.int .i64)])] (fun _=>bI)
def AC(a0:aC):List (List T):=List.map aR.enc a0.2.2.2.2.2
def AUT(a0:aC)(a1:Int)(R:T→Prop):Prop:=aD (decide (a1<(↑(m9 a0).length:Int))) (R d3) (aD (decide (a1<(↑(FS a0).length:Int))) (R d3) (aD (decide (a1<(↑(m8 a0).length:Int))) (R d3) (aD (decide (a1<(↑(i7 a0).length:Int))) (R d3) (aD (decide (a1<(↑(AC a0).length:Int))) (R d3) (aZ (Int×PUnit) (fun X0 s1=>aD (decide (s1.1<(↑(i7 a0).length:Int))) (aP aE (i7 a0) s1.1 fun (y2:aV)=>aD (decide (a1<(↑(BF8 y2).length:Int))) (R d3) (aP aE (i7 a0) s1.1 fun (y3:aV)=>aD (decide (a1<(↑(BF5 y3).length:Int))) (R d3) (f7 X0 s1))) (R d6)) (0,()))))))
abbrev A2C:Sh:=[(true,aB),(false,(Sy.int IntKind.i64))]
noncomputable def AB0:List T→Option T:=gS A2C YB
theorem AYV {a0 a1}:AB0 [aF true aB a0,T.v (.int .i64 a1)]=YB (a0,a1):=bE (s:=A2C) rfl (a0,a1) rfl
theorem BBZ:r8 Tryz.prog 13 AB0 YB (cC A2C) AUT:=iB (a1:=(true,aB)) (a2:=(false,(Sy.int IntKind.i64))) (sp:=YB) (F:=AUT) (Hs:=BD1) (f:=13) (k:=8) (bW _) aQ aS (aL rfl) ⟨_,_,Tryz.func13,rfl⟩ rfl fun _ _ _=>by kernel_rfl
theorem vH {n:Int} {m:Nat} {A B:Prop} (h1:¬ (m:Int)≤n→A) (h2:(m:Int)≤n→B):aD (decide (n<(m:Int))) A B:=by
 by_cases h:(m:Int)≤n
 ·exact jC (by omega) (h2 h)
 ·exact gH (by omega) (h1 h)
theorem AV6 {α:Type} {p:α→Bool} {l:List α} {k:Nat} (h:k<l.length):(l.drop k).all p=(p l[k]&&(l.drop (k+1)).all p):=by rw[List.drop_eq_getElem_cons h,List.all_cons]
theorem A91:aN Tryz.prog 13 AB0:=BBZ fun d n r h hb=>by
 cases h
 have hl:d.2.2.2.2.1.length≤2 ^ 47:=hb.1.2.2.2.2.1.1
 have no:few d n=false→T.v (.bool false)=Sh.enc o5 (few d n):=fun h=>by rw[h];rfl
 unfold AUT BF8 BF5 f7 FS AC m9 m8 i7 d6 d3
 simp only[List.length_map]
 refine vH (fun h=>no (by simp[few,h])) fun g1=>?_
 refine vH (fun h=>no (by simp[few,h])) fun g2=>?_
 refine vH (fun h=>no (by simp[few,h])) fun g3=>?_
 refine vH (fun h=>no (by simp[few,h])) fun g4=>?_
 refine vH (fun h=>no (by simp[few,h])) fun g5=>?_
 refine bM d.2.2.2.2.1.length (fun k s=>s=((k:Int),())∧few d n=(d.2.2.2.2.1.drop k).all fun k=>decide ((k.2.2.1.length:Int)≤n)&&decide ((k.2.2.2.2.length:Int)≤n)) ⟨rfl,by simp only[few,g1,g2,g3,g4,g5,decide_true,Bool.true_and,List.drop_zero]⟩ ?_
 rintro X k s hk ⟨rfl,he⟩ hX
 dsimp only
 by_cases hlt:k<d.2.2.2.2.1.length
 ·rw[AV6 hlt] at he
  refine gH (by simp[hlt]) ?_
  rw[bG (r:=aE) hlt]
  try simp only[List.length_map]
  refine vH (fun h=>no (by rw[he];simp[h])) fun g6=>?_
  try rw[bG (r:=aE) hlt]
  try simp only[List.length_map]
  refine vH (fun h=>no (by rw[he];simp[h])) fun g7=>?_
  refine hX _ hlt ⟨by rw[show IntKind.i64.wrap ((k:Int)+1)=((k+1:Nat):Int) from bH _ (by omega) (by omega)],?_⟩
  rw[he]
  simp only[g6,g7,decide_true,Bool.true_and]
 ·have:k=d.2.2.2.2.1.length:=by omega
  subst this
  refine jC (by simp) ?_
  rw[he];simp only[List.drop_length,List.all_nil];rfl
theorem BCN {d:aC} (h:InS aB d):DF d=true:=by
 refine List.all_eq_true.2 fun p hp=>?_
 obtain ⟨_,_,⟨_,_,h3⟩,_⟩:=h
 have h4:=h3 p hp
 obtain ⟨_,_,_,_,_,_,⟨⟨h5,h6,_⟩,h7,h8,h9⟩,_⟩:=h4
 unfold dR zN dB
 simp only[Bool.and_eq_true,decide_eq_true_eq,List.all_eq_true]
 refine ⟨⟨⟨?_,?_⟩,?_,?_⟩,fun q hq=>?_⟩
 ·exact h5
 ·exact h6
 ·exact h7
 ·exact h8
 ·obtain ⟨g1,g2,_⟩:=h9 q hq
  exact ⟨g1,g2⟩
theorem BCO {d:aC} (h:InS aB d):BM d=true:=by
 refine List.all_eq_true.2 fun p hp=>?_
 obtain ⟨_,_,_,_,⟨_,_,h3⟩,_⟩:=h
 obtain ⟨_,_,⟨h5,h6,_⟩,_,⟨h7,h8,_⟩⟩:=h3 p hp
 unfold dJ dB
 simp only[Bool.and_eq_true,decide_eq_true_eq]
 exact ⟨⟨h5,h6⟩,h7,h8⟩
theorem qO {c:Bool} {A B:Prop} (h1:c=true→A) (h2:c=false→B):aD c A B:=by cases c with
 | true=>exact h1 rfl
 | false=>exact h2 rfl
theorem e7 {c:Bool} {A B:Prop} (h1:c=false→A) (h2:c=true→B):aD (!c) A B:=by cases c with
 | true=>exact h2 rfl
 | false=>exact h1 rfl
end Go.Pv
namespace Go.Pv
open Go Go.Proofs
noncomputable def GB (x:List aO×List aO):Option T:=some (Sh.enc o5 (nH x.1 x.2))
noncomputable def rZ (x:bC×bC):Option T:=some (Sh.enc o5 (nH x.1 x.2))
noncomputable def QG (x:aC×aC):Option T:=some (Sh.enc o5 (nH x.1 x.2))
noncomputable def nE:=QG
def A85:FuncId→Hint:=bX 76 [(4,.inv [.val 13 false (.int .i64)])] (fun _=>bI)
def AGK(a0:List aO)(a1:List aO)(R:T→Prop):Prop:=aD (!decide ((↑(f8 a0).length:Int)=(↑(f8 a1).length:Int))) (R d3) (IO a0 a1 R)
abbrev AJ6:Sh:=[(false,aA.li),(false,aA.li)]
noncomputable def HT:List T→Option T:=gS AJ6 GB
theorem AQX {a0 a1}:HT [T.sl false (List.map aA.enc a0),T.sl false (List.map aA.enc a1)]=GB (a0,a1):=bE (s:=AJ6) rfl (a0,a1) rfl
theorem A6W:r8 Tryz.prog 76 HT GB (cC AJ6) AGK:=iB (a1:=(false,aA.li)) (a2:=(false,aA.li)) (sp:=GB) (F:=AGK) (Hs:=A85) (f:=76) (k:=8) (bW _) aQ aS (aL rfl) ⟨_,_,Tryz.func76,rfl⟩ rfl fun _ _ _=>by kernel_rfl
theorem A5J:aN Tryz.prog 76 HT:=A6W fun a b r h hb=>by
 cases h
 unfold AGK IO f8 f7 d6 d3
 refine FV (r:=aA) (R:=fun y=>y=Sh.enc o5 (nH a b)) hb.1.1 _ (fun x y=>?_) rfl
 simp only[Bool.and_true,Bool.and_eq_true,decide_eq_true_eq,Prod.ext_iff]
theorem qA {r:Sy} {l m:List r.den} (hlen:l.length=m.length) (hl:l.length≤2 ^ 47) (test:r.den→r.den→Bool) (ht:∀ x y,test x y=true↔x=y) {N Y:Prop} (hY:l=m→Y) (hN:¬ l=m→N) :
  aZ (Int×PUnit) (fun (X:Int×PUnit→Prop) (s:Int×PUnit)=>aD (decide (s.1<(↑(List.map r.enc l).length:Int))) (aP r (List.map r.enc l) s.1 fun y=>aP r (List.map r.enc m) s.1 fun z=>aD (!(test y z)) N (X (IntKind.i64.wrap (s.1+1),()))) Y) (0,()):=by
 refine bM l.length (fun k s=>s=((k:Int),())∧(l=m↔l.drop k=m.drop k)) ⟨rfl,by simp⟩ ?_
 rintro X k s hk ⟨rfl,he⟩ hX
 dsimp only
 by_cases hlt:k<l.length
 ·have hlt2:k<m.length:=by omega
  refine gH (by simp[hlt]) ?_
  rw[bG hlt,bG hlt2]
  rw[List.drop_eq_getElem_cons hlt,List.drop_eq_getElem_cons hlt2,List.cons.injEq] at he
  refine e7 (fun h=>hN fun e=>?_) fun h=>?_
  ·rw[(ht _ _).2 (he.1 e).1] at h;cases h
  ·have h1:=(ht _ _).1 h
   refine hX _ hlt ⟨by rw[show IntKind.i64.wrap ((k:Int)+1)=((k+1:Nat):Int) from bH _ (by omega) (by omega)],?_⟩
   rw[he];exact ⟨fun h=>h.2,fun h=>⟨h1,h⟩⟩
 ·have:k=l.length:=by omega
  subst this
  refine jC (by simp) ?_
  exact hY (he.2 (by rw[List.drop_length,hlen,List.drop_length]))
theorem DC {α β:Type} {f:α→β} {l m:List α} (h:decide ((↑(List.map f l).length:Int)=(↑(List.map f m).length:Int))=true):l.length=m.length:=by simp at h;omega
theorem VT {r:Sy} {l m:List r.den} (hl:l.length≤2 ^ 47) (test:r.den→r.den→Bool) (ht:∀ x y,test x y=true↔x=y) {N Y:Prop} (hY:l=m→Y) (hN:¬ l=m→N) :
  aD (!decide ((↑(List.map r.enc l).length:Int)=(↑(List.map r.enc m).length:Int))) N (aZ (Int×PUnit) (fun (X:Int×PUnit→Prop) (s:Int×PUnit)=>aD (decide (s.1<(↑(List.map r.enc l).length:Int))) (aP r (List.map r.enc l) s.1 fun y=>aP r (List.map r.enc m) s.1 fun z=>aD (!(test y z)) N (X (IntKind.i64.wrap (s.1+1),()))) Y) (0,())) :=
 e7 (fun h=>hN fun e=>by simp[e] at h) fun h=>qA (DC h) hl test ht hY hN
noncomputable def AE9:Env:=Env.of [(76,.pure HT)]
def AGN:FuncId→Hint:=bX 77 [(4,.inv [.val 17 false (.int .i64)])] (fun _=>bI)
theorem UN:aT Tryz.prog AE9:=.cons A5J (.nil _)
def BZ(a0:bC)(a1:bC)(R:T→Prop):Prop:=aD (!decide (a0.1=a1.1)) (R d3) (aD (!decide (a0.2.1=a1.2.1)) (R d3) (aD (!decide (a0.2.2.1=a1.2.2.1)) (R d3) (aD (!decide (a0.2.2.2.1=a1.2.2.2.1)) (R d3) (aD (!decide (a0.2.2.2.2.1=a1.2.2.2.2.1)) (R d3) (aD (!decide (a0.2.2.2.2.2.1=a1.2.2.2.2.2.1)) (R d3) (aD (!decide (a0.2.2.2.2.2.2.2.1=a1.2.2.2.2.2.2.2.1)) (R d3) (aD (!decide (a0.2.2.2.2.2.2.2.2.1=a1.2.2.2.2.2.2.2.2.1)) (R d3) (aD (!decide (a0.2.2.2.2.2.2.2.2.2.1=a1.2.2.2.2.2.2.2.2.2.1)) (R d3) (aD (!(decide (a0.2.2.2.2.2.2.2.2.2.2.1.1 = a1.2.2.2.2.2.2.2.2.2.2.1.1) && (decide (a0.2.2.2.2.2.2.2.2.2.2.1.2.1 = a1.2.2.2.2.2.2.2.2.2.2.1.2.1) && (decide (a0.2.2.2.2.2.2.2.2.2.2.1.2.2 = a1.2.2.2.2.2.2.2.2.2.2.1.2.2) && true)))) (R d3) (aD (!(decide (a0.2.2.2.2.2.2.2.2.2.2.2.1.1 = a1.2.2.2.2.2.2.2.2.2.2.2.1.1) && (decide (a0.2.2.2.2.2.2.2.2.2.2.2.1.2.1 = a1.2.2.2.2.2.2.2.2.2.2.2.1.2.1) && (decide (a0.2.2.2.2.2.2.2.2.2.2.2.1.2.2 = a1.2.2.2.2.2.2.2.2.2.2.2.1.2.2) && true)) && (decide (a0.2.2.2.2.2.2.2.2.2.2.2.2 = a1.2.2.2.2.2.2.2.2.2.2.2.2) && true))) (R d3) (aI d4 (HT [T.sl false (BF9 a0), T.sl false (BF9 a1)]) fun (y0:Bool)=>aD y0 (aD (!decide ((↑(t7 a0).length:Int) = (↑(t7 a1).length:Int))) (R d3) (aZ (Int×PUnit) (fun X1 s2=>aD (decide (s2.1 < (↑(t7 a0).length : Int))) (aP aA.li (t7 a0) s2.1 fun (y3:List aO)=>aP aA.li (t7 a1) s2.1 fun (y4:List aO)=>aI d4 (HT [T.sl false (f8 y3), T.sl false (f8 y4)]) fun (y5:Bool)=>aD (!y5) (R d3) (f7 X1 s2)) (R d6)) (0,()))) (R d3))))))))))))
abbrev DK:Sh:=[(true,aJ),(true,aJ)]
noncomputable def qM:List T→Option T:=gS DK rZ
theorem RA {a0 a1}:qM [aF true aJ a0,aF true aJ a1]=rZ (a0,a1):=bE (s:=DK) rfl (a0,a1) rfl
theorem ADU:r8 Tryz.prog 37 qM rZ (cC DK) BZ:=iB (a1:=(true,aJ)) (a2:=(true,aJ)) (sp:=rZ) (F:=BZ) (Hs:=AGN) (f:=37) (k:=8) UN aQ aS (aL rfl) ⟨_,_,Tryz.func37,rfl⟩ rfl fun _ _ _=>by kernel_rfl
theorem ABD:aN Tryz.prog 37 qM:=ADU fun a b r h hb=>by
 cases h
 have no:¬ a=b→T.v (.bool false)=Sh.enc o5 (nH a b):=fun h=>by rw[uR h];rfl
 have yes:a=b→T.v (.bool true)=Sh.enc o5 (nH a b):=fun h=>by rw[dP.2 h];rfl
 have hl:a.2.2.2.2.2.2.1.2.length≤2 ^ 47:=hb.1.2.2.2.2.2.2.1.2.1
 unfold BZ BF9 t7 f8 f7 d6 d4 d3
 have u:=@AQX
 simp only[u,GB,tY]
 refine e7 (fun h=>no fun e=>by simp[e] at h) fun h1=>?_
 refine e7 (fun h=>no fun e=>by simp[e] at h) fun h2=>?_
 refine e7 (fun h=>no fun e=>by simp[e] at h) fun h3=>?_
 refine e7 (fun h=>no fun e=>by simp[e] at h) fun h4=>?_
 refine e7 (fun h=>no fun e=>by simp[e] at h) fun h5=>?_
 refine e7 (fun h=>no fun e=>by simp[e] at h) fun h6=>?_
 refine e7 (fun h=>no fun e=>by simp[e] at h) fun h7=>?_
 refine e7 (fun h=>no fun e=>by simp[e] at h) fun h8=>?_
 refine e7 (fun h=>no fun e=>by simp[e] at h) fun h9=>?_
 refine e7 (fun h=>no fun e=>by simp[e] at h) fun h10=>?_
 refine e7 (fun h=>no fun e=>by simp[e] at h) fun h11=>?_
 refine qO (fun h12=>?_) (fun h=>no fun e=>by simp[e] at h)
 refine VT (r:=.li aA) hl _ (fun x y=>dP) (fun h13=>yes ?_) (fun h=>no fun e=>h (by rw[e]))
 simp only[Bool.and_true,Bool.and_eq_true,decide_eq_true_eq,dP] at h1 h2 h3 h4 h5 h6 h7 h8 h9 h10 h11 h12
 simp only[Prod.ext_iff]
 exact ⟨h1,h2,h3,h4,h5,h6,⟨h12,h13⟩,h7,h8,h9,h10,h11⟩
noncomputable def Y6:Env:=Env.of [(25,.pure lT),(26,.pure lS)]
def Z1:FuncId→Hint:=bX 9 [(4,.inv [.val 5 false (.int .i64)]),(9,.inv [.val 6 false (.int .i64)]),(14,.inv [.val 7 false (.int .i64)]),(19,.inv [.val 8 false (.int .i64)]),(24,.inv [.val 9 false (.int .i64)])] (fun _=>bI)
theorem QX:aT Tryz.prog Y6:=.cons JM (.cons JL (.nil _))
def wT(a0:aC)(a1:aC)(R:T→Prop):Prop:=aD (!decide (a0.1=a1.1)) (R d3) (aD (!decide ((↑(m9 a0).length:Int)=(↑(m9 a1).length:Int))) (R d3) (aD (!decide ((↑(FS a0).length:Int) = (↑(FS a1).length:Int))) (R d3) (aD (!decide ((↑(m8 a0).length:Int) = (↑(m8 a1).length:Int))) (R d3) (aD (!decide ((↑(i7 a0).length:Int) = (↑(i7 a1).length:Int))) (R d3) (aD (!decide ((↑(AC a0).length:Int) = (↑(AC a1).length:Int))) (R d3) (aZ (Int×PUnit) (fun X0 s1=>aD (decide (s1.1<(↑(m9 a0).length:Int))) (aP aW (m9 a0) s1.1 fun (y2:dL)=>aP aW (m9 a1) s1.1 fun (y3:dL)=>aD (!(decide (y2.1=y3.1) && (decide (y2.2.1=y3.2.1)&&(decide (y2.2.2=y3.2.2)&&true)))) (R d3) (f7 X0 s1)) (aZ (Int×PUnit) (fun X4 s5=>aD (decide (s5.1<(↑(FS a0).length:Int))) (aP aJ (FS a0) s5.1 fun (y6:bC)=>aP aJ (FS a1) s5.1 fun (y7:bC)=>aI d4 (lT [aF true aJ y6,aF true aJ y7]) fun (y8:Bool)=>aD (!y8) (R d3) (f7 X4 s5)) (aZ (Int×PUnit) (fun X9 s10=>aD (decide (s10.1<(↑(m8 a0).length:Int))) (aP aY (m8 a0) s10.1 fun (y11:eB)=>aP aY (m8 a1) s10.1 fun (y12:eB)=>aD (!(decide (y11.1=y12.1) && (decide (y11.2.1=y12.2.1) && (decide (y11.2.2.1=y12.2.2.1) && (decide (y11.2.2.2.1=y12.2.2.2.1) && (decide (y11.2.2.2.2.1=y12.2.2.2.2.1) && (decide (y11.2.2.2.2.2=y12.2.2.2.2.2) && true))))))) (R d3) (f7 X9 s10)) (aZ (Int×PUnit) (fun X13 s14=>aD (decide (s14.1<(↑(i7 a0).length:Int))) (aP aE (i7 a0) s14.1 fun (y15:aV)=>aP aE (i7 a1) s14.1 fun (y16:aV)=>aI d4 (lS [aF true aE y15,aF true aE y16]) fun (y17:Bool)=>aD (!y17) (R d3) (f7 X13 s14)) (aZ (Int×PUnit) (fun X18 s19=>aD (decide (s19.1 < (↑(AC a0).length:Int))) (aP aR (AC a0) s19.1 fun (y20:cX)=>aP aR (AC a1) s19.1 fun (y21:cX)=>aD (!(decide (y20.1=y21.1) && (decide (y20.2.1=y21.2.1) && (decide (y20.2.2=y21.2.2)&&true)))) (R d3) (f7 X18 s19)) (R d6)) (0,()))) (0,()))) (0,()))) (0,()))) (0,())))))))
abbrev yM:Sh:=[(true,aB),(true,aB)]
noncomputable def j2:List T→Option T:=gS yM nE
theorem OG {a0 a1}:j2 [aF true aB a0,aF true aB a1]=nE (a0,a1):=bE (s:=yM) rfl (a0,a1) rfl
theorem WY:r8 Tryz.prog 9 j2 nE (cC yM) wT:=iB (a1:=(true,aB)) (a2:=(true,aB)) (sp:=nE) (F:=wT) (Hs:=Z1) (f:=9) (k:=8) QX aQ aS (aL rfl) ⟨_,_,Tryz.func9,rfl⟩ rfl fun _ _ _=>by kernel_rfl
theorem V2:aN Tryz.prog 9 j2:=WY fun a b r h hb=>by
 cases h
 have no:¬ a=b→T.v (.bool false)=Sh.enc o5 (nH a b):=fun h=>by rw[uR h];rfl
 have yes:a=b→T.v (.bool true)=Sh.enc o5 (nH a b):=fun h=>by rw[dP.2 h];rfl
 obtain ⟨⟨_,⟨b1,_⟩,⟨b2,_⟩,⟨b3,_⟩,⟨b4,_⟩,⟨b5,_⟩⟩,_⟩:=hb
 unfold wT f7 FS AC m9 m8 i7 d6 d4 d3
 simp only[BD,oQ,BC,oP,tY]
 refine e7 (fun h=>no fun e=>by simp[e] at h) fun h1=>?_
 refine e7 (fun h=>no fun e=>by simp[e] at h) fun g1=>?_
 refine e7 (fun h=>no fun e=>by simp[e] at h) fun g2=>?_
 refine e7 (fun h=>no fun e=>by simp[e] at h) fun g3=>?_
 refine e7 (fun h=>no fun e=>by simp[e] at h) fun g4=>?_
 refine e7 (fun h=>no fun e=>by simp[e] at h) fun g5=>?_
 refine qA (r:=aW) (DC g1) b1 _ (fun x y=>?_) (fun h2=>?_) (fun h=>no fun e=>h (by rw[e]))
 ·simp only[Bool.and_true,Bool.and_eq_true,decide_eq_true_eq,Prod.ext_iff]
 refine qA (r:=aJ) (DC g2) b2 _ (fun x y=>dP) (fun h3=>?_) (fun h=>no fun e=>h (by rw[e]))
 refine qA (r:=aY) (DC g3) b3 _ (fun x y=>?_) (fun h4=>?_) (fun h=>no fun e=>h (by rw[e]))
 ·simp only[Bool.and_true,Bool.and_eq_true,decide_eq_true_eq,Prod.ext_iff]
 refine qA (r:=aE) (DC g4) b4 _ (fun x y=>dP) (fun h5=>?_) (fun h=>no fun e=>h (by rw[e]))
 refine qA (r:=aR) (DC g5) b5 _ (fun x y=>?_) (fun h6=>yes ?_) (fun h=>no fun e=>h (by rw[e]))
 ·simp only[Bool.and_true,Bool.and_eq_true,decide_eq_true_eq,Prod.ext_iff]
 exact Prod.ext (by simpa using h1) (Prod.ext h2 (Prod.ext h3 (Prod.ext h4 (Prod.ext h5 h6))))
end Go.Pv
namespace Go.Pv
open Go Go.Proofs
theorem cO {r:Sy} (hr:r.pure=true) {l:List r.den} {rows:List (List T)} {K:List r.den→Prop} (e:rows=List.map r.enc l) (h:K l):cH r rows K:=by subst e;rw[eT hr];exact h
theorem w8 {r:Sy} {l:List r.den} {z b:Nat} (hz:r.w=z) (h:dB b l.length=true):(((List.map r.enc l).all fun q=>decide (q.length=z))&&decide ((List.map r.enc l).length*b≤140737488355328)&&decide ((List.map r.enc l).length≤140737488355328))=true:=by
 unfold dB at h
 rw[Bool.and_eq_true] at h
 rw[List.length_map,h.1,h.2,Bool.and_true,Bool.and_true]
 subst hz
 refine List.all_eq_true.2 fun q hq=>?_
 obtain ⟨x,_,rfl⟩:=List.mem_map.1 hq
 exact decide_eq_true (Sy.cP r x)
def jE (p:bC):Option T:=match dR p with
 | true=>some (Sh.enc [(true,aJ)] p)
 | false=>none
noncomputable def ANZ:Env:=Env.of [(101,.pure fH),(164,.dup 1 24)]
def AOW:FuncId→Hint:=bX 167 [(4,.inv [.val 21 false (.int .i64),.arr 3 1 (.li aA)])] (fun _=>bI)
theorem Y9:aT Tryz.prog ANZ:=.cons uW (aT.cons (x:=.dup 1 24) AP4 (.nil _))
def GQ(a0:bC)(R:T→Prop):Prop:=aI eI (fH [T.sl false (BF9 a0)]) fun (y0:List aO)=>bQ (((t7 a0).all fun (r:List T)=>decide (r.length=1)) && decide ((t7 a0).length*24≤140737488355328) && decide ((t7 a0).length≤140737488355328)) (cH aA.li (t7 a0) fun (y1:List (List aO))=>aZ (Int×List (List aO)×PUnit) (fun X2 s3=>aD (decide (s3.1<(↑(t7 a0).length:Int))) (aP aA.li (LT s3) s3.1 fun (y4:List aO)=>fR aA.li (LT s3) (Int.toNat s3.1) 0 fun (y5:List aO)=>aI eI (fH (BF1 y5)) fun (y6:List aO)=>aP aA.li (LT s3) s3.1 fun (y7:List aO)=>sJ (LT s3) (Int.toNat s3.1) fun (y8:List T)=>bQ (decide (1≤y8.length)) (cH aA.li ((LT s3).set (Int.toNat s3.1) (bP y8 0 (BF1 y6))) fun (y9:List (List aO))=>X2 (IntKind.i64.wrap (s3.1+1),y9,()))) (R (T.agg [T.v (.string a0.1),T.v (.int .i64 a0.2.1), T.v (.int .i64 a0.2.2.1), T.v (.string a0.2.2.2.1),T.v (.string a0.2.2.2.2.1), T.v (.int .i64 a0.2.2.2.2.2.1), T.sl false (f8 y0), T.sl false (LT s3), T.v (.string a0.2.2.2.2.2.2.2.1), T.v (.int .i64 a0.2.2.2.2.2.2.2.2.1), T.v (.int .i64 a0.2.2.2.2.2.2.2.2.2.1), T.v (.int .i64 a0.2.2.2.2.2.2.2.2.2.2.1.1), T.v (.int .i64 a0.2.2.2.2.2.2.2.2.2.2.1.2.1), T.v (.int .i64 a0.2.2.2.2.2.2.2.2.2.2.1.2.2), T.v (.int .i64 a0.2.2.2.2.2.2.2.2.2.2.2.1.1), T.v (.int .i64 a0.2.2.2.2.2.2.2.2.2.2.2.1.2.1), T.v (.int .i64 a0.2.2.2.2.2.2.2.2.2.2.2.1.2.2), T.v (.int .i64 a0.2.2.2.2.2.2.2.2.2.2.2.2)]))) (0,y1,()))
abbrev IC:Sh:=[(true,aJ)]
noncomputable def iL:List T→Option T:=gS IC jE
theorem u5 {a0}:iL [aF true aJ a0]=jE (a0):=bE (s:=IC) rfl (a0) rfl
theorem AI3:uH Tryz.prog 167 iL jE (cC IC) GQ:=iW (a1:=(true,aJ)) (sp:=jE) (F:=GQ) (Hs:=AOW) (f:=167) (k:=8) Y9 aQ aS (aL rfl) ⟨_,_,Tryz.func167,rfl⟩ rfl fun _ _=>by kernel_rfl
theorem uX:aN Tryz.prog 167 iL:=AI3 fun p r h hb=>by
 clear hb
 have hp:dR p=true:=by
  unfold jE at h
  split at h
  ·assumption
  ·cases h
 have e:Sh.enc [(true,aJ)] p=r:=by
  unfold jE at h
  rw[hp] at h
  exact Option.some.inj h
 subst e
 clear h
 unfold dR zN at hp
 simp only[Bool.and_eq_true] at hp
 obtain ⟨⟨hp1,hp2⟩,hp3⟩:=hp
 have hb47:p.2.2.2.2.2.2.1.2.length≤140737488355328:=by
  simp only[dB,Bool.and_eq_true,decide_eq_true_eq] at hp2;exact hp2.2
 unfold GQ BF9 BF1 LT t7 f8 eI
 refine aG (s:=[(false,aA.li)]) (y:=p.2.2.2.2.2.2.1.1) (by rw[kJ,dW,iC hp1];rfl) ?_
 refine ⟨w8 (r:=.li aA) rfl hp2,?_⟩
 obtain ⟨p1,p2,p3,p4,p5,p6,⟨o,hh⟩,p7⟩:=p
 dsimp only at hp1 hp2 hp3 hb47 ⊢
 rw[eT (r:=.li aA) rfl]
 refine bM hh.length (fun k s=>s=((k:Int),hh,())) rfl ?_
 rintro X k s hk rfl hX
 dsimp only
 refine cF (fun hlt=>?_) fun hge=>rfl
 rw[List.length_map] at hlt
 have hlt:k<hh.length:=by omega
 have hok:dB 16 hh[k].length=true:=List.all_eq_true.1 hp3 _ (List.getElem_mem hlt)
 rw[bG (r:=.li aA) hlt,show Int.toNat (k:Int)=k from rfl,iQ (r:=.li aA) hlt]
 refine aG (s:=[(false,aA.li)]) (y:=hh[k]) (by rw[kJ,dW,iC hok];rfl) ?_
 rw[bG (r:=.li aA) hlt,nC (r:=.li aA) hlt]
 refine ⟨rfl,?_⟩
 have e:bP (Sy.enc (.li aA) hh[k]) 0 [T.sl false (List.map aA.enc hh[k])]=Sy.enc (.li aA) hh[k]:=rfl
 rw[e,FW (r:=.li aA) hlt,eT (r:=.li aA) rfl]
 refine hX _ hlt ?_
 simp only[Prod.mk.injEq,and_true]
 exact bH _ (by omega) (by omega)
def kE (p:aV):Option T:=match dJ p with
 | true=>some (Sh.enc [(true,aE)] p)
 | false=>none
noncomputable def ANY:Env:=Env.of [(103,.pure gE)]
theorem Y8:aT Tryz.prog ANY:=.cons xF (.nil _)
def GP(a0:aV)(R:T→Prop):Prop:=aI d9 (gE [T.sl false (BF8 a0)]) fun (y0:List ByteArray)=>aI d9 (gE [T.sl false (BF5 a0)]) fun (y1:List ByteArray)=>R (T.agg [T.v (.string a0.1),T.v (.string a0.2.1), T.sl false (GT y0),T.v (.int .i64 a0.2.2.2.1), T.sl false (GT y1)])
abbrev IB:Sh:=[(true,aE)]
noncomputable def nQ:List T→Option T:=gS IB kE
theorem EH {a0}:nQ [aF true aE a0]=kE (a0):=bE (s:=IB) rfl (a0) rfl
theorem AI2:uH Tryz.prog 168 nQ kE (cC IB) GP:=iW (a1:=(true,aE)) (sp:=kE) (F:=GP) (Hs:=dI) (f:=168) (k:=8) Y8 aQ aS (aL rfl) ⟨_,_,Tryz.func168,rfl⟩ rfl fun _ _=>by kernel_rfl
theorem N0:aN Tryz.prog 168 nQ:=AI2 fun p r h hb=>by
 clear hb
 have hp:dJ p=true:=by
  unfold kE at h
  split at h
  ·assumption
  ·cases h
 have e:Sh.enc [(true,aE)] p=r:=by
  unfold kE at h
  rw[hp] at h
  exact Option.some.inj h
 subst e
 clear h
 unfold dJ at hp
 rw[Bool.and_eq_true] at hp
 unfold GP BF8 BF5 GT d9
 refine aG (s:=[(false,.li .str)]) (y:=p.2.2.1) (by rw[jP,dW,iC hp.1];rfl) ?_
 refine aG (s:=[(false,.li .str)]) (y:=p.2.2.2.2) (by rw[jP,dW,iC hp.2];rfl) ?_
 rfl
theorem T1 {α:Type}:∀ (xs pre:List α),bP (pre++xs) pre.length xs=pre++xs
 | [],pre=>rfl
 | x::xs,pre=>by
  unfold bP
  rw[show (pre++x::xs).set pre.length x=(pre++[x])++xs by simp,show pre.length+1=(pre++[x]).length by simp,T1 xs (pre++[x])]
  simp
theorem J5 {α:Type} (r:List α):bP r 0 r=r:=T1 r []
def qY (d:aC):Bool:=(DF d&&BM d)&&((decide (d.2.1.length≤1000)&&decide (d.2.2.1.length≤1000))&&(decide (d.2.2.2.1.length≤1000)&&(decide (d.2.2.2.2.1.length≤1000)&&decide (d.2.2.2.2.2.length≤1000))))
structure OkC (d:aC):Prop where
 DF:DF d=true
 BM:BM d=true
 n:d.2.1.length≤1000
 p:d.2.2.1.length≤1000
 s:d.2.2.2.1.length≤1000
 k:d.2.2.2.2.1.length≤1000
 r:d.2.2.2.2.2.length≤1000
theorem fI {d:aC} (h:qY d=true):OkC d:=by
 simp only[qY,Bool.and_eq_true,decide_eq_true_eq] at h
 exact ⟨h.1.1,h.1.2,h.2.1.1,h.2.1.2,h.2.2.1,h.2.2.2.1,h.2.2.2.2⟩
theorem dU {b n:Nat} (hn:n≤1000) (hb:b≤1000):dB b n=true:=by
 have:=Nat.mul_le_mul hn hb
 unfold dB
 rw[decide_eq_true (by omega),decide_eq_true (by omega)];rfl
def rW (d:aC):Option T:=match qY d with
 | true=>some (Sh.enc [(true,aB)] d)
 | false=>none
noncomputable def AE4:Env:=Env.of [(60,.dup 3 40),(61,.dup 6 72),(62,.dup 3 40),(165,.dup 18 208),(166,.dup 5 88),(167,.pure iL),(168,.pure nQ)]
def AGM:FuncId→Hint:=bX 137 [(4,.inv [.val 28 false (.int .i64),.arr 30 18 aJ]),(9,.inv [.val 45 false (.int .i64),.arr 31 5 aE])] (fun _=>bI)
theorem Y7:aT Tryz.prog AE4:=aT.cons (x:=.dup 3 40) qF (aT.cons (x:=.dup 6 72) qG (aT.cons (x:=.dup 3 40) qE (aT.cons (x:=.dup 18 208) CC (aT.cons (x:=.dup 5 88) n9 (.cons uX (.cons N0 (.nil _)))))))
def L2 (a0:aC) (R:T→Prop):Prop :=
 bQ
 (((List.map aW.enc a0.2.1).all fun (r:List T)=>decide (r.length=3)) &&
 decide ((List.map aW.enc a0.2.1).length*40≤140737488355328) &&
 decide ((List.map aW.enc a0.2.1).length≤140737488355328))
 (bQ
 (((List.map aY.enc a0.2.2.2.1).all fun (r:List T)=>decide (r.length=6)) &&
 decide ((List.map aY.enc a0.2.2.2.1).length*72≤140737488355328) &&
 decide ((List.map aY.enc a0.2.2.2.1).length≤140737488355328))
 (bQ
 (((List.map aR.enc a0.2.2.2.2.2).all fun (r:List T)=>decide (r.length=3)) &&
 decide ((List.map aR.enc a0.2.2.2.2.2).length*40≤140737488355328) &&
 decide ((List.map aR.enc a0.2.2.2.2.2).length≤140737488355328))
 (bQ
 (((List.map aJ.enc a0.2.2.1).all fun (r:List T)=>decide (r.length=18)) &&
 decide ((List.map aJ.enc a0.2.2.1).length*208≤140737488355328) &&
 decide ((List.map aJ.enc a0.2.2.1).length≤140737488355328))
 (bQ
 (((List.map aE.enc a0.2.2.2.2.1).all fun (r:List T)=>decide (r.length=5)) &&
 decide ((List.map aE.enc a0.2.2.2.2.1).length*88≤140737488355328) &&
 decide ((List.map aE.enc a0.2.2.2.2.1).length≤140737488355328))
 (cH aJ (List.map aJ.enc a0.2.2.1) fun (y0:List bC) =>
 aZ (Int×List bC×PUnit)
 (fun (X1:Int×List bC×PUnit→Prop) (s2:Int×List bC×PUnit) =>
 aD (decide (s2.1<(↑(List.map aJ.enc a0.2.2.1).length:Int)))
 (aP aJ (List.map aJ.enc s2.2.1) s2.1 fun (y3:bC) =>
 fR aJ (List.map aJ.enc s2.2.1) (Int.toNat s2.1) 0
 fun (y4:bC) =>
 aI [(true,aJ)] (iL [aF true aJ y4])
 fun (y5:bC) =>
 aP aJ (List.map aJ.enc s2.2.1) s2.1 fun (y6:bC) =>
 sJ (List.map aJ.enc s2.2.1) (Int.toNat s2.1) fun (y7:List T) =>
 bQ (decide (18≤y7.length))
 (cH aJ
 ((List.map aJ.enc s2.2.1).set (Int.toNat s2.1)
 (bP y7 0
 (aJ.enc y5)))
 fun (y8:List bC)=>X1 (IntKind.i64.wrap (s2.1+1),y8,())))
 (cH aE (List.map aE.enc a0.2.2.2.2.1)
 fun (y9:List aV) =>
 aZ (Int×List aV×PUnit)
 (fun (X10:Int×List aV×PUnit→Prop) (s11:Int×List aV×PUnit) =>
 aD
 (decide (s11.1<(↑(List.map aE.enc a0.2.2.2.2.1).length:Int)))
 (aP aE (List.map aE.enc s11.2.1) s11.1
 fun (y12:aV) =>
 fR aE (List.map aE.enc s11.2.1) (Int.toNat s11.1) 0
 fun (y13:aV) =>
 aI [(true,aE)]
 (nQ [aF true aE y13]) fun (y14:aV) =>
 aP aE (List.map aE.enc s11.2.1) s11.1
 fun (y15:aV) =>
 sJ (List.map aE.enc s11.2.1) (Int.toNat s11.1)
 fun (y16:List T) =>
 bQ (decide (5≤y16.length))
 (cH aE
 ((List.map aE.enc s11.2.1).set (Int.toNat s11.1)
 (bP y16 0
 [T.v (.string y14.1),
 T.v (.string y14.2.1),
 T.sl false (List.map Sy.str.enc y14.2.2.1),
 T.v (.int .i64 y14.2.2.2.1),
 T.sl false (List.map Sy.str.enc y14.2.2.2.2)]))
 fun (y17:List aV) =>
 X10 (IntKind.i64.wrap (s11.1+1),y17,())))
 (R
 ((aF true aB (a0.1,a0.2.1,s2.2.1,a0.2.2.2.1,s11.2.1,a0.2.2.2.2.2)))))
 (0,y9,())))
 (0,y0,()))))))
abbrev PK:Sh:=[(true,aB)]
noncomputable def eP:List T→Option T:=gS PK rW
theorem tC {a0}:eP [aF true aB a0]=rW (a0):=bE (s:=PK) rfl (a0) rfl
theorem A6I:uH Tryz.prog 137 eP rW (cC PK) L2:=iW (a1:=(true,aB)) (sp:=rW) (F:=L2) (Hs:=AGM) (f:=137) (k:=8) Y7 aQ aS (aL rfl) ⟨_,_,Tryz.func137,rfl⟩ rfl fun _ _=>by kernel_rfl
theorem AWS {d:aC} (hp:qY d=true):L2 d (fun y=>y=Sh.enc [(true,aB)] d):=by
 have c:=fI hp
 unfold L2
 refine ⟨w8 (r:=aW) rfl (dU c.n (by decide)),⟨w8 (r:=aY) rfl (dU c.s (by decide)),⟨w8 (r:=aR) rfl (dU c.r (by decide)),⟨w8 (r:=aJ) rfl (dU c.p (by decide)),⟨w8 (r:=aE) rfl (dU c.k (by decide)),?_⟩⟩⟩⟩⟩
 rw[eT (r:=aJ) rfl]
 have hpn:=c.p
 have hkn:=c.k
 refine bM d.2.2.1.length (fun k s=>s=((k:Int),d.2.2.1,())) rfl ?_
 rintro X k s hk rfl hX
 dsimp only
 refine cF (fun hlt=>?_) fun hge=>?_
 ·rw[List.length_map] at hlt
  have hlt:k<d.2.2.1.length:=by omega
  have hok:dR d.2.2.1[k]=true:=List.all_eq_true.1 c.DF _ (List.getElem_mem hlt)
  rw[bG (r:=aJ) hlt,show Int.toNat (k:Int)=k from rfl,iQ (r:=aJ) hlt]
  refine aG (s:=[(true,aJ)]) (y:=d.2.2.1[k]) ((u5 ..).trans (by unfold jE;rw[hok])) ?_
  rw[bG (r:=aJ) hlt,nC (r:=aJ) hlt]
  refine ⟨by rw[Sy.cP];rfl,?_⟩
  have h1:(List.map aJ.enc d.2.2.1).set k (bP (Sy.enc aJ d.2.2.1[k]) 0 (Sy.enc aJ d.2.2.1[k]))=List.map aJ.enc d.2.2.1:=by rw[J5];exact FW (r:=aJ) hlt
  refine (cO (r:=aJ) rfl h1 ?_)
  refine hX _ hlt ?_
  simp only[Prod.mk.injEq,and_true]
  exact bH _ (by omega) (by omega)
 ·rw[eT (r:=aE) rfl]
  refine bM d.2.2.2.2.1.length (fun k s=>s=((k:Int),d.2.2.2.2.1,())) rfl ?_
  rintro Y j s hj rfl hY
  dsimp only
  refine cF (fun hlt=>?_) fun hge=>rfl
  rw[List.length_map] at hlt
  have hlt:j<d.2.2.2.2.1.length:=by omega
  have hok:dJ d.2.2.2.2.1[j]=true:=List.all_eq_true.1 c.BM _ (List.getElem_mem hlt)
  rw[bG (r:=aE) hlt,show Int.toNat (j:Int)=j from rfl,iQ (r:=aE) hlt]
  refine aG (s:=[(true,aE)]) (y:=d.2.2.2.2.1[j]) ((EH ..).trans (by unfold kE;rw[hok])) ?_
  rw[bG (r:=aE) hlt,nC (r:=aE) hlt]
  refine ⟨by rw[Sy.cP];rfl,?_⟩
  have h1:(List.map aE.enc d.2.2.2.2.1).set j (bP (Sy.enc aE d.2.2.2.2.1[j]) 0 (Sy.enc aE d.2.2.2.2.1[j]))=List.map aE.enc d.2.2.2.2.1:=by rw[J5];exact FW (r:=aE) hlt
  refine (cO (r:=aE) rfl h1 ?_)
  refine hY _ hlt ?_
  simp only[Prod.mk.injEq,and_true]
  exact bH _ (by omega) (by omega)
theorem n8:aN Tryz.prog 137 eP:=A6I fun d r h hb=>by
 clear hb
 have hp:qY d=true:=by
  unfold rW at h
  split at h
  ·assumption
  ·cases h
 have e:Sh.enc [(true,aB)] d=r:=by
  unfold rW at h
  rw[hp] at h
  exact Option.some.inj h
 subst e
 exact AWS hp
noncomputable def GA (x:aX×aX):Option T:=some (Sh.enc o5 (nH x.1 x.2))
noncomputable def A3D:Env:=Env.of [(37,.pure qM)]
def A33:FuncId→Hint:=bX 44 [(4,.inv [.val 13 false (.int .i64)])] (fun _=>bI)
theorem AOL:aT Tryz.prog A3D:=.cons ABD (.nil _)
def ST(a0:aX):List (List T):=List.map Sy.str.enc a0.2.2.2.2.2.2.1.2.2.2.2
def WF(a0:aX):List (List T):=List.map Sy.str.enc a0.2.2.2.2.2.2.1.2.2.1
def VA(a0:aX)(a1:aX)(R:T→Prop):Prop:=aD (decide (a0.1=a1.1)) (aD (decide (a0.2.1=a1.2.1)) (aD (decide (a0.2.2.1=a1.2.2.1)) (aD (decide (a0.2.2.2.1.1=a1.2.2.2.1.1) && (decide (a0.2.2.2.1.2.1=a1.2.2.2.1.2.1) && (decide (a0.2.2.2.1.2.2=a1.2.2.2.1.2.2)&&true))) (aI d4 (qM [aF true aJ a0.2.2.2.2.1,aF true aJ a1.2.2.2.2.1]) fun (y0:Bool)=>aD y0 (aD (decide (a0.2.2.2.2.2.1.1=a1.2.2.2.2.2.1.1) && (decide (a0.2.2.2.2.2.1.2.1=a1.2.2.2.2.2.1.2.1) && (decide (a0.2.2.2.2.2.1.2.2.1=a1.2.2.2.2.2.1.2.2.1) && (decide (a0.2.2.2.2.2.1.2.2.2.1=a1.2.2.2.2.2.1.2.2.2.1) && (decide (a0.2.2.2.2.2.1.2.2.2.2.1 = a1.2.2.2.2.2.1.2.2.2.2.1) && (decide (a0.2.2.2.2.2.1.2.2.2.2.2 = a1.2.2.2.2.2.1.2.2.2.2.2) && true)))))) (aD (decide (a0.2.2.2.2.2.2.2.1=a1.2.2.2.2.2.2.2.1) && (decide (a0.2.2.2.2.2.2.2.2.1=a1.2.2.2.2.2.2.2.2.1) && (decide (a0.2.2.2.2.2.2.2.2.2=a1.2.2.2.2.2.2.2.2.2)&&true))) (aD (decide (a0.2.2.2.2.2.2.1.1=a1.2.2.2.2.2.2.1.1)) (aD (decide (a0.2.2.2.2.2.2.1.2.1=a1.2.2.2.2.2.2.1.2.1)) (aD (decide (a0.2.2.2.2.2.2.1.2.2.2.1 = a1.2.2.2.2.2.2.1.2.2.2.1)) (aD (!decide ((↑(WF a0).length:Int) = (↑(WF a1).length:Int))) (R d3) (aZ (Int×PUnit) (fun X1 s2=>aD (decide (s2.1 < (↑(WF a0).length : Int))) (aP Sy.str (WF a0) s2.1 fun (y3:ByteArray)=>aP Sy.str (WF a1) s2.1 fun (y4:ByteArray)=>aD (!decide (y3=y4)) (R d3) (f7 X1 s2)) (aD (!decide ((↑(ST a0).length : Int) = (↑(ST a1).length : Int))) (R d3) (aZ (Int×PUnit) (fun X5 s6=>aD (decide (s6.1 < (↑(ST a0).length : Int))) (aP Sy.str (ST a0) s6.1 fun (y7:ByteArray)=>aP Sy.str (ST a1) s6.1 fun (y8:ByteArray)=>aD (!decide (y7=y8)) (R d3) (f7 X5 s6)) (R d6)) (0,())))) (0,()))) (R d3)) (R d3)) (R d3)) (R d3)) (R d3)) (R d3)) (R d3)) (R d3)) (R d3)) (R d3)
abbrev XP:Sh:=[(true,aM),(true,aM)]
noncomputable def cS:List T→Option T:=gS XP GA
theorem qN {a0 a1}:cS [aF true aM a0,aF true aM a1]=GA (a0,a1):=bE (s:=XP) rfl (a0,a1) rfl
theorem A05:r8 Tryz.prog 135 cS GA (cC XP) VA:=iB (a1:=(true,aM)) (a2:=(true,aM)) (sp:=GA) (F:=VA) (Hs:=A33) (f:=135) (k:=8) AOL aQ aS (aL rfl) ⟨_,_,Tryz.func135,rfl⟩ rfl fun _ _ _=>by kernel_rfl
theorem jJ:aN Tryz.prog 135 cS:=A05 fun a b r h hb=>by
 cases h
 have no:¬ a=b→T.v (.bool false)=Sh.enc o5 (nH a b):=fun h=>by rw[uR h];rfl
 have yes:a=b→T.v (.bool true)=Sh.enc o5 (nH a b):=fun h=>by rw[dP.2 h];rfl
 have hl1:a.2.2.2.2.2.2.1.2.2.1.length≤2 ^ 47:=hb.1.2.2.2.2.2.2.1.2.2.1.1
 have hl2:a.2.2.2.2.2.2.1.2.2.2.2.length≤2 ^ 47:=hb.1.2.2.2.2.2.2.1.2.2.2.2.1
 clear hb
 unfold VA WF ST f7 d6 d4 d3
 refine qO (fun h1=>?_) (fun h=>no fun e=>by simp[e] at h)
 refine qO (fun h2=>?_) (fun h=>no fun e=>by simp[e] at h)
 refine qO (fun h3=>?_) (fun h=>no fun e=>by simp[e] at h)
 refine qO (fun h4=>?_) (fun h=>no fun e=>by simp[e] at h)
 refine aG (s:=o5) (y:=nH (a.2.2.2.2.1) (b.2.2.2.2.1)) (RA ..) ?_
 refine qO (fun h5=>?_) (fun h=>no fun e=>by simp[e] at h)
 refine qO (fun h6=>?_) (fun h=>no fun e=>by simp[e] at h)
 refine qO (fun h7=>?_) (fun h=>no fun e=>by simp[e] at h)
 refine qO (fun h8=>?_) (fun h=>no fun e=>by simp[e] at h)
 refine qO (fun h9=>?_) (fun h=>no fun e=>by simp[e] at h)
 refine qO (fun h10=>?_) (fun h=>no fun e=>by simp[e] at h)
 refine VT (r:=.str) hl1 (fun y z=>decide (y=z)) (fun x y=>decide_eq_true_iff) (fun h11=>?_) (fun h=>no fun e=>h (by rw[e]))
 refine VT (r:=.str) hl2 (fun y z=>decide (y=z)) (fun x y=>decide_eq_true_iff) (fun h12=>yes ?_) (fun h=>no fun e=>h (by rw[e]))
 simp only[Bool.and_true,Bool.and_eq_true,decide_eq_true_eq,dP] at h1 h2 h3 h4 h5 h6 h7 h8 h9 h10
 simp only[Prod.ext_iff]
 exact ⟨h1,h2,h3,h4,by simpa only [Prod.ext_iff] using h5,h6,⟨h8,h9,h11,h10,h12⟩,h7⟩
end Go.Pv
namespace Go.Pv
open Go Go.Proofs
def WV (l:List ByteArray) (x:ByteArray):Bool:=l.any fun y=>decide (y=x)
theorem FE {l:List ByteArray} {x:ByteArray}:WV l x=true↔x∈l:=by
 simp only[WV,List.any_eq_true,decide_eq_true_eq]
 exact ⟨fun ⟨y,h,e⟩=>e ▸ h,fun h=>⟨x,h,rfl⟩⟩
def Sy.tl:Sy→Sy
 | .pr _ b=>b
 | x=>x
def HZ:List ByteArray→Nat→List (ByteArray×Int)→List (ByteArray×Int)
 | [],_,es=>es
 | a::l,i,es=>HZ l (i+1) (match j1 es a with
  | none=>wP es a (i:Int)
  | some _=>es)
def iX (l:List ByteArray):List (ByteArray×Int):=HZ l 0 []
def ids {α:Type} (l:List (ByteArray×α)):List ByteArray:=l.map fun x=>x.1
def qQ {α β:Type} (l:List α) (r:β):Option β:=match decide (l.length≤140737488355328) with
 | true=>some r
 | false=>none
theorem j7 {α β:Type} {l:List α} {t r:β} (h:qQ l t=some r):l.length≤140737488355328∧r=t:=by
 unfold qQ at h;split at h
 ·rename_i hc
  cases h;exact ⟨of_decide_eq_true hc,rfl⟩
 ·cases h
theorem j8 {α β:Type} {l:List α} (t:β) (h:l.length≤140737488355328):qQ l t=some t:=by unfold qQ;rw[decide_eq_true h]
theorem A4T (es:List (ByteArray×Int)):List.map (fun (e:Value×D)=>(e.1,YS e.2)) (List.map (cW Sy.str false (Sy.int IntKind.i64)) es)=bS es:=by
 rw[List.map_map];rfl
theorem KX {r:Sy} {l:List (ByteArray×r.den)} (hl:l.length≤140737488355328) :
 eJ Sy.str false (Sy.int IntKind.i64) [] fun (y0:List (ByteArray×Int)) =>
 aZ (List (ByteArray×Int)×Int×PUnit)
  (fun (X1:List (ByteArray×Int)×Int×PUnit→Prop) (s2:List (ByteArray×Int)×Int×PUnit) =>
   aD (decide (s2.2.1<(↑l.length:Int)))
    (aP (.pr .str r) (List.map (Sy.pr .str r).enc l) s2.2.1 fun (y3:ByteArray×r.den) =>
     iF TypeDesc.string (Value.string y3.1)
      (List.map (cW Sy.str false (Sy.int IntKind.i64)) s2.1) false
      (Sy.int IntKind.i64)
      (aP (.pr .str r) (List.map (Sy.pr .str r).enc l) s2.2.1 fun (y7:ByteArray×r.den) =>
       oZ (Option (Nat×D))
        (findD TypeDesc.string (Value.string y7.1)
         (List.map (cW Sy.str false (Sy.int IntKind.i64)) s2.1) 0)
        fun (y8:Option (Nat×D)) =>
        eJ Sy.str false (Sy.int IntKind.i64)
         (fN (List.map (cW Sy.str false (Sy.int IntKind.i64)) s2.1) y8
          (Value.string y7.1) (D.p (T.v (.int .i64 s2.2.1))))
         fun (y9:List (ByteArray×Int))=>X1 (y9,IntKind.i64.wrap (s2.2.1+1),()))
      fun (i4:Nat) (y5:Int) =>
      eJ Sy.str false (Sy.int IntKind.i64)
       (List.map (cW Sy.str false (Sy.int IntKind.i64)) s2.1)
       fun (y6:List (ByteArray×Int))=>X1 (y6,IntKind.i64.wrap (s2.2.1+1),()))
    (bQ
     ((List.map (cW Sy.str false (Sy.int IntKind.i64)) s2.1).all
      fun (e:Value×D)=>AQ8 e.2)
     ((fun y=>y=T.mp (bS (iX (ids l))))
      (T.mp
       (List.map (fun (e:Value×D)=>(e.1,YS e.2))
        (List.map (cW Sy.str false (Sy.int IntKind.i64)) s2.1))))))
  (y0,0,()):=by
 refine oF (r:=.int .i64) rfl [] _ ?_
 refine bM l.length (fun k s=>∃ es,s=(es,(k:Int),())∧HZ (ids (l.drop k)) k es=iX (ids l)) ⟨[],rfl,rfl⟩ ?_
 rintro X k s hk ⟨es,rfl,hes⟩ hX
 dsimp only
 have hw:IntKind.i64.wrap ((k:Int)+1)=((k+1:Nat):Int):=bH _ (by omega) (by omega)
 by_cases hlt:k<l.length
 ·refine gH (by omega) ?_
  rw[bG (r:=.pr .str r) hlt]
  have hd:ids (l.drop k)=l[k].1::ids (l.drop (k+1)):=by rw[List.drop_eq_getElem_cons hlt];rfl
  rw[hd] at hes
  simp only[HZ] at hes
  refine D9 (r:=.int .i64) (fun hno=>?_) (fun i v hv=>?_)
  ·rw[hno] at hes
   rw[bG (r:=.pr .str r) hlt]
   exact AZT (r:=.int .i64) rfl (v:=(k:Int)) (hX _ hlt ⟨_,by rw[hw],hes⟩)
  ·rw[hv] at hes
   exact oF (r:=.int .i64) rfl es _ (hX _ hlt ⟨_,by rw[hw],hes⟩)
 ·have:k=l.length:=by omega
  subst this
  refine jC (by omega) ?_
  rw[List.drop_length] at hes
  refine ⟨?_,?_⟩
  ·rw[List.all_eq_true]
   intro e he
   obtain ⟨x,_,rfl⟩:=List.mem_map.1 he
   rfl
  ·show T.mp _=_
   rw[A4T]
   rw[←hes]
   rfl
def sM (a0:aC):List T:=[T.v (.int .i64 (a0.2.1.length:Int)),T.fn 85 [] [T.ref [T.ref (aB.enc a0)]]]
def A7Q:FuncId→Hint:=bX 84 [(3,.inv [.map 0 .str false (.int .i64),.val 12 false (.int .i64)])] (fun _=>bI)
def bF:Sy:=Sy.int IntKind.i64
def i6(s2:List (ByteArray×Int)×Int×PUnit)(R:T→Prop):Prop:=bQ ((List.map (cW Sy.str false bF) s2.1).all fun (e:Value×D)=>AQ8 e.2) (R (T.mp (List.map (fun (e:Value×D)=>(e.1,YS e.2)) (List.map (cW Sy.str false bF) s2.1))))
def GE(s2:List (ByteArray×Int)×Int×PUnit)(X1:List (ByteArray×Int)×Int×PUnit→Prop):Prop:=eJ Sy.str false bF (List.map (cW Sy.str false bF) s2.1) fun (y6:List (ByteArray×Int))=>X1 (y6,IntKind.i64.wrap (s2.2.1+1),())
def AUU(a0:aC)(R:T→Prop):Prop:=eJ Sy.str false bF [] fun (y0:List (ByteArray×Int))=>aZ (List (ByteArray×Int)×Int×PUnit) (fun X1 s2=>aD (decide (s2.2.1<(↑a0.2.1.length:Int))) (aP aW (m9 a0) s2.2.1 fun (y3:dL)=>iF TypeDesc.string (Value.string y3.1) (List.map (cW Sy.str false bF) s2.1) false bF (aP aW (m9 a0) s2.2.1 fun (y7:dL)=>oZ (Option (Nat×D)) (findD TypeDesc.string (Value.string y7.1) (List.map (cW Sy.str false bF) s2.1) 0) fun (y8:Option (Nat×D))=>eJ Sy.str false bF (fN (List.map (cW Sy.str false bF) s2.1) y8 (Value.string y7.1) (D.p (T.v (.int .i64 s2.2.1)))) fun (y9:List (ByteArray×Int))=>X1 (y9,IntKind.i64.wrap (s2.2.1+1),())) fun (i4:Nat) (y5:Int)=>GE s2 X1) (i6 s2 R)) (y0,0,())
theorem AUV ( a0 R):wD bR Tryz.prog mF A7Q 8 84 (sM a0) R=AUU a0 R:=by kernel_rfl
def AKJ (d:aC):Option (List (ByteArray×Int)):=qQ d.2.1 (iX (ids d.2.1))
theorem ANO (d d':aC) (h:sM d=sM d'):d=d':=by
 unfold sM at h
 simp only[List.cons.injEq,T.fn.injEq,T.ref.injEq,and_true,true_and] at h
 exact Sy.dH aB _ _ h.2
noncomputable def AB1:List T→Option (List (ByteArray×Int)):=gA (fun (x:aC)=>sM x) AKJ
theorem AYW (a0:aC):AB1 (sM a0)=AKJ a0:=eN (A:=(fun (x:aC)=>sM x)) ANO a0
theorem BB0 (h:∀ (a0:aC) (r:List (ByteArray×Int)),AKJ a0=some r→(∀ t∈sM a0,Bd t)→AUU a0 (fun y=>y = .mp (bS r))):kP Tryz.prog 84 (sB AB1) :=
 EA (E:=mF) (Hs:=A7Q) (bW _) aQ aS (aL rfl) 8 ⟨_,_,Tryz.func84,rfl⟩ fun x r h1 h2=>by
  rw[AUV]
  exact h x r h1 h2
theorem A94:kP Tryz.prog 84 (sB AB1):=BB0 fun d r h hb=>by
 obtain ⟨hl,rfl⟩:=j7 h
 unfold AUU GE i6 m9 bF
 exact KX (r:=aW.tl) (l:=d.2.1) hl
def sN (a0:aC):List T:=[T.v (.int .i64 (a0.2.2.1.length:Int)),T.fn 86 [] [T.ref [T.ref (aB.enc a0)]]]
def A7R:FuncId→Hint:=bX 84 [(3,.inv [.map 0 .str false (.int .i64),.val 12 false (.int .i64)])] (fun _=>bI)
def AUW(a0:aC)(R:T→Prop):Prop:=eJ Sy.str false bF [] fun (y0:List (ByteArray×Int))=>aZ (List (ByteArray×Int)×Int×PUnit) (fun X1 s2=>aD (decide (s2.2.1<(↑a0.2.2.1.length:Int))) (aP aJ (FS a0) s2.2.1 fun (y3:bC)=>iF TypeDesc.string (Value.string y3.1) (List.map (cW Sy.str false bF) s2.1) false bF (aP aJ (FS a0) s2.2.1 fun (y7:bC)=>oZ (Option (Nat×D)) (findD TypeDesc.string (Value.string y7.1) (List.map (cW Sy.str false bF) s2.1) 0) fun (y8:Option (Nat×D))=>eJ Sy.str false bF (fN (List.map (cW Sy.str false bF) s2.1) y8 (Value.string y7.1) (D.p (T.v (.int .i64 s2.2.1)))) fun (y9:List (ByteArray×Int))=>X1 (y9,IntKind.i64.wrap (s2.2.1+1),())) fun (i4:Nat) (y5:Int)=>GE s2 X1) (i6 s2 R)) (y0,0,())
theorem AUX ( a0 R):wD bR Tryz.prog mF A7R 8 84 (sN a0) R=AUW a0 R:=by kernel_rfl
def AKK (d:aC):Option (List (ByteArray×Int)):=qQ d.2.2.1 (iX (ids d.2.2.1))
theorem ANP (d d':aC) (h:sN d=sN d'):d=d':=by
 unfold sN at h
 simp only[List.cons.injEq,T.fn.injEq,T.ref.injEq,and_true,true_and] at h
 exact Sy.dH aB _ _ h.2
noncomputable def AB2:List T→Option (List (ByteArray×Int)):=gA (fun (x:aC)=>sN x) AKK
theorem AYX (a0:aC):AB2 (sN a0)=AKK a0:=eN (A:=(fun (x:aC)=>sN x)) ANP a0
theorem BB1 (h:∀ (a0:aC) (r:List (ByteArray×Int)),AKK a0=some r→(∀ t∈sN a0,Bd t)→AUW a0 (fun y=>y = .mp (bS r))):kP Tryz.prog 84 (sB AB2) :=
 EA (E:=mF) (Hs:=A7R) (bW _) aQ aS (aL rfl) 8 ⟨_,_,Tryz.func84,rfl⟩ fun x r h1 h2=>by
  rw[AUX]
  exact h x r h1 h2
theorem A95:kP Tryz.prog 84 (sB AB2):=BB1 fun d r h hb=>by
 obtain ⟨hl,rfl⟩:=j7 h
 unfold AUW GE i6 FS bF
 exact KX (r:=aJ.tl) (l:=d.2.2.1) hl
def sO (a0:aC):List T:=[T.v (.int .i64 (a0.2.2.2.1.length:Int)),T.fn 87 [] [T.ref [T.ref (aB.enc a0)]]]
def A7S:FuncId→Hint:=bX 84 [(3,.inv [.map 0 .str false (.int .i64),.val 12 false (.int .i64)])] (fun _=>bI)
def AUY(a0:aC)(R:T→Prop):Prop:=eJ Sy.str false bF [] fun (y0:List (ByteArray×Int))=>aZ (List (ByteArray×Int)×Int×PUnit) (fun X1 s2=>aD (decide (s2.2.1<(↑a0.2.2.2.1.length:Int))) (aP aY (m8 a0) s2.2.1 fun (y3:eB)=>iF TypeDesc.string (Value.string y3.1) (List.map (cW Sy.str false bF) s2.1) false bF (aP aY (m8 a0) s2.2.1 fun (y7:eB)=>oZ (Option (Nat×D)) (findD TypeDesc.string (Value.string y7.1) (List.map (cW Sy.str false bF) s2.1) 0) fun (y8:Option (Nat×D))=>eJ Sy.str false bF (fN (List.map (cW Sy.str false bF) s2.1) y8 (Value.string y7.1) (D.p (T.v (.int .i64 s2.2.1)))) fun (y9:List (ByteArray×Int))=>X1 (y9,IntKind.i64.wrap (s2.2.1+1),())) fun (i4:Nat) (y5:Int)=>GE s2 X1) (i6 s2 R)) (y0,0,())
theorem AUZ ( a0 R):wD bR Tryz.prog mF A7S 8 84 (sO a0) R=AUY a0 R:=by kernel_rfl
def AKL (d:aC):Option (List (ByteArray×Int)):=qQ d.2.2.2.1 (iX (ids d.2.2.2.1))
theorem ANQ (d d':aC) (h:sO d=sO d'):d=d':=by
 unfold sO at h
 simp only[List.cons.injEq,T.fn.injEq,T.ref.injEq,and_true,true_and] at h
 exact Sy.dH aB _ _ h.2
noncomputable def AB3:List T→Option (List (ByteArray×Int)):=gA (fun (x:aC)=>sO x) AKL
theorem AYY (a0:aC):AB3 (sO a0)=AKL a0:=eN (A:=(fun (x:aC)=>sO x)) ANQ a0
theorem BB2 (h:∀ (a0:aC) (r:List (ByteArray×Int)),AKL a0=some r→(∀ t∈sO a0,Bd t)→AUY a0 (fun y=>y = .mp (bS r))):kP Tryz.prog 84 (sB AB3) :=
 EA (E:=mF) (Hs:=A7S) (bW _) aQ aS (aL rfl) 8 ⟨_,_,Tryz.func84,rfl⟩ fun x r h1 h2=>by
  rw[AUZ]
  exact h x r h1 h2
theorem A96:kP Tryz.prog 84 (sB AB3):=BB2 fun d r h hb=>by
 obtain ⟨hl,rfl⟩:=j7 h
 unfold AUY GE i6 m8 bF
 exact KX (r:=aY.tl) (l:=d.2.2.2.1) hl
def sP (a0:aC):List T:=[T.v (.int .i64 (a0.2.2.2.2.1.length:Int)),T.fn 88 [] [T.ref [T.ref (aB.enc a0)]]]
def A7T:FuncId→Hint:=bX 84 [(3,.inv [.map 0 .str false (.int .i64),.val 12 false (.int .i64)])] (fun _=>bI)
def AU0(a0:aC)(R:T→Prop):Prop:=eJ Sy.str false bF [] fun (y0:List (ByteArray×Int))=>aZ (List (ByteArray×Int)×Int×PUnit) (fun X1 s2=>aD (decide (s2.2.1<(↑a0.2.2.2.2.1.length:Int))) (aP aE (i7 a0) s2.2.1 fun (y3:aV)=>iF TypeDesc.string (Value.string y3.1) (List.map (cW Sy.str false bF) s2.1) false bF (aP aE (i7 a0) s2.2.1 fun (y7:aV)=>oZ (Option (Nat×D)) (findD TypeDesc.string (Value.string y7.1) (List.map (cW Sy.str false bF) s2.1) 0) fun (y8:Option (Nat×D))=>eJ Sy.str false bF (fN (List.map (cW Sy.str false bF) s2.1) y8 (Value.string y7.1) (D.p (T.v (.int .i64 s2.2.1)))) fun (y9:List (ByteArray×Int))=>X1 (y9,IntKind.i64.wrap (s2.2.1+1),())) fun (i4:Nat) (y5:Int)=>GE s2 X1) (i6 s2 R)) (y0,0,())
theorem AU1 ( a0 R):wD bR Tryz.prog mF A7T 8 84 (sP a0) R=AU0 a0 R:=by kernel_rfl
def AKM (d:aC):Option (List (ByteArray×Int)):=qQ d.2.2.2.2.1 (iX (ids d.2.2.2.2.1))
theorem ANR (d d':aC) (h:sP d=sP d'):d=d':=by
 unfold sP at h
 simp only[List.cons.injEq,T.fn.injEq,T.ref.injEq,and_true,true_and] at h
 exact Sy.dH aB _ _ h.2
noncomputable def AB4:List T→Option (List (ByteArray×Int)):=gA (fun (x:aC)=>sP x) AKM
theorem AYZ (a0:aC):AB4 (sP a0)=AKM a0:=eN (A:=(fun (x:aC)=>sP x)) ANR a0
theorem BB3 (h:∀ (a0:aC) (r:List (ByteArray×Int)),AKM a0=some r→(∀ t∈sP a0,Bd t)→AU0 a0 (fun y=>y = .mp (bS r))):kP Tryz.prog 84 (sB AB4) :=
 EA (E:=mF) (Hs:=A7T) (bW _) aQ aS (aL rfl) 8 ⟨_,_,Tryz.func84,rfl⟩ fun x r h1 h2=>by
  rw[AU1]
  exact h x r h1 h2
theorem A97:kP Tryz.prog 84 (sB AB4):=BB3 fun d r h hb=>by
 obtain ⟨hl,rfl⟩:=j7 h
 unfold AU0 GE i6 i7 bF
 exact KX (r:=aE.tl) (l:=d.2.2.2.2.1) hl
end Go.Pv
namespace Go.Pv
open Go Go.Proofs
def orG {α:Type} (g1 g2:List T→Option α) (a:List T):Option α:=match g1 a with
 | some r=>some r
 | none=>g2 a
theorem PB {α:Type} {g1 g2:List T→Option α} {a:List T} {r:α} (h:g1 a=some r):orG g1 g2 a=some r:=by unfold orG;rw[h]
theorem o4 {α:Type} {g1 g2:List T→Option α} {a:List T} (h:g1 a=none):orG g1 g2 a=g2 a:=by unfold orG;rw[h]
theorem TM {α:Type} {g1 g2:List T→Option α} {a:List T} {r:α} (h:orG g1 g2 a=some r):g1 a=some r∨g2 a=some r:=by
 unfold orG at h
 split at h
 ·rename_i r' h1;cases h;exact .inl h1
 ·exact .inr h
theorem aN.or {P:Program} {f:FuncId} {g1 g2:List T→Option T} (h1:aN P f g1) (h2:aN P f g2):aN P f (orG g1 g2):=⟨h1.entry,fun w own args vs r hG ho ha hr=>by
 rcases TM hr with h|h
 ·exact h1.calls w own args vs r hG ho ha h
 ·exact h2.calls w own args vs r hG ho ha h⟩
theorem kP.orM {P:Program} {f:FuncId} {g1 g2:List T→Option (List (ByteArray×Int))} (h1:kP P f (sB g1)) (h2:kP P f (sB g2)):kP P f (sB (orG g1 g2)):=⟨h1.entry,fun w own args vs r hG ho ha hr=>by
 simp only[sB,Option.map_eq_some_iff] at hr
 obtain ⟨es,h,rfl⟩:=hr
 rcases TM h with h|h
 ·exact h1.calls w own args vs _ hG ho ha (by simp[sB,h])
 ·exact h2.calls w own args vs _ hG ho ha (by simp[sB,h])⟩
noncomputable def AQV:List T→Option (List (ByteArray×Int)):=orG AB1 (orG AB2 (orG AB3 AB4))
theorem BEH:kP Tryz.prog 84 (sB AQV):=.orM A94 (.orM A95 (.orM A96 A97))
theorem iI {α X:Type} {A:X→List T} {sp:X→Option α} {args:List T} (h:∀ x,args≠A x):gA A sp args=none:=by
 unfold gA;rw[dif_neg];rintro ⟨x,hx⟩;exact h x hx
def uM:List ByteArray→Bool
 | a::b::l=>!(cV b a||decide (b=a))&&uM (b::l)
 | _=>true
theorem AWE {l:List ByteArray} {k:Nat} (h:k+1<l.length):uM (l.drop k)=(!(cV l[k+1] l[k]||decide (l[k+1]=l[k]))&&uM (l.drop (k+1))):=by
 rw[List.drop_eq_getElem_cons (show k<l.length by omega),List.drop_eq_getElem_cons h,uM]
theorem A4H {l:List ByteArray} {k:Nat} (h:l.length≤k+1):uM (l.drop k)=true:=by
 rcases Nat.lt_or_ge k l.length with h1|h1
 ·rw[List.drop_eq_getElem_cons h1,List.drop_eq_nil_of_le h];rfl
 ·rw[List.drop_eq_nil_of_le h1];rfl
theorem FT {r:Sy} {p:r.den→ByteArray} {l:List r.den} (hl:l.length≤140737488355328) {R:T→Prop} (hR:R (T.v (.bool (uM (l.map p))))) :
 aZ (Int×PUnit)
 (fun (X0:Int×PUnit→Prop) (s1:Int×PUnit) =>
  aD (decide (s1.1<(↑l.length:Int)))
   (aP r (List.map r.enc l) s1.1 fun (y2:r.den) =>
    aP r (List.map r.enc l) (IntKind.i64.wrap (s1.1-1))
     fun (y3:r.den) =>
     aD (cV (p y2) (p y3)||decide (p y2=p y3)) (R (T.v (.bool false)))
      (X0 (IntKind.i64.wrap (s1.1+1),())))
   (R (T.v (.bool true))))
 (1,()):=by
 refine bM l.length (fun k s=>s=(((k+1:Nat):Int),())∧uM (l.map p)=uM ((l.map p).drop k)) ⟨rfl,by rw[List.drop_zero]⟩ ?_
 rintro X k s hk ⟨rfl,he⟩ hX
 dsimp only
 have hw:IntKind.i64.wrap (((k+1:Nat):Int)+1)=((k+1+1:Nat):Int):=bH _ (by omega) (by omega)
 have hw1:IntKind.i64.wrap (((k+1:Nat):Int)-1)=((k:Nat):Int):=by rw[bH _ (by omega) (by omega)];omega
 by_cases hlt:k+1<l.length
 ·refine gH (by omega) ?_
  rw[bG hlt,hw1,bG (show k<l.length by omega)]
  rw[AWE (by rw[List.length_map];exact hlt)] at he
  rw[List.getElem_map,List.getElem_map] at he
  cases hc:(cV (p l[k+1]) (p l[k])||decide (p l[k+1]=p l[k])) with
  | true =>
   rw[jT]
   rw[hc,Bool.not_true,Bool.false_and] at he
   rwa[he] at hR
  | false =>
   rw[mX]
   rw[hc,Bool.not_false,Bool.true_and] at he
   exact hX _ (by omega) ⟨by rw[hw],he⟩
 ·refine jC (by omega) ?_
  rw[A4H (by rw[List.length_map];omega)] at he
  rwa[he] at hR
def rI (a0:List ByteArray):List T:=[T.v (.int .i64 (a0.length:Int)),T.fn 132 [] [T.ref [T.sl false (List.map Sy.str.enc a0)]]]
def A7Z:FuncId→Hint:=bX 89 [(2,.inv [.val 5 false (.int .i64)])] (fun _=>bI)
def AVM(a0:List ByteArray)(R:T→Prop):Prop:=aZ (Int×PUnit) (fun X0 s1=>aD (decide (s1.1<(↑a0.length:Int))) (aP Sy.str (GT a0) s1.1 fun (y2:ByteArray)=>aP Sy.str (GT a0) (IntKind.i64.wrap (s1.1-1)) fun (y3:ByteArray)=>aD (cV y2 y3||decide (y2=y3)) (R d3) (f7 X0 s1)) (R d6)) (1,())
theorem AVN ( a0 R):dY bR Tryz.prog mF A7Z 8 89 (rI a0) R=AVM a0 R:=by kernel_rfl
def AKS (l:List ByteArray):Option T:=qQ l (T.v (.bool (uM l)))
theorem ANX (d d':List ByteArray) (h:rI d=rI d'):d=d':=by
 unfold rI at h
 simp only[List.cons.injEq,T.fn.injEq,T.ref.injEq,and_true,true_and,T.sl.injEq] at h
 exact map_inj (Sy.dH .str) h.2
noncomputable def AC0:List T→Option (T):=gA (fun (x:List ByteArray)=>rI x) AKS
theorem AZF (a0:List ByteArray):AC0 (rI a0)=AKS a0:=eN (A:=(fun (x:List ByteArray)=>rI x)) ANX a0
theorem BCJ (h:∀ (a0:List ByteArray) (r:T),AKS a0=some r→(∀ t∈rI a0,Bd t)→AVM a0 (fun y=>y=r)):aN Tryz.prog 89 AC0 :=
 cK (E:=mF) (Hs:=A7Z) (bW _) aQ aS (aL rfl) 8 ⟨_,_,Tryz.func89,rfl⟩ fun x r h1 h2=>by
  rw[AVN]
  exact h x r h1 h2
theorem BAN:aN Tryz.prog 89 AC0:=BCJ fun l r h hb=>by
 obtain ⟨hl,rfl⟩:=j7 h
 unfold AVM GT f7 d6 d3
 exact FT (r:=.str) (p:=fun y=>y) (R:=fun y=>y=T.v (.bool (uM l))) hl (by simp)
def rE (a0:aC):List T:=[T.v (.int .i64 (a0.2.1.length:Int)),T.fn 90 [] [T.ref [T.ref (aB.enc a0)]]]
def A7V:FuncId→Hint:=bX 89 [(2,.inv [.val 5 false (.int .i64)])] (fun _=>bI)
def AVE(a0:aC)(R:T→Prop):Prop:=aZ (Int×PUnit) (fun X0 s1=>aD (decide (s1.1<(↑a0.2.1.length:Int))) (aP aW (m9 a0) s1.1 fun (y2:dL)=>aP aW (m9 a0) (IntKind.i64.wrap (s1.1-1)) fun (y3:dL)=>aD (cV y2.1 y3.1||decide (y2.1=y3.1)) (R d3) (f7 X0 s1)) (R d6)) (1,())
theorem AVF ( a0 R):dY bR Tryz.prog mF A7V 8 89 (rE a0) R=AVE a0 R:=by kernel_rfl
def AKO (d:aC):Option T:=qQ d.2.1 (T.v (.bool (uM (ids d.2.1))))
theorem ANT (d d':aC) (h:rE d=rE d'):d=d':=by
 unfold rE at h
 simp only[List.cons.injEq,T.fn.injEq,T.ref.injEq,and_true,true_and] at h
 exact Sy.dH aB _ _ h.2
noncomputable def ACW:List T→Option (T):=gA (fun (x:aC)=>rE x) AKO
theorem AZB (a0:aC):ACW (rE a0)=AKO a0:=eN (A:=(fun (x:aC)=>rE x)) ANT a0
theorem BCF (h:∀ (a0:aC) (r:T),AKO a0=some r→(∀ t∈rE a0,Bd t)→AVE a0 (fun y=>y=r)):aN Tryz.prog 89 ACW :=
 cK (E:=mF) (Hs:=A7V) (bW _) aQ aS (aL rfl) 8 ⟨_,_,Tryz.func89,rfl⟩ fun x r h1 h2=>by
  rw[AVF]
  exact h x r h1 h2
theorem BAJ:aN Tryz.prog 89 ACW:=BCF fun d r h hb=>by
 obtain ⟨hl,rfl⟩:=j7 h
 unfold AVE f7 m9 d6 d3
 exact FT (r:=aW) (p:=fun y=>y.1) (R:=fun y=>y=T.v (.bool (uM (ids d.2.1)))) hl rfl
def rF (a0:aC):List T:=[T.v (.int .i64 (a0.2.2.1.length:Int)),T.fn 91 [] [T.ref [T.ref (aB.enc a0)]]]
def A7W:FuncId→Hint:=bX 89 [(2,.inv [.val 5 false (.int .i64)])] (fun _=>bI)
def AVG(a0:aC)(R:T→Prop):Prop:=aZ (Int×PUnit) (fun X0 s1=>aD (decide (s1.1<(↑a0.2.2.1.length:Int))) (aP aJ (FS a0) s1.1 fun (y2:bC)=>aP aJ (FS a0) (IntKind.i64.wrap (s1.1-1)) fun (y3:bC)=>aD (cV y2.1 y3.1||decide (y2.1=y3.1)) (R d3) (f7 X0 s1)) (R d6)) (1,())
theorem AVH ( a0 R):dY bR Tryz.prog mF A7W 8 89 (rF a0) R=AVG a0 R:=by kernel_rfl
def AKP (d:aC):Option T:=qQ d.2.2.1 (T.v (.bool (uM (ids d.2.2.1))))
theorem ANU (d d':aC) (h:rF d=rF d'):d=d':=by
 unfold rF at h
 simp only[List.cons.injEq,T.fn.injEq,T.ref.injEq,and_true,true_and] at h
 exact Sy.dH aB _ _ h.2
noncomputable def ACX:List T→Option (T):=gA (fun (x:aC)=>rF x) AKP
theorem AZC (a0:aC):ACX (rF a0)=AKP a0:=eN (A:=(fun (x:aC)=>rF x)) ANU a0
theorem BCG (h:∀ (a0:aC) (r:T),AKP a0=some r→(∀ t∈rF a0,Bd t)→AVG a0 (fun y=>y=r)):aN Tryz.prog 89 ACX :=
 cK (E:=mF) (Hs:=A7W) (bW _) aQ aS (aL rfl) 8 ⟨_,_,Tryz.func89,rfl⟩ fun x r h1 h2=>by
  rw[AVH]
  exact h x r h1 h2
theorem BAK:aN Tryz.prog 89 ACX:=BCG fun d r h hb=>by
 obtain ⟨hl,rfl⟩:=j7 h
 unfold AVG f7 FS d6 d3
 exact FT (r:=aJ) (p:=fun y=>y.1) (R:=fun y=>y=T.v (.bool (uM (ids d.2.2.1)))) hl rfl
def rG (a0:aC):List T:=[T.v (.int .i64 (a0.2.2.2.1.length:Int)),T.fn 92 [] [T.ref [T.ref (aB.enc a0)]]]
def A7X:FuncId→Hint:=bX 89 [(2,.inv [.val 5 false (.int .i64)])] (fun _=>bI)
def AVI(a0:aC)(R:T→Prop):Prop:=aZ (Int×PUnit) (fun X0 s1=>aD (decide (s1.1<(↑a0.2.2.2.1.length:Int))) (aP aY (m8 a0) s1.1 fun (y2:eB)=>aP aY (m8 a0) (IntKind.i64.wrap (s1.1-1)) fun (y3:eB)=>aD (cV y2.1 y3.1||decide (y2.1=y3.1)) (R d3) (f7 X0 s1)) (R d6)) (1,())
theorem AVJ ( a0 R):dY bR Tryz.prog mF A7X 8 89 (rG a0) R=AVI a0 R:=by kernel_rfl
def AKQ (d:aC):Option T:=qQ d.2.2.2.1 (T.v (.bool (uM (ids d.2.2.2.1))))
theorem ANV (d d':aC) (h:rG d=rG d'):d=d':=by
 unfold rG at h
 simp only[List.cons.injEq,T.fn.injEq,T.ref.injEq,and_true,true_and] at h
 exact Sy.dH aB _ _ h.2
noncomputable def ACY:List T→Option (T):=gA (fun (x:aC)=>rG x) AKQ
theorem AZD (a0:aC):ACY (rG a0)=AKQ a0:=eN (A:=(fun (x:aC)=>rG x)) ANV a0
theorem BCH (h:∀ (a0:aC) (r:T),AKQ a0=some r→(∀ t∈rG a0,Bd t)→AVI a0 (fun y=>y=r)):aN Tryz.prog 89 ACY :=
 cK (E:=mF) (Hs:=A7X) (bW _) aQ aS (aL rfl) 8 ⟨_,_,Tryz.func89,rfl⟩ fun x r h1 h2=>by
  rw[AVJ]
  exact h x r h1 h2
theorem BAL:aN Tryz.prog 89 ACY:=BCH fun d r h hb=>by
 obtain ⟨hl,rfl⟩:=j7 h
 unfold AVI f7 m8 d6 d3
 exact FT (r:=aY) (p:=fun y=>y.1) (R:=fun y=>y=T.v (.bool (uM (ids d.2.2.2.1)))) hl rfl
def rH (a0:aC):List T:=[T.v (.int .i64 (a0.2.2.2.2.1.length:Int)),T.fn 93 [] [T.ref [T.ref (aB.enc a0)]]]
def A7Y:FuncId→Hint:=bX 89 [(2,.inv [.val 5 false (.int .i64)])] (fun _=>bI)
def AVK(a0:aC)(R:T→Prop):Prop:=aZ (Int×PUnit) (fun X0 s1=>aD (decide (s1.1<(↑a0.2.2.2.2.1.length:Int))) (aP aE (i7 a0) s1.1 fun (y2:aV)=>aP aE (i7 a0) (IntKind.i64.wrap (s1.1-1)) fun (y3:aV)=>aD (cV y2.1 y3.1||decide (y2.1=y3.1)) (R d3) (f7 X0 s1)) (R d6)) (1,())
theorem AVL ( a0 R):dY bR Tryz.prog mF A7Y 8 89 (rH a0) R=AVK a0 R:=by kernel_rfl
def AKR (d:aC):Option T:=qQ d.2.2.2.2.1 (T.v (.bool (uM (ids d.2.2.2.2.1))))
theorem ANW (d d':aC) (h:rH d=rH d'):d=d':=by
 unfold rH at h
 simp only[List.cons.injEq,T.fn.injEq,T.ref.injEq,and_true,true_and] at h
 exact Sy.dH aB _ _ h.2
noncomputable def ACZ:List T→Option (T):=gA (fun (x:aC)=>rH x) AKR
theorem AZE (a0:aC):ACZ (rH a0)=AKR a0:=eN (A:=(fun (x:aC)=>rH x)) ANW a0
theorem BCI (h:∀ (a0:aC) (r:T),AKR a0=some r→(∀ t∈rH a0,Bd t)→AVK a0 (fun y=>y=r)):aN Tryz.prog 89 ACZ :=
 cK (E:=mF) (Hs:=A7Y) (bW _) aQ aS (aL rfl) 8 ⟨_,_,Tryz.func89,rfl⟩ fun x r h1 h2=>by
  rw[AVL]
  exact h x r h1 h2
theorem BAM:aN Tryz.prog 89 ACZ:=BCI fun d r h hb=>by
 obtain ⟨hl,rfl⟩:=j7 h
 unfold AVK f7 i7 d6 d3
 exact FT (r:=aE) (p:=fun y=>y.1) (R:=fun y=>y=T.v (.bool (uM (ids d.2.2.2.2.1)))) hl rfl
noncomputable def wO:List T→Option T:=orG ACW (orG ACX (orG ACY (orG ACZ AC0)))
theorem A76:aN Tryz.prog 89 wO:=.or BAJ (.or BAK (.or BAL (.or BAM BAN)))
theorem BAP {d:aC} (h:d.2.1.length≤140737488355328):AQV (sM d)=some (iX (ids d.2.1)):=by
 have h1:AB1 (sM d)=some (iX (ids d.2.1)):=by rw[AYW];exact j8 _ h
 exact (PB h1)
theorem BAT {d:aC} (h:d.2.1.length≤140737488355328):wO (rE d)=some (T.v (.bool (uM (ids d.2.1)))):=by
 have h1:ACW (rE d)=some (T.v (.bool (uM (ids d.2.1)))):=by rw[AZB];exact j8 _ h
 exact (PB h1)
theorem BAQ {d:aC} (h:d.2.2.1.length≤140737488355328):AQV (sN d)=some (iX (ids d.2.2.1)):=by
 have h1:AB2 (sN d)=some (iX (ids d.2.2.1)):=by rw[AYX];exact j8 _ h
 exact ((o4 (iI fun x h=>by simp[sM,sN] at h)).trans (PB h1))
theorem BAU {d:aC} (h:d.2.2.1.length≤140737488355328):wO (rF d)=some (T.v (.bool (uM (ids d.2.2.1)))):=by
 have h1:ACX (rF d)=some (T.v (.bool (uM (ids d.2.2.1)))):=by rw[AZC];exact j8 _ h
 exact ((o4 (iI fun x h=>by simp[rE,rF] at h)).trans (PB h1))
theorem BAR {d:aC} (h:d.2.2.2.1.length≤140737488355328):AQV (sO d)=some (iX (ids d.2.2.2.1)):=by
 have h1:AB3 (sO d)=some (iX (ids d.2.2.2.1)):=by rw[AYY];exact j8 _ h
 exact ((o4 (iI fun x h=>by simp[sM,sO] at h)).trans ((o4 (iI fun x h=>by simp[sN,sO] at h)).trans (PB h1)))
theorem BAV {d:aC} (h:d.2.2.2.1.length≤140737488355328):wO (rG d)=some (T.v (.bool (uM (ids d.2.2.2.1)))):=by
 have h1:ACY (rG d)=some (T.v (.bool (uM (ids d.2.2.2.1)))):=by rw[AZD];exact j8 _ h
 exact ((o4 (iI fun x h=>by simp[rE,rG] at h)).trans ((o4 (iI fun x h=>by simp[rF,rG] at h)).trans (PB h1)))
theorem BAS {d:aC} (h:d.2.2.2.2.1.length≤140737488355328):AQV (sP d)=some (iX (ids d.2.2.2.2.1)):=by
 have h1:AB4 (sP d)=some (iX (ids d.2.2.2.2.1)):=by rw[AYZ];exact j8 _ h
 exact ((o4 (iI fun x h=>by simp[sM,sP] at h)).trans ((o4 (iI fun x h=>by simp[sN,sP] at h)).trans ((o4 (iI fun x h=>by simp[sO,sP] at h)).trans h1)))
theorem BAW {d:aC} (h:d.2.2.2.2.1.length≤140737488355328):wO (rH d)=some (T.v (.bool (uM (ids d.2.2.2.2.1)))):=by
 have h1:ACZ (rH d)=some (T.v (.bool (uM (ids d.2.2.2.2.1)))):=by rw[AZE];exact j8 _ h
 exact ((o4 (iI fun x h=>by simp[rE,rH] at h)).trans ((o4 (iI fun x h=>by simp[rF,rH] at h)).trans ((o4 (iI fun x h=>by simp[rG,rH] at h)).trans (PB h1))))
theorem AZG {l:List ByteArray} (h:l.length≤140737488355328):wO (rI l)=some (T.v (.bool (uM l))):=by
 have h1:AC0 (rI l)=some (T.v (.bool (uM l))):=by rw[AZF];exact j8 _ h
 exact ((o4 (iI fun x h=>by simp[rE,rI] at h)).trans ((o4 (iI fun x h=>by simp[rF,rI] at h)).trans ((o4 (iI fun x h=>by simp[rG,rI] at h)).trans ((o4 (iI fun x h=>by simp[rH,rI] at h)).trans h1))))
abbrev QP (d:aC) (m1 m2 m3 m4:List (ByteArray×Int)):T:=T.ref [T.ref (aB.enc d),T.mp (bS m1),T.mp (bS m2),T.mp (bS m3),T.mp (bS m4)]
end Go.Pv
namespace Go.Pv
open Go Go.Proofs
abbrev q_b:Sh:=[(false,.bool)]
abbrev BCR:Sh:=[(false,.li .str)]
def yR (x:ByteArray×ByteArray):Option T:=match decide (x.1.size<4294967281),decide (1≤x.2.size) with
 | true,true=>some (Sh.enc BCR (Lib.splitB x.2 0 (Lib.countB x.1 x.2) x.1))
 | _,_=>none
noncomputable def xY:List T→Option T:=gS [(false,.str),(false,.str)] yR
theorem AC4 {a b:ByteArray}:xY [T.v (.string a),T.v (.string b)]=yR (a,b):=bE (s:=[(false,.str),(false,.str)]) rfl (a,b) rfl
theorem AQI:aN Tryz.prog 119 xY:=by
 refine ⟨xG.entry,fun w own args vs r hG ho ha hg=>?_⟩
 obtain ⟨⟨a,b⟩,rfl,hx⟩:=mQ hg
 unfold yR at hx
 split at hx
 ·rename_i h1 h2
  cases hx
  have hs:sC [.v (.string a),.v (.string b)]=some (.sl true ((Lib.splitB b 0 (Lib.countB a b) a).map fun x=>[.v (.string x)])):=by
   unfold sC
   simp only[h1,h2]
  refine (xG.calls w own _ vs _ hG ho ha hs).mono ?_
  rintro e w' ⟨v,rfl,hr,hb⟩
  exact ⟨v,rfl,hr.canon 0,hb⟩
 ·cases hx
end Go.Pv
namespace Go.Pv
open Go Go.Proofs
def rQ (n:Int):Bool:=(decide (97≤n)&&decide (n≤122))||(decide (65≤n)&&decide (n≤90))
def B7 (n:Int):Bool:=decide (48≤n)&&decide (n≤57)
def nameAt (i:Nat) (b:UInt8):Bool:=rQ b.toNat||(decide (i≠0)&&(B7 b.toNat||decide ((b.toNat:Int)=95)||decide ((b.toNat:Int)=45)))
def isName (s:ByteArray):Bool:=decide (s.size≠0)&&decide (s.size≤16)&&(List.range s.size).all fun i=>match s.data[i]? with|some b=>nameAt i b|none=>true
def AEN (s:ByteArray):Option T:=some (Sh.enc q_b (isName s))
abbrev uD:=AEN
def A7E (l:List ByteArray):Int:=(l.length:Int)-1+oR l
def BE8 (s:ByteArray):Option T:=match decide (s.size≤1099511627776) with
 | true=>some (Sh.enc BCR (eK s))
 | false=>none
def uE (l:List ByteArray):Option T:=match decide (l.length≤65)&&decide (oR l≤64) with
 | true=>some (Sh.enc q_b (l.all isName&&(decide (1≤l.length)&&decide (l.length≤8)&&decide (A7E l≤64))))
 | false=>none
def vG (s:ByteArray):Bool:=decide (s.size≤64)&&decide ((eK s).length≤8)&&(eK s).all isName
def F4 (s:ByteArray):Option T:=some (Sh.enc q_b (vG s))
theorem pK {n:Nat} {f:Nat→Bool}:(List.range n).all f=true↔∀ i,i<n→f i=true:=by simp
theorem AQ7 {s:ByteArray} (h0:s.size≠0) (h1:s.size≤16) (h2:∀ i b,s.data[i]? = some b→nameAt i b=true):isName s=true:=by
 unfold isName
 simp only[h0,h1,decide_true,Bool.true_and,Bool.and_eq_true,pK,ne_eq,not_false_eq_true,true_and]
 intro i hi
 split
 ·rename_i b hb;exact h2 i b hb
 ·rfl
theorem CN {s:ByteArray} (h:s.size=0∨16<s.size∨∃ i b,s.data[i]? = some b∧nameAt i b=false):isName s=false:=by
 rw[Bool.eq_false_iff]
 intro hn
 unfold isName at hn
 simp only[Bool.and_eq_true,pK,decide_eq_true_eq] at hn
 rcases h with h|h|⟨i,b,hb,hf⟩
 ·exact hn.1.1 h
 ·have:=hn.1.2;omega
 ·have hi:i<s.size:=(Array.getElem?_eq_some_iff.1 hb).1
  have:=hn.2 i hi
  rw[hb] at this
  simp only[hf] at this
  cases this
theorem ADL (b:UInt8):nameAt 0 b=rQ b.toNat:=by simp[nameAt]
theorem ALM {s:ByteArray}:s = { data:=#[] }↔s.size=0:=⟨fun e=>by subst e;rfl,fun e=>ByteArray.ext (Array.eq_empty_of_size_eq_zero e)⟩
def AVT:FuncId→Hint:=fun f=>match f == 48 with|true=>⟨fun r=>match r == 4 with|true=>.inv [.kT 0]|false=>.none,fun i j=>match i == 6&&j == 6 with|true=>some [.val 5 false .bool,.fix 0]|false=>match i == 7&&j == 7 with|true=>some [.val 6 false .bool,.fix 0]|false=>none,fun _=>none⟩|false=>bI
def t8(s1:(ByteArray×Nat)×PUnit)(X2:Bool×PUnit×PUnit→Prop):Prop:=aD (decide (97≤(↑(Utf8.decode s1.1.1 s1.1.2).1:Int))) (gN (bB.kT s1.1.1 (s1.1.2+(Utf8.decode s1.1.1 s1.1.2).2)) (bB.kT s1.1.1 (s1.1.2+(Utf8.decode s1.1.1 s1.1.2).2)) (X2 (decide ((↑(Utf8.decode s1.1.1 s1.1.2).1:Int)≤122),(),()))) (gN (bB.kT s1.1.1 (s1.1.2+(Utf8.decode s1.1.1 s1.1.2).2)) (bB.kT s1.1.1 (s1.1.2+(Utf8.decode s1.1.1 s1.1.2).2)) (X2 (false,(),())))
def v6(s1:(ByteArray×Nat)×PUnit)(X2:Bool×PUnit×PUnit→Prop):Prop:=gN (bB.kT s1.1.1 (s1.1.2+(Utf8.decode s1.1.1 s1.1.2).2)) (bB.kT s1.1.1 (s1.1.2+(Utf8.decode s1.1.1 s1.1.2).2)) (X2 (true,(),()))
def LE(s1:(ByteArray×Nat)×PUnit)(X4:Bool×PUnit×PUnit→Prop):Prop:=aD (decide ((↑(Utf8.decode s1.1.1 s1.1.2).1:Int)=95)) (v6 s1 X4) (gN (bB.kT s1.1.1 (s1.1.2+(Utf8.decode s1.1.1 s1.1.2).2)) (bB.kT s1.1.1 (s1.1.2+(Utf8.decode s1.1.1 s1.1.2).2)) (X4 (decide ((↑(Utf8.decode s1.1.1 s1.1.2).1:Int)=45),(),())))
def L9(a0:ByteArray)(R:T→Prop):Prop:=aD (decide (a0 = {data:=#[]})) (R d3) (aD (decide (16<(↑(ByteArray.size a0):Int))) (R d3) (aZ ((ByteArray×Nat)×PUnit) (fun X0 s1=>aD (decide (s1.1.2<s1.1.1.size)) (oK (Bool×PUnit×PUnit) (fun (X2:Bool×PUnit×PUnit→Prop)=>aD (decide (65≤(↑(Utf8.decode s1.1.1 s1.1.2).1:Int))) (aD (decide ((↑(Utf8.decode s1.1.1 s1.1.2).1:Int)≤90)) (v6 s1 X2) (t8 s1 X2)) (t8 s1 X2)) fun (s3:Bool×PUnit×PUnit)=>oK (Bool×PUnit×PUnit) (fun (X4:Bool×PUnit×PUnit→Prop)=>aD (decide (48≤(↑(Utf8.decode s1.1.1 s1.1.2).1:Int))) (aD (decide ((↑(Utf8.decode s1.1.1 s1.1.2).1:Int)≤57)) (v6 s1 X4) (LE s1 X4)) (LE s1 X4)) fun (s5:Bool×PUnit×PUnit)=>aD (!s3.1) (aD (decide ((↑s1.1.2:Int)=0)) (R d3) (aD (!s5.1) (R d3) (X0 ((s1.1.1,s1.1.2+(Utf8.decode s1.1.1 s1.1.2).2),())))) (X0 ((s1.1.1,s1.1.2+(Utf8.decode s1.1.1 s1.1.2).2),()))) (R d6)) ((a0,0),())))
abbrev PN:Sh:=[(false,Sy.str)]
abbrev FQ:Sh:=[(false,Sy.bool)]
theorem RH (y:Sh.den FQ) (K:Sh.den FQ→Prop):aI FQ (some (Sh.enc FQ y)) K=K y:=yW rfl y K
noncomputable def iO:List T→Option T:=gS PN uD
theorem xN {a0}:iO [T.v (.string a0)]=uD (a0):=bE (s:=PN) rfl (a0) rfl
theorem ARR:uH Tryz.prog 48 iO uD (cC PN) L9:=iW (a1:=(false,Sy.str)) (sp:=uD) (F:=L9) (Hs:=AVT) (f:=48) (k:=8) (bW _) aQ aS (aL rfl) ⟨_,_,Tryz.func48,rfl⟩ rfl fun _ _=>by kernel_rfl
theorem ADC (c:Int) {K:Bool×PUnit×PUnit→Prop} (hX:K (rQ c,(),())):oK (Bool×PUnit×PUnit) (fun X=>aD (decide (65≤c)) (aD (decide (c≤90)) (X (true,(),())) (aD (decide (97≤c)) (X (decide (c≤122),(),())) (X (false,(),())))) (aD (decide (97≤c)) (X (decide (c≤122),(),())) (X (false,(),())))) K:=by
 simp only[ADA,zJ]
 unfold rQ at hX
 by_cases h1:65≤c<;>by_cases h2:c≤90<;>by_cases h3:97≤c<;>by_cases h4:c≤122<;>simp[h1,h2,h3,h4] at hX ⊢ <;> first|exact hX|omega
theorem V3 (c:Int) {K:Bool×PUnit×PUnit→Prop} (hX:K (B7 c||decide (c=95)||decide (c=45),(),())):oK (Bool×PUnit×PUnit) (fun X=>aD (decide (48≤c)) (aD (decide (c≤57)) (X (true,(),())) (aD (decide (c=95)) (X (true,(),())) (X (decide (c=45),(),())))) (aD (decide (c=95)) (X (true,(),())) (X (decide (c=45),(),())))) K:=by
 simp only[ADA,zJ]
 unfold B7 at hX
 by_cases h1:48≤c<;>by_cases h2:c≤57<;>by_cases h3:c=95<;>simp[h1,h2,h3] at hX ⊢ <;> first|exact hX|omega
theorem zC:aN Tryz.prog 48 iO:=ARR fun s r h hb=>by
 have h':some (Sh.enc q_b (isName s))=some r:=h
 cases h'
 clear h
 unfold L9 LE v6 t8 d6 d3
 by_cases h0:s.size=0
 ·exact gH (ALM.2 h0) (by rw[CN (.inl h0)];rfl)
 refine jC (fun e=>h0 (ALM.1 e)) ?_
 by_cases h16:16<s.size
 ·exact gH (by omega) (by rw[CN (.inr (.inl h16))];rfl)
 refine jC (by omega) ?_
 refine bM s.size (fun k t=>t=((s,k),())∧∀ i b,i<k→s.data[i]? = some b→nameAt i b=true) ⟨rfl,by simp⟩ ?_
 rintro X k t hk ⟨rfl,hno⟩ hX
 simp only[dF]
 by_cases hlt:k<s.size
 ·refine gH hlt ?_
  have hb:s.data[k]? = some (s[k]'hlt):=by
   rw[Array.getElem?_eq_getElem hlt];rfl
  refine ADC (Utf8.decode s k).1 ?_
  refine V3 (Utf8.decode s k).1 ?_
  dsimp only
  have stop:nameAt k (s[k]'hlt)=false→T.v (.bool false)=Sh.enc q_b (isName s):=fun hn=>by rw[CN (.inr (.inr ⟨k,_,hb,hn⟩))];rfl
  by_cases hasc:(s[k]'hlt).toNat<128
  ·have hd:=decode_ascii s k hlt hasc
   have go:nameAt k (s[k]'hlt)=true→X ((s,k+(Utf8.decode s k).2),()):=fun hn=>by
    rw[hd]
    exact hX _ hlt ⟨rfl,fun i b' hi hb'=>by
     by_cases e:i=k
     ·subst e;rw[hb] at hb';cases hb';exact hn
     ·exact hno i b' (by omega) hb'⟩
   have e1:((Utf8.decode s k).1:Int)=((s[k]'hlt).toNat:Int):=by rw[hd]
   rw[e1]
   cases hl:rQ ((s[k]'hlt).toNat:Int) with
   | true=>rw[Bool.not_true,mX];exact go (by simp[nameAt,hl])
   | false =>
    rw[Bool.not_false,jT]
    by_cases hk0:k=0
    ·exact gH (by omega) (stop (by subst hk0;rw[ADL];exact hl))
    ·refine jC (by omega) ?_
     cases hf:(B7 ((s[k]'hlt).toNat:Int)||decide (((s[k]'hlt).toNat:Int)=95)||decide (((s[k]'hlt).toNat:Int)=45)) with
     | true=>rw[Bool.not_true,mX];exact go (by unfold nameAt;rw[hl,hf];simp[hk0])
     | false=>rw[Bool.not_false,jT];exact stop (by unfold nameAt;rw[hl,hf];simp)
  ·obtain ⟨hd1,hd2⟩:=decode_high s k hlt (by omega)
   have hl:rQ ((Utf8.decode s k).1:Int)=false:=by
    unfold rQ;simp;omega
   have hf:(B7 ((Utf8.decode s k).1:Int)||decide (((Utf8.decode s k).1:Int)=95)||decide (((Utf8.decode s k).1:Int)=45))=false:=by
    unfold B7;simp;omega
   have hn:nameAt k (s[k]'hlt)=false:=by
    unfold nameAt rQ B7;simp;omega
   rw[hl,hf,Bool.not_false,jT]
   by_cases hk0:k=0
   ·exact gH (by omega) (stop hn)
   ·refine jC (by omega) ?_
    rw[jT]
    exact stop hn
 ·refine jC hlt ?_
  rw[AQ7 h0 (by omega) (fun i b h=>hno i b (by have:=(Array.getElem?_eq_some_iff.1 h).1;have:i<s.size:=this;omega) h)];rfl
noncomputable def A29:Env:=Env.of [(48,.pure iO)]
def A30:FuncId→Hint:=bX 118 [(3,.inv [.val 3 false (.int .i64),.val 11 false (.int .i64)])] (fun _=>bI)
theorem AOG:aT Tryz.prog A29:=.cons zC (.nil _)
def U2(a0:List ByteArray)(R:T→Prop):Prop:=aZ (Int×Int×PUnit) (fun X0 s1=>aD (decide (s1.2.1<(↑(GT a0).length:Int))) (aP Sy.str (GT a0) s1.2.1 fun (y2:ByteArray)=>aI d4 (iO [T.v (.string y2)]) fun (y3:Bool)=>aD (!y3) (R d3) (X0 (IntKind.i64.wrap (s1.1+(↑y2.size:Int)),IntKind.i64.wrap (s1.2.1+1),()))) (aD (decide (1≤(↑(GT a0).length:Int))) (aD (decide ((↑(GT a0).length:Int)≤8)) (R (T.v (.bool (decide (s1.1≤64))))) (R d3)) (R d3))) (IntKind.i64.wrap ((↑(GT a0).length:Int)-1),0,())
abbrev XI:Sh:=[(false,Sy.str.li)]
noncomputable def ER:List T→Option T:=gS XI uE
theorem AH9 {a0}:ER [T.sl false (List.map Sy.str.enc a0)]=uE (a0):=bE (s:=XI) rfl (a0) rfl
theorem A0X:uH Tryz.prog 118 ER uE (cC XI) U2:=iW (a1:=(false,Sy.str.li)) (sp:=uE) (F:=U2) (Hs:=A30) (f:=118) (k:=8) AOG aQ aS (aL rfl) ⟨_,_,Tryz.func118,rfl⟩ rfl fun _ _=>by kernel_rfl
theorem DR:∀ (l:List ByteArray) (x:ByteArray),oR (l++[x])=oR l+x.size
 | [],x=>by simp[oR]
 | a::l,x=>by simp only[List.cons_append,oR,DR l x];omega
theorem QN:∀ (l:List ByteArray) (k:Nat),oR (l.take k)≤oR l
 | [],k=>by simp
 | a::l,0=>by simp[oR]
 | a::l,k+1=>by simp only[List.take_succ_cons,oR];have:=QN l k;omega
theorem AXR:aN Tryz.prog 118 ER:=A0X fun l r h hb=>by
 unfold uE at h
 split at h
 ·rename_i hsz
  simp only[Bool.and_eq_true,decide_eq_true_eq] at hsz
  obtain ⟨hl65,hs64⟩:=hsz
  cases h
  unfold U2 GT d4 d3
  refine bM l.length (fun k t=>t=((l.length:Int)-1+oR (l.take k),(k:Int),())∧(l.take k).all isName=true) ⟨by
   simp only[List.take_zero,oR,List.length_map,Prod.mk.injEq,and_true]
   rw[bH _ (by omega) (by omega)];simp,by simp⟩ ?_
  rintro X k t hk ⟨rfl,hall⟩ hX
  dsimp only
  by_cases hlt:k<l.length
  ·refine gH (by simp[hlt]) ?_
   rw[bG (r:=.str) hlt]
   refine aG (s:=q_b) (y:=isName l[k]) xN ?_
   have hsum:=QN l (k+1)
   have htake:l.take (k+1)=l.take k++[l[k]]:=List.take_succ_eq_append_getElem hlt
   cases hn:isName l[k] with
   | false =>
    rw[Bool.not_false,jT]
    have:l.all isName=false:=by
     rw[Bool.eq_false_iff];intro ha
     have:=List.all_eq_true.1 ha _ (List.getElem_mem hlt)
     rw[hn] at this;cases this
    rw[this];rfl
   | true =>
    rw[Bool.not_true,mX]
    rw[htake,DR] at hsum
    refine hX _ hlt ⟨?_,by rw[htake,List.all_append,hall];simp[hn]⟩
    rw[htake,DR]
    simp only[Prod.mk.injEq,and_true]
    exact ⟨by rw[bH _ (by omega) (by omega)];simp;omega,bH _ (by omega) (by omega)⟩
  ·have:k=l.length:=by omega
   subst this
   rw[List.take_length] at hall
   refine jC (by simp) ?_
   rw[List.take_length,hall]
   by_cases h1:1≤l.length
   ·refine gH (by simp only[List.length_map];omega) ?_
    by_cases h2:l.length≤8
    ·refine gH (by simp only[List.length_map];omega) ?_
     rw[decide_eq_true h1,decide_eq_true h2];rfl
    ·refine jC (by simp only[List.length_map];omega) ?_
     rw[decide_eq_false h2,Bool.and_false];rfl
   ·refine jC (by simp only[List.length_map];omega) ?_
    rw[decide_eq_false h1];rfl
 ·cases h
noncomputable def A8X:Env:=Env.of [(119,.pure xY),(118,.pure ER)]
theorem ATZ:aT Tryz.prog A8X:=.cons AQI (.cons AXR (.nil _))
def AGC(a0:ByteArray)(R:T→Prop):Prop:=aD (decide ((↑(ByteArray.size a0):Int)≤64)) (aI d9 (xY [T.v (.string a0),T.v (.string {data:=#[46]})]) fun (y0:List ByteArray)=>aI d4 (ER [T.sl false (GT y0)]) fun (y1:Bool)=>R (T.v (.bool y1))) (R d3)
abbrev AJZ:Sh:=[(false,Sy.str)]
abbrev W8:Sh:=[(false,Sy.bool)]
theorem AD6 (y:Sh.den W8) (K:Sh.den W8→Prop):aI W8 (some (Sh.enc W8 y)) K=K y:=yW rfl y K
noncomputable def eQ:List T→Option T:=gS AJZ F4
theorem SS {a0}:eQ [T.v (.string a0)]=F4 (a0):=bE (s:=AJZ) rfl (a0) rfl
theorem A6P:uH Tryz.prog 94 eQ F4 (cC AJZ) AGC:=iW (a1:=(false,Sy.str)) (sp:=F4) (F:=AGC) (Hs:=dI) (f:=94) (k:=8) ATZ aQ aS (aL rfl) ⟨_,_,Tryz.func94,rfl⟩ rfl fun _ _=>by kernel_rfl
theorem EB:aN Tryz.prog 94 eQ:=A6P fun s r h hb=>by
 have h':some (Sh.enc q_b (vG s))=some r:=h
 cases h'
 clear h
 unfold AGC GT d9 d4 d3 vG
 by_cases h64:s.size≤64
 ·refine gH (by omega) ?_
  have hsum:=ASJ s
  have hpos:=ASI s
  refine aG (s:=BCR) (y:=eK s) ?_ ?_
  ·rw[show xY [T.v (.string s),T.v (.string { data:=#[46] })]=yR (s,dot) from AC4]
   unfold yR
   rw[show decide (s.size<4294967281)=true by simp;omega,show decide (1≤dot.size)=true from rfl]
   rfl
  ·refine aG (s:=q_b) (y:=(eK s).all isName&&(decide (1≤(eK s).length)&&decide ((eK s).length≤8)&&decide (A7E (eK s)≤64))) ?_ ?_
   ·rw[AH9]
    unfold uE
    rw[show (decide ((eK s).length≤65)&&decide (oR (eK s)≤64))=true by simp;omega]
   ·have h1:decide (1≤(eK s).length)=true:=decide_eq_true hpos
    have h2:decide (A7E (eK s)≤64)=true:=decide_eq_true (by unfold A7E;omega)
    have h3:decide (s.size≤64)=true:=decide_eq_true h64
    rw[h1,h2,h3]
    simp[Bool.and_comm,Sh.enc,aF,Sy.enc,hdT]
 ·refine jC (by omega) ?_
  rw[decide_eq_false h64];rfl
end Go.Pv
namespace Go.Pv
open Go Go.Proofs
def Seen (es:List (ByteArray×Bool)) (S:ByteArray→Prop):Prop:=(∀ id b,j1 es id=some b→b=true)∧∀ id,j1 es id=some true↔S id
theorem Seen.nil:Seen [] fun _=>False:=⟨fun id b h=>(by cases h),fun id=>⟨fun h=>(by cases h),fun h=>h.elim⟩⟩
theorem Seen.ins {es:List (ByteArray×Bool)} {S:ByteArray→Prop} (h:Seen es S) (k:ByteArray):Seen (wP es k true) fun id=>S id∨k=id:=by
 refine ⟨fun id b hb=>?_,fun id=>?_⟩
 ·rw[xZ] at hb
  split at hb
  ·cases hb;rfl
  ·exact h.1 id b hb
 ·rw[xZ]
  split
  ·rename_i e;exact ⟨fun _=>.inr e,fun _=>rfl⟩
  ·rename_i e;rw[h.2];exact ⟨.inl,fun h=>h.resolve_right e⟩
theorem Seen.congr {es:List (ByteArray×Bool)} {S S':ByteArray→Prop} (h:Seen es S) (e:∀ id,S id↔S' id):Seen es S':=⟨h.1,fun id=>(h.2 id).trans (e id)⟩
abbrev RS:=List (Value×T)×Nat×List Nat×Nat
theorem AXB {m:List (ByteArray×Int)} {seen:List Nat} {i:Nat} (hi:i<m.length) (K:ByteArray→Int→Prop) (hk:K m[i].1 m[i].2):KE .str false (.int .i64) (qX (bS m)) (seen++[i]) K :=
 ⟨i,m[i].1,m[i].2,by simp,by simp only[qX,bS,List.map_map,List.getElem?_map,List.getElem?_eq_getElem hi];rfl,hk⟩
theorem A4O {m:List (ByteArray×Int)} {es:List (ByteArray×Bool)} {S:ByteArray→Prop} {R7 K:Prop} (hS:Seen es S) (hbad:(∃ i,∃ h:i<m.length,S m[i].1)→R7) (hgood:(∀ i (h:i<m.length),¬ S m[i].1)→K) :
  aZ (RS×PUnit) (fun (X:RS×PUnit→Prop) (s:RS×PUnit)=>bQ (decide (s.1.1.length≤s.1.2.1)&&decide (s.1.2.1≤s.1.2.2.2)) (xA s.1.1.length s.1.2.2.1 K fun (i:Nat) =>
   bQ (decide (s.1.1.length=s.1.1.length)) (KE Sy.str false (Sy.int IntKind.i64) (qX s.1.1) (s.1.2.2.1++[i]) fun (k:ByteArray) (y:Int) =>
    iF TypeDesc.string (Value.string k) (List.map (cW Sy.str false Sy.bool) es) false Sy.bool (X ((s.1.1,s.1.2.1,s.1.2.2.1++[i],s.1.1.length),())) fun (j:Nat) (b:Bool) =>
     aD b R7 (X ((s.1.1,s.1.2.1,s.1.2.2.1++[i],s.1.1.length),()))))) ((bS m,(bS m).length,[],(bS m).length),()):=by
 have hml:(bS m).length=m.length:=by simp[bS]
 refine bM m.length (fun k t=>∃ seen,t=((bS m,(bS m).length,seen,(bS m).length),())∧(dA m.length seen).length+k≤m.length∧∀ i (h:i<m.length),i∈seen→¬ S m[i].1) ⟨[],rfl,by rw[JY];omega,by simp⟩ ?_
 rintro X k t hk ⟨seen,rfl,hlen,hJ⟩ hX
 dsimp only
 refine ⟨by simp,?_,?_⟩
 ·intro hm
  rw[hml] at hm
  refine hgood fun i hi=>hJ i hi ?_
  refine Classical.byContradiction fun hc=>?_
  have:i∈dA m.length seen:=rR.2 ⟨hi,hc⟩
  rw[hm] at this;cases this
 ·intro i hi
  rw[hml] at hi
  have hi1:=(rR.1 hi).1
  have hst:=FF hi
  refine ⟨by simp,AXB hi1 _ ?_⟩
  have go:¬ S m[i].1→X ((bS m,(bS m).length,seen++[i],(bS m).length),()):=fun hn=>hX _ (by omega) ⟨_,rfl,by omega,fun j hj hm=>by
   rcases List.mem_append.1 hm with h|h
   ·exact hJ j hj h
   ·simp at h;subst h;exact hn⟩
  refine D9 (r:=.bool) (fun hno=>go fun h=>?_) fun j b hb=>?_
  ·have:=(hS.2 m[i].1).2 h
   rw[hno] at this;cases this
  ·have:=hS.1 _ _ hb
   subst this
   rw[jT]
   exact hbad ⟨i,hi1,(hS.2 _).1 hb⟩
theorem A4E {m:List (ByteArray×Int)} {es:List (ByteArray×Bool)} {S:ByteArray→Prop} {K:List (ByteArray×Bool)×RS×PUnit→Prop} (hS:Seen es S) (hgood:∀ es' rs,Seen es' (fun id=>S id∨∃ i,∃ h:i<m.length,m[i].1=id)→K (es',rs,())) :
  eJ Sy.str false Sy.bool (List.map (cW Sy.str false Sy.bool) es) fun (y:List (ByteArray×Bool)) =>
  aZ (List (ByteArray×Bool)×RS×PUnit) (fun (X:List (ByteArray×Bool)×RS×PUnit→Prop) (s:List (ByteArray×Bool)×RS×PUnit)=>bQ (decide (s.2.1.1.length≤s.2.1.2.1)&&decide (s.2.1.2.1≤s.2.1.2.2.2)) (xA s.2.1.1.length s.2.1.2.2.1 (K s) fun (i:Nat) =>
   bQ (decide (s.2.1.1.length=s.2.1.1.length)) (KE Sy.str false (Sy.int IntKind.i64) (qX s.2.1.1) (s.2.1.2.2.1++[i]) fun (k:ByteArray) (y:Int) =>
    oZ (Option (Nat×D)) (findD TypeDesc.string (OQ Sy.str k) (List.map (cW Sy.str false Sy.bool) s.1) 0) fun (y37:Option (Nat×D)) =>
     eJ Sy.str false Sy.bool (fN (List.map (cW Sy.str false Sy.bool) s.1) y37 (Value.string k) (D.p (T.v (.bool true)))) fun (y38:List (ByteArray×Bool)) =>
      X (y38,(s.2.1.1,s.2.1.2.1,s.2.1.2.2.1++[i],s.2.1.1.length),())))) (y,(bS m,(bS m).length,[],(bS m).length),()):=by
 have hml:(bS m).length=m.length:=by simp[bS]
 refine oF (r:=.bool) rfl es _ ?_
 refine bM m.length (fun k t=>∃ seen es',t=(es',(bS m,(bS m).length,seen,(bS m).length),())∧(dA m.length seen).length+k≤m.length∧Seen es' (fun id=>S id∨∃ i,∃ h:i<m.length,i∈seen∧m[i].1=id)) ⟨[],es,rfl,by rw[JY];omega,hS.congr (by simp)⟩ ?_
 rintro X k t hk ⟨seen,es',rfl,hlen,hJ⟩ hX
 dsimp only
 refine ⟨by simp,?_,?_⟩
 ·intro hm
  rw[hml] at hm
  refine hgood _ _ (hJ.congr fun id=>⟨fun h=>h.imp_right fun ⟨i,hi,_,e⟩=>⟨i,hi,e⟩,fun h=>h.imp_right fun ⟨i,hi,e⟩=>⟨i,hi,?_,e⟩⟩)
  refine Classical.byContradiction fun hc=>?_
  have:i∈dA m.length seen:=rR.2 ⟨hi,hc⟩
  rw[hm] at this;cases this
 ·intro i hi
  rw[hml] at hi
  have hi1:=(rR.1 hi).1
  have hst:=FF hi
  refine ⟨by simp,AXB hi1 _ ?_⟩
  refine AZT (r:=.bool) rfl (es:=es') (k:=m[i].1) (v:=true) (hX _ (by omega) ⟨seen++[i],_,rfl,by omega,(hJ.ins _).congr fun id=>⟨?_,?_⟩⟩)
  ·rintro ((h|⟨j,hj,hm,e⟩)|h)
   ·exact .inl h
   ·exact .inr ⟨j,hj,by simp[hm],e⟩
   ·exact .inr ⟨i,hi1,by simp,h⟩
  ·rintro (h|⟨j,hj,hm,e⟩)
   ·exact .inl (.inl h)
   ·rcases List.mem_append.1 hm with hm|hm
    ·exact .inl (.inr ⟨j,hj,hm,e⟩)
    ·simp at hm;subst hm;exact .inr e
def ltN (a b:cX):Bool:=decide (a.1<b.1)||(decide (a.1=b.1)&&(cV a.2.1 b.2.1||(decide (a.2.1=b.2.1)&&cV a.2.2 b.2.2)))
def AGW:List cX→Bool
 | a::b::l=>ltN a b&&AGW (b::l)
 | _=>true
theorem AO8 {l:List cX} {k:Nat} (h:k+1<l.length):AGW (l.drop k)=(ltN l[k] l[k+1]&&AGW (l.drop (k+1))):=by
 rw[List.drop_eq_getElem_cons (show k<l.length by omega),List.drop_eq_getElem_cons h,AGW]
theorem AWD {l:List cX} {k:Nat} (h:l.length≤k+1):AGW (l.drop k)=true:=by
 rcases Nat.lt_or_ge k l.length with h1|h1
 ·rw[List.drop_eq_getElem_cons h1,List.drop_eq_nil_of_le h];rfl
 ·rw[List.drop_eq_nil_of_le h1];rfl
theorem S7 (k:ByteArray) (v:Int) (id:ByteArray):∀ es:List (ByteArray×Int),id∈(wP es k v).map (fun e=>e.1)↔id∈es.map (fun e=>e.1)∨id=k
 | []=>by simp[wP]
 | e::es=>by
  simp only[wP]
  split
  ·rename_i h
   simp only[List.map_cons,List.mem_cons]
   rw[←h]
   constructor
   ·rintro (h|h)
    ·exact .inl (.inl h)
    ·exact .inl (.inr h)
   ·rintro ((h|h)|h)
    ·exact .inl h
    ·exact .inr h
    ·exact .inl h
  ·simp only[List.map_cons,List.mem_cons,S7 k v id es,or_assoc]
theorem TA (id:ByteArray):∀ (l:List ByteArray) (i:Nat) (es:List (ByteArray×Int)),id∈(HZ l i es).map (fun e=>e.1)↔id∈es.map (fun e=>e.1)∨id∈l
 | [],i,es=>by simp[HZ]
 | a::l,i,es=>by
  simp only[HZ]
  rw[TA id l]
  cases h:j1 es a with
  | none=>simp only[S7,List.mem_cons,or_assoc]
  | some v =>
   simp only[List.mem_cons]
   have ha:a∈es.map (fun e=>e.1):=by
    rcases vE a es with ⟨h1,_⟩|⟨j,hj,h1,_⟩
    ·rw[h] at h1;cases h1
    ·exact List.mem_map.2 ⟨es[j],List.getElem_mem hj,h1⟩
   constructor
   ·rintro (h|h)
    ·exact .inl h
    ·exact .inr (.inr h)
   ·rintro (h|rfl|h)
    ·exact .inl h
    ·exact .inl ha
    ·exact .inr h
theorem lA {l:List ByteArray} {id:ByteArray}:(∃ i,∃ h:i<(iX l).length,(iX l)[i].1=id)↔id∈l:=by
 have h:=TA id l 0 []
 simp only[List.map_nil,List.not_mem_nil,false_or] at h
 rw[←h,List.mem_map]
 constructor
 ·rintro ⟨i,hi,e⟩;exact ⟨_,List.getElem_mem hi,e⟩
 ·rintro ⟨e,he,h⟩
  obtain ⟨i,hi,rfl⟩:=List.mem_iff_getElem.1 he
  exact ⟨i,hi,h⟩
def BU (a0:aC) (m1:List (ByteArray×Int)) (m2:List (ByteArray×Int)) (m3:List (ByteArray×Int)) (m4:List (ByteArray×Int)):List T:=[QP a0 m1 m2 m3 m4]
noncomputable def AE6:Env:=Env.of [(89,.pure wO)]
def AVR:FuncId→Hint:=fun f=>match f == 50 with|true=>⟨fun r=>match r == 9 with|true=>.inv [.val 4 false .bool,.val 5 false (.int .i64)]|false=>match r == 17 with|true=>.YU 5|false=>match r == 20 with|true=>.alts [[.cD 30],[.cD 29],[.cD 28],[.cD 27],[.cD 26],[.cD 25],[.cD 24],[.cD 23],[.cD 22],[.cD 21],[.cD 20],[.cD 19],[.cD 18],[.cD 17],[.cD 16],[.cD 15],[.cD 14],[.cD 13],[.cD 12],[.cD 11],[.cD 10],[.cD 9],[.cD 8],[.cD 7],[.cD 6],[.cD 5],[.cD 4],[.cD 3],[.cD 2]]|false=>match r == 25 with|true=>.alts [[.map 2 .str false .bool,.cD 30],[.map 2 .str false .bool,.cD 29],[.map 2 .str false .bool,.cD 28],[.map 2 .str false .bool,.cD 27],[.map 2 .str false .bool,.cD 26],[.map 2 .str false .bool,.cD 25],[.map 2 .str false .bool,.cD 24],[.map 2 .str false .bool,.cD 23],[.map 2 .str false .bool,.cD 22],[.map 2 .str false .bool,.cD 21],[.map 2 .str false .bool,.cD 20],[.map 2 .str false .bool,.cD 19],[.map 2 .str false .bool,.cD 18],[.map 2 .str false .bool,.cD 17],[.map 2 .str false .bool,.cD 16],[.map 2 .str false .bool,.cD 15],[.map 2 .str false .bool,.cD 14],[.map 2 .str false .bool,.cD 13],[.map 2 .str false .bool,.cD 12],[.map 2 .str false .bool,.cD 11],[.map 2 .str false .bool,.cD 10],[.map 2 .str false .bool,.cD 9],[.map 2 .str false .bool,.cD 8],[.map 2 .str false .bool,.cD 7],[.map 2 .str false .bool,.cD 6],[.map 2 .str false .bool,.cD 5],[.map 2 .str false .bool,.cD 4],[.map 2 .str false .bool,.cD 3],[.map 2 .str false .bool,.cD 2]]|false=>.none,fun i j=>match i == 5&&j == 5 with|true=>some [.val 4 false .bool]|false=>match i == 6&&j == 6 with|true=>some [.val 4 false .bool]|false=>match i == 7&&j == 7 with|true=>some [.val 4 false .bool]|false=>none,fun r=>match r == 21 with|true=>some (.str,false,(.int .i64))|false=>match r == 26 with|true=>some (.str,false,(.int .i64))|false=>none⟩|false=>bI
theorem ATX:aT Tryz.prog AE6:=.cons A76 (.nil _)
def f5(a0:aC):List T:=[T.v (.string a0.1), T.sl false (m9 a0), T.sl false (FS a0), T.sl false (m8 a0), T.sl false (i7 a0), T.sl false (AC a0)]
def f9(a0:aC):List T:=[T.v (.string a0.1),T.sl false (m9 a0), T.sl false (FS a0), T.sl false (m8 a0), T.sl false (i7 a0), T.sl false (AC a0)]
def AF9(a0:aC)(m1:List (ByteArray×Int))(m2:List (ByteArray×Int))(m3:List (ByteArray×Int))(m4:List (ByteArray×Int))(R:T→Prop):Prop:=aD (decide (64<(↑(m9 a0).length:Int))) (R (T.v (.int .i64 4))) (aD (decide (256<(↑(FS a0).length:Int))) (R (T.v (.int .i64 4))) (aD (decide (256<(↑(m8 a0).length:Int))) (R (T.v (.int .i64 4))) (aD (decide (64<(↑(i7 a0).length:Int))) (R (T.v (.int .i64 4))) (aD (decide (256<(↑(AC a0).length:Int))) (R (T.v (.int .i64 4))) (aI d4 (wO [T.v (.int .i64 (↑(m9 a0).length:Int)), T.fn 90 [] [T.ref [T.ref (f9 a0)]]]) fun (y0:Bool)=>oK (Bool×PUnit) (fun (X1:Bool×PUnit→Prop)=>aD y0 (aI d4 (wO [T.v (.int .i64 (↑(FS a0).length:Int)), T.fn 91 [] [T.ref [T.ref (f5 a0)]]]) fun (y2:Bool)=>X1 (y2,())) (X1 (false,()))) fun (s3:Bool×PUnit)=>oK (Bool×PUnit) (fun (X4:Bool×PUnit→Prop)=>aD s3.1 (aI d4 (wO [T.v (.int .i64 (↑(m8 a0).length:Int)), T.fn 92 [] [T.ref [T.ref (f5 a0)]]]) fun (y5:Bool)=>X4 (y5,())) (X4 (false,()))) fun (s6:Bool×PUnit)=>oK (Bool×PUnit) (fun (X7:Bool×PUnit→Prop)=>aD s6.1 (aI d4 (wO [T.v (.int .i64 (↑(i7 a0).length:Int)), T.fn 93 [] [T.ref [T.ref (f5 a0)]]]) fun (y8:Bool)=>X7 (y8,())) (X7 (false,()))) fun (s9:Bool×PUnit)=>aZ (Bool×Int×PUnit) (fun X10 s11=>aD (decide (s11.2.1<(↑(AC a0).length:Int))) (aP aR (AC a0) (IntKind.i64.wrap (s11.2.1-1)) fun (y12:cX)=>aP aR (AC a0) s11.2.1 fun (y13:cX)=>aD s11.1 (aD (decide (y12.1<y13.1)) (X10 (true,IntKind.i64.wrap (s11.2.1+1),())) (aD (decide (y12.1=y13.1)) (aD (cV y12.2.1 y13.2.1) (X10 (true,IntKind.i64.wrap (s11.2.1+1),())) (aD (decide (y12.2.1=y13.2.1)) (X10 (cV y12.2.2 y13.2.2,IntKind.i64.wrap (s11.2.1+1), ())) (X10 (false,IntKind.i64.wrap (s11.2.1+1),())))) (X10 (false,IntKind.i64.wrap (s11.2.1+1),())))) (X10 (false,IntKind.i64.wrap (s11.2.1+1),()))) (aD (!s11.1) (R (T.v (.int .i64 11))) (aZ ((List (Value×T)×Nat×List Nat×Nat)×PUnit) (fun (X14:(List (Value×T)×Nat×List Nat×Nat)×PUnit→Prop) (s15:(List (Value×T)×Nat×List Nat×Nat)×PUnit)=>bQ (decide (s15.1.1.length≤s15.1.2.1) && decide (s15.1.2.1≤s15.1.2.2.2)) (xA s15.1.1.length s15.1.2.2.1 (eJ Sy.str false Sy.bool [] fun (y16:List (ByteArray×Bool))=>aZ (List (ByteArray×Bool) × (List (Value×T)×Nat×List Nat×Nat)×PUnit) (fun (X17 : List (ByteArray×Bool) × (List (Value×T)×Nat×List Nat×Nat)×PUnit → Prop) (s18 : List (ByteArray×Bool) × (List (Value×T)×Nat×List Nat×Nat)×PUnit)=>bQ (decide (s18.2.1.1.length≤s18.2.1.2.1) && decide (s18.2.1.2.1≤s18.2.1.2.2.2)) (xA s18.2.1.1.length s18.2.1.2.2.1 (aZ ((List (Value×T)×Nat×List Nat×Nat)×PUnit) (fun (X19 : (List (Value×T)×Nat×List Nat×Nat)×PUnit→Prop) (s20:(List (Value×T)×Nat×List Nat×Nat)×PUnit)=>bQ (decide (s20.1.1.length≤s20.1.2.1) && decide (s20.1.2.1≤s20.1.2.2.2)) (xA s20.1.1.length s20.1.2.2.1 (eJ Sy.str false Sy.bool (List.map (cW Sy.str false Sy.bool) s18.1) fun (y21:List (ByteArray×Bool))=>aZ (List (ByteArray×Bool) × (List (Value×T)×Nat×List Nat×Nat)×PUnit) (fun (X22 : List (ByteArray×Bool) × (List (Value×T)×Nat×List Nat×Nat) × PUnit → Prop) (s23 : List (ByteArray×Bool) × (List (Value×T)×Nat×List Nat×Nat) × PUnit)=>bQ (decide (s23.2.1.1.length≤s23.2.1.2.1) && decide (s23.2.1.2.1≤s23.2.1.2.2.2)) (xA s23.2.1.1.length s23.2.1.2.2.1 (aZ ((List (Value×T)×Nat×List Nat×Nat) × PUnit) (fun (X24 : (List (Value×T) × Nat×List Nat×Nat) × PUnit → Prop) (s25 : (List (Value×T) × Nat×List Nat×Nat) × PUnit)=>bQ (decide (s25.1.1.length≤s25.1.2.1) && decide (s25.1.2.1≤s25.1.2.2.2)) (xA s25.1.1.length s25.1.2.2.1 (eJ Sy.str false Sy.bool (List.map (cW Sy.str false Sy.bool) s23.1) fun (y26:List (ByteArray×Bool))=>aZ (List (ByteArray×Bool) × (List (Value×T) × Nat×List Nat×Nat) × PUnit) (fun (X27 : List (ByteArray×Bool) × (List (Value×T) × Nat×List Nat×Nat) × PUnit → Prop) (s28 : List (ByteArray×Bool) × (List (Value×T) × Nat×List Nat×Nat) × PUnit)=>bQ (decide (s28.2.1.1.length ≤ s28.2.1.2.1) && decide (s28.2.1.2.1 ≤ s28.2.1.2.2.2)) (xA s28.2.1.1.length s28.2.1.2.2.1 (aZ ((List (Value×T) × Nat×List Nat×Nat) × PUnit) (fun (X29 : (List (Value×T) × Nat×List Nat×Nat) × PUnit → Prop) (s30 : (List (Value×T) × Nat×List Nat×Nat) × PUnit)=>bQ (decide (s30.1.1.length ≤ s30.1.2.1) && decide (s30.1.2.1 ≤ s30.1.2.2.2)) (xA s30.1.1.length s30.1.2.2.1 (eJ Sy.str false Sy.bool (List.map (cW Sy.str false Sy.bool) s28.1) fun (y31 : List (ByteArray×Bool))=>aZ (List (ByteArray×Bool) × (List (Value × T) × Nat × List Nat×Nat) × PUnit) (fun (X32 : List (ByteArray × Bool) × (List (Value × T) × Nat × List Nat × Nat) × PUnit → Prop) (s33 : List (ByteArray × Bool) × (List (Value × T) × Nat × List Nat × Nat) × PUnit)=>bQ (decide (s33.2.1.1.length ≤ s33.2.1.2.1) && decide (s33.2.1.2.1 ≤ s33.2.1.2.2.2)) (xA s33.2.1.1.length s33.2.1.2.2.1 (R (T.v (.int .i64 0))) fun (i34:Nat)=>bQ (decide (s33.2.1.1.length = s33.2.1.1.length)) (KE Sy.str false bF (qX s33.2.1.1) (s33.2.1.2.2.1 ++ [i34]) fun (k35 : ByteArray) (y36:Int)=>oZ (Option (Nat × D)) (findD TypeDesc.string (OQ Sy.str k35) (List.map (cW Sy.str false Sy.bool) s33.1) 0) fun (y37 : Option (Nat × D))=>eJ Sy.str false Sy.bool (fN (List.map (cW Sy.str false Sy.bool) s33.1) y37 (Value.string k35) (D.p d6)) fun (y38 : List (ByteArray × Bool))=>X32 (y38, (s33.2.1.1, s33.2.1.2.1, s33.2.1.2.2.1 ++ [i34], s33.2.1.1.length), ())))) (y31, (bS m4, (bS m4).length, [], (bS m4).length), ())) fun (i39:Nat)=>bQ (decide (s30.1.1.length = s30.1.1.length)) (KE Sy.str false bF (qX s30.1.1) (s30.1.2.2.1 ++ [i39]) fun (k40:ByteArray) (y41:Int)=>iF TypeDesc.string (Value.string k40) (List.map (cW Sy.str false Sy.bool) s28.1) false Sy.bool (X29 ((s30.1.1, s30.1.2.1, s30.1.2.2.1 ++ [i39], s30.1.1.length), ())) fun (i42:Nat) (y43:Bool)=>aD y43 (R (T.v (.int .i64 7))) (X29 ((s30.1.1, s30.1.2.1, s30.1.2.2.1 ++ [i39], s30.1.1.length), ()))))) ((bS m4, (bS m4).length,[], (bS m4).length), ())) fun (i44:Nat)=>bQ (decide (s28.2.1.1.length = s28.2.1.1.length)) (KE Sy.str false bF (qX s28.2.1.1) (s28.2.1.2.2.1++[i44]) fun (k45:ByteArray) (y46:Int)=>oZ (Option (Nat×D)) (findD TypeDesc.string (OQ Sy.str k45) (List.map (cW Sy.str false Sy.bool) s28.1) 0) fun (y47 : Option (Nat×D))=>eJ Sy.str false Sy.bool (fN (List.map (cW Sy.str false Sy.bool) s28.1) y47 (Value.string k45) (D.p d6)) fun (y48 : List (ByteArray×Bool))=>X27 (y48, (s28.2.1.1, s28.2.1.2.1, s28.2.1.2.2.1 ++ [i44], s28.2.1.1.length), ())))) (y26, (bS m3,(bS m3).length,[], (bS m3).length), ())) fun (i49:Nat)=>bQ (decide (s25.1.1.length=s25.1.1.length)) (KE Sy.str false bF (qX s25.1.1) (s25.1.2.2.1++[i49]) fun (k50:ByteArray) (y51:Int)=>iF TypeDesc.string (Value.string k50) (List.map (cW Sy.str false Sy.bool) s23.1) false Sy.bool (X24 ((s25.1.1,s25.1.2.1, s25.1.2.2.1++[i49], s25.1.1.length), ())) fun (i52:Nat) (y53:Bool)=>aD y53 (R (T.v (.int .i64 7))) (X24 ((s25.1.1,s25.1.2.1, s25.1.2.2.1++[i49], s25.1.1.length), ()))))) ((bS m3,(bS m3).length,[], (bS m3).length), ())) fun (i54:Nat)=>bQ (decide (s23.2.1.1.length=s23.2.1.1.length)) (KE Sy.str false bF (qX s23.2.1.1) (s23.2.1.2.2.1++[i54]) fun (k55:ByteArray) (y56:Int)=>oZ (Option (Nat×D)) (findD TypeDesc.string (OQ Sy.str k55) (List.map (cW Sy.str false Sy.bool) s23.1) 0) fun (y57:Option (Nat×D))=>eJ Sy.str false Sy.bool (fN (List.map (cW Sy.str false Sy.bool) s23.1) y57 (Value.string k55) (D.p d6)) fun (y58:List (ByteArray×Bool))=>X22 (y58, (s23.2.1.1,s23.2.1.2.1, s23.2.1.2.2.1++[i54], s23.2.1.1.length), ())))) (y21, (bS m2,(bS m2).length,[], (bS m2).length), ())) fun (i59:Nat)=>bQ (decide (s20.1.1.length=s20.1.1.length)) (KE Sy.str false bF (qX s20.1.1) (s20.1.2.2.1++[i59]) fun (k60:ByteArray) (y61:Int)=>iF TypeDesc.string (Value.string k60) (List.map (cW Sy.str false Sy.bool) s18.1) false Sy.bool (X19 ((s20.1.1,s20.1.2.1, s20.1.2.2.1++[i59],s20.1.1.length), ())) fun (i62:Nat) (y63:Bool)=>aD y63 (R (T.v (.int .i64 7))) (X19 ((s20.1.1,s20.1.2.1, s20.1.2.2.1++[i59],s20.1.1.length), ()))))) ((bS m2,(bS m2).length,[],(bS m2).length),())) fun (i64:Nat)=>bQ (decide (s18.2.1.1.length=s18.2.1.1.length)) (KE Sy.str false bF (qX s18.2.1.1) (s18.2.1.2.2.1++[i64]) fun (k65:ByteArray) (y66:Int)=>oZ (Option (Nat×D)) (findD TypeDesc.string (OQ Sy.str k65) (List.map (cW Sy.str false Sy.bool) s18.1) 0) fun (y67:Option (Nat×D))=>eJ Sy.str false Sy.bool (fN (List.map (cW Sy.str false Sy.bool) s18.1) y67 (Value.string k65) (D.p d6)) fun (y68:List (ByteArray×Bool))=>X17 (y68, (s18.2.1.1,s18.2.1.2.1, s18.2.1.2.2.1++[i64],s18.2.1.1.length), ())))) (y16,(bS m1,(bS m1).length,[],(bS m1).length),())) fun (i69:Nat)=>bQ (decide (s15.1.1.length=s15.1.1.length)) (KE Sy.str false bF (qX s15.1.1) (s15.1.2.2.1++[i69]) fun (k70:ByteArray) (y71:Int)=>iF TypeDesc.string (Value.string k70) [] false Sy.bool (X14 ((s15.1.1,s15.1.2.1,s15.1.2.2.1++[i69], s15.1.1.length), ())) fun (i72:Nat) (y73:Bool)=>aD y73 (R (T.v (.int .i64 7))) (X14 ((s15.1.1,s15.1.2.1,s15.1.2.2.1++[i69], s15.1.1.length), ()))))) ((bS m1,(bS m1).length,[],(bS m1).length),())))) (s9.1,1,()))))))
theorem AOS ( a0 m1 m2 m3 m4 R):dY bR Tryz.prog AE6 AVR 8 50 (BU a0 m1 m2 m3 m4) R=AF9 a0 m1 m2 m3 m4 R:=by kernel_rfl
abbrev MP:=List (ByteArray×Int)
theorem D5 {a b:MP} (h:bS a=bS b):a=b:=map_inj (fun x y h=>by
 simp only[Prod.mk.injEq,Value.string.injEq,T.v.injEq,Value.int.injEq,true_and] at h
 exact Prod.ext h.1 h.2) h
theorem qV {x y:aC×MP×MP×MP×MP} (h:QP x.1 x.2.1 x.2.2.1 x.2.2.2.1 x.2.2.2.2=QP y.1 y.2.1 y.2.2.1 y.2.2.2.1 y.2.2.2.2):x=y:=by
 simp only[QP,T.ref.injEq,List.cons.injEq,T.mp.injEq,and_true] at h
 obtain ⟨h0,h1,h2,h3,h4⟩:=h
 exact Prod.ext (Sy.dH aB _ _ h0) (Prod.ext (D5 h1) (Prod.ext (D5 h2) (Prod.ext (D5 h3) (D5 h4))))
theorem AEX (x y:aC×MP×MP×MP×MP) (h:BU x.1 x.2.1 x.2.2.1 x.2.2.2.1 x.2.2.2.2=BU y.1 y.2.1 y.2.2.1 y.2.2.2.1 y.2.2.2.2):x=y:=qV (List.cons.inj h).1
def nG (d:aC):Bool:=decide (64<d.2.1.length)||decide (256<d.2.2.1.length)||decide (256<d.2.2.2.1.length)||decide (64<d.2.2.2.2.1.length)||decide (256<d.2.2.2.2.2.length)
def AL2 (d:aC):Bool:=uM (ids d.2.1)&&uM (ids d.2.2.1)&&uM (ids d.2.2.2.1)&&uM (ids d.2.2.2.2.1)&&AGW d.2.2.2.2.2
def A9H (l1 l2 l3 l4:List ByteArray):Bool:=(l2.any (WV l1))||(l3.any fun x=>WV l1 x||WV l2 x)||(l4.any fun x=>WV l1 x||WV l2 x||WV l3 x)
def APN (d:aC):Bool:=A9H (ids d.2.1) (ids d.2.2.1) (ids d.2.2.2.1) (ids d.2.2.2.2.1)
def qH (d:aC):Int:=if nG d=true then 4 else if AL2 d=false then 11 else if APN d=true then 7 else 0
def BCP (x:aC×MP×MP×MP×MP):Bool:=decide (x.2.1=iX (ids x.1.2.1))&&decide (x.2.2.1=iX (ids x.1.2.2.1))&&decide (x.2.2.2.1=iX (ids x.1.2.2.2.1))&&decide (x.2.2.2.2=iX (ids x.1.2.2.2.2.1)) &&
 (decide (x.1.2.1.length≤140737488355328)&&decide (x.1.2.2.1.length≤140737488355328)&&decide (x.1.2.2.2.1.length≤140737488355328)&&decide (x.1.2.2.2.2.1.length≤140737488355328)&&decide (x.1.2.2.2.2.2.length≤140737488355328))
structure nN (d:aC):Prop where
 n:d.2.1.length≤140737488355328
 p:d.2.2.1.length≤140737488355328
 s:d.2.2.2.1.length≤140737488355328
 k:d.2.2.2.2.1.length≤140737488355328
 r:d.2.2.2.2.2.length≤140737488355328
theorem O6 {x:aC×MP×MP×MP×MP}:BCP x=true↔x=(x.1,iX (ids x.1.2.1),iX (ids x.1.2.2.1),iX (ids x.1.2.2.2.1),iX (ids x.1.2.2.2.2.1))∧nN x.1:=by
 obtain ⟨d,a,b,c,e⟩:=x
 simp only[BCP,Bool.and_eq_true,decide_eq_true_eq,Prod.mk.injEq,true_and]
 constructor
 ·rintro ⟨⟨⟨⟨rfl,rfl⟩,rfl⟩,rfl⟩,⟨⟨⟨h1,h2⟩,h3⟩,h4⟩,h5⟩
  exact ⟨⟨rfl,rfl,rfl,rfl⟩,h1,h2,h3,h4,h5⟩
 ·rintro ⟨⟨rfl,rfl,rfl,rfl⟩,h1,h2,h3,h4,h5⟩
  exact ⟨⟨⟨⟨rfl,rfl⟩,rfl⟩,rfl⟩,⟨⟨⟨h1,h2⟩,h3⟩,h4⟩,h5⟩
def wK (x:aC×MP×MP×MP×MP) (t:T):Option T:=match BCP x with
 | true=>some t
 | false=>none
theorem oM {x:aC×MP×MP×MP×MP} {t r:T} (h:wK x t=some r):x=(x.1,iX (ids x.1.2.1),iX (ids x.1.2.2.1),iX (ids x.1.2.2.2.1),iX (ids x.1.2.2.2.2.1))∧nN x.1∧r=t:=by
 unfold wK at h;split at h
 ·rename_i hc
  cases h
  exact ⟨(O6.1 hc).1,(O6.1 hc).2,rfl⟩
 ·cases h
theorem oN {d:aC} (h:nN d) (t:T):wK (d,iX (ids d.2.1),iX (ids d.2.2.1),iX (ids d.2.2.2.1),iX (ids d.2.2.2.2.1)) t=some t:=by
 unfold wK;rw[O6.2 ⟨rfl,h⟩]
def YC (x:aC×MP×MP×MP×MP):Option T:=wK x (T.v (Value.int .i64 (qH x.1)))
noncomputable def OJ:List T→Option (T):=gA (fun (x:aC×(List (ByteArray×Int))×(List (ByteArray×Int))×(List (ByteArray×Int))×List (ByteArray×Int))=>BU x.1 x.2.1 x.2.2.1 x.2.2.2.1 x.2.2.2.2) YC
theorem AQT (a0:aC) (m1:List (ByteArray×Int)) (m2:List (ByteArray×Int)) (m3:List (ByteArray×Int)) (m4:List (ByteArray×Int)):OJ (BU a0 m1 m2 m3 m4)=YC (a0,m1,m2,m3,m4):=eN (A:=(fun (x:aC×(List (ByteArray×Int))×(List (ByteArray×Int))×(List (ByteArray×Int))×List (ByteArray×Int))=>BU x.1 x.2.1 x.2.2.1 x.2.2.2.1 x.2.2.2.2)) AEX (a0,m1,m2,m3,m4)
theorem A6N (h:∀ (a0:aC) (m1:List (ByteArray×Int)) (m2:List (ByteArray×Int)) (m3:List (ByteArray×Int)) (m4:List (ByteArray×Int)) (r:T),YC (a0,m1,m2,m3,m4)=some r→(∀ t∈BU a0 m1 m2 m3 m4,Bd t)→AF9 a0 m1 m2 m3 m4 (fun y=>y=r)):aN Tryz.prog 50 OJ :=
 cK (E:=AE6) (Hs:=AVR) ATX aQ aS (aL rfl) 8 ⟨_,_,Tryz.func50,rfl⟩ fun x r h1 h2=>by
  rw[AOS]
  exact h x.1 x.2.1 x.2.2.1 x.2.2.2.1 x.2.2.2.2 r h1 h2
theorem K1 {A:List T} {b:Bool} (h:wO A=some (T.v (.bool b))) (K:Bool→Prop) (hk:K b):aI [(false,Sy.bool)] (wO A) K:=aG (s:=[(false,Sy.bool)]) (y:=b) h hk
theorem A5G:aN Tryz.prog 50 OJ:=A6N fun d m1 m2 m3 m4 r h hb=>by
 obtain ⟨hx,hs,rfl⟩:=oM h
 simp only[Prod.mk.injEq,true_and] at hx
 obtain ⟨rfl,rfl,rfl,rfl⟩:=hx
 clear h
 have is:∀ {n:Int},qH d=n→T.v (.int .i64 n)=T.v (.int .i64 (qH d)):=fun h=>by rw[h]
 have long:nG d=true→qH d=4:=fun h=>by unfold qH;rw[if_pos h]
 unfold AF9 f9 f5 FS AC m9 m8 i7 d6 d4 bF
 refine cF (fun h=>is (long (by rw[List.length_map] at h;simp only[nG,Bool.or_eq_true,decide_eq_true_eq];omega))) fun l1=>?_
 refine cF (fun h=>is (long (by rw[List.length_map] at h;simp only[nG,Bool.or_eq_true,decide_eq_true_eq];omega))) fun l2=>?_
 refine cF (fun h=>is (long (by rw[List.length_map] at h;simp only[nG,Bool.or_eq_true,decide_eq_true_eq];omega))) fun l3=>?_
 refine cF (fun h=>is (long (by rw[List.length_map] at h;simp only[nG,Bool.or_eq_true,decide_eq_true_eq];omega))) fun l4=>?_
 refine cF (fun h=>is (long (by rw[List.length_map] at h;simp only[nG,Bool.or_eq_true,decide_eq_true_eq];omega))) fun l5=>?_
 rw[List.length_map] at l1 l2 l3 l4 l5
 have notLong:nG d=false:=by simp only[nG,Bool.or_eq_false_iff,decide_eq_false_iff_not];omega
 refine K1 (by rw[List.length_map];exact BAT hs.n) _ ?_
 have step:∀ {b c:Bool} {A:List T} {Z:Bool×PUnit→Prop},wO A=some (T.v (.bool c))→Z (b&&c,())→oK (Bool×PUnit) (fun (X:Bool×PUnit→Prop)=>aD b (aI [(false,Sy.bool)] (wO A) fun (y2:Bool)=>X (y2,())) (X (false,()))) Z:=fun {b c A Z} hA hZ=>by
  rw[zJ]
  cases b with
  | true=>rw[jT];exact K1 hA _ hZ
  | false=>rw[mX];exact hZ
 refine step (by rw[List.length_map];exact BAU hs.p) ?_
 refine step (by rw[List.length_map];exact BAV hs.s) ?_
 refine step (by rw[List.length_map];exact BAW hs.k) ?_
 refine bM d.2.2.2.2.2.length (fun k s=>∃ b,s=(b,((k+1:Nat):Int),())∧(b&&AGW (d.2.2.2.2.2.drop k))=AL2 d) ⟨_,rfl,by rw[List.drop_zero];rfl⟩ ?_
 rintro X k s hk ⟨b,rfl,he⟩ hX
 dsimp only
 have hr:=hs.r
 have hw:IntKind.i64.wrap (((k+1:Nat):Int)+1)=((k+1+1:Nat):Int):=bH _ (by omega) (by omega)
 have hw1:IntKind.i64.wrap (((k+1:Nat):Int)-1)=((k:Nat):Int):=by rw[bH _ (by omega) (by omega)];omega
 refine cF (fun hlt=>?_) fun hge=>?_
 ·have hlt:k+1<d.2.2.2.2.2.length:=by rw[List.length_map] at hlt;omega
  rw[hw1,bG (r:=aR) (show k<d.2.2.2.2.2.length by omega),bG (r:=aR) hlt,hw]
  rw[AO8 hlt] at he
  have go:∀ c,(b&&ltN d.2.2.2.2.2[k] d.2.2.2.2.2[k+1])=c→X (c,((k+1+1:Nat):Int),()):=fun c hc=>hX _ (by omega) ⟨c,rfl,by rw[←hc,Bool.and_assoc];exact he⟩
  generalize d.2.2.2.2.2[k]=u at go
  generalize d.2.2.2.2.2[k+1]=v at go
  cases b with
  | false=>rw[mX];exact go _ rfl
  | true =>
   rw[jT]
   simp only[Bool.true_and,ltN] at go
   refine cF (fun h=>go _ (by simp[h])) fun h1=>?_
   refine cF (fun h2=>?_) fun h2=>go _ (by simp[h1,h2])
   refine BH (fun h3=>go _ (by simp[h2,h3])) fun h3=>?_
   refine cF (fun h4=>go _ (by rw[decide_eq_false h1,decide_eq_true h2,h3,decide_eq_true h4];rfl)) fun h4=>go _ (by rw[decide_eq_false h1,decide_eq_true h2,h3,decide_eq_false h4];rfl)
 ·rw[List.length_map] at hge
  rw[AWD (by omega),Bool.and_true] at he
  refine jS (fun h=>is (by unfold qH;rw[notLong,if_neg (by simp),←he,h];rfl)) fun h=>?_
  have dup:APN d=true→T.v (.int .i64 7)=T.v (.int .i64 (qH d)):=fun h7=>is (by unfold qH;rw[notLong,if_neg (by simp),←he,h,if_neg (by simp),if_pos h7])
  have dup':(∃ i,∃ h:i<(iX (ids d.2.2.1)).length,(iX (ids d.2.2.1))[i].1∈ids d.2.1)∨(∃ i,∃ h:i<(iX (ids d.2.2.2.1)).length,(iX (ids d.2.2.2.1))[i].1∈ids d.2.1∨(iX (ids d.2.2.2.1))[i].1∈ids d.2.2.1)∨(∃ i,∃ h:i<(iX (ids d.2.2.2.2.1)).length,((iX (ids d.2.2.2.2.1))[i].1∈ids d.2.1∨(iX (ids d.2.2.2.2.1))[i].1∈ids d.2.2.1)∨(iX (ids d.2.2.2.2.1))[i].1∈ids d.2.2.2.1)→APN d=true:=by
   intro h
   simp only[APN,A9H,Bool.or_eq_true,List.any_eq_true,FE]
   rcases h with ⟨i,hi,h⟩|⟨i,hi,h⟩|⟨i,hi,h⟩
   ·exact .inl (.inl ⟨_,lA.1 ⟨i,hi,rfl⟩,h⟩)
   ·exact .inl (.inr ⟨_,lA.1 ⟨i,hi,rfl⟩,h⟩)
   ·exact .inr ⟨_,lA.1 ⟨i,hi,rfl⟩,h⟩
  have m1:=fun id=>(@lA (ids d.2.1) id)
  refine A4O (m:=iX (ids d.2.1)) (es:=[]) (R7:=T.v (.int .i64 7)=T.v (.int .i64 (qH d))) Seen.nil (fun h=>by obtain ⟨_,_,h⟩:=h;exact h.elim) fun _=>?_
  refine A4E (m:=iX (ids d.2.1)) (es:=[]) Seen.nil fun e1 rs1 s1=>?_
  have s1:=s1.congr (S':=fun id=>id∈ids d.2.1) fun id=>by rw[lA];simp
  refine A4O (m:=iX (ids d.2.2.1)) s1 (fun h=>dup (dup' (.inl h))) fun n1=>?_
  refine A4E (m:=iX (ids d.2.2.1)) s1 fun e2 rs2 s2=>?_
  have s2:=s2.congr (S':=fun id=>id∈ids d.2.1∨id∈ids d.2.2.1) fun id=>by rw[lA]
  refine A4O (m:=iX (ids d.2.2.2.1)) s2 (fun h=>dup (dup' (.inr (.inl h)))) fun n2=>?_
  refine A4E (m:=iX (ids d.2.2.2.1)) s2 fun e3 rs3 s3=>?_
  have s3:=s3.congr (S':=fun id=>(id∈ids d.2.1∨id∈ids d.2.2.1)∨id∈ids d.2.2.2.1) fun id=>by rw[lA]
  refine A4O (m:=iX (ids d.2.2.2.2.1)) s3 (fun h=>dup (dup' (.inr (.inr h)))) fun n3=>?_
  refine A4E (m:=iX (ids d.2.2.2.2.1)) s3 fun e4 rs4 s4=>is ?_
  have nd:APN d=false:=by
   rw[Bool.eq_false_iff]
   intro h
   simp only[APN,A9H,Bool.or_eq_true,List.any_eq_true,FE] at h
   rcases h with (⟨x,hx,h⟩|⟨x,hx,h⟩)|⟨x,hx,h⟩
   ·obtain ⟨i,hi,rfl⟩:=lA.2 hx;exact n1 i hi h
   ·obtain ⟨i,hi,rfl⟩:=lA.2 hx;exact n2 i hi h
   ·obtain ⟨i,hi,rfl⟩:=lA.2 hx;exact n3 i hi h
  unfold qH;rw[notLong,if_neg (by simp),←he,h,if_neg (by simp),nd,if_neg (by simp)]
end Go.Pv
namespace Go.Pv
open Go Go.Proofs
def BEK:List T→Option T:=fun _=>none
theorem aN.nil {P:Program} {f:FuncId} (h:∃ fn,P.funcs[f]? = some fn∧(fn.name == "runtime.NumGoroutine")=false∧fn.body.isNone=false):aN P f BEK:=⟨h,fun _ _ _ _ _ _ _ _ h=>by cases h⟩
theorem ADJ (es:MP):qX (bS es)=List.map (cW Sy.str false (Sy.int IntKind.i64)) es:=by
 unfold qX bS
 rw[List.map_map];rfl
theorem S3 {α:Type} (id:ByteArray):∀ (l:List (ByteArray×α)) (i:Nat) (es:MP),(∃ v,j1 es id=some v∧j1 (HZ (ids l) i es) id=some v)∨(j1 es id=none∧j1 (HZ (ids l) i es) id=none∧l.find? (fun s=>decide (s.1=id))=none) ∨
  (j1 es id=none∧∃ k,∃ h:k<l.length,j1 (HZ (ids l) i es) id=some ((i+k:Nat):Int)∧l.find? (fun s=>decide (s.1=id))=some l[k])
 | [],i,es=>by
  cases h:j1 es id with
  | none=>exact .inr (.inl ⟨rfl,by simpa [ids,HZ] using h,rfl⟩)
  | some v=>exact .inl ⟨v,rfl,by simpa [ids,HZ] using h⟩
 | a::l,i,es=>by
  have hs:ids (a::l)=a.1::ids l:=rfl
  rw[hs]
  simp only[HZ]
  have ih:=S3 id l (i+1) (match j1 es a.1 with|none=>wP es a.1 (i:Int)|some _=>es)
  by_cases ha:a.1=id
  ·subst ha
   cases hc:j1 es a.1 with
   | some v =>
    simp only[hc] at ih ⊢
    rcases ih with ⟨v',h1,h2⟩|⟨h1,_⟩|⟨h1,_⟩
    ·exact .inl ⟨v',h1,h2⟩
    ·cases h1
    ·cases h1
   | none =>
    simp only[hc] at ih ⊢
    have hg:j1 (wP es a.1 (i:Int)) a.1=some (i:Int):=by rw[xZ];simp
    rw[hg] at ih
    rcases ih with ⟨v',h1,h2⟩|⟨h1,_⟩|⟨h1,_⟩
    ·cases h1
     exact .inr (.inr ⟨by first|rfl|trivial,0,by simp,by simpa using h2,by simp⟩)
    ·cases h1
    ·cases h1
  ·have hg:j1 (match j1 es a.1 with|none=>wP es a.1 (i:Int)|some _=>es) id=j1 es id:=by
    cases hc:j1 es a.1 with
    | none=>simp only[xZ,ha,if_false]
    | some v=>rfl
   rw[hg] at ih
   rcases ih with ⟨v',h1,h2⟩|⟨h1,h2,h3⟩|⟨h1,k,hk,h2,h3⟩
   ·exact .inl ⟨v',h1,h2⟩
   ·exact .inr (.inl ⟨h1,h2,by rw[List.find?_cons_of_neg (by simpa using ha)];exact h3⟩)
   ·exact .inr (.inr ⟨h1,k+1,by simpa using hk,h2.trans (by congr 2;omega),by rw[List.find?_cons_of_neg (by simpa using ha)];simpa using h3⟩)
theorem EY {α:Type} (id:ByteArray) (l:List (ByteArray×α)):(j1 (iX (ids l)) id=none∧l.find? (fun s=>decide (s.1=id))=none)∨(∃ k,∃ h:k<l.length,j1 (iX (ids l)) id=some (k:Int)∧l.find? (fun s=>decide (s.1=id))=some l[k]):=by
 rcases S3 id l 0 [] with ⟨v,h,_⟩|⟨_,h1,h2⟩|⟨_,k,hk,h1,h2⟩
 ·cases h
 ·exact .inl ⟨h1,h2⟩
 ·exact .inr ⟨k,hk,h1.trans (by rw[Nat.zero_add]),h2⟩
theorem ixK {α:Type} {id:ByteArray} {l:List (ByteArray×α)} {A:Prop} {B:Nat→Int→Prop} (hA:l.find? (fun s=>decide (s.1=id))=none→A) (hB:∀ i k (h:k<l.length),l.find? (fun s=>decide (s.1=id))=some l[k]→B i (k:Int)) :
  iF TypeDesc.string (Value.string id) (qX (bS (iX (ids l)))) false (Sy.int IntKind.i64) A B:=by
 rw[ADJ]
 refine D9 (r:=.int .i64) (fun h=>hA ?_) fun i v h=>?_
 ·rcases EY id l with ⟨_,h2⟩|⟨k,hk,h1,_⟩
  ·exact h2
  ·rw[h] at h1;cases h1
 ·rcases EY id l with ⟨h1,_⟩|⟨k,hk,h1,h2⟩
  ·rw[h] at h1;cases h1
  ·rw[h] at h1;cases h1;exact hB i k hk h2
def mI (a0:aC) (m1:List (ByteArray×Int)) (m2:List (ByteArray×Int)) (m3:List (ByteArray×Int)) (m4:List (ByteArray×Int)) (a5:ByteArray):List T:=[QP a0 m1 m2 m3 m4,T.v (.string a5)]
def Z4:FuncId→Hint:=bX 120 [(3,.inv [.val 1 false .str,.own 6 1 .str,.val 9 false (.int .i64)])] (fun _=>bI)
def MT(a0:aC)(m1:List (ByteArray×Int))(m2:List (ByteArray×Int))(m3:List (ByteArray×Int))(m4:List (ByteArray×Int))(a5:ByteArray)(R:T→Prop):Prop:=aZ (ByteArray×List ByteArray×Int×PUnit) (fun X0 s1=>aD (decide (s1.2.2.1<65)) (iF TypeDesc.string (Value.string s1.1) (qX (bS m1)) false bF (R (T.bZ [T.sl false [],T.v (.bool false)])) fun (i2:Nat) (y3:Int)=>aP aW (m9 a0) y3 fun (y4:dL)=>bQ (decide (((List.map Sy.str.enc s1.2.1).length+1)*16≤140737488355328) && decide ((List.map Sy.str.enc s1.2.1).length+1≤140737488355328)) (aD (decide (y4.2.1=1)) (R (T.bZ [T.sl false (List.map Sy.str.enc s1.2.1++[[T.v (.string s1.1)]]), T.v (.bool true)])) (cH Sy.str (List.map Sy.str.enc s1.2.1++[[T.v (.string s1.1)]]) fun (y5:List ByteArray)=>X0 (y4.2.2,y5,IntKind.i64.wrap (s1.2.2.1+1),())))) (R (T.bZ [T.sl false [],T.v (.bool false)]))) (a5,[],0,())
theorem ZU ( a0 m1 m2 m3 m4 a5 R):dY bR Tryz.prog mF Z4 8 95 (mI a0 m1 m2 m3 m4 a5) R=MT a0 m1 m2 m3 m4 a5 R:=by kernel_rfl
theorem DU (x y:aC×MP×MP×MP×MP×ByteArray) (h:mI x.1 x.2.1 x.2.2.1 x.2.2.2.1 x.2.2.2.2.1 x.2.2.2.2.2=mI y.1 y.2.1 y.2.2.1 y.2.2.2.1 y.2.2.2.2.1 y.2.2.2.2.2):x=y:=by
 obtain ⟨h1,h2⟩:=List.cons.inj h
 have:=qV (x:=(x.1,x.2.1,x.2.2.1,x.2.2.2.1,x.2.2.2.2.1)) (y:=(y.1,y.2.1,y.2.2.1,y.2.2.2.1,y.2.2.2.2.1)) h1
 simp only[List.cons.injEq,T.v.injEq,Value.string.injEq,and_true] at h2
 simp only[Prod.mk.injEq] at this
 obtain ⟨e1,e2,e3,e4,e5⟩:=this
 exact Prod.ext e1 (Prod.ext e2 (Prod.ext e3 (Prod.ext e4 (Prod.ext e5 h2))))
def I8 (x:aC×MP×MP×MP×MP×ByteArray):Option T:=wK (x.1,x.2.1,x.2.2.1,x.2.2.2.1,x.2.2.2.2.1) (Sh.enc [(false,.li .str),(false,.bool)] (up x.1 x.2.2.2.2.2))
noncomputable def kZ:List T→Option (T):=gA (fun (x:aC×(List (ByteArray×Int))×(List (ByteArray×Int))×(List (ByteArray×Int))×(List (ByteArray×Int))×ByteArray)=>mI x.1 x.2.1 x.2.2.1 x.2.2.2.1 x.2.2.2.2.1 x.2.2.2.2.2) I8
theorem AC5 (a0:aC) (m1:List (ByteArray×Int)) (m2:List (ByteArray×Int)) (m3:List (ByteArray×Int)) (m4:List (ByteArray×Int)) (a5:ByteArray):kZ (mI a0 m1 m2 m3 m4 a5)=I8 (a0,m1,m2,m3,m4,a5):=eN (A:=(fun (x:aC×(List (ByteArray×Int))×(List (ByteArray×Int))×(List (ByteArray×Int))×(List (ByteArray×Int))×ByteArray)=>mI x.1 x.2.1 x.2.2.1 x.2.2.2.1 x.2.2.2.2.1 x.2.2.2.2.2)) DU (a0,m1,m2,m3,m4,a5)
theorem ASA (h:∀ (a0:aC) (m1:List (ByteArray×Int)) (m2:List (ByteArray×Int)) (m3:List (ByteArray×Int)) (m4:List (ByteArray×Int)) (a5:ByteArray) (r:T),I8 (a0,m1,m2,m3,m4,a5)=some r→(∀ t∈mI a0 m1 m2 m3 m4 a5,Bd t)→MT a0 m1 m2 m3 m4 a5 (fun y=>y=r)):aN Tryz.prog 95 kZ :=
 cK (E:=mF) (Hs:=Z4) (bW _) aQ aS (aL rfl) 8 ⟨_,_,Tryz.func95,rfl⟩ fun x r h1 h2=>by
  rw[ZU]
  exact h x.1 x.2.1 x.2.2.1 x.2.2.2.1 x.2.2.2.2.1 x.2.2.2.2.2 r h1 h2
theorem SM:aN Tryz.prog 95 kZ:=ASA fun d m1 m2 m3 m4 id0 r h hb=>by
 obtain ⟨hx,hs,rfl⟩:=oM h
 simp only[Prod.mk.injEq,true_and] at hx
 obtain ⟨rfl,rfl,rfl,rfl⟩:=hx
 clear h
 unfold MT m9 bF
 refine bM 65 (fun k s=>∃ id' l',s=(id',l',(k:Int),())∧l'.length=k∧upF d (65-k) id' l'=up d id0) ⟨id0,[],rfl,rfl,rfl⟩ ?_
 rintro X k s hk ⟨id',l',rfl,hl,hu⟩ hX
 dsimp only
 have stop:up d id0=([],false)→T.bZ [T.sl false [],T.v (.bool false)]=Sh.enc [(false,.li .str),(false,.bool)] (up d id0):=fun h=>by rw[h];rfl
 refine cF (fun hlt=>?_) fun hge=>stop ?_
 ·have hlt:k<65:=by omega
  obtain ⟨m,hm⟩:∃ m,65-k=m+1:=⟨64-k,by omega⟩
  rw[hm] at hu
  simp only[upF] at hu
  refine ixK (fun hn=>stop ?_) fun i j hj hn=>?_
  ·have hn:j6 d id'=none:=hn
   rw[hn] at hu;exact hu.symm
  ·have hn:j6 d id'=some d.2.1[j]:=hn
   simp only[hn] at hu
   rw[bG (r:=aW) hj,A89 (by omega),AWZ]
   refine cF (fun h1=>?_) fun h1=>?_
   ·rw[if_pos h1] at hu
    rw[←hu,AXA];rfl
   ·rw[if_neg h1] at hu
    exact hX _ hlt ⟨_,_,by rw[show IntKind.i64.wrap ((k:Int)+1)=((k+1:Nat):Int) from bH _ (by omega) (by omega)],by simp[hl],by rw[←hu];congr 1;omega⟩
 ·have:65-k=0:=by omega
  rw[this] at hu
  exact hu.symm
def wJ (d:aC) (n:dL):Int:=if vG n.1=false then 6 else if ¬ n.2.1=1∧¬ n.2.1=2 then 10 else if n.2.1=1∧¬ n.2.2 = { data:=#[] } then 2 else if n.2.1=2∧(j6 d n.2.2).isNone=true then 8 else 0
def BBH (d:aC):Bool:=d.2.1.any fun n=>!(up d n.1).2
def AW0 (d:aC):Bool:=d.2.1.any fun n=>decide (8<(up d n.1).1.length)
def lX (d:aC):Int:=if cI (wJ d) d.2.1=0 then (if BBH d=true then 20 else if AW0 d=true then 13 else 0) else cI (wJ d) d.2.1
def pX (a0:aC) (m1:List (ByteArray×Int)) (m2:List (ByteArray×Int)) (m3:List (ByteArray×Int)) (m4:List (ByteArray×Int)):List T:=[QP a0 m1 m2 m3 m4]
noncomputable def LU:Env:=Env.of [(94,.pure eQ),(95,.pure kZ)]
def ZX:FuncId→Hint:=bX 51 [(2,.inv [.val 20 false (.int .i64)]),(16,.inv [.val 7 false .bool,.val 74 false (.int .i64)])] (fun _=>bI)
theorem AFD:aT Tryz.prog LU:=.cons EB (.cons SM (.nil _))
def i8(R:T→Prop):Prop:=R (T.v (.int .i64 8))
def ACM(R:T→Prop):Prop:=R (T.v (.int .i64 2))
def AIG:T:=T.v (.int .i64 10)
def BFY(R:T→Prop):Prop:=R (T.v (.int .i64 6))
def BF2(R:T→Prop):Prop:=R (T.v (.int .i64 0))
def BF4(y2:dL)(R:T→Prop)(X0:Int×PUnit→Prop)(s1:Int×PUnit):Prop:=aD (decide (y2.2.1=1)) (aD (!decide (y2.2.2 = {data:=#[]})) (ACM R) (aD (decide (y2.2.1=2)) (f7 X0 s1) (f7 X0 s1))) (aD (decide (y2.2.1=2)) (f7 X0 s1) (f7 X0 s1))
def BF7(y2:dL)(R:T→Prop)(X0:Int×PUnit→Prop)(s1:Int×PUnit):Prop:=aD (decide (y2.2.1=1)) (aD (!decide (y2.2.2 = {data:=#[]})) (ACM R) (aD (decide (y2.2.1=2)) (i8 R) (f7 X0 s1))) (aD (decide (y2.2.1=2)) (i8 R) (f7 X0 s1))
def L0(a0:aC)(m1:List (ByteArray×Int))(m2:List (ByteArray×Int))(m3:List (ByteArray×Int))(m4:List (ByteArray×Int))(R:T→Prop):Prop:=aZ (Int×PUnit) (fun X0 s1=>aD (decide (s1.1<(↑(m9 a0).length:Int))) (aP aW (m9 a0) s1.1 fun (y2:dL)=>iF TypeDesc.string (Value.string y2.2.2) (qX (bS m1)) false bF (aI d4 (eQ [T.v (.string y2.1)]) fun (y6:Bool)=>aD (!y6) (BFY R) (aD (!decide (y2.2.1=1)) (aD (!decide (y2.2.1=2)) (R AIG) (BF7 y2 R X0 s1)) (BF7 y2 R X0 s1))) fun (i3:Nat) (y4:Int)=>aI d4 (eQ [T.v (.string y2.1)]) fun (y5:Bool)=>aD (!y5) (BFY R) (aD (!decide (y2.2.1=1)) (aD (!decide (y2.2.1=2)) (R AIG) (BF4 y2 R X0 s1)) (BF4 y2 R X0 s1))) (aZ (Bool×Int×PUnit) (fun X7 s8=>aD (decide (s8.2.1<(↑(m9 a0).length:Int))) (aP aW (m9 a0) s8.2.1 fun (y9:dL)=>aI [(false,Sy.str.li),(false,Sy.bool)] (kZ [T.ref [T.ref (f9 a0), T.mp (bS m1),T.mp (bS m2),T.mp (bS m3), T.mp (bS m4)], T.v (.string y9.1)]) fun (y10:List ByteArray×Bool)=>aD (!y10.2) (R (T.v (.int .i64 20))) (aD s8.1 (X7 (true,IntKind.i64.wrap (s8.2.1+1),())) (X7 (decide (8<(↑(List.map Sy.str.enc y10.1).length:Int)), IntKind.i64.wrap (s8.2.1+1),())))) (aD s8.1 (R (T.v (.int .i64 13))) (BF2 R))) (false,0,()))) (0,())
theorem ZP ( a0 m1 m2 m3 m4 R):dY bR Tryz.prog LU ZX 8 51 (pX a0 m1 m2 m3 m4) R=L0 a0 m1 m2 m3 m4 R:=by kernel_rfl
theorem UA (x y:aC×MP×MP×MP×MP) (h:pX x.1 x.2.1 x.2.2.1 x.2.2.2.1 x.2.2.2.2=pX y.1 y.2.1 y.2.2.1 y.2.2.2.1 y.2.2.2.2):x=y:=qV (List.cons.inj h).1
def IY (x:aC×MP×MP×MP×MP):Option T:=wK x (T.v (Value.int .i64 (lX x.1)))
noncomputable def xJ:List T→Option (T):=gA (fun (x:aC×(List (ByteArray×Int))×(List (ByteArray×Int))×(List (ByteArray×Int))×List (ByteArray×Int))=>pX x.1 x.2.1 x.2.2.1 x.2.2.2.1 x.2.2.2.2) IY
theorem ABN (a0:aC) (m1:List (ByteArray×Int)) (m2:List (ByteArray×Int)) (m3:List (ByteArray×Int)) (m4:List (ByteArray×Int)):xJ (pX a0 m1 m2 m3 m4)=IY (a0,m1,m2,m3,m4):=eN (A:=(fun (x:aC×(List (ByteArray×Int))×(List (ByteArray×Int))×(List (ByteArray×Int))×List (ByteArray×Int))=>pX x.1 x.2.1 x.2.2.1 x.2.2.2.1 x.2.2.2.2)) UA (a0,m1,m2,m3,m4)
theorem ARL (h:∀ (a0:aC) (m1:List (ByteArray×Int)) (m2:List (ByteArray×Int)) (m3:List (ByteArray×Int)) (m4:List (ByteArray×Int)) (r:T),IY (a0,m1,m2,m3,m4)=some r→(∀ t∈pX a0 m1 m2 m3 m4,Bd t)→L0 a0 m1 m2 m3 m4 (fun y=>y=r)):aN Tryz.prog 51 xJ :=
 cK (E:=LU) (Hs:=ZX) AFD aQ aS (aL rfl) 8 ⟨_,_,Tryz.func51,rfl⟩ fun x r h1 h2=>by
  rw[ZP]
  exact h x.1 x.2.1 x.2.2.1 x.2.2.2.1 x.2.2.2.2 r h1 h2
theorem JS {d:aC} (hs:nN d) (id:ByteArray):kZ (mI d (iX (ids d.2.1)) (iX (ids d.2.2.1)) (iX (ids d.2.2.2.1)) (iX (ids d.2.2.2.2.1)) id)=some (Sh.enc [(false,.li .str),(false,.bool)] (up d id)):=by
 rw[AC5];exact oN hs _
theorem nU (s:ByteArray) (K:Bool→Prop):aI [(false,Sy.bool)] (eQ [T.v (.string s)]) K=K (vG s):=by
 rw[show eQ [T.v (.string s)]=F4 s from SS]
 exact AD6 _ K
theorem APY:aN Tryz.prog 51 xJ:=ARL fun d m1 m2 m3 m4 r h hb=>by
 obtain ⟨hx,hs,rfl⟩:=oM h
 simp only[Prod.mk.injEq,true_and] at hx
 obtain ⟨rfl,rfl,rfl,rfl⟩:=hx
 clear h
 have is:∀ {n:Int},lX d=n→T.v (.int .i64 n)=T.v (.int .i64 (lX d)):=fun h=>by rw[h]
 unfold L0 BF7 BF4 BF2 f9 f7 BFY AIG ACM i8 FS AC m9 m8 i7 d4 bF
 refine lR (r:=aW) (wJ d) hs.n (fun X s y hy hok hbad=>?_) fun h0=>?_
 ·have bad:∀ {n:Int},n≠0→wJ d y=n→T.v (.int .i64 n)=T.v (.int .i64 (lX d)):=fun hn h=>is (by
   have:=hbad (by rw[h];exact hn)
   unfold lX
   rw[if_neg (by rw[this,h];exact hn),this,h])
  have tail:∀ {Z2 Z:Prop},vG y.1=true→(y.2.1=2→Z2)→(wJ d y=0→Z) →
   aD (!decide (y.2.1=1))
        (aD (!decide (y.2.1=2)) (T.v (.int .i64 10)=T.v (.int .i64 (lX d)))
         (aD (decide (y.2.1=1))
          (aD (!decide (y.2.2 = { data:=#[] })) (T.v (.int .i64 2)=T.v (.int .i64 (lX d)))
           (aD (decide (y.2.1=2)) Z2 Z))
          (aD (decide (y.2.1=2)) Z2 Z)))
        (aD (decide (y.2.1=1))
         (aD (!decide (y.2.2 = { data:=#[] })) (T.v (.int .i64 2)=T.v (.int .i64 (lX d)))
          (aD (decide (y.2.1=2)) Z2 Z))
         (aD (decide (y.2.1=2)) Z2 Z)):=by
   intro Z2 Z hid h2 h1
   refine mA (fun g1=>?_) fun g1=>?_
   ·refine mA (fun g2=>bad (by decide) (by unfold wJ;rw[if_neg (by simp[hid]),if_pos ⟨g1,g2⟩])) fun g2=>?_
    refine cF (fun h=>absurd h g1) fun _=>?_
    exact cF (fun _=>h2 g2) fun h=>absurd g2 h
   ·refine cF (fun _=>?_) fun h=>absurd g1 h
    refine mA (fun g3=>bad (by decide) (by unfold wJ;rw[if_neg (by simp[hid]),if_neg (by simp[g1]),if_pos ⟨g1,g3⟩])) fun g3=>?_
    exact cF (fun h=>by rw[g1] at h;cases h) fun h=>h1 (by unfold wJ;rw[if_neg (by simp[hid]),if_neg (by simp[g1]),if_neg (by simp[g3]),if_neg (by simp[h])])
  refine ixK (fun hn=>?_) fun i j hj hn=>?_
  ·have hn:j6 d y.2.2=none:=hn
   rw[nU]
   refine jS (fun hid=>bad (by decide) (by unfold wJ;rw[if_pos hid])) fun hid=>?_
   refine tail hid (fun h2=>bad (by decide) ?_) fun h0=>hok h0
   unfold wJ;rw[if_neg (by simp[hid]),if_neg (by simp[h2]),if_neg (by simp[h2]),if_pos ⟨h2,by rw[hn];rfl⟩]
  ·have hn:j6 d y.2.2=some d.2.1[j]:=hn
   rw[nU]
   refine jS (fun hid=>bad (by decide) (by unfold wJ;rw[if_pos hid])) fun hid=>?_
   refine tail hid (fun h2=>hok ?_) fun h0=>hok h0
   unfold wJ;rw[if_neg (by simp[hid]),if_neg (by simp[h2]),if_neg (by simp[h2]),if_neg (by simp[hn])]
 ·have hn:d.2.1.length≤140737488355328:=hs.n
  refine bM d.2.1.length (fun k s=>s=((d.2.1.take k).any (fun n=>decide (8<(up d n.1).1.length)),(k:Int),())∧∀ n∈d.2.1.take k,(up d n.1).2=true) ⟨rfl,by simp⟩ ?_
  rintro X k s hk ⟨rfl,hall⟩ hX
  dsimp only
  refine cF (fun hlt=>?_) fun hge=>?_
  ·rw[List.length_map] at hlt
   have hlt:k<d.2.1.length:=by omega
   rw[bG (r:=aW) hlt]
   refine aG (s:=[(false,.li .str),(false,.bool)]) (JS hs d.2.1[k].1) ?_
   have ht:d.2.1.take (k+1)=d.2.1.take k++[d.2.1[k]]:=List.take_succ_eq_append_getElem hlt
   have hw:IntKind.i64.wrap ((k:Int)+1)=((k+1:Nat):Int):=bH _ (by omega) (by omega)
   refine jS (fun hu=>is ?_) fun hu=>?_
   ·unfold lX
    rw[if_pos h0,if_pos (show BBH d=true from List.any_eq_true.2 ⟨_,List.getElem_mem hlt,by rw[hu];rfl⟩)]
   ·have hall':∀ n∈d.2.1.take (k+1),(up d n.1).2=true:=fun n hm=>by
     rw[ht] at hm
     rcases List.mem_append.1 hm with h|h
     ·exact hall n h
     ·simp at h;subst h;exact hu
    refine BH (fun hd=>?_) fun hd=>?_
    ·refine hX _ hlt ⟨?_,hall'⟩
     rw[hw,ht,List.any_append,hd];rfl
    ·refine hX _ hlt ⟨?_,hall'⟩
     rw[hw,ht,List.any_append,hd]
     simp only[List.length_map,List.any_cons,List.any_nil,Bool.or_false,Bool.false_or,Prod.mk.injEq,and_true]
     congr 1
     exact propext ⟨fun h=>by omega,fun h=>by omega⟩
  ·rw[List.length_map] at hge
   have:k=d.2.1.length:=by omega
   subst this
   rw[List.take_length] at hall ⊢
   have hnu:BBH d=false:=by
    rw[Bool.eq_false_iff];intro h
    obtain ⟨n,hm,h⟩:=List.any_eq_true.1 h
    rw[hall n hm] at h;cases h
   refine BH (fun h=>is ?_) fun h=>is ?_
   ·unfold lX;rw[if_pos h0,hnu,if_neg (by simp),if_pos (show AW0 d=true from h)]
   ·unfold lX;rw[if_pos h0,hnu,if_neg (by simp),if_neg (by rw[show AW0 d=false from h];simp)]
end Go.Pv
namespace Go.Pv
open Go Go.Proofs
def yO (d:aC) (s:eB):Int:=if vG s.1=false∨vG s.2.1=false∨vG s.2.2.1=false then 6 else if s.2.1=s.2.2.1 then 2 else if ¬ s.2.2.2.1=1∧¬ s.2.2.2.1=2 then 10 else if s.2.2.2.2.1<1∨32768<s.2.2.2.2.1∨s.2.2.2.2.2<1∨3<s.2.2.2.2.2 then 9 else if (partOf d s.2.1).isNone=true∨(partOf d s.2.2.1).isNone=true then 8 else 0
def pY (a0:aC) (m1:List (ByteArray×Int)) (m2:List (ByteArray×Int)) (m3:List (ByteArray×Int)) (m4:List (ByteArray×Int)):List T:=[QP a0 m1 m2 m3 m4]
noncomputable def LV:Env:=Env.of [(94,.pure eQ)]
def ZY:FuncId→Hint:=bX 53 [(2,.inv [.val 17 false (.int .i64)])] (fun _=>bI)
theorem AFE:aT Tryz.prog LV:=.cons EB (.nil _)
def t6(R:T→Prop):Prop:=R (T.v (.int .i64 9))
def WP(y2:eB)(R:T→Prop):Prop:=aD (decide (y2.2.2.2.2.1<1)) (t6 R) (aD (decide (32768<y2.2.2.2.2.1)) (t6 R) (aD (decide (y2.2.2.2.2.2<1)) (t6 R) (aD (decide (3<y2.2.2.2.2.2)) (t6 R) (i8 R))))
def f6(y2:eB)(R:T→Prop):Prop:=aI d4 (eQ [T.v (.string y2.1)]) fun (y15:Bool)=>aD (!y15) (BFY R) (aI d4 (eQ [T.v (.string y2.2.1)]) fun (y16:Bool)=>aD (!y16) (BFY R) (aI d4 (eQ [T.v (.string y2.2.2.1)]) fun (y17:Bool)=>aD (!y17) (BFY R) (aD (decide (y2.2.1=y2.2.2.1)) (ACM R) (aD (!decide (y2.2.2.2.1=1)) (aD (!decide (y2.2.2.2.1=2)) (R AIG) (WP y2 R)) (WP y2 R)))))
def BF3(y2:eB)(R:T→Prop)(X0:Int×PUnit→Prop)(s1:Int×PUnit):Prop:=aD (decide (y2.2.2.2.2.1<1)) (t6 R) (aD (decide (32768<y2.2.2.2.2.1)) (t6 R) (aD (decide (y2.2.2.2.2.2<1)) (t6 R) (aD (decide (3<y2.2.2.2.2.2)) (t6 R) (f7 X0 s1))))
def L1(a0:aC)(m1:List (ByteArray×Int))(m2:List (ByteArray×Int))(m3:List (ByteArray×Int))(m4:List (ByteArray×Int))(R:T→Prop):Prop:=aZ (Int×PUnit) (fun X0 s1=>aD (decide (s1.1<(↑(m8 a0).length:Int))) (aP aY (m8 a0) s1.1 fun (y2:eB)=>iF TypeDesc.string (Value.string y2.2.1) (qX (bS m2)) false bF (iF TypeDesc.string (Value.string y2.2.2.1) (qX (bS m2)) false bF (f6 y2 R) fun (i13:Nat) (y14:Int)=>f6 y2 R) fun (i3:Nat) (y4:Int)=>iF TypeDesc.string (Value.string y2.2.2.1) (qX (bS m2)) false bF (f6 y2 R) fun (i5:Nat) (y6:Int)=>aI d4 (eQ [T.v (.string y2.1)]) fun (y7:Bool)=>aD (!y7) (BFY R) (aI d4 (eQ [T.v (.string y2.2.1)]) fun (y8:Bool)=>aD (!y8) (BFY R) (aI d4 (eQ [T.v (.string y2.2.2.1)]) fun (y9:Bool)=>aD (!y9) (BFY R) (aD (decide (y2.2.1=y2.2.2.1)) (ACM R) (aD (!decide (y2.2.2.2.1=1)) (aD (!decide (y2.2.2.2.1=2)) (R AIG) (BF3 y2 R X0 s1)) (BF3 y2 R X0 s1)))))) (BF2 R)) (0,())
theorem ZQ ( a0 m1 m2 m3 m4 R):dY bR Tryz.prog LV ZY 8 53 (pY a0 m1 m2 m3 m4) R=L1 a0 m1 m2 m3 m4 R:=by kernel_rfl
theorem UB (x y:aC×MP×MP×MP×MP) (h:pY x.1 x.2.1 x.2.2.1 x.2.2.2.1 x.2.2.2.2=pY y.1 y.2.1 y.2.2.1 y.2.2.2.1 y.2.2.2.2):x=y:=qV (List.cons.inj h).1
def IZ (x:aC×MP×MP×MP×MP):Option T:=wK x (T.v (Value.int .i64 (cI (yO x.1) x.1.2.2.2.1)))
noncomputable def xK:List T→Option (T):=gA (fun (x:aC×(List (ByteArray×Int))×(List (ByteArray×Int))×(List (ByteArray×Int))×List (ByteArray×Int))=>pY x.1 x.2.1 x.2.2.1 x.2.2.2.1 x.2.2.2.2) IZ
theorem ABO (a0:aC) (m1:List (ByteArray×Int)) (m2:List (ByteArray×Int)) (m3:List (ByteArray×Int)) (m4:List (ByteArray×Int)):xK (pY a0 m1 m2 m3 m4)=IZ (a0,m1,m2,m3,m4):=eN (A:=(fun (x:aC×(List (ByteArray×Int))×(List (ByteArray×Int))×(List (ByteArray×Int))×List (ByteArray×Int))=>pY x.1 x.2.1 x.2.2.1 x.2.2.2.1 x.2.2.2.2)) UB (a0,m1,m2,m3,m4)
theorem ARM (h:∀ (a0:aC) (m1:List (ByteArray×Int)) (m2:List (ByteArray×Int)) (m3:List (ByteArray×Int)) (m4:List (ByteArray×Int)) (r:T),IZ (a0,m1,m2,m3,m4)=some r→(∀ t∈pY a0 m1 m2 m3 m4,Bd t)→L1 a0 m1 m2 m3 m4 (fun y=>y=r)):aN Tryz.prog 53 xK :=
 cK (E:=LV) (Hs:=ZY) AFE aQ aS (aL rfl) 8 ⟨_,_,Tryz.func53,rfl⟩ fun x r h1 h2=>by
  rw[ZQ]
  exact h x.1 x.2.1 x.2.2.1 x.2.2.2.1 x.2.2.2.2 r h1 h2
theorem APZ:aN Tryz.prog 53 xK:=ARM fun d m1 m2 m3 m4 r h hb=>by
 obtain ⟨hx,hs,rfl⟩:=oM h
 simp only[Prod.mk.injEq,true_and] at hx
 obtain ⟨rfl,rfl,rfl,rfl⟩:=hx
 replace hs:nN d:=hs
 clear h
 unfold L1 BF3 BF2 f7 f6 BFY AIG ACM WP t6 i8 m8 d4 bF
 refine lR (r:=aY) (yO d) hs.s (fun X s y hy hok hbad=>?_) fun h0=>?_
 ·have bad:∀ {n:Int},n≠0→yO d y=n→T.v (.int .i64 n)=T.v (.int .i64 (cI (yO d) d.2.2.2.1)):=fun hn h=>by
   rw[hbad (by rw[h];exact hn),h]
  clear hbad hb
  repeat' first
   | refine ixK (fun hn=>?_) (fun i j hj hn=>?_)
   | rw[nU]
   | refine mA (fun h=>?_) (fun h=>?_)
   | refine cF (fun h=>?_) (fun h=>?_)
   | refine jS (fun h=>?_) (fun h=>?_)
  all_goals first
   | (exfalso;omega)
   | (refine bad (by decide) ?_;clear bad hok;unfold yO;simp[*,partOf,o0];done)
   | (refine hok ?_;clear bad hok;unfold yO;simp[*,partOf,o0];done)
 ·show _=T.v (.int .i64 (cI (yO d) d.2.2.2.1))
  rw[h0]
def rD (a0:aC) (m1:List (ByteArray×Int)) (m2:List (ByteArray×Int)) (m3:List (ByteArray×Int)) (m4:List (ByteArray×Int)) (a5:ByteArray):List T:=[QP a0 m1 m2 m3 m4,T.v (.string a5)]
def U0(a0:aC)(m1:List (ByteArray×Int))(m2:List (ByteArray×Int))(m3:List (ByteArray×Int))(m4:List (ByteArray×Int))(a5:ByteArray)(R:T→Prop):Prop:=iF TypeDesc.string (Value.string a5) (qX (bS m1)) false bF (R d3) fun (i0:Nat) (y1:Int)=>aP aW (m9 a0) y1 fun (y2:dL)=>R (T.v (.bool (decide (y2.2.1=1))))
theorem AGB ( a0 m1 m2 m3 m4 a5 R):dY bR Tryz.prog mF dI 8 98 (rD a0 m1 m2 m3 m4 a5) R=U0 a0 m1 m2 m3 m4 a5 R:=by kernel_rfl
def x9 (d:aC) (id:ByteArray):Bool:=match j6 d id with
 | some n=>decide (n.2.1=1)
 | none=>false
theorem Y5 (x y:aC×MP×MP×MP×MP×ByteArray) (h:rD x.1 x.2.1 x.2.2.1 x.2.2.2.1 x.2.2.2.2.1 x.2.2.2.2.2=rD y.1 y.2.1 y.2.2.1 y.2.2.2.1 y.2.2.2.2.1 y.2.2.2.2.2):x=y:=DU x y h
def QH (x:aC×MP×MP×MP×MP×ByteArray):Option T:=wK (x.1,x.2.1,x.2.2.1,x.2.2.2.1,x.2.2.2.2.1) (T.v (.bool (x9 x.1 x.2.2.2.2.2)))
noncomputable def gT:List T→Option (T):=gA (fun (x:aC×(List (ByteArray×Int))×(List (ByteArray×Int))×(List (ByteArray×Int))×(List (ByteArray×Int))×ByteArray)=>rD x.1 x.2.1 x.2.2.1 x.2.2.2.1 x.2.2.2.2.1 x.2.2.2.2.2) QH
theorem AH8 (a0:aC) (m1:List (ByteArray×Int)) (m2:List (ByteArray×Int)) (m3:List (ByteArray×Int)) (m4:List (ByteArray×Int)) (a5:ByteArray):gT (rD a0 m1 m2 m3 m4 a5)=QH (a0,m1,m2,m3,m4,a5):=eN (A:=(fun (x:aC×(List (ByteArray×Int))×(List (ByteArray×Int))×(List (ByteArray×Int))×(List (ByteArray×Int))×ByteArray)=>rD x.1 x.2.1 x.2.2.1 x.2.2.2.1 x.2.2.2.2.1 x.2.2.2.2.2)) Y5 (a0,m1,m2,m3,m4,a5)
theorem A0V (h:∀ (a0:aC) (m1:List (ByteArray×Int)) (m2:List (ByteArray×Int)) (m3:List (ByteArray×Int)) (m4:List (ByteArray×Int)) (a5:ByteArray) (r:T),QH (a0,m1,m2,m3,m4,a5)=some r→(∀ t∈rD a0 m1 m2 m3 m4 a5,Bd t)→U0 a0 m1 m2 m3 m4 a5 (fun y=>y=r)):aN Tryz.prog 98 gT :=
 cK (E:=mF) (Hs:=dI) (bW _) aQ aS (aL rfl) 8 ⟨_,_,Tryz.func98,rfl⟩ fun x r h1 h2=>by
  rw[AGB]
  exact h x.1 x.2.1 x.2.2.1 x.2.2.2.1 x.2.2.2.2.1 x.2.2.2.2.2 r h1 h2
theorem ABA:aN Tryz.prog 98 gT:=A0V fun d m1 m2 m3 m4 id0 r h hb=>by
 obtain ⟨hx,hs,rfl⟩:=oM h
 simp only[Prod.mk.injEq,true_and] at hx
 obtain ⟨rfl,rfl,rfl,rfl⟩:=hx
 replace hs:nN d:=hs
 clear h
 unfold U0 m9 d3 bF
 refine ixK (fun hn=>?_) fun i j hj hn=>?_
 ·have hn:j6 d id0=none:=hn
  show _=T.v (.bool (x9 d id0))
  unfold x9;rw[hn]
 ·have hn:j6 d id0=some d.2.1[j]:=hn
  rw[bG (r:=aW) hj]
  show _=T.v (.bool (x9 d id0))
  unfold x9;rw[hn]
theorem OK {d:aC} (hs:nN d) (id:ByteArray):gT (rD d (iX (ids d.2.1)) (iX (ids d.2.2.1)) (iX (ids d.2.2.2.1)) (iX (ids d.2.2.2.2.1)) id)=some (Sh.enc [(false,.bool)] (x9 d id)):=by
 rw[AH8];exact oN hs _
def BJ (d:aC) (x:cX):Int:=if x.1<1∨3<x.1 then 10 else if x.2.2=x.2.1 then 2 else if x9 d x.2.1=false then 8 else if (x.1=1∧¬ x.2.2 = { data:=#[] }∧x9 d x.2.2=false)∨(x.1=2∧x9 d x.2.2=false)∨(x.1=3∧(o0 d x.2.2).isNone=true) then 8 else 0
def pW (a0:aC) (m1:List (ByteArray×Int)) (m2:List (ByteArray×Int)) (m3:List (ByteArray×Int)) (m4:List (ByteArray×Int)):List T:=[QP a0 m1 m2 m3 m4]
noncomputable def LS:Env:=Env.of [(98,.pure gT)]
def ZW:FuncId→Hint:=bX 55 [(2,.inv [.val 15 false (.int .i64)])] (fun _=>bI)
theorem AFC:aT Tryz.prog LS:=.cons ABA (.nil _)
def H1(a0:aC)(m1:List (ByteArray×Int))(m2:List (ByteArray×Int))(m3:List (ByteArray×Int))(m4:List (ByteArray×Int))(y2:cX):List T:=[T.ref [T.ref (f5 a0), T.mp (bS m1),T.mp (bS m2),T.mp (bS m3), T.mp (bS m4)], T.v (.string y2.2.2)]
def BF0(y2:cX)(X0:Int×PUnit→Prop)(s1:Int×PUnit):Prop:=aD (decide (y2.1=3)) (f7 X0 s1) (f7 X0 s1)
def BGB(y2:cX)(R:T→Prop)(X0:Int×PUnit→Prop)(s1:Int×PUnit):Prop:=aD (decide (y2.1=3)) (i8 R) (f7 X0 s1)
def LZ(a0:aC)(m1:List (ByteArray×Int))(m2:List (ByteArray×Int))(m3:List (ByteArray×Int))(m4:List (ByteArray×Int))(R:T→Prop):Prop:=aZ (Int×PUnit) (fun X0 s1=>aD (decide (s1.1<(↑(AC a0).length:Int))) (aP aR (AC a0) s1.1 fun (y2:cX)=>iF TypeDesc.string (Value.string y2.2.2) (qX (bS m4)) false bF (aD (decide (y2.1<1)) (R AIG) (aD (decide (3<y2.1)) (R AIG) (aD (decide (y2.2.2=y2.2.1)) (ACM R) (aI d4 (gT [T.ref [T.ref (f9 a0), T.mp (bS m1),T.mp (bS m2),T.mp (bS m3), T.mp (bS m4)], T.v (.string y2.2.1)]) fun (y10:Bool)=>aD (!y10) (i8 R) (aD (decide (y2.1=1)) (aD (!decide (y2.2.2 = {data:=#[]})) (aI d4 (gT (H1 a0 m1 m2 m3 m4 y2)) fun (y11:Bool)=>aD (!y11) (i8 R) (aD (decide (y2.1=2)) (aI d4 (gT [T.ref [T.ref (f5 a0), T.mp (bS m1),T.mp (bS m2), T.mp (bS m3),T.mp (bS m4)], T.v (.string y2.2.2)]) fun (y12:Bool)=>aD (!y12) (i8 R) (BGB y2 R X0 s1)) (BGB y2 R X0 s1))) (aD (decide (y2.1=2)) (aI d4 (gT (H1 a0 m1 m2 m3 m4 y2)) fun (y13:Bool)=>aD (!y13) (i8 R) (BGB y2 R X0 s1)) (BGB y2 R X0 s1))) (aD (decide (y2.1=2)) (aI d4 (gT (H1 a0 m1 m2 m3 m4 y2)) fun (y14:Bool)=>aD (!y14) (i8 R) (BGB y2 R X0 s1)) (BGB y2 R X0 s1))))))) fun (i3:Nat) (y4:Int)=>aD (decide (y2.1<1)) (R AIG) (aD (decide (3<y2.1)) (R AIG) (aD (decide (y2.2.2=y2.2.1)) (ACM R) (aI d4 (gT [T.ref [T.ref (f9 a0), T.mp (bS m1),T.mp (bS m2),T.mp (bS m3), T.mp (bS m4)], T.v (.string y2.2.1)]) fun (y5:Bool)=>aD (!y5) (i8 R) (aD (decide (y2.1=1)) (aD (!decide (y2.2.2 = {data:=#[]})) (aI d4 (gT (H1 a0 m1 m2 m3 m4 y2)) fun (y6:Bool)=>aD (!y6) (i8 R) (aD (decide (y2.1=2)) (aI d4 (gT [T.ref [T.ref (f5 a0), T.mp (bS m1),T.mp (bS m2), T.mp (bS m3),T.mp (bS m4)], T.v (.string y2.2.2)]) fun (y7:Bool)=>aD (!y7) (i8 R) (BF0 y2 X0 s1)) (BF0 y2 X0 s1))) (aD (decide (y2.1=2)) (aI d4 (gT (H1 a0 m1 m2 m3 m4 y2)) fun (y8:Bool)=>aD (!y8) (i8 R) (BF0 y2 X0 s1)) (BF0 y2 X0 s1))) (aD (decide (y2.1=2)) (aI d4 (gT (H1 a0 m1 m2 m3 m4 y2)) fun (y9:Bool)=>aD (!y9) (i8 R) (BF0 y2 X0 s1)) (BF0 y2 X0 s1))))))) (BF2 R)) (0,())
theorem ZO ( a0 m1 m2 m3 m4 R):dY bR Tryz.prog LS ZW 8 55 (pW a0 m1 m2 m3 m4) R=LZ a0 m1 m2 m3 m4 R:=by kernel_rfl
theorem T9 (x y:aC×MP×MP×MP×MP) (h:pW x.1 x.2.1 x.2.2.1 x.2.2.2.1 x.2.2.2.2=pW y.1 y.2.1 y.2.2.1 y.2.2.2.1 y.2.2.2.2):x=y:=qV (List.cons.inj h).1
def IX (x:aC×MP×MP×MP×MP):Option T:=wK x (T.v (Value.int .i64 (cI (BJ x.1) x.1.2.2.2.2.2)))
noncomputable def xI:List T→Option (T):=gA (fun (x:aC×(List (ByteArray×Int))×(List (ByteArray×Int))×(List (ByteArray×Int))×List (ByteArray×Int))=>pW x.1 x.2.1 x.2.2.1 x.2.2.2.1 x.2.2.2.2) IX
theorem ABM (a0:aC) (m1:List (ByteArray×Int)) (m2:List (ByteArray×Int)) (m3:List (ByteArray×Int)) (m4:List (ByteArray×Int)):xI (pW a0 m1 m2 m3 m4)=IX (a0,m1,m2,m3,m4):=eN (A:=(fun (x:aC×(List (ByteArray×Int))×(List (ByteArray×Int))×(List (ByteArray×Int))×List (ByteArray×Int))=>pW x.1 x.2.1 x.2.2.1 x.2.2.2.1 x.2.2.2.2)) T9 (a0,m1,m2,m3,m4)
theorem ARK (h:∀ (a0:aC) (m1:List (ByteArray×Int)) (m2:List (ByteArray×Int)) (m3:List (ByteArray×Int)) (m4:List (ByteArray×Int)) (r:T),IX (a0,m1,m2,m3,m4)=some r→(∀ t∈pW a0 m1 m2 m3 m4,Bd t)→LZ a0 m1 m2 m3 m4 (fun y=>y=r)):aN Tryz.prog 55 xI :=
 cK (E:=LS) (Hs:=ZW) AFC aQ aS (aL rfl) 8 ⟨_,_,Tryz.func55,rfl⟩ fun x r h1 h2=>by
  rw[ZO]
  exact h x.1 x.2.1 x.2.2.1 x.2.2.2.1 x.2.2.2.2 r h1 h2
theorem APX:aN Tryz.prog 55 xI:=ARK fun d m1 m2 m3 m4 r h hb=>by
 obtain ⟨hx,hs,rfl⟩:=oM h
 simp only[Prod.mk.injEq,true_and] at hx
 obtain ⟨rfl,rfl,rfl,rfl⟩:=hx
 replace hs:nN d:=hs
 clear h
 unfold LZ BGB BF0 BF2 H1 f9 f7 AIG ACM i8 f5 FS AC m9 m8 i7 d4 bF
 refine lR (r:=aR) (BJ d) hs.r (fun X s y hy hok hbad=>?_) fun h0=>?_
 ·have bad:∀ {n:Int},n≠0→BJ d y=n→T.v (.int .i64 n)=T.v (.int .i64 (cI (BJ d) d.2.2.2.2.2)):=fun hn h=>by
   rw[hbad (by rw[h];exact hn),h]
  clear hbad hb
  repeat' first
   | refine ixK (fun hn=>?_) (fun i j hj hn=>?_)
   | rw[nU]
   | refine aG (s:=[(false,.bool)]) (OK hs _) ?_
   | refine mA (fun h=>?_) (fun h=>?_)
   | refine cF (fun h=>?_) (fun h=>?_)
   | refine jS (fun h=>?_) (fun h=>?_)
  all_goals first
   | (exfalso;omega)
   | (refine bad (by decide) ?_;clear bad hok;unfold BJ;simp[*,partOf,o0];done)
   | (refine hok ?_;clear bad hok;unfold BJ;simp[*,partOf,o0];done)
   | (refine hok ?_;clear bad hok hs hy;unfold BJ;simp_all[partOf,o0];done)
 ·show _=T.v (.int .i64 (cI (BJ d) d.2.2.2.2.2))
  rw[h0]
end Go.Pv
namespace Go.Pv
open Go Go.Proofs
def A81:FuncId→Hint:=bX 133 [(2,.inv [.val 9 false (.int .i64)])] (fun _=>bI)
def AF8(a0:Int)(a1:List aO)(R:T→Prop):Prop:=aZ (Int×PUnit) (fun X0 s1=>aD (decide (s1.1<(↑(f8 a1).length:Int))) (aP aA (f8 a1) s1.1 fun (y2:aO)=>aD (decide (y2.1<0)) (t6 R) (aD (decide (a0≤y2.1)) (t6 R) (aD (decide (y2.2<0)) (t6 R) (aD (decide (a0≤y2.2)) (t6 R) (aD (decide (y2.1=y2.2)) (ACM R) (f7 X0 s1)))))) (BF2 R)) (0,())
abbrev AJY:Sh:=[(false,(Sy.int IntKind.i64)),(false,aA.li)]
def NQ (n:Int) (x:aO):Int:=if x.1<0∨n≤x.1∨x.2<0∨n≤x.2 then 9 else if x.1=x.2 then 2 else 0
def K8 (x:Int×List aO):Option T:=qQ x.2 (T.v (Value.int .i64 (cI (NQ x.1) x.2)))
noncomputable def OI:List T→Option T:=gS AJY K8
theorem AQS {a0 a1}:OI [T.v (.int .i64 a0),T.sl false (List.map aA.enc a1)]=K8 (a0,a1):=bE (s:=AJY) rfl (a0,a1) rfl
theorem A6M:r8 Tryz.prog 133 OI K8 (cC AJY) AF8:=iB (a1:=(false,(Sy.int IntKind.i64))) (a2:=(false,aA.li)) (sp:=K8) (F:=AF8) (Hs:=A81) (f:=133) (k:=8) (bW _) aQ aS (aL rfl) ⟨_,_,Tryz.func133,rfl⟩ rfl fun _ _ _=>by kernel_rfl
theorem A5F:aN Tryz.prog 133 OI:=A6M fun n l r h hb=>by
 obtain ⟨hl,rfl⟩:=j7 h
 clear h
 unfold AF8 BF2 f8 f7 ACM t6
 refine lR (r:=aA) (NQ n) hl (fun X s y hy hok hbad=>?_) fun h0=>?_
 ·have bad:∀ {m:Int},m≠0→NQ n y=m→T.v (.int .i64 m)=T.v (.int .i64 (cI (NQ n) l)):=fun hn h=>by
   rw[hbad (by rw[h];exact hn),h]
  clear hbad hb
  repeat' first
   | refine mA (fun h=>?_) (fun h=>?_)
   | refine cF (fun h=>?_) (fun h=>?_)
  all_goals first
   | (exfalso;omega)
   | (refine bad (by decide) ?_;clear bad hok;unfold NQ;first|(rw[if_pos (by omega)];done)|(rw[if_neg (by omega),if_pos (by omega)];done))
   | (refine hok ?_;clear bad hok;unfold NQ;rw[if_neg (by omega),if_neg (by omega)];done)
 ·show _=T.v (.int .i64 (cI (NQ n) l))
  rw[h0]
noncomputable def UJ:Env:=Env.of [(133,.pure OI)]
def AK9:FuncId→Hint:=bX 100 [(8,.inv [.arr 0 1 (.int .i64),.val 31 false (.int .i64)]),(14,.inv [.arr 0 1 (.int .i64),.own 10 1 (.int .i64),.arr 2 1 .bool]),(16,.inv [.val 52 false (.int .i64),.fix 0,.fix 2,.fix 3]),(22,.inv [.arr 0 1 (.int .i64),.val 75 false (.int .i64)])] (fun _=>bI)
theorem AOH:aT Tryz.prog UJ:=.cons A5F (.nil _)
def d7:Sh:=[(false,Sy.int IntKind.i64)]
def IR(s14:List Int×List Int×List Bool×PUnit):List (List T):=List.map Sy.bool.enc s14.2.2.1
def RK(s3:List Int×Int×PUnit):List (List T):=List.map bF.enc s3.1
def BFX(s14:List Int×List Int×List Bool×PUnit):List (List T):=List.map bF.enc s14.2.1
def BGA(s14:List Int×List Int×List Bool×PUnit):List (List T):=List.map bF.enc s14.1
def BGC(R:T→Prop):Prop:=bQ (T.v (.int .i64 9)).flat (R (T.bZ [T.sl false [],T.v (.int .i64 9)]))
def U3(a0:Int)(a1:List aO)(R:T→Prop):Prop:=aD (decide (a0<0)) (BGC R) (aD (decide (256<a0)) (BGC R) (aI d7 (OI [T.v (.int .i64 a0),T.sl false (f8 a1)]) fun (y0:Int)=>aD (!decide (y0=0)) (bQ (T.v (.int .i64 y0)).flat (R (T.bZ [T.sl false [],T.v (.int .i64 y0)]))) (bQ ((decide (a0=a0)||decide (a0=0))&&decide (0≤a0)&&decide (a0*(↑8:Int)≤140737488355328) && decide (a0≤140737488355328)) (cH bF (List.replicate (Int.toNat a0) [T.v (.int .i64 0)]) fun (y1:List Int)=>aZ (List Int×Int×PUnit) (fun X2 s3=>aD (decide (s3.2.1<(↑(f8 a1).length:Int))) (aP aA (f8 a1) s3.2.1 fun (y4:aO)=>aP bF (RK s3) y4.2 fun (y5:Int)=>fR bF (RK s3) (Int.toNat y4.2) 0 fun (y6:Int)=>aP bF (RK s3) y4.2 fun (y7:Int)=>sJ (RK s3) (Int.toNat y4.2) fun (y8:List T)=>bQ (decide (1≤y8.length)) (cH bF ((RK s3).set (Int.toNat y4.2) (bP y8 0 [T.v (.int .i64 (IntKind.i64.wrap (y6+1)))])) fun (y9:List Int)=>X2 (y9,IntKind.i64.wrap (s3.2.1+1),()))) (bQ ((decide (0=a0)||true)&&decide (0≤a0)&&decide (a0*(↑8:Int)≤140737488355328) && decide (a0≤140737488355328)) (bQ ((decide (a0=a0)||decide (a0=0))&&decide (0≤a0) && decide (a0*(↑1:Int)≤140737488355328) && decide (a0≤140737488355328)) (cH bF (RK s3) fun (y10:List Int)=>cH bF [] fun (y11:List Int)=>cH Sy.bool (List.replicate (Int.toNat a0) [T.v (.bool false)]) fun (y12:List Bool)=>aZ (List Int×List Int×List Bool×PUnit) (fun X13 s14=>aD (decide ((↑(BFX s14).length:Int)<a0)) (gN (bB.arr false 1 (BGA s14)) (bB.arr false 1 (BGA s14)) (gN (bB.arr false 1 (IR s14)) (bB.arr false 1 (IR s14)) (gN (bB.arr false 1 (BFX s14)) (bB.arr false 1 (BFX s14)) (aZ (Int×PUnit×PUnit×PUnit×PUnit) (fun X15 s16=>aD (decide (s16.1<a0)) (aP Sy.bool (IR s14) s16.1 fun (y17:Bool)=>fR Sy.bool (IR s14) (Int.toNat s16.1) 0 fun (y18:Bool)=>aD y18 (gN (bB.arr false 1 (BGA s14)) (bB.arr false 1 (BGA s14)) (gN (bB.arr false 1 (IR s14)) (bB.arr false 1 (IR s14)) (gN (bB.arr false 1 (BFX s14)) (bB.arr false 1 (BFX s14)) (X15 (IntKind.i64.wrap (s16.1+1),(),(),(),()))))) (aP bF (BGA s14) s16.1 fun (y19:Int)=>fR bF (BGA s14) (Int.toNat s16.1) 0 fun (y20:Int)=>aD (decide (0<y20)) (gN (bB.arr false 1 (BGA s14)) (bB.arr false 1 (BGA s14)) (gN (bB.arr false 1 (IR s14)) (bB.arr false 1 (IR s14)) (gN (bB.arr false 1 (BFX s14)) (bB.arr false 1 (BFX s14)) (X15 (IntKind.i64.wrap (s16.1+1),(),(),(), ()))))) (aP Sy.bool (IR s14) s16.1 fun (y21:Bool)=>sJ (IR s14) (Int.toNat s16.1) fun (y22:List T)=>bQ (decide (1≤y22.length)) (bQ (decide (((BFX s14).length + 1) * 8 ≤ 140737488355328) && decide ((BFX s14).length + 1 ≤ 140737488355328)) (cH bF (BGA s14) fun (y23:List Int)=>aZ (List Int×Int×PUnit) (fun X24 s25=>aD (decide (s25.2.1 < (↑(f8 a1).length : Int))) (aP aA (f8 a1) s25.2.1 fun (y26:aO)=>aD (decide (y26.1=s16.1)) (aP bF (RK s25) y26.2 fun (y27:Int)=>fR bF (RK s25) (Int.toNat y26.2) 0 fun (y28:Int)=>aP bF (RK s25) y26.2 fun (y29:Int)=>sJ (RK s25) (Int.toNat y26.2) fun (y30:List T)=>bQ (decide (1≤y30.length)) (cH bF ((RK s25).set (Int.toNat y26.2) (bP y30 0 [T.v (.int .i64 (IntKind.i64.wrap (y28-1)))])) fun (y31:List Int)=>X24 (y31, IntKind.i64.wrap (s25.2.1+1), ()))) (cH bF (RK s25) fun (y32:List Int)=>X24 (y32, IntKind.i64.wrap (s25.2.1+1), ()))) (cH bF (RK s25) fun (y33:List Int)=>cH bF (List.map bF.enc s14.2.1 ++ [[T.v (.int .i64 s16.1)]]) fun (y34:List Int)=>cH Sy.bool ((IR s14).set (Int.toNat s16.1) (bP y22 0 [T.v (.bool true)])) fun (y35:List Bool)=>X13 (y33,y34,y35,()))) (y23,0,())))))) (bQ (T.v (.int .i64 20)).flat (R (T.bZ [T.sl false [], T.v (.int .i64 20)])))) (0,(),(),(),()))))) (bQ ((BFX s14).all fun (r:List T)=>r.all T.flat) (bQ (T.v (.int .i64 0)).flat (R (T.bZ [T.sl false (BFX s14), T.v (.int .i64 0)]))))) (y10,y11,y12,()))))) (y1,0,())))))
theorem AGE ( a0 a1 R):wD bR Tryz.prog UJ AK9 8 100 [aF false (Sy.int IntKind.i64) a0,aF false aA.li a1] R=U3 a0 a1 R:=by kernel_rfl
abbrev K3:Sh:=[(false,(Sy.int IntKind.i64)),(false,aA.li)]
abbrev zO:Sh:=[(false,(Sy.int IntKind.i64).li),(false,Sy.int IntKind.i64)]
def AWR (b:List Int) (e:aO):List Int:=b.set e.2.toNat (IntKind.i64.wrap (b.getD e.2.toNat 0+1))
def AWX (v:Int) (b:List Int) (e:aO):List Int:=if e.1=v then b.set e.2.toNat (IntKind.i64.wrap (b.getD e.2.toNat 0-1)) else b
def JN (b:List Int) (t:List Bool) (k:Nat):Bool:=!t.getD k false&&decide (b.getD k 0≤0)
def DG (l:List aO) (n:Nat):Nat→List Int→List Int→List Bool→List Int×Int
 | 0,_,o,_=>(o,0)
 | f+1,b,o,t=>match (List.range n).find? (JN b t) with
  | none=>([],20)
  | some v=>DG l n f (l.foldl (AWX v) b) (o++[(v:Int)]) (t.set v true)
def lY (n:Int) (l:List aO):List Int×Int :=
 if n<0∨256<n then ([],9) else if cI (NQ n) l=0 then DG l n.toNat n.toNat (l.foldl AWR (List.replicate n.toNat 0)) [] (List.replicate n.toNat false) else ([],cI (NQ n) l)
theorem AA3 {α:Type} {f:α→Int}:∀ {l:List α},cI f l=0→∀ a∈l,f a=0
 | [],_,_,h=>by cases h
 | b::l,h,a,ha=>by
  unfold cI at h
  split at h
  ·rename_i hb
   rcases List.mem_cons.1 ha with rfl|ha
   ·exact hb
   ·exact AA3 h a ha
  ·exact absurd h ‹_›
theorem zP {r:Sy} {l:List r.den} {i:Int} (h0:0≤i) (h:i.toNat<l.length) (K:r.den→Prop):aP r (List.map r.enc l) i K=K l[i.toNat]:=by
 have e:i=((i.toNat:Nat):Int):=by omega
 have:=bG h K
 rw[←e] at this
 exact this
theorem AM5 {l:List Int} {k:Nat} (h:k<l.length) (y:Int):(List.map (Sy.int .i64).enc l).set k (bP ((Sy.int .i64).enc l[k]) 0 [T.v (.int .i64 y)])=List.map (Sy.int .i64).enc (l.set k y):=by
 rw[List.map_set];rfl
theorem A2P {l:List Bool} {k:Nat} (h:k<l.length) (y:Bool):(List.map Sy.bool.enc l).set k (bP (Sy.bool.enc l[k]) 0 [T.v (.bool y)])=List.map Sy.bool.enc (l.set k y):=by
 rw[List.map_set];rfl
theorem zI {α:Type} {l:List α} {k:Nat} (d:α) (h:k<l.length):l.getD k d=l[k]:=by simp[List.getD,h]
theorem A69 (n:Nat):List.replicate n [T.v (Value.int .i64 0)]=List.map (Sy.int .i64).enc (List.replicate n 0):=by rw[List.map_replicate];rfl
theorem A1W (n:Nat):List.replicate n [T.v (.bool false)]=List.map Sy.bool.enc (List.replicate n false):=by rw[List.map_replicate];rfl
theorem APV (l:List Int):((List.map (Sy.int .i64).enc l).all fun (r:List T)=>r.all T.flat)=true:=by
 rw[List.all_map,List.all_eq_true];intro a _;rfl
def QI (x:Int×List aO):Option T:=qQ x.2 (Sh.enc zO (lY x.1 x.2))
noncomputable def ES:List T→Option (T):=gS K3 QI
theorem AIA {a0 a1}:ES [T.v (.int .i64 a0),T.sl false (List.map aA.enc a1)]=QI (a0,a1):=bE (s:=K3) rfl (a0,a1) rfl
theorem A0Y (h:∀ a0 a1 r,QI (a0,a1)=some r→cC K3 (a0,a1)→U3 a0 a1 (fun y=>y=r)):kP Tryz.prog 100 ES :=
 A57 (E:=UJ) (Hs:=AK9) AOH aQ aS (aL rfl) 8 ⟨_,_,Tryz.func100,rfl⟩ rfl fun x r h1 h2=>by
  obtain ⟨a0,a1⟩:=x
  rw[show Sh.iH K3 (a0,a1)=[aF false (Sy.int IntKind.i64) a0,aF false aA.li a1] from rfl,AGE]
  exact h a0 a1 r h1 h2
theorem AXS:kP Tryz.prog 100 ES:=A0Y fun n l r h hb=>by
 obtain ⟨hl,rfl⟩:=j7 h
 clear h
 have hl:l.length≤140737488355328:=hl
 unfold U3 BGC BGA BFX RK IR f8 d7 bF
 refine cF (fun h=>?_) fun hn0=>?_
 ·refine ⟨rfl,?_⟩
  show _=Sh.enc zO (lY n l)
  rw[lY,if_pos (Or.inl h)];rfl
 refine cF (fun h=>?_) fun hn1=>?_
 ·refine ⟨rfl,?_⟩
  show _=Sh.enc zO (lY n l)
  rw[lY,if_pos (Or.inr h)];rfl
 refine aG (s:=[(false,.int .i64)]) (y:=cI (NQ n) l) (by rw[AQS];exact j8 _ hl) ?_
 refine mA (fun h0=>?_) (fun h0=>?_)
 ·refine ⟨rfl,?_⟩
  show _=Sh.enc zO (lY n l)
  rw[lY,if_neg (by omega),if_neg h0];rfl
 have hv:lY n l=DG l n.toNat n.toNat (l.foldl AWR (List.replicate n.toNat 0)) [] (List.replicate n.toNat false):=by
  rw[lY,if_neg (by omega),if_pos h0]
 have hend:∀ e∈l,0≤e.1∧e.1<n∧0≤e.2∧e.2<n:=fun e he=>by
  have:=AA3 h0 e he
  unfold NQ at this
  split at this
  ·exact absurd this (by decide)
  ·omega
 clear h0 hb
 obtain ⟨N,rfl⟩:∃ N:Nat,n=(N:Int):=⟨n.toNat,by omega⟩
 rw[Int.toNat_natCast] at hv ⊢
 refine ⟨by simp;omega,?_⟩
 rw[A69,eT rfl]
 refine bM l.length (fun k s=>s.2.1=(k:Int)∧s.1.length=N∧(l.drop k).foldl AWR s.1=l.foldl AWR (List.replicate N 0)) ⟨rfl,by simp,rfl⟩ ?_
 rintro X k ⟨b,i,u⟩ hk ⟨rfl,hbl,hbf⟩ hX
 dsimp only at hbl hbf ⊢
 refine cF (fun hlt=>?_) fun hge=>?_
 ·rw[List.length_map] at hlt
  have hlt:k<l.length:=by omega
  rw[bG hlt]
  obtain ⟨-,-,e0,e1⟩:=hend _ (List.getElem_mem hlt)
  have hj:(l[k].2).toNat<b.length:=by omega
  rw[zP e0 hj,iQ hj,zP e0 hj,nC hj]
  refine ⟨rfl,?_⟩
  rw[AM5 hj,eT rfl]
  refine hX _ hlt ⟨?_,?_,?_⟩
  ·show IntKind.i64.wrap ((k:Int)+1)=_
   rw[bH]<;>omega
  ·show (List.set _ _ _).length=N
   rw[List.length_set];exact hbl
  ·rw[List.drop_eq_getElem_cons hlt,List.foldl_cons] at hbf
   rw[←hbf]
   congr 1
   unfold AWR
   rw[zI (l:=b) 0 hj]
 rw[List.length_map] at hge
 have hkl:k=l.length:=by omega
 subst hkl
 rw[List.drop_length,List.foldl_nil] at hbf
 rw[←hbf] at hv
 refine ⟨by simp;omega,⟨by simp;omega,?_⟩⟩
 rw[eT rfl,AWY,A1W,eT rfl]
 clear hX hge hbf
 refine bM N (fun k s=>s.1.length=N∧s.2.1.length=k∧s.2.2.1.length=N∧DG l N (N-k) s.1 s.2.1 s.2.2.1=lY N l) ⟨hbl,rfl,by simp,by rw[hv];rfl⟩ ?_
 clear hv hbl b u
 rintro X k ⟨b,o,t,u⟩ hk ⟨hbl,hol,htl,hr⟩ hX
 dsimp only at hbl hol htl hr ⊢
 refine cF (fun hlt=>?_) fun hge=>?_
 ·rw[List.length_map,hol] at hlt
  have hlt:k<N:=by omega
  rw[dF,dF,dF]
  obtain ⟨m,hm⟩:∃ m,N-k=m+1:=⟨N-k-1,by omega⟩
  rw[hm,DG] at hr
  refine bM N (fun j s=>s.1=(j:Int)∧(List.range N).find? (JN b t)=(List.range' j (N-j)).find? (JN b t)) ⟨rfl,by rw[List.range_eq_range'];rfl⟩ ?_
  rintro Y j ⟨i,u1,u2,u3,u4⟩ hj ⟨rfl,hf⟩ hY
  dsimp only at hf ⊢
  refine cF (fun hjn=>?_) fun hjn=>?_
  ·have hjn:j<N:=by omega
   have hjb:j<b.length:=by omega
   have hjt:j<t.length:=by omega
   obtain ⟨q,hq⟩:∃ q,N-j=q+1:=⟨N-j-1,by omega⟩
   rw[hq,List.range'_succ,List.find?_cons] at hf
   have next:JN b t j=false→Y (IntKind.i64.wrap ((j:Int)+1),(),(),(),()):=fun h=>by
    refine hY _ hjn ⟨?_,?_⟩
    ·show IntKind.i64.wrap ((j:Int)+1)=_
     rw[bH]<;>omega
    ·rw[hf,h]
     rw[show N-(j+1)=q by omega]
   simp only[Int.toNat_natCast]
   rw[bG hjt,iQ hjt]
   refine BH (fun ht=>?_) fun ht=>?_
   ·rw[dF,dF,dF]
    exact next (by rw[JN,zI (l:=t) false hjt,ht];rfl)
   rw[bG hjb,iQ hjb]
   refine cF (fun hp=>?_) fun hp=>?_
   ·rw[dF,dF,dF]
    exact next (by rw[JN,zI (l:=b) 0 hjb,decide_eq_false (by omega),Bool.and_false])
   have hfree:JN b t j=true:=by rw[JN,zI (l:=b) 0 hjb,zI (l:=t) false hjt,ht,decide_eq_true (by omega)];rfl
   rw[hfree] at hf
   rw[hf] at hr
   dsimp only at hr
   clear next hY hf
   rw[bG hjt,nC hjt]
   refine ⟨rfl,⟨by simp;omega,?_⟩⟩
   rw[eT rfl]
   refine bM l.length (fun k s=>s.2.1=(k:Int)∧s.1.length=N∧(l.drop k).foldl (AWX j) s.1=l.foldl (AWX j) b) ⟨rfl,hbl,rfl⟩ ?_
   rintro Z i ⟨c,i',u⟩ hi ⟨rfl,hcl,hcf⟩ hZ
   dsimp only at hcl hcf ⊢
   refine cF (fun hlt=>?_) fun hge=>?_
   ·rw[List.length_map] at hlt
    have hlt:i<l.length:=by omega
    rw[bG hlt]
    obtain ⟨-,-,e0,e1⟩:=hend _ (List.getElem_mem hlt)
    have hjc:(l[i].2).toNat<c.length:=by omega
    rw[List.drop_eq_getElem_cons hlt,List.foldl_cons] at hcf
    have hw:IntKind.i64.wrap ((i:Int)+1)=((i+1:Nat):Int):=by rw[bH]<;>omega
    refine cF (fun hv=>?_) fun hv=>?_
    ·rw[zP e0 hjc,iQ hjc,zP e0 hjc,nC hjc]
     refine ⟨rfl,?_⟩
     rw[AM5 hjc,eT rfl]
     refine hZ _ hlt ⟨hw,?_,?_⟩
     ·show (List.set _ _ _).length=N
      rw[List.length_set];exact hcl
     ·rw[←hcf]
      congr 1
      unfold AWX
      rw[if_pos hv,zI (l:=c) 0 hjc]
    ·rw[eT rfl]
     refine hZ _ hlt ⟨hw,hcl,?_⟩
     rw[←hcf]
     congr 1
     unfold AWX
     rw[if_neg hv]
   ·rw[List.length_map] at hge
    have hil:i=l.length:=by omega
    subst hil
    rw[List.drop_length,List.foldl_nil] at hcf
    rw[eT rfl,sV (r:=.int .i64) rfl o [T.v (.int .i64 (j:Int))] (j:Int) rfl,A2P hjt,eT rfl]
    refine hX _ hlt ⟨hcl,by simp[hol],by simp[htl],?_⟩
    rw[show N-(k+1)=m by omega]
    show DG l N m c (o++[(j:Int)]) (t.set j true)=_
    rw[hcf];exact hr
  ·have hjn:j=N:=by omega
   subst hjn
   rw[Nat.sub_self] at hf
   rw[show (List.range' j 0)=[] from rfl,List.find?_nil] at hf
   rw[hf] at hr
   refine ⟨rfl,?_⟩
   show _=Sh.enc zO (lY (j:Int) l)
   rw[←hr];rfl
 ·rw[List.length_map,hol] at hge
  have hkN:k=N:=by omega
  subst hkN
  rw[Nat.sub_self,DG] at hr
  refine ⟨APV o,rfl,?_⟩
  show _=Sh.enc zO (lY (k:Int) l)
  rw[←hr];rfl
end Go.Pv
namespace Go.Pv
open Go Go.Proofs
def wR (a0:List ByteArray):List T:=[T.sl false (List.map Sy.str.enc a0)]
def AGL(a0:List ByteArray)(R:T→Prop):Prop:=R (T.fn 132 [] [T.ref [T.sl false (GT a0)]])
theorem AOU ( a0 R):dY bR Tryz.prog mF dI 8 99 (wR a0) R=AGL a0 R:=by kernel_rfl
def YO (l:List ByteArray):Option T:=some (T.fn 132 [] [T.ref [T.sl false (List.map Sy.str.enc l)]])
theorem AEY (x y:List ByteArray) (h:wR x=wR y):x=y:=by
 unfold wR at h
 have h:=(T.sl.injEq .. ▸ (List.cons.inj h).1)
 exact map_inj (Sy.dH .str) h.2
noncomputable def HU:List T→Option (T):=gA (fun (x:List ByteArray)=>wR x) YO
theorem S2 (a0:List ByteArray):HU (wR a0)=YO a0:=eN (A:=(fun (x:List ByteArray)=>wR x)) AEY a0
theorem A6X (h:∀ (a0:List ByteArray) (r:T),YO a0=some r→(∀ t∈wR a0,Bd t)→AGL a0 (fun y=>y=r)):aN Tryz.prog 99 HU :=
 cK (E:=mF) (Hs:=dI) (bW _) aQ aS (aL rfl) 8 ⟨_,_,Tryz.func99,rfl⟩ fun x r h1 h2=>by
  rw[AOU]
  exact h x r h1 h2
theorem A5K:aN Tryz.prog 99 HU:=A6X fun l r h hb=>by
 cases h
 unfold AGL GT
 rfl
end Go.Pv
namespace Go.Pv
abbrev Pt:=Int×Int
def dZ (a b c:Pt):Int:=(b.1-a.1)*(c.2-a.2)-(b.2-a.2)*(c.1-a.1)
def QT (n:Int):Int:=if n<0 then -1 else if 0<n then 1 else 0
def btw (a b q:Pt):Bool:=decide (min a.1 b.1≤q.1)&&decide (q.1≤max a.1 b.1)&&(decide (min a.2 b.2≤q.2)&&decide (q.2≤max a.2 b.2))
def WZ (a b q:Pt):Bool:=decide (dZ a b q=0)&&btw a b q
def mY (a b c d:Pt):Bool:=WZ a b c||WZ a b d||WZ c d a||WZ c d b||(decide (QT (dZ a b c)*QT (dZ a b d)<0)&&decide (QT (dZ c d a)*QT (dZ c d b)<0))
def dS (q:Pt):Prop:=-32768≤q.1∧q.1≤32768∧-32768≤q.2∧q.2≤32768
theorem DE {x y M N:Int} (hx:-M≤x∧x≤M) (hy:-N≤y∧y≤N) (hM:0≤M) (hN:0≤N):-(M*N)≤x*y∧x*y≤M*N:=by
 have h1:x.natAbs≤M.toNat:=by omega
 have h2:y.natAbs≤N.toNat:=by omega
 have h3:=Nat.mul_le_mul h1 h2
 rw[←Int.natAbs_mul] at h3
 have h4:((M.toNat*N.toNat:Nat):Int)=M*N:=by
  rw[Int.natCast_mul,Int.toNat_of_nonneg hM,Int.toNat_of_nonneg hN]
 omega
theorem AWV {a b c:Pt} (ha:dS a) (hb:dS b) (hc:dS c):(-4294967296≤(b.1-a.1)*(c.2-a.2)∧(b.1-a.1)*(c.2-a.2)≤4294967296)∧(-4294967296≤(b.2-a.2)*(c.1-a.1)∧(b.2-a.2)*(c.1-a.1)≤4294967296):=by
 unfold dS at ha hb hc
 have h1:=DE (x:=b.1-a.1) (y:=c.2-a.2) (M:=65536) (N:=65536) (by omega) (by omega) (by omega) (by omega)
 have h2:=DE (x:=b.2-a.2) (y:=c.1-a.1) (M:=65536) (N:=65536) (by omega) (by omega) (by omega) (by omega)
 constructor<;>constructor<;>omega
theorem A2Q (n:Int):-1≤QT n∧QT n≤1:=by unfold QT;split<;>(try split)<;>omega
end Go.Pv
namespace Go.Pv
end Go.Pv
namespace Go.Pv
def hit (a b q:Pt):Bool:=(decide (a.2≤q.2)&&decide (q.2<b.2)&&decide (0<dZ a b q))||(decide (b.2≤q.2)&&decide (q.2<a.2)&&decide (dZ a b q<0))
def dr (u v w:Pt):Bool:=decide (u.2<w.2)&&decide (w.2≤v.2)&&decide (dZ u v w<0)
theorem NK (a b q:Pt):dZ b a q = - dZ a b q:=by simp only[dZ];grind
theorem BA9 {a b q:Pt} (h:dZ a b q=0) (hab:a.2<b.2) (h1:a.2≤q.2) (h2:q.2≤b.2):btw a b q=true:=by
 have e:(b.1-a.1)*(q.2-a.2)=(b.2-a.2)*(q.1-a.1):=by unfold dZ at h;omega
 have hx:min a.1 b.1≤q.1∧q.1≤max a.1 b.1:=by
  rcases Int.le_total a.1 b.1 with hd|hd
  ·have m1:=Int.mul_nonneg (show 0≤b.1-a.1 by omega) (show 0≤q.2-a.2 by omega)
   have m2:(b.1-a.1)*(q.2-a.2)≤(b.1-a.1)*(b.2-a.2):=Int.mul_le_mul_of_nonneg_left (by omega) (by omega)
   have p1:0≤q.1-a.1:=by
    refine Int.not_lt.1 fun h=>?_
    have:=Int.mul_neg_of_pos_of_neg (show 0<b.2-a.2 by omega) h
    omega
   have p2:q.1-a.1≤b.1-a.1:=by
    refine Int.not_lt.1 fun h=>?_
    have h3:=Int.mul_lt_mul_of_pos_left h (show 0<b.2-a.2 by omega)
    have h4:(b.2-a.2)*(b.1-a.1)=(b.1-a.1)*(b.2-a.2):=Int.mul_comm _ _
    omega
   omega
  ·have m1:=Int.mul_nonneg (show 0≤a.1-b.1 by omega) (show 0≤q.2-a.2 by omega)
   have m2:(a.1-b.1)*(q.2-a.2)≤(a.1-b.1)*(b.2-a.2):=Int.mul_le_mul_of_nonneg_left (by omega) (by omega)
   have e1:(a.1-b.1)*(q.2-a.2) = - ((b.1-a.1)*(q.2-a.2)):=by grind
   have p1:q.1-a.1≤0:=by
    refine Int.not_lt.1 fun h=>?_
    have:=Int.mul_pos (show 0<b.2-a.2 by omega) h
    omega
   have p2:b.1-a.1≤q.1-a.1:=by
    refine Int.not_lt.1 fun h=>?_
    have h3:=Int.mul_lt_mul_of_pos_left h (show 0<b.2-a.2 by omega)
    have h4:(a.1-b.1)*(b.2-a.2) = - ((b.2-a.2)*(b.1-a.1)):=by grind
    omega
   omega
 simp only[btw,Bool.and_eq_true,decide_eq_true_eq]
 omega
theorem A62 {a b q:Pt} (h:dZ a b q=0) (hab:a.2<b.2) (h1:a.2≤q.2) (h2:q.2≤b.2):WZ a b q=true:=by
 unfold WZ;rw[decide_eq_true h,BA9 h hab h1 h2];rfl
end Go.Pv
namespace Go.Pv
end Go.Pv
namespace Go.Pv
theorem AWH (a b q:Pt):btw b a q=btw a b q:=by unfold btw;rw[Int.min_comm b.1,Int.max_comm b.1,Int.min_comm b.2,Int.max_comm b.2]
theorem A61 (a b q:Pt):WZ b a q=WZ a b q:=by
 unfold WZ;rw[AWH,NK a b q]
 congr 1
 exact decide_eq_decide.2 (by omega)
def A21:Nat→(Nat→Bool)→Bool
 | 0,_=>false
 | n+1,f=>A21 n f ^^ f n
def pt (p:List Pt) (i:Nat):Pt:=p.getD i (0,0)
def nx (p:List Pt) (i:Nat):Pt:=pt p ((i+1) % p.length)
def A5S (p:List Pt) (q:Pt):Bool:=A21 p.length fun i=>hit (pt p i) (nx p i) q
end Go.Pv
namespace Go.Pv
open Go Go.Proofs
instance BFK (q:Pt):Decidable (dS q):=by unfold dS;infer_instance
theorem jI {a b:Bool} (h:a=b):T.v (.bool a)=T.v (.bool b):=by rw[h]
theorem KH {a b:Int} (h:a=b):T.v (.int .i64 a)=T.v (.int .i64 b):=by rw[h]
def OW {α:Type} (a b c:Pt) (r:α):Option α:=match decide (dS a∧dS b∧dS c) with
 | true=>some r
 | false=>none
theorem OX {α:Type} {a b c:Pt} {t r:α} (h:OW a b c t=some r):dS a∧dS b∧dS c∧r=t:=by
 unfold OW at h;split at h
 ·rename_i hc
  cases h
  obtain ⟨h1,h2,h3⟩:=of_decide_eq_true hc
  exact ⟨h1,h2,h3,rfl⟩
 ·cases h
theorem OY {α:Type} {a b c:Pt} (t:α) (ha:dS a) (hb:dS b) (hc:dS c):OW a b c t=some t:=by unfold OW;rw[decide_eq_true ⟨ha,hb,hc⟩]
theorem QR {a b c:Pt} (ha:dS a) (hb:dS b) (hc:dS c):IntKind.i64.wrap (IntKind.i64.wrap (IntKind.i64.wrap (b.1-a.1)*IntKind.i64.wrap (c.2-a.2))-IntKind.i64.wrap (IntKind.i64.wrap (b.2-a.2)*IntKind.i64.wrap (c.1-a.1)))=dZ a b c:=by
 have h:=AWV ha hb hc
 unfold dS at ha hb hc
 rw[bH (b.1-a.1) (by omega) (by omega),bH (c.2-a.2) (by omega) (by omega),bH (b.2-a.2) (by omega) (by omega),bH (c.1-a.1) (by omega) (by omega),
  bH ((b.1-a.1)*(c.2-a.2)) (by omega) (by omega),bH ((b.2-a.2)*(c.1-a.1)) (by omega) (by omega),bH _ (by omega) (by omega)]
 rfl
theorem GI (m n:Int):IntKind.i64.wrap (QT m*QT n)=QT m*QT n:=by
 have h:=DE (A2Q m) (A2Q n) (by omega) (by omega)
 exact bH _ (by omega) (by omega)
theorem WW (a b:Int):(if b<a then b else a)=min a b:=by omega
theorem WU (a b:Int):(if a<b then b else a)=max a b:=by omega
def PP(a1:aO)(a0:aO)(a2:aO):T:=T.v (.int .i64 (IntKind.i64.wrap (IntKind.i64.wrap (IntKind.i64.wrap (a1.1-a0.1)*IntKind.i64.wrap (a2.2-a0.2)) - IntKind.i64.wrap (IntKind.i64.wrap (a1.2-a0.2)*IntKind.i64.wrap (a2.1-a0.1)))))
def MF(a0:aO)(a1:aO)(a2:aO)(R:T→Prop):Prop:=R (PP a1 a0 a2)
abbrev PU:Sh:=[(true,aA),(true,aA),(true,aA)]
def AD (x:aO×aO×aO):Option T:=OW x.1 x.2.1 x.2.2 (T.v (Value.int .i64 (dZ x.1 x.2.1 x.2.2)))
noncomputable def gG:List T→Option T:=gS PU AD
theorem ACB {a0 a1 a2}:gG [aF true aA a0,aF true aA a1,aF true aA a2]=AD (a0,a1,a2):=bE (s:=PU) rfl (a0,a1,a2) rfl
theorem ARX:Of3 Tryz.prog 293 gG AD (cC PU) MF:=RE (a1:=(true,aA)) (a2:=(true,aA)) (a3:=(true,aA)) (sp:=AD) (F:=MF) (Hs:=dI) (f:=293) (k:=8) (bW _) aQ aS (aL rfl) ⟨_,_,Tryz.func293,rfl⟩ rfl fun _ _ _ _=>by kernel_rfl
theorem zD:aN Tryz.prog 293 gG:=ARX fun a b c r h hb=>by
 obtain ⟨h1,h2,h3,rfl⟩:=OX h
 unfold MF PP
 exact KH (QR h1 h2 h3)
theorem j3 {a b c:Pt} (h1:dS a) (h2:dS b) (h3:dS c):gG [aF true aA a,aF true aA b,aF true aA c]=some (Sh.enc [(false,.int .i64)] (dZ a b c)):=(ACB ..).trans (OY _ h1 h2 h3)
def MN(a0:aO)(a1:aO)(a2:aO)(R:T→Prop):Prop:=R (PP a1 a0 a2)
abbrev P2:Sh:=[(true,aA),(true,aA),(true,aA)]
def AJ (x:aO×aO×aO):Option T:=OW x.1 x.2.1 x.2.2 (T.v (Value.int .i64 (dZ x.1 x.2.1 x.2.2)))
noncomputable def mW:List T→Option T:=gS P2 AJ
theorem ACU {a0 a1 a2}:mW [aF true aA a0,aF true aA a1,aF true aA a2]=AJ (a0,a1,a2):=bE (s:=P2) rfl (a0,a1,a2) rfl
theorem AR5:Of3 Tryz.prog 296 mW AJ (cC P2) MN:=RE (a1:=(true,aA)) (a2:=(true,aA)) (a3:=(true,aA)) (sp:=AJ) (F:=MN) (Hs:=dI) (f:=296) (k:=8) (bW _) aQ aS (aL rfl) ⟨_,_,Tryz.func296,rfl⟩ rfl fun _ _ _ _=>by kernel_rfl
theorem AQE:aN Tryz.prog 296 mW:=AR5 fun a b c r h hb=>by
 obtain ⟨h1,h2,h3,rfl⟩:=OX h
 unfold MN PP
 exact KH (QR h1 h2 h3)
theorem rO {a b c:Pt} (h1:dS a) (h2:dS b) (h3:dS c):mW [aF true aA a,aF true aA b,aF true aA c]=some (Sh.enc [(false,.int .i64)] (dZ a b c)):=(ACU ..).trans (OY _ h1 h2 h3)
def U8(a0:Int)(R:T→Prop):Prop:=aD (!decide (a0=a0)) (R (T.v (.int .i64 (-1)))) (aD (decide (a0<0)) (R (T.v (.int .i64 (-1)))) (aD (decide (0<a0)) (R (T.v (.int .i64 1))) (BF2 R)))
abbrev XN:Sh:=[(false,(Sy.int IntKind.i64))]
def F8 (n:Int):Option T:=some (T.v (Value.int .i64 (QT n)))
noncomputable def pD:List T→Option T:=gS XN F8
theorem AIF {a0}:pD [T.v (.int .i64 a0)]=F8 (a0):=bE (s:=XN) rfl (a0) rfl
theorem A03:uH Tryz.prog 327 pD F8 (cC XN) U8:=iW (a1:=(false,(Sy.int IntKind.i64))) (sp:=F8) (F:=U8) (Hs:=dI) (f:=327) (k:=8) (bW _) aQ aS (aL rfl) ⟨_,_,Tryz.func327,rfl⟩ rfl fun _ _=>by kernel_rfl
theorem vB (n:Int):pD [T.v (.int .i64 n)]=some (Sh.enc [(false,.int .i64)] (QT n)):=AIF ..
def U9(a0:Int)(R:T→Prop):Prop:=R (T.v (.int .i64 (if 1<if a0 < -1 then -1 else a0 then 1 else if a0 < -1 then -1 else a0)))
abbrev XO:Sh:=[(false,(Sy.int IntKind.i64))]
def F9 (n:Int):Option T:=some (T.v (Value.int .i64 (QT n)))
noncomputable def pE:List T→Option T:=gS XO F9
theorem AIH {a0}:pE [T.v (.int .i64 a0)]=F9 (a0):=bE (s:=XO) rfl (a0) rfl
theorem A04:uH Tryz.prog 295 pE F9 (cC XO) U9:=iW (a1:=(false,(Sy.int IntKind.i64))) (sp:=F9) (F:=U9) (Hs:=dI) (f:=295) (k:=8) (bW _) aQ aS (aL rfl) ⟨_,_,Tryz.func295,rfl⟩ rfl fun _ _=>by kernel_rfl
theorem vC (n:Int):pE [T.v (.int .i64 n)]=some (Sh.enc [(false,.int .i64)] (QT n)):=AIH ..
theorem AXW:aN Tryz.prog 327 pD:=A03 fun n r h hb=>by
 cases h
 unfold U8 BF2
 refine mA (fun h=>absurd rfl h) fun _=>?_
 exact cF (fun h=>KH (by unfold QT;rw[if_pos h])) fun h=>cF (fun h2=>KH (by unfold QT;rw[if_neg h,if_pos h2])) fun h2=>KH (by unfold QT;rw[if_neg h,if_neg h2])
theorem AXX:aN Tryz.prog 295 pE:=A04 fun n r h hb=>by
 cases h
 unfold U9
 refine KH ?_
 unfold QT
 omega
def UV(a2:aO)(a0:aO)(a1:aO)(R:T→Prop):Prop:=aD (decide (a2.1≤if a0.1<a1.1 then a1.1 else a0.1)) (aD (decide ((if a1.2<a0.2 then a1.2 else a0.2)≤a2.2)) (R (T.v (.bool (decide (a2.2≤if a0.2<a1.2 then a1.2 else a0.2))))) (R d3)) (R d3)
def GY(a0:aO)(a1:aO)(a2:aO)(R:T→Prop):Prop:=aD (decide ((if a1.1<a0.1 then a1.1 else a0.1)≤a2.1)) (UV a2 a0 a1 R) (R d3)
abbrev IK:Sh:=[(true,aA),(true,aA),(true,aA)]
def vZ (x:aO×aO×aO):Option T:=some (T.v (.bool (btw x.1 x.2.1 x.2.2)))
noncomputable def tL:List T→Option T:=gS IK vZ
theorem WD {a0 a1 a2}:tL [aF true aA a0,aF true aA a1,aF true aA a2]=vZ (a0,a1,a2):=bE (s:=IK) rfl (a0,a1,a2) rfl
theorem AJE:Of3 Tryz.prog 328 tL vZ (cC IK) GY:=RE (a1:=(true,aA)) (a2:=(true,aA)) (a3:=(true,aA)) (sp:=vZ) (F:=GY) (Hs:=dI) (f:=328) (k:=8) (bW _) aQ aS (aL rfl) ⟨_,_,Tryz.func328,rfl⟩ rfl fun _ _ _ _=>by kernel_rfl
theorem AHQ:aN Tryz.prog 328 tL:=AJE fun a b c r h hb=>by
 cases h
 unfold GY UV d3
 rw[WW,WW,WU,WU]
 refine cF (fun h1=>cF (fun h2=>cF (fun h3=>jI ?_) fun h3=>jI ?_) fun h2=>jI ?_) fun h1=>jI ?_
 all_goals simp[btw,h1]
 all_goals simp[h2]
 all_goals simp[h3]
def AVO(a0:aO)(a1:aO)(a2:aO)(R:T→Prop):Prop:=aD (decide ((if a1.1<a0.1 then a1.1 else a0.1)≤a2.1)) (UV a2 a0 a1 R) (R d3)
abbrev A2N:Sh:=[(true,aA),(true,aA),(true,aA)]
abbrev AMW:Sh:=[(false,Sy.bool)]
theorem AJO (y:Sh.den AMW) (K:Sh.den AMW→Prop):aI AMW (some (Sh.enc AMW y)) K=K y:=yW rfl y K
def QJ (x:aO×aO×aO):Option T:=some (T.v (.bool (btw x.1 x.2.1 x.2.2)))
noncomputable def eY:List T→Option T:=gS A2N QJ
theorem AZH {a0 a1 a2}:eY [aF true aA a0,aF true aA a1,aF true aA a2]=QJ (a0,a1,a2):=bE (s:=A2N) rfl (a0,a1,a2) rfl
theorem BCK:Of3 Tryz.prog 297 eY QJ (cC A2N) AVO:=RE (a1:=(true,aA)) (a2:=(true,aA)) (a3:=(true,aA)) (sp:=QJ) (F:=AVO) (Hs:=dI) (f:=297) (k:=8) (bW _) aQ aS (aL rfl) ⟨_,_,Tryz.func297,rfl⟩ rfl fun _ _ _ _=>by kernel_rfl
theorem BAO:aN Tryz.prog 297 eY:=BCK fun a b c r h hb=>by
 cases h
 unfold AVO UV d3
 rw[WW,WW,WU,WU]
 refine cF (fun h1=>cF (fun h2=>cF (fun h3=>jI ?_) fun h3=>jI ?_) fun h2=>jI ?_) fun h1=>jI ?_
 all_goals simp[btw,h1]
 all_goals simp[h2]
 all_goals simp[h3]
noncomputable def BDS:Env:=Env.of [(293,.pure gG),(328,.pure tL)]
theorem A3V:aT Tryz.prog BDS:=.cons zD (.cons AHQ (.nil _))
def EQ(a0:aO)(a1:aO)(a2:aO):List T:=[aF true aA a0,aF true aA a1,aF true aA a2]
def AVD(a0:aO)(a1:aO)(a2:aO)(R:T→Prop):Prop:=aI d7 (gG (EQ a0 a1 a2)) fun (y0:Int)=>aD (decide (y0=0)) (aI d4 (tL (EQ a0 a1 a2)) fun (y1:Bool)=>R (T.v (.bool y1))) (R d3)
abbrev A2M:Sh:=[(true,aA),(true,aA),(true,aA)]
def YN (x:aO×aO×aO):Option T:=OW x.1 x.2.1 x.2.2 (T.v (.bool (WZ x.1 x.2.1 x.2.2)))
noncomputable def xS:List T→Option T:=gS A2M YN
theorem AZA {a0 a1 a2}:xS [aF true aA a0,aF true aA a1,aF true aA a2]=YN (a0,a1,a2):=bE (s:=A2M) rfl (a0,a1,a2) rfl
theorem BCE:Of3 Tryz.prog 298 xS YN (cC A2M) AVD:=RE (a1:=(true,aA)) (a2:=(true,aA)) (a3:=(true,aA)) (sp:=YN) (F:=AVD) (Hs:=dI) (f:=298) (k:=8) A3V aQ aS (aL rfl) ⟨_,_,Tryz.func298,rfl⟩ rfl fun _ _ _ _=>by kernel_rfl
theorem AXV:aN Tryz.prog 298 xS:=BCE fun a b c r h hb=>by
 obtain ⟨h1,h2,h3,rfl⟩:=OX h
 unfold AVD EQ d7 d4 d3
 refine aG (s:=[(false,.int .i64)]) (j3 h1 h2 h3) ?_
 refine cF (fun h=>?_) fun h=>jI (by unfold WZ;rw[decide_eq_false h];rfl)
 refine aG (s:=[(false,.bool)]) (y:=btw a b c) (WD ..) ?_
 exact jI (by unfold WZ;rw[decide_eq_true h];rfl)
theorem xT {a b c:Pt} (h1:dS a) (h2:dS b) (h3:dS c):xS [aF true aA a,aF true aA b,aF true aA c]=some (Sh.enc [(false,.bool)] (WZ a b c)):=(AZA ..).trans (OY _ h1 h2 h3)
def TH {α:Type} (a b c d:Pt) (r:α):Option α:=match decide (dS a∧dS b∧dS c∧dS d) with
 | true=>some r
 | false=>none
theorem ADM {α:Type} {a b c d:Pt} {t r:α} (h:TH a b c d t=some r):dS a∧dS b∧dS c∧dS d∧r=t:=by
 unfold TH at h;split at h
 ·rename_i hc
  cases h
  obtain ⟨h1,h2,h3,h4⟩:=of_decide_eq_true hc
  exact ⟨h1,h2,h3,h4,rfl⟩
 ·cases h
theorem ADN {α:Type} {a b c d:Pt} (t:α) (ha:dS a) (hb:dS b) (hc:dS c) (hd:dS d):TH a b c d t=some t:=by unfold TH;rw[decide_eq_true ⟨ha,hb,hc,hd⟩]
noncomputable def A3C:Env:=Env.of [(293,.pure gG),(298,.pure xS),(327,.pure pD)]
theorem AOK:aT Tryz.prog A3C:=.cons zD (.cons AXV (.cons AXW (.nil _)))
def m7(a0:aO)(a1:aO)(a3:aO):List T:=[aF true aA a0,aF true aA a1, aF true aA a3]
def BF6(y4:Int):List T:=[T.v (.int .i64 y4)]
def U7(a0:aO)(a1:aO)(a2:aO)(a3:aO)(R:T→Prop):Prop:=aI d4 (xS (EQ a0 a1 a2)) fun (y0:Bool)=>aD y0 (R d6) (aI d4 (xS (EQ a0 a1 a3)) fun (y1:Bool)=>aD y1 (R d6) (aI d4 (xS (EQ a2 a3 a0)) fun (y2:Bool)=>aD y2 (R d6) (aI d4 (xS (EQ a2 a3 a1)) fun (y3:Bool)=>aD y3 (R d6) (aI d7 (gG (EQ a0 a1 a2)) fun (y4:Int)=>aI d7 (pD (BF6 y4)) fun (y5:Int)=>aI d7 (gG (m7 a0 a1 a3)) fun (y6:Int)=>aI d7 (pD (BF6 y6)) fun (y7:Int)=>aD (decide (IntKind.i64.wrap (y5*y7)<0)) (aI d7 (gG (m7 a2 a3 a0)) fun (y8:Int)=>aI d7 (pD (BF6 y8)) fun (y9:Int)=>aI d7 (gG (m7 a2 a3 a1)) fun (y10:Int)=>aI d7 (pD (BF6 y10)) fun (y11:Int)=>R (T.v (.bool (decide (IntKind.i64.wrap (y9*y11)<0))))) (R d3)))))
abbrev XM:Sh:=[(true,aA),(true,aA),(true,aA),(true,aA)]
def F7 (x:aO×aO×aO×aO):Option T:=TH x.1 x.2.1 x.2.2.1 x.2.2.2 (T.v (.bool (mY x.1 x.2.1 x.2.2.1 x.2.2.2)))
noncomputable def rN:List T→Option T:=gS XM F7
theorem AID {a0 a1 a2 a3}:rN [aF true aA a0,aF true aA a1,aF true aA a2,
 aF true aA a3]=F7 (a0,a1,a2,a3):=bE (s:=XM) rfl (a0,a1,a2,a3) rfl
theorem A02:Of4 Tryz.prog 294 rN F7 (cC XM) U7:=BEX (a1:=(true,aA)) (a2:=(true,aA)) (a3:=(true,aA)) (a4:=(true,aA)) (sp:=F7) (F:=U7) (Hs:=dI) (f:=294) (k:=8) AOK aQ aS (aL rfl) ⟨_,_,Tryz.func294,rfl⟩ rfl fun _ _ _ _ _=>by kernel_rfl
theorem AXU:aN Tryz.prog 294 rN:=A02 fun a b c d r h hb=>by
 obtain ⟨h1,h2,h3,h4,rfl⟩:=ADM h
 unfold U7 BF6 EQ m7 d7 d6 d4 d3
 refine aG (s:=[(false,.bool)]) (xT h1 h2 h3) ?_
 refine BH (fun h=>jI (by unfold mY;rw[h];rfl)) fun k1=>?_
 refine aG (s:=[(false,.bool)]) (xT h1 h2 h4) ?_
 refine BH (fun h=>jI (by unfold mY;rw[h,k1];rfl)) fun k2=>?_
 refine aG (s:=[(false,.bool)]) (xT h3 h4 h1) ?_
 refine BH (fun h=>jI (by unfold mY;rw[h,k1,k2];rfl)) fun k3=>?_
 refine aG (s:=[(false,.bool)]) (xT h3 h4 h2) ?_
 refine BH (fun h=>jI (by unfold mY;rw[h,k1,k2,k3];rfl)) fun k4=>?_
 refine aG (s:=[(false,.int .i64)]) (j3 h1 h2 h3) ?_
 refine aG (s:=[(false,.int .i64)]) (vB _) ?_
 refine aG (s:=[(false,.int .i64)]) (j3 h1 h2 h4) ?_
 refine aG (s:=[(false,.int .i64)]) (vB _) ?_
 rw[GI]
 refine cF (fun h=>?_) fun h=>jI (by unfold mY;rw[k1,k2,k3,k4,decide_eq_false h];rfl)
 refine aG (s:=[(false,.int .i64)]) (j3 h3 h4 h1) ?_
 refine aG (s:=[(false,.int .i64)]) (vB _) ?_
 refine aG (s:=[(false,.int .i64)]) (j3 h3 h4 h2) ?_
 refine aG (s:=[(false,.int .i64)]) (vB _) ?_
 rw[GI]
 exact jI (by unfold mY;rw[k1,k2,k3,k4,decide_eq_true h];rfl)
theorem AIE {a b c d:Pt} (h1:dS a) (h2:dS b) (h3:dS c) (h4:dS d):rN [aF true aA a,aF true aA b,aF true aA c,aF true aA d]=some (Sh.enc [(false,.bool)] (mY a b c d)):=(AID ..).trans (ADN _ h1 h2 h3 h4)
def AGG(a0:aO)(R:T→Prop):Prop:=aD (decide (a0.1 < -32768)) (R d6) (aD (decide (32768<a0.1)) (R d6) (aD (decide (a0.2 < -32768)) (R d6) (R (T.v (.bool (decide (32768<a0.2)))))))
abbrev AJ2:Sh:=[(true,aA)]
def K9 (q:aO):Option T:=some (T.v (.bool (!decide (dS q))))
noncomputable def CK:List T→Option T:=gS AJ2 K9
theorem SX {a0}:CK [aF true aA a0]=K9 (a0):=bE (s:=AJ2) rfl (a0) rfl
theorem A6S:uH Tryz.prog 175 CK K9 (cC AJ2) AGG:=iW (a1:=(true,aA)) (sp:=K9) (F:=AGG) (Hs:=dI) (f:=175) (k:=8) (bW _) aQ aS (aL rfl) ⟨_,_,Tryz.func175,rfl⟩ rfl fun _ _=>by kernel_rfl
theorem ALV:aN Tryz.prog 175 CK:=A6S fun q r h hb=>by
 cases h
 unfold AGG d6
 have no:¬ dS q→true = !decide (dS q):=fun h=>by rw[decide_eq_false h];rfl
 refine cF (fun h=>jI (no (by unfold dS;omega))) fun h1=>cF (fun h=>jI (no (by unfold dS;omega))) fun h2=>cF (fun h=>jI (no (by unfold dS;omega))) fun h3=>jI ?_
 by_cases h:dS q
 ·rw[decide_eq_true h,Bool.not_true]
  unfold dS at h
  exact decide_eq_false (by omega)
 ·rw[decide_eq_false h,Bool.not_false]
  unfold dS at h
  exact decide_eq_true (by omega)
theorem A2R {n:Int}:QT n=0↔n=0:=by
 unfold QT
 split
 ·omega
 ·split<;>omega
noncomputable def ATN:Env:=Env.of [(296,.pure mW),(295,.pure pE),(297,.pure eY)]
theorem AFU:aT Tryz.prog ATN:=.cons AQE (.cons AXX (.cons BAO (.nil _)))
def NE(y5:Int)(a2:aO)(a3:aO)(a0:aO)(R:T→Prop)(y7:Int)(a1:aO):Prop:=aD (decide (y5=0)) (aI d4 (eY (m7 a2 a3 a0)) fun (y10:Bool)=>aD y10 (R d6) (aD (decide (y7=0)) (aI d4 (eY (m7 a2 a3 a1)) fun (y11:Bool)=>R (T.v (.bool y11))) (R d3))) (aD (decide (y7=0)) (aI d4 (eY (m7 a2 a3 a1)) fun (y12:Bool)=>R (T.v (.bool y12))) (R d3))
def f0(y3:Int)(a0:aO)(a1:aO)(a3:aO)(R:T→Prop)(y5:Int)(a2:aO)(y7:Int):Prop:=aD (decide (y3=0)) (aI d4 (eY (m7 a0 a1 a3)) fun (y9:Bool)=>aD y9 (R d6) (NE y5 a2 a3 a0 R y7 a1)) (NE y5 a2 a3 a0 R y7 a1)
def MQ(a0:aO)(a1:aO)(a2:aO)(a3:aO)(R:T→Prop):Prop:=aI d7 (mW (EQ a0 a1 a2)) fun (y0:Int)=>aI d7 (pE (BF6 y0)) fun (y1:Int)=>aI d7 (mW (EQ a0 a1 a3)) fun (y2:Int)=>aI d7 (pE (BF6 y2)) fun (y3:Int)=>aI d7 (mW (EQ a2 a3 a0)) fun (y4:Int)=>aI d7 (pE (BF6 y4)) fun (y5:Int)=>aI d7 (mW (EQ a2 a3 a1)) fun (y6:Int)=>aI d7 (pE (BF6 y6)) fun (y7:Int)=>aD (decide (IntKind.i64.wrap (y1*y3)<0)) (aD (decide (IntKind.i64.wrap (y5*y7)<0)) (R d6) (aD (decide (y1=0)) (aI d4 (eY (m7 a0 a1 a2)) fun (y8:Bool)=>aD y8 (R d6) (f0 y3 a0 a1 a3 R y5 a2 y7)) (f0 y3 a0 a1 a3 R y5 a2 y7))) (aD (decide (y1=0)) (aI d4 (eY (m7 a0 a1 a2)) fun (y23:Bool)=>aD y23 (R d6) (f0 y3 a0 a1 a3 R y5 a2 y7)) (f0 y3 a0 a1 a3 R y5 a2 y7))
abbrev P3:Sh:=[(true,aA),(true,aA),(true,aA),(true,aA)]
def AK (x:aO×aO×aO×aO):Option T:=TH x.1 x.2.1 x.2.2.1 x.2.2.2 (T.v (.bool (mY x.1 x.2.1 x.2.2.1 x.2.2.2)))
noncomputable def xW:List T→Option T:=gS P3 AK
theorem AC1 {a0 a1 a2 a3}:xW [aF true aA a0,aF true aA a1,aF true aA a2,
 aF true aA a3]=AK (a0,a1,a2,a3):=bE (s:=P3) rfl (a0,a1,a2,a3) rfl
theorem AR7:Of4 Tryz.prog 179 xW AK (cC P3) MQ:=BEX (a1:=(true,aA)) (a2:=(true,aA)) (a3:=(true,aA)) (a4:=(true,aA)) (sp:=AK) (F:=MQ) (Hs:=dI) (f:=179) (k:=8) AFU aQ aS (aL rfl) ⟨_,_,Tryz.func179,rfl⟩ rfl fun _ _ _ _ _=>by kernel_rfl
theorem A13 (a b c:Pt) (K:Bool→Prop):aI [(false,Sy.bool)] (eY [aF true aA a,aF true aA b,aF true aA c]) K=K (btw a b c):=by
 rw[show eY [aF true aA a,aF true aA b,aF true aA c]=QJ (a,b,c) from AZH ..]
 exact AJO _ K
theorem AQF:aN Tryz.prog 179 xW:=AR7 fun a b c d r h hb=>by
 obtain ⟨h1,h2,h3,h4,rfl⟩:=ADM h
 unfold MQ BF6 EQ f0 NE m7 d7 d6 d4 d3
 refine aG (s:=[(false,.int .i64)]) (rO h1 h2 h3) ?_
 refine aG (s:=[(false,.int .i64)]) (vC _) ?_
 refine aG (s:=[(false,.int .i64)]) (rO h1 h2 h4) ?_
 refine aG (s:=[(false,.int .i64)]) (vC _) ?_
 refine aG (s:=[(false,.int .i64)]) (rO h3 h4 h1) ?_
 refine aG (s:=[(false,.int .i64)]) (vC _) ?_
 refine aG (s:=[(false,.int .i64)]) (rO h3 h4 h2) ?_
 refine aG (s:=[(false,.int .i64)]) (vC _) ?_
 rw[GI,GI]
 have e:∀ {n:Bool},mY a b c d=n→T.v (.bool n)=T.v (.bool (mY a b c d)):=fun h=>by rw[h]
 simp only[A13]
 unfold mY at e
 unfold WZ at e
 clear h hb
 repeat' first
  | refine cF (fun h=>?_) (fun h=>?_)
  | refine BH (fun h=>?_) (fun h=>?_)
 all_goals (refine e ?_;clear e;simp only[A2R] at *;simp[*,show QT 0=0 from rfl])
end Go.Pv
namespace Go.Pv
open Go Go.Proofs
theorem W3 {p:List Pt} {i:Nat} (h:i<p.length):pt p i=p[i]:=by unfold pt;rw[List.getD_eq_getElem?_getD,List.getElem?_eq_getElem h];rfl
theorem fO {p:List aO} {k:Nat} (h:k<p.length) (K:aO→Prop):aP aA (List.map aA.enc p) (k:Int) K=K (pt p k):=by
 rw[bG (r:=aA) h,W3 h]
theorem vF {i n c:Nat} (hn:n≤1000) (hi:i≤1000) (hc:c≤2):(IntKind.i64.wrap ((i:Int)+(c:Int))).tmod (n:Int)=(((i+c) % n:Nat):Int):=by
 rw[bH _ (by omega) (by omega),Int.tmod_eq_emod_of_nonneg (by omega),Int.natCast_emod,Int.natCast_add]
def APM (a b c:Pt):Int:=(a.1-b.1)*(c.1-b.1)+(a.2-b.2)*(c.2-b.2)
def RG (p:List Pt) (i k:Nat):Bool:=!(!decide ((k+1) % p.length=i)&&mY (pt p i) (nx p i) (pt p k) (nx p k))
def nxx (p:List Pt) (i:Nat):Pt:=pt p ((i+2) % p.length)
def ADX (p:List Pt) (i:Nat):Bool:=!decide (pt p i=nx p i)&&(!(decide (dZ (pt p i) (nx p i) (nxx p i)=0)&&decide (0<APM (pt p i) (nx p i) (nxx p i)))&&(List.range p.length).all fun k=>decide (k<i+2)||RG p i k)
def J4 (p:List Pt):Bool:=(List.range p.length).all (ADX p)
def kO (p:List Pt):Prop:=∀ q∈p,dS q
def OZ (p:List Pt):Bool:=p.all fun q=>decide (dS q)
theorem nW {p:List Pt}:OZ p=true↔kO p:=by
 simp only[OZ,List.all_eq_true,decide_eq_true_eq];exact Iff.rfl
theorem kO.pt {p:List Pt} (h:kO p) (i:Nat):dS (pt p i):=by
 rcases Nat.lt_or_ge i p.length with hi|hi
 ·rw[W3 hi];exact h _ (List.getElem_mem hi)
 ·unfold Go.Pv.pt
  rw[List.getD_eq_getElem?_getD,List.getElem?_eq_none hi]
  unfold dS;decide
def RF (p:List Pt):Bool:=decide (p.length≤1000)&&OZ p
def TL {α:Type} (p:List Pt) (r:α):Option α:=match RF p with
 | true=>some r
 | false=>none
theorem AD1 {α:Type} {p:List Pt} {t r:α} (h:TL p t=some r):p.length≤1000∧kO p∧r=t:=by
 unfold TL at h;split at h
 ·rename_i hc
  simp only[RF,Bool.and_eq_true,decide_eq_true_eq,nW] at hc
  cases h;exact ⟨hc.1,hc.2,rfl⟩
 ·cases h
theorem AD2 {α:Type} {p:List Pt} (t:α) (h:p.length≤1000) (h2:kO p):TL p t=some t:=by
 unfold TL;rw[show RF p=true by simp only[RF,Bool.and_eq_true,decide_eq_true_eq,nW];exact ⟨h,h2⟩]
theorem A20 {a b c:Pt} (ha:dS a) (hb:dS b) (hc:dS c):IntKind.i64.wrap (IntKind.i64.wrap (IntKind.i64.wrap (a.1-b.1)*IntKind.i64.wrap (c.1-b.1))+IntKind.i64.wrap (IntKind.i64.wrap (a.2-b.2)*IntKind.i64.wrap (c.2-b.2)))=APM a b c:=by
 unfold dS at ha hb hc
 have h1:=DE (x:=a.1-b.1) (y:=c.1-b.1) (M:=65536) (N:=65536) (by omega) (by omega) (by omega) (by omega)
 have h2:=DE (x:=a.2-b.2) (y:=c.2-b.2) (M:=65536) (N:=65536) (by omega) (by omega) (by omega) (by omega)
 rw[bH (a.1-b.1) (by omega) (by omega),bH (c.2-b.2) (by omega) (by omega),bH (a.2-b.2) (by omega) (by omega),bH (c.1-b.1) (by omega) (by omega),
  bH ((a.1-b.1)*(c.1-b.1)) (by omega) (by omega),bH ((a.2-b.2)*(c.2-b.2)) (by omega) (by omega),bH _ (by omega) (by omega)]
 rfl
noncomputable def AN4:Env:=Env.of [(293,.pure gG),(294,.pure rN)]
def AOZ:FuncId→Hint:=bX 176 [(3,.inv [.val 13 false (.int .i64)]),(12,.inv [.val 8 false (.int .i64)])] (fun _=>bI)
theorem ZI:aT Tryz.prog AN4:=.cons zD (.cons AXU (.nil _))
def g9(a0:List aO)(s1:Int×PUnit)(y2:aO)(y3:aO)(R:T→Prop)(X0:Int×PUnit→Prop):Prop:=aZ (Int×PUnit) (fun X6 s7=>aD (decide (s7.1<(↑(f8 a0).length:Int))) (bQ (!decide ((↑(f8 a0).length:Int)=0)) (aD (!decide ((IntKind.i64.wrap (s7.1+1)).tmod (↑(f8 a0).length:Int) = s1.1)) (aP aA (f8 a0) s7.1 fun (y8:aO)=>bQ (!decide ((↑(f8 a0).length:Int)=0)) (aP aA (f8 a0) ((IntKind.i64.wrap (s7.1+1)).tmod (↑(f8 a0).length:Int)) fun (y9:aO)=>aI d4 (rN [aF true aA y2,aF true aA y3, aF true aA y8,aF true aA y9]) fun (y10:Bool)=>aD y10 (R d3) (f7 X6 s7))) (f7 X6 s7))) (f7 X0 s1)) (IntKind.i64.wrap (s1.1+2),())
def GW(a0:List aO)(R:T→Prop):Prop:=aZ (Int×PUnit) (fun X0 s1=>aD (decide (s1.1<(↑(f8 a0).length:Int))) (aP aA (f8 a0) s1.1 fun (y2:aO)=>bQ (!decide ((↑(f8 a0).length:Int)=0)) (aP aA (f8 a0) ((IntKind.i64.wrap (s1.1+1)).tmod (↑(f8 a0).length:Int)) fun (y3:aO)=>aD (decide (y2.1=y3.1)&&(decide (y2.2=y3.2)&&true)) (R d3) (bQ (!decide ((↑(f8 a0).length:Int)=0)) (aP aA (f8 a0) ((IntKind.i64.wrap (s1.1+2)).tmod (↑(f8 a0).length:Int)) fun (y4:aO)=>aI d7 (gG (m7 y2 y3 y4)) fun (y5:Int)=>aD (decide (y5=0)) (aD (decide (0 < IntKind.i64.wrap (IntKind.i64.wrap (IntKind.i64.wrap (y2.1-y3.1)*IntKind.i64.wrap (y4.1-y3.1)) + IntKind.i64.wrap (IntKind.i64.wrap (y2.2-y3.2)*IntKind.i64.wrap (y4.2-y3.2))))) (R d3) (g9 a0 s1 y2 y3 R X0)) (g9 a0 s1 y2 y3 R X0))))) (R d6)) (0,())
abbrev II:Sh:=[(false,aA.li)]
def vX (p:List aO):Option T:=TL p (T.v (.bool (J4 p)))
noncomputable def nT:List T→Option T:=gS II vX
theorem WA {a0}:nT [T.sl false (List.map aA.enc a0)]=vX (a0):=bE (s:=II) rfl (a0) rfl
theorem AJC:uH Tryz.prog 176 nT vX (cC II) GW:=iW (a1:=(false,aA.li)) (sp:=vX) (F:=GW) (Hs:=AOZ) (f:=176) (k:=8) ZI aQ aS (aL rfl) ⟨_,_,Tryz.func176,rfl⟩ rfl fun _ _=>by kernel_rfl
theorem VJ {n:Nat} {f:Nat→Bool} {i:Nat} (hi:i<n) (h:f i=false):(List.range n).all f=false:=by
 rw[Bool.eq_false_iff];intro ha
 have:=pK.1 ha i hi
 rw[h] at this;cases this
theorem ASR {p:List aO} {i:Nat} (hl:p.length≤1000) (hn:kO p) (hi:i<p.length) {Bad Good:Prop} (hbad:(List.range p.length).all (fun k=>decide (k<i+2)||RG p i k)=false→Bad) (hgood:(List.range p.length).all (fun k=>decide (k<i+2)||RG p i k)=true→Good) :
  aZ (Int×PUnit)
   (fun (X6:Int×PUnit→Prop) (s7:Int×PUnit) =>
    aD (decide (s7.1<(↑(List.map aA.enc p).length:Int)))
     (bQ (!decide ((↑(List.map aA.enc p).length:Int)=0))
      (aD (!decide ((IntKind.i64.wrap (s7.1+1)).tmod (↑(List.map aA.enc p).length:Int)=(i:Int)))
       (aP aA (List.map aA.enc p) s7.1 fun (y8:aO) =>
        bQ (!decide ((↑(List.map aA.enc p).length:Int)=0))
         (aP aA (List.map aA.enc p) ((IntKind.i64.wrap (s7.1+1)).tmod (↑(List.map aA.enc p).length:Int))
          fun (y9:aO) =>
          aI [(false,Sy.bool)] (rN [aF true aA (pt p i),aF true aA (nx p i),aF true aA y8,aF true aA y9])
           fun (y10:Bool)=>aD y10 Bad (X6 (IntKind.i64.wrap (s7.1+1),()))))
       (X6 (IntKind.i64.wrap (s7.1+1),()))))
     Good)
   (IntKind.i64.wrap ((i:Int)+2),()):=by
 refine bM p.length (fun m s=>s=(((i+2+m:Nat):Int),())∧∀ k,k<i+2+m→k<p.length→(decide (k<i+2)||RG p i k)=true) ⟨by rw[bH _ (by omega) (by omega)];simp,fun k h1 h2=>by simp at h1;simp[h1]⟩ ?_
 rintro X m s hm ⟨rfl,hJ⟩ hX
 dsimp only
 rw[List.length_map]
 refine cF (fun hlt=>?_) fun hge=>hgood (pK.2 fun k hk=>hJ k (by omega) hk)
 have hk:i+2+m<p.length:=by omega
 have hne:(!decide ((p.length:Int)=0))=true:=by rw[decide_eq_false (by omega)];rfl
 have hix:(IntKind.i64.wrap (((i+2+m:Nat):Int)+1)).tmod (p.length:Int)=(((i+2+m+1) % p.length:Nat):Int):=vF (c:=1) hl (by omega) (by omega)
 have hw:IntKind.i64.wrap (((i+2+m:Nat):Int)+1)=((i+2+(m+1):Nat):Int):=by rw[bH _ (by omega) (by omega)];omega
 have hmod:(i+2+m+1) % p.length<p.length:=Nat.mod_lt _ (by omega)
 have go:RG p i (i+2+m)=true→X (((i+2+(m+1):Nat):Int),()):=fun h=>hX _ (by omega) ⟨rfl,fun k h1 h2=>by
  rcases Nat.lt_or_ge k (i+2+m) with h3|h3
  ·exact hJ k h3 h2
  ·have:k=i+2+m:=by omega
   subst this;rw[h];simp⟩
 refine ⟨hne,?_⟩
 rw[hix,hw]
 refine mA (fun h=>?_) fun h=>go (by unfold RG;rw[decide_eq_true (show (i+2+m+1) % p.length=i by omega)];rfl)
 rw[fO hk,A1X,fO hmod]
 refine ⟨hne,?_⟩
 refine aG (s:=[(false,.bool)]) (AIE (hn.pt _) (hn.pt _) (hn.pt _) (hn.pt _)) ?_
 have e:RG p i (i+2+m) = !mY (pt p i) (nx p i) (pt p (i+2+m)) (nx p (i+2+m)):=by
  unfold RG;rw[decide_eq_false (show ¬ (i+2+m+1) % p.length=i by omega)];rfl
 refine BH (fun hm=>hbad (VJ hk ?_)) fun hm=>go ?_
 ·show (decide (i+2+m<i+2)||RG p i (i+2+m))=false
  rw[e,show mY (pt p i) (nx p i) (pt p (i+2+m)) (nx p (i+2+m))=true from hm];simp
 ·rw[e,show mY (pt p i) (nx p i) (pt p (i+2+m)) (nx p (i+2+m))=false from hm];rfl
theorem AHP:aN Tryz.prog 176 nT:=AJC fun p r h hb=>by
 obtain ⟨hl,hn,rfl⟩:=AD1 h
 clear h
 unfold GW g9 f8 f7 m7 d7 d6 d4 d3
 refine bM p.length (fun k s=>s=((k:Int),())∧∀ i,i<k→i<p.length→ADX p i=true) ⟨rfl,fun i h=>by omega⟩ ?_
 rintro X k s hk ⟨rfl,hJ⟩ hX
 dsimp only
 refine cF (fun hlt=>?_) fun hge=>jI (Eq.symm (pK.2 fun i hi=>hJ i (by rw[List.length_map] at hge;omega) hi))
 rw[List.length_map] at hlt
 have hlt:k<p.length:=by omega
 have hne:(!decide (((List.map aA.enc p).length:Int)=0))=true:=by rw[List.length_map,decide_eq_false (by omega)];rfl
 have hm1:(k+1) % p.length<p.length:=Nat.mod_lt _ (by omega)
 have hm2:(k+2) % p.length<p.length:=Nat.mod_lt _ (by omega)
 have i1:(IntKind.i64.wrap ((k:Int)+1)).tmod ((List.map aA.enc p).length:Int)=(((k+1) % p.length:Nat):Int):=by rw[List.length_map];exact vF (c:=1) hl (by omega) (by omega)
 have i2:(IntKind.i64.wrap ((k:Int)+2)).tmod ((List.map aA.enc p).length:Int)=(((k+2) % p.length:Nat):Int):=by rw[List.length_map];exact vF (c:=2) hl (by omega) (by omega)
 have bad:ADX p k=false→T.v (.bool false)=T.v (.bool (J4 p)):=fun h=>jI (VJ hlt h).symm
 have oW:ADX p k=true→X (IntKind.i64.wrap ((k:Int)+1),()):=fun h=>hX _ hlt ⟨by rw[show IntKind.i64.wrap ((k:Int)+1)=((k+1:Nat):Int) from bH _ (by omega) (by omega)],fun i h1 h2=>by
  rcases Nat.lt_or_ge i k with h3|h3
  ·exact hJ i h3 h2
  ·have:i=k:=by omega
   subst this;exact h⟩
 rw[fO hlt,i1]
 refine ⟨hne,?_⟩
 rw[fO hm1]
 have heq:(decide ((pt p k).1=(pt p ((k+1) % p.length)).1)&&(decide ((pt p k).2=(pt p ((k+1) % p.length)).2)&&true))=decide (pt p k=nx p k):=by
  rw[Bool.and_true,←Bool.decide_and]
  exact decide_eq_decide.2 Prod.ext_iff.symm
 rw[heq]
 refine cF (fun h=>bad (by unfold ADX;rw[decide_eq_true h];rfl)) fun h1=>?_
 refine ⟨hne,?_⟩
 rw[i2,fO hm2]
 refine aG (s:=[(false,.int .i64)]) (j3 (hn.pt _) (hn.pt _) (hn.pt _)) ?_
 have inner:(decide (dZ (pt p k) (nx p k) (nxx p k)=0)&&decide (0<APM (pt p k) (nx p k) (nxx p k)))=false→ADX p k=(List.range p.length).all fun j=>decide (j<k+2)||RG p k j:=fun h=>by
  unfold ADX;rw[decide_eq_false h1,h];simp
 have tail:(decide (dZ (pt p k) (nx p k) (nxx p k)=0)&&decide (0<APM (pt p k) (nx p k) (nxx p k)))=false→_:=fun h=>ASR (Bad:=T.v (.bool false)=T.v (.bool (J4 p))) (Good:=X (IntKind.i64.wrap ((k:Int)+1),())) hl hn hlt (fun h2=>bad (by rw[inner h,h2])) (fun h2=>oW (by rw[inner h,h2]))
 refine cF (fun h2=>?_) fun h2=>tail (by rw[show decide (dZ (pt p k) (nx p k) (nxx p k)=0)=false from decide_eq_false h2];rfl)
 rw[A20 (hn.pt _) (hn.pt _) (hn.pt _)]
 refine cF (fun h3=>bad ?_) fun h3=>tail (by rw[show decide (0<APM (pt p k) (nx p k) (nxx p k))=false from decide_eq_false h3];simp)
 unfold ADX
 rw[decide_eq_true (show dZ (pt p k) (nx p k) (nxx p k)=0 from h2),decide_eq_true (show 0<APM (pt p k) (nx p k) (nxx p k) from h3)]
 simp
theorem WB {p:List Pt} (h:p.length≤1000) (h2:kO p):nT [T.sl false (List.map aA.enc p)]=some (Sh.enc [(false,.bool)] (J4 p)):=(WA ..).trans (AD2 _ h h2)
def AU:Nat→(Nat→Int)→Int
 | 0,_=>0
 | n+1,f=>AU n f+f n
def AJ8 (p:List Pt) (i:Nat):Int:=(pt p i).1*(nx p i).2-(nx p i).1*(pt p i).2
def M9 (p:List Pt):Int:=AU p.length (AJ8 p)
theorem AM6 {p:List Pt} (h:kO p) (i:Nat):(-1073741824≤(pt p i).1*(nx p i).2∧(pt p i).1*(nx p i).2≤1073741824)∧(-1073741824≤(nx p i).1*(pt p i).2∧(nx p i).1*(pt p i).2≤1073741824):=by
 have h1:=h.pt i
 have h2:dS (nx p i):=h.pt _
 unfold dS at h1 h2
 have b1:=DE (x:=(pt p i).1) (y:=(nx p i).2) (M:=32768) (N:=32768) (by omega) (by omega) (by omega) (by omega)
 have b2:=DE (x:=(nx p i).1) (y:=(pt p i).2) (M:=32768) (N:=32768) (by omega) (by omega) (by omega) (by omega)
 constructor<;>constructor<;>omega
theorem KU {p:List Pt} (h:kO p):∀ n:Nat,-(2147483648*(n:Int))≤AU n (AJ8 p)∧AU n (AJ8 p)≤2147483648*(n:Int)
 | 0=>by simp[AU]
 | n+1=>by
  have ih:=KU h n
  have hb:=AM6 h n
  unfold AU
  have e:AJ8 p n=(pt p n).1*(nx p n).2-(nx p n).1*(pt p n).2:=rfl
  constructor<;>push_cast<;>omega
def A31:FuncId→Hint:=bX 177 [(3,.inv [.val 3 false (.int .i64),.val 9 false (.int .i64)])] (fun _=>bI)
def U4(a0:List aO)(R:T→Prop):Prop:=aZ (Int×Int×PUnit) (fun X0 s1=>aD (decide (s1.2.1<(↑(f8 a0).length:Int))) (aP aA (f8 a0) s1.2.1 fun (y2:aO)=>bQ (!decide ((↑(f8 a0).length:Int)=0)) (aP aA (f8 a0) ((IntKind.i64.wrap (s1.2.1+1)).tmod (↑(f8 a0).length:Int)) fun (y3:aO)=>X0 (IntKind.i64.wrap (s1.1 + IntKind.i64.wrap (IntKind.i64.wrap (y2.1*y3.2)-IntKind.i64.wrap (y3.1*y2.2))), IntKind.i64.wrap (s1.2.1+1),()))) (R (T.v (.int .i64 s1.1)))) (0,0,())
abbrev XJ:Sh:=[(false,aA.li)]
def F5 (p:List aO):Option T:=TL p (T.v (Value.int .i64 (M9 p)))
noncomputable def pA:List T→Option T:=gS XJ F5
theorem AIB {a0}:pA [T.sl false (List.map aA.enc a0)]=F5 (a0):=bE (s:=XJ) rfl (a0) rfl
theorem A0Z:uH Tryz.prog 177 pA F5 (cC XJ) U4:=iW (a1:=(false,aA.li)) (sp:=F5) (F:=U4) (Hs:=A31) (f:=177) (k:=8) (bW _) aQ aS (aL rfl) ⟨_,_,Tryz.func177,rfl⟩ rfl fun _ _=>by kernel_rfl
theorem ABC:aN Tryz.prog 177 pA:=A0Z fun p r h hb=>by
 obtain ⟨hl,hn,rfl⟩:=AD1 h
 clear h
 unfold U4 f8
 refine bM p.length (fun k s=>s=(AU k (AJ8 p),(k:Int),())) rfl ?_
 rintro X k s hk rfl hX
 dsimp only
 refine cF (fun hlt=>?_) fun hge=>KH (by rw[List.length_map] at hge;rw[show k=p.length by omega];rfl)
 rw[List.length_map] at hlt
 have hlt:k<p.length:=by omega
 have hne:(!decide (((List.map aA.enc p).length:Int)=0))=true:=by rw[List.length_map,decide_eq_false (by omega)];rfl
 have hm1:(k+1) % p.length<p.length:=Nat.mod_lt _ (by omega)
 have i1:(IntKind.i64.wrap ((k:Int)+1)).tmod ((List.map aA.enc p).length:Int)=(((k+1) % p.length:Nat):Int):=by rw[List.length_map];exact vF (c:=1) hl (by omega) (by omega)
 rw[fO hlt,i1]
 refine ⟨hne,?_⟩
 rw[fO hm1]
 have hb1:=AM6 hn k
 have hb2:=KU hn k
 have hb3:=KU hn (k+1)
 refine hX _ hlt ?_
 rw[show IntKind.i64.wrap ((k:Int)+1)=((k+1:Nat):Int) from bH _ (by omega) (by omega)]
 have e:IntKind.i64.wrap (AU k (AJ8 p)+IntKind.i64.wrap (IntKind.i64.wrap ((pt p k).1*(nx p k).2)-IntKind.i64.wrap ((nx p k).1*(pt p k).2)))=AU (k+1) (AJ8 p):=by
  rw[bH ((pt p k).1*(nx p k).2) (by omega) (by omega),bH ((nx p k).1*(pt p k).2) (by omega) (by omega),bH ((pt p k).1*(nx p k).2-(nx p k).1*(pt p k).2) (by omega) (by omega),bH _ (by omega) (by omega)]
  rfl
 rw[←e];rfl
theorem OL {p:List Pt} (h:p.length≤1000) (h2:kO p):pA [T.sl false (List.map aA.enc p)]=some (Sh.enc [(false,.int .i64)] (M9 p)):=(AIB ..).trans (AD2 _ h h2)
def kS (p:List Pt):Int:=if p.length<3 then 3 else if 32<p.length then 4 else if OZ p=false then 9 else if J4 p=false∨M9 p=0 then 17 else 0
noncomputable def AN3:Env:=Env.of [(175,.pure CK),(176,.pure nT),(177,.pure pA)]
def AOY:FuncId→Hint:=bX 292 [(2,.inv [.val 8 false (.int .i64)])] (fun _=>bI)
theorem ZH:aT Tryz.prog AN3:=.cons ALV (.cons AHP (.cons ABC (.nil _)))
def M2(a0:List aO)(R:T→Prop):Prop:=aI d4 (nT (BF1 a0)) fun (y4:Bool)=>aD (!y4) (R (T.v (.int .i64 17))) (aI d7 (pA (BF1 a0)) fun (y5:Int)=>aD (decide (y5=0)) (R (T.v (.int .i64 17))) (BF2 R))
def GV(a0:List aO)(R:T→Prop):Prop:=aD (decide ((↑(f8 a0).length:Int)<3)) (R (T.v (.int .i64 3))) (aD (decide (32<(↑(f8 a0).length:Int))) (R (T.v (.int .i64 4))) (aZ (Int×PUnit) (fun X0 s1=>aD (decide (s1.1<(↑(f8 a0).length:Int))) (aP aA (f8 a0) s1.1 fun (y2:aO)=>aI d4 (CK [aF true aA y2]) fun (y3:Bool)=>aD y3 (aD (decide (0≤s1.1)) (t6 R) (M2 a0 R)) (f7 X0 s1)) (M2 a0 R)) (0,())))
abbrev IH:Sh:=[(false,aA.li)]
def vW (p:List aO):Option T:=some (T.v (Value.int .i64 (kS p)))
noncomputable def gQ:List T→Option T:=gS IH vW
theorem V9 {a0}:gQ [T.sl false (List.map aA.enc a0)]=vW (a0):=bE (s:=IH) rfl (a0) rfl
theorem AJB:uH Tryz.prog 146 gQ vW (cC IH) GV:=iW (a1:=(false,aA.li)) (sp:=vW) (F:=GV) (Hs:=AOY) (f:=146) (k:=8) ZH aQ aS (aL rfl) ⟨_,_,Tryz.func146,rfl⟩ rfl fun _ _=>by kernel_rfl
theorem CD:aN Tryz.prog 146 gQ:=AJB fun p r h hb=>by
 cases h
 have is:∀ {n:Int},kS p=n→T.v (.int .i64 n)=T.v (.int .i64 (kS p)):=fun h=>by rw[h]
 unfold GV M2 BF2 BF1 f8 f7 t6 d7 d4
 refine cF (fun h=>is (by rw[List.length_map] at h;unfold kS;rw[if_pos (by omega)])) fun h1=>?_
 refine cF (fun h=>is (by rw[List.length_map] at h h1;unfold kS;rw[if_neg (by omega),if_pos (by omega)])) fun h2=>?_
 rw[List.length_map] at h1 h2
 refine bM p.length (fun k s=>s=((k:Int),())∧∀ i,i<k→i<p.length→dS (pt p i)) ⟨rfl,fun i h=>by omega⟩ ?_
 rintro X k s hk ⟨rfl,hJ⟩ hX
 dsimp only
 refine cF (fun hlt=>?_) fun hge=>?_
 ·rw[List.length_map] at hlt
  have hlt:k<p.length:=by omega
  rw[fO hlt]
  refine aG (s:=[(false,.bool)]) (y:=!decide (dS (pt p k))) (SX ..) ?_
  refine mA (fun hf=>?_) fun hn=>hX _ hlt ⟨by rw[show IntKind.i64.wrap ((k:Int)+1)=((k+1:Nat):Int) from bH _ (by omega) (by omega)],fun i h1 h2=>by
   rcases Nat.lt_or_ge i k with h3|h3
   ·exact hJ i h3 h2
   ·have:i=k:=by omega
    subst this;exact hn⟩
  refine cF (fun _=>is ?_) fun h=>by omega
  have:OZ p=false:=by
   rw[Bool.eq_false_iff];intro h
   have:=nW.1 h _ (List.getElem_mem hlt)
   rw[←W3 hlt] at this
   exact hf this
  unfold kS;rw[if_neg (by omega),if_neg (by omega),if_pos this]
 ·have hN:kO p:=fun q hq=>by
   obtain ⟨i,hi,rfl⟩:=List.mem_iff_getElem.1 hq
   rw[←W3 hi]
   rw[List.length_map] at hge
   exact hJ i (by omega) hi
  have hnb:¬ OZ p=false:=by rw[nW.2 hN];simp
  refine aG (s:=[(false,.bool)]) (WB (by omega) hN) ?_
  refine jS (fun h=>is (by unfold kS;rw[if_neg (by omega),if_neg (by omega),if_neg hnb,if_pos (.inl h)])) fun hs=>?_
  refine aG (s:=[(false,.int .i64)]) (OL (by omega) hN) ?_
  refine cF (fun h=>is (by unfold kS;rw[if_neg (by omega),if_neg (by omega),if_neg hnb,if_pos (.inr h)])) fun ha=>is ?_
  unfold kS
  rw[if_neg (by omega),if_neg (by omega),if_neg hnb,if_neg]
  rintro (h|h)
  ·rw[show J4 p=true from hs] at h;cases h
  ·exact ha h
theorem pB (p:List Pt):gQ [T.sl false (List.map aA.enc p)]=some (Sh.enc [(false,.int .i64)] (kS p)):=V9 ..
theorem tX {p:List Pt} (h:kS p=0):3≤p.length∧p.length≤32∧kO p∧J4 p=true∧M9 p≠0:=by
 unfold kS at h
 by_cases h1:p.length<3
 ·rw[if_pos h1] at h;cases h
 rw[if_neg h1] at h
 by_cases h2:32<p.length
 ·rw[if_pos h2] at h;cases h
 rw[if_neg h2] at h
 by_cases h3:OZ p=false
 ·rw[if_pos h3] at h;cases h
 rw[if_neg h3] at h
 by_cases h4:J4 p=false∨M9 p=0
 ·rw[if_pos h4] at h;cases h
 refine ⟨by omega,by omega,nW.1 (by simpa using h3),by simpa using fun e=>h4 (.inl e),fun e=>h4 (.inr e)⟩
def rJ (p:List Pt):Int:=if kS p=0 then M9 p else 0
noncomputable def ATH:Env:=Env.of [(146,.pure gQ),(177,.pure pA)]
theorem AFN:aT Tryz.prog ATH:=.cons CD (.cons ABC (.nil _))
def ME(a0:List aO)(R:T→Prop):Prop:=aI d7 (gQ (BF1 a0)) fun (y0:Int)=>aD (!decide (y0=0)) (BF2 R) (aI d7 (pA (BF1 a0)) fun (y1:Int)=>R (T.v (.int .i64 y1)))
abbrev PT:Sh:=[(false,aA.li)]
def AB (p:List aO):Option T:=some (T.v (Value.int .i64 (rJ p)))
noncomputable def mT:List T→Option T:=gS PT AB
theorem ACA {a0}:mT [T.sl false (List.map aA.enc a0)]=AB (a0):=bE (s:=PT) rfl (a0) rfl
theorem ARW:uH Tryz.prog 147 mT AB (cC PT) ME:=iW (a1:=(false,aA.li)) (sp:=AB) (F:=ME) (Hs:=dI) (f:=147) (k:=8) AFN aQ aS (aL rfl) ⟨_,_,Tryz.func147,rfl⟩ rfl fun _ _=>by kernel_rfl
theorem SI:aN Tryz.prog 147 mT:=ARW fun p r h hb=>by
 cases h
 unfold ME BF2 BF1 f8 d7
 refine aG (s:=[(false,.int .i64)]) (pB p) ?_
 refine mA (fun h=>KH (by unfold rJ;rw[if_neg h])) fun h=>?_
 obtain ⟨_,h2,h3,_⟩:=tX h
 refine aG (s:=[(false,.int .i64)]) (OL (by omega) h3) ?_
 exact KH (by unfold rJ;rw[if_pos h])
theorem xR (p:List Pt):mT [T.sl false (List.map aA.enc p)]=some (Sh.enc [(false,.int .i64)] (rJ p)):=ACA ..
end Go.Pv
