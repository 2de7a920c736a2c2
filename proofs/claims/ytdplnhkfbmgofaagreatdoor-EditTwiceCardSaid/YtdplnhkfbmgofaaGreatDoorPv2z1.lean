/-
  Facts on the program that every function's file asks for.
  slices.Clone, Insert, Delete at the design's lists.
  The seam, the part, the section with an identifier.
  The part with an identifier, as the program finds it; how thick a seam is.
  Words that several files share.
  The way from the block down to a part.
  Packages; equality of lists, shapes, parts and packages.
  StructureFinds: Part, Node, Seam and Package answer as the reference does.
  StructureSames: Same answers as the reference does.
  edit.same; copies of parts, packages, designs.
  Chapter 17: the indices of a design, walked.
  Chapter 17: rising, walked.
  strings.Split on typed data.
  Names and identifiers.
  Chapter 17: the tree's form, walked.
  Chapter 17: the tree's other methods where a design's elements are empty, and Check there.
  Chapter 17: the tree's seams and requirements.
  dag.Order, walked.
  Chapter 17: the tree's parts and packages, walked; Check, walked.
  Plane geometry, plain.
  poly: crosses and edges.
  poly: simple contours and their areas.
-/
import Derived.Test.YtdplnhkfbmgofaaGreatDoorPv2ki
import Derived.Test.YtdplnhkfbmgofaaGreatDoorPv2ty
import Derived.Test.YtdplnhkfbmgofaaGreatDoorProg
import Derived.KernelRfl
import Derived.Test.YtdplnhkfbmgofaaGreatDoorPv2in
import Derived.Test.YtdplnhkfbmgofaaGreatDoorPv2kj
import Derived.Test.YtdplnhkfbmgofaaGreatDoorPv2kn
import Derived.Test.YtdplnhkfbmgofaaGreatDoorPv2gs
import Derived.Test.YtdplnhkfbmgofaaGreatDoorPv2sl
import Derived.Laws.RangeAny
import Derived.Test.YtdplnhkfbmgofaaGreatDoorPv2km
set_option linter.defProp false
set_option linter.unusedSimpArgs false
set_option linter.unusedVariables false
namespace Go.Pv
open Go Go.Proofs
theorem aT:Tryz.prog.follows .mixedOrders=true:=by kernel_rfl
theorem aW:cM Tryz.prog=true:=by kernel_rfl
end Go.Pv
set_option maxRecDepth 100000
namespace Go.Pv
open Go Go.Proofs
theorem nQ {P:Program} {t:TypeId} {zv:Value} {z b:Nat} (h:(P.info? t).map (fun i=>(i.zero,i.size,i.bytes))=some (some zv,z,b)):∃ i,P.info? t=some i∧i.zero=some zv∧i.size=z∧i.bytes=b:=by
 simp only[Option.map_eq_some_iff,Prod.mk.injEq] at h
 obtain ⟨i,h1,h2,h3,h4⟩:=h
 exact ⟨i,h1,h2,h3,h4⟩
def T2:Value:=.agg #[.string ⟨#[]⟩,.int .i64 0,.string ⟨#[]⟩]
def T1:Value:=.agg #[.int .i64 0,.string ⟨#[]⟩,.string ⟨#[]⟩]
def T4:Value:=.agg #[.string ⟨#[]⟩,.string ⟨#[]⟩,.string ⟨#[]⟩,.int .i64 0,.int .i64 0,.int .i64 0]
def xZ:Value:=.agg #[.string ⟨#[]⟩,.string ⟨#[]⟩,.slice none 0 0,.int .i64 0,.slice none 0 0]
def T3:Value:=.agg #[.string ⟨#[]⟩,.int .i64 0,.int .i64 0,.string ⟨#[]⟩,.string ⟨#[]⟩,.int .i64 0,.slice none 0 0,.slice none 0 0,.string ⟨#[]⟩,.int .i64 0,.int .i64 0,.int .i64 0,.int .i64 0,.int .i64 0,.int .i64 0,.int .i64 0,.int .i64 0,.int .i64 0]
def AVM:Go.Shelf.Ren:=⟨fun|22=>275|29=>328|30=>329|n=>n,fun|9=>23|24=>48|n=>n,fun|n=>n⟩
theorem ATS:M4 Tryz.prog AVM 3 40 T2:={
 mixed:=aT
 f22:=Exists.intro ("slices.Insert[[]shipyard/api.Node,shipyard/api.Node]") ⟨by decide,Tryz.func275.trans (congrArg some (by kernel_rfl))⟩
 ov:=fun args w=>run_callFunc_extern (P:=Tryz.prog) (f:=328) (e:=Extern.SlicesOverlaps.overlaps #[48,48] #[4]) Tryz.func328 (by kernel_rfl) (by kernel_rfl) (by kernel_rfl) (by kernel_rfl) args w
 t0:=by kernel_rfl
 a0:=fun _=>by kernel_rfl
 z0:=fun _=>by kernel_rfl
 v0:=fun _=>by kernel_rfl
 t3:=by kernel_rfl
 a3:=fun _=>by kernel_rfl
 z3:=fun _=>by kernel_rfl
 v3:=fun _=>by kernel_rfl
 t4:=by kernel_rfl
 a4:=fun _=>by kernel_rfl
 z4:=fun _=>by kernel_rfl
 v4:=fun _=>by kernel_rfl
 z9:=fun _=>by kernel_rfl
 t24:=by kernel_rfl
 a24:=fun _=>by kernel_rfl
 z24:=fun _=>by kernel_rfl
 v24:=fun _=>by kernel_rfl
 i9:=nQ (by kernel_rfl) }
def rS:List (List T)→List T→Option (List (List T)):=RU 3 40
theorem ACH:cW Tryz.prog 275 (lA 3 rS) :=
 mX ATS (by decide) rfl (by decide) ⟨_,Tryz.func275,rfl,rfl⟩
def AVI:Go.Shelf.Ren:=⟨fun|45=>276|n=>n,fun|23=>23|22=>48|n=>n,fun|n=>n⟩
theorem ARF:ZP Tryz.prog AVI 3 T2:={
 mixed:=aT
 f45:=Exists.intro ("slices.Delete[[]shipyard/api.Node,shipyard/api.Node]") ⟨by decide,Tryz.func276.trans (congrArg some (by kernel_rfl))⟩
 t0:=by kernel_rfl
 a0:=fun _=>by kernel_rfl
 z0:=fun _=>by kernel_rfl
 v0:=fun _=>by kernel_rfl
 t3:=by kernel_rfl
 a3:=fun _=>by kernel_rfl
 z3:=fun _=>by kernel_rfl
 v3:=fun _=>by kernel_rfl
 t4:=by kernel_rfl
 a4:=fun _=>by kernel_rfl
 z4:=fun _=>by kernel_rfl
 v4:=fun _=>by kernel_rfl
 t22:=by kernel_rfl
 a22:=fun _=>by kernel_rfl
 z22:=fun _=>by kernel_rfl
 v22:=fun _=>by kernel_rfl
 z23:=fun _=>by kernel_rfl
 v23:=fun _=>by kernel_rfl
 i23:=by
  obtain ⟨i,h1,_,h2,_⟩:=nQ (P:=Tryz.prog) (t:=23) (zv:=T2) (z:=3) (b:=40) (by kernel_rfl)
  exact ⟨i,h1,h2⟩ }
def DV:List (List T)→List T→Option (List (List T)):=RT 3
theorem ACE:cW Tryz.prog 276 (lA 3 DV) :=
 mW ARF rfl (by decide) ⟨_,Tryz.func276,rfl,rfl⟩
def Y1:Go.Shelf.Ren:=⟨fun|41=>77|n=>n,fun|23=>23|22=>48|n=>n,fun|n=>n⟩
theorem AQ3:SlLaysE0.n41 Tryz.prog Y1:={
 mixed:=aT
 f41:=Exists.intro ("slices.Clone[[]shipyard/api.Node,shipyard/api.Node]") ⟨by decide,Tryz.func77.trans (congrArg some (by kernel_rfl))⟩
 t4:=by kernel_rfl
 a4:=fun _=>by kernel_rfl
 z4:=fun _=>by kernel_rfl
 v4:=fun _=>by kernel_rfl
 t22:=by kernel_rfl
 a22:=fun _=>by kernel_rfl
 z22:=fun _=>by kernel_rfl
 v22:=fun _=>by kernel_rfl }
theorem AK0:∃ i0,(Tryz.prog).info? (Y1.t 23)=some i0∧i0.zero=some T2∧i0.size=3∧i0.bytes=40:=nQ (by kernel_rfl)
theorem zK:cW Tryz.prog 77 (zP 3 40) :=
 oF AQ3 AK0 (fun _=>by kernel_rfl) (by decide) rfl (by decide) ⟨_,Tryz.func77,rfl,rfl⟩
def AVL:Go.Shelf.Ren:=⟨fun|22=>293|29=>336|30=>337|n=>n,fun|9=>40|24=>52|n=>n,fun|n=>n⟩
theorem ATR:M4 Tryz.prog AVL 3 40 T1:={
 mixed:=aT
 f22:=Exists.intro ("slices.Insert[[]shipyard/api.Need,shipyard/api.Need]") ⟨by decide,Tryz.func293.trans (congrArg some (by kernel_rfl))⟩
 ov:=fun args w=>run_callFunc_extern (P:=Tryz.prog) (f:=336) (e:=Extern.SlicesOverlaps.overlaps #[52,52] #[4]) Tryz.func336 (by kernel_rfl) (by kernel_rfl) (by kernel_rfl) (by kernel_rfl) args w
 t0:=by kernel_rfl
 a0:=fun _=>by kernel_rfl
 z0:=fun _=>by kernel_rfl
 v0:=fun _=>by kernel_rfl
 t3:=by kernel_rfl
 a3:=fun _=>by kernel_rfl
 z3:=fun _=>by kernel_rfl
 v3:=fun _=>by kernel_rfl
 t4:=by kernel_rfl
 a4:=fun _=>by kernel_rfl
 z4:=fun _=>by kernel_rfl
 v4:=fun _=>by kernel_rfl
 z9:=fun _=>by kernel_rfl
 t24:=by kernel_rfl
 a24:=fun _=>by kernel_rfl
 z24:=fun _=>by kernel_rfl
 v24:=fun _=>by kernel_rfl
 i9:=nQ (by kernel_rfl) }
def jG:List (List T)→List T→Option (List (List T)):=RU 3 40
theorem KE:cW Tryz.prog 293 (lA 3 jG) :=
 mX ATR (by decide) rfl (by decide) ⟨_,Tryz.func293,rfl,rfl⟩
def AVH:Go.Shelf.Ren:=⟨fun|45=>294|n=>n,fun|23=>40|22=>52|n=>n,fun|n=>n⟩
theorem ARE:ZP Tryz.prog AVH 3 T1:={
 mixed:=aT
 f45:=Exists.intro ("slices.Delete[[]shipyard/api.Need,shipyard/api.Need]") ⟨by decide,Tryz.func294.trans (congrArg some (by kernel_rfl))⟩
 t0:=by kernel_rfl
 a0:=fun _=>by kernel_rfl
 z0:=fun _=>by kernel_rfl
 v0:=fun _=>by kernel_rfl
 t3:=by kernel_rfl
 a3:=fun _=>by kernel_rfl
 z3:=fun _=>by kernel_rfl
 v3:=fun _=>by kernel_rfl
 t4:=by kernel_rfl
 a4:=fun _=>by kernel_rfl
 z4:=fun _=>by kernel_rfl
 v4:=fun _=>by kernel_rfl
 t22:=by kernel_rfl
 a22:=fun _=>by kernel_rfl
 z22:=fun _=>by kernel_rfl
 v22:=fun _=>by kernel_rfl
 z23:=fun _=>by kernel_rfl
 v23:=fun _=>by kernel_rfl
 i23:=by
  obtain ⟨i,h1,_,h2,_⟩:=nQ (P:=Tryz.prog) (t:=40) (zv:=T1) (z:=3) (b:=40) (by kernel_rfl)
  exact ⟨i,h1,h2⟩ }
def wW:List (List T)→List T→Option (List (List T)):=RT 3
theorem KC:cW Tryz.prog 294 (lA 3 wW) :=
 mW ARE rfl (by decide) ⟨_,Tryz.func294,rfl,rfl⟩
def Y0:Go.Shelf.Ren:=⟨fun|41=>79|n=>n,fun|23=>40|22=>52|n=>n,fun|n=>n⟩
theorem AQ2:SlLaysE0.n41 Tryz.prog Y0:={
 mixed:=aT
 f41:=Exists.intro ("slices.Clone[[]shipyard/api.Need,shipyard/api.Need]") ⟨by decide,Tryz.func79.trans (congrArg some (by kernel_rfl))⟩
 t4:=by kernel_rfl
 a4:=fun _=>by kernel_rfl
 z4:=fun _=>by kernel_rfl
 v4:=fun _=>by kernel_rfl
 t22:=by kernel_rfl
 a22:=fun _=>by kernel_rfl
 z22:=fun _=>by kernel_rfl
 v22:=fun _=>by kernel_rfl }
theorem AKZ:∃ i0,(Tryz.prog).info? (Y0.t 23)=some i0∧i0.zero=some T1∧i0.size=3∧i0.bytes=40:=nQ (by kernel_rfl)
theorem zJ:cW Tryz.prog 79 (zP 3 40) :=
 oF AQ2 AKZ (fun _=>by kernel_rfl) (by decide) rfl (by decide) ⟨_,Tryz.func79,rfl,rfl⟩
def AVO:Go.Shelf.Ren:=⟨fun|22=>283|29=>332|30=>333|n=>n,fun|9=>35|24=>50|n=>n,fun|n=>n⟩
theorem ATU:M4 Tryz.prog AVO 6 72 T4:={
 mixed:=aT
 f22:=Exists.intro ("slices.Insert[[]shipyard/api.Seam,shipyard/api.Seam]") ⟨by decide,Tryz.func283.trans (congrArg some (by kernel_rfl))⟩
 ov:=fun args w=>run_callFunc_extern (P:=Tryz.prog) (f:=332) (e:=Extern.SlicesOverlaps.overlaps #[50,50] #[4]) Tryz.func332 (by kernel_rfl) (by kernel_rfl) (by kernel_rfl) (by kernel_rfl) args w
 t0:=by kernel_rfl
 a0:=fun _=>by kernel_rfl
 z0:=fun _=>by kernel_rfl
 v0:=fun _=>by kernel_rfl
 t3:=by kernel_rfl
 a3:=fun _=>by kernel_rfl
 z3:=fun _=>by kernel_rfl
 v3:=fun _=>by kernel_rfl
 t4:=by kernel_rfl
 a4:=fun _=>by kernel_rfl
 z4:=fun _=>by kernel_rfl
 v4:=fun _=>by kernel_rfl
 z9:=fun _=>by kernel_rfl
 t24:=by kernel_rfl
 a24:=fun _=>by kernel_rfl
 z24:=fun _=>by kernel_rfl
 v24:=fun _=>by kernel_rfl
 i9:=nQ (by kernel_rfl) }
def rU:List (List T)→List T→Option (List (List T)):=RU 6 72
theorem ACJ:cW Tryz.prog 283 (lA 6 rU) :=
 mX ATU (by decide) rfl (by decide) ⟨_,Tryz.func283,rfl,rfl⟩
def AVK:Go.Shelf.Ren:=⟨fun|45=>284|n=>n,fun|23=>35|22=>50|n=>n,fun|n=>n⟩
theorem ARH:ZP Tryz.prog AVK 6 T4:={
 mixed:=aT
 f45:=Exists.intro ("slices.Delete[[]shipyard/api.Seam,shipyard/api.Seam]") ⟨by decide,Tryz.func284.trans (congrArg some (by kernel_rfl))⟩
 t0:=by kernel_rfl
 a0:=fun _=>by kernel_rfl
 z0:=fun _=>by kernel_rfl
 v0:=fun _=>by kernel_rfl
 t3:=by kernel_rfl
 a3:=fun _=>by kernel_rfl
 z3:=fun _=>by kernel_rfl
 v3:=fun _=>by kernel_rfl
 t4:=by kernel_rfl
 a4:=fun _=>by kernel_rfl
 z4:=fun _=>by kernel_rfl
 v4:=fun _=>by kernel_rfl
 t22:=by kernel_rfl
 a22:=fun _=>by kernel_rfl
 z22:=fun _=>by kernel_rfl
 v22:=fun _=>by kernel_rfl
 z23:=fun _=>by kernel_rfl
 v23:=fun _=>by kernel_rfl
 i23:=by
  obtain ⟨i,h1,_,h2,_⟩:=nQ (P:=Tryz.prog) (t:=35) (zv:=T4) (z:=6) (b:=72) (by kernel_rfl)
  exact ⟨i,h1,h2⟩ }
def DX:List (List T)→List T→Option (List (List T)):=RT 6
theorem ACG:cW Tryz.prog 284 (lA 6 DX) :=
 mW ARH rfl (by decide) ⟨_,Tryz.func284,rfl,rfl⟩
def Y3:Go.Shelf.Ren:=⟨fun|41=>78|n=>n,fun|23=>35|22=>50|n=>n,fun|n=>n⟩
theorem AQ5:SlLaysE0.n41 Tryz.prog Y3:={
 mixed:=aT
 f41:=Exists.intro ("slices.Clone[[]shipyard/api.Seam,shipyard/api.Seam]") ⟨by decide,Tryz.func78.trans (congrArg some (by kernel_rfl))⟩
 t4:=by kernel_rfl
 a4:=fun _=>by kernel_rfl
 z4:=fun _=>by kernel_rfl
 v4:=fun _=>by kernel_rfl
 t22:=by kernel_rfl
 a22:=fun _=>by kernel_rfl
 z22:=fun _=>by kernel_rfl
 v22:=fun _=>by kernel_rfl }
theorem AK2:∃ i0,(Tryz.prog).info? (Y3.t 23)=some i0∧i0.zero=some T4∧i0.size=6∧i0.bytes=72:=nQ (by kernel_rfl)
theorem zM:cW Tryz.prog 78 (zP 6 72) :=
 oF AQ5 AK2 (fun _=>by kernel_rfl) (by decide) rfl (by decide) ⟨_,Tryz.func78,rfl,rfl⟩
def Y5:Go.Shelf.Ren:=⟨fun|22=>287|29=>334|30=>335|n=>n,fun|9=>38|24=>51|n=>n,fun|n=>n⟩
theorem XM:M4 Tryz.prog Y5 5 88 xZ:={
 mixed:=aT
 f22:=Exists.intro ("slices.Insert[[]shipyard/api.Package,shipyard/api.Package]") ⟨by decide,Tryz.func287.trans (congrArg some (by kernel_rfl))⟩
 ov:=fun args w=>run_callFunc_extern (P:=Tryz.prog) (f:=334) (e:=Extern.SlicesOverlaps.overlaps #[51,51] #[4]) Tryz.func334 (by kernel_rfl) (by kernel_rfl) (by kernel_rfl) (by kernel_rfl) args w
 t0:=by kernel_rfl
 a0:=fun _=>by kernel_rfl
 z0:=fun _=>by kernel_rfl
 v0:=fun _=>by kernel_rfl
 t3:=by kernel_rfl
 a3:=fun _=>by kernel_rfl
 z3:=fun _=>by kernel_rfl
 v3:=fun _=>by kernel_rfl
 t4:=by kernel_rfl
 a4:=fun _=>by kernel_rfl
 z4:=fun _=>by kernel_rfl
 v4:=fun _=>by kernel_rfl
 z9:=fun _=>by kernel_rfl
 t24:=by kernel_rfl
 a24:=fun _=>by kernel_rfl
 z24:=fun _=>by kernel_rfl
 v24:=fun _=>by kernel_rfl
 i9:=nQ (by kernel_rfl) }
def lD:List (List T)→List T→Option (List (List T)):=RU 5 88
theorem M9:cW Tryz.prog 287 (lA 5 lD) :=
 mX XM (by decide) rfl (by decide) ⟨_,Tryz.func287,rfl,rfl⟩
def Y4:Go.Shelf.Ren:=⟨fun|45=>285|n=>n,fun|23=>38|22=>51|n=>n,fun|n=>n⟩
theorem VS:ZP Tryz.prog Y4 5 xZ:={
 mixed:=aT
 f45:=Exists.intro ("slices.Delete[[]shipyard/api.Package,shipyard/api.Package]") ⟨by decide,Tryz.func285.trans (congrArg some (by kernel_rfl))⟩
 t0:=by kernel_rfl
 a0:=fun _=>by kernel_rfl
 z0:=fun _=>by kernel_rfl
 v0:=fun _=>by kernel_rfl
 t3:=by kernel_rfl
 a3:=fun _=>by kernel_rfl
 z3:=fun _=>by kernel_rfl
 v3:=fun _=>by kernel_rfl
 t4:=by kernel_rfl
 a4:=fun _=>by kernel_rfl
 z4:=fun _=>by kernel_rfl
 v4:=fun _=>by kernel_rfl
 t22:=by kernel_rfl
 a22:=fun _=>by kernel_rfl
 z22:=fun _=>by kernel_rfl
 v22:=fun _=>by kernel_rfl
 z23:=fun _=>by kernel_rfl
 v23:=fun _=>by kernel_rfl
 i23:=by
  obtain ⟨i,h1,_,h2,_⟩:=nQ (P:=Tryz.prog) (t:=38) (zv:=xZ) (z:=5) (b:=88) (by kernel_rfl)
  exact ⟨i,h1,h2⟩ }
def lB:List (List T)→List T→Option (List (List T)):=RT 5
theorem yG:cW Tryz.prog 285 (lA 5 lB) :=
 mW VS rfl (by decide) ⟨_,Tryz.func285,rfl,rfl⟩
def GF:Go.Shelf.Ren:=⟨fun|41=>81|n=>n,fun|23=>38|22=>51|n=>n,fun|n=>n⟩
theorem VO:SlLaysE0.n41 Tryz.prog GF:={
 mixed:=aT
 f41:=Exists.intro ("slices.Clone[[]shipyard/api.Package,shipyard/api.Package]") ⟨by decide,Tryz.func81.trans (congrArg some (by kernel_rfl))⟩
 t4:=by kernel_rfl
 a4:=fun _=>by kernel_rfl
 z4:=fun _=>by kernel_rfl
 v4:=fun _=>by kernel_rfl
 t22:=by kernel_rfl
 a22:=fun _=>by kernel_rfl
 z22:=fun _=>by kernel_rfl
 v22:=fun _=>by kernel_rfl }
theorem SA:∃ i0,(Tryz.prog).info? (GF.t 23)=some i0∧i0.zero=some xZ∧i0.size=5∧i0.bytes=88:=nQ (by kernel_rfl)
theorem mM:cW Tryz.prog 81 (zP 5 88) :=
 oF VO SA (fun _=>by kernel_rfl) (by decide) rfl (by decide) ⟨_,Tryz.func81,rfl,rfl⟩
def AVN:Go.Shelf.Ren:=⟨fun|22=>280|29=>330|30=>331|n=>n,fun|9=>33|24=>49|n=>n,fun|n=>n⟩
theorem ATT:M4 Tryz.prog AVN 18 208 T3:={
 mixed:=aT
 f22:=Exists.intro ("slices.Insert[[]shipyard/api.Part,shipyard/api.Part]") ⟨by decide,Tryz.func280.trans (congrArg some (by kernel_rfl))⟩
 ov:=fun args w=>run_callFunc_extern (P:=Tryz.prog) (f:=330) (e:=Extern.SlicesOverlaps.overlaps #[49,49] #[4]) Tryz.func330 (by kernel_rfl) (by kernel_rfl) (by kernel_rfl) (by kernel_rfl) args w
 t0:=by kernel_rfl
 a0:=fun _=>by kernel_rfl
 z0:=fun _=>by kernel_rfl
 v0:=fun _=>by kernel_rfl
 t3:=by kernel_rfl
 a3:=fun _=>by kernel_rfl
 z3:=fun _=>by kernel_rfl
 v3:=fun _=>by kernel_rfl
 t4:=by kernel_rfl
 a4:=fun _=>by kernel_rfl
 z4:=fun _=>by kernel_rfl
 v4:=fun _=>by kernel_rfl
 z9:=fun _=>by kernel_rfl
 t24:=by kernel_rfl
 a24:=fun _=>by kernel_rfl
 z24:=fun _=>by kernel_rfl
 v24:=fun _=>by kernel_rfl
 i9:=nQ (by kernel_rfl) }
def rT:List (List T)→List T→Option (List (List T)):=RU 18 208
theorem ACI:cW Tryz.prog 280 (lA 18 rT) :=
 mX ATT (by decide) rfl (by decide) ⟨_,Tryz.func280,rfl,rfl⟩
def AVJ:Go.Shelf.Ren:=⟨fun|45=>281|n=>n,fun|23=>33|22=>49|n=>n,fun|n=>n⟩
theorem ARG:ZP Tryz.prog AVJ 18 T3:={
 mixed:=aT
 f45:=Exists.intro ("slices.Delete[[]shipyard/api.Part,shipyard/api.Part]") ⟨by decide,Tryz.func281.trans (congrArg some (by kernel_rfl))⟩
 t0:=by kernel_rfl
 a0:=fun _=>by kernel_rfl
 z0:=fun _=>by kernel_rfl
 v0:=fun _=>by kernel_rfl
 t3:=by kernel_rfl
 a3:=fun _=>by kernel_rfl
 z3:=fun _=>by kernel_rfl
 v3:=fun _=>by kernel_rfl
 t4:=by kernel_rfl
 a4:=fun _=>by kernel_rfl
 z4:=fun _=>by kernel_rfl
 v4:=fun _=>by kernel_rfl
 t22:=by kernel_rfl
 a22:=fun _=>by kernel_rfl
 z22:=fun _=>by kernel_rfl
 v22:=fun _=>by kernel_rfl
 z23:=fun _=>by kernel_rfl
 v23:=fun _=>by kernel_rfl
 i23:=by
  obtain ⟨i,h1,_,h2,_⟩:=nQ (P:=Tryz.prog) (t:=33) (zv:=T3) (z:=18) (b:=208) (by kernel_rfl)
  exact ⟨i,h1,h2⟩ }
def DW:List (List T)→List T→Option (List (List T)):=RT 18
theorem ACF:cW Tryz.prog 281 (lA 18 DW) :=
 mW ARG rfl (by decide) ⟨_,Tryz.func281,rfl,rfl⟩
def Y2:Go.Shelf.Ren:=⟨fun|41=>80|n=>n,fun|23=>33|22=>49|n=>n,fun|n=>n⟩
theorem AQ4:SlLaysE0.n41 Tryz.prog Y2:={
 mixed:=aT
 f41:=Exists.intro ("slices.Clone[[]shipyard/api.Part,shipyard/api.Part]") ⟨by decide,Tryz.func80.trans (congrArg some (by kernel_rfl))⟩
 t4:=by kernel_rfl
 a4:=fun _=>by kernel_rfl
 z4:=fun _=>by kernel_rfl
 v4:=fun _=>by kernel_rfl
 t22:=by kernel_rfl
 a22:=fun _=>by kernel_rfl
 z22:=fun _=>by kernel_rfl
 v22:=fun _=>by kernel_rfl }
theorem AK1:∃ i0,(Tryz.prog).info? (Y2.t 23)=some i0∧i0.zero=some T3∧i0.size=18∧i0.bytes=208:=nQ (by kernel_rfl)
theorem zL:cW Tryz.prog 80 (zP 18 208) :=
 oF AQ4 AK1 (fun _=>by kernel_rfl) (by decide) rfl (by decide) ⟨_,Tryz.func80,rfl,rfl⟩
def A9P:Value:=.slice none 0 0
def AG0:Go.Shelf.Ren:=⟨fun|41=>76|n=>n,fun|23=>24|22=>25|n=>n,fun|n=>n⟩
theorem AY7:SlLaysE0.n41 Tryz.prog AG0:={
 mixed:=aT
 f41:=Exists.intro ("slices.Clone[[][]shipyard/api.Point,[]shipyard/api.Point]") ⟨by decide,Tryz.func76.trans (congrArg some (by kernel_rfl))⟩
 t4:=by kernel_rfl
 a4:=fun _=>by kernel_rfl
 z4:=fun _=>by kernel_rfl
 v4:=fun _=>by kernel_rfl
 t22:=by kernel_rfl
 a22:=fun _=>by kernel_rfl
 z22:=fun _=>by kernel_rfl
 v22:=fun _=>by kernel_rfl }
theorem ATP:∃ i0,(Tryz.prog).info? (AG0.t 23)=some i0∧i0.zero=some A9P∧i0.size=1∧i0.bytes=24:=nQ (by kernel_rfl)
theorem AJ2:cW Tryz.prog 76 (zP 1 24) :=
 oF AY7 ATP (fun _=>by kernel_rfl) (by decide) rfl (by decide) ⟨_,Tryz.func76,rfl,rfl⟩
end Go.Pv
namespace Go.Pv
open Go Go.Proofs
def wH (d:aC) (id:ByteArray):Option bK:=d.2.2.2.1.find? fun s=>decide (s.1=id)
def partOf (d:aC) (id:ByteArray):Option aY:=d.2.2.1.find? fun s=>decide (s.1=id)
def fW (d:aC) (id:ByteArray):Option bI:=d.2.1.find? fun s=>decide (s.1=id)
def MN (m:aI) (n:ByteArray):Option cD:=m.2.find? fun s=>decide (s.1=n)
def gZ:bK:=(⟨#[]⟩,⟨#[]⟩,⟨#[]⟩,0,0,0)
def gY:bI:=(⟨#[]⟩,0,⟨#[]⟩)
def fV:aY:=(⟨#[]⟩,0,0,⟨#[]⟩,⟨#[]⟩,0,([],[]),⟨#[]⟩,0,0,(0,0,0),(0,0,0),0)
def uB:cD:=(⟨#[]⟩,0,0,0)
def found {α:Type} (no:α) (o:Option α):α×Bool:=match o with
 | some s=>(s,true)
 | none=>(no,false)
def qQ (x:aC×ByteArray):Option T:=some (Sh.enc [(true,a7),(false,.bool)] (found gZ (wH x.1 x.2)))
def TL (x:aC×ByteArray):Option T:=some (Sh.enc [(true,aO),(false,.bool)] (found fV (partOf x.1 x.2)))
def qO (x:aC×ByteArray):Option T:=some (Sh.enc [(true,aZ),(false,.bool)] (found gY (fW x.1 x.2)))
def mF (x:aI×ByteArray):Option T:=some (Sh.enc [(true,bM),(false,.bool)] (found uB (MN x.1 x.2)))
noncomputable def A2S:Env:=Env.of []
def A26:FuncId→Hint:=bV 170 [(2,.inv [.val 11 false (.int .i64),.fix 1])] (fun _=>aX)
theorem AOF:aR Tryz.prog A2S:=.nil _
def bF:Sy:=Sy.int IntKind.i64
def d3:T:=T.v (.bool false)
def d4:T:=T.v (.int .i64 0)
def d5:T:=T.v (.string {data:=#[]})
def d6:Sh:=[(false,Sy.bool)]
def d7:T:=T.v (.int .i64 9)
def d8:Sh:=[(false,Sy.int IntKind.i64)]
def d9:T:=T.v (.bool true)
def eI:T:=T.v (.int .i64 8)
def f0:T:=T.v (Value.slice none 0 0)
def f5:T:=T.v (.int .i64 6)
def f6:T:=T.v (.int .i64 2)
def f7:T:=T.v (.int .i64 10)
def f8:List T:=[T.agg [T.v (.string {data:=#[]}),T.v (.int .i64 0), T.v (.int .i64 0),T.v (.int .i64 0)], T.v (.bool false)]
def f9:T:=T.v (.int .i64 4)
def g9:Sh:=[(false,Sy.str.li)]
def i6:T:=T.v (.int .i64 17)
def i7:Sh:=[(false,aA.li)]
def ABE(a0:aC)(a1:ByteArray)(R:T→Prop):Prop:=fG (bE.rows false [[D.p d5,D.p d5, D.p d5,D.p d4, D.p d4,D.p d4]]) (bE.rows false [[D.p d5,D.p d5, D.p d5,D.p d4, D.p d4,D.p d4]]) (a6 (Int×PUnit×PUnit) (fun X0 s1=>aB (decide (s1.1<(↑(List.map a7.enc a0.2.2.2.1).length:Int))) (aS a7 (List.map a7.enc a0.2.2.2.1) s1.1 fun (y2:bK)=>aB (decide (y2.1=a1)) (R (T.cC [aH true a7 y2,T.v (.bool true)])) (fG (bE.rows false [[D.p d5, D.p d5, D.p d5, D.p d4, D.p d4, D.p d4]]) (bE.rows false [[D.p d5, D.p d5, D.p d5, D.p d4, D.p d4, D.p d4]]) (X0 (IntKind.i64.wrap (s1.1+1),(),())))) (R (T.cC [T.agg [T.v (.string {data:=#[]}),T.v (.string {data:=#[]}), T.v (.string {data:=#[]}),T.v (.int .i64 0), T.v (.int .i64 0),T.v (.int .i64 0)], T.v (.bool false)]))) (0,(),()))
abbrev AER:Sh:=[(true,aE),(false,Sy.str)]
noncomputable def zT:List T→Option T:=gS AER qQ
theorem O3 {a0 a1}:zT [aH true aE a0,T.v (.string a1)]=qQ (a0,a1):=bD (s:=AER) rfl (a0,a1) rfl
theorem A0X:uH Tryz.prog 170 zT qQ (cB AER) ABE:=iK (a1:=(true,aE)) (a2:=(false,Sy.str)) (sp:=qQ) (F:=ABE) (Hs:=A26) (f:=170) (k:=8) AOF aT aW (aL rfl) ⟨_,_,Tryz.func170,rfl⟩ rfl fun _ _ _=>by kernel_rfl
theorem AF6:aN Tryz.prog 170 zT:=A0X fun d id r h hb=>by
 have hl:d.2.2.2.1.length≤2 ^ 47:=hb.1.2.2.2.1.1
 unfold ABE d5 d4
 rw[cS]
 refine bG d.2.2.2.1.length (fun k s=>s=((k:Int),(),())∧(d.2.2.2.1.drop k).find? (fun s=>decide (s.1=id))=wH d id) ⟨rfl,rfl⟩ ?_
 rintro X k s hk ⟨rfl,hf⟩ hX
 simp only[List.length_map,EC,cS]
 by_cases hlt:k<d.2.2.2.1.length
 ·rw[oH hlt] at hf
  simp only[hlt,decide_true,aB,bA (r:=a7) hlt]
  cases hc:decide (d.2.2.2.1[k].1=id) with
  | true =>
   simp only[hc,if_true] at hf
   simp only[qQ,qQ,←hf] at h
   cases h;rfl
  | false =>
   simp only[hc] at hf
   refine hX _ hlt ⟨?_,hf⟩
   simp only[Prod.mk.injEq,and_true]
   exact bB _ (by omega) (by omega)
 ·have:k=d.2.2.2.1.length:=by omega
  subst this
  simp only[List.drop_length,List.find?_nil] at hf
  simp only[qQ,qQ,←hf] at h
  simp only[hlt,decide_false,aB]
  cases h;rfl
noncomputable def A2N:Env:=Env.of []
def A21:FuncId→Hint:=bV 122 [(2,.inv [.val 11 false (.int .i64),.fix 1])] (fun _=>aX)
theorem AOA:aR Tryz.prog A2N:=.nil _
def AA8(a0:aC)(a1:ByteArray)(R:T→Prop):Prop:=fG (bE.rows false [[D.p d5,D.p d4, D.p d5]]) (bE.rows false [[D.p d5,D.p d4, D.p d5]]) (a6 (Int×PUnit×PUnit) (fun X0 s1=>aB (decide (s1.1<(↑(List.map aZ.enc a0.2.1).length:Int))) (aS aZ (List.map aZ.enc a0.2.1) s1.1 fun (y2:bI)=>aB (decide (y2.1=a1)) (R (T.cC [aH true aZ y2,T.v (.bool true)])) (fG (bE.rows false [[D.p d5, D.p d4, D.p d5]]) (bE.rows false [[D.p d5, D.p d4, D.p d5]]) (X0 (IntKind.i64.wrap (s1.1+1),(),())))) (R (T.cC [T.agg [T.v (.string {data:=#[]}),T.v (.int .i64 0), T.v (.string {data:=#[]})], T.v (.bool false)]))) (0,(),()))
abbrev AEM:Sh:=[(true,aE),(false,Sy.str)]
noncomputable def zQ:List T→Option T:=gS AEM qO
theorem OS {a0 a1}:zQ [aH true aE a0,T.v (.string a1)]=qO (a0,a1):=bD (s:=AEM) rfl (a0,a1) rfl
theorem A0S:uH Tryz.prog 122 zQ qO (cB AEM) AA8:=iK (a1:=(true,aE)) (a2:=(false,Sy.str)) (sp:=qO) (F:=AA8) (Hs:=A21) (f:=122) (k:=8) AOA aT aW (aL rfl) ⟨_,_,Tryz.func122,rfl⟩ rfl fun _ _ _=>by kernel_rfl
theorem AF2:aN Tryz.prog 122 zQ:=A0S fun d id r h hb=>by
 have hl:d.2.1.length≤2 ^ 47:=hb.1.2.1.1
 unfold AA8 d5 d4
 rw[cS]
 refine bG d.2.1.length (fun k s=>s=((k:Int),(),())∧(d.2.1.drop k).find? (fun s=>decide (s.1=id))=fW d id) ⟨rfl,rfl⟩ ?_
 rintro X k s hk ⟨rfl,hf⟩ hX
 simp only[List.length_map,EC,cS]
 by_cases hlt:k<d.2.1.length
 ·rw[oH hlt] at hf
  simp only[hlt,decide_true,aB,bA (r:=aZ) hlt]
  cases hc:decide (d.2.1[k].1=id) with
  | true =>
   simp only[hc,if_true] at hf
   simp only[qO,qO,←hf] at h
   cases h;rfl
  | false =>
   simp only[hc] at hf
   refine hX _ hlt ⟨?_,hf⟩
   simp only[Prod.mk.injEq,and_true]
   exact bB _ (by omega) (by omega)
 ·have:k=d.2.1.length:=by omega
  subst this
  simp only[List.drop_length,List.find?_nil] at hf
  simp only[qO,qO,←hf] at h
  simp only[hlt,decide_false,aB]
  cases h;rfl
noncomputable def AH1:Env:=Env.of []
def AI2:FuncId→Hint:=bV 350 [(2,.inv [.val 8 false (.int .i64)])] (fun _=>aX)
theorem UI:aR Tryz.prog AH1:=.nil _
def C7(a0:aI)(a1:ByteArray)(R:T→Prop):Prop:=a6 (Int×PUnit) (fun X0 s1=>aB (decide (s1.1<(↑(List.map bM.enc a0.2).length:Int))) (aS bM (List.map bM.enc a0.2) s1.1 fun (y2:cD)=>aB (decide (y2.1=a1)) (aB (decide (s1.1<0)) (R (T.cC f8)) (aS bM (List.map bM.enc a0.2) s1.1 fun (y3:cD)=>R (T.cC [aH true bM y3,T.v (.bool true)]))) (X0 (IntKind.i64.wrap (s1.1+1),()))) (R (T.cC f8))) (0,())
abbrev EX:Sh:=[(true,aK),(false,Sy.str)]
noncomputable def cJ:List T→Option T:=gS EX mF
theorem R6 {a0 a1}:cJ [aH true aK a0,T.v (.string a1)]=mF (a0,a1):=bD (s:=EX) rfl (a0,a1) rfl
theorem AD5:uH Tryz.prog 317 cJ mF (cB EX) C7:=iK (a1:=(true,aK)) (a2:=(false,Sy.str)) (sp:=mF) (F:=C7) (Hs:=AI2) (f:=317) (k:=8) UI aT aW (aL rfl) ⟨_,_,Tryz.func317,rfl⟩ rfl fun _ _ _=>by kernel_rfl
theorem KG:aN Tryz.prog 317 cJ:=AD5 fun m n r h hb=>by
 have hl:m.2.length≤2 ^ 47:=hb.1.2.1
 unfold C7 f8
 refine bG m.2.length (fun k s=>s=((k:Int),())∧(m.2.drop k).find? (fun s=>decide (s.1=n))=MN m n) ⟨rfl,rfl⟩ ?_
 rintro X k s hk ⟨rfl,hf⟩ hX
 simp only[List.length_map,EC]
 by_cases hlt:k<m.2.length
 ·rw[oH hlt] at hf
  have h0:¬ ((k:Int)<0):=by omega
  simp only[hlt,decide_true,aB,bA (r:=bM) hlt,h0,decide_false]
  cases hc:decide (m.2[k].1=n) with
  | true =>
   simp only[hc,if_true] at hf
   simp only[mF,←hf] at h
   cases h;rfl
  | false =>
   simp only[hc] at hf
   refine hX _ hlt ⟨?_,hf⟩
   simp only[Prod.mk.injEq,and_true]
   exact bB _ (by omega) (by omega)
 ·have:k=m.2.length:=by omega
  subst this
  simp only[List.drop_length,List.find?_nil] at hf
  simp only[mF,←hf] at h
  simp only[hlt,decide_false,aB]
  cases h;rfl
end Go.Pv
namespace Go.Pv
open Go Go.Proofs
theorem AB7:P9 Tryz.prog 75 2 16:=⟨fun R=>by kernel_rfl,fun fl R=>by kernel_rfl,fun fl a rows R=>by kernel_rfl⟩
noncomputable def jF:List T→Option T:=gS [(false,.li aA)] (eB aA 16)
theorem nW {u0}:jF [T.sl false (List.map (Sy.enc aA) u0)]=eB aA 16 u0:=bD (s:=[(false,.li aA)]) rfl u0 rfl
theorem J9:aN Tryz.prog 75 jF:=DI aT aW ⟨_,_,Tryz.func75,rfl⟩ AB7
theorem VM:ZO Tryz.prog 76 1 24:=⟨fun R=>by kernel_rfl,fun fl R=>by kernel_rfl,fun fl a rows R=>by kernel_rfl⟩
noncomputable def sQ:List T→Option (List (List T)):=gS [(false,.li (.li aA))] (oC (.li aA) 24)
theorem NC {u0}:sQ [T.sl false (List.map (Sy.enc (.li aA)) u0)]=oC (.li aA) 24 u0:=bD (s:=[(false,.li (.li aA))]) rfl u0 rfl
theorem V0:eE Tryz.prog 76 sQ:=AJI aT aW ⟨_,_,Tryz.func76,rfl⟩ VM
def j3 (b:Nat) (n:Nat):Bool:=decide (n*b≤140737488355328)&&decide (n≤140737488355328)
def B1 (s:kW):Bool:=j3 16 s.1.length&&j3 24 s.2.length&&s.2.all fun h=>j3 16 h.length
def hO (p:aY):Bool:=B1 p.2.2.2.2.2.2.1
def okD (d:aC):Bool:=d.2.2.1.all hO
theorem iA {r:Sy} {b:Nat} {l:List r.den} (h:j3 b l.length=true):oC r b l=some (List.map r.enc l):=by
 unfold oC;unfold j3 at h;rw[h]
def pE (x:aC×ByteArray):Option T:=match okD x.1 with
 | true=>TL x
 | false=>none
noncomputable def AW4:Env:=Env.of [(75,.pure jF),(76,.fresh sQ)]
def AYJ:FuncId→Hint:=bV 37 [(2,.inv [.val 13 false (.int .i64),.fix 1]),(7,.alt [.val 37 false (.int .i64),.arr 4 1 (.li aA)] [.val 37 false (.int .i64)])] (fun _=>aX)
theorem AID:aR Tryz.prog AW4:=.cons J9 (.cons V0 (.nil _))
def i8(s12:Int×List (List aP)×PUnit):List (List T):=List.map aA.li.enc s12.2.1
def QS(a0:aC)(a1:ByteArray)(R:T→Prop):Prop:=fG (bE.rows false [[D.p d5,D.p d4, D.p d4,D.p d5, D.p d5,D.p d4, D.p f0,D.p f0, D.p d5,D.p d4, D.p d4,D.p d4, D.p d4,D.p d4, D.p d4,D.p d4, D.p d4,D.p d4]]) (bE.rows false [[D.p d5,D.p d4, D.p d4,D.p d5, D.p d5,D.p d4, D.p f0,D.p f0, D.p d5,D.p d4, D.p d4,D.p d4, D.p d4,D.p d4, D.p d4,D.p d4, D.p d4,D.p d4]]) (a6 (Int×PUnit×PUnit) (fun X0 s1=>aB (decide (s1.1<(↑(List.map aO.enc a0.2.2.1).length:Int))) (aS aO (List.map aO.enc a0.2.2.1) s1.1 fun (y2:aY)=>aB (decide (y2.1=a1)) (aJ i7 (jF [T.sl false (List.map aA.enc y2.2.2.2.2.2.2.1.1)]) fun (y3:List aP)=>dU aA.li (sQ [T.sl false (List.map aA.li.enc y2.2.2.2.2.2.2.1.2)]) fun (y4:List (List aP))=>aB y4.isEmpty (a6 (Int×PUnit) (fun X5 s6=>aB (decide (s6.1<(↑0:Int))) (aS aA.li [] s6.1 fun (y7:List aP)=>aJ i7 (jF [T.sl false (List.map aA.enc y7)]) fun (y8:List aP)=>aS aA.li [] s6.1 fun (y9:List aP)=>pN 104) (R (T.cC [T.agg [T.v (.string y2.1),T.v (.int .i64 y2.2.1), T.v (.int .i64 y2.2.2.1), T.v (.string y2.2.2.2.1), T.v (.string y2.2.2.2.2.1), T.v (.int .i64 y2.2.2.2.2.2.1), T.sl false (List.map aA.enc y3),T.sl false [], T.v (.string y2.2.2.2.2.2.2.2.1), T.v (.int .i64 y2.2.2.2.2.2.2.2.2.1), T.v (.int .i64 y2.2.2.2.2.2.2.2.2.2.1), T.v (Value.int IntKind.i64 y2.2.2.2.2.2.2.2.2.2.2.1.1), T.v (Value.int IntKind.i64 y2.2.2.2.2.2.2.2.2.2.2.1.2.1), T.v (Value.int IntKind.i64 y2.2.2.2.2.2.2.2.2.2.2.1.2.2), T.v (Value.int IntKind.i64 y2.2.2.2.2.2.2.2.2.2.2.2.1.1), T.v (Value.int IntKind.i64 y2.2.2.2.2.2.2.2.2.2.2.2.1.2.1), T.v (Value.int IntKind.i64 y2.2.2.2.2.2.2.2.2.2.2.2.1.2.2), T.v (Value.int IntKind.i64 y2.2.2.2.2.2.2.2.2.2.2.2.2)], T.v (.bool true)]))) (0,())) (cG aA.li (List.map aA.li.enc y4) fun (y10:List (List aP))=>a6 (Int×List (List aP)×PUnit) (fun X11 s12=>aB (decide (s12.1<(↑(List.map aA.li.enc y4).length:Int))) (aS aA.li (i8 s12) s12.1 fun (y13:List aP)=>nD aA.li (i8 s12) (Int.toNat s12.1) 0 fun (y14:List aP)=>aJ i7 (jF [T.sl false (List.map aA.enc y14)]) fun (y15:List aP)=>aS aA.li (i8 s12) s12.1 fun (y16:List aP)=>NP (i8 s12) (Int.toNat s12.1) fun (y17:List T)=>bS (decide (1≤y17.length)) (cG aA.li ((i8 s12).set (Int.toNat s12.1) (cA y17 0 [T.sl false (List.map aA.enc y15)])) fun (y18:List (List aP))=>X11 (IntKind.i64.wrap (s12.1+1),y18,()))) (R (T.cC [T.agg [T.v (.string y2.1), T.v (.int .i64 y2.2.1), T.v (.int .i64 y2.2.2.1), T.v (.string y2.2.2.2.1), T.v (.string y2.2.2.2.2.1), T.v (.int .i64 y2.2.2.2.2.2.1), T.sl false (List.map aA.enc y3), T.sl false (i8 s12), T.v (.string y2.2.2.2.2.2.2.2.1), T.v (.int .i64 y2.2.2.2.2.2.2.2.2.1), T.v (.int .i64 y2.2.2.2.2.2.2.2.2.2.1), T.v (Value.int IntKind.i64 y2.2.2.2.2.2.2.2.2.2.2.1.1), T.v (Value.int IntKind.i64 y2.2.2.2.2.2.2.2.2.2.2.1.2.1), T.v (Value.int IntKind.i64 y2.2.2.2.2.2.2.2.2.2.2.1.2.2), T.v (Value.int IntKind.i64 y2.2.2.2.2.2.2.2.2.2.2.2.1.1), T.v (Value.int IntKind.i64 y2.2.2.2.2.2.2.2.2.2.2.2.1.2.1), T.v (Value.int IntKind.i64 y2.2.2.2.2.2.2.2.2.2.2.2.1.2.2), T.v (Value.int IntKind.i64 y2.2.2.2.2.2.2.2.2.2.2.2.2)], T.v (.bool true)]))) (0,y10,()))) (fG (bE.rows false [[D.p d5, D.p d4, D.p d4, D.p d5, D.p d5, D.p d4, D.p f0,D.p f0, D.p d5, D.p d4, D.p d4, D.p d4, D.p d4, D.p d4, D.p d4, D.p d4, D.p d4, D.p d4]]) (bE.rows false [[D.p d5, D.p d4, D.p d4, D.p d5, D.p d5, D.p d4, D.p f0,D.p f0, D.p d5, D.p d4, D.p d4, D.p d4, D.p d4, D.p d4, D.p d4, D.p d4, D.p d4, D.p d4]]) (X0 (IntKind.i64.wrap (s1.1+1),(),())))) (R (T.cC [T.agg [T.v (.string {data:=#[]}),T.v (.int .i64 0), T.v (.int .i64 0),T.v (.string {data:=#[]}), T.v (.string {data:=#[]}),T.v (.int .i64 0), T.sl false [],T.sl false [],T.v (.string {data:=#[]}), T.v (.int .i64 0),T.v (.int .i64 0), T.v (.int .i64 0),T.v (.int .i64 0), T.v (.int .i64 0),T.v (.int .i64 0), T.v (.int .i64 0),T.v (.int .i64 0), T.v (.int .i64 0)], T.v (.bool false)]))) (0,(),()))
abbrev S4:Sh:=[(true,aE),(false,Sy.str)]
noncomputable def sR:List T→Option T:=gS S4 pE
theorem KU {a0 a1}:sR [aH true aE a0,T.v (.string a1)]=pE (a0,a1):=bD (s:=S4) rfl (a0,a1) rfl
theorem AUY:uH Tryz.prog 37 sR pE (cB S4) QS:=iK (a1:=(true,aE)) (a2:=(false,Sy.str)) (sp:=pE) (F:=QS) (Hs:=AYJ) (f:=37) (k:=8) AID aT aW (aL rfl) ⟨_,_,Tryz.func37,rfl⟩ rfl fun _ _ _=>by kernel_rfl
theorem V7:aN Tryz.prog 37 sR:=AUY fun d id r h hb=>by
 have hl:d.2.2.1.length≤2 ^ 47:=hb.1.2.2.1.1
 unfold pE at h
 split at h
 ·rename_i hok
  unfold QS i8 i7 f0 d5 d4
  rw[cS]
  refine bG d.2.2.1.length (fun k s=>s=((k:Int),(),())∧(d.2.2.1.drop k).find? (fun s=>decide (s.1=id))=partOf d id) ⟨rfl,rfl⟩ ?_
  rintro X k s hk ⟨rfl,hf⟩ hX
  simp only[List.length_map,EC,cS]
  by_cases hlt:k<d.2.2.1.length
  ·rw[oH hlt] at hf
   have hp:hO d.2.2.1[k]=true:=List.all_eq_true.1 hok _ (List.getElem_mem hlt)
   simp only[hlt,decide_true,aB,bA (r:=aO) hlt]
   generalize d.2.2.1[k]=p at *
   unfold hO B1 at hp
   simp only[Bool.and_eq_true] at hp
   obtain ⟨⟨hp1,hp2⟩,hp3⟩:=hp
   cases hc:decide (p.1=id) with
   | true =>
    simp only[hc,if_true] at hf
    simp only[TL,←hf] at h
    cases h
    simp only[]
    refine aF (s:=[(false,aA.li)]) (y:=p.2.2.2.2.2.2.1.1) (by rw[nW,eB,iA hp1];rfl) ?_
    refine dH (r:=.li aA) (l:=p.2.2.2.2.2.2.1.2) (by rw[NC,iA hp2]) _ ?_
    obtain ⟨p1,p2,p3,p4,p5,p6,⟨o,hs⟩,p7⟩:=p
    have hb47:hs.length≤140737488355328:=by
     simp only[j3,Bool.and_eq_true,decide_eq_true_eq] at hp2;exact hp2.2
    cases hs with
    | nil =>
     simp only[List.isEmpty_nil]
     refine bG 0 (fun k s=>s=((k:Int),())) rfl ?_
     rintro X k s hk rfl hX
     have:k=0:=by omega
     subst this
     rfl
    | cons h0 hs =>
     generalize hhs:h0::hs=hh at *
     have he:hh.isEmpty=false:=by rw[←hhs];rfl
     simp only[he]
     rw[dK (r:=.li aA) rfl]
     refine bG hh.length (fun k s=>s=((k:Int),hh,())) rfl ?_
     rintro X k s hk rfl hX
     simp only[List.length_map,EC]
     by_cases hlt:k<hh.length
     ·have hok:j3 16 hh[k].length=true:=List.all_eq_true.1 hp3 _ (List.getElem_mem hlt)
      simp only[hlt,decide_true,Int.toNat_natCast,bA (r:=.li aA) hlt,iW (r:=.li aA) hlt,tJ (r:=.li aA) hlt]
      refine aF (s:=[(false,aA.li)]) (y:=hh[k]) (by rw[nW,eB,iA hok];rfl) ?_
      refine ⟨rfl,?_⟩
      have e:cA (Sy.enc (.li aA) hh[k]) 0 [T.sl false (List.map aA.enc hh[k])]=Sy.enc (.li aA) hh[k]:=rfl
      rw[e,CB (r:=.li aA) hlt,dK (r:=.li aA) rfl]
      refine hX _ hlt ?_
      simp only[Prod.mk.injEq,and_true]
      exact bB _ (by omega) (by omega)
     ·simp only[hlt,decide_false]
      rfl
   | false =>
    simp only[hc] at hf
    refine hX _ hlt ⟨?_,hf⟩
    simp only[Prod.mk.injEq,and_true]
    exact bB _ (by omega) (by omega)
  ·have:k=d.2.2.1.length:=by omega
   subst this
   simp only[List.drop_length,List.find?_nil] at hf
   simp only[TL,←hf] at h
   simp only[hlt,decide_false,aB]
   cases h;rfl
 ·cases h
end Go.Pv
namespace Go.Pv
open Go Go.Proofs
abbrev mD:Sh:=[(false,.bool)]
theorem dC {p:Prop} {i:Decidable p} (h:p) {A B:Prop} (ha:A):aB (@decide p i) A B:=by rw[show @decide p i=true from decide_eq_true h];exact ha
theorem dY {p:Prop} {i:Decidable p} (h:¬ p) {A B:Prop} (hb:B):aB (@decide p i) A B:=by rw[show @decide p i=false from decide_eq_false h];exact hb
theorem PA {p:Prop} {i:Decidable p} (h:p) {A B:Prop} (hb:B):aB (!(@decide p i)) A B:=by rw[show @decide p i=true from decide_eq_true h];exact hb
theorem XN {p:Prop} {i:Decidable p} (h:¬ p) {A B:Prop} (ha:A):aB (!(@decide p i)) A B:=by rw[show @decide p i=false from decide_eq_false h];exact ha
theorem b6 {p:Prop} {i:Decidable p} {A B:Prop} (h1:p→A) (h2:¬ p→B):aB (@decide p i) A B:=by
 by_cases h:p
 ·rw[decide_eq_true h];exact h1 h
 ·rw[decide_eq_false h];exact h2 h
theorem jB {p:Prop} {i:Decidable p} {A B:Prop} (h1:¬ p→A) (h2:p→B):aB (!(@decide p i)) A B:=by
 by_cases h:p
 ·rw[decide_eq_true h];exact h2 h
 ·rw[decide_eq_false h];exact h1 h
theorem sZ {c:Bool} {A B:Prop} (h1:c=true→A) (h2:c=false→B):aB c A B:=by cases c with
 | true=>exact h1 rfl
 | false=>exact h2 rfl
theorem fB {c:Bool} {A B:Prop} (h1:c=false→A) (h2:c=true→B):aB (!c) A B:=by cases c with
 | true=>exact h2 rfl
 | false=>exact h1 rfl
def bY {α:Type} (f:α→Int):List α→Int
 | []=>0
 | a::l=>if f a=0 then bY f l else f a
theorem lX {r:Sy} {l:List r.den} (f:r.den→Int) (hl:l.length≤140737488355328) {Body:(Int×PUnit→Prop)→Int×PUnit→r.den→Prop} {Exit:Prop}
  (hbody:∀ (X:Int×PUnit→Prop) (s:Int×PUnit) (y:r.den),y∈l→(f y=0→X (IntKind.i64.wrap (s.1+1),()))→(f y≠0→bY f l=f y)→Body X s y) (hexit:bY f l=0→Exit) :
  a6 (Int×PUnit) (fun (X:Int×PUnit→Prop) (s:Int×PUnit)=>aB (decide (s.1<((List.map r.enc l).length:Int))) (aS r (List.map r.enc l) s.1 fun y=>Body X s y) Exit) (0,()):=by
 refine bG l.length (fun k s=>s=((k:Int),())∧bY f l=bY f (l.drop k)) ⟨rfl,by rw[List.drop_zero]⟩ ?_
 rintro X k s hk ⟨rfl,he⟩ hX
 dsimp only
 refine b6 (fun hlt=>?_) fun hge=>?_
 ·rw[List.length_map] at hlt
  have hlt:k<l.length:=by omega
  rw[bA hlt]
  have hd:l.drop k=l[k]::l.drop (k+1):=List.drop_eq_getElem_cons hlt
  rw[hd,bY] at he
  refine hbody X _ _ (List.getElem_mem hlt) (fun h0=>?_) fun h0=>by rw[he,if_neg h0]
  rw[if_pos h0] at he
  exact hX _ hlt ⟨by rw[show IntKind.i64.wrap ((k:Int)+1)=((k+1:Nat):Int) from bB _ (by omega) (by omega)],he⟩
 ·rw[List.length_map] at hge
  have:k=l.length:=by omega
  subst this
  rw[List.drop_length] at he
  exact hexit he
end Go.Pv
namespace Go.Pv
open Go Go.Proofs
def upF (d:aC):Nat→ByteArray→List ByteArray→List ByteArray×Bool
 | 0,_,_=>([],false)
 | n+1,id,l=>match fW d id with
  | none=>([],false)
  | some x=>if x.2.1=1 then (l++[id],true) else upF d n x.2.2 (l++[id])
def up (d:aC) (id:ByteArray):List ByteArray×Bool:=upF d 65 id []
theorem AG9 {d:aC}:∀ {n:Nat} {id:ByteArray} {l:List ByteArray},(upF d n id l).1.length≤l.length+n
 | 0,_,_=>by simp[upF]
 | n+1,id,l=>by
  unfold upF
  cases fW d id with
  | none=>simp
  | some x =>
   by_cases hx:x.2.1=1
   ·simp only[hx,if_true]
    simp
   ·simp only[hx,if_false]
    have:=AG9 (d:=d) (n:=n) (id:=x.2.2) (l:=l++[id])
    simp at this;omega
theorem A6O (d:aC) (id:ByteArray):(up d id).1.length≤65:=by have:=AG9 (d:=d) (n:=65) (id:=id) (l:=[]);simpa [up] using this
theorem JG {l:List ByteArray} (h:l.length≤8000000000000) (K:Prop):bS (decide (((List.map Sy.str.enc l).length+1)*16≤140737488355328)&&decide ((List.map Sy.str.enc l).length+1≤140737488355328)) K=K:=by
 have e:(decide (((List.map Sy.str.enc l).length+1)*16≤140737488355328)&&decide ((List.map Sy.str.enc l).length+1≤140737488355328))=true:=by
  simp only[List.length_map,Bool.and_eq_true,decide_eq_true_eq]
  omega
 rw[e];simp[bS]
theorem ARC {l:List ByteArray} {x:ByteArray} (K:List ByteArray→Prop):cG Sy.str (List.map Sy.str.enc l++[[T.v (.string x)]]) K=K (l++[x]):=DJ (r:=.str) rfl l _ x rfl K
theorem ARM {l:List ByteArray} {x:ByteArray}:List.map Sy.str.enc l++[[T.v (.string x)]]=List.map Sy.str.enc (l++[x]):=by simp[Sy.enc]
end Go.Pv
namespace Go.Pv
open Go Go.Proofs
noncomputable def rB {α:Type} (a b:α):Bool:=@decide (a=b) (Classical.propDecidable _)
theorem mJ {α:Type} {a b:α}:rB a b=true↔a=b:=by unfold rB;exact @decide_eq_true_iff _ (Classical.propDecidable _)
@[simp] theorem A8R {α:Type} (a:α):rB a a=true:=mJ.2 rfl
theorem JZ {α:Type} {a b:α} (h:¬ a=b):rB a b=false:=by
 cases hc:rB a b with
 | false=>rfl
 | true=>exact absurd (mJ.1 hc) h
theorem AVD (y:Bool) (K:Bool→Prop):aJ [(false,Sy.bool)] (some (Sh.enc mD y)) K=K y:=rK (s:=mD) rfl y K
theorem AML {r:Sy} {l m:List r.den} (hlen:l.length=m.length) (hl:l.length≤2 ^ 47) (test:r.den→r.den→Bool) (ht:∀ x y,test x y=true↔x=y) {R:T→Prop} (hR:R (T.v (.bool (rB l m)))) :
  a6 (Int×PUnit) (fun (X:Int×PUnit→Prop) (s:Int×PUnit)=>aB (decide (s.1<(↑(List.map r.enc l).length:Int))) (aS r (List.map r.enc l) s.1 fun y=>aS r (List.map r.enc m) s.1 fun z=>aB (!(test y z)) (R (T.v (.bool false))) (X (IntKind.i64.wrap (s.1+1),()))) (R (T.v (.bool true)))) (0,()):=by
 refine bG l.length (fun k s=>s=((k:Int),())∧(l=m↔l.drop k=m.drop k)) ⟨rfl,by simp⟩ ?_
 rintro X k s hk ⟨rfl,he⟩ hX
 dsimp only
 by_cases hlt:k<l.length
 ·have hlt2:k<m.length:=by omega
  refine dC (by simp[hlt]) ?_
  rw[bA hlt,bA hlt2]
  rw[List.drop_eq_getElem_cons hlt,List.drop_eq_getElem_cons hlt2,List.cons.injEq] at he
  by_cases h1:l[k]=m[k]
  ·rw[(ht _ _).2 h1,Bool.not_true,lK]
   refine hX _ hlt ⟨by rw[show IntKind.i64.wrap ((k:Int)+1)=((k+1:Nat):Int) from bB _ (by omega) (by omega)],?_⟩
   rw[he];exact ⟨fun h=>h.2,fun h=>⟨h1,h⟩⟩
  ·have:test l[k] m[k]=false:=by
    cases hc:test l[k] m[k] with
    | false=>rfl
    | true=>exact absurd ((ht _ _).1 hc) h1
   rw[this,Bool.not_false,iV]
   rwa[JZ fun h=>h1 (he.1 h).1] at hR
 ·have:k=l.length:=by omega
  subst this
  refine dY (by simp) ?_
  rwa[mJ.2 (he.2 (by rw[List.drop_length,hlen,List.drop_length]))] at hR
theorem AWH {r:Sy} {l m:List r.den} (hl:l.length≤2 ^ 47) (test:r.den→r.den→Bool) (ht:∀ x y,test x y=true↔x=y) {R:T→Prop} (hR:R (T.v (.bool (rB l m)))) :
  aB (!decide ((↑(List.map r.enc l).length:Int)=(↑(List.map r.enc m).length:Int))) (R (T.v (.bool false))) (a6 (Int×PUnit) (fun (X:Int×PUnit→Prop) (s:Int×PUnit)=>aB (decide (s.1<(↑(List.map r.enc l).length:Int))) (aS r (List.map r.enc l) s.1 fun y=>aS r (List.map r.enc m) s.1 fun z=>aB (!(test y z)) (R (T.v (.bool false))) (X (IntKind.i64.wrap (s.1+1),()))) (R (T.v (.bool true)))) (0,())):=by
 by_cases hlen:l.length=m.length
 ·rw[show (!decide ((↑(List.map r.enc l).length:Int)=(↑(List.map r.enc m).length:Int)))=false by simp[hlen],lK]
  exact AML hlen hl test ht hR
 ·rw[show (!decide ((↑(List.map r.enc l).length:Int)=(↑(List.map r.enc m).length:Int)))=true by simp;omega,iV]
  rwa[JZ fun h=>hlen (by rw[h])] at hR
def lP (d:aC) (id:ByteArray):Option aM:=d.2.2.2.2.1.find? fun s=>decide (s.1=id)
def noPack:aM:=(⟨#[]⟩,⟨#[]⟩,[],0,[])
theorem VN:P9 Tryz.prog 237 1 16:=⟨fun R=>by kernel_rfl,fun fl R=>by kernel_rfl,fun fl a rows R=>by kernel_rfl⟩
noncomputable def iS:List T→Option T:=gS [(false,.li .str)] (eB .str 16)
theorem mN {u0}:iS [T.sl false (List.map (Sy.enc .str) u0)]=eB .str 16 u0:=bD (s:=[(false,.li .str)]) rfl u0 rfl
theorem FY:aN Tryz.prog 237 iS:=DI aT aW ⟨_,_,Tryz.func237,rfl⟩ VN
def fX (p:aM):Bool:=j3 16 p.2.2.1.length&&j3 16 p.2.2.2.2.length
def YN (d:aC):Bool:=d.2.2.2.2.1.all fX
def YQ (d:aC) (t:T):Option T:=match YN d with
 | true=>some t
 | false=>none
theorem AU7 {d:aC} {t r:T} (h:YQ d t=some r):YN d=true∧r=t:=by
 unfold YQ at h;split at h
 ·cases h;exact ⟨by assumption,rfl⟩
 ·cases h
theorem YR {d:aC} (t:T) (h:YN d=true):YQ d t=some t:=by unfold YQ;rw[h]
def H0 (x:aC×ByteArray):Option T:=YQ x.1 (Sh.enc [(true,aG),(false,.bool)] (found noPack (lP x.1 x.2)))
noncomputable def A2O:Env:=Env.of [(237,.pure iS)]
def A22:FuncId→Hint:=bV 190 [(2,.inv [.val 11 false (.int .i64),.fix 1])] (fun _=>aX)
theorem AOB:aR Tryz.prog A2O:=.cons FY (.nil _)
def ABA(a0:aC)(a1:ByteArray)(R:T→Prop):Prop:=fG (bE.rows false [[D.p d5,D.p d5, D.p f0,D.p d4, D.p f0]]) (bE.rows false [[D.p d5,D.p d5, D.p f0,D.p d4, D.p f0]]) (a6 (Int×PUnit×PUnit) (fun X0 s1=>aB (decide (s1.1<(↑(List.map aG.enc a0.2.2.2.2.1).length:Int))) (aS aG (List.map aG.enc a0.2.2.2.2.1) s1.1 fun (y2:aM)=>aB (decide (y2.1=a1)) (aJ g9 (iS [T.sl false (List.map Sy.str.enc y2.2.2.1)]) fun (y3:List ByteArray)=>aJ g9 (iS [T.sl false (List.map Sy.str.enc y2.2.2.2.2)]) fun (y4:List ByteArray)=>R (T.cC [T.agg [T.v (.string y2.1),T.v (.string y2.2.1), T.sl false (List.map Sy.str.enc y3), T.v (.int .i64 y2.2.2.2.1), T.sl false (List.map Sy.str.enc y4)], T.v (.bool true)])) (fG (bE.rows false [[D.p d5, D.p d5, D.p f0, D.p d4, D.p f0]]) (bE.rows false [[D.p d5, D.p d5, D.p f0, D.p d4, D.p f0]]) (X0 (IntKind.i64.wrap (s1.1+1),(),())))) (R (T.cC [T.agg [T.v (.string {data:=#[]}),T.v (.string {data:=#[]}), T.sl false [],T.v (.int .i64 0),T.sl false []], T.v (.bool false)]))) (0,(),()))
abbrev AEN:Sh:=[(true,aE),(false,Sy.str)]
noncomputable def zR:List T→Option T:=gS AEN H0
theorem OT {a0 a1}:zR [aH true aE a0,T.v (.string a1)]=H0 (a0,a1):=bD (s:=AEN) rfl (a0,a1) rfl
theorem A0T:uH Tryz.prog 190 zR H0 (cB AEN) ABA:=iK (a1:=(true,aE)) (a2:=(false,Sy.str)) (sp:=H0) (F:=ABA) (Hs:=A22) (f:=190) (k:=8) AOB aT aW (aL rfl) ⟨_,_,Tryz.func190,rfl⟩ rfl fun _ _ _=>by kernel_rfl
theorem AF3:aN Tryz.prog 190 zR:=A0T fun d id r h hb=>by
 have hl:d.2.2.2.2.1.length≤2 ^ 47:=hb.1.2.2.2.2.1.1
 obtain ⟨hok,rfl⟩:=AU7 h
 clear h
 unfold ABA g9 f0 d5 d4
 rw[cS]
 refine bG d.2.2.2.2.1.length (fun k s=>s=((k:Int),(),())∧(d.2.2.2.2.1.drop k).find? (fun s=>decide (s.1=id))=lP d id) ⟨rfl,rfl⟩ ?_
 rintro X k s hk ⟨rfl,hf⟩ hX
 simp only[List.length_map,EC,cS]
 by_cases hlt:k<d.2.2.2.2.1.length
 ·rw[oH hlt] at hf
  have hp:fX d.2.2.2.2.1[k]=true:=List.all_eq_true.1 hok _ (List.getElem_mem hlt)
  simp only[hlt,decide_true,aB,bA (r:=aG) hlt]
  unfold fX at hp
  simp only[Bool.and_eq_true] at hp
  cases hc:decide (d.2.2.2.2.1[k].1=id) with
  | true =>
   simp only[hc,if_true] at hf
   rw[←hf]
   refine aF (s:=[(false,.li .str)]) (y:=d.2.2.2.2.1[k].2.2.1) (by rw[mN,eB,iA hp.1];rfl) ?_
   refine aF (s:=[(false,.li .str)]) (y:=d.2.2.2.2.1[k].2.2.2.2) (by rw[mN,eB,iA hp.2];rfl) ?_
   rfl
  | false =>
   simp only[hc] at hf
   refine hX _ hlt ⟨?_,hf⟩
   simp only[Prod.mk.injEq,and_true]
   exact bB _ (by omega) (by omega)
 ·have:k=d.2.2.2.2.1.length:=by omega
  subst this
  simp only[List.drop_length,List.find?_nil] at hf
  rw[←hf]
  simp only[hlt,decide_false,aB]
  rfl
end Go.Pv
namespace Go.Pv
open Go Go.Proofs
def N1 (d:aC) (n:Int):Bool:=decide ((d.2.1.length:Int)≤n)&&decide ((d.2.2.1.length:Int)≤n)&&decide ((d.2.2.2.1.length:Int)≤n)&&decide ((d.2.2.2.2.1.length:Int)≤n)&&decide ((d.2.2.2.2.2.length:Int)≤n)&&d.2.2.2.2.1.all fun k=>decide ((k.2.2.1.length:Int)≤n)&&decide ((k.2.2.2.2.length:Int)≤n)
def TJ (x:aC×Int):Option T:=some (Sh.enc mD (N1 x.1 x.2))
noncomputable def A7B:Env:=Env.of []
def A7U:FuncId→Hint:=bV 35 [(4,.inv [.val 5 false (.int .i64)])] (fun _=>aX)
theorem AXS:aR Tryz.prog A7B:=.nil _
def m7(a0:aC):List (List T):=List.map aG.enc a0.2.2.2.2.1
def AO4(a0:aC)(a1:Int)(R:T→Prop):Prop:=aB (decide (a1<(↑(List.map aZ.enc a0.2.1).length:Int))) (R d3) (aB (decide (a1<(↑(List.map aO.enc a0.2.2.1).length:Int))) (R d3) (aB (decide (a1<(↑(List.map a7.enc a0.2.2.2.1).length:Int))) (R d3) (aB (decide (a1<(↑(m7 a0).length:Int))) (R d3) (aB (decide (a1<(↑(List.map aQ.enc a0.2.2.2.2.2).length:Int))) (R d3) (a6 (Int×PUnit) (fun X0 s1=>aB (decide (s1.1<(↑(m7 a0).length:Int))) (aS aG (m7 a0) s1.1 fun (y2:aM)=>aB (decide (a1<(↑(List.map Sy.str.enc y2.2.2.1).length:Int))) (R d3) (aS aG (m7 a0) s1.1 fun (y3:aM)=>aB (decide (a1<(↑(List.map Sy.str.enc y3.2.2.2.2).length:Int))) (R d3) (X0 (IntKind.i64.wrap (s1.1+1),())))) (R d9)) (0,()))))))
abbrev AV5:Sh:=[(true,aE),(false,(Sy.int IntKind.i64))]
noncomputable def WL:List T→Option T:=gS AV5 TJ
theorem AS0 {a0 a1}:WL [aH true aE a0,T.v (.int .i64 a1)]=TJ (a0,a1):=bD (s:=AV5) rfl (a0,a1) rfl
theorem A5R:uH Tryz.prog 35 WL TJ (cB AV5) AO4:=iK (a1:=(true,aE)) (a2:=(false,(Sy.int IntKind.i64))) (sp:=TJ) (F:=AO4) (Hs:=A7U) (f:=35) (k:=8) AXS aT aW (aL rfl) ⟨_,_,Tryz.func35,rfl⟩ rfl fun _ _ _=>by kernel_rfl
theorem eR {n:Int} {m:Nat} {A B:Prop} (h1:¬ (m:Int)≤n→A) (h2:(m:Int)≤n→B):aB (decide (n<(m:Int))) A B:=by
 by_cases h:(m:Int)≤n
 ·exact dY (by omega) (h2 h)
 ·exact dC (by omega) (h1 h)
theorem JE {α:Type} {p:α→Bool} {l:List α} {k:Nat} (h:k<l.length):(l.drop k).all p=(p l[k]&&(l.drop (k+1)).all p):=by rw[List.drop_eq_getElem_cons h,List.all_cons]
theorem A3Z:aN Tryz.prog 35 WL:=A5R fun d n r h hb=>by
 cases h
 have hl:d.2.2.2.2.1.length≤2 ^ 47:=hb.1.2.2.2.2.1.1
 have no:N1 d n=false→T.v (.bool false)=Sh.enc mD (N1 d n):=fun h=>by rw[h];rfl
 unfold AO4 m7 d9 d3
 simp only[List.length_map]
 refine eR (fun h=>no (by simp[N1,h])) fun g1=>?_
 refine eR (fun h=>no (by simp[N1,h])) fun g2=>?_
 refine eR (fun h=>no (by simp[N1,h])) fun g3=>?_
 refine eR (fun h=>no (by simp[N1,h])) fun g4=>?_
 refine eR (fun h=>no (by simp[N1,h])) fun g5=>?_
 refine bG d.2.2.2.2.1.length (fun k s=>s=((k:Int),())∧N1 d n=(d.2.2.2.2.1.drop k).all fun k=>decide ((k.2.2.1.length:Int)≤n)&&decide ((k.2.2.2.2.length:Int)≤n)) ⟨rfl,by simp only[N1,g1,g2,g3,g4,g5,decide_true,Bool.true_and,List.drop_zero]⟩ ?_
 rintro X k s hk ⟨rfl,he⟩ hX
 dsimp only
 by_cases hlt:k<d.2.2.2.2.1.length
 ·rw[JE hlt] at he
  refine dC (by simp[hlt]) ?_
  rw[bA (r:=aG) hlt]
  try simp only[List.length_map]
  refine eR (fun h=>no (by rw[he];simp[h])) fun g6=>?_
  try rw[bA (r:=aG) hlt]
  try simp only[List.length_map]
  refine eR (fun h=>no (by rw[he];simp[h])) fun g7=>?_
  refine hX _ hlt ⟨by rw[show IntKind.i64.wrap ((k:Int)+1)=((k+1:Nat):Int) from bB _ (by omega) (by omega)],?_⟩
  rw[he]
  simp only[g6,g7,decide_true,Bool.true_and]
 ·have:k=d.2.2.2.2.1.length:=by omega
  subst this
  refine dY (by simp) ?_
  rw[he];simp only[List.drop_length,List.all_nil];rfl
theorem A6C {d:aC} (h:InS aE d):okD d=true:=by
 refine List.all_eq_true.2 fun p hp=>?_
 obtain ⟨_,_,⟨_,_,h3⟩,_⟩:=h
 have h4:=h3 p hp
 obtain ⟨_,_,_,_,_,_,⟨⟨h5,h6,_⟩,h7,h8,h9⟩,_⟩:=h4
 unfold hO B1 j3
 simp only[Bool.and_eq_true,decide_eq_true_eq,List.all_eq_true]
 refine ⟨⟨⟨?_,?_⟩,?_,?_⟩,fun q hq=>?_⟩
 ·exact h5
 ·exact h6
 ·exact h7
 ·exact h8
 ·obtain ⟨g1,g2,_⟩:=h9 q hq
  exact ⟨g1,g2⟩
theorem A6D {d:aC} (h:InS aE d):YN d=true:=by
 refine List.all_eq_true.2 fun p hp=>?_
 obtain ⟨_,_,_,_,⟨_,_,h3⟩,_⟩:=h
 obtain ⟨_,_,⟨h5,h6,_⟩,_,⟨h7,h8,_⟩⟩:=h3 p hp
 unfold fX j3
 simp only[Bool.and_eq_true,decide_eq_true_eq]
 exact ⟨⟨h5,h6⟩,h7,h8⟩
theorem o8 {c:Bool} {A B:Prop} (h1:c=true→A) (h2:c=false→B):aB c A B:=by cases c with
 | true=>exact h1 rfl
 | false=>exact h2 rfl
theorem jJ {c:Bool} {A B:Prop} (h1:c=false→A) (h2:c=true→B):aB (!c) A B:=by cases c with
 | true=>exact h2 rfl
 | false=>exact h1 rfl
end Go.Pv
namespace Go.Pv
open Go Go.Proofs
noncomputable def CP (x:List aP×List aP):Option T:=some (Sh.enc mD (rB x.1 x.2))
noncomputable def qP (x:aY×aY):Option T:=some (Sh.enc mD (rB x.1 x.2))
noncomputable def A2T:Env:=Env.of []
def A27:FuncId→Hint:=bV 235 [(4,.inv [.val 13 false (.int .i64)])] (fun _=>aX)
theorem AOG:aR Tryz.prog A2T:=.nil _
def ABF(a0:List aP)(a1:List aP)(R:T→Prop):Prop:=aB (!decide ((↑(List.map aA.enc a0).length:Int)=(↑(List.map aA.enc a1).length:Int))) (R d3) (a6 (Int×PUnit) (fun X0 s1=>aB (decide (s1.1<(↑(List.map aA.enc a0).length:Int))) (aS aA (List.map aA.enc a0) s1.1 fun (y2:aP)=>aS aA (List.map aA.enc a1) s1.1 fun (y3:aP)=>aB (!(decide (y2.1=y3.1)&&(decide (y2.2=y3.2)&&true))) (R d3) (X0 (IntKind.i64.wrap (s1.1+1),()))) (R d9)) (0,()))
abbrev AES:Sh:=[(false,aA.li),(false,aA.li)]
noncomputable def D0:List T→Option T:=gS AES CP
theorem AKV {a0 a1}:D0 [T.sl false (List.map aA.enc a0),T.sl false (List.map aA.enc a1)]=CP (a0,a1):=bD (s:=AES) rfl (a0,a1) rfl
theorem A0Y:uH Tryz.prog 235 D0 CP (cB AES) ABF:=iK (a1:=(false,aA.li)) (a2:=(false,aA.li)) (sp:=CP) (F:=ABF) (Hs:=A27) (f:=235) (k:=8) AOG aT aW (aL rfl) ⟨_,_,Tryz.func235,rfl⟩ rfl fun _ _ _=>by kernel_rfl
theorem AZS:aN Tryz.prog 235 D0:=A0Y fun a b r h hb=>by
 cases h
 unfold ABF d9 d3
 refine AWH (r:=aA) (R:=fun y=>y=Sh.enc mD (rB a b)) hb.1.1 _ (fun x y=>?_) rfl
 simp only[Bool.and_true,Bool.and_eq_true,decide_eq_true_eq,Prod.ext_iff]
theorem AQ6 {r:Sy} {l m:List r.den} (hlen:l.length=m.length) (hl:l.length≤2 ^ 47) (test:r.den→r.den→Bool) (ht:∀ x y,test x y=true↔x=y) {N Y:Prop} (hY:l=m→Y) (hN:¬ l=m→N) :
  a6 (Int×PUnit) (fun (X:Int×PUnit→Prop) (s:Int×PUnit)=>aB (decide (s.1<(↑(List.map r.enc l).length:Int))) (aS r (List.map r.enc l) s.1 fun y=>aS r (List.map r.enc m) s.1 fun z=>aB (!(test y z)) N (X (IntKind.i64.wrap (s.1+1),()))) Y) (0,()):=by
 refine bG l.length (fun k s=>s=((k:Int),())∧(l=m↔l.drop k=m.drop k)) ⟨rfl,by simp⟩ ?_
 rintro X k s hk ⟨rfl,he⟩ hX
 dsimp only
 by_cases hlt:k<l.length
 ·have hlt2:k<m.length:=by omega
  refine dC (by simp[hlt]) ?_
  rw[bA hlt,bA hlt2]
  rw[List.drop_eq_getElem_cons hlt,List.drop_eq_getElem_cons hlt2,List.cons.injEq] at he
  refine jJ (fun h=>hN fun e=>?_) fun h=>?_
  ·rw[(ht _ _).2 (he.1 e).1] at h;cases h
  ·have h1:=(ht _ _).1 h
   refine hX _ hlt ⟨by rw[show IntKind.i64.wrap ((k:Int)+1)=((k+1:Nat):Int) from bB _ (by omega) (by omega)],?_⟩
   rw[he];exact ⟨fun h=>h.2,fun h=>⟨h1,h⟩⟩
 ·have:k=l.length:=by omega
  subst this
  refine dY (by simp) ?_
  exact hY (he.2 (by rw[List.drop_length,hlen,List.drop_length]))
theorem A43 {α β:Type} {f:α→β} {l m:List α} (h:decide ((↑(List.map f l).length:Int)=(↑(List.map f m).length:Int))=true):l.length=m.length:=by simp at h;omega
theorem RG {r:Sy} {l m:List r.den} (hl:l.length≤2 ^ 47) (test:r.den→r.den→Bool) (ht:∀ x y,test x y=true↔x=y) {N Y:Prop} (hY:l=m→Y) (hN:¬ l=m→N) :
  aB (!decide ((↑(List.map r.enc l).length:Int)=(↑(List.map r.enc m).length:Int))) N (a6 (Int×PUnit) (fun (X:Int×PUnit→Prop) (s:Int×PUnit)=>aB (decide (s.1<(↑(List.map r.enc l).length:Int))) (aS r (List.map r.enc l) s.1 fun y=>aS r (List.map r.enc m) s.1 fun z=>aB (!(test y z)) N (X (IntKind.i64.wrap (s.1+1),()))) Y) (0,())) :=
 jJ (fun h=>hN fun e=>by simp[e] at h) fun h=>AQ6 (A43 h) hl test ht hY hN
noncomputable def Z0:Env:=Env.of [(235,.pure D0)]
def ABN:FuncId→Hint:=bV 236 [(4,.inv [.val 17 false (.int .i64)])] (fun _=>aX)
theorem QI:aR Tryz.prog Z0:=.cons AZS (.nil _)
def m8(a0:aY):List (List T):=List.map aA.li.enc a0.2.2.2.2.2.2.1.2
def zC(a0:aY)(a1:aY)(R:T→Prop):Prop:=aB (!decide (a0.1=a1.1)) (R d3) (aB (!decide (a0.2.1=a1.2.1)) (R d3) (aB (!decide (a0.2.2.1=a1.2.2.1)) (R d3) (aB (!decide (a0.2.2.2.1=a1.2.2.2.1)) (R d3) (aB (!decide (a0.2.2.2.2.1=a1.2.2.2.2.1)) (R d3) (aB (!decide (a0.2.2.2.2.2.1=a1.2.2.2.2.2.1)) (R d3) (aB (!decide (a0.2.2.2.2.2.2.2.1=a1.2.2.2.2.2.2.2.1)) (R d3) (aB (!decide (a0.2.2.2.2.2.2.2.2.1=a1.2.2.2.2.2.2.2.2.1)) (R d3) (aB (!decide (a0.2.2.2.2.2.2.2.2.2.1=a1.2.2.2.2.2.2.2.2.2.1)) (R d3) (aB (!(decide (a0.2.2.2.2.2.2.2.2.2.2.1.1 = a1.2.2.2.2.2.2.2.2.2.2.1.1) && (decide (a0.2.2.2.2.2.2.2.2.2.2.1.2.1 = a1.2.2.2.2.2.2.2.2.2.2.1.2.1) && (decide (a0.2.2.2.2.2.2.2.2.2.2.1.2.2 = a1.2.2.2.2.2.2.2.2.2.2.1.2.2) && true)))) (R d3) (aB (!(decide (a0.2.2.2.2.2.2.2.2.2.2.2.1.1 = a1.2.2.2.2.2.2.2.2.2.2.2.1.1) && (decide (a0.2.2.2.2.2.2.2.2.2.2.2.1.2.1 = a1.2.2.2.2.2.2.2.2.2.2.2.1.2.1) && (decide (a0.2.2.2.2.2.2.2.2.2.2.2.1.2.2 = a1.2.2.2.2.2.2.2.2.2.2.2.1.2.2) && true)) && (decide (a0.2.2.2.2.2.2.2.2.2.2.2.2 = a1.2.2.2.2.2.2.2.2.2.2.2.2) && true))) (R d3) (aJ d6 (D0 [T.sl false (List.map aA.enc a0.2.2.2.2.2.2.1.1), T.sl false (List.map aA.enc a1.2.2.2.2.2.2.1.1)]) fun (y0:Bool)=>aB y0 (aB (!decide ((↑(m8 a0).length:Int) = (↑(m8 a1).length:Int))) (R d3) (a6 (Int×PUnit) (fun X1 s2=>aB (decide (s2.1 < (↑(m8 a0).length : Int))) (aS aA.li (m8 a0) s2.1 fun (y3:List aP)=>aS aA.li (m8 a1) s2.1 fun (y4:List aP)=>aJ d6 (D0 [T.sl false (List.map aA.enc y3), T.sl false (List.map aA.enc y4)]) fun (y5:Bool)=>aB (!y5) (R d3) (X1 (IntKind.i64.wrap (s2.1+1),()))) (R d9)) (0,()))) (R d3))))))))))))
abbrev AF:Sh:=[(true,aO),(true,aO)]
noncomputable def o6:List T→Option T:=gS AF qP
theorem NH {a0 a1}:o6 [aH true aO a0,aH true aO a1]=qP (a0,a1):=bD (s:=AF) rfl (a0,a1) rfl
theorem YL:uH Tryz.prog 73 o6 qP (cB AF) zC:=iK (a1:=(true,aO)) (a2:=(true,aO)) (sp:=qP) (F:=zC) (Hs:=ABN) (f:=73) (k:=8) QI aT aW (aL rfl) ⟨_,_,Tryz.func73,rfl⟩ rfl fun _ _ _=>by kernel_rfl
theorem V8:aN Tryz.prog 73 o6:=YL fun a b r h hb=>by
 cases h
 have no:¬ a=b→T.v (.bool false)=Sh.enc mD (rB a b):=fun h=>by rw[JZ h];rfl
 have yes:a=b→T.v (.bool true)=Sh.enc mD (rB a b):=fun h=>by rw[mJ.2 h];rfl
 have hl:a.2.2.2.2.2.2.1.2.length≤2 ^ 47:=hb.1.2.2.2.2.2.2.1.2.1
 unfold zC m8 d9 d6 d3
 have u:=@AKV
 simp only[u,CP,AVD]
 refine jJ (fun h=>no fun e=>by simp[e] at h) fun h1=>?_
 refine jJ (fun h=>no fun e=>by simp[e] at h) fun h2=>?_
 refine jJ (fun h=>no fun e=>by simp[e] at h) fun h3=>?_
 refine jJ (fun h=>no fun e=>by simp[e] at h) fun h4=>?_
 refine jJ (fun h=>no fun e=>by simp[e] at h) fun h5=>?_
 refine jJ (fun h=>no fun e=>by simp[e] at h) fun h6=>?_
 refine jJ (fun h=>no fun e=>by simp[e] at h) fun h7=>?_
 refine jJ (fun h=>no fun e=>by simp[e] at h) fun h8=>?_
 refine jJ (fun h=>no fun e=>by simp[e] at h) fun h9=>?_
 refine jJ (fun h=>no fun e=>by simp[e] at h) fun h10=>?_
 refine jJ (fun h=>no fun e=>by simp[e] at h) fun h11=>?_
 refine o8 (fun h12=>?_) (fun h=>no fun e=>by simp[e] at h)
 refine RG (r:=.li aA) hl _ (fun x y=>mJ) (fun h13=>yes ?_) (fun h=>no fun e=>h (by rw[e]))
 simp only[Bool.and_true,Bool.and_eq_true,decide_eq_true_eq,mJ] at h1 h2 h3 h4 h5 h6 h7 h8 h9 h10 h11 h12
 simp only[Prod.ext_iff]
 exact ⟨h1,h2,h3,h4,h5,h6,⟨h12,h13⟩,h7,h8,h9,h10,h11⟩
end Go.Pv
namespace Go.Pv
open Go Go.Proofs
theorem FU {r:Sy} (hr:r.pure=true) {l:List r.den} {rows:List (List T)} {K:List r.den→Prop} (e:rows=List.map r.enc l) (h:K l):cG r rows K:=by subst e;rw[dK hr];exact h
theorem uX {r:Sy} {l:List r.den} {z b:Nat} (hz:r.w=z) (h:j3 b l.length=true):(((List.map r.enc l).all fun q=>decide (q.length=z))&&decide ((List.map r.enc l).length*b≤140737488355328)&&decide ((List.map r.enc l).length≤140737488355328))=true:=by
 unfold j3 at h
 rw[Bool.and_eq_true] at h
 rw[List.length_map,h.1,h.2,Bool.and_true,Bool.and_true]
 subst hz
 refine List.all_eq_true.2 fun q hq=>?_
 obtain ⟨x,_,rfl⟩:=List.mem_map.1 hq
 exact decide_eq_true (Sy.dD r x)
def iZ (p:aY):Option T:=match hO p with
 | true=>some (Sh.enc [(true,aO)] p)
 | false=>none
noncomputable def AHT:Env:=Env.of [(75,.pure jF),(76,.dup 1 24)]
def AIU:FuncId→Hint:=bV 82 [(4,.inv [.val 21 false (.int .i64),.arr 3 1 (.li aA)])] (fun _=>aX)
theorem UA:aR Tryz.prog AHT:=.cons J9 (aR.cons (x:=.dup 1 24) AJ2 (.nil _))
def m9(a0:aY):List (List T):=List.map aA.li.enc a0.2.2.2.2.2.2.1.2
def t1(s3:Int×List (List aP)×PUnit):List (List T):=List.map aA.li.enc s3.2.1
def CZ(a0:aY)(R:T→Prop):Prop:=aJ i7 (jF [T.sl false (List.map aA.enc a0.2.2.2.2.2.2.1.1)]) fun (y0:List aP)=>bS (((m9 a0).all fun (r:List T)=>decide (r.length=1)) && decide ((m9 a0).length*24≤140737488355328) && decide ((m9 a0).length≤140737488355328)) (cG aA.li (m9 a0) fun (y1:List (List aP))=>a6 (Int×List (List aP)×PUnit) (fun X2 s3=>aB (decide (s3.1<(↑(m9 a0).length:Int))) (aS aA.li (t1 s3) s3.1 fun (y4:List aP)=>nD aA.li (t1 s3) (Int.toNat s3.1) 0 fun (y5:List aP)=>aJ i7 (jF [T.sl false (List.map aA.enc y5)]) fun (y6:List aP)=>aS aA.li (t1 s3) s3.1 fun (y7:List aP)=>NP (t1 s3) (Int.toNat s3.1) fun (y8:List T)=>bS (decide (1≤y8.length)) (cG aA.li ((t1 s3).set (Int.toNat s3.1) (cA y8 0 [T.sl false (List.map aA.enc y6)])) fun (y9:List (List aP))=>X2 (IntKind.i64.wrap (s3.1+1),y9,()))) (R (T.agg [T.v (.string a0.1),T.v (.int .i64 a0.2.1), T.v (.int .i64 a0.2.2.1), T.v (.string a0.2.2.2.1),T.v (.string a0.2.2.2.2.1), T.v (.int .i64 a0.2.2.2.2.2.1), T.sl false (List.map aA.enc y0), T.sl false (t1 s3), T.v (.string a0.2.2.2.2.2.2.2.1), T.v (.int .i64 a0.2.2.2.2.2.2.2.2.1), T.v (.int .i64 a0.2.2.2.2.2.2.2.2.2.1), T.v (.int .i64 a0.2.2.2.2.2.2.2.2.2.2.1.1), T.v (.int .i64 a0.2.2.2.2.2.2.2.2.2.2.1.2.1), T.v (.int .i64 a0.2.2.2.2.2.2.2.2.2.2.1.2.2), T.v (.int .i64 a0.2.2.2.2.2.2.2.2.2.2.2.1.1), T.v (.int .i64 a0.2.2.2.2.2.2.2.2.2.2.2.1.2.1), T.v (.int .i64 a0.2.2.2.2.2.2.2.2.2.2.2.1.2.2), T.v (.int .i64 a0.2.2.2.2.2.2.2.2.2.2.2.2)]))) (0,y1,()))
abbrev EO:Sh:=[(true,aO)]
noncomputable def lZ:List T→Option T:=gS EO iZ
theorem BG {a0}:lZ [aH true aO a0]=iZ (a0):=bD (s:=EO) rfl (a0) rfl
theorem ADX:rA Tryz.prog 82 lZ iZ (cB EO) CZ:=gF (a1:=(true,aO)) (sp:=iZ) (F:=CZ) (Hs:=AIU) (f:=82) (k:=8) UA aT aW (aL rfl) ⟨_,_,Tryz.func82,rfl⟩ rfl fun _ _=>by kernel_rfl
theorem KB:aN Tryz.prog 82 lZ:=ADX fun p r h hb=>by
 clear hb
 have hp:hO p=true:=by
  unfold iZ at h
  split at h
  ·assumption
  ·cases h
 have e:Sh.enc [(true,aO)] p=r:=by
  unfold iZ at h
  rw[hp] at h
  exact Option.some.inj h
 subst e
 clear h
 unfold hO B1 at hp
 simp only[Bool.and_eq_true] at hp
 obtain ⟨⟨hp1,hp2⟩,hp3⟩:=hp
 have hb47:p.2.2.2.2.2.2.1.2.length≤140737488355328:=by
  simp only[j3,Bool.and_eq_true,decide_eq_true_eq] at hp2;exact hp2.2
 unfold CZ t1 m9 i7
 refine aF (s:=[(false,aA.li)]) (y:=p.2.2.2.2.2.2.1.1) (by rw[nW,eB,iA hp1];rfl) ?_
 refine ⟨uX (r:=.li aA) rfl hp2,?_⟩
 obtain ⟨p1,p2,p3,p4,p5,p6,⟨o,hh⟩,p7⟩:=p
 dsimp only at hp1 hp2 hp3 hb47 ⊢
 rw[dK (r:=.li aA) rfl]
 refine bG hh.length (fun k s=>s=((k:Int),hh,())) rfl ?_
 rintro X k s hk rfl hX
 dsimp only
 refine b6 (fun hlt=>?_) fun hge=>rfl
 rw[List.length_map] at hlt
 have hlt:k<hh.length:=by omega
 have hok:j3 16 hh[k].length=true:=List.all_eq_true.1 hp3 _ (List.getElem_mem hlt)
 rw[bA (r:=.li aA) hlt,show Int.toNat (k:Int)=k from rfl,iW (r:=.li aA) hlt]
 refine aF (s:=[(false,aA.li)]) (y:=hh[k]) (by rw[nW,eB,iA hok];rfl) ?_
 rw[bA (r:=.li aA) hlt,tJ (r:=.li aA) hlt]
 refine ⟨rfl,?_⟩
 have e:cA (Sy.enc (.li aA) hh[k]) 0 [T.sl false (List.map aA.enc hh[k])]=Sy.enc (.li aA) hh[k]:=rfl
 rw[e,CB (r:=.li aA) hlt,dK (r:=.li aA) rfl]
 refine hX _ hlt ?_
 simp only[Prod.mk.injEq,and_true]
 exact bB _ (by omega) (by omega)
def iY (p:aM):Option T:=match fX p with
 | true=>some (Sh.enc [(true,aG)] p)
 | false=>none
noncomputable def AHS:Env:=Env.of [(237,.pure iS)]
def AIT:FuncId→Hint:=fun _=>aX
theorem T9:aR Tryz.prog AHS:=.cons FY (.nil _)
def CY(a0:aM)(R:T→Prop):Prop:=aJ g9 (iS [T.sl false (List.map Sy.str.enc a0.2.2.1)]) fun (y0:List ByteArray)=>aJ g9 (iS [T.sl false (List.map Sy.str.enc a0.2.2.2.2)]) fun (y1:List ByteArray)=>R (T.agg [T.v (.string a0.1),T.v (.string a0.2.1), T.sl false (List.map Sy.str.enc y0),T.v (.int .i64 a0.2.2.2.1), T.sl false (List.map Sy.str.enc y1)])
abbrev EN:Sh:=[(true,aG)]
noncomputable def lY:List T→Option T:=gS EN iY
theorem BF {a0}:lY [aH true aG a0]=iY (a0):=bD (s:=EN) rfl (a0) rfl
theorem ADW:rA Tryz.prog 83 lY iY (cB EN) CY:=gF (a1:=(true,aG)) (sp:=iY) (F:=CY) (Hs:=AIT) (f:=83) (k:=8) T9 aT aW (aL rfl) ⟨_,_,Tryz.func83,rfl⟩ rfl fun _ _=>by kernel_rfl
theorem KA:aN Tryz.prog 83 lY:=ADW fun p r h hb=>by
 clear hb
 have hp:fX p=true:=by
  unfold iY at h
  split at h
  ·assumption
  ·cases h
 have e:Sh.enc [(true,aG)] p=r:=by
  unfold iY at h
  rw[hp] at h
  exact Option.some.inj h
 subst e
 clear h
 unfold fX at hp
 rw[Bool.and_eq_true] at hp
 unfold CY g9
 refine aF (s:=[(false,.li .str)]) (y:=p.2.2.1) (by rw[mN,eB,iA hp.1];rfl) ?_
 refine aF (s:=[(false,.li .str)]) (y:=p.2.2.2.2) (by rw[mN,eB,iA hp.2];rfl) ?_
 rfl
theorem PT {α:Type}:∀ (xs pre:List α),cA (pre++xs) pre.length xs=pre++xs
 | [],pre=>rfl
 | x::xs,pre=>by
  unfold cA
  rw[show (pre++x::xs).set pre.length x=(pre++[x])++xs by simp,show pre.length+1=(pre++[x]).length by simp,PT xs (pre++[x])]
  simp
theorem GI {α:Type} (r:List α):cA r 0 r=r:=PT r []
def uD (d:aC):Bool:=(okD d&&YN d)&&((decide (d.2.1.length≤1000)&&decide (d.2.2.1.length≤1000))&&(decide (d.2.2.2.1.length≤1000)&&(decide (d.2.2.2.2.1.length≤1000)&&decide (d.2.2.2.2.2.length≤1000))))
structure OkC (d:aC):Prop where
 okD:okD d=true
 YN:YN d=true
 n:d.2.1.length≤1000
 p:d.2.2.1.length≤1000
 s:d.2.2.2.1.length≤1000
 k:d.2.2.2.2.1.length≤1000
 r:d.2.2.2.2.2.length≤1000
theorem dP {d:aC} (h:uD d=true):OkC d:=by
 simp only[uD,Bool.and_eq_true,decide_eq_true_eq] at h
 exact ⟨h.1.1,h.1.2,h.2.1.1,h.2.1.2,h.2.2.1,h.2.2.2.1,h.2.2.2.2⟩
theorem cY {b n:Nat} (hn:n≤1000) (hb:b≤1000):j3 b n=true:=by
 have:=Nat.mul_le_mul hn hb
 unfold j3
 rw[decide_eq_true (by omega),decide_eq_true (by omega)];rfl
def xE (d:aC):Option T:=match uD d with
 | true=>some (Sh.enc [(true,aE)] d)
 | false=>none
noncomputable def A2J:Env:=Env.of [(77,.dup 3 40),(78,.dup 6 72),(79,.dup 3 40),(80,.dup 18 208),(81,.dup 5 88),(82,.pure lZ),(83,.pure lY)]
def A2X:FuncId→Hint:=bV 38 [(4,.inv [.val 28 false (.int .i64),.arr 30 18 aO]),(9,.inv [.val 45 false (.int .i64),.arr 31 5 aG])] (fun _=>aX)
theorem AN5:aR Tryz.prog A2J:=aR.cons (x:=.dup 3 40) zK (aR.cons (x:=.dup 6 72) zM (aR.cons (x:=.dup 3 40) zJ (aR.cons (x:=.dup 18 208) zL (aR.cons (x:=.dup 5 88) mM (.cons KB (.cons KA (.nil _)))))))
def t2(a0:aC):List (List T):=List.map aG.enc a0.2.2.2.2.1
def t6(a0:aC):List (List T):=List.map aO.enc a0.2.2.1
def t7(a0:aC):List (List T):=List.map aQ.enc a0.2.2.2.2.2
def t8(s2:Int×List aY×PUnit):List (List T):=List.map aO.enc s2.2.1
def v6(s11:Int×List aM×PUnit):List (List T):=List.map aG.enc s11.2.1
def AC(a0:aC):List (List T):=List.map a7.enc a0.2.2.2.1
def AA2(a0:aC)(R:T→Prop):Prop:=bS (((List.map aZ.enc a0.2.1).all fun (r:List T)=>decide (r.length=3)) && decide ((List.map aZ.enc a0.2.1).length*40≤140737488355328) && decide ((List.map aZ.enc a0.2.1).length≤140737488355328)) (bS (((AC a0).all fun (r:List T)=>decide (r.length=6)) && decide ((AC a0).length*72≤140737488355328) && decide ((AC a0).length≤140737488355328)) (bS (((t7 a0).all fun (r:List T)=>decide (r.length=3)) && decide ((t7 a0).length*40≤140737488355328) && decide ((t7 a0).length≤140737488355328)) (bS (((t6 a0).all fun (r:List T)=>decide (r.length=18)) && decide ((t6 a0).length*208≤140737488355328) && decide ((t6 a0).length≤140737488355328)) (bS (((t2 a0).all fun (r:List T)=>decide (r.length=5)) && decide ((t2 a0).length*88≤140737488355328) && decide ((t2 a0).length≤140737488355328)) (cG aO (t6 a0) fun (y0:List aY)=>a6 (Int×List aY×PUnit) (fun X1 s2=>aB (decide (s2.1<(↑(t6 a0).length:Int))) (aS aO (t8 s2) s2.1 fun (y3:aY)=>nD aO (t8 s2) (Int.toNat s2.1) 0 fun (y4:aY)=>aJ [(true,aO)] (lZ [aH true aO y4]) fun (y5:aY)=>aS aO (t8 s2) s2.1 fun (y6:aY)=>NP (t8 s2) (Int.toNat s2.1) fun (y7:List T)=>bS (decide (18≤y7.length)) (cG aO ((t8 s2).set (Int.toNat s2.1) (cA y7 0 [T.v (.string y5.1), T.v (.int .i64 y5.2.1), T.v (.int .i64 y5.2.2.1), T.v (.string y5.2.2.2.1), T.v (.string y5.2.2.2.2.1), T.v (.int .i64 y5.2.2.2.2.2.1), T.sl false (List.map aA.enc y5.2.2.2.2.2.2.1.1), T.sl false (List.map aA.li.enc y5.2.2.2.2.2.2.1.2), T.v (.string y5.2.2.2.2.2.2.2.1), T.v (.int .i64 y5.2.2.2.2.2.2.2.2.1), T.v (Value.int IntKind.i64 y5.2.2.2.2.2.2.2.2.2.1), T.v (Value.int IntKind.i64 y5.2.2.2.2.2.2.2.2.2.2.1.1), T.v (Value.int IntKind.i64 y5.2.2.2.2.2.2.2.2.2.2.1.2.1), T.v (Value.int IntKind.i64 y5.2.2.2.2.2.2.2.2.2.2.1.2.2), T.v (Value.int IntKind.i64 y5.2.2.2.2.2.2.2.2.2.2.2.1.1), T.v (Value.int IntKind.i64 y5.2.2.2.2.2.2.2.2.2.2.2.1.2.1), T.v (Value.int IntKind.i64 y5.2.2.2.2.2.2.2.2.2.2.2.1.2.2), T.v (Value.int IntKind.i64 y5.2.2.2.2.2.2.2.2.2.2.2.2)])) fun (y8:List aY)=>X1 (IntKind.i64.wrap (s2.1+1),y8,()))) (cG aG (t2 a0) fun (y9:List aM)=>a6 (Int×List aM×PUnit) (fun X10 s11=>aB (decide (s11.1<(↑(t2 a0).length:Int))) (aS aG (v6 s11) s11.1 fun (y12:aM)=>nD aG (v6 s11) (Int.toNat s11.1) 0 fun (y13:aM)=>aJ [(true,aG)] (lY [aH true aG y13]) fun (y14:aM)=>aS aG (v6 s11) s11.1 fun (y15:aM)=>NP (v6 s11) (Int.toNat s11.1) fun (y16:List T)=>bS (decide (5≤y16.length)) (cG aG ((v6 s11).set (Int.toNat s11.1) (cA y16 0 [T.v (.string y14.1), T.v (.string y14.2.1), T.sl false (List.map Sy.str.enc y14.2.2.1), T.v (.int .i64 y14.2.2.2.1), T.sl false (List.map Sy.str.enc y14.2.2.2.2)])) fun (y17:List aM)=>X10 (IntKind.i64.wrap (s11.1+1),y17,()))) (R (T.agg [T.v (.string a0.1), T.sl false (List.map aZ.enc a0.2.1), T.sl false (t8 s2), T.sl false (AC a0), T.sl false (v6 s11), T.sl false (t7 a0)]))) (0,y9,()))) (0,y0,()))))))
abbrev AEI:Sh:=[(true,aE)]
noncomputable def eO:List T→Option T:=gS AEI xE
theorem iJ {a0}:eO [aH true aE a0]=xE (a0):=bD (s:=AEI) rfl (a0) rfl
theorem A0N:rA Tryz.prog 38 eO xE (cB AEI) AA2:=gF (a1:=(true,aE)) (sp:=xE) (F:=AA2) (Hs:=A2X) (f:=38) (k:=8) AN5 aT aW (aL rfl) ⟨_,_,Tryz.func38,rfl⟩ rfl fun _ _=>by kernel_rfl
theorem mL:aN Tryz.prog 38 eO:=A0N fun d r h hb=>by
 clear hb
 have hp:uD d=true:=by
  unfold xE at h
  split at h
  ·assumption
  ·cases h
 have e:Sh.enc [(true,aE)] d=r:=by
  unfold xE at h
  rw[hp] at h
  exact Option.some.inj h
 subst e
 clear h
 have c:=dP hp
 unfold AA2 AC v6 t8 t7 t6 t2
 refine ⟨uX (r:=aZ) rfl (cY c.n (by decide)),⟨uX (r:=a7) rfl (cY c.s (by decide)),⟨uX (r:=aQ) rfl (cY c.r (by decide)),⟨uX (r:=aO) rfl (cY c.p (by decide)),⟨uX (r:=aG) rfl (cY c.k (by decide)),?_⟩⟩⟩⟩⟩
 rw[dK (r:=aO) rfl]
 have hpn:=c.p
 have hkn:=c.k
 refine bG d.2.2.1.length (fun k s=>s=((k:Int),d.2.2.1,())) rfl ?_
 rintro X k s hk rfl hX
 dsimp only
 refine b6 (fun hlt=>?_) fun hge=>?_
 ·rw[List.length_map] at hlt
  have hlt:k<d.2.2.1.length:=by omega
  have hok:hO d.2.2.1[k]=true:=List.all_eq_true.1 c.okD _ (List.getElem_mem hlt)
  rw[bA (r:=aO) hlt,show Int.toNat (k:Int)=k from rfl,iW (r:=aO) hlt]
  refine aF (s:=[(true,aO)]) (y:=d.2.2.1[k]) ((BG ..).trans (by unfold iZ;rw[hok])) ?_
  rw[bA (r:=aO) hlt,tJ (r:=aO) hlt]
  refine ⟨by rw[Sy.dD];rfl,?_⟩
  have h1:(List.map aO.enc d.2.2.1).set k (cA (Sy.enc aO d.2.2.1[k]) 0 (Sy.enc aO d.2.2.1[k]))=List.map aO.enc d.2.2.1:=by rw[GI];exact CB (r:=aO) hlt
  refine (FU (r:=aO) rfl h1 ?_)
  refine hX _ hlt ?_
  simp only[Prod.mk.injEq,and_true]
  exact bB _ (by omega) (by omega)
 ·rw[dK (r:=aG) rfl]
  refine bG d.2.2.2.2.1.length (fun k s=>s=((k:Int),d.2.2.2.2.1,())) rfl ?_
  rintro Y j s hj rfl hY
  dsimp only
  refine b6 (fun hlt=>?_) fun hge=>rfl
  rw[List.length_map] at hlt
  have hlt:j<d.2.2.2.2.1.length:=by omega
  have hok:fX d.2.2.2.2.1[j]=true:=List.all_eq_true.1 c.YN _ (List.getElem_mem hlt)
  rw[bA (r:=aG) hlt,show Int.toNat (j:Int)=j from rfl,iW (r:=aG) hlt]
  refine aF (s:=[(true,aG)]) (y:=d.2.2.2.2.1[j]) ((BF ..).trans (by unfold iY;rw[hok])) ?_
  rw[bA (r:=aG) hlt,tJ (r:=aG) hlt]
  refine ⟨by rw[Sy.dD];rfl,?_⟩
  have h1:(List.map aG.enc d.2.2.2.2.1).set j (cA (Sy.enc aG d.2.2.2.2.1[j]) 0 (Sy.enc aG d.2.2.2.2.1[j]))=List.map aG.enc d.2.2.2.2.1:=by rw[GI];exact CB (r:=aG) hlt
  refine (FU (r:=aG) rfl h1 ?_)
  refine hY _ hlt ?_
  simp only[Prod.mk.injEq,and_true]
  exact bB _ (by omega) (by omega)
noncomputable def CO (x:a8×a8):Option T:=some (Sh.enc mD (rB x.1 x.2))
noncomputable def AW9:Env:=Env.of [(73,.pure o6)]
def AYO:FuncId→Hint:=bV 74 [(4,.inv [.val 13 false (.int .i64)])] (fun _=>aX)
theorem AIJ:aR Tryz.prog AW9:=.cons V8 (.nil _)
def EQ(a0:a8):List (List T):=List.map Sy.str.enc a0.2.2.2.2.2.2.1.2.2.2.2
def FS(a0:a8):List (List T):=List.map Sy.str.enc a0.2.2.2.2.2.2.1.2.2.1
def QX(a0:a8)(a1:a8)(R:T→Prop):Prop:=aB (decide (a0.1=a1.1)) (aB (decide (a0.2.1=a1.2.1)) (aB (decide (a0.2.2.1=a1.2.2.1)) (aB (decide (a0.2.2.2.1.1=a1.2.2.2.1.1) && (decide (a0.2.2.2.1.2.1=a1.2.2.2.1.2.1) && (decide (a0.2.2.2.1.2.2=a1.2.2.2.1.2.2)&&true))) (aJ d6 (o6 [aH true aO a0.2.2.2.2.1,aH true aO a1.2.2.2.2.1]) fun (y0:Bool)=>aB y0 (aB (decide (a0.2.2.2.2.2.1.1=a1.2.2.2.2.2.1.1) && (decide (a0.2.2.2.2.2.1.2.1=a1.2.2.2.2.2.1.2.1) && (decide (a0.2.2.2.2.2.1.2.2.1=a1.2.2.2.2.2.1.2.2.1) && (decide (a0.2.2.2.2.2.1.2.2.2.1=a1.2.2.2.2.2.1.2.2.2.1) && (decide (a0.2.2.2.2.2.1.2.2.2.2.1 = a1.2.2.2.2.2.1.2.2.2.2.1) && (decide (a0.2.2.2.2.2.1.2.2.2.2.2 = a1.2.2.2.2.2.1.2.2.2.2.2) && true)))))) (aB (decide (a0.2.2.2.2.2.2.2.1=a1.2.2.2.2.2.2.2.1) && (decide (a0.2.2.2.2.2.2.2.2.1=a1.2.2.2.2.2.2.2.2.1) && (decide (a0.2.2.2.2.2.2.2.2.2=a1.2.2.2.2.2.2.2.2.2)&&true))) (aB (decide (a0.2.2.2.2.2.2.1.1=a1.2.2.2.2.2.2.1.1)) (aB (decide (a0.2.2.2.2.2.2.1.2.1=a1.2.2.2.2.2.2.1.2.1)) (aB (decide (a0.2.2.2.2.2.2.1.2.2.2.1 = a1.2.2.2.2.2.2.1.2.2.2.1)) (aB (!decide ((↑(FS a0).length:Int) = (↑(FS a1).length:Int))) (R d3) (a6 (Int×PUnit) (fun X1 s2=>aB (decide (s2.1 < (↑(FS a0).length : Int))) (aS Sy.str (FS a0) s2.1 fun (y3:ByteArray)=>aS Sy.str (FS a1) s2.1 fun (y4:ByteArray)=>aB (!decide (y3=y4)) (R d3) (X1 (IntKind.i64.wrap (s2.1+1),()))) (aB (!decide ((↑(EQ a0).length : Int) = (↑(EQ a1).length : Int))) (R d3) (a6 (Int×PUnit) (fun X5 s6=>aB (decide (s6.1 < (↑(EQ a0).length : Int))) (aS Sy.str (EQ a0) s6.1 fun (y7:ByteArray)=>aS Sy.str (EQ a1) s6.1 fun (y8:ByteArray)=>aB (!decide (y7=y8)) (R d3) (X5 (IntKind.i64.wrap (s6.1+1),()))) (R d9)) (0,())))) (0,()))) (R d3)) (R d3)) (R d3)) (R d3)) (R d3)) (R d3)) (R d3)) (R d3)) (R d3)) (R d3)
abbrev S9:Sh:=[(true,aU),(true,aU)]
noncomputable def cL:List T→Option T:=gS S9 CO
theorem fT {a0 a1}:cL [aH true aU a0,aH true aU a1]=CO (a0,a1):=bD (s:=S9) rfl (a0,a1) rfl
theorem AU3:uH Tryz.prog 36 cL CO (cB S9) QX:=iK (a1:=(true,aU)) (a2:=(true,aU)) (sp:=CO) (F:=QX) (Hs:=AYO) (f:=36) (k:=8) AIJ aT aW (aL rfl) ⟨_,_,Tryz.func36,rfl⟩ rfl fun _ _ _=>by kernel_rfl
theorem jY:aN Tryz.prog 36 cL:=AU3 fun a b r h hb=>by
 cases h
 have no:¬ a=b→T.v (.bool false)=Sh.enc mD (rB a b):=fun h=>by rw[JZ h];rfl
 have yes:a=b→T.v (.bool true)=Sh.enc mD (rB a b):=fun h=>by rw[mJ.2 h];rfl
 have hl1:a.2.2.2.2.2.2.1.2.2.1.length≤2 ^ 47:=hb.1.2.2.2.2.2.2.1.2.2.1.1
 have hl2:a.2.2.2.2.2.2.1.2.2.2.2.length≤2 ^ 47:=hb.1.2.2.2.2.2.2.1.2.2.2.2.1
 clear hb
 unfold QX FS EQ d9 d6 d3
 refine o8 (fun h1=>?_) (fun h=>no fun e=>by simp[e] at h)
 refine o8 (fun h2=>?_) (fun h=>no fun e=>by simp[e] at h)
 refine o8 (fun h3=>?_) (fun h=>no fun e=>by simp[e] at h)
 refine o8 (fun h4=>?_) (fun h=>no fun e=>by simp[e] at h)
 refine aF (s:=mD) (y:=rB (a.2.2.2.2.1) (b.2.2.2.2.1)) (NH ..) ?_
 refine o8 (fun h5=>?_) (fun h=>no fun e=>by simp[e] at h)
 refine o8 (fun h6=>?_) (fun h=>no fun e=>by simp[e] at h)
 refine o8 (fun h7=>?_) (fun h=>no fun e=>by simp[e] at h)
 refine o8 (fun h8=>?_) (fun h=>no fun e=>by simp[e] at h)
 refine o8 (fun h9=>?_) (fun h=>no fun e=>by simp[e] at h)
 refine o8 (fun h10=>?_) (fun h=>no fun e=>by simp[e] at h)
 refine RG (r:=.str) hl1 (fun y z=>decide (y=z)) (fun x y=>decide_eq_true_iff) (fun h11=>?_) (fun h=>no fun e=>h (by rw[e]))
 refine RG (r:=.str) hl2 (fun y z=>decide (y=z)) (fun x y=>decide_eq_true_iff) (fun h12=>yes ?_) (fun h=>no fun e=>h (by rw[e]))
 simp only[Bool.and_true,Bool.and_eq_true,decide_eq_true_eq,mJ] at h1 h2 h3 h4 h5 h6 h7 h8 h9 h10
 simp only[Prod.ext_iff]
 exact ⟨h1,h2,h3,h4,by simpa only [Prod.ext_iff] using h5,h6,⟨h8,h9,h11,h10,h12⟩,h7⟩
end Go.Pv
namespace Go.Pv
open Go Go.Proofs
def zW (l:List ByteArray) (x:ByteArray):Bool:=l.any fun y=>decide (y=x)
theorem BY {l:List ByteArray} {x:ByteArray}:zW l x=true↔x∈l:=by
 simp only[zW,List.any_eq_true,decide_eq_true_eq]
 exact ⟨fun ⟨y,h,e⟩=>e ▸ h,fun h=>⟨x,h,rfl⟩⟩
def Sy.tl:Sy→Sy
 | .pr _ b=>b
 | x=>x
def EA:List ByteArray→Nat→List (ByteArray×Int)→List (ByteArray×Int)
 | [],_,es=>es
 | a::l,i,es=>EA l (i+1) (match iO es a with
  | none=>uJ es a (i:Int)
  | some _=>es)
def gQ (l:List ByteArray):List (ByteArray×Int):=EA l 0 []
def ids {α:Type} (l:List (ByteArray×α)):List ByteArray:=l.map fun x=>x.1
def nR {α β:Type} (l:List α) (r:β):Option β:=match decide (l.length≤140737488355328) with
 | true=>some r
 | false=>none
theorem iF {α β:Type} {l:List α} {t r:β} (h:nR l t=some r):l.length≤140737488355328∧r=t:=by
 unfold nR at h;split at h
 ·rename_i hc
  cases h;exact ⟨of_decide_eq_true hc,rfl⟩
 ·cases h
theorem fC {α β:Type} {l:List α} (t:β) (h:l.length≤140737488355328):nR l t=some t:=by unfold nR;rw[decide_eq_true h]
theorem AY9 (es:List (ByteArray×Int)):List.map (fun (e:Value×D)=>(e.1,TY e.2)) (List.map (cK Sy.str false (Sy.int IntKind.i64)) es)=bJ es:=by
 rw[List.map_map];rfl
theorem HR {r:Sy} {l:List (ByteArray×r.den)} (hl:l.length≤140737488355328) :
 dL Sy.str false (Sy.int IntKind.i64) [] fun (y0:List (ByteArray×Int)) =>
 a6 (List (ByteArray×Int)×Int×PUnit)
  (fun (X1:List (ByteArray×Int)×Int×PUnit→Prop) (s2:List (ByteArray×Int)×Int×PUnit) =>
   aB (decide (s2.2.1<(↑l.length:Int)))
    (aS (.pr .str r) (List.map (Sy.pr .str r).enc l) s2.2.1 fun (y3:ByteArray×r.den) =>
     fZ TypeDesc.string (Value.string y3.1)
      (List.map (cK Sy.str false (Sy.int IntKind.i64)) s2.1) false
      (Sy.int IntKind.i64)
      (aS (.pr .str r) (List.map (Sy.pr .str r).enc l) s2.2.1 fun (y7:ByteArray×r.den) =>
       nO (Option (Nat×D))
        (findD TypeDesc.string (Value.string y7.1)
         (List.map (cK Sy.str false (Sy.int IntKind.i64)) s2.1) 0)
        fun (y8:Option (Nat×D)) =>
        dL Sy.str false (Sy.int IntKind.i64)
         (eJ (List.map (cK Sy.str false (Sy.int IntKind.i64)) s2.1) y8
          (Value.string y7.1) (D.p (T.v (.int .i64 s2.2.1))))
         fun (y9:List (ByteArray×Int))=>X1 (y9,IntKind.i64.wrap (s2.2.1+1),()))
      fun (i4:Nat) (y5:Int) =>
      dL Sy.str false (Sy.int IntKind.i64)
       (List.map (cK Sy.str false (Sy.int IntKind.i64)) s2.1)
       fun (y6:List (ByteArray×Int))=>X1 (y6,IntKind.i64.wrap (s2.2.1+1),()))
    (bS
     ((List.map (cK Sy.str false (Sy.int IntKind.i64)) s2.1).all
      fun (e:Value×D)=>AK5 e.2)
     ((fun y=>y=T.mp (bJ (gQ (ids l))))
      (T.mp
       (List.map (fun (e:Value×D)=>(e.1,TY e.2))
        (List.map (cK Sy.str false (Sy.int IntKind.i64)) s2.1))))))
  (y0,0,()):=by
 refine mT (r:=.int .i64) rfl [] _ ?_
 refine bG l.length (fun k s=>∃ es,s=(es,(k:Int),())∧EA (ids (l.drop k)) k es=gQ (ids l)) ⟨[],rfl,rfl⟩ ?_
 rintro X k s hk ⟨es,rfl,hes⟩ hX
 dsimp only
 have hw:IntKind.i64.wrap ((k:Int)+1)=((k+1:Nat):Int):=bB _ (by omega) (by omega)
 by_cases hlt:k<l.length
 ·refine dC (by omega) ?_
  rw[bA (r:=.pr .str r) hlt]
  have hd:ids (l.drop k)=l[k].1::ids (l.drop (k+1)):=by rw[List.drop_eq_getElem_cons hlt];rfl
  rw[hd] at hes
  simp only[EA] at hes
  refine A5 (r:=.int .i64) (fun hno=>?_) (fun i v hv=>?_)
  ·rw[hno] at hes
   rw[bA (r:=.pr .str r) hlt]
   exact ATV (r:=.int .i64) rfl (v:=(k:Int)) (hX _ hlt ⟨_,by rw[hw],hes⟩)
  ·rw[hv] at hes
   exact mT (r:=.int .i64) rfl es _ (hX _ hlt ⟨_,by rw[hw],hes⟩)
 ·have:k=l.length:=by omega
  subst this
  refine dY (by omega) ?_
  rw[List.drop_length] at hes
  refine ⟨?_,?_⟩
  ·rw[List.all_eq_true]
   intro e he
   obtain ⟨x,_,rfl⟩:=List.mem_map.1 he
   rfl
  ·show T.mp _=_
   rw[AY9]
   rw[←hes]
   rfl
def rC (a0:aC):List T:=[T.v (.int .i64 (a0.2.1.length:Int)),T.fn 241 [] [T.ref [T.ref (aE.enc a0)]]]
noncomputable def AM5:Env:=Env.of []
def A1L:FuncId→Hint:=bV 240 [(3,.inv [.map 0 .str false (.int .i64),.val 12 false (.int .i64)])] (fun _=>aX)
theorem AXT:aR Tryz.prog AM5:=.nil _
def AO5(a0:aC)(R:T→Prop):Prop:=dL Sy.str false bF [] fun (y0:List aD)=>a6 (List aD×Int×PUnit) (fun X1 s2=>aB (decide (s2.2.1<(↑a0.2.1.length:Int))) (aS aZ (List.map aZ.enc a0.2.1) s2.2.1 fun (y3:bI)=>fZ TypeDesc.string (Value.string y3.1) (List.map (cK Sy.str false bF) s2.1) false bF (aS aZ (List.map aZ.enc a0.2.1) s2.2.1 fun (y7:bI)=>nO (Option (Nat×D)) (findD TypeDesc.string (Value.string y7.1) (List.map (cK Sy.str false bF) s2.1) 0) fun (y8:Option (Nat×D))=>dL Sy.str false bF (eJ (List.map (cK Sy.str false bF) s2.1) y8 (Value.string y7.1) (D.p (T.v (.int .i64 s2.2.1)))) fun (y9:List aD)=>X1 (y9,IntKind.i64.wrap (s2.2.1+1),())) fun (i4:Nat) (y5:Int)=>dL Sy.str false bF (List.map (cK Sy.str false bF) s2.1) fun (y6:List aD)=>X1 (y6,IntKind.i64.wrap (s2.2.1+1),())) (bS ((List.map (cK Sy.str false bF) s2.1).all fun (e:Value×D)=>AK5 e.2) (R (T.mp (List.map (fun (e:Value×D)=>(e.1,TY e.2)) (List.map (cK Sy.str false bF) s2.1)))))) (y0,0,())
theorem AO6 ( a0 R):tW bZ Tryz.prog AM5 A1L 8 240 (rC a0) R=AO5 a0 R:=by kernel_rfl
def AE3 (d:aC):Option (List (ByteArray×Int)):=nR d.2.1 (gQ (ids d.2.1))
theorem AHI (d d':aC) (h:rC d=rC d'):d=d':=by
 unfold rC at h
 simp only[List.cons.injEq,T.fn.injEq,T.ref.injEq,and_true,true_and] at h
 exact Sy.dI aE _ _ h.2
noncomputable def WN:List T→Option (List (ByteArray×Int)):=gA (fun (x:aC)=>rC x) AE3
theorem AS1 (a0:aC):WN (rC a0)=AE3 a0:=e8 (A:=(fun (x:aC)=>rC x)) AHI a0
theorem A5S (h:∀ (a0:aC) (r:List (ByteArray×Int)),AE3 a0=some r→(∀ t∈rC a0,Bd t)→AO5 a0 (fun y=>y = .mp (bJ r))):jN Tryz.prog 240 (qW WN) :=
 A8 (E:=AM5) (Hs:=A1L) AXT aT aW (aL rfl) 8 ⟨_,_,Tryz.func240,rfl⟩ fun x r h1 h2=>by
  rw[AO6]
  exact h x r h1 h2
theorem A31:jN Tryz.prog 240 (qW WN):=A5S fun d r h hb=>by
 obtain ⟨hl,rfl⟩:=iF h
 unfold AO5 bF
 exact HR (r:=aZ.tl) (l:=d.2.1) hl
def rD (a0:aC):List T:=[T.v (.int .i64 (a0.2.2.1.length:Int)),T.fn 242 [] [T.ref [T.ref (aE.enc a0)]]]
noncomputable def AM6:Env:=Env.of []
def A1M:FuncId→Hint:=bV 240 [(3,.inv [.map 0 .str false (.int .i64),.val 12 false (.int .i64)])] (fun _=>aX)
theorem AXU:aR Tryz.prog AM6:=.nil _
def AO7(a0:aC)(R:T→Prop):Prop:=dL Sy.str false bF [] fun (y0:List aD)=>a6 (List aD×Int×PUnit) (fun X1 s2=>aB (decide (s2.2.1<(↑a0.2.2.1.length:Int))) (aS aO (List.map aO.enc a0.2.2.1) s2.2.1 fun (y3:aY)=>fZ TypeDesc.string (Value.string y3.1) (List.map (cK Sy.str false bF) s2.1) false bF (aS aO (List.map aO.enc a0.2.2.1) s2.2.1 fun (y7:aY)=>nO (Option (Nat×D)) (findD TypeDesc.string (Value.string y7.1) (List.map (cK Sy.str false bF) s2.1) 0) fun (y8:Option (Nat×D))=>dL Sy.str false bF (eJ (List.map (cK Sy.str false bF) s2.1) y8 (Value.string y7.1) (D.p (T.v (.int .i64 s2.2.1)))) fun (y9:List aD)=>X1 (y9,IntKind.i64.wrap (s2.2.1+1),())) fun (i4:Nat) (y5:Int)=>dL Sy.str false bF (List.map (cK Sy.str false bF) s2.1) fun (y6:List aD)=>X1 (y6,IntKind.i64.wrap (s2.2.1+1),())) (bS ((List.map (cK Sy.str false bF) s2.1).all fun (e:Value×D)=>AK5 e.2) (R (T.mp (List.map (fun (e:Value×D)=>(e.1,TY e.2)) (List.map (cK Sy.str false bF) s2.1)))))) (y0,0,())
theorem AO8 ( a0 R):tW bZ Tryz.prog AM6 A1M 8 240 (rD a0) R=AO7 a0 R:=by kernel_rfl
def AE4 (d:aC):Option (List (ByteArray×Int)):=nR d.2.2.1 (gQ (ids d.2.2.1))
theorem AHJ (d d':aC) (h:rD d=rD d'):d=d':=by
 unfold rD at h
 simp only[List.cons.injEq,T.fn.injEq,T.ref.injEq,and_true,true_and] at h
 exact Sy.dI aE _ _ h.2
noncomputable def WO:List T→Option (List (ByteArray×Int)):=gA (fun (x:aC)=>rD x) AE4
theorem AS2 (a0:aC):WO (rD a0)=AE4 a0:=e8 (A:=(fun (x:aC)=>rD x)) AHJ a0
theorem A5T (h:∀ (a0:aC) (r:List (ByteArray×Int)),AE4 a0=some r→(∀ t∈rD a0,Bd t)→AO7 a0 (fun y=>y = .mp (bJ r))):jN Tryz.prog 240 (qW WO) :=
 A8 (E:=AM6) (Hs:=A1M) AXU aT aW (aL rfl) 8 ⟨_,_,Tryz.func240,rfl⟩ fun x r h1 h2=>by
  rw[AO8]
  exact h x r h1 h2
theorem A32:jN Tryz.prog 240 (qW WO):=A5T fun d r h hb=>by
 obtain ⟨hl,rfl⟩:=iF h
 unfold AO7 bF
 exact HR (r:=aO.tl) (l:=d.2.2.1) hl
def rE (a0:aC):List T:=[T.v (.int .i64 (a0.2.2.2.1.length:Int)),T.fn 243 [] [T.ref [T.ref (aE.enc a0)]]]
noncomputable def AM7:Env:=Env.of []
def A1N:FuncId→Hint:=bV 240 [(3,.inv [.map 0 .str false (.int .i64),.val 12 false (.int .i64)])] (fun _=>aX)
theorem AXV:aR Tryz.prog AM7:=.nil _
def AO9(a0:aC)(R:T→Prop):Prop:=dL Sy.str false bF [] fun (y0:List aD)=>a6 (List aD×Int×PUnit) (fun X1 s2=>aB (decide (s2.2.1<(↑a0.2.2.2.1.length:Int))) (aS a7 (List.map a7.enc a0.2.2.2.1) s2.2.1 fun (y3:bK)=>fZ TypeDesc.string (Value.string y3.1) (List.map (cK Sy.str false bF) s2.1) false bF (aS a7 (List.map a7.enc a0.2.2.2.1) s2.2.1 fun (y7:bK)=>nO (Option (Nat×D)) (findD TypeDesc.string (Value.string y7.1) (List.map (cK Sy.str false bF) s2.1) 0) fun (y8:Option (Nat×D))=>dL Sy.str false bF (eJ (List.map (cK Sy.str false bF) s2.1) y8 (Value.string y7.1) (D.p (T.v (.int .i64 s2.2.1)))) fun (y9:List aD)=>X1 (y9,IntKind.i64.wrap (s2.2.1+1),())) fun (i4:Nat) (y5:Int)=>dL Sy.str false bF (List.map (cK Sy.str false bF) s2.1) fun (y6:List aD)=>X1 (y6,IntKind.i64.wrap (s2.2.1+1),())) (bS ((List.map (cK Sy.str false bF) s2.1).all fun (e:Value×D)=>AK5 e.2) (R (T.mp (List.map (fun (e:Value×D)=>(e.1,TY e.2)) (List.map (cK Sy.str false bF) s2.1)))))) (y0,0,())
theorem APA ( a0 R):tW bZ Tryz.prog AM7 A1N 8 240 (rE a0) R=AO9 a0 R:=by kernel_rfl
def AE5 (d:aC):Option (List (ByteArray×Int)):=nR d.2.2.2.1 (gQ (ids d.2.2.2.1))
theorem AHK (d d':aC) (h:rE d=rE d'):d=d':=by
 unfold rE at h
 simp only[List.cons.injEq,T.fn.injEq,T.ref.injEq,and_true,true_and] at h
 exact Sy.dI aE _ _ h.2
noncomputable def WQ:List T→Option (List (ByteArray×Int)):=gA (fun (x:aC)=>rE x) AE5
theorem AS3 (a0:aC):WQ (rE a0)=AE5 a0:=e8 (A:=(fun (x:aC)=>rE x)) AHK a0
theorem A5U (h:∀ (a0:aC) (r:List (ByteArray×Int)),AE5 a0=some r→(∀ t∈rE a0,Bd t)→AO9 a0 (fun y=>y = .mp (bJ r))):jN Tryz.prog 240 (qW WQ) :=
 A8 (E:=AM7) (Hs:=A1N) AXV aT aW (aL rfl) 8 ⟨_,_,Tryz.func240,rfl⟩ fun x r h1 h2=>by
  rw[APA]
  exact h x r h1 h2
theorem A33:jN Tryz.prog 240 (qW WQ):=A5U fun d r h hb=>by
 obtain ⟨hl,rfl⟩:=iF h
 unfold AO9 bF
 exact HR (r:=a7.tl) (l:=d.2.2.2.1) hl
def rF (a0:aC):List T:=[T.v (.int .i64 (a0.2.2.2.2.1.length:Int)),T.fn 244 [] [T.ref [T.ref (aE.enc a0)]]]
noncomputable def AM8:Env:=Env.of []
def A1O:FuncId→Hint:=bV 240 [(3,.inv [.map 0 .str false (.int .i64),.val 12 false (.int .i64)])] (fun _=>aX)
theorem AXW:aR Tryz.prog AM8:=.nil _
def APB(a0:aC)(R:T→Prop):Prop:=dL Sy.str false bF [] fun (y0:List aD)=>a6 (List aD×Int×PUnit) (fun X1 s2=>aB (decide (s2.2.1<(↑a0.2.2.2.2.1.length:Int))) (aS aG (List.map aG.enc a0.2.2.2.2.1) s2.2.1 fun (y3:aM)=>fZ TypeDesc.string (Value.string y3.1) (List.map (cK Sy.str false bF) s2.1) false bF (aS aG (List.map aG.enc a0.2.2.2.2.1) s2.2.1 fun (y7:aM)=>nO (Option (Nat×D)) (findD TypeDesc.string (Value.string y7.1) (List.map (cK Sy.str false bF) s2.1) 0) fun (y8:Option (Nat×D))=>dL Sy.str false bF (eJ (List.map (cK Sy.str false bF) s2.1) y8 (Value.string y7.1) (D.p (T.v (.int .i64 s2.2.1)))) fun (y9:List aD)=>X1 (y9,IntKind.i64.wrap (s2.2.1+1),())) fun (i4:Nat) (y5:Int)=>dL Sy.str false bF (List.map (cK Sy.str false bF) s2.1) fun (y6:List aD)=>X1 (y6,IntKind.i64.wrap (s2.2.1+1),())) (bS ((List.map (cK Sy.str false bF) s2.1).all fun (e:Value×D)=>AK5 e.2) (R (T.mp (List.map (fun (e:Value×D)=>(e.1,TY e.2)) (List.map (cK Sy.str false bF) s2.1)))))) (y0,0,())
theorem APC ( a0 R):tW bZ Tryz.prog AM8 A1O 8 240 (rF a0) R=APB a0 R:=by kernel_rfl
def AE6 (d:aC):Option (List (ByteArray×Int)):=nR d.2.2.2.2.1 (gQ (ids d.2.2.2.2.1))
theorem AHL (d d':aC) (h:rF d=rF d'):d=d':=by
 unfold rF at h
 simp only[List.cons.injEq,T.fn.injEq,T.ref.injEq,and_true,true_and] at h
 exact Sy.dI aE _ _ h.2
noncomputable def WR:List T→Option (List (ByteArray×Int)):=gA (fun (x:aC)=>rF x) AE6
theorem AS4 (a0:aC):WR (rF a0)=AE6 a0:=e8 (A:=(fun (x:aC)=>rF x)) AHL a0
theorem A5V (h:∀ (a0:aC) (r:List (ByteArray×Int)),AE6 a0=some r→(∀ t∈rF a0,Bd t)→APB a0 (fun y=>y = .mp (bJ r))):jN Tryz.prog 240 (qW WR) :=
 A8 (E:=AM8) (Hs:=A1O) AXW aT aW (aL rfl) 8 ⟨_,_,Tryz.func240,rfl⟩ fun x r h1 h2=>by
  rw[APC]
  exact h x r h1 h2
theorem A34:jN Tryz.prog 240 (qW WR):=A5V fun d r h hb=>by
 obtain ⟨hl,rfl⟩:=iF h
 unfold APB bF
 exact HR (r:=aG.tl) (l:=d.2.2.2.2.1) hl
end Go.Pv
namespace Go.Pv
open Go Go.Proofs
def orG {α:Type} (g1 g2:List T→Option α) (a:List T):Option α:=match g1 a with
 | some r=>some r
 | none=>g2 a
theorem LQ {α:Type} {g1 g2:List T→Option α} {a:List T} {r:α} (h:g1 a=some r):orG g1 g2 a=some r:=by unfold orG;rw[h]
theorem nS {α:Type} {g1 g2:List T→Option α} {a:List T} (h:g1 a=none):orG g1 g2 a=g2 a:=by unfold orG;rw[h]
theorem PK {α:Type} {g1 g2:List T→Option α} {a:List T} {r:α} (h:orG g1 g2 a=some r):g1 a=some r∨g2 a=some r:=by
 unfold orG at h
 split at h
 ·rename_i r' h1;cases h;exact .inl h1
 ·exact .inr h
theorem aN.or {P:Program} {f:FuncId} {g1 g2:List T→Option T} (h1:aN P f g1) (h2:aN P f g2):aN P f (orG g1 g2):=⟨h1.entry,fun w own args vs r hG ho ha hr=>by
 rcases PK hr with h|h
 ·exact h1.calls w own args vs r hG ho ha h
 ·exact h2.calls w own args vs r hG ho ha h⟩
theorem jN.orM {P:Program} {f:FuncId} {g1 g2:List T→Option (List (ByteArray×Int))} (h1:jN P f (qW g1)) (h2:jN P f (qW g2)):jN P f (qW (orG g1 g2)):=⟨h1.entry,fun w own args vs r hG ho ha hr=>by
 simp only[qW,Option.map_eq_some_iff] at hr
 obtain ⟨es,h,rfl⟩:=hr
 rcases PK h with h|h
 ·exact h1.calls w own args vs _ hG ho ha (by simp[qW,h])
 ·exact h2.calls w own args vs _ hG ho ha (by simp[qW,h])⟩
noncomputable def AKT:List T→Option (List (ByteArray×Int)):=orG WN (orG WO (orG WQ WR))
theorem A8S:jN Tryz.prog 240 (qW AKT):=.orM A31 (.orM A32 (.orM A33 A34))
theorem gG {α X:Type} {A:X→List T} {sp:X→Option α} {args:List T} (h:∀ x,args≠A x):gA A sp args=none:=by
 unfold gA;rw[dif_neg];rintro ⟨x,hx⟩;exact h x hx
def pJ:List ByteArray→Bool
 | a::b::l=>!(cE b a||decide (b=a))&&pJ (b::l)
 | _=>true
theorem VG {l:List ByteArray} {k:Nat} (h:k+1<l.length):pJ (l.drop k)=(!(cE l[k+1] l[k]||decide (l[k+1]=l[k]))&&pJ (l.drop (k+1))):=by
 rw[List.drop_eq_getElem_cons (show k<l.length by omega),List.drop_eq_getElem_cons h,pJ]
theorem AFS {l:List ByteArray} {k:Nat} (h:l.length≤k+1):pJ (l.drop k)=true:=by
 rcases Nat.lt_or_ge k l.length with h1|h1
 ·rw[List.drop_eq_getElem_cons h1,List.drop_eq_nil_of_le h];rfl
 ·rw[List.drop_eq_nil_of_le h1];rfl
theorem B9 {r:Sy} {p:r.den→ByteArray} {l:List r.den} (hl:l.length≤140737488355328) {R:T→Prop} (hR:R (T.v (.bool (pJ (l.map p))))) :
 a6 (Int×PUnit)
 (fun (X0:Int×PUnit→Prop) (s1:Int×PUnit) =>
  aB (decide (s1.1<(↑l.length:Int)))
   (aS r (List.map r.enc l) s1.1 fun (y2:r.den) =>
    aS r (List.map r.enc l) (IntKind.i64.wrap (s1.1-1))
     fun (y3:r.den) =>
     aB (cE (p y2) (p y3)||decide (p y2=p y3)) (R (T.v (.bool false)))
      (X0 (IntKind.i64.wrap (s1.1+1),())))
   (R (T.v (.bool true))))
 (1,()):=by
 refine bG l.length (fun k s=>s=(((k+1:Nat):Int),())∧pJ (l.map p)=pJ ((l.map p).drop k)) ⟨rfl,by rw[List.drop_zero]⟩ ?_
 rintro X k s hk ⟨rfl,he⟩ hX
 dsimp only
 have hw:IntKind.i64.wrap (((k+1:Nat):Int)+1)=((k+1+1:Nat):Int):=bB _ (by omega) (by omega)
 have hw1:IntKind.i64.wrap (((k+1:Nat):Int)-1)=((k:Nat):Int):=by rw[bB _ (by omega) (by omega)];omega
 by_cases hlt:k+1<l.length
 ·refine dC (by omega) ?_
  rw[bA hlt,hw1,bA (show k<l.length by omega)]
  rw[VG (by rw[List.length_map];exact hlt)] at he
  rw[List.getElem_map,List.getElem_map] at he
  cases hc:(cE (p l[k+1]) (p l[k])||decide (p l[k+1]=p l[k])) with
  | true =>
   rw[iV]
   rw[hc,Bool.not_true,Bool.false_and] at he
   rwa[he] at hR
  | false =>
   rw[lK]
   rw[hc,Bool.not_false,Bool.true_and] at he
   exact hX _ (by omega) ⟨by rw[hw],he⟩
 ·refine dY (by omega) ?_
  rw[AFS (by rw[List.length_map];omega)] at he
  rwa[he] at hR
def pW (a0:List ByteArray):List T:=[T.v (.int .i64 (a0.length:Int)),T.fn 319 [] [T.ref [T.sl false (List.map Sy.str.enc a0)]]]
noncomputable def ANV:Env:=Env.of []
def A1U:FuncId→Hint:=bV 245 [(2,.inv [.val 5 false (.int .i64)])] (fun _=>aX)
theorem AYA:aR Tryz.prog ANV:=.nil _
def APV(a0:List ByteArray)(R:T→Prop):Prop:=a6 (Int×PUnit) (fun X0 s1=>aB (decide (s1.1<(↑a0.length:Int))) (aS Sy.str (List.map Sy.str.enc a0) s1.1 fun (y2:ByteArray)=>aS Sy.str (List.map Sy.str.enc a0) (IntKind.i64.wrap (s1.1-1)) fun (y3:ByteArray)=>aB (cE y2 y3||decide (y2=y3)) (R d3) (X0 (IntKind.i64.wrap (s1.1+1),()))) (R d9)) (1,())
theorem APW ( a0 R):dS bZ Tryz.prog ANV A1U 8 245 (pW a0) R=APV a0 R:=by kernel_rfl
def AFC (l:List ByteArray):Option T:=nR l (T.v (.bool (pJ l)))
theorem AHR (d d':List ByteArray) (h:pW d=pW d'):d=d':=by
 unfold pW at h
 simp only[List.cons.injEq,T.fn.injEq,T.ref.injEq,and_true,true_and,T.sl.injEq] at h
 exact map_inj (Sy.dI .str) h.2
noncomputable def XH:List T→Option (T):=gA (fun (x:List ByteArray)=>pW x) AFC
theorem ATI (a0:List ByteArray):XH (pW a0)=AFC a0:=e8 (A:=(fun (x:List ByteArray)=>pW x)) AHR a0
theorem A59 (h:∀ (a0:List ByteArray) (r:T),AFC a0=some r→(∀ t∈pW a0,Bd t)→APV a0 (fun y=>y=r)):aN Tryz.prog 245 XH :=
 cQ (E:=ANV) (Hs:=A1U) AYA aT aW (aL rfl) 8 ⟨_,_,Tryz.func245,rfl⟩ fun x r h1 h2=>by
  rw[APW]
  exact h x r h1 h2
theorem A4I:aN Tryz.prog 245 XH:=A59 fun l r h hb=>by
 obtain ⟨hl,rfl⟩:=iF h
 unfold APV d9 d3
 exact B9 (r:=.str) (p:=fun y=>y) (R:=fun y=>y=T.v (.bool (pJ l))) hl (by simp)
def pS (a0:aC):List T:=[T.v (.int .i64 (a0.2.1.length:Int)),T.fn 246 [] [T.ref [T.ref (aE.enc a0)]]]
noncomputable def ANR:Env:=Env.of []
def A1Q:FuncId→Hint:=bV 245 [(2,.inv [.val 5 false (.int .i64)])] (fun _=>aX)
theorem AX6:aR Tryz.prog ANR:=.nil _
def APN(a0:aC)(R:T→Prop):Prop:=a6 (Int×PUnit) (fun X0 s1=>aB (decide (s1.1<(↑a0.2.1.length:Int))) (aS aZ (List.map aZ.enc a0.2.1) s1.1 fun (y2:bI)=>aS aZ (List.map aZ.enc a0.2.1) (IntKind.i64.wrap (s1.1-1)) fun (y3:bI)=>aB (cE y2.1 y3.1||decide (y2.1=y3.1)) (R d3) (X0 (IntKind.i64.wrap (s1.1+1),()))) (R d9)) (1,())
theorem APO ( a0 R):dS bZ Tryz.prog ANR A1Q 8 245 (pS a0) R=APN a0 R:=by kernel_rfl
def AE8 (d:aC):Option T:=nR d.2.1 (T.v (.bool (pJ (ids d.2.1))))
theorem AHN (d d':aC) (h:pS d=pS d'):d=d':=by
 unfold pS at h
 simp only[List.cons.injEq,T.fn.injEq,T.ref.injEq,and_true,true_and] at h
 exact Sy.dI aE _ _ h.2
noncomputable def XD:List T→Option (T):=gA (fun (x:aC)=>pS x) AE8
theorem ATE (a0:aC):XD (pS a0)=AE8 a0:=e8 (A:=(fun (x:aC)=>pS x)) AHN a0
theorem A55 (h:∀ (a0:aC) (r:T),AE8 a0=some r→(∀ t∈pS a0,Bd t)→APN a0 (fun y=>y=r)):aN Tryz.prog 245 XD :=
 cQ (E:=ANR) (Hs:=A1Q) AX6 aT aW (aL rfl) 8 ⟨_,_,Tryz.func245,rfl⟩ fun x r h1 h2=>by
  rw[APO]
  exact h x r h1 h2
theorem A4E:aN Tryz.prog 245 XD:=A55 fun d r h hb=>by
 obtain ⟨hl,rfl⟩:=iF h
 unfold APN d9 d3
 exact B9 (r:=aZ) (p:=fun y=>y.1) (R:=fun y=>y=T.v (.bool (pJ (ids d.2.1)))) hl rfl
def pT (a0:aC):List T:=[T.v (.int .i64 (a0.2.2.1.length:Int)),T.fn 247 [] [T.ref [T.ref (aE.enc a0)]]]
noncomputable def ANS:Env:=Env.of []
def A1R:FuncId→Hint:=bV 245 [(2,.inv [.val 5 false (.int .i64)])] (fun _=>aX)
theorem AX7:aR Tryz.prog ANS:=.nil _
def APP(a0:aC)(R:T→Prop):Prop:=a6 (Int×PUnit) (fun X0 s1=>aB (decide (s1.1<(↑a0.2.2.1.length:Int))) (aS aO (List.map aO.enc a0.2.2.1) s1.1 fun (y2:aY)=>aS aO (List.map aO.enc a0.2.2.1) (IntKind.i64.wrap (s1.1-1)) fun (y3:aY)=>aB (cE y2.1 y3.1||decide (y2.1=y3.1)) (R d3) (X0 (IntKind.i64.wrap (s1.1+1),()))) (R d9)) (1,())
theorem APQ ( a0 R):dS bZ Tryz.prog ANS A1R 8 245 (pT a0) R=APP a0 R:=by kernel_rfl
def AE9 (d:aC):Option T:=nR d.2.2.1 (T.v (.bool (pJ (ids d.2.2.1))))
theorem AHO (d d':aC) (h:pT d=pT d'):d=d':=by
 unfold pT at h
 simp only[List.cons.injEq,T.fn.injEq,T.ref.injEq,and_true,true_and] at h
 exact Sy.dI aE _ _ h.2
noncomputable def XE:List T→Option (T):=gA (fun (x:aC)=>pT x) AE9
theorem ATF (a0:aC):XE (pT a0)=AE9 a0:=e8 (A:=(fun (x:aC)=>pT x)) AHO a0
theorem A56 (h:∀ (a0:aC) (r:T),AE9 a0=some r→(∀ t∈pT a0,Bd t)→APP a0 (fun y=>y=r)):aN Tryz.prog 245 XE :=
 cQ (E:=ANS) (Hs:=A1R) AX7 aT aW (aL rfl) 8 ⟨_,_,Tryz.func245,rfl⟩ fun x r h1 h2=>by
  rw[APQ]
  exact h x r h1 h2
theorem A4F:aN Tryz.prog 245 XE:=A56 fun d r h hb=>by
 obtain ⟨hl,rfl⟩:=iF h
 unfold APP d9 d3
 exact B9 (r:=aO) (p:=fun y=>y.1) (R:=fun y=>y=T.v (.bool (pJ (ids d.2.2.1)))) hl rfl
def pU (a0:aC):List T:=[T.v (.int .i64 (a0.2.2.2.1.length:Int)),T.fn 248 [] [T.ref [T.ref (aE.enc a0)]]]
noncomputable def ANT:Env:=Env.of []
def A1S:FuncId→Hint:=bV 245 [(2,.inv [.val 5 false (.int .i64)])] (fun _=>aX)
theorem AX8:aR Tryz.prog ANT:=.nil _
def APR(a0:aC)(R:T→Prop):Prop:=a6 (Int×PUnit) (fun X0 s1=>aB (decide (s1.1<(↑a0.2.2.2.1.length:Int))) (aS a7 (List.map a7.enc a0.2.2.2.1) s1.1 fun (y2:bK)=>aS a7 (List.map a7.enc a0.2.2.2.1) (IntKind.i64.wrap (s1.1-1)) fun (y3:bK)=>aB (cE y2.1 y3.1||decide (y2.1=y3.1)) (R d3) (X0 (IntKind.i64.wrap (s1.1+1),()))) (R d9)) (1,())
theorem APS ( a0 R):dS bZ Tryz.prog ANT A1S 8 245 (pU a0) R=APR a0 R:=by kernel_rfl
def AFA (d:aC):Option T:=nR d.2.2.2.1 (T.v (.bool (pJ (ids d.2.2.2.1))))
theorem AHP (d d':aC) (h:pU d=pU d'):d=d':=by
 unfold pU at h
 simp only[List.cons.injEq,T.fn.injEq,T.ref.injEq,and_true,true_and] at h
 exact Sy.dI aE _ _ h.2
noncomputable def XF:List T→Option (T):=gA (fun (x:aC)=>pU x) AFA
theorem ATG (a0:aC):XF (pU a0)=AFA a0:=e8 (A:=(fun (x:aC)=>pU x)) AHP a0
theorem A57 (h:∀ (a0:aC) (r:T),AFA a0=some r→(∀ t∈pU a0,Bd t)→APR a0 (fun y=>y=r)):aN Tryz.prog 245 XF :=
 cQ (E:=ANT) (Hs:=A1S) AX8 aT aW (aL rfl) 8 ⟨_,_,Tryz.func245,rfl⟩ fun x r h1 h2=>by
  rw[APS]
  exact h x r h1 h2
theorem A4G:aN Tryz.prog 245 XF:=A57 fun d r h hb=>by
 obtain ⟨hl,rfl⟩:=iF h
 unfold APR d9 d3
 exact B9 (r:=a7) (p:=fun y=>y.1) (R:=fun y=>y=T.v (.bool (pJ (ids d.2.2.2.1)))) hl rfl
def pV (a0:aC):List T:=[T.v (.int .i64 (a0.2.2.2.2.1.length:Int)),T.fn 249 [] [T.ref [T.ref (aE.enc a0)]]]
noncomputable def ANU:Env:=Env.of []
def A1T:FuncId→Hint:=bV 245 [(2,.inv [.val 5 false (.int .i64)])] (fun _=>aX)
theorem AX9:aR Tryz.prog ANU:=.nil _
def APT(a0:aC)(R:T→Prop):Prop:=a6 (Int×PUnit) (fun X0 s1=>aB (decide (s1.1<(↑a0.2.2.2.2.1.length:Int))) (aS aG (List.map aG.enc a0.2.2.2.2.1) s1.1 fun (y2:aM)=>aS aG (List.map aG.enc a0.2.2.2.2.1) (IntKind.i64.wrap (s1.1-1)) fun (y3:aM)=>aB (cE y2.1 y3.1||decide (y2.1=y3.1)) (R d3) (X0 (IntKind.i64.wrap (s1.1+1),()))) (R d9)) (1,())
theorem APU ( a0 R):dS bZ Tryz.prog ANU A1T 8 245 (pV a0) R=APT a0 R:=by kernel_rfl
def AFB (d:aC):Option T:=nR d.2.2.2.2.1 (T.v (.bool (pJ (ids d.2.2.2.2.1))))
theorem AHQ (d d':aC) (h:pV d=pV d'):d=d':=by
 unfold pV at h
 simp only[List.cons.injEq,T.fn.injEq,T.ref.injEq,and_true,true_and] at h
 exact Sy.dI aE _ _ h.2
noncomputable def XG:List T→Option (T):=gA (fun (x:aC)=>pV x) AFB
theorem ATH (a0:aC):XG (pV a0)=AFB a0:=e8 (A:=(fun (x:aC)=>pV x)) AHQ a0
theorem A58 (h:∀ (a0:aC) (r:T),AFB a0=some r→(∀ t∈pV a0,Bd t)→APT a0 (fun y=>y=r)):aN Tryz.prog 245 XG :=
 cQ (E:=ANU) (Hs:=A1T) AX9 aT aW (aL rfl) 8 ⟨_,_,Tryz.func245,rfl⟩ fun x r h1 h2=>by
  rw[APU]
  exact h x r h1 h2
theorem A4H:aN Tryz.prog 245 XG:=A58 fun d r h hb=>by
 obtain ⟨hl,rfl⟩:=iF h
 unfold APT d9 d3
 exact B9 (r:=aG) (p:=fun y=>y.1) (R:=fun y=>y=T.v (.bool (pJ (ids d.2.2.2.2.1)))) hl rfl
noncomputable def uI:List T→Option T:=orG XD (orG XE (orG XF (orG XG XH)))
theorem A10:aN Tryz.prog 245 uI:=.or A4E (.or A4F (.or A4G (.or A4H A4I)))
theorem A4L {d:aC} (h:d.2.1.length≤140737488355328):AKT (rC d)=some (gQ (ids d.2.1)):=by
 have h1:WN (rC d)=some (gQ (ids d.2.1)):=by rw[AS1];exact fC _ h
 exact (LQ h1)
theorem A4P {d:aC} (h:d.2.1.length≤140737488355328):uI (pS d)=some (T.v (.bool (pJ (ids d.2.1)))):=by
 have h1:XD (pS d)=some (T.v (.bool (pJ (ids d.2.1)))):=by rw[ATE];exact fC _ h
 exact (LQ h1)
theorem A4M {d:aC} (h:d.2.2.1.length≤140737488355328):AKT (rD d)=some (gQ (ids d.2.2.1)):=by
 have h1:WO (rD d)=some (gQ (ids d.2.2.1)):=by rw[AS2];exact fC _ h
 exact ((nS (gG fun x h=>by simp[rC,rD] at h)).trans (LQ h1))
theorem A4Q {d:aC} (h:d.2.2.1.length≤140737488355328):uI (pT d)=some (T.v (.bool (pJ (ids d.2.2.1)))):=by
 have h1:XE (pT d)=some (T.v (.bool (pJ (ids d.2.2.1)))):=by rw[ATF];exact fC _ h
 exact ((nS (gG fun x h=>by simp[pS,pT] at h)).trans (LQ h1))
theorem A4N {d:aC} (h:d.2.2.2.1.length≤140737488355328):AKT (rE d)=some (gQ (ids d.2.2.2.1)):=by
 have h1:WQ (rE d)=some (gQ (ids d.2.2.2.1)):=by rw[AS3];exact fC _ h
 exact ((nS (gG fun x h=>by simp[rC,rE] at h)).trans ((nS (gG fun x h=>by simp[rD,rE] at h)).trans (LQ h1)))
theorem A4R {d:aC} (h:d.2.2.2.1.length≤140737488355328):uI (pU d)=some (T.v (.bool (pJ (ids d.2.2.2.1)))):=by
 have h1:XF (pU d)=some (T.v (.bool (pJ (ids d.2.2.2.1)))):=by rw[ATG];exact fC _ h
 exact ((nS (gG fun x h=>by simp[pS,pU] at h)).trans ((nS (gG fun x h=>by simp[pT,pU] at h)).trans (LQ h1)))
theorem A4O {d:aC} (h:d.2.2.2.2.1.length≤140737488355328):AKT (rF d)=some (gQ (ids d.2.2.2.2.1)):=by
 have h1:WR (rF d)=some (gQ (ids d.2.2.2.2.1)):=by rw[AS4];exact fC _ h
 exact ((nS (gG fun x h=>by simp[rC,rF] at h)).trans ((nS (gG fun x h=>by simp[rD,rF] at h)).trans ((nS (gG fun x h=>by simp[rE,rF] at h)).trans h1)))
theorem A4S {d:aC} (h:d.2.2.2.2.1.length≤140737488355328):uI (pV d)=some (T.v (.bool (pJ (ids d.2.2.2.2.1)))):=by
 have h1:XG (pV d)=some (T.v (.bool (pJ (ids d.2.2.2.2.1)))):=by rw[ATH];exact fC _ h
 exact ((nS (gG fun x h=>by simp[pS,pV] at h)).trans ((nS (gG fun x h=>by simp[pT,pV] at h)).trans ((nS (gG fun x h=>by simp[pU,pV] at h)).trans (LQ h1))))
theorem ATJ {l:List ByteArray} (h:l.length≤140737488355328):uI (pW l)=some (T.v (.bool (pJ l))):=by
 have h1:XH (pW l)=some (T.v (.bool (pJ l))):=by rw[ATI];exact fC _ h
 exact ((nS (gG fun x h=>by simp[pS,pW] at h)).trans ((nS (gG fun x h=>by simp[pT,pW] at h)).trans ((nS (gG fun x h=>by simp[pU,pW] at h)).trans ((nS (gG fun x h=>by simp[pV,pW] at h)).trans h1))))
abbrev MZ (d:aC) (m1 m2 m3 m4:List (ByteArray×Int)):T:=T.ref [T.ref (aE.enc d),T.mp (bJ m1),T.mp (bJ m2),T.mp (bJ m3),T.mp (bJ m4)]
end Go.Pv
namespace Go.Pv
open Go Go.Proofs
abbrev HS:Sh:=[(false,.bool)]
abbrev A6G:Sh:=[(false,.li .str)]
def wK (x:ByteArray×ByteArray):Option T:=match decide (x.1.size<4294967281),decide (1≤x.2.size) with
 | true,true=>some (Sh.enc A6G (Lib.splitB x.2 0 (Lib.countB x.1 x.2) x.1))
 | _,_=>none
noncomputable def vT:List T→Option T:=gS [(false,.str),(false,.str)] wK
theorem XJ {a b:ByteArray}:vT [T.v (.string a),T.v (.string b)]=wK (a,b):=bD (s:=[(false,.str),(false,.str)]) rfl (a,b) rfl
theorem AKG:aN Tryz.prog 306 vT:=by
 refine ⟨A9.entry,fun w own args vs r hG ho ha hg=>?_⟩
 obtain ⟨⟨a,b⟩,rfl,hx⟩:=BD hg
 unfold wK at hx
 split at hx
 ·rename_i h1 h2
  cases hx
  have hs:vC [.v (.string a),.v (.string b)]=some (.sl true ((Lib.splitB b 0 (Lib.countB a b) a).map fun x=>[.v (.string x)])):=by
   unfold vC
   simp only[h1,h2]
  refine (A9.calls w own _ vs _ hG ho ha hs).mono ?_
  rintro e w' ⟨v,rfl,hr,hb⟩
  exact ⟨v,rfl,hr.canon 0,hb⟩
 ·cases hx
end Go.Pv
namespace Go.Pv
open Go Go.Proofs
def gH (n:Int):Bool:=(decide (97≤n)&&decide (n≤122))||(decide (65≤n)&&decide (n≤90))
def nL (n:Int):Bool:=decide (48≤n)&&decide (n≤57)
def nameAt (i:Nat) (b:UInt8):Bool:=gH b.toNat||(decide (i≠0)&&(nL b.toNat||decide ((b.toNat:Int)=95)||decide ((b.toNat:Int)=45)))
def isName (s:ByteArray):Bool:=decide (s.size≠0)&&decide (s.size≤16)&&(List.range s.size).all fun i=>match s.data[i]? with|some b=>nameAt i b|none=>true
def xH (n:Int):Option T:=some (Sh.enc HS (gH n))
def CE (n:Int):Option T:=some (Sh.enc HS (nL n))
def nF (s:ByteArray):Option T:=some (Sh.enc HS (isName s))
abbrev sH:=nF
def A08 (l:List ByteArray):Int:=(l.length:Int)-1+nH l
def A9J (s:ByteArray):Option T:=match decide (s.size≤1099511627776) with
 | true=>some (Sh.enc A6G (dO s))
 | false=>none
def sJ (l:List ByteArray):Option T:=match decide (l.length≤65)&&decide (nH l≤64) with
 | true=>some (Sh.enc HS (l.all isName&&(decide (1≤l.length)&&decide (l.length≤8)&&decide (A08 l≤64))))
 | false=>none
def x7 (s:ByteArray):Bool:=decide (s.size≤64)&&decide ((dO s).length≤8)&&(dO s).all isName
def CI (s:ByteArray):Option T:=some (Sh.enc HS (x7 s))
theorem oE {n:Nat} {f:Nat→Bool}:(List.range n).all f=true↔∀ i,i<n→f i=true:=by simp
theorem O9 {s:ByteArray} (h0:s.size≠0) (h1:s.size≤16) (h2:∀ i b,s.data[i]? = some b→nameAt i b=true):isName s=true:=by
 unfold isName
 simp only[h0,h1,decide_true,Bool.true_and,Bool.and_eq_true,oE,ne_eq,not_false_eq_true,true_and]
 intro i hi
 split
 ·rename_i b hb;exact h2 i b hb
 ·rfl
theorem kG {s:ByteArray} (h:s.size=0∨16<s.size∨∃ i b,s.data[i]? = some b∧nameAt i b=false):isName s=false:=by
 rw[Bool.eq_false_iff]
 intro hn
 unfold isName at hn
 simp only[Bool.and_eq_true,oE,decide_eq_true_eq] at hn
 rcases h with h|h|⟨i,b,hb,hf⟩
 ·exact hn.1.1 h
 ·have:=hn.1.2;omega
 ·have hi:i<s.size:=(Array.getElem?_eq_some_iff.1 hb).1
  have:=hn.2 i hi
  rw[hb] at this
  simp only[hf] at this
  cases this
theorem GB (b:UInt8):nameAt 0 b=gH b.toNat:=by simp[nameAt]
theorem AQ {s:ByteArray} {k:Nat} {b:UInt8} (h:s.data[k]? = some b) {K:Int→Prop} (hk:K b.toNat):FT s (k:Int) K:=⟨b,by omega,by rwa[Int.toNat_natCast],hk⟩
theorem AB1 {s:ByteArray} {b:UInt8} (h:s.data[0]? = some b) {K:Int→Prop} (hk:K b.toNat):FT s 0 K:=⟨b,by omega,h,hk⟩
theorem HM {s:ByteArray}:s = { data:=#[] }↔s.size=0:=⟨fun e=>by subst e;rfl,fun e=>ByteArray.ext (Array.eq_empty_of_size_eq_zero e)⟩
theorem ATL {s:ByteArray} {k:Nat} (h:k<s.size):∃ b,s.data[k]? = some b:=⟨s.data[k]'h,by simp⟩
noncomputable def AM9:Env:=Env.of []
def AP5:FuncId→Hint:=fun _=>aX
theorem AAB:aR Tryz.prog AM9:=.nil _
def IP(a0:Int)(R:T→Prop):Prop:=aB (decide (97≤a0)) (aB (decide (a0≤122)) (R d9) (aB (decide (65≤a0)) (R (T.v (.bool (decide (a0≤90))))) (R d3))) (aB (decide (65≤a0)) (R (T.v (.bool (decide (a0≤90))))) (R d3))
abbrev LZ:Sh:=[(false,(Sy.int IntKind.u8))]
noncomputable def rV:List T→Option T:=gS LZ xH
theorem F1 {a0}:rV [T.v (Value.int IntKind.u8 a0)]=xH (a0):=bD (s:=LZ) rfl (a0) rfl
theorem ALP:rA Tryz.prog 258 rV xH (cB LZ) IP:=gF (a1:=(false,(Sy.int IntKind.u8))) (sp:=xH) (F:=IP) (Hs:=AP5) (f:=258) (k:=8) AAB aT aW (aL rfl) ⟨_,_,Tryz.func258,rfl⟩ rfl fun _ _=>by kernel_rfl
theorem AJ4:aN Tryz.prog 258 rV:=ALP fun n r h hb=>by
 have h':some (Sh.enc HS (gH n))=some r:=h
 cases h'
 clear h
 unfold IP d9 d3
 simp only[BS]
 by_cases h1:97≤n<;>by_cases h2:n≤122<;>by_cases h3:65≤n<;>by_cases h4:n≤90<;>simp[h1,h2,h3,h4,gH,Sh.enc,aH,Sy.enc,hdT]<;>omega
noncomputable def AWY:Env:=Env.of []
def AYD:FuncId→Hint:=fun _=>aX
theorem AH5:aR Tryz.prog AWY:=.nil _
def QK(a0:Int)(R:T→Prop):Prop:=aB (decide (48≤a0)) (R (T.v (.bool (decide (a0≤57))))) (R d3)
abbrev SY:Sh:=[(false,(Sy.int IntKind.u8))]
noncomputable def BH:List T→Option T:=gS SY CE
theorem AC1 {a0}:BH [T.v (Value.int IntKind.u8 a0)]=CE (a0):=bD (s:=SY) rfl (a0) rfl
theorem AUQ:rA Tryz.prog 259 BH CE (cB SY) QK:=gF (a1:=(false,(Sy.int IntKind.u8))) (sp:=CE) (F:=QK) (Hs:=AYD) (f:=259) (k:=8) AH5 aT aW (aL rfl) ⟨_,_,Tryz.func259,rfl⟩ rfl fun _ _=>by kernel_rfl
theorem ARY:aN Tryz.prog 259 BH:=AUQ fun n r h hb=>by
 have h':some (Sh.enc HS (nL n))=some r:=h
 cases h'
 clear h
 unfold QK d3
 simp only[BS]
 by_cases h1:48≤n<;>by_cases h2:n≤57<;>simp[h1,h2,nL,Sh.enc,aH,Sy.enc,hdT]
noncomputable def ZX:Env:=Env.of [(258,.pure rV),(259,.pure BH)]
def ABK:FuncId→Hint:=bV 94 [(4,.inv [.val 3 false (.int .i64)])] (fun _=>aX)
theorem QF:aR Tryz.prog ZX:=.cons AJ4 (.cons ARY (.nil _))
def yZ(a0:ByteArray)(R:T→Prop):Prop:=aB (decide (a0 = {data:=#[]})) (R d3) (aB (decide (16<(↑(ByteArray.size a0):Int))) (R d3) (FT a0 0 fun (y0:Int)=>aJ d6 (rV [T.v (Value.int IntKind.u8 y0)]) fun (y1:Bool)=>aB (!y1) (R d3) (a6 (Int×PUnit) (fun X2 s3=>aB (decide (s3.1<(↑(ByteArray.size a0):Int))) (FT a0 s3.1 fun (y4:Int)=>aJ d6 (rV [T.v (Value.int IntKind.u8 y4)]) fun (y5:Bool)=>aB (!y5) (FT a0 s3.1 fun (y6:Int)=>aJ d6 (BH [T.v (Value.int IntKind.u8 y6)]) fun (y7:Bool)=>aB (!y7) (FT a0 s3.1 fun (y8:Int)=>aB (!decide (y8=95)) (FT a0 s3.1 fun (y9:Int)=>aB (!decide (y9=45)) (R d3) (X2 (IntKind.i64.wrap (s3.1+1),()))) (X2 (IntKind.i64.wrap (s3.1+1),()))) (X2 (IntKind.i64.wrap (s3.1+1),()))) (X2 (IntKind.i64.wrap (s3.1+1),()))) (R d9)) (0,()))))
abbrev AD:Sh:=[(false,Sy.str)]
noncomputable def gV:List T→Option T:=gS AD nF
theorem qX {a0}:gV [T.v (.string a0)]=nF (a0):=bD (s:=AD) rfl (a0) rfl
theorem YI:rA Tryz.prog 94 gV nF (cB AD) yZ:=gF (a1:=(false,Sy.str)) (sp:=nF) (F:=yZ) (Hs:=ABK) (f:=94) (k:=8) QF aT aW (aL rfl) ⟨_,_,Tryz.func94,rfl⟩ rfl fun _ _=>by kernel_rfl
theorem vB:aN Tryz.prog 94 gV:=YI fun s r h hb=>by
 have h':some (Sh.enc HS (isName s))=some r:=h
 cases h'
 clear h
 unfold yZ d9 d6 d3
 by_cases h0:s.size=0
 ·exact dC (HM.2 h0) (by rw[kG (.inl h0)];rfl)
 refine dY (fun e=>h0 (HM.1 e)) ?_
 by_cases h16:16<s.size
 ·exact dC (by omega) (by rw[kG (.inr (.inl h16))];rfl)
 refine dY (by omega) ?_
 obtain ⟨b0,hb0⟩:=ATL (show 0<s.size by omega)
 refine AB1 hb0 (aF (s:=HS) (y:=gH b0.toNat) F1 ?_)
 cases hl0:gH b0.toNat with
 | false=>exact (by rw[kG (.inr (.inr ⟨0,b0,hb0,by rw[GB];exact hl0⟩))];rfl)
 | true =>
  rw[Bool.not_true,lK]
  refine bG s.size (fun k t=>t=((k:Int),())∧∀ i b,i<k→s.data[i]? = some b→nameAt i b=true) ⟨rfl,by simp⟩ ?_
  rintro X k t hk ⟨rfl,hno⟩ hX
  dsimp only
  by_cases hlt:k<s.size
  ·refine dC (by omega) ?_
   obtain ⟨b,hb⟩:=ATL hlt
   have hw:IntKind.i64.wrap ((k:Int)+1)=((k+1:Nat):Int):=bB _ (by omega) (by omega)
   have go:nameAt k b=true→X (IntKind.i64.wrap ((k:Int)+1),()):=fun hn=>hX _ hlt ⟨by rw[hw],fun i b' hi hb'=>by
    by_cases e:i=k
    ·subst e;rw[hb] at hb';cases hb';exact hn
    ·exact hno i b' (by omega) hb'⟩
   have hzero:gH b.toNat=false→k≠0:=fun hf e=>by subst e;rw[hb] at hb0;cases hb0;rw[hf] at hl0;cases hl0
   have stop:nameAt k b=false→T.v (.bool false)=Sh.enc HS (isName s):=fun hn=>by rw[kG (.inr (.inr ⟨k,b,hb,hn⟩))];rfl
   refine AQ hb (aF (s:=HS) (y:=gH b.toNat) F1 ?_)
   cases hl:gH b.toNat with
   | true=>rw[Bool.not_true,lK];exact go (by simp[nameAt,hl])
   | false =>
    have hk0:=hzero hl
    rw[Bool.not_false,iV]
    refine AQ hb (aF (s:=HS) (y:=nL b.toNat) AC1 ?_)
    cases hd:nL b.toNat with
    | true=>rw[Bool.not_true,lK];exact go (by simp[nameAt,hl,hk0,hd])
    | false =>
     rw[Bool.not_false,iV]
     refine AQ hb ?_
     by_cases h95:(b.toNat:Int)=95
     ·exact PA h95 (go (by simp[nameAt,hl,hk0,hd,h95]))
     ·refine XN h95 (AQ hb ?_)
      by_cases h45:(b.toNat:Int)=45
      ·exact PA h45 (go (by simp[nameAt,hl,hk0,hd,h45]))
      ·exact XN h45 (stop (by
        unfold nameAt
        rw[hl,hd,decide_eq_false h95,decide_eq_false h45];simp))
  ·refine dY (by omega) ?_
   rw[O9 h0 (by omega) (fun i b h=>hno i b (by have:=(Array.getElem?_eq_some_iff.1 h).1;have:i<s.size:=this;omega) h)];rfl
noncomputable def AM4:Env:=Env.of []
def AP4:FuncId→Hint:=fun f=>match f == 85 with|true=>⟨fun r=>match r == 4 with|true=>.inv [.jS 0]|false=>.none,fun i j=>match i == 6&&j == 6 with|true=>some [.val 5 false .bool,.fix 0]|false=>match i == 7&&j == 7 with|true=>some [.val 6 false .bool,.fix 0]|false=>none,fun _=>none⟩|false=>aX
theorem AAA:aR Tryz.prog AM4:=.nil _
def GE(s1:(ByteArray×Nat)×PUnit)(X2:Bool×PUnit×PUnit→Prop):Prop:=aB (decide (97≤(↑(Utf8.decode s1.1.1 s1.1.2).1:Int))) (fG (bE.jS s1.1.1 (s1.1.2+(Utf8.decode s1.1.1 s1.1.2).2)) (bE.jS s1.1.1 (s1.1.2+(Utf8.decode s1.1.1 s1.1.2).2)) (X2 (decide ((↑(Utf8.decode s1.1.1 s1.1.2).1:Int)≤122),(),()))) (fG (bE.jS s1.1.1 (s1.1.2+(Utf8.decode s1.1.1 s1.1.2).2)) (bE.jS s1.1.1 (s1.1.2+(Utf8.decode s1.1.1 s1.1.2).2)) (X2 (false,(),())))
def GT(s1:(ByteArray×Nat)×PUnit)(X2:Bool×PUnit×PUnit→Prop):Prop:=fG (bE.jS s1.1.1 (s1.1.2+(Utf8.decode s1.1.1 s1.1.2).2)) (bE.jS s1.1.1 (s1.1.2+(Utf8.decode s1.1.1 s1.1.2).2)) (X2 (true,(),()))
def H1(s1:(ByteArray×Nat)×PUnit)(X4:Bool×PUnit×PUnit→Prop):Prop:=aB (decide ((↑(Utf8.decode s1.1.1 s1.1.2).1:Int)=95)) (GT s1 X4) (fG (bE.jS s1.1.1 (s1.1.2+(Utf8.decode s1.1.1 s1.1.2).2)) (bE.jS s1.1.1 (s1.1.2+(Utf8.decode s1.1.1 s1.1.2).2)) (X4 (decide ((↑(Utf8.decode s1.1.1 s1.1.2).1:Int)=45),(),())))
def IM(a0:ByteArray)(R:T→Prop):Prop:=aB (decide (a0 = {data:=#[]})) (R d3) (aB (decide (16<(↑(ByteArray.size a0):Int))) (R d3) (a6 ((ByteArray×Nat)×PUnit) (fun X0 s1=>aB (decide (s1.1.2<s1.1.1.size)) (qF (Bool×PUnit×PUnit) (fun (X2:Bool×PUnit×PUnit→Prop)=>aB (decide (65≤(↑(Utf8.decode s1.1.1 s1.1.2).1:Int))) (aB (decide ((↑(Utf8.decode s1.1.1 s1.1.2).1:Int)≤90)) (GT s1 X2) (GE s1 X2)) (GE s1 X2)) fun (s3:Bool×PUnit×PUnit)=>qF (Bool×PUnit×PUnit) (fun (X4:Bool×PUnit×PUnit→Prop)=>aB (decide (48≤(↑(Utf8.decode s1.1.1 s1.1.2).1:Int))) (aB (decide ((↑(Utf8.decode s1.1.1 s1.1.2).1:Int)≤57)) (GT s1 X4) (H1 s1 X4)) (H1 s1 X4)) fun (s5:Bool×PUnit×PUnit)=>aB (!s3.1) (aB (decide ((↑s1.1.2:Int)=0)) (R d3) (aB (!s5.1) (R d3) (X0 ((s1.1.1,s1.1.2+(Utf8.decode s1.1.1 s1.1.2).2),())))) (X0 ((s1.1.1,s1.1.2+(Utf8.decode s1.1.1 s1.1.2).2),()))) (R d9)) ((a0,0),())))
abbrev LY:Sh:=[(false,Sy.str)]
abbrev B7:Sh:=[(false,Sy.bool)]
theorem NO (y:Sh.den B7) (K:Sh.den B7→Prop):aJ B7 (some (Sh.enc B7 y)) K=K y:=rK rfl y K
noncomputable def gI:List T→Option T:=gS LY sH
theorem vI {a0}:gI [T.v (.string a0)]=sH (a0):=bD (s:=LY) rfl (a0) rfl
theorem ALO:rA Tryz.prog 85 gI sH (cB LY) IM:=gF (a1:=(false,Sy.str)) (sp:=sH) (F:=IM) (Hs:=AP4) (f:=85) (k:=8) AAA aT aW (aL rfl) ⟨_,_,Tryz.func85,rfl⟩ rfl fun _ _=>by kernel_rfl
theorem XP (c:Int) {K:Bool×PUnit×PUnit→Prop} (hX:K (gH c,(),())):qF (Bool×PUnit×PUnit) (fun X=>aB (decide (65≤c)) (aB (decide (c≤90)) (X (true,(),())) (aB (decide (97≤c)) (X (decide (c≤122),(),())) (X (false,(),())))) (aB (decide (97≤c)) (X (decide (c≤122),(),())) (X (false,(),())))) K:=by
 simp only[BS,w4]
 unfold gH at hX
 by_cases h1:65≤c<;>by_cases h2:c≤90<;>by_cases h3:97≤c<;>by_cases h4:c≤122<;>simp[h1,h2,h3,h4] at hX ⊢ <;> first|exact hX|omega
theorem RQ (c:Int) {K:Bool×PUnit×PUnit→Prop} (hX:K (nL c||decide (c=95)||decide (c=45),(),())):qF (Bool×PUnit×PUnit) (fun X=>aB (decide (48≤c)) (aB (decide (c≤57)) (X (true,(),())) (aB (decide (c=95)) (X (true,(),())) (X (decide (c=45),(),())))) (aB (decide (c=95)) (X (true,(),())) (X (decide (c=45),(),())))) K:=by
 simp only[BS,w4]
 unfold nL at hX
 by_cases h1:48≤c<;>by_cases h2:c≤57<;>by_cases h3:c=95<;>simp[h1,h2,h3] at hX ⊢ <;> first|exact hX|omega
theorem wT:aN Tryz.prog 85 gI:=ALO fun s r h hb=>by
 have h':some (Sh.enc HS (isName s))=some r:=h
 cases h'
 clear h
 unfold IM H1 GT GE d9 d3
 by_cases h0:s.size=0
 ·exact dC (HM.2 h0) (by rw[kG (.inl h0)];rfl)
 refine dY (fun e=>h0 (HM.1 e)) ?_
 by_cases h16:16<s.size
 ·exact dC (by omega) (by rw[kG (.inr (.inl h16))];rfl)
 refine dY (by omega) ?_
 refine bG s.size (fun k t=>t=((s,k),())∧∀ i b,i<k→s.data[i]? = some b→nameAt i b=true) ⟨rfl,by simp⟩ ?_
 rintro X k t hk ⟨rfl,hno⟩ hX
 simp only[cS]
 by_cases hlt:k<s.size
 ·refine dC hlt ?_
  have hb:s.data[k]? = some (s[k]'hlt):=by
   rw[Array.getElem?_eq_getElem hlt];rfl
  refine XP (Utf8.decode s k).1 ?_
  refine RQ (Utf8.decode s k).1 ?_
  dsimp only
  have stop:nameAt k (s[k]'hlt)=false→T.v (.bool false)=Sh.enc HS (isName s):=fun hn=>by rw[kG (.inr (.inr ⟨k,_,hb,hn⟩))];rfl
  by_cases hasc:(s[k]'hlt).toNat<128
  ·have hd:=decode_ascii s k hlt hasc
   have go:nameAt k (s[k]'hlt)=true→X ((s,k+(Utf8.decode s k).2),()):=fun hn=>by
    rw[hd]
    exact hX _ hlt ⟨rfl,fun i b' hi hb'=>by
     by_cases e:i=k
     ·subst e;rw[hb] at hb';cases hb';exact hn
     ·exact hno i b' (by omega) hb'⟩
   have e1:((Utf8.decode s k).1:Int)=((s[k]'hlt).toNat:Int):=by rw[hd]
   rw[e1]
   cases hl:gH ((s[k]'hlt).toNat:Int) with
   | true=>rw[Bool.not_true,lK];exact go (by simp[nameAt,hl])
   | false =>
    rw[Bool.not_false,iV]
    by_cases hk0:k=0
    ·exact dC (by omega) (stop (by subst hk0;rw[GB];exact hl))
    ·refine dY (by omega) ?_
     cases hf:(nL ((s[k]'hlt).toNat:Int)||decide (((s[k]'hlt).toNat:Int)=95)||decide (((s[k]'hlt).toNat:Int)=45)) with
     | true=>rw[Bool.not_true,lK];exact go (by unfold nameAt;rw[hl,hf];simp[hk0])
     | false=>rw[Bool.not_false,iV];exact stop (by unfold nameAt;rw[hl,hf];simp)
  ·obtain ⟨hd1,hd2⟩:=decode_high s k hlt (by omega)
   have hl:gH ((Utf8.decode s k).1:Int)=false:=by
    unfold gH;simp;omega
   have hf:(nL ((Utf8.decode s k).1:Int)||decide (((Utf8.decode s k).1:Int)=95)||decide (((Utf8.decode s k).1:Int)=45))=false:=by
    unfold nL;simp;omega
   have hn:nameAt k (s[k]'hlt)=false:=by
    unfold nameAt gH nL;simp;omega
   rw[hl,hf,Bool.not_false,iV]
   by_cases hk0:k=0
   ·exact dC (by omega) (stop hn)
   ·refine dY (by omega) ?_
    rw[iV]
    exact stop hn
 ·refine dY hlt ?_
  rw[O9 h0 (by omega) (fun i b h=>hno i b (by have:=(Array.getElem?_eq_some_iff.1 h).1;have:i<s.size:=this;omega) h)];rfl
noncomputable def AW2:Env:=Env.of [(85,.pure gI)]
def AYH:FuncId→Hint:=bV 305 [(3,.inv [.val 3 false (.int .i64),.val 11 false (.int .i64)])] (fun _=>aX)
theorem AIA:aR Tryz.prog AW2:=.cons wT (.nil _)
def QP(a0:List ByteArray)(R:T→Prop):Prop:=a6 (Int×Int×PUnit) (fun X0 s1=>aB (decide (s1.2.1<(↑(List.map Sy.str.enc a0).length:Int))) (aS Sy.str (List.map Sy.str.enc a0) s1.2.1 fun (y2:ByteArray)=>aJ d6 (gI [T.v (.string y2)]) fun (y3:Bool)=>aB (!y3) (R d3) (X0 (IntKind.i64.wrap (s1.1+(↑y2.size:Int)),IntKind.i64.wrap (s1.2.1+1),()))) (aB (decide (1≤(↑(List.map Sy.str.enc a0).length:Int))) (aB (decide ((↑(List.map Sy.str.enc a0).length:Int)≤8)) (R (T.v (.bool (decide (s1.1≤64))))) (R d3)) (R d3))) (IntKind.i64.wrap ((↑(List.map Sy.str.enc a0).length:Int)-1),0,())
abbrev S2:Sh:=[(false,Sy.str.li)]
noncomputable def BK:List T→Option T:=gS S2 sJ
theorem AC6 {a0}:BK [T.sl false (List.map Sy.str.enc a0)]=sJ (a0):=bD (s:=S2) rfl (a0) rfl
theorem AUV:rA Tryz.prog 305 BK sJ (cB S2) QP:=gF (a1:=(false,Sy.str.li)) (sp:=sJ) (F:=QP) (Hs:=AYH) (f:=305) (k:=8) AIA aT aW (aL rfl) ⟨_,_,Tryz.func305,rfl⟩ rfl fun _ _=>by kernel_rfl
theorem AH:∀ (l:List ByteArray) (x:ByteArray),nH (l++[x])=nH l+x.size
 | [],x=>by simp[nH]
 | a::l,x=>by simp only[List.cons_append,nH,AH l x];omega
theorem MX:∀ (l:List ByteArray) (k:Nat),nH (l.take k)≤nH l
 | [],k=>by simp
 | a::l,0=>by simp[nH]
 | a::l,k+1=>by simp only[List.take_succ_cons,nH];have:=MX l k;omega
theorem AR3:aN Tryz.prog 305 BK:=AUV fun l r h hb=>by
 unfold sJ at h
 split at h
 ·rename_i hsz
  simp only[Bool.and_eq_true,decide_eq_true_eq] at hsz
  obtain ⟨hl65,hs64⟩:=hsz
  cases h
  unfold QP d6 d3
  refine bG l.length (fun k t=>t=((l.length:Int)-1+nH (l.take k),(k:Int),())∧(l.take k).all isName=true) ⟨by
   simp only[List.take_zero,nH,List.length_map,Prod.mk.injEq,and_true]
   rw[bB _ (by omega) (by omega)];simp,by simp⟩ ?_
  rintro X k t hk ⟨rfl,hall⟩ hX
  dsimp only
  by_cases hlt:k<l.length
  ·refine dC (by simp[hlt]) ?_
   rw[bA (r:=.str) hlt]
   refine aF (s:=HS) (y:=isName l[k]) vI ?_
   have hsum:=MX l (k+1)
   have htake:l.take (k+1)=l.take k++[l[k]]:=List.take_succ_eq_append_getElem hlt
   cases hn:isName l[k] with
   | false =>
    rw[Bool.not_false,iV]
    have:l.all isName=false:=by
     rw[Bool.eq_false_iff];intro ha
     have:=List.all_eq_true.1 ha _ (List.getElem_mem hlt)
     rw[hn] at this;cases this
    rw[this];rfl
   | true =>
    rw[Bool.not_true,lK]
    rw[htake,AH] at hsum
    refine hX _ hlt ⟨?_,by rw[htake,List.all_append,hall];simp[hn]⟩
    rw[htake,AH]
    simp only[Prod.mk.injEq,and_true]
    exact ⟨by rw[bB _ (by omega) (by omega)];simp;omega,bB _ (by omega) (by omega)⟩
  ·have:k=l.length:=by omega
   subst this
   rw[List.take_length] at hall
   refine dY (by simp) ?_
   rw[List.take_length,hall]
   by_cases h1:1≤l.length
   ·refine dC (by simp only[List.length_map];omega) ?_
    by_cases h2:l.length≤8
    ·refine dC (by simp only[List.length_map];omega) ?_
     rw[decide_eq_true h1,decide_eq_true h2];rfl
    ·refine dY (by simp only[List.length_map];omega) ?_
     rw[decide_eq_false h2,Bool.and_false];rfl
   ·refine dY (by simp only[List.length_map];omega) ?_
    rw[decide_eq_false h1];rfl
 ·cases h
noncomputable def A2M:Env:=Env.of [(306,.pure vT),(305,.pure BK)]
def A20:FuncId→Hint:=fun _=>aX
theorem AN9:aR Tryz.prog A2M:=.cons AKG (.cons AR3 (.nil _))
def AA7(a0:ByteArray)(R:T→Prop):Prop:=aB (decide ((↑(ByteArray.size a0):Int)≤64)) (aJ g9 (vT [T.v (.string a0),T.v (.string {data:=#[46]})]) fun (y0:List ByteArray)=>aJ d6 (BK [T.sl false (List.map Sy.str.enc y0)]) fun (y1:Bool)=>R (T.v (.bool y1))) (R d3)
abbrev AEL:Sh:=[(false,Sy.str)]
abbrev SS:Sh:=[(false,Sy.bool)]
theorem YW (y:Sh.den SS) (K:Sh.den SS→Prop):aJ SS (some (Sh.enc SS y)) K=K y:=rK rfl y K
noncomputable def dZ:List T→Option T:=gS AEL CI
theorem AKS {a0}:dZ [T.v (.string a0)]=CI (a0):=bD (s:=AEL) rfl (a0) rfl
theorem A0R:rA Tryz.prog 250 dZ CI (cB AEL) AA7:=gF (a1:=(false,Sy.str)) (sp:=CI) (F:=AA7) (Hs:=A20) (f:=250) (k:=8) AN9 aT aW (aL rfl) ⟨_,_,Tryz.func250,rfl⟩ rfl fun _ _=>by kernel_rfl
theorem HO:aN Tryz.prog 250 dZ:=A0R fun s r h hb=>by
 have h':some (Sh.enc HS (x7 s))=some r:=h
 cases h'
 clear h
 unfold AA7 g9 d6 d3 x7
 by_cases h64:s.size≤64
 ·refine dC (by omega) ?_
  have hsum:=AMF s
  have hpos:=AME s
  refine aF (s:=A6G) (y:=dO s) ?_ ?_
  ·rw[show vT [T.v (.string s),T.v (.string { data:=#[46] })]=wK (s,dot) from XJ]
   unfold wK
   rw[show decide (s.size<4294967281)=true by simp;omega,show decide (1≤dot.size)=true from rfl]
   rfl
  ·refine aF (s:=HS) (y:=(dO s).all isName&&(decide (1≤(dO s).length)&&decide ((dO s).length≤8)&&decide (A08 (dO s)≤64))) ?_ ?_
   ·rw[AC6]
    unfold sJ
    rw[show (decide ((dO s).length≤65)&&decide (nH (dO s)≤64))=true by simp;omega]
   ·have h1:decide (1≤(dO s).length)=true:=decide_eq_true hpos
    have h2:decide (A08 (dO s)≤64)=true:=decide_eq_true (by unfold A08;omega)
    have h3:decide (s.size≤64)=true:=decide_eq_true h64
    rw[h1,h2,h3]
    simp[Bool.and_comm,Sh.enc,aH,Sy.enc,hdT]
 ·refine dY (by omega) ?_
  rw[decide_eq_false h64];rfl
end Go.Pv
namespace Go.Pv
open Go Go.Proofs
def Seen (es:List (ByteArray×Bool)) (S:ByteArray→Prop):Prop:=(∀ id b,iO es id=some b→b=true)∧∀ id,iO es id=some true↔S id
theorem Seen.nil:Seen [] fun _=>False:=⟨fun id b h=>(by cases h),fun id=>⟨fun h=>(by cases h),fun h=>h.elim⟩⟩
theorem Seen.ins {es:List (ByteArray×Bool)} {S:ByteArray→Prop} (h:Seen es S) (k:ByteArray):Seen (uJ es k true) fun id=>S id∨k=id:=by
 refine ⟨fun id b hb=>?_,fun id=>?_⟩
 ·rw[vU] at hb
  split at hb
  ·cases hb;rfl
  ·exact h.1 id b hb
 ·rw[vU]
  split
  ·rename_i e;exact ⟨fun _=>.inr e,fun _=>rfl⟩
  ·rename_i e;rw[h.2];exact ⟨.inl,fun h=>h.resolve_right e⟩
theorem Seen.congr {es:List (ByteArray×Bool)} {S S':ByteArray→Prop} (h:Seen es S) (e:∀ id,S id↔S' id):Seen es S':=⟨h.1,fun id=>(h.2 id).trans (e id)⟩
abbrev RS:=List (Value×T)×Nat×List Nat×Nat
theorem ARN {m:List (ByteArray×Int)} {seen:List Nat} {i:Nat} (hi:i<m.length) (K:ByteArray→Int→Prop) (hk:K m[i].1 m[i].2):GN .str false (.int .i64) (pL (bJ m)) (seen++[i]) K :=
 ⟨i,m[i].1,m[i].2,by simp,by simp only[pL,bJ,List.map_map,List.getElem?_map,List.getElem?_eq_getElem hi];rfl,hk⟩
theorem AY6 {m:List (ByteArray×Int)} {es:List (ByteArray×Bool)} {S:ByteArray→Prop} {R7 K:Prop} (hS:Seen es S) (hbad:(∃ i,∃ h:i<m.length,S m[i].1)→R7) (hgood:(∀ i (h:i<m.length),¬ S m[i].1)→K) :
  a6 (RS×PUnit) (fun (X:RS×PUnit→Prop) (s:RS×PUnit)=>bS (decide (s.1.1.length≤s.1.2.1)&&decide (s.1.2.1≤s.1.2.2.2)) (uZ s.1.1.length s.1.2.2.1 K fun (i:Nat) =>
   bS (decide (s.1.1.length=s.1.1.length)) (GN Sy.str false (Sy.int IntKind.i64) (pL s.1.1) (s.1.2.2.1++[i]) fun (k:ByteArray) (y:Int) =>
    fZ TypeDesc.string (Value.string k) (List.map (cK Sy.str false Sy.bool) es) false Sy.bool (X ((s.1.1,s.1.2.1,s.1.2.2.1++[i],s.1.1.length),())) fun (j:Nat) (b:Bool) =>
     aB b R7 (X ((s.1.1,s.1.2.1,s.1.2.2.1++[i],s.1.1.length),()))))) ((bJ m,(bJ m).length,[],(bJ m).length),()):=by
 have hml:(bJ m).length=m.length:=by simp[bJ]
 refine bG m.length (fun k t=>∃ seen,t=((bJ m,(bJ m).length,seen,(bJ m).length),())∧(cN m.length seen).length+k≤m.length∧∀ i (h:i<m.length),i∈seen→¬ S m[i].1) ⟨[],rfl,by rw[GA];omega,by simp⟩ ?_
 rintro X k t hk ⟨seen,rfl,hlen,hJ⟩ hX
 dsimp only
 refine ⟨by simp,?_,?_⟩
 ·intro hm
  rw[hml] at hm
  refine hgood fun i hi=>hJ i hi ?_
  refine Classical.byContradiction fun hc=>?_
  have:i∈cN m.length seen:=qG.2 ⟨hi,hc⟩
  rw[hm] at this;cases this
 ·intro i hi
  rw[hml] at hi
  have hi1:=(qG.1 hi).1
  have hst:=BZ hi
  refine ⟨by simp,ARN hi1 _ ?_⟩
  have go:¬ S m[i].1→X ((bJ m,(bJ m).length,seen++[i],(bJ m).length),()):=fun hn=>hX _ (by omega) ⟨_,rfl,by omega,fun j hj hm=>by
   rcases List.mem_append.1 hm with h|h
   ·exact hJ j hj h
   ·simp at h;subst h;exact hn⟩
  refine A5 (r:=.bool) (fun hno=>go fun h=>?_) fun j b hb=>?_
  ·have:=(hS.2 m[i].1).2 h
   rw[hno] at this;cases this
  ·have:=hS.1 _ _ hb
   subst this
   rw[iV]
   exact hbad ⟨i,hi1,(hS.2 _).1 hb⟩
theorem AYY {m:List (ByteArray×Int)} {es:List (ByteArray×Bool)} {S:ByteArray→Prop} {K:List (ByteArray×Bool)×RS×PUnit→Prop} (hS:Seen es S) (hgood:∀ es' rs,Seen es' (fun id=>S id∨∃ i,∃ h:i<m.length,m[i].1=id)→K (es',rs,())) :
  dL Sy.str false Sy.bool (List.map (cK Sy.str false Sy.bool) es) fun (y:List (ByteArray×Bool)) =>
  a6 (List (ByteArray×Bool)×RS×PUnit) (fun (X:List (ByteArray×Bool)×RS×PUnit→Prop) (s:List (ByteArray×Bool)×RS×PUnit)=>bS (decide (s.2.1.1.length≤s.2.1.2.1)&&decide (s.2.1.2.1≤s.2.1.2.2.2)) (uZ s.2.1.1.length s.2.1.2.2.1 (K s) fun (i:Nat) =>
   bS (decide (s.2.1.1.length=s.2.1.1.length)) (GN Sy.str false (Sy.int IntKind.i64) (pL s.2.1.1) (s.2.1.2.2.1++[i]) fun (k:ByteArray) (y:Int) =>
    nO (Option (Nat×D)) (findD TypeDesc.string (K6 Sy.str k) (List.map (cK Sy.str false Sy.bool) s.1) 0) fun (y37:Option (Nat×D)) =>
     dL Sy.str false Sy.bool (eJ (List.map (cK Sy.str false Sy.bool) s.1) y37 (Value.string k) (D.p (T.v (.bool true)))) fun (y38:List (ByteArray×Bool)) =>
      X (y38,(s.2.1.1,s.2.1.2.1,s.2.1.2.2.1++[i],s.2.1.1.length),())))) (y,(bJ m,(bJ m).length,[],(bJ m).length),()):=by
 have hml:(bJ m).length=m.length:=by simp[bJ]
 refine mT (r:=.bool) rfl es _ ?_
 refine bG m.length (fun k t=>∃ seen es',t=(es',(bJ m,(bJ m).length,seen,(bJ m).length),())∧(cN m.length seen).length+k≤m.length∧Seen es' (fun id=>S id∨∃ i,∃ h:i<m.length,i∈seen∧m[i].1=id)) ⟨[],es,rfl,by rw[GA];omega,hS.congr (by simp)⟩ ?_
 rintro X k t hk ⟨seen,es',rfl,hlen,hJ⟩ hX
 dsimp only
 refine ⟨by simp,?_,?_⟩
 ·intro hm
  rw[hml] at hm
  refine hgood _ _ (hJ.congr fun id=>⟨fun h=>h.imp_right fun ⟨i,hi,_,e⟩=>⟨i,hi,e⟩,fun h=>h.imp_right fun ⟨i,hi,e⟩=>⟨i,hi,?_,e⟩⟩)
  refine Classical.byContradiction fun hc=>?_
  have:i∈cN m.length seen:=qG.2 ⟨hi,hc⟩
  rw[hm] at this;cases this
 ·intro i hi
  rw[hml] at hi
  have hi1:=(qG.1 hi).1
  have hst:=BZ hi
  refine ⟨by simp,ARN hi1 _ ?_⟩
  refine ATV (r:=.bool) rfl (es:=es') (k:=m[i].1) (v:=true) (hX _ (by omega) ⟨seen++[i],_,rfl,by omega,(hJ.ins _).congr fun id=>⟨?_,?_⟩⟩)
  ·rintro ((h|⟨j,hj,hm,e⟩)|h)
   ·exact .inl h
   ·exact .inr ⟨j,hj,by simp[hm],e⟩
   ·exact .inr ⟨i,hi1,by simp,h⟩
  ·rintro (h|⟨j,hj,hm,e⟩)
   ·exact .inl (.inl h)
   ·rcases List.mem_append.1 hm with hm|hm
    ·exact .inl (.inr ⟨j,hj,hm,e⟩)
    ·simp at hm;subst hm;exact .inr e
def T5 (a b:bC):Bool:=decide (a.1<b.1)||(decide (a.1=b.1)&&(cE a.2.1 b.2.1||(decide (a.2.1=b.2.1)&&cE a.2.2 b.2.2)))
def GM:List bC→Bool
 | a::b::l=>T5 a b&&GM (b::l)
 | _=>true
theorem NW {l:List bC} {k:Nat} (h:k+1<l.length):GM (l.drop k)=(T5 l[k] l[k+1]&&GM (l.drop (k+1))):=by
 rw[List.drop_eq_getElem_cons (show k<l.length by omega),List.drop_eq_getElem_cons h,GM]
theorem VE {l:List bC} {k:Nat} (h:l.length≤k+1):GM (l.drop k)=true:=by
 rcases Nat.lt_or_ge k l.length with h1|h1
 ·rw[List.drop_eq_getElem_cons h1,List.drop_eq_nil_of_le h];rfl
 ·rw[List.drop_eq_nil_of_le h1];rfl
theorem O7 (k:ByteArray) (v:Int) (id:ByteArray):∀ es:List (ByteArray×Int),id∈(uJ es k v).map (fun e=>e.1)↔id∈es.map (fun e=>e.1)∨id=k
 | []=>by simp[uJ]
 | e::es=>by
  simp only[uJ]
  split
  ·rename_i h
   simp only[List.map_cons,List.mem_cons]
   rw[←h]
   constructor
   ·rintro (h|h)
    ·exact .inl (.inl h)
    ·exact .inl (.inr h)
   ·rintro ((h|h)|h)
    ·exact .inl h
    ·exact .inr h
    ·exact .inl h
  ·simp only[List.map_cons,List.mem_cons,O7 k v id es,or_assoc]
theorem PB (id:ByteArray):∀ (l:List ByteArray) (i:Nat) (es:List (ByteArray×Int)),id∈(EA l i es).map (fun e=>e.1)↔id∈es.map (fun e=>e.1)∨id∈l
 | [],i,es=>by simp[EA]
 | a::l,i,es=>by
  simp only[EA]
  rw[PB id l]
  cases h:iO es a with
  | none=>simp only[O7,List.mem_cons,or_assoc]
  | some v =>
   simp only[List.mem_cons]
   have ha:a∈es.map (fun e=>e.1):=by
    rcases sX a es with ⟨h1,_⟩|⟨j,hj,h1,_⟩
    ·rw[h] at h1;cases h1
    ·exact List.mem_map.2 ⟨es[j],List.getElem_mem hj,h1⟩
   constructor
   ·rintro (h|h)
    ·exact .inl h
    ·exact .inr (.inr h)
   ·rintro (h|rfl|h)
    ·exact .inl h
    ·exact .inl ha
    ·exact .inr h
theorem j1 {l:List ByteArray} {id:ByteArray}:(∃ i,∃ h:i<(gQ l).length,(gQ l)[i].1=id)↔id∈l:=by
 have h:=PB id l 0 []
 simp only[List.map_nil,List.not_mem_nil,false_or] at h
 rw[←h,List.mem_map]
 constructor
 ·rintro ⟨i,hi,e⟩;exact ⟨_,List.getElem_mem hi,e⟩
 ·rintro ⟨e,he,h⟩
  obtain ⟨i,hi,rfl⟩:=List.mem_iff_getElem.1 he
  exact ⟨i,hi,h⟩
def yU (a0:aC) (m1:List aD) (m2:List aD) (m3:List aD) (m4:List aD):List T:=[MZ a0 m1 m2 m3 m4]
noncomputable def ZU:Env:=Env.of [(245,.pure uI)]
def AP2:FuncId→Hint:=fun f=>match f == 87 with|true=>⟨fun r=>match r == 9 with|true=>.inv [.val 4 false .bool,.val 5 false (.int .i64)]|false=>match r == 17 with|true=>.FH 5|false=>match r == 20 with|true=>.alts [[.bW 30],[.bW 29],[.bW 28],[.bW 27],[.bW 26],[.bW 25],[.bW 24],[.bW 23],[.bW 22],[.bW 21],[.bW 20],[.bW 19],[.bW 18],[.bW 17],[.bW 16],[.bW 15],[.bW 14],[.bW 13],[.bW 12],[.bW 11],[.bW 10],[.bW 9],[.bW 8],[.bW 7],[.bW 6],[.bW 5],[.bW 4],[.bW 3],[.bW 2]]|false=>match r == 25 with|true=>.alts [[.map 2 .str false .bool,.bW 30],[.map 2 .str false .bool,.bW 29],[.map 2 .str false .bool,.bW 28],[.map 2 .str false .bool,.bW 27],[.map 2 .str false .bool,.bW 26],[.map 2 .str false .bool,.bW 25],[.map 2 .str false .bool,.bW 24],[.map 2 .str false .bool,.bW 23],[.map 2 .str false .bool,.bW 22],[.map 2 .str false .bool,.bW 21],[.map 2 .str false .bool,.bW 20],[.map 2 .str false .bool,.bW 19],[.map 2 .str false .bool,.bW 18],[.map 2 .str false .bool,.bW 17],[.map 2 .str false .bool,.bW 16],[.map 2 .str false .bool,.bW 15],[.map 2 .str false .bool,.bW 14],[.map 2 .str false .bool,.bW 13],[.map 2 .str false .bool,.bW 12],[.map 2 .str false .bool,.bW 11],[.map 2 .str false .bool,.bW 10],[.map 2 .str false .bool,.bW 9],[.map 2 .str false .bool,.bW 8],[.map 2 .str false .bool,.bW 7],[.map 2 .str false .bool,.bW 6],[.map 2 .str false .bool,.bW 5],[.map 2 .str false .bool,.bW 4],[.map 2 .str false .bool,.bW 3],[.map 2 .str false .bool,.bW 2]]|false=>.none,fun i j=>match i == 5&&j == 5 with|true=>some [.val 4 false .bool]|false=>match i == 6&&j == 6 with|true=>some [.val 4 false .bool]|false=>match i == 7&&j == 7 with|true=>some [.val 4 false .bool]|false=>none,fun r=>match r == 21 with|true=>some (.str,false,(.int .i64))|false=>match r == 26 with|true=>some (.str,false,(.int .i64))|false=>none⟩|false=>aX
theorem AN8:aR Tryz.prog ZU:=.cons A10 (.nil _)
def IR(a0:aC):List (List T):=List.map aQ.enc a0.2.2.2.2.2
def LE(a0:aC):List (List T):=List.map aG.enc a0.2.2.2.2.1
def LT(a0:aC):List (List T):=List.map a7.enc a0.2.2.2.1
def IO(a0:aC):List T:=[T.ref [T.ref [T.v (.string a0.1), T.sl false (List.map aZ.enc a0.2.1), T.sl false (List.map aO.enc a0.2.2.1), T.sl false (LT a0), T.sl false (LE a0), T.sl false (IR a0)]]]
def AA5(a0:aC)(m1:List aD)(m2:List aD)(m3:List aD)(m4:List aD)(R:T→Prop):Prop:=aB (decide (64<(↑(List.map aZ.enc a0.2.1).length:Int))) (R f9) (aB (decide (256<(↑(List.map aO.enc a0.2.2.1).length:Int))) (R f9) (aB (decide (256<(↑(LT a0).length:Int))) (R f9) (aB (decide (64<(↑(LE a0).length:Int))) (R f9) (aB (decide (256<(↑(IR a0).length:Int))) (R f9) (aJ d6 (uI [T.v (.int .i64 (↑(List.map aZ.enc a0.2.1).length:Int)), T.fn 246 [] [T.ref [T.ref [T.v (.string a0.1),T.sl false (List.map aZ.enc a0.2.1), T.sl false (List.map aO.enc a0.2.2.1), T.sl false (LT a0), T.sl false (LE a0), T.sl false (IR a0)]]]]) fun (y0:Bool)=>qF (Bool×PUnit) (fun (X1:Bool×PUnit→Prop)=>aB y0 (aJ d6 (uI [T.v (Value.int IntKind.i64 (↑(List.map aO.enc a0.2.2.1).length:Int)), T.fn 247 [] (IO a0)]) fun (y2:Bool)=>X1 (y2,())) (X1 (false,()))) fun (s3:Bool×PUnit)=>qF (Bool×PUnit) (fun (X4:Bool×PUnit→Prop)=>aB s3.1 (aJ d6 (uI [T.v (Value.int IntKind.i64 (↑(LT a0).length:Int)), T.fn 248 [] (IO a0)]) fun (y5:Bool)=>X4 (y5,())) (X4 (false,()))) fun (s6:Bool×PUnit)=>qF (Bool×PUnit) (fun (X7:Bool×PUnit→Prop)=>aB s6.1 (aJ d6 (uI [T.v (Value.int IntKind.i64 (↑(LE a0).length:Int)), T.fn 249 [] (IO a0)]) fun (y8:Bool)=>X7 (y8,())) (X7 (false,()))) fun (s9:Bool×PUnit)=>a6 (Bool×Int×PUnit) (fun X10 s11=>aB (decide (s11.2.1<(↑(IR a0).length:Int))) (aS aQ (IR a0) (IntKind.i64.wrap (s11.2.1-1)) fun (y12:bC)=>aS aQ (IR a0) s11.2.1 fun (y13:bC)=>aB s11.1 (aB (decide (y12.1<y13.1)) (X10 (true,IntKind.i64.wrap (s11.2.1+1),())) (aB (decide (y12.1=y13.1)) (aB (cE y12.2.1 y13.2.1) (X10 (true,IntKind.i64.wrap (s11.2.1+1),())) (aB (decide (y12.2.1=y13.2.1)) (X10 (cE y12.2.2 y13.2.2,IntKind.i64.wrap (s11.2.1+1), ())) (X10 (false,IntKind.i64.wrap (s11.2.1+1),())))) (X10 (false,IntKind.i64.wrap (s11.2.1+1),())))) (X10 (false,IntKind.i64.wrap (s11.2.1+1),()))) (aB (!s11.1) (R (T.v (.int .i64 11))) (a6 ((List (Value×T)×Nat×List Nat×Nat)×PUnit) (fun (X14:(List (Value×T)×Nat×List Nat×Nat)×PUnit→Prop) (s15:(List (Value×T)×Nat×List Nat×Nat)×PUnit)=>bS (decide (s15.1.1.length≤s15.1.2.1) && decide (s15.1.2.1≤s15.1.2.2.2)) (uZ s15.1.1.length s15.1.2.2.1 (dL Sy.str false Sy.bool [] fun (y16:List (ByteArray×Bool))=>a6 (List (ByteArray×Bool) × (List (Value×T)×Nat×List Nat×Nat)×PUnit) (fun (X17 : List (ByteArray×Bool) × (List (Value×T)×Nat×List Nat×Nat)×PUnit → Prop) (s18 : List (ByteArray×Bool) × (List (Value×T)×Nat×List Nat×Nat)×PUnit)=>bS (decide (s18.2.1.1.length≤s18.2.1.2.1) && decide (s18.2.1.2.1≤s18.2.1.2.2.2)) (uZ s18.2.1.1.length s18.2.1.2.2.1 (a6 ((List (Value×T)×Nat×List Nat×Nat)×PUnit) (fun (X19 : (List (Value×T)×Nat×List Nat×Nat)×PUnit→Prop) (s20:(List (Value×T)×Nat×List Nat×Nat)×PUnit)=>bS (decide (s20.1.1.length≤s20.1.2.1) && decide (s20.1.2.1≤s20.1.2.2.2)) (uZ s20.1.1.length s20.1.2.2.1 (dL Sy.str false Sy.bool (List.map (cK Sy.str false Sy.bool) s18.1) fun (y21:List (ByteArray×Bool))=>a6 (List (ByteArray×Bool) × (List (Value×T)×Nat×List Nat×Nat)×PUnit) (fun (X22 : List (ByteArray×Bool) × (List (Value×T)×Nat×List Nat×Nat) × PUnit → Prop) (s23 : List (ByteArray×Bool) × (List (Value×T)×Nat×List Nat×Nat) × PUnit)=>bS (decide (s23.2.1.1.length≤s23.2.1.2.1) && decide (s23.2.1.2.1≤s23.2.1.2.2.2)) (uZ s23.2.1.1.length s23.2.1.2.2.1 (a6 ((List (Value×T)×Nat×List Nat×Nat) × PUnit) (fun (X24 : (List (Value×T) × Nat×List Nat×Nat) × PUnit → Prop) (s25 : (List (Value×T) × Nat×List Nat×Nat) × PUnit)=>bS (decide (s25.1.1.length≤s25.1.2.1) && decide (s25.1.2.1≤s25.1.2.2.2)) (uZ s25.1.1.length s25.1.2.2.1 (dL Sy.str false Sy.bool (List.map (cK Sy.str false Sy.bool) s23.1) fun (y26:List (ByteArray×Bool))=>a6 (List (ByteArray×Bool) × (List (Value×T) × Nat×List Nat×Nat) × PUnit) (fun (X27 : List (ByteArray×Bool) × (List (Value×T) × Nat×List Nat×Nat) × PUnit → Prop) (s28 : List (ByteArray×Bool) × (List (Value×T) × Nat×List Nat×Nat) × PUnit)=>bS (decide (s28.2.1.1.length ≤ s28.2.1.2.1) && decide (s28.2.1.2.1 ≤ s28.2.1.2.2.2)) (uZ s28.2.1.1.length s28.2.1.2.2.1 (a6 ((List (Value×T) × Nat×List Nat×Nat) × PUnit) (fun (X29 : (List (Value×T) × Nat×List Nat×Nat) × PUnit → Prop) (s30 : (List (Value×T) × Nat×List Nat×Nat) × PUnit)=>bS (decide (s30.1.1.length ≤ s30.1.2.1) && decide (s30.1.2.1 ≤ s30.1.2.2.2)) (uZ s30.1.1.length s30.1.2.2.1 (dL Sy.str false Sy.bool (List.map (cK Sy.str false Sy.bool) s28.1) fun (y31 : List (ByteArray×Bool))=>a6 (List (ByteArray×Bool) × (List (Value × T) × Nat × List Nat×Nat) × PUnit) (fun (X32 : List (ByteArray × Bool) × (List (Value × T) × Nat × List Nat × Nat) × PUnit → Prop) (s33 : List (ByteArray × Bool) × (List (Value × T) × Nat × List Nat × Nat) × PUnit)=>bS (decide (s33.2.1.1.length ≤ s33.2.1.2.1) && decide (s33.2.1.2.1 ≤ s33.2.1.2.2.2)) (uZ s33.2.1.1.length s33.2.1.2.2.1 (R (T.v (Value.int IntKind.i64 0))) fun (i34:Nat)=>bS (decide (s33.2.1.1.length = s33.2.1.1.length)) (GN Sy.str false bF (pL s33.2.1.1) (s33.2.1.2.2.1 ++ [i34]) fun (k35 : ByteArray) (y36:Int)=>nO (Option (Nat × D)) (findD TypeDesc.string (K6 Sy.str k35) (List.map (cK Sy.str false Sy.bool) s33.1) 0) fun (y37 : Option (Nat × D))=>dL Sy.str false Sy.bool (eJ (List.map (cK Sy.str false Sy.bool) s33.1) y37 (Value.string k35) (D.p (T.v (Value.bool true)))) fun (y38 : List (ByteArray × Bool))=>X32 (y38, (s33.2.1.1, s33.2.1.2.1, s33.2.1.2.2.1 ++ [i34], s33.2.1.1.length), ())))) (y31, (bJ m4, (bJ m4).length, [], (bJ m4).length), ())) fun (i39:Nat)=>bS (decide (s30.1.1.length = s30.1.1.length)) (GN Sy.str false bF (pL s30.1.1) (s30.1.2.2.1 ++ [i39]) fun (k40:ByteArray) (y41:Int)=>fZ TypeDesc.string (Value.string k40) (List.map (cK Sy.str false Sy.bool) s28.1) false Sy.bool (X29 ((s30.1.1, s30.1.2.1, s30.1.2.2.1 ++ [i39], s30.1.1.length), ())) fun (i42:Nat) (y43:Bool)=>aB y43 (R (T.v (Value.int IntKind.i64 7))) (X29 ((s30.1.1, s30.1.2.1, s30.1.2.2.1 ++ [i39], s30.1.1.length), ()))))) ((bJ m4, (bJ m4).length,[], (bJ m4).length), ())) fun (i44:Nat)=>bS (decide (s28.2.1.1.length = s28.2.1.1.length)) (GN Sy.str false bF (pL s28.2.1.1) (s28.2.1.2.2.1++[i44]) fun (k45:ByteArray) (y46:Int)=>nO (Option (Nat×D)) (findD TypeDesc.string (K6 Sy.str k45) (List.map (cK Sy.str false Sy.bool) s28.1) 0) fun (y47 : Option (Nat×D))=>dL Sy.str false Sy.bool (eJ (List.map (cK Sy.str false Sy.bool) s28.1) y47 (Value.string k45) (D.p (T.v (Value.bool true)))) fun (y48 : List (ByteArray×Bool))=>X27 (y48, (s28.2.1.1, s28.2.1.2.1, s28.2.1.2.2.1 ++ [i44], s28.2.1.1.length), ())))) (y26, (bJ m3,(bJ m3).length,[], (bJ m3).length), ())) fun (i49:Nat)=>bS (decide (s25.1.1.length=s25.1.1.length)) (GN Sy.str false bF (pL s25.1.1) (s25.1.2.2.1++[i49]) fun (k50:ByteArray) (y51:Int)=>fZ TypeDesc.string (Value.string k50) (List.map (cK Sy.str false Sy.bool) s23.1) false Sy.bool (X24 ((s25.1.1,s25.1.2.1, s25.1.2.2.1++[i49], s25.1.1.length), ())) fun (i52:Nat) (y53:Bool)=>aB y53 (R (T.v (Value.int IntKind.i64 7))) (X24 ((s25.1.1,s25.1.2.1, s25.1.2.2.1++[i49], s25.1.1.length), ()))))) ((bJ m3,(bJ m3).length,[], (bJ m3).length), ())) fun (i54:Nat)=>bS (decide (s23.2.1.1.length=s23.2.1.1.length)) (GN Sy.str false bF (pL s23.2.1.1) (s23.2.1.2.2.1++[i54]) fun (k55:ByteArray) (y56:Int)=>nO (Option (Nat×D)) (findD TypeDesc.string (K6 Sy.str k55) (List.map (cK Sy.str false Sy.bool) s23.1) 0) fun (y57:Option (Nat×D))=>dL Sy.str false Sy.bool (eJ (List.map (cK Sy.str false Sy.bool) s23.1) y57 (Value.string k55) (D.p d9)) fun (y58:List (ByteArray×Bool))=>X22 (y58, (s23.2.1.1,s23.2.1.2.1, s23.2.1.2.2.1++[i54], s23.2.1.1.length), ())))) (y21, (bJ m2,(bJ m2).length,[], (bJ m2).length), ())) fun (i59:Nat)=>bS (decide (s20.1.1.length=s20.1.1.length)) (GN Sy.str false bF (pL s20.1.1) (s20.1.2.2.1++[i59]) fun (k60:ByteArray) (y61:Int)=>fZ TypeDesc.string (Value.string k60) (List.map (cK Sy.str false Sy.bool) s18.1) false Sy.bool (X19 ((s20.1.1,s20.1.2.1, s20.1.2.2.1++[i59],s20.1.1.length), ())) fun (i62:Nat) (y63:Bool)=>aB y63 (R (T.v (.int .i64 7))) (X19 ((s20.1.1,s20.1.2.1, s20.1.2.2.1++[i59],s20.1.1.length), ()))))) ((bJ m2,(bJ m2).length,[],(bJ m2).length),())) fun (i64:Nat)=>bS (decide (s18.2.1.1.length=s18.2.1.1.length)) (GN Sy.str false bF (pL s18.2.1.1) (s18.2.1.2.2.1++[i64]) fun (k65:ByteArray) (y66:Int)=>nO (Option (Nat×D)) (findD TypeDesc.string (K6 Sy.str k65) (List.map (cK Sy.str false Sy.bool) s18.1) 0) fun (y67:Option (Nat×D))=>dL Sy.str false Sy.bool (eJ (List.map (cK Sy.str false Sy.bool) s18.1) y67 (Value.string k65) (D.p d9)) fun (y68:List (ByteArray×Bool))=>X17 (y68, (s18.2.1.1,s18.2.1.2.1, s18.2.1.2.2.1++[i64],s18.2.1.1.length), ())))) (y16,(bJ m1,(bJ m1).length,[],(bJ m1).length),())) fun (i69:Nat)=>bS (decide (s15.1.1.length=s15.1.1.length)) (GN Sy.str false bF (pL s15.1.1) (s15.1.2.2.1++[i69]) fun (k70:ByteArray) (y71:Int)=>fZ TypeDesc.string (Value.string k70) [] false Sy.bool (X14 ((s15.1.1,s15.1.2.1,s15.1.2.2.1++[i69], s15.1.1.length), ())) fun (i72:Nat) (y73:Bool)=>aB y73 (R (T.v (.int .i64 7))) (X14 ((s15.1.1,s15.1.2.1,s15.1.2.2.1++[i69], s15.1.1.length), ()))))) ((bJ m1,(bJ m1).length,[],(bJ m1).length),())))) (s9.1,1,()))))))
theorem AIQ ( a0 m1 m2 m3 m4 R):dS bZ Tryz.prog ZU AP2 8 87 (yU a0 m1 m2 m3 m4) R=AA5 a0 m1 m2 m3 m4 R:=by kernel_rfl
abbrev MP:=List (ByteArray×Int)
theorem AX {a b:MP} (h:bJ a=bJ b):a=b:=map_inj (fun x y h=>by
 simp only[Prod.mk.injEq,Value.string.injEq,T.v.injEq,Value.int.injEq,true_and] at h
 exact Prod.ext h.1 h.2) h
theorem pG {x y:aC×MP×MP×MP×MP} (h:MZ x.1 x.2.1 x.2.2.1 x.2.2.2.1 x.2.2.2.2=MZ y.1 y.2.1 y.2.2.1 y.2.2.2.1 y.2.2.2.2):x=y:=by
 simp only[MZ,T.ref.injEq,List.cons.injEq,T.mp.injEq,and_true] at h
 obtain ⟨h0,h1,h2,h3,h4⟩:=h
 exact Prod.ext (Sy.dI aE _ _ h0) (Prod.ext (AX h1) (Prod.ext (AX h2) (Prod.ext (AX h3) (AX h4))))
theorem ZM (x y:aC×MP×MP×MP×MP) (h:yU x.1 x.2.1 x.2.2.1 x.2.2.2.1 x.2.2.2.2=yU y.1 y.2.1 y.2.2.1 y.2.2.2.1 y.2.2.2.2):x=y:=pG (List.cons.inj h).1
def eU (d:aC):Bool:=decide (64<d.2.1.length)||decide (256<d.2.2.1.length)||decide (256<d.2.2.2.1.length)||decide (64<d.2.2.2.2.1.length)||decide (256<d.2.2.2.2.2.length)
def eQ (d:aC):Bool:=pJ (ids d.2.1)&&pJ (ids d.2.2.1)&&pJ (ids d.2.2.2.1)&&pJ (ids d.2.2.2.2.1)&&GM d.2.2.2.2.2
def ARI (l1 l2 l3 l4:List ByteArray):Bool:=(l2.any (zW l1))||(l3.any fun x=>zW l1 x||zW l2 x)||(l4.any fun x=>zW l1 x||zW l2 x||zW l3 x)
def JT (d:aC):Bool:=ARI (ids d.2.1) (ids d.2.2.1) (ids d.2.2.2.1) (ids d.2.2.2.2.1)
def e7 (d:aC):Int:=if eU d=true then 4 else if eQ d=false then 11 else if JT d=true then 7 else 0
def A6E (x:aC×MP×MP×MP×MP):Bool:=decide (x.2.1=gQ (ids x.1.2.1))&&decide (x.2.2.1=gQ (ids x.1.2.2.1))&&decide (x.2.2.2.1=gQ (ids x.1.2.2.2.1))&&decide (x.2.2.2.2=gQ (ids x.1.2.2.2.2.1)) &&
 (decide (x.1.2.1.length≤140737488355328)&&decide (x.1.2.2.1.length≤140737488355328)&&decide (x.1.2.2.2.1.length≤140737488355328)&&decide (x.1.2.2.2.2.1.length≤140737488355328)&&decide (x.1.2.2.2.2.2.length≤140737488355328))
structure lU (d:aC):Prop where
 n:d.2.1.length≤140737488355328
 p:d.2.2.1.length≤140737488355328
 s:d.2.2.2.1.length≤140737488355328
 k:d.2.2.2.2.1.length≤140737488355328
 r:d.2.2.2.2.2.length≤140737488355328
theorem LL {x:aC×MP×MP×MP×MP}:A6E x=true↔x=(x.1,gQ (ids x.1.2.1),gQ (ids x.1.2.2.1),gQ (ids x.1.2.2.2.1),gQ (ids x.1.2.2.2.2.1))∧lU x.1:=by
 obtain ⟨d,a,b,c,e⟩:=x
 simp only[A6E,Bool.and_eq_true,decide_eq_true_eq,Prod.mk.injEq,true_and]
 constructor
 ·rintro ⟨⟨⟨⟨rfl,rfl⟩,rfl⟩,rfl⟩,⟨⟨⟨h1,h2⟩,h3⟩,h4⟩,h5⟩
  exact ⟨⟨rfl,rfl,rfl,rfl⟩,h1,h2,h3,h4,h5⟩
 ·rintro ⟨⟨rfl,rfl,rfl,rfl⟩,h1,h2,h3,h4,h5⟩
  exact ⟨⟨⟨⟨rfl,rfl⟩,rfl⟩,rfl⟩,⟨⟨⟨h1,h2⟩,h3⟩,h4⟩,h5⟩
def uE (x:aC×MP×MP×MP×MP) (t:T):Option T:=match A6E x with
 | true=>some t
 | false=>none
theorem nB {x:aC×MP×MP×MP×MP} {t r:T} (h:uE x t=some r):x=(x.1,gQ (ids x.1.2.1),gQ (ids x.1.2.2.1),gQ (ids x.1.2.2.2.1),gQ (ids x.1.2.2.2.2.1))∧lU x.1∧r=t:=by
 unfold uE at h;split at h
 ·rename_i hc
  cases h
  exact ⟨(LL.1 hc).1,(LL.1 hc).2,rfl⟩
 ·cases h
theorem nC {d:aC} (h:lU d) (t:T):uE (d,gQ (ids d.2.1),gQ (ids d.2.2.1),gQ (ids d.2.2.2.1),gQ (ids d.2.2.2.2.1)) t=some t:=by
 unfold uE;rw[LL.2 ⟨rfl,h⟩]
def TK (x:aC×MP×MP×MP×MP):Option T:=uE x (T.v (Value.int .i64 (e7 x.1)))
noncomputable def KQ:List T→Option (T):=gA (fun (x:aC×List aD×List aD×List aD×List aD)=>yU x.1 x.2.1 x.2.2.1 x.2.2.2.1 x.2.2.2.2) TK
theorem AKR (a0:aC) (m1:List aD) (m2:List aD) (m3:List aD) (m4:List aD):KQ (yU a0 m1 m2 m3 m4)=TK (a0,m1,m2,m3,m4):=e8 (A:=(fun (x:aC×List aD×List aD×List aD×List aD)=>yU x.1 x.2.1 x.2.2.1 x.2.2.2.1 x.2.2.2.2)) ZM (a0,m1,m2,m3,m4)
theorem A0Q (h:∀ (a0:aC) (m1:List aD) (m2:List aD) (m3:List aD) (m4:List aD) (r:T),TK (a0,m1,m2,m3,m4)=some r→(∀ t∈yU a0 m1 m2 m3 m4,Bd t)→AA5 a0 m1 m2 m3 m4 (fun y=>y=r)):aN Tryz.prog 87 KQ :=
 cQ (E:=ZU) (Hs:=AP2) AN8 aT aW (aL rfl) 8 ⟨_,_,Tryz.func87,rfl⟩ fun x r h1 h2=>by
  rw[AIQ]
  exact h x.1 x.2.1 x.2.2.1 x.2.2.2.1 x.2.2.2.2 r h1 h2
theorem HU {A:List T} {b:Bool} (h:uI A=some (T.v (.bool b))) (K:Bool→Prop) (hk:K b):aJ [(false,Sy.bool)] (uI A) K:=aF (s:=[(false,Sy.bool)]) (y:=b) h hk
theorem AZP:aN Tryz.prog 87 KQ:=A0Q fun d m1 m2 m3 m4 r h hb=>by
 obtain ⟨hx,hs,rfl⟩:=nB h
 simp only[Prod.mk.injEq,true_and] at hx
 obtain ⟨rfl,rfl,rfl,rfl⟩:=hx
 clear h
 have is:∀ {n:Int},e7 d=n→T.v (.int .i64 n)=T.v (.int .i64 (e7 d)):=fun h=>by rw[h]
 have long:eU d=true→e7 d=4:=fun h=>by unfold e7;rw[if_pos h]
 unfold AA5 IO LT LE IR f9 d9 d6 bF
 refine b6 (fun h=>is (long (by rw[List.length_map] at h;simp only[eU,Bool.or_eq_true,decide_eq_true_eq];omega))) fun l1=>?_
 refine b6 (fun h=>is (long (by rw[List.length_map] at h;simp only[eU,Bool.or_eq_true,decide_eq_true_eq];omega))) fun l2=>?_
 refine b6 (fun h=>is (long (by rw[List.length_map] at h;simp only[eU,Bool.or_eq_true,decide_eq_true_eq];omega))) fun l3=>?_
 refine b6 (fun h=>is (long (by rw[List.length_map] at h;simp only[eU,Bool.or_eq_true,decide_eq_true_eq];omega))) fun l4=>?_
 refine b6 (fun h=>is (long (by rw[List.length_map] at h;simp only[eU,Bool.or_eq_true,decide_eq_true_eq];omega))) fun l5=>?_
 rw[List.length_map] at l1 l2 l3 l4 l5
 have notLong:eU d=false:=by simp only[eU,Bool.or_eq_false_iff,decide_eq_false_iff_not];omega
 refine HU (by rw[List.length_map];exact A4P hs.n) _ ?_
 have step:∀ {b c:Bool} {A:List T} {Z:Bool×PUnit→Prop},uI A=some (T.v (.bool c))→Z (b&&c,())→qF (Bool×PUnit) (fun (X:Bool×PUnit→Prop)=>aB b (aJ [(false,Sy.bool)] (uI A) fun (y2:Bool)=>X (y2,())) (X (false,()))) Z:=fun {b c A Z} hA hZ=>by
  rw[w4]
  cases b with
  | true=>rw[iV];exact HU hA _ hZ
  | false=>rw[lK];exact hZ
 refine step (by rw[List.length_map];exact A4Q hs.p) ?_
 refine step (by rw[List.length_map];exact A4R hs.s) ?_
 refine step (by rw[List.length_map];exact A4S hs.k) ?_
 refine bG d.2.2.2.2.2.length (fun k s=>∃ b,s=(b,((k+1:Nat):Int),())∧(b&&GM (d.2.2.2.2.2.drop k))=eQ d) ⟨_,rfl,by rw[List.drop_zero];rfl⟩ ?_
 rintro X k s hk ⟨b,rfl,he⟩ hX
 dsimp only
 have hr:=hs.r
 have hw:IntKind.i64.wrap (((k+1:Nat):Int)+1)=((k+1+1:Nat):Int):=bB _ (by omega) (by omega)
 have hw1:IntKind.i64.wrap (((k+1:Nat):Int)-1)=((k:Nat):Int):=by rw[bB _ (by omega) (by omega)];omega
 refine b6 (fun hlt=>?_) fun hge=>?_
 ·have hlt:k+1<d.2.2.2.2.2.length:=by rw[List.length_map] at hlt;omega
  rw[hw1,bA (r:=aQ) (show k<d.2.2.2.2.2.length by omega),bA (r:=aQ) hlt,hw]
  rw[NW hlt] at he
  have go:∀ c,(b&&T5 d.2.2.2.2.2[k] d.2.2.2.2.2[k+1])=c→X (c,((k+1+1:Nat):Int),()):=fun c hc=>hX _ (by omega) ⟨c,rfl,by rw[←hc,Bool.and_assoc];exact he⟩
  generalize d.2.2.2.2.2[k]=u at go
  generalize d.2.2.2.2.2[k+1]=v at go
  cases b with
  | false=>rw[lK];exact go _ rfl
  | true =>
   rw[iV]
   simp only[Bool.true_and,T5] at go
   refine b6 (fun h=>go _ (by simp[h])) fun h1=>?_
   refine b6 (fun h2=>?_) fun h2=>go _ (by simp[h1,h2])
   refine sZ (fun h3=>go _ (by simp[h2,h3])) fun h3=>?_
   refine b6 (fun h4=>go _ (by rw[decide_eq_false h1,decide_eq_true h2,h3,decide_eq_true h4];rfl)) fun h4=>go _ (by rw[decide_eq_false h1,decide_eq_true h2,h3,decide_eq_false h4];rfl)
 ·rw[List.length_map] at hge
  rw[VE (by omega),Bool.and_true] at he
  refine fB (fun h=>is (by unfold e7;rw[notLong,if_neg (by simp),←he,h];rfl)) fun h=>?_
  have dup:JT d=true→T.v (.int .i64 7)=T.v (.int .i64 (e7 d)):=fun h7=>is (by unfold e7;rw[notLong,if_neg (by simp),←he,h,if_neg (by simp),if_pos h7])
  have dup':(∃ i,∃ h:i<(gQ (ids d.2.2.1)).length,(gQ (ids d.2.2.1))[i].1∈ids d.2.1)∨(∃ i,∃ h:i<(gQ (ids d.2.2.2.1)).length,(gQ (ids d.2.2.2.1))[i].1∈ids d.2.1∨(gQ (ids d.2.2.2.1))[i].1∈ids d.2.2.1)∨(∃ i,∃ h:i<(gQ (ids d.2.2.2.2.1)).length,((gQ (ids d.2.2.2.2.1))[i].1∈ids d.2.1∨(gQ (ids d.2.2.2.2.1))[i].1∈ids d.2.2.1)∨(gQ (ids d.2.2.2.2.1))[i].1∈ids d.2.2.2.1)→JT d=true:=by
   intro h
   simp only[JT,ARI,Bool.or_eq_true,List.any_eq_true,BY]
   rcases h with ⟨i,hi,h⟩|⟨i,hi,h⟩|⟨i,hi,h⟩
   ·exact .inl (.inl ⟨_,j1.1 ⟨i,hi,rfl⟩,h⟩)
   ·exact .inl (.inr ⟨_,j1.1 ⟨i,hi,rfl⟩,h⟩)
   ·exact .inr ⟨_,j1.1 ⟨i,hi,rfl⟩,h⟩
  have m1:=fun id=>(@j1 (ids d.2.1) id)
  refine AY6 (m:=gQ (ids d.2.1)) (es:=[]) (R7:=T.v (.int .i64 7)=T.v (.int .i64 (e7 d))) Seen.nil (fun h=>by obtain ⟨_,_,h⟩:=h;exact h.elim) fun _=>?_
  refine AYY (m:=gQ (ids d.2.1)) (es:=[]) Seen.nil fun e1 rs1 s1=>?_
  have s1:=s1.congr (S':=fun id=>id∈ids d.2.1) fun id=>by rw[j1];simp
  refine AY6 (m:=gQ (ids d.2.2.1)) s1 (fun h=>dup (dup' (.inl h))) fun n1=>?_
  refine AYY (m:=gQ (ids d.2.2.1)) s1 fun e2 rs2 s2=>?_
  have s2:=s2.congr (S':=fun id=>id∈ids d.2.1∨id∈ids d.2.2.1) fun id=>by rw[j1]
  refine AY6 (m:=gQ (ids d.2.2.2.1)) s2 (fun h=>dup (dup' (.inr (.inl h)))) fun n2=>?_
  refine AYY (m:=gQ (ids d.2.2.2.1)) s2 fun e3 rs3 s3=>?_
  have s3:=s3.congr (S':=fun id=>(id∈ids d.2.1∨id∈ids d.2.2.1)∨id∈ids d.2.2.2.1) fun id=>by rw[j1]
  refine AY6 (m:=gQ (ids d.2.2.2.2.1)) s3 (fun h=>dup (dup' (.inr (.inr h)))) fun n3=>?_
  refine AYY (m:=gQ (ids d.2.2.2.2.1)) s3 fun e4 rs4 s4=>is ?_
  have nd:JT d=false:=by
   rw[Bool.eq_false_iff]
   intro h
   simp only[JT,ARI,Bool.or_eq_true,List.any_eq_true,BY] at h
   rcases h with (⟨x,hx,h⟩|⟨x,hx,h⟩)|⟨x,hx,h⟩
   ·obtain ⟨i,hi,rfl⟩:=j1.2 hx;exact n1 i hi h
   ·obtain ⟨i,hi,rfl⟩:=j1.2 hx;exact n2 i hi h
   ·obtain ⟨i,hi,rfl⟩:=j1.2 hx;exact n3 i hi h
  unfold e7;rw[notLong,if_neg (by simp),←he,h,if_neg (by simp),nd,if_neg (by simp)]
end Go.Pv
namespace Go.Pv
open Go Go.Proofs
def A8V:List T→Option T:=fun _=>none
theorem aN.nil {P:Program} {f:FuncId} (h:∃ fn,P.funcs[f]? = some fn∧(fn.name == "runtime.NumGoroutine")=false∧fn.body.isNone=false):aN P f A8V:=⟨h,fun _ _ _ _ _ _ _ _ h=>by cases h⟩
theorem XW (es:MP):pL (bJ es)=List.map (cK Sy.str false (Sy.int IntKind.i64)) es:=by
 unfold pL bJ
 rw[List.map_map];rfl
theorem O5 {α:Type} (id:ByteArray):∀ (l:List (ByteArray×α)) (i:Nat) (es:MP),(∃ v,iO es id=some v∧iO (EA (ids l) i es) id=some v)∨(iO es id=none∧iO (EA (ids l) i es) id=none∧l.find? (fun s=>decide (s.1=id))=none) ∨
  (iO es id=none∧∃ k,∃ h:k<l.length,iO (EA (ids l) i es) id=some ((i+k:Nat):Int)∧l.find? (fun s=>decide (s.1=id))=some l[k])
 | [],i,es=>by
  cases h:iO es id with
  | none=>exact .inr (.inl ⟨rfl,by simpa [ids,EA] using h,rfl⟩)
  | some v=>exact .inl ⟨v,rfl,by simpa [ids,EA] using h⟩
 | a::l,i,es=>by
  have hs:ids (a::l)=a.1::ids l:=rfl
  rw[hs]
  simp only[EA]
  have ih:=O5 id l (i+1) (match iO es a.1 with|none=>uJ es a.1 (i:Int)|some _=>es)
  by_cases ha:a.1=id
  ·subst ha
   cases hc:iO es a.1 with
   | some v =>
    simp only[hc] at ih ⊢
    rcases ih with ⟨v',h1,h2⟩|⟨h1,_⟩|⟨h1,_⟩
    ·exact .inl ⟨v',h1,h2⟩
    ·cases h1
    ·cases h1
   | none =>
    simp only[hc] at ih ⊢
    have hg:iO (uJ es a.1 (i:Int)) a.1=some (i:Int):=by rw[vU];simp
    rw[hg] at ih
    rcases ih with ⟨v',h1,h2⟩|⟨h1,_⟩|⟨h1,_⟩
    ·cases h1
     exact .inr (.inr ⟨by first|rfl|trivial,0,by simp,by simpa using h2,by simp⟩)
    ·cases h1
    ·cases h1
  ·have hg:iO (match iO es a.1 with|none=>uJ es a.1 (i:Int)|some _=>es) id=iO es id:=by
    cases hc:iO es a.1 with
    | none=>simp only[vU,ha,if_false]
    | some v=>rfl
   rw[hg] at ih
   rcases ih with ⟨v',h1,h2⟩|⟨h1,h2,h3⟩|⟨h1,k,hk,h2,h3⟩
   ·exact .inl ⟨v',h1,h2⟩
   ·exact .inr (.inl ⟨h1,h2,by rw[List.find?_cons_of_neg (by simpa using ha)];exact h3⟩)
   ·exact .inr (.inr ⟨h1,k+1,by simpa using hk,h2.trans (by congr 2;omega),by rw[List.find?_cons_of_neg (by simpa using ha)];simpa using h3⟩)
theorem BO {α:Type} (id:ByteArray) (l:List (ByteArray×α)):(iO (gQ (ids l)) id=none∧l.find? (fun s=>decide (s.1=id))=none)∨(∃ k,∃ h:k<l.length,iO (gQ (ids l)) id=some (k:Int)∧l.find? (fun s=>decide (s.1=id))=some l[k]):=by
 rcases O5 id l 0 [] with ⟨v,h,_⟩|⟨_,h1,h2⟩|⟨_,k,hk,h1,h2⟩
 ·cases h
 ·exact .inl ⟨h1,h2⟩
 ·exact .inr ⟨k,hk,h1.trans (by rw[Nat.zero_add]),h2⟩
theorem ixK {α:Type} {id:ByteArray} {l:List (ByteArray×α)} {A:Prop} {B:Nat→Int→Prop} (hA:l.find? (fun s=>decide (s.1=id))=none→A) (hB:∀ i k (h:k<l.length),l.find? (fun s=>decide (s.1=id))=some l[k]→B i (k:Int)) :
  fZ TypeDesc.string (Value.string id) (pL (bJ (gQ (ids l)))) false (Sy.int IntKind.i64) A B:=by
 rw[XW]
 refine A5 (r:=.int .i64) (fun h=>hA ?_) fun i v h=>?_
 ·rcases BO id l with ⟨_,h2⟩|⟨k,hk,h1,_⟩
  ·exact h2
  ·rw[h] at h1;cases h1
 ·rcases BO id l with ⟨h1,_⟩|⟨k,hk,h1,h2⟩
  ·rw[h] at h1;cases h1
  ·rw[h] at h1;cases h1;exact hB i k hk h2
def kV (a0:aC) (m1:List aD) (m2:List aD) (m3:List aD) (m4:List aD) (a5:ByteArray):List T:=[MZ a0 m1 m2 m3 m4,T.v (.string a5)]
noncomputable def IE:Env:=Env.of []
def U0:FuncId→Hint:=bV 307 [(3,.inv [.val 1 false .str,.own 6 1 .str,.val 9 false (.int .i64)])] (fun _=>aX)
theorem AAT:aR Tryz.prog IE:=.nil _
def I8(a0:aC)(m1:List aD)(m2:List aD)(m3:List aD)(m4:List aD)(a5:ByteArray)(R:T→Prop):Prop:=a6 (ByteArray×List ByteArray×Int×PUnit) (fun X0 s1=>aB (decide (s1.2.2.1<65)) (fZ TypeDesc.string (Value.string s1.1) (pL (bJ m1)) false bF (R (T.cC [T.sl false [],T.v (.bool false)])) fun (i2:Nat) (y3:Int)=>aS aZ (List.map aZ.enc a0.2.1) y3 fun (y4:bI)=>bS (decide (((List.map Sy.str.enc s1.2.1).length+1)*16≤140737488355328) && decide ((List.map Sy.str.enc s1.2.1).length+1≤140737488355328)) (aB (decide (y4.2.1=1)) (R (T.cC [T.sl false (List.map Sy.str.enc s1.2.1++[[T.v (.string s1.1)]]), T.v (.bool true)])) (cG Sy.str (List.map Sy.str.enc s1.2.1++[[T.v (.string s1.1)]]) fun (y5:List ByteArray)=>X0 (y4.2.2,y5,IntKind.i64.wrap (s1.2.2.1+1),())))) (R (T.cC [T.sl false [],T.v (.bool false)]))) (a5,[],0,())
theorem UR ( a0 m1 m2 m3 m4 a5 R):dS bZ Tryz.prog IE U0 8 251 (kV a0 m1 m2 m3 m4 a5) R=I8 a0 m1 m2 m3 m4 a5 R:=by kernel_rfl
theorem AK (x y:aC×MP×MP×MP×MP×ByteArray) (h:kV x.1 x.2.1 x.2.2.1 x.2.2.2.1 x.2.2.2.2.1 x.2.2.2.2.2=kV y.1 y.2.1 y.2.2.1 y.2.2.2.1 y.2.2.2.2.1 y.2.2.2.2.2):x=y:=by
 obtain ⟨h1,h2⟩:=List.cons.inj h
 have:=pG (x:=(x.1,x.2.1,x.2.2.1,x.2.2.2.1,x.2.2.2.2.1)) (y:=(y.1,y.2.1,y.2.2.1,y.2.2.2.1,y.2.2.2.2.1)) h1
 simp only[List.cons.injEq,T.v.injEq,Value.string.injEq,and_true] at h2
 simp only[Prod.mk.injEq] at this
 obtain ⟨e1,e2,e3,e4,e5⟩:=this
 exact Prod.ext e1 (Prod.ext e2 (Prod.ext e3 (Prod.ext e4 (Prod.ext e5 h2))))
def FE (x:aC×MP×MP×MP×MP×ByteArray):Option T:=uE (x.1,x.2.1,x.2.2.1,x.2.2.2.1,x.2.2.2.2.1) (Sh.enc [(false,.li .str),(false,.bool)] (up x.1 x.2.2.2.2.2))
noncomputable def jZ:List T→Option (T):=gA (fun (x:aC×List aD×List aD×List aD×List aD×ByteArray)=>kV x.1 x.2.1 x.2.2.1 x.2.2.2.1 x.2.2.2.2.1 x.2.2.2.2.2) FE
theorem XK (a0:aC) (m1:List aD) (m2:List aD) (m3:List aD) (m4:List aD) (a5:ByteArray):jZ (kV a0 m1 m2 m3 m4 a5)=FE (a0,m1,m2,m3,m4,a5):=e8 (A:=(fun (x:aC×List aD×List aD×List aD×List aD×ByteArray)=>kV x.1 x.2.1 x.2.2.1 x.2.2.2.1 x.2.2.2.2.1 x.2.2.2.2.2)) AK (a0,m1,m2,m3,m4,a5)
theorem AL7 (h:∀ (a0:aC) (m1:List aD) (m2:List aD) (m3:List aD) (m4:List aD) (a5:ByteArray) (r:T),FE (a0,m1,m2,m3,m4,a5)=some r→(∀ t∈kV a0 m1 m2 m3 m4 a5,Bd t)→I8 a0 m1 m2 m3 m4 a5 (fun y=>y=r)):aN Tryz.prog 251 jZ :=
 cQ (E:=IE) (Hs:=U0) AAT aT aW (aL rfl) 8 ⟨_,_,Tryz.func251,rfl⟩ fun x r h1 h2=>by
  rw[UR]
  exact h x.1 x.2.1 x.2.2.1 x.2.2.2.1 x.2.2.2.2.1 x.2.2.2.2.2 r h1 h2
theorem OD:aN Tryz.prog 251 jZ:=AL7 fun d m1 m2 m3 m4 id0 r h hb=>by
 obtain ⟨hx,hs,rfl⟩:=nB h
 simp only[Prod.mk.injEq,true_and] at hx
 obtain ⟨rfl,rfl,rfl,rfl⟩:=hx
 clear h
 unfold I8 bF
 refine bG 65 (fun k s=>∃ id' l',s=(id',l',(k:Int),())∧l'.length=k∧upF d (65-k) id' l'=up d id0) ⟨id0,[],rfl,rfl,rfl⟩ ?_
 rintro X k s hk ⟨id',l',rfl,hl,hu⟩ hX
 dsimp only
 have stop:up d id0=([],false)→T.cC [T.sl false [],T.v (.bool false)]=Sh.enc [(false,.li .str),(false,.bool)] (up d id0):=fun h=>by rw[h];rfl
 refine b6 (fun hlt=>?_) fun hge=>stop ?_
 ·have hlt:k<65:=by omega
  obtain ⟨m,hm⟩:∃ m,65-k=m+1:=⟨64-k,by omega⟩
  rw[hm] at hu
  simp only[upF] at hu
  refine ixK (fun hn=>stop ?_) fun i j hj hn=>?_
  ·have hn:fW d id'=none:=hn
   rw[hn] at hu;exact hu.symm
  ·have hn:fW d id'=some d.2.1[j]:=hn
   simp only[hn] at hu
   rw[bA (r:=aZ) hj,JG (by omega),ARC]
   refine b6 (fun h1=>?_) fun h1=>?_
   ·rw[if_pos h1] at hu
    rw[←hu,ARM];rfl
   ·rw[if_neg h1] at hu
    exact hX _ hlt ⟨_,_,by rw[show IntKind.i64.wrap ((k:Int)+1)=((k+1:Nat):Int) from bB _ (by omega) (by omega)],by simp[hl],by rw[←hu];congr 1;omega⟩
 ·have:65-k=0:=by omega
  rw[this] at hu
  exact hu.symm
def uC (d:aC) (n:bI):Int:=if x7 n.1=false then 6 else if ¬ n.2.1=1∧¬ n.2.1=2 then 10 else if n.2.1=1∧¬ n.2.2 = { data:=#[] } then 2 else if n.2.1=2∧(fW d n.2.2).isNone=true then 8 else 0
def A5B (d:aC):Bool:=d.2.1.any fun n=>!(up d n.1).2
def ARD (d:aC):Bool:=d.2.1.any fun n=>decide (8<(up d n.1).1.length)
def kH (d:aC):Int:=if bY (uC d) d.2.1=0 then (if A5B d=true then 20 else if ARD d=true then 13 else 0) else bY (uC d) d.2.1
def oP (a0:aC) (m1:List aD) (m2:List aD) (m3:List aD) (m4:List aD):List T:=[MZ a0 m1 m2 m3 m4]
noncomputable def H9:Env:=Env.of [(250,.pure dZ),(251,.pure jZ)]
def UU:FuncId→Hint:=bV 88 [(2,.inv [.val 20 false (.int .i64)]),(16,.inv [.val 7 false .bool,.val 74 false (.int .i64)])] (fun _=>aX)
theorem Z4:aR Tryz.prog H9:=.cons HO (.cons OD (.nil _))
def M2(X0:Int×PUnit→Prop)(s1:Int×PUnit):Prop:=X0 (IntKind.i64.wrap (s1.1+1),())
def NE(y2:bI)(R:T→Prop)(X0:Int×PUnit→Prop)(s1:Int×PUnit):Prop:=aB (decide (y2.2.1=1)) (aB (!decide (y2.2.2 = {data:=#[]})) (R f6) (aB (decide (y2.2.1=2)) (M2 X0 s1) (M2 X0 s1))) (aB (decide (y2.2.1=2)) (M2 X0 s1) (M2 X0 s1))
def PP(y2:bI)(R:T→Prop)(X0:Int×PUnit→Prop)(s1:Int×PUnit):Prop:=aB (decide (y2.2.1=1)) (aB (!decide (y2.2.2 = {data:=#[]})) (R f6) (aB (decide (y2.2.1=2)) (R eI) (M2 X0 s1))) (aB (decide (y2.2.1=2)) (R eI) (M2 X0 s1))
def RK(a0:aC):List (List T):=List.map aZ.enc a0.2.1
def IG(a0:aC)(m1:List aD)(m2:List aD)(m3:List aD)(m4:List aD)(R:T→Prop):Prop:=a6 (Int×PUnit) (fun X0 s1=>aB (decide (s1.1<(↑(RK a0).length:Int))) (aS aZ (RK a0) s1.1 fun (y2:bI)=>fZ TypeDesc.string (Value.string y2.2.2) (pL (bJ m1)) false bF (aJ d6 (dZ [T.v (.string y2.1)]) fun (y6:Bool)=>aB (!y6) (R f5) (aB (!decide (y2.2.1=1)) (aB (!decide (y2.2.1=2)) (R f7) (PP y2 R X0 s1)) (PP y2 R X0 s1))) fun (i3:Nat) (y4:Int)=>aJ d6 (dZ [T.v (.string y2.1)]) fun (y5:Bool)=>aB (!y5) (R f5) (aB (!decide (y2.2.1=1)) (aB (!decide (y2.2.1=2)) (R f7) (NE y2 R X0 s1)) (NE y2 R X0 s1))) (a6 (Bool×Int×PUnit) (fun X7 s8=>aB (decide (s8.2.1<(↑(RK a0).length:Int))) (aS aZ (RK a0) s8.2.1 fun (y9:bI)=>aJ [(false,Sy.str.li),(false,Sy.bool)] (jZ [T.ref [T.ref [T.v (.string a0.1),T.sl false (RK a0), T.sl false (List.map aO.enc a0.2.2.1), T.sl false (List.map a7.enc a0.2.2.2.1), T.sl false (List.map aG.enc a0.2.2.2.2.1), T.sl false (List.map aQ.enc a0.2.2.2.2.2)], T.mp (bJ m1),T.mp (bJ m2),T.mp (bJ m3), T.mp (bJ m4)], T.v (.string y9.1)]) fun (y10:List ByteArray×Bool)=>aB (!y10.2) (R (T.v (.int .i64 20))) (aB s8.1 (X7 (true,IntKind.i64.wrap (s8.2.1+1),())) (X7 (decide (8<(↑(List.map Sy.str.enc y10.1).length:Int)), IntKind.i64.wrap (s8.2.1+1),())))) (aB s8.1 (R (T.v (.int .i64 13))) (R d4))) (false,0,()))) (0,())
theorem UM ( a0 m1 m2 m3 m4 R):dS bZ Tryz.prog H9 UU 8 88 (oP a0 m1 m2 m3 m4) R=IG a0 m1 m2 m3 m4 R:=by kernel_rfl
theorem P3 (x y:aC×MP×MP×MP×MP) (h:oP x.1 x.2.1 x.2.2.1 x.2.2.2.1 x.2.2.2.2=oP y.1 y.2.1 y.2.2.1 y.2.2.2.1 y.2.2.2.2):x=y:=pG (List.cons.inj h).1
def E4 (x:aC×MP×MP×MP×MP):Option T:=uE x (T.v (Value.int .i64 (kH x.1)))
noncomputable def vE:List T→Option (T):=gA (fun (x:aC×List aD×List aD×List aD×List aD)=>oP x.1 x.2.1 x.2.2.1 x.2.2.2.1 x.2.2.2.2) E4
theorem WE (a0:aC) (m1:List aD) (m2:List aD) (m3:List aD) (m4:List aD):vE (oP a0 m1 m2 m3 m4)=E4 (a0,m1,m2,m3,m4):=e8 (A:=(fun (x:aC×List aD×List aD×List aD×List aD)=>oP x.1 x.2.1 x.2.2.1 x.2.2.2.1 x.2.2.2.2)) P3 (a0,m1,m2,m3,m4)
theorem ALI (h:∀ (a0:aC) (m1:List aD) (m2:List aD) (m3:List aD) (m4:List aD) (r:T),E4 (a0,m1,m2,m3,m4)=some r→(∀ t∈oP a0 m1 m2 m3 m4,Bd t)→IG a0 m1 m2 m3 m4 (fun y=>y=r)):aN Tryz.prog 88 vE :=
 cQ (E:=H9) (Hs:=UU) Z4 aT aW (aL rfl) 8 ⟨_,_,Tryz.func88,rfl⟩ fun x r h1 h2=>by
  rw[UM]
  exact h x.1 x.2.1 x.2.2.1 x.2.2.2.1 x.2.2.2.2 r h1 h2
theorem F4 {d:aC} (hs:lU d) (id:ByteArray):jZ (kV d (gQ (ids d.2.1)) (gQ (ids d.2.2.1)) (gQ (ids d.2.2.2.1)) (gQ (ids d.2.2.2.2.1)) id)=some (Sh.enc [(false,.li .str),(false,.bool)] (up d id)):=by
 rw[XK];exact nC hs _
theorem l7 (s:ByteArray) (K:Bool→Prop):aJ [(false,Sy.bool)] (dZ [T.v (.string s)]) K=K (x7 s):=by
 rw[show dZ [T.v (.string s)]=CI s from AKS]
 exact YW _ K
theorem AJW:aN Tryz.prog 88 vE:=ALI fun d m1 m2 m3 m4 r h hb=>by
 obtain ⟨hx,hs,rfl⟩:=nB h
 simp only[Prod.mk.injEq,true_and] at hx
 obtain ⟨rfl,rfl,rfl,rfl⟩:=hx
 clear h
 have is:∀ {n:Int},kH d=n→T.v (.int .i64 n)=T.v (.int .i64 (kH d)):=fun h=>by rw[h]
 unfold IG RK PP NE M2 f7 f6 f5 eI d6 d4 bF
 refine lX (r:=aZ) (uC d) hs.n (fun X s y hy hok hbad=>?_) fun h0=>?_
 ·have bad:∀ {n:Int},n≠0→uC d y=n→T.v (.int .i64 n)=T.v (.int .i64 (kH d)):=fun hn h=>is (by
   have:=hbad (by rw[h];exact hn)
   unfold kH
   rw[if_neg (by rw[this,h];exact hn),this,h])
  have tail:∀ {Z2 Z:Prop},x7 y.1=true→(y.2.1=2→Z2)→(uC d y=0→Z) →
   aB (!decide (y.2.1=1))
        (aB (!decide (y.2.1=2)) (T.v (.int .i64 10)=T.v (.int .i64 (kH d)))
         (aB (decide (y.2.1=1))
          (aB (!decide (y.2.2 = { data:=#[] })) (T.v (.int .i64 2)=T.v (.int .i64 (kH d)))
           (aB (decide (y.2.1=2)) Z2 Z))
          (aB (decide (y.2.1=2)) Z2 Z)))
        (aB (decide (y.2.1=1))
         (aB (!decide (y.2.2 = { data:=#[] })) (T.v (.int .i64 2)=T.v (.int .i64 (kH d)))
          (aB (decide (y.2.1=2)) Z2 Z))
         (aB (decide (y.2.1=2)) Z2 Z)):=by
   intro Z2 Z hid h2 h1
   refine jB (fun g1=>?_) fun g1=>?_
   ·refine jB (fun g2=>bad (by decide) (by unfold uC;rw[if_neg (by simp[hid]),if_pos ⟨g1,g2⟩])) fun g2=>?_
    refine b6 (fun h=>absurd h g1) fun _=>?_
    exact b6 (fun _=>h2 g2) fun h=>absurd g2 h
   ·refine b6 (fun _=>?_) fun h=>absurd g1 h
    refine jB (fun g3=>bad (by decide) (by unfold uC;rw[if_neg (by simp[hid]),if_neg (by simp[g1]),if_pos ⟨g1,g3⟩])) fun g3=>?_
    exact b6 (fun h=>by rw[g1] at h;cases h) fun h=>h1 (by unfold uC;rw[if_neg (by simp[hid]),if_neg (by simp[g1]),if_neg (by simp[g3]),if_neg (by simp[h])])
  refine ixK (fun hn=>?_) fun i j hj hn=>?_
  ·have hn:fW d y.2.2=none:=hn
   rw[l7]
   refine fB (fun hid=>bad (by decide) (by unfold uC;rw[if_pos hid])) fun hid=>?_
   refine tail hid (fun h2=>bad (by decide) ?_) fun h0=>hok h0
   unfold uC;rw[if_neg (by simp[hid]),if_neg (by simp[h2]),if_neg (by simp[h2]),if_pos ⟨h2,by rw[hn];rfl⟩]
  ·have hn:fW d y.2.2=some d.2.1[j]:=hn
   rw[l7]
   refine fB (fun hid=>bad (by decide) (by unfold uC;rw[if_pos hid])) fun hid=>?_
   refine tail hid (fun h2=>hok ?_) fun h0=>hok h0
   unfold uC;rw[if_neg (by simp[hid]),if_neg (by simp[h2]),if_neg (by simp[h2]),if_neg (by simp[hn])]
 ·have hn:d.2.1.length≤140737488355328:=hs.n
  refine bG d.2.1.length (fun k s=>s=((d.2.1.take k).any (fun n=>decide (8<(up d n.1).1.length)),(k:Int),())∧∀ n∈d.2.1.take k,(up d n.1).2=true) ⟨rfl,by simp⟩ ?_
  rintro X k s hk ⟨rfl,hall⟩ hX
  dsimp only
  refine b6 (fun hlt=>?_) fun hge=>?_
  ·rw[List.length_map] at hlt
   have hlt:k<d.2.1.length:=by omega
   rw[bA (r:=aZ) hlt]
   refine aF (s:=[(false,.li .str),(false,.bool)]) (F4 hs d.2.1[k].1) ?_
   have ht:d.2.1.take (k+1)=d.2.1.take k++[d.2.1[k]]:=List.take_succ_eq_append_getElem hlt
   have hw:IntKind.i64.wrap ((k:Int)+1)=((k+1:Nat):Int):=bB _ (by omega) (by omega)
   refine fB (fun hu=>is ?_) fun hu=>?_
   ·unfold kH
    rw[if_pos h0,if_pos (show A5B d=true from List.any_eq_true.2 ⟨_,List.getElem_mem hlt,by rw[hu];rfl⟩)]
   ·have hall':∀ n∈d.2.1.take (k+1),(up d n.1).2=true:=fun n hm=>by
     rw[ht] at hm
     rcases List.mem_append.1 hm with h|h
     ·exact hall n h
     ·simp at h;subst h;exact hu
    refine sZ (fun hd=>?_) fun hd=>?_
    ·refine hX _ hlt ⟨?_,hall'⟩
     rw[hw,ht,List.any_append,hd];rfl
    ·refine hX _ hlt ⟨?_,hall'⟩
     rw[hw,ht,List.any_append,hd]
     simp only[List.length_map,List.any_cons,List.any_nil,Bool.or_false,Bool.false_or,Prod.mk.injEq,and_true]
     congr 1
     exact propext ⟨fun h=>by omega,fun h=>by omega⟩
  ·rw[List.length_map] at hge
   have:k=d.2.1.length:=by omega
   subst this
   rw[List.take_length] at hall ⊢
   have hnu:A5B d=false:=by
    rw[Bool.eq_false_iff];intro h
    obtain ⟨n,hm,h⟩:=List.any_eq_true.1 h
    rw[hall n hm] at h;cases h
   refine sZ (fun h=>is ?_) fun h=>is ?_
   ·unfold kH;rw[if_pos h0,hnu,if_neg (by simp),if_pos (show ARD d=true from h)]
   ·unfold kH;rw[if_pos h0,hnu,if_neg (by simp),if_neg (by rw[show ARD d=false from h];simp)]
end Go.Pv
namespace Go.Pv
open Go Go.Proofs
def wG (d:aC) (s:bK):Int:=if x7 s.1=false∨x7 s.2.1=false∨x7 s.2.2.1=false then 6 else if s.2.1=s.2.2.1 then 2 else if ¬ s.2.2.2.1=1∧¬ s.2.2.2.1=2 then 10 else if s.2.2.2.2.1<1∨32768<s.2.2.2.2.1∨s.2.2.2.2.2<1∨3<s.2.2.2.2.2 then 9 else if (partOf d s.2.1).isNone=true∨(partOf d s.2.2.1).isNone=true then 8 else 0
def oQ (a0:aC) (m1:List aD) (m2:List aD) (m3:List aD) (m4:List aD):List T:=[MZ a0 m1 m2 m3 m4]
noncomputable def IA:Env:=Env.of [(250,.pure dZ)]
def UW:FuncId→Hint:=bV 90 [(2,.inv [.val 17 false (.int .i64)])] (fun _=>aX)
theorem Z5:aR Tryz.prog IA:=.cons HO (.nil _)
def UV(y2:bK)(R:T→Prop):Prop:=aB (decide (y2.2.2.2.2.1<1)) (R d7) (aB (decide (32768<y2.2.2.2.2.1)) (R d7) (aB (decide (y2.2.2.2.2.2<1)) (R d7) (aB (decide (3<y2.2.2.2.2.2)) (R d7) (R eI))))
def ST(y2:bK)(R:T→Prop):Prop:=aJ d6 (dZ [T.v (.string y2.1)]) fun (y15:Bool)=>aB (!y15) (R f5) (aJ d6 (dZ [T.v (.string y2.2.1)]) fun (y16:Bool)=>aB (!y16) (R f5) (aJ d6 (dZ [T.v (.string y2.2.2.1)]) fun (y17:Bool)=>aB (!y17) (R f5) (aB (decide (y2.2.1=y2.2.2.1)) (R f6) (aB (!decide (y2.2.2.2.1=1)) (aB (!decide (y2.2.2.2.1=2)) (R f7) (UV y2 R)) (UV y2 R)))))
def WF(y2:bK)(R:T→Prop)(X0:Int×PUnit→Prop)(s1:Int×PUnit):Prop:=aB (decide (y2.2.2.2.2.1<1)) (R d7) (aB (decide (32768<y2.2.2.2.2.1)) (R d7) (aB (decide (y2.2.2.2.2.2<1)) (R d7) (aB (decide (3<y2.2.2.2.2.2)) (R d7) (X0 (IntKind.i64.wrap (s1.1+1),())))))
def IH(a0:aC)(m1:List aD)(m2:List aD)(m3:List aD)(m4:List aD)(R:T→Prop):Prop:=a6 (Int×PUnit) (fun X0 s1=>aB (decide (s1.1<(↑(List.map a7.enc a0.2.2.2.1).length:Int))) (aS a7 (List.map a7.enc a0.2.2.2.1) s1.1 fun (y2:bK)=>fZ TypeDesc.string (Value.string y2.2.1) (pL (bJ m2)) false bF (fZ TypeDesc.string (Value.string y2.2.2.1) (pL (bJ m2)) false bF (ST y2 R) fun (i13:Nat) (y14:Int)=>ST y2 R) fun (i3:Nat) (y4:Int)=>fZ TypeDesc.string (Value.string y2.2.2.1) (pL (bJ m2)) false bF (ST y2 R) fun (i5:Nat) (y6:Int)=>aJ d6 (dZ [T.v (.string y2.1)]) fun (y7:Bool)=>aB (!y7) (R f5) (aJ d6 (dZ [T.v (.string y2.2.1)]) fun (y8:Bool)=>aB (!y8) (R f5) (aJ d6 (dZ [T.v (.string y2.2.2.1)]) fun (y9:Bool)=>aB (!y9) (R f5) (aB (decide (y2.2.1=y2.2.2.1)) (R f6) (aB (!decide (y2.2.2.2.1=1)) (aB (!decide (y2.2.2.2.1=2)) (R f7) (WF y2 R X0 s1)) (WF y2 R X0 s1)))))) (R d4)) (0,())
theorem UN ( a0 m1 m2 m3 m4 R):dS bZ Tryz.prog IA UW 8 90 (oQ a0 m1 m2 m3 m4) R=IH a0 m1 m2 m3 m4 R:=by kernel_rfl
theorem P4 (x y:aC×MP×MP×MP×MP) (h:oQ x.1 x.2.1 x.2.2.1 x.2.2.2.1 x.2.2.2.2=oQ y.1 y.2.1 y.2.2.1 y.2.2.2.1 y.2.2.2.2):x=y:=pG (List.cons.inj h).1
def E5 (x:aC×MP×MP×MP×MP):Option T:=uE x (T.v (Value.int .i64 (bY (wG x.1) x.1.2.2.2.1)))
noncomputable def vF:List T→Option (T):=gA (fun (x:aC×List aD×List aD×List aD×List aD)=>oQ x.1 x.2.1 x.2.2.1 x.2.2.2.1 x.2.2.2.2) E5
theorem WG (a0:aC) (m1:List aD) (m2:List aD) (m3:List aD) (m4:List aD):vF (oQ a0 m1 m2 m3 m4)=E5 (a0,m1,m2,m3,m4):=e8 (A:=(fun (x:aC×List aD×List aD×List aD×List aD)=>oQ x.1 x.2.1 x.2.2.1 x.2.2.2.1 x.2.2.2.2)) P4 (a0,m1,m2,m3,m4)
theorem ALJ (h:∀ (a0:aC) (m1:List aD) (m2:List aD) (m3:List aD) (m4:List aD) (r:T),E5 (a0,m1,m2,m3,m4)=some r→(∀ t∈oQ a0 m1 m2 m3 m4,Bd t)→IH a0 m1 m2 m3 m4 (fun y=>y=r)):aN Tryz.prog 90 vF :=
 cQ (E:=IA) (Hs:=UW) Z5 aT aW (aL rfl) 8 ⟨_,_,Tryz.func90,rfl⟩ fun x r h1 h2=>by
  rw[UN]
  exact h x.1 x.2.1 x.2.2.1 x.2.2.2.1 x.2.2.2.2 r h1 h2
theorem AJX:aN Tryz.prog 90 vF:=ALJ fun d m1 m2 m3 m4 r h hb=>by
 obtain ⟨hx,hs,rfl⟩:=nB h
 simp only[Prod.mk.injEq,true_and] at hx
 obtain ⟨rfl,rfl,rfl,rfl⟩:=hx
 replace hs:lU d:=hs
 clear h
 unfold IH WF ST UV f7 f6 f5 eI d7 d6 d4 bF
 refine lX (r:=a7) (wG d) hs.s (fun X s y hy hok hbad=>?_) fun h0=>?_
 ·have bad:∀ {n:Int},n≠0→wG d y=n→T.v (.int .i64 n)=T.v (.int .i64 (bY (wG d) d.2.2.2.1)):=fun hn h=>by
   rw[hbad (by rw[h];exact hn),h]
  clear hbad hb
  repeat' first
   | refine ixK (fun hn=>?_) (fun i j hj hn=>?_)
   | rw[l7]
   | refine jB (fun h=>?_) (fun h=>?_)
   | refine b6 (fun h=>?_) (fun h=>?_)
   | refine fB (fun h=>?_) (fun h=>?_)
  all_goals first
   | (exfalso;omega)
   | (refine bad (by decide) ?_;clear bad hok;unfold wG;simp[*,partOf,lP];done)
   | (refine hok ?_;clear bad hok;unfold wG;simp[*,partOf,lP];done)
 ·show _=T.v (.int .i64 (bY (wG d) d.2.2.2.1))
  rw[h0]
def pR (a0:aC) (m1:List aD) (m2:List aD) (m3:List aD) (m4:List aD) (a5:ByteArray):List T:=[MZ a0 m1 m2 m3 m4,T.v (.string a5)]
noncomputable def QA:Env:=Env.of []
def AFM:FuncId→Hint:=fun _=>aX
theorem AH9:aR Tryz.prog QA:=.nil _
def QO(a0:aC)(m1:List aD)(m2:List aD)(m3:List aD)(m4:List aD)(a5:ByteArray)(R:T→Prop):Prop:=fZ TypeDesc.string (Value.string a5) (pL (bJ m1)) false bF (R d3) fun (i0:Nat) (y1:Int)=>aS aZ (List.map aZ.enc a0.2.1) y1 fun (y2:bI)=>R (T.v (.bool (decide (y2.2.1=1))))
theorem AA6 ( a0 m1 m2 m3 m4 a5 R):dS bZ Tryz.prog QA AFM 8 254 (pR a0 m1 m2 m3 m4 a5) R=QO a0 m1 m2 m3 m4 a5 R:=by kernel_rfl
def vX (d:aC) (id:ByteArray):Bool:=match fW d id with
 | some n=>decide (n.2.1=1)
 | none=>false
theorem T8 (x y:aC×MP×MP×MP×MP×ByteArray) (h:pR x.1 x.2.1 x.2.2.1 x.2.2.2.1 x.2.2.2.2.1 x.2.2.2.2.2=pR y.1 y.2.1 y.2.2.1 y.2.2.2.1 y.2.2.2.2.1 y.2.2.2.2.2):x=y:=AK x y h
def MR (x:aC×MP×MP×MP×MP×ByteArray):Option T:=uE (x.1,x.2.1,x.2.2.1,x.2.2.2.1,x.2.2.2.2.1) (T.v (.bool (vX x.1 x.2.2.2.2.2)))
noncomputable def fL:List T→Option (T):=gA (fun (x:aC×List aD×List aD×List aD×List aD×ByteArray)=>pR x.1 x.2.1 x.2.2.1 x.2.2.2.1 x.2.2.2.2.1 x.2.2.2.2.2) MR
theorem AC5 (a0:aC) (m1:List aD) (m2:List aD) (m3:List aD) (m4:List aD) (a5:ByteArray):fL (pR a0 m1 m2 m3 m4 a5)=MR (a0,m1,m2,m3,m4,a5):=e8 (A:=(fun (x:aC×List aD×List aD×List aD×List aD×ByteArray)=>pR x.1 x.2.1 x.2.2.1 x.2.2.2.1 x.2.2.2.2.1 x.2.2.2.2.2)) T8 (a0,m1,m2,m3,m4,a5)
theorem AUU (h:∀ (a0:aC) (m1:List aD) (m2:List aD) (m3:List aD) (m4:List aD) (a5:ByteArray) (r:T),MR (a0,m1,m2,m3,m4,a5)=some r→(∀ t∈pR a0 m1 m2 m3 m4 a5,Bd t)→QO a0 m1 m2 m3 m4 a5 (fun y=>y=r)):aN Tryz.prog 254 fL :=
 cQ (E:=QA) (Hs:=AFM) AH9 aT aW (aL rfl) 8 ⟨_,_,Tryz.func254,rfl⟩ fun x r h1 h2=>by
  rw[AA6]
  exact h x.1 x.2.1 x.2.2.1 x.2.2.2.1 x.2.2.2.2.1 x.2.2.2.2.2 r h1 h2
theorem V3:aN Tryz.prog 254 fL:=AUU fun d m1 m2 m3 m4 id0 r h hb=>by
 obtain ⟨hx,hs,rfl⟩:=nB h
 simp only[Prod.mk.injEq,true_and] at hx
 obtain ⟨rfl,rfl,rfl,rfl⟩:=hx
 replace hs:lU d:=hs
 clear h
 unfold QO d3 bF
 refine ixK (fun hn=>?_) fun i j hj hn=>?_
 ·have hn:fW d id0=none:=hn
  show _=T.v (.bool (vX d id0))
  unfold vX;rw[hn]
 ·have hn:fW d id0=some d.2.1[j]:=hn
  rw[bA (r:=aZ) hj]
  show _=T.v (.bool (vX d id0))
  unfold vX;rw[hn]
theorem KR {d:aC} (hs:lU d) (id:ByteArray):fL (pR d (gQ (ids d.2.1)) (gQ (ids d.2.2.1)) (gQ (ids d.2.2.2.1)) (gQ (ids d.2.2.2.2.1)) id)=some (Sh.enc [(false,.bool)] (vX d id)):=by
 rw[AC5];exact nC hs _
def yM (d:aC) (x:bC):Int:=if x.1<1∨3<x.1 then 10 else if x.2.2=x.2.1 then 2 else if vX d x.2.1=false then 8 else if (x.1=1∧¬ x.2.2 = { data:=#[] }∧vX d x.2.2=false)∨(x.1=2∧vX d x.2.2=false)∨(x.1=3∧(lP d x.2.2).isNone=true) then 8 else 0
def oO (a0:aC) (m1:List aD) (m2:List aD) (m3:List aD) (m4:List aD):List T:=[MZ a0 m1 m2 m3 m4]
noncomputable def H8:Env:=Env.of [(254,.pure fL)]
def UT:FuncId→Hint:=bV 92 [(2,.inv [.val 15 false (.int .i64)])] (fun _=>aX)
theorem Z3:aR Tryz.prog H8:=.cons V3 (.nil _)
def BAC(a0:aC):List (List T):=List.map aQ.enc a0.2.2.2.2.2
def WP(a0:aC):List T:=[T.v (.string a0.1), T.sl false (List.map aZ.enc a0.2.1), T.sl false (List.map aO.enc a0.2.2.1), T.sl false (List.map a7.enc a0.2.2.2.1), T.sl false (List.map aG.enc a0.2.2.2.2.1), T.sl false (BAC a0)]
def ACM(X0:Int×PUnit→Prop)(s1:Int×PUnit):Prop:=X0 (IntKind.i64.wrap (s1.1+1),())
def AIG(a0:aC)(m1:List aD)(m2:List aD)(m3:List aD)(m4:List aD)(y2:bC):List T:=[T.ref [T.ref (WP a0), T.mp (bJ m1),T.mp (bJ m2),T.mp (bJ m3), T.mp (bJ m4)], T.v (.string y2.2.2)]
def A99(a0:aC)(m1:List aD)(m2:List aD)(m3:List aD)(m4:List aD)(y2:bC):List T:=[T.ref [T.ref [T.v (.string a0.1),T.sl false (List.map aZ.enc a0.2.1), T.sl false (List.map aO.enc a0.2.2.1), T.sl false (List.map a7.enc a0.2.2.2.1), T.sl false (List.map aG.enc a0.2.2.2.2.1), T.sl false (BAC a0)], T.mp (bJ m1),T.mp (bJ m2),T.mp (bJ m3), T.mp (bJ m4)], T.v (.string y2.2.1)]
def BAA(y2:bC)(X0:Int×PUnit→Prop)(s1:Int×PUnit):Prop:=aB (decide (y2.1=3)) (ACM X0 s1) (ACM X0 s1)
def BAB(y2:bC)(R:T→Prop)(X0:Int×PUnit→Prop)(s1:Int×PUnit):Prop:=aB (decide (y2.1=3)) (R eI) (ACM X0 s1)
def IF(a0:aC)(m1:List aD)(m2:List aD)(m3:List aD)(m4:List aD)(R:T→Prop):Prop:=a6 (Int×PUnit) (fun X0 s1=>aB (decide (s1.1<(↑(BAC a0).length:Int))) (aS aQ (BAC a0) s1.1 fun (y2:bC)=>fZ TypeDesc.string (Value.string y2.2.2) (pL (bJ m4)) false bF (aB (decide (y2.1<1)) (R f7) (aB (decide (3<y2.1)) (R f7) (aB (decide (y2.2.2=y2.2.1)) (R f6) (aJ d6 (fL (A99 a0 m1 m2 m3 m4 y2)) fun (y10:Bool)=>aB (!y10) (R eI) (aB (decide (y2.1=1)) (aB (!decide (y2.2.2 = {data:=#[]})) (aJ d6 (fL (AIG a0 m1 m2 m3 m4 y2)) fun (y11:Bool)=>aB (!y11) (R eI) (aB (decide (y2.1=2)) (aJ d6 (fL [T.ref [T.ref (WP a0), T.mp (bJ m1),T.mp (bJ m2), T.mp (bJ m3),T.mp (bJ m4)], T.v (.string y2.2.2)]) fun (y12:Bool)=>aB (!y12) (R eI) (BAB y2 R X0 s1)) (BAB y2 R X0 s1))) (aB (decide (y2.1=2)) (aJ d6 (fL (AIG a0 m1 m2 m3 m4 y2)) fun (y13:Bool)=>aB (!y13) (R eI) (BAB y2 R X0 s1)) (BAB y2 R X0 s1))) (aB (decide (y2.1=2)) (aJ d6 (fL (AIG a0 m1 m2 m3 m4 y2)) fun (y14:Bool)=>aB (!y14) (R eI) (BAB y2 R X0 s1)) (BAB y2 R X0 s1))))))) fun (i3:Nat) (y4:Int)=>aB (decide (y2.1<1)) (R f7) (aB (decide (3<y2.1)) (R f7) (aB (decide (y2.2.2=y2.2.1)) (R f6) (aJ d6 (fL (A99 a0 m1 m2 m3 m4 y2)) fun (y5:Bool)=>aB (!y5) (R eI) (aB (decide (y2.1=1)) (aB (!decide (y2.2.2 = {data:=#[]})) (aJ d6 (fL (AIG a0 m1 m2 m3 m4 y2)) fun (y6:Bool)=>aB (!y6) (R eI) (aB (decide (y2.1=2)) (aJ d6 (fL [T.ref [T.ref (WP a0), T.mp (bJ m1),T.mp (bJ m2), T.mp (bJ m3),T.mp (bJ m4)], T.v (.string y2.2.2)]) fun (y7:Bool)=>aB (!y7) (R eI) (BAA y2 X0 s1)) (BAA y2 X0 s1))) (aB (decide (y2.1=2)) (aJ d6 (fL (AIG a0 m1 m2 m3 m4 y2)) fun (y8:Bool)=>aB (!y8) (R eI) (BAA y2 X0 s1)) (BAA y2 X0 s1))) (aB (decide (y2.1=2)) (aJ d6 (fL (AIG a0 m1 m2 m3 m4 y2)) fun (y9:Bool)=>aB (!y9) (R eI) (BAA y2 X0 s1)) (BAA y2 X0 s1))))))) (R d4)) (0,())
theorem UL ( a0 m1 m2 m3 m4 R):dS bZ Tryz.prog H8 UT 8 92 (oO a0 m1 m2 m3 m4) R=IF a0 m1 m2 m3 m4 R:=by kernel_rfl
theorem P2 (x y:aC×MP×MP×MP×MP) (h:oO x.1 x.2.1 x.2.2.1 x.2.2.2.1 x.2.2.2.2=oO y.1 y.2.1 y.2.2.1 y.2.2.2.1 y.2.2.2.2):x=y:=pG (List.cons.inj h).1
def E3 (x:aC×MP×MP×MP×MP):Option T:=uE x (T.v (Value.int .i64 (bY (yM x.1) x.1.2.2.2.2.2)))
noncomputable def vD:List T→Option (T):=gA (fun (x:aC×List aD×List aD×List aD×List aD)=>oO x.1 x.2.1 x.2.2.1 x.2.2.2.1 x.2.2.2.2) E3
theorem WD (a0:aC) (m1:List aD) (m2:List aD) (m3:List aD) (m4:List aD):vD (oO a0 m1 m2 m3 m4)=E3 (a0,m1,m2,m3,m4):=e8 (A:=(fun (x:aC×List aD×List aD×List aD×List aD)=>oO x.1 x.2.1 x.2.2.1 x.2.2.2.1 x.2.2.2.2)) P2 (a0,m1,m2,m3,m4)
theorem ALH (h:∀ (a0:aC) (m1:List aD) (m2:List aD) (m3:List aD) (m4:List aD) (r:T),E3 (a0,m1,m2,m3,m4)=some r→(∀ t∈oO a0 m1 m2 m3 m4,Bd t)→IF a0 m1 m2 m3 m4 (fun y=>y=r)):aN Tryz.prog 92 vD :=
 cQ (E:=H8) (Hs:=UT) Z3 aT aW (aL rfl) 8 ⟨_,_,Tryz.func92,rfl⟩ fun x r h1 h2=>by
  rw[UL]
  exact h x.1 x.2.1 x.2.2.1 x.2.2.2.1 x.2.2.2.2 r h1 h2
theorem AJV:aN Tryz.prog 92 vD:=ALH fun d m1 m2 m3 m4 r h hb=>by
 obtain ⟨hx,hs,rfl⟩:=nB h
 simp only[Prod.mk.injEq,true_and] at hx
 obtain ⟨rfl,rfl,rfl,rfl⟩:=hx
 replace hs:lU d:=hs
 clear h
 unfold IF BAB BAA A99 AIG ACM WP BAC f7 f6 eI d6 d4 bF
 refine lX (r:=aQ) (yM d) hs.r (fun X s y hy hok hbad=>?_) fun h0=>?_
 ·have bad:∀ {n:Int},n≠0→yM d y=n→T.v (.int .i64 n)=T.v (.int .i64 (bY (yM d) d.2.2.2.2.2)):=fun hn h=>by
   rw[hbad (by rw[h];exact hn),h]
  clear hbad hb
  repeat' first
   | refine ixK (fun hn=>?_) (fun i j hj hn=>?_)
   | rw[l7]
   | refine aF (s:=[(false,.bool)]) (KR hs _) ?_
   | refine jB (fun h=>?_) (fun h=>?_)
   | refine b6 (fun h=>?_) (fun h=>?_)
   | refine fB (fun h=>?_) (fun h=>?_)
  all_goals first
   | (exfalso;omega)
   | (refine bad (by decide) ?_;clear bad hok;unfold yM;simp[*,partOf,lP];done)
   | (refine hok ?_;clear bad hok;unfold yM;simp[*,partOf,lP];done)
   | (refine hok ?_;clear bad hok hs hy;unfold yM;simp_all[partOf,lP];done)
 ·show _=T.v (.int .i64 (bY (yM d) d.2.2.2.2.2))
  rw[h0]
end Go.Pv
namespace Go.Pv
open Go Go.Proofs
noncomputable def A2L:Env:=Env.of []
def A2Z:FuncId→Hint:=bV 320 [(2,.inv [.val 9 false (.int .i64)])] (fun _=>aX)
theorem AN7:aR Tryz.prog A2L:=.nil _
def AA4(a0:Int)(a1:List aP)(R:T→Prop):Prop:=a6 (Int×PUnit) (fun X0 s1=>aB (decide (s1.1<(↑(List.map aA.enc a1).length:Int))) (aS aA (List.map aA.enc a1) s1.1 fun (y2:aP)=>aB (decide (y2.1<0)) (R d7) (aB (decide (a0≤y2.1)) (R d7) (aB (decide (y2.2<0)) (R d7) (aB (decide (a0≤y2.2)) (R d7) (aB (decide (y2.1=y2.2)) (R f6) (X0 (IntKind.i64.wrap (s1.1+1),()))))))) (R d4)) (0,())
abbrev AEK:Sh:=[(false,(Sy.int IntKind.i64)),(false,aA.li)]
def JX (n:Int) (x:aP):Int:=if x.1<0∨n≤x.1∨x.2<0∨n≤x.2 then 9 else if x.1=x.2 then 2 else 0
def HZ (x:Int×List aP):Option T:=nR x.2 (T.v (Value.int .i64 (bY (JX x.1) x.2)))
noncomputable def KP:List T→Option T:=gS AEK HZ
theorem AKQ {a0 a1}:KP [T.v (.int .i64 a0),T.sl false (List.map aA.enc a1)]=HZ (a0,a1):=bD (s:=AEK) rfl (a0,a1) rfl
theorem A0P:uH Tryz.prog 320 KP HZ (cB AEK) AA4:=iK (a1:=(false,(Sy.int IntKind.i64))) (a2:=(false,aA.li)) (sp:=HZ) (F:=AA4) (Hs:=A2Z) (f:=320) (k:=8) AN7 aT aW (aL rfl) ⟨_,_,Tryz.func320,rfl⟩ rfl fun _ _ _=>by kernel_rfl
theorem AZO:aN Tryz.prog 320 KP:=A0P fun n l r h hb=>by
 obtain ⟨hl,rfl⟩:=iF h
 clear h
 unfold AA4 f6 d7 d4
 refine lX (r:=aA) (JX n) hl (fun X s y hy hok hbad=>?_) fun h0=>?_
 ·have bad:∀ {m:Int},m≠0→JX n y=m→T.v (.int .i64 m)=T.v (.int .i64 (bY (JX n) l)):=fun hn h=>by
   rw[hbad (by rw[h];exact hn),h]
  clear hbad hb
  repeat' first
   | refine jB (fun h=>?_) (fun h=>?_)
   | refine b6 (fun h=>?_) (fun h=>?_)
  all_goals first
   | (exfalso;omega)
   | (refine bad (by decide) ?_;clear bad hok;unfold JX;first|(rw[if_pos (by omega)];done)|(rw[if_neg (by omega),if_pos (by omega)];done))
   | (refine hok ?_;clear bad hok;unfold JX;rw[if_neg (by omega),if_neg (by omega)];done)
 ·show _=T.v (.int .i64 (bY (JX n) l))
  rw[h0]
noncomputable def QB:Env:=Env.of [(320,.pure KP)]
def AFN:FuncId→Hint:=bV 256 [(8,.inv [.arr 0 1 (.int .i64),.val 31 false (.int .i64)]),(14,.inv [.arr 0 1 (.int .i64),.own 10 1 (.int .i64),.arr 2 1 .bool]),(16,.inv [.val 52 false (.int .i64),.fix 0,.fix 2,.fix 3]),(22,.inv [.arr 0 1 (.int .i64),.val 75 false (.int .i64)])] (fun _=>aX)
theorem AIB:aR Tryz.prog QB:=.cons AZO (.nil _)
def BAD(s14:List Int×List Int×List Bool×PUnit):List (List T):=List.map Sy.bool.enc s14.2.2.1
def BAE(s3:List Int×Int×PUnit):List (List T):=List.map bF.enc s3.1
def BAF(s14:List Int×List Int×List Bool×PUnit):List (List T):=List.map bF.enc s14.2.1
def BAG(s14:List Int×List Int×List Bool×PUnit):List (List T):=List.map bF.enc s14.1
def QQ(a0:Int)(a1:List aP)(R:T→Prop):Prop:=aB (decide (a0<0)) (bS d7.flat (R (T.cC [T.sl false [],T.v (.int .i64 9)]))) (aB (decide (256<a0)) (bS d7.flat (R (T.cC [T.sl false [],T.v (.int .i64 9)]))) (aJ d8 (KP [T.v (.int .i64 a0),T.sl false (List.map aA.enc a1)]) fun (y0:Int)=>aB (!decide (y0=0)) (bS (T.v (.int .i64 y0)).flat (R (T.cC [T.sl false [],T.v (.int .i64 y0)]))) (bS ((decide (a0=a0)||decide (a0=0))&&decide (0≤a0)&&decide (a0*(↑8:Int)≤140737488355328) && decide (a0≤140737488355328)) (cG bF (List.replicate (Int.toNat a0) [T.v (.int .i64 0)]) fun (y1:List Int)=>a6 (List Int×Int×PUnit) (fun X2 s3=>aB (decide (s3.2.1<(↑(List.map aA.enc a1).length:Int))) (aS aA (List.map aA.enc a1) s3.2.1 fun (y4:aP)=>aS bF (BAE s3) y4.2 fun (y5:Int)=>nD bF (BAE s3) (Int.toNat y4.2) 0 fun (y6:Int)=>aS bF (BAE s3) y4.2 fun (y7:Int)=>NP (BAE s3) (Int.toNat y4.2) fun (y8:List T)=>bS (decide (1≤y8.length)) (cG bF ((BAE s3).set (Int.toNat y4.2) (cA y8 0 [T.v (.int .i64 (IntKind.i64.wrap (y6+1)))])) fun (y9:List Int)=>X2 (y9,IntKind.i64.wrap (s3.2.1+1),()))) (bS ((decide (0=a0)||true)&&decide (0≤a0)&&decide (a0*(↑8:Int)≤140737488355328) && decide (a0≤140737488355328)) (bS ((decide (a0=a0)||decide (a0=0))&&decide (0≤a0) && decide (a0*(↑1:Int)≤140737488355328) && decide (a0≤140737488355328)) (cG bF (BAE s3) fun (y10:List Int)=>cG bF [] fun (y11:List Int)=>cG Sy.bool (List.replicate (Int.toNat a0) [T.v (.bool false)]) fun (y12:List Bool)=>a6 (List Int×List Int×List Bool×PUnit) (fun X13 s14=>aB (decide ((↑(BAF s14).length:Int)<a0)) (fG (bE.arr false 1 (BAG s14)) (bE.arr false 1 (BAG s14)) (fG (bE.arr false 1 (BAD s14)) (bE.arr false 1 (BAD s14)) (fG (bE.arr false 1 (BAF s14)) (bE.arr false 1 (BAF s14)) (a6 (Int×PUnit×PUnit×PUnit×PUnit) (fun X15 s16=>aB (decide (s16.1<a0)) (aS Sy.bool (BAD s14) s16.1 fun (y17:Bool)=>nD Sy.bool (BAD s14) (Int.toNat s16.1) 0 fun (y18:Bool)=>aB y18 (fG (bE.arr false 1 (BAG s14)) (bE.arr false 1 (BAG s14)) (fG (bE.arr false 1 (BAD s14)) (bE.arr false 1 (BAD s14)) (fG (bE.arr false 1 (BAF s14)) (bE.arr false 1 (BAF s14)) (X15 (IntKind.i64.wrap (s16.1+1),(),(),(),()))))) (aS bF (BAG s14) s16.1 fun (y19:Int)=>nD bF (BAG s14) (Int.toNat s16.1) 0 fun (y20:Int)=>aB (decide (0<y20)) (fG (bE.arr false 1 (BAG s14)) (bE.arr false 1 (BAG s14)) (fG (bE.arr false 1 (BAD s14)) (bE.arr false 1 (BAD s14)) (fG (bE.arr false 1 (BAF s14)) (bE.arr false 1 (BAF s14)) (X15 (IntKind.i64.wrap (s16.1+1),(),(),(), ()))))) (aS Sy.bool (BAD s14) s16.1 fun (y21:Bool)=>NP (BAD s14) (Int.toNat s16.1) fun (y22:List T)=>bS (decide (1≤y22.length)) (bS (decide (((BAF s14).length + 1) * 8 ≤ 140737488355328) && decide ((BAF s14).length + 1 ≤ 140737488355328)) (cG bF (BAG s14) fun (y23:List Int)=>a6 (List Int×Int×PUnit) (fun X24 s25=>aB (decide (s25.2.1 < (↑(List.map aA.enc a1).length : Int))) (aS aA (List.map aA.enc a1) s25.2.1 fun (y26:aP)=>aB (decide (y26.1=s16.1)) (aS bF (BAE s25) y26.2 fun (y27:Int)=>nD bF (BAE s25) (Int.toNat y26.2) 0 fun (y28:Int)=>aS bF (BAE s25) y26.2 fun (y29:Int)=>NP (BAE s25) (Int.toNat y26.2) fun (y30:List T)=>bS (decide (1≤y30.length)) (cG bF ((BAE s25).set (Int.toNat y26.2) (cA y30 0 [T.v (Value.int IntKind.i64 (IntKind.i64.wrap (y28-1)))])) fun (y31:List Int)=>X24 (y31, IntKind.i64.wrap (s25.2.1+1), ()))) (cG bF (BAE s25) fun (y32:List Int)=>X24 (y32, IntKind.i64.wrap (s25.2.1+1), ()))) (cG bF (BAE s25) fun (y33:List Int)=>cG bF (List.map bF.enc s14.2.1 ++ [[T.v (Value.int IntKind.i64 s16.1)]]) fun (y34:List Int)=>cG Sy.bool ((BAD s14).set (Int.toNat s16.1) (cA y22 0 [T.v (.bool true)])) fun (y35:List Bool)=>X13 (y33,y34,y35,()))) (y23,0,())))))) (bS (T.v (.int .i64 20)).flat (R (T.cC [T.sl false [], T.v (.int .i64 20)])))) (0,(),(),(),()))))) (bS ((BAF s14).all fun (r:List T)=>r.all T.flat) (bS d4.flat (R (T.cC [T.sl false (BAF s14), T.v (.int .i64 0)]))))) (y10,y11,y12,()))))) (y1,0,())))))
theorem AA9 ( a0 a1 R):tW bZ Tryz.prog QB AFN 8 256 [aH false (Sy.int IntKind.i64) a0,aH false aA.li a1] R=QQ a0 a1 R:=by kernel_rfl
abbrev HV:Sh:=[(false,(Sy.int IntKind.i64)),(false,aA.li)]
abbrev w9:Sh:=[(false,(Sy.int IntKind.i64).li),(false,Sy.int IntKind.i64)]
def AQ7 (b:List Int) (e:aP):List Int:=b.set e.2.toNat (IntKind.i64.wrap (b.getD e.2.toNat 0+1))
def ARA (v:Int) (b:List Int) (e:aP):List Int:=if e.1=v then b.set e.2.toNat (IntKind.i64.wrap (b.getD e.2.toNat 0-1)) else b
def FZ (b:List Int) (t:List Bool) (k:Nat):Bool:=!t.getD k false&&decide (b.getD k 0≤0)
def zZ (l:List aP) (n:Nat):Nat→List Int→List Int→List Bool→List Int×Int
 | 0,_,o,_=>(o,0)
 | f+1,b,o,t=>match (List.range n).find? (FZ b t) with
  | none=>([],20)
  | some v=>zZ l n f (l.foldl (ARA v) b) (o++[(v:Int)]) (t.set v true)
def kJ (n:Int) (l:List aP):List Int×Int :=
 if n<0∨256<n then ([],9) else if bY (JX n) l=0 then zZ l n.toNat n.toNat (l.foldl AQ7 (List.replicate n.toNat 0)) [] (List.replicate n.toNat false) else ([],bY (JX n) l)
theorem J8 {α:Type} {f:α→Int}:∀ {l:List α},bY f l=0→∀ a∈l,f a=0
 | [],_,_,h=>by cases h
 | b::l,h,a,ha=>by
  unfold bY at h
  split at h
  ·rename_i hb
   rcases List.mem_cons.1 ha with rfl|ha
   ·exact hb
   ·exact J8 h a ha
  ·exact absurd h ‹_›
theorem xA {r:Sy} {l:List r.den} {i:Int} (h0:0≤i) (h:i.toNat<l.length) (K:r.den→Prop):aS r (List.map r.enc l) i K=K l[i.toNat]:=by
 have e:i=((i.toNat:Nat):Int):=by omega
 have:=bA h K
 rw[←e] at this
 exact this
theorem AG4 {l:List Int} {k:Nat} (h:k<l.length) (y:Int):(List.map (Sy.int .i64).enc l).set k (cA ((Sy.int .i64).enc l[k]) 0 [T.v (.int .i64 y)])=List.map (Sy.int .i64).enc (l.set k y):=by
 rw[List.map_set];rfl
theorem AWI {l:List Bool} {k:Nat} (h:k<l.length) (y:Bool):(List.map Sy.bool.enc l).set k (cA (Sy.bool.enc l[k]) 0 [T.v (.bool y)])=List.map Sy.bool.enc (l.set k y):=by
 rw[List.map_set];rfl
theorem w3 {α:Type} {l:List α} {k:Nat} (d:α) (h:k<l.length):l.getD k d=l[k]:=by simp[List.getD,h]
theorem A07 (n:Nat):List.replicate n [T.v (Value.int .i64 0)]=List.map (Sy.int .i64).enc (List.replicate n 0):=by rw[List.map_replicate];rfl
theorem AVP (n:Nat):List.replicate n [T.v (.bool false)]=List.map Sy.bool.enc (List.replicate n false):=by rw[List.map_replicate];rfl
theorem AJT (l:List Int):((List.map (Sy.int .i64).enc l).all fun (r:List T)=>r.all T.flat)=true:=by
 rw[List.all_map,List.all_eq_true];intro a _;rfl
def MS (x:Int×List aP):Option T:=nR x.2 (Sh.enc w9 (kJ x.1 x.2))
noncomputable def BL:List T→Option (T):=gS HV MS
theorem AC7 {a0 a1}:BL [T.v (.int .i64 a0),T.sl false (List.map aA.enc a1)]=MS (a0,a1):=bD (s:=HV) rfl (a0,a1) rfl
theorem AUW (h:∀ a0 a1 r,MS (a0,a1)=some r→cB HV (a0,a1)→QQ a0 a1 (fun y=>y=r)):jN Tryz.prog 256 BL :=
 A0D (E:=QB) (Hs:=AFN) AIB aT aW (aL rfl) 8 ⟨_,_,Tryz.func256,rfl⟩ rfl fun x r h1 h2=>by
  obtain ⟨a0,a1⟩:=x
  rw[show Sh.lW HV (a0,a1)=[aH false (Sy.int IntKind.i64) a0,aH false aA.li a1] from rfl,AA9]
  exact h a0 a1 r h1 h2
theorem AR4:jN Tryz.prog 256 BL:=AUW fun n l r h hb=>by
 obtain ⟨hl,rfl⟩:=iF h
 clear h
 have hl:l.length≤140737488355328:=hl
 unfold QQ BAG BAF BAE BAD d8 d7 d4 bF
 refine b6 (fun h=>?_) fun hn0=>?_
 ·refine ⟨rfl,?_⟩
  show _=Sh.enc w9 (kJ n l)
  rw[kJ,if_pos (Or.inl h)];rfl
 refine b6 (fun h=>?_) fun hn1=>?_
 ·refine ⟨rfl,?_⟩
  show _=Sh.enc w9 (kJ n l)
  rw[kJ,if_pos (Or.inr h)];rfl
 refine aF (s:=[(false,.int .i64)]) (y:=bY (JX n) l) (by rw[AKQ];exact fC _ hl) ?_
 refine jB (fun h0=>?_) (fun h0=>?_)
 ·refine ⟨rfl,?_⟩
  show _=Sh.enc w9 (kJ n l)
  rw[kJ,if_neg (by omega),if_neg h0];rfl
 have hv:kJ n l=zZ l n.toNat n.toNat (l.foldl AQ7 (List.replicate n.toNat 0)) [] (List.replicate n.toNat false):=by
  rw[kJ,if_neg (by omega),if_pos h0]
 have hend:∀ e∈l,0≤e.1∧e.1<n∧0≤e.2∧e.2<n:=fun e he=>by
  have:=J8 h0 e he
  unfold JX at this
  split at this
  ·exact absurd this (by decide)
  ·omega
 clear h0 hb
 obtain ⟨N,rfl⟩:∃ N:Nat,n=(N:Int):=⟨n.toNat,by omega⟩
 rw[Int.toNat_natCast] at hv ⊢
 refine ⟨by simp;omega,?_⟩
 rw[A07,dK rfl]
 refine bG l.length (fun k s=>s.2.1=(k:Int)∧s.1.length=N∧(l.drop k).foldl AQ7 s.1=l.foldl AQ7 (List.replicate N 0)) ⟨rfl,by simp,rfl⟩ ?_
 rintro X k ⟨b,i,u⟩ hk ⟨rfl,hbl,hbf⟩ hX
 dsimp only at hbl hbf ⊢
 refine b6 (fun hlt=>?_) fun hge=>?_
 ·rw[List.length_map] at hlt
  have hlt:k<l.length:=by omega
  rw[bA hlt]
  obtain ⟨-,-,e0,e1⟩:=hend _ (List.getElem_mem hlt)
  have hj:(l[k].2).toNat<b.length:=by omega
  rw[xA e0 hj,iW hj,xA e0 hj,tJ hj]
  refine ⟨rfl,?_⟩
  rw[AG4 hj,dK rfl]
  refine hX _ hlt ⟨?_,?_,?_⟩
  ·show IntKind.i64.wrap ((k:Int)+1)=_
   rw[bB]<;>omega
  ·show (List.set _ _ _).length=N
   rw[List.length_set];exact hbl
  ·rw[List.drop_eq_getElem_cons hlt,List.foldl_cons] at hbf
   rw[←hbf]
   congr 1
   unfold AQ7
   rw[w3 (l:=b) 0 hj]
 rw[List.length_map] at hge
 have hkl:k=l.length:=by omega
 subst hkl
 rw[List.drop_length,List.foldl_nil] at hbf
 rw[←hbf] at hv
 refine ⟨by simp;omega,⟨by simp;omega,?_⟩⟩
 rw[dK rfl,ARB,AVP,dK rfl]
 clear hX hge hbf
 refine bG N (fun k s=>s.1.length=N∧s.2.1.length=k∧s.2.2.1.length=N∧zZ l N (N-k) s.1 s.2.1 s.2.2.1=kJ N l) ⟨hbl,rfl,by simp,by rw[hv];rfl⟩ ?_
 clear hv hbl b u
 rintro X k ⟨b,o,t,u⟩ hk ⟨hbl,hol,htl,hr⟩ hX
 dsimp only at hbl hol htl hr ⊢
 refine b6 (fun hlt=>?_) fun hge=>?_
 ·rw[List.length_map,hol] at hlt
  have hlt:k<N:=by omega
  rw[cS,cS,cS]
  obtain ⟨m,hm⟩:∃ m,N-k=m+1:=⟨N-k-1,by omega⟩
  rw[hm,zZ] at hr
  refine bG N (fun j s=>s.1=(j:Int)∧(List.range N).find? (FZ b t)=(List.range' j (N-j)).find? (FZ b t)) ⟨rfl,by rw[List.range_eq_range'];rfl⟩ ?_
  rintro Y j ⟨i,u1,u2,u3,u4⟩ hj ⟨rfl,hf⟩ hY
  dsimp only at hf ⊢
  refine b6 (fun hjn=>?_) fun hjn=>?_
  ·have hjn:j<N:=by omega
   have hjb:j<b.length:=by omega
   have hjt:j<t.length:=by omega
   obtain ⟨q,hq⟩:∃ q,N-j=q+1:=⟨N-j-1,by omega⟩
   rw[hq,List.range'_succ,List.find?_cons] at hf
   have next:FZ b t j=false→Y (IntKind.i64.wrap ((j:Int)+1),(),(),(),()):=fun h=>by
    refine hY _ hjn ⟨?_,?_⟩
    ·show IntKind.i64.wrap ((j:Int)+1)=_
     rw[bB]<;>omega
    ·rw[hf,h]
     rw[show N-(j+1)=q by omega]
   simp only[Int.toNat_natCast]
   rw[bA hjt,iW hjt]
   refine sZ (fun ht=>?_) fun ht=>?_
   ·rw[cS,cS,cS]
    exact next (by rw[FZ,w3 (l:=t) false hjt,ht];rfl)
   rw[bA hjb,iW hjb]
   refine b6 (fun hp=>?_) fun hp=>?_
   ·rw[cS,cS,cS]
    exact next (by rw[FZ,w3 (l:=b) 0 hjb,decide_eq_false (by omega),Bool.and_false])
   have hfree:FZ b t j=true:=by rw[FZ,w3 (l:=b) 0 hjb,w3 (l:=t) false hjt,ht,decide_eq_true (by omega)];rfl
   rw[hfree] at hf
   rw[hf] at hr
   dsimp only at hr
   clear next hY hf
   rw[bA hjt,tJ hjt]
   refine ⟨rfl,⟨by simp;omega,?_⟩⟩
   rw[dK rfl]
   refine bG l.length (fun k s=>s.2.1=(k:Int)∧s.1.length=N∧(l.drop k).foldl (ARA j) s.1=l.foldl (ARA j) b) ⟨rfl,hbl,rfl⟩ ?_
   rintro Z i ⟨c,i',u⟩ hi ⟨rfl,hcl,hcf⟩ hZ
   dsimp only at hcl hcf ⊢
   refine b6 (fun hlt=>?_) fun hge=>?_
   ·rw[List.length_map] at hlt
    have hlt:i<l.length:=by omega
    rw[bA hlt]
    obtain ⟨-,-,e0,e1⟩:=hend _ (List.getElem_mem hlt)
    have hjc:(l[i].2).toNat<c.length:=by omega
    rw[List.drop_eq_getElem_cons hlt,List.foldl_cons] at hcf
    have hw:IntKind.i64.wrap ((i:Int)+1)=((i+1:Nat):Int):=by rw[bB]<;>omega
    refine b6 (fun hv=>?_) fun hv=>?_
    ·rw[xA e0 hjc,iW hjc,xA e0 hjc,tJ hjc]
     refine ⟨rfl,?_⟩
     rw[AG4 hjc,dK rfl]
     refine hZ _ hlt ⟨hw,?_,?_⟩
     ·show (List.set _ _ _).length=N
      rw[List.length_set];exact hcl
     ·rw[←hcf]
      congr 1
      unfold ARA
      rw[if_pos hv,w3 (l:=c) 0 hjc]
    ·rw[dK rfl]
     refine hZ _ hlt ⟨hw,hcl,?_⟩
     rw[←hcf]
     congr 1
     unfold ARA
     rw[if_neg hv]
   ·rw[List.length_map] at hge
    have hil:i=l.length:=by omega
    subst hil
    rw[List.drop_length,List.foldl_nil] at hcf
    rw[dK rfl,DJ (r:=.int .i64) rfl o [T.v (.int .i64 (j:Int))] (j:Int) rfl,AWI hjt,dK rfl]
    refine hX _ hlt ⟨hcl,by simp[hol],by simp[htl],?_⟩
    rw[show N-(k+1)=m by omega]
    show zZ l N m c (o++[(j:Int)]) (t.set j true)=_
    rw[hcf];exact hr
  ·have hjn:j=N:=by omega
   subst hjn
   rw[Nat.sub_self] at hf
   rw[show (List.range' j 0)=[] from rfl,List.find?_nil] at hf
   rw[hf] at hr
   refine ⟨rfl,?_⟩
   show _=Sh.enc w9 (kJ (j:Int) l)
   rw[←hr];rfl
 ·rw[List.length_map,hol] at hge
  have hkN:k=N:=by omega
  subst hkN
  rw[Nat.sub_self,zZ] at hr
  refine ⟨AJT o,rfl,?_⟩
  show _=Sh.enc w9 (kJ (k:Int) l)
  rw[←hr];rfl
end Go.Pv
namespace Go.Pv
open Go Go.Proofs
def uP (a0:List ByteArray):List T:=[T.sl false (List.map Sy.str.enc a0)]
noncomputable def Z1:Env:=Env.of []
def AQM:FuncId→Hint:=fun _=>aX
theorem AOH:aR Tryz.prog Z1:=.nil _
def ABG(a0:List ByteArray)(R:T→Prop):Prop:=R (T.fn 319 [] [T.ref [T.sl false (List.map Sy.str.enc a0)]])
theorem AIR ( a0 R):dS bZ Tryz.prog Z1 AQM 8 255 (uP a0) R=ABG a0 R:=by kernel_rfl
def TU (l:List ByteArray):Option T:=some (T.fn 319 [] [T.ref [T.sl false (List.map Sy.str.enc l)]])
theorem ZN (x y:List ByteArray) (h:uP x=uP y):x=y:=by
 unfold uP at h
 have h:=(T.sl.injEq .. ▸ (List.cons.inj h).1)
 exact map_inj (Sy.dI .str) h.2
noncomputable def D1:List T→Option (T):=gA (fun (x:List ByteArray)=>uP x) TU
theorem O4 (a0:List ByteArray):D1 (uP a0)=TU a0:=e8 (A:=(fun (x:List ByteArray)=>uP x)) ZN a0
theorem A0Z (h:∀ (a0:List ByteArray) (r:T),TU a0=some r→(∀ t∈uP a0,Bd t)→ABG a0 (fun y=>y=r)):aN Tryz.prog 255 D1 :=
 cQ (E:=Z1) (Hs:=AQM) AOH aT aW (aL rfl) 8 ⟨_,_,Tryz.func255,rfl⟩ fun x r h1 h2=>by
  rw[AIR]
  exact h x r h1 h2
theorem AZT:aN Tryz.prog 255 D1:=A0Z fun l r h hb=>by
 cases h
 unfold ABG
 rfl
end Go.Pv
namespace Go.Pv
abbrev Pt:=Int×Int
def dE (a b c:Pt):Int:=(b.1-a.1)*(c.2-a.2)-(b.2-a.2)*(c.1-a.1)
def M3 (n:Int):Int:=if n<0 then -1 else if 0<n then 1 else 0
def btw (a b q:Pt):Bool:=decide (min a.1 b.1≤q.1)&&decide (q.1≤max a.1 b.1)&&(decide (min a.2 b.2≤q.2)&&decide (q.2≤max a.2 b.2))
def SL (a b q:Pt):Bool:=decide (dE a b q=0)&&btw a b q
def lL (a b c d:Pt):Bool:=SL a b c||SL a b d||SL c d a||SL c d b||(decide (M3 (dE a b c)*M3 (dE a b d)<0)&&decide (M3 (dE c d a)*M3 (dE c d b)<0))
def cX (q:Pt):Prop:=-32768≤q.1∧q.1≤32768∧-32768≤q.2∧q.2≤32768
theorem zY {x y M N:Int} (hx:-M≤x∧x≤M) (hy:-N≤y∧y≤N) (hM:0≤M) (hN:0≤N):-(M*N)≤x*y∧x*y≤M*N:=by
 have h1:x.natAbs≤M.toNat:=by omega
 have h2:y.natAbs≤N.toNat:=by omega
 have h3:=Nat.mul_le_mul h1 h2
 rw[←Int.natAbs_mul] at h3
 have h4:((M.toNat*N.toNat:Nat):Int)=M*N:=by
  rw[Int.natCast_mul,Int.toNat_of_nonneg hM,Int.toNat_of_nonneg hN]
 omega
theorem AQ9 {a b c:Pt} (ha:cX a) (hb:cX b) (hc:cX c):(-4294967296≤(b.1-a.1)*(c.2-a.2)∧(b.1-a.1)*(c.2-a.2)≤4294967296)∧(-4294967296≤(b.2-a.2)*(c.1-a.1)∧(b.2-a.2)*(c.1-a.1)≤4294967296):=by
 unfold cX at ha hb hc
 have h1:=zY (x:=b.1-a.1) (y:=c.2-a.2) (M:=65536) (N:=65536) (by omega) (by omega) (by omega) (by omega)
 have h2:=zY (x:=b.2-a.2) (y:=c.1-a.1) (M:=65536) (N:=65536) (by omega) (by omega) (by omega) (by omega)
 constructor<;>constructor<;>omega
theorem AWJ (n:Int):-1≤M3 n∧M3 n≤1:=by unfold M3;split<;>(try split)<;>omega
end Go.Pv
namespace Go.Pv
end Go.Pv
namespace Go.Pv
def hit (a b q:Pt):Bool:=(decide (a.2≤q.2)&&decide (q.2<b.2)&&decide (0<dE a b q))||(decide (b.2≤q.2)&&decide (q.2<a.2)&&decide (dE a b q<0))
def dr (u v w:Pt):Bool:=decide (u.2<w.2)&&decide (w.2≤v.2)&&decide (dE u v w<0)
theorem JQ (a b q:Pt):dE b a q = - dE a b q:=by simp only[dE];grind
theorem A44 {a b q:Pt} (h:dE a b q=0) (hab:a.2<b.2) (h1:a.2≤q.2) (h2:q.2≤b.2):btw a b q=true:=by
 have e:(b.1-a.1)*(q.2-a.2)=(b.2-a.2)*(q.1-a.1):=by unfold dE at h;omega
 have hx:min a.1 b.1≤q.1∧q.1≤max a.1 b.1:=by
  rcases Int.le_total a.1 b.1 with hd|hd
  ·have m1:=Int.mul_nonneg (show 0≤b.1-a.1 by omega) (show 0≤q.2-a.2 by omega)
   have m2:(b.1-a.1)*(q.2-a.2)≤(b.1-a.1)*(b.2-a.2):=Int.mul_le_mul_of_nonneg_left (by omega) (by omega)
   have p1:0≤q.1-a.1:=by
    refine Int.not_lt.1 fun h=>?_
    have:=Int.mul_neg_of_pos_of_neg (show 0<b.2-a.2 by omega) h
    omega
   have p2:q.1-a.1≤b.1-a.1:=by
    refine Int.not_lt.1 fun h=>?_
    have h3:=Int.mul_lt_mul_of_pos_left h (show 0<b.2-a.2 by omega)
    have h4:(b.2-a.2)*(b.1-a.1)=(b.1-a.1)*(b.2-a.2):=Int.mul_comm _ _
    omega
   omega
  ·have m1:=Int.mul_nonneg (show 0≤a.1-b.1 by omega) (show 0≤q.2-a.2 by omega)
   have m2:(a.1-b.1)*(q.2-a.2)≤(a.1-b.1)*(b.2-a.2):=Int.mul_le_mul_of_nonneg_left (by omega) (by omega)
   have e1:(a.1-b.1)*(q.2-a.2) = - ((b.1-a.1)*(q.2-a.2)):=by grind
   have p1:q.1-a.1≤0:=by
    refine Int.not_lt.1 fun h=>?_
    have:=Int.mul_pos (show 0<b.2-a.2 by omega) h
    omega
   have p2:b.1-a.1≤q.1-a.1:=by
    refine Int.not_lt.1 fun h=>?_
    have h3:=Int.mul_lt_mul_of_pos_left h (show 0<b.2-a.2 by omega)
    have h4:(a.1-b.1)*(b.2-a.2) = - ((b.2-a.2)*(b.1-a.1)):=by grind
    omega
   omega
 simp only[btw,Bool.and_eq_true,decide_eq_true_eq]
 omega
theorem A01 {a b q:Pt} (h:dE a b q=0) (hab:a.2<b.2) (h1:a.2≤q.2) (h2:q.2≤b.2):SL a b q=true:=by
 unfold SL;rw[decide_eq_true h,A44 h hab h1 h2];rfl
end Go.Pv
namespace Go.Pv
end Go.Pv
namespace Go.Pv
theorem AQX (a b q:Pt):btw b a q=btw a b q:=by unfold btw;rw[Int.min_comm b.1,Int.max_comm b.1,Int.min_comm b.2,Int.max_comm b.2]
theorem A00 (a b q:Pt):SL b a q=SL a b q:=by
 unfold SL;rw[AQX,JQ a b q]
 congr 1
 exact decide_eq_decide.2 (by omega)
def AWT:Nat→(Nat→Bool)→Bool
 | 0,_=>false
 | n+1,f=>AWT n f ^^ f n
def pt (p:List Pt) (i:Nat):Pt:=p.getD i (0,0)
def nx (p:List Pt) (i:Nat):Pt:=pt p ((i+1) % p.length)
def AZY (p:List Pt) (q:Pt):Bool:=AWT p.length fun i=>hit (pt p i) (nx p i) q
end Go.Pv
namespace Go.Pv
open Go Go.Proofs
instance A9U (q:Pt):Decidable (cX q):=by unfold cX;infer_instance
theorem fS {a b:Bool} (h:a=b):T.v (.bool a)=T.v (.bool b):=by rw[h]
theorem GP {a b:Int} (h:a=b):T.v (.int .i64 a)=T.v (.int .i64 b):=by rw[h]
def LC {α:Type} (a b c:Pt) (r:α):Option α:=match decide (cX a∧cX b∧cX c) with
 | true=>some r
 | false=>none
theorem LD {α:Type} {a b c:Pt} {t r:α} (h:LC a b c t=some r):cX a∧cX b∧cX c∧r=t:=by
 unfold LC at h;split at h
 ·rename_i hc
  cases h
  obtain ⟨h1,h2,h3⟩:=of_decide_eq_true hc
  exact ⟨h1,h2,h3,rfl⟩
 ·cases h
theorem LF {α:Type} {a b c:Pt} (t:α) (ha:cX a) (hb:cX b) (hc:cX c):LC a b c t=some t:=by unfold LC;rw[decide_eq_true ⟨ha,hb,hc⟩]
theorem M0 {a b c:Pt} (ha:cX a) (hb:cX b) (hc:cX c):IntKind.i64.wrap (IntKind.i64.wrap (IntKind.i64.wrap (b.1-a.1)*IntKind.i64.wrap (c.2-a.2))-IntKind.i64.wrap (IntKind.i64.wrap (b.2-a.2)*IntKind.i64.wrap (c.1-a.1)))=dE a b c:=by
 have h:=AQ9 ha hb hc
 unfold cX at ha hb hc
 rw[bB (b.1-a.1) (by omega) (by omega),bB (c.2-a.2) (by omega) (by omega),bB (b.2-a.2) (by omega) (by omega),bB (c.1-a.1) (by omega) (by omega),
  bB ((b.1-a.1)*(c.2-a.2)) (by omega) (by omega),bB ((b.2-a.2)*(c.1-a.1)) (by omega) (by omega),bB _ (by omega) (by omega)]
 rfl
theorem CW (m n:Int):IntKind.i64.wrap (M3 m*M3 n)=M3 m*M3 n:=by
 have h:=zY (AWJ m) (AWJ n) (by omega) (by omega)
 exact bB _ (by omega) (by omega)
theorem SJ (a b:Int):(if b<a then b else a)=min a b:=by omega
theorem SI (a b:Int):(if a<b then b else a)=max a b:=by omega
noncomputable def ANI:Env:=Env.of []
def AQC:FuncId→Hint:=fun _=>aX
theorem AAI:aR Tryz.prog ANI:=.nil _
def IX(a0:aP)(a1:aP)(a2:aP)(R:T→Prop):Prop:=R (T.v (Value.int IntKind.i64 (IntKind.i64.wrap (IntKind.i64.wrap (IntKind.i64.wrap (a1.1-a0.1)*IntKind.i64.wrap (a2.2-a0.2)) - IntKind.i64.wrap (IntKind.i64.wrap (a1.2-a0.2)*IntKind.i64.wrap (a2.1-a0.1))))))
abbrev L7:Sh:=[(true,aA),(true,aA),(true,aA)]
def xO (x:aP×aP×aP):Option T:=LC x.1 x.2.1 x.2.2 (T.v (Value.int .i64 (dE x.1 x.2.1 x.2.2)))
noncomputable def fA:List T→Option T:=gS L7 xO
theorem WZ {a0 a1 a2}:fA [aH true aA a0,aH true aA a1,aH true aA a2]=xO (a0,a1,a2):=bD (s:=L7) rfl (a0,a1,a2) rfl
theorem ALW:Of3 Tryz.prog 390 fA xO (cB L7) IX:=YE (a1:=(true,aA)) (a2:=(true,aA)) (a3:=(true,aA)) (sp:=xO) (F:=IX) (Hs:=AQC) (f:=390) (k:=8) AAI aT aW (aL rfl) ⟨_,_,Tryz.func390,rfl⟩ rfl fun _ _ _ _=>by kernel_rfl
theorem wU:aN Tryz.prog 390 fA:=ALW fun a b c r h hb=>by
 obtain ⟨h1,h2,h3,rfl⟩:=LD h
 unfold IX
 exact GP (M0 h1 h2 h3)
theorem iT {a b c:Pt} (h1:cX a) (h2:cX b) (h3:cX c):fA [aH true aA a,aH true aA b,aH true aA c]=some (Sh.enc [(false,.int .i64)] (dE a b c)):=(WZ ..).trans (LF _ h1 h2 h3)
noncomputable def ANQ:Env:=Env.of []
def AQK:FuncId→Hint:=fun _=>aX
theorem AAQ:aR Tryz.prog ANQ:=.nil _
def I5(a0:aP)(a1:aP)(a2:aP)(R:T→Prop):Prop:=R (T.v (Value.int IntKind.i64 (IntKind.i64.wrap (IntKind.i64.wrap (IntKind.i64.wrap (a1.1-a0.1)*IntKind.i64.wrap (a2.2-a0.2)) - IntKind.i64.wrap (IntKind.i64.wrap (a1.2-a0.2)*IntKind.i64.wrap (a2.1-a0.1))))))
abbrev MF:Sh:=[(true,aA),(true,aA),(true,aA)]
def xU (x:aP×aP×aP):Option T:=LC x.1 x.2.1 x.2.2 (T.v (Value.int .i64 (dE x.1 x.2.1 x.2.2)))
noncomputable def lH:List T→Option T:=gS MF xU
theorem XB {a0 a1 a2}:lH [aH true aA a0,aH true aA a1,aH true aA a2]=xU (a0,a1,a2):=bD (s:=MF) rfl (a0,a1,a2) rfl
theorem AL4:Of3 Tryz.prog 393 lH xU (cB MF) I5:=YE (a1:=(true,aA)) (a2:=(true,aA)) (a3:=(true,aA)) (sp:=xU) (F:=I5) (Hs:=AQK) (f:=393) (k:=8) AAQ aT aW (aL rfl) ⟨_,_,Tryz.func393,rfl⟩ rfl fun _ _ _ _=>by kernel_rfl
theorem AKE:aN Tryz.prog 393 lH:=AL4 fun a b c r h hb=>by
 obtain ⟨h1,h2,h3,rfl⟩:=LD h
 unfold I5
 exact GP (M0 h1 h2 h3)
theorem qD {a b c:Pt} (h1:cX a) (h2:cX b) (h3:cX c):lH [aH true aA a,aH true aA b,aH true aA c]=some (Sh.enc [(false,.int .i64)] (dE a b c)):=(XB ..).trans (LF _ h1 h2 h3)
noncomputable def AW7:Env:=Env.of []
def AYM:FuncId→Hint:=fun _=>aX
theorem AIH:aR Tryz.prog AW7:=.nil _
def QV(a0:Int)(R:T→Prop):Prop:=aB (!decide (a0=a0)) (R (T.v (.int .i64 (-1)))) (aB (decide (a0<0)) (R (T.v (.int .i64 (-1)))) (aB (decide (0<a0)) (R (T.v (.int .i64 1))) (R d4)))
abbrev S7:Sh:=[(false,(Sy.int IntKind.i64))]
def CM (n:Int):Option T:=some (T.v (Value.int .i64 (M3 n)))
noncomputable def n7:List T→Option T:=gS S7 CM
theorem ADC {a0}:n7 [T.v (.int .i64 a0)]=CM (a0):=bD (s:=S7) rfl (a0) rfl
theorem AU1:rA Tryz.prog 402 n7 CM (cB S7) QV:=gF (a1:=(false,(Sy.int IntKind.i64))) (sp:=CM) (F:=QV) (Hs:=AYM) (f:=402) (k:=8) AIH aT aW (aL rfl) ⟨_,_,Tryz.func402,rfl⟩ rfl fun _ _=>by kernel_rfl
theorem sU (n:Int):n7 [T.v (.int .i64 n)]=some (Sh.enc [(false,.int .i64)] (M3 n)):=ADC ..
noncomputable def AW8:Env:=Env.of []
def AYN:FuncId→Hint:=fun _=>aX
theorem AII:aR Tryz.prog AW8:=.nil _
def QW(a0:Int)(R:T→Prop):Prop:=R (T.v (.int .i64 (if 1<if a0 < -1 then -1 else a0 then 1 else if a0 < -1 then -1 else a0)))
abbrev S8:Sh:=[(false,(Sy.int IntKind.i64))]
def CN (n:Int):Option T:=some (T.v (Value.int .i64 (M3 n)))
noncomputable def n8:List T→Option T:=gS S8 CN
theorem ADD {a0}:n8 [T.v (.int .i64 a0)]=CN (a0):=bD (s:=S8) rfl (a0) rfl
theorem AU2:rA Tryz.prog 392 n8 CN (cB S8) QW:=gF (a1:=(false,(Sy.int IntKind.i64))) (sp:=CN) (F:=QW) (Hs:=AYN) (f:=392) (k:=8) AII aT aW (aL rfl) ⟨_,_,Tryz.func392,rfl⟩ rfl fun _ _=>by kernel_rfl
theorem sV (n:Int):n8 [T.v (.int .i64 n)]=some (Sh.enc [(false,.int .i64)] (M3 n)):=ADD ..
theorem AR8:aN Tryz.prog 402 n7:=AU1 fun n r h hb=>by
 cases h
 unfold QV d4
 refine jB (fun h=>absurd rfl h) fun _=>?_
 exact b6 (fun h=>GP (by unfold M3;rw[if_pos h])) fun h=>b6 (fun h2=>GP (by unfold M3;rw[if_neg h,if_pos h2])) fun h2=>GP (by unfold M3;rw[if_neg h,if_neg h2])
theorem AR9:aN Tryz.prog 392 n8:=AU2 fun n r h hb=>by
 cases h
 unfold QW
 refine GP ?_
 unfold M3
 omega
noncomputable def AHZ:Env:=Env.of []
def AI0:FuncId→Hint:=fun _=>aX
theorem UG:aR Tryz.prog AHZ:=.nil _
def C5(a0:aP)(a1:aP)(a2:aP)(R:T→Prop):Prop:=aB (decide ((if a1.1<a0.1 then a1.1 else a0.1)≤a2.1)) (aB (decide (a2.1≤if a0.1<a1.1 then a1.1 else a0.1)) (aB (decide ((if a1.2<a0.2 then a1.2 else a0.2)≤a2.2)) (R (T.v (.bool (decide (a2.2≤if a0.2<a1.2 then a1.2 else a0.2))))) (R d3)) (R d3)) (R d3)
abbrev EV:Sh:=[(true,aA),(true,aA),(true,aA)]
def tT (x:aP×aP×aP):Option T:=some (T.v (.bool (btw x.1 x.2.1 x.2.2)))
noncomputable def rX:List T→Option T:=gS EV tT
theorem R3 {a0 a1 a2}:rX [aH true aA a0,aH true aA a1,aH true aA a2]=tT (a0,a1,a2):=bD (s:=EV) rfl (a0,a1,a2) rfl
theorem AD3:Of3 Tryz.prog 403 rX tT (cB EV) C5:=YE (a1:=(true,aA)) (a2:=(true,aA)) (a3:=(true,aA)) (sp:=tT) (F:=C5) (Hs:=AI0) (f:=403) (k:=8) UG aT aW (aL rfl) ⟨_,_,Tryz.func403,rfl⟩ rfl fun _ _ _ _=>by kernel_rfl
theorem ACO:aN Tryz.prog 403 rX:=AD3 fun a b c r h hb=>by
 cases h
 unfold C5 d3
 rw[SJ,SJ,SI,SI]
 refine b6 (fun h1=>b6 (fun h2=>b6 (fun h3=>fS ?_) fun h3=>fS ?_) fun h2=>fS ?_) fun h1=>fS ?_
 all_goals simp[btw,h1]
 all_goals simp[h2]
 all_goals simp[h3]
noncomputable def A7K:Env:=Env.of []
def A73:FuncId→Hint:=fun _=>aX
theorem AYB:aR Tryz.prog A7K:=.nil _
def APX(a0:aP)(a1:aP)(a2:aP)(R:T→Prop):Prop:=aB (decide ((if a1.1<a0.1 then a1.1 else a0.1)≤a2.1)) (aB (decide (a2.1≤if a0.1<a1.1 then a1.1 else a0.1)) (aB (decide ((if a1.2<a0.2 then a1.2 else a0.2)≤a2.2)) (R (T.v (.bool (decide (a2.2≤if a0.2<a1.2 then a1.2 else a0.2))))) (R d3)) (R d3)) (R d3)
abbrev AWE:Sh:=[(true,aA),(true,aA),(true,aA)]
abbrev AGZ:Sh:=[(false,Sy.bool)]
theorem AEC (y:Sh.den AGZ) (K:Sh.den AGZ→Prop):aJ AGZ (some (Sh.enc AGZ y)) K=K y:=rK rfl y K
def MT (x:aP×aP×aP):Option T:=some (T.v (.bool (btw x.1 x.2.1 x.2.2)))
noncomputable def dV:List T→Option T:=gS AWE MT
theorem ATK {a0 a1 a2}:dV [aH true aA a0,aH true aA a1,aH true aA a2]=MT (a0,a1,a2):=bD (s:=AWE) rfl (a0,a1,a2) rfl
theorem A6A:Of3 Tryz.prog 394 dV MT (cB AWE) APX:=YE (a1:=(true,aA)) (a2:=(true,aA)) (a3:=(true,aA)) (sp:=MT) (F:=APX) (Hs:=A73) (f:=394) (k:=8) AYB aT aW (aL rfl) ⟨_,_,Tryz.func394,rfl⟩ rfl fun _ _ _ _=>by kernel_rfl
theorem A4J:aN Tryz.prog 394 dV:=A6A fun a b c r h hb=>by
 cases h
 unfold APX d3
 rw[SJ,SJ,SI,SI]
 refine b6 (fun h1=>b6 (fun h2=>b6 (fun h3=>fS ?_) fun h3=>fS ?_) fun h2=>fS ?_) fun h1=>fS ?_
 all_goals simp[btw,h1]
 all_goals simp[h2]
 all_goals simp[h3]
noncomputable def A7J:Env:=Env.of [(390,.pure fA),(403,.pure rX)]
def A72:FuncId→Hint:=fun _=>aX
theorem AX5:aR Tryz.prog A7J:=.cons wU (.cons ACO (.nil _))
def APM(a0:aP)(a1:aP)(a2:aP)(R:T→Prop):Prop:=aJ d8 (fA [aH true aA a0,aH true aA a1,aH true aA a2]) fun (y0:Int)=>aB (decide (y0=0)) (aJ d6 (rX [aH true aA a0,aH true aA a1,aH true aA a2]) fun (y1:Bool)=>R (T.v (.bool y1))) (R d3)
abbrev AWD:Sh:=[(true,aA),(true,aA),(true,aA)]
def TT (x:aP×aP×aP):Option T:=LC x.1 x.2.1 x.2.2 (T.v (.bool (SL x.1 x.2.1 x.2.2)))
noncomputable def vO:List T→Option T:=gS AWD TT
theorem ATD {a0 a1 a2}:vO [aH true aA a0,aH true aA a1,aH true aA a2]=TT (a0,a1,a2):=bD (s:=AWD) rfl (a0,a1,a2) rfl
theorem A54:Of3 Tryz.prog 395 vO TT (cB AWD) APM:=YE (a1:=(true,aA)) (a2:=(true,aA)) (a3:=(true,aA)) (sp:=TT) (F:=APM) (Hs:=A72) (f:=395) (k:=8) AX5 aT aW (aL rfl) ⟨_,_,Tryz.func395,rfl⟩ rfl fun _ _ _ _=>by kernel_rfl
theorem AR7:aN Tryz.prog 395 vO:=A54 fun a b c r h hb=>by
 obtain ⟨h1,h2,h3,rfl⟩:=LD h
 unfold APM d8 d6 d3
 refine aF (s:=[(false,.int .i64)]) (iT h1 h2 h3) ?_
 refine b6 (fun h=>?_) fun h=>fS (by unfold SL;rw[decide_eq_false h];rfl)
 refine aF (s:=[(false,.bool)]) (y:=btw a b c) (R3 ..) ?_
 exact fS (by unfold SL;rw[decide_eq_true h];rfl)
theorem vP {a b c:Pt} (h1:cX a) (h2:cX b) (h3:cX c):vO [aH true aA a,aH true aA b,aH true aA c]=some (Sh.enc [(false,.bool)] (SL a b c)):=(ATD ..).trans (LF _ h1 h2 h3)
def PG {α:Type} (a b c d:Pt) (r:α):Option α:=match decide (cX a∧cX b∧cX c∧cX d) with
 | true=>some r
 | false=>none
theorem XY {α:Type} {a b c d:Pt} {t r:α} (h:PG a b c d t=some r):cX a∧cX b∧cX c∧cX d∧r=t:=by
 unfold PG at h;split at h
 ·rename_i hc
  cases h
  obtain ⟨h1,h2,h3,h4⟩:=of_decide_eq_true hc
  exact ⟨h1,h2,h3,h4,rfl⟩
 ·cases h
theorem XZ {α:Type} {a b c d:Pt} (t:α) (ha:cX a) (hb:cX b) (hc:cX c) (hd:cX d):PG a b c d t=some t:=by unfold PG;rw[decide_eq_true ⟨ha,hb,hc,hd⟩]
noncomputable def AW6:Env:=Env.of [(390,.pure fA),(395,.pure vO),(402,.pure n7)]
def AYL:FuncId→Hint:=fun _=>aX
theorem AIF:aR Tryz.prog AW6:=.cons wU (.cons AR7 (.cons AR8 (.nil _)))
def BAH(a0:aP)(a1:aP)(a2:aP):List T:=[aH true aA a0,aH true aA a1,aH true aA a2]
def QU(a0:aP)(a1:aP)(a2:aP)(a3:aP)(R:T→Prop):Prop:=aJ d6 (vO (BAH a0 a1 a2)) fun (y0:Bool)=>aB y0 (R d9) (aJ d6 (vO (BAH a0 a1 a3)) fun (y1:Bool)=>aB y1 (R d9) (aJ d6 (vO (BAH a2 a3 a0)) fun (y2:Bool)=>aB y2 (R d9) (aJ d6 (vO (BAH a2 a3 a1)) fun (y3:Bool)=>aB y3 (R d9) (aJ d8 (fA (BAH a0 a1 a2)) fun (y4:Int)=>aJ d8 (n7 [T.v (.int .i64 y4)]) fun (y5:Int)=>aJ d8 (fA [aH true aA a0,aH true aA a1, aH true aA a3]) fun (y6:Int)=>aJ d8 (n7 [T.v (.int .i64 y6)]) fun (y7:Int)=>aB (decide (IntKind.i64.wrap (y5*y7)<0)) (aJ d8 (fA [aH true aA a2,aH true aA a3, aH true aA a0]) fun (y8:Int)=>aJ d8 (n7 [T.v (.int .i64 y8)]) fun (y9:Int)=>aJ d8 (fA [aH true aA a2,aH true aA a3, aH true aA a1]) fun (y10:Int)=>aJ d8 (n7 [T.v (.int .i64 y10)]) fun (y11:Int)=>R (T.v (.bool (decide (IntKind.i64.wrap (y9*y11)<0))))) (R d3)))))
abbrev S6:Sh:=[(true,aA),(true,aA),(true,aA),(true,aA)]
def CL (x:aP×aP×aP×aP):Option T:=PG x.1 x.2.1 x.2.2.1 x.2.2.2 (T.v (.bool (lL x.1 x.2.1 x.2.2.1 x.2.2.2)))
noncomputable def qC:List T→Option T:=gS S6 CL
theorem ADA {a0 a1 a2 a3}:qC [aH true aA a0,aH true aA a1,aH true aA a2,
 aH true aA a3]=CL (a0,a1,a2,a3):=bD (s:=S6) rfl (a0,a1,a2,a3) rfl
theorem AU0:Of4 Tryz.prog 391 qC CL (cB S6) QU:=A9A (a1:=(true,aA)) (a2:=(true,aA)) (a3:=(true,aA)) (a4:=(true,aA)) (sp:=CL) (F:=QU) (Hs:=AYL) (f:=391) (k:=8) AIF aT aW (aL rfl) ⟨_,_,Tryz.func391,rfl⟩ rfl fun _ _ _ _ _=>by kernel_rfl
theorem AR6:aN Tryz.prog 391 qC:=AU0 fun a b c d r h hb=>by
 obtain ⟨h1,h2,h3,h4,rfl⟩:=XY h
 unfold QU BAH d9 d8 d6 d3
 refine aF (s:=[(false,.bool)]) (vP h1 h2 h3) ?_
 refine sZ (fun h=>fS (by unfold lL;rw[h];rfl)) fun k1=>?_
 refine aF (s:=[(false,.bool)]) (vP h1 h2 h4) ?_
 refine sZ (fun h=>fS (by unfold lL;rw[h,k1];rfl)) fun k2=>?_
 refine aF (s:=[(false,.bool)]) (vP h3 h4 h1) ?_
 refine sZ (fun h=>fS (by unfold lL;rw[h,k1,k2];rfl)) fun k3=>?_
 refine aF (s:=[(false,.bool)]) (vP h3 h4 h2) ?_
 refine sZ (fun h=>fS (by unfold lL;rw[h,k1,k2,k3];rfl)) fun k4=>?_
 refine aF (s:=[(false,.int .i64)]) (iT h1 h2 h3) ?_
 refine aF (s:=[(false,.int .i64)]) (sU _) ?_
 refine aF (s:=[(false,.int .i64)]) (iT h1 h2 h4) ?_
 refine aF (s:=[(false,.int .i64)]) (sU _) ?_
 rw[CW]
 refine b6 (fun h=>?_) fun h=>fS (by unfold lL;rw[k1,k2,k3,k4,decide_eq_false h];rfl)
 refine aF (s:=[(false,.int .i64)]) (iT h3 h4 h1) ?_
 refine aF (s:=[(false,.int .i64)]) (sU _) ?_
 refine aF (s:=[(false,.int .i64)]) (iT h3 h4 h2) ?_
 refine aF (s:=[(false,.int .i64)]) (sU _) ?_
 rw[CW]
 exact fS (by unfold lL;rw[k1,k2,k3,k4,decide_eq_true h];rfl)
theorem ADB {a b c d:Pt} (h1:cX a) (h2:cX b) (h3:cX c) (h4:cX d):qC [aH true aA a,aH true aA b,aH true aA c,aH true aA d]=some (Sh.enc [(false,.bool)] (lL a b c d)):=(ADA ..).trans (XZ _ h1 h2 h3 h4)
noncomputable def A2P:Env:=Env.of []
def A23:FuncId→Hint:=fun _=>aX
theorem AOC:aR Tryz.prog A2P:=.nil _
def ABB(a0:aP)(R:T→Prop):Prop:=aB (decide (a0.1 < -32768)) (R d9) (aB (decide (32768<a0.1)) (R d9) (aB (decide (a0.2 < -32768)) (R d9) (R (T.v (.bool (decide (32768<a0.2)))))))
abbrev AEO:Sh:=[(true,aA)]
def H3 (q:aP):Option T:=some (T.v (.bool (!decide (cX q))))
noncomputable def zS:List T→Option T:=gS AEO H3
theorem OU {a0}:zS [aH true aA a0]=H3 (a0):=bD (s:=AEO) rfl (a0) rfl
theorem A0U:rA Tryz.prog 369 zS H3 (cB AEO) ABB:=gF (a1:=(true,aA)) (sp:=H3) (F:=ABB) (Hs:=A23) (f:=369) (k:=8) AOC aT aW (aL rfl) ⟨_,_,Tryz.func369,rfl⟩ rfl fun _ _=>by kernel_rfl
theorem AF4:aN Tryz.prog 369 zS:=A0U fun q r h hb=>by
 cases h
 unfold ABB d9
 have no:¬ cX q→true = !decide (cX q):=fun h=>by rw[decide_eq_false h];rfl
 refine b6 (fun h=>fS (no (by unfold cX;omega))) fun h1=>b6 (fun h=>fS (no (by unfold cX;omega))) fun h2=>b6 (fun h=>fS (no (by unfold cX;omega))) fun h3=>fS ?_
 by_cases h:cX q
 ·rw[decide_eq_true h,Bool.not_true]
  unfold cX at h
  exact decide_eq_false (by omega)
 ·rw[decide_eq_false h,Bool.not_false]
  unfold cX at h
  exact decide_eq_true (by omega)
theorem AWK {n:Int}:M3 n=0↔n=0:=by
 unfold M3
 split
 ·omega
 ·split<;>omega
noncomputable def ANW:Env:=Env.of [(393,.pure lH),(392,.pure n8),(394,.pure dV)]
def AQL:FuncId→Hint:=fun _=>aX
theorem AAS:aR Tryz.prog ANW:=.cons AKE (.cons AR9 (.cons A4J (.nil _)))
def BAK(a0:aP)(a1:aP)(a2:aP):List T:=[aH true aA a0,aH true aA a1, aH true aA a2]
def BAJ(y5:Int)(a2:aP)(a3:aP)(a0:aP)(R:T→Prop)(y7:Int)(a1:aP):Prop:=aB (decide (y5=0)) (aJ d6 (dV (BAK a2 a3 a0)) fun (y10:Bool)=>aB y10 (R d9) (aB (decide (y7=0)) (aJ d6 (dV (BAK a2 a3 a1)) fun (y11:Bool)=>R (T.v (.bool y11))) (R d3))) (aB (decide (y7=0)) (aJ d6 (dV (BAK a2 a3 a1)) fun (y12:Bool)=>R (T.v (.bool y12))) (R d3))
def BAI(y3:Int)(a0:aP)(a1:aP)(a3:aP)(R:T→Prop)(y5:Int)(a2:aP)(y7:Int):Prop:=aB (decide (y3=0)) (aJ d6 (dV (BAK a0 a1 a3)) fun (y9:Bool)=>aB y9 (R d9) (BAJ y5 a2 a3 a0 R y7 a1)) (BAJ y5 a2 a3 a0 R y7 a1)
def BAL(a0:aP)(a1:aP)(a2:aP):List T:=[aH true aA a0,aH true aA a1,aH true aA a2]
def I7(a0:aP)(a1:aP)(a2:aP)(a3:aP)(R:T→Prop):Prop:=aJ d8 (lH (BAL a0 a1 a2)) fun (y0:Int)=>aJ d8 (n8 [T.v (.int .i64 y0)]) fun (y1:Int)=>aJ d8 (lH (BAL a0 a1 a3)) fun (y2:Int)=>aJ d8 (n8 [T.v (.int .i64 y2)]) fun (y3:Int)=>aJ d8 (lH (BAL a2 a3 a0)) fun (y4:Int)=>aJ d8 (n8 [T.v (.int .i64 y4)]) fun (y5:Int)=>aJ d8 (lH (BAL a2 a3 a1)) fun (y6:Int)=>aJ d8 (n8 [T.v (.int .i64 y6)]) fun (y7:Int)=>aB (decide (IntKind.i64.wrap (y1*y3)<0)) (aB (decide (IntKind.i64.wrap (y5*y7)<0)) (R d9) (aB (decide (y1=0)) (aJ d6 (dV (BAK a0 a1 a2)) fun (y8:Bool)=>aB y8 (R d9) (BAI y3 a0 a1 a3 R y5 a2 y7)) (BAI y3 a0 a1 a3 R y5 a2 y7))) (aB (decide (y1=0)) (aJ d6 (dV (BAK a0 a1 a2)) fun (y23:Bool)=>aB y23 (R d9) (BAI y3 a0 a1 a3 R y5 a2 y7)) (BAI y3 a0 a1 a3 R y5 a2 y7))
abbrev MG:Sh:=[(true,aA),(true,aA),(true,aA),(true,aA)]
def xV (x:aP×aP×aP×aP):Option T:=PG x.1 x.2.1 x.2.2.1 x.2.2.2 (T.v (.bool (lL x.1 x.2.1 x.2.2.1 x.2.2.2)))
noncomputable def vS:List T→Option T:=gS MG xV
theorem XI {a0 a1 a2 a3}:vS [aH true aA a0,aH true aA a1,aH true aA a2,
 aH true aA a3]=xV (a0,a1,a2,a3):=bD (s:=MG) rfl (a0,a1,a2,a3) rfl
theorem AL6:Of4 Tryz.prog 373 vS xV (cB MG) I7:=A9A (a1:=(true,aA)) (a2:=(true,aA)) (a3:=(true,aA)) (a4:=(true,aA)) (sp:=xV) (F:=I7) (Hs:=AQL) (f:=373) (k:=8) AAS aT aW (aL rfl) ⟨_,_,Tryz.func373,rfl⟩ rfl fun _ _ _ _ _=>by kernel_rfl
theorem AVV (a b c:Pt) (K:Bool→Prop):aJ [(false,Sy.bool)] (dV [aH true aA a,aH true aA b,aH true aA c]) K=K (btw a b c):=by
 rw[show dV [aH true aA a,aH true aA b,aH true aA c]=MT (a,b,c) from ATK ..]
 exact AEC _ K
theorem AKF:aN Tryz.prog 373 vS:=AL6 fun a b c d r h hb=>by
 obtain ⟨h1,h2,h3,h4,rfl⟩:=XY h
 unfold I7 BAL BAI BAJ BAK d9 d8 d6 d3
 refine aF (s:=[(false,.int .i64)]) (qD h1 h2 h3) ?_
 refine aF (s:=[(false,.int .i64)]) (sV _) ?_
 refine aF (s:=[(false,.int .i64)]) (qD h1 h2 h4) ?_
 refine aF (s:=[(false,.int .i64)]) (sV _) ?_
 refine aF (s:=[(false,.int .i64)]) (qD h3 h4 h1) ?_
 refine aF (s:=[(false,.int .i64)]) (sV _) ?_
 refine aF (s:=[(false,.int .i64)]) (qD h3 h4 h2) ?_
 refine aF (s:=[(false,.int .i64)]) (sV _) ?_
 rw[CW,CW]
 have e:∀ {n:Bool},lL a b c d=n→T.v (.bool n)=T.v (.bool (lL a b c d)):=fun h=>by rw[h]
 simp only[AVV]
 unfold lL at e
 unfold SL at e
 clear h hb
 repeat' first
  | refine b6 (fun h=>?_) (fun h=>?_)
  | refine sZ (fun h=>?_) (fun h=>?_)
 all_goals (refine e ?_;clear e;simp only[AWK] at *;simp[*,show M3 0=0 from rfl])
end Go.Pv
namespace Go.Pv
open Go Go.Proofs
theorem SN {p:List Pt} {i:Nat} (h:i<p.length):pt p i=p[i]:=by unfold pt;rw[List.getD_eq_getElem?_getD,List.getElem?_eq_getElem h];rfl
theorem eM {p:List aP} {k:Nat} (h:k<p.length) (K:aP→Prop):aS aA (List.map aA.enc p) (k:Int) K=K (pt p k):=by
 rw[bA (r:=aA) h,SN h]
theorem sY {i n c:Nat} (hn:n≤1000) (hi:i≤1000) (hc:c≤2):(IntKind.i64.wrap ((i:Int)+(c:Int))).tmod (n:Int)=(((i+c) % n:Nat):Int):=by
 rw[bB _ (by omega) (by omega),Int.tmod_eq_emod_of_nonneg (by omega),Int.natCast_emod,Int.natCast_add]
def AJL (a b c:Pt):Int:=(a.1-b.1)*(c.1-b.1)+(a.2-b.2)*(c.2-b.2)
def NN (p:List Pt) (i k:Nat):Bool:=!(!decide ((k+1) % p.length=i)&&lL (pt p i) (nx p i) (pt p k) (nx p k))
def nxx (p:List Pt) (i:Nat):Pt:=pt p ((i+2) % p.length)
def YM (p:List Pt) (i:Nat):Bool:=!decide (pt p i=nx p i)&&(!(decide (dE (pt p i) (nx p i) (nxx p i)=0)&&decide (0<AJL (pt p i) (nx p i) (nxx p i)))&&(List.range p.length).all fun k=>decide (k<i+2)||NN p i k)
def GH (p:List Pt):Bool:=(List.range p.length).all (YM p)
def jM (p:List Pt):Prop:=∀ q∈p,cX q
def LG (p:List Pt):Bool:=p.all fun q=>decide (cX q)
theorem l9 {p:List Pt}:LG p=true↔jM p:=by
 simp only[LG,List.all_eq_true,decide_eq_true_eq];exact Iff.rfl
theorem jM.pt {p:List Pt} (h:jM p) (i:Nat):cX (pt p i):=by
 rcases Nat.lt_or_ge i p.length with hi|hi
 ·rw[SN hi];exact h _ (List.getElem_mem hi)
 ·unfold Go.Pv.pt
  rw[List.getD_eq_getElem?_getD,List.getElem?_eq_none hi]
  unfold cX;decide
def NM (p:List Pt):Bool:=decide (p.length≤1000)&&LG p
def PJ {α:Type} (p:List Pt) (r:α):Option α:=match NM p with
 | true=>some r
 | false=>none
theorem YS {α:Type} {p:List Pt} {t r:α} (h:PJ p t=some r):p.length≤1000∧jM p∧r=t:=by
 unfold PJ at h;split at h
 ·rename_i hc
  simp only[NM,Bool.and_eq_true,decide_eq_true_eq,l9] at hc
  cases h;exact ⟨hc.1,hc.2,rfl⟩
 ·cases h
theorem YT {α:Type} {p:List Pt} (t:α) (h:p.length≤1000) (h2:jM p):PJ p t=some t:=by
 unfold PJ;rw[show NM p=true by simp only[NM,Bool.and_eq_true,decide_eq_true_eq,l9];exact ⟨h,h2⟩]
theorem AWS {a b c:Pt} (ha:cX a) (hb:cX b) (hc:cX c):IntKind.i64.wrap (IntKind.i64.wrap (IntKind.i64.wrap (a.1-b.1)*IntKind.i64.wrap (c.1-b.1))+IntKind.i64.wrap (IntKind.i64.wrap (a.2-b.2)*IntKind.i64.wrap (c.2-b.2)))=AJL a b c:=by
 unfold cX at ha hb hc
 have h1:=zY (x:=a.1-b.1) (y:=c.1-b.1) (M:=65536) (N:=65536) (by omega) (by omega) (by omega) (by omega)
 have h2:=zY (x:=a.2-b.2) (y:=c.2-b.2) (M:=65536) (N:=65536) (by omega) (by omega) (by omega) (by omega)
 rw[bB (a.1-b.1) (by omega) (by omega),bB (c.2-b.2) (by omega) (by omega),bB (a.2-b.2) (by omega) (by omega),bB (c.1-b.1) (by omega) (by omega),
  bB ((a.1-b.1)*(c.1-b.1)) (by omega) (by omega),bB ((a.2-b.2)*(c.2-b.2)) (by omega) (by omega),bB _ (by omega) (by omega)]
 rfl
noncomputable def AHX:Env:=Env.of [(390,.pure fA),(391,.pure qC)]
def AIY:FuncId→Hint:=bV 370 [(3,.inv [.val 13 false (.int .i64)]),(12,.inv [.val 8 false (.int .i64)])] (fun _=>aX)
theorem UE:aR Tryz.prog AHX:=.cons wU (.cons AR6 (.nil _))
def BAN(a0:List aP):List (List T):=List.map aA.enc a0
def BAM(a0:List aP)(s1:Int×PUnit)(y2:aP)(y3:aP)(R:T→Prop)(X0:Int×PUnit→Prop):Prop:=a6 (Int×PUnit) (fun X6 s7=>aB (decide (s7.1<(↑(BAN a0).length:Int))) (bS (!decide ((↑(BAN a0).length:Int)=0)) (aB (!decide ((IntKind.i64.wrap (s7.1+1)).tmod (↑(BAN a0).length:Int) = s1.1)) (aS aA (BAN a0) s7.1 fun (y8:aP)=>bS (!decide ((↑(BAN a0).length:Int)=0)) (aS aA (BAN a0) ((IntKind.i64.wrap (s7.1+1)).tmod (↑(BAN a0).length:Int)) fun (y9:aP)=>aJ d6 (qC [aH true aA y2,aH true aA y3, aH true aA y8,aH true aA y9]) fun (y10:Bool)=>aB y10 (R d3) (X6 (IntKind.i64.wrap (s7.1+1),())))) (X6 (IntKind.i64.wrap (s7.1+1),())))) (X0 (IntKind.i64.wrap (s1.1+1),()))) (IntKind.i64.wrap (s1.1+2),())
def C3(a0:List aP)(R:T→Prop):Prop:=a6 (Int×PUnit) (fun X0 s1=>aB (decide (s1.1<(↑(BAN a0).length:Int))) (aS aA (BAN a0) s1.1 fun (y2:aP)=>bS (!decide ((↑(BAN a0).length:Int)=0)) (aS aA (BAN a0) ((IntKind.i64.wrap (s1.1+1)).tmod (↑(BAN a0).length:Int)) fun (y3:aP)=>aB (decide (y2.1=y3.1)&&(decide (y2.2=y3.2)&&true)) (R d3) (bS (!decide ((↑(BAN a0).length:Int)=0)) (aS aA (BAN a0) ((IntKind.i64.wrap (s1.1+2)).tmod (↑(BAN a0).length:Int)) fun (y4:aP)=>aJ d8 (fA [aH true aA y2,aH true aA y3, aH true aA y4]) fun (y5:Int)=>aB (decide (y5=0)) (aB (decide (0 < IntKind.i64.wrap (IntKind.i64.wrap (IntKind.i64.wrap (y2.1-y3.1)*IntKind.i64.wrap (y4.1-y3.1)) + IntKind.i64.wrap (IntKind.i64.wrap (y2.2-y3.2)*IntKind.i64.wrap (y4.2-y3.2))))) (R d3) (BAM a0 s1 y2 y3 R X0)) (BAM a0 s1 y2 y3 R X0))))) (R d9)) (0,())
abbrev ET:Sh:=[(false,aA.li)]
def tP (p:List aP):Option T:=PJ p (T.v (.bool (GH p)))
noncomputable def l6:List T→Option T:=gS ET tP
theorem RZ {a0}:l6 [T.sl false (List.map aA.enc a0)]=tP (a0):=bD (s:=ET) rfl (a0) rfl
theorem AD1:rA Tryz.prog 370 l6 tP (cB ET) C3:=gF (a1:=(false,aA.li)) (sp:=tP) (F:=C3) (Hs:=AIY) (f:=370) (k:=8) UE aT aW (aL rfl) ⟨_,_,Tryz.func370,rfl⟩ rfl fun _ _=>by kernel_rfl
theorem Q5 {n:Nat} {f:Nat→Bool} {i:Nat} (hi:i<n) (h:f i=false):(List.range n).all f=false:=by
 rw[Bool.eq_false_iff];intro ha
 have:=oE.1 ha i hi
 rw[h] at this;cases this
theorem AMM {p:List aP} {i:Nat} (hl:p.length≤1000) (hn:jM p) (hi:i<p.length) {Bad Good:Prop} (hbad:(List.range p.length).all (fun k=>decide (k<i+2)||NN p i k)=false→Bad) (hgood:(List.range p.length).all (fun k=>decide (k<i+2)||NN p i k)=true→Good) :
  a6 (Int×PUnit)
   (fun (X6:Int×PUnit→Prop) (s7:Int×PUnit) =>
    aB (decide (s7.1<(↑(List.map aA.enc p).length:Int)))
     (bS (!decide ((↑(List.map aA.enc p).length:Int)=0))
      (aB (!decide ((IntKind.i64.wrap (s7.1+1)).tmod (↑(List.map aA.enc p).length:Int)=(i:Int)))
       (aS aA (List.map aA.enc p) s7.1 fun (y8:aP) =>
        bS (!decide ((↑(List.map aA.enc p).length:Int)=0))
         (aS aA (List.map aA.enc p) ((IntKind.i64.wrap (s7.1+1)).tmod (↑(List.map aA.enc p).length:Int))
          fun (y9:aP) =>
          aJ [(false,Sy.bool)] (qC [aH true aA (pt p i),aH true aA (nx p i),aH true aA y8,aH true aA y9])
           fun (y10:Bool)=>aB y10 Bad (X6 (IntKind.i64.wrap (s7.1+1),()))))
       (X6 (IntKind.i64.wrap (s7.1+1),()))))
     Good)
   (IntKind.i64.wrap ((i:Int)+2),()):=by
 refine bG p.length (fun m s=>s=(((i+2+m:Nat):Int),())∧∀ k,k<i+2+m→k<p.length→(decide (k<i+2)||NN p i k)=true) ⟨by rw[bB _ (by omega) (by omega)];simp,fun k h1 h2=>by simp at h1;simp[h1]⟩ ?_
 rintro X m s hm ⟨rfl,hJ⟩ hX
 dsimp only
 rw[List.length_map]
 refine b6 (fun hlt=>?_) fun hge=>hgood (oE.2 fun k hk=>hJ k (by omega) hk)
 have hk:i+2+m<p.length:=by omega
 have hne:(!decide ((p.length:Int)=0))=true:=by rw[decide_eq_false (by omega)];rfl
 have hix:(IntKind.i64.wrap (((i+2+m:Nat):Int)+1)).tmod (p.length:Int)=(((i+2+m+1) % p.length:Nat):Int):=sY (c:=1) hl (by omega) (by omega)
 have hw:IntKind.i64.wrap (((i+2+m:Nat):Int)+1)=((i+2+(m+1):Nat):Int):=by rw[bB _ (by omega) (by omega)];omega
 have hmod:(i+2+m+1) % p.length<p.length:=Nat.mod_lt _ (by omega)
 have go:NN p i (i+2+m)=true→X (((i+2+(m+1):Nat):Int),()):=fun h=>hX _ (by omega) ⟨rfl,fun k h1 h2=>by
  rcases Nat.lt_or_ge k (i+2+m) with h3|h3
  ·exact hJ k h3 h2
  ·have:k=i+2+m:=by omega
   subst this;rw[h];simp⟩
 refine ⟨hne,?_⟩
 rw[hix,hw]
 refine jB (fun h=>?_) fun h=>go (by unfold NN;rw[decide_eq_true (show (i+2+m+1) % p.length=i by omega)];rfl)
 rw[eM hk,AVQ,eM hmod]
 refine ⟨hne,?_⟩
 refine aF (s:=[(false,.bool)]) (ADB (hn.pt _) (hn.pt _) (hn.pt _) (hn.pt _)) ?_
 have e:NN p i (i+2+m) = !lL (pt p i) (nx p i) (pt p (i+2+m)) (nx p (i+2+m)):=by
  unfold NN;rw[decide_eq_false (show ¬ (i+2+m+1) % p.length=i by omega)];rfl
 refine sZ (fun hm=>hbad (Q5 hk ?_)) fun hm=>go ?_
 ·show (decide (i+2+m<i+2)||NN p i (i+2+m))=false
  rw[e,show lL (pt p i) (nx p i) (pt p (i+2+m)) (nx p (i+2+m))=true from hm];simp
 ·rw[e,show lL (pt p i) (nx p i) (pt p (i+2+m)) (nx p (i+2+m))=false from hm];rfl
theorem ACN:aN Tryz.prog 370 l6:=AD1 fun p r h hb=>by
 obtain ⟨hl,hn,rfl⟩:=YS h
 clear h
 unfold C3 BAM BAN d9 d8 d6 d3
 refine bG p.length (fun k s=>s=((k:Int),())∧∀ i,i<k→i<p.length→YM p i=true) ⟨rfl,fun i h=>by omega⟩ ?_
 rintro X k s hk ⟨rfl,hJ⟩ hX
 dsimp only
 refine b6 (fun hlt=>?_) fun hge=>fS (Eq.symm (oE.2 fun i hi=>hJ i (by rw[List.length_map] at hge;omega) hi))
 rw[List.length_map] at hlt
 have hlt:k<p.length:=by omega
 have hne:(!decide (((List.map aA.enc p).length:Int)=0))=true:=by rw[List.length_map,decide_eq_false (by omega)];rfl
 have hm1:(k+1) % p.length<p.length:=Nat.mod_lt _ (by omega)
 have hm2:(k+2) % p.length<p.length:=Nat.mod_lt _ (by omega)
 have i1:(IntKind.i64.wrap ((k:Int)+1)).tmod ((List.map aA.enc p).length:Int)=(((k+1) % p.length:Nat):Int):=by rw[List.length_map];exact sY (c:=1) hl (by omega) (by omega)
 have i2:(IntKind.i64.wrap ((k:Int)+2)).tmod ((List.map aA.enc p).length:Int)=(((k+2) % p.length:Nat):Int):=by rw[List.length_map];exact sY (c:=2) hl (by omega) (by omega)
 have bad:YM p k=false→T.v (.bool false)=T.v (.bool (GH p)):=fun h=>fS (Q5 hlt h).symm
 have o7:YM p k=true→X (IntKind.i64.wrap ((k:Int)+1),()):=fun h=>hX _ hlt ⟨by rw[show IntKind.i64.wrap ((k:Int)+1)=((k+1:Nat):Int) from bB _ (by omega) (by omega)],fun i h1 h2=>by
  rcases Nat.lt_or_ge i k with h3|h3
  ·exact hJ i h3 h2
  ·have:i=k:=by omega
   subst this;exact h⟩
 rw[eM hlt,i1]
 refine ⟨hne,?_⟩
 rw[eM hm1]
 have heq:(decide ((pt p k).1=(pt p ((k+1) % p.length)).1)&&(decide ((pt p k).2=(pt p ((k+1) % p.length)).2)&&true))=decide (pt p k=nx p k):=by
  rw[Bool.and_true,←Bool.decide_and]
  exact decide_eq_decide.2 Prod.ext_iff.symm
 rw[heq]
 refine b6 (fun h=>bad (by unfold YM;rw[decide_eq_true h];rfl)) fun h1=>?_
 refine ⟨hne,?_⟩
 rw[i2,eM hm2]
 refine aF (s:=[(false,.int .i64)]) (iT (hn.pt _) (hn.pt _) (hn.pt _)) ?_
 have inner:(decide (dE (pt p k) (nx p k) (nxx p k)=0)&&decide (0<AJL (pt p k) (nx p k) (nxx p k)))=false→YM p k=(List.range p.length).all fun j=>decide (j<k+2)||NN p k j:=fun h=>by
  unfold YM;rw[decide_eq_false h1,h];simp
 have tail:(decide (dE (pt p k) (nx p k) (nxx p k)=0)&&decide (0<AJL (pt p k) (nx p k) (nxx p k)))=false→_:=fun h=>AMM (Bad:=T.v (.bool false)=T.v (.bool (GH p))) (Good:=X (IntKind.i64.wrap ((k:Int)+1),())) hl hn hlt (fun h2=>bad (by rw[inner h,h2])) (fun h2=>o7 (by rw[inner h,h2]))
 refine b6 (fun h2=>?_) fun h2=>tail (by rw[show decide (dE (pt p k) (nx p k) (nxx p k)=0)=false from decide_eq_false h2];rfl)
 rw[AWS (hn.pt _) (hn.pt _) (hn.pt _)]
 refine b6 (fun h3=>bad ?_) fun h3=>tail (by rw[show decide (0<AJL (pt p k) (nx p k) (nxx p k))=false from decide_eq_false h3];simp)
 unfold YM
 rw[decide_eq_true (show dE (pt p k) (nx p k) (nxx p k)=0 from h2),decide_eq_true (show 0<AJL (pt p k) (nx p k) (nxx p k) from h3)]
 simp
theorem R0 {p:List Pt} (h:p.length≤1000) (h2:jM p):l6 [T.sl false (List.map aA.enc p)]=some (Sh.enc [(false,.bool)] (GH p)):=(RZ ..).trans (YT _ h h2)
def x9:Nat→(Nat→Int)→Int
 | 0,_=>0
 | n+1,f=>x9 n f+f n
def AET (p:List Pt) (i:Nat):Int:=(pt p i).1*(nx p i).2-(nx p i).1*(pt p i).2
def JH (p:List Pt):Int:=x9 p.length (AET p)
theorem AG5 {p:List Pt} (h:jM p) (i:Nat):(-1073741824≤(pt p i).1*(nx p i).2∧(pt p i).1*(nx p i).2≤1073741824)∧(-1073741824≤(nx p i).1*(pt p i).2∧(nx p i).1*(pt p i).2≤1073741824):=by
 have h1:=h.pt i
 have h2:cX (nx p i):=h.pt _
 unfold cX at h1 h2
 have b1:=zY (x:=(pt p i).1) (y:=(nx p i).2) (M:=32768) (N:=32768) (by omega) (by omega) (by omega) (by omega)
 have b2:=zY (x:=(nx p i).1) (y:=(pt p i).2) (M:=32768) (N:=32768) (by omega) (by omega) (by omega) (by omega)
 constructor<;>constructor<;>omega
theorem HL {p:List Pt} (h:jM p):∀ n:Nat,-(2147483648*(n:Int))≤x9 n (AET p)∧x9 n (AET p)≤2147483648*(n:Int)
 | 0=>by simp[x9]
 | n+1=>by
  have ih:=HL h n
  have hb:=AG5 h n
  unfold x9
  have e:AET p n=(pt p n).1*(nx p n).2-(nx p n).1*(pt p n).2:=rfl
  constructor<;>push_cast<;>omega
noncomputable def AW3:Env:=Env.of []
def AYI:FuncId→Hint:=bV 371 [(3,.inv [.val 3 false (.int .i64),.val 9 false (.int .i64)])] (fun _=>aX)
theorem AIC:aR Tryz.prog AW3:=.nil _
def QR(a0:List aP)(R:T→Prop):Prop:=a6 (Int×Int×PUnit) (fun X0 s1=>aB (decide (s1.2.1<(↑(List.map aA.enc a0).length:Int))) (aS aA (List.map aA.enc a0) s1.2.1 fun (y2:aP)=>bS (!decide ((↑(List.map aA.enc a0).length:Int)=0)) (aS aA (List.map aA.enc a0) ((IntKind.i64.wrap (s1.2.1+1)).tmod (↑(List.map aA.enc a0).length:Int)) fun (y3:aP)=>X0 (IntKind.i64.wrap (s1.1 + IntKind.i64.wrap (IntKind.i64.wrap (y2.1*y3.2)-IntKind.i64.wrap (y3.1*y2.2))), IntKind.i64.wrap (s1.2.1+1),()))) (R (T.v (.int .i64 s1.1)))) (0,0,())
abbrev S3:Sh:=[(false,aA.li)]
def CJ (p:List aP):Option T:=PJ p (T.v (Value.int .i64 (JH p)))
noncomputable def nX:List T→Option T:=gS S3 CJ
theorem AC8 {a0}:nX [T.sl false (List.map aA.enc a0)]=CJ (a0):=bD (s:=S3) rfl (a0) rfl
theorem AUX:rA Tryz.prog 371 nX CJ (cB S3) QR:=gF (a1:=(false,aA.li)) (sp:=CJ) (F:=QR) (Hs:=AYI) (f:=371) (k:=8) AIC aT aW (aL rfl) ⟨_,_,Tryz.func371,rfl⟩ rfl fun _ _=>by kernel_rfl
theorem V6:aN Tryz.prog 371 nX:=AUX fun p r h hb=>by
 obtain ⟨hl,hn,rfl⟩:=YS h
 clear h
 unfold QR
 refine bG p.length (fun k s=>s=(x9 k (AET p),(k:Int),())) rfl ?_
 rintro X k s hk rfl hX
 dsimp only
 refine b6 (fun hlt=>?_) fun hge=>GP (by rw[List.length_map] at hge;rw[show k=p.length by omega];rfl)
 rw[List.length_map] at hlt
 have hlt:k<p.length:=by omega
 have hne:(!decide (((List.map aA.enc p).length:Int)=0))=true:=by rw[List.length_map,decide_eq_false (by omega)];rfl
 have hm1:(k+1) % p.length<p.length:=Nat.mod_lt _ (by omega)
 have i1:(IntKind.i64.wrap ((k:Int)+1)).tmod ((List.map aA.enc p).length:Int)=(((k+1) % p.length:Nat):Int):=by rw[List.length_map];exact sY (c:=1) hl (by omega) (by omega)
 rw[eM hlt,i1]
 refine ⟨hne,?_⟩
 rw[eM hm1]
 have hb1:=AG5 hn k
 have hb2:=HL hn k
 have hb3:=HL hn (k+1)
 refine hX _ hlt ?_
 rw[show IntKind.i64.wrap ((k:Int)+1)=((k+1:Nat):Int) from bB _ (by omega) (by omega)]
 have e:IntKind.i64.wrap (x9 k (AET p)+IntKind.i64.wrap (IntKind.i64.wrap ((pt p k).1*(nx p k).2)-IntKind.i64.wrap ((nx p k).1*(pt p k).2)))=x9 (k+1) (AET p):=by
  rw[bB ((pt p k).1*(nx p k).2) (by omega) (by omega),bB ((nx p k).1*(pt p k).2) (by omega) (by omega),bB ((pt p k).1*(nx p k).2-(nx p k).1*(pt p k).2) (by omega) (by omega),bB _ (by omega) (by omega)]
  rfl
 rw[←e];rfl
theorem KT {p:List Pt} (h:p.length≤1000) (h2:jM p):nX [T.sl false (List.map aA.enc p)]=some (Sh.enc [(false,.int .i64)] (JH p)):=(AC8 ..).trans (YT _ h h2)
def jR (p:List Pt):Int:=if p.length<3 then 3 else if 32<p.length then 4 else if LG p=false then 9 else if GH p=false∨JH p=0 then 17 else 0
noncomputable def AHW:Env:=Env.of [(369,.pure zS),(370,.pure l6),(371,.pure nX)]
def AIX:FuncId→Hint:=bV 389 [(2,.inv [.val 8 false (.int .i64)])] (fun _=>aX)
theorem UD:aR Tryz.prog AHW:=.cons AF4 (.cons ACN (.cons V6 (.nil _)))
def BAP(a0:List aP):List (List T):=List.map aA.enc a0
def BAO(a0:List aP)(R:T→Prop):Prop:=aJ d6 (l6 [T.sl false (BAP a0)]) fun (y4:Bool)=>aB (!y4) (R i6) (aJ d8 (nX [T.sl false (BAP a0)]) fun (y5:Int)=>aB (decide (y5=0)) (R i6) (R d4))
def C2(a0:List aP)(R:T→Prop):Prop:=aB (decide ((↑(BAP a0).length:Int)<3)) (R (T.v (.int .i64 3))) (aB (decide (32<(↑(BAP a0).length:Int))) (R f9) (a6 (Int×PUnit) (fun X0 s1=>aB (decide (s1.1<(↑(BAP a0).length:Int))) (aS aA (BAP a0) s1.1 fun (y2:aP)=>aJ d6 (zS [aH true aA y2]) fun (y3:Bool)=>aB y3 (aB (decide (0≤s1.1)) (R d7) (BAO a0 R)) (X0 (IntKind.i64.wrap (s1.1+1),()))) (BAO a0 R)) (0,())))
abbrev ES:Sh:=[(false,aA.li)]
def tO (p:List aP):Option T:=some (T.v (Value.int .i64 (jR p)))
noncomputable def fK:List T→Option T:=gS ES tO
theorem RY {a0}:fK [T.sl false (List.map aA.enc a0)]=tO (a0):=bD (s:=ES) rfl (a0) rfl
theorem AD0:rA Tryz.prog 341 fK tO (cB ES) C2:=gF (a1:=(false,aA.li)) (sp:=tO) (F:=C2) (Hs:=AIX) (f:=341) (k:=8) UD aT aW (aL rfl) ⟨_,_,Tryz.func341,rfl⟩ rfl fun _ _=>by kernel_rfl
theorem zN:aN Tryz.prog 341 fK:=AD0 fun p r h hb=>by
 cases h
 have is:∀ {n:Int},jR p=n→T.v (.int .i64 n)=T.v (.int .i64 (jR p)):=fun h=>by rw[h]
 unfold C2 BAO BAP i6 f9 d8 d7 d6 d4
 refine b6 (fun h=>is (by rw[List.length_map] at h;unfold jR;rw[if_pos (by omega)])) fun h1=>?_
 refine b6 (fun h=>is (by rw[List.length_map] at h h1;unfold jR;rw[if_neg (by omega),if_pos (by omega)])) fun h2=>?_
 rw[List.length_map] at h1 h2
 refine bG p.length (fun k s=>s=((k:Int),())∧∀ i,i<k→i<p.length→cX (pt p i)) ⟨rfl,fun i h=>by omega⟩ ?_
 rintro X k s hk ⟨rfl,hJ⟩ hX
 dsimp only
 refine b6 (fun hlt=>?_) fun hge=>?_
 ·rw[List.length_map] at hlt
  have hlt:k<p.length:=by omega
  rw[eM hlt]
  refine aF (s:=[(false,.bool)]) (y:=!decide (cX (pt p k))) (OU ..) ?_
  refine jB (fun hf=>?_) fun hn=>hX _ hlt ⟨by rw[show IntKind.i64.wrap ((k:Int)+1)=((k+1:Nat):Int) from bB _ (by omega) (by omega)],fun i h1 h2=>by
   rcases Nat.lt_or_ge i k with h3|h3
   ·exact hJ i h3 h2
   ·have:i=k:=by omega
    subst this;exact hn⟩
  refine b6 (fun _=>is ?_) fun h=>by omega
  have:LG p=false:=by
   rw[Bool.eq_false_iff];intro h
   have:=l9.1 h _ (List.getElem_mem hlt)
   rw[←SN hlt] at this
   exact hf this
  unfold jR;rw[if_neg (by omega),if_neg (by omega),if_pos this]
 ·have hN:jM p:=fun q hq=>by
   obtain ⟨i,hi,rfl⟩:=List.mem_iff_getElem.1 hq
   rw[←SN hi]
   rw[List.length_map] at hge
   exact hJ i (by omega) hi
  have hnb:¬ LG p=false:=by rw[l9.2 hN];simp
  refine aF (s:=[(false,.bool)]) (R0 (by omega) hN) ?_
  refine fB (fun h=>is (by unfold jR;rw[if_neg (by omega),if_neg (by omega),if_neg hnb,if_pos (.inl h)])) fun hs=>?_
  refine aF (s:=[(false,.int .i64)]) (KT (by omega) hN) ?_
  refine b6 (fun h=>is (by unfold jR;rw[if_neg (by omega),if_neg (by omega),if_neg hnb,if_pos (.inr h)])) fun ha=>is ?_
  unfold jR
  rw[if_neg (by omega),if_neg (by omega),if_neg hnb,if_neg]
  rintro (h|h)
  ·rw[show GH p=true from hs] at h;cases h
  ·exact ha h
theorem nY (p:List Pt):fK [T.sl false (List.map aA.enc p)]=some (Sh.enc [(false,.int .i64)] (jR p)):=RY ..
theorem sC {p:List Pt} (h:jR p=0):3≤p.length∧p.length≤32∧jM p∧GH p=true∧JH p≠0:=by
 unfold jR at h
 by_cases h1:p.length<3
 ·rw[if_pos h1] at h;cases h
 rw[if_neg h1] at h
 by_cases h2:32<p.length
 ·rw[if_pos h2] at h;cases h
 rw[if_neg h2] at h
 by_cases h3:LG p=false
 ·rw[if_pos h3] at h;cases h
 rw[if_neg h3] at h
 by_cases h4:GH p=false∨JH p=0
 ·rw[if_pos h4] at h;cases h
 refine ⟨by omega,by omega,l9.1 (by simpa using h3),by simpa using fun e=>h4 (.inl e),fun e=>h4 (.inr e)⟩
def pX (p:List Pt):Int:=if jR p=0 then JH p else 0
noncomputable def ANH:Env:=Env.of [(341,.pure fK),(371,.pure nX)]
def AQB:FuncId→Hint:=fun _=>aX
theorem AAH:aR Tryz.prog ANH:=.cons zN (.cons V6 (.nil _))
def IW(a0:List aP)(R:T→Prop):Prop:=aJ d8 (fK [T.sl false (List.map aA.enc a0)]) fun (y0:Int)=>aB (!decide (y0=0)) (R d4) (aJ d8 (nX [T.sl false (List.map aA.enc a0)]) fun (y1:Int)=>R (T.v (.int .i64 y1)))
abbrev L6:Sh:=[(false,aA.li)]
def xN (p:List aP):Option T:=some (T.v (Value.int .i64 (pX p)))
noncomputable def lE:List T→Option T:=gS L6 xN
theorem WY {a0}:lE [T.sl false (List.map aA.enc a0)]=xN (a0):=bD (s:=L6) rfl (a0) rfl
theorem ALV:rA Tryz.prog 342 lE xN (cB L6) IW:=gF (a1:=(false,aA.li)) (sp:=xN) (F:=IW) (Hs:=AQB) (f:=342) (k:=8) AAH aT aW (aL rfl) ⟨_,_,Tryz.func342,rfl⟩ rfl fun _ _=>by kernel_rfl
theorem N9:aN Tryz.prog 342 lE:=ALV fun p r h hb=>by
 cases h
 unfold IW d8 d4
 refine aF (s:=[(false,.int .i64)]) (nY p) ?_
 refine jB (fun h=>GP (by unfold pX;rw[if_neg h])) fun h=>?_
 obtain ⟨_,h2,h3,_⟩:=sC h
 refine aF (s:=[(false,.int .i64)]) (KT (by omega) h3) ?_
 exact GP (by unfold pX;rw[if_pos h])
theorem vN (p:List Pt):lE [T.sl false (List.map aA.enc p)]=some (Sh.enc [(false,.int .i64)] (pX p)):=WY ..
end Go.Pv
