/-
  Facts on the program that every function's file asks for.
  slices.Clone, Insert, Delete at the design's lists.
  The seam, the part, the section with an identifier.
  The part with an identifier, as the program finds it; how thick a seam is.
  Words that several files share.
  The way from the block down to a part.
  Packages; equality of lists, shapes, parts and packages.
  StructureFinds: Part, Node, Seam and Package answer as the reference does.
  StructureSames: Same answers as the reference does.
  edit.same; copies of parts, packages, designs.
  Chapter 17: the indices of a design, walked.
  Chapter 17: rising, walked.
  strings.Split on typed data.
  Names and identifiers.
  Chapter 17: the tree's form, walked.
  Chapter 17: the tree's other methods where a design's elements are empty, and Check there.
  Chapter 17: the tree's seams and requirements.
  dag.Order, walked.
  Chapter 17: the tree's parts and packages, walked; Check, walked.
  Plane geometry, plain.
  poly: crosses and edges.
  poly: simple contours and their areas.
  poly.Where; region: edges, within, apart, Check, Area2.
-/
import Derived.Test.YtcnfagefgkblkaaGreatDoorVski
import Derived.Test.YtcnfagefgkblkaaGreatDoorVsty
import Derived.Test.YtcnfagefgkblkaaGreatDoorProg
import Derived.KernelRfl
import Derived.Test.YtcnfagefgkblkaaGreatDoorVsin
import Derived.Test.YtcnfagefgkblkaaGreatDoorVskj
import Derived.Test.YtcnfagefgkblkaaGreatDoorVskn
import Derived.Test.YtcnfagefgkblkaaGreatDoorVsgs
import Derived.Test.YtcnfagefgkblkaaGreatDoorVssl
import Derived.Laws.RangeAny
import Derived.Test.YtcnfagefgkblkaaGreatDoorVskm
set_option linter.defProp false
set_option linter.unusedSimpArgs false
set_option linter.unusedVariables false
namespace Go.Pv
open Go Go.Proofs
theorem aR:Tryz.prog.follows .mixedOrders=true:=by kernel_rfl
theorem aU:cD Tryz.prog=true:=by kernel_rfl
end Go.Pv
set_option maxRecDepth 100000
namespace Go.Pv
open Go Go.Proofs
theorem nY {P:Program} {t:TypeId} {zv:Value} {z b:Nat} (h:(P.info? t).map (fun i=>(i.zero,i.size,i.bytes))=some (some zv,z,b)):∃ i,P.info? t=some i∧i.zero=some zv∧i.size=z∧i.bytes=b:=by
 simp only[Option.map_eq_some_iff,Prod.mk.injEq] at h
 obtain ⟨i,h1,h2,h3,h4⟩:=h
 exact ⟨i,h1,h2,h3,h4⟩
def U2:Value:=.agg #[.string ⟨#[]⟩,.int .i64 0,.string ⟨#[]⟩]
def U1:Value:=.agg #[.int .i64 0,.string ⟨#[]⟩,.string ⟨#[]⟩]
def U4:Value:=.agg #[.string ⟨#[]⟩,.string ⟨#[]⟩,.string ⟨#[]⟩,.int .i64 0,.int .i64 0,.int .i64 0]
def yK:Value:=.agg #[.string ⟨#[]⟩,.string ⟨#[]⟩,.slice none 0 0,.int .i64 0,.slice none 0 0]
def U3:Value:=.agg #[.string ⟨#[]⟩,.int .i64 0,.int .i64 0,.string ⟨#[]⟩,.string ⟨#[]⟩,.int .i64 0,.slice none 0 0,.slice none 0 0,.string ⟨#[]⟩,.int .i64 0,.int .i64 0,.int .i64 0,.int .i64 0,.int .i64 0,.int .i64 0,.int .i64 0,.int .i64 0,.int .i64 0]
def AYU:Go.Shelf.Ren:=⟨fun|22=>307|29=>339|30=>340|n=>n,fun|9=>55|24=>22|n=>n,fun|n=>n⟩
theorem AWU:NX Tryz.prog AYU 3 40 U2:={
 mixed:=aR
 f22:=Exists.intro ("slices.Insert[[]shipyard/api.Node,shipyard/api.Node]") ⟨by decide,Tryz.func307.trans (congrArg some (by kernel_rfl))⟩
 ov:=fun args w=>run_callFunc_extern (P:=Tryz.prog) (f:=339) (e:=Extern.SlicesOverlaps.overlaps #[22,22] #[4]) Tryz.func339 (by kernel_rfl) (by kernel_rfl) (by kernel_rfl) (by kernel_rfl) args w
 t0:=by kernel_rfl
 a0:=fun _=>by kernel_rfl
 z0:=fun _=>by kernel_rfl
 v0:=fun _=>by kernel_rfl
 t3:=by kernel_rfl
 a3:=fun _=>by kernel_rfl
 z3:=fun _=>by kernel_rfl
 v3:=fun _=>by kernel_rfl
 t4:=by kernel_rfl
 a4:=fun _=>by kernel_rfl
 z4:=fun _=>by kernel_rfl
 v4:=fun _=>by kernel_rfl
 z9:=fun _=>by kernel_rfl
 t24:=by kernel_rfl
 a24:=fun _=>by kernel_rfl
 z24:=fun _=>by kernel_rfl
 v24:=fun _=>by kernel_rfl
 i9:=nY (by kernel_rfl) }
def rZ:List (List T)→List T→Option (List (List T)):=SR 3 40
theorem AD0:cF Tryz.prog 307 (lS 3 rZ) :=
 nE AWU (by decide) rfl (by decide) ⟨_,Tryz.func307,rfl,rfl⟩
def AYQ:Go.Shelf.Ren:=⟨fun|45=>308|n=>n,fun|23=>55|22=>22|n=>n,fun|n=>n⟩
theorem AUC:AA7 Tryz.prog AYQ 3 U2:={
 mixed:=aR
 f45:=Exists.intro ("slices.Delete[[]shipyard/api.Node,shipyard/api.Node]") ⟨by decide,Tryz.func308.trans (congrArg some (by kernel_rfl))⟩
 t0:=by kernel_rfl
 a0:=fun _=>by kernel_rfl
 z0:=fun _=>by kernel_rfl
 v0:=fun _=>by kernel_rfl
 t3:=by kernel_rfl
 a3:=fun _=>by kernel_rfl
 z3:=fun _=>by kernel_rfl
 v3:=fun _=>by kernel_rfl
 t4:=by kernel_rfl
 a4:=fun _=>by kernel_rfl
 z4:=fun _=>by kernel_rfl
 v4:=fun _=>by kernel_rfl
 t22:=by kernel_rfl
 a22:=fun _=>by kernel_rfl
 z22:=fun _=>by kernel_rfl
 v22:=fun _=>by kernel_rfl
 z23:=fun _=>by kernel_rfl
 v23:=fun _=>by kernel_rfl
 i23:=by
  obtain ⟨i,h1,_,h2,_⟩:=nY (P:=Tryz.prog) (t:=55) (zv:=U2) (z:=3) (b:=40) (by kernel_rfl)
  exact ⟨i,h1,h2⟩ }
def EZ:List (List T)→List T→Option (List (List T)):=SQ 3
theorem ADX:cF Tryz.prog 308 (lS 3 EZ) :=
 nD AUC rfl (by decide) ⟨_,Tryz.func308,rfl,rfl⟩
def AAL:Go.Shelf.Ren:=⟨fun|41=>69|n=>n,fun|23=>55|22=>22|n=>n,fun|n=>n⟩
theorem ATY:SlLaysE0.n41 Tryz.prog AAL:={
 mixed:=aR
 f41:=Exists.intro ("slices.Clone[[]shipyard/api.Node,shipyard/api.Node]") ⟨by decide,Tryz.func69.trans (congrArg some (by kernel_rfl))⟩
 t4:=by kernel_rfl
 a4:=fun _=>by kernel_rfl
 z4:=fun _=>by kernel_rfl
 v4:=fun _=>by kernel_rfl
 t22:=by kernel_rfl
 a22:=fun _=>by kernel_rfl
 z22:=fun _=>by kernel_rfl
 v22:=fun _=>by kernel_rfl }
theorem ANF:∃ i0,(Tryz.prog).info? (AAL.t 23)=some i0∧i0.zero=some U2∧i0.size=3∧i0.bytes=40:=nY (by kernel_rfl)
theorem zY:cF Tryz.prog 69 (AB 3 40) :=
 oO ATY ANF (fun _=>by kernel_rfl) (by decide) rfl (by decide) ⟨_,Tryz.func69,rfl,rfl⟩
def AYT:Go.Shelf.Ren:=⟨fun|22=>324|29=>347|30=>348|n=>n,fun|9=>67|24=>26|n=>n,fun|n=>n⟩
theorem AWT:NX Tryz.prog AYT 3 40 U1:={
 mixed:=aR
 f22:=Exists.intro ("slices.Insert[[]shipyard/api.Need,shipyard/api.Need]") ⟨by decide,Tryz.func324.trans (congrArg some (by kernel_rfl))⟩
 ov:=fun args w=>run_callFunc_extern (P:=Tryz.prog) (f:=347) (e:=Extern.SlicesOverlaps.overlaps #[26,26] #[4]) Tryz.func347 (by kernel_rfl) (by kernel_rfl) (by kernel_rfl) (by kernel_rfl) args w
 t0:=by kernel_rfl
 a0:=fun _=>by kernel_rfl
 z0:=fun _=>by kernel_rfl
 v0:=fun _=>by kernel_rfl
 t3:=by kernel_rfl
 a3:=fun _=>by kernel_rfl
 z3:=fun _=>by kernel_rfl
 v3:=fun _=>by kernel_rfl
 t4:=by kernel_rfl
 a4:=fun _=>by kernel_rfl
 z4:=fun _=>by kernel_rfl
 v4:=fun _=>by kernel_rfl
 z9:=fun _=>by kernel_rfl
 t24:=by kernel_rfl
 a24:=fun _=>by kernel_rfl
 z24:=fun _=>by kernel_rfl
 v24:=fun _=>by kernel_rfl
 i9:=nY (by kernel_rfl) }
def jM:List (List T)→List T→Option (List (List T)):=SR 3 40
theorem K8:cF Tryz.prog 324 (lS 3 jM) :=
 nE AWT (by decide) rfl (by decide) ⟨_,Tryz.func324,rfl,rfl⟩
def AYP:Go.Shelf.Ren:=⟨fun|45=>325|n=>n,fun|23=>67|22=>26|n=>n,fun|n=>n⟩
theorem AUB:AA7 Tryz.prog AYP 3 U1:={
 mixed:=aR
 f45:=Exists.intro ("slices.Delete[[]shipyard/api.Need,shipyard/api.Need]") ⟨by decide,Tryz.func325.trans (congrArg some (by kernel_rfl))⟩
 t0:=by kernel_rfl
 a0:=fun _=>by kernel_rfl
 z0:=fun _=>by kernel_rfl
 v0:=fun _=>by kernel_rfl
 t3:=by kernel_rfl
 a3:=fun _=>by kernel_rfl
 z3:=fun _=>by kernel_rfl
 v3:=fun _=>by kernel_rfl
 t4:=by kernel_rfl
 a4:=fun _=>by kernel_rfl
 z4:=fun _=>by kernel_rfl
 v4:=fun _=>by kernel_rfl
 t22:=by kernel_rfl
 a22:=fun _=>by kernel_rfl
 z22:=fun _=>by kernel_rfl
 v22:=fun _=>by kernel_rfl
 z23:=fun _=>by kernel_rfl
 v23:=fun _=>by kernel_rfl
 i23:=by
  obtain ⟨i,h1,_,h2,_⟩:=nY (P:=Tryz.prog) (t:=67) (zv:=U1) (z:=3) (b:=40) (by kernel_rfl)
  exact ⟨i,h1,h2⟩ }
def xI:List (List T)→List T→Option (List (List T)):=SQ 3
theorem K7:cF Tryz.prog 325 (lS 3 xI) :=
 nD AUB rfl (by decide) ⟨_,Tryz.func325,rfl,rfl⟩
def AAK:Go.Shelf.Ren:=⟨fun|41=>71|n=>n,fun|23=>67|22=>26|n=>n,fun|n=>n⟩
theorem ATX:SlLaysE0.n41 Tryz.prog AAK:={
 mixed:=aR
 f41:=Exists.intro ("slices.Clone[[]shipyard/api.Need,shipyard/api.Need]") ⟨by decide,Tryz.func71.trans (congrArg some (by kernel_rfl))⟩
 t4:=by kernel_rfl
 a4:=fun _=>by kernel_rfl
 z4:=fun _=>by kernel_rfl
 v4:=fun _=>by kernel_rfl
 t22:=by kernel_rfl
 a22:=fun _=>by kernel_rfl
 z22:=fun _=>by kernel_rfl
 v22:=fun _=>by kernel_rfl }
theorem ANE:∃ i0,(Tryz.prog).info? (AAK.t 23)=some i0∧i0.zero=some U1∧i0.size=3∧i0.bytes=40:=nY (by kernel_rfl)
theorem zX:cF Tryz.prog 71 (AB 3 40) :=
 oO ATX ANE (fun _=>by kernel_rfl) (by decide) rfl (by decide) ⟨_,Tryz.func71,rfl,rfl⟩
def AYW:Go.Shelf.Ren:=⟨fun|22=>315|29=>343|30=>344|n=>n,fun|9=>60|24=>24|n=>n,fun|n=>n⟩
theorem AWW:NX Tryz.prog AYW 6 72 U4:={
 mixed:=aR
 f22:=Exists.intro ("slices.Insert[[]shipyard/api.Seam,shipyard/api.Seam]") ⟨by decide,Tryz.func315.trans (congrArg some (by kernel_rfl))⟩
 ov:=fun args w=>run_callFunc_extern (P:=Tryz.prog) (f:=343) (e:=Extern.SlicesOverlaps.overlaps #[24,24] #[4]) Tryz.func343 (by kernel_rfl) (by kernel_rfl) (by kernel_rfl) (by kernel_rfl) args w
 t0:=by kernel_rfl
 a0:=fun _=>by kernel_rfl
 z0:=fun _=>by kernel_rfl
 v0:=fun _=>by kernel_rfl
 t3:=by kernel_rfl
 a3:=fun _=>by kernel_rfl
 z3:=fun _=>by kernel_rfl
 v3:=fun _=>by kernel_rfl
 t4:=by kernel_rfl
 a4:=fun _=>by kernel_rfl
 z4:=fun _=>by kernel_rfl
 v4:=fun _=>by kernel_rfl
 z9:=fun _=>by kernel_rfl
 t24:=by kernel_rfl
 a24:=fun _=>by kernel_rfl
 z24:=fun _=>by kernel_rfl
 v24:=fun _=>by kernel_rfl
 i9:=nY (by kernel_rfl) }
def r5:List (List T)→List T→Option (List (List T)):=SR 6 72
theorem AD2:cF Tryz.prog 315 (lS 6 r5) :=
 nE AWW (by decide) rfl (by decide) ⟨_,Tryz.func315,rfl,rfl⟩
def AYS:Go.Shelf.Ren:=⟨fun|45=>316|n=>n,fun|23=>60|22=>24|n=>n,fun|n=>n⟩
theorem AUE:AA7 Tryz.prog AYS 6 U4:={
 mixed:=aR
 f45:=Exists.intro ("slices.Delete[[]shipyard/api.Seam,shipyard/api.Seam]") ⟨by decide,Tryz.func316.trans (congrArg some (by kernel_rfl))⟩
 t0:=by kernel_rfl
 a0:=fun _=>by kernel_rfl
 z0:=fun _=>by kernel_rfl
 v0:=fun _=>by kernel_rfl
 t3:=by kernel_rfl
 a3:=fun _=>by kernel_rfl
 z3:=fun _=>by kernel_rfl
 v3:=fun _=>by kernel_rfl
 t4:=by kernel_rfl
 a4:=fun _=>by kernel_rfl
 z4:=fun _=>by kernel_rfl
 v4:=fun _=>by kernel_rfl
 t22:=by kernel_rfl
 a22:=fun _=>by kernel_rfl
 z22:=fun _=>by kernel_rfl
 v22:=fun _=>by kernel_rfl
 z23:=fun _=>by kernel_rfl
 v23:=fun _=>by kernel_rfl
 i23:=by
  obtain ⟨i,h1,_,h2,_⟩:=nY (P:=Tryz.prog) (t:=60) (zv:=U4) (z:=6) (b:=72) (by kernel_rfl)
  exact ⟨i,h1,h2⟩ }
def E1:List (List T)→List T→Option (List (List T)):=SQ 6
theorem ADZ:cF Tryz.prog 316 (lS 6 E1) :=
 nD AUE rfl (by decide) ⟨_,Tryz.func316,rfl,rfl⟩
def AAN:Go.Shelf.Ren:=⟨fun|41=>70|n=>n,fun|23=>60|22=>24|n=>n,fun|n=>n⟩
theorem AT0:SlLaysE0.n41 Tryz.prog AAN:={
 mixed:=aR
 f41:=Exists.intro ("slices.Clone[[]shipyard/api.Seam,shipyard/api.Seam]") ⟨by decide,Tryz.func70.trans (congrArg some (by kernel_rfl))⟩
 t4:=by kernel_rfl
 a4:=fun _=>by kernel_rfl
 z4:=fun _=>by kernel_rfl
 v4:=fun _=>by kernel_rfl
 t22:=by kernel_rfl
 a22:=fun _=>by kernel_rfl
 z22:=fun _=>by kernel_rfl
 v22:=fun _=>by kernel_rfl }
theorem ANH:∃ i0,(Tryz.prog).info? (AAN.t 23)=some i0∧i0.zero=some U4∧i0.size=6∧i0.bytes=72:=nY (by kernel_rfl)
theorem z6:cF Tryz.prog 70 (AB 6 72) :=
 oO AT0 ANH (fun _=>by kernel_rfl) (by decide) rfl (by decide) ⟨_,Tryz.func70,rfl,rfl⟩
def AAP:Go.Shelf.Ren:=⟨fun|22=>319|29=>345|30=>346|n=>n,fun|9=>65|24=>25|n=>n,fun|n=>n⟩
theorem ZI:NX Tryz.prog AAP 5 88 yK:={
 mixed:=aR
 f22:=Exists.intro ("slices.Insert[[]shipyard/api.Package,shipyard/api.Package]") ⟨by decide,Tryz.func319.trans (congrArg some (by kernel_rfl))⟩
 ov:=fun args w=>run_callFunc_extern (P:=Tryz.prog) (f:=345) (e:=Extern.SlicesOverlaps.overlaps #[25,25] #[4]) Tryz.func345 (by kernel_rfl) (by kernel_rfl) (by kernel_rfl) (by kernel_rfl) args w
 t0:=by kernel_rfl
 a0:=fun _=>by kernel_rfl
 z0:=fun _=>by kernel_rfl
 v0:=fun _=>by kernel_rfl
 t3:=by kernel_rfl
 a3:=fun _=>by kernel_rfl
 z3:=fun _=>by kernel_rfl
 v3:=fun _=>by kernel_rfl
 t4:=by kernel_rfl
 a4:=fun _=>by kernel_rfl
 z4:=fun _=>by kernel_rfl
 v4:=fun _=>by kernel_rfl
 z9:=fun _=>by kernel_rfl
 t24:=by kernel_rfl
 a24:=fun _=>by kernel_rfl
 z24:=fun _=>by kernel_rfl
 v24:=fun _=>by kernel_rfl
 i9:=nY (by kernel_rfl) }
def lU:List (List T)→List T→Option (List (List T)):=SR 5 88
theorem N7:cF Tryz.prog 319 (lS 5 lU) :=
 nE ZI (by decide) rfl (by decide) ⟨_,Tryz.func319,rfl,rfl⟩
def AAO:Go.Shelf.Ren:=⟨fun|45=>317|n=>n,fun|23=>65|22=>25|n=>n,fun|n=>n⟩
theorem WY:AA7 Tryz.prog AAO 5 yK:={
 mixed:=aR
 f45:=Exists.intro ("slices.Delete[[]shipyard/api.Package,shipyard/api.Package]") ⟨by decide,Tryz.func317.trans (congrArg some (by kernel_rfl))⟩
 t0:=by kernel_rfl
 a0:=fun _=>by kernel_rfl
 z0:=fun _=>by kernel_rfl
 v0:=fun _=>by kernel_rfl
 t3:=by kernel_rfl
 a3:=fun _=>by kernel_rfl
 z3:=fun _=>by kernel_rfl
 v3:=fun _=>by kernel_rfl
 t4:=by kernel_rfl
 a4:=fun _=>by kernel_rfl
 z4:=fun _=>by kernel_rfl
 v4:=fun _=>by kernel_rfl
 t22:=by kernel_rfl
 a22:=fun _=>by kernel_rfl
 z22:=fun _=>by kernel_rfl
 v22:=fun _=>by kernel_rfl
 z23:=fun _=>by kernel_rfl
 v23:=fun _=>by kernel_rfl
 i23:=by
  obtain ⟨i,h1,_,h2,_⟩:=nY (P:=Tryz.prog) (t:=65) (zv:=yK) (z:=5) (b:=88) (by kernel_rfl)
  exact ⟨i,h1,h2⟩ }
def lT:List (List T)→List T→Option (List (List T)):=SQ 5
theorem zA:cF Tryz.prog 317 (lS 5 lT) :=
 nD WY rfl (by decide) ⟨_,Tryz.func317,rfl,rfl⟩
def HH:Go.Shelf.Ren:=⟨fun|41=>159|n=>n,fun|23=>65|22=>25|n=>n,fun|n=>n⟩
theorem WS:SlLaysE0.n41 Tryz.prog HH:={
 mixed:=aR
 f41:=Exists.intro ("slices.Clone[[]shipyard/api.Package,shipyard/api.Package]") ⟨by decide,Tryz.func159.trans (congrArg some (by kernel_rfl))⟩
 t4:=by kernel_rfl
 a4:=fun _=>by kernel_rfl
 z4:=fun _=>by kernel_rfl
 v4:=fun _=>by kernel_rfl
 t22:=by kernel_rfl
 a22:=fun _=>by kernel_rfl
 z22:=fun _=>by kernel_rfl
 v22:=fun _=>by kernel_rfl }
theorem S9:∃ i0,(Tryz.prog).info? (HH.t 23)=some i0∧i0.zero=some yK∧i0.size=5∧i0.bytes=88:=nY (by kernel_rfl)
theorem mT:cF Tryz.prog 159 (AB 5 88) :=
 oO WS S9 (fun _=>by kernel_rfl) (by decide) rfl (by decide) ⟨_,Tryz.func159,rfl,rfl⟩
def AYV:Go.Shelf.Ren:=⟨fun|22=>312|29=>341|30=>342|n=>n,fun|9=>53|24=>23|n=>n,fun|n=>n⟩
theorem AWV:NX Tryz.prog AYV 18 208 U3:={
 mixed:=aR
 f22:=Exists.intro ("slices.Insert[[]shipyard/api.Part,shipyard/api.Part]") ⟨by decide,Tryz.func312.trans (congrArg some (by kernel_rfl))⟩
 ov:=fun args w=>run_callFunc_extern (P:=Tryz.prog) (f:=341) (e:=Extern.SlicesOverlaps.overlaps #[23,23] #[4]) Tryz.func341 (by kernel_rfl) (by kernel_rfl) (by kernel_rfl) (by kernel_rfl) args w
 t0:=by kernel_rfl
 a0:=fun _=>by kernel_rfl
 z0:=fun _=>by kernel_rfl
 v0:=fun _=>by kernel_rfl
 t3:=by kernel_rfl
 a3:=fun _=>by kernel_rfl
 z3:=fun _=>by kernel_rfl
 v3:=fun _=>by kernel_rfl
 t4:=by kernel_rfl
 a4:=fun _=>by kernel_rfl
 z4:=fun _=>by kernel_rfl
 v4:=fun _=>by kernel_rfl
 z9:=fun _=>by kernel_rfl
 t24:=by kernel_rfl
 a24:=fun _=>by kernel_rfl
 z24:=fun _=>by kernel_rfl
 v24:=fun _=>by kernel_rfl
 i9:=nY (by kernel_rfl) }
def r4:List (List T)→List T→Option (List (List T)):=SR 18 208
theorem AD1:cF Tryz.prog 312 (lS 18 r4) :=
 nE AWV (by decide) rfl (by decide) ⟨_,Tryz.func312,rfl,rfl⟩
def AYR:Go.Shelf.Ren:=⟨fun|45=>313|n=>n,fun|23=>53|22=>23|n=>n,fun|n=>n⟩
theorem AUD:AA7 Tryz.prog AYR 18 U3:={
 mixed:=aR
 f45:=Exists.intro ("slices.Delete[[]shipyard/api.Part,shipyard/api.Part]") ⟨by decide,Tryz.func313.trans (congrArg some (by kernel_rfl))⟩
 t0:=by kernel_rfl
 a0:=fun _=>by kernel_rfl
 z0:=fun _=>by kernel_rfl
 v0:=fun _=>by kernel_rfl
 t3:=by kernel_rfl
 a3:=fun _=>by kernel_rfl
 z3:=fun _=>by kernel_rfl
 v3:=fun _=>by kernel_rfl
 t4:=by kernel_rfl
 a4:=fun _=>by kernel_rfl
 z4:=fun _=>by kernel_rfl
 v4:=fun _=>by kernel_rfl
 t22:=by kernel_rfl
 a22:=fun _=>by kernel_rfl
 z22:=fun _=>by kernel_rfl
 v22:=fun _=>by kernel_rfl
 z23:=fun _=>by kernel_rfl
 v23:=fun _=>by kernel_rfl
 i23:=by
  obtain ⟨i,h1,_,h2,_⟩:=nY (P:=Tryz.prog) (t:=53) (zv:=U3) (z:=18) (b:=208) (by kernel_rfl)
  exact ⟨i,h1,h2⟩ }
def E0:List (List T)→List T→Option (List (List T)):=SQ 18
theorem ADY:cF Tryz.prog 313 (lS 18 E0) :=
 nD AUD rfl (by decide) ⟨_,Tryz.func313,rfl,rfl⟩
def AAM:Go.Shelf.Ren:=⟨fun|41=>158|n=>n,fun|23=>53|22=>23|n=>n,fun|n=>n⟩
theorem ATZ:SlLaysE0.n41 Tryz.prog AAM:={
 mixed:=aR
 f41:=Exists.intro ("slices.Clone[[]shipyard/api.Part,shipyard/api.Part]") ⟨by decide,Tryz.func158.trans (congrArg some (by kernel_rfl))⟩
 t4:=by kernel_rfl
 a4:=fun _=>by kernel_rfl
 z4:=fun _=>by kernel_rfl
 v4:=fun _=>by kernel_rfl
 t22:=by kernel_rfl
 a22:=fun _=>by kernel_rfl
 z22:=fun _=>by kernel_rfl
 v22:=fun _=>by kernel_rfl }
theorem ANG:∃ i0,(Tryz.prog).info? (AAM.t 23)=some i0∧i0.zero=some U3∧i0.size=18∧i0.bytes=208:=nY (by kernel_rfl)
theorem zZ:cF Tryz.prog 158 (AB 18 208) :=
 oO ATZ ANG (fun _=>by kernel_rfl) (by decide) rfl (by decide) ⟨_,Tryz.func158,rfl,rfl⟩
def BEF:Value:=.slice none 0 0
def AI2:Go.Shelf.Ren:=⟨fun|41=>157|n=>n,fun|23=>44|22=>45|n=>n,fun|n=>n⟩
theorem A2R:SlLaysE0.n41 Tryz.prog AI2:={
 mixed:=aR
 f41:=Exists.intro ("slices.Clone[[][]shipyard/api.Point,[]shipyard/api.Point]") ⟨by decide,Tryz.func157.trans (congrArg some (by kernel_rfl))⟩
 t4:=by kernel_rfl
 a4:=fun _=>by kernel_rfl
 z4:=fun _=>by kernel_rfl
 v4:=fun _=>by kernel_rfl
 t22:=by kernel_rfl
 a22:=fun _=>by kernel_rfl
 z22:=fun _=>by kernel_rfl
 v22:=fun _=>by kernel_rfl }
theorem AWR:∃ i0,(Tryz.prog).info? (AI2.t 23)=some i0∧i0.zero=some BEF∧i0.size=1∧i0.bytes=24:=nY (by kernel_rfl)
theorem AML:cF Tryz.prog 157 (AB 1 24) :=
 oO A2R AWR (fun _=>by kernel_rfl) (by decide) rfl (by decide) ⟨_,Tryz.func157,rfl,rfl⟩
end Go.Pv
namespace Go.Pv
open Go Go.Proofs
def UB (d:aB) (id:ByteArray):Option dJ:=d.2.2.2.1.find? fun s=>decide (s.1=id)
def partOf (d:aB) (id:ByteArray):Option a8:=d.2.2.1.find? fun s=>decide (s.1=id)
def iC (d:aB) (id:ByteArray):Option dC:=d.2.1.find? fun s=>decide (s.1=id)
def NB (m:aH) (n:ByteArray):Option cA:=m.2.find? fun s=>decide (s.1=n)
def dX:dJ:=(⟨#[]⟩,⟨#[]⟩,⟨#[]⟩,0,0,0)
def dW:dC:=(⟨#[]⟩,0,⟨#[]⟩)
def dB:a8:=(⟨#[]⟩,0,0,⟨#[]⟩,⟨#[]⟩,0,([],[]),⟨#[]⟩,0,0,(0,0,0),(0,0,0),0)
def zE:cA:=(⟨#[]⟩,0,0,0)
def found {α:Type} (no:α) (o:Option α):α×Bool:=match o with
 | some s=>(s,true)
 | none=>(no,false)
def qX (x:aB×ByteArray):Option T:=some (Sh.enc [(true,aY),(false,.bool)] (found dX (UB x.1 x.2)))
def UH (x:aB×ByteArray):Option T:=some (Sh.enc [(true,aK),(false,.bool)] (found dB (partOf x.1 x.2)))
def qV (x:aB×ByteArray):Option T:=some (Sh.enc [(true,aV),(false,.bool)] (found dW (iC x.1 x.2)))
def mQ (x:aH×ByteArray):Option T:=some (Sh.enc [(true,bH),(false,.bool)] (found zE (NB x.1 x.2)))
noncomputable def A6Z:Env:=Env.of []
def A7D:FuncId→Hint:=bV 243 [(2,.inv [.val 11 false (.int .i64),.fix 1])] (fun _=>aX)
theorem AQY:aQ Tryz.prog A6Z:=.nil _
def d5:T:=T.v (.string {data:=#[]})
def v6(a0:aB):List (List T):=List.map aY.enc a0.2.2.2.1
def ACT(a0:aB)(a1:ByteArray)(R:T→Prop):Prop:=eP (a6.rows false [[D.p d5,D.p d5, D.p d5,D.p (T.v (.int .i64 0)), D.p (T.v (.int .i64 0)),D.p (T.v (.int .i64 0))]]) (a6.rows false [[D.p d5,D.p d5, D.p d5,D.p (T.v (.int .i64 0)), D.p (T.v (.int .i64 0)),D.p (T.v (.int .i64 0))]]) (a7 (Int×PUnit×PUnit) (fun X0 s1=>aD (decide (s1.1<(↑(v6 a0).length:Int))) (aS aY (v6 a0) s1.1 fun (y2:dJ)=>aD (decide (y2.1=a1)) (R (T.bU [aF true aY y2,T.v (.bool true)])) (eP (a6.rows false [[D.p d5, D.p d5, D.p d5, D.p (T.v (.int .i64 0)), D.p (T.v (.int .i64 0)), D.p (T.v (.int .i64 0))]]) (a6.rows false [[D.p d5, D.p d5, D.p d5, D.p (T.v (.int .i64 0)), D.p (T.v (.int .i64 0)), D.p (T.v (.int .i64 0))]]) (X0 (IntKind.i64.wrap (s1.1+1),(),())))) (R (T.bU [T.agg [T.v (.string {data:=#[]}),T.v (.string {data:=#[]}), T.v (.string {data:=#[]}),T.v (.int .i64 0), T.v (.int .i64 0),T.v (.int .i64 0)], T.v (.bool false)]))) (0,(),()))
abbrev AGD:Sh:=[(true,aC),(false,Sy.str)]
noncomputable def AH:List T→Option T:=gS AGD qX
theorem PW {a0 a1}:AH [aF true aC a0,T.v (.string a1)]=qX (a0,a1):=bC (s:=AGD) rfl (a0,a1) rfl
theorem A4N:yL Tryz.prog 243 AH qX (b9 AGD) ACT:=jZ (a1:=(true,aC)) (a2:=(false,Sy.str)) (sp:=qX) (F:=ACT) (Hs:=A7D) (f:=243) (k:=8) AQY aR aU (aL rfl) ⟨_,_,Tryz.func243,rfl⟩ rfl fun _ _ _=>by kernel_rfl
theorem AH3:aN Tryz.prog 243 AH:=A4N fun d id r h hb=>by
 have hl:d.2.2.2.1.length≤2 ^ 47:=hb.1.2.2.2.1.1
 unfold ACT v6 d5
 rw[cI]
 refine bK d.2.2.2.1.length (fun k s=>s=((k:Int),(),())∧(d.2.2.2.1.drop k).find? (fun s=>decide (s.1=id))=UB d id) ⟨rfl,rfl⟩ ?_
 rintro X k s hk ⟨rfl,hf⟩ hX
 simp only[List.length_map,FM,cI]
 by_cases hlt:k<d.2.2.2.1.length
 ·rw[oQ hlt] at hf
  simp only[hlt,decide_true,aD,bD (r:=aY) hlt]
  cases hc:decide (d.2.2.2.1[k].1=id) with
  | true =>
   simp only[hc,if_true] at hf
   simp only[qX,qX,←hf] at h
   cases h;rfl
  | false =>
   simp only[hc] at hf
   refine hX _ hlt ⟨?_,hf⟩
   simp only[Prod.mk.injEq,and_true]
   exact bB _ (by omega) (by omega)
 ·have:k=d.2.2.2.1.length:=by omega
  subst this
  simp only[List.drop_length,List.find?_nil] at hf
  simp only[qX,qX,←hf] at h
  simp only[hlt,decide_false,aD]
  cases h;rfl
noncomputable def A6U:Env:=Env.of []
def A68:FuncId→Hint:=bV 195 [(2,.inv [.val 11 false (.int .i64),.fix 1])] (fun _=>aX)
theorem AQT:aQ Tryz.prog A6U:=.nil _
def t8(a0:aB):List (List T):=List.map aV.enc a0.2.1
def ACN(a0:aB)(a1:ByteArray)(R:T→Prop):Prop:=eP (a6.rows false [[D.p d5,D.p (T.v (.int .i64 0)), D.p d5]]) (a6.rows false [[D.p d5,D.p (T.v (.int .i64 0)), D.p d5]]) (a7 (Int×PUnit×PUnit) (fun X0 s1=>aD (decide (s1.1<(↑(t8 a0).length:Int))) (aS aV (t8 a0) s1.1 fun (y2:dC)=>aD (decide (y2.1=a1)) (R (T.bU [aF true aV y2,T.v (.bool true)])) (eP (a6.rows false [[D.p d5, D.p (T.v (.int .i64 0)), D.p d5]]) (a6.rows false [[D.p d5, D.p (T.v (.int .i64 0)), D.p d5]]) (X0 (IntKind.i64.wrap (s1.1+1),(),())))) (R (T.bU [T.agg [T.v (.string {data:=#[]}),T.v (.int .i64 0), T.v (.string {data:=#[]})], T.v (.bool false)]))) (0,(),()))
abbrev AF8:Sh:=[(true,aC),(false,Sy.str)]
noncomputable def AD:List T→Option T:=gS AF8 qV
theorem PQ {a0 a1}:AD [aF true aC a0,T.v (.string a1)]=qV (a0,a1):=bC (s:=AF8) rfl (a0,a1) rfl
theorem A4I:yL Tryz.prog 195 AD qV (b9 AF8) ACN:=jZ (a1:=(true,aC)) (a2:=(false,Sy.str)) (sp:=qV) (F:=ACN) (Hs:=A68) (f:=195) (k:=8) AQT aR aU (aL rfl) ⟨_,_,Tryz.func195,rfl⟩ rfl fun _ _ _=>by kernel_rfl
theorem AHZ:aN Tryz.prog 195 AD:=A4I fun d id r h hb=>by
 have hl:d.2.1.length≤2 ^ 47:=hb.1.2.1.1
 unfold ACN t8 d5
 rw[cI]
 refine bK d.2.1.length (fun k s=>s=((k:Int),(),())∧(d.2.1.drop k).find? (fun s=>decide (s.1=id))=iC d id) ⟨rfl,rfl⟩ ?_
 rintro X k s hk ⟨rfl,hf⟩ hX
 simp only[List.length_map,FM,cI]
 by_cases hlt:k<d.2.1.length
 ·rw[oQ hlt] at hf
  simp only[hlt,decide_true,aD,bD (r:=aV) hlt]
  cases hc:decide (d.2.1[k].1=id) with
  | true =>
   simp only[hc,if_true] at hf
   simp only[qV,qV,←hf] at h
   cases h;rfl
  | false =>
   simp only[hc] at hf
   refine hX _ hlt ⟨?_,hf⟩
   simp only[Prod.mk.injEq,and_true]
   exact bB _ (by omega) (by omega)
 ·have:k=d.2.1.length:=by omega
  subst this
  simp only[List.drop_length,List.find?_nil] at hf
  simp only[qV,qV,←hf] at h
  simp only[hlt,decide_false,aD]
  cases h;rfl
noncomputable def AJ9:Env:=Env.of []
def ALA:FuncId→Hint:=bV 178 [(2,.inv [.val 8 false (.int .i64)])] (fun _=>aX)
theorem VP:aQ Tryz.prog AJ9:=.nil _
def f7(X0:Int×PUnit→Prop)(s1:Int×PUnit):Prop:=X0 (IntKind.i64.wrap (s1.1+1),())
def BEZ:List T:=[T.agg [T.v (.string {data:=#[]}),T.v (.int .i64 0), T.v (.int .i64 0),T.v (.int .i64 0)], T.v (.bool false)]
def ED(a0:aH)(a1:ByteArray)(R:T→Prop):Prop:=a7 (Int×PUnit) (fun X0 s1=>aD (decide (s1.1<(↑(List.map bH.enc a0.2).length:Int))) (aS bH (List.map bH.enc a0.2) s1.1 fun (y2:cA)=>aD (decide (y2.1=a1)) (aD (decide (s1.1<0)) (R (T.bU BEZ)) (aS bH (List.map bH.enc a0.2) s1.1 fun (y3:cA)=>R (T.bU [aF true bH y3,T.v (.bool true)]))) (f7 X0 s1)) (R (T.bU BEZ))) (0,())
abbrev F9:Sh:=[(true,aJ),(false,Sy.str)]
noncomputable def cK:List T→Option T:=gS F9 mQ
theorem S6 {a0 a1}:cK [aF true aJ a0,T.v (.string a1)]=mQ (a0,a1):=bC (s:=F9) rfl (a0,a1) rfl
theorem AFR:yL Tryz.prog 145 cK mQ (b9 F9) ED:=jZ (a1:=(true,aJ)) (a2:=(false,Sy.str)) (sp:=mQ) (F:=ED) (Hs:=ALA) (f:=145) (k:=8) VP aR aU (aL rfl) ⟨_,_,Tryz.func145,rfl⟩ rfl fun _ _ _=>by kernel_rfl
theorem LA:aN Tryz.prog 145 cK:=AFR fun m n r h hb=>by
 have hl:m.2.length≤2 ^ 47:=hb.1.2.1
 unfold ED BEZ f7
 refine bK m.2.length (fun k s=>s=((k:Int),())∧(m.2.drop k).find? (fun s=>decide (s.1=n))=NB m n) ⟨rfl,rfl⟩ ?_
 rintro X k s hk ⟨rfl,hf⟩ hX
 simp only[List.length_map,FM]
 by_cases hlt:k<m.2.length
 ·rw[oQ hlt] at hf
  have h0:¬ ((k:Int)<0):=by omega
  simp only[hlt,decide_true,aD,bD (r:=bH) hlt,h0,decide_false]
  cases hc:decide (m.2[k].1=n) with
  | true =>
   simp only[hc,if_true] at hf
   simp only[mQ,←hf] at h
   cases h;rfl
  | false =>
   simp only[hc] at hf
   refine hX _ hlt ⟨?_,hf⟩
   simp only[Prod.mk.injEq,and_true]
   exact bB _ (by omega) (by omega)
 ·have:k=m.2.length:=by omega
  subst this
  simp only[List.drop_length,List.find?_nil] at hf
  simp only[mQ,←hf] at h
  simp only[hlt,decide_false,aD]
  cases h;rfl
end Go.Pv
namespace Go.Pv
open Go Go.Proofs
theorem ADF:uY Tryz.prog 111 2 16:=⟨fun R=>by kernel_rfl,fun fl R=>by kernel_rfl,fun fl a rows R=>by kernel_rfl⟩
noncomputable def eU:List T→Option T:=gS [(false,.li aA)] (cO aA 16)
theorem jL {u0}:eU [T.sl false (List.map (Sy.enc aA) u0)]=cO aA 16 u0:=bC (s:=[(false,.li aA)]) rfl u0 rfl
theorem sZ:aN Tryz.prog 111 eU:=mH aR aU ⟨_,_,Tryz.func111,rfl⟩ ADF
theorem WQ:AA6 Tryz.prog 157 1 24:=⟨fun R=>by kernel_rfl,fun fl R=>by kernel_rfl,fun fl a rows R=>by kernel_rfl⟩
noncomputable def tC:List T→Option (List (List T)):=gS [(false,.li (.li aA))] (oL (.li aA) 24)
theorem N8 {u0}:tC [T.sl false (List.map (Sy.enc (.li aA)) u0)]=oL (.li aA) 24 u0:=bC (s:=[(false,.li (.li aA))]) rfl u0 rfl
theorem W8:eH Tryz.prog 157 tC:=ALV aR aU ⟨_,_,Tryz.func157,rfl⟩ WQ
def eB (b:Nat) (n:Nat):Bool:=decide (n*b≤140737488355328)&&decide (n≤140737488355328)
def IA (s:lL):Bool:=eB 16 s.1.length&&eB 24 s.2.length&&s.2.all fun h=>eB 16 h.length
def eK (p:a8):Bool:=IA p.2.2.2.2.2.2.1
def QE (d:aB):Bool:=d.2.2.1.all eK
theorem gE {r:Sy} {b:Nat} {l:List r.den} (h:eB b l.length=true):oL r b l=some (List.map r.enc l):=by
 unfold oL;unfold eB at h;rw[h]
def kC (x:aB×ByteArray):Option T:=match QE x.1 with
 | true=>UH x
 | false=>none
noncomputable def A0H:Env:=Env.of [(111,.pure eU),(157,.fresh tC)]
def A1X:FuncId→Hint:=bV 119 [(2,.inv [.val 13 false (.int .i64),.fix 1]),(7,.alt [.val 37 false (.int .i64),.arr 4 1 (.li aA)] [.val 37 false (.int .i64)])] (fun _=>aX)
theorem AKK:aQ Tryz.prog A0H:=.cons sZ (.cons W8 (.nil _))
def d8:T:=T.v (Value.slice none 0 0)
def eI:Sh:=[(false,aA.li)]
def LE(a0:aB):List (List T):=List.map aK.enc a0.2.2.1
def f8(y7:List aO):List (List T):=List.map aA.enc y7
def m8(y2:a8):List (List T):=List.map aA.li.enc y2.2.2.2.2.2.2.1.2
def GT(s12:Int×List (List aO)×PUnit):List (List T):=List.map aA.li.enc s12.2.1
def BE0(y7:List aO):List T:=[T.sl false (f8 y7)]
def BE7(y2:a8):List (List T):=List.map aA.enc y2.2.2.2.2.2.2.1.1
def RR(a0:aB)(a1:ByteArray)(R:T→Prop):Prop:=eP (a6.rows false [[D.p d5,D.p (T.v (.int .i64 0)), D.p (T.v (.int .i64 0)),D.p d5, D.p d5,D.p (T.v (.int .i64 0)), D.p d8,D.p d8, D.p d5,D.p (T.v (.int .i64 0)), D.p (T.v (.int .i64 0)),D.p (T.v (.int .i64 0)), D.p (T.v (.int .i64 0)),D.p (T.v (.int .i64 0)), D.p (T.v (.int .i64 0)),D.p (T.v (.int .i64 0)), D.p (T.v (.int .i64 0)),D.p (T.v (.int .i64 0))]]) (a6.rows false [[D.p d5,D.p (T.v (.int .i64 0)), D.p (T.v (.int .i64 0)),D.p d5, D.p d5,D.p (T.v (.int .i64 0)), D.p d8,D.p d8, D.p d5,D.p (T.v (.int .i64 0)), D.p (T.v (.int .i64 0)),D.p (T.v (.int .i64 0)), D.p (T.v (.int .i64 0)),D.p (T.v (.int .i64 0)), D.p (T.v (.int .i64 0)),D.p (T.v (.int .i64 0)), D.p (T.v (.int .i64 0)),D.p (T.v (.int .i64 0))]]) (a7 (Int×PUnit×PUnit) (fun X0 s1=>aD (decide (s1.1<(↑(LE a0).length:Int))) (aS aK (LE a0) s1.1 fun (y2:a8)=>aD (decide (y2.1=a1)) (aI eI (eU [T.sl false (BE7 y2)]) fun (y3:List aO)=>eE aA.li (tC [T.sl false (m8 y2)]) fun (y4:List (List aO))=>aD y4.isEmpty (a7 (Int×PUnit) (fun X5 s6=>aD (decide (s6.1<(↑0:Int))) (aS aA.li [] s6.1 fun (y7:List aO)=>aI eI (eU (BE0 y7)) fun (y8:List aO)=>aS aA.li [] s6.1 fun (y9:List aO)=>pW 104) (R (T.bU [T.agg [T.v (.string y2.1),T.v (.int .i64 y2.2.1), T.v (.int .i64 y2.2.2.1), T.v (.string y2.2.2.2.1), T.v (.string y2.2.2.2.2.1), T.v (.int .i64 y2.2.2.2.2.2.1), T.sl false (f8 y3),T.sl false [], T.v (.string y2.2.2.2.2.2.2.2.1), T.v (.int .i64 y2.2.2.2.2.2.2.2.2.1), T.v (.int .i64 y2.2.2.2.2.2.2.2.2.2.1), T.v (.int .i64 y2.2.2.2.2.2.2.2.2.2.2.1.1), T.v (.int .i64 y2.2.2.2.2.2.2.2.2.2.2.1.2.1), T.v (.int .i64 y2.2.2.2.2.2.2.2.2.2.2.1.2.2), T.v (.int .i64 y2.2.2.2.2.2.2.2.2.2.2.2.1.1), T.v (.int .i64 y2.2.2.2.2.2.2.2.2.2.2.2.1.2.1), T.v (.int .i64 y2.2.2.2.2.2.2.2.2.2.2.2.1.2.2), T.v (.int .i64 y2.2.2.2.2.2.2.2.2.2.2.2.2)], T.v (.bool true)]))) (0,())) (bL aA.li (List.map aA.li.enc y4) fun (y10:List (List aO))=>a7 (Int×List (List aO)×PUnit) (fun X11 s12=>aD (decide (s12.1<(↑(List.map aA.li.enc y4).length:Int))) (aS aA.li (GT s12) s12.1 fun (y13:List aO)=>gZ aA.li (GT s12) (Int.toNat s12.1) 0 fun (y14:List aO)=>aI eI (eU (BE0 y14)) fun (y15:List aO)=>aS aA.li (GT s12) s12.1 fun (y16:List aO)=>DE (GT s12) (Int.toNat s12.1) fun (y17:List T)=>bN (decide (1≤y17.length)) (bL aA.li ((GT s12).set (Int.toNat s12.1) (bO y17 0 (BE0 y15))) fun (y18:List (List aO))=>X11 (IntKind.i64.wrap (s12.1+1),y18,()))) (R (T.bU [T.agg [T.v (.string y2.1), T.v (.int .i64 y2.2.1), T.v (.int .i64 y2.2.2.1), T.v (.string y2.2.2.2.1), T.v (.string y2.2.2.2.2.1), T.v (.int .i64 y2.2.2.2.2.2.1), T.sl false (f8 y3), T.sl false (GT s12), T.v (.string y2.2.2.2.2.2.2.2.1), T.v (.int .i64 y2.2.2.2.2.2.2.2.2.1), T.v (.int .i64 y2.2.2.2.2.2.2.2.2.2.1), T.v (.int .i64 y2.2.2.2.2.2.2.2.2.2.2.1.1), T.v (.int .i64 y2.2.2.2.2.2.2.2.2.2.2.1.2.1), T.v (.int .i64 y2.2.2.2.2.2.2.2.2.2.2.1.2.2), T.v (.int .i64 y2.2.2.2.2.2.2.2.2.2.2.2.1.1), T.v (.int .i64 y2.2.2.2.2.2.2.2.2.2.2.2.1.2.1), T.v (.int .i64 y2.2.2.2.2.2.2.2.2.2.2.2.1.2.2), T.v (.int .i64 y2.2.2.2.2.2.2.2.2.2.2.2.2)], T.v (.bool true)]))) (0,y10,()))) (eP (a6.rows false [[D.p d5, D.p (T.v (.int .i64 0)), D.p (T.v (.int .i64 0)), D.p d5, D.p d5, D.p (T.v (.int .i64 0)), D.p d8,D.p d8, D.p d5, D.p (T.v (.int .i64 0)), D.p (T.v (.int .i64 0)), D.p (T.v (.int .i64 0)), D.p (T.v (.int .i64 0)), D.p (T.v (.int .i64 0)), D.p (T.v (.int .i64 0)), D.p (T.v (.int .i64 0)), D.p (T.v (.int .i64 0)), D.p (T.v (.int .i64 0))]]) (a6.rows false [[D.p d5, D.p (T.v (.int .i64 0)), D.p (T.v (.int .i64 0)), D.p d5, D.p d5, D.p (T.v (.int .i64 0)), D.p d8,D.p d8, D.p d5, D.p (T.v (.int .i64 0)), D.p (T.v (.int .i64 0)), D.p (T.v (.int .i64 0)), D.p (T.v (.int .i64 0)), D.p (T.v (.int .i64 0)), D.p (T.v (.int .i64 0)), D.p (T.v (.int .i64 0)), D.p (T.v (.int .i64 0)), D.p (T.v (.int .i64 0))]]) (X0 (IntKind.i64.wrap (s1.1+1),(),())))) (R (T.bU [T.agg [T.v (.string {data:=#[]}),T.v (.int .i64 0), T.v (.int .i64 0),T.v (.string {data:=#[]}), T.v (.string {data:=#[]}),T.v (.int .i64 0), T.sl false [],T.sl false [],T.v (.string {data:=#[]}), T.v (.int .i64 0),T.v (.int .i64 0), T.v (.int .i64 0),T.v (.int .i64 0), T.v (.int .i64 0),T.v (.int .i64 0), T.v (.int .i64 0),T.v (.int .i64 0), T.v (.int .i64 0)], T.v (.bool false)]))) (0,(),()))
abbrev T1:Sh:=[(true,aC),(false,Sy.str)]
noncomputable def kH:List T→Option T:=gS T1 kC
theorem pC {a0 a1}:kH [aF true aC a0,T.v (.string a1)]=kC (a0,a1):=bC (s:=T1) rfl (a0,a1) rfl
theorem AX2:yL Tryz.prog 119 kH kC (b9 T1) RR:=jZ (a1:=(true,aC)) (a2:=(false,Sy.str)) (sp:=kC) (F:=RR) (Hs:=A1X) (f:=119) (k:=8) AKK aR aU (aL rfl) ⟨_,_,Tryz.func119,rfl⟩ rfl fun _ _ _=>by kernel_rfl
theorem BN:aN Tryz.prog 119 kH:=AX2 fun d id r h hb=>by
 have hl:d.2.2.1.length≤2 ^ 47:=hb.1.2.2.1.1
 unfold kC at h
 split at h
 ·rename_i hok
  unfold RR BE7 BE0 GT m8 f8 LE eI d8 d5
  rw[cI]
  refine bK d.2.2.1.length (fun k s=>s=((k:Int),(),())∧(d.2.2.1.drop k).find? (fun s=>decide (s.1=id))=partOf d id) ⟨rfl,rfl⟩ ?_
  rintro X k s hk ⟨rfl,hf⟩ hX
  simp only[List.length_map,FM,cI]
  by_cases hlt:k<d.2.2.1.length
  ·rw[oQ hlt] at hf
   have hp:eK d.2.2.1[k]=true:=List.all_eq_true.1 hok _ (List.getElem_mem hlt)
   simp only[hlt,decide_true,aD,bD (r:=aK) hlt]
   generalize d.2.2.1[k]=p at *
   unfold eK IA at hp
   simp only[Bool.and_eq_true] at hp
   obtain ⟨⟨hp1,hp2⟩,hp3⟩:=hp
   cases hc:decide (p.1=id) with
   | true =>
    simp only[hc,if_true] at hf
    simp only[UH,←hf] at h
    cases h
    simp only[]
    refine aG (s:=[(false,aA.li)]) (y:=p.2.2.2.2.2.2.1.1) (by rw[jL,cO,gE hp1];rfl) ?_
    refine dM (r:=.li aA) (l:=p.2.2.2.2.2.2.1.2) (by rw[N8,gE hp2]) _ ?_
    obtain ⟨p1,p2,p3,p4,p5,p6,⟨o,hs⟩,p7⟩:=p
    have hb47:hs.length≤140737488355328:=by
     simp only[eB,Bool.and_eq_true,decide_eq_true_eq] at hp2;exact hp2.2
    cases hs with
    | nil =>
     simp only[List.isEmpty_nil]
     refine bK 0 (fun k s=>s=((k:Int),())) rfl ?_
     rintro X k s hk rfl hX
     have:k=0:=by omega
     subst this
     rfl
    | cons h0 hs =>
     generalize hhs:h0::hs=hh at *
     have he:hh.isEmpty=false:=by rw[←hhs];rfl
     simp only[he]
     rw[dZ (r:=.li aA) rfl]
     refine bK hh.length (fun k s=>s=((k:Int),hh,())) rfl ?_
     rintro X k s hk rfl hX
     simp only[List.length_map,FM]
     by_cases hlt:k<hh.length
     ·have hok:eB 16 hh[k].length=true:=List.all_eq_true.1 hp3 _ (List.getElem_mem hlt)
      simp only[hlt,decide_true,Int.toNat_natCast,bD (r:=.li aA) hlt,iL (r:=.li aA) hlt,oK (r:=.li aA) hlt]
      refine aG (s:=[(false,aA.li)]) (y:=hh[k]) (by rw[jL,cO,gE hok];rfl) ?_
      refine ⟨rfl,?_⟩
      have e:bO (Sy.enc (.li aA) hh[k]) 0 [T.sl false (List.map aA.enc hh[k])]=Sy.enc (.li aA) hh[k]:=rfl
      rw[e,DG (r:=.li aA) hlt,dZ (r:=.li aA) rfl]
      refine hX _ hlt ?_
      simp only[Prod.mk.injEq,and_true]
      exact bB _ (by omega) (by omega)
     ·simp only[hlt,decide_false]
      rfl
   | false =>
    simp only[hc] at hf
    refine hX _ hlt ⟨?_,hf⟩
    simp only[Prod.mk.injEq,and_true]
    exact bB _ (by omega) (by omega)
  ·have:k=d.2.2.1.length:=by omega
   subst this
   simp only[List.drop_length,List.find?_nil] at hf
   simp only[UH,←hf] at h
   simp only[hlt,decide_false,aD]
   cases h;rfl
 ·cases h
end Go.Pv
namespace Go.Pv
open Go Go.Proofs
abbrev HV:Sh:=[(false,.bool)]
theorem gO {p:Prop} {i:Decidable p} (h:p) {A B:Prop} (ha:A):aD (@decide p i) A B:=by rw[show @decide p i=true from decide_eq_true h];exact ha
theorem jP {p:Prop} {i:Decidable p} (h:¬ p) {A B:Prop} (hb:B):aD (@decide p i) A B:=by rw[show @decide p i=false from decide_eq_false h];exact hb
theorem bZ {p:Prop} {i:Decidable p} {A B:Prop} (h1:p→A) (h2:¬ p→B):aD (@decide p i) A B:=by
 by_cases h:p
 ·rw[decide_eq_true h];exact h1 h
 ·rw[decide_eq_false h];exact h2 h
theorem lI {p:Prop} {i:Decidable p} {A B:Prop} (h1:¬ p→A) (h2:p→B):aD (!(@decide p i)) A B:=by
 by_cases h:p
 ·rw[decide_eq_true h];exact h2 h
 ·rw[decide_eq_false h];exact h1 h
theorem E5 {c:Bool} {A B:Prop} (h1:c=true→A) (h2:c=false→B):aD c A B:=by cases c with
 | true=>exact h1 rfl
 | false=>exact h2 rfl
theorem kQ {c:Bool} {A B:Prop} (h1:c=false→A) (h2:c=true→B):aD (!c) A B:=by cases c with
 | true=>exact h2 rfl
 | false=>exact h1 rfl
def bP {α:Type} (f:α→Int):List α→Int
 | []=>0
 | a::l=>if f a=0 then bP f l else f a
theorem o9 {r:Sy} {l:List r.den} (f:r.den→Int) (hl:l.length≤140737488355328) {Body:(Int×PUnit→Prop)→Int×PUnit→r.den→Prop} {Exit:Prop}
  (hbody:∀ (X:Int×PUnit→Prop) (s:Int×PUnit) (y:r.den),y∈l→(f y=0→X (IntKind.i64.wrap (s.1+1),()))→(f y≠0→bP f l=f y)→Body X s y) (hexit:bP f l=0→Exit) :
  a7 (Int×PUnit) (fun (X:Int×PUnit→Prop) (s:Int×PUnit)=>aD (decide (s.1<((List.map r.enc l).length:Int))) (aS r (List.map r.enc l) s.1 fun y=>Body X s y) Exit) (0,()):=by
 refine bK l.length (fun k s=>s=((k:Int),())∧bP f l=bP f (l.drop k)) ⟨rfl,by rw[List.drop_zero]⟩ ?_
 rintro X k s hk ⟨rfl,he⟩ hX
 dsimp only
 refine bZ (fun hlt=>?_) fun hge=>?_
 ·rw[List.length_map] at hlt
  have hlt:k<l.length:=by omega
  rw[bD hlt]
  have hd:l.drop k=l[k]::l.drop (k+1):=List.drop_eq_getElem_cons hlt
  rw[hd,bP] at he
  refine hbody X _ _ (List.getElem_mem hlt) (fun h0=>?_) fun h0=>by rw[he,if_neg h0]
  rw[if_pos h0] at he
  exact hX _ hlt ⟨by rw[show IntKind.i64.wrap ((k:Int)+1)=((k+1:Nat):Int) from bB _ (by omega) (by omega)],he⟩
 ·rw[List.length_map] at hge
  have:k=l.length:=by omega
  subst this
  rw[List.drop_length] at he
  exact hexit he
end Go.Pv
namespace Go.Pv
open Go Go.Proofs
def upF (d:aB):Nat→ByteArray→List ByteArray→List ByteArray×Bool
 | 0,_,_=>([],false)
 | n+1,id,l=>match iC d id with
  | none=>([],false)
  | some x=>if x.2.1=1 then (l++[id],true) else upF d n x.2.2 (l++[id])
def up (d:aB) (id:ByteArray):List ByteArray×Bool:=upF d 65 id []
theorem AJD {d:aB}:∀ {n:Nat} {id:ByteArray} {l:List ByteArray},(upF d n id l).1.length≤l.length+n
 | 0,_,_=>by simp[upF]
 | n+1,id,l=>by
  unfold upF
  cases iC d id with
  | none=>simp
  | some x =>
   by_cases hx:x.2.1=1
   ·simp only[hx,if_true]
    simp
   ·simp only[hx,if_false]
    have:=AJD (d:=d) (n:=n) (id:=x.2.2) (l:=l++[id])
    simp at this;omega
theorem BBF (d:aB) (id:ByteArray):(up d id).1.length≤65:=by have:=AJD (d:=d) (n:=65) (id:=id) (l:=[]);simpa [up] using this
theorem A7I {l:List ByteArray} (h:l.length≤8000000000000) (K:Prop):bN (decide (((List.map Sy.str.enc l).length+1)*16≤140737488355328)&&decide ((List.map Sy.str.enc l).length+1≤140737488355328)) K=K:=by
 have e:(decide (((List.map Sy.str.enc l).length+1)*16≤140737488355328)&&decide ((List.map Sy.str.enc l).length+1≤140737488355328))=true:=by
  simp only[List.length_map,Bool.and_eq_true,decide_eq_true_eq]
  omega
 rw[e];simp[bN]
theorem AUA {l:List ByteArray} {x:ByteArray} (K:List ByteArray→Prop):bL Sy.str (List.map Sy.str.enc l++[[T.v (.string x)]]) K=K (l++[x]):=w6 (r:=.str) rfl l _ x rfl K
theorem AUH {l:List ByteArray} {x:ByteArray}:List.map Sy.str.enc l++[[T.v (.string x)]]=List.map Sy.str.enc (l++[x]):=by simp[Sy.enc]
end Go.Pv
namespace Go.Pv
open Go Go.Proofs
noncomputable def w9 {α:Type} (a b:α):Bool:=@decide (a=b) (Classical.propDecidable _)
theorem oC {α:Type} {a b:α}:w9 a b=true↔a=b:=by unfold w9;exact @decide_eq_true_iff _ (Classical.propDecidable _)
@[simp] theorem BDD {α:Type} (a:α):w9 a a=true:=oC.2 rfl
theorem KU {α:Type} {a b:α} (h:¬ a=b):w9 a b=false:=by
 cases hc:w9 a b with
 | false=>rfl
 | true=>exact absurd (oC.1 hc) h
theorem AYL (y:Bool) (K:Bool→Prop):aI [(false,Sy.bool)] (some (Sh.enc HV y)) K=K y:=w4 (s:=HV) rfl y K
theorem AO1 {r:Sy} {l m:List r.den} (hlen:l.length=m.length) (hl:l.length≤2 ^ 47) (test:r.den→r.den→Bool) (ht:∀ x y,test x y=true↔x=y) {R:T→Prop} (hR:R (T.v (.bool (w9 l m)))) :
  a7 (Int×PUnit) (fun (X:Int×PUnit→Prop) (s:Int×PUnit)=>aD (decide (s.1<(↑(List.map r.enc l).length:Int))) (aS r (List.map r.enc l) s.1 fun y=>aS r (List.map r.enc m) s.1 fun z=>aD (!(test y z)) (R (T.v (.bool false))) (X (IntKind.i64.wrap (s.1+1),()))) (R (T.v (.bool true)))) (0,()):=by
 refine bK l.length (fun k s=>s=((k:Int),())∧(l=m↔l.drop k=m.drop k)) ⟨rfl,by simp⟩ ?_
 rintro X k s hk ⟨rfl,he⟩ hX
 dsimp only
 by_cases hlt:k<l.length
 ·have hlt2:k<m.length:=by omega
  refine gO (by simp[hlt]) ?_
  rw[bD hlt,bD hlt2]
  rw[List.drop_eq_getElem_cons hlt,List.drop_eq_getElem_cons hlt2,List.cons.injEq] at he
  by_cases h1:l[k]=m[k]
  ·rw[(ht _ _).2 h1,Bool.not_true,mM]
   refine hX _ hlt ⟨by rw[show IntKind.i64.wrap ((k:Int)+1)=((k+1:Nat):Int) from bB _ (by omega) (by omega)],?_⟩
   rw[he];exact ⟨fun h=>h.2,fun h=>⟨h1,h⟩⟩
  ·have:test l[k] m[k]=false:=by
    cases hc:test l[k] m[k] with
    | false=>rfl
    | true=>exact absurd ((ht _ _).1 hc) h1
   rw[this,Bool.not_false,jY]
   rwa[KU fun h=>h1 (he.1 h).1] at hR
 ·have:k=l.length:=by omega
  subst this
  refine jP (by simp) ?_
  rwa[oC.2 (he.2 (by rw[List.drop_length,hlen,List.drop_length]))] at hR
theorem AZQ {r:Sy} {l m:List r.den} (hl:l.length≤2 ^ 47) (test:r.den→r.den→Bool) (ht:∀ x y,test x y=true↔x=y) {R:T→Prop} (hR:R (T.v (.bool (w9 l m)))) :
  aD (!decide ((↑(List.map r.enc l).length:Int)=(↑(List.map r.enc m).length:Int))) (R (T.v (.bool false))) (a7 (Int×PUnit) (fun (X:Int×PUnit→Prop) (s:Int×PUnit)=>aD (decide (s.1<(↑(List.map r.enc l).length:Int))) (aS r (List.map r.enc l) s.1 fun y=>aS r (List.map r.enc m) s.1 fun z=>aD (!(test y z)) (R (T.v (.bool false))) (X (IntKind.i64.wrap (s.1+1),()))) (R (T.v (.bool true)))) (0,())):=by
 by_cases hlen:l.length=m.length
 ·rw[show (!decide ((↑(List.map r.enc l).length:Int)=(↑(List.map r.enc m).length:Int)))=false by simp[hlen],mM]
  exact AO1 hlen hl test ht hR
 ·rw[show (!decide ((↑(List.map r.enc l).length:Int)=(↑(List.map r.enc m).length:Int)))=true by simp;omega,jY]
  rwa[KU fun h=>hlen (by rw[h])] at hR
def nW (d:aB) (id:ByteArray):Option aW:=d.2.2.2.2.1.find? fun s=>decide (s.1=id)
def noPack:aW:=(⟨#[]⟩,⟨#[]⟩,[],0,[])
theorem WR:uY Tryz.prog 113 1 16:=⟨fun R=>by kernel_rfl,fun fl R=>by kernel_rfl,fun fl a rows R=>by kernel_rfl⟩
noncomputable def fI:List T→Option T:=gS [(false,.li .str)] (cO .str 16)
theorem iR {u0}:fI [T.sl false (List.map (Sy.enc .str) u0)]=cO .str 16 u0:=bC (s:=[(false,.li .str)]) rfl u0 rfl
theorem vL:aN Tryz.prog 113 fI:=mH aR aU ⟨_,_,Tryz.func113,rfl⟩ WR
def dY (p:aW):Bool:=eB 16 p.2.2.1.length&&eB 16 p.2.2.2.2.length
def OE (d:aB):Bool:=d.2.2.2.2.1.all dY
def Z9 (d:aB) (t:T):Option T:=match OE d with
 | true=>some t
 | false=>none
theorem AYC {d:aB} {t r:T} (h:Z9 d t=some r):OE d=true∧r=t:=by
 unfold Z9 at h;split at h
 ·cases h;exact ⟨by assumption,rfl⟩
 ·cases h
theorem AAA {d:aB} (t:T) (h:OE d=true):Z9 d t=some t:=by unfold Z9;rw[h]
def x8 (x:aB×ByteArray):Option T:=Z9 x.1 (Sh.enc [(true,aE),(false,.bool)] (found noPack (nW x.1 x.2)))
noncomputable def A6V:Env:=Env.of [(113,.pure fI)]
def A69:FuncId→Hint:=bV 263 [(2,.inv [.val 11 false (.int .i64),.fix 1])] (fun _=>aX)
theorem AQU:aQ Tryz.prog A6V:=.cons vL (.nil _)
def d9:Sh:=[(false,Sy.str.li)]
def AC(a0:aB):List (List T):=List.map aE.enc a0.2.2.2.2.1
def FS(y3:List ByteArray):List (List T):=List.map Sy.str.enc y3
def ACP(a0:aB)(a1:ByteArray)(R:T→Prop):Prop:=eP (a6.rows false [[D.p d5,D.p d5, D.p d8,D.p (T.v (.int .i64 0)), D.p d8]]) (a6.rows false [[D.p d5,D.p d5, D.p d8,D.p (T.v (.int .i64 0)), D.p d8]]) (a7 (Int×PUnit×PUnit) (fun X0 s1=>aD (decide (s1.1<(↑(AC a0).length:Int))) (aS aE (AC a0) s1.1 fun (y2:aW)=>aD (decide (y2.1=a1)) (aI d9 (fI [T.sl false (List.map Sy.str.enc y2.2.2.1)]) fun (y3:List ByteArray)=>aI d9 (fI [T.sl false (List.map Sy.str.enc y2.2.2.2.2)]) fun (y4:List ByteArray)=>R (T.bU [T.agg [T.v (.string y2.1),T.v (.string y2.2.1), T.sl false (FS y3), T.v (.int .i64 y2.2.2.2.1), T.sl false (FS y4)], T.v (.bool true)])) (eP (a6.rows false [[D.p d5, D.p d5, D.p d8, D.p (T.v (.int .i64 0)), D.p d8]]) (a6.rows false [[D.p d5, D.p d5, D.p d8, D.p (T.v (.int .i64 0)), D.p d8]]) (X0 (IntKind.i64.wrap (s1.1+1),(),())))) (R (T.bU [T.agg [T.v (.string {data:=#[]}),T.v (.string {data:=#[]}), T.sl false [],T.v (.int .i64 0),T.sl false []], T.v (.bool false)]))) (0,(),()))
abbrev AF9:Sh:=[(true,aC),(false,Sy.str)]
noncomputable def AE:List T→Option T:=gS AF9 x8
theorem PR {a0 a1}:AE [aF true aC a0,T.v (.string a1)]=x8 (a0,a1):=bC (s:=AF9) rfl (a0,a1) rfl
theorem A4J:yL Tryz.prog 263 AE x8 (b9 AF9) ACP:=jZ (a1:=(true,aC)) (a2:=(false,Sy.str)) (sp:=x8) (F:=ACP) (Hs:=A69) (f:=263) (k:=8) AQU aR aU (aL rfl) ⟨_,_,Tryz.func263,rfl⟩ rfl fun _ _ _=>by kernel_rfl
theorem AH0:aN Tryz.prog 263 AE:=A4J fun d id r h hb=>by
 have hl:d.2.2.2.2.1.length≤2 ^ 47:=hb.1.2.2.2.2.1.1
 obtain ⟨hok,rfl⟩:=AYC h
 clear h
 unfold ACP FS AC d9 d8 d5
 rw[cI]
 refine bK d.2.2.2.2.1.length (fun k s=>s=((k:Int),(),())∧(d.2.2.2.2.1.drop k).find? (fun s=>decide (s.1=id))=nW d id) ⟨rfl,rfl⟩ ?_
 rintro X k s hk ⟨rfl,hf⟩ hX
 simp only[List.length_map,FM,cI]
 by_cases hlt:k<d.2.2.2.2.1.length
 ·rw[oQ hlt] at hf
  have hp:dY d.2.2.2.2.1[k]=true:=List.all_eq_true.1 hok _ (List.getElem_mem hlt)
  simp only[hlt,decide_true,aD,bD (r:=aE) hlt]
  unfold dY at hp
  simp only[Bool.and_eq_true] at hp
  cases hc:decide (d.2.2.2.2.1[k].1=id) with
  | true =>
   simp only[hc,if_true] at hf
   rw[←hf]
   refine aG (s:=[(false,.li .str)]) (y:=d.2.2.2.2.1[k].2.2.1) (by rw[iR,cO,gE hp.1];rfl) ?_
   refine aG (s:=[(false,.li .str)]) (y:=d.2.2.2.2.1[k].2.2.2.2) (by rw[iR,cO,gE hp.2];rfl) ?_
   rfl
  | false =>
   simp only[hc] at hf
   refine hX _ hlt ⟨?_,hf⟩
   simp only[Prod.mk.injEq,and_true]
   exact bB _ (by omega) (by omega)
 ·have:k=d.2.2.2.2.1.length:=by omega
  subst this
  simp only[List.drop_length,List.find?_nil] at hf
  rw[←hf]
  simp only[hlt,decide_false,aD]
  rfl
end Go.Pv
namespace Go.Pv
open Go Go.Proofs
def few (d:aB) (n:Int):Bool:=decide ((d.2.1.length:Int)≤n)&&decide ((d.2.2.1.length:Int)≤n)&&decide ((d.2.2.2.1.length:Int)≤n)&&decide ((d.2.2.2.2.1.length:Int)≤n)&&decide ((d.2.2.2.2.2.length:Int)≤n)&&d.2.2.2.2.1.all fun k=>decide ((k.2.2.1.length:Int)≤n)&&decide ((k.2.2.2.2.length:Int)≤n)
theorem pG {c:Bool} {A B:Prop} (h1:c=true→A) (h2:c=false→B):aD c A B:=by cases c with
 | true=>exact h1 rfl
 | false=>exact h2 rfl
theorem jO {c:Bool} {A B:Prop} (h1:c=false→A) (h2:c=true→B):aD (!c) A B:=by cases c with
 | true=>exact h2 rfl
 | false=>exact h1 rfl
end Go.Pv
namespace Go.Pv
open Go Go.Proofs
noncomputable def DS (x:List aO×List aO):Option T:=some (Sh.enc HV (w9 x.1 x.2))
noncomputable def qW (x:a8×a8):Option T:=some (Sh.enc HV (w9 x.1 x.2))
noncomputable def A60:Env:=Env.of []
def A7E:FuncId→Hint:=bV 86 [(4,.inv [.val 13 false (.int .i64)])] (fun _=>aX)
theorem AQZ:aQ Tryz.prog A60:=.nil _
def d3:T:=T.v (.bool false)
def d7:T:=T.v (.bool true)
def ACU(a0:List aO)(a1:List aO)(R:T→Prop):Prop:=aD (!decide ((↑(f8 a0).length:Int)=(↑(f8 a1).length:Int))) (R d3) (a7 (Int×PUnit) (fun X0 s1=>aD (decide (s1.1<(↑(f8 a0).length:Int))) (aS aA (f8 a0) s1.1 fun (y2:aO)=>aS aA (f8 a1) s1.1 fun (y3:aO)=>aD (!(decide (y2.1=y3.1)&&(decide (y2.2=y3.2)&&true))) (R d3) (f7 X0 s1)) (R d7)) (0,()))
abbrev AGE:Sh:=[(false,aA.li),(false,aA.li)]
noncomputable def E2:List T→Option T:=gS AGE DS
theorem AM9 {a0 a1}:E2 [T.sl false (List.map aA.enc a0),T.sl false (List.map aA.enc a1)]=DS (a0,a1):=bC (s:=AGE) rfl (a0,a1) rfl
theorem A4O:yL Tryz.prog 86 E2 DS (b9 AGE) ACU:=jZ (a1:=(false,aA.li)) (a2:=(false,aA.li)) (sp:=DS) (F:=ACU) (Hs:=A7E) (f:=86) (k:=8) AQZ aR aU (aL rfl) ⟨_,_,Tryz.func86,rfl⟩ rfl fun _ _ _=>by kernel_rfl
theorem A3G:aN Tryz.prog 86 E2:=A4O fun a b r h hb=>by
 cases h
 unfold ACU f8 f7 d7 d3
 refine AZQ (r:=aA) (R:=fun y=>y=Sh.enc HV (w9 a b)) hb.1.1 _ (fun x y=>?_) rfl
 simp only[Bool.and_true,Bool.and_eq_true,decide_eq_true_eq,Prod.ext_iff]
theorem AT1 {r:Sy} {l m:List r.den} (hlen:l.length=m.length) (hl:l.length≤2 ^ 47) (test:r.den→r.den→Bool) (ht:∀ x y,test x y=true↔x=y) {N Y:Prop} (hY:l=m→Y) (hN:¬ l=m→N) :
  a7 (Int×PUnit) (fun (X:Int×PUnit→Prop) (s:Int×PUnit)=>aD (decide (s.1<(↑(List.map r.enc l).length:Int))) (aS r (List.map r.enc l) s.1 fun y=>aS r (List.map r.enc m) s.1 fun z=>aD (!(test y z)) N (X (IntKind.i64.wrap (s.1+1),()))) Y) (0,()):=by
 refine bK l.length (fun k s=>s=((k:Int),())∧(l=m↔l.drop k=m.drop k)) ⟨rfl,by simp⟩ ?_
 rintro X k s hk ⟨rfl,he⟩ hX
 dsimp only
 by_cases hlt:k<l.length
 ·have hlt2:k<m.length:=by omega
  refine gO (by simp[hlt]) ?_
  rw[bD hlt,bD hlt2]
  rw[List.drop_eq_getElem_cons hlt,List.drop_eq_getElem_cons hlt2,List.cons.injEq] at he
  refine jO (fun h=>hN fun e=>?_) fun h=>?_
  ·rw[(ht _ _).2 (he.1 e).1] at h;cases h
  ·have h1:=(ht _ _).1 h
   refine hX _ hlt ⟨by rw[show IntKind.i64.wrap ((k:Int)+1)=((k+1:Nat):Int) from bB _ (by omega) (by omega)],?_⟩
   rw[he];exact ⟨fun h=>h.2,fun h=>⟨h1,h⟩⟩
 ·have:k=l.length:=by omega
  subst this
  refine jP (by simp) ?_
  exact hY (he.2 (by rw[List.drop_length,hlen,List.drop_length]))
theorem A9M {α β:Type} {f:α→β} {l m:List α} (h:decide ((↑(List.map f l).length:Int)=(↑(List.map f m).length:Int))=true):l.length=m.length:=by simp at h;omega
theorem SH {r:Sy} {l m:List r.den} (hl:l.length≤2 ^ 47) (test:r.den→r.den→Bool) (ht:∀ x y,test x y=true↔x=y) {N Y:Prop} (hY:l=m→Y) (hN:¬ l=m→N) :
  aD (!decide ((↑(List.map r.enc l).length:Int)=(↑(List.map r.enc m).length:Int))) N (a7 (Int×PUnit) (fun (X:Int×PUnit→Prop) (s:Int×PUnit)=>aD (decide (s.1<(↑(List.map r.enc l).length:Int))) (aS r (List.map r.enc l) s.1 fun y=>aS r (List.map r.enc m) s.1 fun z=>aD (!(test y z)) N (X (IntKind.i64.wrap (s.1+1),()))) Y) (0,())) :=
 jO (fun h=>hN fun e=>by simp[e] at h) fun h=>AT1 (A9M h) hl test ht hY hN
noncomputable def ABE:Env:=Env.of [(86,.pure E2)]
def ACY:FuncId→Hint:=bV 87 [(4,.inv [.val 17 false (.int .i64)])] (fun _=>aX)
theorem RG:aQ Tryz.prog ABE:=.cons A3G (.nil _)
def d4:Sh:=[(false,Sy.bool)]
def zP(a0:a8)(a1:a8)(R:T→Prop):Prop:=aD (!decide (a0.1=a1.1)) (R d3) (aD (!decide (a0.2.1=a1.2.1)) (R d3) (aD (!decide (a0.2.2.1=a1.2.2.1)) (R d3) (aD (!decide (a0.2.2.2.1=a1.2.2.2.1)) (R d3) (aD (!decide (a0.2.2.2.2.1=a1.2.2.2.2.1)) (R d3) (aD (!decide (a0.2.2.2.2.2.1=a1.2.2.2.2.2.1)) (R d3) (aD (!decide (a0.2.2.2.2.2.2.2.1=a1.2.2.2.2.2.2.2.1)) (R d3) (aD (!decide (a0.2.2.2.2.2.2.2.2.1=a1.2.2.2.2.2.2.2.2.1)) (R d3) (aD (!decide (a0.2.2.2.2.2.2.2.2.2.1=a1.2.2.2.2.2.2.2.2.2.1)) (R d3) (aD (!(decide (a0.2.2.2.2.2.2.2.2.2.2.1.1 = a1.2.2.2.2.2.2.2.2.2.2.1.1) && (decide (a0.2.2.2.2.2.2.2.2.2.2.1.2.1 = a1.2.2.2.2.2.2.2.2.2.2.1.2.1) && (decide (a0.2.2.2.2.2.2.2.2.2.2.1.2.2 = a1.2.2.2.2.2.2.2.2.2.2.1.2.2) && true)))) (R d3) (aD (!(decide (a0.2.2.2.2.2.2.2.2.2.2.2.1.1 = a1.2.2.2.2.2.2.2.2.2.2.2.1.1) && (decide (a0.2.2.2.2.2.2.2.2.2.2.2.1.2.1 = a1.2.2.2.2.2.2.2.2.2.2.2.1.2.1) && (decide (a0.2.2.2.2.2.2.2.2.2.2.2.1.2.2 = a1.2.2.2.2.2.2.2.2.2.2.2.1.2.2) && true)) && (decide (a0.2.2.2.2.2.2.2.2.2.2.2.2 = a1.2.2.2.2.2.2.2.2.2.2.2.2) && true))) (R d3) (aI d4 (E2 [T.sl false (BE7 a0), T.sl false (BE7 a1)]) fun (y0:Bool)=>aD y0 (aD (!decide ((↑(m8 a0).length:Int) = (↑(m8 a1).length:Int))) (R d3) (a7 (Int×PUnit) (fun X1 s2=>aD (decide (s2.1 < (↑(m8 a0).length : Int))) (aS aA.li (m8 a0) s2.1 fun (y3:List aO)=>aS aA.li (m8 a1) s2.1 fun (y4:List aO)=>aI d4 (E2 [T.sl false (f8 y3), T.sl false (f8 y4)]) fun (y5:Bool)=>aD (!y5) (R d3) (f7 X1 s2)) (R d7)) (0,()))) (R d3))))))))))))
abbrev AS:Sh:=[(true,aK),(true,aK)]
noncomputable def pD:List T→Option T:=gS AS qW
theorem OA {a0 a1}:pD [aF true aK a0,aF true aK a1]=qW (a0,a1):=bC (s:=AS) rfl (a0,a1) rfl
theorem Z7:yL Tryz.prog 43 pD qW (b9 AS) zP:=jZ (a1:=(true,aK)) (a2:=(true,aK)) (sp:=qW) (F:=zP) (Hs:=ACY) (f:=43) (k:=8) RG aR aU (aL rfl) ⟨_,_,Tryz.func43,rfl⟩ rfl fun _ _ _=>by kernel_rfl
theorem XC:aN Tryz.prog 43 pD:=Z7 fun a b r h hb=>by
 cases h
 have no:¬ a=b→T.v (.bool false)=Sh.enc HV (w9 a b):=fun h=>by rw[KU h];rfl
 have yes:a=b→T.v (.bool true)=Sh.enc HV (w9 a b):=fun h=>by rw[oC.2 h];rfl
 have hl:a.2.2.2.2.2.2.1.2.length≤2 ^ 47:=hb.1.2.2.2.2.2.2.1.2.1
 unfold zP BE7 m8 f8 f7 d7 d4 d3
 have u:=@AM9
 simp only[u,DS,AYL]
 refine jO (fun h=>no fun e=>by simp[e] at h) fun h1=>?_
 refine jO (fun h=>no fun e=>by simp[e] at h) fun h2=>?_
 refine jO (fun h=>no fun e=>by simp[e] at h) fun h3=>?_
 refine jO (fun h=>no fun e=>by simp[e] at h) fun h4=>?_
 refine jO (fun h=>no fun e=>by simp[e] at h) fun h5=>?_
 refine jO (fun h=>no fun e=>by simp[e] at h) fun h6=>?_
 refine jO (fun h=>no fun e=>by simp[e] at h) fun h7=>?_
 refine jO (fun h=>no fun e=>by simp[e] at h) fun h8=>?_
 refine jO (fun h=>no fun e=>by simp[e] at h) fun h9=>?_
 refine jO (fun h=>no fun e=>by simp[e] at h) fun h10=>?_
 refine jO (fun h=>no fun e=>by simp[e] at h) fun h11=>?_
 refine pG (fun h12=>?_) (fun h=>no fun e=>by simp[e] at h)
 refine SH (r:=.li aA) hl _ (fun x y=>oC) (fun h13=>yes ?_) (fun h=>no fun e=>h (by rw[e]))
 simp only[Bool.and_true,Bool.and_eq_true,decide_eq_true_eq,oC] at h1 h2 h3 h4 h5 h6 h7 h8 h9 h10 h11 h12
 simp only[Prod.ext_iff]
 exact ⟨h1,h2,h3,h4,h5,h6,⟨h12,h13⟩,h7,h8,h9,h10,h11⟩
end Go.Pv
namespace Go.Pv
open Go Go.Proofs
theorem eJ {r:Sy} (hr:r.pure=true) {l:List r.den} {rows:List (List T)} {K:List r.den→Prop} (e:rows=List.map r.enc l) (h:K l):bL r rows K:=by subst e;rw[dZ hr];exact h
theorem vE {r:Sy} {l:List r.den} {z b:Nat} (hz:r.w=z) (h:eB b l.length=true):(((List.map r.enc l).all fun q=>decide (q.length=z))&&decide ((List.map r.enc l).length*b≤140737488355328)&&decide ((List.map r.enc l).length≤140737488355328))=true:=by
 unfold eB at h
 rw[Bool.and_eq_true] at h
 rw[List.length_map,h.1,h.2,Bool.and_true,Bool.and_true]
 subst hz
 refine List.all_eq_true.2 fun q hq=>?_
 obtain ⟨x,_,rfl⟩:=List.mem_map.1 hq
 exact decide_eq_true (Sy.cP r x)
def iE (p:a8):Option T:=match eK p with
 | true=>some (Sh.enc [(true,aK)] p)
 | false=>none
noncomputable def AJZ:Env:=Env.of [(111,.pure eU),(157,.dup 1 24)]
def AK0:FuncId→Hint:=bV 160 [(4,.inv [.val 21 false (.int .i64),.arr 3 1 (.li aA)])] (fun _=>aX)
theorem VC:aQ Tryz.prog AJZ:=.cons sZ (aQ.cons (x:=.dup 1 24) AML (.nil _))
def D3(a0:a8)(R:T→Prop):Prop:=aI eI (eU [T.sl false (BE7 a0)]) fun (y0:List aO)=>bN (((m8 a0).all fun (r:List T)=>decide (r.length=1)) && decide ((m8 a0).length*24≤140737488355328) && decide ((m8 a0).length≤140737488355328)) (bL aA.li (m8 a0) fun (y1:List (List aO))=>a7 (Int×List (List aO)×PUnit) (fun X2 s3=>aD (decide (s3.1<(↑(m8 a0).length:Int))) (aS aA.li (GT s3) s3.1 fun (y4:List aO)=>gZ aA.li (GT s3) (Int.toNat s3.1) 0 fun (y5:List aO)=>aI eI (eU (BE0 y5)) fun (y6:List aO)=>aS aA.li (GT s3) s3.1 fun (y7:List aO)=>DE (GT s3) (Int.toNat s3.1) fun (y8:List T)=>bN (decide (1≤y8.length)) (bL aA.li ((GT s3).set (Int.toNat s3.1) (bO y8 0 (BE0 y6))) fun (y9:List (List aO))=>X2 (IntKind.i64.wrap (s3.1+1),y9,()))) (R (T.agg [T.v (.string a0.1),T.v (.int .i64 a0.2.1), T.v (.int .i64 a0.2.2.1), T.v (.string a0.2.2.2.1),T.v (.string a0.2.2.2.2.1), T.v (.int .i64 a0.2.2.2.2.2.1), T.sl false (f8 y0), T.sl false (GT s3), T.v (.string a0.2.2.2.2.2.2.2.1), T.v (.int .i64 a0.2.2.2.2.2.2.2.2.1), T.v (.int .i64 a0.2.2.2.2.2.2.2.2.2.1), T.v (.int .i64 a0.2.2.2.2.2.2.2.2.2.2.1.1), T.v (.int .i64 a0.2.2.2.2.2.2.2.2.2.2.1.2.1), T.v (.int .i64 a0.2.2.2.2.2.2.2.2.2.2.1.2.2), T.v (.int .i64 a0.2.2.2.2.2.2.2.2.2.2.2.1.1), T.v (.int .i64 a0.2.2.2.2.2.2.2.2.2.2.2.1.2.1), T.v (.int .i64 a0.2.2.2.2.2.2.2.2.2.2.2.1.2.2), T.v (.int .i64 a0.2.2.2.2.2.2.2.2.2.2.2.2)]))) (0,y1,()))
abbrev F0:Sh:=[(true,aK)]
noncomputable def gM:List T→Option T:=gS F0 iE
theorem tD {a0}:gM [aF true aK a0]=iE (a0):=bC (s:=F0) rfl (a0) rfl
theorem AFE:rM Tryz.prog 160 gM iE (b9 F0) D3:=gQ (a1:=(true,aK)) (sp:=iE) (F:=D3) (Hs:=AK0) (f:=160) (k:=8) VC aR aU (aL rfl) ⟨_,_,Tryz.func160,rfl⟩ rfl fun _ _=>by kernel_rfl
theorem s0:aN Tryz.prog 160 gM:=AFE fun p r h hb=>by
 clear hb
 have hp:eK p=true:=by
  unfold iE at h
  split at h
  ·assumption
  ·cases h
 have e:Sh.enc [(true,aK)] p=r:=by
  unfold iE at h
  rw[hp] at h
  exact Option.some.inj h
 subst e
 clear h
 unfold eK IA at hp
 simp only[Bool.and_eq_true] at hp
 obtain ⟨⟨hp1,hp2⟩,hp3⟩:=hp
 have hb47:p.2.2.2.2.2.2.1.2.length≤140737488355328:=by
  simp only[eB,Bool.and_eq_true,decide_eq_true_eq] at hp2;exact hp2.2
 unfold D3 BE7 BE0 GT m8 f8 eI
 refine aG (s:=[(false,aA.li)]) (y:=p.2.2.2.2.2.2.1.1) (by rw[jL,cO,gE hp1];rfl) ?_
 refine ⟨vE (r:=.li aA) rfl hp2,?_⟩
 obtain ⟨p1,p2,p3,p4,p5,p6,⟨o,hh⟩,p7⟩:=p
 dsimp only at hp1 hp2 hp3 hb47 ⊢
 rw[dZ (r:=.li aA) rfl]
 refine bK hh.length (fun k s=>s=((k:Int),hh,())) rfl ?_
 rintro X k s hk rfl hX
 dsimp only
 refine bZ (fun hlt=>?_) fun hge=>rfl
 rw[List.length_map] at hlt
 have hlt:k<hh.length:=by omega
 have hok:eB 16 hh[k].length=true:=List.all_eq_true.1 hp3 _ (List.getElem_mem hlt)
 rw[bD (r:=.li aA) hlt,show Int.toNat (k:Int)=k from rfl,iL (r:=.li aA) hlt]
 refine aG (s:=[(false,aA.li)]) (y:=hh[k]) (by rw[jL,cO,gE hok];rfl) ?_
 rw[bD (r:=.li aA) hlt,oK (r:=.li aA) hlt]
 refine ⟨rfl,?_⟩
 have e:bO (Sy.enc (.li aA) hh[k]) 0 [T.sl false (List.map aA.enc hh[k])]=Sy.enc (.li aA) hh[k]:=rfl
 rw[e,DG (r:=.li aA) hlt,dZ (r:=.li aA) rfl]
 refine hX _ hlt ?_
 simp only[Prod.mk.injEq,and_true]
 exact bB _ (by omega) (by omega)
def jI (p:aW):Option T:=match dY p with
 | true=>some (Sh.enc [(true,aE)] p)
 | false=>none
noncomputable def AJY:Env:=Env.of [(113,.pure fI)]
def AKZ:FuncId→Hint:=fun _=>aX
theorem VB:aQ Tryz.prog AJY:=.cons vL (.nil _)
def D2(a0:aW)(R:T→Prop):Prop:=aI d9 (fI [T.sl false (List.map Sy.str.enc a0.2.2.1)]) fun (y0:List ByteArray)=>aI d9 (fI [T.sl false (List.map Sy.str.enc a0.2.2.2.2)]) fun (y1:List ByteArray)=>R (T.agg [T.v (.string a0.1),T.v (.string a0.2.1), T.sl false (FS y0),T.v (.int .i64 a0.2.2.2.1), T.sl false (FS y1)])
abbrev FZ:Sh:=[(true,aE)]
noncomputable def mJ:List T→Option T:=gS FZ jI
theorem BS {a0}:mJ [aF true aE a0]=jI (a0):=bC (s:=FZ) rfl (a0) rfl
theorem AFD:rM Tryz.prog 161 mJ jI (b9 FZ) D2:=gQ (a1:=(true,aE)) (sp:=jI) (F:=D2) (Hs:=AKZ) (f:=161) (k:=8) VB aR aU (aL rfl) ⟨_,_,Tryz.func161,rfl⟩ rfl fun _ _=>by kernel_rfl
theorem K4:aN Tryz.prog 161 mJ:=AFD fun p r h hb=>by
 clear hb
 have hp:dY p=true:=by
  unfold jI at h
  split at h
  ·assumption
  ·cases h
 have e:Sh.enc [(true,aE)] p=r:=by
  unfold jI at h
  rw[hp] at h
  exact Option.some.inj h
 subst e
 clear h
 unfold dY at hp
 rw[Bool.and_eq_true] at hp
 unfold D2 FS d9
 refine aG (s:=[(false,.li .str)]) (y:=p.2.2.1) (by rw[iR,cO,gE hp.1];rfl) ?_
 refine aG (s:=[(false,.li .str)]) (y:=p.2.2.2.2) (by rw[iR,cO,gE hp.2];rfl) ?_
 rfl
theorem QU {α:Type}:∀ (xs pre:List α),bO (pre++xs) pre.length xs=pre++xs
 | [],pre=>rfl
 | x::xs,pre=>by
  unfold bO
  rw[show (pre++x::xs).set pre.length x=(pre++[x])++xs by simp,show pre.length+1=(pre++[x]).length by simp,QU xs (pre++[x])]
  simp
theorem HL {α:Type} (r:List α):bO r 0 r=r:=QU r []
def pU (d:aB):Bool:=(QE d&&OE d)&&((decide (d.2.1.length≤1000)&&decide (d.2.2.1.length≤1000))&&(decide (d.2.2.2.1.length≤1000)&&(decide (d.2.2.2.2.1.length≤1000)&&decide (d.2.2.2.2.2.length≤1000))))
structure OkC (d:aB):Prop where
 QE:QE d=true
 OE:OE d=true
 n:d.2.1.length≤1000
 p:d.2.2.1.length≤1000
 s:d.2.2.2.1.length≤1000
 k:d.2.2.2.2.1.length≤1000
 r:d.2.2.2.2.2.length≤1000
theorem eV {d:aB} (h:pU d=true):OkC d:=by
 simp only[pU,Bool.and_eq_true,decide_eq_true_eq] at h
 exact ⟨h.1.1,h.1.2,h.2.1.1,h.2.1.2,h.2.2.1,h.2.2.2.1,h.2.2.2.2⟩
theorem dE {b n:Nat} (hn:n≤1000) (hb:b≤1000):eB b n=true:=by
 have:=Nat.mul_le_mul hn hb
 unfold eB
 rw[decide_eq_true (by omega),decide_eq_true (by omega)];rfl
def qT (d:aB):Option T:=match pU d with
 | true=>some (Sh.enc [(true,aC)] d)
 | false=>none
noncomputable def ABB:Env:=Env.of [(69,.dup 3 40),(70,.dup 6 72),(71,.dup 3 40),(158,.dup 18 208),(159,.dup 5 88),(160,.pure gM),(161,.pure mJ)]
def ACW:FuncId→Hint:=bV 120 [(4,.inv [.val 28 false (.int .i64),.arr 30 18 aK]),(9,.inv [.val 45 false (.int .i64),.arr 31 5 aE])] (fun _=>aX)
theorem VA:aQ Tryz.prog ABB:=aQ.cons (x:=.dup 3 40) zY (aQ.cons (x:=.dup 6 72) z6 (aQ.cons (x:=.dup 3 40) zX (aQ.cons (x:=.dup 18 208) zZ (aQ.cons (x:=.dup 5 88) mT (.cons s0 (.cons K4 (.nil _)))))))
def JA (a0:aB) (R:T→Prop):Prop :=
 bN
 (((List.map aV.enc a0.2.1).all fun (r:List T)=>decide (r.length=3)) &&
 decide ((List.map aV.enc a0.2.1).length*40≤140737488355328) &&
 decide ((List.map aV.enc a0.2.1).length≤140737488355328))
 (bN
 (((List.map aY.enc a0.2.2.2.1).all fun (r:List T)=>decide (r.length=6)) &&
 decide ((List.map aY.enc a0.2.2.2.1).length*72≤140737488355328) &&
 decide ((List.map aY.enc a0.2.2.2.1).length≤140737488355328))
 (bN
 (((List.map aP.enc a0.2.2.2.2.2).all fun (r:List T)=>decide (r.length=3)) &&
 decide ((List.map aP.enc a0.2.2.2.2.2).length*40≤140737488355328) &&
 decide ((List.map aP.enc a0.2.2.2.2.2).length≤140737488355328))
 (bN
 (((List.map aK.enc a0.2.2.1).all fun (r:List T)=>decide (r.length=18)) &&
 decide ((List.map aK.enc a0.2.2.1).length*208≤140737488355328) &&
 decide ((List.map aK.enc a0.2.2.1).length≤140737488355328))
 (bN
 (((List.map aE.enc a0.2.2.2.2.1).all fun (r:List T)=>decide (r.length=5)) &&
 decide ((List.map aE.enc a0.2.2.2.2.1).length*88≤140737488355328) &&
 decide ((List.map aE.enc a0.2.2.2.2.1).length≤140737488355328))
 (bL aK (List.map aK.enc a0.2.2.1) fun (y0:List a8) =>
 a7 (Int×List a8×PUnit)
 (fun (X1:Int×List a8×PUnit→Prop) (s2:Int×List a8×PUnit) =>
 aD (decide (s2.1<(↑(List.map aK.enc a0.2.2.1).length:Int)))
 (aS aK (List.map aK.enc s2.2.1) s2.1 fun (y3:a8) =>
 gZ aK (List.map aK.enc s2.2.1) (Int.toNat s2.1) 0
 fun (y4:a8) =>
 aI [(true,aK)] (gM [aF true aK y4])
 fun (y5:a8) =>
 aS aK (List.map aK.enc s2.2.1) s2.1 fun (y6:a8) =>
 DE (List.map aK.enc s2.2.1) (Int.toNat s2.1) fun (y7:List T) =>
 bN (decide (18≤y7.length))
 (bL aK
 ((List.map aK.enc s2.2.1).set (Int.toNat s2.1)
 (bO y7 0
 (aK.enc y5)))
 fun (y8:List a8)=>X1 (IntKind.i64.wrap (s2.1+1),y8,())))
 (bL aE (List.map aE.enc a0.2.2.2.2.1)
 fun (y9:List aW) =>
 a7 (Int×List aW×PUnit)
 (fun (X10:Int×List aW×PUnit→Prop) (s11:Int×List aW×PUnit) =>
 aD
 (decide (s11.1<(↑(List.map aE.enc a0.2.2.2.2.1).length:Int)))
 (aS aE (List.map aE.enc s11.2.1) s11.1
 fun (y12:aW) =>
 gZ aE (List.map aE.enc s11.2.1) (Int.toNat s11.1) 0
 fun (y13:aW) =>
 aI [(true,aE)]
 (mJ [aF true aE y13]) fun (y14:aW) =>
 aS aE (List.map aE.enc s11.2.1) s11.1
 fun (y15:aW) =>
 DE (List.map aE.enc s11.2.1) (Int.toNat s11.1)
 fun (y16:List T) =>
 bN (decide (5≤y16.length))
 (bL aE
 ((List.map aE.enc s11.2.1).set (Int.toNat s11.1)
 (bO y16 0
 [T.v (.string y14.1),
 T.v (.string y14.2.1),
 T.sl false (List.map Sy.str.enc y14.2.2.1),
 T.v (.int .i64 y14.2.2.2.1),
 T.sl false (List.map Sy.str.enc y14.2.2.2.2)]))
 fun (y17:List aW) =>
 X10 (IntKind.i64.wrap (s11.1+1),y17,())))
 (R
 ((aF true aC (a0.1,a0.2.1,s2.2.1,a0.2.2.2.1,s11.2.1,a0.2.2.2.2.2)))))
 (0,y9,())))
 (0,y0,()))))))
abbrev ML:Sh:=[(true,aC)]
noncomputable def dU:List T→Option T:=gS ML qT
theorem rT {a0}:dU [aF true aC a0]=qT (a0):=bC (s:=ML) rfl (a0) rfl
theorem A4D:rM Tryz.prog 120 dU qT (b9 ML) JA:=gQ (a1:=(true,aC)) (sp:=qT) (F:=JA) (Hs:=ACW) (f:=120) (k:=8) VA aR aU (aL rfl) ⟨_,_,Tryz.func120,rfl⟩ rfl fun _ _=>by kernel_rfl
theorem AT3 {d:aB} (hp:pU d=true):JA d (fun y=>y=Sh.enc [(true,aC)] d):=by
 have c:=eV hp
 unfold JA
 refine ⟨vE (r:=aV) rfl (dE c.n (by decide)),⟨vE (r:=aY) rfl (dE c.s (by decide)),⟨vE (r:=aP) rfl (dE c.r (by decide)),⟨vE (r:=aK) rfl (dE c.p (by decide)),⟨vE (r:=aE) rfl (dE c.k (by decide)),?_⟩⟩⟩⟩⟩
 rw[dZ (r:=aK) rfl]
 have hpn:=c.p
 have hkn:=c.k
 refine bK d.2.2.1.length (fun k s=>s=((k:Int),d.2.2.1,())) rfl ?_
 rintro X k s hk rfl hX
 dsimp only
 refine bZ (fun hlt=>?_) fun hge=>?_
 ·rw[List.length_map] at hlt
  have hlt:k<d.2.2.1.length:=by omega
  have hok:eK d.2.2.1[k]=true:=List.all_eq_true.1 c.QE _ (List.getElem_mem hlt)
  rw[bD (r:=aK) hlt,show Int.toNat (k:Int)=k from rfl,iL (r:=aK) hlt]
  refine aG (s:=[(true,aK)]) (y:=d.2.2.1[k]) ((tD ..).trans (by unfold iE;rw[hok])) ?_
  rw[bD (r:=aK) hlt,oK (r:=aK) hlt]
  refine ⟨by rw[Sy.cP];rfl,?_⟩
  have h1:(List.map aK.enc d.2.2.1).set k (bO (Sy.enc aK d.2.2.1[k]) 0 (Sy.enc aK d.2.2.1[k]))=List.map aK.enc d.2.2.1:=by rw[HL];exact DG (r:=aK) hlt
  refine (eJ (r:=aK) rfl h1 ?_)
  refine hX _ hlt ?_
  simp only[Prod.mk.injEq,and_true]
  exact bB _ (by omega) (by omega)
 ·rw[dZ (r:=aE) rfl]
  refine bK d.2.2.2.2.1.length (fun k s=>s=((k:Int),d.2.2.2.2.1,())) rfl ?_
  rintro Y j s hj rfl hY
  dsimp only
  refine bZ (fun hlt=>?_) fun hge=>rfl
  rw[List.length_map] at hlt
  have hlt:j<d.2.2.2.2.1.length:=by omega
  have hok:dY d.2.2.2.2.1[j]=true:=List.all_eq_true.1 c.OE _ (List.getElem_mem hlt)
  rw[bD (r:=aE) hlt,show Int.toNat (j:Int)=j from rfl,iL (r:=aE) hlt]
  refine aG (s:=[(true,aE)]) (y:=d.2.2.2.2.1[j]) ((BS ..).trans (by unfold jI;rw[hok])) ?_
  rw[bD (r:=aE) hlt,oK (r:=aE) hlt]
  refine ⟨by rw[Sy.cP];rfl,?_⟩
  have h1:(List.map aE.enc d.2.2.2.2.1).set j (bO (Sy.enc aE d.2.2.2.2.1[j]) 0 (Sy.enc aE d.2.2.2.2.1[j]))=List.map aE.enc d.2.2.2.2.1:=by rw[HL];exact DG (r:=aE) hlt
  refine (eJ (r:=aE) rfl h1 ?_)
  refine hY _ hlt ?_
  simp only[Prod.mk.injEq,and_true]
  exact bB _ (by omega) (by omega)
theorem mS:aN Tryz.prog 120 dU:=A4D fun d r h hb=>by
 clear hb
 have hp:pU d=true:=by
  unfold qT at h
  split at h
  ·assumption
  ·cases h
 have e:Sh.enc [(true,aC)] d=r:=by
  unfold qT at h
  rw[hp] at h
  exact Option.some.inj h
 subst e
 exact AT3 hp
noncomputable def DR (x:aZ×aZ):Option T:=some (Sh.enc HV (w9 x.1 x.2))
noncomputable def A0M:Env:=Env.of [(43,.pure pD)]
def A12:FuncId→Hint:=bV 50 [(4,.inv [.val 13 false (.int .i64)])] (fun _=>aX)
theorem AKP:aQ Tryz.prog A0M:=.cons XC (.nil _)
def NE(a0:aZ):List (List T):=List.map Sy.str.enc a0.2.2.2.2.2.2.1.2.2.2.2
def RK(a0:aZ):List (List T):=List.map Sy.str.enc a0.2.2.2.2.2.2.1.2.2.1
def RX(a0:aZ)(a1:aZ)(R:T→Prop):Prop:=aD (decide (a0.1=a1.1)) (aD (decide (a0.2.1=a1.2.1)) (aD (decide (a0.2.2.1=a1.2.2.1)) (aD (decide (a0.2.2.2.1.1=a1.2.2.2.1.1) && (decide (a0.2.2.2.1.2.1=a1.2.2.2.1.2.1) && (decide (a0.2.2.2.1.2.2=a1.2.2.2.1.2.2)&&true))) (aI d4 (pD [aF true aK a0.2.2.2.2.1,aF true aK a1.2.2.2.2.1]) fun (y0:Bool)=>aD y0 (aD (decide (a0.2.2.2.2.2.1.1=a1.2.2.2.2.2.1.1) && (decide (a0.2.2.2.2.2.1.2.1=a1.2.2.2.2.2.1.2.1) && (decide (a0.2.2.2.2.2.1.2.2.1=a1.2.2.2.2.2.1.2.2.1) && (decide (a0.2.2.2.2.2.1.2.2.2.1=a1.2.2.2.2.2.1.2.2.2.1) && (decide (a0.2.2.2.2.2.1.2.2.2.2.1 = a1.2.2.2.2.2.1.2.2.2.2.1) && (decide (a0.2.2.2.2.2.1.2.2.2.2.2 = a1.2.2.2.2.2.1.2.2.2.2.2) && true)))))) (aD (decide (a0.2.2.2.2.2.2.2.1=a1.2.2.2.2.2.2.2.1) && (decide (a0.2.2.2.2.2.2.2.2.1=a1.2.2.2.2.2.2.2.2.1) && (decide (a0.2.2.2.2.2.2.2.2.2=a1.2.2.2.2.2.2.2.2.2)&&true))) (aD (decide (a0.2.2.2.2.2.2.1.1=a1.2.2.2.2.2.2.1.1)) (aD (decide (a0.2.2.2.2.2.2.1.2.1=a1.2.2.2.2.2.2.1.2.1)) (aD (decide (a0.2.2.2.2.2.2.1.2.2.2.1 = a1.2.2.2.2.2.2.1.2.2.2.1)) (aD (!decide ((↑(RK a0).length:Int) = (↑(RK a1).length:Int))) (R d3) (a7 (Int×PUnit) (fun X1 s2=>aD (decide (s2.1 < (↑(RK a0).length : Int))) (aS Sy.str (RK a0) s2.1 fun (y3:ByteArray)=>aS Sy.str (RK a1) s2.1 fun (y4:ByteArray)=>aD (!decide (y3=y4)) (R d3) (f7 X1 s2)) (aD (!decide ((↑(NE a0).length : Int) = (↑(NE a1).length : Int))) (R d3) (a7 (Int×PUnit) (fun X5 s6=>aD (decide (s6.1 < (↑(NE a0).length : Int))) (aS Sy.str (NE a0) s6.1 fun (y7:ByteArray)=>aS Sy.str (NE a1) s6.1 fun (y8:ByteArray)=>aD (!decide (y7=y8)) (R d3) (f7 X5 s6)) (R d7)) (0,())))) (0,()))) (R d3)) (R d3)) (R d3)) (R d3)) (R d3)) (R d3)) (R d3)) (R d3)) (R d3)) (R d3)
abbrev T6:Sh:=[(true,aM),(true,aM)]
noncomputable def cJ:List T→Option T:=gS T6 DR
theorem pE {a0 a1}:cJ [aF true aM a0,aF true aM a1]=DR (a0,a1):=bC (s:=T6) rfl (a0,a1) rfl
theorem AX7:yL Tryz.prog 118 cJ DR (b9 T6) RX:=jZ (a1:=(true,aM)) (a2:=(true,aM)) (sp:=DR) (F:=RX) (Hs:=A12) (f:=118) (k:=8) AKP aR aU (aL rfl) ⟨_,_,Tryz.func118,rfl⟩ rfl fun _ _ _=>by kernel_rfl
theorem iJ:aN Tryz.prog 118 cJ:=AX7 fun a b r h hb=>by
 cases h
 have no:¬ a=b→T.v (.bool false)=Sh.enc HV (w9 a b):=fun h=>by rw[KU h];rfl
 have yes:a=b→T.v (.bool true)=Sh.enc HV (w9 a b):=fun h=>by rw[oC.2 h];rfl
 have hl1:a.2.2.2.2.2.2.1.2.2.1.length≤2 ^ 47:=hb.1.2.2.2.2.2.2.1.2.2.1.1
 have hl2:a.2.2.2.2.2.2.1.2.2.2.2.length≤2 ^ 47:=hb.1.2.2.2.2.2.2.1.2.2.2.2.1
 clear hb
 unfold RX RK NE f7 d7 d4 d3
 refine pG (fun h1=>?_) (fun h=>no fun e=>by simp[e] at h)
 refine pG (fun h2=>?_) (fun h=>no fun e=>by simp[e] at h)
 refine pG (fun h3=>?_) (fun h=>no fun e=>by simp[e] at h)
 refine pG (fun h4=>?_) (fun h=>no fun e=>by simp[e] at h)
 refine aG (s:=HV) (y:=w9 (a.2.2.2.2.1) (b.2.2.2.2.1)) (OA ..) ?_
 refine pG (fun h5=>?_) (fun h=>no fun e=>by simp[e] at h)
 refine pG (fun h6=>?_) (fun h=>no fun e=>by simp[e] at h)
 refine pG (fun h7=>?_) (fun h=>no fun e=>by simp[e] at h)
 refine pG (fun h8=>?_) (fun h=>no fun e=>by simp[e] at h)
 refine pG (fun h9=>?_) (fun h=>no fun e=>by simp[e] at h)
 refine pG (fun h10=>?_) (fun h=>no fun e=>by simp[e] at h)
 refine SH (r:=.str) hl1 (fun y z=>decide (y=z)) (fun x y=>decide_eq_true_iff) (fun h11=>?_) (fun h=>no fun e=>h (by rw[e]))
 refine SH (r:=.str) hl2 (fun y z=>decide (y=z)) (fun x y=>decide_eq_true_iff) (fun h12=>yes ?_) (fun h=>no fun e=>h (by rw[e]))
 simp only[Bool.and_true,Bool.and_eq_true,decide_eq_true_eq,oC] at h1 h2 h3 h4 h5 h6 h7 h8 h9 h10
 simp only[Prod.ext_iff]
 exact ⟨h1,h2,h3,h4,by simpa only [Prod.ext_iff] using h5,h6,⟨h8,h9,h11,h10,h12⟩,h7⟩
end Go.Pv
namespace Go.Pv
open Go Go.Proofs
def TH (l:List ByteArray) (x:ByteArray):Bool:=l.any fun y=>decide (y=x)
theorem C2 {l:List ByteArray} {x:ByteArray}:TH l x=true↔x∈l:=by
 simp only[TH,List.any_eq_true,decide_eq_true_eq]
 exact ⟨fun ⟨y,h,e⟩=>e ▸ h,fun h=>⟨x,h,rfl⟩⟩
def Sy.tl:Sy→Sy
 | .pr _ b=>b
 | x=>x
def FA:List ByteArray→Nat→List (ByteArray×Int)→List (ByteArray×Int)
 | [],_,es=>es
 | a::l,i,es=>FA l (i+1) (match e6 es a with
  | none=>uS es a (i:Int)
  | some _=>es)
def gX (l:List ByteArray):List (ByteArray×Int):=FA l 0 []
def ids {α:Type} (l:List (ByteArray×α)):List ByteArray:=l.map fun x=>x.1
def pK {α β:Type} (l:List α) (r:β):Option β:=match decide (l.length≤140737488355328) with
 | true=>some r
 | false=>none
theorem jE {α β:Type} {l:List α} {t r:β} (h:pK l t=some r):l.length≤140737488355328∧r=t:=by
 unfold pK at h;split at h
 ·rename_i hc
  cases h;exact ⟨of_decide_eq_true hc,rfl⟩
 ·cases h
theorem jF {α β:Type} {l:List α} (t:β) (h:l.length≤140737488355328):pK l t=some t:=by unfold pK;rw[decide_eq_true h]
theorem A2V (es:List (ByteArray×Int)):List.map (fun (e:Value×D)=>(e.1,UY e.2)) (List.map (cN Sy.str false (Sy.int IntKind.i64)) es)=bI es:=by
 rw[List.map_map];rfl
theorem H9 {r:Sy} {l:List (ByteArray×r.den)} (hl:l.length≤140737488355328) :
 dN Sy.str false (Sy.int IntKind.i64) [] fun (y0:List (ByteArray×Int)) =>
 a7 (List (ByteArray×Int)×Int×PUnit)
  (fun (X1:List (ByteArray×Int)×Int×PUnit→Prop) (s2:List (ByteArray×Int)×Int×PUnit) =>
   aD (decide (s2.2.1<(↑l.length:Int)))
    (aS (.pr .str r) (List.map (Sy.pr .str r).enc l) s2.2.1 fun (y3:ByteArray×r.den) =>
     gH TypeDesc.string (Value.string y3.1)
      (List.map (cN Sy.str false (Sy.int IntKind.i64)) s2.1) false
      (Sy.int IntKind.i64)
      (aS (.pr .str r) (List.map (Sy.pr .str r).enc l) s2.2.1 fun (y7:ByteArray×r.den) =>
       nV (Option (Nat×D))
        (findD TypeDesc.string (Value.string y7.1)
         (List.map (cN Sy.str false (Sy.int IntKind.i64)) s2.1) 0)
        fun (y8:Option (Nat×D)) =>
        dN Sy.str false (Sy.int IntKind.i64)
         (eZ (List.map (cN Sy.str false (Sy.int IntKind.i64)) s2.1) y8
          (Value.string y7.1) (D.p (T.v (.int .i64 s2.2.1))))
         fun (y9:List (ByteArray×Int))=>X1 (y9,IntKind.i64.wrap (s2.2.1+1),()))
      fun (i4:Nat) (y5:Int) =>
      dN Sy.str false (Sy.int IntKind.i64)
       (List.map (cN Sy.str false (Sy.int IntKind.i64)) s2.1)
       fun (y6:List (ByteArray×Int))=>X1 (y6,IntKind.i64.wrap (s2.2.1+1),()))
    (bN
     ((List.map (cN Sy.str false (Sy.int IntKind.i64)) s2.1).all
      fun (e:Value×D)=>ANK e.2)
     ((fun y=>y=T.mp (bI (gX (ids l))))
      (T.mp
       (List.map (fun (e:Value×D)=>(e.1,UY e.2))
        (List.map (cN Sy.str false (Sy.int IntKind.i64)) s2.1))))))
  (y0,0,()):=by
 refine nA (r:=.int .i64) rfl [] _ ?_
 refine bK l.length (fun k s=>∃ es,s=(es,(k:Int),())∧FA (ids (l.drop k)) k es=gX (ids l)) ⟨[],rfl,rfl⟩ ?_
 rintro X k s hk ⟨es,rfl,hes⟩ hX
 dsimp only
 have hw:IntKind.i64.wrap ((k:Int)+1)=((k+1:Nat):Int):=bB _ (by omega) (by omega)
 by_cases hlt:k<l.length
 ·refine gO (by omega) ?_
  rw[bD (r:=.pr .str r) hlt]
  have hd:ids (l.drop k)=l[k].1::ids (l.drop (k+1)):=by rw[List.drop_eq_getElem_cons hlt];rfl
  rw[hd] at hes
  simp only[FA] at hes
  refine BK (r:=.int .i64) (fun hno=>?_) (fun i v hv=>?_)
  ·rw[hno] at hes
   rw[bD (r:=.pr .str r) hlt]
   exact AWX (r:=.int .i64) rfl (v:=(k:Int)) (hX _ hlt ⟨_,by rw[hw],hes⟩)
  ·rw[hv] at hes
   exact nA (r:=.int .i64) rfl es _ (hX _ hlt ⟨_,by rw[hw],hes⟩)
 ·have:k=l.length:=by omega
  subst this
  refine jP (by omega) ?_
  rw[List.drop_length] at hes
  refine ⟨?_,?_⟩
  ·rw[List.all_eq_true]
   intro e he
   obtain ⟨x,_,rfl⟩:=List.mem_map.1 he
   rfl
  ·show T.mp _=_
   rw[A2V]
   rw[←hes]
   rfl
def rI (a0:aB):List T:=[T.v (.int .i64 (a0.2.1.length:Int)),T.fn 96 [] [T.ref [T.ref (aC.enc a0)]]]
noncomputable def APR:Env:=Env.of []
def A5G:FuncId→Hint:=bV 95 [(3,.inv [.map 0 .str false (.int .i64),.val 12 false (.int .i64)])] (fun _=>aX)
theorem A07:aQ Tryz.prog APR:=.nil _
def bF:Sy:=Sy.int IntKind.i64
def i6(s2:List (ByteArray×Int)×Int×PUnit)(R:T→Prop):Prop:=bN ((List.map (cN Sy.str false bF) s2.1).all fun (e:Value×D)=>ANK e.2) (R (T.mp (List.map (fun (e:Value×D)=>(e.1,UY e.2)) (List.map (cN Sy.str false bF) s2.1))))
def t6(s2:List (ByteArray×Int)×Int×PUnit)(X1:List (ByteArray×Int)×Int×PUnit→Prop):Prop:=dN Sy.str false bF (List.map (cN Sy.str false bF) s2.1) fun (y6:List (ByteArray×Int))=>X1 (y6,IntKind.i64.wrap (s2.2.1+1),())
def ARR(a0:aB)(R:T→Prop):Prop:=dN Sy.str false bF [] fun (y0:List (ByteArray×Int))=>a7 (List (ByteArray×Int)×Int×PUnit) (fun X1 s2=>aD (decide (s2.2.1<(↑a0.2.1.length:Int))) (aS aV (t8 a0) s2.2.1 fun (y3:dC)=>gH TypeDesc.string (Value.string y3.1) (List.map (cN Sy.str false bF) s2.1) false bF (aS aV (t8 a0) s2.2.1 fun (y7:dC)=>nV (Option (Nat×D)) (findD TypeDesc.string (Value.string y7.1) (List.map (cN Sy.str false bF) s2.1) 0) fun (y8:Option (Nat×D))=>dN Sy.str false bF (eZ (List.map (cN Sy.str false bF) s2.1) y8 (Value.string y7.1) (D.p (T.v (.int .i64 s2.2.1)))) fun (y9:List (ByteArray×Int))=>X1 (y9,IntKind.i64.wrap (s2.2.1+1),())) fun (i4:Nat) (y5:Int)=>t6 s2 X1) (i6 s2 R)) (y0,0,())
theorem ARS ( a0 R):uG bR Tryz.prog APR A5G 8 95 (rI a0) R=ARR a0 R:=by kernel_rfl
def AGR (d:aB):Option (List (ByteArray×Int)):=pK d.2.1 (gX (ids d.2.1))
theorem AJO (d d':aB) (h:rI d=rI d'):d=d':=by
 unfold rI at h
 simp only[List.cons.injEq,T.fn.injEq,T.ref.injEq,and_true,true_and] at h
 exact Sy.cY aC _ _ h.2
noncomputable def YE:List T→Option (List (ByteArray×Int)):=gA (fun (x:aB)=>rI x) AGR
theorem AVZ (a0:aB):YE (rI a0)=AGR a0:=dS (A:=(fun (x:aB)=>rI x)) AJO a0
theorem BAD (h:∀ (a0:aB) (r:List (ByteArray×Int)),AGR a0=some r→(∀ t∈rI a0,Bd t)→ARR a0 (fun y=>y = .mp (bI r))):jS Tryz.prog 95 (q8 YE) :=
 BL (E:=APR) (Hs:=A5G) A07 aR aU (aL rfl) 8 ⟨_,_,Tryz.func95,rfl⟩ fun x r h1 h2=>by
  rw[ARS]
  exact h x r h1 h2
theorem A8G:jS Tryz.prog 95 (q8 YE):=BAD fun d r h hb=>by
 obtain ⟨hl,rfl⟩:=jE h
 unfold ARR t6 i6 t8 bF
 exact H9 (r:=aV.tl) (l:=d.2.1) hl
def rJ (a0:aB):List T:=[T.v (.int .i64 (a0.2.2.1.length:Int)),T.fn 97 [] [T.ref [T.ref (aC.enc a0)]]]
noncomputable def APS:Env:=Env.of []
def A5H:FuncId→Hint:=bV 95 [(3,.inv [.map 0 .str false (.int .i64),.val 12 false (.int .i64)])] (fun _=>aX)
theorem A08:aQ Tryz.prog APS:=.nil _
def ART(a0:aB)(R:T→Prop):Prop:=dN Sy.str false bF [] fun (y0:List (ByteArray×Int))=>a7 (List (ByteArray×Int)×Int×PUnit) (fun X1 s2=>aD (decide (s2.2.1<(↑a0.2.2.1.length:Int))) (aS aK (LE a0) s2.2.1 fun (y3:a8)=>gH TypeDesc.string (Value.string y3.1) (List.map (cN Sy.str false bF) s2.1) false bF (aS aK (LE a0) s2.2.1 fun (y7:a8)=>nV (Option (Nat×D)) (findD TypeDesc.string (Value.string y7.1) (List.map (cN Sy.str false bF) s2.1) 0) fun (y8:Option (Nat×D))=>dN Sy.str false bF (eZ (List.map (cN Sy.str false bF) s2.1) y8 (Value.string y7.1) (D.p (T.v (.int .i64 s2.2.1)))) fun (y9:List (ByteArray×Int))=>X1 (y9,IntKind.i64.wrap (s2.2.1+1),())) fun (i4:Nat) (y5:Int)=>t6 s2 X1) (i6 s2 R)) (y0,0,())
theorem ARU ( a0 R):uG bR Tryz.prog APS A5H 8 95 (rJ a0) R=ART a0 R:=by kernel_rfl
def AGS (d:aB):Option (List (ByteArray×Int)):=pK d.2.2.1 (gX (ids d.2.2.1))
theorem AJP (d d':aB) (h:rJ d=rJ d'):d=d':=by
 unfold rJ at h
 simp only[List.cons.injEq,T.fn.injEq,T.ref.injEq,and_true,true_and] at h
 exact Sy.cY aC _ _ h.2
noncomputable def YF:List T→Option (List (ByteArray×Int)):=gA (fun (x:aB)=>rJ x) AGS
theorem AV0 (a0:aB):YF (rJ a0)=AGS a0:=dS (A:=(fun (x:aB)=>rJ x)) AJP a0
theorem BAE (h:∀ (a0:aB) (r:List (ByteArray×Int)),AGS a0=some r→(∀ t∈rJ a0,Bd t)→ART a0 (fun y=>y = .mp (bI r))):jS Tryz.prog 95 (q8 YF) :=
 BL (E:=APS) (Hs:=A5H) A08 aR aU (aL rfl) 8 ⟨_,_,Tryz.func95,rfl⟩ fun x r h1 h2=>by
  rw[ARU]
  exact h x r h1 h2
theorem A8H:jS Tryz.prog 95 (q8 YF):=BAE fun d r h hb=>by
 obtain ⟨hl,rfl⟩:=jE h
 unfold ART t6 i6 LE bF
 exact H9 (r:=aK.tl) (l:=d.2.2.1) hl
def rK (a0:aB):List T:=[T.v (.int .i64 (a0.2.2.2.1.length:Int)),T.fn 98 [] [T.ref [T.ref (aC.enc a0)]]]
noncomputable def APT:Env:=Env.of []
def A5I:FuncId→Hint:=bV 95 [(3,.inv [.map 0 .str false (.int .i64),.val 12 false (.int .i64)])] (fun _=>aX)
theorem A09:aQ Tryz.prog APT:=.nil _
def ARV(a0:aB)(R:T→Prop):Prop:=dN Sy.str false bF [] fun (y0:List (ByteArray×Int))=>a7 (List (ByteArray×Int)×Int×PUnit) (fun X1 s2=>aD (decide (s2.2.1<(↑a0.2.2.2.1.length:Int))) (aS aY (v6 a0) s2.2.1 fun (y3:dJ)=>gH TypeDesc.string (Value.string y3.1) (List.map (cN Sy.str false bF) s2.1) false bF (aS aY (v6 a0) s2.2.1 fun (y7:dJ)=>nV (Option (Nat×D)) (findD TypeDesc.string (Value.string y7.1) (List.map (cN Sy.str false bF) s2.1) 0) fun (y8:Option (Nat×D))=>dN Sy.str false bF (eZ (List.map (cN Sy.str false bF) s2.1) y8 (Value.string y7.1) (D.p (T.v (.int .i64 s2.2.1)))) fun (y9:List (ByteArray×Int))=>X1 (y9,IntKind.i64.wrap (s2.2.1+1),())) fun (i4:Nat) (y5:Int)=>t6 s2 X1) (i6 s2 R)) (y0,0,())
theorem ARW ( a0 R):uG bR Tryz.prog APT A5I 8 95 (rK a0) R=ARV a0 R:=by kernel_rfl
def AGT (d:aB):Option (List (ByteArray×Int)):=pK d.2.2.2.1 (gX (ids d.2.2.2.1))
theorem AJQ (d d':aB) (h:rK d=rK d'):d=d':=by
 unfold rK at h
 simp only[List.cons.injEq,T.fn.injEq,T.ref.injEq,and_true,true_and] at h
 exact Sy.cY aC _ _ h.2
noncomputable def YG:List T→Option (List (ByteArray×Int)):=gA (fun (x:aB)=>rK x) AGT
theorem AV1 (a0:aB):YG (rK a0)=AGT a0:=dS (A:=(fun (x:aB)=>rK x)) AJQ a0
theorem BAF (h:∀ (a0:aB) (r:List (ByteArray×Int)),AGT a0=some r→(∀ t∈rK a0,Bd t)→ARV a0 (fun y=>y = .mp (bI r))):jS Tryz.prog 95 (q8 YG) :=
 BL (E:=APT) (Hs:=A5I) A09 aR aU (aL rfl) 8 ⟨_,_,Tryz.func95,rfl⟩ fun x r h1 h2=>by
  rw[ARW]
  exact h x r h1 h2
theorem A8I:jS Tryz.prog 95 (q8 YG):=BAF fun d r h hb=>by
 obtain ⟨hl,rfl⟩:=jE h
 unfold ARV t6 i6 v6 bF
 exact H9 (r:=aY.tl) (l:=d.2.2.2.1) hl
def rL (a0:aB):List T:=[T.v (.int .i64 (a0.2.2.2.2.1.length:Int)),T.fn 99 [] [T.ref [T.ref (aC.enc a0)]]]
noncomputable def APU:Env:=Env.of []
def A5J:FuncId→Hint:=bV 95 [(3,.inv [.map 0 .str false (.int .i64),.val 12 false (.int .i64)])] (fun _=>aX)
theorem A1A:aQ Tryz.prog APU:=.nil _
def ARX(a0:aB)(R:T→Prop):Prop:=dN Sy.str false bF [] fun (y0:List (ByteArray×Int))=>a7 (List (ByteArray×Int)×Int×PUnit) (fun X1 s2=>aD (decide (s2.2.1<(↑a0.2.2.2.2.1.length:Int))) (aS aE (AC a0) s2.2.1 fun (y3:aW)=>gH TypeDesc.string (Value.string y3.1) (List.map (cN Sy.str false bF) s2.1) false bF (aS aE (AC a0) s2.2.1 fun (y7:aW)=>nV (Option (Nat×D)) (findD TypeDesc.string (Value.string y7.1) (List.map (cN Sy.str false bF) s2.1) 0) fun (y8:Option (Nat×D))=>dN Sy.str false bF (eZ (List.map (cN Sy.str false bF) s2.1) y8 (Value.string y7.1) (D.p (T.v (.int .i64 s2.2.1)))) fun (y9:List (ByteArray×Int))=>X1 (y9,IntKind.i64.wrap (s2.2.1+1),())) fun (i4:Nat) (y5:Int)=>t6 s2 X1) (i6 s2 R)) (y0,0,())
theorem ARY ( a0 R):uG bR Tryz.prog APU A5J 8 95 (rL a0) R=ARX a0 R:=by kernel_rfl
def AGU (d:aB):Option (List (ByteArray×Int)):=pK d.2.2.2.2.1 (gX (ids d.2.2.2.2.1))
theorem AJR (d d':aB) (h:rL d=rL d'):d=d':=by
 unfold rL at h
 simp only[List.cons.injEq,T.fn.injEq,T.ref.injEq,and_true,true_and] at h
 exact Sy.cY aC _ _ h.2
noncomputable def YH:List T→Option (List (ByteArray×Int)):=gA (fun (x:aB)=>rL x) AGU
theorem AV2 (a0:aB):YH (rL a0)=AGU a0:=dS (A:=(fun (x:aB)=>rL x)) AJR a0
theorem BAG (h:∀ (a0:aB) (r:List (ByteArray×Int)),AGU a0=some r→(∀ t∈rL a0,Bd t)→ARX a0 (fun y=>y = .mp (bI r))):jS Tryz.prog 95 (q8 YH) :=
 BL (E:=APU) (Hs:=A5J) A1A aR aU (aL rfl) 8 ⟨_,_,Tryz.func95,rfl⟩ fun x r h1 h2=>by
  rw[ARY]
  exact h x r h1 h2
theorem A8J:jS Tryz.prog 95 (q8 YH):=BAG fun d r h hb=>by
 obtain ⟨hl,rfl⟩:=jE h
 unfold ARX t6 i6 AC bF
 exact H9 (r:=aE.tl) (l:=d.2.2.2.2.1) hl
end Go.Pv
namespace Go.Pv
open Go Go.Proofs
def orG {α:Type} (g1 g2:List T→Option α) (a:List T):Option α:=match g1 a with
 | some r=>some r
 | none=>g2 a
theorem ME {α:Type} {g1 g2:List T→Option α} {a:List T} {r:α} (h:g1 a=some r):orG g1 g2 a=some r:=by unfold orG;rw[h]
theorem n7 {α:Type} {g1 g2:List T→Option α} {a:List T} (h:g1 a=none):orG g1 g2 a=g2 a:=by unfold orG;rw[h]
theorem QG {α:Type} {g1 g2:List T→Option α} {a:List T} {r:α} (h:orG g1 g2 a=some r):g1 a=some r∨g2 a=some r:=by
 unfold orG at h
 split at h
 ·rename_i r' h1;cases h;exact .inl h1
 ·exact .inr h
theorem aN.or {P:Program} {f:FuncId} {g1 g2:List T→Option T} (h1:aN P f g1) (h2:aN P f g2):aN P f (orG g1 g2):=⟨h1.entry,fun w own args vs r hG ho ha hr=>by
 rcases QG hr with h|h
 ·exact h1.calls w own args vs r hG ho ha h
 ·exact h2.calls w own args vs r hG ho ha h⟩
theorem jS.orM {P:Program} {f:FuncId} {g1 g2:List T→Option (List (ByteArray×Int))} (h1:jS P f (q8 g1)) (h2:jS P f (q8 g2)):jS P f (q8 (orG g1 g2)):=⟨h1.entry,fun w own args vs r hG ho ha hr=>by
 simp only[q8,Option.map_eq_some_iff] at hr
 obtain ⟨es,h,rfl⟩:=hr
 rcases QG h with h|h
 ·exact h1.calls w own args vs _ hG ho ha (by simp[q8,h])
 ·exact h2.calls w own args vs _ hG ho ha (by simp[q8,h])⟩
noncomputable def AM7:List T→Option (List (ByteArray×Int)):=orG YE (orG YF (orG YG YH))
theorem BDE:jS Tryz.prog 95 (q8 AM7):=.orM A8G (.orM A8H (.orM A8I A8J))
theorem gJ {α X:Type} {A:X→List T} {sp:X→Option α} {args:List T} (h:∀ x,args≠A x):gA A sp args=none:=by
 unfold gA;rw[dif_neg];rintro ⟨x,hx⟩;exact h x hx
def sR:List ByteArray→Bool
 | a::b::l=>!(cM b a||decide (b=a))&&sR (b::l)
 | _=>true
theorem ATM {l:List ByteArray} {k:Nat} (h:k+1<l.length):sR (l.drop k)=(!(cM l[k+1] l[k]||decide (l[k+1]=l[k]))&&sR (l.drop (k+1))):=by
 rw[List.drop_eq_getElem_cons (show k<l.length by omega),List.drop_eq_getElem_cons h,sR]
theorem A2G {l:List ByteArray} {k:Nat} (h:l.length≤k+1):sR (l.drop k)=true:=by
 rcases Nat.lt_or_ge k l.length with h1|h1
 ·rw[List.drop_eq_getElem_cons h1,List.drop_eq_nil_of_le h];rfl
 ·rw[List.drop_eq_nil_of_le h1];rfl
theorem DD {r:Sy} {p:r.den→ByteArray} {l:List r.den} (hl:l.length≤140737488355328) {R:T→Prop} (hR:R (T.v (.bool (sR (l.map p))))) :
 a7 (Int×PUnit)
 (fun (X0:Int×PUnit→Prop) (s1:Int×PUnit) =>
  aD (decide (s1.1<(↑l.length:Int)))
   (aS r (List.map r.enc l) s1.1 fun (y2:r.den) =>
    aS r (List.map r.enc l) (IntKind.i64.wrap (s1.1-1))
     fun (y3:r.den) =>
     aD (cM (p y2) (p y3)||decide (p y2=p y3)) (R (T.v (.bool false)))
      (X0 (IntKind.i64.wrap (s1.1+1),())))
   (R (T.v (.bool true))))
 (1,()):=by
 refine bK l.length (fun k s=>s=(((k+1:Nat):Int),())∧sR (l.map p)=sR ((l.map p).drop k)) ⟨rfl,by rw[List.drop_zero]⟩ ?_
 rintro X k s hk ⟨rfl,he⟩ hX
 dsimp only
 have hw:IntKind.i64.wrap (((k+1:Nat):Int)+1)=((k+1+1:Nat):Int):=bB _ (by omega) (by omega)
 have hw1:IntKind.i64.wrap (((k+1:Nat):Int)-1)=((k:Nat):Int):=by rw[bB _ (by omega) (by omega)];omega
 by_cases hlt:k+1<l.length
 ·refine gO (by omega) ?_
  rw[bD hlt,hw1,bD (show k<l.length by omega)]
  rw[ATM (by rw[List.length_map];exact hlt)] at he
  rw[List.getElem_map,List.getElem_map] at he
  cases hc:(cM (p l[k+1]) (p l[k])||decide (p l[k+1]=p l[k])) with
  | true =>
   rw[jY]
   rw[hc,Bool.not_true,Bool.false_and] at he
   rwa[he] at hR
  | false =>
   rw[mM]
   rw[hc,Bool.not_false,Bool.true_and] at he
   exact hX _ (by omega) ⟨by rw[hw],he⟩
 ·refine jP (by omega) ?_
  rw[A2G (by rw[List.length_map];omega)] at he
  rwa[he] at hR
def qF (a0:List ByteArray):List T:=[T.v (.int .i64 (a0.length:Int)),T.fn 147 [] [T.ref [T.sl false (List.map Sy.str.enc a0)]]]
noncomputable def AQE:Env:=Env.of []
def A5P:FuncId→Hint:=bV 100 [(2,.inv [.val 5 false (.int .i64)])] (fun _=>aX)
theorem A1Q:aQ Tryz.prog AQE:=.nil _
def ASJ(a0:List ByteArray)(R:T→Prop):Prop:=a7 (Int×PUnit) (fun X0 s1=>aD (decide (s1.1<(↑a0.length:Int))) (aS Sy.str (FS a0) s1.1 fun (y2:ByteArray)=>aS Sy.str (FS a0) (IntKind.i64.wrap (s1.1-1)) fun (y3:ByteArray)=>aD (cM y2 y3||decide (y2=y3)) (R d3) (f7 X0 s1)) (R d7)) (1,())
theorem ASK ( a0 R):dH bR Tryz.prog AQE A5P 8 100 (qF a0) R=ASJ a0 R:=by kernel_rfl
def AG0 (l:List ByteArray):Option T:=pK l (T.v (.bool (sR l)))
theorem AJX (d d':List ByteArray) (h:qF d=qF d'):d=d':=by
 unfold qF at h
 simp only[List.cons.injEq,T.fn.injEq,T.ref.injEq,and_true,true_and,T.sl.injEq] at h
 exact map_inj (Sy.cY .str) h.2
noncomputable def ZC:List T→Option (T):=gA (fun (x:List ByteArray)=>qF x) AG0
theorem AWI (a0:List ByteArray):ZC (qF a0)=AG0 a0:=dS (A:=(fun (x:List ByteArray)=>qF x)) AJX a0
theorem BAW (h:∀ (a0:List ByteArray) (r:T),AG0 a0=some r→(∀ t∈qF a0,Bd t)→ASJ a0 (fun y=>y=r)):aN Tryz.prog 100 ZC :=
 b7 (E:=AQE) (Hs:=A5P) A1Q aR aU (aL rfl) 8 ⟨_,_,Tryz.func100,rfl⟩ fun x r h1 h2=>by
  rw[ASK]
  exact h x r h1 h2
theorem A8Z:aN Tryz.prog 100 ZC:=BAW fun l r h hb=>by
 obtain ⟨hl,rfl⟩:=jE h
 unfold ASJ FS f7 d7 d3
 exact DD (r:=.str) (p:=fun y=>y) (R:=fun y=>y=T.v (.bool (sR l))) hl (by simp)
def qB (a0:aB):List T:=[T.v (.int .i64 (a0.2.1.length:Int)),T.fn 101 [] [T.ref [T.ref (aC.enc a0)]]]
noncomputable def AQA:Env:=Env.of []
def A5L:FuncId→Hint:=bV 100 [(2,.inv [.val 5 false (.int .i64)])] (fun _=>aX)
theorem A1M:aQ Tryz.prog AQA:=.nil _
def ASB(a0:aB)(R:T→Prop):Prop:=a7 (Int×PUnit) (fun X0 s1=>aD (decide (s1.1<(↑a0.2.1.length:Int))) (aS aV (t8 a0) s1.1 fun (y2:dC)=>aS aV (t8 a0) (IntKind.i64.wrap (s1.1-1)) fun (y3:dC)=>aD (cM y2.1 y3.1||decide (y2.1=y3.1)) (R d3) (f7 X0 s1)) (R d7)) (1,())
theorem ASC ( a0 R):dH bR Tryz.prog AQA A5L 8 100 (qB a0) R=ASB a0 R:=by kernel_rfl
def AGW (d:aB):Option T:=pK d.2.1 (T.v (.bool (sR (ids d.2.1))))
theorem AJT (d d':aB) (h:qB d=qB d'):d=d':=by
 unfold qB at h
 simp only[List.cons.injEq,T.fn.injEq,T.ref.injEq,and_true,true_and] at h
 exact Sy.cY aC _ _ h.2
noncomputable def Y8:List T→Option (T):=gA (fun (x:aB)=>qB x) AGW
theorem AWE (a0:aB):Y8 (qB a0)=AGW a0:=dS (A:=(fun (x:aB)=>qB x)) AJT a0
theorem BAS (h:∀ (a0:aB) (r:T),AGW a0=some r→(∀ t∈qB a0,Bd t)→ASB a0 (fun y=>y=r)):aN Tryz.prog 100 Y8 :=
 b7 (E:=AQA) (Hs:=A5L) A1M aR aU (aL rfl) 8 ⟨_,_,Tryz.func100,rfl⟩ fun x r h1 h2=>by
  rw[ASC]
  exact h x r h1 h2
theorem A8V:aN Tryz.prog 100 Y8:=BAS fun d r h hb=>by
 obtain ⟨hl,rfl⟩:=jE h
 unfold ASB f7 t8 d7 d3
 exact DD (r:=aV) (p:=fun y=>y.1) (R:=fun y=>y=T.v (.bool (sR (ids d.2.1)))) hl rfl
def qC (a0:aB):List T:=[T.v (.int .i64 (a0.2.2.1.length:Int)),T.fn 102 [] [T.ref [T.ref (aC.enc a0)]]]
noncomputable def AQB:Env:=Env.of []
def A5M:FuncId→Hint:=bV 100 [(2,.inv [.val 5 false (.int .i64)])] (fun _=>aX)
theorem A1N:aQ Tryz.prog AQB:=.nil _
def ASD(a0:aB)(R:T→Prop):Prop:=a7 (Int×PUnit) (fun X0 s1=>aD (decide (s1.1<(↑a0.2.2.1.length:Int))) (aS aK (LE a0) s1.1 fun (y2:a8)=>aS aK (LE a0) (IntKind.i64.wrap (s1.1-1)) fun (y3:a8)=>aD (cM y2.1 y3.1||decide (y2.1=y3.1)) (R d3) (f7 X0 s1)) (R d7)) (1,())
theorem ASE ( a0 R):dH bR Tryz.prog AQB A5M 8 100 (qC a0) R=ASD a0 R:=by kernel_rfl
def AGX (d:aB):Option T:=pK d.2.2.1 (T.v (.bool (sR (ids d.2.2.1))))
theorem AJU (d d':aB) (h:qC d=qC d'):d=d':=by
 unfold qC at h
 simp only[List.cons.injEq,T.fn.injEq,T.ref.injEq,and_true,true_and] at h
 exact Sy.cY aC _ _ h.2
noncomputable def Y9:List T→Option (T):=gA (fun (x:aB)=>qC x) AGX
theorem AWF (a0:aB):Y9 (qC a0)=AGX a0:=dS (A:=(fun (x:aB)=>qC x)) AJU a0
theorem BAT (h:∀ (a0:aB) (r:T),AGX a0=some r→(∀ t∈qC a0,Bd t)→ASD a0 (fun y=>y=r)):aN Tryz.prog 100 Y9 :=
 b7 (E:=AQB) (Hs:=A5M) A1N aR aU (aL rfl) 8 ⟨_,_,Tryz.func100,rfl⟩ fun x r h1 h2=>by
  rw[ASE]
  exact h x r h1 h2
theorem A8W:aN Tryz.prog 100 Y9:=BAT fun d r h hb=>by
 obtain ⟨hl,rfl⟩:=jE h
 unfold ASD f7 LE d7 d3
 exact DD (r:=aK) (p:=fun y=>y.1) (R:=fun y=>y=T.v (.bool (sR (ids d.2.2.1)))) hl rfl
def qD (a0:aB):List T:=[T.v (.int .i64 (a0.2.2.2.1.length:Int)),T.fn 103 [] [T.ref [T.ref (aC.enc a0)]]]
noncomputable def AQC:Env:=Env.of []
def A5N:FuncId→Hint:=bV 100 [(2,.inv [.val 5 false (.int .i64)])] (fun _=>aX)
theorem A1O:aQ Tryz.prog AQC:=.nil _
def ASF(a0:aB)(R:T→Prop):Prop:=a7 (Int×PUnit) (fun X0 s1=>aD (decide (s1.1<(↑a0.2.2.2.1.length:Int))) (aS aY (v6 a0) s1.1 fun (y2:dJ)=>aS aY (v6 a0) (IntKind.i64.wrap (s1.1-1)) fun (y3:dJ)=>aD (cM y2.1 y3.1||decide (y2.1=y3.1)) (R d3) (f7 X0 s1)) (R d7)) (1,())
theorem ASG ( a0 R):dH bR Tryz.prog AQC A5N 8 100 (qD a0) R=ASF a0 R:=by kernel_rfl
def AGY (d:aB):Option T:=pK d.2.2.2.1 (T.v (.bool (sR (ids d.2.2.2.1))))
theorem AJV (d d':aB) (h:qD d=qD d'):d=d':=by
 unfold qD at h
 simp only[List.cons.injEq,T.fn.injEq,T.ref.injEq,and_true,true_and] at h
 exact Sy.cY aC _ _ h.2
noncomputable def ZA:List T→Option (T):=gA (fun (x:aB)=>qD x) AGY
theorem AWG (a0:aB):ZA (qD a0)=AGY a0:=dS (A:=(fun (x:aB)=>qD x)) AJV a0
theorem BAU (h:∀ (a0:aB) (r:T),AGY a0=some r→(∀ t∈qD a0,Bd t)→ASF a0 (fun y=>y=r)):aN Tryz.prog 100 ZA :=
 b7 (E:=AQC) (Hs:=A5N) A1O aR aU (aL rfl) 8 ⟨_,_,Tryz.func100,rfl⟩ fun x r h1 h2=>by
  rw[ASG]
  exact h x r h1 h2
theorem A8X:aN Tryz.prog 100 ZA:=BAU fun d r h hb=>by
 obtain ⟨hl,rfl⟩:=jE h
 unfold ASF f7 v6 d7 d3
 exact DD (r:=aY) (p:=fun y=>y.1) (R:=fun y=>y=T.v (.bool (sR (ids d.2.2.2.1)))) hl rfl
def qE (a0:aB):List T:=[T.v (.int .i64 (a0.2.2.2.2.1.length:Int)),T.fn 104 [] [T.ref [T.ref (aC.enc a0)]]]
noncomputable def AQD:Env:=Env.of []
def A5O:FuncId→Hint:=bV 100 [(2,.inv [.val 5 false (.int .i64)])] (fun _=>aX)
theorem A1P:aQ Tryz.prog AQD:=.nil _
def ASH(a0:aB)(R:T→Prop):Prop:=a7 (Int×PUnit) (fun X0 s1=>aD (decide (s1.1<(↑a0.2.2.2.2.1.length:Int))) (aS aE (AC a0) s1.1 fun (y2:aW)=>aS aE (AC a0) (IntKind.i64.wrap (s1.1-1)) fun (y3:aW)=>aD (cM y2.1 y3.1||decide (y2.1=y3.1)) (R d3) (f7 X0 s1)) (R d7)) (1,())
theorem ASI ( a0 R):dH bR Tryz.prog AQD A5O 8 100 (qE a0) R=ASH a0 R:=by kernel_rfl
def AGZ (d:aB):Option T:=pK d.2.2.2.2.1 (T.v (.bool (sR (ids d.2.2.2.2.1))))
theorem AJW (d d':aB) (h:qE d=qE d'):d=d':=by
 unfold qE at h
 simp only[List.cons.injEq,T.fn.injEq,T.ref.injEq,and_true,true_and] at h
 exact Sy.cY aC _ _ h.2
noncomputable def ZB:List T→Option (T):=gA (fun (x:aB)=>qE x) AGZ
theorem AWH (a0:aB):ZB (qE a0)=AGZ a0:=dS (A:=(fun (x:aB)=>qE x)) AJW a0
theorem BAV (h:∀ (a0:aB) (r:T),AGZ a0=some r→(∀ t∈qE a0,Bd t)→ASH a0 (fun y=>y=r)):aN Tryz.prog 100 ZB :=
 b7 (E:=AQD) (Hs:=A5O) A1P aR aU (aL rfl) 8 ⟨_,_,Tryz.func100,rfl⟩ fun x r h1 h2=>by
  rw[ASI]
  exact h x r h1 h2
theorem A8Y:aN Tryz.prog 100 ZB:=BAV fun d r h hb=>by
 obtain ⟨hl,rfl⟩:=jE h
 unfold ASH f7 AC d7 d3
 exact DD (r:=aE) (p:=fun y=>y.1) (R:=fun y=>y=T.v (.bool (sR (ids d.2.2.2.2.1)))) hl rfl
noncomputable def uR:List T→Option T:=orG Y8 (orG Y9 (orG ZA (orG ZB ZC)))
theorem A5W:aN Tryz.prog 100 uR:=.or A8V (.or A8W (.or A8X (.or A8Y A8Z)))
theorem A81 {d:aB} (h:d.2.1.length≤140737488355328):AM7 (rI d)=some (gX (ids d.2.1)):=by
 have h1:YE (rI d)=some (gX (ids d.2.1)):=by rw[AVZ];exact jF _ h
 exact (ME h1)
theorem A85 {d:aB} (h:d.2.1.length≤140737488355328):uR (qB d)=some (T.v (.bool (sR (ids d.2.1)))):=by
 have h1:Y8 (qB d)=some (T.v (.bool (sR (ids d.2.1)))):=by rw[AWE];exact jF _ h
 exact (ME h1)
theorem A82 {d:aB} (h:d.2.2.1.length≤140737488355328):AM7 (rJ d)=some (gX (ids d.2.2.1)):=by
 have h1:YF (rJ d)=some (gX (ids d.2.2.1)):=by rw[AV0];exact jF _ h
 exact ((n7 (gJ fun x h=>by simp[rI,rJ] at h)).trans (ME h1))
theorem A86 {d:aB} (h:d.2.2.1.length≤140737488355328):uR (qC d)=some (T.v (.bool (sR (ids d.2.2.1)))):=by
 have h1:Y9 (qC d)=some (T.v (.bool (sR (ids d.2.2.1)))):=by rw[AWF];exact jF _ h
 exact ((n7 (gJ fun x h=>by simp[qB,qC] at h)).trans (ME h1))
theorem A83 {d:aB} (h:d.2.2.2.1.length≤140737488355328):AM7 (rK d)=some (gX (ids d.2.2.2.1)):=by
 have h1:YG (rK d)=some (gX (ids d.2.2.2.1)):=by rw[AV1];exact jF _ h
 exact ((n7 (gJ fun x h=>by simp[rI,rK] at h)).trans ((n7 (gJ fun x h=>by simp[rJ,rK] at h)).trans (ME h1)))
theorem A87 {d:aB} (h:d.2.2.2.1.length≤140737488355328):uR (qD d)=some (T.v (.bool (sR (ids d.2.2.2.1)))):=by
 have h1:ZA (qD d)=some (T.v (.bool (sR (ids d.2.2.2.1)))):=by rw[AWG];exact jF _ h
 exact ((n7 (gJ fun x h=>by simp[qB,qD] at h)).trans ((n7 (gJ fun x h=>by simp[qC,qD] at h)).trans (ME h1)))
theorem A84 {d:aB} (h:d.2.2.2.2.1.length≤140737488355328):AM7 (rL d)=some (gX (ids d.2.2.2.2.1)):=by
 have h1:YH (rL d)=some (gX (ids d.2.2.2.2.1)):=by rw[AV2];exact jF _ h
 exact ((n7 (gJ fun x h=>by simp[rI,rL] at h)).trans ((n7 (gJ fun x h=>by simp[rJ,rL] at h)).trans ((n7 (gJ fun x h=>by simp[rK,rL] at h)).trans h1)))
theorem A88 {d:aB} (h:d.2.2.2.2.1.length≤140737488355328):uR (qE d)=some (T.v (.bool (sR (ids d.2.2.2.2.1)))):=by
 have h1:ZB (qE d)=some (T.v (.bool (sR (ids d.2.2.2.2.1)))):=by rw[AWH];exact jF _ h
 exact ((n7 (gJ fun x h=>by simp[qB,qE] at h)).trans ((n7 (gJ fun x h=>by simp[qC,qE] at h)).trans ((n7 (gJ fun x h=>by simp[qD,qE] at h)).trans (ME h1))))
theorem AWJ {l:List ByteArray} (h:l.length≤140737488355328):uR (qF l)=some (T.v (.bool (sR l))):=by
 have h1:ZC (qF l)=some (T.v (.bool (sR l))):=by rw[AWI];exact jF _ h
 exact ((n7 (gJ fun x h=>by simp[qB,qF] at h)).trans ((n7 (gJ fun x h=>by simp[qC,qF] at h)).trans ((n7 (gJ fun x h=>by simp[qD,qF] at h)).trans ((n7 (gJ fun x h=>by simp[qE,qF] at h)).trans h1))))
abbrev NQ (d:aB) (m1 m2 m3 m4:List (ByteArray×Int)):T:=T.ref [T.ref (aC.enc d),T.mp (bI m1),T.mp (bI m2),T.mp (bI m3),T.mp (bI m4)]
end Go.Pv
namespace Go.Pv
open Go Go.Proofs
abbrev q_b:Sh:=[(false,.bool)]
abbrev BA2:Sh:=[(false,.li .str)]
def wV (x:ByteArray×ByteArray):Option T:=match decide (x.1.size<4294967281),decide (1≤x.2.size) with
 | true,true=>some (Sh.enc BA2 (Lib.splitB x.2 0 (Lib.countB x.1 x.2) x.1))
 | _,_=>none
noncomputable def wB:List T→Option T:=gS [(false,.str),(false,.str)] wV
theorem ZE {a b:ByteArray}:wB [T.v (.string a),T.v (.string b)]=wV (a,b):=bC (s:=[(false,.str),(false,.str)]) rfl (a,b) rfl
theorem AMW:aN Tryz.prog 116 wB:=by
 refine ⟨vM.entry,fun w own args vs r hG ho ha hg=>?_⟩
 obtain ⟨⟨a,b⟩,rfl,hx⟩:=xF hg
 unfold wV at hx
 split at hx
 ·rename_i h1 h2
  cases hx
  have hs:q9 [.v (.string a),.v (.string b)]=some (.sl true ((Lib.splitB b 0 (Lib.countB a b) a).map fun x=>[.v (.string x)])):=by
   unfold q9
   simp only[h1,h2]
  refine (vM.calls w own _ vs _ hG ho ha hs).mono ?_
  rintro e w' ⟨v,rfl,hr,hb⟩
  exact ⟨v,rfl,hr.canon 0,hb⟩
 ·cases hx
end Go.Pv
namespace Go.Pv
open Go Go.Proofs
def qP (n:Int):Bool:=(decide (97≤n)&&decide (n≤122))||(decide (65≤n)&&decide (n≤90))
def zU (n:Int):Bool:=decide (48≤n)&&decide (n≤57)
def nameAt (i:Nat) (b:UInt8):Bool:=qP b.toNat||(decide (i≠0)&&(zU b.toNat||decide ((b.toNat:Int)=95)||decide ((b.toNat:Int)=45)))
def isName (s:ByteArray):Bool:=decide (s.size≠0)&&decide (s.size≤16)&&(List.range s.size).all fun i=>match s.data[i]? with|some b=>nameAt i b|none=>true
def AAW (s:ByteArray):Option T:=some (Sh.enc q_b (isName s))
abbrev sL:=AAW
def A42 (l:List ByteArray):Int:=(l.length:Int)-1+nM l
def BD7 (s:ByteArray):Option T:=match decide (s.size≤1099511627776) with
 | true=>some (Sh.enc BA2 (dP s))
 | false=>none
def sM (l:List ByteArray):Option T:=match decide (l.length≤65)&&decide (nM l≤64) with
 | true=>some (Sh.enc q_b (l.all isName&&(decide (1≤l.length)&&decide (l.length≤8)&&decide (A42 l≤64))))
 | false=>none
def pF (s:ByteArray):Bool:=decide (s.size≤64)&&decide ((dP s).length≤8)&&(dP s).all isName
def DL (s:ByteArray):Option T:=some (Sh.enc q_b (pF s))
theorem oN {n:Nat} {f:Nat→Bool}:(List.range n).all f=true↔∀ i,i<n→f i=true:=by simp
theorem ANJ {s:ByteArray} (h0:s.size≠0) (h1:s.size≤16) (h2:∀ i b,s.data[i]? = some b→nameAt i b=true):isName s=true:=by
 unfold isName
 simp only[h0,h1,decide_true,Bool.true_and,Bool.and_eq_true,oN,ne_eq,not_false_eq_true,true_and]
 intro i hi
 split
 ·rename_i b hb;exact h2 i b hb
 ·rfl
theorem AL {s:ByteArray} (h:s.size=0∨16<s.size∨∃ i b,s.data[i]? = some b∧nameAt i b=false):isName s=false:=by
 rw[Bool.eq_false_iff]
 intro hn
 unfold isName at hn
 simp only[Bool.and_eq_true,oN,decide_eq_true_eq] at hn
 rcases h with h|h|⟨i,b,hb,hf⟩
 ·exact hn.1.1 h
 ·have:=hn.1.2;omega
 ·have hi:i<s.size:=(Array.getElem?_eq_some_iff.1 hb).1
  have:=hn.2 i hi
  rw[hb] at this
  simp only[hf] at this
  cases this
theorem ZW (b:UInt8):nameAt 0 b=qP b.toNat:=by simp[nameAt]
theorem AHR {s:ByteArray}:s = { data:=#[] }↔s.size=0:=⟨fun e=>by subst e;rfl,fun e=>ByteArray.ext (Array.eq_empty_of_size_eq_zero e)⟩
noncomputable def APQ:Env:=Env.of []
def AST:FuncId→Hint:=fun f=>match f == 57 with|true=>⟨fun r=>match r == 4 with|true=>.inv [.jV 0]|false=>.none,fun i j=>match i == 6&&j == 6 with|true=>some [.val 5 false .bool,.fix 0]|false=>match i == 7&&j == 7 with|true=>some [.val 6 false .bool,.fix 0]|false=>none,fun _=>none⟩|false=>aX
theorem ABO:aQ Tryz.prog APQ:=.nil _
def m9(s1:(ByteArray×Nat)×PUnit)(X2:Bool×PUnit×PUnit→Prop):Prop:=aD (decide (97≤(↑(Utf8.decode s1.1.1 s1.1.2).1:Int))) (eP (a6.jV s1.1.1 (s1.1.2+(Utf8.decode s1.1.1 s1.1.2).2)) (a6.jV s1.1.1 (s1.1.2+(Utf8.decode s1.1.1 s1.1.2).2)) (X2 (decide ((↑(Utf8.decode s1.1.1 s1.1.2).1:Int)≤122),(),()))) (eP (a6.jV s1.1.1 (s1.1.2+(Utf8.decode s1.1.1 s1.1.2).2)) (a6.jV s1.1.1 (s1.1.2+(Utf8.decode s1.1.1 s1.1.2).2)) (X2 (false,(),())))
def n8(s1:(ByteArray×Nat)×PUnit)(X2:Bool×PUnit×PUnit→Prop):Prop:=eP (a6.jV s1.1.1 (s1.1.2+(Utf8.decode s1.1.1 s1.1.2).2)) (a6.jV s1.1.1 (s1.1.2+(Utf8.decode s1.1.1 s1.1.2).2)) (X2 (true,(),()))
def GE(s1:(ByteArray×Nat)×PUnit)(X4:Bool×PUnit×PUnit→Prop):Prop:=aD (decide ((↑(Utf8.decode s1.1.1 s1.1.2).1:Int)=95)) (n8 s1 X4) (eP (a6.jV s1.1.1 (s1.1.2+(Utf8.decode s1.1.1 s1.1.2).2)) (a6.jV s1.1.1 (s1.1.2+(Utf8.decode s1.1.1 s1.1.2).2)) (X4 (decide ((↑(Utf8.decode s1.1.1 s1.1.2).1:Int)=45),(),())))
def JG(a0:ByteArray)(R:T→Prop):Prop:=aD (decide (a0 = {data:=#[]})) (R d3) (aD (decide (16<(↑(ByteArray.size a0):Int))) (R d3) (a7 ((ByteArray×Nat)×PUnit) (fun X0 s1=>aD (decide (s1.1.2<s1.1.1.size)) (qO (Bool×PUnit×PUnit) (fun (X2:Bool×PUnit×PUnit→Prop)=>aD (decide (65≤(↑(Utf8.decode s1.1.1 s1.1.2).1:Int))) (aD (decide ((↑(Utf8.decode s1.1.1 s1.1.2).1:Int)≤90)) (n8 s1 X2) (m9 s1 X2)) (m9 s1 X2)) fun (s3:Bool×PUnit×PUnit)=>qO (Bool×PUnit×PUnit) (fun (X4:Bool×PUnit×PUnit→Prop)=>aD (decide (48≤(↑(Utf8.decode s1.1.1 s1.1.2).1:Int))) (aD (decide ((↑(Utf8.decode s1.1.1 s1.1.2).1:Int)≤57)) (n8 s1 X4) (GE s1 X4)) (GE s1 X4)) fun (s5:Bool×PUnit×PUnit)=>aD (!s3.1) (aD (decide ((↑s1.1.2:Int)=0)) (R d3) (aD (!s5.1) (R d3) (X0 ((s1.1.1,s1.1.2+(Utf8.decode s1.1.1 s1.1.2).2),())))) (X0 ((s1.1.1,s1.1.2+(Utf8.decode s1.1.1 s1.1.2).2),()))) (R d7)) ((a0,0),())))
abbrev MQ:Sh:=[(false,Sy.str)]
abbrev DB:Sh:=[(false,Sy.bool)]
theorem OH (y:Sh.den DB) (K:Sh.den DB→Prop):aI DB (some (Sh.enc DB y)) K=K y:=w4 rfl y K
noncomputable def gN:List T→Option T:=gS MQ sL
theorem vT {a0}:gN [T.v (.string a0)]=sL (a0):=bC (s:=MQ) rfl (a0) rfl
theorem AN6:rM Tryz.prog 57 gN sL (b9 MQ) JG:=gQ (a1:=(false,Sy.str)) (sp:=sL) (F:=JG) (Hs:=AST) (f:=57) (k:=8) ABO aR aU (aL rfl) ⟨_,_,Tryz.func57,rfl⟩ rfl fun _ _=>by kernel_rfl
theorem ZM (c:Int) {K:Bool×PUnit×PUnit→Prop} (hX:K (qP c,(),())):qO (Bool×PUnit×PUnit) (fun X=>aD (decide (65≤c)) (aD (decide (c≤90)) (X (true,(),())) (aD (decide (97≤c)) (X (decide (c≤122),(),())) (X (false,(),())))) (aD (decide (97≤c)) (X (decide (c≤122),(),())) (X (false,(),())))) K:=by
 simp only[ZJ,xK]
 unfold qP at hX
 by_cases h1:65≤c<;>by_cases h2:c≤90<;>by_cases h3:97≤c<;>by_cases h4:c≤122<;>simp[h1,h2,h3,h4] at hX ⊢ <;> first|exact hX|omega
theorem SO (c:Int) {K:Bool×PUnit×PUnit→Prop} (hX:K (zU c||decide (c=95)||decide (c=45),(),())):qO (Bool×PUnit×PUnit) (fun X=>aD (decide (48≤c)) (aD (decide (c≤57)) (X (true,(),())) (aD (decide (c=95)) (X (true,(),())) (X (decide (c=45),(),())))) (aD (decide (c=95)) (X (true,(),())) (X (decide (c=45),(),())))) K:=by
 simp only[ZJ,xK]
 unfold zU at hX
 by_cases h1:48≤c<;>by_cases h2:c≤57<;>by_cases h3:c=95<;>simp[h1,h2,h3] at hX ⊢ <;> first|exact hX|omega
theorem xC:aN Tryz.prog 57 gN:=AN6 fun s r h hb=>by
 have h':some (Sh.enc q_b (isName s))=some r:=h
 cases h'
 clear h
 unfold JG GE n8 m9 d7 d3
 by_cases h0:s.size=0
 ·exact gO (AHR.2 h0) (by rw[AL (.inl h0)];rfl)
 refine jP (fun e=>h0 (AHR.1 e)) ?_
 by_cases h16:16<s.size
 ·exact gO (by omega) (by rw[AL (.inr (.inl h16))];rfl)
 refine jP (by omega) ?_
 refine bK s.size (fun k t=>t=((s,k),())∧∀ i b,i<k→s.data[i]? = some b→nameAt i b=true) ⟨rfl,by simp⟩ ?_
 rintro X k t hk ⟨rfl,hno⟩ hX
 simp only[cI]
 by_cases hlt:k<s.size
 ·refine gO hlt ?_
  have hb:s.data[k]? = some (s[k]'hlt):=by
   rw[Array.getElem?_eq_getElem hlt];rfl
  refine ZM (Utf8.decode s k).1 ?_
  refine SO (Utf8.decode s k).1 ?_
  dsimp only
  have stop:nameAt k (s[k]'hlt)=false→T.v (.bool false)=Sh.enc q_b (isName s):=fun hn=>by rw[AL (.inr (.inr ⟨k,_,hb,hn⟩))];rfl
  by_cases hasc:(s[k]'hlt).toNat<128
  ·have hd:=decode_ascii s k hlt hasc
   have go:nameAt k (s[k]'hlt)=true→X ((s,k+(Utf8.decode s k).2),()):=fun hn=>by
    rw[hd]
    exact hX _ hlt ⟨rfl,fun i b' hi hb'=>by
     by_cases e:i=k
     ·subst e;rw[hb] at hb';cases hb';exact hn
     ·exact hno i b' (by omega) hb'⟩
   have e1:((Utf8.decode s k).1:Int)=((s[k]'hlt).toNat:Int):=by rw[hd]
   rw[e1]
   cases hl:qP ((s[k]'hlt).toNat:Int) with
   | true=>rw[Bool.not_true,mM];exact go (by simp[nameAt,hl])
   | false =>
    rw[Bool.not_false,jY]
    by_cases hk0:k=0
    ·exact gO (by omega) (stop (by subst hk0;rw[ZW];exact hl))
    ·refine jP (by omega) ?_
     cases hf:(zU ((s[k]'hlt).toNat:Int)||decide (((s[k]'hlt).toNat:Int)=95)||decide (((s[k]'hlt).toNat:Int)=45)) with
     | true=>rw[Bool.not_true,mM];exact go (by unfold nameAt;rw[hl,hf];simp[hk0])
     | false=>rw[Bool.not_false,jY];exact stop (by unfold nameAt;rw[hl,hf];simp)
  ·obtain ⟨hd1,hd2⟩:=decode_high s k hlt (by omega)
   have hl:qP ((Utf8.decode s k).1:Int)=false:=by
    unfold qP;simp;omega
   have hf:(zU ((Utf8.decode s k).1:Int)||decide (((Utf8.decode s k).1:Int)=95)||decide (((Utf8.decode s k).1:Int)=45))=false:=by
    unfold zU;simp;omega
   have hn:nameAt k (s[k]'hlt)=false:=by
    unfold nameAt qP zU;simp;omega
   rw[hl,hf,Bool.not_false,jY]
   by_cases hk0:k=0
   ·exact gO (by omega) (stop hn)
   ·refine jP (by omega) ?_
    rw[jY]
    exact stop hn
 ·refine jP hlt ?_
  rw[ANJ h0 (by omega) (fun i b h=>hno i b (by have:=(Array.getElem?_eq_some_iff.1 h).1;have:i<s.size:=this;omega) h)];rfl
noncomputable def A0F:Env:=Env.of [(57,.pure gN)]
def A1V:FuncId→Hint:=bV 115 [(3,.inv [.val 3 false (.int .i64),.val 11 false (.int .i64)])] (fun _=>aX)
theorem AKH:aQ Tryz.prog A0F:=.cons xC (.nil _)
def RO(a0:List ByteArray)(R:T→Prop):Prop:=a7 (Int×Int×PUnit) (fun X0 s1=>aD (decide (s1.2.1<(↑(FS a0).length:Int))) (aS Sy.str (FS a0) s1.2.1 fun (y2:ByteArray)=>aI d4 (gN [T.v (.string y2)]) fun (y3:Bool)=>aD (!y3) (R d3) (X0 (IntKind.i64.wrap (s1.1+(↑y2.size:Int)),IntKind.i64.wrap (s1.2.1+1),()))) (aD (decide (1≤(↑(FS a0).length:Int))) (aD (decide ((↑(FS a0).length:Int)≤8)) (R (T.v (.bool (decide (s1.1≤64))))) (R d3)) (R d3))) (IntKind.i64.wrap ((↑(FS a0).length:Int)-1),0,())
abbrev TZ:Sh:=[(false,Sy.str.li)]
noncomputable def B0:List T→Option T:=gS TZ sM
theorem AEL {a0}:B0 [T.sl false (List.map Sy.str.enc a0)]=sM (a0):=bC (s:=TZ) rfl (a0) rfl
theorem AXZ:rM Tryz.prog 115 B0 sM (b9 TZ) RO:=gQ (a1:=(false,Sy.str.li)) (sp:=sM) (F:=RO) (Hs:=A1V) (f:=115) (k:=8) AKH aR aU (aL rfl) ⟨_,_,Tryz.func115,rfl⟩ rfl fun _ _=>by kernel_rfl
theorem A5:∀ (l:List ByteArray) (x:ByteArray),nM (l++[x])=nM l+x.size
 | [],x=>by simp[nM]
 | a::l,x=>by simp only[List.cons_append,nM,A5 l x];omega
theorem NO:∀ (l:List ByteArray) (k:Nat),nM (l.take k)≤nM l
 | [],k=>by simp
 | a::l,0=>by simp[nM]
 | a::l,k+1=>by simp only[List.take_succ_cons,nM];have:=NO l k;omega
theorem AUX:aN Tryz.prog 115 B0:=AXZ fun l r h hb=>by
 unfold sM at h
 split at h
 ·rename_i hsz
  simp only[Bool.and_eq_true,decide_eq_true_eq] at hsz
  obtain ⟨hl65,hs64⟩:=hsz
  cases h
  unfold RO FS d4 d3
  refine bK l.length (fun k t=>t=((l.length:Int)-1+nM (l.take k),(k:Int),())∧(l.take k).all isName=true) ⟨by
   simp only[List.take_zero,nM,List.length_map,Prod.mk.injEq,and_true]
   rw[bB _ (by omega) (by omega)];simp,by simp⟩ ?_
  rintro X k t hk ⟨rfl,hall⟩ hX
  dsimp only
  by_cases hlt:k<l.length
  ·refine gO (by simp[hlt]) ?_
   rw[bD (r:=.str) hlt]
   refine aG (s:=q_b) (y:=isName l[k]) vT ?_
   have hsum:=NO l (k+1)
   have htake:l.take (k+1)=l.take k++[l[k]]:=List.take_succ_eq_append_getElem hlt
   cases hn:isName l[k] with
   | false =>
    rw[Bool.not_false,jY]
    have:l.all isName=false:=by
     rw[Bool.eq_false_iff];intro ha
     have:=List.all_eq_true.1 ha _ (List.getElem_mem hlt)
     rw[hn] at this;cases this
    rw[this];rfl
   | true =>
    rw[Bool.not_true,mM]
    rw[htake,A5] at hsum
    refine hX _ hlt ⟨?_,by rw[htake,List.all_append,hall];simp[hn]⟩
    rw[htake,A5]
    simp only[Prod.mk.injEq,and_true]
    exact ⟨by rw[bB _ (by omega) (by omega)];simp;omega,bB _ (by omega) (by omega)⟩
  ·have:k=l.length:=by omega
   subst this
   rw[List.take_length] at hall
   refine jP (by simp) ?_
   rw[List.take_length,hall]
   by_cases h1:1≤l.length
   ·refine gO (by simp only[List.length_map];omega) ?_
    by_cases h2:l.length≤8
    ·refine gO (by simp only[List.length_map];omega) ?_
     rw[decide_eq_true h1,decide_eq_true h2];rfl
    ·refine jP (by simp only[List.length_map];omega) ?_
     rw[decide_eq_false h2,Bool.and_false];rfl
   ·refine jP (by simp only[List.length_map];omega) ?_
    rw[decide_eq_false h1];rfl
 ·cases h
noncomputable def A6T:Env:=Env.of [(116,.pure wB),(115,.pure B0)]
def A67:FuncId→Hint:=fun _=>aX
theorem AQS:aQ Tryz.prog A6T:=.cons AMW (.cons AUX (.nil _))
def ACL(a0:ByteArray)(R:T→Prop):Prop:=aD (decide ((↑(ByteArray.size a0):Int)≤64)) (aI d9 (wB [T.v (.string a0),T.v (.string {data:=#[46]})]) fun (y0:List ByteArray)=>aI d4 (B0 [T.sl false (FS y0)]) fun (y1:Bool)=>R (T.v (.bool y1))) (R d3)
abbrev AF7:Sh:=[(false,Sy.str)]
abbrev TT:Sh:=[(false,Sy.bool)]
theorem AAG (y:Sh.den TT) (K:Sh.den TT→Prop):aI TT (some (Sh.enc TT y)) K=K y:=w4 rfl y K
noncomputable def dV:List T→Option T:=gS AF7 DL
theorem PM {a0}:dV [T.v (.string a0)]=DL (a0):=bC (s:=AF7) rfl (a0) rfl
theorem A4H:rM Tryz.prog 82 dV DL (b9 AF7) ACL:=gQ (a1:=(false,Sy.str)) (sp:=DL) (F:=ACL) (Hs:=A67) (f:=82) (k:=8) AQS aR aU (aL rfl) ⟨_,_,Tryz.func82,rfl⟩ rfl fun _ _=>by kernel_rfl
theorem BM:aN Tryz.prog 82 dV:=A4H fun s r h hb=>by
 have h':some (Sh.enc q_b (pF s))=some r:=h
 cases h'
 clear h
 unfold ACL FS d9 d4 d3 pF
 by_cases h64:s.size≤64
 ·refine gO (by omega) ?_
  have hsum:=AOV s
  have hpos:=AOU s
  refine aG (s:=BA2) (y:=dP s) ?_ ?_
  ·rw[show wB [T.v (.string s),T.v (.string { data:=#[46] })]=wV (s,dot) from ZE]
   unfold wV
   rw[show decide (s.size<4294967281)=true by simp;omega,show decide (1≤dot.size)=true from rfl]
   rfl
  ·refine aG (s:=q_b) (y:=(dP s).all isName&&(decide (1≤(dP s).length)&&decide ((dP s).length≤8)&&decide (A42 (dP s)≤64))) ?_ ?_
   ·rw[AEL]
    unfold sM
    rw[show (decide ((dP s).length≤65)&&decide (nM (dP s)≤64))=true by simp;omega]
   ·have h1:decide (1≤(dP s).length)=true:=decide_eq_true hpos
    have h2:decide (A42 (dP s)≤64)=true:=decide_eq_true (by unfold A42;omega)
    have h3:decide (s.size≤64)=true:=decide_eq_true h64
    rw[h1,h2,h3]
    simp[Bool.and_comm,Sh.enc,aF,Sy.enc,hdT]
 ·refine jP (by omega) ?_
  rw[decide_eq_false h64];rfl
end Go.Pv
namespace Go.Pv
open Go Go.Proofs
def Seen (es:List (ByteArray×Bool)) (S:ByteArray→Prop):Prop:=(∀ id b,e6 es id=some b→b=true)∧∀ id,e6 es id=some true↔S id
theorem Seen.nil:Seen [] fun _=>False:=⟨fun id b h=>(by cases h),fun id=>⟨fun h=>(by cases h),fun h=>h.elim⟩⟩
theorem Seen.ins {es:List (ByteArray×Bool)} {S:ByteArray→Prop} (h:Seen es S) (k:ByteArray):Seen (uS es k true) fun id=>S id∨k=id:=by
 refine ⟨fun id b hb=>?_,fun id=>?_⟩
 ·rw[wC] at hb
  split at hb
  ·cases hb;rfl
  ·exact h.1 id b hb
 ·rw[wC]
  split
  ·rename_i e;exact ⟨fun _=>.inr e,fun _=>rfl⟩
  ·rename_i e;rw[h.2];exact ⟨.inl,fun h=>h.resolve_right e⟩
theorem Seen.congr {es:List (ByteArray×Bool)} {S S':ByteArray→Prop} (h:Seen es S) (e:∀ id,S id↔S' id):Seen es S':=⟨h.1,fun id=>(h.2 id).trans (e id)⟩
abbrev RS:=List (Value×T)×Nat×List Nat×Nat
theorem AUI {m:List (ByteArray×Int)} {seen:List Nat} {i:Nat} (hi:i<m.length) (K:ByteArray→Int→Prop) (hk:K m[i].1 m[i].2):HQ .str false (.int .i64) (pT (bI m)) (seen++[i]) K :=
 ⟨i,m[i].1,m[i].2,by simp,by simp only[pT,bI,List.map_map,List.getElem?_map,List.getElem?_eq_getElem hi];rfl,hk⟩
theorem A2P {m:List (ByteArray×Int)} {es:List (ByteArray×Bool)} {S:ByteArray→Prop} {R7 K:Prop} (hS:Seen es S) (hbad:(∃ i,∃ h:i<m.length,S m[i].1)→R7) (hgood:(∀ i (h:i<m.length),¬ S m[i].1)→K) :
  a7 (RS×PUnit) (fun (X:RS×PUnit→Prop) (s:RS×PUnit)=>bN (decide (s.1.1.length≤s.1.2.1)&&decide (s.1.2.1≤s.1.2.2.2)) (vG s.1.1.length s.1.2.2.1 K fun (i:Nat) =>
   bN (decide (s.1.1.length=s.1.1.length)) (HQ Sy.str false (Sy.int IntKind.i64) (pT s.1.1) (s.1.2.2.1++[i]) fun (k:ByteArray) (y:Int) =>
    gH TypeDesc.string (Value.string k) (List.map (cN Sy.str false Sy.bool) es) false Sy.bool (X ((s.1.1,s.1.2.1,s.1.2.2.1++[i],s.1.1.length),())) fun (j:Nat) (b:Bool) =>
     aD b R7 (X ((s.1.1,s.1.2.1,s.1.2.2.1++[i],s.1.1.length),()))))) ((bI m,(bI m).length,[],(bI m).length),()):=by
 have hml:(bI m).length=m.length:=by simp[bI]
 refine bK m.length (fun k t=>∃ seen,t=((bI m,(bI m).length,seen,(bI m).length),())∧(cQ m.length seen).length+k≤m.length∧∀ i (h:i<m.length),i∈seen→¬ S m[i].1) ⟨[],rfl,by rw[HE];omega,by simp⟩ ?_
 rintro X k t hk ⟨seen,rfl,hlen,hJ⟩ hX
 dsimp only
 refine ⟨by simp,?_,?_⟩
 ·intro hm
  rw[hml] at hm
  refine hgood fun i hi=>hJ i hi ?_
  refine Classical.byContradiction fun hc=>?_
  have:i∈cQ m.length seen:=qQ.2 ⟨hi,hc⟩
  rw[hm] at this;cases this
 ·intro i hi
  rw[hml] at hi
  have hi1:=(qQ.1 hi).1
  have hst:=C3 hi
  refine ⟨by simp,AUI hi1 _ ?_⟩
  have go:¬ S m[i].1→X ((bI m,(bI m).length,seen++[i],(bI m).length),()):=fun hn=>hX _ (by omega) ⟨_,rfl,by omega,fun j hj hm=>by
   rcases List.mem_append.1 hm with h|h
   ·exact hJ j hj h
   ·simp at h;subst h;exact hn⟩
  refine BK (r:=.bool) (fun hno=>go fun h=>?_) fun j b hb=>?_
  ·have:=(hS.2 m[i].1).2 h
   rw[hno] at this;cases this
  ·have:=hS.1 _ _ hb
   subst this
   rw[jY]
   exact hbad ⟨i,hi1,(hS.2 _).1 hb⟩
theorem A2D {m:List (ByteArray×Int)} {es:List (ByteArray×Bool)} {S:ByteArray→Prop} {K:List (ByteArray×Bool)×RS×PUnit→Prop} (hS:Seen es S) (hgood:∀ es' rs,Seen es' (fun id=>S id∨∃ i,∃ h:i<m.length,m[i].1=id)→K (es',rs,())) :
  dN Sy.str false Sy.bool (List.map (cN Sy.str false Sy.bool) es) fun (y:List (ByteArray×Bool)) =>
  a7 (List (ByteArray×Bool)×RS×PUnit) (fun (X:List (ByteArray×Bool)×RS×PUnit→Prop) (s:List (ByteArray×Bool)×RS×PUnit)=>bN (decide (s.2.1.1.length≤s.2.1.2.1)&&decide (s.2.1.2.1≤s.2.1.2.2.2)) (vG s.2.1.1.length s.2.1.2.2.1 (K s) fun (i:Nat) =>
   bN (decide (s.2.1.1.length=s.2.1.1.length)) (HQ Sy.str false (Sy.int IntKind.i64) (pT s.2.1.1) (s.2.1.2.2.1++[i]) fun (k:ByteArray) (y:Int) =>
    nV (Option (Nat×D)) (findD TypeDesc.string (LV Sy.str k) (List.map (cN Sy.str false Sy.bool) s.1) 0) fun (y37:Option (Nat×D)) =>
     dN Sy.str false Sy.bool (eZ (List.map (cN Sy.str false Sy.bool) s.1) y37 (Value.string k) (D.p (T.v (.bool true)))) fun (y38:List (ByteArray×Bool)) =>
      X (y38,(s.2.1.1,s.2.1.2.1,s.2.1.2.2.1++[i],s.2.1.1.length),())))) (y,(bI m,(bI m).length,[],(bI m).length),()):=by
 have hml:(bI m).length=m.length:=by simp[bI]
 refine nA (r:=.bool) rfl es _ ?_
 refine bK m.length (fun k t=>∃ seen es',t=(es',(bI m,(bI m).length,seen,(bI m).length),())∧(cQ m.length seen).length+k≤m.length∧Seen es' (fun id=>S id∨∃ i,∃ h:i<m.length,i∈seen∧m[i].1=id)) ⟨[],es,rfl,by rw[HE];omega,hS.congr (by simp)⟩ ?_
 rintro X k t hk ⟨seen,es',rfl,hlen,hJ⟩ hX
 dsimp only
 refine ⟨by simp,?_,?_⟩
 ·intro hm
  rw[hml] at hm
  refine hgood _ _ (hJ.congr fun id=>⟨fun h=>h.imp_right fun ⟨i,hi,_,e⟩=>⟨i,hi,e⟩,fun h=>h.imp_right fun ⟨i,hi,e⟩=>⟨i,hi,?_,e⟩⟩)
  refine Classical.byContradiction fun hc=>?_
  have:i∈cQ m.length seen:=qQ.2 ⟨hi,hc⟩
  rw[hm] at this;cases this
 ·intro i hi
  rw[hml] at hi
  have hi1:=(qQ.1 hi).1
  have hst:=C3 hi
  refine ⟨by simp,AUI hi1 _ ?_⟩
  refine AWX (r:=.bool) rfl (es:=es') (k:=m[i].1) (v:=true) (hX _ (by omega) ⟨seen++[i],_,rfl,by omega,(hJ.ins _).congr fun id=>⟨?_,?_⟩⟩)
  ·rintro ((h|⟨j,hj,hm,e⟩)|h)
   ·exact .inl h
   ·exact .inr ⟨j,hj,by simp[hm],e⟩
   ·exact .inr ⟨i,hi1,by simp,h⟩
  ·rintro (h|⟨j,hj,hm,e⟩)
   ·exact .inl (.inl h)
   ·rcases List.mem_append.1 hm with hm|hm
    ·exact .inl (.inr ⟨j,hj,hm,e⟩)
    ·simp at hm;subst hm;exact .inr e
def ltN (a b:b8):Bool:=decide (a.1<b.1)||(decide (a.1=b.1)&&(cM a.2.1 b.2.1||(decide (a.2.1=b.2.1)&&cM a.2.2 b.2.2)))
def AC6:List b8→Bool
 | a::b::l=>ltN a b&&AC6 (b::l)
 | _=>true
theorem ALI {l:List b8} {k:Nat} (h:k+1<l.length):AC6 (l.drop k)=(ltN l[k] l[k+1]&&AC6 (l.drop (k+1))):=by
 rw[List.drop_eq_getElem_cons (show k<l.length by omega),List.drop_eq_getElem_cons h,AC6]
theorem ATL {l:List b8} {k:Nat} (h:l.length≤k+1):AC6 (l.drop k)=true:=by
 rcases Nat.lt_or_ge k l.length with h1|h1
 ·rw[List.drop_eq_getElem_cons h1,List.drop_eq_nil_of_le h];rfl
 ·rw[List.drop_eq_nil_of_le h1];rfl
theorem P2 (k:ByteArray) (v:Int) (id:ByteArray):∀ es:List (ByteArray×Int),id∈(uS es k v).map (fun e=>e.1)↔id∈es.map (fun e=>e.1)∨id=k
 | []=>by simp[uS]
 | e::es=>by
  simp only[uS]
  split
  ·rename_i h
   simp only[List.map_cons,List.mem_cons]
   rw[←h]
   constructor
   ·rintro (h|h)
    ·exact .inl (.inl h)
    ·exact .inl (.inr h)
   ·rintro ((h|h)|h)
    ·exact .inl h
    ·exact .inr h
    ·exact .inl h
  ·simp only[List.map_cons,List.mem_cons,P2 k v id es,or_assoc]
theorem P5 (id:ByteArray):∀ (l:List ByteArray) (i:Nat) (es:List (ByteArray×Int)),id∈(FA l i es).map (fun e=>e.1)↔id∈es.map (fun e=>e.1)∨id∈l
 | [],i,es=>by simp[FA]
 | a::l,i,es=>by
  simp only[FA]
  rw[P5 id l]
  cases h:e6 es a with
  | none=>simp only[P2,List.mem_cons,or_assoc]
  | some v =>
   simp only[List.mem_cons]
   have ha:a∈es.map (fun e=>e.1):=by
    rcases tJ a es with ⟨h1,_⟩|⟨j,hj,h1,_⟩
    ·rw[h] at h1;cases h1
    ·exact List.mem_map.2 ⟨es[j],List.getElem_mem hj,h1⟩
   constructor
   ·rintro (h|h)
    ·exact .inl h
    ·exact .inr (.inr h)
   ·rintro (h|rfl|h)
    ·exact .inl h
    ·exact .inl ha
    ·exact .inr h
theorem j6 {l:List ByteArray} {id:ByteArray}:(∃ i,∃ h:i<(gX l).length,(gX l)[i].1=id)↔id∈l:=by
 have h:=P5 id l 0 []
 simp only[List.map_nil,List.not_mem_nil,false_or] at h
 rw[←h,List.mem_map]
 constructor
 ·rintro ⟨i,hi,e⟩;exact ⟨_,List.getElem_mem hi,e⟩
 ·rintro ⟨e,he,h⟩
  obtain ⟨i,hi,rfl⟩:=List.mem_iff_getElem.1 he
  exact ⟨i,hi,h⟩
def zM (a0:aB) (m1:List (ByteArray×Int)) (m2:List (ByteArray×Int)) (m3:List (ByteArray×Int)) (m4:List (ByteArray×Int)):List T:=[NQ a0 m1 m2 m3 m4]
noncomputable def ABC:Env:=Env.of [(100,.pure uR)]
def ASS:FuncId→Hint:=fun f=>match f == 59 with|true=>⟨fun r=>match r == 9 with|true=>.inv [.val 4 false .bool,.val 5 false (.int .i64)]|false=>match r == 17 with|true=>.AG8 5|false=>match r == 20 with|true=>.alts [[.bW 30],[.bW 29],[.bW 28],[.bW 27],[.bW 26],[.bW 25],[.bW 24],[.bW 23],[.bW 22],[.bW 21],[.bW 20],[.bW 19],[.bW 18],[.bW 17],[.bW 16],[.bW 15],[.bW 14],[.bW 13],[.bW 12],[.bW 11],[.bW 10],[.bW 9],[.bW 8],[.bW 7],[.bW 6],[.bW 5],[.bW 4],[.bW 3],[.bW 2]]|false=>match r == 25 with|true=>.alts [[.map 2 .str false .bool,.bW 30],[.map 2 .str false .bool,.bW 29],[.map 2 .str false .bool,.bW 28],[.map 2 .str false .bool,.bW 27],[.map 2 .str false .bool,.bW 26],[.map 2 .str false .bool,.bW 25],[.map 2 .str false .bool,.bW 24],[.map 2 .str false .bool,.bW 23],[.map 2 .str false .bool,.bW 22],[.map 2 .str false .bool,.bW 21],[.map 2 .str false .bool,.bW 20],[.map 2 .str false .bool,.bW 19],[.map 2 .str false .bool,.bW 18],[.map 2 .str false .bool,.bW 17],[.map 2 .str false .bool,.bW 16],[.map 2 .str false .bool,.bW 15],[.map 2 .str false .bool,.bW 14],[.map 2 .str false .bool,.bW 13],[.map 2 .str false .bool,.bW 12],[.map 2 .str false .bool,.bW 11],[.map 2 .str false .bool,.bW 10],[.map 2 .str false .bool,.bW 9],[.map 2 .str false .bool,.bW 8],[.map 2 .str false .bool,.bW 7],[.map 2 .str false .bool,.bW 6],[.map 2 .str false .bool,.bW 5],[.map 2 .str false .bool,.bW 4],[.map 2 .str false .bool,.bW 3],[.map 2 .str false .bool,.bW 2]]|false=>.none,fun i j=>match i == 5&&j == 5 with|true=>some [.val 4 false .bool]|false=>match i == 6&&j == 6 with|true=>some [.val 4 false .bool]|false=>match i == 7&&j == 7 with|true=>some [.val 4 false .bool]|false=>none,fun r=>match r == 21 with|true=>some (.str,false,(.int .i64))|false=>match r == 26 with|true=>some (.str,false,(.int .i64))|false=>none⟩|false=>aX
theorem AQR:aQ Tryz.prog ABC:=.cons A5W (.nil _)
def M2(a0:aB):List (List T):=List.map aP.enc a0.2.2.2.2.2
def f5(a0:aB):List T:=[T.v (.string a0.1), T.sl false (t8 a0), T.sl false (LE a0), T.sl false (v6 a0), T.sl false (AC a0), T.sl false (M2 a0)]
def f9(a0:aB):List T:=[T.v (.string a0.1),T.sl false (t8 a0), T.sl false (LE a0), T.sl false (v6 a0), T.sl false (AC a0), T.sl false (M2 a0)]
def ACJ(a0:aB)(m1:List (ByteArray×Int))(m2:List (ByteArray×Int))(m3:List (ByteArray×Int))(m4:List (ByteArray×Int))(R:T→Prop):Prop:=aD (decide (64<(↑(t8 a0).length:Int))) (R (T.v (.int .i64 4))) (aD (decide (256<(↑(LE a0).length:Int))) (R (T.v (.int .i64 4))) (aD (decide (256<(↑(v6 a0).length:Int))) (R (T.v (.int .i64 4))) (aD (decide (64<(↑(AC a0).length:Int))) (R (T.v (.int .i64 4))) (aD (decide (256<(↑(M2 a0).length:Int))) (R (T.v (.int .i64 4))) (aI d4 (uR [T.v (.int .i64 (↑(t8 a0).length:Int)), T.fn 101 [] [T.ref [T.ref (f9 a0)]]]) fun (y0:Bool)=>qO (Bool×PUnit) (fun (X1:Bool×PUnit→Prop)=>aD y0 (aI d4 (uR [T.v (.int .i64 (↑(LE a0).length:Int)), T.fn 102 [] [T.ref [T.ref (f5 a0)]]]) fun (y2:Bool)=>X1 (y2,())) (X1 (false,()))) fun (s3:Bool×PUnit)=>qO (Bool×PUnit) (fun (X4:Bool×PUnit→Prop)=>aD s3.1 (aI d4 (uR [T.v (.int .i64 (↑(v6 a0).length:Int)), T.fn 103 [] [T.ref [T.ref (f5 a0)]]]) fun (y5:Bool)=>X4 (y5,())) (X4 (false,()))) fun (s6:Bool×PUnit)=>qO (Bool×PUnit) (fun (X7:Bool×PUnit→Prop)=>aD s6.1 (aI d4 (uR [T.v (.int .i64 (↑(AC a0).length:Int)), T.fn 104 [] [T.ref [T.ref (f5 a0)]]]) fun (y8:Bool)=>X7 (y8,())) (X7 (false,()))) fun (s9:Bool×PUnit)=>a7 (Bool×Int×PUnit) (fun X10 s11=>aD (decide (s11.2.1<(↑(M2 a0).length:Int))) (aS aP (M2 a0) (IntKind.i64.wrap (s11.2.1-1)) fun (y12:b8)=>aS aP (M2 a0) s11.2.1 fun (y13:b8)=>aD s11.1 (aD (decide (y12.1<y13.1)) (X10 (true,IntKind.i64.wrap (s11.2.1+1),())) (aD (decide (y12.1=y13.1)) (aD (cM y12.2.1 y13.2.1) (X10 (true,IntKind.i64.wrap (s11.2.1+1),())) (aD (decide (y12.2.1=y13.2.1)) (X10 (cM y12.2.2 y13.2.2,IntKind.i64.wrap (s11.2.1+1), ())) (X10 (false,IntKind.i64.wrap (s11.2.1+1),())))) (X10 (false,IntKind.i64.wrap (s11.2.1+1),())))) (X10 (false,IntKind.i64.wrap (s11.2.1+1),()))) (aD (!s11.1) (R (T.v (.int .i64 11))) (a7 ((List (Value×T)×Nat×List Nat×Nat)×PUnit) (fun (X14:(List (Value×T)×Nat×List Nat×Nat)×PUnit→Prop) (s15:(List (Value×T)×Nat×List Nat×Nat)×PUnit)=>bN (decide (s15.1.1.length≤s15.1.2.1) && decide (s15.1.2.1≤s15.1.2.2.2)) (vG s15.1.1.length s15.1.2.2.1 (dN Sy.str false Sy.bool [] fun (y16:List (ByteArray×Bool))=>a7 (List (ByteArray×Bool) × (List (Value×T)×Nat×List Nat×Nat)×PUnit) (fun (X17 : List (ByteArray×Bool) × (List (Value×T)×Nat×List Nat×Nat)×PUnit → Prop) (s18 : List (ByteArray×Bool) × (List (Value×T)×Nat×List Nat×Nat)×PUnit)=>bN (decide (s18.2.1.1.length≤s18.2.1.2.1) && decide (s18.2.1.2.1≤s18.2.1.2.2.2)) (vG s18.2.1.1.length s18.2.1.2.2.1 (a7 ((List (Value×T)×Nat×List Nat×Nat)×PUnit) (fun (X19 : (List (Value×T)×Nat×List Nat×Nat)×PUnit→Prop) (s20:(List (Value×T)×Nat×List Nat×Nat)×PUnit)=>bN (decide (s20.1.1.length≤s20.1.2.1) && decide (s20.1.2.1≤s20.1.2.2.2)) (vG s20.1.1.length s20.1.2.2.1 (dN Sy.str false Sy.bool (List.map (cN Sy.str false Sy.bool) s18.1) fun (y21:List (ByteArray×Bool))=>a7 (List (ByteArray×Bool) × (List (Value×T)×Nat×List Nat×Nat)×PUnit) (fun (X22 : List (ByteArray×Bool) × (List (Value×T)×Nat×List Nat×Nat) × PUnit → Prop) (s23 : List (ByteArray×Bool) × (List (Value×T)×Nat×List Nat×Nat) × PUnit)=>bN (decide (s23.2.1.1.length≤s23.2.1.2.1) && decide (s23.2.1.2.1≤s23.2.1.2.2.2)) (vG s23.2.1.1.length s23.2.1.2.2.1 (a7 ((List (Value×T)×Nat×List Nat×Nat) × PUnit) (fun (X24 : (List (Value×T) × Nat×List Nat×Nat) × PUnit → Prop) (s25 : (List (Value×T) × Nat×List Nat×Nat) × PUnit)=>bN (decide (s25.1.1.length≤s25.1.2.1) && decide (s25.1.2.1≤s25.1.2.2.2)) (vG s25.1.1.length s25.1.2.2.1 (dN Sy.str false Sy.bool (List.map (cN Sy.str false Sy.bool) s23.1) fun (y26:List (ByteArray×Bool))=>a7 (List (ByteArray×Bool) × (List (Value×T) × Nat×List Nat×Nat) × PUnit) (fun (X27 : List (ByteArray×Bool) × (List (Value×T) × Nat×List Nat×Nat) × PUnit → Prop) (s28 : List (ByteArray×Bool) × (List (Value×T) × Nat×List Nat×Nat) × PUnit)=>bN (decide (s28.2.1.1.length ≤ s28.2.1.2.1) && decide (s28.2.1.2.1 ≤ s28.2.1.2.2.2)) (vG s28.2.1.1.length s28.2.1.2.2.1 (a7 ((List (Value×T) × Nat×List Nat×Nat) × PUnit) (fun (X29 : (List (Value×T) × Nat×List Nat×Nat) × PUnit → Prop) (s30 : (List (Value×T) × Nat×List Nat×Nat) × PUnit)=>bN (decide (s30.1.1.length ≤ s30.1.2.1) && decide (s30.1.2.1 ≤ s30.1.2.2.2)) (vG s30.1.1.length s30.1.2.2.1 (dN Sy.str false Sy.bool (List.map (cN Sy.str false Sy.bool) s28.1) fun (y31 : List (ByteArray×Bool))=>a7 (List (ByteArray×Bool) × (List (Value × T) × Nat × List Nat×Nat) × PUnit) (fun (X32 : List (ByteArray × Bool) × (List (Value × T) × Nat × List Nat × Nat) × PUnit → Prop) (s33 : List (ByteArray × Bool) × (List (Value × T) × Nat × List Nat × Nat) × PUnit)=>bN (decide (s33.2.1.1.length ≤ s33.2.1.2.1) && decide (s33.2.1.2.1 ≤ s33.2.1.2.2.2)) (vG s33.2.1.1.length s33.2.1.2.2.1 (R (T.v (.int .i64 0))) fun (i34:Nat)=>bN (decide (s33.2.1.1.length = s33.2.1.1.length)) (HQ Sy.str false bF (pT s33.2.1.1) (s33.2.1.2.2.1 ++ [i34]) fun (k35 : ByteArray) (y36:Int)=>nV (Option (Nat × D)) (findD TypeDesc.string (LV Sy.str k35) (List.map (cN Sy.str false Sy.bool) s33.1) 0) fun (y37 : Option (Nat × D))=>dN Sy.str false Sy.bool (eZ (List.map (cN Sy.str false Sy.bool) s33.1) y37 (Value.string k35) (D.p d7)) fun (y38 : List (ByteArray × Bool))=>X32 (y38, (s33.2.1.1, s33.2.1.2.1, s33.2.1.2.2.1 ++ [i34], s33.2.1.1.length), ())))) (y31, (bI m4, (bI m4).length, [], (bI m4).length), ())) fun (i39:Nat)=>bN (decide (s30.1.1.length = s30.1.1.length)) (HQ Sy.str false bF (pT s30.1.1) (s30.1.2.2.1 ++ [i39]) fun (k40:ByteArray) (y41:Int)=>gH TypeDesc.string (Value.string k40) (List.map (cN Sy.str false Sy.bool) s28.1) false Sy.bool (X29 ((s30.1.1, s30.1.2.1, s30.1.2.2.1 ++ [i39], s30.1.1.length), ())) fun (i42:Nat) (y43:Bool)=>aD y43 (R (T.v (.int .i64 7))) (X29 ((s30.1.1, s30.1.2.1, s30.1.2.2.1 ++ [i39], s30.1.1.length), ()))))) ((bI m4, (bI m4).length,[], (bI m4).length), ())) fun (i44:Nat)=>bN (decide (s28.2.1.1.length = s28.2.1.1.length)) (HQ Sy.str false bF (pT s28.2.1.1) (s28.2.1.2.2.1++[i44]) fun (k45:ByteArray) (y46:Int)=>nV (Option (Nat×D)) (findD TypeDesc.string (LV Sy.str k45) (List.map (cN Sy.str false Sy.bool) s28.1) 0) fun (y47 : Option (Nat×D))=>dN Sy.str false Sy.bool (eZ (List.map (cN Sy.str false Sy.bool) s28.1) y47 (Value.string k45) (D.p d7)) fun (y48 : List (ByteArray×Bool))=>X27 (y48, (s28.2.1.1, s28.2.1.2.1, s28.2.1.2.2.1 ++ [i44], s28.2.1.1.length), ())))) (y26, (bI m3,(bI m3).length,[], (bI m3).length), ())) fun (i49:Nat)=>bN (decide (s25.1.1.length=s25.1.1.length)) (HQ Sy.str false bF (pT s25.1.1) (s25.1.2.2.1++[i49]) fun (k50:ByteArray) (y51:Int)=>gH TypeDesc.string (Value.string k50) (List.map (cN Sy.str false Sy.bool) s23.1) false Sy.bool (X24 ((s25.1.1,s25.1.2.1, s25.1.2.2.1++[i49], s25.1.1.length), ())) fun (i52:Nat) (y53:Bool)=>aD y53 (R (T.v (.int .i64 7))) (X24 ((s25.1.1,s25.1.2.1, s25.1.2.2.1++[i49], s25.1.1.length), ()))))) ((bI m3,(bI m3).length,[], (bI m3).length), ())) fun (i54:Nat)=>bN (decide (s23.2.1.1.length=s23.2.1.1.length)) (HQ Sy.str false bF (pT s23.2.1.1) (s23.2.1.2.2.1++[i54]) fun (k55:ByteArray) (y56:Int)=>nV (Option (Nat×D)) (findD TypeDesc.string (LV Sy.str k55) (List.map (cN Sy.str false Sy.bool) s23.1) 0) fun (y57:Option (Nat×D))=>dN Sy.str false Sy.bool (eZ (List.map (cN Sy.str false Sy.bool) s23.1) y57 (Value.string k55) (D.p d7)) fun (y58:List (ByteArray×Bool))=>X22 (y58, (s23.2.1.1,s23.2.1.2.1, s23.2.1.2.2.1++[i54], s23.2.1.1.length), ())))) (y21, (bI m2,(bI m2).length,[], (bI m2).length), ())) fun (i59:Nat)=>bN (decide (s20.1.1.length=s20.1.1.length)) (HQ Sy.str false bF (pT s20.1.1) (s20.1.2.2.1++[i59]) fun (k60:ByteArray) (y61:Int)=>gH TypeDesc.string (Value.string k60) (List.map (cN Sy.str false Sy.bool) s18.1) false Sy.bool (X19 ((s20.1.1,s20.1.2.1, s20.1.2.2.1++[i59],s20.1.1.length), ())) fun (i62:Nat) (y63:Bool)=>aD y63 (R (T.v (.int .i64 7))) (X19 ((s20.1.1,s20.1.2.1, s20.1.2.2.1++[i59],s20.1.1.length), ()))))) ((bI m2,(bI m2).length,[],(bI m2).length),())) fun (i64:Nat)=>bN (decide (s18.2.1.1.length=s18.2.1.1.length)) (HQ Sy.str false bF (pT s18.2.1.1) (s18.2.1.2.2.1++[i64]) fun (k65:ByteArray) (y66:Int)=>nV (Option (Nat×D)) (findD TypeDesc.string (LV Sy.str k65) (List.map (cN Sy.str false Sy.bool) s18.1) 0) fun (y67:Option (Nat×D))=>dN Sy.str false Sy.bool (eZ (List.map (cN Sy.str false Sy.bool) s18.1) y67 (Value.string k65) (D.p d7)) fun (y68:List (ByteArray×Bool))=>X17 (y68, (s18.2.1.1,s18.2.1.2.1, s18.2.1.2.2.1++[i64],s18.2.1.1.length), ())))) (y16,(bI m1,(bI m1).length,[],(bI m1).length),())) fun (i69:Nat)=>bN (decide (s15.1.1.length=s15.1.1.length)) (HQ Sy.str false bF (pT s15.1.1) (s15.1.2.2.1++[i69]) fun (k70:ByteArray) (y71:Int)=>gH TypeDesc.string (Value.string k70) [] false Sy.bool (X14 ((s15.1.1,s15.1.2.1,s15.1.2.2.1++[i69], s15.1.1.length), ())) fun (i72:Nat) (y73:Bool)=>aD y73 (R (T.v (.int .i64 7))) (X14 ((s15.1.1,s15.1.2.1,s15.1.2.2.1++[i69], s15.1.1.length), ()))))) ((bI m1,(bI m1).length,[],(bI m1).length),())))) (s9.1,1,()))))))
theorem AKW ( a0 m1 m2 m3 m4 R):dH bR Tryz.prog ABC ASS 8 59 (zM a0 m1 m2 m3 m4) R=ACJ a0 m1 m2 m3 m4 R:=by kernel_rfl
abbrev MP:=List (ByteArray×Int)
theorem BG {a b:MP} (h:bI a=bI b):a=b:=map_inj (fun x y h=>by
 simp only[Prod.mk.injEq,Value.string.injEq,T.v.injEq,Value.int.injEq,true_and] at h
 exact Prod.ext h.1 h.2) h
theorem pP {x y:aB×MP×MP×MP×MP} (h:NQ x.1 x.2.1 x.2.2.1 x.2.2.2.1 x.2.2.2.2=NQ y.1 y.2.1 y.2.2.1 y.2.2.2.1 y.2.2.2.2):x=y:=by
 simp only[NQ,T.ref.injEq,List.cons.injEq,T.mp.injEq,and_true] at h
 obtain ⟨h0,h1,h2,h3,h4⟩:=h
 exact Prod.ext (Sy.cY aC _ _ h0) (Prod.ext (BG h1) (Prod.ext (BG h2) (Prod.ext (BG h3) (BG h4))))
theorem AA4 (x y:aB×MP×MP×MP×MP) (h:zM x.1 x.2.1 x.2.2.1 x.2.2.2.1 x.2.2.2.2=zM y.1 y.2.1 y.2.2.1 y.2.2.2.1 y.2.2.2.2):x=y:=pP (List.cons.inj h).1
def kL (d:aB):Bool:=decide (64<d.2.1.length)||decide (256<d.2.2.1.length)||decide (256<d.2.2.2.1.length)||decide (64<d.2.2.2.2.1.length)||decide (256<d.2.2.2.2.2.length)
def B9 (d:aB):Bool:=sR (ids d.2.1)&&sR (ids d.2.2.1)&&sR (ids d.2.2.2.1)&&sR (ids d.2.2.2.2.1)&&AC6 d.2.2.2.2.2
def A7T (l1 l2 l3 l4:List ByteArray):Bool:=(l2.any (TH l1))||(l3.any fun x=>TH l1 x||TH l2 x)||(l4.any fun x=>TH l1 x||TH l2 x||TH l3 x)
def ADL (d:aB):Bool:=A7T (ids d.2.1) (ids d.2.2.1) (ids d.2.2.2.1) (ids d.2.2.2.2.1)
def lA (d:aB):Int:=if kL d=true then 4 else if B9 d=false then 11 else if ADL d=true then 7 else 0
def BA0 (x:aB×MP×MP×MP×MP):Bool:=decide (x.2.1=gX (ids x.1.2.1))&&decide (x.2.2.1=gX (ids x.1.2.2.1))&&decide (x.2.2.2.1=gX (ids x.1.2.2.2.1))&&decide (x.2.2.2.2=gX (ids x.1.2.2.2.2.1)) &&
 (decide (x.1.2.1.length≤140737488355328)&&decide (x.1.2.2.1.length≤140737488355328)&&decide (x.1.2.2.2.1.length≤140737488355328)&&decide (x.1.2.2.2.2.1.length≤140737488355328)&&decide (x.1.2.2.2.2.2.length≤140737488355328))
structure mE (d:aB):Prop where
 n:d.2.1.length≤140737488355328
 p:d.2.2.1.length≤140737488355328
 s:d.2.2.2.1.length≤140737488355328
 k:d.2.2.2.2.1.length≤140737488355328
 r:d.2.2.2.2.2.length≤140737488355328
theorem L9 {x:aB×MP×MP×MP×MP}:BA0 x=true↔x=(x.1,gX (ids x.1.2.1),gX (ids x.1.2.2.1),gX (ids x.1.2.2.2.1),gX (ids x.1.2.2.2.2.1))∧mE x.1:=by
 obtain ⟨d,a,b,c,e⟩:=x
 simp only[BA0,Bool.and_eq_true,decide_eq_true_eq,Prod.mk.injEq,true_and]
 constructor
 ·rintro ⟨⟨⟨⟨rfl,rfl⟩,rfl⟩,rfl⟩,⟨⟨⟨h1,h2⟩,h3⟩,h4⟩,h5⟩
  exact ⟨⟨rfl,rfl,rfl,rfl⟩,h1,h2,h3,h4,h5⟩
 ·rintro ⟨⟨rfl,rfl,rfl,rfl⟩,h1,h2,h3,h4,h5⟩
  exact ⟨⟨⟨⟨rfl,rfl⟩,rfl⟩,rfl⟩,⟨⟨⟨h1,h2⟩,h3⟩,h4⟩,h5⟩
def uM (x:aB×MP×MP×MP×MP) (t:T):Option T:=match BA0 x with
 | true=>some t
 | false=>none
theorem nH {x:aB×MP×MP×MP×MP} {t r:T} (h:uM x t=some r):x=(x.1,gX (ids x.1.2.1),gX (ids x.1.2.2.1),gX (ids x.1.2.2.2.1),gX (ids x.1.2.2.2.2.1))∧mE x.1∧r=t:=by
 unfold uM at h;split at h
 ·rename_i hc
  cases h
  exact ⟨(L9.1 hc).1,(L9.1 hc).2,rfl⟩
 ·cases h
theorem nJ {d:aB} (h:mE d) (t:T):uM (d,gX (ids d.2.1),gX (ids d.2.2.1),gX (ids d.2.2.2.1),gX (ids d.2.2.2.2.1)) t=some t:=by
 unfold uM;rw[L9.2 ⟨rfl,h⟩]
def UG (x:aB×MP×MP×MP×MP):Option T:=uM x (T.v (Value.int .i64 (lA x.1)))
noncomputable def LN:List T→Option (T):=gA (fun (x:aB×(List (ByteArray×Int))×(List (ByteArray×Int))×(List (ByteArray×Int))×List (ByteArray×Int))=>zM x.1 x.2.1 x.2.2.1 x.2.2.2.1 x.2.2.2.2) UG
theorem AM6 (a0:aB) (m1:List (ByteArray×Int)) (m2:List (ByteArray×Int)) (m3:List (ByteArray×Int)) (m4:List (ByteArray×Int)):LN (zM a0 m1 m2 m3 m4)=UG (a0,m1,m2,m3,m4):=dS (A:=(fun (x:aB×(List (ByteArray×Int))×(List (ByteArray×Int))×(List (ByteArray×Int))×List (ByteArray×Int))=>zM x.1 x.2.1 x.2.2.1 x.2.2.2.1 x.2.2.2.2)) AA4 (a0,m1,m2,m3,m4)
theorem A4G (h:∀ (a0:aB) (m1:List (ByteArray×Int)) (m2:List (ByteArray×Int)) (m3:List (ByteArray×Int)) (m4:List (ByteArray×Int)) (r:T),UG (a0,m1,m2,m3,m4)=some r→(∀ t∈zM a0 m1 m2 m3 m4,Bd t)→ACJ a0 m1 m2 m3 m4 (fun y=>y=r)):aN Tryz.prog 59 LN :=
 b7 (E:=ABC) (Hs:=ASS) AQR aR aU (aL rfl) 8 ⟨_,_,Tryz.func59,rfl⟩ fun x r h1 h2=>by
  rw[AKW]
  exact h x.1 x.2.1 x.2.2.1 x.2.2.2.1 x.2.2.2.2 r h1 h2
theorem IC {A:List T} {b:Bool} (h:uR A=some (T.v (.bool b))) (K:Bool→Prop) (hk:K b):aI [(false,Sy.bool)] (uR A) K:=aG (s:=[(false,Sy.bool)]) (y:=b) h hk
theorem A3E:aN Tryz.prog 59 LN:=A4G fun d m1 m2 m3 m4 r h hb=>by
 obtain ⟨hx,hs,rfl⟩:=nH h
 simp only[Prod.mk.injEq,true_and] at hx
 obtain ⟨rfl,rfl,rfl,rfl⟩:=hx
 clear h
 have is:∀ {n:Int},lA d=n→T.v (.int .i64 n)=T.v (.int .i64 (lA d)):=fun h=>by rw[h]
 have long:kL d=true→lA d=4:=fun h=>by unfold lA;rw[if_pos h]
 unfold ACJ f9 f5 M2 LE AC v6 t8 d7 d4 bF
 refine bZ (fun h=>is (long (by rw[List.length_map] at h;simp only[kL,Bool.or_eq_true,decide_eq_true_eq];omega))) fun l1=>?_
 refine bZ (fun h=>is (long (by rw[List.length_map] at h;simp only[kL,Bool.or_eq_true,decide_eq_true_eq];omega))) fun l2=>?_
 refine bZ (fun h=>is (long (by rw[List.length_map] at h;simp only[kL,Bool.or_eq_true,decide_eq_true_eq];omega))) fun l3=>?_
 refine bZ (fun h=>is (long (by rw[List.length_map] at h;simp only[kL,Bool.or_eq_true,decide_eq_true_eq];omega))) fun l4=>?_
 refine bZ (fun h=>is (long (by rw[List.length_map] at h;simp only[kL,Bool.or_eq_true,decide_eq_true_eq];omega))) fun l5=>?_
 rw[List.length_map] at l1 l2 l3 l4 l5
 have notLong:kL d=false:=by simp only[kL,Bool.or_eq_false_iff,decide_eq_false_iff_not];omega
 refine IC (by rw[List.length_map];exact A85 hs.n) _ ?_
 have step:∀ {b c:Bool} {A:List T} {Z:Bool×PUnit→Prop},uR A=some (T.v (.bool c))→Z (b&&c,())→qO (Bool×PUnit) (fun (X:Bool×PUnit→Prop)=>aD b (aI [(false,Sy.bool)] (uR A) fun (y2:Bool)=>X (y2,())) (X (false,()))) Z:=fun {b c A Z} hA hZ=>by
  rw[xK]
  cases b with
  | true=>rw[jY];exact IC hA _ hZ
  | false=>rw[mM];exact hZ
 refine step (by rw[List.length_map];exact A86 hs.p) ?_
 refine step (by rw[List.length_map];exact A87 hs.s) ?_
 refine step (by rw[List.length_map];exact A88 hs.k) ?_
 refine bK d.2.2.2.2.2.length (fun k s=>∃ b,s=(b,((k+1:Nat):Int),())∧(b&&AC6 (d.2.2.2.2.2.drop k))=B9 d) ⟨_,rfl,by rw[List.drop_zero];rfl⟩ ?_
 rintro X k s hk ⟨b,rfl,he⟩ hX
 dsimp only
 have hr:=hs.r
 have hw:IntKind.i64.wrap (((k+1:Nat):Int)+1)=((k+1+1:Nat):Int):=bB _ (by omega) (by omega)
 have hw1:IntKind.i64.wrap (((k+1:Nat):Int)-1)=((k:Nat):Int):=by rw[bB _ (by omega) (by omega)];omega
 refine bZ (fun hlt=>?_) fun hge=>?_
 ·have hlt:k+1<d.2.2.2.2.2.length:=by rw[List.length_map] at hlt;omega
  rw[hw1,bD (r:=aP) (show k<d.2.2.2.2.2.length by omega),bD (r:=aP) hlt,hw]
  rw[ALI hlt] at he
  have go:∀ c,(b&&ltN d.2.2.2.2.2[k] d.2.2.2.2.2[k+1])=c→X (c,((k+1+1:Nat):Int),()):=fun c hc=>hX _ (by omega) ⟨c,rfl,by rw[←hc,Bool.and_assoc];exact he⟩
  generalize d.2.2.2.2.2[k]=u at go
  generalize d.2.2.2.2.2[k+1]=v at go
  cases b with
  | false=>rw[mM];exact go _ rfl
  | true =>
   rw[jY]
   simp only[Bool.true_and,ltN] at go
   refine bZ (fun h=>go _ (by simp[h])) fun h1=>?_
   refine bZ (fun h2=>?_) fun h2=>go _ (by simp[h1,h2])
   refine E5 (fun h3=>go _ (by simp[h2,h3])) fun h3=>?_
   refine bZ (fun h4=>go _ (by rw[decide_eq_false h1,decide_eq_true h2,h3,decide_eq_true h4];rfl)) fun h4=>go _ (by rw[decide_eq_false h1,decide_eq_true h2,h3,decide_eq_false h4];rfl)
 ·rw[List.length_map] at hge
  rw[ATL (by omega),Bool.and_true] at he
  refine kQ (fun h=>is (by unfold lA;rw[notLong,if_neg (by simp),←he,h];rfl)) fun h=>?_
  have dup:ADL d=true→T.v (.int .i64 7)=T.v (.int .i64 (lA d)):=fun h7=>is (by unfold lA;rw[notLong,if_neg (by simp),←he,h,if_neg (by simp),if_pos h7])
  have dup':(∃ i,∃ h:i<(gX (ids d.2.2.1)).length,(gX (ids d.2.2.1))[i].1∈ids d.2.1)∨(∃ i,∃ h:i<(gX (ids d.2.2.2.1)).length,(gX (ids d.2.2.2.1))[i].1∈ids d.2.1∨(gX (ids d.2.2.2.1))[i].1∈ids d.2.2.1)∨(∃ i,∃ h:i<(gX (ids d.2.2.2.2.1)).length,((gX (ids d.2.2.2.2.1))[i].1∈ids d.2.1∨(gX (ids d.2.2.2.2.1))[i].1∈ids d.2.2.1)∨(gX (ids d.2.2.2.2.1))[i].1∈ids d.2.2.2.1)→ADL d=true:=by
   intro h
   simp only[ADL,A7T,Bool.or_eq_true,List.any_eq_true,C2]
   rcases h with ⟨i,hi,h⟩|⟨i,hi,h⟩|⟨i,hi,h⟩
   ·exact .inl (.inl ⟨_,j6.1 ⟨i,hi,rfl⟩,h⟩)
   ·exact .inl (.inr ⟨_,j6.1 ⟨i,hi,rfl⟩,h⟩)
   ·exact .inr ⟨_,j6.1 ⟨i,hi,rfl⟩,h⟩
  have m1:=fun id=>(@j6 (ids d.2.1) id)
  refine A2P (m:=gX (ids d.2.1)) (es:=[]) (R7:=T.v (.int .i64 7)=T.v (.int .i64 (lA d))) Seen.nil (fun h=>by obtain ⟨_,_,h⟩:=h;exact h.elim) fun _=>?_
  refine A2D (m:=gX (ids d.2.1)) (es:=[]) Seen.nil fun e1 rs1 s1=>?_
  have s1:=s1.congr (S':=fun id=>id∈ids d.2.1) fun id=>by rw[j6];simp
  refine A2P (m:=gX (ids d.2.2.1)) s1 (fun h=>dup (dup' (.inl h))) fun n1=>?_
  refine A2D (m:=gX (ids d.2.2.1)) s1 fun e2 rs2 s2=>?_
  have s2:=s2.congr (S':=fun id=>id∈ids d.2.1∨id∈ids d.2.2.1) fun id=>by rw[j6]
  refine A2P (m:=gX (ids d.2.2.2.1)) s2 (fun h=>dup (dup' (.inr (.inl h)))) fun n2=>?_
  refine A2D (m:=gX (ids d.2.2.2.1)) s2 fun e3 rs3 s3=>?_
  have s3:=s3.congr (S':=fun id=>(id∈ids d.2.1∨id∈ids d.2.2.1)∨id∈ids d.2.2.2.1) fun id=>by rw[j6]
  refine A2P (m:=gX (ids d.2.2.2.2.1)) s3 (fun h=>dup (dup' (.inr (.inr h)))) fun n3=>?_
  refine A2D (m:=gX (ids d.2.2.2.2.1)) s3 fun e4 rs4 s4=>is ?_
  have nd:ADL d=false:=by
   rw[Bool.eq_false_iff]
   intro h
   simp only[ADL,A7T,Bool.or_eq_true,List.any_eq_true,C2] at h
   rcases h with (⟨x,hx,h⟩|⟨x,hx,h⟩)|⟨x,hx,h⟩
   ·obtain ⟨i,hi,rfl⟩:=j6.2 hx;exact n1 i hi h
   ·obtain ⟨i,hi,rfl⟩:=j6.2 hx;exact n2 i hi h
   ·obtain ⟨i,hi,rfl⟩:=j6.2 hx;exact n3 i hi h
  unfold lA;rw[notLong,if_neg (by simp),←he,h,if_neg (by simp),nd,if_neg (by simp)]
end Go.Pv
namespace Go.Pv
open Go Go.Proofs
def BDH:List T→Option T:=fun _=>none
theorem aN.nil {P:Program} {f:FuncId} (h:∃ fn,P.funcs[f]? = some fn∧(fn.name == "runtime.NumGoroutine")=false∧fn.body.isNone=false):aN P f BDH:=⟨h,fun _ _ _ _ _ _ _ _ h=>by cases h⟩
theorem ZU (es:MP):pT (bI es)=List.map (cN Sy.str false (Sy.int IntKind.i64)) es:=by
 unfold pT bI
 rw[List.map_map];rfl
theorem PY {α:Type} (id:ByteArray):∀ (l:List (ByteArray×α)) (i:Nat) (es:MP),(∃ v,e6 es id=some v∧e6 (FA (ids l) i es) id=some v)∨(e6 es id=none∧e6 (FA (ids l) i es) id=none∧l.find? (fun s=>decide (s.1=id))=none) ∨
  (e6 es id=none∧∃ k,∃ h:k<l.length,e6 (FA (ids l) i es) id=some ((i+k:Nat):Int)∧l.find? (fun s=>decide (s.1=id))=some l[k])
 | [],i,es=>by
  cases h:e6 es id with
  | none=>exact .inr (.inl ⟨rfl,by simpa [ids,FA] using h,rfl⟩)
  | some v=>exact .inl ⟨v,rfl,by simpa [ids,FA] using h⟩
 | a::l,i,es=>by
  have hs:ids (a::l)=a.1::ids l:=rfl
  rw[hs]
  simp only[FA]
  have ih:=PY id l (i+1) (match e6 es a.1 with|none=>uS es a.1 (i:Int)|some _=>es)
  by_cases ha:a.1=id
  ·subst ha
   cases hc:e6 es a.1 with
   | some v =>
    simp only[hc] at ih ⊢
    rcases ih with ⟨v',h1,h2⟩|⟨h1,_⟩|⟨h1,_⟩
    ·exact .inl ⟨v',h1,h2⟩
    ·cases h1
    ·cases h1
   | none =>
    simp only[hc] at ih ⊢
    have hg:e6 (uS es a.1 (i:Int)) a.1=some (i:Int):=by rw[wC];simp
    rw[hg] at ih
    rcases ih with ⟨v',h1,h2⟩|⟨h1,_⟩|⟨h1,_⟩
    ·cases h1
     exact .inr (.inr ⟨by first|rfl|trivial,0,by simp,by simpa using h2,by simp⟩)
    ·cases h1
    ·cases h1
  ·have hg:e6 (match e6 es a.1 with|none=>uS es a.1 (i:Int)|some _=>es) id=e6 es id:=by
    cases hc:e6 es a.1 with
    | none=>simp only[wC,ha,if_false]
    | some v=>rfl
   rw[hg] at ih
   rcases ih with ⟨v',h1,h2⟩|⟨h1,h2,h3⟩|⟨h1,k,hk,h2,h3⟩
   ·exact .inl ⟨v',h1,h2⟩
   ·exact .inr (.inl ⟨h1,h2,by rw[List.find?_cons_of_neg (by simpa using ha)];exact h3⟩)
   ·exact .inr (.inr ⟨h1,k+1,by simpa using hk,h2.trans (by congr 2;omega),by rw[List.find?_cons_of_neg (by simpa using ha)];simpa using h3⟩)
theorem B7 {α:Type} (id:ByteArray) (l:List (ByteArray×α)):(e6 (gX (ids l)) id=none∧l.find? (fun s=>decide (s.1=id))=none)∨(∃ k,∃ h:k<l.length,e6 (gX (ids l)) id=some (k:Int)∧l.find? (fun s=>decide (s.1=id))=some l[k]):=by
 rcases PY id l 0 [] with ⟨v,h,_⟩|⟨_,h1,h2⟩|⟨_,k,hk,h1,h2⟩
 ·cases h
 ·exact .inl ⟨h1,h2⟩
 ·exact .inr ⟨k,hk,h1.trans (by rw[Nat.zero_add]),h2⟩
theorem ixK {α:Type} {id:ByteArray} {l:List (ByteArray×α)} {A:Prop} {B:Nat→Int→Prop} (hA:l.find? (fun s=>decide (s.1=id))=none→A) (hB:∀ i k (h:k<l.length),l.find? (fun s=>decide (s.1=id))=some l[k]→B i (k:Int)) :
  gH TypeDesc.string (Value.string id) (pT (bI (gX (ids l)))) false (Sy.int IntKind.i64) A B:=by
 rw[ZU]
 refine BK (r:=.int .i64) (fun h=>hA ?_) fun i v h=>?_
 ·rcases B7 id l with ⟨_,h2⟩|⟨k,hk,h1,_⟩
  ·exact h2
  ·rw[h] at h1;cases h1
 ·rcases B7 id l with ⟨h1,_⟩|⟨k,hk,h1,h2⟩
  ·rw[h] at h1;cases h1
  ·rw[h] at h1;cases h1;exact hB i k hk h2
def lK (a0:aB) (m1:List (ByteArray×Int)) (m2:List (ByteArray×Int)) (m3:List (ByteArray×Int)) (m4:List (ByteArray×Int)) (a5:ByteArray):List T:=[NQ a0 m1 m2 m3 m4,T.v (.string a5)]
noncomputable def I6:Env:=Env.of []
def V6:FuncId→Hint:=bV 135 [(3,.inv [.val 1 false .str,.own 6 1 .str,.val 9 false (.int .i64)])] (fun _=>aX)
theorem AB5:aQ Tryz.prog I6:=.nil _
def JX(a0:aB)(m1:List (ByteArray×Int))(m2:List (ByteArray×Int))(m3:List (ByteArray×Int))(m4:List (ByteArray×Int))(a5:ByteArray)(R:T→Prop):Prop:=a7 (ByteArray×List ByteArray×Int×PUnit) (fun X0 s1=>aD (decide (s1.2.2.1<65)) (gH TypeDesc.string (Value.string s1.1) (pT (bI m1)) false bF (R (T.bU [T.sl false [],T.v (.bool false)])) fun (i2:Nat) (y3:Int)=>aS aV (t8 a0) y3 fun (y4:dC)=>bN (decide (((List.map Sy.str.enc s1.2.1).length+1)*16≤140737488355328) && decide ((List.map Sy.str.enc s1.2.1).length+1≤140737488355328)) (aD (decide (y4.2.1=1)) (R (T.bU [T.sl false (List.map Sy.str.enc s1.2.1++[[T.v (.string s1.1)]]), T.v (.bool true)])) (bL Sy.str (List.map Sy.str.enc s1.2.1++[[T.v (.string s1.1)]]) fun (y5:List ByteArray)=>X0 (y4.2.2,y5,IntKind.i64.wrap (s1.2.2.1+1),())))) (R (T.bU [T.sl false [],T.v (.bool false)]))) (a5,[],0,())
theorem VY ( a0 m1 m2 m3 m4 a5 R):dH bR Tryz.prog I6 V6 8 105 (lK a0 m1 m2 m3 m4 a5) R=JX a0 m1 m2 m3 m4 a5 R:=by kernel_rfl
theorem A9 (x y:aB×MP×MP×MP×MP×ByteArray) (h:lK x.1 x.2.1 x.2.2.1 x.2.2.2.1 x.2.2.2.2.1 x.2.2.2.2.2=lK y.1 y.2.1 y.2.2.1 y.2.2.2.1 y.2.2.2.2.1 y.2.2.2.2.2):x=y:=by
 obtain ⟨h1,h2⟩:=List.cons.inj h
 have:=pP (x:=(x.1,x.2.1,x.2.2.1,x.2.2.2.1,x.2.2.2.2.1)) (y:=(y.1,y.2.1,y.2.2.1,y.2.2.2.1,y.2.2.2.2.1)) h1
 simp only[List.cons.injEq,T.v.injEq,Value.string.injEq,and_true] at h2
 simp only[Prod.mk.injEq] at this
 obtain ⟨e1,e2,e3,e4,e5⟩:=this
 exact Prod.ext e1 (Prod.ext e2 (Prod.ext e3 (Prod.ext e4 (Prod.ext e5 h2))))
def GQ (x:aB×MP×MP×MP×MP×ByteArray):Option T:=uM (x.1,x.2.1,x.2.2.1,x.2.2.2.1,x.2.2.2.2.1) (Sh.enc [(false,.li .str),(false,.bool)] (up x.1 x.2.2.2.2.2))
noncomputable def j5:List T→Option (T):=gA (fun (x:aB×(List (ByteArray×Int))×(List (ByteArray×Int))×(List (ByteArray×Int))×(List (ByteArray×Int))×ByteArray)=>lK x.1 x.2.1 x.2.2.1 x.2.2.2.1 x.2.2.2.2.1 x.2.2.2.2.2) GQ
theorem ZF (a0:aB) (m1:List (ByteArray×Int)) (m2:List (ByteArray×Int)) (m3:List (ByteArray×Int)) (m4:List (ByteArray×Int)) (a5:ByteArray):j5 (lK a0 m1 m2 m3 m4 a5)=GQ (a0,m1,m2,m3,m4,a5):=dS (A:=(fun (x:aB×(List (ByteArray×Int))×(List (ByteArray×Int))×(List (ByteArray×Int))×(List (ByteArray×Int))×ByteArray)=>lK x.1 x.2.1 x.2.2.1 x.2.2.2.1 x.2.2.2.2.1 x.2.2.2.2.2)) A9 (a0,m1,m2,m3,m4,a5)
theorem AON (h:∀ (a0:aB) (m1:List (ByteArray×Int)) (m2:List (ByteArray×Int)) (m3:List (ByteArray×Int)) (m4:List (ByteArray×Int)) (a5:ByteArray) (r:T),GQ (a0,m1,m2,m3,m4,a5)=some r→(∀ t∈lK a0 m1 m2 m3 m4 a5,Bd t)→JX a0 m1 m2 m3 m4 a5 (fun y=>y=r)):aN Tryz.prog 105 j5 :=
 b7 (E:=I6) (Hs:=V6) AB5 aR aU (aL rfl) 8 ⟨_,_,Tryz.func105,rfl⟩ fun x r h1 h2=>by
  rw[VY]
  exact h x.1 x.2.1 x.2.2.1 x.2.2.2.1 x.2.2.2.2.1 x.2.2.2.2.2 r h1 h2
theorem PF:aN Tryz.prog 105 j5:=AON fun d m1 m2 m3 m4 id0 r h hb=>by
 obtain ⟨hx,hs,rfl⟩:=nH h
 simp only[Prod.mk.injEq,true_and] at hx
 obtain ⟨rfl,rfl,rfl,rfl⟩:=hx
 clear h
 unfold JX t8 bF
 refine bK 65 (fun k s=>∃ id' l',s=(id',l',(k:Int),())∧l'.length=k∧upF d (65-k) id' l'=up d id0) ⟨id0,[],rfl,rfl,rfl⟩ ?_
 rintro X k s hk ⟨id',l',rfl,hl,hu⟩ hX
 dsimp only
 have stop:up d id0=([],false)→T.bU [T.sl false [],T.v (.bool false)]=Sh.enc [(false,.li .str),(false,.bool)] (up d id0):=fun h=>by rw[h];rfl
 refine bZ (fun hlt=>?_) fun hge=>stop ?_
 ·have hlt:k<65:=by omega
  obtain ⟨m,hm⟩:∃ m,65-k=m+1:=⟨64-k,by omega⟩
  rw[hm] at hu
  simp only[upF] at hu
  refine ixK (fun hn=>stop ?_) fun i j hj hn=>?_
  ·have hn:iC d id'=none:=hn
   rw[hn] at hu;exact hu.symm
  ·have hn:iC d id'=some d.2.1[j]:=hn
   simp only[hn] at hu
   rw[bD (r:=aV) hj,A7I (by omega),AUA]
   refine bZ (fun h1=>?_) fun h1=>?_
   ·rw[if_pos h1] at hu
    rw[←hu,AUH];rfl
   ·rw[if_neg h1] at hu
    exact hX _ hlt ⟨_,_,by rw[show IntKind.i64.wrap ((k:Int)+1)=((k+1:Nat):Int) from bB _ (by omega) (by omega)],by simp[hl],by rw[←hu];congr 1;omega⟩
 ·have:65-k=0:=by omega
  rw[this] at hu
  exact hu.symm
def nZ (d:aB) (n:dC):Int:=if pF n.1=false then 6 else if ¬ n.2.1=1∧¬ n.2.1=2 then 10 else if n.2.1=1∧¬ n.2.2 = { data:=#[] } then 2 else if n.2.1=2∧(iC d n.2.2).isNone=true then 8 else 0
def Z3 (d:aB):Bool:=d.2.1.any fun n=>!(up d n.1).2
def O1 (d:aB):Bool:=d.2.1.any fun n=>decide (8<(up d n.1).1.length)
def gP (d:aB):Int:=if bP (nZ d) d.2.1=0 then (if Z3 d=true then 20 else if O1 d=true then 13 else 0) else bP (nZ d) d.2.1
def o0 (a0:aB) (m1:List (ByteArray×Int)) (m2:List (ByteArray×Int)) (m3:List (ByteArray×Int)) (m4:List (ByteArray×Int)):List T:=[NQ a0 m1 m2 m3 m4]
noncomputable def I1:Env:=Env.of [(82,.pure dV),(105,.pure j5)]
def V1:FuncId→Hint:=bV 60 [(2,.inv [.val 20 false (.int .i64)]),(16,.inv [.val 7 false .bool,.val 74 false (.int .i64)])] (fun _=>aX)
theorem ABH:aQ Tryz.prog I1:=.cons BM (.cons PF (.nil _))
def i8(R:T→Prop):Prop:=R (T.v (.int .i64 8))
def UV(R:T→Prop):Prop:=R (T.v (.int .i64 2))
def WF:T:=T.v (.int .i64 10)
def ACM(R:T→Prop):Prop:=R (T.v (.int .i64 6))
def AIG(R:T→Prop):Prop:=R (T.v (.int .i64 0))
def BE3(y2:dC)(R:T→Prop)(X0:Int×PUnit→Prop)(s1:Int×PUnit):Prop:=aD (decide (y2.2.1=1)) (aD (!decide (y2.2.2 = {data:=#[]})) (UV R) (aD (decide (y2.2.1=2)) (f7 X0 s1) (f7 X0 s1))) (aD (decide (y2.2.1=2)) (f7 X0 s1) (f7 X0 s1))
def BE6(y2:dC)(R:T→Prop)(X0:Int×PUnit→Prop)(s1:Int×PUnit):Prop:=aD (decide (y2.2.1=1)) (aD (!decide (y2.2.2 = {data:=#[]})) (UV R) (aD (decide (y2.2.1=2)) (i8 R) (f7 X0 s1))) (aD (decide (y2.2.1=2)) (i8 R) (f7 X0 s1))
def I8(a0:aB)(m1:List (ByteArray×Int))(m2:List (ByteArray×Int))(m3:List (ByteArray×Int))(m4:List (ByteArray×Int))(R:T→Prop):Prop:=a7 (Int×PUnit) (fun X0 s1=>aD (decide (s1.1<(↑(t8 a0).length:Int))) (aS aV (t8 a0) s1.1 fun (y2:dC)=>gH TypeDesc.string (Value.string y2.2.2) (pT (bI m1)) false bF (aI d4 (dV [T.v (.string y2.1)]) fun (y6:Bool)=>aD (!y6) (ACM R) (aD (!decide (y2.2.1=1)) (aD (!decide (y2.2.1=2)) (R WF) (BE6 y2 R X0 s1)) (BE6 y2 R X0 s1))) fun (i3:Nat) (y4:Int)=>aI d4 (dV [T.v (.string y2.1)]) fun (y5:Bool)=>aD (!y5) (ACM R) (aD (!decide (y2.2.1=1)) (aD (!decide (y2.2.1=2)) (R WF) (BE3 y2 R X0 s1)) (BE3 y2 R X0 s1))) (a7 (Bool×Int×PUnit) (fun X7 s8=>aD (decide (s8.2.1<(↑(t8 a0).length:Int))) (aS aV (t8 a0) s8.2.1 fun (y9:dC)=>aI [(false,Sy.str.li),(false,Sy.bool)] (j5 [T.ref [T.ref (f9 a0), T.mp (bI m1),T.mp (bI m2),T.mp (bI m3), T.mp (bI m4)], T.v (.string y9.1)]) fun (y10:List ByteArray×Bool)=>aD (!y10.2) (R (T.v (.int .i64 20))) (aD s8.1 (X7 (true,IntKind.i64.wrap (s8.2.1+1),())) (X7 (decide (8<(↑(List.map Sy.str.enc y10.1).length:Int)), IntKind.i64.wrap (s8.2.1+1),())))) (aD s8.1 (R (T.v (.int .i64 13))) (AIG R))) (false,0,()))) (0,())
theorem VT ( a0 m1 m2 m3 m4 R):dH bR Tryz.prog I1 V1 8 60 (o0 a0 m1 m2 m3 m4) R=I8 a0 m1 m2 m3 m4 R:=by kernel_rfl
theorem Q5 (x y:aB×MP×MP×MP×MP) (h:o0 x.1 x.2.1 x.2.2.1 x.2.2.2.1 x.2.2.2.2=o0 y.1 y.2.1 y.2.2.1 y.2.2.2.1 y.2.2.2.2):x=y:=pP (List.cons.inj h).1
def GG (x:aB×MP×MP×MP×MP):Option T:=uM x (T.v (Value.int .i64 (gP x.1)))
noncomputable def vO:List T→Option (T):=gA (fun (x:aB×(List (ByteArray×Int))×(List (ByteArray×Int))×(List (ByteArray×Int))×List (ByteArray×Int))=>o0 x.1 x.2.1 x.2.2.1 x.2.2.2.1 x.2.2.2.2) GG
theorem XN (a0:aB) (m1:List (ByteArray×Int)) (m2:List (ByteArray×Int)) (m3:List (ByteArray×Int)) (m4:List (ByteArray×Int)):vO (o0 a0 m1 m2 m3 m4)=GG (a0,m1,m2,m3,m4):=dS (A:=(fun (x:aB×(List (ByteArray×Int))×(List (ByteArray×Int))×(List (ByteArray×Int))×List (ByteArray×Int))=>o0 x.1 x.2.1 x.2.2.1 x.2.2.2.1 x.2.2.2.2)) Q5 (a0,m1,m2,m3,m4)
theorem ANZ (h:∀ (a0:aB) (m1:List (ByteArray×Int)) (m2:List (ByteArray×Int)) (m3:List (ByteArray×Int)) (m4:List (ByteArray×Int)) (r:T),GG (a0,m1,m2,m3,m4)=some r→(∀ t∈o0 a0 m1 m2 m3 m4,Bd t)→I8 a0 m1 m2 m3 m4 (fun y=>y=r)):aN Tryz.prog 60 vO :=
 b7 (E:=I1) (Hs:=V1) ABH aR aU (aL rfl) 8 ⟨_,_,Tryz.func60,rfl⟩ fun x r h1 h2=>by
  rw[VT]
  exact h x.1 x.2.1 x.2.2.1 x.2.2.2.1 x.2.2.2.2 r h1 h2
theorem G7 {d:aB} (hs:mE d) (id:ByteArray):j5 (lK d (gX (ids d.2.1)) (gX (ids d.2.2.1)) (gX (ids d.2.2.2.1)) (gX (ids d.2.2.2.2.1)) id)=some (Sh.enc [(false,.li .str),(false,.bool)] (up d id)):=by
 rw[ZF];exact nJ hs _
theorem mL (s:ByteArray) (K:Bool→Prop):aI [(false,Sy.bool)] (dV [T.v (.string s)]) K=K (pF s):=by
 rw[show dV [T.v (.string s)]=DL s from PM]
 exact AAG _ K
theorem AMB:aN Tryz.prog 60 vO:=ANZ fun d m1 m2 m3 m4 r h hb=>by
 obtain ⟨hx,hs,rfl⟩:=nH h
 simp only[Prod.mk.injEq,true_and] at hx
 obtain ⟨rfl,rfl,rfl,rfl⟩:=hx
 clear h
 have is:∀ {n:Int},gP d=n→T.v (.int .i64 n)=T.v (.int .i64 (gP d)):=fun h=>by rw[h]
 unfold I8 BE6 BE3 AIG f9 f7 ACM WF UV i8 M2 LE AC v6 t8 d4 bF
 refine o9 (r:=aV) (nZ d) hs.n (fun X s y hy hok hbad=>?_) fun h0=>?_
 ·have bad:∀ {n:Int},n≠0→nZ d y=n→T.v (.int .i64 n)=T.v (.int .i64 (gP d)):=fun hn h=>is (by
   have:=hbad (by rw[h];exact hn)
   unfold gP
   rw[if_neg (by rw[this,h];exact hn),this,h])
  have tail:∀ {Z2 Z:Prop},pF y.1=true→(y.2.1=2→Z2)→(nZ d y=0→Z) →
   aD (!decide (y.2.1=1))
        (aD (!decide (y.2.1=2)) (T.v (.int .i64 10)=T.v (.int .i64 (gP d)))
         (aD (decide (y.2.1=1))
          (aD (!decide (y.2.2 = { data:=#[] })) (T.v (.int .i64 2)=T.v (.int .i64 (gP d)))
           (aD (decide (y.2.1=2)) Z2 Z))
          (aD (decide (y.2.1=2)) Z2 Z)))
        (aD (decide (y.2.1=1))
         (aD (!decide (y.2.2 = { data:=#[] })) (T.v (.int .i64 2)=T.v (.int .i64 (gP d)))
          (aD (decide (y.2.1=2)) Z2 Z))
         (aD (decide (y.2.1=2)) Z2 Z)):=by
   intro Z2 Z hid h2 h1
   refine lI (fun g1=>?_) fun g1=>?_
   ·refine lI (fun g2=>bad (by decide) (by unfold nZ;rw[if_neg (by simp[hid]),if_pos ⟨g1,g2⟩])) fun g2=>?_
    refine bZ (fun h=>absurd h g1) fun _=>?_
    exact bZ (fun _=>h2 g2) fun h=>absurd g2 h
   ·refine bZ (fun _=>?_) fun h=>absurd g1 h
    refine lI (fun g3=>bad (by decide) (by unfold nZ;rw[if_neg (by simp[hid]),if_neg (by simp[g1]),if_pos ⟨g1,g3⟩])) fun g3=>?_
    exact bZ (fun h=>by rw[g1] at h;cases h) fun h=>h1 (by unfold nZ;rw[if_neg (by simp[hid]),if_neg (by simp[g1]),if_neg (by simp[g3]),if_neg (by simp[h])])
  refine ixK (fun hn=>?_) fun i j hj hn=>?_
  ·have hn:iC d y.2.2=none:=hn
   rw[mL]
   refine kQ (fun hid=>bad (by decide) (by unfold nZ;rw[if_pos hid])) fun hid=>?_
   refine tail hid (fun h2=>bad (by decide) ?_) fun h0=>hok h0
   unfold nZ;rw[if_neg (by simp[hid]),if_neg (by simp[h2]),if_neg (by simp[h2]),if_pos ⟨h2,by rw[hn];rfl⟩]
  ·have hn:iC d y.2.2=some d.2.1[j]:=hn
   rw[mL]
   refine kQ (fun hid=>bad (by decide) (by unfold nZ;rw[if_pos hid])) fun hid=>?_
   refine tail hid (fun h2=>hok ?_) fun h0=>hok h0
   unfold nZ;rw[if_neg (by simp[hid]),if_neg (by simp[h2]),if_neg (by simp[h2]),if_neg (by simp[hn])]
 ·have hn:d.2.1.length≤140737488355328:=hs.n
  refine bK d.2.1.length (fun k s=>s=((d.2.1.take k).any (fun n=>decide (8<(up d n.1).1.length)),(k:Int),())∧∀ n∈d.2.1.take k,(up d n.1).2=true) ⟨rfl,by simp⟩ ?_
  rintro X k s hk ⟨rfl,hall⟩ hX
  dsimp only
  refine bZ (fun hlt=>?_) fun hge=>?_
  ·rw[List.length_map] at hlt
   have hlt:k<d.2.1.length:=by omega
   rw[bD (r:=aV) hlt]
   refine aG (s:=[(false,.li .str),(false,.bool)]) (G7 hs d.2.1[k].1) ?_
   have ht:d.2.1.take (k+1)=d.2.1.take k++[d.2.1[k]]:=List.take_succ_eq_append_getElem hlt
   have hw:IntKind.i64.wrap ((k:Int)+1)=((k+1:Nat):Int):=bB _ (by omega) (by omega)
   refine kQ (fun hu=>is ?_) fun hu=>?_
   ·unfold gP
    rw[if_pos h0,if_pos (show Z3 d=true from List.any_eq_true.2 ⟨_,List.getElem_mem hlt,by rw[hu];rfl⟩)]
   ·have hall':∀ n∈d.2.1.take (k+1),(up d n.1).2=true:=fun n hm=>by
     rw[ht] at hm
     rcases List.mem_append.1 hm with h|h
     ·exact hall n h
     ·simp at h;subst h;exact hu
    refine E5 (fun hd=>?_) fun hd=>?_
    ·refine hX _ hlt ⟨?_,hall'⟩
     rw[hw,ht,List.any_append,hd];rfl
    ·refine hX _ hlt ⟨?_,hall'⟩
     rw[hw,ht,List.any_append,hd]
     simp only[List.length_map,List.any_cons,List.any_nil,Bool.or_false,Bool.false_or,Prod.mk.injEq,and_true]
     congr 1
     exact propext ⟨fun h=>by omega,fun h=>by omega⟩
  ·rw[List.length_map] at hge
   have:k=d.2.1.length:=by omega
   subst this
   rw[List.take_length] at hall ⊢
   have hnu:Z3 d=false:=by
    rw[Bool.eq_false_iff];intro h
    obtain ⟨n,hm,h⟩:=List.any_eq_true.1 h
    rw[hall n hm] at h;cases h
   refine E5 (fun h=>is ?_) fun h=>is ?_
   ·unfold gP;rw[if_pos h0,hnu,if_neg (by simp),if_pos (show O1 d=true from h)]
   ·unfold gP;rw[if_pos h0,hnu,if_neg (by simp),if_neg (by rw[show O1 d=false from h];simp)]
end Go.Pv
namespace Go.Pv
open Go Go.Proofs
def n9 (d:aB) (s:dJ):Int:=if pF s.1=false∨pF s.2.1=false∨pF s.2.2.1=false then 6 else if s.2.1=s.2.2.1 then 2 else if ¬ s.2.2.2.1=1∧¬ s.2.2.2.1=2 then 10 else if s.2.2.2.2.1<1∨32768<s.2.2.2.2.1∨s.2.2.2.2.2<1∨3<s.2.2.2.2.2 then 9 else if (partOf d s.2.1).isNone=true∨(partOf d s.2.2.1).isNone=true then 8 else 0
def o1 (a0:aB) (m1:List (ByteArray×Int)) (m2:List (ByteArray×Int)) (m3:List (ByteArray×Int)) (m4:List (ByteArray×Int)):List T:=[NQ a0 m1 m2 m3 m4]
noncomputable def I2:Env:=Env.of [(82,.pure dV)]
def V2:FuncId→Hint:=bV 62 [(2,.inv [.val 17 false (.int .i64)])] (fun _=>aX)
theorem ABI:aQ Tryz.prog I2:=.cons BM (.nil _)
def m7(R:T→Prop):Prop:=R (T.v (.int .i64 9))
def ST(y2:dJ)(R:T→Prop):Prop:=aD (decide (y2.2.2.2.2.1<1)) (m7 R) (aD (decide (32768<y2.2.2.2.2.1)) (m7 R) (aD (decide (y2.2.2.2.2.2<1)) (m7 R) (aD (decide (3<y2.2.2.2.2.2)) (m7 R) (i8 R))))
def f6(y2:dJ)(R:T→Prop):Prop:=aI d4 (dV [T.v (.string y2.1)]) fun (y15:Bool)=>aD (!y15) (ACM R) (aI d4 (dV [T.v (.string y2.2.1)]) fun (y16:Bool)=>aD (!y16) (ACM R) (aI d4 (dV [T.v (.string y2.2.2.1)]) fun (y17:Bool)=>aD (!y17) (ACM R) (aD (decide (y2.2.1=y2.2.2.1)) (UV R) (aD (!decide (y2.2.2.2.1=1)) (aD (!decide (y2.2.2.2.1=2)) (R WF) (ST y2 R)) (ST y2 R)))))
def BE2(y2:dJ)(R:T→Prop)(X0:Int×PUnit→Prop)(s1:Int×PUnit):Prop:=aD (decide (y2.2.2.2.2.1<1)) (m7 R) (aD (decide (32768<y2.2.2.2.2.1)) (m7 R) (aD (decide (y2.2.2.2.2.2<1)) (m7 R) (aD (decide (3<y2.2.2.2.2.2)) (m7 R) (f7 X0 s1))))
def I9(a0:aB)(m1:List (ByteArray×Int))(m2:List (ByteArray×Int))(m3:List (ByteArray×Int))(m4:List (ByteArray×Int))(R:T→Prop):Prop:=a7 (Int×PUnit) (fun X0 s1=>aD (decide (s1.1<(↑(v6 a0).length:Int))) (aS aY (v6 a0) s1.1 fun (y2:dJ)=>gH TypeDesc.string (Value.string y2.2.1) (pT (bI m2)) false bF (gH TypeDesc.string (Value.string y2.2.2.1) (pT (bI m2)) false bF (f6 y2 R) fun (i13:Nat) (y14:Int)=>f6 y2 R) fun (i3:Nat) (y4:Int)=>gH TypeDesc.string (Value.string y2.2.2.1) (pT (bI m2)) false bF (f6 y2 R) fun (i5:Nat) (y6:Int)=>aI d4 (dV [T.v (.string y2.1)]) fun (y7:Bool)=>aD (!y7) (ACM R) (aI d4 (dV [T.v (.string y2.2.1)]) fun (y8:Bool)=>aD (!y8) (ACM R) (aI d4 (dV [T.v (.string y2.2.2.1)]) fun (y9:Bool)=>aD (!y9) (ACM R) (aD (decide (y2.2.1=y2.2.2.1)) (UV R) (aD (!decide (y2.2.2.2.1=1)) (aD (!decide (y2.2.2.2.1=2)) (R WF) (BE2 y2 R X0 s1)) (BE2 y2 R X0 s1)))))) (AIG R)) (0,())
theorem VU ( a0 m1 m2 m3 m4 R):dH bR Tryz.prog I2 V2 8 62 (o1 a0 m1 m2 m3 m4) R=I9 a0 m1 m2 m3 m4 R:=by kernel_rfl
theorem Q6 (x y:aB×MP×MP×MP×MP) (h:o1 x.1 x.2.1 x.2.2.1 x.2.2.2.1 x.2.2.2.2=o1 y.1 y.2.1 y.2.2.1 y.2.2.2.1 y.2.2.2.2):x=y:=pP (List.cons.inj h).1
def GH (x:aB×MP×MP×MP×MP):Option T:=uM x (T.v (Value.int .i64 (bP (n9 x.1) x.1.2.2.2.1)))
noncomputable def vP:List T→Option (T):=gA (fun (x:aB×(List (ByteArray×Int))×(List (ByteArray×Int))×(List (ByteArray×Int))×List (ByteArray×Int))=>o1 x.1 x.2.1 x.2.2.1 x.2.2.2.1 x.2.2.2.2) GH
theorem XO (a0:aB) (m1:List (ByteArray×Int)) (m2:List (ByteArray×Int)) (m3:List (ByteArray×Int)) (m4:List (ByteArray×Int)):vP (o1 a0 m1 m2 m3 m4)=GH (a0,m1,m2,m3,m4):=dS (A:=(fun (x:aB×(List (ByteArray×Int))×(List (ByteArray×Int))×(List (ByteArray×Int))×List (ByteArray×Int))=>o1 x.1 x.2.1 x.2.2.1 x.2.2.2.1 x.2.2.2.2)) Q6 (a0,m1,m2,m3,m4)
theorem AN0 (h:∀ (a0:aB) (m1:List (ByteArray×Int)) (m2:List (ByteArray×Int)) (m3:List (ByteArray×Int)) (m4:List (ByteArray×Int)) (r:T),GH (a0,m1,m2,m3,m4)=some r→(∀ t∈o1 a0 m1 m2 m3 m4,Bd t)→I9 a0 m1 m2 m3 m4 (fun y=>y=r)):aN Tryz.prog 62 vP :=
 b7 (E:=I2) (Hs:=V2) ABI aR aU (aL rfl) 8 ⟨_,_,Tryz.func62,rfl⟩ fun x r h1 h2=>by
  rw[VU]
  exact h x.1 x.2.1 x.2.2.1 x.2.2.2.1 x.2.2.2.2 r h1 h2
theorem AMC:aN Tryz.prog 62 vP:=AN0 fun d m1 m2 m3 m4 r h hb=>by
 obtain ⟨hx,hs,rfl⟩:=nH h
 simp only[Prod.mk.injEq,true_and] at hx
 obtain ⟨rfl,rfl,rfl,rfl⟩:=hx
 replace hs:mE d:=hs
 clear h
 unfold I9 BE2 AIG f7 f6 ACM WF UV ST m7 i8 v6 d4 bF
 refine o9 (r:=aY) (n9 d) hs.s (fun X s y hy hok hbad=>?_) fun h0=>?_
 ·have bad:∀ {n:Int},n≠0→n9 d y=n→T.v (.int .i64 n)=T.v (.int .i64 (bP (n9 d) d.2.2.2.1)):=fun hn h=>by
   rw[hbad (by rw[h];exact hn),h]
  clear hbad hb
  repeat' first
   | refine ixK (fun hn=>?_) (fun i j hj hn=>?_)
   | rw[mL]
   | refine lI (fun h=>?_) (fun h=>?_)
   | refine bZ (fun h=>?_) (fun h=>?_)
   | refine kQ (fun h=>?_) (fun h=>?_)
  all_goals first
   | (exfalso;omega)
   | (refine bad (by decide) ?_;clear bad hok;unfold n9;simp[*,partOf,nW];done)
   | (refine hok ?_;clear bad hok;unfold n9;simp[*,partOf,nW];done)
 ·show _=T.v (.int .i64 (bP (n9 d) d.2.2.2.1))
  rw[h0]
def qA (a0:aB) (m1:List (ByteArray×Int)) (m2:List (ByteArray×Int)) (m3:List (ByteArray×Int)) (m4:List (ByteArray×Int)) (a5:ByteArray):List T:=[NQ a0 m1 m2 m3 m4,T.v (.string a5)]
noncomputable def RD:Env:=Env.of []
def AHE:FuncId→Hint:=fun _=>aX
theorem AKG:aQ Tryz.prog RD:=.nil _
def RN(a0:aB)(m1:List (ByteArray×Int))(m2:List (ByteArray×Int))(m3:List (ByteArray×Int))(m4:List (ByteArray×Int))(a5:ByteArray)(R:T→Prop):Prop:=gH TypeDesc.string (Value.string a5) (pT (bI m1)) false bF (R d3) fun (i0:Nat) (y1:Int)=>aS aV (t8 a0) y1 fun (y2:dC)=>R (T.v (.bool (decide (y2.2.1=1))))
theorem ACK ( a0 m1 m2 m3 m4 a5 R):dH bR Tryz.prog RD AHE 8 108 (qA a0 m1 m2 m3 m4 a5) R=RN a0 m1 m2 m3 m4 a5 R:=by kernel_rfl
def wH (d:aB) (id:ByteArray):Bool:=match iC d id with
 | some n=>decide (n.2.1=1)
 | none=>false
theorem U9 (x y:aB×MP×MP×MP×MP×ByteArray) (h:qA x.1 x.2.1 x.2.2.1 x.2.2.2.1 x.2.2.2.2.1 x.2.2.2.2.2=qA y.1 y.2.1 y.2.2.1 y.2.2.2.1 y.2.2.2.2.1 y.2.2.2.2.2):x=y:=A9 x y h
def NI (x:aB×MP×MP×MP×MP×ByteArray):Option T:=uM (x.1,x.2.1,x.2.2.1,x.2.2.2.1,x.2.2.2.2.1) (T.v (.bool (wH x.1 x.2.2.2.2.2)))
noncomputable def fW:List T→Option (T):=gA (fun (x:aB×(List (ByteArray×Int))×(List (ByteArray×Int))×(List (ByteArray×Int))×(List (ByteArray×Int))×ByteArray)=>qA x.1 x.2.1 x.2.2.1 x.2.2.2.1 x.2.2.2.2.1 x.2.2.2.2.2) NI
theorem AEK (a0:aB) (m1:List (ByteArray×Int)) (m2:List (ByteArray×Int)) (m3:List (ByteArray×Int)) (m4:List (ByteArray×Int)) (a5:ByteArray):fW (qA a0 m1 m2 m3 m4 a5)=NI (a0,m1,m2,m3,m4,a5):=dS (A:=(fun (x:aB×(List (ByteArray×Int))×(List (ByteArray×Int))×(List (ByteArray×Int))×(List (ByteArray×Int))×ByteArray)=>qA x.1 x.2.1 x.2.2.1 x.2.2.2.1 x.2.2.2.2.1 x.2.2.2.2.2)) U9 (a0,m1,m2,m3,m4,a5)
theorem AXY (h:∀ (a0:aB) (m1:List (ByteArray×Int)) (m2:List (ByteArray×Int)) (m3:List (ByteArray×Int)) (m4:List (ByteArray×Int)) (a5:ByteArray) (r:T),NI (a0,m1,m2,m3,m4,a5)=some r→(∀ t∈qA a0 m1 m2 m3 m4 a5,Bd t)→RN a0 m1 m2 m3 m4 a5 (fun y=>y=r)):aN Tryz.prog 108 fW :=
 b7 (E:=RD) (Hs:=AHE) AKG aR aU (aL rfl) 8 ⟨_,_,Tryz.func108,rfl⟩ fun x r h1 h2=>by
  rw[ACK]
  exact h x.1 x.2.1 x.2.2.1 x.2.2.2.1 x.2.2.2.2.1 x.2.2.2.2.2 r h1 h2
theorem W9:aN Tryz.prog 108 fW:=AXY fun d m1 m2 m3 m4 id0 r h hb=>by
 obtain ⟨hx,hs,rfl⟩:=nH h
 simp only[Prod.mk.injEq,true_and] at hx
 obtain ⟨rfl,rfl,rfl,rfl⟩:=hx
 replace hs:mE d:=hs
 clear h
 unfold RN t8 d3 bF
 refine ixK (fun hn=>?_) fun i j hj hn=>?_
 ·have hn:iC d id0=none:=hn
  show _=T.v (.bool (wH d id0))
  unfold wH;rw[hn]
 ·have hn:iC d id0=some d.2.1[j]:=hn
  rw[bD (r:=aV) hj]
  show _=T.v (.bool (wH d id0))
  unfold wH;rw[hn]
theorem LO {d:aB} (hs:mE d) (id:ByteArray):fW (qA d (gX (ids d.2.1)) (gX (ids d.2.2.1)) (gX (ids d.2.2.2.1)) (gX (ids d.2.2.2.2.1)) id)=some (Sh.enc [(false,.bool)] (wH d id)):=by
 rw[AEK];exact nJ hs _
def sF (d:aB) (x:b8):Int:=if x.1<1∨3<x.1 then 10 else if x.2.2=x.2.1 then 2 else if wH d x.2.1=false then 8 else if (x.1=1∧¬ x.2.2 = { data:=#[] }∧wH d x.2.2=false)∨(x.1=2∧wH d x.2.2=false)∨(x.1=3∧(nW d x.2.2).isNone=true) then 8 else 0
def oZ (a0:aB) (m1:List (ByteArray×Int)) (m2:List (ByteArray×Int)) (m3:List (ByteArray×Int)) (m4:List (ByteArray×Int)):List T:=[NQ a0 m1 m2 m3 m4]
noncomputable def I0:Env:=Env.of [(108,.pure fW)]
def V0:FuncId→Hint:=bV 64 [(2,.inv [.val 15 false (.int .i64)])] (fun _=>aX)
theorem ABG:aQ Tryz.prog I0:=.cons W9 (.nil _)
def t7(a0:aB)(m1:List (ByteArray×Int))(m2:List (ByteArray×Int))(m3:List (ByteArray×Int))(m4:List (ByteArray×Int))(y2:b8):List T:=[T.ref [T.ref (f5 a0), T.mp (bI m1),T.mp (bI m2),T.mp (bI m3), T.mp (bI m4)], T.v (.string y2.2.2)]
def BE1(y2:b8)(X0:Int×PUnit→Prop)(s1:Int×PUnit):Prop:=aD (decide (y2.1=3)) (f7 X0 s1) (f7 X0 s1)
def BE9(y2:b8)(R:T→Prop)(X0:Int×PUnit→Prop)(s1:Int×PUnit):Prop:=aD (decide (y2.1=3)) (i8 R) (f7 X0 s1)
def I7(a0:aB)(m1:List (ByteArray×Int))(m2:List (ByteArray×Int))(m3:List (ByteArray×Int))(m4:List (ByteArray×Int))(R:T→Prop):Prop:=a7 (Int×PUnit) (fun X0 s1=>aD (decide (s1.1<(↑(M2 a0).length:Int))) (aS aP (M2 a0) s1.1 fun (y2:b8)=>gH TypeDesc.string (Value.string y2.2.2) (pT (bI m4)) false bF (aD (decide (y2.1<1)) (R WF) (aD (decide (3<y2.1)) (R WF) (aD (decide (y2.2.2=y2.2.1)) (UV R) (aI d4 (fW [T.ref [T.ref (f9 a0), T.mp (bI m1),T.mp (bI m2),T.mp (bI m3), T.mp (bI m4)], T.v (.string y2.2.1)]) fun (y10:Bool)=>aD (!y10) (i8 R) (aD (decide (y2.1=1)) (aD (!decide (y2.2.2 = {data:=#[]})) (aI d4 (fW (t7 a0 m1 m2 m3 m4 y2)) fun (y11:Bool)=>aD (!y11) (i8 R) (aD (decide (y2.1=2)) (aI d4 (fW [T.ref [T.ref (f5 a0), T.mp (bI m1),T.mp (bI m2), T.mp (bI m3),T.mp (bI m4)], T.v (.string y2.2.2)]) fun (y12:Bool)=>aD (!y12) (i8 R) (BE9 y2 R X0 s1)) (BE9 y2 R X0 s1))) (aD (decide (y2.1=2)) (aI d4 (fW (t7 a0 m1 m2 m3 m4 y2)) fun (y13:Bool)=>aD (!y13) (i8 R) (BE9 y2 R X0 s1)) (BE9 y2 R X0 s1))) (aD (decide (y2.1=2)) (aI d4 (fW (t7 a0 m1 m2 m3 m4 y2)) fun (y14:Bool)=>aD (!y14) (i8 R) (BE9 y2 R X0 s1)) (BE9 y2 R X0 s1))))))) fun (i3:Nat) (y4:Int)=>aD (decide (y2.1<1)) (R WF) (aD (decide (3<y2.1)) (R WF) (aD (decide (y2.2.2=y2.2.1)) (UV R) (aI d4 (fW [T.ref [T.ref (f9 a0), T.mp (bI m1),T.mp (bI m2),T.mp (bI m3), T.mp (bI m4)], T.v (.string y2.2.1)]) fun (y5:Bool)=>aD (!y5) (i8 R) (aD (decide (y2.1=1)) (aD (!decide (y2.2.2 = {data:=#[]})) (aI d4 (fW (t7 a0 m1 m2 m3 m4 y2)) fun (y6:Bool)=>aD (!y6) (i8 R) (aD (decide (y2.1=2)) (aI d4 (fW [T.ref [T.ref (f5 a0), T.mp (bI m1),T.mp (bI m2), T.mp (bI m3),T.mp (bI m4)], T.v (.string y2.2.2)]) fun (y7:Bool)=>aD (!y7) (i8 R) (BE1 y2 X0 s1)) (BE1 y2 X0 s1))) (aD (decide (y2.1=2)) (aI d4 (fW (t7 a0 m1 m2 m3 m4 y2)) fun (y8:Bool)=>aD (!y8) (i8 R) (BE1 y2 X0 s1)) (BE1 y2 X0 s1))) (aD (decide (y2.1=2)) (aI d4 (fW (t7 a0 m1 m2 m3 m4 y2)) fun (y9:Bool)=>aD (!y9) (i8 R) (BE1 y2 X0 s1)) (BE1 y2 X0 s1))))))) (AIG R)) (0,())
theorem VS ( a0 m1 m2 m3 m4 R):dH bR Tryz.prog I0 V0 8 64 (oZ a0 m1 m2 m3 m4) R=I7 a0 m1 m2 m3 m4 R:=by kernel_rfl
theorem Q4 (x y:aB×MP×MP×MP×MP) (h:oZ x.1 x.2.1 x.2.2.1 x.2.2.2.1 x.2.2.2.2=oZ y.1 y.2.1 y.2.2.1 y.2.2.2.1 y.2.2.2.2):x=y:=pP (List.cons.inj h).1
def GF (x:aB×MP×MP×MP×MP):Option T:=uM x (T.v (Value.int .i64 (bP (sF x.1) x.1.2.2.2.2.2)))
noncomputable def vN:List T→Option (T):=gA (fun (x:aB×(List (ByteArray×Int))×(List (ByteArray×Int))×(List (ByteArray×Int))×List (ByteArray×Int))=>oZ x.1 x.2.1 x.2.2.1 x.2.2.2.1 x.2.2.2.2) GF
theorem XM (a0:aB) (m1:List (ByteArray×Int)) (m2:List (ByteArray×Int)) (m3:List (ByteArray×Int)) (m4:List (ByteArray×Int)):vN (oZ a0 m1 m2 m3 m4)=GF (a0,m1,m2,m3,m4):=dS (A:=(fun (x:aB×(List (ByteArray×Int))×(List (ByteArray×Int))×(List (ByteArray×Int))×List (ByteArray×Int))=>oZ x.1 x.2.1 x.2.2.1 x.2.2.2.1 x.2.2.2.2)) Q4 (a0,m1,m2,m3,m4)
theorem ANY (h:∀ (a0:aB) (m1:List (ByteArray×Int)) (m2:List (ByteArray×Int)) (m3:List (ByteArray×Int)) (m4:List (ByteArray×Int)) (r:T),GF (a0,m1,m2,m3,m4)=some r→(∀ t∈oZ a0 m1 m2 m3 m4,Bd t)→I7 a0 m1 m2 m3 m4 (fun y=>y=r)):aN Tryz.prog 64 vN :=
 b7 (E:=I0) (Hs:=V0) ABG aR aU (aL rfl) 8 ⟨_,_,Tryz.func64,rfl⟩ fun x r h1 h2=>by
  rw[VS]
  exact h x.1 x.2.1 x.2.2.1 x.2.2.2.1 x.2.2.2.2 r h1 h2
theorem AMA:aN Tryz.prog 64 vN:=ANY fun d m1 m2 m3 m4 r h hb=>by
 obtain ⟨hx,hs,rfl⟩:=nH h
 simp only[Prod.mk.injEq,true_and] at hx
 obtain ⟨rfl,rfl,rfl,rfl⟩:=hx
 replace hs:mE d:=hs
 clear h
 unfold I7 BE9 BE1 AIG t7 f9 f7 WF UV i8 f5 M2 LE AC v6 t8 d4 bF
 refine o9 (r:=aP) (sF d) hs.r (fun X s y hy hok hbad=>?_) fun h0=>?_
 ·have bad:∀ {n:Int},n≠0→sF d y=n→T.v (.int .i64 n)=T.v (.int .i64 (bP (sF d) d.2.2.2.2.2)):=fun hn h=>by
   rw[hbad (by rw[h];exact hn),h]
  clear hbad hb
  repeat' first
   | refine ixK (fun hn=>?_) (fun i j hj hn=>?_)
   | rw[mL]
   | refine aG (s:=[(false,.bool)]) (LO hs _) ?_
   | refine lI (fun h=>?_) (fun h=>?_)
   | refine bZ (fun h=>?_) (fun h=>?_)
   | refine kQ (fun h=>?_) (fun h=>?_)
  all_goals first
   | (exfalso;omega)
   | (refine bad (by decide) ?_;clear bad hok;unfold sF;simp[*,partOf,nW];done)
   | (refine hok ?_;clear bad hok;unfold sF;simp[*,partOf,nW];done)
   | (refine hok ?_;clear bad hok hs hy;unfold sF;simp_all[partOf,nW];done)
 ·show _=T.v (.int .i64 (bP (sF d) d.2.2.2.2.2))
  rw[h0]
end Go.Pv
namespace Go.Pv
open Go Go.Proofs
noncomputable def A6S:Env:=Env.of []
def A66:FuncId→Hint:=bV 148 [(2,.inv [.val 9 false (.int .i64)])] (fun _=>aX)
theorem AQQ:aQ Tryz.prog A6S:=.nil _
def ACI(a0:Int)(a1:List aO)(R:T→Prop):Prop:=a7 (Int×PUnit) (fun X0 s1=>aD (decide (s1.1<(↑(f8 a1).length:Int))) (aS aA (f8 a1) s1.1 fun (y2:aO)=>aD (decide (y2.1<0)) (m7 R) (aD (decide (a0≤y2.1)) (m7 R) (aD (decide (y2.2<0)) (m7 R) (aD (decide (a0≤y2.2)) (m7 R) (aD (decide (y2.1=y2.2)) (UV R) (f7 X0 s1)))))) (AIG R)) (0,())
abbrev AF6:Sh:=[(false,(Sy.int IntKind.i64)),(false,aA.li)]
def KS (n:Int) (x:aO):Int:=if x.1<0∨n≤x.1∨x.2<0∨n≤x.2 then 9 else if x.1=x.2 then 2 else 0
def IH (x:Int×List aO):Option T:=pK x.2 (T.v (Value.int .i64 (bP (KS x.1) x.2)))
noncomputable def LM:List T→Option T:=gS AF6 IH
theorem AM5 {a0 a1}:LM [T.v (.int .i64 a0),T.sl false (List.map aA.enc a1)]=IH (a0,a1):=bC (s:=AF6) rfl (a0,a1) rfl
theorem A4F:yL Tryz.prog 148 LM IH (b9 AF6) ACI:=jZ (a1:=(false,(Sy.int IntKind.i64))) (a2:=(false,aA.li)) (sp:=IH) (F:=ACI) (Hs:=A66) (f:=148) (k:=8) AQQ aR aU (aL rfl) ⟨_,_,Tryz.func148,rfl⟩ rfl fun _ _ _=>by kernel_rfl
theorem A3D:aN Tryz.prog 148 LM:=A4F fun n l r h hb=>by
 obtain ⟨hl,rfl⟩:=jE h
 clear h
 unfold ACI AIG f8 f7 UV m7
 refine o9 (r:=aA) (KS n) hl (fun X s y hy hok hbad=>?_) fun h0=>?_
 ·have bad:∀ {m:Int},m≠0→KS n y=m→T.v (.int .i64 m)=T.v (.int .i64 (bP (KS n) l)):=fun hn h=>by
   rw[hbad (by rw[h];exact hn),h]
  clear hbad hb
  repeat' first
   | refine lI (fun h=>?_) (fun h=>?_)
   | refine bZ (fun h=>?_) (fun h=>?_)
  all_goals first
   | (exfalso;omega)
   | (refine bad (by decide) ?_;clear bad hok;unfold KS;first|(rw[if_pos (by omega)];done)|(rw[if_neg (by omega),if_pos (by omega)];done))
   | (refine hok ?_;clear bad hok;unfold KS;rw[if_neg (by omega),if_neg (by omega)];done)
 ·show _=T.v (.int .i64 (bP (KS n) l))
  rw[h0]
noncomputable def RE:Env:=Env.of [(148,.pure LM)]
def AHF:FuncId→Hint:=bV 110 [(8,.inv [.arr 0 1 (.int .i64),.val 31 false (.int .i64)]),(14,.inv [.arr 0 1 (.int .i64),.own 10 1 (.int .i64),.arr 2 1 .bool]),(16,.inv [.val 52 false (.int .i64),.fix 0,.fix 2,.fix 3]),(22,.inv [.arr 0 1 (.int .i64),.val 75 false (.int .i64)])] (fun _=>aX)
theorem AKI:aQ Tryz.prog RE:=.cons A3D (.nil _)
def d6:Sh:=[(false,Sy.int IntKind.i64)]
def EQ(s14:List Int×List Int×List Bool×PUnit):List (List T):=List.map Sy.bool.enc s14.2.2.1
def LT(s3:List Int×Int×PUnit):List (List T):=List.map bF.enc s3.1
def WP(s14:List Int×List Int×List Bool×PUnit):List (List T):=List.map bF.enc s14.2.1
def BE8(s14:List Int×List Int×List Bool×PUnit):List (List T):=List.map bF.enc s14.1
def BFA(R:T→Prop):Prop:=bN (T.v (.int .i64 9)).flat (R (T.bU [T.sl false [],T.v (.int .i64 9)]))
def RP(a0:Int)(a1:List aO)(R:T→Prop):Prop:=aD (decide (a0<0)) (BFA R) (aD (decide (256<a0)) (BFA R) (aI d6 (LM [T.v (.int .i64 a0),T.sl false (f8 a1)]) fun (y0:Int)=>aD (!decide (y0=0)) (bN (T.v (.int .i64 y0)).flat (R (T.bU [T.sl false [],T.v (.int .i64 y0)]))) (bN ((decide (a0=a0)||decide (a0=0))&&decide (0≤a0)&&decide (a0*(↑8:Int)≤140737488355328) && decide (a0≤140737488355328)) (bL bF (List.replicate (Int.toNat a0) [T.v (.int .i64 0)]) fun (y1:List Int)=>a7 (List Int×Int×PUnit) (fun X2 s3=>aD (decide (s3.2.1<(↑(f8 a1).length:Int))) (aS aA (f8 a1) s3.2.1 fun (y4:aO)=>aS bF (LT s3) y4.2 fun (y5:Int)=>gZ bF (LT s3) (Int.toNat y4.2) 0 fun (y6:Int)=>aS bF (LT s3) y4.2 fun (y7:Int)=>DE (LT s3) (Int.toNat y4.2) fun (y8:List T)=>bN (decide (1≤y8.length)) (bL bF ((LT s3).set (Int.toNat y4.2) (bO y8 0 [T.v (.int .i64 (IntKind.i64.wrap (y6+1)))])) fun (y9:List Int)=>X2 (y9,IntKind.i64.wrap (s3.2.1+1),()))) (bN ((decide (0=a0)||true)&&decide (0≤a0)&&decide (a0*(↑8:Int)≤140737488355328) && decide (a0≤140737488355328)) (bN ((decide (a0=a0)||decide (a0=0))&&decide (0≤a0) && decide (a0*(↑1:Int)≤140737488355328) && decide (a0≤140737488355328)) (bL bF (LT s3) fun (y10:List Int)=>bL bF [] fun (y11:List Int)=>bL Sy.bool (List.replicate (Int.toNat a0) [T.v (.bool false)]) fun (y12:List Bool)=>a7 (List Int×List Int×List Bool×PUnit) (fun X13 s14=>aD (decide ((↑(WP s14).length:Int)<a0)) (eP (a6.arr false 1 (BE8 s14)) (a6.arr false 1 (BE8 s14)) (eP (a6.arr false 1 (EQ s14)) (a6.arr false 1 (EQ s14)) (eP (a6.arr false 1 (WP s14)) (a6.arr false 1 (WP s14)) (a7 (Int×PUnit×PUnit×PUnit×PUnit) (fun X15 s16=>aD (decide (s16.1<a0)) (aS Sy.bool (EQ s14) s16.1 fun (y17:Bool)=>gZ Sy.bool (EQ s14) (Int.toNat s16.1) 0 fun (y18:Bool)=>aD y18 (eP (a6.arr false 1 (BE8 s14)) (a6.arr false 1 (BE8 s14)) (eP (a6.arr false 1 (EQ s14)) (a6.arr false 1 (EQ s14)) (eP (a6.arr false 1 (WP s14)) (a6.arr false 1 (WP s14)) (X15 (IntKind.i64.wrap (s16.1+1),(),(),(),()))))) (aS bF (BE8 s14) s16.1 fun (y19:Int)=>gZ bF (BE8 s14) (Int.toNat s16.1) 0 fun (y20:Int)=>aD (decide (0<y20)) (eP (a6.arr false 1 (BE8 s14)) (a6.arr false 1 (BE8 s14)) (eP (a6.arr false 1 (EQ s14)) (a6.arr false 1 (EQ s14)) (eP (a6.arr false 1 (WP s14)) (a6.arr false 1 (WP s14)) (X15 (IntKind.i64.wrap (s16.1+1),(),(),(), ()))))) (aS Sy.bool (EQ s14) s16.1 fun (y21:Bool)=>DE (EQ s14) (Int.toNat s16.1) fun (y22:List T)=>bN (decide (1≤y22.length)) (bN (decide (((WP s14).length + 1) * 8 ≤ 140737488355328) && decide ((WP s14).length + 1 ≤ 140737488355328)) (bL bF (BE8 s14) fun (y23:List Int)=>a7 (List Int×Int×PUnit) (fun X24 s25=>aD (decide (s25.2.1 < (↑(f8 a1).length : Int))) (aS aA (f8 a1) s25.2.1 fun (y26:aO)=>aD (decide (y26.1=s16.1)) (aS bF (LT s25) y26.2 fun (y27:Int)=>gZ bF (LT s25) (Int.toNat y26.2) 0 fun (y28:Int)=>aS bF (LT s25) y26.2 fun (y29:Int)=>DE (LT s25) (Int.toNat y26.2) fun (y30:List T)=>bN (decide (1≤y30.length)) (bL bF ((LT s25).set (Int.toNat y26.2) (bO y30 0 [T.v (.int .i64 (IntKind.i64.wrap (y28-1)))])) fun (y31:List Int)=>X24 (y31, IntKind.i64.wrap (s25.2.1+1), ()))) (bL bF (LT s25) fun (y32:List Int)=>X24 (y32, IntKind.i64.wrap (s25.2.1+1), ()))) (bL bF (LT s25) fun (y33:List Int)=>bL bF (List.map bF.enc s14.2.1 ++ [[T.v (.int .i64 s16.1)]]) fun (y34:List Int)=>bL Sy.bool ((EQ s14).set (Int.toNat s16.1) (bO y22 0 [T.v (.bool true)])) fun (y35:List Bool)=>X13 (y33,y34,y35,()))) (y23,0,())))))) (bN (T.v (.int .i64 20)).flat (R (T.bU [T.sl false [], T.v (.int .i64 20)])))) (0,(),(),(),()))))) (bN ((WP s14).all fun (r:List T)=>r.all T.flat) (bN (T.v (.int .i64 0)).flat (R (T.bU [T.sl false (WP s14), T.v (.int .i64 0)]))))) (y10,y11,y12,()))))) (y1,0,())))))
theorem ACO ( a0 a1 R):uG bR Tryz.prog RE AHF 8 110 [aF false (Sy.int IntKind.i64) a0,aF false aA.li a1] R=RP a0 a1 R:=by kernel_rfl
abbrev ID:Sh:=[(false,(Sy.int IntKind.i64)),(false,aA.li)]
abbrev xO:Sh:=[(false,(Sy.int IntKind.i64).li),(false,Sy.int IntKind.i64)]
def AT2 (b:List Int) (e:aO):List Int:=b.set e.2.toNat (IntKind.i64.wrap (b.getD e.2.toNat 0+1))
def AT8 (v:Int) (b:List Int) (e:aO):List Int:=if e.1=v then b.set e.2.toNat (IntKind.i64.wrap (b.getD e.2.toNat 0-1)) else b
def G2 (b:List Int) (t:List Bool) (k:Nat):Bool:=!t.getD k false&&decide (b.getD k 0≤0)
def AO (l:List aO) (n:Nat):Nat→List Int→List Int→List Bool→List Int×Int
 | 0,_,o,_=>(o,0)
 | f+1,b,o,t=>match (List.range n).find? (G2 b t) with
  | none=>([],20)
  | some v=>AO l n f (l.foldl (AT8 v) b) (o++[(v:Int)]) (t.set v true)
def kS (n:Int) (l:List aO):List Int×Int :=
 if n<0∨256<n then ([],9) else if bP (KS n) l=0 then AO l n.toNat n.toNat (l.foldl AT2 (List.replicate n.toNat 0)) [] (List.replicate n.toNat false) else ([],bP (KS n) l)
theorem W3 {α:Type} {f:α→Int}:∀ {l:List α},bP f l=0→∀ a∈l,f a=0
 | [],_,_,h=>by cases h
 | b::l,h,a,ha=>by
  unfold bP at h
  split at h
  ·rename_i hb
   rcases List.mem_cons.1 ha with rfl|ha
   ·exact hb
   ·exact W3 h a ha
  ·exact absurd h ‹_›
theorem xP {r:Sy} {l:List r.den} {i:Int} (h0:0≤i) (h:i.toNat<l.length) (K:r.den→Prop):aS r (List.map r.enc l) i K=K l[i.toNat]:=by
 have e:i=((i.toNat:Nat):Int):=by omega
 have:=bD h K
 rw[←e] at this
 exact this
theorem AI7 {l:List Int} {k:Nat} (h:k<l.length) (y:Int):(List.map (Sy.int .i64).enc l).set k (bO ((Sy.int .i64).enc l[k]) 0 [T.v (.int .i64 y)])=List.map (Sy.int .i64).enc (l.set k y):=by
 rw[List.map_set];rfl
theorem AZS {l:List Bool} {k:Nat} (h:k<l.length) (y:Bool):(List.map Sy.bool.enc l).set k (bO (Sy.bool.enc l[k]) 0 [T.v (.bool y)])=List.map Sy.bool.enc (l.set k y):=by
 rw[List.map_set];rfl
theorem xJ {α:Type} {l:List α} {k:Nat} (d:α) (h:k<l.length):l.getD k d=l[k]:=by simp[List.getD,h]
theorem A4Z (n:Nat):List.replicate n [T.v (Value.int .i64 0)]=List.map (Sy.int .i64).enc (List.replicate n 0):=by rw[List.map_replicate];rfl
theorem AYX (n:Nat):List.replicate n [T.v (.bool false)]=List.map Sy.bool.enc (List.replicate n false):=by rw[List.map_replicate];rfl
theorem AL8 (l:List Int):((List.map (Sy.int .i64).enc l).all fun (r:List T)=>r.all T.flat)=true:=by
 rw[List.all_map,List.all_eq_true];intro a _;rfl
def NJ (x:Int×List aO):Option T:=pK x.2 (Sh.enc xO (kS x.1 x.2))
noncomputable def B1:List T→Option (T):=gS ID NJ
theorem AEM {a0 a1}:B1 [T.v (.int .i64 a0),T.sl false (List.map aA.enc a1)]=NJ (a0,a1):=bC (s:=ID) rfl (a0,a1) rfl
theorem AX0 (h:∀ a0 a1 r,NJ (a0,a1)=some r→b9 ID (a0,a1)→RP a0 a1 (fun y=>y=r)):jS Tryz.prog 110 B1 :=
 A32 (E:=RE) (Hs:=AHF) AKI aR aU (aL rfl) 8 ⟨_,_,Tryz.func110,rfl⟩ rfl fun x r h1 h2=>by
  obtain ⟨a0,a1⟩:=x
  rw[show Sh.iZ ID (a0,a1)=[aF false (Sy.int IntKind.i64) a0,aF false aA.li a1] from rfl,ACO]
  exact h a0 a1 r h1 h2
theorem AUY:jS Tryz.prog 110 B1:=AX0 fun n l r h hb=>by
 obtain ⟨hl,rfl⟩:=jE h
 clear h
 have hl:l.length≤140737488355328:=hl
 unfold RP BFA BE8 WP LT EQ f8 d6 bF
 refine bZ (fun h=>?_) fun hn0=>?_
 ·refine ⟨rfl,?_⟩
  show _=Sh.enc xO (kS n l)
  rw[kS,if_pos (Or.inl h)];rfl
 refine bZ (fun h=>?_) fun hn1=>?_
 ·refine ⟨rfl,?_⟩
  show _=Sh.enc xO (kS n l)
  rw[kS,if_pos (Or.inr h)];rfl
 refine aG (s:=[(false,.int .i64)]) (y:=bP (KS n) l) (by rw[AM5];exact jF _ hl) ?_
 refine lI (fun h0=>?_) (fun h0=>?_)
 ·refine ⟨rfl,?_⟩
  show _=Sh.enc xO (kS n l)
  rw[kS,if_neg (by omega),if_neg h0];rfl
 have hv:kS n l=AO l n.toNat n.toNat (l.foldl AT2 (List.replicate n.toNat 0)) [] (List.replicate n.toNat false):=by
  rw[kS,if_neg (by omega),if_pos h0]
 have hend:∀ e∈l,0≤e.1∧e.1<n∧0≤e.2∧e.2<n:=fun e he=>by
  have:=W3 h0 e he
  unfold KS at this
  split at this
  ·exact absurd this (by decide)
  ·omega
 clear h0 hb
 obtain ⟨N,rfl⟩:∃ N:Nat,n=(N:Int):=⟨n.toNat,by omega⟩
 rw[Int.toNat_natCast] at hv ⊢
 refine ⟨by simp;omega,?_⟩
 rw[A4Z,dZ rfl]
 refine bK l.length (fun k s=>s.2.1=(k:Int)∧s.1.length=N∧(l.drop k).foldl AT2 s.1=l.foldl AT2 (List.replicate N 0)) ⟨rfl,by simp,rfl⟩ ?_
 rintro X k ⟨b,i,u⟩ hk ⟨rfl,hbl,hbf⟩ hX
 dsimp only at hbl hbf ⊢
 refine bZ (fun hlt=>?_) fun hge=>?_
 ·rw[List.length_map] at hlt
  have hlt:k<l.length:=by omega
  rw[bD hlt]
  obtain ⟨-,-,e0,e1⟩:=hend _ (List.getElem_mem hlt)
  have hj:(l[k].2).toNat<b.length:=by omega
  rw[xP e0 hj,iL hj,xP e0 hj,oK hj]
  refine ⟨rfl,?_⟩
  rw[AI7 hj,dZ rfl]
  refine hX _ hlt ⟨?_,?_,?_⟩
  ·show IntKind.i64.wrap ((k:Int)+1)=_
   rw[bB]<;>omega
  ·show (List.set _ _ _).length=N
   rw[List.length_set];exact hbl
  ·rw[List.drop_eq_getElem_cons hlt,List.foldl_cons] at hbf
   rw[←hbf]
   congr 1
   unfold AT2
   rw[xJ (l:=b) 0 hj]
 rw[List.length_map] at hge
 have hkl:k=l.length:=by omega
 subst hkl
 rw[List.drop_length,List.foldl_nil] at hbf
 rw[←hbf] at hv
 refine ⟨by simp;omega,⟨by simp;omega,?_⟩⟩
 rw[dZ rfl,AT9,AYX,dZ rfl]
 clear hX hge hbf
 refine bK N (fun k s=>s.1.length=N∧s.2.1.length=k∧s.2.2.1.length=N∧AO l N (N-k) s.1 s.2.1 s.2.2.1=kS N l) ⟨hbl,rfl,by simp,by rw[hv];rfl⟩ ?_
 clear hv hbl b u
 rintro X k ⟨b,o,t,u⟩ hk ⟨hbl,hol,htl,hr⟩ hX
 dsimp only at hbl hol htl hr ⊢
 refine bZ (fun hlt=>?_) fun hge=>?_
 ·rw[List.length_map,hol] at hlt
  have hlt:k<N:=by omega
  rw[cI,cI,cI]
  obtain ⟨m,hm⟩:∃ m,N-k=m+1:=⟨N-k-1,by omega⟩
  rw[hm,AO] at hr
  refine bK N (fun j s=>s.1=(j:Int)∧(List.range N).find? (G2 b t)=(List.range' j (N-j)).find? (G2 b t)) ⟨rfl,by rw[List.range_eq_range'];rfl⟩ ?_
  rintro Y j ⟨i,u1,u2,u3,u4⟩ hj ⟨rfl,hf⟩ hY
  dsimp only at hf ⊢
  refine bZ (fun hjn=>?_) fun hjn=>?_
  ·have hjn:j<N:=by omega
   have hjb:j<b.length:=by omega
   have hjt:j<t.length:=by omega
   obtain ⟨q,hq⟩:∃ q,N-j=q+1:=⟨N-j-1,by omega⟩
   rw[hq,List.range'_succ,List.find?_cons] at hf
   have next:G2 b t j=false→Y (IntKind.i64.wrap ((j:Int)+1),(),(),(),()):=fun h=>by
    refine hY _ hjn ⟨?_,?_⟩
    ·show IntKind.i64.wrap ((j:Int)+1)=_
     rw[bB]<;>omega
    ·rw[hf,h]
     rw[show N-(j+1)=q by omega]
   simp only[Int.toNat_natCast]
   rw[bD hjt,iL hjt]
   refine E5 (fun ht=>?_) fun ht=>?_
   ·rw[cI,cI,cI]
    exact next (by rw[G2,xJ (l:=t) false hjt,ht];rfl)
   rw[bD hjb,iL hjb]
   refine bZ (fun hp=>?_) fun hp=>?_
   ·rw[cI,cI,cI]
    exact next (by rw[G2,xJ (l:=b) 0 hjb,decide_eq_false (by omega),Bool.and_false])
   have hfree:G2 b t j=true:=by rw[G2,xJ (l:=b) 0 hjb,xJ (l:=t) false hjt,ht,decide_eq_true (by omega)];rfl
   rw[hfree] at hf
   rw[hf] at hr
   dsimp only at hr
   clear next hY hf
   rw[bD hjt,oK hjt]
   refine ⟨rfl,⟨by simp;omega,?_⟩⟩
   rw[dZ rfl]
   refine bK l.length (fun k s=>s.2.1=(k:Int)∧s.1.length=N∧(l.drop k).foldl (AT8 j) s.1=l.foldl (AT8 j) b) ⟨rfl,hbl,rfl⟩ ?_
   rintro Z i ⟨c,i',u⟩ hi ⟨rfl,hcl,hcf⟩ hZ
   dsimp only at hcl hcf ⊢
   refine bZ (fun hlt=>?_) fun hge=>?_
   ·rw[List.length_map] at hlt
    have hlt:i<l.length:=by omega
    rw[bD hlt]
    obtain ⟨-,-,e0,e1⟩:=hend _ (List.getElem_mem hlt)
    have hjc:(l[i].2).toNat<c.length:=by omega
    rw[List.drop_eq_getElem_cons hlt,List.foldl_cons] at hcf
    have hw:IntKind.i64.wrap ((i:Int)+1)=((i+1:Nat):Int):=by rw[bB]<;>omega
    refine bZ (fun hv=>?_) fun hv=>?_
    ·rw[xP e0 hjc,iL hjc,xP e0 hjc,oK hjc]
     refine ⟨rfl,?_⟩
     rw[AI7 hjc,dZ rfl]
     refine hZ _ hlt ⟨hw,?_,?_⟩
     ·show (List.set _ _ _).length=N
      rw[List.length_set];exact hcl
     ·rw[←hcf]
      congr 1
      unfold AT8
      rw[if_pos hv,xJ (l:=c) 0 hjc]
    ·rw[dZ rfl]
     refine hZ _ hlt ⟨hw,hcl,?_⟩
     rw[←hcf]
     congr 1
     unfold AT8
     rw[if_neg hv]
   ·rw[List.length_map] at hge
    have hil:i=l.length:=by omega
    subst hil
    rw[List.drop_length,List.foldl_nil] at hcf
    rw[dZ rfl,w6 (r:=.int .i64) rfl o [T.v (.int .i64 (j:Int))] (j:Int) rfl,AZS hjt,dZ rfl]
    refine hX _ hlt ⟨hcl,by simp[hol],by simp[htl],?_⟩
    rw[show N-(k+1)=m by omega]
    show AO l N m c (o++[(j:Int)]) (t.set j true)=_
    rw[hcf];exact hr
  ·have hjn:j=N:=by omega
   subst hjn
   rw[Nat.sub_self] at hf
   rw[show (List.range' j 0)=[] from rfl,List.find?_nil] at hf
   rw[hf] at hr
   refine ⟨rfl,?_⟩
   show _=Sh.enc xO (kS (j:Int) l)
   rw[←hr];rfl
 ·rw[List.length_map,hol] at hge
  have hkN:k=N:=by omega
  subst hkN
  rw[Nat.sub_self,AO] at hr
  refine ⟨AL8 o,rfl,?_⟩
  show _=Sh.enc xO (kS (k:Int) l)
  rw[←hr];rfl
end Go.Pv
namespace Go.Pv
open Go Go.Proofs
def uW (a0:List ByteArray):List T:=[T.sl false (List.map Sy.str.enc a0)]
noncomputable def ABF:Env:=Env.of []
def AS9:FuncId→Hint:=fun _=>aX
theorem AQ0:aQ Tryz.prog ABF:=.nil _
def ACV(a0:List ByteArray)(R:T→Prop):Prop:=R (T.fn 147 [] [T.ref [T.sl false (FS a0)]])
theorem AKX ( a0 R):dH bR Tryz.prog ABF AS9 8 109 (uW a0) R=ACV a0 R:=by kernel_rfl
def US (l:List ByteArray):Option T:=some (T.fn 147 [] [T.ref [T.sl false (List.map Sy.str.enc l)]])
theorem AA5 (x y:List ByteArray) (h:uW x=uW y):x=y:=by
 unfold uW at h
 have h:=(T.sl.injEq .. ▸ (List.cons.inj h).1)
 exact map_inj (Sy.cY .str) h.2
noncomputable def E3:List T→Option (T):=gA (fun (x:List ByteArray)=>uW x) US
theorem PX (a0:List ByteArray):E3 (uW a0)=US a0:=dS (A:=(fun (x:List ByteArray)=>uW x)) AA5 a0
theorem A4P (h:∀ (a0:List ByteArray) (r:T),US a0=some r→(∀ t∈uW a0,Bd t)→ACV a0 (fun y=>y=r)):aN Tryz.prog 109 E3 :=
 b7 (E:=ABF) (Hs:=AS9) AQ0 aR aU (aL rfl) 8 ⟨_,_,Tryz.func109,rfl⟩ fun x r h1 h2=>by
  rw[AKX]
  exact h x r h1 h2
theorem A3H:aN Tryz.prog 109 E3:=A4P fun l r h hb=>by
 cases h
 unfold ACV FS
 rfl
end Go.Pv
namespace Go.Pv
abbrev Pt:=Int×Int
def dK (a b c:Pt):Int:=(b.1-a.1)*(c.2-a.2)-(b.2-a.2)*(c.1-a.1)
def NT (n:Int):Int:=if n<0 then -1 else if 0<n then 1 else 0
def btw (a b q:Pt):Bool:=decide (min a.1 b.1≤q.1)&&decide (q.1≤max a.1 b.1)&&(decide (min a.2 b.2≤q.2)&&decide (q.2≤max a.2 b.2))
def TL (a b q:Pt):Bool:=decide (dK a b q=0)&&btw a b q
def l7 (a b c d:Pt):Bool:=TL a b c||TL a b d||TL c d a||TL c d b||(decide (NT (dK a b c)*NT (dK a b d)<0)&&decide (NT (dK c d a)*NT (dK c d b)<0))
def dD (q:Pt):Prop:=-32768≤q.1∧q.1≤32768∧-32768≤q.2∧q.2≤32768
theorem AN {x y M N:Int} (hx:-M≤x∧x≤M) (hy:-N≤y∧y≤N) (hM:0≤M) (hN:0≤N):-(M*N)≤x*y∧x*y≤M*N:=by
 have h1:x.natAbs≤M.toNat:=by omega
 have h2:y.natAbs≤N.toNat:=by omega
 have h3:=Nat.mul_le_mul h1 h2
 rw[←Int.natAbs_mul] at h3
 have h4:((M.toNat*N.toNat:Nat):Int)=M*N:=by
  rw[Int.natCast_mul,Int.toNat_of_nonneg hM,Int.toNat_of_nonneg hN]
 omega
theorem AT6 {a b c:Pt} (ha:dD a) (hb:dD b) (hc:dD c):(-4294967296≤(b.1-a.1)*(c.2-a.2)∧(b.1-a.1)*(c.2-a.2)≤4294967296)∧(-4294967296≤(b.2-a.2)*(c.1-a.1)∧(b.2-a.2)*(c.1-a.1)≤4294967296):=by
 unfold dD at ha hb hc
 have h1:=AN (x:=b.1-a.1) (y:=c.2-a.2) (M:=65536) (N:=65536) (by omega) (by omega) (by omega) (by omega)
 have h2:=AN (x:=b.2-a.2) (y:=c.1-a.1) (M:=65536) (N:=65536) (by omega) (by omega) (by omega) (by omega)
 constructor<;>constructor<;>omega
theorem AZU (n:Int):-1≤NT n∧NT n≤1:=by unfold NT;split<;>(try split)<;>omega
end Go.Pv
namespace Go.Pv
end Go.Pv
namespace Go.Pv
def hit (a b q:Pt):Bool:=(decide (a.2≤q.2)&&decide (q.2<b.2)&&decide (0<dK a b q))||(decide (b.2≤q.2)&&decide (q.2<a.2)&&decide (dK a b q<0))
def dr (u v w:Pt):Bool:=decide (u.2<w.2)&&decide (w.2≤v.2)&&decide (dK u v w<0)
theorem KL (a b q:Pt):dK b a q = - dK a b q:=by simp only[dK];grind
theorem A9N {a b q:Pt} (h:dK a b q=0) (hab:a.2<b.2) (h1:a.2≤q.2) (h2:q.2≤b.2):btw a b q=true:=by
 have e:(b.1-a.1)*(q.2-a.2)=(b.2-a.2)*(q.1-a.1):=by unfold dK at h;omega
 have hx:min a.1 b.1≤q.1∧q.1≤max a.1 b.1:=by
  rcases Int.le_total a.1 b.1 with hd|hd
  ·have m1:=Int.mul_nonneg (show 0≤b.1-a.1 by omega) (show 0≤q.2-a.2 by omega)
   have m2:(b.1-a.1)*(q.2-a.2)≤(b.1-a.1)*(b.2-a.2):=Int.mul_le_mul_of_nonneg_left (by omega) (by omega)
   have p1:0≤q.1-a.1:=by
    refine Int.not_lt.1 fun h=>?_
    have:=Int.mul_neg_of_pos_of_neg (show 0<b.2-a.2 by omega) h
    omega
   have p2:q.1-a.1≤b.1-a.1:=by
    refine Int.not_lt.1 fun h=>?_
    have h3:=Int.mul_lt_mul_of_pos_left h (show 0<b.2-a.2 by omega)
    have h4:(b.2-a.2)*(b.1-a.1)=(b.1-a.1)*(b.2-a.2):=Int.mul_comm _ _
    omega
   omega
  ·have m1:=Int.mul_nonneg (show 0≤a.1-b.1 by omega) (show 0≤q.2-a.2 by omega)
   have m2:(a.1-b.1)*(q.2-a.2)≤(a.1-b.1)*(b.2-a.2):=Int.mul_le_mul_of_nonneg_left (by omega) (by omega)
   have e1:(a.1-b.1)*(q.2-a.2) = - ((b.1-a.1)*(q.2-a.2)):=by grind
   have p1:q.1-a.1≤0:=by
    refine Int.not_lt.1 fun h=>?_
    have:=Int.mul_pos (show 0<b.2-a.2 by omega) h
    omega
   have p2:b.1-a.1≤q.1-a.1:=by
    refine Int.not_lt.1 fun h=>?_
    have h3:=Int.mul_lt_mul_of_pos_left h (show 0<b.2-a.2 by omega)
    have h4:(a.1-b.1)*(b.2-a.2) = - ((b.2-a.2)*(b.1-a.1)):=by grind
    omega
   omega
 simp only[btw,Bool.and_eq_true,decide_eq_true_eq]
 omega
theorem A4T {a b q:Pt} (h:dK a b q=0) (hab:a.2<b.2) (h1:a.2≤q.2) (h2:q.2≤b.2):TL a b q=true:=by
 unfold TL;rw[decide_eq_true h,A9N h hab h1 h2];rfl
end Go.Pv
namespace Go.Pv
end Go.Pv
namespace Go.Pv
theorem ATP (a b q:Pt):btw b a q=btw a b q:=by unfold btw;rw[Int.min_comm b.1,Int.max_comm b.1,Int.min_comm b.2,Int.max_comm b.2]
theorem A4S (a b q:Pt):TL b a q=TL a b q:=by
 unfold TL;rw[ATP,KL a b q]
 congr 1
 exact decide_eq_decide.2 (by omega)
def AZ9:Nat→(Nat→Bool)→Bool
 | 0,_=>false
 | n+1,f=>AZ9 n f ^^ f n
def pt (p:List Pt) (i:Nat):Pt:=p.getD i (0,0)
def nx (p:List Pt) (i:Nat):Pt:=pt p ((i+1) % p.length)
def A3M (p:List Pt) (q:Pt):Bool:=AZ9 p.length fun i=>hit (pt p i) (nx p i) q
end Go.Pv
namespace Go.Pv
open Go Go.Proofs
instance BEK (q:Pt):Decidable (dD q):=by unfold dD;infer_instance
theorem iI {a b:Bool} (h:a=b):T.v (.bool a)=T.v (.bool b):=by rw[h]
theorem HS {a b:Int} (h:a=b):T.v (.int .i64 a)=T.v (.int .i64 b):=by rw[h]
def L1 {α:Type} (a b c:Pt) (r:α):Option α:=match decide (dD a∧dD b∧dD c) with
 | true=>some r
 | false=>none
theorem L2 {α:Type} {a b c:Pt} {t r:α} (h:L1 a b c t=some r):dD a∧dD b∧dD c∧r=t:=by
 unfold L1 at h;split at h
 ·rename_i hc
  cases h
  obtain ⟨h1,h2,h3⟩:=of_decide_eq_true hc
  exact ⟨h1,h2,h3,rfl⟩
 ·cases h
theorem L3 {α:Type} {a b c:Pt} (t:α) (ha:dD a) (hb:dD b) (hc:dD c):L1 a b c t=some t:=by unfold L1;rw[decide_eq_true ⟨ha,hb,hc⟩]
theorem NR {a b c:Pt} (ha:dD a) (hb:dD b) (hc:dD c):IntKind.i64.wrap (IntKind.i64.wrap (IntKind.i64.wrap (b.1-a.1)*IntKind.i64.wrap (c.2-a.2))-IntKind.i64.wrap (IntKind.i64.wrap (b.2-a.2)*IntKind.i64.wrap (c.1-a.1)))=dK a b c:=by
 have h:=AT6 ha hb hc
 unfold dD at ha hb hc
 rw[bB (b.1-a.1) (by omega) (by omega),bB (c.2-a.2) (by omega) (by omega),bB (b.2-a.2) (by omega) (by omega),bB (c.1-a.1) (by omega) (by omega),
  bB ((b.1-a.1)*(c.2-a.2)) (by omega) (by omega),bB ((b.2-a.2)*(c.1-a.1)) (by omega) (by omega),bB _ (by omega) (by omega)]
 rfl
theorem DY (m n:Int):IntKind.i64.wrap (NT m*NT n)=NT m*NT n:=by
 have h:=AN (AZU m) (AZU n) (by omega) (by omega)
 exact bB _ (by omega) (by omega)
theorem TI (a b:Int):(if b<a then b else a)=min a b:=by omega
theorem TG (a b:Int):(if a<b then b else a)=max a b:=by omega
noncomputable def AP1:Env:=Env.of []
def ASZ:FuncId→Hint:=fun _=>aX
theorem ABU:aQ Tryz.prog AP1:=.nil _
def IR(a1:aO)(a0:aO)(a2:aO):T:=T.v (.int .i64 (IntKind.i64.wrap (IntKind.i64.wrap (IntKind.i64.wrap (a1.1-a0.1)*IntKind.i64.wrap (a2.2-a0.2)) - IntKind.i64.wrap (IntKind.i64.wrap (a1.2-a0.2)*IntKind.i64.wrap (a2.1-a0.1)))))
def JM(a0:aO)(a1:aO)(a2:aO)(R:T→Prop):Prop:=R (IR a1 a0 a2)
abbrev MW:Sh:=[(true,aA),(true,aA),(true,aA)]
def yA (x:aO×aO×aO):Option T:=L1 x.1 x.2.1 x.2.2 (T.v (Value.int .i64 (dK x.1 x.2.1 x.2.2)))
noncomputable def fK:List T→Option T:=gS MW yA
theorem YO {a0 a1 a2}:fK [aF true aA a0,aF true aA a1,aF true aA a2]=yA (a0,a1,a2):=bC (s:=MW) rfl (a0,a1,a2) rfl
theorem AOC:Of3 Tryz.prog 328 fK yA (b9 MW) JM:=Z5 (a1:=(true,aA)) (a2:=(true,aA)) (a3:=(true,aA)) (sp:=yA) (F:=JM) (Hs:=ASZ) (f:=328) (k:=8) ABU aR aU (aL rfl) ⟨_,_,Tryz.func328,rfl⟩ rfl fun _ _ _ _=>by kernel_rfl
theorem xD:aN Tryz.prog 328 fK:=AOC fun a b c r h hb=>by
 obtain ⟨h1,h2,h3,rfl⟩:=L2 h
 unfold JM IR
 exact HS (NR h1 h2 h3)
theorem jC {a b c:Pt} (h1:dD a) (h2:dD b) (h3:dD c):fK [aF true aA a,aF true aA b,aF true aA c]=some (Sh.enc [(false,.int .i64)] (dK a b c)):=(YO ..).trans (L3 _ h1 h2 h3)
noncomputable def AP9:Env:=Env.of []
def AS7:FuncId→Hint:=fun _=>aX
theorem AB2:aQ Tryz.prog AP9:=.nil _
def JU(a0:aO)(a1:aO)(a2:aO)(R:T→Prop):Prop:=R (IR a1 a0 a2)
abbrev M5:Sh:=[(true,aA),(true,aA),(true,aA)]
def yG (x:aO×aO×aO):Option T:=L1 x.1 x.2.1 x.2.2 (T.v (Value.int .i64 (dK x.1 x.2.1 x.2.2)))
noncomputable def lY:List T→Option T:=gS M5 yG
theorem Y6 {a0 a1 a2}:lY [aF true aA a0,aF true aA a1,aF true aA a2]=yG (a0,a1,a2):=bC (s:=M5) rfl (a0,a1,a2) rfl
theorem AOK:Of3 Tryz.prog 331 lY yG (b9 M5) JU:=Z5 (a1:=(true,aA)) (a2:=(true,aA)) (a3:=(true,aA)) (sp:=yG) (F:=JU) (Hs:=AS7) (f:=331) (k:=8) AB2 aR aU (aL rfl) ⟨_,_,Tryz.func331,rfl⟩ rfl fun _ _ _ _=>by kernel_rfl
theorem AMU:aN Tryz.prog 331 lY:=AOK fun a b c r h hb=>by
 obtain ⟨h1,h2,h3,rfl⟩:=L2 h
 unfold JU IR
 exact HS (NR h1 h2 h3)
theorem qM {a b c:Pt} (h1:dD a) (h2:dD b) (h3:dD c):lY [aF true aA a,aF true aA b,aF true aA c]=some (Sh.enc [(false,.int .i64)] (dK a b c)):=(Y6 ..).trans (L3 _ h1 h2 h3)
noncomputable def A0K:Env:=Env.of []
def A10:FuncId→Hint:=fun _=>aX
theorem AKN:aQ Tryz.prog A0K:=.nil _
def BE5:T:=T.v (.int .i64 (-1))
def RV(a0:Int)(R:T→Prop):Prop:=aD (!decide (a0=a0)) (R BE5) (aD (decide (a0<0)) (R BE5) (aD (decide (0<a0)) (R (T.v (.int .i64 1))) (AIG R)))
abbrev T4:Sh:=[(false,(Sy.int IntKind.i64))]
def DP (n:Int):Option T:=some (T.v (Value.int .i64 (NT n)))
noncomputable def oG:List T→Option T:=gS T4 DP
theorem AER {a0}:oG [T.v (.int .i64 a0)]=DP (a0):=bC (s:=T4) rfl (a0) rfl
theorem AX5:rM Tryz.prog 349 oG DP (b9 T4) RV:=gQ (a1:=(false,(Sy.int IntKind.i64))) (sp:=DP) (F:=RV) (Hs:=A10) (f:=349) (k:=8) AKN aR aU (aL rfl) ⟨_,_,Tryz.func349,rfl⟩ rfl fun _ _=>by kernel_rfl
theorem tG (n:Int):oG [T.v (.int .i64 n)]=some (Sh.enc [(false,.int .i64)] (NT n)):=AER ..
noncomputable def A0L:Env:=Env.of []
def A11:FuncId→Hint:=fun _=>aX
theorem AKO:aQ Tryz.prog A0L:=.nil _
def RW(a0:Int)(R:T→Prop):Prop:=R (T.v (.int .i64 (if 1<if a0 < -1 then -1 else a0 then 1 else if a0 < -1 then -1 else a0)))
abbrev T5:Sh:=[(false,(Sy.int IntKind.i64))]
def DQ (n:Int):Option T:=some (T.v (Value.int .i64 (NT n)))
noncomputable def oH:List T→Option T:=gS T5 DQ
theorem AES {a0}:oH [T.v (.int .i64 a0)]=DQ (a0):=bC (s:=T5) rfl (a0) rfl
theorem AX6:rM Tryz.prog 330 oH DQ (b9 T5) RW:=gQ (a1:=(false,(Sy.int IntKind.i64))) (sp:=DQ) (F:=RW) (Hs:=A11) (f:=330) (k:=8) AKO aR aU (aL rfl) ⟨_,_,Tryz.func330,rfl⟩ rfl fun _ _=>by kernel_rfl
theorem tH (n:Int):oH [T.v (.int .i64 n)]=some (Sh.enc [(false,.int .i64)] (NT n)):=AES ..
theorem AU2:aN Tryz.prog 349 oG:=AX5 fun n r h hb=>by
 cases h
 unfold RV BE5 AIG
 refine lI (fun h=>absurd rfl h) fun _=>?_
 exact bZ (fun h=>HS (by unfold NT;rw[if_pos h])) fun h=>bZ (fun h2=>HS (by unfold NT;rw[if_neg h,if_pos h2])) fun h2=>HS (by unfold NT;rw[if_neg h,if_neg h2])
theorem AU3:aN Tryz.prog 330 oH:=AX6 fun n r h hb=>by
 cases h
 unfold RW
 refine HS ?_
 unfold NT
 omega
noncomputable def AJ7:Env:=Env.of []
def AK8:FuncId→Hint:=fun _=>aX
theorem VN:aQ Tryz.prog AJ7:=.nil _
def PP(a2:aO)(a0:aO)(a1:aO)(R:T→Prop):Prop:=aD (decide (a2.1≤if a0.1<a1.1 then a1.1 else a0.1)) (aD (decide ((if a1.2<a0.2 then a1.2 else a0.2)≤a2.2)) (R (T.v (.bool (decide (a2.2≤if a0.2<a1.2 then a1.2 else a0.2))))) (R d3)) (R d3)
def EB(a0:aO)(a1:aO)(a2:aO)(R:T→Prop):Prop:=aD (decide ((if a1.1<a0.1 then a1.1 else a0.1)≤a2.1)) (PP a2 a0 a1 R) (R d3)
abbrev F7:Sh:=[(true,aA),(true,aA),(true,aA)]
def uC (x:aO×aO×aO):Option T:=some (T.v (.bool (btw x.1 x.2.1 x.2.2)))
noncomputable def r7:List T→Option T:=gS F7 uC
theorem S3 {a0 a1 a2}:r7 [aF true aA a0,aF true aA a1,aF true aA a2]=uC (a0,a1,a2):=bC (s:=F7) rfl (a0,a1,a2) rfl
theorem AFP:Of3 Tryz.prog 350 r7 uC (b9 F7) EB:=Z5 (a1:=(true,aA)) (a2:=(true,aA)) (a3:=(true,aA)) (sp:=uC) (F:=EB) (Hs:=AK8) (f:=350) (k:=8) VN aR aU (aL rfl) ⟨_,_,Tryz.func350,rfl⟩ rfl fun _ _ _ _=>by kernel_rfl
theorem AD6:aN Tryz.prog 350 r7:=AFP fun a b c r h hb=>by
 cases h
 unfold EB PP d3
 rw[TI,TI,TG,TG]
 refine bZ (fun h1=>bZ (fun h2=>bZ (fun h3=>iI ?_) fun h3=>iI ?_) fun h2=>iI ?_) fun h1=>iI ?_
 all_goals simp[btw,h1]
 all_goals simp[h2]
 all_goals simp[h3]
noncomputable def BCD:Env:=Env.of []
def BCX:FuncId→Hint:=fun _=>aX
theorem A1R:aQ Tryz.prog BCD:=.nil _
def ASL(a0:aO)(a1:aO)(a2:aO)(R:T→Prop):Prop:=aD (decide ((if a1.1<a0.1 then a1.1 else a0.1)≤a2.1)) (PP a2 a0 a1 R) (R d3)
abbrev AZP:Sh:=[(true,aA),(true,aA),(true,aA)]
abbrev AI0:Sh:=[(false,Sy.bool)]
theorem AFY (y:Sh.den AI0) (K:Sh.den AI0→Prop):aI AI0 (some (Sh.enc AI0 y)) K=K y:=w4 rfl y K
def NK (x:aO×aO×aO):Option T:=some (T.v (.bool (btw x.1 x.2.1 x.2.2)))
noncomputable def eF:List T→Option T:=gS AZP NK
theorem AWK {a0 a1 a2}:eF [aF true aA a0,aF true aA a1,aF true aA a2]=NK (a0,a1,a2):=bC (s:=AZP) rfl (a0,a1,a2) rfl
theorem BAX:Of3 Tryz.prog 332 eF NK (b9 AZP) ASL:=Z5 (a1:=(true,aA)) (a2:=(true,aA)) (a3:=(true,aA)) (sp:=NK) (F:=ASL) (Hs:=BCX) (f:=332) (k:=8) A1R aR aU (aL rfl) ⟨_,_,Tryz.func332,rfl⟩ rfl fun _ _ _ _=>by kernel_rfl
theorem A80:aN Tryz.prog 332 eF:=BAX fun a b c r h hb=>by
 cases h
 unfold ASL PP d3
 rw[TI,TI,TG,TG]
 refine bZ (fun h1=>bZ (fun h2=>bZ (fun h3=>iI ?_) fun h3=>iI ?_) fun h2=>iI ?_) fun h1=>iI ?_
 all_goals simp[btw,h1]
 all_goals simp[h2]
 all_goals simp[h3]
noncomputable def BCC:Env:=Env.of [(328,.pure fK),(350,.pure r7)]
def BCW:FuncId→Hint:=fun _=>aX
theorem A1L:aQ Tryz.prog BCC:=.cons xD (.cons AD6 (.nil _))
def tF(a0:aO)(a1:aO)(a2:aO):List T:=[aF true aA a0,aF true aA a1,aF true aA a2]
def ASA(a0:aO)(a1:aO)(a2:aO)(R:T→Prop):Prop:=aI d6 (fK (tF a0 a1 a2)) fun (y0:Int)=>aD (decide (y0=0)) (aI d4 (r7 (tF a0 a1 a2)) fun (y1:Bool)=>R (T.v (.bool y1))) (R d3)
abbrev AZO:Sh:=[(true,aA),(true,aA),(true,aA)]
def UR (x:aO×aO×aO):Option T:=L1 x.1 x.2.1 x.2.2 (T.v (.bool (TL x.1 x.2.1 x.2.2)))
noncomputable def vY:List T→Option T:=gS AZO UR
theorem AWD {a0 a1 a2}:vY [aF true aA a0,aF true aA a1,aF true aA a2]=UR (a0,a1,a2):=bC (s:=AZO) rfl (a0,a1,a2) rfl
theorem BAR:Of3 Tryz.prog 333 vY UR (b9 AZO) ASA:=Z5 (a1:=(true,aA)) (a2:=(true,aA)) (a3:=(true,aA)) (sp:=UR) (F:=ASA) (Hs:=BCW) (f:=333) (k:=8) A1L aR aU (aL rfl) ⟨_,_,Tryz.func333,rfl⟩ rfl fun _ _ _ _=>by kernel_rfl
theorem AU1:aN Tryz.prog 333 vY:=BAR fun a b c r h hb=>by
 obtain ⟨h1,h2,h3,rfl⟩:=L2 h
 unfold ASA tF d6 d4 d3
 refine aG (s:=[(false,.int .i64)]) (jC h1 h2 h3) ?_
 refine bZ (fun h=>?_) fun h=>iI (by unfold TL;rw[decide_eq_false h];rfl)
 refine aG (s:=[(false,.bool)]) (y:=btw a b c) (S3 ..) ?_
 exact iI (by unfold TL;rw[decide_eq_true h];rfl)
theorem vZ {a b c:Pt} (h1:dD a) (h2:dD b) (h3:dD c):vY [aF true aA a,aF true aA b,aF true aA c]=some (Sh.enc [(false,.bool)] (TL a b c)):=(AWD ..).trans (L3 _ h1 h2 h3)
def QA {α:Type} (a b c d:Pt) (r:α):Option α:=match decide (dD a∧dD b∧dD c∧dD d) with
 | true=>some r
 | false=>none
theorem ZX {α:Type} {a b c d:Pt} {t r:α} (h:QA a b c d t=some r):dD a∧dD b∧dD c∧dD d∧r=t:=by
 unfold QA at h;split at h
 ·rename_i hc
  cases h
  obtain ⟨h1,h2,h3,h4⟩:=of_decide_eq_true hc
  exact ⟨h1,h2,h3,h4,rfl⟩
 ·cases h
theorem ZY {α:Type} {a b c d:Pt} (t:α) (ha:dD a) (hb:dD b) (hc:dD c) (hd:dD d):QA a b c d t=some t:=by unfold QA;rw[decide_eq_true ⟨ha,hb,hc,hd⟩]
noncomputable def A0J:Env:=Env.of [(328,.pure fK),(333,.pure vY),(349,.pure oG)]
def A1Z:FuncId→Hint:=fun _=>aX
theorem AKM:aQ Tryz.prog A0J:=.cons xD (.cons AU1 (.cons AU2 (.nil _)))
def i7(a0:aO)(a1:aO)(a3:aO):List T:=[aF true aA a0,aF true aA a1, aF true aA a3]
def BE4(y4:Int):List T:=[T.v (.int .i64 y4)]
def RU(a0:aO)(a1:aO)(a2:aO)(a3:aO)(R:T→Prop):Prop:=aI d4 (vY (tF a0 a1 a2)) fun (y0:Bool)=>aD y0 (R d7) (aI d4 (vY (tF a0 a1 a3)) fun (y1:Bool)=>aD y1 (R d7) (aI d4 (vY (tF a2 a3 a0)) fun (y2:Bool)=>aD y2 (R d7) (aI d4 (vY (tF a2 a3 a1)) fun (y3:Bool)=>aD y3 (R d7) (aI d6 (fK (tF a0 a1 a2)) fun (y4:Int)=>aI d6 (oG (BE4 y4)) fun (y5:Int)=>aI d6 (fK (i7 a0 a1 a3)) fun (y6:Int)=>aI d6 (oG (BE4 y6)) fun (y7:Int)=>aD (decide (IntKind.i64.wrap (y5*y7)<0)) (aI d6 (fK (i7 a2 a3 a0)) fun (y8:Int)=>aI d6 (oG (BE4 y8)) fun (y9:Int)=>aI d6 (fK (i7 a2 a3 a1)) fun (y10:Int)=>aI d6 (oG (BE4 y10)) fun (y11:Int)=>R (T.v (.bool (decide (IntKind.i64.wrap (y9*y11)<0))))) (R d3)))))
abbrev T3:Sh:=[(true,aA),(true,aA),(true,aA),(true,aA)]
def DO (x:aO×aO×aO×aO):Option T:=QA x.1 x.2.1 x.2.2.1 x.2.2.2 (T.v (.bool (l7 x.1 x.2.1 x.2.2.1 x.2.2.2)))
noncomputable def qL:List T→Option T:=gS T3 DO
theorem AEP {a0 a1 a2 a3}:qL [aF true aA a0,aF true aA a1,aF true aA a2,
 aF true aA a3]=DO (a0,a1,a2,a3):=bC (s:=T3) rfl (a0,a1,a2,a3) rfl
theorem AX4:Of4 Tryz.prog 329 qL DO (b9 T3) RU:=BDW (a1:=(true,aA)) (a2:=(true,aA)) (a3:=(true,aA)) (a4:=(true,aA)) (sp:=DO) (F:=RU) (Hs:=A1Z) (f:=329) (k:=8) AKM aR aU (aL rfl) ⟨_,_,Tryz.func329,rfl⟩ rfl fun _ _ _ _ _=>by kernel_rfl
theorem AU0:aN Tryz.prog 329 qL:=AX4 fun a b c d r h hb=>by
 obtain ⟨h1,h2,h3,h4,rfl⟩:=ZX h
 unfold RU BE4 tF i7 d7 d6 d4 d3
 refine aG (s:=[(false,.bool)]) (vZ h1 h2 h3) ?_
 refine E5 (fun h=>iI (by unfold l7;rw[h];rfl)) fun k1=>?_
 refine aG (s:=[(false,.bool)]) (vZ h1 h2 h4) ?_
 refine E5 (fun h=>iI (by unfold l7;rw[h,k1];rfl)) fun k2=>?_
 refine aG (s:=[(false,.bool)]) (vZ h3 h4 h1) ?_
 refine E5 (fun h=>iI (by unfold l7;rw[h,k1,k2];rfl)) fun k3=>?_
 refine aG (s:=[(false,.bool)]) (vZ h3 h4 h2) ?_
 refine E5 (fun h=>iI (by unfold l7;rw[h,k1,k2,k3];rfl)) fun k4=>?_
 refine aG (s:=[(false,.int .i64)]) (jC h1 h2 h3) ?_
 refine aG (s:=[(false,.int .i64)]) (tG _) ?_
 refine aG (s:=[(false,.int .i64)]) (jC h1 h2 h4) ?_
 refine aG (s:=[(false,.int .i64)]) (tG _) ?_
 rw[DY]
 refine bZ (fun h=>?_) fun h=>iI (by unfold l7;rw[k1,k2,k3,k4,decide_eq_false h];rfl)
 refine aG (s:=[(false,.int .i64)]) (jC h3 h4 h1) ?_
 refine aG (s:=[(false,.int .i64)]) (tG _) ?_
 refine aG (s:=[(false,.int .i64)]) (jC h3 h4 h2) ?_
 refine aG (s:=[(false,.int .i64)]) (tG _) ?_
 rw[DY]
 exact iI (by unfold l7;rw[k1,k2,k3,k4,decide_eq_true h];rfl)
theorem AEQ {a b c d:Pt} (h1:dD a) (h2:dD b) (h3:dD c) (h4:dD d):qL [aF true aA a,aF true aA b,aF true aA c,aF true aA d]=some (Sh.enc [(false,.bool)] (l7 a b c d)):=(AEP ..).trans (ZY _ h1 h2 h3 h4)
noncomputable def A6W:Env:=Env.of []
def A7A:FuncId→Hint:=fun _=>aX
theorem AQV:aQ Tryz.prog A6W:=.nil _
def ACQ(a0:aO)(R:T→Prop):Prop:=aD (decide (a0.1 < -32768)) (R d7) (aD (decide (32768<a0.1)) (R d7) (aD (decide (a0.2 < -32768)) (R d7) (R (T.v (.bool (decide (32768<a0.2)))))))
abbrev AGA:Sh:=[(true,aA)]
def II (q:aO):Option T:=some (T.v (.bool (!decide (dD q))))
noncomputable def AF:List T→Option T:=gS AGA II
theorem PS {a0}:AF [aF true aA a0]=II (a0):=bC (s:=AGA) rfl (a0) rfl
theorem A4K:rM Tryz.prog 292 AF II (b9 AGA) ACQ:=gQ (a1:=(true,aA)) (sp:=II) (F:=ACQ) (Hs:=A7A) (f:=292) (k:=8) AQV aR aU (aL rfl) ⟨_,_,Tryz.func292,rfl⟩ rfl fun _ _=>by kernel_rfl
theorem AH1:aN Tryz.prog 292 AF:=A4K fun q r h hb=>by
 cases h
 unfold ACQ d7
 have no:¬ dD q→true = !decide (dD q):=fun h=>by rw[decide_eq_false h];rfl
 refine bZ (fun h=>iI (no (by unfold dD;omega))) fun h1=>bZ (fun h=>iI (no (by unfold dD;omega))) fun h2=>bZ (fun h=>iI (no (by unfold dD;omega))) fun h3=>iI ?_
 by_cases h:dD q
 ·rw[decide_eq_true h,Bool.not_true]
  unfold dD at h
  exact decide_eq_false (by omega)
 ·rw[decide_eq_false h,Bool.not_false]
  unfold dD at h
  exact decide_eq_true (by omega)
theorem AZV {n:Int}:NT n=0↔n=0:=by
 unfold NT
 split
 ·omega
 ·split<;>omega
noncomputable def AQF:Env:=Env.of [(331,.pure lY),(330,.pure oH),(332,.pure eF)]
def AS8:FuncId→Hint:=fun _=>aX
theorem AB4:aQ Tryz.prog AQF:=.cons AMU (.cons AU3 (.cons A80 (.nil _)))
def IO(y5:Int)(a2:aO)(a3:aO)(a0:aO)(R:T→Prop)(y7:Int)(a1:aO):Prop:=aD (decide (y5=0)) (aI d4 (eF (i7 a2 a3 a0)) fun (y10:Bool)=>aD y10 (R d7) (aD (decide (y7=0)) (aI d4 (eF (i7 a2 a3 a1)) fun (y11:Bool)=>R (T.v (.bool y11))) (R d3))) (aD (decide (y7=0)) (aI d4 (eF (i7 a2 a3 a1)) fun (y12:Bool)=>R (T.v (.bool y12))) (R d3))
def f0(y3:Int)(a0:aO)(a1:aO)(a3:aO)(R:T→Prop)(y5:Int)(a2:aO)(y7:Int):Prop:=aD (decide (y3=0)) (aI d4 (eF (i7 a0 a1 a3)) fun (y9:Bool)=>aD y9 (R d7) (IO y5 a2 a3 a0 R y7 a1)) (IO y5 a2 a3 a0 R y7 a1)
def JW(a0:aO)(a1:aO)(a2:aO)(a3:aO)(R:T→Prop):Prop:=aI d6 (lY (tF a0 a1 a2)) fun (y0:Int)=>aI d6 (oH (BE4 y0)) fun (y1:Int)=>aI d6 (lY (tF a0 a1 a3)) fun (y2:Int)=>aI d6 (oH (BE4 y2)) fun (y3:Int)=>aI d6 (lY (tF a2 a3 a0)) fun (y4:Int)=>aI d6 (oH (BE4 y4)) fun (y5:Int)=>aI d6 (lY (tF a2 a3 a1)) fun (y6:Int)=>aI d6 (oH (BE4 y6)) fun (y7:Int)=>aD (decide (IntKind.i64.wrap (y1*y3)<0)) (aD (decide (IntKind.i64.wrap (y5*y7)<0)) (R d7) (aD (decide (y1=0)) (aI d4 (eF (i7 a0 a1 a2)) fun (y8:Bool)=>aD y8 (R d7) (f0 y3 a0 a1 a3 R y5 a2 y7)) (f0 y3 a0 a1 a3 R y5 a2 y7))) (aD (decide (y1=0)) (aI d4 (eF (i7 a0 a1 a2)) fun (y23:Bool)=>aD y23 (R d7) (f0 y3 a0 a1 a3 R y5 a2 y7)) (f0 y3 a0 a1 a3 R y5 a2 y7))
abbrev M6:Sh:=[(true,aA),(true,aA),(true,aA),(true,aA)]
def yH (x:aO×aO×aO×aO):Option T:=QA x.1 x.2.1 x.2.2.1 x.2.2.2 (T.v (.bool (l7 x.1 x.2.1 x.2.2.1 x.2.2.2)))
noncomputable def wA:List T→Option T:=gS M6 yH
theorem ZD {a0 a1 a2 a3}:wA [aF true aA a0,aF true aA a1,aF true aA a2,
 aF true aA a3]=yH (a0,a1,a2,a3):=bC (s:=M6) rfl (a0,a1,a2,a3) rfl
theorem AOM:Of4 Tryz.prog 296 wA yH (b9 M6) JW:=BDW (a1:=(true,aA)) (a2:=(true,aA)) (a3:=(true,aA)) (a4:=(true,aA)) (sp:=yH) (F:=JW) (Hs:=AS8) (f:=296) (k:=8) AB4 aR aU (aL rfl) ⟨_,_,Tryz.func296,rfl⟩ rfl fun _ _ _ _ _=>by kernel_rfl
theorem AY5 (a b c:Pt) (K:Bool→Prop):aI [(false,Sy.bool)] (eF [aF true aA a,aF true aA b,aF true aA c]) K=K (btw a b c):=by
 rw[show eF [aF true aA a,aF true aA b,aF true aA c]=NK (a,b,c) from AWK ..]
 exact AFY _ K
theorem AMV:aN Tryz.prog 296 wA:=AOM fun a b c d r h hb=>by
 obtain ⟨h1,h2,h3,h4,rfl⟩:=ZX h
 unfold JW BE4 tF f0 IO i7 d7 d6 d4 d3
 refine aG (s:=[(false,.int .i64)]) (qM h1 h2 h3) ?_
 refine aG (s:=[(false,.int .i64)]) (tH _) ?_
 refine aG (s:=[(false,.int .i64)]) (qM h1 h2 h4) ?_
 refine aG (s:=[(false,.int .i64)]) (tH _) ?_
 refine aG (s:=[(false,.int .i64)]) (qM h3 h4 h1) ?_
 refine aG (s:=[(false,.int .i64)]) (tH _) ?_
 refine aG (s:=[(false,.int .i64)]) (qM h3 h4 h2) ?_
 refine aG (s:=[(false,.int .i64)]) (tH _) ?_
 rw[DY,DY]
 have e:∀ {n:Bool},l7 a b c d=n→T.v (.bool n)=T.v (.bool (l7 a b c d)):=fun h=>by rw[h]
 simp only[AY5]
 unfold l7 at e
 unfold TL at e
 clear h hb
 repeat' first
  | refine bZ (fun h=>?_) (fun h=>?_)
  | refine E5 (fun h=>?_) (fun h=>?_)
 all_goals (refine e ?_;clear e;simp only[AZV] at *;simp[*,show NT 0=0 from rfl])
end Go.Pv
namespace Go.Pv
open Go Go.Proofs
theorem TO {p:List Pt} {i:Nat} (h:i<p.length):pt p i=p[i]:=by unfold pt;rw[List.getD_eq_getElem?_getD,List.getElem?_eq_getElem h];rfl
theorem e7 {p:List aO} {k:Nat} (h:k<p.length) (K:aO→Prop):aS aA (List.map aA.enc p) (k:Int) K=K (pt p k):=by
 rw[bD (r:=aA) h,TO h]
theorem tK {i n c:Nat} (hn:n≤1000) (hi:i≤1000) (hc:c≤2):(IntKind.i64.wrap ((i:Int)+(c:Int))).tmod (n:Int)=(((i+c) % n:Nat):Int):=by
 rw[bB _ (by omega) (by omega),Int.tmod_eq_emod_of_nonneg (by omega),Int.natCast_emod,Int.natCast_add]
def AL0 (a b c:Pt):Int:=(a.1-b.1)*(c.1-b.1)+(a.2-b.2)*(c.2-b.2)
def OG (p:List Pt) (i k:Nat):Bool:=!(!decide ((k+1) % p.length=i)&&l7 (pt p i) (nx p i) (pt p k) (nx p k))
def nxx (p:List Pt) (i:Nat):Pt:=pt p ((i+2) % p.length)
def Z8 (p:List Pt) (i:Nat):Bool:=!decide (pt p i=nx p i)&&(!(decide (dK (pt p i) (nx p i) (nxx p i)=0)&&decide (0<AL0 (pt p i) (nx p i) (nxx p i)))&&(List.range p.length).all fun k=>decide (k<i+2)||OG p i k)
def HK (p:List Pt):Bool:=(List.range p.length).all (Z8 p)
def jR (p:List Pt):Prop:=∀ q∈p,dD q
def L4 (p:List Pt):Bool:=p.all fun q=>decide (dD q)
theorem mO {p:List Pt}:L4 p=true↔jR p:=by
 simp only[L4,List.all_eq_true,decide_eq_true_eq];exact Iff.rfl
theorem jR.pt {p:List Pt} (h:jR p) (i:Nat):dD (pt p i):=by
 rcases Nat.lt_or_ge i p.length with hi|hi
 ·rw[TO hi];exact h _ (List.getElem_mem hi)
 ·unfold Go.Pv.pt
  rw[List.getD_eq_getElem?_getD,List.getElem?_eq_none hi]
  unfold dD;decide
def OF (p:List Pt):Bool:=decide (p.length≤1000)&&L4 p
def QF {α:Type} (p:List Pt) (r:α):Option α:=match OF p with
 | true=>some r
 | false=>none
theorem AAB {α:Type} {p:List Pt} {t r:α} (h:QF p t=some r):p.length≤1000∧jR p∧r=t:=by
 unfold QF at h;split at h
 ·rename_i hc
  simp only[OF,Bool.and_eq_true,decide_eq_true_eq,mO] at hc
  cases h;exact ⟨hc.1,hc.2,rfl⟩
 ·cases h
theorem AAC {α:Type} {p:List Pt} (t:α) (h:p.length≤1000) (h2:jR p):QF p t=some t:=by
 unfold QF;rw[show OF p=true by simp only[OF,Bool.and_eq_true,decide_eq_true_eq,mO];exact ⟨h,h2⟩]
theorem AZ8 {a b c:Pt} (ha:dD a) (hb:dD b) (hc:dD c):IntKind.i64.wrap (IntKind.i64.wrap (IntKind.i64.wrap (a.1-b.1)*IntKind.i64.wrap (c.1-b.1))+IntKind.i64.wrap (IntKind.i64.wrap (a.2-b.2)*IntKind.i64.wrap (c.2-b.2)))=AL0 a b c:=by
 unfold dD at ha hb hc
 have h1:=AN (x:=a.1-b.1) (y:=c.1-b.1) (M:=65536) (N:=65536) (by omega) (by omega) (by omega) (by omega)
 have h2:=AN (x:=a.2-b.2) (y:=c.2-b.2) (M:=65536) (N:=65536) (by omega) (by omega) (by omega) (by omega)
 rw[bB (a.1-b.1) (by omega) (by omega),bB (c.2-b.2) (by omega) (by omega),bB (a.2-b.2) (by omega) (by omega),bB (c.1-b.1) (by omega) (by omega),
  bB ((a.1-b.1)*(c.1-b.1)) (by omega) (by omega),bB ((a.2-b.2)*(c.2-b.2)) (by omega) (by omega),bB _ (by omega) (by omega)]
 rfl
noncomputable def AJ5:Env:=Env.of [(328,.pure fK),(329,.pure qL)]
def AK6:FuncId→Hint:=bV 293 [(3,.inv [.val 13 false (.int .i64)]),(12,.inv [.val 8 false (.int .i64)])] (fun _=>aX)
theorem VL:aQ Tryz.prog AJ5:=.cons xD (.cons AU0 (.nil _))
def g9(a0:List aO)(s1:Int×PUnit)(y2:aO)(y3:aO)(R:T→Prop)(X0:Int×PUnit→Prop):Prop:=a7 (Int×PUnit) (fun X6 s7=>aD (decide (s7.1<(↑(f8 a0).length:Int))) (bN (!decide ((↑(f8 a0).length:Int)=0)) (aD (!decide ((IntKind.i64.wrap (s7.1+1)).tmod (↑(f8 a0).length:Int) = s1.1)) (aS aA (f8 a0) s7.1 fun (y8:aO)=>bN (!decide ((↑(f8 a0).length:Int)=0)) (aS aA (f8 a0) ((IntKind.i64.wrap (s7.1+1)).tmod (↑(f8 a0).length:Int)) fun (y9:aO)=>aI d4 (qL [aF true aA y2,aF true aA y3, aF true aA y8,aF true aA y9]) fun (y10:Bool)=>aD y10 (R d3) (f7 X6 s7))) (f7 X6 s7))) (f7 X0 s1)) (IntKind.i64.wrap (s1.1+2),())
def D9(a0:List aO)(R:T→Prop):Prop:=a7 (Int×PUnit) (fun X0 s1=>aD (decide (s1.1<(↑(f8 a0).length:Int))) (aS aA (f8 a0) s1.1 fun (y2:aO)=>bN (!decide ((↑(f8 a0).length:Int)=0)) (aS aA (f8 a0) ((IntKind.i64.wrap (s1.1+1)).tmod (↑(f8 a0).length:Int)) fun (y3:aO)=>aD (decide (y2.1=y3.1)&&(decide (y2.2=y3.2)&&true)) (R d3) (bN (!decide ((↑(f8 a0).length:Int)=0)) (aS aA (f8 a0) ((IntKind.i64.wrap (s1.1+2)).tmod (↑(f8 a0).length:Int)) fun (y4:aO)=>aI d6 (fK (i7 y2 y3 y4)) fun (y5:Int)=>aD (decide (y5=0)) (aD (decide (0 < IntKind.i64.wrap (IntKind.i64.wrap (IntKind.i64.wrap (y2.1-y3.1)*IntKind.i64.wrap (y4.1-y3.1)) + IntKind.i64.wrap (IntKind.i64.wrap (y2.2-y3.2)*IntKind.i64.wrap (y4.2-y3.2))))) (R d3) (g9 a0 s1 y2 y3 R X0)) (g9 a0 s1 y2 y3 R X0))))) (R d7)) (0,())
abbrev F5:Sh:=[(false,aA.li)]
def uA (p:List aO):Option T:=QF p (T.v (.bool (HK p)))
noncomputable def mK:List T→Option T:=gS F5 uA
theorem S0 {a0}:mK [T.sl false (List.map aA.enc a0)]=uA (a0):=bC (s:=F5) rfl (a0) rfl
theorem AFN:rM Tryz.prog 293 mK uA (b9 F5) D9:=gQ (a1:=(false,aA.li)) (sp:=uA) (F:=D9) (Hs:=AK6) (f:=293) (k:=8) VL aR aU (aL rfl) ⟨_,_,Tryz.func293,rfl⟩ rfl fun _ _=>by kernel_rfl
theorem R5 {n:Nat} {f:Nat→Bool} {i:Nat} (hi:i<n) (h:f i=false):(List.range n).all f=false:=by
 rw[Bool.eq_false_iff];intro ha
 have:=oN.1 ha i hi
 rw[h] at this;cases this
theorem AO3 {p:List aO} {i:Nat} (hl:p.length≤1000) (hn:jR p) (hi:i<p.length) {Bad Good:Prop} (hbad:(List.range p.length).all (fun k=>decide (k<i+2)||OG p i k)=false→Bad) (hgood:(List.range p.length).all (fun k=>decide (k<i+2)||OG p i k)=true→Good) :
  a7 (Int×PUnit)
   (fun (X6:Int×PUnit→Prop) (s7:Int×PUnit) =>
    aD (decide (s7.1<(↑(List.map aA.enc p).length:Int)))
     (bN (!decide ((↑(List.map aA.enc p).length:Int)=0))
      (aD (!decide ((IntKind.i64.wrap (s7.1+1)).tmod (↑(List.map aA.enc p).length:Int)=(i:Int)))
       (aS aA (List.map aA.enc p) s7.1 fun (y8:aO) =>
        bN (!decide ((↑(List.map aA.enc p).length:Int)=0))
         (aS aA (List.map aA.enc p) ((IntKind.i64.wrap (s7.1+1)).tmod (↑(List.map aA.enc p).length:Int))
          fun (y9:aO) =>
          aI [(false,Sy.bool)] (qL [aF true aA (pt p i),aF true aA (nx p i),aF true aA y8,aF true aA y9])
           fun (y10:Bool)=>aD y10 Bad (X6 (IntKind.i64.wrap (s7.1+1),()))))
       (X6 (IntKind.i64.wrap (s7.1+1),()))))
     Good)
   (IntKind.i64.wrap ((i:Int)+2),()):=by
 refine bK p.length (fun m s=>s=(((i+2+m:Nat):Int),())∧∀ k,k<i+2+m→k<p.length→(decide (k<i+2)||OG p i k)=true) ⟨by rw[bB _ (by omega) (by omega)];simp,fun k h1 h2=>by simp at h1;simp[h1]⟩ ?_
 rintro X m s hm ⟨rfl,hJ⟩ hX
 dsimp only
 rw[List.length_map]
 refine bZ (fun hlt=>?_) fun hge=>hgood (oN.2 fun k hk=>hJ k (by omega) hk)
 have hk:i+2+m<p.length:=by omega
 have hne:(!decide ((p.length:Int)=0))=true:=by rw[decide_eq_false (by omega)];rfl
 have hix:(IntKind.i64.wrap (((i+2+m:Nat):Int)+1)).tmod (p.length:Int)=(((i+2+m+1) % p.length:Nat):Int):=tK (c:=1) hl (by omega) (by omega)
 have hw:IntKind.i64.wrap (((i+2+m:Nat):Int)+1)=((i+2+(m+1):Nat):Int):=by rw[bB _ (by omega) (by omega)];omega
 have hmod:(i+2+m+1) % p.length<p.length:=Nat.mod_lt _ (by omega)
 have go:OG p i (i+2+m)=true→X (((i+2+(m+1):Nat):Int),()):=fun h=>hX _ (by omega) ⟨rfl,fun k h1 h2=>by
  rcases Nat.lt_or_ge k (i+2+m) with h3|h3
  ·exact hJ k h3 h2
  ·have:k=i+2+m:=by omega
   subst this;rw[h];simp⟩
 refine ⟨hne,?_⟩
 rw[hix,hw]
 refine lI (fun h=>?_) fun h=>go (by unfold OG;rw[decide_eq_true (show (i+2+m+1) % p.length=i by omega)];rfl)
 rw[e7 hk,AYY,e7 hmod]
 refine ⟨hne,?_⟩
 refine aG (s:=[(false,.bool)]) (AEQ (hn.pt _) (hn.pt _) (hn.pt _) (hn.pt _)) ?_
 have e:OG p i (i+2+m) = !l7 (pt p i) (nx p i) (pt p (i+2+m)) (nx p (i+2+m)):=by
  unfold OG;rw[decide_eq_false (show ¬ (i+2+m+1) % p.length=i by omega)];rfl
 refine E5 (fun hm=>hbad (R5 hk ?_)) fun hm=>go ?_
 ·show (decide (i+2+m<i+2)||OG p i (i+2+m))=false
  rw[e,show l7 (pt p i) (nx p i) (pt p (i+2+m)) (nx p (i+2+m))=true from hm];simp
 ·rw[e,show l7 (pt p i) (nx p i) (pt p (i+2+m)) (nx p (i+2+m))=false from hm];rfl
theorem AD5:aN Tryz.prog 293 mK:=AFN fun p r h hb=>by
 obtain ⟨hl,hn,rfl⟩:=AAB h
 clear h
 unfold D9 g9 f8 f7 i7 d7 d6 d4 d3
 refine bK p.length (fun k s=>s=((k:Int),())∧∀ i,i<k→i<p.length→Z8 p i=true) ⟨rfl,fun i h=>by omega⟩ ?_
 rintro X k s hk ⟨rfl,hJ⟩ hX
 dsimp only
 refine bZ (fun hlt=>?_) fun hge=>iI (Eq.symm (oN.2 fun i hi=>hJ i (by rw[List.length_map] at hge;omega) hi))
 rw[List.length_map] at hlt
 have hlt:k<p.length:=by omega
 have hne:(!decide (((List.map aA.enc p).length:Int)=0))=true:=by rw[List.length_map,decide_eq_false (by omega)];rfl
 have hm1:(k+1) % p.length<p.length:=Nat.mod_lt _ (by omega)
 have hm2:(k+2) % p.length<p.length:=Nat.mod_lt _ (by omega)
 have i1:(IntKind.i64.wrap ((k:Int)+1)).tmod ((List.map aA.enc p).length:Int)=(((k+1) % p.length:Nat):Int):=by rw[List.length_map];exact tK (c:=1) hl (by omega) (by omega)
 have i2:(IntKind.i64.wrap ((k:Int)+2)).tmod ((List.map aA.enc p).length:Int)=(((k+2) % p.length:Nat):Int):=by rw[List.length_map];exact tK (c:=2) hl (by omega) (by omega)
 have bad:Z8 p k=false→T.v (.bool false)=T.v (.bool (HK p)):=fun h=>iI (R5 hlt h).symm
 have oI:Z8 p k=true→X (IntKind.i64.wrap ((k:Int)+1),()):=fun h=>hX _ hlt ⟨by rw[show IntKind.i64.wrap ((k:Int)+1)=((k+1:Nat):Int) from bB _ (by omega) (by omega)],fun i h1 h2=>by
  rcases Nat.lt_or_ge i k with h3|h3
  ·exact hJ i h3 h2
  ·have:i=k:=by omega
   subst this;exact h⟩
 rw[e7 hlt,i1]
 refine ⟨hne,?_⟩
 rw[e7 hm1]
 have heq:(decide ((pt p k).1=(pt p ((k+1) % p.length)).1)&&(decide ((pt p k).2=(pt p ((k+1) % p.length)).2)&&true))=decide (pt p k=nx p k):=by
  rw[Bool.and_true,←Bool.decide_and]
  exact decide_eq_decide.2 Prod.ext_iff.symm
 rw[heq]
 refine bZ (fun h=>bad (by unfold Z8;rw[decide_eq_true h];rfl)) fun h1=>?_
 refine ⟨hne,?_⟩
 rw[i2,e7 hm2]
 refine aG (s:=[(false,.int .i64)]) (jC (hn.pt _) (hn.pt _) (hn.pt _)) ?_
 have inner:(decide (dK (pt p k) (nx p k) (nxx p k)=0)&&decide (0<AL0 (pt p k) (nx p k) (nxx p k)))=false→Z8 p k=(List.range p.length).all fun j=>decide (j<k+2)||OG p k j:=fun h=>by
  unfold Z8;rw[decide_eq_false h1,h];simp
 have tail:(decide (dK (pt p k) (nx p k) (nxx p k)=0)&&decide (0<AL0 (pt p k) (nx p k) (nxx p k)))=false→_:=fun h=>AO3 (Bad:=T.v (.bool false)=T.v (.bool (HK p))) (Good:=X (IntKind.i64.wrap ((k:Int)+1),())) hl hn hlt (fun h2=>bad (by rw[inner h,h2])) (fun h2=>oI (by rw[inner h,h2]))
 refine bZ (fun h2=>?_) fun h2=>tail (by rw[show decide (dK (pt p k) (nx p k) (nxx p k)=0)=false from decide_eq_false h2];rfl)
 rw[AZ8 (hn.pt _) (hn.pt _) (hn.pt _)]
 refine bZ (fun h3=>bad ?_) fun h3=>tail (by rw[show decide (0<AL0 (pt p k) (nx p k) (nxx p k))=false from decide_eq_false h3];simp)
 unfold Z8
 rw[decide_eq_true (show dK (pt p k) (nx p k) (nxx p k)=0 from h2),decide_eq_true (show 0<AL0 (pt p k) (nx p k) (nxx p k) from h3)]
 simp
theorem S1 {p:List Pt} (h:p.length≤1000) (h2:jR p):mK [T.sl false (List.map aA.enc p)]=some (Sh.enc [(false,.bool)] (HK p)):=(S0 ..).trans (AAC _ h h2)
def yR:Nat→(Nat→Int)→Int
 | 0,_=>0
 | n+1,f=>yR n f+f n
def AGG (p:List Pt) (i:Nat):Int:=(pt p i).1*(nx p i).2-(nx p i).1*(pt p i).2
def KB (p:List Pt):Int:=yR p.length (AGG p)
theorem AI9 {p:List Pt} (h:jR p) (i:Nat):(-1073741824≤(pt p i).1*(nx p i).2∧(pt p i).1*(nx p i).2≤1073741824)∧(-1073741824≤(nx p i).1*(pt p i).2∧(nx p i).1*(pt p i).2≤1073741824):=by
 have h1:=h.pt i
 have h2:dD (nx p i):=h.pt _
 unfold dD at h1 h2
 have b1:=AN (x:=(pt p i).1) (y:=(nx p i).2) (M:=32768) (N:=32768) (by omega) (by omega) (by omega) (by omega)
 have b2:=AN (x:=(nx p i).1) (y:=(pt p i).2) (M:=32768) (N:=32768) (by omega) (by omega) (by omega) (by omega)
 constructor<;>constructor<;>omega
theorem H5 {p:List Pt} (h:jR p):∀ n:Nat,-(2147483648*(n:Int))≤yR n (AGG p)∧yR n (AGG p)≤2147483648*(n:Int)
 | 0=>by simp[yR]
 | n+1=>by
  have ih:=H5 h n
  have hb:=AI9 h n
  unfold yR
  have e:AGG p n=(pt p n).1*(nx p n).2-(nx p n).1*(pt p n).2:=rfl
  constructor<;>push_cast<;>omega
noncomputable def A0G:Env:=Env.of []
def A1W:FuncId→Hint:=bV 294 [(3,.inv [.val 3 false (.int .i64),.val 9 false (.int .i64)])] (fun _=>aX)
theorem AKJ:aQ Tryz.prog A0G:=.nil _
def RQ(a0:List aO)(R:T→Prop):Prop:=a7 (Int×Int×PUnit) (fun X0 s1=>aD (decide (s1.2.1<(↑(f8 a0).length:Int))) (aS aA (f8 a0) s1.2.1 fun (y2:aO)=>bN (!decide ((↑(f8 a0).length:Int)=0)) (aS aA (f8 a0) ((IntKind.i64.wrap (s1.2.1+1)).tmod (↑(f8 a0).length:Int)) fun (y3:aO)=>X0 (IntKind.i64.wrap (s1.1 + IntKind.i64.wrap (IntKind.i64.wrap (y2.1*y3.2)-IntKind.i64.wrap (y3.1*y2.2))), IntKind.i64.wrap (s1.2.1+1),()))) (R (T.v (.int .i64 s1.1)))) (0,0,())
abbrev T0:Sh:=[(false,aA.li)]
def DM (p:List aO):Option T:=QF p (T.v (Value.int .i64 (KB p)))
noncomputable def oD:List T→Option T:=gS T0 DM
theorem AEN {a0}:oD [T.sl false (List.map aA.enc a0)]=DM (a0):=bC (s:=T0) rfl (a0) rfl
theorem AX1:rM Tryz.prog 294 oD DM (b9 T0) RQ:=gQ (a1:=(false,aA.li)) (sp:=DM) (F:=RQ) (Hs:=A1W) (f:=294) (k:=8) AKJ aR aU (aL rfl) ⟨_,_,Tryz.func294,rfl⟩ rfl fun _ _=>by kernel_rfl
theorem XB:aN Tryz.prog 294 oD:=AX1 fun p r h hb=>by
 obtain ⟨hl,hn,rfl⟩:=AAB h
 clear h
 unfold RQ f8
 refine bK p.length (fun k s=>s=(yR k (AGG p),(k:Int),())) rfl ?_
 rintro X k s hk rfl hX
 dsimp only
 refine bZ (fun hlt=>?_) fun hge=>HS (by rw[List.length_map] at hge;rw[show k=p.length by omega];rfl)
 rw[List.length_map] at hlt
 have hlt:k<p.length:=by omega
 have hne:(!decide (((List.map aA.enc p).length:Int)=0))=true:=by rw[List.length_map,decide_eq_false (by omega)];rfl
 have hm1:(k+1) % p.length<p.length:=Nat.mod_lt _ (by omega)
 have i1:(IntKind.i64.wrap ((k:Int)+1)).tmod ((List.map aA.enc p).length:Int)=(((k+1) % p.length:Nat):Int):=by rw[List.length_map];exact tK (c:=1) hl (by omega) (by omega)
 rw[e7 hlt,i1]
 refine ⟨hne,?_⟩
 rw[e7 hm1]
 have hb1:=AI9 hn k
 have hb2:=H5 hn k
 have hb3:=H5 hn (k+1)
 refine hX _ hlt ?_
 rw[show IntKind.i64.wrap ((k:Int)+1)=((k+1:Nat):Int) from bB _ (by omega) (by omega)]
 have e:IntKind.i64.wrap (yR k (AGG p)+IntKind.i64.wrap (IntKind.i64.wrap ((pt p k).1*(nx p k).2)-IntKind.i64.wrap ((nx p k).1*(pt p k).2)))=yR (k+1) (AGG p):=by
  rw[bB ((pt p k).1*(nx p k).2) (by omega) (by omega),bB ((nx p k).1*(pt p k).2) (by omega) (by omega),bB ((pt p k).1*(nx p k).2-(nx p k).1*(pt p k).2) (by omega) (by omega),bB _ (by omega) (by omega)]
  rfl
 rw[←e];rfl
theorem LP {p:List Pt} (h:p.length≤1000) (h2:jR p):oD [T.sl false (List.map aA.enc p)]=some (Sh.enc [(false,.int .i64)] (KB p)):=(AEN ..).trans (AAC _ h h2)
def jU (p:List Pt):Int:=if p.length<3 then 3 else if 32<p.length then 4 else if L4 p=false then 9 else if HK p=false∨KB p=0 then 17 else 0
noncomputable def AJ4:Env:=Env.of [(292,.pure AF),(293,.pure mK),(294,.pure oD)]
def AK5:FuncId→Hint:=bV 327 [(2,.inv [.val 8 false (.int .i64)])] (fun _=>aX)
theorem VK:aQ Tryz.prog AJ4:=.cons AH1 (.cons AD5 (.cons XB (.nil _)))
def H1(a0:List aO)(R:T→Prop):Prop:=aI d4 (mK (BE0 a0)) fun (y4:Bool)=>aD (!y4) (R (T.v (.int .i64 17))) (aI d6 (oD (BE0 a0)) fun (y5:Int)=>aD (decide (y5=0)) (R (T.v (.int .i64 17))) (AIG R))
def D8(a0:List aO)(R:T→Prop):Prop:=aD (decide ((↑(f8 a0).length:Int)<3)) (R (T.v (.int .i64 3))) (aD (decide (32<(↑(f8 a0).length:Int))) (R (T.v (.int .i64 4))) (a7 (Int×PUnit) (fun X0 s1=>aD (decide (s1.1<(↑(f8 a0).length:Int))) (aS aA (f8 a0) s1.1 fun (y2:aO)=>aI d4 (AF [aF true aA y2]) fun (y3:Bool)=>aD y3 (aD (decide (0≤s1.1)) (m7 R) (H1 a0 R)) (f7 X0 s1)) (H1 a0 R)) (0,())))
abbrev F4:Sh:=[(false,aA.li)]
def tZ (p:List aO):Option T:=some (T.v (Value.int .i64 (jU p)))
noncomputable def fV:List T→Option T:=gS F4 tZ
theorem SZ {a0}:fV [T.sl false (List.map aA.enc a0)]=tZ (a0):=bC (s:=F4) rfl (a0) rfl
theorem AFM:rM Tryz.prog 170 fV tZ (b9 F4) D8:=gQ (a1:=(false,aA.li)) (sp:=tZ) (F:=D8) (Hs:=AK5) (f:=170) (k:=8) VK aR aU (aL rfl) ⟨_,_,Tryz.func170,rfl⟩ rfl fun _ _=>by kernel_rfl
theorem z7:aN Tryz.prog 170 fV:=AFM fun p r h hb=>by
 cases h
 have is:∀ {n:Int},jU p=n→T.v (.int .i64 n)=T.v (.int .i64 (jU p)):=fun h=>by rw[h]
 unfold D8 H1 BE0 AIG f8 f7 m7 d6 d4
 refine bZ (fun h=>is (by rw[List.length_map] at h;unfold jU;rw[if_pos (by omega)])) fun h1=>?_
 refine bZ (fun h=>is (by rw[List.length_map] at h h1;unfold jU;rw[if_neg (by omega),if_pos (by omega)])) fun h2=>?_
 rw[List.length_map] at h1 h2
 refine bK p.length (fun k s=>s=((k:Int),())∧∀ i,i<k→i<p.length→dD (pt p i)) ⟨rfl,fun i h=>by omega⟩ ?_
 rintro X k s hk ⟨rfl,hJ⟩ hX
 dsimp only
 refine bZ (fun hlt=>?_) fun hge=>?_
 ·rw[List.length_map] at hlt
  have hlt:k<p.length:=by omega
  rw[e7 hlt]
  refine aG (s:=[(false,.bool)]) (y:=!decide (dD (pt p k))) (PS ..) ?_
  refine lI (fun hf=>?_) fun hn=>hX _ hlt ⟨by rw[show IntKind.i64.wrap ((k:Int)+1)=((k+1:Nat):Int) from bB _ (by omega) (by omega)],fun i h1 h2=>by
   rcases Nat.lt_or_ge i k with h3|h3
   ·exact hJ i h3 h2
   ·have:i=k:=by omega
    subst this;exact hn⟩
  refine bZ (fun _=>is ?_) fun h=>by omega
  have:L4 p=false:=by
   rw[Bool.eq_false_iff];intro h
   have:=mO.1 h _ (List.getElem_mem hlt)
   rw[←TO hlt] at this
   exact hf this
  unfold jU;rw[if_neg (by omega),if_neg (by omega),if_pos this]
 ·have hN:jR p:=fun q hq=>by
   obtain ⟨i,hi,rfl⟩:=List.mem_iff_getElem.1 hq
   rw[←TO hi]
   rw[List.length_map] at hge
   exact hJ i (by omega) hi
  have hnb:¬ L4 p=false:=by rw[mO.2 hN];simp
  refine aG (s:=[(false,.bool)]) (S1 (by omega) hN) ?_
  refine kQ (fun h=>is (by unfold jU;rw[if_neg (by omega),if_neg (by omega),if_neg hnb,if_pos (.inl h)])) fun hs=>?_
  refine aG (s:=[(false,.int .i64)]) (LP (by omega) hN) ?_
  refine bZ (fun h=>is (by unfold jU;rw[if_neg (by omega),if_neg (by omega),if_neg hnb,if_pos (.inr h)])) fun ha=>is ?_
  unfold jU
  rw[if_neg (by omega),if_neg (by omega),if_neg hnb,if_neg]
  rintro (h|h)
  ·rw[show HK p=true from hs] at h;cases h
  ·exact ha h
theorem oE (p:List Pt):fV [T.sl false (List.map aA.enc p)]=some (Sh.enc [(false,.int .i64)] (jU p)):=SZ ..
theorem sH {p:List Pt} (h:jU p=0):3≤p.length∧p.length≤32∧jR p∧HK p=true∧KB p≠0:=by
 unfold jU at h
 by_cases h1:p.length<3
 ·rw[if_pos h1] at h;cases h
 rw[if_neg h1] at h
 by_cases h2:32<p.length
 ·rw[if_pos h2] at h;cases h
 rw[if_neg h2] at h
 by_cases h3:L4 p=false
 ·rw[if_pos h3] at h;cases h
 rw[if_neg h3] at h
 by_cases h4:HK p=false∨KB p=0
 ·rw[if_pos h4] at h;cases h
 refine ⟨by omega,by omega,mO.1 (by simpa using h3),by simpa using fun e=>h4 (.inl e),fun e=>h4 (.inr e)⟩
def qG (p:List Pt):Int:=if jU p=0 then KB p else 0
noncomputable def AP0:Env:=Env.of [(170,.pure fV),(294,.pure oD)]
def ASY:FuncId→Hint:=fun _=>aX
theorem ABT:aQ Tryz.prog AP0:=.cons z7 (.cons XB (.nil _))
def JL(a0:List aO)(R:T→Prop):Prop:=aI d6 (fV (BE0 a0)) fun (y0:Int)=>aD (!decide (y0=0)) (AIG R) (aI d6 (oD (BE0 a0)) fun (y1:Int)=>R (T.v (.int .i64 y1)))
abbrev MV:Sh:=[(false,aA.li)]
def x9 (p:List aO):Option T:=some (T.v (Value.int .i64 (qG p)))
noncomputable def lV:List T→Option T:=gS MV x9
theorem YN {a0}:lV [T.sl false (List.map aA.enc a0)]=x9 (a0):=bC (s:=MV) rfl (a0) rfl
theorem AOB:rM Tryz.prog 171 lV x9 (b9 MV) JL:=gQ (a1:=(false,aA.li)) (sp:=x9) (F:=JL) (Hs:=ASY) (f:=171) (k:=8) ABT aR aU (aL rfl) ⟨_,_,Tryz.func171,rfl⟩ rfl fun _ _=>by kernel_rfl
theorem PB:aN Tryz.prog 171 lV:=AOB fun p r h hb=>by
 cases h
 unfold JL BE0 AIG f8 d6
 refine aG (s:=[(false,.int .i64)]) (oE p) ?_
 refine lI (fun h=>HS (by unfold qG;rw[if_neg h])) fun h=>?_
 obtain ⟨_,h2,h3,_⟩:=sH h
 refine aG (s:=[(false,.int .i64)]) (LP (by omega) h3) ?_
 exact HS (by unfold qG;rw[if_pos h])
theorem vX (p:List Pt):lV [T.sl false (List.map aA.enc p)]=some (Sh.enc [(false,.int .i64)] (qG p)):=YN ..
end Go.Pv
namespace Go.Pv
open Go Go.Proofs
def AIR (p:List Pt) (q:Pt):Bool:=(List.range p.length).any fun i=>TL (pt p i) (nx p i) q
def gV (p:List Pt) (q:Pt):Int:=if ¬ dD q∨¬ jU p=0 then -1 else if AIR p q=true then 0 else if A3M p q=true then 1 else -1
theorem w3 {n:Nat} {f:Nat→Bool}:(List.range n).any f=true↔∃ i,i<n∧f i=true:=by simp[List.any_eq_true,List.mem_range]
theorem AC4 {n:Nat} {f:Nat→Bool} (h:∀ i,i<n→f i=false):(List.range n).any f=false:=by
 rw[Bool.eq_false_iff];intro ha
 obtain ⟨i,hi,h2⟩:=w3.1 ha
 rw[h i hi] at h2;cases h2
theorem AWO {a b q:Pt} (ho:TL a b q=false):hit a b q=(!(decide (q.2<a.2) == decide (q.2<b.2))&&(decide (0<dK a b q) == decide (a.2<b.2))):=by
 rcases Int.lt_or_le q.2 a.2 with h1|h1
 ·rcases Int.lt_or_le q.2 b.2 with h2|h2
  ·unfold hit;simp[show ¬ a.2≤q.2 by omega,show ¬ b.2≤q.2 by omega,h1,h2]
  ·have hz:dK a b q≠0:=fun h=>by
    have:=A4T (a:=b) (b:=a) (q:=q) (by rw[KL a b q,h];rfl) (by omega) h2 (by omega)
    rw[A4S] at this;rw[this] at ho;cases ho
   have h3:decide (0<dK a b q) = !decide (dK a b q<0):=by
    rcases Int.lt_or_le (dK a b q) 0 with h|h
    ·rw[decide_eq_true h,decide_eq_false (by omega)];rfl
    ·rw[decide_eq_false (show ¬ dK a b q<0 by omega),decide_eq_true (by omega)];rfl
   unfold hit
   rw[h3]
   simp[show ¬ a.2≤q.2 by omega,h1,h2,show ¬ q.2<b.2 by omega,show ¬ a.2<b.2 by omega]
 ·rcases Int.lt_or_le q.2 b.2 with h2|h2
  ·unfold hit;simp[h1,show ¬ q.2<a.2 by omega,h2,show ¬ b.2≤q.2 by omega,show a.2<b.2 by omega]
  ·unfold hit;simp[show ¬ q.2<a.2 by omega,show ¬ q.2<b.2 by omega]
noncomputable def AP4:Env:=Env.of [(170,.pure fV),(292,.pure AF),(333,.pure vY),(328,.pure fK)]
def AS2:FuncId→Hint:=bV 298 [(5,.inv [.val 5 false .bool,.val 19 false (.int .i64)])] (fun _=>aX)
theorem ABX:aQ Tryz.prog AP4:=.cons z7 (.cons AH1 (.cons AU1 (.cons xD (.nil _))))
def JP(a0:List aO)(a1:aO)(R:T→Prop):Prop:=aI d4 (AF [aF true aA a1]) fun (y0:Bool)=>aD y0 (R BE5) (aI d6 (fV (BE0 a0)) fun (y1:Int)=>aD (!decide (y1=0)) (R BE5) (a7 (Bool×Int×PUnit) (fun X2 s3=>aD (decide (s3.2.1<(↑(f8 a0).length:Int))) (aS aA (f8 a0) s3.2.1 fun (y4:aO)=>bN (!decide ((↑(f8 a0).length:Int)=0)) (aS aA (f8 a0) ((IntKind.i64.wrap (s3.2.1+1)).tmod (↑(f8 a0).length:Int)) fun (y5:aO)=>aI d4 (vY (i7 y4 y5 a1)) fun (y6:Bool)=>aD y6 (AIG R) (aD (decide (decide (a1.2<y4.2)=decide (a1.2<y5.2))) (X2 (s3.1,IntKind.i64.wrap (s3.2.1+1),())) (aI d6 (fK (i7 y4 y5 a1)) fun (y7:Int)=>aD (decide (decide (0<y7)=decide (y4.2<y5.2))) (X2 (!s3.1,IntKind.i64.wrap (s3.2.1+1),())) (X2 (s3.1,IntKind.i64.wrap (s3.2.1+1),())))))) (aD s3.1 (R (T.v (.int .i64 1))) (R BE5))) (false,0,())))
abbrev MZ:Sh:=[(false,aA.li),(true,aA)]
def yD (x:List aO×aO):Option T:=some (T.v (Value.int .i64 (gV x.1 x.2)))
noncomputable def lX:List T→Option T:=gS MZ yD
theorem YZ {a0 a1}:lX [T.sl false (List.map aA.enc a0),aF true aA a1]=yD (a0,a1):=bC (s:=MZ) rfl (a0,a1) rfl
theorem AOF:yL Tryz.prog 298 lX yD (b9 MZ) JP:=jZ (a1:=(false,aA.li)) (a2:=(true,aA)) (sp:=yD) (F:=JP) (Hs:=AS2) (f:=298) (k:=8) ABX aR aU (aL rfl) ⟨_,_,Tryz.func298,rfl⟩ rfl fun _ _ _=>by kernel_rfl
def vH (p q:List Pt):Bool:=(List.range p.length).any fun i=>(List.range q.length).any fun k=>l7 (pt p i) (nx p i) (pt q k) (nx q k)
def lJ (a0:List aO) (a1:List aO):List T:=[T.sl false (List.map aA.enc a0),T.sl false (List.map aA.enc a1),T.fn 296 [] []]
noncomputable def I5:Env:=Env.of [(296,.pure wA)]
def V5:FuncId→Hint:=bV 295 [(2,.inv [.val 13 false (.int .i64)]),(5,.inv [.val 20 false (.int .i64)])] (fun _=>aX)
theorem AB3:aQ Tryz.prog I5:=.cons AMV (.nil _)
def JV(a0:List aO)(a1:List aO)(R:T→Prop):Prop:=a7 (Int×PUnit) (fun X0 s1=>aD (decide (s1.1<(↑(f8 a0).length:Int))) (aS aA (f8 a0) s1.1 fun (y2:aO)=>a7 (Int×PUnit) (fun X3 s4=>aD (decide (s4.1<(↑(f8 a1).length:Int))) (aS aA (f8 a1) s4.1 fun (y5:aO)=>bN (!decide ((↑(f8 a0).length:Int)=0)) (aS aA (f8 a0) ((IntKind.i64.wrap (s1.1+1)).tmod (↑(f8 a0).length:Int)) fun (y6:aO)=>bN (!decide ((↑(f8 a1).length:Int)=0)) (aS aA (f8 a1) ((IntKind.i64.wrap (s4.1+1)).tmod (↑(f8 a1).length:Int)) fun (y7:aO)=>aI d4 (wA [aF true aA y2,aF true aA y6, aF true aA y5,aF true aA y7]) fun (y8:Bool)=>aD y8 (R d7) (f7 X3 s4)))) (f7 X0 s1)) (0,())) (R d3)) (0,())
theorem VX ( a0 a1 R):dH bR Tryz.prog I5 V5 8 295 (lJ a0 a1) R=JV a0 a1 R:=by kernel_rfl
def MB {α:Type} (p q:List Pt) (r:α):Option α:=match OF p&&OF q with
 | true=>some r
 | false=>none
theorem MC {α:Type} {p q:List Pt} {t r:α} (h:MB p q t=some r):p.length≤1000∧jR p∧q.length≤1000∧jR q∧r=t:=by
 unfold MB at h;split at h
 ·rename_i hc
  simp only[OF,Bool.and_eq_true,decide_eq_true_eq,mO] at hc
  cases h;exact ⟨hc.1.1,hc.1.2,hc.2.1,hc.2.2,rfl⟩
 ·cases h
theorem MD {α:Type} {p q:List Pt} (t:α) (h:p.length≤1000) (h2:jR p) (h3:q.length≤1000) (h4:jR q):MB p q t=some t:=by
 unfold MB;rw[show (OF p&&OF q)=true by simp only[OF,Bool.and_eq_true,decide_eq_true_eq,mO];exact ⟨⟨h,h2⟩,h3,h4⟩]
def GP (x:List aO×List aO):Option T:=MB x.1 x.2 (T.v (.bool (vH x.1 x.2)))
theorem Q9 (x y:List aO×List aO) (h:lJ x.1 x.2=lJ y.1 y.2):x=y:=by
 unfold lJ at h
 obtain ⟨h1,h2⟩:=List.cons.inj h
 have h2:=(List.cons.inj h2).1
 exact Prod.ext (map_inj (Sy.cY aA) (T.sl.inj h1).2) (map_inj (Sy.cY aA) (T.sl.inj h2).2)
noncomputable def nC:List T→Option (T):=gA (fun (x:List aO×List aO)=>lJ x.1 x.2) GP
theorem Y7 (a0:List aO) (a1:List aO):nC (lJ a0 a1)=GP (a0,a1):=dS (A:=(fun (x:List aO×List aO)=>lJ x.1 x.2)) Q9 (a0,a1)
theorem AOL (h:∀ (a0:List aO) (a1:List aO) (r:T),GP (a0,a1)=some r→(∀ t∈lJ a0 a1,Bd t)→JV a0 a1 (fun y=>y=r)):aN Tryz.prog 295 nC :=
 b7 (E:=I5) (Hs:=V5) AB3 aR aU (aL rfl) 8 ⟨_,_,Tryz.func295,rfl⟩ fun x r h1 h2=>by
  rw[VX]
  exact h x.1 x.2 r h1 h2
theorem PE:aN Tryz.prog 295 nC:=AOL fun p q r h hb=>by
 obtain ⟨hl,hn,hl2,hn2,rfl⟩:=MC h
 replace hl:p.length≤1000:=hl
 replace hl2:q.length≤1000:=hl2
 clear h
 unfold JV f8 f7 d7 d4 d3
 refine bK p.length (fun k s=>s=((k:Int),())∧∀ i,i<k→i<p.length→((List.range q.length).any fun k=>l7 (pt p i) (nx p i) (pt q k) (nx q k))=false) ⟨rfl,fun i h=>by omega⟩ ?_
 rintro X k s hk ⟨rfl,hJ⟩ hX
 dsimp only
 refine bZ (fun hlt=>?_) fun hge=>iI (Eq.symm (AC4 fun i hi=>hJ i (by rw[List.length_map] at hge;omega) hi))
 rw[List.length_map] at hlt
 have hlt:k<p.length:=by omega
 have hne:(!decide (((List.map aA.enc p).length:Int)=0))=true:=by rw[List.length_map,decide_eq_false (by omega)];rfl
 have hm1:(k+1) % p.length<p.length:=Nat.mod_lt _ (by omega)
 have i1:(IntKind.i64.wrap ((k:Int)+1)).tmod ((List.map aA.enc p).length:Int)=(((k+1) % p.length:Nat):Int):=by rw[List.length_map];exact tK (c:=1) hl (by omega) (by omega)
 rw[e7 hlt]
 refine bK q.length (fun j s=>s=((j:Int),())∧∀ i,i<j→i<q.length→l7 (pt p k) (nx p k) (pt q i) (nx q i)=false) ⟨rfl,fun i h=>by omega⟩ ?_
 rintro Y j s hj ⟨rfl,hI⟩ hY
 dsimp only
 refine bZ (fun hlj=>?_) fun hgj=>hX _ hlt ⟨by rw[show IntKind.i64.wrap ((k:Int)+1)=((k+1:Nat):Int) from bB _ (by omega) (by omega)],fun i h1 h2=>by
  rcases Nat.lt_or_ge i k with h3|h3
  ·exact hJ i h3 h2
  ·have:i=k:=by omega
   subst this;exact AC4 fun m hm=>hI m (by rw[List.length_map] at hgj;omega) hm⟩
 rw[List.length_map] at hlj
 have hlj:j<q.length:=by omega
 have hne2:(!decide (((List.map aA.enc q).length:Int)=0))=true:=by rw[List.length_map,decide_eq_false (by omega)];rfl
 have hm2:(j+1) % q.length<q.length:=Nat.mod_lt _ (by omega)
 have i2:(IntKind.i64.wrap ((j:Int)+1)).tmod ((List.map aA.enc q).length:Int)=(((j+1) % q.length:Nat):Int):=by rw[List.length_map];exact tK (c:=1) hl2 (by omega) (by omega)
 rw[e7 hlj,i1]
 refine ⟨hne,?_⟩
 rw[e7 hm1,i2]
 refine ⟨hne2,?_⟩
 rw[e7 hm2]
 refine aG (s:=[(false,.bool)]) ((ZD ..).trans (ZY _ (hn.pt _) (hn.pt _) (hn2.pt _) (hn2.pt _))) ?_
 refine E5 (fun h=>iI (Eq.symm (w3.2 ⟨k,hlt,w3.2 ⟨j,hlj,h⟩⟩))) fun h=>hY _ hlj ⟨by rw[show IntKind.i64.wrap ((j:Int)+1)=((j+1:Nat):Int) from bB _ (by omega) (by omega)],fun i h1 h2=>by
  rcases Nat.lt_or_ge i j with h3|h3
  ·exact hI i h3 h2
  ·have:i=j:=by omega
   subst this;exact h⟩
theorem G6 {p q:List Pt} (h:p.length≤1000) (h2:jR p) (h3:q.length≤1000) (h4:jR q):nC (lJ p q)=some (Sh.enc [(false,.bool)] (vH p q)):=(Y7 ..).trans (MD _ h h2 h3 h4)
theorem PC:aN Tryz.prog 298 lX:=AOF fun p q r h hb=>by
 cases h
 have is:∀ {n:Int},gV p q=n→T.v (.int .i64 n)=T.v (.int .i64 (gV p q)):=fun h=>by rw[h]
 unfold JP BE5 BE0 AIG f8 i7 d6 d4
 refine aG (s:=[(false,.bool)]) (y:=!decide (dD q)) (PS ..) ?_
 refine lI (fun h=>is (by unfold gV;rw[if_pos (.inl h)])) fun hq=>?_
 refine aG (s:=[(false,.int .i64)]) (oE p) ?_
 refine lI (fun h=>is (by unfold gV;rw[if_pos (.inr h)])) fun hp=>?_
 obtain ⟨hl3,hl32,hn,_⟩:=sH hp
 have w:gV p q=if AIR p q=true then 0 else if A3M p q=true then 1 else -1:=by
  unfold gV;rw[if_neg];rintro (h|h)
  ·exact h hq
  ·exact h hp
 refine bK p.length (fun k s=>s=(AZ9 k (fun i=>hit (pt p i) (nx p i) q),(k:Int),())∧∀ i,i<k→i<p.length→TL (pt p i) (nx p i) q=false) ⟨rfl,fun i h=>by omega⟩ ?_
 rintro X k s hk ⟨rfl,hJ⟩ hX
 dsimp only
 refine bZ (fun hlt=>?_) fun hge=>?_
 ·rw[List.length_map] at hlt
  have hlt:k<p.length:=by omega
  have hne:(!decide (((List.map aA.enc p).length:Int)=0))=true:=by rw[List.length_map,decide_eq_false (by omega)];rfl
  have hm1:(k+1) % p.length<p.length:=Nat.mod_lt _ (by omega)
  have i1:(IntKind.i64.wrap ((k:Int)+1)).tmod ((List.map aA.enc p).length:Int)=(((k+1) % p.length:Nat):Int):=by rw[List.length_map];exact tK (c:=1) (by omega) (by omega) (by omega)
  rw[e7 hlt,i1]
  refine ⟨hne,?_⟩
  rw[e7 hm1]
  refine aG (s:=[(false,.bool)]) (vZ (hn.pt _) (hn.pt _) hq) ?_
  refine E5 (fun h=>is (by rw[w,if_pos (show AIR p q=true from w3.2 ⟨k,hlt,h⟩)])) fun ho=>?_
  have ho:TL (pt p k) (nx p k) q=false:=ho
  have hw:IntKind.i64.wrap ((k:Int)+1)=((k+1:Nat):Int):=bB _ (by omega) (by omega)
  have hh:=AWO ho
  have hJ':∀ i,i<k+1→i<p.length→TL (pt p i) (nx p i) q=false:=fun i h1 h2=>by
   rcases Nat.lt_or_ge i k with h3|h3
   ·exact hJ i h3 h2
   ·have:i=k:=by omega
    subst this;exact ho
  have step:∀ c,hit (pt p k) (nx p k) q=c→X ((AZ9 k (fun i=>hit (pt p i) (nx p i) q) ^^ c),IntKind.i64.wrap ((k:Int)+1),()):=fun c hc=>hX _ hlt ⟨by rw[hw,AZ9,hc],hJ'⟩
  refine bZ (fun h=>?_) fun h=>?_
  ·have e:hit (pt p k) (nx p k) q=false:=by
    rw[hh,show decide (q.2<(pt p k).2)=decide (q.2<(nx p k).2) from h];simp
   have:=step false e
   rwa[Bool.xor_false] at this
  ·refine aG (s:=[(false,.int .i64)]) (jC (hn.pt _) (hn.pt _) hq) ?_
   have e0:hit (pt p k) (nx p k) q=(decide (0<dK (pt p k) (nx p k) q) == decide ((pt p k).2<(nx p k).2)):=by
    rw[hh,show (decide (q.2<(pt p k).2) == decide (q.2<(nx p k).2))=false from beq_eq_false_iff_ne.2 h];rfl
   refine bZ (fun h2=>?_) fun h2=>?_
   ·have:=step true (by rw[e0];exact beq_iff_eq.2 h2)
    rwa[Bool.xor_true] at this
   ·have:=step false (by rw[e0];exact beq_eq_false_iff_ne.2 h2)
    rwa[Bool.xor_false] at this
 ·rw[List.length_map] at hge
  have:k=p.length:=by omega
  subst this
  have hna:AIR p q=false:=AC4 fun i hi=>hJ i hi hi
  refine E5 (fun h=>is ?_) fun h=>is ?_
  ·rw[w,hna,if_neg (by simp),if_pos (show A3M p q=true from h)]
  ·rw[w,hna,if_neg (by simp),if_neg (by rw[show A3M p q=false from h];simp)]
theorem v7 (p:List Pt) (q:Pt):lX [T.sl false (List.map aA.enc p),aF true aA q]=some (Sh.enc [(false,.int .i64)] (gV p q)):=YZ ..
def qZ (p o:List Pt):Bool:=!vH p o&&p.all fun c=>decide (gV o c=1)
def sO (p q:List Pt):Bool:=!vH p q&&(decide (gV p (pt q 0)<0)&&decide (gV q (pt p 0)<0))
noncomputable def AJ8:Env:=Env.of [(298,.pure lX),(295,.pure nC)]
def AK9:FuncId→Hint:=bV 327 [(2,.inv [.val 8 false (.int .i64)])] (fun _=>aX)
theorem VO:aQ Tryz.prog AJ8:=.cons PC (.cons PE (.nil _))
def EC(a0:List aO)(a1:List aO)(R:T→Prop):Prop:=aI d4 (nC [T.sl false (f8 a0),T.sl false (f8 a1), T.fn 296 [] []]) fun (y0:Bool)=>aD (!y0) (a7 (Int×PUnit) (fun X1 s2=>aD (decide (s2.1<(↑(f8 a0).length:Int))) (aS aA (f8 a0) s2.1 fun (y3:aO)=>aI d6 (lX [T.sl false (f8 a1),aF true aA y3]) fun (y4:Int)=>aD (!decide (y4=1)) (R (T.v (.bool !decide (0≤s2.1)))) (f7 X1 s2)) (R d7)) (0,())) (R d3)
abbrev F8:Sh:=[(false,aA.li),(false,aA.li)]
def uD (x:List aO×List aO):Option T:=MB x.1 x.2 (T.v (.bool (qZ x.1 x.2)))
noncomputable def oT:List T→Option T:=gS F8 uD
theorem S4 {a0 a1}:oT [T.sl false (List.map aA.enc a0),T.sl false (List.map aA.enc a1)]=uD (a0,a1):=bC (s:=F8) rfl (a0,a1) rfl
theorem AFQ:yL Tryz.prog 172 oT uD (b9 F8) EC:=jZ (a1:=(false,aA.li)) (a2:=(false,aA.li)) (sp:=uD) (F:=EC) (Hs:=AK9) (f:=172) (k:=8) VO aR aU (aL rfl) ⟨_,_,Tryz.func172,rfl⟩ rfl fun _ _ _=>by kernel_rfl
theorem AD7:aN Tryz.prog 172 oT:=AFQ fun p o r h hb=>by
 obtain ⟨hl,hn,hl2,hn2,rfl⟩:=MC h
 replace hl:p.length≤1000:=hl
 clear h
 unfold EC f8 f7 d7 d6 d4 d3
 refine aG (s:=[(false,.bool)]) (G6 hl hn hl2 hn2) ?_
 refine kQ (fun he=>?_) fun he=>iI (by unfold qZ;rw[show vH p o=true from he];rfl)
 have w:qZ p o=p.all fun c=>decide (gV o c=1):=by unfold qZ;rw[show vH p o=false from he];rfl
 refine bK p.length (fun k s=>s=((k:Int),())∧p.all (fun c=>decide (gV o c=1))=(p.drop k).all fun c=>decide (gV o c=1)) ⟨rfl,by rw[List.drop_zero]⟩ ?_
 rintro X k s hk ⟨rfl,hJ⟩ hX
 dsimp only
 refine bZ (fun hlt=>?_) fun hge=>iI ?_
 ·rw[List.length_map] at hlt
  have hlt:k<p.length:=by omega
  rw[List.drop_eq_getElem_cons hlt,List.all_cons] at hJ
  rw[bD (r:=aA) hlt]
  refine aG (s:=[(false,.int .i64)]) (v7 o p[k]) ?_
  refine lI (fun h=>iI ?_) fun h=>hX _ hlt ⟨by rw[show IntKind.i64.wrap ((k:Int)+1)=((k+1:Nat):Int) from bB _ (by omega) (by omega)],by rw[hJ,decide_eq_true (show gV o p[k]=1 from h),Bool.true_and]⟩
  rw[w,hJ,decide_eq_false (show ¬ gV o p[k]=1 from h),decide_eq_true (show 0≤(k:Int) by omega)];rfl
 ·rw[List.length_map] at hge
  have:k=p.length:=by omega
  subst this
  rw[w,hJ,List.drop_length];rfl
theorem S5 {p q:List Pt} (h:p.length≤1000) (h2:jR p) (h3:q.length≤1000) (h4:jR q):oT [T.sl false (List.map aA.enc p),T.sl false (List.map aA.enc q)]=some (Sh.enc [(false,.bool)] (qZ p q)):=(S4 ..).trans (MD _ h h2 h3 h4)
def AFU (p q:List Pt) (t:T):Option T:=match p,q with
 | _::_,_::_=>MB p q t
 | _,_=>none
noncomputable def AP5:Env:=Env.of [(298,.pure lX),(295,.pure nC)]
def AS3:FuncId→Hint:=fun _=>aX
theorem ABY:aQ Tryz.prog AP5:=.cons PC (.cons PE (.nil _))
def JQ(a0:List aO)(a1:List aO)(R:T→Prop):Prop:=aI d4 (nC [T.sl false (f8 a0),T.sl false (f8 a1), T.fn 296 [] []]) fun (y0:Bool)=>aD (!y0) (aS aA (f8 a1) 0 fun (y1:aO)=>aI d6 (lX [T.sl false (f8 a0),aF true aA y1]) fun (y2:Int)=>aD (decide (y2<0)) (aS aA (f8 a0) 0 fun (y3:aO)=>aI d6 (lX [T.sl false (f8 a1),aF true aA y3]) fun (y4:Int)=>R (T.v (.bool (decide (y4<0))))) (R d3)) (R d3)
abbrev M0:Sh:=[(false,aA.li),(false,aA.li)]
def oX (x:List aO×List aO):Option T:=AFU x.1 x.2 (T.v (.bool (sO x.1 x.2)))
noncomputable def r8:List T→Option T:=gS M0 oX
theorem Y0 {a0 a1}:r8 [T.sl false (List.map aA.enc a0),T.sl false (List.map aA.enc a1)]=oX (a0,a1):=bC (s:=M0) rfl (a0,a1) rfl
theorem AOG:yL Tryz.prog 173 r8 oX (b9 M0) JQ:=jZ (a1:=(false,aA.li)) (a2:=(false,aA.li)) (sp:=oX) (F:=JQ) (Hs:=AS3) (f:=173) (k:=8) ABY aR aU (aL rfl) ⟨_,_,Tryz.func173,rfl⟩ rfl fun _ _ _=>by kernel_rfl
theorem AMR:aN Tryz.prog 173 r8:=AOG fun p q r h hb=>by
 unfold oX AFU at h
 split at h
 ·rename_i e1 e2
  obtain ⟨hl,hn,hl2,hn2,rfl⟩:=MC h
  have k1:0<p.length:=by rw[show p=_ from e1];simp
  have k2:0<q.length:=by rw[show q=_ from e2];simp
  clear h
  unfold JQ f8 d6 d4 d3
  refine aG (s:=[(false,.bool)]) (G6 hl hn hl2 hn2) ?_
  refine kQ (fun he=>?_) fun he=>iI (by unfold sO;rw[show vH p q=true from he];rfl)
  have w:sO p q=(decide (gV p (pt q 0)<0)&&decide (gV q (pt p 0)<0)):=by unfold sO;rw[show vH p q=false from he];rfl
  rw[show (0:Int)=((0:Nat):Int) from rfl,e7 k2]
  refine aG (s:=[(false,.int .i64)]) (v7 p (pt q 0)) ?_
  refine bZ (fun h=>?_) fun h=>iI (by rw[w,decide_eq_false (show ¬ gV p (pt q 0)<0 from h)];rfl)
  rw[e7 k1]
  refine aG (s:=[(false,.int .i64)]) (v7 q (pt p 0)) ?_
  exact iI (by rw[w,decide_eq_true (show gV p (pt q 0)<0 from h)];rfl)
 ·cases h
theorem Y1 {p q:List Pt} (k1:0<p.length) (k2:0<q.length) (h:p.length≤1000) (h2:jR p) (h3:q.length≤1000) (h4:jR q):r8 [T.sl false (List.map aA.enc p),T.sl false (List.map aA.enc q)]=some (Sh.enc [(false,.bool)] (sO p q)):=by
 refine (Y0 ..).trans ?_
 unfold oX AFU
 cases p with
 | nil=>simp at k1
 | cons a p=>cases q with
  | nil=>simp at k2
  | cons b q=>exact MD _ h h2 h3 h4
end Go.Pv
