/-
  Facts on the program that every function's file asks for.
  slices.Clone, Insert, Delete at the design's lists.
  The seam, the part, the section with an identifier.
  The part with an identifier, as the program finds it; how thick a seam is.
  Words that several files share.
  The way from the block down to a part.
  Packages; equality of lists, shapes, parts and packages.
  StructureFinds: Part, Node, Seam and Package answer as the reference does.
  StructureSames: Same answers as the reference does.
  edit.same; copies of parts, packages, designs.
  Chapter 17: the indices of a design, walked.
  Chapter 17: rising, walked.
  strings.Split on typed data.
  Names and identifiers.
  Chapter 17: the tree's form, walked.
  Chapter 17: the tree's other methods where a design's elements are empty, and Check there.
  Chapter 17: the tree's seams and requirements.
  dag.Order, walked.
  Chapter 17: the tree's parts and packages, walked; Check, walked.
  Plane geometry, plain.
  poly: crosses and edges.
  poly: simple contours and their areas.
-/
import Derived.Test.YtipdohmdckdoeaaGreatDoorVcki
import Derived.Test.YtipdohmdckdoeaaGreatDoorVcty
import Derived.Test.YtipdohmdckdoeaaGreatDoorProg
import Derived.KernelRfl
import Derived.Test.YtipdohmdckdoeaaGreatDoorVcin
import Derived.Test.YtipdohmdckdoeaaGreatDoorVckj
import Derived.Test.YtipdohmdckdoeaaGreatDoorVckn
import Derived.Test.YtipdohmdckdoeaaGreatDoorVcgs
import Derived.Test.YtipdohmdckdoeaaGreatDoorVcsl
import Derived.Laws.RangeAny
import Derived.Test.YtipdohmdckdoeaaGreatDoorVckm
set_option linter.defProp false
set_option linter.unusedSimpArgs false
set_option linter.unusedVariables false
noncomputable section
namespace Go.Pv
open Go Go.Proofs IntKind
def aY:Tryz.prog.follows .mixedOrders=true:=by kernel_rfl
def a6:cM Tryz.prog=true:=by kernel_rfl
end Go.Pv
set_option maxRecDepth 100000
namespace Go.Pv
open Go Go.Proofs IntKind
variable {P:Program}
def qA {t:TypeId} {zv:Value} {z b:Nat} (h:(P.info? t).map (λi=>(i.zero,i.size,i.bytes))=some (some zv,z,b)):∃ i,P.info? t=some i/\i.zero=some zv/\i.size=z/\i.bytes=b:=by
 simp only[aa,Prod.mk.injEq] at h;obtain ⟨i,h1,h2,h3,h4⟩:=h;exact ⟨i,h1,h2,h3,h4⟩
def ACS:Value:=.agg #[.string ⟨#[]⟩,.int .i64 0,.string ⟨#[]⟩]
def ACR:Value:=.agg #[.int .i64 0,.string ⟨#[]⟩,.string ⟨#[]⟩]
def ACU:Value:=.agg #[.string ⟨#[]⟩,.string ⟨#[]⟩,.string ⟨#[]⟩,.int .i64 0,.int .i64 0,.int .i64 0]
def CQ:Value:=.agg #[.string ⟨#[]⟩,.string ⟨#[]⟩,.slice none 0 0,.int .i64 0,.slice none 0 0]
def ACT:Value:=.agg #[.string ⟨#[]⟩,.int .i64 0,.int .i64 0,.string ⟨#[]⟩,.string ⟨#[]⟩,.int .i64 0,.slice none 0 0,.slice none 0 0,.string ⟨#[]⟩,.int .i64 0,.int .i64 0,.int .i64 0,.int .i64 0,.int .i64 0,.int .i64 0,.int .i64 0,.int .i64 0,.int .i64 0]
def A8A:Go.Shelf.Ren:=⟨λ|22=>280|29=>322|30=>323|n=>n,λ|9=>59|24=>32|n=>n,λ|n=>n⟩
def A52:UR Tryz.prog A8A 3 40 ACS:={
 mixed:=aY
 f22:=Exists.intro ("slices.Insert[[]shipyard/api.Node,shipyard/api.Node]") ⟨by decide,Tryz.func280.trans (congrArg some (by kernel_rfl))⟩
 ov:=λargs w=>run_callFunc_extern (P:=Tryz.prog) (f:=322) (e:=Extern.SlicesOverlaps.overlaps #[32,32] #[4]) Tryz.func322 (by kernel_rfl) (by kernel_rfl) (by kernel_rfl) (by kernel_rfl) args w
 t0:=by kernel_rfl
 a0:=λ_=>by kernel_rfl
 z0:=λ_=>by kernel_rfl
 v0:=λ_=>by kernel_rfl
 t3:=by kernel_rfl
 a3:=λ_=>by kernel_rfl
 z3:=λ_=>by kernel_rfl
 v3:=λ_=>by kernel_rfl
 t4:=by kernel_rfl
 a4:=λ_=>by kernel_rfl
 z4:=λ_=>by kernel_rfl
 v4:=λ_=>by kernel_rfl
 z9:=λ_=>by kernel_rfl
 t24:=by kernel_rfl
 a24:=λ_=>by kernel_rfl
 z24:=λ_=>by kernel_rfl
 v24:=λ_=>by kernel_rfl
 i9:=qA (by kernel_rfl) }
def lD:List (List T)->List T->Option (List (List T)):=AAH 3 40
def E5:cI Tryz.prog 280 (kL 3 lD) :=
 pE A52 (by decide) rfl (by decide) ⟨_,Tryz.func280,rfl,rfl⟩
def A76:Go.Shelf.Ren:=⟨λ|45=>281|n=>n,λ|23=>59|22=>32|n=>n,λ|n=>n⟩
def A3G:AIE Tryz.prog A76 3 ACS:={
 mixed:=aY
 f45:=Exists.intro ("slices.Delete[[]shipyard/api.Node,shipyard/api.Node]") ⟨by decide,Tryz.func281.trans (congrArg some (by kernel_rfl))⟩
 t0:=by kernel_rfl
 a0:=λ_=>by kernel_rfl
 z0:=λ_=>by kernel_rfl
 v0:=λ_=>by kernel_rfl
 t3:=by kernel_rfl
 a3:=λ_=>by kernel_rfl
 z3:=λ_=>by kernel_rfl
 v3:=λ_=>by kernel_rfl
 t4:=by kernel_rfl
 a4:=λ_=>by kernel_rfl
 z4:=λ_=>by kernel_rfl
 v4:=λ_=>by kernel_rfl
 t22:=by kernel_rfl
 a22:=λ_=>by kernel_rfl
 z22:=λ_=>by kernel_rfl
 v22:=λ_=>by kernel_rfl
 z23:=λ_=>by kernel_rfl
 v23:=λ_=>by kernel_rfl
 i23:=by
  obtain ⟨i,h1,_,h2,_⟩:=qA (P:=Tryz.prog) (t:=59) (zv:=ACS) (z:=3) (b:=40) (by kernel_rfl);exact ⟨i,h1,h2⟩ }
def KJ:List (List T)->List T->Option (List (List T)):=AAG 3
def ALG:cI Tryz.prog 281 (kL 3 KJ) :=
 pD A3G rfl (by decide) ⟨_,Tryz.func281,rfl,rfl⟩
def AHP:Go.Shelf.Ren:=⟨λ|41=>103|n=>n,λ|23=>59|22=>32|n=>n,λ|n=>n⟩
def A20:SlLaysE0.n41 Tryz.prog AHP:={
 mixed:=aY
 f41:=Exists.intro ("slices.Clone[[]shipyard/api.Node,shipyard/api.Node]") ⟨by decide,Tryz.func103.trans (congrArg some (by kernel_rfl))⟩
 t4:=by kernel_rfl
 a4:=λ_=>by kernel_rfl
 z4:=λ_=>by kernel_rfl
 v4:=λ_=>by kernel_rfl
 t22:=by kernel_rfl
 a22:=λ_=>by kernel_rfl
 z22:=λ_=>by kernel_rfl
 v22:=λ_=>by kernel_rfl }
def AVH:∃ i0,(Tryz.prog).info? (AHP.t 23)=some i0/\i0.zero=some ACS/\i0.size=3/\i0.bytes=40:=qA (by kernel_rfl)
def E2:cI Tryz.prog 103 (FA 3 40) :=
 qW A20 AVH (λ_=>by kernel_rfl) (by decide) rfl (by decide) ⟨_,Tryz.func103,rfl,rfl⟩
def A79:Go.Shelf.Ren:=⟨λ|22=>298|29=>330|30=>331|n=>n,λ|9=>66|24=>36|n=>n,λ|n=>n⟩
def A51:UR Tryz.prog A79 3 40 ACR:={
 mixed:=aY
 f22:=Exists.intro ("slices.Insert[[]shipyard/api.Need,shipyard/api.Need]") ⟨by decide,Tryz.func298.trans (congrArg some (by kernel_rfl))⟩
 ov:=λargs w=>run_callFunc_extern (P:=Tryz.prog) (f:=330) (e:=Extern.SlicesOverlaps.overlaps #[36,36] #[4]) Tryz.func330 (by kernel_rfl) (by kernel_rfl) (by kernel_rfl) (by kernel_rfl) args w
 t0:=by kernel_rfl
 a0:=λ_=>by kernel_rfl
 z0:=λ_=>by kernel_rfl
 v0:=λ_=>by kernel_rfl
 t3:=by kernel_rfl
 a3:=λ_=>by kernel_rfl
 z3:=λ_=>by kernel_rfl
 v3:=λ_=>by kernel_rfl
 t4:=by kernel_rfl
 a4:=λ_=>by kernel_rfl
 z4:=λ_=>by kernel_rfl
 v4:=λ_=>by kernel_rfl
 z9:=λ_=>by kernel_rfl
 t24:=by kernel_rfl
 a24:=λ_=>by kernel_rfl
 z24:=λ_=>by kernel_rfl
 v24:=λ_=>by kernel_rfl
 i9:=qA (by kernel_rfl) }
def lC:List (List T)->List T->Option (List (List T)):=AAH 3 40
def RN:cI Tryz.prog 298 (kL 3 lC) :=
 pE A51 (by decide) rfl (by decide) ⟨_,Tryz.func298,rfl,rfl⟩
def A75:Go.Shelf.Ren:=⟨λ|45=>299|n=>n,λ|23=>66|22=>36|n=>n,λ|n=>n⟩
def A3F:AIE Tryz.prog A75 3 ACR:={
 mixed:=aY
 f45:=Exists.intro ("slices.Delete[[]shipyard/api.Need,shipyard/api.Need]") ⟨by decide,Tryz.func299.trans (congrArg some (by kernel_rfl))⟩
 t0:=by kernel_rfl
 a0:=λ_=>by kernel_rfl
 z0:=λ_=>by kernel_rfl
 v0:=λ_=>by kernel_rfl
 t3:=by kernel_rfl
 a3:=λ_=>by kernel_rfl
 z3:=λ_=>by kernel_rfl
 v3:=λ_=>by kernel_rfl
 t4:=by kernel_rfl
 a4:=λ_=>by kernel_rfl
 z4:=λ_=>by kernel_rfl
 v4:=λ_=>by kernel_rfl
 t22:=by kernel_rfl
 a22:=λ_=>by kernel_rfl
 z22:=λ_=>by kernel_rfl
 v22:=λ_=>by kernel_rfl
 z23:=λ_=>by kernel_rfl
 v23:=λ_=>by kernel_rfl
 i23:=by
  obtain ⟨i,h1,_,h2,_⟩:=qA (P:=Tryz.prog) (t:=66) (zv:=ACR) (z:=3) (b:=40) (by kernel_rfl);exact ⟨i,h1,h2⟩ }
def BS:List (List T)->List T->Option (List (List T)):=AAG 3
def RL:cI Tryz.prog 299 (kL 3 BS) :=
 pD A3F rfl (by decide) ⟨_,Tryz.func299,rfl,rfl⟩
def AHO:Go.Shelf.Ren:=⟨λ|41=>105|n=>n,λ|23=>66|22=>36|n=>n,λ|n=>n⟩
def A2Z:SlLaysE0.n41 Tryz.prog AHO:={
 mixed:=aY
 f41:=Exists.intro ("slices.Clone[[]shipyard/api.Need,shipyard/api.Need]") ⟨by decide,Tryz.func105.trans (congrArg some (by kernel_rfl))⟩
 t4:=by kernel_rfl
 a4:=λ_=>by kernel_rfl
 z4:=λ_=>by kernel_rfl
 v4:=λ_=>by kernel_rfl
 t22:=by kernel_rfl
 a22:=λ_=>by kernel_rfl
 z22:=λ_=>by kernel_rfl
 v22:=λ_=>by kernel_rfl }
def AVG:∃ i0,(Tryz.prog).info? (AHO.t 23)=some i0/\i0.zero=some ACR/\i0.size=3/\i0.bytes=40:=qA (by kernel_rfl)
def E1:cI Tryz.prog 105 (FA 3 40) :=
 qW A2Z AVG (λ_=>by kernel_rfl) (by decide) rfl (by decide) ⟨_,Tryz.func105,rfl,rfl⟩
def A8C:Go.Shelf.Ren:=⟨λ|22=>288|29=>326|30=>327|n=>n,λ|9=>61|24=>34|n=>n,λ|n=>n⟩
def A54:UR Tryz.prog A8C 6 72 ACU:={
 mixed:=aY
 f22:=Exists.intro ("slices.Insert[[]shipyard/api.Seam,shipyard/api.Seam]") ⟨by decide,Tryz.func288.trans (congrArg some (by kernel_rfl))⟩
 ov:=λargs w=>run_callFunc_extern (P:=Tryz.prog) (f:=326) (e:=Extern.SlicesOverlaps.overlaps #[34,34] #[4]) Tryz.func326 (by kernel_rfl) (by kernel_rfl) (by kernel_rfl) (by kernel_rfl) args w
 t0:=by kernel_rfl
 a0:=λ_=>by kernel_rfl
 z0:=λ_=>by kernel_rfl
 v0:=λ_=>by kernel_rfl
 t3:=by kernel_rfl
 a3:=λ_=>by kernel_rfl
 z3:=λ_=>by kernel_rfl
 v3:=λ_=>by kernel_rfl
 t4:=by kernel_rfl
 a4:=λ_=>by kernel_rfl
 z4:=λ_=>by kernel_rfl
 v4:=λ_=>by kernel_rfl
 z9:=λ_=>by kernel_rfl
 t24:=by kernel_rfl
 a24:=λ_=>by kernel_rfl
 z24:=λ_=>by kernel_rfl
 v24:=λ_=>by kernel_rfl
 i9:=qA (by kernel_rfl) }
def uV:List (List T)->List T->Option (List (List T)):=AAH 6 72
def ALL:cI Tryz.prog 288 (kL 6 uV) :=
 pE A54 (by decide) rfl (by decide) ⟨_,Tryz.func288,rfl,rfl⟩
def A78:Go.Shelf.Ren:=⟨λ|45=>289|n=>n,λ|23=>61|22=>34|n=>n,λ|n=>n⟩
def A3I:AIE Tryz.prog A78 6 ACU:={
 mixed:=aY
 f45:=Exists.intro ("slices.Delete[[]shipyard/api.Seam,shipyard/api.Seam]") ⟨by decide,Tryz.func289.trans (congrArg some (by kernel_rfl))⟩
 t0:=by kernel_rfl
 a0:=λ_=>by kernel_rfl
 z0:=λ_=>by kernel_rfl
 v0:=λ_=>by kernel_rfl
 t3:=by kernel_rfl
 a3:=λ_=>by kernel_rfl
 z3:=λ_=>by kernel_rfl
 v3:=λ_=>by kernel_rfl
 t4:=by kernel_rfl
 a4:=λ_=>by kernel_rfl
 z4:=λ_=>by kernel_rfl
 v4:=λ_=>by kernel_rfl
 t22:=by kernel_rfl
 a22:=λ_=>by kernel_rfl
 z22:=λ_=>by kernel_rfl
 v22:=λ_=>by kernel_rfl
 z23:=λ_=>by kernel_rfl
 v23:=λ_=>by kernel_rfl
 i23:=by
  obtain ⟨i,h1,_,h2,_⟩:=qA (P:=Tryz.prog) (t:=61) (zv:=ACU) (z:=6) (b:=72) (by kernel_rfl);exact ⟨i,h1,h2⟩ }
def KL:List (List T)->List T->Option (List (List T)):=AAG 6
def ALI:cI Tryz.prog 289 (kL 6 KL) :=
 pD A3I rfl (by decide) ⟨_,Tryz.func289,rfl,rfl⟩
def AHR:Go.Shelf.Ren:=⟨λ|41=>104|n=>n,λ|23=>61|22=>34|n=>n,λ|n=>n⟩
def A22:SlLaysE0.n41 Tryz.prog AHR:={
 mixed:=aY
 f41:=Exists.intro ("slices.Clone[[]shipyard/api.Seam,shipyard/api.Seam]") ⟨by decide,Tryz.func104.trans (congrArg some (by kernel_rfl))⟩
 t4:=by kernel_rfl
 a4:=λ_=>by kernel_rfl
 z4:=λ_=>by kernel_rfl
 v4:=λ_=>by kernel_rfl
 t22:=by kernel_rfl
 a22:=λ_=>by kernel_rfl
 z22:=λ_=>by kernel_rfl
 v22:=λ_=>by kernel_rfl }
def AVJ:∃ i0,(Tryz.prog).info? (AHR.t 23)=some i0/\i0.zero=some ACU/\i0.size=6/\i0.bytes=72:=qA (by kernel_rfl)
def E4:cI Tryz.prog 104 (FA 6 72) :=
 qW A22 AVJ (λ_=>by kernel_rfl) (by decide) rfl (by decide) ⟨_,Tryz.func104,rfl,rfl⟩
def AHT:Go.Shelf.Ren:=⟨λ|22=>292|29=>328|30=>329|n=>n,λ|9=>64|24=>35|n=>n,λ|n=>n⟩
def AGA:UR Tryz.prog AHT 5 88 CQ:={
 mixed:=aY
 f22:=Exists.intro ("slices.Insert[[]shipyard/api.Package,shipyard/api.Package]") ⟨by decide,Tryz.func292.trans (congrArg some (by kernel_rfl))⟩
 ov:=λargs w=>run_callFunc_extern (P:=Tryz.prog) (f:=328) (e:=Extern.SlicesOverlaps.overlaps #[35,35] #[4]) Tryz.func328 (by kernel_rfl) (by kernel_rfl) (by kernel_rfl) (by kernel_rfl) args w
 t0:=by kernel_rfl
 a0:=λ_=>by kernel_rfl
 z0:=λ_=>by kernel_rfl
 v0:=λ_=>by kernel_rfl
 t3:=by kernel_rfl
 a3:=λ_=>by kernel_rfl
 z3:=λ_=>by kernel_rfl
 v3:=λ_=>by kernel_rfl
 t4:=by kernel_rfl
 a4:=λ_=>by kernel_rfl
 z4:=λ_=>by kernel_rfl
 v4:=λ_=>by kernel_rfl
 z9:=λ_=>by kernel_rfl
 t24:=by kernel_rfl
 a24:=λ_=>by kernel_rfl
 z24:=λ_=>by kernel_rfl
 v24:=λ_=>by kernel_rfl
 i9:=qA (by kernel_rfl) }
def nP:List (List T)->List T->Option (List (List T)):=AAH 5 88
def U0:cI Tryz.prog 292 (kL 5 nP) :=
 pE AGA (by decide) rfl (by decide) ⟨_,Tryz.func292,rfl,rfl⟩
def AHS:Go.Shelf.Ren:=⟨λ|45=>290|n=>n,λ|23=>64|22=>35|n=>n,λ|n=>n⟩
def AEI:AIE Tryz.prog AHS 5 CQ:={
 mixed:=aY
 f45:=Exists.intro ("slices.Delete[[]shipyard/api.Package,shipyard/api.Package]") ⟨by decide,Tryz.func290.trans (congrArg some (by kernel_rfl))⟩
 t0:=by kernel_rfl
 a0:=λ_=>by kernel_rfl
 z0:=λ_=>by kernel_rfl
 v0:=λ_=>by kernel_rfl
 t3:=by kernel_rfl
 a3:=λ_=>by kernel_rfl
 z3:=λ_=>by kernel_rfl
 v3:=λ_=>by kernel_rfl
 t4:=by kernel_rfl
 a4:=λ_=>by kernel_rfl
 z4:=λ_=>by kernel_rfl
 v4:=λ_=>by kernel_rfl
 t22:=by kernel_rfl
 a22:=λ_=>by kernel_rfl
 z22:=λ_=>by kernel_rfl
 v22:=λ_=>by kernel_rfl
 z23:=λ_=>by kernel_rfl
 v23:=λ_=>by kernel_rfl
 i23:=by
  obtain ⟨i,h1,_,h2,_⟩:=qA (P:=Tryz.prog) (t:=64) (zv:=CQ) (z:=5) (b:=88) (by kernel_rfl);exact ⟨i,h1,h2⟩ }
def nO:List (List T)->List T->Option (List (List T)):=AAG 5
def D1:cI Tryz.prog 290 (kL 5 nO) :=
 pD AEI rfl (by decide) ⟨_,Tryz.func290,rfl,rfl⟩
def NL:Go.Shelf.Ren:=⟨λ|41=>107|n=>n,λ|23=>64|22=>35|n=>n,λ|n=>n⟩
def AEB:SlLaysE0.n41 Tryz.prog NL:={
 mixed:=aY
 f41:=Exists.intro ("slices.Clone[[]shipyard/api.Package,shipyard/api.Package]") ⟨by decide,Tryz.func107.trans (congrArg some (by kernel_rfl))⟩
 t4:=by kernel_rfl
 a4:=λ_=>by kernel_rfl
 z4:=λ_=>by kernel_rfl
 v4:=λ_=>by kernel_rfl
 t22:=by kernel_rfl
 a22:=λ_=>by kernel_rfl
 z22:=λ_=>by kernel_rfl
 v22:=λ_=>by kernel_rfl }
def AAT:∃ i0,(Tryz.prog).info? (NL.t 23)=some i0/\i0.zero=some CQ/\i0.size=5/\i0.bytes=88:=qA (by kernel_rfl)
def oX:cI Tryz.prog 107 (FA 5 88) :=
 qW AEB AAT (λ_=>by kernel_rfl) (by decide) rfl (by decide) ⟨_,Tryz.func107,rfl,rfl⟩
def A8B:Go.Shelf.Ren:=⟨λ|22=>285|29=>324|30=>325|n=>n,λ|9=>57|24=>33|n=>n,λ|n=>n⟩
def A53:UR Tryz.prog A8B 18 208 ACT:={
 mixed:=aY
 f22:=Exists.intro ("slices.Insert[[]shipyard/api.Part,shipyard/api.Part]") ⟨by decide,Tryz.func285.trans (congrArg some (by kernel_rfl))⟩
 ov:=λargs w=>run_callFunc_extern (P:=Tryz.prog) (f:=324) (e:=Extern.SlicesOverlaps.overlaps #[33,33] #[4]) Tryz.func324 (by kernel_rfl) (by kernel_rfl) (by kernel_rfl) (by kernel_rfl) args w
 t0:=by kernel_rfl
 a0:=λ_=>by kernel_rfl
 z0:=λ_=>by kernel_rfl
 v0:=λ_=>by kernel_rfl
 t3:=by kernel_rfl
 a3:=λ_=>by kernel_rfl
 z3:=λ_=>by kernel_rfl
 v3:=λ_=>by kernel_rfl
 t4:=by kernel_rfl
 a4:=λ_=>by kernel_rfl
 z4:=λ_=>by kernel_rfl
 v4:=λ_=>by kernel_rfl
 z9:=λ_=>by kernel_rfl
 t24:=by kernel_rfl
 a24:=λ_=>by kernel_rfl
 z24:=λ_=>by kernel_rfl
 v24:=λ_=>by kernel_rfl
 i9:=qA (by kernel_rfl) }
def uU:List (List T)->List T->Option (List (List T)):=AAH 18 208
def ALK:cI Tryz.prog 285 (kL 18 uU) :=
 pE A53 (by decide) rfl (by decide) ⟨_,Tryz.func285,rfl,rfl⟩
def A77:Go.Shelf.Ren:=⟨λ|45=>286|n=>n,λ|23=>57|22=>33|n=>n,λ|n=>n⟩
def A3H:AIE Tryz.prog A77 18 ACT:={
 mixed:=aY
 f45:=Exists.intro ("slices.Delete[[]shipyard/api.Part,shipyard/api.Part]") ⟨by decide,Tryz.func286.trans (congrArg some (by kernel_rfl))⟩
 t0:=by kernel_rfl
 a0:=λ_=>by kernel_rfl
 z0:=λ_=>by kernel_rfl
 v0:=λ_=>by kernel_rfl
 t3:=by kernel_rfl
 a3:=λ_=>by kernel_rfl
 z3:=λ_=>by kernel_rfl
 v3:=λ_=>by kernel_rfl
 t4:=by kernel_rfl
 a4:=λ_=>by kernel_rfl
 z4:=λ_=>by kernel_rfl
 v4:=λ_=>by kernel_rfl
 t22:=by kernel_rfl
 a22:=λ_=>by kernel_rfl
 z22:=λ_=>by kernel_rfl
 v22:=λ_=>by kernel_rfl
 z23:=λ_=>by kernel_rfl
 v23:=λ_=>by kernel_rfl
 i23:=by
  obtain ⟨i,h1,_,h2,_⟩:=qA (P:=Tryz.prog) (t:=57) (zv:=ACT) (z:=18) (b:=208) (by kernel_rfl);exact ⟨i,h1,h2⟩ }
def KK:List (List T)->List T->Option (List (List T)):=AAG 18
def ALH:cI Tryz.prog 286 (kL 18 KK) :=
 pD A3H rfl (by decide) ⟨_,Tryz.func286,rfl,rfl⟩
def AHQ:Go.Shelf.Ren:=⟨λ|41=>106|n=>n,λ|23=>57|22=>33|n=>n,λ|n=>n⟩
def A21:SlLaysE0.n41 Tryz.prog AHQ:={
 mixed:=aY
 f41:=Exists.intro ("slices.Clone[[]shipyard/api.Part,shipyard/api.Part]") ⟨by decide,Tryz.func106.trans (congrArg some (by kernel_rfl))⟩
 t4:=by kernel_rfl
 a4:=λ_=>by kernel_rfl
 z4:=λ_=>by kernel_rfl
 v4:=λ_=>by kernel_rfl
 t22:=by kernel_rfl
 a22:=λ_=>by kernel_rfl
 z22:=λ_=>by kernel_rfl
 v22:=λ_=>by kernel_rfl }
def AVI:∃ i0,(Tryz.prog).info? (AHQ.t 23)=some i0/\i0.zero=some ACT/\i0.size=18/\i0.bytes=208:=qA (by kernel_rfl)
def E3:cI Tryz.prog 106 (FA 18 208) :=
 qW A21 AVI (λ_=>by kernel_rfl) (by decide) rfl (by decide) ⟨_,Tryz.func106,rfl,rfl⟩
def BPC:Value:=.slice none 0 0
def AQZ:Go.Shelf.Ren:=⟨λ|41=>137|n=>n,λ|23=>48|22=>49|n=>n,λ|n=>n⟩
def BCH:SlLaysE0.n41 Tryz.prog AQZ:={
 mixed:=aY
 f41:=Exists.intro ("slices.Clone[[][]shipyard/api.Point,[]shipyard/api.Point]") ⟨by decide,Tryz.func137.trans (congrArg some (by kernel_rfl))⟩
 t4:=by kernel_rfl
 a4:=λ_=>by kernel_rfl
 z4:=λ_=>by kernel_rfl
 v4:=λ_=>by kernel_rfl
 t22:=by kernel_rfl
 a22:=λ_=>by kernel_rfl
 z22:=λ_=>by kernel_rfl
 v22:=λ_=>by kernel_rfl }
def A5Z:∃ i0,(Tryz.prog).info? (AQZ.t 23)=some i0/\i0.zero=some BPC/\i0.size=1/\i0.bytes=24:=qA (by kernel_rfl)
def AUA:cI Tryz.prog 137 (FA 1 24) :=
 qW BCH A5Z (λ_=>by kernel_rfl) (by decide) rfl (by decide) ⟨_,Tryz.func137,rfl,rfl⟩
end Go.Pv
namespace Go.Pv
open Go Go.Proofs IntKind
def pW (d:aB) (id:iII):Option bU:=d.2.2.2.1.find? λs=>decide (s.1=id)
def partOf (d:aB) (id:iII):Option a8:=d.2.2.1.find? λs=>decide (s.1=id)
def eV (d:aB) (id:iII):Option bR:=d.2.1.find? λs=>decide (s.1=id)
def T4 (m:aI) (n:iII):Option cU:=m.2.find? λs=>decide (s.1=n)
def iT:bU:=(⟨#[]⟩,⟨#[]⟩,⟨#[]⟩,0,0,0)
def iS:bR:=(⟨#[]⟩,0,⟨#[]⟩)
def eJ:a8:=(⟨#[]⟩,0,0,⟨#[]⟩,⟨#[]⟩,0,([],[]),⟨#[]⟩,0,0,(0,0,0),(0,0,0),0)
def EA:cU:=(⟨#[]⟩,0,0,0)
variable {α:Type}
def found (no:α) (o:Option α):α×Bool:=match o with
 | some s=>(s,true)
 | none=>(no,false)
def tL (x:aB×iII):Option T:=some (Sh.enc [(true,bD),(false,.bool)] (found iT (pW x.1 x.2)))
def CF (x:aB×iII):Option T:=some (Sh.enc [(true,aN),(false,.bool)] (found eJ (partOf x.1 x.2)))
def tJ (x:aB×iII):Option T:=some (Sh.enc [(true,bC),(false,.bool)] (found iS (eV x.1 x.2)))
def oT (x:aI×iII):Option T:=some (Sh.enc [(true,b7),(false,.bool)] (found EA (T4 x.1 x.2)))
abbrev rB:=CF
def BG4:Env:=Env.of []
def BHK:FuncId->Hint:=b8 197 [(2,.inv [.val 11 false (.int .i64),.fix 1])] (λ_=>bA)
def AZS:aU Tryz.prog BG4:=.nil _
def d5:T:=pPQ ({data:=#[]})
def v6(a0:aB):List (List T):=List.map bD.enc a0.2.2.2.1
def AJ8(a0:aB)(a1:iII)(R:T->Prop):Prop:=gM (bJ.rows false [[D.p d5,D.p d5, D.p d5,D.p (pPP 0), D.p (pPP 0),D.p (pPP 0)]]) (bJ.rows false [[D.p d5,D.p d5, D.p d5,D.p (pPP 0), D.p (pPP 0),D.p (pPP 0)]]) (bB (Int×PUnit×PUnit) (λX0 s1=>aC (decide (s1.1<(↑(v6 a0).length:Int))) (aR bD (v6 a0) s1.1 λ(y2:bU)=>aC (decide (y2.1=a1)) (R (T.cE [aG true bD y2,pPR true])) (gM (bJ.rows false [[D.p d5, D.p d5, D.p d5, D.p (pPP 0), D.p (pPP 0), D.p (pPP 0)]]) (bJ.rows false [[D.p d5, D.p d5, D.p d5, D.p (pPP 0), D.p (pPP 0), D.p (pPP 0)]]) (X0 (i64.wrap (s1.1+1),(),())))) (R (T.cE [T.agg [pPQ ({data:=#[]}),pPQ ({data:=#[]}), pPQ ({data:=#[]}),pPP 0, pPP 0,pPP 0], pPR false]))) (0,(),()))
abbrev AN0:Sh:=[(true,aD),(false,Sy.str)]
def FE:List T->Option T:=gS AN0 tL
def W7 {a0 a1}:FE [aG true aD a0,pPQ a1]=tL (a0,a1):=bH (s:=AN0) rfl (a0,a1) rfl
def BE0:qU Tryz.prog 197 FE tL (cG AN0) AJ8:=gV (a1:=(true,aD)) (a2:=(false,Sy.str)) (sp:=tL) (F:=AJ8) (Hs:=BHK) (f:=197) (k:=8) AZS aY a6 (aO rfl) ⟨_,_,Tryz.func197,rfl⟩ rfl λ_ _ _=>by kernel_rfl
def APR:aP Tryz.prog 197 FE:=BE0 λd id r h hb=>by
 have hl:d.2.2.2.1.length<=2 ^ 47:=hb.1.2.2.2.1.1;unfold AJ8 v6 d5;rw[dA];refine bM d.2.2.2.1.length (λk s=>s=((k:Int),(),())/\(d.2.2.2.1.drop k).find? (λs=>decide (s.1=id))=pW d id) ⟨rfl,rfl⟩ ?_;rintro X k s hk ⟨rfl,hf⟩ hX;simp only[ae,FR,dA];by_cases hlt:k<d.2.2.2.1.length
 ·rw[oK hlt] at hf;simp only[hlt,decide_true,aC,bE (r:=bD) hlt];cases hc:decide (d.2.2.2.1[k].1=id) with
  | true =>
   simp only[hc,if_true] at hf;simp only[tL,tL,<-hf] at h;cases h;rfl
  | false =>
   simp only[hc] at hf;refine hX _ hlt ⟨?_,hf⟩;simp only[Prod.mk.injEq,and_true];exact bG _ (by omega) (by omega)
 ·have:k=d.2.2.2.1.length:=by omega
  subst this;simp only[List.drop_length,List.find?_nil] at hf;simp only[tL,tL,<-hf] at h;simp only[hlt,decide_false,aC];cases h;rfl
def AYN:Env:=Env.of []
def A1T:FuncId->Hint:=b8 20 [(2,.inv [.val 6 false (.int .i64),.fix 1])] (λ_=>bA)
def AI4:aU Tryz.prog AYN:=.nil _
def d8:T:=T.v (Value.slice none 0 0)
def FS(a0:aB):List (List T):=List.map aN.enc a0.2.2.1
def i7(X0:Int×PUnit×PUnit->Prop)(s1:Int×PUnit×PUnit):Prop:=gM (bJ.rows false [[D.p d5, D.p (pPP 0), D.p (pPP 0), D.p d5, D.p d5, D.p (pPP 0), D.p d8,D.p d8, D.p d5, D.p (pPP 0), D.p (pPP 0), D.p (pPP 0), D.p (pPP 0), D.p (pPP 0), D.p (pPP 0), D.p (pPP 0), D.p (pPP 0), D.p (pPP 0)]]) (bJ.rows false [[D.p d5, D.p (pPP 0), D.p (pPP 0), D.p d5, D.p d5, D.p (pPP 0), D.p d8,D.p d8, D.p d5, D.p (pPP 0), D.p (pPP 0), D.p (pPP 0), D.p (pPP 0), D.p (pPP 0), D.p (pPP 0), D.p (pPP 0), D.p (pPP 0), D.p (pPP 0)]]) (X0 (i64.wrap (s1.1+1),(),()))
def t6:List T:=[T.agg [pPQ ({data:=#[]}),pPP 0, pPP 0,pPQ ({data:=#[]}), pPQ ({data:=#[]}),pPP 0, T.sl false [],T.sl false [],pPQ ({data:=#[]}), pPP 0,pPP 0, pPP 0,pPP 0, pPP 0,pPP 0, pPP 0,pPP 0, pPP 0], pPR false]
def PN(a0:aB)(a1:iII)(R:T->Prop):Prop:=gM (bJ.rows false [[D.p d5,D.p (pPP 0), D.p (pPP 0),D.p d5, D.p d5,D.p (pPP 0), D.p d8,D.p d8, D.p d5,D.p (pPP 0), D.p (pPP 0),D.p (pPP 0), D.p (pPP 0),D.p (pPP 0), D.p (pPP 0),D.p (pPP 0), D.p (pPP 0),D.p (pPP 0)]]) (bJ.rows false [[D.p d5,D.p (pPP 0), D.p (pPP 0),D.p d5, D.p d5,D.p (pPP 0), D.p d8,D.p d8, D.p d5,D.p (pPP 0), D.p (pPP 0),D.p (pPP 0), D.p (pPP 0),D.p (pPP 0), D.p (pPP 0),D.p (pPP 0), D.p (pPP 0),D.p (pPP 0)]]) (bB (Int×PUnit×PUnit) (λX0 s1=>aC (decide (s1.1<(↑(FS a0).length:Int))) (aR aN (FS a0) s1.1 λ(y2:a8)=>aC (decide (y2.1=a1)) (aR aN (FS a0) s1.1 λ(y3:a8)=>R (T.cE [aG true aN y3,pPR true])) (i7 X0 s1)) (R (T.cE t6))) (0,(),()))
abbrev TJ:Sh:=[(true,aD),(false,Sy.str)]
def uW:List T->Option T:=gS TJ rB
def M5 {a0 a1}:uW [aG true aD a0,pPQ a1]=rB (a0,a1):=bH (s:=TJ) rfl (a0,a1) rfl
def AWI:qU Tryz.prog 20 uW rB (cG TJ) PN:=gV (a1:=(true,aD)) (a2:=(false,Sy.str)) (sp:=rB) (F:=PN) (Hs:=A1T) (f:=20) (k:=8) AI4 aY a6 (aO rfl) ⟨_,_,Tryz.func20,rfl⟩ rfl λ_ _ _=>by kernel_rfl
def AUG:aP Tryz.prog 20 uW:=AWI λd id r h hb=>by
 have hl:d.2.2.1.length<=2 ^ 47:=hb.1.2.2.1.1;unfold PN t6 i7 FS d8 d5;rw[dA];refine bM d.2.2.1.length (λk s=>s=((k:Int),(),())/\(d.2.2.1.drop k).find? (λs=>decide (s.1=id))=partOf d id) ⟨rfl,rfl⟩ ?_;rintro X k s hk ⟨rfl,hf⟩ hX;simp only[ae,FR,dA];by_cases hlt:k<d.2.2.1.length
 ·rw[oK hlt] at hf;simp only[hlt,decide_true,aC,bE (r:=aN) hlt];cases hc:decide (d.2.2.1[k].1=id) with
  | true =>
   simp only[hc,if_true] at hf;simp only[rB,CF,<-hf] at h;cases h;rfl
  | false =>
   simp only[hc] at hf;refine hX _ hlt ⟨?_,hf⟩;simp only[Prod.mk.injEq,and_true];exact bG _ (by omega) (by omega)
 ·have:k=d.2.2.1.length:=by omega
  subst this;simp only[List.drop_length,List.find?_nil] at hf;simp only[rB,CF,<-hf] at h;simp only[hlt,decide_false,aC];cases h;rfl
def BGZ:Env:=Env.of []
def BHF:FuncId->Hint:=b8 149 [(2,.inv [.val 11 false (.int .i64),.fix 1])] (λ_=>bA)
def AZN:aU Tryz.prog BGZ:=.nil _
def AC(a0:aB):List (List T):=List.map bC.enc a0.2.1
def AJ2(a0:aB)(a1:iII)(R:T->Prop):Prop:=gM (bJ.rows false [[D.p d5,D.p (pPP 0), D.p d5]]) (bJ.rows false [[D.p d5,D.p (pPP 0), D.p d5]]) (bB (Int×PUnit×PUnit) (λX0 s1=>aC (decide (s1.1<(↑(AC a0).length:Int))) (aR bC (AC a0) s1.1 λ(y2:bR)=>aC (decide (y2.1=a1)) (R (T.cE [aG true bC y2,pPR true])) (gM (bJ.rows false [[D.p d5, D.p (pPP 0), D.p d5]]) (bJ.rows false [[D.p d5, D.p (pPP 0), D.p d5]]) (X0 (i64.wrap (s1.1+1),(),())))) (R (T.cE [T.agg [pPQ ({data:=#[]}),pPP 0, pPQ ({data:=#[]})], pPR false]))) (0,(),()))
abbrev ANV:Sh:=[(true,aD),(false,Sy.str)]
def FB:List T->Option T:=gS ANV tJ
def WN {a0 a1}:FB [aG true aD a0,pPQ a1]=tJ (a0,a1):=bH (s:=ANV) rfl (a0,a1) rfl
def BEV:qU Tryz.prog 149 FB tJ (cG ANV) AJ2:=gV (a1:=(true,aD)) (a2:=(false,Sy.str)) (sp:=tJ) (F:=AJ2) (Hs:=BHF) (f:=149) (k:=8) AZN aY a6 (aO rfl) ⟨_,_,Tryz.func149,rfl⟩ rfl λ_ _ _=>by kernel_rfl
def APN:aP Tryz.prog 149 FB:=BEV λd id r h hb=>by
 have hl:d.2.1.length<=2 ^ 47:=hb.1.2.1.1;unfold AJ2 AC d5;rw[dA];refine bM d.2.1.length (λk s=>s=((k:Int),(),())/\(d.2.1.drop k).find? (λs=>decide (s.1=id))=eV d id) ⟨rfl,rfl⟩ ?_;rintro X k s hk ⟨rfl,hf⟩ hX;simp only[ae,FR,dA];by_cases hlt:k<d.2.1.length
 ·rw[oK hlt] at hf;simp only[hlt,decide_true,aC,bE (r:=bC) hlt];cases hc:decide (d.2.1[k].1=id) with
  | true =>
   simp only[hc,if_true] at hf;simp only[tJ,tJ,<-hf] at h;cases h;rfl
  | false =>
   simp only[hc] at hf;refine hX _ hlt ⟨?_,hf⟩;simp only[Prod.mk.injEq,and_true];exact bG _ (by omega) (by omega)
 ·have:k=d.2.1.length:=by omega
  subst this;simp only[List.drop_length,List.find?_nil] at hf;simp only[tJ,tJ,<-hf] at h;simp only[hlt,decide_false,aC];cases h;rfl
def AR5:Env:=Env.of []
def AS4:FuncId->Hint:=b8 319 [(2,.inv [.val 8 false (.int .i64)])] (λ_=>bA)
def AC9:aU Tryz.prog AR5:=.nil _
def g9(X0:Int×PUnit->Prop)(s1:Int×PUnit):Prop:=X0 (i64.wrap (s1.1+1),())
def BP7:List T:=[T.agg [pPQ ({data:=#[]}),pPP 0, pPP 0,pPP 0], pPR false]
def JT(a0:aI)(a1:iII)(R:T->Prop):Prop:=bB (Int×PUnit) (λX0 s1=>aC (decide (s1.1<(↑(List.map b7.enc a0.2).length:Int))) (aR b7 (List.map b7.enc a0.2) s1.1 λ(y2:cU)=>aC (decide (y2.1=a1)) (aC (decide (s1.1<0)) (R (T.cE BP7)) (aR b7 (List.map b7.enc a0.2) s1.1 λ(y3:cU)=>R (T.cE [aG true b7 y3,pPR true]))) (g9 X0 s1)) (R (T.cE BP7))) (0,())
abbrev L3:Sh:=[(true,aK),(false,Sy.str)]
def cX:List T->Option T:=gS L3 oT
def AAQ {a0 a1}:cX [aG true aK a0,pPQ a1]=oT (a0,a1):=bH (s:=L3) rfl (a0,a1) rfl
def AM7:qU Tryz.prog 270 cX oT (cG L3) JT:=gV (a1:=(true,aK)) (a2:=(false,Sy.str)) (sp:=oT) (F:=JT) (Hs:=AS4) (f:=270) (k:=8) AC9 aY a6 (aO rfl) ⟨_,_,Tryz.func270,rfl⟩ rfl λ_ _ _=>by kernel_rfl
def RP:aP Tryz.prog 270 cX:=AM7 λm n r h hb=>by
 have hl:m.2.length<=2 ^ 47:=hb.1.2.1;unfold JT BP7 g9;refine bM m.2.length (λk s=>s=((k:Int),())/\(m.2.drop k).find? (λs=>decide (s.1=n))=T4 m n) ⟨rfl,rfl⟩ ?_;rintro X k s hk ⟨rfl,hf⟩ hX;simp only[ae,FR];by_cases hlt:k<m.2.length
 ·rw[oK hlt] at hf;have h0:¬ ((k:Int)<0):=by omega
  simp only[hlt,decide_true,aC,bE (r:=b7) hlt,h0,decide_false];cases hc:decide (m.2[k].1=n) with
  | true =>
   simp only[hc,if_true] at hf;simp only[oT,<-hf] at h;cases h;rfl
  | false =>
   simp only[hc] at hf;refine hX _ hlt ⟨?_,hf⟩;simp only[Prod.mk.injEq,and_true];exact bG _ (by omega) (by omega)
 ·have:k=m.2.length:=by omega
  subst this;simp only[List.drop_length,List.find?_nil] at hf;simp only[oT,<-hf] at h;simp only[hlt,decide_false,aC];cases h;rfl
end Go.Pv
namespace Go.Pv
open Go Go.Proofs IntKind
def AK3:YU Tryz.prog 136 2 16:=⟨λR=>by kernel_rfl,λfl R=>by kernel_rfl,λfl a rows R=>by kernel_rfl⟩
def lB:List T->Option T:=gS [(false,.li aA)] (fQ aA 16)
def qI {u0}:lB [T.sl false (List.map (Sy.enc aA) u0)]=fQ aA 16 u0:=bH (s:=[(false,.li aA)]) rfl u0 rfl
def RI:aP Tryz.prog 136 lB:=J3 aY a6 ⟨_,_,Tryz.func136,rfl⟩ AK3
def AD9:AID Tryz.prog 137 1 24:=⟨λR=>by kernel_rfl,λfl R=>by kernel_rfl,λfl a rows R=>by kernel_rfl⟩
def wI:List T->Option (List (List T)):=gS [(false,.li (.li aA))] (qR (.li aA) 24)
def U2 {u0}:wI [T.sl false (List.map (Sy.enc (.li aA)) u0)]=qR (.li aA) 24 u0:=bH (s:=[(false,.li (.li aA))]) rfl u0 rfl
def AEQ:fT Tryz.prog 137 wI:=ATK aY a6 ⟨_,_,Tryz.func137,rfl⟩ AD9
def l7 (b:Nat) (n:Nat):Bool:=decide (n*b<=140737488355328)&&decide (n<=140737488355328)
def IF (s:j6):Bool:=l7 16 s.1.length&&l7 24 s.2.length&&s.2.all λh=>l7 16 h.length
def gC (p:a8):Bool:=IF p.2.2.2.2.2.2.1
def NJ (d:aB):Bool:=d.2.2.1.all gC
def jT {r:Sy} {b:Nat} {l:List r.den} (h:l7 b l.length=true):qR r b l=some (List.map r.enc l):=by
 unfold qR;unfold l7 at h;rw[h]
def mA (x:aB×iII):Option T:=match NJ x.1 with
 | true=>CF x
 | false=>none
def A93:Env:=Env.of [(136,.pure lB),(137,.fresh wI)]
def BBM:FuncId->Hint:=b8 94 [(2,.inv [.val 13 false (.int .i64),.fix 1]),(7,.alt [.val 37 false (.int .i64),.arr 4 1 (.li aA)] [.val 37 false (.int .i64)])] (λ_=>bA)
def ASF:aU Tryz.prog A93:=.cons RI (.cons AEQ (.nil _))
def f0:Sh:=[(false,aA.li)]
def i6(y7:List aX):List (List T):=List.map aA.enc y7
def GT(y2:a8):List (List T):=List.map aA.li.enc y2.2.2.2.2.2.2.1.2
def ST(s12:Int×List (List aX)×PUnit):List (List T):=List.map aA.li.enc s12.2.1
def BP9(y7:List aX):List T:=[T.sl false (i6 y7)]
def BQH(y2:a8):List (List T):=List.map aA.enc y2.2.2.2.2.2.2.1.1
def ZA(a0:aB)(a1:iII)(R:T->Prop):Prop:=gM (bJ.rows false [[D.p d5,D.p (pPP 0), D.p (pPP 0),D.p d5, D.p d5,D.p (pPP 0), D.p d8,D.p d8, D.p d5,D.p (pPP 0), D.p (pPP 0),D.p (pPP 0), D.p (pPP 0),D.p (pPP 0), D.p (pPP 0),D.p (pPP 0), D.p (pPP 0),D.p (pPP 0)]]) (bJ.rows false [[D.p d5,D.p (pPP 0), D.p (pPP 0),D.p d5, D.p d5,D.p (pPP 0), D.p d8,D.p d8, D.p d5,D.p (pPP 0), D.p (pPP 0),D.p (pPP 0), D.p (pPP 0),D.p (pPP 0), D.p (pPP 0),D.p (pPP 0), D.p (pPP 0),D.p (pPP 0)]]) (bB (Int×PUnit×PUnit) (λX0 s1=>aC (decide (s1.1<(↑(FS a0).length:Int))) (aR aN (FS a0) s1.1 λ(y2:a8)=>aC (decide (y2.1=a1)) (aJ f0 (lB [T.sl false (BQH y2)]) λ(y3:List aX)=>bW aA.li (wI [T.sl false (GT y2)]) λ(y4:List (List aX))=>aC y4.isEmpty (bB (Int×PUnit) (λX5 s6=>aC (decide (s6.1<(↑0:Int))) (aR aA.li [] s6.1 λ(y7:List aX)=>aJ f0 (lB (BP9 y7)) λ(y8:List aX)=>aR aA.li [] s6.1 λ(y9:List aX)=>oE 104) (R (T.cE [T.agg [pPQ y2.1,pPP y2.2.1, pPP y2.2.2.1, pPQ y2.2.2.2.1, pPQ y2.2.2.2.2.1, pPP y2.2.2.2.2.2.1, T.sl false (i6 y3),T.sl false [], pPQ y2.2.2.2.2.2.2.2.1, pPP y2.2.2.2.2.2.2.2.2.1, pPP y2.2.2.2.2.2.2.2.2.2.1, pPP y2.2.2.2.2.2.2.2.2.2.2.1.1, pPP y2.2.2.2.2.2.2.2.2.2.2.1.2.1, pPP y2.2.2.2.2.2.2.2.2.2.2.1.2.2, pPP y2.2.2.2.2.2.2.2.2.2.2.2.1.1, pPP y2.2.2.2.2.2.2.2.2.2.2.2.1.2.1, pPP y2.2.2.2.2.2.2.2.2.2.2.2.1.2.2, pPP y2.2.2.2.2.2.2.2.2.2.2.2.2], pPR true]))) (0,())) (dP aA.li (List.map aA.li.enc y4) λ(y10:List (List aX))=>bB (Int×List (List aX)×PUnit) (λX11 s12=>aC (decide (s12.1<(↑(List.map aA.li.enc y4).length:Int))) (aR aA.li (ST s12) s12.1 λ(y13:List aX)=>eR aA.li (ST s12) (Int.toNat s12.1) 0 λ(y14:List aX)=>aJ f0 (lB (BP9 y14)) λ(y15:List aX)=>aR aA.li (ST s12) s12.1 λ(y16:List aX)=>IT (ST s12) (Int.toNat s12.1) λ(y17:List T)=>bL (decide (1<=y17.length)) (dP aA.li ((ST s12).set (Int.toNat s12.1) (bZ y17 0 (BP9 y15))) λ(y18:List (List aX))=>X11 (i64.wrap (s12.1+1),y18,()))) (R (T.cE [T.agg [pPQ y2.1, pPP y2.2.1, pPP y2.2.2.1, pPQ y2.2.2.2.1, pPQ y2.2.2.2.2.1, pPP y2.2.2.2.2.2.1, T.sl false (i6 y3), T.sl false (ST s12), pPQ y2.2.2.2.2.2.2.2.1, pPP y2.2.2.2.2.2.2.2.2.1, pPP y2.2.2.2.2.2.2.2.2.2.1, pPP y2.2.2.2.2.2.2.2.2.2.2.1.1, pPP y2.2.2.2.2.2.2.2.2.2.2.1.2.1, pPP y2.2.2.2.2.2.2.2.2.2.2.1.2.2, pPP y2.2.2.2.2.2.2.2.2.2.2.2.1.1, pPP y2.2.2.2.2.2.2.2.2.2.2.2.1.2.1, pPP y2.2.2.2.2.2.2.2.2.2.2.2.1.2.2, pPP y2.2.2.2.2.2.2.2.2.2.2.2.2], pPR true]))) (0,y10,()))) (i7 X0 s1)) (R (T.cE t6))) (0,(),()))
abbrev ABR:Sh:=[(true,aD),(false,Sy.str)]
def mF:List T->Option T:=gS ABR mA
def rP {a0 a1}:mF [aG true aD a0,pPQ a1]=mA (a0,a1):=bH (s:=ABR) rfl (a0,a1) rfl
def A7E:qU Tryz.prog 94 mF mA (cG ABR) ZA:=gV (a1:=(true,aD)) (a2:=(false,Sy.str)) (sp:=mA) (F:=ZA) (Hs:=BBM) (f:=94) (k:=8) ASF aY a6 (aO rfl) ⟨_,_,Tryz.func94,rfl⟩ rfl λ_ _ _=>by kernel_rfl
def GX:aP Tryz.prog 94 mF:=A7E λd id r h hb=>by
 have hl:d.2.2.1.length<=2 ^ 47:=hb.1.2.2.1.1;unfold mA at h;split at h
 ·rename_i hok;unfold ZA BQH BP9 ST GT t6 i7 i6 FS f0 d8 d5;rw[dA];refine bM d.2.2.1.length (λk s=>s=((k:Int),(),())/\(d.2.2.1.drop k).find? (λs=>decide (s.1=id))=partOf d id) ⟨rfl,rfl⟩ ?_;rintro X k s hk ⟨rfl,hf⟩ hX;simp only[ae,FR,dA];by_cases hlt:k<d.2.2.1.length
  ·rw[oK hlt] at hf;have hp:gC d.2.2.1[k]=true:=List.all_eq_true.1 hok _ (ak hlt);simp only[hlt,decide_true,aC,bE (r:=aN) hlt];generalize d.2.2.1[k]=p at *;unfold gC IF at hp;simp only[ac] at hp;obtain ⟨⟨hp1,hp2⟩,hp3⟩:=hp;cases hc:decide (p.1=id) with
   | true =>
    simp only[hc,if_true] at hf;simp only[CF,<-hf] at h;cases h;simp only[];refine aF (s:=[(false,aA.li)]) (y:=p.2.2.2.2.2.2.1.1) (by rw[qI,fQ,jT hp1];rfl) ?_;refine eK (r:=.li aA) (l:=p.2.2.2.2.2.2.1.2) (by rw[U2,jT hp2]) _ ?_;obtain ⟨p1,p2,p3,p4,p5,p6,⟨o,hs⟩,p7⟩:=p;have hb47:hs.length<=140737488355328:=by
     simp only[l7,ac,ah] at hp2;exact hp2.2
    cases hs with
    | nil =>
     simp only[List.isEmpty_nil];refine bM 0 (λk s=>s=((k:Int),())) rfl ?_;rintro X k s hk rfl hX;have:k=0:=by omega
     subst this;rfl
    | cons h0 hs =>
     generalize hhs:h0::hs=hh at *;have he:hh.isEmpty=false:=by rw[<-hhs];rfl
     simp only[he];rw[dJ (r:=.li aA) rfl];refine bM hh.length (λk s=>s=((k:Int),hh,())) rfl ?_;rintro X k s hk rfl hX;simp only[ae,FR];by_cases hlt:k<hh.length
     ·have hok:l7 16 hh[k].length=true:=List.all_eq_true.1 hp3 _ (ak hlt);simp only[hlt,decide_true,Int.toNat_natCast,bE (r:=.li aA) hlt,jD (r:=.li aA) hlt,qQ (r:=.li aA) hlt];refine aF (s:=[(false,aA.li)]) (y:=hh[k]) (by rw[qI,fQ,jT hok];rfl) ?_;refine ⟨rfl,?_⟩;have e:bZ (Sy.enc (.li aA) hh[k]) 0 [T.sl false (List.map aA.enc hh[k])]=Sy.enc (.li aA) hh[k]:=rfl;rw[e,IZ (r:=.li aA) hlt,dJ (r:=.li aA) rfl];refine hX _ hlt ?_;simp only[Prod.mk.injEq,and_true];exact bG _ (by omega) (by omega)
     ·simp only[hlt,decide_false];rfl
   | false =>
    simp only[hc] at hf;refine hX _ hlt ⟨?_,hf⟩;simp only[Prod.mk.injEq,and_true];exact bG _ (by omega) (by omega)
  ·have:k=d.2.2.1.length:=by omega
   subst this;simp only[List.drop_length,List.find?_nil] at hf;simp only[CF,<-hf] at h;simp only[hlt,decide_false,aC];cases h;rfl
 ·cases h
end Go.Pv
namespace Go.Pv
open Go Go.Proofs IntKind
abbrev jJ:Sh:=[(false,.bool)]
variable {A B:Prop}
def fA {p:Prop} {i:Decidable p} (h:p) (ha:A):aC (@decide p i) A B:=by rw[show @decide p i=true from ai h];exact ha
def iE {p:Prop} {i:Decidable p} (h:¬ p) (hb:B):aC (@decide p i) A B:=by rw[show @decide p i=false from aj h];exact hb
def cA {p:Prop} {i:Decidable p} (h1:p->A) (h2:¬ p->B):aC (@decide p i) A B:=by
 by_cases h:p
 ·rw[ai h];exact h1 h
 ·rw[aj h];exact h2 h
def lF {p:Prop} {i:Decidable p} (h1:¬ p->A) (h2:p->B):aC (!(@decide p i)) A B:=by
 by_cases h:p
 ·rw[ai h];exact h2 h
 ·rw[aj h];exact h1 h
def sX {c:Bool} (h1:c=true->A) (h2:c=false->B):aC c A B:=by cases c with
 | true=>exact h1 rfl
 | false=>exact h2 rfl
def fJ {c:Bool} (h1:c=false->A) (h2:c=true->B):aC (!c) A B:=by cases c with
 | true=>exact h2 rfl
 | false=>exact h1 rfl
def cJ {α:Type} (f:α->Int):List α->Int
 | []=>0
 | a::l=>if f a=0 then cJ f l else f a
def rM {r:Sy} {l:List r.den} (f:r.den->Int) (hl:l.length<=140737488355328) {Body:(Int×PUnit->Prop)->Int×PUnit->r.den->Prop} {Exit:Prop}
  (hbody:∀ (X:Int×PUnit->Prop) (s:Int×PUnit) (y:r.den),y∈l->(f y=0->X (i64.wrap (s.1+1),()))->(f y≠0->cJ f l=f y)->Body X s y) (hexit:cJ f l=0->Exit) :
  bB (Int×PUnit) (λ(X:Int×PUnit->Prop) (s:Int×PUnit)=>aC (decide (s.1<((List.map r.enc l).length:Int))) (aR r (List.map r.enc l) s.1 λy=>Body X s y) Exit) (0,()):=by
 refine bM l.length (λk s=>s=((k:Int),())/\cJ f l=cJ f (l.drop k)) ⟨rfl,by rw[List.drop_zero]⟩ ?_;rintro X k s hk ⟨rfl,he⟩ hX;dsimp only;refine cA (λhlt=>?_) λhge=>?_
 ·rw[ae] at hlt;have hlt:k<l.length:=by omega
  rw[bE hlt];have hd:l.drop k=l[k]::l.drop (k+1):=List.drop_eq_getElem_cons hlt;rw[hd,cJ] at he;refine hbody X _ _ (ak hlt) (λh0=>?_) λh0=>by rw[he,if_neg h0]
  rw[if_pos h0] at he;exact hX _ hlt ⟨by rw[show i64.wrap ((k:Int)+1)=((k+1:Nat):Int) from bG _ (by omega) (by omega)],he⟩
 ·rw[ae] at hge;have:k=l.length:=by omega
  subst this;rw[List.drop_length] at he;exact hexit he
end Go.Pv
namespace Go.Pv
open Go Go.Proofs IntKind
def upF (d:aB):Nat->iII->List iII->List iII×Bool
 | 0,_,_=>([],false)
 | n+1,id,l=>match eV d id with
  | none=>([],false)
  | some x=>if x.2.1=1 then (l++[id],true) else upF d n x.2.2 (l++[id])
def up (d:aB) (id:iII):List iII×Bool:=upF d 65 id []
def ARA {d:aB}:∀ {n:Nat} {id:iII} {l:List iII},(upF d n id l).1.length<=l.length+n
 | 0,_,_=>by simp[upF]
 | n+1,id,l=>by
  unfold upF;cases eV d id with
  | none=>simp
  | some x =>
   by_cases hx:x.2.1=1
   ·simp only[hx,if_true];simp
   ·simp only[hx,if_false];have:=ARA (d:=d) (n:=n) (id:=x.2.2) (l:=l++[id]);simp at this;omega
def BLU (d:aB) (id:iII):(up d id).1.length<=65:=by have:=ARA (d:=d) (n:=65) (id:=id) (l:=[]);simpa [up] using this
def ZU {l:List iII} (h:l.length<=8000000000000) (K:Prop):bL (decide (((List.map Sy.str.enc l).length+1)*16<=140737488355328)&&decide ((List.map Sy.str.enc l).length+1<=140737488355328)) K=K:=by
 have e:(decide (((List.map Sy.str.enc l).length+1)*16<=140737488355328)&&decide ((List.map Sy.str.enc l).length+1<=140737488355328))=true:=by
  simp only[ae,ac,ah];omega
 rw[e];simp[bL]
def GK {l:List iII} {x:iII} (K:List iII->Prop):dP Sy.str (List.map Sy.str.enc l++[[pPQ x]]) K=K (l++[x]):=J4 (r:=.str) rfl l _ x rfl K
def A3P {l:List iII} {x:iII}:List.map Sy.str.enc l++[[pPQ x]]=List.map Sy.str.enc (l++[x]):=by simp[Sy.enc]
end Go.Pv
namespace Go.Pv
open Go Go.Proofs IntKind
variable {α:Type}
def lX (a b:α):Bool:=@decide (a=b) (Classical.propDecidable _)
def dW {a b:α}:lX a b=true↔a=b:=by unfold lX;exact @decide_eq_true_iff _ (Classical.propDecidable _)
@[simp] def BN2 (a:α):lX a a=true:=dW.2 rfl
def yO {a b:α} (h:¬ a=b):lX a b=false:=by
 cases hc:lX a b with
 | false=>rfl
 | true=>exact absurd (dW.1 hc) h
def AGG (c d:Bool) (r:T):aC c (pPR d=r) (pPR false=r)=(pPR (c&&d)=r):=by cases c<;>simp[aC]
def XF (c d:Bool) (r:T):aC (!c) (pPR false=r) (pPR d=r)=(pPR (c&&d)=r):=by cases c<;>simp[aC]
def BGA (x:Bool):Sh.enc jJ x=pPR x:=rfl
def vJ (y:Bool) (K:Bool->Prop):aJ [(false,Sy.bool)] (some (Sh.enc jJ y)) K=K y:=BG (s:=jJ) rfl y K
variable {R:T->Prop}
def AXK {r:Sy} {l m:List r.den} (hlen:l.length=m.length) (hl:l.length<=2 ^ 47) (test:r.den->r.den->Bool) (ht:∀ x y,test x y=true↔x=y) (hR:R (pPR (lX l m))) :
  bB (Int×PUnit) (λ(X:Int×PUnit->Prop) (s:Int×PUnit)=>aC (decide (s.1<(↑(List.map r.enc l).length:Int))) (aR r (List.map r.enc l) s.1 λy=>aR r (List.map r.enc m) s.1 λz=>aC (!(test y z)) (R (pPR false)) (X (i64.wrap (s.1+1),()))) (R (pPR true))) (0,()):=by
 refine bM l.length (λk s=>s=((k:Int),())/\(l=m↔l.drop k=m.drop k)) ⟨rfl,by simp⟩ ?_;rintro X k s hk ⟨rfl,he⟩ hX;dsimp only;by_cases hlt:k<l.length
 ·have hlt2:k<m.length:=by omega
  refine fA (by simp[hlt]) ?_;rw[bE hlt,bE hlt2];rw[List.drop_eq_getElem_cons hlt,List.drop_eq_getElem_cons hlt2,List.cons.injEq] at he;by_cases h1:l[k]=m[k]
  ·rw[(ht _ _).2 h1,Bool.not_true,pT];refine hX _ hlt ⟨by rw[show i64.wrap ((k:Int)+1)=((k+1:Nat):Int) from bG _ (by omega) (by omega)],?_⟩;rw[he];exact ⟨λh=>h.2,λh=>⟨h1,h⟩⟩
  ·have:test l[k] m[k]=false:=by
    cases hc:test l[k] m[k] with
    | false=>rfl
    | true=>exact absurd ((ht _ _).1 hc) h1
   rw[this,Bool.not_false,j8];rwa[yO λh=>h1 (he.1 h).1] at hR
 ·have:k=l.length:=by omega
  subst this;refine iE (by simp) ?_;rwa[dW.2 (he.2 (by rw[List.drop_length,hlen,List.drop_length]))] at hR
def IX {r:Sy} {l m:List r.den} (hl:l.length<=2 ^ 47) (test:r.den->r.den->Bool) (ht:∀ x y,test x y=true↔x=y) (hR:R (pPR (lX l m))) :
  aC (!decide ((↑(List.map r.enc l).length:Int)=(↑(List.map r.enc m).length:Int))) (R (pPR false)) (bB (Int×PUnit) (λ(X:Int×PUnit->Prop) (s:Int×PUnit)=>aC (decide (s.1<(↑(List.map r.enc l).length:Int))) (aR r (List.map r.enc l) s.1 λy=>aR r (List.map r.enc m) s.1 λz=>aC (!(test y z)) (R (pPR false)) (X (i64.wrap (s.1+1),()))) (R (pPR true))) (0,())):=by
 by_cases hlen:l.length=m.length
 ·rw[show (!decide ((↑(List.map r.enc l).length:Int)=(↑(List.map r.enc m).length:Int)))=false by simp[hlen],pT];exact AXK hlen hl test ht hR
 ·rw[show (!decide ((↑(List.map r.enc l).length:Int)=(↑(List.map r.enc m).length:Int)))=true by simp;omega,j8];rwa[yO λh=>hlen (by rw[h])] at hR
def jB (d:aB) (id:iII):Option aQ:=d.2.2.2.2.1.find? λs=>decide (s.1=id)
def noPack:aQ:=(⟨#[]⟩,⟨#[]⟩,[],0,[])
def AEA:YU Tryz.prog 243 1 16:=⟨λR=>by kernel_rfl,λfl R=>by kernel_rfl,λfl a rows R=>by kernel_rfl⟩
def kM:List T->Option T:=gS [(false,.li .str)] (fQ .str 16)
def oY {u0}:kM [T.sl false (List.map (Sy.enc .str) u0)]=fQ .str 16 u0:=bH (s:=[(false,.li .str)]) rfl u0 rfl
def MZ:aP Tryz.prog 243 kM:=J3 aY a6 ⟨_,_,Tryz.func243,rfl⟩ AEA
def fF (p:aQ):Bool:=l7 16 p.2.2.1.length&&l7 16 p.2.2.2.2.length
def LJ (d:aB):Bool:=d.2.2.2.2.1.all fF
def AHB (d:aB) (t:T):Option T:=match LJ d with
 | true=>some t
 | false=>none
def A7Q {d:aB} {t r:T} (h:AHB d t=some r):LJ d=true/\r=t:=by
 unfold AHB at h;split at h
 ·cases h;exact ⟨by assumption,rfl⟩
 ·cases h
def AHC {d:aB} (t:T) (h:LJ d=true):AHB d t=some t:=by unfold AHB;rw[h]
def OM (x:aB×iII):Option T:=AHB x.1 (Sh.enc [(true,aH),(false,.bool)] (found noPack (jB x.1 x.2)))
def BG0:Env:=Env.of [(243,.pure kM)]
def BHG:FuncId->Hint:=b8 217 [(2,.inv [.val 11 false (.int .i64),.fix 1])] (λ_=>bA)
def AZO:aU Tryz.prog BG0:=.cons MZ (.nil _)
def eI:Sh:=[(false,Sy.str.li)]
def m9(a0:aB):List (List T):=List.map aH.enc a0.2.2.2.2.1
def LT(y3:List iII):List (List T):=List.map Sy.str.enc y3
def BQD(y2:aQ):List (List T):=List.map Sy.str.enc y2.2.2.2.2
def BQG(y2:aQ):List (List T):=List.map Sy.str.enc y2.2.2.1
def AJ4(a0:aB)(a1:iII)(R:T->Prop):Prop:=gM (bJ.rows false [[D.p d5,D.p d5, D.p d8,D.p (pPP 0), D.p d8]]) (bJ.rows false [[D.p d5,D.p d5, D.p d8,D.p (pPP 0), D.p d8]]) (bB (Int×PUnit×PUnit) (λX0 s1=>aC (decide (s1.1<(↑(m9 a0).length:Int))) (aR aH (m9 a0) s1.1 λ(y2:aQ)=>aC (decide (y2.1=a1)) (aJ eI (kM [T.sl false (BQG y2)]) λ(y3:List iII)=>aJ eI (kM [T.sl false (BQD y2)]) λ(y4:List iII)=>R (T.cE [T.agg [pPQ y2.1,pPQ y2.2.1, T.sl false (LT y3), pPP y2.2.2.2.1, T.sl false (LT y4)], pPR true])) (gM (bJ.rows false [[D.p d5, D.p d5, D.p d8, D.p (pPP 0), D.p d8]]) (bJ.rows false [[D.p d5, D.p d5, D.p d8, D.p (pPP 0), D.p d8]]) (X0 (i64.wrap (s1.1+1),(),())))) (R (T.cE [T.agg [pPQ ({data:=#[]}),pPQ ({data:=#[]}), T.sl false [],pPP 0,T.sl false []], pPR false]))) (0,(),()))
abbrev ANW:Sh:=[(true,aD),(false,Sy.str)]
def FC:List T->Option T:=gS ANW OM
def WO {a0 a1}:FC [aG true aD a0,pPQ a1]=OM (a0,a1):=bH (s:=ANW) rfl (a0,a1) rfl
def BEW:qU Tryz.prog 217 FC OM (cG ANW) AJ4:=gV (a1:=(true,aD)) (a2:=(false,Sy.str)) (sp:=OM) (F:=AJ4) (Hs:=BHG) (f:=217) (k:=8) AZO aY a6 (aO rfl) ⟨_,_,Tryz.func217,rfl⟩ rfl λ_ _ _=>by kernel_rfl
def APO:aP Tryz.prog 217 FC:=BEW λd id r h hb=>by
 have hl:d.2.2.2.2.1.length<=2 ^ 47:=hb.1.2.2.2.2.1.1;obtain ⟨hok,rfl⟩:=A7Q h;clear h;unfold AJ4 BQG BQD LT m9 eI d8 d5;rw[dA];refine bM d.2.2.2.2.1.length (λk s=>s=((k:Int),(),())/\(d.2.2.2.2.1.drop k).find? (λs=>decide (s.1=id))=jB d id) ⟨rfl,rfl⟩ ?_;rintro X k s hk ⟨rfl,hf⟩ hX;simp only[ae,FR,dA];by_cases hlt:k<d.2.2.2.2.1.length
 ·rw[oK hlt] at hf;have hp:fF d.2.2.2.2.1[k]=true:=List.all_eq_true.1 hok _ (ak hlt);simp only[hlt,decide_true,aC,bE (r:=aH) hlt];unfold fF at hp;simp only[ac] at hp;cases hc:decide (d.2.2.2.2.1[k].1=id) with
  | true =>
   simp only[hc,if_true] at hf;rw[<-hf];refine aF (s:=[(false,.li .str)]) (y:=d.2.2.2.2.1[k].2.2.1) (by rw[oY,fQ,jT hp.1];rfl) ?_;refine aF (s:=[(false,.li .str)]) (y:=d.2.2.2.2.1[k].2.2.2.2) (by rw[oY,fQ,jT hp.2];rfl) ?_;rfl
  | false =>
   simp only[hc] at hf;refine hX _ hlt ⟨?_,hf⟩;simp only[Prod.mk.injEq,and_true];exact bG _ (by omega) (by omega)
 ·have:k=d.2.2.2.2.1.length:=by omega
  subst this;simp only[List.drop_length,List.find?_nil] at hf;rw[<-hf];simp only[hlt,decide_false,aC];rfl
def vR (x:List aX×List aX):Option T:=some (Sh.enc jJ (lX x.1 x.2))
def vS (x:j6×j6):Option T:=some (Sh.enc jJ (lX x.1 x.2))
def kV (x:a8×a8):Option T:=some (Sh.enc jJ (lX x.1 x.2))
def o5:=kV
def A7 (x:List iII×List iII):Option T:=some (Sh.enc jJ (lX x.1 x.2))
def pL (x:aQ×aQ):Option T:=some (Sh.enc jJ (lX x.1 x.2))
def AY3:Env:=Env.of []
def A14:FuncId->Hint:=b8 95 [(4,.inv [.val 5 false (.int .i64)])] (λ_=>bA)
def AJG:aU Tryz.prog AY3:=.nil _
def d4:T:=pPR false
def d7:T:=pPR true
def NE(a0:List aX)(a1:List aX)(R:T->Prop):Prop:=bB (Int×PUnit) (λX0 s1=>aC (decide (s1.1<(↑(i6 a0).length:Int))) (aR aA (i6 a0) s1.1 λ(y2:aX)=>aR aA (i6 a1) s1.1 λ(y3:aX)=>aC (!(decide (y2.1=y3.1)&&(decide (y2.2=y3.2)&&true))) (R d4) (g9 X0 s1)) (R d7)) (0,())
def P0(a0:List aX)(a1:List aX)(R:T->Prop):Prop:=aC (!decide ((↑(i6 a0).length:Int)=(↑(i6 a1).length:Int))) (R d4) (NE a0 a1 R)
abbrev TU:Sh:=[(false,aA.li),(false,aA.li)]
def u6:List T->Option T:=gS TU vR
def AF1 {a0 a1}:u6 [T.sl false (List.map aA.enc a0),T.sl false (List.map aA.enc a1)]=vR (a0,a1):=bH (s:=TU) rfl (a0,a1) rfl
def AWU:qU Tryz.prog 95 u6 vR (cG TU) P0:=gV (a1:=(false,aA.li)) (a2:=(false,aA.li)) (sp:=vR) (F:=P0) (Hs:=A14) (f:=95) (k:=8) AJG aY a6 (aO rfl) ⟨_,_,Tryz.func95,rfl⟩ rfl λ_ _ _=>by kernel_rfl
def AUO:aP Tryz.prog 95 u6:=AWU λa b r h hb=>by
 cases h;unfold P0 NE i6 g9 d7 d4;refine IX (r:=aA) (R:=λy=>y=Sh.enc jJ (lX a b)) hb.1.1 _ (λx y=>?_) rfl;simp only[Bool.and_true,ac,ah,Prod.ext_iff]
def AY4:Env:=Env.of [(95,.pure u6)]
def A15:FuncId->Hint:=b8 67 [(4,.inv [.val 5 false (.int .i64)])] (λ_=>bA)
def AJH:aU Tryz.prog AY4:=.cons AUO (.nil _)
def d6:Sh:=[(false,Sy.bool)]
def BQL(a0:j6):List (List T):=List.map aA.li.enc a0.2
def P1(a0:j6)(a1:j6)(R:T->Prop):Prop:=aJ d6 (u6 [T.sl false (List.map aA.enc a0.1),T.sl false (List.map aA.enc a1.1)]) λ(y0:Bool)=>aC (!y0) (R d4) (aC (!decide ((↑(BQL a0).length:Int) = (↑(BQL a1).length:Int))) (R d4) (bB (Int×PUnit) (λX1 s2=>aC (decide (s2.1<(↑(BQL a0).length:Int))) (aR aA.li (BQL a0) s2.1 λ(y3:List aX)=>aR aA.li (BQL a1) s2.1 λ(y4:List aX)=>aJ d6 (u6 [T.sl false (i6 y3),T.sl false (i6 y4)]) λ(y5:Bool)=>aC (!y5) (R d4) (g9 X1 s2)) (R d7)) (0,())))
abbrev TV:Sh:=[(true,e8),(true,e8)]
def zK:List T->Option T:=gS TV vS
def AF2 {a0 a1}:zK [aG true e8 a0,aG true e8 a1]=vS (a0,a1):=bH (s:=TV) rfl (a0,a1) rfl
def AWV:qU Tryz.prog 67 zK vS (cG TV) P1:=gV (a1:=(true,e8)) (a2:=(true,e8)) (sp:=vS) (F:=P1) (Hs:=A15) (f:=67) (k:=8) AJH aY a6 (aO rfl) ⟨_,_,Tryz.func67,rfl⟩ rfl λ_ _ _=>by kernel_rfl
def AUP:aP Tryz.prog 67 zK:=AWV λa b r h hb=>by
 cases h;unfold P1 BQL i6 g9 d7 d6 d4;have u:=@AF1;simp only[u,vR,vJ];by_cases h1:a.1=b.1
 ·rw[dW.2 h1,Bool.not_true,pT];refine IX (r:=.li aA) (R:=λy=>y=Sh.enc jJ (lX a b)) hb.1.2.1 _ (λx y=>dW) ?_;show T.v (.bool (lX a.2 b.2))=T.v (.bool (lX a b))
  congr 2
  rw[Bool.eq_iff_iff,dW,dW,Prod.ext_iff];exact ⟨λh=>⟨h1,h⟩,λh=>h.2⟩
 ·rw[yO h1,Bool.not_false,j8,yO λh=>h1 (by rw[h])];rfl
def AIP:Env:=Env.of [(67,.pure zK)]
def AKG:FuncId->Hint:=λ_=>bA
def Y2:aU Tryz.prog AIP:=.cons AUP (.nil _)
def EO(a0:a8)(a1:a8)(R:T->Prop):Prop:=aC (!decide (a0.1=a1.1)) (R d4) (aC (!decide (a0.2.1=a1.2.1)) (R d4) (aC (!decide (a0.2.2.1=a1.2.2.1)) (R d4) (aC (!decide (a0.2.2.2.1=a1.2.2.2.1)) (R d4) (aC (!decide (a0.2.2.2.2.1=a1.2.2.2.2.1)) (R d4) (aC (!decide (a0.2.2.2.2.2.1=a1.2.2.2.2.2.1)) (R d4) (aJ d6 (zK [aG true e8 a0.2.2.2.2.2.2.1, aG true e8 a1.2.2.2.2.2.2.1]) λ(y0:Bool)=>aC y0 (aC (decide (a0.2.2.2.2.2.2.2.1=a1.2.2.2.2.2.2.2.1)) (aC (decide (a0.2.2.2.2.2.2.2.2.1=a1.2.2.2.2.2.2.2.2.1)) (aC (decide (a0.2.2.2.2.2.2.2.2.2.1=a1.2.2.2.2.2.2.2.2.2.1)) (aC (decide (a0.2.2.2.2.2.2.2.2.2.2.1.1 = a1.2.2.2.2.2.2.2.2.2.2.1.1) && (decide (a0.2.2.2.2.2.2.2.2.2.2.1.2.1 = a1.2.2.2.2.2.2.2.2.2.2.1.2.1) && (decide (a0.2.2.2.2.2.2.2.2.2.2.1.2.2 = a1.2.2.2.2.2.2.2.2.2.2.1.2.2) && true))) (R (pPR (decide (a0.2.2.2.2.2.2.2.2.2.2.2.1.1 = a1.2.2.2.2.2.2.2.2.2.2.2.1.1) && (decide (a0.2.2.2.2.2.2.2.2.2.2.2.1.2.1 = a1.2.2.2.2.2.2.2.2.2.2.2.1.2.1) && (decide (a0.2.2.2.2.2.2.2.2.2.2.2.1.2.2 = a1.2.2.2.2.2.2.2.2.2.2.2.1.2.2) && true)) && (decide (a0.2.2.2.2.2.2.2.2.2.2.2.2 = a1.2.2.2.2.2.2.2.2.2.2.2.2) && true)))) (R d4)) (R d4)) (R d4)) (R d4)) (R d4)))))))
abbrev F4:Sh:=[(true,aN),(true,aN)]
def mQ:List T->Option T:=gS F4 kV
def D4 {a0 a1}:mQ [aG true aN a0,aG true aN a1]=kV (a0,a1):=bH (s:=F4) rfl (a0,a1) rfl
def AG9:qU Tryz.prog 42 mQ kV (cG F4) EO:=gV (a1:=(true,aN)) (a2:=(true,aN)) (sp:=kV) (F:=EO) (Hs:=AKG) (f:=42) (k:=8) Y2 aY a6 (aO rfl) ⟨_,_,Tryz.func42,rfl⟩ rfl λ_ _ _=>by kernel_rfl
def M0:aP Tryz.prog 42 mQ:=AG9 λa b r h hb=>by
 cases h;unfold EO d6 d4;simp only[AF2,vS,vJ];simp only[BGA,AGG,XF]
 congr 2
 rw[Bool.eq_iff_iff,dW];simp only[Bool.and_true,ac,ah,dW,Prod.ext_iff,and_assoc]
def YX:Env:=Env.of [(42,.pure mQ)]
def ZM:FuncId->Hint:=λ_=>bA
def O8:aU Tryz.prog YX:=.cons M0 (.nil _)
def vW(a0:a8)(a1:a8)(R:T->Prop):Prop:=aJ d6 (mQ [aG true aN a0,aG true aN a1]) λ(y0:Bool)=>R (pPR y0)
abbrev xB:Sh:=[(true,aN),(true,aN)]
def jP:List T->Option T:=gS xB o5
def NZ {a0 a1}:jP [aG true aN a0,aG true aN a1]=o5 (a0,a1):=bH (s:=xB) rfl (a0,a1) rfl
def VA:qU Tryz.prog 23 jP o5 (cG xB) vW:=gV (a1:=(true,aN)) (a2:=(true,aN)) (sp:=o5) (F:=vW) (Hs:=ZM) (f:=23) (k:=8) O8 aY a6 (aO rfl) ⟨_,_,Tryz.func23,rfl⟩ rfl λ_ _ _=>by kernel_rfl
def U1:aP Tryz.prog 23 jP:=VA λa b r h hb=>by
 cases h;unfold vW d6;simp only[D4,kV,vJ];rfl
def A99:Env:=Env.of []
def BBS:FuncId->Hint:=b8 25 [(4,.inv [.val 5 false (.int .i64)])] (λ_=>bA)
def ASL:aU Tryz.prog A99:=.nil _
def ZG(a0:List iII)(a1:List iII)(R:T->Prop):Prop:=aC (!decide ((↑(LT a0).length:Int)=(↑(LT a1).length:Int))) (R d4) (bB (Int×PUnit) (λX0 s1=>aC (decide (s1.1<(↑(LT a0).length:Int))) (aR Sy.str (LT a0) s1.1 λ(y2:iII)=>aR Sy.str (LT a1) s1.1 λ(y3:iII)=>aC (!decide (y2=y3)) (R d4) (g9 X0 s1)) (R d7)) (0,()))
abbrev ABX:Sh:=[(false,Sy.str.li),(false,Sy.str.li)]
def BT:List T->Option T:=gS ABX A7
def AL8 {a0 a1}:BT [T.sl false (List.map Sy.str.enc a0),T.sl false (List.map Sy.str.enc a1)]=A7 (a0,a1):=bH (s:=ABX) rfl (a0,a1) rfl
def A7K:qU Tryz.prog 25 BT A7 (cG ABX) ZG:=gV (a1:=(false,Sy.str.li)) (a2:=(false,Sy.str.li)) (sp:=A7) (F:=ZG) (Hs:=BBS) (f:=25) (k:=8) ASL aY a6 (aO rfl) ⟨_,_,Tryz.func25,rfl⟩ rfl λ_ _ _=>by kernel_rfl
def A38:aP Tryz.prog 25 BT:=A7K λa b r h hb=>by
 cases h;unfold ZG LT g9 d7 d4;exact IX (r:=.str) (R:=λy=>y=Sh.enc jJ (lX a b)) hb.1.1 _ (λx y=>decide_eq_true_iff) rfl
def AIO:Env:=Env.of [(25,.pure BT)]
def AKF:FuncId->Hint:=λ_=>bA
def Y1:aU Tryz.prog AIO:=.cons A38 (.nil _)
def EN(a0:aQ)(a1:aQ)(R:T->Prop):Prop:=aC (decide (a0.1=a1.1)) (aC (decide (a0.2.1=a1.2.1)) (aC (decide (a0.2.2.2.1=a1.2.2.2.1)) (aJ d6 (BT [T.sl false (BQG a0), T.sl false (BQG a1)]) λ(y0:Bool)=>aC y0 (aJ d6 (BT [T.sl false (BQD a0), T.sl false (BQD a1)]) λ(y1:Bool)=>R (pPR y1)) (R d4)) (R d4)) (R d4)) (R d4)
abbrev F3:Sh:=[(true,aH),(true,aH)]
def rR:List T->Option T:=gS F3 pL
def U5 {a0 a1}:rR [aG true aH a0,aG true aH a1]=pL (a0,a1):=bH (s:=F3) rfl (a0,a1) rfl
def AG8:qU Tryz.prog 43 rR pL (cG F3) EN:=gV (a1:=(true,aH)) (a2:=(true,aH)) (sp:=pL) (F:=EN) (Hs:=AKF) (f:=43) (k:=8) Y1 aY a6 (aO rfl) ⟨_,_,Tryz.func43,rfl⟩ rfl λ_ _ _=>by kernel_rfl
def AEX:aP Tryz.prog 43 rR:=AG8 λa b r h hb=>by
 cases h;unfold EN BQG BQD d6 d4;have u:=@AL8;simp only[u,A7,vJ];simp only[BGA,AGG,XF]
 congr 2
 rw[Bool.eq_iff_iff,dW];simp only[Bool.and_true,ac,ah,dW,Prod.ext_iff];exact ⟨λ⟨h1,h2,h3,h4,h5⟩=>⟨h1,h2,h4,h3,h5⟩,λ⟨h1,h2,h4,h3,h5⟩=>⟨h1,h2,h3,h4,h5⟩⟩
end Go.Pv
namespace Go.Pv
open Go Go.Proofs IntKind
def few (d:aB) (n:Int):Bool:=decide ((d.2.1.length:Int)<=n)&&decide ((d.2.2.1.length:Int)<=n)&&decide ((d.2.2.2.1.length:Int)<=n)&&decide ((d.2.2.2.2.1.length:Int)<=n)&&decide ((d.2.2.2.2.2.length:Int)<=n)&&d.2.2.2.2.1.all λk=>decide ((k.2.2.1.length:Int)<=n)&&decide ((k.2.2.2.2.length:Int)<=n)
def AB9 (x:aB×Int):Option T:=some (Sh.enc jJ (few x.1 x.2))
def BMI:Env:=Env.of []
def BM4:FuncId->Hint:=b8 40 [(4,.inv [.val 5 false (.int .i64)])] (λ_=>bA)
def BAV:aU Tryz.prog BMI:=.nil _
def IR(a0:aB):List (List T):=List.map aZ.enc a0.2.2.2.2.2
def A0L(a0:aB)(a1:Int)(R:T->Prop):Prop:=aC (decide (a1<(↑(AC a0).length:Int))) (R d4) (aC (decide (a1<(↑(FS a0).length:Int))) (R d4) (aC (decide (a1<(↑(v6 a0).length:Int))) (R d4) (aC (decide (a1<(↑(m9 a0).length:Int))) (R d4) (aC (decide (a1<(↑(IR a0).length:Int))) (R d4) (bB (Int×PUnit) (λX0 s1=>aC (decide (s1.1<(↑(m9 a0).length:Int))) (aR aH (m9 a0) s1.1 λ(y2:aQ)=>aC (decide (a1<(↑(BQG y2).length:Int))) (R d4) (aR aH (m9 a0) s1.1 λ(y3:aQ)=>aC (decide (a1<(↑(BQD y3).length:Int))) (R d4) (g9 X0 s1))) (R d7)) (0,()))))))
abbrev A8Z:Sh:=[(true,aD),(false,(Sy.int IntKind.i64))]
def D3:List T->Option T:=gS A8Z AB9
def G6 {a0 a1}:D3 [aG true aD a0,pPP a1]=AB9 (a0,a1):=bH (s:=A8Z) rfl (a0,a1) rfl
def BKK:qU Tryz.prog 40 D3 AB9 (cG A8Z) A0L:=gV (a1:=(true,aD)) (a2:=(false,(Sy.int IntKind.i64))) (sp:=AB9) (F:=A0L) (Hs:=BM4) (f:=40) (k:=8) BAV aY a6 (aO rfl) ⟨_,_,Tryz.func40,rfl⟩ rfl λ_ _ _=>by kernel_rfl
variable {A B:Prop}
def kF {n:Int} {m:Nat} (h1:¬ (m:Int)<=n->A) (h2:(m:Int)<=n->B):aC (decide (n<(m:Int))) A B:=by
 by_cases h:(m:Int)<=n
 ·exact iE (by omega) (h2 h)
 ·exact fA (by omega) (h1 h)
variable {α:Type}
def QD {p:α->Bool} {l:List α} {k:Nat} (h:k<l.length):(l.drop k).all p=(p l[k]&&(l.drop (k+1)).all p):=by rw[List.drop_eq_getElem_cons h,List.all_cons]
def ALJ:aP Tryz.prog 40 D3:=BKK λd n r h hb=>by
 cases h;have hl:d.2.2.2.2.1.length<=2 ^ 47:=hb.1.2.2.2.2.1.1;have no:few d n=false->pPR false=Sh.enc jJ (few d n):=λh=>by rw[h];rfl
 unfold A0L BQG BQD g9 IR FS AC v6 m9 d7 d4;simp only[ae];refine kF (λh=>no (by simp[few,h])) λg1=>?_;refine kF (λh=>no (by simp[few,h])) λg2=>?_;refine kF (λh=>no (by simp[few,h])) λg3=>?_;refine kF (λh=>no (by simp[few,h])) λg4=>?_;refine kF (λh=>no (by simp[few,h])) λg5=>?_;refine bM d.2.2.2.2.1.length (λk s=>s=((k:Int),())/\few d n=(d.2.2.2.2.1.drop k).all λk=>decide ((k.2.2.1.length:Int)<=n)&&decide ((k.2.2.2.2.length:Int)<=n)) ⟨rfl,by simp only[few,g1,g2,g3,g4,g5,decide_true,Bool.true_and,List.drop_zero]⟩ ?_;rintro X k s hk ⟨rfl,he⟩ hX;dsimp only;by_cases hlt:k<d.2.2.2.2.1.length
 ·rw[QD hlt] at he;refine fA (by simp[hlt]) ?_;rw[bE (r:=aH) hlt]
  try simp only[ae]
  refine kF (λh=>no (by rw[he];simp[h])) λg6=>?_
  try rw[bE (r:=aH) hlt]
  try simp only[ae]
  refine kF (λh=>no (by rw[he];simp[h])) λg7=>?_;refine hX _ hlt ⟨by rw[show i64.wrap ((k:Int)+1)=((k+1:Nat):Int) from bG _ (by omega) (by omega)],?_⟩;rw[he];simp only[g6,g7,decide_true,Bool.true_and]
 ·have:k=d.2.2.2.2.1.length:=by omega
  subst this;refine iE (by simp) ?_;rw[he];simp only[List.drop_length,List.all_nil];rfl
def BK8 {d:aB} (h:InS aD d):NJ d=true:=by
 refine List.all_eq_true.2 λp hp=>?_;obtain ⟨_,_,⟨_,_,h3⟩,_⟩:=h;have h4:=h3 p hp;obtain ⟨_,_,_,_,_,_,⟨⟨h5,h6,_⟩,h7,h8,h9⟩,_⟩:=h4;unfold gC IF l7;simp only[ac,ah,List.all_eq_true];refine ⟨⟨⟨?_,?_⟩,?_,?_⟩,λq hq=>?_⟩
 ·exact h5
 ·exact h6
 ·exact h7
 ·exact h8
 ·obtain ⟨g1,g2,_⟩:=h9 q hq;exact ⟨g1,g2⟩
def BK9 {d:aB} (h:InS aD d):LJ d=true:=by
 refine List.all_eq_true.2 λp hp=>?_;obtain ⟨_,_,_,_,⟨_,_,h3⟩,_⟩:=h;obtain ⟨_,_,⟨h5,h6,_⟩,_,⟨h7,h8,_⟩⟩:=h3 p hp;unfold fF l7;simp only[ac,ah];exact ⟨⟨h5,h6⟩,h7,h8⟩
def rV {c:Bool} (h1:c=true->A) (h2:c=false->B):aC c A B:=by cases c with
 | true=>exact h1 rfl
 | false=>exact h2 rfl
def gI {c:Bool} (h1:c=false->A) (h2:c=true->B):aC (!c) A B:=by cases c with
 | true=>exact h2 rfl
 | false=>exact h1 rfl
end Go.Pv
namespace Go.Pv
open Go Go.Proofs IntKind
def JC (x:List aX×List aX):Option T:=some (Sh.enc jJ (lX x.1 x.2))
def tK (x:a8×a8):Option T:=some (Sh.enc jJ (lX x.1 x.2))
def AOF (x:aB×aB):Option T:=some (Sh.enc jJ (lX x.1 x.2))
def qS:=AOF
def BG5:Env:=Env.of []
def BHL:FuncId->Hint:=b8 274 [(4,.inv [.val 13 false (.int .i64)])] (λ_=>bA)
def AZT:aU Tryz.prog BG5:=.nil _
def AJ9(a0:List aX)(a1:List aX)(R:T->Prop):Prop:=aC (!decide ((↑(i6 a0).length:Int)=(↑(i6 a1).length:Int))) (R d4) (NE a0 a1 R)
abbrev AN1:Sh:=[(false,aA.li),(false,aA.li)]
def KP:List T->Option T:=gS AN1 JC
def AVC {a0 a1}:KP [T.sl false (List.map aA.enc a0),T.sl false (List.map aA.enc a1)]=JC (a0,a1):=bH (s:=AN1) rfl (a0,a1) rfl
def BE1:qU Tryz.prog 274 KP JC (cG AN1) AJ9:=gV (a1:=(false,aA.li)) (a2:=(false,aA.li)) (sp:=JC) (F:=AJ9) (Hs:=BHL) (f:=274) (k:=8) AZT aY a6 (aO rfl) ⟨_,_,Tryz.func274,rfl⟩ rfl λ_ _ _=>by kernel_rfl
def BDK:aP Tryz.prog 274 KP:=BE1 λa b r h hb=>by
 cases h;unfold AJ9 NE i6 g9 d7 d4;refine IX (r:=aA) (R:=λy=>y=Sh.enc jJ (lX a b)) hb.1.1 _ (λx y=>?_) rfl;simp only[Bool.and_true,ac,ah,Prod.ext_iff]
variable {N Y:Prop}
def uN {r:Sy} {l m:List r.den} (hlen:l.length=m.length) (hl:l.length<=2 ^ 47) (test:r.den->r.den->Bool) (ht:∀ x y,test x y=true↔x=y) (hY:l=m->Y) (hN:¬ l=m->N) :
  bB (Int×PUnit) (λ(X:Int×PUnit->Prop) (s:Int×PUnit)=>aC (decide (s.1<(↑(List.map r.enc l).length:Int))) (aR r (List.map r.enc l) s.1 λy=>aR r (List.map r.enc m) s.1 λz=>aC (!(test y z)) N (X (i64.wrap (s.1+1),()))) Y) (0,()):=by
 refine bM l.length (λk s=>s=((k:Int),())/\(l=m↔l.drop k=m.drop k)) ⟨rfl,by simp⟩ ?_;rintro X k s hk ⟨rfl,he⟩ hX;dsimp only;by_cases hlt:k<l.length
 ·have hlt2:k<m.length:=by omega
  refine fA (by simp[hlt]) ?_;rw[bE hlt,bE hlt2];rw[List.drop_eq_getElem_cons hlt,List.drop_eq_getElem_cons hlt2,List.cons.injEq] at he;refine gI (λh=>hN λe=>?_) λh=>?_
  ·rw[(ht _ _).2 (he.1 e).1] at h;cases h
  ·have h1:=(ht _ _).1 h;refine hX _ hlt ⟨by rw[show i64.wrap ((k:Int)+1)=((k+1:Nat):Int) from bG _ (by omega) (by omega)],?_⟩;rw[he];exact ⟨λh=>h.2,λh=>⟨h1,h⟩⟩
 ·have:k=l.length:=by omega
  subst this;refine iE (by simp) ?_;exact hY (he.2 (by rw[List.drop_length,hlen,List.drop_length]))
variable {α β:Type}
def LD {f:α->β} {l m:List α} (h:decide ((↑(List.map f l).length:Int)=(↑(List.map f m).length:Int))=true):l.length=m.length:=by simp at h;omega
def Z3 {r:Sy} {l m:List r.den} (hl:l.length<=2 ^ 47) (test:r.den->r.den->Bool) (ht:∀ x y,test x y=true↔x=y) (hY:l=m->Y) (hN:¬ l=m->N) :
  aC (!decide ((↑(List.map r.enc l).length:Int)=(↑(List.map r.enc m).length:Int))) N (bB (Int×PUnit) (λ(X:Int×PUnit->Prop) (s:Int×PUnit)=>aC (decide (s.1<(↑(List.map r.enc l).length:Int))) (aR r (List.map r.enc l) s.1 λy=>aR r (List.map r.enc m) s.1 λz=>aC (!(test y z)) N (X (i64.wrap (s.1+1),()))) Y) (0,())) :=
 gI (λh=>hN λe=>by simp[e] at h) λh=>uN (LD h) hl test ht hY hN
def AIN:Env:=Env.of [(274,.pure KP)]
def AKE:FuncId->Hint:=b8 275 [(4,.inv [.val 17 false (.int .i64)])] (λ_=>bA)
def Y0:aU Tryz.prog AIN:=.cons BDK (.nil _)
def EM(a0:a8)(a1:a8)(R:T->Prop):Prop:=aC (!decide (a0.1=a1.1)) (R d4) (aC (!decide (a0.2.1=a1.2.1)) (R d4) (aC (!decide (a0.2.2.1=a1.2.2.1)) (R d4) (aC (!decide (a0.2.2.2.1=a1.2.2.2.1)) (R d4) (aC (!decide (a0.2.2.2.2.1=a1.2.2.2.2.1)) (R d4) (aC (!decide (a0.2.2.2.2.2.1=a1.2.2.2.2.2.1)) (R d4) (aC (!decide (a0.2.2.2.2.2.2.2.1=a1.2.2.2.2.2.2.2.1)) (R d4) (aC (!decide (a0.2.2.2.2.2.2.2.2.1=a1.2.2.2.2.2.2.2.2.1)) (R d4) (aC (!decide (a0.2.2.2.2.2.2.2.2.2.1=a1.2.2.2.2.2.2.2.2.2.1)) (R d4) (aC (!(decide (a0.2.2.2.2.2.2.2.2.2.2.1.1 = a1.2.2.2.2.2.2.2.2.2.2.1.1) && (decide (a0.2.2.2.2.2.2.2.2.2.2.1.2.1 = a1.2.2.2.2.2.2.2.2.2.2.1.2.1) && (decide (a0.2.2.2.2.2.2.2.2.2.2.1.2.2 = a1.2.2.2.2.2.2.2.2.2.2.1.2.2) && true)))) (R d4) (aC (!(decide (a0.2.2.2.2.2.2.2.2.2.2.2.1.1 = a1.2.2.2.2.2.2.2.2.2.2.2.1.1) && (decide (a0.2.2.2.2.2.2.2.2.2.2.2.1.2.1 = a1.2.2.2.2.2.2.2.2.2.2.2.1.2.1) && (decide (a0.2.2.2.2.2.2.2.2.2.2.2.1.2.2 = a1.2.2.2.2.2.2.2.2.2.2.2.1.2.2) && true)) && (decide (a0.2.2.2.2.2.2.2.2.2.2.2.2 = a1.2.2.2.2.2.2.2.2.2.2.2.2) && true))) (R d4) (aJ d6 (KP [T.sl false (BQH a0), T.sl false (BQH a1)]) λ(y0:Bool)=>aC y0 (aC (!decide ((↑(GT a0).length:Int) = (↑(GT a1).length:Int))) (R d4) (bB (Int×PUnit) (λX1 s2=>aC (decide (s2.1 < (↑(GT a0).length : Int))) (aR aA.li (GT a0) s2.1 λ(y3:List aX)=>aR aA.li (GT a1) s2.1 λ(y4:List aX)=>aJ d6 (KP [T.sl false (i6 y3), T.sl false (i6 y4)]) λ(y5:Bool)=>aC (!y5) (R d4) (g9 X1 s2)) (R d7)) (0,()))) (R d4))))))))))))
abbrev F2:Sh:=[(true,aN),(true,aN)]
def rQ:List T->Option T:=gS F2 tK
def U4 {a0 a1}:rQ [aG true aN a0,aG true aN a1]=tK (a0,a1):=bH (s:=F2) rfl (a0,a1) rfl
def AG7:qU Tryz.prog 134 rQ tK (cG F2) EM:=gV (a1:=(true,aN)) (a2:=(true,aN)) (sp:=tK) (F:=EM) (Hs:=AKE) (f:=134) (k:=8) Y0 aY a6 (aO rfl) ⟨_,_,Tryz.func134,rfl⟩ rfl λ_ _ _=>by kernel_rfl
def AEW:aP Tryz.prog 134 rQ:=AG7 λa b r h hb=>by
 cases h;have no:¬ a=b->pPR false=Sh.enc jJ (lX a b):=λh=>by rw[yO h];rfl
 have yes:a=b->pPR true=Sh.enc jJ (lX a b):=λh=>by rw[dW.2 h];rfl
 have hl:a.2.2.2.2.2.2.1.2.length<=2 ^ 47:=hb.1.2.2.2.2.2.2.1.2.1;unfold EM BQH GT i6 g9 d7 d6 d4;have u:=@AVC;simp only[u,JC,vJ];refine gI (λh=>no λe=>by simp[e] at h) λh1=>?_;refine gI (λh=>no λe=>by simp[e] at h) λh2=>?_;refine gI (λh=>no λe=>by simp[e] at h) λh3=>?_;refine gI (λh=>no λe=>by simp[e] at h) λh4=>?_;refine gI (λh=>no λe=>by simp[e] at h) λh5=>?_;refine gI (λh=>no λe=>by simp[e] at h) λh6=>?_;refine gI (λh=>no λe=>by simp[e] at h) λh7=>?_;refine gI (λh=>no λe=>by simp[e] at h) λh8=>?_;refine gI (λh=>no λe=>by simp[e] at h) λh9=>?_;refine gI (λh=>no λe=>by simp[e] at h) λh10=>?_;refine gI (λh=>no λe=>by simp[e] at h) λh11=>?_;refine rV (λh12=>?_) (λh=>no λe=>by simp[e] at h);refine Z3 (r:=.li aA) hl _ (λx y=>dW) (λh13=>yes ?_) (λh=>no λe=>h (by rw[e]));simp only[Bool.and_true,ac,ah,dW] at h1 h2 h3 h4 h5 h6 h7 h8 h9 h10 h11 h12;simp only[Prod.ext_iff];exact ⟨h1,h2,h3,h4,h5,h6,⟨h12,h13⟩,h7,h8,h9,h10,h11⟩
def ACY:Env:=Env.of [(42,.pure mQ),(43,.pure rR)]
def ADP:FuncId->Hint:=b8 15 [(4,.inv [.val 5 false (.int .i64)]),(9,.inv [.val 6 false (.int .i64)]),(14,.inv [.val 7 false (.int .i64)]),(19,.inv [.val 8 false (.int .i64)]),(24,.inv [.val 9 false (.int .i64)])] (λ_=>bA)
def UP:aU Tryz.prog ACY:=.cons M0 (.cons AEX (.nil _))
def yA(a0:aB)(a1:aB)(R:T->Prop):Prop:=aC (!decide (a0.1=a1.1)) (R d4) (aC (!decide ((↑(AC a0).length:Int)=(↑(AC a1).length:Int))) (R d4) (aC (!decide ((↑(FS a0).length:Int) = (↑(FS a1).length:Int))) (R d4) (aC (!decide ((↑(v6 a0).length:Int) = (↑(v6 a1).length:Int))) (R d4) (aC (!decide ((↑(m9 a0).length:Int) = (↑(m9 a1).length:Int))) (R d4) (aC (!decide ((↑(IR a0).length:Int) = (↑(IR a1).length:Int))) (R d4) (bB (Int×PUnit) (λX0 s1=>aC (decide (s1.1<(↑(AC a0).length:Int))) (aR bC (AC a0) s1.1 λ(y2:bR)=>aR bC (AC a1) s1.1 λ(y3:bR)=>aC (!(decide (y2.1=y3.1) && (decide (y2.2.1=y3.2.1)&&(decide (y2.2.2=y3.2.2)&&true)))) (R d4) (g9 X0 s1)) (bB (Int×PUnit) (λX4 s5=>aC (decide (s5.1<(↑(FS a0).length:Int))) (aR aN (FS a0) s5.1 λ(y6:a8)=>aR aN (FS a1) s5.1 λ(y7:a8)=>aJ d6 (mQ [aG true aN y6,aG true aN y7]) λ(y8:Bool)=>aC (!y8) (R d4) (g9 X4 s5)) (bB (Int×PUnit) (λX9 s10=>aC (decide (s10.1<(↑(v6 a0).length:Int))) (aR bD (v6 a0) s10.1 λ(y11:bU)=>aR bD (v6 a1) s10.1 λ(y12:bU)=>aC (!(decide (y11.1=y12.1) && (decide (y11.2.1=y12.2.1) && (decide (y11.2.2.1=y12.2.2.1) && (decide (y11.2.2.2.1=y12.2.2.2.1) && (decide (y11.2.2.2.2.1=y12.2.2.2.2.1) && (decide (y11.2.2.2.2.2=y12.2.2.2.2.2) && true))))))) (R d4) (g9 X9 s10)) (bB (Int×PUnit) (λX13 s14=>aC (decide (s14.1<(↑(m9 a0).length:Int))) (aR aH (m9 a0) s14.1 λ(y15:aQ)=>aR aH (m9 a1) s14.1 λ(y16:aQ)=>aJ d6 (rR [aG true aH y15,aG true aH y16]) λ(y17:Bool)=>aC (!y17) (R d4) (g9 X13 s14)) (bB (Int×PUnit) (λX18 s19=>aC (decide (s19.1 < (↑(IR a0).length:Int))) (aR aZ (IR a0) s19.1 λ(y20:bI)=>aR aZ (IR a1) s19.1 λ(y21:bI)=>aC (!(decide (y20.1=y21.1) && (decide (y20.2.1=y21.2.1) && (decide (y20.2.2=y21.2.2)&&true)))) (R d4) (g9 X18 s19)) (R d7)) (0,()))) (0,()))) (0,()))) (0,()))) (0,())))))))
abbrev AX:Sh:=[(true,aD),(true,aD)]
def fL:List T->Option T:=gS AX qS
def yY {a0 a1}:fL [aG true aD a0,aG true aD a1]=qS (a0,a1):=bH (s:=AX) rfl (a0,a1) rfl
def AA9:qU Tryz.prog 15 fL qS (cG AX) yA:=gV (a1:=(true,aD)) (a2:=(true,aD)) (sp:=qS) (F:=yA) (Hs:=ADP) (f:=15) (k:=8) UP aY a6 (aO rfl) ⟨_,_,Tryz.func15,rfl⟩ rfl λ_ _ _=>by kernel_rfl
def GV:aP Tryz.prog 15 fL:=AA9 λa b r h hb=>by
 cases h;have no:¬ a=b->pPR false=Sh.enc jJ (lX a b):=λh=>by rw[yO h];rfl
 have yes:a=b->pPR true=Sh.enc jJ (lX a b):=λh=>by rw[dW.2 h];rfl
 obtain ⟨⟨_,⟨b1,_⟩,⟨b2,_⟩,⟨b3,_⟩,⟨b4,_⟩,⟨b5,_⟩⟩,_⟩:=hb;unfold yA g9 IR FS AC v6 m9 d7 d6 d4;simp only[D4,kV,U5,pL,vJ];refine gI (λh=>no λe=>by simp[e] at h) λh1=>?_;refine gI (λh=>no λe=>by simp[e] at h) λg1=>?_;refine gI (λh=>no λe=>by simp[e] at h) λg2=>?_;refine gI (λh=>no λe=>by simp[e] at h) λg3=>?_;refine gI (λh=>no λe=>by simp[e] at h) λg4=>?_;refine gI (λh=>no λe=>by simp[e] at h) λg5=>?_;refine uN (r:=bC) (LD g1) b1 _ (λx y=>?_) (λh2=>?_) (λh=>no λe=>h (by rw[e]))
 ·simp only[Bool.and_true,ac,ah,Prod.ext_iff]
 refine uN (r:=aN) (LD g2) b2 _ (λx y=>dW) (λh3=>?_) (λh=>no λe=>h (by rw[e]));refine uN (r:=bD) (LD g3) b3 _ (λx y=>?_) (λh4=>?_) (λh=>no λe=>h (by rw[e]))
 ·simp only[Bool.and_true,ac,ah,Prod.ext_iff]
 refine uN (r:=aH) (LD g4) b4 _ (λx y=>dW) (λh5=>?_) (λh=>no λe=>h (by rw[e]));refine uN (r:=aZ) (LD g5) b5 _ (λx y=>?_) (λh6=>yes ?_) (λh=>no λe=>h (by rw[e]))
 ·simp only[Bool.and_true,ac,ah,Prod.ext_iff]
 exact Prod.ext (by simpa using h1) (Prod.ext h2 (Prod.ext h3 (Prod.ext h4 (Prod.ext h5 h6))))
end Go.Pv
namespace Go.Pv
open Go Go.Proofs IntKind
def sP {r:Sy} (hr:r.pure=true) {l:List r.den} {rows:List (List T)} {K:List r.den->Prop} (e:rows=List.map r.enc l) (h:K l):dP r rows K:=by subst e;rw[dJ hr];exact h
def yM {r:Sy} {l:List r.den} {z b:Nat} (hz:r.w=z) (h:l7 b l.length=true):(((List.map r.enc l).all λq=>decide (q.length=z))&&decide ((List.map r.enc l).length*b<=140737488355328)&&decide ((List.map r.enc l).length<=140737488355328))=true:=by
 unfold l7 at h;rw[ac] at h;rw[ae,h.1,h.2,Bool.and_true,Bool.and_true];subst hz;refine List.all_eq_true.2 λq hq=>?_;obtain ⟨x,_,rfl⟩:=List.mem_map.1 hq;exact ai (Sy.dD r x)
def jU (p:a8):Option T:=match gC p with
 | true=>some (Sh.enc [(true,aN)] p)
 | false=>none
def ARY:Env:=Env.of [(136,.pure lB),(137,.dup 1 24)]
def ASX:FuncId->Hint:=b8 108 [(4,.inv [.val 21 false (.int .i64),.arr 3 1 (.li aA)])] (λ_=>bA)
def AC2:aU Tryz.prog ARY:=.cons RI (aU.cons (x:=.dup 1 24) AUA (.nil _))
def JM(a0:a8)(R:T->Prop):Prop:=aJ f0 (lB [T.sl false (BQH a0)]) λ(y0:List aX)=>bL (((GT a0).all λ(r:List T)=>decide (r.length=1)) && decide ((GT a0).length*24<=140737488355328) && decide ((GT a0).length<=140737488355328)) (dP aA.li (GT a0) λ(y1:List (List aX))=>bB (Int×List (List aX)×PUnit) (λX2 s3=>aC (decide (s3.1<(↑(GT a0).length:Int))) (aR aA.li (ST s3) s3.1 λ(y4:List aX)=>eR aA.li (ST s3) (Int.toNat s3.1) 0 λ(y5:List aX)=>aJ f0 (lB (BP9 y5)) λ(y6:List aX)=>aR aA.li (ST s3) s3.1 λ(y7:List aX)=>IT (ST s3) (Int.toNat s3.1) λ(y8:List T)=>bL (decide (1<=y8.length)) (dP aA.li ((ST s3).set (Int.toNat s3.1) (bZ y8 0 (BP9 y6))) λ(y9:List (List aX))=>X2 (i64.wrap (s3.1+1),y9,()))) (R (T.agg [pPQ a0.1,pPP a0.2.1, pPP a0.2.2.1, pPQ a0.2.2.2.1,pPQ a0.2.2.2.2.1, pPP a0.2.2.2.2.2.1, T.sl false (i6 y0), T.sl false (ST s3), pPQ a0.2.2.2.2.2.2.2.1, pPP a0.2.2.2.2.2.2.2.2.1, pPP a0.2.2.2.2.2.2.2.2.2.1, pPP a0.2.2.2.2.2.2.2.2.2.2.1.1, pPP a0.2.2.2.2.2.2.2.2.2.2.1.2.1, pPP a0.2.2.2.2.2.2.2.2.2.2.1.2.2, pPP a0.2.2.2.2.2.2.2.2.2.2.2.1.1, pPP a0.2.2.2.2.2.2.2.2.2.2.2.1.2.1, pPP a0.2.2.2.2.2.2.2.2.2.2.2.1.2.2, pPP a0.2.2.2.2.2.2.2.2.2.2.2.2]))) (0,y1,()))
abbrev LW:Sh:=[(true,aN)]
def iY:List T->Option T:=gS LW jU
def wJ {a0}:iY [aG true aN a0]=jU (a0):=bH (s:=LW) rfl (a0) rfl
def AM0:xX Tryz.prog 108 iY jU (cG LW) JM:=kC (a1:=(true,aN)) (sp:=jU) (F:=JM) (Hs:=ASX) (f:=108) (k:=8) AC2 aY a6 (aO rfl) ⟨_,_,Tryz.func108,rfl⟩ rfl λ_ _=>by kernel_rfl
def wH:aP Tryz.prog 108 iY:=AM0 λp r h hb=>by
 clear hb;have hp:gC p=true:=by
  unfold jU at h;split at h
  ·assumption
  ·cases h
 have e:Sh.enc [(true,aN)] p=r:=by
  unfold jU at h;rw[hp] at h;exact Option.some.inj h
 subst e;clear h;unfold gC IF at hp;simp only[ac] at hp;obtain ⟨⟨hp1,hp2⟩,hp3⟩:=hp;have hb47:p.2.2.2.2.2.2.1.2.length<=140737488355328:=by
  simp only[l7,ac,ah] at hp2;exact hp2.2
 unfold JM BQH BP9 ST GT i6 f0;refine aF (s:=[(false,aA.li)]) (y:=p.2.2.2.2.2.2.1.1) (by rw[qI,fQ,jT hp1];rfl) ?_;refine ⟨yM (r:=.li aA) rfl hp2,?_⟩;obtain ⟨p1,p2,p3,p4,p5,p6,⟨o,hh⟩,p7⟩:=p;dsimp only at hp1 hp2 hp3 hb47 ⊢;rw[dJ (r:=.li aA) rfl];refine bM hh.length (λk s=>s=((k:Int),hh,())) rfl ?_;rintro X k s hk rfl hX;dsimp only;refine cA (λhlt=>?_) λhge=>rfl;rw[ae] at hlt;have hlt:k<hh.length:=by omega
 have hok:l7 16 hh[k].length=true:=List.all_eq_true.1 hp3 _ (ak hlt);rw[bE (r:=.li aA) hlt,show Int.toNat (k:Int)=k from rfl,jD (r:=.li aA) hlt];refine aF (s:=[(false,aA.li)]) (y:=hh[k]) (by rw[qI,fQ,jT hok];rfl) ?_;rw[bE (r:=.li aA) hlt,qQ (r:=.li aA) hlt];refine ⟨rfl,?_⟩;have e:bZ (Sy.enc (.li aA) hh[k]) 0 [T.sl false (List.map aA.enc hh[k])]=Sy.enc (.li aA) hh[k]:=rfl;rw[e,IZ (r:=.li aA) hlt,dJ (r:=.li aA) rfl];refine hX _ hlt ?_;simp only[Prod.mk.injEq,and_true];exact bG _ (by omega) (by omega)
def kU (p:aQ):Option T:=match fF p with
 | true=>some (Sh.enc [(true,aH)] p)
 | false=>none
def ARX:Env:=Env.of [(243,.pure kM)]
def ASW:FuncId->Hint:=λ_=>bA
def AC1:aU Tryz.prog ARX:=.cons MZ (.nil _)
def JL(a0:aQ)(R:T->Prop):Prop:=aJ eI (kM [T.sl false (BQG a0)]) λ(y0:List iII)=>aJ eI (kM [T.sl false (BQD a0)]) λ(y1:List iII)=>R (T.agg [pPQ a0.1,pPQ a0.2.1, T.sl false (LT y0),pPP a0.2.2.2.1, T.sl false (LT y1)])
abbrev LV:Sh:=[(true,aH)]
def oL:List T->Option T:=gS LV kU
def G5 {a0}:oL [aG true aH a0]=kU (a0):=bH (s:=LV) rfl (a0) rfl
def AMZ:xX Tryz.prog 109 oL kU (cG LV) JL:=kC (a1:=(true,aH)) (sp:=kU) (F:=JL) (Hs:=ASW) (f:=109) (k:=8) AC1 aY a6 (aO rfl) ⟨_,_,Tryz.func109,rfl⟩ rfl λ_ _=>by kernel_rfl
def RJ:aP Tryz.prog 109 oL:=AMZ λp r h hb=>by
 clear hb;have hp:fF p=true:=by
  unfold kU at h;split at h
  ·assumption
  ·cases h
 have e:Sh.enc [(true,aH)] p=r:=by
  unfold kU at h;rw[hp] at h;exact Option.some.inj h
 subst e;clear h;unfold fF at hp;rw[ac] at hp;unfold JL BQG BQD LT eI;refine aF (s:=[(false,.li .str)]) (y:=p.2.2.1) (by rw[oY,fQ,jT hp.1];rfl) ?_;refine aF (s:=[(false,.li .str)]) (y:=p.2.2.2.2) (by rw[oY,fQ,jT hp.2];rfl) ?_;rfl
def YF {α:Type}:∀ (xs pre:List α),bZ (pre++xs) pre.length xs=pre++xs
 | [],pre=>rfl
 | x::xs,pre=>by
  unfold bZ;rw[show (pre++x::xs).set pre.length x=(pre++[x])++xs by simp,show pre.length+1=(pre++[x]).length by simp,YF xs (pre++[x])];simp
variable {α:Type}
def NP (r:List α):bZ r 0 r=r:=YF r []
def wY (d:aB):Bool:=(NJ d&&LJ d)&&((decide (d.2.1.length<=1000)&&decide (d.2.2.1.length<=1000))&&(decide (d.2.2.2.1.length<=1000)&&(decide (d.2.2.2.2.1.length<=1000)&&decide (d.2.2.2.2.2.length<=1000))))
structure OkC (d:aB):Prop where
 NJ:NJ d=true
 LJ:LJ d=true
 n:d.2.1.length<=1000
 p:d.2.2.1.length<=1000
 s:d.2.2.2.1.length<=1000
 k:d.2.2.2.2.1.length<=1000
 r:d.2.2.2.2.2.length<=1000
def eN {d:aB} (h:wY d=true):OkC d:=by
 simp only[wY,ac,ah] at h;exact ⟨h.1.1,h.1.2,h.2.1.1,h.2.1.2,h.2.2.1,h.2.2.2.1,h.2.2.2.2⟩
def dU {b n:Nat} (hn:n<=1000) (hb:b<=1000):l7 b n=true:=by
 have:=Nat.mul_le_mul hn hb;unfold l7;rw[ai (by omega),ai (by omega)];rfl
def tH (d:aB):Option T:=match wY d with
 | true=>some (Sh.enc [(true,aD)] d)
 | false=>none
def AIJ:Env:=Env.of [(103,.dup 3 40),(104,.dup 6 72),(105,.dup 3 40),(106,.dup 18 208),(107,.dup 5 88),(108,.pure iY),(109,.pure oL)]
def AKB:FuncId->Hint:=b8 69 [(4,.inv [.val 28 false (.int .i64),.arr 30 18 aN]),(9,.inv [.val 45 false (.int .i64),.arr 31 5 aH])] (λ_=>bA)
def AC0:aU Tryz.prog AIJ:=aU.cons (x:=.dup 3 40) E2 (aU.cons (x:=.dup 6 72) E4 (aU.cons (x:=.dup 3 40) E1 (aU.cons (x:=.dup 18 208) E3 (aU.cons (x:=.dup 5 88) oX (.cons wH (.cons RJ (.nil _)))))))
def PC (a0:aB) (R:T->Prop):Prop :=
 bL
 (((List.map bC.enc a0.2.1).all λ(r:List T)=>decide (r.length=3)) &&
 decide ((List.map bC.enc a0.2.1).length*40<=140737488355328) &&
 decide ((List.map bC.enc a0.2.1).length<=140737488355328))
 (bL
 (((List.map bD.enc a0.2.2.2.1).all λ(r:List T)=>decide (r.length=6)) &&
 decide ((List.map bD.enc a0.2.2.2.1).length*72<=140737488355328) &&
 decide ((List.map bD.enc a0.2.2.2.1).length<=140737488355328))
 (bL
 (((List.map aZ.enc a0.2.2.2.2.2).all λ(r:List T)=>decide (r.length=3)) &&
 decide ((List.map aZ.enc a0.2.2.2.2.2).length*40<=140737488355328) &&
 decide ((List.map aZ.enc a0.2.2.2.2.2).length<=140737488355328))
 (bL
 (((List.map aN.enc a0.2.2.1).all λ(r:List T)=>decide (r.length=18)) &&
 decide ((List.map aN.enc a0.2.2.1).length*208<=140737488355328) &&
 decide ((List.map aN.enc a0.2.2.1).length<=140737488355328))
 (bL
 (((List.map aH.enc a0.2.2.2.2.1).all λ(r:List T)=>decide (r.length=5)) &&
 decide ((List.map aH.enc a0.2.2.2.2.1).length*88<=140737488355328) &&
 decide ((List.map aH.enc a0.2.2.2.2.1).length<=140737488355328))
 (dP aN (List.map aN.enc a0.2.2.1) λ(y0:List a8) =>
 bB (Int×List a8×PUnit)
 (λ(X1:Int×List a8×PUnit->Prop) (s2:Int×List a8×PUnit) =>
 aC (decide (s2.1<(↑(List.map aN.enc a0.2.2.1).length:Int)))
 (aR aN (List.map aN.enc s2.2.1) s2.1 λ(y3:a8) =>
 eR aN (List.map aN.enc s2.2.1) (Int.toNat s2.1) 0
 λ(y4:a8) =>
 aJ [(true,aN)] (iY [aG true aN y4])
 λ(y5:a8) =>
 aR aN (List.map aN.enc s2.2.1) s2.1 λ(y6:a8) =>
 IT (List.map aN.enc s2.2.1) (Int.toNat s2.1) λ(y7:List T) =>
 bL (decide (18<=y7.length))
 (dP aN
 ((List.map aN.enc s2.2.1).set (Int.toNat s2.1)
 (bZ y7 0
 [pPQ y5.1,
 pPP y5.2.1,
 pPP y5.2.2.1,
 pPQ y5.2.2.2.1,
 pPQ y5.2.2.2.2.1,
 pPP y5.2.2.2.2.2.1,
 T.sl false (List.map aA.enc y5.2.2.2.2.2.2.1.1),
 T.sl false
 (List.map aA.li.enc y5.2.2.2.2.2.2.1.2),
 pPQ y5.2.2.2.2.2.2.2.1,
 pPP y5.2.2.2.2.2.2.2.2.1,
 pPP y5.2.2.2.2.2.2.2.2.2.1,
 pPP y5.2.2.2.2.2.2.2.2.2.2.1.1,
 pPP y5.2.2.2.2.2.2.2.2.2.2.1.2.1,
 pPP y5.2.2.2.2.2.2.2.2.2.2.1.2.2,
 pPP y5.2.2.2.2.2.2.2.2.2.2.2.1.1,
 pPP y5.2.2.2.2.2.2.2.2.2.2.2.1.2.1,
 pPP y5.2.2.2.2.2.2.2.2.2.2.2.1.2.2,
 pPP y5.2.2.2.2.2.2.2.2.2.2.2.2]))
 λ(y8:List a8)=>X1 (i64.wrap (s2.1+1),y8,())))
 (dP aH (List.map aH.enc a0.2.2.2.2.1)
 λ(y9:List aQ) =>
 bB (Int×List aQ×PUnit)
 (λ(X10:Int×List aQ×PUnit->Prop) (s11:Int×List aQ×PUnit) =>
 aC
 (decide (s11.1<(↑(List.map aH.enc a0.2.2.2.2.1).length:Int)))
 (aR aH (List.map aH.enc s11.2.1) s11.1
 λ(y12:aQ) =>
 eR aH (List.map aH.enc s11.2.1) (Int.toNat s11.1) 0
 λ(y13:aQ) =>
 aJ [(true,aH)]
 (oL [aG true aH y13]) λ(y14:aQ) =>
 aR aH (List.map aH.enc s11.2.1) s11.1
 λ(y15:aQ) =>
 IT (List.map aH.enc s11.2.1) (Int.toNat s11.1)
 λ(y16:List T) =>
 bL (decide (5<=y16.length))
 (dP aH
 ((List.map aH.enc s11.2.1).set (Int.toNat s11.1)
 (bZ y16 0
 [pPQ y14.1,
 pPQ y14.2.1,
 T.sl false (List.map Sy.str.enc y14.2.2.1),
 pPP y14.2.2.2.1,
 T.sl false (List.map Sy.str.enc y14.2.2.2.2)]))
 λ(y17:List aQ) =>
 X10 (i64.wrap (s11.1+1),y17,())))
 (R
 (T.agg
 [pPQ a0.1,
 T.sl false (List.map bC.enc a0.2.1),
 T.sl false (List.map aN.enc s2.2.1),
 T.sl false (List.map bD.enc a0.2.2.2.1),
 T.sl false (List.map aH.enc s11.2.1),
 T.sl false (List.map aZ.enc a0.2.2.2.2.2)])))
 (0,y9,())))
 (0,y0,()))))))
abbrev TC:Sh:=[(true,aD)]
def fY:List T->Option T:=gS TC tH
def iL {a0}:fY [aG true aD a0]=tH (a0):=bH (s:=TC) rfl (a0) rfl
def BEQ:xX Tryz.prog 69 fY tH (cG TC) PC:=kC (a1:=(true,aD)) (sp:=tH) (F:=PC) (Hs:=AKB) (f:=69) (k:=8) AC0 aY a6 (aO rfl) ⟨_,_,Tryz.func69,rfl⟩ rfl λ_ _=>by kernel_rfl
def A25 {d:aB} (hp:wY d=true):PC d (λy=>y=Sh.enc [(true,aD)] d):=by
 have c:=eN hp;unfold PC;refine ⟨yM (r:=bC) rfl (dU c.n (by decide)),⟨yM (r:=bD) rfl (dU c.s (by decide)),⟨yM (r:=aZ) rfl (dU c.r (by decide)),⟨yM (r:=aN) rfl (dU c.p (by decide)),⟨yM (r:=aH) rfl (dU c.k (by decide)),?_⟩⟩⟩⟩⟩;rw[dJ (r:=aN) rfl];have hpn:=c.p;have hkn:=c.k;refine bM d.2.2.1.length (λk s=>s=((k:Int),d.2.2.1,())) rfl ?_;rintro X k s hk rfl hX;dsimp only;refine cA (λhlt=>?_) λhge=>?_
 ·rw[ae] at hlt;have hlt:k<d.2.2.1.length:=by omega
  have hok:gC d.2.2.1[k]=true:=List.all_eq_true.1 c.NJ _ (ak hlt);rw[bE (r:=aN) hlt,show Int.toNat (k:Int)=k from rfl,jD (r:=aN) hlt];refine aF (s:=[(true,aN)]) (y:=d.2.2.1[k]) ((wJ ..).trans (by unfold jU;rw[hok])) ?_;rw[bE (r:=aN) hlt,qQ (r:=aN) hlt];refine ⟨by rw[Sy.dD];rfl,?_⟩;have h1:(List.map aN.enc d.2.2.1).set k (bZ (Sy.enc aN d.2.2.1[k]) 0 (Sy.enc aN d.2.2.1[k]))=List.map aN.enc d.2.2.1:=by rw[NP];exact IZ (r:=aN) hlt
  refine (sP (r:=aN) rfl h1 ?_);refine hX _ hlt ?_;simp only[Prod.mk.injEq,and_true];exact bG _ (by omega) (by omega)
 ·rw[dJ (r:=aH) rfl];refine bM d.2.2.2.2.1.length (λk s=>s=((k:Int),d.2.2.2.2.1,())) rfl ?_;rintro Y j s hj rfl hY;dsimp only;refine cA (λhlt=>?_) λhge=>rfl;rw[ae] at hlt;have hlt:j<d.2.2.2.2.1.length:=by omega
  have hok:fF d.2.2.2.2.1[j]=true:=List.all_eq_true.1 c.LJ _ (ak hlt);rw[bE (r:=aH) hlt,show Int.toNat (j:Int)=j from rfl,jD (r:=aH) hlt];refine aF (s:=[(true,aH)]) (y:=d.2.2.2.2.1[j]) ((G5 ..).trans (by unfold kU;rw[hok])) ?_;rw[bE (r:=aH) hlt,qQ (r:=aH) hlt];refine ⟨by rw[Sy.dD];rfl,?_⟩;have h1:(List.map aH.enc d.2.2.2.2.1).set j (bZ (Sy.enc aH d.2.2.2.2.1[j]) 0 (Sy.enc aH d.2.2.2.2.1[j]))=List.map aH.enc d.2.2.2.2.1:=by rw[NP];exact IZ (r:=aH) hlt
  refine (sP (r:=aH) rfl h1 ?_);refine hY _ hlt ?_;simp only[Prod.mk.injEq,and_true];exact bG _ (by omega) (by omega)
def oW:aP Tryz.prog 69 fY:=BEQ λd r h hb=>by
 clear hb;have hp:wY d=true:=by
  unfold tH at h;split at h
  ·assumption
  ·cases h
 have e:Sh.enc [(true,aD)] d=r:=by
  unfold tH at h;rw[hp] at h;exact Option.some.inj h
 subst e;exact A25 hp
def JB (x:aV×aV):Option T:=some (Sh.enc jJ (lX x.1 x.2))
def A98:Env:=Env.of [(134,.pure rQ)]
def BBR:FuncId->Hint:=b8 135 [(4,.inv [.val 13 false (.int .i64)])] (λ_=>bA)
def ASK:aU Tryz.prog A98:=.cons AEW (.nil _)
def AIG(a0:aV):List (List T):=List.map Sy.str.enc a0.2.2.2.2.2.2.1.2.2.2.2
def BP1(a0:aV):List (List T):=List.map Sy.str.enc a0.2.2.2.2.2.2.1.2.2.1
def ZF(a0:aV)(a1:aV)(R:T->Prop):Prop:=aC (decide (a0.1=a1.1)) (aC (decide (a0.2.1=a1.2.1)) (aC (decide (a0.2.2.1=a1.2.2.1)) (aC (decide (a0.2.2.2.1.1=a1.2.2.2.1.1) && (decide (a0.2.2.2.1.2.1=a1.2.2.2.1.2.1) && (decide (a0.2.2.2.1.2.2=a1.2.2.2.1.2.2)&&true))) (aJ d6 (rQ [aG true aN a0.2.2.2.2.1,aG true aN a1.2.2.2.2.1]) λ(y0:Bool)=>aC y0 (aC (decide (a0.2.2.2.2.2.1.1=a1.2.2.2.2.2.1.1) && (decide (a0.2.2.2.2.2.1.2.1=a1.2.2.2.2.2.1.2.1) && (decide (a0.2.2.2.2.2.1.2.2.1=a1.2.2.2.2.2.1.2.2.1) && (decide (a0.2.2.2.2.2.1.2.2.2.1=a1.2.2.2.2.2.1.2.2.2.1) && (decide (a0.2.2.2.2.2.1.2.2.2.2.1 = a1.2.2.2.2.2.1.2.2.2.2.1) && (decide (a0.2.2.2.2.2.1.2.2.2.2.2 = a1.2.2.2.2.2.1.2.2.2.2.2) && true)))))) (aC (decide (a0.2.2.2.2.2.2.2.1=a1.2.2.2.2.2.2.2.1) && (decide (a0.2.2.2.2.2.2.2.2.1=a1.2.2.2.2.2.2.2.2.1) && (decide (a0.2.2.2.2.2.2.2.2.2=a1.2.2.2.2.2.2.2.2.2)&&true))) (aC (decide (a0.2.2.2.2.2.2.1.1=a1.2.2.2.2.2.2.1.1)) (aC (decide (a0.2.2.2.2.2.2.1.2.1=a1.2.2.2.2.2.2.1.2.1)) (aC (decide (a0.2.2.2.2.2.2.1.2.2.2.1 = a1.2.2.2.2.2.2.1.2.2.2.1)) (aC (!decide ((↑(BP1 a0).length:Int) = (↑(BP1 a1).length:Int))) (R d4) (bB (Int×PUnit) (λX1 s2=>aC (decide (s2.1 < (↑(BP1 a0).length : Int))) (aR Sy.str (BP1 a0) s2.1 λ(y3:iII)=>aR Sy.str (BP1 a1) s2.1 λ(y4:iII)=>aC (!decide (y3=y4)) (R d4) (g9 X1 s2)) (aC (!decide ((↑(AIG a0).length : Int) = (↑(AIG a1).length : Int))) (R d4) (bB (Int×PUnit) (λX5 s6=>aC (decide (s6.1 < (↑(AIG a0).length : Int))) (aR Sy.str (AIG a0) s6.1 λ(y7:iII)=>aR Sy.str (AIG a1) s6.1 λ(y8:iII)=>aC (!decide (y7=y8)) (R d4) (g9 X5 s6)) (R d7)) (0,())))) (0,()))) (R d4)) (R d4)) (R d4)) (R d4)) (R d4)) (R d4)) (R d4)) (R d4)) (R d4)) (R d4)
abbrev ABW:Sh:=[(true,aM),(true,aM)]
def cL:List T->Option T:=gS ABW JB
def fZ {a0 a1}:cL [aG true aM a0,aG true aM a1]=JB (a0,a1):=bH (s:=ABW) rfl (a0,a1) rfl
def A7J:qU Tryz.prog 93 cL JB (cG ABW) ZF:=gV (a1:=(true,aM)) (a2:=(true,aM)) (sp:=JB) (F:=ZF) (Hs:=BBR) (f:=93) (k:=8) ASK aY a6 (aO rfl) ⟨_,_,Tryz.func93,rfl⟩ rfl λ_ _ _=>by kernel_rfl
def jZ:aP Tryz.prog 93 cL:=A7J λa b r h hb=>by
 cases h;have no:¬ a=b->pPR false=Sh.enc jJ (lX a b):=λh=>by rw[yO h];rfl
 have yes:a=b->pPR true=Sh.enc jJ (lX a b):=λh=>by rw[dW.2 h];rfl
 have hl1:a.2.2.2.2.2.2.1.2.2.1.length<=2 ^ 47:=hb.1.2.2.2.2.2.2.1.2.2.1.1;have hl2:a.2.2.2.2.2.2.1.2.2.2.2.length<=2 ^ 47:=hb.1.2.2.2.2.2.2.1.2.2.2.2.1;clear hb;unfold ZF BP1 AIG g9 d7 d6 d4;refine rV (λh1=>?_) (λh=>no λe=>by simp[e] at h);refine rV (λh2=>?_) (λh=>no λe=>by simp[e] at h);refine rV (λh3=>?_) (λh=>no λe=>by simp[e] at h);refine rV (λh4=>?_) (λh=>no λe=>by simp[e] at h);refine aF (s:=jJ) (y:=lX (a.2.2.2.2.1) (b.2.2.2.2.1)) (U4 ..) ?_;refine rV (λh5=>?_) (λh=>no λe=>by simp[e] at h);refine rV (λh6=>?_) (λh=>no λe=>by simp[e] at h);refine rV (λh7=>?_) (λh=>no λe=>by simp[e] at h);refine rV (λh8=>?_) (λh=>no λe=>by simp[e] at h);refine rV (λh9=>?_) (λh=>no λe=>by simp[e] at h);refine rV (λh10=>?_) (λh=>no λe=>by simp[e] at h);refine Z3 (r:=.str) hl1 (λy z=>decide (y=z)) (λx y=>decide_eq_true_iff) (λh11=>?_) (λh=>no λe=>h (by rw[e]));refine Z3 (r:=.str) hl2 (λy z=>decide (y=z)) (λx y=>decide_eq_true_iff) (λh12=>yes ?_) (λh=>no λe=>h (by rw[e]));simp only[Bool.and_true,ac,ah,dW] at h1 h2 h3 h4 h5 h6 h7 h8 h9 h10;simp only[Prod.ext_iff];exact ⟨h1,h2,h3,h4,by simpa only [Prod.ext_iff] using h5,h6,⟨h8,h9,h11,h10,h12⟩,h7⟩
end Go.Pv
namespace Go.Pv
open Go Go.Proofs IntKind
def AA5 (l:List iII) (x:iII):Bool:=l.any λy=>decide (y=x)
def IC {l:List iII} {x:iII}:AA5 l x=true↔x∈l:=by
 simp only[AA5,List.any_eq_true,ah];exact ⟨λ⟨y,h,e⟩=>e ▸ h,λh=>⟨x,h,rfl⟩⟩
def Sy.tl:Sy->Sy
 | .pr _ b=>b
 | x=>x
def KY:List iII->Nat->List (iII×Int)->List (iII×Int)
 | [],_,es=>es
 | a::l,i,es=>KY l (i+1) (match fS es a with
  | none=>oF es a (i:Int)
  | some _=>es)
def jK (l:List iII):List (iII×Int):=KY l 0 []
variable {α:Type}
def ids (l:List (iII×α)):List iII:=l.map λx=>x.1
variable {β:Type}
def rY (l:List α) (r:β):Option β:=match decide (l.length<=140737488355328) with
 | true=>some r
 | false=>none
def kP {l:List α} {t r:β} (h:rY l t=some r):l.length<=140737488355328/\r=t:=by
 unfold rY at h;split at h
 ·rename_i hc;cases h;exact ⟨of_decide_eq_true hc,rfl⟩
 ·cases h
def kQ {l:List α} (t:β) (h:l.length<=140737488355328):rY l t=some t:=by unfold rY;rw[ai h]
def BCL (es:List (iII×Int)):List.map (λ(e:Value×D)=>(e.1,ACP e.2)) (List.map (b6 Sy.str false (Sy.int IntKind.i64)) es)=bS es:=by
 rw[List.map_map];rfl
def OD {r:Sy} {l:List (iII×r.den)} (hl:l.length<=140737488355328) :
 cV Sy.str false (Sy.int IntKind.i64) [] λ(y0:List (iII×Int)) =>
 bB (List (iII×Int)×Int×PUnit)
  (λ(X1:List (iII×Int)×Int×PUnit->Prop) (s2:List (iII×Int)×Int×PUnit) =>
   aC (decide (s2.2.1<(↑l.length:Int)))
    (aR (.pr .str r) (List.map (Sy.pr .str r).enc l) s2.2.1 λ(y3:iII×r.den) =>
     iF TypeDesc.string (Value.string y3.1)
      (List.map (b6 Sy.str false (Sy.int IntKind.i64)) s2.1) false
      (Sy.int IntKind.i64)
      (aR (.pr .str r) (List.map (Sy.pr .str r).enc l) s2.2.1 λ(y7:iII×r.den) =>
       eT (Option (Nat×D))
        (findD TypeDesc.string (Value.string y7.1)
         (List.map (b6 Sy.str false (Sy.int IntKind.i64)) s2.1) 0)
        λ(y8:Option (Nat×D)) =>
        cV Sy.str false (Sy.int IntKind.i64)
         (eP (List.map (b6 Sy.str false (Sy.int IntKind.i64)) s2.1) y8
          (Value.string y7.1) (D.p (pPP s2.2.1)))
         λ(y9:List (iII×Int))=>X1 (y9,i64.wrap (s2.2.1+1),()))
      λ(i4:Nat) (y5:Int) =>
      cV Sy.str false (Sy.int IntKind.i64)
       (List.map (b6 Sy.str false (Sy.int IntKind.i64)) s2.1)
       λ(y6:List (iII×Int))=>X1 (y6,i64.wrap (s2.2.1+1),()))
    (bL
     ((List.map (b6 Sy.str false (Sy.int IntKind.i64)) s2.1).all
      λ(e:Value×D)=>AVM e.2)
     ((λy=>y=T.mp (bS (jK (ids l))))
      (T.mp
       (List.map (λ(e:Value×D)=>(e.1,ACP e.2))
        (List.map (b6 Sy.str false (Sy.int IntKind.i64)) s2.1))))))
  (y0,0,()):=by
 refine kJ (r:=.int .i64) rfl [] _ ?_;refine bM l.length (λk s=>∃ es,s=(es,(k:Int),())/\KY (ids (l.drop k)) k es=jK (ids l)) ⟨[],rfl,rfl⟩ ?_;rintro X k s hk ⟨es,rfl,hes⟩ hX;dsimp only;have hw:i64.wrap ((k:Int)+1)=((k+1:Nat):Int):=bG _ (by omega) (by omega);by_cases hlt:k<l.length
 ·refine fA (by omega) ?_;rw[bE (r:=.pr .str r) hlt];have hd:ids (l.drop k)=l[k].1::ids (l.drop (k+1)):=by rw[List.drop_eq_getElem_cons hlt];rfl
  rw[hd] at hes;simp only[KY] at hes;refine wE (r:=.int .i64) (λhno=>?_) (λi v hv=>?_)
  ·rw[hno] at hes;rw[bE (r:=.pr .str r) hlt];exact APX (r:=.int .i64) rfl (v:=(k:Int)) (hX _ hlt ⟨_,by rw[hw],hes⟩)
  ·rw[hv] at hes;exact kJ (r:=.int .i64) rfl es _ (hX _ hlt ⟨_,by rw[hw],hes⟩)
 ·have:k=l.length:=by omega
  subst this;refine iE (by omega) ?_;rw[List.drop_length] at hes;refine ⟨?_,?_⟩
  ·rw[List.all_eq_true];intro e he;obtain ⟨x,_,rfl⟩:=List.mem_map.1 he;rfl
  ·show T.mp _=_;rw[BCL];rw[<-hes];rfl
def uC (a0:aB):List T:=[pPP (a0.2.1.length:Int),T.fn 119 [] [T.ref [T.ref (aD.enc a0)]]]
def AYB:Env:=Env.of []
def BFX:FuncId->Hint:=b8 118 [(3,.inv [.map 0 .str false (.int .i64),.val 12 false (.int .i64)])] (λ_=>bA)
def BAW:aU Tryz.prog AYB:=.nil _
def bF:Sy:=Sy.int IntKind.i64
def m8(s2:List aE×Int×PUnit)(R:T->Prop):Prop:=bL ((List.map (b6 Sy.str false bF) s2.1).all λ(e:Value×D)=>AVM e.2) (R (T.mp (List.map (λ(e:Value×D)=>(e.1,ACP e.2)) (List.map (b6 Sy.str false bF) s2.1))))
def M2(s2:List aE×Int×PUnit)(X1:List aE×Int×PUnit->Prop):Prop:=cV Sy.str false bF (List.map (b6 Sy.str false bF) s2.1) λ(y6:List aE)=>X1 (y6,i64.wrap (s2.2.1+1),())
def A0M(a0:aB)(R:T->Prop):Prop:=cV Sy.str false bF [] λ(y0:List aE)=>bB (List aE×Int×PUnit) (λX1 s2=>aC (decide (s2.2.1<(↑a0.2.1.length:Int))) (aR bC (AC a0) s2.2.1 λ(y3:bR)=>iF TypeDesc.string (Value.string y3.1) (List.map (b6 Sy.str false bF) s2.1) false bF (aR bC (AC a0) s2.2.1 λ(y7:bR)=>eT (Option (Nat×D)) (findD TypeDesc.string (Value.string y7.1) (List.map (b6 Sy.str false bF) s2.1) 0) λ(y8:Option (Nat×D))=>cV Sy.str false bF (eP (List.map (b6 Sy.str false bF) s2.1) y8 (Value.string y7.1) (D.p (pPP s2.2.1))) λ(y9:List aE)=>X1 (y9,i64.wrap (s2.2.1+1),())) λ(i4:Nat) (y5:Int)=>M2 s2 X1) (m8 s2 R)) (y0,0,())
def A0N ( a0 R):xK cD Tryz.prog AYB BFX 8 118 (uC a0) R=A0M a0 R:=by kernel_rfl
def AOG (d:aB):Option (List (iII×Int)):=rY d.2.1 (jK (ids d.2.1))
def ARM (d d':aB) (h:uC d=uC d'):d=d':=by
 unfold uC at h;simp only[List.cons.injEq,T.fn.injEq,T.ref.injEq,and_true,true_and] at h;exact Sy.dV aD _ _ h.2
def AE6:List T->Option (List (iII×Int)):=gA (λ(x:aB)=>uC x) AOG
def A48 (a0:aB):AE6 (uC a0)=AOG a0:=gG (A:=(λ(x:aB)=>uC x)) ARM a0
def BKL (h:∀ (a0:aB) (r:List (iII×Int)),AOG a0=some r->(∀ t∈uC a0,Bd t)->A0M a0 (λy=>y = .mp (bS r))):lK Tryz.prog 118 (tV AE6) :=
 GU (E:=AYB) (Hs:=BFX) BAW aY a6 (aO rfl) 8 ⟨_,_,Tryz.func118,rfl⟩ λx r h1 h2=>by
  rw[A0N];exact h x r h1 h2
def BIJ:lK Tryz.prog 118 (tV AE6):=BKL λd r h hb=>by
 obtain ⟨hl,rfl⟩:=kP h;unfold A0M M2 m8 AC bF;exact OD (r:=bC.tl) (l:=d.2.1) hl
def uD (a0:aB):List T:=[pPP (a0.2.2.1.length:Int),T.fn 120 [] [T.ref [T.ref (aD.enc a0)]]]
def AYC:Env:=Env.of []
def BFY:FuncId->Hint:=b8 118 [(3,.inv [.map 0 .str false (.int .i64),.val 12 false (.int .i64)])] (λ_=>bA)
def BAX:aU Tryz.prog AYC:=.nil _
def A0O(a0:aB)(R:T->Prop):Prop:=cV Sy.str false bF [] λ(y0:List aE)=>bB (List aE×Int×PUnit) (λX1 s2=>aC (decide (s2.2.1<(↑a0.2.2.1.length:Int))) (aR aN (FS a0) s2.2.1 λ(y3:a8)=>iF TypeDesc.string (Value.string y3.1) (List.map (b6 Sy.str false bF) s2.1) false bF (aR aN (FS a0) s2.2.1 λ(y7:a8)=>eT (Option (Nat×D)) (findD TypeDesc.string (Value.string y7.1) (List.map (b6 Sy.str false bF) s2.1) 0) λ(y8:Option (Nat×D))=>cV Sy.str false bF (eP (List.map (b6 Sy.str false bF) s2.1) y8 (Value.string y7.1) (D.p (pPP s2.2.1))) λ(y9:List aE)=>X1 (y9,i64.wrap (s2.2.1+1),())) λ(i4:Nat) (y5:Int)=>M2 s2 X1) (m8 s2 R)) (y0,0,())
def A0P ( a0 R):xK cD Tryz.prog AYC BFY 8 118 (uD a0) R=A0O a0 R:=by kernel_rfl
def AOH (d:aB):Option (List (iII×Int)):=rY d.2.2.1 (jK (ids d.2.2.1))
def ARN (d d':aB) (h:uD d=uD d'):d=d':=by
 unfold uD at h;simp only[List.cons.injEq,T.fn.injEq,T.ref.injEq,and_true,true_and] at h;exact Sy.dV aD _ _ h.2
def AE7:List T->Option (List (iII×Int)):=gA (λ(x:aB)=>uD x) AOH
def A49 (a0:aB):AE7 (uD a0)=AOH a0:=gG (A:=(λ(x:aB)=>uD x)) ARN a0
def BKM (h:∀ (a0:aB) (r:List (iII×Int)),AOH a0=some r->(∀ t∈uD a0,Bd t)->A0O a0 (λy=>y = .mp (bS r))):lK Tryz.prog 118 (tV AE7) :=
 GU (E:=AYC) (Hs:=BFY) BAX aY a6 (aO rfl) 8 ⟨_,_,Tryz.func118,rfl⟩ λx r h1 h2=>by
  rw[A0P];exact h x r h1 h2
def BIK:lK Tryz.prog 118 (tV AE7):=BKM λd r h hb=>by
 obtain ⟨hl,rfl⟩:=kP h;unfold A0O M2 m8 FS bF;exact OD (r:=aN.tl) (l:=d.2.2.1) hl
def uE (a0:aB):List T:=[pPP (a0.2.2.2.1.length:Int),T.fn 121 [] [T.ref [T.ref (aD.enc a0)]]]
def AYD:Env:=Env.of []
def BFZ:FuncId->Hint:=b8 118 [(3,.inv [.map 0 .str false (.int .i64),.val 12 false (.int .i64)])] (λ_=>bA)
def BAY:aU Tryz.prog AYD:=.nil _
def A0Q(a0:aB)(R:T->Prop):Prop:=cV Sy.str false bF [] λ(y0:List aE)=>bB (List aE×Int×PUnit) (λX1 s2=>aC (decide (s2.2.1<(↑a0.2.2.2.1.length:Int))) (aR bD (v6 a0) s2.2.1 λ(y3:bU)=>iF TypeDesc.string (Value.string y3.1) (List.map (b6 Sy.str false bF) s2.1) false bF (aR bD (v6 a0) s2.2.1 λ(y7:bU)=>eT (Option (Nat×D)) (findD TypeDesc.string (Value.string y7.1) (List.map (b6 Sy.str false bF) s2.1) 0) λ(y8:Option (Nat×D))=>cV Sy.str false bF (eP (List.map (b6 Sy.str false bF) s2.1) y8 (Value.string y7.1) (D.p (pPP s2.2.1))) λ(y9:List aE)=>X1 (y9,i64.wrap (s2.2.1+1),())) λ(i4:Nat) (y5:Int)=>M2 s2 X1) (m8 s2 R)) (y0,0,())
def A0R ( a0 R):xK cD Tryz.prog AYD BFZ 8 118 (uE a0) R=A0Q a0 R:=by kernel_rfl
def AOI (d:aB):Option (List (iII×Int)):=rY d.2.2.2.1 (jK (ids d.2.2.2.1))
def ARO (d d':aB) (h:uE d=uE d'):d=d':=by
 unfold uE at h;simp only[List.cons.injEq,T.fn.injEq,T.ref.injEq,and_true,true_and] at h;exact Sy.dV aD _ _ h.2
def AE8:List T->Option (List (iII×Int)):=gA (λ(x:aB)=>uE x) AOI
def A5A (a0:aB):AE8 (uE a0)=AOI a0:=gG (A:=(λ(x:aB)=>uE x)) ARO a0
def BKN (h:∀ (a0:aB) (r:List (iII×Int)),AOI a0=some r->(∀ t∈uE a0,Bd t)->A0Q a0 (λy=>y = .mp (bS r))):lK Tryz.prog 118 (tV AE8) :=
 GU (E:=AYD) (Hs:=BFZ) BAY aY a6 (aO rfl) 8 ⟨_,_,Tryz.func118,rfl⟩ λx r h1 h2=>by
  rw[A0R];exact h x r h1 h2
def BIL:lK Tryz.prog 118 (tV AE8):=BKN λd r h hb=>by
 obtain ⟨hl,rfl⟩:=kP h;unfold A0Q M2 m8 v6 bF;exact OD (r:=bD.tl) (l:=d.2.2.2.1) hl
def uF (a0:aB):List T:=[pPP (a0.2.2.2.2.1.length:Int),T.fn 122 [] [T.ref [T.ref (aD.enc a0)]]]
def AYE:Env:=Env.of []
def BF0:FuncId->Hint:=b8 118 [(3,.inv [.map 0 .str false (.int .i64),.val 12 false (.int .i64)])] (λ_=>bA)
def BAZ:aU Tryz.prog AYE:=.nil _
def A0S(a0:aB)(R:T->Prop):Prop:=cV Sy.str false bF [] λ(y0:List aE)=>bB (List aE×Int×PUnit) (λX1 s2=>aC (decide (s2.2.1<(↑a0.2.2.2.2.1.length:Int))) (aR aH (m9 a0) s2.2.1 λ(y3:aQ)=>iF TypeDesc.string (Value.string y3.1) (List.map (b6 Sy.str false bF) s2.1) false bF (aR aH (m9 a0) s2.2.1 λ(y7:aQ)=>eT (Option (Nat×D)) (findD TypeDesc.string (Value.string y7.1) (List.map (b6 Sy.str false bF) s2.1) 0) λ(y8:Option (Nat×D))=>cV Sy.str false bF (eP (List.map (b6 Sy.str false bF) s2.1) y8 (Value.string y7.1) (D.p (pPP s2.2.1))) λ(y9:List aE)=>X1 (y9,i64.wrap (s2.2.1+1),())) λ(i4:Nat) (y5:Int)=>M2 s2 X1) (m8 s2 R)) (y0,0,())
def A0T ( a0 R):xK cD Tryz.prog AYE BF0 8 118 (uF a0) R=A0S a0 R:=by kernel_rfl
def AOJ (d:aB):Option (List (iII×Int)):=rY d.2.2.2.2.1 (jK (ids d.2.2.2.2.1))
def ARP (d d':aB) (h:uF d=uF d'):d=d':=by
 unfold uF at h;simp only[List.cons.injEq,T.fn.injEq,T.ref.injEq,and_true,true_and] at h;exact Sy.dV aD _ _ h.2
def AE9:List T->Option (List (iII×Int)):=gA (λ(x:aB)=>uF x) AOJ
def A5B (a0:aB):AE9 (uF a0)=AOJ a0:=gG (A:=(λ(x:aB)=>uF x)) ARP a0
def BKO (h:∀ (a0:aB) (r:List (iII×Int)),AOJ a0=some r->(∀ t∈uF a0,Bd t)->A0S a0 (λy=>y = .mp (bS r))):lK Tryz.prog 118 (tV AE9) :=
 GU (E:=AYE) (Hs:=BF0) BAZ aY a6 (aO rfl) 8 ⟨_,_,Tryz.func118,rfl⟩ λx r h1 h2=>by
  rw[A0T];exact h x r h1 h2
def BIM:lK Tryz.prog 118 (tV AE9):=BKO λd r h hb=>by
 obtain ⟨hl,rfl⟩:=kP h;unfold A0S M2 m8 m9 bF;exact OD (r:=aH.tl) (l:=d.2.2.2.2.1) hl
end Go.Pv
namespace Go.Pv
open Go Go.Proofs IntKind
variable {α:Type}
def orG (g1 g2:List T->Option α) (a:List T):Option α:=match g1 a with
 | some r=>some r
 | none=>g2 a
variable {g1 g2:List T->Option α}
def S3 {a:List T} {r:α} (h:g1 a=some r):orG g1 g2 a=some r:=by unfold orG;rw[h]
def qD {a:List T} (h:g1 a=none):orG g1 g2 a=g2 a:=by unfold orG;rw[h]
def XT {a:List T} {r:α} (h:orG g1 g2 a=some r):g1 a=some r\/g2 a=some r:=by
 unfold orG at h;split at h
 ·rename_i r' h1;cases h;exact .inl h1
 ·exact .inr h
variable {P:Program}
def aP.or {f:FuncId} {g1 g2:List T->Option T} (h1:aP P f g1) (h2:aP P f g2):aP P f (orG g1 g2):=⟨h1.entry,λw own args vs r hG ho ha hr=>by
 rcases XT hr with h|h
 ·exact h1.calls w own args vs r hG ho ha h
 ·exact h2.calls w own args vs r hG ho ha h⟩
def lK.orM {f:FuncId} {g1 g2:List T->Option (List (iII×Int))} (h1:lK P f (tV g1)) (h2:lK P f (tV g2)):lK P f (tV (orG g1 g2)):=⟨h1.entry,λw own args vs r hG ho ha hr=>by
 simp only[tV,aa] at hr;obtain ⟨es,h,rfl⟩:=hr;rcases XT h with h|h
 ·exact h1.calls w own args vs _ hG ho ha (by simp[tV,h])
 ·exact h2.calls w own args vs _ hG ho ha (by simp[tV,h])⟩
def AVA:List T->Option (List (iII×Int)):=orG AE6 (orG AE7 (orG AE8 AE9))
def BN3:lK Tryz.prog 118 (tV AVA):=.orM BIJ (.orM BIK (.orM BIL BIM))
def iV {X:Type} {A:X->List T} {sp:X->Option α} {args:List T} (h:∀ x,args≠A x):gA A sp args=none:=by
 unfold gA;rw[dif_neg];rintro ⟨x,hx⟩;exact h x hx
def pY:List iII->Bool
 | a::b::l=>!(cK b a||decide (b=a))&&pY (b::l)
 | _=>true
def A2N {l:List iII} {k:Nat} (h:k+1<l.length):pY (l.drop k)=(!(cK l[k+1] l[k]||decide (l[k+1]=l[k]))&&pY (l.drop (k+1))):=by
 rw[List.drop_eq_getElem_cons (show k<l.length by omega),List.drop_eq_getElem_cons h,pY]
def BB8 {l:List iII} {k:Nat} (h:l.length<=k+1):pY (l.drop k)=true:=by
 rcases Nat.lt_or_ge k l.length with h1|h1
 ·rw[List.drop_eq_getElem_cons h1,List.drop_eq_nil_of_le h];rfl
 ·rw[List.drop_eq_nil_of_le h1];rfl
variable {R:T->Prop}
def IS {r:Sy} {p:r.den->iII} {l:List r.den} (hl:l.length<=140737488355328) (hR:R (pPR (pY (l.map p)))) :
 bB (Int×PUnit)
 (λ(X0:Int×PUnit->Prop) (s1:Int×PUnit) =>
  aC (decide (s1.1<(↑l.length:Int)))
   (aR r (List.map r.enc l) s1.1 λ(y2:r.den) =>
    aR r (List.map r.enc l) (i64.wrap (s1.1-1))
     λ(y3:r.den) =>
     aC (cK (p y2) (p y3)||decide (p y2=p y3)) (R (pPR false))
      (X0 (i64.wrap (s1.1+1),())))
   (R (pPR true)))
 (1,()):=by
 refine bM l.length (λk s=>s=(((k+1:Nat):Int),())/\pY (l.map p)=pY ((l.map p).drop k)) ⟨rfl,by rw[List.drop_zero]⟩ ?_;rintro X k s hk ⟨rfl,he⟩ hX;dsimp only;have hw:i64.wrap (((k+1:Nat):Int)+1)=((k+1+1:Nat):Int):=bG _ (by omega) (by omega);have hw1:i64.wrap (((k+1:Nat):Int)-1)=((k:Nat):Int):=by rw[bG _ (by omega) (by omega)];omega
 by_cases hlt:k+1<l.length
 ·refine fA (by omega) ?_;rw[bE hlt,hw1,bE (show k<l.length by omega)];rw[A2N (by rw[ae];exact hlt)] at he;rw[List.getElem_map,List.getElem_map] at he;cases hc:(cK (p l[k+1]) (p l[k])||decide (p l[k+1]=p l[k])) with
  | true =>
   rw[j8];rw[hc,Bool.not_true,Bool.false_and] at he;rwa[he] at hR
  | false =>
   rw[pT];rw[hc,Bool.not_false,Bool.true_and] at he;exact hX _ (by omega) ⟨by rw[hw],he⟩
 ·refine iE (by omega) ?_;rw[BB8 (by rw[ae];omega)] at he;rwa[he] at hR
def sL (a0:List iII):List T:=[pPP (a0.length:Int),T.fn 272 [] [T.ref [T.sl false (List.map Sy.str.enc a0)]]]
def AY1:Env:=Env.of []
def BF6:FuncId->Hint:=b8 123 [(2,.inv [.val 5 false (.int .i64)])] (λ_=>bA)
def BBF:aU Tryz.prog AY1:=.nil _
def A1E(a0:List iII)(R:T->Prop):Prop:=bB (Int×PUnit) (λX0 s1=>aC (decide (s1.1<(↑a0.length:Int))) (aR Sy.str (LT a0) s1.1 λ(y2:iII)=>aR Sy.str (LT a0) (i64.wrap (s1.1-1)) λ(y3:iII)=>aC (cK y2 y3||decide (y2=y3)) (R d4) (g9 X0 s1)) (R d7)) (1,())
def A1F ( a0 R):eX cD Tryz.prog AY1 BF6 8 123 (sL a0) R=A1E a0 R:=by kernel_rfl
def AOP (l:List iII):Option T:=rY l (pPR (pY l))
def ARV (d d':List iII) (h:sL d=sL d'):d=d':=by
 unfold sL at h;simp only[List.cons.injEq,T.fn.injEq,T.ref.injEq,and_true,true_and,T.sl.injEq] at h;exact map_inj (Sy.dV .str) h.2
def AFZ:List T->Option (T):=gA (λ(x:List iII)=>sL x) AOP
def A5R (a0:List iII):AFZ (sL a0)=AOP a0:=gG (A:=(λ(x:List iII)=>sL x)) ARV a0
def BK4 (h:∀ (a0:List iII) (r:T),AOP a0=some r->(∀ t∈sL a0,Bd t)->A1E a0 (λy=>y=r)):aP Tryz.prog 123 AFZ :=
 cZ (E:=AY1) (Hs:=BF6) BBF aY a6 (aO rfl) 8 ⟨_,_,Tryz.func123,rfl⟩ λx r h1 h2=>by
  rw[A1F];exact h x r h1 h2
def BI2:aP Tryz.prog 123 AFZ:=BK4 λl r h hb=>by
 obtain ⟨hl,rfl⟩:=kP h;unfold A1E LT g9 d7 d4;exact IS (r:=.str) (p:=λy=>y) (R:=λy=>y=pPR (pY l)) hl (by simp)
def sG (a0:aB):List T:=[pPP (a0.2.1.length:Int),T.fn 124 [] [T.ref [T.ref (aD.enc a0)]]]
def AYX:Env:=Env.of []
def BF2:FuncId->Hint:=b8 123 [(2,.inv [.val 5 false (.int .i64)])] (λ_=>bA)
def BBB:aU Tryz.prog AYX:=.nil _
def A06(a0:aB)(R:T->Prop):Prop:=bB (Int×PUnit) (λX0 s1=>aC (decide (s1.1<(↑a0.2.1.length:Int))) (aR bC (AC a0) s1.1 λ(y2:bR)=>aR bC (AC a0) (i64.wrap (s1.1-1)) λ(y3:bR)=>aC (cK y2.1 y3.1||decide (y2.1=y3.1)) (R d4) (g9 X0 s1)) (R d7)) (1,())
def A07 ( a0 R):eX cD Tryz.prog AYX BF2 8 123 (sG a0) R=A06 a0 R:=by kernel_rfl
def AOL (d:aB):Option T:=rY d.2.1 (pPR (pY (ids d.2.1)))
def ARR (d d':aB) (h:sG d=sG d'):d=d':=by
 unfold sG at h;simp only[List.cons.injEq,T.fn.injEq,T.ref.injEq,and_true,true_and] at h;exact Sy.dV aD _ _ h.2
def AFV:List T->Option (T):=gA (λ(x:aB)=>sG x) AOL
def A5N (a0:aB):AFV (sG a0)=AOL a0:=gG (A:=(λ(x:aB)=>sG x)) ARR a0
def BK0 (h:∀ (a0:aB) (r:T),AOL a0=some r->(∀ t∈sG a0,Bd t)->A06 a0 (λy=>y=r)):aP Tryz.prog 123 AFV :=
 cZ (E:=AYX) (Hs:=BF2) BBB aY a6 (aO rfl) 8 ⟨_,_,Tryz.func123,rfl⟩ λx r h1 h2=>by
  rw[A07];exact h x r h1 h2
def BIY:aP Tryz.prog 123 AFV:=BK0 λd r h hb=>by
 obtain ⟨hl,rfl⟩:=kP h;unfold A06 g9 AC d7 d4;exact IS (r:=bC) (p:=λy=>y.1) (R:=λy=>y=pPR (pY (ids d.2.1))) hl rfl
def sH (a0:aB):List T:=[pPP (a0.2.2.1.length:Int),T.fn 125 [] [T.ref [T.ref (aD.enc a0)]]]
def AYY:Env:=Env.of []
def BF3:FuncId->Hint:=b8 123 [(2,.inv [.val 5 false (.int .i64)])] (λ_=>bA)
def BBC:aU Tryz.prog AYY:=.nil _
def A08(a0:aB)(R:T->Prop):Prop:=bB (Int×PUnit) (λX0 s1=>aC (decide (s1.1<(↑a0.2.2.1.length:Int))) (aR aN (FS a0) s1.1 λ(y2:a8)=>aR aN (FS a0) (i64.wrap (s1.1-1)) λ(y3:a8)=>aC (cK y2.1 y3.1||decide (y2.1=y3.1)) (R d4) (g9 X0 s1)) (R d7)) (1,())
def A09 ( a0 R):eX cD Tryz.prog AYY BF3 8 123 (sH a0) R=A08 a0 R:=by kernel_rfl
def AOM (d:aB):Option T:=rY d.2.2.1 (pPR (pY (ids d.2.2.1)))
def ARS (d d':aB) (h:sH d=sH d'):d=d':=by
 unfold sH at h;simp only[List.cons.injEq,T.fn.injEq,T.ref.injEq,and_true,true_and] at h;exact Sy.dV aD _ _ h.2
def AFW:List T->Option (T):=gA (λ(x:aB)=>sH x) AOM
def A5O (a0:aB):AFW (sH a0)=AOM a0:=gG (A:=(λ(x:aB)=>sH x)) ARS a0
def BK1 (h:∀ (a0:aB) (r:T),AOM a0=some r->(∀ t∈sH a0,Bd t)->A08 a0 (λy=>y=r)):aP Tryz.prog 123 AFW :=
 cZ (E:=AYY) (Hs:=BF3) BBC aY a6 (aO rfl) 8 ⟨_,_,Tryz.func123,rfl⟩ λx r h1 h2=>by
  rw[A09];exact h x r h1 h2
def BIZ:aP Tryz.prog 123 AFW:=BK1 λd r h hb=>by
 obtain ⟨hl,rfl⟩:=kP h;unfold A08 g9 FS d7 d4;exact IS (r:=aN) (p:=λy=>y.1) (R:=λy=>y=pPR (pY (ids d.2.2.1))) hl rfl
def sJ (a0:aB):List T:=[pPP (a0.2.2.2.1.length:Int),T.fn 126 [] [T.ref [T.ref (aD.enc a0)]]]
def AYZ:Env:=Env.of []
def BF4:FuncId->Hint:=b8 123 [(2,.inv [.val 5 false (.int .i64)])] (λ_=>bA)
def BBD:aU Tryz.prog AYZ:=.nil _
def A1A(a0:aB)(R:T->Prop):Prop:=bB (Int×PUnit) (λX0 s1=>aC (decide (s1.1<(↑a0.2.2.2.1.length:Int))) (aR bD (v6 a0) s1.1 λ(y2:bU)=>aR bD (v6 a0) (i64.wrap (s1.1-1)) λ(y3:bU)=>aC (cK y2.1 y3.1||decide (y2.1=y3.1)) (R d4) (g9 X0 s1)) (R d7)) (1,())
def A1B ( a0 R):eX cD Tryz.prog AYZ BF4 8 123 (sJ a0) R=A1A a0 R:=by kernel_rfl
def AON (d:aB):Option T:=rY d.2.2.2.1 (pPR (pY (ids d.2.2.2.1)))
def ART (d d':aB) (h:sJ d=sJ d'):d=d':=by
 unfold sJ at h;simp only[List.cons.injEq,T.fn.injEq,T.ref.injEq,and_true,true_and] at h;exact Sy.dV aD _ _ h.2
def AFX:List T->Option (T):=gA (λ(x:aB)=>sJ x) AON
def A5P (a0:aB):AFX (sJ a0)=AON a0:=gG (A:=(λ(x:aB)=>sJ x)) ART a0
def BK2 (h:∀ (a0:aB) (r:T),AON a0=some r->(∀ t∈sJ a0,Bd t)->A1A a0 (λy=>y=r)):aP Tryz.prog 123 AFX :=
 cZ (E:=AYZ) (Hs:=BF4) BBD aY a6 (aO rfl) 8 ⟨_,_,Tryz.func123,rfl⟩ λx r h1 h2=>by
  rw[A1B];exact h x r h1 h2
def BI0:aP Tryz.prog 123 AFX:=BK2 λd r h hb=>by
 obtain ⟨hl,rfl⟩:=kP h;unfold A1A g9 v6 d7 d4;exact IS (r:=bD) (p:=λy=>y.1) (R:=λy=>y=pPR (pY (ids d.2.2.2.1))) hl rfl
def sK (a0:aB):List T:=[pPP (a0.2.2.2.2.1.length:Int),T.fn 127 [] [T.ref [T.ref (aD.enc a0)]]]
def AY0:Env:=Env.of []
def BF5:FuncId->Hint:=b8 123 [(2,.inv [.val 5 false (.int .i64)])] (λ_=>bA)
def BBE:aU Tryz.prog AY0:=.nil _
def A1C(a0:aB)(R:T->Prop):Prop:=bB (Int×PUnit) (λX0 s1=>aC (decide (s1.1<(↑a0.2.2.2.2.1.length:Int))) (aR aH (m9 a0) s1.1 λ(y2:aQ)=>aR aH (m9 a0) (i64.wrap (s1.1-1)) λ(y3:aQ)=>aC (cK y2.1 y3.1||decide (y2.1=y3.1)) (R d4) (g9 X0 s1)) (R d7)) (1,())
def A1D ( a0 R):eX cD Tryz.prog AY0 BF5 8 123 (sK a0) R=A1C a0 R:=by kernel_rfl
def AOO (d:aB):Option T:=rY d.2.2.2.2.1 (pPR (pY (ids d.2.2.2.2.1)))
def ARU (d d':aB) (h:sK d=sK d'):d=d':=by
 unfold sK at h;simp only[List.cons.injEq,T.fn.injEq,T.ref.injEq,and_true,true_and] at h;exact Sy.dV aD _ _ h.2
def AFY:List T->Option (T):=gA (λ(x:aB)=>sK x) AOO
def A5Q (a0:aB):AFY (sK a0)=AOO a0:=gG (A:=(λ(x:aB)=>sK x)) ARU a0
def BK3 (h:∀ (a0:aB) (r:T),AOO a0=some r->(∀ t∈sK a0,Bd t)->A1C a0 (λy=>y=r)):aP Tryz.prog 123 AFY :=
 cZ (E:=AY0) (Hs:=BF5) BBE aY a6 (aO rfl) 8 ⟨_,_,Tryz.func123,rfl⟩ λx r h1 h2=>by
  rw[A1D];exact h x r h1 h2
def BI1:aP Tryz.prog 123 AFY:=BK3 λd r h hb=>by
 obtain ⟨hl,rfl⟩:=kP h;unfold A1C g9 m9 d7 d4;exact IS (r:=aH) (p:=λy=>y.1) (R:=λy=>y=pPR (pY (ids d.2.2.2.2.1))) hl rfl
def x6:List T->Option T:=orG AFV (orG AFW (orG AFX (orG AFY AFZ)))
def BGC:aP Tryz.prog 123 x6:=.or BIY (.or BIZ (.or BI0 (.or BI1 BI2)))
def BI9 {d:aB} (h:d.2.1.length<=140737488355328):AVA (uC d)=some (jK (ids d.2.1)):=by
 have h1:AE6 (uC d)=some (jK (ids d.2.1)):=by rw[A48];exact kQ _ h
 exact (S3 h1)
def BJD {d:aB} (h:d.2.1.length<=140737488355328):x6 (sG d)=some (pPR (pY (ids d.2.1))):=by
 have h1:AFV (sG d)=some (pPR (pY (ids d.2.1))):=by rw[A5N];exact kQ _ h
 exact (S3 h1)
def BJA {d:aB} (h:d.2.2.1.length<=140737488355328):AVA (uD d)=some (jK (ids d.2.2.1)):=by
 have h1:AE7 (uD d)=some (jK (ids d.2.2.1)):=by rw[A49];exact kQ _ h
 exact ((qD (iV λx h=>by simp[uC,uD] at h)).trans (S3 h1))
def BJE {d:aB} (h:d.2.2.1.length<=140737488355328):x6 (sH d)=some (pPR (pY (ids d.2.2.1))):=by
 have h1:AFW (sH d)=some (pPR (pY (ids d.2.2.1))):=by rw[A5O];exact kQ _ h
 exact ((qD (iV λx h=>by simp[sG,sH] at h)).trans (S3 h1))
def BJB {d:aB} (h:d.2.2.2.1.length<=140737488355328):AVA (uE d)=some (jK (ids d.2.2.2.1)):=by
 have h1:AE8 (uE d)=some (jK (ids d.2.2.2.1)):=by rw[A5A];exact kQ _ h
 exact ((qD (iV λx h=>by simp[uC,uE] at h)).trans ((qD (iV λx h=>by simp[uD,uE] at h)).trans (S3 h1)))
def BJF {d:aB} (h:d.2.2.2.1.length<=140737488355328):x6 (sJ d)=some (pPR (pY (ids d.2.2.2.1))):=by
 have h1:AFX (sJ d)=some (pPR (pY (ids d.2.2.2.1))):=by rw[A5P];exact kQ _ h
 exact ((qD (iV λx h=>by simp[sG,sJ] at h)).trans ((qD (iV λx h=>by simp[sH,sJ] at h)).trans (S3 h1)))
def BJC {d:aB} (h:d.2.2.2.2.1.length<=140737488355328):AVA (uF d)=some (jK (ids d.2.2.2.2.1)):=by
 have h1:AE9 (uF d)=some (jK (ids d.2.2.2.2.1)):=by rw[A5B];exact kQ _ h
 exact ((qD (iV λx h=>by simp[uC,uF] at h)).trans ((qD (iV λx h=>by simp[uD,uF] at h)).trans ((qD (iV λx h=>by simp[uE,uF] at h)).trans h1)))
def BJG {d:aB} (h:d.2.2.2.2.1.length<=140737488355328):x6 (sK d)=some (pPR (pY (ids d.2.2.2.2.1))):=by
 have h1:AFY (sK d)=some (pPR (pY (ids d.2.2.2.2.1))):=by rw[A5Q];exact kQ _ h
 exact ((qD (iV λx h=>by simp[sG,sK] at h)).trans ((qD (iV λx h=>by simp[sH,sK] at h)).trans ((qD (iV λx h=>by simp[sJ,sK] at h)).trans (S3 h1))))
def A5S {l:List iII} (h:l.length<=140737488355328):x6 (sL l)=some (pPR (pY l)):=by
 have h1:AFZ (sL l)=some (pPR (pY l)):=by rw[A5R];exact kQ _ h
 exact ((qD (iV λx h=>by simp[sG,sL] at h)).trans ((qD (iV λx h=>by simp[sH,sL] at h)).trans ((qD (iV λx h=>by simp[sJ,sL] at h)).trans ((qD (iV λx h=>by simp[sK,sL] at h)).trans h1))))
abbrev UG (d:aB) (m1 m2 m3 m4:List (iII×Int)):T:=T.ref [T.ref (aD.enc d),T.mp (bS m1),T.mp (bS m2),T.mp (bS m3),T.mp (bS m4)]
end Go.Pv
namespace Go.Pv
open Go Go.Proofs IntKind
abbrev q_b:Sh:=[(false,.bool)]
abbrev BLD:Sh:=[(false,.li .str)]
def A8 (x:iII×iII):Option T:=match decide (x.1.size<4294967281),decide (1<=x.2.size) with
 | true,true=>some (Sh.enc BLD (Lib.splitB x.2 0 (Lib.countB x.1 x.2) x.1))
 | _,_=>none
def zM:List T->Option T:=gS [(false,.str),(false,.str)] A8
def AF3 {a b:iII}:zM [pPQ a,pPQ b]=A8 (a,b):=bH (s:=[(false,.str),(false,.str)]) rfl (a,b) rfl
def AUQ:aP Tryz.prog 83 zM:=by
 refine ⟨yS.entry,λw own args vs r hG ho ha hg=>?_⟩;obtain ⟨⟨a,b⟩,rfl,hx⟩:=BQ hg;unfold A8 at hx;split at hx
 ·rename_i h1 h2;cases hx;have hs:tW [.v (.string a),.v (.string b)]=some (.sl true ((Lib.splitB b 0 (Lib.countB a b) a).map λx=>[.v (.string x)])):=by
   unfold tW;simp only[h1,h2]
  refine (yS.calls w own _ vs _ hG ho ha hs).mono ?_;rintro e w' ⟨v,rfl,hr,hb⟩;exact ⟨v,rfl,hr.canon 0,hb⟩
 ·cases hx
end Go.Pv
namespace Go.Pv
open Go Go.Proofs IntKind
def tC (n:Int):Bool:=(decide (97<=n)&&decide (n<=122))||(decide (65<=n)&&decide (n<=90))
def EX (n:Int):Bool:=decide (48<=n)&&decide (n<=57)
def nameAt (i:Nat) (b:UInt8):Bool:=tC b.toNat||(decide (i≠0)&&(EX b.toNat||decide ((b.toNat:Int)=95)||decide ((b.toNat:Int)=45)))
def isName (s:iII):Bool:=decide (s.size≠0)&&decide (s.size<=16)&&(List.range s.size).all λi=>match s.data[i]? with|some b=>nameAt i b|none=>true
def AH0 (s:iII):Option T:=some (Sh.enc q_b (isName s))
abbrev vN:=AH0
def BFI (l:List iII):Int:=(l.length:Int)-1+pM l
def BO5 (s:iII):Option T:=match decide (s.size<=1099511627776) with
 | true=>some (Sh.enc BLD (eW s))
 | false=>none
def vQ (l:List iII):Option T:=match decide (l.length<=65)&&decide (pM l<=64) with
 | true=>some (Sh.enc q_b (l.all isName&&(decide (1<=l.length)&&decide (l.length<=8)&&decide (BFI l<=64))))
 | false=>none
def pS (s:iII):Bool:=decide (s.size<=64)&&decide ((eW s).length<=8)&&(eW s).all isName
def I5 (s:iII):Option T:=some (Sh.enc q_b (pS s))
def qV {n:Nat} {f:Nat->Bool}:(List.range n).all f=true↔∀ i,i<n->f i=true:=by simp
def AVL {s:iII} (h0:s.size≠0) (h1:s.size<=16) (h2:∀ i b,s.data[i]? = some b->nameAt i b=true):isName s=true:=by
 unfold isName;simp only[h0,h1,decide_true,Bool.true_and,ac,qV,ne_eq,not_false_eq_true,true_and];intro i hi;split
 ·rename_i b hb;exact h2 i b hb
 ·rfl
def FH {s:iII} (h:s.size=0\/16<s.size\/∃ i b,s.data[i]? = some b/\nameAt i b=false):isName s=false:=by
 rw[Bool.eq_false_iff];intro hn;unfold isName at hn;simp only[ac,qV,ah] at hn;rcases h with h|h|⟨i,b,hb,hf⟩
 ·exact hn.1.1 h
 ·have:=hn.1.2;omega
 ·have hi:i<s.size:=(Array.getElem?_eq_some_iff.1 hb).1;have:=hn.2 i hi;rw[hb] at this;simp only[hf] at this;cases this
def AGX (b:UInt8):nameAt 0 b=tC b.toNat:=by simp[nameAt]
def APE {s:iII}:s = { data:=#[] }↔s.size=0:=⟨λe=>by subst e;rfl,λe=>ByteArray.ext (Array.eq_empty_of_size_eq_zero e)⟩
def AYA:Env:=Env.of []
def A1L:FuncId->Hint:=λf=>match f == 85 with|true=>⟨λr=>match r == 4 with|true=>.inv [.lP 0]|false=>.none,λi j=>match i == 6&&j == 6 with|true=>some [.val 5 false .bool,.fix 0]|false=>match i == 7&&j == 7 with|true=>some [.val 6 false .bool,.fix 0]|false=>none,λ_=>none⟩|false=>bA
def AIW:aU Tryz.prog AYA:=.nil _
def H1(s1:(iII×Nat)×PUnit)(X2:Bool×PUnit×PUnit->Prop):Prop:=aC (decide (97<=(↑(Utf8.decode s1.1.1 s1.1.2).1:Int))) (gM (bJ.lP s1.1.1 (s1.1.2+(Utf8.decode s1.1.1 s1.1.2).2)) (bJ.lP s1.1.1 (s1.1.2+(Utf8.decode s1.1.1 s1.1.2).2)) (X2 (decide ((↑(Utf8.decode s1.1.1 s1.1.2).1:Int)<=122),(),()))) (gM (bJ.lP s1.1.1 (s1.1.2+(Utf8.decode s1.1.1 s1.1.2).2)) (bJ.lP s1.1.1 (s1.1.2+(Utf8.decode s1.1.1 s1.1.2).2)) (X2 (false,(),())))
def IO(s1:(iII×Nat)×PUnit)(X2:Bool×PUnit×PUnit->Prop):Prop:=gM (bJ.lP s1.1.1 (s1.1.2+(Utf8.decode s1.1.1 s1.1.2).2)) (bJ.lP s1.1.1 (s1.1.2+(Utf8.decode s1.1.1 s1.1.2).2)) (X2 (true,(),()))
def RK(s1:(iII×Nat)×PUnit)(X4:Bool×PUnit×PUnit->Prop):Prop:=aC (decide ((↑(Utf8.decode s1.1.1 s1.1.2).1:Int)=95)) (IO s1 X4) (gM (bJ.lP s1.1.1 (s1.1.2+(Utf8.decode s1.1.1 s1.1.2).2)) (bJ.lP s1.1.1 (s1.1.2+(Utf8.decode s1.1.1 s1.1.2).2)) (X4 (decide ((↑(Utf8.decode s1.1.1 s1.1.2).1:Int)=45),(),())))
def PF(a0:iII)(R:T->Prop):Prop:=aC (decide (a0 = {data:=#[]})) (R d4) (aC (decide (16<(↑(ByteArray.size a0):Int))) (R d4) (bB ((iII×Nat)×PUnit) (λX0 s1=>aC (decide (s1.1.2<s1.1.1.size)) (sZ (Bool×PUnit×PUnit) (λ(X2:Bool×PUnit×PUnit->Prop)=>aC (decide (65<=(↑(Utf8.decode s1.1.1 s1.1.2).1:Int))) (aC (decide ((↑(Utf8.decode s1.1.1 s1.1.2).1:Int)<=90)) (IO s1 X2) (H1 s1 X2)) (H1 s1 X2)) λ(s3:Bool×PUnit×PUnit)=>sZ (Bool×PUnit×PUnit) (λ(X4:Bool×PUnit×PUnit->Prop)=>aC (decide (48<=(↑(Utf8.decode s1.1.1 s1.1.2).1:Int))) (aC (decide ((↑(Utf8.decode s1.1.1 s1.1.2).1:Int)<=57)) (IO s1 X4) (RK s1 X4)) (RK s1 X4)) λ(s5:Bool×PUnit×PUnit)=>aC (!s3.1) (aC (decide ((↑s1.1.2:Int)=0)) (R d4) (aC (!s5.1) (R d4) (X0 ((s1.1.1,s1.1.2+(Utf8.decode s1.1.1 s1.1.2).2),())))) (X0 ((s1.1.1,s1.1.2+(Utf8.decode s1.1.1 s1.1.2).2),()))) (R d7)) ((a0,0),())))
abbrev TD:Sh:=[(false,Sy.str)]
abbrev IP:Sh:=[(false,Sy.bool)]
def VE (y:Sh.den IP) (K:Sh.den IP->Prop):aJ IP (some (Sh.enc IP y)) K=K y:=BG rfl y K
def iZ:List T->Option T:=gS TD vN
def yZ {a0}:iZ [pPQ a0]=vN (a0):=bH (s:=TD) rfl (a0) rfl
def AWA:xX Tryz.prog 85 iZ vN (cG TD) PF:=kC (a1:=(false,Sy.str)) (sp:=vN) (F:=PF) (Hs:=A1L) (f:=85) (k:=8) AIW aY a6 (aO rfl) ⟨_,_,Tryz.func85,rfl⟩ rfl λ_ _=>by kernel_rfl
variable {K:Bool×PUnit×PUnit->Prop}
def AGL (c:Int) (hX:K (tC c,(),())):sZ (Bool×PUnit×PUnit) (λX=>aC (decide (65<=c)) (aC (decide (c<=90)) (X (true,(),())) (aC (decide (97<=c)) (X (decide (c<=122),(),())) (X (false,(),())))) (aC (decide (97<=c)) (X (decide (c<=122),(),())) (X (false,(),())))) K:=by
 simp only[AGH,BY];unfold tC at hX;by_cases h1:65<=c<;>by_cases h2:c<=90<;>by_cases h3:97<=c<;>by_cases h4:c<=122<;>simp[h1,h2,h3,h4] at hX ⊢ <;> first|exact hX|omega
def AAE (c:Int) (hX:K (EX c||decide (c=95)||decide (c=45),(),())):sZ (Bool×PUnit×PUnit) (λX=>aC (decide (48<=c)) (aC (decide (c<=57)) (X (true,(),())) (aC (decide (c=95)) (X (true,(),())) (X (decide (c=45),(),())))) (aC (decide (c=95)) (X (true,(),())) (X (decide (c=45),(),())))) K:=by
 simp only[AGH,BY];unfold EX at hX;by_cases h1:48<=c<;>by_cases h2:c<=57<;>by_cases h3:c=95<;>simp[h1,h2,h3] at hX ⊢ <;> first|exact hX|omega
def BO:aP Tryz.prog 85 iZ:=AWA λs r h hb=>by
 have h':some (Sh.enc q_b (isName s))=some r:=h;cases h';clear h;unfold PF RK IO H1 d7 d4;by_cases h0:s.size=0
 ·exact fA (APE.2 h0) (by rw[FH (.inl h0)];rfl)
 refine iE (λe=>h0 (APE.1 e)) ?_;by_cases h16:16<s.size
 ·exact fA (by omega) (by rw[FH (.inr (.inl h16))];rfl)
 refine iE (by omega) ?_;refine bM s.size (λk t=>t=((s,k),())/\∀ i b,i<k->s.data[i]? = some b->nameAt i b=true) ⟨rfl,by simp⟩ ?_;rintro X k t hk ⟨rfl,hno⟩ hX;simp only[dA];by_cases hlt:k<s.size
 ·refine fA hlt ?_;have hb:s.data[k]? = some (s[k]'hlt):=by
   rw[Array.getElem?_eq_getElem hlt];rfl
  refine AGL (Utf8.decode s k).1 ?_;refine AAE (Utf8.decode s k).1 ?_;dsimp only;have stop:nameAt k (s[k]'hlt)=false->pPR false=Sh.enc q_b (isName s):=λhn=>by rw[FH (.inr (.inr ⟨k,_,hb,hn⟩))];rfl
  by_cases hasc:(s[k]'hlt).toNat<128
  ·have hd:=decode_ascii s k hlt hasc;have go:nameAt k (s[k]'hlt)=true->X ((s,k+(Utf8.decode s k).2),()):=λhn=>by
    rw[hd];exact hX _ hlt ⟨rfl,λi b' hi hb'=>by
     by_cases e:i=k
     ·subst e;rw[hb] at hb';cases hb';exact hn
     ·exact hno i b' (by omega) hb'⟩
   have e1:((Utf8.decode s k).1:Int)=((s[k]'hlt).toNat:Int):=by rw[hd]
   rw[e1];cases hl:tC ((s[k]'hlt).toNat:Int) with
   | true=>rw[Bool.not_true,pT];exact go (by simp[nameAt,hl])
   | false =>
    rw[Bool.not_false,j8];by_cases hk0:k=0
    ·exact fA (by omega) (stop (by subst hk0;rw[AGX];exact hl))
    ·refine iE (by omega) ?_;cases hf:(EX ((s[k]'hlt).toNat:Int)||decide (((s[k]'hlt).toNat:Int)=95)||decide (((s[k]'hlt).toNat:Int)=45)) with
     | true=>rw[Bool.not_true,pT];exact go (by unfold nameAt;rw[hl,hf];simp[hk0])
     | false=>rw[Bool.not_false,j8];exact stop (by unfold nameAt;rw[hl,hf];simp)
  ·obtain ⟨hd1,hd2⟩:=decode_high s k hlt (by omega);have hl:tC ((Utf8.decode s k).1:Int)=false:=by
    unfold tC;simp;omega
   have hf:(EX ((Utf8.decode s k).1:Int)||decide (((Utf8.decode s k).1:Int)=95)||decide (((Utf8.decode s k).1:Int)=45))=false:=by
    unfold EX;simp;omega
   have hn:nameAt k (s[k]'hlt)=false:=by
    unfold nameAt tC EX;simp;omega
   rw[hl,hf,Bool.not_false,j8];by_cases hk0:k=0
   ·exact fA (by omega) (stop hn)
   ·refine iE (by omega) ?_;rw[j8];exact stop hn
 ·refine iE hlt ?_;rw[AVL h0 (by omega) (λi b h=>hno i b (by have:=(Array.getElem?_eq_some_iff.1 h).1;have:i<s.size:=this;omega) h)];rfl
def A91:Env:=Env.of [(85,.pure iZ)]
def BBK:FuncId->Hint:=b8 82 [(3,.inv [.val 3 false (.int .i64),.val 11 false (.int .i64)])] (λ_=>bA)
def ASC:aU Tryz.prog A91:=.cons BO (.nil _)
def Y7(a0:List iII)(R:T->Prop):Prop:=bB (Int×Int×PUnit) (λX0 s1=>aC (decide (s1.2.1<(↑(LT a0).length:Int))) (aR Sy.str (LT a0) s1.2.1 λ(y2:iII)=>aJ d6 (iZ [pPQ y2]) λ(y3:Bool)=>aC (!y3) (R d4) (X0 (i64.wrap (s1.1+(↑y2.size:Int)),i64.wrap (s1.2.1+1),()))) (aC (decide (1<=(↑(LT a0).length:Int))) (aC (decide ((↑(LT a0).length:Int)<=8)) (R (pPR (decide (s1.1<=64)))) (R d4)) (R d4))) (i64.wrap ((↑(LT a0).length:Int)-1),0,())
abbrev ABP:Sh:=[(false,Sy.str.li)]
def G7:List T->Option T:=gS ABP vQ
def AL0 {a0}:G7 [T.sl false (List.map Sy.str.enc a0)]=vQ (a0):=bH (s:=ABP) rfl (a0) rfl
def A7B:xX Tryz.prog 82 G7 vQ (cG ABP) Y7:=kC (a1:=(false,Sy.str.li)) (sp:=vQ) (F:=Y7) (Hs:=BBK) (f:=82) (k:=8) ASC aY a6 (aO rfl) ⟨_,_,Tryz.func82,rfl⟩ rfl λ_ _=>by kernel_rfl
def F8:∀ (l:List iII) (x:iII),pM (l++[x])=pM l+x.size
 | [],x=>by simp[pM]
 | a::l,x=>by simp only[List.cons_append,pM,F8 l x];omega
def UE:∀ (l:List iII) (k:Nat),pM (l.take k)<=pM l
 | [],k=>by simp
 | a::l,0=>by simp[pM]
 | a::l,k+1=>by simp only[List.take_succ_cons,pM];have:=UE l k;omega
def A31:aP Tryz.prog 82 G7:=A7B λl r h hb=>by
 unfold vQ at h;split at h
 ·rename_i hsz;simp only[ac,ah] at hsz;obtain ⟨hl65,hs64⟩:=hsz;cases h;unfold Y7 LT d6 d4;refine bM l.length (λk t=>t=((l.length:Int)-1+pM (l.take k),(k:Int),())/\(l.take k).all isName=true) ⟨by
   simp only[List.take_zero,pM,ae,Prod.mk.injEq,and_true];rw[bG _ (by omega) (by omega)];simp,by simp⟩ ?_
  rintro X k t hk ⟨rfl,hall⟩ hX;dsimp only;by_cases hlt:k<l.length
  ·refine fA (by simp[hlt]) ?_;rw[bE (r:=.str) hlt];refine aF (s:=q_b) (y:=isName l[k]) yZ ?_;have hsum:=UE l (k+1);have htake:l.take (k+1)=l.take k++[l[k]]:=List.take_succ_eq_append_getElem hlt;cases hn:isName l[k] with
   | false =>
    rw[Bool.not_false,j8];have:l.all isName=false:=by
     rw[Bool.eq_false_iff];intro ha;have:=List.all_eq_true.1 ha _ (ak hlt);rw[hn] at this;cases this
    rw[this];rfl
   | true =>
    rw[Bool.not_true,pT];rw[htake,F8] at hsum;refine hX _ hlt ⟨?_,by rw[htake,List.all_append,hall];simp[hn]⟩;rw[htake,F8];simp only[Prod.mk.injEq,and_true];exact ⟨by rw[bG _ (by omega) (by omega)];simp;omega,bG _ (by omega) (by omega)⟩
  ·have:k=l.length:=by omega
   subst this;rw[List.take_length] at hall;refine iE (by simp) ?_;rw[List.take_length,hall];by_cases h1:1<=l.length
   ·refine fA (by simp only[ae];omega) ?_;by_cases h2:l.length<=8
    ·refine fA (by simp only[ae];omega) ?_;rw[ai h1,ai h2];rfl
    ·refine iE (by simp only[ae];omega) ?_;rw[aj h2,Bool.and_false];rfl
   ·refine iE (by simp only[ae];omega) ?_;rw[aj h1];rfl
 ·cases h
def BGY:Env:=Env.of [(83,.pure zM),(82,.pure G7)]
def BHE:FuncId->Hint:=λ_=>bA
def AZM:aU Tryz.prog BGY:=.cons AUQ (.cons A31 (.nil _))
def AJ1(a0:iII)(R:T->Prop):Prop:=aC (decide ((↑(ByteArray.size a0):Int)<=64)) (aJ eI (zM [pPQ a0,pPQ ({data:=#[46]})]) λ(y0:List iII)=>aJ d6 (G7 [T.sl false (LT y0)]) λ(y1:Bool)=>R (pPR y1)) (R d4)
abbrev ANU:Sh:=[(false,Sy.str)]
abbrev ABJ:Sh:=[(false,Sy.bool)]
def AHK (y:Sh.den ABJ) (K:Sh.den ABJ->Prop):aJ ABJ (some (Sh.enc ABJ y)) K=K y:=BG rfl y K
def eZ:List T->Option T:=gS ANU I5
def WL {a0}:eZ [pPQ a0]=I5 (a0):=bH (s:=ANU) rfl (a0) rfl
def BEU:xX Tryz.prog 64 eZ I5 (cG ANU) AJ1:=kC (a1:=(false,Sy.str)) (sp:=I5) (F:=AJ1) (Hs:=BHE) (f:=64) (k:=8) AZM aY a6 (aO rfl) ⟨_,_,Tryz.func64,rfl⟩ rfl λ_ _=>by kernel_rfl
def GW:aP Tryz.prog 64 eZ:=BEU λs r h hb=>by
 have h':some (Sh.enc q_b (pS s))=some r:=h;cases h';clear h;unfold AJ1 LT eI d6 d4 pS;by_cases h64:s.size<=64
 ·refine fA (by omega) ?_;have hsum:=AW9 s;have hpos:=AW8 s;refine aF (s:=BLD) (y:=eW s) ?_ ?_
  ·rw[show zM [pPQ s,pPQ ({ data:=#[46] })]=A8 (s,dot) from AF3];unfold A8;rw[show decide (s.size<4294967281)=true by simp;omega,show decide (1<=dot.size)=true from rfl];rfl
  ·refine aF (s:=q_b) (y:=(eW s).all isName&&(decide (1<=(eW s).length)&&decide ((eW s).length<=8)&&decide (BFI (eW s)<=64))) ?_ ?_
   ·rw[AL0];unfold vQ;rw[show (decide ((eW s).length<=65)&&decide (pM (eW s)<=64))=true by simp;omega]
   ·have h1:decide (1<=(eW s).length)=true:=ai hpos;have h2:decide (BFI (eW s)<=64)=true:=ai (by unfold BFI;omega);have h3:decide (s.size<=64)=true:=ai h64;rw[h1,h2,h3];simp[Bool.and_comm,Sh.enc,aG,Sy.enc,hdT]
 ·refine iE (by omega) ?_;rw[aj h64];rfl
end Go.Pv
namespace Go.Pv
open Go Go.Proofs IntKind
def Seen (es:List (iII×Bool)) (S:iII->Prop):Prop:=(∀ id b,fS es id=some b->b=true)/\∀ id,fS es id=some true↔S id
def Seen.nil:Seen [] λ_=>False:=⟨λid b h=>(by cases h),λid=>⟨λh=>(by cases h),λh=>h.elim⟩⟩
variable {es:List (iII×Bool)}{S:iII->Prop}
def Seen.ins (h:Seen es S) (k:iII):Seen (oF es k true) λid=>S id\/k=id:=by
 refine ⟨λid b hb=>?_,λid=>?_⟩
 ·rw[zN] at hb;split at hb
  ·cases hb;rfl
  ·exact h.1 id b hb
 ·rw[zN];split
  ·rename_i e;exact ⟨λ_=>.inr e,λ_=>rfl⟩
  ·rename_i e;rw[h.2];exact ⟨.inl,λh=>h.resolve_right e⟩
def Seen.congr {S':iII->Prop} (h:Seen es S) (e:∀ id,S id↔S' id):Seen es S':=⟨h.1,λid=>(h.2 id).trans (e id)⟩
abbrev RS:=List (Value×T)×Nat×List Nat×Nat
variable {m:List (iII×Int)}
def A3Q {seen:List Nat} {i:Nat} (hi:i<m.length) (K:iII->Int->Prop) (hk:K m[i].1 m[i].2):CU .str false (.int .i64) (sA (bS m)) (seen++[i]) K :=
 ⟨i,m[i].1,m[i].2,by simp,by simp only[sA,bS,List.map_map,List.getElem?_map,List.getElem?_eq_getElem hi];rfl,hk⟩
def BCG {R7 K:Prop} (hS:Seen es S) (hbad:(∃ i,∃ h:i<m.length,S m[i].1)->R7) (hgood:(∀ i (h:i<m.length),¬ S m[i].1)->K) :
  bB (RS×PUnit) (λ(X:RS×PUnit->Prop) (s:RS×PUnit)=>bL (decide (s.1.1.length<=s.1.2.1)&&decide (s.1.2.1<=s.1.2.2.2)) (sQ s.1.1.length s.1.2.2.1 K λ(i:Nat) =>
   bL (decide (s.1.1.length=s.1.1.length)) (CU Sy.str false (Sy.int IntKind.i64) (sA s.1.1) (s.1.2.2.1++[i]) λ(k:iII) (y:Int) =>
    iF TypeDesc.string (Value.string k) (List.map (b6 Sy.str false Sy.bool) es) false Sy.bool (X ((s.1.1,s.1.2.1,s.1.2.2.1++[i],s.1.1.length),())) λ(j:Nat) (b:Bool) =>
     aC b R7 (X ((s.1.1,s.1.2.1,s.1.2.2.1++[i],s.1.1.length),()))))) ((bS m,(bS m).length,[],(bS m).length),()):=by
 have hml:(bS m).length=m.length:=by simp[bS]
 refine bM m.length (λk t=>∃ seen,t=((bS m,(bS m).length,seen,(bS m).length),())/\(cT m.length seen).length+k<=m.length/\∀ i (h:i<m.length),i∈seen->¬ S m[i].1) ⟨[],rfl,by rw[AO];omega,by simp⟩ ?_;rintro X k t hk ⟨seen,rfl,hlen,hJ⟩ hX;dsimp only;refine ⟨by simp,?_,?_⟩
 ·intro hm;rw[hml] at hm;refine hgood λi hi=>hJ i hi ?_;refine Classical.byContradiction λhc=>?_;have:i∈cT m.length seen:=nC.2 ⟨hi,hc⟩;rw[hm] at this;cases this
 ·intro i hi;rw[hml] at hi;have hi1:=(nC.1 hi).1;have hst:=wW hi;refine ⟨by simp,A3Q hi1 _ ?_⟩;have go:¬ S m[i].1->X ((bS m,(bS m).length,seen++[i],(bS m).length),()):=λhn=>hX _ (by omega) ⟨_,rfl,by omega,λj hj hm=>by
   rcases List.mem_append.1 hm with h|h
   ·exact hJ j hj h
   ·simp at h;subst h;exact hn⟩
  refine wE (r:=.bool) (λhno=>go λh=>?_) λj b hb=>?_
  ·have:=(hS.2 m[i].1).2 h;rw[hno] at this;cases this
  ·have:=hS.1 _ _ hb;subst this;rw[j8];exact hbad ⟨i,hi1,(hS.2 _).1 hb⟩
def BB3 {K:List (iII×Bool)×RS×PUnit->Prop} (hS:Seen es S) (hgood:∀ es' rs,Seen es' (λid=>S id\/∃ i,∃ h:i<m.length,m[i].1=id)->K (es',rs,())) :
  cV Sy.str false Sy.bool (List.map (b6 Sy.str false Sy.bool) es) λ(y:List (iII×Bool)) =>
  bB (List (iII×Bool)×RS×PUnit) (λ(X:List (iII×Bool)×RS×PUnit->Prop) (s:List (iII×Bool)×RS×PUnit)=>bL (decide (s.2.1.1.length<=s.2.1.2.1)&&decide (s.2.1.2.1<=s.2.1.2.2.2)) (sQ s.2.1.1.length s.2.1.2.2.1 (K s) λ(i:Nat) =>
   bL (decide (s.2.1.1.length=s.2.1.1.length)) (CU Sy.str false (Sy.int IntKind.i64) (sA s.2.1.1) (s.2.1.2.2.1++[i]) λ(k:iII) (y:Int) =>
    eT (Option (Nat×D)) (findD TypeDesc.string (SG Sy.str k) (List.map (b6 Sy.str false Sy.bool) s.1) 0) λ(y37:Option (Nat×D)) =>
     cV Sy.str false Sy.bool (eP (List.map (b6 Sy.str false Sy.bool) s.1) y37 (Value.string k) (D.p (T.v (.bool true)))) λ(y38:List (iII×Bool)) =>
      X (y38,(s.2.1.1,s.2.1.2.1,s.2.1.2.2.1++[i],s.2.1.1.length),())))) (y,(bS m,(bS m).length,[],(bS m).length),()):=by
 have hml:(bS m).length=m.length:=by simp[bS]
 refine kJ (r:=.bool) rfl es _ ?_;refine bM m.length (λk t=>∃ seen es',t=(es',(bS m,(bS m).length,seen,(bS m).length),())/\(cT m.length seen).length+k<=m.length/\Seen es' (λid=>S id\/∃ i,∃ h:i<m.length,i∈seen/\m[i].1=id)) ⟨[],es,rfl,by rw[AO];omega,hS.congr (by simp)⟩ ?_;rintro X k t hk ⟨seen,es',rfl,hlen,hJ⟩ hX;dsimp only;refine ⟨by simp,?_,?_⟩
 ·intro hm;rw[hml] at hm;refine hgood _ _ (hJ.congr λid=>⟨λh=>h.imp_right λ⟨i,hi,_,e⟩=>⟨i,hi,e⟩,λh=>h.imp_right λ⟨i,hi,e⟩=>⟨i,hi,?_,e⟩⟩);refine Classical.byContradiction λhc=>?_;have:i∈cT m.length seen:=nC.2 ⟨hi,hc⟩;rw[hm] at this;cases this
 ·intro i hi;rw[hml] at hi;have hi1:=(nC.1 hi).1;have hst:=wW hi;refine ⟨by simp,A3Q hi1 _ ?_⟩;refine APX (r:=.bool) rfl (es:=es') (k:=m[i].1) (v:=true) (hX _ (by omega) ⟨seen++[i],_,rfl,by omega,(hJ.ins _).congr λid=>⟨?_,?_⟩⟩)
  ·rintro ((h|⟨j,hj,hm,e⟩)|h)
   ·exact .inl h
   ·exact .inr ⟨j,hj,by simp[hm],e⟩
   ·exact .inr ⟨i,hi1,by simp,h⟩
  ·rintro (h|⟨j,hj,hm,e⟩)
   ·exact .inl (.inl h)
   ·rcases List.mem_append.1 hm with hm|hm
    ·exact .inl (.inr ⟨j,hj,hm,e⟩)
    ·simp at hm;subst hm;exact .inr e
def ltN (a b:bI):Bool:=decide (a.1<b.1)||(decide (a.1=b.1)&&(cK a.2.1 b.2.1||(decide (a.2.1=b.2.1)&&cK a.2.2 b.2.2)))
def QM:List bI->Bool
 | a::b::l=>ltN a b&&QM (b::l)
 | _=>true
def ATB {l:List bI} {k:Nat} (h:k+1<l.length):QM (l.drop k)=(ltN l[k] l[k+1]&&QM (l.drop (k+1))):=by
 rw[List.drop_eq_getElem_cons (show k<l.length by omega),List.drop_eq_getElem_cons h,QM]
def A2L {l:List bI} {k:Nat} (h:l.length<=k+1):QM (l.drop k)=true:=by
 rcases Nat.lt_or_ge k l.length with h1|h1
 ·rw[List.drop_eq_getElem_cons h1,List.drop_eq_nil_of_le h];rfl
 ·rw[List.drop_eq_nil_of_le h1];rfl
def XE (k:iII) (v:Int) (id:iII):∀ es:List (iII×Int),id∈(oF es k v).map (λe=>e.1)↔id∈es.map (λe=>e.1)\/id=k
 | []=>by simp[oF]
 | e::es=>by
  simp only[oF];split
  ·rename_i h;simp only[List.map_cons,List.mem_cons];rw[<-h];constructor
   ·rintro (h|h)
    ·exact .inl (.inl h)
    ·exact .inl (.inr h)
   ·rintro ((h|h)|h)
    ·exact .inl h
    ·exact .inr h
    ·exact .inl h
  ·simp only[List.map_cons,List.mem_cons,XE k v id es,or_assoc]
def XG (id:iII):∀ (l:List iII) (i:Nat) (es:List (iII×Int)),id∈(KY l i es).map (λe=>e.1)↔id∈es.map (λe=>e.1)\/id∈l
 | [],i,es=>by simp[KY]
 | a::l,i,es=>by
  simp only[KY];rw[XG id l];cases h:fS es a with
  | none=>simp only[XE,List.mem_cons,or_assoc]
  | some v =>
   simp only[List.mem_cons];have ha:a∈es.map (λe=>e.1):=by
    rcases rU a es with ⟨h1,_⟩|⟨j,hj,h1,_⟩
    ·rw[h] at h1;cases h1
    ·exact List.mem_map.2 ⟨es[j],ak hj,h1⟩
   constructor
   ·rintro (h|h)
    ·exact .inl h
    ·exact .inr (.inr h)
   ·rintro (h|rfl|h)
    ·exact .inl h
    ·exact .inl ha
    ·exact .inr h
def lZ {l:List iII} {id:iII}:(∃ i,∃ h:i<(jK l).length,(jK l)[i].1=id)↔id∈l:=by
 have h:=XG id l 0 [];simp only[List.map_nil,List.not_mem_nil,false_or] at h;rw[<-h,List.mem_map];constructor
 ·rintro ⟨i,hi,e⟩;exact ⟨_,ak hi,e⟩
 ·rintro ⟨e,he,h⟩;obtain ⟨i,hi,rfl⟩:=List.mem_iff_getElem.1 he;exact ⟨i,hi,h⟩
def EI (a0:aB) (m1:List aE) (m2:List aE) (m3:List aE) (m4:List aE):List T:=[UG a0 m1 m2 m3 m4]
def AIK:Env:=Env.of [(123,.pure x6)]
def A1K:FuncId->Hint:=λf=>match f == 87 with|true=>⟨λr=>match r == 9 with|true=>.inv [.val 4 false .bool,.val 5 false (.int .i64)]|false=>match r == 17 with|true=>.UI 5|false=>match r == 20 with|true=>.alts [[.cF 30],[.cF 29],[.cF 28],[.cF 27],[.cF 26],[.cF 25],[.cF 24],[.cF 23],[.cF 22],[.cF 21],[.cF 20],[.cF 19],[.cF 18],[.cF 17],[.cF 16],[.cF 15],[.cF 14],[.cF 13],[.cF 12],[.cF 11],[.cF 10],[.cF 9],[.cF 8],[.cF 7],[.cF 6],[.cF 5],[.cF 4],[.cF 3],[.cF 2]]|false=>match r == 25 with|true=>.alts [[.map 2 .str false .bool,.cF 30],[.map 2 .str false .bool,.cF 29],[.map 2 .str false .bool,.cF 28],[.map 2 .str false .bool,.cF 27],[.map 2 .str false .bool,.cF 26],[.map 2 .str false .bool,.cF 25],[.map 2 .str false .bool,.cF 24],[.map 2 .str false .bool,.cF 23],[.map 2 .str false .bool,.cF 22],[.map 2 .str false .bool,.cF 21],[.map 2 .str false .bool,.cF 20],[.map 2 .str false .bool,.cF 19],[.map 2 .str false .bool,.cF 18],[.map 2 .str false .bool,.cF 17],[.map 2 .str false .bool,.cF 16],[.map 2 .str false .bool,.cF 15],[.map 2 .str false .bool,.cF 14],[.map 2 .str false .bool,.cF 13],[.map 2 .str false .bool,.cF 12],[.map 2 .str false .bool,.cF 11],[.map 2 .str false .bool,.cF 10],[.map 2 .str false .bool,.cF 9],[.map 2 .str false .bool,.cF 8],[.map 2 .str false .bool,.cF 7],[.map 2 .str false .bool,.cF 6],[.map 2 .str false .bool,.cF 5],[.map 2 .str false .bool,.cF 4],[.map 2 .str false .bool,.cF 3],[.map 2 .str false .bool,.cF 2]]|false=>.none,λi j=>match i == 5&&j == 5 with|true=>some [.val 4 false .bool]|false=>match i == 6&&j == 6 with|true=>some [.val 4 false .bool]|false=>match i == 7&&j == 7 with|true=>some [.val 4 false .bool]|false=>none,λr=>match r == 21 with|true=>some (.str,false,(.int .i64))|false=>match r == 26 with|true=>some (.str,false,(.int .i64))|false=>none⟩|false=>bA
def AZL:aU Tryz.prog AIK:=.cons BGC (.nil _)
def f8(a0:aB):List T:=[pPQ a0.1, T.sl false (AC a0), T.sl false (FS a0), T.sl false (v6 a0), T.sl false (m9 a0), T.sl false (IR a0)]
def i8(a0:aB):List T:=[pPQ a0.1,T.sl false (AC a0), T.sl false (FS a0), T.sl false (v6 a0), T.sl false (m9 a0), T.sl false (IR a0)]
def AJZ(a0:aB)(m1:List aE)(m2:List aE)(m3:List aE)(m4:List aE)(R:T->Prop):Prop:=aC (decide (64<(↑(AC a0).length:Int))) (R (pPP 4)) (aC (decide (256<(↑(FS a0).length:Int))) (R (pPP 4)) (aC (decide (256<(↑(v6 a0).length:Int))) (R (pPP 4)) (aC (decide (64<(↑(m9 a0).length:Int))) (R (pPP 4)) (aC (decide (256<(↑(IR a0).length:Int))) (R (pPP 4)) (aJ d6 (x6 [pPP (↑(AC a0).length:Int), T.fn 124 [] [T.ref [T.ref (i8 a0)]]]) λ(y0:Bool)=>sZ (Bool×PUnit) (λ(X1:Bool×PUnit->Prop)=>aC y0 (aJ d6 (x6 [pPP (↑(FS a0).length:Int), T.fn 125 [] [T.ref [T.ref (f8 a0)]]]) λ(y2:Bool)=>X1 (y2,())) (X1 (false,()))) λ(s3:Bool×PUnit)=>sZ (Bool×PUnit) (λ(X4:Bool×PUnit->Prop)=>aC s3.1 (aJ d6 (x6 [pPP (↑(v6 a0).length:Int), T.fn 126 [] [T.ref [T.ref (f8 a0)]]]) λ(y5:Bool)=>X4 (y5,())) (X4 (false,()))) λ(s6:Bool×PUnit)=>sZ (Bool×PUnit) (λ(X7:Bool×PUnit->Prop)=>aC s6.1 (aJ d6 (x6 [pPP (↑(m9 a0).length:Int), T.fn 127 [] [T.ref [T.ref (f8 a0)]]]) λ(y8:Bool)=>X7 (y8,())) (X7 (false,()))) λ(s9:Bool×PUnit)=>bB (Bool×Int×PUnit) (λX10 s11=>aC (decide (s11.2.1<(↑(IR a0).length:Int))) (aR aZ (IR a0) (i64.wrap (s11.2.1-1)) λ(y12:bI)=>aR aZ (IR a0) s11.2.1 λ(y13:bI)=>aC s11.1 (aC (decide (y12.1<y13.1)) (X10 (true,i64.wrap (s11.2.1+1),())) (aC (decide (y12.1=y13.1)) (aC (cK y12.2.1 y13.2.1) (X10 (true,i64.wrap (s11.2.1+1),())) (aC (decide (y12.2.1=y13.2.1)) (X10 (cK y12.2.2 y13.2.2,i64.wrap (s11.2.1+1), ())) (X10 (false,i64.wrap (s11.2.1+1),())))) (X10 (false,i64.wrap (s11.2.1+1),())))) (X10 (false,i64.wrap (s11.2.1+1),()))) (aC (!s11.1) (R (pPP 11)) (bB ((List (Value×T)×Nat×List Nat×Nat)×PUnit) (λ(X14:(List (Value×T)×Nat×List Nat×Nat)×PUnit->Prop) (s15:(List (Value×T)×Nat×List Nat×Nat)×PUnit)=>bL (decide (s15.1.1.length<=s15.1.2.1) && decide (s15.1.2.1<=s15.1.2.2.2)) (sQ s15.1.1.length s15.1.2.2.1 (cV Sy.str false Sy.bool [] λ(y16:List (iII×Bool))=>bB (List (iII×Bool) × (List (Value×T)×Nat×List Nat×Nat)×PUnit) (λ(X17 : List (iII×Bool) × (List (Value×T)×Nat×List Nat×Nat)×PUnit -> Prop) (s18 : List (iII×Bool) × (List (Value×T)×Nat×List Nat×Nat)×PUnit)=>bL (decide (s18.2.1.1.length<=s18.2.1.2.1) && decide (s18.2.1.2.1<=s18.2.1.2.2.2)) (sQ s18.2.1.1.length s18.2.1.2.2.1 (bB ((List (Value×T)×Nat×List Nat×Nat)×PUnit) (λ(X19 : (List (Value×T)×Nat×List Nat×Nat)×PUnit->Prop) (oC:(List (Value×T)×Nat×List Nat×Nat)×PUnit)=>bL (decide (oC.1.1.length<=oC.1.2.1) && decide (oC.1.2.1<=oC.1.2.2.2)) (sQ oC.1.1.length oC.1.2.2.1 (cV Sy.str false Sy.bool (List.map (b6 Sy.str false Sy.bool) s18.1) λ(y21:List (iII×Bool))=>bB (List (iII×Bool) × (List (Value×T)×Nat×List Nat×Nat)×PUnit) (λ(X22 : List (iII×Bool) × (List (Value×T)×Nat×List Nat×Nat) × PUnit -> Prop) (s23 : List (iII×Bool) × (List (Value×T)×Nat×List Nat×Nat) × PUnit)=>bL (decide (s23.2.1.1.length<=s23.2.1.2.1) && decide (s23.2.1.2.1<=s23.2.1.2.2.2)) (sQ s23.2.1.1.length s23.2.1.2.2.1 (bB ((List (Value×T)×Nat×List Nat×Nat) × PUnit) (λ(X24 : (List (Value×T) × Nat×List Nat×Nat) × PUnit -> Prop) (s25 : (List (Value×T) × Nat×List Nat×Nat) × PUnit)=>bL (decide (s25.1.1.length<=s25.1.2.1) && decide (s25.1.2.1<=s25.1.2.2.2)) (sQ s25.1.1.length s25.1.2.2.1 (cV Sy.str false Sy.bool (List.map (b6 Sy.str false Sy.bool) s23.1) λ(y26:List (iII×Bool))=>bB (List (iII×Bool) × (List (Value×T) × Nat×List Nat×Nat) × PUnit) (λ(X27 : List (iII×Bool) × (List (Value×T) × Nat×List Nat×Nat) × PUnit -> Prop) (s28 : List (iII×Bool) × (List (Value×T) × Nat×List Nat×Nat) × PUnit)=>bL (decide (s28.2.1.1.length <= s28.2.1.2.1) && decide (s28.2.1.2.1 <= s28.2.1.2.2.2)) (sQ s28.2.1.1.length s28.2.1.2.2.1 (bB ((List (Value×T) × Nat×List Nat×Nat) × PUnit) (λ(X29 : (List (Value×T) × Nat×List Nat×Nat) × PUnit -> Prop) (s30 : (List (Value×T) × Nat×List Nat×Nat) × PUnit)=>bL (decide (s30.1.1.length <= s30.1.2.1) && decide (s30.1.2.1 <= s30.1.2.2.2)) (sQ s30.1.1.length s30.1.2.2.1 (cV Sy.str false Sy.bool (List.map (b6 Sy.str false Sy.bool) s28.1) λ(y31 : List (iII×Bool))=>bB (List (iII×Bool) × (List (Value × T) × Nat × List Nat×Nat) × PUnit) (λ(X32 : List (iII × Bool) × (List (Value × T) × Nat × List Nat × Nat) × PUnit -> Prop) (s33 : List (iII × Bool) × (List (Value × T) × Nat × List Nat × Nat) × PUnit)=>bL (decide (s33.2.1.1.length <= s33.2.1.2.1) && decide (s33.2.1.2.1 <= s33.2.1.2.2.2)) (sQ s33.2.1.1.length s33.2.1.2.2.1 (R (pPP 0)) λ(i34:Nat)=>bL (decide (s33.2.1.1.length = s33.2.1.1.length)) (CU Sy.str false bF (sA s33.2.1.1) (s33.2.1.2.2.1 ++ [i34]) λ(k35 : iII) (y36:Int)=>eT (Option (Nat × D)) (findD TypeDesc.string (SG Sy.str k35) (List.map (b6 Sy.str false Sy.bool) s33.1) 0) λ(y37 : Option (Nat × D))=>cV Sy.str false Sy.bool (eP (List.map (b6 Sy.str false Sy.bool) s33.1) y37 (Value.string k35) (D.p d7)) λ(y38 : List (iII × Bool))=>X32 (y38, (s33.2.1.1, s33.2.1.2.1, s33.2.1.2.2.1 ++ [i34], s33.2.1.1.length), ())))) (y31, (bS m4, (bS m4).length, [], (bS m4).length), ())) λ(i39:Nat)=>bL (decide (s30.1.1.length = s30.1.1.length)) (CU Sy.str false bF (sA s30.1.1) (s30.1.2.2.1 ++ [i39]) λ(k40:iII) (y41:Int)=>iF TypeDesc.string (Value.string k40) (List.map (b6 Sy.str false Sy.bool) s28.1) false Sy.bool (X29 ((s30.1.1, s30.1.2.1, s30.1.2.2.1 ++ [i39], s30.1.1.length), ())) λ(i42:Nat) (y43:Bool)=>aC y43 (R (pPP 7)) (X29 ((s30.1.1, s30.1.2.1, s30.1.2.2.1 ++ [i39], s30.1.1.length), ()))))) ((bS m4, (bS m4).length,[], (bS m4).length), ())) λ(i44:Nat)=>bL (decide (s28.2.1.1.length = s28.2.1.1.length)) (CU Sy.str false bF (sA s28.2.1.1) (s28.2.1.2.2.1++[i44]) λ(k45:iII) (y46:Int)=>eT (Option (Nat×D)) (findD TypeDesc.string (SG Sy.str k45) (List.map (b6 Sy.str false Sy.bool) s28.1) 0) λ(y47 : Option (Nat×D))=>cV Sy.str false Sy.bool (eP (List.map (b6 Sy.str false Sy.bool) s28.1) y47 (Value.string k45) (D.p d7)) λ(y48 : List (iII×Bool))=>X27 (y48, (s28.2.1.1, s28.2.1.2.1, s28.2.1.2.2.1 ++ [i44], s28.2.1.1.length), ())))) (y26, (bS m3,(bS m3).length,[], (bS m3).length), ())) λ(i49:Nat)=>bL (decide (s25.1.1.length=s25.1.1.length)) (CU Sy.str false bF (sA s25.1.1) (s25.1.2.2.1++[i49]) λ(k50:iII) (y51:Int)=>iF TypeDesc.string (Value.string k50) (List.map (b6 Sy.str false Sy.bool) s23.1) false Sy.bool (X24 ((s25.1.1,s25.1.2.1, s25.1.2.2.1++[i49], s25.1.1.length), ())) λ(i52:Nat) (y53:Bool)=>aC y53 (R (pPP 7)) (X24 ((s25.1.1,s25.1.2.1, s25.1.2.2.1++[i49], s25.1.1.length), ()))))) ((bS m3,(bS m3).length,[], (bS m3).length), ())) λ(i54:Nat)=>bL (decide (s23.2.1.1.length=s23.2.1.1.length)) (CU Sy.str false bF (sA s23.2.1.1) (s23.2.1.2.2.1++[i54]) λ(k55:iII) (y56:Int)=>eT (Option (Nat×D)) (findD TypeDesc.string (SG Sy.str k55) (List.map (b6 Sy.str false Sy.bool) s23.1) 0) λ(y57:Option (Nat×D))=>cV Sy.str false Sy.bool (eP (List.map (b6 Sy.str false Sy.bool) s23.1) y57 (Value.string k55) (D.p d7)) λ(y58:List (iII×Bool))=>X22 (y58, (s23.2.1.1,s23.2.1.2.1, s23.2.1.2.2.1++[i54], s23.2.1.1.length), ())))) (y21, (bS m2,(bS m2).length,[], (bS m2).length), ())) λ(i59:Nat)=>bL (decide (oC.1.1.length=oC.1.1.length)) (CU Sy.str false bF (sA oC.1.1) (oC.1.2.2.1++[i59]) λ(k60:iII) (y61:Int)=>iF TypeDesc.string (Value.string k60) (List.map (b6 Sy.str false Sy.bool) s18.1) false Sy.bool (X19 ((oC.1.1,oC.1.2.1, oC.1.2.2.1++[i59],oC.1.1.length), ())) λ(i62:Nat) (y63:Bool)=>aC y63 (R (pPP 7)) (X19 ((oC.1.1,oC.1.2.1, oC.1.2.2.1++[i59],oC.1.1.length), ()))))) ((bS m2,(bS m2).length,[],(bS m2).length),())) λ(i64:Nat)=>bL (decide (s18.2.1.1.length=s18.2.1.1.length)) (CU Sy.str false bF (sA s18.2.1.1) (s18.2.1.2.2.1++[i64]) λ(k65:iII) (y66:Int)=>eT (Option (Nat×D)) (findD TypeDesc.string (SG Sy.str k65) (List.map (b6 Sy.str false Sy.bool) s18.1) 0) λ(y67:Option (Nat×D))=>cV Sy.str false Sy.bool (eP (List.map (b6 Sy.str false Sy.bool) s18.1) y67 (Value.string k65) (D.p d7)) λ(y68:List (iII×Bool))=>X17 (y68, (s18.2.1.1,s18.2.1.2.1, s18.2.1.2.2.1++[i64],s18.2.1.1.length), ())))) (y16,(bS m1,(bS m1).length,[],(bS m1).length),())) λ(i69:Nat)=>bL (decide (s15.1.1.length=s15.1.1.length)) (CU Sy.str false bF (sA s15.1.1) (s15.1.2.2.1++[i69]) λ(k70:iII) (y71:Int)=>iF TypeDesc.string (Value.string k70) [] false Sy.bool (X14 ((s15.1.1,s15.1.2.1,s15.1.2.2.1++[i69], s15.1.1.length), ())) λ(i72:Nat) (y73:Bool)=>aC y73 (R (pPP 7)) (X14 ((s15.1.1,s15.1.2.1,s15.1.2.2.1++[i69], s15.1.1.length), ()))))) ((bS m1,(bS m1).length,[],(bS m1).length),())))) (s9.1,1,()))))))
def AST ( a0 m1 m2 m3 m4 R):eX cD Tryz.prog AIK A1K 8 87 (EI a0 m1 m2 m3 m4) R=AJZ a0 m1 m2 m3 m4 R:=by kernel_rfl
abbrev MP:=List (iII×Int)
def GP {a b:MP} (h:bS a=bS b):a=b:=map_inj (λx y h=>by
 simp only[Prod.mk.injEq,Value.string.injEq,T.v.injEq,Value.int.injEq,true_and] at h;exact Prod.ext h.1 h.2) h
def r6 {x y:aB×MP×MP×MP×MP} (h:UG x.1 x.2.1 x.2.2.1 x.2.2.2.1 x.2.2.2.2=UG y.1 y.2.1 y.2.2.1 y.2.2.2.1 y.2.2.2.2):x=y:=by
 simp only[UG,T.ref.injEq,List.cons.injEq,T.mp.injEq,and_true] at h;obtain ⟨h0,h1,h2,h3,h4⟩:=h;exact Prod.ext (Sy.dV aD _ _ h0) (Prod.ext (GP h1) (Prod.ext (GP h2) (Prod.ext (GP h3) (GP h4))))
def AIB (x y:aB×MP×MP×MP×MP) (h:EI x.1 x.2.1 x.2.2.1 x.2.2.2.1 x.2.2.2.2=EI y.1 y.2.1 y.2.2.1 y.2.2.2.1 y.2.2.2.2):x=y:=r6 (List.cons.inj h).1
def oB (d:aB):Bool:=decide (64<d.2.1.length)||decide (256<d.2.2.1.length)||decide (256<d.2.2.2.1.length)||decide (64<d.2.2.2.2.1.length)||decide (256<d.2.2.2.2.2.length)
def iW (d:aB):Bool:=pY (ids d.2.1)&&pY (ids d.2.2.1)&&pY (ids d.2.2.2.1)&&pY (ids d.2.2.2.2.1)&&QM d.2.2.2.2.2
def BHT (l1 l2 l3 l4:List iII):Bool:=(l2.any (AA5 l1))||(l3.any λx=>AA5 l1 x||AA5 l2 x)||(l4.any λx=>AA5 l1 x||AA5 l2 x||AA5 l3 x)
def ATQ (d:aB):Bool:=BHT (ids d.2.1) (ids d.2.2.1) (ids d.2.2.2.1) (ids d.2.2.2.2.1)
def pA (d:aB):Int:=if oB d=true then 4 else if iW d=false then 11 else if ATQ d=true then 7 else 0
def BLA (x:aB×MP×MP×MP×MP):Bool:=decide (x.2.1=jK (ids x.1.2.1))&&decide (x.2.2.1=jK (ids x.1.2.2.1))&&decide (x.2.2.2.1=jK (ids x.1.2.2.2.1))&&decide (x.2.2.2.2=jK (ids x.1.2.2.2.2.1)) &&
 (decide (x.1.2.1.length<=140737488355328)&&decide (x.1.2.2.1.length<=140737488355328)&&decide (x.1.2.2.2.1.length<=140737488355328)&&decide (x.1.2.2.2.2.1.length<=140737488355328)&&decide (x.1.2.2.2.2.2.length<=140737488355328))
structure oJ (d:aB):Prop where
 n:d.2.1.length<=140737488355328
 p:d.2.2.1.length<=140737488355328
 s:d.2.2.2.1.length<=140737488355328
 k:d.2.2.2.2.1.length<=140737488355328
 r:d.2.2.2.2.2.length<=140737488355328
def SZ {x:aB×MP×MP×MP×MP}:BLA x=true↔x=(x.1,jK (ids x.1.2.1),jK (ids x.1.2.2.1),jK (ids x.1.2.2.2.1),jK (ids x.1.2.2.2.2.1))/\oJ x.1:=by
 obtain ⟨d,a,b,c,e⟩:=x;simp only[BLA,ac,ah,Prod.mk.injEq,true_and];constructor
 ·rintro ⟨⟨⟨⟨rfl,rfl⟩,rfl⟩,rfl⟩,⟨⟨⟨h1,h2⟩,h3⟩,h4⟩,h5⟩;exact ⟨⟨rfl,rfl,rfl,rfl⟩,h1,h2,h3,h4,h5⟩
 ·rintro ⟨⟨rfl,rfl,rfl,rfl⟩,h1,h2,h3,h4,h5⟩;exact ⟨⟨⟨⟨rfl,rfl⟩,rfl⟩,rfl⟩,⟨⟨⟨h1,h2⟩,h3⟩,h4⟩,h5⟩
def xU (x:aB×MP×MP×MP×MP) (t:T):Option T:=match BLA x with
 | true=>some t
 | false=>none
def pH {x:aB×MP×MP×MP×MP} {t r:T} (h:xU x t=some r):x=(x.1,jK (ids x.1.2.1),jK (ids x.1.2.2.1),jK (ids x.1.2.2.2.1),jK (ids x.1.2.2.2.2.1))/\oJ x.1/\r=t:=by
 unfold xU at h;split at h
 ·rename_i hc;cases h;exact ⟨(SZ.1 hc).1,(SZ.1 hc).2,rfl⟩
 ·cases h
def pJ {d:aB} (h:oJ d) (t:T):xU (d,jK (ids d.2.1),jK (ids d.2.2.1),jK (ids d.2.2.2.1),jK (ids d.2.2.2.2.1)) t=some t:=by
 unfold xU;rw[SZ.2 ⟨rfl,h⟩]
def ACA (x:aB×MP×MP×MP×MP):Option T:=xU x (T.v (Value.int .i64 (pA x.1)))
def R4:List T->Option (T):=gA (λ(x:aB×List aE×List aE×List aE×List aE)=>EI x.1 x.2.1 x.2.2.1 x.2.2.2.1 x.2.2.2.2) ACA
def AU9 (a0:aB) (m1:List aE) (m2:List aE) (m3:List aE) (m4:List aE):R4 (EI a0 m1 m2 m3 m4)=ACA (a0,m1,m2,m3,m4):=gG (A:=(λ(x:aB×List aE×List aE×List aE×List aE)=>EI x.1 x.2.1 x.2.2.1 x.2.2.2.1 x.2.2.2.2)) AIB (a0,m1,m2,m3,m4)
def BET (h:∀ (a0:aB) (m1:List aE) (m2:List aE) (m3:List aE) (m4:List aE) (r:T),ACA (a0,m1,m2,m3,m4)=some r->(∀ t∈EI a0 m1 m2 m3 m4,Bd t)->AJZ a0 m1 m2 m3 m4 (λy=>y=r)):aP Tryz.prog 87 R4 :=
 cZ (E:=AIK) (Hs:=A1K) AZL aY a6 (aO rfl) 8 ⟨_,_,Tryz.func87,rfl⟩ λx r h1 h2=>by
  rw[AST];exact h x.1 x.2.1 x.2.2.1 x.2.2.2.1 x.2.2.2.2 r h1 h2
def OG {A:List T} {b:Bool} (h:x6 A=some (pPR b)) (K:Bool->Prop) (hk:K b):aJ [(false,Sy.bool)] (x6 A) K:=aF (s:=[(false,Sy.bool)]) (y:=b) h hk
def BC8:aP Tryz.prog 87 R4:=BET λd m1 m2 m3 m4 r h hb=>by
 obtain ⟨hx,hs,rfl⟩:=pH h;simp only[Prod.mk.injEq,true_and] at hx;obtain ⟨rfl,rfl,rfl,rfl⟩:=hx;clear h;have is:∀ {n:Int},pA d=n->T.v (.int .i64 n)=T.v (.int .i64 (pA d)):=λh=>by rw[h]
 have long:oB d=true->pA d=4:=λh=>by unfold pA;rw[if_pos h]
 unfold AJZ i8 f8 IR FS AC v6 m9 d7 d6 bF;refine cA (λh=>is (long (by rw[ae] at h;simp only[oB,Bool.or_eq_true,ah];omega))) λl1=>?_;refine cA (λh=>is (long (by rw[ae] at h;simp only[oB,Bool.or_eq_true,ah];omega))) λl2=>?_;refine cA (λh=>is (long (by rw[ae] at h;simp only[oB,Bool.or_eq_true,ah];omega))) λl3=>?_;refine cA (λh=>is (long (by rw[ae] at h;simp only[oB,Bool.or_eq_true,ah];omega))) λl4=>?_;refine cA (λh=>is (long (by rw[ae] at h;simp only[oB,Bool.or_eq_true,ah];omega))) λl5=>?_;rw[ae] at l1 l2 l3 l4 l5;have notLong:oB d=false:=by simp only[oB,Bool.or_eq_false_iff,decide_eq_false_iff_not];omega
 refine OG (by rw[ae];exact BJD hs.n) _ ?_;have step:∀ {b c:Bool} {A:List T} {Z:Bool×PUnit->Prop},x6 A=some (T.v (.bool c))->Z (b&&c,())->sZ (Bool×PUnit) (λ(X:Bool×PUnit->Prop)=>aC b (aJ [(false,Sy.bool)] (x6 A) λ(y2:Bool)=>X (y2,())) (X (false,()))) Z:=λ{b c A Z} hA hZ=>by
  rw[BY];cases b with
  | true=>rw[j8];exact OG hA _ hZ
  | false=>rw[pT];exact hZ
 refine step (by rw[ae];exact BJE hs.p) ?_;refine step (by rw[ae];exact BJF hs.s) ?_;refine step (by rw[ae];exact BJG hs.k) ?_;refine bM d.2.2.2.2.2.length (λk s=>∃ b,s=(b,((k+1:Nat):Int),())/\(b&&QM (d.2.2.2.2.2.drop k))=iW d) ⟨_,rfl,by rw[List.drop_zero];rfl⟩ ?_;rintro X k s hk ⟨b,rfl,he⟩ hX;dsimp only;have hr:=hs.r;have hw:i64.wrap (((k+1:Nat):Int)+1)=((k+1+1:Nat):Int):=bG _ (by omega) (by omega);have hw1:i64.wrap (((k+1:Nat):Int)-1)=((k:Nat):Int):=by rw[bG _ (by omega) (by omega)];omega
 refine cA (λhlt=>?_) λhge=>?_
 ·have hlt:k+1<d.2.2.2.2.2.length:=by rw[ae] at hlt;omega
  rw[hw1,bE (r:=aZ) (show k<d.2.2.2.2.2.length by omega),bE (r:=aZ) hlt,hw];rw[ATB hlt] at he;have go:∀ c,(b&&ltN d.2.2.2.2.2[k] d.2.2.2.2.2[k+1])=c->X (c,((k+1+1:Nat):Int),()):=λc hc=>hX _ (by omega) ⟨c,rfl,by rw[<-hc,Bool.and_assoc];exact he⟩;generalize d.2.2.2.2.2[k]=u at go;generalize d.2.2.2.2.2[k+1]=v at go;cases b with
  | false=>rw[pT];exact go _ rfl
  | true =>
   rw[j8];simp only[Bool.true_and,ltN] at go;refine cA (λh=>go _ (by simp[h])) λh1=>?_;refine cA (λh2=>?_) λh2=>go _ (by simp[h1,h2]);refine sX (λh3=>go _ (by simp[h2,h3])) λh3=>?_;refine cA (λh4=>go _ (by rw[aj h1,ai h2,h3,ai h4];rfl)) λh4=>go _ (by rw[aj h1,ai h2,h3,aj h4];rfl)
 ·rw[ae] at hge;rw[A2L (by omega),Bool.and_true] at he;refine fJ (λh=>is (by unfold pA;rw[notLong,if_neg (by simp),<-he,h];rfl)) λh=>?_;have dup:ATQ d=true->T.v (.int .i64 7)=T.v (.int .i64 (pA d)):=λh7=>is (by unfold pA;rw[notLong,if_neg (by simp),<-he,h,if_neg (by simp),if_pos h7]);have dup':(∃ i,∃ h:i<(jK (ids d.2.2.1)).length,(jK (ids d.2.2.1))[i].1∈ids d.2.1)\/(∃ i,∃ h:i<(jK (ids d.2.2.2.1)).length,(jK (ids d.2.2.2.1))[i].1∈ids d.2.1\/(jK (ids d.2.2.2.1))[i].1∈ids d.2.2.1)\/(∃ i,∃ h:i<(jK (ids d.2.2.2.2.1)).length,((jK (ids d.2.2.2.2.1))[i].1∈ids d.2.1\/(jK (ids d.2.2.2.2.1))[i].1∈ids d.2.2.1)\/(jK (ids d.2.2.2.2.1))[i].1∈ids d.2.2.2.1)->ATQ d=true:=by
   intro h;simp only[ATQ,BHT,Bool.or_eq_true,List.any_eq_true,IC];rcases h with ⟨i,hi,h⟩|⟨i,hi,h⟩|⟨i,hi,h⟩
   ·exact .inl (.inl ⟨_,lZ.1 ⟨i,hi,rfl⟩,h⟩)
   ·exact .inl (.inr ⟨_,lZ.1 ⟨i,hi,rfl⟩,h⟩)
   ·exact .inr ⟨_,lZ.1 ⟨i,hi,rfl⟩,h⟩
  have m1:=λid=>(@lZ (ids d.2.1) id)
  refine BCG (m:=jK (ids d.2.1)) (es:=[]) (R7:=T.v (.int .i64 7)=T.v (.int .i64 (pA d))) Seen.nil (λh=>by obtain ⟨_,_,h⟩:=h;exact h.elim) λ_=>?_;refine BB3 (m:=jK (ids d.2.1)) (es:=[]) Seen.nil λe1 rs1 s1=>?_;have s1:=s1.congr (S':=λid=>id∈ids d.2.1) λid=>by rw[lZ];simp
  refine BCG (m:=jK (ids d.2.2.1)) s1 (λh=>dup (dup' (.inl h))) λn1=>?_;refine BB3 (m:=jK (ids d.2.2.1)) s1 λe2 rs2 s2=>?_;have s2:=s2.congr (S':=λid=>id∈ids d.2.1\/id∈ids d.2.2.1) λid=>by rw[lZ]
  refine BCG (m:=jK (ids d.2.2.2.1)) s2 (λh=>dup (dup' (.inr (.inl h)))) λn2=>?_;refine BB3 (m:=jK (ids d.2.2.2.1)) s2 λe3 rs3 s3=>?_;have s3:=s3.congr (S':=λid=>(id∈ids d.2.1\/id∈ids d.2.2.1)\/id∈ids d.2.2.2.1) λid=>by rw[lZ]
  refine BCG (m:=jK (ids d.2.2.2.2.1)) s3 (λh=>dup (dup' (.inr (.inr h)))) λn3=>?_;refine BB3 (m:=jK (ids d.2.2.2.2.1)) s3 λe4 rs4 s4=>is ?_;have nd:ATQ d=false:=by
   rw[Bool.eq_false_iff];intro h;simp only[ATQ,BHT,Bool.or_eq_true,List.any_eq_true,IC] at h;rcases h with (⟨x,hx,h⟩|⟨x,hx,h⟩)|⟨x,hx,h⟩
   ·obtain ⟨i,hi,rfl⟩:=lZ.2 hx;exact n1 i hi h
   ·obtain ⟨i,hi,rfl⟩:=lZ.2 hx;exact n2 i hi h
   ·obtain ⟨i,hi,rfl⟩:=lZ.2 hx;exact n3 i hi h
  unfold pA;rw[notLong,if_neg (by simp),<-he,h,if_neg (by simp),nd,if_neg (by simp)]
end Go.Pv
namespace Go.Pv
open Go Go.Proofs IntKind
def BOA:List T->Option T:=λ_=>none
variable {P:Program}
def aP.nil {f:FuncId} (h:∃ fn,P.funcs[f]? = some fn/\(fn.name == "runtime.NumGoroutine")=false/\fn.body.isNone=false):aP P f BOA:=⟨h,λ_ _ _ _ _ _ _ _ h=>by cases h⟩
def AGV (es:MP):sA (bS es)=List.map (b6 Sy.str false (Sy.int IntKind.i64)) es:=by
 unfold sA bS;rw[List.map_map];rfl
def W9 {α:Type} (id:iII):∀ (l:List (iII×α)) (i:Nat) (es:MP),(∃ v,fS es id=some v/\fS (KY (ids l) i es) id=some v)\/(fS es id=none/\fS (KY (ids l) i es) id=none/\l.find? (λs=>decide (s.1=id))=none) \/
  (fS es id=none/\∃ k,∃ h:k<l.length,fS (KY (ids l) i es) id=some ((i+k:Nat):Int)/\l.find? (λs=>decide (s.1=id))=some l[k])
 | [],i,es=>by
  cases h:fS es id with
  | none=>exact .inr (.inl ⟨rfl,by simpa [ids,KY] using h,rfl⟩)
  | some v=>exact .inl ⟨v,rfl,by simpa [ids,KY] using h⟩
 | a::l,i,es=>by
  have hs:ids (a::l)=a.1::ids l:=rfl;rw[hs];simp only[KY];have ih:=W9 id l (i+1) (match fS es a.1 with|none=>oF es a.1 (i:Int)|some _=>es);by_cases ha:a.1=id
  ·subst ha;cases hc:fS es a.1 with
   | some v =>
    simp only[hc] at ih ⊢;rcases ih with ⟨v',h1,h2⟩|⟨h1,_⟩|⟨h1,_⟩
    ·exact .inl ⟨v',h1,h2⟩
    ·cases h1
    ·cases h1
   | none =>
    simp only[hc] at ih ⊢;have hg:fS (oF es a.1 (i:Int)) a.1=some (i:Int):=by rw[zN];simp
    rw[hg] at ih;rcases ih with ⟨v',h1,h2⟩|⟨h1,_⟩|⟨h1,_⟩
    ·cases h1;exact .inr (.inr ⟨by first|rfl|trivial,0,by simp,by simpa using h2,by simp⟩)
    ·cases h1
    ·cases h1
  ·have hg:fS (match fS es a.1 with|none=>oF es a.1 (i:Int)|some _=>es) id=fS es id:=by
    cases hc:fS es a.1 with
    | none=>simp only[zN,ha,if_false]
    | some v=>rfl
   rw[hg] at ih;rcases ih with ⟨v',h1,h2⟩|⟨h1,h2,h3⟩|⟨h1,k,hk,h2,h3⟩
   ·exact .inl ⟨v',h1,h2⟩
   ·exact .inr (.inl ⟨h1,h2,by rw[List.find?_cons_of_neg (by simpa using ha)];exact h3⟩)
   ·exact .inr (.inr ⟨h1,k+1,by simpa using hk,h2.trans (by congr 2;omega),by rw[List.find?_cons_of_neg (by simpa using ha)];simpa using h3⟩)
variable {α:Type}
def HE (id:iII) (l:List (iII×α)):(fS (jK (ids l)) id=none/\l.find? (λs=>decide (s.1=id))=none)\/(∃ k,∃ h:k<l.length,fS (jK (ids l)) id=some (k:Int)/\l.find? (λs=>decide (s.1=id))=some l[k]):=by
 rcases W9 id l 0 [] with ⟨v,h,_⟩|⟨_,h1,h2⟩|⟨_,k,hk,h1,h2⟩
 ·cases h
 ·exact .inl ⟨h1,h2⟩
 ·exact .inr ⟨k,hk,h1.trans (by rw[Nat.zero_add]),h2⟩
variable {A:Prop}
def ixK {id:iII} {l:List (iII×α)} {B:Nat->Int->Prop} (hA:l.find? (λs=>decide (s.1=id))=none->A) (hB:∀ i k (h:k<l.length),l.find? (λs=>decide (s.1=id))=some l[k]->B i (k:Int)) :
  iF TypeDesc.string (Value.string id) (sA (bS (jK (ids l)))) false (Sy.int IntKind.i64) A B:=by
 rw[AGV];refine wE (r:=.int .i64) (λh=>hA ?_) λi v h=>?_
 ·rcases HE id l with ⟨_,h2⟩|⟨k,hk,h1,_⟩
  ·exact h2
  ·rw[h] at h1;cases h1
 ·rcases HE id l with ⟨h1,_⟩|⟨k,hk,h1,h2⟩
  ·rw[h] at h1;cases h1
  ·rw[h] at h1;cases h1;exact hB i k hk h2
def nH (a0:aB) (m1:List aE) (m2:List aE) (m3:List aE) (m4:List aE) (a5:iII):List T:=[UG a0 m1 m2 m3 m4,pPQ a5]
def O7:Env:=Env.of []
def ADR:FuncId->Hint:=b8 260 [(3,.inv [.val 1 false .str,.own 6 1 .str,.val 9 false (.int .i64)])] (λ_=>bA)
def AJI:aU Tryz.prog O7:=.nil _
def P2(a0:aB)(m1:List aE)(m2:List aE)(m3:List aE)(m4:List aE)(a5:iII)(R:T->Prop):Prop:=bB (iII×List iII×Int×PUnit) (λX0 s1=>aC (decide (s1.2.2.1<65)) (iF TypeDesc.string (Value.string s1.1) (sA (bS m1)) false bF (R (T.cE [T.sl false [],pPR false])) λ(i2:Nat) (y3:Int)=>aR bC (AC a0) y3 λ(y4:bR)=>bL (decide (((List.map Sy.str.enc s1.2.1).length+1)*16<=140737488355328) && decide ((List.map Sy.str.enc s1.2.1).length+1<=140737488355328)) (aC (decide (y4.2.1=1)) (R (T.cE [T.sl false (List.map Sy.str.enc s1.2.1++[[pPQ s1.1]]), pPR true])) (dP Sy.str (List.map Sy.str.enc s1.2.1++[[pPQ s1.1]]) λ(y5:List iII)=>X0 (y4.2.2,y5,i64.wrap (s1.2.2.1+1),())))) (R (T.cE [T.sl false [],pPR false]))) (a5,[],0,())
def ADI ( a0 m1 m2 m3 m4 a5 R):eX cD Tryz.prog O7 ADR 8 128 (nH a0 m1 m2 m3 m4 a5) R=P2 a0 m1 m2 m3 m4 a5 R:=by kernel_rfl
def GB (x y:aB×MP×MP×MP×MP×iII) (h:nH x.1 x.2.1 x.2.2.1 x.2.2.2.1 x.2.2.2.2.1 x.2.2.2.2.2=nH y.1 y.2.1 y.2.2.1 y.2.2.2.1 y.2.2.2.2.1 y.2.2.2.2.2):x=y:=by
 obtain ⟨h1,h2⟩:=List.cons.inj h;have:=r6 (x:=(x.1,x.2.1,x.2.2.1,x.2.2.2.1,x.2.2.2.2.1)) (y:=(y.1,y.2.1,y.2.2.1,y.2.2.2.1,y.2.2.2.2.1)) h1;simp only[List.cons.injEq,T.v.injEq,Value.string.injEq,and_true] at h2;simp only[Prod.mk.injEq] at this;obtain ⟨e1,e2,e3,e4,e5⟩:=this;exact Prod.ext e1 (Prod.ext e2 (Prod.ext e3 (Prod.ext e4 (Prod.ext e5 h2))))
def ML (x:aB×MP×MP×MP×MP×iII):Option T:=xU (x.1,x.2.1,x.2.2.1,x.2.2.2.1,x.2.2.2.2.1) (Sh.enc [(false,.li .str),(false,.bool)] (up x.1 x.2.2.2.2.2))
def lY:List T->Option (T):=gA (λ(x:aB×List aE×List aE×List aE×List aE×iII)=>nH x.1 x.2.1 x.2.2.1 x.2.2.2.1 x.2.2.2.2.1 x.2.2.2.2.2) ML
def AF4 (a0:aB) (m1:List aE) (m2:List aE) (m3:List aE) (m4:List aE) (a5:iII):lY (nH a0 m1 m2 m3 m4 a5)=ML (a0,m1,m2,m3,m4,a5):=gG (A:=(λ(x:aB×List aE×List aE×List aE×List aE×iII)=>nH x.1 x.2.1 x.2.2.1 x.2.2.2.1 x.2.2.2.2.1 x.2.2.2.2.2)) GB (a0,m1,m2,m3,m4,a5)
def AWW (h:∀ (a0:aB) (m1:List aE) (m2:List aE) (m3:List aE) (m4:List aE) (a5:iII) (r:T),ML (a0,m1,m2,m3,m4,a5)=some r->(∀ t∈nH a0 m1 m2 m3 m4 a5,Bd t)->P2 a0 m1 m2 m3 m4 a5 (λy=>y=r)):aP Tryz.prog 128 lY :=
 cZ (E:=O7) (Hs:=ADR) AJI aY a6 (aO rfl) 8 ⟨_,_,Tryz.func128,rfl⟩ λx r h1 h2=>by
  rw[ADI];exact h x.1 x.2.1 x.2.2.1 x.2.2.2.1 x.2.2.2.2.1 x.2.2.2.2.2 r h1 h2
def V8:aP Tryz.prog 128 lY:=AWW λd m1 m2 m3 m4 id0 r h hb=>by
 obtain ⟨hx,hs,rfl⟩:=pH h;simp only[Prod.mk.injEq,true_and] at hx;obtain ⟨rfl,rfl,rfl,rfl⟩:=hx;clear h;unfold P2 AC bF;refine bM 65 (λk s=>∃ id' l',s=(id',l',(k:Int),())/\l'.length=k/\upF d (65-k) id' l'=up d id0) ⟨id0,[],rfl,rfl,rfl⟩ ?_;rintro X k s hk ⟨id',l',rfl,hl,hu⟩ hX;dsimp only;have stop:up d id0=([],false)->T.cE [T.sl false [],T.v (.bool false)]=Sh.enc [(false,.li .str),(false,.bool)] (up d id0):=λh=>by rw[h];rfl
 refine cA (λhlt=>?_) λhge=>stop ?_
 ·have hlt:k<65:=by omega
  obtain ⟨m,hm⟩:∃ m,65-k=m+1:=⟨64-k,by omega⟩
  rw[hm] at hu;simp only[upF] at hu;refine ixK (λhn=>stop ?_) λi j hj hn=>?_
  ·have hn:eV d id'=none:=hn;rw[hn] at hu;exact hu.symm
  ·have hn:eV d id'=some d.2.1[j]:=hn;simp only[hn] at hu;rw[bE (r:=bC) hj,ZU (by omega),GK];refine cA (λh1=>?_) λh1=>?_
   ·rw[if_pos h1] at hu;rw[<-hu,A3P];rfl
   ·rw[if_neg h1] at hu;exact hX _ hlt ⟨_,_,by rw[show i64.wrap ((k:Int)+1)=((k+1:Nat):Int) from bG _ (by omega) (by omega)],by simp[hl],by rw[<-hu];congr 1;omega⟩
 ·have:65-k=0:=by omega
  rw[this] at hu;exact hu.symm
def qC (d:aB) (n:bR):Int:=if pS n.1=false then 6 else if ¬ n.2.1=1/\¬ n.2.1=2 then 10 else if n.2.1=1/\¬ n.2.2 = { data:=#[] } then 2 else if n.2.1=2/\(eV d n.2.2).isNone=true then 8 else 0
def A61 (d:aB):Bool:=d.2.1.any λn=>!(up d n.1).2
def A3C (d:aB):Bool:=d.2.1.any λn=>decide (8<(up d n.1).1.length)
def kO (d:aB):Int:=if cJ (qC d) d.2.1=0 then (if A61 d=true then 20 else if A3C d=true then 13 else 0) else cJ (qC d) d.2.1
def rF (a0:aB) (m1:List aE) (m2:List aE) (m3:List aE) (m4:List aE):List T:=[UG a0 m1 m2 m3 m4]
def O2:Env:=Env.of [(64,.pure eZ),(128,.pure lY)]
def ADL:FuncId->Hint:=b8 88 [(2,.inv [.val 20 false (.int .i64)]),(16,.inv [.val 7 false .bool,.val 74 false (.int .i64)])] (λ_=>bA)
def AIS:aU Tryz.prog O2:=.cons GW (.cons V8 (.nil _))
def t7(R:T->Prop):Prop:=R (pPP 8)
def BP3(R:T->Prop):Prop:=R (pPP 2)
def BP4:T:=pPP 10
def BP6(R:T->Prop):Prop:=R (pPP 6)
def BQA(R:T->Prop):Prop:=R (pPP 0)
def BQC(y2:bR)(R:T->Prop)(X0:Int×PUnit->Prop)(s1:Int×PUnit):Prop:=aC (decide (y2.2.1=1)) (aC (!decide (y2.2.2 = {data:=#[]})) (BP3 R) (aC (decide (y2.2.1=2)) (g9 X0 s1) (g9 X0 s1))) (aC (decide (y2.2.1=2)) (g9 X0 s1) (g9 X0 s1))
def BQF(y2:bR)(R:T->Prop)(X0:Int×PUnit->Prop)(s1:Int×PUnit):Prop:=aC (decide (y2.2.1=1)) (aC (!decide (y2.2.2 = {data:=#[]})) (BP3 R) (aC (decide (y2.2.1=2)) (t7 R) (g9 X0 s1))) (aC (decide (y2.2.1=2)) (t7 R) (g9 X0 s1))
def PA(a0:aB)(m1:List aE)(m2:List aE)(m3:List aE)(m4:List aE)(R:T->Prop):Prop:=bB (Int×PUnit) (λX0 s1=>aC (decide (s1.1<(↑(AC a0).length:Int))) (aR bC (AC a0) s1.1 λ(y2:bR)=>iF TypeDesc.string (Value.string y2.2.2) (sA (bS m1)) false bF (aJ d6 (eZ [pPQ y2.1]) λ(y6:Bool)=>aC (!y6) (BP6 R) (aC (!decide (y2.2.1=1)) (aC (!decide (y2.2.1=2)) (R BP4) (BQF y2 R X0 s1)) (BQF y2 R X0 s1))) λ(i3:Nat) (y4:Int)=>aJ d6 (eZ [pPQ y2.1]) λ(y5:Bool)=>aC (!y5) (BP6 R) (aC (!decide (y2.2.1=1)) (aC (!decide (y2.2.1=2)) (R BP4) (BQC y2 R X0 s1)) (BQC y2 R X0 s1))) (bB (Bool×Int×PUnit) (λX7 s8=>aC (decide (s8.2.1<(↑(AC a0).length:Int))) (aR bC (AC a0) s8.2.1 λ(y9:bR)=>aJ [(false,Sy.str.li),(false,Sy.bool)] (lY [T.ref [T.ref (i8 a0), T.mp (bS m1),T.mp (bS m2),T.mp (bS m3), T.mp (bS m4)], pPQ y9.1]) λ(y10:List iII×Bool)=>aC (!y10.2) (R (pPP 20)) (aC s8.1 (X7 (true,i64.wrap (s8.2.1+1),())) (X7 (decide (8<(↑(List.map Sy.str.enc y10.1).length:Int)), i64.wrap (s8.2.1+1),())))) (aC s8.1 (R (pPP 13)) (BQA R))) (false,0,()))) (0,())
def ADD ( a0 m1 m2 m3 m4 R):eX cD Tryz.prog O2 ADL 8 88 (rF a0 m1 m2 m3 m4) R=PA a0 m1 m2 m3 m4 R:=by kernel_rfl
def YO (x y:aB×MP×MP×MP×MP) (h:rF x.1 x.2.1 x.2.2.1 x.2.2.2.1 x.2.2.2.2=rF y.1 y.2.1 y.2.2.1 y.2.2.2.1 y.2.2.2.2):x=y:=r6 (List.cons.inj h).1
def MB (x:aB×MP×MP×MP×MP):Option T:=xU x (T.v (Value.int .i64 (kO x.1)))
def yW:List T->Option (T):=gA (λ(x:aB×List aE×List aE×List aE×List aE)=>rF x.1 x.2.1 x.2.2.1 x.2.2.2.1 x.2.2.2.2) MB
def AE1 (a0:aB) (m1:List aE) (m2:List aE) (m3:List aE) (m4:List aE):yW (rF a0 m1 m2 m3 m4)=MB (a0,m1,m2,m3,m4):=gG (A:=(λ(x:aB×List aE×List aE×List aE×List aE)=>rF x.1 x.2.1 x.2.2.1 x.2.2.2.1 x.2.2.2.2)) YO (a0,m1,m2,m3,m4)
def AV6 (h:∀ (a0:aB) (m1:List aE) (m2:List aE) (m3:List aE) (m4:List aE) (r:T),MB (a0,m1,m2,m3,m4)=some r->(∀ t∈rF a0 m1 m2 m3 m4,Bd t)->PA a0 m1 m2 m3 m4 (λy=>y=r)):aP Tryz.prog 88 yW :=
 cZ (E:=O2) (Hs:=ADL) AIS aY a6 (aO rfl) 8 ⟨_,_,Tryz.func88,rfl⟩ λx r h1 h2=>by
  rw[ADD];exact h x.1 x.2.1 x.2.2.1 x.2.2.2.1 x.2.2.2.2 r h1 h2
def M8 {d:aB} (hs:oJ d) (id:iII):lY (nH d (jK (ids d.2.1)) (jK (ids d.2.2.1)) (jK (ids d.2.2.2.1)) (jK (ids d.2.2.2.2.1)) id)=some (Sh.enc [(false,.li .str),(false,.bool)] (up d id)):=by
 rw[AF4];exact pJ hs _
def oN (s:iII) (K:Bool->Prop):aJ [(false,Sy.bool)] (eZ [pPQ s]) K=K (pS s):=by
 rw[show eZ [pPQ s]=I5 s from WL];exact AHK _ K
def AT5:aP Tryz.prog 88 yW:=AV6 λd m1 m2 m3 m4 r h hb=>by
 obtain ⟨hx,hs,rfl⟩:=pH h;simp only[Prod.mk.injEq,true_and] at hx;obtain ⟨rfl,rfl,rfl,rfl⟩:=hx;clear h;have is:∀ {n:Int},kO d=n->T.v (.int .i64 n)=T.v (.int .i64 (kO d)):=λh=>by rw[h]
 unfold PA BQF BQC BQA i8 g9 BP6 BP4 BP3 t7 IR FS AC v6 m9 d6 bF;refine rM (r:=bC) (qC d) hs.n (λX s y hy hok hbad=>?_) λh0=>?_
 ·have bad:∀ {n:Int},n≠0->qC d y=n->T.v (.int .i64 n)=T.v (.int .i64 (kO d)):=λhn h=>is (by
   have:=hbad (by rw[h];exact hn);unfold kO;rw[if_neg (by rw[this,h];exact hn),this,h])
  have tail:∀ {Z2 Z:Prop},pS y.1=true->(y.2.1=2->Z2)->(qC d y=0->Z) ->
   aC (!decide (y.2.1=1))
        (aC (!decide (y.2.1=2)) (T.v (.int .i64 10)=T.v (.int .i64 (kO d)))
         (aC (decide (y.2.1=1))
          (aC (!decide (y.2.2 = { data:=#[] })) (T.v (.int .i64 2)=T.v (.int .i64 (kO d)))
           (aC (decide (y.2.1=2)) Z2 Z))
          (aC (decide (y.2.1=2)) Z2 Z)))
        (aC (decide (y.2.1=1))
         (aC (!decide (y.2.2 = { data:=#[] })) (T.v (.int .i64 2)=T.v (.int .i64 (kO d)))
          (aC (decide (y.2.1=2)) Z2 Z))
         (aC (decide (y.2.1=2)) Z2 Z)):=by
   intro Z2 Z hid h2 h1;refine lF (λg1=>?_) λg1=>?_
   ·refine lF (λg2=>bad (by decide) (by unfold qC;rw[if_neg (by simp[hid]),if_pos ⟨g1,g2⟩])) λg2=>?_;refine cA (λh=>absurd h g1) λ_=>?_;exact cA (λ_=>h2 g2) λh=>absurd g2 h
   ·refine cA (λ_=>?_) λh=>absurd g1 h;refine lF (λg3=>bad (by decide) (by unfold qC;rw[if_neg (by simp[hid]),if_neg (by simp[g1]),if_pos ⟨g1,g3⟩])) λg3=>?_;exact cA (λh=>by rw[g1] at h;cases h) λh=>h1 (by unfold qC;rw[if_neg (by simp[hid]),if_neg (by simp[g1]),if_neg (by simp[g3]),if_neg (by simp[h])])
  refine ixK (λhn=>?_) λi j hj hn=>?_
  ·have hn:eV d y.2.2=none:=hn;rw[oN];refine fJ (λhid=>bad (by decide) (by unfold qC;rw[if_pos hid])) λhid=>?_;refine tail hid (λh2=>bad (by decide) ?_) λh0=>hok h0;unfold qC;rw[if_neg (by simp[hid]),if_neg (by simp[h2]),if_neg (by simp[h2]),if_pos ⟨h2,by rw[hn];rfl⟩]
  ·have hn:eV d y.2.2=some d.2.1[j]:=hn;rw[oN];refine fJ (λhid=>bad (by decide) (by unfold qC;rw[if_pos hid])) λhid=>?_;refine tail hid (λh2=>hok ?_) λh0=>hok h0;unfold qC;rw[if_neg (by simp[hid]),if_neg (by simp[h2]),if_neg (by simp[h2]),if_neg (by simp[hn])]
 ·have hn:d.2.1.length<=140737488355328:=hs.n;refine bM d.2.1.length (λk s=>s=((d.2.1.take k).any (λn=>decide (8<(up d n.1).1.length)),(k:Int),())/\∀ n∈d.2.1.take k,(up d n.1).2=true) ⟨rfl,by simp⟩ ?_;rintro X k s hk ⟨rfl,hall⟩ hX;dsimp only;refine cA (λhlt=>?_) λhge=>?_
  ·rw[ae] at hlt;have hlt:k<d.2.1.length:=by omega
   rw[bE (r:=bC) hlt];refine aF (s:=[(false,.li .str),(false,.bool)]) (M8 hs d.2.1[k].1) ?_;have ht:d.2.1.take (k+1)=d.2.1.take k++[d.2.1[k]]:=List.take_succ_eq_append_getElem hlt;have hw:i64.wrap ((k:Int)+1)=((k+1:Nat):Int):=bG _ (by omega) (by omega);refine fJ (λhu=>is ?_) λhu=>?_
   ·unfold kO;rw[if_pos h0,if_pos (show A61 d=true from List.any_eq_true.2 ⟨_,ak hlt,by rw[hu];rfl⟩)]
   ·have hall':∀ n∈d.2.1.take (k+1),(up d n.1).2=true:=λn hm=>by
     rw[ht] at hm;rcases List.mem_append.1 hm with h|h
     ·exact hall n h
     ·simp at h;subst h;exact hu
    refine sX (λhd=>?_) λhd=>?_
    ·refine hX _ hlt ⟨?_,hall'⟩;rw[hw,ht,List.any_append,hd];rfl
    ·refine hX _ hlt ⟨?_,hall'⟩;rw[hw,ht,List.any_append,hd];simp only[ae,List.any_cons,List.any_nil,Bool.or_false,Bool.false_or,Prod.mk.injEq,and_true]
     congr 1
     exact propext ⟨λh=>by omega,λh=>by omega⟩
  ·rw[ae] at hge;have:k=d.2.1.length:=by omega
   subst this;rw[List.take_length] at hall ⊢;have hnu:A61 d=false:=by
    rw[Bool.eq_false_iff];intro h;obtain ⟨n,hm,h⟩:=List.any_eq_true.1 h;rw[hall n hm] at h;cases h
   refine sX (λh=>is ?_) λh=>is ?_
   ·unfold kO;rw[if_pos h0,hnu,if_neg (by simp),if_pos (show A3C d=true from h)]
   ·unfold kO;rw[if_pos h0,hnu,if_neg (by simp),if_neg (by rw[show A3C d=false from h];simp)]
end Go.Pv
namespace Go.Pv
open Go Go.Proofs IntKind
def r4 (d:aB) (s:bU):Int:=if pS s.1=false\/pS s.2.1=false\/pS s.2.2.1=false then 6 else if s.2.1=s.2.2.1 then 2 else if ¬ s.2.2.2.1=1/\¬ s.2.2.2.1=2 then 10 else if s.2.2.2.2.1<1\/32768<s.2.2.2.2.1\/s.2.2.2.2.2<1\/3<s.2.2.2.2.2 then 9 else if (partOf d s.2.1).isNone=true\/(partOf d s.2.2.1).isNone=true then 8 else 0
def rG (a0:aB) (m1:List aE) (m2:List aE) (m3:List aE) (m4:List aE):List T:=[UG a0 m1 m2 m3 m4]
def O3:Env:=Env.of [(64,.pure eZ)]
def ADM:FuncId->Hint:=b8 90 [(2,.inv [.val 17 false (.int .i64)])] (λ_=>bA)
def AIT:aU Tryz.prog O3:=.cons GW (.nil _)
def EQ(R:T->Prop):Prop:=R (pPP 9)
def BP2(y2:bU)(R:T->Prop):Prop:=aC (decide (y2.2.2.2.2.1<1)) (EQ R) (aC (decide (32768<y2.2.2.2.2.1)) (EQ R) (aC (decide (y2.2.2.2.2.2<1)) (EQ R) (aC (decide (3<y2.2.2.2.2.2)) (EQ R) (t7 R))))
def f9(y2:bU)(R:T->Prop):Prop:=aJ d6 (eZ [pPQ y2.1]) λ(y15:Bool)=>aC (!y15) (BP6 R) (aJ d6 (eZ [pPQ y2.2.1]) λ(y16:Bool)=>aC (!y16) (BP6 R) (aJ d6 (eZ [pPQ y2.2.2.1]) λ(y17:Bool)=>aC (!y17) (BP6 R) (aC (decide (y2.2.1=y2.2.2.1)) (BP3 R) (aC (!decide (y2.2.2.2.1=1)) (aC (!decide (y2.2.2.2.1=2)) (R BP4) (BP2 y2 R)) (BP2 y2 R)))))
def BQB(y2:bU)(R:T->Prop)(X0:Int×PUnit->Prop)(s1:Int×PUnit):Prop:=aC (decide (y2.2.2.2.2.1<1)) (EQ R) (aC (decide (32768<y2.2.2.2.2.1)) (EQ R) (aC (decide (y2.2.2.2.2.2<1)) (EQ R) (aC (decide (3<y2.2.2.2.2.2)) (EQ R) (g9 X0 s1))))
def PB(a0:aB)(m1:List aE)(m2:List aE)(m3:List aE)(m4:List aE)(R:T->Prop):Prop:=bB (Int×PUnit) (λX0 s1=>aC (decide (s1.1<(↑(v6 a0).length:Int))) (aR bD (v6 a0) s1.1 λ(y2:bU)=>iF TypeDesc.string (Value.string y2.2.1) (sA (bS m2)) false bF (iF TypeDesc.string (Value.string y2.2.2.1) (sA (bS m2)) false bF (f9 y2 R) λ(i13:Nat) (y14:Int)=>f9 y2 R) λ(i3:Nat) (y4:Int)=>iF TypeDesc.string (Value.string y2.2.2.1) (sA (bS m2)) false bF (f9 y2 R) λ(i5:Nat) (y6:Int)=>aJ d6 (eZ [pPQ y2.1]) λ(y7:Bool)=>aC (!y7) (BP6 R) (aJ d6 (eZ [pPQ y2.2.1]) λ(y8:Bool)=>aC (!y8) (BP6 R) (aJ d6 (eZ [pPQ y2.2.2.1]) λ(y9:Bool)=>aC (!y9) (BP6 R) (aC (decide (y2.2.1=y2.2.2.1)) (BP3 R) (aC (!decide (y2.2.2.2.1=1)) (aC (!decide (y2.2.2.2.1=2)) (R BP4) (BQB y2 R X0 s1)) (BQB y2 R X0 s1)))))) (BQA R)) (0,())
def ADE ( a0 m1 m2 m3 m4 R):eX cD Tryz.prog O3 ADM 8 90 (rG a0 m1 m2 m3 m4) R=PB a0 m1 m2 m3 m4 R:=by kernel_rfl
def YP (x y:aB×MP×MP×MP×MP) (h:rG x.1 x.2.1 x.2.2.1 x.2.2.2.1 x.2.2.2.2=rG y.1 y.2.1 y.2.2.1 y.2.2.2.1 y.2.2.2.2):x=y:=r6 (List.cons.inj h).1
def MC (x:aB×MP×MP×MP×MP):Option T:=xU x (T.v (Value.int .i64 (cJ (r4 x.1) x.1.2.2.2.1)))
def yX:List T->Option (T):=gA (λ(x:aB×List aE×List aE×List aE×List aE)=>rG x.1 x.2.1 x.2.2.1 x.2.2.2.1 x.2.2.2.2) MC
def AE2 (a0:aB) (m1:List aE) (m2:List aE) (m3:List aE) (m4:List aE):yX (rG a0 m1 m2 m3 m4)=MC (a0,m1,m2,m3,m4):=gG (A:=(λ(x:aB×List aE×List aE×List aE×List aE)=>rG x.1 x.2.1 x.2.2.1 x.2.2.2.1 x.2.2.2.2)) YP (a0,m1,m2,m3,m4)
def AV7 (h:∀ (a0:aB) (m1:List aE) (m2:List aE) (m3:List aE) (m4:List aE) (r:T),MC (a0,m1,m2,m3,m4)=some r->(∀ t∈rG a0 m1 m2 m3 m4,Bd t)->PB a0 m1 m2 m3 m4 (λy=>y=r)):aP Tryz.prog 90 yX :=
 cZ (E:=O3) (Hs:=ADM) AIT aY a6 (aO rfl) 8 ⟨_,_,Tryz.func90,rfl⟩ λx r h1 h2=>by
  rw[ADE];exact h x.1 x.2.1 x.2.2.1 x.2.2.2.1 x.2.2.2.2 r h1 h2
def AT6:aP Tryz.prog 90 yX:=AV7 λd m1 m2 m3 m4 r h hb=>by
 obtain ⟨hx,hs,rfl⟩:=pH h;simp only[Prod.mk.injEq,true_and] at hx;obtain ⟨rfl,rfl,rfl,rfl⟩:=hx;replace hs:oJ d:=hs;clear h;unfold PB BQB BQA g9 f9 BP6 BP4 BP3 BP2 EQ t7 v6 d6 bF;refine rM (r:=bD) (r4 d) hs.s (λX s y hy hok hbad=>?_) λh0=>?_
 ·have bad:∀ {n:Int},n≠0->r4 d y=n->pPP n=pPP (cJ (r4 d) d.2.2.2.1):=λhn h=>by
   rw[hbad (by rw[h];exact hn),h]
  clear hbad hb
  repeat' first
   | refine ixK (λhn=>?_) (λi j hj hn=>?_)
   | rw[oN]
   | refine lF (λh=>?_) (λh=>?_)
   | refine cA (λh=>?_) (λh=>?_)
   | refine fJ (λh=>?_) (λh=>?_)
  all_goals first
   | (exfalso;omega)
   | (refine bad (by decide) ?_;clear bad hok;unfold r4;simp[*,partOf,jB];done)
   | (refine hok ?_;clear bad hok;unfold r4;simp[*,partOf,jB];done)
 ·show _=pPP (cJ (r4 d) d.2.2.2.1);rw[h0]
def sF (a0:aB) (m1:List aE) (m2:List aE) (m3:List aE) (m4:List aE) (a5:iII):List T:=[UG a0 m1 m2 m3 m4,pPQ a5]
def YV:Env:=Env.of []
def AO1:FuncId->Hint:=λ_=>bA
def ASA:aU Tryz.prog YV:=.nil _
def Y5(a0:aB)(m1:List aE)(m2:List aE)(m3:List aE)(m4:List aE)(a5:iII)(R:T->Prop):Prop:=iF TypeDesc.string (Value.string a5) (sA (bS m1)) false bF (R d4) λ(i0:Nat) (y1:Int)=>aR bC (AC a0) y1 λ(y2:bR)=>R (pPR (decide (y2.2.1=1)))
def AJ0 ( a0 m1 m2 m3 m4 a5 R):eX cD Tryz.prog YV AO1 8 131 (sF a0 m1 m2 m3 m4 a5) R=Y5 a0 m1 m2 m3 m4 a5 R:=by kernel_rfl
def qB (d:aB) (id:iII):Bool:=match eV d id with
 | some n=>decide (n.2.1=1)
 | none=>false
def ACX (x y:aB×MP×MP×MP×MP×iII) (h:sF x.1 x.2.1 x.2.2.1 x.2.2.2.1 x.2.2.2.2.1 x.2.2.2.2.2=sF y.1 y.2.1 y.2.2.1 y.2.2.2.1 y.2.2.2.2.1 y.2.2.2.2.2):x=y:=GB x y h
def T8 (x:aB×MP×MP×MP×MP×iII):Option T:=xU (x.1,x.2.1,x.2.2.1,x.2.2.2.1,x.2.2.2.2.1) (pPR (qB x.1 x.2.2.2.2.2))
def iO:List T->Option (T):=gA (λ(x:aB×List aE×List aE×List aE×List aE×iII)=>sF x.1 x.2.1 x.2.2.1 x.2.2.2.1 x.2.2.2.2.1 x.2.2.2.2.2) T8
def ALY (a0:aB) (m1:List aE) (m2:List aE) (m3:List aE) (m4:List aE) (a5:iII):iO (sF a0 m1 m2 m3 m4 a5)=T8 (a0,m1,m2,m3,m4,a5):=gG (A:=(λ(x:aB×List aE×List aE×List aE×List aE×iII)=>sF x.1 x.2.1 x.2.2.1 x.2.2.2.1 x.2.2.2.2.1 x.2.2.2.2.2)) ACX (a0,m1,m2,m3,m4,a5)
def A69 (h:∀ (a0:aB) (m1:List aE) (m2:List aE) (m3:List aE) (m4:List aE) (a5:iII) (r:T),T8 (a0,m1,m2,m3,m4,a5)=some r->(∀ t∈sF a0 m1 m2 m3 m4 a5,Bd t)->Y5 a0 m1 m2 m3 m4 a5 (λy=>y=r)):aP Tryz.prog 131 iO :=
 cZ (E:=YV) (Hs:=AO1) ASA aY a6 (aO rfl) 8 ⟨_,_,Tryz.func131,rfl⟩ λx r h1 h2=>by
  rw[AJ0];exact h x.1 x.2.1 x.2.2.1 x.2.2.2.1 x.2.2.2.2.1 x.2.2.2.2.2 r h1 h2
def AES:aP Tryz.prog 131 iO:=A69 λd m1 m2 m3 m4 id0 r h hb=>by
 obtain ⟨hx,hs,rfl⟩:=pH h;simp only[Prod.mk.injEq,true_and] at hx;obtain ⟨rfl,rfl,rfl,rfl⟩:=hx;replace hs:oJ d:=hs;clear h;unfold Y5 AC d4 bF;refine ixK (λhn=>?_) λi j hj hn=>?_
 ·have hn:eV d id0=none:=hn;show _=pPR (qB d id0);unfold qB;rw[hn]
 ·have hn:eV d id0=some d.2.1[j]:=hn;rw[bE (r:=bC) hj];show _=pPR (qB d id0);unfold qB;rw[hn]
def R6 {d:aB} (hs:oJ d) (id:iII):iO (sF d (jK (ids d.2.1)) (jK (ids d.2.2.1)) (jK (ids d.2.2.2.1)) (jK (ids d.2.2.2.2.1)) id)=some (Sh.enc [(false,.bool)] (qB d id)):=by
 rw[ALY];exact pJ hs _
def vG (d:aB) (x:bI):Int:=if x.1<1\/3<x.1 then 10 else if x.2.2=x.2.1 then 2 else if qB d x.2.1=false then 8 else if (x.1=1/\¬ x.2.2 = { data:=#[] }/\qB d x.2.2=false)\/(x.1=2/\qB d x.2.2=false)\/(x.1=3/\(jB d x.2.2).isNone=true) then 8 else 0
def rE (a0:aB) (m1:List aE) (m2:List aE) (m3:List aE) (m4:List aE):List T:=[UG a0 m1 m2 m3 m4]
def O1:Env:=Env.of [(131,.pure iO)]
def ADK:FuncId->Hint:=b8 92 [(2,.inv [.val 15 false (.int .i64)])] (λ_=>bA)
def AIR:aU Tryz.prog O1:=.cons AES (.nil _)
def GE(a0:aB)(m1:List aE)(m2:List aE)(m3:List aE)(m4:List aE)(y2:bI):List T:=[T.ref [T.ref (f8 a0), T.mp (bS m1),T.mp (bS m2),T.mp (bS m3), T.mp (bS m4)], pPQ y2.2.2]
def BP8(y2:bI)(X0:Int×PUnit->Prop)(s1:Int×PUnit):Prop:=aC (decide (y2.1=3)) (g9 X0 s1) (g9 X0 s1)
def BQJ(y2:bI)(R:T->Prop)(X0:Int×PUnit->Prop)(s1:Int×PUnit):Prop:=aC (decide (y2.1=3)) (t7 R) (g9 X0 s1)
def O9(a0:aB)(m1:List aE)(m2:List aE)(m3:List aE)(m4:List aE)(R:T->Prop):Prop:=bB (Int×PUnit) (λX0 s1=>aC (decide (s1.1<(↑(IR a0).length:Int))) (aR aZ (IR a0) s1.1 λ(y2:bI)=>iF TypeDesc.string (Value.string y2.2.2) (sA (bS m4)) false bF (aC (decide (y2.1<1)) (R BP4) (aC (decide (3<y2.1)) (R BP4) (aC (decide (y2.2.2=y2.2.1)) (BP3 R) (aJ d6 (iO [T.ref [T.ref (i8 a0), T.mp (bS m1),T.mp (bS m2),T.mp (bS m3), T.mp (bS m4)], pPQ y2.2.1]) λ(y10:Bool)=>aC (!y10) (t7 R) (aC (decide (y2.1=1)) (aC (!decide (y2.2.2 = {data:=#[]})) (aJ d6 (iO (GE a0 m1 m2 m3 m4 y2)) λ(y11:Bool)=>aC (!y11) (t7 R) (aC (decide (y2.1=2)) (aJ d6 (iO [T.ref [T.ref (f8 a0), T.mp (bS m1),T.mp (bS m2), T.mp (bS m3),T.mp (bS m4)], pPQ y2.2.2]) λ(y12:Bool)=>aC (!y12) (t7 R) (BQJ y2 R X0 s1)) (BQJ y2 R X0 s1))) (aC (decide (y2.1=2)) (aJ d6 (iO (GE a0 m1 m2 m3 m4 y2)) λ(y13:Bool)=>aC (!y13) (t7 R) (BQJ y2 R X0 s1)) (BQJ y2 R X0 s1))) (aC (decide (y2.1=2)) (aJ d6 (iO (GE a0 m1 m2 m3 m4 y2)) λ(y14:Bool)=>aC (!y14) (t7 R) (BQJ y2 R X0 s1)) (BQJ y2 R X0 s1))))))) λ(i3:Nat) (y4:Int)=>aC (decide (y2.1<1)) (R BP4) (aC (decide (3<y2.1)) (R BP4) (aC (decide (y2.2.2=y2.2.1)) (BP3 R) (aJ d6 (iO [T.ref [T.ref (i8 a0), T.mp (bS m1),T.mp (bS m2),T.mp (bS m3), T.mp (bS m4)], pPQ y2.2.1]) λ(y5:Bool)=>aC (!y5) (t7 R) (aC (decide (y2.1=1)) (aC (!decide (y2.2.2 = {data:=#[]})) (aJ d6 (iO (GE a0 m1 m2 m3 m4 y2)) λ(y6:Bool)=>aC (!y6) (t7 R) (aC (decide (y2.1=2)) (aJ d6 (iO [T.ref [T.ref (f8 a0), T.mp (bS m1),T.mp (bS m2), T.mp (bS m3),T.mp (bS m4)], pPQ y2.2.2]) λ(y7:Bool)=>aC (!y7) (t7 R) (BP8 y2 X0 s1)) (BP8 y2 X0 s1))) (aC (decide (y2.1=2)) (aJ d6 (iO (GE a0 m1 m2 m3 m4 y2)) λ(y8:Bool)=>aC (!y8) (t7 R) (BP8 y2 X0 s1)) (BP8 y2 X0 s1))) (aC (decide (y2.1=2)) (aJ d6 (iO (GE a0 m1 m2 m3 m4 y2)) λ(y9:Bool)=>aC (!y9) (t7 R) (BP8 y2 X0 s1)) (BP8 y2 X0 s1))))))) (BQA R)) (0,())
def ADC ( a0 m1 m2 m3 m4 R):eX cD Tryz.prog O1 ADK 8 92 (rE a0 m1 m2 m3 m4) R=O9 a0 m1 m2 m3 m4 R:=by kernel_rfl
def YN (x y:aB×MP×MP×MP×MP) (h:rE x.1 x.2.1 x.2.2.1 x.2.2.2.1 x.2.2.2.2=rE y.1 y.2.1 y.2.2.1 y.2.2.2.1 y.2.2.2.2):x=y:=r6 (List.cons.inj h).1
def MA (x:aB×MP×MP×MP×MP):Option T:=xU x (T.v (Value.int .i64 (cJ (vG x.1) x.1.2.2.2.2.2)))
def yV:List T->Option (T):=gA (λ(x:aB×List aE×List aE×List aE×List aE)=>rE x.1 x.2.1 x.2.2.1 x.2.2.2.1 x.2.2.2.2) MA
def AE0 (a0:aB) (m1:List aE) (m2:List aE) (m3:List aE) (m4:List aE):yV (rE a0 m1 m2 m3 m4)=MA (a0,m1,m2,m3,m4):=gG (A:=(λ(x:aB×List aE×List aE×List aE×List aE)=>rE x.1 x.2.1 x.2.2.1 x.2.2.2.1 x.2.2.2.2)) YN (a0,m1,m2,m3,m4)
def AV5 (h:∀ (a0:aB) (m1:List aE) (m2:List aE) (m3:List aE) (m4:List aE) (r:T),MA (a0,m1,m2,m3,m4)=some r->(∀ t∈rE a0 m1 m2 m3 m4,Bd t)->O9 a0 m1 m2 m3 m4 (λy=>y=r)):aP Tryz.prog 92 yV :=
 cZ (E:=O1) (Hs:=ADK) AIR aY a6 (aO rfl) 8 ⟨_,_,Tryz.func92,rfl⟩ λx r h1 h2=>by
  rw[ADC];exact h x.1 x.2.1 x.2.2.1 x.2.2.2.1 x.2.2.2.2 r h1 h2
def AT4:aP Tryz.prog 92 yV:=AV5 λd m1 m2 m3 m4 r h hb=>by
 obtain ⟨hx,hs,rfl⟩:=pH h;simp only[Prod.mk.injEq,true_and] at hx;obtain ⟨rfl,rfl,rfl,rfl⟩:=hx;replace hs:oJ d:=hs;clear h;unfold O9 BQJ BP8 BQA GE i8 g9 BP4 BP3 t7 f8 IR FS AC v6 m9 d6 bF;refine rM (r:=aZ) (vG d) hs.r (λX s y hy hok hbad=>?_) λh0=>?_
 ·have bad:∀ {n:Int},n≠0->vG d y=n->pPP n=pPP (cJ (vG d) d.2.2.2.2.2):=λhn h=>by
   rw[hbad (by rw[h];exact hn),h]
  clear hbad hb
  repeat' first
   | refine ixK (λhn=>?_) (λi j hj hn=>?_)
   | rw[oN]
   | refine aF (s:=[(false,.bool)]) (R6 hs _) ?_
   | refine lF (λh=>?_) (λh=>?_)
   | refine cA (λh=>?_) (λh=>?_)
   | refine fJ (λh=>?_) (λh=>?_)
  all_goals first
   | (exfalso;omega)
   | (refine bad (by decide) ?_;clear bad hok;unfold vG;simp[*,partOf,jB];done)
   | (refine hok ?_;clear bad hok;unfold vG;simp[*,partOf,jB];done)
   | (refine hok ?_;clear bad hok hs hy;unfold vG;simp_all[partOf,jB];done)
 ·show _=pPP (cJ (vG d) d.2.2.2.2.2);rw[h0]
end Go.Pv
namespace Go.Pv
open Go Go.Proofs IntKind
def BGX:Env:=Env.of []
def BHD:FuncId->Hint:=b8 273 [(2,.inv [.val 9 false (.int .i64)])] (λ_=>bA)
def AZK:aU Tryz.prog BGX:=.nil _
def AJY(a0:Int)(a1:List aX)(R:T->Prop):Prop:=bB (Int×PUnit) (λX0 s1=>aC (decide (s1.1<(↑(i6 a1).length:Int))) (aR aA (i6 a1) s1.1 λ(y2:aX)=>aC (decide (y2.1<0)) (EQ R) (aC (decide (a0<=y2.1)) (EQ R) (aC (decide (y2.2<0)) (EQ R) (aC (decide (a0<=y2.2)) (EQ R) (aC (decide (y2.1=y2.2)) (BP3 R) (g9 X0 s1)))))) (BQA R)) (0,())
abbrev ANT:Sh:=[(false,(Sy.int IntKind.i64)),(false,aA.li)]
def Q5 (n:Int) (x:aX):Int:=if x.1<0\/n<=x.1\/x.2<0\/n<=x.2 then 9 else if x.1=x.2 then 2 else 0
def OL (x:Int×List aX):Option T:=rY x.2 (T.v (Value.int .i64 (cJ (Q5 x.1) x.2)))
def R3:List T->Option T:=gS ANT OL
def AU8 {a0 a1}:R3 [pPP a0,T.sl false (List.map aA.enc a1)]=OL (a0,a1):=bH (s:=ANT) rfl (a0,a1) rfl
def BES:qU Tryz.prog 273 R3 OL (cG ANT) AJY:=gV (a1:=(false,(Sy.int IntKind.i64))) (a2:=(false,aA.li)) (sp:=OL) (F:=AJY) (Hs:=BHD) (f:=273) (k:=8) AZK aY a6 (aO rfl) ⟨_,_,Tryz.func273,rfl⟩ rfl λ_ _ _=>by kernel_rfl
def BC7:aP Tryz.prog 273 R3:=BES λn l r h hb=>by
 obtain ⟨hl,rfl⟩:=kP h;clear h;unfold AJY BQA i6 g9 BP3 EQ;refine rM (r:=aA) (Q5 n) hl (λX s y hy hok hbad=>?_) λh0=>?_
 ·have bad:∀ {m:Int},m≠0->Q5 n y=m->pPP m=pPP (cJ (Q5 n) l):=λhn h=>by
   rw[hbad (by rw[h];exact hn),h]
  clear hbad hb
  repeat' first
   | refine lF (λh=>?_) (λh=>?_)
   | refine cA (λh=>?_) (λh=>?_)
  all_goals first
   | (exfalso;omega)
   | (refine bad (by decide) ?_;clear bad hok;unfold Q5;first|(rw[if_pos (by omega)];done)|(rw[if_neg (by omega),if_pos (by omega)];done))
   | (refine hok ?_;clear bad hok;unfold Q5;rw[if_neg (by omega),if_neg (by omega)];done)
 ·show _=pPP (cJ (Q5 n) l);rw[h0]
def YW:Env:=Env.of [(273,.pure R3)]
def AO2:FuncId->Hint:=b8 133 [(8,.inv [.arr 0 1 (.int .i64),.val 31 false (.int .i64)]),(14,.inv [.arr 0 1 (.int .i64),.own 10 1 (.int .i64),.arr 2 1 .bool]),(16,.inv [.val 52 false (.int .i64),.fix 0,.fix 2,.fix 3]),(22,.inv [.arr 0 1 (.int .i64),.val 75 false (.int .i64)])] (λ_=>bA)
def ASD:aU Tryz.prog YW:=.cons BC7 (.nil _)
def d9:Sh:=[(false,Sy.int IntKind.i64)]
def PP(s14:List Int×List Int×List Bool×PUnit):List (List T):=List.map Sy.bool.enc s14.2.2.1
def ACM(s3:List Int×Int×PUnit):List (List T):=List.map bF.enc s3.1
def BP5(s14:List Int×List Int×List Bool×PUnit):List (List T):=List.map bF.enc s14.2.1
def BQI(s14:List Int×List Int×List Bool×PUnit):List (List T):=List.map bF.enc s14.1
def BQK(R:T->Prop):Prop:=bL (pPP 9).flat (R (T.cE [T.sl false [],pPP 9]))
def Y8(a0:Int)(a1:List aX)(R:T->Prop):Prop:=aC (decide (a0<0)) (BQK R) (aC (decide (256<a0)) (BQK R) (aJ d9 (R3 [pPP a0,T.sl false (i6 a1)]) λ(y0:Int)=>aC (!decide (y0=0)) (bL (pPP y0).flat (R (T.cE [T.sl false [],pPP y0]))) (bL ((decide (a0=a0)||decide (a0=0))&&decide (0<=a0)&&decide (a0*(↑8:Int)<=140737488355328) && decide (a0<=140737488355328)) (dP bF (List.replicate (Int.toNat a0) [pPP 0]) λ(y1:List Int)=>bB (List Int×Int×PUnit) (λX2 s3=>aC (decide (s3.2.1<(↑(i6 a1).length:Int))) (aR aA (i6 a1) s3.2.1 λ(y4:aX)=>aR bF (ACM s3) y4.2 λ(y5:Int)=>eR bF (ACM s3) (Int.toNat y4.2) 0 λ(y6:Int)=>aR bF (ACM s3) y4.2 λ(y7:Int)=>IT (ACM s3) (Int.toNat y4.2) λ(y8:List T)=>bL (decide (1<=y8.length)) (dP bF ((ACM s3).set (Int.toNat y4.2) (bZ y8 0 [pPP (i64.wrap (y6+1))])) λ(y9:List Int)=>X2 (y9,i64.wrap (s3.2.1+1),()))) (bL ((decide (0=a0)||true)&&decide (0<=a0)&&decide (a0*(↑8:Int)<=140737488355328) && decide (a0<=140737488355328)) (bL ((decide (a0=a0)||decide (a0=0))&&decide (0<=a0) && decide (a0*(↑1:Int)<=140737488355328) && decide (a0<=140737488355328)) (dP bF (ACM s3) λ(y10:List Int)=>dP bF [] λ(y11:List Int)=>dP Sy.bool (List.replicate (Int.toNat a0) [pPR false]) λ(y12:List Bool)=>bB (List Int×List Int×List Bool×PUnit) (λX13 s14=>aC (decide ((↑(BP5 s14).length:Int)<a0)) (gM (bJ.arr false 1 (BQI s14)) (bJ.arr false 1 (BQI s14)) (gM (bJ.arr false 1 (PP s14)) (bJ.arr false 1 (PP s14)) (gM (bJ.arr false 1 (BP5 s14)) (bJ.arr false 1 (BP5 s14)) (bB (Int×PUnit×PUnit×PUnit×PUnit) (λ(X15:Int×PUnit×PUnit×PUnit×PUnit->Prop) (F0:Int×PUnit×PUnit×PUnit×PUnit)=>aC (decide (F0.1<a0)) (aR Sy.bool (PP s14) F0.1 λ(y17:Bool)=>eR Sy.bool (PP s14) (Int.toNat F0.1) 0 λ(y18:Bool)=>aC y18 (gM (bJ.arr false 1 (BQI s14)) (bJ.arr false 1 (BQI s14)) (gM (bJ.arr false 1 (PP s14)) (bJ.arr false 1 (PP s14)) (gM (bJ.arr false 1 (BP5 s14)) (bJ.arr false 1 (BP5 s14)) (X15 (i64.wrap (F0.1+1),(),(),(),()))))) (aR bF (BQI s14) F0.1 λ(y19:Int)=>eR bF (BQI s14) (Int.toNat F0.1) 0 λ(y20:Int)=>aC (decide (0<y20)) (gM (bJ.arr false 1 (BQI s14)) (bJ.arr false 1 (BQI s14)) (gM (bJ.arr false 1 (PP s14)) (bJ.arr false 1 (PP s14)) (gM (bJ.arr false 1 (BP5 s14)) (bJ.arr false 1 (BP5 s14)) (X15 (i64.wrap (F0.1+1),(),(),(), ()))))) (aR Sy.bool (PP s14) F0.1 λ(y21:Bool)=>IT (PP s14) (Int.toNat F0.1) λ(y22:List T)=>bL (decide (1<=y22.length)) (bL (decide (((BP5 s14).length + 1) * 8 <= 140737488355328) && decide ((BP5 s14).length + 1 <= 140737488355328)) (dP bF (BQI s14) λ(y23:List Int)=>bB (List Int×Int×PUnit) (λX24 s25=>aC (decide (s25.2.1 < (↑(i6 a1).length : Int))) (aR aA (i6 a1) s25.2.1 λ(y26:aX)=>aC (decide (y26.1=F0.1)) (aR bF (ACM s25) y26.2 λ(y27:Int)=>eR bF (ACM s25) (Int.toNat y26.2) 0 λ(y28:Int)=>aR bF (ACM s25) y26.2 λ(y29:Int)=>IT (ACM s25) (Int.toNat y26.2) λ(y30:List T)=>bL (decide (1<=y30.length)) (dP bF ((ACM s25).set (Int.toNat y26.2) (bZ y30 0 [pPP (i64.wrap (y28-1))])) λ(y31:List Int)=>X24 (y31, i64.wrap (s25.2.1+1), ()))) (dP bF (ACM s25) λ(y32:List Int)=>X24 (y32, i64.wrap (s25.2.1+1), ()))) (dP bF (ACM s25) λ(y33:List Int)=>dP bF (List.map bF.enc s14.2.1 ++ [[pPP F0.1]]) λ(y34:List Int)=>dP Sy.bool ((PP s14).set (Int.toNat F0.1) (bZ y22 0 [pPR true])) λ(y35:List Bool)=>X13 (y33,y34,y35,()))) (y23,0,())))))) (bL (pPP 20).flat (R (T.cE [T.sl false [], pPP 20])))) (0,(),(),(),()))))) (bL ((BP5 s14).all λ(r:List T)=>r.all T.flat) (bL (pPP 0).flat (R (T.cE [T.sl false (BP5 s14), pPP 0]))))) (y10,y11,y12,()))))) (y1,0,())))))
def AJ3 ( a0 a1 R):xK cD Tryz.prog YW AO2 8 133 [aG false (Sy.int IntKind.i64) a0,aG false aA.li a1] R=Y8 a0 a1 R:=by kernel_rfl
abbrev OH:Sh:=[(false,(Sy.int IntKind.i64)),(false,aA.li)]
abbrev B3:Sh:=[(false,(Sy.int IntKind.i64).li),(false,Sy.int IntKind.i64)]
def A23 (b:List Int) (e:aX):List Int:=b.set e.2.toNat (i64.wrap (b.getD e.2.toNat 0+1))
def A3A (v:Int) (b:List Int) (e:aX):List Int:=if e.1=v then b.set e.2.toNat (i64.wrap (b.getD e.2.toNat 0-1)) else b
def M1 (b:List Int) (t:List Bool) (k:Nat):Bool:=!t.getD k false&&decide (b.getD k 0<=0)
def FW (l:List aX) (n:Nat):Nat->List Int->List Int->List Bool->List Int×Int
 | 0,_,o,_=>(o,0)
 | f+1,b,o,t=>match (List.range n).find? (M1 b t) with
  | none=>([],20)
  | some v=>FW l n f (l.foldl (A3A v) b) (o++[(v:Int)]) (t.set v true)
def mR (n:Int) (l:List aX):List Int×Int :=
 if n<0\/256<n then ([],9) else if cJ (Q5 n) l=0 then FW l n.toNat n.toNat (l.foldl A23 (List.replicate n.toNat 0)) [] (List.replicate n.toNat false) else ([],cJ (Q5 n) l)
def AEM {α:Type} {f:α->Int}:∀ {l:List α},cJ f l=0->∀ a∈l,f a=0
 | [],_,_,h=>by cases h
 | b::l,h,a,ha=>by
  unfold cJ at h;split at h
  ·rename_i hb;rcases List.mem_cons.1 ha with rfl|ha
   ·exact hb
   ·exact AEM h a ha
  ·exact absurd h ‹_›
def B5 {r:Sy} {l:List r.den} {i:Int} (h0:0<=i) (h:i.toNat<l.length) (K:r.den->Prop):aR r (List.map r.enc l) i K=K l[i.toNat]:=by
 have e:i=((i.toNat:Nat):Int):=by omega
 have:=bE h K;rw[<-e] at this;exact this
def AQ4 {l:List Int} {k:Nat} (h:k<l.length) (y:Int):(List.map (Sy.int .i64).enc l).set k (bZ ((Sy.int .i64).enc l[k]) 0 [pPP y])=List.map (Sy.int .i64).enc (l.set k y):=by
 rw[List.map_set];rfl
def A9E {l:List Bool} {k:Nat} (h:k<l.length) (y:Bool):(List.map Sy.bool.enc l).set k (bZ (Sy.bool.enc l[k]) 0 [pPR y])=List.map Sy.bool.enc (l.set k y):=by
 rw[List.map_set];rfl
variable {α:Type}
def BX {l:List α} {k:Nat} (d:α) (h:k<l.length):l.getD k d=l[k]:=by simp[List.getD,h]
def BFD (n:Nat):List.replicate n [T.v (Value.int .i64 0)]=List.map (Sy.int .i64).enc (List.replicate n 0):=by rw[List.map_replicate];rfl
def A8D (n:Nat):List.replicate n [pPR false]=List.map Sy.bool.enc (List.replicate n false):=by rw[List.map_replicate];rfl
def AT2 (l:List Int):((List.map (Sy.int .i64).enc l).all λ(r:List T)=>r.all T.flat)=true:=by
 rw[List.all_map,List.all_eq_true];intro a _;rfl
def T9 (x:Int×List aX):Option T:=rY x.2 (Sh.enc B3 (mR x.1 x.2))
def G8:List T->Option (T):=gS OH T9
def AL1 {a0 a1}:G8 [pPP a0,T.sl false (List.map aA.enc a1)]=T9 (a0,a1):=bH (s:=OH) rfl (a0,a1) rfl
def A7C (h:∀ a0 a1 r,T9 (a0,a1)=some r->cG OH (a0,a1)->Y8 a0 a1 (λy=>y=r)):lK Tryz.prog 133 G8 :=
 BEB (E:=YW) (Hs:=AO2) ASD aY a6 (aO rfl) 8 ⟨_,_,Tryz.func133,rfl⟩ rfl λx r h1 h2=>by
  obtain ⟨a0,a1⟩:=x;rw[show Sh.mP OH (a0,a1)=[aG false (Sy.int IntKind.i64) a0,aG false aA.li a1] from rfl,AJ3];exact h a0 a1 r h1 h2
def A32:lK Tryz.prog 133 G8:=A7C λn l r h hb=>by
 obtain ⟨hl,rfl⟩:=kP h;clear h;have hl:l.length<=140737488355328:=hl;unfold Y8 BQK BQI BP5 ACM PP i6 d9 bF;refine cA (λh=>?_) λhn0=>?_
 ·refine ⟨rfl,?_⟩;show _=Sh.enc B3 (mR n l);rw[mR,if_pos (Or.inl h)];rfl
 refine cA (λh=>?_) λhn1=>?_
 ·refine ⟨rfl,?_⟩;show _=Sh.enc B3 (mR n l);rw[mR,if_pos (Or.inr h)];rfl
 refine aF (s:=[(false,.int .i64)]) (y:=cJ (Q5 n) l) (by rw[AU8];exact kQ _ hl) ?_;refine lF (λh0=>?_) (λh0=>?_)
 ·refine ⟨rfl,?_⟩;show _=Sh.enc B3 (mR n l);rw[mR,if_neg (by omega),if_neg h0];rfl
 have hv:mR n l=FW l n.toNat n.toNat (l.foldl A23 (List.replicate n.toNat 0)) [] (List.replicate n.toNat false):=by
  rw[mR,if_neg (by omega),if_pos h0]
 have hend:∀ e∈l,0<=e.1/\e.1<n/\0<=e.2/\e.2<n:=λe he=>by
  have:=AEM h0 e he;unfold Q5 at this;split at this
  ·exact absurd this (by decide)
  ·omega
 clear h0 hb;obtain ⟨N,rfl⟩:∃ N:Nat,n=(N:Int):=⟨n.toNat,by omega⟩
 rw[Int.toNat_natCast] at hv ⊢;refine ⟨by simp;omega,?_⟩;rw[BFD,dJ rfl];refine bM l.length (λk s=>s.2.1=(k:Int)/\s.1.length=N/\(l.drop k).foldl A23 s.1=l.foldl A23 (List.replicate N 0)) ⟨rfl,by simp,rfl⟩ ?_;rintro X k ⟨b,i,u⟩ hk ⟨rfl,hbl,hbf⟩ hX;dsimp only at hbl hbf ⊢;refine cA (λhlt=>?_) λhge=>?_
 ·rw[ae] at hlt;have hlt:k<l.length:=by omega
  rw[bE hlt];obtain ⟨-,-,e0,e1⟩:=hend _ (ak hlt);have hj:(l[k].2).toNat<b.length:=by omega
  rw[B5 e0 hj,jD hj,B5 e0 hj,qQ hj];refine ⟨rfl,?_⟩;rw[AQ4 hj,dJ rfl];refine hX _ hlt ⟨?_,?_,?_⟩
  ·show i64.wrap ((k:Int)+1)=_;rw[bG]<;>omega
  ·show (List.set _ _ _).length=N;rw[List.length_set];exact hbl
  ·rw[List.drop_eq_getElem_cons hlt,List.foldl_cons] at hbf;rw[<-hbf]
   congr 1
   unfold A23;rw[BX (l:=b) 0 hj]
 rw[ae] at hge;have hkl:k=l.length:=by omega
 subst hkl;rw[List.drop_length,List.foldl_nil] at hbf;rw[<-hbf] at hv;refine ⟨by simp;omega,⟨by simp;omega,?_⟩⟩;rw[dJ rfl,A3B,A8D,dJ rfl];clear hX hge hbf;refine bM N (λk s=>s.1.length=N/\s.2.1.length=k/\s.2.2.1.length=N/\FW l N (N-k) s.1 s.2.1 s.2.2.1=mR N l) ⟨hbl,rfl,by simp,by rw[hv];rfl⟩ ?_;clear hv hbl b u;rintro X k ⟨b,o,t,u⟩ hk ⟨hbl,hol,htl,hr⟩ hX;dsimp only at hbl hol htl hr ⊢;refine cA (λhlt=>?_) λhge=>?_
 ·rw[ae,hol] at hlt;have hlt:k<N:=by omega
  rw[dA,dA,dA];obtain ⟨m,hm⟩:∃ m,N-k=m+1:=⟨N-k-1,by omega⟩
  rw[hm,FW] at hr;refine bM N (λj s=>s.1=(j:Int)/\(List.range N).find? (M1 b t)=(List.range' j (N-j)).find? (M1 b t)) ⟨rfl,by rw[List.range_eq_range'];rfl⟩ ?_;rintro Y j ⟨i,u1,u2,u3,u4⟩ hj ⟨rfl,hf⟩ hY;dsimp only at hf ⊢;refine cA (λhjn=>?_) λhjn=>?_
  ·have hjn:j<N:=by omega
   have hjb:j<b.length:=by omega
   have hjt:j<t.length:=by omega
   obtain ⟨q,hq⟩:∃ q,N-j=q+1:=⟨N-j-1,by omega⟩
   rw[hq,List.range'_succ,List.find?_cons] at hf;have next:M1 b t j=false->Y (i64.wrap ((j:Int)+1),(),(),(),()):=λh=>by
    refine hY _ hjn ⟨?_,?_⟩
    ·show i64.wrap ((j:Int)+1)=_;rw[bG]<;>omega
    ·rw[hf,h];rw[show N-(j+1)=q by omega]
   simp only[Int.toNat_natCast];rw[bE hjt,jD hjt];refine sX (λht=>?_) λht=>?_
   ·rw[dA,dA,dA];exact next (by rw[M1,BX (l:=t) false hjt,ht];rfl)
   rw[bE hjb,jD hjb];refine cA (λhp=>?_) λhp=>?_
   ·rw[dA,dA,dA];exact next (by rw[M1,BX (l:=b) 0 hjb,aj (by omega),Bool.and_false])
   have hfree:M1 b t j=true:=by rw[M1,BX (l:=b) 0 hjb,BX (l:=t) false hjt,ht,ai (by omega)];rfl
   rw[hfree] at hf;rw[hf] at hr;dsimp only at hr;clear next hY hf
   rw[bE hjt,qQ hjt];refine ⟨rfl,⟨by simp;omega,?_⟩⟩;rw[dJ rfl];refine bM l.length (λk s=>s.2.1=(k:Int)/\s.1.length=N/\(l.drop k).foldl (A3A j) s.1=l.foldl (A3A j) b) ⟨rfl,hbl,rfl⟩ ?_;rintro Z i ⟨c,i',u⟩ hi ⟨rfl,hcl,hcf⟩ hZ;dsimp only at hcl hcf ⊢;refine cA (λhlt=>?_) λhge=>?_
   ·rw[ae] at hlt;have hlt:i<l.length:=by omega
    rw[bE hlt];obtain ⟨-,-,e0,e1⟩:=hend _ (ak hlt);have hjc:(l[i].2).toNat<c.length:=by omega
    rw[List.drop_eq_getElem_cons hlt,List.foldl_cons] at hcf;have hw:i64.wrap ((i:Int)+1)=((i+1:Nat):Int):=by rw[bG]<;>omega
    refine cA (λhv=>?_) λhv=>?_
    ·rw[B5 e0 hjc,jD hjc,B5 e0 hjc,qQ hjc];refine ⟨rfl,?_⟩;rw[AQ4 hjc,dJ rfl];refine hZ _ hlt ⟨hw,?_,?_⟩
     ·show (List.set _ _ _).length=N;rw[List.length_set];exact hcl
     ·rw[<-hcf]
      congr 1
      unfold A3A;rw[if_pos hv,BX (l:=c) 0 hjc]
    ·rw[dJ rfl];refine hZ _ hlt ⟨hw,hcl,?_⟩;rw[<-hcf]
     congr 1
     unfold A3A;rw[if_neg hv]
   ·rw[ae] at hge;have hil:i=l.length:=by omega
    subst hil;rw[List.drop_length,List.foldl_nil] at hcf;rw[dJ rfl,J4 (r:=.int .i64) rfl o [T.v (.int .i64 (j:Int))] (j:Int) rfl,A9E hjt,dJ rfl];refine hX _ hlt ⟨hcl,by simp[hol],by simp[htl],?_⟩;rw[show N-(k+1)=m by omega];show FW l N m c (o++[(j:Int)]) (t.set j true)=_;rw[hcf];exact hr
  ·have hjn:j=N:=by omega
   subst hjn;rw[Nat.sub_self] at hf;rw[show (List.range' j 0)=[] from rfl,List.find?_nil] at hf;rw[hf] at hr;refine ⟨rfl,?_⟩;show _=Sh.enc B3 (mR (j:Int) l);rw[<-hr];rfl
 ·rw[ae,hol] at hge;have hkN:k=N:=by omega
  subst hkN;rw[Nat.sub_self,FW] at hr;refine ⟨AT2 o,rfl,?_⟩;show _=Sh.enc B3 (mR (k:Int) l);rw[<-hr];rfl
end Go.Pv
namespace Go.Pv
open Go Go.Proofs IntKind
def x9 (a0:List iII):List T:=[T.sl false (List.map Sy.str.enc a0)]
def AIQ:Env:=Env.of []
def A16:FuncId->Hint:=λ_=>bA
def AZU:aU Tryz.prog AIQ:=.nil _
def AKA(a0:List iII)(R:T->Prop):Prop:=R (T.fn 272 [] [T.ref [T.sl false (LT a0)]])
def ASU ( a0 R):eX cD Tryz.prog AIQ A16 8 132 (x9 a0) R=AKA a0 R:=by kernel_rfl
def ACL (l:List iII):Option T:=some (T.fn 272 [] [T.ref [T.sl false (List.map Sy.str.enc l)]])
def AIC (x y:List iII) (h:x9 x=x9 y):x=y:=by
 unfold x9 at h;have h:=(T.sl.injEq .. ▸ (List.cons.inj h).1)
 exact map_inj (Sy.dV .str) h.2
def KQ:List T->Option (T):=gA (λ(x:List iII)=>x9 x) ACL
def W8 (a0:List iII):KQ (x9 a0)=ACL a0:=gG (A:=(λ(x:List iII)=>x9 x)) AIC a0
def BE2 (h:∀ (a0:List iII) (r:T),ACL a0=some r->(∀ t∈x9 a0,Bd t)->AKA a0 (λy=>y=r)):aP Tryz.prog 132 KQ :=
 cZ (E:=AIQ) (Hs:=A16) AZU aY a6 (aO rfl) 8 ⟨_,_,Tryz.func132,rfl⟩ λx r h1 h2=>by
  rw[ASU];exact h x r h1 h2
def BDL:aP Tryz.prog 132 KQ:=BE2 λl r h hb=>by
 cases h;unfold AKA LT;rfl
end Go.Pv
namespace Go.Pv
abbrev Pt:=Int×Int
def eH (a b c:Pt):Int:=(b.1-a.1)*(c.2-a.2)-(b.2-a.2)*(c.1-a.1)
def UO (n:Int):Int:=if n<0 then -1 else if 0<n then 1 else 0
def btw (a b q:Pt):Bool:=decide (min a.1 b.1<=q.1)&&decide (q.1<=max a.1 b.1)&&(decide (min a.2 b.2<=q.2)&&decide (q.2<=max a.2 b.2))
def onI (a b q:Pt):Bool:=decide (eH a b q=0)&&btw a b q
def nV (a b c d:Pt):Bool:=onI a b c||onI a b d||onI c d a||onI c d b||(decide (UO (eH a b c)*UO (eH a b d)<0)&&decide (UO (eH c d a)*UO (eH c d b)<0))
def dS (q:Pt):Prop:=-32768<=q.1/\q.1<=32768∧-32768<=q.2/\q.2<=32768
def FU {x y M N:Int} (hx:-M<=x/\x<=M) (hy:-N<=y/\y<=N) (hM:0<=M) (hN:0<=N):-(M*N)<=x*y/\x*y<=M*N:=by
 have h1:x.natAbs<=M.toNat:=by omega
 have h2:y.natAbs<=N.toNat:=by omega
 have h3:=Nat.mul_le_mul h1 h2;rw[<-Int.natAbs_mul] at h3;have h4:((M.toNat*N.toNat:Nat):Int)=M*N:=by
  rw[Int.natCast_mul,Int.toNat_of_nonneg hM,Int.toNat_of_nonneg hN]
 omega
def A27 {a b c:Pt} (ha:dS a) (hb:dS b) (hc:dS c):(-4294967296<=(b.1-a.1)*(c.2-a.2)/\(b.1-a.1)*(c.2-a.2)<=4294967296)/\(-4294967296<=(b.2-a.2)*(c.1-a.1)/\(b.2-a.2)*(c.1-a.1)<=4294967296):=by
 unfold dS at ha hb hc;have h1:=FU (x:=b.1-a.1) (y:=c.2-a.2) (M:=65536) (N:=65536) (by omega) (by omega) (by omega) (by omega);have h2:=FU (x:=b.2-a.2) (y:=c.1-a.1) (M:=65536) (N:=65536) (by omega) (by omega) (by omega) (by omega);constructor<;>constructor<;>omega
def A9F (n:Int):-1<=UO n/\UO n<=1:=by unfold UO;split<;>(try split)<;>omega
end Go.Pv
namespace Go.Pv
end Go.Pv
namespace Go.Pv
def hit (a b q:Pt):Bool:=(decide (a.2<=q.2)&&decide (q.2<b.2)&&decide (0<eH a b q))||(decide (b.2<=q.2)&&decide (q.2<a.2)&&decide (eH a b q<0))
def dr (u v w:Pt):Bool:=decide (u.2<w.2)&&decide (w.2<=v.2)&&decide (eH u v w<0)
def QZ (a b q:Pt):eH b a q = - eH a b q:=by simp only[eH];grind
def BJT {a b q:Pt} (h:eH a b q=0) (hab:a.2<b.2) (h1:a.2<=q.2) (h2:q.2<=b.2):btw a b q=true:=by
 have e:(b.1-a.1)*(q.2-a.2)=(b.2-a.2)*(q.1-a.1):=by unfold eH at h;omega
 have hx:min a.1 b.1<=q.1/\q.1<=max a.1 b.1:=by
  rcases Int.le_total a.1 b.1 with hd|hd
  ·have m1:=Int.mul_nonneg (show 0<=b.1-a.1 by omega) (show 0<=q.2-a.2 by omega);have m2:(b.1-a.1)*(q.2-a.2)<=(b.1-a.1)*(b.2-a.2):=Int.mul_le_mul_of_nonneg_left (by omega) (by omega);have p1:0<=q.1-a.1:=by
    refine Int.not_lt.1 λh=>?_;have:=Int.mul_neg_of_pos_of_neg (show 0<b.2-a.2 by omega) h;omega
   have p2:q.1-a.1<=b.1-a.1:=by
    refine Int.not_lt.1 λh=>?_;have h3:=Int.mul_lt_mul_of_pos_left h (show 0<b.2-a.2 by omega);have h4:(b.2-a.2)*(b.1-a.1)=(b.1-a.1)*(b.2-a.2):=Int.mul_comm _ _;omega
   omega
  ·have m1:=Int.mul_nonneg (show 0<=a.1-b.1 by omega) (show 0<=q.2-a.2 by omega);have m2:(a.1-b.1)*(q.2-a.2)<=(a.1-b.1)*(b.2-a.2):=Int.mul_le_mul_of_nonneg_left (by omega) (by omega);have e1:(a.1-b.1)*(q.2-a.2) = - ((b.1-a.1)*(q.2-a.2)):=by grind
   have p1:q.1-a.1<=0:=by
    refine Int.not_lt.1 λh=>?_;have:=Int.mul_pos (show 0<b.2-a.2 by omega) h;omega
   have p2:b.1-a.1<=q.1-a.1:=by
    refine Int.not_lt.1 λh=>?_;have h3:=Int.mul_lt_mul_of_pos_left h (show 0<b.2-a.2 by omega);have h4:(a.1-b.1)*(b.2-a.2) = - ((b.2-a.2)*(b.1-a.1)):=by grind
    omega
   omega
 simp only[btw,ac,ah];omega
def BE5 {a b q:Pt} (h:eH a b q=0) (hab:a.2<b.2) (h1:a.2<=q.2) (h2:q.2<=b.2):onI a b q=true:=by
 unfold onI;rw[ai h,BJT h hab h1 h2];rfl
end Go.Pv
namespace Go.Pv
end Go.Pv
namespace Go.Pv
def A2U (a b q:Pt):btw b a q=btw a b q:=by unfold btw;rw[Int.min_comm b.1,Int.max_comm b.1,Int.min_comm b.2,Int.max_comm b.2]
def BE4 (a b q:Pt):onI b a q=onI a b q:=by
 unfold onI;rw[A2U,QZ a b q]
 congr 1
 exact decide_eq_decide.2 (by omega)
def A9T:Nat->(Nat->Bool)->Bool
 | 0,_=>false
 | n+1,f=>A9T n f ^^ f n
def pt (p:List Pt) (i:Nat):Pt:=p.getD i (0,0)
def nx (p:List Pt) (i:Nat):Pt:=pt p ((i+1) % p.length)
def BDR (p:List Pt) (q:Pt):Bool:=A9T p.length λi=>hit (pt p i) (nx p i) q
end Go.Pv
namespace Go.Pv
open Go Go.Proofs IntKind
instance BPH (q:Pt):Decidable (dS q):=by unfold dS;infer_instance
def jY {a b:Bool} (h:a=b):pPR a=pPR b:=by rw[h]
def N1 {a b:Int} (h:a=b):pPP a=pPP b:=by rw[h]
variable {α:Type}
def SN (a b c:Pt) (r:α):Option α:=match decide (dS a/\dS b/\dS c) with
 | true=>some r
 | false=>none
def SO {a b c:Pt} {t r:α} (h:SN a b c t=some r):dS a/\dS b/\dS c/\r=t:=by
 unfold SN at h;split at h
 ·rename_i hc;cases h;obtain ⟨h1,h2,h3⟩:=of_decide_eq_true hc;exact ⟨h1,h2,h3,rfl⟩
 ·cases h
def SP {a b c:Pt} (t:α) (ha:dS a) (hb:dS b) (hc:dS c):SN a b c t=some t:=by unfold SN;rw[ai ⟨ha,hb,hc⟩]
def UM {a b c:Pt} (ha:dS a) (hb:dS b) (hc:dS c):i64.wrap (i64.wrap (i64.wrap (b.1-a.1)*i64.wrap (c.2-a.2))-i64.wrap (i64.wrap (b.2-a.2)*i64.wrap (c.1-a.1)))=eH a b c:=by
 have h:=A27 ha hb hc;unfold dS at ha hb hc;rw[bG (b.1-a.1) (by omega) (by omega),bG (c.2-a.2) (by omega) (by omega),bG (b.2-a.2) (by omega) (by omega),bG (c.1-a.1) (by omega) (by omega),
  bG ((b.1-a.1)*(c.2-a.2)) (by omega) (by omega),bG ((b.2-a.2)*(c.1-a.1)) (by omega) (by omega),bG _ (by omega) (by omega)]
 rfl
def JK (m n:Int):i64.wrap (UO m*UO n)=UO m*UO n:=by
 have h:=FU (A9F m) (A9F n) (by omega) (by omega);exact bG _ (by omega) (by omega)
def AA6 (a b:Int):(if b<a then b else a)=min a b:=by omega
def AA4 (a b:Int):(if a<b then b else a)=max a b:=by omega
def AYO:Env:=Env.of []
def A1U:FuncId->Hint:=λ_=>bA
def AI5:aU Tryz.prog AYO:=.nil _
def WP(a1:aX)(a0:aX)(a2:aX):T:=pPP (i64.wrap (i64.wrap (i64.wrap (a1.1-a0.1)*i64.wrap (a2.2-a0.2)) - i64.wrap (i64.wrap (a1.2-a0.2)*i64.wrap (a2.1-a0.1))))
def PO(a0:aX)(a1:aX)(a2:aX)(R:T->Prop):Prop:=R (WP a1 a0 a2)
abbrev TK:Sh:=[(true,aA),(true,aA),(true,aA)]
def CG (x:aX×aX×aX):Option T:=SN x.1 x.2.1 x.2.2 (T.v (Value.int .i64 (eH x.1 x.2.1 x.2.2)))
def hU:List T->Option T:=gS TK CG
def AFI {a0 a1 a2}:hU [aG true aA a0,aG true aA a1,aG true aA a2]=CG (a0,a1,a2):=bH (s:=TK) rfl (a0,a1,a2) rfl
def AWJ:Of3 Tryz.prog 356 hU CG (cG TK) PO:=SW (a1:=(true,aA)) (a2:=(true,aA)) (a3:=(true,aA)) (sp:=CG) (F:=PO) (Hs:=A1U) (f:=356) (k:=8) AI5 aY a6 (aO rfl) ⟨_,_,Tryz.func356,rfl⟩ rfl λ_ _ _ _=>by kernel_rfl
def BP:aP Tryz.prog 356 hU:=AWJ λa b c r h hb=>by
 obtain ⟨h1,h2,h3,rfl⟩:=SO h;unfold PO WP;exact N1 (UM h1 h2 h3)
def kN {a b c:Pt} (h1:dS a) (h2:dS b) (h3:dS c):hU [aG true aA a,aG true aA b,aG true aA c]=some (Sh.enc [(false,.int .i64)] (eH a b c)):=(AFI ..).trans (SP _ h1 h2 h3)
def AYW:Env:=Env.of []
def A12:FuncId->Hint:=λ_=>bA
def AJD:aU Tryz.prog AYW:=.nil _
def PX(a0:aX)(a1:aX)(a2:aX)(R:T->Prop):Prop:=R (WP a1 a0 a2)
abbrev TS:Sh:=[(true,aA),(true,aA),(true,aA)]
def CM (x:aX×aX×aX):Option T:=SN x.1 x.2.1 x.2.2 (T.v (Value.int .i64 (eH x.1 x.2.1 x.2.2)))
def nT:List T->Option T:=gS TS CM
def AFT {a0 a1 a2}:nT [aG true aA a0,aG true aA a1,aG true aA a2]=CM (a0,a1,a2):=bH (s:=TS) rfl (a0,a1,a2) rfl
def AWR:Of3 Tryz.prog 359 nT CM (cG TS) PX:=SW (a1:=(true,aA)) (a2:=(true,aA)) (a3:=(true,aA)) (sp:=CM) (F:=PX) (Hs:=A12) (f:=359) (k:=8) AJD aY a6 (aO rfl) ⟨_,_,Tryz.func359,rfl⟩ rfl λ_ _ _ _=>by kernel_rfl
def AUM:aP Tryz.prog 359 nT:=AWR λa b c r h hb=>by
 obtain ⟨h1,h2,h3,rfl⟩:=SO h;unfold PX WP;exact N1 (UM h1 h2 h3)
def sW {a b c:Pt} (h1:dS a) (h2:dS b) (h3:dS c):nT [aG true aA a,aG true aA b,aG true aA c]=some (Sh.enc [(false,.int .i64)] (eH a b c)):=(AFT ..).trans (SP _ h1 h2 h3)
def A96:Env:=Env.of []
def BBP:FuncId->Hint:=λ_=>bA
def ASI:aU Tryz.prog A96:=.nil _
def ZD(a0:Int)(R:T->Prop):Prop:=aC (!decide (a0=a0)) (R (pPP (-1))) (aC (decide (a0<0)) (R (pPP (-1))) (aC (decide (0<a0)) (R (pPP 1)) (BQA R)))
abbrev ABU:Sh:=[(false,(Sy.int IntKind.i64))]
def I9 (n:Int):Option T:=some (T.v (Value.int .i64 (UO n)))
def qN:List T->Option T:=gS ABU I9
def AL6 {a0}:qN [pPP a0]=I9 (a0):=bH (s:=ABU) rfl (a0) rfl
def A7H:xX Tryz.prog 367 qN I9 (cG ABU) ZD:=kC (a1:=(false,(Sy.int IntKind.i64))) (sp:=I9) (F:=ZD) (Hs:=BBP) (f:=367) (k:=8) ASI aY a6 (aO rfl) ⟨_,_,Tryz.func367,rfl⟩ rfl λ_ _=>by kernel_rfl
def wN (n:Int):qN [pPP n]=some (Sh.enc [(false,.int .i64)] (UO n)):=AL6 ..
def A97:Env:=Env.of []
def BBQ:FuncId->Hint:=λ_=>bA
def ASJ:aU Tryz.prog A97:=.nil _
def ZE(a0:Int)(R:T->Prop):Prop:=R (pPP (if 1<if a0 < -1 then -1 else a0 then 1 else if a0 < -1 then -1 else a0))
abbrev ABV:Sh:=[(false,(Sy.int IntKind.i64))]
def JA (n:Int):Option T:=some (T.v (Value.int .i64 (UO n)))
def qO:List T->Option T:=gS ABV JA
def AL7 {a0}:qO [pPP a0]=JA (a0):=bH (s:=ABV) rfl (a0) rfl
def A7I:xX Tryz.prog 358 qO JA (cG ABV) ZE:=kC (a1:=(false,(Sy.int IntKind.i64))) (sp:=JA) (F:=ZE) (Hs:=BBQ) (f:=358) (k:=8) ASJ aY a6 (aO rfl) ⟨_,_,Tryz.func358,rfl⟩ rfl λ_ _=>by kernel_rfl
def wO (n:Int):qO [pPP n]=some (Sh.enc [(false,.int .i64)] (UO n)):=AL7 ..
def A36:aP Tryz.prog 367 qN:=A7H λn r h hb=>by
 cases h;unfold ZD BQA;refine lF (λh=>absurd rfl h) λ_=>?_;exact cA (λh=>N1 (by unfold UO;rw[if_pos h])) λh=>cA (λh2=>N1 (by unfold UO;rw[if_neg h,if_pos h2])) λh2=>N1 (by unfold UO;rw[if_neg h,if_neg h2])
def A37:aP Tryz.prog 358 qO:=A7I λn r h hb=>by
 cases h;unfold ZE;refine N1 ?_;unfold UO;omega
def AR3:Env:=Env.of []
def AS2:FuncId->Hint:=λ_=>bA
def AC7:aU Tryz.prog AR3:=.nil _
def BP0(a2:aX)(a0:aX)(a1:aX)(R:T->Prop):Prop:=aC (decide (a2.1<=if a0.1<a1.1 then a1.1 else a0.1)) (aC (decide ((if a1.2<a0.2 then a1.2 else a0.2)<=a2.2)) (R (pPR (decide (a2.2<=if a0.2<a1.2 then a1.2 else a0.2)))) (R d4)) (R d4)
def JR(a0:aX)(a1:aX)(a2:aX)(R:T->Prop):Prop:=aC (decide ((if a1.1<a0.1 then a1.1 else a0.1)<=a2.1)) (BP0 a2 a0 a1 R) (R d4)
abbrev L1:Sh:=[(true,aA),(true,aA),(true,aA)]
def xG (x:aX×aX×aX):Option T:=some (pPR (btw x.1 x.2.1 x.2.2))
def uY:List T->Option T:=gS L1 xG
def AAN {a0 a1 a2}:uY [aG true aA a0,aG true aA a1,aG true aA a2]=xG (a0,a1,a2):=bH (s:=L1) rfl (a0,a1,a2) rfl
def AM5:Of3 Tryz.prog 368 uY xG (cG L1) JR:=SW (a1:=(true,aA)) (a2:=(true,aA)) (a3:=(true,aA)) (sp:=xG) (F:=JR) (Hs:=AS2) (f:=368) (k:=8) AC7 aY a6 (aO rfl) ⟨_,_,Tryz.func368,rfl⟩ rfl λ_ _ _ _=>by kernel_rfl
def ALO:aP Tryz.prog 368 uY:=AM5 λa b c r h hb=>by
 cases h;unfold JR BP0 d4;rw[AA6,AA6,AA4,AA4];refine cA (λh1=>cA (λh2=>cA (λh3=>jY ?_) λh3=>jY ?_) λh2=>jY ?_) λh1=>jY ?_
 all_goals simp[btw,h1]
 all_goals simp[h2]
 all_goals simp[h3]
def BMT:Env:=Env.of []
def BNF:FuncId->Hint:=λ_=>bA
def BBG:aU Tryz.prog BMT:=.nil _
def A1G(a0:aX)(a1:aX)(a2:aX)(R:T->Prop):Prop:=aC (decide ((if a1.1<a0.1 then a1.1 else a0.1)<=a2.1)) (BP0 a2 a0 a1 R) (R d4)
abbrev A9A:Sh:=[(true,aA),(true,aA),(true,aA)]
abbrev AQV:Sh:=[(false,Sy.bool)]
def ANI (y:Sh.den AQV) (K:Sh.den AQV->Prop):aJ AQV (some (Sh.enc AQV y)) K=K y:=BG rfl y K
def UA (x:aX×aX×aX):Option T:=some (pPR (btw x.1 x.2.1 x.2.2))
def fG:List T->Option T:=gS A9A UA
def A5T {a0 a1 a2}:fG [aG true aA a0,aG true aA a1,aG true aA a2]=UA (a0,a1,a2):=bH (s:=A9A) rfl (a0,a1,a2) rfl
def BK5:Of3 Tryz.prog 360 fG UA (cG A9A) A1G:=SW (a1:=(true,aA)) (a2:=(true,aA)) (a3:=(true,aA)) (sp:=UA) (F:=A1G) (Hs:=BNF) (f:=360) (k:=8) BBG aY a6 (aO rfl) ⟨_,_,Tryz.func360,rfl⟩ rfl λ_ _ _ _=>by kernel_rfl
def BI3:aP Tryz.prog 360 fG:=BK5 λa b c r h hb=>by
 cases h;unfold A1G BP0 d4;rw[AA6,AA6,AA4,AA4];refine cA (λh1=>cA (λh2=>cA (λh3=>jY ?_) λh3=>jY ?_) λh2=>jY ?_) λh1=>jY ?_
 all_goals simp[btw,h1]
 all_goals simp[h2]
 all_goals simp[h3]
def BMS:Env:=Env.of [(356,.pure hU),(368,.pure uY)]
def BNE:FuncId->Hint:=λ_=>bA
def BBA:aU Tryz.prog BMS:=.cons BP (.cons ALO (.nil _))
def LE(a0:aX)(a1:aX)(a2:aX):List T:=[aG true aA a0,aG true aA a1,aG true aA a2]
def A05(a0:aX)(a1:aX)(a2:aX)(R:T->Prop):Prop:=aJ d9 (hU (LE a0 a1 a2)) λ(y0:Int)=>aC (decide (y0=0)) (aJ d6 (uY (LE a0 a1 a2)) λ(y1:Bool)=>R (pPR y1)) (R d4)
abbrev A89:Sh:=[(true,aA),(true,aA),(true,aA)]
def ACK (x:aX×aX×aX):Option T:=SN x.1 x.2.1 x.2.2 (pPR (onI x.1 x.2.1 x.2.2))
def zF:List T->Option T:=gS A89 ACK
def A5M {a0 a1 a2}:zF [aG true aA a0,aG true aA a1,aG true aA a2]=ACK (a0,a1,a2):=bH (s:=A89) rfl (a0,a1,a2) rfl
def BKZ:Of3 Tryz.prog 361 zF ACK (cG A89) A05:=SW (a1:=(true,aA)) (a2:=(true,aA)) (a3:=(true,aA)) (sp:=ACK) (F:=A05) (Hs:=BNE) (f:=361) (k:=8) BBA aY a6 (aO rfl) ⟨_,_,Tryz.func361,rfl⟩ rfl λ_ _ _ _=>by kernel_rfl
def A35:aP Tryz.prog 361 zF:=BKZ λa b c r h hb=>by
 obtain ⟨h1,h2,h3,rfl⟩:=SO h;unfold A05 LE d9 d6 d4;refine aF (s:=[(false,.int .i64)]) (kN h1 h2 h3) ?_;refine cA (λh=>?_) λh=>jY (by unfold onI;rw[aj h];rfl);refine aF (s:=[(false,.bool)]) (y:=btw a b c) (AAN ..) ?_;exact jY (by unfold onI;rw[ai h];rfl)
def zG {a b c:Pt} (h1:dS a) (h2:dS b) (h3:dS c):zF [aG true aA a,aG true aA b,aG true aA c]=some (Sh.enc [(false,.bool)] (onI a b c)):=(A5M ..).trans (SP _ h1 h2 h3)
def XM (a b c d:Pt) (r:α):Option α:=match decide (dS a/\dS b/\dS c/\dS d) with
 | true=>some r
 | false=>none
def AGY {a b c d:Pt} {t r:α} (h:XM a b c d t=some r):dS a/\dS b/\dS c/\dS d/\r=t:=by
 unfold XM at h;split at h
 ·rename_i hc;cases h;obtain ⟨h1,h2,h3,h4⟩:=of_decide_eq_true hc;exact ⟨h1,h2,h3,h4,rfl⟩
 ·cases h
def AGZ {a b c d:Pt} (t:α) (ha:dS a) (hb:dS b) (hc:dS c) (hd:dS d):XM a b c d t=some t:=by unfold XM;rw[ai ⟨ha,hb,hc,hd⟩]
def A95:Env:=Env.of [(356,.pure hU),(361,.pure zF),(367,.pure qN)]
def BBO:FuncId->Hint:=λ_=>bA
def ASH:aU Tryz.prog A95:=.cons BP (.cons A35 (.cons A36 (.nil _)))
def t8(a0:aX)(a1:aX)(a3:aX):List T:=[aG true aA a0,aG true aA a1, aG true aA a3]
def BQE(y4:Int):List T:=[pPP y4]
def ZC(a0:aX)(a1:aX)(a2:aX)(a3:aX)(R:T->Prop):Prop:=aJ d6 (zF (LE a0 a1 a2)) λ(y0:Bool)=>aC y0 (R d7) (aJ d6 (zF (LE a0 a1 a3)) λ(y1:Bool)=>aC y1 (R d7) (aJ d6 (zF (LE a2 a3 a0)) λ(y2:Bool)=>aC y2 (R d7) (aJ d6 (zF (LE a2 a3 a1)) λ(y3:Bool)=>aC y3 (R d7) (aJ d9 (hU (LE a0 a1 a2)) λ(y4:Int)=>aJ d9 (qN (BQE y4)) λ(y5:Int)=>aJ d9 (hU (t8 a0 a1 a3)) λ(y6:Int)=>aJ d9 (qN (BQE y6)) λ(y7:Int)=>aC (decide (i64.wrap (y5*y7)<0)) (aJ d9 (hU (t8 a2 a3 a0)) λ(y8:Int)=>aJ d9 (qN (BQE y8)) λ(y9:Int)=>aJ d9 (hU (t8 a2 a3 a1)) λ(y10:Int)=>aJ d9 (qN (BQE y10)) λ(y11:Int)=>R (pPR (decide (i64.wrap (y9*y11)<0)))) (R d4)))))
abbrev ABT:Sh:=[(true,aA),(true,aA),(true,aA),(true,aA)]
def I8 (x:aX×aX×aX×aX):Option T:=XM x.1 x.2.1 x.2.2.1 x.2.2.2 (pPR (nV x.1 x.2.1 x.2.2.1 x.2.2.2))
def sV:List T->Option T:=gS ABT I8
def AL4 {a0 a1 a2 a3}:sV [aG true aA a0,aG true aA a1,aG true aA a2,
 aG true aA a3]=I8 (a0,a1,a2,a3):=bH (s:=ABT) rfl (a0,a1,a2,a3) rfl
def A7G:Of4 Tryz.prog 357 sV I8 (cG ABT) ZC:=BOS (a1:=(true,aA)) (a2:=(true,aA)) (a3:=(true,aA)) (a4:=(true,aA)) (sp:=I8) (F:=ZC) (Hs:=BBO) (f:=357) (k:=8) ASH aY a6 (aO rfl) ⟨_,_,Tryz.func357,rfl⟩ rfl λ_ _ _ _ _=>by kernel_rfl
def A34:aP Tryz.prog 357 sV:=A7G λa b c d r h hb=>by
 obtain ⟨h1,h2,h3,h4,rfl⟩:=AGY h;unfold ZC BQE LE t8 d9 d7 d6 d4;refine aF (s:=[(false,.bool)]) (zG h1 h2 h3) ?_;refine sX (λh=>jY (by unfold nV;rw[h];rfl)) λk1=>?_;refine aF (s:=[(false,.bool)]) (zG h1 h2 h4) ?_;refine sX (λh=>jY (by unfold nV;rw[h,k1];rfl)) λk2=>?_;refine aF (s:=[(false,.bool)]) (zG h3 h4 h1) ?_;refine sX (λh=>jY (by unfold nV;rw[h,k1,k2];rfl)) λk3=>?_;refine aF (s:=[(false,.bool)]) (zG h3 h4 h2) ?_;refine sX (λh=>jY (by unfold nV;rw[h,k1,k2,k3];rfl)) λk4=>?_;refine aF (s:=[(false,.int .i64)]) (kN h1 h2 h3) ?_;refine aF (s:=[(false,.int .i64)]) (wN _) ?_;refine aF (s:=[(false,.int .i64)]) (kN h1 h2 h4) ?_;refine aF (s:=[(false,.int .i64)]) (wN _) ?_;rw[JK];refine cA (λh=>?_) λh=>jY (by unfold nV;rw[k1,k2,k3,k4,aj h];rfl);refine aF (s:=[(false,.int .i64)]) (kN h3 h4 h1) ?_;refine aF (s:=[(false,.int .i64)]) (wN _) ?_;refine aF (s:=[(false,.int .i64)]) (kN h3 h4 h2) ?_;refine aF (s:=[(false,.int .i64)]) (wN _) ?_;rw[JK];exact jY (by unfold nV;rw[k1,k2,k3,k4,ai h];rfl)
def AL5 {a b c d:Pt} (h1:dS a) (h2:dS b) (h3:dS c) (h4:dS d):sV [aG true aA a,aG true aA b,aG true aA c,aG true aA d]=some (Sh.enc [(false,.bool)] (nV a b c d)):=(AL4 ..).trans (AGZ _ h1 h2 h3 h4)
def BG1:Env:=Env.of []
def BHH:FuncId->Hint:=λ_=>bA
def AZP:aU Tryz.prog BG1:=.nil _
def AJ5(a0:aX)(R:T->Prop):Prop:=aC (decide (a0.1 < -32768)) (R d7) (aC (decide (32768<a0.1)) (R d7) (aC (decide (a0.2 < -32768)) (R d7) (R (pPR (decide (32768<a0.2))))))
abbrev ANX:Sh:=[(true,aA)]
def ON (q:aX):Option T:=some (pPR (!decide (dS q)))
def FD:List T->Option T:=gS ANX ON
def WQ {a0}:FD [aG true aA a0]=ON (a0):=bH (s:=ANX) rfl (a0) rfl
def BEX:xX Tryz.prog 340 FD ON (cG ANX) AJ5:=kC (a1:=(true,aA)) (sp:=ON) (F:=AJ5) (Hs:=BHH) (f:=340) (k:=8) AZP aY a6 (aO rfl) ⟨_,_,Tryz.func340,rfl⟩ rfl λ_ _=>by kernel_rfl
def APP:aP Tryz.prog 340 FD:=BEX λq r h hb=>by
 cases h;unfold AJ5 d7;have no:¬ dS q->true = !decide (dS q):=λh=>by rw[aj h];rfl
 refine cA (λh=>jY (no (by unfold dS;omega))) λh1=>cA (λh=>jY (no (by unfold dS;omega))) λh2=>cA (λh=>jY (no (by unfold dS;omega))) λh3=>jY ?_;by_cases h:dS q
 ·rw[ai h,Bool.not_true];unfold dS at h;exact aj (by omega)
 ·rw[aj h,Bool.not_false];unfold dS at h;exact ai (by omega)
def A9G {n:Int}:UO n=0↔n=0:=by
 unfold UO;split
 ·omega
 ·split<;>omega
def AY2:Env:=Env.of [(359,.pure nT),(358,.pure qO),(360,.pure fG)]
def A13:FuncId->Hint:=λ_=>bA
def AJF:aU Tryz.prog AY2:=.cons AUM (.cons A37 (.cons BI3 (.nil _)))
def WF(y5:Int)(a2:aX)(a3:aX)(a0:aX)(R:T->Prop)(y7:Int)(a1:aX):Prop:=aC (decide (y5=0)) (aJ d6 (fG (t8 a2 a3 a0)) λ(y10:Bool)=>aC y10 (R d7) (aC (decide (y7=0)) (aJ d6 (fG (t8 a2 a3 a1)) λ(y11:Bool)=>R (pPR y11)) (R d4))) (aC (decide (y7=0)) (aJ d6 (fG (t8 a2 a3 a1)) λ(y12:Bool)=>R (pPR y12)) (R d4))
def f5(y3:Int)(a0:aX)(a1:aX)(a3:aX)(R:T->Prop)(y5:Int)(a2:aX)(y7:Int):Prop:=aC (decide (y3=0)) (aJ d6 (fG (t8 a0 a1 a3)) λ(y9:Bool)=>aC y9 (R d7) (WF y5 a2 a3 a0 R y7 a1)) (WF y5 a2 a3 a0 R y7 a1)
def PZ(a0:aX)(a1:aX)(a2:aX)(a3:aX)(R:T->Prop):Prop:=aJ d9 (nT (LE a0 a1 a2)) λ(y0:Int)=>aJ d9 (qO (BQE y0)) λ(y1:Int)=>aJ d9 (nT (LE a0 a1 a3)) λ(y2:Int)=>aJ d9 (qO (BQE y2)) λ(y3:Int)=>aJ d9 (nT (LE a2 a3 a0)) λ(y4:Int)=>aJ d9 (qO (BQE y4)) λ(y5:Int)=>aJ d9 (nT (LE a2 a3 a1)) λ(y6:Int)=>aJ d9 (qO (BQE y6)) λ(y7:Int)=>aC (decide (i64.wrap (y1*y3)<0)) (aC (decide (i64.wrap (y5*y7)<0)) (R d7) (aC (decide (y1=0)) (aJ d6 (fG (t8 a0 a1 a2)) λ(y8:Bool)=>aC y8 (R d7) (f5 y3 a0 a1 a3 R y5 a2 y7)) (f5 y3 a0 a1 a3 R y5 a2 y7))) (aC (decide (y1=0)) (aJ d6 (fG (t8 a0 a1 a2)) λ(y23:Bool)=>aC y23 (R d7) (f5 y3 a0 a1 a3 R y5 a2 y7)) (f5 y3 a0 a1 a3 R y5 a2 y7))
abbrev TT:Sh:=[(true,aA),(true,aA),(true,aA),(true,aA)]
def CN (x:aX×aX×aX×aX):Option T:=XM x.1 x.2.1 x.2.2.1 x.2.2.2 (pPR (nV x.1 x.2.1 x.2.2.1 x.2.2.2))
def zJ:List T->Option T:=gS TT CN
def AF0 {a0 a1 a2 a3}:zJ [aG true aA a0,aG true aA a1,aG true aA a2,
 aG true aA a3]=CN (a0,a1,a2,a3):=bH (s:=TT) rfl (a0,a1,a2,a3) rfl
def AWT:Of4 Tryz.prog 344 zJ CN (cG TT) PZ:=BOS (a1:=(true,aA)) (a2:=(true,aA)) (a3:=(true,aA)) (a4:=(true,aA)) (sp:=CN) (F:=PZ) (Hs:=A13) (f:=344) (k:=8) AJF aY a6 (aO rfl) ⟨_,_,Tryz.func344,rfl⟩ rfl λ_ _ _ _ _=>by kernel_rfl
def A8N (a b c:Pt) (K:Bool->Prop):aJ [(false,Sy.bool)] (fG [aG true aA a,aG true aA b,aG true aA c]) K=K (btw a b c):=by
 rw[show fG [aG true aA a,aG true aA b,aG true aA c]=UA (a,b,c) from A5T ..];exact ANI _ K
def AUN:aP Tryz.prog 344 zJ:=AWT λa b c d r h hb=>by
 obtain ⟨h1,h2,h3,h4,rfl⟩:=AGY h;unfold PZ BQE LE f5 WF t8 d9 d7 d6 d4;refine aF (s:=[(false,.int .i64)]) (sW h1 h2 h3) ?_;refine aF (s:=[(false,.int .i64)]) (wO _) ?_;refine aF (s:=[(false,.int .i64)]) (sW h1 h2 h4) ?_;refine aF (s:=[(false,.int .i64)]) (wO _) ?_;refine aF (s:=[(false,.int .i64)]) (sW h3 h4 h1) ?_;refine aF (s:=[(false,.int .i64)]) (wO _) ?_;refine aF (s:=[(false,.int .i64)]) (sW h3 h4 h2) ?_;refine aF (s:=[(false,.int .i64)]) (wO _) ?_;rw[JK,JK];have e:∀ {n:Bool},nV a b c d=n->pPR n=pPR (nV a b c d):=λh=>by rw[h]
 simp only[A8N];unfold nV at e;unfold onI at e;clear h hb
 repeat' first
  | refine cA (λh=>?_) (λh=>?_)
  | refine sX (λh=>?_) (λh=>?_)
 all_goals (refine e ?_;clear e;simp only[A9G] at *;simp[*,show UO 0=0 from rfl])
end Go.Pv
namespace Go.Pv
open Go Go.Proofs IntKind
def ABE {p:List Pt} {i:Nat} (h:i<p.length):pt p i=p[i]:=by unfold pt;rw[List.getD_eq_getElem?_getD,List.getElem?_eq_getElem h];rfl
def gH {p:List aX} {k:Nat} (h:k<p.length) (K:aX->Prop):aR aA (List.map aA.enc p) (k:Int) K=K (pt p k):=by
 rw[bE (r:=aA) h,ABE h]
def wR {i n c:Nat} (hn:n<=1000) (hi:i<=1000) (hc:c<=2):(i64.wrap ((i:Int)+(c:Int))).tmod (n:Int)=(((i+c) % n:Nat):Int):=by
 rw[bG _ (by omega) (by omega),Int.tmod_eq_emod_of_nonneg (by omega),Int.natCast_emod,Int.natCast_add]
def ATP (a b c:Pt):Int:=(a.1-b.1)*(c.1-b.1)+(a.2-b.2)*(c.2-b.2)
def VC (p:List Pt) (i k:Nat):Bool:=!(!decide ((k+1) % p.length=i)&&nV (pt p i) (nx p i) (pt p k) (nx p k))
def nxx (p:List Pt) (i:Nat):Pt:=pt p ((i+2) % p.length)
def AHA (p:List Pt) (i:Nat):Bool:=!decide (pt p i=nx p i)&&(!(decide (eH (pt p i) (nx p i) (nxx p i)=0)&&decide (0<ATP (pt p i) (nx p i) (nxx p i)))&&(List.range p.length).all λk=>decide (k<i+2)||VC p i k)
def NO (p:List Pt):Bool:=(List.range p.length).all (AHA p)
def lJ (p:List Pt):Prop:=∀ q∈p,dS q
def SQ (p:List Pt):Bool:=p.all λq=>decide (dS q)
def oP {p:List Pt}:SQ p=true↔lJ p:=by
 simp only[SQ,List.all_eq_true,ah];exact Iff.rfl
def lJ.pt {p:List Pt} (h:lJ p) (i:Nat):dS (pt p i):=by
 rcases Nat.lt_or_ge i p.length with hi|hi
 ·rw[ABE hi];exact h _ (ak hi)
 ·unfold Go.Pv.pt;rw[List.getD_eq_getElem?_getD,List.getElem?_eq_none hi];unfold dS;decide
def VB (p:List Pt):Bool:=decide (p.length<=1000)&&SQ p
variable {α:Type}
def XS (p:List Pt) (r:α):Option α:=match VB p with
 | true=>some r
 | false=>none
def AHD {p:List Pt} {t r:α} (h:XS p t=some r):p.length<=1000/\lJ p/\r=t:=by
 unfold XS at h;split at h
 ·rename_i hc;simp only[VB,ac,ah,oP] at hc;cases h;exact ⟨hc.1,hc.2,rfl⟩
 ·cases h
def AHE {p:List Pt} (t:α) (h:p.length<=1000) (h2:lJ p):XS p t=some t:=by
 unfold XS;rw[show VB p=true by simp only[VB,ac,ah,oP];exact ⟨h,h2⟩]
def A9S {a b c:Pt} (ha:dS a) (hb:dS b) (hc:dS c):i64.wrap (i64.wrap (i64.wrap (a.1-b.1)*i64.wrap (c.1-b.1))+i64.wrap (i64.wrap (a.2-b.2)*i64.wrap (c.2-b.2)))=ATP a b c:=by
 unfold dS at ha hb hc;have h1:=FU (x:=a.1-b.1) (y:=c.1-b.1) (M:=65536) (N:=65536) (by omega) (by omega) (by omega) (by omega);have h2:=FU (x:=a.2-b.2) (y:=c.2-b.2) (M:=65536) (N:=65536) (by omega) (by omega) (by omega) (by omega);rw[bG (a.1-b.1) (by omega) (by omega),bG (c.2-b.2) (by omega) (by omega),bG (a.2-b.2) (by omega) (by omega),bG (c.1-b.1) (by omega) (by omega),
  bG ((a.1-b.1)*(c.1-b.1)) (by omega) (by omega),bG ((a.2-b.2)*(c.2-b.2)) (by omega) (by omega),bG _ (by omega) (by omega)]
 rfl
def AR1:Env:=Env.of [(356,.pure hU),(357,.pure sV)]
def AS0:FuncId->Hint:=b8 341 [(3,.inv [.val 13 false (.int .i64)]),(12,.inv [.val 8 false (.int .i64)])] (λ_=>bA)
def AC5:aU Tryz.prog AR1:=.cons BP (.cons A34 (.nil _))
def m7(a0:List aX)(s1:Int×PUnit)(y2:aX)(y3:aX)(R:T->Prop)(X0:Int×PUnit->Prop):Prop:=bB (Int×PUnit) (λX6 s7=>aC (decide (s7.1<(↑(i6 a0).length:Int))) (bL (!decide ((↑(i6 a0).length:Int)=0)) (aC (!decide ((i64.wrap (s7.1+1)).tmod (↑(i6 a0).length:Int) = s1.1)) (aR aA (i6 a0) s7.1 λ(y8:aX)=>bL (!decide ((↑(i6 a0).length:Int)=0)) (aR aA (i6 a0) ((i64.wrap (s7.1+1)).tmod (↑(i6 a0).length:Int)) λ(y9:aX)=>aJ d6 (sV [aG true aA y2,aG true aA y3, aG true aA y8,aG true aA y9]) λ(y10:Bool)=>aC y10 (R d4) (g9 X6 s7))) (g9 X6 s7))) (g9 X0 s1)) (i64.wrap (s1.1+2),())
def JP(a0:List aX)(R:T->Prop):Prop:=bB (Int×PUnit) (λX0 s1=>aC (decide (s1.1<(↑(i6 a0).length:Int))) (aR aA (i6 a0) s1.1 λ(y2:aX)=>bL (!decide ((↑(i6 a0).length:Int)=0)) (aR aA (i6 a0) ((i64.wrap (s1.1+1)).tmod (↑(i6 a0).length:Int)) λ(y3:aX)=>aC (decide (y2.1=y3.1)&&(decide (y2.2=y3.2)&&true)) (R d4) (bL (!decide ((↑(i6 a0).length:Int)=0)) (aR aA (i6 a0) ((i64.wrap (s1.1+2)).tmod (↑(i6 a0).length:Int)) λ(y4:aX)=>aJ d9 (hU (t8 y2 y3 y4)) λ(y5:Int)=>aC (decide (y5=0)) (aC (decide (0 < i64.wrap (i64.wrap (i64.wrap (y2.1-y3.1)*i64.wrap (y4.1-y3.1)) + i64.wrap (i64.wrap (y2.2-y3.2)*i64.wrap (y4.2-y3.2))))) (R d4) (m7 a0 s1 y2 y3 R X0)) (m7 a0 s1 y2 y3 R X0))))) (R d7)) (0,())
abbrev LZ:Sh:=[(false,aA.li)]
def xE (p:List aX):Option T:=XS p (pPR (NO p))
def oM:List T->Option T:=gS LZ xE
def AAK {a0}:oM [T.sl false (List.map aA.enc a0)]=xE (a0):=bH (s:=LZ) rfl (a0) rfl
def AM3:xX Tryz.prog 341 oM xE (cG LZ) JP:=kC (a1:=(false,aA.li)) (sp:=xE) (F:=JP) (Hs:=AS0) (f:=341) (k:=8) AC5 aY a6 (aO rfl) ⟨_,_,Tryz.func341,rfl⟩ rfl λ_ _=>by kernel_rfl
def ZR {n:Nat} {f:Nat->Bool} {i:Nat} (hi:i<n) (h:f i=false):(List.range n).all f=false:=by
 rw[Bool.eq_false_iff];intro ha;have:=qV.1 ha i hi;rw[h] at this;cases this
def AXM {p:List aX} {i:Nat} (hl:p.length<=1000) (hn:lJ p) (hi:i<p.length) {Bad Good:Prop} (hbad:(List.range p.length).all (λk=>decide (k<i+2)||VC p i k)=false->Bad) (hgood:(List.range p.length).all (λk=>decide (k<i+2)||VC p i k)=true->Good) :
  bB (Int×PUnit)
   (λ(X6:Int×PUnit->Prop) (s7:Int×PUnit) =>
    aC (decide (s7.1<(↑(List.map aA.enc p).length:Int)))
     (bL (!decide ((↑(List.map aA.enc p).length:Int)=0))
      (aC (!decide ((i64.wrap (s7.1+1)).tmod (↑(List.map aA.enc p).length:Int)=(i:Int)))
       (aR aA (List.map aA.enc p) s7.1 λ(y8:aX) =>
        bL (!decide ((↑(List.map aA.enc p).length:Int)=0))
         (aR aA (List.map aA.enc p) ((i64.wrap (s7.1+1)).tmod (↑(List.map aA.enc p).length:Int))
          λ(y9:aX) =>
          aJ [(false,Sy.bool)] (sV [aG true aA (pt p i),aG true aA (nx p i),aG true aA y8,aG true aA y9])
           λ(y10:Bool)=>aC y10 Bad (X6 (i64.wrap (s7.1+1),()))))
       (X6 (i64.wrap (s7.1+1),()))))
     Good)
   (i64.wrap ((i:Int)+2),()):=by
 refine bM p.length (λm s=>s=(((i+2+m:Nat):Int),())/\∀ k,k<i+2+m->k<p.length->(decide (k<i+2)||VC p i k)=true) ⟨by rw[bG _ (by omega) (by omega)];simp,λk h1 h2=>by simp at h1;simp[h1]⟩ ?_;rintro X m s hm ⟨rfl,hJ⟩ hX;dsimp only;rw[ae];refine cA (λhlt=>?_) λhge=>hgood (qV.2 λk hk=>hJ k (by omega) hk);have hk:i+2+m<p.length:=by omega
 have hne:(!decide ((p.length:Int)=0))=true:=by rw[aj (by omega)];rfl
 have hix:(i64.wrap (((i+2+m:Nat):Int)+1)).tmod (p.length:Int)=(((i+2+m+1) % p.length:Nat):Int):=wR (c:=1) hl (by omega) (by omega);have hw:i64.wrap (((i+2+m:Nat):Int)+1)=((i+2+(m+1):Nat):Int):=by rw[bG _ (by omega) (by omega)];omega
 have hmod:(i+2+m+1) % p.length<p.length:=Nat.mod_lt _ (by omega);have go:VC p i (i+2+m)=true->X (((i+2+(m+1):Nat):Int),()):=λh=>hX _ (by omega) ⟨rfl,λk h1 h2=>by
  rcases Nat.lt_or_ge k (i+2+m) with h3|h3
  ·exact hJ k h3 h2
  ·have:k=i+2+m:=by omega
   subst this;rw[h];simp⟩
 refine ⟨hne,?_⟩;rw[hix,hw];refine lF (λh=>?_) λh=>go (by unfold VC;rw[ai (show (i+2+m+1) % p.length=i by omega)];rfl);rw[gH hk,A8E,gH hmod];refine ⟨hne,?_⟩;refine aF (s:=[(false,.bool)]) (AL5 (hn.pt _) (hn.pt _) (hn.pt _) (hn.pt _)) ?_;have e:VC p i (i+2+m) = !nV (pt p i) (nx p i) (pt p (i+2+m)) (nx p (i+2+m)):=by
  unfold VC;rw[aj (show ¬ (i+2+m+1) % p.length=i by omega)];rfl
 refine sX (λhm=>hbad (ZR hk ?_)) λhm=>go ?_
 ·show (decide (i+2+m<i+2)||VC p i (i+2+m))=false;rw[e,show nV (pt p i) (nx p i) (pt p (i+2+m)) (nx p (i+2+m))=true from hm];simp
 ·rw[e,show nV (pt p i) (nx p i) (pt p (i+2+m)) (nx p (i+2+m))=false from hm];rfl
def ALN:aP Tryz.prog 341 oM:=AM3 λp r h hb=>by
 obtain ⟨hl,hn,rfl⟩:=AHD h;clear h;unfold JP m7 i6 g9 t8 d9 d7 d6 d4;refine bM p.length (λk s=>s=((k:Int),())/\∀ i,i<k->i<p.length->AHA p i=true) ⟨rfl,λi h=>by omega⟩ ?_;rintro X k s hk ⟨rfl,hJ⟩ hX;dsimp only;refine cA (λhlt=>?_) λhge=>jY (Eq.symm (qV.2 λi hi=>hJ i (by rw[ae] at hge;omega) hi));rw[ae] at hlt;have hlt:k<p.length:=by omega
 have hne:(!decide (((List.map aA.enc p).length:Int)=0))=true:=by rw[ae,aj (by omega)];rfl
 have hm1:(k+1) % p.length<p.length:=Nat.mod_lt _ (by omega);have hm2:(k+2) % p.length<p.length:=Nat.mod_lt _ (by omega);have i1:(i64.wrap ((k:Int)+1)).tmod ((List.map aA.enc p).length:Int)=(((k+1) % p.length:Nat):Int):=by rw[ae];exact wR (c:=1) hl (by omega) (by omega)
 have i2:(i64.wrap ((k:Int)+2)).tmod ((List.map aA.enc p).length:Int)=(((k+2) % p.length:Nat):Int):=by rw[ae];exact wR (c:=2) hl (by omega) (by omega)
 have bad:AHA p k=false->pPR false=pPR (NO p):=λh=>jY (ZR hlt h).symm;have pC:AHA p k=true->X (i64.wrap ((k:Int)+1),()):=λh=>hX _ hlt ⟨by rw[show i64.wrap ((k:Int)+1)=((k+1:Nat):Int) from bG _ (by omega) (by omega)],λi h1 h2=>by
  rcases Nat.lt_or_ge i k with h3|h3
  ·exact hJ i h3 h2
  ·have:i=k:=by omega
   subst this;exact h⟩
 rw[gH hlt,i1];refine ⟨hne,?_⟩;rw[gH hm1];have heq:(decide ((pt p k).1=(pt p ((k+1) % p.length)).1)&&(decide ((pt p k).2=(pt p ((k+1) % p.length)).2)&&true))=decide (pt p k=nx p k):=by
  rw[Bool.and_true,<-Bool.decide_and];exact decide_eq_decide.2 Prod.ext_iff.symm
 rw[heq];refine cA (λh=>bad (by unfold AHA;rw[ai h];rfl)) λh1=>?_;refine ⟨hne,?_⟩;rw[i2,gH hm2];refine aF (s:=[(false,.int .i64)]) (kN (hn.pt _) (hn.pt _) (hn.pt _)) ?_;have inner:(decide (eH (pt p k) (nx p k) (nxx p k)=0)&&decide (0<ATP (pt p k) (nx p k) (nxx p k)))=false->AHA p k=(List.range p.length).all λj=>decide (j<k+2)||VC p k j:=λh=>by
  unfold AHA;rw[aj h1,h];simp
 have tail:(decide (eH (pt p k) (nx p k) (nxx p k)=0)&&decide (0<ATP (pt p k) (nx p k) (nxx p k)))=false->_:=λh=>AXM (Bad:=pPR false=pPR (NO p)) (Good:=X (i64.wrap ((k:Int)+1),())) hl hn hlt (λh2=>bad (by rw[inner h,h2])) (λh2=>pC (by rw[inner h,h2]));refine cA (λh2=>?_) λh2=>tail (by rw[show decide (eH (pt p k) (nx p k) (nxx p k)=0)=false from aj h2];rfl);rw[A9S (hn.pt _) (hn.pt _) (hn.pt _)];refine cA (λh3=>bad ?_) λh3=>tail (by rw[show decide (0<ATP (pt p k) (nx p k) (nxx p k))=false from aj h3];simp);unfold AHA;rw[ai (show eH (pt p k) (nx p k) (nxx p k)=0 from h2),ai (show 0<ATP (pt p k) (nx p k) (nxx p k) from h3)];simp
def AAL {p:List Pt} (h:p.length<=1000) (h2:lJ p):oM [T.sl false (List.map aA.enc p)]=some (Sh.enc [(false,.bool)] (NO p)):=(AAK ..).trans (AHE _ h h2)
def DU:Nat->(Nat->Int)->Int
 | 0,_=>0
 | n+1,f=>DU n f+f n
def AN4 (p:List Pt) (i:Nat):Int:=(pt p i).1*(nx p i).2-(nx p i).1*(pt p i).2
def QK (p:List Pt):Int:=DU p.length (AN4 p)
def AQ5 {p:List Pt} (h:lJ p) (i:Nat):(-1073741824<=(pt p i).1*(nx p i).2/\(pt p i).1*(nx p i).2<=1073741824)/\(-1073741824<=(nx p i).1*(pt p i).2/\(nx p i).1*(pt p i).2<=1073741824):=by
 have h1:=h.pt i;have h2:dS (nx p i):=h.pt _;unfold dS at h1 h2;have b1:=FU (x:=(pt p i).1) (y:=(nx p i).2) (M:=32768) (N:=32768) (by omega) (by omega) (by omega) (by omega);have b2:=FU (x:=(nx p i).1) (y:=(pt p i).2) (M:=32768) (N:=32768) (by omega) (by omega) (by omega) (by omega);constructor<;>constructor<;>omega
def OA {p:List Pt} (h:lJ p):∀ n:Nat,-(2147483648*(n:Int))<=DU n (AN4 p)/\DU n (AN4 p)<=2147483648*(n:Int)
 | 0=>by simp[DU]
 | n+1=>by
  have ih:=OA h n;have hb:=AQ5 h n;unfold DU;have e:AN4 p n=(pt p n).1*(nx p n).2-(nx p n).1*(pt p n).2:=rfl;constructor<;>push_cast<;>omega
def A92:Env:=Env.of []
def BBL:FuncId->Hint:=b8 342 [(3,.inv [.val 3 false (.int .i64),.val 9 false (.int .i64)])] (λ_=>bA)
def ASE:aU Tryz.prog A92:=.nil _
def Y9(a0:List aX)(R:T->Prop):Prop:=bB (Int×Int×PUnit) (λX0 s1=>aC (decide (s1.2.1<(↑(i6 a0).length:Int))) (aR aA (i6 a0) s1.2.1 λ(y2:aX)=>bL (!decide ((↑(i6 a0).length:Int)=0)) (aR aA (i6 a0) ((i64.wrap (s1.2.1+1)).tmod (↑(i6 a0).length:Int)) λ(y3:aX)=>X0 (i64.wrap (s1.1 + i64.wrap (i64.wrap (y2.1*y3.2)-i64.wrap (y3.1*y2.2))), i64.wrap (s1.2.1+1),()))) (R (pPP s1.1))) (0,0,())
abbrev ABQ:Sh:=[(false,aA.li)]
def I6 (p:List aX):Option T:=XS p (T.v (Value.int .i64 (QK p)))
def qK:List T->Option T:=gS ABQ I6
def AL2 {a0}:qK [T.sl false (List.map aA.enc a0)]=I6 (a0):=bH (s:=ABQ) rfl (a0) rfl
def A7D:xX Tryz.prog 342 qK I6 (cG ABQ) Y9:=kC (a1:=(false,aA.li)) (sp:=I6) (F:=Y9) (Hs:=BBL) (f:=342) (k:=8) ASE aY a6 (aO rfl) ⟨_,_,Tryz.func342,rfl⟩ rfl λ_ _=>by kernel_rfl
def AEV:aP Tryz.prog 342 qK:=A7D λp r h hb=>by
 obtain ⟨hl,hn,rfl⟩:=AHD h;clear h;unfold Y9 i6;refine bM p.length (λk s=>s=(DU k (AN4 p),(k:Int),())) rfl ?_;rintro X k s hk rfl hX;dsimp only;refine cA (λhlt=>?_) λhge=>N1 (by rw[ae] at hge;rw[show k=p.length by omega];rfl);rw[ae] at hlt;have hlt:k<p.length:=by omega
 have hne:(!decide (((List.map aA.enc p).length:Int)=0))=true:=by rw[ae,aj (by omega)];rfl
 have hm1:(k+1) % p.length<p.length:=Nat.mod_lt _ (by omega);have i1:(i64.wrap ((k:Int)+1)).tmod ((List.map aA.enc p).length:Int)=(((k+1) % p.length:Nat):Int):=by rw[ae];exact wR (c:=1) hl (by omega) (by omega)
 rw[gH hlt,i1];refine ⟨hne,?_⟩;rw[gH hm1];have hb1:=AQ5 hn k;have hb2:=OA hn k;have hb3:=OA hn (k+1);refine hX _ hlt ?_;rw[show i64.wrap ((k:Int)+1)=((k+1:Nat):Int) from bG _ (by omega) (by omega)];have e:i64.wrap (DU k (AN4 p)+i64.wrap (i64.wrap ((pt p k).1*(nx p k).2)-i64.wrap ((nx p k).1*(pt p k).2)))=DU (k+1) (AN4 p):=by
  rw[bG ((pt p k).1*(nx p k).2) (by omega) (by omega),bG ((nx p k).1*(pt p k).2) (by omega) (by omega),bG ((pt p k).1*(nx p k).2-(nx p k).1*(pt p k).2) (by omega) (by omega),bG _ (by omega) (by omega)];rfl
 rw[<-e];rfl
def R9 {p:List Pt} (h:p.length<=1000) (h2:lJ p):qK [T.sl false (List.map aA.enc p)]=some (Sh.enc [(false,.int .i64)] (QK p)):=(AL2 ..).trans (AHE _ h h2)
def lO (p:List Pt):Int:=if p.length<3 then 3 else if 32<p.length then 4 else if SQ p=false then 9 else if NO p=false\/QK p=0 then 17 else 0
def AR0:Env:=Env.of [(340,.pure FD),(341,.pure oM),(342,.pure qK)]
def ASZ:FuncId->Hint:=b8 355 [(2,.inv [.val 8 false (.int .i64)])] (λ_=>bA)
def AC4:aU Tryz.prog AR0:=.cons APP (.cons ALN (.cons AEV (.nil _)))
def UV(a0:List aX)(R:T->Prop):Prop:=aJ d6 (oM (BP9 a0)) λ(y4:Bool)=>aC (!y4) (R (pPP 17)) (aJ d9 (qK (BP9 a0)) λ(y5:Int)=>aC (decide (y5=0)) (R (pPP 17)) (BQA R))
def JO(a0:List aX)(R:T->Prop):Prop:=aC (decide ((↑(i6 a0).length:Int)<3)) (R (pPP 3)) (aC (decide (32<(↑(i6 a0).length:Int))) (R (pPP 4)) (bB (Int×PUnit) (λX0 s1=>aC (decide (s1.1<(↑(i6 a0).length:Int))) (aR aA (i6 a0) s1.1 λ(y2:aX)=>aJ d6 (FD [aG true aA y2]) λ(y3:Bool)=>aC y3 (aC (decide (0<=s1.1)) (EQ R) (UV a0 R)) (g9 X0 s1)) (UV a0 R)) (0,())))
abbrev LY:Sh:=[(false,aA.li)]
def xD (p:List aX):Option T:=some (T.v (Value.int .i64 (lO p)))
def iM:List T->Option T:=gS LY xD
def AAJ {a0}:iM [T.sl false (List.map aA.enc a0)]=xD (a0):=bH (s:=LY) rfl (a0) rfl
def AM2:xX Tryz.prog 310 iM xD (cG LY) JO:=kC (a1:=(false,aA.li)) (sp:=xD) (F:=JO) (Hs:=ASZ) (f:=310) (k:=8) AC4 aY a6 (aO rfl) ⟨_,_,Tryz.func310,rfl⟩ rfl λ_ _=>by kernel_rfl
def E6:aP Tryz.prog 310 iM:=AM2 λp r h hb=>by
 cases h;have is:∀ {n:Int},lO p=n->pPP n=pPP (lO p):=λh=>by rw[h]
 unfold JO UV BQA BP9 i6 g9 EQ d9 d6;refine cA (λh=>is (by rw[ae] at h;unfold lO;rw[if_pos (by omega)])) λh1=>?_;refine cA (λh=>is (by rw[ae] at h h1;unfold lO;rw[if_neg (by omega),if_pos (by omega)])) λh2=>?_;rw[ae] at h1 h2;refine bM p.length (λk s=>s=((k:Int),())/\∀ i,i<k->i<p.length->dS (pt p i)) ⟨rfl,λi h=>by omega⟩ ?_;rintro X k s hk ⟨rfl,hJ⟩ hX;dsimp only;refine cA (λhlt=>?_) λhge=>?_
 ·rw[ae] at hlt;have hlt:k<p.length:=by omega
  rw[gH hlt];refine aF (s:=[(false,.bool)]) (y:=!decide (dS (pt p k))) (WQ ..) ?_;refine lF (λhf=>?_) λhn=>hX _ hlt ⟨by rw[show i64.wrap ((k:Int)+1)=((k+1:Nat):Int) from bG _ (by omega) (by omega)],λi h1 h2=>by
   rcases Nat.lt_or_ge i k with h3|h3
   ·exact hJ i h3 h2
   ·have:i=k:=by omega
    subst this;exact hn⟩
  refine cA (λ_=>is ?_) λh=>by omega
  have:SQ p=false:=by
   rw[Bool.eq_false_iff];intro h;have:=oP.1 h _ (ak hlt);rw[<-ABE hlt] at this;exact hf this
  unfold lO;rw[if_neg (by omega),if_neg (by omega),if_pos this]
 ·have hN:lJ p:=λq hq=>by
   obtain ⟨i,hi,rfl⟩:=List.mem_iff_getElem.1 hq;rw[<-ABE hi];rw[ae] at hge;exact hJ i (by omega) hi
  have hnb:¬ SQ p=false:=by rw[oP.2 hN];simp
  refine aF (s:=[(false,.bool)]) (AAL (by omega) hN) ?_;refine fJ (λh=>is (by unfold lO;rw[if_neg (by omega),if_neg (by omega),if_neg hnb,if_pos (.inl h)])) λhs=>?_;refine aF (s:=[(false,.int .i64)]) (R9 (by omega) hN) ?_;refine cA (λh=>is (by unfold lO;rw[if_neg (by omega),if_neg (by omega),if_neg hnb,if_pos (.inr h)])) λha=>is ?_;unfold lO;rw[if_neg (by omega),if_neg (by omega),if_neg hnb,if_neg];rintro (h|h)
  ·rw[show NO p=true from hs] at h;cases h
  ·exact ha h
def qL (p:List Pt):iM [T.sl false (List.map aA.enc p)]=some (Sh.enc [(false,.int .i64)] (lO p)):=AAJ ..
def vI {p:List Pt} (h:lO p=0):3<=p.length/\p.length<=32/\lJ p/\NO p=true/\QK p≠0:=by
 unfold lO at h;by_cases h1:p.length<3
 ·rw[if_pos h1] at h;cases h
 rw[if_neg h1] at h;by_cases h2:32<p.length
 ·rw[if_pos h2] at h;cases h
 rw[if_neg h2] at h;by_cases h3:SQ p=false
 ·rw[if_pos h3] at h;cases h
 rw[if_neg h3] at h;by_cases h4:NO p=false\/QK p=0
 ·rw[if_pos h4] at h;cases h
 refine ⟨by omega,by omega,oP.1 (by simpa using h3),by simpa using λe=>h4 (.inl e),λe=>h4 (.inr e)⟩
def sM (p:List Pt):Int:=if lO p=0 then QK p else 0
def AYM:Env:=Env.of [(310,.pure iM),(342,.pure qK)]
def A1S:FuncId->Hint:=λ_=>bA
def AI3:aU Tryz.prog AYM:=.cons E6 (.cons AEV (.nil _))
def PM(a0:List aX)(R:T->Prop):Prop:=aJ d9 (iM (BP9 a0)) λ(y0:Int)=>aC (!decide (y0=0)) (BQA R) (aJ d9 (qK (BP9 a0)) λ(y1:Int)=>R (pPP y1))
abbrev TI:Sh:=[(false,aA.li)]
def CE (p:List aX):Option T:=some (T.v (Value.int .i64 (sM p)))
def nQ:List T->Option T:=gS TI CE
def AFH {a0}:nQ [T.sl false (List.map aA.enc a0)]=CE (a0):=bH (s:=TI) rfl (a0) rfl
def AWH:xX Tryz.prog 311 nQ CE (cG TI) PM:=kC (a1:=(false,aA.li)) (sp:=CE) (F:=PM) (Hs:=A1S) (f:=311) (k:=8) AI3 aY a6 (aO rfl) ⟨_,_,Tryz.func311,rfl⟩ rfl λ_ _=>by kernel_rfl
def V4:aP Tryz.prog 311 nQ:=AWH λp r h hb=>by
 cases h;unfold PM BQA BP9 i6 d9;refine aF (s:=[(false,.int .i64)]) (qL p) ?_;refine lF (λh=>N1 (by unfold sM;rw[if_neg h])) λh=>?_;obtain ⟨_,h2,h3,_⟩:=vI h;refine aF (s:=[(false,.int .i64)]) (R9 (by omega) h3) ?_;exact N1 (by unfold sM;rw[if_pos h])
def zD (p:List Pt):nQ [T.sl false (List.map aA.enc p)]=some (Sh.enc [(false,.int .i64)] (sM p)):=AFH ..
end Go.Pv
end
