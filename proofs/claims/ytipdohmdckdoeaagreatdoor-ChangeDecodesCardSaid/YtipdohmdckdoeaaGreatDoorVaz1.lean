/-
  Facts on the program that every function's file asks for.
  slices.Clone, Insert, Delete at the design's lists.
  Functions given by a table of arguments and results.
  Chapter 20's examples: the calls of edit.Apply, each run for itself. (The table is printed by tools/tab20.py.)
  strings.Builder: WriteString and String, by the library's contracts.
  The seam, the part, the section with an identifier.
  The part with an identifier, as the program finds it; how thick a seam is.
  Words that several files share.
  The bytes of numbers, texts and lists (plain).
  cbor.Int, Text, List; the same of the reference.
  shipyardref05.Int, Text, List.
  The encoding of lists, contours, parts and edits.
  The encoding of parts and edits.
  The encoding of edits.
  change.Encode: the round's body: an edit is read, encoded, written.
  cbor.head at nil, as a function of data.
  What a reader sees of a head (plain).
  cbor's readers: the head that comes next.
  cbor's readers: integers.
  cbor's readers: counts, texts, lists.
  cbor's readers: texts, lists.
  Readers: one value after the other (plain).
  What is read of what was written, and what was written of what is read (plain).
  Change orders as bytes, plain: what is read was written.
  change.Encode.
  slices.Sort, Compact, DeleteFunc, Grow at strings.
  edit.Touches.
  change.Encode, the contract.
  The program's readers of parts and edits.
  The program's reader of edits.
  change.Decode.
  VersionChanges, plain: maps of first elements, what differs; the least behind the last.
  Ascending lists of strings, each once (plain).
  The way from the block down to a part.
  Packages; equality of lists, shapes, parts and packages.
  VersionChanges, plain: what two designs differ in, ascending.
  StructureFinds: Part, Node, Seam and Package answer as the reference does.
  R17.Has.
  shipyardref19.Touches.
-/
import Derived.Test.YtipdohmdckdoeaaGreatDoorVaki
import Derived.Test.YtipdohmdckdoeaaGreatDoorVaty
import Derived.Test.YtipdohmdckdoeaaGreatDoorProg
import Derived.KernelRfl
import Derived.Test.YtipdohmdckdoeaaGreatDoorVain
import Derived.Test.YtipdohmdckdoeaaGreatDoorVags
import Derived.Test.YtipdohmdckdoeaaGreatDoorVacb
import Derived.Shelf.Strings.Builder1
import Derived.Shelf.Strings.BuilderF
import Derived.Shelf.Strings.MapGrows
import Derived.Laws.BytesArg
import Derived.Test.YtipdohmdckdoeaaGreatDoorVakh
import Derived.Test.YtipdohmdckdoeaaGreatDoorVakv
import Derived.WalkKit
import Derived.BigCall
import Derived.Deep.RegionWith
import Derived.Deep.LoopGhost
import Derived.Test.YtipdohmdckdoeaaGreatDoorVakq
import Derived.Test.YtipdohmdckdoeaaGreatDoorVakr
import Derived.Test.YtipdohmdckdoeaaGreatDoorValv
import Derived.Test.YtipdohmdckdoeaaGreatDoorVakn
import Derived.Sort.Walk0
import Derived.Test.YtipdohmdckdoeaaGreatDoorVakj
set_option linter.defProp false
set_option linter.unusedSimpArgs false
set_option linter.unusedVariables false
namespace Go.Pv
open Go Go.Proofs
theorem bA:Tryz.prog.follows .mixedOrders=true:=by kernel_rfl
theorem bJ:cH Tryz.prog=true:=by kernel_rfl
end Go.Pv
set_option maxRecDepth 100000
namespace Go.Pv
open Go Go.Proofs
theorem AGP {P:Program} {t:TypeId} {zv:Value} {z b:Nat} (h:(P.info? t).map (fun i=>(i.zero,i.size,i.bytes))=some (some zv,z,b)):∃ i,P.info? t=some i∧i.zero=some zv∧i.size=z∧i.bytes=b:=by
 simp only[Option.map_eq_some_iff,Prod.mk.injEq] at h
 obtain ⟨i,h1,h2,h3,h4⟩:=h
 exact ⟨i,h1,h2,h3,h4⟩
def AFG:Value:=.agg #[.string ⟨#[]⟩,.int .i64 0,.string ⟨#[]⟩]
def Y6:Go.Shelf.Ren:=⟨fun|22=>280|29=>322|30=>323|n=>n,fun|9=>59|24=>32|n=>n,fun|n=>n⟩
theorem WQ:RN Tryz.prog Y6 3 40 AFG:={
 mixed:=bA
 f22:=Exists.intro ("slices.Insert[[]shipyard/api.Node,shipyard/api.Node]") ⟨by decide,Tryz.func280.trans (congrArg some (by kernel_rfl))⟩
 ov:=fun args w=>run_callFunc_extern (P:=Tryz.prog) (f:=322) (e:=Extern.SlicesOverlaps.overlaps #[32,32] #[4]) Tryz.func322 (by kernel_rfl) (by kernel_rfl) (by kernel_rfl) (by kernel_rfl) args w
 t0:=by kernel_rfl
 a0:=fun _=>by kernel_rfl
 z0:=fun _=>by kernel_rfl
 v0:=fun _=>by kernel_rfl
 t3:=by kernel_rfl
 a3:=fun _=>by kernel_rfl
 z3:=fun _=>by kernel_rfl
 v3:=fun _=>by kernel_rfl
 t4:=by kernel_rfl
 a4:=fun _=>by kernel_rfl
 z4:=fun _=>by kernel_rfl
 v4:=fun _=>by kernel_rfl
 z9:=fun _=>by kernel_rfl
 t24:=by kernel_rfl
 a24:=fun _=>by kernel_rfl
 z24:=fun _=>by kernel_rfl
 v24:=fun _=>by kernel_rfl
 i9:=AGP (by kernel_rfl) }
def lU:List (List T)→List T→Option (List (List T)):=AEE 3 40
theorem BR:cN Tryz.prog 280 (nL 3 lU) :=
 J8 WQ (by decide) rfl (by decide) ⟨_,Tryz.func280,rfl,rfl⟩
end Go.Pv
namespace Go.Pv
open Go Go.Proofs
def ZF:Value→Value→Bool
 | .int k a,.int j b=>decide (k=j)&&decide (a=b)
 | .string a,.string b=>decide (a=b)
 | .bool a,.bool b=>a == b
 | .slice none a b,.slice none c d=>a == c&&b == d
 | _,_=>false
def MK {α:Type} (f:α→α→Bool):List α→List α→Bool
 | [],[]=>true
 | a::l,b::m=>f a b&&MK f l m
 | _,_=>false
def FE:Nat→T→T→Bool
 | n+1,.v a,.v b=>ZF a b
 | n+1,.agg l,.agg m=>MK (FE n) l m
 | n+1,.sl f l,.sl g m=>(f == g)&&MK (MK (FE n)) l m
 | _,_,_=>false
def yW:List (List T×T)→List T→Option T
 | [],_=>none
 | (A,r)::l,args=>match MK (FE 20) args A with
  | true=>some r
  | false=>yW l args
theorem ZG {a b:Value} (h:ZF a b=true):a=b:=by
 unfold ZF at h
 split at h
 ·simp only[Bool.and_eq_true,decide_eq_true_eq] at h
  rw[h.1,h.2]
 ·rw[of_decide_eq_true h]
 ·rw[eq_of_beq h]
 ·simp only[Bool.and_eq_true,beq_iff_eq] at h
  rw[h.1,h.2]
 ·cases h
theorem uN {α:Type} {f:α→α→Bool} (hf:∀ a b,f a b=true→a=b):∀ l m,MK f l m=true→l=m
 | [],[],_=>rfl
 | [],_::_,h=>by cases h
 | _::_,[],h=>by cases h
 | a::l,b::m,h=>by
  simp only[MK,Bool.and_eq_true] at h
  rw[hf a b h.1,uN hf l m h.2]
theorem C1:∀ (n:Nat) (a b:T),FE n a b=true→a=b
 | 0,_,_,h=>by simp[FE] at h
 | n+1,a,b,h=>by
  unfold FE at h
  split at h
  ·rename_i e;rw[ZG h]
  ·rename_i e;cases e;rw[uN (C1 n) _ _ h]
  ·rename_i e;cases e
   simp only[Bool.and_eq_true,beq_iff_eq] at h
   rw[h.1,uN (uN (C1 n)) _ _ h.2]
  ·cases h
theorem EN:∀ {l:List (List T×T)} {args:List T} {r:T},yW l args=some r→(args,r)∈l
 | [],_,_,h=>by cases h
 | (A,q)::l,args,r,h=>by
  unfold yW at h
  split at h
  ·rename_i e
   cases h
   rw[uN (C1 20) _ _ e]
   exact List.mem_cons_self
  ·exact List.mem_cons_of_mem _ (EN h)
theorem pM {P:Program} {f:FuncId} {g:List T→Option T} (hg:aZ P f g) {l:List (List T×T)} (h:∀ x∈l,g x.1=some x.2):aZ P f (yW l):=⟨hg.entry,fun w own args vs r hG ho ha hr=>hg.calls w own args vs r hG ho ha (h _ (EN hr))⟩
end Go.Pv
namespace Go.Pv
open Go Go.Proofs
theorem JR:dZ Tryz.prog 318 (jY 1 8):=fR bA bJ ⟨_,_,Tryz.func318,rfl⟩ ⟨fun R=>by kernel_rfl,fun fl R=>by kernel_rfl,fun fl a rows R=>by kernel_rfl⟩
theorem EF:dZ Tryz.prog 103 (jY 3 40):=fR bA bJ ⟨_,_,Tryz.func103,rfl⟩ ⟨fun R=>by kernel_rfl,fun fl R=>by kernel_rfl,fun fl a rows R=>by kernel_rfl⟩
theorem EI:dZ Tryz.prog 104 (jY 6 72):=fR bA bJ ⟨_,_,Tryz.func104,rfl⟩ ⟨fun R=>by kernel_rfl,fun fl R=>by kernel_rfl,fun fl a rows R=>by kernel_rfl⟩
theorem EE:dZ Tryz.prog 105 (jY 3 40):=fR bA bJ ⟨_,_,Tryz.func105,rfl⟩ ⟨fun R=>by kernel_rfl,fun fl R=>by kernel_rfl,fun fl a rows R=>by kernel_rfl⟩
theorem PO:dZ Tryz.prog 136 (jY 2 16):=fR bA bJ ⟨_,_,Tryz.func136,rfl⟩ ⟨fun R=>by kernel_rfl,fun fl R=>by kernel_rfl,fun fl a rows R=>by kernel_rfl⟩
theorem JS:dZ Tryz.prog 137 (jY 1 24):=fR bA bJ ⟨_,_,Tryz.func137,rfl⟩ ⟨fun R=>by kernel_rfl,fun fl R=>by kernel_rfl,fun fl a rows R=>by kernel_rfl⟩
theorem EH:dZ Tryz.prog 106 (jY 18 208):=fR bA bJ ⟨_,_,Tryz.func106,rfl⟩ ⟨fun R=>by kernel_rfl,fun fl R=>by kernel_rfl,fun fl a rows R=>by kernel_rfl⟩
theorem EG:dZ Tryz.prog 107 (jY 5 88):=fR bA bJ ⟨_,_,Tryz.func107,rfl⟩ ⟨fun R=>by kernel_rfl,fun fl R=>by kernel_rfl,fun fl a rows R=>by kernel_rfl⟩
theorem JT:dZ Tryz.prog 243 (jY 1 16):=fR bA bJ ⟨_,_,Tryz.func243,rfl⟩ ⟨fun R=>by kernel_rfl,fun fl R=>by kernel_rfl,fun fl a rows R=>by kernel_rfl⟩
def PW:FuncId→Bool:=fun f=>[260,86,128,69,184,191,150].contains f
noncomputable def WU:Env:=Env.of [(83,.pure oM),(318,.fresh (jY 1 8)),(103,.fresh (jY 3 40)),(104,.fresh (jY 6 72)),(105,.fresh (jY 3 40)),(136,.fresh (jY 2 16)),(137,.fresh (jY 1 24)),(106,.fresh (jY 18 208)),(107,.fresh (jY 5 88)),(243,.fresh (jY 1 16)),(280,.grow 3 lU),(5000000000+38,.mark)]
theorem S0:aH Tryz.prog WU:=aH.cons (x:=.pure oM) BT (aH.cons (x:=.fresh (jY 1 8)) JR (aH.cons (x:=.fresh (jY 3 40)) EF (aH.cons (x:=.fresh (jY 6 72)) EI (aH.cons (x:=.fresh (jY 3 40)) EE (aH.cons (x:=.fresh (jY 2 16)) PO (aH.cons (x:=.fresh (jY 1 24)) JS (aH.cons (x:=.fresh (jY 18 208)) EH (aH.cons (x:=.fresh (jY 5 88)) EG (aH.cons (x:=.fresh (jY 1 16)) JT (aH.cons (x:=.grow 3 lU) BR (aH.cons (x:=.mark) trivial (aH.nil _))))))))))))
noncomputable def gEd:List T→Option T:=T6 Tryz.prog 400 PW WU 40 66
theorem AD9:aZ Tryz.prog 66 gEd:=CR bA bJ 400 PW S0 40 (FD (k:=39) (fn:=_) (c:=_) (by kernel_rfl) Tryz.func66 rfl (by kernel_rfl))
def i0:T:=.v (.int .i64 0)
def s0:T:=.v (.string ⟨#[]⟩)
def n0:T:=.v (.slice none 0 0)
def l0:T:=.sl false []
def AGB:List T:=[T.agg [T.v (.string ⟨#[72,49]⟩),T.sl false [[T.v (.string ⟨#[65,49]⟩),T.v (.int .i64 2),T.v (.string ⟨#[66,49]⟩)],[T.v (.string ⟨#[66,49]⟩),T.v (.int .i64 1),s0]],T.sl false [[T.v (.string ⟨#[80,49]⟩),T.v (.int .i64 1),T.v (.int .i64 4),T.v (.string ⟨#[65,49]⟩),s0,i0,n0,n0,s0,i0,T.v (.int .i64 5),i0,i0,i0,i0,i0,i0,i0]],l0,l0,l0],T.agg [n0,n0],T.agg [T.v (.int .i64 1),s0,s0,T.v (.string ⟨#[65,50]⟩),T.v (.int .i64 2),T.v (.string ⟨#[66,49]⟩),s0,i0,i0,s0,s0,i0,n0,n0,s0,i0,i0,i0,i0,i0,i0,i0,i0,i0,s0,s0,s0,i0,i0,i0,s0,s0,n0,i0,n0,i0,s0,s0]]
def AGE:T:=T.bN [T.agg [T.v (.string ⟨#[72,49]⟩),T.sl false [[T.v (.string ⟨#[65,49]⟩),T.v (.int .i64 2),T.v (.string ⟨#[66,49]⟩)],[T.v (.string ⟨#[65,50]⟩),T.v (.int .i64 2),T.v (.string ⟨#[66,49]⟩)],[T.v (.string ⟨#[66,49]⟩),T.v (.int .i64 1),s0]],T.sl false [[T.v (.string ⟨#[80,49]⟩),T.v (.int .i64 1),T.v (.int .i64 4),T.v (.string ⟨#[65,49]⟩),s0,i0,l0,l0,s0,i0,T.v (.int .i64 5),i0,i0,i0,i0,i0,i0,i0]],l0,l0,l0],i0]
theorem AHZ:gEd AGB=some AGE:=by kernel_rfl
def AGC:List T:=[T.agg [T.v (.string ⟨#[72,49]⟩),T.sl false [[T.v (.string ⟨#[65,49]⟩),T.v (.int .i64 2),T.v (.string ⟨#[66,49]⟩)],[T.v (.string ⟨#[65,50]⟩),T.v (.int .i64 2),T.v (.string ⟨#[66,49]⟩)],[T.v (.string ⟨#[66,49]⟩),T.v (.int .i64 1),s0]],T.sl false [[T.v (.string ⟨#[80,49]⟩),T.v (.int .i64 1),T.v (.int .i64 4),T.v (.string ⟨#[65,49]⟩),s0,i0,l0,l0,s0,i0,T.v (.int .i64 5),i0,i0,i0,i0,i0,i0,i0]],l0,l0,l0],T.agg [n0,n0],T.agg [T.v (.int .i64 6),T.v (.string ⟨#[80,49]⟩),T.v (.string ⟨#[65,50]⟩),s0,i0,s0,s0,i0,i0,s0,s0,i0,n0,n0,s0,i0,i0,i0,i0,i0,i0,i0,i0,i0,s0,s0,s0,i0,i0,i0,s0,s0,n0,i0,n0,i0,s0,s0]]
def AGF:T:=T.bN [T.agg [T.v (.string ⟨#[72,49]⟩),T.sl false [[T.v (.string ⟨#[65,49]⟩),T.v (.int .i64 2),T.v (.string ⟨#[66,49]⟩)],[T.v (.string ⟨#[65,50]⟩),T.v (.int .i64 2),T.v (.string ⟨#[66,49]⟩)],[T.v (.string ⟨#[66,49]⟩),T.v (.int .i64 1),s0]],T.sl false [[T.v (.string ⟨#[80,49]⟩),T.v (.int .i64 1),T.v (.int .i64 4),T.v (.string ⟨#[65,50]⟩),s0,i0,l0,l0,s0,i0,T.v (.int .i64 5),i0,i0,i0,i0,i0,i0,i0]],l0,l0,l0],i0]
theorem AH0:gEd AGC=some AGF:=by kernel_rfl
def AGD:List T:=[T.agg [T.v (.string ⟨#[72,49]⟩),T.sl false [[T.v (.string ⟨#[65,49]⟩),T.v (.int .i64 2),T.v (.string ⟨#[66,49]⟩)],[T.v (.string ⟨#[65,50]⟩),T.v (.int .i64 2),T.v (.string ⟨#[66,49]⟩)],[T.v (.string ⟨#[66,49]⟩),T.v (.int .i64 1),s0]],T.sl false [[T.v (.string ⟨#[80,49]⟩),T.v (.int .i64 1),T.v (.int .i64 4),T.v (.string ⟨#[65,49]⟩),s0,i0,l0,l0,s0,i0,T.v (.int .i64 5),i0,i0,i0,i0,i0,i0,i0]],l0,l0,l0],T.agg [n0,n0],T.agg [T.v (.int .i64 4),T.v (.string ⟨#[80,57]⟩),s0,s0,i0,s0,s0,i0,i0,s0,s0,i0,n0,n0,s0,i0,i0,i0,i0,i0,i0,i0,i0,i0,s0,s0,s0,i0,i0,i0,s0,s0,n0,i0,n0,i0,s0,s0]]
def AGG:T:=T.bN [T.agg [s0,l0,l0,l0,l0,l0],T.v (.int .i64 8)]
theorem AH1:gEd AGD=some AGG:=by kernel_rfl
def EA:List (List T×T):=[(AGB,AGE),(AGC,AGF),(AGD,AGG)]
theorem PS:aZ Tryz.prog 66 (yW EA):=pM AD9 fun x hx=>by
 simp only[EA,List.mem_cons,List.not_mem_nil,or_false] at hx
 rcases hx with rfl|rfl|rfl
 ·exact AHZ
 ·exact AH0
 ·exact AH1
end Go.Pv
namespace Go.Pv
open Go Go.Proofs Go.RowKit Go.Shelf
def AE5:Ren:=⟨fun|166=>35|240=>59|276=>79|169=>39|n=>n,fun|0=>0|3=>3|4=>4|5=>5|9=>9|20=>20|37=>92|70=>91|72=>94|75=>96|80=>101|127=>129|164=>147|n=>n,fun|n=>n⟩
theorem AGT:Lays.n166 Tryz.prog AE5:={
 mixed:=bA
 f166:=Tryz.func35.trans (congrArg some (by kernel_rfl))
 f240:=Tryz.func59.trans (congrArg some (by kernel_rfl))
 f276:=Tryz.func79.trans (congrArg some (by kernel_rfl))
 t0:=by kernel_rfl
 a0:=fun _=>by kernel_rfl
 z0:=fun _=>by kernel_rfl
 v0:=fun _=>by kernel_rfl
 t3:=by kernel_rfl
 a3:=fun _=>by kernel_rfl
 z3:=fun _=>by kernel_rfl
 v3:=fun _=>by kernel_rfl
 t4:=by kernel_rfl
 a4:=fun _=>by kernel_rfl
 z4:=fun _=>by kernel_rfl
 v4:=fun _=>by kernel_rfl
 t9:=by kernel_rfl
 a9:=fun _=>by kernel_rfl
 z9:=fun _=>by kernel_rfl
 v9:=fun _=>by kernel_rfl
 t20:=by kernel_rfl
 a20:=fun _=>by kernel_rfl
 z20:=fun _=>by kernel_rfl
 v20:=fun _=>by kernel_rfl
 t37:=by kernel_rfl
 a37:=fun _=>by kernel_rfl
 z37:=fun _=>by kernel_rfl
 v37:=fun _=>by kernel_rfl
 t70:=by kernel_rfl
 a70:=fun _=>by kernel_rfl
 z70:=fun _=>by kernel_rfl
 v70:=fun _=>by kernel_rfl
 t72:=by kernel_rfl
 a72:=fun _=>by kernel_rfl
 z72:=fun _=>by kernel_rfl
 v72:=fun _=>by kernel_rfl
 t75:=by kernel_rfl
 a75:=fun _=>by kernel_rfl
 z75:=fun _=>by kernel_rfl
 v75:=fun _=>by kernel_rfl
 t164:=by kernel_rfl
 a164:=fun _=>by kernel_rfl
 z164:=fun _=>by kernel_rfl
 v164:=fun _=>by kernel_rfl }
theorem AGS:Lays.n169 Tryz.prog AE5:={
 mixed:=bA
 f169:=Tryz.func39.trans (congrArg some (by kernel_rfl))
 t0:=by kernel_rfl
 a0:=fun _=>by kernel_rfl
 z0:=fun _=>by kernel_rfl
 v0:=fun _=>by kernel_rfl
 t3:=by kernel_rfl
 a3:=fun _=>by kernel_rfl
 z3:=fun _=>by kernel_rfl
 v3:=fun _=>by kernel_rfl
 t9:=by kernel_rfl
 a9:=fun _=>by kernel_rfl
 z9:=fun _=>by kernel_rfl
 v9:=fun _=>by kernel_rfl
 t37:=by kernel_rfl
 a37:=fun _=>by kernel_rfl
 z37:=fun _=>by kernel_rfl
 v37:=fun _=>by kernel_rfl
 t70:=by kernel_rfl
 a70:=fun _=>by kernel_rfl
 z70:=fun _=>by kernel_rfl
 v70:=fun _=>by kernel_rfl
 t72:=by kernel_rfl
 a72:=fun _=>by kernel_rfl
 z72:=fun _=>by kernel_rfl
 v72:=fun _=>by kernel_rfl
 t127:=by kernel_rfl
 a127:=fun _=>by kernel_rfl
 z127:=fun _=>by kernel_rfl
 v127:=fun _=>by kernel_rfl }
theorem V5:Builder.Extra Tryz.prog AE5 where
 sizeBuilder:=by kernel_rfl
 liesBuilder:=by kernel_rfl
 t5:=by kernel_rfl
 a5:=fun _=>by kernel_rfl
 z5:=fun _=>by kernel_rfl
 v5:=fun _=>by kernel_rfl
 infoByte:=by kernel_rfl
 cellsByte:=by kernel_rfl
 sizeByte:=by kernel_rfl
 neB5:=by decide
theorem RT (B b:Nat) (bs:List Value) (s:ByteArray) (w:World) (h:Lib.IsBuilderF 94 5 B b bs w) (hlen:bs.length+s.size≤140737488355328) (hBw:B≤w.heap.size) :
  Calls Tryz.prog 35 #[.pointer (some ⟨b,0,none⟩),.string s] w fun e w'=>e = .returned (.tuple #[.int .i64 s.size,.nilIface])∧(Lib.BuilderAtF 94 5 B b (.pointer (some ⟨b,0,none⟩)) (bs++Lib.strCells s) w'∧Below B w w') :=
 Any.Builder_WriteString_f AGT V5 B b bs s w h hlen hBw
theorem MR (B b:Nat) (l:List UInt8) (w:World) (h:Lib.IsBuilderF 94 5 B b (Lib.byteCells l) w) (hBw:B≤w.heap.size) :
  Calls Tryz.prog 39 #[.pointer (some ⟨b,0,none⟩)] w fun e w'=>e = .returned (.string ⟨l.toArray⟩)∧(Lib.IsBuilderF 94 5 B b (Lib.byteCells l) w'∧Below B w w') :=
 Any.Builder_String_any_f AGS V5 B b l w h hBw
end Go.Pv
namespace Go.Pv
open Go Go.Proofs
end Go.Pv
namespace Go.Pv
open Go Go.Proofs
end Go.Pv
namespace Go.Pv
open Go Go.Proofs
abbrev QR:Sh:=[(false,.bool)]
theorem oT {p:Prop} {i:Decidable p} (h:p) {A B:Prop} (ha:A):aF (@decide p i) A B:=by rw[show @decide p i=true from decide_eq_true h];exact ha
theorem vJ {p:Prop} {i:Decidable p} (h:¬ p) {A B:Prop} (hb:B):aF (@decide p i) A B:=by rw[show @decide p i=false from decide_eq_false h];exact hb
theorem eP {p:Prop} {i:Decidable p} {A B:Prop} (h1:p→A) (h2:¬ p→B):aF (@decide p i) A B:=by
 by_cases h:p
 ·rw[decide_eq_true h];exact h1 h
 ·rw[decide_eq_false h];exact h2 h
theorem G5 {p:Prop} {i:Decidable p} {A B:Prop} (h1:¬ p→A) (h2:p→B):aF (!(@decide p i)) A B:=by
 by_cases h:p
 ·rw[decide_eq_true h];exact h2 h
 ·rw[decide_eq_false h];exact h1 h
theorem ifB {c:Bool} {A B:Prop} (h1:c=true→A) (h2:c=false→B):aF c A B:=by cases c with
 | true=>exact h1 rfl
 | false=>exact h2 rfl
theorem ABQ {c:Bool} {A B:Prop} (h1:c=false→A) (h2:c=true→B):aF (!c) A B:=by cases c with
 | true=>exact h2 rfl
 | false=>exact h1 rfl
end Go.Pv
namespace Go.Pv
open Go Go.Proofs
def JC:Nat→Nat→List Nat
 | 0,_=>[]
 | n+1,v=>JC n (v / 256)++[v % 256]
theorem iE:∀ (n v:Nat),JC (n+1) v=(v / 256 ^ n % 256)::JC n v
 | 0,v=>by simp[JC]
 | n+1,v=>by
  show JC (n+1) (v / 256)++[v % 256]=_
  rw[iE n (v / 256)]
  show _::(JC n (v / 256)++[v % 256])=_::(JC n (v / 256)++[v % 256])
  rw[Nat.div_div_eq_div_mul,←Nat.pow_succ']
def dA (k v:Nat):List Nat :=
 if v<24 then [32*k+v] else if v<256 then (32*k+24)::JC 1 v else if v<65536 then (32*k+25)::JC 2 v else if v<4294967296 then (32*k+26)::JC 4 v else (32*k+27)::JC 8 v
def zK (l:List Nat):ByteArray:=⟨(l.map UInt8.ofNat).toArray⟩
theorem sD (l:List Nat):strOfNums (l.map fun (n:Nat)=>(n:Int))=zK l:=by
 unfold strOfNums zK
 rw[List.map_map];rfl
def cJ (n:Int):ByteArray:=if n<0 then zK (dA 1 ((-1-n) % 18446744073709551616).toNat) else zK (dA 0 (n % 18446744073709551616).toNat)
def bL (t:ByteArray):ByteArray:=zK (dA 2 t.size)++t
def dK (n:Int):ByteArray:=if n<0 then ⟨#[]⟩ else zK (dA 4 (n % 18446744073709551616).toNat)
theorem or8:∀ k:Fin 8,∀ b:Fin 32,bits .or .u8 ((32*k.1:Nat):Int) (b.1:Int)=((32*k.1+b.1:Nat):Int):=by decide
theorem AHA {k b:Nat} (hk:k<8) (hb:b<32):bits .or .u8 ((32*k:Nat):Int) (b:Int)=((32*k+b:Nat):Int):=or8 ⟨k,hk⟩ ⟨b,hb⟩
theorem AE1 (n:Int):IntKind.u64.wrap (bits .xor .i64 (-1) n)=(-1-n) % 18446744073709551616:=by
 have e1:BitVec.ofInt 64 (-1)=BitVec.allOnes 64:=by decide
 have e2:(BitVec.ofInt 64 n).toNat=(n % 18446744073709551616).toNat:=by rw[BitVec.toNat_ofInt];rfl
 have e3:((BitVec.ofInt 64 (-1) ^^^ BitVec.ofInt 64 n).toNat:Int)=(-1-n) % 18446744073709551616:=by
  rw[e1,BitVec.allOnes_xor,BitVec.toNat_not,e2]
  omega
 show (IntKind.i64.wrap ((BitVec.ofInt 64 (-1) ^^^ BitVec.ofInt 64 n).toNat:Int)) % 18446744073709551616=_
 rw[e3]
 have h:∀ m:Int,0≤m→m<18446744073709551616→(IntKind.i64.wrap m) % 18446744073709551616=m:=fun m h0 h1=>by
  show (if (true&&decide (m % 18446744073709551616≥9223372036854775808))=true then m % 18446744073709551616-18446744073709551616 else m % 18446744073709551616) % 18446744073709551616=m
  split<;>omega
 exact h _ (by omega) (by omega)
theorem wrap_u64 {n:Int} (h0:0≤n) (h1:n<18446744073709551616):IntKind.u64.wrap n=n:=by
 show n % 18446744073709551616=n
 omega
theorem DE (n:Nat):IntKind.u8.wrap (n:Int)=((n % 256:Nat):Int):=by
 show (n:Int) % 256=_
 omega
theorem dU (n:Nat) (d:Nat):IntKind.u8.wrap ((n:Int) / (d:Int))=((n / d % 256:Nat):Int):=by
 rw[show ((n:Int) / (d:Int))=((n / d:Nat):Int) from (Int.natCast_ediv ..).symm]
 exact DE _
def yK:List (List T)→List Int
 | []=>[]
 | r::l=>(match r with
  | [.v (.int _ n)]=>n
  | _=>0)::yK l
theorem kF {k v:Nat} {rows:List (List T)} (hr:fI rows=(yK rows).map (Sy.int .u8).enc) (he:yK rows=(dA k v).map fun (n:Nat)=>(n:Int)) {R:T→Prop} (h:R (T.v (.string (zK (dA k v))))) :
  bP (.int .u8) rows fun y=>aD true (R (T.v (.string (strOfNums y)))):=⟨yK rows,hr,rfl,by rw[he,sD];exact h⟩
def ADD (t:ByteArray):List (List T):=List.map (fun (b:UInt8)=>[T.v (.int .u8 (b.toNat:Int))]) t.data.toList
theorem KK {k v:Nat} {t:ByteArray} {hd rows:List (List T)} (hw:rows=hd++ADD t) (hr:fI hd=(yK hd).map (Sy.int .u8).enc) (he:yK hd=(dA k v).map fun (n:Nat)=>(n:Int)) {R:T→Prop} (h:R (T.v (.string (zK (dA k v)++t)))) :
  bP (.int .u8) rows fun y=>aD true (R (T.v (.string (strOfNums y)))):=by
 subst hw
 refine ⟨yK hd++t.data.toList.map fun b=>(b.toNat:Int),?_,rfl,?_⟩
 ·rw[x4,hr,List.map_append]
  congr 1
  unfold fI ADD
  rw[List.map_map,List.map_map];rfl
 ·have e:strOfNums (yK hd++t.data.toList.map fun b=>(b.toNat:Int))=zK (dA k v)++t:=by
   rw[he]
   unfold strOfNums zK
   apply ByteArray.ext
   simp only[List.map_append,List.map_map,ByteArray.data_append]
   apply Array.ext'
   simp[Function.comp_def]
  rw[e];exact h
section
variable {V c d : Int} {k v : Nat}
theorem he1 (hV:V=(v:Int)) (hc:c=((32*k:Nat):Int)) (hk:k<8) (h:v<24):[bits .or .u8 c (IntKind.u8.wrap V)]=(dA k v).map fun (n:Nat)=>(n:Int):=by
 subst hV hc
 unfold dA
 rw[if_pos h,DE,Nat.mod_eq_of_lt (by omega),AHA hk (by omega)];rfl
theorem QG (hc:c=((32*k:Nat):Int)) (hk:k<8) {m:Nat} (hd:d=(m:Int)) (hm:m<32):bits .or .u8 c d=((32*k+m:Nat):Int):=by
 subst hc hd
 exact AHA hk hm
theorem be1 (v:Nat):JC 1 v=[v / 1 % 256]:=iE 0 v
theorem be2 (v:Nat):JC 2 v=[v / 256 % 256,v / 1 % 256]:=by rw[iE 1,be1]
theorem be4 (v:Nat):JC 4 v=[v / 16777216 % 256,v / 65536 % 256,v / 256 % 256,v / 1 % 256]:=by rw[iE 3,iE 2,be2]
theorem be8 (v:Nat):JC 8 v=[v / 72057594037927936 % 256,v / 281474976710656 % 256,v / 1099511627776 % 256,v / 4294967296 % 256,v / 16777216 % 256,v / 65536 % 256,v / 256 % 256,v / 1 % 256]:=by rw[iE 7,iE 6,iE 5,iE 4,be4]
theorem he2 (hV:V=(v:Int)) (hc:c=((32*k:Nat):Int)) (hk:k<8) (hd:d=((24:Nat):Int)) (h:24≤v) (h':v<256):[bits .or .u8 c d,IntKind.u8.wrap (V / 2 ^ 0)]=(dA k v).map fun (n:Nat)=>(n:Int):=by
 subst hV
 unfold dA
 rw[if_neg (by omega),if_pos h',QG hc hk hd (by omega),be1]
 exact congrArg _ (congrArg (fun z=>[z]) (dU v 1))
theorem he3 (hV:V=(v:Int)) (hc:c=((32*k:Nat):Int)) (hk:k<8) (hd:d=((25:Nat):Int)) (h:256≤v) (h':v<65536):[bits .or .u8 c d,IntKind.u8.wrap (V / 2 ^ 8),IntKind.u8.wrap (V / 2 ^ 0)]=(dA k v).map fun (n:Nat)=>(n:Int):=by
 subst hV
 unfold dA
 rw[if_neg (by omega),if_neg (by omega),if_pos h',QG hc hk hd (by omega),be2]
 refine congrArg _ (congr (congrArg List.cons (dU v 256)) (congrArg (fun z=>[z]) (dU v 1)))
theorem he5 (hV:V=(v:Int)) (hc:c=((32*k:Nat):Int)) (hk:k<8) (hd:d=((26:Nat):Int)) (h:65536≤v) (h':v<4294967296):[bits .or .u8 c d,IntKind.u8.wrap (V / 2 ^ 24),IntKind.u8.wrap (V / 2 ^ 16),IntKind.u8.wrap (V / 2 ^ 8),IntKind.u8.wrap (V / 2 ^ 0)]=(dA k v).map fun (n:Nat)=>(n:Int):=by
 subst hV
 unfold dA
 rw[if_neg (by omega),if_neg (by omega),if_neg (by omega),if_pos h',QG hc hk hd (by omega),be4]
 refine congrArg _ (congr (congrArg List.cons (dU v 16777216)) (congr (congrArg List.cons (dU v 65536)) (congr (congrArg List.cons (dU v 256)) (congrArg (fun z=>[z]) (dU v 1)))))
theorem he9 (hV:V=(v:Int)) (hc:c=((32*k:Nat):Int)) (hk:k<8) (hd:d=((27:Nat):Int)) (h:4294967296≤v):[bits .or .u8 c d,IntKind.u8.wrap (V / 2 ^ 56),IntKind.u8.wrap (V / 2 ^ 48),IntKind.u8.wrap (V / 2 ^ 40),IntKind.u8.wrap (V / 2 ^ 32),IntKind.u8.wrap (V / 2 ^ 24),IntKind.u8.wrap (V / 2 ^ 16),IntKind.u8.wrap (V / 2 ^ 8),IntKind.u8.wrap (V / 2 ^ 0)]=(dA k v).map fun (n:Nat)=>(n:Int):=by
 subst hV
 unfold dA
 rw[if_neg (by omega),if_neg (by omega),if_neg (by omega),if_neg (by omega),QG hc hk hd (by omega),be8]
 refine congrArg _ (congr (congrArg List.cons (dU v 72057594037927936)) (congr (congrArg List.cons (dU v 281474976710656)) (congr (congrArg List.cons (dU v 1099511627776)) (congr (congrArg List.cons (dU v 4294967296)) (congr (congrArg List.cons (dU v 16777216)) (congr (congrArg List.cons (dU v 65536)) (congr (congrArg List.cons (dU v 256)) (congrArg (fun z=>[z]) (dU v 1)))))))))
theorem lX (hV:V=(v:Int)) {A1 A2 A3 A5 A9:Prop} (h1:v<24→A1) (h2:24≤v→v<256→A2) (h3:256≤v→v<65536→A3) (h5:65536≤v→v<4294967296→A5) (h9:4294967296≤v→A9) :
  aF (decide (V<24)) A1 (aF (!decide (V / 2 ^ 8=0)) (aF (!decide (V / 2 ^ 16=0)) (aF (!decide (V / 2 ^ 32=0)) A9 A5) A3) A2):=by
 subst hV
 have q:∀ d:Nat,0<d→((v:Int) / (d:Int)=0↔v<d):=fun d hd=>by
  rw[←Int.natCast_ediv]
  constructor
  ·intro h
   exact (Nat.div_eq_zero_iff_lt hd).1 (by omega)
  ·intro h
   have:=(Nat.div_eq_zero_iff_lt hd).2 h
   omega
 have q8:(v:Int) / 2 ^ 8=0↔v<256:=q 256 (by omega)
 have q16:(v:Int) / 2 ^ 16=0↔v<65536:=q 65536 (by omega)
 have q32:(v:Int) / 2 ^ 32=0↔v<4294967296:=q 4294967296 (by omega)
 by_cases c1:v<24
 ·rw[decide_eq_true (by omega:(v:Int)<24)];exact h1 c1
 rw[decide_eq_false (by omega:¬ (v:Int)<24)]
 by_cases c2:v<256
 ·rw[decide_eq_true (q8.2 c2)];exact h2 (by omega) c2
 rw[decide_eq_false (fun h=>c2 (q8.1 h))]
 by_cases c3:v<65536
 ·rw[decide_eq_true (q16.2 c3)];exact h3 (by omega) c3
 rw[decide_eq_false (fun h=>c3 (q16.1 h))]
 by_cases c5:v<4294967296
 ·rw[decide_eq_true (q32.2 c5)];exact h5 (by omega) c5
 rw[decide_eq_false (fun h=>c5 (q32.1 h))]
 exact h9 (by omega)
end
end Go.Pv
namespace Go.Pv
open Go Go.Proofs
noncomputable def Z4:Env:=Env.of [(7000000092,.mark)]
def AAF:FuncId→Hint:=fM 60 [(5,.kR 5),(9,.kR 10)] (fun _=>bW)
theorem Q8:aH Tryz.prog Z4:=.cons (x:=.mark) trivial (.nil _)
def F0 (a0:ByteArray) (R:T→Prop):Prop :=
 aF (decide (IntKind.u64.wrap (↑(ByteArray.size a0):Int)<24))
 (aD true
 (aD
 (decide ((1+ByteArray.size a0)*1≤140737488355328)&&decide (1+ByteArray.size a0≤140737488355328))
 (bP (Sy.int IntKind.u8)
 ([T.v
 (Value.int IntKind.u8
 (bits BinOp.or IntKind.u8 (IntKind.u8.wrap (IntKind.i64.wrap (2*2 ^ Int.toNat 5)))
 (IntKind.u8.wrap (IntKind.u64.wrap (↑(ByteArray.size a0):Int)))))] ::
 (List.map (fun (b:UInt8)=>[T.v (Value.int IntKind.u8 (↑b.toNat:Int))]) a0.data.1))
 fun (y0:List Int)=>aD true (R (T.v (.string (strOfNums y0)))))))
 (aF (!decide (IntKind.u64.wrap (↑(ByteArray.size a0):Int) / 2 ^ 8=0))
 (aF (!decide (IntKind.u64.wrap (↑(ByteArray.size a0):Int) / 2 ^ 16=0))
 (aF (!decide (IntKind.u64.wrap (↑(ByteArray.size a0):Int) / 2 ^ 32=0))
 (aD true
 (aD true
 (aD true
 (aD true
 (aD true
 (aD true
 (aD true
 (aD true
 (aD true
 (aD
 (decide ((9+ByteArray.size a0)*1≤140737488355328) &&
 decide (9+ByteArray.size a0≤140737488355328))
 (bP (Sy.int IntKind.u8)
 ([T.v
 (Value.int IntKind.u8
 (bits BinOp.or IntKind.u8
 (IntKind.u8.wrap (IntKind.i64.wrap (2*2 ^ Int.toNat 5)))
 (IntKind.u8.wrap
 (IntKind.i64.wrap
 (24 +
 IntKind.i64.wrap
 (IntKind.i64.wrap (IntKind.i64.wrap (0+1)+1)+1))))))] ::
 [T.v
 (Value.int IntKind.u8
 (IntKind.u8.wrap
 (IntKind.u64.wrap (↑(ByteArray.size a0):Int) / 2 ^ 56)))] ::
 [T.v
 (Value.int IntKind.u8
 (IntKind.u8.wrap
 (IntKind.u64.wrap (↑(ByteArray.size a0):Int) / 2 ^ 48)))] ::
 [T.v
 (Value.int IntKind.u8
 (IntKind.u8.wrap
 (IntKind.u64.wrap (↑(ByteArray.size a0):Int) / 2 ^ 40)))] ::
 [T.v
 (Value.int IntKind.u8
 (IntKind.u8.wrap
 (IntKind.u64.wrap (↑(ByteArray.size a0):Int) / 2 ^ 32)))] ::
 [T.v
 (Value.int IntKind.u8
 (IntKind.u8.wrap
 (IntKind.u64.wrap (↑(ByteArray.size a0):Int) / 2 ^ 24)))] ::
 [T.v
 (Value.int IntKind.u8
 (IntKind.u8.wrap
 (IntKind.u64.wrap (↑(ByteArray.size a0):Int) / 2 ^ 16)))] ::
 [T.v
 (Value.int IntKind.u8
 (IntKind.u8.wrap
 (IntKind.u64.wrap (↑(ByteArray.size a0):Int) / 2 ^ 8)))] ::
 [T.v
 (Value.int IntKind.u8
 (IntKind.u8.wrap
 (IntKind.u64.wrap (↑(ByteArray.size a0):Int) / 2 ^ 0)))] ::
 (List.map
 (fun (b:UInt8) =>
 [T.v (Value.int IntKind.u8 (↑b.toNat:Int))])
 a0.data.1))
 fun (y1:List Int) =>
 aD true (R (T.v (.string (strOfNums y1)))))))))))))))
 (aD true
 (aD true
 (aD true
 (aD true
 (aD true
 (aD
 (decide ((5+ByteArray.size a0)*1≤140737488355328) &&
 decide (5+ByteArray.size a0≤140737488355328))
 (bP (Sy.int IntKind.u8)
 ([T.v
 (Value.int IntKind.u8
 (bits BinOp.or IntKind.u8
 (IntKind.u8.wrap (IntKind.i64.wrap (2*2 ^ Int.toNat 5)))
 (IntKind.u8.wrap
 (IntKind.i64.wrap
 (24+IntKind.i64.wrap (IntKind.i64.wrap (0+1)+1))))))] ::
 [T.v
 (Value.int IntKind.u8
 (IntKind.u8.wrap (IntKind.u64.wrap (↑(ByteArray.size a0):Int) / 2 ^ 24)))] ::
 [T.v
 (Value.int IntKind.u8
 (IntKind.u8.wrap (IntKind.u64.wrap (↑(ByteArray.size a0):Int) / 2 ^ 16)))] ::
 [T.v
 (Value.int IntKind.u8
 (IntKind.u8.wrap (IntKind.u64.wrap (↑(ByteArray.size a0):Int) / 2 ^ 8)))] ::
 [T.v
 (Value.int IntKind.u8
 (IntKind.u8.wrap
 (IntKind.u64.wrap (↑(ByteArray.size a0):Int) / 2 ^ 0)))] ::
 (List.map
 (fun (b:UInt8)=>[T.v (Value.int IntKind.u8 (↑b.toNat:Int))])
 a0.data.1))
 fun (y2:List Int)=>aD true (R (T.v (.string (strOfNums y2))))))))))))
 (aD true
 (aD true
 (aD true
 (aD
 (decide ((3+ByteArray.size a0)*1≤140737488355328) &&
 decide (3+ByteArray.size a0≤140737488355328))
 (bP (Sy.int IntKind.u8)
 ([T.v
 (Value.int IntKind.u8
 (bits BinOp.or IntKind.u8
 (IntKind.u8.wrap (IntKind.i64.wrap (2*2 ^ Int.toNat 5)))
 (IntKind.u8.wrap (IntKind.i64.wrap (24+IntKind.i64.wrap (0+1))))))] ::
 [T.v
 (Value.int IntKind.u8
 (IntKind.u8.wrap (IntKind.u64.wrap (↑(ByteArray.size a0):Int) / 2 ^ 8)))] ::
 [T.v
 (Value.int IntKind.u8
 (IntKind.u8.wrap (IntKind.u64.wrap (↑(ByteArray.size a0):Int) / 2 ^ 0)))] ::
 (List.map (fun (b:UInt8)=>[T.v (Value.int IntKind.u8 (↑b.toNat:Int))])
 a0.data.1))
 fun (y3:List Int)=>aD true (R (T.v (.string (strOfNums y3))))))))))
 (aD true
 (aD true
 (aD
 (decide ((2+ByteArray.size a0)*1≤140737488355328)&&decide (2+ByteArray.size a0≤140737488355328))
 (bP (Sy.int IntKind.u8)
 ([T.v
 (Value.int IntKind.u8
 (bits BinOp.or IntKind.u8 (IntKind.u8.wrap (IntKind.i64.wrap (2*2 ^ Int.toNat 5)))
 (IntKind.u8.wrap (IntKind.i64.wrap (24+0)))))] ::
 [T.v
 (Value.int IntKind.u8
 (IntKind.u8.wrap (IntKind.u64.wrap (↑(ByteArray.size a0):Int) / 2 ^ 0)))] ::
 (List.map (fun (b:UInt8)=>[T.v (Value.int IntKind.u8 (↑b.toNat:Int))]) a0.data.1))
 fun (y4:List Int)=>aD true (R (T.v (.string (strOfNums y4)))))))))
abbrev HY:Sh:=[(false,Sy.str)]
noncomputable def ADJ:Env:=Env.of [(7000000092,.mark)]
def ADN:FuncId→Hint:=fM 60 [(5,.kR 5),(9,.kR 10)] (fun _=>bW)
theorem UT:aH Tryz.prog ADJ:=.cons (x:=.mark) trivial (.nil _)
def L7 (a0:Int) (R:T→Prop):Prop :=
 aF (decide (a0<0))
 (aF
 (decide
 (IntKind.u64.wrap
 (bits BinOp.xor IntKind.i64 (if IntKind.i64.signed=true then -1 else IntKind.i64.max) a0) <
 24))
 (aD true
 (bP (Sy.int IntKind.u8)
 [[T.v
 (Value.int IntKind.u8
 (bits BinOp.or IntKind.u8 (IntKind.u8.wrap (IntKind.i64.wrap (1*2 ^ Int.toNat 5)))
 (IntKind.u8.wrap
 (IntKind.u64.wrap
 (bits BinOp.xor IntKind.i64
 (if IntKind.i64.signed=true then -1 else IntKind.i64.max) a0)))))]]
 fun (y0:List Int)=>aD true (R (T.v (.string (strOfNums y0))))))
 (aF
 (!decide
 (IntKind.u64.wrap
 (bits BinOp.xor IntKind.i64 (if IntKind.i64.signed=true then -1 else IntKind.i64.max)
 a0) /
 2 ^ 8 =
 0))
 (aF
 (!decide
 (IntKind.u64.wrap
 (bits BinOp.xor IntKind.i64 (if IntKind.i64.signed=true then -1 else IntKind.i64.max)
 a0) /
 2 ^ 16 =
 0))
 (aF
 (!decide
 (IntKind.u64.wrap
 (bits BinOp.xor IntKind.i64
 (if IntKind.i64.signed=true then -1 else IntKind.i64.max) a0) /
 2 ^ 32 =
 0))
 (aD true
 (aD true
 (aD true
 (aD true
 (aD true
 (aD true
 (aD true
 (aD true
 (aD true
 (bP (Sy.int IntKind.u8)
 [[T.v
 (Value.int IntKind.u8
 (bits BinOp.or IntKind.u8
 (IntKind.u8.wrap (IntKind.i64.wrap (1*2 ^ Int.toNat 5)))
 (IntKind.u8.wrap
 (IntKind.i64.wrap
 (24 +
 IntKind.i64.wrap
 (IntKind.i64.wrap (IntKind.i64.wrap (0+1)+1)+1))))))],
 [T.v
 (Value.int IntKind.u8
 (IntKind.u8.wrap
 (IntKind.u64.wrap
 (bits BinOp.xor IntKind.i64
 (if IntKind.i64.signed=true then -1 else IntKind.i64.max) a0) /
 2 ^ 56)))],
 [T.v
 (Value.int IntKind.u8
 (IntKind.u8.wrap
 (IntKind.u64.wrap
 (bits BinOp.xor IntKind.i64
 (if IntKind.i64.signed=true then -1 else IntKind.i64.max) a0) /
 2 ^ 48)))],
 [T.v
 (Value.int IntKind.u8
 (IntKind.u8.wrap
 (IntKind.u64.wrap
 (bits BinOp.xor IntKind.i64
 (if IntKind.i64.signed=true then -1 else IntKind.i64.max) a0) /
 2 ^ 40)))],
 [T.v
 (Value.int IntKind.u8
 (IntKind.u8.wrap
 (IntKind.u64.wrap
 (bits BinOp.xor IntKind.i64
 (if IntKind.i64.signed=true then -1 else IntKind.i64.max) a0) /
 2 ^ 32)))],
 [T.v
 (Value.int IntKind.u8
 (IntKind.u8.wrap
 (IntKind.u64.wrap
 (bits BinOp.xor IntKind.i64
 (if IntKind.i64.signed=true then -1 else IntKind.i64.max) a0) /
 2 ^ 24)))],
 [T.v
 (Value.int IntKind.u8
 (IntKind.u8.wrap
 (IntKind.u64.wrap
 (bits BinOp.xor IntKind.i64
 (if IntKind.i64.signed=true then -1 else IntKind.i64.max) a0) /
 2 ^ 16)))],
 [T.v
 (Value.int IntKind.u8
 (IntKind.u8.wrap
 (IntKind.u64.wrap
 (bits BinOp.xor IntKind.i64
 (if IntKind.i64.signed=true then -1 else IntKind.i64.max) a0) /
 2 ^ 8)))],
 [T.v
 (Value.int IntKind.u8
 (IntKind.u8.wrap
 (IntKind.u64.wrap
 (bits BinOp.xor IntKind.i64
 (if IntKind.i64.signed=true then -1 else IntKind.i64.max) a0) /
 2 ^ 0)))]]
 fun (y1:List Int) =>
 aD true (R (T.v (.string (strOfNums y1))))))))))))))
 (aD true
 (aD true
 (aD true
 (aD true
 (aD true
 (bP (Sy.int IntKind.u8)
 [[T.v
 (Value.int IntKind.u8
 (bits BinOp.or IntKind.u8
 (IntKind.u8.wrap (IntKind.i64.wrap (1*2 ^ Int.toNat 5)))
 (IntKind.u8.wrap
 (IntKind.i64.wrap
 (24+IntKind.i64.wrap (IntKind.i64.wrap (0+1)+1))))))],
 [T.v
 (Value.int IntKind.u8
 (IntKind.u8.wrap
 (IntKind.u64.wrap
 (bits BinOp.xor IntKind.i64
 (if IntKind.i64.signed=true then -1 else IntKind.i64.max) a0) /
 2 ^ 24)))],
 [T.v
 (Value.int IntKind.u8
 (IntKind.u8.wrap
 (IntKind.u64.wrap
 (bits BinOp.xor IntKind.i64
 (if IntKind.i64.signed=true then -1 else IntKind.i64.max) a0) /
 2 ^ 16)))],
 [T.v
 (Value.int IntKind.u8
 (IntKind.u8.wrap
 (IntKind.u64.wrap
 (bits BinOp.xor IntKind.i64
 (if IntKind.i64.signed=true then -1 else IntKind.i64.max) a0) /
 2 ^ 8)))],
 [T.v
 (Value.int IntKind.u8
 (IntKind.u8.wrap
 (IntKind.u64.wrap
 (bits BinOp.xor IntKind.i64
 (if IntKind.i64.signed=true then -1 else IntKind.i64.max) a0) /
 2 ^ 0)))]]
 fun (y2:List Int)=>aD true (R (T.v (.string (strOfNums y2)))))))))))
 (aD true
 (aD true
 (aD true
 (bP (Sy.int IntKind.u8)
 [[T.v
 (Value.int IntKind.u8
 (bits BinOp.or IntKind.u8
 (IntKind.u8.wrap (IntKind.i64.wrap (1*2 ^ Int.toNat 5)))
 (IntKind.u8.wrap (IntKind.i64.wrap (24+IntKind.i64.wrap (0+1))))))],
 [T.v
 (Value.int IntKind.u8
 (IntKind.u8.wrap
 (IntKind.u64.wrap
 (bits BinOp.xor IntKind.i64
 (if IntKind.i64.signed=true then -1 else IntKind.i64.max) a0) /
 2 ^ 8)))],
 [T.v
 (Value.int IntKind.u8
 (IntKind.u8.wrap
 (IntKind.u64.wrap
 (bits BinOp.xor IntKind.i64
 (if IntKind.i64.signed=true then -1 else IntKind.i64.max) a0) /
 2 ^ 0)))]]
 fun (y3:List Int)=>aD true (R (T.v (.string (strOfNums y3)))))))))
 (aD true
 (aD true
 (bP (Sy.int IntKind.u8)
 [[T.v
 (Value.int IntKind.u8
 (bits BinOp.or IntKind.u8 (IntKind.u8.wrap (IntKind.i64.wrap (1*2 ^ Int.toNat 5)))
 (IntKind.u8.wrap (IntKind.i64.wrap (24+0)))))],
 [T.v
 (Value.int IntKind.u8
 (IntKind.u8.wrap
 (IntKind.u64.wrap
 (bits BinOp.xor IntKind.i64
 (if IntKind.i64.signed=true then -1 else IntKind.i64.max) a0) /
 2 ^ 0)))]]
 fun (y4:List Int)=>aD true (R (T.v (.string (strOfNums y4)))))))))
 (aF (decide (IntKind.u64.wrap a0<24))
 (aD true
 (bP (Sy.int IntKind.u8)
 [[T.v
 (Value.int IntKind.u8
 (bits BinOp.or IntKind.u8 (IntKind.u8.wrap (IntKind.i64.wrap (0*2 ^ Int.toNat 5)))
 (IntKind.u8.wrap (IntKind.u64.wrap a0))))]]
 fun (y5:List Int)=>aD true (R (T.v (.string (strOfNums y5))))))
 (aF (!decide (IntKind.u64.wrap a0 / 2 ^ 8=0))
 (aF (!decide (IntKind.u64.wrap a0 / 2 ^ 16=0))
 (aF (!decide (IntKind.u64.wrap a0 / 2 ^ 32=0))
 (aD true
 (aD true
 (aD true
 (aD true
 (aD true
 (aD true
 (aD true
 (aD true
 (aD true
 (bP (Sy.int IntKind.u8)
 [[T.v
 (Value.int IntKind.u8
 (bits BinOp.or IntKind.u8
 (IntKind.u8.wrap (IntKind.i64.wrap (0*2 ^ Int.toNat 5)))
 (IntKind.u8.wrap
 (IntKind.i64.wrap
 (24 +
 IntKind.i64.wrap
 (IntKind.i64.wrap (IntKind.i64.wrap (0+1)+1)+1))))))],
 [T.v
 (Value.int IntKind.u8
 (IntKind.u8.wrap (IntKind.u64.wrap a0 / 2 ^ 56)))],
 [T.v
 (Value.int IntKind.u8
 (IntKind.u8.wrap (IntKind.u64.wrap a0 / 2 ^ 48)))],
 [T.v
 (Value.int IntKind.u8
 (IntKind.u8.wrap (IntKind.u64.wrap a0 / 2 ^ 40)))],
 [T.v
 (Value.int IntKind.u8
 (IntKind.u8.wrap (IntKind.u64.wrap a0 / 2 ^ 32)))],
 [T.v
 (Value.int IntKind.u8
 (IntKind.u8.wrap (IntKind.u64.wrap a0 / 2 ^ 24)))],
 [T.v
 (Value.int IntKind.u8
 (IntKind.u8.wrap (IntKind.u64.wrap a0 / 2 ^ 16)))],
 [T.v
 (Value.int IntKind.u8 (IntKind.u8.wrap (IntKind.u64.wrap a0 / 2 ^ 8)))],
 [T.v
 (Value.int IntKind.u8 (IntKind.u8.wrap (IntKind.u64.wrap a0 / 2 ^ 0)))]]
 fun (y6:List Int) =>
 aD true (R (T.v (.string (strOfNums y6))))))))))))))
 (aD true
 (aD true
 (aD true
 (aD true
 (aD true
 (bP (Sy.int IntKind.u8)
 [[T.v
 (Value.int IntKind.u8
 (bits BinOp.or IntKind.u8
 (IntKind.u8.wrap (IntKind.i64.wrap (0*2 ^ Int.toNat 5)))
 (IntKind.u8.wrap
 (IntKind.i64.wrap
 (24+IntKind.i64.wrap (IntKind.i64.wrap (0+1)+1))))))],
 [T.v (Value.int IntKind.u8 (IntKind.u8.wrap (IntKind.u64.wrap a0 / 2 ^ 24)))],
 [T.v (Value.int IntKind.u8 (IntKind.u8.wrap (IntKind.u64.wrap a0 / 2 ^ 16)))],
 [T.v (Value.int IntKind.u8 (IntKind.u8.wrap (IntKind.u64.wrap a0 / 2 ^ 8)))],
 [T.v (Value.int IntKind.u8 (IntKind.u8.wrap (IntKind.u64.wrap a0 / 2 ^ 0)))]]
 fun (y7:List Int)=>aD true (R (T.v (.string (strOfNums y7)))))))))))
 (aD true
 (aD true
 (aD true
 (bP (Sy.int IntKind.u8)
 [[T.v
 (Value.int IntKind.u8
 (bits BinOp.or IntKind.u8
 (IntKind.u8.wrap (IntKind.i64.wrap (0*2 ^ Int.toNat 5)))
 (IntKind.u8.wrap (IntKind.i64.wrap (24+IntKind.i64.wrap (0+1))))))],
 [T.v (Value.int IntKind.u8 (IntKind.u8.wrap (IntKind.u64.wrap a0 / 2 ^ 8)))],
 [T.v (Value.int IntKind.u8 (IntKind.u8.wrap (IntKind.u64.wrap a0 / 2 ^ 0)))]]
 fun (y8:List Int)=>aD true (R (T.v (.string (strOfNums y8)))))))))
 (aD true
 (aD true
 (bP (Sy.int IntKind.u8)
 [[T.v
 (Value.int IntKind.u8
 (bits BinOp.or IntKind.u8 (IntKind.u8.wrap (IntKind.i64.wrap (0*2 ^ Int.toNat 5)))
 (IntKind.u8.wrap (IntKind.i64.wrap (24+0)))))],
 [T.v (Value.int IntKind.u8 (IntKind.u8.wrap (IntKind.u64.wrap a0 / 2 ^ 0)))]]
 fun (y9:List Int)=>aD true (R (T.v (.string (strOfNums y9)))))))))
abbrev OG:Sh:=[(false,(Sy.int IntKind.i64))]
noncomputable def Z2:Env:=Env.of [(7000000092,.mark)]
def AAD:FuncId→Hint:=fM 60 [(5,.kR 5),(9,.kR 10)] (fun _=>bW)
theorem Q6:aH Tryz.prog Z2:=.cons (x:=.mark) trivial (.nil _)
def FY (a0:Int) (R:T→Prop):Prop :=
 aF (decide (a0<0)) (R (T.v (.string { data:=#[] })))
 (aF (decide (IntKind.u64.wrap a0<24))
 (aD true
 (bP (Sy.int IntKind.u8)
 [[T.v
 (Value.int IntKind.u8
 (bits BinOp.or IntKind.u8 (IntKind.u8.wrap (IntKind.i64.wrap (4*2 ^ Int.toNat 5)))
 (IntKind.u8.wrap (IntKind.u64.wrap a0))))]]
 fun (y0:List Int)=>aD true (R (T.v (.string (strOfNums y0))))))
 (aF (!decide (IntKind.u64.wrap a0 / 2 ^ 8=0))
 (aF (!decide (IntKind.u64.wrap a0 / 2 ^ 16=0))
 (aF (!decide (IntKind.u64.wrap a0 / 2 ^ 32=0))
 (aD true
 (aD true
 (aD true
 (aD true
 (aD true
 (aD true
 (aD true
 (aD true
 (aD true
 (bP (Sy.int IntKind.u8)
 [[T.v
 (Value.int IntKind.u8
 (bits BinOp.or IntKind.u8
 (IntKind.u8.wrap (IntKind.i64.wrap (4*2 ^ Int.toNat 5)))
 (IntKind.u8.wrap
 (IntKind.i64.wrap
 (24 +
 IntKind.i64.wrap
 (IntKind.i64.wrap (IntKind.i64.wrap (0+1)+1)+1))))))],
 [T.v
 (Value.int IntKind.u8
 (IntKind.u8.wrap (IntKind.u64.wrap a0 / 2 ^ 56)))],
 [T.v
 (Value.int IntKind.u8
 (IntKind.u8.wrap (IntKind.u64.wrap a0 / 2 ^ 48)))],
 [T.v
 (Value.int IntKind.u8
 (IntKind.u8.wrap (IntKind.u64.wrap a0 / 2 ^ 40)))],
 [T.v
 (Value.int IntKind.u8
 (IntKind.u8.wrap (IntKind.u64.wrap a0 / 2 ^ 32)))],
 [T.v
 (Value.int IntKind.u8
 (IntKind.u8.wrap (IntKind.u64.wrap a0 / 2 ^ 24)))],
 [T.v
 (Value.int IntKind.u8
 (IntKind.u8.wrap (IntKind.u64.wrap a0 / 2 ^ 16)))],
 [T.v
 (Value.int IntKind.u8 (IntKind.u8.wrap (IntKind.u64.wrap a0 / 2 ^ 8)))],
 [T.v
 (Value.int IntKind.u8 (IntKind.u8.wrap (IntKind.u64.wrap a0 / 2 ^ 0)))]]
 fun (y1:List Int) =>
 aD true (R (T.v (.string (strOfNums y1))))))))))))))
 (aD true
 (aD true
 (aD true
 (aD true
 (aD true
 (bP (Sy.int IntKind.u8)
 [[T.v
 (Value.int IntKind.u8
 (bits BinOp.or IntKind.u8
 (IntKind.u8.wrap (IntKind.i64.wrap (4*2 ^ Int.toNat 5)))
 (IntKind.u8.wrap
 (IntKind.i64.wrap
 (24+IntKind.i64.wrap (IntKind.i64.wrap (0+1)+1))))))],
 [T.v (Value.int IntKind.u8 (IntKind.u8.wrap (IntKind.u64.wrap a0 / 2 ^ 24)))],
 [T.v (Value.int IntKind.u8 (IntKind.u8.wrap (IntKind.u64.wrap a0 / 2 ^ 16)))],
 [T.v (Value.int IntKind.u8 (IntKind.u8.wrap (IntKind.u64.wrap a0 / 2 ^ 8)))],
 [T.v (Value.int IntKind.u8 (IntKind.u8.wrap (IntKind.u64.wrap a0 / 2 ^ 0)))]]
 fun (y2:List Int)=>aD true (R (T.v (.string (strOfNums y2)))))))))))
 (aD true
 (aD true
 (aD true
 (bP (Sy.int IntKind.u8)
 [[T.v
 (Value.int IntKind.u8
 (bits BinOp.or IntKind.u8
 (IntKind.u8.wrap (IntKind.i64.wrap (4*2 ^ Int.toNat 5)))
 (IntKind.u8.wrap (IntKind.i64.wrap (24+IntKind.i64.wrap (0+1))))))],
 [T.v (Value.int IntKind.u8 (IntKind.u8.wrap (IntKind.u64.wrap a0 / 2 ^ 8)))],
 [T.v (Value.int IntKind.u8 (IntKind.u8.wrap (IntKind.u64.wrap a0 / 2 ^ 0)))]]
 fun (y3:List Int)=>aD true (R (T.v (.string (strOfNums y3)))))))))
 (aD true
 (aD true
 (bP (Sy.int IntKind.u8)
 [[T.v
 (Value.int IntKind.u8
 (bits BinOp.or IntKind.u8 (IntKind.u8.wrap (IntKind.i64.wrap (4*2 ^ Int.toNat 5)))
 (IntKind.u8.wrap (IntKind.i64.wrap (24+0)))))],
 [T.v (Value.int IntKind.u8 (IntKind.u8.wrap (IntKind.u64.wrap a0 / 2 ^ 0)))]]
 fun (y4:List Int)=>aD true (R (T.v (.string (strOfNums y4)))))))))
abbrev HW:Sh:=[(false,(Sy.int IntKind.i64))]
def wD (n:Int):Option T:=some (.v (.string (dK n)))
noncomputable def iH:List T→Option T:=gS HW wD
theorem mR {a0}:iH [T.v (.int .i64 a0)]=wD (a0):=cG (s:=HW) rfl (a0) rfl
theorem XW:RO Tryz.prog 37 iH wD (fF HW) FY:=xL (a1:=(false,(Sy.int IntKind.i64))) (sp:=wD) (F:=FY) (Hs:=AAD) (f:=37) (k:=8) Q6 bA bJ (aX rfl) ⟨_,_,Tryz.func37,rfl⟩ rfl fun _ _=>by kernel_rfl
def zS (n:Int):Option T:=some (.v (.string (cJ n)))
noncomputable def fL:List T→Option T:=gS OG zS
theorem pN {a0}:fL [T.v (.int .i64 a0)]=zS (a0):=cG (s:=OG) rfl (a0) rfl
theorem AB4:RO Tryz.prog 61 fL zS (fF OG) L7:=xL (a1:=(false,(Sy.int IntKind.i64))) (sp:=zS) (F:=L7) (Hs:=ADN) (f:=61) (k:=8) UT bA bJ (aX rfl) ⟨_,_,Tryz.func61,rfl⟩ rfl fun _ _=>by kernel_rfl
def kP (t:ByteArray):Option T:=match decide (t.size≤1099511627776) with
 | true=>some (.v (.string (bL t)))
 | false=>none
noncomputable def cM:List T→Option T:=gS HY kP
theorem sS {a0}:cM [T.v (.string a0)]=kP (a0):=cG (s:=HY) rfl (a0) rfl
theorem XY:RO Tryz.prog 36 cM kP (fF HY) F0:=xL (a1:=(false,Sy.str)) (sp:=kP) (F:=F0) (Hs:=AAF) (f:=36) (k:=8) Q8 bA bJ (aX rfl) ⟨_,_,Tryz.func36,rfl⟩ rfl fun _ _=>by kernel_rfl
theorem YM {c:Bool} {a r:T} (h:(match c with|true=>some a|false=>none)=some r):c=true∧a=r:=by
 cases c with
 | true=>exact ⟨rfl,Option.some.inj h⟩
 | false=>cases h
theorem ZP (n:Int):IntKind.u64.wrap n=(((n % 18446744073709551616).toNat:Nat):Int):=by
 show n % 18446744073709551616=_
 omega
theorem u6:aZ Tryz.prog 37 iH:=XW fun n r h hb=>by
 clear hb
 cases h
 unfold FY
 refine eP (fun h=>by unfold dK;rw[if_pos h]) fun h=>?_
 have hR:T.v (.string (zK (dA 4 (n % 18446744073709551616).toNat)))=T.v (.string (dK n)):=by unfold dK;rw[if_neg h]
 have hV:=ZP n
 refine lX hV (fun h=>⟨rfl,?_⟩) (fun h h'=>⟨rfl,rfl,?_⟩) (fun h h'=>⟨rfl,rfl,rfl,?_⟩) (fun h h'=>⟨rfl,rfl,rfl,rfl,rfl,?_⟩) (fun h=>⟨rfl,rfl,rfl,rfl,rfl,rfl,rfl,rfl,rfl,?_⟩)
 ·refine kF (k:=4) (R:=fun y=>y=T.v (.string (dK n))) rfl ?_ hR
  exact he1 (k:=4) hV rfl (by decide) h
 ·refine kF (k:=4) (R:=fun y=>y=T.v (.string (dK n))) rfl ?_ hR
  exact he2 (k:=4) hV rfl (by decide) rfl h h'
 ·refine kF (k:=4) (R:=fun y=>y=T.v (.string (dK n))) rfl ?_ hR
  exact he3 (k:=4) hV rfl (by decide) rfl h h'
 ·refine kF (k:=4) (R:=fun y=>y=T.v (.string (dK n))) rfl ?_ hR
  exact he5 (k:=4) hV rfl (by decide) rfl h h'
 ·refine kF (k:=4) (R:=fun y=>y=T.v (.string (dK n))) rfl ?_ hR
  exact he9 (k:=4) hV rfl (by decide) rfl h
theorem GZ:aZ Tryz.prog 61 fL:=AB4 fun n r h hb=>by
 clear hb
 cases h
 unfold L7
 refine eP (fun h=>?_) fun h=>?_
 ·have hR:T.v (.string (zK (dA 1 ((-1-n) % 18446744073709551616).toNat)))=T.v (.string (cJ n)):=by unfold cJ;rw[if_pos h]
  have hV:IntKind.u64.wrap (bits .xor .i64 (if IntKind.i64.signed=true then -1 else IntKind.i64.max) n)=((((-1-n) % 18446744073709551616).toNat:Nat):Int):=by
   show IntKind.u64.wrap (bits .xor .i64 (-1) n)=_
   rw[AE1]
   omega
  refine lX hV (fun h=>⟨rfl,?_⟩) (fun h h'=>⟨rfl,rfl,?_⟩) (fun h h'=>⟨rfl,rfl,rfl,?_⟩) (fun h h'=>⟨rfl,rfl,rfl,rfl,rfl,?_⟩) (fun h=>⟨rfl,rfl,rfl,rfl,rfl,rfl,rfl,rfl,rfl,?_⟩)
  ·refine kF (k:=1) (R:=fun y=>y=T.v (.string (cJ n))) rfl ?_ hR
   exact he1 (k:=1) hV rfl (by decide) h
  ·refine kF (k:=1) (R:=fun y=>y=T.v (.string (cJ n))) rfl ?_ hR
   exact he2 (k:=1) hV rfl (by decide) rfl h h'
  ·refine kF (k:=1) (R:=fun y=>y=T.v (.string (cJ n))) rfl ?_ hR
   exact he3 (k:=1) hV rfl (by decide) rfl h h'
  ·refine kF (k:=1) (R:=fun y=>y=T.v (.string (cJ n))) rfl ?_ hR
   exact he5 (k:=1) hV rfl (by decide) rfl h h'
  ·refine kF (k:=1) (R:=fun y=>y=T.v (.string (cJ n))) rfl ?_ hR
   exact he9 (k:=1) hV rfl (by decide) rfl h
 ·have hR:T.v (.string (zK (dA 0 (n % 18446744073709551616).toNat)))=T.v (.string (cJ n)):=by unfold cJ;rw[if_neg h]
  have hV:=ZP n
  refine lX hV (fun h=>⟨rfl,?_⟩) (fun h h'=>⟨rfl,rfl,?_⟩) (fun h h'=>⟨rfl,rfl,rfl,?_⟩) (fun h h'=>⟨rfl,rfl,rfl,rfl,rfl,?_⟩) (fun h=>⟨rfl,rfl,rfl,rfl,rfl,rfl,rfl,rfl,rfl,?_⟩)
  ·refine kF (k:=0) (R:=fun y=>y=T.v (.string (cJ n))) rfl ?_ hR
   exact he1 (k:=0) hV rfl (by decide) h
  ·refine kF (k:=0) (R:=fun y=>y=T.v (.string (cJ n))) rfl ?_ hR
   exact he2 (k:=0) hV rfl (by decide) rfl h h'
  ·refine kF (k:=0) (R:=fun y=>y=T.v (.string (cJ n))) rfl ?_ hR
   exact he3 (k:=0) hV rfl (by decide) rfl h h'
  ·refine kF (k:=0) (R:=fun y=>y=T.v (.string (cJ n))) rfl ?_ hR
   exact he5 (k:=0) hV rfl (by decide) rfl h h'
  ·refine kF (k:=0) (R:=fun y=>y=T.v (.string (cJ n))) rfl ?_ hR
   exact he9 (k:=0) hV rfl (by decide) rfl h
theorem u7:aZ Tryz.prog 36 cM:=XY fun t r h hb=>by
 clear hb
 obtain ⟨hs,rfl⟩:=YM h
 clear h
 have hs:t.size≤1099511627776:=of_decide_eq_true hs
 unfold F0
 have hV:IntKind.u64.wrap ((ByteArray.size t:Nat):Int)=((t.size:Nat):Int):=wrap_u64 (by omega) (by omega)
 have hb:∀ n:Nat,n≤9→(decide ((n+ByteArray.size t)*1≤140737488355328)&&decide (n+ByteArray.size t≤140737488355328))=true:=fun n hn=>by
  rw[Bool.and_eq_true]
  exact ⟨decide_eq_true (by omega),decide_eq_true (by omega)⟩
 refine lX hV (fun h=>⟨rfl,hb 1 (by omega),?_⟩) (fun h h'=>⟨rfl,rfl,hb 2 (by omega),?_⟩) (fun h h'=>⟨rfl,rfl,rfl,hb 3 (by omega),?_⟩) (fun h h'=>⟨rfl,rfl,rfl,rfl,rfl,hb 5 (by omega),?_⟩) (fun h=>⟨rfl,rfl,rfl,rfl,rfl,rfl,rfl,rfl,rfl,hb 9 (by omega),?_⟩)
 ·refine KK (k:=2) (v:=t.size) (t:=t) (R:=fun y=>y=T.v (.string (bL t))) (hd:=[[T.v (.int .u8 _)]]) rfl rfl ?_ rfl
  exact he1 (k:=2) hV rfl (by decide) h
 ·refine KK (k:=2) (v:=t.size) (t:=t) (R:=fun y=>y=T.v (.string (bL t))) (hd:=[[T.v (.int .u8 _)],[T.v (.int .u8 _)]]) rfl rfl ?_ rfl
  exact he2 (k:=2) hV rfl (by decide) rfl h h'
 ·refine KK (k:=2) (v:=t.size) (t:=t) (R:=fun y=>y=T.v (.string (bL t))) (hd:=[[T.v (.int .u8 _)],[T.v (.int .u8 _)],[T.v (.int .u8 _)]]) rfl rfl ?_ rfl
  exact he3 (k:=2) hV rfl (by decide) rfl h h'
 ·refine KK (k:=2) (v:=t.size) (t:=t) (R:=fun y=>y=T.v (.string (bL t))) (hd:=[[T.v (.int .u8 _)],[T.v (.int .u8 _)],[T.v (.int .u8 _)],[T.v (.int .u8 _)],[T.v (.int .u8 _)]]) rfl rfl ?_ rfl
  exact he5 (k:=2) hV rfl (by decide) rfl h h'
 ·refine KK (k:=2) (v:=t.size) (t:=t) (R:=fun y=>y=T.v (.string (bL t))) (hd:=[[T.v (.int .u8 _)],[T.v (.int .u8 _)],[T.v (.int .u8 _)],[T.v (.int .u8 _)],[T.v (.int .u8 _)],[T.v (.int .u8 _)],[T.v (.int .u8 _)],[T.v (.int .u8 _)],[T.v (.int .u8 _)]]) rfl rfl ?_ rfl
  exact he9 (k:=2) hV rfl (by decide) rfl h
theorem CL (l:List Nat):(zK l).size=l.length:=by simp[zK,ByteArray.size]
theorem uP:∀ (n v:Nat),(JC n v).length=n
 | 0,_=>rfl
 | n+1,v=>by simp[JC,uP n]
end Go.Pv
namespace Go.Pv
open Go Go.Proofs
theorem xB {k v:Nat}:(dA k v).length≤9:=by
 unfold dA
 split
 ·simp
 split
 ·simp[uP]
 split
 ·simp[uP]
 split
 ·simp[uP]
 ·simp[uP]
end Go.Pv
namespace Go.Pv
open Go Go.Proofs
noncomputable def UO:Env:=Env.of [(37,.pure iH),(36,.pure cM)]
def U0:FuncId→Hint:=fM 63 [(3,.inv [.val 3 false .str,.val 11 false (.int .i64)])] (fun _=>bW)
theorem LX:aH Tryz.prog UO:=.cons u6 (.cons u7 (.nil _))
def AD (a0:List ByteArray) (R:T→Prop):Prop :=
 aE [(false,Sy.str)]
 (iH [T.v (.int .i64 (↑(List.map Sy.str.enc a0).length:Int))])
 fun (y0:ByteArray) =>
 bM (ByteArray×Int×PUnit)
 (fun (X1:ByteArray×Int×PUnit→Prop) (s2:ByteArray×Int×PUnit) =>
 aF (decide (s2.2.1<(↑(List.map Sy.str.enc a0).length:Int)))
 (a7 Sy.str (List.map Sy.str.enc a0) s2.2.1 fun (y3:ByteArray) =>
 aE [(false,Sy.str)] (cM [T.v (.string y3)]) fun (y4:ByteArray) =>
 aD (decide ((↑(ByteArray.size s2.1+y4.size):Int)≤9223372036854775807))
 (X1 (s2.1++y4,IntKind.i64.wrap (s2.2.1+1),())))
 (R (T.v (.string s2.1))))
 (y0,0,())
abbrev CX:Sh:=[(false,Sy.str.li)]
noncomputable def Z0:Env:=Env.of [(37,.pure iH),(61,.pure fL)]
def AAB:FuncId→Hint:=fM 81 [(3,.inv [.val 3 false .str,.val 11 false (.int .i64)])] (fun _=>bW)
theorem Q4:aH Tryz.prog Z0:=.cons u6 (.cons GZ (.nil _))
def FW (a0:List bI) (R:T→Prop):Prop :=
 aE [(false,Sy.str)]
 (iH [T.v (.int .i64 (↑(List.map aP.enc a0).length:Int))])
 fun (y0:ByteArray) =>
 bM (ByteArray×Int×PUnit)
 (fun (X1:ByteArray×Int×PUnit→Prop) (s2:ByteArray×Int×PUnit) =>
 aF (decide (s2.2.1<(↑(List.map aP.enc a0).length:Int)))
 (a7 aP (List.map aP.enc a0) s2.2.1 fun (y3:bI) =>
 aE [(false,Sy.str)] (fL [T.v (.int .i64 y3.1)])
 fun (y4:ByteArray) =>
 aE [(false,Sy.str)] (fL [T.v (.int .i64 y3.2)])
 fun (y5:ByteArray) =>
 aD (decide ((↑(y4.size+y5.size):Int)≤9223372036854775807))
 (aD (decide ((↑(ByteArray.size s2.1+(y4++y5).size):Int)≤9223372036854775807))
 (X1 (s2.1++(y4++y5),IntKind.i64.wrap (s2.2.1+1),()))))
 (R (T.v (.string s2.1))))
 (y0,0,())
abbrev HU:Sh:=[(false,aP.li)]
def e5 {α:Type} (f:α→ByteArray):List α→ByteArray
 | []=>⟨#[]⟩
 | a::l=>f a++e5 f l
theorem bz (b:ByteArray):b++(⟨#[]⟩:ByteArray)=b:=by
 apply ByteArray.ext
 simp[ByteArray.data_append]
theorem zb (b:ByteArray):(⟨#[]⟩:ByteArray)++b=b:=by
 apply ByteArray.ext
 simp[ByteArray.data_append]
theorem jD {α:Type} (f:α→ByteArray):∀ (a b:List α),e5 f (a++b)=e5 f a++e5 f b
 | [],b=>(zb _).symm
 | x::a,b=>by
  show f x++e5 f (a++b)=f x++e5 f a++e5 f b
  rw[jD f a b,ByteArray.append_assoc]
theorem jW {α:Type} (f:α→ByteArray) (M:Nat):∀ (l:List α),(∀ x∈l,(f x).size≤M)→(e5 f l).size≤l.length*M
 | [],_=>by show 0≤_;omega
 | x::l,h=>by
  have h1:=h x List.mem_cons_self
  have h2:=jW f M l fun y hy=>h y (List.mem_cons_of_mem _ hy)
  show (f x++e5 f l).size≤_
  rw[ByteArray.size_append,List.length_cons,Nat.add_mul]
  omega
theorem uR {r:Sy} (L:List r.den) (f:r.den→ByteArray) (M:Nat) (hM:∀ x∈L,(f x).size≤M) (hl:L.length≤2 ^ 47) {y0:ByteArray} (hsz:y0.size+L.length*M≤4611686018427387904)
  {Body:(ByteArray×Int×PUnit→Prop)→ByteArray×Int×PUnit→r.den→Prop} {R:ByteArray×Int×PUnit→Prop}
  (hB:∀ (X:ByteArray×Int×PUnit→Prop) (s:ByteArray) (k:Nat) (h:k<L.length),s.size≤4611686018427387904→X (s++f L[k],IntKind.i64.wrap ((k:Int)+1),())→Body X (s,(k:Int),()) L[k]) (h:R (y0++e5 f L,(L.length:Int),())) :
  bM (ByteArray×Int×PUnit) (fun X s=>aF (decide (s.2.1<((List.map r.enc L).length:Int))) (a7 r (List.map r.enc L) s.2.1 fun y=>Body X s y) (R s)) (y0,0,()):=by
 refine cS L.length (fun k s=>s=(y0++e5 f (L.take k),(k:Int),())) ?_ ?_
 ·show (y0,(0:Int),())=(y0++e5 f [],((0:Nat):Int),())
  rw[show e5 f []=⟨#[]⟩ from rfl,bz];rfl
 rintro X k s hk rfl hX
 dsimp only
 rw[List.length_map]
 refine eP (fun hlt=>?_) fun hge=>?_
 ·have hlt:k<L.length:=by omega
  rw[cK hlt]
  refine hB X _ k hlt ?_ (hX _ hlt ?_)
  ·have h1:=jW f M (L.take k) fun x hx=>hM x (List.mem_of_mem_take hx)
   have h2:(L.take k).length*M≤L.length*M:=Nat.mul_le_mul_right _ (by rw[List.length_take];omega)
   rw[ByteArray.size_append]
   omega
  ·rw[List.take_add_one,List.getElem?_eq_getElem hlt,jD,←ByteArray.append_assoc]
   have hw:IntKind.i64.wrap ((k:Int)+1)=((k+1:Nat):Int):=by rw[cX]<;>omega
   rw[hw]
   show (_,_,_)=(_++(f L[k]++⟨#[]⟩),_,_)
   rw[bz]
 ·have:k=L.length:=by omega
  subst this
  rw[List.take_length];exact h
theorem ACO {a b:Nat} (h1:a≤4611686018427387904) (h2:b≤4611686018427387903):decide (((a+b:Nat):Int)≤9223372036854775807)=true:=decide_eq_true (by omega)
theorem bC (n:Int):(cJ n).size≤9:=by
 unfold cJ
 split <;> · rw[CL];exact xB
theorem iY (n:Int):(dK n).size≤9:=by
 unfold dK
 split
 ·show 0≤9;omega
 ·rw[CL];exact xB
theorem uG (t:ByteArray):(bL t).size≤9+t.size:=by
 unfold bL
 rw[ByteArray.size_append,CL]
 have:=xB (k:=2) (v:=t.size)
 omega
def r9 (l:List ByteArray):ByteArray:=dK l.length++e5 bL l
def nH (l:List bI):ByteArray:=dK l.length++e5 (fun p:bI=>cJ p.1++cJ p.2) l
def jG (t:ByteArray):Bool:=decide (t.size≤1048576)
def CO (l:List ByteArray):Bool:=decide (l.length≤1000000)&&l.all jG
def mA (l:List ByteArray):Option T:=match CO l with
 | true=>some (.v (.string (r9 l)))
 | false=>none
noncomputable def j8:List T→Option T:=gS CX mA
theorem JY {a0}:j8 [T.sl false (List.map Sy.str.enc a0)]=mA (a0):=cG (s:=CX) rfl (a0) rfl
theorem TF:RO Tryz.prog 63 j8 mA (fF CX) AD:=xL (a1:=(false,Sy.str.li)) (sp:=mA) (F:=AD) (Hs:=U0) (f:=63) (k:=8) LX bA bJ (aX rfl) ⟨_,_,Tryz.func63,rfl⟩ rfl fun _ _=>by kernel_rfl
theorem SD:aZ Tryz.prog 63 j8:=TF fun l r h hb=>by
 clear hb
 obtain ⟨hs,rfl⟩:=YM h
 clear h
 simp only[CO,Bool.and_eq_true,decide_eq_true_eq,List.all_eq_true] at hs
 obtain ⟨hl,ha⟩:=hs
 have ha:∀ x∈l,x.size≤1048576:=fun x hx=>of_decide_eq_true (ha x hx)
 unfold AD
 refine aM (s:=[(false,Sy.str)]) (y:=dK ((List.map Sy.str.enc l).length:Int)) (mR ..) ?_
 have h0:=iY ((List.map Sy.str.enc l).length:Int)
 refine uR (r:=.str) l bL 1048585 (fun x hx=>by have:=uG x;have:=ha x hx;omega) (by omega) (by omega) (R:=fun s=>T.v (.string s.1)=T.v (.string (r9 l))) (fun X s k h hz hX=>?_) (by rw[List.length_map];rfl)
 have hk:l[k].size≤1048576:=ha _ (List.getElem_mem h)
 refine aM (s:=[(false,Sy.str)]) (y:=bL l[k]) ((sS ..).trans ?_) ⟨?_,hX⟩
 ·unfold kP
  rw[decide_eq_true (by omega:l[k].size≤1099511627776)];rfl
 ·have:=uG l[k]
  exact ACO hz (by omega)
def wC (l:List bI):Option T:=some (.v (.string (nH l)))
noncomputable def mQ:List T→Option T:=gS HU wC
theorem NC {a0}:mQ [T.sl false (List.map aP.enc a0)]=wC (a0):=cG (s:=HU) rfl (a0) rfl
theorem XU:RO Tryz.prog 81 mQ wC (fF HU) FW:=xL (a1:=(false,aP.li)) (sp:=wC) (F:=FW) (Hs:=AAB) (f:=81) (k:=8) Q4 bA bJ (aX rfl) ⟨_,_,Tryz.func81,rfl⟩ rfl fun _ _=>by kernel_rfl
theorem V8:aZ Tryz.prog 81 mQ:=XU fun l r h hb=>by
 have hl:l.length≤2 ^ 47:=hb.1
 clear hb
 cases h
 unfold FW
 refine aM (s:=[(false,Sy.str)]) (y:=dK ((List.map aP.enc l).length:Int)) (mR ..) ?_
 have h0:=iY ((List.map aP.enc l).length:Int)
 refine uR (r:=aP) l (fun p:bI=>cJ p.1++cJ p.2) 18 (fun x hx=>by have:=bC x.1;have:=bC x.2;rw[ByteArray.size_append];omega) hl (by omega) (R:=fun s=>T.v (.string s.1)=T.v (.string (nH l))) (fun X s k h hz hX=>?_) (by rw[List.length_map];rfl)
 refine aM (s:=[(false,Sy.str)]) (y:=cJ (show bI from l[k]).1) (pN ..) ?_
 refine aM (s:=[(false,Sy.str)]) (y:=cJ (show bI from l[k]).2) (pN ..) ⟨?_,?_,hX⟩
 ·have:=bC (show bI from l[k]).1
  have:=bC (show bI from l[k]).2
  exact ACO (by omega) (by omega)
 ·have:=bC (show bI from l[k]).1
  have:=bC (show bI from l[k]).2
  exact ACO hz (by rw[ByteArray.size_append];omega)
end Go.Pv
namespace Go.Pv
open Go Go.Proofs
def nW (a0:List Int):List T:=[T.sl true (List.map (Sy.enc (.int .i64)) a0)]
noncomputable def LV:Env:=Env.of [(61,.pure fL)]
def U1:FuncId→Hint:=fM 80 [(3,.inv [.val 3 false .str,.val 8 false (.int .i64)])] (fun _=>bW)
theorem UX:aH Tryz.prog LV:=.cons GZ (.nil _)
def MB (a0:List Int) (R:T→Prop):Prop :=
 bM (ByteArray×Int×PUnit)
 (fun (X0:ByteArray×Int×PUnit→Prop) (s1:ByteArray×Int×PUnit) =>
 aF (decide (s1.2.1<(↑(List.map (Sy.int IntKind.i64).enc a0).length:Int)))
 (a7 (Sy.int IntKind.i64) (List.map (Sy.int IntKind.i64).enc a0) s1.2.1
 fun (y2:Int) =>
 aE [(false,Sy.str)] (fL [T.v (.int .i64 y2)])
 fun (y3:ByteArray) =>
 aD (decide ((↑(ByteArray.size s1.1+y3.size):Int)≤9223372036854775807))
 (X0 (s1.1++y3,IntKind.i64.wrap (s1.2.1+1),())))
 (R (T.v (.string s1.1))))
 ({ data:=#[] },0,())
theorem RJ ( a0 R):yP b9 Tryz.prog LV U1 8 80 (nW a0) R=MB a0 R:=by kernel_rfl
theorem LU (x y:List Int) (h:nW x=nW y):x=y:=by
 simp only[nW,List.cons.injEq,T.sl.injEq,and_true,true_and] at h
 exact map_inj (Sy.gH (.int .i64)) h
def zT (l:List Int):Option T:=match decide (l.length≤1000000) with
 | true=>some (.v (.string (e5 cJ l)))
 | false=>none
noncomputable def oN:List T→Option (T):=gA (fun (x:List Int)=>nW x) zT
theorem SQ (a0:List Int):oN (nW a0)=zT a0:=AC2 (A:=(fun (x:List Int)=>nW x)) LU a0
theorem AB7 (h:∀ (a0:List Int) (r:T),zT a0=some r→(∀ t∈nW a0,Bd t)→MB a0 (fun y=>y=r)):aZ Tryz.prog 80 oN :=
 K2 (E:=LV) (Hs:=U1) UX bA bJ (aX rfl) 8 ⟨_,_,Tryz.func80,rfl⟩ fun x r h1 h2=>by
  rw[RJ]
  exact h x r h1 h2
theorem ABI:aZ Tryz.prog 80 oN:=AB7 fun l r h hb=>by
 clear hb
 obtain ⟨hs,rfl⟩:=YM h
 clear h
 have hs:l.length≤1000000:=of_decide_eq_true hs
 unfold MB
 have z:T.v (.string ((⟨#[]⟩:ByteArray)++e5 cJ l))=T.v (.string (e5 cJ l)):=by rw[zb]
 refine uR (r:=.int .i64) l cJ 9 (fun x _=>bC x) (by omega) (by show 0+_≤_;omega) (R:=fun s=>T.v (.string s.1)=T.v (.string (e5 cJ l))) (fun X s k h hz hX=>?_) z
 refine aM (s:=[(false,Sy.str)]) (y:=cJ l[k]) (pN ..) ⟨ACO hz (by have:=bC l[k];omega),hX⟩
theorem dQ {a:Option T} {v:ByteArray} {K:ByteArray→Prop} (M:Nat) (h:a=some (Sh.enc [(false,Sy.str)] v)) (hM:v.size≤M) (hk:∀ y:ByteArray,y=v→y.size≤M→K y):aE [(false,Sy.str)] a K:=⟨v,h,hk v rfl hM⟩
theorem rq {a b:Nat} {K:Prop} (h:a+b≤9223372036854775807) (hk:K):aD (decide (((a+b:Nat):Int)≤9223372036854775807)) K:=⟨decide_eq_true (by omega),hk⟩
theorem YK {t:ByteArray} (h:jG t=true):t.size≤1048576:=of_decide_eq_true h
theorem sT {t:ByteArray} (h:jG t=true):(bL t).size≤1048585:=by
 have:=uG t
 have:=YK h
 omega
theorem j5 {l:List bI} (h:l.length≤1000000):(nH l).size≤18000009:=by
 unfold nH
 have h1:=iY (l.length:Int)
 have h2:=jW (fun p:bI=>cJ p.1++cJ p.2) 18 l fun x _=>by
  have:=bC x.1
  have:=bC x.2
  rw[ByteArray.size_append];omega
 rw[ByteArray.size_append]
 omega
theorem CE {l:List ByteArray} (h:CO l=true):(r9 l).size≤1048585000009:=by
 simp only[CO,Bool.and_eq_true,decide_eq_true_eq,List.all_eq_true] at h
 unfold r9
 have h1:=iY (l.length:Int)
 have h2:=jW bL 1048585 l fun x hx=>sT (h.2 x hx)
 have h3:l.length*1048585≤1000000*1048585:=Nat.mul_le_mul_right _ h.1
 rw[ByteArray.size_append]
 omega
theorem NT {t:ByteArray} (h:jG t=true):cM [T.v (.string t)]=some (Sh.enc [(false,Sy.str)] (bL t)):=(sS ..).trans (by
 unfold kP
 rw[decide_eq_true (by have:=YK h;omega:t.size≤1099511627776)];rfl)
theorem kcI (n:Int):fL [T.v (.int .i64 n)]=some (Sh.enc [(false,Sy.str)] (cJ n)):=pN ..
theorem kcL (n:Int):iH [T.v (.int .i64 n)]=some (Sh.enc [(false,Sy.str)] (dK n)):=mR ..
theorem kcC (l:List bI):mQ [T.sl false (List.map aP.enc l)]=some (Sh.enc [(false,Sy.str)] (nH l)):=NC ..
theorem kcX {l:List ByteArray} (h:CO l=true):j8 [T.sl false (List.map Sy.str.enc l)]=some (Sh.enc [(false,Sy.str)] (r9 l)):=(JY ..).trans (by
 unfold mA
 rw[h];rfl)
theorem kcN (l:List Int) (h:l.length≤1000000):oN [T.sl true (List.map (Sy.enc (.int .i64)) l)]=some (Sh.enc [(false,Sy.str)] (e5 cJ l)):=(SQ l).trans (by
 unfold zT
 rw[decide_eq_true h];rfl)
theorem sN (l:List Int):(e5 cJ l).size≤l.length*9:=jW cJ 9 l fun x _=>bC x
def UD (v:GD):ByteArray:=cJ v.1++(cJ v.2.1++cJ v.2.2)
def OL (s:List bI×List (List bI)):ByteArray:=nH s.1++(dK s.2.length++e5 nH s.2)
def yM (p:iC):ByteArray:=bL p.1++(cJ p.2.1++(cJ p.2.2.1++(bL p.2.2.2.1++(bL p.2.2.2.2.1++(cJ p.2.2.2.2.2.1++(OL p.2.2.2.2.2.2.1++(bL p.2.2.2.2.2.2.2.1++(cJ p.2.2.2.2.2.2.2.2.1++(cJ p.2.2.2.2.2.2.2.2.2.1++(UD p.2.2.2.2.2.2.2.2.2.2.1++(UD p.2.2.2.2.2.2.2.2.2.2.2.1++cJ p.2.2.2.2.2.2.2.2.2.2.2.2)))))))))))
def KZ (p:iC):Bool:=jG p.1&&jG p.2.2.2.1&&jG p.2.2.2.2.1&&jG p.2.2.2.2.2.2.2.1&&decide (p.2.2.2.2.2.2.1.1.length≤1000000)&&decide (p.2.2.2.2.2.2.1.2.length≤1000000)&&p.2.2.2.2.2.2.1.2.all fun h=>decide (h.length≤1000000)
noncomputable def Z3:Env:=Env.of [(36,.pure cM),(37,.pure iH),(80,.pure oN),(81,.pure mQ)]
def AAE:FuncId→Hint:=fM 62 [(3,.inv [.val 3 false .str,.val 44 false (.int .i64)])] (fun _=>bW)
theorem Q7:aH Tryz.prog Z3:=.cons u7 (.cons u6 (.cons ABI (.cons V8 (.nil _))))
def FZ (a0:iC) (R:T→Prop):Prop :=
 aE [(false,Sy.str)] (cM [T.v (.string a0.1)]) fun (y0:ByteArray) =>
 aE [(false,Sy.str)]
 (oN
 [T.sl true
 [[T.v (.int .i64 a0.2.1)],
 [T.v (.int .i64 a0.2.2.1)]]])
 fun (y1:ByteArray) =>
 aD (decide ((↑(y0.size+y1.size):Int)≤9223372036854775807))
 (aE [(false,Sy.str)] (cM [T.v (.string a0.2.2.2.1)])
 fun (y2:ByteArray) =>
 aD (decide ((↑((y0++y1).size+y2.size):Int)≤9223372036854775807))
 (aE [(false,Sy.str)] (cM [T.v (.string a0.2.2.2.2.1)])
 fun (y3:ByteArray) =>
 aD (decide ((↑((y0++y1++y2).size+y3.size):Int)≤9223372036854775807))
 (aE [(false,Sy.str)]
 (oN [T.sl true [[T.v (.int .i64 a0.2.2.2.2.2.1)]]])
 fun (y4:ByteArray) =>
 aD (decide ((↑((y0++y1++y2++y3).size+y4.size):Int)≤9223372036854775807))
 (aE [(false,Sy.str)]
 (mQ [T.sl false (List.map aP.enc a0.2.2.2.2.2.2.1.1)])
 fun (y5:ByteArray) =>
 aD (decide ((↑((y0++y1++y2++y3++y4).size+y5.size):Int)≤9223372036854775807))
 (aE [(false,Sy.str)]
 (iH
 [T.v (.int .i64 (↑(List.map aP.li.enc a0.2.2.2.2.2.2.1.2).length:Int))])
 fun (y6:ByteArray) =>
 aD
 (decide ((↑((y0++y1++y2++y3++y4++y5).size+y6.size):Int)≤9223372036854775807))
 (bM (ByteArray×Int×PUnit)
 (fun (X7:ByteArray×Int×PUnit→Prop) (s8:ByteArray×Int×PUnit) =>
 aF
 (decide
 (s8.2.1 <
 (↑(List.map aP.li.enc a0.2.2.2.2.2.2.1.2).length:Int)))
 (a7 aP.li
 (List.map aP.li.enc a0.2.2.2.2.2.2.1.2) s8.2.1
 fun (y9:List bI) =>
 aE [(false,Sy.str)]
 (mQ [T.sl false (List.map aP.enc y9)])
 fun (y10:ByteArray) =>
 aD
 (decide ((↑(ByteArray.size s8.1+y10.size):Int)≤9223372036854775807))
 (X7 (s8.1++y10,IntKind.i64.wrap (s8.2.1+1),())))
 (aE [(false,Sy.str)]
 (cM [T.v (.string a0.2.2.2.2.2.2.2.1)])
 fun (y11:ByteArray) =>
 aD
 (decide ((↑(ByteArray.size s8.1+y11.size):Int)≤9223372036854775807))
 (aE [(false,Sy.str)]
 (oN
 [T.sl true
 [[T.v (.int .i64 a0.2.2.2.2.2.2.2.2.1)],
 [T.v (.int .i64 a0.2.2.2.2.2.2.2.2.2.1)],
 [T.v (.int .i64 a0.2.2.2.2.2.2.2.2.2.2.1.1)],
 [T.v (.int .i64 a0.2.2.2.2.2.2.2.2.2.2.1.2.1)],
 [T.v (.int .i64 a0.2.2.2.2.2.2.2.2.2.2.1.2.2)],
 [T.v (.int .i64 a0.2.2.2.2.2.2.2.2.2.2.2.1.1)],
 [T.v (.int .i64 a0.2.2.2.2.2.2.2.2.2.2.2.1.2.1)],
 [T.v (.int .i64 a0.2.2.2.2.2.2.2.2.2.2.2.1.2.2)],
 [T.v (.int .i64 a0.2.2.2.2.2.2.2.2.2.2.2.2)]]])
 fun (y12:ByteArray) =>
 aD
 (decide ((↑((s8.1++y11).size+y12.size):Int)≤9223372036854775807))
 (R (T.v (.string (s8.1++y11++y12)))))))
 (y0++y1++y2++y3++y4++y5++y6,0,())))))))
abbrev HX:Sh:=[(true,sG)]
def o8 (p:iC):Option T:=match KZ p with
 | true=>some (.v (.string (yM p)))
 | false=>none
noncomputable def pO:List T→Option T:=gS HX o8
theorem NF {a0}:pO [aG true sG a0]=o8 (a0):=cG (s:=HX) rfl (a0) rfl
theorem XX:RO Tryz.prog 62 pO o8 (fF HX) FZ:=xL (a1:=(true,sG)) (sp:=o8) (F:=FZ) (Hs:=AAE) (f:=62) (k:=8) Q7 bA bJ (aX rfl) ⟨_,_,Tryz.func62,rfl⟩ rfl fun _ _=>by kernel_rfl
structure AFY (p:iC):Prop where
 a:jG p.1=true
 b:jG p.2.2.2.1=true
 c:jG p.2.2.2.2.1=true
 d:jG p.2.2.2.2.2.2.2.1=true
 o:p.2.2.2.2.2.2.1.1.length≤1000000
 h:p.2.2.2.2.2.2.1.2.length≤1000000
 e:∀ x∈p.2.2.2.2.2.2.1.2,x.length≤1000000
theorem K0 {p:iC} (h:KZ p=true):AFY p:=by
 simp only[KZ,Bool.and_eq_true,decide_eq_true_eq,List.all_eq_true] at h
 exact ⟨h.1.1.1.1.1.1,h.1.1.1.1.1.2,h.1.1.1.1.2,h.1.1.1.2,h.1.1.2,h.1.2,h.2⟩
theorem FN (v:GD):(UD v).size≤27:=by
 unfold UD
 have:=bC v.1
 have:=bC v.2.1
 have:=bC v.2.2
 rw[ByteArray.size_append,ByteArray.size_append]
 omega
theorem CA {l:List (List bI)} (h:l.length≤1000000) (he:∀ x∈l,x.length≤1000000):(e5 nH l).size≤18000009000000:=by
 have h2:=jW nH 18000009 l fun x hx=>j5 (he x hx)
 have h3:l.length*18000009≤1000000*18000009:=Nat.mul_le_mul_right _ h
 omega
theorem N7 {p:iC} (c:AFY p):(yM p).size≤20000000000000:=by
 unfold yM OL
 simp only[ByteArray.size_append]
 have:=sT c.a
 have:=sT c.b
 have:=sT c.c
 have:=sT c.d
 have:=bC p.2.1
 have:=bC p.2.2.1
 have:=bC p.2.2.2.2.2.1
 have:=j5 c.o
 have:=iY (p.2.2.2.2.2.2.1.2.length:Int)
 have:=CA c.h c.e
 have:=bC p.2.2.2.2.2.2.2.2.1
 have:=bC p.2.2.2.2.2.2.2.2.2.1
 have:=FN p.2.2.2.2.2.2.2.2.2.2.1
 have:=FN p.2.2.2.2.2.2.2.2.2.2.2.1
 have:=bC p.2.2.2.2.2.2.2.2.2.2.2.2
 omega
theorem V9:aZ Tryz.prog 62 pO:=XX fun p r h hb=>by
 clear hb
 obtain ⟨hs,rfl⟩:=YM h
 clear h
 have c:=K0 hs
 unfold FZ
 refine dQ 1048585 (NT c.a) (sT c.a) fun y0 h0 s0=>?_
 refine dQ 18 (kcN [p.2.1,p.2.2.1] (by simp)) (sN _) fun y1 h1 s1=>rq (by omega) ?_
 refine dQ 1048585 (NT c.b) (sT c.b) fun y2 h2 s2=>rq (by simp only[ByteArray.size_append];omega) ?_
 refine dQ 1048585 (NT c.c) (sT c.c) fun y3 h3 s3=>rq (by simp only[ByteArray.size_append];omega) ?_
 refine dQ 9 (kcN [p.2.2.2.2.2.1] (by simp)) (sN _) fun y4 h4 s4=>rq (by simp only[ByteArray.size_append];omega) ?_
 refine dQ 18000009 (kcC _) (j5 c.o) fun y5 h5 s5=>rq (by simp only[ByteArray.size_append];omega) ?_
 refine dQ 9 (kcL _) (iY _) fun y6 h6 s6=>rq (by simp only[ByteArray.size_append];omega) ?_
 refine uR (r:=.li aP) p.2.2.2.2.2.2.1.2 nH 18000009 (fun x hx=>j5 (c.e x hx)) (by have:=c.h;omega) (by
  have:=c.h
  have h3:p.2.2.2.2.2.2.1.2.length*18000009≤1000000*18000009:=Nat.mul_le_mul_right _ c.h
  simp only[ByteArray.size_append]
  omega) (fun X s k h hz hX=>?_) ?_
 ·refine dQ 18000009 (kcC _) (j5 (c.e _ (List.getElem_mem h))) fun y h1 s1=>rq (by dsimp only;omega) ?_
  subst h1
  exact hX
 have hh:=CA c.h c.e
 dsimp only
 generalize hcat:e5 nH p.2.2.2.2.2.2.1.2=cat at hh ⊢
 refine dQ 1048585 (NT c.d) (sT c.d) fun y7 h7 s7=>rq (by simp only[ByteArray.size_append];omega) ?_
 refine dQ 81 (kcN [p.2.2.2.2.2.2.2.2.1,p.2.2.2.2.2.2.2.2.2.1,p.2.2.2.2.2.2.2.2.2.2.1.1,p.2.2.2.2.2.2.2.2.2.2.1.2.1,p.2.2.2.2.2.2.2.2.2.2.1.2.2,p.2.2.2.2.2.2.2.2.2.2.2.1.1,p.2.2.2.2.2.2.2.2.2.2.2.1.2.1,p.2.2.2.2.2.2.2.2.2.2.2.1.2.2,p.2.2.2.2.2.2.2.2.2.2.2.2] (by simp)) (sN _) fun y8 h8 s8=>rq (by simp only[ByteArray.size_append];omega) ?_
 subst h0 h1 h2 h3 h4 h5 h6 h7 h8 hcat
 rw[List.length_map]
 unfold yM OL UD
 simp only[e5,bz,ByteArray.append_assoc]
end Go.Pv
namespace Go.Pv
open Go Go.Proofs
noncomputable def Z1:Env:=Env.of [(61,.pure fL),(36,.pure cM),(62,.pure pO),(63,.pure j8)]
def AAC:FuncId→Hint:=fun _=>bW
theorem Q5:aH Tryz.prog Z1:=.cons GZ (.cons u7 (.cons V9 (.cons SD (.nil _))))
def FX (a0:bD) (R:T→Prop):Prop :=
 aE [(false,Sy.str)] (fL [T.v (.int .i64 a0.1)])
 fun (y0:ByteArray) =>
 aE [(false,Sy.str)] (cM [T.v (.string a0.2.1)]) fun (y1:ByteArray) =>
 aD (decide ((↑(y0.size+y1.size):Int)≤9223372036854775807))
 (aE [(false,Sy.str)] (cM [T.v (.string a0.2.2.1)])
 fun (y2:ByteArray) =>
 aD (decide ((↑((y0++y1).size+y2.size):Int)≤9223372036854775807))
 (aE [(false,Sy.str)] (cM [T.v (.string a0.2.2.2.1.1)])
 fun (y3:ByteArray) =>
 aE [(false,Sy.str)]
 (fL [T.v (.int .i64 a0.2.2.2.1.2.1)])
 fun (y4:ByteArray) =>
 aD (decide ((↑(y3.size+y4.size):Int)≤9223372036854775807))
 (aE [(false,Sy.str)]
 (cM [T.v (.string a0.2.2.2.1.2.2)]) fun (y5:ByteArray) =>
 aD (decide ((↑((y3++y4).size+y5.size):Int)≤9223372036854775807))
 (aD
 (decide ((↑((y0++y1++y2).size+(y3++y4++y5).size):Int)≤9223372036854775807))
 (aE [(false,Sy.str)]
 (pO [aG true sG a0.2.2.2.2.1]) fun (y6:ByteArray) =>
 aD
 (decide
 ((↑((y0++y1++y2++(y3++y4++y5)).size+y6.size):Int)≤9223372036854775807))
 (aE [(false,Sy.str)]
 (cM [T.v (.string a0.2.2.2.2.2.1.1)])
 fun (y7:ByteArray) =>
 aE [(false,Sy.str)]
 (cM [T.v (.string a0.2.2.2.2.2.1.2.1)])
 fun (y8:ByteArray) =>
 aD (decide ((↑(y7.size+y8.size):Int)≤9223372036854775807))
 (aE [(false,Sy.str)]
 (cM [T.v (.string a0.2.2.2.2.2.1.2.2.1)])
 fun (y9:ByteArray) =>
 aD (decide ((↑((y7++y8).size+y9.size):Int)≤9223372036854775807))
 (aE [(false,Sy.str)]
 (fL
 [T.v (.int .i64 a0.2.2.2.2.2.1.2.2.2.1)])
 fun (y10:ByteArray) =>
 aD
 (decide ((↑((y7++y8++y9).size+y10.size):Int)≤9223372036854775807))
 (aE [(false,Sy.str)]
 (fL
 [T.v (.int .i64 a0.2.2.2.2.2.1.2.2.2.2.1)])
 fun (y11:ByteArray) =>
 aD
 (decide
 ((↑((y7++y8++y9++y10).size+y11.size):Int) ≤
 9223372036854775807))
 (aE [(false,Sy.str)]
 (fL
 [T.v (.int .i64 a0.2.2.2.2.2.1.2.2.2.2.2)])
 fun (y12:ByteArray) =>
 aD
 (decide
 ((↑((y7++y8++y9++y10++y11).size+y12.size):Int) ≤
 9223372036854775807))
 (aD
 (decide
 ((↑((y0++y1++y2++(y3++y4++y5)++y6).size +
 (y7++y8++y9++y10++y11++y12).size) :
 Int) ≤
 9223372036854775807))
 (aE [(false,Sy.str)]
 (cM
 [T.v (.string a0.2.2.2.2.2.2.1.1)])
 fun (y13:ByteArray) =>
 aE [(false,Sy.str)]
 (cM
 [T.v (.string a0.2.2.2.2.2.2.1.2.1)])
 fun (y14:ByteArray) =>
 aD
 (decide ((↑(y13.size+y14.size):Int)≤9223372036854775807))
 (aE [(false,Sy.str)]
 (j8
 [T.sl false
 (List.map Sy.str.enc
 a0.2.2.2.2.2.2.1.2.2.1)])
 fun (y15:ByteArray) =>
 aD
 (decide
 ((↑((y13++y14).size+y15.size):Int) ≤
 9223372036854775807))
 (aE [(false,Sy.str)]
 (fL
 [T.v (.int .i64 a0.2.2.2.2.2.2.1.2.2.2.1)])
 fun (y16:ByteArray) =>
 aD
 (decide
 ((↑((y13++y14++y15).size+y16.size):Int) ≤
 9223372036854775807))
 (aE [(false,Sy.str)]
 (j8
 [T.sl false
 (List.map Sy.str.enc
 a0.2.2.2.2.2.2.1.2.2.2.2)])
 fun (y17:ByteArray) =>
 aD
 (decide
 ((↑((y13++y14++y15++y16).size+y17.size) :
 Int) ≤
 9223372036854775807))
 (aD
 (decide
 ((↑((y0++y1++y2++(y3++y4++y5)++y6 ++
 (y7++y8++y9++y10++y11 ++
 y12)).size +
 (y13++y14++y15++y16 ++
 y17).size) :
 Int) ≤
 9223372036854775807))
 (aE [(false,Sy.str)]
 (fL
 [T.v (.int .i64 a0.2.2.2.2.2.2.2.1)])
 fun (y18:ByteArray) =>
 aD
 (decide
 ((↑((y0++y1++y2++(y3++y4++y5) ++
 y6 ++
 (y7++y8++y9++y10 ++
 y11 ++
 y12) ++
 (y13++y14++y15++y16 ++
 y17)).size +
 y18.size) :
 Int) ≤
 9223372036854775807))
 (aE [(false,Sy.str)]
 (cM
 [T.v (.string a0.2.2.2.2.2.2.2.2.1)])
 fun (y19:ByteArray) =>
 aD
 (decide
 ((↑((y0++y1++y2 ++
 (y3++y4++y5) ++
 y6 ++
 (y7++y8++y9 ++
 y10 ++
 y11 ++
 y12) ++
 (y13++y14++y15 ++
 y16 ++
 y17) ++
 y18).size +
 y19.size) :
 Int) ≤
 9223372036854775807))
 (aE [(false,Sy.str)]
 (cM
 [T.v (.string a0.2.2.2.2.2.2.2.2.2)])
 fun (y20:ByteArray) =>
 aD
 (decide
 ((↑((y0++y1++y2 ++
 (y3++y4 ++
 y5) ++
 y6 ++
 (y7++y8++y9 ++
 y10 ++
 y11 ++
 y12) ++
 (y13++y14 ++
 y15 ++
 y16 ++
 y17) ++
 y18 ++
 y19).size +
 y20.size) :
 Int) ≤
 9223372036854775807))
 (R
 (T.v (.string (y0++y1++y2 ++
 (y3++y4 ++
 y5) ++
 y6 ++
 (y7++y8++y9 ++
 y10 ++
 y11 ++
 y12) ++
 (y13++y14++y15 ++
 y16 ++
 y17) ++
 y18 ++
 y19 ++
 y20)))))))))))))))))))))))
abbrev HV:Sh:=[(true,aR)]
def iA (x:bD):ByteArray:=cJ x.1++(bL x.2.1++(bL x.2.2.1++(bL x.2.2.2.1.1++(cJ x.2.2.2.1.2.1++(bL x.2.2.2.1.2.2++(yM x.2.2.2.2.1++(bL x.2.2.2.2.2.1.1++(bL x.2.2.2.2.2.1.2.1++(bL x.2.2.2.2.2.1.2.2.1++(cJ x.2.2.2.2.2.1.2.2.2.1++(cJ x.2.2.2.2.2.1.2.2.2.2.1++(cJ x.2.2.2.2.2.1.2.2.2.2.2++(bL x.2.2.2.2.2.2.1.1++(bL x.2.2.2.2.2.2.1.2.1++(r9 x.2.2.2.2.2.2.1.2.2.1++(cJ x.2.2.2.2.2.2.1.2.2.2.1++(r9 x.2.2.2.2.2.2.1.2.2.2.2++(cJ x.2.2.2.2.2.2.2.1++(bL x.2.2.2.2.2.2.2.2.1++(bL x.2.2.2.2.2.2.2.2.2))))))))))))))))))))
structure AHX (x:bD):Prop where
 s0:jG x.2.1=true
 s1:jG x.2.2.1=true
 s2:jG x.2.2.2.1.1=true
 s3:jG x.2.2.2.1.2.2=true
 s4:jG x.2.2.2.2.2.1.1=true
 s5:jG x.2.2.2.2.2.1.2.1=true
 s6:jG x.2.2.2.2.2.1.2.2.1=true
 s7:jG x.2.2.2.2.2.2.1.1=true
 s8:jG x.2.2.2.2.2.2.1.2.1=true
 s9:jG x.2.2.2.2.2.2.2.2.1=true
 s10:jG x.2.2.2.2.2.2.2.2.2=true
 l1:CO x.2.2.2.2.2.2.1.2.2.1=true
 l2:CO x.2.2.2.2.2.2.1.2.2.2.2=true
 p:KZ x.2.2.2.2.1=true
def zA (x:bD):Bool:=[x.2.1,x.2.2.1,x.2.2.2.1.1,x.2.2.2.1.2.2,x.2.2.2.2.2.1.1,x.2.2.2.2.2.1.2.1,x.2.2.2.2.2.1.2.2.1,x.2.2.2.2.2.2.1.1,x.2.2.2.2.2.2.1.2.1,x.2.2.2.2.2.2.2.2.1,x.2.2.2.2.2.2.2.2.2].all jG&&(CO x.2.2.2.2.2.2.1.2.2.1&&(CO x.2.2.2.2.2.2.1.2.2.2.2&&KZ x.2.2.2.2.1))
theorem YG {x:bD} (h:zA x=true):AHX x:=by
 simp only[zA,Bool.and_eq_true,List.all_cons,List.all_nil,and_true] at h
 obtain ⟨⟨s0,s1,s2,s3,s4,s5,s6,s7,s8,s9,s10⟩,l1,l2,p⟩:=h
 exact ⟨s0,s1,s2,s3,s4,s5,s6,s7,s8,s9,s10,l1,l2,p⟩
theorem kcP {p:iC} (h:KZ p=true):pO [aG true sG p]=some (Sh.enc [(false,Sy.str)] (yM p)):=(NF ..).trans (by
 unfold o8
 rw[h];rfl)
def o7 (x:bD):Option T:=match zA x with
 | true=>some (.v (.string (iA x)))
 | false=>none
noncomputable def G2:List T→Option T:=gS HV o7
theorem ND {a0}:G2 [aG true aR a0]=o7 (a0):=cG (s:=HV) rfl (a0) rfl
theorem XV:RO Tryz.prog 38 G2 o7 (fF HV) FX:=xL (a1:=(true,aR)) (sp:=o7) (F:=FX) (Hs:=AAC) (f:=38) (k:=8) Q5 bA bJ (aX rfl) ⟨_,_,Tryz.func38,rfl⟩ rfl fun _ _=>by kernel_rfl
theorem JQ:aZ Tryz.prog 38 G2:=XV fun x r h hb=>by
 clear hb
 obtain ⟨hs,rfl⟩:=YM h
 clear h
 have c:=YG hs
 unfold FX
 refine dQ 9 (kcI _) (bC _) fun y0 h0 z0=>?_
 refine dQ 1048585 (NT c.s0) (sT c.s0) fun y1 h1 z1=>rq (by (try simp only[ByteArray.size_append]);omega) (?_)
 refine dQ 1048585 (NT c.s1) (sT c.s1) fun y2 h2 z2=>rq (by (try simp only[ByteArray.size_append]);omega) (?_)
 refine dQ 1048585 (NT c.s2) (sT c.s2) fun y3 h3 z3=>?_
 refine dQ 9 (kcI _) (bC _) fun y4 h4 z4=>rq (by (try simp only[ByteArray.size_append]);omega) (?_)
 refine dQ 1048585 (NT c.s3) (sT c.s3) fun y5 h5 z5=>rq (by (try simp only[ByteArray.size_append]);omega) (rq (by (try simp only[ByteArray.size_append]);omega) (?_))
 refine dQ 20000000000000 (kcP c.p) (N7 (K0 c.p)) fun y6 h6 z6=>rq (by (try simp only[ByteArray.size_append]);omega) (?_)
 refine dQ 1048585 (NT c.s4) (sT c.s4) fun y7 h7 z7=>?_
 refine dQ 1048585 (NT c.s5) (sT c.s5) fun y8 h8 z8=>rq (by (try simp only[ByteArray.size_append]);omega) (?_)
 refine dQ 1048585 (NT c.s6) (sT c.s6) fun y9 h9 z9=>rq (by (try simp only[ByteArray.size_append]);omega) (?_)
 refine dQ 9 (kcI _) (bC _) fun y10 h10 z10=>rq (by (try simp only[ByteArray.size_append]);omega) (?_)
 refine dQ 9 (kcI _) (bC _) fun y11 h11 z11=>rq (by (try simp only[ByteArray.size_append]);omega) (?_)
 refine dQ 9 (kcI _) (bC _) fun y12 h12 z12=>rq (by (try simp only[ByteArray.size_append]);omega) (rq (by (try simp only[ByteArray.size_append]);omega) (?_))
 refine dQ 1048585 (NT c.s7) (sT c.s7) fun y13 h13 z13=>?_
 refine dQ 1048585 (NT c.s8) (sT c.s8) fun y14 h14 z14=>rq (by (try simp only[ByteArray.size_append]);omega) (?_)
 refine dQ 1048585000009 (kcX c.l1) (CE c.l1) fun y15 h15 z15=>rq (by (try simp only[ByteArray.size_append]);omega) (?_)
 refine dQ 9 (kcI _) (bC _) fun y16 h16 z16=>rq (by (try simp only[ByteArray.size_append]);omega) (?_)
 refine dQ 1048585000009 (kcX c.l2) (CE c.l2) fun y17 h17 z17=>rq (by (try simp only[ByteArray.size_append]);omega) (rq (by (try simp only[ByteArray.size_append]);omega) (?_))
 refine dQ 9 (kcI _) (bC _) fun y18 h18 z18=>rq (by (try simp only[ByteArray.size_append]);omega) (?_)
 refine dQ 1048585 (NT c.s9) (sT c.s9) fun y19 h19 z19=>rq (by (try simp only[ByteArray.size_append]);omega) (?_)
 refine dQ 1048585 (NT c.s10) (sT c.s10) fun y20 h20 z20=>rq (by (try simp only[ByteArray.size_append]);omega) (?_)
 subst h0 h1 h2 h3 h4 h5 h6 h7 h8 h9 h10 h11 h12 h13 h14 h15 h16 h17 h18 h19 h20
 unfold iA
 simp only[ByteArray.append_assoc]
end Go.Pv
namespace Go.Pv
open Go Go.Proofs Go.RowKit
theorem gQ {P:Program} {ops:Array Oper} {Q:Exit→Act→World→Prop} {rest:List Nat} {a:Act} {w:World} {i:Nat} {o:Oper} (h:ops[i]? = some o) (hg:o.guard=none) (hh:o.wp P a w (wpOps P ops Q rest) Q):wpOps P ops Q (i::rest) a w:=by
 unfold wpOps
 rw[h]
 have:Region.wanted o (yielded ops a.tmps)=true:=by unfold Region.wanted;rw[hg]
 simp only[this,if_true]
 exact .inl hh
theorem QF {P:Program} {o:Oper} {a:Act} {w:World} {next:Act→World→Prop} {Q:Exit→Act→World→Prop} {f:FuncId} {c:Call} {vs:Array Value} (ho:o.op = .call c) (hc:c.callee=Callee.value (Operand.func f)) (hv:c.args.map a.eval=vs)
  (hent:∃ fn,P.funcs[f]? = some fn∧(fn.name == "runtime.NumGoroutine")=false∧fn.body.isNone=false) (h:Calls P f vs w (fun e w'=>∃ v,e = .returned v∧next (a.put o.dst v) w')):o.wp P a w next Q:=by
 obtain ⟨fn,e1,e2,e3⟩:=hent
 have e2':¬ fn.name = "runtime.NumGoroutine" := by simpa using e2
 have e3':¬ fn.body=none:=by intro h;simp[h] at e3
 have he:(execOp a.eval o).run P w = .ok (.enter f vs) w:=by
  simp only[execOp,ho,resolve,hc]
  simp[Deferred.ofValue,invoke,callFunc,Act.eval,e1,e2',e3',hv]
 unfold Oper.wp
 rw[he]
 refine h.mono ?_
 rintro e w' ⟨v,rfl,h3⟩
 exact h3
noncomputable def s16 (rows:List (List T)) (k:Nat):Nat→D:=fun t=>if t=16 then .p (.sl false rows) else if t=18 then .p (.v (.int .i64 (k:Int))) else .any
noncomputable def s1 (t:Nat) (d:D):Nat→D:=fun i=>if i=t then d else .any
theorem ZE {w:World} {own:Nat→Prop} {ρ:Nat→Option Loc} {t:Nat} {d:D} {a:Act} (h:Rd w own ρ d (a.tmps.getD t undef)):∀ x,Rd w own ρ (ev (s1 t d) x) (a.eval x):=fun x=>by
 cases x with
 | tmp i =>
  show Rd w own ρ (if i=t then d else .any) (a.tmps.getD i undef)
  by_cases e:i=t
  ·subst e;rw[if_pos rfl];exact h
  ·rw[if_neg e];exact .any _
 | const v=>exact .p _ _ (.v v)
 | global g=>exact .p _ _ (.v _)
 | func f=>exact .p _ _ (.fn f [] [] #[] #[] rfl rfl (fun i hi=>by simp at hi) (fun i hi=>by simp at hi))
noncomputable def zE:List D:=match tz? Tryz.prog 68 with
 | some z=>z.cells.toList.map fun v=>.p (.v v)
 | none=>[]
noncomputable def σA:Nat→Option aK:=a6 (fun _=>none) 0 (some (.rows false [zE]))
noncomputable def σB (x:bD):Nat→Option aK:=a6 σA 0 (some (.rows false [(aR.enc x).map .p]))
theorem AFF:((tz? Tryz.prog 68).bind fun z=>(jQ (z.cells.toList.map fun v=>.p (.v v))).map fun b=>((.ptr 0 0 0:D),a6 (fun _=>none) 0 (some b)))=some (.ptr 0 0 0,σA):=by kernel_rfl
theorem AET (x:bD):l4 Tryz.prog (fun _=>none) 68 (.p (.ref (aR.enc x)))=some (.p (.agg (aR.enc x))):=by kernel_rfl
theorem ACN (x:bD):fG Tryz.prog σA 68 (.ptr 0 0 0) (.p (.agg (aR.enc x)))=some (σB x):=by kernel_rfl
theorem AES (x:bD):l4 Tryz.prog (σB x) 68 (.ptr 0 0 0)=some (.p (.agg (aR.enc x))):=by kernel_rfl
theorem ABR {rows:List (List T)} {k:Nat} {x:bD} (hrow:rows[k]? = some (aR.enc x)):bR Tryz.prog (fun _=>none) 23 (.p (.sl false rows)) (.p (.v (.int .i64 (k:Int))))=some (.p (.ref (aR.enc x))):=by
 have e1:gR Tryz.prog 23=some 68:=by kernel_rfl
 have e2:tsz? Tryz.prog 68=some 38:=by kernel_rfl
 unfold bR
 simp only[e1,e2,dF,Int.toNat_natCast,hrow]
 rw[if_neg (by omega),if_pos (by rfl)]
theorem xQ {a:Act} {i:Nat} {v:Value} (h:i<a.tmps.size):(a.put (some i) v).tmps.getD i undef=v:=by
 simp[Act.put,Array.getD_eq_getD_getElem?,h]
theorem N9 {a:Act} {i j:Nat} {v:Value} (h:i≠j):(a.put (some i) v).tmps.getD j undef=a.tmps.getD j undef:=by
 simp[Act.put,Array.getD_eq_getD_getElem?,Array.getElem?_setIfInBounds,h]
theorem oV {a:Act} {i:Nat} {v:Value}:(a.put (some i) v).tmps.size=a.tmps.size:=by simp[Act.put]
noncomputable def PE (w:World):Cx:=GS Tryz.prog (fun _=>False) w
theorem QU {id:Nat} {ops:Array Oper} {o0 o1 o2 o3:Oper} (hops:ops = #[o0,o1,o2,o3]) (g0:o0.guard=none) (g1:o1.guard=none) (g2:o2.guard=none) (g3:o3.guard=none)
  (p0:o0.op = .indexAddr 23 (.tmp 16) (.tmp 18)) (d0:o0.dst=some 20) (p1:o1.op = .load 68 (.tmp 20)) (d1:o1.dst=some 21) (p2:o2.op = .alloc 68) (d2:o2.dst=some 5) (p3:o3.op = .store 68 (.tmp 5) (.tmp 21)) (d3:o3.dst=none)
  {Q:Exit→Act→World→Prop} {a:Act} {w:World} (hG:Good Tryz.prog w) (hsz:a.tmps.size=27) {rows:List (List T)} {x:bD} {k:Nat}
  (h16:bK w (fun _=>False) (.sl false rows) (a.tmps.getD 16 undef)) (h18:a.tmps.getD 18 undef = .int .i64 (k:Int)) (hrow:rows[k]? = some (aR.enc x))
  (hQ:∀ v20 v21 v5 w' ρ,Inv (PE w) ρ (σB x) 2 w'→Good Tryz.prog w'→Rd w' (Own (PE w) ρ (σB x)) ρ (.ptr 0 0 0) v5→Q .normal (((a.put (some 20) v20).put (some 21) v21).put (some 5) v5) w') :
  (Code.region id ops false).wp Tryz.prog Q a w:=by
 subst hops
 refine wp_region ?_
 show wpOps _ _ _ [0,1,2,3] _ _
 have hI:Inv (PE w) (fun _=>none) (fun _=>none) 0 w:=AEN Tryz.prog (fun _=>False) w hG (fun b h=>h.elim)
 have own0:∀ b,Own (PE w) (fun _=>none) (fun _=>none) b→False:=fun b hb=>by
  rcases hb with hb|⟨k,l,x,hk,_,_⟩
  ·exact hb
  ·cases hk
 refine gQ (o:=o0) rfl g0 ?_
 have hs0:∀ y,Rd w (Own (PE w) (fun _=>none) (fun _=>none)) (fun _=>none) (ev (s16 rows k) y) (a.eval y):=fun y=>by
  cases y with
  | tmp i =>
   show Rd _ _ _ (if i=16 then .p (.sl false rows) else if i=18 then .p (.v (.int .i64 (k:Int))) else .any) (a.tmps.getD i undef)
   by_cases e:i=16
   ·subst e;rw[if_pos rfl];exact .p _ _ (h16.less own0)
   ·rw[if_neg e]
    by_cases e2:i=18
    ·subst e2;rw[if_pos rfl,h18];exact .p _ _ (.v _)
    ·rw[if_neg e2];exact .any _
  | const v=>exact .p _ _ (.v v)
  | global g=>exact .p _ _ (.v _)
  | func f=>exact .p _ _ (.fn f [] [] #[] #[] rfl rfl (fun i hi=>by simp at hi) (fun i hi=>by simp at hi))
 refine K4 (cx:=PE w) (E:=Env.of []) (aH.nil _) hI hG hs0 hs0 (d:=.p (.ref (aR.enc x))) (by rw[p0];exact ABR hrow) fun v20 w1 b1 hv20=>?_
 rw[d0]
 have hI1:=hI.grow b1 (Nat.le_refl _)
 have hG1:=hG.below b1
 refine gQ (o:=o1) rfl g1 ?_
 have hs1:=ZE (t:=20) (a:=a.put (some 20) v20) (by rw[xQ (by omega)];exact hv20)
 refine K4 (cx:=PE w) (E:=Env.of []) (aH.nil _) hI1 hG1 hs1 hs1 (d:=.p (.agg (aR.enc x))) (by rw[p1];exact AET x) fun v21 w2 b2 hv21=>?_
 rw[d1]
 have hI2:=hI1.grow b2 (Nat.le_refl _)
 have hG2:=hG1.below b2
 refine gQ (o:=o2) rfl g2 ?_
 have hs2:=ZE (t:=21) (a:=(a.put (some 20) v20).put (some 21) v21) (by rw[xQ (by rw[oV];omega)];exact hv21)
 refine KX (cx:=PE w) (E:=Env.of []) (aH.nil _) hI2 hG2 hs2 (d:=.ptr 0 0 0) (σ':=σA) (n':=1) (by
  rw[p2]
  show one 0 ((tz? Tryz.prog 68).bind fun z=>(jQ (z.cells.toList.map fun v=>.p (.v v))).map fun b=>((.ptr 0 0 0:D),a6 (fun _=>none) 0 (some b)))=_
  rw[AFF];rfl) fun v5 w3 ρ3 hI3 hk3 hv5=>?_
 rw[d2]
 have hG3:=hI2.jT hI3 hk3 hG2
 refine gQ (o:=o3) rfl g3 ?_
 have hv21':=hk3.rd hv21
 have hs3:∀ y,Rd w3 (Own (PE w) ρ3 σA) ρ3 (ev (fun i=>if i=5 then .ptr 0 0 0 else if i=21 then .p (.agg (aR.enc x)) else .any) y) ((((a.put (some 20) v20).put (some 21) v21).put (some 5) v5).eval y):=fun y=>by
  cases y with
  | tmp i =>
   show Rd _ _ _ (if i=5 then .ptr 0 0 0 else if i=21 then .p (.agg (aR.enc x)) else .any) ((((a.put (some 20) v20).put (some 21) v21).put (some 5) v5).tmps.getD i undef)
   by_cases e:i=5
   ·subst e;rw[if_pos rfl,xQ (by rw[oV,oV];omega)];exact hv5
   ·rw[if_neg e]
    by_cases e2:i=21
    ·subst e2;rw[if_pos rfl,N9 (by decide),xQ (by rw[oV];omega)];exact hv21'
    ·rw[if_neg e2];exact .any _
  | const v=>exact .p _ _ (.v v)
  | global g=>exact .p _ _ (.v _)
  | func f=>exact .p _ _ (.fn f [] [] #[] #[] rfl rfl (fun i hi=>by simp at hi) (fun i hi=>by simp at hi))
 refine KX (cx:=PE w) (E:=Env.of []) (aH.nil _) hI3 hG3 hs3 (d:=.p (.v undef)) (σ':=σB x) (n':=2) (by
  rw[p3]
  show one 1 ((fG Tryz.prog σA 68 (.ptr 0 0 0) (.p (.agg (aR.enc x)))).map fun σ'=>((.p (.v undef):D),σ'))=_
  rw[ACN];rfl) fun v' w4 ρ4 hI4 hk4 _=>?_
 rw[d3]
 exact hQ v20 v21 v5 w4 ρ4 hI4 (hI3.jT hI4 hk4 hG3) (hk4.rd hv5)
theorem QV {id:Nat} {ops:Array Oper} {o0 o1 o2:Oper} {c1 c2:Call} (hops:ops = #[o0,o1,o2]) (g0:o0.guard=none) (g1:o1.guard=none) (g2:o2.guard=none)
  (p0:o0.op = .load 68 (.tmp 5)) (d0:o0.dst=some 22) (p1:o1.op = .call c1) (q1:c1.callee=Callee.value (Operand.func 38)) (r1:c1.args = #[.tmp 22]) (d1:o1.dst=some 23)
  (p2:o2.op = .call c2) (q2:c2.callee=Callee.value (Operand.func 35)) (r2:c2.args = #[.tmp 3,.tmp 23]) (d2:o2.dst=some 24)
  {Q:Exit→Act→World→Prop} {a:Act} {w w0:World} {x:bD} {ρ:Nat→Option Loc} (hI:Inv (PE w0) ρ (σB x) 2 w) (hG:Good Tryz.prog w) (hsz:a.tmps.size=27) (hv5:Rd w (Own (PE w0) ρ (σB x)) ρ (.ptr 0 0 0) (a.tmps.getD 5 undef)) (hok:zA x=true)
  {ptr:Value} (h3:a.tmps.getD 3 undef=ptr)
  (hW:∀ v22 v23 w',Below w.heap.size w w'→Calls Tryz.prog 35 #[ptr,.string (iA x)] w' fun e w''=>∃ v,e = .returned v∧Q .normal (((a.put (some 22) v22).put (some 23) v23).put (some 24) v) w'') :
  (Code.region id ops false).wp Tryz.prog Q a w:=by
 subst hops
 refine wp_region ?_
 show wpOps _ _ _ [0,1,2] _ _
 refine gQ (o:=o0) rfl g0 ?_
 have hs0:=ZE (t:=5) (a:=a) hv5
 refine K4 (cx:=PE w0) (E:=Env.of []) (aH.nil _) hI hG hs0 hs0 (d:=.p (.agg (aR.enc x))) (by rw[p0];exact AES x) fun v22 w1 b1 hv22=>?_
 rw[d0]
 have hI1:=hI.grow b1 (Nat.le_refl _)
 have hG1:=hG.below b1
 have hr:bK w1 (Own (PE w0) ρ (σB x)) (T.agg (aR.enc x)) v22:=by
  cases hv22 with
  | p _ _ h=>exact h
 refine gQ (o:=o1) rfl g1 ?_
 refine QF (vs:=#[v22]) p1 q1 (by rw[r1];simp only[List.map_toArray,List.map_cons,List.map_nil];exact congrArg (fun v=>#[v]) (xQ (by omega))) JQ.entry ?_
 refine (JQ.calls w1 _ [aG true aR x] #[v22] (.v (.string (iA x))) hG1 (fun b hb=>Own.lt hI1 hb) (bX.one hr) ((ND ..).trans (by unfold o7;rw[hok]))).mono ?_
 rintro e w2 ⟨v23,rfl,hv23,b2⟩
 cases hv23
 refine ⟨_,rfl,?_⟩
 rw[d1]
 refine gQ (o:=o2) rfl g2 ?_
 refine QF (vs:=#[ptr,.string (iA x)]) p2 q2 ?_ ⟨_,Tryz.func35,rfl,rfl⟩ ?_
 ·rw[r2]
  simp only[List.map_toArray,List.map_cons,List.map_nil]
  show #[((a.put (some 22) v22).put (some 23) (.string (iA x))).tmps.getD 3 undef,((a.put (some 22) v22).put (some 23) (.string (iA x))).tmps.getD 23 undef]=_
  rw[N9 (by decide),N9 (by decide),h3,xQ (by rw[oV];omega)]
 ·rw[d2]
  exact hW v22 _ w2 (b1.trans (b2.mono b1.size))
end Go.Pv
namespace Go.Pv
open Go Go.Proofs
def kV (a0:Int) (a1:Int):List T:=[T.v (.slice none 0 0),T.v (.int .i64 a0),T.v (.int .u64 a1)]
noncomputable def FQ:Env:=Env.of []
def OY:FuncId→Hint:=fM 60 [(5,.kR 5),(9,.kR 10)] (fun _=>bW)
theorem RC:aH Tryz.prog FQ:=.nil _
def F4 (a0:Int) (a1:Int) (R:T→Prop):Prop :=
 aF (decide (a1<24))
 (aD true
 (R
 (T.sl false
 [[T.v
 (Value.int IntKind.u8
 (bits BinOp.or IntKind.u8 (IntKind.u8.wrap (IntKind.i64.wrap (a0*2 ^ Int.toNat 5)))
 (IntKind.u8.wrap a1)))]])))
 (aF (!decide (a1 / 2 ^ 8=0))
 (aF (!decide (a1 / 2 ^ 16=0))
 (aF (!decide (a1 / 2 ^ 32=0))
 (aD true
 (aD true
 (aD true
 (aD true
 (aD true
 (aD true
 (aD true
 (aD true
 (aD true
 (R
 (T.sl false
 [[T.v
 (Value.int IntKind.u8
 (bits BinOp.or IntKind.u8
 (IntKind.u8.wrap (IntKind.i64.wrap (a0*2 ^ Int.toNat 5)))
 (IntKind.u8.wrap
 (IntKind.i64.wrap
 (24 +
 IntKind.i64.wrap
 (IntKind.i64.wrap (IntKind.i64.wrap (0+1)+1)+1))))))],
 [T.v (Value.int IntKind.u8 (IntKind.u8.wrap (a1 / 2 ^ 56)))],
 [T.v (Value.int IntKind.u8 (IntKind.u8.wrap (a1 / 2 ^ 48)))],
 [T.v (Value.int IntKind.u8 (IntKind.u8.wrap (a1 / 2 ^ 40)))],
 [T.v (Value.int IntKind.u8 (IntKind.u8.wrap (a1 / 2 ^ 32)))],
 [T.v (Value.int IntKind.u8 (IntKind.u8.wrap (a1 / 2 ^ 24)))],
 [T.v (Value.int IntKind.u8 (IntKind.u8.wrap (a1 / 2 ^ 16)))],
 [T.v (Value.int IntKind.u8 (IntKind.u8.wrap (a1 / 2 ^ 8)))],
 [T.v (Value.int IntKind.u8 (IntKind.u8.wrap (a1 / 2 ^ 0)))]])))))))))))
 (aD true
 (aD true
 (aD true
 (aD true
 (aD true
 (R
 (T.sl false
 [[T.v
 (Value.int IntKind.u8
 (bits BinOp.or IntKind.u8
 (IntKind.u8.wrap (IntKind.i64.wrap (a0*2 ^ Int.toNat 5)))
 (IntKind.u8.wrap
 (IntKind.i64.wrap
 (24+IntKind.i64.wrap (IntKind.i64.wrap (0+1)+1))))))],
 [T.v (Value.int IntKind.u8 (IntKind.u8.wrap (a1 / 2 ^ 24)))],
 [T.v (Value.int IntKind.u8 (IntKind.u8.wrap (a1 / 2 ^ 16)))],
 [T.v (Value.int IntKind.u8 (IntKind.u8.wrap (a1 / 2 ^ 8)))],
 [T.v (Value.int IntKind.u8 (IntKind.u8.wrap (a1 / 2 ^ 0)))]]))))))))
 (aD true
 (aD true
 (aD true
 (R
 (T.sl false
 [[T.v
 (Value.int IntKind.u8
 (bits BinOp.or IntKind.u8
 (IntKind.u8.wrap (IntKind.i64.wrap (a0*2 ^ Int.toNat 5)))
 (IntKind.u8.wrap (IntKind.i64.wrap (24+IntKind.i64.wrap (0+1))))))],
 [T.v (Value.int IntKind.u8 (IntKind.u8.wrap (a1 / 2 ^ 8)))],
 [T.v (Value.int IntKind.u8 (IntKind.u8.wrap (a1 / 2 ^ 0)))]]))))))
 (aD true
 (aD true
 (R
 (T.sl false
 [[T.v
 (Value.int IntKind.u8
 (bits BinOp.or IntKind.u8 (IntKind.u8.wrap (IntKind.i64.wrap (a0*2 ^ Int.toNat 5)))
 (IntKind.u8.wrap (IntKind.i64.wrap (24+0)))))],
 [T.v (Value.int IntKind.u8 (IntKind.u8.wrap (a1 / 2 ^ 0)))]])))))
theorem MA ( a0 a1 R):yP b9 Tryz.prog FQ OY 8 60 (kV a0 a1) R=F4 a0 a1 R:=by kernel_rfl
def PV (k v:Nat):List Int:=(dA k v).map fun (n:Nat)=>(n:Int)
def wG (x:Int×Int):Option T:=match decide (0≤x.1)&&decide (x.1<8)&&decide (0≤x.2)&&decide (x.2<18446744073709551616) with
 | true=>some (T.sl false (List.map (Sy.int .u8).enc (PV x.1.toNat x.2.toNat)))
 | false=>none
theorem II (x y:Int×Int) (h:kV x.1 x.2=kV y.1 y.2):x=y:=by
 simp only[kV,List.cons.injEq,T.v.injEq,Value.int.injEq,true_and,and_true] at h
 exact Prod.ext h.1 h.2
noncomputable def pQ:List T→Option (T):=gA (fun (x:Int×Int)=>kV x.1 x.2) wG
theorem NH (a0:Int) (a1:Int):pQ (kV a0 a1)=wG (a0,a1):=AC2 (A:=(fun (x:Int×Int)=>kV x.1 x.2)) II (a0,a1)
theorem X9 (h:∀ (a0:Int) (a1:Int) (r:T),wG (a0,a1)=some r→(∀ t∈kV a0 a1,Bd t)→F4 a0 a1 (fun y=>y=r)):aZ Tryz.prog 60 pQ :=
 K2 (E:=FQ) (Hs:=OY) RC bA bJ (aX rfl) 8 ⟨_,_,Tryz.func60,rfl⟩ fun x r h1 h2=>by
  rw[MA]
  exact h x.1 x.2 r h1 h2
theorem KY {c:Bool} {a r:T} (h:(match c with|true=>some a|false=>none)=some r):c=true∧a=r:=by
 cases c with
 | true=>exact ⟨rfl,Option.some.inj h⟩
 | false=>cases h
theorem KA {k v:Nat} {l:List Int} (h:l=(dA k v).map fun (n:Nat)=>(n:Int)):T.sl false (List.map (Sy.int .u8).enc l)=T.sl false (List.map (Sy.int .u8).enc (PV k v)):=by rw[h];rfl
theorem WC:aZ Tryz.prog 60 pQ:=X9 fun a0 a1 r h hb=>by
 clear hb
 obtain ⟨hc,rfl⟩:=KY h
 clear h
 simp only[Bool.and_eq_true,decide_eq_true_eq] at hc
 obtain ⟨⟨⟨h1,h2⟩,h3⟩,h4⟩:=hc
 obtain ⟨k,rfl⟩:=Int.eq_ofNat_of_zero_le h1
 obtain ⟨v,rfl⟩:=Int.eq_ofNat_of_zero_le h3
 have hk:k<8:=by omega
 have hw:IntKind.u8.wrap (IntKind.i64.wrap ((k:Int)*2 ^ Int.toNat 5))=((32*k:Nat):Int):=by
  have e:((k:Int)*2 ^ Int.toNat 5)=((32*k:Nat):Int):=by
   rw[show (2:Int) ^ Int.toNat 5=32 from rfl];omega
  rw[e,show IntKind.i64.wrap ((32*k:Nat):Int)=((32*k:Nat):Int) from cX _ (by omega) (by omega),DE,Nat.mod_eq_of_lt (by omega)]
 unfold F4
 dsimp only[Int.toNat_natCast]
 refine lX rfl (fun h=>⟨rfl,?_⟩) (fun h h'=>⟨rfl,rfl,?_⟩) (fun h h'=>⟨rfl,rfl,rfl,?_⟩) (fun h h'=>⟨rfl,rfl,rfl,rfl,rfl,?_⟩) (fun h=>⟨rfl,rfl,rfl,rfl,rfl,rfl,rfl,rfl,rfl,?_⟩)
 ·exact KA (he1 (k:=k) rfl hw hk h)
 ·exact KA (he2 (k:=k) rfl hw hk rfl h h')
 ·exact KA (he3 (k:=k) rfl hw hk rfl h h')
 ·exact KA (he5 (k:=k) rfl hw hk rfl h h')
 ·exact KA (he9 (k:=k) rfl hw hk rfl h)
end Go.Pv
namespace Go.Pv
open Go Go.Proofs
def DM (l:List Nat):Nat:=l.foldl (fun v b=>256*v+b) 0
theorem JD (l:List Nat) (b:Nat):DM (l++[b])=256*DM l+b:=by unfold DM;rw[List.foldl_append];rfl
theorem MQ:∀ (n:Nat) (l:List Nat),l.length=n→(∀ b∈l,b<256)→DM l<256 ^ n
 | 0,l,hl,_=>by rw[List.length_eq_zero_iff.1 hl];exact Nat.one_pos
 | n+1,l,hl,hb=>by
  have hne:l≠[]:=fun e=>by rw[e] at hl;cases hl
  have e:=List.dropLast_concat_getLast hne
  rw[←e,JD]
  have h1:=MQ n l.dropLast (by rw[List.length_dropLast,hl];rfl) fun b h=>hb b ((List.dropLast_sublist l).mem h)
  have h2:=hb _ (List.getLast_mem hne)
  have h3:256 ^ (n+1)=256*256 ^ n:=by rw[Nat.pow_succ,Nat.mul_comm]
  rw[h3]
  have h4:256*(DM l.dropLast+1)≤256*256 ^ n:=Nat.mul_le_mul_left 256 h1
  omega
theorem AE2 {v b:Nat} (hv:v<72057594037927936) (hb:b<256):bits .or .u64 (IntKind.u64.wrap ((v:Int)*2 ^ Int.toNat 8)) (IntKind.u64.wrap (b:Int))=((256*v+b:Nat):Int):=by
 have e1:IntKind.u64.wrap ((v:Int)*2 ^ Int.toNat 8)=((256*v:Nat):Int):=by
  rw[show (2:Int) ^ Int.toNat 8=256 from rfl,wrap_u64 (by omega) (by omega)];omega
 have e2:IntKind.u64.wrap (b:Int)=(b:Int):=wrap_u64 (by omega) (by omega)
 rw[e1,e2]
 show IntKind.u64.wrap ((BitVec.ofInt 64 ((256*v:Nat):Int) ||| BitVec.ofInt 64 (b:Int)).toNat:Int)=_
 rw[BitVec.toNat_or,BitVec.toNat_ofInt,BitVec.toNat_ofInt]
 have n1:(((256*v:Nat):Int) % ((2 ^ 64:Nat):Int)).toNat=v <<< 8:=by
  rw[Nat.shiftLeft_eq];omega
 have n2:((b:Int) % ((2 ^ 64:Nat):Int)).toNat=b:=by omega
 rw[n1,n2,←Nat.shiftLeft_add_eq_or_of_lt (show b<2 ^ 8 from hb),Nat.shiftLeft_eq,wrap_u64 (by omega) (by omega)]
 omega
def bZ (s:ByteArray) (one two:Int):Int×Int×Int×Int :=
 match s.data.toList with
 | []=>(0,0,0,3)
 | b::l =>
  if (¬ ((b.toNat / 32:Nat):Int)=one∧¬ ((b.toNat / 32:Nat):Int)=two)∨27<b.toNat % 32 then (0,0,0,5)
  else if b.toNat % 32<24 then (((b.toNat / 32:Nat):Int),((b.toNat % 32:Nat):Int),1,0)
  else if l.length<2 ^ (b.toNat % 32-24) then (0,0,0,3)
  else if zK (dA (b.toNat / 32) (DM ((l.take (2 ^ (b.toNat % 32-24))).map UInt8.toNat)))=s.extract 0 (1+2 ^ (b.toNat % 32-24)) then
   (((b.toNat / 32:Nat):Int),((DM ((l.take (2 ^ (b.toNat % 32-24))).map UInt8.toNat):Nat):Int),((1+2 ^ (b.toNat % 32-24):Nat):Int),0)
  else (0,0,0,5)
end Go.Pv
namespace Go.Pv
open Go Go.Proofs
noncomputable def LW:Env:=Env.of [(9000000000,.mark),(60,.pure pQ)]
def U3:FuncId→Hint:=fM 74 [(13,.inv [.val 7 false (.int .u64),.val 73 false (.int .i64)])] (fun _=>bW)
theorem UY:aH Tryz.prog LW:=.cons (x:=.mark) trivial (.cons WC (.nil _))
def MC (a0:aB) (a1:Int) (a2:Int) (R:T→Prop):Prop :=
 aF (decide (a0.1 = { data:=#[] }))
 (R
 (T.bN
 [aG true aA a0,T.v (.int .i64 0),
 T.v (.int .u64 0),T.v (.int .i64 0),
 T.v (.int .i64 3)]))
 (VM a0.1 0 fun (y0:Int) =>
 aD true
 (VM a0.1 0 fun (y1:Int) =>
 aF (!decide (IntKind.i64.wrap (y0 / 2 ^ Int.toNat 5)=a1))
 (aF (!decide (IntKind.i64.wrap (y0 / 2 ^ Int.toNat 5)=a2))
 (R
 (T.bN
 [aG true aA a0,T.v (.int .i64 0),
 T.v (.int .u64 0),T.v (.int .i64 0),
 T.v (.int .i64 5)]))
 (aF (decide (27<IntKind.i64.wrap (bits BinOp.and IntKind.u8 y1 31)))
 (R
 (T.bN
 [aG true aA a0,T.v (.int .i64 0),
 T.v (.int .u64 0),T.v (.int .i64 0),
 T.v (.int .i64 5)]))
 (aF (decide (IntKind.i64.wrap (bits BinOp.and IntKind.u8 y1 31)<24))
 (R
 (T.bN
 [aG true aA a0,
 T.v (.int .i64 (IntKind.i64.wrap (y0 / 2 ^ Int.toNat 5))),
 T.v (.int .u64 (IntKind.u64.wrap (IntKind.i64.wrap (bits BinOp.and IntKind.u8 y1 31)))),
 T.v (.int .i64 1),T.v (.int .i64 0)]))
 (aD
 (decide
 (0≤IntKind.i64.wrap (IntKind.i64.wrap (bits BinOp.and IntKind.u8 y1 31)-24)) &&
 decide
 (IntKind.i64.wrap (IntKind.i64.wrap (bits BinOp.and IntKind.u8 y1 31)-24) ≤
 (↑64:Int)))
 (aF
 (decide
 ((↑(ByteArray.size a0.1):Int) <
 IntKind.i64.wrap
 (1 +
 IntKind.i64.wrap
 (1 *
 2 ^
 (IntKind.i64.wrap
 (IntKind.i64.wrap (bits BinOp.and IntKind.u8 y1 31)-24)).toNat))))
 (R
 (T.bN
 [aG true aA a0,T.v (.int .i64 0),
 T.v (.int .u64 0),T.v (.int .i64 0),
 T.v (.int .i64 3)]))
 (aD
 (decide
 (0 ≤
 IntKind.i64.wrap
 (1 +
 IntKind.i64.wrap
 (1 *
 2 ^
 (IntKind.i64.wrap
 (IntKind.i64.wrap (bits BinOp.and IntKind.u8 y1 31) -
 24)).toNat))) &&
 decide
 ((IntKind.i64.wrap
 (1 +
 IntKind.i64.wrap
 (1 *
 2 ^
 (IntKind.i64.wrap
 (IntKind.i64.wrap (bits BinOp.and IntKind.u8 y1 31) -
 24)).toNat))).toNat ≤
 ByteArray.size a0.1) &&
 decide
 (Int.toNat 1 ≤
 (IntKind.i64.wrap
 (1 +
 IntKind.i64.wrap
 (1 *
 2 ^
 (IntKind.i64.wrap
 (IntKind.i64.wrap (bits BinOp.and IntKind.u8 y1 31) -
 24)).toNat))).toNat))
 (aD
 (decide
 ((ByteArray.extract a0.1 (Int.toNat 1)
 (IntKind.i64.wrap
 (1 +
 IntKind.i64.wrap
 (1 *
 2 ^
 (IntKind.i64.wrap
 (IntKind.i64.wrap (bits BinOp.and IntKind.u8 y1 31) -
 24)).toNat))).toNat).size ≤
 140737488355328))
 (bM (Int×Int×PUnit)
 (fun (X2:Int×Int×PUnit→Prop) (s3:Int×Int×PUnit) =>
 aF
 (decide
 (s3.2.1 <
 (↑(iW
 (ByteArray.extract a0.1 (Int.toNat 1)
 (IntKind.i64.wrap
 (1 +
 IntKind.i64.wrap
 (1 *
 2 ^
 (IntKind.i64.wrap
 (IntKind.i64.wrap
 (bits BinOp.and IntKind.u8 y1 31) -
 24)).toNat))).toNat)).length :
 Int)))
 (a7 (Sy.int IntKind.u8)
 (List.map (fun (b:UInt8)=>[T.v (Value.int IntKind.u8 (↑b.toNat:Int))])
 (ByteArray.extract a0.1 (Int.toNat 1)
 (IntKind.i64.wrap
 (1 +
 IntKind.i64.wrap
 (1 *
 2 ^
 (IntKind.i64.wrap
 (IntKind.i64.wrap
 (bits BinOp.and IntKind.u8 y1 31) -
 24)).toNat))).toNat).data.1)
 s3.2.1 fun (y4:Int) =>
 aD true
 (X2
 (bits BinOp.or IntKind.u64 (IntKind.u64.wrap (s3.1*2 ^ Int.toNat 8))
 (IntKind.u64.wrap y4),
 IntKind.i64.wrap (s3.2.1+1),())))
 (aE [(false,(Sy.int IntKind.u8).li)]
 (pQ
 [T.v (Value.slice none 0 0),
 T.v (.int .i64 (IntKind.i64.wrap (y0 / 2 ^ Int.toNat 5))),
 T.v (.int .u64 s3.1)])
 fun (y5:List Int) =>
 bP (Sy.int IntKind.u8) (List.map (Sy.int IntKind.u8).enc y5)
 fun (y6:List Int) =>
 aD
 (decide
 (0 ≤
 IntKind.i64.wrap
 (1 +
 IntKind.i64.wrap
 (1 *
 2 ^
 (IntKind.i64.wrap
 (IntKind.i64.wrap
 (bits BinOp.and IntKind.u8 y1 31) -
 24)).toNat))) &&
 decide
 ((IntKind.i64.wrap
 (1 +
 IntKind.i64.wrap
 (1 *
 2 ^
 (IntKind.i64.wrap
 (IntKind.i64.wrap
 (bits BinOp.and IntKind.u8 y1 31) -
 24)).toNat))).toNat ≤
 ByteArray.size a0.1) &&
 true)
 (aF
 (!decide
 (strOfNums y6 =
 ByteArray.extract a0.1 0
 (IntKind.i64.wrap
 (1 +
 IntKind.i64.wrap
 (1 *
 2 ^
 (IntKind.i64.wrap
 (IntKind.i64.wrap
 (bits BinOp.and IntKind.u8 y1 31) -
 24)).toNat))).toNat))
 (R
 (T.bN
 [aG true aA a0,
 T.v (.int .i64 0),
 T.v (.int .u64 0),
 T.v (.int .i64 0),
 T.v (.int .i64 5)]))
 (R
 (T.bN
 [aG true aA a0,
 T.v (.int .i64 (IntKind.i64.wrap (y0 / 2 ^ Int.toNat 5))),
 T.v (.int .u64 s3.1),
 T.v (.int .i64 (IntKind.i64.wrap
 (1 +
 IntKind.i64.wrap
 (1 *
 2 ^
 (IntKind.i64.wrap
 (IntKind.i64.wrap
 (bits BinOp.and IntKind.u8 y1 31) -
 24)).toNat)))),
 T.v (.int .i64 0)])))))
 (0,0,())))))))))
 (aF (decide (27<IntKind.i64.wrap (bits BinOp.and IntKind.u8 y1 31)))
 (R
 (T.bN
 [aG true aA a0,T.v (.int .i64 0),
 T.v (.int .u64 0),T.v (.int .i64 0),
 T.v (.int .i64 5)]))
 (aF (decide (IntKind.i64.wrap (bits BinOp.and IntKind.u8 y1 31)<24))
 (R
 (T.bN
 [aG true aA a0,
 T.v (.int .i64 (IntKind.i64.wrap (y0 / 2 ^ Int.toNat 5))),
 T.v (.int .u64 (IntKind.u64.wrap (IntKind.i64.wrap (bits BinOp.and IntKind.u8 y1 31)))),
 T.v (.int .i64 1),T.v (.int .i64 0)]))
 (aD
 (decide
 (0≤IntKind.i64.wrap (IntKind.i64.wrap (bits BinOp.and IntKind.u8 y1 31)-24)) &&
 decide
 (IntKind.i64.wrap (IntKind.i64.wrap (bits BinOp.and IntKind.u8 y1 31)-24) ≤
 (↑64:Int)))
 (aF
 (decide
 ((↑(ByteArray.size a0.1):Int) <
 IntKind.i64.wrap
 (1 +
 IntKind.i64.wrap
 (1 *
 2 ^
 (IntKind.i64.wrap
 (IntKind.i64.wrap (bits BinOp.and IntKind.u8 y1 31)-24)).toNat))))
 (R
 (T.bN
 [aG true aA a0,T.v (.int .i64 0),
 T.v (.int .u64 0),T.v (.int .i64 0),
 T.v (.int .i64 3)]))
 (aD
 (decide
 (0 ≤
 IntKind.i64.wrap
 (1 +
 IntKind.i64.wrap
 (1 *
 2 ^
 (IntKind.i64.wrap
 (IntKind.i64.wrap (bits BinOp.and IntKind.u8 y1 31) -
 24)).toNat))) &&
 decide
 ((IntKind.i64.wrap
 (1 +
 IntKind.i64.wrap
 (1 *
 2 ^
 (IntKind.i64.wrap
 (IntKind.i64.wrap (bits BinOp.and IntKind.u8 y1 31) -
 24)).toNat))).toNat ≤
 ByteArray.size a0.1) &&
 decide
 (Int.toNat 1 ≤
 (IntKind.i64.wrap
 (1 +
 IntKind.i64.wrap
 (1 *
 2 ^
 (IntKind.i64.wrap
 (IntKind.i64.wrap (bits BinOp.and IntKind.u8 y1 31) -
 24)).toNat))).toNat))
 (aD
 (decide
 ((ByteArray.extract a0.1 (Int.toNat 1)
 (IntKind.i64.wrap
 (1 +
 IntKind.i64.wrap
 (1 *
 2 ^
 (IntKind.i64.wrap
 (IntKind.i64.wrap (bits BinOp.and IntKind.u8 y1 31) -
 24)).toNat))).toNat).size ≤
 140737488355328))
 (bM (Int×Int×PUnit)
 (fun (X7:Int×Int×PUnit→Prop) (s8:Int×Int×PUnit) =>
 aF
 (decide
 (s8.2.1 <
 (↑(iW
 (ByteArray.extract a0.1 (Int.toNat 1)
 (IntKind.i64.wrap
 (1 +
 IntKind.i64.wrap
 (1 *
 2 ^
 (IntKind.i64.wrap
 (IntKind.i64.wrap
 (bits BinOp.and IntKind.u8 y1 31) -
 24)).toNat))).toNat)).length :
 Int)))
 (a7 (Sy.int IntKind.u8)
 (List.map (fun (b:UInt8)=>[T.v (Value.int IntKind.u8 (↑b.toNat:Int))])
 (ByteArray.extract a0.1 (Int.toNat 1)
 (IntKind.i64.wrap
 (1 +
 IntKind.i64.wrap
 (1 *
 2 ^
 (IntKind.i64.wrap
 (IntKind.i64.wrap (bits BinOp.and IntKind.u8 y1 31) -
 24)).toNat))).toNat).data.1)
 s8.2.1 fun (y9:Int) =>
 aD true
 (X7
 (bits BinOp.or IntKind.u64 (IntKind.u64.wrap (s8.1*2 ^ Int.toNat 8))
 (IntKind.u64.wrap y9),
 IntKind.i64.wrap (s8.2.1+1),())))
 (aE [(false,(Sy.int IntKind.u8).li)]
 (pQ
 [T.v (Value.slice none 0 0),
 T.v (.int .i64 (IntKind.i64.wrap (y0 / 2 ^ Int.toNat 5))),
 T.v (.int .u64 s8.1)])
 fun (y10:List Int) =>
 bP (Sy.int IntKind.u8) (List.map (Sy.int IntKind.u8).enc y10)
 fun (y11:List Int) =>
 aD
 (decide
 (0 ≤
 IntKind.i64.wrap
 (1 +
 IntKind.i64.wrap
 (1 *
 2 ^
 (IntKind.i64.wrap
 (IntKind.i64.wrap
 (bits BinOp.and IntKind.u8 y1 31) -
 24)).toNat))) &&
 decide
 ((IntKind.i64.wrap
 (1 +
 IntKind.i64.wrap
 (1 *
 2 ^
 (IntKind.i64.wrap
 (IntKind.i64.wrap
 (bits BinOp.and IntKind.u8 y1 31) -
 24)).toNat))).toNat ≤
 ByteArray.size a0.1) &&
 true)
 (aF
 (!decide
 (strOfNums y11 =
 ByteArray.extract a0.1 0
 (IntKind.i64.wrap
 (1 +
 IntKind.i64.wrap
 (1 *
 2 ^
 (IntKind.i64.wrap
 (IntKind.i64.wrap
 (bits BinOp.and IntKind.u8 y1 31) -
 24)).toNat))).toNat))
 (R
 (T.bN
 [aG true aA a0,T.v (.int .i64 0),
 T.v (.int .u64 0),
 T.v (.int .i64 0),
 T.v (.int .i64 5)]))
 (R
 (T.bN
 [aG true aA a0,
 T.v (.int .i64 (IntKind.i64.wrap (y0 / 2 ^ Int.toNat 5))),
 T.v (.int .u64 s8.1),
 T.v (.int .i64 (IntKind.i64.wrap
 (1 +
 IntKind.i64.wrap
 (1 *
 2 ^
 (IntKind.i64.wrap
 (IntKind.i64.wrap
 (bits BinOp.and IntKind.u8 y1 31) -
 24)).toNat)))),
 T.v (.int .i64 0)])))))
 (0,0,()))))))))))
theorem RL ( a0 a1 a2 R):jO b9 Tryz.prog LW U3 8 74 [aG true aA a0,aG false (Sy.int IntKind.i64) a1,
 aG false (Sy.int IntKind.i64) a2] R=MC a0 a1 a2 R:=by kernel_rfl
abbrev H4:Sh:=[(true,aA),(false,(Sy.int IntKind.i64)),(false,(Sy.int IntKind.i64))]
abbrev HQ:Sh:=[(true,aA),(false,Sy.int IntKind.i64),(false,Sy.int IntKind.u64),(false,Sy.int IntKind.i64),(false,Sy.int IntKind.i64)]
theorem AF4:∀ b:Fin 256,IntKind.i64.wrap (bits .and .u8 (b.1:Int) 31)=((b.1 % 32:Nat):Int):=by decide
theorem G4 (b:UInt8):IntKind.i64.wrap ((b.toNat:Int) / 2 ^ Int.toNat 5)=((b.toNat / 32:Nat):Int):=by
 have:=b.toNat_lt
 rw[show (2:Int) ^ Int.toNat 5=32 from rfl,cX _ (by omega) (by omega)];omega
theorem lo5 (b:UInt8):IntKind.i64.wrap (bits .and .u8 (b.toNat:Int) 31)=((b.toNat % 32:Nat):Int):=AF4 ⟨b.toNat,b.toNat_lt⟩
theorem AH8 {p q:Bool} {X Y:Prop} (h1:p=false→q=false→X) (h2:p=true∨q=true→Y):aF (!p) (aF (!q) X Y) Y:=by
 cases p<;>cases q
 ·exact h1 rfl rfl
 ·exact h2 (.inr rfl)
 ·exact h2 (.inl rfl)
 ·exact h2 (.inl rfl)
theorem AHH {m:Nat} (h1:24≤m) (h2:m≤27):IntKind.i64.wrap (1+IntKind.i64.wrap (1*2 ^ (IntKind.i64.wrap ((m:Int)-24)).toNat))=((1+2 ^ (m-24):Nat):Int):=by
 have:m=24∨m=25∨m=26∨m=27:=by omega
 rcases this with rfl|rfl|rfl|rfl<;>rfl
theorem countP {m:Nat} (h1:24≤m) (h2:m≤27):IntKind.i64.wrap ((m:Int)-24)=((m-24:Nat):Int):=by
 have:m=24∨m=25∨m=26∨m=27:=by omega
 rcases this with rfl|rfl|rfl|rfl<;>rfl
noncomputable def IA (x:cW×Int×Int):Option T:=some (Sh.enc HQ (x.1,bZ x.1.1 x.2.1 x.2.2))
noncomputable def sV:List T→Option (T):=gS H4 IA
theorem ES {a0 a1 a2}:sV [aG true aA a0,T.v (.int .i64 a1),
 T.v (.int .i64 a2)]=IA (a0,a1,a2):=cG (s:=H4) rfl (a0,a1,a2) rfl
theorem AB8 (h:∀ a0 a1 a2 r,IA (a0,a1,a2)=some r→fF H4 (a0,a1,a2)→MC a0 a1 a2 (fun y=>y=r)):eQ Tryz.prog 74 sV :=
 iK (E:=LW) (Hs:=U3) UY bA bJ (aX rfl) 8 ⟨_,_,Tryz.func74,rfl⟩ rfl fun x r h1 h2=>by
  obtain ⟨a0,a1,a2⟩:=x
  rw[show Sh.fS H4 (a0,a1,a2)=[aG true aA a0,aG false (Sy.int IntKind.i64) a1,
 aG false (Sy.int IntKind.i64) a2] from rfl,RL]
  exact h a0 a1 a2 r h1 h2
theorem PU:eQ Tryz.prog 74 sV:=AB8 fun a0 a1 a2 r h hb=>by
 cases h
 clear hb
 obtain ⟨s,e0⟩:=a0
 unfold MC
 dsimp only
 have no:∀ {e:Int},bZ s a1 a2=(0,0,0,e)→T.bN [aG true aA (s,e0),T.v (.int .i64 0),T.v (.int .u64 0),T.v (.int .i64 0),T.v (.int .i64 e)]=Sh.enc HQ ((s,e0),bZ s a1 a2):=fun h=>by rw[h];rfl
 cases hl:s.data.toList with
 | nil =>
  have hs:s=⟨#[]⟩:=by
   cases s with
   | mk d=>cases d;simp at hl;subst hl;rfl
  have pk:bZ s a1 a2=(0,0,0,3):=by unfold bZ;rw[hl]
  exact eP (fun _=>no pk) fun h=>absurd hs h
 | cons b l =>
  have hne:s≠⟨#[]⟩:=fun e=>by subst e;simp at hl
  have hg:s.data[(0:Int).toNat]? = some b:=by
   show s.data[0]? = some b
   rw[←Array.getElem?_toList,hl];rfl
  refine eP (fun h=>absurd h hne) fun _=>⟨b,Int.le_refl 0,hg,rfl,b,Int.le_refl 0,hg,?_⟩
  dsimp only
  rw[G4,lo5]
  have pk:bZ s a1 a2=(if (¬ ((b.toNat / 32:Nat):Int)=a1∧¬ ((b.toNat / 32:Nat):Int)=a2)∨27<b.toNat % 32 then (0,0,0,5)
   else if b.toNat % 32<24 then (((b.toNat / 32:Nat):Int),((b.toNat % 32:Nat):Int),1,0)
   else if l.length<2 ^ (b.toNat % 32-24) then (0,0,0,3)
   else if zK (dA (b.toNat / 32) (DM ((l.take (2 ^ (b.toNat % 32-24))).map UInt8.toNat)))=s.extract 0 (1+2 ^ (b.toNat % 32-24)) then
    (((b.toNat / 32:Nat):Int),((DM ((l.take (2 ^ (b.toNat % 32-24))).map UInt8.toNat):Nat):Int),((1+2 ^ (b.toNat % 32-24):Nat):Int),0)
   else (0,0,0,5)):=by unfold bZ;rw[hl]
  refine AH8 (fun h1 h2=>no ?_) fun h12=>?_
  ·rw[pk,if_pos (.inl ⟨of_decide_eq_false h1,of_decide_eq_false h2⟩)]
  have h12:¬ (¬ ((b.toNat / 32:Nat):Int)=a1∧¬ ((b.toNat / 32:Nat):Int)=a2):=fun h=>h12.elim (fun e=>h.1 (of_decide_eq_true e)) fun e=>h.2 (of_decide_eq_true e)
  refine eP (fun h=>no ?_) fun h27=>?_
  ·rw[pk,if_pos (.inr (by omega))]
  have c1:¬ ((¬ ((b.toNat / 32:Nat):Int)=a1∧¬ ((b.toNat / 32:Nat):Int)=a2)∨27<b.toNat % 32):=fun h=>h.elim h12 fun h=>by omega
  rw[if_neg c1] at pk
  refine eP (fun h=>?_) fun h24=>?_
  ·rw[pk,if_pos (by omega),wrap_u64 (by omega) (by omega)];rfl
  rw[if_neg (by omega)] at pk
  have m1:24≤b.toNat % 32:=by omega
  have m2:b.toNat % 32≤27:=by omega
  rw[AHH m1 m2,countP m1 m2]
  generalize hn:2 ^ (b.toNat % 32-24)=n at *
  have hn':n=1∨n=2∨n=4∨n=8:=by
   have:b.toNat % 32=24∨b.toNat % 32=25∨b.toNat % 32=26∨b.toNat % 32=27:=by omega
   rcases this with h|h|h|h<;>rw[h] at hn<;>simp at hn<;>omega
  have hsz:s.size=l.length+1:=by
   have:=congrArg List.length hl
   simpa using this
  refine ⟨by rw[Bool.and_eq_true];exact ⟨decide_eq_true (by omega),decide_eq_true (by omega)⟩,?_⟩
  refine eP (fun h=>no ?_) fun hlt=>?_
  ·rw[pk,if_pos (by omega)]
  rw[if_neg (by omega)] at pk
  have hN:((1+n:Nat):Int).toNat=1+n:=Int.toNat_natCast _
  rw[hN]
  have hx:(s.extract (Int.toNat 1) (1+n)).data.toList=l.take n:=by
   rw[ByteArray.data_extract,Array.toList_extract,hl]
   simp
  have hxs:(s.extract (Int.toNat 1) (1+n)).size=n:=by
   have:=congrArg List.length hx
   rw[List.length_take] at this
   have e:(s.extract (Int.toNat 1) (1+n)).data.toList.length=(s.extract (Int.toNat 1) (1+n)).size:=rfl
   omega
  refine ⟨by rw[Bool.and_eq_true,Bool.and_eq_true];exact ⟨⟨decide_eq_true (by omega),decide_eq_true (by omega)⟩,decide_eq_true (by show 1≤_;omega)⟩,decide_eq_true (by omega),?_⟩
  refine cS n (fun k st=>st=(((DM ((l.take k).map UInt8.toNat):Nat):Int),(k:Int),())) rfl ?_
  rintro X k st hk rfl hX
  dsimp only
  have hbl:(iW (s.extract (Int.toNat 1) (1+n))).length=n:=by
   unfold iW;rw[List.length_map,hx,List.length_take];omega
  rw[hbl]
  have hv:∀ j,j≤8→DM ((l.take j).map UInt8.toNat)<256 ^ j:=fun j hj=>by
   have:=MQ _ ((l.take j).map UInt8.toNat) rfl (fun b hb=>by
    obtain ⟨c,_,rfl⟩:=List.mem_map.1 hb
    exact c.toNat_lt)
   rw[List.length_map,List.length_take] at this
   exact Nat.lt_of_lt_of_le this (Nat.pow_le_pow_right (by omega) (by omega))
  refine eP (fun hlt2=>?_) fun hge=>?_
  ·have hkn:k<n:=by omega
   have hkl:k<l.length:=by omega
   refine ⟨((l[k].toNat:Nat):Int),by omega,?_,rfl,?_⟩
   ·rw[Int.toNat_natCast,List.getElem?_map]
    show Option.map _ ((s.extract (Int.toNat 1) (1+n)).data.toList[k]?)=_
    rw[hx,List.getElem?_take,if_pos hkn,List.getElem?_eq_getElem hkl];rfl
   ·refine hX _ hkn ?_
    have h7:DM ((l.take k).map UInt8.toNat)<72057594037927936:=Nat.lt_of_lt_of_le (hv k (by omega)) (Nat.pow_le_pow_right (n:=256) (by omega) (show k≤7 by omega))
    rw[AE2 h7 l[k].toNat_lt,cX _ (by omega) (by omega)]
    refine Prod.ext ?_ rfl
    show ((256*DM ((l.take k).map UInt8.toNat)+l[k].toNat:Nat):Int)=((DM ((l.take (k+1)).map UInt8.toNat):Nat):Int)
    rw[List.take_succ_eq_append_getElem hkl,List.map_append]
    exact congrArg _ (JD _ _).symm
  ·have hkn:k=n:=by omega
   subst hkn
   have h8:DM ((l.take k).map UInt8.toNat)<18446744073709551616:=Nat.lt_of_lt_of_le (hv k (by omega)) (Nat.pow_le_pow_right (n:=256) (by omega) (show k≤8 by omega))
   have hb8:b.toNat / 32<8:=by have:=b.toNat_lt;omega
   refine aM (s:=[(false,(Sy.int .u8).li)]) (y:=PV (b.toNat / 32) (DM ((l.take k).map UInt8.toNat))) ?_ ?_
   ·refine (NH ((b.toNat / 32:Nat):Int) ((DM ((l.take k).map UInt8.toNat):Nat):Int)).trans ?_
    unfold wG
    dsimp only
    rw[decide_eq_true (by omega),decide_eq_true (by omega),decide_eq_true (by omega),decide_eq_true (by omega)]
    rfl
   rw[j6 (r:=.int .u8) rfl]
   refine ⟨by rw[Bool.and_eq_true,Bool.and_eq_true];exact ⟨⟨decide_eq_true (by omega),decide_eq_true (by omega)⟩,rfl⟩,?_⟩
   have hst:strOfNums (PV (b.toNat / 32) (DM ((l.take k).map UInt8.toNat)))=zK (dA (b.toNat / 32) (DM ((l.take k).map UInt8.toNat))):=sD _
   rw[hst]
   refine G5 (fun h=>no ?_) fun h=>?_
   ·rw[pk,if_neg h]
   ·rw[pk,if_pos h];rfl
end Go.Pv
namespace Go.Pv
open Go Go.Proofs
theorem l8 {s:ByteArray} {one two k v n:Int} (h:bZ s one two=(k,v,n,0)):(k=one∨k=two)∧(0≤n∧n.toNat≤s.size)∧0≤v∧v<18446744073709551616:=by
 unfold bZ at h
 cases hl:s.data.toList with
 | nil=>rw[hl] at h;simp at h
 | cons b l =>
  have hsz:s.size=l.length+1:=by
   have:=congrArg List.length hl
   simpa using this
  rw[hl] at h
  dsimp only at h
  split at h
  ·simp at h
  rename_i c1
  rw[not_or] at c1
  have ck:((b.toNat / 32:Nat):Int)=one∨((b.toNat / 32:Nat):Int)=two:=by
   rcases Classical.em (((b.toNat / 32:Nat):Int)=one) with g|g
   ·exact .inl g
   ·exact .inr (Classical.byContradiction fun g'=>c1.1 ⟨g,g'⟩)
  split at h
  ·simp only[Prod.mk.injEq] at h
   obtain ⟨rfl,rfl,rfl,_⟩:=h
   exact ⟨ck,⟨by omega,by omega⟩,by omega,by omega⟩
  split at h
  ·simp at h
  rename_i c2
  split at h
  ·simp only[Prod.mk.injEq] at h
   obtain ⟨rfl,rfl,rfl,_⟩:=h
   have h1:2 ^ (b.toNat % 32-24)≤8:=by
    have:b.toNat % 32-24≤3:=by omega
    exact Nat.pow_le_pow_right (n:=2) (by omega) this
   have hv:=MQ _ ((l.take (2 ^ (b.toNat % 32-24))).map UInt8.toNat) rfl (fun b hb=>by
    obtain ⟨c,_,rfl⟩:=List.mem_map.1 hb
    exact c.toNat_lt)
   rw[List.length_map,List.length_take] at hv
   have h3:(256:Nat) ^ (min (2 ^ (b.toNat % 32-24)) l.length)≤256 ^ 8:=Nat.pow_le_pow_right (by omega) (by omega)
   exact ⟨ck,⟨Int.natCast_nonneg _,by rw[Int.toNat_natCast];omega⟩,Int.natCast_nonneg _,by omega⟩
  ·simp at h
theorem xor_not {v:Int} (h0:0≤v) (h1:v<9223372036854775808):bits .xor .i64 (if IntKind.i64.signed=true then -1 else IntKind.i64.max) v = -1-v:=by
 show bits .xor .i64 (-1) v = -1-v
 have e1:BitVec.ofInt 64 (-1)=BitVec.allOnes 64:=by decide
 have e2:(BitVec.ofInt 64 v).toNat=(v % 18446744073709551616).toNat:=by rw[BitVec.toNat_ofInt];rfl
 have e3:((BitVec.ofInt 64 (-1) ^^^ BitVec.ofInt 64 v).toNat:Int)=18446744073709551615-v:=by
  rw[e1,BitVec.allOnes_xor,BitVec.toNat_not,e2]
  omega
 show IntKind.i64.wrap ((BitVec.ofInt 64 (-1) ^^^ BitVec.ofInt 64 v).toNat:Int) = -1-v
 rw[e3]
 show (if (true&&decide ((18446744073709551615-v) % 18446744073709551616≥9223372036854775808))=true then (18446744073709551615-v) % 18446744073709551616-18446744073709551616 else (18446744073709551615-v) % 18446744073709551616)=_
 split
 ·omega
 ·rename_i h
  simp at h
  omega
def jN (r:ByteArray×Int) (lo hi:Int):(ByteArray×Int)×Int :=
 if ¬ r.2=0 then (r,0)
 else if ¬ (bZ r.1 0 1).2.2.2=0 then ((r.1,(bZ r.1 0 1).2.2.2),0)
 else if ¬ (bZ r.1 0 1).2.1<9223372036854775808 then ((r.1,5),0)
 else
  let x:=if (bZ r.1 0 1).1=1 then -1-(bZ r.1 0 1).2.1 else (bZ r.1 0 1).2.1
  if x<lo∨hi<x then ((r.1,9),0) else ((r.1.extract (bZ r.1 0 1).2.2.1.toNat r.1.size,0),x)
noncomputable def FV:Env:=Env.of [(74,.kG sV)]
def O1:FuncId→Hint:=fun _=>bW
theorem RF:aH Tryz.prog FV:=.cons PU (.nil _)
def F7 (a0:aB) (a1:Int) (a2:Int) (R:T→Prop):Prop :=
 aF (!decide (a0.2=0))
 (R (T.bN [aG true aA a0,T.v (.int .i64 0)]))
 (aE
 [(true,aA),(false,Sy.int IntKind.i64),(false,Sy.int IntKind.u64),
 (false,Sy.int IntKind.i64),(false,Sy.int IntKind.i64)]
 (sV
 [aG true aA a0,T.v (.int .i64 0),
 T.v (.int .i64 1)])
 fun (y0:aB×Int×GD) =>
 aF (decide (y0.2.2.2.2=0))
 (aF (!decide (y0.2.2.1 / 2 ^ Int.toNat 63=0))
 (aF (decide (y0.2.1=1))
 (R
 (T.bN
 [T.agg [T.v (.string y0.1.1),T.v (.int .i64 5)],
 T.v (.int .i64 0)]))
 (R
 (T.bN
 [T.agg [T.v (.string y0.1.1),T.v (.int .i64 5)],
 T.v (.int .i64 0)])))
 (aF (decide (y0.2.1=1))
 (aF (decide (y0.2.2.2.2=0))
 (aF
 (decide
 (bits BinOp.xor IntKind.i64 (if IntKind.i64.signed=true then -1 else IntKind.i64.max)
 (IntKind.i64.wrap y0.2.2.1) <
 a1))
 (R
 (T.bN
 [T.agg [T.v (.string y0.1.1),T.v (.int .i64 9)],
 T.v (.int .i64 0)]))
 (aF
 (decide
 (a2 <
 bits BinOp.xor IntKind.i64
 (if IntKind.i64.signed=true then -1 else IntKind.i64.max)
 (IntKind.i64.wrap y0.2.2.1)))
 (R
 (T.bN
 [T.agg [T.v (.string y0.1.1),T.v (.int .i64 9)],
 T.v (.int .i64 0)]))
 (aF (!decide (y0.2.2.2.2=0))
 (R
 (T.bN
 [T.agg
 [T.v (.string y0.1.1),
 T.v (.int .i64 y0.2.2.2.2)],
 T.v (.int .i64 0)]))
 (aD
 (decide (ByteArray.size y0.1.1≤ByteArray.size y0.1.1) &&
 (decide (0≤y0.2.2.2.1) &&
 decide (Int.toNat y0.2.2.2.1≤ByteArray.size y0.1.1)))
 (R
 (T.bN
 [T.agg
 [T.v (.string (ByteArray.extract y0.1.1 (Int.toNat y0.2.2.2.1)
 (ByteArray.size y0.1.1))),
 T.v (.int .i64 y0.2.2.2.2)],
 T.v (.int .i64 (bits BinOp.xor IntKind.i64
 (if IntKind.i64.signed=true then -1 else IntKind.i64.max)
 (IntKind.i64.wrap y0.2.2.1)))]))))))
 (aF (!decide (y0.2.2.2.2=0))
 (R
 (T.bN
 [T.agg
 [T.v (.string y0.1.1),
 T.v (.int .i64 y0.2.2.2.2)],
 T.v (.int .i64 0)]))
 (aD
 (decide (ByteArray.size y0.1.1≤ByteArray.size y0.1.1) &&
 (decide (0≤y0.2.2.2.1) &&
 decide (Int.toNat y0.2.2.2.1≤ByteArray.size y0.1.1)))
 (R
 (T.bN
 [T.agg
 [T.v (.string (ByteArray.extract y0.1.1 (Int.toNat y0.2.2.2.1)
 (ByteArray.size y0.1.1))),
 T.v (.int .i64 y0.2.2.2.2)],
 T.v (.int .i64 (bits BinOp.xor IntKind.i64
 (if IntKind.i64.signed=true then -1 else IntKind.i64.max)
 (IntKind.i64.wrap y0.2.2.1)))])))))
 (aF (decide (y0.2.2.2.2=0))
 (aF (decide (IntKind.i64.wrap y0.2.2.1<a1))
 (R
 (T.bN
 [T.agg [T.v (.string y0.1.1),T.v (.int .i64 9)],
 T.v (.int .i64 0)]))
 (aF (decide (a2<IntKind.i64.wrap y0.2.2.1))
 (R
 (T.bN
 [T.agg [T.v (.string y0.1.1),T.v (.int .i64 9)],
 T.v (.int .i64 0)]))
 (aF (!decide (y0.2.2.2.2=0))
 (R
 (T.bN
 [T.agg
 [T.v (.string y0.1.1),
 T.v (.int .i64 y0.2.2.2.2)],
 T.v (.int .i64 0)]))
 (aD
 (decide (ByteArray.size y0.1.1≤ByteArray.size y0.1.1) &&
 (decide (0≤y0.2.2.2.1) &&
 decide (Int.toNat y0.2.2.2.1≤ByteArray.size y0.1.1)))
 (R
 (T.bN
 [T.agg
 [T.v (.string (ByteArray.extract y0.1.1 (Int.toNat y0.2.2.2.1)
 (ByteArray.size y0.1.1))),
 T.v (.int .i64 y0.2.2.2.2)],
 T.v (.int .i64 (IntKind.i64.wrap y0.2.2.1))]))))))
 (aF (!decide (y0.2.2.2.2=0))
 (R
 (T.bN
 [T.agg
 [T.v (.string y0.1.1),
 T.v (.int .i64 y0.2.2.2.2)],
 T.v (.int .i64 0)]))
 (aD
 (decide (ByteArray.size y0.1.1≤ByteArray.size y0.1.1) &&
 (decide (0≤y0.2.2.2.1) &&
 decide (Int.toNat y0.2.2.2.1≤ByteArray.size y0.1.1)))
 (R
 (T.bN
 [T.agg
 [T.v (.string (ByteArray.extract y0.1.1 (Int.toNat y0.2.2.2.1)
 (ByteArray.size y0.1.1))),
 T.v (.int .i64 y0.2.2.2.2)],
 T.v (.int .i64 (IntKind.i64.wrap y0.2.2.1))])))))))
 (aF (decide (y0.2.1=1))
 (aF (decide (y0.2.2.2.2=0))
 (aF
 (decide
 (bits BinOp.xor IntKind.i64 (if IntKind.i64.signed=true then -1 else IntKind.i64.max)
 (IntKind.i64.wrap y0.2.2.1) <
 a1))
 (R
 (T.bN
 [T.agg [T.v (.string y0.1.1),T.v (.int .i64 9)],
 T.v (.int .i64 0)]))
 (aF
 (decide
 (a2 <
 bits BinOp.xor IntKind.i64 (if IntKind.i64.signed=true then -1 else IntKind.i64.max)
 (IntKind.i64.wrap y0.2.2.1)))
 (R
 (T.bN
 [T.agg [T.v (.string y0.1.1),T.v (.int .i64 9)],
 T.v (.int .i64 0)]))
 (aF (!decide (y0.2.2.2.2=0))
 (R
 (T.bN
 [T.agg
 [T.v (.string y0.1.1),
 T.v (.int .i64 y0.2.2.2.2)],
 T.v (.int .i64 0)]))
 (aD
 (decide (ByteArray.size y0.1.1≤ByteArray.size y0.1.1) &&
 (decide (0≤y0.2.2.2.1) &&
 decide (Int.toNat y0.2.2.2.1≤ByteArray.size y0.1.1)))
 (R
 (T.bN
 [T.agg
 [T.v (.string (ByteArray.extract y0.1.1 (Int.toNat y0.2.2.2.1)
 (ByteArray.size y0.1.1))),
 T.v (.int .i64 y0.2.2.2.2)],
 T.v (.int .i64 (bits BinOp.xor IntKind.i64
 (if IntKind.i64.signed=true then -1 else IntKind.i64.max)
 (IntKind.i64.wrap y0.2.2.1)))]))))))
 (aF (!decide (y0.2.2.2.2=0))
 (R
 (T.bN
 [T.agg
 [T.v (.string y0.1.1),
 T.v (.int .i64 y0.2.2.2.2)],
 T.v (.int .i64 0)]))
 (aD
 (decide (ByteArray.size y0.1.1≤ByteArray.size y0.1.1) &&
 (decide (0≤y0.2.2.2.1)&&decide (Int.toNat y0.2.2.2.1≤ByteArray.size y0.1.1)))
 (R
 (T.bN
 [T.agg
 [T.v (.string (ByteArray.extract y0.1.1 (Int.toNat y0.2.2.2.1) (ByteArray.size y0.1.1))),
 T.v (.int .i64 y0.2.2.2.2)],
 T.v (.int .i64 (bits BinOp.xor IntKind.i64
 (if IntKind.i64.signed=true then -1 else IntKind.i64.max)
 (IntKind.i64.wrap y0.2.2.1)))])))))
 (aF (decide (y0.2.2.2.2=0))
 (aF (decide (IntKind.i64.wrap y0.2.2.1<a1))
 (R
 (T.bN
 [T.agg [T.v (.string y0.1.1),T.v (.int .i64 9)],
 T.v (.int .i64 0)]))
 (aF (decide (a2<IntKind.i64.wrap y0.2.2.1))
 (R
 (T.bN
 [T.agg [T.v (.string y0.1.1),T.v (.int .i64 9)],
 T.v (.int .i64 0)]))
 (aF (!decide (y0.2.2.2.2=0))
 (R
 (T.bN
 [T.agg
 [T.v (.string y0.1.1),
 T.v (.int .i64 y0.2.2.2.2)],
 T.v (.int .i64 0)]))
 (aD
 (decide (ByteArray.size y0.1.1≤ByteArray.size y0.1.1) &&
 (decide (0≤y0.2.2.2.1) &&
 decide (Int.toNat y0.2.2.2.1≤ByteArray.size y0.1.1)))
 (R
 (T.bN
 [T.agg
 [T.v (.string (ByteArray.extract y0.1.1 (Int.toNat y0.2.2.2.1)
 (ByteArray.size y0.1.1))),
 T.v (.int .i64 y0.2.2.2.2)],
 T.v (.int .i64 (IntKind.i64.wrap y0.2.2.1))]))))))
 (aF (!decide (y0.2.2.2.2=0))
 (R
 (T.bN
 [T.agg
 [T.v (.string y0.1.1),
 T.v (.int .i64 y0.2.2.2.2)],
 T.v (.int .i64 0)]))
 (aD
 (decide (ByteArray.size y0.1.1≤ByteArray.size y0.1.1) &&
 (decide (0≤y0.2.2.2.1)&&decide (Int.toNat y0.2.2.2.1≤ByteArray.size y0.1.1)))
 (R
 (T.bN
 [T.agg
 [T.v (.string (ByteArray.extract y0.1.1 (Int.toNat y0.2.2.2.1) (ByteArray.size y0.1.1))),
 T.v (.int .i64 y0.2.2.2.2)],
 T.v (.int .i64 (IntKind.i64.wrap y0.2.2.1))])))))))
theorem MF ( a0 a1 a2 R):jO b9 Tryz.prog FV O1 8 75 [aG true aA a0,aG false (Sy.int IntKind.i64) a1,
 aG false (Sy.int IntKind.i64) a2] R=F7 a0 a1 a2 R:=by kernel_rfl
abbrev zR:Sh:=[(true,aA),(false,(Sy.int IntKind.i64)),(false,(Sy.int IntKind.i64))]
abbrev HR:Sh:=[(true,aA),(false,Sy.int IntKind.i64)]
def C6 (x:cW×Int×Int):Option T:=some (Sh.enc HR (jN x.1 x.2.1 x.2.2))
noncomputable def b8:List T→Option (T):=gS zR C6
theorem NL {a0 a1 a2}:b8 [aG true aA a0,T.v (.int .i64 a1),
 T.v (.int .i64 a2)]=C6 (a0,a1,a2):=cG (s:=zR) rfl (a0,a1,a2) rfl
theorem YC (h:∀ a0 a1 a2 r,C6 (a0,a1,a2)=some r→fF zR (a0,a1,a2)→F7 a0 a1 a2 (fun y=>y=r)):eQ Tryz.prog 75 b8 :=
 iK (E:=FV) (Hs:=O1) RF bA bJ (aX rfl) 8 ⟨_,_,Tryz.func75,rfl⟩ rfl fun x r h1 h2=>by
  obtain ⟨a0,a1,a2⟩:=x
  rw[show Sh.fS zR (a0,a1,a2)=[aG true aA a0,aG false (Sy.int IntKind.i64) a1,
 aG false (Sy.int IntKind.i64) a2] from rfl,MF]
  exact h a0 a1 a2 r h1 h2
theorem BS:eQ Tryz.prog 75 b8:=YC fun a0 a1 a2 r h hb=>by
 cases h
 clear hb
 obtain ⟨s,e0⟩:=a0
 unfold F7
 dsimp only
 refine G5 (fun h=>by unfold jN;rw[if_pos h];rfl) fun h0=>?_
 refine aM (s:=HQ) (y:=((s,e0),bZ s 0 1)) (ES ..) ?_
 have rd:jN (s,e0) a1 a2=(if ¬ (bZ s 0 1).2.2.2=0 then ((s,(bZ s 0 1).2.2.2),0)
  else if ¬ (bZ s 0 1).2.1<9223372036854775808 then ((s,5),0)
  else
   let x:=if (bZ s 0 1).1=1 then -1-(bZ s 0 1).2.1 else (bZ s 0 1).2.1
   if x<a1∨a2<x then ((s,9),0) else ((s.extract (bZ s 0 1).2.2.1.toNat s.size,0),x)):=by
  unfold jN;rw[if_neg (fun h=>h h0)]
 rw[rd]
 generalize hq:bZ s 0 1=q
 obtain ⟨k,v,n,e⟩:=q
 dsimp only
 have fin:∀ {y:(ByteArray×Int)×Int},T.bN [T.agg [T.v (.string y.1.1),T.v (.int .i64 y.1.2)],T.v (.int .i64 y.2)]=Sh.enc HR y:=rfl
 refine eP (fun he=>?_) fun he=>?_
 ·subst he
  obtain ⟨hk,⟨n1,n2⟩,v1,v2⟩:=l8 hq
  rw[if_neg (fun h=>h rfl)]
  have hv:v / 2 ^ Int.toNat 63=0↔v<9223372036854775808:=by
   rw[show (2:Int) ^ Int.toNat 63=9223372036854775808 from rfl];omega
  refine G5 (fun h=>?_) fun h=>?_
  ·rw[if_pos (show ¬ v<9223372036854775808 from fun g=>h (hv.2 g))];exact eP (fun _=>rfl) fun _=>rfl
  have hv':=hv.1 h
  have ww:IntKind.i64.wrap v=v:=cX _ (by omega) (by omega)
  have cn:(decide (s.size≤s.size)&&(decide (0≤n)&&decide (n.toNat≤s.size)))=true:=by
   rw[decide_eq_true (Nat.le_refl _),decide_eq_true n1,decide_eq_true n2];rfl
  rw[ww,xor_not v1 hv',if_neg (show ¬ ¬ v<9223372036854775808 from fun g=>g hv')]
  refine eP (fun hk1=>?_) fun hk1=>?_
  ·rw[if_pos hk1]
   refine eP (fun _=>?_) fun h=>absurd rfl h
   refine eP (fun h=>?_) fun h1=>?_
   ·rw[if_pos (.inl h)];rfl
   refine eP (fun h=>?_) fun h2=>?_
   ·rw[if_pos (.inr h)];rfl
   rw[if_neg (fun h=>h.elim h1 h2)]
   exact G5 (fun h=>absurd rfl h) fun _=>⟨cn,rfl⟩
  ·rw[if_neg hk1]
   refine eP (fun _=>?_) fun h=>absurd rfl h
   refine eP (fun h=>?_) fun h1=>?_
   ·rw[if_pos (.inl h)];rfl
   refine eP (fun h=>?_) fun h2=>?_
   ·rw[if_pos (.inr h)];rfl
   rw[if_neg (fun h=>h.elim h1 h2)]
   exact G5 (fun h=>absurd rfl h) fun _=>⟨cn,rfl⟩
 ·rw[if_pos he]
  refine eP (fun _=>?_) fun _=>?_
  ·refine eP (fun h=>absurd h he) fun _=>?_
   exact G5 (fun _=>rfl) fun h=>absurd h he
  ·refine eP (fun h=>absurd h he) fun _=>?_
   exact G5 (fun _=>rfl) fun h=>absurd h he
end Go.Pv
namespace Go.Pv
open Go Go.Proofs
def aI (r:ByteArray×Int) (kind most:Int) (follow:Bool):(ByteArray×Int)×Int :=
 if ¬ r.2=0 then (r,0)
 else if ¬ (bZ r.1 kind kind).2.2.2=0 then ((r.1,(bZ r.1 kind kind).2.2.2),0)
 else if most<0∨most<(bZ r.1 kind kind).2.1 then ((r.1,4),0)
 else if follow=true∧(r.1.size:Int)-(bZ r.1 kind kind).2.2.1<(bZ r.1 kind kind).2.1 then ((r.1,3),0)
 else ((r.1.extract (bZ r.1 kind kind).2.2.1.toNat r.1.size,0),(bZ r.1 kind kind).2.1)
noncomputable def FU:Env:=Env.of [(74,.kG sV)]
def O0:FuncId→Hint:=fun _=>bW
theorem RE:aH Tryz.prog FU:=.cons PU (.nil _)
def F6 (a0:aB) (a1:Int) (a2:Int) (a3:Bool) (R:T→Prop):Prop :=
 aF (!decide (a0.2=0))
 (R (T.bN [aG true aA a0,T.v (.int .i64 0)]))
 (aE
 [(true,aA),(false,Sy.int IntKind.i64),(false,Sy.int IntKind.u64),
 (false,Sy.int IntKind.i64),(false,Sy.int IntKind.i64)]
 (sV
 [aG true aA a0,T.v (.int .i64 a1),
 T.v (.int .i64 a1)])
 fun (y0:aB×Int×GD) =>
 aF (!decide (y0.2.2.2.2=0))
 (aF (!decide (y0.2.2.2.2=0))
 (R
 (T.bN
 [T.agg
 [T.v (.string y0.1.1),T.v (.int .i64 y0.2.2.2.2)],
 T.v (.int .i64 0)]))
 (aD
 (decide (ByteArray.size y0.1.1≤ByteArray.size y0.1.1) &&
 (decide (0≤y0.2.2.2.1)&&decide (Int.toNat y0.2.2.2.1≤ByteArray.size y0.1.1)))
 (R
 (T.bN
 [T.agg
 [T.v (.string (ByteArray.extract y0.1.1 (Int.toNat y0.2.2.2.1) (ByteArray.size y0.1.1))),
 T.v (.int .i64 y0.2.2.2.2)],
 T.v (.int .i64 (IntKind.i64.wrap y0.2.2.1))]))))
 (aF (decide (a2<0))
 (R
 (T.bN
 [T.agg [T.v (.string y0.1.1),T.v (.int .i64 4)],
 T.v (.int .i64 0)]))
 (aF (decide (IntKind.u64.wrap a2<y0.2.2.1))
 (R
 (T.bN
 [T.agg [T.v (.string y0.1.1),T.v (.int .i64 4)],
 T.v (.int .i64 0)]))
 (aF a3
 (aF
 (decide
 (IntKind.u64.wrap (IntKind.i64.wrap ((↑(ByteArray.size y0.1.1):Int)-y0.2.2.2.1)) <
 y0.2.2.1))
 (R
 (T.bN
 [T.agg [T.v (.string y0.1.1),T.v (.int .i64 3)],
 T.v (.int .i64 0)]))
 (aF (!decide (y0.2.2.2.2=0))
 (R
 (T.bN
 [T.agg
 [T.v (.string y0.1.1),
 T.v (.int .i64 y0.2.2.2.2)],
 T.v (.int .i64 0)]))
 (aD
 (decide (ByteArray.size y0.1.1≤ByteArray.size y0.1.1) &&
 (decide (0≤y0.2.2.2.1) &&
 decide (Int.toNat y0.2.2.2.1≤ByteArray.size y0.1.1)))
 (R
 (T.bN
 [T.agg
 [T.v (.string (ByteArray.extract y0.1.1 (Int.toNat y0.2.2.2.1)
 (ByteArray.size y0.1.1))),
 T.v (.int .i64 y0.2.2.2.2)],
 T.v (.int .i64 (IntKind.i64.wrap y0.2.2.1))])))))
 (aF (!decide (y0.2.2.2.2=0))
 (R
 (T.bN
 [T.agg
 [T.v (.string y0.1.1),
 T.v (.int .i64 y0.2.2.2.2)],
 T.v (.int .i64 0)]))
 (aD
 (decide (ByteArray.size y0.1.1≤ByteArray.size y0.1.1) &&
 (decide (0≤y0.2.2.2.1) &&
 decide (Int.toNat y0.2.2.2.1≤ByteArray.size y0.1.1)))
 (R
 (T.bN
 [T.agg
 [T.v (.string (ByteArray.extract y0.1.1 (Int.toNat y0.2.2.2.1)
 (ByteArray.size y0.1.1))),
 T.v (.int .i64 y0.2.2.2.2)],
 T.v (.int .i64 (IntKind.i64.wrap y0.2.2.1))]))))))))
theorem ME ( a0 a1 a2 a3 R):jO b9 Tryz.prog FU O0 8 52 [aG true aA a0,aG false (Sy.int IntKind.i64) a1,
 aG false (Sy.int IntKind.i64) a2,aG false Sy.bool a3] R=F6 a0 a1 a2 a3 R:=by kernel_rfl
abbrev zQ:Sh:=[(true,aA),(false,(Sy.int IntKind.i64)),(false,(Sy.int IntKind.i64)),(false,Sy.bool)]
abbrev zN:Sh:=[(true,aA),(false,Sy.int IntKind.i64)]
def pA (x:cW×Int×Int×Bool):Option T:=match decide (x.2.2.1<9223372036854775808)&&decide (x.1.1.size≤140737488355328) with
 | true=>some (Sh.enc zN (aI x.1 x.2.1 x.2.2.1 x.2.2.2))
 | false=>none
noncomputable def kZ:List T→Option (T):=gS zQ pA
theorem NK {a0 a1 a2 a3}:kZ [aG true aA a0,T.v (.int .i64 a1),
 T.v (.int .i64 a2),T.v (.bool a3)]=pA (a0,a1,a2,a3):=cG (s:=zQ) rfl (a0,a1,a2,a3) rfl
theorem YB (h:∀ a0 a1 a2 a3 r,pA (a0,a1,a2,a3)=some r→fF zQ (a0,a1,a2,a3)→F6 a0 a1 a2 a3 (fun y=>y=r)):eQ Tryz.prog 52 kZ :=
 iK (E:=FU) (Hs:=O0) RE bA bJ (aX rfl) 8 ⟨_,_,Tryz.func52,rfl⟩ rfl fun x r h1 h2=>by
  obtain ⟨a0,a1,a2,a3⟩:=x
  rw[show Sh.fS zQ (a0,a1,a2,a3)=[aG true aA a0,aG false (Sy.int IntKind.i64) a1,
 aG false (Sy.int IntKind.i64) a2,aG false Sy.bool a3] from rfl,ME]
  exact h a0 a1 a2 a3 r h1 h2
theorem JV:eQ Tryz.prog 52 kZ:=YB fun a0 a1 a2 a3 r h hb=>by
 clear hb
 obtain ⟨hc,rfl⟩:=KY h
 clear h
 obtain ⟨s,e0⟩:=a0
 rw[Bool.and_eq_true,decide_eq_true_eq,decide_eq_true_eq] at hc
 obtain ⟨b1,b2⟩:=hc
 dsimp only at b1 b2
 unfold F6
 dsimp only
 refine G5 (fun h=>by unfold aI;rw[if_pos h];rfl) fun h0=>?_
 refine aM (s:=HQ) (y:=((s,e0),bZ s a1 a1)) (ES ..) ?_
 have rd:aI (s,e0) a1 a2 a3=(if ¬ (bZ s a1 a1).2.2.2=0 then ((s,(bZ s a1 a1).2.2.2),0)
  else if a2<0∨a2<(bZ s a1 a1).2.1 then ((s,4),0)
  else if a3=true∧(s.size:Int)-(bZ s a1 a1).2.2.1<(bZ s a1 a1).2.1 then ((s,3),0)
  else ((s.extract (bZ s a1 a1).2.2.1.toNat s.size,0),(bZ s a1 a1).2.1)):=by
  unfold aI;rw[if_neg (fun h=>h h0)]
 rw[rd]
 generalize hq:bZ s a1 a1=q
 obtain ⟨k,v,n,e⟩:=q
 dsimp only
 refine G5 (fun he=>?_) fun he=>?_
 ·rw[if_pos he]
  exact G5 (fun _=>rfl) fun h=>absurd h he
 ·subst he
  obtain ⟨hk,⟨n1,n2⟩,v1,v2⟩:=l8 hq
  rw[if_neg (fun h=>h rfl)]
  have cn:(decide (s.size≤s.size)&&(decide (0≤n)&&decide (n.toNat≤s.size)))=true:=by
   rw[decide_eq_true (Nat.le_refl _),decide_eq_true n1,decide_eq_true n2];rfl
  refine eP (fun h=>?_) fun h1=>?_
  ·rw[if_pos (.inl h)];rfl
  rw[wrap_u64 (show 0≤a2 by omega) (by omega)]
  refine eP (fun h=>?_) fun h2=>?_
  ·rw[if_pos (.inr h)];rfl
  rw[if_neg (fun h=>h.elim h1 h2)]
  have wv:IntKind.i64.wrap v=v:=cX _ (by omega) (by omega)
  have ws:IntKind.u64.wrap (IntKind.i64.wrap ((s.size:Int)-n))=(s.size:Int)-n:=by
   rw[cX _ (by omega) (by omega),wrap_u64 (by omega) (by omega)]
  refine ifB (fun hf=>?_) fun hf=>?_
  ·rw[ws]
   refine eP (fun h=>?_) fun h3=>?_
   ·rw[if_pos ⟨hf,h⟩];rfl
   rw[if_neg (fun h=>h3 h.2)]
   refine G5 (fun h=>absurd rfl h) fun _=>⟨cn,?_⟩
   rw[wv];rfl
  ·rw[if_neg (fun h=>by rw[hf] at h;cases h.1)]
   refine G5 (fun h=>absurd rfl h) fun _=>⟨cn,?_⟩
   rw[wv];rfl
end Go.Pv
namespace Go.Pv
open Go Go.Proofs
noncomputable def zZ:Env:=Env.of [(52,.kG kZ)]
def IW:FuncId→Hint:=fun _=>bW
theorem L2:aH Tryz.prog zZ:=.cons JV (.nil _)
def AI (a0:aB) (a1:Int) (R:T→Prop):Prop :=
 aE [(true,aA),(false,Sy.int IntKind.i64)]
 (kZ
 [aG true aA a0,T.v (.int .i64 4),
 T.v (.int .i64 a1),T.v (.bool false)])
 fun (y0:aB×Int) =>
 R (T.bN [aG true aA y0.1,T.v (.int .i64 y0.2)])
theorem IP ( a0 a1 R):jO b9 Tryz.prog zZ IW 8 31 [aG true aA a0,aG false (Sy.int IntKind.i64) a1] R=AI a0 a1 R:=by kernel_rfl
abbrev wA:Sh:=[(true,aA),(false,(Sy.int IntKind.i64))]
abbrev LA:Sh:=[(true,aA),(false,Sy.int IntKind.i64)]
noncomputable def AA:Env:=Env.of [(52,.kG kZ)]
def IX:FuncId→Hint:=fun _=>bW
theorem L3:aH Tryz.prog AA:=.cons JV (.nil _)
def AJ (a0:aB) (a1:Int) (R:T→Prop):Prop :=
 aE [(true,aA),(false,Sy.int IntKind.i64)]
 (kZ
 [aG true aA a0,T.v (.int .i64 2),
 T.v (.int .i64 a1),T.v (.bool true)])
 fun (y0:aB×Int) =>
 aF (decide (y0.2=0))
 (R (T.bN [aG true aA y0.1,T.v (.string { data:=#[] })]))
 (aD (decide (0≤y0.2)&&decide (Int.toNat y0.2≤ByteArray.size y0.1.1)&&true)
 (aD
 (decide (ByteArray.size y0.1.1≤ByteArray.size y0.1.1) &&
 (decide (0≤y0.2)&&decide (Int.toNat y0.2≤ByteArray.size y0.1.1)))
 (R
 (T.bN
 [T.agg
 [T.v (.string (ByteArray.extract y0.1.1 (Int.toNat y0.2) (ByteArray.size y0.1.1))),
 T.v (.int .i64 y0.1.2)],
 T.v (.string (ByteArray.extract y0.1.1 0 (Int.toNat y0.2)))]))))
theorem IQ ( a0 a1 R):jO b9 Tryz.prog AA IX 8 30 [aG true aA a0,aG false (Sy.int IntKind.i64) a1] R=AJ a0 a1 R:=by kernel_rfl
abbrev wB:Sh:=[(true,aA),(false,(Sy.int IntKind.i64))]
abbrev LB:Sh:=[(true,aA),(false,Sy.str)]
def TP (r:cW) (most:Int):Bool:=decide (most<9223372036854775808)&&decide (r.1.size≤140737488355328)
theorem LC {r:cW} {k most:Int} {f:Bool} (h:TP r most=true):kZ [aG true aA r,T.v (.int .i64 k),T.v (.int .i64 most),T.v (.bool f)]=some (Sh.enc zN (aI r k most f)):=by
 refine NK.trans (b:=pA (r,k,most,f)) ?_
 unfold pA
 unfold TP at h
 dsimp only
 rw[h]
def pZ (x:cW×Int):Option T:=match TP x.1 x.2 with
 | true=>some (Sh.enc LA (aI x.1 4 x.2 false))
 | false=>none
noncomputable def e8:List T→Option (T):=gS wA pZ
theorem J3 {a0 a1}:e8 [aG true aA a0,T.v (.int .i64 a1)]=pZ (a0,a1):=cG (s:=wA) rfl (a0,a1) rfl
theorem TK (h:∀ a0 a1 r,pZ (a0,a1)=some r→fF wA (a0,a1)→AI a0 a1 (fun y=>y=r)):eQ Tryz.prog 31 e8 :=
 iK (E:=zZ) (Hs:=IW) L2 bA bJ (aX rfl) 8 ⟨_,_,Tryz.func31,rfl⟩ rfl fun x r h1 h2=>by
  obtain ⟨a0,a1⟩:=x
  rw[show Sh.fS wA (a0,a1)=[aG true aA a0,aG false (Sy.int IntKind.i64) a1] from rfl,IP]
  exact h a0 a1 r h1 h2
theorem AD1 {r:cW} {k most:Int} (h:¬ (aI r k most true).2=0):0≤(aI r k most true).2∧(aI r k most true).2.toNat≤(aI r k most true).1.1.size:=by
 unfold aI at h ⊢
 generalize hq:bZ r.1 k k=q at h ⊢
 obtain ⟨a,v,n,e⟩:=q
 dsimp only at h ⊢
 split at h
 ·exact absurd rfl h
 rename_i c1
 rw[if_neg c1]
 split at h
 ·exact absurd rfl h
 rename_i c2
 rw[if_neg c2]
 split at h
 ·exact absurd rfl h
 rename_i c3
 rw[if_neg c3]
 split at h
 ·exact absurd rfl h
 rename_i c4
 rw[if_neg c4]
 have he:e=0:=Classical.byContradiction c2
 subst he
 obtain ⟨_,⟨n1,n2⟩,v1,v2⟩:=l8 hq
 have c5:¬ ((r.1.size:Int)-n<v):=fun g=>c4 ⟨rfl,g⟩
 refine ⟨v1,?_⟩
 rw[ByteArray.size_extract]
 omega
def fT (r:ByteArray×Int) (most:Int):(ByteArray×Int)×ByteArray :=
 if (aI r 2 most true).2=0 then ((aI r 2 most true).1,⟨#[]⟩)
 else (((aI r 2 most true).1.1.extract (aI r 2 most true).2.toNat (aI r 2 most true).1.1.size,(aI r 2 most true).1.2),(aI r 2 most true).1.1.extract 0 (aI r 2 most true).2.toNat)
def p5 (x:cW×Int):Option T:=match TP x.1 x.2 with
 | true=>some (Sh.enc LB (fT x.1 x.2))
 | false=>none
noncomputable def bT:List T→Option (T):=gS wB p5
theorem J4 {a0 a1}:bT [aG true aA a0,T.v (.int .i64 a1)]=p5 (a0,a1):=cG (s:=wB) rfl (a0,a1) rfl
theorem TL (h:∀ a0 a1 r,p5 (a0,a1)=some r→fF wB (a0,a1)→AJ a0 a1 (fun y=>y=r)):eQ Tryz.prog 30 bT :=
 iK (E:=AA) (Hs:=IX) L3 bA bJ (aX rfl) 8 ⟨_,_,Tryz.func30,rfl⟩ rfl fun x r h1 h2=>by
  obtain ⟨a0,a1⟩:=x
  rw[show Sh.fS wB (a0,a1)=[aG true aA a0,aG false (Sy.int IntKind.i64) a1] from rfl,IQ]
  exact h a0 a1 r h1 h2
theorem pL:eQ Tryz.prog 30 bT:=TL fun a0 a1 r h hb=>by
 clear hb
 obtain ⟨hc,rfl⟩:=KY h
 unfold AJ
 refine aM (s:=zN) (y:=aI a0 2 a1 true) (LC hc) ?_
 dsimp only
 refine eP (fun h=>?_) fun h=>?_
 ·unfold fT;rw[if_pos h];rfl
 ·obtain ⟨h1,h2⟩:=AD1 h
  refine ⟨by rw[decide_eq_true h1,decide_eq_true h2];rfl,by rw[decide_eq_true (Nat.le_refl _),decide_eq_true h1,decide_eq_true h2];rfl,?_⟩
  unfold fT;rw[if_neg h];rfl
theorem pK:eQ Tryz.prog 31 e8:=TK fun a0 a1 r h hb=>by
 clear hb
 obtain ⟨hc,rfl⟩:=KY h
 unfold AI
 exact aM (s:=zN) (y:=aI a0 4 a1 false) (LC hc) rfl
end Go.Pv
namespace Go.Pv
open Go Go.Proofs
abbrev cV:=ByteArray×Int
theorem O9 {s t:ByteArray} (h:s.data.toList=t.data.toList):s=t:=by
 cases s;cases t
 exact congrArg _ (Array.toList_inj.1 h)
theorem lT (s:ByteArray) (n:Nat):(s.extract n s.size).data.toList=s.data.toList.drop n:=by
 rw[ByteArray.data_extract,Array.toList_extract,List.extract_eq_take_drop]
 exact List.take_of_length_le (by rw[List.length_drop];exact Nat.le_refl _)
theorem PL (s:ByteArray):s.extract 0 s.size=s:=O9 (by rw[lT];rfl)
theorem AA8 (s:ByteArray) (n m:Nat):(s.extract n s.size).extract m (s.extract n s.size).size=s.extract (n+m) s.size:=O9 (by rw[lT,lT,lT,List.drop_drop])
def Tl (a b:cV):Prop:=∃ n,a.1=b.1.extract n b.1.size
theorem Tl.same {a b:cV} (h:a.1=b.1):Tl a b:=⟨0,by rw[h,PL]⟩
theorem Tl.trans {a b c:cV} (h1:Tl a b) (h2:Tl b c):Tl a c:=by
 obtain ⟨n,h1⟩:=h1
 obtain ⟨m,h2⟩:=h2
 exact ⟨m+n,by rw[h1,h2,AA8]⟩
theorem Tl.size {a b:cV} (h:Tl a b):a.1.size≤b.1.size:=by
 obtain ⟨n,h⟩:=h
 rw[h,ByteArray.size_extract];omega
def Suf (S:ByteArray) (r:cV):Prop:=r.1=S.extract (S.size-r.1.size) S.size∧r.1.size≤S.size
theorem Suf.all {S:ByteArray} {e:Int}:Suf S (S,e):=⟨by show S=S.extract (S.size-S.size) S.size;rw[Nat.sub_self,PL],Nat.le_refl _⟩
def eY {α:Type} (f:cV→cV×α):Prop:=∀ r,Tl (f r).1 r
theorem Y4 (lo hi:Int):eY fun r=>jN r lo hi:=fun r=>by
 show Tl (jN r lo hi).1 r
 unfold jN
 split
 ·exact .same rfl
 split
 ·exact .same rfl
 split
 ·exact .same rfl
 dsimp only
 repeat' split
 all_goals first|exact .same rfl|exact ⟨_,rfl⟩
theorem vV (k most:Int) (f:Bool):eY fun r=>aI r k most f:=fun r=>by
 show Tl (aI r k most f).1 r
 unfold aI
 split
 ·exact .same rfl
 split
 ·exact .same rfl
 split
 ·exact .same rfl
 split
 ·exact .same rfl
 ·exact ⟨_,rfl⟩
theorem TZ (most:Int):eY fun r=>fT r most:=fun r=>by
 show Tl (fT r most).1 r
 unfold fT
 split
 ·exact vV 2 most true r
 ·exact Tl.trans ⟨_,rfl⟩ (vV 2 most true r)
def cA {α:Type} (f:cV→cV×α):Nat→cV→cV×List α
 | 0,r=>(r,[])
 | k+1,r=>((f (cA f k r).1).1,(cA f k r).2++[(f (cA f k r).1).2])
theorem kK {α:Type} {f:cV→cV×α} (hf:eY f):∀ k,eY (cA f k)
 | 0,r=>.same rfl
 | k+1,r=>(hf _).trans (kK hf k r)
theorem iZ {α:Type} {f:cV→cV×α}:∀ k r,(cA f k r).2.length=k
 | 0,r=>rfl
 | k+1,r=>by
  show ((cA f k r).2++[_]).length=k+1
  rw[List.length_append,iZ k r];rfl
def cU {α β:Type} (f:cV→cV×α) (g:cV→cV×β) (r:cV):cV×(α×β):=((g (f r).1).1,((f r).2,(g (f r).1).2))
theorem bH {α β:Type} {f:cV→cV×α} {g:cV→cV×β} (hf:eY f) (hg:eY g):eY (cU f g):=fun r=>(hg _).trans (hf r)
def yH {α:Type} (most:Int) (f:cV→cV×α) (r:cV):cV×List α:=cA f (aI r 4 most false).2.toNat (aI r 4 most false).1
theorem CD {α:Type} {most:Int} {f:cV→cV×α} (hf:eY f):eY (yH most f):=fun r=>(kK hf _ _).trans (vV 4 most false r)
def ZX {α:Type} (z:α) (f:cV→cV×α) (r:cV):cV×α:=if (f r).1.2=0 then f r else ((f r).1,z)
theorem YJ {α:Type} {z:α} {f:cV→cV×α} (hf:eY f):eY (ZX z f):=fun r=>by
 show Tl (ZX z f r).1 r
 unfold ZX
 split<;>exact hf r
theorem wV {r:cV} {k most:Int} {f:Bool} (hm:0≤most):0≤(aI r k most f).2∧(aI r k most f).2≤most:=by
 unfold aI
 generalize hq:bZ r.1 k k=q
 obtain ⟨a,v,n,e⟩:=q
 dsimp only
 split
 ·exact ⟨Int.le_refl 0,hm⟩
 split
 ·exact ⟨Int.le_refl 0,hm⟩
 rename_i c2
 split
 ·exact ⟨Int.le_refl 0,hm⟩
 rename_i c3
 split
 ·exact ⟨Int.le_refl 0,hm⟩
 have he:e=0:=Classical.byContradiction c2
 subst he
 obtain ⟨_,_,v1,v2⟩:=l8 hq
 exact ⟨v1,by show v≤most;omega⟩
def rI (r:cV):cV×Int:=jN r (-9223372036854775808) 9223372036854775807
def rT (n:Int) (r:cV):cV×ByteArray:=fT r n
theorem iN:eY rI:=Y4 _ _
theorem iV (n:Int):eY (rT n):=TZ n
def rPt:cV→cV×bI:=cU rI rI
def uA:cV→cV×List bI:=yH 32 rPt
def OC:cV→cV×List (List bI):=yH 8 uA
def TX:cV→cV×GD:=cU rI (cU rI rI)
def nE (n:Int):cV→cV×List ByteArray:=yH n (rT 64)
def OW:iC:=(⟨#[]⟩,0,0,⟨#[]⟩,⟨#[]⟩,0,([],[]),⟨#[]⟩,0,0,(0,0,0),(0,0,0),0)
def HP:cV→cV×iC:=cU (rT 64) (cU rI (cU rI (cU (rT 64) (cU (rT 16) (cU rI (cU (cU uA OC) (cU (rT 16) (cU rI (cU rI (cU TX (cU TX rI)))))))))))
def sB:cV→cV×iC:=ZX OW HP
def QK:cV→cV×O5:=cU (rT 64) (cU rI (rT 64))
def QN:cV→cV×O6:=cU (rT 64) (cU (rT 64) (cU (rT 64) (cU rI (cU rI rI))))
def QL:cV→cV×uM:=cU (rT 64) (cU (rT 64) (cU (nE 256) (cU rI (nE 64))))
def QJ:cV→cV×O4:=cU rI (cU (rT 64) (rT 64))
def IF:bD:=(0,⟨#[]⟩,⟨#[]⟩,(⟨#[]⟩,0,⟨#[]⟩),OW,(⟨#[]⟩,⟨#[]⟩,⟨#[]⟩,0,0,0),(⟨#[]⟩,⟨#[]⟩,[],0,[]),(0,⟨#[]⟩,⟨#[]⟩))
def HO:cV→cV×bD:=cU rI (cU (rT 64) (cU (rT 64) (cU QK (cU sB (cU QN (cU QL QJ))))))
def gE:cV→cV×bD:=ZX IF HO
theorem Y1:eY rPt:=bH iN iN
theorem vU:eY uA:=CD Y1
theorem TV:eY OC:=CD vU
theorem QP:eY TX:=bH iN (bH iN iN)
theorem xR (n:Int):eY (nE n):=CD (iV 64)
theorem K6:eY sB:=YJ (bH (iV _) (bH iN (bH iN (bH (iV _) (bH (iV _) (bH iN (bH (bH vU TV) (bH (iV _) (bH iN (bH iN (bH QP (bH QP iN))))))))))))
theorem YY:eY QK:=bH (iV _) (bH iN (iV _))
theorem Y2:eY QN:=bH (iV _) (bH (iV _) (bH (iV _) (bH iN (bH iN iN))))
theorem YZ:eY QL:=bH (iV _) (bH (iV _) (bH (xR _) (bH iN (xR _))))
theorem YX:eY QJ:=bH iN (bH (iV _) (iV _))
theorem YW:eY gE:=YJ (bH iN (bH (iV _) (bH (iV _) (bH YY (bH K6 (bH Y2 (bH YZ YX)))))))
end Go.Pv
namespace Go.Pv
open Go Go.Proofs
theorem XT (l:List Nat):(zK l).data.toList=l.map UInt8.ofNat:=by simp[zK]
theorem I6 (a b:ByteArray):(a++b).data.toList=a.data.toList++b.data.toList:=by rw[ByteArray.data_append,Array.toList_append]
theorem UB (s:ByteArray) (n:Nat):(s.extract 0 n).data.toList=s.data.toList.take n:=by
 rw[ByteArray.data_extract,Array.toList_extract,List.extract_eq_take_drop,List.drop_zero,Nat.sub_zero]
theorem EC (s:ByteArray) (n:Nat):s=s.extract 0 n++s.extract n s.size:=O9 (by
 rw[I6,UB,lT,List.take_append_drop])
theorem TS {s:ByteArray} {b:UInt8} {l:List UInt8} (hl:s.data.toList=b::l) (one two:Int):bZ s one two=(if (¬ ((b.toNat / 32:Nat):Int)=one∧¬ ((b.toNat / 32:Nat):Int)=two)∨27<b.toNat % 32 then (0,0,0,5)
  else if b.toNat % 32<24 then (((b.toNat / 32:Nat):Int),((b.toNat % 32:Nat):Int),1,0)
  else if l.length<2 ^ (b.toNat % 32-24) then (0,0,0,3)
  else if zK (dA (b.toNat / 32) (DM ((l.take (2 ^ (b.toNat % 32-24))).map UInt8.toNat)))=s.extract 0 (1+2 ^ (b.toNat % 32-24)) then
   (((b.toNat / 32:Nat):Int),((DM ((l.take (2 ^ (b.toNat % 32-24))).map UInt8.toNat):Nat):Int),((1+2 ^ (b.toNat % 32-24):Nat):Int),0)
  else (0,0,0,5)):=by unfold bZ;rw[hl]
theorem E8 {s:ByteArray} {one two k v n:Int} (h:bZ s one two=(k,v,n,0)):s=zK (dA k.toNat v.toNat)++s.extract n.toNat s.size:=by
 cases hl:s.data.toList with
 | nil=>unfold bZ at h;rw[hl] at h;simp at h
 | cons b l =>
  rw[TS hl] at h
  have hb:=b.toNat_lt
  split at h
  ·simp at h
  split at h
  ·rename_i h24
   simp only[Prod.mk.injEq] at h
   obtain ⟨rfl,rfl,rfl,_⟩:=h
   rw[Int.toNat_natCast,Int.toNat_natCast]
   have e:dA (b.toNat / 32) (b.toNat % 32)=[b.toNat]:=by
    unfold dA
    rw[if_pos h24,show 32*(b.toNat / 32)+b.toNat % 32=b.toNat by omega]
   rw[e]
   refine O9 ?_
   rw[I6,XT,lT,hl]
   show b::l=UInt8.ofNat b.toNat::l
   rw[UInt8.ofNat_toNat]
  split at h
  ·simp at h
  split at h
  ·rename_i hc
   simp only[Prod.mk.injEq] at h
   obtain ⟨rfl,rfl,rfl,_⟩:=h
   rw[Int.toNat_natCast,Int.toNat_natCast,Int.toNat_natCast,hc]
   exact EC s _
  ·simp at h
def Bk {α:Type} (f:cV→cV×α) (e:α→ByteArray):Prop:=∀ r,(f r).1.2=0→r.2=0∧r.1=e (f r).2++(f r).1.1
theorem iU:Bk rI cJ:=fun r=>by
 show (jN r _ _).1.2=0→r.2=0∧r.1=cJ (jN r _ _).2++(jN r _ _).1.1
 unfold jN
 generalize hp:bZ r.1 0 1=w
 obtain ⟨k,v,n,e⟩:=w
 dsimp only
 split
 ·rename_i h;exact fun g=>absurd g h
 rename_i h0
 split
 ·rename_i h;exact fun g=>absurd g h
 rename_i he
 have he:e=0:=Classical.byContradiction he
 subst he
 obtain ⟨hk,⟨n1,n2⟩,v1,v2⟩:=l8 hp
 have hb:=E8 hp
 split
 ·exact fun g=>by cases g
 rename_i hv
 generalize hx:(if k=1 then -1-v else v)=x
 split
 ·exact fun g=>by cases g
 refine fun _=>⟨Classical.byContradiction h0,?_⟩
 dsimp only
 have e1:cJ x=zK (dA k.toNat v.toNat):=by
  unfold cJ
  rcases hk with rfl|rfl
  ·rw[if_neg (by decide)] at hx
   subst hx
   rw[if_neg (by omega),show (v % 18446744073709551616).toNat=v.toNat by omega];rfl
  ·rw[if_pos rfl] at hx
   subst hx
   rw[if_pos (by omega),show ((-1-(-1-v)) % 18446744073709551616).toNat=v.toNat by omega];rfl
 rw[e1]
 exact hb
theorem CU {r:cV} {k:Nat} {most:Int} {f:Bool} (h:(aI r k most f).1.2=0):r.2=0∧0≤(aI r k most f).2∧(aI r k most f).2<18446744073709551616∧r.1=zK (dA k (aI r k most f).2.toNat)++(aI r k most f).1.1∧(f=true→(aI r k most f).2.toNat≤(aI r k most f).1.1.size):=by
 revert h
 unfold aI
 generalize hp:bZ r.1 k k=w
 obtain ⟨k',v,n,e⟩:=w
 dsimp only
 split
 ·rename_i h;exact fun g=>absurd g h
 rename_i h0
 split
 ·rename_i h;exact fun g=>absurd g h
 rename_i he
 have he:e=0:=Classical.byContradiction he
 subst he
 obtain ⟨hk,⟨n1,n2⟩,v1,v2⟩:=l8 hp
 have hb:=E8 hp
 split
 ·exact fun g=>by cases g
 split
 ·exact fun g=>by cases g
 rename_i hf
 refine fun _=>⟨Classical.byContradiction h0,v1,v2,?_,fun hft=>?_⟩
 ·have hkk:k'.toNat=k:=by omega
  rw[hkk] at hb
  exact hb
 ·dsimp only
  rw[ByteArray.size_extract]
  have:¬ ((r.1.size:Int)-n<v):=fun g=>hf ⟨hft,g⟩
  omega
theorem jH (n:Int):Bk (rT n) bL:=fun r=>by
 show (fT r n).1.2=0→r.2=0∧r.1=bL (fT r n).2++(fT r n).1.1
 unfold fT
 split
 ·rename_i hz
  intro h
  obtain ⟨h1,_,_,h2,_⟩:=CU (k:=2) h
  refine ⟨h1,h2.trans ?_⟩
  rw[show (aI r ((2:Nat):Int) n true).2=0 from hz]
  unfold bL
  rw[bz];rfl
 ·intro h
  obtain ⟨h1,v1,v2,h2,h3⟩:=CU (k:=2) (most:=n) (f:=true) (r:=r) h
  refine ⟨h1,h2.trans ?_⟩
  have h3:=h3 rfl
  change (aI r 2 n true).2.toNat≤(aI r 2 n true).1.1.size at h3
  have hz:((aI r 2 n true).1.1.extract 0 (aI r 2 n true).2.toNat).size=(aI r 2 n true).2.toNat:=by rw[ByteArray.size_extract];omega
  unfold bL
  dsimp only
  rw[hz,ByteArray.append_assoc,←EC];rfl
theorem bG {α β:Type} {f:cV→cV×α} {g:cV→cV×β} {e1:α→ByteArray} {e2:β→ByteArray} (hf:Bk f e1) (hg:Bk g e2):Bk (cU f g) fun x=>e1 x.1++e2 x.2:=fun r h=>by
 obtain ⟨h1,h2⟩:=hg (f r).1 h
 obtain ⟨h3,h4⟩:=hf r h1
 refine ⟨h3,h4.trans ?_⟩
 rw[h2,←ByteArray.append_assoc];rfl
theorem Y7 {α:Type} {f:cV→cV×α} {e:α→ByteArray} (hf:Bk f e):∀ k r,(cA f k r).1.2=0→r.2=0∧r.1=e5 e (cA f k r).2++(cA f k r).1.1
 | 0,r,h=>⟨h,(zb _).symm⟩
 | k+1,r,h=>by
  obtain ⟨h1,h2⟩:=hf (cA f k r).1 h
  obtain ⟨h3,h4⟩:=Y7 hf k r h1
  refine ⟨h3,h4.trans ?_⟩
  show _=e5 e ((cA f k r).2++[(f (cA f k r).1).2])++(f (cA f k r).1).1.1
  rw[jD,h2,ByteArray.append_assoc]
  show _=e5 e (cA f k r).2++(e (f (cA f k r).1).2++⟨#[]⟩++(f (cA f k r).1).1.1)
  rw[bz]
theorem vM {α:Type} {f:cV→cV×α} {e:α→ByteArray} {most:Int} (hf:Bk f e):Bk (yH most f) fun l=>dK l.length++e5 e l:=fun r h=>by
 obtain ⟨h1,h2⟩:=Y7 hf _ _ h
 obtain ⟨h3,v1,v2,h4,_⟩:=CU (k:=4) h1
 refine ⟨h3,h4.trans ?_⟩
 have hl:((yH most f r).2.length:Int)=(aI r 4 most false).2:=by
  show ((cA f _ _).2.length:Int)=_
  rw[iZ]
  exact Int.toNat_of_nonneg v1
 dsimp only
 rw[hl]
 unfold dK
 change 0≤(aI r 4 most false).2 at v1
 change (aI r 4 most false).2<18446744073709551616 at v2
 rw[if_neg (by omega),Int.emod_eq_of_lt v1 v2,ByteArray.append_assoc]
 exact congrArg _ h2
theorem YI {α:Type} {f:cV→cV×α} {e:α→ByteArray} {z:α} (hf:Bk f e):Bk (ZX z f) e:=fun r h=>by
 unfold ZX at h ⊢
 split
 ·rename_i g;exact hf r g
 ·rename_i g;rw[if_neg g] at h;exact absurd h g
def FL (n:Int) (t:ByteArray):Prop:=(t.size:Int)≤n
def XP (n:O5):ByteArray:=bL n.1++(cJ n.2.1++bL n.2.2)
def ZI (s:O6):ByteArray:=bL s.1++(bL s.2.1++(bL s.2.2.1++(cJ s.2.2.2.1++(cJ s.2.2.2.2.1++cJ s.2.2.2.2.2))))
def YN (k:uM):ByteArray:=bL k.1++(bL k.2.1++(r9 k.2.2.1++(cJ k.2.2.2.1++r9 k.2.2.2.2)))
def XK (n:O4):ByteArray:=cJ n.1++(bL n.2.1++bL n.2.2)
def AC0 (x:bD):ByteArray:=cJ x.1++(bL x.2.1++(bL x.2.2.1++(XP x.2.2.2.1++(yM x.2.2.2.2.1++(ZI x.2.2.2.2.2.1++(YN x.2.2.2.2.2.2.1++XK x.2.2.2.2.2.2.2))))))
theorem AGI:iA=AC0:=funext fun x=>by
 unfold iA AC0 XP ZI YN XK
 simp only[ByteArray.append_assoc]
def ACB (n:Int) (l:List ByteArray):Prop:=(l.length:Int)≤n∧∀ x∈l,FL 64 x
theorem QM:Bk uA nH:=vM (bG iU iU)
theorem QO:Bk TX UD:=bG iU (bG iU iU)
theorem Y0:Bk sB yM:=YI (bG (jH _) (bG iU (bG iU (bG (jH _) (bG (jH _) (bG iU (bG (bG QM (vM QM)) (bG (jH _) (bG iU (bG iU (bG QO (bG QO iU))))))))))))
theorem YU:Bk gE iA:=by
 rw[AGI]
 have n0:=bG (jH 64) (bG iU (jH 64))
 have n:Bk QK XP:=n0
 have s0:=bG (jH 64) (bG (jH 64) (bG (jH 64) (bG iU (bG iU iU))))
 have s:Bk QN ZI:=s0
 have x:∀ m,Bk (nE m) r9:=fun m=>vM (jH 64)
 have k0:=bG (jH 64) (bG (jH 64) (bG (x 256) (bG iU (x 64))))
 have k:Bk QL YN:=k0
 have d0:=bG iU (bG (jH 64) (jH 64))
 have d:Bk QJ XK:=d0
 have e0:=YI (z:=IF) (bG iU (bG (jH 64) (bG (jH 64) (bG n (bG Y0 (bG s (bG k d)))))))
 exact e0
def Out {α:Type} (f:cV→cV×α) (p:α→Prop):Prop:=∀ r,p (f r).2
def yes {α:Type} (_:α):Prop:=True
theorem tZ:Out rI yes:=fun _=>trivial
theorem fQ {n:Int} (hn:0≤n):Out (rT n) (FL n):=fun r=>by
 show ((fT r n).2.size:Int)≤n
 have hc:=wV (r:=r) (k:=2) (most:=n) (f:=true) hn
 unfold fT
 split
 ·exact hn
 ·dsimp only
  rw[ByteArray.size_extract]
  omega
theorem bO {α β:Type} {f:cV→cV×α} {g:cV→cV×β} {p:α→Prop} {q:β→Prop} (hf:Out f p) (hg:Out g q):Out (cU f g) fun x=>p x.1∧q x.2:=fun r=>⟨hf r,hg _⟩
theorem QW {α:Type} {f:cV→cV×α} {p:α→Prop} (hf:Out f p):∀ k r,∀ x∈(cA f k r).2,p x
 | 0,r,x,h=>by cases h
 | k+1,r,x,h=>by
  rcases List.mem_append.1 (show x∈(cA f k r).2++[(f (cA f k r).1).2] from h) with h|h
  ·exact QW hf k r x h
  ·rw[List.mem_singleton.1 h];exact hf _
theorem lZ {α:Type} {f:cV→cV×α} {p:α→Prop} {most:Int} (hm:0≤most) (hf:Out f p):Out (yH most f) fun l=>(l.length:Int)≤most∧∀ x∈l,p x:=fun r=>by
 have hc:=wV (r:=r) (k:=4) (most:=most) (f:=false) hm
 refine ⟨?_,QW hf _ _⟩
 show ((cA f _ _).2.length:Int)≤most
 rw[iZ]
 omega
theorem ACA {α:Type} {f:cV→cV×α} {p:α→Prop} {z:α} (hz:p z) (hf:Out f p):Out (ZX z f) p:=fun r=>by
 unfold ZX
 split
 ·exact hf r
 ·exact hz
def okO (p:iC):Prop:=FL 64 p.1∧(yes p.2.1∧(yes p.2.2.1∧(FL 64 p.2.2.2.1∧(FL 16 p.2.2.2.2.1∧(yes p.2.2.2.2.2.1∧((((p.2.2.2.2.2.2.1.1.length:Int)≤32∧∀ x∈p.2.2.2.2.2.2.1.1,yes x)∧((p.2.2.2.2.2.2.1.2.length:Int)≤8∧∀ x∈p.2.2.2.2.2.2.1.2,(x.length:Int)≤32∧∀ y∈x,yes y))∧(FL 16 p.2.2.2.2.2.2.2.1∧yes p.2.2.2.2.2.2.2.2)))))))
theorem zL {α:Type} {f:cV→cV×α}:Out f yes:=fun _=>trivial
theorem TW:Out sB okO:=ACA (by refine ⟨?_,trivial,trivial,?_,?_,trivial,⟨⟨?_,fun _ h=>by cases h⟩,?_,fun _ h=>by cases h⟩,?_,trivial⟩<;>(show (0:Int)≤_;decide)) (bO (fQ (by decide)) (bO tZ (bO tZ (bO (fQ (by decide)) (bO (fQ (by decide)) (bO tZ (bO (bO (lZ (by decide) zL) (lZ (by decide) (lZ (by decide) zL))) (bO (fQ (by decide)) zL))))))))
theorem xM {n:Int} {t:ByteArray} (h:FL n t) (hn:n≤1048576):jG t=true:=decide_eq_true (by unfold FL at h;omega)
theorem YH {p:iC} (h:okO p):KZ p=true:=by
 obtain ⟨h1,_,_,h4,h5,_,⟨⟨h7,_⟩,h8,h9⟩,h10,_⟩:=h
 unfold KZ
 simp only[Bool.and_eq_true,decide_eq_true_eq,List.all_eq_true]
 exact ⟨⟨⟨⟨⟨⟨xM h1 (by decide),xM h4 (by decide)⟩,xM h5 (by decide)⟩,xM h10 (by decide)⟩,by omega⟩,by omega⟩,fun x hx=>by have:=(h9 x hx).1;omega⟩
def AG8 (n:O5):Prop:=FL 64 n.1∧(yes n.2.1∧FL 64 n.2.2)
def AG9 (s:O6):Prop:=FL 64 s.1∧(FL 64 s.2.1∧(FL 64 s.2.2.1∧yes s.2.2.2))
def AG7 (k:uM):Prop:=FL 64 k.1∧(FL 64 k.2.1∧(ACB 256 k.2.2.1∧(yes k.2.2.2.1∧ACB 64 k.2.2.2.2)))
def AG5 (n:O4):Prop:=yes n.1∧(FL 64 n.2.1∧FL 64 n.2.2)
def AG6 (x:bD):Prop:=yes x.1∧(FL 64 x.2.1∧(FL 64 x.2.2.1∧(AG8 x.2.2.2.1∧(okO x.2.2.2.2.1∧(AG9 x.2.2.2.2.2.1∧(AG7 x.2.2.2.2.2.2.1∧AG5 x.2.2.2.2.2.2.2))))))
theorem OB:Out HO AG6:=by
 have n:Out QK AG8:=bO (fQ (by decide)) (bO tZ (fQ (by decide)))
 have s:Out QN AG9:=bO (fQ (by decide)) (bO (fQ (by decide)) (bO (fQ (by decide)) zL))
 have x:∀ m,0≤m→Out (nE m) (ACB m):=fun m hm=>lZ hm (fQ (by decide))
 have k:Out QL AG7:=bO (fQ (by decide)) (bO (fQ (by decide)) (bO (x _ (by decide)) (bO tZ (x _ (by decide)))))
 have d:Out QJ AG5:=bO tZ (bO (fQ (by decide)) (fQ (by decide)))
 exact bO tZ (bO (fQ (by decide)) (bO (fQ (by decide)) (bO n (bO TW (bO s (bO k d))))))
theorem YV (r:cV):zA (gE r).2=true:=by
 have go:∀ x,AG6 x→zA x=true:=fun x h=>by
  obtain ⟨_,h1,h2,⟨h3,_,h4⟩,hp,⟨h5,h6,h7,_⟩,⟨h8,h9,h10,_,h11⟩,_,h12,h13⟩:=h
  have ts:∀ {n:Int} {l:List ByteArray},n≤1000000→ACB n l→CO l=true:=fun hn h=>by
   unfold CO
   rw[Bool.and_eq_true]
   exact ⟨decide_eq_true (by have:=h.1;omega),List.all_eq_true.2 fun x hx=>xM (h.2 x hx) (by decide)⟩
  unfold zA
  simp only[List.all_cons,List.all_nil,Bool.and_true,Bool.and_eq_true]
  have o:∀ {t:ByteArray},FL 64 t→jG t=true:=fun h=>xM h (by decide)
  exact ⟨⟨o h1,o h2,o h3,o h4,o h5,o h6,o h7,o h8,o h9,o h12,o h13⟩,ts (by decide) h10,ts (by decide) h11,YH hp⟩
 unfold gE ZX
 split
 ·exact go _ (OB r)
 ·rfl
end Go.Pv
namespace Go.Pv
open Go Go.Proofs
def p9 (o:bB):ByteArray:=(bL o.1++dK o.2.length)++e5 iA o.2
def oX:cV→cV×bB:=cU (rT 64) (yH 32 gE)
theorem ACG:Bk oX p9:=fun r h=>by
 obtain ⟨h1,h2⟩:=bG (jH 64) (vM (most:=32) YU) r h
 refine ⟨h1,h2.trans ?_⟩
 show bL _++(_++_)++_=bL _++_++_++_
 rw[ByteArray.append_assoc (a:=bL (oX r).2.1)]
 rfl
def yV (r:cV):Int:=if r.2=0 then (if 0<(r.1.size:Int) then 4 else 0) else r.2
def UH:bB:=(⟨#[]⟩,[])
def uU (s:ByteArray):bB×Int:=if yV (oX (s,0)).1=0 then ((oX (s,0)).2,0) else (UH,yV (oX (s,0)).1)
def N6 (o:bB):Bool:=decide (o.1.size≤1048576)&&(decide (o.2.length≤100000)&&(o.2.all zA&&decide ((p9 o).size≤1000000000)))
theorem AD2 {s:ByteArray} (hs:s.size≤1000000) (h:(uU s).2=0):p9 (uU s).1=s∧N6 (uU s).1=true:=by
 unfold uU at h ⊢
 split at h
 case isFalse=>rename_i hn;exact absurd h hn
 rename_i he
 rw[if_pos he]
 have e0:(oX (s,0)).1.2=0:=by
  unfold yV at he
  split at he
  ·assumption
  ·rename_i hn;exact absurd he hn
 have e1:(oX (s,0)).1.1.size=0:=by
  unfold yV at he
  rw[if_pos e0] at he
  split at he
  ·cases he
  ·omega
 have hb:=(ACG (s,0) e0).2
 have hz:(oX (s,0)).1.1=⟨#[]⟩:=by
  generalize (oX (s,0)).1.1=b at e1
  cases b with
  | mk d=>exact congrArg ByteArray.mk (Array.eq_empty_of_size_eq_zero e1)
 have hs':p9 (oX (s,0)).2=s:=by
  rw[hz] at hb
  have:s=p9 (oX (s,0)).2++⟨#[]⟩:=hb
  rw[show p9 (oX (s,0)).2++⟨#[]⟩=p9 (oX (s,0)).2 from ByteArray.append_empty] at this
  exact this.symm
 refine ⟨hs',?_⟩
 unfold N6
 simp only[Bool.and_eq_true,decide_eq_true_eq]
 have ht:((oX (s,0)).2.1.size:Int)≤64:=fQ (n:=64) (by decide) (s,0)
 have hl:=lZ (most:=32) (f:=gE) (p:=fun x=>zA x=true) (by decide) (fun r=>YV r) (rT 64 (s,0)).1
 have hl1:((oX (s,0)).2.2.length:Int)≤32:=hl.1
 have hl2:∀ x∈(oX (s,0)).2.2,zA x=true:=hl.2
 exact ⟨by omega,by omega,List.all_eq_true.2 hl2,by rw[hs'];omega⟩
end Go.Pv
namespace Go.Pv
open Go Go.Proofs Go.RowKit
set_option maxHeartbeats 4000000 in
theorem R4 (id:ByteArray) (n cap:Nat) (w:World) (tx ls:ByteArray) (M:Nat) (L:List bD) (hn:L.length=n) (hn9:n≤1000000000) (St:List UInt8→World→Prop) (P:Nat→List UInt8) (hz:tx.size+ls.size≤M) (hM:M≤1000000000)
  (hP0:P 0=(tx++ls).data.toList) (hPs:∀ k (h:k<L.length),P (k+1)=P k++(iA L[k]).data.toList) (hPM:∀ k (h:k<L.length),(P k).length+(iA L[k]).size≤M) (hok:∀ k (h:k<L.length),zA L[k]=true)
  (W2:World) (hW2:(w.alloc (.cells #[.string id,.slice none n cap] 25)).alloc (.cells #[.pointer none,.slice none 0 0] 94)=W2) (h2:St [] W2)
  (hd:∀ l W,St l W→St l W.drew) (hb:∀ l W W',St l W→Below W.heap.size W W'→St l W') (hG:∀ l W,St l W→Good Tryz.prog W)
  (hc0:∀ l W,St l W→W.cell? ⟨w.heap.size,0,none⟩=some (.string id))
  (hc:∀ l W,St l W→W.cell? ⟨w.heap.size,1,none⟩=some (.slice none n cap))
  (hR:∀ l W,St l W→bK W (fun _=>False) (.sl false (List.map aR.enc L)) (.slice none n cap))
  (hT:∀ W,St [] W→Calls Tryz.prog 36 #[.string id] W fun e W'=>e = .returned (.string tx)∧St [] W')
  (hL:∀ W,St [] W→Calls Tryz.prog 37 #[.int .i64 (n:Int)] W fun e W'=>e = .returned (.string ls)∧St [] W')
  (hW:∀ l s W,St l W→l.length+s.size≤M→Calls Tryz.prog 35 #[.pointer (some ⟨w.heap.size+1,0,none⟩),.string s] W fun e W'=>e = .returned (.tuple #[.int .i64 s.size,.nilIface])∧St (l++s.data.toList) W')
  (hS:∀ l W,St l W→Calls Tryz.prog 39 #[.pointer (some ⟨w.heap.size+1,0,none⟩)] W fun e W'=>e = .returned (.string ⟨l.toArray⟩)∧Below w.heap.size w W') :
  Calls Tryz.prog 12 #[.agg #[.string id,.slice none n cap]] w fun e w'=>e = .returned (.string ⟨(P n).toArray⟩)∧Below w.heap.size w w':=by
 go_enter Tryz.func12,Tryz.ntmps12
 go_wp2_with fail
 go_cut [] from 6 to 14 (fun wx=>St (tx++ls).data.toList wx)
 case first =>
  have k2:=hc _ _ h2
  have k3:=hc0 _ _ h2
  go_region_with (first
   | (go_at_call 36;refine (hT _ ?_).mono ?_;(first|assumption|(apply hd;assumption)|(apply hd;apply hd;assumption));rintro e W3 ⟨rfl,h3⟩;have k4:=hc _ _ h3;have k5:=hc0 _ _ h3)
   | (go_at_call 37;refine (hL _ ?_).mono ?_;(first|assumption|(apply hd;assumption)|(apply hd;apply hd;assumption));rintro e W4 ⟨rfl,h4⟩;have k6:=hc _ _ h4;have k7:=hc0 _ _ h4)
   | (go_at_call 35;refine (hW [] _ _ ?_ ?_).mono ?_;(first|assumption|(apply hd;assumption)|(apply hd;apply hd;assumption));(rw[ByteArray.size_append];simpa using hz);rintro e W5 ⟨rfl,h5⟩))
  all_goals (go_wp2_with fail;go_meet;rw[List.nil_append] at h5;exact h5)
 case rest =>
  have k2:=hc _ _ hcut
  go_wp2_with fail
  go_loopg [18] n (fun g s18 wx=>∃ k:Nat,s18 = .int .i64 (k:Int)∧k+g=n∧St (P k) wx)
  case atStart=>exact ⟨0,rfl,by omega,by rw[hP0];exact hcut⟩
  case round =>
   obtain ⟨k,rfl,hk,hs⟩:=hrel
   cases gk with
   | zero =>
    obtain rfl:k=n:=by omega
    go_wp2_with (go_at_call 39;refine (hS _ _ hs).mono ?_;rintro e W6 ⟨rfl,h6⟩)
    go_ret
    exact ⟨rfl,h6⟩
   | succ g =>
    have hlt:k<n:=by omega
    have hlt':(k:Int)<(n:Int):=by omega
    have hkl:k<L.length:=by omega
    go_upto_region 5 with fail
    rename_i K7 hK7 K5 hK5
    refine QU rfl rfl rfl rfl rfl rfl rfl rfl rfl rfl rfl rfl rfl (x:=L[k]) (k:=k) (hG _ _ hs) rfl (hR _ _ hs) rfl (by rw[List.getElem?_map,List.getElem?_eq_getElem hkl];rfl) ?_
    intro v20 v21 v5 w' ρ hI hG5 hv5
    have hs5:=hb _ _ _ hs hI.below.toB
    refine hK5 _ _ ?_
    refine QV rfl rfl rfl rfl rfl rfl rfl rfl rfl rfl rfl rfl rfl rfl (w0:=wr) (x:=L[k]) hI hG5 rfl hv5 (hok k hkl) rfl ?_
    intro v22 v23 w'' hb6
    refine (hW _ _ _ (hb _ _ _ hs5 hb6) (hPM k hkl)).mono ?_
    rintro e w8 ⟨rfl,h8⟩
    rw[←hPs k hkl] at h8
    refine ⟨_,rfl,?_⟩
    refine hK7 _ _ ?_
    simp only[Act.put]
    go_wp2_with fail
    go_roundg g
    case measure=>omega
    case rel=>exact ⟨k+1,rfl,by omega,h8⟩
set_option maxHeartbeats 4000000 in
theorem R5 (id:ByteArray) (ad:Addr)(n cap:Nat) (w:World) (tx ls:ByteArray) (M:Nat) (L:List bD) (hn:L.length=n) (hn9:n≤1000000000) (St:List UInt8→World→Prop) (P:Nat→List UInt8) (hz:tx.size+ls.size≤M) (hM:M≤1000000000)
  (hP0:P 0=(tx++ls).data.toList) (hPs:∀ k (h:k<L.length),P (k+1)=P k++(iA L[k]).data.toList) (hPM:∀ k (h:k<L.length),(P k).length+(iA L[k]).size≤M) (hok:∀ k (h:k<L.length),zA L[k]=true)
  (W2:World) (hW2:(w.alloc (.cells #[.string id,.slice (some ad) n cap] 25)).alloc (.cells #[.pointer none,.slice none 0 0] 94)=W2) (h2:St [] W2)
  (hd:∀ l W,St l W→St l W.drew) (hb:∀ l W W',St l W→Below W.heap.size W W'→St l W') (hG:∀ l W,St l W→Good Tryz.prog W)
  (hc0:∀ l W,St l W→W.cell? ⟨w.heap.size,0,none⟩=some (.string id))
  (hc:∀ l W,St l W→W.cell? ⟨w.heap.size,1,none⟩=some (.slice (some ad) n cap))
  (hR:∀ l W,St l W→bK W (fun _=>False) (.sl false (List.map aR.enc L)) (.slice (some ad) n cap))
  (hT:∀ W,St [] W→Calls Tryz.prog 36 #[.string id] W fun e W'=>e = .returned (.string tx)∧St [] W')
  (hL:∀ W,St [] W→Calls Tryz.prog 37 #[.int .i64 (n:Int)] W fun e W'=>e = .returned (.string ls)∧St [] W')
  (hW:∀ l s W,St l W→l.length+s.size≤M→Calls Tryz.prog 35 #[.pointer (some ⟨w.heap.size+1,0,none⟩),.string s] W fun e W'=>e = .returned (.tuple #[.int .i64 s.size,.nilIface])∧St (l++s.data.toList) W')
  (hS:∀ l W,St l W→Calls Tryz.prog 39 #[.pointer (some ⟨w.heap.size+1,0,none⟩)] W fun e W'=>e = .returned (.string ⟨l.toArray⟩)∧Below w.heap.size w W') :
  Calls Tryz.prog 12 #[.agg #[.string id,.slice (some ad) n cap]] w fun e w'=>e = .returned (.string ⟨(P n).toArray⟩)∧Below w.heap.size w w':=by
 go_enter Tryz.func12,Tryz.ntmps12
 go_wp2_with fail
 go_cut [] from 6 to 14 (fun wx=>St (tx++ls).data.toList wx)
 case first =>
  have k2:=hc _ _ h2
  have k3:=hc0 _ _ h2
  go_region_with (first
   | (go_at_call 36;refine (hT _ ?_).mono ?_;(first|assumption|(apply hd;assumption)|(apply hd;apply hd;assumption));rintro e W3 ⟨rfl,h3⟩;have k4:=hc _ _ h3;have k5:=hc0 _ _ h3)
   | (go_at_call 37;refine (hL _ ?_).mono ?_;(first|assumption|(apply hd;assumption)|(apply hd;apply hd;assumption));rintro e W4 ⟨rfl,h4⟩;have k6:=hc _ _ h4;have k7:=hc0 _ _ h4)
   | (go_at_call 35;refine (hW [] _ _ ?_ ?_).mono ?_;(first|assumption|(apply hd;assumption)|(apply hd;apply hd;assumption));(rw[ByteArray.size_append];simpa using hz);rintro e W5 ⟨rfl,h5⟩))
  all_goals (go_wp2_with fail;go_meet;rw[List.nil_append] at h5;exact h5)
 case rest =>
  have k2:=hc _ _ hcut
  go_wp2_with fail
  go_loopg [18] n (fun g s18 wx=>∃ k:Nat,s18 = .int .i64 (k:Int)∧k+g=n∧St (P k) wx)
  case atStart=>exact ⟨0,rfl,by omega,by rw[hP0];exact hcut⟩
  case round =>
   obtain ⟨k,rfl,hk,hs⟩:=hrel
   cases gk with
   | zero =>
    obtain rfl:k=n:=by omega
    go_wp2_with (go_at_call 39;refine (hS _ _ hs).mono ?_;rintro e W6 ⟨rfl,h6⟩)
    go_ret
    exact ⟨rfl,h6⟩
   | succ g =>
    have hlt:k<n:=by omega
    have hlt':(k:Int)<(n:Int):=by omega
    have hkl:k<L.length:=by omega
    go_upto_region 5 with fail
    rename_i K7 hK7 K5 hK5
    refine QU rfl rfl rfl rfl rfl rfl rfl rfl rfl rfl rfl rfl rfl (x:=L[k]) (k:=k) (hG _ _ hs) rfl (hR _ _ hs) rfl (by rw[List.getElem?_map,List.getElem?_eq_getElem hkl];rfl) ?_
    intro v20 v21 v5 w' ρ hI hG5 hv5
    have hs5:=hb _ _ _ hs hI.below.toB
    refine hK5 _ _ ?_
    refine QV rfl rfl rfl rfl rfl rfl rfl rfl rfl rfl rfl rfl rfl rfl (w0:=wr) (x:=L[k]) hI hG5 rfl hv5 (hok k hkl) rfl ?_
    intro v22 v23 w'' hb6
    refine (hW _ _ _ (hb _ _ _ hs5 hb6) (hPM k hkl)).mono ?_
    rintro e w8 ⟨rfl,h8⟩
    rw[←hPs k hkl] at h8
    refine ⟨_,rfl,?_⟩
    refine hK7 _ _ ?_
    simp only[Act.put]
    go_wp2_with fail
    go_roundg g
    case measure=>omega
    case rel=>exact ⟨k+1,rfl,by omega,h8⟩
end Go.Pv
namespace Go.Pv
open Go Go.Proofs Go.RowKit Go.Sort Go.Shelf
def toL (b:ByteArray):List UInt8:=b.data.toList
def ofL (a:List UInt8):ByteArray:=⟨a.toArray⟩
theorem gI (b:ByteArray):ofL (toL b)=b:=by cases b;simp[ofL,toL]
theorem toL_ofL (a:List UInt8):toL (ofL a)=a:=by simp[ofL,toL]
def fZ (q:List (List UInt8)→List (List UInt8)) (l:List ByteArray):List ByteArray:=(q (l.map toL)).map ofL
theorem xS (q:List (List UInt8)→List (List UInt8)) (l:List ByteArray):(q (l.map toL)).map (fun a=>[T.v (encStr a)])=List.map Sy.str.enc (fZ q l):=by
 unfold fZ
 rw[List.map_map];rfl
def cO (l:List (List UInt8)):List (List UInt8):=l.mergeSort fun x y=>decide (x≤y)
def kC (rows:List (List T)):Option (List (List T)):=(uT rows).map fun l=>(cO l).map fun a=>[.v (encStr a)]
theorem oO (l:List ByteArray) (K:List (List T)→Prop):fJ (List (List T)) (kC (List.map Sy.str.enc l)) K=K (List.map Sy.str.enc (fZ cO l)):=by
 have e:kC (List.map Sy.str.enc l)=some (List.map Sy.str.enc (fZ cO l)):=by
  unfold kC;rw[pG];exact congrArg some (xS ..)
 rw[e]
 exact propext ⟨fun ⟨y,h1,h2⟩=>by cases h1;exact h2,fun h=>⟨_,rfl,h⟩⟩
theorem w7:cN Tryz.prog 71 (oL 1 kC) :=
 TT (f:=71) encStr (fun _=>rfl) uT sM cO (fun l=>by unfold cO;simp) ⟨_,Tryz.func71,rfl,rfl⟩
  (fun aN cap zs w hH hb hs=>Any.slices_Sort_string Tryz.P1 aN 0 cap zs w hH hb hs) (fun p cap w=>Any.slices_Sort_string_none Tryz.P1 p cap w)
theorem sL (l:List (List UInt8)):(Lib.compact l).length≤l.length:=by
 unfold Lib.compact
 unfold Lib.compactUpTo
 rw[List.length_map]
 exact Nat.le_trans (List.length_filter_le _ _) (by simp)
def noA:List T→Bool
 | []=>true
 | _=>false
def cZ:List (List T)→List T→Option (List (List T)):=xA Lib.compact noA true
theorem SO (l:List ByteArray) (K:List ByteArray→Prop):bF .str (cZ (List.map Sy.str.enc l) []) K=K (fZ Lib.compact l):=by
 have e:cZ (List.map Sy.str.enc l) []=some (List.map Sy.str.enc (fZ Lib.compact l)):=by
  unfold cZ xA;simp only[noA,Bool.true_or,Bool.and_self];rw[pG];exact congrArg some (xS ..)
 rw[e];exact propext ⟨fun ⟨y,h1,h2⟩=>by rw[map_inj (Sy.gH .str) (Option.some.inj h1)];exact h2,fun h=>⟨_,rfl,h⟩⟩
theorem ABC:cN Tryz.prog 111 (nL 1 cZ) :=
 B8 (f:=111) Lib.compact sL rfl noA true #[] (fun ts w cx ρ σ vs h _ hl=>by
   cases ts with
   | nil=>exact List.length_eq_zero_iff.1 hl
   | cons=>cases h) ⟨_,Tryz.func111,rfl,rfl⟩
  (fun aN cap zs w hH hb hs hc=>Any.slices_Compact_string Tryz.P2 aN 0 cap zs w hH (by omega) hc) (fun _ a cap w=>Any.slices_Compact_string_empty Tryz.P2 a cap w)
def AH6:Ren:=⟨fun|10=>110|6=>244|n=>n,fun|22=>62|23=>9|25=>31|n=>n,fun|n=>n⟩
theorem AH2:SlLaysH.n10 Tryz.prog AH6:={
 mixed:=bA
 f6:=Exists.intro ("slices.IndexFunc[[]string,string]") ⟨by decide,Tryz.func244.trans (congrArg some (by kernel_rfl))⟩
 f10:=Exists.intro ("slices.DeleteFunc[[]string,string]") ⟨by decide,Tryz.func110.trans (congrArg some (by kernel_rfl))⟩
 t0:=by kernel_rfl
 a0:=fun _=>by kernel_rfl
 z0:=fun _=>by kernel_rfl
 v0:=fun _=>by kernel_rfl
 t3:=by kernel_rfl
 a3:=fun _=>by kernel_rfl
 z3:=fun _=>by kernel_rfl
 v3:=fun _=>by kernel_rfl
 t4:=by kernel_rfl
 a4:=fun _=>by kernel_rfl
 z4:=fun _=>by kernel_rfl
 v4:=fun _=>by kernel_rfl
 t22:=by kernel_rfl
 a22:=fun _=>by kernel_rfl
 z22:=fun _=>by kernel_rfl
 v22:=fun _=>by kernel_rfl
 a23:=fun _=>by kernel_rfl
 z23:=fun _=>by kernel_rfl
 t25:=by kernel_rfl
 a25:=fun _=>by kernel_rfl
 z25:=fun _=>by kernel_rfl
 v25:=fun _=>by kernel_rfl }
def wX (x:List UInt8):Bool:=x.isEmpty
theorem yE (x:List UInt8) (W:World):FnGives Tryz.prog 112 #[] #[encStr x] (.bool (wX x)) W:=by
 show Calls Tryz.prog 112 #[encStr x] W _
 go_enter Tryz.func112,Tryz.ntmps112
 go_wp2
 all_goals (go_ret;exact ⟨rfl,0,rfl⟩)
def oH (l:List (List UInt8)):List (List UInt8):=l.filter fun x=>!wX x
def M5:List T→Bool
 | [.fn f [] []]=>decide (f=112)
 | _=>false
def c6:List (List T)→List T→Option (List (List T)):=xA oH M5 false
theorem SP (l:List ByteArray) (hl:l≠[]) (K:List ByteArray→Prop):bF .str (c6 (List.map Sy.str.enc l) [.fn 112 [] []]) K=K (fZ oH l):=by
 have e:c6 (List.map Sy.str.enc l) [.fn 112 [] []]=some (List.map Sy.str.enc (fZ oH l)):=by
  have h0:(List.map Sy.str.enc l).isEmpty=false:=by cases l;exact absurd rfl hl;rfl
  unfold c6 xA;rw[h0]
  show (uT (List.map Sy.str.enc l)).map _=_
  rw[pG];exact congrArg some (xS ..)
 rw[e];exact propext ⟨fun ⟨y,h1,h2⟩=>by rw[map_inj (Sy.gH .str) (Option.some.inj h1)];exact h2,fun h=>⟨_,rfl,h⟩⟩
theorem ABD:cN Tryz.prog 110 (nL 1 c6) :=
 B8 (f:=110) oH (fun l=>List.length_filter_le _ _) rfl M5 false #[.func (.func 112) #[] #[]] (fun ts w cx ρ σ vs h hr hl=>by
   unfold M5 at h
   split at h
   ·rename_i f
    have hf:f=112:=of_decide_eq_true h
    subst hf
    match vs,hl with
    | [v],_ =>
     have h0:=hr 0 (by simp)
     simp only[List.getElem_cons_zero,List.getD_cons_zero] at h0
     cases h0 with
     | p _ _ h0 =>
      cases h0 with
      | fn _ _ _ va vb h1 h2 _ _ =>
       have e1:va = #[]:=Array.eq_empty_of_size_eq_zero h1
       have e2:vb = #[]:=Array.eq_empty_of_size_eq_zero h2
       subst e1 e2;rfl
   ·cases h) ⟨_,Tryz.func110,rfl,rfl⟩
  (fun aN cap zs w hH hb hs hc=>by
   have h:=AnyE.slices_DeleteFunc AH2 encStr (fun _=>rfl) wX 112 #[] (enters_of Tryz.func112 (by kernel_rfl) rfl) [] (fun w=>by kernel_rfl) aN 0 cap zs.toArray w (fun W x _=>yE x W) (fun n os dk x _=>yE x _) hH (by simpa using (by omega)) (by simpa using hc)
   change Calls Tryz.prog 110 _ _ _ at h
   simpa [oH] using h) (fun h=>by cases h)
def AE6:Ren:=⟨fun|4=>293|n=>n,fun|20=>20|22=>62|25=>9|n=>n,fun|n=>n⟩
theorem AH3:Lays8.n4 Tryz.prog AE6:={
 mixed:=bA
 f4:=Exists.intro ("slices.Grow[[]string,string]") ⟨by decide,Tryz.func293.trans (congrArg some (by kernel_rfl))⟩
 t0:=by kernel_rfl
 a0:=fun _=>by kernel_rfl
 z0:=fun _=>by kernel_rfl
 v0:=fun _=>by kernel_rfl
 t3:=by kernel_rfl
 a3:=fun _=>by kernel_rfl
 z3:=fun _=>by kernel_rfl
 v3:=fun _=>by kernel_rfl
 t4:=by kernel_rfl
 a4:=fun _=>by kernel_rfl
 z4:=fun _=>by kernel_rfl
 v4:=fun _=>by kernel_rfl
 t9:=by kernel_rfl
 a9:=fun _=>by kernel_rfl
 z9:=fun _=>by kernel_rfl
 v9:=fun _=>by kernel_rfl
 t20:=by kernel_rfl
 a20:=fun _=>by kernel_rfl
 z20:=fun _=>by kernel_rfl
 v20:=fun _=>by kernel_rfl
 t22:=by kernel_rfl
 a22:=fun _=>by kernel_rfl
 z22:=fun _=>by kernel_rfl
 v22:=fun _=>by kernel_rfl }
theorem AGO:∃ i0,Tryz.prog.info? (AE6.t 25)=some i0∧i0.zero=some (.string ⟨#[]⟩)∧i0.size=1∧i0.bytes=16:=by
 have h:(Tryz.prog.info? (AE6.t 25)).map (fun i=>(i.zero,i.size,i.bytes))=some (some (Value.string ⟨#[]⟩),1,16):=by kernel_rfl
 simp only[Option.map_eq_some_iff,Prod.mk.injEq] at h
 obtain ⟨i,h1,h2,h3,h4⟩:=h
 exact ⟨i,h1,h2,h3,h4⟩
theorem ABH:cN Tryz.prog 293 (yD 1 16) :=
 T4 AH3 AGO (by decide) rfl (by decide) ⟨_,Tryz.func293,rfl,rfl⟩
end Go.Pv
namespace Go.Pv
open Go Go.Proofs
def cF:List (List T)→Option (List (List T)):=kC
theorem NP (l:List ByteArray) (K:List (List T)→Prop):fJ (List (List T)) (cF (List.map Sy.str.enc l)) K=K (List.map Sy.str.enc (fZ cO l)):=oO l K
theorem WJ:cN Tryz.prog 71 (oL 1 cF):=w7
noncomputable def UQ:Env:=Env.of [(1000000062,.mark),(1000000279,.mark),(71,.perm 1 cF),(111,.grow 1 cZ),(110,.grow 1 c6),(293,.room 1 16)]
def U4:FuncId→Hint:=fM 223 [(3,.kR 4),(11,.kR 4)] (fun _=>bW)
theorem L4:aH Tryz.prog UQ:=.cons (x:=.mark) trivial (.cons (x:=.mark) trivial (.cons WJ (.cons ABC (.cons ABD (aH.cons (x:=.room 1 16) ABH (.nil _))))))
def AK (a0:bD) (R:T→Prop):Prop :=
 aF (decide (a0.1=1))
 (aF (decide (a0.1=1))
 (aD true
 (fJ (List (List T))
 (cF
 [[T.v (.string a0.2.2.2.1.1)].reverse,
 [T.v (.string a0.2.2.2.1.2.2)].reverse])
 fun (y0:List (List T)) =>
 bF Sy.str (cZ y0 []) fun (y1:List ByteArray) =>
 bF Sy.str (c6 (List.map Sy.str.enc y1) [T.fn 112 [] []])
 fun (y2:List ByteArray)=>R (T.sl false (List.map Sy.str.enc y2))))
 (aD true
 (fJ (List (List T)) (cF [[T.v (.string a0.2.1)].reverse])
 fun (y3:List (List T)) =>
 bF Sy.str (cZ y3 []) fun (y4:List ByteArray) =>
 bF Sy.str (c6 (List.map Sy.str.enc y4) [T.fn 112 [] []])
 fun (y5:List ByteArray)=>R (T.sl false (List.map Sy.str.enc y5)))))
 (aF (decide (a0.1=2))
 (aF (decide (a0.1=1))
 (aD true
 (fJ (List (List T))
 (cF
 [[T.v (.string a0.2.2.2.1.1)].reverse,
 [T.v (.string a0.2.2.2.1.2.2)].reverse])
 fun (y6:List (List T)) =>
 bF Sy.str (cZ y6 []) fun (y7:List ByteArray) =>
 bF Sy.str (c6 (List.map Sy.str.enc y7) [T.fn 112 [] []])
 fun (y8:List ByteArray)=>R (T.sl false (List.map Sy.str.enc y8))))
 (aD true
 (fJ (List (List T)) (cF [[T.v (.string a0.2.1)].reverse])
 fun (y9:List (List T)) =>
 bF Sy.str (cZ y9 []) fun (y10:List ByteArray) =>
 bF Sy.str (c6 (List.map Sy.str.enc y10) [T.fn 112 [] []])
 fun (y11:List ByteArray)=>R (T.sl false (List.map Sy.str.enc y11)))))
 (aF (decide (a0.1=3))
 (aF (decide (a0.1=3))
 (aD true
 (fJ (List (List T))
 (cF
 [[T.v (.string a0.2.2.2.2.1.1)].reverse,
 [T.v (.string a0.2.2.2.2.1.2.2.2.1)].reverse])
 fun (y12:List (List T)) =>
 bF Sy.str (cZ y12 []) fun (y13:List ByteArray) =>
 bF Sy.str (c6 (List.map Sy.str.enc y13) [T.fn 112 [] []])
 fun (y14:List ByteArray)=>R (T.sl false (List.map Sy.str.enc y14))))
 (aD true
 (fJ (List (List T)) (cF [[T.v (.string a0.2.1)].reverse])
 fun (y15:List (List T)) =>
 bF Sy.str (cZ y15 []) fun (y16:List ByteArray) =>
 bF Sy.str (c6 (List.map Sy.str.enc y16) [T.fn 112 [] []])
 fun (y17:List ByteArray)=>R (T.sl false (List.map Sy.str.enc y17)))))
 (aF (decide (a0.1=4))
 (aF (decide (a0.1=3))
 (aD true
 (fJ (List (List T))
 (cF
 [[T.v (.string a0.2.2.2.2.1.1)].reverse,
 [T.v (.string a0.2.2.2.2.1.2.2.2.1)].reverse])
 fun (y18:List (List T)) =>
 bF Sy.str (cZ y18 []) fun (y19:List ByteArray) =>
 bF Sy.str (c6 (List.map Sy.str.enc y19) [T.fn 112 [] []])
 fun (y20:List ByteArray)=>R (T.sl false (List.map Sy.str.enc y20))))
 (aD true
 (fJ (List (List T)) (cF [[T.v (.string a0.2.1)].reverse])
 fun (y21:List (List T)) =>
 bF Sy.str (cZ y21 []) fun (y22:List ByteArray) =>
 bF Sy.str (c6 (List.map Sy.str.enc y22) [T.fn 112 [] []])
 fun (y23:List ByteArray)=>R (T.sl false (List.map Sy.str.enc y23)))))
 (aF (decide (a0.1=5))
 (aD true
 (fJ (List (List T))
 (cF
 [[T.v (.string a0.2.2.2.2.1.1)].reverse,
 [T.v (.string a0.2.2.2.2.1.2.2.2.1)].reverse])
 fun (y24:List (List T)) =>
 bF Sy.str (cZ y24 []) fun (y25:List ByteArray) =>
 bF Sy.str (c6 (List.map Sy.str.enc y25) [T.fn 112 [] []])
 fun (y26:List ByteArray)=>R (T.sl false (List.map Sy.str.enc y26))))
 (aF (decide (a0.1=6))
 (aD true
 (fJ (List (List T))
 (cF
 [[T.v (.string a0.2.1)].reverse,
 [T.v (.string a0.2.2.1)].reverse])
 fun (y27:List (List T)) =>
 bF Sy.str (cZ y27 []) fun (y28:List ByteArray) =>
 bF Sy.str (c6 (List.map Sy.str.enc y28) [T.fn 112 [] []])
 fun (y29:List ByteArray)=>R (T.sl false (List.map Sy.str.enc y29))))
 (aF (decide (a0.1=7))
 (aF (decide (a0.1=7))
 (aD true
 (fJ (List (List T))
 (cF
 [[T.v (.string a0.2.2.2.2.2.1.1)].reverse,
 [T.v (.string a0.2.2.2.2.2.1.2.1)].reverse,
 [T.v (.string a0.2.2.2.2.2.1.2.2.1)].reverse])
 fun (y30:List (List T)) =>
 bF Sy.str (cZ y30 []) fun (y31:List ByteArray) =>
 bF Sy.str (c6 (List.map Sy.str.enc y31) [T.fn 112 [] []])
 fun (y32:List ByteArray)=>R (T.sl false (List.map Sy.str.enc y32))))
 (aD true
 (fJ (List (List T)) (cF [[T.v (.string a0.2.1)].reverse])
 fun (y33:List (List T)) =>
 bF Sy.str (cZ y33 []) fun (y34:List ByteArray) =>
 bF Sy.str (c6 (List.map Sy.str.enc y34) [T.fn 112 [] []])
 fun (y35:List ByteArray)=>R (T.sl false (List.map Sy.str.enc y35)))))
 (aF (decide (a0.1=8))
 (aF (decide (a0.1=7))
 (aD true
 (fJ (List (List T))
 (cF
 [[T.v (.string a0.2.2.2.2.2.1.1)].reverse,
 [T.v (.string a0.2.2.2.2.2.1.2.1)].reverse,
 [T.v (.string a0.2.2.2.2.2.1.2.2.1)].reverse])
 fun (y36:List (List T)) =>
 bF Sy.str (cZ y36 []) fun (y37:List ByteArray) =>
 bF Sy.str (c6 (List.map Sy.str.enc y37) [T.fn 112 [] []])
 fun (y38:List ByteArray)=>R (T.sl false (List.map Sy.str.enc y38))))
 (aD true
 (fJ (List (List T)) (cF [[T.v (.string a0.2.1)].reverse])
 fun (y39:List (List T)) =>
 bF Sy.str (cZ y39 []) fun (y40:List ByteArray) =>
 bF Sy.str (c6 (List.map Sy.str.enc y40) [T.fn 112 [] []])
 fun (y41:List ByteArray)=>R (T.sl false (List.map Sy.str.enc y41)))))
 (aF (decide (a0.1=9))
 (aF (decide (a0.1=9))
 (a7 Sy.str.li
 [[T.sl false
 [[T.v (.string a0.2.2.2.2.2.2.1.1)],
 [T.v (.string a0.2.2.2.2.2.2.1.2.1)]]],
 [T.sl false (List.map Sy.str.enc a0.2.2.2.2.2.2.1.2.2.1)],
 [T.sl false (List.map Sy.str.enc a0.2.2.2.2.2.2.1.2.2.2.2)]]
 0 fun (y42:List ByteArray) =>
 fW Sy.str.li
 [[T.sl false
 [[T.v (.string a0.2.2.2.2.2.2.1.1)],
 [T.v (.string a0.2.2.2.2.2.2.1.2.1)]]],
 [T.sl false (List.map Sy.str.enc a0.2.2.2.2.2.2.1.2.2.1)],
 [T.sl false (List.map Sy.str.enc a0.2.2.2.2.2.2.1.2.2.2.2)]]
 (Int.toNat 0) 0 fun (y43:List ByteArray) =>
 aF
 (decide (IntKind.i64.wrap (0+(↑(List.map Sy.str.enc y43).length:Int))<0))
 (MP 162)
 (a7 Sy.str.li
 [[T.sl false
 [[T.v (.string a0.2.2.2.2.2.2.1.1)],
 [T.v (.string a0.2.2.2.2.2.2.1.2.1)]]],
 [T.sl false (List.map Sy.str.enc a0.2.2.2.2.2.2.1.2.2.1)],
 [T.sl false
 (List.map Sy.str.enc a0.2.2.2.2.2.2.1.2.2.2.2)]]
 (IntKind.i64.wrap (0+1)) fun (y44:List ByteArray) =>
 fW Sy.str.li
 [[T.sl false
 [[T.v (.string a0.2.2.2.2.2.2.1.1)],
 [T.v (.string a0.2.2.2.2.2.2.1.2.1)]]],
 [T.sl false
 (List.map Sy.str.enc a0.2.2.2.2.2.2.1.2.2.1)],
 [T.sl false
 (List.map Sy.str.enc a0.2.2.2.2.2.2.1.2.2.2.2)]]
 1 0 fun (y45:List ByteArray) =>
 aF
 (decide
 (IntKind.i64.wrap
 (IntKind.i64.wrap (0+(↑(List.map Sy.str.enc y43).length:Int)) +
 (↑(List.map Sy.str.enc y45).length:Int)) <
 0))
 (MP 162)
 (a7 Sy.str.li
 [[T.sl false
 [[T.v (.string a0.2.2.2.2.2.2.1.1)],
 [T.v (.string a0.2.2.2.2.2.2.1.2.1)]]],
 [T.sl false
 (List.map Sy.str.enc a0.2.2.2.2.2.2.1.2.2.1)],
 [T.sl false
 (List.map Sy.str.enc a0.2.2.2.2.2.2.1.2.2.2.2)]]
 (IntKind.i64.wrap (IntKind.i64.wrap (0+1)+1)) fun (y46:List ByteArray) =>
 fW Sy.str.li
 [[T.sl false
 [[T.v (.string a0.2.2.2.2.2.2.1.1)],
 [T.v (.string a0.2.2.2.2.2.2.1.2.1)]]],
 [T.sl false
 (List.map Sy.str.enc a0.2.2.2.2.2.2.1.2.2.1)],
 [T.sl false
 (List.map Sy.str.enc a0.2.2.2.2.2.2.1.2.2.2.2)]]
 2 0 fun (y47:List ByteArray) =>
 aF
 (decide
 (IntKind.i64.wrap
 (IntKind.i64.wrap
 (IntKind.i64.wrap
 (0+(↑(List.map Sy.str.enc y43).length:Int)) +
 (↑(List.map Sy.str.enc y45).length:Int)) +
 (↑(List.map Sy.str.enc y47).length:Int)) <
 0))
 (MP 162)
 (aD
 (decide
 (0 ≤
 IntKind.i64.wrap
 (IntKind.i64.wrap
 (IntKind.i64.wrap
 (0+(↑(List.map Sy.str.enc y43).length:Int)) +
 (↑(List.map Sy.str.enc y45).length:Int)) +
 (↑(List.map Sy.str.enc y47).length:Int))) &&
 decide
 ((IntKind.i64.wrap
 (IntKind.i64.wrap
 (IntKind.i64.wrap
 (0+(↑(List.map Sy.str.enc y43).length:Int)) +
 (↑(List.map Sy.str.enc y45).length:Int)) +
 (↑(List.map Sy.str.enc y47).length:Int))).toNat *
 16 ≤
 140737488355328) &&
 decide
 ((IntKind.i64.wrap
 (IntKind.i64.wrap
 (IntKind.i64.wrap
 (0+(↑(List.map Sy.str.enc y43).length:Int)) +
 (↑(List.map Sy.str.enc y45).length:Int)) +
 (↑(List.map Sy.str.enc y47).length:Int))).toNat ≤
 140737488355328))
 (a7 Sy.str.li
 [[T.sl false
 [[T.v (.string a0.2.2.2.2.2.2.1.1)],
 [T.v (.string a0.2.2.2.2.2.2.1.2.1)]]],
 [T.sl false
 (List.map Sy.str.enc a0.2.2.2.2.2.2.1.2.2.1)],
 [T.sl false
 (List.map Sy.str.enc
 a0.2.2.2.2.2.2.1.2.2.2.2)]]
 0 fun (y48:List ByteArray) =>
 fW Sy.str.li
 [[T.sl false
 [[T.v (.string a0.2.2.2.2.2.2.1.1)],
 [T.v (.string a0.2.2.2.2.2.2.1.2.1)]]],
 [T.sl false
 (List.map Sy.str.enc
 a0.2.2.2.2.2.2.1.2.2.1)],
 [T.sl false
 (List.map Sy.str.enc
 a0.2.2.2.2.2.2.1.2.2.2.2)]]
 (Int.toNat 0) 0 fun (y49:List ByteArray) =>
 aD
 (dG 1 (List.map Sy.str.enc y49) &&
 decide
 ((0+(List.map Sy.str.enc y49).length)*16 ≤
 140737488355328) &&
 decide (0+(List.map Sy.str.enc y49).length≤140737488355328))
 (a7 Sy.str.li
 [[T.sl false
 [[T.v (.string a0.2.2.2.2.2.2.1.1)],
 [T.v (.string a0.2.2.2.2.2.2.1.2.1)]]],
 [T.sl false
 (List.map Sy.str.enc
 a0.2.2.2.2.2.2.1.2.2.1)],
 [T.sl false
 (List.map Sy.str.enc
 a0.2.2.2.2.2.2.1.2.2.2.2)]]
 (IntKind.i64.wrap (0+1)) fun (y50:List ByteArray) =>
 fW Sy.str.li
 [[T.sl false
 [[T.v (.string a0.2.2.2.2.2.2.1.1)],
 [T.v (.string a0.2.2.2.2.2.2.1.2.1)]]],
 [T.sl false
 (List.map Sy.str.enc
 a0.2.2.2.2.2.2.1.2.2.1)],
 [T.sl false
 (List.map Sy.str.enc
 a0.2.2.2.2.2.2.1.2.2.2.2)]]
 1 0 fun (y51:List ByteArray) =>
 aD
 (dG 1 (List.map Sy.str.enc y51) &&
 decide
 ((([]++List.map Sy.str.enc y49).length +
 (List.map Sy.str.enc y51).length) *
 16 ≤
 140737488355328) &&
 decide
 (([]++List.map Sy.str.enc y49).length +
 (List.map Sy.str.enc y51).length ≤
 140737488355328))
 (a7 Sy.str.li
 [[T.sl false
 [[T.v (.string a0.2.2.2.2.2.2.1.1)],
 [T.v (.string a0.2.2.2.2.2.2.1.2.1)]]],
 [T.sl false
 (List.map Sy.str.enc
 a0.2.2.2.2.2.2.1.2.2.1)],
 [T.sl false
 (List.map Sy.str.enc
 a0.2.2.2.2.2.2.1.2.2.2.2)]]
 (IntKind.i64.wrap (IntKind.i64.wrap (0+1)+1))
 fun (y52:List ByteArray) =>
 fW Sy.str.li
 [[T.sl false
 [[T.v (.string a0.2.2.2.2.2.2.1.1)],
 [T.v (.string a0.2.2.2.2.2.2.1.2.1)]]],
 [T.sl false
 (List.map Sy.str.enc
 a0.2.2.2.2.2.2.1.2.2.1)],
 [T.sl false
 (List.map Sy.str.enc
 a0.2.2.2.2.2.2.1.2.2.2.2)]]
 2 0 fun (y53:List ByteArray) =>
 aD
 (dG 1 (List.map Sy.str.enc y53) &&
 decide
 ((([]++List.map Sy.str.enc y49 ++
 List.map Sy.str.enc y51).length +
 (List.map Sy.str.enc y53).length) *
 16 ≤
 140737488355328) &&
 decide
 (([]++List.map Sy.str.enc y49 ++
 List.map Sy.str.enc y51).length +
 (List.map Sy.str.enc y53).length ≤
 140737488355328))
 (aD
 (dG 1
 ([]++List.map Sy.str.enc y49 ++
 List.map Sy.str.enc y51 ++
 List.map Sy.str.enc y53) &&
 true &&
 decide
 (([]++List.map Sy.str.enc y49 ++
 List.map Sy.str.enc y51 ++
 List.map Sy.str.enc y53).length *
 16 ≤
 140737488355328) &&
 decide
 (([]++List.map Sy.str.enc y49 ++
 List.map Sy.str.enc y51 ++
 List.map Sy.str.enc y53).length ≤
 140737488355328))
 (fJ (List (List T))
 (cF
 ([]++List.map Sy.str.enc y49 ++
 List.map Sy.str.enc y51 ++
 List.map Sy.str.enc y53))
 fun (y54:List (List T)) =>
 bF Sy.str (cZ y54 [])
 fun (y55:List ByteArray) =>
 bF Sy.str
 (c6 (List.map Sy.str.enc y55)
 [T.fn 112 [] []])
 fun (y56:List ByteArray) =>
 R
 (T.sl false
 (List.map Sy.str.enc y56)))))))))))
 (aD true
 (fJ (List (List T))
 (cF [[T.v (.string a0.2.1)].reverse])
 fun (y57:List (List T)) =>
 bF Sy.str (cZ y57 []) fun (y58:List ByteArray) =>
 bF Sy.str
 (c6 (List.map Sy.str.enc y58) [T.fn 112 [] []])
 fun (y59:List ByteArray)=>R (T.sl false (List.map Sy.str.enc y59)))))
 (aF (decide (a0.1=10))
 (aF (decide (a0.1=9))
 (a7 Sy.str.li
 [[T.sl false
 [[T.v (.string a0.2.2.2.2.2.2.1.1)],
 [T.v (.string a0.2.2.2.2.2.2.1.2.1)]]],
 [T.sl false (List.map Sy.str.enc a0.2.2.2.2.2.2.1.2.2.1)],
 [T.sl false (List.map Sy.str.enc a0.2.2.2.2.2.2.1.2.2.2.2)]]
 0 fun (y60:List ByteArray) =>
 fW Sy.str.li
 [[T.sl false
 [[T.v (.string a0.2.2.2.2.2.2.1.1)],
 [T.v (.string a0.2.2.2.2.2.2.1.2.1)]]],
 [T.sl false (List.map Sy.str.enc a0.2.2.2.2.2.2.1.2.2.1)],
 [T.sl false
 (List.map Sy.str.enc a0.2.2.2.2.2.2.1.2.2.2.2)]]
 (Int.toNat 0) 0 fun (y61:List ByteArray) =>
 aF
 (decide (IntKind.i64.wrap (0+(↑(List.map Sy.str.enc y61).length:Int))<0))
 (MP 162)
 (a7 Sy.str.li
 [[T.sl false
 [[T.v (.string a0.2.2.2.2.2.2.1.1)],
 [T.v (.string a0.2.2.2.2.2.2.1.2.1)]]],
 [T.sl false
 (List.map Sy.str.enc a0.2.2.2.2.2.2.1.2.2.1)],
 [T.sl false
 (List.map Sy.str.enc a0.2.2.2.2.2.2.1.2.2.2.2)]]
 (IntKind.i64.wrap (0+1)) fun (y62:List ByteArray) =>
 fW Sy.str.li
 [[T.sl false
 [[T.v (.string a0.2.2.2.2.2.2.1.1)],
 [T.v (.string a0.2.2.2.2.2.2.1.2.1)]]],
 [T.sl false
 (List.map Sy.str.enc a0.2.2.2.2.2.2.1.2.2.1)],
 [T.sl false
 (List.map Sy.str.enc a0.2.2.2.2.2.2.1.2.2.2.2)]]
 1 0 fun (y63:List ByteArray) =>
 aF
 (decide
 (IntKind.i64.wrap
 (IntKind.i64.wrap (0+(↑(List.map Sy.str.enc y61).length:Int)) +
 (↑(List.map Sy.str.enc y63).length:Int)) <
 0))
 (MP 162)
 (a7 Sy.str.li
 [[T.sl false
 [[T.v (.string a0.2.2.2.2.2.2.1.1)],
 [T.v (.string a0.2.2.2.2.2.2.1.2.1)]]],
 [T.sl false
 (List.map Sy.str.enc a0.2.2.2.2.2.2.1.2.2.1)],
 [T.sl false
 (List.map Sy.str.enc a0.2.2.2.2.2.2.1.2.2.2.2)]]
 (IntKind.i64.wrap (IntKind.i64.wrap (0+1)+1))
 fun (y64:List ByteArray) =>
 fW Sy.str.li
 [[T.sl false
 [[T.v (.string a0.2.2.2.2.2.2.1.1)],
 [T.v (.string a0.2.2.2.2.2.2.1.2.1)]]],
 [T.sl false
 (List.map Sy.str.enc a0.2.2.2.2.2.2.1.2.2.1)],
 [T.sl false
 (List.map Sy.str.enc a0.2.2.2.2.2.2.1.2.2.2.2)]]
 2 0 fun (y65:List ByteArray) =>
 aF
 (decide
 (IntKind.i64.wrap
 (IntKind.i64.wrap
 (IntKind.i64.wrap
 (0+(↑(List.map Sy.str.enc y61).length:Int)) +
 (↑(List.map Sy.str.enc y63).length:Int)) +
 (↑(List.map Sy.str.enc y65).length:Int)) <
 0))
 (MP 162)
 (aD
 (decide
 (0 ≤
 IntKind.i64.wrap
 (IntKind.i64.wrap
 (IntKind.i64.wrap
 (0+(↑(List.map Sy.str.enc y61).length:Int)) +
 (↑(List.map Sy.str.enc y63).length:Int)) +
 (↑(List.map Sy.str.enc y65).length:Int))) &&
 decide
 ((IntKind.i64.wrap
 (IntKind.i64.wrap
 (IntKind.i64.wrap
 (0+(↑(List.map Sy.str.enc y61).length:Int)) +
 (↑(List.map Sy.str.enc y63).length:Int)) +
 (↑(List.map Sy.str.enc y65).length:Int))).toNat *
 16 ≤
 140737488355328) &&
 decide
 ((IntKind.i64.wrap
 (IntKind.i64.wrap
 (IntKind.i64.wrap
 (0+(↑(List.map Sy.str.enc y61).length:Int)) +
 (↑(List.map Sy.str.enc y63).length:Int)) +
 (↑(List.map Sy.str.enc y65).length:Int))).toNat ≤
 140737488355328))
 (a7 Sy.str.li
 [[T.sl false
 [[T.v (.string a0.2.2.2.2.2.2.1.1)],
 [T.v (.string a0.2.2.2.2.2.2.1.2.1)]]],
 [T.sl false
 (List.map Sy.str.enc
 a0.2.2.2.2.2.2.1.2.2.1)],
 [T.sl false
 (List.map Sy.str.enc
 a0.2.2.2.2.2.2.1.2.2.2.2)]]
 0 fun (y66:List ByteArray) =>
 fW Sy.str.li
 [[T.sl false
 [[T.v (.string a0.2.2.2.2.2.2.1.1)],
 [T.v (.string a0.2.2.2.2.2.2.1.2.1)]]],
 [T.sl false
 (List.map Sy.str.enc
 a0.2.2.2.2.2.2.1.2.2.1)],
 [T.sl false
 (List.map Sy.str.enc
 a0.2.2.2.2.2.2.1.2.2.2.2)]]
 (Int.toNat 0) 0 fun (y67:List ByteArray) =>
 aD
 (dG 1 (List.map Sy.str.enc y67) &&
 decide
 ((0+(List.map Sy.str.enc y67).length)*16 ≤
 140737488355328) &&
 decide (0+(List.map Sy.str.enc y67).length≤140737488355328))
 (a7 Sy.str.li
 [[T.sl false
 [[T.v (.string a0.2.2.2.2.2.2.1.1)],
 [T.v (.string a0.2.2.2.2.2.2.1.2.1)]]],
 [T.sl false
 (List.map Sy.str.enc
 a0.2.2.2.2.2.2.1.2.2.1)],
 [T.sl false
 (List.map Sy.str.enc
 a0.2.2.2.2.2.2.1.2.2.2.2)]]
 (IntKind.i64.wrap (0+1)) fun (y68:List ByteArray) =>
 fW Sy.str.li
 [[T.sl false
 [[T.v (.string a0.2.2.2.2.2.2.1.1)],
 [T.v (.string a0.2.2.2.2.2.2.1.2.1)]]],
 [T.sl false
 (List.map Sy.str.enc
 a0.2.2.2.2.2.2.1.2.2.1)],
 [T.sl false
 (List.map Sy.str.enc
 a0.2.2.2.2.2.2.1.2.2.2.2)]]
 1 0 fun (y69:List ByteArray) =>
 aD
 (dG 1 (List.map Sy.str.enc y69) &&
 decide
 ((([]++List.map Sy.str.enc y67).length +
 (List.map Sy.str.enc y69).length) *
 16 ≤
 140737488355328) &&
 decide
 (([]++List.map Sy.str.enc y67).length +
 (List.map Sy.str.enc y69).length ≤
 140737488355328))
 (a7 Sy.str.li
 [[T.sl false
 [[T.v (.string a0.2.2.2.2.2.2.1.1)],
 [T.v (.string a0.2.2.2.2.2.2.1.2.1)]]],
 [T.sl false
 (List.map Sy.str.enc
 a0.2.2.2.2.2.2.1.2.2.1)],
 [T.sl false
 (List.map Sy.str.enc
 a0.2.2.2.2.2.2.1.2.2.2.2)]]
 (IntKind.i64.wrap (IntKind.i64.wrap (0+1)+1))
 fun (y70:List ByteArray) =>
 fW Sy.str.li
 [[T.sl false
 [[T.v (.string a0.2.2.2.2.2.2.1.1)],
 [T.v (.string a0.2.2.2.2.2.2.1.2.1)]]],
 [T.sl false
 (List.map Sy.str.enc
 a0.2.2.2.2.2.2.1.2.2.1)],
 [T.sl false
 (List.map Sy.str.enc
 a0.2.2.2.2.2.2.1.2.2.2.2)]]
 2 0 fun (y71:List ByteArray) =>
 aD
 (dG 1 (List.map Sy.str.enc y71) &&
 decide
 ((([]++List.map Sy.str.enc y67 ++
 List.map Sy.str.enc y69).length +
 (List.map Sy.str.enc y71).length) *
 16 ≤
 140737488355328) &&
 decide
 (([]++List.map Sy.str.enc y67 ++
 List.map Sy.str.enc y69).length +
 (List.map Sy.str.enc y71).length ≤
 140737488355328))
 (aD
 (dG 1
 ([]++List.map Sy.str.enc y67 ++
 List.map Sy.str.enc y69 ++
 List.map Sy.str.enc y71) &&
 true &&
 decide
 (([]++List.map Sy.str.enc y67 ++
 List.map Sy.str.enc y69 ++
 List.map Sy.str.enc y71).length *
 16 ≤
 140737488355328) &&
 decide
 (([]++List.map Sy.str.enc y67 ++
 List.map Sy.str.enc y69 ++
 List.map Sy.str.enc y71).length ≤
 140737488355328))
 (fJ (List (List T))
 (cF
 ([]++List.map Sy.str.enc y67 ++
 List.map Sy.str.enc y69 ++
 List.map Sy.str.enc y71))
 fun (y72:List (List T)) =>
 bF Sy.str (cZ y72 [])
 fun (y73:List ByteArray) =>
 bF Sy.str
 (c6 (List.map Sy.str.enc y73)
 [T.fn 112 [] []])
 fun (y74:List ByteArray) =>
 R
 (T.sl false
 (List.map Sy.str.enc y74)))))))))))
 (aD true
 (fJ (List (List T))
 (cF [[T.v (.string a0.2.1)].reverse])
 fun (y75:List (List T)) =>
 bF Sy.str (cZ y75 []) fun (y76:List ByteArray) =>
 bF Sy.str
 (c6 (List.map Sy.str.enc y76) [T.fn 112 [] []])
 fun (y77:List ByteArray)=>R (T.sl false (List.map Sy.str.enc y77)))))
 (aF (decide (a0.1=11))
 (aD true
 (fJ (List (List T))
 (cF
 [[T.v (.string a0.2.2.2.2.2.2.2.2.1)].reverse,
 [T.v (.string a0.2.2.2.2.2.2.2.2.2)].reverse])
 fun (y78:List (List T)) =>
 bF Sy.str (cZ y78 []) fun (y79:List ByteArray) =>
 bF Sy.str
 (c6 (List.map Sy.str.enc y79) [T.fn 112 [] []])
 fun (y80:List ByteArray)=>R (T.sl false (List.map Sy.str.enc y80))))
 (aF (decide (a0.1=12))
 (aD true
 (fJ (List (List T))
 (cF
 [[T.v (.string a0.2.2.2.2.2.2.2.2.1)].reverse,
 [T.v (.string a0.2.2.2.2.2.2.2.2.2)].reverse])
 fun (y81:List (List T)) =>
 bF Sy.str (cZ y81 []) fun (y82:List ByteArray) =>
 bF Sy.str
 (c6 (List.map Sy.str.enc y82) [T.fn 112 [] []])
 fun (y83:List ByteArray)=>R (T.sl false (List.map Sy.str.enc y83))))
 (R (T.sl false [])))))))))))))
abbrev CY:Sh:=[(true,aR)]
theorem MZ {zs:List (List UInt8)} (h:zs≠[]):Lib.compact zs≠[]:=by
 cases zs with
 | nil=>exact absurd rfl h
 | cons a l =>
  unfold Lib.compact Lib.compactUpTo
  intro e
  rw[List.map_eq_nil_iff,List.filter_eq_nil_iff] at e
  exact e 0 (List.mem_range.2 (by simp)) (Lib.keeps_lt_one _ 0 (by omega))
theorem Q1 {q:List (List UInt8)→List (List UInt8)} (hq:∀ l,l≠[]→q l≠[]) {l:List ByteArray} (h:l≠[]):fZ q l≠[]:=by
 unfold fZ
 rw[Ne,List.map_eq_nil_iff]
 exact hq _ (by rw[Ne,List.map_eq_nil_iff];exact h)
theorem T9 {l:List (List UInt8)} (h:l≠[]):cO l≠[]:=by
 unfold cO
 intro e
 have:=congrArg List.length e
 rw[List.length_mergeSort] at this
 exact h (List.length_eq_zero_iff.1 this)
def cT (l:List ByteArray):List ByteArray:=fZ oH (fZ Lib.compact (fZ cO l))
theorem TE:cT []=[]:=by
 have e:cO []=[]:=by unfold cO;simp
 unfold cT fZ
 rw[List.map_nil,e];rfl
theorem FB {l:List (List ByteArray)} {rows:List (List T)} {i:Int} {k:Nat} {y:List ByteArray} {K:List ByteArray→Prop} (hr:rows=List.map (Sy.li .str).enc l) (hi:i=(k:Int)) (hy:l[k]? = some y) (hk:K y):a7 (.li .str) rows i K :=
 ⟨y,by omega,by rw[hr,hi,Int.toNat_natCast];exact zI.2 hy,hk⟩
theorem E6 {l:List (List ByteArray)} {rows:List (List T)} {k:Nat} {y:List ByteArray} {K:List ByteArray→Prop} (hr:rows=List.map (Sy.li .str).enc l) (hy:l[k]? = some y) (hk:K y):fW (.li .str) rows k 0 K :=
 ⟨_,y,by rw[hr];exact zI.2 hy,Nat.le_refl _,rfl,hk⟩
theorem CI {L:List ByteArray} (hL:L≠[]) {rows:List (List T)} (hr:rows=List.map Sy.str.enc L) {R:T→Prop} (h:R (T.sl false (List.map Sy.str.enc (cT L)))) :
  fJ (List (List T)) (cF rows) fun y0=>bF Sy.str (cZ y0 []) fun y1=>bF Sy.str (c6 (List.map Sy.str.enc y1) [T.fn 112 [] []]) fun y2=>R (T.sl false (List.map Sy.str.enc y2)):=by
 subst hr
 rw[NP,SO,SP _ (Q1 (fun l=>MZ) (Q1 (fun l=>T9) hL))]
 exact h
def aV (x:bD):List ByteArray :=
 if x.1=1 then [x.2.2.2.1.1,x.2.2.2.1.2.2]
 else if x.1=2∨x.1=4∨x.1=8∨x.1=10 then [x.2.1]
 else if x.1=3∨x.1=5 then [x.2.2.2.2.1.1,x.2.2.2.2.1.2.2.2.1]
 else if x.1=6 then [x.2.1,x.2.2.1]
 else if x.1=7 then [x.2.2.2.2.2.1.1,x.2.2.2.2.2.1.2.1,x.2.2.2.2.2.1.2.2.1]
 else if x.1=9 then ([x.2.2.2.2.2.2.1.1,x.2.2.2.2.2.2.1.2.1]++x.2.2.2.2.2.2.1.2.2.1)++x.2.2.2.2.2.2.1.2.2.2.2
 else if x.1=11∨x.1=12 then [x.2.2.2.2.2.2.2.2.1,x.2.2.2.2.2.2.2.2.2]
 else []
def CM (x:bD):Bool:=decide (x.2.2.2.2.2.2.1.2.2.1.length≤1000000)&&decide (x.2.2.2.2.2.2.1.2.2.2.2.length≤1000000)
def mC (x:bD):Option T:=match CM x with
 | true=>some (T.sl false (List.map Sy.str.enc (cT (aV x))))
 | false=>none
noncomputable def iI:List T→Option T:=gS CY mC
theorem J5 {a0}:iI [aG true aR a0]=mC (a0):=cG (s:=CY) rfl (a0) rfl
theorem TM:RO Tryz.prog 70 iI mC (fF CY) AK:=xL (a1:=(true,aR)) (sp:=mC) (F:=AK) (Hs:=U4) (f:=70) (k:=9) L4 bA bJ (aX rfl) ⟨_,_,Tryz.func70,rfl⟩ rfl fun _ _=>by kernel_rfl
theorem iM {c:Bool} {a r:T} (h:(match c with|true=>some a|false=>none)=some r):c=true∧a=r:=by
 cases c with
 | true=>exact ⟨rfl,Option.some.inj h⟩
 | false=>cases h
theorem oB {l:List ByteArray}:dG 1 (List.map Sy.str.enc l)=true:=VF .str l
theorem EJ:aZ Tryz.prog 70 iI:=TM fun x r h hb=>by
 clear hb
 obtain ⟨hp,rfl⟩:=iM h
 clear h
 unfold CM at hp
 rw[Bool.and_eq_true,decide_eq_true_eq,decide_eq_true_eq] at hp
 obtain ⟨hp1,hp2⟩:=hp
 have go:∀ {L:List ByteArray} {rows:List (List T)},aV x=L→L≠[]→rows=List.map Sy.str.enc L→fJ (List (List T)) (cF rows) fun y0=>bF Sy.str (cZ y0 []) fun y1=>bF Sy.str (c6 (List.map Sy.str.enc y1) [T.fn 112 [] []]) fun y2=>T.sl false (List.map Sy.str.enc y2)=T.sl false (List.map Sy.str.enc (cT (aV x))):=fun {L} {rows} e hn hr=>by
  rw[e]
  exact CI (R:=fun y=>y=T.sl false (List.map Sy.str.enc (cT L))) hn hr rfl
 unfold AK
 have e1:x.1=1→aV x=[x.2.2.2.1.1,x.2.2.2.1.2.2]:=fun h=>by simp only[aV,h,if_true]
 have e2:x.1=2∨x.1=4∨x.1=8∨x.1=10→aV x=[x.2.1]:=fun h=>by
  unfold aV;rw[if_neg (by omega),if_pos h]
 have e3:x.1=3∨x.1=5→aV x=[x.2.2.2.2.1.1,x.2.2.2.2.1.2.2.2.1]:=fun h=>by
  unfold aV;rw[if_neg (by omega),if_neg (by omega),if_pos h]
 have e6:x.1=6→aV x=[x.2.1,x.2.2.1]:=fun h=>by
  unfold aV;rw[if_neg (by omega),if_neg (by omega),if_neg (by omega),if_pos h]
 have e7:x.1=7→aV x=[x.2.2.2.2.2.1.1,x.2.2.2.2.2.1.2.1,x.2.2.2.2.2.1.2.2.1]:=fun h=>by
  unfold aV;rw[if_neg (by omega),if_neg (by omega),if_neg (by omega),if_neg (by omega),if_pos h]
 have e9:x.1=9→aV x=([x.2.2.2.2.2.2.1.1,x.2.2.2.2.2.2.1.2.1]++x.2.2.2.2.2.2.1.2.2.1)++x.2.2.2.2.2.2.1.2.2.2.2:=fun h=>by
  unfold aV;rw[if_neg (by omega),if_neg (by omega),if_neg (by omega),if_neg (by omega),if_neg (by omega),if_pos h]
 have e11:x.1=11∨x.1=12→aV x=[x.2.2.2.2.2.2.2.2.1,x.2.2.2.2.2.2.2.2.2]:=fun h=>by
  unfold aV;rw[if_neg (by omega),if_neg (by omega),if_neg (by omega),if_neg (by omega),if_neg (by omega),if_neg (by omega),if_pos h]
 refine eP (fun h=>eP (fun _=>⟨rfl,go (e1 h) (by simp) rfl⟩) fun h'=>absurd h h') fun n1=>?_
 refine eP (fun h=>eP (fun h'=>by omega) fun _=>⟨rfl,go (e2 (by omega)) (by simp) rfl⟩) fun n2=>?_
 refine eP (fun h=>eP (fun _=>⟨rfl,go (e3 (by omega)) (by simp) rfl⟩) fun h'=>absurd h h') fun n3=>?_
 refine eP (fun h=>eP (fun h'=>by omega) fun _=>⟨rfl,go (e2 (by omega)) (by simp) rfl⟩) fun n4=>?_
 refine eP (fun h=>⟨rfl,go (e3 (by omega)) (by simp) rfl⟩) fun n5=>?_
 refine eP (fun h=>⟨rfl,go (e6 (by omega)) (by simp) rfl⟩) fun n6=>?_
 refine eP (fun h=>eP (fun _=>⟨rfl,go (e7 (by omega)) (by simp) rfl⟩) fun h'=>absurd h h') fun n7=>?_
 refine eP (fun h=>eP (fun h'=>by omega) fun _=>⟨rfl,go (e2 (by omega)) (by simp) rfl⟩) fun n8=>?_
 refine eP (fun h=>eP (fun _=>?_) fun h'=>absurd h h') fun n9=>?_
 ·have w1:IntKind.i64.wrap (0+1)=1:=rfl
  have w2:IntKind.i64.wrap (1+1)=2:=rfl
  rw[e9 h]
  generalize hA:[x.2.2.2.2.2.2.1.1,x.2.2.2.2.2.2.1.2.1]=A
  have hAl:A.length=2:=by rw[←hA];rfl
  clear e1 e2 e3 e6 e7 e11
  generalize x.2.2.2.2.2.2.1.2.2.1=B at hp1 ⊢
  generalize x.2.2.2.2.2.2.1.2.2.2.2=C at hp2 ⊢
  have l1:IntKind.i64.wrap (0+((List.map Sy.str.enc A).length:Int))=2:=by rw[List.length_map,hAl];rfl
  have l2:IntKind.i64.wrap (2+((List.map Sy.str.enc B).length:Int))=2+(B.length:Int):=by rw[List.length_map];exact cX _ (by omega) (by omega)
  have l3:IntKind.i64.wrap (2+(B.length:Int)+((List.map Sy.str.enc C).length:Int))=2+(B.length:Int)+(C.length:Int):=by rw[List.length_map];exact cX _ (by omega) (by omega)
  have hR:[[T.sl false [[T.v (.string x.2.2.2.2.2.2.1.1)],[T.v (.string x.2.2.2.2.2.2.1.2.1)]]],[T.sl false (List.map Sy.str.enc B)],[T.sl false (List.map Sy.str.enc C)]]=List.map (Sy.li .str).enc [A,B,C]:=by rw[←hA];rfl
  rw[hR]
  rw[w1,w2]
  refine FB rfl rfl (k:=0) rfl (E6 rfl rfl ?_)
  rw[l1]
  refine eP (fun h=>by omega) fun _=>?_
  refine FB rfl rfl (k:=1) rfl (E6 rfl rfl ?_)
  rw[l2]
  refine eP (fun h=>by omega) fun _=>?_
  refine FB rfl rfl (k:=2) rfl (E6 rfl rfl ?_)
  rw[l3]
  refine eP (fun h=>by omega) fun _=>?_
  refine ⟨by rw[Bool.and_eq_true,Bool.and_eq_true];exact ⟨⟨decide_eq_true (by omega),decide_eq_true (by omega)⟩,decide_eq_true (by omega)⟩,?_⟩
  refine FB rfl rfl (k:=0) rfl (E6 (k:=0) rfl rfl ?_)
  refine ⟨by rw[Bool.and_eq_true,Bool.and_eq_true];exact ⟨⟨oB,decide_eq_true (by simp;omega)⟩,decide_eq_true (by simp;omega)⟩,?_⟩
  refine FB rfl rfl (k:=1) rfl (E6 rfl rfl ?_)
  refine ⟨by rw[Bool.and_eq_true,Bool.and_eq_true];exact ⟨⟨oB,decide_eq_true (by simp;omega)⟩,decide_eq_true (by simp;omega)⟩,?_⟩
  refine FB rfl rfl (k:=2) rfl (E6 rfl rfl ?_)
  refine ⟨by rw[Bool.and_eq_true,Bool.and_eq_true];exact ⟨⟨oB,decide_eq_true (by simp;omega)⟩,decide_eq_true (by simp;omega)⟩,?_⟩
  have eA:[]++List.map Sy.str.enc A++List.map Sy.str.enc B++List.map Sy.str.enc C=List.map Sy.str.enc (A++B++C):=by rw[List.map_append,List.map_append];rfl
  rw[eA]
  refine ⟨by rw[Bool.and_eq_true,Bool.and_eq_true,Bool.and_eq_true];exact ⟨⟨⟨oB,rfl⟩,decide_eq_true (by simp;omega)⟩,decide_eq_true (by simp;omega)⟩,?_⟩
  exact CI (R:=fun y=>y=T.sl false (List.map Sy.str.enc (cT (A++B++C)))) (by
   intro e
   have:=congrArg List.length e
   simp only[List.length_append,hAl,List.length_nil] at this
   omega) rfl rfl
 refine eP (fun h=>eP (fun h'=>by omega) fun _=>⟨rfl,go (e2 (by omega)) (by simp) rfl⟩) fun n10=>?_
 refine eP (fun h=>⟨rfl,go (e11 (by omega)) (by simp) rfl⟩) fun n11=>?_
 refine eP (fun h=>⟨rfl,go (e11 (by omega)) (by simp) rfl⟩) fun n12=>?_
 have e:aV x=[]:=by
  unfold aV
  rw[if_neg (by omega),if_neg (by omega),if_neg (by omega),if_neg (by omega),if_neg (by omega),if_neg (by omega),if_neg (by omega)]
 rw[e,TE];rfl
end Go.Pv
namespace Go.Pv
open Go Go.Proofs Go.RowKit
theorem ADX (a:ByteArray):(⟨a.data.toList.toArray⟩:ByteArray)=a:=by cases a;simp
def xN (o:bB) (k:Nat):List UInt8:=((bL o.1++dK o.2.length)++e5 iA (o.2.take k)).data.toList
theorem xO {o:bB} {k:Nat} (h:k<o.2.length):xN o (k+1)=xN o k++(iA o.2[k]).data.toList:=by
 unfold xN
 rw[List.take_succ_eq_append_getElem h,jD,←ByteArray.append_assoc]
 show (_++(iA o.2[k]++e5 iA [])).data.toList=_
 rw[show iA o.2[k]++e5 iA []=iA o.2[k] from ByteArray.append_empty]
 simp[ByteArray.data_append]
theorem AAY {o:bB}:∀ (l m:List bD),l <+: m→(e5 iA l).size≤(e5 iA m).size
 | l,_,⟨r,rfl⟩=>by rw[jD,ByteArray.size_append];omega
theorem ACE {o:bB} (k:Nat):(xN o k).length≤(p9 o).size:=by
 have h:=AAY (o:=o) (o.2.take k) o.2 (List.take_prefix ..)
 have e:(xN o k).length=((bL o.1++dK o.2.length)++e5 iA (o.2.take k)).size:=rfl
 have e2:(p9 o).size=((bL o.1++dK o.2.length)++e5 iA o.2).size:=rfl
 rw[e,e2,ByteArray.size_append (a:=bL o.1++dK o.2.length),ByteArray.size_append (a:=bL o.1++dK o.2.length)]
 omega
set_option maxHeartbeats 400000 in
theorem R3 (o:bB) (hok:N6 o=true) (ad:Option Addr) (n cap:Nat) (hn:o.2.length=n) (w:World) (hG:Good Tryz.prog w) (hr:bK w (fun _=>False) (.sl false (List.map aR.enc o.2)) (.slice ad n cap)) :
  Calls Tryz.prog 12 #[.agg #[.string o.1,.slice ad n cap]] w fun e w'=>e = .returned (.string (p9 o))∧Below w.heap.size w w':=by
 unfold N6 at hok
 simp only[Bool.and_eq_true,decide_eq_true_eq,List.all_eq_true] at hok
 obtain ⟨k1,k2,k3,k4⟩:=hok
 have hn9:n≤1000000000:=by omega
 obtain ⟨M,hM⟩:∃ M:Nat,M=1000000000:=⟨_,rfl⟩
 have hM9:M≤1000000000:=Nat.le_of_eq hM
 have s1:(w.alloc (.cells #[.string o.1,.slice ad n cap] 25)).heap.size=w.heap.size+1:=Array.size_push ..
 have b1:Below w.heap.size w (w.alloc (.cells #[.string o.1,.slice ad n cap] 25)):=(Below.refl _ w).alloc (Nat.le_refl _) _
 obtain ⟨W2,hW2⟩:∃ W2,(w.alloc (.cells #[.string o.1,.slice ad n cap] 25)).alloc (.cells #[.pointer none,.slice none 0 0] 94)=W2:=⟨_,rfl⟩
 have s2:W2.heap.size=w.heap.size+2:=by rw[←hW2];show (Array.push _ _).size=_;rw[Array.size_push,s1]
 have b2:Below w.heap.size w W2:=by rw[←hW2];exact b1.alloc (by rw[s1];omega) _
 have c2:W2.heap[w.heap.size]? = some (.cells #[.string o.1,.slice ad n cap] 25):=by
  rw[←hW2,Below.heap_alloc _ _ _ (by rw[s1];omega)];exact heap_alloc_new w _
 have h0:Lib.IsBuilderF 94 5 (w.heap.size+1) (w.heap.size+1) [] W2:=by
  have:=Lib.IsBuilderF.of (Lib.fresh_isBuilder 94 5 (w.alloc (.cells #[.string o.1,.slice ad n cap] 25)))
  rw[s1] at this
  rw[←hW2];exact this
 obtain ⟨St,hSt⟩:∃ St:List UInt8→World→Prop,St=fun l W=>Below w.heap.size w W∧W.heap[w.heap.size]? = some (.cells #[.string o.1,.slice ad n cap] 25)∧Lib.IsBuilderF 94 5 (w.heap.size+1) (w.heap.size+1) (Lib.byteCells l) W∧w.heap.size+2≤W.heap.size:=⟨_,rfl⟩
 have hSt':∀ l W,St l W↔Below w.heap.size w W∧W.heap[w.heap.size]? = some (.cells #[.string o.1,.slice ad n cap] 25)∧Lib.IsBuilderF 94 5 (w.heap.size+1) (w.heap.size+1) (Lib.byteCells l) W∧w.heap.size+2≤W.heap.size:=fun l W=>by rw[hSt]
 clear hSt
 have hb:∀ l W W',St l W→Below W.heap.size W W'→St l W':=fun l W W' h hb=>by
  obtain ⟨g1,g2,g3,g4⟩:=(hSt' l W).1 h
  refine (hSt' l W').2 ⟨g1.trans (hb.mono (by omega)),?_,g3.below hb,Nat.le_trans g4 hb.size⟩
  rw[hb.block _ (by omega)];exact g2
 have hGS:∀ l W,St l W→Good Tryz.prog W:=fun l W h=>hG.below ((hSt' l W).1 h).1
 have hcell:∀ l W,St l W→W.heap[w.heap.size]? = some (.cells #[.string o.1,.slice ad n cap] 25):=fun l W h=>((hSt' l W).1 h).2.1
 have hz:(bL o.1).size+(dK n).size≤M:=by
  have e2:(p9 o).size=((bL o.1++dK o.2.length)++e5 iA o.2).size:=rfl
  rw[ByteArray.size_append,ByteArray.size_append,hn] at e2
  omega
 have fin:(⟨(xN o n).toArray⟩:ByteArray)=p9 o:=by
  unfold xN
  rw[←hn,List.take_length]
  exact ADX _
 rw[←fin]
 have gT:cM [.v (.string o.1)]=some (.v (.string (bL o.1))):=(sS ..).trans (by unfold kP;rw[decide_eq_true (by omega)])
 have gL:iH [.v (.int .i64 (n:Int))]=some (.v (.string (dK n))):=mR ..
 have go:(∀ W,St [] W→Calls Tryz.prog 36 #[.string o.1] W fun e W'=>e = .returned (.string (bL o.1))∧St [] W') →
   (∀ W,St [] W→Calls Tryz.prog 37 #[.int .i64 (n:Int)] W fun e W'=>e = .returned (.string (dK n))∧St [] W') →
   (∀ l s W,St l W→l.length+s.size≤M→Calls Tryz.prog 35 #[.pointer (some ⟨w.heap.size+1,0,none⟩),.string s] W fun e W'=>e = .returned (.tuple #[.int .i64 s.size,.nilIface])∧St (l++s.data.toList) W') →
   (∀ l W,St l W→Calls Tryz.prog 39 #[.pointer (some ⟨w.heap.size+1,0,none⟩)] W fun e W'=>e = .returned (.string ⟨l.toArray⟩)∧Below w.heap.size w W') →
   Calls Tryz.prog 12 #[.agg #[.string o.1,.slice ad n cap]] w fun e w'=>e = .returned (.string ⟨(xN o n).toArray⟩)∧Below w.heap.size w w':=fun aT aL aW aS=>by
  have hP0:xN o 0=(bL o.1++dK n).data.toList:=by
   unfold xN;rw[List.take_zero,hn]
   exact congrArg (fun b:ByteArray=>b.data.toList) ByteArray.append_empty
  have hPM:∀ k (h:k<o.2.length),(xN o k).length+(iA o.2[k]).size≤M:=fun k h=>by
   have h1:=ACE (o:=o) (k+1)
   rw[xO h,List.length_append] at h1
   have:(iA o.2[k]).data.toList.length=(iA o.2[k]).size:=rfl
   omega
  have hd:∀ l W,St l W→St l W.drew:=fun l W h=>hb l W _ h ((Below.refl _ W).drew)
  have c0:∀ l W,St l W→W.cell? ⟨w.heap.size,0,none⟩=some (.string o.1):=fun l W h=>by simp[World.cell?,hcell l W h]
  have c1:∀ l W,St l W→W.cell? ⟨w.heap.size,1,none⟩=some (.slice ad n cap):=fun l W h=>by simp[World.cell?,hcell l W h]
  have hR:∀ l W,St l W→bK W (fun _=>False) (.sl false (List.map aR.enc o.2)) (.slice ad n cap):=fun l W h=>hr.grow ((hSt' l W).1 h).1
  have h20:St [] W2:=(hSt' _ _).2 ⟨b2,c2,h0,by omega⟩
  cases ad with
  | none=>exact R4 o.1 n cap w (bL o.1) (dK n) M o.2 hn hn9 St (xN o) hz hM9 hP0 (fun k h=>xO h) hPM (fun k h=>k3 _ (List.getElem_mem h)) W2 hW2 h20 hd hb hGS c0 c1 hR aT aL aW aS
  | some ad=>exact R5 o.1 ad n cap w (bL o.1) (dK n) M o.2 hn hn9 St (xN o) hz hM9 hP0 (fun k h=>xO h) hPM (fun k h=>k3 _ (List.getElem_mem h)) W2 hW2 h20 hd hb hGS c0 c1 hR aT aL aW aS
 refine go (fun W h=>?_) (fun W h=>?_) (fun l s W h hs=>?_) fun l W h=>?_
 ·refine (u7.calls W (fun _=>False) _ _ _ (hGS _ _ h) (fun _ h=>h.elim) (bX.one (.v _)) gT).mono ?_
  rintro e W' ⟨v,rfl,h1,h2⟩
  cases h1
  exact ⟨rfl,hb _ _ _ h h2⟩
 ·refine (u6.calls W (fun _=>False) _ _ _ (hGS _ _ h) (fun _ h=>h.elim) (bX.one (.v _)) gL).mono ?_
  rintro e W' ⟨v,rfl,h1,h2⟩
  cases h1
  exact ⟨rfl,hb _ _ _ h h2⟩
 ·obtain ⟨g1,g2,g3,g4⟩:=(hSt' l W).1 h
  refine (RT (w.heap.size+1) (w.heap.size+1) _ s W g3 (by rw[Lib.byteCells_length];omega) (by omega)).mono ?_
  rintro e W' ⟨rfl,h1,h2⟩
  refine ⟨rfl,(hSt' _ _).2 ⟨g1.trans (h2.mono (by omega)),by rw[h2.block _ (by omega)];exact g2,?_,Nat.le_trans g4 h2.size⟩⟩
  rw[Lib.strCells_eq,←Lib.byteCells_append] at h1
  exact Or.inr h1
 ·obtain ⟨g1,g2,g3,g4⟩:=(hSt' l W).1 h
  refine (MR (w.heap.size+1) (w.heap.size+1) l W g3 (by omega)).mono ?_
  rintro e W' ⟨rfl,_,h2⟩
  exact ⟨rfl,g1.trans (h2.mono (by omega))⟩
def zU (o:bB):Option T:=match N6 o with
 | true=>some (.v (.string (p9 o)))
 | false=>none
noncomputable def G3:List T→Option T:=gS [(true,aU)] zU
theorem ER {o:bB}:G3 [aG true aU o]=zU o:=cG (s:=[(true,aU)]) rfl o rfl
theorem PT:aZ Tryz.prog 12 G3 where
 entry:=⟨_,Tryz.func12,rfl,rfl⟩
 calls:=fun w own args vs r hG ho ha hg=>by
  obtain ⟨o,rfl,hsp⟩:=G1 hg
  obtain ⟨hok,rfl⟩:=iM (show (match N6 o with|true=>some (T.v (.string (p9 o)))|false=>none)=some r from hsp)
  obtain ⟨hz,hv⟩:=ha
  rcases vs with ⟨l⟩
  match l,hz,hv with
  | [v0],_,hv =>
   have h0:bK w own (T.agg [T.v (.string o.1),T.sl false (List.map aR.enc o.2)]) v0:=hv 0 Nat.zero_lt_one
   cases h0 with
   | agg _ vc g1 g2 =>
    rcases vc with ⟨m⟩
    match m,g1,g2 with
    | [x0,x1],_,g2 =>
     have q0:bK w own (T.v (.string o.1)) x0:=g2 0 (show 0<2 by decide)
     have q1:bK w own (T.sl false (List.map aR.enc o.2)) x1:=g2 1 (show 1<2 by decide)
     obtain ⟨ad,cap,rfl,_⟩:=q1.isSlice
     cases q0
     refine (R3 o hok ad _ cap (by rw[List.length_map]) w hG (q1.less fun _ h=>h.elim)).mono ?_
     rintro e w' ⟨rfl,h2⟩
     exact ⟨_,rfl,.v _,h2⟩
end Go.Pv
namespace Go.Pv
open Go Go.Proofs
noncomputable def zW:Env:=Env.of [(31,.kG e8),(75,.kG b8)]
def IT:FuncId→Hint:=fM 77 [(3,.inv [.box 0 lI,.own 3 2 aP,.val 7 false (.int .i64)])] (fun _=>bW)
theorem LZ:aH Tryz.prog zW:=.cons pK (.cons BS (.nil _))
def AF (a0:aB) (R:T→Prop):Prop :=
 aE [(true,aA),(false,Sy.int IntKind.i64)]
 (e8 [aG true aA a0,T.v (.int .i64 32)])
 fun (y0:aB×Int) =>
 bM (aB×List bI×Int×PUnit)
 (fun (X1:aB×List bI×Int×PUnit→Prop)
 (s2:aB×List bI×Int×PUnit) =>
 aF (decide (s2.2.2.1<y0.2))
 (aE [(true,aA),(false,Sy.int IntKind.i64)]
 (b8
 [aG true aA s2.1,T.v (.int .i64 (-9223372036854775808)),
 T.v (.int .i64 9223372036854775807)])
 fun (y3:aB×Int) =>
 aE [(true,aA),(false,Sy.int IntKind.i64)]
 (b8
 [aG true aA y3.1,T.v (.int .i64 (-9223372036854775808)),
 T.v (.int .i64 9223372036854775807)])
 fun (y4:aB×Int) =>
 aD
 (decide (((List.map aP.enc s2.2.1).length+1)*16≤140737488355328) &&
 decide ((List.map aP.enc s2.2.1).length+1≤140737488355328))
 (bP aP
 (List.map aP.enc s2.2.1 ++
 [[T.v (.int .i64 y3.2),T.v (.int .i64 y4.2)]])
 fun (y5:List bI) =>
 X1 ((y4.1.1,y4.1.2),y5,IntKind.i64.wrap (s2.2.2.1+1),())))
 (R
 (T.bN
 [aG true aA s2.1,T.sl false (List.map aP.enc s2.2.1)])))
 ((y0.1.1,y0.1.2),[],0,())
theorem IK ( a0 R):jO b9 Tryz.prog zW IT 8 77 [aG true aA a0] R=AF a0 R:=by kernel_rfl
abbrev vZ:Sh:=[(true,aA)]
abbrev K8:Sh:=[(true,aA),(false,aP.li)]
noncomputable def FT:Env:=Env.of [(31,.kG e8),(30,.kG bT)]
def OZ:FuncId→Hint:=fM 56 [(2,.inv [.box 0 lI,.own 4 1 .str,.val 8 false (.int .i64)])] (fun _=>bW)
theorem RD:aH Tryz.prog FT:=.cons pK (.cons pL (.nil _))
def F5 (a0:aB) (a1:Int) (R:T→Prop):Prop :=
 aE [(true,aA),(false,Sy.int IntKind.i64)]
 (e8 [aG true aA a0,T.v (.int .i64 a1)])
 fun (y0:aB×Int) =>
 bM (aB×List ByteArray×Int×PUnit)
 (fun (X1:aB×List ByteArray×Int×PUnit→Prop)
 (s2:aB×List ByteArray×Int×PUnit) =>
 aF (decide (s2.2.2.1<y0.2))
 (aE [(true,aA),(false,Sy.str)]
 (bT [aG true aA s2.1,T.v (.int .i64 64)])
 fun (y3:aB×ByteArray) =>
 aD
 (decide (((List.map Sy.str.enc s2.2.1).length+1)*16≤140737488355328) &&
 decide ((List.map Sy.str.enc s2.2.1).length+1≤140737488355328))
 (bP Sy.str (List.map Sy.str.enc s2.2.1++[[T.v (.string y3.2)]])
 fun (y4:List ByteArray) =>
 X1 ((y3.1.1,y3.1.2),y4,IntKind.i64.wrap (s2.2.2.1+1),())))
 (R
 (T.bN
 [aG true aA s2.1,T.sl false (List.map Sy.str.enc s2.2.1)])))
 ((y0.1.1,y0.1.2),[],0,())
theorem MD ( a0 a1 R):jO b9 Tryz.prog FT OZ 8 56 [aG true aA a0,aG false (Sy.int IntKind.i64) a1] R=F5 a0 a1 R:=by kernel_rfl
abbrev zP:Sh:=[(true,aA),(false,(Sy.int IntKind.i64))]
abbrev QS:Sh:=[(true,aA),(false,Sy.str.li)]
def DG (r:cV):Bool:=decide (r.1.size≤140737488355328)
theorem kI {a b:cV} (h:DG b=true) (ht:Tl a b):DG a=true:=decide_eq_true (Nat.le_trans ht.size (of_decide_eq_true h))
theorem c9 {r:cV} {K:cV×Int→Prop} (h:DG r=true) (hk:DG (rI r).1=true→K (rI r)):aE [(true,aA),(false,.int .i64)] (b8 [aG true aA r,T.v (.int .i64 (-9223372036854775808)),T.v (.int .i64 9223372036854775807)]) K:=aM (s:=HR) (y:=rI r) (NL ..) (hk (kI h (iN r)))
theorem QE {r:cV} {n:Int} (hn:n<9223372036854775808) (h:DG r=true):TP r n=true:=by unfold TP;rw[decide_eq_true hn,Bool.true_and];exact h
theorem eE {r:cV} {n:Int} (hn:n<9223372036854775808) {K:cV×ByteArray→Prop} (h:DG r=true) (hk:DG (rT n r).1=true→K (rT n r)):aE [(true,aA),(false,.str)] (bT [aG true aA r,T.v (.int .i64 n)]) K :=
 aM (s:=LB) (y:=rT n r) ((J4 ..).trans (by unfold p5;dsimp only;rw[QE hn h];rfl)) (hk (kI h (iV n r)))
theorem zM {r:cV} {n:Int} (hn:n<9223372036854775808) {K:cV×Int→Prop} (h:DG r=true) (hk:DG (aI r 4 n false).1=true→K (aI r 4 n false)):aE [(true,aA),(false,.int .i64)] (e8 [aG true aA r,T.v (.int .i64 n)]) K :=
 aM (s:=LA) (y:=aI r 4 n false) ((J3 ..).trans (by unfold pZ;dsimp only;rw[QE hn h])) (hk (kI h (vV 4 n false r)))
def pW (x:cW):Option T:=match DG x with
 | true=>some (Sh.enc K8 (uA x))
 | false=>none
noncomputable def jE:List T→Option (T):=gS vZ pW
theorem J0 {a0}:jE [aG true aA a0]=pW (a0):=cG (s:=vZ) rfl (a0) rfl
theorem TH (h:∀ a0 r,pW (a0)=some r→fF vZ (a0)→AF a0 (fun y=>y=r)):eQ Tryz.prog 77 jE :=
 iK (E:=zW) (Hs:=IT) LZ bA bJ (aX rfl) 8 ⟨_,_,Tryz.func77,rfl⟩ rfl fun x r h1 h2=>by
  let a0:=x
  rw[show Sh.fS vZ (a0)=[aG true aA a0] from rfl,IK]
  exact h a0 r h1 h2
theorem fD {r:Sy} (hr:r.pure=true) {l:List r.den} {rows:List (List T)} {K:List r.den→Prop} (e:rows=List.map r.enc l) (h:K l):bP r rows K:=by subst e;rw[j6 hr];exact h
theorem D6 {A:Prop} (h:A):PB A A:=⟨h,h⟩
theorem pR {z n k:Nat} (hz:z≤1000) (hn:n=k) (hk:k<1000):(decide ((n+1)*z≤140737488355328)&&decide (n+1≤140737488355328))=true:=by
 subst hn
 have:(n+1)*z≤1000*1000:=Nat.mul_le_mul (by omega) hz
 rw[Bool.and_eq_true]
 exact ⟨decide_eq_true (by omega),decide_eq_true (by omega)⟩
theorem HF {k:Nat} (h:k<1000000):IntKind.i64.wrap ((k:Int)+1)=((k+1:Nat):Int):=cX _ (by omega) (by omega)
theorem SG:eQ Tryz.prog 77 jE:=TH fun a0 r h hb=>by
 clear hb
 obtain ⟨hc,rfl⟩:=KY h
 unfold AF
 refine zM (by decide) hc fun hc1=>?_
 have cb:=wV (r:=a0) (k:=4) (most:=32) (f:=false) (by decide)
 refine cS (aI a0 4 32 false).2.toNat (fun k s=>s=((cA rPt k (aI a0 4 32 false).1).1,(cA rPt k (aI a0 4 32 false).1).2,(k:Int),())) rfl ?_
 rintro X k s hk rfl hX
 dsimp only
 refine eP (fun hlt=>?_) fun hge=>?_
 ·refine c9 (kI hc1 (kK Y1 _ _)) fun h1=>c9 h1 fun h2=>⟨pR (by decide) (by rw[List.length_map,iZ]) (by omega),fD (r:=aP) rfl (l:=(cA rPt k (aI a0 4 32 false).1).2++[((rI (cA rPt k (aI a0 4 32 false).1).1).2,(rI (rI (cA rPt k (aI a0 4 32 false).1).1).1).2)]) (by rw[List.map_append];rfl) ?_⟩
  exact hX _ (by omega) (by rw[HF (by omega)];rfl)
 ·have:k=(aI a0 4 32 false).2.toNat:=by omega
  subst this
  rfl
def wH (x:cW×Int):Option T:=match DG x.1&&(decide (0≤x.2)&&decide (x.2≤300)) with
 | true=>some (Sh.enc QS (nE x.2 x.1))
 | false=>none
noncomputable def mU:List T→Option (T):=gS zP wH
theorem NJ {a0 a1}:mU [aG true aA a0,T.v (.int .i64 a1)]=wH (a0,a1):=cG (s:=zP) rfl (a0,a1) rfl
theorem YA (h:∀ a0 a1 r,wH (a0,a1)=some r→fF zP (a0,a1)→F5 a0 a1 (fun y=>y=r)):eQ Tryz.prog 56 mU :=
 iK (E:=FT) (Hs:=OZ) RD bA bJ (aX rfl) 8 ⟨_,_,Tryz.func56,rfl⟩ rfl fun x r h1 h2=>by
  obtain ⟨a0,a1⟩:=x
  rw[show Sh.fS zP (a0,a1)=[aG true aA a0,aG false (Sy.int IntKind.i64) a1] from rfl,MD]
  exact h a0 a1 r h1 h2
theorem WD:eQ Tryz.prog 56 mU:=YA fun a0 n r h hb=>by
 clear hb
 obtain ⟨hc,rfl⟩:=KY h
 rw[Bool.and_eq_true,Bool.and_eq_true,decide_eq_true_eq,decide_eq_true_eq] at hc
 obtain ⟨hc,hn0,hn1⟩:=hc
 dsimp only at hc hn0 hn1
 unfold F5
 refine zM (by omega) hc fun hc1=>?_
 have cb:=wV (r:=a0) (k:=4) (most:=n) (f:=false) hn0
 refine cS (aI a0 4 n false).2.toNat (fun k s=>s=((cA (rT 64) k (aI a0 4 n false).1).1,(cA (rT 64) k (aI a0 4 n false).1).2,(k:Int),())) rfl ?_
 rintro X k s hk rfl hX
 dsimp only
 refine eP (fun hlt=>?_) fun hge=>?_
 ·refine eE (by decide) (kI hc1 (kK (iV 64) _ _)) fun _=>⟨pR (by decide) (by rw[List.length_map,iZ]) (by omega),fD (r:=.str) rfl (l:=(cA (rT 64) k (aI a0 4 n false).1).2++[(rT 64 (cA (rT 64) k (aI a0 4 n false).1).1).2]) (by rw[List.map_append];rfl) ?_⟩
  exact hX _ (by omega) (by rw[HF (by omega)];rfl)
 ·have:k=(aI a0 4 n false).2.toNat:=by omega
  subst this
  rfl
noncomputable def zY:Env:=Env.of [(31,.kG e8),(75,.kG b8),(30,.kG bT),(77,.kG jE)]
def IV:FuncId→Hint:=fM 55 [(10,.inv [.box 0 lI,.box 2 sG,.wS 2 7 1 (.li aP),.val 28 false (.int .i64)])] (fun _=>bW)
theorem L1:aH Tryz.prog zY:=.cons pK (.cons BS (.cons pL (.cons SG (.nil _))))
def AH (a0:aB) (R:T→Prop):Prop :=
 aE [(true,aA),(false,Sy.str)]
 (bT [aG true aA a0,T.v (.int .i64 64)])
 fun (y0:aB×ByteArray) =>
 aE [(true,aA),(false,Sy.int IntKind.i64)]
 (b8
 [aG true aA y0.1,T.v (.int .i64 (-9223372036854775808)),
 T.v (.int .i64 9223372036854775807)])
 fun (y1:aB×Int) =>
 aE [(true,aA),(false,Sy.int IntKind.i64)]
 (b8
 [aG true aA y1.1,T.v (.int .i64 (-9223372036854775808)),
 T.v (.int .i64 9223372036854775807)])
 fun (y2:aB×Int) =>
 aE [(true,aA),(false,Sy.str)]
 (bT [aG true aA y2.1,T.v (.int .i64 64)])
 fun (y3:aB×ByteArray) =>
 aE [(true,aA),(false,Sy.str)]
 (bT [aG true aA y3.1,T.v (.int .i64 16)])
 fun (y4:aB×ByteArray) =>
 aE [(true,aA),(false,Sy.int IntKind.i64)]
 (b8
 [aG true aA y4.1,T.v (.int .i64 (-9223372036854775808)),
 T.v (.int .i64 9223372036854775807)])
 fun (y5:aB×Int) =>
 aE [(true,aA),(false,aP.li)]
 (jE [aG true aA y5.1])
 fun (y6:aB×List bI) =>
 aE [(true,aA),(false,Sy.int IntKind.i64)]
 (e8 [aG true aA y6.1,T.v (.int .i64 8)])
 fun (y7:aB×Int) =>
 bP aP (List.map aP.enc y6.2) fun (y8:List bI) =>
 bP aP.li [] fun (y9:List (List bI)) =>
 bM (aB×iC×List (List bI)×Int×PUnit)
 (fun (X10:aB×iC×List (List bI)×Int×PUnit→Prop)
 (s11:aB×iC×List (List bI)×Int×PUnit) =>
 aF (decide (s11.2.2.2.1<y7.2))
 (PB
 (aE [(true,aA),(false,aP.li)]
 (jE [aG true aA s11.1])
 fun (y12:aB×List bI) =>
 aD
 (decide
 (((List.map aP.li.enc s11.2.2.1).length+1)*24 ≤
 140737488355328) &&
 decide ((List.map aP.li.enc s11.2.2.1).length+1≤140737488355328))
 (bP aP
 (List.map aP.enc s11.2.1.2.2.2.2.2.2.1.1)
 fun (y13:List bI) =>
 bP aP.li [] fun (y14:List (List bI)) =>
 bP aP.li
 (List.map aP.li.enc s11.2.2.1 ++
 [[T.sl false (List.map aP.enc y12.2)]])
 fun (y15:List (List bI)) =>
 X10
 ((y12.1.1,y12.1.2),
 (s11.2.1.1,s11.2.1.2.1,s11.2.1.2.2.1,
 s11.2.1.2.2.2.1,s11.2.1.2.2.2.2.1,
 s11.2.1.2.2.2.2.2.1,(y13,y14),
 s11.2.1.2.2.2.2.2.2.2.1,
 s11.2.1.2.2.2.2.2.2.2.2.1,
 s11.2.1.2.2.2.2.2.2.2.2.2.1,
 (s11.2.1.2.2.2.2.2.2.2.2.2.2.1.1,
 s11.2.1.2.2.2.2.2.2.2.2.2.2.1.2.1,
 s11.2.1.2.2.2.2.2.2.2.2.2.2.1.2.2),
 (s11.2.1.2.2.2.2.2.2.2.2.2.2.2.1.1,
 s11.2.1.2.2.2.2.2.2.2.2.2.2.2.1.2.1,
 s11.2.1.2.2.2.2.2.2.2.2.2.2.2.1.2.2),
 s11.2.1.2.2.2.2.2.2.2.2.2.2.2.2),
 y15,IntKind.i64.wrap (s11.2.2.2.1+1),())))
 (aE [(true,aA),(false,aP.li)]
 (jE [aG true aA s11.1])
 fun (y16:aB×List bI) =>
 aD
 (decide
 (((List.map aP.li.enc s11.2.2.1).length+1)*24 ≤
 140737488355328) &&
 decide ((List.map aP.li.enc s11.2.2.1).length+1≤140737488355328))
 (bP aP
 (List.map aP.enc s11.2.1.2.2.2.2.2.2.1.1)
 fun (y17:List bI) =>
 bP aP.li [] fun (y18:List (List bI)) =>
 bP aP.li
 (List.map aP.li.enc s11.2.2.1 ++
 [[T.sl false (List.map aP.enc y16.2)]])
 fun (y19:List (List bI)) =>
 X10
 ((y16.1.1,y16.1.2),
 (s11.2.1.1,s11.2.1.2.1,s11.2.1.2.2.1,
 s11.2.1.2.2.2.1,s11.2.1.2.2.2.2.1,
 s11.2.1.2.2.2.2.2.1,(y17,y18),
 s11.2.1.2.2.2.2.2.2.2.1,
 s11.2.1.2.2.2.2.2.2.2.2.1,
 s11.2.1.2.2.2.2.2.2.2.2.2.1,
 (s11.2.1.2.2.2.2.2.2.2.2.2.2.1.1,
 s11.2.1.2.2.2.2.2.2.2.2.2.2.1.2.1,
 s11.2.1.2.2.2.2.2.2.2.2.2.2.1.2.2),
 (s11.2.1.2.2.2.2.2.2.2.2.2.2.2.1.1,
 s11.2.1.2.2.2.2.2.2.2.2.2.2.2.1.2.1,
 s11.2.1.2.2.2.2.2.2.2.2.2.2.2.1.2.2),
 s11.2.1.2.2.2.2.2.2.2.2.2.2.2.2),
 y19,IntKind.i64.wrap (s11.2.2.2.1+1),()))))
 (aE [(true,aA),(false,Sy.str)]
 (bT
 [aG true aA s11.1,T.v (.int .i64 16)])
 fun (y20:aB×ByteArray) =>
 aE [(true,aA),(false,Sy.int IntKind.i64)]
 (b8
 [aG true aA y20.1,
 T.v (.int .i64 (-9223372036854775808)),
 T.v (.int .i64 9223372036854775807)])
 fun (y21:aB×Int) =>
 aE [(true,aA),(false,Sy.int IntKind.i64)]
 (b8
 [aG true aA y21.1,
 T.v (.int .i64 (-9223372036854775808)),
 T.v (.int .i64 9223372036854775807)])
 fun (y22:aB×Int) =>
 aE [(true,aA),(false,Sy.int IntKind.i64)]
 (b8
 [aG true aA y22.1,
 T.v (.int .i64 (-9223372036854775808)),
 T.v (.int .i64 9223372036854775807)])
 fun (y23:aB×Int) =>
 aE [(true,aA),(false,Sy.int IntKind.i64)]
 (b8
 [aG true aA y23.1,
 T.v (.int .i64 (-9223372036854775808)),
 T.v (.int .i64 9223372036854775807)])
 fun (y24:aB×Int) =>
 aE [(true,aA),(false,Sy.int IntKind.i64)]
 (b8
 [aG true aA y24.1,
 T.v (.int .i64 (-9223372036854775808)),
 T.v (.int .i64 9223372036854775807)])
 fun (y25:aB×Int) =>
 aE [(true,aA),(false,Sy.int IntKind.i64)]
 (b8
 [aG true aA y25.1,
 T.v (.int .i64 (-9223372036854775808)),
 T.v (.int .i64 9223372036854775807)])
 fun (y26:aB×Int) =>
 aE [(true,aA),(false,Sy.int IntKind.i64)]
 (b8
 [aG true aA y26.1,
 T.v (.int .i64 (-9223372036854775808)),
 T.v (.int .i64 9223372036854775807)])
 fun (y27:aB×Int) =>
 aE [(true,aA),(false,Sy.int IntKind.i64)]
 (b8
 [aG true aA y27.1,
 T.v (.int .i64 (-9223372036854775808)),
 T.v (.int .i64 9223372036854775807)])
 fun (y28:aB×Int) =>
 aE [(true,aA),(false,Sy.int IntKind.i64)]
 (b8
 [aG true aA y28.1,
 T.v (.int .i64 (-9223372036854775808)),
 T.v (.int .i64 9223372036854775807)])
 fun (y29:aB×Int) =>
 aF (!decide (y29.1.2=0))
 (R
 (T.bN
 [aG true aA y29.1,
 T.agg
 [T.v (.string { data:=#[] }),
 T.v (.int .i64 0),
 T.v (.int .i64 0),
 T.v (.string { data:=#[] }),
 T.v (.string { data:=#[] }),
 T.v (.int .i64 0),
 T.sl false [],T.sl false [],
 T.v (.string { data:=#[] }),
 T.v (.int .i64 0),
 T.v (.int .i64 0),
 T.v (.int .i64 0),
 T.v (.int .i64 0),
 T.v (.int .i64 0),
 T.v (.int .i64 0),
 T.v (.int .i64 0),
 T.v (.int .i64 0),
 T.v (.int .i64 0)]]))
 (R
 (T.bN
 [aG true aA y29.1,
 T.agg
 [T.v (.string s11.2.1.1),
 T.v (.int .i64 s11.2.1.2.1),
 T.v (.int .i64 s11.2.1.2.2.1),
 T.v (.string s11.2.1.2.2.2.1),
 T.v (.string s11.2.1.2.2.2.2.1),
 T.v (.int .i64 s11.2.1.2.2.2.2.2.1),
 T.sl false
 (List.map aP.enc
 s11.2.1.2.2.2.2.2.2.1.1),
 T.sl false
 (List.map aP.li.enc s11.2.2.1),
 T.v (.string y20.2),
 T.v (.int .i64 y21.2),
 T.v (.int .i64 y22.2),
 T.v (.int .i64 y23.2),
 T.v (.int .i64 y24.2),
 T.v (.int .i64 y25.2),
 T.v (.int .i64 y26.2),
 T.v (.int .i64 y27.2),
 T.v (.int .i64 y28.2),
 T.v (.int .i64 y29.2)]]))))
 ((y7.1.1,y7.1.2),
 (y0.2,y1.2,y2.2,y3.2,y4.2,y5.2,(y8,y9),{ data:=#[] },0,0,(0,0,0),
 (0,0,0),0),
 [],0,())
theorem IM ( a0 R):jO b9 Tryz.prog zY IV 8 55 [aG true aA a0] R=AH a0 R:=by kernel_rfl
abbrev v8:Sh:=[(true,aA)]
abbrev K9:Sh:=[(true,aA),(true,sG)]
theorem QI {r:cV} {K:cV×List bI→Prop} (h:DG r=true) (hk:DG (uA r).1=true→K (uA r)):aE [(true,aA),(false,aP.li)] (jE [aG true aA r]) K :=
 aM (s:=K8) (y:=uA r) ((J0 ..).trans (by unfold pW;rw[h])) (hk (kI h (vU r)))
def pY (x:cW):Option T:=match DG x with
 | true=>some (Sh.enc K9 (sB x))
 | false=>none
noncomputable def lV:List T→Option (T):=gS v8 pY
theorem J2 {a0}:lV [aG true aA a0]=pY (a0):=cG (s:=v8) rfl (a0) rfl
theorem TJ (h:∀ a0 r,pY (a0)=some r→fF v8 (a0)→AH a0 (fun y=>y=r)):eQ Tryz.prog 55 lV :=
 iK (E:=zY) (Hs:=IV) L1 bA bJ (aX rfl) 8 ⟨_,_,Tryz.func55,rfl⟩ rfl fun x r h1 h2=>by
  let a0:=x
  rw[show Sh.fS v8 (a0)=[aG true aA a0] from rfl,IM]
  exact h a0 r h1 h2
def Y3:cV→cV×(List (List bI)×ByteArray×Int×Int×GD×GD×Int):=cU OC (cU (rT 16) (cU rI (cU rI (cU TX (cU TX rI)))))
theorem SI:eQ Tryz.prog 55 lV:=TJ fun a0 r h hb=>by
 clear hb
 obtain ⟨hc,rfl⟩:=KY h
 unfold AH
 refine eE (by decide) hc fun h=>c9 h fun h=>c9 h fun h=>eE (by decide) h fun h=>eE (by decide) h fun h=>c9 h fun h=>QI h fun h=>zM (by decide) h fun hc1=>?_
 clear h
 refine fD (r:=aP) rfl rfl (fD (r:=aP.li) (l:=[]) rfl rfl ?_)
 generalize hH:cU (rT 64) (cU rI (cU rI (cU (rT 64) (cU (rT 16) (cU rI uA))))) a0=H
 have e0:HP a0=((Y3 H.1).1,(H.2.1,H.2.2.1,H.2.2.2.1,H.2.2.2.2.1,H.2.2.2.2.2.1,H.2.2.2.2.2.2.1,(H.2.2.2.2.2.2.2,(Y3 H.1).2.1),(Y3 H.1).2.2)):=by rw[←hH];rfl
 have cb:=wV (r:=H.1) (k:=4) (most:=8) (f:=false) (by decide)
 have hc1:DG (aI H.1 4 8 false).1=true:=by rw[←hH];exact hc1
 refine cS (aI H.1 4 8 false).2.toNat (fun k s=>s=((cA uA k (aI H.1 4 8 false).1).1,(H.2.1,H.2.2.1,H.2.2.2.1,H.2.2.2.2.1,H.2.2.2.2.2.1,H.2.2.2.2.2.2.1,(H.2.2.2.2.2.2.2,[]),⟨#[]⟩,0,0,(0,0,0),(0,0,0),0),(cA uA k (aI H.1 4 8 false).1).2,(k:Int),())) (by rw[←hH];rfl) ?_
 rintro X k s hk rfl hX
 dsimp only
 have hn:(aI (cU (rT 64) (cU rI (cU rI (cU (rT 64) (cU (rT 16) (cU rI uA))))) a0).1 4 8 false).2=(aI H.1 4 8 false).2:=by rw[hH]
 refine eP (fun hlt=>?_) fun hge=>?_
 ·have hlt:(k:Int)<(aI H.1 4 8 false).2:=by rw[←hn];exact hlt
  refine D6 (QI (kI hc1 (kK vU _ _)) fun _=>⟨pR (by decide) (by rw[List.length_map,iZ]) (by omega),fD (r:=aP) rfl rfl (fD (r:=aP.li) (l:=[]) rfl rfl (fD (r:=aP.li) rfl (l:=(cA uA k (aI H.1 4 8 false).1).2++[(uA (cA uA k (aI H.1 4 8 false).1).1).2]) (by rw[List.map_append];rfl) ?_))⟩)
  exact hX _ (by omega) (by rw[HF (by omega)];rfl)
 ·have hge:¬ (k:Int)<(aI H.1 4 8 false).2:=fun g=>hge (by rw[←hn] at g;exact g)
  have:k=(aI H.1 4 8 false).2.toNat:=by omega
  subst this
  refine eE (by decide) (kI hc1 (kK vU _ _)) fun h=>c9 h fun h=>c9 h fun h=>c9 h fun h=>c9 h fun h=>c9 h fun h=>c9 h fun h=>c9 h fun h=>c9 h fun h=>c9 h fun h=>?_
  refine G5 (fun he=>?_) fun he=>?_
  ·have e1:sB a0=((HP a0).1,OW):=if_neg (by rw[e0];exact he)
   rw[e1,e0];rfl
  ·have e1:sB a0=HP a0:=if_pos (by rw[e0];exact he)
   rw[e1,e0];rfl
end Go.Pv
namespace Go.Pv
open Go Go.Proofs
noncomputable def zX:Env:=Env.of [(75,.kG b8),(30,.kG bT),(55,.kG lV),(56,.kG mU)]
def IU:FuncId→Hint:=fun _=>bW
theorem L0:aH Tryz.prog zX:=.cons BS (.cons pL (.cons SI (.cons WD (.nil _))))
def AG (a0:aB) (R:T→Prop):Prop :=
 aE [(true,aA),(false,Sy.int IntKind.i64)]
 (b8
 [aG true aA a0,T.v (.int .i64 (-9223372036854775808)),
 T.v (.int .i64 9223372036854775807)])
 fun (y0:aB×Int) =>
 aE [(true,aA),(false,Sy.str)]
 (bT [aG true aA y0.1,T.v (.int .i64 64)])
 fun (y1:aB×ByteArray) =>
 aE [(true,aA),(false,Sy.str)]
 (bT [aG true aA y1.1,T.v (.int .i64 64)])
 fun (y2:aB×ByteArray) =>
 aE [(true,aA),(false,Sy.str)]
 (bT [aG true aA y2.1,T.v (.int .i64 64)])
 fun (y3:aB×ByteArray) =>
 aE [(true,aA),(false,Sy.int IntKind.i64)]
 (b8
 [aG true aA y3.1,T.v (.int .i64 (-9223372036854775808)),
 T.v (.int .i64 9223372036854775807)])
 fun (y4:aB×Int) =>
 aE [(true,aA),(false,Sy.str)]
 (bT [aG true aA y4.1,T.v (.int .i64 64)])
 fun (y5:aB×ByteArray) =>
 aE [(true,aA),(true,sG)]
 (lV [aG true aA y5.1]) fun (y6:aB×iC) =>
 aE [(true,aA),(false,Sy.str)]
 (bT [aG true aA y6.1,T.v (.int .i64 64)])
 fun (y7:aB×ByteArray) =>
 aE [(true,aA),(false,Sy.str)]
 (bT [aG true aA y7.1,T.v (.int .i64 64)])
 fun (y8:aB×ByteArray) =>
 aE [(true,aA),(false,Sy.str)]
 (bT
 [aG true aA y8.1,T.v (.int .i64 64)])
 fun (y9:aB×ByteArray) =>
 aE [(true,aA),(false,Sy.int IntKind.i64)]
 (b8
 [aG true aA y9.1,
 T.v (.int .i64 (-9223372036854775808)),
 T.v (.int .i64 9223372036854775807)])
 fun (y10:aB×Int) =>
 aE [(true,aA),(false,Sy.int IntKind.i64)]
 (b8
 [aG true aA y10.1,
 T.v (.int .i64 (-9223372036854775808)),
 T.v (.int .i64 9223372036854775807)])
 fun (y11:aB×Int) =>
 aE [(true,aA),(false,Sy.int IntKind.i64)]
 (b8
 [aG true aA y11.1,
 T.v (.int .i64 (-9223372036854775808)),
 T.v (.int .i64 9223372036854775807)])
 fun (y12:aB×Int) =>
 aE [(true,aA),(false,Sy.str)]
 (bT
 [aG true aA y12.1,T.v (.int .i64 64)])
 fun (y13:aB×ByteArray) =>
 aE [(true,aA),(false,Sy.str)]
 (bT
 [aG true aA y13.1,T.v (.int .i64 64)])
 fun (y14:aB×ByteArray) =>
 aE [(true,aA),(false,Sy.str.li)]
 (mU
 [aG true aA y14.1,
 T.v (.int .i64 256)])
 fun (y15:aB×List ByteArray) =>
 aE [(true,aA),(false,Sy.int IntKind.i64)]
 (b8
 [aG true aA y15.1,
 T.v (.int .i64 (-9223372036854775808)),
 T.v (.int .i64 9223372036854775807)])
 fun (y16:aB×Int) =>
 aE [(true,aA),(false,Sy.str.li)]
 (mU
 [aG true aA y16.1,
 T.v (.int .i64 64)])
 fun (y17:aB×List ByteArray) =>
 aE [(true,aA),(false,Sy.int IntKind.i64)]
 (b8
 [aG true aA y17.1,
 T.v (.int .i64 (-9223372036854775808)),
 T.v (.int .i64 9223372036854775807)])
 fun (y18:aB×Int) =>
 aE [(true,aA),(false,Sy.str)]
 (bT
 [aG true aA y18.1,
 T.v (.int .i64 64)])
 fun (y19:aB×ByteArray) =>
 aE [(true,aA),(false,Sy.str)]
 (bT
 [aG true aA y19.1,
 T.v (.int .i64 64)])
 fun (y20:aB×ByteArray) =>
 aF (!decide (y20.1.2=0))
 (R
 (T.bN
 [aG true aA y20.1,
 T.agg
 [T.v (.int .i64 0),
 T.v (.string { data:=#[] }),
 T.v (.string { data:=#[] }),
 T.v (.string { data:=#[] }),
 T.v (.int .i64 0),
 T.v (.string { data:=#[] }),
 T.v (.string { data:=#[] }),
 T.v (.int .i64 0),
 T.v (.int .i64 0),
 T.v (.string { data:=#[] }),
 T.v (.string { data:=#[] }),
 T.v (.int .i64 0),T.sl false [],
 T.sl false [],T.v (.string { data:=#[] }),
 T.v (.int .i64 0),
 T.v (.int .i64 0),
 T.v (.int .i64 0),
 T.v (.int .i64 0),
 T.v (.int .i64 0),
 T.v (.int .i64 0),
 T.v (.int .i64 0),
 T.v (.int .i64 0),
 T.v (.int .i64 0),
 T.v (.string { data:=#[] }),
 T.v (.string { data:=#[] }),
 T.v (.string { data:=#[] }),
 T.v (.int .i64 0),
 T.v (.int .i64 0),
 T.v (.int .i64 0),
 T.v (.string { data:=#[] }),
 T.v (.string { data:=#[] }),T.sl false [],
 T.v (.int .i64 0),T.sl false [],
 T.v (.int .i64 0),
 T.v (.string { data:=#[] }),
 T.v (.string { data:=#[] })]]))
 (R
 (T.bN
 [aG true aA y20.1,
 T.agg
 [T.v (.int .i64 y0.2),
 T.v (.string y1.2),
 T.v (.string y2.2),
 T.v (.string y3.2),
 T.v (.int .i64 y4.2),
 T.v (.string y5.2),
 T.v (.string y6.2.1),
 T.v (.int .i64 y6.2.2.1),
 T.v (.int .i64 y6.2.2.2.1),
 T.v (.string y6.2.2.2.2.1),
 T.v (.string y6.2.2.2.2.2.1),
 T.v (.int .i64 y6.2.2.2.2.2.2.1),
 T.sl false
 (List.map aP.enc
 y6.2.2.2.2.2.2.2.1.1),
 T.sl false
 (List.map aP.li.enc
 y6.2.2.2.2.2.2.2.1.2),
 T.v (.string y6.2.2.2.2.2.2.2.2.1),
 T.v (.int .i64 y6.2.2.2.2.2.2.2.2.2.1),
 T.v (.int .i64 y6.2.2.2.2.2.2.2.2.2.2.1),
 T.v (.int .i64 y6.2.2.2.2.2.2.2.2.2.2.2.1.1),
 T.v (.int .i64 y6.2.2.2.2.2.2.2.2.2.2.2.1.2.1),
 T.v (.int .i64 y6.2.2.2.2.2.2.2.2.2.2.2.1.2.2),
 T.v (.int .i64 y6.2.2.2.2.2.2.2.2.2.2.2.2.1.1),
 T.v (.int .i64 y6.2.2.2.2.2.2.2.2.2.2.2.2.1.2.1),
 T.v (.int .i64 y6.2.2.2.2.2.2.2.2.2.2.2.2.1.2.2),
 T.v (.int .i64 y6.2.2.2.2.2.2.2.2.2.2.2.2.2),
 T.v (.string y7.2),
 T.v (.string y8.2),
 T.v (.string y9.2),
 T.v (.int .i64 y10.2),
 T.v (.int .i64 y11.2),
 T.v (.int .i64 y12.2),
 T.v (.string y13.2),
 T.v (.string y14.2),
 T.sl false (List.map Sy.str.enc y15.2),
 T.v (.int .i64 y16.2),
 T.sl false (List.map Sy.str.enc y17.2),
 T.v (.int .i64 y18.2),
 T.v (.string y19.2),
 T.v (.string y20.2)]]))
theorem IL ( a0 R):jO b9 Tryz.prog zX IU 8 32 [aG true aA a0] R=AG a0 R:=by kernel_rfl
abbrev v7:Sh:=[(true,aA)]
abbrev CT:Sh:=[(true,aA),(true,aR)]
theorem ACH {r:cV} {K:cV×iC→Prop} (h:DG r=true) (hk:DG (sB r).1=true→K (sB r)):aE [(true,aA),(true,sG)] (lV [aG true aA r]) K :=
 aM (s:=K9) (y:=sB r) ((J2 ..).trans (by unfold pY;rw[h])) (hk (kI h (K6 r)))
theorem QQ {r:cV} {n:Int} (hn:(decide (0≤n)&&decide (n≤300))=true) {K:cV×List ByteArray→Prop} (h:DG r=true) (hk:DG (nE n r).1=true→K (nE n r)):aE [(true,aA),(false,Sy.str.li)] (mU [aG true aA r,T.v (.int .i64 n)]) K :=
 aM (s:=QS) (y:=nE n r) ((NJ ..).trans (by unfold wH;dsimp only;rw[h,hn];rfl)) (hk (kI h (xR n r)))
def pX (x:cW):Option T:=match DG x with
 | true=>some (Sh.enc CT (gE x))
 | false=>none
noncomputable def j9:List T→Option (T):=gS v7 pX
theorem J1 {a0}:j9 [aG true aA a0]=pX (a0):=cG (s:=v7) rfl (a0) rfl
theorem TI (h:∀ a0 r,pX (a0)=some r→fF v7 (a0)→AG a0 (fun y=>y=r)):eQ Tryz.prog 32 j9 :=
 iK (E:=zX) (Hs:=IU) L0 bA bJ (aX rfl) 8 ⟨_,_,Tryz.func32,rfl⟩ rfl fun x r h1 h2=>by
  let a0:=x
  rw[show Sh.fS v7 (a0)=[aG true aA a0] from rfl,IL]
  exact h a0 r h1 h2
theorem SH:eQ Tryz.prog 32 j9:=TI fun a0 r h hb=>by
 clear hb
 obtain ⟨hc,rfl⟩:=KY h
 clear h
 unfold AG
 refine c9 hc fun h=>eE (by decide) h fun h=>eE (by decide) h fun h=>eE (by decide) h fun h=>c9 h fun h=>eE (by decide) h fun h=>ACH h fun h=>?_
 refine eE (by decide) h fun h=>eE (by decide) h fun h=>eE (by decide) h fun h=>c9 h fun h=>c9 h fun h=>c9 h fun h=>?_
 refine eE (by decide) h fun h=>eE (by decide) h fun h=>QQ (by decide) h fun h=>c9 h fun h=>QQ (by decide) h fun h=>?_
 refine c9 h fun h=>eE (by decide) h fun h=>eE (by decide) h fun h=>?_
 refine G5 (fun he=>?_) fun he=>?_
 ·have e1:gE a0=((HO a0).1,IF):=if_neg he
  rw[e1];rfl
 ·have e1:gE a0=HO a0:=if_pos he
  rw[e1];rfl
end Go.Pv
namespace Go.Pv
open Go Go.Proofs
noncomputable def ADL:Env:=Env.of [(30,.kG bT),(31,.kG e8),(32,.kG j9)]
def ADP:FuncId→Hint:=fM 10 [(4,.inv [.box 1 lI,.box 3 aU,.wS 3 1 38 aR,.val 14 false (.int .i64)])] (fun _=>bW)
theorem UW:aH Tryz.prog ADL:=.cons pL (.cons pK (.cons SH (.nil _)))
def L9 (a0:ByteArray) (R:T→Prop):Prop :=
 aE [(true,aA),(false,Sy.str)]
 (bT
 [T.agg [T.v (.string a0),T.v (.int .i64 0)],
 T.v (.int .i64 64)])
 fun (y0:aB×ByteArray) =>
 aE [(true,aA),(false,Sy.int IntKind.i64)]
 (e8 [aG true aA y0.1,T.v (.int .i64 32)])
 fun (y1:aB×Int) =>
 bP aR [] fun (y2:List bD) =>
 bM (aB×bB×List bD×Int×PUnit)
 (fun (X3:aB×bB×List bD×Int×PUnit→Prop)
 (s4:aB×bB×List bD×Int×PUnit) =>
 aF (decide (s4.2.2.2.1<y1.2))
 (PB
 (aE [(true,aA),(true,aR)]
 (j9 [aG true aA s4.1]) fun (y5:aB×bD) =>
 aD
 (decide (((List.map aR.enc s4.2.2.1).length+1)*488≤140737488355328) &&
 decide ((List.map aR.enc s4.2.2.1).length+1≤140737488355328))
 (bP aR [] fun (y6:List bD) =>
 bP aR
 (List.map aR.enc s4.2.2.1 ++
 [[T.v (.int .i64 y5.2.1),
 T.v (.string y5.2.2.1),T.v (.string y5.2.2.2.1),
 T.v (.string y5.2.2.2.2.1.1),
 T.v (.int .i64 y5.2.2.2.2.1.2.1),
 T.v (.string y5.2.2.2.2.1.2.2),
 T.v (.string y5.2.2.2.2.2.1.1),
 T.v (.int .i64 y5.2.2.2.2.2.1.2.1),
 T.v (.int .i64 y5.2.2.2.2.2.1.2.2.1),
 T.v (.string y5.2.2.2.2.2.1.2.2.2.1),
 T.v (.string y5.2.2.2.2.2.1.2.2.2.2.1),
 T.v (.int .i64 y5.2.2.2.2.2.1.2.2.2.2.2.1),
 T.sl false
 (List.map aP.enc y5.2.2.2.2.2.1.2.2.2.2.2.2.1.1),
 T.sl false
 (List.map aP.li.enc y5.2.2.2.2.2.1.2.2.2.2.2.2.1.2),
 T.v (.string y5.2.2.2.2.2.1.2.2.2.2.2.2.2.1),
 T.v (.int .i64 y5.2.2.2.2.2.1.2.2.2.2.2.2.2.2.1),
 T.v (.int .i64 y5.2.2.2.2.2.1.2.2.2.2.2.2.2.2.2.1),
 T.v (.int .i64 y5.2.2.2.2.2.1.2.2.2.2.2.2.2.2.2.2.1.1),
 T.v (.int .i64 y5.2.2.2.2.2.1.2.2.2.2.2.2.2.2.2.2.1.2.1),
 T.v (.int .i64 y5.2.2.2.2.2.1.2.2.2.2.2.2.2.2.2.2.1.2.2),
 T.v (.int .i64 y5.2.2.2.2.2.1.2.2.2.2.2.2.2.2.2.2.2.1.1),
 T.v (.int .i64 y5.2.2.2.2.2.1.2.2.2.2.2.2.2.2.2.2.2.1.2.1),
 T.v (.int .i64 y5.2.2.2.2.2.1.2.2.2.2.2.2.2.2.2.2.2.1.2.2),
 T.v (.int .i64 y5.2.2.2.2.2.1.2.2.2.2.2.2.2.2.2.2.2.2),
 T.v (.string y5.2.2.2.2.2.2.1.1),
 T.v (.string y5.2.2.2.2.2.2.1.2.1),
 T.v (.string y5.2.2.2.2.2.2.1.2.2.1),
 T.v (.int .i64 y5.2.2.2.2.2.2.1.2.2.2.1),
 T.v (.int .i64 y5.2.2.2.2.2.2.1.2.2.2.2.1),
 T.v (.int .i64 y5.2.2.2.2.2.2.1.2.2.2.2.2),
 T.v (.string y5.2.2.2.2.2.2.2.1.1),
 T.v (.string y5.2.2.2.2.2.2.2.1.2.1),
 T.sl false (List.map Sy.str.enc y5.2.2.2.2.2.2.2.1.2.2.1),
 T.v (.int .i64 y5.2.2.2.2.2.2.2.1.2.2.2.1),
 T.sl false
 (List.map Sy.str.enc y5.2.2.2.2.2.2.2.1.2.2.2.2),
 T.v (.int .i64 y5.2.2.2.2.2.2.2.2.1),
 T.v (.string y5.2.2.2.2.2.2.2.2.2.1),
 T.v (.string y5.2.2.2.2.2.2.2.2.2.2)]])
 fun (y7:List bD) =>
 X3
 ((y5.1.1,y5.1.2),(s4.2.1.1,y6),y7,
 IntKind.i64.wrap (s4.2.2.2.1+1),())))
 (aE [(true,aA),(true,aR)]
 (j9 [aG true aA s4.1]) fun (y8:aB×bD) =>
 aD
 (decide (((List.map aR.enc s4.2.2.1).length+1)*488≤140737488355328) &&
 decide ((List.map aR.enc s4.2.2.1).length+1≤140737488355328))
 (bP aR [] fun (y9:List bD) =>
 bP aR
 (List.map aR.enc s4.2.2.1 ++
 [[T.v (.int .i64 y8.2.1),
 T.v (.string y8.2.2.1),T.v (.string y8.2.2.2.1),
 T.v (.string y8.2.2.2.2.1.1),
 T.v (.int .i64 y8.2.2.2.2.1.2.1),
 T.v (.string y8.2.2.2.2.1.2.2),
 T.v (.string y8.2.2.2.2.2.1.1),
 T.v (.int .i64 y8.2.2.2.2.2.1.2.1),
 T.v (.int .i64 y8.2.2.2.2.2.1.2.2.1),
 T.v (.string y8.2.2.2.2.2.1.2.2.2.1),
 T.v (.string y8.2.2.2.2.2.1.2.2.2.2.1),
 T.v (.int .i64 y8.2.2.2.2.2.1.2.2.2.2.2.1),
 T.sl false
 (List.map aP.enc y8.2.2.2.2.2.1.2.2.2.2.2.2.1.1),
 T.sl false
 (List.map aP.li.enc y8.2.2.2.2.2.1.2.2.2.2.2.2.1.2),
 T.v (.string y8.2.2.2.2.2.1.2.2.2.2.2.2.2.1),
 T.v (.int .i64 y8.2.2.2.2.2.1.2.2.2.2.2.2.2.2.1),
 T.v (.int .i64 y8.2.2.2.2.2.1.2.2.2.2.2.2.2.2.2.1),
 T.v (.int .i64 y8.2.2.2.2.2.1.2.2.2.2.2.2.2.2.2.2.1.1),
 T.v (.int .i64 y8.2.2.2.2.2.1.2.2.2.2.2.2.2.2.2.2.1.2.1),
 T.v (.int .i64 y8.2.2.2.2.2.1.2.2.2.2.2.2.2.2.2.2.1.2.2),
 T.v (.int .i64 y8.2.2.2.2.2.1.2.2.2.2.2.2.2.2.2.2.2.1.1),
 T.v (.int .i64 y8.2.2.2.2.2.1.2.2.2.2.2.2.2.2.2.2.2.1.2.1),
 T.v (.int .i64 y8.2.2.2.2.2.1.2.2.2.2.2.2.2.2.2.2.2.1.2.2),
 T.v (.int .i64 y8.2.2.2.2.2.1.2.2.2.2.2.2.2.2.2.2.2.2),
 T.v (.string y8.2.2.2.2.2.2.1.1),
 T.v (.string y8.2.2.2.2.2.2.1.2.1),
 T.v (.string y8.2.2.2.2.2.2.1.2.2.1),
 T.v (.int .i64 y8.2.2.2.2.2.2.1.2.2.2.1),
 T.v (.int .i64 y8.2.2.2.2.2.2.1.2.2.2.2.1),
 T.v (.int .i64 y8.2.2.2.2.2.2.1.2.2.2.2.2),
 T.v (.string y8.2.2.2.2.2.2.2.1.1),
 T.v (.string y8.2.2.2.2.2.2.2.1.2.1),
 T.sl false (List.map Sy.str.enc y8.2.2.2.2.2.2.2.1.2.2.1),
 T.v (.int .i64 y8.2.2.2.2.2.2.2.1.2.2.2.1),
 T.sl false
 (List.map Sy.str.enc y8.2.2.2.2.2.2.2.1.2.2.2.2),
 T.v (.int .i64 y8.2.2.2.2.2.2.2.2.1),
 T.v (.string y8.2.2.2.2.2.2.2.2.2.1),
 T.v (.string y8.2.2.2.2.2.2.2.2.2.2)]])
 fun (y10:List bD) =>
 X3
 ((y8.1.1,y8.1.2),(s4.2.1.1,y9),y10,
 IntKind.i64.wrap (s4.2.2.2.1+1),()))))
 (aF (decide (s4.1.2=0))
 (aF (decide (0<(↑(ByteArray.size s4.1.1):Int)))
 (R
 (T.bN
 [T.agg [T.v (.string { data:=#[] }),T.sl false []],
 T.v (.int .i64 4)]))
 (aF (!decide (s4.1.2=0))
 (R
 (T.bN
 [T.agg [T.v (.string { data:=#[] }),T.sl false []],
 T.v (.int .i64 s4.1.2)]))
 (R
 (T.bN
 [T.agg
 [T.v (.string s4.2.1.1),
 T.sl false (List.map aR.enc s4.2.2.1)],
 T.v (.int .i64 0)]))))
 (aF (!decide (s4.1.2=0))
 (R
 (T.bN
 [T.agg [T.v (.string { data:=#[] }),T.sl false []],
 T.v (.int .i64 s4.1.2)]))
 (R
 (T.bN
 [T.agg
 [T.v (.string s4.2.1.1),
 T.sl false (List.map aR.enc s4.2.2.1)],
 T.v (.int .i64 0)])))))
 ((y1.1.1,y1.1.2),(y0.2,y2),[],0,())
abbrev OI:Sh:=[(false,Sy.str)]
abbrev OD:Sh:=[(true,aU),(false,Sy.int IntKind.i64)]
def lG (s:ByteArray):Option T:=match decide (s.size≤1000000) with
 | true=>some (Sh.enc OD (uU s))
 | false=>none
noncomputable def B1:List T→Option T:=gS OI lG
theorem EP {a0}:B1 [T.v (.string a0)]=lG (a0):=cG (s:=OI) rfl (a0) rfl
theorem AB6:RO Tryz.prog 10 B1 lG (fF OI) L9:=xL (a1:=(false,Sy.str)) (sp:=lG) (F:=L9) (Hs:=ADP) (f:=10) (k:=8) UW bA bJ (aX rfl) ⟨_,_,Tryz.func10,rfl⟩ rfl fun _ _=>by kernel_rfl
theorem PR:aZ Tryz.prog 10 B1:=AB6 fun s r h hb=>by
 clear hb
 have hs:s.size≤1000000:=by
  unfold lG at h
  split at h
  ·rename_i hc;exact of_decide_eq_true hc
  ·cases h
 have hr:r=Sh.enc OD (uU s):=by
  unfold lG at h
  rw[decide_eq_true hs] at h
  exact (Option.some.inj h).symm
 subst hr
 clear h
 have z0:DG (s,0)=true:=decide_eq_true (by show s.size≤_;omega)
 unfold L9
 refine eE (r:=(s,0)) (by decide) z0 fun h0=>?_
 refine zM (by decide) h0 fun hc1=>?_
 refine fD (r:=aR) (l:=[]) rfl rfl ?_
 have cb:=wV (r:=(rT 64 (s,0)).1) (k:=4) (most:=32) (f:=false) (by decide)
 refine cS (aI (rT 64 (s,0)).1 4 32 false).2.toNat (fun k q=>q=((cA gE k (aI (rT 64 (s,0)).1 4 32 false).1).1,((rT 64 (s,0)).2,[]),(cA gE k (aI (rT 64 (s,0)).1 4 32 false).1).2,(k:Int),())) rfl ?_
 rintro X k q hk rfl hX
 dsimp only
 refine eP (fun hlt=>?_) fun hge=>?_
 ·have hz:DG (cA gE k (aI (rT 64 (s,0)).1 4 32 false).1).1=true:=kI hc1 (kK YW _ _)
  have hc:j9 [aG true aA (cA gE k (aI (rT 64 (s,0)).1 4 32 false).1).1]=some (Sh.enc CT (gE (cA gE k (aI (rT 64 (s,0)).1 4 32 false).1).1)):=(J1 ..).trans (by unfold pX;rw[hz])
  refine D6 (aM (s:=CT) hc ⟨pR (by decide) (by rw[List.length_map,iZ]) (by omega),?_⟩)
  refine fD (r:=aR) (l:=[]) rfl rfl ?_
  refine fD (r:=aR) rfl (l:=(cA gE k (aI (rT 64 (s,0)).1 4 32 false).1).2++[(gE (cA gE k (aI (rT 64 (s,0)).1 4 32 false).1).1).2]) (by rw[List.map_append];rfl) ?_
  exact hX _ (by omega) (by rw[HF (by omega)];rfl)
 ·have hk2:k=(aI (rT 64 (s,0)).1 4 32 false).2.toNat:=by omega
  subst hk2
  have e1:oX (s,0)=((cA gE (aI (rT 64 (s,0)).1 4 32 false).2.toNat (aI (rT 64 (s,0)).1 4 32 false).1).1,((rT 64 (s,0)).2,(cA gE (aI (rT 64 (s,0)).1 4 32 false).2.toNat (aI (rT 64 (s,0)).1 4 32 false).1).2)):=rfl
  generalize cA gE (aI (rT 64 (s,0)).1 4 32 false).2.toNat (aI (rT 64 (s,0)).1 4 32 false).1=w at e1 ⊢
  generalize (rT 64 (s,0)).2=t at e1 ⊢
  have e2:uU s=if yV w.1=0 then ((t,w.2),0) else (UH,yV w.1):=by unfold uU;rw[e1]
  refine eP (fun h1=>eP (fun h2=>?_) fun h2=>G5 (fun h3=>absurd h1 h3) fun _=>?_) fun h1=>G5 (fun _=>?_) fun h3=>absurd h3 h1
  ·have:yV w.1=4:=by unfold yV;rw[if_pos h1,if_pos h2]
   rw[e2,this];rfl
  ·have:yV w.1=0:=by unfold yV;rw[if_pos h1,if_neg h2]
   rw[e2,this];rfl
  ·have:yV w.1=w.1.2:=by unfold yV;rw[if_neg h1]
   rw[e2,this,if_neg h1];rfl
end Go.Pv
namespace Go.Pv
open Go Go.RowKit
section
variable {α : Type}
theorem ET {k:ByteArray}:∀ {es:List (ByteArray×α)},kD es k=none→k∉es.map fun e=>e.1
 | [],_=>by simp
 | e::es,h=>by
  unfold kD at h
  split at h
  ·cases h
  ·rename_i hne
   have:=ET h
   simp only[List.map_cons,List.mem_cons,not_or]
   exact ⟨fun h'=>hne h'.symm,this⟩
theorem EU {k s:ByteArray} {x:α}:∀ {es:List (ByteArray×α)},kD (es++[(k,x)]) s=match kD es s with|some y=>some y|none=>if k=s then some x else none
 | []=>by simp[kD]
 | e::es=>by
  simp only[List.cons_append,kD]
  split
  ·rfl
  ·exact EU
def nY (id:α→ByteArray) (l:List α) (k:Nat) (es:List (ByteArray×α)):Prop :=
 (∀ s,kD es s=(l.take k).find? fun x=>decide (id x=s))∧(es.map fun e=>e.1).Nodup∧es.length≤k
theorem nY.zero (id:α→ByteArray) (l:List α):nY id l 0 []:=⟨by simp[kD],by simp,by simp⟩
theorem nY.no {id:α→ByteArray} {l:List α} {k:Nat} {es:List (ByteArray×α)} (h:nY id l k es) (hk:k<l.length) {y:α} (hy:kD es (id l[k])=some y):nY id l (k+1) es:=by
 refine ⟨fun s=>?_,h.2.1,by have:=h.2.2;omega⟩
 rw[List.take_succ_eq_append_getElem hk,List.find?_append,←h.1]
 cases hs:kD es s with
 | some z=>rfl
 | none =>
  rw[Option.none_or,List.find?_cons]
  split
  ·rename_i he
   rw[of_decide_eq_true he,hs] at hy;cases hy
  ·rfl
theorem nY.yes {id:α→ByteArray} {l:List α} {k:Nat} {es:List (ByteArray×α)} (h:nY id l k es) (hk:k<l.length) (hy:kD es (id l[k])=none):nY id l (k+1) (es++[(id l[k],l[k])]):=by
 refine ⟨fun s=>?_,?_,by have:=h.2.2;simp;omega⟩
 ·rw[List.take_succ_eq_append_getElem hk,List.find?_append,←h.1,EU]
  cases hs:kD es s with
  | some z=>rfl
  | none =>
   rw[Option.none_or,List.find?_cons]
   by_cases he:id l[k]=s
   ·simp[he]
   ·simp[he]
 ·rw[List.map_append,List.nodup_append]
  refine ⟨h.2.1,by simp,fun a ha b hb e=>?_⟩
  simp only[List.map_cons,List.map_nil,List.mem_singleton] at hb
  subst hb e
  exact ET hy ha
end
section
variable {β : Type} {lt : β → β → Prop}
structure U8 (lt:β→β→Prop):Prop where
 irr:∀ a,¬ lt a a
 tr:∀ {a b c},lt a b→lt b c→lt a c
 tot:∀ {a b},¬ lt a b→¬ lt b a→a=b
def yT (lt:β→β→Prop) (begun:Bool) (last s:β):Prop:=begun=false∨lt last s
def jJ (lt:β→β→Prop) (all:List β) (begun:Bool) (last:β) (k:Nat) (nx:β) (sm:Bool):Prop :=
 (sm=false→∀ s∈all.take k,¬ yT lt begun last s)∧(sm=true→nx∈all∧yT lt begun last nx∧∀ s∈all.take k,yT lt begun last s→¬ lt s nx)
theorem jJ.zero (all:List β) (begun:Bool) (last nx:β):jJ lt all begun last 0 nx false:=⟨by simp,by simp⟩
theorem jJ.take (ho:U8 lt) {all:List β} {begun:Bool} {last:β} {k:Nat} {nx:β} {sm:Bool} (h:jJ lt all begun last k nx sm) (hk:k<all.length)
  (he:yT lt begun last all[k]) (hc:sm=false∨lt all[k] nx):jJ lt all begun last (k+1) all[k] true:=by
 refine ⟨by simp,fun _=>⟨List.getElem_mem hk,he,fun s hs hes=>?_⟩⟩
 rw[List.take_succ_eq_append_getElem hk,List.mem_append] at hs
 rcases hs with hs|hs
 ·cases sm with
  | false=>exact absurd hes (h.1 rfl s hs)
  | true =>
   have hlt:=hc.resolve_left (by simp)
   exact fun h'=>(h.2 rfl).2.2 s hs hes (ho.tr h' hlt)
 ·rw[List.mem_singleton.1 hs];exact ho.irr _
theorem jJ.skip {all:List β} {begun:Bool} {last:β} {k:Nat} {nx:β} {sm:Bool} (h:jJ lt all begun last k nx sm) (hk:k<all.length)
  (hc:¬ yT lt begun last all[k]∨(sm=true∧¬ lt all[k] nx)):jJ lt all begun last (k+1) nx sm:=by
 refine ⟨fun e s hs=>?_,fun e=>⟨(h.2 e).1,(h.2 e).2.1,fun s hs hes=>?_⟩⟩
 ·rw[List.take_succ_eq_append_getElem hk,List.mem_append] at hs
  rcases hs with hs|hs
  ·exact h.1 e s hs
  ·rw[List.mem_singleton.1 hs]
   rcases hc with hc|⟨hc,_⟩
   ·exact hc
   ·rw[hc] at e;cases e
 ·rw[List.take_succ_eq_append_getElem hk,List.mem_append] at hs
  rcases hs with hs|hs
  ·exact (h.2 e).2.2 s hs hes
  ·rw[List.mem_singleton.1 hs] at hes ⊢
   rcases hc with hc|⟨_,hc⟩
   ·exact absurd hes hc
   ·exact hc
def lM (lt:β→β→Prop) (all:List β) (D:β→Prop) (out:List β) (begun:Bool) (last:β):Prop :=
 out.Pairwise lt∧∀ s,s∈out↔s∈all∧D s∧¬ yT lt begun last s
theorem lM.zero (all:List β) (D:β→Prop) (last:β):lM lt all D [] false last:=⟨List.Pairwise.nil,fun s=>by simp[yT]⟩
theorem oU (ho:U8 lt) {all:List β} {begun:Bool} {last nx:β} (h:jJ lt all begun last all.length nx true) {s:β} (hs:s∈all):¬ yT lt true nx s↔¬ yT lt begun last s∨s=nx:=by
 have h2:=(h.2 rfl).2
 rw[List.take_length] at h2
 have e1:yT lt true nx s↔lt nx s:=by simp[yT]
 rw[e1]
 constructor
 ·intro hn
  by_cases he:yT lt begun last s
  ·exact .inr (ho.tot (h2.2 s hs he) hn)
  ·exact .inl he
 ·rintro (hn|rfl)
  ·intro hl
   refine hn ?_
   rcases h2.1 with h3|h3
   ·exact .inl h3
   ·exact .inr (ho.tr h3 hl)
  ·exact ho.irr _
theorem lM.skip (ho:U8 lt) {all:List β} {D:β→Prop} {out:List β} {begun:Bool} {last nx:β} (h:lM lt all D out begun last) (hl:jJ lt all begun last all.length nx true) (hd:¬ D nx):lM lt all D out true nx:=by
 refine ⟨h.1,fun s=>?_⟩
 rw[h.2]
 constructor
 ·rintro ⟨h1,h2,h3⟩;exact ⟨h1,h2,(oU ho hl h1).2 (.inl h3)⟩
 ·rintro ⟨h1,h2,h3⟩
  rcases (oU ho hl h1).1 h3 with h3|rfl
  ·exact ⟨h1,h2,h3⟩
  ·exact absurd h2 hd
theorem lM.take (ho:U8 lt) {all:List β} {D:β→Prop} {out:List β} {begun:Bool} {last nx:β} (h:lM lt all D out begun last) (hl:jJ lt all begun last all.length nx true) (hd:D nx):lM lt all D (out++[nx]) true nx:=by
 have hn:=hl.2 rfl
 refine ⟨List.pairwise_append.2 ⟨h.1,by simp,fun a ha b hb=>?_⟩,fun s=>?_⟩
 ·rw[List.mem_singleton.1 hb]
  have ha':=(h.2 a).1 ha
  refine Classical.byContradiction fun hlt=>?_
  have:¬ lt nx a:=fun h'=>ha'.2.2 (by
   rcases hn.2.1 with h3|h3
   ·exact .inl h3
   ·exact .inr (ho.tr h3 h'))
  exact ha'.2.2 (by rw[ho.tot hlt this];exact hn.2.1)
 ·rw[List.mem_append,h.2,List.mem_singleton]
  constructor
  ·rintro (⟨h1,h2,h3⟩|rfl)
   ·exact ⟨h1,h2,(oU ho hl h1).2 (.inl h3)⟩
   ·exact ⟨hn.1,hd,(oU ho hl hn.1).2 (.inr rfl)⟩
  ·rintro ⟨h1,h2,h3⟩
   rcases (oU ho hl h1).1 h3 with h3|rfl
   ·exact .inl ⟨h1,h2,h3⟩
   ·exact .inr rfl
theorem lM.done {all:List β} {D:β→Prop} {out:List β} {begun:Bool} {last nx:β} (h:lM lt all D out begun last) (hl:jJ lt all begun last all.length nx false):out.Pairwise lt∧∀ s,s∈out↔s∈all∧D s:=by
 refine ⟨h.1,fun s=>?_⟩
 rw[h.2]
 have:=hl.1 rfl
 rw[List.take_length] at this
 exact ⟨fun ⟨a,b,_⟩=>⟨a,b⟩,fun ⟨a,b⟩=>⟨a,b,this s a⟩⟩
open Classical in
open Classical in
end
end Go.Pv
namespace Go.Pv
open Go Go.Proofs Go.Lib
theorem H9 (a b:ByteArray):kO a b=true↔toL a<toL b:=by
 unfold kO toL;rw[bytesLess_eq,decide_eq_true_iff]
theorem AY:∀ {l m:List (List UInt8)},l.Pairwise (· < ·)→m.Pairwise (· < ·)→(∀ a,a∈l↔a∈m)→l=m
 | [],[],_,_,_=>rfl
 | [],b::m,_,_,h=>absurd ((h b).2 List.mem_cons_self) (by simp)
 | a::l,[],_,_,h=>absurd ((h a).1 List.mem_cons_self) (by simp)
 | a::l,b::m,h1,h2,h=>by
  rw[List.pairwise_cons] at h1 h2
  have e:a=b:=by
   rcases List.mem_cons.1 ((h a).1 List.mem_cons_self) with e|e
   ·exact e
   ·rcases List.mem_cons.1 ((h b).2 List.mem_cons_self) with e'|e'
    ·exact e'.symm
    ·exact absurd (List.lt_trans (h1.1 b e') (h2.1 a e)) (List.lt_irrefl _)
  subst e
  refine congrArg (a :: ·) (AY h1.2 h2.2 fun x=>⟨fun hx=>?_,fun hx=>?_⟩)
  ·rcases List.mem_cons.1 ((h x).1 (List.mem_cons_of_mem _ hx)) with e|e
   ·subst e;exact absurd (h1.1 _ hx) (List.lt_irrefl _)
   ·exact e
  ·rcases List.mem_cons.1 ((h x).2 (List.mem_cons_of_mem _ hx)) with e|e
   ·subst e;exact absurd (h2.1 _ hx) (List.lt_irrefl _)
   ·exact e
theorem xX (l:List (List UInt8)):(cO l).Pairwise (· ≤ ·):=by
 unfold cO
 have h:=List.pairwise_mergeSort (le:=fun x y:List UInt8=>decide (x≤y)) (fun a b c h1 h2=>decide_eq_true (List.le_trans (of_decide_eq_true h1) (of_decide_eq_true h2))) (fun a b=>by
  rw[Bool.or_eq_true,decide_eq_true_eq,decide_eq_true_eq]
  exact List.le_total a b) l
 exact h.imp fun h=>of_decide_eq_true h
theorem uF {l:List (List UInt8)} {a:List UInt8}:a∈cO l↔a∈l:=by unfold cO;exact List.mem_mergeSort
theorem BA {l:List (List UInt8)} (h:l.Pairwise (· ≤ ·)):(Lib.compact l).Pairwise (· < ·):=by
 unfold Lib.compact compactUpTo
 rw[List.pairwise_map,List.pairwise_filter]
 refine List.Pairwise.imp_of_mem ?_ List.pairwise_lt_range
 intro i j hi hj hij ki kj
 rw[List.mem_range] at hi hj
 have get:∀ k (hk:k<l.length),l.toArray[k]! = l[k]:=fun k hk=>by simp[hk]
 have le:∀ p q (hp:p<l.length) (hq:q<l.length),p≤q→l[p]≤l[q]:=fun p q hp hq hpq=>by
  by_cases e:p=q
  ·subst e;exact List.le_refl _
  ·exact List.pairwise_iff_getElem.1 h p q hp hq (by omega)
 unfold keeps at kj
 rw[decide_eq_true_eq] at kj
 have hne:l.toArray[j]! ≠ l.toArray[j-1]! := kj.resolve_left (by omega)
 rw[get j hj,get (j-1) (by omega)] at hne
 rw[get i hi,get j hj]
 have a1:=le i (j-1) hi (by omega) (by omega)
 have a2:=le (j-1) j (by omega) hj (by omega)
 have a3:l[j-1]<l[j]:=Decidable.byContradiction fun hn=>hne (List.le_antisymm (List.not_lt.1 hn) a2)
 exact Decidable.byContradiction fun hn=>absurd (List.le_trans (List.not_lt.1 hn) a1) (List.not_le.2 a3)
theorem x5 {l:List (List UInt8)} {a:List UInt8}:a∈Lib.compact l↔a∈l:=by
 have get:∀ k (hk:k<l.length),l.toArray[k]! = l[k]:=fun k hk=>by simp[hk]
 have all:∀ n k,k≤n→(hk:k<l.length)→l[k]∈Lib.compact l:=by
  intro n
  induction n with
  | zero =>
   intro k hk hl
   have:k=0:=by omega
   subst this
   unfold Lib.compact compactUpTo
   exact List.mem_map.2 ⟨0,List.mem_filter.2 ⟨List.mem_range.2 hl,keeps_lt_one _ 0 (by omega)⟩,get 0 hl⟩
  | succ n ih =>
   intro k hk hl
   by_cases hkk:keeps l.toArray k=true
   ·unfold Lib.compact compactUpTo
    exact List.mem_map.2 ⟨k,List.mem_filter.2 ⟨List.mem_range.2 hl,hkk⟩,get k hl⟩
   ·unfold keeps at hkk
    rw[decide_eq_true_eq,not_or] at hkk
    have e:l.toArray[k]! = l.toArray[k-1]! := Decidable.byContradiction hkk.2
    rw[get k hl,get (k-1) (by omega)] at e
    rw[e]
    exact ih (k-1) (by omega) (by omega)
 constructor
 ·intro h
  unfold Lib.compact compactUpTo at h
  obtain ⟨k,h1,rfl⟩:=List.mem_map.1 h
  have hk:=List.mem_range.1 (List.mem_filter.1 h1).1
  rw[get k hk]
  exact List.getElem_mem hk
 ·intro h
  obtain ⟨k,hk,rfl⟩:=List.mem_iff_getElem.1 h
  exact all k k (Nat.le_refl _) hk
theorem R2 {l:List (List UInt8)} {a:List UInt8}:a∈oH l↔a∈l∧a≠[]:=by
 unfold oH wX
 rw[List.mem_filter]
 cases a<;>simp
theorem E3 (l:List ByteArray):(cT l).map toL=oH (Lib.compact (cO (l.map toL))):=by
 have e:∀ m:List (List UInt8),(m.map ofL).map toL=m:=fun m=>by
  rw[List.map_map]
  exact (List.map_congr_left fun a _=>toL_ofL a).trans (List.map_id _)
 unfold cT fZ
 rw[e,e,e]
theorem XQ (l:List ByteArray):((cT l).map toL).Pairwise (· < ·):=by
 rw[E3]
 exact (BA (xX _)).sublist (List.filter_sublist)
theorem TD (l:List ByteArray) (a:List UInt8):a∈(cT l).map toL↔a∈l.map toL∧a≠[]:=by
 rw[E3,R2,x5,uF]
theorem KR {l m:List ByteArray} (h:l.map toL=m.map toL):l=m:=map_inj (fun x y h=>by rw[←gI x,←gI y,h]) h
end Go.Pv
namespace Go.Pv
open Go Go.Proofs
theorem GJ {l:List ByteArray} (h:l.length≤8000000000000) (K:Prop):aD (decide (((List.map Sy.str.enc l).length+1)*16≤140737488355328)&&decide ((List.map Sy.str.enc l).length+1≤140737488355328)) K=K:=by
 have e:(decide (((List.map Sy.str.enc l).length+1)*16≤140737488355328)&&decide ((List.map Sy.str.enc l).length+1≤140737488355328))=true:=by
  simp only[List.length_map,Bool.and_eq_true,decide_eq_true_eq]
  omega
 rw[e];simp[aD]
theorem uV {l:List ByteArray} {x:ByteArray} (K:List ByteArray→Prop):bP Sy.str (List.map Sy.str.enc l++[[T.v (.string x)]]) K=K (l++[x]):=R1 (r:=.str) rfl l _ x rfl K
end Go.Pv
namespace Go.Pv
open Go Go.Proofs
noncomputable def UI {α:Type} (a b:α):Bool:=@decide (a=b) (Classical.propDecidable _)
theorem pI {α:Type} {a b:α}:UI a b=true↔a=b:=by unfold UI;exact @decide_eq_true_iff _ (Classical.propDecidable _)
@[simp] theorem AGL {α:Type} (a:α):UI a a=true:=pI.2 rfl
theorem VZ {α:Type} {a b:α} (h:¬ a=b):UI a b=false:=by
 cases hc:UI a b with
 | false=>rfl
 | true=>exact absurd (pI.1 hc) h
theorem T7 {r:Sy} {l m:List r.den} (hlen:l.length=m.length) (hl:l.length≤2 ^ 47) (test:r.den→r.den→Bool) (ht:∀ x y,test x y=true↔x=y) {R:T→Prop} (hR:R (T.v (.bool (UI l m)))) :
  bM (Int×PUnit) (fun (X:Int×PUnit→Prop) (s:Int×PUnit)=>aF (decide (s.1<(↑(List.map r.enc l).length:Int))) (a7 r (List.map r.enc l) s.1 fun y=>a7 r (List.map r.enc m) s.1 fun z=>aF (!(test y z)) (R (T.v (.bool false))) (X (IntKind.i64.wrap (s.1+1),()))) (R (T.v (.bool true)))) (0,()):=by
 refine cS l.length (fun k s=>s=((k:Int),())∧(l=m↔l.drop k=m.drop k)) ⟨rfl,by simp⟩ ?_
 rintro X k s hk ⟨rfl,he⟩ hX
 dsimp only
 by_cases hlt:k<l.length
 ·have hlt2:k<m.length:=by omega
  refine oT (by simp[hlt]) ?_
  rw[cK hlt,cK hlt2]
  rw[List.drop_eq_getElem_cons hlt,List.drop_eq_getElem_cons hlt2,List.cons.injEq] at he
  by_cases h1:l[k]=m[k]
  ·rw[(ht _ _).2 h1,Bool.not_true,WS]
   refine hX _ hlt ⟨by rw[show IntKind.i64.wrap ((k:Int)+1)=((k+1:Nat):Int) from cX _ (by omega) (by omega)],?_⟩
   rw[he];exact ⟨fun h=>h.2,fun h=>⟨h1,h⟩⟩
  ·have:test l[k] m[k]=false:=by
    cases hc:test l[k] m[k] with
    | false=>rfl
    | true=>exact absurd ((ht _ _).1 hc) h1
   rw[this,Bool.not_false,NS]
   rwa[VZ fun h=>h1 (he.1 h).1] at hR
 ·have:k=l.length:=by omega
  subst this
  refine vJ (by simp) ?_
  rwa[pI.2 (he.2 (by rw[List.drop_length,hlen,List.drop_length]))] at hR
theorem ZH {r:Sy} {l m:List r.den} (hl:l.length≤2 ^ 47) (test:r.den→r.den→Bool) (ht:∀ x y,test x y=true↔x=y) {R:T→Prop} (hR:R (T.v (.bool (UI l m)))) :
  aF (!decide ((↑(List.map r.enc l).length:Int)=(↑(List.map r.enc m).length:Int))) (R (T.v (.bool false))) (bM (Int×PUnit) (fun (X:Int×PUnit→Prop) (s:Int×PUnit)=>aF (decide (s.1<(↑(List.map r.enc l).length:Int))) (a7 r (List.map r.enc l) s.1 fun y=>a7 r (List.map r.enc m) s.1 fun z=>aF (!(test y z)) (R (T.v (.bool false))) (X (IntKind.i64.wrap (s.1+1),()))) (R (T.v (.bool true)))) (0,())):=by
 by_cases hlen:l.length=m.length
 ·rw[show (!decide ((↑(List.map r.enc l).length:Int)=(↑(List.map r.enc m).length:Int)))=false by simp[hlen],WS]
  exact T7 hlen hl test ht hR
 ·rw[show (!decide ((↑(List.map r.enc l).length:Int)=(↑(List.map r.enc m).length:Int)))=true by simp;omega,NS]
  rwa[VZ fun h=>hlen (by rw[h])] at hR
noncomputable def wJ (x:List ByteArray×List ByteArray):Option T:=some (Sh.enc QR (UI x.1 x.2))
noncomputable def Z9:Env:=Env.of []
def AAK:FuncId→Hint:=fM 25 [(4,.inv [.val 5 false (.int .i64)])] (fun _=>bW)
theorem RH:aH Tryz.prog Z9:=.nil _
def F9 (a0:List ByteArray) (a1:List ByteArray) (R:T→Prop):Prop :=
 aF (!decide ((↑(List.map Sy.str.enc a0).length:Int)=(↑(List.map Sy.str.enc a1).length:Int)))
 (R (T.v (.bool false)))
 (bM (Int×PUnit)
 (fun (X0:Int×PUnit→Prop) (s1:Int×PUnit) =>
 aF (decide (s1.1<(↑(List.map Sy.str.enc a0).length:Int)))
 (a7 Sy.str (List.map Sy.str.enc a0) s1.1 fun (y2:ByteArray) =>
 a7 Sy.str (List.map Sy.str.enc a1) s1.1 fun (y3:ByteArray) =>
 aF (!decide (y2=y3)) (R (T.v (.bool false)))
 (X0 (IntKind.i64.wrap (s1.1+1),())))
 (R (T.v (.bool true))))
 (0,()))
abbrev H6:Sh:=[(false,Sy.str.li),(false,Sy.str.li)]
noncomputable def mV:List T→Option T:=gS H6 wJ
theorem sW {a0 a1}:mV [T.sl false (List.map Sy.str.enc a0),T.sl false (List.map Sy.str.enc a1)]=wJ (a0,a1):=cG (s:=H6) rfl (a0,a1) rfl
theorem YE:Of2 Tryz.prog 25 mV wJ (fF H6) F9:=HI (a1:=(false,Sy.str.li)) (a2:=(false,Sy.str.li)) (sp:=wJ) (F:=F9) (Hs:=AAK) (f:=25) (k:=8) RH bA bJ (aX rfl) ⟨_,_,Tryz.func25,rfl⟩ rfl fun _ _ _=>by kernel_rfl
theorem WG:aZ Tryz.prog 25 mV:=YE fun a b r h hb=>by
 cases h
 unfold F9
 exact ZH (r:=.str) (R:=fun y=>y=Sh.enc QR (UI a b)) hb.1.1 _ (fun x y=>decide_eq_true_iff) rfl
end Go.Pv
namespace Go.Pv
open Go Go.Proofs
def NZ (a b:ByteArray):Prop:=toL a<toL b
theorem AG0:U8 NZ:=⟨fun a=>List.lt_irrefl _,fun h1 h2=>List.lt_trans h1 h2,fun {a b} h1 h2=>by rw[←gI a,←gI b,List.le_antisymm (List.not_lt.1 h2) (List.not_lt.1 h1)]⟩
def GM (l:List ByteArray):List ByteArray:=fZ Lib.compact (fZ cO l)
theorem toL_viaL (q:List (List UInt8)→List (List UInt8)) (l:List ByteArray):(fZ q l).map toL=q (l.map toL):=by
 unfold fZ
 rw[List.map_map]
 exact (List.map_congr_left fun a _=>toL_ofL a).trans (List.map_id _)
theorem AAU (l:List ByteArray):(GM l).Pairwise NZ:=by
 have h:((GM l).map toL).Pairwise (· < ·):=by
  unfold GM;rw[toL_viaL,toL_viaL];exact BA (xX _)
 show (GM l).Pairwise fun a b=>toL a<toL b
 exact List.pairwise_map.1 h
theorem lC {l:List ByteArray} {s:ByteArray}:toL s∈l.map toL↔s∈l :=
 ⟨fun h=>by obtain ⟨b,hb,e⟩:=List.mem_map.1 h;rw[←gI s,←e,gI];exact hb,fun h=>List.mem_map.2 ⟨s,h,rfl⟩⟩
theorem JA {l:List ByteArray} {s:ByteArray}:s∈GM l↔s∈l:=by
 rw[←lC]
 unfold GM
 rw[toL_viaL,toL_viaL,x5,uF,lC]
theorem uO {l m:List ByteArray} (h1:l.Pairwise NZ) (h2:m.Pairwise NZ) (h:∀ s,s∈l↔s∈m):l=m:=by
 have e:l.map toL=m.map toL:=AY (List.pairwise_map.2 h1) (List.pairwise_map.2 h2) fun a=>by
  constructor
  ·intro ha;obtain ⟨b,hb,rfl⟩:=List.mem_map.1 ha;exact lC.2 ((h b).1 hb)
  ·intro ha;obtain ⟨b,hb,rfl⟩:=List.mem_map.1 ha;exact lC.2 ((h b).2 hb)
 have:=congrArg (List.map ofL) e
 rw[List.map_map,List.map_map] at this
 have u:∀ k:List ByteArray,List.map (ofL∘toL) k=k:=fun k=>(List.map_congr_left fun a _=>gI a).trans (List.map_id _)
 rwa[u,u] at this
end Go.Pv
namespace Go.Pv
open Go Go.Proofs
theorem mX {n:Int} {m:Nat} {A B:Prop} (h1:¬ (m:Int)≤n→A) (h2:(m:Int)≤n→B):aF (decide (n<(m:Int))) A B:=by
 by_cases h:(m:Int)≤n
 ·exact vJ (by omega) (h2 h)
 ·exact oT (by omega) (h1 h)
theorem I2 {α:Type} {p:α→Bool} {l:List α} {k:Nat} (h:k<l.length):(l.drop k).all p=(p l[k]&&(l.drop (k+1)).all p):=by rw[List.drop_eq_getElem_cons h,List.all_cons]
end Go.Pv
namespace Go.Pv
open Go Go.Proofs
def DR (l:List ByteArray) (x:ByteArray):Bool:=l.any fun y=>decide (y=x)
def wF (x:List ByteArray×ByteArray):Option T:=some (Sh.enc QR (DR x.1 x.2))
noncomputable def Z7:Env:=Env.of []
def AAI:FuncId→Hint:=fM 22 [(2,.inv [.val 5 false (.int .i64)])] (fun _=>bW)
theorem RB:aH Tryz.prog Z7:=.nil _
def F3 (a0:List ByteArray) (a1:ByteArray) (R:T→Prop):Prop :=
 bM (Int×PUnit)
 (fun (X0:Int×PUnit→Prop) (s1:Int×PUnit) =>
 aF (decide (s1.1<(↑(List.map Sy.str.enc a0).length:Int)))
 (a7 Sy.str (List.map Sy.str.enc a0) s1.1 fun (y2:ByteArray) =>
 aF (decide (y2=a1)) (R (T.v (.bool true))) (X0 (IntKind.i64.wrap (s1.1+1),())))
 (R (T.v (.bool false))))
 (0,())
abbrev H3:Sh:=[(false,Sy.str.li),(false,Sy.str)]
noncomputable def mT:List T→Option T:=gS H3 wF
theorem B3 {a0 a1}:mT [T.sl false (List.map Sy.str.enc a0),T.v (.string a1)]=wF (a0,a1):=cG (s:=H3) rfl (a0,a1) rfl
theorem X8:Of2 Tryz.prog 22 mT wF (fF H3) F3:=HI (a1:=(false,Sy.str.li)) (a2:=(false,Sy.str)) (sp:=wF) (F:=F3) (Hs:=AAI) (f:=22) (k:=8) RB bA bJ (aX rfl) ⟨_,_,Tryz.func22,rfl⟩ rfl fun _ _ _=>by kernel_rfl
theorem MN {α:Type} {p:α→Bool} {l:List α} {k:Nat} (h:k<l.length):(l.drop k).any p=(p l[k]||(l.drop (k+1)).any p):=by rw[List.drop_eq_getElem_cons h,List.any_cons]
theorem JU:aZ Tryz.prog 22 mT:=X8 fun l x r h hb=>by
 cases h
 have hl:l.length≤2 ^ 47:=hb.1.1
 unfold F3
 refine cS l.length (fun k s=>s=((k:Int),())∧DR l x=(l.drop k).any fun y=>decide (y=x)) ⟨rfl,rfl⟩ ?_
 rintro X k s hk ⟨rfl,he⟩ hX
 dsimp only
 by_cases hlt:k<l.length
 ·rw[MN hlt] at he
  refine oT (by simp[hlt]) ?_
  rw[cK (r:=.str) hlt]
  by_cases h1:l[k]=x
  ·refine oT h1 ?_
   rw[he,decide_eq_true h1];rfl
  ·refine vJ h1 (hX _ hlt ⟨by rw[show IntKind.i64.wrap ((k:Int)+1)=((k+1:Nat):Int) from cX _ (by omega) (by omega)],?_⟩)
   rw[he,decide_eq_false h1,Bool.false_or]
 ·have:k=l.length:=by omega
  subst this
  refine vJ (by simp) ?_
  rw[he,List.drop_length];rfl
end Go.Pv
namespace Go.Pv
open Go Go.Proofs
noncomputable def UR:Env:=Env.of [(22,.pure mT)]
def U5:FuncId→Hint:=fM 72 [(6,.inv [.own 5 1 .str,.val 6 false .bool,.val 7 false (.int .i64)])] (fun _=>bW)
theorem L5:aH Tryz.prog UR:=.cons JU (.nil _)
def AL (a0:List ByteArray) (a1:ByteArray) (R:T→Prop):Prop :=
 aF (decide (a1 = { data:=#[] })) (R (T.sl false (List.map Sy.str.enc a0)))
 (aE [(false,Sy.bool)]
 (mT [T.sl false (List.map Sy.str.enc a0),T.v (.string a1)]) fun (y0:Bool) =>
 aF y0 (R (T.sl false (List.map Sy.str.enc a0)))
 (bM (List ByteArray×Bool×Int×PUnit)
 (fun (X1:List ByteArray×Bool×Int×PUnit→Prop) (s2:List ByteArray×Bool×Int×PUnit) =>
 aF (decide (s2.2.2.1<(↑(List.map Sy.str.enc a0).length:Int)))
 (aF (!s2.2.1)
 (a7 Sy.str (List.map Sy.str.enc a0) s2.2.2.1 fun (y3:ByteArray) =>
 aF (!(kO y3 a1||decide (y3=a1)))
 (aD
 (decide (((List.map Sy.str.enc s2.1).length+1)*16≤140737488355328) &&
 decide ((List.map Sy.str.enc s2.1).length+1≤140737488355328))
 (a7 Sy.str (List.map Sy.str.enc a0) s2.2.2.1 fun (y4:ByteArray) =>
 aD
 (decide
 (((List.map Sy.str.enc s2.1 ++
 [[T.v (.string a1)].reverse].reverse).length +
 1) *
 16 ≤
 140737488355328) &&
 decide
 ((List.map Sy.str.enc s2.1 ++
 [[T.v (.string a1)].reverse].reverse).length +
 1 ≤
 140737488355328))
 (bP Sy.str
 (List.map Sy.str.enc s2.1++[[T.v (.string a1)]] ++
 [[T.v (.string y4)]])
 fun (y5:List ByteArray)=>X1 (y5,true,IntKind.i64.wrap (s2.2.2.1+1),()))))
 (a7 Sy.str (List.map Sy.str.enc a0) s2.2.2.1 fun (y6:ByteArray) =>
 aD
 (decide (((List.map Sy.str.enc s2.1).length+1)*16≤140737488355328) &&
 decide ((List.map Sy.str.enc s2.1).length+1≤140737488355328))
 (bP Sy.str (List.map Sy.str.enc s2.1++[[T.v (.string y6)]])
 fun (y7:List ByteArray) =>
 X1 (y7,s2.2.1,IntKind.i64.wrap (s2.2.2.1+1),()))))
 (a7 Sy.str (List.map Sy.str.enc a0) s2.2.2.1 fun (y8:ByteArray) =>
 aD
 (decide (((List.map Sy.str.enc s2.1).length+1)*16≤140737488355328) &&
 decide ((List.map Sy.str.enc s2.1).length+1≤140737488355328))
 (bP Sy.str (List.map Sy.str.enc s2.1++[[T.v (.string y8)]])
 fun (y9:List ByteArray)=>X1 (y9,s2.2.1,IntKind.i64.wrap (s2.2.2.1+1),()))))
 (aF (!s2.2.1)
 (aD
 (decide (((List.map Sy.str.enc s2.1).length+1)*16≤140737488355328) &&
 decide ((List.map Sy.str.enc s2.1).length+1≤140737488355328))
 (R (T.sl false (List.map Sy.str.enc s2.1++[[T.v (.string a1)]]))))
 (R (T.sl false (List.map Sy.str.enc s2.1)))))
 ([],false,0,())))
abbrev CZ:Sh:=[(false,Sy.str.li),(false,Sy.str)]
def WM (y s:ByteArray):Bool:=!(kO y s||decide (y=s))
def qB:List ByteArray→ByteArray→List ByteArray
 | [],s=>[s]
 | a::l,s=>match WM a s with
  | true=>s::a::l
  | false=>a::qB l s
def hU (l:List ByteArray) (s:ByteArray):List ByteArray:=if s=⟨#[]⟩ then l else if DR l s=true then l else qB l s
def mD (x:List ByteArray×ByteArray):Option T:=match decide (x.1.length≤10000000) with
 | true=>some (T.sl false (List.map Sy.str.enc (hU x.1 x.2)))
 | false=>none
noncomputable def bY:List T→Option T:=gS CZ mD
theorem J6 {a0 a1}:bY [T.sl false (List.map Sy.str.enc a0),T.v (.string a1)]=mD (a0,a1):=cG (s:=CZ) rfl (a0,a1) rfl
theorem TN:Of2 Tryz.prog 72 bY mD (fF CZ) AL:=HI (a1:=(false,Sy.str.li)) (a2:=(false,Sy.str)) (sp:=mD) (F:=AL) (Hs:=U5) (f:=72) (k:=8) L5 bA bJ (aX rfl) ⟨_,_,Tryz.func72,rfl⟩ rfl fun _ _ _=>by kernel_rfl
theorem KG:∀ (l:List ByteArray) (s:ByteArray),(qB l s).length=l.length+1
 | [],_=>rfl
 | a::l,s=>by
  unfold qB
  split
  ·rfl
  ·rw[List.length_cons,KG l s];rfl
theorem G8 {a s:ByteArray} {l:List ByteArray} (h:WM a s=true):qB (a::l) s=s::a::l:=by rw[qB,h]
theorem G9 {a s:ByteArray} {l:List ByteArray} (h:WM a s=false):qB (a::l) s=a::qB l s:=by rw[qB,h]
theorem M4 {l:List ByteArray} {rows:List (List T)} {K:List ByteArray→Prop} (e:rows=List.map Sy.str.enc l) (h:K l):bP .str rows K:=by subst e;rw[j6 (r:=.str) rfl];exact h
theorem SK:aZ Tryz.prog 72 bY:=TN fun l a r h hb=>by
 clear hb
 obtain ⟨hl,rfl⟩:=iM h
 clear h
 have hl:l.length≤10000000:=of_decide_eq_true hl
 have is:∀ {m:List ByteArray},hU l a=m→T.sl false (List.map Sy.str.enc m)=T.sl false (List.map Sy.str.enc (hU l a)):=fun e=>by rw[e]
 unfold AL
 refine eP (fun h=>is (by unfold hU;rw[if_pos h])) fun h1=>?_
 refine aM (s:=QR) (y:=DR l a) (B3 ..) ?_
 refine ifB (fun h=>is (by unfold hU;rw[if_neg h1,if_pos h])) fun h2=>?_
 have hw:hU l a=qB l a:=by unfold hU;rw[if_neg h1,if_neg (by rw[h2];exact Bool.false_ne_true)]
 refine cS l.length (fun k s=>s.2.2.1=(k:Int)∧((s.2.1=false∧s.1.length=k∧s.1++qB (l.drop k) a=qB l a)∨(s.2.1=true∧s.1.length=k+1∧s.1++l.drop k=qB l a))) ⟨rfl,.inl ⟨rfl,rfl,rfl⟩⟩ ?_
 rintro X k ⟨o,dn,i,u⟩ hk ⟨rfl,hs⟩ hX
 dsimp only at hs ⊢
 have wk:k<l.length→IntKind.i64.wrap ((k:Int)+1)=((k+1:Nat):Int):=fun h=>by rw[cX]<;>omega
 rw[List.length_map]
 refine eP (fun hlt=>?_) fun hge=>?_
 ·have hlt:k<l.length:=by omega
  have ho:o.length≤k+1:=by rcases hs with ⟨_,h,_⟩|⟨_,h,_⟩<;>omega
  have hd:l.drop k=l[k]::l.drop (k+1):=List.drop_eq_getElem_cons hlt
  have sz:∀ m:List ByteArray,m.length≤k+2→(decide (((List.map Sy.str.enc m).length+1)*16≤140737488355328)&&decide ((List.map Sy.str.enc m).length+1≤140737488355328))=true:=fun m hm=>by
   rw[Bool.and_eq_true,List.length_map]
   exact ⟨decide_eq_true (by omega),decide_eq_true (by omega)⟩
  rw[cK (r:=.str) hlt]
  refine ABQ (fun hdn=>?_) fun hdn=>?_
  ·rcases hs with ⟨_,h3,h4⟩|⟨h,_⟩
   case inr=>rw[hdn] at h;cases h
   rw[hd] at h4
   refine ifB (fun hg=>?_) fun hg=>?_
   ·refine ⟨sz o (by omega),?_⟩
    have e:List.map Sy.str.enc o++[[T.v (.string a)]]=List.map Sy.str.enc (o++[a]):=by rw[List.map_append];rfl
    rw[cK (r:=.str) hlt]
    refine ⟨?_,?_⟩
    ·show (decide (((List.map Sy.str.enc o++[[T.v (.string a)]]).length+1)*16≤140737488355328)&&decide ((List.map Sy.str.enc o++[[T.v (.string a)]]).length+1≤140737488355328))=true
     rw[e]
     exact sz _ (by rw[List.length_append,h3];show k+1≤k+2;omega)
    ·refine M4 (l:=o++[a]++[l[k]]) (by rw[List.map_append,List.map_append];rfl) (hX _ hlt ⟨wk hlt,.inr ⟨rfl,?_,?_⟩⟩)
     ·simp[h3]
     ·have hg:WM l[k] a=true:=hg
      rw[G8 hg] at h4
      rw[←h4];simp
   ·rw[cK (r:=.str) hlt]
    refine ⟨sz o (by omega),M4 (l:=o++[l[k]]) (by rw[List.map_append];rfl) (hX _ hlt ⟨wk hlt,.inl ⟨hdn,?_,?_⟩⟩)⟩
    ·simp[h3]
    ·have hg:WM l[k] a=false:=hg
     rw[G9 hg] at h4
     rw[←h4];simp
  ·rcases hs with ⟨h,_⟩|⟨_,h3,h4⟩
   ·rw[hdn] at h;cases h
   rw[cK (r:=.str) hlt]
   refine ⟨sz o (by omega),M4 (l:=o++[l[k]]) (by rw[List.map_append];rfl) (hX _ hlt ⟨wk hlt,.inr ⟨hdn,?_,?_⟩⟩)⟩
   ·simp[h3]
   ·rw[hd] at h4
    rw[←h4];simp
 ·have hkl:k=l.length:=by omega
  subst hkl
  rw[List.drop_length] at hs
  refine ABQ (fun hdn=>?_) fun hdn=>?_
  ·rcases hs with ⟨_,h3,h4⟩|⟨h,_⟩
   case inr=>rw[hdn] at h;cases h
   refine ⟨?_,?_⟩
   ·rw[Bool.and_eq_true,List.length_map]
    exact ⟨decide_eq_true (by omega),decide_eq_true (by omega)⟩
   ·have e:List.map Sy.str.enc o++[[T.v (.string a)]]=List.map Sy.str.enc (o++[a]):=by rw[List.map_append];rfl
    rw[e]
    exact is (by rw[hw,←h4];rfl)
  ·rcases hs with ⟨h,_⟩|⟨_,h3,h4⟩
   ·rw[hdn] at h;cases h
   exact is (by rw[hw,←h4,List.append_nil])
end Go.Pv
