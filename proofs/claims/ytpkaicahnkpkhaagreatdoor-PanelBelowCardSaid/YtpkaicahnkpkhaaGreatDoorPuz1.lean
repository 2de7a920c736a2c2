/-
  Facts on the program that every function's file asks for.
  The seam, the part, the section with an identifier.
  The part with an identifier, as the program finds it; how thick a seam is.
  Words that several files share.
  The way from the block down to a part.
  Chapter 17: the indices of a design, walked.
  Chapter 17: rising, walked.
  strings.Split on typed data.
  Names and identifiers.
  Chapter 17: the tree's form, walked.
  Chapter 17: the tree's other methods where a design's elements are empty, and Check there.
  Plane geometry, plain.
  poly: crosses and edges.
  poly: simple contours and their areas.
  poly.Where; region: edges, within, apart, Check, Area2.
  region: Check, Area2.
  vec.Valid; material: Check, Grade, Rolled.
-/
import Derived.Test.YtpkaicahnkpkhaaGreatDoorPuki
import Derived.Test.YtpkaicahnkpkhaaGreatDoorPuty
import Derived.Test.YtpkaicahnkpkhaaGreatDoorProg
import Derived.KernelRfl
import Derived.Test.YtpkaicahnkpkhaaGreatDoorPukn
import Derived.Test.YtpkaicahnkpkhaaGreatDoorPugs
import Derived.Test.YtpkaicahnkpkhaaGreatDoorPusl
import Derived.Laws.RangeAny
import Derived.Test.YtpkaicahnkpkhaaGreatDoorPukm
set_option linter.unusedSimpArgs false
set_option linter.unusedVariables false
namespace Go.Pv
open Go Go.Proofs
theorem a6:Tryz.prog.follows .mixedOrders=true:=by kernel_rfl
theorem a7:cX Tryz.prog=true:=by kernel_rfl
end Go.Pv
set_option maxRecDepth 100000
namespace Go.Pv
open Go Go.Proofs
def qV (d:aC) (id:ByteArray):Option cN:=d.2.2.2.1.find? fun s=>decide (s.1=id)
def partOf (d:aC) (id:ByteArray):Option bE:=d.2.2.1.find? fun s=>decide (s.1=id)
def cC (d:aC) (id:ByteArray):Option jW:=d.2.1.find? fun s=>decide (s.1=id)
def yZ (m:aL) (n:ByteArray):Option bQ:=m.2.find? fun s=>decide (s.1=n)
def BY:cN:=(⟨#[]⟩,⟨#[]⟩,⟨#[]⟩,0,0,0)
def BW:jW:=(⟨#[]⟩,0,⟨#[]⟩)
def BX:bE:=(⟨#[]⟩,0,0,⟨#[]⟩,⟨#[]⟩,0,([],[]),⟨#[]⟩,0,0,(0,0,0),(0,0,0),0)
def u6:bQ:=(⟨#[]⟩,0,0,0)
def found {α:Type} (no:α) (o:Option α):α×Bool:=match o with
 | some s=>(s,true)
 | none=>(no,false)
def qW (x:aC×ByteArray):Option T:=some (Sh.enc [(true,bT),(false,.bool)] (found BY (qV x.1 x.2)))
def zA (x:aC×ByteArray):Option T:=some (Sh.enc [(true,aQ),(false,.bool)] (found BX (partOf x.1 x.2)))
def oE (x:aC×ByteArray):Option T:=some (Sh.enc [(true,bM),(false,.bool)] (found BW (cC x.1 x.2)))
def nC (x:aL×ByteArray):Option T:=some (Sh.enc [(true,aR),(false,.bool)] (found u6 (yZ x.1 x.2)))
def AU2:FuncId→Hint:=fun f=>match f == 37 with|true=>⟨fun r=>match r == 2 with|true=>.inv [.val 6 false (.int .i64),.fix 1]|false=>.none,fun _ _=>none,fun _=>none⟩|false=>aU
noncomputable def WX:Env:=Env.of []
def AJR:FuncId→Hint:=fun f=>match f == 30 with|true=>⟨fun r=>match r == 2 with|true=>.inv [.val 11 false (.int .i64),.fix 1]|false=>.none,fun _ _=>none,fun _=>none⟩|false=>aU
theorem AIO:aF Tryz.prog WX:=aF.nil _
def YK (a0:aC) (a1:ByteArray) (R:T→Prop):Prop :=
 eJ
 (aS.rows false
 [[D.p (T.v (.string { data:=#[] })),D.p (T.v (.string { data:=#[] })),
 D.p (T.v (.string { data:=#[] })),D.p (T.v (.int .i64 0)),
 D.p (T.v (.int .i64 0)),D.p (T.v (.int .i64 0))]])
 (aS.rows false
 [[D.p (T.v (.string { data:=#[] })),D.p (T.v (.string { data:=#[] })),
 D.p (T.v (.string { data:=#[] })),D.p (T.v (.int .i64 0)),
 D.p (T.v (.int .i64 0)),D.p (T.v (.int .i64 0))]])
 (bB (Int×PUnit×PUnit)
 (fun (X0:Int×PUnit×PUnit→Prop) (s1:Int×PUnit×PUnit) =>
 aB (decide (s1.1<(↑(List.map bT.enc a0.2.2.2.1).length:Int)))
 (aP bT (List.map bT.enc a0.2.2.2.1) s1.1 fun (y2:cN) =>
 aB (decide (y2.1=a1))
 (R (T.cF [aD true bT y2,T.v (.bool true)]))
 (eJ
 (aS.rows false
 [[D.p (T.v (.string { data:=#[] })),
 D.p (T.v (.string { data:=#[] })),
 D.p (T.v (.string { data:=#[] })),
 D.p (T.v (.int .i64 0)),
 D.p (T.v (.int .i64 0)),
 D.p (T.v (.int .i64 0))]])
 (aS.rows false
 [[D.p (T.v (.string { data:=#[] })),
 D.p (T.v (.string { data:=#[] })),
 D.p (T.v (.string { data:=#[] })),
 D.p (T.v (.int .i64 0)),
 D.p (T.v (.int .i64 0)),
 D.p (T.v (.int .i64 0))]])
 (X0 (IntKind.i64.wrap (s1.1+1),(),()))))
 (R
 (T.cF
 [T.agg
 [T.v (.string { data:=#[] }),T.v (.string { data:=#[] }),
 T.v (.string { data:=#[] }),T.v (.int .i64 0),
 T.v (.int .i64 0),T.v (.int .i64 0)],
 T.v (.bool false)])))
 (0,(),()))
theorem AEF ( a0 a1 R):bJ aV Tryz.prog WX AJR 8 30 [aD true aN a0,aD false Sy.str a1] R=YK a0 a1 R:=by kernel_rfl
abbrev P2:Sh:=[(true,aN),(false,Sy.str)]
noncomputable def vY:List T→Option (T):=gS P2 qW
theorem AF4 {a0 a1}:vY [aD true aN a0,T.v (.string a1)]=qW (a0,a1):=bH (s:=P2) rfl (a0,a1) rfl
theorem AQL (h:∀ a0 a1 r,qW (a0,a1)=some r→cR P2 (a0,a1)→YK a0 a1 (fun y=>y=r)):aJ Tryz.prog 30 vY :=
 aX (E:=WX) (Hs:=AJR) AIO a6 a7 (aM rfl) 8 ⟨_,_,Tryz.func30,rfl⟩ rfl fun x r h1 h2=>by
  obtain ⟨a0,a1⟩:=x
  rw[show Sh.cA P2 (a0,a1)=[aD true aN a0,aD false Sy.str a1] from rfl,AEF]
  exact h a0 a1 r h1 h2
theorem APL:aJ Tryz.prog 30 vY:=AQL fun d id r h hb=>by
 have hl:d.2.2.2.1.length≤2 ^ 47:=hb.1.2.2.2.1.1
 unfold YK
 rw[cD]
 refine aY d.2.2.2.1.length (fun k s=>s=((k:Int),(),())∧(d.2.2.2.1.drop k).find? (fun s=>decide (s.1=id))=qV d id) ⟨rfl,rfl⟩ ?_
 rintro X k s hk ⟨rfl,hf⟩ hX
 simp only[List.length_map,BT,cD]
 by_cases hlt:k<d.2.2.2.1.length
 ·rw[oZ hlt] at hf
  simp only[hlt,decide_true,aB,aT (r:=bT) hlt]
  cases hc:decide (d.2.2.2.1[k].1=id) with
  | true =>
   simp only[hc,if_true] at hf
   simp only[qW,qW,←hf] at h
   cases h;rfl
  | false =>
   simp only[hc] at hf
   refine hX _ hlt ⟨?_,hf⟩
   simp only[Prod.mk.injEq,and_true]
   exact aO _ (by omega) (by omega)
 ·have:k=d.2.2.2.1.length:=by omega
  subst this
  simp only[List.drop_length,List.find?_nil] at hf
  simp only[qW,qW,←hf] at h
  simp only[hlt,decide_false,aB]
  cases h;rfl
noncomputable def WU:Env:=Env.of []
def AJO:FuncId→Hint:=fun f=>match f == 25 with|true=>⟨fun r=>match r == 2 with|true=>.inv [.val 11 false (.int .i64),.fix 1]|false=>.none,fun _ _=>none,fun _=>none⟩|false=>aU
theorem AIL:aF Tryz.prog WU:=aF.nil _
def XZ (a0:aC) (a1:ByteArray) (R:T→Prop):Prop :=
 eJ
 (aS.rows false
 [[D.p (T.v (.string { data:=#[] })),D.p (T.v (.int .i64 0)),
 D.p (T.v (.string { data:=#[] }))]])
 (aS.rows false
 [[D.p (T.v (.string { data:=#[] })),D.p (T.v (.int .i64 0)),
 D.p (T.v (.string { data:=#[] }))]])
 (bB (Int×PUnit×PUnit)
 (fun (X0:Int×PUnit×PUnit→Prop) (s1:Int×PUnit×PUnit) =>
 aB (decide (s1.1<(↑(List.map bM.enc a0.2.1).length:Int)))
 (aP bM (List.map bM.enc a0.2.1) s1.1 fun (y2:jW) =>
 aB (decide (y2.1=a1))
 (R (T.cF [aD true bM y2,T.v (.bool true)]))
 (eJ
 (aS.rows false
 [[D.p (T.v (.string { data:=#[] })),
 D.p (T.v (.int .i64 0)),
 D.p (T.v (.string { data:=#[] }))]])
 (aS.rows false
 [[D.p (T.v (.string { data:=#[] })),
 D.p (T.v (.int .i64 0)),
 D.p (T.v (.string { data:=#[] }))]])
 (X0 (IntKind.i64.wrap (s1.1+1),(),()))))
 (R
 (T.cF
 [T.agg
 [T.v (.string { data:=#[] }),T.v (.int .i64 0),
 T.v (.string { data:=#[] })],
 T.v (.bool false)])))
 (0,(),()))
theorem AEC ( a0 a1 R):bJ aV Tryz.prog WU AJO 8 25 [aD true aN a0,aD false Sy.str a1] R=XZ a0 a1 R:=by kernel_rfl
abbrev PZ:Sh:=[(true,aN),(false,Sy.str)]
abbrev PN:Sh:=[(true,bM),(false,Sy.bool)]
theorem VU (y:Sh.den PN) (K:Sh.den PN→Prop):aH PN (some (Sh.enc PN y)) K=K y:=kF rfl y K
noncomputable def jE:List T→Option (T):=gS PZ oE
theorem AX {a0 a1}:jE [aD true aN a0,T.v (.string a1)]=oE (a0,a1):=bH (s:=PZ) rfl (a0,a1) rfl
theorem AQI (h:∀ a0 a1 r,oE (a0,a1)=some r→cR PZ (a0,a1)→XZ a0 a1 (fun y=>y=r)):aJ Tryz.prog 25 jE :=
 aX (E:=WU) (Hs:=AJO) AIL a6 a7 (aM rfl) 8 ⟨_,_,Tryz.func25,rfl⟩ rfl fun x r h1 h2=>by
  obtain ⟨a0,a1⟩:=x
  rw[show Sh.cA PZ (a0,a1)=[aD true aN a0,aD false Sy.str a1] from rfl,AEC]
  exact h a0 a1 r h1 h2
theorem OP:aJ Tryz.prog 25 jE:=AQI fun d id r h hb=>by
 have hl:d.2.1.length≤2 ^ 47:=hb.1.2.1.1
 unfold XZ
 rw[cD]
 refine aY d.2.1.length (fun k s=>s=((k:Int),(),())∧(d.2.1.drop k).find? (fun s=>decide (s.1=id))=cC d id) ⟨rfl,rfl⟩ ?_
 rintro X k s hk ⟨rfl,hf⟩ hX
 simp only[List.length_map,BT,cD]
 by_cases hlt:k<d.2.1.length
 ·rw[oZ hlt] at hf
  simp only[hlt,decide_true,aB,aT (r:=bM) hlt]
  cases hc:decide (d.2.1[k].1=id) with
  | true =>
   simp only[hc,if_true] at hf
   simp only[oE,oE,←hf] at h
   cases h;rfl
  | false =>
   simp only[hc] at hf
   refine hX _ hlt ⟨?_,hf⟩
   simp only[Prod.mk.injEq,and_true]
   exact aO _ (by omega) (by omega)
 ·have:k=d.2.1.length:=by omega
  subst this
  simp only[List.drop_length,List.find?_nil] at hf
  simp only[oE,oE,←hf] at h
  simp only[hlt,decide_false,aB]
  cases h;rfl
noncomputable def zP:Env:=Env.of []
def KZ:FuncId→Hint:=fun f=>match f == 114 with|true=>⟨fun r=>match r == 2 with|true=>.inv [.val 8 false (.int .i64)]|false=>.none,fun _ _=>none,fun _=>none⟩|false=>aU
theorem QW:aF Tryz.prog zP:=aF.nil _
def zY (a0:aL) (a1:ByteArray) (R:T→Prop):Prop :=
 bB (Int×PUnit)
 (fun (X0:Int×PUnit→Prop) (s1:Int×PUnit) =>
 aB (decide (s1.1<(↑(List.map aR.enc a0.2).length:Int)))
 (aP aR (List.map aR.enc a0.2) s1.1 fun (y2:bQ) =>
 aB (decide (y2.1=a1))
 (aB (decide (s1.1<0))
 (R
 (T.cF
 [T.agg
 [T.v (.string { data:=#[] }),T.v (.int .i64 0),
 T.v (.int .i64 0),T.v (.int .i64 0)],
 T.v (.bool false)]))
 (aP aR (List.map aR.enc a0.2) s1.1 fun (y3:bQ) =>
 R (T.cF [aD true aR y3,T.v (.bool true)])))
 (X0 (IntKind.i64.wrap (s1.1+1),())))
 (R
 (T.cF
 [T.agg
 [T.v (.string { data:=#[] }),T.v (.int .i64 0),
 T.v (.int .i64 0),T.v (.int .i64 0)],
 T.v (.bool false)])))
 (0,())
theorem N1 ( a0 a1 R):bJ aV Tryz.prog zP KZ 8 61 [aD true aI a0,aD false Sy.str a1] R=zY a0 a1 R:=by kernel_rfl
abbrev uA:Sh:=[(true,aI),(false,Sy.str)]
noncomputable def bV:List T→Option (T):=gS uA nC
theorem OZ {a0 a1}:bV [aD true aI a0,T.v (.string a1)]=nC (a0,a1):=bH (s:=uA) rfl (a0,a1) rfl
theorem AAO (h:∀ a0 a1 r,nC (a0,a1)=some r→cR uA (a0,a1)→zY a0 a1 (fun y=>y=r)):aJ Tryz.prog 61 bV :=
 aX (E:=zP) (Hs:=KZ) QW a6 a7 (aM rfl) 8 ⟨_,_,Tryz.func61,rfl⟩ rfl fun x r h1 h2=>by
  obtain ⟨a0,a1⟩:=x
  rw[show Sh.cA uA (a0,a1)=[aD true aI a0,aD false Sy.str a1] from rfl,N1]
  exact h a0 a1 r h1 h2
theorem HR:aJ Tryz.prog 61 bV:=AAO fun m n r h hb=>by
 have hl:m.2.length≤2 ^ 47:=hb.1.2.1
 unfold zY
 refine aY m.2.length (fun k s=>s=((k:Int),())∧(m.2.drop k).find? (fun s=>decide (s.1=n))=yZ m n) ⟨rfl,rfl⟩ ?_
 rintro X k s hk ⟨rfl,hf⟩ hX
 simp only[List.length_map,BT]
 by_cases hlt:k<m.2.length
 ·rw[oZ hlt] at hf
  have h0:¬ ((k:Int)<0):=by omega
  simp only[hlt,decide_true,aB,aT (r:=aR) hlt,h0,decide_false]
  cases hc:decide (m.2[k].1=n) with
  | true =>
   simp only[hc,if_true] at hf
   simp only[nC,←hf] at h
   cases h;rfl
  | false =>
   simp only[hc] at hf
   refine hX _ hlt ⟨?_,hf⟩
   simp only[Prod.mk.injEq,and_true]
   exact aO _ (by omega) (by omega)
 ·have:k=m.2.length:=by omega
  subst this
  simp only[List.drop_length,List.find?_nil] at hf
  simp only[nC,←hf] at h
  simp only[hlt,decide_false,aB]
  cases h;rfl
end Go.Pv
namespace Go.Pv
open Go Go.Proofs
theorem Y7:WO Tryz.prog 57 2 16:=⟨fun R=>by kernel_rfl,fun fl R=>by kernel_rfl,fun fl a rows R=>by kernel_rfl⟩
noncomputable def kG:List T→Option T:=gS [(false,.li aA)] (j7 aA 16)
theorem xN {u0}:kG [T.sl false (List.map (Sy.enc aA) u0)]=j7 aA 16 u0:=bH (s:=[(false,.li aA)]) rfl u0 rfl
theorem ZJ:aJ Tryz.prog 57 kG:=K9 a6 a7 ⟨_,_,Tryz.func57,rfl⟩ Y7
theorem SZ:WN Tryz.prog 58 1 24:=⟨fun R=>by kernel_rfl,fun fl R=>by kernel_rfl,fun fl a rows R=>by kernel_rfl⟩
noncomputable def mS:List T→Option (List (List T)):=gS [(false,.li (.li aA))] (gZ (.li aA) 24)
theorem KH {u0}:mS [T.sl false (List.map (Sy.enc (.li aA)) u0)]=gZ (.li aA) 24 u0:=bH (s:=[(false,.li (.li aA))]) rfl u0 rfl
theorem TE:kR Tryz.prog 58 mS:=K8 a6 a7 ⟨_,_,Tryz.func58,rfl⟩ SZ
def DN (b:Nat) (n:Nat):Bool:=decide (n*b≤140737488355328)&&decide (n≤140737488355328)
def PF (s:fW):Bool:=DN 16 s.1.length&&DN 24 s.2.length&&s.2.all fun h=>DN 16 h.length
def PE (p:bE):Bool:=PF p.2.2.2.2.2.2.1
def okD (d:aC):Bool:=d.2.2.1.all PE
theorem wL {r:Sy} {b:Nat} {l:List r.den} (h:DN b l.length=true):gZ r b l=some (List.map r.enc l):=by
 unfold gZ;unfold DN at h;rw[h]
def pQ (x:aC×ByteArray):Option T:=match okD x.1 with
 | true=>zA x
 | false=>none
noncomputable def M9:Env:=Env.of [(57,.pure kG),(58,.fresh mS)]
def ABV:FuncId→Hint:=fun f=>match f == 27 with|true=>⟨fun r=>match r == 2 with|true=>.inv [.val 13 false (.int .i64),.fix 1]|false=>match r == 7 with|true=>.alt [.val 37 false (.int .i64),.arr 4 1 (.li aA)] [.val 37 false (.int .i64)]|false=>.none,fun _ _=>none,fun _=>none⟩|false=>aU
theorem AD2:aF Tryz.prog M9:=aF.cons (x:=.pure kG) ZJ (aF.cons (x:=.fresh mS) TE (aF.nil _))
def NQ (a0:aC) (a1:ByteArray) (R:T→Prop):Prop :=
 eJ
 (aS.rows false
 [[D.p (T.v (.string { data:=#[] })),D.p (T.v (.int .i64 0)),
 D.p (T.v (.int .i64 0)),D.p (T.v (.string { data:=#[] })),
 D.p (T.v (.string { data:=#[] })),D.p (T.v (.int .i64 0)),
 D.p (T.v (Value.slice none 0 0)),D.p (T.v (Value.slice none 0 0)),
 D.p (T.v (.string { data:=#[] })),D.p (T.v (.int .i64 0)),
 D.p (T.v (.int .i64 0)),D.p (T.v (.int .i64 0)),
 D.p (T.v (.int .i64 0)),D.p (T.v (.int .i64 0)),
 D.p (T.v (.int .i64 0)),D.p (T.v (.int .i64 0)),
 D.p (T.v (.int .i64 0)),D.p (T.v (.int .i64 0))]])
 (aS.rows false
 [[D.p (T.v (.string { data:=#[] })),D.p (T.v (.int .i64 0)),
 D.p (T.v (.int .i64 0)),D.p (T.v (.string { data:=#[] })),
 D.p (T.v (.string { data:=#[] })),D.p (T.v (.int .i64 0)),
 D.p (T.v (Value.slice none 0 0)),D.p (T.v (Value.slice none 0 0)),
 D.p (T.v (.string { data:=#[] })),D.p (T.v (.int .i64 0)),
 D.p (T.v (.int .i64 0)),D.p (T.v (.int .i64 0)),
 D.p (T.v (.int .i64 0)),D.p (T.v (.int .i64 0)),
 D.p (T.v (.int .i64 0)),D.p (T.v (.int .i64 0)),
 D.p (T.v (.int .i64 0)),D.p (T.v (.int .i64 0))]])
 (bB (Int×PUnit×PUnit)
 (fun (X0:Int×PUnit×PUnit→Prop) (s1:Int×PUnit×PUnit) =>
 aB (decide (s1.1<(↑(List.map aQ.enc a0.2.2.1).length:Int)))
 (aP aQ (List.map aQ.enc a0.2.2.1) s1.1 fun (y2:bE) =>
 aB (decide (y2.1=a1))
 (aH [(false,aA.li)]
 (kG [T.sl false (List.map aA.enc y2.2.2.2.2.2.2.1.1)])
 fun (y3:List aK) =>
 ZS aA.li
 (mS [T.sl false (List.map aA.li.enc y2.2.2.2.2.2.2.1.2)])
 fun (y4:List (List aK)) =>
 aB y4.isEmpty
 (bB (Int×PUnit)
 (fun (X5:Int×PUnit→Prop) (s6:Int×PUnit) =>
 aB (decide (s6.1<(↑0:Int)))
 (aP aA.li [] s6.1 fun (y7:List aK) =>
 aH [(false,aA.li)]
 (kG [T.sl false (List.map aA.enc y7)])
 fun (y8:List aK) =>
 aP aA.li [] s6.1 fun (y9:List aK)=>nG 104)
 (R
 (T.cF
 [T.agg
 [T.v (.string y2.1),T.v (.int .i64 y2.2.1),
 T.v (.int .i64 y2.2.2.1),
 T.v (.string y2.2.2.2.1),
 T.v (.string y2.2.2.2.2.1),
 T.v (.int .i64 y2.2.2.2.2.2.1),
 T.sl false (List.map aA.enc y3),T.sl false [],
 T.v (.string y2.2.2.2.2.2.2.2.1),
 T.v (.int .i64 y2.2.2.2.2.2.2.2.2.1),
 T.v (.int .i64 y2.2.2.2.2.2.2.2.2.2.1),
 T.v
 (Value.int IntKind.i64 y2.2.2.2.2.2.2.2.2.2.2.1.1),
 T.v
 (Value.int IntKind.i64
 y2.2.2.2.2.2.2.2.2.2.2.1.2.1),
 T.v
 (Value.int IntKind.i64
 y2.2.2.2.2.2.2.2.2.2.2.1.2.2),
 T.v
 (Value.int IntKind.i64
 y2.2.2.2.2.2.2.2.2.2.2.2.1.1),
 T.v
 (Value.int IntKind.i64
 y2.2.2.2.2.2.2.2.2.2.2.2.1.2.1),
 T.v
 (Value.int IntKind.i64
 y2.2.2.2.2.2.2.2.2.2.2.2.1.2.2),
 T.v
 (Value.int IntKind.i64 y2.2.2.2.2.2.2.2.2.2.2.2.2)],
 T.v (.bool true)])))
 (0,()))
 (bA aA.li (List.map aA.li.enc y4) fun (y10:List (List aK)) =>
 bB (Int×List (List aK)×PUnit)
 (fun (X11:Int×List (List aK)×PUnit→Prop)
 (s12:Int×List (List aK)×PUnit) =>
 aB (decide (s12.1<(↑(List.map aA.li.enc y4).length:Int)))
 (aP aA.li (List.map aA.li.enc s12.2.1) s12.1
 fun (y13:List aK) =>
 lG aA.li (List.map aA.li.enc s12.2.1) (Int.toNat s12.1) 0
 fun (y14:List aK) =>
 aH [(false,aA.li)]
 (kG [T.sl false (List.map aA.enc y14)])
 fun (y15:List aK) =>
 aP aA.li (List.map aA.li.enc s12.2.1) s12.1
 fun (y16:List aK) =>
 AA1 (List.map aA.li.enc s12.2.1) (Int.toNat s12.1)
 fun (y17:List T) =>
 bO (decide (1≤y17.length))
 (bA aA.li
 ((List.map aA.li.enc s12.2.1).set (Int.toNat s12.1)
 (cE y17 0 [T.sl false (List.map aA.enc y15)]))
 fun (y18:List (List aK)) =>
 X11 (IntKind.i64.wrap (s12.1+1),y18,())))
 (R
 (T.cF
 [T.agg
 [T.v (.string y2.1),
 T.v (.int .i64 y2.2.1),
 T.v (.int .i64 y2.2.2.1),
 T.v (.string y2.2.2.2.1),
 T.v (.string y2.2.2.2.2.1),
 T.v (.int .i64 y2.2.2.2.2.2.1),
 T.sl false (List.map aA.enc y3),
 T.sl false (List.map aA.li.enc s12.2.1),
 T.v (.string y2.2.2.2.2.2.2.2.1),
 T.v (.int .i64 y2.2.2.2.2.2.2.2.2.1),
 T.v (.int .i64 y2.2.2.2.2.2.2.2.2.2.1),
 T.v
 (Value.int IntKind.i64 y2.2.2.2.2.2.2.2.2.2.2.1.1),
 T.v
 (Value.int IntKind.i64
 y2.2.2.2.2.2.2.2.2.2.2.1.2.1),
 T.v
 (Value.int IntKind.i64
 y2.2.2.2.2.2.2.2.2.2.2.1.2.2),
 T.v
 (Value.int IntKind.i64
 y2.2.2.2.2.2.2.2.2.2.2.2.1.1),
 T.v
 (Value.int IntKind.i64
 y2.2.2.2.2.2.2.2.2.2.2.2.1.2.1),
 T.v
 (Value.int IntKind.i64
 y2.2.2.2.2.2.2.2.2.2.2.2.1.2.2),
 T.v
 (Value.int IntKind.i64 y2.2.2.2.2.2.2.2.2.2.2.2.2)],
 T.v (.bool true)])))
 (0,y10,())))
 (eJ
 (aS.rows false
 [[D.p (T.v (.string { data:=#[] })),
 D.p (T.v (.int .i64 0)),
 D.p (T.v (.int .i64 0)),
 D.p (T.v (.string { data:=#[] })),
 D.p (T.v (.string { data:=#[] })),
 D.p (T.v (.int .i64 0)),
 D.p (T.v (Value.slice none 0 0)),D.p (T.v (Value.slice none 0 0)),
 D.p (T.v (.string { data:=#[] })),
 D.p (T.v (.int .i64 0)),
 D.p (T.v (.int .i64 0)),
 D.p (T.v (.int .i64 0)),
 D.p (T.v (.int .i64 0)),
 D.p (T.v (.int .i64 0)),
 D.p (T.v (.int .i64 0)),
 D.p (T.v (.int .i64 0)),
 D.p (T.v (.int .i64 0)),
 D.p (T.v (.int .i64 0))]])
 (aS.rows false
 [[D.p (T.v (.string { data:=#[] })),
 D.p (T.v (.int .i64 0)),
 D.p (T.v (.int .i64 0)),
 D.p (T.v (.string { data:=#[] })),
 D.p (T.v (.string { data:=#[] })),
 D.p (T.v (.int .i64 0)),
 D.p (T.v (Value.slice none 0 0)),D.p (T.v (Value.slice none 0 0)),
 D.p (T.v (.string { data:=#[] })),
 D.p (T.v (.int .i64 0)),
 D.p (T.v (.int .i64 0)),
 D.p (T.v (.int .i64 0)),
 D.p (T.v (.int .i64 0)),
 D.p (T.v (.int .i64 0)),
 D.p (T.v (.int .i64 0)),
 D.p (T.v (.int .i64 0)),
 D.p (T.v (.int .i64 0)),
 D.p (T.v (.int .i64 0))]])
 (X0 (IntKind.i64.wrap (s1.1+1),(),()))))
 (R
 (T.cF
 [T.agg
 [T.v (.string { data:=#[] }),T.v (.int .i64 0),
 T.v (.int .i64 0),T.v (.string { data:=#[] }),
 T.v (.string { data:=#[] }),T.v (.int .i64 0),
 T.sl false [],T.sl false [],T.v (.string { data:=#[] }),
 T.v (.int .i64 0),T.v (.int .i64 0),
 T.v (.int .i64 0),T.v (.int .i64 0),
 T.v (.int .i64 0),T.v (.int .i64 0),
 T.v (.int .i64 0),T.v (.int .i64 0),
 T.v (.int .i64 0)],
 T.v (.bool false)])))
 (0,(),()))
theorem YC ( a0 a1 R):bJ aV Tryz.prog M9 ABV 8 27 [aD true aN a0,aD false Sy.str a1] R=NQ a0 a1 R:=by kernel_rfl
abbrev EW:Sh:=[(true,aN),(false,Sy.str)]
abbrev EK:Sh:=[(true,aQ),(false,Sy.bool)]
theorem yD (y:Sh.den EK) (K:Sh.den EK→Prop):aH EK (some (Sh.enc EK y)) K=K y:=kF rfl y K
noncomputable def gW:List T→Option (T):=gS EW pQ
theorem vW {a0 a1}:gW [aD true aN a0,T.v (.string a1)]=pQ (a0,a1):=bH (s:=EW) rfl (a0,a1) rfl
theorem AMQ (h:∀ a0 a1 r,pQ (a0,a1)=some r→cR EW (a0,a1)→NQ a0 a1 (fun y=>y=r)):aJ Tryz.prog 27 gW :=
 aX (E:=M9) (Hs:=ABV) AD2 a6 a7 (aM rfl) 8 ⟨_,_,Tryz.func27,rfl⟩ rfl fun x r h1 h2=>by
  obtain ⟨a0,a1⟩:=x
  rw[show Sh.cA EW (a0,a1)=[aD true aN a0,aD false Sy.str a1] from rfl,YC]
  exact h a0 a1 r h1 h2
theorem HP:aJ Tryz.prog 27 gW:=AMQ fun d id r h hb=>by
 have hl:d.2.2.1.length≤2 ^ 47:=hb.1.2.2.1.1
 unfold pQ at h
 split at h
 ·rename_i hok
  unfold NQ
  rw[cD]
  refine aY d.2.2.1.length (fun k s=>s=((k:Int),(),())∧(d.2.2.1.drop k).find? (fun s=>decide (s.1=id))=partOf d id) ⟨rfl,rfl⟩ ?_
  rintro X k s hk ⟨rfl,hf⟩ hX
  simp only[List.length_map,BT,cD]
  by_cases hlt:k<d.2.2.1.length
  ·rw[oZ hlt] at hf
   have hp:PE d.2.2.1[k]=true:=List.all_eq_true.1 hok _ (List.getElem_mem hlt)
   simp only[hlt,decide_true,aB,aT (r:=aQ) hlt]
   generalize d.2.2.1[k]=p at *
   unfold PE PF at hp
   simp only[Bool.and_eq_true] at hp
   obtain ⟨⟨hp1,hp2⟩,hp3⟩:=hp
   cases hc:decide (p.1=id) with
   | true =>
    simp only[hc,if_true] at hf
    simp only[zA,←hf] at h
    cases h
    simp only[]
    refine aG (s:=[(false,aA.li)]) (y:=p.2.2.2.2.2.2.1.1) (by rw[xN,j7,wL hp1];rfl) ?_
    refine AFX (r:=.li aA) (l:=p.2.2.2.2.2.2.1.2) (by rw[KH,wL hp2]) _ ?_
    obtain ⟨p1,p2,p3,p4,p5,p6,⟨o,hs⟩,p7⟩:=p
    have hb47:hs.length≤140737488355328:=by
     simp only[DN,Bool.and_eq_true,decide_eq_true_eq] at hp2;exact hp2.2
    cases hs with
    | nil =>
     simp only[List.isEmpty_nil]
     refine aY 0 (fun k s=>s=((k:Int),())) rfl ?_
     rintro X k s hk rfl hX
     have:k=0:=by omega
     subst this
     rfl
    | cons h0 hs =>
     generalize hhs:h0::hs=hh at *
     have he:hh.isEmpty=false:=by rw[←hhs];rfl
     simp only[he]
     rw[c9 (r:=.li aA) rfl]
     refine aY hh.length (fun k s=>s=((k:Int),hh,())) rfl ?_
     rintro X k s hk rfl hX
     simp only[List.length_map,BT]
     by_cases hlt:k<hh.length
     ·have hok:DN 16 hh[k].length=true:=List.all_eq_true.1 hp3 _ (List.getElem_mem hlt)
      simp only[hlt,decide_true,Int.toNat_natCast,aT (r:=.li aA) hlt,j6 (r:=.li aA) hlt,EP (r:=.li aA) hlt]
      refine aG (s:=[(false,aA.li)]) (y:=hh[k]) (by rw[xN,j7,wL hok];rfl) ?_
      refine ⟨rfl,?_⟩
      have e:cE (Sy.enc (.li aA) hh[k]) 0 [T.sl false (List.map aA.enc hh[k])]=Sy.enc (.li aA) hh[k]:=rfl
      rw[e,ANJ (r:=.li aA) hlt,c9 (r:=.li aA) rfl]
      refine hX _ hlt ?_
      simp only[Prod.mk.injEq,and_true]
      exact aO _ (by omega) (by omega)
     ·simp only[hlt,decide_false]
      rfl
   | false =>
    simp only[hc] at hf
    refine hX _ hlt ⟨?_,hf⟩
    simp only[Prod.mk.injEq,and_true]
    exact aO _ (by omega) (by omega)
  ·have:k=d.2.2.1.length:=by omega
   subst this
   simp only[List.drop_length,List.find?_nil] at hf
   simp only[zA,←hf] at h
   simp only[hlt,decide_false,aB]
   cases h;rfl
 ·cases h
end Go.Pv
namespace Go.Pv
open Go Go.Proofs
abbrev VQ (p:bE):Int:=p.2.2.1
abbrev VR (p:bE):ByteArray:=p.2.2.2.1
abbrev AUA (p:bE):Int:=p.2.2.2.2.2.1
abbrev AW0 (p:bE):ByteArray:=p.2.2.2.2.2.2.2.1
def sK (d:aC) (t:T):Option T:=match okD d with
 | true=>some t
 | false=>none
abbrev r_b:Sh:=[(false,.bool)]
theorem x7 {d:aC} {t r:T} (h:sK d t=some r):okD d=true∧r=t:=by
 unfold sK at h;split at h
 ·cases h;exact ⟨by assumption,rfl⟩
 ·cases h
theorem pI {d:aC} (t:T) (h:okD d=true):sK d t=some t:=by unfold sK;rw[h]
theorem cJ {p:Prop} {i:Decidable p} (h:p) {A B:Prop} (ha:A):aB (@decide p i) A B:=by rw[show @decide p i=true from decide_eq_true h];exact ha
theorem cV {p:Prop} {i:Decidable p} (h:¬ p) {A B:Prop} (hb:B):aB (@decide p i) A B:=by rw[show @decide p i=false from decide_eq_false h];exact hb
theorem bZ {p:Prop} {i:Decidable p} {A B:Prop} (h1:p→A) (h2:¬ p→B):aB (@decide p i) A B:=by
 by_cases h:p
 ·rw[decide_eq_true h];exact h1 h
 ·rw[decide_eq_false h];exact h2 h
theorem mG {p:Prop} {i:Decidable p} {A B:Prop} (h1:¬ p→A) (h2:p→B):aB (!(@decide p i)) A B:=by
 by_cases h:p
 ·rw[decide_eq_true h];exact h2 h
 ·rw[decide_eq_false h];exact h1 h
theorem J5 {c:Bool} {A B:Prop} (h1:c=true→A) (h2:c=false→B):aB c A B:=by cases c with
 | true=>exact h1 rfl
 | false=>exact h2 rfl
theorem lC {c:Bool} {A B:Prop} (h1:c=false→A) (h2:c=true→B):aB (!c) A B:=by cases c with
 | true=>exact h2 rfl
 | false=>exact h1 rfl
def bK {α:Type} (f:α→Int):List α→Int
 | []=>0
 | a::l=>if f a=0 then bK f l else f a
theorem mR {r:Sy} {l:List r.den} (f:r.den→Int) (hl:l.length≤140737488355328) {Body:(Int×PUnit→Prop)→Int×PUnit→r.den→Prop} {Exit:Prop}
  (hbody:∀ (X:Int×PUnit→Prop) (s:Int×PUnit) (y:r.den),y∈l→(f y=0→X (IntKind.i64.wrap (s.1+1),()))→(f y≠0→bK f l=f y)→Body X s y) (hexit:bK f l=0→Exit) :
  bB (Int×PUnit) (fun (X:Int×PUnit→Prop) (s:Int×PUnit)=>aB (decide (s.1<((List.map r.enc l).length:Int))) (aP r (List.map r.enc l) s.1 fun y=>Body X s y) Exit) (0,()):=by
 refine aY l.length (fun k s=>s=((k:Int),())∧bK f l=bK f (l.drop k)) ⟨rfl,by rw[List.drop_zero]⟩ ?_
 rintro X k s hk ⟨rfl,he⟩ hX
 dsimp only
 refine bZ (fun hlt=>?_) fun hge=>?_
 ·rw[List.length_map] at hlt
  have hlt:k<l.length:=by omega
  rw[aT hlt]
  have hd:l.drop k=l[k]::l.drop (k+1):=List.drop_eq_getElem_cons hlt
  rw[hd,bK] at he
  refine hbody X _ _ (List.getElem_mem hlt) (fun h0=>?_) fun h0=>by rw[he,if_neg h0]
  rw[if_pos h0] at he
  exact hX _ hlt ⟨by rw[show IntKind.i64.wrap ((k:Int)+1)=((k+1:Nat):Int) from aO _ (by omega) (by omega)],he⟩
 ·rw[List.length_map] at hge
  have:k=l.length:=by omega
  subst this
  rw[List.drop_length] at he
  exact hexit he
end Go.Pv
namespace Go.Pv
open Go Go.Proofs
def upF (d:aC):Nat→ByteArray→List ByteArray→List ByteArray×Bool
 | 0,_,_=>([],false)
 | n+1,id,l=>match cC d id with
  | none=>([],false)
  | some x=>if x.2.1=1 then (l++[id],true) else upF d n x.2.2 (l++[id])
def up (d:aC) (id:ByteArray):List ByteArray×Bool:=upF d 65 id []
def pL (d:aC) (id:ByteArray):List ByteArray:=match cC d id with
 | some _=>(up d id).1.reverse
 | none=>match partOf d id with
  | some p=>(up d (VR p)).1.reverse
  | none=>[]
def pathOf (d:aC) (id:ByteArray):List ByteArray:=match partOf d id with
 | some p=>pL d (VR p)
 | none=>[]
abbrev rM:Sh:=[(false,.li .str)]
def zB (x:aC×ByteArray):Option T:=sK x.1 (Sh.enc rM (pL x.1 x.2))
def E3 (x:aC×ByteArray):Option T:=sK x.1 (Sh.enc rM (pathOf x.1 x.2))
theorem ADK {d:aC}:∀ {n:Nat} {id:ByteArray} {l:List ByteArray},(upF d n id l).1.length≤l.length+n
 | 0,_,_=>by simp[upF]
 | n+1,id,l=>by
  unfold upF
  cases cC d id with
  | none=>simp
  | some x =>
   by_cases hx:x.2.1=1
   ·simp only[hx,if_true]
    simp
   ·simp only[hx,if_false]
    have:=ADK (d:=d) (n:=n) (id:=x.2.2) (l:=l++[id])
    simp at this;omega
theorem AN0 (d:aC) (id:ByteArray):(up d id).1.length≤65:=by have:=ADK (d:=d) (n:=65) (id:=id) (l:=[]);simpa [up] using this
theorem GY {l:List ByteArray} (h:l.length≤8000000000000) (K:Prop):bO (decide (((List.map Sy.str.enc l).length+1)*16≤140737488355328)&&decide ((List.map Sy.str.enc l).length+1≤140737488355328)) K=K:=by
 have e:(decide (((List.map Sy.str.enc l).length+1)*16≤140737488355328)&&decide ((List.map Sy.str.enc l).length+1≤140737488355328))=true:=by
  simp only[List.length_map,Bool.and_eq_true,decide_eq_true_eq]
  omega
 rw[e];simp[bO]
theorem jZ {l:List ByteArray} {x:ByteArray} (K:List ByteArray→Prop):bA Sy.str (List.map Sy.str.enc l++[[T.v (.string x)]]) K=K (l++[x]):=AG (r:=.str) rfl l _ x rfl K
theorem AKN {l:List ByteArray} {x:ByteArray}:List.map Sy.str.enc l++[[T.v (.string x)]]=List.map Sy.str.enc (l++[x]):=by simp[Sy.enc]
def AW6:FuncId→Hint:=fun f=>match f == 121 with|true=>⟨fun r=>match r == 3 with|true=>.inv [.val 1 false .str,.own 6 1 .str,.val 7 false (.int .i64)]|false=>.none,fun _ _=>none,fun _=>none⟩|false=>aU
theorem AB4 {l:List ByteArray} {x:ByteArray} (h:l.length≤8000000000000) (K:Prop):bO (decide (1=1)&&gC 1 [[T.v (.string x)]]&&decide (((List.map Sy.str.enc l).length + [[T.v (.string x)].reverse].reverse.length)*16≤140737488355328)&&decide ((List.map Sy.str.enc l).length + [[T.v (.string x)].reverse].reverse.length≤140737488355328)) K=K:=by
 have e:(decide (1=1)&&gC 1 [[T.v (.string x)]]&&decide (((List.map Sy.str.enc l).length + [[T.v (.string x)].reverse].reverse.length)*16≤140737488355328)&&decide ((List.map Sy.str.enc l).length + [[T.v (.string x)].reverse].reverse.length≤140737488355328))=true:=by
  simp only[List.length_map,Bool.and_eq_true,decide_eq_true_eq,List.length_reverse,List.length_cons,List.length_nil]
  refine ⟨⟨⟨trivial,rfl⟩,?_⟩,?_⟩<;>omega
 rw[e];simp[bO]
noncomputable def NA:Env:=Env.of [(25,.pure jE),(27,.pure gW)]
def ABW:FuncId→Hint:=fun f=>match f == 20 with|true=>⟨fun r=>match r == 9 with|true=>.inv [.own 4 1 .str,.val 38 false (.int .i64)]|false=>.none,fun i j=>match i == 7&&j == 7 with|true=>some [.own 9 1 .str,.val 10 false .bool]|false=>none,fun _=>none⟩|false=>match f == 53 with|true=>⟨fun r=>match r == 3 with|true=>.inv [.val 1 false .str,.own 6 1 .str,.val 9 false (.int .i64)]|false=>.none,fun _ _=>none,fun _=>none⟩|false=>aU
theorem AD3:aF Tryz.prog NA:=aF.cons (x:=.pure jE) OP (aF.cons (x:=.pure gW) HP (aF.nil _))
def NR (a0:aC) (a1:ByteArray) (R:T→Prop):Prop :=
 aH [(true,bM),(false,Sy.bool)]
 (jE [aD true aN a0,T.v (.string a1)]) fun (y0:jW×Bool) =>
 aB (!y0.2)
 (aH [(true,aQ),(false,Sy.bool)]
 (gW [aD true aN a0,T.v (.string a1)])
 fun (y1:bE×Bool) =>
 aB (!y1.2) (R (T.sl false []))
 (kB (List ByteArray×Bool×PUnit)
 (fun (X2:List ByteArray×Bool×PUnit→Prop) =>
 bB (ByteArray×List ByteArray×Int×PUnit)
 (fun (X3:ByteArray×List ByteArray×Int×PUnit→Prop)
 (s4:ByteArray×List ByteArray×Int×PUnit) =>
 aB (decide (s4.2.2.1<65))
 (aH [(true,bM),(false,Sy.bool)]
 (jE [aD true aN a0,T.v (.string s4.1)])
 fun (y5:jW×Bool) =>
 aB (!y5.2) (X2 ([],false,()))
 (bO
 (decide (((List.map Sy.str.enc s4.2.1).length+1)*16≤140737488355328) &&
 decide ((List.map Sy.str.enc s4.2.1).length+1≤140737488355328))
 (aB (decide (y5.1.2.1=1))
 (bA Sy.str
 (List.map Sy.str.enc s4.2.1++[[T.v (.string s4.1)]])
 fun (y6:List ByteArray)=>X2 (y6,true,()))
 (bA Sy.str
 (List.map Sy.str.enc s4.2.1++[[T.v (.string s4.1)]])
 fun (y7:List ByteArray) =>
 X3 (y5.1.2.2,y7,IntKind.i64.wrap (s4.2.2.1+1),())))))
 (X2 ([],false,())))
 (y1.1.2.2.2.1,[],0,()))
 fun (s8:List ByteArray×Bool×PUnit) =>
 bB (List ByteArray×Int×PUnit)
 (fun (X9:List ByteArray×Int×PUnit→Prop) (s10:List ByteArray×Int×PUnit) =>
 aB (decide (s10.2.1<(↑(List.map Sy.str.enc s8.1).length:Int)))
 (aP Sy.str (List.map Sy.str.enc s8.1)
 (IntKind.i64.wrap
 (IntKind.i64.wrap ((↑(List.map Sy.str.enc s8.1).length:Int)-1)-s10.2.1))
 fun (y11:ByteArray) =>
 lG Sy.str (List.map Sy.str.enc s8.1)
 (IntKind.i64.wrap
 (IntKind.i64.wrap ((↑(List.map Sy.str.enc s8.1).length:Int)-1) -
 s10.2.1)).toNat
 0 fun (y12:ByteArray) =>
 bO
 (decide (((List.map Sy.str.enc s10.1).length+1)*16≤140737488355328) &&
 decide ((List.map Sy.str.enc s10.1).length+1≤140737488355328))
 (bA Sy.str
 (List.map Sy.str.enc s10.1++[[T.v (.string y12)]])
 fun (y13:List ByteArray)=>X9 (y13,IntKind.i64.wrap (s10.2.1+1),())))
 (R (T.sl false (List.map Sy.str.enc s10.1))))
 ([],0,())))
 (kB (List ByteArray×Bool×PUnit)
 (fun (X14:List ByteArray×Bool×PUnit→Prop) =>
 bB (ByteArray×List ByteArray×Int×PUnit)
 (fun (X15:ByteArray×List ByteArray×Int×PUnit→Prop)
 (s16:ByteArray×List ByteArray×Int×PUnit) =>
 aB (decide (s16.2.2.1<65))
 (aH [(true,bM),(false,Sy.bool)]
 (jE [aD true aN a0,T.v (.string s16.1)])
 fun (y17:jW×Bool) =>
 aB (!y17.2) (X14 ([],false,()))
 (bO
 (decide (((List.map Sy.str.enc s16.2.1).length+1)*16≤140737488355328) &&
 decide ((List.map Sy.str.enc s16.2.1).length+1≤140737488355328))
 (aB (decide (y17.1.2.1=1))
 (bA Sy.str
 (List.map Sy.str.enc s16.2.1++[[T.v (.string s16.1)]])
 fun (y18:List ByteArray)=>X14 (y18,true,()))
 (bA Sy.str
 (List.map Sy.str.enc s16.2.1++[[T.v (.string s16.1)]])
 fun (y19:List ByteArray) =>
 X15 (y17.1.2.2,y19,IntKind.i64.wrap (s16.2.2.1+1),())))))
 (X14 ([],false,())))
 (a1,[],0,()))
 fun (s20:List ByteArray×Bool×PUnit) =>
 bB (List ByteArray×Int×PUnit)
 (fun (X21:List ByteArray×Int×PUnit→Prop) (s22:List ByteArray×Int×PUnit) =>
 aB (decide (s22.2.1<(↑(List.map Sy.str.enc s20.1).length:Int)))
 (aP Sy.str (List.map Sy.str.enc s20.1)
 (IntKind.i64.wrap
 (IntKind.i64.wrap ((↑(List.map Sy.str.enc s20.1).length:Int)-1)-s22.2.1))
 fun (y23:ByteArray) =>
 lG Sy.str (List.map Sy.str.enc s20.1)
 (IntKind.i64.wrap
 (IntKind.i64.wrap ((↑(List.map Sy.str.enc s20.1).length:Int)-1)-s22.2.1)).toNat
 0 fun (y24:ByteArray) =>
 bO
 (decide (((List.map Sy.str.enc s22.1).length+1)*16≤140737488355328) &&
 decide ((List.map Sy.str.enc s22.1).length+1≤140737488355328))
 (bA Sy.str (List.map Sy.str.enc s22.1++[[T.v (.string y24)]])
 fun (y25:List ByteArray)=>X21 (y25,IntKind.i64.wrap (s22.2.1+1),())))
 (R (T.sl false (List.map Sy.str.enc s22.1))))
 ([],0,()))
theorem YE ( a0 a1 R):bJ aV Tryz.prog NA ABW 8 20 [aD true aN a0,aD false Sy.str a1] R=NR a0 a1 R:=by kernel_rfl
abbrev EX:Sh:=[(true,aN),(false,Sy.str)]
abbrev EL:Sh:=[(false,Sy.str.li)]
theorem PO (y:Sh.den EL) (K:Sh.den EL→Prop):aH EL (some (Sh.enc EL y)) K=K y:=kF rfl y K
noncomputable def lZ:List T→Option (T):=gS EX zB
theorem H4 {a0 a1}:lZ [aD true aN a0,T.v (.string a1)]=zB (a0,a1):=bH (s:=EX) rfl (a0,a1) rfl
theorem AMR (h:∀ a0 a1 r,zB (a0,a1)=some r→cR EX (a0,a1)→NR a0 a1 (fun y=>y=r)):aJ Tryz.prog 20 lZ :=
 aX (E:=NA) (Hs:=ABW) AD3 a6 a7 (aM rfl) 8 ⟨_,_,Tryz.func20,rfl⟩ rfl fun x r h1 h2=>by
  obtain ⟨a0,a1⟩:=x
  rw[show Sh.cA EX (a0,a1)=[aD true aN a0,aD false Sy.str a1] from rfl,YE]
  exact h a0 a1 r h1 h2
theorem ZQ {ls:List ByteArray} (hl:ls.length≤65) {R:T→Prop} (hR:R (T.sl false (List.map Sy.str.enc ls.reverse))):bB (List ByteArray×Int×PUnit)
      (fun (X9:List ByteArray×Int×PUnit→Prop) (s10:List ByteArray×Int×PUnit) =>
       aB (decide (s10.2.1<(↑(List.map Sy.str.enc ls).length:Int)))
        (aP Sy.str (List.map Sy.str.enc ls)
         (IntKind.i64.wrap
          (IntKind.i64.wrap ((↑(List.map Sy.str.enc ls).length:Int)-1)-s10.2.1))
         fun (y11:ByteArray) =>
         lG Sy.str (List.map Sy.str.enc ls)
          (IntKind.i64.wrap
            (IntKind.i64.wrap ((↑(List.map Sy.str.enc ls).length:Int)-1) -
             s10.2.1)).toNat
          0 fun (y12:ByteArray) =>
          bO
           (decide (1=1)&&gC 1 [[T.v (.string y12)]] &&
             decide
              (((List.map Sy.str.enc s10.1).length +
                 [[T.v (.string y12)].reverse].reverse.length) *
                16 ≤
               140737488355328) &&
            decide
             ((List.map Sy.str.enc s10.1).length +
               [[T.v (.string y12)].reverse].reverse.length ≤
              140737488355328))
           (bA Sy.str
            (List.map Sy.str.enc s10.1++[[T.v (.string y12)]])
            fun (y13:List ByteArray)=>X9 (y13,IntKind.i64.wrap (s10.2.1+1),())))
        (R (T.sl false (List.map Sy.str.enc s10.1))))
      ([],0,()):=by
 refine aY ls.length (fun k s=>s=(ls.reverse.take k,(k:Int),())) (by simp) ?_
 rintro X k s hk rfl hX
 by_cases hlt:k<ls.length
 ·have h1:decide ((k:Int)<((List.map Sy.str.enc ls).length:Int))=true:=by simp;omega
  have e:IntKind.i64.wrap (IntKind.i64.wrap (((List.map Sy.str.enc ls).length:Int)-1)-k)=((ls.length-1-k:Nat):Int):=by
   rw[List.length_map,aO ((ls.length:Int)-1) (by omega) (by omega),aO _ (by omega) (by omega)];omega
  have hlt2:ls.length-1-k<ls.length:=by omega
  dsimp only
  rw[h1,e,aT (r:=.str) hlt2,Int.toNat_natCast,j6 (r:=.str) hlt2,AB4 (by simp;omega),jZ,dE]
  refine hX _ hlt ?_
  have hg:ls.reverse.take (k+1)=ls.reverse.take k++[ls[ls.length-1-k]]:=by
   rw[List.take_succ_eq_append_getElem (by simpa using hlt)]
   simp
  rw[hg]
  simp only[Prod.mk.injEq,and_true,true_and]
  exact aO _ (by omega) (by omega)
 ·have:k=ls.length:=by omega
  subst this
  have h1:decide ((ls.length:Int)<((List.map Sy.str.enc ls).length:Int))=false:=by simp
  simp only[h1,eA]
  rw[List.take_of_length_le (by simp)]
  exact hR
theorem TK:aJ Tryz.prog 20 lZ:=AMR fun d id r h hb=>by
 have h':sK d (Sh.enc rM (pL d id))=some r:=h
 obtain ⟨hok,rfl⟩:=x7 h'
 clear h h'
 unfold NR
 simp only[AX,oE,VU,vW,pQ,zA,hok,yD]
 have key:∀ id0,pL d id=(up d id0).1.reverse→kB (List ByteArray×Bool×PUnit)
   (fun (X14:List ByteArray×Bool×PUnit→Prop) =>
    bB (ByteArray×List ByteArray×Int×PUnit)
     (fun (X15:ByteArray×List ByteArray×Int×PUnit→Prop)
       (s16:ByteArray×List ByteArray×Int×PUnit) =>
      aB (decide (s16.2.2.1<65))
        (aB (!(found BW (cC d s16.1)).2) (X14 ([],false,()))
         (bO
          (decide (1=1)&&gC 1 [[T.v (.string s16.1)]] &&
            decide
             (((List.map Sy.str.enc s16.2.1).length +
                [[T.v (.string s16.1)].reverse].reverse.length) *
               16 ≤
              140737488355328) &&
           decide
            ((List.map Sy.str.enc s16.2.1).length +
              [[T.v (.string s16.1)].reverse].reverse.length ≤
             140737488355328))
          (aB (decide ((found BW (cC d s16.1)).1.2.1=1))
           (bA Sy.str
            (List.map Sy.str.enc s16.2.1++[[T.v (.string s16.1)]])
            fun (y18:List ByteArray)=>X14 (y18,true,()))
           (bA Sy.str
            (List.map Sy.str.enc s16.2.1++[[T.v (.string s16.1)]])
            fun (y19:List ByteArray) =>
            X15 ((found BW (cC d s16.1)).1.2.2,y19,IntKind.i64.wrap (s16.2.2.1+1),())))))
       (X14 ([],false,())))
     (id0,[],0,()))
   fun (s20:List ByteArray×Bool×PUnit) =>
   bB (List ByteArray×Int×PUnit)
    (fun (X21:List ByteArray×Int×PUnit→Prop) (s22:List ByteArray×Int×PUnit) =>
     aB (decide (s22.2.1<(↑(List.map Sy.str.enc s20.1).length:Int)))
      (aP Sy.str (List.map Sy.str.enc s20.1)
       (IntKind.i64.wrap
        (IntKind.i64.wrap ((↑(List.map Sy.str.enc s20.1).length:Int)-1)-s22.2.1))
       fun (y23:ByteArray) =>
       lG Sy.str (List.map Sy.str.enc s20.1)
        (IntKind.i64.wrap
          (IntKind.i64.wrap ((↑(List.map Sy.str.enc s20.1).length:Int)-1)-s22.2.1)).toNat
        0 fun (y24:ByteArray) =>
        bO
         (decide (1=1)&&gC 1 [[T.v (.string y24)]] &&
           decide
            (((List.map Sy.str.enc s22.1).length +
               [[T.v (.string y24)].reverse].reverse.length) *
              16 ≤
             140737488355328) &&
          decide
           ((List.map Sy.str.enc s22.1).length +
             [[T.v (.string y24)].reverse].reverse.length ≤
            140737488355328))
         (bA Sy.str (List.map Sy.str.enc s22.1++[[T.v (.string y24)]])
          fun (y25:List ByteArray)=>X21 (y25,IntKind.i64.wrap (s22.2.1+1),())))
      (T.sl false (List.map Sy.str.enc s22.1)=Sh.enc rM (pL d id)))
    ([],0,()):=by
  intro id0 hpath
  rw[mH,hpath]
  refine aY 65 (fun k s=>∃ id' l',s=(id',l',(k:Int),())∧l'.length=k∧upF d (65-k) id' l'=up d id0) ⟨id0,[],rfl,rfl,rfl⟩ ?_
  rintro X k s hk ⟨id',l',rfl,hl,hu⟩ hX
  dsimp only
  have fin:∀ ls b,(ls,b)=up d id0→_:=fun ls b e=>ZQ (ls:=ls) (by rw[show ls=(up d id0).1 by rw[←e]];exact AN0 d id0) (R:=fun y=>y=Sh.enc rM (up d id0).1.reverse) (by rw[←e];rfl)
  by_cases hlt:k<65
  ·have h1:decide ((k:Int)<65)=true:=by simp;omega
   obtain ⟨m,hm⟩:∃ m,65-k=m+1:=⟨64-k,by omega⟩
   rw[hm] at hu
   simp only[upF] at hu
   rw[h1,dE,AB4 (by omega),jZ,jZ]
   cases hn:cC d id' with
   | none=>simp only[hn] at hu;simp only[found,Bool.not_false,dE];exact fin _ _ hu
   | some x =>
    simp only[hn] at hu
    simp only[found,Bool.not_true,eA]
    by_cases hx:x.2.1=1
    ·rw[if_pos hx] at hu
     simp only[hx,decide_true,dE]
     exact fin _ _ hu
    ·rw[if_neg hx] at hu
     simp only[hx,decide_false,eA]
     refine hX _ hlt ⟨x.2.2,l'++[id'],?_,by simp[hl],by rw[←hu];congr 1;omega⟩
     simp only[Prod.mk.injEq,and_true,true_and]
     exact aO _ (by omega) (by omega)
  ·have h1:decide ((k:Int)<65)=false:=by simp;omega
   have:65-k=0:=by omega
   rw[this] at hu
   rw[h1,eA]
   exact fin _ _ hu
 cases hn:cC d id with
 | some x =>
  simp only[found,Bool.not_true,eA]
  exact key id (by simp[pL,hn])
 | none =>
  simp only[found,Bool.not_false,dE]
  cases hp:partOf d id with
  | none=>simp only[Bool.not_false,dE];simp[pL,hn,hp,Sh.enc,aD,Sy.enc,hdT]
  | some p =>
   simp only[Bool.not_true,eA]
   exact key (VR p) (by simp[pL,hn,hp])
end Go.Pv
namespace Go.Pv
open Go Go.Proofs
def nI (l:List ByteArray) (x:ByteArray):Bool:=l.any fun y=>decide (y=x)
theorem sH {l:List ByteArray} {x:ByteArray}:nI l x=true↔x∈l:=by
 simp only[nI,List.any_eq_true,decide_eq_true_eq]
 exact ⟨fun ⟨y,h,e⟩=>e ▸ h,fun h=>⟨x,h,rfl⟩⟩
def Sy.tl:Sy→Sy
 | .pr _ b=>b
 | x=>x
def A4:List ByteArray→Nat→List (ByteArray×Int)→List (ByteArray×Int)
 | [],_,es=>es
 | a::l,i,es=>A4 l (i+1) (match fQ es a with
  | none=>pF es a (i:Int)
  | some _=>es)
def fG (l:List ByteArray):List (ByteArray×Int):=A4 l 0 []
def ids {α:Type} (l:List (ByteArray×α)):List ByteArray:=l.map fun x=>x.1
def mY {α β:Type} (l:List α) (r:β):Option β:=match decide (l.length≤140737488355328) with
 | true=>some r
 | false=>none
theorem gP {α β:Type} {l:List α} {t r:β} (h:mY l t=some r):l.length≤140737488355328∧r=t:=by
 unfold mY at h;split at h
 ·rename_i hc
  cases h;exact ⟨of_decide_eq_true hc,rfl⟩
 ·cases h
theorem gQ {α β:Type} {l:List α} (t:β) (h:l.length≤140737488355328):mY l t=some t:=by unfold mY;rw[decide_eq_true h]
theorem AO6 (es:List (ByteArray×Int)):List.map (fun (e:Value×D)=>(e.1,QJ e.2)) (List.map (bG Sy.str false (Sy.int IntKind.i64)) es)=a8 es:=by
 rw[List.map_map];rfl
theorem EG {r:Sy} {l:List (ByteArray×r.den)} (hl:l.length≤140737488355328) :
 b8 Sy.str false (Sy.int IntKind.i64) [] fun (y0:List (ByteArray×Int)) =>
 bB (List (ByteArray×Int)×Int×PUnit)
  (fun (X1:List (ByteArray×Int)×Int×PUnit→Prop) (s2:List (ByteArray×Int)×Int×PUnit) =>
   aB (decide (s2.2.1<(↑l.length:Int)))
    (aP (.pr .str r) (List.map (Sy.pr .str r).enc l) s2.2.1 fun (y3:ByteArray×r.den) =>
     dT TypeDesc.string (Value.string y3.1)
      (List.map (bG Sy.str false (Sy.int IntKind.i64)) s2.1) false
      (Sy.int IntKind.i64)
      (aP (.pr .str r) (List.map (Sy.pr .str r).enc l) s2.2.1 fun (y7:ByteArray×r.den) =>
       iU (Option (Nat×D))
        (findD TypeDesc.string (Value.string y7.1)
         (List.map (bG Sy.str false (Sy.int IntKind.i64)) s2.1) 0)
        fun (y8:Option (Nat×D)) =>
        b8 Sy.str false (Sy.int IntKind.i64)
         (cK (List.map (bG Sy.str false (Sy.int IntKind.i64)) s2.1) y8
          (Value.string y7.1) (D.p (T.v (.int .i64 s2.2.1))))
         fun (y9:List (ByteArray×Int))=>X1 (y9,IntKind.i64.wrap (s2.2.1+1),()))
      fun (i4:Nat) (y5:Int) =>
      b8 Sy.str false (Sy.int IntKind.i64)
       (List.map (bG Sy.str false (Sy.int IntKind.i64)) s2.1)
       fun (y6:List (ByteArray×Int))=>X1 (y6,IntKind.i64.wrap (s2.2.1+1),()))
    (bO
     ((List.map (bG Sy.str false (Sy.int IntKind.i64)) s2.1).all
      fun (e:Value×D)=>AGE e.2)
     ((fun y=>y=T.mp (a8 (fG (ids l))))
      (T.mp
       (List.map (fun (e:Value×D)=>(e.1,QJ e.2))
        (List.map (bG Sy.str false (Sy.int IntKind.i64)) s2.1))))))
  (y0,0,()):=by
 refine gG (r:=.int .i64) rfl [] _ ?_
 refine aY l.length (fun k s=>∃ es,s=(es,(k:Int),())∧A4 (ids (l.drop k)) k es=fG (ids l)) ⟨[],rfl,rfl⟩ ?_
 rintro X k s hk ⟨es,rfl,hes⟩ hX
 dsimp only
 have hw:IntKind.i64.wrap ((k:Int)+1)=((k+1:Nat):Int):=aO _ (by omega) (by omega)
 by_cases hlt:k<l.length
 ·refine cJ (by omega) ?_
  rw[aT (r:=.pr .str r) hlt]
  have hd:ids (l.drop k)=l[k].1::ids (l.drop (k+1)):=by rw[List.drop_eq_getElem_cons hlt];rfl
  rw[hd] at hes
  simp only[A4] at hes
  refine tH (r:=.int .i64) (fun hno=>?_) (fun i v hv=>?_)
  ·rw[hno] at hes
   rw[aT (r:=.pr .str r) hlt]
   exact ACO (r:=.int .i64) rfl (v:=(k:Int)) (hX _ hlt ⟨_,by rw[hw],hes⟩)
  ·rw[hv] at hes
   exact gG (r:=.int .i64) rfl es _ (hX _ hlt ⟨_,by rw[hw],hes⟩)
 ·have:k=l.length:=by omega
  subst this
  refine cV (by omega) ?_
  rw[List.drop_length] at hes
  refine ⟨?_,?_⟩
  ·rw[List.all_eq_true]
   intro e he
   obtain ⟨x,_,rfl⟩:=List.mem_map.1 he
   rfl
  ·show T.mp _=_
   rw[AO6]
   rw[←hes]
   rfl
def oS (a0:aC):List T:=[T.v (.int .i64 (a0.2.1.length:Int)),T.fn 90 [] [T.ref [T.ref (aN.enc a0)]]]
noncomputable def AH4:Env:=Env.of []
def AQ8:FuncId→Hint:=fun f=>match f == 89 with|true=>⟨fun r=>match r == 3 with|true=>.inv [.map 0 .str false (.int .i64),.val 12 false (.int .i64)]|false=>.none,fun _ _=>none,fun _=>none⟩|false=>aU
theorem AOB:aF Tryz.prog AH4:=aF.nil _
def AIW (a0:aC) (R:T→Prop):Prop :=
 b8 Sy.str false (Sy.int IntKind.i64) [] fun (y0:List (ByteArray×Int)) =>
 bB (List (ByteArray×Int)×Int×PUnit)
 (fun (X1:List (ByteArray×Int)×Int×PUnit→Prop) (s2:List (ByteArray×Int)×Int×PUnit) =>
 aB (decide (s2.2.1<(↑a0.2.1.length:Int)))
 (aP bM (List.map bM.enc a0.2.1) s2.2.1 fun (y3:jW) =>
 dT TypeDesc.string (Value.string y3.1)
 (List.map (bG Sy.str false (Sy.int IntKind.i64)) s2.1) false
 (Sy.int IntKind.i64)
 (aP bM (List.map bM.enc a0.2.1) s2.2.1 fun (y7:jW) =>
 iU (Option (Nat×D))
 (findD TypeDesc.string (Value.string y7.1)
 (List.map (bG Sy.str false (Sy.int IntKind.i64)) s2.1) 0)
 fun (y8:Option (Nat×D)) =>
 b8 Sy.str false (Sy.int IntKind.i64)
 (cK (List.map (bG Sy.str false (Sy.int IntKind.i64)) s2.1) y8
 (Value.string y7.1) (D.p (T.v (.int .i64 s2.2.1))))
 fun (y9:List (ByteArray×Int))=>X1 (y9,IntKind.i64.wrap (s2.2.1+1),()))
 fun (i4:Nat) (y5:Int) =>
 b8 Sy.str false (Sy.int IntKind.i64)
 (List.map (bG Sy.str false (Sy.int IntKind.i64)) s2.1)
 fun (y6:List (ByteArray×Int))=>X1 (y6,IntKind.i64.wrap (s2.2.1+1),()))
 (bO
 ((List.map (bG Sy.str false (Sy.int IntKind.i64)) s2.1).all
 fun (e:Value×D)=>AGE e.2)
 (R
 (T.mp
 (List.map (fun (e:Value×D)=>(e.1,QJ e.2))
 (List.map (bG Sy.str false (Sy.int IntKind.i64)) s2.1))))))
 (y0,0,())
theorem AIX ( a0 R):qZ aV Tryz.prog AH4 AQ8 8 89 (oS a0) R=AIW a0 R:=by kernel_rfl
def AA7 (d:aC):Option (List (ByteArray×Int)):=mY d.2.1 (fG (ids d.2.1))
theorem ADN (d d':aC) (h:oS d=oS d'):d=d':=by
 unfold oS at h
 simp only[List.cons.injEq,T.fn.injEq,T.ref.injEq,and_true,true_and] at h
 exact Sy.cS aN _ _ h.2
noncomputable def TX:List T→Option (List (ByteArray×Int)):=gA (fun (x:aC)=>oS x) AA7
theorem AK8 (a0:aC):TX (oS a0)=AA7 a0:=j1 (A:=(fun (x:aC)=>oS x)) ADN a0
theorem ATW (h:∀ (a0:aC) (r:List (ByteArray×Int)),AA7 a0=some r→(∀ t∈oS a0,Bd t)→AIW a0 (fun y=>y = .mp (a8 r))):iB Tryz.prog 89 (oI TX) :=
 xH (E:=AH4) (Hs:=AQ8) AOB a6 a7 (aM rfl) 8 ⟨_,_,Tryz.func89,rfl⟩ fun x r h1 h2=>by
  rw[AIX]
  exact h x r h1 h2
theorem ASP:iB Tryz.prog 89 (oI TX):=ATW fun d r h hb=>by
 obtain ⟨hl,rfl⟩:=gP h
 unfold AIW
 exact EG (r:=bM.tl) (l:=d.2.1) hl
def oT (a0:aC):List T:=[T.v (.int .i64 (a0.2.2.1.length:Int)),T.fn 91 [] [T.ref [T.ref (aN.enc a0)]]]
noncomputable def AH5:Env:=Env.of []
def AQ9:FuncId→Hint:=fun f=>match f == 89 with|true=>⟨fun r=>match r == 3 with|true=>.inv [.map 0 .str false (.int .i64),.val 12 false (.int .i64)]|false=>.none,fun _ _=>none,fun _=>none⟩|false=>aU
theorem AOC:aF Tryz.prog AH5:=aF.nil _
def AIY (a0:aC) (R:T→Prop):Prop :=
 b8 Sy.str false (Sy.int IntKind.i64) [] fun (y0:List (ByteArray×Int)) =>
 bB (List (ByteArray×Int)×Int×PUnit)
 (fun (X1:List (ByteArray×Int)×Int×PUnit→Prop) (s2:List (ByteArray×Int)×Int×PUnit) =>
 aB (decide (s2.2.1<(↑a0.2.2.1.length:Int)))
 (aP aQ (List.map aQ.enc a0.2.2.1) s2.2.1 fun (y3:bE) =>
 dT TypeDesc.string (Value.string y3.1)
 (List.map (bG Sy.str false (Sy.int IntKind.i64)) s2.1) false
 (Sy.int IntKind.i64)
 (aP aQ (List.map aQ.enc a0.2.2.1) s2.2.1 fun (y7:bE) =>
 iU (Option (Nat×D))
 (findD TypeDesc.string (Value.string y7.1)
 (List.map (bG Sy.str false (Sy.int IntKind.i64)) s2.1) 0)
 fun (y8:Option (Nat×D)) =>
 b8 Sy.str false (Sy.int IntKind.i64)
 (cK (List.map (bG Sy.str false (Sy.int IntKind.i64)) s2.1) y8
 (Value.string y7.1) (D.p (T.v (.int .i64 s2.2.1))))
 fun (y9:List (ByteArray×Int))=>X1 (y9,IntKind.i64.wrap (s2.2.1+1),()))
 fun (i4:Nat) (y5:Int) =>
 b8 Sy.str false (Sy.int IntKind.i64)
 (List.map (bG Sy.str false (Sy.int IntKind.i64)) s2.1)
 fun (y6:List (ByteArray×Int))=>X1 (y6,IntKind.i64.wrap (s2.2.1+1),()))
 (bO
 ((List.map (bG Sy.str false (Sy.int IntKind.i64)) s2.1).all
 fun (e:Value×D)=>AGE e.2)
 (R
 (T.mp
 (List.map (fun (e:Value×D)=>(e.1,QJ e.2))
 (List.map (bG Sy.str false (Sy.int IntKind.i64)) s2.1))))))
 (y0,0,())
theorem AIZ ( a0 R):qZ aV Tryz.prog AH5 AQ9 8 89 (oT a0) R=AIY a0 R:=by kernel_rfl
def AA8 (d:aC):Option (List (ByteArray×Int)):=mY d.2.2.1 (fG (ids d.2.2.1))
theorem ADO (d d':aC) (h:oT d=oT d'):d=d':=by
 unfold oT at h
 simp only[List.cons.injEq,T.fn.injEq,T.ref.injEq,and_true,true_and] at h
 exact Sy.cS aN _ _ h.2
noncomputable def TY:List T→Option (List (ByteArray×Int)):=gA (fun (x:aC)=>oT x) AA8
theorem AK9 (a0:aC):TY (oT a0)=AA8 a0:=j1 (A:=(fun (x:aC)=>oT x)) ADO a0
theorem ATX (h:∀ (a0:aC) (r:List (ByteArray×Int)),AA8 a0=some r→(∀ t∈oT a0,Bd t)→AIY a0 (fun y=>y = .mp (a8 r))):iB Tryz.prog 89 (oI TY) :=
 xH (E:=AH5) (Hs:=AQ9) AOC a6 a7 (aM rfl) 8 ⟨_,_,Tryz.func89,rfl⟩ fun x r h1 h2=>by
  rw[AIZ]
  exact h x r h1 h2
theorem ASQ:iB Tryz.prog 89 (oI TY):=ATX fun d r h hb=>by
 obtain ⟨hl,rfl⟩:=gP h
 unfold AIY
 exact EG (r:=aQ.tl) (l:=d.2.2.1) hl
def oU (a0:aC):List T:=[T.v (.int .i64 (a0.2.2.2.1.length:Int)),T.fn 92 [] [T.ref [T.ref (aN.enc a0)]]]
noncomputable def AH6:Env:=Env.of []
def ARA:FuncId→Hint:=fun f=>match f == 89 with|true=>⟨fun r=>match r == 3 with|true=>.inv [.map 0 .str false (.int .i64),.val 12 false (.int .i64)]|false=>.none,fun _ _=>none,fun _=>none⟩|false=>aU
theorem AOD:aF Tryz.prog AH6:=aF.nil _
def AI0 (a0:aC) (R:T→Prop):Prop :=
 b8 Sy.str false (Sy.int IntKind.i64) [] fun (y0:List (ByteArray×Int)) =>
 bB (List (ByteArray×Int)×Int×PUnit)
 (fun (X1:List (ByteArray×Int)×Int×PUnit→Prop) (s2:List (ByteArray×Int)×Int×PUnit) =>
 aB (decide (s2.2.1<(↑a0.2.2.2.1.length:Int)))
 (aP bT (List.map bT.enc a0.2.2.2.1) s2.2.1 fun (y3:cN) =>
 dT TypeDesc.string (Value.string y3.1)
 (List.map (bG Sy.str false (Sy.int IntKind.i64)) s2.1) false
 (Sy.int IntKind.i64)
 (aP bT (List.map bT.enc a0.2.2.2.1) s2.2.1 fun (y7:cN) =>
 iU (Option (Nat×D))
 (findD TypeDesc.string (Value.string y7.1)
 (List.map (bG Sy.str false (Sy.int IntKind.i64)) s2.1) 0)
 fun (y8:Option (Nat×D)) =>
 b8 Sy.str false (Sy.int IntKind.i64)
 (cK (List.map (bG Sy.str false (Sy.int IntKind.i64)) s2.1) y8
 (Value.string y7.1) (D.p (T.v (.int .i64 s2.2.1))))
 fun (y9:List (ByteArray×Int))=>X1 (y9,IntKind.i64.wrap (s2.2.1+1),()))
 fun (i4:Nat) (y5:Int) =>
 b8 Sy.str false (Sy.int IntKind.i64)
 (List.map (bG Sy.str false (Sy.int IntKind.i64)) s2.1)
 fun (y6:List (ByteArray×Int))=>X1 (y6,IntKind.i64.wrap (s2.2.1+1),()))
 (bO
 ((List.map (bG Sy.str false (Sy.int IntKind.i64)) s2.1).all
 fun (e:Value×D)=>AGE e.2)
 (R
 (T.mp
 (List.map (fun (e:Value×D)=>(e.1,QJ e.2))
 (List.map (bG Sy.str false (Sy.int IntKind.i64)) s2.1))))))
 (y0,0,())
theorem AI1 ( a0 R):qZ aV Tryz.prog AH6 ARA 8 89 (oU a0) R=AI0 a0 R:=by kernel_rfl
def AA9 (d:aC):Option (List (ByteArray×Int)):=mY d.2.2.2.1 (fG (ids d.2.2.2.1))
theorem ADP (d d':aC) (h:oU d=oU d'):d=d':=by
 unfold oU at h
 simp only[List.cons.injEq,T.fn.injEq,T.ref.injEq,and_true,true_and] at h
 exact Sy.cS aN _ _ h.2
noncomputable def TZ:List T→Option (List (ByteArray×Int)):=gA (fun (x:aC)=>oU x) AA9
theorem ALA (a0:aC):TZ (oU a0)=AA9 a0:=j1 (A:=(fun (x:aC)=>oU x)) ADP a0
theorem ATY (h:∀ (a0:aC) (r:List (ByteArray×Int)),AA9 a0=some r→(∀ t∈oU a0,Bd t)→AI0 a0 (fun y=>y = .mp (a8 r))):iB Tryz.prog 89 (oI TZ) :=
 xH (E:=AH6) (Hs:=ARA) AOD a6 a7 (aM rfl) 8 ⟨_,_,Tryz.func89,rfl⟩ fun x r h1 h2=>by
  rw[AI1]
  exact h x r h1 h2
theorem ASR:iB Tryz.prog 89 (oI TZ):=ATY fun d r h hb=>by
 obtain ⟨hl,rfl⟩:=gP h
 unfold AI0
 exact EG (r:=bT.tl) (l:=d.2.2.2.1) hl
def oV (a0:aC):List T:=[T.v (.int .i64 (a0.2.2.2.2.1.length:Int)),T.fn 93 [] [T.ref [T.ref (aN.enc a0)]]]
noncomputable def AH7:Env:=Env.of []
def ARB:FuncId→Hint:=fun f=>match f == 89 with|true=>⟨fun r=>match r == 3 with|true=>.inv [.map 0 .str false (.int .i64),.val 12 false (.int .i64)]|false=>.none,fun _ _=>none,fun _=>none⟩|false=>aU
theorem AOE:aF Tryz.prog AH7:=aF.nil _
def AI2 (a0:aC) (R:T→Prop):Prop :=
 b8 Sy.str false (Sy.int IntKind.i64) [] fun (y0:List (ByteArray×Int)) =>
 bB (List (ByteArray×Int)×Int×PUnit)
 (fun (X1:List (ByteArray×Int)×Int×PUnit→Prop) (s2:List (ByteArray×Int)×Int×PUnit) =>
 aB (decide (s2.2.1<(↑a0.2.2.2.2.1.length:Int)))
 (aP aW (List.map aW.enc a0.2.2.2.2.1) s2.2.1
 fun (y3:eP) =>
 dT TypeDesc.string (Value.string y3.1)
 (List.map (bG Sy.str false (Sy.int IntKind.i64)) s2.1) false
 (Sy.int IntKind.i64)
 (aP aW (List.map aW.enc a0.2.2.2.2.1) s2.2.1
 fun (y7:eP) =>
 iU (Option (Nat×D))
 (findD TypeDesc.string (Value.string y7.1)
 (List.map (bG Sy.str false (Sy.int IntKind.i64)) s2.1) 0)
 fun (y8:Option (Nat×D)) =>
 b8 Sy.str false (Sy.int IntKind.i64)
 (cK (List.map (bG Sy.str false (Sy.int IntKind.i64)) s2.1) y8
 (Value.string y7.1) (D.p (T.v (.int .i64 s2.2.1))))
 fun (y9:List (ByteArray×Int))=>X1 (y9,IntKind.i64.wrap (s2.2.1+1),()))
 fun (i4:Nat) (y5:Int) =>
 b8 Sy.str false (Sy.int IntKind.i64)
 (List.map (bG Sy.str false (Sy.int IntKind.i64)) s2.1)
 fun (y6:List (ByteArray×Int))=>X1 (y6,IntKind.i64.wrap (s2.2.1+1),()))
 (bO
 ((List.map (bG Sy.str false (Sy.int IntKind.i64)) s2.1).all
 fun (e:Value×D)=>AGE e.2)
 (R
 (T.mp
 (List.map (fun (e:Value×D)=>(e.1,QJ e.2))
 (List.map (bG Sy.str false (Sy.int IntKind.i64)) s2.1))))))
 (y0,0,())
theorem AI3 ( a0 R):qZ aV Tryz.prog AH7 ARB 8 89 (oV a0) R=AI2 a0 R:=by kernel_rfl
def ABA (d:aC):Option (List (ByteArray×Int)):=mY d.2.2.2.2.1 (fG (ids d.2.2.2.2.1))
theorem ADQ (d d':aC) (h:oV d=oV d'):d=d':=by
 unfold oV at h
 simp only[List.cons.injEq,T.fn.injEq,T.ref.injEq,and_true,true_and] at h
 exact Sy.cS aN _ _ h.2
noncomputable def T0:List T→Option (List (ByteArray×Int)):=gA (fun (x:aC)=>oV x) ABA
theorem ALB (a0:aC):T0 (oV a0)=ABA a0:=j1 (A:=(fun (x:aC)=>oV x)) ADQ a0
theorem ATZ (h:∀ (a0:aC) (r:List (ByteArray×Int)),ABA a0=some r→(∀ t∈oV a0,Bd t)→AI2 a0 (fun y=>y = .mp (a8 r))):iB Tryz.prog 89 (oI T0) :=
 xH (E:=AH7) (Hs:=ARB) AOE a6 a7 (aM rfl) 8 ⟨_,_,Tryz.func89,rfl⟩ fun x r h1 h2=>by
  rw[AI3]
  exact h x r h1 h2
theorem ASS:iB Tryz.prog 89 (oI T0):=ATZ fun d r h hb=>by
 obtain ⟨hl,rfl⟩:=gP h
 unfold AI2
 exact EG (r:=aW.tl) (l:=d.2.2.2.2.1) hl
end Go.Pv
namespace Go.Pv
open Go Go.Proofs
def orG {α:Type} (g1 g2:List T→Option α) (a:List T):Option α:=match g1 a with
 | some r=>some r
 | none=>g2 a
theorem I3 {α:Type} {g1 g2:List T→Option α} {a:List T} {r:α} (h:g1 a=some r):orG g1 g2 a=some r:=by unfold orG;rw[h]
theorem lT {α:Type} {g1 g2:List T→Option α} {a:List T} (h:g1 a=none):orG g1 g2 a=g2 a:=by unfold orG;rw[h]
theorem MA {α:Type} {g1 g2:List T→Option α} {a:List T} {r:α} (h:orG g1 g2 a=some r):g1 a=some r∨g2 a=some r:=by
 unfold orG at h
 split at h
 ·rename_i r' h1;cases h;exact .inl h1
 ·exact .inr h
theorem aJ.or {P:Program} {f:FuncId} {g1 g2:List T→Option T} (h1:aJ P f g1) (h2:aJ P f g2):aJ P f (orG g1 g2):=⟨h1.entry,fun w own args vs r hG ho ha hr=>by
 rcases MA hr with h|h
 ·exact h1.calls w own args vs r hG ho ha h
 ·exact h2.calls w own args vs r hG ho ha h⟩
theorem iB.orM {P:Program} {f:FuncId} {g1 g2:List T→Option (List (ByteArray×Int))} (h1:iB P f (oI g1)) (h2:iB P f (oI g2)):iB P f (oI (orG g1 g2)):=⟨h1.entry,fun w own args vs r hG ho ha hr=>by
 simp only[oI,Option.map_eq_some_iff] at hr
 obtain ⟨es,h,rfl⟩:=hr
 rcases MA h with h|h
 ·exact h1.calls w own args vs _ hG ho ha (by simp[oI,h])
 ·exact h2.calls w own args vs _ hG ho ha (by simp[oI,h])⟩
noncomputable def AF2:List T→Option (List (ByteArray×Int)):=orG TX (orG TY (orG TZ T0))
theorem AVL:iB Tryz.prog 89 (oI AF2):=.orM ASP (.orM ASQ (.orM ASR ASS))
theorem fB {α X:Type} {A:X→List T} {sp:X→Option α} {args:List T} (h:∀ x,args≠A x):gA A sp args=none:=by
 unfold gA;rw[dif_neg];rintro ⟨x,hx⟩;exact h x hx
def oH:List ByteArray→Bool
 | a::b::l=>!(fR b a||decide (b=a))&&oH (b::l)
 | _=>true
theorem AJ4 {l:List ByteArray} {k:Nat} (h:k+1<l.length):oH (l.drop k)=(!(fR l[k+1] l[k]||decide (l[k+1]=l[k]))&&oH (l.drop (k+1))):=by
 rw[List.drop_eq_getElem_cons (show k<l.length by omega),List.drop_eq_getElem_cons h,oH]
theorem AOV {l:List ByteArray} {k:Nat} (h:l.length≤k+1):oH (l.drop k)=true:=by
 rcases Nat.lt_or_ge k l.length with h1|h1
 ·rw[List.drop_eq_getElem_cons h1,List.drop_eq_nil_of_le h];rfl
 ·rw[List.drop_eq_nil_of_le h1];rfl
theorem yF {r:Sy} {p:r.den→ByteArray} {l:List r.den} (hl:l.length≤140737488355328) {R:T→Prop} (hR:R (T.v (.bool (oH (l.map p))))) :
 bB (Int×PUnit)
 (fun (X0:Int×PUnit→Prop) (s1:Int×PUnit) =>
  aB (decide (s1.1<(↑l.length:Int)))
   (aP r (List.map r.enc l) s1.1 fun (y2:r.den) =>
    aP r (List.map r.enc l) (IntKind.i64.wrap (s1.1-1))
     fun (y3:r.den) =>
     aB (fR (p y2) (p y3)||decide (p y2=p y3)) (R (T.v (.bool false)))
      (X0 (IntKind.i64.wrap (s1.1+1),())))
   (R (T.v (.bool true))))
 (1,()):=by
 refine aY l.length (fun k s=>s=(((k+1:Nat):Int),())∧oH (l.map p)=oH ((l.map p).drop k)) ⟨rfl,by rw[List.drop_zero]⟩ ?_
 rintro X k s hk ⟨rfl,he⟩ hX
 dsimp only
 have hw:IntKind.i64.wrap (((k+1:Nat):Int)+1)=((k+1+1:Nat):Int):=aO _ (by omega) (by omega)
 have hw1:IntKind.i64.wrap (((k+1:Nat):Int)-1)=((k:Nat):Int):=by rw[aO _ (by omega) (by omega)];omega
 by_cases hlt:k+1<l.length
 ·refine cJ (by omega) ?_
  rw[aT hlt,hw1,aT (show k<l.length by omega)]
  rw[AJ4 (by rw[List.length_map];exact hlt)] at he
  rw[List.getElem_map,List.getElem_map] at he
  cases hc:(fR (p l[k+1]) (p l[k])||decide (p l[k+1]=p l[k])) with
  | true =>
   rw[dE]
   rw[hc,Bool.not_true,Bool.false_and] at he
   rwa[he] at hR
  | false =>
   rw[eA]
   rw[hc,Bool.not_false,Bool.true_and] at he
   exact hX _ (by omega) ⟨by rw[hw],he⟩
 ·refine cV (by omega) ?_
  rw[AOV (by rw[List.length_map];omega)] at he
  rwa[he] at hR
def nR (a0:List ByteArray):List T:=[T.v (.int .i64 (a0.length:Int)),T.fn 144 [] [T.ref [T.sl false (List.map Sy.str.enc a0)]]]
noncomputable def AIE:Env:=Env.of []
def ARI:FuncId→Hint:=fun f=>match f == 94 with|true=>⟨fun r=>match r == 2 with|true=>.inv [.val 5 false (.int .i64)]|false=>.none,fun _ _=>none,fun _=>none⟩|false=>aU
theorem AOL:aF Tryz.prog AIE:=aF.nil _
def AJG (a0:List ByteArray) (R:T→Prop):Prop :=
 bB (Int×PUnit)
 (fun (X0:Int×PUnit→Prop) (s1:Int×PUnit) =>
 aB (decide (s1.1<(↑a0.length:Int)))
 (aP Sy.str (List.map Sy.str.enc a0) s1.1 fun (y2:ByteArray) =>
 aP Sy.str (List.map Sy.str.enc a0) (IntKind.i64.wrap (s1.1-1))
 fun (y3:ByteArray) =>
 aB (fR y2 y3||decide (y2=y3)) (R (T.v (.bool false)))
 (X0 (IntKind.i64.wrap (s1.1+1),())))
 (R (T.v (.bool true))))
 (1,())
theorem AJH ( a0 R):bJ aV Tryz.prog AIE ARI 8 94 (nR a0) R=AJG a0 R:=by kernel_rfl
def ABG (l:List ByteArray):Option T:=mY l (T.v (.bool (oH l)))
theorem ADV (d d':List ByteArray) (h:nR d=nR d'):d=d':=by
 unfold nR at h
 simp only[List.cons.injEq,T.fn.injEq,T.ref.injEq,and_true,true_and,T.sl.injEq] at h
 exact map_inj (Sy.cS .str) h.2
noncomputable def UM:List T→Option (T):=gA (fun (x:List ByteArray)=>nR x) ABG
theorem ALI (a0:List ByteArray):UM (nR a0)=ABG a0:=j1 (A:=(fun (x:List ByteArray)=>nR x)) ADV a0
theorem AT6 (h:∀ (a0:List ByteArray) (r:T),ABG a0=some r→(∀ t∈nR a0,Bd t)→AJG a0 (fun y=>y=r)):aJ Tryz.prog 94 UM :=
 eC (E:=AIE) (Hs:=ARI) AOL a6 a7 (aM rfl) 8 ⟨_,_,Tryz.func94,rfl⟩ fun x r h1 h2=>by
  rw[AJH]
  exact h x r h1 h2
theorem ASZ:aJ Tryz.prog 94 UM:=AT6 fun l r h hb=>by
 obtain ⟨hl,rfl⟩:=gP h
 unfold AJG
 exact yF (r:=.str) (p:=fun y=>y) (R:=fun y=>y=T.v (.bool (oH l))) hl (by simp)
def nN (a0:aC):List T:=[T.v (.int .i64 (a0.2.1.length:Int)),T.fn 95 [] [T.ref [T.ref (aN.enc a0)]]]
noncomputable def AIA:Env:=Env.of []
def ARE:FuncId→Hint:=fun f=>match f == 94 with|true=>⟨fun r=>match r == 2 with|true=>.inv [.val 5 false (.int .i64)]|false=>.none,fun _ _=>none,fun _=>none⟩|false=>aU
theorem AOH:aF Tryz.prog AIA:=aF.nil _
def AI8 (a0:aC) (R:T→Prop):Prop :=
 bB (Int×PUnit)
 (fun (X0:Int×PUnit→Prop) (s1:Int×PUnit) =>
 aB (decide (s1.1<(↑a0.2.1.length:Int)))
 (aP bM (List.map bM.enc a0.2.1) s1.1 fun (y2:jW) =>
 aP bM (List.map bM.enc a0.2.1) (IntKind.i64.wrap (s1.1-1))
 fun (y3:jW) =>
 aB (fR y2.1 y3.1||decide (y2.1=y3.1)) (R (T.v (.bool false)))
 (X0 (IntKind.i64.wrap (s1.1+1),())))
 (R (T.v (.bool true))))
 (1,())
theorem AI9 ( a0 R):bJ aV Tryz.prog AIA ARE 8 94 (nN a0) R=AI8 a0 R:=by kernel_rfl
def ABC (d:aC):Option T:=mY d.2.1 (T.v (.bool (oH (ids d.2.1))))
theorem ADR (d d':aC) (h:nN d=nN d'):d=d':=by
 unfold nN at h
 simp only[List.cons.injEq,T.fn.injEq,T.ref.injEq,and_true,true_and] at h
 exact Sy.cS aN _ _ h.2
noncomputable def UI:List T→Option (T):=gA (fun (x:aC)=>nN x) ABC
theorem ALE (a0:aC):UI (nN a0)=ABC a0:=j1 (A:=(fun (x:aC)=>nN x)) ADR a0
theorem AT2 (h:∀ (a0:aC) (r:T),ABC a0=some r→(∀ t∈nN a0,Bd t)→AI8 a0 (fun y=>y=r)):aJ Tryz.prog 94 UI :=
 eC (E:=AIA) (Hs:=ARE) AOH a6 a7 (aM rfl) 8 ⟨_,_,Tryz.func94,rfl⟩ fun x r h1 h2=>by
  rw[AI9]
  exact h x r h1 h2
theorem ASV:aJ Tryz.prog 94 UI:=AT2 fun d r h hb=>by
 obtain ⟨hl,rfl⟩:=gP h
 unfold AI8
 exact yF (r:=bM) (p:=fun y=>y.1) (R:=fun y=>y=T.v (.bool (oH (ids d.2.1)))) hl rfl
def nO (a0:aC):List T:=[T.v (.int .i64 (a0.2.2.1.length:Int)),T.fn 96 [] [T.ref [T.ref (aN.enc a0)]]]
noncomputable def AIB:Env:=Env.of []
def ARF:FuncId→Hint:=fun f=>match f == 94 with|true=>⟨fun r=>match r == 2 with|true=>.inv [.val 5 false (.int .i64)]|false=>.none,fun _ _=>none,fun _=>none⟩|false=>aU
theorem AOI:aF Tryz.prog AIB:=aF.nil _
def AJA (a0:aC) (R:T→Prop):Prop :=
 bB (Int×PUnit)
 (fun (X0:Int×PUnit→Prop) (s1:Int×PUnit) =>
 aB (decide (s1.1<(↑a0.2.2.1.length:Int)))
 (aP aQ (List.map aQ.enc a0.2.2.1) s1.1 fun (y2:bE) =>
 aP aQ (List.map aQ.enc a0.2.2.1) (IntKind.i64.wrap (s1.1-1))
 fun (y3:bE) =>
 aB (fR y2.1 y3.1||decide (y2.1=y3.1)) (R (T.v (.bool false)))
 (X0 (IntKind.i64.wrap (s1.1+1),())))
 (R (T.v (.bool true))))
 (1,())
theorem AJB ( a0 R):bJ aV Tryz.prog AIB ARF 8 94 (nO a0) R=AJA a0 R:=by kernel_rfl
def ABD (d:aC):Option T:=mY d.2.2.1 (T.v (.bool (oH (ids d.2.2.1))))
theorem ADS (d d':aC) (h:nO d=nO d'):d=d':=by
 unfold nO at h
 simp only[List.cons.injEq,T.fn.injEq,T.ref.injEq,and_true,true_and] at h
 exact Sy.cS aN _ _ h.2
noncomputable def UJ:List T→Option (T):=gA (fun (x:aC)=>nO x) ABD
theorem ALF (a0:aC):UJ (nO a0)=ABD a0:=j1 (A:=(fun (x:aC)=>nO x)) ADS a0
theorem AT3 (h:∀ (a0:aC) (r:T),ABD a0=some r→(∀ t∈nO a0,Bd t)→AJA a0 (fun y=>y=r)):aJ Tryz.prog 94 UJ :=
 eC (E:=AIB) (Hs:=ARF) AOI a6 a7 (aM rfl) 8 ⟨_,_,Tryz.func94,rfl⟩ fun x r h1 h2=>by
  rw[AJB]
  exact h x r h1 h2
theorem ASW:aJ Tryz.prog 94 UJ:=AT3 fun d r h hb=>by
 obtain ⟨hl,rfl⟩:=gP h
 unfold AJA
 exact yF (r:=aQ) (p:=fun y=>y.1) (R:=fun y=>y=T.v (.bool (oH (ids d.2.2.1)))) hl rfl
def nP (a0:aC):List T:=[T.v (.int .i64 (a0.2.2.2.1.length:Int)),T.fn 97 [] [T.ref [T.ref (aN.enc a0)]]]
noncomputable def AIC:Env:=Env.of []
def ARG:FuncId→Hint:=fun f=>match f == 94 with|true=>⟨fun r=>match r == 2 with|true=>.inv [.val 5 false (.int .i64)]|false=>.none,fun _ _=>none,fun _=>none⟩|false=>aU
theorem AOJ:aF Tryz.prog AIC:=aF.nil _
def AJC (a0:aC) (R:T→Prop):Prop :=
 bB (Int×PUnit)
 (fun (X0:Int×PUnit→Prop) (s1:Int×PUnit) =>
 aB (decide (s1.1<(↑a0.2.2.2.1.length:Int)))
 (aP bT (List.map bT.enc a0.2.2.2.1) s1.1 fun (y2:cN) =>
 aP bT (List.map bT.enc a0.2.2.2.1) (IntKind.i64.wrap (s1.1-1))
 fun (y3:cN) =>
 aB (fR y2.1 y3.1||decide (y2.1=y3.1)) (R (T.v (.bool false)))
 (X0 (IntKind.i64.wrap (s1.1+1),())))
 (R (T.v (.bool true))))
 (1,())
theorem AJD ( a0 R):bJ aV Tryz.prog AIC ARG 8 94 (nP a0) R=AJC a0 R:=by kernel_rfl
def ABE (d:aC):Option T:=mY d.2.2.2.1 (T.v (.bool (oH (ids d.2.2.2.1))))
theorem ADT (d d':aC) (h:nP d=nP d'):d=d':=by
 unfold nP at h
 simp only[List.cons.injEq,T.fn.injEq,T.ref.injEq,and_true,true_and] at h
 exact Sy.cS aN _ _ h.2
noncomputable def UK:List T→Option (T):=gA (fun (x:aC)=>nP x) ABE
theorem ALG (a0:aC):UK (nP a0)=ABE a0:=j1 (A:=(fun (x:aC)=>nP x)) ADT a0
theorem AT4 (h:∀ (a0:aC) (r:T),ABE a0=some r→(∀ t∈nP a0,Bd t)→AJC a0 (fun y=>y=r)):aJ Tryz.prog 94 UK :=
 eC (E:=AIC) (Hs:=ARG) AOJ a6 a7 (aM rfl) 8 ⟨_,_,Tryz.func94,rfl⟩ fun x r h1 h2=>by
  rw[AJD]
  exact h x r h1 h2
theorem ASX:aJ Tryz.prog 94 UK:=AT4 fun d r h hb=>by
 obtain ⟨hl,rfl⟩:=gP h
 unfold AJC
 exact yF (r:=bT) (p:=fun y=>y.1) (R:=fun y=>y=T.v (.bool (oH (ids d.2.2.2.1)))) hl rfl
def nQ (a0:aC):List T:=[T.v (.int .i64 (a0.2.2.2.2.1.length:Int)),T.fn 98 [] [T.ref [T.ref (aN.enc a0)]]]
noncomputable def AID:Env:=Env.of []
def ARH:FuncId→Hint:=fun f=>match f == 94 with|true=>⟨fun r=>match r == 2 with|true=>.inv [.val 5 false (.int .i64)]|false=>.none,fun _ _=>none,fun _=>none⟩|false=>aU
theorem AOK:aF Tryz.prog AID:=aF.nil _
def AJE (a0:aC) (R:T→Prop):Prop :=
 bB (Int×PUnit)
 (fun (X0:Int×PUnit→Prop) (s1:Int×PUnit) =>
 aB (decide (s1.1<(↑a0.2.2.2.2.1.length:Int)))
 (aP aW (List.map aW.enc a0.2.2.2.2.1) s1.1
 fun (y2:eP) =>
 aP aW (List.map aW.enc a0.2.2.2.2.1)
 (IntKind.i64.wrap (s1.1-1)) fun (y3:eP) =>
 aB (fR y2.1 y3.1||decide (y2.1=y3.1)) (R (T.v (.bool false)))
 (X0 (IntKind.i64.wrap (s1.1+1),())))
 (R (T.v (.bool true))))
 (1,())
theorem AJF ( a0 R):bJ aV Tryz.prog AID ARH 8 94 (nQ a0) R=AJE a0 R:=by kernel_rfl
def ABF (d:aC):Option T:=mY d.2.2.2.2.1 (T.v (.bool (oH (ids d.2.2.2.2.1))))
theorem ADU (d d':aC) (h:nQ d=nQ d'):d=d':=by
 unfold nQ at h
 simp only[List.cons.injEq,T.fn.injEq,T.ref.injEq,and_true,true_and] at h
 exact Sy.cS aN _ _ h.2
noncomputable def UL:List T→Option (T):=gA (fun (x:aC)=>nQ x) ABF
theorem ALH (a0:aC):UL (nQ a0)=ABF a0:=j1 (A:=(fun (x:aC)=>nQ x)) ADU a0
theorem AT5 (h:∀ (a0:aC) (r:T),ABF a0=some r→(∀ t∈nQ a0,Bd t)→AJE a0 (fun y=>y=r)):aJ Tryz.prog 94 UL :=
 eC (E:=AID) (Hs:=ARH) AOK a6 a7 (aM rfl) 8 ⟨_,_,Tryz.func94,rfl⟩ fun x r h1 h2=>by
  rw[AJF]
  exact h x r h1 h2
theorem ASY:aJ Tryz.prog 94 UL:=AT5 fun d r h hb=>by
 obtain ⟨hl,rfl⟩:=gP h
 unfold AJE
 exact yF (r:=aW) (p:=fun y=>y.1) (R:=fun y=>y=T.v (.bool (oH (ids d.2.2.2.2.1)))) hl rfl
noncomputable def o9:List T→Option T:=orG UI (orG UJ (orG UK (orG UL UM)))
theorem ARP:aJ Tryz.prog 94 o9:=.or ASV (.or ASW (.or ASX (.or ASY ASZ)))
theorem AS1 {d:aC} (h:d.2.1.length≤140737488355328):AF2 (oS d)=some (fG (ids d.2.1)):=by
 have h1:TX (oS d)=some (fG (ids d.2.1)):=by rw[AK8];exact gQ _ h
 exact (I3 h1)
theorem AS5 {d:aC} (h:d.2.1.length≤140737488355328):o9 (nN d)=some (T.v (.bool (oH (ids d.2.1)))):=by
 have h1:UI (nN d)=some (T.v (.bool (oH (ids d.2.1)))):=by rw[ALE];exact gQ _ h
 exact (I3 h1)
theorem AS2 {d:aC} (h:d.2.2.1.length≤140737488355328):AF2 (oT d)=some (fG (ids d.2.2.1)):=by
 have h1:TY (oT d)=some (fG (ids d.2.2.1)):=by rw[AK9];exact gQ _ h
 exact ((lT (fB fun x h=>by simp[oS,oT] at h)).trans (I3 h1))
theorem AS6 {d:aC} (h:d.2.2.1.length≤140737488355328):o9 (nO d)=some (T.v (.bool (oH (ids d.2.2.1)))):=by
 have h1:UJ (nO d)=some (T.v (.bool (oH (ids d.2.2.1)))):=by rw[ALF];exact gQ _ h
 exact ((lT (fB fun x h=>by simp[nN,nO] at h)).trans (I3 h1))
theorem AS3 {d:aC} (h:d.2.2.2.1.length≤140737488355328):AF2 (oU d)=some (fG (ids d.2.2.2.1)):=by
 have h1:TZ (oU d)=some (fG (ids d.2.2.2.1)):=by rw[ALA];exact gQ _ h
 exact ((lT (fB fun x h=>by simp[oS,oU] at h)).trans ((lT (fB fun x h=>by simp[oT,oU] at h)).trans (I3 h1)))
theorem AS7 {d:aC} (h:d.2.2.2.1.length≤140737488355328):o9 (nP d)=some (T.v (.bool (oH (ids d.2.2.2.1)))):=by
 have h1:UK (nP d)=some (T.v (.bool (oH (ids d.2.2.2.1)))):=by rw[ALG];exact gQ _ h
 exact ((lT (fB fun x h=>by simp[nN,nP] at h)).trans ((lT (fB fun x h=>by simp[nO,nP] at h)).trans (I3 h1)))
theorem AS4 {d:aC} (h:d.2.2.2.2.1.length≤140737488355328):AF2 (oV d)=some (fG (ids d.2.2.2.2.1)):=by
 have h1:T0 (oV d)=some (fG (ids d.2.2.2.2.1)):=by rw[ALB];exact gQ _ h
 exact ((lT (fB fun x h=>by simp[oS,oV] at h)).trans ((lT (fB fun x h=>by simp[oT,oV] at h)).trans ((lT (fB fun x h=>by simp[oU,oV] at h)).trans h1)))
theorem AS8 {d:aC} (h:d.2.2.2.2.1.length≤140737488355328):o9 (nQ d)=some (T.v (.bool (oH (ids d.2.2.2.2.1)))):=by
 have h1:UL (nQ d)=some (T.v (.bool (oH (ids d.2.2.2.2.1)))):=by rw[ALH];exact gQ _ h
 exact ((lT (fB fun x h=>by simp[nN,nQ] at h)).trans ((lT (fB fun x h=>by simp[nO,nQ] at h)).trans ((lT (fB fun x h=>by simp[nP,nQ] at h)).trans (I3 h1))))
theorem ALJ {l:List ByteArray} (h:l.length≤140737488355328):o9 (nR l)=some (T.v (.bool (oH l))):=by
 have h1:UM (nR l)=some (T.v (.bool (oH l))):=by rw[ALI];exact gQ _ h
 exact ((lT (fB fun x h=>by simp[nN,nR] at h)).trans ((lT (fB fun x h=>by simp[nO,nR] at h)).trans ((lT (fB fun x h=>by simp[nP,nR] at h)).trans ((lT (fB fun x h=>by simp[nQ,nR] at h)).trans h1))))
abbrev JU (d:aC) (m1 m2 m3 m4:List (ByteArray×Int)):T:=T.ref [T.ref (aN.enc d),T.mp (a8 m1),T.mp (a8 m2),T.mp (a8 m3),T.mp (a8 m4)]
end Go.Pv
namespace Go.Pv
open Go Go.Proofs
abbrev q_b:Sh:=[(false,.bool)]
abbrev AUC:Sh:=[(false,.li .str)]
def sW (x:ByteArray×ByteArray):Option T:=match decide (x.1.size<4294967281),decide (1≤x.2.size) with
 | true,true=>some (Sh.enc AUC (Lib.splitB x.2 0 (Lib.countB x.1 x.2) x.1))
 | _,_=>none
noncomputable def pB:List T→Option T:=gS [(false,.str),(false,.str)] sW
theorem UO {a b:ByteArray}:pB [T.v (.string a),T.v (.string b)]=sW (a,b):=bH (s:=[(false,.str),(false,.str)]) rfl (a,b) rfl
theorem AFU:aJ Tryz.prog 142 pB:=by
 refine ⟨HS.entry,fun w own args vs r hG ho ha hg=>?_⟩
 obtain ⟨⟨a,b⟩,rfl,hx⟩:=xL hg
 unfold sW at hx
 split at hx
 ·rename_i h1 h2
  cases hx
  have hs:AR [.v (.string a),.v (.string b)]=some (.sl true ((Lib.splitB b 0 (Lib.countB a b) a).map fun x=>[.v (.string x)])):=by
   unfold AR
   simp only[h1,h2]
  refine (HS.calls w own _ vs _ hG ho ha hs).mono ?_
  rintro e w' ⟨v,rfl,hr,hb⟩
  exact ⟨v,rfl,hr.canon 0,hb⟩
 ·cases hx
end Go.Pv
namespace Go.Pv
open Go Go.Proofs
def nY (n:Int):Bool:=(decide (97≤n)&&decide (n≤122))||(decide (65≤n)&&decide (n≤90))
def vO (n:Int):Bool:=decide (48≤n)&&decide (n≤57)
def nameAt (i:Nat) (b:UInt8):Bool:=nY b.toNat||(decide (i≠0)&&(vO b.toNat||decide ((b.toNat:Int)=95)||decide ((b.toNat:Int)=45)))
def isName (s:ByteArray):Bool:=decide (s.size≠0)&&decide (s.size≤16)&&(List.range s.size).all fun i=>match s.data[i]? with|some b=>nameAt i b|none=>true
def V6 (s:ByteArray):Option T:=some (Sh.enc q_b (isName s))
abbrev uG:=V6
def AQ4 (l:List ByteArray):Int:=(l.length:Int)-1+lL l
def AWJ (s:ByteArray):Option T:=match decide (s.size≤1099511627776) with
 | true=>some (Sh.enc AUC (cW s))
 | false=>none
def sV (l:List ByteArray):Option T:=match decide (l.length≤65)&&decide (lL l≤64) with
 | true=>some (Sh.enc q_b (l.all isName&&(decide (1≤l.length)&&decide (l.length≤8)&&decide (AQ4 l≤64))))
 | false=>none
def oJ (s:ByteArray):Bool:=decide (s.size≤64)&&decide ((cW s).length≤8)&&(cW s).all isName
def E2 (s:ByteArray):Option T:=some (Sh.enc q_b (oJ s))
theorem gV {n:Nat} {f:Nat→Bool}:(List.range n).all f=true↔∀ i,i<n→f i=true:=by simp
theorem AGD {s:ByteArray} (h0:s.size≠0) (h1:s.size≤16) (h2:∀ i b,s.data[i]? = some b→nameAt i b=true):isName s=true:=by
 unfold isName
 simp only[h0,h1,decide_true,Bool.true_and,Bool.and_eq_true,gV,ne_eq,not_false_eq_true,true_and]
 intro i hi
 split
 ·rename_i b hb;exact h2 i b hb
 ·rfl
theorem wB {s:ByteArray} (h:s.size=0∨16<s.size∨∃ i b,s.data[i]? = some b∧nameAt i b=false):isName s=false:=by
 rw[Bool.eq_false_iff]
 intro hn
 unfold isName at hn
 simp only[Bool.and_eq_true,gV,decide_eq_true_eq] at hn
 rcases h with h|h|⟨i,b,hb,hf⟩
 ·exact hn.1.1 h
 ·have:=hn.1.2;omega
 ·have hi:i<s.size:=(Array.getElem?_eq_some_iff.1 hb).1
  have:=hn.2 i hi
  rw[hb] at this
  simp only[hf] at this
  cases this
theorem U9 (b:UInt8):nameAt 0 b=nY b.toNat:=by simp[nameAt]
theorem ACB {s:ByteArray}:s = { data:=#[] }↔s.size=0:=⟨fun e=>by subst e;rfl,fun e=>ByteArray.ext (Array.eq_empty_of_size_eq_zero e)⟩
noncomputable def FF:Env:=Env.of []
def RW:FuncId→Hint:=fun f=>match f == 45 with|true=>⟨fun r=>match r == 4 with|true=>.inv [.iG 0]|false=>.none,fun i j=>match i == 6&&j == 6 with|true=>some [.val 5 false .bool,.fix 0]|false=>match i == 7&&j == 7 with|true=>some [.val 6 false .bool,.fix 0]|false=>none,fun _=>none⟩|false=>aU
theorem W8:aF Tryz.prog FF:=aF.nil _
def F5 (a0:ByteArray) (R:T→Prop):Prop :=
 aB (decide (a0 = { data:=#[] })) (R (T.v (.bool false)))
 (aB (decide (16<(↑(ByteArray.size a0):Int))) (R (T.v (.bool false)))
 (bB ((ByteArray×Nat)×PUnit)
 (fun (X0:(ByteArray×Nat)×PUnit→Prop) (s1:(ByteArray×Nat)×PUnit) =>
 aB (decide (s1.1.2<s1.1.1.size))
 (kB (Bool×PUnit×PUnit)
 (fun (X2:Bool×PUnit×PUnit→Prop) =>
 aB (decide (65≤(↑(Utf8.decode s1.1.1 s1.1.2).1:Int)))
 (aB (decide ((↑(Utf8.decode s1.1.1 s1.1.2).1:Int)≤90))
 (eJ (aS.iG s1.1.1 (s1.1.2+(Utf8.decode s1.1.1 s1.1.2).2))
 (aS.iG s1.1.1 (s1.1.2+(Utf8.decode s1.1.1 s1.1.2).2))
 (X2 (true,(),())))
 (aB (decide (97≤(↑(Utf8.decode s1.1.1 s1.1.2).1:Int)))
 (eJ (aS.iG s1.1.1 (s1.1.2+(Utf8.decode s1.1.1 s1.1.2).2))
 (aS.iG s1.1.1 (s1.1.2+(Utf8.decode s1.1.1 s1.1.2).2))
 (X2 (decide ((↑(Utf8.decode s1.1.1 s1.1.2).1:Int)≤122),(),())))
 (eJ (aS.iG s1.1.1 (s1.1.2+(Utf8.decode s1.1.1 s1.1.2).2))
 (aS.iG s1.1.1 (s1.1.2+(Utf8.decode s1.1.1 s1.1.2).2))
 (X2 (false,(),())))))
 (aB (decide (97≤(↑(Utf8.decode s1.1.1 s1.1.2).1:Int)))
 (eJ (aS.iG s1.1.1 (s1.1.2+(Utf8.decode s1.1.1 s1.1.2).2))
 (aS.iG s1.1.1 (s1.1.2+(Utf8.decode s1.1.1 s1.1.2).2))
 (X2 (decide ((↑(Utf8.decode s1.1.1 s1.1.2).1:Int)≤122),(),())))
 (eJ (aS.iG s1.1.1 (s1.1.2+(Utf8.decode s1.1.1 s1.1.2).2))
 (aS.iG s1.1.1 (s1.1.2+(Utf8.decode s1.1.1 s1.1.2).2))
 (X2 (false,(),())))))
 fun (s3:Bool×PUnit×PUnit) =>
 kB (Bool×PUnit×PUnit)
 (fun (X4:Bool×PUnit×PUnit→Prop) =>
 aB (decide (48≤(↑(Utf8.decode s1.1.1 s1.1.2).1:Int)))
 (aB (decide ((↑(Utf8.decode s1.1.1 s1.1.2).1:Int)≤57))
 (eJ (aS.iG s1.1.1 (s1.1.2+(Utf8.decode s1.1.1 s1.1.2).2))
 (aS.iG s1.1.1 (s1.1.2+(Utf8.decode s1.1.1 s1.1.2).2))
 (X4 (true,(),())))
 (aB (decide ((↑(Utf8.decode s1.1.1 s1.1.2).1:Int)=95))
 (eJ (aS.iG s1.1.1 (s1.1.2+(Utf8.decode s1.1.1 s1.1.2).2))
 (aS.iG s1.1.1 (s1.1.2+(Utf8.decode s1.1.1 s1.1.2).2))
 (X4 (true,(),())))
 (eJ (aS.iG s1.1.1 (s1.1.2+(Utf8.decode s1.1.1 s1.1.2).2))
 (aS.iG s1.1.1 (s1.1.2+(Utf8.decode s1.1.1 s1.1.2).2))
 (X4 (decide ((↑(Utf8.decode s1.1.1 s1.1.2).1:Int)=45),(),())))))
 (aB (decide ((↑(Utf8.decode s1.1.1 s1.1.2).1:Int)=95))
 (eJ (aS.iG s1.1.1 (s1.1.2+(Utf8.decode s1.1.1 s1.1.2).2))
 (aS.iG s1.1.1 (s1.1.2+(Utf8.decode s1.1.1 s1.1.2).2))
 (X4 (true,(),())))
 (eJ (aS.iG s1.1.1 (s1.1.2+(Utf8.decode s1.1.1 s1.1.2).2))
 (aS.iG s1.1.1 (s1.1.2+(Utf8.decode s1.1.1 s1.1.2).2))
 (X4 (decide ((↑(Utf8.decode s1.1.1 s1.1.2).1:Int)=45),(),())))))
 fun (s5:Bool×PUnit×PUnit) =>
 aB (!s3.1)
 (aB (decide ((↑s1.1.2:Int)=0)) (R (T.v (.bool false)))
 (aB (!s5.1) (R (T.v (.bool false)))
 (X0 ((s1.1.1,s1.1.2+(Utf8.decode s1.1.1 s1.1.2).2),()))))
 (X0 ((s1.1.1,s1.1.2+(Utf8.decode s1.1.1 s1.1.2).2),())))
 (R (T.v (.bool true))))
 ((a0,0),())))
theorem Q5 ( a0 R):bJ aV Tryz.prog FF RW 8 45 [aD false Sy.str a0] R=F5 a0 R:=by kernel_rfl
abbrev yI:Sh:=[(false,Sy.str)]
abbrev yC:Sh:=[(false,Sy.bool)]
theorem KQ (y:Sh.den yC) (K:Sh.den yC→Prop):aH yC (some (Sh.enc yC y)) K=K y:=kF rfl y K
noncomputable def dJ:List T→Option (T):=gS yI uG
theorem rY {a0}:dJ [T.v (.string a0)]=uG (a0):=bH (s:=yI) rfl (a0) rfl
theorem AGW (h:∀ a0 r,uG (a0)=some r→cR yI (a0)→F5 a0 (fun y=>y=r)):aJ Tryz.prog 45 dJ :=
 aX (E:=FF) (Hs:=RW) W8 a6 a7 (aM rfl) 8 ⟨_,_,Tryz.func45,rfl⟩ rfl fun x r h1 h2=>by
  let a0:=x
  rw[show Sh.cA yI (a0)=[aD false Sy.str a0] from rfl,Q5]
  exact h a0 r h1 h2
theorem UZ (c:Int) {K:Bool×PUnit×PUnit→Prop} (hX:K (nY c,(),())):kB (Bool×PUnit×PUnit) (fun X=>aB (decide (65≤c)) (aB (decide (c≤90)) (X (true,(),())) (aB (decide (97≤c)) (X (decide (c≤122),(),())) (X (false,(),())))) (aB (decide (97≤c)) (X (decide (c≤122),(),())) (X (false,(),())))) K:=by
 simp only[IB,mH]
 unfold nY at hX
 by_cases h1:65≤c<;>by_cases h2:c≤90<;>by_cases h3:97≤c<;>by_cases h4:c≤122<;>simp[h1,h2,h3,h4] at hX ⊢ <;> first|exact hX|omega
theorem OQ (c:Int) {K:Bool×PUnit×PUnit→Prop} (hX:K (vO c||decide (c=95)||decide (c=45),(),())):kB (Bool×PUnit×PUnit) (fun X=>aB (decide (48≤c)) (aB (decide (c≤57)) (X (true,(),())) (aB (decide (c=95)) (X (true,(),())) (X (decide (c=45),(),())))) (aB (decide (c=95)) (X (true,(),())) (X (decide (c=45),(),())))) K:=by
 simp only[IB,mH]
 unfold vO at hX
 by_cases h1:48≤c<;>by_cases h2:c≤57<;>by_cases h3:c=95<;>simp[h1,h2,h3] at hX ⊢ <;> first|exact hX|omega
theorem tI:aJ Tryz.prog 45 dJ:=AGW fun s r h hb=>by
 have h':some (Sh.enc q_b (isName s))=some r:=h
 cases h'
 clear h
 unfold F5
 by_cases h0:s.size=0
 ·exact cJ (ACB.2 h0) (by rw[wB (.inl h0)];rfl)
 refine cV (fun e=>h0 (ACB.1 e)) ?_
 by_cases h16:16<s.size
 ·exact cJ (by omega) (by rw[wB (.inr (.inl h16))];rfl)
 refine cV (by omega) ?_
 refine aY s.size (fun k t=>t=((s,k),())∧∀ i b,i<k→s.data[i]? = some b→nameAt i b=true) ⟨rfl,by simp⟩ ?_
 rintro X k t hk ⟨rfl,hno⟩ hX
 simp only[cD]
 by_cases hlt:k<s.size
 ·refine cJ hlt ?_
  have hb:s.data[k]? = some (s[k]'hlt):=by
   rw[Array.getElem?_eq_getElem hlt];rfl
  refine UZ (Utf8.decode s k).1 ?_
  refine OQ (Utf8.decode s k).1 ?_
  dsimp only
  have stop:nameAt k (s[k]'hlt)=false→T.v (.bool false)=Sh.enc q_b (isName s):=fun hn=>by rw[wB (.inr (.inr ⟨k,_,hb,hn⟩))];rfl
  by_cases hasc:(s[k]'hlt).toNat<128
  ·have hd:=decode_ascii s k hlt hasc
   have go:nameAt k (s[k]'hlt)=true→X ((s,k+(Utf8.decode s k).2),()):=fun hn=>by
    rw[hd]
    exact hX _ hlt ⟨rfl,fun i b' hi hb'=>by
     by_cases e:i=k
     ·subst e;rw[hb] at hb';cases hb';exact hn
     ·exact hno i b' (by omega) hb'⟩
   have e1:((Utf8.decode s k).1:Int)=((s[k]'hlt).toNat:Int):=by rw[hd]
   rw[e1]
   cases hl:nY ((s[k]'hlt).toNat:Int) with
   | true=>rw[Bool.not_true,eA];exact go (by simp[nameAt,hl])
   | false =>
    rw[Bool.not_false,dE]
    by_cases hk0:k=0
    ·exact cJ (by omega) (stop (by subst hk0;rw[U9];exact hl))
    ·refine cV (by omega) ?_
     cases hf:(vO ((s[k]'hlt).toNat:Int)||decide (((s[k]'hlt).toNat:Int)=95)||decide (((s[k]'hlt).toNat:Int)=45)) with
     | true=>rw[Bool.not_true,eA];exact go (by unfold nameAt;rw[hl,hf];simp[hk0])
     | false=>rw[Bool.not_false,dE];exact stop (by unfold nameAt;rw[hl,hf];simp)
  ·obtain ⟨hd1,hd2⟩:=decode_high s k hlt (by omega)
   have hl:nY ((Utf8.decode s k).1:Int)=false:=by
    unfold nY;simp;omega
   have hf:(vO ((Utf8.decode s k).1:Int)||decide (((Utf8.decode s k).1:Int)=95)||decide (((Utf8.decode s k).1:Int)=45))=false:=by
    unfold vO;simp;omega
   have hn:nameAt k (s[k]'hlt)=false:=by
    unfold nameAt nY vO;simp;omega
   rw[hl,hf,Bool.not_false,dE]
   by_cases hk0:k=0
   ·exact cJ (by omega) (stop hn)
   ·refine cV (by omega) ?_
    rw[dE]
    exact stop hn
 ·refine cV hlt ?_
  rw[AGD h0 (by omega) (fun i b h=>hno i b (by have:=(Array.getElem?_eq_some_iff.1 h).1;have:i<s.size:=this;omega) h)];rfl
noncomputable def M6:Env:=Env.of [(45,.pure dJ)]
def ABS:FuncId→Hint:=fun f=>match f == 141 with|true=>⟨fun r=>match r == 3 with|true=>.inv [.val 3 false (.int .i64),.val 11 false (.int .i64)]|false=>.none,fun _ _=>none,fun _=>none⟩|false=>aU
theorem ADZ:aF Tryz.prog M6:=aF.cons (x:=.pure dJ) tI (aF.nil _)
def NN (a0:List ByteArray) (R:T→Prop):Prop :=
 bB (Int×Int×PUnit)
 (fun (X0:Int×Int×PUnit→Prop) (s1:Int×Int×PUnit) =>
 aB (decide (s1.2.1<(↑(List.map Sy.str.enc a0).length:Int)))
 (aP Sy.str (List.map Sy.str.enc a0) s1.2.1 fun (y2:ByteArray) =>
 aH [(false,Sy.bool)] (dJ [T.v (.string y2)]) fun (y3:Bool) =>
 aB (!y3) (R (T.v (.bool false)))
 (X0 (IntKind.i64.wrap (s1.1+(↑y2.size:Int)),IntKind.i64.wrap (s1.2.1+1),())))
 (aB (decide (1≤(↑(List.map Sy.str.enc a0).length:Int)))
 (aB (decide ((↑(List.map Sy.str.enc a0).length:Int)≤8))
 (R (T.v (.bool (decide (s1.1≤64))))) (R (T.v (.bool false))))
 (R (T.v (.bool false)))))
 (IntKind.i64.wrap ((↑(List.map Sy.str.enc a0).length:Int)-1),0,())
theorem XY ( a0 R):bJ aV Tryz.prog M6 ABS 8 141 [aD false Sy.str.li a0] R=NN a0 R:=by kernel_rfl
abbrev ET:Sh:=[(false,Sy.str.li)]
noncomputable def tM:List T→Option (T):=gS ET sV
theorem ZX {a0}:tM [T.sl false (List.map Sy.str.enc a0)]=sV (a0):=bH (s:=ET) rfl (a0) rfl
theorem AMN (h:∀ a0 r,sV (a0)=some r→cR ET (a0)→NN a0 (fun y=>y=r)):aJ Tryz.prog 141 tM :=
 aX (E:=M6) (Hs:=ABS) ADZ a6 a7 (aM rfl) 8 ⟨_,_,Tryz.func141,rfl⟩ rfl fun x r h1 h2=>by
  let a0:=x
  rw[show Sh.cA ET (a0)=[aD false Sy.str.li a0] from rfl,XY]
  exact h a0 r h1 h2
theorem wW:∀ (l:List ByteArray) (x:ByteArray),lL (l++[x])=lL l+x.size
 | [],x=>by simp[lL]
 | a::l,x=>by simp only[List.cons_append,lL,wW l x];omega
theorem JS:∀ (l:List ByteArray) (k:Nat),lL (l.take k)≤lL l
 | [],k=>by simp
 | a::l,0=>by simp[lL]
 | a::l,k+1=>by simp only[List.take_succ_cons,lL];have:=JS l k;omega
theorem AKY:aJ Tryz.prog 141 tM:=AMN fun l r h hb=>by
 unfold sV at h
 split at h
 ·rename_i hsz
  simp only[Bool.and_eq_true,decide_eq_true_eq] at hsz
  obtain ⟨hl65,hs64⟩:=hsz
  cases h
  unfold NN
  refine aY l.length (fun k t=>t=((l.length:Int)-1+lL (l.take k),(k:Int),())∧(l.take k).all isName=true) ⟨by
   simp only[List.take_zero,lL,List.length_map,Prod.mk.injEq,and_true]
   rw[aO _ (by omega) (by omega)];simp,by simp⟩ ?_
  rintro X k t hk ⟨rfl,hall⟩ hX
  dsimp only
  by_cases hlt:k<l.length
  ·refine cJ (by simp[hlt]) ?_
   rw[aT (r:=.str) hlt]
   refine aG (s:=q_b) (y:=isName l[k]) rY ?_
   have hsum:=JS l (k+1)
   have htake:l.take (k+1)=l.take k++[l[k]]:=List.take_succ_eq_append_getElem hlt
   cases hn:isName l[k] with
   | false =>
    rw[Bool.not_false,dE]
    have:l.all isName=false:=by
     rw[Bool.eq_false_iff];intro ha
     have:=List.all_eq_true.1 ha _ (List.getElem_mem hlt)
     rw[hn] at this;cases this
    rw[this];rfl
   | true =>
    rw[Bool.not_true,eA]
    rw[htake,wW] at hsum
    refine hX _ hlt ⟨?_,by rw[htake,List.all_append,hall];simp[hn]⟩
    rw[htake,wW]
    simp only[Prod.mk.injEq,and_true]
    exact ⟨by rw[aO _ (by omega) (by omega)];simp;omega,aO _ (by omega) (by omega)⟩
  ·have:k=l.length:=by omega
   subst this
   rw[List.take_length] at hall
   refine cV (by simp) ?_
   rw[List.take_length,hall]
   by_cases h1:1≤l.length
   ·refine cJ (by simp only[List.length_map];omega) ?_
    by_cases h2:l.length≤8
    ·refine cJ (by simp only[List.length_map];omega) ?_
     rw[decide_eq_true h1,decide_eq_true h2];rfl
    ·refine cV (by simp only[List.length_map];omega) ?_
     rw[decide_eq_false h2,Bool.and_false];rfl
   ·refine cV (by simp only[List.length_map];omega) ?_
    rw[decide_eq_false h1];rfl
 ·cases h
noncomputable def WT:Env:=Env.of [(142,.pure pB),(141,.pure tM)]
def AJN:FuncId→Hint:=fun _=>aU
theorem AIK:aF Tryz.prog WT:=aF.cons (x:=.pure pB) AFU (aF.cons (x:=.pure tM) AKY (aF.nil _))
def XX (a0:ByteArray) (R:T→Prop):Prop :=
 aB (decide ((↑(ByteArray.size a0):Int)≤64))
 (aH [(false,Sy.str.li)]
 (pB [T.v (.string a0),T.v (.string { data:=#[46] })])
 fun (y0:List ByteArray) =>
 aH [(false,Sy.bool)] (tM [T.sl false (List.map Sy.str.enc y0)])
 fun (y1:Bool)=>R (T.v (.bool y1)))
 (R (T.v (.bool false)))
theorem AEB ( a0 R):bJ aV Tryz.prog WT AJN 8 99 [aD false Sy.str a0] R=XX a0 R:=by kernel_rfl
abbrev PY:Sh:=[(false,Sy.str)]
abbrev PL:Sh:=[(false,Sy.bool)]
theorem VT (y:Sh.den PL) (K:Sh.den PL→Prop):aH PL (some (Sh.enc PL y)) K=K y:=kF rfl y K
noncomputable def cQ:List T→Option (T):=gS PY E2
theorem AF1 {a0}:cQ [T.v (.string a0)]=E2 (a0):=bH (s:=PY) rfl (a0) rfl
theorem AQH (h:∀ a0 r,E2 (a0)=some r→cR PY (a0)→XX a0 (fun y=>y=r)):aJ Tryz.prog 99 cQ :=
 aX (E:=WT) (Hs:=AJN) AIK a6 a7 (aM rfl) 8 ⟨_,_,Tryz.func99,rfl⟩ rfl fun x r h1 h2=>by
  let a0:=x
  rw[show Sh.cA PY (a0)=[aD false Sy.str a0] from rfl,AEB]
  exact h a0 r h1 h2
theorem ED:aJ Tryz.prog 99 cQ:=AQH fun s r h hb=>by
 have h':some (Sh.enc q_b (oJ s))=some r:=h
 cases h'
 clear h
 unfold XX oJ
 by_cases h64:s.size≤64
 ·refine cJ (by omega) ?_
  have hsum:=AHK s
  have hpos:=AHJ s
  refine aG (s:=AUC) (y:=cW s) ?_ ?_
  ·rw[show pB [T.v (.string s),T.v (.string { data:=#[46] })]=sW (s,dot) from UO]
   unfold sW
   rw[show decide (s.size<4294967281)=true by simp;omega,show decide (1≤dot.size)=true from rfl]
   rfl
  ·refine aG (s:=q_b) (y:=(cW s).all isName&&(decide (1≤(cW s).length)&&decide ((cW s).length≤8)&&decide (AQ4 (cW s)≤64))) ?_ ?_
   ·rw[ZX]
    unfold sV
    rw[show (decide ((cW s).length≤65)&&decide (lL (cW s)≤64))=true by simp;omega]
   ·have h1:decide (1≤(cW s).length)=true:=decide_eq_true hpos
    have h2:decide (AQ4 (cW s)≤64)=true:=decide_eq_true (by unfold AQ4;omega)
    have h3:decide (s.size≤64)=true:=decide_eq_true h64
    rw[h1,h2,h3]
    simp[Bool.and_comm,Sh.enc,aD,Sy.enc,hdT]
 ·refine cV (by omega) ?_
  rw[decide_eq_false h64];rfl
end Go.Pv
namespace Go.Pv
open Go Go.Proofs
def Seen (es:List (ByteArray×Bool)) (S:ByteArray→Prop):Prop:=(∀ id b,fQ es id=some b→b=true)∧∀ id,fQ es id=some true↔S id
theorem Seen.nil:Seen [] fun _=>False:=⟨fun id b h=>(by cases h),fun id=>⟨fun h=>(by cases h),fun h=>h.elim⟩⟩
theorem Seen.ins {es:List (ByteArray×Bool)} {S:ByteArray→Prop} (h:Seen es S) (k:ByteArray):Seen (pF es k true) fun id=>S id∨k=id:=by
 refine ⟨fun id b hb=>?_,fun id=>?_⟩
 ·rw[pC] at hb
  split at hb
  ·cases hb;rfl
  ·exact h.1 id b hb
 ·rw[pC]
  split
  ·rename_i e;exact ⟨fun _=>.inr e,fun _=>rfl⟩
  ·rename_i e;rw[h.2];exact ⟨.inl,fun h=>h.resolve_right e⟩
theorem Seen.congr {es:List (ByteArray×Bool)} {S S':ByteArray→Prop} (h:Seen es S) (e:∀ id,S id↔S' id):Seen es S':=⟨h.1,fun id=>(h.2 id).trans (e id)⟩
abbrev RS:=List (Value×T)×Nat×List Nat×Nat
theorem AKO {m:List (ByteArray×Int)} {seen:List Nat} {i:Nat} (hi:i<m.length) (K:ByteArray→Int→Prop) (hk:K m[i].1 m[i].2):vQ .str false (.int .i64) (nE (a8 m)) (seen++[i]) K :=
 ⟨i,m[i].1,m[i].2,by simp,by simp only[nE,a8,List.map_map,List.getElem?_map,List.getElem?_eq_getElem hi];rfl,hk⟩
theorem AO2 {m:List (ByteArray×Int)} {es:List (ByteArray×Bool)} {S:ByteArray→Prop} {R7 K:Prop} (hS:Seen es S) (hbad:(∃ i,∃ h:i<m.length,S m[i].1)→R7) (hgood:(∀ i (h:i<m.length),¬ S m[i].1)→K) :
  bB (RS×PUnit) (fun (X:RS×PUnit→Prop) (s:RS×PUnit)=>bO (decide (s.1.1.length≤s.1.2.1)&&decide (s.1.2.1≤s.1.2.2.2)) (oW s.1.1.length s.1.2.2.1 K fun (i:Nat) =>
   bO (decide (s.1.1.length=s.1.1.length)) (vQ Sy.str false (Sy.int IntKind.i64) (nE s.1.1) (s.1.2.2.1++[i]) fun (k:ByteArray) (y:Int) =>
    dT TypeDesc.string (Value.string k) (List.map (bG Sy.str false Sy.bool) es) false Sy.bool (X ((s.1.1,s.1.2.1,s.1.2.2.1++[i],s.1.1.length),())) fun (j:Nat) (b:Bool) =>
     aB b R7 (X ((s.1.1,s.1.2.1,s.1.2.2.1++[i],s.1.1.length),()))))) ((a8 m,(a8 m).length,[],(a8 m).length),()):=by
 have hml:(a8 m).length=m.length:=by simp[a8]
 refine aY m.length (fun k t=>∃ seen,t=((a8 m,(a8 m).length,seen,(a8 m).length),())∧(bW m.length seen).length+k≤m.length∧∀ i (h:i<m.length),i∈seen→¬ S m[i].1) ⟨[],rfl,by rw[sI];omega,by simp⟩ ?_
 rintro X k t hk ⟨seen,rfl,hlen,hJ⟩ hX
 dsimp only
 refine ⟨by simp,?_,?_⟩
 ·intro hm
  rw[hml] at hm
  refine hgood fun i hi=>hJ i hi ?_
  refine Classical.byContradiction fun hc=>?_
  have:i∈bW m.length seen:=jO.2 ⟨hi,hc⟩
  rw[hm] at this;cases this
 ·intro i hi
  rw[hml] at hi
  have hi1:=(jO.1 hi).1
  have hst:=qM hi
  refine ⟨by simp,AKO hi1 _ ?_⟩
  have go:¬ S m[i].1→X ((a8 m,(a8 m).length,seen++[i],(a8 m).length),()):=fun hn=>hX _ (by omega) ⟨_,rfl,by omega,fun j hj hm=>by
   rcases List.mem_append.1 hm with h|h
   ·exact hJ j hj h
   ·simp at h;subst h;exact hn⟩
  refine tH (r:=.bool) (fun hno=>go fun h=>?_) fun j b hb=>?_
  ·have:=(hS.2 m[i].1).2 h
   rw[hno] at this;cases this
  ·have:=hS.1 _ _ hb
   subst this
   rw[dE]
   exact hbad ⟨i,hi1,(hS.2 _).1 hb⟩
theorem AOT {m:List (ByteArray×Int)} {es:List (ByteArray×Bool)} {S:ByteArray→Prop} {K:List (ByteArray×Bool)×RS×PUnit→Prop} (hS:Seen es S) (hgood:∀ es' rs,Seen es' (fun id=>S id∨∃ i,∃ h:i<m.length,m[i].1=id)→K (es',rs,())) :
  b8 Sy.str false Sy.bool (List.map (bG Sy.str false Sy.bool) es) fun (y:List (ByteArray×Bool)) =>
  bB (List (ByteArray×Bool)×RS×PUnit) (fun (X:List (ByteArray×Bool)×RS×PUnit→Prop) (s:List (ByteArray×Bool)×RS×PUnit)=>bO (decide (s.2.1.1.length≤s.2.1.2.1)&&decide (s.2.1.2.1≤s.2.1.2.2.2)) (oW s.2.1.1.length s.2.1.2.2.1 (K s) fun (i:Nat) =>
   bO (decide (s.2.1.1.length=s.2.1.1.length)) (vQ Sy.str false (Sy.int IntKind.i64) (nE s.2.1.1) (s.2.1.2.2.1++[i]) fun (k:ByteArray) (y:Int) =>
    iU (Option (Nat×D)) (findD TypeDesc.string (IC Sy.str k) (List.map (bG Sy.str false Sy.bool) s.1) 0) fun (y37:Option (Nat×D)) =>
     b8 Sy.str false Sy.bool (cK (List.map (bG Sy.str false Sy.bool) s.1) y37 (Value.string k) (D.p (T.v (.bool true)))) fun (y38:List (ByteArray×Bool)) =>
      X (y38,(s.2.1.1,s.2.1.2.1,s.2.1.2.2.1++[i],s.2.1.1.length),())))) (y,(a8 m,(a8 m).length,[],(a8 m).length),()):=by
 have hml:(a8 m).length=m.length:=by simp[a8]
 refine gG (r:=.bool) rfl es _ ?_
 refine aY m.length (fun k t=>∃ seen es',t=(es',(a8 m,(a8 m).length,seen,(a8 m).length),())∧(bW m.length seen).length+k≤m.length∧Seen es' (fun id=>S id∨∃ i,∃ h:i<m.length,i∈seen∧m[i].1=id)) ⟨[],es,rfl,by rw[sI];omega,hS.congr (by simp)⟩ ?_
 rintro X k t hk ⟨seen,es',rfl,hlen,hJ⟩ hX
 dsimp only
 refine ⟨by simp,?_,?_⟩
 ·intro hm
  rw[hml] at hm
  refine hgood _ _ (hJ.congr fun id=>⟨fun h=>h.imp_right fun ⟨i,hi,_,e⟩=>⟨i,hi,e⟩,fun h=>h.imp_right fun ⟨i,hi,e⟩=>⟨i,hi,?_,e⟩⟩)
  refine Classical.byContradiction fun hc=>?_
  have:i∈bW m.length seen:=jO.2 ⟨hi,hc⟩
  rw[hm] at this;cases this
 ·intro i hi
  rw[hml] at hi
  have hi1:=(jO.1 hi).1
  have hst:=qM hi
  refine ⟨by simp,AKO hi1 _ ?_⟩
  refine ACO (r:=.bool) rfl (es:=es') (k:=m[i].1) (v:=true) (hX _ (by omega) ⟨seen++[i],_,rfl,by omega,(hJ.ins _).congr fun id=>⟨?_,?_⟩⟩)
  ·rintro ((h|⟨j,hj,hm,e⟩)|h)
   ·exact .inl h
   ·exact .inr ⟨j,hj,by simp[hm],e⟩
   ·exact .inr ⟨i,hi1,by simp,h⟩
  ·rintro (h|⟨j,hj,hm,e⟩)
   ·exact .inl (.inl h)
   ·rcases List.mem_append.1 hm with hm|hm
    ·exact .inl (.inr ⟨j,hj,hm,e⟩)
    ·simp at hm;subst hm;exact .inr e
def ltN (a b:w6):Bool:=decide (a.1<b.1)||(decide (a.1=b.1)&&(fR a.2.1 b.2.1||(decide (a.2.1=b.2.1)&&fR a.2.2 b.2.2)))
def YZ:List w6→Bool
 | a::b::l=>ltN a b&&YZ (b::l)
 | _=>true
theorem AEQ {l:List w6} {k:Nat} (h:k+1<l.length):YZ (l.drop k)=(ltN l[k] l[k+1]&&YZ (l.drop (k+1))):=by
 rw[List.drop_eq_getElem_cons (show k<l.length by omega),List.drop_eq_getElem_cons h,YZ]
theorem AJ3 {l:List w6} {k:Nat} (h:l.length≤k+1):YZ (l.drop k)=true:=by
 rcases Nat.lt_or_ge k l.length with h1|h1
 ·rw[List.drop_eq_getElem_cons h1,List.drop_eq_nil_of_le h];rfl
 ·rw[List.drop_eq_nil_of_le h1];rfl
theorem LV (k:ByteArray) (v:Int) (id:ByteArray):∀ es:List (ByteArray×Int),id∈(pF es k v).map (fun e=>e.1)↔id∈es.map (fun e=>e.1)∨id=k
 | []=>by simp[pF]
 | e::es=>by
  simp only[pF]
  split
  ·rename_i h
   simp only[List.map_cons,List.mem_cons]
   rw[←h]
   constructor
   ·rintro (h|h)
    ·exact .inl (.inl h)
    ·exact .inl (.inr h)
   ·rintro ((h|h)|h)
    ·exact .inl h
    ·exact .inr h
    ·exact .inl h
  ·simp only[List.map_cons,List.mem_cons,LV k v id es,or_assoc]
theorem LX (id:ByteArray):∀ (l:List ByteArray) (i:Nat) (es:List (ByteArray×Int)),id∈(A4 l i es).map (fun e=>e.1)↔id∈es.map (fun e=>e.1)∨id∈l
 | [],i,es=>by simp[A4]
 | a::l,i,es=>by
  simp only[A4]
  rw[LX id l]
  cases h:fQ es a with
  | none=>simp only[LV,List.mem_cons,or_assoc]
  | some v =>
   simp only[List.mem_cons]
   have ha:a∈es.map (fun e=>e.1):=by
    rcases qD a es with ⟨h1,_⟩|⟨j,hj,h1,_⟩
    ·rw[h] at h1;cases h1
    ·exact List.mem_map.2 ⟨es[j],List.getElem_mem hj,h1⟩
   constructor
   ·rintro (h|h)
    ·exact .inl h
    ·exact .inr (.inr h)
   ·rintro (h|rfl|h)
    ·exact .inl h
    ·exact .inl ha
    ·exact .inr h
theorem iS {l:List ByteArray} {id:ByteArray}:(∃ i,∃ h:i<(fG l).length,(fG l)[i].1=id)↔id∈l:=by
 have h:=LX id l 0 []
 simp only[List.map_nil,List.not_mem_nil,false_or] at h
 rw[←h,List.mem_map]
 constructor
 ·rintro ⟨i,hi,e⟩;exact ⟨_,List.getElem_mem hi,e⟩
 ·rintro ⟨e,he,h⟩
  obtain ⟨i,hi,rfl⟩:=List.mem_iff_getElem.1 he
  exact ⟨i,hi,h⟩
def vA (a0:aC) (m1:List (ByteArray×Int)) (m2:List (ByteArray×Int)) (m3:List (ByteArray×Int)) (m4:List (ByteArray×Int)):List T:=[JU a0 m1 m2 m3 m4]
noncomputable def WS:Env:=Env.of [(94,.pure o9)]
def AJM:FuncId→Hint:=fun f=>match f == 47 with|true=>⟨fun r=>match r == 9 with|true=>.inv [.val 4 false .bool,.val 5 false (.int .i64)]|false=>match r == 17 with|true=>.QL 5|false=>match r == 20 with|true=>.alts [[.bL 30],[.bL 29],[.bL 28],[.bL 27],[.bL 26],[.bL 25],[.bL 24],[.bL 23],[.bL 22],[.bL 21],[.bL 20],[.bL 19],[.bL 18],[.bL 17],[.bL 16],[.bL 15],[.bL 14],[.bL 13],[.bL 12],[.bL 11],[.bL 10],[.bL 9],[.bL 8],[.bL 7],[.bL 6],[.bL 5],[.bL 4],[.bL 3],[.bL 2]]|false=>match r == 25 with|true=>.alts [[.map 2 .str false .bool,.bL 30],[.map 2 .str false .bool,.bL 29],[.map 2 .str false .bool,.bL 28],[.map 2 .str false .bool,.bL 27],[.map 2 .str false .bool,.bL 26],[.map 2 .str false .bool,.bL 25],[.map 2 .str false .bool,.bL 24],[.map 2 .str false .bool,.bL 23],[.map 2 .str false .bool,.bL 22],[.map 2 .str false .bool,.bL 21],[.map 2 .str false .bool,.bL 20],[.map 2 .str false .bool,.bL 19],[.map 2 .str false .bool,.bL 18],[.map 2 .str false .bool,.bL 17],[.map 2 .str false .bool,.bL 16],[.map 2 .str false .bool,.bL 15],[.map 2 .str false .bool,.bL 14],[.map 2 .str false .bool,.bL 13],[.map 2 .str false .bool,.bL 12],[.map 2 .str false .bool,.bL 11],[.map 2 .str false .bool,.bL 10],[.map 2 .str false .bool,.bL 9],[.map 2 .str false .bool,.bL 8],[.map 2 .str false .bool,.bL 7],[.map 2 .str false .bool,.bL 6],[.map 2 .str false .bool,.bL 5],[.map 2 .str false .bool,.bL 4],[.map 2 .str false .bool,.bL 3],[.map 2 .str false .bool,.bL 2]]|false=>.none,fun i j=>match i == 5&&j == 5 with|true=>some [.val 4 false .bool]|false=>match i == 6&&j == 6 with|true=>some [.val 4 false .bool]|false=>match i == 7&&j == 7 with|true=>some [.val 4 false .bool]|false=>none,fun r=>match r == 21 with|true=>some (.str,false,(.int .i64))|false=>match r == 26 with|true=>some (.str,false,(.int .i64))|false=>none⟩|false=>aU
theorem AIJ:aF Tryz.prog WS:=aF.cons (x:=.pure o9) ARP (aF.nil _)
def XU (a0:aC) (m1:List (ByteArray×Int)) (m2:List (ByteArray×Int)) (m3:List (ByteArray×Int)) (m4:List (ByteArray×Int)) (R:T→Prop):Prop :=
 aB (decide (64<(↑(List.map bM.enc a0.2.1).length:Int)))
 (R (T.v (.int .i64 4)))
 (aB (decide (256<(↑(List.map aQ.enc a0.2.2.1).length:Int)))
 (R (T.v (.int .i64 4)))
 (aB (decide (256<(↑(List.map bT.enc a0.2.2.2.1).length:Int)))
 (R (T.v (.int .i64 4)))
 (aB (decide (64<(↑(List.map aW.enc a0.2.2.2.2.1).length:Int)))
 (R (T.v (.int .i64 4)))
 (aB (decide (256<(↑(List.map cO.enc a0.2.2.2.2.2).length:Int)))
 (R (T.v (.int .i64 4)))
 (aH [(false,Sy.bool)]
 (o9
 [T.v (.int .i64 (↑(List.map bM.enc a0.2.1).length:Int)),
 T.fn 95 []
 [T.ref
 [T.ref
 [T.v (.string a0.1),T.sl false (List.map bM.enc a0.2.1),
 T.sl false (List.map aQ.enc a0.2.2.1),
 T.sl false (List.map bT.enc a0.2.2.2.1),
 T.sl false (List.map aW.enc a0.2.2.2.2.1),
 T.sl false (List.map cO.enc a0.2.2.2.2.2)]]]])
 fun (y0:Bool) =>
 kB (Bool×PUnit)
 (fun (X1:Bool×PUnit→Prop) =>
 aB y0
 (aH [(false,Sy.bool)]
 (o9
 [T.v
 (Value.int IntKind.i64 (↑(List.map aQ.enc a0.2.2.1).length:Int)),
 T.fn 96 []
 [T.ref
 [T.ref
 [T.v (.string a0.1),
 T.sl false (List.map bM.enc a0.2.1),
 T.sl false (List.map aQ.enc a0.2.2.1),
 T.sl false (List.map bT.enc a0.2.2.2.1),
 T.sl false (List.map aW.enc a0.2.2.2.2.1),
 T.sl false (List.map cO.enc a0.2.2.2.2.2)]]]])
 fun (y2:Bool)=>X1 (y2,()))
 (X1 (false,())))
 fun (s3:Bool×PUnit) =>
 kB (Bool×PUnit)
 (fun (X4:Bool×PUnit→Prop) =>
 aB s3.1
 (aH [(false,Sy.bool)]
 (o9
 [T.v
 (Value.int IntKind.i64 (↑(List.map bT.enc a0.2.2.2.1).length:Int)),
 T.fn 97 []
 [T.ref
 [T.ref
 [T.v (.string a0.1),
 T.sl false (List.map bM.enc a0.2.1),
 T.sl false (List.map aQ.enc a0.2.2.1),
 T.sl false (List.map bT.enc a0.2.2.2.1),
 T.sl false (List.map aW.enc a0.2.2.2.2.1),
 T.sl false (List.map cO.enc a0.2.2.2.2.2)]]]])
 fun (y5:Bool)=>X4 (y5,()))
 (X4 (false,())))
 fun (s6:Bool×PUnit) =>
 kB (Bool×PUnit)
 (fun (X7:Bool×PUnit→Prop) =>
 aB s6.1
 (aH [(false,Sy.bool)]
 (o9
 [T.v
 (Value.int IntKind.i64
 (↑(List.map aW.enc a0.2.2.2.2.1).length:Int)),
 T.fn 98 []
 [T.ref
 [T.ref
 [T.v (.string a0.1),
 T.sl false (List.map bM.enc a0.2.1),
 T.sl false (List.map aQ.enc a0.2.2.1),
 T.sl false (List.map bT.enc a0.2.2.2.1),
 T.sl false (List.map aW.enc a0.2.2.2.2.1),
 T.sl false (List.map cO.enc a0.2.2.2.2.2)]]]])
 fun (y8:Bool)=>X7 (y8,()))
 (X7 (false,())))
 fun (s9:Bool×PUnit) =>
 bB (Bool×Int×PUnit)
 (fun (X10:Bool×Int×PUnit→Prop) (s11:Bool×Int×PUnit) =>
 aB
 (decide (s11.2.1<(↑(List.map cO.enc a0.2.2.2.2.2).length:Int)))
 (aP cO (List.map cO.enc a0.2.2.2.2.2)
 (IntKind.i64.wrap (s11.2.1-1)) fun (y12:w6) =>
 aP cO (List.map cO.enc a0.2.2.2.2.2) s11.2.1
 fun (y13:w6) =>
 aB s11.1
 (aB (decide (y12.1<y13.1))
 (X10 (true,IntKind.i64.wrap (s11.2.1+1),()))
 (aB (decide (y12.1=y13.1))
 (aB (fR y12.2.1 y13.2.1)
 (X10 (true,IntKind.i64.wrap (s11.2.1+1),()))
 (aB (decide (y12.2.1=y13.2.1))
 (X10
 (fR y12.2.2 y13.2.2,IntKind.i64.wrap (s11.2.1+1),
 ()))
 (X10 (false,IntKind.i64.wrap (s11.2.1+1),()))))
 (X10 (false,IntKind.i64.wrap (s11.2.1+1),()))))
 (X10 (false,IntKind.i64.wrap (s11.2.1+1),())))
 (aB (!s11.1) (R (T.v (.int .i64 11)))
 (bB ((List (Value×T)×Nat×List Nat×Nat)×PUnit)
 (fun (X14:(List (Value×T)×Nat×List Nat×Nat)×PUnit→Prop)
 (s15:(List (Value×T)×Nat×List Nat×Nat)×PUnit) =>
 bO
 (decide (s15.1.1.length≤s15.1.2.1) &&
 decide (s15.1.2.1≤s15.1.2.2.2))
 (oW s15.1.1.length s15.1.2.2.1
 (b8 Sy.str false Sy.bool []
 fun (y16:List (ByteArray×Bool)) =>
 bB
 (List (ByteArray×Bool) ×
 (List (Value×T)×Nat×List Nat×Nat)×PUnit)
 (fun
 (X17 :
 List (ByteArray×Bool) ×
 (List (Value×T)×Nat×List Nat×Nat)×PUnit →
 Prop)
 (s18 :
 List (ByteArray×Bool) ×
 (List (Value×T)×Nat×List Nat×Nat)×PUnit) =>
 bO
 (decide (s18.2.1.1.length≤s18.2.1.2.1) &&
 decide (s18.2.1.2.1≤s18.2.1.2.2.2))
 (oW s18.2.1.1.length s18.2.1.2.2.1
 (bB ((List (Value×T)×Nat×List Nat×Nat)×PUnit)
 (fun
 (X19 :
 (List (Value×T)×Nat×List Nat×Nat)×PUnit→Prop)
 (s20:(List (Value×T)×Nat×List Nat×Nat)×PUnit) =>
 bO
 (decide (s20.1.1.length≤s20.1.2.1) &&
 decide (s20.1.2.1≤s20.1.2.2.2))
 (oW s20.1.1.length s20.1.2.2.1
 (b8 Sy.str false Sy.bool
 (List.map (bG Sy.str false Sy.bool) s18.1)
 fun (y21:List (ByteArray×Bool)) =>
 bB
 (List (ByteArray×Bool) ×
 (List (Value×T)×Nat×List Nat×Nat)×PUnit)
 (fun
 (X22 :
 List (ByteArray×Bool) ×
 (List (Value×T)×Nat×List Nat×Nat) ×
 PUnit →
 Prop)
 (s23 :
 List (ByteArray×Bool) ×
 (List (Value×T)×Nat×List Nat×Nat) ×
 PUnit) =>
 bO
 (decide (s23.2.1.1.length≤s23.2.1.2.1) &&
 decide (s23.2.1.2.1≤s23.2.1.2.2.2))
 (oW s23.2.1.1.length s23.2.1.2.2.1
 (bB
 ((List (Value×T)×Nat×List Nat×Nat) ×
 PUnit)
 (fun
 (X24 :
 (List (Value×T) ×
 Nat×List Nat×Nat) ×
 PUnit →
 Prop)
 (s25 :
 (List (Value×T) ×
 Nat×List Nat×Nat) ×
 PUnit) =>
 bO
 (decide (s25.1.1.length≤s25.1.2.1) &&
 decide (s25.1.2.1≤s25.1.2.2.2))
 (oW s25.1.1.length s25.1.2.2.1
 (b8 Sy.str false Sy.bool
 (List.map
 (bG Sy.str false Sy.bool)
 s23.1)
 fun (y26:List (ByteArray×Bool)) =>
 bB
 (List (ByteArray×Bool) ×
 (List (Value×T) ×
 Nat×List Nat×Nat) ×
 PUnit)
 (fun
 (X27 :
 List (ByteArray×Bool) ×
 (List (Value×T) ×
 Nat×List Nat×Nat) ×
 PUnit →
 Prop)
 (s28 :
 List (ByteArray×Bool) ×
 (List (Value×T) ×
 Nat×List Nat×Nat) ×
 PUnit) =>
 bO
 (decide
 (s28.2.1.1.length ≤
 s28.2.1.2.1) &&
 decide
 (s28.2.1.2.1 ≤
 s28.2.1.2.2.2))
 (oW s28.2.1.1.length
 s28.2.1.2.2.1
 (bB
 ((List (Value×T) ×
 Nat×List Nat×Nat) ×
 PUnit)
 (fun
 (X29 :
 (List (Value×T) ×
 Nat×List Nat×Nat) ×
 PUnit →
 Prop)
 (s30 :
 (List (Value×T) ×
 Nat×List Nat×Nat) ×
 PUnit) =>
 bO
 (decide
 (s30.1.1.length ≤
 s30.1.2.1) &&
 decide
 (s30.1.2.1 ≤
 s30.1.2.2.2))
 (oW s30.1.1.length
 s30.1.2.2.1
 (b8 Sy.str false
 Sy.bool
 (List.map
 (bG Sy.str
 false Sy.bool)
 s28.1)
 fun
 (y31 :
 List
 (ByteArray×Bool)) =>
 bB
 (List (ByteArray×Bool) ×
 (List
 (Value ×
 T) ×
 Nat ×
 List Nat×Nat) ×
 PUnit)
 (fun
 (X32 :
 List
 (ByteArray ×
 Bool) ×
 (List
 (Value ×
 T) ×
 Nat ×
 List Nat ×
 Nat) ×
 PUnit →
 Prop)
 (s33 :
 List
 (ByteArray ×
 Bool) ×
 (List
 (Value ×
 T) ×
 Nat ×
 List Nat ×
 Nat) ×
 PUnit) =>
 bO
 (decide
 (s33.2.1.1.length ≤
 s33.2.1.2.1) &&
 decide
 (s33.2.1.2.1 ≤
 s33.2.1.2.2.2))
 (oW
 s33.2.1.1.length
 s33.2.1.2.2.1
 (R
 (T.v
 (Value.int
 IntKind.i64
 0)))
 fun (i34:Nat) =>
 bO
 (decide
 (s33.2.1.1.length =
 s33.2.1.1.length))
 (vQ
 Sy.str false
 (Sy.int
 IntKind.i64)
 (nE
 s33.2.1.1)
 (s33.2.1.2.2.1 ++
 [i34])
 fun
 (k35 :
 ByteArray)
 (y36:Int) =>
 iU
 (Option
 (Nat ×
 D))
 (findD
 TypeDesc.string
 (IC
 Sy.str
 k35)
 (List.map
 (bG
 Sy.str
 false
 Sy.bool)
 s33.1)
 0)
 fun
 (y37 :
 Option
 (Nat ×
 D)) =>
 b8
 Sy.str
 false
 Sy.bool
 (cK
 (List.map
 (bG
 Sy.str
 false
 Sy.bool)
 s33.1)
 y37
 (Value.string
 k35)
 (D.p
 (T.v
 (Value.bool
 true))))
 fun
 (y38 :
 List
 (ByteArray ×
 Bool)) =>
 X32
 (y38,
 (s33.2.1.1,
 s33.2.1.2.1,
 s33.2.1.2.2.1 ++
 [i34],
 s33.2.1.1.length),
 ()))))
 (y31,
 (a8 m4,
 (a8 m4).length,
 [],
 (a8 m4).length),
 ()))
 fun (i39:Nat) =>
 bO
 (decide
 (s30.1.1.length =
 s30.1.1.length))
 (vQ Sy.str false
 (Sy.int
 IntKind.i64)
 (nE s30.1.1)
 (s30.1.2.2.1 ++
 [i39])
 fun (k40:ByteArray)
 (y41:Int) =>
 dT
 TypeDesc.string
 (Value.string k40)
 (List.map
 (bG Sy.str
 false Sy.bool)
 s28.1)
 false Sy.bool
 (X29
 ((s30.1.1,
 s30.1.2.1,
 s30.1.2.2.1 ++
 [i39],
 s30.1.1.length),
 ()))
 fun (i42:Nat)
 (y43:Bool) =>
 aB y43
 (R
 (T.v
 (Value.int
 IntKind.i64
 7)))
 (X29
 ((s30.1.1,
 s30.1.2.1,
 s30.1.2.2.1 ++
 [i39],
 s30.1.1.length),
 ())))))
 ((a8 m4,
 (a8 m4).length,[],
 (a8 m4).length),
 ()))
 fun (i44:Nat) =>
 bO
 (decide
 (s28.2.1.1.length =
 s28.2.1.1.length))
 (vQ Sy.str false
 (Sy.int IntKind.i64)
 (nE s28.2.1.1)
 (s28.2.1.2.2.1++[i44])
 fun (k45:ByteArray) (y46:Int) =>
 iU (Option (Nat×D))
 (findD TypeDesc.string
 (IC Sy.str k45)
 (List.map
 (bG Sy.str false
 Sy.bool)
 s28.1)
 0)
 fun
 (y47 :
 Option (Nat×D)) =>
 b8 Sy.str false
 Sy.bool
 (cK
 (List.map
 (bG Sy.str
 false Sy.bool)
 s28.1)
 y47 (Value.string k45)
 (D.p
 (T.v
 (Value.bool true))))
 fun
 (y48 :
 List (ByteArray×Bool)) =>
 X27
 (y48,
 (s28.2.1.1,
 s28.2.1.2.1,
 s28.2.1.2.2.1 ++
 [i44],
 s28.2.1.1.length),
 ()))))
 (y26,
 (a8 m3,(a8 m3).length,[],
 (a8 m3).length),
 ()))
 fun (i49:Nat) =>
 bO
 (decide
 (s25.1.1.length=s25.1.1.length))
 (vQ Sy.str false
 (Sy.int IntKind.i64)
 (nE s25.1.1)
 (s25.1.2.2.1++[i49])
 fun (k50:ByteArray) (y51:Int) =>
 dT TypeDesc.string
 (Value.string k50)
 (List.map
 (bG Sy.str false
 Sy.bool)
 s23.1)
 false Sy.bool
 (X24
 ((s25.1.1,s25.1.2.1,
 s25.1.2.2.1++[i49],
 s25.1.1.length),
 ()))
 fun (i52:Nat) (y53:Bool) =>
 aB y53
 (R
 (T.v
 (Value.int IntKind.i64 7)))
 (X24
 ((s25.1.1,s25.1.2.1,
 s25.1.2.2.1++[i49],
 s25.1.1.length),
 ())))))
 ((a8 m3,(a8 m3).length,[],
 (a8 m3).length),
 ()))
 fun (i54:Nat) =>
 bO
 (decide
 (s23.2.1.1.length=s23.2.1.1.length))
 (vQ Sy.str false
 (Sy.int IntKind.i64)
 (nE s23.2.1.1)
 (s23.2.1.2.2.1++[i54])
 fun (k55:ByteArray) (y56:Int) =>
 iU (Option (Nat×D))
 (findD TypeDesc.string
 (IC Sy.str k55)
 (List.map
 (bG Sy.str false Sy.bool)
 s23.1)
 0)
 fun (y57:Option (Nat×D)) =>
 b8 Sy.str false Sy.bool
 (cK
 (List.map
 (bG Sy.str false Sy.bool)
 s23.1)
 y57 (Value.string k55)
 (D.p (T.v (.bool true))))
 fun (y58:List (ByteArray×Bool)) =>
 X22
 (y58,
 (s23.2.1.1,s23.2.1.2.1,
 s23.2.1.2.2.1++[i54],
 s23.2.1.1.length),
 ()))))
 (y21,
 (a8 m2,(a8 m2).length,[],
 (a8 m2).length),
 ()))
 fun (i59:Nat) =>
 bO (decide (s20.1.1.length=s20.1.1.length))
 (vQ Sy.str false (Sy.int IntKind.i64)
 (nE s20.1.1) (s20.1.2.2.1++[i59])
 fun (k60:ByteArray) (y61:Int) =>
 dT TypeDesc.string (Value.string k60)
 (List.map (bG Sy.str false Sy.bool)
 s18.1)
 false Sy.bool
 (X19
 ((s20.1.1,s20.1.2.1,
 s20.1.2.2.1++[i59],s20.1.1.length),
 ()))
 fun (i62:Nat) (y63:Bool) =>
 aB y63 (R (T.v (.int .i64 7)))
 (X19
 ((s20.1.1,s20.1.2.1,
 s20.1.2.2.1++[i59],s20.1.1.length),
 ())))))
 ((a8 m2,(a8 m2).length,[],(a8 m2).length),()))
 fun (i64:Nat) =>
 bO (decide (s18.2.1.1.length=s18.2.1.1.length))
 (vQ Sy.str false (Sy.int IntKind.i64)
 (nE s18.2.1.1) (s18.2.1.2.2.1++[i64])
 fun (k65:ByteArray) (y66:Int) =>
 iU (Option (Nat×D))
 (findD TypeDesc.string (IC Sy.str k65)
 (List.map (bG Sy.str false Sy.bool) s18.1) 0)
 fun (y67:Option (Nat×D)) =>
 b8 Sy.str false Sy.bool
 (cK
 (List.map (bG Sy.str false Sy.bool) s18.1)
 y67 (Value.string k65)
 (D.p (T.v (.bool true))))
 fun (y68:List (ByteArray×Bool)) =>
 X17
 (y68,
 (s18.2.1.1,s18.2.1.2.1,
 s18.2.1.2.2.1++[i64],s18.2.1.1.length),
 ()))))
 (y16,(a8 m1,(a8 m1).length,[],(a8 m1).length),()))
 fun (i69:Nat) =>
 bO (decide (s15.1.1.length=s15.1.1.length))
 (vQ Sy.str false (Sy.int IntKind.i64) (nE s15.1.1)
 (s15.1.2.2.1++[i69]) fun (k70:ByteArray) (y71:Int) =>
 dT TypeDesc.string (Value.string k70) [] false Sy.bool
 (X14
 ((s15.1.1,s15.1.2.1,s15.1.2.2.1++[i69],
 s15.1.1.length),
 ()))
 fun (i72:Nat) (y73:Bool) =>
 aB y73 (R (T.v (.int .i64 7)))
 (X14
 ((s15.1.1,s15.1.2.1,s15.1.2.2.1++[i69],
 s15.1.1.length),
 ())))))
 ((a8 m1,(a8 m1).length,[],(a8 m1).length),()))))
 (s9.1,1,()))))))
theorem AEA ( a0 m1 m2 m3 m4 R):bJ aV Tryz.prog WS AJM 8 47 (vA a0 m1 m2 m3 m4) R=XU a0 m1 m2 m3 m4 R:=by kernel_rfl
abbrev MP:=List (ByteArray×Int)
theorem xC {a b:MP} (h:a8 a=a8 b):a=b:=map_inj (fun x y h=>by
 simp only[Prod.mk.injEq,Value.string.injEq,T.v.injEq,Value.int.injEq,true_and] at h
 exact Prod.ext h.1 h.2) h
theorem nD {x y:aC×MP×MP×MP×MP} (h:JU x.1 x.2.1 x.2.2.1 x.2.2.2.1 x.2.2.2.2=JU y.1 y.2.1 y.2.2.1 y.2.2.2.1 y.2.2.2.2):x=y:=by
 simp only[JU,T.ref.injEq,List.cons.injEq,T.mp.injEq,and_true] at h
 obtain ⟨h0,h1,h2,h3,h4⟩:=h
 exact Prod.ext (Sy.cS aN _ _ h0) (Prod.ext (xC h1) (Prod.ext (xC h2) (Prod.ext (xC h3) (xC h4))))
theorem WL (x y:aC×MP×MP×MP×MP) (h:vA x.1 x.2.1 x.2.2.1 x.2.2.2.1 x.2.2.2.2=vA y.1 y.2.1 y.2.2.1 y.2.2.2.1 y.2.2.2.2):x=y:=nD (List.cons.inj h).1
def iY (d:aC):Bool:=decide (64<d.2.1.length)||decide (256<d.2.2.1.length)||decide (256<d.2.2.2.1.length)||decide (64<d.2.2.2.2.1.length)||decide (256<d.2.2.2.2.2.length)
def EE (d:aC):Bool:=oH (ids d.2.1)&&oH (ids d.2.2.1)&&oH (ids d.2.2.2.1)&&oH (ids d.2.2.2.2.1)&&YZ d.2.2.2.2.2
def ASJ (l1 l2 l3 l4:List ByteArray):Bool:=(l2.any (nI l1))||(l3.any fun x=>nI l1 x||nI l2 x)||(l4.any fun x=>nI l1 x||nI l2 x||nI l3 x)
def ZB (d:aC):Bool:=ASJ (ids d.2.1) (ids d.2.2.1) (ids d.2.2.2.1) (ids d.2.2.2.2.1)
def kA (d:aC):Int:=if iY d=true then 4 else if EE d=false then 11 else if ZB d=true then 7 else 0
def AT9 (x:aC×MP×MP×MP×MP):Bool:=decide (x.2.1=fG (ids x.1.2.1))&&decide (x.2.2.1=fG (ids x.1.2.2.1))&&decide (x.2.2.2.1=fG (ids x.1.2.2.2.1))&&decide (x.2.2.2.2=fG (ids x.1.2.2.2.2.1)) &&
 (decide (x.1.2.1.length≤140737488355328)&&decide (x.1.2.2.1.length≤140737488355328)&&decide (x.1.2.2.2.1.length≤140737488355328)&&decide (x.1.2.2.2.2.1.length≤140737488355328)&&decide (x.1.2.2.2.2.2.length≤140737488355328))
structure kD (d:aC):Prop where
 n:d.2.1.length≤140737488355328
 p:d.2.2.1.length≤140737488355328
 s:d.2.2.2.1.length≤140737488355328
 k:d.2.2.2.2.1.length≤140737488355328
 r:d.2.2.2.2.2.length≤140737488355328
theorem IY {x:aC×MP×MP×MP×MP}:AT9 x=true↔x=(x.1,fG (ids x.1.2.1),fG (ids x.1.2.2.1),fG (ids x.1.2.2.2.1),fG (ids x.1.2.2.2.2.1))∧kD x.1:=by
 obtain ⟨d,a,b,c,e⟩:=x
 simp only[AT9,Bool.and_eq_true,decide_eq_true_eq,Prod.mk.injEq,true_and]
 constructor
 ·rintro ⟨⟨⟨⟨rfl,rfl⟩,rfl⟩,rfl⟩,⟨⟨⟨h1,h2⟩,h3⟩,h4⟩,h5⟩
  exact ⟨⟨rfl,rfl,rfl,rfl⟩,h1,h2,h3,h4,h5⟩
 ·rintro ⟨⟨rfl,rfl,rfl,rfl⟩,h1,h2,h3,h4,h5⟩
  exact ⟨⟨⟨⟨rfl,rfl⟩,rfl⟩,rfl⟩,⟨⟨⟨h1,h2⟩,h3⟩,h4⟩,h5⟩
def rG (x:aC×MP×MP×MP×MP) (t:T):Option T:=match AT9 x with
 | true=>some t
 | false=>none
theorem lE {x:aC×MP×MP×MP×MP} {t r:T} (h:rG x t=some r):x=(x.1,fG (ids x.1.2.1),fG (ids x.1.2.2.1),fG (ids x.1.2.2.2.1),fG (ids x.1.2.2.2.2.1))∧kD x.1∧r=t:=by
 unfold rG at h;split at h
 ·rename_i hc
  cases h
  exact ⟨(IY.1 hc).1,(IY.1 hc).2,rfl⟩
 ·cases h
theorem lF {d:aC} (h:kD d) (t:T):rG (d,fG (ids d.2.1),fG (ids d.2.2.1),fG (ids d.2.2.2.1),fG (ids d.2.2.2.2.1)) t=some t:=by
 unfold rG;rw[IY.2 ⟨rfl,h⟩]
def QA (x:aC×MP×MP×MP×MP):Option T:=rG x (T.v (Value.int .i64 (kA x.1)))
noncomputable def AV:List T→Option (T):=gA (fun (x:aC×(List (ByteArray×Int))×(List (ByteArray×Int))×(List (ByteArray×Int))×List (ByteArray×Int))=>vA x.1 x.2.1 x.2.2.1 x.2.2.2.1 x.2.2.2.2) QA
theorem AF0 (a0:aC) (m1:List (ByteArray×Int)) (m2:List (ByteArray×Int)) (m3:List (ByteArray×Int)) (m4:List (ByteArray×Int)):AV (vA a0 m1 m2 m3 m4)=QA (a0,m1,m2,m3,m4):=j1 (A:=(fun (x:aC×(List (ByteArray×Int))×(List (ByteArray×Int))×(List (ByteArray×Int))×List (ByteArray×Int))=>vA x.1 x.2.1 x.2.2.1 x.2.2.2.1 x.2.2.2.2)) WL (a0,m1,m2,m3,m4)
theorem AQG (h:∀ (a0:aC) (m1:List (ByteArray×Int)) (m2:List (ByteArray×Int)) (m3:List (ByteArray×Int)) (m4:List (ByteArray×Int)) (r:T),QA (a0,m1,m2,m3,m4)=some r→(∀ t∈vA a0 m1 m2 m3 m4,Bd t)→XU a0 m1 m2 m3 m4 (fun y=>y=r)):aJ Tryz.prog 47 AV :=
 eC (E:=WS) (Hs:=AJM) AIJ a6 a7 (aM rfl) 8 ⟨_,_,Tryz.func47,rfl⟩ fun x r h1 h2=>by
  rw[AEA]
  exact h x.1 x.2.1 x.2.2.1 x.2.2.2.1 x.2.2.2.2 r h1 h2
theorem EO {A:List T} {b:Bool} (h:o9 A=some (T.v (.bool b))) (K:Bool→Prop) (hk:K b):aH [(false,Sy.bool)] (o9 A) K:=aG (s:=[(false,Sy.bool)]) (y:=b) h hk
theorem APJ:aJ Tryz.prog 47 AV:=AQG fun d m1 m2 m3 m4 r h hb=>by
 obtain ⟨hx,hs,rfl⟩:=lE h
 simp only[Prod.mk.injEq,true_and] at hx
 obtain ⟨rfl,rfl,rfl,rfl⟩:=hx
 clear h
 have is:∀ {n:Int},kA d=n→T.v (.int .i64 n)=T.v (.int .i64 (kA d)):=fun h=>by rw[h]
 have long:iY d=true→kA d=4:=fun h=>by unfold kA;rw[if_pos h]
 unfold XU
 refine bZ (fun h=>is (long (by rw[List.length_map] at h;simp only[iY,Bool.or_eq_true,decide_eq_true_eq];omega))) fun l1=>?_
 refine bZ (fun h=>is (long (by rw[List.length_map] at h;simp only[iY,Bool.or_eq_true,decide_eq_true_eq];omega))) fun l2=>?_
 refine bZ (fun h=>is (long (by rw[List.length_map] at h;simp only[iY,Bool.or_eq_true,decide_eq_true_eq];omega))) fun l3=>?_
 refine bZ (fun h=>is (long (by rw[List.length_map] at h;simp only[iY,Bool.or_eq_true,decide_eq_true_eq];omega))) fun l4=>?_
 refine bZ (fun h=>is (long (by rw[List.length_map] at h;simp only[iY,Bool.or_eq_true,decide_eq_true_eq];omega))) fun l5=>?_
 rw[List.length_map] at l1 l2 l3 l4 l5
 have notLong:iY d=false:=by simp only[iY,Bool.or_eq_false_iff,decide_eq_false_iff_not];omega
 refine EO (by rw[List.length_map];exact AS5 hs.n) _ ?_
 have step:∀ {b c:Bool} {A:List T} {Z:Bool×PUnit→Prop},o9 A=some (T.v (.bool c))→Z (b&&c,())→kB (Bool×PUnit) (fun (X:Bool×PUnit→Prop)=>aB b (aH [(false,Sy.bool)] (o9 A) fun (y2:Bool)=>X (y2,())) (X (false,()))) Z:=fun {b c A Z} hA hZ=>by
  rw[mH]
  cases b with
  | true=>rw[dE];exact EO hA _ hZ
  | false=>rw[eA];exact hZ
 refine step (by rw[List.length_map];exact AS6 hs.p) ?_
 refine step (by rw[List.length_map];exact AS7 hs.s) ?_
 refine step (by rw[List.length_map];exact AS8 hs.k) ?_
 refine aY d.2.2.2.2.2.length (fun k s=>∃ b,s=(b,((k+1:Nat):Int),())∧(b&&YZ (d.2.2.2.2.2.drop k))=EE d) ⟨_,rfl,by rw[List.drop_zero];rfl⟩ ?_
 rintro X k s hk ⟨b,rfl,he⟩ hX
 dsimp only
 have hr:=hs.r
 have hw:IntKind.i64.wrap (((k+1:Nat):Int)+1)=((k+1+1:Nat):Int):=aO _ (by omega) (by omega)
 have hw1:IntKind.i64.wrap (((k+1:Nat):Int)-1)=((k:Nat):Int):=by rw[aO _ (by omega) (by omega)];omega
 refine bZ (fun hlt=>?_) fun hge=>?_
 ·have hlt:k+1<d.2.2.2.2.2.length:=by rw[List.length_map] at hlt;omega
  rw[hw1,aT (r:=cO) (show k<d.2.2.2.2.2.length by omega),aT (r:=cO) hlt,hw]
  rw[AEQ hlt] at he
  have go:∀ c,(b&&ltN d.2.2.2.2.2[k] d.2.2.2.2.2[k+1])=c→X (c,((k+1+1:Nat):Int),()):=fun c hc=>hX _ (by omega) ⟨c,rfl,by rw[←hc,Bool.and_assoc];exact he⟩
  generalize d.2.2.2.2.2[k]=u at go
  generalize d.2.2.2.2.2[k+1]=v at go
  cases b with
  | false=>rw[eA];exact go _ rfl
  | true =>
   rw[dE]
   simp only[Bool.true_and,ltN] at go
   refine bZ (fun h=>go _ (by simp[h])) fun h1=>?_
   refine bZ (fun h2=>?_) fun h2=>go _ (by simp[h1,h2])
   refine J5 (fun h3=>go _ (by simp[h2,h3])) fun h3=>?_
   refine bZ (fun h4=>go _ (by rw[decide_eq_false h1,decide_eq_true h2,h3,decide_eq_true h4];rfl)) fun h4=>go _ (by rw[decide_eq_false h1,decide_eq_true h2,h3,decide_eq_false h4];rfl)
 ·rw[List.length_map] at hge
  rw[AJ3 (by omega),Bool.and_true] at he
  refine lC (fun h=>is (by unfold kA;rw[notLong,if_neg (by simp),←he,h];rfl)) fun h=>?_
  have dup:ZB d=true→T.v (.int .i64 7)=T.v (.int .i64 (kA d)):=fun h7=>is (by unfold kA;rw[notLong,if_neg (by simp),←he,h,if_neg (by simp),if_pos h7])
  have dup':(∃ i,∃ h:i<(fG (ids d.2.2.1)).length,(fG (ids d.2.2.1))[i].1∈ids d.2.1)∨(∃ i,∃ h:i<(fG (ids d.2.2.2.1)).length,(fG (ids d.2.2.2.1))[i].1∈ids d.2.1∨(fG (ids d.2.2.2.1))[i].1∈ids d.2.2.1)∨(∃ i,∃ h:i<(fG (ids d.2.2.2.2.1)).length,((fG (ids d.2.2.2.2.1))[i].1∈ids d.2.1∨(fG (ids d.2.2.2.2.1))[i].1∈ids d.2.2.1)∨(fG (ids d.2.2.2.2.1))[i].1∈ids d.2.2.2.1)→ZB d=true:=by
   intro h
   simp only[ZB,ASJ,Bool.or_eq_true,List.any_eq_true,sH]
   rcases h with ⟨i,hi,h⟩|⟨i,hi,h⟩|⟨i,hi,h⟩
   ·exact .inl (.inl ⟨_,iS.1 ⟨i,hi,rfl⟩,h⟩)
   ·exact .inl (.inr ⟨_,iS.1 ⟨i,hi,rfl⟩,h⟩)
   ·exact .inr ⟨_,iS.1 ⟨i,hi,rfl⟩,h⟩
  have m1:=fun id=>(@iS (ids d.2.1) id)
  refine AO2 (m:=fG (ids d.2.1)) (es:=[]) (R7:=T.v (.int .i64 7)=T.v (.int .i64 (kA d))) Seen.nil (fun h=>by obtain ⟨_,_,h⟩:=h;exact h.elim) fun _=>?_
  refine AOT (m:=fG (ids d.2.1)) (es:=[]) Seen.nil fun e1 rs1 s1=>?_
  have s1:=s1.congr (S':=fun id=>id∈ids d.2.1) fun id=>by rw[iS];simp
  refine AO2 (m:=fG (ids d.2.2.1)) s1 (fun h=>dup (dup' (.inl h))) fun n1=>?_
  refine AOT (m:=fG (ids d.2.2.1)) s1 fun e2 rs2 s2=>?_
  have s2:=s2.congr (S':=fun id=>id∈ids d.2.1∨id∈ids d.2.2.1) fun id=>by rw[iS]
  refine AO2 (m:=fG (ids d.2.2.2.1)) s2 (fun h=>dup (dup' (.inr (.inl h)))) fun n2=>?_
  refine AOT (m:=fG (ids d.2.2.2.1)) s2 fun e3 rs3 s3=>?_
  have s3:=s3.congr (S':=fun id=>(id∈ids d.2.1∨id∈ids d.2.2.1)∨id∈ids d.2.2.2.1) fun id=>by rw[iS]
  refine AO2 (m:=fG (ids d.2.2.2.2.1)) s3 (fun h=>dup (dup' (.inr (.inr h)))) fun n3=>?_
  refine AOT (m:=fG (ids d.2.2.2.2.1)) s3 fun e4 rs4 s4=>is ?_
  have nd:ZB d=false:=by
   rw[Bool.eq_false_iff]
   intro h
   simp only[ZB,ASJ,Bool.or_eq_true,List.any_eq_true,sH] at h
   rcases h with (⟨x,hx,h⟩|⟨x,hx,h⟩)|⟨x,hx,h⟩
   ·obtain ⟨i,hi,rfl⟩:=iS.2 hx;exact n1 i hi h
   ·obtain ⟨i,hi,rfl⟩:=iS.2 hx;exact n2 i hi h
   ·obtain ⟨i,hi,rfl⟩:=iS.2 hx;exact n3 i hi h
  unfold kA;rw[notLong,if_neg (by simp),←he,h,if_neg (by simp),nd,if_neg (by simp)]
end Go.Pv
namespace Go.Pv
open Go Go.Proofs
def AVO:List T→Option T:=fun _=>none
theorem aJ.nil {P:Program} {f:FuncId} (h:∃ fn,P.funcs[f]? = some fn∧(fn.name == "runtime.NumGoroutine")=false∧fn.body.isNone=false):aJ P f AVO:=⟨h,fun _ _ _ _ _ _ _ _ h=>by cases h⟩
theorem U7 (es:MP):nE (a8 es)=List.map (bG Sy.str false (Sy.int IntKind.i64)) es:=by
 unfold nE a8
 rw[List.map_map];rfl
theorem LU {α:Type} (id:ByteArray):∀ (l:List (ByteArray×α)) (i:Nat) (es:MP),(∃ v,fQ es id=some v∧fQ (A4 (ids l) i es) id=some v)∨(fQ es id=none∧fQ (A4 (ids l) i es) id=none∧l.find? (fun s=>decide (s.1=id))=none) ∨
  (fQ es id=none∧∃ k,∃ h:k<l.length,fQ (A4 (ids l) i es) id=some ((i+k:Nat):Int)∧l.find? (fun s=>decide (s.1=id))=some l[k])
 | [],i,es=>by
  cases h:fQ es id with
  | none=>exact .inr (.inl ⟨rfl,by simpa [ids,A4] using h,rfl⟩)
  | some v=>exact .inl ⟨v,rfl,by simpa [ids,A4] using h⟩
 | a::l,i,es=>by
  have hs:ids (a::l)=a.1::ids l:=rfl
  rw[hs]
  simp only[A4]
  have ih:=LU id l (i+1) (match fQ es a.1 with|none=>pF es a.1 (i:Int)|some _=>es)
  by_cases ha:a.1=id
  ·subst ha
   cases hc:fQ es a.1 with
   | some v =>
    simp only[hc] at ih ⊢
    rcases ih with ⟨v',h1,h2⟩|⟨h1,_⟩|⟨h1,_⟩
    ·exact .inl ⟨v',h1,h2⟩
    ·cases h1
    ·cases h1
   | none =>
    simp only[hc] at ih ⊢
    have hg:fQ (pF es a.1 (i:Int)) a.1=some (i:Int):=by rw[pC];simp
    rw[hg] at ih
    rcases ih with ⟨v',h1,h2⟩|⟨h1,_⟩|⟨h1,_⟩
    ·cases h1
     exact .inr (.inr ⟨by first|rfl|trivial,0,by simp,by simpa using h2,by simp⟩)
    ·cases h1
    ·cases h1
  ·have hg:fQ (match fQ es a.1 with|none=>pF es a.1 (i:Int)|some _=>es) id=fQ es id:=by
    cases hc:fQ es a.1 with
    | none=>simp only[pC,ha,if_false]
    | some v=>rfl
   rw[hg] at ih
   rcases ih with ⟨v',h1,h2⟩|⟨h1,h2,h3⟩|⟨h1,k,hk,h2,h3⟩
   ·exact .inl ⟨v',h1,h2⟩
   ·exact .inr (.inl ⟨h1,h2,by rw[List.find?_cons_of_neg (by simpa using ha)];exact h3⟩)
   ·exact .inr (.inr ⟨h1,k+1,by simpa using hk,h2.trans (by congr 2;omega),by rw[List.find?_cons_of_neg (by simpa using ha)];simpa using h3⟩)
theorem xQ {α:Type} (id:ByteArray) (l:List (ByteArray×α)):(fQ (fG (ids l)) id=none∧l.find? (fun s=>decide (s.1=id))=none)∨(∃ k,∃ h:k<l.length,fQ (fG (ids l)) id=some (k:Int)∧l.find? (fun s=>decide (s.1=id))=some l[k]):=by
 rcases LU id l 0 [] with ⟨v,h,_⟩|⟨_,h1,h2⟩|⟨_,k,hk,h1,h2⟩
 ·cases h
 ·exact .inl ⟨h1,h2⟩
 ·exact .inr ⟨k,hk,h1.trans (by rw[Nat.zero_add]),h2⟩
theorem ixK {α:Type} {id:ByteArray} {l:List (ByteArray×α)} {A:Prop} {B:Nat→Int→Prop} (hA:l.find? (fun s=>decide (s.1=id))=none→A) (hB:∀ i k (h:k<l.length),l.find? (fun s=>decide (s.1=id))=some l[k]→B i (k:Int)) :
  dT TypeDesc.string (Value.string id) (nE (a8 (fG (ids l)))) false (Sy.int IntKind.i64) A B:=by
 rw[U7]
 refine tH (r:=.int .i64) (fun h=>hA ?_) fun i v h=>?_
 ·rcases xQ id l with ⟨_,h2⟩|⟨k,hk,h1,_⟩
  ·exact h2
  ·rw[h] at h1;cases h1
 ·rcases xQ id l with ⟨h1,_⟩|⟨k,hk,h1,h2⟩
  ·rw[h] at h1;cases h1
  ·rw[h] at h1;cases h1;exact hB i k hk h2
def jU (a0:aC) (m1:List (ByteArray×Int)) (m2:List (ByteArray×Int)) (m3:List (ByteArray×Int)) (m4:List (ByteArray×Int)) (a5:ByteArray):List T:=[JU a0 m1 m2 m3 m4,T.v (.string a5)]
noncomputable def FX:Env:=Env.of []
def SF:FuncId→Hint:=fun f=>match f == 53 with|true=>⟨fun r=>match r == 3 with|true=>.inv [.val 1 false .str,.own 6 1 .str,.val 9 false (.int .i64)]|false=>.none,fun _ _=>none,fun _=>none⟩|false=>aU
theorem XP:aF Tryz.prog FX:=aF.nil _
def GN (a0:aC) (m1:List (ByteArray×Int)) (m2:List (ByteArray×Int)) (m3:List (ByteArray×Int)) (m4:List (ByteArray×Int)) (a5:ByteArray) (R:T→Prop):Prop :=
 bB (ByteArray×List ByteArray×Int×PUnit)
 (fun (X0:ByteArray×List ByteArray×Int×PUnit→Prop) (s1:ByteArray×List ByteArray×Int×PUnit) =>
 aB (decide (s1.2.2.1<65))
 (dT TypeDesc.string (Value.string s1.1) (nE (a8 m1)) false
 (Sy.int IntKind.i64) (R (T.cF [T.sl false [],T.v (.bool false)]))
 fun (i2:Nat) (y3:Int) =>
 aP bM (List.map bM.enc a0.2.1) y3 fun (y4:jW) =>
 bO
 (decide (((List.map Sy.str.enc s1.2.1).length+1)*16≤140737488355328) &&
 decide ((List.map Sy.str.enc s1.2.1).length+1≤140737488355328))
 (aB (decide (y4.2.1=1))
 (R
 (T.cF
 [T.sl false (List.map Sy.str.enc s1.2.1++[[T.v (.string s1.1)]]),
 T.v (.bool true)]))
 (bA Sy.str (List.map Sy.str.enc s1.2.1++[[T.v (.string s1.1)]])
 fun (y5:List ByteArray)=>X0 (y4.2.2,y5,IntKind.i64.wrap (s1.2.2.1+1),()))))
 (R (T.cF [T.sl false [],T.v (.bool false)])))
 (a5,[],0,())
theorem RN ( a0 m1 m2 m3 m4 a5 R):bJ aV Tryz.prog FX SF 8 100 (jU a0 m1 m2 m3 m4 a5) R=GN a0 m1 m2 m3 m4 a5 R:=by kernel_rfl
theorem wZ (x y:aC×MP×MP×MP×MP×ByteArray) (h:jU x.1 x.2.1 x.2.2.1 x.2.2.2.1 x.2.2.2.2.1 x.2.2.2.2.2=jU y.1 y.2.1 y.2.2.1 y.2.2.2.1 y.2.2.2.2.1 y.2.2.2.2.2):x=y:=by
 obtain ⟨h1,h2⟩:=List.cons.inj h
 have:=nD (x:=(x.1,x.2.1,x.2.2.1,x.2.2.2.1,x.2.2.2.2.1)) (y:=(y.1,y.2.1,y.2.2.1,y.2.2.2.1,y.2.2.2.2.1)) h1
 simp only[List.cons.injEq,T.v.injEq,Value.string.injEq,and_true] at h2
 simp only[Prod.mk.injEq] at this
 obtain ⟨e1,e2,e3,e4,e5⟩:=this
 exact Prod.ext e1 (Prod.ext e2 (Prod.ext e3 (Prod.ext e4 (Prod.ext e5 h2))))
def CV (x:aC×MP×MP×MP×MP×ByteArray):Option T:=rG (x.1,x.2.1,x.2.2.1,x.2.2.2.1,x.2.2.2.2.1) (Sh.enc [(false,.li .str),(false,.bool)] (up x.1 x.2.2.2.2.2))
noncomputable def fP:List T→Option (T):=gA (fun (x:aC×(List (ByteArray×Int))×(List (ByteArray×Int))×(List (ByteArray×Int))×(List (ByteArray×Int))×ByteArray)=>jU x.1 x.2.1 x.2.2.1 x.2.2.2.1 x.2.2.2.2.1 x.2.2.2.2.2) CV
theorem UP (a0:aC) (m1:List (ByteArray×Int)) (m2:List (ByteArray×Int)) (m3:List (ByteArray×Int)) (m4:List (ByteArray×Int)) (a5:ByteArray):fP (jU a0 m1 m2 m3 m4 a5)=CV (a0,m1,m2,m3,m4,a5):=j1 (A:=(fun (x:aC×(List (ByteArray×Int))×(List (ByteArray×Int))×(List (ByteArray×Int))×(List (ByteArray×Int))×ByteArray)=>jU x.1 x.2.1 x.2.2.1 x.2.2.2.1 x.2.2.2.2.1 x.2.2.2.2.2)) wZ (a0,m1,m2,m3,m4,a5)
theorem AHD (h:∀ (a0:aC) (m1:List (ByteArray×Int)) (m2:List (ByteArray×Int)) (m3:List (ByteArray×Int)) (m4:List (ByteArray×Int)) (a5:ByteArray) (r:T),CV (a0,m1,m2,m3,m4,a5)=some r→(∀ t∈jU a0 m1 m2 m3 m4 a5,Bd t)→GN a0 m1 m2 m3 m4 a5 (fun y=>y=r)):aJ Tryz.prog 100 fP :=
 eC (E:=FX) (Hs:=SF) XP a6 a7 (aM rfl) 8 ⟨_,_,Tryz.func100,rfl⟩ fun x r h1 h2=>by
  rw[RN]
  exact h x.1 x.2.1 x.2.2.1 x.2.2.2.1 x.2.2.2.2.1 x.2.2.2.2.2 r h1 h2
theorem LN:aJ Tryz.prog 100 fP:=AHD fun d m1 m2 m3 m4 id0 r h hb=>by
 obtain ⟨hx,hs,rfl⟩:=lE h
 simp only[Prod.mk.injEq,true_and] at hx
 obtain ⟨rfl,rfl,rfl,rfl⟩:=hx
 clear h
 unfold GN
 refine aY 65 (fun k s=>∃ id' l',s=(id',l',(k:Int),())∧l'.length=k∧upF d (65-k) id' l'=up d id0) ⟨id0,[],rfl,rfl,rfl⟩ ?_
 rintro X k s hk ⟨id',l',rfl,hl,hu⟩ hX
 dsimp only
 have stop:up d id0=([],false)→T.cF [T.sl false [],T.v (.bool false)]=Sh.enc [(false,.li .str),(false,.bool)] (up d id0):=fun h=>by rw[h];rfl
 refine bZ (fun hlt=>?_) fun hge=>stop ?_
 ·have hlt:k<65:=by omega
  obtain ⟨m,hm⟩:∃ m,65-k=m+1:=⟨64-k,by omega⟩
  rw[hm] at hu
  simp only[upF] at hu
  refine ixK (fun hn=>stop ?_) fun i j hj hn=>?_
  ·have hn:cC d id'=none:=hn
   rw[hn] at hu;exact hu.symm
  ·have hn:cC d id'=some d.2.1[j]:=hn
   simp only[hn] at hu
   rw[aT (r:=bM) hj,GY (by omega),jZ]
   refine bZ (fun h1=>?_) fun h1=>?_
   ·rw[if_pos h1] at hu
    rw[←hu,AKN];rfl
   ·rw[if_neg h1] at hu
    exact hX _ hlt ⟨_,_,by rw[show IntKind.i64.wrap ((k:Int)+1)=((k+1:Nat):Int) from aO _ (by omega) (by omega)],by simp[hl],by rw[←hu];congr 1;omega⟩
 ·have:65-k=0:=by omega
  rw[this] at hu
  exact hu.symm
def rE (d:aC) (n:jW):Int:=if oJ n.1=false then 6 else if ¬ n.2.1=1∧¬ n.2.1=2 then 10 else if n.2.1=1∧¬ n.2.2 = { data:=#[] } then 2 else if n.2.1=2∧(cC d n.2.2).isNone=true then 8 else 0
def AMG (d:aC):Bool:=d.2.1.any fun n=>!(up d n.1).2
def AKL (d:aC):Bool:=d.2.1.any fun n=>decide (8<(up d n.1).1.length)
def fI (d:aC):Int:=if bK (rE d) d.2.1=0 then (if AMG d=true then 20 else if AKL d=true then 13 else 0) else bK (rE d) d.2.1
def mL (a0:aC) (m1:List (ByteArray×Int)) (m2:List (ByteArray×Int)) (m3:List (ByteArray×Int)) (m4:List (ByteArray×Int)):List T:=[JU a0 m1 m2 m3 m4]
noncomputable def FA:Env:=Env.of [(99,.pure cQ),(100,.pure fP)]
def RQ:FuncId→Hint:=fun f=>match f == 48 with|true=>⟨fun r=>match r == 2 with|true=>.inv [.val 20 false (.int .i64)]|false=>match r == 16 with|true=>.inv [.val 7 false .bool,.val 74 false (.int .i64)]|false=>.none,fun _ _=>none,fun _=>none⟩|false=>aU
theorem W3:aF Tryz.prog FA:=aF.cons (x:=.pure cQ) ED (aF.cons (x:=.pure fP) LN (aF.nil _))
def F0 (a0:aC) (m1:List (ByteArray×Int)) (m2:List (ByteArray×Int)) (m3:List (ByteArray×Int)) (m4:List (ByteArray×Int)) (R:T→Prop):Prop :=
 bB (Int×PUnit)
 (fun (X0:Int×PUnit→Prop) (s1:Int×PUnit) =>
 aB (decide (s1.1<(↑(List.map bM.enc a0.2.1).length:Int)))
 (aP bM (List.map bM.enc a0.2.1) s1.1 fun (y2:jW) =>
 dT TypeDesc.string (Value.string y2.2.2) (nE (a8 m1)) false
 (Sy.int IntKind.i64)
 (aH [(false,Sy.bool)] (cQ [T.v (.string y2.1)]) fun (y6:Bool) =>
 aB (!y6) (R (T.v (.int .i64 6)))
 (aB (!decide (y2.2.1=1))
 (aB (!decide (y2.2.1=2)) (R (T.v (.int .i64 10)))
 (aB (decide (y2.2.1=1))
 (aB (!decide (y2.2.2 = { data:=#[] })) (R (T.v (.int .i64 2)))
 (aB (decide (y2.2.1=2)) (R (T.v (.int .i64 8)))
 (X0 (IntKind.i64.wrap (s1.1+1),()))))
 (aB (decide (y2.2.1=2)) (R (T.v (.int .i64 8)))
 (X0 (IntKind.i64.wrap (s1.1+1),())))))
 (aB (decide (y2.2.1=1))
 (aB (!decide (y2.2.2 = { data:=#[] })) (R (T.v (.int .i64 2)))
 (aB (decide (y2.2.1=2)) (R (T.v (.int .i64 8)))
 (X0 (IntKind.i64.wrap (s1.1+1),()))))
 (aB (decide (y2.2.1=2)) (R (T.v (.int .i64 8)))
 (X0 (IntKind.i64.wrap (s1.1+1),()))))))
 fun (i3:Nat) (y4:Int) =>
 aH [(false,Sy.bool)] (cQ [T.v (.string y2.1)]) fun (y5:Bool) =>
 aB (!y5) (R (T.v (.int .i64 6)))
 (aB (!decide (y2.2.1=1))
 (aB (!decide (y2.2.1=2)) (R (T.v (.int .i64 10)))
 (aB (decide (y2.2.1=1))
 (aB (!decide (y2.2.2 = { data:=#[] })) (R (T.v (.int .i64 2)))
 (aB (decide (y2.2.1=2)) (X0 (IntKind.i64.wrap (s1.1+1),()))
 (X0 (IntKind.i64.wrap (s1.1+1),()))))
 (aB (decide (y2.2.1=2)) (X0 (IntKind.i64.wrap (s1.1+1),()))
 (X0 (IntKind.i64.wrap (s1.1+1),())))))
 (aB (decide (y2.2.1=1))
 (aB (!decide (y2.2.2 = { data:=#[] })) (R (T.v (.int .i64 2)))
 (aB (decide (y2.2.1=2)) (X0 (IntKind.i64.wrap (s1.1+1),()))
 (X0 (IntKind.i64.wrap (s1.1+1),()))))
 (aB (decide (y2.2.1=2)) (X0 (IntKind.i64.wrap (s1.1+1),()))
 (X0 (IntKind.i64.wrap (s1.1+1),()))))))
 (bB (Bool×Int×PUnit)
 (fun (X7:Bool×Int×PUnit→Prop) (s8:Bool×Int×PUnit) =>
 aB (decide (s8.2.1<(↑(List.map bM.enc a0.2.1).length:Int)))
 (aP bM (List.map bM.enc a0.2.1) s8.2.1 fun (y9:jW) =>
 aH [(false,Sy.str.li),(false,Sy.bool)]
 (fP
 [T.ref
 [T.ref
 [T.v (.string a0.1),T.sl false (List.map bM.enc a0.2.1),
 T.sl false (List.map aQ.enc a0.2.2.1),
 T.sl false (List.map bT.enc a0.2.2.2.1),
 T.sl false (List.map aW.enc a0.2.2.2.2.1),
 T.sl false (List.map cO.enc a0.2.2.2.2.2)],
 T.mp (a8 m1),T.mp (a8 m2),T.mp (a8 m3),
 T.mp (a8 m4)],
 T.v (.string y9.1)])
 fun (y10:List ByteArray×Bool) =>
 aB (!y10.2) (R (T.v (.int .i64 20)))
 (aB s8.1 (X7 (true,IntKind.i64.wrap (s8.2.1+1),()))
 (X7
 (decide (8<(↑(List.map Sy.str.enc y10.1).length:Int)),
 IntKind.i64.wrap (s8.2.1+1),()))))
 (aB s8.1 (R (T.v (.int .i64 13)))
 (R (T.v (.int .i64 0)))))
 (false,0,())))
 (0,())
theorem Q0 ( a0 m1 m2 m3 m4 R):bJ aV Tryz.prog FA RQ 8 48 (mL a0 m1 m2 m3 m4) R=F0 a0 m1 m2 m3 m4 R:=by kernel_rfl
theorem MW (x y:aC×MP×MP×MP×MP) (h:mL x.1 x.2.1 x.2.2.1 x.2.2.2.1 x.2.2.2.2=mL y.1 y.2.1 y.2.2.1 y.2.2.2.1 y.2.2.2.2):x=y:=nD (List.cons.inj h).1
def CD (x:aC×MP×MP×MP×MP):Option T:=rG x (T.v (Value.int .i64 (fI x.1)))
noncomputable def o1:List T→Option (T):=gA (fun (x:aC×(List (ByteArray×Int))×(List (ByteArray×Int))×(List (ByteArray×Int))×List (ByteArray×Int))=>mL x.1 x.2.1 x.2.2.1 x.2.2.2.1 x.2.2.2.2) CD
theorem TQ (a0:aC) (m1:List (ByteArray×Int)) (m2:List (ByteArray×Int)) (m3:List (ByteArray×Int)) (m4:List (ByteArray×Int)):o1 (mL a0 m1 m2 m3 m4)=CD (a0,m1,m2,m3,m4):=j1 (A:=(fun (x:aC×(List (ByteArray×Int))×(List (ByteArray×Int))×(List (ByteArray×Int))×List (ByteArray×Int))=>mL x.1 x.2.1 x.2.2.1 x.2.2.2.1 x.2.2.2.2)) MW (a0,m1,m2,m3,m4)
theorem AGR (h:∀ (a0:aC) (m1:List (ByteArray×Int)) (m2:List (ByteArray×Int)) (m3:List (ByteArray×Int)) (m4:List (ByteArray×Int)) (r:T),CD (a0,m1,m2,m3,m4)=some r→(∀ t∈mL a0 m1 m2 m3 m4,Bd t)→F0 a0 m1 m2 m3 m4 (fun y=>y=r)):aJ Tryz.prog 48 o1 :=
 eC (E:=FA) (Hs:=RQ) W3 a6 a7 (aM rfl) 8 ⟨_,_,Tryz.func48,rfl⟩ fun x r h1 h2=>by
  rw[Q0]
  exact h x.1 x.2.1 x.2.2.1 x.2.2.2.1 x.2.2.2.2 r h1 h2
theorem DF {d:aC} (hs:kD d) (id:ByteArray):fP (jU d (fG (ids d.2.1)) (fG (ids d.2.2.1)) (fG (ids d.2.2.2.1)) (fG (ids d.2.2.2.2.1)) id)=some (Sh.enc [(false,.li .str),(false,.bool)] (up d id)):=by
 rw[UP];exact lF hs _
theorem kK (s:ByteArray) (K:Bool→Prop):aH [(false,Sy.bool)] (cQ [T.v (.string s)]) K=K (oJ s):=by
 rw[show cQ [T.v (.string s)]=E2 s from AF1]
 exact VT _ K
theorem AFE:aJ Tryz.prog 48 o1:=AGR fun d m1 m2 m3 m4 r h hb=>by
 obtain ⟨hx,hs,rfl⟩:=lE h
 simp only[Prod.mk.injEq,true_and] at hx
 obtain ⟨rfl,rfl,rfl,rfl⟩:=hx
 clear h
 have is:∀ {n:Int},fI d=n→T.v (.int .i64 n)=T.v (.int .i64 (fI d)):=fun h=>by rw[h]
 unfold F0
 refine mR (r:=bM) (rE d) hs.n (fun X s y hy hok hbad=>?_) fun h0=>?_
 ·have bad:∀ {n:Int},n≠0→rE d y=n→T.v (.int .i64 n)=T.v (.int .i64 (fI d)):=fun hn h=>is (by
   have:=hbad (by rw[h];exact hn)
   unfold fI
   rw[if_neg (by rw[this,h];exact hn),this,h])
  have tail:∀ {Z2 Z:Prop},oJ y.1=true→(y.2.1=2→Z2)→(rE d y=0→Z) →
   aB (!decide (y.2.1=1))
        (aB (!decide (y.2.1=2)) (T.v (.int .i64 10)=T.v (.int .i64 (fI d)))
         (aB (decide (y.2.1=1))
          (aB (!decide (y.2.2 = { data:=#[] })) (T.v (.int .i64 2)=T.v (.int .i64 (fI d)))
           (aB (decide (y.2.1=2)) Z2 Z))
          (aB (decide (y.2.1=2)) Z2 Z)))
        (aB (decide (y.2.1=1))
         (aB (!decide (y.2.2 = { data:=#[] })) (T.v (.int .i64 2)=T.v (.int .i64 (fI d)))
          (aB (decide (y.2.1=2)) Z2 Z))
         (aB (decide (y.2.1=2)) Z2 Z)):=by
   intro Z2 Z hid h2 h1
   refine mG (fun g1=>?_) fun g1=>?_
   ·refine mG (fun g2=>bad (by decide) (by unfold rE;rw[if_neg (by simp[hid]),if_pos ⟨g1,g2⟩])) fun g2=>?_
    refine bZ (fun h=>absurd h g1) fun _=>?_
    exact bZ (fun _=>h2 g2) fun h=>absurd g2 h
   ·refine bZ (fun _=>?_) fun h=>absurd g1 h
    refine mG (fun g3=>bad (by decide) (by unfold rE;rw[if_neg (by simp[hid]),if_neg (by simp[g1]),if_pos ⟨g1,g3⟩])) fun g3=>?_
    exact bZ (fun h=>by rw[g1] at h;cases h) fun h=>h1 (by unfold rE;rw[if_neg (by simp[hid]),if_neg (by simp[g1]),if_neg (by simp[g3]),if_neg (by simp[h])])
  refine ixK (fun hn=>?_) fun i j hj hn=>?_
  ·have hn:cC d y.2.2=none:=hn
   rw[kK]
   refine lC (fun hid=>bad (by decide) (by unfold rE;rw[if_pos hid])) fun hid=>?_
   refine tail hid (fun h2=>bad (by decide) ?_) fun h0=>hok h0
   unfold rE;rw[if_neg (by simp[hid]),if_neg (by simp[h2]),if_neg (by simp[h2]),if_pos ⟨h2,by rw[hn];rfl⟩]
  ·have hn:cC d y.2.2=some d.2.1[j]:=hn
   rw[kK]
   refine lC (fun hid=>bad (by decide) (by unfold rE;rw[if_pos hid])) fun hid=>?_
   refine tail hid (fun h2=>hok ?_) fun h0=>hok h0
   unfold rE;rw[if_neg (by simp[hid]),if_neg (by simp[h2]),if_neg (by simp[h2]),if_neg (by simp[hn])]
 ·have hn:d.2.1.length≤140737488355328:=hs.n
  refine aY d.2.1.length (fun k s=>s=((d.2.1.take k).any (fun n=>decide (8<(up d n.1).1.length)),(k:Int),())∧∀ n∈d.2.1.take k,(up d n.1).2=true) ⟨rfl,by simp⟩ ?_
  rintro X k s hk ⟨rfl,hall⟩ hX
  dsimp only
  refine bZ (fun hlt=>?_) fun hge=>?_
  ·rw[List.length_map] at hlt
   have hlt:k<d.2.1.length:=by omega
   rw[aT (r:=bM) hlt]
   refine aG (s:=[(false,.li .str),(false,.bool)]) (DF hs d.2.1[k].1) ?_
   have ht:d.2.1.take (k+1)=d.2.1.take k++[d.2.1[k]]:=List.take_succ_eq_append_getElem hlt
   have hw:IntKind.i64.wrap ((k:Int)+1)=((k+1:Nat):Int):=aO _ (by omega) (by omega)
   refine lC (fun hu=>is ?_) fun hu=>?_
   ·unfold fI
    rw[if_pos h0,if_pos (show AMG d=true from List.any_eq_true.2 ⟨_,List.getElem_mem hlt,by rw[hu];rfl⟩)]
   ·have hall':∀ n∈d.2.1.take (k+1),(up d n.1).2=true:=fun n hm=>by
     rw[ht] at hm
     rcases List.mem_append.1 hm with h|h
     ·exact hall n h
     ·simp at h;subst h;exact hu
    refine J5 (fun hd=>?_) fun hd=>?_
    ·refine hX _ hlt ⟨?_,hall'⟩
     rw[hw,ht,List.any_append,hd];rfl
    ·refine hX _ hlt ⟨?_,hall'⟩
     rw[hw,ht,List.any_append,hd]
     simp only[List.length_map,List.any_cons,List.any_nil,Bool.or_false,Bool.false_or,Prod.mk.injEq,and_true]
     congr 1
     exact propext ⟨fun h=>by omega,fun h=>by omega⟩
  ·rw[List.length_map] at hge
   have:k=d.2.1.length:=by omega
   subst this
   rw[List.take_length] at hall ⊢
   have hnu:AMG d=false:=by
    rw[Bool.eq_false_iff];intro h
    obtain ⟨n,hm,h⟩:=List.any_eq_true.1 h
    rw[hall n hm] at h;cases h
   refine J5 (fun h=>is ?_) fun h=>is ?_
   ·unfold fI;rw[if_pos h0,hnu,if_neg (by simp),if_pos (show AKL d=true from h)]
   ·unfold fI;rw[if_pos h0,hnu,if_neg (by simp),if_neg (by rw[show AKL d=false from h];simp)]
end Go.Pv
namespace Go.Pv
abbrev Pt:=Int×Int
def aE (a b c:Pt):Int:=(b.1-a.1)*(c.2-a.2)-(b.2-a.2)*(c.1-a.1)
def sQ (n:Int):Int:=if n<0 then -1 else if 0<n then 1 else 0
def Y2 (a b q:Pt):Bool:=decide (min a.1 b.1≤q.1)&&decide (q.1≤max a.1 b.1)&&(decide (min a.2 b.2≤q.2)&&decide (q.2≤max a.2 b.2))
def nF (a b q:Pt):Bool:=decide (aE a b q=0)&&Y2 a b q
def b9 (a b c d:Pt):Bool:=nF a b c||nF a b d||nF c d a||nF c d b||(decide (sQ (aE a b c)*sQ (aE a b d)<0)&&decide (sQ (aE c d a)*sQ (aE c d b)<0))
def cG (q:Pt):Prop:=-32768≤q.1∧q.1≤32768∧-32768≤q.2∧q.2≤32768
theorem wF {x y M N:Int} (hx:-M≤x∧x≤M) (hy:-N≤y∧y≤N) (hM:0≤M) (hN:0≤N):-(M*N)≤x*y∧x*y≤M*N:=by
 have h1:x.natAbs≤M.toNat:=by omega
 have h2:y.natAbs≤N.toNat:=by omega
 have h3:=Nat.mul_le_mul h1 h2
 rw[←Int.natAbs_mul] at h3
 have h4:((M.toNat*N.toNat:Nat):Int)=M*N:=by
  rw[Int.natCast_mul,Int.toNat_of_nonneg hM,Int.toNat_of_nonneg hN]
 omega
theorem AKH {a b c:Pt} (ha:cG a) (hb:cG b) (hc:cG c):(-4294967296≤(b.1-a.1)*(c.2-a.2)∧(b.1-a.1)*(c.2-a.2)≤4294967296)∧(-4294967296≤(b.2-a.2)*(c.1-a.1)∧(b.2-a.2)*(c.1-a.1)≤4294967296):=by
 unfold cG at ha hb hc
 have h1:=wF (x:=b.1-a.1) (y:=c.2-a.2) (M:=65536) (N:=65536) (by omega) (by omega) (by omega) (by omega)
 have h2:=wF (x:=b.2-a.2) (y:=c.1-a.1) (M:=65536) (N:=65536) (by omega) (by omega) (by omega) (by omega)
 constructor<;>constructor<;>omega
theorem ANK (n:Int):-1≤sQ n∧sQ n≤1:=by unfold sQ;split<;>(try split)<;>omega
theorem qL (a b c d:Pt):b9 a b c d=b9 c d a b:=by
 unfold b9
 cases nF a b c<;>cases nF a b d<;>cases nF c d a<;>cases nF c d b<;>simp[Bool.and_comm]
end Go.Pv
namespace Go.Pv
theorem O4 (a b u v:Pt):aE u v b-aE u v a+aE a b v-aE a b u=0:=by
 simp only[aE];grind
theorem AVS (a b u v:Pt):(a.2-u.2)*aE u v b-(b.2-u.2)*aE u v a-(v.2-u.2)*aE a b u=0:=by
 simp only[aE];grind
theorem AVT (a b u v:Pt):(a.2-v.2)*aE u v b-(b.2-v.2)*aE u v a+(u.2-v.2)*aE a b v=0:=by
 simp only[aE];grind
theorem AVQ (a b u v:Pt):(b.2-a.2)*aE u v a+(v.2-a.2)*aE a b u-(u.2-a.2)*aE a b v=0:=by
 simp only[aE];grind
theorem AVR (a b u v:Pt):(b.2-a.2)*aE u v b+(v.2-b.2)*aE a b u-(u.2-b.2)*aE a b v=0:=by
 simp only[aE];grind
end Go.Pv
namespace Go.Pv
def hit (a b q:Pt):Bool:=(decide (a.2≤q.2)&&decide (q.2<b.2)&&decide (0<aE a b q))||(decide (b.2≤q.2)&&decide (q.2<a.2)&&decide (aE a b q<0))
def dr (u v w:Pt):Bool:=decide (u.2<w.2)&&decide (w.2≤v.2)&&decide (aE u v w<0)
theorem eX (a b q:Pt):aE b a q = - aE a b q:=by simp only[aE];grind
theorem UT (a b q:Pt):hit a b q=hit b a q:=by
 have e1:decide (0<aE b a q)=decide (aE a b q<0):=decide_eq_decide.2 (by rw[eX a b q];omega)
 have e2:decide (aE b a q<0)=decide (0<aE a b q):=decide_eq_decide.2 (by rw[eX a b q];omega)
 unfold hit
 rw[e1,e2,Bool.or_comm]
theorem ATM {a b q:Pt} (h:aE a b q=0) (hab:a.2<b.2) (h1:a.2≤q.2) (h2:q.2≤b.2):Y2 a b q=true:=by
 have e:(b.1-a.1)*(q.2-a.2)=(b.2-a.2)*(q.1-a.1):=by unfold aE at h;omega
 have hx:min a.1 b.1≤q.1∧q.1≤max a.1 b.1:=by
  rcases Int.le_total a.1 b.1 with hd|hd
  ·have m1:=Int.mul_nonneg (show 0≤b.1-a.1 by omega) (show 0≤q.2-a.2 by omega)
   have m2:(b.1-a.1)*(q.2-a.2)≤(b.1-a.1)*(b.2-a.2):=Int.mul_le_mul_of_nonneg_left (by omega) (by omega)
   have p1:0≤q.1-a.1:=by
    refine Int.not_lt.1 fun h=>?_
    have:=Int.mul_neg_of_pos_of_neg (show 0<b.2-a.2 by omega) h
    omega
   have p2:q.1-a.1≤b.1-a.1:=by
    refine Int.not_lt.1 fun h=>?_
    have h3:=Int.mul_lt_mul_of_pos_left h (show 0<b.2-a.2 by omega)
    have h4:(b.2-a.2)*(b.1-a.1)=(b.1-a.1)*(b.2-a.2):=Int.mul_comm _ _
    omega
   omega
  ·have m1:=Int.mul_nonneg (show 0≤a.1-b.1 by omega) (show 0≤q.2-a.2 by omega)
   have m2:(a.1-b.1)*(q.2-a.2)≤(a.1-b.1)*(b.2-a.2):=Int.mul_le_mul_of_nonneg_left (by omega) (by omega)
   have e1:(a.1-b.1)*(q.2-a.2) = - ((b.1-a.1)*(q.2-a.2)):=by grind
   have p1:q.1-a.1≤0:=by
    refine Int.not_lt.1 fun h=>?_
    have:=Int.mul_pos (show 0<b.2-a.2 by omega) h
    omega
   have p2:b.1-a.1≤q.1-a.1:=by
    refine Int.not_lt.1 fun h=>?_
    have h3:=Int.mul_lt_mul_of_pos_left h (show 0<b.2-a.2 by omega)
    have h4:(a.1-b.1)*(b.2-a.2) = - ((b.2-a.2)*(b.1-a.1)):=by grind
    omega
   omega
 simp only[Y2,Bool.and_eq_true,decide_eq_true_eq]
 omega
theorem j5 {a b q:Pt} (h:aE a b q=0) (hab:a.2<b.2) (h1:a.2≤q.2) (h2:q.2≤b.2):nF a b q=true:=by
 unfold nF;rw[decide_eq_true h,ATM h hab h1 h2];rfl
theorem PG {a b q:Pt} (h1:a.2=q.2) (h2:b.2=q.2) (h3:min a.1 b.1≤q.1) (h4:q.1≤max a.1 b.1):nF a b q=true:=by
 unfold nF Y2 aE
 simp only[Bool.and_eq_true,decide_eq_true_eq]
 refine ⟨?_,⟨h3,h4⟩,by omega⟩
 rw[h1,h2];grind
theorem lD {a b u v:Pt} (hm:b9 a b u v=false):¬ (((0<aE a b u∧aE a b v<0)∨(aE a b u<0∧0<aE a b v))∧((0<aE u v a∧aE u v b<0)∨(aE u v a<0∧0<aE u v b))):=by
 rintro ⟨h1,h2⟩
 have s1:sQ (aE a b u)*sQ (aE a b v)<0:=by
  unfold sQ
  rcases h1 with ⟨h,h'⟩|⟨h,h'⟩
  ·rw[if_neg (by omega),if_pos h,if_pos h'];decide
  ·rw[if_pos h,if_neg (by omega),if_pos h'];decide
 have s2:sQ (aE u v a)*sQ (aE u v b)<0:=by
  unfold sQ
  rcases h2 with ⟨h,h'⟩|⟨h,h'⟩
  ·rw[if_neg (by omega),if_pos h,if_pos h'];decide
  ·rw[if_pos h,if_neg (by omega),if_pos h'];decide
 simp[b9,s1,s2] at hm
theorem mX {a b u v:Pt} (hm:b9 a b u v=false):nF a b u=false∧nF a b v=false∧nF u v a=false∧nF u v b=false:=by
 simp only[b9,Bool.or_eq_false_iff] at hm
 exact ⟨hm.1.1.1.1,hm.1.1.1.2,hm.1.1.2,hm.1.2⟩
theorem VS {a b u v:Pt} (huv:u.2≤v.2) (hm:b9 a b u v=false) (h1:a.2≤u.2) (h2:v.2<b.2):0<aE a b u↔0<aE a b v:=by
 obtain ⟨n1,n2,n3,n4⟩:=mX hm
 have ms:=lD hm
 have i1:=O4 a b u v
 have i2:=AVS a b u v
 have i3:=AVT a b u v
 have z1:aE a b u≠0:=fun h=>by rw[j5 h (by omega) h1 (by omega)] at n1;cases n1
 have z2:aE a b v≠0:=fun h=>by rw[j5 h (by omega) (by omega) (by omega)] at n2;cases n2
 have e1:(a.2-u.2)*aE u v b = - ((u.2-a.2)*aE u v b):=by grind
 have e2:(a.2-v.2)*aE u v b = - ((v.2-a.2)*aE u v b):=by grind
 have e3:(u.2-v.2)*aE a b v = - ((v.2-u.2)*aE a b v):=by grind
 have flat:u.2=v.2→a.2=u.2→((0<aE a b u∧aE a b v<0)∨(aE a b u<0∧0<aE a b v))→False:=by
  intro g1 g2 g3
  have c1:aE a b u = -((b.2-a.2)*(u.1-a.1)):=by unfold aE;rw[g2];grind
  have c2:aE a b v = -((b.2-a.2)*(v.1-a.1)):=by unfold aE;rw[g2,g1];grind
  have sg:∀ x:Int,(0<(b.2-a.2)*x→0<x)∧((b.2-a.2)*x<0→x<0):=fun x=>by
   refine ⟨fun h=>Int.not_le.1 fun hx=>?_,fun h=>Int.not_le.1 fun hx=>?_⟩
   ·have:=Int.mul_nonpos_of_nonneg_of_nonpos (show 0≤b.2-a.2 by omega) hx
    omega
   ·have:=Int.mul_nonneg (show 0≤b.2-a.2 by omega) hx
    omega
  have k1:=sg (u.1-a.1)
  have k2:=sg (v.1-a.1)
  have:nF u v a=true:=PG (by omega) (by omega) (by omega) (by omega)
  rw[this] at n3;cases n3
 constructor
 ·intro t1
  refine Int.not_le.1 fun t2=>?_
  have t2:aE a b v<0:=by omega
  have b1:=Int.mul_nonneg (show 0≤v.2-u.2 by omega) (Int.le_of_lt t1)
  have b2:=Int.mul_nonpos_of_nonneg_of_nonpos (show 0≤v.2-u.2 by omega) (Int.le_of_lt t2)
  rcases Int.lt_or_le (aE u v a) 0 with s1|s1
  ·rcases Int.lt_or_le 0 (aE u v b) with s2|s2
   ·exact ms ⟨.inl ⟨t1,t2⟩,.inr ⟨s1,s2⟩⟩
   ·have c1:=Int.mul_nonpos_of_nonneg_of_nonpos (show 0≤v.2-a.2 by omega) s2
    have c2:=Int.mul_neg_of_pos_of_neg (show 0<b.2-v.2 by omega) s1
    omega
  ·have s2:0<aE u v b:=by omega
   have c1:=Int.mul_nonneg (show 0≤u.2-a.2 by omega) (Int.le_of_lt s2)
   have c2:=Int.mul_nonneg (show 0≤b.2-u.2 by omega) s1
   have g1:v.2-u.2=0:=by
    refine Classical.byContradiction fun h=>?_
    have:=Int.mul_pos (show 0<v.2-u.2 by omega) t1
    omega
   have g2:u.2-a.2=0:=by
    refine Classical.byContradiction fun h=>?_
    have:=Int.mul_pos (show 0<u.2-a.2 by omega) s2
    omega
   exact flat (by omega) (by omega) (.inl ⟨t1,t2⟩)
 ·intro t2
  refine Int.not_le.1 fun t1=>?_
  have t1:aE a b u<0:=by omega
  have b2:=Int.mul_nonneg (show 0≤v.2-u.2 by omega) (Int.le_of_lt t2)
  have b1:=Int.mul_nonpos_of_nonneg_of_nonpos (show 0≤v.2-u.2 by omega) (Int.le_of_lt t1)
  rcases Int.lt_or_le 0 (aE u v a) with s1|s1
  ·rcases Int.lt_or_le (aE u v b) 0 with s2|s2
   ·exact ms ⟨.inr ⟨t1,t2⟩,.inl ⟨s1,s2⟩⟩
   ·have c1:=Int.mul_nonneg (show 0≤v.2-a.2 by omega) s2
    have c2:=Int.mul_pos (show 0<b.2-v.2 by omega) s1
    omega
  ·have s2:aE u v b<0:=by omega
   have c1:=Int.mul_nonpos_of_nonneg_of_nonpos (show 0≤u.2-a.2 by omega) (Int.le_of_lt s2)
   have c2:=Int.mul_nonpos_of_nonneg_of_nonpos (show 0≤b.2-u.2 by omega) s1
   have g1:v.2-u.2=0:=by
    refine Classical.byContradiction fun h=>?_
    have:=Int.mul_neg_of_pos_of_neg (show 0<v.2-u.2 by omega) t1
    omega
   have g2:u.2-a.2=0:=by
    refine Classical.byContradiction fun h=>?_
    have:=Int.mul_neg_of_pos_of_neg (show 0<u.2-a.2 by omega) s2
    omega
   exact flat (by omega) (by omega) (.inr ⟨t1,t2⟩)
end Go.Pv
namespace Go.Pv
theorem AQT {a b u v:Pt} (hm:b9 a b u v=false) (h1:a.2≤u.2) (h2:u.2<b.2) (h3:b.2≤v.2):0<aE a b u↔aE u v b<0:=by
 obtain ⟨n1,n2,n3,n4⟩:=mX hm
 have ms:=lD hm
 have i2:=AVS a b u v
 have i4:=AVR a b u v
 have z1:aE a b u≠0:=fun h=>by rw[j5 h (by omega) h1 (by omega)] at n1;cases n1
 have z2:aE u v b≠0:=fun h=>by rw[j5 h (by omega) (by omega) (by omega)] at n4;cases n4
 have e1:(a.2-u.2)*aE u v b = - ((u.2-a.2)*aE u v b):=by grind
 have e2:(u.2-b.2)*aE a b v = - ((b.2-u.2)*aE a b v):=by grind
 constructor
 ·intro t1
  refine Int.not_le.1 fun s2=>?_
  have s2:0<aE u v b:=by omega
  have c1:=Int.mul_pos (show 0<b.2-a.2 by omega) s2
  have c2:=Int.mul_nonneg (show 0≤v.2-b.2 by omega) (Int.le_of_lt t1)
  have t2:aE a b v<0:=Int.not_le.1 fun h=>by
   have:=Int.mul_nonneg (show 0≤b.2-u.2 by omega) h
   omega
  have c3:=Int.mul_nonneg (show 0≤u.2-a.2 by omega) (Int.le_of_lt s2)
  have c4:=Int.mul_pos (show 0<v.2-u.2 by omega) t1
  have s1:aE u v a<0:=Int.not_le.1 fun h=>by
   have:=Int.mul_nonneg (show 0≤b.2-u.2 by omega) h
   omega
  exact ms ⟨.inl ⟨t1,t2⟩,.inr ⟨s1,s2⟩⟩
 ·intro s2
  refine Int.not_le.1 fun t1=>?_
  have t1:aE a b u<0:=by omega
  have c1:=Int.mul_neg_of_pos_of_neg (show 0<b.2-a.2 by omega) s2
  have c2:=Int.mul_nonpos_of_nonneg_of_nonpos (show 0≤v.2-b.2 by omega) (Int.le_of_lt t1)
  have t2:0<aE a b v:=Int.not_le.1 fun h=>by
   have:=Int.mul_nonpos_of_nonneg_of_nonpos (show 0≤b.2-u.2 by omega) h
   omega
  have c3:=Int.mul_nonpos_of_nonneg_of_nonpos (show 0≤u.2-a.2 by omega) (Int.le_of_lt s2)
  have c4:=Int.mul_neg_of_pos_of_neg (show 0<v.2-u.2 by omega) t1
  have s1:0<aE u v a:=Int.not_le.1 fun h=>by
   have:=Int.mul_nonpos_of_nonneg_of_nonpos (show 0≤b.2-u.2 by omega) h
   omega
  exact ms ⟨.inr ⟨t1,t2⟩,.inl ⟨s1,s2⟩⟩
theorem AMY {a b u v:Pt} (hm:b9 a b u v=false) (h1:u.2<a.2) (h2:a.2≤v.2) (h3:v.2<b.2):0<aE a b v↔aE u v a<0:=by
 obtain ⟨n1,n2,n3,n4⟩:=mX hm
 have ms:=lD hm
 have i3:=AVT a b u v
 have i4:=AVQ a b u v
 have z1:aE a b v≠0:=fun h=>by rw[j5 h (by omega) h2 (by omega)] at n2;cases n2
 have z2:aE u v a≠0:=fun h=>by rw[j5 h (by omega) (by omega) (by omega)] at n3;cases n3
 have e1:(a.2-v.2)*aE u v b = - ((v.2-a.2)*aE u v b):=by grind
 have e2:(u.2-v.2)*aE a b v = - ((v.2-u.2)*aE a b v):=by grind
 have e3:(u.2-a.2)*aE a b v = - ((a.2-u.2)*aE a b v):=by grind
 constructor
 ·intro t2
  refine Int.not_le.1 fun s1=>?_
  have s1:0<aE u v a:=by omega
  have c1:=Int.mul_pos (show 0<b.2-v.2 by omega) s1
  have c2:=Int.mul_pos (show 0<v.2-u.2 by omega) t2
  have c3:=Int.mul_pos (show 0<b.2-a.2 by omega) s1
  have c4:=Int.mul_pos (show 0<a.2-u.2 by omega) t2
  have s2:aE u v b<0:=Int.not_le.1 fun h=>by
   have:=Int.mul_nonneg (show 0≤v.2-a.2 by omega) h
   omega
  have t1:aE a b u<0:=Int.not_le.1 fun h=>by
   have:=Int.mul_nonneg (show 0≤v.2-a.2 by omega) h
   omega
  exact ms ⟨.inr ⟨t1,t2⟩,.inl ⟨s1,s2⟩⟩
 ·intro s1
  refine Int.not_le.1 fun t2=>?_
  have t2:aE a b v<0:=by omega
  have c1:=Int.mul_neg_of_pos_of_neg (show 0<b.2-v.2 by omega) s1
  have c2:=Int.mul_neg_of_pos_of_neg (show 0<v.2-u.2 by omega) t2
  have c3:=Int.mul_neg_of_pos_of_neg (show 0<b.2-a.2 by omega) s1
  have c4:=Int.mul_neg_of_pos_of_neg (show 0<a.2-u.2 by omega) t2
  have s2:0<aE u v b:=Int.not_le.1 fun h=>by
   have:=Int.mul_nonpos_of_nonneg_of_nonpos (show 0≤v.2-a.2 by omega) h
   omega
  have t1:0<aE a b u:=Int.not_le.1 fun h=>by
   have:=Int.mul_nonpos_of_nonneg_of_nonpos (show 0≤v.2-a.2 by omega) h
   omega
  exact ms ⟨.inl ⟨t1,t2⟩,.inr ⟨s1,s2⟩⟩
theorem AQU {a b u v:Pt} (hm:b9 a b u v=false) (h1:u.2<a.2) (h2:a.2≤b.2) (h3:b.2≤v.2):aE u v a<0↔aE u v b<0:=by
 obtain ⟨n1,n2,n3,n4⟩:=mX hm
 have ms:=lD hm
 have i1:=O4 a b u v
 have i3:=AVQ a b u v
 have i4:=AVR a b u v
 have z1:aE u v a≠0:=fun h=>by rw[j5 h (by omega) (by omega) (by omega)] at n3;cases n3
 have z2:aE u v b≠0:=fun h=>by rw[j5 h (by omega) (by omega) (by omega)] at n4;cases n4
 have e2:(u.2-a.2)*aE a b v = - ((a.2-u.2)*aE a b v):=by grind
 have e3:(u.2-b.2)*aE a b v = - ((b.2-u.2)*aE a b v):=by grind
 have flat:a.2=b.2→v.2=b.2→((aE u v a<0∧0<aE u v b)∨(0<aE u v a∧aE u v b<0))→False:=by
  intro g1 g2 g3
  have c1:aE u v a=(v.2-u.2)*(v.1-a.1):=by unfold aE;rw[show a.2=v.2 by omega];grind
  have c2:aE u v b=(v.2-u.2)*(v.1-b.1):=by unfold aE;rw[show b.2=v.2 by omega];grind
  have sg:∀ x:Int,(0<(v.2-u.2)*x→0<x)∧((v.2-u.2)*x<0→x<0):=fun x=>by
   refine ⟨fun h=>Int.not_le.1 fun hx=>?_,fun h=>Int.not_le.1 fun hx=>?_⟩
   ·have:=Int.mul_nonpos_of_nonneg_of_nonpos (show 0≤v.2-u.2 by omega) hx
    omega
   ·have:=Int.mul_nonneg (show 0≤v.2-u.2 by omega) hx
    omega
  have k1:=sg (v.1-a.1)
  have k2:=sg (v.1-b.1)
  have:nF a b v=true:=PG (by omega) (by omega) (by omega) (by omega)
  rw[this] at n2;cases n2
 constructor
 ·intro s1
  refine Int.not_le.1 fun s2=>?_
  have s2:0<aE u v b:=by omega
  have d1:=Int.mul_nonpos_of_nonneg_of_nonpos (show 0≤b.2-a.2 by omega) (Int.le_of_lt s1)
  have d2:=Int.mul_nonneg (show 0≤b.2-a.2 by omega) (Int.le_of_lt s2)
  rcases Int.lt_or_le (aE a b v) 0 with t2|t2
  ·rcases Int.lt_or_le 0 (aE a b u) with t1|t1
   ·exact ms ⟨.inl ⟨t1,t2⟩,.inr ⟨s1,s2⟩⟩
   ·have c1:=Int.mul_nonpos_of_nonneg_of_nonpos (show 0≤v.2-a.2 by omega) t1
    have c2:=Int.mul_neg_of_pos_of_neg (show 0<a.2-u.2 by omega) t2
    omega
  ·have t1:0<aE a b u:=by omega
   have c1:=Int.mul_nonneg (show 0≤v.2-b.2 by omega) (Int.le_of_lt t1)
   have c2:=Int.mul_nonneg (show 0≤b.2-u.2 by omega) t2
   have g1:b.2-a.2=0:=Classical.byContradiction fun h=>by
    have:=Int.mul_pos (show 0<b.2-a.2 by omega) s2
    omega
   have g2:v.2-b.2=0:=Classical.byContradiction fun h=>by
    have:=Int.mul_pos (show 0<v.2-b.2 by omega) t1
    omega
   exact flat (by omega) (by omega) (.inl ⟨s1,s2⟩)
 ·intro s2
  refine Int.not_le.1 fun s1=>?_
  have s1:0<aE u v a:=by omega
  have d1:=Int.mul_nonneg (show 0≤b.2-a.2 by omega) (Int.le_of_lt s1)
  have d2:=Int.mul_nonpos_of_nonneg_of_nonpos (show 0≤b.2-a.2 by omega) (Int.le_of_lt s2)
  rcases Int.lt_or_le 0 (aE a b v) with t2|t2
  ·rcases Int.lt_or_le (aE a b u) 0 with t1|t1
   ·exact ms ⟨.inr ⟨t1,t2⟩,.inl ⟨s1,s2⟩⟩
   ·have c1:=Int.mul_nonneg (show 0≤v.2-a.2 by omega) t1
    have c2:=Int.mul_pos (show 0<a.2-u.2 by omega) t2
    omega
  ·have t1:aE a b u<0:=by omega
   have c1:=Int.mul_nonpos_of_nonneg_of_nonpos (show 0≤v.2-b.2 by omega) (Int.le_of_lt t1)
   have c2:=Int.mul_nonpos_of_nonneg_of_nonpos (show 0≤b.2-u.2 by omega) t2
   have g1:b.2-a.2=0:=Classical.byContradiction fun h=>by
    have:=Int.mul_neg_of_pos_of_neg (show 0<b.2-a.2 by omega) s2
    omega
   have g2:v.2-b.2=0:=Classical.byContradiction fun h=>by
    have:=Int.mul_neg_of_pos_of_neg (show 0<v.2-b.2 by omega) t1
    omega
   exact flat (by omega) (by omega) (.inr ⟨s1,s2⟩)
theorem LC {a b u v:Pt} (huv:u.2≤v.2) (hab:a.2≤b.2) (hm:b9 a b u v=false):(hit a b u ^^ hit a b v)=(dr u v a ^^ dr u v b):=by
 have dn:∀ q:Pt,(decide (b.2≤q.2)&&decide (q.2<a.2)&&decide (aE a b q<0))=false:=fun q=>by
  rw[Bool.eq_false_iff];intro h;simp only[Bool.and_eq_true,decide_eq_true_eq] at h;omega
 unfold hit dr
 rw[dn u,dn v,Bool.or_false,Bool.or_false]
 rcases Int.lt_or_le u.2 b.2 with hb|hb
 ·rcases Int.lt_or_le v.2 a.2 with ha|ha
  ·simp[show ¬ a.2≤u.2 by omega,show ¬ a.2≤v.2 by omega,show ¬ b.2≤v.2 by omega]
  ·rcases Int.lt_or_le u.2 a.2 with ha2|ha2
   ·rcases Int.lt_or_le v.2 b.2 with hb2|hb2
    ·have:=AMY hm ha2 ha hb2
     simp[show ¬ a.2≤u.2 by omega,ha,hb2,show ¬ b.2≤v.2 by omega,ha2,this]
    ·have:=AQU hm ha2 hab hb2
     simp[show ¬ a.2≤u.2 by omega,ha,show ¬ v.2<b.2 by omega,hb2,ha2,hb,this]
   ·rcases Int.lt_or_le v.2 b.2 with hb2|hb2
    ·have:=VS huv hm ha2 hb2
     simp[ha2,ha,hb,hb2,show ¬ b.2≤v.2 by omega,show ¬ u.2<a.2 by omega,this]
    ·have:=AQT hm ha2 hb hb2
     simp[ha2,ha,hb,hb2,show ¬ v.2<b.2 by omega,show ¬ u.2<a.2 by omega,this]
 ·simp[show ¬ u.2<b.2 by omega,show ¬ v.2<b.2 by omega,show ¬ u.2<a.2 by omega]
end Go.Pv
namespace Go.Pv
theorem AJ7 (a b q:Pt):Y2 b a q=Y2 a b q:=by unfold Y2;rw[Int.min_comm b.1,Int.max_comm b.1,Int.min_comm b.2,Int.max_comm b.2]
theorem EJ (a b q:Pt):nF b a q=nF a b q:=by
 unfold nF;rw[AJ7,eX a b q]
 congr 1
 exact decide_eq_decide.2 (by omega)
theorem ADE (n:Int):sQ (-n) = - sQ n:=by unfold sQ;split<;>split<;>(try split)<;>omega
theorem BV (a b u v:Pt):b9 b a u v=b9 a b u v:=by
 unfold b9
 rw[EJ a b u,EJ a b v,eX a b u,eX a b v,ADE,ADE,Int.neg_mul_neg,Int.mul_comm (sQ (aE u v b))]
 cases nF a b u<;>cases nF a b v<;>cases nF u v a<;>cases nF u v b<;>rfl
theorem IJ (a b u v:Pt):b9 a b v u=b9 a b u v:=by rw[qL a b v u,BV,qL u v a b]
theorem G9 {a b u v:Pt} (huv:u.2≤v.2) (hm:b9 a b u v=false):(hit a b u ^^ hit a b v)=(dr u v a ^^ dr u v b):=by
 rcases Int.le_total a.2 b.2 with h|h
 ·exact LC huv h hm
 ·rw[UT a b u,UT a b v,Bool.xor_comm (dr u v a)]
  exact LC huv h (by rw[BV];exact hm)
def eZ:Nat→(Nat→Bool)→Bool
 | 0,_=>false
 | n+1,f=>eZ n f ^^ f n
theorem fL {f g:Nat→Bool}:∀ {n:Nat},(∀ i,i<n→f i=g i)→eZ n f=eZ n g
 | 0,_=>rfl
 | n+1,h=>by rw[eZ,eZ,fL fun i hi=>h i (by omega),h n (by omega)]
theorem lM (f g:Nat→Bool):∀ n:Nat,eZ n (fun i=>f i ^^ g i)=(eZ n f ^^ eZ n g)
 | 0=>rfl
 | n+1=>by
  rw[eZ,eZ,eZ,lM f g n]
  cases eZ n f<;>cases eZ n g<;>cases f n<;>cases g n<;>rfl
theorem J1 (f:Nat→Bool):∀ n:Nat,eZ (n+1) f=(f 0 ^^ eZ n fun i=>f (i+1))
 | 0=>by simp[eZ]
 | n+1=>by
  rw[eZ,J1 f n,eZ]
  cases f 0<;>cases f (n+1)<;>cases eZ n (fun i=>f (i+1))<;>rfl
theorem AN6 (d:Nat→Bool) (n:Nat):eZ n (fun i=>d ((i+1) % n))=eZ n d:=by
 cases n with
 | zero=>rfl
 | succ m =>
  rw[J1 d m,eZ,Nat.mod_self]
  rw[fL (g:=fun i=>d (i+1)) fun i hi=>by rw[Nat.mod_eq_of_lt (by omega)]]
  cases d 0<;>cases eZ m (fun i=>d (i+1))<;>rfl
theorem pT (d:Nat→Bool) (n:Nat):eZ n (fun i=>d i ^^ d ((i+1) % n))=false:=by
 rw[lM,AN6];cases eZ n d<;>rfl
def pt (p:List Pt) (i:Nat):Pt:=p.getD i (0,0)
def nx (p:List Pt) (i:Nat):Pt:=pt p ((i+1) % p.length)
def fF (p:List Pt) (q:Pt):Bool:=eZ p.length fun i=>hit (pt p i) (nx p i) q
theorem DH {p:List Pt} {u v:Pt} (huv:u.2≤v.2) (h:∀ i,i<p.length→b9 (pt p i) (nx p i) u v=false):fF p u=fF p v:=by
 have e:(fF p u ^^ fF p v)=false:=by
  unfold fF
  rw[←lM,fL fun i hi=>G9 huv (h i hi)]
  exact pT (fun i=>dr u v (pt p i)) p.length
 revert e
 cases fF p u<;>cases fF p v<;>simp
theorem IA {p:List Pt} {u v:Pt} (h:∀ i,i<p.length→b9 (pt p i) (nx p i) u v=false):fF p u=fF p v:=by
 rcases Int.le_total u.2 v.2 with huv|huv
 ·exact DH huv h
 ·exact (DH huv fun i hi=>by rw[IJ];exact h i hi).symm
end Go.Pv
namespace Go.Pv
open Go Go.Proofs
instance AWU (q:Pt):Decidable (cG q):=by unfold cG;infer_instance
theorem fX {a b:Bool} (h:a=b):T.v (.bool a)=T.v (.bool b):=by rw[h]
theorem DW {a b:Int} (h:a=b):T.v (.int .i64 a)=T.v (.int .i64 b):=by rw[h]
def IL {α:Type} (a b c:Pt) (r:α):Option α:=match decide (cG a∧cG b∧cG c) with
 | true=>some r
 | false=>none
theorem IM {α:Type} {a b c:Pt} {t r:α} (h:IL a b c t=some r):cG a∧cG b∧cG c∧r=t:=by
 unfold IL at h;split at h
 ·rename_i hc
  cases h
  obtain ⟨h1,h2,h3⟩:=of_decide_eq_true hc
  exact ⟨h1,h2,h3,rfl⟩
 ·cases h
theorem IP {α:Type} {a b c:Pt} (t:α) (ha:cG a) (hb:cG b) (hc:cG c):IL a b c t=some t:=by unfold IL;rw[decide_eq_true ⟨ha,hb,hc⟩]
theorem JZ {a b c:Pt} (ha:cG a) (hb:cG b) (hc:cG c):IntKind.i64.wrap (IntKind.i64.wrap (IntKind.i64.wrap (b.1-a.1)*IntKind.i64.wrap (c.2-a.2))-IntKind.i64.wrap (IntKind.i64.wrap (b.2-a.2)*IntKind.i64.wrap (c.1-a.1)))=aE a b c:=by
 have h:=AKH ha hb hc
 unfold cG at ha hb hc
 rw[aO (b.1-a.1) (by omega) (by omega),aO (c.2-a.2) (by omega) (by omega),aO (b.2-a.2) (by omega) (by omega),aO (c.1-a.1) (by omega) (by omega),
  aO ((b.1-a.1)*(c.2-a.2)) (by omega) (by omega),aO ((b.2-a.2)*(c.1-a.1)) (by omega) (by omega),aO _ (by omega) (by omega)]
 rfl
theorem zG (m n:Int):IntKind.i64.wrap (sQ m*sQ n)=sQ m*sQ n:=by
 have h:=wF (ANK m) (ANK n) (by omega) (by omega)
 exact aO _ (by omega) (by omega)
theorem PB (a b:Int):(if b<a then b else a)=min a b:=by omega
theorem PA (a b:Int):(if a<b then b else a)=max a b:=by omega
noncomputable def FL:Env:=Env.of []
def R3:FuncId→Hint:=fun _=>aU
theorem XE:aF Tryz.prog FL:=aF.nil _
def GB (a0:aK) (a1:aK) (a2:aK) (R:T→Prop):Prop :=
 R
 (T.v
 (Value.int IntKind.i64
 (IntKind.i64.wrap
 (IntKind.i64.wrap (IntKind.i64.wrap (a1.1-a0.1)*IntKind.i64.wrap (a2.2-a0.2)) -
 IntKind.i64.wrap (IntKind.i64.wrap (a1.2-a0.2)*IntKind.i64.wrap (a2.1-a0.1))))))
theorem RB ( a0 a1 a2 R):bJ aV Tryz.prog FL R3 8 199 [aD true aA a0,aD true aA a1,aD true aA a2] R=GB a0 a1 a2 R:=by kernel_rfl
abbrev yO:Sh:=[(true,aA),(true,aA),(true,aA)]
def CM (x:aK×aK×aK):Option T:=IL x.1 x.2.1 x.2.2 (T.v (Value.int .i64 (aE x.1 x.2.1 x.2.2)))
noncomputable def cT:List T→Option (T):=gS yO CM
theorem T6 {a0 a1 a2}:cT [aD true aA a0,aD true aA a1,aD true aA a2]=CM (a0,a1,a2):=bH (s:=yO) rfl (a0,a1,a2) rfl
theorem AG2 (h:∀ a0 a1 a2 r,CM (a0,a1,a2)=some r→cR yO (a0,a1,a2)→GB a0 a1 a2 (fun y=>y=r)):aJ Tryz.prog 199 cT :=
 aX (E:=FL) (Hs:=R3) XE a6 a7 (aM rfl) 8 ⟨_,_,Tryz.func199,rfl⟩ rfl fun x r h1 h2=>by
  obtain ⟨a0,a1,a2⟩:=x
  rw[show Sh.cA yO (a0,a1,a2)=[aD true aA a0,aD true aA a1,aD true aA a2] from rfl,RB]
  exact h a0 a1 a2 r h1 h2
theorem tJ:aJ Tryz.prog 199 cT:=AG2 fun a b c r h hb=>by
 obtain ⟨h1,h2,h3,rfl⟩:=IM h
 unfold GB
 exact DW (JZ h1 h2 h3)
theorem gJ {a b c:Pt} (h1:cG a) (h2:cG b) (h3:cG c):cT [aD true aA a,aD true aA b,aD true aA c]=some (Sh.enc [(false,.int .i64)] (aE a b c)):=(T6 ..).trans (IP _ h1 h2 h3)
noncomputable def FU:Env:=Env.of []
def SC:FuncId→Hint:=fun _=>aU
theorem XM:aF Tryz.prog FU:=aF.nil _
def GK (a0:aK) (a1:aK) (a2:aK) (R:T→Prop):Prop :=
 R
 (T.v
 (Value.int IntKind.i64
 (IntKind.i64.wrap
 (IntKind.i64.wrap (IntKind.i64.wrap (a1.1-a0.1)*IntKind.i64.wrap (a2.2-a0.2)) -
 IntKind.i64.wrap (IntKind.i64.wrap (a1.2-a0.2)*IntKind.i64.wrap (a2.1-a0.1))))))
theorem RJ ( a0 a1 a2 R):bJ aV Tryz.prog FU SC 8 202 [aD true aA a0,aD true aA a1,aD true aA a2] R=GK a0 a1 a2 R:=by kernel_rfl
abbrev yW:Sh:=[(true,aA),(true,aA),(true,aA)]
def CS (x:aK×aK×aK):Option T:=IL x.1 x.2.1 x.2.2 (T.v (Value.int .i64 (aE x.1 x.2.1 x.2.2)))
noncomputable def iQ:List T→Option (T):=gS yW CS
theorem UG {a0 a1 a2}:iQ [aD true aA a0,aD true aA a1,aD true aA a2]=CS (a0,a1,a2):=bH (s:=yW) rfl (a0,a1,a2) rfl
theorem AHA (h:∀ a0 a1 a2 r,CS (a0,a1,a2)=some r→cR yW (a0,a1,a2)→GK a0 a1 a2 (fun y=>y=r)):aJ Tryz.prog 202 iQ :=
 aX (E:=FU) (Hs:=SC) XM a6 a7 (aM rfl) 8 ⟨_,_,Tryz.func202,rfl⟩ rfl fun x r h1 h2=>by
  obtain ⟨a0,a1,a2⟩:=x
  rw[show Sh.cA yW (a0,a1,a2)=[aD true aA a0,aD true aA a1,aD true aA a2] from rfl,RJ]
  exact h a0 a1 a2 r h1 h2
theorem AFS:aJ Tryz.prog 202 iQ:=AHA fun a b c r h hb=>by
 obtain ⟨h1,h2,h3,rfl⟩:=IM h
 unfold GK
 exact DW (JZ h1 h2 h3)
theorem nW {a b c:Pt} (h1:cG a) (h2:cG b) (h3:cG c):iQ [aD true aA a,aD true aA b,aD true aA c]=some (Sh.enc [(false,.int .i64)] (aE a b c)):=(UG ..).trans (IP _ h1 h2 h3)
noncomputable def ND:Env:=Env.of []
def ABZ:FuncId→Hint:=fun _=>aU
theorem AD6:aF Tryz.prog ND:=aF.nil _
def NV (a0:Int) (R:T→Prop):Prop :=
 aB (!decide (a0=a0)) (R (T.v (.int .i64 (-1))))
 (aB (decide (a0<0)) (R (T.v (.int .i64 (-1))))
 (aB (decide (0<a0)) (R (T.v (.int .i64 1)))
 (R (T.v (.int .i64 0)))))
theorem YI ( a0 R):bJ aV Tryz.prog ND ABZ 8 218 [aD false (Sy.int IntKind.i64) a0] R=NV a0 R:=by kernel_rfl
abbrev E0:Sh:=[(false,(Sy.int IntKind.i64))]
def JN (n:Int):Option T:=some (T.v (Value.int .i64 (sQ n)))
noncomputable def kT:List T→Option (T):=gS E0 JN
theorem Z4 {a0}:kT [T.v (.int .i64 a0)]=JN (a0):=bH (s:=E0) rfl (a0) rfl
theorem AMU (h:∀ a0 r,JN (a0)=some r→cR E0 (a0)→NV a0 (fun y=>y=r)):aJ Tryz.prog 218 kT :=
 aX (E:=ND) (Hs:=ABZ) AD6 a6 a7 (aM rfl) 8 ⟨_,_,Tryz.func218,rfl⟩ rfl fun x r h1 h2=>by
  let a0:=x
  rw[show Sh.cA E0 (a0)=[aD false (Sy.int IntKind.i64) a0] from rfl,YI]
  exact h a0 r h1 h2
theorem qA (n:Int):kT [T.v (.int .i64 n)]=some (Sh.enc [(false,.int .i64)] (sQ n)):=Z4 ..
noncomputable def NF:Env:=Env.of []
def AB0:FuncId→Hint:=fun _=>aU
theorem AD7:aF Tryz.prog NF:=aF.nil _
def NZ (a0:Int) (R:T→Prop):Prop :=
 R (T.v (.int .i64 (if 1<if a0 < -1 then -1 else a0 then 1 else if a0 < -1 then -1 else a0)))
theorem YJ ( a0 R):bJ aV Tryz.prog NF AB0 8 201 [aD false (Sy.int IntKind.i64) a0] R=NZ a0 R:=by kernel_rfl
abbrev E1:Sh:=[(false,(Sy.int IntKind.i64))]
def JO (n:Int):Option T:=some (T.v (Value.int .i64 (sQ n)))
noncomputable def kU:List T→Option (T):=gS E1 JO
theorem Z5 {a0}:kU [T.v (.int .i64 a0)]=JO (a0):=bH (s:=E1) rfl (a0) rfl
theorem AMV (h:∀ a0 r,JO (a0)=some r→cR E1 (a0)→NZ a0 (fun y=>y=r)):aJ Tryz.prog 201 kU :=
 aX (E:=NF) (Hs:=AB0) AD7 a6 a7 (aM rfl) 8 ⟨_,_,Tryz.func201,rfl⟩ rfl fun x r h1 h2=>by
  let a0:=x
  rw[show Sh.cA E1 (a0)=[aD false (Sy.int IntKind.i64) a0] from rfl,YJ]
  exact h a0 r h1 h2
theorem qB (n:Int):kU [T.v (.int .i64 n)]=some (Sh.enc [(false,.int .i64)] (sQ n)):=Z5 ..
theorem AK3:aJ Tryz.prog 218 kT:=AMU fun n r h hb=>by
 cases h
 unfold NV
 refine mG (fun h=>absurd rfl h) fun _=>?_
 exact bZ (fun h=>DW (by unfold sQ;rw[if_pos h])) fun h=>bZ (fun h2=>DW (by unfold sQ;rw[if_neg h,if_pos h2])) fun h2=>DW (by unfold sQ;rw[if_neg h,if_neg h2])
theorem AK4:aJ Tryz.prog 201 kU:=AMV fun n r h hb=>by
 cases h
 unfold NZ
 refine DW ?_
 unfold sQ
 omega
noncomputable def zN:Env:=Env.of []
def KX:FuncId→Hint:=fun _=>aU
theorem QU:aF Tryz.prog zN:=aF.nil _
def zW (a0:aK) (a1:aK) (a2:aK) (R:T→Prop):Prop :=
 aB (decide ((if a1.1<a0.1 then a1.1 else a0.1)≤a2.1))
 (aB (decide (a2.1≤if a0.1<a1.1 then a1.1 else a0.1))
 (aB (decide ((if a1.2<a0.2 then a1.2 else a0.2)≤a2.2))
 (R (T.v (.bool (decide (a2.2≤if a0.2<a1.2 then a1.2 else a0.2)))))
 (R (T.v (.bool false))))
 (R (T.v (.bool false))))
 (R (T.v (.bool false)))
theorem NY ( a0 a1 a2 R):bJ aV Tryz.prog zN KX 8 219 [aD true aA a0,aD true aA a1,aD true aA a2] R=zW a0 a1 a2 R:=by kernel_rfl
abbrev tY:Sh:=[(true,aA),(true,aA),(true,aA)]
def wQ (x:aK×aK×aK):Option T:=some (T.v (.bool (Y2 x.1 x.2.1 x.2.2)))
noncomputable def mD:List T→Option (T):=gS tY wQ
theorem OW {a0 a1 a2}:mD [aD true aA a0,aD true aA a1,aD true aA a2]=wQ (a0,a1,a2):=bH (s:=tY) rfl (a0,a1,a2) rfl
theorem AAM (h:∀ a0 a1 a2 r,wQ (a0,a1,a2)=some r→cR tY (a0,a1,a2)→zW a0 a1 a2 (fun y=>y=r)):aJ Tryz.prog 219 mD :=
 aX (E:=zN) (Hs:=KX) QU a6 a7 (aM rfl) 8 ⟨_,_,Tryz.func219,rfl⟩ rfl fun x r h1 h2=>by
  obtain ⟨a0,a1,a2⟩:=x
  rw[show Sh.cA tY (a0,a1,a2)=[aD true aA a0,aD true aA a1,aD true aA a2] from rfl,NY]
  exact h a0 a1 a2 r h1 h2
theorem ZM:aJ Tryz.prog 219 mD:=AAM fun a b c r h hb=>by
 cases h
 unfold zW
 rw[PB,PB,PA,PA]
 refine bZ (fun h1=>bZ (fun h2=>bZ (fun h3=>fX ?_) fun h3=>fX ?_) fun h2=>fX ?_) fun h1=>fX ?_
 all_goals simp[Y2,h1]
 all_goals simp[h2]
 all_goals simp[h3]
noncomputable def AIF:Env:=Env.of []
def ARJ:FuncId→Hint:=fun _=>aU
theorem AOM:aF Tryz.prog AIF:=aF.nil _
def AJI (a0:aK) (a1:aK) (a2:aK) (R:T→Prop):Prop :=
 aB (decide ((if a1.1<a0.1 then a1.1 else a0.1)≤a2.1))
 (aB (decide (a2.1≤if a0.1<a1.1 then a1.1 else a0.1))
 (aB (decide ((if a1.2<a0.2 then a1.2 else a0.2)≤a2.2))
 (R (T.v (.bool (decide (a2.2≤if a0.2<a1.2 then a1.2 else a0.2)))))
 (R (T.v (.bool false))))
 (R (T.v (.bool false))))
 (R (T.v (.bool false)))
theorem AJJ ( a0 a1 a2 R):bJ aV Tryz.prog AIF ARJ 8 203 [aD true aA a0,aD true aA a1,aD true aA a2] R=AJI a0 a1 a2 R:=by kernel_rfl
abbrev ADB:Sh:=[(true,aA),(true,aA),(true,aA)]
abbrev AC6:Sh:=[(false,Sy.bool)]
theorem AAY (y:Sh.den AC6) (K:Sh.den AC6→Prop):aH AC6 (some (Sh.enc AC6 y)) K=K y:=kF rfl y K
def QC (x:aK×aK×aK):Option T:=some (T.v (.bool (Y2 x.1 x.2.1 x.2.2)))
noncomputable def dB:List T→Option (T):=gS ADB QC
theorem ALK {a0 a1 a2}:dB [aD true aA a0,aD true aA a1,aD true aA a2]=QC (a0,a1,a2):=bH (s:=ADB) rfl (a0,a1,a2) rfl
theorem AT7 (h:∀ a0 a1 a2 r,QC (a0,a1,a2)=some r→cR ADB (a0,a1,a2)→AJI a0 a1 a2 (fun y=>y=r)):aJ Tryz.prog 203 dB :=
 aX (E:=AIF) (Hs:=ARJ) AOM a6 a7 (aM rfl) 8 ⟨_,_,Tryz.func203,rfl⟩ rfl fun x r h1 h2=>by
  obtain ⟨a0,a1,a2⟩:=x
  rw[show Sh.cA ADB (a0,a1,a2)=[aD true aA a0,aD true aA a1,aD true aA a2] from rfl,AJJ]
  exact h a0 a1 a2 r h1 h2
theorem AS0:aJ Tryz.prog 203 dB:=AT7 fun a b c r h hb=>by
 cases h
 unfold AJI
 rw[PB,PB,PA,PA]
 refine bZ (fun h1=>bZ (fun h2=>bZ (fun h3=>fX ?_) fun h3=>fX ?_) fun h2=>fX ?_) fun h1=>fX ?_
 all_goals simp[Y2,h1]
 all_goals simp[h2]
 all_goals simp[h3]
noncomputable def AH9:Env:=Env.of [(199,.pure cT),(219,.pure mD)]
def ARD:FuncId→Hint:=fun _=>aU
theorem AOG:aF Tryz.prog AH9:=aF.cons (x:=.pure cT) tJ (aF.cons (x:=.pure mD) ZM (aF.nil _))
def AI6 (a0:aK) (a1:aK) (a2:aK) (R:T→Prop):Prop :=
 aH [(false,Sy.int IntKind.i64)]
 (cT [aD true aA a0,aD true aA a1,aD true aA a2])
 fun (y0:Int) =>
 aB (decide (y0=0))
 (aH [(false,Sy.bool)]
 (mD
 [aD true aA a0,aD true aA a1,aD true aA a2])
 fun (y1:Bool)=>R (T.v (.bool y1)))
 (R (T.v (.bool false)))
theorem AI7 ( a0 a1 a2 R):bJ aV Tryz.prog AH9 ARD 8 204 [aD true aA a0,aD true aA a1,aD true aA a2] R=AI6 a0 a1 a2 R:=by kernel_rfl
abbrev ADA:Sh:=[(true,aA),(true,aA),(true,aA)]
def ABB (x:aK×aK×aK):Option T:=IL x.1 x.2.1 x.2.2 (T.v (.bool (nF x.1 x.2.1 x.2.2)))
noncomputable def o7:List T→Option (T):=gS ADA ABB
theorem ALD {a0 a1 a2}:o7 [aD true aA a0,aD true aA a1,aD true aA a2]=ABB (a0,a1,a2):=bH (s:=ADA) rfl (a0,a1,a2) rfl
theorem AT1 (h:∀ a0 a1 a2 r,ABB (a0,a1,a2)=some r→cR ADA (a0,a1,a2)→AI6 a0 a1 a2 (fun y=>y=r)):aJ Tryz.prog 204 o7 :=
 aX (E:=AH9) (Hs:=ARD) AOG a6 a7 (aM rfl) 8 ⟨_,_,Tryz.func204,rfl⟩ rfl fun x r h1 h2=>by
  obtain ⟨a0,a1,a2⟩:=x
  rw[show Sh.cA ADA (a0,a1,a2)=[aD true aA a0,aD true aA a1,aD true aA a2] from rfl,AI7]
  exact h a0 a1 a2 r h1 h2
theorem AK2:aJ Tryz.prog 204 o7:=AT1 fun a b c r h hb=>by
 obtain ⟨h1,h2,h3,rfl⟩:=IM h
 unfold AI6
 refine aG (s:=[(false,.int .i64)]) (gJ h1 h2 h3) ?_
 refine bZ (fun h=>?_) fun h=>fX (by unfold nF;rw[decide_eq_false h];rfl)
 refine aG (s:=[(false,.bool)]) (y:=Y2 a b c) (OW ..) ?_
 exact fX (by unfold nF;rw[decide_eq_true h];rfl)
theorem r5 {a b c:Pt} (h1:cG a) (h2:cG b) (h3:cG c):o7 [aD true aA a,aD true aA b,aD true aA c]=some (Sh.enc [(false,.bool)] (nF a b c)):=(ALD ..).trans (IP _ h1 h2 h3)
def L1 {α:Type} (a b c d:Pt) (r:α):Option α:=match decide (cG a∧cG b∧cG c∧cG d) with
 | true=>some r
 | false=>none
theorem VB {α:Type} {a b c d:Pt} {t r:α} (h:L1 a b c d t=some r):cG a∧cG b∧cG c∧cG d∧r=t:=by
 unfold L1 at h;split at h
 ·rename_i hc
  cases h
  obtain ⟨h1,h2,h3,h4⟩:=of_decide_eq_true hc
  exact ⟨h1,h2,h3,h4,rfl⟩
 ·cases h
theorem VC {α:Type} {a b c d:Pt} (t:α) (ha:cG a) (hb:cG b) (hc:cG c) (hd:cG d):L1 a b c d t=some t:=by unfold L1;rw[decide_eq_true ⟨ha,hb,hc,hd⟩]
noncomputable def NC:Env:=Env.of [(199,.pure cT),(204,.pure o7),(218,.pure kT)]
def ABY:FuncId→Hint:=fun _=>aU
theorem AD5:aF Tryz.prog NC:=aF.cons (x:=.pure cT) tJ (aF.cons (x:=.pure o7) AK2 (aF.cons (x:=.pure kT) AK3 (aF.nil _)))
def NU (a0:aK) (a1:aK) (a2:aK) (a3:aK) (R:T→Prop):Prop :=
 aH [(false,Sy.bool)]
 (o7 [aD true aA a0,aD true aA a1,aD true aA a2])
 fun (y0:Bool) =>
 aB y0 (R (T.v (.bool true)))
 (aH [(false,Sy.bool)]
 (o7 [aD true aA a0,aD true aA a1,aD true aA a3])
 fun (y1:Bool) =>
 aB y1 (R (T.v (.bool true)))
 (aH [(false,Sy.bool)]
 (o7
 [aD true aA a2,aD true aA a3,aD true aA a0])
 fun (y2:Bool) =>
 aB y2 (R (T.v (.bool true)))
 (aH [(false,Sy.bool)]
 (o7
 [aD true aA a2,aD true aA a3,aD true aA a1])
 fun (y3:Bool) =>
 aB y3 (R (T.v (.bool true)))
 (aH [(false,Sy.int IntKind.i64)]
 (cT
 [aD true aA a0,aD true aA a1,aD true aA a2])
 fun (y4:Int) =>
 aH [(false,Sy.int IntKind.i64)]
 (kT [T.v (.int .i64 y4)]) fun (y5:Int) =>
 aH [(false,Sy.int IntKind.i64)]
 (cT
 [aD true aA a0,aD true aA a1,
 aD true aA a3])
 fun (y6:Int) =>
 aH [(false,Sy.int IntKind.i64)]
 (kT [T.v (.int .i64 y6)]) fun (y7:Int) =>
 aB (decide (IntKind.i64.wrap (y5*y7)<0))
 (aH [(false,Sy.int IntKind.i64)]
 (cT
 [aD true aA a2,aD true aA a3,
 aD true aA a0])
 fun (y8:Int) =>
 aH [(false,Sy.int IntKind.i64)]
 (kT [T.v (.int .i64 y8)]) fun (y9:Int) =>
 aH [(false,Sy.int IntKind.i64)]
 (cT
 [aD true aA a2,aD true aA a3,
 aD true aA a1])
 fun (y10:Int) =>
 aH [(false,Sy.int IntKind.i64)]
 (kT [T.v (.int .i64 y10)]) fun (y11:Int) =>
 R (T.v (.bool (decide (IntKind.i64.wrap (y9*y11)<0)))))
 (R (T.v (.bool false)))))))
theorem YH ( a0 a1 a2 a3 R):bJ aV Tryz.prog NC ABY 8 200 [aD true aA a0,aD true aA a1,aD true aA a2,
 aD true aA a3] R=NU a0 a1 a2 a3 R:=by kernel_rfl
abbrev EZ:Sh:=[(true,aA),(true,aA),(true,aA),(true,aA)]
def JM (x:aK×aK×aK×aK):Option T:=L1 x.1 x.2.1 x.2.2.1 x.2.2.2 (T.v (.bool (b9 x.1 x.2.1 x.2.2.1 x.2.2.2)))
noncomputable def l7:List T→Option (T):=gS EZ JM
theorem Z1 {a0 a1 a2 a3}:l7 [aD true aA a0,aD true aA a1,aD true aA a2,
 aD true aA a3]=JM (a0,a1,a2,a3):=bH (s:=EZ) rfl (a0,a1,a2,a3) rfl
theorem AMT (h:∀ a0 a1 a2 a3 r,JM (a0,a1,a2,a3)=some r→cR EZ (a0,a1,a2,a3)→NU a0 a1 a2 a3 (fun y=>y=r)):aJ Tryz.prog 200 l7 :=
 aX (E:=NC) (Hs:=ABY) AD5 a6 a7 (aM rfl) 8 ⟨_,_,Tryz.func200,rfl⟩ rfl fun x r h1 h2=>by
  obtain ⟨a0,a1,a2,a3⟩:=x
  rw[show Sh.cA EZ (a0,a1,a2,a3)=[aD true aA a0,aD true aA a1,aD true aA a2,
 aD true aA a3] from rfl,YH]
  exact h a0 a1 a2 a3 r h1 h2
theorem AK1:aJ Tryz.prog 200 l7:=AMT fun a b c d r h hb=>by
 obtain ⟨h1,h2,h3,h4,rfl⟩:=VB h
 unfold NU
 refine aG (s:=[(false,.bool)]) (r5 h1 h2 h3) ?_
 refine J5 (fun h=>fX (by unfold b9;rw[h];rfl)) fun k1=>?_
 refine aG (s:=[(false,.bool)]) (r5 h1 h2 h4) ?_
 refine J5 (fun h=>fX (by unfold b9;rw[h,k1];rfl)) fun k2=>?_
 refine aG (s:=[(false,.bool)]) (r5 h3 h4 h1) ?_
 refine J5 (fun h=>fX (by unfold b9;rw[h,k1,k2];rfl)) fun k3=>?_
 refine aG (s:=[(false,.bool)]) (r5 h3 h4 h2) ?_
 refine J5 (fun h=>fX (by unfold b9;rw[h,k1,k2,k3];rfl)) fun k4=>?_
 refine aG (s:=[(false,.int .i64)]) (gJ h1 h2 h3) ?_
 refine aG (s:=[(false,.int .i64)]) (qA _) ?_
 refine aG (s:=[(false,.int .i64)]) (gJ h1 h2 h4) ?_
 refine aG (s:=[(false,.int .i64)]) (qA _) ?_
 rw[zG]
 refine bZ (fun h=>?_) fun h=>fX (by unfold b9;rw[k1,k2,k3,k4,decide_eq_false h];rfl)
 refine aG (s:=[(false,.int .i64)]) (gJ h3 h4 h1) ?_
 refine aG (s:=[(false,.int .i64)]) (qA _) ?_
 refine aG (s:=[(false,.int .i64)]) (gJ h3 h4 h2) ?_
 refine aG (s:=[(false,.int .i64)]) (qA _) ?_
 rw[zG]
 exact fX (by unfold b9;rw[k1,k2,k3,k4,decide_eq_true h];rfl)
theorem Z3 {a b c d:Pt} (h1:cG a) (h2:cG b) (h3:cG c) (h4:cG d):l7 [aD true aA a,aD true aA b,aD true aA c,aD true aA d]=some (Sh.enc [(false,.bool)] (b9 a b c d)):=(Z1 ..).trans (VC _ h1 h2 h3 h4)
noncomputable def WW:Env:=Env.of []
def AJQ:FuncId→Hint:=fun _=>aU
theorem AIN:aF Tryz.prog WW:=aF.nil _
def YF (a0:aK) (R:T→Prop):Prop :=
 aB (decide (a0.1 < -32768)) (R (T.v (.bool true)))
 (aB (decide (32768<a0.1)) (R (T.v (.bool true)))
 (aB (decide (a0.2 < -32768)) (R (T.v (.bool true)))
 (R (T.v (.bool (decide (32768<a0.2)))))))
theorem AEE ( a0 R):bJ aV Tryz.prog WW AJQ 8 169 [aD true aA a0] R=YF a0 R:=by kernel_rfl
abbrev P1:Sh:=[(true,aA)]
def QB (q:aK):Option T:=some (T.v (.bool (!decide (cG q))))
noncomputable def p9:List T→Option (T):=gS P1 QB
theorem LR {a0}:p9 [aD true aA a0]=QB (a0):=bH (s:=P1) rfl (a0) rfl
theorem AQK (h:∀ a0 r,QB (a0)=some r→cR P1 (a0)→YF a0 (fun y=>y=r)):aJ Tryz.prog 169 p9 :=
 aX (E:=WW) (Hs:=AJQ) AIN a6 a7 (aM rfl) 8 ⟨_,_,Tryz.func169,rfl⟩ rfl fun x r h1 h2=>by
  let a0:=x
  rw[show Sh.cA P1 (a0)=[aD true aA a0] from rfl,AEE]
  exact h a0 r h1 h2
theorem ACG:aJ Tryz.prog 169 p9:=AQK fun q r h hb=>by
 cases h
 unfold YF
 have no:¬ cG q→true = !decide (cG q):=fun h=>by rw[decide_eq_false h];rfl
 refine bZ (fun h=>fX (no (by unfold cG;omega))) fun h1=>bZ (fun h=>fX (no (by unfold cG;omega))) fun h2=>bZ (fun h=>fX (no (by unfold cG;omega))) fun h3=>fX ?_
 by_cases h:cG q
 ·rw[decide_eq_true h,Bool.not_true]
  unfold cG at h
  exact decide_eq_false (by omega)
 ·rw[decide_eq_false h,Bool.not_false]
  unfold cG at h
  exact decide_eq_true (by omega)
theorem ANL {n:Int}:sQ n=0↔n=0:=by
 unfold sQ
 split
 ·omega
 ·split<;>omega
noncomputable def FW:Env:=Env.of [(202,.pure iQ),(201,.pure kU),(203,.pure dB)]
def SE:FuncId→Hint:=fun _=>aU
theorem XO:aF Tryz.prog FW:=aF.cons (x:=.pure iQ) AFS (aF.cons (x:=.pure kU) AK4 (aF.cons (x:=.pure dB) AS0 (aF.nil _)))
def GM (a0:aK) (a1:aK) (a2:aK) (a3:aK) (R:T→Prop):Prop :=
 aH [(false,Sy.int IntKind.i64)]
 (iQ [aD true aA a0,aD true aA a1,aD true aA a2])
 fun (y0:Int) =>
 aH [(false,Sy.int IntKind.i64)] (kU [T.v (.int .i64 y0)])
 fun (y1:Int) =>
 aH [(false,Sy.int IntKind.i64)]
 (iQ
 [aD true aA a0,aD true aA a1,aD true aA a3])
 fun (y2:Int) =>
 aH [(false,Sy.int IntKind.i64)] (kU [T.v (.int .i64 y2)])
 fun (y3:Int) =>
 aH [(false,Sy.int IntKind.i64)]
 (iQ
 [aD true aA a2,aD true aA a3,aD true aA a0])
 fun (y4:Int) =>
 aH [(false,Sy.int IntKind.i64)]
 (kU [T.v (.int .i64 y4)]) fun (y5:Int) =>
 aH [(false,Sy.int IntKind.i64)]
 (iQ
 [aD true aA a2,aD true aA a3,aD true aA a1])
 fun (y6:Int) =>
 aH [(false,Sy.int IntKind.i64)]
 (kU [T.v (.int .i64 y6)]) fun (y7:Int) =>
 aB (decide (IntKind.i64.wrap (y1*y3)<0))
 (aB (decide (IntKind.i64.wrap (y5*y7)<0)) (R (T.v (.bool true)))
 (aB (decide (y1=0))
 (aH [(false,Sy.bool)]
 (dB
 [aD true aA a0,aD true aA a1,
 aD true aA a2])
 fun (y8:Bool) =>
 aB y8 (R (T.v (.bool true)))
 (aB (decide (y3=0))
 (aH [(false,Sy.bool)]
 (dB
 [aD true aA a0,aD true aA a1,
 aD true aA a3])
 fun (y9:Bool) =>
 aB y9 (R (T.v (.bool true)))
 (aB (decide (y5=0))
 (aH [(false,Sy.bool)]
 (dB
 [aD true aA a2,aD true aA a3,
 aD true aA a0])
 fun (y10:Bool) =>
 aB y10 (R (T.v (.bool true)))
 (aB (decide (y7=0))
 (aH [(false,Sy.bool)]
 (dB
 [aD true aA a2,aD true aA a3,
 aD true aA a1])
 fun (y11:Bool)=>R (T.v (.bool y11)))
 (R (T.v (.bool false)))))
 (aB (decide (y7=0))
 (aH [(false,Sy.bool)]
 (dB
 [aD true aA a2,aD true aA a3,
 aD true aA a1])
 fun (y12:Bool)=>R (T.v (.bool y12)))
 (R (T.v (.bool false))))))
 (aB (decide (y5=0))
 (aH [(false,Sy.bool)]
 (dB
 [aD true aA a2,aD true aA a3,
 aD true aA a0])
 fun (y13:Bool) =>
 aB y13 (R (T.v (.bool true)))
 (aB (decide (y7=0))
 (aH [(false,Sy.bool)]
 (dB
 [aD true aA a2,aD true aA a3,
 aD true aA a1])
 fun (y14:Bool)=>R (T.v (.bool y14)))
 (R (T.v (.bool false)))))
 (aB (decide (y7=0))
 (aH [(false,Sy.bool)]
 (dB
 [aD true aA a2,aD true aA a3,
 aD true aA a1])
 fun (y15:Bool)=>R (T.v (.bool y15)))
 (R (T.v (.bool false)))))))
 (aB (decide (y3=0))
 (aH [(false,Sy.bool)]
 (dB
 [aD true aA a0,aD true aA a1,
 aD true aA a3])
 fun (y16:Bool) =>
 aB y16 (R (T.v (.bool true)))
 (aB (decide (y5=0))
 (aH [(false,Sy.bool)]
 (dB
 [aD true aA a2,aD true aA a3,
 aD true aA a0])
 fun (y17:Bool) =>
 aB y17 (R (T.v (.bool true)))
 (aB (decide (y7=0))
 (aH [(false,Sy.bool)]
 (dB
 [aD true aA a2,aD true aA a3,
 aD true aA a1])
 fun (y18:Bool)=>R (T.v (.bool y18)))
 (R (T.v (.bool false)))))
 (aB (decide (y7=0))
 (aH [(false,Sy.bool)]
 (dB
 [aD true aA a2,aD true aA a3,
 aD true aA a1])
 fun (y19:Bool)=>R (T.v (.bool y19)))
 (R (T.v (.bool false))))))
 (aB (decide (y5=0))
 (aH [(false,Sy.bool)]
 (dB
 [aD true aA a2,aD true aA a3,
 aD true aA a0])
 fun (y20:Bool) =>
 aB y20 (R (T.v (.bool true)))
 (aB (decide (y7=0))
 (aH [(false,Sy.bool)]
 (dB
 [aD true aA a2,aD true aA a3,
 aD true aA a1])
 fun (y21:Bool)=>R (T.v (.bool y21)))
 (R (T.v (.bool false)))))
 (aB (decide (y7=0))
 (aH [(false,Sy.bool)]
 (dB
 [aD true aA a2,aD true aA a3,
 aD true aA a1])
 fun (y22:Bool)=>R (T.v (.bool y22)))
 (R (T.v (.bool false))))))))
 (aB (decide (y1=0))
 (aH [(false,Sy.bool)]
 (dB
 [aD true aA a0,aD true aA a1,
 aD true aA a2])
 fun (y23:Bool) =>
 aB y23 (R (T.v (.bool true)))
 (aB (decide (y3=0))
 (aH [(false,Sy.bool)]
 (dB
 [aD true aA a0,aD true aA a1,
 aD true aA a3])
 fun (y24:Bool) =>
 aB y24 (R (T.v (.bool true)))
 (aB (decide (y5=0))
 (aH [(false,Sy.bool)]
 (dB
 [aD true aA a2,aD true aA a3,
 aD true aA a0])
 fun (y25:Bool) =>
 aB y25 (R (T.v (.bool true)))
 (aB (decide (y7=0))
 (aH [(false,Sy.bool)]
 (dB
 [aD true aA a2,aD true aA a3,
 aD true aA a1])
 fun (y26:Bool)=>R (T.v (.bool y26)))
 (R (T.v (.bool false)))))
 (aB (decide (y7=0))
 (aH [(false,Sy.bool)]
 (dB
 [aD true aA a2,aD true aA a3,
 aD true aA a1])
 fun (y27:Bool)=>R (T.v (.bool y27)))
 (R (T.v (.bool false))))))
 (aB (decide (y5=0))
 (aH [(false,Sy.bool)]
 (dB
 [aD true aA a2,aD true aA a3,
 aD true aA a0])
 fun (y28:Bool) =>
 aB y28 (R (T.v (.bool true)))
 (aB (decide (y7=0))
 (aH [(false,Sy.bool)]
 (dB
 [aD true aA a2,aD true aA a3,
 aD true aA a1])
 fun (y29:Bool)=>R (T.v (.bool y29)))
 (R (T.v (.bool false)))))
 (aB (decide (y7=0))
 (aH [(false,Sy.bool)]
 (dB
 [aD true aA a2,aD true aA a3,
 aD true aA a1])
 fun (y30:Bool)=>R (T.v (.bool y30)))
 (R (T.v (.bool false)))))))
 (aB (decide (y3=0))
 (aH [(false,Sy.bool)]
 (dB
 [aD true aA a0,aD true aA a1,
 aD true aA a3])
 fun (y31:Bool) =>
 aB y31 (R (T.v (.bool true)))
 (aB (decide (y5=0))
 (aH [(false,Sy.bool)]
 (dB
 [aD true aA a2,aD true aA a3,
 aD true aA a0])
 fun (y32:Bool) =>
 aB y32 (R (T.v (.bool true)))
 (aB (decide (y7=0))
 (aH [(false,Sy.bool)]
 (dB
 [aD true aA a2,aD true aA a3,
 aD true aA a1])
 fun (y33:Bool)=>R (T.v (.bool y33)))
 (R (T.v (.bool false)))))
 (aB (decide (y7=0))
 (aH [(false,Sy.bool)]
 (dB
 [aD true aA a2,aD true aA a3,
 aD true aA a1])
 fun (y34:Bool)=>R (T.v (.bool y34)))
 (R (T.v (.bool false))))))
 (aB (decide (y5=0))
 (aH [(false,Sy.bool)]
 (dB
 [aD true aA a2,aD true aA a3,
 aD true aA a0])
 fun (y35:Bool) =>
 aB y35 (R (T.v (.bool true)))
 (aB (decide (y7=0))
 (aH [(false,Sy.bool)]
 (dB
 [aD true aA a2,aD true aA a3,
 aD true aA a1])
 fun (y36:Bool)=>R (T.v (.bool y36)))
 (R (T.v (.bool false)))))
 (aB (decide (y7=0))
 (aH [(false,Sy.bool)]
 (dB
 [aD true aA a2,aD true aA a3,
 aD true aA a1])
 fun (y37:Bool)=>R (T.v (.bool y37)))
 (R (T.v (.bool false)))))))
theorem RM ( a0 a1 a2 a3 R):bJ aV Tryz.prog FW SE 8 172 [aD true aA a0,aD true aA a1,aD true aA a2,
 aD true aA a3] R=GM a0 a1 a2 a3 R:=by kernel_rfl
abbrev yX:Sh:=[(true,aA),(true,aA),(true,aA),(true,aA)]
def CU (x:aK×aK×aK×aK):Option T:=L1 x.1 x.2.1 x.2.2.1 x.2.2.2 (T.v (.bool (b9 x.1 x.2.1 x.2.2.1 x.2.2.2)))
noncomputable def pA:List T→Option (T):=gS yX CU
theorem UN {a0 a1 a2 a3}:pA [aD true aA a0,aD true aA a1,aD true aA a2,
 aD true aA a3]=CU (a0,a1,a2,a3):=bH (s:=yX) rfl (a0,a1,a2,a3) rfl
theorem AHC (h:∀ a0 a1 a2 a3 r,CU (a0,a1,a2,a3)=some r→cR yX (a0,a1,a2,a3)→GM a0 a1 a2 a3 (fun y=>y=r)):aJ Tryz.prog 172 pA :=
 aX (E:=FW) (Hs:=SE) XO a6 a7 (aM rfl) 8 ⟨_,_,Tryz.func172,rfl⟩ rfl fun x r h1 h2=>by
  obtain ⟨a0,a1,a2,a3⟩:=x
  rw[show Sh.cA yX (a0,a1,a2,a3)=[aD true aA a0,aD true aA a1,aD true aA a2,
 aD true aA a3] from rfl,RM]
  exact h a0 a1 a2 a3 r h1 h2
theorem ANE (a b c:Pt) (K:Bool→Prop):aH [(false,Sy.bool)] (dB [aD true aA a,aD true aA b,aD true aA c]) K=K (Y2 a b c):=by
 rw[show dB [aD true aA a,aD true aA b,aD true aA c]=QC (a,b,c) from ALK ..]
 exact AAY _ K
theorem AFT:aJ Tryz.prog 172 pA:=AHC fun a b c d r h hb=>by
 obtain ⟨h1,h2,h3,h4,rfl⟩:=VB h
 unfold GM
 refine aG (s:=[(false,.int .i64)]) (nW h1 h2 h3) ?_
 refine aG (s:=[(false,.int .i64)]) (qB _) ?_
 refine aG (s:=[(false,.int .i64)]) (nW h1 h2 h4) ?_
 refine aG (s:=[(false,.int .i64)]) (qB _) ?_
 refine aG (s:=[(false,.int .i64)]) (nW h3 h4 h1) ?_
 refine aG (s:=[(false,.int .i64)]) (qB _) ?_
 refine aG (s:=[(false,.int .i64)]) (nW h3 h4 h2) ?_
 refine aG (s:=[(false,.int .i64)]) (qB _) ?_
 rw[zG,zG]
 have e:∀ {n:Bool},b9 a b c d=n→T.v (.bool n)=T.v (.bool (b9 a b c d)):=fun h=>by rw[h]
 simp only[ANE]
 unfold b9 at e
 unfold nF at e
 clear h hb
 repeat' first
  | refine bZ (fun h=>?_) (fun h=>?_)
  | refine J5 (fun h=>?_) (fun h=>?_)
 all_goals (refine e ?_;clear e;simp only[ANL] at *;simp[*,show sQ 0=0 from rfl])
end Go.Pv
namespace Go.Pv
open Go Go.Proofs
theorem I6 {p:List Pt} {i:Nat} (h:i<p.length):pt p i=p[i]:=by unfold pt;rw[List.getD_eq_getElem?_getD,List.getElem?_eq_getElem h];rfl
theorem dQ {p:List aK} {k:Nat} (h:k<p.length) (K:aK→Prop):aP aA (List.map aA.enc p) (k:Int) K=K (pt p k):=by
 rw[aT (r:=aA) h,I6 h]
theorem qF {i n c:Nat} (hn:n≤1000) (hi:i≤1000) (hc:c≤2):(IntKind.i64.wrap ((i:Int)+(c:Int))).tmod (n:Int)=(((i+c) % n:Nat):Int):=by
 rw[aO _ (by omega) (by omega),Int.tmod_eq_emod_of_nonneg (by omega),Int.natCast_emod,Int.natCast_add]
def lY (a b c:Pt):Int:=(a.1-b.1)*(c.1-b.1)+(a.2-b.2)*(c.2-b.2)
def B0 (p:List Pt) (i k:Nat):Bool:=!(!decide ((k+1) % p.length=i)&&b9 (pt p i) (nx p i) (pt p k) (nx p k))
def uO (p:List Pt) (i:Nat):Pt:=pt p ((i+2) % p.length)
def PD (p:List Pt) (i:Nat):Bool:=!decide (pt p i=nx p i)&&(!(decide (aE (pt p i) (nx p i) (uO p i)=0)&&decide (0<lY (pt p i) (nx p i) (uO p i)))&&(List.range p.length).all fun k=>decide (k<i+2)||B0 p i k)
def pN (p:List Pt):Bool:=(List.range p.length).all (PD p)
def iA (p:List Pt):Prop:=∀ q∈p,cG q
def IQ (p:List Pt):Bool:=p.all fun q=>decide (cG q)
theorem kM {p:List Pt}:IQ p=true↔iA p:=by
 simp only[IQ,List.all_eq_true,decide_eq_true_eq];exact Iff.rfl
theorem iA.pt {p:List Pt} (h:iA p) (i:Nat):cG (pt p i):=by
 rcases Nat.lt_or_ge i p.length with hi|hi
 ·rw[I6 hi];exact h _ (List.getElem_mem hi)
 ·unfold Go.Pv.pt
  rw[List.getD_eq_getElem?_getD,List.getElem?_eq_none hi]
  unfold cG;decide
def KO (p:List Pt):Bool:=decide (p.length≤1000)&&IQ p
def L8 {α:Type} (p:List Pt) (r:α):Option α:=match KO p with
 | true=>some r
 | false=>none
theorem VO {α:Type} {p:List Pt} {t r:α} (h:L8 p t=some r):p.length≤1000∧iA p∧r=t:=by
 unfold L8 at h;split at h
 ·rename_i hc
  simp only[KO,Bool.and_eq_true,decide_eq_true_eq,kM] at hc
  cases h;exact ⟨hc.1,hc.2,rfl⟩
 ·cases h
theorem VP {α:Type} {p:List Pt} (t:α) (h:p.length≤1000) (h2:iA p):L8 p t=some t:=by
 unfold L8;rw[show KO p=true by simp only[KO,Bool.and_eq_true,decide_eq_true_eq,kM];exact ⟨h,h2⟩]
theorem AN5 {a b c:Pt} (ha:cG a) (hb:cG b) (hc:cG c):IntKind.i64.wrap (IntKind.i64.wrap (IntKind.i64.wrap (a.1-b.1)*IntKind.i64.wrap (c.1-b.1))+IntKind.i64.wrap (IntKind.i64.wrap (a.2-b.2)*IntKind.i64.wrap (c.2-b.2)))=lY a b c:=by
 unfold cG at ha hb hc
 have h1:=wF (x:=a.1-b.1) (y:=c.1-b.1) (M:=65536) (N:=65536) (by omega) (by omega) (by omega) (by omega)
 have h2:=wF (x:=a.2-b.2) (y:=c.2-b.2) (M:=65536) (N:=65536) (by omega) (by omega) (by omega) (by omega)
 rw[aO (a.1-b.1) (by omega) (by omega),aO (c.2-b.2) (by omega) (by omega),aO (a.2-b.2) (by omega) (by omega),aO (c.1-b.1) (by omega) (by omega),
  aO ((a.1-b.1)*(c.1-b.1)) (by omega) (by omega),aO ((a.2-b.2)*(c.2-b.2)) (by omega) (by omega),aO _ (by omega) (by omega)]
 rfl
noncomputable def zL:Env:=Env.of [(199,.pure cT),(200,.pure l7)]
def KV:FuncId→Hint:=fun f=>match f == 170 with|true=>⟨fun r=>match r == 3 with|true=>.inv [.val 13 false (.int .i64)]|false=>match r == 12 with|true=>.inv [.val 8 false (.int .i64)]|false=>.none,fun _ _=>none,fun _=>none⟩|false=>aU
theorem QS:aF Tryz.prog zL:=aF.cons (x:=.pure cT) tJ (aF.cons (x:=.pure l7) AK1 (aF.nil _))
def zU (a0:List aK) (R:T→Prop):Prop :=
 bB (Int×PUnit)
 (fun (X0:Int×PUnit→Prop) (s1:Int×PUnit) =>
 aB (decide (s1.1<(↑(List.map aA.enc a0).length:Int)))
 (aP aA (List.map aA.enc a0) s1.1 fun (y2:aK) =>
 bO (!decide ((↑(List.map aA.enc a0).length:Int)=0))
 (aP aA (List.map aA.enc a0)
 ((IntKind.i64.wrap (s1.1+1)).tmod (↑(List.map aA.enc a0).length:Int))
 fun (y3:aK) =>
 aB (decide (y2.1=y3.1)&&(decide (y2.2=y3.2)&&true))
 (R (T.v (.bool false)))
 (bO (!decide ((↑(List.map aA.enc a0).length:Int)=0))
 (aP aA (List.map aA.enc a0)
 ((IntKind.i64.wrap (s1.1+2)).tmod (↑(List.map aA.enc a0).length:Int))
 fun (y4:aK) =>
 aH [(false,Sy.int IntKind.i64)]
 (cT
 [aD true aA y2,aD true aA y3,
 aD true aA y4])
 fun (y5:Int) =>
 aB (decide (y5=0))
 (aB
 (decide
 (0 <
 IntKind.i64.wrap
 (IntKind.i64.wrap
 (IntKind.i64.wrap (y2.1-y3.1)*IntKind.i64.wrap (y4.1-y3.1)) +
 IntKind.i64.wrap
 (IntKind.i64.wrap (y2.2-y3.2)*IntKind.i64.wrap (y4.2-y3.2)))))
 (R (T.v (.bool false)))
 (bB (Int×PUnit)
 (fun (X6:Int×PUnit→Prop) (s7:Int×PUnit) =>
 aB (decide (s7.1<(↑(List.map aA.enc a0).length:Int)))
 (bO (!decide ((↑(List.map aA.enc a0).length:Int)=0))
 (aB
 (!decide
 ((IntKind.i64.wrap (s7.1+1)).tmod
 (↑(List.map aA.enc a0).length:Int) =
 s1.1))
 (aP aA (List.map aA.enc a0) s7.1
 fun (y8:aK) =>
 bO (!decide ((↑(List.map aA.enc a0).length:Int)=0))
 (aP aA (List.map aA.enc a0)
 ((IntKind.i64.wrap (s7.1+1)).tmod
 (↑(List.map aA.enc a0).length:Int))
 fun (y9:aK) =>
 aH [(false,Sy.bool)]
 (l7
 [aD true aA y2,aD true aA y3,
 aD true aA y8,aD true aA y9])
 fun (y10:Bool) =>
 aB y10 (R (T.v (.bool false)))
 (X6 (IntKind.i64.wrap (s7.1+1),()))))
 (X6 (IntKind.i64.wrap (s7.1+1),()))))
 (X0 (IntKind.i64.wrap (s1.1+1),())))
 (IntKind.i64.wrap (s1.1+2),())))
 (bB (Int×PUnit)
 (fun (X11:Int×PUnit→Prop) (s12:Int×PUnit) =>
 aB (decide (s12.1<(↑(List.map aA.enc a0).length:Int)))
 (bO (!decide ((↑(List.map aA.enc a0).length:Int)=0))
 (aB
 (!decide
 ((IntKind.i64.wrap (s12.1+1)).tmod
 (↑(List.map aA.enc a0).length:Int) =
 s1.1))
 (aP aA (List.map aA.enc a0) s12.1
 fun (y13:aK) =>
 bO (!decide ((↑(List.map aA.enc a0).length:Int)=0))
 (aP aA (List.map aA.enc a0)
 ((IntKind.i64.wrap (s12.1+1)).tmod
 (↑(List.map aA.enc a0).length:Int))
 fun (y14:aK) =>
 aH [(false,Sy.bool)]
 (l7
 [aD true aA y2,aD true aA y3,
 aD true aA y13,aD true aA y14])
 fun (y15:Bool) =>
 aB y15 (R (T.v (.bool false)))
 (X11 (IntKind.i64.wrap (s12.1+1),()))))
 (X11 (IntKind.i64.wrap (s12.1+1),()))))
 (X0 (IntKind.i64.wrap (s1.1+1),())))
 (IntKind.i64.wrap (s1.1+2),()))))))
 (R (T.v (.bool true))))
 (0,())
theorem NW ( a0 R):bJ aV Tryz.prog zL KV 8 170 [aD false aA.li a0] R=zU a0 R:=by kernel_rfl
abbrev tW:Sh:=[(false,aA.li)]
def wO (p:List aK):Option T:=L8 p (T.v (.bool (pN p)))
noncomputable def jM:List T→Option (T):=gS tW wO
theorem OT {a0}:jM [T.sl false (List.map aA.enc a0)]=wO (a0):=bH (s:=tW) rfl (a0) rfl
theorem AAK (h:∀ a0 r,wO (a0)=some r→cR tW (a0)→zU a0 (fun y=>y=r)):aJ Tryz.prog 170 jM :=
 aX (E:=zL) (Hs:=KV) QS a6 a7 (aM rfl) 8 ⟨_,_,Tryz.func170,rfl⟩ rfl fun x r h1 h2=>by
  let a0:=x
  rw[show Sh.cA tW (a0)=[aD false aA.li a0] from rfl,NW]
  exact h a0 r h1 h2
theorem N7 {n:Nat} {f:Nat→Bool} {i:Nat} (hi:i<n) (h:f i=false):(List.range n).all f=false:=by
 rw[Bool.eq_false_iff];intro ha
 have:=gV.1 ha i hi
 rw[h] at this;cases this
theorem AHU {p:List aK} {i:Nat} (hl:p.length≤1000) (hn:iA p) (hi:i<p.length) {Bad Good:Prop} (hbad:(List.range p.length).all (fun k=>decide (k<i+2)||B0 p i k)=false→Bad) (hgood:(List.range p.length).all (fun k=>decide (k<i+2)||B0 p i k)=true→Good) :
  bB (Int×PUnit)
   (fun (X6:Int×PUnit→Prop) (s7:Int×PUnit) =>
    aB (decide (s7.1<(↑(List.map aA.enc p).length:Int)))
     (bO (!decide ((↑(List.map aA.enc p).length:Int)=0))
      (aB (!decide ((IntKind.i64.wrap (s7.1+1)).tmod (↑(List.map aA.enc p).length:Int)=(i:Int)))
       (aP aA (List.map aA.enc p) s7.1 fun (y8:aK) =>
        bO (!decide ((↑(List.map aA.enc p).length:Int)=0))
         (aP aA (List.map aA.enc p) ((IntKind.i64.wrap (s7.1+1)).tmod (↑(List.map aA.enc p).length:Int))
          fun (y9:aK) =>
          aH [(false,Sy.bool)] (l7 [aD true aA (pt p i),aD true aA (nx p i),aD true aA y8,aD true aA y9])
           fun (y10:Bool)=>aB y10 Bad (X6 (IntKind.i64.wrap (s7.1+1),()))))
       (X6 (IntKind.i64.wrap (s7.1+1),()))))
     Good)
   (IntKind.i64.wrap ((i:Int)+2),()):=by
 refine aY p.length (fun m s=>s=(((i+2+m:Nat):Int),())∧∀ k,k<i+2+m→k<p.length→(decide (k<i+2)||B0 p i k)=true) ⟨by rw[aO _ (by omega) (by omega)];simp,fun k h1 h2=>by simp at h1;simp[h1]⟩ ?_
 rintro X m s hm ⟨rfl,hJ⟩ hX
 dsimp only
 rw[List.length_map]
 refine bZ (fun hlt=>?_) fun hge=>hgood (gV.2 fun k hk=>hJ k (by omega) hk)
 have hk:i+2+m<p.length:=by omega
 have hne:(!decide ((p.length:Int)=0))=true:=by rw[decide_eq_false (by omega)];rfl
 have hix:(IntKind.i64.wrap (((i+2+m:Nat):Int)+1)).tmod (p.length:Int)=(((i+2+m+1) % p.length:Nat):Int):=qF (c:=1) hl (by omega) (by omega)
 have hw:IntKind.i64.wrap (((i+2+m:Nat):Int)+1)=((i+2+(m+1):Nat):Int):=by rw[aO _ (by omega) (by omega)];omega
 have hmod:(i+2+m+1) % p.length<p.length:=Nat.mod_lt _ (by omega)
 have go:B0 p i (i+2+m)=true→X (((i+2+(m+1):Nat):Int),()):=fun h=>hX _ (by omega) ⟨rfl,fun k h1 h2=>by
  rcases Nat.lt_or_ge k (i+2+m) with h3|h3
  ·exact hJ k h3 h2
  ·have:k=i+2+m:=by omega
   subst this;rw[h];simp⟩
 refine ⟨hne,?_⟩
 rw[hix,hw]
 refine mG (fun h=>?_) fun h=>go (by unfold B0;rw[decide_eq_true (show (i+2+m+1) % p.length=i by omega)];rfl)
 rw[dQ hk,AM8,dQ hmod]
 refine ⟨hne,?_⟩
 refine aG (s:=[(false,.bool)]) (Z3 (hn.pt _) (hn.pt _) (hn.pt _) (hn.pt _)) ?_
 have e:B0 p i (i+2+m) = !b9 (pt p i) (nx p i) (pt p (i+2+m)) (nx p (i+2+m)):=by
  unfold B0;rw[decide_eq_false (show ¬ (i+2+m+1) % p.length=i by omega)];rfl
 refine J5 (fun hm=>hbad (N7 hk ?_)) fun hm=>go ?_
 ·show (decide (i+2+m<i+2)||B0 p i (i+2+m))=false
  rw[e,show b9 (pt p i) (nx p i) (pt p (i+2+m)) (nx p (i+2+m))=true from hm];simp
 ·rw[e,show b9 (pt p i) (nx p i) (pt p (i+2+m)) (nx p (i+2+m))=false from hm];rfl
theorem ZL:aJ Tryz.prog 170 jM:=AAK fun p r h hb=>by
 obtain ⟨hl,hn,rfl⟩:=VO h
 clear h
 unfold zU
 refine aY p.length (fun k s=>s=((k:Int),())∧∀ i,i<k→i<p.length→PD p i=true) ⟨rfl,fun i h=>by omega⟩ ?_
 rintro X k s hk ⟨rfl,hJ⟩ hX
 dsimp only
 refine bZ (fun hlt=>?_) fun hge=>fX (Eq.symm (gV.2 fun i hi=>hJ i (by rw[List.length_map] at hge;omega) hi))
 rw[List.length_map] at hlt
 have hlt:k<p.length:=by omega
 have hne:(!decide (((List.map aA.enc p).length:Int)=0))=true:=by rw[List.length_map,decide_eq_false (by omega)];rfl
 have hm1:(k+1) % p.length<p.length:=Nat.mod_lt _ (by omega)
 have hm2:(k+2) % p.length<p.length:=Nat.mod_lt _ (by omega)
 have i1:(IntKind.i64.wrap ((k:Int)+1)).tmod ((List.map aA.enc p).length:Int)=(((k+1) % p.length:Nat):Int):=by rw[List.length_map];exact qF (c:=1) hl (by omega) (by omega)
 have i2:(IntKind.i64.wrap ((k:Int)+2)).tmod ((List.map aA.enc p).length:Int)=(((k+2) % p.length:Nat):Int):=by rw[List.length_map];exact qF (c:=2) hl (by omega) (by omega)
 have bad:PD p k=false→T.v (.bool false)=T.v (.bool (pN p)):=fun h=>fX (N7 hlt h).symm
 have nH:PD p k=true→X (IntKind.i64.wrap ((k:Int)+1),()):=fun h=>hX _ hlt ⟨by rw[show IntKind.i64.wrap ((k:Int)+1)=((k+1:Nat):Int) from aO _ (by omega) (by omega)],fun i h1 h2=>by
  rcases Nat.lt_or_ge i k with h3|h3
  ·exact hJ i h3 h2
  ·have:i=k:=by omega
   subst this;exact h⟩
 rw[dQ hlt,i1]
 refine ⟨hne,?_⟩
 rw[dQ hm1]
 have heq:(decide ((pt p k).1=(pt p ((k+1) % p.length)).1)&&(decide ((pt p k).2=(pt p ((k+1) % p.length)).2)&&true))=decide (pt p k=nx p k):=by
  rw[Bool.and_true,←Bool.decide_and]
  exact decide_eq_decide.2 Prod.ext_iff.symm
 rw[heq]
 refine bZ (fun h=>bad (by unfold PD;rw[decide_eq_true h];rfl)) fun h1=>?_
 refine ⟨hne,?_⟩
 rw[i2,dQ hm2]
 refine aG (s:=[(false,.int .i64)]) (gJ (hn.pt _) (hn.pt _) (hn.pt _)) ?_
 have inner:(decide (aE (pt p k) (nx p k) (uO p k)=0)&&decide (0<lY (pt p k) (nx p k) (uO p k)))=false→PD p k=(List.range p.length).all fun j=>decide (j<k+2)||B0 p k j:=fun h=>by
  unfold PD;rw[decide_eq_false h1,h];simp
 have tail:(decide (aE (pt p k) (nx p k) (uO p k)=0)&&decide (0<lY (pt p k) (nx p k) (uO p k)))=false→_:=fun h=>AHU (Bad:=T.v (.bool false)=T.v (.bool (pN p))) (Good:=X (IntKind.i64.wrap ((k:Int)+1),())) hl hn hlt (fun h2=>bad (by rw[inner h,h2])) (fun h2=>nH (by rw[inner h,h2]))
 refine bZ (fun h2=>?_) fun h2=>tail (by rw[show decide (aE (pt p k) (nx p k) (uO p k)=0)=false from decide_eq_false h2];rfl)
 rw[AN5 (hn.pt _) (hn.pt _) (hn.pt _)]
 refine bZ (fun h3=>bad ?_) fun h3=>tail (by rw[show decide (0<lY (pt p k) (nx p k) (uO p k))=false from decide_eq_false h3];simp)
 unfold PD
 rw[decide_eq_true (show aE (pt p k) (nx p k) (uO p k)=0 from h2),decide_eq_true (show 0<lY (pt p k) (nx p k) (uO p k) from h3)]
 simp
theorem OU {p:List Pt} (h:p.length≤1000) (h2:iA p):jM [T.sl false (List.map aA.enc p)]=some (Sh.enc [(false,.bool)] (pN p)):=(OT ..).trans (VP _ h h2)
def cL:Nat→(Nat→Int)→Int
 | 0,_=>0
 | n+1,f=>cL n f+f n
def V3 (p:List Pt) (i:Nat):Int:=(pt p i).1*(nx p i).2-(nx p i).1*(pt p i).2
def eQ (p:List Pt):Int:=cL p.length (V3 p)
theorem ADF {p:List Pt} (h:iA p) (i:Nat):(-1073741824≤(pt p i).1*(nx p i).2∧(pt p i).1*(nx p i).2≤1073741824)∧(-1073741824≤(nx p i).1*(pt p i).2∧(nx p i).1*(pt p i).2≤1073741824):=by
 have h1:=h.pt i
 have h2:cG (nx p i):=h.pt _
 unfold cG at h1 h2
 have b1:=wF (x:=(pt p i).1) (y:=(nx p i).2) (M:=32768) (N:=32768) (by omega) (by omega) (by omega) (by omega)
 have b2:=wF (x:=(nx p i).1) (y:=(pt p i).2) (M:=32768) (N:=32768) (by omega) (by omega) (by omega) (by omega)
 constructor<;>constructor<;>omega
theorem EC {p:List Pt} (h:iA p):∀ n:Nat,-(2147483648*(n:Int))≤cL n (V3 p)∧cL n (V3 p)≤2147483648*(n:Int)
 | 0=>by simp[cL]
 | n+1=>by
  have ih:=EC h n
  have hb:=ADF h n
  unfold cL
  have e:V3 p n=(pt p n).1*(nx p n).2-(nx p n).1*(pt p n).2:=rfl
  constructor<;>push_cast<;>omega
noncomputable def M8:Env:=Env.of []
def ABU:FuncId→Hint:=fun f=>match f == 152 with|true=>⟨fun r=>match r == 3 with|true=>.inv [.val 3 false (.int .i64),.val 9 false (.int .i64)]|false=>.none,fun _ _=>none,fun _=>none⟩|false=>aU
theorem AD1:aF Tryz.prog M8:=aF.nil _
def NP (a0:List aK) (R:T→Prop):Prop :=
 bB (Int×Int×PUnit)
 (fun (X0:Int×Int×PUnit→Prop) (s1:Int×Int×PUnit) =>
 aB (decide (s1.2.1<(↑(List.map aA.enc a0).length:Int)))
 (aP aA (List.map aA.enc a0) s1.2.1 fun (y2:aK) =>
 bO (!decide ((↑(List.map aA.enc a0).length:Int)=0))
 (aP aA (List.map aA.enc a0)
 ((IntKind.i64.wrap (s1.2.1+1)).tmod (↑(List.map aA.enc a0).length:Int))
 fun (y3:aK) =>
 X0
 (IntKind.i64.wrap
 (s1.1 +
 IntKind.i64.wrap
 (IntKind.i64.wrap (y2.1*y3.2)-IntKind.i64.wrap (y3.1*y2.2))),
 IntKind.i64.wrap (s1.2.1+1),())))
 (R (T.v (.int .i64 s1.1))))
 (0,0,())
theorem YB ( a0 R):bJ aV Tryz.prog M8 ABU 8 152 [aD false aA.li a0] R=NP a0 R:=by kernel_rfl
abbrev EV:Sh:=[(false,aA.li)]
def JK (p:List aK):Option T:=L8 p (T.v (Value.int .i64 (eQ p)))
noncomputable def j2:List T→Option (T):=gS EV JK
theorem ZZ {a0}:j2 [T.sl false (List.map aA.enc a0)]=JK (a0):=bH (s:=EV) rfl (a0) rfl
theorem AMP (h:∀ a0 r,JK (a0)=some r→cR EV (a0)→NP a0 (fun y=>y=r)):aJ Tryz.prog 152 j2 :=
 aX (E:=M8) (Hs:=ABU) AD1 a6 a7 (aM rfl) 8 ⟨_,_,Tryz.func152,rfl⟩ rfl fun x r h1 h2=>by
  let a0:=x
  rw[show Sh.cA EV (a0)=[aD false aA.li a0] from rfl,YB]
  exact h a0 r h1 h2
theorem TJ:aJ Tryz.prog 152 j2:=AMP fun p r h hb=>by
 obtain ⟨hl,hn,rfl⟩:=VO h
 clear h
 unfold NP
 refine aY p.length (fun k s=>s=(cL k (V3 p),(k:Int),())) rfl ?_
 rintro X k s hk rfl hX
 dsimp only
 refine bZ (fun hlt=>?_) fun hge=>DW (by rw[List.length_map] at hge;rw[show k=p.length by omega];rfl)
 rw[List.length_map] at hlt
 have hlt:k<p.length:=by omega
 have hne:(!decide (((List.map aA.enc p).length:Int)=0))=true:=by rw[List.length_map,decide_eq_false (by omega)];rfl
 have hm1:(k+1) % p.length<p.length:=Nat.mod_lt _ (by omega)
 have i1:(IntKind.i64.wrap ((k:Int)+1)).tmod ((List.map aA.enc p).length:Int)=(((k+1) % p.length:Nat):Int):=by rw[List.length_map];exact qF (c:=1) hl (by omega) (by omega)
 rw[dQ hlt,i1]
 refine ⟨hne,?_⟩
 rw[dQ hm1]
 have hb1:=ADF hn k
 have hb2:=EC hn k
 have hb3:=EC hn (k+1)
 refine hX _ hlt ?_
 rw[show IntKind.i64.wrap ((k:Int)+1)=((k+1:Nat):Int) from aO _ (by omega) (by omega)]
 have e:IntKind.i64.wrap (cL k (V3 p)+IntKind.i64.wrap (IntKind.i64.wrap ((pt p k).1*(nx p k).2)-IntKind.i64.wrap ((nx p k).1*(pt p k).2)))=cL (k+1) (V3 p):=by
  rw[aO ((pt p k).1*(nx p k).2) (by omega) (by omega),aO ((nx p k).1*(pt p k).2) (by omega) (by omega),aO ((pt p k).1*(nx p k).2-(nx p k).1*(pt p k).2) (by omega) (by omega),aO _ (by omega) (by omega)]
  rfl
 rw[←e];rfl
theorem H3 {p:List Pt} (h:p.length≤1000) (h2:iA p):j2 [T.sl false (List.map aA.enc p)]=some (Sh.enc [(false,.int .i64)] (eQ p)):=(ZZ ..).trans (VP _ h h2)
def eU (p:List Pt):Int:=if p.length<3 then 3 else if 32<p.length then 4 else if IQ p=false then 9 else if pN p=false∨eQ p=0 then 17 else 0
noncomputable def zK:Env:=Env.of [(169,.pure p9),(170,.pure jM),(152,.pure j2)]
def KU:FuncId→Hint:=fun f=>match f == 198 with|true=>⟨fun r=>match r == 2 with|true=>.inv [.val 8 false (.int .i64)]|false=>.none,fun _ _=>none,fun _=>none⟩|false=>aU
theorem QR:aF Tryz.prog zK:=aF.cons (x:=.pure p9) ACG (aF.cons (x:=.pure jM) ZL (aF.cons (x:=.pure j2) TJ (aF.nil _)))
def zT (a0:List aK) (R:T→Prop):Prop :=
 aB (decide ((↑(List.map aA.enc a0).length:Int)<3)) (R (T.v (.int .i64 3)))
 (aB (decide (32<(↑(List.map aA.enc a0).length:Int)))
 (R (T.v (.int .i64 4)))
 (bB (Int×PUnit)
 (fun (X0:Int×PUnit→Prop) (s1:Int×PUnit) =>
 aB (decide (s1.1<(↑(List.map aA.enc a0).length:Int)))
 (aP aA (List.map aA.enc a0) s1.1 fun (y2:aK) =>
 aH [(false,Sy.bool)] (p9 [aD true aA y2]) fun (y3:Bool) =>
 aB y3
 (aB (decide (0≤s1.1)) (R (T.v (.int .i64 9)))
 (aH [(false,Sy.bool)]
 (jM [T.sl false (List.map aA.enc a0)]) fun (y4:Bool) =>
 aB (!y4) (R (T.v (.int .i64 17)))
 (aH [(false,Sy.int IntKind.i64)]
 (j2 [T.sl false (List.map aA.enc a0)]) fun (y5:Int) =>
 aB (decide (y5=0)) (R (T.v (.int .i64 17)))
 (R (T.v (.int .i64 0))))))
 (X0 (IntKind.i64.wrap (s1.1+1),())))
 (aH [(false,Sy.bool)] (jM [T.sl false (List.map aA.enc a0)])
 fun (y6:Bool) =>
 aB (!y6) (R (T.v (.int .i64 17)))
 (aH [(false,Sy.int IntKind.i64)]
 (j2 [T.sl false (List.map aA.enc a0)]) fun (y7:Int) =>
 aB (decide (y7=0)) (R (T.v (.int .i64 17)))
 (R (T.v (.int .i64 0))))))
 (0,())))
theorem NS ( a0 R):bJ aV Tryz.prog zK KU 8 147 [aD false aA.li a0] R=zT a0 R:=by kernel_rfl
abbrev tV:Sh:=[(false,aA.li)]
def wN (p:List aK):Option T:=some (T.v (Value.int .i64 (eU p)))
noncomputable def dD:List T→Option (T):=gS tV wN
theorem OS {a0}:dD [T.sl false (List.map aA.enc a0)]=wN (a0):=bH (s:=tV) rfl (a0) rfl
theorem AAJ (h:∀ a0 r,wN (a0)=some r→cR tV (a0)→zT a0 (fun y=>y=r)):aJ Tryz.prog 147 dD :=
 aX (E:=zK) (Hs:=KU) QR a6 a7 (aM rfl) 8 ⟨_,_,Tryz.func147,rfl⟩ rfl fun x r h1 h2=>by
  let a0:=x
  rw[show Sh.cA tV (a0)=[aD false aA.li a0] from rfl,NS]
  exact h a0 r h1 h2
theorem vU:aJ Tryz.prog 147 dD:=AAJ fun p r h hb=>by
 cases h
 have is:∀ {n:Int},eU p=n→T.v (.int .i64 n)=T.v (.int .i64 (eU p)):=fun h=>by rw[h]
 unfold zT
 refine bZ (fun h=>is (by rw[List.length_map] at h;unfold eU;rw[if_pos (by omega)])) fun h1=>?_
 refine bZ (fun h=>is (by rw[List.length_map] at h h1;unfold eU;rw[if_neg (by omega),if_pos (by omega)])) fun h2=>?_
 rw[List.length_map] at h1 h2
 refine aY p.length (fun k s=>s=((k:Int),())∧∀ i,i<k→i<p.length→cG (pt p i)) ⟨rfl,fun i h=>by omega⟩ ?_
 rintro X k s hk ⟨rfl,hJ⟩ hX
 dsimp only
 refine bZ (fun hlt=>?_) fun hge=>?_
 ·rw[List.length_map] at hlt
  have hlt:k<p.length:=by omega
  rw[dQ hlt]
  refine aG (s:=[(false,.bool)]) (y:=!decide (cG (pt p k))) (LR ..) ?_
  refine mG (fun hf=>?_) fun hn=>hX _ hlt ⟨by rw[show IntKind.i64.wrap ((k:Int)+1)=((k+1:Nat):Int) from aO _ (by omega) (by omega)],fun i h1 h2=>by
   rcases Nat.lt_or_ge i k with h3|h3
   ·exact hJ i h3 h2
   ·have:i=k:=by omega
    subst this;exact hn⟩
  refine bZ (fun _=>is ?_) fun h=>by omega
  have:IQ p=false:=by
   rw[Bool.eq_false_iff];intro h
   have:=kM.1 h _ (List.getElem_mem hlt)
   rw[←I6 hlt] at this
   exact hf this
  unfold eU;rw[if_neg (by omega),if_neg (by omega),if_pos this]
 ·have hN:iA p:=fun q hq=>by
   obtain ⟨i,hi,rfl⟩:=List.mem_iff_getElem.1 hq
   rw[←I6 hi]
   rw[List.length_map] at hge
   exact hJ i (by omega) hi
  have hnb:¬ IQ p=false:=by rw[kM.2 hN];simp
  refine aG (s:=[(false,.bool)]) (OU (by omega) hN) ?_
  refine lC (fun h=>is (by unfold eU;rw[if_neg (by omega),if_neg (by omega),if_neg hnb,if_pos (.inl h)])) fun hs=>?_
  refine aG (s:=[(false,.int .i64)]) (H3 (by omega) hN) ?_
  refine bZ (fun h=>is (by unfold eU;rw[if_neg (by omega),if_neg (by omega),if_neg hnb,if_pos (.inr h)])) fun ha=>is ?_
  unfold eU
  rw[if_neg (by omega),if_neg (by omega),if_neg hnb,if_neg]
  rintro (h|h)
  ·rw[show pN p=true from hs] at h;cases h
  ·exact ha h
theorem l6 (p:List Pt):dD [T.sl false (List.map aA.enc p)]=some (Sh.enc [(false,.int .i64)] (eU p)):=OS ..
theorem eV {p:List Pt} (h:eU p=0):3≤p.length∧p.length≤32∧iA p∧pN p=true∧eQ p≠0:=by
 unfold eU at h
 by_cases h1:p.length<3
 ·rw[if_pos h1] at h;cases h
 rw[if_neg h1] at h
 by_cases h2:32<p.length
 ·rw[if_pos h2] at h;cases h
 rw[if_neg h2] at h
 by_cases h3:IQ p=false
 ·rw[if_pos h3] at h;cases h
 rw[if_neg h3] at h
 by_cases h4:pN p=false∨eQ p=0
 ·rw[if_pos h4] at h;cases h
 refine ⟨by omega,by omega,kM.1 (by simpa using h3),by simpa using fun e=>h4 (.inl e),fun e=>h4 (.inr e)⟩
def iL (p:List Pt):Int:=if eU p=0 then eQ p else 0
noncomputable def FK:Env:=Env.of [(147,.pure dD),(152,.pure j2)]
def R1:FuncId→Hint:=fun _=>aU
theorem XD:aF Tryz.prog FK:=aF.cons (x:=.pure dD) vU (aF.cons (x:=.pure j2) TJ (aF.nil _))
def GA (a0:List aK) (R:T→Prop):Prop :=
 aH [(false,Sy.int IntKind.i64)] (dD [T.sl false (List.map aA.enc a0)])
 fun (y0:Int) =>
 aB (!decide (y0=0)) (R (T.v (.int .i64 0)))
 (aH [(false,Sy.int IntKind.i64)]
 (j2 [T.sl false (List.map aA.enc a0)]) fun (y1:Int) =>
 R (T.v (.int .i64 y1)))
theorem RA ( a0 R):bJ aV Tryz.prog FK R1 8 117 [aD false aA.li a0] R=GA a0 R:=by kernel_rfl
abbrev yN:Sh:=[(false,aA.li)]
def CL (p:List aK):Option T:=some (T.v (Value.int .i64 (iL p)))
noncomputable def gI:List T→Option (T):=gS yN CL
theorem T5 {a0}:gI [T.sl false (List.map aA.enc a0)]=CL (a0):=bH (s:=yN) rfl (a0) rfl
theorem AG1 (h:∀ a0 r,CL (a0)=some r→cR yN (a0)→GA a0 (fun y=>y=r)):aJ Tryz.prog 117 gI :=
 aX (E:=FK) (Hs:=R1) XD a6 a7 (aM rfl) 8 ⟨_,_,Tryz.func117,rfl⟩ rfl fun x r h1 h2=>by
  let a0:=x
  rw[show Sh.cA yN (a0)=[aD false aA.li a0] from rfl,RA]
  exact h a0 r h1 h2
theorem LI:aJ Tryz.prog 117 gI:=AG1 fun p r h hb=>by
 cases h
 unfold GA
 refine aG (s:=[(false,.int .i64)]) (l6 p) ?_
 refine mG (fun h=>DW (by unfold iL;rw[if_neg h])) fun h=>?_
 obtain ⟨_,h2,h3,_⟩:=eV h
 refine aG (s:=[(false,.int .i64)]) (H3 (by omega) h3) ?_
 exact DW (by unfold iL;rw[if_pos h])
theorem r4 (p:List Pt):gI [T.sl false (List.map aA.enc p)]=some (Sh.enc [(false,.int .i64)] (iL p)):=T5 ..
end Go.Pv
namespace Go.Pv
open Go Go.Proofs
def L7 (p:List Pt) (q:Pt):Bool:=(List.range p.length).any fun i=>nF (pt p i) (nx p i) q
def eM (p:List Pt) (q:Pt):Int:=if ¬ cG q∨¬ eU p=0 then -1 else if L7 p q=true then 0 else if fF p q=true then 1 else -1
theorem jJ {n:Nat} {f:Nat→Bool}:(List.range n).any f=true↔∃ i,i<n∧f i=true:=by simp[List.any_eq_true,List.mem_range]
theorem N9 {n:Nat} {f:Nat→Bool} (h:∀ i,i<n→f i=false):(List.range n).any f=false:=by
 rw[Bool.eq_false_iff];intro ha
 obtain ⟨i,hi,h2⟩:=jJ.1 ha
 rw[h i hi] at h2;cases h2
theorem ALN {a b q:Pt} (ho:nF a b q=false):hit a b q=(!(decide (q.2<a.2) == decide (q.2<b.2))&&(decide (0<aE a b q) == decide (a.2<b.2))):=by
 rcases Int.lt_or_le q.2 a.2 with h1|h1
 ·rcases Int.lt_or_le q.2 b.2 with h2|h2
  ·unfold hit;simp[show ¬ a.2≤q.2 by omega,show ¬ b.2≤q.2 by omega,h1,h2]
  ·have hz:aE a b q≠0:=fun h=>by
    have:=j5 (a:=b) (b:=a) (q:=q) (by rw[eX a b q,h];rfl) (by omega) h2 (by omega)
    rw[EJ] at this;rw[this] at ho;cases ho
   have h3:decide (0<aE a b q) = !decide (aE a b q<0):=by
    rcases Int.lt_or_le (aE a b q) 0 with h|h
    ·rw[decide_eq_true h,decide_eq_false (by omega)];rfl
    ·rw[decide_eq_false (show ¬ aE a b q<0 by omega),decide_eq_true (by omega)];rfl
   unfold hit
   rw[h3]
   simp[show ¬ a.2≤q.2 by omega,h1,h2,show ¬ q.2<b.2 by omega,show ¬ a.2<b.2 by omega]
 ·rcases Int.lt_or_le q.2 b.2 with h2|h2
  ·unfold hit;simp[h1,show ¬ q.2<a.2 by omega,h2,show ¬ b.2≤q.2 by omega,show a.2<b.2 by omega]
  ·unfold hit;simp[show ¬ q.2<a.2 by omega,show ¬ q.2<b.2 by omega]
noncomputable def FO:Env:=Env.of [(147,.pure dD),(169,.pure p9),(204,.pure o7),(199,.pure cT)]
def R6:FuncId→Hint:=fun f=>match f == 174 with|true=>⟨fun r=>match r == 5 with|true=>.inv [.val 5 false .bool,.val 19 false (.int .i64)]|false=>.none,fun _ _=>none,fun _=>none⟩|false=>aU
theorem XH:aF Tryz.prog FO:=aF.cons (x:=.pure dD) vU (aF.cons (x:=.pure p9) ACG (aF.cons (x:=.pure o7) AK2 (aF.cons (x:=.pure cT) tJ (aF.nil _))))
def GF (a0:List aK) (a1:aK) (R:T→Prop):Prop :=
 aH [(false,Sy.bool)] (p9 [aD true aA a1]) fun (y0:Bool) =>
 aB y0 (R (T.v (.int .i64 (-1))))
 (aH [(false,Sy.int IntKind.i64)]
 (dD [T.sl false (List.map aA.enc a0)]) fun (y1:Int) =>
 aB (!decide (y1=0)) (R (T.v (.int .i64 (-1))))
 (bB (Bool×Int×PUnit)
 (fun (X2:Bool×Int×PUnit→Prop) (s3:Bool×Int×PUnit) =>
 aB (decide (s3.2.1<(↑(List.map aA.enc a0).length:Int)))
 (aP aA (List.map aA.enc a0) s3.2.1 fun (y4:aK) =>
 bO (!decide ((↑(List.map aA.enc a0).length:Int)=0))
 (aP aA (List.map aA.enc a0)
 ((IntKind.i64.wrap (s3.2.1+1)).tmod (↑(List.map aA.enc a0).length:Int))
 fun (y5:aK) =>
 aH [(false,Sy.bool)]
 (o7
 [aD true aA y4,aD true aA y5,
 aD true aA a1])
 fun (y6:Bool) =>
 aB y6 (R (T.v (.int .i64 0)))
 (aB (decide (decide (a1.2<y4.2)=decide (a1.2<y5.2)))
 (X2 (s3.1,IntKind.i64.wrap (s3.2.1+1),()))
 (aH [(false,Sy.int IntKind.i64)]
 (cT
 [aD true aA y4,aD true aA y5,
 aD true aA a1])
 fun (y7:Int) =>
 aB (decide (decide (0<y7)=decide (y4.2<y5.2)))
 (X2 (!s3.1,IntKind.i64.wrap (s3.2.1+1),()))
 (X2 (s3.1,IntKind.i64.wrap (s3.2.1+1),()))))))
 (aB s3.1 (R (T.v (.int .i64 1)))
 (R (T.v (.int .i64 (-1))))))
 (false,0,())))
theorem RE ( a0 a1 R):bJ aV Tryz.prog FO R6 8 174 [aD false aA.li a0,aD true aA a1] R=GF a0 a1 R:=by kernel_rfl
abbrev yR:Sh:=[(false,aA.li),(true,aA)]
def CP (x:List aK×aK):Option T:=some (T.v (Value.int .i64 (eM x.1 x.2)))
noncomputable def gK:List T→Option (T):=gS yR CP
theorem T9 {a0 a1}:gK [T.sl false (List.map aA.enc a0),aD true aA a1]=CP (a0,a1):=bH (s:=yR) rfl (a0,a1) rfl
theorem AG5 (h:∀ a0 a1 r,CP (a0,a1)=some r→cR yR (a0,a1)→GF a0 a1 (fun y=>y=r)):aJ Tryz.prog 174 gK :=
 aX (E:=FO) (Hs:=R6) XH a6 a7 (aM rfl) 8 ⟨_,_,Tryz.func174,rfl⟩ rfl fun x r h1 h2=>by
  obtain ⟨a0,a1⟩:=x
  rw[show Sh.cA yR (a0,a1)=[aD false aA.li a0,aD true aA a1] from rfl,RE]
  exact h a0 a1 r h1 h2
def j0 (p q:List Pt):Bool:=(List.range p.length).any fun i=>(List.range q.length).any fun k=>b9 (pt p i) (nx p i) (pt q k) (nx q k)
def jT (a0:List aK) (a1:List aK):List T:=[T.sl false (List.map aA.enc a0),T.sl false (List.map aA.enc a1),T.fn 172 [] []]
noncomputable def FV:Env:=Env.of [(172,.pure pA)]
def SD:FuncId→Hint:=fun f=>match f == 171 with|true=>⟨fun r=>match r == 2 with|true=>.inv [.val 13 false (.int .i64)]|false=>match r == 5 with|true=>.inv [.val 20 false (.int .i64)]|false=>.none,fun _ _=>none,fun _=>none⟩|false=>aU
theorem XN:aF Tryz.prog FV:=aF.cons (x:=.pure pA) AFT (aF.nil _)
def GL (a0:List aK) (a1:List aK) (R:T→Prop):Prop :=
 bB (Int×PUnit)
 (fun (X0:Int×PUnit→Prop) (s1:Int×PUnit) =>
 aB (decide (s1.1<(↑(List.map aA.enc a0).length:Int)))
 (aP aA (List.map aA.enc a0) s1.1 fun (y2:aK) =>
 bB (Int×PUnit)
 (fun (X3:Int×PUnit→Prop) (s4:Int×PUnit) =>
 aB (decide (s4.1<(↑(List.map aA.enc a1).length:Int)))
 (aP aA (List.map aA.enc a1) s4.1 fun (y5:aK) =>
 bO (!decide ((↑(List.map aA.enc a0).length:Int)=0))
 (aP aA (List.map aA.enc a0)
 ((IntKind.i64.wrap (s1.1+1)).tmod (↑(List.map aA.enc a0).length:Int))
 fun (y6:aK) =>
 bO (!decide ((↑(List.map aA.enc a1).length:Int)=0))
 (aP aA (List.map aA.enc a1)
 ((IntKind.i64.wrap (s4.1+1)).tmod (↑(List.map aA.enc a1).length:Int))
 fun (y7:aK) =>
 aH [(false,Sy.bool)]
 (pA
 [aD true aA y2,aD true aA y6,
 aD true aA y5,aD true aA y7])
 fun (y8:Bool) =>
 aB y8 (R (T.v (.bool true)))
 (X3 (IntKind.i64.wrap (s4.1+1),())))))
 (X0 (IntKind.i64.wrap (s1.1+1),())))
 (0,()))
 (R (T.v (.bool false))))
 (0,())
theorem RL ( a0 a1 R):bJ aV Tryz.prog FV SD 8 171 (jT a0 a1) R=GL a0 a1 R:=by kernel_rfl
def IZ {α:Type} (p q:List Pt) (r:α):Option α:=match KO p&&KO q with
 | true=>some r
 | false=>none
theorem I0 {α:Type} {p q:List Pt} {t r:α} (h:IZ p q t=some r):p.length≤1000∧iA p∧q.length≤1000∧iA q∧r=t:=by
 unfold IZ at h;split at h
 ·rename_i hc
  simp only[KO,Bool.and_eq_true,decide_eq_true_eq,kM] at hc
  cases h;exact ⟨hc.1.1,hc.1.2,hc.2.1,hc.2.2,rfl⟩
 ·cases h
theorem I1 {α:Type} {p q:List Pt} (t:α) (h:p.length≤1000) (h2:iA p) (h3:q.length≤1000) (h4:iA q):IZ p q t=some t:=by
 unfold IZ;rw[show (KO p&&KO q)=true by simp only[KO,Bool.and_eq_true,decide_eq_true_eq,kM];exact ⟨⟨h,h2⟩,h3,h4⟩]
def CT (x:List aK×List aK):Option T:=IZ x.1 x.2 (T.v (.bool (j0 x.1 x.2)))
theorem M0 (x y:List aK×List aK) (h:jT x.1 x.2=jT y.1 y.2):x=y:=by
 unfold jT at h
 obtain ⟨h1,h2⟩:=List.cons.inj h
 have h2:=(List.cons.inj h2).1
 exact Prod.ext (map_inj (Sy.cS aA) (T.sl.inj h1).2) (map_inj (Sy.cS aA) (T.sl.inj h2).2)
noncomputable def iR:List T→Option (T):=gA (fun (x:List aK×List aK)=>jT x.1 x.2) CT
theorem UH (a0:List aK) (a1:List aK):iR (jT a0 a1)=CT (a0,a1):=j1 (A:=(fun (x:List aK×List aK)=>jT x.1 x.2)) M0 (a0,a1)
theorem AHB (h:∀ (a0:List aK) (a1:List aK) (r:T),CT (a0,a1)=some r→(∀ t∈jT a0 a1,Bd t)→GL a0 a1 (fun y=>y=r)):aJ Tryz.prog 171 iR :=
 eC (E:=FV) (Hs:=SD) XN a6 a7 (aM rfl) 8 ⟨_,_,Tryz.func171,rfl⟩ fun x r h1 h2=>by
  rw[RL]
  exact h x.1 x.2 r h1 h2
theorem LM:aJ Tryz.prog 171 iR:=AHB fun p q r h hb=>by
 obtain ⟨hl,hn,hl2,hn2,rfl⟩:=I0 h
 replace hl:p.length≤1000:=hl
 replace hl2:q.length≤1000:=hl2
 clear h
 unfold GL
 refine aY p.length (fun k s=>s=((k:Int),())∧∀ i,i<k→i<p.length→((List.range q.length).any fun k=>b9 (pt p i) (nx p i) (pt q k) (nx q k))=false) ⟨rfl,fun i h=>by omega⟩ ?_
 rintro X k s hk ⟨rfl,hJ⟩ hX
 dsimp only
 refine bZ (fun hlt=>?_) fun hge=>fX (Eq.symm (N9 fun i hi=>hJ i (by rw[List.length_map] at hge;omega) hi))
 rw[List.length_map] at hlt
 have hlt:k<p.length:=by omega
 have hne:(!decide (((List.map aA.enc p).length:Int)=0))=true:=by rw[List.length_map,decide_eq_false (by omega)];rfl
 have hm1:(k+1) % p.length<p.length:=Nat.mod_lt _ (by omega)
 have i1:(IntKind.i64.wrap ((k:Int)+1)).tmod ((List.map aA.enc p).length:Int)=(((k+1) % p.length:Nat):Int):=by rw[List.length_map];exact qF (c:=1) hl (by omega) (by omega)
 rw[dQ hlt]
 refine aY q.length (fun j s=>s=((j:Int),())∧∀ i,i<j→i<q.length→b9 (pt p k) (nx p k) (pt q i) (nx q i)=false) ⟨rfl,fun i h=>by omega⟩ ?_
 rintro Y j s hj ⟨rfl,hI⟩ hY
 dsimp only
 refine bZ (fun hlj=>?_) fun hgj=>hX _ hlt ⟨by rw[show IntKind.i64.wrap ((k:Int)+1)=((k+1:Nat):Int) from aO _ (by omega) (by omega)],fun i h1 h2=>by
  rcases Nat.lt_or_ge i k with h3|h3
  ·exact hJ i h3 h2
  ·have:i=k:=by omega
   subst this;exact N9 fun m hm=>hI m (by rw[List.length_map] at hgj;omega) hm⟩
 rw[List.length_map] at hlj
 have hlj:j<q.length:=by omega
 have hne2:(!decide (((List.map aA.enc q).length:Int)=0))=true:=by rw[List.length_map,decide_eq_false (by omega)];rfl
 have hm2:(j+1) % q.length<q.length:=Nat.mod_lt _ (by omega)
 have i2:(IntKind.i64.wrap ((j:Int)+1)).tmod ((List.map aA.enc q).length:Int)=(((j+1) % q.length:Nat):Int):=by rw[List.length_map];exact qF (c:=1) hl2 (by omega) (by omega)
 rw[dQ hlj,i1]
 refine ⟨hne,?_⟩
 rw[dQ hm1,i2]
 refine ⟨hne2,?_⟩
 rw[dQ hm2]
 refine aG (s:=[(false,.bool)]) ((UN ..).trans (VC _ (hn.pt _) (hn.pt _) (hn2.pt _) (hn2.pt _))) ?_
 refine J5 (fun h=>fX (Eq.symm (jJ.2 ⟨k,hlt,jJ.2 ⟨j,hlj,h⟩⟩))) fun h=>hY _ hlj ⟨by rw[show IntKind.i64.wrap ((j:Int)+1)=((j+1:Nat):Int) from aO _ (by omega) (by omega)],fun i h1 h2=>by
  rcases Nat.lt_or_ge i j with h3|h3
  ·exact hI i h3 h2
  ·have:i=j:=by omega
   subst this;exact h⟩
theorem DE {p q:List Pt} (h:p.length≤1000) (h2:iA p) (h3:q.length≤1000) (h4:iA q):iR (jT p q)=some (Sh.enc [(false,.bool)] (j0 p q)):=(UH ..).trans (I1 _ h h2 h3 h4)
theorem LK:aJ Tryz.prog 174 gK:=AG5 fun p q r h hb=>by
 cases h
 have is:∀ {n:Int},eM p q=n→T.v (.int .i64 n)=T.v (.int .i64 (eM p q)):=fun h=>by rw[h]
 unfold GF
 refine aG (s:=[(false,.bool)]) (y:=!decide (cG q)) (LR ..) ?_
 refine mG (fun h=>is (by unfold eM;rw[if_pos (.inl h)])) fun hq=>?_
 refine aG (s:=[(false,.int .i64)]) (l6 p) ?_
 refine mG (fun h=>is (by unfold eM;rw[if_pos (.inr h)])) fun hp=>?_
 obtain ⟨hl3,hl32,hn,_⟩:=eV hp
 have w:eM p q=if L7 p q=true then 0 else if fF p q=true then 1 else -1:=by
  unfold eM;rw[if_neg];rintro (h|h)
  ·exact h hq
  ·exact h hp
 refine aY p.length (fun k s=>s=(eZ k (fun i=>hit (pt p i) (nx p i) q),(k:Int),())∧∀ i,i<k→i<p.length→nF (pt p i) (nx p i) q=false) ⟨rfl,fun i h=>by omega⟩ ?_
 rintro X k s hk ⟨rfl,hJ⟩ hX
 dsimp only
 refine bZ (fun hlt=>?_) fun hge=>?_
 ·rw[List.length_map] at hlt
  have hlt:k<p.length:=by omega
  have hne:(!decide (((List.map aA.enc p).length:Int)=0))=true:=by rw[List.length_map,decide_eq_false (by omega)];rfl
  have hm1:(k+1) % p.length<p.length:=Nat.mod_lt _ (by omega)
  have i1:(IntKind.i64.wrap ((k:Int)+1)).tmod ((List.map aA.enc p).length:Int)=(((k+1) % p.length:Nat):Int):=by rw[List.length_map];exact qF (c:=1) (by omega) (by omega) (by omega)
  rw[dQ hlt,i1]
  refine ⟨hne,?_⟩
  rw[dQ hm1]
  refine aG (s:=[(false,.bool)]) (r5 (hn.pt _) (hn.pt _) hq) ?_
  refine J5 (fun h=>is (by rw[w,if_pos (show L7 p q=true from jJ.2 ⟨k,hlt,h⟩)])) fun ho=>?_
  have ho:nF (pt p k) (nx p k) q=false:=ho
  have hw:IntKind.i64.wrap ((k:Int)+1)=((k+1:Nat):Int):=aO _ (by omega) (by omega)
  have hh:=ALN ho
  have hJ':∀ i,i<k+1→i<p.length→nF (pt p i) (nx p i) q=false:=fun i h1 h2=>by
   rcases Nat.lt_or_ge i k with h3|h3
   ·exact hJ i h3 h2
   ·have:i=k:=by omega
    subst this;exact ho
  have step:∀ c,hit (pt p k) (nx p k) q=c→X ((eZ k (fun i=>hit (pt p i) (nx p i) q) ^^ c),IntKind.i64.wrap ((k:Int)+1),()):=fun c hc=>hX _ hlt ⟨by rw[hw,eZ,hc],hJ'⟩
  refine bZ (fun h=>?_) fun h=>?_
  ·have e:hit (pt p k) (nx p k) q=false:=by
    rw[hh,show decide (q.2<(pt p k).2)=decide (q.2<(nx p k).2) from h];simp
   have:=step false e
   rwa[Bool.xor_false] at this
  ·refine aG (s:=[(false,.int .i64)]) (gJ (hn.pt _) (hn.pt _) hq) ?_
   have e0:hit (pt p k) (nx p k) q=(decide (0<aE (pt p k) (nx p k) q) == decide ((pt p k).2<(nx p k).2)):=by
    rw[hh,show (decide (q.2<(pt p k).2) == decide (q.2<(nx p k).2))=false from beq_eq_false_iff_ne.2 h];rfl
   refine bZ (fun h2=>?_) fun h2=>?_
   ·have:=step true (by rw[e0];exact beq_iff_eq.2 h2)
    rwa[Bool.xor_true] at this
   ·have:=step false (by rw[e0];exact beq_eq_false_iff_ne.2 h2)
    rwa[Bool.xor_false] at this
 ·rw[List.length_map] at hge
  have:k=p.length:=by omega
  subst this
  have hna:L7 p q=false:=N9 fun i hi=>hJ i hi hi
  refine J5 (fun h=>is ?_) fun h=>is ?_
  ·rw[w,hna,if_neg (by simp),if_pos (show fF p q=true from h)]
  ·rw[w,hna,if_neg (by simp),if_neg (by rw[show fF p q=false from h];simp)]
theorem r6 (p:List Pt) (q:Pt):gK [T.sl false (List.map aA.enc p),aD true aA q]=some (Sh.enc [(false,.int .i64)] (eM p q)):=T9 ..
def hU (p o:List Pt):Bool:=!j0 p o&&p.all fun c=>decide (eM o c=1)
def kE (p q:List Pt):Bool:=!j0 p q&&(decide (eM p (pt q 0)<0)&&decide (eM q (pt p 0)<0))
noncomputable def zO:Env:=Env.of [(174,.pure gK),(171,.pure iR)]
def KY:FuncId→Hint:=fun f=>match f == 198 with|true=>⟨fun r=>match r == 2 with|true=>.inv [.val 8 false (.int .i64)]|false=>.none,fun _ _=>none,fun _=>none⟩|false=>aU
theorem QV:aF Tryz.prog zO:=aF.cons (x:=.pure gK) LK (aF.cons (x:=.pure iR) LM (aF.nil _))
def zX (a0:List aK) (a1:List aK) (R:T→Prop):Prop :=
 aH [(false,Sy.bool)]
 (iR
 [T.sl false (List.map aA.enc a0),T.sl false (List.map aA.enc a1),
 T.fn 172 [] []])
 fun (y0:Bool) =>
 aB (!y0)
 (bB (Int×PUnit)
 (fun (X1:Int×PUnit→Prop) (s2:Int×PUnit) =>
 aB (decide (s2.1<(↑(List.map aA.enc a0).length:Int)))
 (aP aA (List.map aA.enc a0) s2.1 fun (y3:aK) =>
 aH [(false,Sy.int IntKind.i64)]
 (gK [T.sl false (List.map aA.enc a1),aD true aA y3])
 fun (y4:Int) =>
 aB (!decide (y4=1)) (R (T.v (.bool !decide (0≤s2.1))))
 (X1 (IntKind.i64.wrap (s2.1+1),())))
 (R (T.v (.bool true))))
 (0,()))
 (R (T.v (.bool false)))
theorem N0 ( a0 a1 R):bJ aV Tryz.prog zO KY 8 148 [aD false aA.li a0,aD false aA.li a1] R=zX a0 a1 R:=by kernel_rfl
abbrev tZ:Sh:=[(false,aA.li),(false,aA.li)]
def wR (x:List aK×List aK):Option T:=IZ x.1 x.2 (T.v (.bool (hU x.1 x.2)))
noncomputable def kJ:List T→Option (T):=gS tZ wR
theorem OX {a0 a1}:kJ [T.sl false (List.map aA.enc a0),T.sl false (List.map aA.enc a1)]=wR (a0,a1):=bH (s:=tZ) rfl (a0,a1) rfl
theorem AAN (h:∀ a0 a1 r,wR (a0,a1)=some r→cR tZ (a0,a1)→zX a0 a1 (fun y=>y=r)):aJ Tryz.prog 148 kJ :=
 aX (E:=zO) (Hs:=KY) QV a6 a7 (aM rfl) 8 ⟨_,_,Tryz.func148,rfl⟩ rfl fun x r h1 h2=>by
  obtain ⟨a0,a1⟩:=x
  rw[show Sh.cA tZ (a0,a1)=[aD false aA.li a0,aD false aA.li a1] from rfl,N0]
  exact h a0 a1 r h1 h2
theorem ZN:aJ Tryz.prog 148 kJ:=AAN fun p o r h hb=>by
 obtain ⟨hl,hn,hl2,hn2,rfl⟩:=I0 h
 replace hl:p.length≤1000:=hl
 clear h
 unfold zX
 refine aG (s:=[(false,.bool)]) (DE hl hn hl2 hn2) ?_
 refine lC (fun he=>?_) fun he=>fX (by unfold hU;rw[show j0 p o=true from he];rfl)
 have w:hU p o=p.all fun c=>decide (eM o c=1):=by unfold hU;rw[show j0 p o=false from he];rfl
 refine aY p.length (fun k s=>s=((k:Int),())∧p.all (fun c=>decide (eM o c=1))=(p.drop k).all fun c=>decide (eM o c=1)) ⟨rfl,by rw[List.drop_zero]⟩ ?_
 rintro X k s hk ⟨rfl,hJ⟩ hX
 dsimp only
 refine bZ (fun hlt=>?_) fun hge=>fX ?_
 ·rw[List.length_map] at hlt
  have hlt:k<p.length:=by omega
  rw[List.drop_eq_getElem_cons hlt,List.all_cons] at hJ
  rw[aT (r:=aA) hlt]
  refine aG (s:=[(false,.int .i64)]) (r6 o p[k]) ?_
  refine mG (fun h=>fX ?_) fun h=>hX _ hlt ⟨by rw[show IntKind.i64.wrap ((k:Int)+1)=((k+1:Nat):Int) from aO _ (by omega) (by omega)],by rw[hJ,decide_eq_true (show eM o p[k]=1 from h),Bool.true_and]⟩
  rw[w,hJ,decide_eq_false (show ¬ eM o p[k]=1 from h),decide_eq_true (show 0≤(k:Int) by omega)];rfl
 ·rw[List.length_map] at hge
  have:k=p.length:=by omega
  subst this
  rw[w,hJ,List.drop_length];rfl
theorem OY {p q:List Pt} (h:p.length≤1000) (h2:iA p) (h3:q.length≤1000) (h4:iA q):kJ [T.sl false (List.map aA.enc p),T.sl false (List.map aA.enc q)]=some (Sh.enc [(false,.bool)] (hU p q)):=(OX ..).trans (I1 _ h h2 h3 h4)
def AAS (p q:List Pt) (t:T):Option T:=match p,q with
 | _::_,_::_=>IZ p q t
 | _,_=>none
noncomputable def FP:Env:=Env.of [(174,.pure gK),(171,.pure iR)]
def R8:FuncId→Hint:=fun _=>aU
theorem XI:aF Tryz.prog FP:=aF.cons (x:=.pure gK) LK (aF.cons (x:=.pure iR) LM (aF.nil _))
def GG (a0:List aK) (a1:List aK) (R:T→Prop):Prop :=
 aH [(false,Sy.bool)]
 (iR
 [T.sl false (List.map aA.enc a0),T.sl false (List.map aA.enc a1),
 T.fn 172 [] []])
 fun (y0:Bool) =>
 aB (!y0)
 (aP aA (List.map aA.enc a1) 0 fun (y1:aK) =>
 aH [(false,Sy.int IntKind.i64)]
 (gK [T.sl false (List.map aA.enc a0),aD true aA y1])
 fun (y2:Int) =>
 aB (decide (y2<0))
 (aP aA (List.map aA.enc a0) 0 fun (y3:aK) =>
 aH [(false,Sy.int IntKind.i64)]
 (gK [T.sl false (List.map aA.enc a1),aD true aA y3])
 fun (y4:Int)=>R (T.v (.bool (decide (y4<0)))))
 (R (T.v (.bool false))))
 (R (T.v (.bool false)))
theorem RF ( a0 a1 R):bJ aV Tryz.prog FP R8 8 149 [aD false aA.li a0,aD false aA.li a1] R=GG a0 a1 R:=by kernel_rfl
abbrev yS:Sh:=[(false,aA.li),(false,aA.li)]
def pR (x:List aK×List aK):Option T:=AAS x.1 x.2 (T.v (.bool (kE x.1 x.2)))
noncomputable def mV:List T→Option (T):=gS yS pR
theorem UA {a0 a1}:mV [T.sl false (List.map aA.enc a0),T.sl false (List.map aA.enc a1)]=pR (a0,a1):=bH (s:=yS) rfl (a0,a1) rfl
theorem AG6 (h:∀ a0 a1 r,pR (a0,a1)=some r→cR yS (a0,a1)→GG a0 a1 (fun y=>y=r)):aJ Tryz.prog 149 mV :=
 aX (E:=FP) (Hs:=R8) XI a6 a7 (aM rfl) 8 ⟨_,_,Tryz.func149,rfl⟩ rfl fun x r h1 h2=>by
  obtain ⟨a0,a1⟩:=x
  rw[show Sh.cA yS (a0,a1)=[aD false aA.li a0,aD false aA.li a1] from rfl,RF]
  exact h a0 a1 r h1 h2
theorem AFP:aJ Tryz.prog 149 mV:=AG6 fun p q r h hb=>by
 unfold pR AAS at h
 split at h
 ·rename_i e1 e2
  obtain ⟨hl,hn,hl2,hn2,rfl⟩:=I0 h
  have k1:0<p.length:=by rw[show p=_ from e1];simp
  have k2:0<q.length:=by rw[show q=_ from e2];simp
  clear h
  unfold GG
  refine aG (s:=[(false,.bool)]) (DE hl hn hl2 hn2) ?_
  refine lC (fun he=>?_) fun he=>fX (by unfold kE;rw[show j0 p q=true from he];rfl)
  have w:kE p q=(decide (eM p (pt q 0)<0)&&decide (eM q (pt p 0)<0)):=by unfold kE;rw[show j0 p q=false from he];rfl
  rw[show (0:Int)=((0:Nat):Int) from rfl,dQ k2]
  refine aG (s:=[(false,.int .i64)]) (r6 p (pt q 0)) ?_
  refine bZ (fun h=>?_) fun h=>fX (by rw[w,decide_eq_false (show ¬ eM p (pt q 0)<0 from h)];rfl)
  rw[dQ k1]
  refine aG (s:=[(false,.int .i64)]) (r6 q (pt p 0)) ?_
  exact fX (by rw[w,decide_eq_true (show eM p (pt q 0)<0 from h)];rfl)
 ·cases h
theorem UB {p q:List Pt} (k1:0<p.length) (k2:0<q.length) (h:p.length≤1000) (h2:iA p) (h3:q.length≤1000) (h4:iA q):mV [T.sl false (List.map aA.enc p),T.sl false (List.map aA.enc q)]=some (Sh.enc [(false,.bool)] (kE p q)):=by
 refine (UA ..).trans ?_
 unfold pR AAS
 cases p with
 | nil=>simp at k1
 | cons a p=>cases q with
  | nil=>simp at k2
  | cons b q=>exact I1 _ h h2 h3 h4
end Go.Pv
namespace Go.Pv
open Go Go.Proofs
theorem nU {r:Sy} {l:List r.den} (f:Nat→Int) (hl:l.length≤1000000) {Body:(Int×PUnit→Prop)→Int×PUnit→r.den→Prop} {Exit:Prop}
  (hbody:∀ (X:Int×PUnit→Prop) (k:Nat) (hk:k<l.length),(∀ j,j<k→f j=0)→(f k=0→X (((k+1:Nat):Int),()))→(f k≠0→bK f (List.range l.length)=f k)→Body X ((k:Int),()) l[k]) (hexit:bK f (List.range l.length)=0→Exit) :
  bB (Int×PUnit) (fun (X:Int×PUnit→Prop) (s:Int×PUnit)=>aB (decide (s.1<((List.map r.enc l).length:Int))) (aP r (List.map r.enc l) s.1 fun y=>Body X s y) Exit) (0,()):=by
 refine aY l.length (fun k s=>s=((k:Int),())∧bK f (List.range l.length)=bK f (List.range' k (l.length-k))∧∀ j,j<k→f j=0) ⟨rfl,by rw[List.range_eq_range'];rfl,fun j h=>by omega⟩ ?_
 rintro X k s hk ⟨rfl,he,hp⟩ hX
 dsimp only
 refine bZ (fun hlt=>?_) fun hge=>?_
 ·rw[List.length_map] at hlt
  have hlt:k<l.length:=by omega
  rw[aT hlt]
  obtain ⟨m,hm⟩:∃ m,l.length-k=m+1:=⟨l.length-k-1,by omega⟩
  rw[hm,List.range'_succ,bK] at he
  refine hbody X k hlt hp (fun h0=>?_) fun h0=>by rw[he,if_neg h0]
  rw[if_pos h0] at he
  exact hX _ hlt ⟨rfl,by rw[he];congr 2;omega,fun j hj=>by
   rcases Nat.lt_or_ge j k with h|h
   ·exact hp j h
   ·have:j=k:=by omega
    subst this;exact h0⟩
 ·rw[List.length_map] at hge
  have:l.length-k=0:=by omega
  rw[this] at he
  exact hexit he
def sB (s:fW) (i:Nat):Int:=if ¬ eU (s.2.getD i [])=0 then eU (s.2.getD i []) else if 0≤iL (s.2.getD i [])∨hU (s.2.getD i []) s.1=false then 17 else if ((List.range i).all fun k=>kE (s.2.getD i []) (s.2.getD k []))=false then 17 else 0
def nA (s:fW):Int:=if 8<s.2.length then 12 else if ¬ eU s.1=0 then eU s.1 else if iL s.1≤0 then 17 else bK (sB s) (List.range s.2.length)
theorem lB {α:Type} {f:α→Int}:∀ {l:List α},bK f l=0→∀ a∈l,f a=0
 | a::l,h,b,hb=>by
  unfold bK at h
  by_cases ha:f a=0
  ·rw[if_pos ha] at h
   rcases List.mem_cons.1 hb with rfl|hb
   ·exact ha
   ·exact lB h b hb
  ·rw[if_neg ha] at h;exact absurd h ha
 | [],_,b,hb=>by cases hb
theorem AHF (l:List (List aK)):kO 1 (List.map aA.li.enc l)=true:=by cases l<;>rfl
noncomputable def FR:Env:=Env.of [(147,.pure dD),(117,.pure gI),(148,.pure kJ),(149,.pure mV)]
def SA:FuncId→Hint:=fun f=>match f == 109 with|true=>⟨fun r=>match r == 9 with|true=>.inv [.val 26 false (.int .i64)]|false=>match r == 17 with|true=>.inv [.val 51 false (.int .i64)]|false=>.none,fun _ _=>none,fun _=>none⟩|false=>aU
theorem XK:aF Tryz.prog FR:=aF.cons (x:=.pure dD) vU (aF.cons (x:=.pure gI) LI (aF.cons (x:=.pure kJ) ZN (aF.cons (x:=.pure mV) AFP (aF.nil _))))
def GI (a0:fW) (R:T→Prop):Prop :=
 aB (decide (8<(↑(List.map aA.li.enc a0.2).length:Int)))
 (R (T.v (.int .i64 12)))
 (aH [(false,Sy.int IntKind.i64)]
 (dD [T.sl false (List.map aA.enc a0.1)]) fun (y0:Int) =>
 aB (!decide (y0=0)) (R (T.v (.int .i64 y0)))
 (aH [(false,Sy.int IntKind.i64)]
 (gI [T.sl false (List.map aA.enc a0.1)]) fun (y1:Int) =>
 aB (decide (y1≤0)) (R (T.v (.int .i64 17)))
 (bB (Int×PUnit)
 (fun (X2:Int×PUnit→Prop) (s3:Int×PUnit) =>
 aB (decide (s3.1<(↑(List.map aA.li.enc a0.2).length:Int)))
 (aP aA.li (List.map aA.li.enc a0.2) s3.1
 fun (y4:List aK) =>
 aH [(false,Sy.int IntKind.i64)]
 (dD [T.sl false (List.map aA.enc y4)]) fun (y5:Int) =>
 aB (!decide (y5=0)) (R (T.v (.int .i64 y5)))
 (aH [(false,Sy.int IntKind.i64)]
 (gI [T.sl false (List.map aA.enc y4)]) fun (y6:Int) =>
 aB (decide (0≤y6)) (R (T.v (.int .i64 17)))
 (aH [(false,Sy.bool)]
 (kJ
 [T.sl false (List.map aA.enc y4),
 T.sl false (List.map aA.enc a0.1)])
 fun (y7:Bool) =>
 aB (!y7) (R (T.v (.int .i64 17)))
 (bO
 (kO 1 (List.map aA.li.enc a0.2) &&
 (decide (0≤s3.1) &&
 decide (Int.toNat s3.1≤(List.map aA.li.enc a0.2).length)) &&
 true)
 (bB (Int×PUnit)
 (fun (X8:Int×PUnit→Prop) (s9:Int×PUnit) =>
 aB
 (decide
 (s9.1 <
 (↑(List.drop 0
 (List.take (Int.toNat s3.1)
 (List.map aA.li.enc a0.2))).length :
 Int)))
 (aP aA.li
 (List.drop 0
 (List.take (Int.toNat s3.1) (List.map aA.li.enc a0.2)))
 s9.1 fun (y10:List aK) =>
 aH [(false,Sy.bool)]
 (mV
 [T.sl false (List.map aA.enc y4),
 T.sl false (List.map aA.enc y10)])
 fun (y11:Bool) =>
 aB (!y11) (R (T.v (.int .i64 17)))
 (X8 (IntKind.i64.wrap (s9.1+1),())))
 (X2 (IntKind.i64.wrap (s3.1+1),())))
 (0,()))))))
 (R (T.v (.int .i64 0))))
 (0,()))))
theorem RH ( a0 R):bJ aV Tryz.prog FR SA 8 109 [aD true eE a0] R=GI a0 R:=by kernel_rfl
abbrev yU:Sh:=[(true,eE)]
def CR (s:fW):Option T:=some (T.v (Value.int .i64 (nA s)))
noncomputable def eR:List T→Option (T):=gS yU CR
theorem UE {a0}:eR [aD true eE a0]=CR (a0):=bH (s:=yU) rfl (a0) rfl
theorem AG8 (h:∀ a0 r,CR (a0)=some r→cR yU (a0)→GI a0 (fun y=>y=r)):aJ Tryz.prog 109 eR :=
 aX (E:=FR) (Hs:=SA) XK a6 a7 (aM rfl) 8 ⟨_,_,Tryz.func109,rfl⟩ rfl fun x r h1 h2=>by
  let a0:=x
  rw[show Sh.cA yU (a0)=[aD true eE a0] from rfl,RH]
  exact h a0 r h1 h2
theorem LL:aJ Tryz.prog 109 eR:=AG8 fun s r h hb=>by
 cases h
 have is:∀ {n:Int},nA s=n→T.v (.int .i64 n)=T.v (.int .i64 (nA s)):=fun h=>by rw[h]
 unfold GI
 refine bZ (fun h=>is (by rw[List.length_map] at h;unfold nA;rw[if_pos (by omega)])) fun h1=>?_
 rw[List.length_map] at h1
 refine aG (s:=[(false,.int .i64)]) (l6 s.1) ?_
 refine mG (fun h=>is (by unfold nA;rw[if_neg (by omega),if_pos h])) fun h2=>?_
 refine aG (s:=[(false,.int .i64)]) (r4 s.1) ?_
 refine bZ (fun h=>is (by unfold nA;rw[if_neg (by omega),if_neg (by simpa using h2),if_pos h])) fun h3=>?_
 have w:nA s=bK (sB s) (List.range s.2.length):=by unfold nA;rw[if_neg (by omega),if_neg (by simpa using h2),if_neg h3]
 obtain ⟨ho3,ho32,hoN,_⟩:=eV h2
 refine nU (r:=aA.li) (sB s) (by show s.2.length≤1000000;omega) (fun X k hk hprev hok hbad=>?_) fun h0=>is (w.trans h0)
 have hk:k<s.2.length:=hk
 have hg:s.2.getD k []=s.2[k]:=by rw[List.getD_eq_getElem?_getD,List.getElem?_eq_getElem hk];rfl
 have bad:∀ {n:Int},n≠0→sB s k=n→T.v (.int .i64 n)=T.v (.int .i64 (nA s)):=fun hn h=>is (w.trans ((hbad (by rw[h];exact hn)).trans h))
 have hE:sB s k=if ¬ eU s.2[k]=0 then eU s.2[k] else if 0≤iL s.2[k]∨hU s.2[k] s.1=false then 17 else if ((List.range k).all fun j=>kE s.2[k] (s.2.getD j []))=false then 17 else 0:=by unfold sB;rw[hg]
 show aH [(false,Sy.int IntKind.i64)] (dD [T.sl false (List.map aA.enc s.2[k])]) _
 refine aG (s:=[(false,.int .i64)]) (l6 s.2[k]) ?_
 refine mG (fun h=>bad h (by rw[hE,if_pos h])) fun p1=>?_
 refine aG (s:=[(false,.int .i64)]) (r4 s.2[k]) ?_
 refine bZ (fun h=>bad (by decide) (by rw[hE,if_neg (by simpa using p1),if_pos (.inl h)])) fun p2=>?_
 obtain ⟨hp3,hp32,hpN,_⟩:=eV p1
 refine aG (s:=[(false,.bool)]) (OY (by omega) hpN (by omega) hoN) ?_
 refine lC (fun h=>bad (by decide) (by rw[hE,if_neg (by simpa using p1),if_pos (.inr h)])) fun p3=>?_
 have hE2:sB s k=if ((List.range k).all fun j=>kE s.2[k] (s.2.getD j []))=false then 17 else 0:=by
  rw[hE,if_neg (by simpa using p1),if_neg]
  rintro (h|h)
  ·exact p2 h
  ·rw[show hU s.2[k] s.1=true from p3] at h;cases h
 refine ⟨by rw[AHF,List.length_map];simp;omega,?_⟩
 have htk:List.drop 0 (List.take (Int.toNat (k:Int)) (List.map aA.li.enc s.2))=List.map aA.li.enc (s.2.take k):=by rw[List.drop_zero,Int.toNat_natCast,List.map_take]
 dsimp only
 rw[htk]
 have ht:(s.2.take k).length=k:=by rw[List.length_take];omega
 refine aY k (fun j s'=>s'=((j:Int),())∧∀ i,i<j→kE s.2[k] (s.2.getD i [])=true) ⟨rfl,fun i h=>by omega⟩ ?_
 rintro Y j s' hj ⟨rfl,hJ⟩ hY
 dsimp only
 refine bZ (fun hlt=>?_) fun hge=>?_
 ·rw[List.length_map,ht] at hlt
  have hlt:j<k:=by omega
  rw[aT (r:=aA.li) (show j<(s.2.take k).length by omega)]
  have hgj:s.2.getD j []=s.2[j]:=by rw[List.getD_eq_getElem?_getD,List.getElem?_eq_getElem (by omega)];rfl
  have hgt:(s.2.take k)[j]'(by omega)=s.2[j]:=by simp
  rw[hgt]
  have hj0:eU s.2[j]=0:=by
   have h0:=hprev j hlt
   unfold sB at h0
   rw[hgj] at h0
   refine Classical.byContradiction fun hc=>?_
   rw[if_pos hc] at h0
   exact hc h0
  obtain ⟨hq3,hq32,hqN,_⟩:=eV hj0
  refine aG (s:=[(false,.bool)]) (UB (by omega) (by omega) (by omega) hpN (by omega) hqN) ?_
  refine lC (fun h=>bad (by decide) ?_) fun h=>hY _ hlt ⟨by rw[show IntKind.i64.wrap ((j:Int)+1)=((j+1:Nat):Int) from aO _ (by omega) (by omega)],fun i hi=>by
   rcases Nat.lt_or_ge i j with h3|h3
   ·exact hJ i h3
   ·have:i=j:=by omega
    subst this;rw[hgj];exact h⟩
  rw[hE2,if_pos (N7 hlt (by rw[hgj];exact h))]
 ·rw[List.length_map,ht] at hge
  have:j=k:=by omega
  subst this
  rw[show IntKind.i64.wrap ((j:Int)+1)=((j+1:Nat):Int) from aO _ (by omega) (by omega)]
  refine hok ?_
  rw[hE2,if_neg]
  rw[gV.2 hJ];simp
theorem DD (s:fW):eR [aD true eE s]=some (Sh.enc [(false,.int .i64)] (nA s)):=UE ..
noncomputable def FT:Env:=Env.of []
def SB:FuncId→Hint:=fun _=>aU
theorem XL:aF Tryz.prog FT:=aF.nil _
def GJ (a0:fW) (R:T→Prop):Prop :=
 aB (List.map aA.li.enc a0.2).isEmpty
 (R (T.sl false [[T.sl false (List.map aA.enc a0.1)]]))
 (bO
 (gC 1 (List.map aA.li.enc a0.2) &&
 decide ((1+(List.map aA.li.enc a0.2).length)*24≤140737488355328) &&
 decide (1+(List.map aA.li.enc a0.2).length≤140737488355328))
 (R
 (T.sl false
 ([T.sl false (List.map aA.enc a0.1)] ::
 (List.map aA.li.enc a0.2)))))
theorem RI ( a0 R):bJ aV Tryz.prog FT SB 8 116 [aD true eE a0] R=GJ a0 R:=by kernel_rfl
abbrev yV:Sh:=[(true,eE)]
abbrev AM5:Sh:=[(false,aA.li.li)]
def pS (s:fW):Option T:=match decide (s.2.length≤1000) with
 | true=>some (Sh.enc AM5 (s.1::s.2))
 | false=>none
noncomputable def o8:List T→Option (T):=gS yV pS
theorem UF {a0}:o8 [aD true eE a0]=pS (a0):=bH (s:=yV) rfl (a0) rfl
theorem AG9 (h:∀ a0 r,pS (a0)=some r→cR yV (a0)→GJ a0 (fun y=>y=r)):aJ Tryz.prog 116 o8 :=
 aX (E:=FT) (Hs:=SB) XL a6 a7 (aM rfl) 8 ⟨_,_,Tryz.func116,rfl⟩ rfl fun x r h1 h2=>by
  let a0:=x
  rw[show Sh.cA yV (a0)=[aD true eE a0] from rfl,RI]
  exact h a0 r h1 h2
theorem AFR:aJ Tryz.prog 116 o8:=AG9 fun s r h hb=>by
 unfold pS at h
 split at h
 ·rename_i hc
  have hc:s.2.length≤1000:=of_decide_eq_true hc
  cases h
  obtain ⟨o,hs⟩:=s
  unfold GJ
  cases hs with
  | nil=>exact (rfl:T.sl false [[T.sl false (List.map aA.enc o)]]=_)
  | cons a l =>
   show bO _ _
   refine ⟨?_,rfl⟩
   simp only[Bool.and_eq_true,decide_eq_true_eq,List.length_map]
   have hc:(a::l).length≤1000:=hc
   exact ⟨⟨SL (.li aA) (a::l),by omega⟩,by omega⟩
 ·cases h
def ANU (l:List (List Pt)):Int:=cL l.length fun i=>iL (l.getD i [])
def uP (s:fW):Int:=if nA s=0 then ANU (s.1::s.2) else 0
theorem SP (p:List Pt):-68719476736≤iL p∧iL p≤68719476736:=by
 unfold iL
 by_cases h:eU p=0
 ·rw[if_pos h]
  obtain ⟨_,h2,h3,_⟩:=eV h
  have:=EC h3 p.length
  unfold eQ
  omega
 ·rw[if_neg h];omega
theorem QH (l:List (List Pt)):∀ n:Nat,-(68719476736*(n:Int))≤cL n (fun i=>iL (l.getD i []))∧cL n (fun i=>iL (l.getD i []))≤68719476736*(n:Int)
 | 0=>by simp[cL]
 | n+1=>by
  have ih:=QH l n
  have hb:=SP (l.getD n [])
  unfold cL
  constructor<;>push_cast<;>omega
noncomputable def FQ:Env:=Env.of [(109,.pure eR),(116,.pure o8),(117,.pure gI)]
def R9:FuncId→Hint:=fun f=>match f == 63 with|true=>⟨fun r=>match r == 5 with|true=>.inv [.val 3 false (.int .i64),.val 12 false (.int .i64)]|false=>.none,fun _ _=>none,fun _=>none⟩|false=>aU
theorem XJ:aF Tryz.prog FQ:=aF.cons (x:=.pure eR) LL (aF.cons (x:=.pure o8) AFR (aF.cons (x:=.pure gI) LI (aF.nil _)))
def GH (a0:fW) (R:T→Prop):Prop :=
 aH [(false,Sy.int IntKind.i64)] (eR [aD true eE a0]) fun (y0:Int) =>
 aB (!decide (y0=0)) (R (T.v (.int .i64 0)))
 (aH [(false,aA.li.li)] (o8 [aD true eE a0])
 fun (y1:List (List aK)) =>
 bB (Int×Int×PUnit)
 (fun (X2:Int×Int×PUnit→Prop) (s3:Int×Int×PUnit) =>
 aB (decide (s3.2.1<(↑(List.map aA.li.enc y1).length:Int)))
 (aP aA.li (List.map aA.li.enc y1) s3.2.1 fun (y4:List aK) =>
 aH [(false,Sy.int IntKind.i64)]
 (gI [T.sl false (List.map aA.enc y4)]) fun (y5:Int) =>
 X2 (IntKind.i64.wrap (s3.1+y5),IntKind.i64.wrap (s3.2.1+1),()))
 (R (T.v (.int .i64 s3.1))))
 (0,0,()))
theorem RG ( a0 R):bJ aV Tryz.prog FQ R9 8 63 [aD true eE a0] R=GH a0 R:=by kernel_rfl
abbrev yT:Sh:=[(true,eE)]
def CQ (s:fW):Option T:=some (T.v (Value.int .i64 (uP s)))
noncomputable def mW:List T→Option (T):=gS yT CQ
theorem UC {a0}:mW [aD true eE a0]=CQ (a0):=bH (s:=yT) rfl (a0) rfl
theorem AG7 (h:∀ a0 r,CQ (a0)=some r→cR yT (a0)→GH a0 (fun y=>y=r)):aJ Tryz.prog 63 mW :=
 aX (E:=FQ) (Hs:=R9) XJ a6 a7 (aM rfl) 8 ⟨_,_,Tryz.func63,rfl⟩ rfl fun x r h1 h2=>by
  let a0:=x
  rw[show Sh.cA yT (a0)=[aD true eE a0] from rfl,RG]
  exact h a0 r h1 h2
theorem AFQ:aJ Tryz.prog 63 mW:=AG7 fun s r h hb=>by
 cases h
 have is:∀ {n:Int},uP s=n→T.v (.int .i64 n)=T.v (.int .i64 (uP s)):=fun h=>by rw[h]
 unfold GH
 refine aG (s:=[(false,.int .i64)]) (DD s) ?_
 refine mG (fun h=>is (by unfold uP;rw[if_neg h])) fun h=>?_
 have h8:s.2.length≤8:=by
  refine Classical.byContradiction fun hc=>?_
  unfold nA at h
  rw[if_pos (by omega)] at h;cases h
 refine aG (s:=[(false,.li (.li aA))]) (y:=(s.1::s.2:List (List aK))) ((UF ..).trans (by unfold pS;rw[decide_eq_true (by omega)])) ?_
 have w:uP s=ANU (s.1::s.2):=by unfold uP;rw[if_pos h]
 have hlen:(s.1::s.2).length≤9:=by simp;omega
 generalize s.1::s.2=l at w hlen
 refine aY l.length (fun k t=>t=(cL k (fun i=>iL (l.getD i [])),(k:Int),())) rfl ?_
 rintro X k t hk rfl hX
 dsimp only
 refine bZ (fun hlt=>?_) fun hge=>is (by rw[List.length_map] at hge;rw[w,show k=l.length by omega];rfl)
 rw[List.length_map] at hlt
 have hlt:k<l.length:=by omega
 rw[aT (r:=aA.li) hlt]
 have hg:l.getD k []=l[k]:=by rw[List.getD_eq_getElem?_getD,List.getElem?_eq_getElem hlt];rfl
 refine aG (s:=[(false,.int .i64)]) (r4 l[k]) ?_
 refine hX _ hlt ?_
 have b1:=QH l k
 have b2:=SP l[k]
 rw[show IntKind.i64.wrap ((k:Int)+1)=((k+1:Nat):Int) from aO _ (by omega) (by omega),aO _ (by omega) (by omega),cL,hg]
theorem UD (s:fW):mW [aD true eE s]=some (Sh.enc [(false,.int .i64)] (uP s)):=UC ..
theorem AQY (s:fW):-618475290624≤uP s∧uP s≤618475290624:=by
 unfold uP
 by_cases h:nA s=0
 ·rw[if_pos h]
  have h8:s.2.length≤8:=by
   refine Classical.byContradiction fun hc=>?_
   unfold nA at h
   rw[if_pos (by omega)] at h;cases h
  have:=QH (s.1::s.2) (s.1::s.2).length
  unfold ANU
  simp only[List.length_cons] at this ⊢
  omega
 ·rw[if_neg h];omega
end Go.Pv
namespace Go.Pv
open Go Go.Proofs
noncomputable def zR:Env:=Env.of []
def K1:FuncId→Hint:=fun f=>match f == 150 with|true=>⟨fun r=>match r == 2 with|true=>.QL 4|false=>.none,fun _ _=>none,fun _=>none⟩|false=>aU
theorem QY:aF Tryz.prog zR:=aF.nil _
def z6 (a0:AEL) (a1:Int) (R:T→Prop):Prop :=
 aB (decide (a0.1<IntKind.i64.wrap (0-a1))) (R (T.v (.bool false)))
 (aB (decide (a1<a0.1)) (R (T.v (.bool false)))
 (aB (decide (a0.2.1<IntKind.i64.wrap (0-a1))) (R (T.v (.bool false)))
 (aB (decide (a1<a0.2.1)) (R (T.v (.bool false)))
 (aB (decide (a0.2.2<IntKind.i64.wrap (0-a1))) (R (T.v (.bool false)))
 (aB (decide (a1<a0.2.2)) (R (T.v (.bool false)))
 (R (T.v (.bool true))))))))
theorem N3 ( a0 a1 R):bJ aV Tryz.prog zR K1 8 150 [aD true ABN a0,aD false (Sy.int IntKind.i64) a1] R=z6 a0 a1 R:=by kernel_rfl
abbrev uC:Sh:=[(true,ABN),(false,(Sy.int IntKind.i64))]
def rJ (v:AEL):Bool:=decide (-524288≤v.1)&&decide (v.1≤524288)&&(decide (-524288≤v.2.1)&&decide (v.2.1≤524288))&&(decide (-524288≤v.2.2)&&decide (v.2.2≤524288))
def qX (x:AEL×Int):Option T:=match decide (x.2=524288) with
 | true=>some (T.v (.bool (rJ x.1)))
 | false=>none
noncomputable def mF:List T→Option (T):=gS uC qX
theorem O2 {a0 a1}:mF [aD true ABN a0,T.v (.int .i64 a1)]=qX (a0,a1):=bH (s:=uC) rfl (a0,a1) rfl
theorem AAQ (h:∀ a0 a1 r,qX (a0,a1)=some r→cR uC (a0,a1)→z6 a0 a1 (fun y=>y=r)):aJ Tryz.prog 150 mF :=
 aX (E:=zR) (Hs:=K1) QY a6 a7 (aM rfl) 8 ⟨_,_,Tryz.func150,rfl⟩ rfl fun x r h1 h2=>by
  obtain ⟨a0,a1⟩:=x
  rw[show Sh.cA uC (a0,a1)=[aD true ABN a0,aD false (Sy.int IntKind.i64) a1] from rfl,N3]
  exact h a0 a1 r h1 h2
theorem ZP:aJ Tryz.prog 150 mF:=AAQ fun v n r h hb=>by
 unfold qX at h
 split at h
 ·rename_i hn
  have hn:n=524288:=of_decide_eq_true hn
  subst hn
  cases h
  unfold z6
  rw[show IntKind.i64.wrap (0-524288) = -524288 from rfl]
  have no:∀ {P:Prop},(¬ (-524288≤v.1∧v.1≤524288∧-524288≤v.2.1∧v.2.1≤524288∧-524288≤v.2.2∧v.2.2≤524288))→T.v (.bool false)=T.v (.bool (rJ v)):=fun h=>fX (Eq.symm (by
   rw[Bool.eq_false_iff];intro h2;simp only[rJ,Bool.and_eq_true,decide_eq_true_eq] at h2;omega))
  refine bZ (fun h=>no (P:=True) (by omega)) fun h1=>bZ (fun h=>no (P:=True) (by omega)) fun h2=>bZ (fun h=>no (P:=True) (by omega)) fun h3=>bZ (fun h=>no (P:=True) (by omega)) fun h4=>bZ (fun h=>no (P:=True) (by omega)) fun h5=>bZ (fun h=>no (P:=True) (by omega)) fun h6=>fX ?_
  simp only[rJ]
  rw[decide_eq_true (by omega),decide_eq_true (by omega),decide_eq_true (by omega),decide_eq_true (by omega),decide_eq_true (by omega),decide_eq_true (by omega)];rfl
 ·cases h
def AAH (t:Int):Int:=if t<0∨24≤t then 0 else t
noncomputable def zQ:Env:=Env.of []
def K0:FuncId→Hint:=fun _=>aU
theorem QX:aF Tryz.prog zQ:=aF.nil _
def zZ (a0:Int) (R:T→Prop):Prop :=
 aB (decide (a0<0)) (R (T.v (.int .i64 0)))
 (aB (decide (24≤a0)) (R (T.v (.int .i64 0)))
 (R (T.v (.int .i64 a0))))
theorem N2 ( a0 R):bJ aV Tryz.prog zQ K0 8 151 [aD false (Sy.int IntKind.i64) a0] R=zZ a0 R:=by kernel_rfl
abbrev uB:Sh:=[(false,(Sy.int IntKind.i64))]
def wS (t:Int):Option T:=some (T.v (Value.int .i64 (AAH t)))
noncomputable def mE:List T→Option (T):=gS uB wS
theorem O1 {a0}:mE [T.v (.int .i64 a0)]=wS (a0):=bH (s:=uB) rfl (a0) rfl
theorem AAP (h:∀ a0 r,wS (a0)=some r→cR uB (a0)→zZ a0 (fun y=>y=r)):aJ Tryz.prog 151 mE :=
 aX (E:=zQ) (Hs:=K0) QX a6 a7 (aM rfl) 8 ⟨_,_,Tryz.func151,rfl⟩ rfl fun x r h1 h2=>by
  let a0:=x
  rw[show Sh.cA uB (a0)=[aD false (Sy.int IntKind.i64) a0] from rfl,N2]
  exact h a0 r h1 h2
theorem ZO:aJ Tryz.prog 151 mE:=AAP fun t r h hb=>by
 cases h
 unfold zZ
 exact bZ (fun h=>DW (by unfold AAH;rw[if_pos (.inl h)])) fun h1=>bZ (fun h=>DW (by unfold AAH;rw[if_pos (.inr h)])) fun h2=>DW (by unfold AAH;rw[if_neg (by omega)])
def oN (p:vK):Bool:=rJ p.1&&decide (p.2=AAH p.2)
noncomputable def FY:Env:=Env.of [(150,.pure mF),(151,.pure mE)]
def SG:FuncId→Hint:=fun _=>aU
theorem XQ:aF Tryz.prog FY:=aF.cons (x:=.pure mF) ZP (aF.cons (x:=.pure mE) ZO (aF.nil _))
def GO (a0:vK) (R:T→Prop):Prop :=
 aH [(false,Sy.bool)]
 (mF [aD true ABN a0.1,T.v (.int .i64 524288)])
 fun (y0:Bool) =>
 aB y0
 (aH [(false,Sy.int IntKind.i64)]
 (mE [T.v (.int .i64 a0.2)]) fun (y1:Int) =>
 R (T.v (.bool (decide (a0.2=y1)))))
 (R (T.v (.bool false)))
theorem RO ( a0 R):bJ aV Tryz.prog FY SG 8 111 [aD true dF a0] R=GO a0 R:=by kernel_rfl
abbrev yY:Sh:=[(true,dF)]
def CW (p:vK):Option T:=some (T.v (.bool (oN p)))
noncomputable def bU:List T→Option (T):=gS yY CW
theorem DG {a0}:bU [aD true dF a0]=CW (a0):=bH (s:=yY) rfl (a0) rfl
theorem AHE (h:∀ a0 r,CW (a0)=some r→cR yY (a0)→GO a0 (fun y=>y=r)):aJ Tryz.prog 111 bU :=
 aX (E:=FY) (Hs:=SG) XQ a6 a7 (aM rfl) 8 ⟨_,_,Tryz.func111,rfl⟩ rfl fun x r h1 h2=>by
  let a0:=x
  rw[show Sh.cA yY (a0)=[aD true dF a0] from rfl,RO]
  exact h a0 r h1 h2
theorem AFV:aJ Tryz.prog 111 bU:=AHE fun p r h hb=>by
 cases h
 unfold GO
 refine aG (s:=[(false,.bool)]) (y:=rJ p.1) (O2 ..) ?_
 refine J5 (fun h=>?_) fun h=>fX (by unfold oN;rw[h];rfl)
 refine aG (s:=[(false,.int .i64)]) (y:=AAH p.2) (O1 ..) ?_
 exact fX (by unfold oN;rw[h];rfl)
def A0 (l:List Int) (i:Nat):Int:=if ¬ (1≤l.getD i 0∧l.getD i 0≤120) then 9 else if 0<i∧l.getD i 0≤l.getD (i-1) 0 then 11 else 0
def fY (g:dI):Int:=if isName g.1=false then 6 else if ¬ (1000≤g.2.1∧g.2.1≤20000∧100≤g.2.2.1∧g.2.2.1≤1500) then 9 else if g.2.2.2.length=0 then 3 else if 16<g.2.2.2.length then 4 else bK (A0 g.2.2.2) (List.range g.2.2.2.length)
def D8 (s:bQ):Int:=if isName s.1=false then 6 else if ¬ (1≤s.2.1∧s.2.1≤1000000∧1≤s.2.2.1∧s.2.2.1≤2000∧100≤s.2.2.2∧s.2.2.2≤32768) then 9 else 0
theorem DI (s:ByteArray) (K:Bool→Prop):aH [(false,Sy.bool)] (dJ [T.v (.string s)]) K=K (isName s):=by
 rw[show dJ [T.v (.string s)]=uG s from rY]
 exact KQ _ K
noncomputable def FI:Env:=Env.of [(45,.pure dJ)]
def RZ:FuncId→Hint:=fun f=>match f == 87 with|true=>⟨fun r=>match r == 10 with|true=>.inv [.val 34 false (.int .i64)]|false=>.none,fun _ _=>none,fun _=>none⟩|false=>aU
theorem XB:aF Tryz.prog FI:=aF.cons (x:=.pure dJ) tI (aF.nil _)
def F8 (a0:dI) (R:T→Prop):Prop :=
 aH [(false,Sy.bool)] (dJ [T.v (.string a0.1)]) fun (y0:Bool) =>
 aB (!y0) (R (T.v (.int .i64 6)))
 (aB (decide (1000≤a0.2.1))
 (aB (!decide (a0.2.1≤20000)) (R (T.v (.int .i64 9)))
 (aB (decide (100≤a0.2.2.1))
 (aB (!decide (a0.2.2.1≤1500)) (R (T.v (.int .i64 9)))
 (aB (decide ((↑(List.map (Sy.int IntKind.i64).enc a0.2.2.2).length:Int)=0))
 (R (T.v (.int .i64 3)))
 (aB (decide (16<(↑(List.map (Sy.int IntKind.i64).enc a0.2.2.2).length:Int)))
 (R (T.v (.int .i64 4)))
 (bB (Int×PUnit)
 (fun (X1:Int×PUnit→Prop) (s2:Int×PUnit) =>
 aB
 (decide (s2.1<(↑(List.map (Sy.int IntKind.i64).enc a0.2.2.2).length:Int)))
 (aP (Sy.int IntKind.i64)
 (List.map (Sy.int IntKind.i64).enc a0.2.2.2) s2.1 fun (y3:Int) =>
 aB (decide (1≤y3))
 (aB (!decide (y3≤120)) (R (T.v (.int .i64 9)))
 (aB (decide (0<s2.1))
 (aP (Sy.int IntKind.i64)
 (List.map (Sy.int IntKind.i64).enc a0.2.2.2)
 (IntKind.i64.wrap (s2.1-1)) fun (y4:Int) =>
 aB (decide (y3≤y4)) (R (T.v (.int .i64 11)))
 (X1 (IntKind.i64.wrap (s2.1+1),())))
 (X1 (IntKind.i64.wrap (s2.1+1),()))))
 (R (T.v (.int .i64 9))))
 (R (T.v (.int .i64 0))))
 (0,())))))
 (R (T.v (.int .i64 9)))))
 (R (T.v (.int .i64 9))))
theorem Q8 ( a0 R):bJ aV Tryz.prog FI RZ 8 87 [aD true bR a0] R=F8 a0 R:=by kernel_rfl
abbrev yL:Sh:=[(true,bR)]
def CI (g:dI):Option T:=some (T.v (Value.int .i64 (fY g)))
noncomputable def o5:List T→Option (T):=gS yL CI
theorem T3 {a0}:o5 [aD true bR a0]=CI (a0):=bH (s:=yL) rfl (a0) rfl
theorem AGZ (h:∀ a0 r,CI (a0)=some r→cR yL (a0)→F8 a0 (fun y=>y=r)):aJ Tryz.prog 87 o5 :=
 aX (E:=FI) (Hs:=RZ) XB a6 a7 (aM rfl) 8 ⟨_,_,Tryz.func87,rfl⟩ rfl fun x r h1 h2=>by
  let a0:=x
  rw[show Sh.cA yL (a0)=[aD true bR a0] from rfl,Q8]
  exact h a0 r h1 h2
theorem kV {α:Type} {l:List α} {i:Nat} {d:α} (h:i<l.length):l.getD i d=l[i]:=by rw[List.getD_eq_getElem?_getD,List.getElem?_eq_getElem h];rfl
theorem PH {r:Sy} {l:List r.den} {k:Nat} (hk:k<l.length) (h0:0<k) (hl:l.length≤1000000) (K:r.den→Prop):aP r (List.map r.enc l) (IntKind.i64.wrap ((k:Int)-1)) K=K (l[k-1]'(by omega)):=by
 rw[show IntKind.i64.wrap ((k:Int)-1)=((k-1:Nat):Int) by rw[aO _ (by omega) (by omega)];omega]
 exact aT (by omega) K
theorem IT {k:Nat} (h:k<1000000):IntKind.i64.wrap ((k:Int)+1)=((k+1:Nat):Int):=aO _ (by omega) (by omega)
theorem AFL:aJ Tryz.prog 87 o5:=AGZ fun g r h hb=>by
 cases h
 have is:∀ {n:Int},fY g=n→T.v (.int .i64 n)=T.v (.int .i64 (fY g)):=fun h=>by rw[h]
 unfold F8
 rw[DI]
 refine lC (fun h=>is (by unfold fY;rw[if_pos h])) fun hn=>?_
 have hn':¬ isName g.1=false:=by rw[hn];simp
 have r9:¬ (1000≤g.2.1∧g.2.1≤20000∧100≤g.2.2.1∧g.2.2.1≤1500)→T.v (.int .i64 9)=T.v (.int .i64 (fY g)):=fun h=>is (by unfold fY;rw[if_neg hn',if_pos h])
 refine bZ (fun h1=>mG (fun h=>r9 (by omega)) fun h2=>bZ (fun h3=>mG (fun h=>r9 (by omega)) fun h4=>?_) fun h=>r9 (by omega)) fun h=>r9 (by omega)
 have hr:¬ ¬ (1000≤g.2.1∧g.2.1≤20000∧100≤g.2.2.1∧g.2.2.1≤1500):=by omega
 refine bZ (fun h=>is (by rw[List.length_map] at h;unfold fY;rw[if_neg hn',if_neg hr,if_pos (by omega)])) fun h5=>?_
 refine bZ (fun h=>is (by rw[List.length_map] at h h5;unfold fY;rw[if_neg hn',if_neg hr,if_neg (by omega),if_pos (by omega)])) fun h6=>?_
 rw[List.length_map] at h5 h6
 have w:fY g=bK (A0 g.2.2.2) (List.range g.2.2.2.length):=by unfold fY;rw[if_neg hn',if_neg hr,if_neg (by omega),if_neg (by omega)]
 refine nU (r:=.int .i64) (A0 g.2.2.2) (by omega) (fun X k hk hprev hok hbad=>?_) fun h0=>is (w.trans h0)
 have hk:k<g.2.2.2.length:=hk
 have bad:∀ {n:Int},n≠0→A0 g.2.2.2 k=n→T.v (.int .i64 n)=T.v (.int .i64 (fY g)):=fun hn h=>is (w.trans ((hbad (by rw[h];exact hn)).trans h))
 have hE:A0 g.2.2.2 k=if ¬ (1≤g.2.2.2[k]∧g.2.2.2[k]≤120) then 9 else if 0<k∧g.2.2.2[k]≤g.2.2.2.getD (k-1) 0 then 11 else 0:=by unfold A0;rw[kV hk]
 dsimp only
 rw[IT (by omega)]
 refine bZ (fun p1=>mG (fun h=>bad (by decide) (by rw[hE,if_pos (by omega)])) fun p2=>?_) fun h=>bad (by decide) (by rw[hE,if_pos (by omega)])
 refine bZ (fun p3=>?_) fun p3=>hok (by rw[hE,if_neg (by omega),if_neg (by omega)])
 have k0:0<k:=by omega
 rw[PH (r:=.int .i64) hk k0 (by omega)]
 have hg1:g.2.2.2.getD (k-1) 0=g.2.2.2[k-1]'(by omega):=kV (by omega)
 exact bZ (fun h=>bad (by decide) (by rw[hE,if_neg (by omega),hg1,if_pos ⟨k0,h⟩])) fun h=>hok (by rw[hE,if_neg (by omega),hg1,if_neg (fun hc=>h hc.2)])
noncomputable def vE:Env:=Env.of [(45,.pure dJ)]
def GS:FuncId→Hint:=fun _=>aU
theorem NI:aF Tryz.prog vE:=aF.cons (x:=.pure dJ) tI (aF.nil _)
def vI (a0:bQ) (R:T→Prop):Prop :=
 aH [(false,Sy.bool)] (dJ [T.v (.string a0.1)]) fun (y0:Bool) =>
 aB (!y0) (R (T.v (.int .i64 6)))
 (aB (decide (1≤a0.2.1))
 (aB (!decide (a0.2.1≤1000000)) (R (T.v (.int .i64 9)))
 (aB (decide (1≤a0.2.2.1))
 (aB (!decide (a0.2.2.1≤2000)) (R (T.v (.int .i64 9)))
 (aB (decide (100≤a0.2.2.2))
 (aB (!decide (a0.2.2.2≤32768)) (R (T.v (.int .i64 9)))
 (R (T.v (.int .i64 0))))
 (R (T.v (.int .i64 9)))))
 (R (T.v (.int .i64 9)))))
 (R (T.v (.int .i64 9))))
theorem J8 ( a0 R):bJ aV Tryz.prog vE GS 8 88 [aD true aR a0] R=vI a0 R:=by kernel_rfl
abbrev qU:Sh:=[(true,aR)]
def sU (s:bQ):Option T:=some (T.v (Value.int .i64 (D8 s)))
noncomputable def kI:List T→Option (T):=gS qU sU
theorem KJ {a0}:kI [aD true aR a0]=sU (a0):=bH (s:=qU) rfl (a0) rfl
theorem VK (h:∀ a0 r,sU (a0)=some r→cR qU (a0)→vI a0 (fun y=>y=r)):aJ Tryz.prog 88 kI :=
 aX (E:=vE) (Hs:=GS) NI a6 a7 (aM rfl) 8 ⟨_,_,Tryz.func88,rfl⟩ rfl fun x r h1 h2=>by
  let a0:=x
  rw[show Sh.cA qU (a0)=[aD true aR a0] from rfl,J8]
  exact h a0 r h1 h2
theorem TI:aJ Tryz.prog 88 kI:=VK fun s r h hb=>by
 cases h
 have is:∀ {n:Int},D8 s=n→T.v (.int .i64 n)=T.v (.int .i64 (D8 s)):=fun h=>by rw[h]
 unfold vI
 rw[DI]
 refine lC (fun h=>is (by unfold D8;rw[if_pos h])) fun hn=>?_
 have hn':¬ isName s.1=false:=by rw[hn];simp
 have r9:¬ (1≤s.2.1∧s.2.1≤1000000∧1≤s.2.2.1∧s.2.2.1≤2000∧100≤s.2.2.2∧s.2.2.2≤32768)→T.v (.int .i64 9)=T.v (.int .i64 (D8 s)):=fun h=>is (by unfold D8;rw[if_neg hn',if_pos h])
 refine bZ (fun h1=>mG (fun h=>r9 (by omega)) fun h2=>bZ (fun h3=>mG (fun h=>r9 (by omega)) fun h4=>bZ (fun h5=>mG (fun h=>r9 (by omega)) fun h6=>is ?_) fun h=>r9 (by omega)) fun h=>r9 (by omega)) fun h=>r9 (by omega)
 unfold D8;rw[if_neg hn',if_neg (by omega)]
def gX:dI:=(⟨#[]⟩,0,0,[])
def L5 (a b:ByteArray):Bool:=fR a b||decide (a=b)
def r7 (m:aL) (i:Nat):Int:=if ¬ fY (m.1.getD i gX)=0 then fY (m.1.getD i gX) else if 0<i∧L5 (m.1.getD i gX).1 (m.1.getD (i-1) gX).1=true then 11 else 0
def AHT (m:aL) (i:Nat):Int:=if ¬ D8 (m.2.getD i u6)=0 then D8 (m.2.getD i u6) else if 0<i∧L5 (m.2.getD i u6).1 (m.2.getD (i-1) u6).1=true then 11 else 0
def rK (m:aL):Int:=if 16<m.1.length∨32<m.2.length then 4 else if ¬ bK (r7 m) (List.range m.1.length)=0 then bK (r7 m) (List.range m.1.length) else bK (AHT m) (List.range m.2.length)
noncomputable def FH:Env:=Env.of [(87,.pure o5),(88,.pure kI)]
def RY:FuncId→Hint:=fun f=>match f == 44 with|true=>⟨fun r=>match r == 4 with|true=>.inv [.val 22 false (.int .i64)]|false=>match r == 13 with|true=>.inv [.val 50 false (.int .i64)]|false=>.none,fun _ _=>none,fun _=>none⟩|false=>aU
theorem XA:aF Tryz.prog FH:=aF.cons (x:=.pure o5) AFL (aF.cons (x:=.pure kI) TI (aF.nil _))
def F7 (a0:aL) (R:T→Prop):Prop :=
 aB (decide (16<(↑(List.map bR.enc a0.1).length:Int)))
 (R (T.v (.int .i64 4)))
 (aB (decide (32<(↑(List.map aR.enc a0.2).length:Int)))
 (R (T.v (.int .i64 4)))
 (bB (Int×PUnit)
 (fun (X0:Int×PUnit→Prop) (s1:Int×PUnit) =>
 aB (decide (s1.1<(↑(List.map bR.enc a0.1).length:Int)))
 (aP bR (List.map bR.enc a0.1) s1.1 fun (y2:dI) =>
 aH [(false,Sy.int IntKind.i64)] (o5 [aD true bR y2])
 fun (y3:Int) =>
 aB (!decide (y3=0)) (R (T.v (.int .i64 y3)))
 (aB (decide (0<s1.1))
 (aP bR (List.map bR.enc a0.1) (IntKind.i64.wrap (s1.1-1))
 fun (y4:dI) =>
 aB (fR y2.1 y4.1||decide (y2.1=y4.1))
 (R (T.v (.int .i64 11))) (X0 (IntKind.i64.wrap (s1.1+1),())))
 (X0 (IntKind.i64.wrap (s1.1+1),()))))
 (bB (Int×PUnit)
 (fun (X5:Int×PUnit→Prop) (s6:Int×PUnit) =>
 aB (decide (s6.1<(↑(List.map aR.enc a0.2).length:Int)))
 (aP aR (List.map aR.enc a0.2) s6.1 fun (y7:bQ) =>
 aH [(false,Sy.int IntKind.i64)]
 (kI [aD true aR y7]) fun (y8:Int) =>
 aB (!decide (y8=0)) (R (T.v (.int .i64 y8)))
 (aB (decide (0<s6.1))
 (aP aR (List.map aR.enc a0.2)
 (IntKind.i64.wrap (s6.1-1)) fun (y9:bQ) =>
 aB (fR y7.1 y9.1||decide (y7.1=y9.1))
 (R (T.v (.int .i64 11)))
 (X5 (IntKind.i64.wrap (s6.1+1),())))
 (X5 (IntKind.i64.wrap (s6.1+1),()))))
 (R (T.v (.int .i64 0))))
 (0,())))
 (0,())))
theorem Q7 ( a0 R):bJ aV Tryz.prog FH RY 8 44 [aD true aI a0] R=F7 a0 R:=by kernel_rfl
abbrev yK:Sh:=[(true,aI)]
def CH (m:aL):Option T:=some (T.v (Value.int .i64 (rK m)))
noncomputable def o4:List T→Option (T):=gS yK CH
theorem T2 {a0}:o4 [aD true aI a0]=CH (a0):=bH (s:=yK) rfl (a0) rfl
theorem AGY (h:∀ a0 r,CH (a0)=some r→cR yK (a0)→F7 a0 (fun y=>y=r)):aJ Tryz.prog 44 o4 :=
 aX (E:=FH) (Hs:=RY) XA a6 a7 (aM rfl) 8 ⟨_,_,Tryz.func44,rfl⟩ rfl fun x r h1 h2=>by
  let a0:=x
  rw[show Sh.cA yK (a0)=[aD true aI a0] from rfl,Q7]
  exact h a0 r h1 h2
theorem AFK:aJ Tryz.prog 44 o4:=AGY fun m r h hb=>by
 cases h
 have is:∀ {n:Int},rK m=n→T.v (.int .i64 n)=T.v (.int .i64 (rK m)):=fun h=>by rw[h]
 unfold F7
 refine bZ (fun h=>is (by rw[List.length_map] at h;unfold rK;rw[if_pos (by omega)])) fun h1=>?_
 refine bZ (fun h=>is (by rw[List.length_map] at h;unfold rK;rw[if_pos (by omega)])) fun h2=>?_
 rw[List.length_map] at h1 h2
 refine nU (r:=bR) (r7 m) (by show m.1.length≤1000000;omega) (fun X k hk hprev hok hbad=>?_) fun h0=>?_
 ·have hk:k<m.1.length:=hk
  have bad:∀ {n:Int},n≠0→r7 m k=n→T.v (.int .i64 n)=T.v (.int .i64 (rK m)):=fun hn h=>is (by
   have hb:=(hbad (by rw[h];exact hn)).trans h
   unfold rK;rw[if_neg (by omega),if_pos (by rw[hb];exact hn),hb])
  have hE:r7 m k=if ¬ fY m.1[k]=0 then fY m.1[k] else if 0<k∧L5 m.1[k].1 (m.1.getD (k-1) gX).1=true then 11 else 0:=by unfold r7;rw[kV hk]
  dsimp only
  rw[IT (by omega)]
  refine aG (s:=[(false,.int .i64)]) (y:=fY m.1[k]) (T3 ..) ?_
  refine mG (fun h=>bad h (by rw[hE,if_pos h])) fun p1=>?_
  refine bZ (fun p3=>?_) fun p3=>hok (by rw[hE,if_neg (fun h=>h p1),if_neg (by omega)])
  have k0:0<k:=by omega
  rw[PH (r:=bR) hk k0 (by show m.1.length≤1000000;omega)]
  have hg1:m.1.getD (k-1) gX=m.1[k-1]'(by omega):=kV (by omega)
  exact J5 (fun h=>bad (by decide) (by rw[hE,if_neg (fun h=>h p1),hg1,if_pos ⟨k0,h⟩])) fun h=>hok (by rw[hE,if_neg (fun h=>h p1),hg1,if_neg (fun hc=>by rw[show L5 m.1[k].1 (m.1[k-1]'(by omega)).1=false from h] at hc;cases hc.2)])
 ·have w:rK m=bK (AHT m) (List.range m.2.length):=by unfold rK;rw[if_neg (by omega),if_neg (fun h=>h h0)]
  refine nU (r:=aR) (AHT m) (by show m.2.length≤1000000;omega) (fun X k hk hprev hok hbad=>?_) fun h0=>is (w.trans h0)
  have hk:k<m.2.length:=hk
  have bad:∀ {n:Int},n≠0→AHT m k=n→T.v (.int .i64 n)=T.v (.int .i64 (rK m)):=fun hn h=>is (w.trans ((hbad (by rw[h];exact hn)).trans h))
  have hE:AHT m k=if ¬ D8 m.2[k]=0 then D8 m.2[k] else if 0<k∧L5 m.2[k].1 (m.2.getD (k-1) u6).1=true then 11 else 0:=by unfold AHT;rw[kV hk]
  dsimp only
  rw[IT (by omega)]
  refine aG (s:=[(false,.int .i64)]) (y:=D8 m.2[k]) (KJ ..) ?_
  refine mG (fun h=>bad h (by rw[hE,if_pos h])) fun p1=>?_
  refine bZ (fun p3=>?_) fun p3=>hok (by rw[hE,if_neg (fun h=>h p1),if_neg (by omega)])
  have k0:0<k:=by omega
  rw[PH (r:=aR) hk k0 (by show m.2.length≤1000000;omega)]
  have hg1:m.2.getD (k-1) u6=m.2[k-1]'(by omega):=kV (by omega)
  exact J5 (fun h=>bad (by decide) (by rw[hE,if_neg (fun h=>h p1),hg1,if_pos ⟨k0,h⟩])) fun h=>hok (by rw[hE,if_neg (fun h=>h p1),hg1,if_neg (fun hc=>by rw[show L5 m.2[k].1 (m.2[k-1]'(by omega)).1=false from h] at hc;cases hc.2)])
def dS (m:aL) (n:ByteArray):Option dI:=m.1.find? fun g=>decide (g.1=n)
def L6 (m:aL):Bool:=decide (m.1.length≤1000)&&decide (m.2.length≤1000)&&m.1.all fun g=>decide (g.2.2.2.length≤1000)
def x8 {α:Type} (m:aL) (r:α):Option α:=match L6 m with
 | true=>some r
 | false=>none
theorem sL {α:Type} {m:aL} {t r:α} (h:x8 m t=some r):L6 m=true∧r=t:=by
 unfold x8 at h;split at h
 ·rename_i hc;cases h;exact ⟨hc,rfl⟩
 ·cases h
theorem sM {α:Type} {m:aL} (t:α) (h:L6 m=true):x8 m t=some t:=by unfold x8;rw[h]
theorem AEY:WO Tryz.prog 79 1 8:=⟨fun R=>by kernel_rfl,fun fl R=>by kernel_rfl,fun fl a rows R=>by kernel_rfl⟩
noncomputable def rX:List T→Option T:=gS [(false,.li (.int .i64))] (j7 (.int .i64) 8)
theorem TS {u0}:rX [T.sl false (List.map (Sy.enc (.int .i64)) u0)]=j7 (.int .i64) 8 u0:=bH (s:=[(false,.li (.int .i64))]) rfl u0 rfl
theorem AFG:aJ Tryz.prog 79 rX:=K9 a6 a7 ⟨_,_,Tryz.func79,rfl⟩ AEY
noncomputable def FG:Env:=Env.of [(79,.pure rX)]
def RX:FuncId→Hint:=fun f=>match f == 112 with|true=>⟨fun r=>match r == 2 with|true=>.inv [.val 8 false (.int .i64)]|false=>.none,fun _ _=>none,fun _=>none⟩|false=>aU
theorem W9:aF Tryz.prog FG:=aF.cons (x:=.pure rX) AFG (aF.nil _)
def F6 (a0:aL) (a1:ByteArray) (R:T→Prop):Prop :=
 bB (Int×PUnit)
 (fun (X0:Int×PUnit→Prop) (s1:Int×PUnit) =>
 aB (decide (s1.1<(↑(List.map bR.enc a0.1).length:Int)))
 (aP bR (List.map bR.enc a0.1) s1.1 fun (y2:dI) =>
 aB (decide (y2.1=a1))
 (aB (decide (s1.1<0))
 (R
 (T.cF
 [T.agg
 [T.v (.string { data:=#[] }),T.v (.int .i64 0),
 T.v (.int .i64 0),T.sl false []],
 T.v (.bool false)]))
 (aP bR (List.map bR.enc a0.1) s1.1 fun (y3:dI) =>
 aH [(false,(Sy.int IntKind.i64).li)]
 (rX [T.sl false (List.map (Sy.int IntKind.i64).enc y3.2.2.2)])
 fun (y4:List Int) =>
 R
 (T.cF
 [T.agg
 [T.v (.string y3.1),T.v (.int .i64 y3.2.1),
 T.v (.int .i64 y3.2.2.1),
 T.sl false (List.map (Sy.int IntKind.i64).enc y4)],
 T.v (.bool true)])))
 (X0 (IntKind.i64.wrap (s1.1+1),())))
 (R
 (T.cF
 [T.agg
 [T.v (.string { data:=#[] }),T.v (.int .i64 0),
 T.v (.int .i64 0),T.sl false []],
 T.v (.bool false)])))
 (0,())
theorem Q6 ( a0 a1 R):bJ aV Tryz.prog FG RX 8 60 [aD true aI a0,aD false Sy.str a1] R=F6 a0 a1 R:=by kernel_rfl
abbrev yJ:Sh:=[(true,aI),(false,Sy.str)]
def CG (x:aL×ByteArray):Option T:=x8 x.1 (Sh.enc [(true,bR),(false,.bool)] (found gX (dS x.1 x.2)))
noncomputable def dA:List T→Option (T):=gS yJ CG
theorem T1 {a0 a1}:dA [aD true aI a0,T.v (.string a1)]=CG (a0,a1):=bH (s:=yJ) rfl (a0,a1) rfl
theorem AGX (h:∀ a0 a1 r,CG (a0,a1)=some r→cR yJ (a0,a1)→F6 a0 a1 (fun y=>y=r)):aJ Tryz.prog 60 dA :=
 aX (E:=FG) (Hs:=RX) W9 a6 a7 (aM rfl) 8 ⟨_,_,Tryz.func60,rfl⟩ rfl fun x r h1 h2=>by
  obtain ⟨a0,a1⟩:=x
  rw[show Sh.cA yJ (a0,a1)=[aD true aI a0,aD false Sy.str a1] from rfl,Q6]
  exact h a0 a1 r h1 h2
theorem AO:aJ Tryz.prog 60 dA:=AGX fun m n r h hb=>by
 obtain ⟨hok,rfl⟩:=sL h
 clear h
 simp only[L6,Bool.and_eq_true,decide_eq_true_eq] at hok
 unfold F6
 refine aY m.1.length (fun k s=>s=((k:Int),())∧(m.1.drop k).find? (fun s=>decide (s.1=n))=dS m n) ⟨rfl,rfl⟩ ?_
 rintro X k s hk ⟨rfl,hf⟩ hX
 dsimp only
 refine bZ (fun hlt=>?_) fun hge=>?_
 ·rw[List.length_map] at hlt
  have hlt:k<m.1.length:=by omega
  rw[oZ hlt] at hf
  rw[aT (r:=bR) hlt]
  refine bZ (fun hc=>?_) fun hc=>?_
  ·rw[if_pos (decide_eq_true hc)] at hf
   refine bZ (fun h=>by omega) fun _=>?_
   rw[aT (r:=bR) hlt]
   have hg:m.1[k].2.2.2.length≤1000:=by
    have:=List.all_eq_true.1 hok.2 _ (List.getElem_mem hlt)
    exact of_decide_eq_true this
   refine aG (s:=[(false,.li (.int .i64))]) (y:=m.1[k].2.2.2) ?_ ?_
   ·rw[TS]
    unfold j7 gZ
    rw[show (decide (m.1[k].2.2.2.length*8≤140737488355328)&&decide (m.1[k].2.2.2.length≤140737488355328))=true by simp only[Bool.and_eq_true,decide_eq_true_eq];omega]
    rfl
   ·show _=Sh.enc [(true,bR),(false,.bool)] (found gX (dS m n))
    rw[←hf];rfl
  ·rw[if_neg (by simpa using hc)] at hf
   exact hX _ hlt ⟨by rw[IT (by omega)],hf⟩
 ·rw[List.length_map] at hge
  have:k=m.1.length:=by omega
  subst this
  rw[List.drop_length] at hf
  show _=Sh.enc [(true,bR),(false,.bool)] (found gX (dS m n))
  rw[←hf];rfl
def qR (m:aL) (n:ByteArray) (t:Int):Bool:=match dS m n with
 | some g=>g.2.2.2.any fun x=>decide (t=x)
 | none=>false
noncomputable def zJ:Env:=Env.of [(60,.pure dA)]
def KT:FuncId→Hint:=fun f=>match f == 135 with|true=>⟨fun r=>match r == 2 with|true=>.inv [.val 8 false (.int .i64)]|false=>.none,fun _ _=>none,fun _=>none⟩|false=>aU
theorem QQ:aF Tryz.prog zJ:=aF.cons (x:=.pure dA) AO (aF.nil _)
def zS (a0:aL) (a1:ByteArray) (a2:Int) (R:T→Prop):Prop :=
 aH [(true,bR),(false,Sy.bool)]
 (dA [aD true aI a0,T.v (.string a1)])
 fun (y0:dI×Bool) =>
 aB y0.2
 (bB (Int×PUnit)
 (fun (X1:Int×PUnit→Prop) (s2:Int×PUnit) =>
 aB (decide (s2.1<(↑(List.map (Sy.int IntKind.i64).enc y0.1.2.2.2).length:Int)))
 (aP (Sy.int IntKind.i64) (List.map (Sy.int IntKind.i64).enc y0.1.2.2.2)
 s2.1 fun (y3:Int) =>
 aB (decide (a2=y3)) (R (T.v (.bool (decide (0≤s2.1)))))
 (X1 (IntKind.i64.wrap (s2.1+1),())))
 (R (T.v (.bool false))))
 (0,()))
 (R (T.v (.bool false)))
theorem NM ( a0 a1 a2 R):bJ aV Tryz.prog zJ KT 8 146 [aD true aI a0,aD false Sy.str a1,
 aD false (Sy.int IntKind.i64) a2] R=zS a0 a1 a2 R:=by kernel_rfl
abbrev tU:Sh:=[(true,aI),(false,Sy.str),(false,(Sy.int IntKind.i64))]
def wM (x:aL×ByteArray×Int):Option T:=x8 x.1 (T.v (.bool (qR x.1 x.2.1 x.2.2)))
noncomputable def fU:List T→Option (T):=gS tU wM
theorem OR {a0 a1 a2}:fU [aD true aI a0,T.v (.string a1),T.v (.int .i64 a2)]=wM (a0,a1,a2):=bH (s:=tU) rfl (a0,a1,a2) rfl
theorem AAI (h:∀ a0 a1 a2 r,wM (a0,a1,a2)=some r→cR tU (a0,a1,a2)→zS a0 a1 a2 (fun y=>y=r)):aJ Tryz.prog 146 fU :=
 aX (E:=zJ) (Hs:=KT) QQ a6 a7 (aM rfl) 8 ⟨_,_,Tryz.func146,rfl⟩ rfl fun x r h1 h2=>by
  obtain ⟨a0,a1,a2⟩:=x
  rw[show Sh.cA tU (a0,a1,a2)=[aD true aI a0,aD false Sy.str a1,
 aD false (Sy.int IntKind.i64) a2] from rfl,NM]
  exact h a0 a1 a2 r h1 h2
theorem rZ {m:aL} (h:L6 m=true) (n:ByteArray):dA [aD true aI m,T.v (.string n)]=some (Sh.enc [(true,bR),(false,.bool)] (found gX (dS m n))):=(T1 ..).trans (sM _ h)
theorem ZK:aJ Tryz.prog 146 fU:=AAI fun m n t r h hb=>by
 obtain ⟨hok,rfl⟩:=sL h
 clear h
 unfold zS
 refine aG (s:=[(true,bR),(false,.bool)]) (rZ hok n) ?_
 cases hg:dS m n with
 | none =>
  show aB false _ _
  rw[eA]
  exact fX (by unfold qR;rw[hg])
 | some g =>
  show aB true _ _
  rw[dE]
  dsimp only[found]
  have hlen:g.2.2.2.length≤1000:=by
   simp only[L6,Bool.and_eq_true,decide_eq_true_eq] at hok
   exact of_decide_eq_true (List.all_eq_true.1 hok.2 _ (List.mem_of_find?_eq_some hg))
  have w:qR m n t=g.2.2.2.any fun x=>decide (t=x):=by unfold qR;rw[hg]
  refine aY g.2.2.2.length (fun k s=>s=((k:Int),())∧g.2.2.2.any (fun x=>decide (t=x))=(g.2.2.2.drop k).any fun x=>decide (t=x)) ⟨rfl,by rw[List.drop_zero]⟩ ?_
  rintro X k s hk ⟨rfl,hf⟩ hX
  dsimp only
  refine bZ (fun hlt=>?_) fun hge=>fX ?_
  ·rw[List.length_map] at hlt
   have hlt:k<g.2.2.2.length:=by omega
   rw[List.drop_eq_getElem_cons hlt,List.any_cons] at hf
   rw[aT (r:=.int .i64) hlt]
   refine bZ (fun hc=>fX ?_) fun hc=>hX _ hlt ⟨by rw[IT (by omega)],by rw[hf,decide_eq_false hc,Bool.false_or]⟩
   rw[w,hf,decide_eq_true hc,decide_eq_true (show 0≤(k:Int) by omega)];rfl
  ·rw[List.length_map] at hge
   have:k=g.2.2.2.length:=by omega
   subst this
   rw[w,hf,List.drop_length];rfl
end Go.Pv
