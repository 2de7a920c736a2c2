/-
  Facts on the program that every function's file asks for.
  The seam, the part, the section with an identifier.
  The part with an identifier, as the program finds it; how thick a seam is.
  Words that several files share.
  The way from the block down to a part.
  The paths of a seam's two parts, and what they share.
  slices.Sort of a list of integers, by the library's contract.
  How thick a seam is.
  The lists of seams.
  slices.Contains of strings.
  The lists of seams, as the reference makes them.
  Chapter 17: the indices of a design, walked.
  Chapter 17: rising, walked.
  strings.Split on typed data.
  Names and identifiers.
  Chapter 17: the tree's form, walked.
  Chapter 17: the tree's other methods where a design's elements are empty, and Check there.
  Plane geometry, plain.
  poly: crosses and edges.
  poly: simple contours and their areas.
  poly.Where; region: edges, within, apart, Check, Area2.
  region: Check, Area2.
  vec.Valid; material: Check, Grade, Rolled.
  R17.Has and R15.Few, as chapter 39 needs them.
-/
import Derived.Test.YtpkaicahnkpkhaaGreatDoorPzki
import Derived.Test.YtpkaicahnkpkhaaGreatDoorPzty
import Derived.Test.YtpkaicahnkpkhaaGreatDoorProg
import Derived.KernelRfl
import Derived.Test.YtpkaicahnkpkhaaGreatDoorPzkl
import Derived.Test.YtpkaicahnkpkhaaGreatDoorPzlt
import Derived.Shelf.Sort.Plain
import Derived.Shelf.Slices.In.SortNone
import Derived.Test.YtpkaicahnkpkhaaGreatDoorPzkm
import Derived.Test.YtpkaicahnkpkhaaGreatDoorPzkn
import Derived.Test.YtpkaicahnkpkhaaGreatDoorPzgs
import Derived.Test.YtpkaicahnkpkhaaGreatDoorPzsl
import Derived.Laws.RangeAny
set_option linter.unusedSimpArgs false
set_option linter.unusedVariables false
namespace Go.Pv
open Go Go.Proofs
theorem aU:Tryz.prog.follows .mixedOrders=true:=by kernel_rfl
theorem aV:eK Tryz.prog=true:=by kernel_rfl
end Go.Pv
set_option maxRecDepth 100000
namespace Go.Pv
open Go Go.Proofs
def lY (d:aQ) (id:ByteArray):Option b8:=d.2.2.2.1.find? fun s=>decide (s.1=id)
def partOf (d:aQ) (id:ByteArray):Option bC:=d.2.2.1.find? fun s=>decide (s.1=id)
def fA (d:aQ) (id:ByteArray):Option mU:=d.2.1.find? fun s=>decide (s.1=id)
def l8 (m:aM) (n:ByteArray):Option bQ:=m.2.find? fun s=>decide (s.1=n)
def tF:b8:=(⟨#[]⟩,⟨#[]⟩,⟨#[]⟩,0,0,0)
def yA:mU:=(⟨#[]⟩,0,⟨#[]⟩)
def pB:bC:=(⟨#[]⟩,0,0,⟨#[]⟩,⟨#[]⟩,0,([],[]),⟨#[]⟩,0,0,(0,0,0),(0,0,0),0)
def AK:bQ:=(⟨#[]⟩,0,0,0)
def found {α:Type} (no:α) (o:Option α):α×Bool:=match o with
 | some s=>(s,true)
 | none=>(no,false)
def lD (x:aQ×ByteArray):Option T:=some (Sh.enc [(true,cR),(false,.bool)] (found tF (lY x.1 x.2)))
def lC (x:aQ×ByteArray):Option T:=some (Sh.enc [(true,aP),(false,.bool)] (found pB (partOf x.1 x.2)))
def iE (x:aQ×ByteArray):Option T:=some (Sh.enc [(true,eZ),(false,.bool)] (found yA (fA x.1 x.2)))
def n7 (x:aM×ByteArray):Option T:=some (Sh.enc [(true,aW),(false,.bool)] (found AK (l8 x.1 x.2)))
abbrev qH:=lD
abbrev kV:=lC
abbrev kU:=iE
noncomputable def IV:Env:=Env.of []
def XK:FuncId→Hint:=fun f=>match f == 37 with|true=>⟨fun r=>match r == 2 with|true=>.inv [.val 6 false (.int .i64),.fix 1]|false=>.none,fun _ _=>none,fun _=>none⟩|false=>aS
theorem AC6:aF Tryz.prog IV:=aF.nil _
def JX (a0:aQ) (a1:ByteArray) (R:T→Prop):Prop :=
 dY
 (aY.rows false
 [[D.p (T.v (.string { data:=#[] })),D.p (T.v (.string { data:=#[] })),
 D.p (T.v (.string { data:=#[] })),D.p (T.v (.int .i64 0)),
 D.p (T.v (.int .i64 0)),D.p (T.v (.int .i64 0))]])
 (aY.rows false
 [[D.p (T.v (.string { data:=#[] })),D.p (T.v (.string { data:=#[] })),
 D.p (T.v (.string { data:=#[] })),D.p (T.v (.int .i64 0)),
 D.p (T.v (.int .i64 0)),D.p (T.v (.int .i64 0))]])
 (bE (Int×PUnit×PUnit)
 (fun (X0:Int×PUnit×PUnit→Prop) (s1:Int×PUnit×PUnit) =>
 aC (decide (s1.1<(↑(List.map cR.enc a0.2.2.2.1).length:Int)))
 (aZ cR (List.map cR.enc a0.2.2.2.1) s1.1 fun (y2:b8) =>
 aC (decide (y2.1=a1))
 (aZ cR (List.map cR.enc a0.2.2.2.1) s1.1 fun (y3:b8) =>
 R (T.bX [aB true cR y3,T.v (.bool true)]))
 (dY
 (aY.rows false
 [[D.p (T.v (.string { data:=#[] })),
 D.p (T.v (.string { data:=#[] })),
 D.p (T.v (.string { data:=#[] })),
 D.p (T.v (.int .i64 0)),
 D.p (T.v (.int .i64 0)),
 D.p (T.v (.int .i64 0))]])
 (aY.rows false
 [[D.p (T.v (.string { data:=#[] })),
 D.p (T.v (.string { data:=#[] })),
 D.p (T.v (.string { data:=#[] })),
 D.p (T.v (.int .i64 0)),
 D.p (T.v (.int .i64 0)),
 D.p (T.v (.int .i64 0))]])
 (X0 (IntKind.i64.wrap (s1.1+1),(),()))))
 (R
 (T.bX
 [T.agg
 [T.v (.string { data:=#[] }),T.v (.string { data:=#[] }),
 T.v (.string { data:=#[] }),T.v (.int .i64 0),
 T.v (.int .i64 0),T.v (.int .i64 0)],
 T.v (.bool false)])))
 (0,(),()))
theorem WI ( a0 a1 R):bD aX Tryz.prog IV XK 8 37 [aB true aL a0,aB false Sy.str a1] R=JX a0 a1 R:=by kernel_rfl
abbrev BW:Sh:=[(true,aL),(false,Sy.str)]
noncomputable def nM:List T→Option (T):=gS BW qH
theorem Z7 {a0 a1}:nM [aB true aL a0,T.v (.string a1)]=qH (a0,a1):=aT (s:=BW) rfl (a0,a1) rfl
theorem AMT (h:∀ a0 a1 r,qH (a0,a1)=some r→bU BW (a0,a1)→JX a0 a1 (fun y=>y=r)):aJ Tryz.prog 37 nM :=
 aN (E:=IV) (Hs:=XK) AC6 aU aV (aK rfl) 8 ⟨_,_,Tryz.func37,rfl⟩ rfl fun x r h1 h2=>by
  obtain ⟨a0,a1⟩:=x
  rw[show Sh.bI BW (a0,a1)=[aB true aL a0,aB false Sy.str a1] from rfl,WI]
  exact h a0 a1 r h1 h2
theorem AK4:aJ Tryz.prog 37 nM:=AMT fun d id r h hb=>by
 have hl:d.2.2.2.1.length≤2 ^ 47:=hb.1.2.2.2.1.1
 unfold JX
 rw[bY]
 refine aR d.2.2.2.1.length (fun k s=>s=((k:Int),(),())∧(d.2.2.2.1.drop k).find? (fun s=>decide (s.1=id))=lY d id) ⟨rfl,rfl⟩ ?_
 rintro X k s hk ⟨rfl,hf⟩ hX
 simp only[List.length_map,o9,bY]
 by_cases hlt:k<d.2.2.2.1.length
 ·rw[gG hlt] at hf
  simp only[hlt,decide_true,aC,a7 (r:=cR) hlt]
  cases hc:decide (d.2.2.2.1[k].1=id) with
  | true =>
   simp only[hc,if_true] at hf
   simp only[qH,lD,←hf] at h
   cases h;rfl
  | false =>
   simp only[hc] at hf
   refine hX _ hlt ⟨?_,hf⟩
   simp only[Prod.mk.injEq,and_true]
   exact aO _ (by omega) (by omega)
 ·have:k=d.2.2.2.1.length:=by omega
  subst this
  simp only[List.drop_length,List.find?_nil] at hf
  simp only[qH,lD,←hf] at h
  simp only[hlt,decide_false,aC]
  cases h;rfl
noncomputable def AB6:Env:=Env.of []
def AOK:FuncId→Hint:=fun f=>match f == 30 with|true=>⟨fun r=>match r == 2 with|true=>.inv [.val 11 false (.int .i64),.fix 1]|false=>.none,fun _ _=>none,fun _=>none⟩|false=>aS
theorem AN0:aF Tryz.prog AB6:=aF.nil _
def ADX (a0:aQ) (a1:ByteArray) (R:T→Prop):Prop :=
 dY
 (aY.rows false
 [[D.p (T.v (.string { data:=#[] })),D.p (T.v (.string { data:=#[] })),
 D.p (T.v (.string { data:=#[] })),D.p (T.v (.int .i64 0)),
 D.p (T.v (.int .i64 0)),D.p (T.v (.int .i64 0))]])
 (aY.rows false
 [[D.p (T.v (.string { data:=#[] })),D.p (T.v (.string { data:=#[] })),
 D.p (T.v (.string { data:=#[] })),D.p (T.v (.int .i64 0)),
 D.p (T.v (.int .i64 0)),D.p (T.v (.int .i64 0))]])
 (bE (Int×PUnit×PUnit)
 (fun (X0:Int×PUnit×PUnit→Prop) (s1:Int×PUnit×PUnit) =>
 aC (decide (s1.1<(↑(List.map cR.enc a0.2.2.2.1).length:Int)))
 (aZ cR (List.map cR.enc a0.2.2.2.1) s1.1 fun (y2:b8) =>
 aC (decide (y2.1=a1))
 (R (T.bX [aB true cR y2,T.v (.bool true)]))
 (dY
 (aY.rows false
 [[D.p (T.v (.string { data:=#[] })),
 D.p (T.v (.string { data:=#[] })),
 D.p (T.v (.string { data:=#[] })),
 D.p (T.v (.int .i64 0)),
 D.p (T.v (.int .i64 0)),
 D.p (T.v (.int .i64 0))]])
 (aY.rows false
 [[D.p (T.v (.string { data:=#[] })),
 D.p (T.v (.string { data:=#[] })),
 D.p (T.v (.string { data:=#[] })),
 D.p (T.v (.int .i64 0)),
 D.p (T.v (.int .i64 0)),
 D.p (T.v (.int .i64 0))]])
 (X0 (IntKind.i64.wrap (s1.1+1),(),()))))
 (R
 (T.bX
 [T.agg
 [T.v (.string { data:=#[] }),T.v (.string { data:=#[] }),
 T.v (.string { data:=#[] }),T.v (.int .i64 0),
 T.v (.int .i64 0),T.v (.int .i64 0)],
 T.v (.bool false)])))
 (0,(),()))
theorem AJQ ( a0 a1 R):bD aX Tryz.prog AB6 AOK 8 30 [aB true aL a0,aB false Sy.str a1] R=ADX a0 a1 R:=by kernel_rfl
abbrev UH:Sh:=[(true,aL),(false,Sy.str)]
noncomputable def w9:List T→Option (T):=gS UH lD
theorem ALG {a0 a1}:w9 [aB true aL a0,T.v (.string a1)]=lD (a0,a1):=aT (s:=UH) rfl (a0,a1) rfl
theorem AUM (h:∀ a0 a1 r,lD (a0,a1)=some r→bU UH (a0,a1)→ADX a0 a1 (fun y=>y=r)):aJ Tryz.prog 30 w9 :=
 aN (E:=AB6) (Hs:=AOK) AN0 aU aV (aK rfl) 8 ⟨_,_,Tryz.func30,rfl⟩ rfl fun x r h1 h2=>by
  obtain ⟨a0,a1⟩:=x
  rw[show Sh.bI UH (a0,a1)=[aB true aL a0,aB false Sy.str a1] from rfl,AJQ]
  exact h a0 a1 r h1 h2
theorem ATN:aJ Tryz.prog 30 w9:=AUM fun d id r h hb=>by
 have hl:d.2.2.2.1.length≤2 ^ 47:=hb.1.2.2.2.1.1
 unfold ADX
 rw[bY]
 refine aR d.2.2.2.1.length (fun k s=>s=((k:Int),(),())∧(d.2.2.2.1.drop k).find? (fun s=>decide (s.1=id))=lY d id) ⟨rfl,rfl⟩ ?_
 rintro X k s hk ⟨rfl,hf⟩ hX
 simp only[List.length_map,o9,bY]
 by_cases hlt:k<d.2.2.2.1.length
 ·rw[gG hlt] at hf
  simp only[hlt,decide_true,aC,a7 (r:=cR) hlt]
  cases hc:decide (d.2.2.2.1[k].1=id) with
  | true =>
   simp only[hc,if_true] at hf
   simp only[lD,lD,←hf] at h
   cases h;rfl
  | false =>
   simp only[hc] at hf
   refine hX _ hlt ⟨?_,hf⟩
   simp only[Prod.mk.injEq,and_true]
   exact aO _ (by omega) (by omega)
 ·have:k=d.2.2.2.1.length:=by omega
  subst this
  simp only[List.drop_length,List.find?_nil] at hf
  simp only[lD,lD,←hf] at h
  simp only[hlt,decide_false,aC]
  cases h;rfl
noncomputable def IC:Env:=Env.of []
def W4:FuncId→Hint:=fun f=>match f == 34 with|true=>⟨fun r=>match r == 2 with|true=>.inv [.val 6 false (.int .i64),.fix 1]|false=>.none,fun _ _=>none,fun _=>none⟩|false=>aS
theorem ACQ:aF Tryz.prog IC:=aF.nil _
def JH (a0:aQ) (a1:ByteArray) (R:T→Prop):Prop :=
 dY
 (aY.rows false
 [[D.p (T.v (.string { data:=#[] })),D.p (T.v (.int .i64 0)),
 D.p (T.v (.int .i64 0)),D.p (T.v (.string { data:=#[] })),
 D.p (T.v (.string { data:=#[] })),D.p (T.v (.int .i64 0)),
 D.p (T.v (Value.slice none 0 0)),D.p (T.v (Value.slice none 0 0)),
 D.p (T.v (.string { data:=#[] })),D.p (T.v (.int .i64 0)),
 D.p (T.v (.int .i64 0)),D.p (T.v (.int .i64 0)),
 D.p (T.v (.int .i64 0)),D.p (T.v (.int .i64 0)),
 D.p (T.v (.int .i64 0)),D.p (T.v (.int .i64 0)),
 D.p (T.v (.int .i64 0)),D.p (T.v (.int .i64 0))]])
 (aY.rows false
 [[D.p (T.v (.string { data:=#[] })),D.p (T.v (.int .i64 0)),
 D.p (T.v (.int .i64 0)),D.p (T.v (.string { data:=#[] })),
 D.p (T.v (.string { data:=#[] })),D.p (T.v (.int .i64 0)),
 D.p (T.v (Value.slice none 0 0)),D.p (T.v (Value.slice none 0 0)),
 D.p (T.v (.string { data:=#[] })),D.p (T.v (.int .i64 0)),
 D.p (T.v (.int .i64 0)),D.p (T.v (.int .i64 0)),
 D.p (T.v (.int .i64 0)),D.p (T.v (.int .i64 0)),
 D.p (T.v (.int .i64 0)),D.p (T.v (.int .i64 0)),
 D.p (T.v (.int .i64 0)),D.p (T.v (.int .i64 0))]])
 (bE (Int×PUnit×PUnit)
 (fun (X0:Int×PUnit×PUnit→Prop) (s1:Int×PUnit×PUnit) =>
 aC (decide (s1.1<(↑(List.map aP.enc a0.2.2.1).length:Int)))
 (aZ aP (List.map aP.enc a0.2.2.1) s1.1 fun (y2:bC) =>
 aC (decide (y2.1=a1))
 (aZ aP (List.map aP.enc a0.2.2.1) s1.1 fun (y3:bC) =>
 R (T.bX [aB true aP y3,T.v (.bool true)]))
 (dY
 (aY.rows false
 [[D.p (T.v (.string { data:=#[] })),
 D.p (T.v (.int .i64 0)),
 D.p (T.v (.int .i64 0)),
 D.p (T.v (.string { data:=#[] })),
 D.p (T.v (.string { data:=#[] })),
 D.p (T.v (.int .i64 0)),
 D.p (T.v (Value.slice none 0 0)),D.p (T.v (Value.slice none 0 0)),
 D.p (T.v (.string { data:=#[] })),
 D.p (T.v (.int .i64 0)),
 D.p (T.v (.int .i64 0)),
 D.p (T.v (.int .i64 0)),
 D.p (T.v (.int .i64 0)),
 D.p (T.v (.int .i64 0)),
 D.p (T.v (.int .i64 0)),
 D.p (T.v (.int .i64 0)),
 D.p (T.v (.int .i64 0)),
 D.p (T.v (.int .i64 0))]])
 (aY.rows false
 [[D.p (T.v (.string { data:=#[] })),
 D.p (T.v (.int .i64 0)),
 D.p (T.v (.int .i64 0)),
 D.p (T.v (.string { data:=#[] })),
 D.p (T.v (.string { data:=#[] })),
 D.p (T.v (.int .i64 0)),
 D.p (T.v (Value.slice none 0 0)),D.p (T.v (Value.slice none 0 0)),
 D.p (T.v (.string { data:=#[] })),
 D.p (T.v (.int .i64 0)),
 D.p (T.v (.int .i64 0)),
 D.p (T.v (.int .i64 0)),
 D.p (T.v (.int .i64 0)),
 D.p (T.v (.int .i64 0)),
 D.p (T.v (.int .i64 0)),
 D.p (T.v (.int .i64 0)),
 D.p (T.v (.int .i64 0)),
 D.p (T.v (.int .i64 0))]])
 (X0 (IntKind.i64.wrap (s1.1+1),(),()))))
 (R
 (T.bX
 [T.agg
 [T.v (.string { data:=#[] }),T.v (.int .i64 0),
 T.v (.int .i64 0),T.v (.string { data:=#[] }),
 T.v (.string { data:=#[] }),T.v (.int .i64 0),
 T.sl false [],T.sl false [],T.v (.string { data:=#[] }),
 T.v (.int .i64 0),T.v (.int .i64 0),
 T.v (.int .i64 0),T.v (.int .i64 0),
 T.v (.int .i64 0),T.v (.int .i64 0),
 T.v (.int .i64 0),T.v (.int .i64 0),
 T.v (.int .i64 0)],
 T.v (.bool false)])))
 (0,(),()))
theorem V1 ( a0 a1 R):bD aX Tryz.prog IC W4 8 34 [aB true aL a0,aB false Sy.str a1] R=JH a0 a1 R:=by kernel_rfl
abbrev BH:Sh:=[(true,aL),(false,Sy.str)]
abbrev AX:Sh:=[(true,aP),(false,Sy.bool)]
theorem wF (y:Sh.den AX) (K:Sh.den AX→Prop):aH AX (some (Sh.enc AX y)) K=K y:=fJ rfl y K
noncomputable def fK:List T→Option (T):=gS BH kV
theorem sR {a0 a1}:fK [aB true aL a0,T.v (.string a1)]=kV (a0,a1):=aT (s:=BH) rfl (a0,a1) rfl
theorem AMD (h:∀ a0 a1 r,kV (a0,a1)=some r→bU BH (a0,a1)→JH a0 a1 (fun y=>y=r)):aJ Tryz.prog 34 fK :=
 aN (E:=IC) (Hs:=W4) ACQ aU aV (aK rfl) 8 ⟨_,_,Tryz.func34,rfl⟩ rfl fun x r h1 h2=>by
  obtain ⟨a0,a1⟩:=x
  rw[show Sh.bI BH (a0,a1)=[aB true aL a0,aB false Sy.str a1] from rfl,V1]
  exact h a0 a1 r h1 h2
theorem DW:aJ Tryz.prog 34 fK:=AMD fun d id r h hb=>by
 have hl:d.2.2.1.length≤2 ^ 47:=hb.1.2.2.1.1
 unfold JH
 rw[bY]
 refine aR d.2.2.1.length (fun k s=>s=((k:Int),(),())∧(d.2.2.1.drop k).find? (fun s=>decide (s.1=id))=partOf d id) ⟨rfl,rfl⟩ ?_
 rintro X k s hk ⟨rfl,hf⟩ hX
 simp only[List.length_map,o9,bY]
 by_cases hlt:k<d.2.2.1.length
 ·rw[gG hlt] at hf
  simp only[hlt,decide_true,aC,a7 (r:=aP) hlt]
  cases hc:decide (d.2.2.1[k].1=id) with
  | true =>
   simp only[hc,if_true] at hf
   simp only[kV,lC,←hf] at h
   cases h;rfl
  | false =>
   simp only[hc] at hf
   refine hX _ hlt ⟨?_,hf⟩
   simp only[Prod.mk.injEq,and_true]
   exact aO _ (by omega) (by omega)
 ·have:k=d.2.2.1.length:=by omega
  subst this
  simp only[List.drop_length,List.find?_nil] at hf
  simp only[kV,lC,←hf] at h
  simp only[hlt,decide_false,aC]
  cases h;rfl
noncomputable def H9:Env:=Env.of []
def W1:FuncId→Hint:=fun f=>match f == 32 with|true=>⟨fun r=>match r == 2 with|true=>.inv [.val 6 false (.int .i64),.fix 1]|false=>.none,fun _ _=>none,fun _=>none⟩|false=>aS
theorem ACN:aF Tryz.prog H9:=aF.nil _
def JE (a0:aQ) (a1:ByteArray) (R:T→Prop):Prop :=
 dY
 (aY.rows false
 [[D.p (T.v (.string { data:=#[] })),D.p (T.v (.int .i64 0)),
 D.p (T.v (.string { data:=#[] }))]])
 (aY.rows false
 [[D.p (T.v (.string { data:=#[] })),D.p (T.v (.int .i64 0)),
 D.p (T.v (.string { data:=#[] }))]])
 (bE (Int×PUnit×PUnit)
 (fun (X0:Int×PUnit×PUnit→Prop) (s1:Int×PUnit×PUnit) =>
 aC (decide (s1.1<(↑(List.map eZ.enc a0.2.1).length:Int)))
 (aZ eZ (List.map eZ.enc a0.2.1) s1.1 fun (y2:mU) =>
 aC (decide (y2.1=a1))
 (aZ eZ (List.map eZ.enc a0.2.1) s1.1 fun (y3:mU) =>
 R (T.bX [aB true eZ y3,T.v (.bool true)]))
 (dY
 (aY.rows false
 [[D.p (T.v (.string { data:=#[] })),
 D.p (T.v (.int .i64 0)),
 D.p (T.v (.string { data:=#[] }))]])
 (aY.rows false
 [[D.p (T.v (.string { data:=#[] })),
 D.p (T.v (.int .i64 0)),
 D.p (T.v (.string { data:=#[] }))]])
 (X0 (IntKind.i64.wrap (s1.1+1),(),()))))
 (R
 (T.bX
 [T.agg
 [T.v (.string { data:=#[] }),T.v (.int .i64 0),
 T.v (.string { data:=#[] })],
 T.v (.bool false)])))
 (0,(),()))
theorem VY ( a0 a1 R):bD aX Tryz.prog H9 W1 8 32 [aB true aL a0,aB false Sy.str a1] R=JE a0 a1 R:=by kernel_rfl
abbrev BE:Sh:=[(true,aL),(false,Sy.str)]
abbrev AV:Sh:=[(true,eZ),(false,Sy.bool)]
theorem wE (y:Sh.den AV) (K:Sh.den AV→Prop):aH AV (some (Sh.enc AV y)) K=K y:=fJ rfl y K
noncomputable def fY:List T→Option (T):=gS BE kU
theorem sP {a0 a1}:fY [aB true aL a0,T.v (.string a1)]=kU (a0,a1):=aT (s:=BE) rfl (a0,a1) rfl
theorem AMA (h:∀ a0 a1 r,kU (a0,a1)=some r→bU BE (a0,a1)→JE a0 a1 (fun y=>y=r)):aJ Tryz.prog 32 fY :=
 aN (E:=H9) (Hs:=W1) ACN aU aV (aK rfl) 8 ⟨_,_,Tryz.func32,rfl⟩ rfl fun x r h1 h2=>by
  obtain ⟨a0,a1⟩:=x
  rw[show Sh.bI BE (a0,a1)=[aB true aL a0,aB false Sy.str a1] from rfl,VY]
  exact h a0 a1 r h1 h2
theorem DV:aJ Tryz.prog 32 fY:=AMA fun d id r h hb=>by
 have hl:d.2.1.length≤2 ^ 47:=hb.1.2.1.1
 unfold JE
 rw[bY]
 refine aR d.2.1.length (fun k s=>s=((k:Int),(),())∧(d.2.1.drop k).find? (fun s=>decide (s.1=id))=fA d id) ⟨rfl,rfl⟩ ?_
 rintro X k s hk ⟨rfl,hf⟩ hX
 simp only[List.length_map,o9,bY]
 by_cases hlt:k<d.2.1.length
 ·rw[gG hlt] at hf
  simp only[hlt,decide_true,aC,a7 (r:=eZ) hlt]
  cases hc:decide (d.2.1[k].1=id) with
  | true =>
   simp only[hc,if_true] at hf
   simp only[kU,iE,←hf] at h
   cases h;rfl
  | false =>
   simp only[hc] at hf
   refine hX _ hlt ⟨?_,hf⟩
   simp only[Prod.mk.injEq,and_true]
   exact aO _ (by omega) (by omega)
 ·have:k=d.2.1.length:=by omega
  subst this
  simp only[List.drop_length,List.find?_nil] at hf
  simp only[kU,iE,←hf] at h
  simp only[hlt,decide_false,aC]
  cases h;rfl
noncomputable def AB1:Env:=Env.of []
def AOF:FuncId→Hint:=fun f=>match f == 25 with|true=>⟨fun r=>match r == 2 with|true=>.inv [.val 11 false (.int .i64),.fix 1]|false=>.none,fun _ _=>none,fun _=>none⟩|false=>aS
theorem ANV:aF Tryz.prog AB1:=aF.nil _
def ADJ (a0:aQ) (a1:ByteArray) (R:T→Prop):Prop :=
 dY
 (aY.rows false
 [[D.p (T.v (.string { data:=#[] })),D.p (T.v (.int .i64 0)),
 D.p (T.v (.string { data:=#[] }))]])
 (aY.rows false
 [[D.p (T.v (.string { data:=#[] })),D.p (T.v (.int .i64 0)),
 D.p (T.v (.string { data:=#[] }))]])
 (bE (Int×PUnit×PUnit)
 (fun (X0:Int×PUnit×PUnit→Prop) (s1:Int×PUnit×PUnit) =>
 aC (decide (s1.1<(↑(List.map eZ.enc a0.2.1).length:Int)))
 (aZ eZ (List.map eZ.enc a0.2.1) s1.1 fun (y2:mU) =>
 aC (decide (y2.1=a1))
 (R (T.bX [aB true eZ y2,T.v (.bool true)]))
 (dY
 (aY.rows false
 [[D.p (T.v (.string { data:=#[] })),
 D.p (T.v (.int .i64 0)),
 D.p (T.v (.string { data:=#[] }))]])
 (aY.rows false
 [[D.p (T.v (.string { data:=#[] })),
 D.p (T.v (.int .i64 0)),
 D.p (T.v (.string { data:=#[] }))]])
 (X0 (IntKind.i64.wrap (s1.1+1),(),()))))
 (R
 (T.bX
 [T.agg
 [T.v (.string { data:=#[] }),T.v (.int .i64 0),
 T.v (.string { data:=#[] })],
 T.v (.bool false)])))
 (0,(),()))
theorem AJL ( a0 a1 R):bD aX Tryz.prog AB1 AOF 8 25 [aB true aL a0,aB false Sy.str a1] R=ADJ a0 a1 R:=by kernel_rfl
abbrev UC:Sh:=[(true,aL),(false,Sy.str)]
abbrev T4:Sh:=[(true,eZ),(false,Sy.bool)]
theorem ABB (y:Sh.den T4) (K:Sh.den T4→Prop):aH T4 (some (Sh.enc T4 y)) K=K y:=fJ rfl y K
noncomputable def jE:List T→Option (T):=gS UC iE
theorem D3 {a0 a1}:jE [aB true aL a0,T.v (.string a1)]=iE (a0,a1):=aT (s:=UC) rfl (a0,a1) rfl
theorem AUH (h:∀ a0 a1 r,iE (a0,a1)=some r→bU UC (a0,a1)→ADJ a0 a1 (fun y=>y=r)):aJ Tryz.prog 25 jE :=
 aN (E:=AB1) (Hs:=AOF) ANV aU aV (aK rfl) 8 ⟨_,_,Tryz.func25,rfl⟩ rfl fun x r h1 h2=>by
  obtain ⟨a0,a1⟩:=x
  rw[show Sh.bI UC (a0,a1)=[aB true aL a0,aB false Sy.str a1] from rfl,AJL]
  exact h a0 a1 r h1 h2
theorem SU:aJ Tryz.prog 25 jE:=AUH fun d id r h hb=>by
 have hl:d.2.1.length≤2 ^ 47:=hb.1.2.1.1
 unfold ADJ
 rw[bY]
 refine aR d.2.1.length (fun k s=>s=((k:Int),(),())∧(d.2.1.drop k).find? (fun s=>decide (s.1=id))=fA d id) ⟨rfl,rfl⟩ ?_
 rintro X k s hk ⟨rfl,hf⟩ hX
 simp only[List.length_map,o9,bY]
 by_cases hlt:k<d.2.1.length
 ·rw[gG hlt] at hf
  simp only[hlt,decide_true,aC,a7 (r:=eZ) hlt]
  cases hc:decide (d.2.1[k].1=id) with
  | true =>
   simp only[hc,if_true] at hf
   simp only[iE,iE,←hf] at h
   cases h;rfl
  | false =>
   simp only[hc] at hf
   refine hX _ hlt ⟨?_,hf⟩
   simp only[Prod.mk.injEq,and_true]
   exact aO _ (by omega) (by omega)
 ·have:k=d.2.1.length:=by omega
  subst this
  simp only[List.drop_length,List.find?_nil] at hf
  simp only[iE,iE,←hf] at h
  simp only[hlt,decide_false,aC]
  cases h;rfl
noncomputable def CO:Env:=Env.of []
def OG:FuncId→Hint:=fun f=>match f == 114 with|true=>⟨fun r=>match r == 2 with|true=>.inv [.val 8 false (.int .i64)]|false=>.none,fun _ _=>none,fun _=>none⟩|false=>aS
theorem VG:aF Tryz.prog CO:=aF.nil _
def C7 (a0:aM) (a1:ByteArray) (R:T→Prop):Prop :=
 bE (Int×PUnit)
 (fun (X0:Int×PUnit→Prop) (s1:Int×PUnit) =>
 aC (decide (s1.1<(↑(List.map aW.enc a0.2).length:Int)))
 (aZ aW (List.map aW.enc a0.2) s1.1 fun (y2:bQ) =>
 aC (decide (y2.1=a1))
 (aC (decide (s1.1<0))
 (R
 (T.bX
 [T.agg
 [T.v (.string { data:=#[] }),T.v (.int .i64 0),
 T.v (.int .i64 0),T.v (.int .i64 0)],
 T.v (.bool false)]))
 (aZ aW (List.map aW.enc a0.2) s1.1 fun (y3:bQ) =>
 R (T.bX [aB true aW y3,T.v (.bool true)])))
 (X0 (IntKind.i64.wrap (s1.1+1),())))
 (R
 (T.bX
 [T.agg
 [T.v (.string { data:=#[] }),T.v (.int .i64 0),
 T.v (.int .i64 0),T.v (.int .i64 0)],
 T.v (.bool false)])))
 (0,())
theorem R3 ( a0 a1 R):bD aX Tryz.prog CO OG 8 61 [aB true aG a0,aB false Sy.str a1] R=C7 a0 a1 R:=by kernel_rfl
abbrev vB:Sh:=[(true,aG),(false,Sy.str)]
noncomputable def bW:List T→Option (T):=gS vB n7
theorem TD {a0 a1}:bW [aB true aG a0,T.v (.string a1)]=n7 (a0,a1):=aT (s:=vB) rfl (a0,a1) rfl
theorem AGH (h:∀ a0 a1 r,n7 (a0,a1)=some r→bU vB (a0,a1)→C7 a0 a1 (fun y=>y=r)):aJ Tryz.prog 61 bW :=
 aN (E:=CO) (Hs:=OG) VG aU aV (aK rfl) 8 ⟨_,_,Tryz.func61,rfl⟩ rfl fun x r h1 h2=>by
  obtain ⟨a0,a1⟩:=x
  rw[show Sh.bI vB (a0,a1)=[aB true aG a0,aB false Sy.str a1] from rfl,R3]
  exact h a0 a1 r h1 h2
theorem LA:aJ Tryz.prog 61 bW:=AGH fun m n r h hb=>by
 have hl:m.2.length≤2 ^ 47:=hb.1.2.1
 unfold C7
 refine aR m.2.length (fun k s=>s=((k:Int),())∧(m.2.drop k).find? (fun s=>decide (s.1=n))=l8 m n) ⟨rfl,rfl⟩ ?_
 rintro X k s hk ⟨rfl,hf⟩ hX
 simp only[List.length_map,o9]
 by_cases hlt:k<m.2.length
 ·rw[gG hlt] at hf
  have h0:¬ ((k:Int)<0):=by omega
  simp only[hlt,decide_true,aC,a7 (r:=aW) hlt,h0,decide_false]
  cases hc:decide (m.2[k].1=n) with
  | true =>
   simp only[hc,if_true] at hf
   simp only[n7,←hf] at h
   cases h;rfl
  | false =>
   simp only[hc] at hf
   refine hX _ hlt ⟨?_,hf⟩
   simp only[Prod.mk.injEq,and_true]
   exact aO _ (by omega) (by omega)
 ·have:k=m.2.length:=by omega
  subst this
  simp only[List.drop_length,List.find?_nil] at hf
  simp only[n7,←hf] at h
  simp only[hlt,decide_false,aC]
  cases h;rfl
end Go.Pv
namespace Go.Pv
open Go Go.Proofs
theorem AEG:ABY Tryz.prog 57 2 16:=⟨fun R=>by kernel_rfl,fun fl R=>by kernel_rfl,fun fl a rows R=>by kernel_rfl⟩
noncomputable def kF:List T→Option T:=gS [(false,.li aA)] (j7 aA 16)
theorem zO {u0}:kF [T.sl false (List.map (Sy.enc aA) u0)]=j7 aA 16 u0:=aT (s:=[(false,.li aA)]) rfl u0 rfl
theorem AER:aJ Tryz.prog 57 kF:=OS aU aV ⟨_,_,Tryz.func57,rfl⟩ AEG
theorem YH:ABX Tryz.prog 58 1 24:=⟨fun R=>by kernel_rfl,fun fl R=>by kernel_rfl,fun fl a rows R=>by kernel_rfl⟩
noncomputable def nC:List T→Option (List (List T)):=gS [(false,.li (.li aA))] (iD (.li aA) 24)
theorem NM {u0}:nC [T.sl false (List.map (Sy.enc (.li aA)) u0)]=iD (.li aA) 24 u0:=aT (s:=[(false,.li (.li aA))]) rfl u0 rfl
theorem YV:kY Tryz.prog 58 nC:=OR aU aV ⟨_,_,Tryz.func58,rfl⟩ YH
def GF (b:Nat) (n:Nat):Bool:=decide (n*b≤140737488355328)&&decide (n≤140737488355328)
def TW (s:dP):Bool:=GF 16 s.1.length&&GF 24 s.2.length&&s.2.all fun h=>GF 16 h.length
def TV (p:bC):Bool:=TW p.2.2.2.2.2.2.1
def okD (d:aQ):Bool:=d.2.2.1.all TV
theorem yF {r:Sy} {b:Nat} {l:List r.den} (h:GF b l.length=true):iD r b l=some (List.map r.enc l):=by
 unfold iD;unfold GF at h;rw[h]
def qC (x:aQ×ByteArray):Option T:=match okD x.1 with
 | true=>lC x
 | false=>none
noncomputable def QW:Env:=Env.of [(57,.pure kF),(58,.fresh nC)]
def AHG:FuncId→Hint:=fun f=>match f == 27 with|true=>⟨fun r=>match r == 2 with|true=>.inv [.val 13 false (.int .i64),.fix 1]|false=>match r == 7 with|true=>.alt [.val 37 false (.int .i64),.arr 4 1 (.li aA)] [.val 37 false (.int .i64)]|false=>.none,fun _ _=>none,fun _=>none⟩|false=>aS
theorem AJA:aF Tryz.prog QW:=aF.cons (x:=.pure kF) AER (aF.cons (x:=.fresh nC) YV (aF.nil _))
def RN (a0:aQ) (a1:ByteArray) (R:T→Prop):Prop :=
 dY
 (aY.rows false
 [[D.p (T.v (.string { data:=#[] })),D.p (T.v (.int .i64 0)),
 D.p (T.v (.int .i64 0)),D.p (T.v (.string { data:=#[] })),
 D.p (T.v (.string { data:=#[] })),D.p (T.v (.int .i64 0)),
 D.p (T.v (Value.slice none 0 0)),D.p (T.v (Value.slice none 0 0)),
 D.p (T.v (.string { data:=#[] })),D.p (T.v (.int .i64 0)),
 D.p (T.v (.int .i64 0)),D.p (T.v (.int .i64 0)),
 D.p (T.v (.int .i64 0)),D.p (T.v (.int .i64 0)),
 D.p (T.v (.int .i64 0)),D.p (T.v (.int .i64 0)),
 D.p (T.v (.int .i64 0)),D.p (T.v (.int .i64 0))]])
 (aY.rows false
 [[D.p (T.v (.string { data:=#[] })),D.p (T.v (.int .i64 0)),
 D.p (T.v (.int .i64 0)),D.p (T.v (.string { data:=#[] })),
 D.p (T.v (.string { data:=#[] })),D.p (T.v (.int .i64 0)),
 D.p (T.v (Value.slice none 0 0)),D.p (T.v (Value.slice none 0 0)),
 D.p (T.v (.string { data:=#[] })),D.p (T.v (.int .i64 0)),
 D.p (T.v (.int .i64 0)),D.p (T.v (.int .i64 0)),
 D.p (T.v (.int .i64 0)),D.p (T.v (.int .i64 0)),
 D.p (T.v (.int .i64 0)),D.p (T.v (.int .i64 0)),
 D.p (T.v (.int .i64 0)),D.p (T.v (.int .i64 0))]])
 (bE (Int×PUnit×PUnit)
 (fun (X0:Int×PUnit×PUnit→Prop) (s1:Int×PUnit×PUnit) =>
 aC (decide (s1.1<(↑(List.map aP.enc a0.2.2.1).length:Int)))
 (aZ aP (List.map aP.enc a0.2.2.1) s1.1 fun (y2:bC) =>
 aC (decide (y2.1=a1))
 (aH [(false,aA.li)]
 (kF [T.sl false (List.map aA.enc y2.2.2.2.2.2.2.1.1)])
 fun (y3:List aI) =>
 AFA aA.li
 (nC [T.sl false (List.map aA.li.enc y2.2.2.2.2.2.2.1.2)])
 fun (y4:List (List aI)) =>
 aC y4.isEmpty
 (bE (Int×PUnit)
 (fun (X5:Int×PUnit→Prop) (s6:Int×PUnit) =>
 aC (decide (s6.1<(↑0:Int)))
 (aZ aA.li [] s6.1 fun (y7:List aI) =>
 aH [(false,aA.li)]
 (kF [T.sl false (List.map aA.enc y7)])
 fun (y8:List aI) =>
 aZ aA.li [] s6.1 fun (y9:List aI)=>oB 104)
 (R
 (T.bX
 [T.agg
 [T.v (.string y2.1),T.v (.int .i64 y2.2.1),
 T.v (.int .i64 y2.2.2.1),
 T.v (.string y2.2.2.2.1),
 T.v (.string y2.2.2.2.2.1),
 T.v (.int .i64 y2.2.2.2.2.2.1),
 T.sl false (List.map aA.enc y3),T.sl false [],
 T.v (.string y2.2.2.2.2.2.2.2.1),
 T.v (.int .i64 y2.2.2.2.2.2.2.2.2.1),
 T.v (.int .i64 y2.2.2.2.2.2.2.2.2.2.1),
 T.v
 (Value.int IntKind.i64 y2.2.2.2.2.2.2.2.2.2.2.1.1),
 T.v
 (Value.int IntKind.i64
 y2.2.2.2.2.2.2.2.2.2.2.1.2.1),
 T.v
 (Value.int IntKind.i64
 y2.2.2.2.2.2.2.2.2.2.2.1.2.2),
 T.v
 (Value.int IntKind.i64
 y2.2.2.2.2.2.2.2.2.2.2.2.1.1),
 T.v
 (Value.int IntKind.i64
 y2.2.2.2.2.2.2.2.2.2.2.2.1.2.1),
 T.v
 (Value.int IntKind.i64
 y2.2.2.2.2.2.2.2.2.2.2.2.1.2.2),
 T.v
 (Value.int IntKind.i64 y2.2.2.2.2.2.2.2.2.2.2.2.2)],
 T.v (.bool true)])))
 (0,()))
 (bA aA.li (List.map aA.li.enc y4) fun (y10:List (List aI)) =>
 bE (Int×List (List aI)×PUnit)
 (fun (X11:Int×List (List aI)×PUnit→Prop)
 (s12:Int×List (List aI)×PUnit) =>
 aC (decide (s12.1<(↑(List.map aA.li.enc y4).length:Int)))
 (aZ aA.li (List.map aA.li.enc s12.2.1) s12.1
 fun (y13:List aI) =>
 oU aA.li (List.map aA.li.enc s12.2.1) (Int.toNat s12.1) 0
 fun (y14:List aI) =>
 aH [(false,aA.li)]
 (kF [T.sl false (List.map aA.enc y14)])
 fun (y15:List aI) =>
 aZ aA.li (List.map aA.li.enc s12.2.1) s12.1
 fun (y16:List aI) =>
 AU6 (List.map aA.li.enc s12.2.1) (Int.toNat s12.1)
 fun (y17:List T) =>
 bS (decide (1≤y17.length))
 (bA aA.li
 ((List.map aA.li.enc s12.2.1).set (Int.toNat s12.1)
 (cT y17 0 [T.sl false (List.map aA.enc y15)]))
 fun (y18:List (List aI)) =>
 X11 (IntKind.i64.wrap (s12.1+1),y18,())))
 (R
 (T.bX
 [T.agg
 [T.v (.string y2.1),
 T.v (.int .i64 y2.2.1),
 T.v (.int .i64 y2.2.2.1),
 T.v (.string y2.2.2.2.1),
 T.v (.string y2.2.2.2.2.1),
 T.v (.int .i64 y2.2.2.2.2.2.1),
 T.sl false (List.map aA.enc y3),
 T.sl false (List.map aA.li.enc s12.2.1),
 T.v (.string y2.2.2.2.2.2.2.2.1),
 T.v (.int .i64 y2.2.2.2.2.2.2.2.2.1),
 T.v (.int .i64 y2.2.2.2.2.2.2.2.2.2.1),
 T.v
 (Value.int IntKind.i64 y2.2.2.2.2.2.2.2.2.2.2.1.1),
 T.v
 (Value.int IntKind.i64
 y2.2.2.2.2.2.2.2.2.2.2.1.2.1),
 T.v
 (Value.int IntKind.i64
 y2.2.2.2.2.2.2.2.2.2.2.1.2.2),
 T.v
 (Value.int IntKind.i64
 y2.2.2.2.2.2.2.2.2.2.2.2.1.1),
 T.v
 (Value.int IntKind.i64
 y2.2.2.2.2.2.2.2.2.2.2.2.1.2.1),
 T.v
 (Value.int IntKind.i64
 y2.2.2.2.2.2.2.2.2.2.2.2.1.2.2),
 T.v
 (Value.int IntKind.i64 y2.2.2.2.2.2.2.2.2.2.2.2.2)],
 T.v (.bool true)])))
 (0,y10,())))
 (dY
 (aY.rows false
 [[D.p (T.v (.string { data:=#[] })),
 D.p (T.v (.int .i64 0)),
 D.p (T.v (.int .i64 0)),
 D.p (T.v (.string { data:=#[] })),
 D.p (T.v (.string { data:=#[] })),
 D.p (T.v (.int .i64 0)),
 D.p (T.v (Value.slice none 0 0)),D.p (T.v (Value.slice none 0 0)),
 D.p (T.v (.string { data:=#[] })),
 D.p (T.v (.int .i64 0)),
 D.p (T.v (.int .i64 0)),
 D.p (T.v (.int .i64 0)),
 D.p (T.v (.int .i64 0)),
 D.p (T.v (.int .i64 0)),
 D.p (T.v (.int .i64 0)),
 D.p (T.v (.int .i64 0)),
 D.p (T.v (.int .i64 0)),
 D.p (T.v (.int .i64 0))]])
 (aY.rows false
 [[D.p (T.v (.string { data:=#[] })),
 D.p (T.v (.int .i64 0)),
 D.p (T.v (.int .i64 0)),
 D.p (T.v (.string { data:=#[] })),
 D.p (T.v (.string { data:=#[] })),
 D.p (T.v (.int .i64 0)),
 D.p (T.v (Value.slice none 0 0)),D.p (T.v (Value.slice none 0 0)),
 D.p (T.v (.string { data:=#[] })),
 D.p (T.v (.int .i64 0)),
 D.p (T.v (.int .i64 0)),
 D.p (T.v (.int .i64 0)),
 D.p (T.v (.int .i64 0)),
 D.p (T.v (.int .i64 0)),
 D.p (T.v (.int .i64 0)),
 D.p (T.v (.int .i64 0)),
 D.p (T.v (.int .i64 0)),
 D.p (T.v (.int .i64 0))]])
 (X0 (IntKind.i64.wrap (s1.1+1),(),()))))
 (R
 (T.bX
 [T.agg
 [T.v (.string { data:=#[] }),T.v (.int .i64 0),
 T.v (.int .i64 0),T.v (.string { data:=#[] }),
 T.v (.string { data:=#[] }),T.v (.int .i64 0),
 T.sl false [],T.sl false [],T.v (.string { data:=#[] }),
 T.v (.int .i64 0),T.v (.int .i64 0),
 T.v (.int .i64 0),T.v (.int .i64 0),
 T.v (.int .i64 0),T.v (.int .i64 0),
 T.v (.int .i64 0),T.v (.int .i64 0),
 T.v (.int .i64 0)],
 T.v (.bool false)])))
 (0,(),()))
theorem ADN ( a0 a1 R):bD aX Tryz.prog QW AHG 8 27 [aB true aL a0,aB false Sy.str a1] R=RN a0 a1 R:=by kernel_rfl
abbrev HF:Sh:=[(true,aL),(false,Sy.str)]
abbrev G6:Sh:=[(true,aP),(false,Sy.bool)]
theorem AY (y:Sh.den G6) (K:Sh.den G6→Prop):aH G6 (some (Sh.enc G6 y)) K=K y:=fJ rfl y K
noncomputable def iB:List T→Option (T):=gS HF qC
theorem w7 {a0 a1}:iB [aB true aL a0,T.v (.string a1)]=qC (a0,a1):=aT (s:=HF) rfl (a0,a1) rfl
theorem ARF (h:∀ a0 a1 r,qC (a0,a1)=some r→bU HF (a0,a1)→RN a0 a1 (fun y=>y=r)):aJ Tryz.prog 27 iB :=
 aN (E:=QW) (Hs:=AHG) AJA aU aV (aK rfl) 8 ⟨_,_,Tryz.func27,rfl⟩ rfl fun x r h1 h2=>by
  obtain ⟨a0,a1⟩:=x
  rw[show Sh.bI HF (a0,a1)=[aB true aL a0,aB false Sy.str a1] from rfl,ADN]
  exact h a0 a1 r h1 h2
theorem K9:aJ Tryz.prog 27 iB:=ARF fun d id r h hb=>by
 have hl:d.2.2.1.length≤2 ^ 47:=hb.1.2.2.1.1
 unfold qC at h
 split at h
 ·rename_i hok
  unfold RN
  rw[bY]
  refine aR d.2.2.1.length (fun k s=>s=((k:Int),(),())∧(d.2.2.1.drop k).find? (fun s=>decide (s.1=id))=partOf d id) ⟨rfl,rfl⟩ ?_
  rintro X k s hk ⟨rfl,hf⟩ hX
  simp only[List.length_map,o9,bY]
  by_cases hlt:k<d.2.2.1.length
  ·rw[gG hlt] at hf
   have hp:TV d.2.2.1[k]=true:=List.all_eq_true.1 hok _ (List.getElem_mem hlt)
   simp only[hlt,decide_true,aC,a7 (r:=aP) hlt]
   generalize d.2.2.1[k]=p at *
   unfold TV TW at hp
   simp only[Bool.and_eq_true] at hp
   obtain ⟨⟨hp1,hp2⟩,hp3⟩:=hp
   cases hc:decide (p.1=id) with
   | true =>
    simp only[hc,if_true] at hf
    simp only[lC,←hf] at h
    cases h
    simp only[]
    refine aD (s:=[(false,aA.li)]) (y:=p.2.2.2.2.2.2.1.1) (by rw[zO,j7,yF hp1];rfl) ?_
    refine ALA (r:=.li aA) (l:=p.2.2.2.2.2.2.1.2) (by rw[NM,yF hp2]) _ ?_
    obtain ⟨p1,p2,p3,p4,p5,p6,⟨o,hs⟩,p7⟩:=p
    have hb47:hs.length≤140737488355328:=by
     simp only[GF,Bool.and_eq_true,decide_eq_true_eq] at hp2;exact hp2.2
    cases hs with
    | nil =>
     simp only[List.isEmpty_nil]
     refine aR 0 (fun k s=>s=((k:Int),())) rfl ?_
     rintro X k s hk rfl hX
     have:k=0:=by omega
     subst this
     rfl
    | cons h0 hs =>
     generalize hhs:h0::hs=hh at *
     have he:hh.isEmpty=false:=by rw[←hhs];rfl
     simp only[he]
     rw[iO (r:=.li aA) rfl]
     refine aR hh.length (fun k s=>s=((k:Int),hh,())) rfl ?_
     rintro X k s hk rfl hX
     simp only[List.length_map,o9]
     by_cases hlt:k<hh.length
     ·have hok:GF 16 hh[k].length=true:=List.all_eq_true.1 hp3 _ (List.getElem_mem hlt)
      simp only[hlt,decide_true,Int.toNat_natCast,a7 (r:=.li aA) hlt,p8 (r:=.li aA) hlt,AU7 (r:=.li aA) hlt]
      refine aD (s:=[(false,aA.li)]) (y:=hh[k]) (by rw[zO,j7,yF hok];rfl) ?_
      refine ⟨rfl,?_⟩
      have e:cT (Sy.enc (.li aA) hh[k]) 0 [T.sl false (List.map aA.enc hh[k])]=Sy.enc (.li aA) hh[k]:=rfl
      rw[e,AR6 (r:=.li aA) hlt,iO (r:=.li aA) rfl]
      refine hX _ hlt ?_
      simp only[Prod.mk.injEq,and_true]
      exact aO _ (by omega) (by omega)
     ·simp only[hlt,decide_false]
      rfl
   | false =>
    simp only[hc] at hf
    refine hX _ hlt ⟨?_,hf⟩
    simp only[Prod.mk.injEq,and_true]
    exact aO _ (by omega) (by omega)
  ·have:k=d.2.2.1.length:=by omega
   subst this
   simp only[List.drop_length,List.find?_nil] at hf
   simp only[lC,←hf] at h
   simp only[hlt,decide_false,aC]
   cases h;rfl
 ·cases h
end Go.Pv
namespace Go.Pv
open Go Go.Proofs
abbrev AA7 (p:bC):Int:=p.2.2.1
abbrev GI (p:bC):ByteArray:=p.2.2.2.1
abbrev AXL (p:bC):Int:=p.2.2.2.2.2.1
abbrev A0B (p:bC):ByteArray:=p.2.2.2.2.2.2.2.1
def oS (d:aQ) (t:T):Option T:=match okD d with
 | true=>some t
 | false=>none
abbrev r_b:Sh:=[(false,.bool)]
theorem pY {d:aQ} {t r:T} (h:oS d t=some r):okD d=true∧r=t:=by
 unfold oS at h;split at h
 ·cases h;exact ⟨by assumption,rfl⟩
 ·cases h
theorem nS {d:aQ} (t:T) (h:okD d=true):oS d t=some t:=by unfold oS;rw[h]
theorem bR {p:Prop} {i:Decidable p} (h:p) {A B:Prop} (ha:A):aC (@decide p i) A B:=by rw[show @decide p i=true from decide_eq_true h];exact ha
theorem b7 {p:Prop} {i:Decidable p} (h:¬ p) {A B:Prop} (hb:B):aC (@decide p i) A B:=by rw[show @decide p i=false from decide_eq_false h];exact hb
theorem PK {p:Prop} {i:Decidable p} (h:p) {A B:Prop} (hb:B):aC (!(@decide p i)) A B:=by rw[show @decide p i=true from decide_eq_true h];exact hb
theorem AAH {p:Prop} {i:Decidable p} (h:¬ p) {A B:Prop} (ha:A):aC (!(@decide p i)) A B:=by rw[show @decide p i=false from decide_eq_false h];exact ha
theorem bT {p:Prop} {i:Decidable p} {A B:Prop} (h1:p→A) (h2:¬ p→B):aC (@decide p i) A B:=by
 by_cases h:p
 ·rw[decide_eq_true h];exact h1 h
 ·rw[decide_eq_false h];exact h2 h
theorem rX {p:Prop} {i:Decidable p} {A B:Prop} (h1:¬ p→A) (h2:p→B):aC (!(@decide p i)) A B:=by
 by_cases h:p
 ·rw[decide_eq_true h];exact h2 h
 ·rw[decide_eq_false h];exact h1 h
theorem vR {c:Bool} {A B:Prop} (h1:c=true→A) (h2:c=false→B):aC c A B:=by cases c with
 | true=>exact h1 rfl
 | false=>exact h2 rfl
theorem pU {c:Bool} {A B:Prop} (h1:c=false→A) (h2:c=true→B):aC (!c) A B:=by cases c with
 | true=>exact h2 rfl
 | false=>exact h1 rfl
def eF {α:Type} (f:α→Int):List α→Int
 | []=>0
 | a::l=>if f a=0 then eF f l else f a
theorem AWP {r:Sy} {l:List r.den} (f:r.den→Int) (hl:l.length≤140737488355328) {Body:(Int×PUnit→Prop)→Int×PUnit→r.den→Prop} {Exit:Prop}
  (hbody:∀ (X:Int×PUnit→Prop) (s:Int×PUnit) (y:r.den),y∈l→(f y=0→X (IntKind.i64.wrap (s.1+1),()))→(f y≠0→eF f l=f y)→Body X s y) (hexit:eF f l=0→Exit) :
  bE (Int×PUnit) (fun (X:Int×PUnit→Prop) (s:Int×PUnit)=>aC (decide (s.1<((List.map r.enc l).length:Int))) (aZ r (List.map r.enc l) s.1 fun y=>Body X s y) Exit) (0,()):=by
 refine aR l.length (fun k s=>s=((k:Int),())∧eF f l=eF f (l.drop k)) ⟨rfl,by rw[List.drop_zero]⟩ ?_
 rintro X k s hk ⟨rfl,he⟩ hX
 dsimp only
 refine bT (fun hlt=>?_) fun hge=>?_
 ·rw[List.length_map] at hlt
  have hlt:k<l.length:=by omega
  rw[a7 hlt]
  have hd:l.drop k=l[k]::l.drop (k+1):=List.drop_eq_getElem_cons hlt
  rw[hd,eF] at he
  refine hbody X _ _ (List.getElem_mem hlt) (fun h0=>?_) fun h0=>by rw[he,if_neg h0]
  rw[if_pos h0] at he
  exact hX _ hlt ⟨by rw[show IntKind.i64.wrap ((k:Int)+1)=((k+1:Nat):Int) from aO _ (by omega) (by omega)],he⟩
 ·rw[List.length_map] at hge
  have:k=l.length:=by omega
  subst this
  rw[List.drop_length] at he
  exact hexit he
end Go.Pv
namespace Go.Pv
open Go Go.Proofs
def upF (d:aQ):Nat→ByteArray→List ByteArray→List ByteArray×Bool
 | 0,_,_=>([],false)
 | n+1,id,l=>match fA d id with
  | none=>([],false)
  | some x=>if x.2.1=1 then (l++[id],true) else upF d n x.2.2 (l++[id])
def up (d:aQ) (id:ByteArray):List ByteArray×Bool:=upF d 65 id []
def l7 (d:aQ) (id:ByteArray):List ByteArray:=match fA d id with
 | some _=>(up d id).1.reverse
 | none=>match partOf d id with
  | some p=>(up d (GI p)).1.reverse
  | none=>[]
def pathOf (d:aQ) (id:ByteArray):List ByteArray:=match partOf d id with
 | some p=>l7 d (GI p)
 | none=>[]
abbrev nX:Sh:=[(false,.li .str)]
abbrev P4:Sh:=[(false,.li .str),(false,.bool)]
def ABN (x:aQ×ByteArray):Option T:=some (Sh.enc P4 (up x.1 x.2))
def qD (x:aQ×ByteArray):Option T:=oS x.1 (Sh.enc nX (l7 x.1 x.2))
abbrev rQ:=qD
def vK (x:aQ×ByteArray):Option T:=oS x.1 (Sh.enc nX (pathOf x.1 x.2))
abbrev vL:=vK
theorem AI1 {d:aQ}:∀ {n:Nat} {id:ByteArray} {l:List ByteArray},(upF d n id l).1.length≤l.length+n
 | 0,_,_=>by simp[upF]
 | n+1,id,l=>by
  unfold upF
  cases fA d id with
  | none=>simp
  | some x =>
   by_cases hx:x.2.1=1
   ·simp only[hx,if_true]
    simp
   ·simp only[hx,if_false]
    have:=AI1 (d:=d) (n:=n) (id:=x.2.2) (l:=l++[id])
    simp at this;omega
theorem M1 (d:aQ) (id:ByteArray):(up d id).1.length≤65:=by have:=AI1 (d:=d) (n:=65) (id:=id) (l:=[]);simpa [up] using this
theorem qO {l:List ByteArray} (h:l.length≤8000000000000) (K:Prop):bS (decide (((List.map Sy.str.enc l).length+1)*16≤140737488355328)&&decide ((List.map Sy.str.enc l).length+1≤140737488355328)) K=K:=by
 have e:(decide (((List.map Sy.str.enc l).length+1)*16≤140737488355328)&&decide ((List.map Sy.str.enc l).length+1≤140737488355328))=true:=by
  simp only[List.length_map,Bool.and_eq_true,decide_eq_true_eq]
  omega
 rw[e];simp[bS]
theorem eU {l:List ByteArray} {x:ByteArray} (K:List ByteArray→Prop):bA Sy.str (List.map Sy.str.enc l++[[T.v (.string x)]]) K=K (l++[x]):=OX (r:=.str) rfl l _ x rfl K
theorem APF {l:List ByteArray} {x:ByteArray}:List.map Sy.str.enc l++[[T.v (.string x)]]=List.map Sy.str.enc (l++[x]):=by simp[Sy.enc]
noncomputable def AV4:Env:=Env.of [(32,.pure fY)]
def AYH:FuncId→Hint:=fun f=>match f == 121 with|true=>⟨fun r=>match r == 3 with|true=>.inv [.val 1 false .str,.own 6 1 .str,.val 7 false (.int .i64)]|false=>.none,fun _ _=>none,fun _=>none⟩|false=>aS
theorem AV5:aF Tryz.prog AV4:=aF.cons (x:=.pure fY) DV (aF.nil _)
def AV6 (a0:aQ) (a1:ByteArray) (R:T→Prop):Prop :=
 bE (ByteArray×List ByteArray×Int×PUnit)
 (fun (X0:ByteArray×List ByteArray×Int×PUnit→Prop) (s1:ByteArray×List ByteArray×Int×PUnit) =>
 aC (decide (s1.2.2.1≤64))
 (aH [(true,eZ),(false,Sy.bool)]
 (fY [aB true aL a0,T.v (.string s1.1)])
 fun (y2:mU×Bool) =>
 aC (!y2.2) (R (T.bX [T.sl false [],T.v (.bool false)]))
 (bS
 (decide (((List.map Sy.str.enc s1.2.1).length+1)*16≤140737488355328) &&
 decide ((List.map Sy.str.enc s1.2.1).length+1≤140737488355328))
 (aC (decide (y2.1.2.1=1))
 (R
 (T.bX
 [T.sl false (List.map Sy.str.enc s1.2.1++[[T.v (.string s1.1)]]),
 T.v (.bool true)]))
 (bA Sy.str (List.map Sy.str.enc s1.2.1++[[T.v (.string s1.1)]])
 fun (y3:List ByteArray)=>X0 (y2.1.2.2,y3,IntKind.i64.wrap (s1.2.2.1+1),())))))
 (R (T.bX [T.sl false [],T.v (.bool false)])))
 (a1,[],0,())
theorem AST ( a0 a1 R):bD aX Tryz.prog AV4 AYH 8 121 [aB true aL a0,aB false Sy.str a1] R=AV6 a0 a1 R:=by kernel_rfl
abbrev AU9:Sh:=[(true,aL),(false,Sy.str)]
abbrev AU2:Sh:=[(false,Sy.str.li),(false,Sy.bool)]
theorem P5 (y:Sh.den AU2) (K:Sh.den AU2→Prop):aH AU2 (some (Sh.enc AU2 y)) K=K y:=fJ rfl y K
noncomputable def NT:List T→Option (T):=gS AU9 ABN
theorem AH5 {a0 a1}:NT [aB true aL a0,T.v (.string a1)]=ABN (a0,a1):=aT (s:=AU9) rfl (a0,a1) rfl
theorem AZM (h:∀ a0 a1 r,ABN (a0,a1)=some r→bU AU9 (a0,a1)→AV6 a0 a1 (fun y=>y=r)):aJ Tryz.prog 121 NT :=
 aN (E:=AV4) (Hs:=AYH) AV5 aU aV (aK rfl) 8 ⟨_,_,Tryz.func121,rfl⟩ rfl fun x r h1 h2=>by
  obtain ⟨a0,a1⟩:=x
  rw[show Sh.bI AU9 (a0,a1)=[aB true aL a0,aB false Sy.str a1] from rfl,AST]
  exact h a0 a1 r h1 h2
theorem AVN:aJ Tryz.prog 121 NT:=AZM fun d id r h hb=>by
 cases h
 unfold AV6
 refine aR 65 (fun k s=>∃ id' l',s=(id',l',(k:Int),())∧l'.length=k∧upF d (65-k) id' l'=up d id) ⟨id,[],rfl,rfl,rfl⟩ ?_
 rintro X k s hk ⟨id',l',rfl,hl,hu⟩ hX
 dsimp only
 by_cases hlt:k<65
 ·have h1:decide ((k:Int)≤64)=true:=by simp;omega
  obtain ⟨m,hm⟩:∃ m,65-k=m+1:=⟨64-k,by omega⟩
  rw[hm] at hu
  simp only[upF] at hu
  simp only[h1,qO (l:=l') (by omega),eU,aC,sP,kU,iE,wE]
  cases hn:fA d id' with
  | none=>simp only[hn] at hu;simp only[found];rw[←hu];rfl
  | some x =>
   simp only[hn] at hu
   simp only[found,Bool.not_true]
   by_cases hx:x.2.1=1
   ·simp only[hx,decide_true]
    rw[if_pos hx] at hu
    rw[←hu,APF];rfl
   ·simp only[hx,decide_false]
    rw[if_neg hx] at hu
    rw[eU]
    refine hX _ hlt ⟨x.2.2,l'++[id'],?_,by simp[hl],by rw[←hu];congr 1;omega⟩
    simp only[Prod.mk.injEq,and_true,true_and]
    exact aO _ (by omega) (by omega)
 ·have h1:decide ((k:Int)≤64)=false:=by simp;omega
  have:65-k=0:=by omega
  rw[this] at hu
  rw[h1,←hu]
  rfl
noncomputable def CI:Env:=Env.of [(32,.pure fY),(34,.pure fK),(121,.pure NT)]
def OA:FuncId→Hint:=fun f=>match f == 162 with|true=>⟨fun r=>match r == 11 with|true=>.inv [.own 12 1 .str,.val 13 false (.int .i64)]|false=>.none,fun _ _=>none,fun _=>none⟩|false=>aS
theorem VA:aF Tryz.prog CI:=aF.cons (x:=.pure fY) DV (aF.cons (x:=.pure fK) DW (aF.cons (x:=.pure NT) AVN (aF.nil _)))
def C1 (a0:aQ) (a1:ByteArray) (R:T→Prop):Prop :=
 aH [(true,eZ),(false,Sy.bool)]
 (fY [aB true aL a0,T.v (.string a1)]) fun (y0:mU×Bool) =>
 aC (!y0.2)
 (aH [(true,aP),(false,Sy.bool)]
 (fK [aB true aL a0,T.v (.string a1)])
 fun (y1:bC×Bool) =>
 aC (!y1.2) (R (T.sl false []))
 (aH [(false,Sy.str.li),(false,Sy.bool)]
 (NT [aB true aL a0,T.v (.string y1.1.2.2.2.1)])
 fun (y2:List ByteArray×Bool) =>
 bE (List ByteArray×Int×PUnit)
 (fun (X3:List ByteArray×Int×PUnit→Prop) (s4:List ByteArray×Int×PUnit) =>
 aC (decide (0≤s4.2.1))
 (aZ Sy.str (List.map Sy.str.enc y2.1) s4.2.1 fun (y5:ByteArray) =>
 bS
 (decide (((List.map Sy.str.enc s4.1).length+1)*16≤140737488355328) &&
 decide ((List.map Sy.str.enc s4.1).length+1≤140737488355328))
 (bA Sy.str (List.map Sy.str.enc s4.1++[[T.v (.string y5)]])
 fun (y6:List ByteArray)=>X3 (y6,IntKind.i64.wrap (s4.2.1-1),())))
 (R (T.sl false (List.map Sy.str.enc s4.1))))
 ([],IntKind.i64.wrap ((↑(List.map Sy.str.enc y2.1).length:Int)-1),())))
 (aH [(false,Sy.str.li),(false,Sy.bool)]
 (NT [aB true aL a0,T.v (.string a1)])
 fun (y7:List ByteArray×Bool) =>
 bE (List ByteArray×Int×PUnit)
 (fun (X8:List ByteArray×Int×PUnit→Prop) (s9:List ByteArray×Int×PUnit) =>
 aC (decide (0≤s9.2.1))
 (aZ Sy.str (List.map Sy.str.enc y7.1) s9.2.1 fun (y10:ByteArray) =>
 bS
 (decide (((List.map Sy.str.enc s9.1).length+1)*16≤140737488355328) &&
 decide ((List.map Sy.str.enc s9.1).length+1≤140737488355328))
 (bA Sy.str (List.map Sy.str.enc s9.1++[[T.v (.string y10)]])
 fun (y11:List ByteArray)=>X8 (y11,IntKind.i64.wrap (s9.2.1-1),())))
 (R (T.sl false (List.map Sy.str.enc s9.1))))
 ([],IntKind.i64.wrap ((↑(List.map Sy.str.enc y7.1).length:Int)-1),()))
theorem RR ( a0 a1 R):bD aX Tryz.prog CI OA 8 162 [aB true aL a0,aB false Sy.str a1] R=C1 a0 a1 R:=by kernel_rfl
abbrev u4:Sh:=[(true,aL),(false,Sy.str)]
abbrev uS:Sh:=[(false,Sy.str.li)]
theorem L9 (y:Sh.den uS) (K:Sh.den uS→Prop):aH uS (some (Sh.enc uS y)) K=K y:=fJ rfl y K
noncomputable def mN:List T→Option (T):=gS u4 rQ
theorem S4 {a0 a1}:mN [aB true aL a0,T.v (.string a1)]=rQ (a0,a1):=aT (s:=u4) rfl (a0,a1) rfl
theorem AGB (h:∀ a0 a1 r,rQ (a0,a1)=some r→bU u4 (a0,a1)→C1 a0 a1 (fun y=>y=r)):aJ Tryz.prog 162 mN :=
 aN (E:=CI) (Hs:=OA) VA aU aV (aK rfl) 8 ⟨_,_,Tryz.func162,rfl⟩ rfl fun x r h1 h2=>by
  obtain ⟨a0,a1⟩:=x
  rw[show Sh.bI u4 (a0,a1)=[aB true aL a0,aB false Sy.str a1] from rfl,RR]
  exact h a0 a1 r h1 h2
theorem OP {ls:List ByteArray} (hl:ls.length≤65) {R:T→Prop} (hR:R (T.sl false (List.map Sy.str.enc ls.reverse))):bE (List ByteArray×Int×PUnit)
    (fun (X8:List ByteArray×Int×PUnit→Prop) (s9:List ByteArray×Int×PUnit) =>
     aC (decide (0≤s9.2.1))
      (aZ Sy.str (List.map Sy.str.enc ls) s9.2.1 fun (y10:ByteArray) =>
       bS
        (decide (((List.map Sy.str.enc s9.1).length+1)*16≤140737488355328)&&decide ((List.map Sy.str.enc s9.1).length+1≤140737488355328))
        (bA Sy.str (List.map Sy.str.enc s9.1++[[T.v (.string y10)]])
         fun (y11:List ByteArray)=>X8 (y11,IntKind.i64.wrap (s9.2.1-1),())))
      (R (T.sl false (List.map Sy.str.enc s9.1))))
    ([],IntKind.i64.wrap ((↑(List.map Sy.str.enc ls).length:Int)-1),()):=by
 refine aR ls.length (fun k s=>s=(ls.reverse.take k,(ls.length:Int)-1-k,())) ?_ ?_
 ·simp only[List.take_zero,List.length_map,Prod.mk.injEq,and_true,true_and]
  rw[aO _ (by omega) (by omega)];simp
 rintro X k s hk rfl hX
 by_cases hlt:k<ls.length
 ·have h1:decide (0≤(ls.length:Int)-1-k)=true:=by simp;omega
  have e:(ls.length:Int)-1-k=((ls.length-1-k:Nat):Int):=by omega
  dsimp only
  rw[h1,e,a7 (r:=.str) (show ls.length-1-k<ls.length by omega),qO (by simp;omega),eU]
  simp only[aC]
  refine hX _ hlt ?_
  have hg:ls.reverse.take (k+1)=ls.reverse.take k++[ls[ls.length-1-k]]:=by
   rw[List.take_succ_eq_append_getElem (by simpa using hlt)]
   simp
  rw[hg]
  simp only[Prod.mk.injEq,and_true,true_and]
  rw[aO _ (by omega) (by omega)];omega
 ·have:k=ls.length:=by omega
  subst this
  have h1:decide (0≤(ls.length:Int)-1-ls.length)=false:=by simp;omega
  simp only[h1,aC]
  rw[List.take_of_length_le (by simp)]
  exact hR
theorem AEY:aJ Tryz.prog 162 mN:=AGB fun d id r h hb=>by
 have h':oS d (Sh.enc nX (l7 d id))=some r:=h
 obtain ⟨hok,rfl⟩:=pY h'
 clear h h'
 unfold C1
 simp only[sP,kU,iE,wE,sR,kV,lC,wF,AH5,ABN,P5]
 cases hn:fA d id with
 | some x =>
  simp only[found,Bool.not_true,cH,cO]
  exact OP (M1 d id) (R:=fun y=>y=Sh.enc nX (l7 d id)) (by simp[l7,hn,Sh.enc,aB,Sy.enc,PG])
 | none =>
  simp only[found,Bool.not_false,cH,cO]
  cases hp:partOf d id with
  | none=>simp only[Bool.not_false,cH];simp[l7,hn,hp,Sh.enc,aB,Sy.enc,PG]
  | some p =>
   simp only[Bool.not_true,cH,cO]
   exact OP (M1 d (GI p)) (R:=fun y=>y=Sh.enc nX (l7 d id)) (by simp[l7,hn,hp,Sh.enc,aB,Sy.enc,PG])
theorem AHR {l:List ByteArray} {x:ByteArray} (h:l.length≤8000000000000) (K:Prop):bS (decide (1=1)&&fR 1 [[T.v (.string x)]]&&decide (((List.map Sy.str.enc l).length + [[T.v (.string x)].reverse].reverse.length)*16≤140737488355328)&&decide ((List.map Sy.str.enc l).length + [[T.v (.string x)].reverse].reverse.length≤140737488355328)) K=K:=by
 have e:(decide (1=1)&&fR 1 [[T.v (.string x)]]&&decide (((List.map Sy.str.enc l).length + [[T.v (.string x)].reverse].reverse.length)*16≤140737488355328)&&decide ((List.map Sy.str.enc l).length + [[T.v (.string x)].reverse].reverse.length≤140737488355328))=true:=by
  simp only[List.length_map,Bool.and_eq_true,decide_eq_true_eq,List.length_reverse,List.length_cons,List.length_nil]
  refine ⟨⟨⟨trivial,rfl⟩,?_⟩,?_⟩<;>omega
 rw[e];simp[bS]
noncomputable def QY:Env:=Env.of [(25,.pure jE),(27,.pure iB)]
def AHI:FuncId→Hint:=fun f=>match f == 20 with|true=>⟨fun r=>match r == 9 with|true=>.inv [.own 4 1 .str,.val 38 false (.int .i64)]|false=>.none,fun i j=>match i == 7&&j == 7 with|true=>some [.own 9 1 .str,.val 10 false .bool]|false=>none,fun _=>none⟩|false=>match f == 53 with|true=>⟨fun r=>match r == 3 with|true=>.inv [.val 1 false .str,.own 6 1 .str,.val 9 false (.int .i64)]|false=>.none,fun _ _=>none,fun _=>none⟩|false=>aS
theorem AJC:aF Tryz.prog QY:=aF.cons (x:=.pure jE) SU (aF.cons (x:=.pure iB) K9 (aF.nil _))
def RQ (a0:aQ) (a1:ByteArray) (R:T→Prop):Prop :=
 aH [(true,eZ),(false,Sy.bool)]
 (jE [aB true aL a0,T.v (.string a1)]) fun (y0:mU×Bool) =>
 aC (!y0.2)
 (aH [(true,aP),(false,Sy.bool)]
 (iB [aB true aL a0,T.v (.string a1)])
 fun (y1:bC×Bool) =>
 aC (!y1.2) (R (T.sl false []))
 (oQ (List ByteArray×Bool×PUnit)
 (fun (X2:List ByteArray×Bool×PUnit→Prop) =>
 bE (ByteArray×List ByteArray×Int×PUnit)
 (fun (X3:ByteArray×List ByteArray×Int×PUnit→Prop)
 (s4:ByteArray×List ByteArray×Int×PUnit) =>
 aC (decide (s4.2.2.1<65))
 (aH [(true,eZ),(false,Sy.bool)]
 (jE [aB true aL a0,T.v (.string s4.1)])
 fun (y5:mU×Bool) =>
 aC (!y5.2) (X2 ([],false,()))
 (bS
 (decide (((List.map Sy.str.enc s4.2.1).length+1)*16≤140737488355328) &&
 decide ((List.map Sy.str.enc s4.2.1).length+1≤140737488355328))
 (aC (decide (y5.1.2.1=1))
 (bA Sy.str
 (List.map Sy.str.enc s4.2.1++[[T.v (.string s4.1)]])
 fun (y6:List ByteArray)=>X2 (y6,true,()))
 (bA Sy.str
 (List.map Sy.str.enc s4.2.1++[[T.v (.string s4.1)]])
 fun (y7:List ByteArray) =>
 X3 (y5.1.2.2,y7,IntKind.i64.wrap (s4.2.2.1+1),())))))
 (X2 ([],false,())))
 (y1.1.2.2.2.1,[],0,()))
 fun (s8:List ByteArray×Bool×PUnit) =>
 bE (List ByteArray×Int×PUnit)
 (fun (X9:List ByteArray×Int×PUnit→Prop) (s10:List ByteArray×Int×PUnit) =>
 aC (decide (s10.2.1<(↑(List.map Sy.str.enc s8.1).length:Int)))
 (aZ Sy.str (List.map Sy.str.enc s8.1)
 (IntKind.i64.wrap
 (IntKind.i64.wrap ((↑(List.map Sy.str.enc s8.1).length:Int)-1)-s10.2.1))
 fun (y11:ByteArray) =>
 oU Sy.str (List.map Sy.str.enc s8.1)
 (IntKind.i64.wrap
 (IntKind.i64.wrap ((↑(List.map Sy.str.enc s8.1).length:Int)-1) -
 s10.2.1)).toNat
 0 fun (y12:ByteArray) =>
 bS
 (decide (((List.map Sy.str.enc s10.1).length+1)*16≤140737488355328) &&
 decide ((List.map Sy.str.enc s10.1).length+1≤140737488355328))
 (bA Sy.str
 (List.map Sy.str.enc s10.1++[[T.v (.string y12)]])
 fun (y13:List ByteArray)=>X9 (y13,IntKind.i64.wrap (s10.2.1+1),())))
 (R (T.sl false (List.map Sy.str.enc s10.1))))
 ([],0,())))
 (oQ (List ByteArray×Bool×PUnit)
 (fun (X14:List ByteArray×Bool×PUnit→Prop) =>
 bE (ByteArray×List ByteArray×Int×PUnit)
 (fun (X15:ByteArray×List ByteArray×Int×PUnit→Prop)
 (s16:ByteArray×List ByteArray×Int×PUnit) =>
 aC (decide (s16.2.2.1<65))
 (aH [(true,eZ),(false,Sy.bool)]
 (jE [aB true aL a0,T.v (.string s16.1)])
 fun (y17:mU×Bool) =>
 aC (!y17.2) (X14 ([],false,()))
 (bS
 (decide (((List.map Sy.str.enc s16.2.1).length+1)*16≤140737488355328) &&
 decide ((List.map Sy.str.enc s16.2.1).length+1≤140737488355328))
 (aC (decide (y17.1.2.1=1))
 (bA Sy.str
 (List.map Sy.str.enc s16.2.1++[[T.v (.string s16.1)]])
 fun (y18:List ByteArray)=>X14 (y18,true,()))
 (bA Sy.str
 (List.map Sy.str.enc s16.2.1++[[T.v (.string s16.1)]])
 fun (y19:List ByteArray) =>
 X15 (y17.1.2.2,y19,IntKind.i64.wrap (s16.2.2.1+1),())))))
 (X14 ([],false,())))
 (a1,[],0,()))
 fun (s20:List ByteArray×Bool×PUnit) =>
 bE (List ByteArray×Int×PUnit)
 (fun (X21:List ByteArray×Int×PUnit→Prop) (s22:List ByteArray×Int×PUnit) =>
 aC (decide (s22.2.1<(↑(List.map Sy.str.enc s20.1).length:Int)))
 (aZ Sy.str (List.map Sy.str.enc s20.1)
 (IntKind.i64.wrap
 (IntKind.i64.wrap ((↑(List.map Sy.str.enc s20.1).length:Int)-1)-s22.2.1))
 fun (y23:ByteArray) =>
 oU Sy.str (List.map Sy.str.enc s20.1)
 (IntKind.i64.wrap
 (IntKind.i64.wrap ((↑(List.map Sy.str.enc s20.1).length:Int)-1)-s22.2.1)).toNat
 0 fun (y24:ByteArray) =>
 bS
 (decide (((List.map Sy.str.enc s22.1).length+1)*16≤140737488355328) &&
 decide ((List.map Sy.str.enc s22.1).length+1≤140737488355328))
 (bA Sy.str (List.map Sy.str.enc s22.1++[[T.v (.string y24)]])
 fun (y25:List ByteArray)=>X21 (y25,IntKind.i64.wrap (s22.2.1+1),())))
 (R (T.sl false (List.map Sy.str.enc s22.1))))
 ([],0,()))
theorem ADQ ( a0 a1 R):bD aX Tryz.prog QY AHI 8 20 [aB true aL a0,aB false Sy.str a1] R=RQ a0 a1 R:=by kernel_rfl
abbrev HH:Sh:=[(true,aL),(false,Sy.str)]
abbrev G7:Sh:=[(false,Sy.str.li)]
theorem T5 (y:Sh.den G7) (K:Sh.den G7→Prop):aH G7 (some (Sh.enc G7 y)) K=K y:=fJ rfl y K
noncomputable def uM:List T→Option (T):=gS HH qD
theorem AFJ {a0 a1}:uM [aB true aL a0,T.v (.string a1)]=qD (a0,a1):=aT (s:=HH) rfl (a0,a1) rfl
theorem ARH (h:∀ a0 a1 r,qD (a0,a1)=some r→bU HH (a0,a1)→RQ a0 a1 (fun y=>y=r)):aJ Tryz.prog 20 uM :=
 aN (E:=QY) (Hs:=AHI) AJC aU aV (aK rfl) 8 ⟨_,_,Tryz.func20,rfl⟩ rfl fun x r h1 h2=>by
  obtain ⟨a0,a1⟩:=x
  rw[show Sh.bI HH (a0,a1)=[aB true aL a0,aB false Sy.str a1] from rfl,ADQ]
  exact h a0 a1 r h1 h2
theorem AE8 {ls:List ByteArray} (hl:ls.length≤65) {R:T→Prop} (hR:R (T.sl false (List.map Sy.str.enc ls.reverse))):bE (List ByteArray×Int×PUnit)
      (fun (X9:List ByteArray×Int×PUnit→Prop) (s10:List ByteArray×Int×PUnit) =>
       aC (decide (s10.2.1<(↑(List.map Sy.str.enc ls).length:Int)))
        (aZ Sy.str (List.map Sy.str.enc ls)
         (IntKind.i64.wrap
          (IntKind.i64.wrap ((↑(List.map Sy.str.enc ls).length:Int)-1)-s10.2.1))
         fun (y11:ByteArray) =>
         oU Sy.str (List.map Sy.str.enc ls)
          (IntKind.i64.wrap
            (IntKind.i64.wrap ((↑(List.map Sy.str.enc ls).length:Int)-1) -
             s10.2.1)).toNat
          0 fun (y12:ByteArray) =>
          bS
           (decide (1=1)&&fR 1 [[T.v (.string y12)]] &&
             decide
              (((List.map Sy.str.enc s10.1).length +
                 [[T.v (.string y12)].reverse].reverse.length) *
                16 ≤
               140737488355328) &&
            decide
             ((List.map Sy.str.enc s10.1).length +
               [[T.v (.string y12)].reverse].reverse.length ≤
              140737488355328))
           (bA Sy.str
            (List.map Sy.str.enc s10.1++[[T.v (.string y12)]])
            fun (y13:List ByteArray)=>X9 (y13,IntKind.i64.wrap (s10.2.1+1),())))
        (R (T.sl false (List.map Sy.str.enc s10.1))))
      ([],0,()):=by
 refine aR ls.length (fun k s=>s=(ls.reverse.take k,(k:Int),())) (by simp) ?_
 rintro X k s hk rfl hX
 by_cases hlt:k<ls.length
 ·have h1:decide ((k:Int)<((List.map Sy.str.enc ls).length:Int))=true:=by simp;omega
  have e:IntKind.i64.wrap (IntKind.i64.wrap (((List.map Sy.str.enc ls).length:Int)-1)-k)=((ls.length-1-k:Nat):Int):=by
   rw[List.length_map,aO ((ls.length:Int)-1) (by omega) (by omega),aO _ (by omega) (by omega)];omega
  have hlt2:ls.length-1-k<ls.length:=by omega
  dsimp only
  rw[h1,e,a7 (r:=.str) hlt2,Int.toNat_natCast,p8 (r:=.str) hlt2,AHR (by simp;omega),eU,cH]
  refine hX _ hlt ?_
  have hg:ls.reverse.take (k+1)=ls.reverse.take k++[ls[ls.length-1-k]]:=by
   rw[List.take_succ_eq_append_getElem (by simpa using hlt)]
   simp
  rw[hg]
  simp only[Prod.mk.injEq,and_true,true_and]
  exact aO _ (by omega) (by omega)
 ·have:k=ls.length:=by omega
  subst this
  have h1:decide ((ls.length:Int)<((List.map Sy.str.enc ls).length:Int))=false:=by simp
  simp only[h1,cO]
  rw[List.take_of_length_le (by simp)]
  exact hR
theorem APU:aJ Tryz.prog 20 uM:=ARH fun d id r h hb=>by
 have h':oS d (Sh.enc nX (l7 d id))=some r:=h
 obtain ⟨hok,rfl⟩:=pY h'
 clear h h'
 unfold RQ
 simp only[D3,iE,ABB,w7,qC,lC,hok,AY]
 have key:∀ id0,l7 d id=(up d id0).1.reverse→oQ (List ByteArray×Bool×PUnit)
   (fun (X14:List ByteArray×Bool×PUnit→Prop) =>
    bE (ByteArray×List ByteArray×Int×PUnit)
     (fun (X15:ByteArray×List ByteArray×Int×PUnit→Prop)
       (s16:ByteArray×List ByteArray×Int×PUnit) =>
      aC (decide (s16.2.2.1<65))
        (aC (!(found yA (fA d s16.1)).2) (X14 ([],false,()))
         (bS
          (decide (1=1)&&fR 1 [[T.v (.string s16.1)]] &&
            decide
             (((List.map Sy.str.enc s16.2.1).length +
                [[T.v (.string s16.1)].reverse].reverse.length) *
               16 ≤
              140737488355328) &&
           decide
            ((List.map Sy.str.enc s16.2.1).length +
              [[T.v (.string s16.1)].reverse].reverse.length ≤
             140737488355328))
          (aC (decide ((found yA (fA d s16.1)).1.2.1=1))
           (bA Sy.str
            (List.map Sy.str.enc s16.2.1++[[T.v (.string s16.1)]])
            fun (y18:List ByteArray)=>X14 (y18,true,()))
           (bA Sy.str
            (List.map Sy.str.enc s16.2.1++[[T.v (.string s16.1)]])
            fun (y19:List ByteArray) =>
            X15 ((found yA (fA d s16.1)).1.2.2,y19,IntKind.i64.wrap (s16.2.2.1+1),())))))
       (X14 ([],false,())))
     (id0,[],0,()))
   fun (s20:List ByteArray×Bool×PUnit) =>
   bE (List ByteArray×Int×PUnit)
    (fun (X21:List ByteArray×Int×PUnit→Prop) (s22:List ByteArray×Int×PUnit) =>
     aC (decide (s22.2.1<(↑(List.map Sy.str.enc s20.1).length:Int)))
      (aZ Sy.str (List.map Sy.str.enc s20.1)
       (IntKind.i64.wrap
        (IntKind.i64.wrap ((↑(List.map Sy.str.enc s20.1).length:Int)-1)-s22.2.1))
       fun (y23:ByteArray) =>
       oU Sy.str (List.map Sy.str.enc s20.1)
        (IntKind.i64.wrap
          (IntKind.i64.wrap ((↑(List.map Sy.str.enc s20.1).length:Int)-1)-s22.2.1)).toNat
        0 fun (y24:ByteArray) =>
        bS
         (decide (1=1)&&fR 1 [[T.v (.string y24)]] &&
           decide
            (((List.map Sy.str.enc s22.1).length +
               [[T.v (.string y24)].reverse].reverse.length) *
              16 ≤
             140737488355328) &&
          decide
           ((List.map Sy.str.enc s22.1).length +
             [[T.v (.string y24)].reverse].reverse.length ≤
            140737488355328))
         (bA Sy.str (List.map Sy.str.enc s22.1++[[T.v (.string y24)]])
          fun (y25:List ByteArray)=>X21 (y25,IntKind.i64.wrap (s22.2.1+1),())))
      (T.sl false (List.map Sy.str.enc s22.1)=Sh.enc nX (l7 d id)))
    ([],0,()):=by
  intro id0 hpath
  rw[pX,hpath]
  refine aR 65 (fun k s=>∃ id' l',s=(id',l',(k:Int),())∧l'.length=k∧upF d (65-k) id' l'=up d id0) ⟨id0,[],rfl,rfl,rfl⟩ ?_
  rintro X k s hk ⟨id',l',rfl,hl,hu⟩ hX
  dsimp only
  have fin:∀ ls b,(ls,b)=up d id0→_:=fun ls b e=>AE8 (ls:=ls) (by rw[show ls=(up d id0).1 by rw[←e]];exact M1 d id0) (R:=fun y=>y=Sh.enc nX (up d id0).1.reverse) (by rw[←e];rfl)
  by_cases hlt:k<65
  ·have h1:decide ((k:Int)<65)=true:=by simp;omega
   obtain ⟨m,hm⟩:∃ m,65-k=m+1:=⟨64-k,by omega⟩
   rw[hm] at hu
   simp only[upF] at hu
   rw[h1,cH,AHR (by omega),eU,eU]
   cases hn:fA d id' with
   | none=>simp only[hn] at hu;simp only[found,Bool.not_false,cH];exact fin _ _ hu
   | some x =>
    simp only[hn] at hu
    simp only[found,Bool.not_true,cO]
    by_cases hx:x.2.1=1
    ·rw[if_pos hx] at hu
     simp only[hx,decide_true,cH]
     exact fin _ _ hu
    ·rw[if_neg hx] at hu
     simp only[hx,decide_false,cO]
     refine hX _ hlt ⟨x.2.2,l'++[id'],?_,by simp[hl],by rw[←hu];congr 1;omega⟩
     simp only[Prod.mk.injEq,and_true,true_and]
     exact aO _ (by omega) (by omega)
  ·have h1:decide ((k:Int)<65)=false:=by simp;omega
   have:65-k=0:=by omega
   rw[this] at hu
   rw[h1,cO]
   exact fin _ _ hu
 cases hn:fA d id with
 | some x =>
  simp only[found,Bool.not_true,cO]
  exact key id (by simp[l7,hn])
 | none =>
  simp only[found,Bool.not_false,cH]
  cases hp:partOf d id with
  | none=>simp only[Bool.not_false,cH];simp[l7,hn,hp,Sh.enc,aB,Sy.enc,PG]
  | some p =>
   simp only[Bool.not_true,cO]
   exact key (GI p) (by simp[l7,hn,hp])
end Go.Pv
namespace Go.Pv
open Go Go.Proofs
def comm:List ByteArray→List ByteArray→List ByteArray
 | x::a,y::b=>if x=y then x::comm a b else []
 | _,_=>[]
def oV (a b:List ByteArray):Bool:=decide (0<a.length)&&decide (0<b.length)
abbrev T3:Sh:=[(false,.li .str),(false,.li .str),(false,.bool)]
def ES (x:List ByteArray×List ByteArray):Option T:=some (Sh.enc nX (comm x.1 x.2))
def QM (d:aQ) (s:b8):List ByteArray:=comm (pathOf d s.2.1) (pathOf d s.2.2.1)
def nW (d:aQ) (s:b8):Bool:=oV (pathOf d s.2.1) (pathOf d s.2.2.1)
def oY (x:aQ×b8):Option T:=oS x.1 (Sh.enc P4 (QM x.1 x.2,nW x.1 x.2))
def HQ (x:aQ×b8):Option T:=oS x.1 (Sh.enc T3 (pathOf x.1 x.2.2.1,pathOf x.1 x.2.2.2.1,nW x.1 x.2))
def last (l:List ByteArray):ByteArray:=l.getLastD ⟨#[]⟩
theorem OT:∀ {a b:List ByteArray},(comm a b).length≤a.length∧(comm a b).length≤b.length
 | [],b=>by simp[comm]
 | x::a,[]=>by simp[comm]
 | x::a,y::b=>by
  simp only[comm]
  have:=OT (a:=a) (b:=b)
  split<;>simp<;>omega
theorem YJ {a b:List ByteArray} (h:oV a b=false):comm a b=[]:=by
 cases a with
 | nil=>simp[comm]
 | cons x a=>cases b with
  | nil=>simp[comm]
  | cons y b=>simp[oV] at h
theorem OU {a b:List ByteArray} {k:Nat} (h:comm a b=a.take k++comm (a.drop k) (b.drop k)) :
  (∀ (ha:k<a.length) (hb:k<b.length),a[k]=b[k]→comm a b=a.take (k+1)++comm (a.drop (k+1)) (b.drop (k+1))) ∧
  (∀ (ha:k<a.length) (hb:k<b.length),a[k]≠b[k]→comm a b=a.take k)∧(¬ (k<a.length∧k<b.length)→comm a b=a.take k):=by
 refine ⟨fun ha hb e=>?_,fun ha hb e=>?_,fun hn=>?_⟩
 ·rw[h,List.drop_eq_getElem_cons ha,List.drop_eq_getElem_cons hb,comm,if_pos e,List.take_succ_eq_append_getElem ha,List.append_assoc];rfl
 ·rw[h,List.drop_eq_getElem_cons ha,List.drop_eq_getElem_cons hb,comm,if_neg e,List.append_nil]
 ·rw[h]
  by_cases ha:k<a.length
  ·rw[List.drop_eq_nil_of_le (show b.length≤k by omega)]
   cases a.drop k<;>simp[comm]
  ·rw[List.drop_eq_nil_of_le (show a.length≤k by omega)]
   simp[comm]
theorem AM4 (d:aQ) (id:ByteArray):(l7 d id).length≤65:=by
 unfold l7
 cases fA d id with
 | some x=>simpa using M1 d id
 | none=>cases partOf d id with
  | none=>simp
  | some p=>simpa using M1 d (GI p)
theorem L7 (d:aQ) (id:ByteArray):(pathOf d id).length≤65:=by
 unfold pathOf;cases partOf d id with
 | none=>simp
 | some p=>exact AM4 d (GI p)
theorem AGN (l:List ByteArray):kQ 1 (List.map Sy.str.enc l)=true:=by cases l<;>rfl
theorem P3 (y:List ByteArray) (K:List ByteArray→Prop):aH nX (some (Sh.enc nX y)) K=K y:=fJ (s:=nX) rfl y K
noncomputable def ID:Env:=Env.of [(34,.pure fK),(162,.pure mN)]
def W5:FuncId→Hint:=fun _=>aS
theorem ACR:aF Tryz.prog ID:=aF.cons (x:=.pure fK) DW (aF.cons (x:=.pure mN) AEY (aF.nil _))
def JI (a0:aQ) (a1:ByteArray) (R:T→Prop):Prop :=
 aH [(true,aP),(false,Sy.bool)]
 (fK [aB true aL a0,T.v (.string a1)]) fun (y0:bC×Bool) =>
 aC (!y0.2) (R (T.sl false []))
 (aH [(false,Sy.str.li)]
 (mN [aB true aL a0,T.v (.string y0.1.2.2.2.1)])
 fun (y1:List ByteArray)=>R (T.sl false (List.map Sy.str.enc y1)))
theorem V2 ( a0 a1 R):bD aX Tryz.prog ID W5 8 130 [aB true aL a0,aB false Sy.str a1] R=JI a0 a1 R:=by kernel_rfl
abbrev BI:Sh:=[(true,aL),(false,Sy.str)]
noncomputable def nH:List T→Option (T):=gS BI vL
theorem ZO {a0 a1}:nH [aB true aL a0,T.v (.string a1)]=vL (a0,a1):=aT (s:=BI) rfl (a0,a1) rfl
theorem AME (h:∀ a0 a1 r,vL (a0,a1)=some r→bU BI (a0,a1)→JI a0 a1 (fun y=>y=r)):aJ Tryz.prog 130 nH :=
 aN (E:=ID) (Hs:=W5) ACR aU aV (aK rfl) 8 ⟨_,_,Tryz.func130,rfl⟩ rfl fun x r h1 h2=>by
  obtain ⟨a0,a1⟩:=x
  rw[show Sh.bI BI (a0,a1)=[aB true aL a0,aB false Sy.str a1] from rfl,V2]
  exact h a0 a1 r h1 h2
theorem AKV:aJ Tryz.prog 130 nH:=AME fun d id r h hb=>by
 have h':oS d (Sh.enc nX (pathOf d id))=some r:=h
 obtain ⟨hok,rfl⟩:=pY h'
 unfold JI
 simp only[sR,kV,lC,wF,S4,rQ,qD,nS _ hok,L9]
 cases hp:partOf d id<;>simp[found,pathOf,hp,cH,cO,Sh.enc,aB,Sy.enc,PG]
noncomputable def AB4:Env:=Env.of [(27,.pure iB),(20,.pure uM)]
def AOI:FuncId→Hint:=fun _=>aS
theorem ANY:aF Tryz.prog AB4:=aF.cons (x:=.pure iB) K9 (aF.cons (x:=.pure uM) APU (aF.nil _))
def ADP (a0:aQ) (a1:ByteArray) (R:T→Prop):Prop :=
 aH [(true,aP),(false,Sy.bool)]
 (iB [aB true aL a0,T.v (.string a1)]) fun (y0:bC×Bool) =>
 aC (!y0.2) (R (T.sl false []))
 (aH [(false,Sy.str.li)]
 (uM [aB true aL a0,T.v (.string y0.1.2.2.2.1)])
 fun (y1:List ByteArray)=>R (T.sl false (List.map Sy.str.enc y1)))
theorem AJO ( a0 a1 R):bD aX Tryz.prog AB4 AOI 8 119 [aB true aL a0,aB false Sy.str a1] R=ADP a0 a1 R:=by kernel_rfl
abbrev UF:Sh:=[(true,aL),(false,Sy.str)]
noncomputable def w8:List T→Option (T):=gS UF vK
theorem ALF {a0 a1}:w8 [aB true aL a0,T.v (.string a1)]=vK (a0,a1):=aT (s:=UF) rfl (a0,a1) rfl
theorem AUK (h:∀ a0 a1 r,vK (a0,a1)=some r→bU UF (a0,a1)→ADP a0 a1 (fun y=>y=r)):aJ Tryz.prog 119 w8 :=
 aN (E:=AB4) (Hs:=AOI) ANY aU aV (aK rfl) 8 ⟨_,_,Tryz.func119,rfl⟩ rfl fun x r h1 h2=>by
  obtain ⟨a0,a1⟩:=x
  rw[show Sh.bI UF (a0,a1)=[aB true aL a0,aB false Sy.str a1] from rfl,AJO]
  exact h a0 a1 r h1 h2
theorem ATM:aJ Tryz.prog 119 w8:=AUK fun d id r h hb=>by
 have h':oS d (Sh.enc nX (pathOf d id))=some r:=h
 obtain ⟨hok,rfl⟩:=pY h'
 unfold ADP
 simp only[w7,qC,lC,hok,AY,AFJ,qD,nS _ hok,T5]
 cases hp:partOf d id<;>simp[found,pathOf,hp,cH,cO,Sh.enc,aB,Sy.enc,PG]
noncomputable def HX:Env:=Env.of []
def WR:FuncId→Hint:=fun f=>match f == 68 with|true=>⟨fun r=>match r == 2 with|true=>.inv [.val 5 false (.int .i64)]|false=>.none,fun _ _=>none,fun _=>none⟩|false=>aS
theorem ACC:aF Tryz.prog HX:=aF.nil _
def I3 (a0:List ByteArray) (a1:List ByteArray) (R:T→Prop):Prop :=
 bE (Int×PUnit)
 (fun (X0:Int×PUnit→Prop) (s1:Int×PUnit) =>
 aC (decide (s1.1<(↑(List.map Sy.str.enc a0).length:Int)))
 (aC (decide (s1.1<(↑(List.map Sy.str.enc a1).length:Int)))
 (aZ Sy.str (List.map Sy.str.enc a0) s1.1 fun (y2:ByteArray) =>
 aZ Sy.str (List.map Sy.str.enc a1) s1.1 fun (y3:ByteArray) =>
 aC (decide (y2=y3)) (X0 (IntKind.i64.wrap (s1.1+1),()))
 (bS
 (kQ 1 (List.map Sy.str.enc a0) &&
 (decide (0≤s1.1)&&decide (Int.toNat s1.1≤(List.map Sy.str.enc a0).length)) &&
 true)
 (R (T.sl false (List.drop 0 (List.take (Int.toNat s1.1) (List.map Sy.str.enc a0)))))))
 (bS
 (kQ 1 (List.map Sy.str.enc a0) &&
 (decide (0≤s1.1)&&decide (Int.toNat s1.1≤(List.map Sy.str.enc a0).length)) &&
 true)
 (R (T.sl false (List.drop 0 (List.take (Int.toNat s1.1) (List.map Sy.str.enc a0)))))))
 (bS
 (kQ 1 (List.map Sy.str.enc a0) &&
 (decide (0≤s1.1)&&decide (Int.toNat s1.1≤(List.map Sy.str.enc a0).length)) &&
 true)
 (R (T.sl false (List.drop 0 (List.take (Int.toNat s1.1) (List.map Sy.str.enc a0)))))))
 (0,())
theorem VO ( a0 a1 R):bD aX Tryz.prog HX WR 8 68 [aB false Sy.str.li a0,aB false Sy.str.li a1] R=I3 a0 a1 R:=by kernel_rfl
abbrev A5:Sh:=[(false,Sy.str.li),(false,Sy.str.li)]
noncomputable def pK:List T→Option (T):=gS A5 ES
theorem ZA {a0 a1}:pK [T.sl false (List.map Sy.str.enc a0),T.sl false (List.map Sy.str.enc a1)]=ES (a0,a1):=aT (s:=A5) rfl (a0,a1) rfl
theorem AL0 (h:∀ a0 a1 r,ES (a0,a1)=some r→bU A5 (a0,a1)→I3 a0 a1 (fun y=>y=r)):aJ Tryz.prog 68 pK :=
 aN (E:=HX) (Hs:=WR) ACC aU aV (aK rfl) 8 ⟨_,_,Tryz.func68,rfl⟩ rfl fun x r h1 h2=>by
  obtain ⟨a0,a1⟩:=x
  rw[show Sh.bI A5 (a0,a1)=[aB false Sy.str.li a0,aB false Sy.str.li a1] from rfl,VO]
  exact h a0 a1 r h1 h2
theorem AKL:aJ Tryz.prog 68 pK:=AL0 fun a b r h hb=>by
 have h':some (Sh.enc nX (comm a b))=some r:=h
 cases h'
 clear h
 have hla:a.length≤2 ^ 47:=hb.1.1
 unfold I3
 refine aR a.length (fun k s=>s=((k:Int),())∧k≤a.length∧comm a b=a.take k++comm (a.drop k) (b.drop k)) ⟨rfl,by omega,by simp⟩ ?_
 rintro X k s hk ⟨rfl,hka,hc⟩ hX
 have hreq:∀ K:Prop,bS (kQ 1 (List.map Sy.str.enc a)&&(decide (0≤(k:Int))&&decide (Int.toNat (k:Int)≤(List.map Sy.str.enc a).length))&&true) K=K:=fun K=>by
  have e:(kQ 1 (List.map Sy.str.enc a)&&(decide (0≤(k:Int))&&decide (Int.toNat (k:Int)≤(List.map Sy.str.enc a).length))&&true)=true:=by
   rw[show kQ 1 (List.map Sy.str.enc a)=true from AGN a];simp[hka]
  rw[e];simp[bS]
 obtain ⟨c1,c2,c3⟩:=OU hc
 have res:comm a b=a.take k→T.sl false (List.drop 0 (List.take (Int.toNat (k:Int)) (List.map Sy.str.enc a)))=Sh.enc nX (comm a b):=fun e=>by
  rw[e];simp[Sh.enc,aB,Sy.enc,PG,List.map_take]
 dsimp only
 rw[hreq]
 simp only[List.length_map,o9]
 by_cases ha:k<a.length
 ·by_cases hb:k<b.length
  ·simp only[ha,hb,decide_true,cH,a7 (r:=.str) ha,a7 (r:=.str) hb]
   by_cases e:a[k]=b[k]
   ·simp only[e,decide_true,cH]
    refine hX _ ha ⟨?_,ha,c1 ha hb e⟩
    simp only[Prod.mk.injEq,and_true,true_and]
    exact aO _ (by omega) (by omega)
   ·simp only[e,decide_false,cO]
    exact res (c2 ha hb e)
  ·simp only[ha,hb,decide_true,decide_false,cH,cO]
   exact res (c3 fun h=>hb h.2)
 ·simp only[ha,decide_false,cO]
  exact res (c3 fun h=>ha h.1)
noncomputable def wJ:Env:=Env.of [(130,.pure nH)]
def J4:FuncId→Hint:=fun f=>match f == 75 with|true=>⟨fun r=>match r == 4 with|true=>.inv [.own 8 1 .str,.val 9 false (.int .i64)]|false=>.none,fun _ _=>none,fun _=>none⟩|false=>aS
theorem Q5:aF Tryz.prog wJ:=aF.cons (x:=.pure nH) AKV (aF.nil _)
def wP (a0:aQ) (a1:b8) (R:T→Prop):Prop :=
 aH [(false,Sy.str.li)]
 (nH [aB true aL a0,T.v (.string a1.2.1)])
 fun (y0:List ByteArray) =>
 aH [(false,Sy.str.li)]
 (nH [aB true aL a0,T.v (.string a1.2.2.1)])
 fun (y1:List ByteArray) =>
 bE (List ByteArray×Int×PUnit)
 (fun (X2:List ByteArray×Int×PUnit→Prop) (s3:List ByteArray×Int×PUnit) =>
 aC (decide (s3.2.1<(↑(List.map Sy.str.enc y0).length:Int)))
 (aC (decide (s3.2.1<(↑(List.map Sy.str.enc y1).length:Int)))
 (aZ Sy.str (List.map Sy.str.enc y0) s3.2.1 fun (y4:ByteArray) =>
 aZ Sy.str (List.map Sy.str.enc y1) s3.2.1 fun (y5:ByteArray) =>
 aC (decide (y4=y5))
 (aZ Sy.str (List.map Sy.str.enc y0) s3.2.1 fun (y6:ByteArray) =>
 bS
 (decide (((List.map Sy.str.enc s3.1).length+1)*16≤140737488355328) &&
 decide ((List.map Sy.str.enc s3.1).length+1≤140737488355328))
 (bA Sy.str (List.map Sy.str.enc s3.1++[[T.v (.string y6)]])
 fun (y7:List ByteArray)=>X2 (y7,IntKind.i64.wrap (s3.2.1+1),())))
 (aC (decide (0<(↑(List.map Sy.str.enc y0).length:Int)))
 (R
 (T.bX
 [T.sl false (List.map Sy.str.enc s3.1),
 T.v (.bool (decide (0<(↑(List.map Sy.str.enc y1).length:Int))))]))
 (R
 (T.bX
 [T.sl false (List.map Sy.str.enc s3.1),T.v (.bool false)]))))
 (aC (decide (0<(↑(List.map Sy.str.enc y0).length:Int)))
 (R
 (T.bX
 [T.sl false (List.map Sy.str.enc s3.1),
 T.v (.bool (decide (0<(↑(List.map Sy.str.enc y1).length:Int))))]))
 (R (T.bX [T.sl false (List.map Sy.str.enc s3.1),T.v (.bool false)]))))
 (aC (decide (0<(↑(List.map Sy.str.enc y0).length:Int)))
 (R
 (T.bX
 [T.sl false (List.map Sy.str.enc s3.1),
 T.v (.bool (decide (0<(↑(List.map Sy.str.enc y1).length:Int))))]))
 (R (T.bX [T.sl false (List.map Sy.str.enc s3.1),T.v (.bool false)]))))
 ([],0,())
theorem NA ( a0 a1 R):bD aX Tryz.prog wJ J4 8 75 [aB true aL a0,aB true cR a1] R=wP a0 a1 R:=by kernel_rfl
abbrev rK:Sh:=[(true,aL),(true,cR)]
noncomputable def kG:List T→Option (T):=gS rK oY
theorem NN {a0 a1}:kG [aB true aL a0,aB true cR a1]=oY (a0,a1):=aT (s:=rK) rfl (a0,a1) rfl
theorem AAY (h:∀ a0 a1 r,oY (a0,a1)=some r→bU rK (a0,a1)→wP a0 a1 (fun y=>y=r)):aJ Tryz.prog 75 kG :=
 aN (E:=wJ) (Hs:=J4) Q5 aU aV (aK rfl) 8 ⟨_,_,Tryz.func75,rfl⟩ rfl fun x r h1 h2=>by
  obtain ⟨a0,a1⟩:=x
  rw[show Sh.bI rK (a0,a1)=[aB true aL a0,aB true cR a1] from rfl,NA]
  exact h a0 a1 r h1 h2
theorem YW:aJ Tryz.prog 75 kG:=AAY fun d sm r h hb=>by
 have h':oS d (Sh.enc P4 (QM d sm,nW d sm))=some r:=h
 obtain ⟨hok,rfl⟩:=pY h'
 clear h h'
 unfold wP
 simp only[ZO,vL,vK,nS _ hok,P3]
 unfold QM nW
 have hla:=L7 d sm.2.1
 generalize pathOf d sm.2.1=a at *
 generalize pathOf d sm.2.2.1=b at *
 refine aR a.length (fun k s=>s=(a.take k,(k:Int),())∧k≤a.length∧comm a b=a.take k++comm (a.drop k) (b.drop k)) ⟨rfl,by omega,by simp⟩ ?_
 rintro X k s hk ⟨rfl,hka,hc⟩ hX
 obtain ⟨c1,c2,c3⟩:=OU hc
 dsimp only
 have res:comm a b=a.take k→aC (decide (0<((List.map Sy.str.enc a).length:Int)))
       (T.bX [T.sl false (List.map Sy.str.enc (List.take k a)),T.v (.bool (decide (0<((List.map Sy.str.enc b).length:Int))))]=Sh.enc P4 (comm a b,oV a b))
       (T.bX [T.sl false (List.map Sy.str.enc (List.take k a)),T.v (.bool false)]=Sh.enc P4 (comm a b,oV a b)):=fun e=>by
  rw[e,pV]
  by_cases h1:0<a.length<;>simp[h1,oV,Sh.enc,Sh.bI,aB,Sy.enc,PG]
 simp only[o9,List.length_map] at res ⊢
 by_cases ha:k<a.length
 ·by_cases hb:k<b.length
  ·simp only[ha,hb,decide_true,cH,a7 (r:=.str) ha,a7 (r:=.str) hb]
   by_cases e:a[k]=b[k]
   ·have hr:=qO (l:=a.take k) (by simp;omega)
    simp only[List.length_map] at hr
    simp only[decide_eq_true e,cH,hr]
    rw[eU]
    refine hX _ ha ⟨?_,ha,c1 ha hb e⟩
    simp only[Prod.mk.injEq,and_true,true_and]
    exact ⟨(List.take_succ_eq_append_getElem ha).symm,aO _ (by omega) (by omega)⟩
   ·simp only[decide_eq_false e,cO]
    exact res (c2 ha hb e)
  ·simp only[ha,hb,decide_true,decide_false,cH,cO]
   exact res (c3 fun h=>hb h.2)
 ·simp only[ha,decide_false,cO]
  exact res (c3 fun h=>ha h.1)
noncomputable def AB9:Env:=Env.of [(119,.pure w8)]
def AON:FuncId→Hint:=fun _=>aS
theorem AN3:aF Tryz.prog AB9:=aF.cons (x:=.pure w8) ATM (aF.nil _)
def AD1 (a0:aQ) (a1:b8) (R:T→Prop):Prop :=
 aH [(false,Sy.str.li)]
 (w8 [aB true aL a0,T.v (.string a1.2.1)]) fun (y0:List ByteArray) =>
 aH [(false,Sy.str.li)]
 (w8 [aB true aL a0,T.v (.string a1.2.2.1)])
 fun (y1:List ByteArray) =>
 aC (decide (0<(↑(List.map Sy.str.enc y0).length:Int)))
 (R
 (T.bX
 [T.sl false (List.map Sy.str.enc y0),T.sl false (List.map Sy.str.enc y1),
 T.v (.bool (decide (0<(↑(List.map Sy.str.enc y1).length:Int))))]))
 (R
 (T.bX
 [T.sl false (List.map Sy.str.enc y0),T.sl false (List.map Sy.str.enc y1),
 T.v (.bool false)]))
theorem AJT ( a0 a1 R):bD aX Tryz.prog AB9 AON 8 66 [aB true aL a0,aB true cR a1] R=AD1 a0 a1 R:=by kernel_rfl
abbrev UK:Sh:=[(true,aL),(true,cR)]
noncomputable def D5:List T→Option (T):=gS UK HQ
theorem ALJ {a0 a1}:D5 [aB true aL a0,aB true cR a1]=HQ (a0,a1):=aT (s:=UK) rfl (a0,a1) rfl
theorem AUP (h:∀ a0 a1 r,HQ (a0,a1)=some r→bU UK (a0,a1)→AD1 a0 a1 (fun y=>y=r)):aJ Tryz.prog 66 D5 :=
 aN (E:=AB9) (Hs:=AON) AN3 aU aV (aK rfl) 8 ⟨_,_,Tryz.func66,rfl⟩ rfl fun x r h1 h2=>by
  obtain ⟨a0,a1⟩:=x
  rw[show Sh.bI UK (a0,a1)=[aB true aL a0,aB true cR a1] from rfl,AJT]
  exact h a0 a1 r h1 h2
theorem ATQ:aJ Tryz.prog 66 D5:=AUP fun d sm r h hb=>by
 have h':oS d (Sh.enc T3 (pathOf d sm.2.1,pathOf d sm.2.2.1,nW d sm))=some r:=h
 obtain ⟨hok,rfl⟩:=pY h'
 clear h h'
 unfold AD1
 simp only[ALF,vK,nS _ hok,P3]
 unfold nW
 generalize pathOf d sm.2.1=a at *
 generalize pathOf d sm.2.2.1=b at *
 rw[pV]
 by_cases h1:0<a.length<;>simp[h1,oV,Sh.enc,Sh.bI,aB,Sy.enc,PG]
theorem AVD (d:aQ) (sm:b8):(QM d sm).length≤65:=by
 have:=(OT (a:=pathOf d sm.2.1) (b:=pathOf d sm.2.2.1)).1
 have:=L7 d sm.2.1
 unfold QM;omega
end Go.Pv
namespace Go.Pv
open Go Go.RowKit Go.Proofs Go.Sort
def SK:List (List T)→Option (List Int)
 | []=>some []
 | [.v (.int .i64 i)]::r=>(SK r).map (i :: ·)
 | _=>none
theorem OW:∀ {rows:List (List T)} {l:List Int},SK rows=some l→rows=l.map fun a=>[.v (.int .i64 a)]
 | [],l,h=>by cases h;rfl
 | [.v (.int .i64 i)]::r,l,h=>by
  simp only[SK,Option.map_eq_some_iff] at h
  obtain ⟨l',h1,rfl⟩:=h
  rw[OW h1];rfl
theorem AO9 (l:List Int):SK (List.map (Sy.int .i64).enc l)=some l:=by
 induction l with
 | nil=>rfl
 | cons a l ih=>show (SK (List.map (Sy.int .i64).enc l)).map (a :: ·)=_;rw[ih];rfl
def QE (l:List Int):List Int:=l.mergeSort fun x y=>decide (x≤y)
def TE (rows:List (List T)):Option (List (List T)):=(SK rows).map fun l=>(QE l).map fun a=>[.v (.int .i64 a)]
theorem AP1:jW Tryz.prog 118 (FZ 1 TE) :=
 AM5 (fun a=>.int .i64 a) (fun _=>rfl) SK (fun _ _ h=>OW h) QE (fun l=>by simp[QE]) ⟨_,Tryz.func118,by kernel_rfl,by kernel_rfl⟩
  (fun bL cap zs w hH hb hs=>Any.slices_Sort_int Tryz.AIB bL 0 cap zs w hH hb hs) (fun p cap w=>Any.slices_Sort_int_none Tryz.AIB p cap w)
end Go.Pv
namespace Go.Pv
open Go Go.Proofs
def AR5 (s:bQ):Int:=if 1<IntKind.i64.wrap (s.2.1.tdiv s.2.2.1) then IntKind.i64.wrap (s.2.1.tdiv s.2.2.1) else 1
def tX (d:aQ) (m:aM) (id:ByteArray):Int×Bool :=
 match partOf d id with
 | none=>(0,false)
 | some p =>
  if AA7 p=1 then (AXL p,true)
  else if AA7 p=2∨AA7 p=3 then
   match l8 m (A0B p) with
   | none=>(0,false)
   | some s=>if s.2.2.1<1 then (0,false) else (AR5 s,true)
  else (0,decide (AA7 p=4))
def fitting (d:aQ) (id:ByteArray):Bool:=match partOf d id with
 | some p=>decide (AA7 p=4)
 | none=>false
def A0E (d:aQ) (m:aM) (id:ByteArray):Int×Bool :=
 match lY d id with
 | none=>(0,false)
 | some s =>
  if (tX d m s.2.1).2=true∧(tX d m s.2.2.1).2=true then
   if fitting d s.2.1=true then ((tX d m s.2.2.1).1,true)
   else if fitting d s.2.2.1=true then ((tX d m s.2.1).1,true)
   else (if (tX d m s.2.2.1).1<(tX d m s.2.1).1 then (tX d m s.2.2.1).1 else (tX d m s.2.1).1,true)
  else (0,false)
def sY (d:aQ) (n:Int):Bool:=decide ((d.2.1.length:Int)≤n)&&decide ((d.2.2.1.length:Int)≤n)&&decide ((d.2.2.2.1.length:Int)≤n)
end Go.Pv
namespace Go.Pv
open Go Go.Proofs
def AQ (d:aQ) (t:T):Option T:=match okD d&&sY d 100 with
 | true=>some t
 | false=>none
theorem AR {d:aQ} {t r:T} (h:AQ d t=some r):okD d=true∧sY d 100=true∧d.2.2.2.1.length≤100∧r=t:=by
 unfold AQ at h;split at h
 ·rename_i hc
  rw[Bool.and_eq_true] at hc
  cases h
  refine ⟨hc.1,hc.2,?_,rfl⟩
  have:=hc.2
  simp only[sY,Bool.and_eq_true,decide_eq_true_eq] at this
  omega
 ·cases h
theorem AS {d:aQ} (t:T) (h:okD d=true) (h2:sY d 100=true):AQ d t=some t:=by unfold AQ;rw[h,h2];rfl
def fN (d:aQ) (c:b8→Bool):List ByteArray:=(d.2.2.2.1.filter c).map fun s=>s.1
def DE (l:List b8) (c:b8→Bool) (k:Nat) (es:List (Int×ByteArray)):Prop:=es.map (fun e=>e.2)=((l.take k).filter c).map (fun s=>s.1)∧es.Pairwise (fun a b=>a.1<b.1)∧(∀ e∈es,e.1<(k:Int))∧es.length≤k
theorem DE.zero (l:List b8) (c:b8→Bool):DE l c 0 []:=⟨by simp,by simp,by simp,by simp⟩
theorem DE.no {l:List b8} {c:b8→Bool} {k:Nat} {es:List (Int×ByteArray)} (h:DE l c k es) (hk:k<l.length) (hc:c l[k]=false):DE l c (k+1) es :=
 ⟨by rw[h.1,List.take_succ_eq_append_getElem hk,List.filter_append];simp[hc],h.2.1,fun e he=>by have:=h.2.2.1 e he;omega,by have:=h.2.2.2;omega⟩
theorem DE.yes {l:List b8} {c:b8→Bool} {k:Nat} {es:List (Int×ByteArray)} (h:DE l c k es) (hk:k<l.length) (hc:c l[k]=true):DE l c (k+1) (es++[((k:Int),l[k].1)]) :=
 ⟨by rw[List.map_append,h.1,List.take_succ_eq_append_getElem hk,List.filter_append];simp[hc],List.pairwise_append.2 ⟨h.2.1,by simp,fun a ha b hb=>by simp at hb;subst hb;exact h.2.2.1 a ha⟩,fun e he=>by
  rcases List.mem_append.1 he with he|he
  ·have:=h.2.2.1 e he;omega
  ·simp at he;subst he;simp;omega,by have:=h.2.2.2;simp;omega⟩
theorem DE.new {l:List b8} {c:b8→Bool} {k:Nat} {es:List (Int×ByteArray)} (h:DE l c k es):∀ e∈es,e.1≠(k:Int):=fun e he=>by have:=h.2.2.1 e he;omega
theorem AQA {l:List b8} {c:b8→Bool} {k:Nat} {es:List (Int×ByteArray)} (h:DE l c k es) (hk:k<l.length) (hc:c l[k]=true) (K:List (Int×ByteArray)→Prop) (hK:K (es++[((k:Int),l[k].1)])) :
  TY (Option (Nat×D)) (findD (TypeDesc.int IntKind.i64) (Value.int IntKind.i64 (k:Int)) (List.map (dV (Sy.int IntKind.i64) false Sy.str) es) 0)
       fun (y4:Option (Nat×D)) =>
       lZ (Sy.int IntKind.i64) false Sy.str
        (iK (List.map (dV (Sy.int IntKind.i64) false Sy.str) es) y4
         (Value.int IntKind.i64 (k:Int)) (D.p (T.v (.string l[k].1)))) K:=by
 rw[show findD (TypeDesc.int IntKind.i64) (Value.int IntKind.i64 (k:Int)) (List.map (dV (Sy.int IntKind.i64) false Sy.str) es) 0=some none from K6 (r:=.str) h.new,PZ]
 rw[show iK (List.map (dV (Sy.int IntKind.i64) false Sy.str) es) none (Value.int IntKind.i64 (k:Int)) (D.p (T.v (.string l[k].1)))=List.map (eI .str) (es++[((k:Int),l[k].1)]) from ABJ (r:=.str) es k l[k].1]
 exact YN (r:=.str) rfl _ _ hK
theorem YG {es:List (Int×ByteArray)} (hl:es.length≤100) (hp:es.Pairwise (fun a b=>a.1<b.1)) {R:T→Prop} (hR:R (T.sl false (List.map Sy.str.enc (es.map fun e=>e.2)))) :
  bE (List Int×(Nat×List Nat×Nat)×PUnit)
     (fun (X9:List Int×(Nat×List Nat×Nat)×PUnit→Prop)
       (s10:List Int×(Nat×List Nat×Nat)×PUnit) =>
      bS
       (decide
         ((List.map (dV (Sy.int IntKind.i64) false Sy.str) es).length ≤
          s10.2.1.1) &&
        decide (s10.2.1.1≤s10.2.1.2.2))
       (APD (List.map (dV (Sy.int IntKind.i64) false Sy.str) es).length
        s10.2.1.2.1
        (TY (List (List T))
         (match SK (List.map (Sy.int IntKind.i64).enc s10.1) with
         | some x =>
          some (List.map (fun (a:Int)=>[T.v (.int .i64 a)]) (QE x))
         | none=>none)
         fun (y11:List (List T)) =>
         bE (List ByteArray×Int×PUnit)
          (fun (X12:List ByteArray×Int×PUnit→Prop) (s13:List ByteArray×Int×PUnit) =>
           aC (decide (s13.2.1<(↑y11.length:Int)))
            (aZ (Sy.int IntKind.i64) y11 s13.2.1 fun (y14:Int) =>
             oU (Sy.int IntKind.i64) y11 (Int.toNat s13.2.1) 0 fun (y15:Int) =>
              O0 (TypeDesc.int IntKind.i64) (Value.int IntKind.i64 y15)
               (List.map (dV (Sy.int IntKind.i64) false Sy.str) es) false
               Sy.str
               (bS
                (decide (((List.map Sy.str.enc s13.1).length+1)*16≤140737488355328) &&
                 decide ((List.map Sy.str.enc s13.1).length+1≤140737488355328))
                (bA Sy.str
                 (List.map Sy.str.enc s13.1++[[T.v (.string { data:=#[] })]])
                 fun (y19:List ByteArray)=>X12 (y19,IntKind.i64.wrap (s13.2.1+1),())))
               fun (i16:Nat) (y17:ByteArray) =>
               bS
                (decide (((List.map Sy.str.enc s13.1).length+1)*16≤140737488355328) &&
                 decide ((List.map Sy.str.enc s13.1).length+1≤140737488355328))
                (bA Sy.str
                 (List.map Sy.str.enc s13.1++[[T.v (.string y17)]])
                 fun (y18:List ByteArray)=>X12 (y18,IntKind.i64.wrap (s13.2.1+1),())))
            (R (T.sl false (List.map Sy.str.enc s13.1))))
          ([],0,()))
        fun (i20:Nat) =>
        bS
         (decide
          ((List.map (dV (Sy.int IntKind.i64) false Sy.str) es).length =
           (List.map (dV (Sy.int IntKind.i64) false Sy.str) es).length))
         (AS7 (Sy.int IntKind.i64) false Sy.str
          (List.map (dV (Sy.int IntKind.i64) false Sy.str) es)
          (s10.2.1.2.1++[i20]) fun (k21:Int) (y22:ByteArray) =>
          bS
           (decide
             (((List.map (Sy.int IntKind.i64).enc s10.1).length+1)*8≤140737488355328) &&
            decide ((List.map (Sy.int IntKind.i64).enc s10.1).length+1≤140737488355328))
           (bA (Sy.int IntKind.i64)
            (List.map (Sy.int IntKind.i64).enc s10.1 ++
             [[T.v (.int .i64 k21)]])
            fun (y23:List Int) =>
            X9
             (y23,
              (s10.2.1.1,s10.2.1.2.1++[i20],
               (List.map (dV (Sy.int IntKind.i64) false Sy.str)
                 es).length),
              ())))))
     ([],
      ((List.map (dV (Sy.int IntKind.i64) false Sy.str) es).length,[],
       (List.map (dV (Sy.int IntKind.i64) false Sy.str) es).length),
      ()):=by
 generalize hn:(List.map (dV (Sy.int IntKind.i64) false Sy.str) es).length=n
 have hn':es.length=n:=by simpa using hn
 let key:Nat→Int:=fun i=>(es.map fun e=>e.1).getD i 0
 have hkey:∀ i (hi:i<es.length),key i=es[i].1:=fun i hi=>by simp[key,List.getD_eq_getElem?_getD,hi]
 refine ALR (fun s=>∃ seen:List Nat,s=(seen.map key,(n,seen,n),())∧seen.Nodup∧(∀ i∈seen,i<n)∧seen.length+(cB n seen).length≤n) (fun s=>(cB n s.2.1.2.1).length) ⟨[],rfl,by simp,by simp,by rw[AAS];simp⟩ ?_
 rintro X s ⟨seen,rfl,hnd,hlt,hln⟩ hX
 dsimp only
 refine ⟨by simp,fun hnil=>?_,fun i hi=>⟨by simp,?_⟩⟩
 ·rw[AO9]
  have hkeys:QE (seen.map key)=es.map fun e=>e.1:=by
   refine ANH (by rw[List.pairwise_map];exact hp) ?_
   have h1:=(AGQ hnd hlt hnil).map key
   refine h1.trans (List.Perm.of_eq ?_)
   apply List.ext_getElem
   ·simp[hn']
   ·intro i h1 h2
    simp at h1 h2
    simp[hkey i (by omega)]
  simp only[PZ,hkeys]
  rw[show (List.map (fun (a:Int)=>[T.v (.int .i64 a)]) (es.map fun e=>e.1))=List.map (Sy.int .i64).enc (es.map fun e=>e.1) from rfl]
  refine aR es.length (fun k s=>s=((es.map fun e=>e.2).take k,(k:Int),())) (by simp) ?_
  rintro X k s hk rfl hX
  dsimp only
  by_cases hlt:k<es.length
  ·have hkl:k<(es.map fun e=>e.1).length:=by simpa using hlt
   refine bR (by simp[hlt]) ?_
   rw[a7 (r:=.int .i64) hkl,Int.toNat_natCast,p8 (r:=.int .i64) hkl]
   simp only[List.getElem_map]
   refine APM (r:=.str) hlt hp ?_
   rw[qO (by simp;omega),eU]
   refine hX _ hlt ?_
   have:(es.map fun e=>e.2).take (k+1)=(es.map fun e=>e.2).take k++[es[k].2]:=by
    rw[List.take_succ_eq_append_getElem (by simpa using hlt)];simp
   rw[this]
   simp only[Prod.mk.injEq,and_true,true_and]
   exact aO _ (by omega) (by omega)
  ·have:k=es.length:=by omega
   subst this
   refine b7 (by simp) ?_
   rw[List.take_of_length_le (by simp)]
   exact hR
 ·have hi':=GA.1 hi
  have hie:i<es.length:=by omega
  have hst:=TR hi
  refine AS8 (r:=.str) hie _ ⟨?_,?_⟩
  ·simp;omega
  ·rw[show (List.map (Sy.int IntKind.i64).enc (List.map key seen)++[[T.v (.int .i64 es[i].1)]])=List.map (Sy.int IntKind.i64).enc (List.map key (seen++[i])) by simp[hkey i hie,Sy.enc],iO (r:=.int .i64) rfl]
   refine hX _ ⟨seen++[i],rfl,?_,?_,?_⟩ hst
   ·rw[List.nodup_append]
    exact ⟨hnd,by simp,fun a ha b hb=>by simp at hb;subst hb;exact fun e=>hi'.2 (e ▸ ha)⟩
   ·intro j hj
    rcases List.mem_append.1 hj with h|h
    ·exact hlt j h
    ·simp at h;omega
   ·simp;omega
end Go.Pv
namespace Go.Pv
open Go Go.Proofs
def r6 (l:List ByteArray) (x:ByteArray):Bool:=l.any fun y=>decide (y=x)
def tO (x:List ByteArray×ByteArray):Option T:=some (Sh.enc r_b (r6 x.1 x.2))
noncomputable def wK:Env:=Env.of []
def J5:FuncId→Hint:=fun f=>match f == 120 with|true=>⟨fun r=>match r == 2 with|true=>.inv [.val 8 false (.int .i64)]|false=>.none,fun _ _=>none,fun _=>none⟩|false=>aS
theorem Q6:aF Tryz.prog wK:=aF.nil _
def wQ (a0:List ByteArray) (a1:ByteArray) (R:T→Prop):Prop :=
 bE (Int×PUnit)
 (fun (X0:Int×PUnit→Prop) (s1:Int×PUnit) =>
 aC (decide (s1.1<(↑(List.map Sy.str.enc a0).length:Int)))
 (aZ Sy.str (List.map Sy.str.enc a0) s1.1 fun (y2:ByteArray) =>
 aC (decide (a1=y2)) (R (T.v (.bool (decide (0≤s1.1)))))
 (X0 (IntKind.i64.wrap (s1.1+1),())))
 (R (T.v (.bool false))))
 (0,())
theorem NB ( a0 a1 R):bD aX Tryz.prog wK J5 8 67 [aB false Sy.str.li a0,aB false Sy.str a1] R=wQ a0 a1 R:=by kernel_rfl
abbrev rL:Sh:=[(false,Sy.str.li),(false,Sy.str)]
noncomputable def kH:List T→Option (T):=gS rL tO
theorem NO {a0 a1}:kH [T.sl false (List.map Sy.str.enc a0),T.v (.string a1)]=tO (a0,a1):=aT (s:=rL) rfl (a0,a1) rfl
theorem AAZ (h:∀ a0 a1 r,tO (a0,a1)=some r→bU rL (a0,a1)→wQ a0 a1 (fun y=>y=r)):aJ Tryz.prog 67 kH :=
 aN (E:=wK) (Hs:=J5) Q6 aU aV (aK rfl) 8 ⟨_,_,Tryz.func67,rfl⟩ rfl fun x r h1 h2=>by
  obtain ⟨a0,a1⟩:=x
  rw[show Sh.bI rL (a0,a1)=[aB false Sy.str.li a0,aB false Sy.str a1] from rfl,NB]
  exact h a0 a1 r h1 h2
theorem AOU {α:Type} {p:α→Bool} {l:List α} {k:Nat} (h:k<l.length):(l.drop k).any p=(p l[k]||(l.drop (k+1)).any p):=by rw[List.drop_eq_getElem_cons h,List.any_cons]
theorem YX:aJ Tryz.prog 67 kH:=AAZ fun l x r h hb=>by
 have h':some (Sh.enc r_b (r6 l x))=some r:=h
 cases h'
 clear h
 have hl:l.length≤2 ^ 47:=hb.1.1
 unfold wQ
 refine aR l.length (fun k s=>s=((k:Int),())∧r6 l x=(l.drop k).any fun y=>decide (y=x)) ⟨rfl,rfl⟩ ?_
 rintro X k s hk ⟨rfl,he⟩ hX
 dsimp only
 by_cases hlt:k<l.length
 ·rw[AOU hlt] at he
  refine bR (by simp[hlt]) ?_
  rw[a7 (r:=.str) hlt]
  by_cases h1:l[k]=x
  ·refine bR h1.symm ?_
   rw[he,decide_eq_true h1]
   simp[Sh.enc,aB,Sy.enc,PG]
  ·refine b7 (fun e=>h1 e.symm) ?_
   rw[decide_eq_false h1,Bool.false_or] at he
   exact hX _ hlt ⟨by rw[show IntKind.i64.wrap ((k:Int)+1)=((k+1:Nat):Int) from aO _ (by omega) (by omega)],he⟩
 ·have:k=l.length:=by omega
  subst this
  refine b7 (by simp) ?_
  rw[he]
  simp[Sh.enc,aB,Sy.enc,PG]
end Go.Pv
namespace Go.Pv
open Go Go.Proofs
def fP (d:aQ) (id:ByteArray) (s:b8):Bool:=r6 (QM d s) id
def HP (x:aQ×ByteArray):Option T:=AQ x.1 (Sh.enc nX (fN x.1 (fP x.1 x.2)))
abbrev FF:=HP
def pk (l:List b8) (c:b8→Bool) (k:Nat):List ByteArray:=((l.take k).filter c).map fun s=>s.1
theorem AXQ {l:List b8} {c:b8→Bool} {k:Nat} (hk:k<l.length) (hc:c l[k]=true):pk l c (k+1)=pk l c k++[l[k].1]:=by
 unfold pk;rw[List.take_succ_eq_append_getElem hk,List.filter_append];simp[hc]
theorem AZO {l:List b8} {c:b8→Bool} {k:Nat} (hk:k<l.length) (hc:c l[k]=false):pk l c (k+1)=pk l c k:=by
 unfold pk;rw[List.take_succ_eq_append_getElem hk,List.filter_append];simp[hc]
theorem AXP {l:List b8} {c:b8→Bool} {k:Nat}:(pk l c k).length≤k:=by
 unfold pk;have:=List.length_filter_le c (l.take k);simp at this ⊢;omega
theorem AXO {d:aQ} {c:b8→Bool}:pk d.2.2.2.1 c d.2.2.2.1.length=fN d c:=by unfold pk fN;rw[List.take_length]
theorem AXN {l:List b8} {c:b8→Bool} {k:Nat} {X:List ByteArray×Int×PUnit→Prop} (hk:k<l.length) (h100:l.length≤100) (hc:c l[k]=true) (hX:X (pk l c (k+1),((k+1:Nat):Int),())) :
  aZ cR (List.map cR.enc l) (k:Int) fun (y3:b8) =>
      bS
       (decide (((List.map Sy.str.enc (pk l c k)).length+1)*16≤140737488355328) &&
        decide ((List.map Sy.str.enc (pk l c k)).length+1≤140737488355328))
       (bA Sy.str (List.map Sy.str.enc (pk l c k)++[[T.v (.string y3.1)]])
        fun (y4:List ByteArray)=>X (y4,IntKind.i64.wrap ((k:Int)+1),())):=by
 have:=AXP (l:=l) (c:=c) (k:=k)
 rw[a7 (r:=cR) hk,qO (by omega),eU,←AXQ hk hc,show IntKind.i64.wrap ((k:Int)+1)=((k+1:Nat):Int) from aO _ (by omega) (by omega)]
 exact hX
theorem AUY {l:List b8} {c:b8→Bool} {k:Nat} {X:List ByteArray×Int×PUnit→Prop} (hk:k<l.length) (h100:l.length≤100) (hc:c l[k]=false) (hX:X (pk l c (k+1),((k+1:Nat):Int),())) :
  bA Sy.str (List.map Sy.str.enc (pk l c k)) fun (y8:List ByteArray)=>X (y8,IntKind.i64.wrap ((k:Int)+1),()):=by
 rw[iO (r:=.str) rfl,←AZO hk hc,show IntKind.i64.wrap ((k:Int)+1)=((k+1:Nat):Int) from aO _ (by omega) (by omega)]
 exact hX
noncomputable def IW:Env:=Env.of [(75,.pure kG)]
def XL:FuncId→Hint:=fun f=>match f == 36 with|true=>⟨fun r=>match r == 3 with|true=>.inv [.own 5 1 .str,.val 6 false (.int .i64)]|false=>match r == 8 with|true=>.inv [.val 9 false .bool,.val 10 false (.int .i64)]|false=>.none,fun _ _=>none,fun _=>none⟩|false=>aS
theorem AC7:aF Tryz.prog IW:=aF.cons (x:=.pure kG) YW (aF.nil _)
def JY (a0:aQ) (a1:ByteArray) (R:T→Prop):Prop :=
 bE (List ByteArray×Int×PUnit)
 (fun (X0:List ByteArray×Int×PUnit→Prop) (s1:List ByteArray×Int×PUnit) =>
 aC (decide (s1.2.1<(↑(List.map cR.enc a0.2.2.2.1).length:Int)))
 (aZ cR (List.map cR.enc a0.2.2.2.1) s1.2.1 fun (y2:b8) =>
 aH [(false,Sy.str.li),(false,Sy.bool)]
 (kG [aB true aL a0,aB true cR y2])
 fun (y3:List ByteArray×Bool) =>
 bE (Bool×Int×PUnit)
 (fun (X4:Bool×Int×PUnit→Prop) (s5:Bool×Int×PUnit) =>
 aC (decide (s5.2.1<(↑(List.map Sy.str.enc y3.1).length:Int)))
 (aC s5.1 (X4 (true,IntKind.i64.wrap (s5.2.1+1),()))
 (aZ Sy.str (List.map Sy.str.enc y3.1) s5.2.1 fun (y6:ByteArray) =>
 X4 (decide (y6=a1),IntKind.i64.wrap (s5.2.1+1),())))
 (aC s5.1
 (aZ cR (List.map cR.enc a0.2.2.2.1) s1.2.1
 fun (y7:b8) =>
 bS
 (decide (((List.map Sy.str.enc s1.1).length+1)*16≤140737488355328) &&
 decide ((List.map Sy.str.enc s1.1).length+1≤140737488355328))
 (bA Sy.str
 (List.map Sy.str.enc s1.1++[[T.v (.string y7.1)]])
 fun (y8:List ByteArray)=>X0 (y8,IntKind.i64.wrap (s1.2.1+1),())))
 (bA Sy.str (List.map Sy.str.enc s1.1) fun (y9:List ByteArray) =>
 X0 (y9,IntKind.i64.wrap (s1.2.1+1),()))))
 (false,0,()))
 (R (T.sl false (List.map Sy.str.enc s1.1))))
 ([],0,())
theorem WJ ( a0 a1 R):bD aX Tryz.prog IW XL 8 36 [aB true aL a0,aB false Sy.str a1] R=JY a0 a1 R:=by kernel_rfl
abbrev BX:Sh:=[(true,aL),(false,Sy.str)]
noncomputable def pQ:List T→Option (T):=gS BX FF
theorem Z8 {a0 a1}:pQ [aB true aL a0,T.v (.string a1)]=FF (a0,a1):=aT (s:=BX) rfl (a0,a1) rfl
theorem AMU (h:∀ a0 a1 r,FF (a0,a1)=some r→bU BX (a0,a1)→JY a0 a1 (fun y=>y=r)):aJ Tryz.prog 36 pQ :=
 aN (E:=IW) (Hs:=XL) AC7 aU aV (aK rfl) 8 ⟨_,_,Tryz.func36,rfl⟩ rfl fun x r h1 h2=>by
  obtain ⟨a0,a1⟩:=x
  rw[show Sh.bI BX (a0,a1)=[aB true aL a0,aB false Sy.str a1] from rfl,WJ]
  exact h a0 a1 r h1 h2
theorem AK5:aJ Tryz.prog 36 pQ:=AMU fun d id r h hb=>by
 have h':AQ d (Sh.enc nX (fN d (fP d id)))=some r:=h
 obtain ⟨hok,_,hl,rfl⟩:=AR h'
 clear h h'
 unfold JY
 refine aR d.2.2.2.1.length (fun k s=>s=(pk d.2.2.2.1 (fP d id) k,(k:Int),())) rfl ?_
 rintro X k s hk rfl hX
 dsimp only
 by_cases hlt:k<d.2.2.2.1.length
 ·refine bR (by simp[hlt]) ?_
  rw[a7 (r:=cR) hlt]
  have yes:=fun hc=>AXN (X:=X) hlt hl hc (hX _ hlt rfl)
  have no:=fun hc=>AUY (X:=X) hlt hl hc (hX _ hlt rfl)
  refine aD (s:=P4) (y:=(QM d d.2.2.2.1[k],nW d d.2.2.2.1[k])) (by rw[NN,oY,nS _ hok]) ?_
  have hw:=AVD d d.2.2.2.1[k]
  dsimp only
  refine aR (QM d d.2.2.2.1[k]).length (fun j s=>s=(r6 ((QM d d.2.2.2.1[k]).take j) id,(j:Int),())) (by simp[r6]) ?_
  rintro Y j s hj rfl hY
  dsimp only
  by_cases hlj:j<(QM d d.2.2.2.1[k]).length
  ·refine bR (by simp[hlj]) ?_
   have hs:r6 ((QM d d.2.2.2.1[k]).take (j+1)) id=(r6 ((QM d d.2.2.2.1[k]).take j) id||decide ((QM d d.2.2.2.1[k])[j]=id)):=by
    unfold r6;rw[List.take_succ_eq_append_getElem hlj,List.any_append];simp
   have hj1:IntKind.i64.wrap ((j:Int)+1)=((j+1:Nat):Int):=aO _ (by omega) (by omega)
   cases hf:r6 ((QM d d.2.2.2.1[k]).take j) id with
   | true =>
    rw[cH]
    exact hY _ hlj (by rw[hs,hf,hj1];rfl)
   | false =>
    rw[cO,a7 (r:=.str) hlj]
    exact hY _ hlj (by rw[hs,hf,hj1];rfl)
  ·have:j=(QM d d.2.2.2.1[k]).length:=by omega
   subst this
   refine b7 (by simp) ?_
   rw[List.take_length]
   cases hf:r6 (QM d d.2.2.2.1[k]) id with
   | true=>rw[cH];exact yes hf
   | false=>rw[cO];exact no hf
 ·have:k=d.2.2.2.1.length:=by omega
  subst this
  refine b7 (by simp) ?_
  rw[AXO];rfl
theorem AGR {d:aQ} {s:b8} (h:nW d s=true):0<(pathOf d s.2.1).length∧0<(pathOf d s.2.2.1).length:=by
 simpa [nW,oV] using h
noncomputable def AB7:Env:=Env.of [(118,.perm 1 TE),(66,.pure D5),(68,.pure pK),(67,.pure kH)]
def AOL:FuncId→Hint:=fun f=>match f == 64 with|true=>⟨fun r=>match r == 3 with|true=>.inv [.val 17 false (.int .i64),.map 3 (.int .i64) false .str]|false=>match r == 10 with|true=>.inv [.own 8 1 (.int .i64),.kA 4 (some 3)]|false=>match r == 16 with|true=>.inv [.own 10 1 .str,.val 44 false (.int .i64)]|false=>.none,fun _ _=>none,fun r=>match r == 11 with|true=>some ((.int .i64),false,.str)|false=>none⟩|false=>aS
theorem AN1:aF Tryz.prog AB7:=aF.cons (x:=.perm 1 TE) AP1 (aF.cons (x:=.pure D5) ATQ (aF.cons (x:=.pure pK) AKL (aF.cons (x:=.pure kH) YX (aF.nil _))))
def ADY (a0:aQ) (a1:ByteArray) (R:T→Prop):Prop :=
 lZ (Sy.int IntKind.i64) false Sy.str [] fun (y0:List (Int×ByteArray)) =>
 bE (Int×List (Int×ByteArray)×PUnit)
 (fun (X1:Int×List (Int×ByteArray)×PUnit→Prop) (s2:Int×List (Int×ByteArray)×PUnit) =>
 aC (decide (s2.1<(↑(List.map cR.enc a0.2.2.2.1).length:Int)))
 (aZ cR (List.map cR.enc a0.2.2.2.1) s2.1 fun (y3:b8) =>
 aH [(false,Sy.str.li),(false,Sy.str.li),(false,Sy.bool)]
 (D5 [aB true aL a0,aB true cR y3])
 fun (y4:List ByteArray×List ByteArray×Bool) =>
 aC y4.2.2
 (aH [(false,Sy.str.li)]
 (pK
 [T.sl false (List.map Sy.str.enc y4.1),
 T.sl false (List.map Sy.str.enc y4.2.1)])
 fun (y5:List ByteArray) =>
 aH [(false,Sy.bool)]
 (kH [T.sl false (List.map Sy.str.enc y5),T.v (.string a1)])
 fun (y6:Bool) =>
 aC y6
 (TY (Option (Nat×D))
 (findD (TypeDesc.int IntKind.i64) (Value.int IntKind.i64 s2.1)
 (List.map (dV (Sy.int IntKind.i64) false Sy.str) s2.2.1) 0)
 fun (y7:Option (Nat×D)) =>
 lZ (Sy.int IntKind.i64) false Sy.str
 (iK
 (List.map (dV (Sy.int IntKind.i64) false Sy.str) s2.2.1) y7
 (Value.int IntKind.i64 s2.1) (D.p (T.v (.string y3.1))))
 fun (y8:List (Int×ByteArray))=>X1 (IntKind.i64.wrap (s2.1+1),y8,()))
 (lZ (Sy.int IntKind.i64) false Sy.str
 (List.map (dV (Sy.int IntKind.i64) false Sy.str) s2.2.1)
 fun (y9:List (Int×ByteArray))=>X1 (IntKind.i64.wrap (s2.1+1),y9,())))
 (lZ (Sy.int IntKind.i64) false Sy.str
 (List.map (dV (Sy.int IntKind.i64) false Sy.str) s2.2.1)
 fun (y10:List (Int×ByteArray))=>X1 (IntKind.i64.wrap (s2.1+1),y10,())))
 (bE (List Int×(Nat×List Nat×Nat)×PUnit)
 (fun (X11:List Int×(Nat×List Nat×Nat)×PUnit→Prop)
 (s12:List Int×(Nat×List Nat×Nat)×PUnit) =>
 bS
 (decide
 ((List.map (dV (Sy.int IntKind.i64) false Sy.str) s2.2.1).length ≤
 s12.2.1.1) &&
 decide (s12.2.1.1≤s12.2.1.2.2))
 (APD (List.map (dV (Sy.int IntKind.i64) false Sy.str) s2.2.1).length
 s12.2.1.2.1
 (TY (List (List T))
 (match SK (List.map (Sy.int IntKind.i64).enc s12.1) with
 | some x =>
 some (List.map (fun (a:Int)=>[T.v (.int .i64 a)]) (QE x))
 | none=>none)
 fun (y13:List (List T)) =>
 bE (List ByteArray×Int×PUnit)
 (fun (X14:List ByteArray×Int×PUnit→Prop) (s15:List ByteArray×Int×PUnit) =>
 aC (decide (s15.2.1<(↑y13.length:Int)))
 (aZ (Sy.int IntKind.i64) y13 s15.2.1 fun (y16:Int) =>
 oU (Sy.int IntKind.i64) y13 (Int.toNat s15.2.1) 0 fun (y17:Int) =>
 O0 (TypeDesc.int IntKind.i64) (Value.int IntKind.i64 y17)
 (List.map (dV (Sy.int IntKind.i64) false Sy.str) s2.2.1) false
 Sy.str
 (bS
 (decide (((List.map Sy.str.enc s15.1).length+1)*16≤140737488355328) &&
 decide ((List.map Sy.str.enc s15.1).length+1≤140737488355328))
 (bA Sy.str
 (List.map Sy.str.enc s15.1++[[T.v (.string { data:=#[] })]])
 fun (y21:List ByteArray)=>X14 (y21,IntKind.i64.wrap (s15.2.1+1),())))
 fun (i18:Nat) (y19:ByteArray) =>
 bS
 (decide (((List.map Sy.str.enc s15.1).length+1)*16≤140737488355328) &&
 decide ((List.map Sy.str.enc s15.1).length+1≤140737488355328))
 (bA Sy.str
 (List.map Sy.str.enc s15.1++[[T.v (.string y19)]])
 fun (y20:List ByteArray)=>X14 (y20,IntKind.i64.wrap (s15.2.1+1),())))
 (R (T.sl false (List.map Sy.str.enc s15.1))))
 ([],0,()))
 fun (i22:Nat) =>
 bS
 (decide
 ((List.map (dV (Sy.int IntKind.i64) false Sy.str) s2.2.1).length =
 (List.map (dV (Sy.int IntKind.i64) false Sy.str) s2.2.1).length))
 (AS7 (Sy.int IntKind.i64) false Sy.str
 (List.map (dV (Sy.int IntKind.i64) false Sy.str) s2.2.1)
 (s12.2.1.2.1++[i22]) fun (k23:Int) (y24:ByteArray) =>
 bS
 (decide
 (((List.map (Sy.int IntKind.i64).enc s12.1).length+1)*8≤140737488355328) &&
 decide ((List.map (Sy.int IntKind.i64).enc s12.1).length+1≤140737488355328))
 (bA (Sy.int IntKind.i64)
 (List.map (Sy.int IntKind.i64).enc s12.1 ++
 [[T.v (.int .i64 k23)]])
 fun (y25:List Int) =>
 X11
 (y25,
 (s12.2.1.1,s12.2.1.2.1++[i22],
 (List.map (dV (Sy.int IntKind.i64) false Sy.str)
 s2.2.1).length),
 ())))))
 ([],
 ((List.map (dV (Sy.int IntKind.i64) false Sy.str) s2.2.1).length,[],
 (List.map (dV (Sy.int IntKind.i64) false Sy.str) s2.2.1).length),
 ())))
 (0,y0,())
theorem AJR ( a0 a1 R):bD aX Tryz.prog AB7 AOL 8 29 [aB true aL a0,aB false Sy.str a1] R=ADY a0 a1 R:=by kernel_rfl
abbrev UI:Sh:=[(true,aL),(false,Sy.str)]
noncomputable def D4:List T→Option (T):=gS UI HP
theorem ALH {a0 a1}:D4 [aB true aL a0,T.v (.string a1)]=HP (a0,a1):=aT (s:=UI) rfl (a0,a1) rfl
theorem AUN (h:∀ a0 a1 r,HP (a0,a1)=some r→bU UI (a0,a1)→ADY a0 a1 (fun y=>y=r)):aJ Tryz.prog 29 D4 :=
 aN (E:=AB7) (Hs:=AOL) AN1 aU aV (aK rfl) 8 ⟨_,_,Tryz.func29,rfl⟩ rfl fun x r h1 h2=>by
  obtain ⟨a0,a1⟩:=x
  rw[show Sh.bI UI (a0,a1)=[aB true aL a0,aB false Sy.str a1] from rfl,AJR]
  exact h a0 a1 r h1 h2
theorem ATO:aJ Tryz.prog 29 D4:=AUN fun d id r h hb=>by
 have h':AQ d (Sh.enc nX (fN d (fP d id)))=some r:=h
 obtain ⟨hok,_,hl,rfl⟩:=AR h'
 clear h h'
 unfold ADY
 refine ⟨[],rfl,?_⟩
 refine aR d.2.2.2.1.length (fun k s=>∃ es,s=((k:Int),es,())∧DE d.2.2.2.1 (fP d id) k es) ⟨[],rfl,DE.zero _ _⟩ ?_
 rintro X k s hk ⟨es,rfl,he⟩ hX
 dsimp only
 by_cases hlt:k<d.2.2.2.1.length
 ·refine bR (by simp[hlt]) ?_
  rw[a7 (r:=cR) hlt]
  have hw:IntKind.i64.wrap ((k:Int)+1)=((k+1:Nat):Int):=aO _ (by omega) (by omega)
  have yes:=fun (hc:(fP d id) d.2.2.2.1[k]=true)=>AQA he hlt hc (fun y=>X (IntKind.i64.wrap ((k:Int)+1),y,())) (hX _ hlt ⟨_,by rw[hw],he.yes hlt hc⟩)
  have no:=fun (hc:(fP d id) d.2.2.2.1[k]=false)=>YN (r:=.str) rfl es (fun y=>X (IntKind.i64.wrap ((k:Int)+1),y,())) (hX _ hlt ⟨_,by rw[hw],he.no hlt hc⟩)
  refine aD (s:=T3) (y:=(pathOf d d.2.2.2.1[k].2.1,pathOf d d.2.2.2.1[k].2.2.1,nW d d.2.2.2.1[k])) (by rw[ALJ,HQ,nS _ hok]) ?_
  dsimp only
  cases hp:nW d d.2.2.2.1[k] with
  | false =>
   rw[cO]
   exact no (by rw[fP,show QM d d.2.2.2.1[k]=[] from YJ hp];rfl)
  | true =>
   obtain ⟨ha,hb⟩:=AGR hp
   rw[cH]
   refine aD (s:=nX) (y:=QM d d.2.2.2.1[k]) ZA ?_
   refine aD (s:=r_b) (y:=r6 (QM d d.2.2.2.1[k]) id) NO ?_
   cases hf:r6 (QM d d.2.2.2.1[k]) id with
   | true=>rw[cH];exact yes hf
   | false=>rw[cO];exact no hf
 ·have:k=d.2.2.2.1.length:=by omega
  subst this
  refine b7 (by simp) ?_
  refine YG (by have:=he.2.2.2;omega) he.2.1 (R:=fun y=>y=Sh.enc nX (fN d (fP d id))) ?_
  rw[he.1,List.take_length];rfl
end Go.Pv
namespace Go.Pv
open Go Go.Proofs
def vT (l:List ByteArray) (x:ByteArray):Bool:=l.any fun y=>decide (y=x)
theorem AQV {l:List ByteArray} {x:ByteArray}:vT l x=true↔x∈l:=by
 simp only[vT,List.any_eq_true,decide_eq_true_eq]
 exact ⟨fun ⟨y,h,e⟩=>e ▸ h,fun h=>⟨x,h,rfl⟩⟩
end Go.Pv
namespace Go.Pv
open Go Go.Proofs
def orG {α:Type} (g1 g2:List T→Option α) (a:List T):Option α:=match g1 a with
 | some r=>some r
 | none=>g2 a
theorem AM0 {α:Type} {g1 g2:List T→Option α} {a:List T} {r:α} (h:orG g1 g2 a=some r):g1 a=some r∨g2 a=some r:=by
 unfold orG at h
 split at h
 ·rename_i r' h1;cases h;exact .inl h1
 ·exact .inr h
theorem aJ.or {P:Program} {f:FuncId} {g1 g2:List T→Option T} (h1:aJ P f g1) (h2:aJ P f g2):aJ P f (orG g1 g2):=⟨h1.entry,fun w own args vs r hG ho ha hr=>by
 rcases AM0 hr with h|h
 ·exact h1.calls w own args vs r hG ho ha h
 ·exact h2.calls w own args vs r hG ho ha h⟩
end Go.Pv
namespace Go.Pv
open Go Go.Proofs
abbrev GW:Sh:=[(false,.bool)]
abbrev AU0:Sh:=[(false,.li .str)]
def tT (x:ByteArray×ByteArray):Option T:=match decide (x.1.size<4294967281),decide (1≤x.2.size) with
 | true,true=>some (Sh.enc AU0 (Lib.splitB x.2 0 (Lib.countB x.1 x.2) x.1))
 | _,_=>none
noncomputable def pR:List T→Option T:=gS [(false,.str),(false,.str)] tT
theorem AAA {a b:ByteArray}:pR [T.v (.string a),T.v (.string b)]=tT (a,b):=aT (s:=[(false,.str),(false,.str)]) rfl (a,b) rfl
theorem AK7:aJ Tryz.prog 142 pR:=by
 refine ⟨LB.entry,fun w own args vs r hG ho ha hg=>?_⟩
 obtain ⟨⟨a,b⟩,rfl,hx⟩:=G3 hg
 unfold tT at hx
 split at hx
 ·rename_i h1 h2
  cases hx
  have hs:D1 [.v (.string a),.v (.string b)]=some (.sl true ((Lib.splitB b 0 (Lib.countB a b) a).map fun x=>[.v (.string x)])):=by
   unfold D1
   simp only[h1,h2]
  refine (LB.calls w own _ vs _ hG ho ha hs).mono ?_
  rintro e w' ⟨v,rfl,hr,hb⟩
  exact ⟨v,rfl,hr.canon 0,hb⟩
 ·cases hx
end Go.Pv
namespace Go.Pv
open Go Go.Proofs
def fF (n:Int):Bool:=(decide (97≤n)&&decide (n≤122))||(decide (65≤n)&&decide (n≤90))
def lV (n:Int):Bool:=decide (48≤n)&&decide (n≤57)
def nameAt (i:Nat) (b:UInt8):Bool:=fF b.toNat||(decide (i≠0)&&(lV b.toNat||decide ((b.toNat:Int)=95)||decide ((b.toNat:Int)=45)))
def isName (s:ByteArray):Bool:=decide (s.size≠0)&&decide (s.size≤16)&&(List.range s.size).all fun i=>match s.data[i]? with|some b=>nameAt i b|none=>true
def EU (n:Int):Option T:=some (Sh.enc GW (fF n))
def MK (n:Int):Option T:=some (Sh.enc GW (lV n))
def oZ (s:ByteArray):Option T:=some (Sh.enc GW (isName s))
abbrev ET:=oZ
def AVA (l:List ByteArray):Int:=(l.length:Int)-1+lR l
def tR (s:ByteArray):Option T:=match decide (s.size≤1099511627776) with
 | true=>some (Sh.enc AU0 (cP s))
 | false=>none
def tQ (l:List ByteArray):Option T:=match decide (l.length≤65)&&decide (lR l≤64) with
 | true=>some (Sh.enc GW (l.all isName&&(decide (1≤l.length)&&decide (l.length≤8)&&decide (AVA l≤64))))
 | false=>none
def oD (s:ByteArray):Bool:=decide (s.size≤64)&&decide ((cP s).length≤8)&&(cP s).all isName
def HO (s:ByteArray):Option T:=some (Sh.enc GW (oD s))
def qB (s:ByteArray):Option T:=match decide (s.size≤1099511627776) with
 | true=>some (Sh.enc GW (oD s))
 | false=>none
theorem b9 {n:Nat} {f:Nat→Bool}:(List.range n).all f=true↔∀ i,i<n→f i=true:=by simp
theorem PJ {s:ByteArray} (h0:s.size≠0) (h1:s.size≤16) (h2:∀ i b,s.data[i]? = some b→nameAt i b=true):isName s=true:=by
 unfold isName
 simp only[h0,h1,decide_true,Bool.true_and,Bool.and_eq_true,b9,ne_eq,not_false_eq_true,true_and]
 intro i hi
 split
 ·rename_i b hb;exact h2 i b hb
 ·rfl
theorem jG {s:ByteArray} (h:s.size=0∨16<s.size∨∃ i b,s.data[i]? = some b∧nameAt i b=false):isName s=false:=by
 rw[Bool.eq_false_iff]
 intro hn
 unfold isName at hn
 simp only[Bool.and_eq_true,b9,decide_eq_true_eq] at hn
 rcases h with h|h|⟨i,b,hb,hf⟩
 ·exact hn.1.1 h
 ·have:=hn.1.2;omega
 ·have hi:i<s.size:=(Array.getElem?_eq_some_iff.1 hb).1
  have:=hn.2 i hi
  rw[hb] at this
  simp only[hf] at this
  cases this
theorem GB (b:UInt8):nameAt 0 b=fF b.toNat:=by simp[nameAt]
theorem sG {s:ByteArray} {k:Nat} {b:UInt8} (h:s.data[k]? = some b) {K:Int→Prop} (hk:K b.toNat):zB s (k:Int) K:=⟨b,by omega,by rwa[Int.toNat_natCast],hk⟩
theorem AEC {s:ByteArray} {b:UInt8} (h:s.data[0]? = some b) {K:Int→Prop} (hk:K b.toNat):zB s 0 K:=⟨b,by omega,h,hk⟩
theorem G1 {s:ByteArray}:s = { data:=#[] }↔s.size=0:=⟨fun e=>by subst e;rfl,fun e=>ByteArray.ext (Array.eq_empty_of_size_eq_zero e)⟩
theorem AFR {s:ByteArray} {k:Nat} (h:k<s.size):∃ b,s.data[k]? = some b:=⟨s.data[k]'h,by simp⟩
noncomputable def H3:Env:=Env.of []
def WV:FuncId→Hint:=fun _=>aS
theorem ACG:aF Tryz.prog H3:=aF.nil _
def I7 (a0:Int) (R:T→Prop):Prop :=
 aC (decide (97≤a0))
 (aC (decide (a0≤122)) (R (T.v (.bool true)))
 (aC (decide (65≤a0)) (R (T.v (.bool (decide (a0≤90)))))
 (R (T.v (.bool false)))))
 (aC (decide (65≤a0)) (R (T.v (.bool (decide (a0≤90)))))
 (R (T.v (.bool false))))
theorem VS ( a0 R):bD aX Tryz.prog H3 WV 8 186 [aB false (Sy.int IntKind.u8) a0] R=I7 a0 R:=by kernel_rfl
abbrev A8:Sh:=[(false,(Sy.int IntKind.u8))]
noncomputable def nD:List T→Option (T):=gS A8 EU
theorem F0 {a0}:nD [T.v (Value.int IntKind.u8 a0)]=EU (a0):=aT (s:=A8) rfl (a0) rfl
theorem AL4 (h:∀ a0 r,EU (a0)=some r→bU A8 (a0)→I7 a0 (fun y=>y=r)):aJ Tryz.prog 186 nD :=
 aN (E:=H3) (Hs:=WV) ACG aU aV (aK rfl) 8 ⟨_,_,Tryz.func186,rfl⟩ rfl fun x r h1 h2=>by
  let a0:=x
  rw[show Sh.bI A8 (a0)=[aB false (Sy.int IntKind.u8) a0] from rfl,VS]
  exact h a0 r h1 h2
theorem AKP:aJ Tryz.prog 186 nD:=AL4 fun n r h hb=>by
 have h':some (Sh.enc GW (fF n))=some r:=h
 cases h'
 clear h
 unfold I7
 simp only[pV]
 by_cases h1:97≤n<;>by_cases h2:n≤122<;>by_cases h3:65≤n<;>by_cases h4:n≤90<;>simp[h1,h2,h3,h4,fF,Sh.enc,aB,Sy.enc,PG]<;>omega
noncomputable def QQ:Env:=Env.of []
def AHA:FuncId→Hint:=fun _=>aS
theorem AI4:aF Tryz.prog QQ:=aF.nil _
def RC (a0:Int) (R:T→Prop):Prop :=
 aC (decide (48≤a0)) (R (T.v (.bool (decide (a0≤57))))) (R (T.v (.bool false)))
theorem ADC ( a0 R):bD aX Tryz.prog QQ AHA 8 187 [aB false (Sy.int IntKind.u8) a0] R=RC a0 R:=by kernel_rfl
abbrev G9:Sh:=[(false,(Sy.int IntKind.u8))]
noncomputable def uG:List T→Option (T):=gS G9 MK
theorem AFC {a0}:uG [T.v (Value.int IntKind.u8 a0)]=MK (a0):=aT (s:=G9) rfl (a0) rfl
theorem AQ9 (h:∀ a0 r,MK (a0)=some r→bU G9 (a0)→RC a0 (fun y=>y=r)):aJ Tryz.prog 187 uG :=
 aN (E:=QQ) (Hs:=AHA) AI4 aU aV (aK rfl) 8 ⟨_,_,Tryz.func187,rfl⟩ rfl fun x r h1 h2=>by
  let a0:=x
  rw[show Sh.bI G9 (a0)=[aB false (Sy.int IntKind.u8) a0] from rfl,ADC]
  exact h a0 r h1 h2
theorem APO:aJ Tryz.prog 187 uG:=AQ9 fun n r h hb=>by
 have h':some (Sh.enc GW (lV n))=some r:=h
 cases h'
 clear h
 unfold RC
 simp only[pV]
 by_cases h1:48≤n<;>by_cases h2:n≤57<;>simp[h1,h2,lV,Sh.enc,aB,Sy.enc,PG]
noncomputable def wL:Env:=Env.of [(186,.pure nD),(187,.pure uG)]
def J6:FuncId→Hint:=fun f=>match f == 156 with|true=>⟨fun r=>match r == 4 with|true=>.inv [.val 3 false (.int .i64)]|false=>.none,fun _ _=>none,fun _=>none⟩|false=>aS
theorem Q7:aF Tryz.prog wL:=aF.cons (x:=.pure nD) AKP (aF.cons (x:=.pure uG) APO (aF.nil _))
def wR (a0:ByteArray) (R:T→Prop):Prop :=
 aC (decide (a0 = { data:=#[] })) (R (T.v (.bool false)))
 (aC (decide (16<(↑(ByteArray.size a0):Int))) (R (T.v (.bool false)))
 (zB a0 0 fun (y0:Int) =>
 aH [(false,Sy.bool)] (nD [T.v (Value.int IntKind.u8 y0)])
 fun (y1:Bool) =>
 aC (!y1) (R (T.v (.bool false)))
 (bE (Int×PUnit)
 (fun (X2:Int×PUnit→Prop) (s3:Int×PUnit) =>
 aC (decide (s3.1<(↑(ByteArray.size a0):Int)))
 (zB a0 s3.1 fun (y4:Int) =>
 aH [(false,Sy.bool)] (nD [T.v (Value.int IntKind.u8 y4)])
 fun (y5:Bool) =>
 aC (!y5)
 (zB a0 s3.1 fun (y6:Int) =>
 aH [(false,Sy.bool)] (uG [T.v (Value.int IntKind.u8 y6)])
 fun (y7:Bool) =>
 aC (!y7)
 (zB a0 s3.1 fun (y8:Int) =>
 aC (!decide (y8=95))
 (zB a0 s3.1 fun (y9:Int) =>
 aC (!decide (y9=45)) (R (T.v (.bool false)))
 (X2 (IntKind.i64.wrap (s3.1+1),())))
 (X2 (IntKind.i64.wrap (s3.1+1),())))
 (X2 (IntKind.i64.wrap (s3.1+1),())))
 (X2 (IntKind.i64.wrap (s3.1+1),())))
 (R (T.v (.bool true))))
 (0,()))))
theorem NC ( a0 R):bD aX Tryz.prog wL J6 8 156 [aB false Sy.str a0] R=wR a0 R:=by kernel_rfl
abbrev rM:Sh:=[(false,Sy.str)]
noncomputable def kI:List T→Option (T):=gS rM oZ
theorem NP {a0}:kI [T.v (.string a0)]=oZ (a0):=aT (s:=rM) rfl (a0) rfl
theorem AA0 (h:∀ a0 r,oZ (a0)=some r→bU rM (a0)→wR a0 (fun y=>y=r)):aJ Tryz.prog 156 kI :=
 aN (E:=wL) (Hs:=J6) Q7 aU aV (aK rfl) 8 ⟨_,_,Tryz.func156,rfl⟩ rfl fun x r h1 h2=>by
  let a0:=x
  rw[show Sh.bI rM (a0)=[aB false Sy.str a0] from rfl,NC]
  exact h a0 r h1 h2
theorem YY:aJ Tryz.prog 156 kI:=AA0 fun s r h hb=>by
 have h':some (Sh.enc GW (isName s))=some r:=h
 cases h'
 clear h
 unfold wR
 by_cases h0:s.size=0
 ·exact bR (G1.2 h0) (by rw[jG (.inl h0)];rfl)
 refine b7 (fun e=>h0 (G1.1 e)) ?_
 by_cases h16:16<s.size
 ·exact bR (by omega) (by rw[jG (.inr (.inl h16))];rfl)
 refine b7 (by omega) ?_
 obtain ⟨b0,hb0⟩:=AFR (show 0<s.size by omega)
 refine AEC hb0 (aD (s:=GW) (y:=fF b0.toNat) F0 ?_)
 cases hl0:fF b0.toNat with
 | false=>exact (by rw[jG (.inr (.inr ⟨0,b0,hb0,by rw[GB];exact hl0⟩))];rfl)
 | true =>
  rw[Bool.not_true,cO]
  refine aR s.size (fun k t=>t=((k:Int),())∧∀ i b,i<k→s.data[i]? = some b→nameAt i b=true) ⟨rfl,by simp⟩ ?_
  rintro X k t hk ⟨rfl,hno⟩ hX
  dsimp only
  by_cases hlt:k<s.size
  ·refine bR (by omega) ?_
   obtain ⟨b,hb⟩:=AFR hlt
   have hw:IntKind.i64.wrap ((k:Int)+1)=((k+1:Nat):Int):=aO _ (by omega) (by omega)
   have go:nameAt k b=true→X (IntKind.i64.wrap ((k:Int)+1),()):=fun hn=>hX _ hlt ⟨by rw[hw],fun i b' hi hb'=>by
    by_cases e:i=k
    ·subst e;rw[hb] at hb';cases hb';exact hn
    ·exact hno i b' (by omega) hb'⟩
   have hzero:fF b.toNat=false→k≠0:=fun hf e=>by subst e;rw[hb] at hb0;cases hb0;rw[hf] at hl0;cases hl0
   have stop:nameAt k b=false→T.v (.bool false)=Sh.enc GW (isName s):=fun hn=>by rw[jG (.inr (.inr ⟨k,b,hb,hn⟩))];rfl
   refine sG hb (aD (s:=GW) (y:=fF b.toNat) F0 ?_)
   cases hl:fF b.toNat with
   | true=>rw[Bool.not_true,cO];exact go (by simp[nameAt,hl])
   | false =>
    have hk0:=hzero hl
    rw[Bool.not_false,cH]
    refine sG hb (aD (s:=GW) (y:=lV b.toNat) AFC ?_)
    cases hd:lV b.toNat with
    | true=>rw[Bool.not_true,cO];exact go (by simp[nameAt,hl,hk0,hd])
    | false =>
     rw[Bool.not_false,cH]
     refine sG hb ?_
     by_cases h95:(b.toNat:Int)=95
     ·exact PK h95 (go (by simp[nameAt,hl,hk0,hd,h95]))
     ·refine AAH h95 (sG hb ?_)
      by_cases h45:(b.toNat:Int)=45
      ·exact PK h45 (go (by simp[nameAt,hl,hk0,hd,h45]))
      ·exact AAH h45 (stop (by
        unfold nameAt
        rw[hl,hd,decide_eq_false h95,decide_eq_false h45];simp))
  ·refine b7 (by omega) ?_
   rw[PJ h0 (by omega) (fun i b h=>hno i b (by have:=(Array.getElem?_eq_some_iff.1 h).1;have:i<s.size:=this;omega) h)];rfl
noncomputable def HZ:Env:=Env.of []
def WT:FuncId→Hint:=fun f=>match f == 45 with|true=>⟨fun r=>match r == 4 with|true=>.inv [.iH 0]|false=>.none,fun i j=>match i == 6&&j == 6 with|true=>some [.val 5 false .bool,.fix 0]|false=>match i == 7&&j == 7 with|true=>some [.val 6 false .bool,.fix 0]|false=>none,fun _=>none⟩|false=>aS
theorem ACE:aF Tryz.prog HZ:=aF.nil _
def I5 (a0:ByteArray) (R:T→Prop):Prop :=
 aC (decide (a0 = { data:=#[] })) (R (T.v (.bool false)))
 (aC (decide (16<(↑(ByteArray.size a0):Int))) (R (T.v (.bool false)))
 (bE ((ByteArray×Nat)×PUnit)
 (fun (X0:(ByteArray×Nat)×PUnit→Prop) (s1:(ByteArray×Nat)×PUnit) =>
 aC (decide (s1.1.2<s1.1.1.size))
 (oQ (Bool×PUnit×PUnit)
 (fun (X2:Bool×PUnit×PUnit→Prop) =>
 aC (decide (65≤(↑(Utf8.decode s1.1.1 s1.1.2).1:Int)))
 (aC (decide ((↑(Utf8.decode s1.1.1 s1.1.2).1:Int)≤90))
 (dY (aY.iH s1.1.1 (s1.1.2+(Utf8.decode s1.1.1 s1.1.2).2))
 (aY.iH s1.1.1 (s1.1.2+(Utf8.decode s1.1.1 s1.1.2).2))
 (X2 (true,(),())))
 (aC (decide (97≤(↑(Utf8.decode s1.1.1 s1.1.2).1:Int)))
 (dY (aY.iH s1.1.1 (s1.1.2+(Utf8.decode s1.1.1 s1.1.2).2))
 (aY.iH s1.1.1 (s1.1.2+(Utf8.decode s1.1.1 s1.1.2).2))
 (X2 (decide ((↑(Utf8.decode s1.1.1 s1.1.2).1:Int)≤122),(),())))
 (dY (aY.iH s1.1.1 (s1.1.2+(Utf8.decode s1.1.1 s1.1.2).2))
 (aY.iH s1.1.1 (s1.1.2+(Utf8.decode s1.1.1 s1.1.2).2))
 (X2 (false,(),())))))
 (aC (decide (97≤(↑(Utf8.decode s1.1.1 s1.1.2).1:Int)))
 (dY (aY.iH s1.1.1 (s1.1.2+(Utf8.decode s1.1.1 s1.1.2).2))
 (aY.iH s1.1.1 (s1.1.2+(Utf8.decode s1.1.1 s1.1.2).2))
 (X2 (decide ((↑(Utf8.decode s1.1.1 s1.1.2).1:Int)≤122),(),())))
 (dY (aY.iH s1.1.1 (s1.1.2+(Utf8.decode s1.1.1 s1.1.2).2))
 (aY.iH s1.1.1 (s1.1.2+(Utf8.decode s1.1.1 s1.1.2).2))
 (X2 (false,(),())))))
 fun (s3:Bool×PUnit×PUnit) =>
 oQ (Bool×PUnit×PUnit)
 (fun (X4:Bool×PUnit×PUnit→Prop) =>
 aC (decide (48≤(↑(Utf8.decode s1.1.1 s1.1.2).1:Int)))
 (aC (decide ((↑(Utf8.decode s1.1.1 s1.1.2).1:Int)≤57))
 (dY (aY.iH s1.1.1 (s1.1.2+(Utf8.decode s1.1.1 s1.1.2).2))
 (aY.iH s1.1.1 (s1.1.2+(Utf8.decode s1.1.1 s1.1.2).2))
 (X4 (true,(),())))
 (aC (decide ((↑(Utf8.decode s1.1.1 s1.1.2).1:Int)=95))
 (dY (aY.iH s1.1.1 (s1.1.2+(Utf8.decode s1.1.1 s1.1.2).2))
 (aY.iH s1.1.1 (s1.1.2+(Utf8.decode s1.1.1 s1.1.2).2))
 (X4 (true,(),())))
 (dY (aY.iH s1.1.1 (s1.1.2+(Utf8.decode s1.1.1 s1.1.2).2))
 (aY.iH s1.1.1 (s1.1.2+(Utf8.decode s1.1.1 s1.1.2).2))
 (X4 (decide ((↑(Utf8.decode s1.1.1 s1.1.2).1:Int)=45),(),())))))
 (aC (decide ((↑(Utf8.decode s1.1.1 s1.1.2).1:Int)=95))
 (dY (aY.iH s1.1.1 (s1.1.2+(Utf8.decode s1.1.1 s1.1.2).2))
 (aY.iH s1.1.1 (s1.1.2+(Utf8.decode s1.1.1 s1.1.2).2))
 (X4 (true,(),())))
 (dY (aY.iH s1.1.1 (s1.1.2+(Utf8.decode s1.1.1 s1.1.2).2))
 (aY.iH s1.1.1 (s1.1.2+(Utf8.decode s1.1.1 s1.1.2).2))
 (X4 (decide ((↑(Utf8.decode s1.1.1 s1.1.2).1:Int)=45),(),())))))
 fun (s5:Bool×PUnit×PUnit) =>
 aC (!s3.1)
 (aC (decide ((↑s1.1.2:Int)=0)) (R (T.v (.bool false)))
 (aC (!s5.1) (R (T.v (.bool false)))
 (X0 ((s1.1.1,s1.1.2+(Utf8.decode s1.1.1 s1.1.2).2),()))))
 (X0 ((s1.1.1,s1.1.2+(Utf8.decode s1.1.1 s1.1.2).2),())))
 (R (T.v (.bool true))))
 ((a0,0),())))
theorem VQ ( a0 R):bD aX Tryz.prog HZ WT 8 45 [aB false Sy.str a0] R=I5 a0 R:=by kernel_rfl
abbrev A7:Sh:=[(false,Sy.str)]
noncomputable def pL:List T→Option (T):=gS A7 ET
theorem ZC {a0}:pL [T.v (.string a0)]=ET (a0):=aT (s:=A7) rfl (a0) rfl
theorem AL2 (h:∀ a0 r,ET (a0)=some r→bU A7 (a0)→I5 a0 (fun y=>y=r)):aJ Tryz.prog 45 pL :=
 aN (E:=HZ) (Hs:=WT) ACE aU aV (aK rfl) 8 ⟨_,_,Tryz.func45,rfl⟩ rfl fun x r h1 h2=>by
  let a0:=x
  rw[show Sh.bI A7 (a0)=[aB false Sy.str a0] from rfl,VQ]
  exact h a0 r h1 h2
theorem AAK (c:Int) {K:Bool×PUnit×PUnit→Prop} (hX:K (fF c,(),())):oQ (Bool×PUnit×PUnit) (fun X=>aC (decide (65≤c)) (aC (decide (c≤90)) (X (true,(),())) (aC (decide (97≤c)) (X (decide (c≤122),(),())) (X (false,(),())))) (aC (decide (97≤c)) (X (decide (c≤122),(),())) (X (false,(),())))) K:=by
 simp only[pV,pX]
 unfold fF at hX
 by_cases h1:65≤c<;>by_cases h2:c≤90<;>by_cases h3:97≤c<;>by_cases h4:c≤122<;>simp[h1,h2,h3,h4] at hX ⊢ <;> first|exact hX|omega
theorem SX (c:Int) {K:Bool×PUnit×PUnit→Prop} (hX:K (lV c||decide (c=95)||decide (c=45),(),())):oQ (Bool×PUnit×PUnit) (fun X=>aC (decide (48≤c)) (aC (decide (c≤57)) (X (true,(),())) (aC (decide (c=95)) (X (true,(),())) (X (decide (c=45),(),())))) (aC (decide (c=95)) (X (true,(),())) (X (decide (c=45),(),())))) K:=by
 simp only[pV,pX]
 unfold lV at hX
 by_cases h1:48≤c<;>by_cases h2:c≤57<;>by_cases h3:c=95<;>simp[h1,h2,h3] at hX ⊢ <;> first|exact hX|omega
theorem AKN:aJ Tryz.prog 45 pL:=AL2 fun s r h hb=>by
 have h':some (Sh.enc GW (isName s))=some r:=h
 cases h'
 clear h
 unfold I5
 by_cases h0:s.size=0
 ·exact bR (G1.2 h0) (by rw[jG (.inl h0)];rfl)
 refine b7 (fun e=>h0 (G1.1 e)) ?_
 by_cases h16:16<s.size
 ·exact bR (by omega) (by rw[jG (.inr (.inl h16))];rfl)
 refine b7 (by omega) ?_
 refine aR s.size (fun k t=>t=((s,k),())∧∀ i b,i<k→s.data[i]? = some b→nameAt i b=true) ⟨rfl,by simp⟩ ?_
 rintro X k t hk ⟨rfl,hno⟩ hX
 simp only[bY]
 by_cases hlt:k<s.size
 ·refine bR hlt ?_
  have hb:s.data[k]? = some (s[k]'hlt):=by
   rw[Array.getElem?_eq_getElem hlt];rfl
  refine AAK (Utf8.decode s k).1 ?_
  refine SX (Utf8.decode s k).1 ?_
  dsimp only
  have stop:nameAt k (s[k]'hlt)=false→T.v (.bool false)=Sh.enc GW (isName s):=fun hn=>by rw[jG (.inr (.inr ⟨k,_,hb,hn⟩))];rfl
  by_cases hasc:(s[k]'hlt).toNat<128
  ·have hd:=decode_ascii s k hlt hasc
   have go:nameAt k (s[k]'hlt)=true→X ((s,k+(Utf8.decode s k).2),()):=fun hn=>by
    rw[hd]
    exact hX _ hlt ⟨rfl,fun i b' hi hb'=>by
     by_cases e:i=k
     ·subst e;rw[hb] at hb';cases hb';exact hn
     ·exact hno i b' (by omega) hb'⟩
   have e1:((Utf8.decode s k).1:Int)=((s[k]'hlt).toNat:Int):=by rw[hd]
   rw[e1]
   cases hl:fF ((s[k]'hlt).toNat:Int) with
   | true=>rw[Bool.not_true,cO];exact go (by simp[nameAt,hl])
   | false =>
    rw[Bool.not_false,cH]
    by_cases hk0:k=0
    ·exact bR (by omega) (stop (by subst hk0;rw[GB];exact hl))
    ·refine b7 (by omega) ?_
     cases hf:(lV ((s[k]'hlt).toNat:Int)||decide (((s[k]'hlt).toNat:Int)=95)||decide (((s[k]'hlt).toNat:Int)=45)) with
     | true=>rw[Bool.not_true,cO];exact go (by unfold nameAt;rw[hl,hf];simp[hk0])
     | false=>rw[Bool.not_false,cH];exact stop (by unfold nameAt;rw[hl,hf];simp)
  ·obtain ⟨hd1,hd2⟩:=decode_high s k hlt (by omega)
   have hl:fF ((Utf8.decode s k).1:Int)=false:=by
    unfold fF;simp;omega
   have hf:(lV ((Utf8.decode s k).1:Int)||decide (((Utf8.decode s k).1:Int)=95)||decide (((Utf8.decode s k).1:Int)=45))=false:=by
    unfold lV;simp;omega
   have hn:nameAt k (s[k]'hlt)=false:=by
    unfold nameAt fF lV;simp;omega
   rw[hl,hf,Bool.not_false,cH]
   by_cases hk0:k=0
   ·exact bR (by omega) (stop hn)
   ·refine b7 (by omega) ?_
    rw[cH]
    exact stop hn
 ·refine b7 hlt ?_
  rw[PJ h0 (by omega) (fun i b h=>hno i b (by have:=(Array.getElem?_eq_some_iff.1 h).1;have:i<s.size:=this;omega) h)];rfl
noncomputable def QX:Env:=Env.of []
def AHH:FuncId→Hint:=fun f=>match f == 155 with|true=>⟨fun r=>match r == 4 with|true=>.inv [.own 3 1 .str,.val 4 false (.int .i64),.val 5 false (.int .i64)]|false=>.none,fun _ _=>none,fun _=>none⟩|false=>aS
theorem AJB:aF Tryz.prog QX:=aF.nil _
def RO (a0:ByteArray) (R:T→Prop):Prop :=
 bE (List ByteArray×Int×Int×PUnit)
 (fun (X0:List ByteArray×Int×Int×PUnit→Prop) (s1:List ByteArray×Int×Int×PUnit) =>
 aC (decide (s1.2.2.1≤(↑(ByteArray.size a0):Int)))
 (aC (decide (s1.2.2.1=(↑(ByteArray.size a0):Int)))
 (bS
 (decide (0≤s1.2.2.1)&&decide (Int.toNat s1.2.2.1≤ByteArray.size a0) &&
 (decide (0≤s1.2.1)&&decide (Int.toNat s1.2.1≤Int.toNat s1.2.2.1)))
 (bS
 (decide (((List.map Sy.str.enc s1.1).length+1)*16≤140737488355328) &&
 decide ((List.map Sy.str.enc s1.1).length+1≤140737488355328))
 (bA Sy.str
 (List.map Sy.str.enc s1.1 ++
 [[T.v
 (Value.string (ByteArray.extract a0 (Int.toNat s1.2.1) (Int.toNat s1.2.2.1)))]])
 fun (y2:List ByteArray) =>
 X0 (y2,IntKind.i64.wrap (s1.2.2.1+1),IntKind.i64.wrap (s1.2.2.1+1),()))))
 (zB a0 s1.2.2.1 fun (y3:Int) =>
 aC (decide (y3=46))
 (bS
 (decide (0≤s1.2.2.1)&&decide (Int.toNat s1.2.2.1≤ByteArray.size a0) &&
 (decide (0≤s1.2.1)&&decide (Int.toNat s1.2.1≤Int.toNat s1.2.2.1)))
 (bS
 (decide (((List.map Sy.str.enc s1.1).length+1)*16≤140737488355328) &&
 decide ((List.map Sy.str.enc s1.1).length+1≤140737488355328))
 (bA Sy.str
 (List.map Sy.str.enc s1.1 ++
 [[T.v
 (Value.string (ByteArray.extract a0 (Int.toNat s1.2.1) (Int.toNat s1.2.2.1)))]])
 fun (y4:List ByteArray) =>
 X0 (y4,IntKind.i64.wrap (s1.2.2.1+1),IntKind.i64.wrap (s1.2.2.1+1),()))))
 (bA Sy.str (List.map Sy.str.enc s1.1) fun (y5:List ByteArray) =>
 X0 (y5,s1.2.1,IntKind.i64.wrap (s1.2.2.1+1),()))))
 (R (T.sl false (List.map Sy.str.enc s1.1))))
 ([],0,0,())
theorem ADO ( a0 R):bD aX Tryz.prog QX AHH 8 155 [aB false Sy.str a0] R=RO a0 R:=by kernel_rfl
abbrev HG:Sh:=[(false,Sy.str)]
noncomputable def uL:List T→Option (T):=gS HG tR
theorem AFI {a0}:uL [T.v (.string a0)]=tR (a0):=aT (s:=HG) rfl (a0) rfl
theorem ARG (h:∀ a0 r,tR (a0)=some r→bU HG (a0)→RO a0 (fun y=>y=r)):aJ Tryz.prog 155 uL :=
 aN (E:=QX) (Hs:=AHH) AJB aU aV (aK rfl) 8 ⟨_,_,Tryz.func155,rfl⟩ rfl fun x r h1 h2=>by
  let a0:=x
  rw[show Sh.bI HG (a0)=[aB false Sy.str a0] from rfl,ADO]
  exact h a0 r h1 h2
theorem zJ (s:ByteArray) (f k:Nat):(s.extract f k).data.toList=(s.data.toList.drop f).take (k-f):=by
 rw[ByteArray.data_extract,Array.toList_extract,List.extract_eq_take_drop]
theorem APK {s:ByteArray} {f k:Nat} {b:UInt8} (h1:f≤k) (h:s.data[k]? = some b):(s.extract f (k+1)).data.toList=(s.extract f k).data.toList++[b]:=by
 rw[zJ,zJ]
 have e:k+1-f=(k-f)+1:=by omega
 rw[e,List.take_add_one]
 congr 1
 rw[List.getElem?_drop,show f+(k-f)=k by omega,Array.getElem?_toList,h];rfl
theorem APC {s:ByteArray} {k:Nat} {b:UInt8} (h:s.data[k]? = some b):s.data.toList.drop k=b::s.data.toList.drop (k+1):=by
 obtain ⟨hk,e⟩:=Array.getElem?_eq_some_iff.1 h
 rw[List.drop_eq_getElem_cons (by simpa using hk),Array.getElem_toList,e]
theorem APT:aJ Tryz.prog 155 uL:=ARG fun s r h hb=>by
 unfold tR at h
 split at h
 ·rename_i hsz
  have hsz:s.size≤1099511627776:=of_decide_eq_true hsz
  cases h
  unfold RO
  refine aR (s.size+1) (fun k t=>∃ (out:List ByteArray) (f:Nat),t=(out,(f:Int),(k:Int),())∧out.length≤k∧((k≤s.size∧f≤k∧out.map (·.data.toList)++N0 (s.extract f k).data.toList (s.data.toList.drop k)=MT s.data.toList)∨(k=s.size+1∧out=cP s)))
   ⟨[],0,rfl,by simp,.inl ⟨by omega,by omega,by rw[zJ];simp[ABO]⟩⟩ ?_
  rintro X k t hk ⟨out,f,rfl,hol,hJ⟩ hX
  dsimp only
  have hreq:f≤k→k≤s.size→∀ K:Prop,K→bS (decide (0≤(k:Int))&&decide (Int.toNat (k:Int)≤ByteArray.size s)&&(decide (0≤(f:Int))&&decide (Int.toNat (f:Int)≤Int.toNat (k:Int)))) K:=fun h1 h2 K hK=>⟨by simp;omega,hK⟩
  have happ:∀ K:Prop,K→bS (decide (((List.map Sy.str.enc out).length+1)*16≤140737488355328)&&decide ((List.map Sy.str.enc out).length+1≤140737488355328)) K:=fun K hK=>⟨by simp only[List.length_map,Bool.and_eq_true,decide_eq_true_eq];omega,hK⟩
  have hdec:∀ (x:ByteArray) (K:List ByteArray→Prop),K (out++[x])→bA Sy.str (List.map Sy.str.enc out++[[T.v (.string x)]]) K:=fun x K hK=>by
   rw[OX (r:=.str) rfl out _ x rfl];exact hK
  rcases hJ with ⟨hks,hfk,he⟩|⟨rfl,rfl⟩
  ·have hw:IntKind.i64.wrap ((k:Int)+1)=((k+1:Nat):Int):=aO _ (by omega) (by omega)
   refine bR (by omega) ?_
   by_cases hend:k=s.size
   ·subst hend
    refine bR rfl (hreq hfk hks _ (happ _ (hdec _ _ ?_)))
    refine hX _ (by omega) ⟨out++[s.extract f s.size],s.size+1,by rw[hw];simp,by simp;omega,.inr ⟨rfl,parts_eq ?_⟩⟩
    rw[List.drop_eq_nil_of_le (by rw[Array.length_toList];exact Nat.le_refl _),ASB] at he
    rw[←he];simp
   ·refine b7 (by omega) ?_
    obtain ⟨b,hb⟩:=AFR (show k<s.size by omega)
    refine sG hb ?_
    rw[APC hb] at he
    by_cases h46:(b.toNat:Int)=46
    ·refine bR h46 (hreq hfk hks _ (happ _ (hdec _ _ ?_)))
     have hb46:b=46:=by
      apply UInt8.toNat_inj.1
      have:(46:UInt8).toNat=46:=rfl
      omega
     subst hb46
     rw[ASA] at he
     refine hX _ (by omega) ⟨out++[s.extract f k],k+1,by rw[hw];simp,by simp;omega,.inl ⟨by omega,by omega,?_⟩⟩
     rw[←he,zJ s (k+1) (k+1)]
     simp[ABO]
    ·refine b7 h46 ?_
     rw[iO (r:=.str) rfl]
     have hb46:b≠46:=fun e=>h46 (by subst e;rfl)
     rw[ANI _ _ hb46,←APK hfk hb] at he
     exact hX _ (by omega) ⟨out,f,by rw[hw],by omega,.inl ⟨by omega,by omega,he⟩⟩
  ·exact b7 (by omega) rfl
 ·cases h
noncomputable def QU:Env:=Env.of [(45,.pure pL)]
def AHE:FuncId→Hint:=fun f=>match f == 141 with|true=>⟨fun r=>match r == 3 with|true=>.inv [.val 3 false (.int .i64),.val 11 false (.int .i64)]|false=>.none,fun _ _=>none,fun _=>none⟩|false=>aS
theorem AI8:aF Tryz.prog QU:=aF.cons (x:=.pure pL) AKN (aF.nil _)
def RI (a0:List ByteArray) (R:T→Prop):Prop :=
 bE (Int×Int×PUnit)
 (fun (X0:Int×Int×PUnit→Prop) (s1:Int×Int×PUnit) =>
 aC (decide (s1.2.1<(↑(List.map Sy.str.enc a0).length:Int)))
 (aZ Sy.str (List.map Sy.str.enc a0) s1.2.1 fun (y2:ByteArray) =>
 aH [(false,Sy.bool)] (pL [T.v (.string y2)]) fun (y3:Bool) =>
 aC (!y3) (R (T.v (.bool false)))
 (X0 (IntKind.i64.wrap (s1.1+(↑y2.size:Int)),IntKind.i64.wrap (s1.2.1+1),())))
 (aC (decide (1≤(↑(List.map Sy.str.enc a0).length:Int)))
 (aC (decide ((↑(List.map Sy.str.enc a0).length:Int)≤8))
 (R (T.v (.bool (decide (s1.1≤64))))) (R (T.v (.bool false))))
 (R (T.v (.bool false)))))
 (IntKind.i64.wrap ((↑(List.map Sy.str.enc a0).length:Int)-1),0,())
theorem ADI ( a0 R):bD aX Tryz.prog QU AHE 8 141 [aB false Sy.str.li a0] R=RI a0 R:=by kernel_rfl
abbrev HD:Sh:=[(false,Sy.str.li)]
noncomputable def uJ:List T→Option (T):=gS HD tQ
theorem AFG {a0}:uJ [T.sl false (List.map Sy.str.enc a0)]=tQ (a0):=aT (s:=HD) rfl (a0) rfl
theorem ARD (h:∀ a0 r,tQ (a0)=some r→bU HD (a0)→RI a0 (fun y=>y=r)):aJ Tryz.prog 141 uJ :=
 aN (E:=QU) (Hs:=AHE) AI8 aU aV (aK rfl) 8 ⟨_,_,Tryz.func141,rfl⟩ rfl fun x r h1 h2=>by
  let a0:=x
  rw[show Sh.bI HD (a0)=[aB false Sy.str.li a0] from rfl,ADI]
  exact h a0 r h1 h2
theorem yW:∀ (l:List ByteArray) (x:ByteArray),lR (l++[x])=lR l+x.size
 | [],x=>by simp[lR]
 | a::l,x=>by simp only[List.cons_append,lR,yW l x];omega
theorem MX:∀ (l:List ByteArray) (k:Nat),lR (l.take k)≤lR l
 | [],k=>by simp
 | a::l,0=>by simp[lR]
 | a::l,k+1=>by simp only[List.take_succ_cons,lR];have:=MX l k;omega
theorem APS:aJ Tryz.prog 141 uJ:=ARD fun l r h hb=>by
 unfold tQ at h
 split at h
 ·rename_i hsz
  simp only[Bool.and_eq_true,decide_eq_true_eq] at hsz
  obtain ⟨hl65,hs64⟩:=hsz
  cases h
  unfold RI
  refine aR l.length (fun k t=>t=((l.length:Int)-1+lR (l.take k),(k:Int),())∧(l.take k).all isName=true) ⟨by
   simp only[List.take_zero,lR,List.length_map,Prod.mk.injEq,and_true]
   rw[aO _ (by omega) (by omega)];simp,by simp⟩ ?_
  rintro X k t hk ⟨rfl,hall⟩ hX
  dsimp only
  by_cases hlt:k<l.length
  ·refine bR (by simp[hlt]) ?_
   rw[a7 (r:=.str) hlt]
   refine aD (s:=GW) (y:=isName l[k]) ZC ?_
   have hsum:=MX l (k+1)
   have htake:l.take (k+1)=l.take k++[l[k]]:=List.take_succ_eq_append_getElem hlt
   cases hn:isName l[k] with
   | false =>
    rw[Bool.not_false,cH]
    have:l.all isName=false:=by
     rw[Bool.eq_false_iff];intro ha
     have:=List.all_eq_true.1 ha _ (List.getElem_mem hlt)
     rw[hn] at this;cases this
    rw[this];rfl
   | true =>
    rw[Bool.not_true,cO]
    rw[htake,yW] at hsum
    refine hX _ hlt ⟨?_,by rw[htake,List.all_append,hall];simp[hn]⟩
    rw[htake,yW]
    simp only[Prod.mk.injEq,and_true]
    exact ⟨by rw[aO _ (by omega) (by omega)];simp;omega,aO _ (by omega) (by omega)⟩
  ·have:k=l.length:=by omega
   subst this
   rw[List.take_length] at hall
   refine b7 (by simp) ?_
   rw[List.take_length,hall]
   by_cases h1:1≤l.length
   ·refine bR (by simp only[List.length_map];omega) ?_
    by_cases h2:l.length≤8
    ·refine bR (by simp only[List.length_map];omega) ?_
     rw[decide_eq_true h1,decide_eq_true h2];rfl
    ·refine b7 (by simp only[List.length_map];omega) ?_
     rw[decide_eq_false h2,Bool.and_false];rfl
   ·refine b7 (by simp only[List.length_map];omega) ?_
    rw[decide_eq_false h1];rfl
 ·cases h
noncomputable def AB0:Env:=Env.of [(142,.pure pR),(141,.pure uJ)]
def AOE:FuncId→Hint:=fun _=>aS
theorem ANU:aF Tryz.prog AB0:=aF.cons (x:=.pure pR) AK7 (aF.cons (x:=.pure uJ) APS (aF.nil _))
def ADH (a0:ByteArray) (R:T→Prop):Prop :=
 aC (decide ((↑(ByteArray.size a0):Int)≤64))
 (aH [(false,Sy.str.li)]
 (pR [T.v (.string a0),T.v (.string { data:=#[46] })])
 fun (y0:List ByteArray) =>
 aH [(false,Sy.bool)] (uJ [T.sl false (List.map Sy.str.enc y0)])
 fun (y1:Bool)=>R (T.v (.bool y1)))
 (R (T.v (.bool false)))
theorem AJK ( a0 R):bD aX Tryz.prog AB0 AOE 8 99 [aB false Sy.str a0] R=ADH a0 R:=by kernel_rfl
abbrev UB:Sh:=[(false,Sy.str)]
abbrev T2:Sh:=[(false,Sy.bool)]
theorem AA9 (y:Sh.den T2) (K:Sh.den T2→Prop):aH T2 (some (Sh.enc T2 y)) K=K y:=fJ rfl y K
noncomputable def qX:List T→Option (T):=gS UB HO
theorem ALC {a0}:qX [T.v (.string a0)]=HO (a0):=aT (s:=UB) rfl (a0) rfl
theorem AUG (h:∀ a0 r,HO (a0)=some r→bU UB (a0)→ADH a0 (fun y=>y=r)):aJ Tryz.prog 99 qX :=
 aN (E:=AB0) (Hs:=AOE) ANU aU aV (aK rfl) 8 ⟨_,_,Tryz.func99,rfl⟩ rfl fun x r h1 h2=>by
  let a0:=x
  rw[show Sh.bI UB (a0)=[aB false Sy.str a0] from rfl,AJK]
  exact h a0 r h1 h2
theorem ATK:aJ Tryz.prog 99 qX:=AUG fun s r h hb=>by
 have h':some (Sh.enc GW (oD s))=some r:=h
 cases h'
 clear h
 unfold ADH oD
 by_cases h64:s.size≤64
 ·refine bR (by omega) ?_
  have hsum:=P2 s
  have hpos:=AM3 s
  refine aD (s:=AU0) (y:=cP s) ?_ ?_
  ·rw[show pR [T.v (.string s),T.v (.string { data:=#[46] })]=tT (s,dot) from AAA]
   unfold tT
   rw[show decide (s.size<4294967281)=true by simp;omega,show decide (1≤dot.size)=true from rfl]
   rfl
  ·refine aD (s:=GW) (y:=(cP s).all isName&&(decide (1≤(cP s).length)&&decide ((cP s).length≤8)&&decide (AVA (cP s)≤64))) ?_ ?_
   ·rw[AFG]
    unfold tQ
    rw[show (decide ((cP s).length≤65)&&decide (lR (cP s)≤64))=true by simp;omega]
   ·have h1:decide (1≤(cP s).length)=true:=decide_eq_true hpos
    have h2:decide (AVA (cP s)≤64)=true:=decide_eq_true (by unfold AVA;omega)
    have h3:decide (s.size≤64)=true:=decide_eq_true h64
    rw[h1,h2,h3]
    simp[Bool.and_comm,Sh.enc,aB,Sy.enc,PG]
 ·refine b7 (by omega) ?_
  rw[decide_eq_false h64];rfl
noncomputable def HY:Env:=Env.of [(155,.pure uL),(156,.pure kI)]
def WS:FuncId→Hint:=fun f=>match f == 122 with|true=>⟨fun r=>match r == 5 with|true=>.inv [.val 4 false (.int .i64)]|false=>.none,fun _ _=>none,fun _=>none⟩|false=>aS
theorem ACD:aF Tryz.prog HY:=aF.cons (x:=.pure uL) APT (aF.cons (x:=.pure kI) YY (aF.nil _))
def I4 (a0:ByteArray) (R:T→Prop):Prop :=
 aH [(false,Sy.str.li)] (uL [T.v (.string a0)]) fun (y0:List ByteArray) =>
 aC (decide (64<(↑(ByteArray.size a0):Int))) (R (T.v (.bool false)))
 (aC (decide (8<(↑(List.map Sy.str.enc y0).length:Int))) (R (T.v (.bool false)))
 (bE (Int×PUnit)
 (fun (X1:Int×PUnit→Prop) (s2:Int×PUnit) =>
 aC (decide (s2.1<(↑(List.map Sy.str.enc y0).length:Int)))
 (aZ Sy.str (List.map Sy.str.enc y0) s2.1 fun (y3:ByteArray) =>
 aH [(false,Sy.bool)] (kI [T.v (.string y3)])
 fun (y4:Bool) =>
 aC (!y4) (R (T.v (.bool false))) (X1 (IntKind.i64.wrap (s2.1+1),())))
 (R (T.v (.bool true))))
 (0,())))
theorem VP ( a0 R):bD aX Tryz.prog HY WS 8 122 [aB false Sy.str a0] R=I4 a0 R:=by kernel_rfl
abbrev A6:Sh:=[(false,Sy.str)]
noncomputable def lI:List T→Option (T):=gS A6 qB
theorem ZB {a0}:lI [T.v (.string a0)]=qB (a0):=aT (s:=A6) rfl (a0) rfl
theorem AL1 (h:∀ a0 r,qB (a0)=some r→bU A6 (a0)→I4 a0 (fun y=>y=r)):aJ Tryz.prog 122 lI :=
 aN (E:=HY) (Hs:=WS) ACD aU aV (aK rfl) 8 ⟨_,_,Tryz.func122,rfl⟩ rfl fun x r h1 h2=>by
  let a0:=x
  rw[show Sh.bI A6 (a0)=[aB false Sy.str a0] from rfl,VP]
  exact h a0 r h1 h2
theorem AKM:aJ Tryz.prog 122 lI:=AL1 fun s r h hb=>by
 unfold qB at h
 split at h
 ·rename_i hsz
  have h300:s.size≤1099511627776:=of_decide_eq_true hsz
  cases h
  unfold I4 oD
  have hsum:=P2 s
  refine aD (s:=AU0) (y:=cP s) (by rw[AFI];unfold tR;rw[hsz]) ?_
  generalize cP s=l at *
  by_cases h64:64<s.size
  ·refine bR (by omega) ?_
   rw[decide_eq_false (show ¬ s.size≤64 by omega)];rfl
  ·refine b7 (by omega) ?_
   rw[decide_eq_true (show s.size≤64 by omega)]
   by_cases h8:8<l.length
   ·refine bR (by simp only[List.length_map];omega) ?_
    rw[decide_eq_false (show ¬ l.length≤8 by omega)];rfl
   ·refine b7 (by simp only[List.length_map];omega) ?_
    rw[decide_eq_true (show l.length≤8 by omega)]
    refine aR l.length (fun k t=>t=((k:Int),())∧(l.take k).all isName=true) ⟨rfl,by simp⟩ ?_
    rintro X k t hk ⟨rfl,hall⟩ hX
    dsimp only
    by_cases hlt:k<l.length
    ·refine bR (by simp[hlt]) ?_
     rw[a7 (r:=.str) hlt]
     refine aD (s:=GW) (y:=isName l[k]) NP ?_
     cases hn:isName l[k] with
     | false =>
      rw[Bool.not_false,cH]
      have:l.all isName=false:=by
       rw[Bool.eq_false_iff];intro ha
       have:=List.all_eq_true.1 ha _ (List.getElem_mem hlt)
       rw[hn] at this;cases this
      rw[this];rfl
     | true =>
      rw[Bool.not_true,cO]
      exact hX _ hlt ⟨by rw[show IntKind.i64.wrap ((k:Int)+1)=((k+1:Nat):Int) from aO _ (by omega) (by omega)],by rw[List.take_succ_eq_append_getElem hlt,List.all_append,hall];simp[hn]⟩
    ·have:k=l.length:=by omega
     subst this
     rw[List.take_length] at hall
     refine b7 (by simp) ?_
     rw[hall];rfl
 ·cases h
end Go.Pv
namespace Go.Pv
open Go Go.Proofs
def Seen (es:List (ByteArray×Bool)) (S:ByteArray→Prop):Prop:=(∀ id b,sU es id=some b→b=true)∧∀ id,sU es id=some true↔S id
theorem Seen.nil:Seen [] fun _=>False:=⟨fun id b h=>(by cases h),fun id=>⟨fun h=>(by cases h),fun h=>h.elim⟩⟩
theorem Seen.ins {es:List (ByteArray×Bool)} {S:ByteArray→Prop} (h:Seen es S) (k:ByteArray):Seen (D9 es k true) fun id=>S id∨k=id:=by
 refine ⟨fun id b hb=>?_,fun id=>?_⟩
 ·rw[zS] at hb
  split at hb
  ·cases hb;rfl
  ·exact h.1 id b hb
 ·rw[zS]
  split
  ·rename_i e;exact ⟨fun _=>.inr e,fun _=>rfl⟩
  ·rename_i e;rw[h.2];exact ⟨.inl,fun h=>h.resolve_right e⟩
theorem Seen.congr {es:List (ByteArray×Bool)} {S S':ByteArray→Prop} (h:Seen es S) (e:∀ id,S id↔S' id):Seen es S':=⟨h.1,fun id=>(h.2 id).trans (e id)⟩
structure AZ8 (d:aQ):Prop where
 n:d.2.1.length≤140737488355328
 p:d.2.2.1.length≤140737488355328
 s:d.2.2.2.1.length≤140737488355328
 k:d.2.2.2.2.1.length≤140737488355328
 r:d.2.2.2.2.2.length≤140737488355328
end Go.Pv
namespace Go.Pv
open Go Go.Proofs
def AY2:List T→Option T:=fun _=>none
theorem aJ.nil {P:Program} {f:FuncId} (h:∃ fn,P.funcs[f]? = some fn∧(fn.name == "runtime.NumGoroutine")=false∧fn.body.isNone=false):aJ P f AY2:=⟨h,fun _ _ _ _ _ _ _ _ h=>by cases h⟩
theorem PI (s:ByteArray) (K:Bool→Prop):aH [(false,Sy.bool)] (qX [T.v (.string s)]) K=K (oD s):=by
 rw[show qX [T.v (.string s)]=HO s from ALC]
 exact AA9 _ K
end Go.Pv
namespace Go.Pv
abbrev Pt:=Int×Int
def aE (a b c:Pt):Int:=(b.1-a.1)*(c.2-a.2)-(b.2-a.2)*(c.1-a.1)
def pG (n:Int):Int:=if n<0 then -1 else if 0<n then 1 else 0
def G0 (a b q:Pt):Bool:=decide (min a.1 b.1≤q.1)&&decide (q.1≤max a.1 b.1)&&(decide (min a.2 b.2≤q.2)&&decide (q.2≤max a.2 b.2))
def gN (a b q:Pt):Bool:=decide (aE a b q=0)&&G0 a b q
def bJ (a b c d:Pt):Bool:=gN a b c||gN a b d||gN c d a||gN c d b||(decide (pG (aE a b c)*pG (aE a b d)<0)&&decide (pG (aE c d a)*pG (aE c d b)<0))
def bO (q:Pt):Prop:=-32768≤q.1∧q.1≤32768∧-32768≤q.2∧q.2≤32768
theorem x9 {x y M N:Int} (hx:-M≤x∧x≤M) (hy:-N≤y∧y≤N) (hM:0≤M) (hN:0≤N):-(M*N)≤x*y∧x*y≤M*N:=by
 have h1:x.natAbs≤M.toNat:=by omega
 have h2:y.natAbs≤N.toNat:=by omega
 have h3:=Nat.mul_le_mul h1 h2
 rw[←Int.natAbs_mul] at h3
 have h4:((M.toNat*N.toNat:Nat):Int)=M*N:=by
  rw[Int.natCast_mul,Int.toNat_of_nonneg hM,Int.toNat_of_nonneg hN]
 omega
theorem AO8 {a b c:Pt} (ha:bO a) (hb:bO b) (hc:bO c):(-4294967296≤(b.1-a.1)*(c.2-a.2)∧(b.1-a.1)*(c.2-a.2)≤4294967296)∧(-4294967296≤(b.2-a.2)*(c.1-a.1)∧(b.2-a.2)*(c.1-a.1)≤4294967296):=by
 unfold bO at ha hb hc
 have h1:=x9 (x:=b.1-a.1) (y:=c.2-a.2) (M:=65536) (N:=65536) (by omega) (by omega) (by omega) (by omega)
 have h2:=x9 (x:=b.2-a.2) (y:=c.1-a.1) (M:=65536) (N:=65536) (by omega) (by omega) (by omega) (by omega)
 constructor<;>constructor<;>omega
theorem AR7 (n:Int):-1≤pG n∧pG n≤1:=by unfold pG;split<;>(try split)<;>omega
theorem kP (a b c d:Pt):bJ a b c d=bJ c d a b:=by
 unfold bJ
 cases gN a b c<;>cases gN a b d<;>cases gN c d a<;>cases gN c d b<;>simp[Bool.and_comm]
end Go.Pv
namespace Go.Pv
theorem TM (a b u v:Pt):aE u v b-aE u v a+aE a b v-aE a b u=0:=by
 simp only[aE];grind
theorem AY6 (a b u v:Pt):(a.2-u.2)*aE u v b-(b.2-u.2)*aE u v a-(v.2-u.2)*aE a b u=0:=by
 simp only[aE];grind
theorem AY7 (a b u v:Pt):(a.2-v.2)*aE u v b-(b.2-v.2)*aE u v a+(u.2-v.2)*aE a b v=0:=by
 simp only[aE];grind
theorem AY4 (a b u v:Pt):(b.2-a.2)*aE u v a+(v.2-a.2)*aE a b u-(u.2-a.2)*aE a b v=0:=by
 simp only[aE];grind
theorem AY5 (a b u v:Pt):(b.2-a.2)*aE u v b+(v.2-b.2)*aE a b u-(u.2-b.2)*aE a b v=0:=by
 simp only[aE];grind
end Go.Pv
namespace Go.Pv
def hit (a b q:Pt):Bool:=(decide (a.2≤q.2)&&decide (q.2<b.2)&&decide (0<aE a b q))||(decide (b.2≤q.2)&&decide (q.2<a.2)&&decide (aE a b q<0))
def dr (u v w:Pt):Bool:=decide (u.2<w.2)&&decide (w.2≤v.2)&&decide (aE u v w<0)
theorem e9 (a b q:Pt):aE b a q = - aE a b q:=by simp only[aE];grind
theorem AAF (a b q:Pt):hit a b q=hit b a q:=by
 have e1:decide (0<aE b a q)=decide (aE a b q<0):=decide_eq_decide.2 (by rw[e9 a b q];omega)
 have e2:decide (aE b a q<0)=decide (0<aE a b q):=decide_eq_decide.2 (by rw[e9 a b q];omega)
 unfold hit
 rw[e1,e2,Bool.or_comm]
theorem AW8 {a b q:Pt} (h:aE a b q=0) (hab:a.2<b.2) (h1:a.2≤q.2) (h2:q.2≤b.2):G0 a b q=true:=by
 have e:(b.1-a.1)*(q.2-a.2)=(b.2-a.2)*(q.1-a.1):=by unfold aE at h;omega
 have hx:min a.1 b.1≤q.1∧q.1≤max a.1 b.1:=by
  rcases Int.le_total a.1 b.1 with hd|hd
  ·have m1:=Int.mul_nonneg (show 0≤b.1-a.1 by omega) (show 0≤q.2-a.2 by omega)
   have m2:(b.1-a.1)*(q.2-a.2)≤(b.1-a.1)*(b.2-a.2):=Int.mul_le_mul_of_nonneg_left (by omega) (by omega)
   have p1:0≤q.1-a.1:=by
    refine Int.not_lt.1 fun h=>?_
    have:=Int.mul_neg_of_pos_of_neg (show 0<b.2-a.2 by omega) h
    omega
   have p2:q.1-a.1≤b.1-a.1:=by
    refine Int.not_lt.1 fun h=>?_
    have h3:=Int.mul_lt_mul_of_pos_left h (show 0<b.2-a.2 by omega)
    have h4:(b.2-a.2)*(b.1-a.1)=(b.1-a.1)*(b.2-a.2):=Int.mul_comm _ _
    omega
   omega
  ·have m1:=Int.mul_nonneg (show 0≤a.1-b.1 by omega) (show 0≤q.2-a.2 by omega)
   have m2:(a.1-b.1)*(q.2-a.2)≤(a.1-b.1)*(b.2-a.2):=Int.mul_le_mul_of_nonneg_left (by omega) (by omega)
   have e1:(a.1-b.1)*(q.2-a.2) = - ((b.1-a.1)*(q.2-a.2)):=by grind
   have p1:q.1-a.1≤0:=by
    refine Int.not_lt.1 fun h=>?_
    have:=Int.mul_pos (show 0<b.2-a.2 by omega) h
    omega
   have p2:b.1-a.1≤q.1-a.1:=by
    refine Int.not_lt.1 fun h=>?_
    have h3:=Int.mul_lt_mul_of_pos_left h (show 0<b.2-a.2 by omega)
    have h4:(a.1-b.1)*(b.2-a.2) = - ((b.2-a.2)*(b.1-a.1)):=by grind
    omega
   omega
 simp only[G0,Bool.and_eq_true,decide_eq_true_eq]
 omega
theorem j6 {a b q:Pt} (h:aE a b q=0) (hab:a.2<b.2) (h1:a.2≤q.2) (h2:q.2≤b.2):gN a b q=true:=by
 unfold gN;rw[decide_eq_true h,AW8 h hab h1 h2];rfl
theorem TX {a b q:Pt} (h1:a.2=q.2) (h2:b.2=q.2) (h3:min a.1 b.1≤q.1) (h4:q.1≤max a.1 b.1):gN a b q=true:=by
 unfold gN G0 aE
 simp only[Bool.and_eq_true,decide_eq_true_eq]
 refine ⟨?_,⟨h3,h4⟩,by omega⟩
 rw[h1,h2];grind
theorem lK {a b u v:Pt} (hm:bJ a b u v=false):¬ (((0<aE a b u∧aE a b v<0)∨(aE a b u<0∧0<aE a b v))∧((0<aE u v a∧aE u v b<0)∨(aE u v a<0∧0<aE u v b))):=by
 rintro ⟨h1,h2⟩
 have s1:pG (aE a b u)*pG (aE a b v)<0:=by
  unfold pG
  rcases h1 with ⟨h,h'⟩|⟨h,h'⟩
  ·rw[if_neg (by omega),if_pos h,if_pos h'];decide
  ·rw[if_pos h,if_neg (by omega),if_pos h'];decide
 have s2:pG (aE u v a)*pG (aE u v b)<0:=by
  unfold pG
  rcases h2 with ⟨h,h'⟩|⟨h,h'⟩
  ·rw[if_neg (by omega),if_pos h,if_pos h'];decide
  ·rw[if_pos h,if_neg (by omega),if_pos h'];decide
 simp[bJ,s1,s2] at hm
theorem nN {a b u v:Pt} (hm:bJ a b u v=false):gN a b u=false∧gN a b v=false∧gN u v a=false∧gN u v b=false:=by
 simp only[bJ,Bool.or_eq_false_iff] at hm
 exact ⟨hm.1.1.1.1,hm.1.1.1.2,hm.1.1.2,hm.1.2⟩
theorem AA8 {a b u v:Pt} (huv:u.2≤v.2) (hm:bJ a b u v=false) (h1:a.2≤u.2) (h2:v.2<b.2):0<aE a b u↔0<aE a b v:=by
 obtain ⟨n1,n2,n3,n4⟩:=nN hm
 have ms:=lK hm
 have i1:=TM a b u v
 have i2:=AY6 a b u v
 have i3:=AY7 a b u v
 have z1:aE a b u≠0:=fun h=>by rw[j6 h (by omega) h1 (by omega)] at n1;cases n1
 have z2:aE a b v≠0:=fun h=>by rw[j6 h (by omega) (by omega) (by omega)] at n2;cases n2
 have e1:(a.2-u.2)*aE u v b = - ((u.2-a.2)*aE u v b):=by grind
 have e2:(a.2-v.2)*aE u v b = - ((v.2-a.2)*aE u v b):=by grind
 have e3:(u.2-v.2)*aE a b v = - ((v.2-u.2)*aE a b v):=by grind
 have flat:u.2=v.2→a.2=u.2→((0<aE a b u∧aE a b v<0)∨(aE a b u<0∧0<aE a b v))→False:=by
  intro g1 g2 g3
  have c1:aE a b u = -((b.2-a.2)*(u.1-a.1)):=by unfold aE;rw[g2];grind
  have c2:aE a b v = -((b.2-a.2)*(v.1-a.1)):=by unfold aE;rw[g2,g1];grind
  have sg:∀ x:Int,(0<(b.2-a.2)*x→0<x)∧((b.2-a.2)*x<0→x<0):=fun x=>by
   refine ⟨fun h=>Int.not_le.1 fun hx=>?_,fun h=>Int.not_le.1 fun hx=>?_⟩
   ·have:=Int.mul_nonpos_of_nonneg_of_nonpos (show 0≤b.2-a.2 by omega) hx
    omega
   ·have:=Int.mul_nonneg (show 0≤b.2-a.2 by omega) hx
    omega
  have k1:=sg (u.1-a.1)
  have k2:=sg (v.1-a.1)
  have:gN u v a=true:=TX (by omega) (by omega) (by omega) (by omega)
  rw[this] at n3;cases n3
 constructor
 ·intro t1
  refine Int.not_le.1 fun t2=>?_
  have t2:aE a b v<0:=by omega
  have b1:=Int.mul_nonneg (show 0≤v.2-u.2 by omega) (Int.le_of_lt t1)
  have b2:=Int.mul_nonpos_of_nonneg_of_nonpos (show 0≤v.2-u.2 by omega) (Int.le_of_lt t2)
  rcases Int.lt_or_le (aE u v a) 0 with s1|s1
  ·rcases Int.lt_or_le 0 (aE u v b) with s2|s2
   ·exact ms ⟨.inl ⟨t1,t2⟩,.inr ⟨s1,s2⟩⟩
   ·have c1:=Int.mul_nonpos_of_nonneg_of_nonpos (show 0≤v.2-a.2 by omega) s2
    have c2:=Int.mul_neg_of_pos_of_neg (show 0<b.2-v.2 by omega) s1
    omega
  ·have s2:0<aE u v b:=by omega
   have c1:=Int.mul_nonneg (show 0≤u.2-a.2 by omega) (Int.le_of_lt s2)
   have c2:=Int.mul_nonneg (show 0≤b.2-u.2 by omega) s1
   have g1:v.2-u.2=0:=by
    refine Classical.byContradiction fun h=>?_
    have:=Int.mul_pos (show 0<v.2-u.2 by omega) t1
    omega
   have g2:u.2-a.2=0:=by
    refine Classical.byContradiction fun h=>?_
    have:=Int.mul_pos (show 0<u.2-a.2 by omega) s2
    omega
   exact flat (by omega) (by omega) (.inl ⟨t1,t2⟩)
 ·intro t2
  refine Int.not_le.1 fun t1=>?_
  have t1:aE a b u<0:=by omega
  have b2:=Int.mul_nonneg (show 0≤v.2-u.2 by omega) (Int.le_of_lt t2)
  have b1:=Int.mul_nonpos_of_nonneg_of_nonpos (show 0≤v.2-u.2 by omega) (Int.le_of_lt t1)
  rcases Int.lt_or_le 0 (aE u v a) with s1|s1
  ·rcases Int.lt_or_le (aE u v b) 0 with s2|s2
   ·exact ms ⟨.inr ⟨t1,t2⟩,.inl ⟨s1,s2⟩⟩
   ·have c1:=Int.mul_nonneg (show 0≤v.2-a.2 by omega) s2
    have c2:=Int.mul_pos (show 0<b.2-v.2 by omega) s1
    omega
  ·have s2:aE u v b<0:=by omega
   have c1:=Int.mul_nonpos_of_nonneg_of_nonpos (show 0≤u.2-a.2 by omega) (Int.le_of_lt s2)
   have c2:=Int.mul_nonpos_of_nonneg_of_nonpos (show 0≤b.2-u.2 by omega) s1
   have g1:v.2-u.2=0:=by
    refine Classical.byContradiction fun h=>?_
    have:=Int.mul_neg_of_pos_of_neg (show 0<v.2-u.2 by omega) t1
    omega
   have g2:u.2-a.2=0:=by
    refine Classical.byContradiction fun h=>?_
    have:=Int.mul_neg_of_pos_of_neg (show 0<u.2-a.2 by omega) s2
    omega
   exact flat (by omega) (by omega) (.inr ⟨t1,t2⟩)
end Go.Pv
namespace Go.Pv
theorem AUW {a b u v:Pt} (hm:bJ a b u v=false) (h1:a.2≤u.2) (h2:u.2<b.2) (h3:b.2≤v.2):0<aE a b u↔aE u v b<0:=by
 obtain ⟨n1,n2,n3,n4⟩:=nN hm
 have ms:=lK hm
 have i2:=AY6 a b u v
 have i4:=AY5 a b u v
 have z1:aE a b u≠0:=fun h=>by rw[j6 h (by omega) h1 (by omega)] at n1;cases n1
 have z2:aE u v b≠0:=fun h=>by rw[j6 h (by omega) (by omega) (by omega)] at n4;cases n4
 have e1:(a.2-u.2)*aE u v b = - ((u.2-a.2)*aE u v b):=by grind
 have e2:(u.2-b.2)*aE a b v = - ((b.2-u.2)*aE a b v):=by grind
 constructor
 ·intro t1
  refine Int.not_le.1 fun s2=>?_
  have s2:0<aE u v b:=by omega
  have c1:=Int.mul_pos (show 0<b.2-a.2 by omega) s2
  have c2:=Int.mul_nonneg (show 0≤v.2-b.2 by omega) (Int.le_of_lt t1)
  have t2:aE a b v<0:=Int.not_le.1 fun h=>by
   have:=Int.mul_nonneg (show 0≤b.2-u.2 by omega) h
   omega
  have c3:=Int.mul_nonneg (show 0≤u.2-a.2 by omega) (Int.le_of_lt s2)
  have c4:=Int.mul_pos (show 0<v.2-u.2 by omega) t1
  have s1:aE u v a<0:=Int.not_le.1 fun h=>by
   have:=Int.mul_nonneg (show 0≤b.2-u.2 by omega) h
   omega
  exact ms ⟨.inl ⟨t1,t2⟩,.inr ⟨s1,s2⟩⟩
 ·intro s2
  refine Int.not_le.1 fun t1=>?_
  have t1:aE a b u<0:=by omega
  have c1:=Int.mul_neg_of_pos_of_neg (show 0<b.2-a.2 by omega) s2
  have c2:=Int.mul_nonpos_of_nonneg_of_nonpos (show 0≤v.2-b.2 by omega) (Int.le_of_lt t1)
  have t2:0<aE a b v:=Int.not_le.1 fun h=>by
   have:=Int.mul_nonpos_of_nonneg_of_nonpos (show 0≤b.2-u.2 by omega) h
   omega
  have c3:=Int.mul_nonpos_of_nonneg_of_nonpos (show 0≤u.2-a.2 by omega) (Int.le_of_lt s2)
  have c4:=Int.mul_neg_of_pos_of_neg (show 0<v.2-u.2 by omega) t1
  have s1:0<aE u v a:=Int.not_le.1 fun h=>by
   have:=Int.mul_nonpos_of_nonneg_of_nonpos (show 0≤b.2-u.2 by omega) h
   omega
  exact ms ⟨.inr ⟨t1,t2⟩,.inl ⟨s1,s2⟩⟩
theorem ARQ {a b u v:Pt} (hm:bJ a b u v=false) (h1:u.2<a.2) (h2:a.2≤v.2) (h3:v.2<b.2):0<aE a b v↔aE u v a<0:=by
 obtain ⟨n1,n2,n3,n4⟩:=nN hm
 have ms:=lK hm
 have i3:=AY7 a b u v
 have i4:=AY4 a b u v
 have z1:aE a b v≠0:=fun h=>by rw[j6 h (by omega) h2 (by omega)] at n2;cases n2
 have z2:aE u v a≠0:=fun h=>by rw[j6 h (by omega) (by omega) (by omega)] at n3;cases n3
 have e1:(a.2-v.2)*aE u v b = - ((v.2-a.2)*aE u v b):=by grind
 have e2:(u.2-v.2)*aE a b v = - ((v.2-u.2)*aE a b v):=by grind
 have e3:(u.2-a.2)*aE a b v = - ((a.2-u.2)*aE a b v):=by grind
 constructor
 ·intro t2
  refine Int.not_le.1 fun s1=>?_
  have s1:0<aE u v a:=by omega
  have c1:=Int.mul_pos (show 0<b.2-v.2 by omega) s1
  have c2:=Int.mul_pos (show 0<v.2-u.2 by omega) t2
  have c3:=Int.mul_pos (show 0<b.2-a.2 by omega) s1
  have c4:=Int.mul_pos (show 0<a.2-u.2 by omega) t2
  have s2:aE u v b<0:=Int.not_le.1 fun h=>by
   have:=Int.mul_nonneg (show 0≤v.2-a.2 by omega) h
   omega
  have t1:aE a b u<0:=Int.not_le.1 fun h=>by
   have:=Int.mul_nonneg (show 0≤v.2-a.2 by omega) h
   omega
  exact ms ⟨.inr ⟨t1,t2⟩,.inl ⟨s1,s2⟩⟩
 ·intro s1
  refine Int.not_le.1 fun t2=>?_
  have t2:aE a b v<0:=by omega
  have c1:=Int.mul_neg_of_pos_of_neg (show 0<b.2-v.2 by omega) s1
  have c2:=Int.mul_neg_of_pos_of_neg (show 0<v.2-u.2 by omega) t2
  have c3:=Int.mul_neg_of_pos_of_neg (show 0<b.2-a.2 by omega) s1
  have c4:=Int.mul_neg_of_pos_of_neg (show 0<a.2-u.2 by omega) t2
  have s2:0<aE u v b:=Int.not_le.1 fun h=>by
   have:=Int.mul_nonpos_of_nonneg_of_nonpos (show 0≤v.2-a.2 by omega) h
   omega
  have t1:0<aE a b u:=Int.not_le.1 fun h=>by
   have:=Int.mul_nonpos_of_nonneg_of_nonpos (show 0≤v.2-a.2 by omega) h
   omega
  exact ms ⟨.inl ⟨t1,t2⟩,.inr ⟨s1,s2⟩⟩
theorem AUX {a b u v:Pt} (hm:bJ a b u v=false) (h1:u.2<a.2) (h2:a.2≤b.2) (h3:b.2≤v.2):aE u v a<0↔aE u v b<0:=by
 obtain ⟨n1,n2,n3,n4⟩:=nN hm
 have ms:=lK hm
 have i1:=TM a b u v
 have i3:=AY4 a b u v
 have i4:=AY5 a b u v
 have z1:aE u v a≠0:=fun h=>by rw[j6 h (by omega) (by omega) (by omega)] at n3;cases n3
 have z2:aE u v b≠0:=fun h=>by rw[j6 h (by omega) (by omega) (by omega)] at n4;cases n4
 have e2:(u.2-a.2)*aE a b v = - ((a.2-u.2)*aE a b v):=by grind
 have e3:(u.2-b.2)*aE a b v = - ((b.2-u.2)*aE a b v):=by grind
 have flat:a.2=b.2→v.2=b.2→((aE u v a<0∧0<aE u v b)∨(0<aE u v a∧aE u v b<0))→False:=by
  intro g1 g2 g3
  have c1:aE u v a=(v.2-u.2)*(v.1-a.1):=by unfold aE;rw[show a.2=v.2 by omega];grind
  have c2:aE u v b=(v.2-u.2)*(v.1-b.1):=by unfold aE;rw[show b.2=v.2 by omega];grind
  have sg:∀ x:Int,(0<(v.2-u.2)*x→0<x)∧((v.2-u.2)*x<0→x<0):=fun x=>by
   refine ⟨fun h=>Int.not_le.1 fun hx=>?_,fun h=>Int.not_le.1 fun hx=>?_⟩
   ·have:=Int.mul_nonpos_of_nonneg_of_nonpos (show 0≤v.2-u.2 by omega) hx
    omega
   ·have:=Int.mul_nonneg (show 0≤v.2-u.2 by omega) hx
    omega
  have k1:=sg (v.1-a.1)
  have k2:=sg (v.1-b.1)
  have:gN a b v=true:=TX (by omega) (by omega) (by omega) (by omega)
  rw[this] at n2;cases n2
 constructor
 ·intro s1
  refine Int.not_le.1 fun s2=>?_
  have s2:0<aE u v b:=by omega
  have d1:=Int.mul_nonpos_of_nonneg_of_nonpos (show 0≤b.2-a.2 by omega) (Int.le_of_lt s1)
  have d2:=Int.mul_nonneg (show 0≤b.2-a.2 by omega) (Int.le_of_lt s2)
  rcases Int.lt_or_le (aE a b v) 0 with t2|t2
  ·rcases Int.lt_or_le 0 (aE a b u) with t1|t1
   ·exact ms ⟨.inl ⟨t1,t2⟩,.inr ⟨s1,s2⟩⟩
   ·have c1:=Int.mul_nonpos_of_nonneg_of_nonpos (show 0≤v.2-a.2 by omega) t1
    have c2:=Int.mul_neg_of_pos_of_neg (show 0<a.2-u.2 by omega) t2
    omega
  ·have t1:0<aE a b u:=by omega
   have c1:=Int.mul_nonneg (show 0≤v.2-b.2 by omega) (Int.le_of_lt t1)
   have c2:=Int.mul_nonneg (show 0≤b.2-u.2 by omega) t2
   have g1:b.2-a.2=0:=Classical.byContradiction fun h=>by
    have:=Int.mul_pos (show 0<b.2-a.2 by omega) s2
    omega
   have g2:v.2-b.2=0:=Classical.byContradiction fun h=>by
    have:=Int.mul_pos (show 0<v.2-b.2 by omega) t1
    omega
   exact flat (by omega) (by omega) (.inl ⟨s1,s2⟩)
 ·intro s2
  refine Int.not_le.1 fun s1=>?_
  have s1:0<aE u v a:=by omega
  have d1:=Int.mul_nonneg (show 0≤b.2-a.2 by omega) (Int.le_of_lt s1)
  have d2:=Int.mul_nonpos_of_nonneg_of_nonpos (show 0≤b.2-a.2 by omega) (Int.le_of_lt s2)
  rcases Int.lt_or_le 0 (aE a b v) with t2|t2
  ·rcases Int.lt_or_le (aE a b u) 0 with t1|t1
   ·exact ms ⟨.inr ⟨t1,t2⟩,.inl ⟨s1,s2⟩⟩
   ·have c1:=Int.mul_nonneg (show 0≤v.2-a.2 by omega) t1
    have c2:=Int.mul_pos (show 0<a.2-u.2 by omega) t2
    omega
  ·have t1:aE a b u<0:=by omega
   have c1:=Int.mul_nonpos_of_nonneg_of_nonpos (show 0≤v.2-b.2 by omega) (Int.le_of_lt t1)
   have c2:=Int.mul_nonpos_of_nonneg_of_nonpos (show 0≤b.2-u.2 by omega) t2
   have g1:b.2-a.2=0:=Classical.byContradiction fun h=>by
    have:=Int.mul_neg_of_pos_of_neg (show 0<b.2-a.2 by omega) s2
    omega
   have g2:v.2-b.2=0:=Classical.byContradiction fun h=>by
    have:=Int.mul_neg_of_pos_of_neg (show 0<v.2-b.2 by omega) t1
    omega
   exact flat (by omega) (by omega) (.inr ⟨s1,s2⟩)
theorem OY {a b u v:Pt} (huv:u.2≤v.2) (hab:a.2≤b.2) (hm:bJ a b u v=false):(hit a b u ^^ hit a b v)=(dr u v a ^^ dr u v b):=by
 have dn:∀ q:Pt,(decide (b.2≤q.2)&&decide (q.2<a.2)&&decide (aE a b q<0))=false:=fun q=>by
  rw[Bool.eq_false_iff];intro h;simp only[Bool.and_eq_true,decide_eq_true_eq] at h;omega
 unfold hit dr
 rw[dn u,dn v,Bool.or_false,Bool.or_false]
 rcases Int.lt_or_le u.2 b.2 with hb|hb
 ·rcases Int.lt_or_le v.2 a.2 with ha|ha
  ·simp[show ¬ a.2≤u.2 by omega,show ¬ a.2≤v.2 by omega,show ¬ b.2≤v.2 by omega]
  ·rcases Int.lt_or_le u.2 a.2 with ha2|ha2
   ·rcases Int.lt_or_le v.2 b.2 with hb2|hb2
    ·have:=ARQ hm ha2 ha hb2
     simp[show ¬ a.2≤u.2 by omega,ha,hb2,show ¬ b.2≤v.2 by omega,ha2,this]
    ·have:=AUX hm ha2 hab hb2
     simp[show ¬ a.2≤u.2 by omega,ha,show ¬ v.2<b.2 by omega,hb2,ha2,hb,this]
   ·rcases Int.lt_or_le v.2 b.2 with hb2|hb2
    ·have:=AA8 huv hm ha2 hb2
     simp[ha2,ha,hb,hb2,show ¬ b.2≤v.2 by omega,show ¬ u.2<a.2 by omega,this]
    ·have:=AUW hm ha2 hb hb2
     simp[ha2,ha,hb,hb2,show ¬ v.2<b.2 by omega,show ¬ u.2<a.2 by omega,this]
 ·simp[show ¬ u.2<b.2 by omega,show ¬ v.2<b.2 by omega,show ¬ u.2<a.2 by omega]
end Go.Pv
namespace Go.Pv
theorem AOY (a b q:Pt):G0 b a q=G0 a b q:=by unfold G0;rw[Int.min_comm b.1,Int.max_comm b.1,Int.min_comm b.2,Int.max_comm b.2]
theorem G5 (a b q:Pt):gN b a q=gN a b q:=by
 unfold gN;rw[AOY,e9 a b q]
 congr 1
 exact decide_eq_decide.2 (by omega)
theorem AIX (n:Int):pG (-n) = - pG n:=by unfold pG;split<;>split<;>(try split)<;>omega
theorem ED (a b u v:Pt):bJ b a u v=bJ a b u v:=by
 unfold bJ
 rw[G5 a b u,G5 a b v,e9 a b u,e9 a b v,AIX,AIX,Int.neg_mul_neg,Int.mul_comm (pG (aE u v b))]
 cases gN a b u<;>cases gN a b v<;>cases gN u v a<;>cases gN u v b<;>rfl
theorem LV (a b u v:Pt):bJ a b v u=bJ a b u v:=by rw[kP a b v u,ED,kP u v a b]
theorem KT {a b u v:Pt} (huv:u.2≤v.2) (hm:bJ a b u v=false):(hit a b u ^^ hit a b v)=(dr u v a ^^ dr u v b):=by
 rcases Int.le_total a.2 b.2 with h|h
 ·exact OY huv h hm
 ·rw[AAF a b u,AAF a b v,Bool.xor_comm (dr u v a)]
  exact OY huv h (by rw[ED];exact hm)
def eD:Nat→(Nat→Bool)→Bool
 | 0,_=>false
 | n+1,f=>eD n f ^^ f n
theorem fU {f g:Nat→Bool}:∀ {n:Nat},(∀ i,i<n→f i=g i)→eD n f=eD n g
 | 0,_=>rfl
 | n+1,h=>by rw[eD,eD,fU fun i hi=>h i (by omega),h n (by omega)]
theorem lT (f g:Nat→Bool):∀ n:Nat,eD n (fun i=>f i ^^ g i)=(eD n f ^^ eD n g)
 | 0=>rfl
 | n+1=>by
  rw[eD,eD,eD,lT f g n]
  cases eD n f<;>cases eD n g<;>cases f n<;>cases g n<;>rfl
theorem M5 (f:Nat→Bool):∀ n:Nat,eD (n+1) f=(f 0 ^^ eD n fun i=>f (i+1))
 | 0=>by simp[eD]
 | n+1=>by
  rw[eD,M5 f n,eD]
  cases f 0<;>cases f (n+1)<;>cases eD n (fun i=>f (i+1))<;>rfl
theorem ASL (d:Nat→Bool) (n:Nat):eD n (fun i=>d ((i+1) % n))=eD n d:=by
 cases n with
 | zero=>rfl
 | succ m =>
  rw[M5 d m,eD,Nat.mod_self]
  rw[fU (g:=fun i=>d (i+1)) fun i hi=>by rw[Nat.mod_eq_of_lt (by omega)]]
  cases d 0<;>cases eD m (fun i=>d (i+1))<;>rfl
theorem qL (d:Nat→Bool) (n:Nat):eD n (fun i=>d i ^^ d ((i+1) % n))=false:=by
 rw[lT,ASL];cases eD n d<;>rfl
def pt (p:List Pt) (i:Nat):Pt:=p.getD i (0,0)
def nx (p:List Pt) (i:Nat):Pt:=pt p ((i+1) % p.length)
def eH (p:List Pt) (q:Pt):Bool:=eD p.length fun i=>hit (pt p i) (nx p i) q
theorem F6 {p:List Pt} {u v:Pt} (huv:u.2≤v.2) (h:∀ i,i<p.length→bJ (pt p i) (nx p i) u v=false):eH p u=eH p v:=by
 have e:(eH p u ^^ eH p v)=false:=by
  unfold eH
  rw[←lT,fU fun i hi=>KT huv (h i hi)]
  exact qL (fun i=>dr u v (pt p i)) p.length
 revert e
 cases eH p u<;>cases eH p v<;>simp
theorem xB {p:List Pt} {u v:Pt} (h:∀ i,i<p.length→bJ (pt p i) (nx p i) u v=false):eH p u=eH p v:=by
 rcases Int.le_total u.2 v.2 with huv|huv
 ·exact F6 huv h
 ·exact (F6 huv fun i hi=>by rw[LV];exact h i hi).symm
end Go.Pv
namespace Go.Pv
open Go Go.Proofs
instance AZ5 (q:Pt):Decidable (bO q):=by unfold bO;infer_instance
theorem cM {a b:Bool} (h:a=b):T.v (.bool a)=T.v (.bool b):=by rw[h]
theorem o8 {a b:Int} (h:a=b):T.v (.int .i64 a)=T.v (.int .i64 b):=by rw[h]
def tE {α:Type} (a b c:Pt) (r:α):Option α:=match decide (bO a∧bO b∧bO c) with
 | true=>some r
 | false=>none
theorem nO {α:Type} {a b c:Pt} {t r:α} (h:tE a b c t=some r):bO a∧bO b∧bO c∧r=t:=by
 unfold tE at h;split at h
 ·rename_i hc
  cases h
  obtain ⟨h1,h2,h3⟩:=of_decide_eq_true hc
  exact ⟨h1,h2,h3,rfl⟩
 ·cases h
theorem nP {α:Type} {a b c:Pt} (t:α) (ha:bO a) (hb:bO b) (hc:bO c):tE a b c t=some t:=by unfold tE;rw[decide_eq_true ⟨ha,hb,hc⟩]
theorem rT {a b c:Pt} (ha:bO a) (hb:bO b) (hc:bO c):IntKind.i64.wrap (IntKind.i64.wrap (IntKind.i64.wrap (b.1-a.1)*IntKind.i64.wrap (c.2-a.2))-IntKind.i64.wrap (IntKind.i64.wrap (b.2-a.2)*IntKind.i64.wrap (c.1-a.1)))=aE a b c:=by
 have h:=AO8 ha hb hc
 unfold bO at ha hb hc
 rw[aO (b.1-a.1) (by omega) (by omega),aO (c.2-a.2) (by omega) (by omega),aO (b.2-a.2) (by omega) (by omega),aO (c.1-a.1) (by omega) (by omega),
  aO ((b.1-a.1)*(c.2-a.2)) (by omega) (by omega),aO ((b.2-a.2)*(c.1-a.1)) (by omega) (by omega),aO _ (by omega) (by omega)]
 rfl
theorem lS (m n:Int):IntKind.i64.wrap (pG m*pG n)=pG m*pG n:=by
 have h:=x9 (AR7 m) (AR7 n) (by omega) (by omega)
 exact aO _ (by omega) (by omega)
theorem tD (a b:Int):(if b<a then b else a)=min a b:=by omega
theorem tA (a b:Int):(if a<b then b else a)=max a b:=by omega
noncomputable def IG:Env:=Env.of []
def W8:FuncId→Hint:=fun _=>aS
theorem ACU:aF Tryz.prog IG:=aF.nil _
def JL (a0:aI) (a1:aI) (a2:aI) (R:T→Prop):Prop :=
 R
 (T.v
 (Value.int IntKind.i64
 (IntKind.i64.wrap
 (IntKind.i64.wrap (IntKind.i64.wrap (a1.1-a0.1)*IntKind.i64.wrap (a2.2-a0.2)) -
 IntKind.i64.wrap (IntKind.i64.wrap (a1.2-a0.2)*IntKind.i64.wrap (a2.1-a0.1))))))
theorem V5 ( a0 a1 a2 R):bD aX Tryz.prog IG W8 8 199 [aB true aA a0,aB true aA a1,aB true aA a2] R=JL a0 a1 a2 R:=by kernel_rfl
abbrev BL:Sh:=[(true,aA),(true,aA),(true,aA)]
def E5 (x:aI×aI×aI):Option T:=tE x.1 x.2.1 x.2.2 (T.v (Value.int .i64 (aE x.1 x.2.1 x.2.2)))
noncomputable def cZ:List T→Option (T):=gS BL E5
theorem ZS {a0 a1 a2}:cZ [aB true aA a0,aB true aA a1,aB true aA a2]=E5 (a0,a1,a2):=aT (s:=BL) rfl (a0,a1,a2) rfl
theorem AMH (h:∀ a0 a1 a2 r,E5 (a0,a1,a2)=some r→bU BL (a0,a1,a2)→JL a0 a1 a2 (fun y=>y=r)):aJ Tryz.prog 199 cZ :=
 aN (E:=IG) (Hs:=W8) ACU aU aV (aK rfl) 8 ⟨_,_,Tryz.func199,rfl⟩ rfl fun x r h1 h2=>by
  obtain ⟨a0,a1,a2⟩:=x
  rw[show Sh.bI BL (a0,a1,a2)=[aB true aA a0,aB true aA a1,aB true aA a2] from rfl,V5]
  exact h a0 a1 a2 r h1 h2
theorem uF:aJ Tryz.prog 199 cZ:=AMH fun a b c r h hb=>by
 obtain ⟨h1,h2,h3,rfl⟩:=nO h
 unfold JL
 exact o8 (rT h1 h2 h3)
theorem gV {a b c:Pt} (h1:bO a) (h2:bO b) (h3:bO c):cZ [aB true aA a,aB true aA b,aB true aA c]=some (Sh.enc [(false,.int .i64)] (aE a b c)):=(ZS ..).trans (nP _ h1 h2 h3)
noncomputable def IS:Env:=Env.of []
def XH:FuncId→Hint:=fun _=>aS
theorem AC3:aF Tryz.prog IS:=aF.nil _
def JU (a0:aI) (a1:aI) (a2:aI) (R:T→Prop):Prop :=
 R
 (T.v
 (Value.int IntKind.i64
 (IntKind.i64.wrap
 (IntKind.i64.wrap (IntKind.i64.wrap (a1.1-a0.1)*IntKind.i64.wrap (a2.2-a0.2)) -
 IntKind.i64.wrap (IntKind.i64.wrap (a1.2-a0.2)*IntKind.i64.wrap (a2.1-a0.1))))))
theorem WE ( a0 a1 a2 R):bD aX Tryz.prog IS XH 8 202 [aB true aA a0,aB true aA a1,aB true aA a2] R=JU a0 a1 a2 R:=by kernel_rfl
abbrev BU:Sh:=[(true,aA),(true,aA),(true,aA)]
def FC (x:aI×aI×aI):Option T:=tE x.1 x.2.1 x.2.2 (T.v (Value.int .i64 (aE x.1 x.2.1 x.2.2)))
noncomputable def iS:List T→Option (T):=gS BU FC
theorem Z4 {a0 a1 a2}:iS [aB true aA a0,aB true aA a1,aB true aA a2]=FC (a0,a1,a2):=aT (s:=BU) rfl (a0,a1,a2) rfl
theorem AMQ (h:∀ a0 a1 a2 r,FC (a0,a1,a2)=some r→bU BU (a0,a1,a2)→JU a0 a1 a2 (fun y=>y=r)):aJ Tryz.prog 202 iS :=
 aN (E:=IS) (Hs:=XH) AC3 aU aV (aK rfl) 8 ⟨_,_,Tryz.func202,rfl⟩ rfl fun x r h1 h2=>by
  obtain ⟨a0,a1,a2⟩:=x
  rw[show Sh.bI BU (a0,a1,a2)=[aB true aA a0,aB true aA a1,aB true aA a2] from rfl,WE]
  exact h a0 a1 a2 r h1 h2
theorem AK2:aJ Tryz.prog 202 iS:=AMQ fun a b c r h hb=>by
 obtain ⟨h1,h2,h3,rfl⟩:=nO h
 unfold JU
 exact o8 (rT h1 h2 h3)
theorem oN {a b c:Pt} (h1:bO a) (h2:bO b) (h3:bO c):iS [aB true aA a,aB true aA b,aB true aA c]=some (Sh.enc [(false,.int .i64)] (aE a b c)):=(Z4 ..).trans (nP _ h1 h2 h3)
noncomputable def IY:Env:=Env.of []
def XN:FuncId→Hint:=fun _=>aS
theorem AC9:aF Tryz.prog IY:=aF.nil _
def J0 (a0:aI) (a1:aI) (a2:aI) (R:T→Prop):Prop :=
 R
 (T.v
 (Value.int IntKind.i64
 (IntKind.i64.wrap
 (IntKind.i64.wrap (IntKind.i64.wrap (a1.1-a0.1)*IntKind.i64.wrap (a2.2-a0.2)) -
 IntKind.i64.wrap (IntKind.i64.wrap (a1.2-a0.2)*IntKind.i64.wrap (a2.1-a0.1))))))
theorem WL ( a0 a1 a2 R):bD aX Tryz.prog IY XN 8 193 [aB true aA a0,aB true aA a1,aB true aA a2] R=J0 a0 a1 a2 R:=by kernel_rfl
abbrev BZ:Sh:=[(true,aA),(true,aA),(true,aA)]
def FH (x:aI×aI×aI):Option T:=tE x.1 x.2.1 x.2.2 (T.v (Value.int .i64 (aE x.1 x.2.1 x.2.2)))
noncomputable def cX:List T→Option (T):=gS BZ FH
theorem AAB {a0 a1 a2}:cX [aB true aA a0,aB true aA a1,aB true aA a2]=FH (a0,a1,a2):=aT (s:=BZ) rfl (a0,a1,a2) rfl
theorem AMW (h:∀ a0 a1 a2 r,FH (a0,a1,a2)=some r→bU BZ (a0,a1,a2)→J0 a0 a1 a2 (fun y=>y=r)):aJ Tryz.prog 193 cX :=
 aN (E:=IY) (Hs:=XN) AC9 aU aV (aK rfl) 8 ⟨_,_,Tryz.func193,rfl⟩ rfl fun x r h1 h2=>by
  obtain ⟨a0,a1,a2⟩:=x
  rw[show Sh.bI BZ (a0,a1,a2)=[aB true aA a0,aB true aA a1,aB true aA a2] from rfl,WL]
  exact h a0 a1 a2 r h1 h2
theorem DY:aJ Tryz.prog 193 cX:=AMW fun a b c r h hb=>by
 obtain ⟨h1,h2,h3,rfl⟩:=nO h
 unfold J0
 exact o8 (rT h1 h2 h3)
theorem jQ {a b c:Pt} (h1:bO a) (h2:bO b) (h3:bO c):cX [aB true aA a,aB true aA b,aB true aA c]=some (Sh.enc [(false,.int .i64)] (aE a b c)):=(AAB ..).trans (nP _ h1 h2 h3)
noncomputable def Q1:Env:=Env.of []
def AHL:FuncId→Hint:=fun _=>aS
theorem AJF:aF Tryz.prog Q1:=aF.nil _
def RW (a0:Int) (R:T→Prop):Prop :=
 aC (!decide (a0=a0)) (R (T.v (.int .i64 (-1))))
 (aC (decide (a0<0)) (R (T.v (.int .i64 (-1))))
 (aC (decide (0<a0)) (R (T.v (.int .i64 1)))
 (R (T.v (.int .i64 0)))))
theorem ADU ( a0 R):bD aX Tryz.prog Q1 AHL 8 218 [aB false (Sy.int IntKind.i64) a0] R=RW a0 R:=by kernel_rfl
abbrev HK:Sh:=[(false,(Sy.int IntKind.i64))]
def MR (n:Int):Option T:=some (T.v (Value.int .i64 (pG n)))
noncomputable def k0:List T→Option (T):=gS HK MR
theorem AFN {a0}:k0 [T.v (.int .i64 a0)]=MR (a0):=aT (s:=HK) rfl (a0) rfl
theorem ARK (h:∀ a0 r,MR (a0)=some r→bU HK (a0)→RW a0 (fun y=>y=r)):aJ Tryz.prog 218 k0 :=
 aN (E:=Q1) (Hs:=AHL) AJF aU aV (aK rfl) 8 ⟨_,_,Tryz.func218,rfl⟩ rfl fun x r h1 h2=>by
  let a0:=x
  rw[show Sh.bI HK (a0)=[aB false (Sy.int IntKind.i64) a0] from rfl,ADU]
  exact h a0 r h1 h2
theorem qZ (n:Int):k0 [T.v (.int .i64 n)]=some (Sh.enc [(false,.int .i64)] (pG n)):=AFN ..
noncomputable def IX:Env:=Env.of []
def XM:FuncId→Hint:=fun _=>aS
theorem AC8:aF Tryz.prog IX:=aF.nil _
def JZ (a0:Int) (R:T→Prop):Prop :=
 aC (decide (a0<0)) (R (T.v (.int .i64 (-1))))
 (aC (decide (0<a0)) (R (T.v (.int .i64 1)))
 (R (T.v (.int .i64 0))))
theorem WK ( a0 R):bD aX Tryz.prog IX XM 8 221 [aB false (Sy.int IntKind.i64) a0] R=JZ a0 R:=by kernel_rfl
abbrev BY:Sh:=[(false,(Sy.int IntKind.i64))]
def FG (n:Int):Option T:=some (T.v (Value.int .i64 (pG n)))
noncomputable def iU:List T→Option (T):=gS BY FG
theorem Z9 {a0}:iU [T.v (.int .i64 a0)]=FG (a0):=aT (s:=BY) rfl (a0) rfl
theorem AMV (h:∀ a0 r,FG (a0)=some r→bU BY (a0)→JZ a0 (fun y=>y=r)):aJ Tryz.prog 221 iU :=
 aN (E:=IX) (Hs:=XM) AC8 aU aV (aK rfl) 8 ⟨_,_,Tryz.func221,rfl⟩ rfl fun x r h1 h2=>by
  let a0:=x
  rw[show Sh.bI BY (a0)=[aB false (Sy.int IntKind.i64) a0] from rfl,WK]
  exact h a0 r h1 h2
theorem oO (n:Int):iU [T.v (.int .i64 n)]=some (Sh.enc [(false,.int .i64)] (pG n)):=Z9 ..
noncomputable def Q3:Env:=Env.of []
def AHN:FuncId→Hint:=fun _=>aS
theorem AJH:aF Tryz.prog Q3:=aF.nil _
def R1 (a0:Int) (R:T→Prop):Prop :=
 R (T.v (.int .i64 (if 1<if a0 < -1 then -1 else a0 then 1 else if a0 < -1 then -1 else a0)))
theorem ADW ( a0 R):bD aX Tryz.prog Q3 AHN 8 201 [aB false (Sy.int IntKind.i64) a0] R=R1 a0 R:=by kernel_rfl
abbrev HM:Sh:=[(false,(Sy.int IntKind.i64))]
def MS (n:Int):Option T:=some (T.v (Value.int .i64 (pG n)))
noncomputable def lA:List T→Option (T):=gS HM MS
theorem AFP {a0}:lA [T.v (.int .i64 a0)]=MS (a0):=aT (s:=HM) rfl (a0) rfl
theorem ARM (h:∀ a0 r,MS (a0)=some r→bU HM (a0)→R1 a0 (fun y=>y=r)):aJ Tryz.prog 201 lA :=
 aN (E:=Q3) (Hs:=AHN) AJH aU aV (aK rfl) 8 ⟨_,_,Tryz.func201,rfl⟩ rfl fun x r h1 h2=>by
  let a0:=x
  rw[show Sh.bI HM (a0)=[aB false (Sy.int IntKind.i64) a0] from rfl,ADW]
  exact h a0 r h1 h2
theorem q0 (n:Int):lA [T.v (.int .i64 n)]=some (Sh.enc [(false,.int .i64)] (pG n)):=AFP ..
theorem APY:aJ Tryz.prog 218 k0:=ARK fun n r h hb=>by
 cases h
 unfold RW
 refine rX (fun h=>absurd rfl h) fun _=>?_
 exact bT (fun h=>o8 (by unfold pG;rw[if_pos h])) fun h=>bT (fun h2=>o8 (by unfold pG;rw[if_neg h,if_pos h2])) fun h2=>o8 (by unfold pG;rw[if_neg h,if_neg h2])
theorem AK6:aJ Tryz.prog 221 iU:=AMV fun n r h hb=>by
 cases h
 unfold JZ
 exact bT (fun h=>o8 (by unfold pG;rw[if_pos h])) fun h=>bT (fun h2=>o8 (by unfold pG;rw[if_neg h,if_pos h2])) fun h2=>o8 (by unfold pG;rw[if_neg h,if_neg h2])
theorem AP0:aJ Tryz.prog 201 lA:=ARM fun n r h hb=>by
 cases h
 unfold R1
 refine o8 ?_
 unfold pG
 omega
noncomputable def CM:Env:=Env.of []
def OE:FuncId→Hint:=fun _=>aS
theorem VE:aF Tryz.prog CM:=aF.nil _
def C5 (a0:aI) (a1:aI) (a2:aI) (R:T→Prop):Prop :=
 aC (decide ((if a1.1<a0.1 then a1.1 else a0.1)≤a2.1))
 (aC (decide (a2.1≤if a0.1<a1.1 then a1.1 else a0.1))
 (aC (decide ((if a1.2<a0.2 then a1.2 else a0.2)≤a2.2))
 (R (T.v (.bool (decide (a2.2≤if a0.2<a1.2 then a1.2 else a0.2)))))
 (R (T.v (.bool false))))
 (R (T.v (.bool false))))
 (R (T.v (.bool false)))
theorem RZ ( a0 a1 a2 R):bD aX Tryz.prog CM OE 8 219 [aB true aA a0,aB true aA a1,aB true aA a2] R=C5 a0 a1 a2 R:=by kernel_rfl
abbrev u9:Sh:=[(true,aA),(true,aA),(true,aA)]
def yO (x:aI×aI×aI):Option T:=some (T.v (.bool (G0 x.1 x.2.1 x.2.2)))
noncomputable def mO:List T→Option (T):=gS u9 yO
theorem TA {a0 a1 a2}:mO [aB true aA a0,aB true aA a1,aB true aA a2]=yO (a0,a1,a2):=aT (s:=u9) rfl (a0,a1,a2) rfl
theorem AGF (h:∀ a0 a1 a2 r,yO (a0,a1,a2)=some r→bU u9 (a0,a1,a2)→C5 a0 a1 a2 (fun y=>y=r)):aJ Tryz.prog 219 mO :=
 aN (E:=CM) (Hs:=OE) VE aU aV (aK rfl) 8 ⟨_,_,Tryz.func219,rfl⟩ rfl fun x r h1 h2=>by
  obtain ⟨a0,a1,a2⟩:=x
  rw[show Sh.bI u9 (a0,a1,a2)=[aB true aA a0,aB true aA a1,aB true aA a2] from rfl,RZ]
  exact h a0 a1 a2 r h1 h2
theorem AE1:aJ Tryz.prog 219 mO:=AGF fun a b c r h hb=>by
 cases h
 unfold C5
 rw[tD,tD,tA,tA]
 refine bT (fun h1=>bT (fun h2=>bT (fun h3=>cM ?_) fun h3=>cM ?_) fun h2=>cM ?_) fun h1=>cM ?_
 all_goals simp[G0,h1]
 all_goals simp[h2]
 all_goals simp[h3]
noncomputable def ANS:Env:=Env.of []
def AVH:FuncId→Hint:=fun _=>aS
theorem ASS:aF Tryz.prog ANS:=aF.nil _
def AOB (a0:aI) (a1:aI) (a2:aI) (R:T→Prop):Prop :=
 aC (decide ((if a1.1<a0.1 then a1.1 else a0.1)≤a2.1))
 (aC (decide (a2.1≤if a0.1<a1.1 then a1.1 else a0.1))
 (aC (decide ((if a1.2<a0.2 then a1.2 else a0.2)≤a2.2))
 (R (T.v (.bool (decide (a2.2≤if a0.2<a1.2 then a1.2 else a0.2)))))
 (R (T.v (.bool false))))
 (R (T.v (.bool false))))
 (R (T.v (.bool false)))
theorem AOC ( a0 a1 a2 R):bD aX Tryz.prog ANS AVH 8 203 [aB true aA a0,aB true aA a1,aB true aA a2] R=AOB a0 a1 a2 R:=by kernel_rfl
abbrev AIV:Sh:=[(true,aA),(true,aA),(true,aA)]
abbrev AIP:Sh:=[(false,Sy.bool)]
theorem AGU (y:Sh.den AIP) (K:Sh.den AIP→Prop):aH AIP (some (Sh.enc AIP y)) K=K y:=fJ rfl y K
def UR (x:aI×aI×aI):Option T:=some (T.v (.bool (G0 x.1 x.2.1 x.2.2)))
noncomputable def dE:List T→Option (T):=gS AIV UR
theorem AP6 {a0 a1 a2}:dE [aB true aA a0,aB true aA a1,aB true aA a2]=UR (a0,a1,a2):=aT (s:=AIV) rfl (a0,a1,a2) rfl
theorem AXJ (h:∀ a0 a1 a2 r,UR (a0,a1,a2)=some r→bU AIV (a0,a1,a2)→AOB a0 a1 a2 (fun y=>y=r)):aJ Tryz.prog 203 dE :=
 aN (E:=ANS) (Hs:=AVH) ASS aU aV (aK rfl) 8 ⟨_,_,Tryz.func203,rfl⟩ rfl fun x r h1 h2=>by
  obtain ⟨a0,a1,a2⟩:=x
  rw[show Sh.bI AIV (a0,a1,a2)=[aB true aA a0,aB true aA a1,aB true aA a2] from rfl,AOC]
  exact h a0 a1 a2 r h1 h2
theorem AWU:aJ Tryz.prog 203 dE:=AXJ fun a b c r h hb=>by
 cases h
 unfold AOB
 rw[tD,tD,tA,tA]
 refine bT (fun h1=>bT (fun h2=>bT (fun h3=>cM ?_) fun h3=>cM ?_) fun h2=>cM ?_) fun h1=>cM ?_
 all_goals simp[G0,h1]
 all_goals simp[h2]
 all_goals simp[h3]
noncomputable def ANR:Env:=Env.of [(199,.pure cZ),(219,.pure mO)]
def AVG:FuncId→Hint:=fun _=>aS
theorem ASR:aF Tryz.prog ANR:=aF.cons (x:=.pure cZ) uF (aF.cons (x:=.pure mO) AE1 (aF.nil _))
def AN9 (a0:aI) (a1:aI) (a2:aI) (R:T→Prop):Prop :=
 aH [(false,Sy.int IntKind.i64)]
 (cZ [aB true aA a0,aB true aA a1,aB true aA a2])
 fun (y0:Int) =>
 aC (decide (y0=0))
 (aH [(false,Sy.bool)]
 (mO
 [aB true aA a0,aB true aA a1,aB true aA a2])
 fun (y1:Bool)=>R (T.v (.bool y1)))
 (R (T.v (.bool false)))
theorem AOA ( a0 a1 a2 R):bD aX Tryz.prog ANR AVG 8 204 [aB true aA a0,aB true aA a1,aB true aA a2] R=AN9 a0 a1 a2 R:=by kernel_rfl
abbrev AIU:Sh:=[(true,aA),(true,aA),(true,aA)]
def AG1 (x:aI×aI×aI):Option T:=tE x.1 x.2.1 x.2.2 (T.v (.bool (gN x.1 x.2.1 x.2.2)))
noncomputable def pN:List T→Option (T):=gS AIU AG1
theorem AP5 {a0 a1 a2}:pN [aB true aA a0,aB true aA a1,aB true aA a2]=AG1 (a0,a1,a2):=aT (s:=AIU) rfl (a0,a1,a2) rfl
theorem AXI (h:∀ a0 a1 a2 r,AG1 (a0,a1,a2)=some r→bU AIU (a0,a1,a2)→AN9 a0 a1 a2 (fun y=>y=r)):aJ Tryz.prog 204 pN :=
 aN (E:=ANR) (Hs:=AVG) ASR aU aV (aK rfl) 8 ⟨_,_,Tryz.func204,rfl⟩ rfl fun x r h1 h2=>by
  obtain ⟨a0,a1,a2⟩:=x
  rw[show Sh.bI AIU (a0,a1,a2)=[aB true aA a0,aB true aA a1,aB true aA a2] from rfl,AOA]
  exact h a0 a1 a2 r h1 h2
theorem APX:aJ Tryz.prog 204 pN:=AXI fun a b c r h hb=>by
 obtain ⟨h1,h2,h3,rfl⟩:=nO h
 unfold AN9
 refine aD (s:=[(false,.int .i64)]) (gV h1 h2 h3) ?_
 refine bT (fun h=>?_) fun h=>cM (by unfold gN;rw[decide_eq_false h];rfl)
 refine aD (s:=[(false,.bool)]) (y:=G0 a b c) (TA ..) ?_
 exact cM (by unfold gN;rw[decide_eq_true h];rfl)
theorem sS {a b c:Pt} (h1:bO a) (h2:bO b) (h3:bO c):pN [aB true aA a,aB true aA b,aB true aA c]=some (Sh.enc [(false,.bool)] (gN a b c)):=(AP5 ..).trans (nP _ h1 h2 h3)
def GC {α:Type} (a b c d:Pt) (r:α):Option α:=match decide (bO a∧bO b∧bO c∧bO d) with
 | true=>some r
 | false=>none
theorem AI {α:Type} {a b c d:Pt} {t r:α} (h:GC a b c d t=some r):bO a∧bO b∧bO c∧bO d∧r=t:=by
 unfold GC at h;split at h
 ·rename_i hc
  cases h
  obtain ⟨h1,h2,h3,h4⟩:=of_decide_eq_true hc
  exact ⟨h1,h2,h3,h4,rfl⟩
 ·cases h
theorem AJ {α:Type} {a b c d:Pt} (t:α) (ha:bO a) (hb:bO b) (hc:bO c) (hd:bO d):GC a b c d t=some t:=by unfold GC;rw[decide_eq_true ⟨ha,hb,hc,hd⟩]
noncomputable def Q0:Env:=Env.of [(199,.pure cZ),(204,.pure pN),(218,.pure k0)]
def AHK:FuncId→Hint:=fun _=>aS
theorem AJE:aF Tryz.prog Q0:=aF.cons (x:=.pure cZ) uF (aF.cons (x:=.pure pN) APX (aF.cons (x:=.pure k0) APY (aF.nil _)))
def RV (a0:aI) (a1:aI) (a2:aI) (a3:aI) (R:T→Prop):Prop :=
 aH [(false,Sy.bool)]
 (pN [aB true aA a0,aB true aA a1,aB true aA a2])
 fun (y0:Bool) =>
 aC y0 (R (T.v (.bool true)))
 (aH [(false,Sy.bool)]
 (pN [aB true aA a0,aB true aA a1,aB true aA a3])
 fun (y1:Bool) =>
 aC y1 (R (T.v (.bool true)))
 (aH [(false,Sy.bool)]
 (pN
 [aB true aA a2,aB true aA a3,aB true aA a0])
 fun (y2:Bool) =>
 aC y2 (R (T.v (.bool true)))
 (aH [(false,Sy.bool)]
 (pN
 [aB true aA a2,aB true aA a3,aB true aA a1])
 fun (y3:Bool) =>
 aC y3 (R (T.v (.bool true)))
 (aH [(false,Sy.int IntKind.i64)]
 (cZ
 [aB true aA a0,aB true aA a1,aB true aA a2])
 fun (y4:Int) =>
 aH [(false,Sy.int IntKind.i64)]
 (k0 [T.v (.int .i64 y4)]) fun (y5:Int) =>
 aH [(false,Sy.int IntKind.i64)]
 (cZ
 [aB true aA a0,aB true aA a1,
 aB true aA a3])
 fun (y6:Int) =>
 aH [(false,Sy.int IntKind.i64)]
 (k0 [T.v (.int .i64 y6)]) fun (y7:Int) =>
 aC (decide (IntKind.i64.wrap (y5*y7)<0))
 (aH [(false,Sy.int IntKind.i64)]
 (cZ
 [aB true aA a2,aB true aA a3,
 aB true aA a0])
 fun (y8:Int) =>
 aH [(false,Sy.int IntKind.i64)]
 (k0 [T.v (.int .i64 y8)]) fun (y9:Int) =>
 aH [(false,Sy.int IntKind.i64)]
 (cZ
 [aB true aA a2,aB true aA a3,
 aB true aA a1])
 fun (y10:Int) =>
 aH [(false,Sy.int IntKind.i64)]
 (k0 [T.v (.int .i64 y10)]) fun (y11:Int) =>
 R (T.v (.bool (decide (IntKind.i64.wrap (y9*y11)<0)))))
 (R (T.v (.bool false)))))))
theorem ADT ( a0 a1 a2 a3 R):bD aX Tryz.prog Q0 AHK 8 200 [aB true aA a0,aB true aA a1,aB true aA a2,
 aB true aA a3] R=RV a0 a1 a2 a3 R:=by kernel_rfl
abbrev HJ:Sh:=[(true,aA),(true,aA),(true,aA),(true,aA)]
def MQ (x:aI×aI×aI×aI):Option T:=GC x.1 x.2.1 x.2.2.1 x.2.2.2 (T.v (.bool (bJ x.1 x.2.1 x.2.2.1 x.2.2.2)))
noncomputable def mE:List T→Option (T):=gS HJ MQ
theorem AFL {a0 a1 a2 a3}:mE [aB true aA a0,aB true aA a1,aB true aA a2,
 aB true aA a3]=MQ (a0,a1,a2,a3):=aT (s:=HJ) rfl (a0,a1,a2,a3) rfl
theorem ARJ (h:∀ a0 a1 a2 a3 r,MQ (a0,a1,a2,a3)=some r→bU HJ (a0,a1,a2,a3)→RV a0 a1 a2 a3 (fun y=>y=r)):aJ Tryz.prog 200 mE :=
 aN (E:=Q0) (Hs:=AHK) AJE aU aV (aK rfl) 8 ⟨_,_,Tryz.func200,rfl⟩ rfl fun x r h1 h2=>by
  obtain ⟨a0,a1,a2,a3⟩:=x
  rw[show Sh.bI HJ (a0,a1,a2,a3)=[aB true aA a0,aB true aA a1,aB true aA a2,
 aB true aA a3] from rfl,ADT]
  exact h a0 a1 a2 a3 r h1 h2
theorem APW:aJ Tryz.prog 200 mE:=ARJ fun a b c d r h hb=>by
 obtain ⟨h1,h2,h3,h4,rfl⟩:=AI h
 unfold RV
 refine aD (s:=[(false,.bool)]) (sS h1 h2 h3) ?_
 refine vR (fun h=>cM (by unfold bJ;rw[h];rfl)) fun k1=>?_
 refine aD (s:=[(false,.bool)]) (sS h1 h2 h4) ?_
 refine vR (fun h=>cM (by unfold bJ;rw[h,k1];rfl)) fun k2=>?_
 refine aD (s:=[(false,.bool)]) (sS h3 h4 h1) ?_
 refine vR (fun h=>cM (by unfold bJ;rw[h,k1,k2];rfl)) fun k3=>?_
 refine aD (s:=[(false,.bool)]) (sS h3 h4 h2) ?_
 refine vR (fun h=>cM (by unfold bJ;rw[h,k1,k2,k3];rfl)) fun k4=>?_
 refine aD (s:=[(false,.int .i64)]) (gV h1 h2 h3) ?_
 refine aD (s:=[(false,.int .i64)]) (qZ _) ?_
 refine aD (s:=[(false,.int .i64)]) (gV h1 h2 h4) ?_
 refine aD (s:=[(false,.int .i64)]) (qZ _) ?_
 rw[lS]
 refine bT (fun h=>?_) fun h=>cM (by unfold bJ;rw[k1,k2,k3,k4,decide_eq_false h];rfl)
 refine aD (s:=[(false,.int .i64)]) (gV h3 h4 h1) ?_
 refine aD (s:=[(false,.int .i64)]) (qZ _) ?_
 refine aD (s:=[(false,.int .i64)]) (gV h3 h4 h2) ?_
 refine aD (s:=[(false,.int .i64)]) (qZ _) ?_
 rw[lS]
 exact cM (by unfold bJ;rw[k1,k2,k3,k4,decide_eq_true h];rfl)
theorem AFM {a b c d:Pt} (h1:bO a) (h2:bO b) (h3:bO c) (h4:bO d):mE [aB true aA a,aB true aA b,aB true aA c,aB true aA d]=some (Sh.enc [(false,.bool)] (bJ a b c d)):=(AFL ..).trans (AJ _ h1 h2 h3 h4)
noncomputable def AB5:Env:=Env.of []
def AOJ:FuncId→Hint:=fun _=>aS
theorem ANZ:aF Tryz.prog AB5:=aF.nil _
def ADR (a0:aI) (R:T→Prop):Prop :=
 aC (decide (a0.1 < -32768)) (R (T.v (.bool true)))
 (aC (decide (32768<a0.1)) (R (T.v (.bool true)))
 (aC (decide (a0.2 < -32768)) (R (T.v (.bool true)))
 (R (T.v (.bool (decide (32768<a0.2)))))))
theorem AJP ( a0 R):bD aX Tryz.prog AB5 AOJ 8 169 [aB true aA a0] R=ADR a0 R:=by kernel_rfl
abbrev UG:Sh:=[(true,aA)]
def UQ (q:aI):Option T:=some (T.v (.bool (!decide (bO q))))
noncomputable def qY:List T→Option (T):=gS UG UQ
theorem PF {a0}:qY [aB true aA a0]=UQ (a0):=aT (s:=UG) rfl (a0) rfl
theorem AUL (h:∀ a0 r,UQ (a0)=some r→bU UG (a0)→ADR a0 (fun y=>y=r)):aJ Tryz.prog 169 qY :=
 aN (E:=AB5) (Hs:=AOJ) ANZ aU aV (aK rfl) 8 ⟨_,_,Tryz.func169,rfl⟩ rfl fun x r h1 h2=>by
  let a0:=x
  rw[show Sh.bI UG (a0)=[aB true aA a0] from rfl,AJP]
  exact h a0 r h1 h2
theorem AH3:aJ Tryz.prog 169 qY:=AUL fun q r h hb=>by
 cases h
 unfold ADR
 have no:¬ bO q→true = !decide (bO q):=fun h=>by rw[decide_eq_false h];rfl
 refine bT (fun h=>cM (no (by unfold bO;omega))) fun h1=>bT (fun h=>cM (no (by unfold bO;omega))) fun h2=>bT (fun h=>cM (no (by unfold bO;omega))) fun h3=>cM ?_
 by_cases h:bO q
 ·rw[decide_eq_true h,Bool.not_true]
  unfold bO at h
  exact decide_eq_false (by omega)
 ·rw[decide_eq_false h,Bool.not_false]
  unfold bO at h
  exact decide_eq_true (by omega)
theorem MI {n:Int}:pG n=0↔n=0:=by
 unfold pG
 split
 ·omega
 ·split<;>omega
noncomputable def IU:Env:=Env.of [(202,.pure iS),(201,.pure lA),(203,.pure dE)]
def XJ:FuncId→Hint:=fun _=>aS
theorem AC5:aF Tryz.prog IU:=aF.cons (x:=.pure iS) AK2 (aF.cons (x:=.pure lA) AP0 (aF.cons (x:=.pure dE) AWU (aF.nil _)))
def JW (a0:aI) (a1:aI) (a2:aI) (a3:aI) (R:T→Prop):Prop :=
 aH [(false,Sy.int IntKind.i64)]
 (iS [aB true aA a0,aB true aA a1,aB true aA a2])
 fun (y0:Int) =>
 aH [(false,Sy.int IntKind.i64)] (lA [T.v (.int .i64 y0)])
 fun (y1:Int) =>
 aH [(false,Sy.int IntKind.i64)]
 (iS
 [aB true aA a0,aB true aA a1,aB true aA a3])
 fun (y2:Int) =>
 aH [(false,Sy.int IntKind.i64)] (lA [T.v (.int .i64 y2)])
 fun (y3:Int) =>
 aH [(false,Sy.int IntKind.i64)]
 (iS
 [aB true aA a2,aB true aA a3,aB true aA a0])
 fun (y4:Int) =>
 aH [(false,Sy.int IntKind.i64)]
 (lA [T.v (.int .i64 y4)]) fun (y5:Int) =>
 aH [(false,Sy.int IntKind.i64)]
 (iS
 [aB true aA a2,aB true aA a3,aB true aA a1])
 fun (y6:Int) =>
 aH [(false,Sy.int IntKind.i64)]
 (lA [T.v (.int .i64 y6)]) fun (y7:Int) =>
 aC (decide (IntKind.i64.wrap (y1*y3)<0))
 (aC (decide (IntKind.i64.wrap (y5*y7)<0)) (R (T.v (.bool true)))
 (aC (decide (y1=0))
 (aH [(false,Sy.bool)]
 (dE
 [aB true aA a0,aB true aA a1,
 aB true aA a2])
 fun (y8:Bool) =>
 aC y8 (R (T.v (.bool true)))
 (aC (decide (y3=0))
 (aH [(false,Sy.bool)]
 (dE
 [aB true aA a0,aB true aA a1,
 aB true aA a3])
 fun (y9:Bool) =>
 aC y9 (R (T.v (.bool true)))
 (aC (decide (y5=0))
 (aH [(false,Sy.bool)]
 (dE
 [aB true aA a2,aB true aA a3,
 aB true aA a0])
 fun (y10:Bool) =>
 aC y10 (R (T.v (.bool true)))
 (aC (decide (y7=0))
 (aH [(false,Sy.bool)]
 (dE
 [aB true aA a2,aB true aA a3,
 aB true aA a1])
 fun (y11:Bool)=>R (T.v (.bool y11)))
 (R (T.v (.bool false)))))
 (aC (decide (y7=0))
 (aH [(false,Sy.bool)]
 (dE
 [aB true aA a2,aB true aA a3,
 aB true aA a1])
 fun (y12:Bool)=>R (T.v (.bool y12)))
 (R (T.v (.bool false))))))
 (aC (decide (y5=0))
 (aH [(false,Sy.bool)]
 (dE
 [aB true aA a2,aB true aA a3,
 aB true aA a0])
 fun (y13:Bool) =>
 aC y13 (R (T.v (.bool true)))
 (aC (decide (y7=0))
 (aH [(false,Sy.bool)]
 (dE
 [aB true aA a2,aB true aA a3,
 aB true aA a1])
 fun (y14:Bool)=>R (T.v (.bool y14)))
 (R (T.v (.bool false)))))
 (aC (decide (y7=0))
 (aH [(false,Sy.bool)]
 (dE
 [aB true aA a2,aB true aA a3,
 aB true aA a1])
 fun (y15:Bool)=>R (T.v (.bool y15)))
 (R (T.v (.bool false)))))))
 (aC (decide (y3=0))
 (aH [(false,Sy.bool)]
 (dE
 [aB true aA a0,aB true aA a1,
 aB true aA a3])
 fun (y16:Bool) =>
 aC y16 (R (T.v (.bool true)))
 (aC (decide (y5=0))
 (aH [(false,Sy.bool)]
 (dE
 [aB true aA a2,aB true aA a3,
 aB true aA a0])
 fun (y17:Bool) =>
 aC y17 (R (T.v (.bool true)))
 (aC (decide (y7=0))
 (aH [(false,Sy.bool)]
 (dE
 [aB true aA a2,aB true aA a3,
 aB true aA a1])
 fun (y18:Bool)=>R (T.v (.bool y18)))
 (R (T.v (.bool false)))))
 (aC (decide (y7=0))
 (aH [(false,Sy.bool)]
 (dE
 [aB true aA a2,aB true aA a3,
 aB true aA a1])
 fun (y19:Bool)=>R (T.v (.bool y19)))
 (R (T.v (.bool false))))))
 (aC (decide (y5=0))
 (aH [(false,Sy.bool)]
 (dE
 [aB true aA a2,aB true aA a3,
 aB true aA a0])
 fun (y20:Bool) =>
 aC y20 (R (T.v (.bool true)))
 (aC (decide (y7=0))
 (aH [(false,Sy.bool)]
 (dE
 [aB true aA a2,aB true aA a3,
 aB true aA a1])
 fun (y21:Bool)=>R (T.v (.bool y21)))
 (R (T.v (.bool false)))))
 (aC (decide (y7=0))
 (aH [(false,Sy.bool)]
 (dE
 [aB true aA a2,aB true aA a3,
 aB true aA a1])
 fun (y22:Bool)=>R (T.v (.bool y22)))
 (R (T.v (.bool false))))))))
 (aC (decide (y1=0))
 (aH [(false,Sy.bool)]
 (dE
 [aB true aA a0,aB true aA a1,
 aB true aA a2])
 fun (y23:Bool) =>
 aC y23 (R (T.v (.bool true)))
 (aC (decide (y3=0))
 (aH [(false,Sy.bool)]
 (dE
 [aB true aA a0,aB true aA a1,
 aB true aA a3])
 fun (y24:Bool) =>
 aC y24 (R (T.v (.bool true)))
 (aC (decide (y5=0))
 (aH [(false,Sy.bool)]
 (dE
 [aB true aA a2,aB true aA a3,
 aB true aA a0])
 fun (y25:Bool) =>
 aC y25 (R (T.v (.bool true)))
 (aC (decide (y7=0))
 (aH [(false,Sy.bool)]
 (dE
 [aB true aA a2,aB true aA a3,
 aB true aA a1])
 fun (y26:Bool)=>R (T.v (.bool y26)))
 (R (T.v (.bool false)))))
 (aC (decide (y7=0))
 (aH [(false,Sy.bool)]
 (dE
 [aB true aA a2,aB true aA a3,
 aB true aA a1])
 fun (y27:Bool)=>R (T.v (.bool y27)))
 (R (T.v (.bool false))))))
 (aC (decide (y5=0))
 (aH [(false,Sy.bool)]
 (dE
 [aB true aA a2,aB true aA a3,
 aB true aA a0])
 fun (y28:Bool) =>
 aC y28 (R (T.v (.bool true)))
 (aC (decide (y7=0))
 (aH [(false,Sy.bool)]
 (dE
 [aB true aA a2,aB true aA a3,
 aB true aA a1])
 fun (y29:Bool)=>R (T.v (.bool y29)))
 (R (T.v (.bool false)))))
 (aC (decide (y7=0))
 (aH [(false,Sy.bool)]
 (dE
 [aB true aA a2,aB true aA a3,
 aB true aA a1])
 fun (y30:Bool)=>R (T.v (.bool y30)))
 (R (T.v (.bool false)))))))
 (aC (decide (y3=0))
 (aH [(false,Sy.bool)]
 (dE
 [aB true aA a0,aB true aA a1,
 aB true aA a3])
 fun (y31:Bool) =>
 aC y31 (R (T.v (.bool true)))
 (aC (decide (y5=0))
 (aH [(false,Sy.bool)]
 (dE
 [aB true aA a2,aB true aA a3,
 aB true aA a0])
 fun (y32:Bool) =>
 aC y32 (R (T.v (.bool true)))
 (aC (decide (y7=0))
 (aH [(false,Sy.bool)]
 (dE
 [aB true aA a2,aB true aA a3,
 aB true aA a1])
 fun (y33:Bool)=>R (T.v (.bool y33)))
 (R (T.v (.bool false)))))
 (aC (decide (y7=0))
 (aH [(false,Sy.bool)]
 (dE
 [aB true aA a2,aB true aA a3,
 aB true aA a1])
 fun (y34:Bool)=>R (T.v (.bool y34)))
 (R (T.v (.bool false))))))
 (aC (decide (y5=0))
 (aH [(false,Sy.bool)]
 (dE
 [aB true aA a2,aB true aA a3,
 aB true aA a0])
 fun (y35:Bool) =>
 aC y35 (R (T.v (.bool true)))
 (aC (decide (y7=0))
 (aH [(false,Sy.bool)]
 (dE
 [aB true aA a2,aB true aA a3,
 aB true aA a1])
 fun (y36:Bool)=>R (T.v (.bool y36)))
 (R (T.v (.bool false)))))
 (aC (decide (y7=0))
 (aH [(false,Sy.bool)]
 (dE
 [aB true aA a2,aB true aA a3,
 aB true aA a1])
 fun (y37:Bool)=>R (T.v (.bool y37)))
 (R (T.v (.bool false)))))))
theorem WH ( a0 a1 a2 a3 R):bD aX Tryz.prog IU XJ 8 172 [aB true aA a0,aB true aA a1,aB true aA a2,
 aB true aA a3] R=JW a0 a1 a2 a3 R:=by kernel_rfl
abbrev BV:Sh:=[(true,aA),(true,aA),(true,aA),(true,aA)]
def FE (x:aI×aI×aI×aI):Option T:=GC x.1 x.2.1 x.2.2.1 x.2.2.2 (T.v (.bool (bJ x.1 x.2.1 x.2.2.1 x.2.2.2)))
noncomputable def pP:List T→Option (T):=gS BV FE
theorem Z6 {a0 a1 a2 a3}:pP [aB true aA a0,aB true aA a1,aB true aA a2,
 aB true aA a3]=FE (a0,a1,a2,a3):=aT (s:=BV) rfl (a0,a1,a2,a3) rfl
theorem AMS (h:∀ a0 a1 a2 a3 r,FE (a0,a1,a2,a3)=some r→bU BV (a0,a1,a2,a3)→JW a0 a1 a2 a3 (fun y=>y=r)):aJ Tryz.prog 172 pP :=
 aN (E:=IU) (Hs:=XJ) AC5 aU aV (aK rfl) 8 ⟨_,_,Tryz.func172,rfl⟩ rfl fun x r h1 h2=>by
  obtain ⟨a0,a1,a2,a3⟩:=x
  rw[show Sh.bI BV (a0,a1,a2,a3)=[aB true aA a0,aB true aA a1,aB true aA a2,
 aB true aA a3] from rfl,WH]
  exact h a0 a1 a2 a3 r h1 h2
theorem AR3 (a b c:Pt) (K:Bool→Prop):aH [(false,Sy.bool)] (dE [aB true aA a,aB true aA b,aB true aA c]) K=K (G0 a b c):=by
 rw[show dE [aB true aA a,aB true aA b,aB true aA c]=UR (a,b,c) from AP6 ..]
 exact AGU _ K
theorem AK3:aJ Tryz.prog 172 pP:=AMS fun a b c d r h hb=>by
 obtain ⟨h1,h2,h3,h4,rfl⟩:=AI h
 unfold JW
 refine aD (s:=[(false,.int .i64)]) (oN h1 h2 h3) ?_
 refine aD (s:=[(false,.int .i64)]) (q0 _) ?_
 refine aD (s:=[(false,.int .i64)]) (oN h1 h2 h4) ?_
 refine aD (s:=[(false,.int .i64)]) (q0 _) ?_
 refine aD (s:=[(false,.int .i64)]) (oN h3 h4 h1) ?_
 refine aD (s:=[(false,.int .i64)]) (q0 _) ?_
 refine aD (s:=[(false,.int .i64)]) (oN h3 h4 h2) ?_
 refine aD (s:=[(false,.int .i64)]) (q0 _) ?_
 rw[lS,lS]
 have e:∀ {n:Bool},bJ a b c d=n→T.v (.bool n)=T.v (.bool (bJ a b c d)):=fun h=>by rw[h]
 simp only[AR3]
 unfold bJ at e
 unfold gN at e
 clear h hb
 repeat' first
  | refine bT (fun h=>?_) (fun h=>?_)
  | refine vR (fun h=>?_) (fun h=>?_)
 all_goals (refine e ?_;clear e;simp only[MI] at *;simp[*,show pG 0=0 from rfl])
end Go.Pv
namespace Go.Pv
open Go Go.Proofs
theorem rH {p:List Pt} {i:Nat} (h:i<p.length):pt p i=p[i]:=by unfold pt;rw[List.getD_eq_getElem?_getD,List.getElem?_eq_getElem h];rfl
theorem bN {p:List aI} {k:Nat} (h:k<p.length) (K:aI→Prop):aZ aA (List.map aA.enc p) (k:Int) K=K (pt p k):=by
 rw[a7 (r:=aA) h,rH h]
theorem gM {i n c:Nat} (hn:n≤1000) (hi:i≤1000) (hc:c≤2):(IntKind.i64.wrap ((i:Int)+(c:Int))).tmod (n:Int)=(((i+c) % n:Nat):Int):=by
 rw[aO _ (by omega) (by omega),Int.tmod_eq_emod_of_nonneg (by omega),Int.natCast_emod,Int.natCast_add]
def j0 (a b c:Pt):Int:=(a.1-b.1)*(c.1-b.1)+(a.2-b.2)*(c.2-b.2)
def oE (p:List Pt) (i k:Nat):Bool:=!(!decide ((k+1) % p.length=i)&&bJ (pt p i) (nx p i) (pt p k) (nx p k))
def lL (p:List Pt) (i:Nat):Pt:=pt p ((i+2) % p.length)
def AL (p:List Pt) (i:Nat):Bool:=!decide (pt p i=nx p i)&&(!(decide (aE (pt p i) (nx p i) (lL p i)=0)&&decide (0<j0 (pt p i) (nx p i) (lL p i)))&&(List.range p.length).all fun k=>decide (k<i+2)||oE p i k)
def l9 (p:List Pt):Bool:=(List.range p.length).all (AL p)
def fH (p:List Pt):Prop:=∀ q∈p,bO q
def wC (p:List Pt):Bool:=p.all fun q=>decide (bO q)
theorem gJ {p:List Pt}:wC p=true↔fH p:=by
 simp only[wC,List.all_eq_true,decide_eq_true_eq];exact Iff.rfl
theorem fH.pt {p:List Pt} (h:fH p) (i:Nat):bO (pt p i):=by
 rcases Nat.lt_or_ge i p.length with hi|hi
 ·rw[rH hi];exact h _ (List.getElem_mem hi)
 ·unfold Go.Pv.pt
  rw[List.getD_eq_getElem?_getD,List.getElem?_eq_none hi]
  unfold bO;decide
def NW (p:List Pt):Bool:=decide (p.length≤1000)&&wC p
def L2 {α:Type} (p:List Pt) (r:α):Option α:=match NW p with
 | true=>some r
 | false=>none
theorem L3 {α:Type} {p:List Pt} {t r:α} (h:L2 p t=some r):p.length≤1000∧fH p∧r=t:=by
 unfold L2 at h;split at h
 ·rename_i hc
  simp only[NW,Bool.and_eq_true,decide_eq_true_eq,gJ] at hc
  cases h;exact ⟨hc.1,hc.2,rfl⟩
 ·cases h
theorem L4 {α:Type} {p:List Pt} (t:α) (h:p.length≤1000) (h2:fH p):L2 p t=some t:=by
 unfold L2;rw[show NW p=true by simp only[NW,Bool.and_eq_true,decide_eq_true_eq,gJ];exact ⟨h,h2⟩]
theorem ASK {a b c:Pt} (ha:bO a) (hb:bO b) (hc:bO c):IntKind.i64.wrap (IntKind.i64.wrap (IntKind.i64.wrap (a.1-b.1)*IntKind.i64.wrap (c.1-b.1))+IntKind.i64.wrap (IntKind.i64.wrap (a.2-b.2)*IntKind.i64.wrap (c.2-b.2)))=j0 a b c:=by
 unfold bO at ha hb hc
 have h1:=x9 (x:=a.1-b.1) (y:=c.1-b.1) (M:=65536) (N:=65536) (by omega) (by omega) (by omega) (by omega)
 have h2:=x9 (x:=a.2-b.2) (y:=c.2-b.2) (M:=65536) (N:=65536) (by omega) (by omega) (by omega) (by omega)
 rw[aO (a.1-b.1) (by omega) (by omega),aO (c.2-b.2) (by omega) (by omega),aO (a.2-b.2) (by omega) (by omega),aO (c.1-b.1) (by omega) (by omega),
  aO ((a.1-b.1)*(c.1-b.1)) (by omega) (by omega),aO ((a.2-b.2)*(c.2-b.2)) (by omega) (by omega),aO _ (by omega) (by omega)]
 rfl
noncomputable def CK:Env:=Env.of [(199,.pure cZ),(200,.pure mE)]
def OC:FuncId→Hint:=fun f=>match f == 170 with|true=>⟨fun r=>match r == 3 with|true=>.inv [.val 13 false (.int .i64)]|false=>match r == 12 with|true=>.inv [.val 8 false (.int .i64)]|false=>.none,fun _ _=>none,fun _=>none⟩|false=>aS
theorem VC:aF Tryz.prog CK:=aF.cons (x:=.pure cZ) uF (aF.cons (x:=.pure mE) APW (aF.nil _))
def C3 (a0:List aI) (R:T→Prop):Prop :=
 bE (Int×PUnit)
 (fun (X0:Int×PUnit→Prop) (s1:Int×PUnit) =>
 aC (decide (s1.1<(↑(List.map aA.enc a0).length:Int)))
 (aZ aA (List.map aA.enc a0) s1.1 fun (y2:aI) =>
 bS (!decide ((↑(List.map aA.enc a0).length:Int)=0))
 (aZ aA (List.map aA.enc a0)
 ((IntKind.i64.wrap (s1.1+1)).tmod (↑(List.map aA.enc a0).length:Int))
 fun (y3:aI) =>
 aC (decide (y2.1=y3.1)&&(decide (y2.2=y3.2)&&true))
 (R (T.v (.bool false)))
 (bS (!decide ((↑(List.map aA.enc a0).length:Int)=0))
 (aZ aA (List.map aA.enc a0)
 ((IntKind.i64.wrap (s1.1+2)).tmod (↑(List.map aA.enc a0).length:Int))
 fun (y4:aI) =>
 aH [(false,Sy.int IntKind.i64)]
 (cZ
 [aB true aA y2,aB true aA y3,
 aB true aA y4])
 fun (y5:Int) =>
 aC (decide (y5=0))
 (aC
 (decide
 (0 <
 IntKind.i64.wrap
 (IntKind.i64.wrap
 (IntKind.i64.wrap (y2.1-y3.1)*IntKind.i64.wrap (y4.1-y3.1)) +
 IntKind.i64.wrap
 (IntKind.i64.wrap (y2.2-y3.2)*IntKind.i64.wrap (y4.2-y3.2)))))
 (R (T.v (.bool false)))
 (bE (Int×PUnit)
 (fun (X6:Int×PUnit→Prop) (s7:Int×PUnit) =>
 aC (decide (s7.1<(↑(List.map aA.enc a0).length:Int)))
 (bS (!decide ((↑(List.map aA.enc a0).length:Int)=0))
 (aC
 (!decide
 ((IntKind.i64.wrap (s7.1+1)).tmod
 (↑(List.map aA.enc a0).length:Int) =
 s1.1))
 (aZ aA (List.map aA.enc a0) s7.1
 fun (y8:aI) =>
 bS (!decide ((↑(List.map aA.enc a0).length:Int)=0))
 (aZ aA (List.map aA.enc a0)
 ((IntKind.i64.wrap (s7.1+1)).tmod
 (↑(List.map aA.enc a0).length:Int))
 fun (y9:aI) =>
 aH [(false,Sy.bool)]
 (mE
 [aB true aA y2,aB true aA y3,
 aB true aA y8,aB true aA y9])
 fun (y10:Bool) =>
 aC y10 (R (T.v (.bool false)))
 (X6 (IntKind.i64.wrap (s7.1+1),()))))
 (X6 (IntKind.i64.wrap (s7.1+1),()))))
 (X0 (IntKind.i64.wrap (s1.1+1),())))
 (IntKind.i64.wrap (s1.1+2),())))
 (bE (Int×PUnit)
 (fun (X11:Int×PUnit→Prop) (s12:Int×PUnit) =>
 aC (decide (s12.1<(↑(List.map aA.enc a0).length:Int)))
 (bS (!decide ((↑(List.map aA.enc a0).length:Int)=0))
 (aC
 (!decide
 ((IntKind.i64.wrap (s12.1+1)).tmod
 (↑(List.map aA.enc a0).length:Int) =
 s1.1))
 (aZ aA (List.map aA.enc a0) s12.1
 fun (y13:aI) =>
 bS (!decide ((↑(List.map aA.enc a0).length:Int)=0))
 (aZ aA (List.map aA.enc a0)
 ((IntKind.i64.wrap (s12.1+1)).tmod
 (↑(List.map aA.enc a0).length:Int))
 fun (y14:aI) =>
 aH [(false,Sy.bool)]
 (mE
 [aB true aA y2,aB true aA y3,
 aB true aA y13,aB true aA y14])
 fun (y15:Bool) =>
 aC y15 (R (T.v (.bool false)))
 (X11 (IntKind.i64.wrap (s12.1+1),()))))
 (X11 (IntKind.i64.wrap (s12.1+1),()))))
 (X0 (IntKind.i64.wrap (s1.1+1),())))
 (IntKind.i64.wrap (s1.1+2),()))))))
 (R (T.v (.bool true))))
 (0,())
theorem RX ( a0 R):bD aX Tryz.prog CK OC 8 170 [aB false aA.li a0] R=C3 a0 R:=by kernel_rfl
abbrev u6:Sh:=[(false,aA.li)]
def yM (p:List aI):Option T:=L2 p (T.v (.bool (l9 p)))
noncomputable def jP:List T→Option (T):=gS u6 yM
theorem S6 {a0}:jP [T.sl false (List.map aA.enc a0)]=yM (a0):=aT (s:=u6) rfl (a0) rfl
theorem AGD (h:∀ a0 r,yM (a0)=some r→bU u6 (a0)→C3 a0 (fun y=>y=r)):aJ Tryz.prog 170 jP :=
 aN (E:=CK) (Hs:=OC) VC aU aV (aK rfl) 8 ⟨_,_,Tryz.func170,rfl⟩ rfl fun x r h1 h2=>by
  let a0:=x
  rw[show Sh.bI u6 (a0)=[aB false aA.li a0] from rfl,RX]
  exact h a0 r h1 h2
theorem oI {n:Nat} {f:Nat→Bool} {i:Nat} (hi:i<n) (h:f i=false):(List.range n).all f=false:=by
 rw[Bool.eq_false_iff];intro ha
 have:=b9.1 ha i hi
 rw[h] at this;cases this
theorem ANF {p:List aI} {i:Nat} (hl:p.length≤1000) (hn:fH p) (hi:i<p.length) {Bad Good:Prop} (hbad:(List.range p.length).all (fun k=>decide (k<i+2)||oE p i k)=false→Bad) (hgood:(List.range p.length).all (fun k=>decide (k<i+2)||oE p i k)=true→Good) :
  bE (Int×PUnit)
   (fun (X6:Int×PUnit→Prop) (s7:Int×PUnit) =>
    aC (decide (s7.1<(↑(List.map aA.enc p).length:Int)))
     (bS (!decide ((↑(List.map aA.enc p).length:Int)=0))
      (aC (!decide ((IntKind.i64.wrap (s7.1+1)).tmod (↑(List.map aA.enc p).length:Int)=(i:Int)))
       (aZ aA (List.map aA.enc p) s7.1 fun (y8:aI) =>
        bS (!decide ((↑(List.map aA.enc p).length:Int)=0))
         (aZ aA (List.map aA.enc p) ((IntKind.i64.wrap (s7.1+1)).tmod (↑(List.map aA.enc p).length:Int))
          fun (y9:aI) =>
          aH [(false,Sy.bool)] (mE [aB true aA (pt p i),aB true aA (nx p i),aB true aA y8,aB true aA y9])
           fun (y10:Bool)=>aC y10 Bad (X6 (IntKind.i64.wrap (s7.1+1),()))))
       (X6 (IntKind.i64.wrap (s7.1+1),()))))
     Good)
   (IntKind.i64.wrap ((i:Int)+2),()):=by
 refine aR p.length (fun m s=>s=(((i+2+m:Nat):Int),())∧∀ k,k<i+2+m→k<p.length→(decide (k<i+2)||oE p i k)=true) ⟨by rw[aO _ (by omega) (by omega)];simp,fun k h1 h2=>by simp at h1;simp[h1]⟩ ?_
 rintro X m s hm ⟨rfl,hJ⟩ hX
 dsimp only
 rw[List.length_map]
 refine bT (fun hlt=>?_) fun hge=>hgood (b9.2 fun k hk=>hJ k (by omega) hk)
 have hk:i+2+m<p.length:=by omega
 have hne:(!decide ((p.length:Int)=0))=true:=by rw[decide_eq_false (by omega)];rfl
 have hix:(IntKind.i64.wrap (((i+2+m:Nat):Int)+1)).tmod (p.length:Int)=(((i+2+m+1) % p.length:Nat):Int):=gM (c:=1) hl (by omega) (by omega)
 have hw:IntKind.i64.wrap (((i+2+m:Nat):Int)+1)=((i+2+(m+1):Nat):Int):=by rw[aO _ (by omega) (by omega)];omega
 have hmod:(i+2+m+1) % p.length<p.length:=Nat.mod_lt _ (by omega)
 have go:oE p i (i+2+m)=true→X (((i+2+(m+1):Nat):Int),()):=fun h=>hX _ (by omega) ⟨rfl,fun k h1 h2=>by
  rcases Nat.lt_or_ge k (i+2+m) with h3|h3
  ·exact hJ k h3 h2
  ·have:k=i+2+m:=by omega
   subst this;rw[h];simp⟩
 refine ⟨hne,?_⟩
 rw[hix,hw]
 refine rX (fun h=>?_) fun h=>go (by unfold oE;rw[decide_eq_true (show (i+2+m+1) % p.length=i by omega)];rfl)
 rw[bN hk,ABE,bN hmod]
 refine ⟨hne,?_⟩
 refine aD (s:=[(false,.bool)]) (AFM (hn.pt _) (hn.pt _) (hn.pt _) (hn.pt _)) ?_
 have e:oE p i (i+2+m) = !bJ (pt p i) (nx p i) (pt p (i+2+m)) (nx p (i+2+m)):=by
  unfold oE;rw[decide_eq_false (show ¬ (i+2+m+1) % p.length=i by omega)];rfl
 refine vR (fun hm=>hbad (oI hk ?_)) fun hm=>go ?_
 ·show (decide (i+2+m<i+2)||oE p i (i+2+m))=false
  rw[e,show bJ (pt p i) (nx p i) (pt p (i+2+m)) (nx p (i+2+m))=true from hm];simp
 ·rw[e,show bJ (pt p i) (nx p i) (pt p (i+2+m)) (nx p (i+2+m))=false from hm];rfl
theorem AEZ:aJ Tryz.prog 170 jP:=AGD fun p r h hb=>by
 obtain ⟨hl,hn,rfl⟩:=L3 h
 clear h
 unfold C3
 refine aR p.length (fun k s=>s=((k:Int),())∧∀ i,i<k→i<p.length→AL p i=true) ⟨rfl,fun i h=>by omega⟩ ?_
 rintro X k s hk ⟨rfl,hJ⟩ hX
 dsimp only
 refine bT (fun hlt=>?_) fun hge=>cM (Eq.symm (b9.2 fun i hi=>hJ i (by rw[List.length_map] at hge;omega) hi))
 rw[List.length_map] at hlt
 have hlt:k<p.length:=by omega
 have hne:(!decide (((List.map aA.enc p).length:Int)=0))=true:=by rw[List.length_map,decide_eq_false (by omega)];rfl
 have hm1:(k+1) % p.length<p.length:=Nat.mod_lt _ (by omega)
 have hm2:(k+2) % p.length<p.length:=Nat.mod_lt _ (by omega)
 have i1:(IntKind.i64.wrap ((k:Int)+1)).tmod ((List.map aA.enc p).length:Int)=(((k+1) % p.length:Nat):Int):=by rw[List.length_map];exact gM (c:=1) hl (by omega) (by omega)
 have i2:(IntKind.i64.wrap ((k:Int)+2)).tmod ((List.map aA.enc p).length:Int)=(((k+2) % p.length:Nat):Int):=by rw[List.length_map];exact gM (c:=2) hl (by omega) (by omega)
 have bad:AL p k=false→T.v (.bool false)=T.v (.bool (l9 p)):=fun h=>cM (oI hlt h).symm
 have oC:AL p k=true→X (IntKind.i64.wrap ((k:Int)+1),()):=fun h=>hX _ hlt ⟨by rw[show IntKind.i64.wrap ((k:Int)+1)=((k+1:Nat):Int) from aO _ (by omega) (by omega)],fun i h1 h2=>by
  rcases Nat.lt_or_ge i k with h3|h3
  ·exact hJ i h3 h2
  ·have:i=k:=by omega
   subst this;exact h⟩
 rw[bN hlt,i1]
 refine ⟨hne,?_⟩
 rw[bN hm1]
 have heq:(decide ((pt p k).1=(pt p ((k+1) % p.length)).1)&&(decide ((pt p k).2=(pt p ((k+1) % p.length)).2)&&true))=decide (pt p k=nx p k):=by
  rw[Bool.and_true,←Bool.decide_and]
  exact decide_eq_decide.2 Prod.ext_iff.symm
 rw[heq]
 refine bT (fun h=>bad (by unfold AL;rw[decide_eq_true h];rfl)) fun h1=>?_
 refine ⟨hne,?_⟩
 rw[i2,bN hm2]
 refine aD (s:=[(false,.int .i64)]) (gV (hn.pt _) (hn.pt _) (hn.pt _)) ?_
 have inner:(decide (aE (pt p k) (nx p k) (lL p k)=0)&&decide (0<j0 (pt p k) (nx p k) (lL p k)))=false→AL p k=(List.range p.length).all fun j=>decide (j<k+2)||oE p k j:=fun h=>by
  unfold AL;rw[decide_eq_false h1,h];simp
 have tail:(decide (aE (pt p k) (nx p k) (lL p k)=0)&&decide (0<j0 (pt p k) (nx p k) (lL p k)))=false→_:=fun h=>ANF (Bad:=T.v (.bool false)=T.v (.bool (l9 p))) (Good:=X (IntKind.i64.wrap ((k:Int)+1),())) hl hn hlt (fun h2=>bad (by rw[inner h,h2])) (fun h2=>oC (by rw[inner h,h2]))
 refine bT (fun h2=>?_) fun h2=>tail (by rw[show decide (aE (pt p k) (nx p k) (lL p k)=0)=false from decide_eq_false h2];rfl)
 rw[ASK (hn.pt _) (hn.pt _) (hn.pt _)]
 refine bT (fun h3=>bad ?_) fun h3=>tail (by rw[show decide (0<j0 (pt p k) (nx p k) (lL p k))=false from decide_eq_false h3];simp)
 unfold AL
 rw[decide_eq_true (show aE (pt p k) (nx p k) (lL p k)=0 from h2),decide_eq_true (show 0<j0 (pt p k) (nx p k) (lL p k) from h3)]
 simp
theorem S7 {p:List Pt} (h:p.length≤1000) (h2:fH p):jP [T.sl false (List.map aA.enc p)]=some (Sh.enc [(false,.bool)] (l9 p)):=(S6 ..).trans (L4 _ h h2)
def cE:Nat→(Nat→Int)→Int
 | 0,_=>0
 | n+1,f=>cE n f+f n
def yE (p:List Pt) (i:Nat):Int:=(pt p i).1*(nx p i).2-(nx p i).1*(pt p i).2
def dU (p:List Pt):Int:=cE p.length (yE p)
theorem UM {p:List Pt} (h:fH p) (i:Nat):(-1073741824≤(pt p i).1*(nx p i).2∧(pt p i).1*(nx p i).2≤1073741824)∧(-1073741824≤(nx p i).1*(pt p i).2∧(nx p i).1*(pt p i).2≤1073741824):=by
 have h1:=h.pt i
 have h2:bO (nx p i):=h.pt _
 unfold bO at h1 h2
 have b1:=x9 (x:=(pt p i).1) (y:=(nx p i).2) (M:=32768) (N:=32768) (by omega) (by omega) (by omega) (by omega)
 have b2:=x9 (x:=(nx p i).1) (y:=(pt p i).2) (M:=32768) (N:=32768) (by omega) (by omega) (by omega) (by omega)
 constructor<;>constructor<;>omega
theorem uB {p:List Pt} (h:fH p):∀ n:Nat,-(2147483648*(n:Int))≤cE n (yE p)∧cE n (yE p)≤2147483648*(n:Int)
 | 0=>by simp[cE]
 | n+1=>by
  have ih:=uB h n
  have hb:=UM h n
  unfold cE
  have e:yE p n=(pt p n).1*(nx p n).2-(nx p n).1*(pt p n).2:=rfl
  constructor<;>push_cast<;>omega
noncomputable def QV:Env:=Env.of []
def AHF:FuncId→Hint:=fun f=>match f == 152 with|true=>⟨fun r=>match r == 3 with|true=>.inv [.val 3 false (.int .i64),.val 9 false (.int .i64)]|false=>.none,fun _ _=>none,fun _=>none⟩|false=>aS
theorem AI9:aF Tryz.prog QV:=aF.nil _
def RM (a0:List aI) (R:T→Prop):Prop :=
 bE (Int×Int×PUnit)
 (fun (X0:Int×Int×PUnit→Prop) (s1:Int×Int×PUnit) =>
 aC (decide (s1.2.1<(↑(List.map aA.enc a0).length:Int)))
 (aZ aA (List.map aA.enc a0) s1.2.1 fun (y2:aI) =>
 bS (!decide ((↑(List.map aA.enc a0).length:Int)=0))
 (aZ aA (List.map aA.enc a0)
 ((IntKind.i64.wrap (s1.2.1+1)).tmod (↑(List.map aA.enc a0).length:Int))
 fun (y3:aI) =>
 X0
 (IntKind.i64.wrap
 (s1.1 +
 IntKind.i64.wrap
 (IntKind.i64.wrap (y2.1*y3.2)-IntKind.i64.wrap (y3.1*y2.2))),
 IntKind.i64.wrap (s1.2.1+1),())))
 (R (T.v (.int .i64 s1.1))))
 (0,0,())
theorem ADM ( a0 R):bD aX Tryz.prog QV AHF 8 152 [aB false aA.li a0] R=RM a0 R:=by kernel_rfl
abbrev HE:Sh:=[(false,aA.li)]
def MN (p:List aI):Option T:=L2 p (T.v (Value.int .i64 (dU p)))
noncomputable def j2:List T→Option (T):=gS HE MN
theorem AFH {a0}:j2 [T.sl false (List.map aA.enc a0)]=MN (a0):=aT (s:=HE) rfl (a0) rfl
theorem ARE (h:∀ a0 r,MN (a0)=some r→bU HE (a0)→RM a0 (fun y=>y=r)):aJ Tryz.prog 152 j2 :=
 aN (E:=QV) (Hs:=AHF) AI9 aU aV (aK rfl) 8 ⟨_,_,Tryz.func152,rfl⟩ rfl fun x r h1 h2=>by
  let a0:=x
  rw[show Sh.bI HE (a0)=[aB false aA.li a0] from rfl,ADM]
  exact h a0 r h1 h2
theorem YZ:aJ Tryz.prog 152 j2:=ARE fun p r h hb=>by
 obtain ⟨hl,hn,rfl⟩:=L3 h
 clear h
 unfold RM
 refine aR p.length (fun k s=>s=(cE k (yE p),(k:Int),())) rfl ?_
 rintro X k s hk rfl hX
 dsimp only
 refine bT (fun hlt=>?_) fun hge=>o8 (by rw[List.length_map] at hge;rw[show k=p.length by omega];rfl)
 rw[List.length_map] at hlt
 have hlt:k<p.length:=by omega
 have hne:(!decide (((List.map aA.enc p).length:Int)=0))=true:=by rw[List.length_map,decide_eq_false (by omega)];rfl
 have hm1:(k+1) % p.length<p.length:=Nat.mod_lt _ (by omega)
 have i1:(IntKind.i64.wrap ((k:Int)+1)).tmod ((List.map aA.enc p).length:Int)=(((k+1) % p.length:Nat):Int):=by rw[List.length_map];exact gM (c:=1) hl (by omega) (by omega)
 rw[bN hlt,i1]
 refine ⟨hne,?_⟩
 rw[bN hm1]
 have hb1:=UM hn k
 have hb2:=uB hn k
 have hb3:=uB hn (k+1)
 refine hX _ hlt ?_
 rw[show IntKind.i64.wrap ((k:Int)+1)=((k+1:Nat):Int) from aO _ (by omega) (by omega)]
 have e:IntKind.i64.wrap (cE k (yE p)+IntKind.i64.wrap (IntKind.i64.wrap ((pt p k).1*(nx p k).2)-IntKind.i64.wrap ((nx p k).1*(pt p k).2)))=cE (k+1) (yE p):=by
  rw[aO ((pt p k).1*(nx p k).2) (by omega) (by omega),aO ((nx p k).1*(pt p k).2) (by omega) (by omega),aO ((pt p k).1*(nx p k).2-(nx p k).1*(pt p k).2) (by omega) (by omega),aO _ (by omega) (by omega)]
  rfl
 rw[←e];rfl
theorem LK {p:List Pt} (h:p.length≤1000) (h2:fH p):j2 [T.sl false (List.map aA.enc p)]=some (Sh.enc [(false,.int .i64)] (dU p)):=(AFH ..).trans (L4 _ h h2)
def cU (p:List Pt):Int:=if p.length<3 then 3 else if 32<p.length then 4 else if wC p=false then 9 else if l9 p=false∨dU p=0 then 17 else 0
noncomputable def CJ:Env:=Env.of [(169,.pure qY),(170,.pure jP),(152,.pure j2)]
def OB:FuncId→Hint:=fun f=>match f == 198 with|true=>⟨fun r=>match r == 2 with|true=>.inv [.val 8 false (.int .i64)]|false=>.none,fun _ _=>none,fun _=>none⟩|false=>aS
theorem VB:aF Tryz.prog CJ:=aF.cons (x:=.pure qY) AH3 (aF.cons (x:=.pure jP) AEZ (aF.cons (x:=.pure j2) YZ (aF.nil _)))
def C2 (a0:List aI) (R:T→Prop):Prop :=
 aC (decide ((↑(List.map aA.enc a0).length:Int)<3)) (R (T.v (.int .i64 3)))
 (aC (decide (32<(↑(List.map aA.enc a0).length:Int)))
 (R (T.v (.int .i64 4)))
 (bE (Int×PUnit)
 (fun (X0:Int×PUnit→Prop) (s1:Int×PUnit) =>
 aC (decide (s1.1<(↑(List.map aA.enc a0).length:Int)))
 (aZ aA (List.map aA.enc a0) s1.1 fun (y2:aI) =>
 aH [(false,Sy.bool)] (qY [aB true aA y2]) fun (y3:Bool) =>
 aC y3
 (aC (decide (0≤s1.1)) (R (T.v (.int .i64 9)))
 (aH [(false,Sy.bool)]
 (jP [T.sl false (List.map aA.enc a0)]) fun (y4:Bool) =>
 aC (!y4) (R (T.v (.int .i64 17)))
 (aH [(false,Sy.int IntKind.i64)]
 (j2 [T.sl false (List.map aA.enc a0)]) fun (y5:Int) =>
 aC (decide (y5=0)) (R (T.v (.int .i64 17)))
 (R (T.v (.int .i64 0))))))
 (X0 (IntKind.i64.wrap (s1.1+1),())))
 (aH [(false,Sy.bool)] (jP [T.sl false (List.map aA.enc a0)])
 fun (y6:Bool) =>
 aC (!y6) (R (T.v (.int .i64 17)))
 (aH [(false,Sy.int IntKind.i64)]
 (j2 [T.sl false (List.map aA.enc a0)]) fun (y7:Int) =>
 aC (decide (y7=0)) (R (T.v (.int .i64 17)))
 (R (T.v (.int .i64 0))))))
 (0,())))
theorem RT ( a0 R):bD aX Tryz.prog CJ OB 8 147 [aB false aA.li a0] R=C2 a0 R:=by kernel_rfl
abbrev u5:Sh:=[(false,aA.li)]
def yL (p:List aI):Option T:=some (T.v (Value.int .i64 (cU p)))
noncomputable def dJ:List T→Option (T):=gS u5 yL
theorem S5 {a0}:dJ [T.sl false (List.map aA.enc a0)]=yL (a0):=aT (s:=u5) rfl (a0) rfl
theorem AGC (h:∀ a0 r,yL (a0)=some r→bU u5 (a0)→C2 a0 (fun y=>y=r)):aJ Tryz.prog 147 dJ :=
 aN (E:=CJ) (Hs:=OB) VB aU aV (aK rfl) 8 ⟨_,_,Tryz.func147,rfl⟩ rfl fun x r h1 h2=>by
  let a0:=x
  rw[show Sh.bI u5 (a0)=[aB false aA.li a0] from rfl,RT]
  exact h a0 r h1 h2
theorem w5:aJ Tryz.prog 147 dJ:=AGC fun p r h hb=>by
 cases h
 have is:∀ {n:Int},cU p=n→T.v (.int .i64 n)=T.v (.int .i64 (cU p)):=fun h=>by rw[h]
 unfold C2
 refine bT (fun h=>is (by rw[List.length_map] at h;unfold cU;rw[if_pos (by omega)])) fun h1=>?_
 refine bT (fun h=>is (by rw[List.length_map] at h h1;unfold cU;rw[if_neg (by omega),if_pos (by omega)])) fun h2=>?_
 rw[List.length_map] at h1 h2
 refine aR p.length (fun k s=>s=((k:Int),())∧∀ i,i<k→i<p.length→bO (pt p i)) ⟨rfl,fun i h=>by omega⟩ ?_
 rintro X k s hk ⟨rfl,hJ⟩ hX
 dsimp only
 refine bT (fun hlt=>?_) fun hge=>?_
 ·rw[List.length_map] at hlt
  have hlt:k<p.length:=by omega
  rw[bN hlt]
  refine aD (s:=[(false,.bool)]) (y:=!decide (bO (pt p k))) (PF ..) ?_
  refine rX (fun hf=>?_) fun hn=>hX _ hlt ⟨by rw[show IntKind.i64.wrap ((k:Int)+1)=((k+1:Nat):Int) from aO _ (by omega) (by omega)],fun i h1 h2=>by
   rcases Nat.lt_or_ge i k with h3|h3
   ·exact hJ i h3 h2
   ·have:i=k:=by omega
    subst this;exact hn⟩
  refine bT (fun _=>is ?_) fun h=>by omega
  have:wC p=false:=by
   rw[Bool.eq_false_iff];intro h
   have:=gJ.1 h _ (List.getElem_mem hlt)
   rw[←rH hlt] at this
   exact hf this
  unfold cU;rw[if_neg (by omega),if_neg (by omega),if_pos this]
 ·have hN:fH p:=fun q hq=>by
   obtain ⟨i,hi,rfl⟩:=List.mem_iff_getElem.1 hq
   rw[←rH hi]
   rw[List.length_map] at hge
   exact hJ i (by omega) hi
  have hnb:¬ wC p=false:=by rw[gJ.2 hN];simp
  refine aD (s:=[(false,.bool)]) (S7 (by omega) hN) ?_
  refine pU (fun h=>is (by unfold cU;rw[if_neg (by omega),if_neg (by omega),if_neg hnb,if_pos (.inl h)])) fun hs=>?_
  refine aD (s:=[(false,.int .i64)]) (LK (by omega) hN) ?_
  refine bT (fun h=>is (by unfold cU;rw[if_neg (by omega),if_neg (by omega),if_neg hnb,if_pos (.inr h)])) fun ha=>is ?_
  unfold cU
  rw[if_neg (by omega),if_neg (by omega),if_neg hnb,if_neg]
  rintro (h|h)
  ·rw[show l9 p=true from hs] at h;cases h
  ·exact ha h
theorem mD (p:List Pt):dJ [T.sl false (List.map aA.enc p)]=some (Sh.enc [(false,.int .i64)] (cU p)):=S5 ..
theorem c9 {p:List Pt} (h:cU p=0):3≤p.length∧p.length≤32∧fH p∧l9 p=true∧dU p≠0:=by
 unfold cU at h
 by_cases h1:p.length<3
 ·rw[if_pos h1] at h;cases h
 rw[if_neg h1] at h
 by_cases h2:32<p.length
 ·rw[if_pos h2] at h;cases h
 rw[if_neg h2] at h
 by_cases h3:wC p=false
 ·rw[if_pos h3] at h;cases h
 rw[if_neg h3] at h
 by_cases h4:l9 p=false∨dU p=0
 ·rw[if_pos h4] at h;cases h
 refine ⟨by omega,by omega,gJ.1 (by simpa using h3),by simpa using fun e=>h4 (.inl e),fun e=>h4 (.inr e)⟩
def fC (p:List Pt):Int:=if cU p=0 then dU p else 0
noncomputable def IB:Env:=Env.of [(147,.pure dJ),(152,.pure j2)]
def W3:FuncId→Hint:=fun _=>aS
theorem ACP:aF Tryz.prog IB:=aF.cons (x:=.pure dJ) w5 (aF.cons (x:=.pure j2) YZ (aF.nil _))
def JG (a0:List aI) (R:T→Prop):Prop :=
 aH [(false,Sy.int IntKind.i64)] (dJ [T.sl false (List.map aA.enc a0)])
 fun (y0:Int) =>
 aC (!decide (y0=0)) (R (T.v (.int .i64 0)))
 (aH [(false,Sy.int IntKind.i64)]
 (j2 [T.sl false (List.map aA.enc a0)]) fun (y1:Int) =>
 R (T.v (.int .i64 y1)))
theorem V0 ( a0 R):bD aX Tryz.prog IB W3 8 117 [aB false aA.li a0] R=JG a0 R:=by kernel_rfl
abbrev BG:Sh:=[(false,aA.li)]
def E2 (p:List aI):Option T:=some (T.v (Value.int .i64 (fC p)))
noncomputable def gU:List T→Option (T):=gS BG E2
theorem ZN {a0}:gU [T.sl false (List.map aA.enc a0)]=E2 (a0):=aT (s:=BG) rfl (a0) rfl
theorem AMC (h:∀ a0 r,E2 (a0)=some r→bU BG (a0)→JG a0 (fun y=>y=r)):aJ Tryz.prog 117 gU :=
 aN (E:=IB) (Hs:=W3) ACP aU aV (aK rfl) 8 ⟨_,_,Tryz.func117,rfl⟩ rfl fun x r h1 h2=>by
  let a0:=x
  rw[show Sh.bI BG (a0)=[aB false aA.li a0] from rfl,V0]
  exact h a0 r h1 h2
theorem O5:aJ Tryz.prog 117 gU:=AMC fun p r h hb=>by
 cases h
 unfold JG
 refine aD (s:=[(false,.int .i64)]) (mD p) ?_
 refine rX (fun h=>o8 (by unfold fC;rw[if_neg h])) fun h=>?_
 obtain ⟨_,h2,h3,_⟩:=c9 h
 refine aD (s:=[(false,.int .i64)]) (LK (by omega) h3) ?_
 exact o8 (by unfold fC;rw[if_pos h])
theorem sQ (p:List Pt):gU [T.sl false (List.map aA.enc p)]=some (Sh.enc [(false,.int .i64)] (fC p)):=ZN ..
end Go.Pv
namespace Go.Pv
open Go Go.Proofs
def AM (p:List Pt) (q:Pt):Bool:=(List.range p.length).any fun i=>gN (pt p i) (nx p i) q
def cF (p:List Pt) (q:Pt):Int:=if ¬ bO q∨¬ cU p=0 then -1 else if AM p q=true then 0 else if eH p q=true then 1 else -1
theorem dG {n:Nat} {f:Nat→Bool}:(List.range n).any f=true↔∃ i,i<n∧f i=true:=by simp[List.any_eq_true,List.mem_range]
theorem wX {n:Nat} {f:Nat→Bool} (h:∀ i,i<n→f i=false):(List.range n).any f=false:=by
 rw[Bool.eq_false_iff];intro ha
 obtain ⟨i,hi,h2⟩:=dG.1 ha
 rw[h i hi] at h2;cases h2
theorem AQB {a b q:Pt} (ho:gN a b q=false):hit a b q=(!(decide (q.2<a.2) == decide (q.2<b.2))&&(decide (0<aE a b q) == decide (a.2<b.2))):=by
 rcases Int.lt_or_le q.2 a.2 with h1|h1
 ·rcases Int.lt_or_le q.2 b.2 with h2|h2
  ·unfold hit;simp[show ¬ a.2≤q.2 by omega,show ¬ b.2≤q.2 by omega,h1,h2]
  ·have hz:aE a b q≠0:=fun h=>by
    have:=j6 (a:=b) (b:=a) (q:=q) (by rw[e9 a b q,h];rfl) (by omega) h2 (by omega)
    rw[G5] at this;rw[this] at ho;cases ho
   have h3:decide (0<aE a b q) = !decide (aE a b q<0):=by
    rcases Int.lt_or_le (aE a b q) 0 with h|h
    ·rw[decide_eq_true h,decide_eq_false (by omega)];rfl
    ·rw[decide_eq_false (show ¬ aE a b q<0 by omega),decide_eq_true (by omega)];rfl
   unfold hit
   rw[h3]
   simp[show ¬ a.2≤q.2 by omega,h1,h2,show ¬ q.2<b.2 by omega,show ¬ a.2<b.2 by omega]
 ·rcases Int.lt_or_le q.2 b.2 with h2|h2
  ·unfold hit;simp[h1,show ¬ q.2<a.2 by omega,h2,show ¬ b.2≤q.2 by omega,show a.2<b.2 by omega]
  ·unfold hit;simp[show ¬ q.2<a.2 by omega,show ¬ q.2<b.2 by omega]
noncomputable def IJ:Env:=Env.of [(147,.pure dJ),(169,.pure qY),(204,.pure pN),(199,.pure cZ)]
def XB:FuncId→Hint:=fun f=>match f == 174 with|true=>⟨fun r=>match r == 5 with|true=>.inv [.val 5 false .bool,.val 19 false (.int .i64)]|false=>.none,fun _ _=>none,fun _=>none⟩|false=>aS
theorem ACX:aF Tryz.prog IJ:=aF.cons (x:=.pure dJ) w5 (aF.cons (x:=.pure qY) AH3 (aF.cons (x:=.pure pN) APX (aF.cons (x:=.pure cZ) uF (aF.nil _))))
def JO (a0:List aI) (a1:aI) (R:T→Prop):Prop :=
 aH [(false,Sy.bool)] (qY [aB true aA a1]) fun (y0:Bool) =>
 aC y0 (R (T.v (.int .i64 (-1))))
 (aH [(false,Sy.int IntKind.i64)]
 (dJ [T.sl false (List.map aA.enc a0)]) fun (y1:Int) =>
 aC (!decide (y1=0)) (R (T.v (.int .i64 (-1))))
 (bE (Bool×Int×PUnit)
 (fun (X2:Bool×Int×PUnit→Prop) (s3:Bool×Int×PUnit) =>
 aC (decide (s3.2.1<(↑(List.map aA.enc a0).length:Int)))
 (aZ aA (List.map aA.enc a0) s3.2.1 fun (y4:aI) =>
 bS (!decide ((↑(List.map aA.enc a0).length:Int)=0))
 (aZ aA (List.map aA.enc a0)
 ((IntKind.i64.wrap (s3.2.1+1)).tmod (↑(List.map aA.enc a0).length:Int))
 fun (y5:aI) =>
 aH [(false,Sy.bool)]
 (pN
 [aB true aA y4,aB true aA y5,
 aB true aA a1])
 fun (y6:Bool) =>
 aC y6 (R (T.v (.int .i64 0)))
 (aC (decide (decide (a1.2<y4.2)=decide (a1.2<y5.2)))
 (X2 (s3.1,IntKind.i64.wrap (s3.2.1+1),()))
 (aH [(false,Sy.int IntKind.i64)]
 (cZ
 [aB true aA y4,aB true aA y5,
 aB true aA a1])
 fun (y7:Int) =>
 aC (decide (decide (0<y7)=decide (y4.2<y5.2)))
 (X2 (!s3.1,IntKind.i64.wrap (s3.2.1+1),()))
 (X2 (s3.1,IntKind.i64.wrap (s3.2.1+1),()))))))
 (aC s3.1 (R (T.v (.int .i64 1)))
 (R (T.v (.int .i64 (-1))))))
 (false,0,())))
theorem V8 ( a0 a1 R):bD aX Tryz.prog IJ XB 8 174 [aB false aA.li a0,aB true aA a1] R=JO a0 a1 R:=by kernel_rfl
abbrev BO:Sh:=[(false,aA.li),(true,aA)]
def E8 (x:List aI×aI):Option T:=some (T.v (Value.int .i64 (cF x.1 x.2)))
noncomputable def gW:List T→Option (T):=gS BO E8
theorem ZW {a0 a1}:gW [T.sl false (List.map aA.enc a0),aB true aA a1]=E8 (a0,a1):=aT (s:=BO) rfl (a0,a1) rfl
theorem AMK (h:∀ a0 a1 r,E8 (a0,a1)=some r→bU BO (a0,a1)→JO a0 a1 (fun y=>y=r)):aJ Tryz.prog 174 gW :=
 aN (E:=IJ) (Hs:=XB) ACX aU aV (aK rfl) 8 ⟨_,_,Tryz.func174,rfl⟩ rfl fun x r h1 h2=>by
  obtain ⟨a0,a1⟩:=x
  rw[show Sh.bI BO (a0,a1)=[aB false aA.li a0,aB true aA a1] from rfl,V8]
  exact h a0 a1 r h1 h2
def dH (p q:List Pt):Bool:=(List.range p.length).any fun i=>(List.range q.length).any fun k=>bJ (pt p i) (nx p i) (pt q k) (nx q k)
def jV (a0:List aI) (a1:List aI):List T:=[T.sl false (List.map aA.enc a0),T.sl false (List.map aA.enc a1),T.fn 172 [] []]
noncomputable def IT:Env:=Env.of [(172,.pure pP)]
def XI:FuncId→Hint:=fun f=>match f == 171 with|true=>⟨fun r=>match r == 2 with|true=>.inv [.val 13 false (.int .i64)]|false=>match r == 5 with|true=>.inv [.val 20 false (.int .i64)]|false=>.none,fun _ _=>none,fun _=>none⟩|false=>aS
theorem AC4:aF Tryz.prog IT:=aF.cons (x:=.pure pP) AK3 (aF.nil _)
def JV (a0:List aI) (a1:List aI) (R:T→Prop):Prop :=
 bE (Int×PUnit)
 (fun (X0:Int×PUnit→Prop) (s1:Int×PUnit) =>
 aC (decide (s1.1<(↑(List.map aA.enc a0).length:Int)))
 (aZ aA (List.map aA.enc a0) s1.1 fun (y2:aI) =>
 bE (Int×PUnit)
 (fun (X3:Int×PUnit→Prop) (s4:Int×PUnit) =>
 aC (decide (s4.1<(↑(List.map aA.enc a1).length:Int)))
 (aZ aA (List.map aA.enc a1) s4.1 fun (y5:aI) =>
 bS (!decide ((↑(List.map aA.enc a0).length:Int)=0))
 (aZ aA (List.map aA.enc a0)
 ((IntKind.i64.wrap (s1.1+1)).tmod (↑(List.map aA.enc a0).length:Int))
 fun (y6:aI) =>
 bS (!decide ((↑(List.map aA.enc a1).length:Int)=0))
 (aZ aA (List.map aA.enc a1)
 ((IntKind.i64.wrap (s4.1+1)).tmod (↑(List.map aA.enc a1).length:Int))
 fun (y7:aI) =>
 aH [(false,Sy.bool)]
 (pP
 [aB true aA y2,aB true aA y6,
 aB true aA y5,aB true aA y7])
 fun (y8:Bool) =>
 aC y8 (R (T.v (.bool true)))
 (X3 (IntKind.i64.wrap (s4.1+1),())))))
 (X0 (IntKind.i64.wrap (s1.1+1),())))
 (0,()))
 (R (T.v (.bool false))))
 (0,())
theorem WG ( a0 a1 R):bD aX Tryz.prog IT XI 8 171 (jV a0 a1) R=JV a0 a1 R:=by kernel_rfl
def GH {α:Type} (p q:List Pt) (r:α):Option α:=match NW p&&NW q with
 | true=>some r
 | false=>none
theorem AO {α:Type} {p q:List Pt} {t r:α} (h:GH p q t=some r):p.length≤1000∧fH p∧q.length≤1000∧fH q∧r=t:=by
 unfold GH at h;split at h
 ·rename_i hc
  simp only[NW,Bool.and_eq_true,decide_eq_true_eq,gJ] at hc
  cases h;exact ⟨hc.1.1,hc.1.2,hc.2.1,hc.2.2,rfl⟩
 ·cases h
theorem AP {α:Type} {p q:List Pt} (t:α) (h:p.length≤1000) (h2:fH p) (h3:q.length≤1000) (h4:fH q):GH p q t=some t:=by
 unfold GH;rw[show (NW p&&NW q)=true by simp only[NW,Bool.and_eq_true,decide_eq_true_eq,gJ];exact ⟨⟨h,h2⟩,h3,h4⟩]
def FD (x:List aI×List aI):Option T:=GH x.1 x.2 (T.v (.bool (dH x.1 x.2)))
theorem QO (x y:List aI×List aI) (h:jV x.1 x.2=jV y.1 y.2):x=y:=by
 unfold jV at h
 obtain ⟨h1,h2⟩:=List.cons.inj h
 have h2:=(List.cons.inj h2).1
 exact Prod.ext (map_inj (Sy.j1 aA) (T.sl.inj h1).2) (map_inj (Sy.j1 aA) (T.sl.inj h2).2)
noncomputable def iT:List T→Option (T):=gA (fun (x:List aI×List aI)=>jV x.1 x.2) FD
theorem Z5 (a0:List aI) (a1:List aI):iT (jV a0 a1)=FD (a0,a1):=AY0 (A:=(fun (x:List aI×List aI)=>jV x.1 x.2)) QO (a0,a1)
theorem AMR (h:∀ (a0:List aI) (a1:List aI) (r:T),FD (a0,a1)=some r→(∀ t∈jV a0 a1,Bd t)→JV a0 a1 (fun y=>y=r)):aJ Tryz.prog 171 iT :=
 ART (E:=IT) (Hs:=XI) AC4 aU aV (aK rfl) 8 ⟨_,_,Tryz.func171,rfl⟩ fun x r h1 h2=>by
  rw[WG]
  exact h x.1 x.2 r h1 h2
theorem O9:aJ Tryz.prog 171 iT:=AMR fun p q r h hb=>by
 obtain ⟨hl,hn,hl2,hn2,rfl⟩:=AO h
 replace hl:p.length≤1000:=hl
 replace hl2:q.length≤1000:=hl2
 clear h
 unfold JV
 refine aR p.length (fun k s=>s=((k:Int),())∧∀ i,i<k→i<p.length→((List.range q.length).any fun k=>bJ (pt p i) (nx p i) (pt q k) (nx q k))=false) ⟨rfl,fun i h=>by omega⟩ ?_
 rintro X k s hk ⟨rfl,hJ⟩ hX
 dsimp only
 refine bT (fun hlt=>?_) fun hge=>cM (Eq.symm (wX fun i hi=>hJ i (by rw[List.length_map] at hge;omega) hi))
 rw[List.length_map] at hlt
 have hlt:k<p.length:=by omega
 have hne:(!decide (((List.map aA.enc p).length:Int)=0))=true:=by rw[List.length_map,decide_eq_false (by omega)];rfl
 have hm1:(k+1) % p.length<p.length:=Nat.mod_lt _ (by omega)
 have i1:(IntKind.i64.wrap ((k:Int)+1)).tmod ((List.map aA.enc p).length:Int)=(((k+1) % p.length:Nat):Int):=by rw[List.length_map];exact gM (c:=1) hl (by omega) (by omega)
 rw[bN hlt]
 refine aR q.length (fun j s=>s=((j:Int),())∧∀ i,i<j→i<q.length→bJ (pt p k) (nx p k) (pt q i) (nx q i)=false) ⟨rfl,fun i h=>by omega⟩ ?_
 rintro Y j s hj ⟨rfl,hI⟩ hY
 dsimp only
 refine bT (fun hlj=>?_) fun hgj=>hX _ hlt ⟨by rw[show IntKind.i64.wrap ((k:Int)+1)=((k+1:Nat):Int) from aO _ (by omega) (by omega)],fun i h1 h2=>by
  rcases Nat.lt_or_ge i k with h3|h3
  ·exact hJ i h3 h2
  ·have:i=k:=by omega
   subst this;exact wX fun m hm=>hI m (by rw[List.length_map] at hgj;omega) hm⟩
 rw[List.length_map] at hlj
 have hlj:j<q.length:=by omega
 have hne2:(!decide (((List.map aA.enc q).length:Int)=0))=true:=by rw[List.length_map,decide_eq_false (by omega)];rfl
 have hm2:(j+1) % q.length<q.length:=Nat.mod_lt _ (by omega)
 have i2:(IntKind.i64.wrap ((j:Int)+1)).tmod ((List.map aA.enc q).length:Int)=(((j+1) % q.length:Nat):Int):=by rw[List.length_map];exact gM (c:=1) hl2 (by omega) (by omega)
 rw[bN hlj,i1]
 refine ⟨hne,?_⟩
 rw[bN hm1,i2]
 refine ⟨hne2,?_⟩
 rw[bN hm2]
 refine aD (s:=[(false,.bool)]) ((Z6 ..).trans (AJ _ (hn.pt _) (hn.pt _) (hn2.pt _) (hn2.pt _))) ?_
 refine vR (fun h=>cM (Eq.symm (dG.2 ⟨k,hlt,dG.2 ⟨j,hlj,h⟩⟩))) fun h=>hY _ hlj ⟨by rw[show IntKind.i64.wrap ((j:Int)+1)=((j+1:Nat):Int) from aO _ (by omega) (by omega)],fun i h1 h2=>by
  rcases Nat.lt_or_ge i j with h3|h3
  ·exact hI i h3 h2
  ·have:i=j:=by omega
   subst this;exact h⟩
theorem F4 {p q:List Pt} (h:p.length≤1000) (h2:fH p) (h3:q.length≤1000) (h4:fH q):iT (jV p q)=some (Sh.enc [(false,.bool)] (dH p q)):=(Z5 ..).trans (AP _ h h2 h3 h4)
theorem O6:aJ Tryz.prog 174 gW:=AMK fun p q r h hb=>by
 cases h
 have is:∀ {n:Int},cF p q=n→T.v (.int .i64 n)=T.v (.int .i64 (cF p q)):=fun h=>by rw[h]
 unfold JO
 refine aD (s:=[(false,.bool)]) (y:=!decide (bO q)) (PF ..) ?_
 refine rX (fun h=>is (by unfold cF;rw[if_pos (.inl h)])) fun hq=>?_
 refine aD (s:=[(false,.int .i64)]) (mD p) ?_
 refine rX (fun h=>is (by unfold cF;rw[if_pos (.inr h)])) fun hp=>?_
 obtain ⟨hl3,hl32,hn,_⟩:=c9 hp
 have w:cF p q=if AM p q=true then 0 else if eH p q=true then 1 else -1:=by
  unfold cF;rw[if_neg];rintro (h|h)
  ·exact h hq
  ·exact h hp
 refine aR p.length (fun k s=>s=(eD k (fun i=>hit (pt p i) (nx p i) q),(k:Int),())∧∀ i,i<k→i<p.length→gN (pt p i) (nx p i) q=false) ⟨rfl,fun i h=>by omega⟩ ?_
 rintro X k s hk ⟨rfl,hJ⟩ hX
 dsimp only
 refine bT (fun hlt=>?_) fun hge=>?_
 ·rw[List.length_map] at hlt
  have hlt:k<p.length:=by omega
  have hne:(!decide (((List.map aA.enc p).length:Int)=0))=true:=by rw[List.length_map,decide_eq_false (by omega)];rfl
  have hm1:(k+1) % p.length<p.length:=Nat.mod_lt _ (by omega)
  have i1:(IntKind.i64.wrap ((k:Int)+1)).tmod ((List.map aA.enc p).length:Int)=(((k+1) % p.length:Nat):Int):=by rw[List.length_map];exact gM (c:=1) (by omega) (by omega) (by omega)
  rw[bN hlt,i1]
  refine ⟨hne,?_⟩
  rw[bN hm1]
  refine aD (s:=[(false,.bool)]) (sS (hn.pt _) (hn.pt _) hq) ?_
  refine vR (fun h=>is (by rw[w,if_pos (show AM p q=true from dG.2 ⟨k,hlt,h⟩)])) fun ho=>?_
  have ho:gN (pt p k) (nx p k) q=false:=ho
  have hw:IntKind.i64.wrap ((k:Int)+1)=((k+1:Nat):Int):=aO _ (by omega) (by omega)
  have hh:=AQB ho
  have hJ':∀ i,i<k+1→i<p.length→gN (pt p i) (nx p i) q=false:=fun i h1 h2=>by
   rcases Nat.lt_or_ge i k with h3|h3
   ·exact hJ i h3 h2
   ·have:i=k:=by omega
    subst this;exact ho
  have step:∀ c,hit (pt p k) (nx p k) q=c→X ((eD k (fun i=>hit (pt p i) (nx p i) q) ^^ c),IntKind.i64.wrap ((k:Int)+1),()):=fun c hc=>hX _ hlt ⟨by rw[hw,eD,hc],hJ'⟩
  refine bT (fun h=>?_) fun h=>?_
  ·have e:hit (pt p k) (nx p k) q=false:=by
    rw[hh,show decide (q.2<(pt p k).2)=decide (q.2<(nx p k).2) from h];simp
   have:=step false e
   rwa[Bool.xor_false] at this
  ·refine aD (s:=[(false,.int .i64)]) (gV (hn.pt _) (hn.pt _) hq) ?_
   have e0:hit (pt p k) (nx p k) q=(decide (0<aE (pt p k) (nx p k) q) == decide ((pt p k).2<(nx p k).2)):=by
    rw[hh,show (decide (q.2<(pt p k).2) == decide (q.2<(nx p k).2))=false from beq_eq_false_iff_ne.2 h];rfl
   refine bT (fun h2=>?_) fun h2=>?_
   ·have:=step true (by rw[e0];exact beq_iff_eq.2 h2)
    rwa[Bool.xor_true] at this
   ·have:=step false (by rw[e0];exact beq_eq_false_iff_ne.2 h2)
    rwa[Bool.xor_false] at this
 ·rw[List.length_map] at hge
  have:k=p.length:=by omega
  subst this
  have hna:AM p q=false:=wX fun i hi=>hJ i hi hi
  refine vR (fun h=>is ?_) fun h=>is ?_
  ·rw[w,hna,if_neg (by simp),if_pos (show eH p q=true from h)]
  ·rw[w,hna,if_neg (by simp),if_neg (by rw[show eH p q=false from h];simp)]
theorem sT (p:List Pt) (q:Pt):gW [T.sl false (List.map aA.enc p),aB true aA q]=some (Sh.enc [(false,.int .i64)] (cF p q)):=ZW ..
def eY (p o:List Pt):Bool:=!dH p o&&p.all fun c=>decide (cF o c=1)
def eP (p q:List Pt):Bool:=!dH p q&&(decide (cF p (pt q 0)<0)&&decide (cF q (pt p 0)<0))
noncomputable def CN:Env:=Env.of [(174,.pure gW),(171,.pure iT)]
def OF:FuncId→Hint:=fun f=>match f == 198 with|true=>⟨fun r=>match r == 2 with|true=>.inv [.val 8 false (.int .i64)]|false=>.none,fun _ _=>none,fun _=>none⟩|false=>aS
theorem VF:aF Tryz.prog CN:=aF.cons (x:=.pure gW) O6 (aF.cons (x:=.pure iT) O9 (aF.nil _))
def C6 (a0:List aI) (a1:List aI) (R:T→Prop):Prop :=
 aH [(false,Sy.bool)]
 (iT
 [T.sl false (List.map aA.enc a0),T.sl false (List.map aA.enc a1),
 T.fn 172 [] []])
 fun (y0:Bool) =>
 aC (!y0)
 (bE (Int×PUnit)
 (fun (X1:Int×PUnit→Prop) (s2:Int×PUnit) =>
 aC (decide (s2.1<(↑(List.map aA.enc a0).length:Int)))
 (aZ aA (List.map aA.enc a0) s2.1 fun (y3:aI) =>
 aH [(false,Sy.int IntKind.i64)]
 (gW [T.sl false (List.map aA.enc a1),aB true aA y3])
 fun (y4:Int) =>
 aC (!decide (y4=1)) (R (T.v (.bool !decide (0≤s2.1))))
 (X1 (IntKind.i64.wrap (s2.1+1),())))
 (R (T.v (.bool true))))
 (0,()))
 (R (T.v (.bool false)))
theorem R2 ( a0 a1 R):bD aX Tryz.prog CN OF 8 148 [aB false aA.li a0,aB false aA.li a1] R=C6 a0 a1 R:=by kernel_rfl
abbrev vA:Sh:=[(false,aA.li),(false,aA.li)]
def yP (x:List aI×List aI):Option T:=GH x.1 x.2 (T.v (.bool (eY x.1 x.2)))
noncomputable def kM:List T→Option (T):=gS vA yP
theorem TB {a0 a1}:kM [T.sl false (List.map aA.enc a0),T.sl false (List.map aA.enc a1)]=yP (a0,a1):=aT (s:=vA) rfl (a0,a1) rfl
theorem AGG (h:∀ a0 a1 r,yP (a0,a1)=some r→bU vA (a0,a1)→C6 a0 a1 (fun y=>y=r)):aJ Tryz.prog 148 kM :=
 aN (E:=CN) (Hs:=OF) VF aU aV (aK rfl) 8 ⟨_,_,Tryz.func148,rfl⟩ rfl fun x r h1 h2=>by
  obtain ⟨a0,a1⟩:=x
  rw[show Sh.bI vA (a0,a1)=[aB false aA.li a0,aB false aA.li a1] from rfl,R2]
  exact h a0 a1 r h1 h2
theorem AE2:aJ Tryz.prog 148 kM:=AGG fun p o r h hb=>by
 obtain ⟨hl,hn,hl2,hn2,rfl⟩:=AO h
 replace hl:p.length≤1000:=hl
 clear h
 unfold C6
 refine aD (s:=[(false,.bool)]) (F4 hl hn hl2 hn2) ?_
 refine pU (fun he=>?_) fun he=>cM (by unfold eY;rw[show dH p o=true from he];rfl)
 have w:eY p o=p.all fun c=>decide (cF o c=1):=by unfold eY;rw[show dH p o=false from he];rfl
 refine aR p.length (fun k s=>s=((k:Int),())∧p.all (fun c=>decide (cF o c=1))=(p.drop k).all fun c=>decide (cF o c=1)) ⟨rfl,by rw[List.drop_zero]⟩ ?_
 rintro X k s hk ⟨rfl,hJ⟩ hX
 dsimp only
 refine bT (fun hlt=>?_) fun hge=>cM ?_
 ·rw[List.length_map] at hlt
  have hlt:k<p.length:=by omega
  rw[List.drop_eq_getElem_cons hlt,List.all_cons] at hJ
  rw[a7 (r:=aA) hlt]
  refine aD (s:=[(false,.int .i64)]) (sT o p[k]) ?_
  refine rX (fun h=>cM ?_) fun h=>hX _ hlt ⟨by rw[show IntKind.i64.wrap ((k:Int)+1)=((k+1:Nat):Int) from aO _ (by omega) (by omega)],by rw[hJ,decide_eq_true (show cF o p[k]=1 from h),Bool.true_and]⟩
  rw[w,hJ,decide_eq_false (show ¬ cF o p[k]=1 from h),decide_eq_true (show 0≤(k:Int) by omega)];rfl
 ·rw[List.length_map] at hge
  have:k=p.length:=by omega
  subst this
  rw[w,hJ,List.drop_length];rfl
theorem TC {p q:List Pt} (h:p.length≤1000) (h2:fH p) (h3:q.length≤1000) (h4:fH q):kM [T.sl false (List.map aA.enc p),T.sl false (List.map aA.enc q)]=some (Sh.enc [(false,.bool)] (eY p q)):=(TB ..).trans (AP _ h h2 h3 h4)
def AGO (p q:List Pt) (t:T):Option T:=match p,q with
 | _::_,_::_=>GH p q t
 | _,_=>none
noncomputable def IK:Env:=Env.of [(174,.pure gW),(171,.pure iT)]
def XC:FuncId→Hint:=fun _=>aS
theorem ACY:aF Tryz.prog IK:=aF.cons (x:=.pure gW) O6 (aF.cons (x:=.pure iT) O9 (aF.nil _))
def JP (a0:List aI) (a1:List aI) (R:T→Prop):Prop :=
 aH [(false,Sy.bool)]
 (iT
 [T.sl false (List.map aA.enc a0),T.sl false (List.map aA.enc a1),
 T.fn 172 [] []])
 fun (y0:Bool) =>
 aC (!y0)
 (aZ aA (List.map aA.enc a1) 0 fun (y1:aI) =>
 aH [(false,Sy.int IntKind.i64)]
 (gW [T.sl false (List.map aA.enc a0),aB true aA y1])
 fun (y2:Int) =>
 aC (decide (y2<0))
 (aZ aA (List.map aA.enc a0) 0 fun (y3:aI) =>
 aH [(false,Sy.int IntKind.i64)]
 (gW [T.sl false (List.map aA.enc a1),aB true aA y3])
 fun (y4:Int)=>R (T.v (.bool (decide (y4<0)))))
 (R (T.v (.bool false))))
 (R (T.v (.bool false)))
theorem V9 ( a0 a1 R):bD aX Tryz.prog IK XC 8 149 [aB false aA.li a0,aB false aA.li a1] R=JP a0 a1 R:=by kernel_rfl
abbrev BP:Sh:=[(false,aA.li),(false,aA.li)]
def qE (x:List aI×List aI):Option T:=AGO x.1 x.2 (T.v (.bool (eP x.1 x.2)))
noncomputable def nK:List T→Option (T):=gS BP qE
theorem ZX {a0 a1}:nK [T.sl false (List.map aA.enc a0),T.sl false (List.map aA.enc a1)]=qE (a0,a1):=aT (s:=BP) rfl (a0,a1) rfl
theorem AML (h:∀ a0 a1 r,qE (a0,a1)=some r→bU BP (a0,a1)→JP a0 a1 (fun y=>y=r)):aJ Tryz.prog 149 nK :=
 aN (E:=IK) (Hs:=XC) ACY aU aV (aK rfl) 8 ⟨_,_,Tryz.func149,rfl⟩ rfl fun x r h1 h2=>by
  obtain ⟨a0,a1⟩:=x
  rw[show Sh.bI BP (a0,a1)=[aB false aA.li a0,aB false aA.li a1] from rfl,V9]
  exact h a0 a1 r h1 h2
theorem AKZ:aJ Tryz.prog 149 nK:=AML fun p q r h hb=>by
 unfold qE AGO at h
 split at h
 ·rename_i e1 e2
  obtain ⟨hl,hn,hl2,hn2,rfl⟩:=AO h
  have k1:0<p.length:=by rw[show p=_ from e1];simp
  have k2:0<q.length:=by rw[show q=_ from e2];simp
  clear h
  unfold JP
  refine aD (s:=[(false,.bool)]) (F4 hl hn hl2 hn2) ?_
  refine pU (fun he=>?_) fun he=>cM (by unfold eP;rw[show dH p q=true from he];rfl)
  have w:eP p q=(decide (cF p (pt q 0)<0)&&decide (cF q (pt p 0)<0)):=by unfold eP;rw[show dH p q=false from he];rfl
  rw[show (0:Int)=((0:Nat):Int) from rfl,bN k2]
  refine aD (s:=[(false,.int .i64)]) (sT p (pt q 0)) ?_
  refine bT (fun h=>?_) fun h=>cM (by rw[w,decide_eq_false (show ¬ cF p (pt q 0)<0 from h)];rfl)
  rw[bN k1]
  refine aD (s:=[(false,.int .i64)]) (sT q (pt p 0)) ?_
  exact cM (by rw[w,decide_eq_true (show cF p (pt q 0)<0 from h)];rfl)
 ·cases h
theorem ZY {p q:List Pt} (k1:0<p.length) (k2:0<q.length) (h:p.length≤1000) (h2:fH p) (h3:q.length≤1000) (h4:fH q):nK [T.sl false (List.map aA.enc p),T.sl false (List.map aA.enc q)]=some (Sh.enc [(false,.bool)] (eP p q)):=by
 refine (ZX ..).trans ?_
 unfold qE AGO
 cases p with
 | nil=>simp at k1
 | cons a p=>cases q with
  | nil=>simp at k2
  | cons b q=>exact AP _ h h2 h3 h4
end Go.Pv
namespace Go.Pv
open Go Go.Proofs
theorem FX {r:Sy} {l:List r.den} (f:Nat→Int) (hl:l.length≤1000000) {Body:(Int×PUnit→Prop)→Int×PUnit→r.den→Prop} {Exit:Prop}
  (hbody:∀ (X:Int×PUnit→Prop) (k:Nat) (hk:k<l.length),(∀ j,j<k→f j=0)→(f k=0→X (((k+1:Nat):Int),()))→(f k≠0→eF f (List.range l.length)=f k)→Body X ((k:Int),()) l[k]) (hexit:eF f (List.range l.length)=0→Exit) :
  bE (Int×PUnit) (fun (X:Int×PUnit→Prop) (s:Int×PUnit)=>aC (decide (s.1<((List.map r.enc l).length:Int))) (aZ r (List.map r.enc l) s.1 fun y=>Body X s y) Exit) (0,()):=by
 refine aR l.length (fun k s=>s=((k:Int),())∧eF f (List.range l.length)=eF f (List.range' k (l.length-k))∧∀ j,j<k→f j=0) ⟨rfl,by rw[List.range_eq_range'];rfl,fun j h=>by omega⟩ ?_
 rintro X k s hk ⟨rfl,he,hp⟩ hX
 dsimp only
 refine bT (fun hlt=>?_) fun hge=>?_
 ·rw[List.length_map] at hlt
  have hlt:k<l.length:=by omega
  rw[a7 hlt]
  obtain ⟨m,hm⟩:∃ m,l.length-k=m+1:=⟨l.length-k-1,by omega⟩
  rw[hm,List.range'_succ,eF] at he
  refine hbody X k hlt hp (fun h0=>?_) fun h0=>by rw[he,if_neg h0]
  rw[if_pos h0] at he
  exact hX _ hlt ⟨rfl,by rw[he];congr 2;omega,fun j hj=>by
   rcases Nat.lt_or_ge j k with h|h
   ·exact hp j h
   ·have:j=k:=by omega
    subst this;exact h0⟩
 ·rw[List.length_map] at hge
  have:l.length-k=0:=by omega
  rw[this] at he
  exact hexit he
def kB (s:dP) (i:Nat):Int:=if ¬ cU (s.2.getD i [])=0 then cU (s.2.getD i []) else if 0≤fC (s.2.getD i [])∨eY (s.2.getD i []) s.1=false then 17 else if ((List.range i).all fun k=>eP (s.2.getD i []) (s.2.getD k []))=false then 17 else 0
def fE (s:dP):Int:=if 8<s.2.length then 12 else if ¬ cU s.1=0 then cU s.1 else if fC s.1≤0 then 17 else eF (kB s) (List.range s.2.length)
theorem FW {α:Type} {f:α→Int}:∀ {l:List α},eF f l=0→∀ a∈l,f a=0
 | a::l,h,b,hb=>by
  unfold eF at h
  by_cases ha:f a=0
  ·rw[if_pos ha] at h
   rcases List.mem_cons.1 hb with rfl|hb
   ·exact ha
   ·exact FW h b hb
  ·rw[if_neg ha] at h;exact absurd h ha
 | [],_,b,hb=>by cases hb
theorem AMZ (l:List (List aI)):kQ 1 (List.map aA.li.enc l)=true:=by cases l<;>rfl
noncomputable def IM:Env:=Env.of [(147,.pure dJ),(117,.pure gU),(148,.pure kM),(149,.pure nK)]
def XE:FuncId→Hint:=fun f=>match f == 109 with|true=>⟨fun r=>match r == 9 with|true=>.inv [.val 26 false (.int .i64)]|false=>match r == 17 with|true=>.inv [.val 51 false (.int .i64)]|false=>.none,fun _ _=>none,fun _=>none⟩|false=>aS
theorem AC0:aF Tryz.prog IM:=aF.cons (x:=.pure dJ) w5 (aF.cons (x:=.pure gU) O5 (aF.cons (x:=.pure kM) AE2 (aF.cons (x:=.pure nK) AKZ (aF.nil _))))
def JR (a0:dP) (R:T→Prop):Prop :=
 aC (decide (8<(↑(List.map aA.li.enc a0.2).length:Int)))
 (R (T.v (.int .i64 12)))
 (aH [(false,Sy.int IntKind.i64)]
 (dJ [T.sl false (List.map aA.enc a0.1)]) fun (y0:Int) =>
 aC (!decide (y0=0)) (R (T.v (.int .i64 y0)))
 (aH [(false,Sy.int IntKind.i64)]
 (gU [T.sl false (List.map aA.enc a0.1)]) fun (y1:Int) =>
 aC (decide (y1≤0)) (R (T.v (.int .i64 17)))
 (bE (Int×PUnit)
 (fun (X2:Int×PUnit→Prop) (s3:Int×PUnit) =>
 aC (decide (s3.1<(↑(List.map aA.li.enc a0.2).length:Int)))
 (aZ aA.li (List.map aA.li.enc a0.2) s3.1
 fun (y4:List aI) =>
 aH [(false,Sy.int IntKind.i64)]
 (dJ [T.sl false (List.map aA.enc y4)]) fun (y5:Int) =>
 aC (!decide (y5=0)) (R (T.v (.int .i64 y5)))
 (aH [(false,Sy.int IntKind.i64)]
 (gU [T.sl false (List.map aA.enc y4)]) fun (y6:Int) =>
 aC (decide (0≤y6)) (R (T.v (.int .i64 17)))
 (aH [(false,Sy.bool)]
 (kM
 [T.sl false (List.map aA.enc y4),
 T.sl false (List.map aA.enc a0.1)])
 fun (y7:Bool) =>
 aC (!y7) (R (T.v (.int .i64 17)))
 (bS
 (kQ 1 (List.map aA.li.enc a0.2) &&
 (decide (0≤s3.1) &&
 decide (Int.toNat s3.1≤(List.map aA.li.enc a0.2).length)) &&
 true)
 (bE (Int×PUnit)
 (fun (X8:Int×PUnit→Prop) (s9:Int×PUnit) =>
 aC
 (decide
 (s9.1 <
 (↑(List.drop 0
 (List.take (Int.toNat s3.1)
 (List.map aA.li.enc a0.2))).length :
 Int)))
 (aZ aA.li
 (List.drop 0
 (List.take (Int.toNat s3.1) (List.map aA.li.enc a0.2)))
 s9.1 fun (y10:List aI) =>
 aH [(false,Sy.bool)]
 (nK
 [T.sl false (List.map aA.enc y4),
 T.sl false (List.map aA.enc y10)])
 fun (y11:Bool) =>
 aC (!y11) (R (T.v (.int .i64 17)))
 (X8 (IntKind.i64.wrap (s9.1+1),())))
 (X2 (IntKind.i64.wrap (s3.1+1),())))
 (0,()))))))
 (R (T.v (.int .i64 0))))
 (0,()))))
theorem WB ( a0 R):bD aX Tryz.prog IM XE 8 109 [aB true b6 a0] R=JR a0 R:=by kernel_rfl
abbrev BR:Sh:=[(true,b6)]
def FA (s:dP):Option T:=some (T.v (Value.int .i64 (fE s)))
noncomputable def eW:List T→Option (T):=gS BR FA
theorem Z1 {a0}:eW [aB true b6 a0]=FA (a0):=aT (s:=BR) rfl (a0) rfl
theorem AMN (h:∀ a0 r,FA (a0)=some r→bU BR (a0)→JR a0 (fun y=>y=r)):aJ Tryz.prog 109 eW :=
 aN (E:=IM) (Hs:=XE) AC0 aU aV (aK rfl) 8 ⟨_,_,Tryz.func109,rfl⟩ rfl fun x r h1 h2=>by
  let a0:=x
  rw[show Sh.bI BR (a0)=[aB true b6 a0] from rfl,WB]
  exact h a0 r h1 h2
theorem O7:aJ Tryz.prog 109 eW:=AMN fun s r h hb=>by
 cases h
 have is:∀ {n:Int},fE s=n→T.v (.int .i64 n)=T.v (.int .i64 (fE s)):=fun h=>by rw[h]
 unfold JR
 refine bT (fun h=>is (by rw[List.length_map] at h;unfold fE;rw[if_pos (by omega)])) fun h1=>?_
 rw[List.length_map] at h1
 refine aD (s:=[(false,.int .i64)]) (mD s.1) ?_
 refine rX (fun h=>is (by unfold fE;rw[if_neg (by omega),if_pos h])) fun h2=>?_
 refine aD (s:=[(false,.int .i64)]) (sQ s.1) ?_
 refine bT (fun h=>is (by unfold fE;rw[if_neg (by omega),if_neg (by simpa using h2),if_pos h])) fun h3=>?_
 have w:fE s=eF (kB s) (List.range s.2.length):=by unfold fE;rw[if_neg (by omega),if_neg (by simpa using h2),if_neg h3]
 obtain ⟨ho3,ho32,hoN,_⟩:=c9 h2
 refine FX (r:=aA.li) (kB s) (by show s.2.length≤1000000;omega) (fun X k hk hprev hok hbad=>?_) fun h0=>is (w.trans h0)
 have hk:k<s.2.length:=hk
 have hg:s.2.getD k []=s.2[k]:=by rw[List.getD_eq_getElem?_getD,List.getElem?_eq_getElem hk];rfl
 have bad:∀ {n:Int},n≠0→kB s k=n→T.v (.int .i64 n)=T.v (.int .i64 (fE s)):=fun hn h=>is (w.trans ((hbad (by rw[h];exact hn)).trans h))
 have hE:kB s k=if ¬ cU s.2[k]=0 then cU s.2[k] else if 0≤fC s.2[k]∨eY s.2[k] s.1=false then 17 else if ((List.range k).all fun j=>eP s.2[k] (s.2.getD j []))=false then 17 else 0:=by unfold kB;rw[hg]
 show aH [(false,Sy.int IntKind.i64)] (dJ [T.sl false (List.map aA.enc s.2[k])]) _
 refine aD (s:=[(false,.int .i64)]) (mD s.2[k]) ?_
 refine rX (fun h=>bad h (by rw[hE,if_pos h])) fun p1=>?_
 refine aD (s:=[(false,.int .i64)]) (sQ s.2[k]) ?_
 refine bT (fun h=>bad (by decide) (by rw[hE,if_neg (by simpa using p1),if_pos (.inl h)])) fun p2=>?_
 obtain ⟨hp3,hp32,hpN,_⟩:=c9 p1
 refine aD (s:=[(false,.bool)]) (TC (by omega) hpN (by omega) hoN) ?_
 refine pU (fun h=>bad (by decide) (by rw[hE,if_neg (by simpa using p1),if_pos (.inr h)])) fun p3=>?_
 have hE2:kB s k=if ((List.range k).all fun j=>eP s.2[k] (s.2.getD j []))=false then 17 else 0:=by
  rw[hE,if_neg (by simpa using p1),if_neg]
  rintro (h|h)
  ·exact p2 h
  ·rw[show eY s.2[k] s.1=true from p3] at h;cases h
 refine ⟨by rw[AMZ,List.length_map];simp;omega,?_⟩
 have htk:List.drop 0 (List.take (Int.toNat (k:Int)) (List.map aA.li.enc s.2))=List.map aA.li.enc (s.2.take k):=by rw[List.drop_zero,Int.toNat_natCast,List.map_take]
 dsimp only
 rw[htk]
 have ht:(s.2.take k).length=k:=by rw[List.length_take];omega
 refine aR k (fun j s'=>s'=((j:Int),())∧∀ i,i<j→eP s.2[k] (s.2.getD i [])=true) ⟨rfl,fun i h=>by omega⟩ ?_
 rintro Y j s' hj ⟨rfl,hJ⟩ hY
 dsimp only
 refine bT (fun hlt=>?_) fun hge=>?_
 ·rw[List.length_map,ht] at hlt
  have hlt:j<k:=by omega
  rw[a7 (r:=aA.li) (show j<(s.2.take k).length by omega)]
  have hgj:s.2.getD j []=s.2[j]:=by rw[List.getD_eq_getElem?_getD,List.getElem?_eq_getElem (by omega)];rfl
  have hgt:(s.2.take k)[j]'(by omega)=s.2[j]:=by simp
  rw[hgt]
  have hj0:cU s.2[j]=0:=by
   have h0:=hprev j hlt
   unfold kB at h0
   rw[hgj] at h0
   refine Classical.byContradiction fun hc=>?_
   rw[if_pos hc] at h0
   exact hc h0
  obtain ⟨hq3,hq32,hqN,_⟩:=c9 hj0
  refine aD (s:=[(false,.bool)]) (ZY (by omega) (by omega) (by omega) hpN (by omega) hqN) ?_
  refine pU (fun h=>bad (by decide) ?_) fun h=>hY _ hlt ⟨by rw[show IntKind.i64.wrap ((j:Int)+1)=((j+1:Nat):Int) from aO _ (by omega) (by omega)],fun i hi=>by
   rcases Nat.lt_or_ge i j with h3|h3
   ·exact hJ i h3
   ·have:i=j:=by omega
    subst this;rw[hgj];exact h⟩
  rw[hE2,if_pos (oI hlt (by rw[hgj];exact h))]
 ·rw[List.length_map,ht] at hge
  have:j=k:=by omega
  subst this
  rw[show IntKind.i64.wrap ((j:Int)+1)=((j+1:Nat):Int) from aO _ (by omega) (by omega)]
  refine hok ?_
  rw[hE2,if_neg]
  rw[b9.2 hJ];simp
theorem F2 (s:dP):eW [aB true b6 s]=some (Sh.enc [(false,.int .i64)] (fE s)):=Z1 ..
noncomputable def IQ:Env:=Env.of []
def XG:FuncId→Hint:=fun _=>aS
theorem AC2:aF Tryz.prog IQ:=aF.nil _
def JT (a0:dP) (R:T→Prop):Prop :=
 aC (List.map aA.li.enc a0.2).isEmpty
 (R (T.sl false [[T.sl false (List.map aA.enc a0.1)]]))
 (bS
 (fR 1 (List.map aA.li.enc a0.2) &&
 decide ((1+(List.map aA.li.enc a0.2).length)*24≤140737488355328) &&
 decide (1+(List.map aA.li.enc a0.2).length≤140737488355328))
 (R
 (T.sl false
 ([T.sl false (List.map aA.enc a0.1)] ::
 (List.map aA.li.enc a0.2)))))
theorem WD ( a0 R):bD aX Tryz.prog IQ XG 8 116 [aB true b6 a0] R=JT a0 R:=by kernel_rfl
abbrev BT:Sh:=[(true,b6)]
abbrev ARX:Sh:=[(false,aA.li.li)]
def qF (s:dP):Option T:=match decide (s.2.length≤1000) with
 | true=>some (Sh.enc ARX (s.1::s.2))
 | false=>none
noncomputable def pO:List T→Option (T):=gS BT qF
theorem Z3 {a0}:pO [aB true b6 a0]=qF (a0):=aT (s:=BT) rfl (a0) rfl
theorem AMP (h:∀ a0 r,qF (a0)=some r→bU BT (a0)→JT a0 (fun y=>y=r)):aJ Tryz.prog 116 pO :=
 aN (E:=IQ) (Hs:=XG) AC2 aU aV (aK rfl) 8 ⟨_,_,Tryz.func116,rfl⟩ rfl fun x r h1 h2=>by
  let a0:=x
  rw[show Sh.bI BT (a0)=[aB true b6 a0] from rfl,WD]
  exact h a0 r h1 h2
theorem AK1:aJ Tryz.prog 116 pO:=AMP fun s r h hb=>by
 unfold qF at h
 split at h
 ·rename_i hc
  have hc:s.2.length≤1000:=of_decide_eq_true hc
  cases h
  obtain ⟨o,hs⟩:=s
  unfold JT
  cases hs with
  | nil=>exact (rfl:T.sl false [[T.sl false (List.map aA.enc o)]]=_)
  | cons a l =>
   show bS _ _
   refine ⟨?_,rfl⟩
   simp only[Bool.and_eq_true,decide_eq_true_eq,List.length_map]
   have hc:(a::l).length≤1000:=hc
   exact ⟨⟨zA (.li aA) (a::l),by omega⟩,by omega⟩
 ·cases h
def ANM (l:List (List Pt)):Int:=cE l.length fun i=>fC (l.getD i [])
def nY (s:dP):Int:=if fE s=0 then ANM (s.1::s.2) else 0
theorem KH (p:List Pt):-68719476736≤fC p∧fC p≤68719476736:=by
 unfold fC
 by_cases h:cU p=0
 ·rw[if_pos h]
  obtain ⟨_,h2,h3,_⟩:=c9 h
  have:=uB h3 p.length
  unfold dU
  omega
 ·rw[if_neg h];omega
theorem HS (l:List (List Pt)):∀ n:Nat,-(68719476736*(n:Int))≤cE n (fun i=>fC (l.getD i []))∧cE n (fun i=>fC (l.getD i []))≤68719476736*(n:Int)
 | 0=>by simp[cE]
 | n+1=>by
  have ih:=HS l n
  have hb:=KH (l.getD n [])
  unfold cE
  constructor<;>push_cast<;>omega
noncomputable def IL:Env:=Env.of [(109,.pure eW),(116,.pure pO),(117,.pure gU)]
def XD:FuncId→Hint:=fun f=>match f == 63 with|true=>⟨fun r=>match r == 5 with|true=>.inv [.val 3 false (.int .i64),.val 12 false (.int .i64)]|false=>.none,fun _ _=>none,fun _=>none⟩|false=>aS
theorem ACZ:aF Tryz.prog IL:=aF.cons (x:=.pure eW) O7 (aF.cons (x:=.pure pO) AK1 (aF.cons (x:=.pure gU) O5 (aF.nil _)))
def JQ (a0:dP) (R:T→Prop):Prop :=
 aH [(false,Sy.int IntKind.i64)] (eW [aB true b6 a0]) fun (y0:Int) =>
 aC (!decide (y0=0)) (R (T.v (.int .i64 0)))
 (aH [(false,aA.li.li)] (pO [aB true b6 a0])
 fun (y1:List (List aI)) =>
 bE (Int×Int×PUnit)
 (fun (X2:Int×Int×PUnit→Prop) (s3:Int×Int×PUnit) =>
 aC (decide (s3.2.1<(↑(List.map aA.li.enc y1).length:Int)))
 (aZ aA.li (List.map aA.li.enc y1) s3.2.1 fun (y4:List aI) =>
 aH [(false,Sy.int IntKind.i64)]
 (gU [T.sl false (List.map aA.enc y4)]) fun (y5:Int) =>
 X2 (IntKind.i64.wrap (s3.1+y5),IntKind.i64.wrap (s3.2.1+1),()))
 (R (T.v (.int .i64 s3.1))))
 (0,0,()))
theorem WA ( a0 R):bD aX Tryz.prog IL XD 8 63 [aB true b6 a0] R=JQ a0 R:=by kernel_rfl
abbrev BQ:Sh:=[(true,b6)]
def E9 (s:dP):Option T:=some (T.v (Value.int .i64 (nY s)))
noncomputable def nL:List T→Option (T):=gS BQ E9
theorem ZZ {a0}:nL [aB true b6 a0]=E9 (a0):=aT (s:=BQ) rfl (a0) rfl
theorem AMM (h:∀ a0 r,E9 (a0)=some r→bU BQ (a0)→JQ a0 (fun y=>y=r)):aJ Tryz.prog 63 nL :=
 aN (E:=IL) (Hs:=XD) ACZ aU aV (aK rfl) 8 ⟨_,_,Tryz.func63,rfl⟩ rfl fun x r h1 h2=>by
  let a0:=x
  rw[show Sh.bI BQ (a0)=[aB true b6 a0] from rfl,WA]
  exact h a0 r h1 h2
theorem AK0:aJ Tryz.prog 63 nL:=AMM fun s r h hb=>by
 cases h
 have is:∀ {n:Int},nY s=n→T.v (.int .i64 n)=T.v (.int .i64 (nY s)):=fun h=>by rw[h]
 unfold JQ
 refine aD (s:=[(false,.int .i64)]) (F2 s) ?_
 refine rX (fun h=>is (by unfold nY;rw[if_neg h])) fun h=>?_
 have h8:s.2.length≤8:=by
  refine Classical.byContradiction fun hc=>?_
  unfold fE at h
  rw[if_pos (by omega)] at h;cases h
 refine aD (s:=[(false,.li (.li aA))]) (y:=(s.1::s.2:List (List aI))) ((Z3 ..).trans (by unfold qF;rw[decide_eq_true (by omega)])) ?_
 have w:nY s=ANM (s.1::s.2):=by unfold nY;rw[if_pos h]
 have hlen:(s.1::s.2).length≤9:=by simp;omega
 generalize s.1::s.2=l at w hlen
 refine aR l.length (fun k t=>t=(cE k (fun i=>fC (l.getD i [])),(k:Int),())) rfl ?_
 rintro X k t hk rfl hX
 dsimp only
 refine bT (fun hlt=>?_) fun hge=>is (by rw[List.length_map] at hge;rw[w,show k=l.length by omega];rfl)
 rw[List.length_map] at hlt
 have hlt:k<l.length:=by omega
 rw[a7 (r:=aA.li) hlt]
 have hg:l.getD k []=l[k]:=by rw[List.getD_eq_getElem?_getD,List.getElem?_eq_getElem hlt];rfl
 refine aD (s:=[(false,.int .i64)]) (sQ l[k]) ?_
 refine hX _ hlt ?_
 have b1:=HS l k
 have b2:=KH l[k]
 rw[show IntKind.i64.wrap ((k:Int)+1)=((k+1:Nat):Int) from aO _ (by omega) (by omega),aO _ (by omega) (by omega),cE,hg]
theorem Z0 (s:dP):nL [aB true b6 s]=some (Sh.enc [(false,.int .i64)] (nY s)):=ZZ ..
theorem AU4 (s:dP):-618475290624≤nY s∧nY s≤618475290624:=by
 unfold nY
 by_cases h:fE s=0
 ·rw[if_pos h]
  have h8:s.2.length≤8:=by
   refine Classical.byContradiction fun hc=>?_
   unfold fE at h
   rw[if_pos (by omega)] at h;cases h
  have:=HS (s.1::s.2) (s.1::s.2).length
  unfold ANM
  simp only[List.length_cons] at this ⊢
  omega
 ·rw[if_neg h];omega
end Go.Pv
namespace Go.Pv
open Go Go.Proofs
noncomputable def CS:Env:=Env.of []
def OK:FuncId→Hint:=fun f=>match f == 150 with|true=>⟨fun r=>match r == 2 with|true=>.AG8 4|false=>.none,fun _ _=>none,fun _=>none⟩|false=>aS
theorem VK:aF Tryz.prog CS:=aF.nil _
def DB (a0:XR) (a1:Int) (R:T→Prop):Prop :=
 aC (decide (a0.1<IntKind.i64.wrap (0-a1))) (R (T.v (.bool false)))
 (aC (decide (a1<a0.1)) (R (T.v (.bool false)))
 (aC (decide (a0.2.1<IntKind.i64.wrap (0-a1))) (R (T.v (.bool false)))
 (aC (decide (a1<a0.2.1)) (R (T.v (.bool false)))
 (aC (decide (a0.2.2<IntKind.i64.wrap (0-a1))) (R (T.v (.bool false)))
 (aC (decide (a1<a0.2.2)) (R (T.v (.bool false)))
 (R (T.v (.bool true))))))))
theorem R8 ( a0 a1 R):bD aX Tryz.prog CS OK 8 150 [aB true FM a0,aB false (Sy.int IntKind.i64) a1] R=DB a0 a1 R:=by kernel_rfl
abbrev vF:Sh:=[(true,FM),(false,(Sy.int IntKind.i64))]
def gF (v:XR):Bool:=decide (-524288≤v.1)&&decide (v.1≤524288)&&(decide (-524288≤v.2.1)&&decide (v.2.1≤524288))&&(decide (-524288≤v.2.2)&&decide (v.2.2≤524288))
def rR (x:XR×Int):Option T:=match decide (x.2=524288) with
 | true=>some (T.v (.bool (gF x.1)))
 | false=>none
noncomputable def mQ:List T→Option (T):=gS vF rR
theorem TI {a0 a1}:mQ [aB true FM a0,T.v (.int .i64 a1)]=rR (a0,a1):=aT (s:=vF) rfl (a0,a1) rfl
theorem AGL (h:∀ a0 a1 r,rR (a0,a1)=some r→bU vF (a0,a1)→DB a0 a1 (fun y=>y=r)):aJ Tryz.prog 150 mQ :=
 aN (E:=CS) (Hs:=OK) VK aU aV (aK rfl) 8 ⟨_,_,Tryz.func150,rfl⟩ rfl fun x r h1 h2=>by
  obtain ⟨a0,a1⟩:=x
  rw[show Sh.bI vF (a0,a1)=[aB true FM a0,aB false (Sy.int IntKind.i64) a1] from rfl,R8]
  exact h a0 a1 r h1 h2
theorem AE6:aJ Tryz.prog 150 mQ:=AGL fun v n r h hb=>by
 unfold rR at h
 split at h
 ·rename_i hn
  have hn:n=524288:=of_decide_eq_true hn
  subst hn
  cases h
  unfold DB
  rw[show IntKind.i64.wrap (0-524288) = -524288 from rfl]
  have no:∀ {P:Prop},(¬ (-524288≤v.1∧v.1≤524288∧-524288≤v.2.1∧v.2.1≤524288∧-524288≤v.2.2∧v.2.2≤524288))→T.v (.bool false)=T.v (.bool (gF v)):=fun h=>cM (Eq.symm (by
   rw[Bool.eq_false_iff];intro h2;simp only[gF,Bool.and_eq_true,decide_eq_true_eq] at h2;omega))
  refine bT (fun h=>no (P:=True) (by omega)) fun h1=>bT (fun h=>no (P:=True) (by omega)) fun h2=>bT (fun h=>no (P:=True) (by omega)) fun h3=>bT (fun h=>no (P:=True) (by omega)) fun h4=>bT (fun h=>no (P:=True) (by omega)) fun h5=>bT (fun h=>no (P:=True) (by omega)) fun h6=>cM ?_
  simp only[gF]
  rw[decide_eq_true (by omega),decide_eq_true (by omega),decide_eq_true (by omega),decide_eq_true (by omega),decide_eq_true (by omega),decide_eq_true (by omega)];rfl
 ·cases h
def AAW (t:Int):Int:=if t<0∨24≤t then 0 else t
noncomputable def CR:Env:=Env.of []
def OJ:FuncId→Hint:=fun _=>aS
theorem VJ:aF Tryz.prog CR:=aF.nil _
def DA (a0:Int) (R:T→Prop):Prop :=
 aC (decide (a0<0)) (R (T.v (.int .i64 0)))
 (aC (decide (24≤a0)) (R (T.v (.int .i64 0)))
 (R (T.v (.int .i64 a0))))
theorem R7 ( a0 R):bD aX Tryz.prog CR OJ 8 151 [aB false (Sy.int IntKind.i64) a0] R=DA a0 R:=by kernel_rfl
abbrev vE:Sh:=[(false,(Sy.int IntKind.i64))]
def yS (t:Int):Option T:=some (T.v (Value.int .i64 (AAW t)))
noncomputable def mP:List T→Option (T):=gS vE yS
theorem TH {a0}:mP [T.v (.int .i64 a0)]=yS (a0):=aT (s:=vE) rfl (a0) rfl
theorem AGK (h:∀ a0 r,yS (a0)=some r→bU vE (a0)→DA a0 (fun y=>y=r)):aJ Tryz.prog 151 mP :=
 aN (E:=CR) (Hs:=OJ) VJ aU aV (aK rfl) 8 ⟨_,_,Tryz.func151,rfl⟩ rfl fun x r h1 h2=>by
  let a0:=x
  rw[show Sh.bI vE (a0)=[aB false (Sy.int IntKind.i64) a0] from rfl,R7]
  exact h a0 r h1 h2
theorem AE5:aJ Tryz.prog 151 mP:=AGK fun t r h hb=>by
 cases h
 unfold DA
 exact bT (fun h=>o8 (by unfold AAW;rw[if_pos (.inl h)])) fun h1=>bT (fun h=>o8 (by unfold AAW;rw[if_pos (.inr h)])) fun h2=>o8 (by unfold AAW;rw[if_neg (by omega)])
def gK (p:qN):Bool:=gF p.1&&decide (p.2=AAW p.2)
noncomputable def I0:Env:=Env.of [(150,.pure mQ),(151,.pure mP)]
def XP:FuncId→Hint:=fun _=>aS
theorem ADB:aF Tryz.prog I0:=aF.cons (x:=.pure mQ) AE6 (aF.cons (x:=.pure mP) AE5 (aF.nil _))
def J2 (a0:qN) (R:T→Prop):Prop :=
 aH [(false,Sy.bool)]
 (mQ [aB true FM a0.1,T.v (.int .i64 524288)])
 fun (y0:Bool) =>
 aC y0
 (aH [(false,Sy.int IntKind.i64)]
 (mP [T.v (.int .i64 a0.2)]) fun (y1:Int) =>
 R (T.v (.bool (decide (a0.2=y1)))))
 (R (T.v (.bool false)))
theorem WN ( a0 R):bD aX Tryz.prog I0 XP 8 111 [aB true cI a0] R=J2 a0 R:=by kernel_rfl
abbrev B1:Sh:=[(true,cI)]
def FJ (p:qN):Option T:=some (T.v (.bool (gK p)))
noncomputable def bV:List T→Option (T):=gS B1 FJ
theorem F5 {a0}:bV [aB true cI a0]=FJ (a0):=aT (s:=B1) rfl (a0) rfl
theorem AMY (h:∀ a0 r,FJ (a0)=some r→bU B1 (a0)→J2 a0 (fun y=>y=r)):aJ Tryz.prog 111 bV :=
 aN (E:=I0) (Hs:=XP) ADB aU aV (aK rfl) 8 ⟨_,_,Tryz.func111,rfl⟩ rfl fun x r h1 h2=>by
  let a0:=x
  rw[show Sh.bI B1 (a0)=[aB true cI a0] from rfl,WN]
  exact h a0 r h1 h2
theorem AK8:aJ Tryz.prog 111 bV:=AMY fun p r h hb=>by
 cases h
 unfold J2
 refine aD (s:=[(false,.bool)]) (y:=gF p.1) (TI ..) ?_
 refine vR (fun h=>?_) fun h=>cM (by unfold gK;rw[h];rfl)
 refine aD (s:=[(false,.int .i64)]) (y:=AAW p.2) (TH ..) ?_
 exact cM (by unfold gK;rw[h];rfl)
theorem TK {α:Type} {l:List α} {i:Nat} {d:α} (h:i<l.length):l.getD i d=l[i]:=by rw[List.getD_eq_getElem?_getD,List.getElem?_eq_getElem h];rfl
theorem TS {k:Nat} (h:k<1000000):IntKind.i64.wrap ((k:Int)+1)=((k+1:Nat):Int):=aO _ (by omega) (by omega)
def fG:dO:=(⟨#[]⟩,0,0,[])
def cA (m:aM) (n:ByteArray):Option dO:=m.1.find? fun g=>decide (g.1=n)
def CA (m:aM):Bool:=decide (m.1.length≤1000)&&decide (m.2.length≤1000)&&m.1.all fun g=>decide (g.2.2.2.length≤1000)
def tH {α:Type} (m:aM) (r:α):Option α:=match CA m with
 | true=>some r
 | false=>none
theorem nT {α:Type} {m:aM} {t r:α} (h:tH m t=some r):CA m=true∧r=t:=by
 unfold tH at h;split at h
 ·rename_i hc;cases h;exact ⟨hc,rfl⟩
 ·cases h
theorem nU {α:Type} {m:aM} (t:α) (h:CA m=true):tH m t=some t:=by unfold tH;rw[h]
theorem AJ6:ABY Tryz.prog 79 1 8:=⟨fun R=>by kernel_rfl,fun fl R=>by kernel_rfl,fun fl a rows R=>by kernel_rfl⟩
noncomputable def sN:List T→Option T:=gS [(false,.li (.int .i64))] (j7 (.int .i64) 8)
theorem Y8 {u0}:sN [T.sl false (List.map (Sy.enc (.int .i64)) u0)]=j7 (.int .i64) 8 u0:=aT (s:=[(false,.li (.int .i64))]) rfl u0 rfl
theorem AKK:aJ Tryz.prog 79 sN:=OS aU aV ⟨_,_,Tryz.func79,rfl⟩ AJ6
noncomputable def H4:Env:=Env.of [(79,.pure sN)]
def WW:FuncId→Hint:=fun f=>match f == 112 with|true=>⟨fun r=>match r == 2 with|true=>.inv [.val 8 false (.int .i64)]|false=>.none,fun _ _=>none,fun _=>none⟩|false=>aS
theorem ACH:aF Tryz.prog H4:=aF.cons (x:=.pure sN) AKK (aF.nil _)
def I8 (a0:aM) (a1:ByteArray) (R:T→Prop):Prop :=
 bE (Int×PUnit)
 (fun (X0:Int×PUnit→Prop) (s1:Int×PUnit) =>
 aC (decide (s1.1<(↑(List.map bK.enc a0.1).length:Int)))
 (aZ bK (List.map bK.enc a0.1) s1.1 fun (y2:dO) =>
 aC (decide (y2.1=a1))
 (aC (decide (s1.1<0))
 (R
 (T.bX
 [T.agg
 [T.v (.string { data:=#[] }),T.v (.int .i64 0),
 T.v (.int .i64 0),T.sl false []],
 T.v (.bool false)]))
 (aZ bK (List.map bK.enc a0.1) s1.1 fun (y3:dO) =>
 aH [(false,(Sy.int IntKind.i64).li)]
 (sN [T.sl false (List.map (Sy.int IntKind.i64).enc y3.2.2.2)])
 fun (y4:List Int) =>
 R
 (T.bX
 [T.agg
 [T.v (.string y3.1),T.v (.int .i64 y3.2.1),
 T.v (.int .i64 y3.2.2.1),
 T.sl false (List.map (Sy.int IntKind.i64).enc y4)],
 T.v (.bool true)])))
 (X0 (IntKind.i64.wrap (s1.1+1),())))
 (R
 (T.bX
 [T.agg
 [T.v (.string { data:=#[] }),T.v (.int .i64 0),
 T.v (.int .i64 0),T.sl false []],
 T.v (.bool false)])))
 (0,())
theorem VT ( a0 a1 R):bD aX Tryz.prog H4 WW 8 60 [aB true aG a0,aB false Sy.str a1] R=I8 a0 a1 R:=by kernel_rfl
abbrev A9:Sh:=[(true,aG),(false,Sy.str)]
def EV (x:aM×ByteArray):Option T:=tH x.1 (Sh.enc [(true,bK),(false,.bool)] (found fG (cA x.1 x.2)))
noncomputable def dD:List T→Option (T):=gS A9 EV
theorem ZE {a0 a1}:dD [aB true aG a0,T.v (.string a1)]=EV (a0,a1):=aT (s:=A9) rfl (a0,a1) rfl
theorem AL5 (h:∀ a0 a1 r,EV (a0,a1)=some r→bU A9 (a0,a1)→I8 a0 a1 (fun y=>y=r)):aJ Tryz.prog 60 dD :=
 aN (E:=H4) (Hs:=WW) ACH aU aV (aK rfl) 8 ⟨_,_,Tryz.func60,rfl⟩ rfl fun x r h1 h2=>by
  obtain ⟨a0,a1⟩:=x
  rw[show Sh.bI A9 (a0,a1)=[aB true aG a0,aB false Sy.str a1] from rfl,VT]
  exact h a0 a1 r h1 h2
theorem DU:aJ Tryz.prog 60 dD:=AL5 fun m n r h hb=>by
 obtain ⟨hok,rfl⟩:=nT h
 clear h
 simp only[CA,Bool.and_eq_true,decide_eq_true_eq] at hok
 unfold I8
 refine aR m.1.length (fun k s=>s=((k:Int),())∧(m.1.drop k).find? (fun s=>decide (s.1=n))=cA m n) ⟨rfl,rfl⟩ ?_
 rintro X k s hk ⟨rfl,hf⟩ hX
 dsimp only
 refine bT (fun hlt=>?_) fun hge=>?_
 ·rw[List.length_map] at hlt
  have hlt:k<m.1.length:=by omega
  rw[gG hlt] at hf
  rw[a7 (r:=bK) hlt]
  refine bT (fun hc=>?_) fun hc=>?_
  ·rw[if_pos (decide_eq_true hc)] at hf
   refine bT (fun h=>by omega) fun _=>?_
   rw[a7 (r:=bK) hlt]
   have hg:m.1[k].2.2.2.length≤1000:=by
    have:=List.all_eq_true.1 hok.2 _ (List.getElem_mem hlt)
    exact of_decide_eq_true this
   refine aD (s:=[(false,.li (.int .i64))]) (y:=m.1[k].2.2.2) ?_ ?_
   ·rw[Y8]
    unfold j7 iD
    rw[show (decide (m.1[k].2.2.2.length*8≤140737488355328)&&decide (m.1[k].2.2.2.length≤140737488355328))=true by simp only[Bool.and_eq_true,decide_eq_true_eq];omega]
    rfl
   ·show _=Sh.enc [(true,bK),(false,.bool)] (found fG (cA m n))
    rw[←hf];rfl
  ·rw[if_neg (by simpa using hc)] at hf
   exact hX _ hlt ⟨by rw[TS (by omega)],hf⟩
 ·rw[List.length_map] at hge
  have:k=m.1.length:=by omega
  subst this
  rw[List.drop_length] at hf
  show _=Sh.enc [(true,bK),(false,.bool)] (found fG (cA m n))
  rw[←hf];rfl
def fS (m:aM) (n:ByteArray) (t:Int):Bool:=match cA m n with
 | some g=>g.2.2.2.any fun x=>decide (t=x)
 | none=>false
noncomputable def CE:Env:=Env.of [(60,.pure dD)]
def N6:FuncId→Hint:=fun f=>match f == 135 with|true=>⟨fun r=>match r == 2 with|true=>.inv [.val 8 false (.int .i64)]|false=>.none,fun _ _=>none,fun _=>none⟩|false=>aS
theorem U6:aF Tryz.prog CE:=aF.cons (x:=.pure dD) DU (aF.nil _)
def CX (a0:aM) (a1:ByteArray) (a2:Int) (R:T→Prop):Prop :=
 aH [(true,bK),(false,Sy.bool)]
 (dD [aB true aG a0,T.v (.string a1)])
 fun (y0:dO×Bool) =>
 aC y0.2
 (bE (Int×PUnit)
 (fun (X1:Int×PUnit→Prop) (s2:Int×PUnit) =>
 aC (decide (s2.1<(↑(List.map (Sy.int IntKind.i64).enc y0.1.2.2.2).length:Int)))
 (aZ (Sy.int IntKind.i64) (List.map (Sy.int IntKind.i64).enc y0.1.2.2.2)
 s2.1 fun (y3:Int) =>
 aC (decide (a2=y3)) (R (T.v (.bool (decide (0≤s2.1)))))
 (X1 (IntKind.i64.wrap (s2.1+1),())))
 (R (T.v (.bool false))))
 (0,()))
 (R (T.v (.bool false)))
theorem RH ( a0 a1 a2 R):bD aX Tryz.prog CE N6 8 146 [aB true aG a0,aB false Sy.str a1,
 aB false (Sy.int IntKind.i64) a2] R=CX a0 a1 a2 R:=by kernel_rfl
abbrev uW:Sh:=[(true,aG),(false,Sy.str),(false,(Sy.int IntKind.i64))]
def yH (x:aM×ByteArray×Int):Option T:=tH x.1 (T.v (.bool (fS x.1 x.2.1 x.2.2)))
noncomputable def gH:List T→Option (T):=gS uW yH
theorem S1 {a0 a1 a2}:gH [aB true aG a0,T.v (.string a1),T.v (.int .i64 a2)]=yH (a0,a1,a2):=aT (s:=uW) rfl (a0,a1,a2) rfl
theorem AF7 (h:∀ a0 a1 a2 r,yH (a0,a1,a2)=some r→bU uW (a0,a1,a2)→CX a0 a1 a2 (fun y=>y=r)):aJ Tryz.prog 146 gH :=
 aN (E:=CE) (Hs:=N6) U6 aU aV (aK rfl) 8 ⟨_,_,Tryz.func146,rfl⟩ rfl fun x r h1 h2=>by
  obtain ⟨a0,a1,a2⟩:=x
  rw[show Sh.bI uW (a0,a1,a2)=[aB true aG a0,aB false Sy.str a1,
 aB false (Sy.int IntKind.i64) a2] from rfl,RH]
  exact h a0 a1 a2 r h1 h2
theorem sO {m:aM} (h:CA m=true) (n:ByteArray):dD [aB true aG m,T.v (.string n)]=some (Sh.enc [(true,bK),(false,.bool)] (found fG (cA m n))):=(ZE ..).trans (nU _ h)
theorem AEV:aJ Tryz.prog 146 gH:=AF7 fun m n t r h hb=>by
 obtain ⟨hok,rfl⟩:=nT h
 clear h
 unfold CX
 refine aD (s:=[(true,bK),(false,.bool)]) (sO hok n) ?_
 cases hg:cA m n with
 | none =>
  show aC false _ _
  rw[cO]
  exact cM (by unfold fS;rw[hg])
 | some g =>
  show aC true _ _
  rw[cH]
  dsimp only[found]
  have hlen:g.2.2.2.length≤1000:=by
   simp only[CA,Bool.and_eq_true,decide_eq_true_eq] at hok
   exact of_decide_eq_true (List.all_eq_true.1 hok.2 _ (List.mem_of_find?_eq_some hg))
  have w:fS m n t=g.2.2.2.any fun x=>decide (t=x):=by unfold fS;rw[hg]
  refine aR g.2.2.2.length (fun k s=>s=((k:Int),())∧g.2.2.2.any (fun x=>decide (t=x))=(g.2.2.2.drop k).any fun x=>decide (t=x)) ⟨rfl,by rw[List.drop_zero]⟩ ?_
  rintro X k s hk ⟨rfl,hf⟩ hX
  dsimp only
  refine bT (fun hlt=>?_) fun hge=>cM ?_
  ·rw[List.length_map] at hlt
   have hlt:k<g.2.2.2.length:=by omega
   rw[List.drop_eq_getElem_cons hlt,List.any_cons] at hf
   rw[a7 (r:=.int .i64) hlt]
   refine bT (fun hc=>cM ?_) fun hc=>hX _ hlt ⟨by rw[TS (by omega)],by rw[hf,decide_eq_false hc,Bool.false_or]⟩
   rw[w,hf,decide_eq_true hc,decide_eq_true (show 0≤(k:Int) by omega)];rfl
  ·rw[List.length_map] at hge
   have:k=g.2.2.2.length:=by omega
   subst this
   rw[w,hf,List.drop_length];rfl
end Go.Pv
namespace Go.Pv
open Go Go.Proofs
def B3 (x:List ByteArray×ByteArray):Option T:=some (Sh.enc r_b (r6 x.1 x.2))
noncomputable def QT:Env:=Env.of []
def AHD:FuncId→Hint:=fun f=>match f == 19 with|true=>⟨fun r=>match r == 2 with|true=>.inv [.val 5 false (.int .i64)]|false=>.none,fun _ _=>none,fun _=>none⟩|false=>aS
theorem AI7:aF Tryz.prog QT:=aF.nil _
def RF (a0:List ByteArray) (a1:ByteArray) (R:T→Prop):Prop :=
 bE (Int×PUnit)
 (fun (X0:Int×PUnit→Prop) (s1:Int×PUnit) =>
 aC (decide (s1.1<(↑(List.map Sy.str.enc a0).length:Int)))
 (aZ Sy.str (List.map Sy.str.enc a0) s1.1 fun (y2:ByteArray) =>
 aC (decide (y2=a1)) (R (T.v (.bool true))) (X0 (IntKind.i64.wrap (s1.1+1),())))
 (R (T.v (.bool false))))
 (0,())
theorem ADF ( a0 a1 R):bD aX Tryz.prog QT AHD 8 19 [aB false Sy.str.li a0,aB false Sy.str a1] R=RF a0 a1 R:=by kernel_rfl
abbrev HC:Sh:=[(false,Sy.str.li),(false,Sy.str)]
noncomputable def uI:List T→Option (T):=gS HC B3
theorem AFF {a0 a1}:uI [T.sl false (List.map Sy.str.enc a0),T.v (.string a1)]=B3 (a0,a1):=aT (s:=HC) rfl (a0,a1) rfl
theorem ARC (h:∀ a0 a1 r,B3 (a0,a1)=some r→bU HC (a0,a1)→RF a0 a1 (fun y=>y=r)):aJ Tryz.prog 19 uI :=
 aN (E:=QT) (Hs:=AHD) AI7 aU aV (aK rfl) 8 ⟨_,_,Tryz.func19,rfl⟩ rfl fun x r h1 h2=>by
  obtain ⟨a0,a1⟩:=x
  rw[show Sh.bI HC (a0,a1)=[aB false Sy.str.li a0,aB false Sy.str a1] from rfl,ADF]
  exact h a0 a1 r h1 h2
theorem AD8 {α:Type} {p:α→Bool} {l:List α} {k:Nat} (h:k<l.length):(l.drop k).any p=(p l[k]||(l.drop (k+1)).any p):=by rw[List.drop_eq_getElem_cons h,List.any_cons]
theorem APR:aJ Tryz.prog 19 uI:=ARC fun l x r h hb=>by
 cases h
 have hl:l.length≤2 ^ 47:=hb.1.1
 unfold RF
 refine aR l.length (fun k s=>s=((k:Int),())∧r6 l x=(l.drop k).any fun y=>decide (y=x)) ⟨rfl,rfl⟩ ?_
 rintro X k s hk ⟨rfl,he⟩ hX
 dsimp only
 by_cases hlt:k<l.length
 ·rw[AD8 hlt] at he
  refine bR (by simp[hlt]) ?_
  rw[a7 (r:=.str) hlt]
  by_cases h1:l[k]=x
  ·refine bR h1 ?_
   rw[he,decide_eq_true h1];rfl
  ·refine b7 h1 (hX _ hlt ⟨by rw[show IntKind.i64.wrap ((k:Int)+1)=((k+1:Nat):Int) from aO _ (by omega) (by omega)],?_⟩)
   rw[he,decide_eq_false h1,Bool.false_or]
 ·have:k=l.length:=by omega
  subst this
  refine b7 (by simp) ?_
  rw[he,List.drop_length];rfl
def vZ (g:dO):Bool:=decide ((g.2.2.2.length:Int)≤30)&&decide ((g.1.size:Int)≤40)
def AIR (s:bQ):Bool:=decide ((s.1.size:Int)≤40)
def nA (m:aM):Bool:=(m.1.take 41).all vZ&&((m.2.take 41).all AIR&&(decide ((m.1.length:Int)≤40)&&decide ((m.2.length:Int)≤40)))
def MM (m:aM):Option T:=some (T.v (.bool (nA m)))
noncomputable def QS:Env:=Env.of []
def AHC:FuncId→Hint:=fun f=>match f == 8 with|true=>⟨fun r=>match r == 2 with|true=>.inv [.val 3 false (.int .i64)]|false=>match r == 7 with|true=>.inv [.val 4 false (.int .i64)]|false=>.none,fun _ _=>none,fun _=>none⟩|false=>aS
theorem AI6:aF Tryz.prog QS:=aF.nil _
def RE (a0:aM) (R:T→Prop):Prop :=
 bE (Int×PUnit)
 (fun (X0:Int×PUnit→Prop) (s1:Int×PUnit) =>
 aC (decide (s1.1<(↑(List.map bK.enc a0.1).length:Int)))
 (aC (decide (s1.1<41))
 (aZ bK (List.map bK.enc a0.1) s1.1 fun (y2:dO) =>
 aC (decide (30<(↑(List.map (Sy.int IntKind.i64).enc y2.2.2.2).length:Int)))
 (R (T.v (.bool false)))
 (aZ bK (List.map bK.enc a0.1) s1.1 fun (y3:dO) =>
 aC (decide (40<(↑(ByteArray.size y3.1):Int))) (R (T.v (.bool false)))
 (X0 (IntKind.i64.wrap (s1.1+1),()))))
 (bE (Int×PUnit)
 (fun (X4:Int×PUnit→Prop) (s5:Int×PUnit) =>
 aC (decide (s5.1<(↑(List.map aW.enc a0.2).length:Int)))
 (aC (decide (s5.1<41))
 (aZ aW (List.map aW.enc a0.2) s5.1 fun (y6:bQ) =>
 aC (decide (40<(↑(ByteArray.size y6.1):Int))) (R (T.v (.bool false)))
 (X4 (IntKind.i64.wrap (s5.1+1),())))
 (aC (decide ((↑(List.map bK.enc a0.1).length:Int)≤40))
 (R (T.v (.bool (decide ((↑(List.map aW.enc a0.2).length:Int)≤40)))))
 (R (T.v (.bool false)))))
 (aC (decide ((↑(List.map bK.enc a0.1).length:Int)≤40))
 (R (T.v (.bool (decide ((↑(List.map aW.enc a0.2).length:Int)≤40)))))
 (R (T.v (.bool false)))))
 (0,())))
 (bE (Int×PUnit)
 (fun (X7:Int×PUnit→Prop) (s8:Int×PUnit) =>
 aC (decide (s8.1<(↑(List.map aW.enc a0.2).length:Int)))
 (aC (decide (s8.1<41))
 (aZ aW (List.map aW.enc a0.2) s8.1 fun (y9:bQ) =>
 aC (decide (40<(↑(ByteArray.size y9.1):Int))) (R (T.v (.bool false)))
 (X7 (IntKind.i64.wrap (s8.1+1),())))
 (aC (decide ((↑(List.map bK.enc a0.1).length:Int)≤40))
 (R (T.v (.bool (decide ((↑(List.map aW.enc a0.2).length:Int)≤40)))))
 (R (T.v (.bool false)))))
 (aC (decide ((↑(List.map bK.enc a0.1).length:Int)≤40))
 (R (T.v (.bool (decide ((↑(List.map aW.enc a0.2).length:Int)≤40)))))
 (R (T.v (.bool false)))))
 (0,())))
 (0,())
theorem ADE ( a0 R):bD aX Tryz.prog QS AHC 8 8 [aB true aG a0] R=RE a0 R:=by kernel_rfl
abbrev HB:Sh:=[(true,aG)]
noncomputable def uH:List T→Option (T):=gS HB MM
theorem AFE {a0}:uH [aB true aG a0]=MM (a0):=aT (s:=HB) rfl (a0) rfl
theorem ARB (h:∀ a0 r,MM (a0)=some r→bU HB (a0)→RE a0 (fun y=>y=r)):aJ Tryz.prog 8 uH :=
 aN (E:=QS) (Hs:=AHC) AI6 aU aV (aK rfl) 8 ⟨_,_,Tryz.func8,rfl⟩ rfl fun x r h1 h2=>by
  let a0:=x
  rw[show Sh.bI HB (a0)=[aB true aG a0] from rfl,ADE]
  exact h a0 r h1 h2
theorem M0 {α:Type} {l:List α} {ok:α→Bool} {k:Nat} (h:k<l.length) (h41:k<41) (hb:ok l[k]=false):(l.take 41).all ok=false:=by
 rw[Bool.eq_false_iff]
 intro hc
 have hk:k<(l.take 41).length:=by rw[List.length_take];omega
 have h1:=List.all_eq_true.1 hc (l.take 41)[k] (List.getElem_mem hk)
 rw[List.getElem_take,hb] at h1
 cases h1
theorem YS {r:Sy} {l:List r.den} (ok:r.den→Bool) {Fin:Prop} {Body:(Int×PUnit→Prop)→Int×PUnit→Prop}
  (hbody:∀ X k (h:k<l.length),k<41→(ok l[k]=true→X (IntKind.i64.wrap ((k:Int)+1),()))→Body X ((k:Int),())) (hF:(l.take 41).all ok=true→Fin) :
  bE (Int×PUnit) (fun X s=>aC (decide (s.1<((List.map r.enc l).length:Int))) (aC (decide (s.1<41)) (Body X s) Fin) Fin) (0,()):=by
 refine aR l.length (fun k s=>s=((k:Int),())∧k≤41∧(l.take k).all ok=true) ⟨rfl,by omega,rfl⟩ ?_
 rintro X k s hk ⟨rfl,h41,he⟩ hX
 dsimp only
 refine bT (fun hlt=>?_) fun hge=>?_
 ·rw[List.length_map] at hlt
  have hlt:k<l.length:=by omega
  refine bT (fun h=>hbody X k hlt (by omega) fun hok=>hX _ hlt ⟨?_,by omega,?_⟩) fun h=>hF ?_
  ·rw[show IntKind.i64.wrap ((k:Int)+1)=((k+1:Nat):Int) by rw[aO]<;>omega]
  ·rw[List.take_add_one,List.getElem?_eq_getElem hlt,List.all_append,he]
   simpa using hok
  ·have:k=41:=by omega
   subst this;exact he
 ·rw[List.length_map] at hge
  have:k=l.length:=by omega
  subst this
  exact hF (by rw[List.take_of_length_le h41];rw[List.take_length] at he;exact he)
theorem APQ:aJ Tryz.prog 8 uH:=ARB fun m r h hb=>by
 clear hb
 cases h
 have is:∀ {b:Bool},nA m=b→T.v (.bool b)=T.v (.bool (nA m)):=fun h=>by rw[h]
 unfold RE
 have fin:(m.1.take 41).all vZ=true→(m.2.take 41).all AIR=true→aC (decide ((↑(List.map bK.enc m.1).length:Int)≤40)) (T.v (.bool (decide ((↑(List.map aW.enc m.2).length:Int)≤40)))=T.v (.bool (nA m))) (T.v (.bool false)=T.v (.bool (nA m))):=fun h1 h2=>by
  rw[List.length_map,List.length_map]
  refine bT (fun h=>is ?_) fun h=>is ?_
  ·unfold nA;rw[h1,h2,decide_eq_true h];rfl
  ·unfold nA;rw[h1,h2,decide_eq_false h];rfl
 have sec:(m.1.take 41).all vZ=true→bE (Int×PUnit)
   (fun (X4:Int×PUnit→Prop) (s5:Int×PUnit) =>
   aC (decide (s5.1<(↑(List.map aW.enc m.2).length:Int)))
   (aC (decide (s5.1<41))
    (aZ aW (List.map aW.enc m.2) s5.1 fun (y6:bQ) =>
    aC (decide (40<(↑(ByteArray.size y6.1):Int))) (T.v (.bool false)=T.v (.bool (nA m)))
    (X4 (IntKind.i64.wrap (s5.1+1),())))
    (aC (decide ((↑(List.map bK.enc m.1).length:Int)≤40))
    (T.v (.bool (decide ((↑(List.map aW.enc m.2).length:Int)≤40)))=T.v (.bool (nA m)))
    (T.v (.bool false)=T.v (.bool (nA m)))))
   (aC (decide ((↑(List.map bK.enc m.1).length:Int)≤40))
    (T.v (.bool (decide ((↑(List.map aW.enc m.2).length:Int)≤40)))=T.v (.bool (nA m)))
    (T.v (.bool false)=T.v (.bool (nA m)))))
   (0,()):=fun h1=>by
  refine YS (r:=aW) AIR (fun X k hk h41 hX=>?_) fun h2=>fin h1 h2
  dsimp only
  rw[a7 (r:=aW) hk]
  refine bT (fun hb=>is ?_) fun hb=>hX ?_
  ·unfold nA
   rw[M0 hk h41 (show AIR m.2[k]=false from decide_eq_false (by omega))]
   simp
  ·exact decide_eq_true (by omega)
 refine YS (r:=bK) vZ (fun X k hk h41 hX=>?_) fun h1=>sec h1
 dsimp only
 rw[a7 (r:=bK) hk,List.length_map]
 refine bT (fun hb=>is ?_) fun hb=>?_
 ·unfold nA
  rw[M0 hk h41 (show vZ m.1[k]=false by unfold vZ;rw[decide_eq_false (by omega),Bool.false_and])]
  rfl
 rw[a7 (r:=bK) hk]
 refine bT (fun hb2=>is ?_) fun hb2=>hX ?_
 ·unfold nA
  rw[M0 hk h41 (show vZ m.1[k]=false by unfold vZ;rw[decide_eq_false (p:=((m.1[k].1.size:Nat):Int)≤40) (by omega),Bool.and_false])]
  rfl
 ·unfold vZ;rw[decide_eq_true (by omega),decide_eq_true (by omega)];rfl
end Go.Pv
