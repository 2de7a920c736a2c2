/-
  part: Check, Mass.
  The paths of a seam's two parts, and what they share.
  slices.Sort of a list of integers, by the library's contract.
  How thick a seam is.
  The lists of seams.
  slices.Contains of strings.
  The lists of seams, as the reference makes them.
  Packages; equality of lists, shapes, parts and packages.
  Chapter 17: the tree's seams and requirements.
  dag.Order, walked.
  Chapter 17: the tree's parts and packages, walked; Check, walked.
  Chapter 17: the tree's parts and packages in full.
  Chapter 17: the tree's packages in full.
  The tree of a valid design, in plain words: ways up, paths, what two paths share.
  The parts in a node: structure.Parts.
  num.Sum: the sum, or ErrOverflow.
  What lies below a node lies in it: its parts, its seams. In plain words.
  panel.Of, walked.
  Chapter 17: Check where the parts and packages are empty ones; StructureLong, walked.
  Chapter 17: structure.Check in full.
  What a valid design is known by; the laws of chapter 18 about valid designs: their functions, walked.
  StructureFinds: Part, Node, Seam and Package answer as the reference does.
-/
import Derived.Test.YtpkaicahnkpkhaaGreatDoorPuz1
import Derived.Test.YtpkaicahnkpkhaaGreatDoorPukl
import Derived.Test.YtpkaicahnkpkhaaGreatDoorPult
import Derived.Shelf.Sort.Plain
import Derived.Shelf.Slices.In.SortNone
import Derived.Test.YtpkaicahnkpkhaaGreatDoorPukm
import Derived.Sort.Walk0
import Derived.Test.YtpkaicahnkpkhaaGreatDoorPuge
import Derived.Test.YtpkaicahnkpkhaaGreatDoorPukp
import Derived.Test.YtpkaicahnkpkhaaGreatDoorPukj
import Derived.KernelRfl
set_option linter.unusedSimpArgs false
set_option linter.unusedVariables false
set_option maxRecDepth 100000
namespace Go.Pv
open Go Go.Proofs
abbrev bS (p:bE):Int:=p.2.2.1
abbrev jI (p:bE):ByteArray:=p.2.2.2.1
abbrev dX (p:bE):ByteArray:=p.2.2.2.2.1
abbrev gF (p:bE):Int:=p.2.2.2.2.2.1
abbrev eW (p:bE):fW:=p.2.2.2.2.2.2.1
abbrev KA (p:bE):ByteArray:=p.2.2.2.2.2.2.2.1
abbrev uJ (p:bE):Int:=p.2.2.2.2.2.2.2.2.1
abbrev q9 (p:bE):Int:=p.2.2.2.2.2.2.2.2.2.1
abbrev w7 (p:bE):AEL:=p.2.2.2.2.2.2.2.2.2.2.1
abbrev aAt (p:bE):vK:=p.2.2.2.2.2.2.2.2.2.2.2
def P7 (p:bE):Bool:=!decide (gF p=0)||decide (0<(eW p).1.length+(eW p).2.length)
def APZ (p:bE):Bool:=!decide (KA p = { data:=#[] }) || !decide (uJ p=0)
def ARS (p:bE):Bool:=!decide (q9 p=0) || !(decide ((w7 p).1=0)&&(decide ((w7 p).2.1=0)&&decide ((w7 p).2.2=0)))
def j8 (p:bE):Bool:=if bS p=1 then APZ p||ARS p else if bS p=2∨bS p=3 then P7 p||ARS p else !decide (dX p = { data:=#[] })||(P7 p||APZ p)
noncomputable def FM:Env:=Env.of []
def R4:FuncId→Hint:=fun f=>match f == 107 with|true=>⟨fun _=>.none,fun i j=>match i == 1&&j == 1 with|true=>some [.val 3 false .bool]|false=>match i == 2&&j == 2 with|true=>some [.val 4 false .bool]|false=>match i == 3&&j == 3 with|true=>some [.val 5 false .bool]|false=>none,fun _=>none⟩|false=>aU
theorem XF:aF Tryz.prog FM:=aF.nil _
def GC (a0:bE) (R:T→Prop):Prop :=
 kB (Bool×PUnit)
 (fun (X0:Bool×PUnit→Prop) =>
 aB (!decide (a0.2.2.2.2.2.1=0)) (X0 (true,()))
 (X0
 (decide
 (0 <
 IntKind.i64.wrap
 ((↑(List.map aA.enc a0.2.2.2.2.2.2.1.1).length:Int) +
 (↑(List.map aA.li.enc a0.2.2.2.2.2.2.1.2).length:Int))),
 ())))
 fun (s1:Bool×PUnit) =>
 kB (Bool×PUnit)
 (fun (X2:Bool×PUnit→Prop) =>
 aB (!decide (a0.2.2.2.2.2.2.2.1 = { data:=#[] })) (X2 (true,()))
 (X2 (!decide (a0.2.2.2.2.2.2.2.2.1=0),())))
 fun (s3:Bool×PUnit) =>
 kB (Bool×PUnit)
 (fun (X4:Bool×PUnit→Prop) =>
 aB (!decide (a0.2.2.2.2.2.2.2.2.2.1=0)) (X4 (true,()))
 (X4
 (!(decide (a0.2.2.2.2.2.2.2.2.2.2.1.1=0) &&
 (decide (a0.2.2.2.2.2.2.2.2.2.2.1.2.1=0) &&
 (decide (a0.2.2.2.2.2.2.2.2.2.2.1.2.2=0)&&true))),
 ())))
 fun (s5:Bool×PUnit) =>
 aB (decide (a0.2.2.1=1))
 (aB s3.1 (R (T.v (.bool true))) (R (T.v (.bool s5.1))))
 (aB (decide (a0.2.2.1=2))
 (aB s1.1 (R (T.v (.bool true))) (R (T.v (.bool s5.1))))
 (aB (decide (a0.2.2.1=3))
 (aB s1.1 (R (T.v (.bool true))) (R (T.v (.bool s5.1))))
 (aB (decide (a0.2.2.1=4))
 (aB (!decide (a0.2.2.2.2.1 = { data:=#[] })) (R (T.v (.bool true)))
 (aB s1.1 (R (T.v (.bool true))) (R (T.v (.bool s3.1)))))
 (aB (!decide (a0.2.2.2.2.1 = { data:=#[] })) (R (T.v (.bool true)))
 (aB s1.1 (R (T.v (.bool true))) (R (T.v (.bool s3.1))))))))
theorem RC ( a0 R):bJ aV Tryz.prog FM R4 8 107 [aD true aQ a0] R=GC a0 R:=by kernel_rfl
abbrev yP:Sh:=[(true,aQ)]
def CN (p:bE):Option T:=some (T.v (.bool (j8 p)))
noncomputable def iO:List T→Option (T):=gS yP CN
theorem T7 {a0}:iO [aD true aQ a0]=CN (a0):=bH (s:=yP) rfl (a0) rfl
theorem AG3 (h:∀ a0 r,CN (a0)=some r→cR yP (a0)→GC a0 (fun y=>y=r)):aJ Tryz.prog 107 iO :=
 aX (E:=FM) (Hs:=R4) XF a6 a7 (aM rfl) 8 ⟨_,_,Tryz.func107,rfl⟩ rfl fun x r h1 h2=>by
  let a0:=x
  rw[show Sh.cA yP (a0)=[aD true aQ a0] from rfl,RC]
  exact h a0 r h1 h2
theorem O7 {a b:Bool} {n:Bool} (h:n=(a||b)):aB a (T.v (.bool true)=T.v (.bool n)) (T.v (.bool b)=T.v (.bool n)):=by
 subst h;cases a<;>rfl
theorem AFO:aJ Tryz.prog 107 iO:=AG3 fun p r h hb=>by
 have b1:(eW p).1.length≤2 ^ 47:=hb.2.2.2.2.2.2.1.1.1
 have b2:(eW p).2.length≤2 ^ 47:=hb.2.2.2.2.2.2.1.2.1
 cases h
 unfold GC
 have j:∀ {a b:Bool} {K:Bool×PUnit→Prop},K (a||b,())→kB (Bool×PUnit) (fun (X:Bool×PUnit→Prop)=>aB a (X (true,())) (X (b,()))) K:=fun {a b K} hK=>by
  rw[mH];cases a<;>exact hK
 have e1:decide (0<IntKind.i64.wrap (((List.map aA.enc (eW p).1).length:Int)+((List.map aA.li.enc (eW p).2).length:Int)))=decide (0<(eW p).1.length+(eW p).2.length):=by
  rw[List.length_map,List.length_map,aO _ (by omega) (by omega)]
  exact decide_eq_decide.2 (by omega)
 refine j ?_
 refine j ?_
 refine j ?_
 dsimp only
 rw[e1,Bool.and_true]
 refine bZ (fun h=>O7 (by unfold j8;rw[if_pos h];rfl)) fun k1=>?_
 refine bZ (fun h=>O7 (by unfold j8;rw[if_neg k1,if_pos (.inl h)];rfl)) fun k2=>?_
 refine bZ (fun h=>O7 (by unfold j8;rw[if_neg k1,if_pos (.inr h)];rfl)) fun k3=>?_
 have w:j8 p=(!decide (dX p = { data:=#[] })||(P7 p||APZ p)):=by
  unfold j8;rw[if_neg k1,if_neg];rintro (h|h)
  ·exact k2 h
  ·exact k3 h
 have fin:aB (!decide (dX p = { data:=#[] })) (T.v (.bool true)=T.v (.bool (j8 p))) (aB (P7 p) (T.v (.bool true)=T.v (.bool (j8 p))) (T.v (.bool (APZ p))=T.v (.bool (j8 p)))):=by
  rw[w]
  cases (!decide (dX p = { data:=#[] })) with
  | true=>rfl
  | false=>exact O7 rfl
 exact bZ (fun _=>fin) fun _=>fin
def V1 (m:aL) (n:ByteArray):Bool:=match yZ m n with
 | some s=>decide (1≤s.2.1)&&decide (s.2.1≤1000000)&&(decide (1≤s.2.2.1)&&decide (s.2.2.1≤2000))
 | none=>false
def dO (p:bE) (m:aL):Bool:=if bS p=4 then true else match dS m (dX p) with
 | none=>false
 | some g=>decide (1000≤g.2.1)&&decide (g.2.1≤20000)&&(if bS p=1 then decide (1≤gF p)&&decide (gF p≤120)&&qR m (dX p) (gF p) else V1 m (KA p))
noncomputable def NB:Env:=Env.of [(60,.pure dA),(61,.pure bV),(146,.pure fU)]
def ABX:FuncId→Hint:=fun _=>aU
theorem AD4:aF Tryz.prog NB:=aF.cons (x:=.pure dA) AO (aF.cons (x:=.pure bV) HR (aF.cons (x:=.pure fU) ZK (aF.nil _)))
def NT (a0:bE) (a1:aL) (R:T→Prop):Prop :=
 aB (decide (a0.2.2.1=1))
 (aH [(true,bR),(false,Sy.bool)]
 (dA [aD true aI a1,T.v (.string a0.2.2.2.2.1)])
 fun (y0:dI×Bool) =>
 aB (!y0.2) (R (T.v (.bool false)))
 (aB (decide (1000≤y0.1.2.1))
 (aB (!decide (y0.1.2.1≤20000)) (R (T.v (.bool false)))
 (aB (decide (a0.2.2.1=1))
 (aB (decide (1≤a0.2.2.2.2.2.1))
 (aB (decide (a0.2.2.2.2.2.1≤120))
 (aH [(false,Sy.bool)]
 (fU
 [aD true aI a1,T.v (.string a0.2.2.2.2.1),
 T.v (.int .i64 a0.2.2.2.2.2.1)])
 fun (y1:Bool)=>R (T.v (.bool y1)))
 (R (T.v (.bool false))))
 (R (T.v (.bool false))))
 (aB (decide (a0.2.2.1=2))
 (aH [(true,aR),(false,Sy.bool)]
 (bV
 [aD true aI a1,T.v (.string a0.2.2.2.2.2.2.2.1)])
 fun (y2:bQ×Bool) =>
 aB y2.2
 (aB (decide (1≤y2.1.2.1))
 (aB (decide (y2.1.2.1≤1000000))
 (aB (decide (1≤y2.1.2.2.1))
 (R (T.v (.bool (decide (y2.1.2.2.1≤2000)))))
 (R (T.v (.bool false))))
 (R (T.v (.bool false))))
 (R (T.v (.bool false))))
 (R (T.v (.bool false))))
 (aB (decide (a0.2.2.1=3))
 (aH [(true,aR),(false,Sy.bool)]
 (bV
 [aD true aI a1,
 T.v (.string a0.2.2.2.2.2.2.2.1)])
 fun (y3:bQ×Bool) =>
 aB y3.2
 (aB (decide (1≤y3.1.2.1))
 (aB (decide (y3.1.2.1≤1000000))
 (aB (decide (1≤y3.1.2.2.1))
 (R (T.v (.bool (decide (y3.1.2.2.1≤2000)))))
 (R (T.v (.bool false))))
 (R (T.v (.bool false))))
 (R (T.v (.bool false))))
 (R (T.v (.bool false))))
 (aB (decide (a0.2.2.1=4))
 (aH [(true,aR),(false,Sy.bool)]
 (bV
 [aD true aI a1,
 T.v (.string a0.2.2.2.2.2.2.2.1)])
 fun (y4:bQ×Bool) =>
 aB y4.2
 (aB (decide (1≤y4.1.2.1))
 (aB (decide (y4.1.2.1≤1000000))
 (aB (decide (1≤y4.1.2.2.1))
 (R (T.v (.bool (decide (y4.1.2.2.1≤2000)))))
 (R (T.v (.bool false))))
 (R (T.v (.bool false))))
 (R (T.v (.bool false))))
 (R (T.v (.bool false))))
 (aH [(true,aR),(false,Sy.bool)]
 (bV
 [aD true aI a1,
 T.v (.string a0.2.2.2.2.2.2.2.1)])
 fun (y5:bQ×Bool) =>
 aB y5.2
 (aB (decide (1≤y5.1.2.1))
 (aB (decide (y5.1.2.1≤1000000))
 (aB (decide (1≤y5.1.2.2.1))
 (R (T.v (.bool (decide (y5.1.2.2.1≤2000)))))
 (R (T.v (.bool false))))
 (R (T.v (.bool false))))
 (R (T.v (.bool false))))
 (R (T.v (.bool false)))))))))
 (R (T.v (.bool false)))))
 (aB (decide (a0.2.2.1=2))
 (aH [(true,bR),(false,Sy.bool)]
 (dA [aD true aI a1,T.v (.string a0.2.2.2.2.1)])
 fun (y6:dI×Bool) =>
 aB (!y6.2) (R (T.v (.bool false)))
 (aB (decide (1000≤y6.1.2.1))
 (aB (!decide (y6.1.2.1≤20000)) (R (T.v (.bool false)))
 (aB (decide (a0.2.2.1=1))
 (aB (decide (1≤a0.2.2.2.2.2.1))
 (aB (decide (a0.2.2.2.2.2.1≤120))
 (aH [(false,Sy.bool)]
 (fU
 [aD true aI a1,T.v (.string a0.2.2.2.2.1),
 T.v (.int .i64 a0.2.2.2.2.2.1)])
 fun (y7:Bool)=>R (T.v (.bool y7)))
 (R (T.v (.bool false))))
 (R (T.v (.bool false))))
 (aB (decide (a0.2.2.1=2))
 (aH [(true,aR),(false,Sy.bool)]
 (bV
 [aD true aI a1,
 T.v (.string a0.2.2.2.2.2.2.2.1)])
 fun (y8:bQ×Bool) =>
 aB y8.2
 (aB (decide (1≤y8.1.2.1))
 (aB (decide (y8.1.2.1≤1000000))
 (aB (decide (1≤y8.1.2.2.1))
 (R (T.v (.bool (decide (y8.1.2.2.1≤2000)))))
 (R (T.v (.bool false))))
 (R (T.v (.bool false))))
 (R (T.v (.bool false))))
 (R (T.v (.bool false))))
 (aB (decide (a0.2.2.1=3))
 (aH [(true,aR),(false,Sy.bool)]
 (bV
 [aD true aI a1,
 T.v (.string a0.2.2.2.2.2.2.2.1)])
 fun (y9:bQ×Bool) =>
 aB y9.2
 (aB (decide (1≤y9.1.2.1))
 (aB (decide (y9.1.2.1≤1000000))
 (aB (decide (1≤y9.1.2.2.1))
 (R (T.v (.bool (decide (y9.1.2.2.1≤2000)))))
 (R (T.v (.bool false))))
 (R (T.v (.bool false))))
 (R (T.v (.bool false))))
 (R (T.v (.bool false))))
 (aB (decide (a0.2.2.1=4))
 (aH [(true,aR),(false,Sy.bool)]
 (bV
 [aD true aI a1,
 T.v (.string a0.2.2.2.2.2.2.2.1)])
 fun (y10:bQ×Bool) =>
 aB y10.2
 (aB (decide (1≤y10.1.2.1))
 (aB (decide (y10.1.2.1≤1000000))
 (aB (decide (1≤y10.1.2.2.1))
 (R (T.v (.bool (decide (y10.1.2.2.1≤2000)))))
 (R (T.v (.bool false))))
 (R (T.v (.bool false))))
 (R (T.v (.bool false))))
 (R (T.v (.bool false))))
 (aH [(true,aR),(false,Sy.bool)]
 (bV
 [aD true aI a1,
 T.v (.string a0.2.2.2.2.2.2.2.1)])
 fun (y11:bQ×Bool) =>
 aB y11.2
 (aB (decide (1≤y11.1.2.1))
 (aB (decide (y11.1.2.1≤1000000))
 (aB (decide (1≤y11.1.2.2.1))
 (R (T.v (.bool (decide (y11.1.2.2.1≤2000)))))
 (R (T.v (.bool false))))
 (R (T.v (.bool false))))
 (R (T.v (.bool false))))
 (R (T.v (.bool false)))))))))
 (R (T.v (.bool false)))))
 (aB (decide (a0.2.2.1=3))
 (aH [(true,bR),(false,Sy.bool)]
 (dA [aD true aI a1,T.v (.string a0.2.2.2.2.1)])
 fun (y12:dI×Bool) =>
 aB (!y12.2) (R (T.v (.bool false)))
 (aB (decide (1000≤y12.1.2.1))
 (aB (!decide (y12.1.2.1≤20000)) (R (T.v (.bool false)))
 (aB (decide (a0.2.2.1=1))
 (aB (decide (1≤a0.2.2.2.2.2.1))
 (aB (decide (a0.2.2.2.2.2.1≤120))
 (aH [(false,Sy.bool)]
 (fU
 [aD true aI a1,T.v (.string a0.2.2.2.2.1),
 T.v (.int .i64 a0.2.2.2.2.2.1)])
 fun (y13:Bool)=>R (T.v (.bool y13)))
 (R (T.v (.bool false))))
 (R (T.v (.bool false))))
 (aB (decide (a0.2.2.1=2))
 (aH [(true,aR),(false,Sy.bool)]
 (bV
 [aD true aI a1,
 T.v (.string a0.2.2.2.2.2.2.2.1)])
 fun (y14:bQ×Bool) =>
 aB y14.2
 (aB (decide (1≤y14.1.2.1))
 (aB (decide (y14.1.2.1≤1000000))
 (aB (decide (1≤y14.1.2.2.1))
 (R (T.v (.bool (decide (y14.1.2.2.1≤2000)))))
 (R (T.v (.bool false))))
 (R (T.v (.bool false))))
 (R (T.v (.bool false))))
 (R (T.v (.bool false))))
 (aB (decide (a0.2.2.1=3))
 (aH [(true,aR),(false,Sy.bool)]
 (bV
 [aD true aI a1,
 T.v (.string a0.2.2.2.2.2.2.2.1)])
 fun (y15:bQ×Bool) =>
 aB y15.2
 (aB (decide (1≤y15.1.2.1))
 (aB (decide (y15.1.2.1≤1000000))
 (aB (decide (1≤y15.1.2.2.1))
 (R (T.v (.bool (decide (y15.1.2.2.1≤2000)))))
 (R (T.v (.bool false))))
 (R (T.v (.bool false))))
 (R (T.v (.bool false))))
 (R (T.v (.bool false))))
 (aB (decide (a0.2.2.1=4))
 (aH [(true,aR),(false,Sy.bool)]
 (bV
 [aD true aI a1,
 T.v (.string a0.2.2.2.2.2.2.2.1)])
 fun (y16:bQ×Bool) =>
 aB y16.2
 (aB (decide (1≤y16.1.2.1))
 (aB (decide (y16.1.2.1≤1000000))
 (aB (decide (1≤y16.1.2.2.1))
 (R (T.v (.bool (decide (y16.1.2.2.1≤2000)))))
 (R (T.v (.bool false))))
 (R (T.v (.bool false))))
 (R (T.v (.bool false))))
 (R (T.v (.bool false))))
 (aH [(true,aR),(false,Sy.bool)]
 (bV
 [aD true aI a1,
 T.v (.string a0.2.2.2.2.2.2.2.1)])
 fun (y17:bQ×Bool) =>
 aB y17.2
 (aB (decide (1≤y17.1.2.1))
 (aB (decide (y17.1.2.1≤1000000))
 (aB (decide (1≤y17.1.2.2.1))
 (R (T.v (.bool (decide (y17.1.2.2.1≤2000)))))
 (R (T.v (.bool false))))
 (R (T.v (.bool false))))
 (R (T.v (.bool false))))
 (R (T.v (.bool false)))))))))
 (R (T.v (.bool false)))))
 (aB (decide (a0.2.2.1=4)) (R (T.v (.bool true)))
 (aH [(true,bR),(false,Sy.bool)]
 (dA [aD true aI a1,T.v (.string a0.2.2.2.2.1)])
 fun (y18:dI×Bool) =>
 aB (!y18.2) (R (T.v (.bool false)))
 (aB (decide (1000≤y18.1.2.1))
 (aB (!decide (y18.1.2.1≤20000)) (R (T.v (.bool false)))
 (aB (decide (a0.2.2.1=1))
 (aB (decide (1≤a0.2.2.2.2.2.1))
 (aB (decide (a0.2.2.2.2.2.1≤120))
 (aH [(false,Sy.bool)]
 (fU
 [aD true aI a1,T.v (.string a0.2.2.2.2.1),
 T.v (.int .i64 a0.2.2.2.2.2.1)])
 fun (y19:Bool)=>R (T.v (.bool y19)))
 (R (T.v (.bool false))))
 (R (T.v (.bool false))))
 (aB (decide (a0.2.2.1=2))
 (aH [(true,aR),(false,Sy.bool)]
 (bV
 [aD true aI a1,
 T.v (.string a0.2.2.2.2.2.2.2.1)])
 fun (y20:bQ×Bool) =>
 aB y20.2
 (aB (decide (1≤y20.1.2.1))
 (aB (decide (y20.1.2.1≤1000000))
 (aB (decide (1≤y20.1.2.2.1))
 (R (T.v (.bool (decide (y20.1.2.2.1≤2000)))))
 (R (T.v (.bool false))))
 (R (T.v (.bool false))))
 (R (T.v (.bool false))))
 (R (T.v (.bool false))))
 (aB (decide (a0.2.2.1=3))
 (aH [(true,aR),(false,Sy.bool)]
 (bV
 [aD true aI a1,
 T.v (.string a0.2.2.2.2.2.2.2.1)])
 fun (y21:bQ×Bool) =>
 aB y21.2
 (aB (decide (1≤y21.1.2.1))
 (aB (decide (y21.1.2.1≤1000000))
 (aB (decide (1≤y21.1.2.2.1))
 (R (T.v (.bool (decide (y21.1.2.2.1≤2000)))))
 (R (T.v (.bool false))))
 (R (T.v (.bool false))))
 (R (T.v (.bool false))))
 (R (T.v (.bool false))))
 (aB (decide (a0.2.2.1=4))
 (aH [(true,aR),(false,Sy.bool)]
 (bV
 [aD true aI a1,
 T.v (.string a0.2.2.2.2.2.2.2.1)])
 fun (y22:bQ×Bool) =>
 aB y22.2
 (aB (decide (1≤y22.1.2.1))
 (aB (decide (y22.1.2.1≤1000000))
 (aB (decide (1≤y22.1.2.2.1))
 (R (T.v (.bool (decide (y22.1.2.2.1≤2000)))))
 (R (T.v (.bool false))))
 (R (T.v (.bool false))))
 (R (T.v (.bool false))))
 (R (T.v (.bool false))))
 (aH [(true,aR),(false,Sy.bool)]
 (bV
 [aD true aI a1,
 T.v (.string a0.2.2.2.2.2.2.2.1)])
 fun (y23:bQ×Bool) =>
 aB y23.2
 (aB (decide (1≤y23.1.2.1))
 (aB (decide (y23.1.2.1≤1000000))
 (aB (decide (1≤y23.1.2.2.1))
 (R (T.v (.bool (decide (y23.1.2.2.1≤2000)))))
 (R (T.v (.bool false))))
 (R (T.v (.bool false))))
 (R (T.v (.bool false))))
 (R (T.v (.bool false)))))))))
 (R (T.v (.bool false))))))))
theorem YG ( a0 a1 R):bJ aV Tryz.prog NB ABX 8 108 [aD true aQ a0,aD true aI a1] R=NT a0 a1 R:=by kernel_rfl
abbrev EY:Sh:=[(true,aQ),(true,aI)]
def JL (x:bE×aL):Option T:=x8 x.2 (T.v (.bool (dO x.1 x.2)))
noncomputable def kS:List T→Option (T):=gS EY JL
theorem Z0 {a0 a1}:kS [aD true aQ a0,aD true aI a1]=JL (a0,a1):=bH (s:=EY) rfl (a0,a1) rfl
theorem AMS (h:∀ a0 a1 r,JL (a0,a1)=some r→cR EY (a0,a1)→NT a0 a1 (fun y=>y=r)):aJ Tryz.prog 108 kS :=
 aX (E:=NB) (Hs:=ABX) AD4 a6 a7 (aM rfl) 8 ⟨_,_,Tryz.func108,rfl⟩ rfl fun x r h1 h2=>by
  obtain ⟨a0,a1⟩:=x
  rw[show Sh.cA EY (a0,a1)=[aD true aQ a0,aD true aI a1] from rfl,YG]
  exact h a0 a1 r h1 h2
theorem xP (m:aL) (n:ByteArray):bV [aD true aI m,T.v (.string n)]=some (Sh.enc [(true,aR),(false,.bool)] (found u6 (yZ m n))):=OZ ..
theorem AK0:aJ Tryz.prog 108 kS:=AMS fun p m r h hb=>by
 obtain ⟨hok,rfl⟩:=sL h
 replace hok:L6 m=true:=hok
 clear h
 have is:∀ {n:Bool},dO p m=n→T.v (.bool n)=T.v (.bool (dO p m)):=fun h=>by rw[h]
 unfold NT
 have sec:∀ {g:dI},dS m (dX p)=some g→¬ bS p=4→¬ bS p=1→1000≤g.2.1→g.2.1≤20000 →
   aH [(true,aR),(false,Sy.bool)] (bV [aD true aI m,T.v (.string (KA p))])
    fun (y2:bQ×Bool) =>
    aB y2.2
     (aB (decide (1≤y2.1.2.1))
      (aB (decide (y2.1.2.1≤1000000))
       (aB (decide (1≤y2.1.2.2.1))
        (T.v (.bool (decide (y2.1.2.2.1≤2000)))=T.v (.bool (dO p m)))
        (T.v (.bool false)=T.v (.bool (dO p m))))
       (T.v (.bool false)=T.v (.bool (dO p m))))
      (T.v (.bool false)=T.v (.bool (dO p m))))
     (T.v (.bool false)=T.v (.bool (dO p m))):=by
  intro g hg k4 k1 d1 d2
  have w:dO p m=V1 m (KA p):=by
   unfold dO;rw[if_neg k4,hg];dsimp only;rw[decide_eq_true d1,decide_eq_true d2,if_neg k1];rfl
  refine aG (s:=[(true,aR),(false,.bool)]) (xP m _) ?_
  cases hs:yZ m (KA p) with
  | none =>
   show aB false _ _
   rw[eA];exact is (by rw[w];unfold V1;rw[hs])
  | some s =>
   show aB true _ _
   rw[dE]
   dsimp only[found]
   have w2:dO p m=(decide (1≤s.2.1)&&decide (s.2.1≤1000000)&&(decide (1≤s.2.2.1)&&decide (s.2.2.1≤2000))):=by rw[w];unfold V1;rw[hs]
   refine bZ (fun h1=>bZ (fun h2=>bZ (fun h3=>is ?_) fun h3=>is ?_) fun h2=>is ?_) fun h1=>is ?_
   ·rw[w2,decide_eq_true h1,decide_eq_true h2,decide_eq_true h3];rfl
   ·rw[w2,decide_eq_true h1,decide_eq_true h2,decide_eq_false h3];rfl
   ·rw[w2,decide_eq_true h1,decide_eq_false h2];rfl
   ·rw[w2,decide_eq_false h1];rfl
 have plate:∀ {g:dI},dS m (dX p)=some g→bS p=1→1000≤g.2.1→g.2.1≤20000 →
   aB (decide (1≤gF p)) (aB (decide (gF p≤120)) (aH [(false,Sy.bool)] (fU [aD true aI m,T.v (.string (dX p)),T.v (.int .i64 (gF p))]) fun (y1:Bool)=>T.v (.bool y1)=T.v (.bool (dO p m))) (T.v (.bool false)=T.v (.bool (dO p m)))) (T.v (.bool false)=T.v (.bool (dO p m))):=by
  intro g hg k1 d1 d2
  have w:dO p m=(decide (1≤gF p)&&decide (gF p≤120)&&qR m (dX p) (gF p)):=by
   unfold dO;rw[if_neg (by omega),hg];dsimp only;rw[decide_eq_true d1,decide_eq_true d2,if_pos k1];rfl
  refine bZ (fun h1=>bZ (fun h2=>?_) fun h2=>is ?_) fun h1=>is ?_
  ·refine aG (s:=[(false,.bool)]) (y:=qR m (dX p) (gF p)) ((OR ..).trans (sM _ hok)) (is ?_)
   rw[w,decide_eq_true h1,decide_eq_true h2];rfl
  ·rw[w,decide_eq_true h1,decide_eq_false h2];rfl
  ·rw[w,decide_eq_false h1];rfl
 by_cases k4:p.2.2.1=4
 ·have w:dO p m=true:=by unfold dO;rw[if_pos k4]
  repeat' first
   | (exfalso;omega)
   | exact is w
   | refine bZ (fun h=>?_) (fun h=>?_)
 ·have hnone:dS m (dX p)=none→dO p m=false:=fun h=>by unfold dO;rw[if_neg k4,h]
  have dens:∀ {g:dI},dS m (dX p)=some g→¬ (1000≤g.2.1∧g.2.1≤20000)→dO p m=false:=fun {g} hg h=>by
   unfold dO;rw[if_neg k4,hg];dsimp only
   by_cases h1:1000≤g.2.1
   ·rw[decide_eq_false (show ¬ g.2.1≤20000 by omega),Bool.and_false,Bool.false_and]
   ·rw[decide_eq_false h1,Bool.false_and,Bool.false_and]
  have call:∀ {K:dI×Bool→Prop},(dS m (dX p)=none→K (gX,false))→(∀ g,dS m (dX p)=some g→K (g,true))→aH [(true,bR),(false,Sy.bool)] (dA [aD true aI m,T.v (.string p.2.2.2.2.1)]) K:=fun {K} h1 h2=>by
   refine aG (s:=[(true,bR),(false,.bool)]) (rZ hok _) ?_
   cases hg:dS m (dX p) with
   | none=>exact h1 hg
   | some g=>exact h2 g hg
  have body:∀ {K:dI×Bool→Prop},(∀ g,dS m (dX p)=some g→1000≤g.2.1→g.2.1≤20000→K (g,true))→aH [(true,bR),(false,Sy.bool)] (dA [aD true aI m,T.v (.string p.2.2.2.2.1)]) fun (y0:dI×Bool)=>aB (!y0.2) (T.v (.bool false)=T.v (.bool (dO p m))) (aB (decide (1000≤y0.1.2.1)) (aB (!decide (y0.1.2.1≤20000)) (T.v (.bool false)=T.v (.bool (dO p m))) (K y0)) (T.v (.bool false)=T.v (.bool (dO p m)))):=fun {K} hK=>by
   refine call (fun hn=>?_) fun g hg=>?_
   ·show aB true _ _
    rw[dE];exact is (hnone hn)
   ·show aB false _ _
    rw[eA]
    exact bZ (fun d1=>mG (fun d2=>is (dens hg (fun h=>d2 h.2))) fun d2=>hK g hg d1 d2) fun d1=>is (dens hg (fun h=>d1 h.1))
  refine bZ (fun h=>body fun g hg d1 d2=>?_) fun h1=>bZ (fun h=>body fun g hg d1 d2=>?_) fun h2=>bZ (fun h=>body fun g hg d1 d2=>?_) fun h3=>bZ (fun h=>absurd h k4) fun _=>body fun g hg d1 d2=>?_
  all_goals
   repeat' first
    | (exfalso;omega)
    | exact plate hg (by assumption) d1 d2
    | exact sec hg k4 (by assumption) d1 d2
    | exact sec hg k4 (by intro h';have h'':p.2.2.1=1:=h';omega) d1 d2
    | refine bZ (fun h=>?_) (fun h=>?_)
def iE (p:bE) (m:aL):Int:=if oJ p.1=false∨oJ (jI p)=false then 6 else if ¬ (1≤p.2.1∧p.2.1≤1000) then 9 else if ¬ (bS p=1∨bS p=2∨bS p=3∨bS p=4) then 10 else if j8 p=true then 2 else if dO p m=false then 23 else
 if bS p=1∧¬ nA (eW p)=0 then nA (eW p) else if (bS p=2∨bS p=3)∧¬ (1≤uJ p∧uJ p≤32768) then 9 else if bS p=4∧¬ (1≤q9 p∧q9 p≤1099511627776∧rJ (w7 p)=true) then 9 else if oN (aAt p)=false then 9 else 0
noncomputable def zM:Env:=Env.of [(99,.pure cQ),(107,.pure iO),(108,.pure kS),(109,.pure eR),(111,.pure bU)]
def KW:FuncId→Hint:=fun _=>aU
theorem QT:aF Tryz.prog zM:=aF.cons (x:=.pure cQ) ED (aF.cons (x:=.pure iO) AFO (aF.cons (x:=.pure kS) AK0 (aF.cons (x:=.pure eR) LL (aF.cons (x:=.pure bU) AFV (aF.nil _)))))
def zV (a0:bE) (a1:aL) (R:T→Prop):Prop :=
 aH [(false,Sy.bool)] (cQ [T.v (.string a0.1)]) fun (y0:Bool) =>
 aB (!y0) (R (T.v (.int .i64 6)))
 (aH [(false,Sy.bool)] (cQ [T.v (.string a0.2.2.2.1)])
 fun (y1:Bool) =>
 aB (!y1) (R (T.v (.int .i64 6)))
 (aB (decide (1≤a0.2.1))
 (aB (!decide (a0.2.1≤1000)) (R (T.v (.int .i64 9)))
 (aB (decide (a0.2.2.1=1))
 (aH [(false,Sy.bool)] (iO [aD true aQ a0]) fun (y2:Bool) =>
 aB y2 (R (T.v (.int .i64 2)))
 (aH [(false,Sy.bool)]
 (kS [aD true aQ a0,aD true aI a1])
 fun (y3:Bool) =>
 aB (!y3) (R (T.v (.int .i64 23)))
 (aB (decide (a0.2.2.1=1))
 (aH [(false,Sy.int IntKind.i64)]
 (eR [aD true eE a0.2.2.2.2.2.2.1])
 fun (y4:Int) =>
 aB (!decide (y4=0)) (R (T.v (.int .i64 y4)))
 (aH [(false,Sy.bool)]
 (bU
 [aD true dF a0.2.2.2.2.2.2.2.2.2.2.2])
 fun (y5:Bool) =>
 aB (!y5) (R (T.v (.int .i64 9)))
 (R (T.v (.int .i64 0)))))
 (aB (decide (a0.2.2.1=2))
 (aB (decide (1≤a0.2.2.2.2.2.2.2.2.1))
 (aB (!decide (a0.2.2.2.2.2.2.2.2.1≤32768))
 (R (T.v (.int .i64 9)))
 (aH [(false,Sy.bool)]
 (bU
 [aD true dF a0.2.2.2.2.2.2.2.2.2.2.2])
 fun (y6:Bool) =>
 aB (!y6) (R (T.v (.int .i64 9)))
 (R (T.v (.int .i64 0)))))
 (R (T.v (.int .i64 9))))
 (aB (decide (a0.2.2.1=3))
 (aB (decide (1≤a0.2.2.2.2.2.2.2.2.1))
 (aB (!decide (a0.2.2.2.2.2.2.2.2.1≤32768))
 (R (T.v (.int .i64 9)))
 (aH [(false,Sy.bool)]
 (bU
 [aD true dF a0.2.2.2.2.2.2.2.2.2.2.2])
 fun (y7:Bool) =>
 aB (!y7) (R (T.v (.int .i64 9)))
 (R (T.v (.int .i64 0)))))
 (R (T.v (.int .i64 9))))
 (aB (decide (a0.2.2.1=4))
 (aB (decide (1≤a0.2.2.2.2.2.2.2.2.2.1))
 (aB (!decide (a0.2.2.2.2.2.2.2.2.2.1≤1099511627776))
 (R (T.v (.int .i64 9)))
 (aH [(false,Sy.bool)]
 (bU
 [T.agg
 [T.v
 (Value.int IntKind.i64
 a0.2.2.2.2.2.2.2.2.2.2.1.1),
 T.v
 (Value.int IntKind.i64
 a0.2.2.2.2.2.2.2.2.2.2.1.2.1),
 T.v
 (Value.int IntKind.i64
 a0.2.2.2.2.2.2.2.2.2.2.1.2.2),
 T.v (.int .i64 0)]])
 fun (y8:Bool) =>
 aB (!y8) (R (T.v (.int .i64 9)))
 (aH [(false,Sy.bool)]
 (bU
 [aD true dF a0.2.2.2.2.2.2.2.2.2.2.2])
 fun (y9:Bool) =>
 aB (!y9) (R (T.v (.int .i64 9)))
 (R (T.v (.int .i64 0))))))
 (R (T.v (.int .i64 9))))
 (aH [(false,Sy.bool)]
 (bU
 [aD true dF a0.2.2.2.2.2.2.2.2.2.2.2])
 fun (y10:Bool) =>
 aB (!y10) (R (T.v (.int .i64 9)))
 (R (T.v (.int .i64 0))))))))))
 (aB (decide (a0.2.2.1=2))
 (aH [(false,Sy.bool)] (iO [aD true aQ a0])
 fun (y11:Bool) =>
 aB y11 (R (T.v (.int .i64 2)))
 (aH [(false,Sy.bool)]
 (kS [aD true aQ a0,aD true aI a1])
 fun (y12:Bool) =>
 aB (!y12) (R (T.v (.int .i64 23)))
 (aB (decide (a0.2.2.1=1))
 (aH [(false,Sy.int IntKind.i64)]
 (eR [aD true eE a0.2.2.2.2.2.2.1])
 fun (y13:Int) =>
 aB (!decide (y13=0)) (R (T.v (.int .i64 y13)))
 (aH [(false,Sy.bool)]
 (bU
 [aD true dF a0.2.2.2.2.2.2.2.2.2.2.2])
 fun (y14:Bool) =>
 aB (!y14) (R (T.v (.int .i64 9)))
 (R (T.v (.int .i64 0)))))
 (aB (decide (a0.2.2.1=2))
 (aB (decide (1≤a0.2.2.2.2.2.2.2.2.1))
 (aB (!decide (a0.2.2.2.2.2.2.2.2.1≤32768))
 (R (T.v (.int .i64 9)))
 (aH [(false,Sy.bool)]
 (bU
 [aD true dF a0.2.2.2.2.2.2.2.2.2.2.2])
 fun (y15:Bool) =>
 aB (!y15) (R (T.v (.int .i64 9)))
 (R (T.v (.int .i64 0)))))
 (R (T.v (.int .i64 9))))
 (aB (decide (a0.2.2.1=3))
 (aB (decide (1≤a0.2.2.2.2.2.2.2.2.1))
 (aB (!decide (a0.2.2.2.2.2.2.2.2.1≤32768))
 (R (T.v (.int .i64 9)))
 (aH [(false,Sy.bool)]
 (bU
 [aD true dF a0.2.2.2.2.2.2.2.2.2.2.2])
 fun (y16:Bool) =>
 aB (!y16) (R (T.v (.int .i64 9)))
 (R (T.v (.int .i64 0)))))
 (R (T.v (.int .i64 9))))
 (aB (decide (a0.2.2.1=4))
 (aB (decide (1≤a0.2.2.2.2.2.2.2.2.2.1))
 (aB (!decide (a0.2.2.2.2.2.2.2.2.2.1≤1099511627776))
 (R (T.v (.int .i64 9)))
 (aH [(false,Sy.bool)]
 (bU
 [T.agg
 [T.v
 (Value.int IntKind.i64
 a0.2.2.2.2.2.2.2.2.2.2.1.1),
 T.v
 (Value.int IntKind.i64
 a0.2.2.2.2.2.2.2.2.2.2.1.2.1),
 T.v
 (Value.int IntKind.i64
 a0.2.2.2.2.2.2.2.2.2.2.1.2.2),
 T.v (.int .i64 0)]])
 fun (y17:Bool) =>
 aB (!y17) (R (T.v (.int .i64 9)))
 (aH [(false,Sy.bool)]
 (bU
 [aD true dF
 a0.2.2.2.2.2.2.2.2.2.2.2])
 fun (y18:Bool) =>
 aB (!y18) (R (T.v (.int .i64 9)))
 (R (T.v (.int .i64 0))))))
 (R (T.v (.int .i64 9))))
 (aH [(false,Sy.bool)]
 (bU
 [aD true dF a0.2.2.2.2.2.2.2.2.2.2.2])
 fun (y19:Bool) =>
 aB (!y19) (R (T.v (.int .i64 9)))
 (R (T.v (.int .i64 0))))))))))
 (aB (decide (a0.2.2.1=3))
 (aH [(false,Sy.bool)] (iO [aD true aQ a0])
 fun (y20:Bool) =>
 aB y20 (R (T.v (.int .i64 2)))
 (aH [(false,Sy.bool)]
 (kS [aD true aQ a0,aD true aI a1])
 fun (y21:Bool) =>
 aB (!y21) (R (T.v (.int .i64 23)))
 (aB (decide (a0.2.2.1=1))
 (aH [(false,Sy.int IntKind.i64)]
 (eR [aD true eE a0.2.2.2.2.2.2.1])
 fun (y22:Int) =>
 aB (!decide (y22=0)) (R (T.v (.int .i64 y22)))
 (aH [(false,Sy.bool)]
 (bU
 [aD true dF a0.2.2.2.2.2.2.2.2.2.2.2])
 fun (y23:Bool) =>
 aB (!y23) (R (T.v (.int .i64 9)))
 (R (T.v (.int .i64 0)))))
 (aB (decide (a0.2.2.1=2))
 (aB (decide (1≤a0.2.2.2.2.2.2.2.2.1))
 (aB (!decide (a0.2.2.2.2.2.2.2.2.1≤32768))
 (R (T.v (.int .i64 9)))
 (aH [(false,Sy.bool)]
 (bU
 [aD true dF a0.2.2.2.2.2.2.2.2.2.2.2])
 fun (y24:Bool) =>
 aB (!y24) (R (T.v (.int .i64 9)))
 (R (T.v (.int .i64 0)))))
 (R (T.v (.int .i64 9))))
 (aB (decide (a0.2.2.1=3))
 (aB (decide (1≤a0.2.2.2.2.2.2.2.2.1))
 (aB (!decide (a0.2.2.2.2.2.2.2.2.1≤32768))
 (R (T.v (.int .i64 9)))
 (aH [(false,Sy.bool)]
 (bU
 [aD true dF a0.2.2.2.2.2.2.2.2.2.2.2])
 fun (y25:Bool) =>
 aB (!y25) (R (T.v (.int .i64 9)))
 (R (T.v (.int .i64 0)))))
 (R (T.v (.int .i64 9))))
 (aB (decide (a0.2.2.1=4))
 (aB (decide (1≤a0.2.2.2.2.2.2.2.2.2.1))
 (aB (!decide (a0.2.2.2.2.2.2.2.2.2.1≤1099511627776))
 (R (T.v (.int .i64 9)))
 (aH [(false,Sy.bool)]
 (bU
 [T.agg
 [T.v
 (Value.int IntKind.i64
 a0.2.2.2.2.2.2.2.2.2.2.1.1),
 T.v
 (Value.int IntKind.i64
 a0.2.2.2.2.2.2.2.2.2.2.1.2.1),
 T.v
 (Value.int IntKind.i64
 a0.2.2.2.2.2.2.2.2.2.2.1.2.2),
 T.v (.int .i64 0)]])
 fun (y26:Bool) =>
 aB (!y26) (R (T.v (.int .i64 9)))
 (aH [(false,Sy.bool)]
 (bU
 [aD true dF
 a0.2.2.2.2.2.2.2.2.2.2.2])
 fun (y27:Bool) =>
 aB (!y27) (R (T.v (.int .i64 9)))
 (R (T.v (.int .i64 0))))))
 (R (T.v (.int .i64 9))))
 (aH [(false,Sy.bool)]
 (bU
 [aD true dF a0.2.2.2.2.2.2.2.2.2.2.2])
 fun (y28:Bool) =>
 aB (!y28) (R (T.v (.int .i64 9)))
 (R (T.v (.int .i64 0))))))))))
 (aB (decide (a0.2.2.1=4))
 (aH [(false,Sy.bool)] (iO [aD true aQ a0])
 fun (y29:Bool) =>
 aB y29 (R (T.v (.int .i64 2)))
 (aH [(false,Sy.bool)]
 (kS [aD true aQ a0,aD true aI a1])
 fun (y30:Bool) =>
 aB (!y30) (R (T.v (.int .i64 23)))
 (aB (decide (a0.2.2.1=1))
 (aH [(false,Sy.int IntKind.i64)]
 (eR [aD true eE a0.2.2.2.2.2.2.1])
 fun (y31:Int) =>
 aB (!decide (y31=0)) (R (T.v (.int .i64 y31)))
 (aH [(false,Sy.bool)]
 (bU
 [aD true dF a0.2.2.2.2.2.2.2.2.2.2.2])
 fun (y32:Bool) =>
 aB (!y32) (R (T.v (.int .i64 9)))
 (R (T.v (.int .i64 0)))))
 (aB (decide (a0.2.2.1=2))
 (aB (decide (1≤a0.2.2.2.2.2.2.2.2.1))
 (aB (!decide (a0.2.2.2.2.2.2.2.2.1≤32768))
 (R (T.v (.int .i64 9)))
 (aH [(false,Sy.bool)]
 (bU
 [aD true dF a0.2.2.2.2.2.2.2.2.2.2.2])
 fun (y33:Bool) =>
 aB (!y33) (R (T.v (.int .i64 9)))
 (R (T.v (.int .i64 0)))))
 (R (T.v (.int .i64 9))))
 (aB (decide (a0.2.2.1=3))
 (aB (decide (1≤a0.2.2.2.2.2.2.2.2.1))
 (aB (!decide (a0.2.2.2.2.2.2.2.2.1≤32768))
 (R (T.v (.int .i64 9)))
 (aH [(false,Sy.bool)]
 (bU
 [aD true dF a0.2.2.2.2.2.2.2.2.2.2.2])
 fun (y34:Bool) =>
 aB (!y34) (R (T.v (.int .i64 9)))
 (R (T.v (.int .i64 0)))))
 (R (T.v (.int .i64 9))))
 (aB (decide (a0.2.2.1=4))
 (aB (decide (1≤a0.2.2.2.2.2.2.2.2.2.1))
 (aB (!decide (a0.2.2.2.2.2.2.2.2.2.1≤1099511627776))
 (R (T.v (.int .i64 9)))
 (aH [(false,Sy.bool)]
 (bU
 [T.agg
 [T.v
 (Value.int IntKind.i64
 a0.2.2.2.2.2.2.2.2.2.2.1.1),
 T.v
 (Value.int IntKind.i64
 a0.2.2.2.2.2.2.2.2.2.2.1.2.1),
 T.v
 (Value.int IntKind.i64
 a0.2.2.2.2.2.2.2.2.2.2.1.2.2),
 T.v (.int .i64 0)]])
 fun (y35:Bool) =>
 aB (!y35) (R (T.v (.int .i64 9)))
 (aH [(false,Sy.bool)]
 (bU
 [aD true dF
 a0.2.2.2.2.2.2.2.2.2.2.2])
 fun (y36:Bool) =>
 aB (!y36) (R (T.v (.int .i64 9)))
 (R (T.v (.int .i64 0))))))
 (R (T.v (.int .i64 9))))
 (aH [(false,Sy.bool)]
 (bU
 [aD true dF a0.2.2.2.2.2.2.2.2.2.2.2])
 fun (y37:Bool) =>
 aB (!y37) (R (T.v (.int .i64 9)))
 (R (T.v (.int .i64 0))))))))))
 (R (T.v (.int .i64 10))))))))
 (R (T.v (.int .i64 9)))))
theorem NX ( a0 a1 R):bJ aV Tryz.prog zM KW 8 59 [aD true aQ a0,aD true aI a1] R=zV a0 a1 R:=by kernel_rfl
abbrev tX:Sh:=[(true,aQ),(true,aI)]
def wP (x:bE×aL):Option T:=x8 x.2 (T.v (Value.int .i64 (iE x.1 x.2)))
noncomputable def fV:List T→Option (T):=gS tX wP
theorem OV {a0 a1}:fV [aD true aQ a0,aD true aI a1]=wP (a0,a1):=bH (s:=tX) rfl (a0,a1) rfl
theorem AAL (h:∀ a0 a1 r,wP (a0,a1)=some r→cR tX (a0,a1)→zV a0 a1 (fun y=>y=r)):aJ Tryz.prog 59 fV :=
 aX (E:=zM) (Hs:=KW) QT a6 a7 (aM rfl) 8 ⟨_,_,Tryz.func59,rfl⟩ rfl fun x r h1 h2=>by
  obtain ⟨a0,a1⟩:=x
  rw[show Sh.cA tX (a0,a1)=[aD true aQ a0,aD true aI a1] from rfl,NX]
  exact h a0 a1 r h1 h2
theorem HQ:aJ Tryz.prog 59 fV:=AAL fun p m r h hb=>by
 obtain ⟨hok,rfl⟩:=sL h
 replace hok:L6 m=true:=hok
 clear h hb
 have is:∀ {n:Int},iE p m=n→T.v (.int .i64 n)=T.v (.int .i64 (iE p m)):=fun h=>by rw[h]
 unfold zV
 rw[kK]
 refine lC (fun h=>is (by unfold iE;rw[if_pos (.inl h)])) fun i1=>?_
 rw[kK]
 refine lC (fun h=>is (by unfold iE;rw[if_pos (.inr h)])) fun i2=>?_
 have n1:¬ (oJ p.1=false∨oJ (jI p)=false):=by
  rintro (h|h)
  ·rw[i1] at h;cases h
  ·rw[show oJ (jI p)=true from i2] at h;cases h
 have r9:¬ (1≤p.2.1∧p.2.1≤1000)→T.v (.int .i64 9)=T.v (.int .i64 (iE p m)):=fun h=>is (by unfold iE;rw[if_neg n1,if_pos h])
 refine bZ (fun v1=>mG (fun h=>r9 (fun h2=>h h2.2)) fun v2=>?_) fun h=>r9 (fun h2=>h h2.1)
 have n2:¬ ¬ (1≤p.2.1∧p.2.1≤1000):=fun h=>h ⟨v1,v2⟩
 have w1:iE p m=if ¬ (bS p=1∨bS p=2∨bS p=3∨bS p=4) then 10 else if j8 p=true then 2 else if dO p m=false then 23 else if bS p=1∧¬ nA (eW p)=0 then nA (eW p) else if (bS p=2∨bS p=3)∧¬ (1≤uJ p∧uJ p≤32768) then 9 else if bS p=4∧¬ (1≤q9 p∧q9 p≤1099511627776∧rJ (w7 p)=true) then 9 else if oN (aAt p)=false then 9 else 0:=by
  unfold iE;rw[if_neg n1,if_neg n2]
 have spare:∀ {K:Bool→Prop},K (j8 p)→aH [(false,Sy.bool)] (iO [aD true aQ p]) K:=fun h=>aG (s:=[(false,.bool)]) (y:=j8 p) (T7 ..) h
 have made:∀ {K:Bool→Prop},K (dO p m)→aH [(false,Sy.bool)] (kS [aD true aQ p,aD true aI m]) K:=fun h=>aG (s:=[(false,.bool)]) (y:=dO p m) ((Z0 ..).trans (sM _ hok)) h
 have place:∀ {K:Bool→Prop},K (oN (aAt p))→aH [(false,Sy.bool)] (bU [aD true dF (aAt p)]) K:=fun h=>aG (s:=[(false,.bool)]) (y:=oN (aAt p)) (DG ..) h
 have near:∀ {K:Bool→Prop},K (rJ (w7 p))→aH [(false,Sy.bool)] (bU [aD true dF (w7 p,0)]) K:=fun {K} h=>aG (s:=[(false,.bool)]) (y:=oN (w7 p,0)) (DG ..) (by
  rw[show oN (w7 p,0)=rJ (w7 p) by unfold oN;rw[show decide (((w7 p,(0:Int)):vK).2=AAH ((w7 p,(0:Int)):vK).2)=true from rfl,Bool.and_true]];exact h)
 have reg:∀ {K:Int→Prop},K (nA (eW p))→aH [(false,Sy.int IntKind.i64)] (eR [aD true eE (eW p)]) K:=fun h=>aG (s:=[(false,.int .i64)]) (DD _) h
 repeat' first
  | (exfalso;omega)
  | refine spare ?_
  | refine made ?_
  | refine reg ?_
  | refine place ?_
  | refine near ?_
  | refine mG (fun h=>?_) (fun h=>?_)
  | refine bZ (fun h=>?_) (fun h=>?_)
  | refine lC (fun h=>?_) (fun h=>?_)
  | refine J5 (fun h=>?_) (fun h=>?_)
 all_goals (refine is ?_;clear spare made place near reg is r9;rw[w1];clear w1 n1 n2 i1 i2;simp_all;try (intros;exfalso;simp only[uJ,q9] at *;omega))
theorem xO {m:aL} (h:L6 m=true) (p:bE):fV [aD true aQ p,aD true aI m]=some (Sh.enc [(false,.int .i64)] (iE p m)):=(OV ..).trans (sM _ h)
def H7 (m:aL) (n:ByteArray):dI:=(dS m n).getD gX
def AQ3 (m:aL) (n:ByteArray):bQ:=(yZ m n).getD u6
theorem ACH {α:Type} {no:α} {o:Option α}:(found no o).1=o.getD no:=by cases o<;>rfl
def n8 (p:bE) (m:aL):Int:=if bS p=1 then IntKind.i64.wrap ((IntKind.i64.wrap (IntKind.i64.wrap (uP (eW p)*gF p)*(H7 m (dX p)).2.1)).tdiv 2000000) else if bS p=2∨bS p=3 then IntKind.i64.wrap ((IntKind.i64.wrap (IntKind.i64.wrap ((AQ3 m (KA p)).2.1*uJ p)*(H7 m (dX p)).2.1)).tdiv 1000000) else q9 p
def gM (p:bE) (m:aL):Int×Int:=if iE p m=0 then (n8 p m,0) else (0,iE p m)
noncomputable def FN:Env:=Env.of [(59,.pure fV),(60,.pure dA),(61,.pure bV),(63,.pure mW)]
def R5:FuncId→Hint:=fun _=>aU
theorem XG:aF Tryz.prog FN:=aF.cons (x:=.pure fV) HQ (aF.cons (x:=.pure dA) AO (aF.cons (x:=.pure bV) HR (aF.cons (x:=.pure mW) AFQ (aF.nil _))))
def GD (a0:bE) (a1:aL) (R:T→Prop):Prop :=
 aH [(false,Sy.int IntKind.i64)]
 (fV [aD true aQ a0,aD true aI a1]) fun (y0:Int) =>
 aB (!decide (y0=0))
 (R (T.cF [T.v (.int .i64 0),T.v (.int .i64 y0)]))
 (aH [(true,bR),(false,Sy.bool)]
 (dA [aD true aI a1,T.v (.string a0.2.2.2.2.1)])
 fun (y1:dI×Bool) =>
 aH [(true,aR),(false,Sy.bool)]
 (bV
 [aD true aI a1,T.v (.string a0.2.2.2.2.2.2.2.1)])
 fun (y2:bQ×Bool) =>
 aB (decide (a0.2.2.1=1))
 (aH [(false,Sy.int IntKind.i64)]
 (mW [aD true eE a0.2.2.2.2.2.2.1]) fun (y3:Int) =>
 bO true
 (R
 (T.cF
 [T.v
 (Value.int IntKind.i64
 (IntKind.i64.wrap
 ((IntKind.i64.wrap
 (IntKind.i64.wrap (y3*a0.2.2.2.2.2.1)*y1.1.2.1)).tdiv
 2000000))),
 T.v (.int .i64 0)])))
 (aB (decide (a0.2.2.1=2))
 (bO true
 (R
 (T.cF
 [T.v
 (Value.int IntKind.i64
 (IntKind.i64.wrap
 ((IntKind.i64.wrap
 (IntKind.i64.wrap (y2.1.2.1*a0.2.2.2.2.2.2.2.2.1) *
 y1.1.2.1)).tdiv
 1000000))),
 T.v (.int .i64 0)])))
 (aB (decide (a0.2.2.1=3))
 (bO true
 (R
 (T.cF
 [T.v
 (Value.int IntKind.i64
 (IntKind.i64.wrap
 ((IntKind.i64.wrap
 (IntKind.i64.wrap (y2.1.2.1*a0.2.2.2.2.2.2.2.2.1) *
 y1.1.2.1)).tdiv
 1000000))),
 T.v (.int .i64 0)])))
 (aB (decide (a0.2.2.1=4))
 (R
 (T.cF
 [T.v (.int .i64 a0.2.2.2.2.2.2.2.2.2.1),
 T.v (.int .i64 0)]))
 (R
 (T.cF
 [T.v (.int .i64 a0.2.2.2.2.2.2.2.2.2.1),
 T.v (.int .i64 0)]))))))
theorem RD ( a0 a1 R):bJ aV Tryz.prog FN R5 8 28 [aD true aQ a0,aD true aI a1] R=GD a0 a1 R:=by kernel_rfl
abbrev yQ:Sh:=[(true,aQ),(true,aI)]
abbrev VV:Sh:=[(false,Sy.int IntKind.i64),(false,Sy.int IntKind.i64)]
def CO (x:bE×aL):Option T:=x8 x.2 (Sh.enc VV (gM x.1 x.2))
noncomputable def iP:List T→Option (T):=gS yQ CO
theorem T8 {a0 a1}:iP [aD true aQ a0,aD true aI a1]=CO (a0,a1):=bH (s:=yQ) rfl (a0,a1) rfl
theorem AG4 (h:∀ a0 a1 r,CO (a0,a1)=some r→cR yQ (a0,a1)→GD a0 a1 (fun y=>y=r)):aJ Tryz.prog 28 iP :=
 aX (E:=FN) (Hs:=R5) XG a6 a7 (aM rfl) 8 ⟨_,_,Tryz.func28,rfl⟩ rfl fun x r h1 h2=>by
  obtain ⟨a0,a1⟩:=x
  rw[show Sh.cA yQ (a0,a1)=[aD true aQ a0,aD true aI a1] from rfl,RD]
  exact h a0 a1 r h1 h2
theorem LJ:aJ Tryz.prog 28 iP:=AG4 fun p m r h hb=>by
 obtain ⟨hok,rfl⟩:=sL h
 replace hok:L6 m=true:=hok
 clear h hb
 have is:∀ {a b:Int},gM p m=(a,b)→T.cF [T.v (.int .i64 a),T.v (.int .i64 b)]=Sh.enc VV (gM p m):=fun h=>by rw[h];rfl
 unfold GD
 refine aG (s:=[(false,.int .i64)]) (xO hok p) ?_
 refine mG (fun h=>is (by unfold gM;rw[if_neg h])) fun h=>?_
 refine aG (s:=[(true,bR),(false,.bool)]) (rZ hok _) ?_
 refine aG (s:=[(true,aR),(false,.bool)]) (xP m _) ?_
 have w:gM p m=(n8 p m,0):=by unfold gM;rw[if_pos h]
 have eg:(found gX (dS m (dX p))).1=H7 m (dX p):=ACH
 have es:(found u6 (yZ m (KA p))).1=AQ3 m (KA p):=ACH
 refine bZ (fun k1=>?_) fun k1=>?_
 ·refine aG (s:=[(false,.int .i64)]) (UD _) ?_
  refine ⟨rfl,is ?_⟩
  rw[w];unfold n8;rw[if_pos k1,←eg]
 refine bZ (fun k2=>⟨rfl,is ?_⟩) fun k2=>?_
 ·rw[w];unfold n8;rw[if_neg k1,if_pos (.inl k2),←eg,←es]
 refine bZ (fun k3=>⟨rfl,is ?_⟩) fun k3=>?_
 ·rw[w];unfold n8;rw[if_neg k1,if_pos (.inr k3),←eg,←es]
 have fin:gM p m=(q9 p,0):=by
  rw[w];unfold n8;rw[if_neg k1,if_neg];rintro (h|h)
  ·exact k2 h
  ·exact k3 h
 exact bZ (fun _=>is fin) fun _=>is fin
theorem DC {m:aL} (h:L6 m=true) (p:bE):iP [aD true aQ p,aD true aI m]=some (Sh.enc [(false,.int .i64),(false,.int .i64)] (gM p m)):=(T8 ..).trans (sM _ h)
end Go.Pv
namespace Go.Pv
open Go Go.Proofs
def comm:List ByteArray→List ByteArray→List ByteArray
 | x::a,y::b=>if x=y then x::comm a b else []
 | _,_=>[]
def yB (a b:List ByteArray):Bool:=decide (0<a.length)&&decide (0<b.length)
abbrev PM:Sh:=[(false,.li .str),(false,.li .str),(false,.bool)]
def CF (x:List ByteArray×List ByteArray):Option T:=some (Sh.enc rM (comm x.1 x.2))
def way (d:aC) (s:cN):List ByteArray:=comm (pathOf d s.2.1) (pathOf d s.2.2.1)
def wH (d:aC) (s:cN):Bool:=yB (pathOf d s.2.1) (pathOf d s.2.2.1)
def E4 (x:aC×cN):Option T:=sK x.1 (Sh.enc PM (pathOf x.1 x.2.2.1,pathOf x.1 x.2.2.2.1,wH x.1 x.2))
def last (l:List ByteArray):ByteArray:=l.getLastD ⟨#[]⟩
theorem S1 {a b:List ByteArray} (h:yB a b=false):comm a b=[]:=by
 cases a with
 | nil=>simp[comm]
 | cons x a=>cases b with
  | nil=>simp[comm]
  | cons y b=>simp[yB] at h
theorem AE0 {a b:List ByteArray} {k:Nat} (h:comm a b=a.take k++comm (a.drop k) (b.drop k)) :
  (∀ (ha:k<a.length) (hb:k<b.length),a[k]=b[k]→comm a b=a.take (k+1)++comm (a.drop (k+1)) (b.drop (k+1))) ∧
  (∀ (ha:k<a.length) (hb:k<b.length),a[k]≠b[k]→comm a b=a.take k)∧(¬ (k<a.length∧k<b.length)→comm a b=a.take k):=by
 refine ⟨fun ha hb e=>?_,fun ha hb e=>?_,fun hn=>?_⟩
 ·rw[h,List.drop_eq_getElem_cons ha,List.drop_eq_getElem_cons hb,comm,if_pos e,List.take_succ_eq_append_getElem ha,List.append_assoc];rfl
 ·rw[h,List.drop_eq_getElem_cons ha,List.drop_eq_getElem_cons hb,comm,if_neg e,List.append_nil]
 ·rw[h]
  by_cases ha:k<a.length
  ·rw[List.drop_eq_nil_of_le (show b.length≤k by omega)]
   cases a.drop k<;>simp[comm]
  ·rw[List.drop_eq_nil_of_le (show a.length≤k by omega)]
   simp[comm]
theorem AAR (l:List ByteArray):kO 1 (List.map Sy.str.enc l)=true:=by cases l<;>rfl
theorem AHN (y:List ByteArray) (K:List ByteArray→Prop):aH rM (some (Sh.enc rM y)) K=K y:=kF (s:=rM) rfl y K
noncomputable def WV:Env:=Env.of [(27,.pure gW),(20,.pure lZ)]
def AJP:FuncId→Hint:=fun _=>aU
theorem AIM:aF Tryz.prog WV:=aF.cons (x:=.pure gW) HP (aF.cons (x:=.pure lZ) TK (aF.nil _))
def YD (a0:aC) (a1:ByteArray) (R:T→Prop):Prop :=
 aH [(true,aQ),(false,Sy.bool)]
 (gW [aD true aN a0,T.v (.string a1)]) fun (y0:bE×Bool) =>
 aB (!y0.2) (R (T.sl false []))
 (aH [(false,Sy.str.li)]
 (lZ [aD true aN a0,T.v (.string y0.1.2.2.2.1)])
 fun (y1:List ByteArray)=>R (T.sl false (List.map Sy.str.enc y1)))
theorem AED ( a0 a1 R):bJ aV Tryz.prog WV AJP 8 119 [aD true aN a0,aD false Sy.str a1] R=YD a0 a1 R:=by kernel_rfl
abbrev P0:Sh:=[(true,aN),(false,Sy.str)]
noncomputable def vX:List T→Option (T):=gS P0 E3
theorem AF3 {a0 a1}:vX [aD true aN a0,T.v (.string a1)]=E3 (a0,a1):=bH (s:=P0) rfl (a0,a1) rfl
theorem AQJ (h:∀ a0 a1 r,E3 (a0,a1)=some r→cR P0 (a0,a1)→YD a0 a1 (fun y=>y=r)):aJ Tryz.prog 119 vX :=
 aX (E:=WV) (Hs:=AJP) AIM a6 a7 (aM rfl) 8 ⟨_,_,Tryz.func119,rfl⟩ rfl fun x r h1 h2=>by
  obtain ⟨a0,a1⟩:=x
  rw[show Sh.cA P0 (a0,a1)=[aD true aN a0,aD false Sy.str a1] from rfl,AED]
  exact h a0 a1 r h1 h2
theorem APK:aJ Tryz.prog 119 vX:=AQJ fun d id r h hb=>by
 have h':sK d (Sh.enc rM (pathOf d id))=some r:=h
 obtain ⟨hok,rfl⟩:=x7 h'
 unfold YD
 simp only[vW,pQ,zA,hok,yD,H4,zB,pI _ hok,PO]
 cases hp:partOf d id<;>simp[found,pathOf,hp,dE,eA,Sh.enc,aD,Sy.enc,hdT]
noncomputable def FC:Env:=Env.of []
def RT:FuncId→Hint:=fun f=>match f == 68 with|true=>⟨fun r=>match r == 2 with|true=>.inv [.val 5 false (.int .i64)]|false=>.none,fun _ _=>none,fun _=>none⟩|false=>aU
theorem W5:aF Tryz.prog FC:=aF.nil _
def F2 (a0:List ByteArray) (a1:List ByteArray) (R:T→Prop):Prop :=
 bB (Int×PUnit)
 (fun (X0:Int×PUnit→Prop) (s1:Int×PUnit) =>
 aB (decide (s1.1<(↑(List.map Sy.str.enc a0).length:Int)))
 (aB (decide (s1.1<(↑(List.map Sy.str.enc a1).length:Int)))
 (aP Sy.str (List.map Sy.str.enc a0) s1.1 fun (y2:ByteArray) =>
 aP Sy.str (List.map Sy.str.enc a1) s1.1 fun (y3:ByteArray) =>
 aB (decide (y2=y3)) (X0 (IntKind.i64.wrap (s1.1+1),()))
 (bO
 (kO 1 (List.map Sy.str.enc a0) &&
 (decide (0≤s1.1)&&decide (Int.toNat s1.1≤(List.map Sy.str.enc a0).length)) &&
 true)
 (R (T.sl false (List.drop 0 (List.take (Int.toNat s1.1) (List.map Sy.str.enc a0)))))))
 (bO
 (kO 1 (List.map Sy.str.enc a0) &&
 (decide (0≤s1.1)&&decide (Int.toNat s1.1≤(List.map Sy.str.enc a0).length)) &&
 true)
 (R (T.sl false (List.drop 0 (List.take (Int.toNat s1.1) (List.map Sy.str.enc a0)))))))
 (bO
 (kO 1 (List.map Sy.str.enc a0) &&
 (decide (0≤s1.1)&&decide (Int.toNat s1.1≤(List.map Sy.str.enc a0).length)) &&
 true)
 (R (T.sl false (List.drop 0 (List.take (Int.toNat s1.1) (List.map Sy.str.enc a0)))))))
 (0,())
theorem Q2 ( a0 a1 R):bJ aV Tryz.prog FC RT 8 68 [aD false Sy.str.li a0,aD false Sy.str.li a1] R=F2 a0 a1 R:=by kernel_rfl
abbrev yH:Sh:=[(false,Sy.str.li),(false,Sy.str.li)]
noncomputable def o3:List T→Option (T):=gS yH CF
theorem TU {a0 a1}:o3 [T.sl false (List.map Sy.str.enc a0),T.sl false (List.map Sy.str.enc a1)]=CF (a0,a1):=bH (s:=yH) rfl (a0,a1) rfl
theorem AGT (h:∀ a0 a1 r,CF (a0,a1)=some r→cR yH (a0,a1)→F2 a0 a1 (fun y=>y=r)):aJ Tryz.prog 68 o3 :=
 aX (E:=FC) (Hs:=RT) W5 a6 a7 (aM rfl) 8 ⟨_,_,Tryz.func68,rfl⟩ rfl fun x r h1 h2=>by
  obtain ⟨a0,a1⟩:=x
  rw[show Sh.cA yH (a0,a1)=[aD false Sy.str.li a0,aD false Sy.str.li a1] from rfl,Q2]
  exact h a0 a1 r h1 h2
theorem AFH:aJ Tryz.prog 68 o3:=AGT fun a b r h hb=>by
 have h':some (Sh.enc rM (comm a b))=some r:=h
 cases h'
 clear h
 have hla:a.length≤2 ^ 47:=hb.1.1
 unfold F2
 refine aY a.length (fun k s=>s=((k:Int),())∧k≤a.length∧comm a b=a.take k++comm (a.drop k) (b.drop k)) ⟨rfl,by omega,by simp⟩ ?_
 rintro X k s hk ⟨rfl,hka,hc⟩ hX
 have hreq:∀ K:Prop,bO (kO 1 (List.map Sy.str.enc a)&&(decide (0≤(k:Int))&&decide (Int.toNat (k:Int)≤(List.map Sy.str.enc a).length))&&true) K=K:=fun K=>by
  have e:(kO 1 (List.map Sy.str.enc a)&&(decide (0≤(k:Int))&&decide (Int.toNat (k:Int)≤(List.map Sy.str.enc a).length))&&true)=true:=by
   rw[show kO 1 (List.map Sy.str.enc a)=true from AAR a];simp[hka]
  rw[e];simp[bO]
 obtain ⟨c1,c2,c3⟩:=AE0 hc
 have res:comm a b=a.take k→T.sl false (List.drop 0 (List.take (Int.toNat (k:Int)) (List.map Sy.str.enc a)))=Sh.enc rM (comm a b):=fun e=>by
  rw[e];simp[Sh.enc,aD,Sy.enc,hdT,List.map_take]
 dsimp only
 rw[hreq]
 simp only[List.length_map,BT]
 by_cases ha:k<a.length
 ·by_cases hb:k<b.length
  ·simp only[ha,hb,decide_true,dE,aT (r:=.str) ha,aT (r:=.str) hb]
   by_cases e:a[k]=b[k]
   ·simp only[e,decide_true,dE]
    refine hX _ ha ⟨?_,ha,c1 ha hb e⟩
    simp only[Prod.mk.injEq,and_true,true_and]
    exact aO _ (by omega) (by omega)
   ·simp only[e,decide_false,eA]
    exact res (c2 ha hb e)
  ·simp only[ha,hb,decide_true,decide_false,dE,eA]
   exact res (c3 fun h=>hb h.2)
 ·simp only[ha,decide_false,eA]
  exact res (c3 fun h=>ha h.1)
noncomputable def W1:Env:=Env.of [(119,.pure vX)]
def AJV:FuncId→Hint:=fun _=>aU
theorem AIS:aF Tryz.prog W1:=aF.cons (x:=.pure vX) APK (aF.nil _)
def YO (a0:aC) (a1:cN) (R:T→Prop):Prop :=
 aH [(false,Sy.str.li)]
 (vX [aD true aN a0,T.v (.string a1.2.1)]) fun (y0:List ByteArray) =>
 aH [(false,Sy.str.li)]
 (vX [aD true aN a0,T.v (.string a1.2.2.1)])
 fun (y1:List ByteArray) =>
 aB (decide (0<(↑(List.map Sy.str.enc y0).length:Int)))
 (R
 (T.cF
 [T.sl false (List.map Sy.str.enc y0),T.sl false (List.map Sy.str.enc y1),
 T.v (.bool (decide (0<(↑(List.map Sy.str.enc y1).length:Int))))]))
 (R
 (T.cF
 [T.sl false (List.map Sy.str.enc y0),T.sl false (List.map Sy.str.enc y1),
 T.v (.bool false)]))
theorem AEJ ( a0 a1 R):bJ aV Tryz.prog W1 AJV 8 66 [aD true aN a0,aD true bT a1] R=YO a0 a1 R:=by kernel_rfl
abbrev P5:Sh:=[(true,aN),(true,bT)]
noncomputable def AZ:List T→Option (T):=gS P5 E4
theorem AF7 {a0 a1}:AZ [aD true aN a0,aD true bT a1]=E4 (a0,a1):=bH (s:=P5) rfl (a0,a1) rfl
theorem AQP (h:∀ a0 a1 r,E4 (a0,a1)=some r→cR P5 (a0,a1)→YO a0 a1 (fun y=>y=r)):aJ Tryz.prog 66 AZ :=
 aX (E:=W1) (Hs:=AJV) AIS a6 a7 (aM rfl) 8 ⟨_,_,Tryz.func66,rfl⟩ rfl fun x r h1 h2=>by
  obtain ⟨a0,a1⟩:=x
  rw[show Sh.cA P5 (a0,a1)=[aD true aN a0,aD true bT a1] from rfl,AEJ]
  exact h a0 a1 r h1 h2
theorem APP:aJ Tryz.prog 66 AZ:=AQP fun d sm r h hb=>by
 have h':sK d (Sh.enc PM (pathOf d sm.2.1,pathOf d sm.2.2.1,wH d sm))=some r:=h
 obtain ⟨hok,rfl⟩:=x7 h'
 clear h h'
 unfold YO
 simp only[AF3,E3,pI _ hok,AHN]
 unfold wH
 generalize pathOf d sm.2.1=a at *
 generalize pathOf d sm.2.2.1=b at *
 rw[IB]
 by_cases h1:0<a.length<;>simp[h1,yB,Sh.enc,Sh.cA,aD,Sy.enc,hdT]
end Go.Pv
namespace Go.Pv
open Go Go.RowKit Go.Proofs Go.Sort
def OH:List (List T)→Option (List Int)
 | []=>some []
 | [.v (.int .i64 i)]::r=>(OH r).map (i :: ·)
 | _=>none
theorem LB:∀ {rows:List (List T)} {l:List Int},OH rows=some l→rows=l.map fun a=>[.v (.int .i64 a)]
 | [],l,h=>by cases h;rfl
 | [.v (.int .i64 i)]::r,l,h=>by
  simp only[OH,Option.map_eq_some_iff] at h
  obtain ⟨l',h1,rfl⟩:=h
  rw[LB h1];rfl
theorem AKK (l:List Int):OH (List.map (Sy.int .i64).enc l)=some l:=by
 induction l with
 | nil=>rfl
 | cons a l ih=>show (OH (List.map (Sy.int .i64).enc l)).map (a :: ·)=_;rw[ih];rfl
def MK (l:List Int):List Int:=l.mergeSort fun x y=>decide (x≤y)
def O0 (rows:List (List T)):Option (List (List T)):=(OH rows).map fun l=>(MK l).map fun a=>[.v (.int .i64 a)]
theorem AK5:jV Tryz.prog 118 (DA 1 O0) :=
 AHM (fun a=>.int .i64 a) (fun _=>rfl) OH (fun _ _ h=>LB h) MK (fun l=>by simp[MK]) ⟨_,Tryz.func118,by kernel_rfl,by kernel_rfl⟩
  (fun bI cap zs w hH hb hs=>Any.slices_Sort_int Tryz.ACQ bI 0 cap zs w hH hb hs) (fun p cap w=>Any.slices_Sort_int_none Tryz.ACQ p cap w)
end Go.Pv
namespace Go.Pv
open Go Go.Proofs
def ANH (s:bQ):Int:=if 1<IntKind.i64.wrap (s.2.1.tdiv s.2.2.1) then IntKind.i64.wrap (s.2.1.tdiv s.2.2.1) else 1
def s0 (d:aC) (m:aL) (id:ByteArray):Int×Bool :=
 match partOf d id with
 | none=>(0,false)
 | some p =>
  if VQ p=1 then (AUA p,true)
  else if VQ p=2∨VQ p=3 then
   match yZ m (AW0 p) with
   | none=>(0,false)
   | some s=>if s.2.2.1<1 then (0,false) else (ANH s,true)
  else (0,decide (VQ p=4))
def fitting (d:aC) (id:ByteArray):Bool:=match partOf d id with
 | some p=>decide (VQ p=4)
 | none=>false
def AW4 (d:aC) (m:aL) (id:ByteArray):Int×Bool :=
 match qV d id with
 | none=>(0,false)
 | some s =>
  if (s0 d m s.2.1).2=true∧(s0 d m s.2.2.1).2=true then
   if fitting d s.2.1=true then ((s0 d m s.2.2.1).1,true)
   else if fitting d s.2.2.1=true then ((s0 d m s.2.1).1,true)
   else (if (s0 d m s.2.2.1).1<(s0 d m s.2.1).1 then (s0 d m s.2.2.1).1 else (s0 d m s.2.1).1,true)
  else (0,false)
def sE (d:aC) (n:Int):Bool:=decide ((d.2.1.length:Int)≤n)&&decide ((d.2.2.1.length:Int)≤n)&&decide ((d.2.2.2.1.length:Int)≤n)
end Go.Pv
namespace Go.Pv
open Go Go.Proofs
def I2 (d:aC) (t:T):Option T:=match okD d&&sE d 100 with
 | true=>some t
 | false=>none
theorem VM {d:aC} {t r:T} (h:I2 d t=some r):okD d=true∧sE d 100=true∧d.2.2.2.1.length≤100∧r=t:=by
 unfold I2 at h;split at h
 ·rename_i hc
  rw[Bool.and_eq_true] at hc
  cases h
  refine ⟨hc.1,hc.2,?_,rfl⟩
  have:=hc.2
  simp only[sE,Bool.and_eq_true,decide_eq_true_eq] at this
  omega
 ·cases h
theorem VN {d:aC} (t:T) (h:okD d=true) (h2:sE d 100=true):I2 d t=some t:=by unfold I2;rw[h,h2];rfl
def oB (d:aC) (c:cN→Bool):List ByteArray:=(d.2.2.2.1.filter c).map fun s=>s.1
def z8 (l:List cN) (c:cN→Bool) (k:Nat) (es:List (Int×ByteArray)):Prop:=es.map (fun e=>e.2)=((l.take k).filter c).map (fun s=>s.1)∧es.Pairwise (fun a b=>a.1<b.1)∧(∀ e∈es,e.1<(k:Int))∧es.length≤k
theorem z8.zero (l:List cN) (c:cN→Bool):z8 l c 0 []:=⟨by simp,by simp,by simp,by simp⟩
theorem z8.no {l:List cN} {c:cN→Bool} {k:Nat} {es:List (Int×ByteArray)} (h:z8 l c k es) (hk:k<l.length) (hc:c l[k]=false):z8 l c (k+1) es :=
 ⟨by rw[h.1,List.take_succ_eq_append_getElem hk,List.filter_append];simp[hc],h.2.1,fun e he=>by have:=h.2.2.1 e he;omega,by have:=h.2.2.2;omega⟩
theorem z8.yes {l:List cN} {c:cN→Bool} {k:Nat} {es:List (Int×ByteArray)} (h:z8 l c k es) (hk:k<l.length) (hc:c l[k]=true):z8 l c (k+1) (es++[((k:Int),l[k].1)]) :=
 ⟨by rw[List.map_append,h.1,List.take_succ_eq_append_getElem hk,List.filter_append];simp[hc],List.pairwise_append.2 ⟨h.2.1,by simp,fun a ha b hb=>by simp at hb;subst hb;exact h.2.2.1 a ha⟩,fun e he=>by
  rcases List.mem_append.1 he with he|he
  ·have:=h.2.2.1 e he;omega
  ·simp at he;subst he;simp;omega,by have:=h.2.2.2;simp;omega⟩
theorem z8.new {l:List cN} {c:cN→Bool} {k:Nat} {es:List (Int×ByteArray)} (h:z8 l c k es):∀ e∈es,e.1≠(k:Int):=fun e he=>by have:=h.2.2.1 e he;omega
theorem ALM {l:List cN} {c:cN→Bool} {k:Nat} {es:List (Int×ByteArray)} (h:z8 l c k es) (hk:k<l.length) (hc:c l[k]=true) (K:List (Int×ByteArray)→Prop) (hK:K (es++[((k:Int),l[k].1)])) :
  iU (Option (Nat×D)) (findD (TypeDesc.int IntKind.i64) (Value.int IntKind.i64 (k:Int)) (List.map (bG (Sy.int IntKind.i64) false Sy.str) es) 0)
       fun (y4:Option (Nat×D)) =>
       b8 (Sy.int IntKind.i64) false Sy.str
        (cK (List.map (bG (Sy.int IntKind.i64) false Sy.str) es) y4
         (Value.int IntKind.i64 (k:Int)) (D.p (T.v (.string l[k].1)))) K:=by
 rw[show findD (TypeDesc.int IntKind.i64) (Value.int IntKind.i64 (k:Int)) (List.map (bG (Sy.int IntKind.i64) false Sy.str) es) 0=some none from HN (r:=.str) h.new,L9]
 rw[show cK (List.map (bG (Sy.int IntKind.i64) false Sy.str) es) none (Value.int IntKind.i64 (k:Int)) (D.p (T.v (.string l[k].1)))=List.map (eI .str) (es++[((k:Int),l[k].1)]) from V2 (r:=.str) es k l[k].1]
 exact S7 (r:=.str) rfl _ _ hK
theorem SY {es:List (Int×ByteArray)} (hl:es.length≤100) (hp:es.Pairwise (fun a b=>a.1<b.1)) {R:T→Prop} (hR:R (T.sl false (List.map Sy.str.enc (es.map fun e=>e.2)))) :
  bB (List Int×(Nat×List Nat×Nat)×PUnit)
     (fun (X9:List Int×(Nat×List Nat×Nat)×PUnit→Prop)
       (s10:List Int×(Nat×List Nat×Nat)×PUnit) =>
      bO
       (decide
         ((List.map (bG (Sy.int IntKind.i64) false Sy.str) es).length ≤
          s10.2.1.1) &&
        decide (s10.2.1.1≤s10.2.1.2.2))
       (oW (List.map (bG (Sy.int IntKind.i64) false Sy.str) es).length
        s10.2.1.2.1
        (iU (List (List T))
         (match OH (List.map (Sy.int IntKind.i64).enc s10.1) with
         | some x =>
          some (List.map (fun (a:Int)=>[T.v (.int .i64 a)]) (MK x))
         | none=>none)
         fun (y11:List (List T)) =>
         bB (List ByteArray×Int×PUnit)
          (fun (X12:List ByteArray×Int×PUnit→Prop) (s13:List ByteArray×Int×PUnit) =>
           aB (decide (s13.2.1<(↑y11.length:Int)))
            (aP (Sy.int IntKind.i64) y11 s13.2.1 fun (y14:Int) =>
             lG (Sy.int IntKind.i64) y11 (Int.toNat s13.2.1) 0 fun (y15:Int) =>
              dT (TypeDesc.int IntKind.i64) (Value.int IntKind.i64 y15)
               (List.map (bG (Sy.int IntKind.i64) false Sy.str) es) false
               Sy.str
               (bO
                (decide (((List.map Sy.str.enc s13.1).length+1)*16≤140737488355328) &&
                 decide ((List.map Sy.str.enc s13.1).length+1≤140737488355328))
                (bA Sy.str
                 (List.map Sy.str.enc s13.1++[[T.v (.string { data:=#[] })]])
                 fun (y19:List ByteArray)=>X12 (y19,IntKind.i64.wrap (s13.2.1+1),())))
               fun (i16:Nat) (y17:ByteArray) =>
               bO
                (decide (((List.map Sy.str.enc s13.1).length+1)*16≤140737488355328) &&
                 decide ((List.map Sy.str.enc s13.1).length+1≤140737488355328))
                (bA Sy.str
                 (List.map Sy.str.enc s13.1++[[T.v (.string y17)]])
                 fun (y18:List ByteArray)=>X12 (y18,IntKind.i64.wrap (s13.2.1+1),())))
            (R (T.sl false (List.map Sy.str.enc s13.1))))
          ([],0,()))
        fun (i20:Nat) =>
        bO
         (decide
          ((List.map (bG (Sy.int IntKind.i64) false Sy.str) es).length =
           (List.map (bG (Sy.int IntKind.i64) false Sy.str) es).length))
         (vQ (Sy.int IntKind.i64) false Sy.str
          (List.map (bG (Sy.int IntKind.i64) false Sy.str) es)
          (s10.2.1.2.1++[i20]) fun (k21:Int) (y22:ByteArray) =>
          bO
           (decide
             (((List.map (Sy.int IntKind.i64).enc s10.1).length+1)*8≤140737488355328) &&
            decide ((List.map (Sy.int IntKind.i64).enc s10.1).length+1≤140737488355328))
           (bA (Sy.int IntKind.i64)
            (List.map (Sy.int IntKind.i64).enc s10.1 ++
             [[T.v (.int .i64 k21)]])
            fun (y23:List Int) =>
            X9
             (y23,
              (s10.2.1.1,s10.2.1.2.1++[i20],
               (List.map (bG (Sy.int IntKind.i64) false Sy.str)
                 es).length),
              ())))))
     ([],
      ((List.map (bG (Sy.int IntKind.i64) false Sy.str) es).length,[],
       (List.map (bG (Sy.int IntKind.i64) false Sy.str) es).length),
      ()):=by
 generalize hn:(List.map (bG (Sy.int IntKind.i64) false Sy.str) es).length=n
 have hn':es.length=n:=by simpa using hn
 let key:Nat→Int:=fun i=>(es.map fun e=>e.1).getD i 0
 have hkey:∀ i (hi:i<es.length),key i=es[i].1:=fun i hi=>by simp[key,List.getD_eq_getElem?_getD,hi]
 refine AGH (fun s=>∃ seen:List Nat,s=(seen.map key,(n,seen,n),())∧seen.Nodup∧(∀ i∈seen,i<n)∧seen.length+(bW n seen).length≤n) (fun s=>(bW n s.2.1.2.1).length) ⟨[],rfl,by simp,by simp,by rw[sI];simp⟩ ?_
 rintro X s ⟨seen,rfl,hnd,hlt,hln⟩ hX
 dsimp only
 refine ⟨by simp,fun hnil=>?_,fun i hi=>⟨by simp,?_⟩⟩
 ·rw[AKK]
  have hkeys:MK (seen.map key)=es.map fun e=>e.1:=by
   refine AHX (by rw[List.pairwise_map];exact hp) ?_
   have h1:=(AAU hnd hlt hnil).map key
   refine h1.trans (List.Perm.of_eq ?_)
   apply List.ext_getElem
   ·simp[hn']
   ·intro i h1 h2
    simp at h1 h2
    simp[hkey i (by omega)]
  simp only[L9,hkeys]
  rw[show (List.map (fun (a:Int)=>[T.v (.int .i64 a)]) (es.map fun e=>e.1))=List.map (Sy.int .i64).enc (es.map fun e=>e.1) from rfl]
  refine aY es.length (fun k s=>s=((es.map fun e=>e.2).take k,(k:Int),())) (by simp) ?_
  rintro X k s hk rfl hX
  dsimp only
  by_cases hlt:k<es.length
  ·have hkl:k<(es.map fun e=>e.1).length:=by simpa using hlt
   refine cJ (by simp[hlt]) ?_
   rw[aT (r:=.int .i64) hkl,Int.toNat_natCast,j6 (r:=.int .i64) hkl]
   simp only[List.getElem_map]
   refine AKU (r:=.str) hlt hp ?_
   rw[GY (by simp;omega),jZ]
   refine hX _ hlt ?_
   have:(es.map fun e=>e.2).take (k+1)=(es.map fun e=>e.2).take k++[es[k].2]:=by
    rw[List.take_succ_eq_append_getElem (by simpa using hlt)];simp
   rw[this]
   simp only[Prod.mk.injEq,and_true,true_and]
   exact aO _ (by omega) (by omega)
  ·have:k=es.length:=by omega
   subst this
   refine cV (by simp) ?_
   rw[List.take_of_length_le (by simp)]
   exact hR
 ·have hi':=jO.1 hi
  have hie:i<es.length:=by omega
  have hst:=qM hi
  refine AO7 (r:=.str) hie _ ⟨?_,?_⟩
  ·simp;omega
  ·rw[show (List.map (Sy.int IntKind.i64).enc (List.map key seen)++[[T.v (.int .i64 es[i].1)]])=List.map (Sy.int IntKind.i64).enc (List.map key (seen++[i])) by simp[hkey i hie,Sy.enc],c9 (r:=.int .i64) rfl]
   refine hX _ ⟨seen++[i],rfl,?_,?_,?_⟩ hst
   ·rw[List.nodup_append]
    exact ⟨hnd,by simp,fun a ha b hb=>by simp at hb;subst hb;exact fun e=>hi'.2 (e ▸ ha)⟩
   ·intro j hj
    rcases List.mem_append.1 hj with h|h
    ·exact hlt j h
    ·simp at h;omega
   ·simp;omega
end Go.Pv
namespace Go.Pv
open Go Go.Proofs
def H8 (l:List ByteArray) (x:ByteArray):Bool:=l.any fun y=>decide (y=x)
def sS (x:List ByteArray×ByteArray):Option T:=some (Sh.enc r_b (H8 x.1 x.2))
noncomputable def vC:Env:=Env.of []
def GQ:FuncId→Hint:=fun f=>match f == 120 with|true=>⟨fun r=>match r == 2 with|true=>.inv [.val 8 false (.int .i64)]|false=>.none,fun _ _=>none,fun _=>none⟩|false=>aU
theorem NG:aF Tryz.prog vC:=aF.nil _
def vG (a0:List ByteArray) (a1:ByteArray) (R:T→Prop):Prop :=
 bB (Int×PUnit)
 (fun (X0:Int×PUnit→Prop) (s1:Int×PUnit) =>
 aB (decide (s1.1<(↑(List.map Sy.str.enc a0).length:Int)))
 (aP Sy.str (List.map Sy.str.enc a0) s1.1 fun (y2:ByteArray) =>
 aB (decide (a1=y2)) (R (T.v (.bool (decide (0≤s1.1)))))
 (X0 (IntKind.i64.wrap (s1.1+1),())))
 (R (T.v (.bool false))))
 (0,())
theorem J6 ( a0 a1 R):bJ aV Tryz.prog vC GQ 8 67 [aD false Sy.str.li a0,aD false Sy.str a1] R=vG a0 a1 R:=by kernel_rfl
abbrev qS:Sh:=[(false,Sy.str.li),(false,Sy.str)]
noncomputable def kH:List T→Option (T):=gS qS sS
theorem KI {a0 a1}:kH [T.sl false (List.map Sy.str.enc a0),T.v (.string a1)]=sS (a0,a1):=bH (s:=qS) rfl (a0,a1) rfl
theorem VI (h:∀ a0 a1 r,sS (a0,a1)=some r→cR qS (a0,a1)→vG a0 a1 (fun y=>y=r)):aJ Tryz.prog 67 kH :=
 aX (E:=vC) (Hs:=GQ) NG a6 a7 (aM rfl) 8 ⟨_,_,Tryz.func67,rfl⟩ rfl fun x r h1 h2=>by
  obtain ⟨a0,a1⟩:=x
  rw[show Sh.cA qS (a0,a1)=[aD false Sy.str.li a0,aD false Sy.str a1] from rfl,J6]
  exact h a0 a1 r h1 h2
theorem AJ1 {α:Type} {p:α→Bool} {l:List α} {k:Nat} (h:k<l.length):(l.drop k).any p=(p l[k]||(l.drop (k+1)).any p):=by rw[List.drop_eq_getElem_cons h,List.any_cons]
theorem TF:aJ Tryz.prog 67 kH:=VI fun l x r h hb=>by
 have h':some (Sh.enc r_b (H8 l x))=some r:=h
 cases h'
 clear h
 have hl:l.length≤2 ^ 47:=hb.1.1
 unfold vG
 refine aY l.length (fun k s=>s=((k:Int),())∧H8 l x=(l.drop k).any fun y=>decide (y=x)) ⟨rfl,rfl⟩ ?_
 rintro X k s hk ⟨rfl,he⟩ hX
 dsimp only
 by_cases hlt:k<l.length
 ·rw[AJ1 hlt] at he
  refine cJ (by simp[hlt]) ?_
  rw[aT (r:=.str) hlt]
  by_cases h1:l[k]=x
  ·refine cJ h1.symm ?_
   rw[he,decide_eq_true h1]
   simp[Sh.enc,aD,Sy.enc,hdT]
  ·refine cV (fun e=>h1 e.symm) ?_
   rw[decide_eq_false h1,Bool.false_or] at he
   exact hX _ hlt ⟨by rw[show IntKind.i64.wrap ((k:Int)+1)=((k+1:Nat):Int) from aO _ (by omega) (by omega)],he⟩
 ·have:k=l.length:=by omega
  subst this
  refine cV (by simp) ?_
  rw[he]
  simp[Sh.enc,aD,Sy.enc,hdT]
end Go.Pv
namespace Go.Pv
open Go Go.Proofs
def jS (d:aC) (id:ByteArray) (s:cN):Bool:=H8 (way d s) id
def QD (x:aC×ByteArray):Option T:=I2 x.1 (Sh.enc rM (oB x.1 (jS x.1 x.2)))
def AU3:FuncId→Hint:=fun f=>match f == 36 with|true=>⟨fun r=>match r == 3 with|true=>.inv [.own 5 1 .str,.val 6 false (.int .i64)]|false=>match r == 8 with|true=>.inv [.val 9 false .bool,.val 10 false (.int .i64)]|false=>.none,fun _ _=>none,fun _=>none⟩|false=>aU
theorem AAV {d:aC} {s:cN} (h:wH d s=true):0<(pathOf d s.2.1).length∧0<(pathOf d s.2.2.1).length:=by
 simpa [wH,yB] using h
noncomputable def WY:Env:=Env.of [(118,.perm 1 O0),(66,.pure AZ),(68,.pure o3),(67,.pure kH)]
def AJS:FuncId→Hint:=fun f=>match f == 64 with|true=>⟨fun r=>match r == 3 with|true=>.inv [.val 17 false (.int .i64),.map 3 (.int .i64) false .str]|false=>match r == 10 with|true=>.inv [.own 8 1 (.int .i64),.j9 4 (some 3)]|false=>match r == 16 with|true=>.inv [.own 10 1 .str,.val 44 false (.int .i64)]|false=>.none,fun _ _=>none,fun r=>match r == 11 with|true=>some ((.int .i64),false,.str)|false=>none⟩|false=>aU
theorem AIP:aF Tryz.prog WY:=aF.cons (x:=.perm 1 O0) AK5 (aF.cons (x:=.pure AZ) APP (aF.cons (x:=.pure o3) AFH (aF.cons (x:=.pure kH) TF (aF.nil _))))
def YL (a0:aC) (a1:ByteArray) (R:T→Prop):Prop :=
 b8 (Sy.int IntKind.i64) false Sy.str [] fun (y0:List (Int×ByteArray)) =>
 bB (Int×List (Int×ByteArray)×PUnit)
 (fun (X1:Int×List (Int×ByteArray)×PUnit→Prop) (s2:Int×List (Int×ByteArray)×PUnit) =>
 aB (decide (s2.1<(↑(List.map bT.enc a0.2.2.2.1).length:Int)))
 (aP bT (List.map bT.enc a0.2.2.2.1) s2.1 fun (y3:cN) =>
 aH [(false,Sy.str.li),(false,Sy.str.li),(false,Sy.bool)]
 (AZ [aD true aN a0,aD true bT y3])
 fun (y4:List ByteArray×List ByteArray×Bool) =>
 aB y4.2.2
 (aH [(false,Sy.str.li)]
 (o3
 [T.sl false (List.map Sy.str.enc y4.1),
 T.sl false (List.map Sy.str.enc y4.2.1)])
 fun (y5:List ByteArray) =>
 aH [(false,Sy.bool)]
 (kH [T.sl false (List.map Sy.str.enc y5),T.v (.string a1)])
 fun (y6:Bool) =>
 aB y6
 (iU (Option (Nat×D))
 (findD (TypeDesc.int IntKind.i64) (Value.int IntKind.i64 s2.1)
 (List.map (bG (Sy.int IntKind.i64) false Sy.str) s2.2.1) 0)
 fun (y7:Option (Nat×D)) =>
 b8 (Sy.int IntKind.i64) false Sy.str
 (cK
 (List.map (bG (Sy.int IntKind.i64) false Sy.str) s2.2.1) y7
 (Value.int IntKind.i64 s2.1) (D.p (T.v (.string y3.1))))
 fun (y8:List (Int×ByteArray))=>X1 (IntKind.i64.wrap (s2.1+1),y8,()))
 (b8 (Sy.int IntKind.i64) false Sy.str
 (List.map (bG (Sy.int IntKind.i64) false Sy.str) s2.2.1)
 fun (y9:List (Int×ByteArray))=>X1 (IntKind.i64.wrap (s2.1+1),y9,())))
 (b8 (Sy.int IntKind.i64) false Sy.str
 (List.map (bG (Sy.int IntKind.i64) false Sy.str) s2.2.1)
 fun (y10:List (Int×ByteArray))=>X1 (IntKind.i64.wrap (s2.1+1),y10,())))
 (bB (List Int×(Nat×List Nat×Nat)×PUnit)
 (fun (X11:List Int×(Nat×List Nat×Nat)×PUnit→Prop)
 (s12:List Int×(Nat×List Nat×Nat)×PUnit) =>
 bO
 (decide
 ((List.map (bG (Sy.int IntKind.i64) false Sy.str) s2.2.1).length ≤
 s12.2.1.1) &&
 decide (s12.2.1.1≤s12.2.1.2.2))
 (oW (List.map (bG (Sy.int IntKind.i64) false Sy.str) s2.2.1).length
 s12.2.1.2.1
 (iU (List (List T))
 (match OH (List.map (Sy.int IntKind.i64).enc s12.1) with
 | some x =>
 some (List.map (fun (a:Int)=>[T.v (.int .i64 a)]) (MK x))
 | none=>none)
 fun (y13:List (List T)) =>
 bB (List ByteArray×Int×PUnit)
 (fun (X14:List ByteArray×Int×PUnit→Prop) (s15:List ByteArray×Int×PUnit) =>
 aB (decide (s15.2.1<(↑y13.length:Int)))
 (aP (Sy.int IntKind.i64) y13 s15.2.1 fun (y16:Int) =>
 lG (Sy.int IntKind.i64) y13 (Int.toNat s15.2.1) 0 fun (y17:Int) =>
 dT (TypeDesc.int IntKind.i64) (Value.int IntKind.i64 y17)
 (List.map (bG (Sy.int IntKind.i64) false Sy.str) s2.2.1) false
 Sy.str
 (bO
 (decide (((List.map Sy.str.enc s15.1).length+1)*16≤140737488355328) &&
 decide ((List.map Sy.str.enc s15.1).length+1≤140737488355328))
 (bA Sy.str
 (List.map Sy.str.enc s15.1++[[T.v (.string { data:=#[] })]])
 fun (y21:List ByteArray)=>X14 (y21,IntKind.i64.wrap (s15.2.1+1),())))
 fun (i18:Nat) (y19:ByteArray) =>
 bO
 (decide (((List.map Sy.str.enc s15.1).length+1)*16≤140737488355328) &&
 decide ((List.map Sy.str.enc s15.1).length+1≤140737488355328))
 (bA Sy.str
 (List.map Sy.str.enc s15.1++[[T.v (.string y19)]])
 fun (y20:List ByteArray)=>X14 (y20,IntKind.i64.wrap (s15.2.1+1),())))
 (R (T.sl false (List.map Sy.str.enc s15.1))))
 ([],0,()))
 fun (i22:Nat) =>
 bO
 (decide
 ((List.map (bG (Sy.int IntKind.i64) false Sy.str) s2.2.1).length =
 (List.map (bG (Sy.int IntKind.i64) false Sy.str) s2.2.1).length))
 (vQ (Sy.int IntKind.i64) false Sy.str
 (List.map (bG (Sy.int IntKind.i64) false Sy.str) s2.2.1)
 (s12.2.1.2.1++[i22]) fun (k23:Int) (y24:ByteArray) =>
 bO
 (decide
 (((List.map (Sy.int IntKind.i64).enc s12.1).length+1)*8≤140737488355328) &&
 decide ((List.map (Sy.int IntKind.i64).enc s12.1).length+1≤140737488355328))
 (bA (Sy.int IntKind.i64)
 (List.map (Sy.int IntKind.i64).enc s12.1 ++
 [[T.v (.int .i64 k23)]])
 fun (y25:List Int) =>
 X11
 (y25,
 (s12.2.1.1,s12.2.1.2.1++[i22],
 (List.map (bG (Sy.int IntKind.i64) false Sy.str)
 s2.2.1).length),
 ())))))
 ([],
 ((List.map (bG (Sy.int IntKind.i64) false Sy.str) s2.2.1).length,[],
 (List.map (bG (Sy.int IntKind.i64) false Sy.str) s2.2.1).length),
 ())))
 (0,y0,())
theorem AEG ( a0 a1 R):bJ aV Tryz.prog WY AJS 8 29 [aD true aN a0,aD false Sy.str a1] R=YL a0 a1 R:=by kernel_rfl
abbrev P3:Sh:=[(true,aN),(false,Sy.str)]
noncomputable def AY:List T→Option (T):=gS P3 QD
theorem AF5 {a0 a1}:AY [aD true aN a0,T.v (.string a1)]=QD (a0,a1):=bH (s:=P3) rfl (a0,a1) rfl
theorem AQM (h:∀ a0 a1 r,QD (a0,a1)=some r→cR P3 (a0,a1)→YL a0 a1 (fun y=>y=r)):aJ Tryz.prog 29 AY :=
 aX (E:=WY) (Hs:=AJS) AIP a6 a7 (aM rfl) 8 ⟨_,_,Tryz.func29,rfl⟩ rfl fun x r h1 h2=>by
  obtain ⟨a0,a1⟩:=x
  rw[show Sh.cA P3 (a0,a1)=[aD true aN a0,aD false Sy.str a1] from rfl,AEG]
  exact h a0 a1 r h1 h2
theorem APM:aJ Tryz.prog 29 AY:=AQM fun d id r h hb=>by
 have h':I2 d (Sh.enc rM (oB d (jS d id)))=some r:=h
 obtain ⟨hok,_,hl,rfl⟩:=VM h'
 clear h h'
 unfold YL
 refine ⟨[],rfl,?_⟩
 refine aY d.2.2.2.1.length (fun k s=>∃ es,s=((k:Int),es,())∧z8 d.2.2.2.1 (jS d id) k es) ⟨[],rfl,z8.zero _ _⟩ ?_
 rintro X k s hk ⟨es,rfl,he⟩ hX
 dsimp only
 by_cases hlt:k<d.2.2.2.1.length
 ·refine cJ (by simp[hlt]) ?_
  rw[aT (r:=bT) hlt]
  have hw:IntKind.i64.wrap ((k:Int)+1)=((k+1:Nat):Int):=aO _ (by omega) (by omega)
  have yes:=fun (hc:(jS d id) d.2.2.2.1[k]=true)=>ALM he hlt hc (fun y=>X (IntKind.i64.wrap ((k:Int)+1),y,())) (hX _ hlt ⟨_,by rw[hw],he.yes hlt hc⟩)
  have no:=fun (hc:(jS d id) d.2.2.2.1[k]=false)=>S7 (r:=.str) rfl es (fun y=>X (IntKind.i64.wrap ((k:Int)+1),y,())) (hX _ hlt ⟨_,by rw[hw],he.no hlt hc⟩)
  refine aG (s:=PM) (y:=(pathOf d d.2.2.2.1[k].2.1,pathOf d d.2.2.2.1[k].2.2.1,wH d d.2.2.2.1[k])) (by rw[AF7,E4,pI _ hok]) ?_
  dsimp only
  cases hp:wH d d.2.2.2.1[k] with
  | false =>
   rw[eA]
   exact no (by rw[jS,show way d d.2.2.2.1[k]=[] from S1 hp];rfl)
  | true =>
   obtain ⟨ha,hb⟩:=AAV hp
   rw[dE]
   refine aG (s:=rM) (y:=way d d.2.2.2.1[k]) TU ?_
   refine aG (s:=r_b) (y:=H8 (way d d.2.2.2.1[k]) id) KI ?_
   cases hf:H8 (way d d.2.2.2.1[k]) id with
   | true=>rw[dE];exact yes hf
   | false=>rw[eA];exact no hf
 ·have:k=d.2.2.2.1.length:=by omega
  subst this
  refine cV (by simp) ?_
  refine SY (by have:=he.2.2.2;omega) he.2.1 (R:=fun y=>y=Sh.enc rM (oB d (jS d id))) ?_
  rw[he.1,List.take_length];rfl
end Go.Pv
namespace Go.Pv
open Go Go.Proofs
noncomputable def eqB {α:Type} (a b:α):Bool:=@decide (a=b) (Classical.propDecidable _)
theorem AO9 {α:Type} {a b:α}:eqB a b=true↔a=b:=by unfold eqB;exact @decide_eq_true_iff _ (Classical.propDecidable _)
@[simp] theorem AVK {α:Type} (a:α):eqB a a=true:=AO9.2 rfl
def B2 (d:aC) (id:ByteArray):Option eP:=d.2.2.2.2.1.find? fun s=>decide (s.1=id)
end Go.Pv
namespace Go.Pv
open Go Go.Proofs
def lU (d:aC) (s:cN):Int:=if oJ s.1=false∨oJ s.2.1=false∨oJ s.2.2.1=false then 6 else if s.2.1=s.2.2.1 then 2 else if ¬ s.2.2.2.1=1∧¬ s.2.2.2.1=2 then 10 else if s.2.2.2.2.1<1∨32768<s.2.2.2.2.1∨s.2.2.2.2.2<1∨3<s.2.2.2.2.2 then 9 else if (partOf d s.2.1).isNone=true∨(partOf d s.2.2.1).isNone=true then 8 else 0
def mM (a0:aC) (m1:List (ByteArray×Int)) (m2:List (ByteArray×Int)) (m3:List (ByteArray×Int)) (m4:List (ByteArray×Int)):List T:=[JU a0 m1 m2 m3 m4]
noncomputable def FB:Env:=Env.of [(99,.pure cQ)]
def RR:FuncId→Hint:=fun f=>match f == 50 with|true=>⟨fun r=>match r == 2 with|true=>.inv [.val 17 false (.int .i64)]|false=>.none,fun _ _=>none,fun _=>none⟩|false=>aU
theorem W4:aF Tryz.prog FB:=aF.cons (x:=.pure cQ) ED (aF.nil _)
def F1 (a0:aC) (m1:List (ByteArray×Int)) (m2:List (ByteArray×Int)) (m3:List (ByteArray×Int)) (m4:List (ByteArray×Int)) (R:T→Prop):Prop :=
 bB (Int×PUnit)
 (fun (X0:Int×PUnit→Prop) (s1:Int×PUnit) =>
 aB (decide (s1.1<(↑(List.map bT.enc a0.2.2.2.1).length:Int)))
 (aP bT (List.map bT.enc a0.2.2.2.1) s1.1 fun (y2:cN) =>
 dT TypeDesc.string (Value.string y2.2.1) (nE (a8 m2)) false
 (Sy.int IntKind.i64)
 (dT TypeDesc.string (Value.string y2.2.2.1) (nE (a8 m2)) false
 (Sy.int IntKind.i64)
 (aH [(false,Sy.bool)] (cQ [T.v (.string y2.1)])
 fun (y18:Bool) =>
 aB (!y18) (R (T.v (.int .i64 6)))
 (aH [(false,Sy.bool)] (cQ [T.v (.string y2.2.1)])
 fun (y19:Bool) =>
 aB (!y19) (R (T.v (.int .i64 6)))
 (aH [(false,Sy.bool)] (cQ [T.v (.string y2.2.2.1)])
 fun (y20:Bool) =>
 aB (!y20) (R (T.v (.int .i64 6)))
 (aB (decide (y2.2.1=y2.2.2.1))
 (R (T.v (.int .i64 2)))
 (aB (!decide (y2.2.2.2.1=1))
 (aB (!decide (y2.2.2.2.1=2))
 (R (T.v (.int .i64 10)))
 (aB (decide (y2.2.2.2.2.1<1))
 (R (T.v (.int .i64 9)))
 (aB (decide (32768<y2.2.2.2.2.1))
 (R (T.v (.int .i64 9)))
 (aB (decide (y2.2.2.2.2.2<1))
 (R (T.v (.int .i64 9)))
 (aB (decide (3<y2.2.2.2.2.2))
 (R (T.v (.int .i64 9)))
 (R (T.v (.int .i64 8))))))))
 (aB (decide (y2.2.2.2.2.1<1))
 (R (T.v (.int .i64 9)))
 (aB (decide (32768<y2.2.2.2.2.1))
 (R (T.v (.int .i64 9)))
 (aB (decide (y2.2.2.2.2.2<1))
 (R (T.v (.int .i64 9)))
 (aB (decide (3<y2.2.2.2.2.2))
 (R (T.v (.int .i64 9)))
 (R (T.v (.int .i64 8))))))))))))
 fun (i13:Nat) (y14:Int) =>
 aH [(false,Sy.bool)] (cQ [T.v (.string y2.1)]) fun (y15:Bool) =>
 aB (!y15) (R (T.v (.int .i64 6)))
 (aH [(false,Sy.bool)] (cQ [T.v (.string y2.2.1)])
 fun (y16:Bool) =>
 aB (!y16) (R (T.v (.int .i64 6)))
 (aH [(false,Sy.bool)] (cQ [T.v (.string y2.2.2.1)])
 fun (y17:Bool) =>
 aB (!y17) (R (T.v (.int .i64 6)))
 (aB (decide (y2.2.1=y2.2.2.1))
 (R (T.v (.int .i64 2)))
 (aB (!decide (y2.2.2.2.1=1))
 (aB (!decide (y2.2.2.2.1=2))
 (R (T.v (.int .i64 10)))
 (aB (decide (y2.2.2.2.2.1<1))
 (R (T.v (.int .i64 9)))
 (aB (decide (32768<y2.2.2.2.2.1))
 (R (T.v (.int .i64 9)))
 (aB (decide (y2.2.2.2.2.2<1))
 (R (T.v (.int .i64 9)))
 (aB (decide (3<y2.2.2.2.2.2))
 (R (T.v (.int .i64 9)))
 (R (T.v (.int .i64 8))))))))
 (aB (decide (y2.2.2.2.2.1<1))
 (R (T.v (.int .i64 9)))
 (aB (decide (32768<y2.2.2.2.2.1))
 (R (T.v (.int .i64 9)))
 (aB (decide (y2.2.2.2.2.2<1))
 (R (T.v (.int .i64 9)))
 (aB (decide (3<y2.2.2.2.2.2))
 (R (T.v (.int .i64 9)))
 (R (T.v (.int .i64 8))))))))))))
 fun (i3:Nat) (y4:Int) =>
 dT TypeDesc.string (Value.string y2.2.2.1) (nE (a8 m2)) false
 (Sy.int IntKind.i64)
 (aH [(false,Sy.bool)] (cQ [T.v (.string y2.1)])
 fun (y10:Bool) =>
 aB (!y10) (R (T.v (.int .i64 6)))
 (aH [(false,Sy.bool)] (cQ [T.v (.string y2.2.1)])
 fun (y11:Bool) =>
 aB (!y11) (R (T.v (.int .i64 6)))
 (aH [(false,Sy.bool)] (cQ [T.v (.string y2.2.2.1)])
 fun (y12:Bool) =>
 aB (!y12) (R (T.v (.int .i64 6)))
 (aB (decide (y2.2.1=y2.2.2.1))
 (R (T.v (.int .i64 2)))
 (aB (!decide (y2.2.2.2.1=1))
 (aB (!decide (y2.2.2.2.1=2))
 (R (T.v (.int .i64 10)))
 (aB (decide (y2.2.2.2.2.1<1))
 (R (T.v (.int .i64 9)))
 (aB (decide (32768<y2.2.2.2.2.1))
 (R (T.v (.int .i64 9)))
 (aB (decide (y2.2.2.2.2.2<1))
 (R (T.v (.int .i64 9)))
 (aB (decide (3<y2.2.2.2.2.2))
 (R (T.v (.int .i64 9)))
 (R (T.v (.int .i64 8))))))))
 (aB (decide (y2.2.2.2.2.1<1))
 (R (T.v (.int .i64 9)))
 (aB (decide (32768<y2.2.2.2.2.1))
 (R (T.v (.int .i64 9)))
 (aB (decide (y2.2.2.2.2.2<1))
 (R (T.v (.int .i64 9)))
 (aB (decide (3<y2.2.2.2.2.2))
 (R (T.v (.int .i64 9)))
 (R (T.v (.int .i64 8))))))))))))
 fun (i5:Nat) (y6:Int) =>
 aH [(false,Sy.bool)] (cQ [T.v (.string y2.1)]) fun (y7:Bool) =>
 aB (!y7) (R (T.v (.int .i64 6)))
 (aH [(false,Sy.bool)] (cQ [T.v (.string y2.2.1)])
 fun (y8:Bool) =>
 aB (!y8) (R (T.v (.int .i64 6)))
 (aH [(false,Sy.bool)] (cQ [T.v (.string y2.2.2.1)])
 fun (y9:Bool) =>
 aB (!y9) (R (T.v (.int .i64 6)))
 (aB (decide (y2.2.1=y2.2.2.1))
 (R (T.v (.int .i64 2)))
 (aB (!decide (y2.2.2.2.1=1))
 (aB (!decide (y2.2.2.2.1=2))
 (R (T.v (.int .i64 10)))
 (aB (decide (y2.2.2.2.2.1<1))
 (R (T.v (.int .i64 9)))
 (aB (decide (32768<y2.2.2.2.2.1))
 (R (T.v (.int .i64 9)))
 (aB (decide (y2.2.2.2.2.2<1))
 (R (T.v (.int .i64 9)))
 (aB (decide (3<y2.2.2.2.2.2))
 (R (T.v (.int .i64 9)))
 (X0 (IntKind.i64.wrap (s1.1+1),())))))))
 (aB (decide (y2.2.2.2.2.1<1))
 (R (T.v (.int .i64 9)))
 (aB (decide (32768<y2.2.2.2.2.1))
 (R (T.v (.int .i64 9)))
 (aB (decide (y2.2.2.2.2.2<1))
 (R (T.v (.int .i64 9)))
 (aB (decide (3<y2.2.2.2.2.2))
 (R (T.v (.int .i64 9)))
 (X0 (IntKind.i64.wrap (s1.1+1),())))))))))))
 (R (T.v (.int .i64 0))))
 (0,())
theorem Q1 ( a0 m1 m2 m3 m4 R):bJ aV Tryz.prog FB RR 8 50 (mM a0 m1 m2 m3 m4) R=F1 a0 m1 m2 m3 m4 R:=by kernel_rfl
theorem MX (x y:aC×MP×MP×MP×MP) (h:mM x.1 x.2.1 x.2.2.1 x.2.2.2.1 x.2.2.2.2=mM y.1 y.2.1 y.2.2.1 y.2.2.2.1 y.2.2.2.2):x=y:=nD (List.cons.inj h).1
def CE (x:aC×MP×MP×MP×MP):Option T:=rG x (T.v (Value.int .i64 (bK (lU x.1) x.1.2.2.2.1)))
noncomputable def o2:List T→Option (T):=gA (fun (x:aC×(List (ByteArray×Int))×(List (ByteArray×Int))×(List (ByteArray×Int))×List (ByteArray×Int))=>mM x.1 x.2.1 x.2.2.1 x.2.2.2.1 x.2.2.2.2) CE
theorem TR (a0:aC) (m1:List (ByteArray×Int)) (m2:List (ByteArray×Int)) (m3:List (ByteArray×Int)) (m4:List (ByteArray×Int)):o2 (mM a0 m1 m2 m3 m4)=CE (a0,m1,m2,m3,m4):=j1 (A:=(fun (x:aC×(List (ByteArray×Int))×(List (ByteArray×Int))×(List (ByteArray×Int))×List (ByteArray×Int))=>mM x.1 x.2.1 x.2.2.1 x.2.2.2.1 x.2.2.2.2)) MX (a0,m1,m2,m3,m4)
theorem AGS (h:∀ (a0:aC) (m1:List (ByteArray×Int)) (m2:List (ByteArray×Int)) (m3:List (ByteArray×Int)) (m4:List (ByteArray×Int)) (r:T),CE (a0,m1,m2,m3,m4)=some r→(∀ t∈mM a0 m1 m2 m3 m4,Bd t)→F1 a0 m1 m2 m3 m4 (fun y=>y=r)):aJ Tryz.prog 50 o2 :=
 eC (E:=FB) (Hs:=RR) W4 a6 a7 (aM rfl) 8 ⟨_,_,Tryz.func50,rfl⟩ fun x r h1 h2=>by
  rw[Q1]
  exact h x.1 x.2.1 x.2.2.1 x.2.2.2.1 x.2.2.2.2 r h1 h2
theorem AFF:aJ Tryz.prog 50 o2:=AGS fun d m1 m2 m3 m4 r h hb=>by
 obtain ⟨hx,hs,rfl⟩:=lE h
 simp only[Prod.mk.injEq,true_and] at hx
 obtain ⟨rfl,rfl,rfl,rfl⟩:=hx
 replace hs:kD d:=hs
 clear h
 unfold F1
 refine mR (r:=bT) (lU d) hs.s (fun X s y hy hok hbad=>?_) fun h0=>?_
 ·have bad:∀ {n:Int},n≠0→lU d y=n→T.v (.int .i64 n)=T.v (.int .i64 (bK (lU d) d.2.2.2.1)):=fun hn h=>by
   rw[hbad (by rw[h];exact hn),h]
  clear hbad hb
  repeat' first
   | refine ixK (fun hn=>?_) (fun i j hj hn=>?_)
   | rw[kK]
   | refine mG (fun h=>?_) (fun h=>?_)
   | refine bZ (fun h=>?_) (fun h=>?_)
   | refine lC (fun h=>?_) (fun h=>?_)
  all_goals first
   | (exfalso;omega)
   | (refine bad (by decide) ?_;clear bad hok;unfold lU;simp[*,partOf,B2];done)
   | (refine hok ?_;clear bad hok;unfold lU;simp[*,partOf,B2];done)
 ·show _=T.v (.int .i64 (bK (lU d) d.2.2.2.1))
  rw[h0]
def nM (a0:aC) (m1:List (ByteArray×Int)) (m2:List (ByteArray×Int)) (m3:List (ByteArray×Int)) (m4:List (ByteArray×Int)) (a5:ByteArray):List T:=[JU a0 m1 m2 m3 m4,T.v (.string a5)]
noncomputable def M5:Env:=Env.of []
def ABR:FuncId→Hint:=fun _=>aU
theorem ADY:aF Tryz.prog M5:=aF.nil _
def NL (a0:aC) (m1:List (ByteArray×Int)) (m2:List (ByteArray×Int)) (m3:List (ByteArray×Int)) (m4:List (ByteArray×Int)) (a5:ByteArray) (R:T→Prop):Prop :=
 dT TypeDesc.string (Value.string a5) (nE (a8 m1)) false (Sy.int IntKind.i64)
 (R (T.v (.bool false))) fun (i0:Nat) (y1:Int) =>
 aP bM (List.map bM.enc a0.2.1) y1 fun (y2:jW) =>
 R (T.v (.bool (decide (y2.2.1=1))))
theorem XW ( a0 m1 m2 m3 m4 a5 R):bJ aV Tryz.prog M5 ABR 8 101 (nM a0 m1 m2 m3 m4 a5) R=NL a0 m1 m2 m3 m4 a5 R:=by kernel_rfl
def sC (d:aC) (id:ByteArray):Bool:=match cC d id with
 | some n=>decide (n.2.1=1)
 | none=>false
theorem QP (x y:aC×MP×MP×MP×MP×ByteArray) (h:nM x.1 x.2.1 x.2.2.1 x.2.2.2.1 x.2.2.2.2.1 x.2.2.2.2.2=nM y.1 y.2.1 y.2.2.1 y.2.2.2.1 y.2.2.2.2.1 y.2.2.2.2.2):x=y:=wZ x y h
def JI (x:aC×MP×MP×MP×MP×ByteArray):Option T:=rG (x.1,x.2.1,x.2.2.1,x.2.2.2.1,x.2.2.2.2.1) (T.v (.bool (sC x.1 x.2.2.2.2.2)))
noncomputable def dR:List T→Option (T):=gA (fun (x:aC×(List (ByteArray×Int))×(List (ByteArray×Int))×(List (ByteArray×Int))×(List (ByteArray×Int))×ByteArray)=>nM x.1 x.2.1 x.2.2.1 x.2.2.2.1 x.2.2.2.2.1 x.2.2.2.2.2) JI
theorem ZW (a0:aC) (m1:List (ByteArray×Int)) (m2:List (ByteArray×Int)) (m3:List (ByteArray×Int)) (m4:List (ByteArray×Int)) (a5:ByteArray):dR (nM a0 m1 m2 m3 m4 a5)=JI (a0,m1,m2,m3,m4,a5):=j1 (A:=(fun (x:aC×(List (ByteArray×Int))×(List (ByteArray×Int))×(List (ByteArray×Int))×(List (ByteArray×Int))×ByteArray)=>nM x.1 x.2.1 x.2.2.1 x.2.2.2.1 x.2.2.2.2.1 x.2.2.2.2.2)) QP (a0,m1,m2,m3,m4,a5)
theorem AMM (h:∀ (a0:aC) (m1:List (ByteArray×Int)) (m2:List (ByteArray×Int)) (m3:List (ByteArray×Int)) (m4:List (ByteArray×Int)) (a5:ByteArray) (r:T),JI (a0,m1,m2,m3,m4,a5)=some r→(∀ t∈nM a0 m1 m2 m3 m4 a5,Bd t)→NL a0 m1 m2 m3 m4 a5 (fun y=>y=r)):aJ Tryz.prog 101 dR :=
 eC (E:=M5) (Hs:=ABR) ADY a6 a7 (aM rfl) 8 ⟨_,_,Tryz.func101,rfl⟩ fun x r h1 h2=>by
  rw[XW]
  exact h x.1 x.2.1 x.2.2.1 x.2.2.2.1 x.2.2.2.2.1 x.2.2.2.2.2 r h1 h2
theorem TG:aJ Tryz.prog 101 dR:=AMM fun d m1 m2 m3 m4 id0 r h hb=>by
 obtain ⟨hx,hs,rfl⟩:=lE h
 simp only[Prod.mk.injEq,true_and] at hx
 obtain ⟨rfl,rfl,rfl,rfl⟩:=hx
 replace hs:kD d:=hs
 clear h
 unfold NL
 refine ixK (fun hn=>?_) fun i j hj hn=>?_
 ·have hn:cC d id0=none:=hn
  show _=T.v (.bool (sC d id0))
  unfold sC;rw[hn]
 ·have hn:cC d id0=some d.2.1[j]:=hn
  rw[aT (r:=bM) hj]
  show _=T.v (.bool (sC d id0))
  unfold sC;rw[hn]
theorem HY {d:aC} (hs:kD d) (id:ByteArray):dR (nM d (fG (ids d.2.1)) (fG (ids d.2.2.1)) (fG (ids d.2.2.2.1)) (fG (ids d.2.2.2.2.1)) id)=some (Sh.enc [(false,.bool)] (sC d id)):=by
 rw[ZW];exact lF hs _
def sJ (d:aC) (x:w6):Int:=if x.1<1∨3<x.1 then 10 else if x.2.2=x.2.1 then 2 else if sC d x.2.1=false then 8 else if (x.1=1∧¬ x.2.2 = { data:=#[] }∧sC d x.2.2=false)∨(x.1=2∧sC d x.2.2=false)∨(x.1=3∧(B2 d x.2.2).isNone=true) then 8 else 0
def mK (a0:aC) (m1:List (ByteArray×Int)) (m2:List (ByteArray×Int)) (m3:List (ByteArray×Int)) (m4:List (ByteArray×Int)):List T:=[JU a0 m1 m2 m3 m4]
noncomputable def E9:Env:=Env.of [(101,.pure dR)]
def RP:FuncId→Hint:=fun f=>match f == 52 with|true=>⟨fun r=>match r == 2 with|true=>.inv [.val 15 false (.int .i64)]|false=>.none,fun _ _=>none,fun _=>none⟩|false=>aU
theorem W2:aF Tryz.prog E9:=aF.cons (x:=.pure dR) TG (aF.nil _)
def FZ (a0:aC) (m1:List (ByteArray×Int)) (m2:List (ByteArray×Int)) (m3:List (ByteArray×Int)) (m4:List (ByteArray×Int)) (R:T→Prop):Prop :=
 bB (Int×PUnit)
 (fun (X0:Int×PUnit→Prop) (s1:Int×PUnit) =>
 aB (decide (s1.1<(↑(List.map cO.enc a0.2.2.2.2.2).length:Int)))
 (aP cO (List.map cO.enc a0.2.2.2.2.2) s1.1 fun (y2:w6) =>
 dT TypeDesc.string (Value.string y2.2.2) (nE (a8 m4)) false
 (Sy.int IntKind.i64)
 (aB (decide (y2.1<1)) (R (T.v (.int .i64 10)))
 (aB (decide (3<y2.1)) (R (T.v (.int .i64 10)))
 (aB (decide (y2.2.2=y2.2.1)) (R (T.v (.int .i64 2)))
 (aH [(false,Sy.bool)]
 (dR
 [T.ref
 [T.ref
 [T.v (.string a0.1),T.sl false (List.map bM.enc a0.2.1),
 T.sl false (List.map aQ.enc a0.2.2.1),
 T.sl false (List.map bT.enc a0.2.2.2.1),
 T.sl false (List.map aW.enc a0.2.2.2.2.1),
 T.sl false (List.map cO.enc a0.2.2.2.2.2)],
 T.mp (a8 m1),T.mp (a8 m2),T.mp (a8 m3),
 T.mp (a8 m4)],
 T.v (.string y2.2.1)])
 fun (y10:Bool) =>
 aB (!y10) (R (T.v (.int .i64 8)))
 (aB (decide (y2.1=1))
 (aB (!decide (y2.2.2 = { data:=#[] }))
 (aH [(false,Sy.bool)]
 (dR
 [T.ref
 [T.ref
 [T.v (.string a0.1),
 T.sl false (List.map bM.enc a0.2.1),
 T.sl false (List.map aQ.enc a0.2.2.1),
 T.sl false (List.map bT.enc a0.2.2.2.1),
 T.sl false (List.map aW.enc a0.2.2.2.2.1),
 T.sl false (List.map cO.enc a0.2.2.2.2.2)],
 T.mp (a8 m1),T.mp (a8 m2),T.mp (a8 m3),
 T.mp (a8 m4)],
 T.v (.string y2.2.2)])
 fun (y11:Bool) =>
 aB (!y11) (R (T.v (.int .i64 8)))
 (aB (decide (y2.1=2))
 (aH [(false,Sy.bool)]
 (dR
 [T.ref
 [T.ref
 [T.v (.string a0.1),
 T.sl false (List.map bM.enc a0.2.1),
 T.sl false (List.map aQ.enc a0.2.2.1),
 T.sl false (List.map bT.enc a0.2.2.2.1),
 T.sl false (List.map aW.enc a0.2.2.2.2.1),
 T.sl false (List.map cO.enc a0.2.2.2.2.2)],
 T.mp (a8 m1),T.mp (a8 m2),
 T.mp (a8 m3),T.mp (a8 m4)],
 T.v (.string y2.2.2)])
 fun (y12:Bool) =>
 aB (!y12) (R (T.v (.int .i64 8)))
 (aB (decide (y2.1=3)) (R (T.v (.int .i64 8)))
 (X0 (IntKind.i64.wrap (s1.1+1),()))))
 (aB (decide (y2.1=3)) (R (T.v (.int .i64 8)))
 (X0 (IntKind.i64.wrap (s1.1+1),())))))
 (aB (decide (y2.1=2))
 (aH [(false,Sy.bool)]
 (dR
 [T.ref
 [T.ref
 [T.v (.string a0.1),
 T.sl false (List.map bM.enc a0.2.1),
 T.sl false (List.map aQ.enc a0.2.2.1),
 T.sl false (List.map bT.enc a0.2.2.2.1),
 T.sl false (List.map aW.enc a0.2.2.2.2.1),
 T.sl false (List.map cO.enc a0.2.2.2.2.2)],
 T.mp (a8 m1),T.mp (a8 m2),T.mp (a8 m3),
 T.mp (a8 m4)],
 T.v (.string y2.2.2)])
 fun (y13:Bool) =>
 aB (!y13) (R (T.v (.int .i64 8)))
 (aB (decide (y2.1=3)) (R (T.v (.int .i64 8)))
 (X0 (IntKind.i64.wrap (s1.1+1),()))))
 (aB (decide (y2.1=3)) (R (T.v (.int .i64 8)))
 (X0 (IntKind.i64.wrap (s1.1+1),())))))
 (aB (decide (y2.1=2))
 (aH [(false,Sy.bool)]
 (dR
 [T.ref
 [T.ref
 [T.v (.string a0.1),
 T.sl false (List.map bM.enc a0.2.1),
 T.sl false (List.map aQ.enc a0.2.2.1),
 T.sl false (List.map bT.enc a0.2.2.2.1),
 T.sl false (List.map aW.enc a0.2.2.2.2.1),
 T.sl false (List.map cO.enc a0.2.2.2.2.2)],
 T.mp (a8 m1),T.mp (a8 m2),T.mp (a8 m3),
 T.mp (a8 m4)],
 T.v (.string y2.2.2)])
 fun (y14:Bool) =>
 aB (!y14) (R (T.v (.int .i64 8)))
 (aB (decide (y2.1=3)) (R (T.v (.int .i64 8)))
 (X0 (IntKind.i64.wrap (s1.1+1),()))))
 (aB (decide (y2.1=3)) (R (T.v (.int .i64 8)))
 (X0 (IntKind.i64.wrap (s1.1+1),())))))))))
 fun (i3:Nat) (y4:Int) =>
 aB (decide (y2.1<1)) (R (T.v (.int .i64 10)))
 (aB (decide (3<y2.1)) (R (T.v (.int .i64 10)))
 (aB (decide (y2.2.2=y2.2.1)) (R (T.v (.int .i64 2)))
 (aH [(false,Sy.bool)]
 (dR
 [T.ref
 [T.ref
 [T.v (.string a0.1),T.sl false (List.map bM.enc a0.2.1),
 T.sl false (List.map aQ.enc a0.2.2.1),
 T.sl false (List.map bT.enc a0.2.2.2.1),
 T.sl false (List.map aW.enc a0.2.2.2.2.1),
 T.sl false (List.map cO.enc a0.2.2.2.2.2)],
 T.mp (a8 m1),T.mp (a8 m2),T.mp (a8 m3),
 T.mp (a8 m4)],
 T.v (.string y2.2.1)])
 fun (y5:Bool) =>
 aB (!y5) (R (T.v (.int .i64 8)))
 (aB (decide (y2.1=1))
 (aB (!decide (y2.2.2 = { data:=#[] }))
 (aH [(false,Sy.bool)]
 (dR
 [T.ref
 [T.ref
 [T.v (.string a0.1),
 T.sl false (List.map bM.enc a0.2.1),
 T.sl false (List.map aQ.enc a0.2.2.1),
 T.sl false (List.map bT.enc a0.2.2.2.1),
 T.sl false (List.map aW.enc a0.2.2.2.2.1),
 T.sl false (List.map cO.enc a0.2.2.2.2.2)],
 T.mp (a8 m1),T.mp (a8 m2),T.mp (a8 m3),
 T.mp (a8 m4)],
 T.v (.string y2.2.2)])
 fun (y6:Bool) =>
 aB (!y6) (R (T.v (.int .i64 8)))
 (aB (decide (y2.1=2))
 (aH [(false,Sy.bool)]
 (dR
 [T.ref
 [T.ref
 [T.v (.string a0.1),
 T.sl false (List.map bM.enc a0.2.1),
 T.sl false (List.map aQ.enc a0.2.2.1),
 T.sl false (List.map bT.enc a0.2.2.2.1),
 T.sl false (List.map aW.enc a0.2.2.2.2.1),
 T.sl false (List.map cO.enc a0.2.2.2.2.2)],
 T.mp (a8 m1),T.mp (a8 m2),
 T.mp (a8 m3),T.mp (a8 m4)],
 T.v (.string y2.2.2)])
 fun (y7:Bool) =>
 aB (!y7) (R (T.v (.int .i64 8)))
 (aB (decide (y2.1=3)) (X0 (IntKind.i64.wrap (s1.1+1),()))
 (X0 (IntKind.i64.wrap (s1.1+1),()))))
 (aB (decide (y2.1=3)) (X0 (IntKind.i64.wrap (s1.1+1),()))
 (X0 (IntKind.i64.wrap (s1.1+1),())))))
 (aB (decide (y2.1=2))
 (aH [(false,Sy.bool)]
 (dR
 [T.ref
 [T.ref
 [T.v (.string a0.1),
 T.sl false (List.map bM.enc a0.2.1),
 T.sl false (List.map aQ.enc a0.2.2.1),
 T.sl false (List.map bT.enc a0.2.2.2.1),
 T.sl false (List.map aW.enc a0.2.2.2.2.1),
 T.sl false (List.map cO.enc a0.2.2.2.2.2)],
 T.mp (a8 m1),T.mp (a8 m2),T.mp (a8 m3),
 T.mp (a8 m4)],
 T.v (.string y2.2.2)])
 fun (y8:Bool) =>
 aB (!y8) (R (T.v (.int .i64 8)))
 (aB (decide (y2.1=3)) (X0 (IntKind.i64.wrap (s1.1+1),()))
 (X0 (IntKind.i64.wrap (s1.1+1),()))))
 (aB (decide (y2.1=3)) (X0 (IntKind.i64.wrap (s1.1+1),()))
 (X0 (IntKind.i64.wrap (s1.1+1),())))))
 (aB (decide (y2.1=2))
 (aH [(false,Sy.bool)]
 (dR
 [T.ref
 [T.ref
 [T.v (.string a0.1),
 T.sl false (List.map bM.enc a0.2.1),
 T.sl false (List.map aQ.enc a0.2.2.1),
 T.sl false (List.map bT.enc a0.2.2.2.1),
 T.sl false (List.map aW.enc a0.2.2.2.2.1),
 T.sl false (List.map cO.enc a0.2.2.2.2.2)],
 T.mp (a8 m1),T.mp (a8 m2),T.mp (a8 m3),
 T.mp (a8 m4)],
 T.v (.string y2.2.2)])
 fun (y9:Bool) =>
 aB (!y9) (R (T.v (.int .i64 8)))
 (aB (decide (y2.1=3)) (X0 (IntKind.i64.wrap (s1.1+1),()))
 (X0 (IntKind.i64.wrap (s1.1+1),()))))
 (aB (decide (y2.1=3)) (X0 (IntKind.i64.wrap (s1.1+1),()))
 (X0 (IntKind.i64.wrap (s1.1+1),())))))))))
 (R (T.v (.int .i64 0))))
 (0,())
theorem QZ ( a0 m1 m2 m3 m4 R):bJ aV Tryz.prog E9 RP 8 52 (mK a0 m1 m2 m3 m4) R=FZ a0 m1 m2 m3 m4 R:=by kernel_rfl
theorem MV (x y:aC×MP×MP×MP×MP) (h:mK x.1 x.2.1 x.2.2.1 x.2.2.2.1 x.2.2.2.2=mK y.1 y.2.1 y.2.2.1 y.2.2.2.1 y.2.2.2.2):x=y:=nD (List.cons.inj h).1
def CC (x:aC×MP×MP×MP×MP):Option T:=rG x (T.v (Value.int .i64 (bK (sJ x.1) x.1.2.2.2.2.2)))
noncomputable def o0:List T→Option (T):=gA (fun (x:aC×(List (ByteArray×Int))×(List (ByteArray×Int))×(List (ByteArray×Int))×List (ByteArray×Int))=>mK x.1 x.2.1 x.2.2.1 x.2.2.2.1 x.2.2.2.2) CC
theorem TP (a0:aC) (m1:List (ByteArray×Int)) (m2:List (ByteArray×Int)) (m3:List (ByteArray×Int)) (m4:List (ByteArray×Int)):o0 (mK a0 m1 m2 m3 m4)=CC (a0,m1,m2,m3,m4):=j1 (A:=(fun (x:aC×(List (ByteArray×Int))×(List (ByteArray×Int))×(List (ByteArray×Int))×List (ByteArray×Int))=>mK x.1 x.2.1 x.2.2.1 x.2.2.2.1 x.2.2.2.2)) MV (a0,m1,m2,m3,m4)
theorem AGQ (h:∀ (a0:aC) (m1:List (ByteArray×Int)) (m2:List (ByteArray×Int)) (m3:List (ByteArray×Int)) (m4:List (ByteArray×Int)) (r:T),CC (a0,m1,m2,m3,m4)=some r→(∀ t∈mK a0 m1 m2 m3 m4,Bd t)→FZ a0 m1 m2 m3 m4 (fun y=>y=r)):aJ Tryz.prog 52 o0 :=
 eC (E:=E9) (Hs:=RP) W2 a6 a7 (aM rfl) 8 ⟨_,_,Tryz.func52,rfl⟩ fun x r h1 h2=>by
  rw[QZ]
  exact h x.1 x.2.1 x.2.2.1 x.2.2.2.1 x.2.2.2.2 r h1 h2
theorem AFD:aJ Tryz.prog 52 o0:=AGQ fun d m1 m2 m3 m4 r h hb=>by
 obtain ⟨hx,hs,rfl⟩:=lE h
 simp only[Prod.mk.injEq,true_and] at hx
 obtain ⟨rfl,rfl,rfl,rfl⟩:=hx
 replace hs:kD d:=hs
 clear h
 unfold FZ
 refine mR (r:=cO) (sJ d) hs.r (fun X s y hy hok hbad=>?_) fun h0=>?_
 ·have bad:∀ {n:Int},n≠0→sJ d y=n→T.v (.int .i64 n)=T.v (.int .i64 (bK (sJ d) d.2.2.2.2.2)):=fun hn h=>by
   rw[hbad (by rw[h];exact hn),h]
  clear hbad hb
  repeat' first
   | refine ixK (fun hn=>?_) (fun i j hj hn=>?_)
   | rw[kK]
   | refine aG (s:=[(false,.bool)]) (HY hs _) ?_
   | refine mG (fun h=>?_) (fun h=>?_)
   | refine bZ (fun h=>?_) (fun h=>?_)
   | refine lC (fun h=>?_) (fun h=>?_)
  all_goals first
   | (exfalso;omega)
   | (refine bad (by decide) ?_;clear bad hok;unfold sJ;simp[*,partOf,B2];done)
   | (refine hok ?_;clear bad hok;unfold sJ;simp[*,partOf,B2];done)
   | (refine hok ?_;clear bad hok hs hy;unfold sJ;simp_all[partOf,B2];done)
 ·show _=T.v (.int .i64 (bK (sJ d) d.2.2.2.2.2))
  rw[h0]
end Go.Pv
namespace Go.Pv
open Go Go.Proofs
noncomputable def WR:Env:=Env.of []
def AJL:FuncId→Hint:=fun f=>match f == 145 with|true=>⟨fun r=>match r == 2 with|true=>.inv [.val 9 false (.int .i64)]|false=>.none,fun _ _=>none,fun _=>none⟩|false=>aU
theorem AII:aF Tryz.prog WR:=aF.nil _
def XS (a0:Int) (a1:List aK) (R:T→Prop):Prop :=
 bB (Int×PUnit)
 (fun (X0:Int×PUnit→Prop) (s1:Int×PUnit) =>
 aB (decide (s1.1<(↑(List.map aA.enc a1).length:Int)))
 (aP aA (List.map aA.enc a1) s1.1 fun (y2:aK) =>
 aB (decide (y2.1<0)) (R (T.v (.int .i64 9)))
 (aB (decide (a0≤y2.1)) (R (T.v (.int .i64 9)))
 (aB (decide (y2.2<0)) (R (T.v (.int .i64 9)))
 (aB (decide (a0≤y2.2)) (R (T.v (.int .i64 9)))
 (aB (decide (y2.1=y2.2)) (R (T.v (.int .i64 2)))
 (X0 (IntKind.i64.wrap (s1.1+1),())))))))
 (R (T.v (.int .i64 0))))
 (0,())
theorem AD9 ( a0 a1 R):bJ aV Tryz.prog WR AJL 8 145 [aD false (Sy.int IntKind.i64) a0,aD false aA.li a1] R=XS a0 a1 R:=by kernel_rfl
abbrev PX:Sh:=[(false,(Sy.int IntKind.i64)),(false,aA.li)]
def HE (n:Int) (x:aK):Int:=if x.1<0∨n≤x.1∨x.2<0∨n≤x.2 then 9 else if x.1=x.2 then 2 else 0
def P9 (x:Int×List aK):Option T:=mY x.2 (T.v (Value.int .i64 (bK (HE x.1) x.2)))
noncomputable def AU:List T→Option (T):=gS PX P9
theorem AFZ {a0 a1}:AU [T.v (.int .i64 a0),T.sl false (List.map aA.enc a1)]=P9 (a0,a1):=bH (s:=PX) rfl (a0,a1) rfl
theorem AQF (h:∀ a0 a1 r,P9 (a0,a1)=some r→cR PX (a0,a1)→XS a0 a1 (fun y=>y=r)):aJ Tryz.prog 145 AU :=
 aX (E:=WR) (Hs:=AJL) AII a6 a7 (aM rfl) 8 ⟨_,_,Tryz.func145,rfl⟩ rfl fun x r h1 h2=>by
  obtain ⟨a0,a1⟩:=x
  rw[show Sh.cA PX (a0,a1)=[aD false (Sy.int IntKind.i64) a0,aD false aA.li a1] from rfl,AD9]
  exact h a0 a1 r h1 h2
theorem API:aJ Tryz.prog 145 AU:=AQF fun n l r h hb=>by
 obtain ⟨hl,rfl⟩:=gP h
 clear h
 unfold XS
 refine mR (r:=aA) (HE n) hl (fun X s y hy hok hbad=>?_) fun h0=>?_
 ·have bad:∀ {m:Int},m≠0→HE n y=m→T.v (.int .i64 m)=T.v (.int .i64 (bK (HE n) l)):=fun hn h=>by
   rw[hbad (by rw[h];exact hn),h]
  clear hbad hb
  repeat' first
   | refine mG (fun h=>?_) (fun h=>?_)
   | refine bZ (fun h=>?_) (fun h=>?_)
  all_goals first
   | (exfalso;omega)
   | (refine bad (by decide) ?_;clear bad hok;unfold HE;first|(rw[if_pos (by omega)];done)|(rw[if_neg (by omega),if_pos (by omega)];done))
   | (refine hok ?_;clear bad hok;unfold HE;rw[if_neg (by omega),if_neg (by omega)];done)
 ·show _=T.v (.int .i64 (bK (HE n) l))
  rw[h0]
noncomputable def M7:Env:=Env.of [(145,.pure AU)]
def ABT:FuncId→Hint:=fun f=>match f == 103 with|true=>⟨fun r=>match r == 8 with|true=>.inv [.arr 0 1 (.int .i64),.val 31 false (.int .i64)]|false=>match r == 14 with|true=>.inv [.arr 0 1 (.int .i64),.own 10 1 (.int .i64),.arr 2 1 .bool]|false=>match r == 16 with|true=>.inv [.val 52 false (.int .i64),.fix 0,.fix 2,.fix 3]|false=>match r == 22 with|true=>.inv [.arr 0 1 (.int .i64),.val 75 false (.int .i64)]|false=>.none,fun _ _=>none,fun _=>none⟩|false=>aU
theorem AD0:aF Tryz.prog M7:=aF.cons (x:=.pure AU) API (aF.nil _)
def NO (a0:Int) (a1:List aK) (R:T→Prop):Prop :=
 aB (decide (a0<0))
 (bO (T.v (.int .i64 9)).flat
 (R (T.cF [T.sl false [],T.v (.int .i64 9)])))
 (aB (decide (256<a0))
 (bO (T.v (.int .i64 9)).flat
 (R (T.cF [T.sl false [],T.v (.int .i64 9)])))
 (aH [(false,Sy.int IntKind.i64)]
 (AU [T.v (.int .i64 a0),T.sl false (List.map aA.enc a1)])
 fun (y0:Int) =>
 aB (!decide (y0=0))
 (bO (T.v (.int .i64 y0)).flat
 (R (T.cF [T.sl false [],T.v (.int .i64 y0)])))
 (bO
 ((decide (a0=a0)||decide (a0=0))&&decide (0≤a0)&&decide (a0*(↑8:Int)≤140737488355328) &&
 decide (a0≤140737488355328))
 (bA (Sy.int IntKind.i64)
 (List.replicate (Int.toNat a0) [T.v (.int .i64 0)]) fun (y1:List Int) =>
 bB (List Int×Int×PUnit)
 (fun (X2:List Int×Int×PUnit→Prop) (s3:List Int×Int×PUnit) =>
 aB (decide (s3.2.1<(↑(List.map aA.enc a1).length:Int)))
 (aP aA (List.map aA.enc a1) s3.2.1 fun (y4:aK) =>
 aP (Sy.int IntKind.i64) (List.map (Sy.int IntKind.i64).enc s3.1) y4.2
 fun (y5:Int) =>
 lG (Sy.int IntKind.i64) (List.map (Sy.int IntKind.i64).enc s3.1)
 (Int.toNat y4.2) 0 fun (y6:Int) =>
 aP (Sy.int IntKind.i64) (List.map (Sy.int IntKind.i64).enc s3.1)
 y4.2 fun (y7:Int) =>
 AA1 (List.map (Sy.int IntKind.i64).enc s3.1) (Int.toNat y4.2)
 fun (y8:List T) =>
 bO (decide (1≤y8.length))
 (bA (Sy.int IntKind.i64)
 ((List.map (Sy.int IntKind.i64).enc s3.1).set (Int.toNat y4.2)
 (cE y8 0
 [T.v (.int .i64 (IntKind.i64.wrap (y6+1)))]))
 fun (y9:List Int)=>X2 (y9,IntKind.i64.wrap (s3.2.1+1),())))
 (bO
 ((decide (0=a0)||true)&&decide (0≤a0)&&decide (a0*(↑8:Int)≤140737488355328) &&
 decide (a0≤140737488355328))
 (bO
 ((decide (a0=a0)||decide (a0=0))&&decide (0≤a0) &&
 decide (a0*(↑1:Int)≤140737488355328) &&
 decide (a0≤140737488355328))
 (bA (Sy.int IntKind.i64) (List.map (Sy.int IntKind.i64).enc s3.1)
 fun (y10:List Int) =>
 bA (Sy.int IntKind.i64) [] fun (y11:List Int) =>
 bA Sy.bool (List.replicate (Int.toNat a0) [T.v (.bool false)])
 fun (y12:List Bool) =>
 bB (List Int×List Int×List Bool×PUnit)
 (fun (X13:List Int×List Int×List Bool×PUnit→Prop)
 (s14:List Int×List Int×List Bool×PUnit) =>
 aB
 (decide
 ((↑(List.map (Sy.int IntKind.i64).enc s14.2.1).length:Int)<a0))
 (eJ
 (aS.arr false 1 (List.map (Sy.int IntKind.i64).enc s14.1))
 (aS.arr false 1 (List.map (Sy.int IntKind.i64).enc s14.1))
 (eJ (aS.arr false 1 (List.map Sy.bool.enc s14.2.2.1))
 (aS.arr false 1 (List.map Sy.bool.enc s14.2.2.1))
 (eJ
 (aS.arr false 1 (List.map (Sy.int IntKind.i64).enc s14.2.1))
 (aS.arr false 1 (List.map (Sy.int IntKind.i64).enc s14.2.1))
 (bB (Int×PUnit×PUnit×PUnit×PUnit)
 (fun (X15:Int×PUnit×PUnit×PUnit×PUnit→Prop)
 (s16:Int×PUnit×PUnit×PUnit×PUnit) =>
 aB (decide (s16.1<a0))
 (aP Sy.bool (List.map Sy.bool.enc s14.2.2.1)
 s16.1 fun (y17:Bool) =>
 lG Sy.bool (List.map Sy.bool.enc s14.2.2.1)
 (Int.toNat s16.1) 0 fun (y18:Bool) =>
 aB y18
 (eJ
 (aS.arr false 1
 (List.map (Sy.int IntKind.i64).enc s14.1))
 (aS.arr false 1
 (List.map (Sy.int IntKind.i64).enc s14.1))
 (eJ
 (aS.arr false 1
 (List.map Sy.bool.enc s14.2.2.1))
 (aS.arr false 1
 (List.map Sy.bool.enc s14.2.2.1))
 (eJ
 (aS.arr false 1
 (List.map (Sy.int IntKind.i64).enc s14.2.1))
 (aS.arr false 1
 (List.map (Sy.int IntKind.i64).enc s14.2.1))
 (X15 (IntKind.i64.wrap (s16.1+1),(),(),(),())))))
 (aP (Sy.int IntKind.i64)
 (List.map (Sy.int IntKind.i64).enc s14.1) s16.1
 fun (y19:Int) =>
 lG (Sy.int IntKind.i64)
 (List.map (Sy.int IntKind.i64).enc s14.1)
 (Int.toNat s16.1) 0 fun (y20:Int) =>
 aB (decide (0<y20))
 (eJ
 (aS.arr false 1
 (List.map (Sy.int IntKind.i64).enc s14.1))
 (aS.arr false 1
 (List.map (Sy.int IntKind.i64).enc s14.1))
 (eJ
 (aS.arr false 1
 (List.map Sy.bool.enc s14.2.2.1))
 (aS.arr false 1
 (List.map Sy.bool.enc s14.2.2.1))
 (eJ
 (aS.arr false 1
 (List.map (Sy.int IntKind.i64).enc
 s14.2.1))
 (aS.arr false 1
 (List.map (Sy.int IntKind.i64).enc
 s14.2.1))
 (X15
 (IntKind.i64.wrap (s16.1+1),(),(),(),
 ())))))
 (aP Sy.bool
 (List.map Sy.bool.enc s14.2.2.1) s16.1
 fun (y21:Bool) =>
 AA1 (List.map Sy.bool.enc s14.2.2.1)
 (Int.toNat s16.1) fun (y22:List T) =>
 bO (decide (1≤y22.length))
 (bO
 (decide
 (((List.map (Sy.int IntKind.i64).enc
 s14.2.1).length +
 1) *
 8 ≤
 140737488355328) &&
 decide
 ((List.map (Sy.int IntKind.i64).enc
 s14.2.1).length +
 1 ≤
 140737488355328))
 (bA (Sy.int IntKind.i64)
 (List.map (Sy.int IntKind.i64).enc s14.1)
 fun (y23:List Int) =>
 bB (List Int×Int×PUnit)
 (fun (X24:List Int×Int×PUnit→Prop)
 (s25:List Int×Int×PUnit) =>
 aB
 (decide
 (s25.2.1 <
 (↑(List.map aA.enc a1).length :
 Int)))
 (aP aA
 (List.map aA.enc a1) s25.2.1
 fun (y26:aK) =>
 aB (decide (y26.1=s16.1))
 (aP (Sy.int IntKind.i64)
 (List.map
 (Sy.int IntKind.i64).enc
 s25.1)
 y26.2 fun (y27:Int) =>
 lG
 (Sy.int IntKind.i64)
 (List.map
 (Sy.int IntKind.i64).enc
 s25.1)
 (Int.toNat y26.2) 0
 fun (y28:Int) =>
 aP
 (Sy.int IntKind.i64)
 (List.map
 (Sy.int IntKind.i64).enc
 s25.1)
 y26.2 fun (y29:Int) =>
 AA1
 (List.map
 (Sy.int
 IntKind.i64).enc
 s25.1)
 (Int.toNat y26.2)
 fun (y30:List T) =>
 bO
 (decide (1≤y30.length))
 (bA
 (Sy.int IntKind.i64)
 ((List.map
 (Sy.int
 IntKind.i64).enc
 s25.1).set
 (Int.toNat y26.2)
 (cE y30 0
 [T.v
 (Value.int
 IntKind.i64
 (IntKind.i64.wrap
 (y28-1)))]))
 fun (y31:List Int) =>
 X24
 (y31,
 IntKind.i64.wrap
 (s25.2.1+1),
 ())))
 (bA (Sy.int IntKind.i64)
 (List.map
 (Sy.int IntKind.i64).enc
 s25.1)
 fun (y32:List Int) =>
 X24
 (y32,
 IntKind.i64.wrap
 (s25.2.1+1),
 ())))
 (bA (Sy.int IntKind.i64)
 (List.map (Sy.int IntKind.i64).enc
 s25.1)
 fun (y33:List Int) =>
 bA (Sy.int IntKind.i64)
 (List.map
 (Sy.int IntKind.i64).enc
 s14.2.1 ++
 [[T.v
 (Value.int IntKind.i64
 s16.1)]])
 fun (y34:List Int) =>
 bA Sy.bool
 ((List.map Sy.bool.enc
 s14.2.2.1).set
 (Int.toNat s16.1)
 (cE y22 0
 [T.v (.bool true)]))
 fun (y35:List Bool) =>
 X13 (y33,y34,y35,())))
 (y23,0,()))))))
 (bO (T.v (.int .i64 20)).flat
 (R
 (T.cF
 [T.sl false [],
 T.v (.int .i64 20)]))))
 (0,(),(),(),())))))
 (bO
 ((List.map (Sy.int IntKind.i64).enc s14.2.1).all
 fun (r:List T)=>r.all T.flat)
 (bO (T.v (.int .i64 0)).flat
 (R
 (T.cF
 [T.sl false (List.map (Sy.int IntKind.i64).enc s14.2.1),
 T.v (.int .i64 0)])))))
 (y10,y11,y12,())))))
 (y1,0,())))))
theorem YA ( a0 a1 R):qZ aV Tryz.prog M7 ABT 8 103 [aD false (Sy.int IntKind.i64) a0,aD false aA.li a1] R=NO a0 a1 R:=by kernel_rfl
abbrev EU:Sh:=[(false,(Sy.int IntKind.i64)),(false,aA.li)]
abbrev tS:Sh:=[(false,(Sy.int IntKind.i64).li),(false,Sy.int IntKind.i64)]
def AKC (b:List Int) (e:aK):List Int:=b.set e.2.toNat (IntKind.i64.wrap (b.getD e.2.toNat 0+1))
def AKJ (v:Int) (b:List Int) (e:aK):List Int:=if e.1=v then b.set e.2.toNat (IntKind.i64.wrap (b.getD e.2.toNat 0-1)) else b
def C8 (b:List Int) (t:List Bool) (k:Nat):Bool:=!t.getD k false&&decide (b.getD k 0≤0)
def wG (l:List aK) (n:Nat):Nat→List Int→List Int→List Bool→List Int×Int
 | 0,_,o,_=>(o,0)
 | f+1,b,o,t=>match (List.range n).find? (C8 b t) with
  | none=>([],20)
  | some v=>wG l n f (l.foldl (AKJ v) b) (o++[(v:Int)]) (t.set v true)
def jF (n:Int) (l:List aK):List Int×Int :=
 if n<0∨256<n then ([],9) else if bK (HE n) l=0 then wG l n.toNat n.toNat (l.foldl AKC (List.replicate n.toNat 0)) [] (List.replicate n.toNat false) else ([],bK (HE n) l)
theorem TC {α:Type} {f:α→Int}:∀ {l:List α},bK f l=0→∀ a∈l,f a=0
 | [],_,_,h=>by cases h
 | b::l,h,a,ha=>by
  unfold bK at h
  split at h
  ·rename_i hb
   rcases List.mem_cons.1 ha with rfl|ha
   ·exact hb
   ·exact TC h a ha
  ·exact absurd h ‹_›
theorem tT {r:Sy} {l:List r.den} {i:Int} (h0:0≤i) (h:i.toNat<l.length) (K:r.den→Prop):aP r (List.map r.enc l) i K=K l[i.toNat]:=by
 have e:i=((i.toNat:Nat):Int):=by omega
 have:=aT h K
 rw[←e] at this
 exact this
theorem ADD {l:List Int} {k:Nat} (h:k<l.length) (y:Int):(List.map (Sy.int .i64).enc l).set k (cE ((Sy.int .i64).enc l[k]) 0 [T.v (.int .i64 y)])=List.map (Sy.int .i64).enc (l.set k y):=by
 rw[List.map_set];rfl
theorem ANI {l:List Bool} {k:Nat} (h:k<l.length) (y:Bool):(List.map Sy.bool.enc l).set k (cE (Sy.bool.enc l[k]) 0 [T.v (.bool y)])=List.map Sy.bool.enc (l.set k y):=by
 rw[List.map_set];rfl
theorem tO {α:Type} {l:List α} {k:Nat} (d:α) (h:k<l.length):l.getD k d=l[k]:=by simp[List.getD,h]
theorem AQ1 (n:Nat):List.replicate n [T.v (Value.int .i64 0)]=List.map (Sy.int .i64).enc (List.replicate n 0):=by rw[List.map_replicate];rfl
theorem AM7 (n:Nat):List.replicate n [T.v (.bool false)]=List.map Sy.bool.enc (List.replicate n false):=by rw[List.map_replicate];rfl
theorem AFC (l:List Int):((List.map (Sy.int .i64).enc l).all fun (r:List T)=>r.all T.flat)=true:=by
 rw[List.all_map,List.all_eq_true];intro a _;rfl
def JJ (x:Int×List aK):Option T:=mY x.2 (Sh.enc tS (jF x.1 x.2))
noncomputable def tN:List T→Option (T):=gS EU JJ
theorem ZY {a0 a1}:tN [T.v (.int .i64 a0),T.sl false (List.map aA.enc a1)]=JJ (a0,a1):=bH (s:=EU) rfl (a0,a1) rfl
theorem AMO (h:∀ a0 a1 r,JJ (a0,a1)=some r→cR EU (a0,a1)→NO a0 a1 (fun y=>y=r)):iB Tryz.prog 103 tN :=
 AP9 (E:=M7) (Hs:=ABT) AD0 a6 a7 (aM rfl) 8 ⟨_,_,Tryz.func103,rfl⟩ rfl fun x r h1 h2=>by
  obtain ⟨a0,a1⟩:=x
  rw[show Sh.cA EU (a0,a1)=[aD false (Sy.int IntKind.i64) a0,aD false aA.li a1] from rfl,YA]
  exact h a0 a1 r h1 h2
theorem AKZ:iB Tryz.prog 103 tN:=AMO fun n l r h hb=>by
 obtain ⟨hl,rfl⟩:=gP h
 clear h
 have hl:l.length≤140737488355328:=hl
 unfold NO
 refine bZ (fun h=>?_) fun hn0=>?_
 ·refine ⟨rfl,?_⟩
  show _=Sh.enc tS (jF n l)
  rw[jF,if_pos (Or.inl h)];rfl
 refine bZ (fun h=>?_) fun hn1=>?_
 ·refine ⟨rfl,?_⟩
  show _=Sh.enc tS (jF n l)
  rw[jF,if_pos (Or.inr h)];rfl
 refine aG (s:=[(false,.int .i64)]) (y:=bK (HE n) l) (by rw[AFZ];exact gQ _ hl) ?_
 refine mG (fun h0=>?_) (fun h0=>?_)
 ·refine ⟨rfl,?_⟩
  show _=Sh.enc tS (jF n l)
  rw[jF,if_neg (by omega),if_neg h0];rfl
 have hv:jF n l=wG l n.toNat n.toNat (l.foldl AKC (List.replicate n.toNat 0)) [] (List.replicate n.toNat false):=by
  rw[jF,if_neg (by omega),if_pos h0]
 have hend:∀ e∈l,0≤e.1∧e.1<n∧0≤e.2∧e.2<n:=fun e he=>by
  have:=TC h0 e he
  unfold HE at this
  split at this
  ·exact absurd this (by decide)
  ·omega
 clear h0 hb
 obtain ⟨N,rfl⟩:∃ N:Nat,n=(N:Int):=⟨n.toNat,by omega⟩
 rw[Int.toNat_natCast] at hv ⊢
 refine ⟨by simp;omega,?_⟩
 rw[AQ1,c9 rfl]
 refine aY l.length (fun k s=>s.2.1=(k:Int)∧s.1.length=N∧(l.drop k).foldl AKC s.1=l.foldl AKC (List.replicate N 0)) ⟨rfl,by simp,rfl⟩ ?_
 rintro X k ⟨b,i,u⟩ hk ⟨rfl,hbl,hbf⟩ hX
 dsimp only at hbl hbf ⊢
 refine bZ (fun hlt=>?_) fun hge=>?_
 ·rw[List.length_map] at hlt
  have hlt:k<l.length:=by omega
  rw[aT hlt]
  obtain ⟨-,-,e0,e1⟩:=hend _ (List.getElem_mem hlt)
  have hj:(l[k].2).toNat<b.length:=by omega
  rw[tT e0 hj,j6 hj,tT e0 hj,EP hj]
  refine ⟨rfl,?_⟩
  rw[ADD hj,c9 rfl]
  refine hX _ hlt ⟨?_,?_,?_⟩
  ·show IntKind.i64.wrap ((k:Int)+1)=_
   rw[aO]<;>omega
  ·show (List.set _ _ _).length=N
   rw[List.length_set];exact hbl
  ·rw[List.drop_eq_getElem_cons hlt,List.foldl_cons] at hbf
   rw[←hbf]
   congr 1
   unfold AKC
   rw[tO (l:=b) 0 hj]
 rw[List.length_map] at hge
 have hkl:k=l.length:=by omega
 subst hkl
 rw[List.drop_length,List.foldl_nil] at hbf
 rw[←hbf] at hv
 refine ⟨by simp;omega,⟨by simp;omega,?_⟩⟩
 rw[c9 rfl,S6,AM7,c9 rfl]
 clear hX hge hbf
 refine aY N (fun k s=>s.1.length=N∧s.2.1.length=k∧s.2.2.1.length=N∧wG l N (N-k) s.1 s.2.1 s.2.2.1=jF N l) ⟨hbl,rfl,by simp,by rw[hv];rfl⟩ ?_
 clear hv hbl b u
 rintro X k ⟨b,o,t,u⟩ hk ⟨hbl,hol,htl,hr⟩ hX
 dsimp only at hbl hol htl hr ⊢
 refine bZ (fun hlt=>?_) fun hge=>?_
 ·rw[List.length_map,hol] at hlt
  have hlt:k<N:=by omega
  rw[cD,cD,cD]
  obtain ⟨m,hm⟩:∃ m,N-k=m+1:=⟨N-k-1,by omega⟩
  rw[hm,wG] at hr
  refine aY N (fun j s=>s.1=(j:Int)∧(List.range N).find? (C8 b t)=(List.range' j (N-j)).find? (C8 b t)) ⟨rfl,by rw[List.range_eq_range'];rfl⟩ ?_
  rintro Y j ⟨i,u1,u2,u3,u4⟩ hj ⟨rfl,hf⟩ hY
  dsimp only at hf ⊢
  refine bZ (fun hjn=>?_) fun hjn=>?_
  ·have hjn:j<N:=by omega
   have hjb:j<b.length:=by omega
   have hjt:j<t.length:=by omega
   obtain ⟨q,hq⟩:∃ q,N-j=q+1:=⟨N-j-1,by omega⟩
   rw[hq,List.range'_succ,List.find?_cons] at hf
   have next:C8 b t j=false→Y (IntKind.i64.wrap ((j:Int)+1),(),(),(),()):=fun h=>by
    refine hY _ hjn ⟨?_,?_⟩
    ·show IntKind.i64.wrap ((j:Int)+1)=_
     rw[aO]<;>omega
    ·rw[hf,h]
     rw[show N-(j+1)=q by omega]
   simp only[Int.toNat_natCast]
   rw[aT hjt,j6 hjt]
   refine J5 (fun ht=>?_) fun ht=>?_
   ·rw[cD,cD,cD]
    exact next (by rw[C8,tO (l:=t) false hjt,ht];rfl)
   rw[aT hjb,j6 hjb]
   refine bZ (fun hp=>?_) fun hp=>?_
   ·rw[cD,cD,cD]
    exact next (by rw[C8,tO (l:=b) 0 hjb,decide_eq_false (by omega),Bool.and_false])
   have hfree:C8 b t j=true:=by rw[C8,tO (l:=b) 0 hjb,tO (l:=t) false hjt,ht,decide_eq_true (by omega)];rfl
   rw[hfree] at hf
   rw[hf] at hr
   dsimp only at hr
   clear next hY hf
   rw[aT hjt,EP hjt]
   refine ⟨rfl,⟨by simp;omega,?_⟩⟩
   rw[c9 rfl]
   refine aY l.length (fun k s=>s.2.1=(k:Int)∧s.1.length=N∧(l.drop k).foldl (AKJ j) s.1=l.foldl (AKJ j) b) ⟨rfl,hbl,rfl⟩ ?_
   rintro Z i ⟨c,i',u⟩ hi ⟨rfl,hcl,hcf⟩ hZ
   dsimp only at hcl hcf ⊢
   refine bZ (fun hlt=>?_) fun hge=>?_
   ·rw[List.length_map] at hlt
    have hlt:i<l.length:=by omega
    rw[aT hlt]
    obtain ⟨-,-,e0,e1⟩:=hend _ (List.getElem_mem hlt)
    have hjc:(l[i].2).toNat<c.length:=by omega
    rw[List.drop_eq_getElem_cons hlt,List.foldl_cons] at hcf
    have hw:IntKind.i64.wrap ((i:Int)+1)=((i+1:Nat):Int):=by rw[aO]<;>omega
    refine bZ (fun hv=>?_) fun hv=>?_
    ·rw[tT e0 hjc,j6 hjc,tT e0 hjc,EP hjc]
     refine ⟨rfl,?_⟩
     rw[ADD hjc,c9 rfl]
     refine hZ _ hlt ⟨hw,?_,?_⟩
     ·show (List.set _ _ _).length=N
      rw[List.length_set];exact hcl
     ·rw[←hcf]
      congr 1
      unfold AKJ
      rw[if_pos hv,tO (l:=c) 0 hjc]
    ·rw[c9 rfl]
     refine hZ _ hlt ⟨hw,hcl,?_⟩
     rw[←hcf]
     congr 1
     unfold AKJ
     rw[if_neg hv]
   ·rw[List.length_map] at hge
    have hil:i=l.length:=by omega
    subst hil
    rw[List.drop_length,List.foldl_nil] at hcf
    rw[c9 rfl,AG (r:=.int .i64) rfl o [T.v (.int .i64 (j:Int))] (j:Int) rfl,ANI hjt,c9 rfl]
    refine hX _ hlt ⟨hcl,by simp[hol],by simp[htl],?_⟩
    rw[show N-(k+1)=m by omega]
    show wG l N m c (o++[(j:Int)]) (t.set j true)=_
    rw[hcf];exact hr
  ·have hjn:j=N:=by omega
   subst hjn
   rw[Nat.sub_self] at hf
   rw[show (List.range' j 0)=[] from rfl,List.find?_nil] at hf
   rw[hf] at hr
   refine ⟨rfl,?_⟩
   show _=Sh.enc tS (jF (j:Int) l)
   rw[←hr];rfl
 ·rw[List.length_map,hol] at hge
  have hkN:k=N:=by omega
  subst hkN
  rw[Nat.sub_self,wG] at hr
  refine ⟨AFC o,rfl,?_⟩
  show _=Sh.enc tS (jF (k:Int) l)
  rw[←hr];rfl
end Go.Pv
namespace Go.Pv
open Go Go.Proofs
def rP (a0:List ByteArray):List T:=[T.sl false (List.map Sy.str.enc a0)]
noncomputable def WZ:Env:=Env.of []
def AJT:FuncId→Hint:=fun _=>aU
theorem AIQ:aF Tryz.prog WZ:=aF.nil _
def YM (a0:List ByteArray) (R:T→Prop):Prop :=
 R (T.fn 144 [] [T.ref [T.sl false (List.map Sy.str.enc a0)]])
theorem AEH ( a0 R):bJ aV Tryz.prog WZ AJT 8 102 (rP a0) R=YM a0 R:=by kernel_rfl
def QE (l:List ByteArray):Option T:=some (T.fn 144 [] [T.ref [T.sl false (List.map Sy.str.enc l)]])
theorem WM (x y:List ByteArray) (h:rP x=rP y):x=y:=by
 unfold rP at h
 have h:=(T.sl.injEq .. ▸ (List.cons.inj h).1)
 exact map_inj (Sy.cS .str) h.2
noncomputable def vZ:List T→Option (T):=gA (fun (x:List ByteArray)=>rP x) QE
theorem LS (a0:List ByteArray):vZ (rP a0)=QE a0:=j1 (A:=(fun (x:List ByteArray)=>rP x)) WM a0
theorem AQN (h:∀ (a0:List ByteArray) (r:T),QE a0=some r→(∀ t∈rP a0,Bd t)→YM a0 (fun y=>y=r)):aJ Tryz.prog 102 vZ :=
 eC (E:=WZ) (Hs:=AJT) AIQ a6 a7 (aM rfl) 8 ⟨_,_,Tryz.func102,rfl⟩ fun x r h1 h2=>by
  rw[AEH]
  exact h x r h1 h2
theorem APN:aJ Tryz.prog 102 vZ:=AQN fun l r h hb=>by
 cases h
 unfold YM
 rfl
end Go.Pv
namespace Go.Pv
open Go Go.Proofs
def kY (a0:aC) (m1:List (ByteArray×Int)) (m2:List (ByteArray×Int)) (m3:List (ByteArray×Int)) (m4:List (ByteArray×Int)) (a5:aL):List T:=[JU a0 m1 m2 m3 m4,T.agg (aI.enc a5)]
noncomputable def FE:Env:=Env.of [(59,.pure fV),(28,.pure iP)]
def RV:FuncId→Hint:=fun f=>match f == 49 with|true=>⟨fun r=>match r == 2 with|true=>.inv [.val 23 false (.int .i64)]|false=>match r == 13 with|true=>.inv [.val 10 false (.int .i64),.val 54 false (.int .i64)]|false=>.none,fun _ _=>none,fun _=>none⟩|false=>aU
theorem W7:aF Tryz.prog FE:=aF.cons (x:=.pure fV) HQ (aF.cons (x:=.pure iP) LJ (aF.nil _))
def F4 (a0:aC) (m1:List (ByteArray×Int)) (m2:List (ByteArray×Int)) (m3:List (ByteArray×Int)) (m4:List (ByteArray×Int)) (a5:aL) (R:T→Prop):Prop :=
 bB (Int×PUnit)
 (fun (X0:Int×PUnit→Prop) (s1:Int×PUnit) =>
 aB (decide (s1.1<(↑(List.map aQ.enc a0.2.2.1).length:Int)))
 (aP aQ (List.map aQ.enc a0.2.2.1) s1.1 fun (y2:bE) =>
 aH [(false,Sy.int IntKind.i64)]
 (fV [aD true aQ y2,aD true aI a5]) fun (y3:Int) =>
 aB (!decide (y3=0)) (R (T.v (.int .i64 y3)))
 (dT TypeDesc.string (Value.string y2.2.2.2.1) (nE (a8 m1)) false
 (Sy.int IntKind.i64) (R (T.v (.int .i64 8))) fun (i4:Nat) (y5:Int) =>
 X0 (IntKind.i64.wrap (s1.1+1),())))
 (bB (Int×Int×PUnit)
 (fun (X6:Int×Int×PUnit→Prop) (s7:Int×Int×PUnit) =>
 aB (decide (s7.2.1<(↑(List.map aQ.enc a0.2.2.1).length:Int)))
 (aP aQ (List.map aQ.enc a0.2.2.1) s7.2.1 fun (y8:bE) =>
 aH [(false,Sy.int IntKind.i64),(false,Sy.int IntKind.i64)]
 (iP [aD true aQ y8,aD true aI a5])
 fun (y9:aK) =>
 aB (decide (1099511627776<IntKind.i64.wrap (s7.1+y9.1)))
 (R (T.v (.int .i64 13)))
 (X6 (IntKind.i64.wrap (s7.1+y9.1),IntKind.i64.wrap (s7.2.1+1),())))
 (R (T.v (.int .i64 0))))
 (0,0,())))
 (0,())
theorem Q4 ( a0 m1 m2 m3 m4 a5 R):bJ aV Tryz.prog FE RV 8 49 (kY a0 m1 m2 m3 m4 a5) R=F4 a0 m1 m2 m3 m4 a5 R:=by kernel_rfl
theorem MZ (x y:aC×MP×MP×MP×MP×aL) (h:kY x.1 x.2.1 x.2.2.1 x.2.2.2.1 x.2.2.2.2.1 x.2.2.2.2.2=kY y.1 y.2.1 y.2.2.1 y.2.2.2.1 y.2.2.2.2.1 y.2.2.2.2.2):x=y:=by
 obtain ⟨h1,h2⟩:=List.cons.inj h
 have:=nD (x:=(x.1,x.2.1,x.2.2.1,x.2.2.2.1,x.2.2.2.2.1)) (y:=(y.1,y.2.1,y.2.2.1,y.2.2.2.1,y.2.2.2.2.1)) h1
 have h2:=Sy.cS aI _ _ (T.agg.inj (List.cons.inj h2).1)
 simp only[Prod.mk.injEq] at this
 obtain ⟨e1,e2,e3,e4,e5⟩:=this
 exact Prod.ext e1 (Prod.ext e2 (Prod.ext e3 (Prod.ext e4 (Prod.ext e5 h2))))
def gY (d:aC) (m:aL) (p:bE):Int:=if iE p m=0 then (if (cC d (jI p)).isNone=true then 8 else 0) else iE p m
def CZ (m:aL):List bE→Int→Int
 | [],_=>0
 | p::l,s=>if 1099511627776<IntKind.i64.wrap (s+(gM p m).1) then 13 else CZ m l (IntKind.i64.wrap (s+(gM p m).1))
def gR (d:aC) (m:aL):Int:=if bK (gY d m) d.2.2.1=0 then CZ m d.2.2.1 0 else bK (gY d m) d.2.2.1
def pP (x:aC×MP×MP×MP×MP×aL):Option T:=match L6 x.2.2.2.2.2 with
 | true=>rG (x.1,x.2.1,x.2.2.1,x.2.2.2.1,x.2.2.2.2.1) (T.v (Value.int .i64 (gR x.1 x.2.2.2.2.2)))
 | false=>none
noncomputable def mU:List T→Option (T):=gA (fun (x:aC×(List (ByteArray×Int))×(List (ByteArray×Int))×(List (ByteArray×Int))×(List (ByteArray×Int))×aL)=>kY x.1 x.2.1 x.2.2.1 x.2.2.2.1 x.2.2.2.2.1 x.2.2.2.2.2) pP
theorem TW (a0:aC) (m1:List (ByteArray×Int)) (m2:List (ByteArray×Int)) (m3:List (ByteArray×Int)) (m4:List (ByteArray×Int)) (a5:aL):mU (kY a0 m1 m2 m3 m4 a5)=pP (a0,m1,m2,m3,m4,a5):=j1 (A:=(fun (x:aC×(List (ByteArray×Int))×(List (ByteArray×Int))×(List (ByteArray×Int))×(List (ByteArray×Int))×aL)=>kY x.1 x.2.1 x.2.2.1 x.2.2.2.1 x.2.2.2.2.1 x.2.2.2.2.2)) MZ (a0,m1,m2,m3,m4,a5)
theorem AGV (h:∀ (a0:aC) (m1:List (ByteArray×Int)) (m2:List (ByteArray×Int)) (m3:List (ByteArray×Int)) (m4:List (ByteArray×Int)) (a5:aL) (r:T),pP (a0,m1,m2,m3,m4,a5)=some r→(∀ t∈kY a0 m1 m2 m3 m4 a5,Bd t)→F4 a0 m1 m2 m3 m4 a5 (fun y=>y=r)):aJ Tryz.prog 49 mU :=
 eC (E:=FE) (Hs:=RV) W7 a6 a7 (aM rfl) 8 ⟨_,_,Tryz.func49,rfl⟩ fun x r h1 h2=>by
  rw[Q4]
  exact h x.1 x.2.1 x.2.2.1 x.2.2.2.1 x.2.2.2.2.1 x.2.2.2.2.2 r h1 h2
theorem AFJ:aJ Tryz.prog 49 mU:=AGV fun d m1 m2 m3 m4 m r h hb=>by
 unfold pP at h
 split at h
 case h_2=>cases h
 rename_i hok
 replace hok:L6 m=true:=hok
 obtain ⟨hx,hs,rfl⟩:=lE h
 simp only[Prod.mk.injEq,true_and] at hx
 obtain ⟨rfl,rfl,rfl,rfl⟩:=hx
 replace hs:kD d:=hs
 clear h hb
 have is:∀ {n:Int},gR d m=n→T.v (.int .i64 n)=T.v (.int .i64 (gR d m)):=fun h=>by rw[h]
 unfold F4
 refine mR (r:=aQ) (gY d m) hs.p (fun X s y hy hgo hbad=>?_) fun h0=>?_
 ·have bad:∀ {n:Int},n≠0→gY d m y=n→T.v (.int .i64 n)=T.v (.int .i64 (gR d m)):=fun hn h=>by
   have h1:=hbad (by rw[h];exact hn)
   refine is ?_
   unfold gR
   rw[if_neg (by rw[h1,h];exact hn),h1,h]
  refine aG (s:=[(false,.int .i64)]) (xO hok y) ?_
  refine mG (fun h=>bad h (by unfold gY;rw[if_neg h])) fun h=>?_
  refine ixK (fun hn=>bad (by decide) ?_) fun i j hj hn=>hgo ?_
  ·have hn:cC d (jI y)=none:=hn
   unfold gY;rw[if_pos h,hn];rfl
  ·have hn:cC d (jI y)=some d.2.1[j]:=hn
   unfold gY;rw[if_pos h,hn];rfl
 ·have w:gR d m=CZ m d.2.2.1 0:=by unfold gR;rw[if_pos h0]
  clear h0
  have hl:=hs.p
  generalize d.2.2.1=l at w hl ⊢
  refine aY l.length (fun k s=>s.2.1=(k:Int)∧CZ m (l.drop k) s.1=gR d m) ⟨rfl,by rw[w];rfl⟩ ?_
  rintro X k ⟨s,i,u⟩ hk ⟨rfl,he⟩ hX
  dsimp only at he ⊢
  refine bZ (fun hlt=>?_) fun hge=>?_
  ·rw[List.length_map] at hlt
   have hlt:k<l.length:=by omega
   rw[aT (r:=aQ) hlt]
   rw[List.drop_eq_getElem_cons hlt,CZ] at he
   refine aG (s:=[(false,.int .i64),(false,.int .i64)]) (DC hok _) ?_
   refine bZ (fun h=>is (by rw[←he,if_pos h])) fun h=>?_
   rw[if_neg h] at he
   refine hX _ hlt ⟨?_,he⟩
   show IntKind.i64.wrap ((k:Int)+1)=_
   rw[aO]<;>omega
  ·rw[List.length_map] at hge
   have:k=l.length:=by omega
   subst this
   rw[List.drop_length,CZ] at he
   exact is he.symm
end Go.Pv
namespace Go.Pv
open Go Go.Proofs
def kX (a0:aC) (m1:List (ByteArray×Int)) (m2:List (ByteArray×Int)) (m3:List (ByteArray×Int)) (m4:List (ByteArray×Int)):List T:=[JU a0 m1 m2 m3 m4]
noncomputable def FD:Env:=Env.of [(99,.pure cQ),(94,.pure o9),(102,.pure vZ),(101,.pure dR),(100,.pure fP),(103,.new tN)]
def RU:FuncId→Hint:=fun f=>match f == 51 with|true=>⟨fun r=>match r == 4 with|true=>.inv [.own 3 2 (.pr (.int .i64) (.int .i64)),.map 0 .str false .bool,.val 29 false (.int .i64)]|false=>match r == 15 with|true=>.inv [.val 76 false (.int .i64),.map 0 .str false .bool]|false=>match r == 31 with|true=>.inv [.own 3 2 (.pr (.int .i64) (.int .i64)),.val 147 false (.int .i64)]|false=>.none,fun _ _=>none,fun _=>none⟩|false=>aU
theorem W6:aF Tryz.prog FD:=aF.cons (x:=.pure cQ) ED (aF.cons (x:=.pure o9) ARP (aF.cons (x:=.pure vZ) APN (aF.cons (x:=.pure dR) TG (aF.cons (x:=.pure fP) LN (aF.cons (x:=.new tN) AKZ (aF.nil _))))))
def F3 (a0:aC) (m1:List (ByteArray×Int)) (m2:List (ByteArray×Int)) (m3:List (ByteArray×Int)) (m4:List (ByteArray×Int)) (R:T→Prop):Prop :=
 b8 Sy.str false Sy.bool [] fun (y0:List (ByteArray×Bool)) =>
 bB (List aK×List (ByteArray×Bool)×Int×PUnit)
 (fun (X1:List aK×List (ByteArray×Bool)×Int×PUnit→Prop)
 (s2:List aK×List (ByteArray×Bool)×Int×PUnit) =>
 aB (decide (s2.2.2.1<(↑(List.map aW.enc a0.2.2.2.2.1).length:Int)))
 (aP aW (List.map aW.enc a0.2.2.2.2.1) s2.2.2.1
 fun (y3:eP) =>
 aH [(false,Sy.bool)] (cQ [T.v (.string y3.1)]) fun (y4:Bool) =>
 aB (!y4) (R (T.v (.int .i64 6)))
 (aH [(false,Sy.bool)]
 (dR
 [T.ref
 [T.ref
 [T.v (.string a0.1),T.sl false (List.map bM.enc a0.2.1),
 T.sl false (List.map aQ.enc a0.2.2.1),
 T.sl false (List.map bT.enc a0.2.2.2.1),
 T.sl false (List.map aW.enc a0.2.2.2.2.1),
 T.sl false (List.map cO.enc a0.2.2.2.2.2)],
 T.mp (a8 m1),T.mp (a8 m2),T.mp (a8 m3),
 T.mp (a8 m4)],
 T.v (.string y3.2.1)])
 fun (y5:Bool) =>
 aB (!y5) (R (T.v (.int .i64 8)))
 (aB (decide (y3.2.2.2.1<1)) (R (T.v (.int .i64 9)))
 (aB (decide (10000<y3.2.2.2.1)) (R (T.v (.int .i64 9)))
 (aH [(false,Sy.any)]
 (vZ [T.sl false (List.map Sy.str.enc y3.2.2.1)])
 fun (y6:T) =>
 aH [(false,Sy.bool)]
 (o9
 [T.v
 (Value.int IntKind.i64
 (↑(List.map Sy.str.enc y3.2.2.1).length:Int)),
 y6])
 fun (y7:Bool) =>
 aB (!y7) (R (T.v (.int .i64 11)))
 (aH [(false,Sy.any)]
 (vZ [T.sl false (List.map Sy.str.enc y3.2.2.2.2)])
 fun (y8:T) =>
 aH [(false,Sy.bool)]
 (o9
 [T.v
 (Value.int IntKind.i64
 (↑(List.map Sy.str.enc y3.2.2.2.2).length:Int)),
 y8])
 fun (y9:Bool) =>
 aB (!y9) (R (T.v (.int .i64 11)))
 (b8 Sy.str false Sy.bool
 (List.map (bG Sy.str false Sy.bool) s2.2.1)
 fun (y10:List (ByteArray×Bool)) =>
 bB (Int×List (ByteArray×Bool)×PUnit)
 (fun (X11:Int×List (ByteArray×Bool)×PUnit→Prop)
 (s12:Int×List (ByteArray×Bool)×PUnit) =>
 aB
 (decide
 (s12.1<(↑(List.map Sy.str.enc y3.2.2.1).length:Int)))
 (aP Sy.str (List.map Sy.str.enc y3.2.2.1) s12.1
 fun (y13:ByteArray) =>
 dT TypeDesc.string (Value.string y13)
 (nE (a8 m2)) false (Sy.int IntKind.i64)
 (R (T.v (.int .i64 8)))
 fun (i14:Nat) (y15:Int) =>
 aP aQ (List.map aQ.enc a0.2.2.1) y15
 fun (y16:bE) =>
 aB (!decide (y16.2.2.1=4))
 (aB (!decide (y16.2.2.1=3))
 (R (T.v (.int .i64 10)))
 (aP aQ (List.map aQ.enc a0.2.2.1)
 y15 fun (y17:bE) =>
 aH [(false,Sy.str.li),(false,Sy.bool)]
 (fP
 [T.ref
 [T.ref
 [T.v (.string a0.1),
 T.sl false
 (List.map bM.enc a0.2.1),
 T.sl false
 (List.map aQ.enc a0.2.2.1),
 T.sl false
 (List.map bT.enc a0.2.2.2.1),
 T.sl false
 (List.map aW.enc
 a0.2.2.2.2.1),
 T.sl false
 (List.map cO.enc
 a0.2.2.2.2.2)],
 T.mp (a8 m1),T.mp (a8 m2),
 T.mp (a8 m3),T.mp (a8 m4)],
 T.v (.string y17.2.2.2.1)])
 fun (y18:List ByteArray×Bool) =>
 aB
 (decide
 ((↑(List.map Sy.str.enc y18.1).length:Int)=0))
 (R (T.v (.int .i64 2)))
 (aP Sy.str (List.map Sy.str.enc y18.1)
 (IntKind.i64.wrap
 ((↑(List.map Sy.str.enc y18.1).length:Int)-1))
 fun (y19:ByteArray) =>
 aB (!decide (y19=y3.2.1))
 (R (T.v (.int .i64 2)))
 (dT TypeDesc.string (Value.string y13)
 (List.map (bG Sy.str false Sy.bool)
 s12.2.1)
 false Sy.bool
 (iU (Option (Nat×D))
 (findD TypeDesc.string (Value.string y13)
 (List.map
 (bG Sy.str false Sy.bool)
 s12.2.1)
 0)
 fun (y24:Option (Nat×D)) =>
 b8 Sy.str false Sy.bool
 (cK
 (List.map
 (bG Sy.str false Sy.bool)
 s12.2.1)
 y24 (Value.string y13)
 (D.p (T.v (.bool true))))
 fun (y25:List (ByteArray×Bool)) =>
 X11 (IntKind.i64.wrap (s12.1+1),y25,()))
 fun (i20:Nat) (y21:Bool) =>
 aB y21
 (R (T.v (.int .i64 7)))
 (iU (Option (Nat×D))
 (findD TypeDesc.string
 (Value.string y13)
 (List.map
 (bG Sy.str false Sy.bool)
 s12.2.1)
 0)
 fun (y22:Option (Nat×D)) =>
 b8 Sy.str false Sy.bool
 (cK
 (List.map
 (bG Sy.str false Sy.bool)
 s12.2.1)
 y22 (Value.string y13)
 (D.p (T.v (.bool true))))
 fun (y23:List (ByteArray×Bool)) =>
 X11
 (IntKind.i64.wrap (s12.1+1),y23,
 ()))))))
 (aP aQ (List.map aQ.enc a0.2.2.1) y15
 fun (y26:bE) =>
 aH [(false,Sy.str.li),(false,Sy.bool)]
 (fP
 [T.ref
 [T.ref
 [T.v (.string a0.1),
 T.sl false
 (List.map bM.enc a0.2.1),
 T.sl false
 (List.map aQ.enc a0.2.2.1),
 T.sl false
 (List.map bT.enc a0.2.2.2.1),
 T.sl false
 (List.map aW.enc
 a0.2.2.2.2.1),
 T.sl false
 (List.map cO.enc a0.2.2.2.2.2)],
 T.mp (a8 m1),T.mp (a8 m2),
 T.mp (a8 m3),T.mp (a8 m4)],
 T.v (.string y26.2.2.2.1)])
 fun (y27:List ByteArray×Bool) =>
 aB
 (decide
 ((↑(List.map Sy.str.enc y27.1).length:Int)=0))
 (R (T.v (.int .i64 2)))
 (aP Sy.str (List.map Sy.str.enc y27.1)
 (IntKind.i64.wrap
 ((↑(List.map Sy.str.enc y27.1).length:Int)-1))
 fun (y28:ByteArray) =>
 aB (!decide (y28=y3.2.1))
 (R (T.v (.int .i64 2)))
 (dT TypeDesc.string (Value.string y13)
 (List.map (bG Sy.str false Sy.bool)
 s12.2.1)
 false Sy.bool
 (iU (Option (Nat×D))
 (findD TypeDesc.string (Value.string y13)
 (List.map
 (bG Sy.str false Sy.bool)
 s12.2.1)
 0)
 fun (y33:Option (Nat×D)) =>
 b8 Sy.str false Sy.bool
 (cK
 (List.map
 (bG Sy.str false Sy.bool)
 s12.2.1)
 y33 (Value.string y13)
 (D.p (T.v (.bool true))))
 fun (y34:List (ByteArray×Bool)) =>
 X11 (IntKind.i64.wrap (s12.1+1),y34,()))
 fun (i29:Nat) (y30:Bool) =>
 aB y30
 (R (T.v (.int .i64 7)))
 (iU (Option (Nat×D))
 (findD TypeDesc.string (Value.string y13)
 (List.map
 (bG Sy.str false Sy.bool)
 s12.2.1)
 0)
 fun (y31:Option (Nat×D)) =>
 b8 Sy.str false Sy.bool
 (cK
 (List.map
 (bG Sy.str false Sy.bool)
 s12.2.1)
 y31 (Value.string y13)
 (D.p (T.v (.bool true))))
 fun (y32:List (ByteArray×Bool)) =>
 X11
 (IntKind.i64.wrap (s12.1+1),y32,()))))))
 (bA aA (List.map aA.enc s2.1)
 fun (y35:List aK) =>
 bB (List aK×Int×PUnit)
 (fun (X36:List aK×Int×PUnit→Prop)
 (s37:List aK×Int×PUnit) =>
 aB
 (decide
 (s37.2.1 <
 (↑(List.map Sy.str.enc y3.2.2.2.2).length:Int)))
 (aP Sy.str
 (List.map Sy.str.enc y3.2.2.2.2) s37.2.1
 fun (y38:ByteArray) =>
 aB (decide (y38=y3.1))
 (R (T.v (.int .i64 2)))
 (dT TypeDesc.string (Value.string y38)
 (nE (a8 m4)) false (Sy.int IntKind.i64)
 (R (T.v (.int .i64 8)))
 fun (i39:Nat) (y40:Int) =>
 bO
 (decide
 (((List.map aA.enc s37.1).length+1)*16 ≤
 140737488355328) &&
 decide
 ((List.map aA.enc s37.1).length+1 ≤
 140737488355328))
 (bA aA
 (List.map aA.enc s37.1 ++
 [[T.v (.int .i64 y40),
 T.v
 (Value.int IntKind.i64 s2.2.2.1)]])
 fun (y41:List aK) =>
 X36 (y41,IntKind.i64.wrap (s37.2.1+1),()))))
 (bA aA (List.map aA.enc s37.1)
 fun (y42:List aK) =>
 b8 Sy.str false Sy.bool
 (List.map (bG Sy.str false Sy.bool)
 s12.2.1)
 fun (y43:List (ByteArray×Bool)) =>
 X1 (y42,y43,IntKind.i64.wrap (s2.2.2.1+1),())))
 (y35,0,())))
 (0,y10,()))))))))
 (aH [(false,(Sy.int IntKind.i64).li),(false,Sy.int IntKind.i64)]
 (tN
 [T.v
 (Value.int IntKind.i64 (↑(List.map aW.enc a0.2.2.2.2.1).length:Int)),
 T.sl false (List.map aA.enc s2.1)])
 fun (y44:List Int×Int) =>
 aB (!decide (y44.2=0)) (R (T.v (.int .i64 20)))
 (R (T.v (.int .i64 0)))))
 ([],y0,0,())
theorem Q3 ( a0 m1 m2 m3 m4 R):bJ aV Tryz.prog FD RU 8 51 (kX a0 m1 m2 m3 m4) R=F3 a0 m1 m2 m3 m4 R:=by kernel_rfl
theorem MY (x y:aC×MP×MP×MP×MP) (h:kX x.1 x.2.1 x.2.2.1 x.2.2.2.1 x.2.2.2.2=kX y.1 y.2.1 y.2.2.1 y.2.2.2.1 y.2.2.2.2):x=y:=nD (List.cons.inj h).1
abbrev gL (k:eP):List ByteArray:=k.2.2.1
abbrev eK (k:eP):List ByteArray:=k.2.2.2.2
abbrev O8 (k:eP):Int:=k.2.2.2.1
def sA (d:aC) (k:eP):Int:=if oJ k.1=false then 6 else if sC d k.2.1=false then 8 else if O8 k<1∨10000<O8 k then 9 else if oH (gL k)=false∨oH (eK k)=false then 11 else 0
def instE (d:aC) (b:ByteArray):List ByteArray→List ByteArray→Int×List ByteArray
 | [],S=>(0,S)
 | id::l,S=>match partOf d id with
  | none=>(8,S)
  | some p=>if ¬ bS p=4∧¬ bS p=3 then (10,S) else if (up d (jI p)).1.getLast? = some b then (if nI S id=true then (7,S) else instE d b l (id::S)) else (2,S)
def N4 (d:aC) (k:ByteArray) (i:Int):List ByteArray→List aK→Int×List aK
 | [],E=>(0,E)
 | id::l,E=>if id=k then (2,E) else match fQ (fG (ids d.2.2.2.2.1)) id with
  | none=>(8,E)
  | some j=>N4 d k i l (E++[(j,i)])
def l9 (d:aC):List eP→Int→List aK→List ByteArray→Int×List aK
 | [],_,E,_=>(0,E)
 | k::l,i,E,S=>if ¬ sA d k=0 then (sA d k,E) else if ¬ (instE d k.2.1 (gL k) S).1=0 then ((instE d k.2.1 (gL k) S).1,E) else if ¬ (N4 d k.1 i (eK k) E).1=0 then ((N4 d k.1 i (eK k) E).1,E) else
  l9 d l (i+1) (N4 d k.1 i (eK k) E).2 (instE d k.2.1 (gL k) S).2
def fJ (d:aC):Int:=if (l9 d d.2.2.2.2.1 0 [] []).1=0 then (if (jF d.2.2.2.2.1.length (l9 d d.2.2.2.2.1 0 [] []).2).2=0 then 0 else 20) else (l9 d d.2.2.2.2.1 0 [] []).1
def tR (d:aC):Bool:=d.2.2.2.2.1.all (fun k=>decide ((gL k).length≤140737488355328)&&decide ((eK k).length≤140737488355328))&&decide (d.2.2.2.2.1.length≤64)
theorem ANQ (a b:ByteArray):fR a b=true↔a.data.toList<b.data.toList:=by
 unfold fR;rw[bytesLess_eq,decide_eq_true_iff]
theorem AOW {a b:ByteArray} (h:(!(fR b a||decide (b=a)))=true):a.data.toList<b.data.toList:=by
 simp only[Bool.not_eq_true',Bool.or_eq_false_iff,decide_eq_false_iff_not] at h
 refine Classical.byContradiction fun hc=>h.2 ?_
 have h1:¬ b.data.toList<a.data.toList:=fun h'=>by rw[(ANQ b a).2 h'] at h;exact absurd h.1 (by decide)
 have e:b.data.toList=a.data.toList:=List.le_antisymm (List.not_lt.1 hc) (List.not_lt.1 h1)
 exact ByteArray.ext (Array.ext' e)
theorem SR:∀ {l:List ByteArray},oH l=true→l.Pairwise fun a b=>a.data.toList<b.data.toList
 | [],_=>List.Pairwise.nil
 | [a],_=>by simp
 | a::b::l,h=>by
  rw[oH,Bool.and_eq_true] at h
  have h1:=AOW h.1
  have ih:=SR h.2
  refine List.pairwise_cons.2 ⟨fun x hx=>?_,ih⟩
  rcases List.mem_cons.1 hx with rfl|hx
  ·exact h1
  ·exact List.lt_trans h1 ((List.pairwise_cons.1 ih).1 x hx)
theorem tD {l:List ByteArray} (h:oH l=true):l.Nodup:=by
 refine (SR h).imp fun {a b} hab e=>?_
 subst e
 exact List.lt_irrefl _ hab
theorem ACR:∀ {l m:List ByteArray},l.Nodup→(∀ x∈l,x∈m)→l.length≤m.length
 | [],_,_,_=>Nat.zero_le _
 | a::l,m,h,hm=>by
  obtain ⟨h1,h2⟩:=List.pairwise_cons.1 h
  have h3:l.length≤(m.filter fun x=>decide (x≠a)).length:=ACR h2 fun x hx=>List.mem_filter.2 ⟨hm x (List.mem_cons_of_mem _ hx),decide_eq_true fun e=>h1 x hx e.symm⟩
  have h4:(m.filter fun x=>decide (x≠a)).length<m.length:=List.length_filter_lt_length_iff_exists.2 ⟨a,hm a List.mem_cons_self,by simp⟩
  rw[List.length_cons];omega
def pO (x:aC×MP×MP×MP×MP):Option T:=match tR x.1 with
 | true=>rG x (T.v (Value.int .i64 (fJ x.1)))
 | false=>none
noncomputable def mT:List T→Option (T):=gA (fun (x:aC×(List (ByteArray×Int))×(List (ByteArray×Int))×(List (ByteArray×Int))×List (ByteArray×Int))=>kX x.1 x.2.1 x.2.2.1 x.2.2.2.1 x.2.2.2.2) pO
theorem TV (a0:aC) (m1:List (ByteArray×Int)) (m2:List (ByteArray×Int)) (m3:List (ByteArray×Int)) (m4:List (ByteArray×Int)):mT (kX a0 m1 m2 m3 m4)=pO (a0,m1,m2,m3,m4):=j1 (A:=(fun (x:aC×(List (ByteArray×Int))×(List (ByteArray×Int))×(List (ByteArray×Int))×List (ByteArray×Int))=>kX x.1 x.2.1 x.2.2.1 x.2.2.2.1 x.2.2.2.2)) MY (a0,m1,m2,m3,m4)
theorem AGU (h:∀ (a0:aC) (m1:List (ByteArray×Int)) (m2:List (ByteArray×Int)) (m3:List (ByteArray×Int)) (m4:List (ByteArray×Int)) (r:T),pO (a0,m1,m2,m3,m4)=some r→(∀ t∈kX a0 m1 m2 m3 m4,Bd t)→F3 a0 m1 m2 m3 m4 (fun y=>y=r)):aJ Tryz.prog 51 mT :=
 eC (E:=FD) (Hs:=RU) W6 a6 a7 (aM rfl) 8 ⟨_,_,Tryz.func51,rfl⟩ fun x r h1 h2=>by
  rw[Q3]
  exact h x.1 x.2.1 x.2.2.1 x.2.2.2.1 x.2.2.2.2 r h1 h2
theorem AVV {α:Type} {id:ByteArray} {l:List (ByteArray×α)} {A:Prop} {B:Nat→Int→Prop} (hA:fQ (fG (ids l)) id=none→l.find? (fun s=>decide (s.1=id))=none→A) (hB:∀ i k (h:k<l.length),fQ (fG (ids l)) id=some (k:Int)→l.find? (fun s=>decide (s.1=id))=some l[k]→B i (k:Int)) :
  dT TypeDesc.string (Value.string id) (nE (a8 (fG (ids l)))) false (Sy.int IntKind.i64) A B:=by
 rw[U7]
 refine tH (r:=.int .i64) (fun h=>?_) fun i v h=>?_
 ·rcases xQ id l with ⟨h1,h2⟩|⟨k,hk,h1,_⟩
  ·exact hA h1 h2
  ·rw[h] at h1;cases h1
 ·rcases xQ id l with ⟨h1,_⟩|⟨k,hk,h1,h2⟩
  ·rw[h] at h1;cases h1
  ·rw[h] at h1;cases h1;exact hB i k hk h h2
theorem AVY {l:List ByteArray} {b:ByteArray} {A:Prop} (hl:l.length≤140737488355328) (hyes:l.getLast? = some b→A) (hno:¬ l.getLast? = some b→A) {R2:Prop} (hR2:¬ l.getLast? = some b→R2) {K:Prop} (hK:l.getLast? = some b→K) :
  aB (decide (((List.map Sy.str.enc l).length:Int)=0)) R2 (aP Sy.str (List.map Sy.str.enc l) (IntKind.i64.wrap (((List.map Sy.str.enc l).length:Int)-1)) fun (y:ByteArray)=>aB (!decide (y=b)) R2 K):=by
 rw[List.length_map]
 refine bZ (fun h=>hR2 ?_) fun h=>?_
 ·have:l=[]:=List.length_eq_zero_iff.1 (by omega)
  rw[this];simp
 ·have h1:l.length-1<l.length:=by omega
  rw[aO _ (by omega) (by omega),show ((l.length:Int)-1)=((l.length-1:Nat):Int) by omega,aT (r:=.str) h1]
  have e:l.getLast? = some l[l.length-1]:=by rw[List.getLast?_eq_getElem?,List.getElem?_eq_getElem h1]
  refine mG (fun h=>hR2 ?_) fun h=>hK ?_
  ·rw[e];intro h';exact h (Option.some.inj h')
  ·rw[e];exact congrArg some h
theorem AWI {es:List (ByteArray×Bool)} {S:List ByteArray} {id:ByteArray} {R7:Prop} {K:List (ByteArray×Bool)→Prop} (hS:Seen es (fun x=>x∈S)) (h7:id∈S→R7) (hK:∀ es',id∉S→Seen es' (fun x=>x∈id::S)→K es') :
  dT TypeDesc.string (Value.string id) (List.map (bG Sy.str false Sy.bool) es) false Sy.bool
   (iU (Option (Nat×D)) (findD TypeDesc.string (Value.string id) (List.map (bG Sy.str false Sy.bool) es) 0) fun (y24:Option (Nat×D)) =>
    b8 Sy.str false Sy.bool (cK (List.map (bG Sy.str false Sy.bool) es) y24 (Value.string id) (D.p (T.v (.bool true)))) fun (y25:List (ByteArray×Bool))=>K y25)
   fun (i20:Nat) (y21:Bool)=>aB y21 R7
    (iU (Option (Nat×D)) (findD TypeDesc.string (Value.string id) (List.map (bG Sy.str false Sy.bool) es) 0) fun (y22:Option (Nat×D)) =>
     b8 Sy.str false Sy.bool (cK (List.map (bG Sy.str false Sy.bool) es) y22 (Value.string id) (D.p (T.v (.bool true)))) fun (y23:List (ByteArray×Bool))=>K y23):=by
 refine tH (r:=.bool) (fun hno=>?_) fun j b hb=>?_
 ·refine ACO (r:=.bool) rfl (es:=es) (k:=id) (v:=true) (hK _ (fun h=>?_) ((hS.ins id).congr fun x=>?_))
  ·have:=(hS.2 id).2 h
   rw[hno] at this;cases this
  ·rw[List.mem_cons];exact ⟨fun h=>h.symm.imp_left Eq.symm,fun h=>h.symm.imp_right Eq.symm⟩
 ·have:=hS.1 _ _ hb
  subst this
  rw[dE]
  exact h7 ((hS.2 _).1 hb)
theorem AFI:aJ Tryz.prog 51 mT:=AGU fun d m1 m2 m3 m4 r h hb=>by
 unfold pO at h
 split at h
 case h_2=>cases h
 rename_i hok
 replace hok:tR d=true:=hok
 obtain ⟨hx,hs,rfl⟩:=lE h
 simp only[Prod.mk.injEq,true_and] at hx
 obtain ⟨rfl,rfl,rfl,rfl⟩:=hx
 replace hs:kD d:=hs
 clear h hb
 simp only[tR,Bool.and_eq_true,decide_eq_true_eq,List.all_eq_true] at hok
 obtain ⟨hkp,hka⟩:=hok
 have hkq:=fun k hk=>(hkp k hk).2
 replace hkp:=fun k hk=>(hkp k hk).1
 have hlk:=hs.k
 have is:∀ {n:Int},fJ d=n→T.v (.int .i64 n)=T.v (.int .i64 (fJ d)):=fun h=>by rw[h]
 unfold F3
 refine gG (r:=.bool) rfl [] _ ?_
 refine aY d.2.2.2.2.1.length (fun k s=>∃ S,s.2.2.1=(k:Int)∧Seen s.2.1 (fun x=>x∈S)∧s.1.length≤64*k∧l9 d (d.2.2.2.2.1.drop k) k s.1 S=l9 d d.2.2.2.2.1 0 [] []) ⟨[],rfl,Seen.nil.congr (by simp),by simp,rfl⟩ ?_
 rintro X k ⟨E,es,i,u⟩ hk ⟨S,rfl,hseen,hlen,hr⟩ hX
 dsimp only at hseen hlen hr ⊢
 refine bZ (fun hlt=>?_) fun hge=>?_
 ·rw[List.length_map] at hlt
  have hlt:k<d.2.2.2.2.1.length:=by omega
  rw[aT (r:=aW) hlt]
  rw[List.drop_eq_getElem_cons hlt] at hr
  have hmem:=List.getElem_mem hlt
  have hp1:=hkp _ hmem
  have hp2:=hkq _ hmem
  generalize hy:d.2.2.2.2.1[k]=y at hr hp1 hp2 ⊢
  rw[l9] at hr
  have bad:∀ {n:Int},n≠0→(l9 d d.2.2.2.2.1 0 [] []).1=n→T.v (.int .i64 n)=T.v (.int .i64 (fJ d)):=fun hn h=>by
   refine is ?_
   unfold fJ
   rw[if_neg (by rw[h];exact hn),h]
  have badH:∀ {n:Int},n≠0→sA d y=n→T.v (.int .i64 n)=T.v (.int .i64 (fJ d)):=fun hn h=>by
   refine bad hn ?_
   rw[if_pos (by rw[h];exact hn)] at hr
   rw[←hr];exact h
  rw[kK]
  refine lC (fun h=>badH (by decide) (by unfold sA;rw[if_pos h])) fun i1=>?_
  refine aG (s:=[(false,.bool)]) (HY hs _) ?_
  refine lC (fun h=>badH (by decide) (by unfold sA;rw[if_neg (by rw[i1];decide),if_pos h])) fun i2=>?_
  have n1:¬ oJ y.1=false:=by rw[i1];decide
  have n2:¬ sC d y.2.1=false:=by rw[i2];decide
  refine bZ (fun h=>badH (by decide) (by unfold sA;rw[if_neg n1,if_neg n2,if_pos (.inl h)])) fun h3=>?_
  refine bZ (fun h=>badH (by decide) (by unfold sA;rw[if_neg n1,if_neg n2,if_pos (.inr h)])) fun h4=>?_
  have n3:¬ (O8 y<1∨10000<O8 y):=by rintro (h|h);exact h3 h;exact h4 h
  refine aG (s:=[(false,.any)]) (LS (a0:=gL y)) ?_
  refine EO (b:=oH (gL y)) (by rw[List.length_map];exact ALJ hp1) _ ?_
  refine lC (fun h=>badH (by decide) (by unfold sA;rw[if_neg n1,if_neg n2,if_neg n3,if_pos (.inl h)])) fun h5=>?_
  refine aG (s:=[(false,.any)]) (LS (a0:=eK y)) ?_
  refine EO (b:=oH (eK y)) (by rw[List.length_map];exact ALJ (l:=eK y) hp2) _ ?_
  refine lC (fun h=>badH (by decide) (by unfold sA;rw[if_neg n1,if_neg n2,if_neg n3,if_pos (.inr h)])) fun h6=>?_
  have hh:sA d y=0:=by unfold sA;rw[if_neg n1,if_neg n2,if_neg n3,if_neg];rintro (h|h);(rw[h5] at h;cases h);(rw[h6] at h;cases h)
  have hnd:=tD h6
  clear badH n1 n2 n3 h3 h4 h5 h6 i1 i2
  rw[if_neg (fun h=>h hh)] at hr
  refine gG (r:=.bool) rfl es _ ?_
  refine aY (gL y).length (fun j s=>∃ S',s.1=(j:Int)∧Seen s.2.1 (fun x=>x∈S')∧instE d y.2.1 ((gL y).drop j) S'=instE d y.2.1 (gL y) S) ⟨S,rfl,hseen,rfl⟩ ?_
  rintro Y j ⟨i,es',u⟩ hj ⟨S',rfl,hseen',hi⟩ hY
  dsimp only at hseen' hi ⊢
  refine bZ (fun hjl=>?_) fun hjl=>?_
  ·rw[List.length_map] at hjl
   replace hjl:(j:Int)<((gL y).length:Int):=hjl
   have hjl:j<(gL y).length:=by omega
   rw[aT (r:=.str) hjl]
   rw[List.drop_eq_getElem_cons hjl,instE] at hi
   have badI:∀ {n:Int},n≠0→(instE d y.2.1 (gL y) S).1=n→T.v (.int .i64 n)=T.v (.int .i64 (fJ d)):=fun hn h=>by
    refine bad hn ?_
    rw[if_pos (by rw[h];exact hn)] at hr
    rw[←hr];exact h
   have hw:IntKind.i64.wrap ((j:Int)+1)=((j+1:Nat):Int):=aO _ (by omega) (by omega)
   generalize (gL y)[j]=id at hi ⊢
   refine AVV (fun _ hn=>badI (by decide) ?_) fun i q hq _ hn=>?_
   ·have hn:partOf d id=none:=hn
    rw[hn] at hi;rw[←hi]
   ·have hn:partOf d id=some d.2.2.1[q]:=hn
    rw[hn] at hi
    rw[aT (r:=aQ) hq]
    obtain ⟨p,hp⟩:∃ p,p=d.2.2.1[q]:=⟨_,rfl⟩
    rw[←hp] at hi hn ⊢
    dsimp only at hi
    have fin:¬ (¬ bS p=4∧¬ bS p=3)→aH [(false,Sy.str.li),(false,Sy.bool)]
      (fP (jU d (fG (ids d.2.1)) (fG (ids d.2.2.1)) (fG (ids d.2.2.2.1)) (fG (ids d.2.2.2.2.1)) (jI p))) fun (y18:List ByteArray×Bool) =>
      aB (decide (((List.map Sy.str.enc y18.1).length:Int)=0)) (T.v (.int .i64 2)=T.v (.int .i64 (fJ d)))
       (aP Sy.str (List.map Sy.str.enc y18.1) (IntKind.i64.wrap (((List.map Sy.str.enc y18.1).length:Int)-1)) fun (y19:ByteArray) =>
        aB (!decide (y19=y.2.1)) (T.v (.int .i64 2)=T.v (.int .i64 (fJ d)))
        (dT TypeDesc.string (Value.string id) (List.map (bG Sy.str false Sy.bool) es') false Sy.bool
         (iU (Option (Nat×D)) (findD TypeDesc.string (Value.string id) (List.map (bG Sy.str false Sy.bool) es') 0) fun (y24:Option (Nat×D)) =>
          b8 Sy.str false Sy.bool (cK (List.map (bG Sy.str false Sy.bool) es') y24 (Value.string id) (D.p (T.v (.bool true)))) fun (y25:List (ByteArray×Bool))=>Y (IntKind.i64.wrap ((j:Int)+1),y25,()))
         fun (i20:Nat) (y21:Bool)=>aB y21 (T.v (.int .i64 7)=T.v (.int .i64 (fJ d)))
          (iU (Option (Nat×D)) (findD TypeDesc.string (Value.string id) (List.map (bG Sy.str false Sy.bool) es') 0) fun (y22:Option (Nat×D)) =>
           b8 Sy.str false Sy.bool (cK (List.map (bG Sy.str false Sy.bool) es') y22 (Value.string id) (D.p (T.v (.bool true)))) fun (y23:List (ByteArray×Bool))=>Y (IntKind.i64.wrap ((j:Int)+1),y23,())))):=by
     intro hk
     rw[if_neg hk] at hi
     refine aG (s:=[(false,.li .str),(false,.bool)]) (DF hs _) ?_
     have hul:=AN0 d (jI p)
     refine AVY (A:=True) (b:=y.2.1) (by omega) (fun _=>trivial) (fun _=>trivial) (fun h=>badI (by decide) ?_) fun h=>?_
     ·rw[if_neg h] at hi;rw[←hi]
     ·rw[if_pos h] at hi
      refine AWI (K:=fun es=>Y (IntKind.i64.wrap ((j:Int)+1),es,())) hseen' (fun h7=>badI (by decide) ?_) fun es2 h7 hs2=>?_
      ·rw[if_pos (sH.2 h7)] at hi;rw[←hi]
      ·rw[if_neg (fun h=>h7 (sH.1 h))] at hi
       rw[hw]
       exact hY _ hjl ⟨id::S',rfl,hs2,hi⟩
    refine mG (fun k4=>?_) fun k4=>?_
    ·refine mG (fun k3=>badI (by decide) ?_) fun k3=>?_
     ·rw[if_pos ⟨k4,k3⟩] at hi;rw[←hi]
     ·rw[aT (r:=aQ) hq,←hp]
      exact fin fun h=>h.2 k3
    ·rw[aT (r:=aQ) hq,←hp]
     exact fin fun h=>h.1 k4
  ·rw[List.length_map] at hjl
   replace hjl:¬ (j:Int)<((gL y).length:Int):=hjl
   have hjl:j=(gL y).length:=by omega
   subst hjl
   rw[List.drop_length,instE] at hi
   rw[←hi,if_neg (by simp)] at hr
   dsimp only at hr
   clear hY hi hj
   rw[c9 rfl]
   refine aY (eK y).length (fun j s=>s.2.1=(j:Int)∧s.1.length=E.length+j∧(∀ x∈(eK y).take j,x∈ids d.2.2.2.2.1)∧N4 d y.1 k ((eK y).drop j) s.1=N4 d y.1 k (eK y) E) ⟨rfl,by simp,by simp,rfl⟩ ?_
   rintro Y j ⟨E',i,u⟩ hj ⟨rfl,hEl,hin,hi⟩ hY
   dsimp only at hEl hin hi ⊢
   have hjk:j≤64:=by
    have h1:=ACR (hnd.sublist (List.take_sublist j _)) hin
    have h2:(ids d.2.2.2.2.1).length=d.2.2.2.2.1.length:=by simp[ids]
    rw[List.length_take] at h1
    omega
   refine bZ (fun hjl=>?_) fun hjl=>?_
   ·rw[List.length_map] at hjl
    replace hjl:(j:Int)<((eK y).length:Int):=hjl
    have hjl:j<(eK y).length:=by omega
    rw[aT (r:=.str) hjl]
    rw[List.drop_eq_getElem_cons hjl,N4] at hi
    have badA:∀ {n:Int},n≠0→(N4 d y.1 k (eK y) E).1=n→T.v (.int .i64 n)=T.v (.int .i64 (fJ d)):=fun hn h=>by
     refine bad hn ?_
     rw[if_pos (by rw[h];exact hn)] at hr
     rw[←hr];exact h
    have hw:IntKind.i64.wrap ((j:Int)+1)=((j+1:Nat):Int):=aO _ (by omega) (by omega)
    have hts:(eK y).take (j+1)=(eK y).take j++[(eK y)[j]]:=List.take_succ_eq_append_getElem hjl
    generalize (eK y)[j]=id at hi hts ⊢
    refine bZ (fun h=>badA (by decide) ?_) fun h=>?_
    ·rw[if_pos h] at hi;rw[←hi]
    rw[if_neg h] at hi
    refine AVV (fun hg _=>badA (by decide) ?_) fun i q hq hg hfi=>?_
    ·rw[hg] at hi;rw[←hi]
    ·rw[hg] at hi
     dsimp only at hi
     refine ⟨by simp;omega,?_⟩
     rw[AG (r:=aA) rfl E' [T.v (.int .i64 (q:Int)),T.v (.int .i64 (k:Int))] ((q:Int),(k:Int)) rfl,hw]
     refine hY _ hjl ⟨rfl,by simp only[List.length_append,List.length_cons,List.length_nil];omega,fun x hx=>?_,hi⟩
     rw[hts] at hx
     rcases List.mem_append.1 hx with hx|hx
     ·exact hin x hx
     ·have hx:x=id:=by simpa using hx
      subst hx
      have h9:=List.find?_some hfi
      exact List.mem_map.2 ⟨_,List.getElem_mem hq,of_decide_eq_true h9⟩
   ·rw[List.length_map] at hjl
    replace hjl:¬ (j:Int)<((eK y).length:Int):=hjl
    have hjl:j=(eK y).length:=by omega
    subst hjl
    rw[List.drop_length,N4] at hi
    rw[←hi,if_neg (by simp)] at hr
    dsimp only at hr
    rw[c9 rfl]
    refine gG (r:=.bool) rfl es' _ ?_
    refine hX _ hlt ⟨S',?_,hseen',?_,?_⟩
    ·show IntKind.i64.wrap ((k:Int)+1)=_
     rw[aO]<;>omega
    ·show E'.length≤_
     omega
    ·rw[←hr];rfl
 ·rw[List.length_map] at hge
  have hkl:k=d.2.2.2.2.1.length:=by omega
  subst hkl
  rw[List.drop_length,l9] at hr
  have w:fJ d=if (jF d.2.2.2.2.1.length E).2=0 then 0 else 20:=by
   unfold fJ;rw[←hr,if_pos rfl]
  refine aG (s:=[(false,.li (.int .i64)),(false,.int .i64)]) (y:=jF d.2.2.2.2.1.length E) (by rw[List.length_map];exact (ZY ..).trans (gQ (l:=E) _ (by omega))) ?_
  exact mG (fun h=>is (by rw[w,if_neg h])) fun h=>is (by rw[w,if_pos h])
end Go.Pv
namespace Go.Pv
open Go Go.Proofs
def upC (d:aC):Nat→ByteArray→Option (List ByteArray)
 | 0,_=>none
 | n+1,id=>match cC d id with
  | none=>none
  | some x=>if x.2.1=1 then some [id] else (upC d n x.2.2).map fun c=>id::c
theorem ANZ (d:aC):∀ (n:Nat) (id:ByteArray) (l:List ByteArray),upF d n id l=match upC d n id with
  | some c=>(l++c,true)
  | none=>([],false)
 | 0,_,_=>rfl
 | n+1,id,l=>by
  unfold upF upC
  cases cC d id with
  | none=>rfl
  | some x =>
   dsimp only
   by_cases hx:x.2.1=1
   ·rw[if_pos hx,if_pos hx]
   ·rw[if_neg hx,if_neg hx,ANZ d n]
    cases upC d n x.2.2 with
    | none=>rfl
    | some c=>simp
theorem WB {d:aC}:∀ {n m:Nat} {id:ByteArray} {c:List ByteArray},upC d n id=some c→n≤m→upC d m id=some c
 | 0,_,_,_,h,_=>by cases h
 | n+1,0,_,_,_,h=>by omega
 | n+1,m+1,id,c,h,hm=>by
  unfold upC at h ⊢
  cases hn:cC d id with
  | none=>rw[hn] at h;cases h
  | some x =>
   rw[hn] at h
   dsimp only at h ⊢
   by_cases hx:x.2.1=1
   ·rw[if_pos hx] at h ⊢;exact h
   ·rw[if_neg hx] at h ⊢
    cases h1:upC d n x.2.2 with
    | none=>rw[h1] at h;cases h
    | some c'=>rw[WB h1 (by omega)];rw[h1] at h;exact h
theorem JW {d:aC}:∀ {n:Nat} {id:ByteArray} {t r:List ByteArray} {y:ByteArray},upC d n id=some (t++y::r)→upC d n y=some (y::r)
 | 0,_,_,_,_,h=>by cases h
 | n+1,id,t,r,y,h=>by
  have h0:=h
  unfold upC at h
  cases hn:cC d id with
  | none=>rw[hn] at h;cases h
  | some x =>
   rw[hn] at h
   dsimp only at h
   by_cases hx:x.2.1=1
   ·rw[if_pos hx] at h
    have h:=Option.some.inj h
    cases t with
    | nil=>simp only[List.nil_append,List.cons.injEq] at h;obtain ⟨rfl,rfl⟩:=h;exact h0
    | cons a t=>simp at h
   ·rw[if_neg hx] at h
    cases h1:upC d n x.2.2 with
    | none=>rw[h1] at h;cases h
    | some c' =>
     rw[h1] at h
     have h:=Option.some.inj h
     cases t with
     | nil=>simp only[List.nil_append,List.cons.injEq] at h;obtain ⟨rfl,rfl⟩:=h;exact h0
     | cons a t =>
      simp only[List.cons_append,List.cons.injEq] at h
      obtain ⟨rfl,rfl⟩:=h
      exact WB (JW h1) (by omega)
theorem AW1 {d:aC} {id:ByteArray} (h:(up d id).2=true):upC d 65 id=some (up d id).1:=by
 unfold up at h ⊢
 rw[ANZ] at h ⊢
 cases h1:upC d 65 id with
 | none=>rw[h1] at h;cases h
 | some c=>simp
theorem AWW {d:aC} {id:ByteArray} {c:List ByteArray} (h:upC d 65 id=some c):up d id=(c,true):=by
 unfold up
 rw[ANZ,h];simp
def iF (d:aC) (id:ByteArray):List ByteArray:=(up d id).1.reverse
theorem MD {d:aC} {id y:ByteArray} {u v:List ByteArray} (h:(up d id).2=true) (hp:iF d id=(u++[y])++v):(up d y).2=true∧iF d y=u++[y]:=by
 have h1:=AW1 h
 have h2:(up d id).1=v.reverse++y::u.reverse:=by
  have:=congrArg List.reverse hp
  simpa [iF] using this
 rw[h2] at h1
 have h3:=AWW (JW h1)
 unfold iF
 rw[h3]
 exact ⟨rfl,by simp⟩
theorem AM0 {d:aC} {id y:ByteArray} (h:(up d id).2=true) (hy:y∈iF d id):∃ v,iF d id=iF d y++v:=by
 obtain ⟨u,v,e⟩:=List.append_of_mem hy
 have e':iF d id=(u++[y])++v:=by rw[e];simp
 obtain ⟨_,h2⟩:=MD h e'
 exact ⟨v,by rw[h2];exact e'⟩
end Go.Pv
namespace Go.Pv
open Go Go.Proofs
def QN (d:aC) (node:ByteArray) (p:bE):Bool:=nI (up d (jI p)).1 node
def lR (d:aC) (node:ByteArray):List ByteArray:=(d.2.2.1.filter (QN d node)).map fun p=>p.1
theorem L4 {α:Type} {c:α→Bool} {f:α→ByteArray} {l:List α} {k:Nat} (hk:k<l.length) (hc:c l[k]=true):((l.take (k+1)).filter c).map f=((l.take k).filter c).map f++[f l[k]]:=by
 rw[List.take_succ_eq_append_getElem hk,List.filter_append];simp[hc]
theorem VG {α:Type} {c:α→Bool} {f:α→ByteArray} {l:List α} {k:Nat} (hk:k<l.length) (hc:c l[k]=false):((l.take (k+1)).filter c).map f=((l.take k).filter c).map f:=by
 rw[List.take_succ_eq_append_getElem hk,List.filter_append];simp[hc]
theorem AGP {α:Type} {c:α→Bool} {f:α→ByteArray} {l:List α} {k:Nat}:(((l.take k).filter c).map f).length≤k:=by
 have:=List.length_filter_le c (l.take k);simp at this ⊢;omega
theorem VA {d:aC} (id0:ByteArray) {N:Prop} {Fd:ByteArray→List ByteArray→Prop} (hN:up d id0=([],false)→N) (hF:∀ id' l',l'.length<65→up d id0=(l'++[id'],true)→Fd id' l') :
  bB (ByteArray×List ByteArray×Int×PUnit) (fun (X:ByteArray×List ByteArray×Int×PUnit→Prop) (s:ByteArray×List ByteArray×Int×PUnit) =>
   aB (decide (s.2.2.1<65))
    (aH [(true,bM),(false,Sy.bool)] (jE [aD true aN d,T.v (.string s.1)]) fun (y:jW×Bool) =>
     aB (!y.2) N (bO (decide (((List.map Sy.str.enc s.2.1).length+1)*16≤140737488355328)&&decide ((List.map Sy.str.enc s.2.1).length+1≤140737488355328))
      (aB (decide (y.1.2.1=1)) (Fd s.1 s.2.1) (bA Sy.str (List.map Sy.str.enc s.2.1++[[T.v (.string s.1)]]) fun (y7:List ByteArray)=>X (y.1.2.2,y7,IntKind.i64.wrap (s.2.2.1+1),())))))
    N) (id0,[],0,()):=by
 refine aY 65 (fun k s=>∃ id' l',s=(id',l',(k:Int),())∧l'.length=k∧upF d (65-k) id' l'=up d id0) ⟨id0,[],rfl,rfl,rfl⟩ ?_
 rintro X k s hk ⟨id',l',rfl,hl,hu⟩ hX
 dsimp only
 by_cases hlt:k<65
 ·have h1:(k:Int)<65:=by omega
  obtain ⟨m,hm⟩:∃ m,65-k=m+1:=⟨64-k,by omega⟩
  rw[hm] at hu
  simp only[upF] at hu
  refine cJ h1 ?_
  refine aG (s:=[(true,bM),(false,.bool)]) (y:=found BW (cC d id')) AX ?_
  cases hn:cC d id' with
  | none=>simp only[hn] at hu;simp only[found,Bool.not_false,dE];exact hN hu.symm
  | some x =>
   simp only[hn] at hu
   simp only[found,Bool.not_true,eA]
   rw[GY (by omega),jZ]
   by_cases hx:x.2.1=1
   ·rw[if_pos hx] at hu
    exact cJ hx (hF _ _ (by omega) hu.symm)
   ·rw[if_neg hx] at hu
    refine cV hx (hX _ hlt ⟨x.2.2,l'++[id'],?_,by simp[hl],by rw[←hu];congr 1;omega⟩)
    simp only[Prod.mk.injEq,and_true,true_and]
    exact aO _ (by omega) (by omega)
 ·have h1:¬ (k:Int)<65:=by omega
  have:65-k=0:=by omega
  rw[this] at hu
  exact cV h1 (hN hu.symm)
def CJ (x:aC×ByteArray):Option T:=I2 x.1 (Sh.enc rM (lR x.1 x.2))
noncomputable def FJ:Env:=Env.of [(25,.pure jE)]
def R0:FuncId→Hint:=fun f=>match f == 26 with|true=>⟨fun r=>match r == 4 with|true=>.inv [.own 4 1 .str,.map 2 .str false .bool,.val 20 false (.int .i64)]|false=>match r == 10 with|true=>.inv [.val 9 false .bool,.val 42 false (.int .i64)]|false=>.none,fun i j=>match i == 8&&j == 14 with|true=>some [.val 9 false .bool,.map 2 .str false .bool]|false=>match i == 8&&j == 8 with|true=>some [.own 11 1 .str]|false=>none,fun _=>none⟩|false=>match f == 53 with|true=>⟨fun r=>match r == 3 with|true=>.inv [.val 1 false .str,.own 6 1 .str,.val 9 false (.int .i64)]|false=>.none,fun _ _=>none,fun _=>none⟩|false=>aU
theorem XC:aF Tryz.prog FJ:=aF.cons (x:=.pure jE) OP (aF.nil _)
def F9 (a0:aC) (a1:ByteArray) (R:T→Prop):Prop :=
 b8 Sy.str false Sy.bool [] fun (y0:List (ByteArray×Bool)) =>
 bB (List ByteArray×List (ByteArray×Bool)×Int×PUnit)
 (fun (X1:List ByteArray×List (ByteArray×Bool)×Int×PUnit→Prop)
 (s2:List ByteArray×List (ByteArray×Bool)×Int×PUnit) =>
 aB (decide (s2.2.2.1<(↑(List.map aQ.enc a0.2.2.1).length:Int)))
 (aP aQ (List.map aQ.enc a0.2.2.1) s2.2.2.1 fun (y3:bE) =>
 dT TypeDesc.string (Value.string y3.2.2.2.1)
 (List.map (bG Sy.str false Sy.bool) s2.2.1) false Sy.bool
 (kB (List ByteArray×PUnit)
 (fun (X10:List ByteArray×PUnit→Prop) =>
 bB (ByteArray×List ByteArray×Int×PUnit)
 (fun (X11:ByteArray×List ByteArray×Int×PUnit→Prop)
 (s12:ByteArray×List ByteArray×Int×PUnit) =>
 aB (decide (s12.2.2.1<65))
 (aH [(true,bM),(false,Sy.bool)]
 (jE [aD true aN a0,T.v (.string s12.1)])
 fun (y13:jW×Bool) =>
 aB (!y13.2) (X10 ([],()))
 (bO
 (decide (((List.map Sy.str.enc s12.2.1).length+1)*16≤140737488355328) &&
 decide ((List.map Sy.str.enc s12.2.1).length+1≤140737488355328))
 (aB (decide (y13.1.2.1=1))
 (bA Sy.str
 (List.map Sy.str.enc s12.2.1++[[T.v (.string s12.1)]])
 fun (y14:List ByteArray)=>X10 (y14,()))
 (bA Sy.str
 (List.map Sy.str.enc s12.2.1++[[T.v (.string s12.1)]])
 fun (y15:List ByteArray) =>
 X11 (y13.1.2.2,y15,IntKind.i64.wrap (s12.2.2.1+1),())))))
 (X10 ([],())))
 (y3.2.2.2.1,[],0,()))
 fun (s16:List ByteArray×PUnit) =>
 bB (Bool×Int×PUnit)
 (fun (X17:Bool×Int×PUnit→Prop) (s18:Bool×Int×PUnit) =>
 aB (decide (s18.2.1<(↑(List.map Sy.str.enc s16.1).length:Int)))
 (aP Sy.str (List.map Sy.str.enc s16.1) s18.2.1 fun (y19:ByteArray) =>
 lG Sy.str (List.map Sy.str.enc s16.1) (Int.toNat s18.2.1) 0
 fun (y20:ByteArray) =>
 aB s18.1 (X17 (true,IntKind.i64.wrap (s18.2.1+1),()))
 (X17 (decide (y20=a1),IntKind.i64.wrap (s18.2.1+1),())))
 (iU (Option (Nat×D))
 (findD TypeDesc.string (Value.string y3.2.2.2.1)
 (List.map (bG Sy.str false Sy.bool) s2.2.1) 0)
 fun (y21:Option (Nat×D)) =>
 aB s18.1
 (bO
 (decide (((List.map Sy.str.enc s2.1).length+1)*16≤140737488355328) &&
 decide ((List.map Sy.str.enc s2.1).length+1≤140737488355328))
 (bA Sy.str
 (List.map Sy.str.enc s2.1++[[T.v (.string y3.1)]])
 fun (y22:List ByteArray) =>
 b8 Sy.str false Sy.bool
 (cK (List.map (bG Sy.str false Sy.bool) s2.2.1) y21
 (Value.string y3.2.2.2.1) (D.p (T.v (.bool s18.1))))
 fun (y23:List (ByteArray×Bool)) =>
 X1 (y22,y23,IntKind.i64.wrap (s2.2.2.1+1),())))
 (bA Sy.str (List.map Sy.str.enc s2.1) fun (y24:List ByteArray) =>
 b8 Sy.str false Sy.bool
 (cK (List.map (bG Sy.str false Sy.bool) s2.2.1) y21
 (Value.string y3.2.2.2.1) (D.p (T.v (.bool s18.1))))
 fun (y25:List (ByteArray×Bool)) =>
 X1 (y24,y25,IntKind.i64.wrap (s2.2.2.1+1),()))))
 (false,0,()))
 fun (i4:Nat) (y5:Bool) =>
 aB y5
 (bO
 (decide (((List.map Sy.str.enc s2.1).length+1)*16≤140737488355328) &&
 decide ((List.map Sy.str.enc s2.1).length+1≤140737488355328))
 (bA Sy.str (List.map Sy.str.enc s2.1++[[T.v (.string y3.1)]])
 fun (y6:List ByteArray) =>
 b8 Sy.str false Sy.bool
 (List.map (bG Sy.str false Sy.bool) s2.2.1)
 fun (y7:List (ByteArray×Bool))=>X1 (y6,y7,IntKind.i64.wrap (s2.2.2.1+1),())))
 (bA Sy.str (List.map Sy.str.enc s2.1) fun (y8:List ByteArray) =>
 b8 Sy.str false Sy.bool
 (List.map (bG Sy.str false Sy.bool) s2.2.1)
 fun (y9:List (ByteArray×Bool))=>X1 (y8,y9,IntKind.i64.wrap (s2.2.2.1+1),())))
 (R (T.sl false (List.map Sy.str.enc s2.1))))
 ([],y0,0,())
theorem Q9 ( a0 a1 R):bJ aV Tryz.prog FJ R0 8 26 [aD true aN a0,aD false Sy.str a1] R=F9 a0 a1 R:=by kernel_rfl
abbrev yM:Sh:=[(true,aN),(false,Sy.str)]
noncomputable def o6:List T→Option (T):=gS yM CJ
theorem T4 {a0 a1}:o6 [aD true aN a0,T.v (.string a1)]=CJ (a0,a1):=bH (s:=yM) rfl (a0,a1) rfl
theorem AG0 (h:∀ a0 a1 r,CJ (a0,a1)=some r→cR yM (a0,a1)→F9 a0 a1 (fun y=>y=r)):aJ Tryz.prog 26 o6 :=
 aX (E:=FJ) (Hs:=R0) XC a6 a7 (aM rfl) 8 ⟨_,_,Tryz.func26,rfl⟩ rfl fun x r h1 h2=>by
  obtain ⟨a0,a1⟩:=x
  rw[show Sh.cA yM (a0,a1)=[aD true aN a0,aD false Sy.str a1] from rfl,Q9]
  exact h a0 a1 r h1 h2
theorem AFM:aJ Tryz.prog 26 o6:=AG0 fun d node r h hb=>by
 obtain ⟨_,hli,_,rfl⟩:=VM h
 have hl:d.2.2.1.length≤100:=by
  simp only[sE,Bool.and_eq_true,decide_eq_true_eq] at hli
  omega
 clear h
 unfold F9
 refine gG (r:=.bool) rfl [] _ ?_
 refine aY d.2.2.1.length (fun k s=>∃ es,s=(((d.2.2.1.take k).filter (QN d node)).map (fun n=>n.1),es,(k:Int),())∧∀ id b,fQ es id=some b→b=nI (up d id).1 node) ⟨[],rfl,fun id b h=>by cases h⟩ ?_
 rintro X k s hk ⟨es,rfl,hes⟩ hX
 have hlen:=AGP (c:=QN d node) (f:=fun n=>n.1) (l:=d.2.2.1) (k:=k)
 dsimp only
 by_cases hlt:k<d.2.2.1.length
 ·have hw:IntKind.i64.wrap ((k:Int)+1)=((k+1:Nat):Int):=aO _ (by omega) (by omega)
  refine cJ (by simp[hlt]) ?_
  rw[aT (r:=aQ) hlt]
  generalize hpe:d.2.2.1[k]=p
  refine tH (r:=.bool) (fun hno=>?_) (fun i v hv=>?_)
  ·rw[mH]
   have go:∀ ls,ls=(up d (VR p)).1→ls.length≤65→bB (Bool×Int×PUnit) (fun (X17:Bool×Int×PUnit→Prop) (s18:Bool×Int×PUnit)=>aB (decide (s18.2.1<(↑(List.map Sy.str.enc ls).length:Int)))
      (aP Sy.str (List.map Sy.str.enc ls) s18.2.1 fun (y19:ByteArray)=>lG Sy.str (List.map Sy.str.enc ls) (Int.toNat s18.2.1) 0 fun (y20:ByteArray)=>aB s18.1 (X17 (true,IntKind.i64.wrap (s18.2.1+1),())) (X17 (decide (y20=node),IntKind.i64.wrap (s18.2.1+1),())))
      (iU (Option (Nat×D)) (findD TypeDesc.string (Value.string p.2.2.2.1) (List.map (bG Sy.str false Sy.bool) es) 0) fun (y21:Option (Nat×D)) =>
       aB s18.1 (bO (decide (((List.map Sy.str.enc (((d.2.2.1.take k).filter (QN d node)).map (fun n=>n.1))).length+1)*16≤140737488355328)&&decide ((List.map Sy.str.enc (((d.2.2.1.take k).filter (QN d node)).map (fun n=>n.1))).length+1≤140737488355328))
         (bA Sy.str (List.map Sy.str.enc (((d.2.2.1.take k).filter (QN d node)).map (fun n=>n.1))++[[T.v (.string p.1)]]) fun (y22:List ByteArray)=>b8 Sy.str false Sy.bool (cK (List.map (bG Sy.str false Sy.bool) es) y21 (Value.string p.2.2.2.1) (D.p (T.v (.bool s18.1)))) fun (y23:List (ByteArray×Bool))=>X (y22,y23,IntKind.i64.wrap ((k:Int)+1),())))
        (bA Sy.str (List.map Sy.str.enc (((d.2.2.1.take k).filter (QN d node)).map (fun n=>n.1))) fun (y24:List ByteArray)=>b8 Sy.str false Sy.bool (cK (List.map (bG Sy.str false Sy.bool) es) y21 (Value.string p.2.2.2.1) (D.p (T.v (.bool s18.1)))) fun (y25:List (ByteArray×Bool))=>X (y24,y25,IntKind.i64.wrap ((k:Int)+1),()))))
     (false,0,()):=by
    intro ls hls hll
    have hin:QN d node p=nI ls node:=by rw[hls];rfl
    refine aY ls.length (fun j s=>s=(nI (ls.take j) node,(j:Int),())) (by simp[nI]) ?_
    rintro Y j s hj rfl hY
    dsimp only
    by_cases hlj:j<ls.length
    ·refine cJ (by simp[hlj]) ?_
     have hs:nI (ls.take (j+1)) node=(nI (ls.take j) node||decide (ls[j]=node)):=by
      unfold nI;rw[List.take_succ_eq_append_getElem hlj,List.any_append];simp
     have hj1:IntKind.i64.wrap ((j:Int)+1)=((j+1:Nat):Int):=aO _ (by omega) (by omega)
     rw[aT (r:=.str) hlj,Int.toNat_natCast,j6 (r:=.str) hlj]
     refine J5 (fun hf=>hY _ hlj ?_) (fun hf=>hY _ hlj ?_)
     ·rw[hs,hf,hj1];rfl
     ·rw[hs,hf,hj1];rfl
    ·have:j=ls.length:=by omega
     subst this
     refine cV (by simp) ?_
     rw[List.take_length]
     have hes':∀ id b,fQ (pF es p.2.2.2.1 (nI ls node)) id=some b→b=nI (up d id).1 node:=by
      intro id b hb
      rw[pC] at hb
      split at hb
      ·rename_i e;cases hb;rw[←e,hls]
      ·exact hes id b hb
     have ins:=fun (K:List (ByteArray×Bool)→Prop) (hK:K (pF es p.2.2.2.1 (nI ls node)))=>ACO (r:=.bool) rfl (es:=es) (k:=p.2.2.2.1) (v:=nI ls node) hK
     rcases hb2:nI ls node with _|_
     ·rw[hb2] at ins hes' hin
      obtain ⟨y,h1,h2⟩:=ins (fun es'=>X (((d.2.2.1.take k).filter (QN d node)).map (fun n=>n.1),es',IntKind.i64.wrap ((k:Int)+1),())) (hX _ hlt ⟨_,by rw[VG hlt (by rw[hpe];exact hin),hw],hes'⟩)
      refine ⟨y,h1,?_⟩
      show aB false _ _
      rw[eA,c9 (r:=.str) rfl]
      exact h2
     ·rw[hb2] at ins hes' hin
      obtain ⟨y,h1,h2⟩:=ins (fun es'=>X (((d.2.2.1.take k).filter (QN d node)).map (fun n=>n.1)++[p.1],es',IntKind.i64.wrap ((k:Int)+1),())) (hX _ hlt ⟨_,by rw[L4 hlt (by rw[hpe];exact hin),hw,hpe],hes'⟩)
      refine ⟨y,h1,?_⟩
      show aB true _ _
      rw[dE,GY (by omega),jZ]
      exact h2
   refine VA (d:=d) (VR p) (Fd:=fun id' l'=>bA Sy.str (List.map Sy.str.enc l'++[[T.v (.string id')]]) _) (fun hu=>go [] (by rw[hu]) (by simp)) (fun id' l' hl' hu=>?_)
   rw[jZ]
   exact go _ (by rw[hu]) (by simp;omega)
  ·have hv':=hes _ _ hv
   refine J5 (fun h1=>?_) (fun h1=>?_)
   ·rw[GY (by omega),jZ]
    exact gG (r:=.bool) rfl es _ (hX _ hlt ⟨es,by rw[L4 hlt (by rw[hpe];exact hv'.symm.trans h1),hw,hpe],hes⟩)
   ·rw[c9 (r:=.str) rfl]
    exact gG (r:=.bool) rfl es _ (hX _ hlt ⟨es,by rw[VG hlt (by rw[hpe];exact hv'.symm.trans h1),hw],hes⟩)
 ·have:k=d.2.2.1.length:=by omega
  subst this
  refine cV (by simp) ?_
  rw[List.take_length];rfl
end Go.Pv
namespace Go.Pv
open Go Go.Proofs
noncomputable def xM:List T→Option T:=AQ
abbrev AWC:Sh:=[(false,.int .i64),(false,.int .i64)]
def fZ:List Int→Int
 | []=>0
 | a::l=>a+fZ l
def eL (l:List Int):Int×Int:=if -9223372036854775808≤fZ l∧fZ l≤9223372036854775807 then (fZ l,0) else (0,21)
def ATG (a:Int):Bool:=decide (-9223372036854775808≤a)&&decide (a≤9223372036854775807)
def rF (l:List Int):Bool:=decide (l.length≤1000000)&&l.all ATG
def uH (l:List Int):Option T:=match rF l with
 | true=>some (Sh.enc AWC (eL l))
 | false=>none
theorem AMW {l:List Int} (h:rF l=true):l.length≤1000000∧∀ a∈l,-9223372036854775808≤a∧a≤9223372036854775807:=by
 simp only[rF,ATG,Bool.and_eq_true,decide_eq_true_eq,List.all_eq_true] at h
 exact h
theorem ADI:∀ {l:List Int},(∀ a∈l,0≤a∧a≤2199023255552)→0≤fZ l∧fZ l≤2199023255552*(l.length:Int)
 | [],_=>by simp[fZ]
 | a::l,h=>by
  have h1:=h a List.mem_cons_self
  have h2:=ADI fun b hb=>h b (List.mem_cons_of_mem _ hb)
  rw[fZ,List.length_cons];omega
theorem MS {a:Int}:∀ {l:List Int},fZ (l++[a])=fZ l+a
 | []=>by simp[fZ]
 | b::l=>by rw[List.cons_append,fZ,fZ,MS];omega
theorem V9 {l s:List Int} (h:∀ a∈l,0≤a) (hs:s.Sublist l):fZ s≤fZ l:=by
 induction hs with
 | slnil=>exact Int.le_refl _
 | cons a _ ih =>
  have h1:=h a List.mem_cons_self
  have h2:=ih fun b hb=>h b (List.mem_cons_of_mem _ hb)
  rw[fZ];omega
 | cons_cons a _ ih =>
  have h2:=ih fun b hb=>h b (List.mem_cons_of_mem _ hb)
  rw[fZ,fZ];omega
noncomputable def W0:Env:=Env.of [(69,.ext xM)]
def AJU:FuncId→Hint:=fun f=>match f == 31 with|true=>⟨fun r=>match r == 3 with|true=>.inv [.val 4 false (.int .i64),.val 5 false (.int .u64),.val 13 false (.int .i64)]|false=>.none,fun _ _=>none,fun _=>none⟩|false=>aU
theorem AIR:aF Tryz.prog W0:=aF.cons (x:=.ext xM) TD (aF.nil _)
def YN (a0:List Int) (R:T→Prop):Prop :=
 bB (Int×Int×Int×PUnit)
 (fun (X0:Int×Int×Int×PUnit→Prop) (s1:Int×Int×Int×PUnit) =>
 aB (decide (s1.2.2.1<(↑(List.map (Sy.int IntKind.i64).enc a0).length:Int)))
 (aP (Sy.int IntKind.i64) (List.map (Sy.int IntKind.i64).enc a0) s1.2.2.1
 fun (y2:Int) =>
 aH [(false,Sy.int IntKind.u64),(false,Sy.int IntKind.u64)]
 (xM
 [T.v (Value.int IntKind.u64 s1.2.1),
 T.v (Value.int IntKind.u64 (IntKind.u64.wrap y2)),
 T.v (Value.int IntKind.u64 0)])
 fun (y3:aK) =>
 aB (decide (y2<0))
 (X0
 (IntKind.i64.wrap (IntKind.i64.wrap (s1.1+IntKind.i64.wrap y3.2)-1),y3.1,
 IntKind.i64.wrap (s1.2.2.1+1),()))
 (X0
 (IntKind.i64.wrap (s1.1+IntKind.i64.wrap y3.2),y3.1,
 IntKind.i64.wrap (s1.2.2.1+1),())))
 (aB (decide (s1.1=0))
 (aB (decide (0≤IntKind.i64.wrap s1.2.1))
 (R
 (T.cF
 [T.v (.int .i64 (IntKind.i64.wrap s1.2.1)),
 T.v (.int .i64 0)]))
 (aB (decide (s1.1 = -1))
 (aB (decide (IntKind.i64.wrap s1.2.1<0))
 (R
 (T.cF
 [T.v (.int .i64 (IntKind.i64.wrap s1.2.1)),
 T.v (.int .i64 0)]))
 (R (T.cF [T.v (.int .i64 0),T.v (.int .i64 21)])))
 (R (T.cF [T.v (.int .i64 0),T.v (.int .i64 21)]))))
 (aB (decide (s1.1 = -1))
 (aB (decide (IntKind.i64.wrap s1.2.1<0))
 (R
 (T.cF
 [T.v (.int .i64 (IntKind.i64.wrap s1.2.1)),
 T.v (.int .i64 0)]))
 (R (T.cF [T.v (.int .i64 0),T.v (.int .i64 21)])))
 (R (T.cF [T.v (.int .i64 0),T.v (.int .i64 21)])))))
 (0,0,0,())
theorem AEI ( a0 R):bJ aV Tryz.prog W0 AJU 8 31 [aD false (Sy.int IntKind.i64).li a0] R=YN a0 R:=by kernel_rfl
abbrev P4:Sh:=[(false,(Sy.int IntKind.i64).li)]
noncomputable def qC:List T→Option (T):=gS P4 uH
theorem AF6 {a0}:qC [T.sl false (List.map (Sy.int IntKind.i64).enc a0)]=uH (a0):=bH (s:=P4) rfl (a0) rfl
theorem AQO (h:∀ a0 r,uH (a0)=some r→cR P4 (a0)→YN a0 (fun y=>y=r)):aJ Tryz.prog 31 qC :=
 aX (E:=W0) (Hs:=AJU) AIR a6 a7 (aM rfl) 8 ⟨_,_,Tryz.func31,rfl⟩ rfl fun x r h1 h2=>by
  let a0:=x
  rw[show Sh.cA P4 (a0)=[aD false (Sy.int IntKind.i64).li a0] from rfl,AEI]
  exact h a0 r h1 h2
theorem AWP (n:Int):IntKind.u64.wrap n=n % 18446744073709551616:=by
 simp only[IntKind.wrap,IntKind.bits,IntKind.signed];simp
theorem AWO {n:Int} (h0:0≤n) (h1:n<18446744073709551616):IntKind.i64.wrap n=if n<9223372036854775808 then n else n-18446744073709551616:=by
 simp only[IntKind.wrap,IntKind.bits,IntKind.signed]
 simp
 omega
theorem YT {x y:Int} (hx:0≤x) (hy:0≤y) {K:Int×Int→Prop} (h:K ((x+y) % 18446744073709551616,(x+y) / 18446744073709551616)):aH [(false,Sy.int IntKind.u64),(false,Sy.int IntKind.u64)] (xM [T.v (Value.int IntKind.u64 x),T.v (Value.int IntKind.u64 y),T.v (Value.int IntKind.u64 0)]) K:=by
 refine aG (s:=[(false,.int .u64),(false,.int .u64)]) (y:=((x+y) % 18446744073709551616,(x+y) / 18446744073709551616)) ?_ h
 unfold xM AQ
 dsimp only
 rw[decide_eq_true hx,decide_eq_true hy,Int.add_zero];rfl
theorem APO:aJ Tryz.prog 31 qC:=AQO fun l r h hb=>by
 clear hb
 have ok:rF l=true:=by
  unfold uH at h
  split at h
  ·assumption
  ·cases h
 have e:T.cF [T.v (.int .i64 (eL l).1),T.v (.int .i64 (eL l).2)]=r:=by
  unfold uH at h
  rw[ok] at h
  exact Option.some.inj h
 subst e
 clear h
 obtain ⟨hl,hi⟩:=AMW ok
 have is:∀ {a b:Int},eL l=(a,b)→T.cF [T.v (.int .i64 a),T.v (.int .i64 b)]=T.cF [T.v (.int .i64 (eL l).1),T.v (.int .i64 (eL l).2)]:=fun h=>by rw[h]
 unfold YN
 refine aY l.length (fun k s=>s.2.2.1=(k:Int)∧0≤s.2.1∧s.2.1<18446744073709551616∧-(k:Int)≤s.1∧s.1≤k∧s.1*18446744073709551616+s.2.1=fZ (l.take k)) ⟨rfl,Int.le_refl _,by decide,Int.le_refl _,Int.le_refl _,rfl⟩ ?_
 rintro X k ⟨hh,lo,i,un⟩ hk ⟨rfl,h0,h1,h2,h3,he⟩ hX
 dsimp only at h0 h1 h2 h3 he ⊢
 refine bZ (fun hlt=>?_) fun hge=>?_
 ·rw[List.length_map] at hlt
  have hlt:k<l.length:=by omega
  rw[aT (r:=.int .i64) hlt]
  have hn:=hi l[k] (List.getElem_mem hlt)
  have hs:fZ (l.take (k+1))=fZ (l.take k)+l[k]:=by rw[List.take_add_one,List.getElem?_eq_getElem hlt];exact MS
  generalize l[k]=n at hn hs ⊢
  rw[AWP]
  refine YT h0 (by omega) ?_
  dsimp only
  have hc:IntKind.i64.wrap ((lo+n % 18446744073709551616) / 18446744073709551616)=(lo+n % 18446744073709551616) / 18446744073709551616:=by rw[aO]<;>omega
  have hw:IntKind.i64.wrap ((k:Int)+1)=((k+1:Nat):Int):=by rw[aO]<;>omega
  rw[hc]
  have hc2:IntKind.i64.wrap (hh+(lo+n % 18446744073709551616) / 18446744073709551616)=hh+(lo+n % 18446744073709551616) / 18446744073709551616:=by rw[aO]<;>omega
  rw[hc2]
  refine bZ (fun hneg=>?_) fun hpos=>?_
  ·have hc3:IntKind.i64.wrap (hh+(lo+n % 18446744073709551616) / 18446744073709551616-1)=hh+(lo+n % 18446744073709551616) / 18446744073709551616-1:=by rw[aO]<;>omega
   rw[hc3]
   refine hX _ hlt ⟨hw,?_,?_,?_,?_,?_⟩
   all_goals dsimp only
   all_goals omega
  ·refine hX _ hlt ⟨hw,?_,?_,?_,?_,?_⟩
   all_goals dsimp only
   all_goals omega
 ·rw[List.length_map] at hge
  have:k=l.length:=by omega
  subst this
  rw[List.take_length] at he
  have hw:=AWO h0 h1
  rw[hw]
  have big:¬ (-9223372036854775808≤fZ l∧fZ l≤9223372036854775807)→eL l=(0,21):=fun h=>by unfold eL;rw[if_neg h]
  have fit:∀ {n:Int},n=fZ l→(-9223372036854775808≤n∧n≤9223372036854775807)→eL l=(n,0):=fun {n} e h=>by subst e;unfold eL;rw[if_pos h]
  refine bZ (fun a0=>?_) fun a0=>?_
  ·refine bZ (fun a1=>is (fit ?_ ?_)) fun a1=>?_
   ·split at a1<;>omega
   ·split at a1<;>omega
   ·refine bZ (fun a2=>by omega) fun a2=>is (big ?_)
    split at a1<;>omega
  ·refine bZ (fun a2=>?_) fun a2=>is (big ?_)
   ·refine bZ (fun a1=>is (fit ?_ ?_)) fun a1=>is (big ?_)
    ·split at a1<;>omega
    ·split at a1<;>omega
    ·split at a1<;>omega
   ·omega
end Go.Pv
namespace Go.Pv
open Go Go.Proofs
def eB (k:Int) (L:List bE):List bE:=L.filter fun p=>decide (bS p=k)
def oP (L:List bE):List bE:=L.filter fun p=>decide (bS p=1)||decide (bS p=2)
def zI (d:aC) (node:ByteArray):List bE:=d.2.2.1.filter (QN d node)
def iD (m:aL) (L:List bE):List Int:=(oP L).map fun p=>(gM p m).1
def oD (d:aC) (node:ByteArray):List cN:=d.2.2.2.1.filter (jS d node)
def fA (k:Int) (S:List cN):List Int:=(S.filter fun s=>decide (s.2.2.2.1=k)).map fun s=>s.2.2.2.2.1
theorem filter_mono {α:Type} {p q:α→Bool} (h:∀ x,p x=true→q x=true):∀ {l:List α},(l.filter p).Sublist (l.filter q)
 | []=>.slnil
 | a::l=>by
  have ih:=filter_mono h (l:=l)
  cases hp:p a with
  | true =>
   rw[List.filter_cons_of_pos hp,List.filter_cons_of_pos (h a hp)]
   exact ih.cons_cons a
  | false =>
   rw[List.filter_cons_of_neg (by rw[hp];decide)]
   cases hq:q a with
   | true=>rw[List.filter_cons_of_pos hq];exact ih.cons a
   | false=>rw[List.filter_cons_of_neg (by rw[hq];decide)];exact ih
theorem Y0 {d:aC} {a b c:ByteArray} (h:(up d c).2=true) (hb:b∈iF d c) (ha:a∈iF d b):a∈iF d c:=by
 obtain ⟨v,e⟩:=AM0 h hb
 rw[e]
 exact List.mem_append_left _ ha
theorem S2:∀ (a b:List ByteArray),∃ v,a=comm a b++v
 | [],[]=>⟨[],rfl⟩
 | [],_::_=>⟨[],rfl⟩
 | x::a,[]=>⟨x::a,rfl⟩
 | x::a,y::b=>by
  unfold comm
  split
  ·obtain ⟨v,e⟩:=S2 a b
   exact ⟨v,by rw[List.cons_append,←e]⟩
  ·exact ⟨x::a,rfl⟩
theorem UR {l:List ByteArray} {x:ByteArray}:H8 l x=true↔x∈l:=by
 unfold H8
 rw[List.any_eq_true]
 exact ⟨fun ⟨y,hy,he⟩=>by rw[←of_decide_eq_true he];exact hy,fun h=>⟨x,h,decide_eq_true rfl⟩⟩
def tB (d:aC):Prop:=∀ p∈d.2.2.1,(cC d (jI p)).isSome=true∧(up d (jI p)).2=true
theorem AHL {d:aC} (hv:tB d) {id y:ByteArray} (hy:y∈pathOf d id):∃ c,pathOf d id=iF d c∧(up d c).2=true:=by
 unfold pathOf at hy ⊢
 cases hp:partOf d id with
 | none=>rw[hp] at hy;cases hy
 | some p =>
  obtain ⟨h1,h2⟩:=hv p (List.mem_of_find?_eq_some hp)
  obtain ⟨n,hn⟩:=Option.isSome_iff_exists.1 h1
  refine ⟨jI p,?_,h2⟩
  show pL d (jI p)=_
  unfold pL
  rw[hn];rfl
theorem AA4 {d:aC} (hv:tB d) {a b:ByteArray} (h:a∈iF d b) (s:cN) (hs:jS d b s=true):jS d a s=true:=by
 unfold jS at hs ⊢
 rw[UR] at hs ⊢
 unfold way at hs ⊢
 obtain ⟨v,e⟩:=S2 (pathOf d s.2.1) (pathOf d s.2.2.1)
 obtain ⟨c,e1,e2⟩:=AHL hv (show b∈pathOf d s.2.1 by rw[e];exact List.mem_append_left _ hs)
 generalize comm (pathOf d s.2.1) (pathOf d s.2.2.1)=W at *
 obtain ⟨u,w,rfl⟩:=List.append_of_mem hs
 have e3:iF d c=(u++[b])++(w++v):=by rw[←e1,e];simp
 obtain ⟨_,e4⟩:=MD e2 e3
 rw[e4] at h
 rw[show u++b::w=(u++[b])++w by simp]
 exact List.mem_append_left _ h
theorem ALQ {d:aC} {a b:ByteArray} (h:a∈iF d b) {p:bE} (hu:(up d (jI p)).2=true) (hs:QN d b p=true):QN d a p=true:=by
 unfold QN at hs ⊢
 rw[sH] at hs ⊢
 have:=Y0 hu (show b∈iF d (jI p) by unfold iF;simpa using hs) h
 unfold iF at this
 simpa using this
theorem ATH {d:aC} (hv:tB d) {a b:ByteArray} (h:a∈iF d b):(zI d b).Sublist (zI d a):=by
 unfold zI
 have key:∀ {l:List bE},(∀ p∈l,(up d (jI p)).2=true)→(l.filter (QN d b)).Sublist (l.filter (QN d a)):=fun {l}=>by
  induction l with
  | nil=>exact fun _=>.slnil
  | cons p l ih =>
   intro hl
   have ih:=ih fun q hq=>hl q (List.mem_cons_of_mem _ hq)
   cases hp:QN d b p with
   | true =>
    rw[List.filter_cons_of_pos hp,List.filter_cons_of_pos (ALQ h (hl p List.mem_cons_self) hp)]
    exact ih.cons_cons p
   | false =>
    rw[List.filter_cons_of_neg (by rw[hp];decide)]
    cases hq:QN d a p with
    | true=>rw[List.filter_cons_of_pos hq];exact ih.cons p
    | false=>rw[List.filter_cons_of_neg (by rw[hq];decide)];exact ih
 exact key fun p hp=>(hv p hp).2
theorem ANO {d:aC} (hv:tB d) {a b:ByteArray} (h:a∈iF d b):(oD d b).Sublist (oD d a):=filter_mono fun s hs=>AA4 hv h s hs
end Go.Pv
namespace Go.Pv
open Go Go.Proofs
noncomputable def AH8:Env:=Env.of [(25,.pure jE),(26,.pure o6),(27,.pure gW),(28,.pure iP),(29,.pure AY),(30,.pure vY),(31,.pure qC)]
def ARC:FuncId→Hint:=fun f=>match f == 10 with|true=>⟨fun r=>match r == 9 with|true=>.inv [.own 11 18 aQ,.box 5 J3,.val 50 false (.int .i64)]|false=>match r == 23 with|true=>.inv [.own 16 1 (.int .i64),.val 85 false (.int .i64),.fix 2]|false=>match r == 32 with|true=>.inv [.box 9 (.pr (.li (.int .i64)) (.pr (.li (.int .i64)) (.li (.int .i64)))),.zH 9 0 1 (.int .i64),.zH 9 1 1 (.int .i64),.zH 9 2 1 (.int .i64),.val 108 false (.int .i64)]|false=>match r == 40 with|true=>.QL 4|false=>.none,fun _ _=>none,fun _=>none⟩|false=>aU
theorem AOF:aF Tryz.prog AH8:=aF.cons (x:=.pure jE) OP (aF.cons (x:=.pure o6) AFM (aF.cons (x:=.pure gW) HP (aF.cons (x:=.pure iP) LJ (aF.cons (x:=.pure AY) APM (aF.cons (x:=.pure vY) APL (aF.cons (x:=.pure qC) APO (aF.nil _)))))))
def AI4 (a0:aC) (a1:aL) (a2:ByteArray) (R:T→Prop):Prop :=
 aH [(true,bM),(false,Sy.bool)]
 (jE [aD true aN a0,T.v (.string a2)]) fun (y0:jW×Bool) =>
 aB (!y0.2)
 (R
 (T.cF
 [T.agg
 [T.v (.string { data:=#[] }),T.v (.int .i64 0),
 T.v (.int .i64 0),T.v (.int .i64 0),
 T.v (.int .i64 0),T.v (.int .i64 0)],
 T.v (.int .i64 8)]))
 (aB (!decide (y0.1.2.1=2))
 (R
 (T.cF
 [T.agg
 [T.v (.string { data:=#[] }),T.v (.int .i64 0),
 T.v (.int .i64 0),T.v (.int .i64 0),
 T.v (.int .i64 0),T.v (.int .i64 0)],
 T.v (.int .i64 10)]))
 (aH [(false,Sy.str.li)]
 (o6 [aD true aN a0,T.v (.string a2)]) fun (y1:List ByteArray) =>
 bB (List bE×jA×Int×PUnit)
 (fun (X2:List bE×jA×Int×PUnit→Prop)
 (s3:List bE×jA×Int×PUnit) =>
 aB (decide (s3.2.2.1<(↑(List.map Sy.str.enc y1).length:Int)))
 (aP Sy.str (List.map Sy.str.enc y1) s3.2.2.1 fun (y4:ByteArray) =>
 aH [(true,aQ),(false,Sy.bool)]
 (gW [aD true aN a0,T.v (.string y4)])
 fun (y5:bE×Bool) =>
 aB (decide (y5.1.2.2.1=1))
 (bO
 (decide (((List.map aQ.enc s3.1).length+1)*208≤140737488355328) &&
 decide ((List.map aQ.enc s3.1).length+1≤140737488355328))
 (bA aQ
 (List.map aQ.enc s3.1 ++
 [[T.v (.string y5.1.1),
 T.v (.int .i64 y5.1.2.1),
 T.v (.int .i64 y5.1.2.2.1),
 T.v (.string y5.1.2.2.2.1),
 T.v (.string y5.1.2.2.2.2.1),
 T.v (.int .i64 y5.1.2.2.2.2.2.1),
 T.sl false (List.map aA.enc y5.1.2.2.2.2.2.2.1.1),
 T.sl false (List.map aA.li.enc y5.1.2.2.2.2.2.2.1.2),
 T.v (.string y5.1.2.2.2.2.2.2.2.1),
 T.v (.int .i64 y5.1.2.2.2.2.2.2.2.2.1),
 T.v (.int .i64 y5.1.2.2.2.2.2.2.2.2.2.1),
 T.v
 (Value.int IntKind.i64 y5.1.2.2.2.2.2.2.2.2.2.2.1.1),
 T.v
 (Value.int IntKind.i64
 y5.1.2.2.2.2.2.2.2.2.2.2.1.2.1),
 T.v
 (Value.int IntKind.i64
 y5.1.2.2.2.2.2.2.2.2.2.2.1.2.2),
 T.v
 (Value.int IntKind.i64
 y5.1.2.2.2.2.2.2.2.2.2.2.2.1.1),
 T.v
 (Value.int IntKind.i64
 y5.1.2.2.2.2.2.2.2.2.2.2.2.1.2.1),
 T.v
 (Value.int IntKind.i64
 y5.1.2.2.2.2.2.2.2.2.2.2.2.1.2.2),
 T.v
 (Value.int IntKind.i64 y5.1.2.2.2.2.2.2.2.2.2.2.2.2)]])
 fun (y6:List bE) =>
 X2
 (y6,
 (s3.2.1.1,IntKind.i64.wrap (s3.2.1.2.1+1),s3.2.1.2.2.1,
 s3.2.1.2.2.2.1,s3.2.1.2.2.2.2.1,
 s3.2.1.2.2.2.2.2),
 IntKind.i64.wrap (s3.2.2.1+1),())))
 (aB (decide (y5.1.2.2.1=2))
 (bO
 (decide (((List.map aQ.enc s3.1).length+1)*208≤140737488355328) &&
 decide ((List.map aQ.enc s3.1).length+1≤140737488355328))
 (bA aQ
 (List.map aQ.enc s3.1 ++
 [[T.v (.string y5.1.1),
 T.v (.int .i64 y5.1.2.1),
 T.v (.int .i64 y5.1.2.2.1),
 T.v (.string y5.1.2.2.2.1),
 T.v (.string y5.1.2.2.2.2.1),
 T.v (.int .i64 y5.1.2.2.2.2.2.1),
 T.sl false (List.map aA.enc y5.1.2.2.2.2.2.2.1.1),
 T.sl false (List.map aA.li.enc y5.1.2.2.2.2.2.2.1.2),
 T.v (.string y5.1.2.2.2.2.2.2.2.1),
 T.v (.int .i64 y5.1.2.2.2.2.2.2.2.2.1),
 T.v (.int .i64 y5.1.2.2.2.2.2.2.2.2.2.1),
 T.v
 (Value.int IntKind.i64 y5.1.2.2.2.2.2.2.2.2.2.2.1.1),
 T.v
 (Value.int IntKind.i64
 y5.1.2.2.2.2.2.2.2.2.2.2.1.2.1),
 T.v
 (Value.int IntKind.i64
 y5.1.2.2.2.2.2.2.2.2.2.2.1.2.2),
 T.v
 (Value.int IntKind.i64
 y5.1.2.2.2.2.2.2.2.2.2.2.2.1.1),
 T.v
 (Value.int IntKind.i64
 y5.1.2.2.2.2.2.2.2.2.2.2.2.1.2.1),
 T.v
 (Value.int IntKind.i64
 y5.1.2.2.2.2.2.2.2.2.2.2.2.1.2.2),
 T.v
 (Value.int IntKind.i64
 y5.1.2.2.2.2.2.2.2.2.2.2.2.2)]])
 fun (y7:List bE) =>
 X2
 (y7,
 (s3.2.1.1,s3.2.1.2.1,IntKind.i64.wrap (s3.2.1.2.2.1+1),
 s3.2.1.2.2.2.1,s3.2.1.2.2.2.2.1,
 s3.2.1.2.2.2.2.2),
 IntKind.i64.wrap (s3.2.2.1+1),())))
 (bA aQ (List.map aQ.enc s3.1) fun (y8:List bE) =>
 X2
 (y8,
 (s3.2.1.1,s3.2.1.2.1,s3.2.1.2.2.1,s3.2.1.2.2.2.1,
 s3.2.1.2.2.2.2.1,s3.2.1.2.2.2.2.2),
 IntKind.i64.wrap (s3.2.2.1+1),()))))
 (aB (decide (s3.2.1.2.1=0))
 (R
 (T.cF
 [T.agg
 [T.v (.string { data:=#[] }),T.v (.int .i64 0),
 T.v (.int .i64 0),T.v (.int .i64 0),
 T.v (.int .i64 0),T.v (.int .i64 0)],
 T.v (.int .i64 17)]))
 (eJ
 (aS.rows false
 [[D.p (T.v (.string { data:=#[] })),
 D.p (T.v (.int .i64 0)),
 D.p (T.v (.int .i64 0)),
 D.p (T.v (.int .i64 0)),
 D.p (T.v (.int .i64 0)),
 D.p (T.v (.int .i64 0))]])
 (aS.rows false
 [[D.p (T.v (.string { data:=#[] })),
 D.p (T.v (.int .i64 0)),
 D.p (T.v (.int .i64 0)),
 D.p (T.v (.int .i64 0)),
 D.p (T.v (.int .i64 0)),
 D.p (T.v (.int .i64 0))]])
 (bB (List Int×Int×PUnit×PUnit)
 (fun (X9:List Int×Int×PUnit×PUnit→Prop) (s10:List Int×Int×PUnit×PUnit) =>
 aB (decide (s10.2.1<(↑(List.map aQ.enc s3.1).length:Int)))
 (aP aQ (List.map aQ.enc s3.1) s10.2.1
 fun (y11:bE) =>
 lG aQ (List.map aQ.enc s3.1) (Int.toNat s10.2.1) 0
 fun (y12:bE) =>
 aH [(false,Sy.int IntKind.i64),(false,Sy.int IntKind.i64)]
 (iP [aD true aQ y12,aD true aI a1])
 fun (y13:aK) =>
 aB (!decide (y13.2=0))
 (R
 (T.cF
 [T.agg
 [T.v (.string { data:=#[] }),
 T.v (.int .i64 0),
 T.v (.int .i64 0),
 T.v (.int .i64 0),
 T.v (.int .i64 0),
 T.v (.int .i64 0)],
 T.v (.int .i64 y13.2)]))
 (bO
 (decide
 (((List.map (Sy.int IntKind.i64).enc s10.1).length+1)*8 ≤
 140737488355328) &&
 decide
 ((List.map (Sy.int IntKind.i64).enc s10.1).length+1 ≤
 140737488355328))
 (bA (Sy.int IntKind.i64)
 (List.map (Sy.int IntKind.i64).enc s10.1 ++
 [[T.v (.int .i64 y13.1)]])
 fun (y14:List Int) =>
 eJ
 (aS.rows false
 [[D.p (T.v (.string { data:=#[] })),
 D.p (T.v (.int .i64 0)),
 D.p (T.v (.int .i64 0)),
 D.p (T.v (.int .i64 0)),
 D.p (T.v (.int .i64 0)),
 D.p (T.v (.int .i64 0))]])
 (aS.rows false
 [[D.p (T.v (.string { data:=#[] })),
 D.p (T.v (.int .i64 0)),
 D.p (T.v (.int .i64 0)),
 D.p (T.v (.int .i64 0)),
 D.p (T.v (.int .i64 0)),
 D.p (T.v (.int .i64 0))]])
 (X9 (y14,IntKind.i64.wrap (s10.2.1+1),(),())))))
 (aH [(false,Sy.str.li)]
 (AY [aD true aN a0,T.v (.string a2)])
 fun (y15:List ByteArray) =>
 bA (Sy.int IntKind.i64) [] fun (y16:List Int) =>
 bA (Sy.int IntKind.i64) [] fun (y17:List Int) =>
 bA (Sy.int IntKind.i64) [] fun (y18:List Int) =>
 bB
 ((List Int×List Int×List Int)×List Int×List Int×List Int×Int×PUnit)
 (fun
 (X19 :
 (List Int×List Int×List Int) ×
 List Int×List Int×List Int×Int×PUnit →
 Prop)
 (s20 :
 (List Int×List Int×List Int) ×
 List Int×List Int×List Int×Int×PUnit) =>
 aB
 (decide
 (s20.2.2.2.2.1<(↑(List.map Sy.str.enc y15).length:Int)))
 (aP Sy.str (List.map Sy.str.enc y15) s20.2.2.2.2.1
 fun (y21:ByteArray) =>
 aH [(true,bT),(false,Sy.bool)]
 (vY
 [aD true aN a0,T.v (.string y21)])
 fun (y22:cN×Bool) =>
 aB (decide (y22.1.2.2.2.1=1))
 (aB (decide (y22.1.2.2.2.1=Int.ofNat 0))
 (bO
 (decide
 (((List.map (Sy.int IntKind.i64).enc s20.2.1).length +
 1) *
 8 ≤
 140737488355328) &&
 decide
 ((List.map (Sy.int IntKind.i64).enc s20.2.1).length +
 1 ≤
 140737488355328))
 (aB (decide (y22.1.2.2.2.1=Int.ofNat 0))
 (bA (Sy.int IntKind.i64) [] fun (y23:List Int) =>
 bA (Sy.int IntKind.i64) [] fun (y24:List Int) =>
 bA (Sy.int IntKind.i64) []
 fun (y25:List Int) =>
 bA (Sy.int IntKind.i64)
 (List.map (Sy.int IntKind.i64).enc s20.2.1 ++
 [[T.v
 (Value.int IntKind.i64
 y22.1.2.2.2.2.1)]])
 fun (y26:List Int) =>
 bA (Sy.int IntKind.i64)
 (List.map (Sy.int IntKind.i64).enc s20.2.2.1)
 fun (y27:List Int) =>
 bA (Sy.int IntKind.i64)
 (List.map (Sy.int IntKind.i64).enc
 s20.2.2.2.1)
 fun (y28:List Int) =>
 X19
 ((y23,y24,y25),y26,y27,y28,
 IntKind.i64.wrap (s20.2.2.2.2.1+1),
 ()))
 (aB (decide (y22.1.2.2.2.1=Int.ofNat (0+1)))
 (bA (Sy.int IntKind.i64) [] fun (y29:List Int) =>
 bA (Sy.int IntKind.i64) []
 fun (y30:List Int) =>
 bA (Sy.int IntKind.i64) []
 fun (y31:List Int)=>nG 333)
 (aB
 (decide (y22.1.2.2.2.1=Int.ofNat (0+1+1)))
 (bA (Sy.int IntKind.i64) []
 fun (y32:List Int) =>
 bA (Sy.int IntKind.i64) []
 fun (y33:List Int) =>
 bA (Sy.int IntKind.i64) []
 fun (y34:List Int)=>nG 333)
 (nG 18)))))
 (aB (decide (y22.1.2.2.2.1=Int.ofNat (0+1)))
 (bO
 (decide
 (((List.map (Sy.int IntKind.i64).enc
 s20.2.2.1).length +
 1) *
 8 ≤
 140737488355328) &&
 decide
 ((List.map (Sy.int IntKind.i64).enc
 s20.2.2.1).length +
 1 ≤
 140737488355328))
 (aB (decide (y22.1.2.2.2.1=Int.ofNat 0))
 (bA (Sy.int IntKind.i64) [] fun (y35:List Int) =>
 bA (Sy.int IntKind.i64) []
 fun (y36:List Int) =>
 bA (Sy.int IntKind.i64) []
 fun (y37:List Int) =>
 bA (Sy.int IntKind.i64)
 (List.map (Sy.int IntKind.i64).enc
 s20.2.2.1 ++
 [[T.v
 (Value.int IntKind.i64
 y22.1.2.2.2.2.1)]])
 fun (y38:List Int)=>nG 333)
 (aB (decide (y22.1.2.2.2.1=Int.ofNat (0+1)))
 (bA (Sy.int IntKind.i64) []
 fun (y39:List Int) =>
 bA (Sy.int IntKind.i64) []
 fun (y40:List Int) =>
 bA (Sy.int IntKind.i64) []
 fun (y41:List Int) =>
 bA (Sy.int IntKind.i64)
 (List.map (Sy.int IntKind.i64).enc s20.2.1)
 fun (y42:List Int) =>
 bA (Sy.int IntKind.i64)
 (List.map (Sy.int IntKind.i64).enc
 s20.2.2.1 ++
 [[T.v
 (Value.int IntKind.i64
 y22.1.2.2.2.2.1)]])
 fun (y43:List Int) =>
 bA (Sy.int IntKind.i64)
 (List.map (Sy.int IntKind.i64).enc
 s20.2.2.2.1)
 fun (y44:List Int) =>
 X19
 ((y39,y40,y41),y42,y43,y44,
 IntKind.i64.wrap (s20.2.2.2.2.1+1),
 ()))
 (aB
 (decide (y22.1.2.2.2.1=Int.ofNat (0+1+1)))
 (bA (Sy.int IntKind.i64) []
 fun (y45:List Int) =>
 bA (Sy.int IntKind.i64) []
 fun (y46:List Int) =>
 bA (Sy.int IntKind.i64) []
 fun (y47:List Int) =>
 bA (Sy.int IntKind.i64)
 (List.map (Sy.int IntKind.i64).enc s20.2.1)
 fun (y48:List Int)=>nG 333)
 (nG 18)))))
 (aB (decide (y22.1.2.2.2.1=Int.ofNat (0+1+1)))
 (bO
 (decide
 (((List.map (Sy.int IntKind.i64).enc
 s20.2.2.2.1).length +
 1) *
 8 ≤
 140737488355328) &&
 decide
 ((List.map (Sy.int IntKind.i64).enc
 s20.2.2.2.1).length +
 1 ≤
 140737488355328))
 (aB (decide (y22.1.2.2.2.1=Int.ofNat 0))
 (bA (Sy.int IntKind.i64) []
 fun (y49:List Int) =>
 bA (Sy.int IntKind.i64) []
 fun (y50:List Int) =>
 bA (Sy.int IntKind.i64) []
 fun (y51:List Int) =>
 bA (Sy.int IntKind.i64)
 (List.map (Sy.int IntKind.i64).enc
 s20.2.2.2.1 ++
 [[T.v
 (Value.int IntKind.i64
 y22.1.2.2.2.2.1)]])
 fun (y52:List Int) =>
 bA (Sy.int IntKind.i64)
 (List.map (Sy.int IntKind.i64).enc
 s20.2.2.1)
 fun (y53:List Int)=>nG 333)
 (aB (decide (y22.1.2.2.2.1=Int.ofNat (0+1)))
 (bA (Sy.int IntKind.i64) []
 fun (y54:List Int) =>
 bA (Sy.int IntKind.i64) []
 fun (y55:List Int) =>
 bA (Sy.int IntKind.i64) []
 fun (y56:List Int) =>
 bA (Sy.int IntKind.i64)
 (List.map (Sy.int IntKind.i64).enc s20.2.1)
 fun (y57:List Int) =>
 bA (Sy.int IntKind.i64)
 (List.map (Sy.int IntKind.i64).enc
 s20.2.2.2.1 ++
 [[T.v
 (Value.int IntKind.i64
 y22.1.2.2.2.2.1)]])
 fun (y58:List Int)=>nG 333)
 (aB
 (decide (y22.1.2.2.2.1=Int.ofNat (0+1+1)))
 (bA (Sy.int IntKind.i64) []
 fun (y59:List Int) =>
 bA (Sy.int IntKind.i64) []
 fun (y60:List Int) =>
 bA (Sy.int IntKind.i64) []
 fun (y61:List Int) =>
 bA (Sy.int IntKind.i64)
 (List.map (Sy.int IntKind.i64).enc
 s20.2.1)
 fun (y62:List Int) =>
 bA (Sy.int IntKind.i64)
 (List.map (Sy.int IntKind.i64).enc
 s20.2.2.1)
 fun (y63:List Int) =>
 bA (Sy.int IntKind.i64)
 (List.map (Sy.int IntKind.i64).enc
 s20.2.2.2.1 ++
 [[T.v
 (Value.int IntKind.i64
 y22.1.2.2.2.2.1)]])
 fun (y64:List Int) =>
 X19
 ((y59,y60,y61),y62,y63,y64,
 IntKind.i64.wrap
 (s20.2.2.2.2.1+1),
 ()))
 (nG 18)))))
 (nG 18))))
 (aB (decide (y22.1.2.2.2.1=2))
 (aB (decide (y22.1.2.2.2.1=Int.ofNat 0))
 (bO
 (decide
 (((List.map (Sy.int IntKind.i64).enc
 s20.2.1).length +
 1) *
 8 ≤
 140737488355328) &&
 decide
 ((List.map (Sy.int IntKind.i64).enc s20.2.1).length +
 1 ≤
 140737488355328))
 (aB (decide (y22.1.2.2.2.1=Int.ofNat 0))
 (bA (Sy.int IntKind.i64) [] fun (y65:List Int) =>
 bA (Sy.int IntKind.i64) []
 fun (y66:List Int) =>
 bA (Sy.int IntKind.i64) []
 fun (y67:List Int) =>
 bA (Sy.int IntKind.i64)
 (List.map (Sy.int IntKind.i64).enc s20.2.1 ++
 [[T.v
 (Value.int IntKind.i64
 y22.1.2.2.2.2.1)]])
 fun (y68:List Int) =>
 bA (Sy.int IntKind.i64)
 (List.map (Sy.int IntKind.i64).enc
 s20.2.2.1)
 fun (y69:List Int) =>
 bA (Sy.int IntKind.i64)
 (List.map (Sy.int IntKind.i64).enc
 s20.2.2.2.1)
 fun (y70:List Int) =>
 X19
 ((y65,y66,y67),y68,y69,y70,
 IntKind.i64.wrap (s20.2.2.2.2.1+1),
 ()))
 (aB (decide (y22.1.2.2.2.1=Int.ofNat (0+1)))
 (bA (Sy.int IntKind.i64) []
 fun (y71:List Int) =>
 bA (Sy.int IntKind.i64) []
 fun (y72:List Int) =>
 bA (Sy.int IntKind.i64) []
 fun (y73:List Int)=>nG 333)
 (aB
 (decide (y22.1.2.2.2.1=Int.ofNat (0+1+1)))
 (bA (Sy.int IntKind.i64) []
 fun (y74:List Int) =>
 bA (Sy.int IntKind.i64) []
 fun (y75:List Int) =>
 bA (Sy.int IntKind.i64) []
 fun (y76:List Int)=>nG 333)
 (nG 18)))))
 (aB (decide (y22.1.2.2.2.1=Int.ofNat (0+1)))
 (bO
 (decide
 (((List.map (Sy.int IntKind.i64).enc
 s20.2.2.1).length +
 1) *
 8 ≤
 140737488355328) &&
 decide
 ((List.map (Sy.int IntKind.i64).enc
 s20.2.2.1).length +
 1 ≤
 140737488355328))
 (aB (decide (y22.1.2.2.2.1=Int.ofNat 0))
 (bA (Sy.int IntKind.i64) []
 fun (y77:List Int) =>
 bA (Sy.int IntKind.i64) []
 fun (y78:List Int) =>
 bA (Sy.int IntKind.i64) []
 fun (y79:List Int) =>
 bA (Sy.int IntKind.i64)
 (List.map (Sy.int IntKind.i64).enc
 s20.2.2.1 ++
 [[T.v
 (Value.int IntKind.i64
 y22.1.2.2.2.2.1)]])
 fun (y80:List Int)=>nG 333)
 (aB (decide (y22.1.2.2.2.1=Int.ofNat (0+1)))
 (bA (Sy.int IntKind.i64) []
 fun (y81:List Int) =>
 bA (Sy.int IntKind.i64) []
 fun (y82:List Int) =>
 bA (Sy.int IntKind.i64) []
 fun (y83:List Int) =>
 bA (Sy.int IntKind.i64)
 (List.map (Sy.int IntKind.i64).enc s20.2.1)
 fun (y84:List Int) =>
 bA (Sy.int IntKind.i64)
 (List.map (Sy.int IntKind.i64).enc
 s20.2.2.1 ++
 [[T.v
 (Value.int IntKind.i64
 y22.1.2.2.2.2.1)]])
 fun (y85:List Int) =>
 bA (Sy.int IntKind.i64)
 (List.map (Sy.int IntKind.i64).enc
 s20.2.2.2.1)
 fun (y86:List Int) =>
 X19
 ((y81,y82,y83),y84,y85,y86,
 IntKind.i64.wrap
 (s20.2.2.2.2.1+1),
 ()))
 (aB
 (decide (y22.1.2.2.2.1=Int.ofNat (0+1+1)))
 (bA (Sy.int IntKind.i64) []
 fun (y87:List Int) =>
 bA (Sy.int IntKind.i64) []
 fun (y88:List Int) =>
 bA (Sy.int IntKind.i64) []
 fun (y89:List Int) =>
 bA (Sy.int IntKind.i64)
 (List.map (Sy.int IntKind.i64).enc
 s20.2.1)
 fun (y90:List Int)=>nG 333)
 (nG 18)))))
 (aB (decide (y22.1.2.2.2.1=Int.ofNat (0+1+1)))
 (bO
 (decide
 (((List.map (Sy.int IntKind.i64).enc
 s20.2.2.2.1).length +
 1) *
 8 ≤
 140737488355328) &&
 decide
 ((List.map (Sy.int IntKind.i64).enc
 s20.2.2.2.1).length +
 1 ≤
 140737488355328))
 (aB (decide (y22.1.2.2.2.1=Int.ofNat 0))
 (bA (Sy.int IntKind.i64) []
 fun (y91:List Int) =>
 bA (Sy.int IntKind.i64) []
 fun (y92:List Int) =>
 bA (Sy.int IntKind.i64) []
 fun (y93:List Int) =>
 bA (Sy.int IntKind.i64)
 (List.map (Sy.int IntKind.i64).enc
 s20.2.2.2.1 ++
 [[T.v
 (Value.int IntKind.i64
 y22.1.2.2.2.2.1)]])
 fun (y94:List Int) =>
 bA (Sy.int IntKind.i64)
 (List.map (Sy.int IntKind.i64).enc
 s20.2.2.1)
 fun (y95:List Int)=>nG 333)
 (aB
 (decide (y22.1.2.2.2.1=Int.ofNat (0+1)))
 (bA (Sy.int IntKind.i64) []
 fun (y96:List Int) =>
 bA (Sy.int IntKind.i64) []
 fun (y97:List Int) =>
 bA (Sy.int IntKind.i64) []
 fun (y98:List Int) =>
 bA (Sy.int IntKind.i64)
 (List.map (Sy.int IntKind.i64).enc
 s20.2.1)
 fun (y99:List Int) =>
 bA (Sy.int IntKind.i64)
 (List.map (Sy.int IntKind.i64).enc
 s20.2.2.2.1 ++
 [[T.v
 (Value.int IntKind.i64
 y22.1.2.2.2.2.1)]])
 fun (y100:List Int)=>nG 333)
 (aB
 (decide (y22.1.2.2.2.1=Int.ofNat (0+1+1)))
 (bA (Sy.int IntKind.i64) []
 fun (y101:List Int) =>
 bA (Sy.int IntKind.i64) []
 fun (y102:List Int) =>
 bA (Sy.int IntKind.i64) []
 fun (y103:List Int) =>
 bA (Sy.int IntKind.i64)
 (List.map (Sy.int IntKind.i64).enc
 s20.2.1)
 fun (y104:List Int) =>
 bA (Sy.int IntKind.i64)
 (List.map (Sy.int IntKind.i64).enc
 s20.2.2.1)
 fun (y105:List Int) =>
 bA (Sy.int IntKind.i64)
 (List.map (Sy.int IntKind.i64).enc
 s20.2.2.2.1 ++
 [[T.v
 (Value.int IntKind.i64
 y22.1.2.2.2.2.1)]])
 fun (y106:List Int) =>
 X19
 ((y101,y102,y103),y104,y105,y106,
 IntKind.i64.wrap
 (s20.2.2.2.2.1+1),
 ()))
 (nG 18)))))
 (nG 18))))
 (bA (Sy.int IntKind.i64) [] fun (y107:List Int) =>
 bA (Sy.int IntKind.i64) [] fun (y108:List Int) =>
 bA (Sy.int IntKind.i64) [] fun (y109:List Int) =>
 bA (Sy.int IntKind.i64)
 (List.map (Sy.int IntKind.i64).enc s20.2.1)
 fun (y110:List Int) =>
 bA (Sy.int IntKind.i64)
 (List.map (Sy.int IntKind.i64).enc s20.2.2.1)
 fun (y111:List Int) =>
 bA (Sy.int IntKind.i64)
 (List.map (Sy.int IntKind.i64).enc
 s20.2.2.2.1)
 fun (y112:List Int) =>
 X19
 ((y107,y108,y109),y110,y111,y112,
 IntKind.i64.wrap (s20.2.2.2.2.1+1),()))))
 (aH
 [(false,Sy.int IntKind.i64),(false,Sy.int IntKind.i64)]
 (qC
 [T.sl false
 (List.map (Sy.int IntKind.i64).enc s20.2.2.1)])
 fun (y113:aK) =>
 aB (!decide (y113.2=0))
 (R
 (T.cF
 [T.agg
 [T.v (.string { data:=#[] }),
 T.v (.int .i64 0),
 T.v (.int .i64 0),
 T.v (.int .i64 0),
 T.v (.int .i64 0),
 T.v (.int .i64 0)],
 T.v (.int .i64 y113.2)]))
 (aH
 [(false,Sy.int IntKind.i64),(false,Sy.int IntKind.i64)]
 (qC
 [T.sl false
 (List.map (Sy.int IntKind.i64).enc s20.2.2.2.1)])
 fun (y114:aK) =>
 aB (!decide (y114.2=0))
 (R
 (T.cF
 [T.agg
 [T.v (.string { data:=#[] }),
 T.v (.int .i64 0),
 T.v (.int .i64 0),
 T.v (.int .i64 0),
 T.v (.int .i64 0),
 T.v (.int .i64 0)],
 T.v (.int .i64 y114.2)]))
 (aH
 [(false,Sy.int IntKind.i64),
 (false,Sy.int IntKind.i64)]
 (qC
 [T.sl false
 (List.map (Sy.int IntKind.i64).enc s10.1)])
 fun (y115:aK) =>
 aB (!decide (y115.2=0))
 (R
 (T.cF
 [T.agg
 [T.v (.string { data:=#[] }),
 T.v (.int .i64 0),
 T.v (.int .i64 0),
 T.v (.int .i64 0),
 T.v (.int .i64 0),
 T.v (.int .i64 0)],
 T.v (.int .i64 y115.2)]))
 (R
 (T.cF
 [T.agg
 [T.v (.string s3.2.1.1),
 T.v (.int .i64 s3.2.1.2.1),
 T.v
 (Value.int IntKind.i64 s3.2.1.2.2.1),
 T.v (.int .i64 y113.1),
 T.v (.int .i64 y114.1),
 T.v (.int .i64 y115.1)],
 T.v (.int .i64 0)]))))))
 ((y16,y17,y18),[],[],[],0,())))
 ([],0,(),())))))
 ([],(a2,0,0,0,0,0),0,())))
theorem AI5 ( a0 a1 a2 R):bJ aV Tryz.prog AH8 ARC 8 10 [aD true aN a0,aD true aI a1,aD false Sy.str a2] R=AI4 a0 a1 a2 R:=by kernel_rfl
abbrev AC9:Sh:=[(true,aN),(true,aI),(false,Sy.str)]
def AMZ (d:aC) (id:ByteArray):bE:=(found BX (partOf d id)).1
def bX (d:aC) (node:ByteArray):List bE:=(lR d node).map (AMZ d)
def ANG (d:aC) (id:ByteArray):cN:=(found BY (qV d id)).1
def eD (d:aC) (node:ByteArray):List cN:=(oB d (jS d node)).map (ANG d)
def n7 (m:aL) (L:List bE):Int:=bK (fun p=>(gM p m).2) (oP L)
abbrev fM:jA:=(⟨#[]⟩,0,0,0,0,0)
def WI (d:aC) (m:aL) (node:ByteArray):jA×Int:=match cC d node with
 | none=>(fM,8)
 | some n=>if ¬ n.2.1=2 then (fM,10) else if ((eB 1 (bX d node)).length:Int)=0 then (fM,17) else if ¬ n7 m (bX d node)=0 then (fM,n7 m (bX d node)) else
  if ¬ (eL (fA 1 (eD d node))).2=0 then (fM,(eL (fA 1 (eD d node))).2) else if ¬ (eL (fA 2 (eD d node))).2=0 then (fM,(eL (fA 2 (eD d node))).2) else if ¬ (eL (iD m (bX d node))).2=0 then (fM,(eL (iD m (bX d node))).2) else
  ((node,((eB 1 (bX d node)).length:Int),((eB 2 (bX d node)).length:Int),(eL (fA 1 (eD d node))).1,(eL (fA 2 (eD d node))).1,(eL (iD m (bX d node))).1),0)
abbrev AHO:Sh:=[(true,J3),(false,.int .i64)]
def okG (d:aC) (m:aL) (node:ByteArray):Bool:=((okD d&&sE d 100)&&decide (d.2.2.2.1.length≤1000))&&(L6 m&&(rF (fA 1 (eD d node))&&(rF (fA 2 (eD d node))&&rF (iD m (bX d node)))))
def CK (x:aC×aL×ByteArray):Option T:=match okG x.1 x.2.1 x.2.2 with
 | true=>some (Sh.enc AHO (WI x.1 x.2.1 x.2.2))
 | false=>none
noncomputable def DB:List T→Option (T):=gS AC9 CK
theorem ALC {a0 a1 a2}:DB [aD true aN a0,aD true aI a1,T.v (.string a2)]=CK (a0,a1,a2):=bH (s:=AC9) rfl (a0,a1,a2) rfl
theorem AT0 (h:∀ a0 a1 a2 r,CK (a0,a1,a2)=some r→cR AC9 (a0,a1,a2)→AI4 a0 a1 a2 (fun y=>y=r)):aJ Tryz.prog 10 DB :=
 aX (E:=AH8) (Hs:=ARC) AOF a6 a7 (aM rfl) 8 ⟨_,_,Tryz.func10,rfl⟩ rfl fun x r h1 h2=>by
  obtain ⟨a0,a1,a2⟩:=x
  rw[show Sh.cA AC9 (a0,a1,a2)=[aD true aN a0,aD true aI a1,aD false Sy.str a2] from rfl,AI5]
  exact h a0 a1 a2 r h1 h2
theorem AKI {r:Sy} (hr:r.pure=true) {l:List r.den} {q:r.den} {row:List T} (e:row=r.enc q) {K:List r.den→Prop} (h:K (l++[q])):bA r (List.map r.enc l++[row]) K:=by
 subst e
 rw[show List.map r.enc l++[r.enc q]=List.map r.enc (l++[q]) by simp,c9 hr];exact h
theorem S5 {r:Sy} (hr:r.pure=true) {l:List r.den} {K:List r.den→Prop} (h:K l):bA r (List.map r.enc l) K:=by rw[c9 hr];exact h
theorem I8 {α:Type} {f:α→List T} {l:List α} {b:Nat} (hl:l.length≤1000) (hb:b≤1000):(decide (((List.map f l).length+1)*b≤140737488355328)&&decide ((List.map f l).length+1≤140737488355328))=true:=by
 rw[List.length_map]
 have:=Nat.mul_le_mul (show l.length+1≤1001 by omega) hb
 rw[decide_eq_true (by omega),decide_eq_true (by omega)];rfl
theorem wU {L:List bE} {q:bE}:oP (L++[q])=oP L++(if bS q=1∨bS q=2 then [q] else []):=by
 unfold oP
 rw[List.filter_append]
 congr 1
 by_cases h1:bS q=1
 ·rw[if_pos (.inl h1)];simp[h1]
 ·by_cases h2:bS q=2
  ·rw[if_pos (.inr h2)];simp[h2]
  ·rw[if_neg (by omega)];simp[h1,h2]
theorem mI {k:Int} {L:List bE} {q:bE}:(eB k (L++[q])).length=(eB k L).length+(if bS q=k then 1 else 0):=by
 unfold eB
 rw[List.filter_append,List.length_append]
 by_cases h1:bS q=k
 ·rw[if_pos h1];simp[h1]
 ·rw[if_neg h1];simp[h1]
theorem pH {k:Int} {S:List cN} {s:cN}:fA k (S++[s])=fA k S++(if s.2.2.2.1=k then [s.2.2.2.2.1] else []):=by
 unfold fA
 rw[List.filter_append,List.map_append]
 congr 1
 by_cases h1:s.2.2.2.1=k
 ·rw[if_pos h1];simp[h1]
 ·rw[if_neg h1];simp[h1]
theorem CX {L:List bE}:(oP L).length≤L.length:=List.length_filter_le ..
theorem UW {k:Int} {L:List bE}:(eB k L).length≤L.length:=List.length_filter_le ..
theorem IE {k:Int} {S:List cN}:(fA k S).length≤S.length:=by unfold fA;rw[List.length_map];exact List.length_filter_le ..
theorem C0 {α:Type} {l:List α} {k:Nat} (h:k<l.length):l.take (k+1)=l.take k++[l[k]]:=by rw[List.take_add_one,List.getElem?_eq_getElem h];rfl
theorem ASU:aJ Tryz.prog 10 DB:=AT0 fun d m node r h hb=>by
 clear hb
 have ok:okG d m node=true:=by
  unfold CK at h
  split at h
  ·rename_i hc;exact hc
  ·cases h
 have e:Sh.enc AHO (WI d m node)=r:=by
  unfold CK at h
  rw[show okG (d,m,node).1 (d,m,node).2.1 (d,m,node).2.2=true from ok] at h
  exact Option.some.inj h
 subst e
 clear h
 simp only[okG,Bool.and_eq_true,decide_eq_true_eq] at ok
 obtain ⟨⟨⟨hD,hL⟩,hSm⟩,hM,k1,k2,k3⟩:=ok
 have hl:d.2.1.length≤100∧d.2.2.1.length≤100:=by
  simp only[sE,Bool.and_eq_true,decide_eq_true_eq] at hL;omega
 have is:∀ {p:jA} {b:Int},WI d m node=(p,b)→T.cF [T.agg [T.v (.string p.1),T.v (.int .i64 p.2.1),T.v (.int .i64 p.2.2.1),T.v (.int .i64 p.2.2.2.1),T.v (.int .i64 p.2.2.2.2.1),T.v (.int .i64 p.2.2.2.2.2)],T.v (.int .i64 b)]=Sh.enc AHO (WI d m node):=fun h=>by rw[h];rfl
 unfold AI4
 refine aG (s:=[(true,bM),(false,.bool)]) (y:=found BW (cC d node)) AX ?_
 cases hn:cC d node with
 | none=>exact lC (fun _=>is (p:=fM) (by unfold WI;rw[hn])) fun h=>Bool.noConfusion h
 | some n =>
  refine lC (fun h=>Bool.noConfusion h) fun _=>?_
  refine mG (fun h=>is (p:=fM) (by unfold WI;rw[hn];exact if_pos h)) fun hk=>?_
  replace hk:n.2.1=2:=hk
  refine aG (s:=[(false,.li .str)]) (y:=lR d node) ((T4 ..).trans (VN _ hD hL)) ?_
  have part_call:∀ {id:ByteArray} {K:bE×Bool→Prop},K (found BX (partOf d id))→aH [(true,aQ),(false,Sy.bool)] (gW [aD true aN d,T.v (.string id)]) K:=fun h=>aG (s:=[(true,aQ),(false,.bool)]) ((vW ..).trans (pI _ hD)) h
  have hpl:(lR d node).length≤100:=by
   unfold lR;rw[List.length_map];exact Nat.le_trans (List.length_filter_le ..) hl.2
  have hLl:(bX d node).length=(lR d node).length:=List.length_map ..
  refine aY (lR d node).length (fun k s=>s=(oP ((bX d node).take k),(node,((eB 1 ((bX d node).take k)).length:Int),((eB 2 ((bX d node).take k)).length:Int),0,0,0),(k:Int),())) rfl ?_
  rintro X k s hk2 rfl hX
  dsimp only
  refine bZ (fun hlt=>?_) fun hge=>?_
  ·rw[List.length_map] at hlt
   have hlt:k<(lR d node).length:=by omega
   have hlt':k<(bX d node).length:=by omega
   rw[aT (r:=.str) hlt]
   refine part_call ?_
   have hq:(bX d node)[k]=(found BX (partOf d (lR d node)[k])).1:=List.getElem_map (AMZ d)
   have ht:=C0 hlt'
   rw[hq] at ht
   generalize found BX (partOf d (lR d node)[k])=y at ht
   obtain ⟨q,bq⟩:=y
   have h1:=@UW 1 ((bX d node).take k)
   have h2:=@UW 2 ((bX d node).take k)
   have h3:=@CX ((bX d node).take k)
   rw[List.length_take] at h1 h2 h3
   have hw:∀ {n:Nat},n≤1000→IntKind.i64.wrap ((n:Int)+1)=((n+1:Nat):Int):=fun h=>by rw[aO]<;>omega
   refine bZ (fun c1=>?_) fun c1=>?_
   ·refine ⟨I8 (by omega) (by decide),AKI (r:=aQ) rfl (q:=q) rfl (hX _ hlt ?_)⟩
    replace c1:bS q=1:=c1
    have c2:¬ bS q=2:=by omega
    rw[ht,wU,mI,mI,if_pos (.inl c1),if_pos c1,if_neg c2,hw (by omega),hw (by omega)];rfl
   ·replace c1:¬ bS q=1:=c1
    refine bZ (fun c2=>?_) fun c2=>?_
    ·refine ⟨I8 (by omega) (by decide),AKI (r:=aQ) rfl (q:=q) rfl (hX _ hlt ?_)⟩
     replace c2:bS q=2:=c2
     rw[ht,wU,mI,mI,if_pos (.inr c2),if_neg c1,if_pos c2,hw (by omega),hw (by omega)];rfl
    ·replace c2:¬ bS q=2:=c2
     refine S5 (r:=aQ) rfl (hX _ hlt ?_)
     have c3:¬ (bS q=1∨bS q=2):=by omega
     rw[ht,wU,mI,mI,if_neg c3,if_neg c1,if_neg c2,List.append_nil,hw (by omega)];rfl
  ·rw[List.length_map] at hge
   have:k=(lR d node).length:=by omega
   subst this
   rw[←hLl,List.take_length]
   have hz:∀ {e:Int},WI d m node=(fM,e)→T.cF [T.agg [T.v (.string ⟨#[]⟩),T.v (.int .i64 0),T.v (.int .i64 0),T.v (.int .i64 0),T.v (.int .i64 0),T.v (.int .i64 0)],T.v (.int .i64 e)]=Sh.enc AHO (WI d m node):=fun h=>is (p:=fM) h
   have b1:∀ {x:jA×Int},(if ((eB 1 (bX d node)).length:Int)=0 then (fM,17) else x)=WI d m node→True:=fun _=>trivial
   refine bZ (fun h0=>hz (by unfold WI;rw[hn];dsimp only;rw[if_neg (by omega),if_pos h0])) fun h0=>?_
   replace h0:¬ ((eB 1 (bX d node)).length:Int)=0:=h0
   have w1:WI d m node=if ¬ n7 m (bX d node)=0 then (fM,n7 m (bX d node)) else
     if ¬ (eL (fA 1 (eD d node))).2=0 then (fM,(eL (fA 1 (eD d node))).2) else if ¬ (eL (fA 2 (eD d node))).2=0 then (fM,(eL (fA 2 (eD d node))).2) else if ¬ (eL (iD m (bX d node))).2=0 then (fM,(eL (iD m (bX d node))).2) else
     ((node,((eB 1 (bX d node)).length:Int),((eB 2 (bX d node)).length:Int),(eL (fA 1 (eD d node))).1,(eL (fA 2 (eD d node))).1,(eL (iD m (bX d node))).1),0):=by
    unfold WI;rw[hn];dsimp only;rw[if_neg (by omega),if_neg h0]
   have hsl:=@CX (bX d node)
   have hme:n7 m (bX d node)=bK (fun p=>(gM p m).2) (oP (bX d node)):=rfl
   have hml:iD m (bX d node)=(oP (bX d node)).map fun p=>(gM p m).1:=rfl
   generalize hS:oP (bX d node)=S at *
   rw[cD]
   refine aY S.length (fun k s=>s=((S.take k).map (fun p=>(gM p m).1),(k:Int),(),())∧bK (fun p=>(gM p m).2) (S.drop k)=n7 m (bX d node)) ⟨rfl,by rw[List.drop_zero,hme]⟩ ?_
   rintro Y j s hj ⟨rfl,hfe⟩ hY
   dsimp only
   refine bZ (fun hlt=>?_) fun hge=>?_
   ·rw[List.length_map] at hlt
    have hlt:j<S.length:=by omega
    rw[aT (r:=aQ) hlt,show Int.toNat (j:Int)=j from rfl,j6 (r:=aQ) hlt]
    refine aG (s:=[(false,.int .i64),(false,.int .i64)]) (DC hM _) ?_
    rw[List.drop_eq_getElem_cons hlt,bK] at hfe
    refine mG (fun hb=>hz ?_) fun hb=>?_
    ·rw[if_neg hb] at hfe
     rw[w1,←hfe,if_pos hb]
    ·replace hb:(gM S[j] m).2=0:=hb
     rw[if_pos hb] at hfe
     refine ⟨I8 (by rw[List.length_map,List.length_take];omega) (by decide),AKI (r:=.int .i64) rfl (q:=(gM S[j] m).1) rfl ?_⟩
     rw[cD]
     refine hY _ hlt ⟨?_,hfe⟩
     rw[C0 hlt,List.map_append,show IntKind.i64.wrap ((j:Int)+1)=((j+1:Nat):Int) by rw[aO]<;>omega];rfl
   ·rw[List.length_map] at hge
    have:j=S.length:=by omega
    subst this
    rw[List.drop_length] at hfe
    have hfe:n7 m (bX d node)=0:=hfe.symm
    rw[List.take_length,←hml]
    rw[hfe] at w1
    replace w1:WI d m node=if ¬ (eL (fA 1 (eD d node))).2=0 then (fM,(eL (fA 1 (eD d node))).2) else if ¬ (eL (fA 2 (eD d node))).2=0 then (fM,(eL (fA 2 (eD d node))).2) else if ¬ (eL (iD m (bX d node))).2=0 then (fM,(eL (iD m (bX d node))).2) else
     ((node,((eB 1 (bX d node)).length:Int),((eB 2 (bX d node)).length:Int),(eL (fA 1 (eD d node))).1,(eL (fA 2 (eD d node))).1,(eL (iD m (bX d node))).1),0):=by rw[w1];exact if_neg (fun h=>h rfl)
    refine aG (s:=[(false,.li .str)]) (y:=oB d (jS d node)) ((AF5 ..).trans (VN _ hD hL)) ?_
    have dN:∀ {K:List Int→Prop},K []→bA (Sy.int IntKind.i64) [] K:=fun h=>by rw[S6];exact h
    refine dN (dN (dN ?_))
    have hgl:(eD d node).length=(oB d (jS d node)).length:=List.length_map ..
    have seam_call:∀ {id:ByteArray} {K:cN×Bool→Prop},K (found BY (qV d id))→aH [(true,bT),(false,Sy.bool)] (vY [aD true aN d,T.v (.string id)]) K:=fun h=>aG (s:=[(true,bT),(false,.bool)]) (AF4 ..) h
    have sum_call:∀ {l:List Int} {K:Int×Int→Prop},rF l=true→K (eL l)→aH [(false,Sy.int IntKind.i64),(false,Sy.int IntKind.i64)] (qC [T.sl false (List.map (Sy.int IntKind.i64).enc l)]) K:=fun {l K} ho h=>aG (s:=AWC) ((AF6 ..).trans (by unfold uH;rw[ho])) h
    have hgs:(oB d (jS d node)).length≤1000:=by unfold oB;rw[List.length_map];exact Nat.le_trans (List.length_filter_le ..) hSm
    refine aY (oB d (jS d node)).length (fun k s=>s=(([],[],[]),[],fA 1 ((eD d node).take k),fA 2 ((eD d node).take k),(k:Int),())) rfl ?_
    rintro Z k s hk3 rfl hZ
    dsimp only
    refine bZ (fun hlt=>?_) fun hge=>?_
    ·rw[List.length_map] at hlt
     have hlt:k<(oB d (jS d node)).length:=by omega
     have hlt':k<(eD d node).length:=by omega
     rw[aT (r:=.str) hlt]
     refine seam_call ?_
     have hq:(eD d node)[k]=(found BY (qV d (oB d (jS d node))[k])).1:=List.getElem_map (ANG d)
     have ht:=C0 hlt'
     rw[hq] at ht
     generalize found BY (qV d (oB d (jS d node))[k])=y at ht
     obtain ⟨q,bq⟩:=y
     have hw:IntKind.i64.wrap ((k:Int)+1)=((k+1:Nat):Int):=by rw[aO]<;>omega
     have r1:(fA 1 ((eD d node).take k)).length≤1000:=Nat.le_trans IE (by rw[List.length_take];omega)
     have r2:(fA 2 ((eD d node).take k)).length≤1000:=Nat.le_trans IE (by rw[List.length_take];omega)
     refine bZ (fun c1=>?_) fun c1=>?_
     ·replace c1:q.2.2.2.1=1:=c1
      refine bZ (fun h=>absurd (h.symm.trans c1) (by decide)) fun _=>bZ (fun _=>⟨I8 r1 (by decide),?_⟩) fun h=>absurd c1 h
      refine bZ (fun h=>absurd (h.symm.trans c1) (by decide)) fun _=>bZ (fun _=>?_) fun h=>absurd c1 h
      refine dN (dN (dN ?_))
      refine S5 (r:=.int .i64) (l:=[]) rfl (AKI (r:=.int .i64) rfl (q:=q.2.2.2.2.1) rfl (S5 (r:=.int .i64) rfl (hZ _ hlt ?_)))
      have c2:¬ q.2.2.2.1=2:=by omega
      rw[ht,pH,pH,if_pos c1,if_neg c2,List.append_nil,hw]
     ·replace c1:¬ q.2.2.2.1=1:=c1
      refine bZ (fun c2=>?_) fun c2=>?_
      ·replace c2:q.2.2.2.1=2:=c2
       refine bZ (fun h=>absurd (h.symm.trans c2) (by decide)) fun _=>bZ (fun h=>absurd (h.symm.trans c2) (by decide)) fun _=>bZ (fun _=>⟨I8 r2 (by decide),?_⟩) fun h=>absurd c2 h
       refine bZ (fun h=>absurd (h.symm.trans c2) (by decide)) fun _=>bZ (fun h=>absurd (h.symm.trans c2) (by decide)) fun _=>bZ (fun _=>?_) fun h=>absurd c2 h
       refine dN (dN (dN ?_))
       refine S5 (r:=.int .i64) (l:=[]) rfl (S5 (r:=.int .i64) rfl (AKI (r:=.int .i64) rfl (q:=q.2.2.2.2.1) rfl (hZ _ hlt ?_)))
       rw[ht,pH,pH,if_neg c1,if_pos c2,List.append_nil,hw]
      ·replace c2:¬ q.2.2.2.1=2:=c2
       refine dN (dN (dN ?_))
       refine S5 (r:=.int .i64) (l:=[]) rfl (S5 (r:=.int .i64) rfl (S5 (r:=.int .i64) rfl (hZ _ hlt ?_)))
       rw[ht,pH,pH,if_neg c1,if_neg c2,List.append_nil,List.append_nil,hw]
    ·rw[List.length_map] at hge
     have:k=(oB d (jS d node)).length:=by omega
     subst this
     rw[←hgl,List.take_length]
     refine sum_call k1 ?_
     refine mG (fun h=>hz (by rw[w1,if_pos h])) fun h1=>?_
     refine sum_call k2 ?_
     refine mG (fun h=>hz (by rw[w1,if_neg (fun h'=>h' h1),if_pos h])) fun h2=>?_
     refine sum_call k3 ?_
     refine mG (fun h=>hz (by rw[w1,if_neg (fun h'=>h' h1),if_neg (fun h'=>h' h2),if_pos h])) fun h3=>?_
     exact is (p:=(node,((eB 1 (bX d node)).length:Int),((eB 2 (bX d node)).length:Int),(eL (fA 1 (eD d node))).1,(eL (fA 2 (eD d node))).1,(eL (iD m (bX d node))).1)) (by rw[w1,if_neg (fun h'=>h' h1),if_neg (fun h'=>h' h2),if_neg (fun h'=>h' h3)])
end Go.Pv
namespace Go.Pv
open Go Go.Proofs
theorem EF {a:Option MP} {es:MP} {K:MP→Prop} (h:a=some es) (hk:K es):iU (List (ByteArray×Int)) a K:=⟨es,h,hk⟩
end Go.Pv
namespace Go.Pv
open Go Go.Proofs
noncomputable def HZ:List T→Option (List (ByteArray×Int)):=AF2
theorem AST:iB Tryz.prog 89 (oI HZ):=AVL
noncomputable def WQ:Env:=Env.of [(44,.pure o4),(45,.pure dJ),(89,.ZH HZ),(47,.pure AV),(48,.pure o1),(49,.pure mU),(50,.pure o2),(51,.pure mT),(52,.pure o0)]
def AJK:FuncId→Hint:=fun _=>aU
theorem AIH:aF Tryz.prog WQ:=aF.cons (x:=.pure o4) AFK (aF.cons (x:=.pure dJ) tI (aF.cons (x:=.ZH HZ) AST (aF.cons (x:=.pure AV) APJ (aF.cons (x:=.pure o1) AFE (aF.cons (x:=.pure mU) AFJ (aF.cons (x:=.pure o2) AFF (aF.cons (x:=.pure mT) AFI (aF.cons (x:=.pure o0) AFD (aF.nil _)))))))))
def XR (a0:aC) (a1:aL) (R:T→Prop):Prop :=
 aH [(false,Sy.int IntKind.i64)] (o4 [aD true aI a1])
 fun (y0:Int) =>
 aB (!decide (y0=0)) (R (T.v (.int .i64 y0)))
 (aH [(false,Sy.bool)] (dJ [T.v (.string a0.1)]) fun (y1:Bool) =>
 aB (!y1) (R (T.v (.int .i64 6)))
 (iU (List (ByteArray×Int))
 (HZ
 [T.fn 90 [].reverse
 [T.ref
 [T.ref
 [T.sl false (List.map cO.enc a0.2.2.2.2.2),
 T.sl false (List.map aW.enc a0.2.2.2.2.1),
 T.sl false (List.map bT.enc a0.2.2.2.1),
 T.sl false (List.map aQ.enc a0.2.2.1),
 T.sl false (List.map bM.enc a0.2.1),
 T.v (.string a0.1)].reverse].reverse].reverse,
 T.v (.int .i64 (↑(List.map bM.enc a0.2.1).length:Int))].reverse)
 fun (y2:List (ByteArray×Int)) =>
 iU (List (ByteArray×Int))
 (HZ
 [T.fn 91 [].reverse
 [T.ref
 [T.ref
 [T.sl false (List.map cO.enc a0.2.2.2.2.2),
 T.sl false (List.map aW.enc a0.2.2.2.2.1),
 T.sl false (List.map bT.enc a0.2.2.2.1),
 T.sl false (List.map aQ.enc a0.2.2.1),
 T.sl false (List.map bM.enc a0.2.1),
 T.v (.string a0.1)].reverse].reverse].reverse,
 T.v
 (Value.int IntKind.i64 (↑(List.map aQ.enc a0.2.2.1).length:Int))].reverse)
 fun (y3:List (ByteArray×Int)) =>
 iU (List (ByteArray×Int))
 (HZ
 [T.fn 92 [].reverse
 [T.ref
 [T.ref
 [T.sl false (List.map cO.enc a0.2.2.2.2.2),
 T.sl false (List.map aW.enc a0.2.2.2.2.1),
 T.sl false (List.map bT.enc a0.2.2.2.1),
 T.sl false (List.map aQ.enc a0.2.2.1),
 T.sl false (List.map bM.enc a0.2.1),
 T.v (.string a0.1)].reverse].reverse].reverse,
 T.v
 (Value.int IntKind.i64
 (↑(List.map bT.enc a0.2.2.2.1).length:Int))].reverse)
 fun (y4:List (ByteArray×Int)) =>
 iU (List (ByteArray×Int))
 (HZ
 [T.fn 93 [].reverse
 [T.ref
 [T.ref
 [T.sl false (List.map cO.enc a0.2.2.2.2.2),
 T.sl false (List.map aW.enc a0.2.2.2.2.1),
 T.sl false (List.map bT.enc a0.2.2.2.1),
 T.sl false (List.map aQ.enc a0.2.2.1),
 T.sl false (List.map bM.enc a0.2.1),
 T.v (.string a0.1)].reverse].reverse].reverse,
 T.v
 (Value.int IntKind.i64
 (↑(List.map aW.enc a0.2.2.2.2.1).length:Int))].reverse)
 fun (y5:List (ByteArray×Int)) =>
 aH [(false,Sy.int IntKind.i64)]
 (AV
 [T.ref
 [T.ref
 [T.v (.string a0.1),T.sl false (List.map bM.enc a0.2.1),
 T.sl false (List.map aQ.enc a0.2.2.1),
 T.sl false (List.map bT.enc a0.2.2.2.1),
 T.sl false (List.map aW.enc a0.2.2.2.2.1),
 T.sl false (List.map cO.enc a0.2.2.2.2.2)],
 T.mp (a8 y2),T.mp (a8 y3),T.mp (a8 y4),
 T.mp (a8 y5)]])
 fun (y6:Int) =>
 aB (!decide (y6=0)) (R (T.v (.int .i64 y6)))
 (aH [(false,Sy.int IntKind.i64)]
 (o1
 [T.ref
 [T.ref
 [T.v (.string a0.1),
 T.sl false (List.map bM.enc a0.2.1),
 T.sl false (List.map aQ.enc a0.2.2.1),
 T.sl false (List.map bT.enc a0.2.2.2.1),
 T.sl false (List.map aW.enc a0.2.2.2.2.1),
 T.sl false (List.map cO.enc a0.2.2.2.2.2)],
 T.mp (a8 y2),T.mp (a8 y3),T.mp (a8 y4),
 T.mp (a8 y5)]])
 fun (y7:Int) =>
 aB (!decide (y7=0)) (R (T.v (.int .i64 y7)))
 (aH [(false,Sy.int IntKind.i64)]
 (mU
 [T.ref
 [T.ref
 [T.v (.string a0.1),
 T.sl false (List.map bM.enc a0.2.1),
 T.sl false (List.map aQ.enc a0.2.2.1),
 T.sl false (List.map bT.enc a0.2.2.2.1),
 T.sl false (List.map aW.enc a0.2.2.2.2.1),
 T.sl false (List.map cO.enc a0.2.2.2.2.2)],
 T.mp (a8 y2),T.mp (a8 y3),T.mp (a8 y4),
 T.mp (a8 y5)],
 aD true aI a1])
 fun (y8:Int) =>
 aB (!decide (y8=0)) (R (T.v (.int .i64 y8)))
 (aH [(false,Sy.int IntKind.i64)]
 (o2
 [T.ref
 [T.ref
 [T.v (.string a0.1),
 T.sl false (List.map bM.enc a0.2.1),
 T.sl false (List.map aQ.enc a0.2.2.1),
 T.sl false (List.map bT.enc a0.2.2.2.1),
 T.sl false (List.map aW.enc a0.2.2.2.2.1),
 T.sl false (List.map cO.enc a0.2.2.2.2.2)],
 T.mp (a8 y2),T.mp (a8 y3),
 T.mp (a8 y4),T.mp (a8 y5)]])
 fun (y9:Int) =>
 aB (!decide (y9=0)) (R (T.v (.int .i64 y9)))
 (aH [(false,Sy.int IntKind.i64)]
 (mT
 [T.ref
 [T.ref
 [T.v (.string a0.1),
 T.sl false (List.map bM.enc a0.2.1),
 T.sl false (List.map aQ.enc a0.2.2.1),
 T.sl false (List.map bT.enc a0.2.2.2.1),
 T.sl false (List.map aW.enc a0.2.2.2.2.1),
 T.sl false (List.map cO.enc a0.2.2.2.2.2)],
 T.mp (a8 y2),T.mp (a8 y3),
 T.mp (a8 y4),T.mp (a8 y5)]])
 fun (y10:Int) =>
 aB (!decide (y10=0)) (R (T.v (.int .i64 y10)))
 (aH [(false,Sy.int IntKind.i64)]
 (o0
 [T.ref
 [T.ref
 [T.v (.string a0.1),
 T.sl false (List.map bM.enc a0.2.1),
 T.sl false (List.map aQ.enc a0.2.2.1),
 T.sl false (List.map bT.enc a0.2.2.2.1),
 T.sl false (List.map aW.enc a0.2.2.2.2.1),
 T.sl false (List.map cO.enc a0.2.2.2.2.2)],
 T.mp (a8 y2),T.mp (a8 y3),
 T.mp (a8 y4),T.mp (a8 y5)]])
 fun (y11:Int)=>R (T.v (.int .i64 y11)))))))))
theorem AD8 ( a0 a1 R):bJ aV Tryz.prog WQ AJK 8 18 [aD true aN a0,aD true aI a1] R=XR a0 a1 R:=by kernel_rfl
abbrev PW:Sh:=[(true,aN),(true,aI)]
def vN (d:aC) (m:aL):Int:=if ¬ rK m=0 then rK m else if isName d.1=false then 6 else if ¬ kA d=0 then kA d else if ¬ fI d=0 then fI d else if ¬ gR d m=0 then gR d m else if ¬ bK (lU d) d.2.2.2.1=0 then bK (lU d) d.2.2.2.1 else if ¬ fJ d=0 then fJ d else bK (sJ d) d.2.2.2.2.2
def P8 (x:aC×aL):Option T:=some (T.v (Value.int .i64 (vN x.1 x.2)))
noncomputable def AS:List T→Option (T):=gS PW P8
theorem AFY {a0 a1}:AS [aD true aN a0,aD true aI a1]=P8 (a0,a1):=bH (s:=PW) rfl (a0,a1) rfl
theorem AQE (h:∀ a0 a1 r,P8 (a0,a1)=some r→cR PW (a0,a1)→XR a0 a1 (fun y=>y=r)):aJ Tryz.prog 18 AS :=
 aX (E:=WQ) (Hs:=AJK) AIH a6 a7 (aM rfl) 8 ⟨_,_,Tryz.func18,rfl⟩ rfl fun x r h1 h2=>by
  obtain ⟨a0,a1⟩:=x
  rw[show Sh.cA PW (a0,a1)=[aD true aN a0,aD true aI a1] from rfl,AD8]
  exact h a0 a1 r h1 h2
theorem ACU {m:aL} (h:rK m=0):L6 m=true:=by
 unfold rK at h
 split at h
 ·cases h
 rename_i h1
 split at h
 ·rename_i h2;exact absurd h h2
 rename_i h2
 have h2:bK (r7 m) (List.range m.1.length)=0:=Classical.byContradiction h2
 simp only[L6,Bool.and_eq_true,decide_eq_true_eq,List.all_eq_true]
 refine ⟨⟨by omega,by omega⟩,fun g hg=>?_⟩
 obtain ⟨i,hi,rfl⟩:=List.mem_iff_getElem.1 hg
 have h3:=lB h2 i (List.mem_range.2 hi)
 unfold r7 at h3
 rw[kV hi] at h3
 have h4:fY m.1[i]=0:=by
  refine Classical.byContradiction fun hc=>?_
  rw[if_pos hc] at h3
  exact hc h3
 unfold fY at h4
 split at h4
 ·cases h4
 split at h4
 ·cases h4
 split at h4
 ·cases h4
 split at h4
 ·cases h4
 ·omega
theorem AOY {d:aC} {m:aL} (hs:kD d) (hm:L6 m=true):mU (kY d (fG (ids d.2.1)) (fG (ids d.2.2.1)) (fG (ids d.2.2.2.1)) (fG (ids d.2.2.2.2.1)) m)=some (T.v (Value.int .i64 (gR d m))):=by
 rw[TW];unfold pP;dsimp only;rw[hm];exact lF hs _
theorem AOX {d:aC} (hs:kD d) (hk:tR d=true):mT (kX d (fG (ids d.2.1)) (fG (ids d.2.2.1)) (fG (ids d.2.2.2.1)) (fG (ids d.2.2.2.2.1)))=some (T.v (Value.int .i64 (fJ d))):=by
 rw[TV];unfold pO;dsimp only;rw[hk];exact lF hs _
theorem APH:aJ Tryz.prog 18 AS:=AQE fun d m r h hb=>by
 cases h
 have hd:BdS aN d:=hb.1
 have hs:kD d:=⟨hd.2.1.1,hd.2.2.1.1,hd.2.2.2.1.1,hd.2.2.2.2.1.1,hd.2.2.2.2.2.1⟩
 have hkl:∀ k∈d.2.2.2.2.1,(gL k).length≤140737488355328∧(eK k).length≤140737488355328:=fun k hk=>by
  have h:=hd.2.2.2.2.1.2 k hk
  exact ⟨h.2.2.1.1,h.2.2.2.2.1⟩
 clear hd
 have is:∀ {n:Int},vN d m=n→T.v (.int .i64 n)=T.v (.int .i64 (vN d m)):=fun h=>by rw[h]
 unfold XR
 refine aG (s:=[(false,.int .i64)]) (y:=rK m) (T2 ..) ?_
 refine mG (fun h=>is (by unfold vN;rw[if_pos h])) fun h0=>?_
 have hm:=ACU h0
 refine aG (s:=[(false,.bool)]) (y:=isName d.1) rY ?_
 have n0:¬ ¬ rK m=0:=fun h=>h h0
 refine lC (fun h=>is (by unfold vN;rw[if_neg n0,if_pos h])) fun hn=>?_
 have n1:¬ isName d.1=false:=by rw[hn];decide
 refine EF (es:=fG (ids d.2.1)) (by rw[List.length_map];exact AS1 hs.n) ?_
 refine EF (es:=fG (ids d.2.2.1)) (by rw[List.length_map];exact AS2 hs.p) ?_
 refine EF (es:=fG (ids d.2.2.2.1)) (by rw[List.length_map];exact AS3 hs.s) ?_
 refine EF (es:=fG (ids d.2.2.2.2.1)) (by rw[List.length_map];exact AS4 hs.k) ?_
 refine aG (s:=[(false,.int .i64)]) (y:=kA d) ((AF0 ..).trans (lF hs _)) ?_
 refine mG (fun h=>is (by unfold vN;rw[if_neg n0,if_neg n1,if_pos h])) fun h1=>?_
 have n2:¬ ¬ kA d=0:=fun h=>h h1
 have hk:tR d=true:=by
  simp only[tR,Bool.and_eq_true,decide_eq_true_eq,List.all_eq_true]
  refine ⟨hkl,?_⟩
  have hlong:iY d=false:=by
   rw[Bool.eq_false_iff]
   intro h
   unfold kA at h1
   rw[if_pos h] at h1
   cases h1
  simp only[iY,Bool.or_eq_false_iff,decide_eq_false_iff_not] at hlong
  omega
 refine aG (s:=[(false,.int .i64)]) (y:=fI d) ((TQ ..).trans (lF hs _)) ?_
 refine mG (fun h=>is (by unfold vN;rw[if_neg n0,if_neg n1,if_neg n2,if_pos h])) fun h2=>?_
 have n3:¬ ¬ fI d=0:=fun h=>h h2
 refine aG (s:=[(false,.int .i64)]) (y:=gR d m) (AOY hs hm) ?_
 refine mG (fun h=>is (by unfold vN;rw[if_neg n0,if_neg n1,if_neg n2,if_neg n3,if_pos h])) fun h3=>?_
 have n4:¬ ¬ gR d m=0:=fun h=>h h3
 refine aG (s:=[(false,.int .i64)]) (y:=bK (lU d) d.2.2.2.1) ((TR ..).trans (lF hs _)) ?_
 refine mG (fun h=>is (by unfold vN;rw[if_neg n0,if_neg n1,if_neg n2,if_neg n3,if_neg n4,if_pos h])) fun h4=>?_
 have n5:¬ ¬ bK (lU d) d.2.2.2.1=0:=fun h=>h h4
 refine aG (s:=[(false,.int .i64)]) (y:=fJ d) (AOX hs hk) ?_
 refine mG (fun h=>is (by unfold vN;rw[if_neg n0,if_neg n1,if_neg n2,if_neg n3,if_neg n4,if_neg n5,if_pos h])) fun h5=>?_
 have n6:¬ ¬ fJ d=0:=fun h=>h h5
 refine aG (s:=[(false,.int .i64)]) (y:=bK (sJ d) d.2.2.2.2.2) ((TP ..).trans (lF hs _)) ?_
 exact is (by unfold vN;rw[if_neg n0,if_neg n1,if_neg n2,if_neg n3,if_neg n4,if_neg n5,if_neg n6])
end Go.Pv
namespace Go.Pv
open Go Go.Proofs
theorem AO3 {d:aC} {m:aL} (h:vN d m=0):rK m=0∧isName d.1=true∧kA d=0∧fI d=0∧gR d m=0∧bK (lU d) d.2.2.2.1=0∧fJ d=0∧bK (sJ d) d.2.2.2.2.2=0:=by
 unfold vN at h
 split at h
 ·exact absurd h ‹_›
 split at h
 ·cases h
 split at h
 ·exact absurd h ‹_›
 split at h
 ·exact absurd h ‹_›
 split at h
 ·exact absurd h ‹_›
 split at h
 ·exact absurd h ‹_›
 split at h
 ·exact absurd h ‹_›
 rename_i h1 h2 h3 h4 h5 h6 h7
 exact ⟨Classical.byContradiction h1,by simpa using h2,Classical.byContradiction h3,Classical.byContradiction h4,Classical.byContradiction h5,Classical.byContradiction h6,Classical.byContradiction h7,h⟩
theorem AK6 {d:aC} (h:kA d=0):iY d=false∧(oH (ids d.2.1)=true∧oH (ids d.2.2.1)=true∧oH (ids d.2.2.2.1)=true∧oH (ids d.2.2.2.2.1)=true)∧ZB d=false:=by
 unfold kA at h
 split at h
 ·cases h
 split at h
 ·cases h
 split at h
 ·cases h
 rename_i h1 h2 h3
 have h2:EE d=true:=by simpa using h2
 simp only[EE,Bool.and_eq_true] at h2
 exact ⟨by simpa using h1,⟨h2.1.1.1.1,h2.1.1.1.2,h2.1.1.2,h2.1.2⟩,by simpa using h3⟩
theorem V0 {d:aC} {s:cN} (h:lU d s=0):(oJ s.1=true∧oJ s.2.1=true∧oJ s.2.2.1=true)∧s.2.1≠s.2.2.1∧(s.2.2.2.1=1∨s.2.2.2.1=2)∧(1≤s.2.2.2.2.1∧s.2.2.2.2.1≤32768∧1≤s.2.2.2.2.2∧s.2.2.2.2.2≤3)∧(partOf d s.2.1).isSome=true∧(partOf d s.2.2.1).isSome=true:=by
 unfold lU at h
 split at h
 ·cases h
 split at h
 ·cases h
 split at h
 ·cases h
 split at h
 ·cases h
 split at h
 ·cases h
 rename_i h1 h2 h3 h4 h5
 simp only[not_or,Option.isNone_iff_eq_none,Bool.not_eq_false] at h1 h5
 refine ⟨h1,h2,by omega,by omega,?_,?_⟩
 ·cases h:partOf d s.2.1 with
  | none=>exact absurd h h5.1
  | some _=>rfl
 ·cases h:partOf d s.2.2.1 with
  | none=>exact absurd h h5.2
  | some _=>rfl
theorem AKV {α:Type} {l:List (ByteArray×α)} {id:ByteArray} {a:ByteArray×α} (h:l.find? (fun s=>decide (s.1=id))=some a):a∈l∧a.1=id :=
 ⟨List.mem_of_find?_eq_some h,by have:=List.find?_some h;simpa using this⟩
structure Valid (d:aC) (m:aL):Prop where
 sE:sE d 40=true
 mat:rK m=0
 nodes:(ids d.2.1).Nodup
 parts:(ids d.2.2.1).Nodup
 AW3:(ids d.2.2.2.1).Nodup
 node:fI d=0
 part:gR d m=0
 AW7:∀ s∈d.2.2.2.1,lU d s=0
 small:d.2.1.length≤40∧d.2.2.1.length≤40∧d.2.2.2.1.length≤40
end Go.Pv
namespace Go.Pv
open Go Go.Proofs
def few (d:aC) (n:Int):Bool:=decide ((d.2.1.length:Int)≤n)&&decide ((d.2.2.1.length:Int)≤n)&&decide ((d.2.2.2.1.length:Int)≤n)&&decide ((d.2.2.2.2.1.length:Int)≤n)&&decide ((d.2.2.2.2.2.length:Int)≤n)&&d.2.2.2.2.1.all fun k=>decide ((k.2.2.1.length:Int)≤n)&&decide ((k.2.2.2.2.length:Int)≤n)
def AA6 (x:aC×Int):Option T:=some (Sh.enc r_b (few x.1 x.2))
noncomputable def AH3:Env:=Env.of []
def AQ7:FuncId→Hint:=fun f=>match f == 7 with|true=>⟨fun r=>match r == 4 with|true=>.inv [.val 5 false (.int .i64)]|false=>.none,fun _ _=>none,fun _=>none⟩|false=>aU
theorem AOA:aF Tryz.prog AH3:=aF.nil _
def AIU (a0:aC) (a1:Int) (R:T→Prop):Prop :=
 aB (decide (a1<(↑(List.map bM.enc a0.2.1).length:Int))) (R (T.v (.bool false)))
 (aB (decide (a1<(↑(List.map aQ.enc a0.2.2.1).length:Int)))
 (R (T.v (.bool false)))
 (aB (decide (a1<(↑(List.map bT.enc a0.2.2.2.1).length:Int)))
 (R (T.v (.bool false)))
 (aB (decide (a1<(↑(List.map aW.enc a0.2.2.2.2.1).length:Int)))
 (R (T.v (.bool false)))
 (aB (decide (a1<(↑(List.map cO.enc a0.2.2.2.2.2).length:Int)))
 (R (T.v (.bool false)))
 (bB (Int×PUnit)
 (fun (X0:Int×PUnit→Prop) (s1:Int×PUnit) =>
 aB (decide (s1.1<(↑(List.map aW.enc a0.2.2.2.2.1).length:Int)))
 (aP aW (List.map aW.enc a0.2.2.2.2.1) s1.1
 fun (y2:eP) =>
 aB (decide (a1<(↑(List.map Sy.str.enc y2.2.2.1).length:Int)))
 (R (T.v (.bool false)))
 (aP aW (List.map aW.enc a0.2.2.2.2.1) s1.1
 fun (y3:eP) =>
 aB (decide (a1<(↑(List.map Sy.str.enc y3.2.2.2.2).length:Int)))
 (R (T.v (.bool false))) (X0 (IntKind.i64.wrap (s1.1+1),()))))
 (R (T.v (.bool true))))
 (0,()))))))
theorem AIV ( a0 a1 R):bJ aV Tryz.prog AH3 AQ7 8 7 [aD true aN a0,aD false (Sy.int IntKind.i64) a1] R=AIU a0 a1 R:=by kernel_rfl
abbrev AC8:Sh:=[(true,aN),(false,(Sy.int IntKind.i64))]
noncomputable def LQ:List T→Option (T):=gS AC8 AA6
theorem AK7 {a0 a1}:LQ [aD true aN a0,T.v (.int .i64 a1)]=AA6 (a0,a1):=bH (s:=AC8) rfl (a0,a1) rfl
theorem ATV (h:∀ a0 a1 r,AA6 (a0,a1)=some r→cR AC8 (a0,a1)→AIU a0 a1 (fun y=>y=r)):aJ Tryz.prog 7 LQ :=
 aX (E:=AH3) (Hs:=AQ7) AOA a6 a7 (aM rfl) 8 ⟨_,_,Tryz.func7,rfl⟩ rfl fun x r h1 h2=>by
  obtain ⟨a0,a1⟩:=x
  rw[show Sh.cA AC8 (a0,a1)=[aD true aN a0,aD false (Sy.int IntKind.i64) a1] from rfl,AIV]
  exact h a0 a1 r h1 h2
theorem qG {n:Int} {m:Nat} {A B:Prop} (h1:¬ (m:Int)≤n→A) (h2:(m:Int)≤n→B):aB (decide (n<(m:Int))) A B:=by
 by_cases h:(m:Int)≤n
 ·exact cV (by omega) (h2 h)
 ·exact cJ (by omega) (h1 h)
theorem AJZ {α:Type} {p:α→Bool} {l:List α} {k:Nat} (h:k<l.length):(l.drop k).all p=(p l[k]&&(l.drop (k+1)).all p):=by rw[List.drop_eq_getElem_cons h,List.all_cons]
theorem ASO:aJ Tryz.prog 7 LQ:=ATV fun d n r h hb=>by
 cases h
 have hl:d.2.2.2.2.1.length≤2 ^ 47:=hb.1.2.2.2.2.1.1
 have no:few d n=false→T.v (.bool false)=Sh.enc r_b (few d n):=fun h=>by rw[h];rfl
 unfold AIU
 simp only[List.length_map]
 refine qG (fun h=>no (by simp[few,h])) fun g1=>?_
 refine qG (fun h=>no (by simp[few,h])) fun g2=>?_
 refine qG (fun h=>no (by simp[few,h])) fun g3=>?_
 refine qG (fun h=>no (by simp[few,h])) fun g4=>?_
 refine qG (fun h=>no (by simp[few,h])) fun g5=>?_
 refine aY d.2.2.2.2.1.length (fun k s=>s=((k:Int),())∧few d n=(d.2.2.2.2.1.drop k).all fun k=>decide ((k.2.2.1.length:Int)≤n)&&decide ((k.2.2.2.2.length:Int)≤n)) ⟨rfl,by simp only[few,g1,g2,g3,g4,g5,decide_true,Bool.true_and,List.drop_zero]⟩ ?_
 rintro X k s hk ⟨rfl,he⟩ hX
 dsimp only
 by_cases hlt:k<d.2.2.2.2.1.length
 ·rw[AJZ hlt] at he
  refine cJ (by simp[hlt]) ?_
  rw[aT (r:=aW) hlt]
  try simp only[List.length_map]
  refine qG (fun h=>no (by rw[he];simp[h])) fun g6=>?_
  try rw[aT (r:=aW) hlt]
  try simp only[List.length_map]
  refine qG (fun h=>no (by rw[he];simp[h])) fun g7=>?_
  refine hX _ hlt ⟨by rw[show IntKind.i64.wrap ((k:Int)+1)=((k+1:Nat):Int) from aO _ (by omega) (by omega)],?_⟩
  rw[he]
  simp only[g6,g7,decide_true,Bool.true_and]
 ·have:k=d.2.2.2.2.1.length:=by omega
  subst this
  refine cV (by simp) ?_
  rw[he];simp only[List.drop_length,List.all_nil];rfl
theorem AT8 {d:aC} (h:InS aN d):okD d=true:=by
 refine List.all_eq_true.2 fun p hp=>?_
 obtain ⟨_,_,⟨_,_,h3⟩,_⟩:=h
 have h4:=h3 p hp
 obtain ⟨_,_,_,_,_,_,⟨⟨h5,h6,_⟩,h7,h8,h9⟩,_⟩:=h4
 unfold PE PF DN
 simp only[Bool.and_eq_true,decide_eq_true_eq,List.all_eq_true]
 refine ⟨⟨⟨?_,?_⟩,?_,?_⟩,fun q hq=>?_⟩
 ·exact h5
 ·exact h6
 ·exact h7
 ·exact h8
 ·obtain ⟨g1,g2,_⟩:=h9 q hq
  exact ⟨g1,g2⟩
end Go.Pv
