/-
  part: Check, Mass.
  Packages; equality of lists, shapes, parts and packages.
  Chapter 17: the tree's seams and requirements.
  dag.Order, walked.
  Chapter 17: the tree's parts and packages, walked; Check, walked.
  Chapter 17: the tree's parts and packages in full.
  Chapter 17: the tree's packages in full.
  The tree of a valid design, in plain words: ways up, paths, what two paths share.
  The parts in a node: structure.Parts.
  num.Sum: the sum, or ErrOverflow.
  What lies below a node lies in it: its parts, its seams. In plain words.
  panel.Of, walked.
  The reference's list of the parts in a node, and its sum.
  Plane geometry, plain: a simple contour has an area, and the area of a valid shape is not negative.
  The reference's poly: segments and simple contours.
  The reference's poly: Check, Area2, Where.
  The reference's region: Check, Area2.
  The reference's vec.Valid and material.
-/
import Derived.Test.YtpkaicahnkpkhaaGreatDoorPzz1
import Derived.Sort.Walk0
import Derived.Test.YtpkaicahnkpkhaaGreatDoorPzge
set_option linter.unusedSimpArgs false
set_option linter.unusedVariables false
set_option maxRecDepth 100000
namespace Go.Pv
open Go Go.Proofs
abbrev a6 (p:bC):Int:=p.2.2.1
abbrev lF (p:bC):ByteArray:=p.2.2.2.1
abbrev cY (p:bC):ByteArray:=p.2.2.2.2.1
abbrev eO (p:bC):Int:=p.2.2.2.2.2.1
abbrev cV (p:bC):dP:=p.2.2.2.2.2.2.1
abbrev wW (p:bC):ByteArray:=p.2.2.2.2.2.2.2.1
abbrev jA (p:bC):Int:=p.2.2.2.2.2.2.2.2.1
abbrev fV (p:bC):Int:=p.2.2.2.2.2.2.2.2.2.1
abbrev mV (p:bC):XR:=p.2.2.2.2.2.2.2.2.2.2.1
abbrev aAt (p:bC):qN:=p.2.2.2.2.2.2.2.2.2.2.2
def MJ (p:bC):Bool:=!decide (eO p=0)||decide (0<(cV p).1.length+(cV p).2.length)
def AQK (p:bC):Bool:=!decide (wW p = { data:=#[] }) || !decide (jA p=0)
def AQU (p:bC):Bool:=!decide (fV p=0) || !(decide ((mV p).1=0)&&(decide ((mV p).2.1=0)&&decide ((mV p).2.2=0)))
def fT (p:bC):Bool:=if a6 p=1 then AQK p||AQU p else if a6 p=2∨a6 p=3 then MJ p||AQU p else !decide (cY p = { data:=#[] })||(MJ p||AQK p)
noncomputable def IH:Env:=Env.of []
def W9:FuncId→Hint:=fun f=>match f == 107 with|true=>⟨fun _=>.none,fun i j=>match i == 1&&j == 1 with|true=>some [.val 3 false .bool]|false=>match i == 2&&j == 2 with|true=>some [.val 4 false .bool]|false=>match i == 3&&j == 3 with|true=>some [.val 5 false .bool]|false=>none,fun _=>none⟩|false=>aS
theorem ACV:aF Tryz.prog IH:=aF.nil _
def JM (a0:bC) (R:T→Prop):Prop :=
 oQ (Bool×PUnit)
 (fun (X0:Bool×PUnit→Prop) =>
 aC (!decide (a0.2.2.2.2.2.1=0)) (X0 (true,()))
 (X0
 (decide
 (0 <
 IntKind.i64.wrap
 ((↑(List.map aA.enc a0.2.2.2.2.2.2.1.1).length:Int) +
 (↑(List.map aA.li.enc a0.2.2.2.2.2.2.1.2).length:Int))),
 ())))
 fun (s1:Bool×PUnit) =>
 oQ (Bool×PUnit)
 (fun (X2:Bool×PUnit→Prop) =>
 aC (!decide (a0.2.2.2.2.2.2.2.1 = { data:=#[] })) (X2 (true,()))
 (X2 (!decide (a0.2.2.2.2.2.2.2.2.1=0),())))
 fun (s3:Bool×PUnit) =>
 oQ (Bool×PUnit)
 (fun (X4:Bool×PUnit→Prop) =>
 aC (!decide (a0.2.2.2.2.2.2.2.2.2.1=0)) (X4 (true,()))
 (X4
 (!(decide (a0.2.2.2.2.2.2.2.2.2.2.1.1=0) &&
 (decide (a0.2.2.2.2.2.2.2.2.2.2.1.2.1=0) &&
 (decide (a0.2.2.2.2.2.2.2.2.2.2.1.2.2=0)&&true))),
 ())))
 fun (s5:Bool×PUnit) =>
 aC (decide (a0.2.2.1=1))
 (aC s3.1 (R (T.v (.bool true))) (R (T.v (.bool s5.1))))
 (aC (decide (a0.2.2.1=2))
 (aC s1.1 (R (T.v (.bool true))) (R (T.v (.bool s5.1))))
 (aC (decide (a0.2.2.1=3))
 (aC s1.1 (R (T.v (.bool true))) (R (T.v (.bool s5.1))))
 (aC (decide (a0.2.2.1=4))
 (aC (!decide (a0.2.2.2.2.1 = { data:=#[] })) (R (T.v (.bool true)))
 (aC s1.1 (R (T.v (.bool true))) (R (T.v (.bool s3.1)))))
 (aC (!decide (a0.2.2.2.2.1 = { data:=#[] })) (R (T.v (.bool true)))
 (aC s1.1 (R (T.v (.bool true))) (R (T.v (.bool s3.1))))))))
theorem V6 ( a0 R):bD aX Tryz.prog IH W9 8 107 [aB true aP a0] R=JM a0 R:=by kernel_rfl
abbrev BM:Sh:=[(true,aP)]
def E6 (p:bC):Option T:=some (T.v (.bool (fT p)))
noncomputable def iR:List T→Option (T):=gS BM E6
theorem ZT {a0}:iR [aB true aP a0]=E6 (a0):=aT (s:=BM) rfl (a0) rfl
theorem AMI (h:∀ a0 r,E6 (a0)=some r→bU BM (a0)→JM a0 (fun y=>y=r)):aJ Tryz.prog 107 iR :=
 aN (E:=IH) (Hs:=W9) ACV aU aV (aK rfl) 8 ⟨_,_,Tryz.func107,rfl⟩ rfl fun x r h1 h2=>by
  let a0:=x
  rw[show Sh.bI BM (a0)=[aB true aP a0] from rfl,V6]
  exact h a0 r h1 h2
theorem TP {a b:Bool} {n:Bool} (h:n=(a||b)):aC a (T.v (.bool true)=T.v (.bool n)) (T.v (.bool b)=T.v (.bool n)):=by
 subst h;cases a<;>rfl
theorem AKX:aJ Tryz.prog 107 iR:=AMI fun p r h hb=>by
 have b1:(cV p).1.length≤2 ^ 47:=hb.2.2.2.2.2.2.1.1.1
 have b2:(cV p).2.length≤2 ^ 47:=hb.2.2.2.2.2.2.1.2.1
 cases h
 unfold JM
 have j:∀ {a b:Bool} {K:Bool×PUnit→Prop},K (a||b,())→oQ (Bool×PUnit) (fun (X:Bool×PUnit→Prop)=>aC a (X (true,())) (X (b,()))) K:=fun {a b K} hK=>by
  rw[pX];cases a<;>exact hK
 have e1:decide (0<IntKind.i64.wrap (((List.map aA.enc (cV p).1).length:Int)+((List.map aA.li.enc (cV p).2).length:Int)))=decide (0<(cV p).1.length+(cV p).2.length):=by
  rw[List.length_map,List.length_map,aO _ (by omega) (by omega)]
  exact decide_eq_decide.2 (by omega)
 refine j ?_
 refine j ?_
 refine j ?_
 dsimp only
 rw[e1,Bool.and_true]
 refine bT (fun h=>TP (by unfold fT;rw[if_pos h];rfl)) fun k1=>?_
 refine bT (fun h=>TP (by unfold fT;rw[if_neg k1,if_pos (.inl h)];rfl)) fun k2=>?_
 refine bT (fun h=>TP (by unfold fT;rw[if_neg k1,if_pos (.inr h)];rfl)) fun k3=>?_
 have w:fT p=(!decide (cY p = { data:=#[] })||(MJ p||AQK p)):=by
  unfold fT;rw[if_neg k1,if_neg];rintro (h|h)
  ·exact k2 h
  ·exact k3 h
 have fin:aC (!decide (cY p = { data:=#[] })) (T.v (.bool true)=T.v (.bool (fT p))) (aC (MJ p) (T.v (.bool true)=T.v (.bool (fT p))) (T.v (.bool (AQK p))=T.v (.bool (fT p)))):=by
  rw[w]
  cases (!decide (cY p = { data:=#[] })) with
  | true=>rfl
  | false=>exact TP rfl
 exact bT (fun _=>fin) fun _=>fin
def GJ (m:aM) (n:ByteArray):Bool:=match l8 m n with
 | some s=>decide (1≤s.2.1)&&decide (s.2.1≤1000000)&&(decide (1≤s.2.2.1)&&decide (s.2.2.1≤2000))
 | none=>false
def cQ (p:bC) (m:aM):Bool:=if a6 p=4 then true else match cA m (cY p) with
 | none=>false
 | some g=>decide (1000≤g.2.1)&&decide (g.2.1≤20000)&&(if a6 p=1 then decide (1≤eO p)&&decide (eO p≤120)&&fS m (cY p) (eO p) else GJ m (wW p))
noncomputable def QZ:Env:=Env.of [(60,.pure dD),(61,.pure bW),(146,.pure gH)]
def AHJ:FuncId→Hint:=fun _=>aS
theorem AJD:aF Tryz.prog QZ:=aF.cons (x:=.pure dD) DU (aF.cons (x:=.pure bW) LA (aF.cons (x:=.pure gH) AEV (aF.nil _)))
def RU (a0:bC) (a1:aM) (R:T→Prop):Prop :=
 aC (decide (a0.2.2.1=1))
 (aH [(true,bK),(false,Sy.bool)]
 (dD [aB true aG a1,T.v (.string a0.2.2.2.2.1)])
 fun (y0:dO×Bool) =>
 aC (!y0.2) (R (T.v (.bool false)))
 (aC (decide (1000≤y0.1.2.1))
 (aC (!decide (y0.1.2.1≤20000)) (R (T.v (.bool false)))
 (aC (decide (a0.2.2.1=1))
 (aC (decide (1≤a0.2.2.2.2.2.1))
 (aC (decide (a0.2.2.2.2.2.1≤120))
 (aH [(false,Sy.bool)]
 (gH
 [aB true aG a1,T.v (.string a0.2.2.2.2.1),
 T.v (.int .i64 a0.2.2.2.2.2.1)])
 fun (y1:Bool)=>R (T.v (.bool y1)))
 (R (T.v (.bool false))))
 (R (T.v (.bool false))))
 (aC (decide (a0.2.2.1=2))
 (aH [(true,aW),(false,Sy.bool)]
 (bW
 [aB true aG a1,T.v (.string a0.2.2.2.2.2.2.2.1)])
 fun (y2:bQ×Bool) =>
 aC y2.2
 (aC (decide (1≤y2.1.2.1))
 (aC (decide (y2.1.2.1≤1000000))
 (aC (decide (1≤y2.1.2.2.1))
 (R (T.v (.bool (decide (y2.1.2.2.1≤2000)))))
 (R (T.v (.bool false))))
 (R (T.v (.bool false))))
 (R (T.v (.bool false))))
 (R (T.v (.bool false))))
 (aC (decide (a0.2.2.1=3))
 (aH [(true,aW),(false,Sy.bool)]
 (bW
 [aB true aG a1,
 T.v (.string a0.2.2.2.2.2.2.2.1)])
 fun (y3:bQ×Bool) =>
 aC y3.2
 (aC (decide (1≤y3.1.2.1))
 (aC (decide (y3.1.2.1≤1000000))
 (aC (decide (1≤y3.1.2.2.1))
 (R (T.v (.bool (decide (y3.1.2.2.1≤2000)))))
 (R (T.v (.bool false))))
 (R (T.v (.bool false))))
 (R (T.v (.bool false))))
 (R (T.v (.bool false))))
 (aC (decide (a0.2.2.1=4))
 (aH [(true,aW),(false,Sy.bool)]
 (bW
 [aB true aG a1,
 T.v (.string a0.2.2.2.2.2.2.2.1)])
 fun (y4:bQ×Bool) =>
 aC y4.2
 (aC (decide (1≤y4.1.2.1))
 (aC (decide (y4.1.2.1≤1000000))
 (aC (decide (1≤y4.1.2.2.1))
 (R (T.v (.bool (decide (y4.1.2.2.1≤2000)))))
 (R (T.v (.bool false))))
 (R (T.v (.bool false))))
 (R (T.v (.bool false))))
 (R (T.v (.bool false))))
 (aH [(true,aW),(false,Sy.bool)]
 (bW
 [aB true aG a1,
 T.v (.string a0.2.2.2.2.2.2.2.1)])
 fun (y5:bQ×Bool) =>
 aC y5.2
 (aC (decide (1≤y5.1.2.1))
 (aC (decide (y5.1.2.1≤1000000))
 (aC (decide (1≤y5.1.2.2.1))
 (R (T.v (.bool (decide (y5.1.2.2.1≤2000)))))
 (R (T.v (.bool false))))
 (R (T.v (.bool false))))
 (R (T.v (.bool false))))
 (R (T.v (.bool false)))))))))
 (R (T.v (.bool false)))))
 (aC (decide (a0.2.2.1=2))
 (aH [(true,bK),(false,Sy.bool)]
 (dD [aB true aG a1,T.v (.string a0.2.2.2.2.1)])
 fun (y6:dO×Bool) =>
 aC (!y6.2) (R (T.v (.bool false)))
 (aC (decide (1000≤y6.1.2.1))
 (aC (!decide (y6.1.2.1≤20000)) (R (T.v (.bool false)))
 (aC (decide (a0.2.2.1=1))
 (aC (decide (1≤a0.2.2.2.2.2.1))
 (aC (decide (a0.2.2.2.2.2.1≤120))
 (aH [(false,Sy.bool)]
 (gH
 [aB true aG a1,T.v (.string a0.2.2.2.2.1),
 T.v (.int .i64 a0.2.2.2.2.2.1)])
 fun (y7:Bool)=>R (T.v (.bool y7)))
 (R (T.v (.bool false))))
 (R (T.v (.bool false))))
 (aC (decide (a0.2.2.1=2))
 (aH [(true,aW),(false,Sy.bool)]
 (bW
 [aB true aG a1,
 T.v (.string a0.2.2.2.2.2.2.2.1)])
 fun (y8:bQ×Bool) =>
 aC y8.2
 (aC (decide (1≤y8.1.2.1))
 (aC (decide (y8.1.2.1≤1000000))
 (aC (decide (1≤y8.1.2.2.1))
 (R (T.v (.bool (decide (y8.1.2.2.1≤2000)))))
 (R (T.v (.bool false))))
 (R (T.v (.bool false))))
 (R (T.v (.bool false))))
 (R (T.v (.bool false))))
 (aC (decide (a0.2.2.1=3))
 (aH [(true,aW),(false,Sy.bool)]
 (bW
 [aB true aG a1,
 T.v (.string a0.2.2.2.2.2.2.2.1)])
 fun (y9:bQ×Bool) =>
 aC y9.2
 (aC (decide (1≤y9.1.2.1))
 (aC (decide (y9.1.2.1≤1000000))
 (aC (decide (1≤y9.1.2.2.1))
 (R (T.v (.bool (decide (y9.1.2.2.1≤2000)))))
 (R (T.v (.bool false))))
 (R (T.v (.bool false))))
 (R (T.v (.bool false))))
 (R (T.v (.bool false))))
 (aC (decide (a0.2.2.1=4))
 (aH [(true,aW),(false,Sy.bool)]
 (bW
 [aB true aG a1,
 T.v (.string a0.2.2.2.2.2.2.2.1)])
 fun (y10:bQ×Bool) =>
 aC y10.2
 (aC (decide (1≤y10.1.2.1))
 (aC (decide (y10.1.2.1≤1000000))
 (aC (decide (1≤y10.1.2.2.1))
 (R (T.v (.bool (decide (y10.1.2.2.1≤2000)))))
 (R (T.v (.bool false))))
 (R (T.v (.bool false))))
 (R (T.v (.bool false))))
 (R (T.v (.bool false))))
 (aH [(true,aW),(false,Sy.bool)]
 (bW
 [aB true aG a1,
 T.v (.string a0.2.2.2.2.2.2.2.1)])
 fun (y11:bQ×Bool) =>
 aC y11.2
 (aC (decide (1≤y11.1.2.1))
 (aC (decide (y11.1.2.1≤1000000))
 (aC (decide (1≤y11.1.2.2.1))
 (R (T.v (.bool (decide (y11.1.2.2.1≤2000)))))
 (R (T.v (.bool false))))
 (R (T.v (.bool false))))
 (R (T.v (.bool false))))
 (R (T.v (.bool false)))))))))
 (R (T.v (.bool false)))))
 (aC (decide (a0.2.2.1=3))
 (aH [(true,bK),(false,Sy.bool)]
 (dD [aB true aG a1,T.v (.string a0.2.2.2.2.1)])
 fun (y12:dO×Bool) =>
 aC (!y12.2) (R (T.v (.bool false)))
 (aC (decide (1000≤y12.1.2.1))
 (aC (!decide (y12.1.2.1≤20000)) (R (T.v (.bool false)))
 (aC (decide (a0.2.2.1=1))
 (aC (decide (1≤a0.2.2.2.2.2.1))
 (aC (decide (a0.2.2.2.2.2.1≤120))
 (aH [(false,Sy.bool)]
 (gH
 [aB true aG a1,T.v (.string a0.2.2.2.2.1),
 T.v (.int .i64 a0.2.2.2.2.2.1)])
 fun (y13:Bool)=>R (T.v (.bool y13)))
 (R (T.v (.bool false))))
 (R (T.v (.bool false))))
 (aC (decide (a0.2.2.1=2))
 (aH [(true,aW),(false,Sy.bool)]
 (bW
 [aB true aG a1,
 T.v (.string a0.2.2.2.2.2.2.2.1)])
 fun (y14:bQ×Bool) =>
 aC y14.2
 (aC (decide (1≤y14.1.2.1))
 (aC (decide (y14.1.2.1≤1000000))
 (aC (decide (1≤y14.1.2.2.1))
 (R (T.v (.bool (decide (y14.1.2.2.1≤2000)))))
 (R (T.v (.bool false))))
 (R (T.v (.bool false))))
 (R (T.v (.bool false))))
 (R (T.v (.bool false))))
 (aC (decide (a0.2.2.1=3))
 (aH [(true,aW),(false,Sy.bool)]
 (bW
 [aB true aG a1,
 T.v (.string a0.2.2.2.2.2.2.2.1)])
 fun (y15:bQ×Bool) =>
 aC y15.2
 (aC (decide (1≤y15.1.2.1))
 (aC (decide (y15.1.2.1≤1000000))
 (aC (decide (1≤y15.1.2.2.1))
 (R (T.v (.bool (decide (y15.1.2.2.1≤2000)))))
 (R (T.v (.bool false))))
 (R (T.v (.bool false))))
 (R (T.v (.bool false))))
 (R (T.v (.bool false))))
 (aC (decide (a0.2.2.1=4))
 (aH [(true,aW),(false,Sy.bool)]
 (bW
 [aB true aG a1,
 T.v (.string a0.2.2.2.2.2.2.2.1)])
 fun (y16:bQ×Bool) =>
 aC y16.2
 (aC (decide (1≤y16.1.2.1))
 (aC (decide (y16.1.2.1≤1000000))
 (aC (decide (1≤y16.1.2.2.1))
 (R (T.v (.bool (decide (y16.1.2.2.1≤2000)))))
 (R (T.v (.bool false))))
 (R (T.v (.bool false))))
 (R (T.v (.bool false))))
 (R (T.v (.bool false))))
 (aH [(true,aW),(false,Sy.bool)]
 (bW
 [aB true aG a1,
 T.v (.string a0.2.2.2.2.2.2.2.1)])
 fun (y17:bQ×Bool) =>
 aC y17.2
 (aC (decide (1≤y17.1.2.1))
 (aC (decide (y17.1.2.1≤1000000))
 (aC (decide (1≤y17.1.2.2.1))
 (R (T.v (.bool (decide (y17.1.2.2.1≤2000)))))
 (R (T.v (.bool false))))
 (R (T.v (.bool false))))
 (R (T.v (.bool false))))
 (R (T.v (.bool false)))))))))
 (R (T.v (.bool false)))))
 (aC (decide (a0.2.2.1=4)) (R (T.v (.bool true)))
 (aH [(true,bK),(false,Sy.bool)]
 (dD [aB true aG a1,T.v (.string a0.2.2.2.2.1)])
 fun (y18:dO×Bool) =>
 aC (!y18.2) (R (T.v (.bool false)))
 (aC (decide (1000≤y18.1.2.1))
 (aC (!decide (y18.1.2.1≤20000)) (R (T.v (.bool false)))
 (aC (decide (a0.2.2.1=1))
 (aC (decide (1≤a0.2.2.2.2.2.1))
 (aC (decide (a0.2.2.2.2.2.1≤120))
 (aH [(false,Sy.bool)]
 (gH
 [aB true aG a1,T.v (.string a0.2.2.2.2.1),
 T.v (.int .i64 a0.2.2.2.2.2.1)])
 fun (y19:Bool)=>R (T.v (.bool y19)))
 (R (T.v (.bool false))))
 (R (T.v (.bool false))))
 (aC (decide (a0.2.2.1=2))
 (aH [(true,aW),(false,Sy.bool)]
 (bW
 [aB true aG a1,
 T.v (.string a0.2.2.2.2.2.2.2.1)])
 fun (y20:bQ×Bool) =>
 aC y20.2
 (aC (decide (1≤y20.1.2.1))
 (aC (decide (y20.1.2.1≤1000000))
 (aC (decide (1≤y20.1.2.2.1))
 (R (T.v (.bool (decide (y20.1.2.2.1≤2000)))))
 (R (T.v (.bool false))))
 (R (T.v (.bool false))))
 (R (T.v (.bool false))))
 (R (T.v (.bool false))))
 (aC (decide (a0.2.2.1=3))
 (aH [(true,aW),(false,Sy.bool)]
 (bW
 [aB true aG a1,
 T.v (.string a0.2.2.2.2.2.2.2.1)])
 fun (y21:bQ×Bool) =>
 aC y21.2
 (aC (decide (1≤y21.1.2.1))
 (aC (decide (y21.1.2.1≤1000000))
 (aC (decide (1≤y21.1.2.2.1))
 (R (T.v (.bool (decide (y21.1.2.2.1≤2000)))))
 (R (T.v (.bool false))))
 (R (T.v (.bool false))))
 (R (T.v (.bool false))))
 (R (T.v (.bool false))))
 (aC (decide (a0.2.2.1=4))
 (aH [(true,aW),(false,Sy.bool)]
 (bW
 [aB true aG a1,
 T.v (.string a0.2.2.2.2.2.2.2.1)])
 fun (y22:bQ×Bool) =>
 aC y22.2
 (aC (decide (1≤y22.1.2.1))
 (aC (decide (y22.1.2.1≤1000000))
 (aC (decide (1≤y22.1.2.2.1))
 (R (T.v (.bool (decide (y22.1.2.2.1≤2000)))))
 (R (T.v (.bool false))))
 (R (T.v (.bool false))))
 (R (T.v (.bool false))))
 (R (T.v (.bool false))))
 (aH [(true,aW),(false,Sy.bool)]
 (bW
 [aB true aG a1,
 T.v (.string a0.2.2.2.2.2.2.2.1)])
 fun (y23:bQ×Bool) =>
 aC y23.2
 (aC (decide (1≤y23.1.2.1))
 (aC (decide (y23.1.2.1≤1000000))
 (aC (decide (1≤y23.1.2.2.1))
 (R (T.v (.bool (decide (y23.1.2.2.1≤2000)))))
 (R (T.v (.bool false))))
 (R (T.v (.bool false))))
 (R (T.v (.bool false))))
 (R (T.v (.bool false)))))))))
 (R (T.v (.bool false))))))))
theorem ADS ( a0 a1 R):bD aX Tryz.prog QZ AHJ 8 108 [aB true aP a0,aB true aG a1] R=RU a0 a1 R:=by kernel_rfl
abbrev HI:Sh:=[(true,aP),(true,aG)]
def MO (x:bC×aM):Option T:=tH x.2 (T.v (.bool (cQ x.1 x.2)))
noncomputable def kZ:List T→Option (T):=gS HI MO
theorem AFK {a0 a1}:kZ [aB true aP a0,aB true aG a1]=MO (a0,a1):=aT (s:=HI) rfl (a0,a1) rfl
theorem ARI (h:∀ a0 a1 r,MO (a0,a1)=some r→bU HI (a0,a1)→RU a0 a1 (fun y=>y=r)):aJ Tryz.prog 108 kZ :=
 aN (E:=QZ) (Hs:=AHJ) AJD aU aV (aK rfl) 8 ⟨_,_,Tryz.func108,rfl⟩ rfl fun x r h1 h2=>by
  obtain ⟨a0,a1⟩:=x
  rw[show Sh.bI HI (a0,a1)=[aB true aP a0,aB true aG a1] from rfl,ADS]
  exact h a0 a1 r h1 h2
theorem zR (m:aM) (n:ByteArray):bW [aB true aG m,T.v (.string n)]=some (Sh.enc [(true,aW),(false,.bool)] (found AK (l8 m n))):=TD ..
theorem APV:aJ Tryz.prog 108 kZ:=ARI fun p m r h hb=>by
 obtain ⟨hok,rfl⟩:=nT h
 replace hok:CA m=true:=hok
 clear h
 have is:∀ {n:Bool},cQ p m=n→T.v (.bool n)=T.v (.bool (cQ p m)):=fun h=>by rw[h]
 unfold RU
 have sec:∀ {g:dO},cA m (cY p)=some g→¬ a6 p=4→¬ a6 p=1→1000≤g.2.1→g.2.1≤20000 →
   aH [(true,aW),(false,Sy.bool)] (bW [aB true aG m,T.v (.string (wW p))])
    fun (y2:bQ×Bool) =>
    aC y2.2
     (aC (decide (1≤y2.1.2.1))
      (aC (decide (y2.1.2.1≤1000000))
       (aC (decide (1≤y2.1.2.2.1))
        (T.v (.bool (decide (y2.1.2.2.1≤2000)))=T.v (.bool (cQ p m)))
        (T.v (.bool false)=T.v (.bool (cQ p m))))
       (T.v (.bool false)=T.v (.bool (cQ p m))))
      (T.v (.bool false)=T.v (.bool (cQ p m))))
     (T.v (.bool false)=T.v (.bool (cQ p m))):=by
  intro g hg k4 k1 d1 d2
  have w:cQ p m=GJ m (wW p):=by
   unfold cQ;rw[if_neg k4,hg];dsimp only;rw[decide_eq_true d1,decide_eq_true d2,if_neg k1];rfl
  refine aD (s:=[(true,aW),(false,.bool)]) (zR m _) ?_
  cases hs:l8 m (wW p) with
  | none =>
   show aC false _ _
   rw[cO];exact is (by rw[w];unfold GJ;rw[hs])
  | some s =>
   show aC true _ _
   rw[cH]
   dsimp only[found]
   have w2:cQ p m=(decide (1≤s.2.1)&&decide (s.2.1≤1000000)&&(decide (1≤s.2.2.1)&&decide (s.2.2.1≤2000))):=by rw[w];unfold GJ;rw[hs]
   refine bT (fun h1=>bT (fun h2=>bT (fun h3=>is ?_) fun h3=>is ?_) fun h2=>is ?_) fun h1=>is ?_
   ·rw[w2,decide_eq_true h1,decide_eq_true h2,decide_eq_true h3];rfl
   ·rw[w2,decide_eq_true h1,decide_eq_true h2,decide_eq_false h3];rfl
   ·rw[w2,decide_eq_true h1,decide_eq_false h2];rfl
   ·rw[w2,decide_eq_false h1];rfl
 have plate:∀ {g:dO},cA m (cY p)=some g→a6 p=1→1000≤g.2.1→g.2.1≤20000 →
   aC (decide (1≤eO p)) (aC (decide (eO p≤120)) (aH [(false,Sy.bool)] (gH [aB true aG m,T.v (.string (cY p)),T.v (.int .i64 (eO p))]) fun (y1:Bool)=>T.v (.bool y1)=T.v (.bool (cQ p m))) (T.v (.bool false)=T.v (.bool (cQ p m)))) (T.v (.bool false)=T.v (.bool (cQ p m))):=by
  intro g hg k1 d1 d2
  have w:cQ p m=(decide (1≤eO p)&&decide (eO p≤120)&&fS m (cY p) (eO p)):=by
   unfold cQ;rw[if_neg (by omega),hg];dsimp only;rw[decide_eq_true d1,decide_eq_true d2,if_pos k1];rfl
  refine bT (fun h1=>bT (fun h2=>?_) fun h2=>is ?_) fun h1=>is ?_
  ·refine aD (s:=[(false,.bool)]) (y:=fS m (cY p) (eO p)) ((S1 ..).trans (nU _ hok)) (is ?_)
   rw[w,decide_eq_true h1,decide_eq_true h2];rfl
  ·rw[w,decide_eq_true h1,decide_eq_false h2];rfl
  ·rw[w,decide_eq_false h1];rfl
 by_cases k4:p.2.2.1=4
 ·have w:cQ p m=true:=by unfold cQ;rw[if_pos k4]
  repeat' first
   | (exfalso;omega)
   | exact is w
   | refine bT (fun h=>?_) (fun h=>?_)
 ·have hnone:cA m (cY p)=none→cQ p m=false:=fun h=>by unfold cQ;rw[if_neg k4,h]
  have dens:∀ {g:dO},cA m (cY p)=some g→¬ (1000≤g.2.1∧g.2.1≤20000)→cQ p m=false:=fun {g} hg h=>by
   unfold cQ;rw[if_neg k4,hg];dsimp only
   by_cases h1:1000≤g.2.1
   ·rw[decide_eq_false (show ¬ g.2.1≤20000 by omega),Bool.and_false,Bool.false_and]
   ·rw[decide_eq_false h1,Bool.false_and,Bool.false_and]
  have call:∀ {K:dO×Bool→Prop},(cA m (cY p)=none→K (fG,false))→(∀ g,cA m (cY p)=some g→K (g,true))→aH [(true,bK),(false,Sy.bool)] (dD [aB true aG m,T.v (.string p.2.2.2.2.1)]) K:=fun {K} h1 h2=>by
   refine aD (s:=[(true,bK),(false,.bool)]) (sO hok _) ?_
   cases hg:cA m (cY p) with
   | none=>exact h1 hg
   | some g=>exact h2 g hg
  have body:∀ {K:dO×Bool→Prop},(∀ g,cA m (cY p)=some g→1000≤g.2.1→g.2.1≤20000→K (g,true))→aH [(true,bK),(false,Sy.bool)] (dD [aB true aG m,T.v (.string p.2.2.2.2.1)]) fun (y0:dO×Bool)=>aC (!y0.2) (T.v (.bool false)=T.v (.bool (cQ p m))) (aC (decide (1000≤y0.1.2.1)) (aC (!decide (y0.1.2.1≤20000)) (T.v (.bool false)=T.v (.bool (cQ p m))) (K y0)) (T.v (.bool false)=T.v (.bool (cQ p m)))):=fun {K} hK=>by
   refine call (fun hn=>?_) fun g hg=>?_
   ·show aC true _ _
    rw[cH];exact is (hnone hn)
   ·show aC false _ _
    rw[cO]
    exact bT (fun d1=>rX (fun d2=>is (dens hg (fun h=>d2 h.2))) fun d2=>hK g hg d1 d2) fun d1=>is (dens hg (fun h=>d1 h.1))
  refine bT (fun h=>body fun g hg d1 d2=>?_) fun h1=>bT (fun h=>body fun g hg d1 d2=>?_) fun h2=>bT (fun h=>body fun g hg d1 d2=>?_) fun h3=>bT (fun h=>absurd h k4) fun _=>body fun g hg d1 d2=>?_
  all_goals
   repeat' first
    | (exfalso;omega)
    | exact plate hg (by assumption) d1 d2
    | exact sec hg k4 (by assumption) d1 d2
    | exact sec hg k4 (by intro h';have h'':p.2.2.1=1:=h';omega) d1 d2
    | refine bT (fun h=>?_) (fun h=>?_)
def dX (p:bC) (m:aM):Int:=if oD p.1=false∨oD (lF p)=false then 6 else if ¬ (1≤p.2.1∧p.2.1≤1000) then 9 else if ¬ (a6 p=1∨a6 p=2∨a6 p=3∨a6 p=4) then 10 else if fT p=true then 2 else if cQ p m=false then 23 else
 if a6 p=1∧¬ fE (cV p)=0 then fE (cV p) else if (a6 p=2∨a6 p=3)∧¬ (1≤jA p∧jA p≤32768) then 9 else if a6 p=4∧¬ (1≤fV p∧fV p≤1099511627776∧gF (mV p)=true) then 9 else if gK (aAt p)=false then 9 else 0
noncomputable def CL:Env:=Env.of [(99,.pure qX),(107,.pure iR),(108,.pure kZ),(109,.pure eW),(111,.pure bV)]
def OD:FuncId→Hint:=fun _=>aS
theorem VD:aF Tryz.prog CL:=aF.cons (x:=.pure qX) ATK (aF.cons (x:=.pure iR) AKX (aF.cons (x:=.pure kZ) APV (aF.cons (x:=.pure eW) O7 (aF.cons (x:=.pure bV) AK8 (aF.nil _)))))
def C4 (a0:bC) (a1:aM) (R:T→Prop):Prop :=
 aH [(false,Sy.bool)] (qX [T.v (.string a0.1)]) fun (y0:Bool) =>
 aC (!y0) (R (T.v (.int .i64 6)))
 (aH [(false,Sy.bool)] (qX [T.v (.string a0.2.2.2.1)])
 fun (y1:Bool) =>
 aC (!y1) (R (T.v (.int .i64 6)))
 (aC (decide (1≤a0.2.1))
 (aC (!decide (a0.2.1≤1000)) (R (T.v (.int .i64 9)))
 (aC (decide (a0.2.2.1=1))
 (aH [(false,Sy.bool)] (iR [aB true aP a0]) fun (y2:Bool) =>
 aC y2 (R (T.v (.int .i64 2)))
 (aH [(false,Sy.bool)]
 (kZ [aB true aP a0,aB true aG a1])
 fun (y3:Bool) =>
 aC (!y3) (R (T.v (.int .i64 23)))
 (aC (decide (a0.2.2.1=1))
 (aH [(false,Sy.int IntKind.i64)]
 (eW [aB true b6 a0.2.2.2.2.2.2.1])
 fun (y4:Int) =>
 aC (!decide (y4=0)) (R (T.v (.int .i64 y4)))
 (aH [(false,Sy.bool)]
 (bV
 [aB true cI a0.2.2.2.2.2.2.2.2.2.2.2])
 fun (y5:Bool) =>
 aC (!y5) (R (T.v (.int .i64 9)))
 (R (T.v (.int .i64 0)))))
 (aC (decide (a0.2.2.1=2))
 (aC (decide (1≤a0.2.2.2.2.2.2.2.2.1))
 (aC (!decide (a0.2.2.2.2.2.2.2.2.1≤32768))
 (R (T.v (.int .i64 9)))
 (aH [(false,Sy.bool)]
 (bV
 [aB true cI a0.2.2.2.2.2.2.2.2.2.2.2])
 fun (y6:Bool) =>
 aC (!y6) (R (T.v (.int .i64 9)))
 (R (T.v (.int .i64 0)))))
 (R (T.v (.int .i64 9))))
 (aC (decide (a0.2.2.1=3))
 (aC (decide (1≤a0.2.2.2.2.2.2.2.2.1))
 (aC (!decide (a0.2.2.2.2.2.2.2.2.1≤32768))
 (R (T.v (.int .i64 9)))
 (aH [(false,Sy.bool)]
 (bV
 [aB true cI a0.2.2.2.2.2.2.2.2.2.2.2])
 fun (y7:Bool) =>
 aC (!y7) (R (T.v (.int .i64 9)))
 (R (T.v (.int .i64 0)))))
 (R (T.v (.int .i64 9))))
 (aC (decide (a0.2.2.1=4))
 (aC (decide (1≤a0.2.2.2.2.2.2.2.2.2.1))
 (aC (!decide (a0.2.2.2.2.2.2.2.2.2.1≤1099511627776))
 (R (T.v (.int .i64 9)))
 (aH [(false,Sy.bool)]
 (bV
 [T.agg
 [T.v
 (Value.int IntKind.i64
 a0.2.2.2.2.2.2.2.2.2.2.1.1),
 T.v
 (Value.int IntKind.i64
 a0.2.2.2.2.2.2.2.2.2.2.1.2.1),
 T.v
 (Value.int IntKind.i64
 a0.2.2.2.2.2.2.2.2.2.2.1.2.2),
 T.v (.int .i64 0)]])
 fun (y8:Bool) =>
 aC (!y8) (R (T.v (.int .i64 9)))
 (aH [(false,Sy.bool)]
 (bV
 [aB true cI a0.2.2.2.2.2.2.2.2.2.2.2])
 fun (y9:Bool) =>
 aC (!y9) (R (T.v (.int .i64 9)))
 (R (T.v (.int .i64 0))))))
 (R (T.v (.int .i64 9))))
 (aH [(false,Sy.bool)]
 (bV
 [aB true cI a0.2.2.2.2.2.2.2.2.2.2.2])
 fun (y10:Bool) =>
 aC (!y10) (R (T.v (.int .i64 9)))
 (R (T.v (.int .i64 0))))))))))
 (aC (decide (a0.2.2.1=2))
 (aH [(false,Sy.bool)] (iR [aB true aP a0])
 fun (y11:Bool) =>
 aC y11 (R (T.v (.int .i64 2)))
 (aH [(false,Sy.bool)]
 (kZ [aB true aP a0,aB true aG a1])
 fun (y12:Bool) =>
 aC (!y12) (R (T.v (.int .i64 23)))
 (aC (decide (a0.2.2.1=1))
 (aH [(false,Sy.int IntKind.i64)]
 (eW [aB true b6 a0.2.2.2.2.2.2.1])
 fun (y13:Int) =>
 aC (!decide (y13=0)) (R (T.v (.int .i64 y13)))
 (aH [(false,Sy.bool)]
 (bV
 [aB true cI a0.2.2.2.2.2.2.2.2.2.2.2])
 fun (y14:Bool) =>
 aC (!y14) (R (T.v (.int .i64 9)))
 (R (T.v (.int .i64 0)))))
 (aC (decide (a0.2.2.1=2))
 (aC (decide (1≤a0.2.2.2.2.2.2.2.2.1))
 (aC (!decide (a0.2.2.2.2.2.2.2.2.1≤32768))
 (R (T.v (.int .i64 9)))
 (aH [(false,Sy.bool)]
 (bV
 [aB true cI a0.2.2.2.2.2.2.2.2.2.2.2])
 fun (y15:Bool) =>
 aC (!y15) (R (T.v (.int .i64 9)))
 (R (T.v (.int .i64 0)))))
 (R (T.v (.int .i64 9))))
 (aC (decide (a0.2.2.1=3))
 (aC (decide (1≤a0.2.2.2.2.2.2.2.2.1))
 (aC (!decide (a0.2.2.2.2.2.2.2.2.1≤32768))
 (R (T.v (.int .i64 9)))
 (aH [(false,Sy.bool)]
 (bV
 [aB true cI a0.2.2.2.2.2.2.2.2.2.2.2])
 fun (y16:Bool) =>
 aC (!y16) (R (T.v (.int .i64 9)))
 (R (T.v (.int .i64 0)))))
 (R (T.v (.int .i64 9))))
 (aC (decide (a0.2.2.1=4))
 (aC (decide (1≤a0.2.2.2.2.2.2.2.2.2.1))
 (aC (!decide (a0.2.2.2.2.2.2.2.2.2.1≤1099511627776))
 (R (T.v (.int .i64 9)))
 (aH [(false,Sy.bool)]
 (bV
 [T.agg
 [T.v
 (Value.int IntKind.i64
 a0.2.2.2.2.2.2.2.2.2.2.1.1),
 T.v
 (Value.int IntKind.i64
 a0.2.2.2.2.2.2.2.2.2.2.1.2.1),
 T.v
 (Value.int IntKind.i64
 a0.2.2.2.2.2.2.2.2.2.2.1.2.2),
 T.v (.int .i64 0)]])
 fun (y17:Bool) =>
 aC (!y17) (R (T.v (.int .i64 9)))
 (aH [(false,Sy.bool)]
 (bV
 [aB true cI
 a0.2.2.2.2.2.2.2.2.2.2.2])
 fun (y18:Bool) =>
 aC (!y18) (R (T.v (.int .i64 9)))
 (R (T.v (.int .i64 0))))))
 (R (T.v (.int .i64 9))))
 (aH [(false,Sy.bool)]
 (bV
 [aB true cI a0.2.2.2.2.2.2.2.2.2.2.2])
 fun (y19:Bool) =>
 aC (!y19) (R (T.v (.int .i64 9)))
 (R (T.v (.int .i64 0))))))))))
 (aC (decide (a0.2.2.1=3))
 (aH [(false,Sy.bool)] (iR [aB true aP a0])
 fun (y20:Bool) =>
 aC y20 (R (T.v (.int .i64 2)))
 (aH [(false,Sy.bool)]
 (kZ [aB true aP a0,aB true aG a1])
 fun (y21:Bool) =>
 aC (!y21) (R (T.v (.int .i64 23)))
 (aC (decide (a0.2.2.1=1))
 (aH [(false,Sy.int IntKind.i64)]
 (eW [aB true b6 a0.2.2.2.2.2.2.1])
 fun (y22:Int) =>
 aC (!decide (y22=0)) (R (T.v (.int .i64 y22)))
 (aH [(false,Sy.bool)]
 (bV
 [aB true cI a0.2.2.2.2.2.2.2.2.2.2.2])
 fun (y23:Bool) =>
 aC (!y23) (R (T.v (.int .i64 9)))
 (R (T.v (.int .i64 0)))))
 (aC (decide (a0.2.2.1=2))
 (aC (decide (1≤a0.2.2.2.2.2.2.2.2.1))
 (aC (!decide (a0.2.2.2.2.2.2.2.2.1≤32768))
 (R (T.v (.int .i64 9)))
 (aH [(false,Sy.bool)]
 (bV
 [aB true cI a0.2.2.2.2.2.2.2.2.2.2.2])
 fun (y24:Bool) =>
 aC (!y24) (R (T.v (.int .i64 9)))
 (R (T.v (.int .i64 0)))))
 (R (T.v (.int .i64 9))))
 (aC (decide (a0.2.2.1=3))
 (aC (decide (1≤a0.2.2.2.2.2.2.2.2.1))
 (aC (!decide (a0.2.2.2.2.2.2.2.2.1≤32768))
 (R (T.v (.int .i64 9)))
 (aH [(false,Sy.bool)]
 (bV
 [aB true cI a0.2.2.2.2.2.2.2.2.2.2.2])
 fun (y25:Bool) =>
 aC (!y25) (R (T.v (.int .i64 9)))
 (R (T.v (.int .i64 0)))))
 (R (T.v (.int .i64 9))))
 (aC (decide (a0.2.2.1=4))
 (aC (decide (1≤a0.2.2.2.2.2.2.2.2.2.1))
 (aC (!decide (a0.2.2.2.2.2.2.2.2.2.1≤1099511627776))
 (R (T.v (.int .i64 9)))
 (aH [(false,Sy.bool)]
 (bV
 [T.agg
 [T.v
 (Value.int IntKind.i64
 a0.2.2.2.2.2.2.2.2.2.2.1.1),
 T.v
 (Value.int IntKind.i64
 a0.2.2.2.2.2.2.2.2.2.2.1.2.1),
 T.v
 (Value.int IntKind.i64
 a0.2.2.2.2.2.2.2.2.2.2.1.2.2),
 T.v (.int .i64 0)]])
 fun (y26:Bool) =>
 aC (!y26) (R (T.v (.int .i64 9)))
 (aH [(false,Sy.bool)]
 (bV
 [aB true cI
 a0.2.2.2.2.2.2.2.2.2.2.2])
 fun (y27:Bool) =>
 aC (!y27) (R (T.v (.int .i64 9)))
 (R (T.v (.int .i64 0))))))
 (R (T.v (.int .i64 9))))
 (aH [(false,Sy.bool)]
 (bV
 [aB true cI a0.2.2.2.2.2.2.2.2.2.2.2])
 fun (y28:Bool) =>
 aC (!y28) (R (T.v (.int .i64 9)))
 (R (T.v (.int .i64 0))))))))))
 (aC (decide (a0.2.2.1=4))
 (aH [(false,Sy.bool)] (iR [aB true aP a0])
 fun (y29:Bool) =>
 aC y29 (R (T.v (.int .i64 2)))
 (aH [(false,Sy.bool)]
 (kZ [aB true aP a0,aB true aG a1])
 fun (y30:Bool) =>
 aC (!y30) (R (T.v (.int .i64 23)))
 (aC (decide (a0.2.2.1=1))
 (aH [(false,Sy.int IntKind.i64)]
 (eW [aB true b6 a0.2.2.2.2.2.2.1])
 fun (y31:Int) =>
 aC (!decide (y31=0)) (R (T.v (.int .i64 y31)))
 (aH [(false,Sy.bool)]
 (bV
 [aB true cI a0.2.2.2.2.2.2.2.2.2.2.2])
 fun (y32:Bool) =>
 aC (!y32) (R (T.v (.int .i64 9)))
 (R (T.v (.int .i64 0)))))
 (aC (decide (a0.2.2.1=2))
 (aC (decide (1≤a0.2.2.2.2.2.2.2.2.1))
 (aC (!decide (a0.2.2.2.2.2.2.2.2.1≤32768))
 (R (T.v (.int .i64 9)))
 (aH [(false,Sy.bool)]
 (bV
 [aB true cI a0.2.2.2.2.2.2.2.2.2.2.2])
 fun (y33:Bool) =>
 aC (!y33) (R (T.v (.int .i64 9)))
 (R (T.v (.int .i64 0)))))
 (R (T.v (.int .i64 9))))
 (aC (decide (a0.2.2.1=3))
 (aC (decide (1≤a0.2.2.2.2.2.2.2.2.1))
 (aC (!decide (a0.2.2.2.2.2.2.2.2.1≤32768))
 (R (T.v (.int .i64 9)))
 (aH [(false,Sy.bool)]
 (bV
 [aB true cI a0.2.2.2.2.2.2.2.2.2.2.2])
 fun (y34:Bool) =>
 aC (!y34) (R (T.v (.int .i64 9)))
 (R (T.v (.int .i64 0)))))
 (R (T.v (.int .i64 9))))
 (aC (decide (a0.2.2.1=4))
 (aC (decide (1≤a0.2.2.2.2.2.2.2.2.2.1))
 (aC (!decide (a0.2.2.2.2.2.2.2.2.2.1≤1099511627776))
 (R (T.v (.int .i64 9)))
 (aH [(false,Sy.bool)]
 (bV
 [T.agg
 [T.v
 (Value.int IntKind.i64
 a0.2.2.2.2.2.2.2.2.2.2.1.1),
 T.v
 (Value.int IntKind.i64
 a0.2.2.2.2.2.2.2.2.2.2.1.2.1),
 T.v
 (Value.int IntKind.i64
 a0.2.2.2.2.2.2.2.2.2.2.1.2.2),
 T.v (.int .i64 0)]])
 fun (y35:Bool) =>
 aC (!y35) (R (T.v (.int .i64 9)))
 (aH [(false,Sy.bool)]
 (bV
 [aB true cI
 a0.2.2.2.2.2.2.2.2.2.2.2])
 fun (y36:Bool) =>
 aC (!y36) (R (T.v (.int .i64 9)))
 (R (T.v (.int .i64 0))))))
 (R (T.v (.int .i64 9))))
 (aH [(false,Sy.bool)]
 (bV
 [aB true cI a0.2.2.2.2.2.2.2.2.2.2.2])
 fun (y37:Bool) =>
 aC (!y37) (R (T.v (.int .i64 9)))
 (R (T.v (.int .i64 0))))))))))
 (R (T.v (.int .i64 10))))))))
 (R (T.v (.int .i64 9)))))
theorem RY ( a0 a1 R):bD aX Tryz.prog CL OD 8 59 [aB true aP a0,aB true aG a1] R=C4 a0 a1 R:=by kernel_rfl
abbrev u7:Sh:=[(true,aP),(true,aG)]
def yN (x:bC×aM):Option T:=tH x.2 (T.v (Value.int .i64 (dX x.1 x.2)))
noncomputable def kL:List T→Option (T):=gS u7 yN
theorem S8 {a0 a1}:kL [aB true aP a0,aB true aG a1]=yN (a0,a1):=aT (s:=u7) rfl (a0,a1) rfl
theorem AGE (h:∀ a0 a1 r,yN (a0,a1)=some r→bU u7 (a0,a1)→C4 a0 a1 (fun y=>y=r)):aJ Tryz.prog 59 kL :=
 aN (E:=CL) (Hs:=OD) VD aU aV (aK rfl) 8 ⟨_,_,Tryz.func59,rfl⟩ rfl fun x r h1 h2=>by
  obtain ⟨a0,a1⟩:=x
  rw[show Sh.bI u7 (a0,a1)=[aB true aP a0,aB true aG a1] from rfl,RY]
  exact h a0 a1 r h1 h2
theorem AE0:aJ Tryz.prog 59 kL:=AGE fun p m r h hb=>by
 obtain ⟨hok,rfl⟩:=nT h
 replace hok:CA m=true:=hok
 clear h hb
 have is:∀ {n:Int},dX p m=n→T.v (.int .i64 n)=T.v (.int .i64 (dX p m)):=fun h=>by rw[h]
 unfold C4
 rw[PI]
 refine pU (fun h=>is (by unfold dX;rw[if_pos (.inl h)])) fun i1=>?_
 rw[PI]
 refine pU (fun h=>is (by unfold dX;rw[if_pos (.inr h)])) fun i2=>?_
 have n1:¬ (oD p.1=false∨oD (lF p)=false):=by
  rintro (h|h)
  ·rw[i1] at h;cases h
  ·rw[show oD (lF p)=true from i2] at h;cases h
 have r9:¬ (1≤p.2.1∧p.2.1≤1000)→T.v (.int .i64 9)=T.v (.int .i64 (dX p m)):=fun h=>is (by unfold dX;rw[if_neg n1,if_pos h])
 refine bT (fun v1=>rX (fun h=>r9 (fun h2=>h h2.2)) fun v2=>?_) fun h=>r9 (fun h2=>h h2.1)
 have n2:¬ ¬ (1≤p.2.1∧p.2.1≤1000):=fun h=>h ⟨v1,v2⟩
 have w1:dX p m=if ¬ (a6 p=1∨a6 p=2∨a6 p=3∨a6 p=4) then 10 else if fT p=true then 2 else if cQ p m=false then 23 else if a6 p=1∧¬ fE (cV p)=0 then fE (cV p) else if (a6 p=2∨a6 p=3)∧¬ (1≤jA p∧jA p≤32768) then 9 else if a6 p=4∧¬ (1≤fV p∧fV p≤1099511627776∧gF (mV p)=true) then 9 else if gK (aAt p)=false then 9 else 0:=by
  unfold dX;rw[if_neg n1,if_neg n2]
 have spare:∀ {K:Bool→Prop},K (fT p)→aH [(false,Sy.bool)] (iR [aB true aP p]) K:=fun h=>aD (s:=[(false,.bool)]) (y:=fT p) (ZT ..) h
 have made:∀ {K:Bool→Prop},K (cQ p m)→aH [(false,Sy.bool)] (kZ [aB true aP p,aB true aG m]) K:=fun h=>aD (s:=[(false,.bool)]) (y:=cQ p m) ((AFK ..).trans (nU _ hok)) h
 have place:∀ {K:Bool→Prop},K (gK (aAt p))→aH [(false,Sy.bool)] (bV [aB true cI (aAt p)]) K:=fun h=>aD (s:=[(false,.bool)]) (y:=gK (aAt p)) (F5 ..) h
 have near:∀ {K:Bool→Prop},K (gF (mV p))→aH [(false,Sy.bool)] (bV [aB true cI (mV p,0)]) K:=fun {K} h=>aD (s:=[(false,.bool)]) (y:=gK (mV p,0)) (F5 ..) (by
  rw[show gK (mV p,0)=gF (mV p) by unfold gK;rw[show decide (((mV p,(0:Int)):qN).2=AAW ((mV p,(0:Int)):qN).2)=true from rfl,Bool.and_true]];exact h)
 have reg:∀ {K:Int→Prop},K (fE (cV p))→aH [(false,Sy.int IntKind.i64)] (eW [aB true b6 (cV p)]) K:=fun h=>aD (s:=[(false,.int .i64)]) (F2 _) h
 repeat' first
  | (exfalso;omega)
  | refine spare ?_
  | refine made ?_
  | refine reg ?_
  | refine place ?_
  | refine near ?_
  | refine rX (fun h=>?_) (fun h=>?_)
  | refine bT (fun h=>?_) (fun h=>?_)
  | refine pU (fun h=>?_) (fun h=>?_)
  | refine vR (fun h=>?_) (fun h=>?_)
 all_goals (refine is ?_;clear spare made place near reg is r9;rw[w1];clear w1 n1 n2 i1 i2;simp_all;try (intros;exfalso;simp only[jA,fV] at *;omega))
theorem S9 {m:aM} (h:CA m=true) (p:bC):kL [aB true aP p,aB true aG m]=some (Sh.enc [(false,.int .i64)] (dX p m)):=(S8 ..).trans (nU _ h)
def D6 (m:aM) (n:ByteArray):dO:=(cA m n).getD fG
def AR4 (m:aM) (n:ByteArray):bQ:=(l8 m n).getD AK
theorem G2 {α:Type} {no:α} {o:Option α}:(found no o).1=o.getD no:=by cases o<;>rfl
def kC (p:bC) (m:aM):Int:=if a6 p=1 then IntKind.i64.wrap ((IntKind.i64.wrap (IntKind.i64.wrap (nY (cV p)*eO p)*(D6 m (cY p)).2.1)).tdiv 2000000) else if a6 p=2∨a6 p=3 then IntKind.i64.wrap ((IntKind.i64.wrap (IntKind.i64.wrap ((AR4 m (wW p)).2.1*jA p)*(D6 m (cY p)).2.1)).tdiv 1000000) else fV p
def dS (p:bC) (m:aM):Int×Int:=if dX p m=0 then (kC p m,0) else (0,dX p m)
noncomputable def II:Env:=Env.of [(59,.pure kL),(60,.pure dD),(61,.pure bW),(63,.pure nL)]
def XA:FuncId→Hint:=fun _=>aS
theorem ACW:aF Tryz.prog II:=aF.cons (x:=.pure kL) AE0 (aF.cons (x:=.pure dD) DU (aF.cons (x:=.pure bW) LA (aF.cons (x:=.pure nL) AK0 (aF.nil _))))
def JN (a0:bC) (a1:aM) (R:T→Prop):Prop :=
 aH [(false,Sy.int IntKind.i64)]
 (kL [aB true aP a0,aB true aG a1]) fun (y0:Int) =>
 aC (!decide (y0=0))
 (R (T.bX [T.v (.int .i64 0),T.v (.int .i64 y0)]))
 (aH [(true,bK),(false,Sy.bool)]
 (dD [aB true aG a1,T.v (.string a0.2.2.2.2.1)])
 fun (y1:dO×Bool) =>
 aH [(true,aW),(false,Sy.bool)]
 (bW
 [aB true aG a1,T.v (.string a0.2.2.2.2.2.2.2.1)])
 fun (y2:bQ×Bool) =>
 aC (decide (a0.2.2.1=1))
 (aH [(false,Sy.int IntKind.i64)]
 (nL [aB true b6 a0.2.2.2.2.2.2.1]) fun (y3:Int) =>
 bS true
 (R
 (T.bX
 [T.v
 (Value.int IntKind.i64
 (IntKind.i64.wrap
 ((IntKind.i64.wrap
 (IntKind.i64.wrap (y3*a0.2.2.2.2.2.1)*y1.1.2.1)).tdiv
 2000000))),
 T.v (.int .i64 0)])))
 (aC (decide (a0.2.2.1=2))
 (bS true
 (R
 (T.bX
 [T.v
 (Value.int IntKind.i64
 (IntKind.i64.wrap
 ((IntKind.i64.wrap
 (IntKind.i64.wrap (y2.1.2.1*a0.2.2.2.2.2.2.2.2.1) *
 y1.1.2.1)).tdiv
 1000000))),
 T.v (.int .i64 0)])))
 (aC (decide (a0.2.2.1=3))
 (bS true
 (R
 (T.bX
 [T.v
 (Value.int IntKind.i64
 (IntKind.i64.wrap
 ((IntKind.i64.wrap
 (IntKind.i64.wrap (y2.1.2.1*a0.2.2.2.2.2.2.2.2.1) *
 y1.1.2.1)).tdiv
 1000000))),
 T.v (.int .i64 0)])))
 (aC (decide (a0.2.2.1=4))
 (R
 (T.bX
 [T.v (.int .i64 a0.2.2.2.2.2.2.2.2.2.1),
 T.v (.int .i64 0)]))
 (R
 (T.bX
 [T.v (.int .i64 a0.2.2.2.2.2.2.2.2.2.1),
 T.v (.int .i64 0)]))))))
theorem V7 ( a0 a1 R):bD aX Tryz.prog II XA 8 28 [aB true aP a0,aB true aG a1] R=JN a0 a1 R:=by kernel_rfl
abbrev BN:Sh:=[(true,aP),(true,aG)]
abbrev ABC:Sh:=[(false,Sy.int IntKind.i64),(false,Sy.int IntKind.i64)]
def E7 (x:bC×aM):Option T:=tH x.2 (Sh.enc ABC (dS x.1 x.2))
noncomputable def nJ:List T→Option (T):=gS BN E7
theorem ZU {a0 a1}:nJ [aB true aP a0,aB true aG a1]=E7 (a0,a1):=aT (s:=BN) rfl (a0,a1) rfl
theorem AMJ (h:∀ a0 a1 r,E7 (a0,a1)=some r→bU BN (a0,a1)→JN a0 a1 (fun y=>y=r)):aJ Tryz.prog 28 nJ :=
 aN (E:=II) (Hs:=XA) ACW aU aV (aK rfl) 8 ⟨_,_,Tryz.func28,rfl⟩ rfl fun x r h1 h2=>by
  obtain ⟨a0,a1⟩:=x
  rw[show Sh.bI BN (a0,a1)=[aB true aP a0,aB true aG a1] from rfl,V7]
  exact h a0 a1 r h1 h2
theorem AKY:aJ Tryz.prog 28 nJ:=AMJ fun p m r h hb=>by
 obtain ⟨hok,rfl⟩:=nT h
 replace hok:CA m=true:=hok
 clear h hb
 have is:∀ {a b:Int},dS p m=(a,b)→T.bX [T.v (.int .i64 a),T.v (.int .i64 b)]=Sh.enc ABC (dS p m):=fun h=>by rw[h];rfl
 unfold JN
 refine aD (s:=[(false,.int .i64)]) (S9 hok p) ?_
 refine rX (fun h=>is (by unfold dS;rw[if_neg h])) fun h=>?_
 refine aD (s:=[(true,bK),(false,.bool)]) (sO hok _) ?_
 refine aD (s:=[(true,aW),(false,.bool)]) (zR m _) ?_
 have w:dS p m=(kC p m,0):=by unfold dS;rw[if_pos h]
 have eg:(found fG (cA m (cY p))).1=D6 m (cY p):=G2
 have es:(found AK (l8 m (wW p))).1=AR4 m (wW p):=G2
 refine bT (fun k1=>?_) fun k1=>?_
 ·refine aD (s:=[(false,.int .i64)]) (Z0 _) ?_
  refine ⟨rfl,is ?_⟩
  rw[w];unfold kC;rw[if_pos k1,←eg]
 refine bT (fun k2=>⟨rfl,is ?_⟩) fun k2=>?_
 ·rw[w];unfold kC;rw[if_neg k1,if_pos (.inl k2),←eg,←es]
 refine bT (fun k3=>⟨rfl,is ?_⟩) fun k3=>?_
 ·rw[w];unfold kC;rw[if_neg k1,if_pos (.inr k3),←eg,←es]
 have fin:dS p m=(fV p,0):=by
  rw[w];unfold kC;rw[if_neg k1,if_neg];rintro (h|h)
  ·exact k2 h
  ·exact k3 h
 exact bT (fun _=>is fin) fun _=>is fin
theorem ZV {m:aM} (h:CA m=true) (p:bC):nJ [aB true aP p,aB true aG m]=some (Sh.enc [(false,.int .i64),(false,.int .i64)] (dS p m)):=(ZU ..).trans (nU _ h)
end Go.Pv
namespace Go.Pv
open Go Go.Proofs
noncomputable def eqB {α:Type} (a b:α):Bool:=@decide (a=b) (Classical.propDecidable _)
theorem ATA {α:Type} {a b:α}:eqB a b=true↔a=b:=by unfold eqB;exact @decide_eq_true_iff _ (Classical.propDecidable _)
@[simp] theorem AYY {α:Type} (a:α):eqB a a=true:=ATA.2 rfl
theorem ARW (y:Bool) (K:Bool→Prop):aH [(false,Sy.bool)] (some (Sh.enc r_b y)) K=K y:=fJ (s:=r_b) rfl y K
end Go.Pv
namespace Go.Pv
open Go Go.Proofs
end Go.Pv
namespace Go.Pv
open Go Go.Proofs
end Go.Pv
namespace Go.Pv
open Go Go.Proofs
end Go.Pv
namespace Go.Pv
open Go Go.Proofs
end Go.Pv
namespace Go.Pv
open Go Go.Proofs
end Go.Pv
namespace Go.Pv
open Go Go.Proofs
end Go.Pv
namespace Go.Pv
open Go Go.Proofs
def nIn (d:aQ) (node:ByteArray) (p:bC):Bool:=vT (up d (lF p)).1 node
def eJ (d:aQ) (node:ByteArray):List ByteArray:=(d.2.2.1.filter (nIn d node)).map fun p=>p.1
theorem EE {α:Type} {c:α→Bool} {f:α→ByteArray} {l:List α} {k:Nat} (hk:k<l.length) (hc:c l[k]=true):((l.take (k+1)).filter c).map f=((l.take k).filter c).map f++[f l[k]]:=by
 rw[List.take_succ_eq_append_getElem hk,List.filter_append];simp[hc]
theorem LY {α:Type} {c:α→Bool} {f:α→ByteArray} {l:List α} {k:Nat} (hk:k<l.length) (hc:c l[k]=false):((l.take (k+1)).filter c).map f=((l.take k).filter c).map f:=by
 rw[List.take_succ_eq_append_getElem hk,List.filter_append];simp[hc]
theorem PU {α:Type} {c:α→Bool} {f:α→ByteArray} {l:List α} {k:Nat}:(((l.take k).filter c).map f).length≤k:=by
 have:=List.length_filter_le c (l.take k);simp at this ⊢;omega
theorem AAU {d:aQ} (id0:ByteArray) {N:Prop} {Fd:ByteArray→List ByteArray→Prop} (hN:up d id0=([],false)→N) (hF:∀ id' l',l'.length<65→up d id0=(l'++[id'],true)→Fd id' l') :
  bE (ByteArray×List ByteArray×Int×PUnit) (fun (X:ByteArray×List ByteArray×Int×PUnit→Prop) (s:ByteArray×List ByteArray×Int×PUnit) =>
   aC (decide (s.2.2.1<65))
    (aH [(true,eZ),(false,Sy.bool)] (jE [aB true aL d,T.v (.string s.1)]) fun (y:mU×Bool) =>
     aC (!y.2) N (bS (decide (((List.map Sy.str.enc s.2.1).length+1)*16≤140737488355328)&&decide ((List.map Sy.str.enc s.2.1).length+1≤140737488355328))
      (aC (decide (y.1.2.1=1)) (Fd s.1 s.2.1) (bA Sy.str (List.map Sy.str.enc s.2.1++[[T.v (.string s.1)]]) fun (y7:List ByteArray)=>X (y.1.2.2,y7,IntKind.i64.wrap (s.2.2.1+1),())))))
    N) (id0,[],0,()):=by
 refine aR 65 (fun k s=>∃ id' l',s=(id',l',(k:Int),())∧l'.length=k∧upF d (65-k) id' l'=up d id0) ⟨id0,[],rfl,rfl,rfl⟩ ?_
 rintro X k s hk ⟨id',l',rfl,hl,hu⟩ hX
 dsimp only
 by_cases hlt:k<65
 ·have h1:(k:Int)<65:=by omega
  obtain ⟨m,hm⟩:∃ m,65-k=m+1:=⟨64-k,by omega⟩
  rw[hm] at hu
  simp only[upF] at hu
  refine bR h1 ?_
  refine aD (s:=[(true,eZ),(false,.bool)]) (y:=found yA (fA d id')) D3 ?_
  cases hn:fA d id' with
  | none=>simp only[hn] at hu;simp only[found,Bool.not_false,cH];exact hN hu.symm
  | some x =>
   simp only[hn] at hu
   simp only[found,Bool.not_true,cO]
   rw[qO (by omega),eU]
   by_cases hx:x.2.1=1
   ·rw[if_pos hx] at hu
    exact bR hx (hF _ _ (by omega) hu.symm)
   ·rw[if_neg hx] at hu
    refine b7 hx (hX _ hlt ⟨x.2.2,l'++[id'],?_,by simp[hl],by rw[←hu];congr 1;omega⟩)
    simp only[Prod.mk.injEq,and_true,true_and]
    exact aO _ (by omega) (by omega)
 ·have h1:¬ (k:Int)<65:=by omega
  have:65-k=0:=by omega
  rw[this] at hu
  exact b7 h1 (hN hu.symm)
def E0 (x:aQ×ByteArray):Option T:=AQ x.1 (Sh.enc nX (eJ x.1 x.2))
noncomputable def IA:Env:=Env.of [(25,.pure jE)]
def W2:FuncId→Hint:=fun f=>match f == 26 with|true=>⟨fun r=>match r == 4 with|true=>.inv [.own 4 1 .str,.map 2 .str false .bool,.val 20 false (.int .i64)]|false=>match r == 10 with|true=>.inv [.val 9 false .bool,.val 42 false (.int .i64)]|false=>.none,fun i j=>match i == 8&&j == 14 with|true=>some [.val 9 false .bool,.map 2 .str false .bool]|false=>match i == 8&&j == 8 with|true=>some [.own 11 1 .str]|false=>none,fun _=>none⟩|false=>match f == 53 with|true=>⟨fun r=>match r == 3 with|true=>.inv [.val 1 false .str,.own 6 1 .str,.val 9 false (.int .i64)]|false=>.none,fun _ _=>none,fun _=>none⟩|false=>aS
theorem ACO:aF Tryz.prog IA:=aF.cons (x:=.pure jE) SU (aF.nil _)
def JF (a0:aQ) (a1:ByteArray) (R:T→Prop):Prop :=
 lZ Sy.str false Sy.bool [] fun (y0:List (ByteArray×Bool)) =>
 bE (List ByteArray×List (ByteArray×Bool)×Int×PUnit)
 (fun (X1:List ByteArray×List (ByteArray×Bool)×Int×PUnit→Prop)
 (s2:List ByteArray×List (ByteArray×Bool)×Int×PUnit) =>
 aC (decide (s2.2.2.1<(↑(List.map aP.enc a0.2.2.1).length:Int)))
 (aZ aP (List.map aP.enc a0.2.2.1) s2.2.2.1 fun (y3:bC) =>
 O0 TypeDesc.string (Value.string y3.2.2.2.1)
 (List.map (dV Sy.str false Sy.bool) s2.2.1) false Sy.bool
 (oQ (List ByteArray×PUnit)
 (fun (X10:List ByteArray×PUnit→Prop) =>
 bE (ByteArray×List ByteArray×Int×PUnit)
 (fun (X11:ByteArray×List ByteArray×Int×PUnit→Prop)
 (s12:ByteArray×List ByteArray×Int×PUnit) =>
 aC (decide (s12.2.2.1<65))
 (aH [(true,eZ),(false,Sy.bool)]
 (jE [aB true aL a0,T.v (.string s12.1)])
 fun (y13:mU×Bool) =>
 aC (!y13.2) (X10 ([],()))
 (bS
 (decide (((List.map Sy.str.enc s12.2.1).length+1)*16≤140737488355328) &&
 decide ((List.map Sy.str.enc s12.2.1).length+1≤140737488355328))
 (aC (decide (y13.1.2.1=1))
 (bA Sy.str
 (List.map Sy.str.enc s12.2.1++[[T.v (.string s12.1)]])
 fun (y14:List ByteArray)=>X10 (y14,()))
 (bA Sy.str
 (List.map Sy.str.enc s12.2.1++[[T.v (.string s12.1)]])
 fun (y15:List ByteArray) =>
 X11 (y13.1.2.2,y15,IntKind.i64.wrap (s12.2.2.1+1),())))))
 (X10 ([],())))
 (y3.2.2.2.1,[],0,()))
 fun (s16:List ByteArray×PUnit) =>
 bE (Bool×Int×PUnit)
 (fun (X17:Bool×Int×PUnit→Prop) (s18:Bool×Int×PUnit) =>
 aC (decide (s18.2.1<(↑(List.map Sy.str.enc s16.1).length:Int)))
 (aZ Sy.str (List.map Sy.str.enc s16.1) s18.2.1 fun (y19:ByteArray) =>
 oU Sy.str (List.map Sy.str.enc s16.1) (Int.toNat s18.2.1) 0
 fun (y20:ByteArray) =>
 aC s18.1 (X17 (true,IntKind.i64.wrap (s18.2.1+1),()))
 (X17 (decide (y20=a1),IntKind.i64.wrap (s18.2.1+1),())))
 (TY (Option (Nat×D))
 (findD TypeDesc.string (Value.string y3.2.2.2.1)
 (List.map (dV Sy.str false Sy.bool) s2.2.1) 0)
 fun (y21:Option (Nat×D)) =>
 aC s18.1
 (bS
 (decide (((List.map Sy.str.enc s2.1).length+1)*16≤140737488355328) &&
 decide ((List.map Sy.str.enc s2.1).length+1≤140737488355328))
 (bA Sy.str
 (List.map Sy.str.enc s2.1++[[T.v (.string y3.1)]])
 fun (y22:List ByteArray) =>
 lZ Sy.str false Sy.bool
 (iK (List.map (dV Sy.str false Sy.bool) s2.2.1) y21
 (Value.string y3.2.2.2.1) (D.p (T.v (.bool s18.1))))
 fun (y23:List (ByteArray×Bool)) =>
 X1 (y22,y23,IntKind.i64.wrap (s2.2.2.1+1),())))
 (bA Sy.str (List.map Sy.str.enc s2.1) fun (y24:List ByteArray) =>
 lZ Sy.str false Sy.bool
 (iK (List.map (dV Sy.str false Sy.bool) s2.2.1) y21
 (Value.string y3.2.2.2.1) (D.p (T.v (.bool s18.1))))
 fun (y25:List (ByteArray×Bool)) =>
 X1 (y24,y25,IntKind.i64.wrap (s2.2.2.1+1),()))))
 (false,0,()))
 fun (i4:Nat) (y5:Bool) =>
 aC y5
 (bS
 (decide (((List.map Sy.str.enc s2.1).length+1)*16≤140737488355328) &&
 decide ((List.map Sy.str.enc s2.1).length+1≤140737488355328))
 (bA Sy.str (List.map Sy.str.enc s2.1++[[T.v (.string y3.1)]])
 fun (y6:List ByteArray) =>
 lZ Sy.str false Sy.bool
 (List.map (dV Sy.str false Sy.bool) s2.2.1)
 fun (y7:List (ByteArray×Bool))=>X1 (y6,y7,IntKind.i64.wrap (s2.2.2.1+1),())))
 (bA Sy.str (List.map Sy.str.enc s2.1) fun (y8:List ByteArray) =>
 lZ Sy.str false Sy.bool
 (List.map (dV Sy.str false Sy.bool) s2.2.1)
 fun (y9:List (ByteArray×Bool))=>X1 (y8,y9,IntKind.i64.wrap (s2.2.2.1+1),())))
 (R (T.sl false (List.map Sy.str.enc s2.1))))
 ([],y0,0,())
theorem VZ ( a0 a1 R):bD aX Tryz.prog IA W2 8 26 [aB true aL a0,aB false Sy.str a1] R=JF a0 a1 R:=by kernel_rfl
abbrev BF:Sh:=[(true,aL),(false,Sy.str)]
noncomputable def pM:List T→Option (T):=gS BF E0
theorem ZM {a0 a1}:pM [aB true aL a0,T.v (.string a1)]=E0 (a0,a1):=aT (s:=BF) rfl (a0,a1) rfl
theorem AMB (h:∀ a0 a1 r,E0 (a0,a1)=some r→bU BF (a0,a1)→JF a0 a1 (fun y=>y=r)):aJ Tryz.prog 26 pM :=
 aN (E:=IA) (Hs:=W2) ACO aU aV (aK rfl) 8 ⟨_,_,Tryz.func26,rfl⟩ rfl fun x r h1 h2=>by
  obtain ⟨a0,a1⟩:=x
  rw[show Sh.bI BF (a0,a1)=[aB true aL a0,aB false Sy.str a1] from rfl,VZ]
  exact h a0 a1 r h1 h2
theorem AKT:aJ Tryz.prog 26 pM:=AMB fun d node r h hb=>by
 obtain ⟨_,hli,_,rfl⟩:=AR h
 have hl:d.2.2.1.length≤100:=by
  simp only[sY,Bool.and_eq_true,decide_eq_true_eq] at hli
  omega
 clear h
 unfold JF
 refine sH (r:=.bool) rfl [] _ ?_
 refine aR d.2.2.1.length (fun k s=>∃ es,s=(((d.2.2.1.take k).filter (nIn d node)).map (fun n=>n.1),es,(k:Int),())∧∀ id b,sU es id=some b→b=vT (up d id).1 node) ⟨[],rfl,fun id b h=>by cases h⟩ ?_
 rintro X k s hk ⟨es,rfl,hes⟩ hX
 have hlen:=PU (c:=nIn d node) (f:=fun n=>n.1) (l:=d.2.2.1) (k:=k)
 dsimp only
 by_cases hlt:k<d.2.2.1.length
 ·have hw:IntKind.i64.wrap ((k:Int)+1)=((k+1:Nat):Int):=aO _ (by omega) (by omega)
  refine bR (by simp[hlt]) ?_
  rw[a7 (r:=aP) hlt]
  generalize hpe:d.2.2.1[k]=p
  refine ATH (r:=.bool) (fun hno=>?_) (fun i v hv=>?_)
  ·rw[pX]
   have go:∀ ls,ls=(up d (GI p)).1→ls.length≤65→bE (Bool×Int×PUnit) (fun (X17:Bool×Int×PUnit→Prop) (s18:Bool×Int×PUnit)=>aC (decide (s18.2.1<(↑(List.map Sy.str.enc ls).length:Int)))
      (aZ Sy.str (List.map Sy.str.enc ls) s18.2.1 fun (y19:ByteArray)=>oU Sy.str (List.map Sy.str.enc ls) (Int.toNat s18.2.1) 0 fun (y20:ByteArray)=>aC s18.1 (X17 (true,IntKind.i64.wrap (s18.2.1+1),())) (X17 (decide (y20=node),IntKind.i64.wrap (s18.2.1+1),())))
      (TY (Option (Nat×D)) (findD TypeDesc.string (Value.string p.2.2.2.1) (List.map (dV Sy.str false Sy.bool) es) 0) fun (y21:Option (Nat×D)) =>
       aC s18.1 (bS (decide (((List.map Sy.str.enc (((d.2.2.1.take k).filter (nIn d node)).map (fun n=>n.1))).length+1)*16≤140737488355328)&&decide ((List.map Sy.str.enc (((d.2.2.1.take k).filter (nIn d node)).map (fun n=>n.1))).length+1≤140737488355328))
         (bA Sy.str (List.map Sy.str.enc (((d.2.2.1.take k).filter (nIn d node)).map (fun n=>n.1))++[[T.v (.string p.1)]]) fun (y22:List ByteArray)=>lZ Sy.str false Sy.bool (iK (List.map (dV Sy.str false Sy.bool) es) y21 (Value.string p.2.2.2.1) (D.p (T.v (.bool s18.1)))) fun (y23:List (ByteArray×Bool))=>X (y22,y23,IntKind.i64.wrap ((k:Int)+1),())))
        (bA Sy.str (List.map Sy.str.enc (((d.2.2.1.take k).filter (nIn d node)).map (fun n=>n.1))) fun (y24:List ByteArray)=>lZ Sy.str false Sy.bool (iK (List.map (dV Sy.str false Sy.bool) es) y21 (Value.string p.2.2.2.1) (D.p (T.v (.bool s18.1)))) fun (y25:List (ByteArray×Bool))=>X (y24,y25,IntKind.i64.wrap ((k:Int)+1),()))))
     (false,0,()):=by
    intro ls hls hll
    have hin:nIn d node p=vT ls node:=by rw[hls];rfl
    refine aR ls.length (fun j s=>s=(vT (ls.take j) node,(j:Int),())) (by simp[vT]) ?_
    rintro Y j s hj rfl hY
    dsimp only
    by_cases hlj:j<ls.length
    ·refine bR (by simp[hlj]) ?_
     have hs:vT (ls.take (j+1)) node=(vT (ls.take j) node||decide (ls[j]=node)):=by
      unfold vT;rw[List.take_succ_eq_append_getElem hlj,List.any_append];simp
     have hj1:IntKind.i64.wrap ((j:Int)+1)=((j+1:Nat):Int):=aO _ (by omega) (by omega)
     rw[a7 (r:=.str) hlj,Int.toNat_natCast,p8 (r:=.str) hlj]
     refine vR (fun hf=>hY _ hlj ?_) (fun hf=>hY _ hlj ?_)
     ·rw[hs,hf,hj1];rfl
     ·rw[hs,hf,hj1];rfl
    ·have:j=ls.length:=by omega
     subst this
     refine b7 (by simp) ?_
     rw[List.take_length]
     have hes':∀ id b,sU (D9 es p.2.2.2.1 (vT ls node)) id=some b→b=vT (up d id).1 node:=by
      intro id b hb
      rw[zS] at hb
      split at hb
      ·rename_i e;cases hb;rw[←e,hls]
      ·exact hes id b hb
     have ins:=fun (K:List (ByteArray×Bool)→Prop) (hK:K (D9 es p.2.2.2.1 (vT ls node)))=>AY8 (r:=.bool) rfl (es:=es) (k:=p.2.2.2.1) (v:=vT ls node) hK
     rcases hb2:vT ls node with _|_
     ·rw[hb2] at ins hes' hin
      obtain ⟨y,h1,h2⟩:=ins (fun es'=>X (((d.2.2.1.take k).filter (nIn d node)).map (fun n=>n.1),es',IntKind.i64.wrap ((k:Int)+1),())) (hX _ hlt ⟨_,by rw[LY hlt (by rw[hpe];exact hin),hw],hes'⟩)
      refine ⟨y,h1,?_⟩
      show aC false _ _
      rw[cO,iO (r:=.str) rfl]
      exact h2
     ·rw[hb2] at ins hes' hin
      obtain ⟨y,h1,h2⟩:=ins (fun es'=>X (((d.2.2.1.take k).filter (nIn d node)).map (fun n=>n.1)++[p.1],es',IntKind.i64.wrap ((k:Int)+1),())) (hX _ hlt ⟨_,by rw[EE hlt (by rw[hpe];exact hin),hw,hpe],hes'⟩)
      refine ⟨y,h1,?_⟩
      show aC true _ _
      rw[cH,qO (by omega),eU]
      exact h2
   refine AAU (d:=d) (GI p) (Fd:=fun id' l'=>bA Sy.str (List.map Sy.str.enc l'++[[T.v (.string id')]]) _) (fun hu=>go [] (by rw[hu]) (by simp)) (fun id' l' hl' hu=>?_)
   rw[eU]
   exact go _ (by rw[hu]) (by simp;omega)
  ·have hv':=hes _ _ hv
   refine vR (fun h1=>?_) (fun h1=>?_)
   ·rw[qO (by omega),eU]
    exact sH (r:=.bool) rfl es _ (hX _ hlt ⟨es,by rw[EE hlt (by rw[hpe];exact hv'.symm.trans h1),hw,hpe],hes⟩)
   ·rw[iO (r:=.str) rfl]
    exact sH (r:=.bool) rfl es _ (hX _ hlt ⟨es,by rw[LY hlt (by rw[hpe];exact hv'.symm.trans h1),hw],hes⟩)
 ·have:k=d.2.2.1.length:=by omega
  subst this
  refine b7 (by simp) ?_
  rw[List.take_length];rfl
end Go.Pv
namespace Go.Pv
open Go Go.Proofs
noncomputable def zN:List T→Option T:=D0
abbrev AUZ:Sh:=[(false,.int .i64),(false,.int .i64)]
def qK:List Int→Int
 | []=>0
 | a::l=>a+qK l
def cC (l:List Int):Int×Int:=if -9223372036854775808≤qK l∧qK l≤9223372036854775807 then (qK l,0) else (0,21)
def AW3 (a:Int):Bool:=decide (-9223372036854775808≤a)&&decide (a≤9223372036854775807)
def nR (l:List Int):Bool:=decide (l.length≤1000000)&&l.all AW3
def vM (l:List Int):Option T:=match nR l with
 | true=>some (Sh.enc AUZ (cC l))
 | false=>none
theorem AA6 {l:List Int} (h:nR l=true):l.length≤1000000∧∀ a∈l,-9223372036854775808≤a∧a≤9223372036854775807:=by
 simp only[nR,AW3,Bool.and_eq_true,decide_eq_true_eq,List.all_eq_true] at h
 exact h
theorem FL {a:Int}:∀ {l:List Int},qK (l++[a])=qK l+a
 | []=>by simp[qK]
 | b::l=>by rw[List.cons_append,qK,qK,FL];omega
noncomputable def AB8:Env:=Env.of [(69,.ext zN)]
def AOM:FuncId→Hint:=fun f=>match f == 31 with|true=>⟨fun r=>match r == 3 with|true=>.inv [.val 4 false (.int .i64),.val 5 false (.int .u64),.val 13 false (.int .i64)]|false=>.none,fun _ _=>none,fun _=>none⟩|false=>aS
theorem AN2:aF Tryz.prog AB8:=aF.cons (x:=.ext zN) YU (aF.nil _)
def AD0 (a0:List Int) (R:T→Prop):Prop :=
 bE (Int×Int×Int×PUnit)
 (fun (X0:Int×Int×Int×PUnit→Prop) (s1:Int×Int×Int×PUnit) =>
 aC (decide (s1.2.2.1<(↑(List.map (Sy.int IntKind.i64).enc a0).length:Int)))
 (aZ (Sy.int IntKind.i64) (List.map (Sy.int IntKind.i64).enc a0) s1.2.2.1
 fun (y2:Int) =>
 aH [(false,Sy.int IntKind.u64),(false,Sy.int IntKind.u64)]
 (zN
 [T.v (Value.int IntKind.u64 s1.2.1),
 T.v (Value.int IntKind.u64 (IntKind.u64.wrap y2)),
 T.v (Value.int IntKind.u64 0)])
 fun (y3:aI) =>
 aC (decide (y2<0))
 (X0
 (IntKind.i64.wrap (IntKind.i64.wrap (s1.1+IntKind.i64.wrap y3.2)-1),y3.1,
 IntKind.i64.wrap (s1.2.2.1+1),()))
 (X0
 (IntKind.i64.wrap (s1.1+IntKind.i64.wrap y3.2),y3.1,
 IntKind.i64.wrap (s1.2.2.1+1),())))
 (aC (decide (s1.1=0))
 (aC (decide (0≤IntKind.i64.wrap s1.2.1))
 (R
 (T.bX
 [T.v (.int .i64 (IntKind.i64.wrap s1.2.1)),
 T.v (.int .i64 0)]))
 (aC (decide (s1.1 = -1))
 (aC (decide (IntKind.i64.wrap s1.2.1<0))
 (R
 (T.bX
 [T.v (.int .i64 (IntKind.i64.wrap s1.2.1)),
 T.v (.int .i64 0)]))
 (R (T.bX [T.v (.int .i64 0),T.v (.int .i64 21)])))
 (R (T.bX [T.v (.int .i64 0),T.v (.int .i64 21)]))))
 (aC (decide (s1.1 = -1))
 (aC (decide (IntKind.i64.wrap s1.2.1<0))
 (R
 (T.bX
 [T.v (.int .i64 (IntKind.i64.wrap s1.2.1)),
 T.v (.int .i64 0)]))
 (R (T.bX [T.v (.int .i64 0),T.v (.int .i64 21)])))
 (R (T.bX [T.v (.int .i64 0),T.v (.int .i64 21)])))))
 (0,0,0,())
theorem AJS ( a0 R):bD aX Tryz.prog AB8 AOM 8 31 [aB false (Sy.int IntKind.i64).li a0] R=AD0 a0 R:=by kernel_rfl
abbrev UJ:Sh:=[(false,(Sy.int IntKind.i64).li)]
noncomputable def q7:List T→Option (T):=gS UJ vM
theorem ALI {a0}:q7 [T.sl false (List.map (Sy.int IntKind.i64).enc a0)]=vM (a0):=aT (s:=UJ) rfl (a0) rfl
theorem AUO (h:∀ a0 r,vM (a0)=some r→bU UJ (a0)→AD0 a0 (fun y=>y=r)):aJ Tryz.prog 31 q7 :=
 aN (E:=AB8) (Hs:=AOM) AN2 aU aV (aK rfl) 8 ⟨_,_,Tryz.func31,rfl⟩ rfl fun x r h1 h2=>by
  let a0:=x
  rw[show Sh.bI UJ (a0)=[aB false (Sy.int IntKind.i64).li a0] from rfl,AJS]
  exact h a0 r h1 h2
theorem AZ0 (n:Int):IntKind.u64.wrap n=n % 18446744073709551616:=by
 simp only[IntKind.wrap,IntKind.bits,IntKind.signed];simp
theorem AZZ {n:Int} (h0:0≤n) (h1:n<18446744073709551616):IntKind.i64.wrap n=if n<9223372036854775808 then n else n-18446744073709551616:=by
 simp only[IntKind.wrap,IntKind.bits,IntKind.signed]
 simp
 omega
theorem AD4 {x y:Int} (hx:0≤x) (hy:0≤y) {K:Int×Int→Prop} (h:K ((x+y) % 18446744073709551616,(x+y) / 18446744073709551616)):aH [(false,Sy.int IntKind.u64),(false,Sy.int IntKind.u64)] (zN [T.v (Value.int IntKind.u64 x),T.v (Value.int IntKind.u64 y),T.v (Value.int IntKind.u64 0)]) K:=by
 refine aD (s:=[(false,.int .u64),(false,.int .u64)]) (y:=((x+y) % 18446744073709551616,(x+y) / 18446744073709551616)) ?_ h
 unfold zN D0
 dsimp only
 rw[decide_eq_true hx,decide_eq_true hy,Int.add_zero];rfl
theorem ATP:aJ Tryz.prog 31 q7:=AUO fun l r h hb=>by
 clear hb
 have ok:nR l=true:=by
  unfold vM at h
  split at h
  ·assumption
  ·cases h
 have e:T.bX [T.v (.int .i64 (cC l).1),T.v (.int .i64 (cC l).2)]=r:=by
  unfold vM at h
  rw[ok] at h
  exact Option.some.inj h
 subst e
 clear h
 obtain ⟨hl,hi⟩:=AA6 ok
 have is:∀ {a b:Int},cC l=(a,b)→T.bX [T.v (.int .i64 a),T.v (.int .i64 b)]=T.bX [T.v (.int .i64 (cC l).1),T.v (.int .i64 (cC l).2)]:=fun h=>by rw[h]
 unfold AD0
 refine aR l.length (fun k s=>s.2.2.1=(k:Int)∧0≤s.2.1∧s.2.1<18446744073709551616∧-(k:Int)≤s.1∧s.1≤k∧s.1*18446744073709551616+s.2.1=qK (l.take k)) ⟨rfl,Int.le_refl _,by decide,Int.le_refl _,Int.le_refl _,rfl⟩ ?_
 rintro X k ⟨hh,lo,i,un⟩ hk ⟨rfl,h0,h1,h2,h3,he⟩ hX
 dsimp only at h0 h1 h2 h3 he ⊢
 refine bT (fun hlt=>?_) fun hge=>?_
 ·rw[List.length_map] at hlt
  have hlt:k<l.length:=by omega
  rw[a7 (r:=.int .i64) hlt]
  have hn:=hi l[k] (List.getElem_mem hlt)
  have hs:qK (l.take (k+1))=qK (l.take k)+l[k]:=by rw[List.take_add_one,List.getElem?_eq_getElem hlt];exact FL
  generalize l[k]=n at hn hs ⊢
  rw[AZ0]
  refine AD4 h0 (by omega) ?_
  dsimp only
  have hc:IntKind.i64.wrap ((lo+n % 18446744073709551616) / 18446744073709551616)=(lo+n % 18446744073709551616) / 18446744073709551616:=by rw[aO]<;>omega
  have hw:IntKind.i64.wrap ((k:Int)+1)=((k+1:Nat):Int):=by rw[aO]<;>omega
  rw[hc]
  have hc2:IntKind.i64.wrap (hh+(lo+n % 18446744073709551616) / 18446744073709551616)=hh+(lo+n % 18446744073709551616) / 18446744073709551616:=by rw[aO]<;>omega
  rw[hc2]
  refine bT (fun hneg=>?_) fun hpos=>?_
  ·have hc3:IntKind.i64.wrap (hh+(lo+n % 18446744073709551616) / 18446744073709551616-1)=hh+(lo+n % 18446744073709551616) / 18446744073709551616-1:=by rw[aO]<;>omega
   rw[hc3]
   refine hX _ hlt ⟨hw,?_,?_,?_,?_,?_⟩
   all_goals dsimp only
   all_goals omega
  ·refine hX _ hlt ⟨hw,?_,?_,?_,?_,?_⟩
   all_goals dsimp only
   all_goals omega
 ·rw[List.length_map] at hge
  have:k=l.length:=by omega
  subst this
  rw[List.take_length] at he
  have hw:=AZZ h0 h1
  rw[hw]
  have big:¬ (-9223372036854775808≤qK l∧qK l≤9223372036854775807)→cC l=(0,21):=fun h=>by unfold cC;rw[if_neg h]
  have fit:∀ {n:Int},n=qK l→(-9223372036854775808≤n∧n≤9223372036854775807)→cC l=(n,0):=fun {n} e h=>by subst e;unfold cC;rw[if_pos h]
  refine bT (fun a0=>?_) fun a0=>?_
  ·refine bT (fun a1=>is (fit ?_ ?_)) fun a1=>?_
   ·split at a1<;>omega
   ·split at a1<;>omega
   ·refine bT (fun a2=>by omega) fun a2=>is (big ?_)
    split at a1<;>omega
  ·refine bT (fun a2=>?_) fun a2=>is (big ?_)
   ·refine bT (fun a1=>is (fit ?_ ?_)) fun a1=>is (big ?_)
    ·split at a1<;>omega
    ·split at a1<;>omega
    ·split at a1<;>omega
   ·omega
end Go.Pv
namespace Go.Pv
open Go Go.Proofs
def fQ (k:Int) (L:List bC):List bC:=L.filter fun p=>decide (a6 p=k)
def jK (L:List bC):List bC:=L.filter fun p=>decide (a6 p=1)||decide (a6 p=2)
def gB (m:aM) (L:List bC):List Int:=(jK L).map fun p=>(dS p m).1
def dK (k:Int) (S:List b8):List Int:=(S.filter fun s=>decide (s.2.2.2.1=k)).map fun s=>s.2.2.2.2.1
theorem AP9 {l:List ByteArray} {x:ByteArray}:r6 l x=true↔x∈l:=by
 unfold r6
 rw[List.any_eq_true]
 exact ⟨fun ⟨y,hy,he⟩=>by rw[←of_decide_eq_true he];exact hy,fun h=>⟨x,h,decide_eq_true rfl⟩⟩
end Go.Pv
namespace Go.Pv
open Go Go.Proofs
noncomputable def ANQ:Env:=Env.of [(25,.pure jE),(26,.pure pM),(27,.pure iB),(28,.pure nJ),(29,.pure D4),(30,.pure w9),(31,.pure q7)]
def AVF:FuncId→Hint:=fun f=>match f == 10 with|true=>⟨fun r=>match r == 9 with|true=>.inv [.own 11 18 aP,.box 5 M7,.val 50 false (.int .i64)]|false=>match r == 23 with|true=>.inv [.own 16 1 (.int .i64),.val 85 false (.int .i64),.fix 2]|false=>match r == 32 with|true=>.inv [.box 9 (.pr (.li (.int .i64)) (.pr (.li (.int .i64)) (.li (.int .i64)))),.B8 9 0 1 (.int .i64),.B8 9 1 1 (.int .i64),.B8 9 2 1 (.int .i64),.val 108 false (.int .i64)]|false=>match r == 40 with|true=>.AG8 4|false=>.none,fun _ _=>none,fun _=>none⟩|false=>aS
theorem ASQ:aF Tryz.prog ANQ:=aF.cons (x:=.pure jE) SU (aF.cons (x:=.pure pM) AKT (aF.cons (x:=.pure iB) K9 (aF.cons (x:=.pure nJ) AKY (aF.cons (x:=.pure D4) ATO (aF.cons (x:=.pure w9) ATN (aF.cons (x:=.pure q7) ATP (aF.nil _)))))))
def AN7 (a0:aQ) (a1:aM) (a2:ByteArray) (R:T→Prop):Prop :=
 aH [(true,eZ),(false,Sy.bool)]
 (jE [aB true aL a0,T.v (.string a2)]) fun (y0:mU×Bool) =>
 aC (!y0.2)
 (R
 (T.bX
 [T.agg
 [T.v (.string { data:=#[] }),T.v (.int .i64 0),
 T.v (.int .i64 0),T.v (.int .i64 0),
 T.v (.int .i64 0),T.v (.int .i64 0)],
 T.v (.int .i64 8)]))
 (aC (!decide (y0.1.2.1=2))
 (R
 (T.bX
 [T.agg
 [T.v (.string { data:=#[] }),T.v (.int .i64 0),
 T.v (.int .i64 0),T.v (.int .i64 0),
 T.v (.int .i64 0),T.v (.int .i64 0)],
 T.v (.int .i64 10)]))
 (aH [(false,Sy.str.li)]
 (pM [aB true aL a0,T.v (.string a2)]) fun (y1:List ByteArray) =>
 bE (List bC×jX×Int×PUnit)
 (fun (X2:List bC×jX×Int×PUnit→Prop)
 (s3:List bC×jX×Int×PUnit) =>
 aC (decide (s3.2.2.1<(↑(List.map Sy.str.enc y1).length:Int)))
 (aZ Sy.str (List.map Sy.str.enc y1) s3.2.2.1 fun (y4:ByteArray) =>
 aH [(true,aP),(false,Sy.bool)]
 (iB [aB true aL a0,T.v (.string y4)])
 fun (y5:bC×Bool) =>
 aC (decide (y5.1.2.2.1=1))
 (bS
 (decide (((List.map aP.enc s3.1).length+1)*208≤140737488355328) &&
 decide ((List.map aP.enc s3.1).length+1≤140737488355328))
 (bA aP
 (List.map aP.enc s3.1 ++
 [[T.v (.string y5.1.1),
 T.v (.int .i64 y5.1.2.1),
 T.v (.int .i64 y5.1.2.2.1),
 T.v (.string y5.1.2.2.2.1),
 T.v (.string y5.1.2.2.2.2.1),
 T.v (.int .i64 y5.1.2.2.2.2.2.1),
 T.sl false (List.map aA.enc y5.1.2.2.2.2.2.2.1.1),
 T.sl false (List.map aA.li.enc y5.1.2.2.2.2.2.2.1.2),
 T.v (.string y5.1.2.2.2.2.2.2.2.1),
 T.v (.int .i64 y5.1.2.2.2.2.2.2.2.2.1),
 T.v (.int .i64 y5.1.2.2.2.2.2.2.2.2.2.1),
 T.v
 (Value.int IntKind.i64 y5.1.2.2.2.2.2.2.2.2.2.2.1.1),
 T.v
 (Value.int IntKind.i64
 y5.1.2.2.2.2.2.2.2.2.2.2.1.2.1),
 T.v
 (Value.int IntKind.i64
 y5.1.2.2.2.2.2.2.2.2.2.2.1.2.2),
 T.v
 (Value.int IntKind.i64
 y5.1.2.2.2.2.2.2.2.2.2.2.2.1.1),
 T.v
 (Value.int IntKind.i64
 y5.1.2.2.2.2.2.2.2.2.2.2.2.1.2.1),
 T.v
 (Value.int IntKind.i64
 y5.1.2.2.2.2.2.2.2.2.2.2.2.1.2.2),
 T.v
 (Value.int IntKind.i64 y5.1.2.2.2.2.2.2.2.2.2.2.2.2)]])
 fun (y6:List bC) =>
 X2
 (y6,
 (s3.2.1.1,IntKind.i64.wrap (s3.2.1.2.1+1),s3.2.1.2.2.1,
 s3.2.1.2.2.2.1,s3.2.1.2.2.2.2.1,
 s3.2.1.2.2.2.2.2),
 IntKind.i64.wrap (s3.2.2.1+1),())))
 (aC (decide (y5.1.2.2.1=2))
 (bS
 (decide (((List.map aP.enc s3.1).length+1)*208≤140737488355328) &&
 decide ((List.map aP.enc s3.1).length+1≤140737488355328))
 (bA aP
 (List.map aP.enc s3.1 ++
 [[T.v (.string y5.1.1),
 T.v (.int .i64 y5.1.2.1),
 T.v (.int .i64 y5.1.2.2.1),
 T.v (.string y5.1.2.2.2.1),
 T.v (.string y5.1.2.2.2.2.1),
 T.v (.int .i64 y5.1.2.2.2.2.2.1),
 T.sl false (List.map aA.enc y5.1.2.2.2.2.2.2.1.1),
 T.sl false (List.map aA.li.enc y5.1.2.2.2.2.2.2.1.2),
 T.v (.string y5.1.2.2.2.2.2.2.2.1),
 T.v (.int .i64 y5.1.2.2.2.2.2.2.2.2.1),
 T.v (.int .i64 y5.1.2.2.2.2.2.2.2.2.2.1),
 T.v
 (Value.int IntKind.i64 y5.1.2.2.2.2.2.2.2.2.2.2.1.1),
 T.v
 (Value.int IntKind.i64
 y5.1.2.2.2.2.2.2.2.2.2.2.1.2.1),
 T.v
 (Value.int IntKind.i64
 y5.1.2.2.2.2.2.2.2.2.2.2.1.2.2),
 T.v
 (Value.int IntKind.i64
 y5.1.2.2.2.2.2.2.2.2.2.2.2.1.1),
 T.v
 (Value.int IntKind.i64
 y5.1.2.2.2.2.2.2.2.2.2.2.2.1.2.1),
 T.v
 (Value.int IntKind.i64
 y5.1.2.2.2.2.2.2.2.2.2.2.2.1.2.2),
 T.v
 (Value.int IntKind.i64
 y5.1.2.2.2.2.2.2.2.2.2.2.2.2)]])
 fun (y7:List bC) =>
 X2
 (y7,
 (s3.2.1.1,s3.2.1.2.1,IntKind.i64.wrap (s3.2.1.2.2.1+1),
 s3.2.1.2.2.2.1,s3.2.1.2.2.2.2.1,
 s3.2.1.2.2.2.2.2),
 IntKind.i64.wrap (s3.2.2.1+1),())))
 (bA aP (List.map aP.enc s3.1) fun (y8:List bC) =>
 X2
 (y8,
 (s3.2.1.1,s3.2.1.2.1,s3.2.1.2.2.1,s3.2.1.2.2.2.1,
 s3.2.1.2.2.2.2.1,s3.2.1.2.2.2.2.2),
 IntKind.i64.wrap (s3.2.2.1+1),()))))
 (aC (decide (s3.2.1.2.1=0))
 (R
 (T.bX
 [T.agg
 [T.v (.string { data:=#[] }),T.v (.int .i64 0),
 T.v (.int .i64 0),T.v (.int .i64 0),
 T.v (.int .i64 0),T.v (.int .i64 0)],
 T.v (.int .i64 17)]))
 (dY
 (aY.rows false
 [[D.p (T.v (.string { data:=#[] })),
 D.p (T.v (.int .i64 0)),
 D.p (T.v (.int .i64 0)),
 D.p (T.v (.int .i64 0)),
 D.p (T.v (.int .i64 0)),
 D.p (T.v (.int .i64 0))]])
 (aY.rows false
 [[D.p (T.v (.string { data:=#[] })),
 D.p (T.v (.int .i64 0)),
 D.p (T.v (.int .i64 0)),
 D.p (T.v (.int .i64 0)),
 D.p (T.v (.int .i64 0)),
 D.p (T.v (.int .i64 0))]])
 (bE (List Int×Int×PUnit×PUnit)
 (fun (X9:List Int×Int×PUnit×PUnit→Prop) (s10:List Int×Int×PUnit×PUnit) =>
 aC (decide (s10.2.1<(↑(List.map aP.enc s3.1).length:Int)))
 (aZ aP (List.map aP.enc s3.1) s10.2.1
 fun (y11:bC) =>
 oU aP (List.map aP.enc s3.1) (Int.toNat s10.2.1) 0
 fun (y12:bC) =>
 aH [(false,Sy.int IntKind.i64),(false,Sy.int IntKind.i64)]
 (nJ [aB true aP y12,aB true aG a1])
 fun (y13:aI) =>
 aC (!decide (y13.2=0))
 (R
 (T.bX
 [T.agg
 [T.v (.string { data:=#[] }),
 T.v (.int .i64 0),
 T.v (.int .i64 0),
 T.v (.int .i64 0),
 T.v (.int .i64 0),
 T.v (.int .i64 0)],
 T.v (.int .i64 y13.2)]))
 (bS
 (decide
 (((List.map (Sy.int IntKind.i64).enc s10.1).length+1)*8 ≤
 140737488355328) &&
 decide
 ((List.map (Sy.int IntKind.i64).enc s10.1).length+1 ≤
 140737488355328))
 (bA (Sy.int IntKind.i64)
 (List.map (Sy.int IntKind.i64).enc s10.1 ++
 [[T.v (.int .i64 y13.1)]])
 fun (y14:List Int) =>
 dY
 (aY.rows false
 [[D.p (T.v (.string { data:=#[] })),
 D.p (T.v (.int .i64 0)),
 D.p (T.v (.int .i64 0)),
 D.p (T.v (.int .i64 0)),
 D.p (T.v (.int .i64 0)),
 D.p (T.v (.int .i64 0))]])
 (aY.rows false
 [[D.p (T.v (.string { data:=#[] })),
 D.p (T.v (.int .i64 0)),
 D.p (T.v (.int .i64 0)),
 D.p (T.v (.int .i64 0)),
 D.p (T.v (.int .i64 0)),
 D.p (T.v (.int .i64 0))]])
 (X9 (y14,IntKind.i64.wrap (s10.2.1+1),(),())))))
 (aH [(false,Sy.str.li)]
 (D4 [aB true aL a0,T.v (.string a2)])
 fun (y15:List ByteArray) =>
 bA (Sy.int IntKind.i64) [] fun (y16:List Int) =>
 bA (Sy.int IntKind.i64) [] fun (y17:List Int) =>
 bA (Sy.int IntKind.i64) [] fun (y18:List Int) =>
 bE
 ((List Int×List Int×List Int)×List Int×List Int×List Int×Int×PUnit)
 (fun
 (X19 :
 (List Int×List Int×List Int) ×
 List Int×List Int×List Int×Int×PUnit →
 Prop)
 (s20 :
 (List Int×List Int×List Int) ×
 List Int×List Int×List Int×Int×PUnit) =>
 aC
 (decide
 (s20.2.2.2.2.1<(↑(List.map Sy.str.enc y15).length:Int)))
 (aZ Sy.str (List.map Sy.str.enc y15) s20.2.2.2.2.1
 fun (y21:ByteArray) =>
 aH [(true,cR),(false,Sy.bool)]
 (w9
 [aB true aL a0,T.v (.string y21)])
 fun (y22:b8×Bool) =>
 aC (decide (y22.1.2.2.2.1=1))
 (aC (decide (y22.1.2.2.2.1=Int.ofNat 0))
 (bS
 (decide
 (((List.map (Sy.int IntKind.i64).enc s20.2.1).length +
 1) *
 8 ≤
 140737488355328) &&
 decide
 ((List.map (Sy.int IntKind.i64).enc s20.2.1).length +
 1 ≤
 140737488355328))
 (aC (decide (y22.1.2.2.2.1=Int.ofNat 0))
 (bA (Sy.int IntKind.i64) [] fun (y23:List Int) =>
 bA (Sy.int IntKind.i64) [] fun (y24:List Int) =>
 bA (Sy.int IntKind.i64) []
 fun (y25:List Int) =>
 bA (Sy.int IntKind.i64)
 (List.map (Sy.int IntKind.i64).enc s20.2.1 ++
 [[T.v
 (Value.int IntKind.i64
 y22.1.2.2.2.2.1)]])
 fun (y26:List Int) =>
 bA (Sy.int IntKind.i64)
 (List.map (Sy.int IntKind.i64).enc s20.2.2.1)
 fun (y27:List Int) =>
 bA (Sy.int IntKind.i64)
 (List.map (Sy.int IntKind.i64).enc
 s20.2.2.2.1)
 fun (y28:List Int) =>
 X19
 ((y23,y24,y25),y26,y27,y28,
 IntKind.i64.wrap (s20.2.2.2.2.1+1),
 ()))
 (aC (decide (y22.1.2.2.2.1=Int.ofNat (0+1)))
 (bA (Sy.int IntKind.i64) [] fun (y29:List Int) =>
 bA (Sy.int IntKind.i64) []
 fun (y30:List Int) =>
 bA (Sy.int IntKind.i64) []
 fun (y31:List Int)=>oB 333)
 (aC
 (decide (y22.1.2.2.2.1=Int.ofNat (0+1+1)))
 (bA (Sy.int IntKind.i64) []
 fun (y32:List Int) =>
 bA (Sy.int IntKind.i64) []
 fun (y33:List Int) =>
 bA (Sy.int IntKind.i64) []
 fun (y34:List Int)=>oB 333)
 (oB 18)))))
 (aC (decide (y22.1.2.2.2.1=Int.ofNat (0+1)))
 (bS
 (decide
 (((List.map (Sy.int IntKind.i64).enc
 s20.2.2.1).length +
 1) *
 8 ≤
 140737488355328) &&
 decide
 ((List.map (Sy.int IntKind.i64).enc
 s20.2.2.1).length +
 1 ≤
 140737488355328))
 (aC (decide (y22.1.2.2.2.1=Int.ofNat 0))
 (bA (Sy.int IntKind.i64) [] fun (y35:List Int) =>
 bA (Sy.int IntKind.i64) []
 fun (y36:List Int) =>
 bA (Sy.int IntKind.i64) []
 fun (y37:List Int) =>
 bA (Sy.int IntKind.i64)
 (List.map (Sy.int IntKind.i64).enc
 s20.2.2.1 ++
 [[T.v
 (Value.int IntKind.i64
 y22.1.2.2.2.2.1)]])
 fun (y38:List Int)=>oB 333)
 (aC (decide (y22.1.2.2.2.1=Int.ofNat (0+1)))
 (bA (Sy.int IntKind.i64) []
 fun (y39:List Int) =>
 bA (Sy.int IntKind.i64) []
 fun (y40:List Int) =>
 bA (Sy.int IntKind.i64) []
 fun (y41:List Int) =>
 bA (Sy.int IntKind.i64)
 (List.map (Sy.int IntKind.i64).enc s20.2.1)
 fun (y42:List Int) =>
 bA (Sy.int IntKind.i64)
 (List.map (Sy.int IntKind.i64).enc
 s20.2.2.1 ++
 [[T.v
 (Value.int IntKind.i64
 y22.1.2.2.2.2.1)]])
 fun (y43:List Int) =>
 bA (Sy.int IntKind.i64)
 (List.map (Sy.int IntKind.i64).enc
 s20.2.2.2.1)
 fun (y44:List Int) =>
 X19
 ((y39,y40,y41),y42,y43,y44,
 IntKind.i64.wrap (s20.2.2.2.2.1+1),
 ()))
 (aC
 (decide (y22.1.2.2.2.1=Int.ofNat (0+1+1)))
 (bA (Sy.int IntKind.i64) []
 fun (y45:List Int) =>
 bA (Sy.int IntKind.i64) []
 fun (y46:List Int) =>
 bA (Sy.int IntKind.i64) []
 fun (y47:List Int) =>
 bA (Sy.int IntKind.i64)
 (List.map (Sy.int IntKind.i64).enc s20.2.1)
 fun (y48:List Int)=>oB 333)
 (oB 18)))))
 (aC (decide (y22.1.2.2.2.1=Int.ofNat (0+1+1)))
 (bS
 (decide
 (((List.map (Sy.int IntKind.i64).enc
 s20.2.2.2.1).length +
 1) *
 8 ≤
 140737488355328) &&
 decide
 ((List.map (Sy.int IntKind.i64).enc
 s20.2.2.2.1).length +
 1 ≤
 140737488355328))
 (aC (decide (y22.1.2.2.2.1=Int.ofNat 0))
 (bA (Sy.int IntKind.i64) []
 fun (y49:List Int) =>
 bA (Sy.int IntKind.i64) []
 fun (y50:List Int) =>
 bA (Sy.int IntKind.i64) []
 fun (y51:List Int) =>
 bA (Sy.int IntKind.i64)
 (List.map (Sy.int IntKind.i64).enc
 s20.2.2.2.1 ++
 [[T.v
 (Value.int IntKind.i64
 y22.1.2.2.2.2.1)]])
 fun (y52:List Int) =>
 bA (Sy.int IntKind.i64)
 (List.map (Sy.int IntKind.i64).enc
 s20.2.2.1)
 fun (y53:List Int)=>oB 333)
 (aC (decide (y22.1.2.2.2.1=Int.ofNat (0+1)))
 (bA (Sy.int IntKind.i64) []
 fun (y54:List Int) =>
 bA (Sy.int IntKind.i64) []
 fun (y55:List Int) =>
 bA (Sy.int IntKind.i64) []
 fun (y56:List Int) =>
 bA (Sy.int IntKind.i64)
 (List.map (Sy.int IntKind.i64).enc s20.2.1)
 fun (y57:List Int) =>
 bA (Sy.int IntKind.i64)
 (List.map (Sy.int IntKind.i64).enc
 s20.2.2.2.1 ++
 [[T.v
 (Value.int IntKind.i64
 y22.1.2.2.2.2.1)]])
 fun (y58:List Int)=>oB 333)
 (aC
 (decide (y22.1.2.2.2.1=Int.ofNat (0+1+1)))
 (bA (Sy.int IntKind.i64) []
 fun (y59:List Int) =>
 bA (Sy.int IntKind.i64) []
 fun (y60:List Int) =>
 bA (Sy.int IntKind.i64) []
 fun (y61:List Int) =>
 bA (Sy.int IntKind.i64)
 (List.map (Sy.int IntKind.i64).enc
 s20.2.1)
 fun (y62:List Int) =>
 bA (Sy.int IntKind.i64)
 (List.map (Sy.int IntKind.i64).enc
 s20.2.2.1)
 fun (y63:List Int) =>
 bA (Sy.int IntKind.i64)
 (List.map (Sy.int IntKind.i64).enc
 s20.2.2.2.1 ++
 [[T.v
 (Value.int IntKind.i64
 y22.1.2.2.2.2.1)]])
 fun (y64:List Int) =>
 X19
 ((y59,y60,y61),y62,y63,y64,
 IntKind.i64.wrap
 (s20.2.2.2.2.1+1),
 ()))
 (oB 18)))))
 (oB 18))))
 (aC (decide (y22.1.2.2.2.1=2))
 (aC (decide (y22.1.2.2.2.1=Int.ofNat 0))
 (bS
 (decide
 (((List.map (Sy.int IntKind.i64).enc
 s20.2.1).length +
 1) *
 8 ≤
 140737488355328) &&
 decide
 ((List.map (Sy.int IntKind.i64).enc s20.2.1).length +
 1 ≤
 140737488355328))
 (aC (decide (y22.1.2.2.2.1=Int.ofNat 0))
 (bA (Sy.int IntKind.i64) [] fun (y65:List Int) =>
 bA (Sy.int IntKind.i64) []
 fun (y66:List Int) =>
 bA (Sy.int IntKind.i64) []
 fun (y67:List Int) =>
 bA (Sy.int IntKind.i64)
 (List.map (Sy.int IntKind.i64).enc s20.2.1 ++
 [[T.v
 (Value.int IntKind.i64
 y22.1.2.2.2.2.1)]])
 fun (y68:List Int) =>
 bA (Sy.int IntKind.i64)
 (List.map (Sy.int IntKind.i64).enc
 s20.2.2.1)
 fun (y69:List Int) =>
 bA (Sy.int IntKind.i64)
 (List.map (Sy.int IntKind.i64).enc
 s20.2.2.2.1)
 fun (y70:List Int) =>
 X19
 ((y65,y66,y67),y68,y69,y70,
 IntKind.i64.wrap (s20.2.2.2.2.1+1),
 ()))
 (aC (decide (y22.1.2.2.2.1=Int.ofNat (0+1)))
 (bA (Sy.int IntKind.i64) []
 fun (y71:List Int) =>
 bA (Sy.int IntKind.i64) []
 fun (y72:List Int) =>
 bA (Sy.int IntKind.i64) []
 fun (y73:List Int)=>oB 333)
 (aC
 (decide (y22.1.2.2.2.1=Int.ofNat (0+1+1)))
 (bA (Sy.int IntKind.i64) []
 fun (y74:List Int) =>
 bA (Sy.int IntKind.i64) []
 fun (y75:List Int) =>
 bA (Sy.int IntKind.i64) []
 fun (y76:List Int)=>oB 333)
 (oB 18)))))
 (aC (decide (y22.1.2.2.2.1=Int.ofNat (0+1)))
 (bS
 (decide
 (((List.map (Sy.int IntKind.i64).enc
 s20.2.2.1).length +
 1) *
 8 ≤
 140737488355328) &&
 decide
 ((List.map (Sy.int IntKind.i64).enc
 s20.2.2.1).length +
 1 ≤
 140737488355328))
 (aC (decide (y22.1.2.2.2.1=Int.ofNat 0))
 (bA (Sy.int IntKind.i64) []
 fun (y77:List Int) =>
 bA (Sy.int IntKind.i64) []
 fun (y78:List Int) =>
 bA (Sy.int IntKind.i64) []
 fun (y79:List Int) =>
 bA (Sy.int IntKind.i64)
 (List.map (Sy.int IntKind.i64).enc
 s20.2.2.1 ++
 [[T.v
 (Value.int IntKind.i64
 y22.1.2.2.2.2.1)]])
 fun (y80:List Int)=>oB 333)
 (aC (decide (y22.1.2.2.2.1=Int.ofNat (0+1)))
 (bA (Sy.int IntKind.i64) []
 fun (y81:List Int) =>
 bA (Sy.int IntKind.i64) []
 fun (y82:List Int) =>
 bA (Sy.int IntKind.i64) []
 fun (y83:List Int) =>
 bA (Sy.int IntKind.i64)
 (List.map (Sy.int IntKind.i64).enc s20.2.1)
 fun (y84:List Int) =>
 bA (Sy.int IntKind.i64)
 (List.map (Sy.int IntKind.i64).enc
 s20.2.2.1 ++
 [[T.v
 (Value.int IntKind.i64
 y22.1.2.2.2.2.1)]])
 fun (y85:List Int) =>
 bA (Sy.int IntKind.i64)
 (List.map (Sy.int IntKind.i64).enc
 s20.2.2.2.1)
 fun (y86:List Int) =>
 X19
 ((y81,y82,y83),y84,y85,y86,
 IntKind.i64.wrap
 (s20.2.2.2.2.1+1),
 ()))
 (aC
 (decide (y22.1.2.2.2.1=Int.ofNat (0+1+1)))
 (bA (Sy.int IntKind.i64) []
 fun (y87:List Int) =>
 bA (Sy.int IntKind.i64) []
 fun (y88:List Int) =>
 bA (Sy.int IntKind.i64) []
 fun (y89:List Int) =>
 bA (Sy.int IntKind.i64)
 (List.map (Sy.int IntKind.i64).enc
 s20.2.1)
 fun (y90:List Int)=>oB 333)
 (oB 18)))))
 (aC (decide (y22.1.2.2.2.1=Int.ofNat (0+1+1)))
 (bS
 (decide
 (((List.map (Sy.int IntKind.i64).enc
 s20.2.2.2.1).length +
 1) *
 8 ≤
 140737488355328) &&
 decide
 ((List.map (Sy.int IntKind.i64).enc
 s20.2.2.2.1).length +
 1 ≤
 140737488355328))
 (aC (decide (y22.1.2.2.2.1=Int.ofNat 0))
 (bA (Sy.int IntKind.i64) []
 fun (y91:List Int) =>
 bA (Sy.int IntKind.i64) []
 fun (y92:List Int) =>
 bA (Sy.int IntKind.i64) []
 fun (y93:List Int) =>
 bA (Sy.int IntKind.i64)
 (List.map (Sy.int IntKind.i64).enc
 s20.2.2.2.1 ++
 [[T.v
 (Value.int IntKind.i64
 y22.1.2.2.2.2.1)]])
 fun (y94:List Int) =>
 bA (Sy.int IntKind.i64)
 (List.map (Sy.int IntKind.i64).enc
 s20.2.2.1)
 fun (y95:List Int)=>oB 333)
 (aC
 (decide (y22.1.2.2.2.1=Int.ofNat (0+1)))
 (bA (Sy.int IntKind.i64) []
 fun (y96:List Int) =>
 bA (Sy.int IntKind.i64) []
 fun (y97:List Int) =>
 bA (Sy.int IntKind.i64) []
 fun (y98:List Int) =>
 bA (Sy.int IntKind.i64)
 (List.map (Sy.int IntKind.i64).enc
 s20.2.1)
 fun (y99:List Int) =>
 bA (Sy.int IntKind.i64)
 (List.map (Sy.int IntKind.i64).enc
 s20.2.2.2.1 ++
 [[T.v
 (Value.int IntKind.i64
 y22.1.2.2.2.2.1)]])
 fun (y100:List Int)=>oB 333)
 (aC
 (decide (y22.1.2.2.2.1=Int.ofNat (0+1+1)))
 (bA (Sy.int IntKind.i64) []
 fun (y101:List Int) =>
 bA (Sy.int IntKind.i64) []
 fun (y102:List Int) =>
 bA (Sy.int IntKind.i64) []
 fun (y103:List Int) =>
 bA (Sy.int IntKind.i64)
 (List.map (Sy.int IntKind.i64).enc
 s20.2.1)
 fun (y104:List Int) =>
 bA (Sy.int IntKind.i64)
 (List.map (Sy.int IntKind.i64).enc
 s20.2.2.1)
 fun (y105:List Int) =>
 bA (Sy.int IntKind.i64)
 (List.map (Sy.int IntKind.i64).enc
 s20.2.2.2.1 ++
 [[T.v
 (Value.int IntKind.i64
 y22.1.2.2.2.2.1)]])
 fun (y106:List Int) =>
 X19
 ((y101,y102,y103),y104,y105,y106,
 IntKind.i64.wrap
 (s20.2.2.2.2.1+1),
 ()))
 (oB 18)))))
 (oB 18))))
 (bA (Sy.int IntKind.i64) [] fun (y107:List Int) =>
 bA (Sy.int IntKind.i64) [] fun (y108:List Int) =>
 bA (Sy.int IntKind.i64) [] fun (y109:List Int) =>
 bA (Sy.int IntKind.i64)
 (List.map (Sy.int IntKind.i64).enc s20.2.1)
 fun (y110:List Int) =>
 bA (Sy.int IntKind.i64)
 (List.map (Sy.int IntKind.i64).enc s20.2.2.1)
 fun (y111:List Int) =>
 bA (Sy.int IntKind.i64)
 (List.map (Sy.int IntKind.i64).enc
 s20.2.2.2.1)
 fun (y112:List Int) =>
 X19
 ((y107,y108,y109),y110,y111,y112,
 IntKind.i64.wrap (s20.2.2.2.2.1+1),()))))
 (aH
 [(false,Sy.int IntKind.i64),(false,Sy.int IntKind.i64)]
 (q7
 [T.sl false
 (List.map (Sy.int IntKind.i64).enc s20.2.2.1)])
 fun (y113:aI) =>
 aC (!decide (y113.2=0))
 (R
 (T.bX
 [T.agg
 [T.v (.string { data:=#[] }),
 T.v (.int .i64 0),
 T.v (.int .i64 0),
 T.v (.int .i64 0),
 T.v (.int .i64 0),
 T.v (.int .i64 0)],
 T.v (.int .i64 y113.2)]))
 (aH
 [(false,Sy.int IntKind.i64),(false,Sy.int IntKind.i64)]
 (q7
 [T.sl false
 (List.map (Sy.int IntKind.i64).enc s20.2.2.2.1)])
 fun (y114:aI) =>
 aC (!decide (y114.2=0))
 (R
 (T.bX
 [T.agg
 [T.v (.string { data:=#[] }),
 T.v (.int .i64 0),
 T.v (.int .i64 0),
 T.v (.int .i64 0),
 T.v (.int .i64 0),
 T.v (.int .i64 0)],
 T.v (.int .i64 y114.2)]))
 (aH
 [(false,Sy.int IntKind.i64),
 (false,Sy.int IntKind.i64)]
 (q7
 [T.sl false
 (List.map (Sy.int IntKind.i64).enc s10.1)])
 fun (y115:aI) =>
 aC (!decide (y115.2=0))
 (R
 (T.bX
 [T.agg
 [T.v (.string { data:=#[] }),
 T.v (.int .i64 0),
 T.v (.int .i64 0),
 T.v (.int .i64 0),
 T.v (.int .i64 0),
 T.v (.int .i64 0)],
 T.v (.int .i64 y115.2)]))
 (R
 (T.bX
 [T.agg
 [T.v (.string s3.2.1.1),
 T.v (.int .i64 s3.2.1.2.1),
 T.v
 (Value.int IntKind.i64 s3.2.1.2.2.1),
 T.v (.int .i64 y113.1),
 T.v (.int .i64 y114.1),
 T.v (.int .i64 y115.1)],
 T.v (.int .i64 0)]))))))
 ((y16,y17,y18),[],[],[],0,())))
 ([],0,(),())))))
 ([],(a2,0,0,0,0,0),0,())))
theorem AN8 ( a0 a1 a2 R):bD aX Tryz.prog ANQ AVF 8 10 [aB true aL a0,aB true aG a1,aB false Sy.str a2] R=AN7 a0 a1 a2 R:=by kernel_rfl
abbrev AIT:Sh:=[(true,aL),(true,aG),(false,Sy.str)]
def AIO (d:aQ) (id:ByteArray):bC:=(found pB (partOf d id)).1
def a8 (d:aQ) (node:ByteArray):List bC:=(eJ d node).map (AIO d)
def ABI (d:aQ) (id:ByteArray):b8:=(found tF (lY d id)).1
def bZ (d:aQ) (node:ByteArray):List b8:=(fN d (fP d node)).map (ABI d)
def iX (m:aM) (L:List bC):Int:=eF (fun p=>(dS p m).2) (jK L)
abbrev cW:jX:=(⟨#[]⟩,0,0,0,0,0)
def B9 (d:aQ) (m:aM) (node:ByteArray):jX×Int:=match fA d node with
 | none=>(cW,8)
 | some n=>if ¬ n.2.1=2 then (cW,10) else if ((fQ 1 (a8 d node)).length:Int)=0 then (cW,17) else if ¬ iX m (a8 d node)=0 then (cW,iX m (a8 d node)) else
  if ¬ (cC (dK 1 (bZ d node))).2=0 then (cW,(cC (dK 1 (bZ d node))).2) else if ¬ (cC (dK 2 (bZ d node))).2=0 then (cW,(cC (dK 2 (bZ d node))).2) else if ¬ (cC (gB m (a8 d node))).2=0 then (cW,(cC (gB m (a8 d node))).2) else
  ((node,((fQ 1 (a8 d node)).length:Int),((fQ 2 (a8 d node)).length:Int),(cC (dK 1 (bZ d node))).1,(cC (dK 2 (bZ d node))).1,(cC (gB m (a8 d node))).1),0)
abbrev NY:Sh:=[(true,M7),(false,.int .i64)]
def okG (d:aQ) (m:aM) (node:ByteArray):Bool:=((okD d&&sY d 100)&&decide (d.2.2.2.1.length≤1000))&&(CA m&&(nR (dK 1 (bZ d node))&&(nR (dK 2 (bZ d node))&&nR (gB m (a8 d node)))))
def E1 (x:aQ×aM×ByteArray):Option T:=match okG x.1 x.2.1 x.2.2 with
 | true=>some (Sh.enc NY (B9 x.1 x.2.1 x.2.2))
 | false=>none
noncomputable def PE:List T→Option (T):=gS AIT E1
theorem AP4 {a0 a1 a2}:PE [aB true aL a0,aB true aG a1,T.v (.string a2)]=E1 (a0,a1,a2):=aT (s:=AIT) rfl (a0,a1,a2) rfl
theorem AXH (h:∀ a0 a1 a2 r,E1 (a0,a1,a2)=some r→bU AIT (a0,a1,a2)→AN7 a0 a1 a2 (fun y=>y=r)):aJ Tryz.prog 10 PE :=
 aN (E:=ANQ) (Hs:=AVF) ASQ aU aV (aK rfl) 8 ⟨_,_,Tryz.func10,rfl⟩ rfl fun x r h1 h2=>by
  obtain ⟨a0,a1,a2⟩:=x
  rw[show Sh.bI AIT (a0,a1,a2)=[aB true aL a0,aB true aG a1,aB false Sy.str a2] from rfl,AN8]
  exact h a0 a1 a2 r h1 h2
theorem NK {r:Sy} (hr:r.pure=true) {l:List r.den} {q:r.den} {row:List T} (e:row=r.enc q) {K:List r.den→Prop} (h:K (l++[q])):bA r (List.map r.enc l++[row]) K:=by
 subst e
 rw[show List.map r.enc l++[r.enc q]=List.map r.enc (l++[q]) by simp,iO hr];exact h
theorem DN {r:Sy} (hr:r.pure=true) {l:List r.den} {K:List r.den→Prop} (h:K l):bA r (List.map r.enc l) K:=by rw[iO hr];exact h
theorem pE {α:Type} {f:α→List T} {l:List α} {b:Nat} (hl:l.length≤1000) (hb:b≤1000):(decide (((List.map f l).length+1)*b≤140737488355328)&&decide ((List.map f l).length+1≤140737488355328))=true:=by
 rw[List.length_map]
 have:=Nat.mul_le_mul (show l.length+1≤1001 by omega) hb
 rw[decide_eq_true (by omega),decide_eq_true (by omega)];rfl
theorem kW {L:List bC} {q:bC}:jK (L++[q])=jK L++(if a6 q=1∨a6 q=2 then [q] else []):=by
 unfold jK
 rw[List.filter_append]
 congr 1
 by_cases h1:a6 q=1
 ·rw[if_pos (.inl h1)];simp[h1]
 ·by_cases h2:a6 q=2
  ·rw[if_pos (.inr h2)];simp[h2]
  ·rw[if_neg (by omega)];simp[h1,h2]
theorem eT {k:Int} {L:List bC} {q:bC}:(fQ k (L++[q])).length=(fQ k L).length+(if a6 q=k then 1 else 0):=by
 unfold fQ
 rw[List.filter_append,List.length_append]
 by_cases h1:a6 q=k
 ·rw[if_pos h1];simp[h1]
 ·rw[if_neg h1];simp[h1]
theorem fZ {k:Int} {S:List b8} {s:b8}:dK k (S++[s])=dK k S++(if s.2.2.2.1=k then [s.2.2.2.2.1] else []):=by
 unfold dK
 rw[List.filter_append,List.map_append]
 congr 1
 by_cases h1:s.2.2.2.1=k
 ·rw[if_pos h1];simp[h1]
 ·rw[if_neg h1];simp[h1]
theorem qJ {L:List bC}:(jK L).length≤L.length:=List.length_filter_le ..
theorem AB {k:Int} {L:List bC}:(fQ k L).length≤L.length:=List.length_filter_le ..
theorem sX {k:Int} {S:List b8}:(dK k S).length≤S.length:=by unfold dK;rw[List.length_map];exact List.length_filter_le ..
theorem mS {α:Type} {l:List α} {k:Nat} (h:k<l.length):l.take (k+1)=l.take k++[l[k]]:=by rw[List.take_add_one,List.getElem?_eq_getElem h];rfl
theorem AWT:aJ Tryz.prog 10 PE:=AXH fun d m node r h hb=>by
 clear hb
 have ok:okG d m node=true:=by
  unfold E1 at h
  split at h
  ·rename_i hc;exact hc
  ·cases h
 have e:Sh.enc NY (B9 d m node)=r:=by
  unfold E1 at h
  rw[show okG (d,m,node).1 (d,m,node).2.1 (d,m,node).2.2=true from ok] at h
  exact Option.some.inj h
 subst e
 clear h
 simp only[okG,Bool.and_eq_true,decide_eq_true_eq] at ok
 obtain ⟨⟨⟨hD,hL⟩,hSm⟩,hM,k1,k2,k3⟩:=ok
 have hl:d.2.1.length≤100∧d.2.2.1.length≤100:=by
  simp only[sY,Bool.and_eq_true,decide_eq_true_eq] at hL;omega
 have is:∀ {p:jX} {b:Int},B9 d m node=(p,b)→T.bX [T.agg [T.v (.string p.1),T.v (.int .i64 p.2.1),T.v (.int .i64 p.2.2.1),T.v (.int .i64 p.2.2.2.1),T.v (.int .i64 p.2.2.2.2.1),T.v (.int .i64 p.2.2.2.2.2)],T.v (.int .i64 b)]=Sh.enc NY (B9 d m node):=fun h=>by rw[h];rfl
 unfold AN7
 refine aD (s:=[(true,eZ),(false,.bool)]) (y:=found yA (fA d node)) D3 ?_
 cases hn:fA d node with
 | none=>exact pU (fun _=>is (p:=cW) (by unfold B9;rw[hn])) fun h=>Bool.noConfusion h
 | some n =>
  refine pU (fun h=>Bool.noConfusion h) fun _=>?_
  refine rX (fun h=>is (p:=cW) (by unfold B9;rw[hn];exact if_pos h)) fun hk=>?_
  replace hk:n.2.1=2:=hk
  refine aD (s:=[(false,.li .str)]) (y:=eJ d node) ((ZM ..).trans (AS _ hD hL)) ?_
  have part_call:∀ {id:ByteArray} {K:bC×Bool→Prop},K (found pB (partOf d id))→aH [(true,aP),(false,Sy.bool)] (iB [aB true aL d,T.v (.string id)]) K:=fun h=>aD (s:=[(true,aP),(false,.bool)]) ((w7 ..).trans (nS _ hD)) h
  have hpl:(eJ d node).length≤100:=by
   unfold eJ;rw[List.length_map];exact Nat.le_trans (List.length_filter_le ..) hl.2
  have hLl:(a8 d node).length=(eJ d node).length:=List.length_map ..
  refine aR (eJ d node).length (fun k s=>s=(jK ((a8 d node).take k),(node,((fQ 1 ((a8 d node).take k)).length:Int),((fQ 2 ((a8 d node).take k)).length:Int),0,0,0),(k:Int),())) rfl ?_
  rintro X k s hk2 rfl hX
  dsimp only
  refine bT (fun hlt=>?_) fun hge=>?_
  ·rw[List.length_map] at hlt
   have hlt:k<(eJ d node).length:=by omega
   have hlt':k<(a8 d node).length:=by omega
   rw[a7 (r:=.str) hlt]
   refine part_call ?_
   have hq:(a8 d node)[k]=(found pB (partOf d (eJ d node)[k])).1:=List.getElem_map (AIO d)
   have ht:=mS hlt'
   rw[hq] at ht
   generalize found pB (partOf d (eJ d node)[k])=y at ht
   obtain ⟨q,bq⟩:=y
   have h1:=@AB 1 ((a8 d node).take k)
   have h2:=@AB 2 ((a8 d node).take k)
   have h3:=@qJ ((a8 d node).take k)
   rw[List.length_take] at h1 h2 h3
   have hw:∀ {n:Nat},n≤1000→IntKind.i64.wrap ((n:Int)+1)=((n+1:Nat):Int):=fun h=>by rw[aO]<;>omega
   refine bT (fun c1=>?_) fun c1=>?_
   ·refine ⟨pE (by omega) (by decide),NK (r:=aP) rfl (q:=q) rfl (hX _ hlt ?_)⟩
    replace c1:a6 q=1:=c1
    have c2:¬ a6 q=2:=by omega
    rw[ht,kW,eT,eT,if_pos (.inl c1),if_pos c1,if_neg c2,hw (by omega),hw (by omega)];rfl
   ·replace c1:¬ a6 q=1:=c1
    refine bT (fun c2=>?_) fun c2=>?_
    ·refine ⟨pE (by omega) (by decide),NK (r:=aP) rfl (q:=q) rfl (hX _ hlt ?_)⟩
     replace c2:a6 q=2:=c2
     rw[ht,kW,eT,eT,if_pos (.inr c2),if_neg c1,if_pos c2,hw (by omega),hw (by omega)];rfl
    ·replace c2:¬ a6 q=2:=c2
     refine DN (r:=aP) rfl (hX _ hlt ?_)
     have c3:¬ (a6 q=1∨a6 q=2):=by omega
     rw[ht,kW,eT,eT,if_neg c3,if_neg c1,if_neg c2,List.append_nil,hw (by omega)];rfl
  ·rw[List.length_map] at hge
   have:k=(eJ d node).length:=by omega
   subst this
   rw[←hLl,List.take_length]
   have hz:∀ {e:Int},B9 d m node=(cW,e)→T.bX [T.agg [T.v (.string ⟨#[]⟩),T.v (.int .i64 0),T.v (.int .i64 0),T.v (.int .i64 0),T.v (.int .i64 0),T.v (.int .i64 0)],T.v (.int .i64 e)]=Sh.enc NY (B9 d m node):=fun h=>is (p:=cW) h
   have b1:∀ {x:jX×Int},(if ((fQ 1 (a8 d node)).length:Int)=0 then (cW,17) else x)=B9 d m node→True:=fun _=>trivial
   refine bT (fun h0=>hz (by unfold B9;rw[hn];dsimp only;rw[if_neg (by omega),if_pos h0])) fun h0=>?_
   replace h0:¬ ((fQ 1 (a8 d node)).length:Int)=0:=h0
   have w1:B9 d m node=if ¬ iX m (a8 d node)=0 then (cW,iX m (a8 d node)) else
     if ¬ (cC (dK 1 (bZ d node))).2=0 then (cW,(cC (dK 1 (bZ d node))).2) else if ¬ (cC (dK 2 (bZ d node))).2=0 then (cW,(cC (dK 2 (bZ d node))).2) else if ¬ (cC (gB m (a8 d node))).2=0 then (cW,(cC (gB m (a8 d node))).2) else
     ((node,((fQ 1 (a8 d node)).length:Int),((fQ 2 (a8 d node)).length:Int),(cC (dK 1 (bZ d node))).1,(cC (dK 2 (bZ d node))).1,(cC (gB m (a8 d node))).1),0):=by
    unfold B9;rw[hn];dsimp only;rw[if_neg (by omega),if_neg h0]
   have hsl:=@qJ (a8 d node)
   have hme:iX m (a8 d node)=eF (fun p=>(dS p m).2) (jK (a8 d node)):=rfl
   have hml:gB m (a8 d node)=(jK (a8 d node)).map fun p=>(dS p m).1:=rfl
   generalize hS:jK (a8 d node)=S at *
   rw[bY]
   refine aR S.length (fun k s=>s=((S.take k).map (fun p=>(dS p m).1),(k:Int),(),())∧eF (fun p=>(dS p m).2) (S.drop k)=iX m (a8 d node)) ⟨rfl,by rw[List.drop_zero,hme]⟩ ?_
   rintro Y j s hj ⟨rfl,hfe⟩ hY
   dsimp only
   refine bT (fun hlt=>?_) fun hge=>?_
   ·rw[List.length_map] at hlt
    have hlt:j<S.length:=by omega
    rw[a7 (r:=aP) hlt,show Int.toNat (j:Int)=j from rfl,p8 (r:=aP) hlt]
    refine aD (s:=[(false,.int .i64),(false,.int .i64)]) (ZV hM _) ?_
    rw[List.drop_eq_getElem_cons hlt,eF] at hfe
    refine rX (fun hb=>hz ?_) fun hb=>?_
    ·rw[if_neg hb] at hfe
     rw[w1,←hfe,if_pos hb]
    ·replace hb:(dS S[j] m).2=0:=hb
     rw[if_pos hb] at hfe
     refine ⟨pE (by rw[List.length_map,List.length_take];omega) (by decide),NK (r:=.int .i64) rfl (q:=(dS S[j] m).1) rfl ?_⟩
     rw[bY]
     refine hY _ hlt ⟨?_,hfe⟩
     rw[mS hlt,List.map_append,show IntKind.i64.wrap ((j:Int)+1)=((j+1:Nat):Int) by rw[aO]<;>omega];rfl
   ·rw[List.length_map] at hge
    have:j=S.length:=by omega
    subst this
    rw[List.drop_length] at hfe
    have hfe:iX m (a8 d node)=0:=hfe.symm
    rw[List.take_length,←hml]
    rw[hfe] at w1
    replace w1:B9 d m node=if ¬ (cC (dK 1 (bZ d node))).2=0 then (cW,(cC (dK 1 (bZ d node))).2) else if ¬ (cC (dK 2 (bZ d node))).2=0 then (cW,(cC (dK 2 (bZ d node))).2) else if ¬ (cC (gB m (a8 d node))).2=0 then (cW,(cC (gB m (a8 d node))).2) else
     ((node,((fQ 1 (a8 d node)).length:Int),((fQ 2 (a8 d node)).length:Int),(cC (dK 1 (bZ d node))).1,(cC (dK 2 (bZ d node))).1,(cC (gB m (a8 d node))).1),0):=by rw[w1];exact if_neg (fun h=>h rfl)
    refine aD (s:=[(false,.li .str)]) (y:=fN d (fP d node)) ((ALH ..).trans (AS _ hD hL)) ?_
    have dN:∀ {K:List Int→Prop},K []→bA (Sy.int IntKind.i64) [] K:=fun h=>by rw[APA];exact h
    refine dN (dN (dN ?_))
    have hgl:(bZ d node).length=(fN d (fP d node)).length:=List.length_map ..
    have seam_call:∀ {id:ByteArray} {K:b8×Bool→Prop},K (found tF (lY d id))→aH [(true,cR),(false,Sy.bool)] (w9 [aB true aL d,T.v (.string id)]) K:=fun h=>aD (s:=[(true,cR),(false,.bool)]) (ALG ..) h
    have sum_call:∀ {l:List Int} {K:Int×Int→Prop},nR l=true→K (cC l)→aH [(false,Sy.int IntKind.i64),(false,Sy.int IntKind.i64)] (q7 [T.sl false (List.map (Sy.int IntKind.i64).enc l)]) K:=fun {l K} ho h=>aD (s:=AUZ) ((ALI ..).trans (by unfold vM;rw[ho])) h
    have hgs:(fN d (fP d node)).length≤1000:=by unfold fN;rw[List.length_map];exact Nat.le_trans (List.length_filter_le ..) hSm
    refine aR (fN d (fP d node)).length (fun k s=>s=(([],[],[]),[],dK 1 ((bZ d node).take k),dK 2 ((bZ d node).take k),(k:Int),())) rfl ?_
    rintro Z k s hk3 rfl hZ
    dsimp only
    refine bT (fun hlt=>?_) fun hge=>?_
    ·rw[List.length_map] at hlt
     have hlt:k<(fN d (fP d node)).length:=by omega
     have hlt':k<(bZ d node).length:=by omega
     rw[a7 (r:=.str) hlt]
     refine seam_call ?_
     have hq:(bZ d node)[k]=(found tF (lY d (fN d (fP d node))[k])).1:=List.getElem_map (ABI d)
     have ht:=mS hlt'
     rw[hq] at ht
     generalize found tF (lY d (fN d (fP d node))[k])=y at ht
     obtain ⟨q,bq⟩:=y
     have hw:IntKind.i64.wrap ((k:Int)+1)=((k+1:Nat):Int):=by rw[aO]<;>omega
     have r1:(dK 1 ((bZ d node).take k)).length≤1000:=Nat.le_trans sX (by rw[List.length_take];omega)
     have r2:(dK 2 ((bZ d node).take k)).length≤1000:=Nat.le_trans sX (by rw[List.length_take];omega)
     refine bT (fun c1=>?_) fun c1=>?_
     ·replace c1:q.2.2.2.1=1:=c1
      refine bT (fun h=>absurd (h.symm.trans c1) (by decide)) fun _=>bT (fun _=>⟨pE r1 (by decide),?_⟩) fun h=>absurd c1 h
      refine bT (fun h=>absurd (h.symm.trans c1) (by decide)) fun _=>bT (fun _=>?_) fun h=>absurd c1 h
      refine dN (dN (dN ?_))
      refine DN (r:=.int .i64) (l:=[]) rfl (NK (r:=.int .i64) rfl (q:=q.2.2.2.2.1) rfl (DN (r:=.int .i64) rfl (hZ _ hlt ?_)))
      have c2:¬ q.2.2.2.1=2:=by omega
      rw[ht,fZ,fZ,if_pos c1,if_neg c2,List.append_nil,hw]
     ·replace c1:¬ q.2.2.2.1=1:=c1
      refine bT (fun c2=>?_) fun c2=>?_
      ·replace c2:q.2.2.2.1=2:=c2
       refine bT (fun h=>absurd (h.symm.trans c2) (by decide)) fun _=>bT (fun h=>absurd (h.symm.trans c2) (by decide)) fun _=>bT (fun _=>⟨pE r2 (by decide),?_⟩) fun h=>absurd c2 h
       refine bT (fun h=>absurd (h.symm.trans c2) (by decide)) fun _=>bT (fun h=>absurd (h.symm.trans c2) (by decide)) fun _=>bT (fun _=>?_) fun h=>absurd c2 h
       refine dN (dN (dN ?_))
       refine DN (r:=.int .i64) (l:=[]) rfl (DN (r:=.int .i64) rfl (NK (r:=.int .i64) rfl (q:=q.2.2.2.2.1) rfl (hZ _ hlt ?_)))
       rw[ht,fZ,fZ,if_neg c1,if_pos c2,List.append_nil,hw]
      ·replace c2:¬ q.2.2.2.1=2:=c2
       refine dN (dN (dN ?_))
       refine DN (r:=.int .i64) (l:=[]) rfl (DN (r:=.int .i64) rfl (DN (r:=.int .i64) rfl (hZ _ hlt ?_)))
       rw[ht,fZ,fZ,if_neg c1,if_neg c2,List.append_nil,List.append_nil,hw]
    ·rw[List.length_map] at hge
     have:k=(fN d (fP d node)).length:=by omega
     subst this
     rw[←hgl,List.take_length]
     refine sum_call k1 ?_
     refine rX (fun h=>hz (by rw[w1,if_pos h])) fun h1=>?_
     refine sum_call k2 ?_
     refine rX (fun h=>hz (by rw[w1,if_neg (fun h'=>h' h1),if_pos h])) fun h2=>?_
     refine sum_call k3 ?_
     refine rX (fun h=>hz (by rw[w1,if_neg (fun h'=>h' h1),if_neg (fun h'=>h' h2),if_pos h])) fun h3=>?_
     exact is (p:=(node,((fQ 1 (a8 d node)).length:Int),((fQ 2 (a8 d node)).length:Int),(cC (dK 1 (bZ d node))).1,(cC (dK 2 (bZ d node))).1,(cC (gB m (a8 d node))).1)) (by rw[w1,if_neg (fun h'=>h' h1),if_neg (fun h'=>h' h2),if_neg (fun h'=>h' h3)])
end Go.Pv
namespace Go.Pv
open Go Go.Proofs
theorem ALU {l:List ByteArray} {x:ByteArray}:vT l x=r6 l x:=by
 rw[Bool.eq_iff_iff,AQV,AP9]
def UN (x:aQ×bC×ByteArray):Option T:=some (Sh.enc r_b (nIn x.1 x.2.2 x.2.1))
noncomputable def ABZ:Env:=Env.of [(121,.pure NT),(19,.pure uI)]
def AOD:FuncId→Hint:=fun _=>aS
theorem ANT:aF Tryz.prog ABZ:=aF.cons (x:=.pure NT) AVN (aF.cons (x:=.pure uI) APR (aF.nil _))
def ADG (a0:aQ) (a1:bC) (a2:ByteArray) (R:T→Prop):Prop :=
 aH [(false,Sy.str.li),(false,Sy.bool)]
 (NT [aB true aL a0,T.v (.string a1.2.2.2.1)])
 fun (y0:List ByteArray×Bool) =>
 aH [(false,Sy.bool)]
 (uI [T.sl false (List.map Sy.str.enc y0.1),T.v (.string a2)])
 fun (y1:Bool)=>R (T.v (.bool y1))
theorem AJJ ( a0 a1 a2 R):bD aX Tryz.prog ABZ AOD 8 70 [aB true aL a0,aB true aP a1,aB false Sy.str a2] R=ADG a0 a1 a2 R:=by kernel_rfl
abbrev UA:Sh:=[(true,aL),(true,aP),(false,Sy.str)]
noncomputable def D2:List T→Option (T):=gS UA UN
theorem ALB {a0 a1 a2}:D2 [aB true aL a0,aB true aP a1,T.v (.string a2)]=UN (a0,a1,a2):=aT (s:=UA) rfl (a0,a1,a2) rfl
theorem AUF (h:∀ a0 a1 a2 r,UN (a0,a1,a2)=some r→bU UA (a0,a1,a2)→ADG a0 a1 a2 (fun y=>y=r)):aJ Tryz.prog 70 D2 :=
 aN (E:=ABZ) (Hs:=AOD) ANT aU aV (aK rfl) 8 ⟨_,_,Tryz.func70,rfl⟩ rfl fun x r h1 h2=>by
  obtain ⟨a0,a1,a2⟩:=x
  rw[show Sh.bI UA (a0,a1,a2)=[aB true aL a0,aB true aP a1,aB false Sy.str a2] from rfl,AJJ]
  exact h a0 a1 a2 r h1 h2
theorem ATJ:aJ Tryz.prog 70 D2:=AUF fun d p n r h hb=>by
 cases h
 unfold ADG
 have u:=@AFF
 simp only[AH5,ABN,P5,u,B3,ARW]
 unfold nIn
 rw[ALU];rfl
def yK (x:aQ×ByteArray):Option T:=AQ x.1 (Sh.enc nX (eJ x.1 x.2))
noncomputable def CH:Env:=Env.of [(70,.pure D2)]
def N9:FuncId→Hint:=fun f=>match f == 33 with|true=>⟨fun r=>match r == 3 with|true=>.inv [.own 5 1 .str,.val 6 false (.int .i64)]|false=>.none,fun _ _=>none,fun _=>none⟩|false=>aS
theorem U9:aF Tryz.prog CH:=aF.cons (x:=.pure D2) ATJ (aF.nil _)
def C0 (a0:aQ) (a1:ByteArray) (R:T→Prop):Prop :=
 bE (List ByteArray×Int×PUnit)
 (fun (X0:List ByteArray×Int×PUnit→Prop) (s1:List ByteArray×Int×PUnit) =>
 aC (decide (s1.2.1<(↑(List.map aP.enc a0.2.2.1).length:Int)))
 (aZ aP (List.map aP.enc a0.2.2.1) s1.2.1 fun (y2:bC) =>
 aH [(false,Sy.bool)]
 (D2
 [aB true aL a0,aB true aP y2,T.v (.string a1)])
 fun (y3:Bool) =>
 aC y3
 (aZ aP (List.map aP.enc a0.2.2.1) s1.2.1 fun (y4:bC) =>
 bS
 (decide (((List.map Sy.str.enc s1.1).length+1)*16≤140737488355328) &&
 decide ((List.map Sy.str.enc s1.1).length+1≤140737488355328))
 (bA Sy.str (List.map Sy.str.enc s1.1++[[T.v (.string y4.1)]])
 fun (y5:List ByteArray)=>X0 (y5,IntKind.i64.wrap (s1.2.1+1),())))
 (bA Sy.str (List.map Sy.str.enc s1.1) fun (y6:List ByteArray) =>
 X0 (y6,IntKind.i64.wrap (s1.2.1+1),())))
 (R (T.sl false (List.map Sy.str.enc s1.1))))
 ([],0,())
theorem RP ( a0 a1 R):bD aX Tryz.prog CH N9 8 33 [aB true aL a0,aB false Sy.str a1] R=C0 a0 a1 R:=by kernel_rfl
abbrev uZ:Sh:=[(true,aL),(false,Sy.str)]
noncomputable def mM:List T→Option (T):=gS uZ yK
theorem S3 {a0 a1}:mM [aB true aL a0,T.v (.string a1)]=yK (a0,a1):=aT (s:=uZ) rfl (a0,a1) rfl
theorem AGA (h:∀ a0 a1 r,yK (a0,a1)=some r→bU uZ (a0,a1)→C0 a0 a1 (fun y=>y=r)):aJ Tryz.prog 33 mM :=
 aN (E:=CH) (Hs:=N9) U9 aU aV (aK rfl) 8 ⟨_,_,Tryz.func33,rfl⟩ rfl fun x r h1 h2=>by
  obtain ⟨a0,a1⟩:=x
  rw[show Sh.bI uZ (a0,a1)=[aB true aL a0,aB false Sy.str a1] from rfl,RP]
  exact h a0 a1 r h1 h2
theorem AEX:aJ Tryz.prog 33 mM:=AGA fun d node r h hb=>by
 obtain ⟨_,hli,_,rfl⟩:=AR h
 have hl:d.2.2.1.length≤100:=by
  simp only[sY,Bool.and_eq_true,decide_eq_true_eq] at hli;omega
 clear h
 unfold C0
 refine aR d.2.2.1.length (fun k s=>s=(((d.2.2.1.take k).filter (nIn d node)).map (fun n=>n.1),(k:Int),())) rfl ?_
 rintro X k s hk rfl hX
 have hlen:=PU (c:=nIn d node) (f:=fun n=>n.1) (l:=d.2.2.1) (k:=k)
 dsimp only
 by_cases hlt:k<d.2.2.1.length
 ·have hw:IntKind.i64.wrap ((k:Int)+1)=((k+1:Nat):Int):=aO _ (by omega) (by omega)
  refine bR (by simp[hlt]) ?_
  rw[a7 (r:=aP) hlt]
  refine aD (s:=r_b) (y:=nIn d node d.2.2.1[k]) ALB ?_
  refine vR (fun h1=>?_) fun h1=>?_
  ·rw[a7 (r:=aP) hlt,qO (by omega),eU]
   exact hX _ hlt (by rw[EE hlt h1,hw])
  ·rw[iO (r:=.str) rfl]
   exact hX _ hlt (by rw[LY hlt h1,hw])
 ·have:k=d.2.2.1.length:=by omega
  subst this
  refine b7 (by simp) ?_
  rw[List.take_length];rfl
theorem YC (n:Int):bits .and .i64 n 4294967295=n % 4294967296:=by
 show IntKind.i64.wrap ((BitVec.ofInt 64 n &&& BitVec.ofInt 64 4294967295).toNat:Int)=_
 rw[BitVec.toNat_and,BitVec.toNat_ofInt,show (BitVec.ofInt 64 4294967295).toNat=2 ^ 32-1 by decide,Nat.and_two_pow_sub_one_eq_mod]
 simp only[IntKind.wrap,IntKind.bits,IntKind.signed]
 simp
 omega
theorem e32:(2:Int) ^ Int.toNat 32=4294967296:=by decide
def qI (l:List Int):Option T:=match nR l with
 | true=>some (Sh.enc AUZ (cC l))
 | false=>none
noncomputable def Q4:Env:=Env.of []
def AHO:FuncId→Hint:=fun f=>match f == 38 with|true=>⟨fun r=>match r == 3 with|true=>.inv [.val 4 false (.int .i64),.val 5 false (.int .i64),.val 6 false (.int .i64)]|false=>.none,fun _ _=>none,fun _=>none⟩|false=>aS
theorem AJI:aF Tryz.prog Q4:=aF.nil _
def R5 (a0:List Int) (R:T→Prop):Prop :=
 bE (Int×Int×Int×PUnit)
 (fun (X0:Int×Int×Int×PUnit→Prop) (s1:Int×Int×Int×PUnit) =>
 aC (decide (s1.2.2.1<(↑(List.map (Sy.int IntKind.i64).enc a0).length:Int)))
 (aZ (Sy.int IntKind.i64) (List.map (Sy.int IntKind.i64).enc a0) s1.2.2.1
 fun (y2:Int) =>
 aZ (Sy.int IntKind.i64) (List.map (Sy.int IntKind.i64).enc a0) s1.2.2.1
 fun (y3:Int) =>
 X0
 (IntKind.i64.wrap (s1.1+y2 / 2 ^ Int.toNat 32),
 IntKind.i64.wrap (s1.2.1+bits BinOp.and IntKind.i64 y3 4294967295),
 IntKind.i64.wrap (s1.2.2.1+1),()))
 (aC (decide (IntKind.i64.wrap (s1.1+s1.2.1 / 2 ^ Int.toNat 32) < -2147483648))
 (R (T.bX [T.v (.int .i64 0),T.v (.int .i64 21)]))
 (aC (decide (2147483648≤IntKind.i64.wrap (s1.1+s1.2.1 / 2 ^ Int.toNat 32)))
 (R (T.bX [T.v (.int .i64 0),T.v (.int .i64 21)]))
 (R
 (T.bX
 [T.v
 (Value.int IntKind.i64
 (IntKind.i64.wrap
 (IntKind.i64.wrap
 (IntKind.i64.wrap (s1.1+s1.2.1 / 2 ^ Int.toNat 32)*2 ^ Int.toNat 32) +
 bits BinOp.and IntKind.i64 s1.2.1 4294967295))),
 T.v (.int .i64 0)])))))
 (0,0,0,())
theorem ADZ ( a0 R):bD aX Tryz.prog Q4 AHO 8 38 [aB false (Sy.int IntKind.i64).li a0] R=R5 a0 R:=by kernel_rfl
abbrev HN:Sh:=[(false,(Sy.int IntKind.i64).li)]
noncomputable def mF:List T→Option (T):=gS HN qI
theorem AFQ {a0}:mF [T.sl false (List.map (Sy.int IntKind.i64).enc a0)]=qI (a0):=aT (s:=HN) rfl (a0) rfl
theorem ARN (h:∀ a0 r,qI (a0)=some r→bU HN (a0)→R5 a0 (fun y=>y=r)):aJ Tryz.prog 38 mF :=
 aN (E:=Q4) (Hs:=AHO) AJI aU aV (aK rfl) 8 ⟨_,_,Tryz.func38,rfl⟩ rfl fun x r h1 h2=>by
  let a0:=x
  rw[show Sh.bI HN (a0)=[aB false (Sy.int IntKind.i64).li a0] from rfl,ADZ]
  exact h a0 r h1 h2
theorem AP2:aJ Tryz.prog 38 mF:=ARN fun l r h hb=>by
 clear hb
 have ok:nR l=true:=by
  unfold qI at h
  split at h
  ·assumption
  ·cases h
 have e:T.bX [T.v (.int .i64 (cC l).1),T.v (.int .i64 (cC l).2)]=r:=by
  unfold qI at h
  rw[ok] at h
  exact Option.some.inj h
 subst e
 clear h
 obtain ⟨hl,hi⟩:=AA6 ok
 have is:∀ {a b:Int},cC l=(a,b)→T.bX [T.v (.int .i64 a),T.v (.int .i64 b)]=T.bX [T.v (.int .i64 (cC l).1),T.v (.int .i64 (cC l).2)]:=fun h=>by rw[h]
 unfold R5
 refine aR l.length (fun k s=>s.2.2.1=(k:Int)∧0≤s.2.1∧s.2.1≤4294967295*(k:Int)∧-(2147483648*(k:Int))≤s.1∧s.1≤2147483648*(k:Int)∧s.1*4294967296+s.2.1=qK (l.take k)) ⟨rfl,Int.le_refl _,by decide,by decide,by decide,rfl⟩ ?_
 rintro X k ⟨hh,lo,i,un⟩ hk ⟨rfl,h0,h1,h2,h3,he⟩ hX
 dsimp only at h0 h1 h2 h3 he ⊢
 rw[e32]
 refine bT (fun hlt=>?_) fun hge=>?_
 ·rw[List.length_map] at hlt
  have hlt:k<l.length:=by omega
  rw[a7 (r:=.int .i64) hlt,a7 (r:=.int .i64) hlt]
  have hn:=hi l[k] (List.getElem_mem hlt)
  have hs:qK (l.take (k+1))=qK (l.take k)+l[k]:=by rw[List.take_add_one,List.getElem?_eq_getElem hlt];exact FL
  generalize l[k]=n at hn hs ⊢
  rw[YC,aO _ (by omega) (by omega),aO _ (by omega) (by omega),aO _ (by omega) (by omega)]
  refine hX _ hlt ⟨?_,?_,?_,?_,?_,?_⟩
  all_goals dsimp only
  all_goals omega
 ·rw[List.length_map] at hge
  have:k=l.length:=by omega
  subst this
  rw[List.take_length] at he
  rw[aO (hh+lo / 4294967296) (by omega) (by omega)]
  have big:¬ (-9223372036854775808≤qK l∧qK l≤9223372036854775807)→cC l=(0,21):=fun h=>by unfold cC;rw[if_neg h]
  refine bT (fun a0=>is (big (by omega))) fun a0=>bT (fun a1=>is (big (by omega))) fun a1=>is ?_
  rw[YC,aO ((hh+lo / 4294967296)*4294967296) (by omega) (by omega),aO _ (by omega) (by omega)]
  unfold cC
  rw[if_pos (by omega)]
  congr 1
  omega
end Go.Pv
namespace Go.Pv.Geo
def HU (a b c d:Pt):Prop:=∃ s t s' t':Int,0≤s∧0≤t∧0≤s'∧0≤t'∧s+t=s'+t'∧0<s+t∧s*a.1+t*b.1=s'*c.1+t'*d.1∧s*a.2+t*b.2=s'*c.2+t'*d.2
theorem HU.symm {a b c d:Pt} (h:HU a b c d):HU c d a b:=by
 obtain ⟨s,t,s',t',h1,h2,h3,h4,h5,h6,h7,h8⟩:=h
 exact ⟨s',t',s,t,h3,h4,h1,h2,h5.symm,by omega,h7.symm,h8.symm⟩
theorem HU.swap {a b c d:Pt} (h:HU a b c d):HU b a c d:=by
 obtain ⟨s,t,s',t',h1,h2,h3,h4,h5,h6,h7,h8⟩:=h
 exact ⟨t,s,s',t',h2,h1,h3,h4,by omega,by omega,by omega,by omega⟩
theorem HU.AVY {a b c d:Pt} (h:HU a b c d):HU a b d c:=h.symm.swap.symm
theorem oW {a b:Int} (h:0<a*b) (ha:0<a):0<b:=by
 rcases Int.lt_trichotomy b 0 with hb|hb|hb
 ·have:=Int.mul_neg_of_pos_of_neg ha hb;omega
 ·subst hb;simp at h
 ·exact hb
theorem ASC (x:Int):0≤x*x:=by
 rcases Int.le_total 0 x with h|h
 ·exact Int.mul_nonneg h h
 ·have:=Int.mul_nonneg (show 0≤-x by omega) (show 0≤-x by omega);rwa[Int.neg_mul_neg] at this
theorem cJ {s x y:Int} (hs:0≤s) (h:x≤y):s*x≤s*y:=Int.mul_le_mul_of_nonneg_left h hs
def sE (a b u:Pt):Prop:=∃ s t:Int,0≤s∧0≤t∧0<s+t∧(s+t)*u.1=s*a.1+t*b.1∧(s+t)*u.2=s*a.2+t*b.2
theorem sE.left (a b:Pt):sE a b a:=⟨1,0,by omega,by omega,by omega,by omega,by omega⟩
theorem sE.right (a b:Pt):sE a b b:=⟨0,1,by omega,by omega,by omega,by omega,by omega⟩
theorem sE.swap {a b u:Pt} (h:sE a b u):sE b a u:=by
 obtain ⟨s,t,h1,h2,h3,h4,h5⟩:=h
 exact ⟨t,s,h2,h1,by omega,by rw[Int.add_comm t s];omega,by rw[Int.add_comm t s];omega⟩
theorem kR {s x y:Int} (hs:0<s) (h:s*x≤s*y):x≤y:=Int.le_of_mul_le_mul_left h hs
theorem sE.AWF {a b u:Pt} (h:sE a b u):min a.1 b.1≤u.1∧u.1≤max a.1 b.1:=by
 obtain ⟨s,t,h1,h2,h3,h4,_⟩:=h
 constructor
 ·refine kR h3 ?_
  have e1:=cJ h1 (Int.min_le_left a.1 b.1)
  have e2:=cJ h2 (Int.min_le_right a.1 b.1)
  rw[h4,Int.add_mul];omega
 ·refine kR h3 ?_
  have e1:=cJ h1 (Int.le_max_left a.1 b.1)
  have e2:=cJ h2 (Int.le_max_right a.1 b.1)
  rw[h4,Int.add_mul];omega
theorem sE.AYS {a b u:Pt} (h:sE a b u):min a.2 b.2≤u.2∧u.2≤max a.2 b.2:=by
 obtain ⟨s,t,h1,h2,h3,h4,h5⟩:=h
 exact sE.AWF (a:=(a.2,a.1)) (b:=(b.2,b.1)) (u:=(u.2,u.1)) ⟨s,t,h1,h2,h3,h5,h4⟩
theorem sE.AVK {a b u:Pt} (h:sE a b u):aE a b u=0:=by
 obtain ⟨s,t,h1,h2,h3,h4,h5⟩:=h
 have e:(s+t)*aE a b u=0:=by
  simp only[aE]
  grind
 rcases Int.mul_eq_zero.1 e with h|h
 ·omega
 ·exact h
theorem sE.on {a b u:Pt} (h:sE a b u):gN a b u=true:=by
 unfold gN G0
 rw[decide_eq_true h.AVK,decide_eq_true h.AWF.1,decide_eq_true h.AWF.2,decide_eq_true h.AYS.1,decide_eq_true h.AYS.2];rfl
theorem AUT {a b u:Pt} (h:gN a b u=true):aE a b u=0∧(min a.1 b.1≤u.1∧u.1≤max a.1 b.1)∧min a.2 b.2≤u.2∧u.2≤max a.2 b.2:=by
 unfold gN G0 at h
 simp only[Bool.and_eq_true,decide_eq_true_eq] at h
 exact ⟨h.1,h.2.1,h.2.2⟩
theorem vJ {a b u:Pt} (h:gN a b u=true):sE a b u:=by
 obtain ⟨h0,h1,h2⟩:=AUT h
 simp only[aE] at h0
 rcases Int.lt_trichotomy a.1 b.1 with hx|hx|hx
 ·exact ⟨b.1-u.1,u.1-a.1,by omega,by omega,by omega,by grind,by grind⟩
 ·rcases Int.lt_trichotomy a.2 b.2 with hy|hy|hy
  ·exact ⟨b.2-u.2,u.2-a.2,by omega,by omega,by omega,by grind,by grind⟩
  ·exact ⟨1,0,by omega,by omega,by omega,by omega,by omega⟩
  ·exact ⟨u.2-b.2,a.2-u.2,by omega,by omega,by omega,by grind,by grind⟩
 ·exact ⟨u.1-b.1,a.1-u.1,by omega,by omega,by omega,by grind,by grind⟩
theorem qR {a b c d:Pt} (h:sE a b c):HU a b c d:=by
 obtain ⟨s,t,h1,h2,h3,h4,h5⟩:=h
 exact ⟨s,t,s+t,0,h1,h2,by omega,by omega,by omega,h3,by omega,by omega⟩
theorem GK {m n:Int} (h:pG m*pG n<0):(m<0∧0<n)∨(0<m∧n<0):=by
 unfold pG at h
 split at h<;>split at h<;>(try split at h)<;>omega
theorem FQ {a b c d:Pt} (h:bJ a b c d=true):HU a b c d:=by
 simp only[bJ,Bool.or_eq_true,Bool.and_eq_true,decide_eq_true_eq] at h
 rcases h with (((h|h)|h)|h)|⟨h1,h2⟩
 ·exact qR (vJ h)
 ·exact (qR (vJ h):HU a b d c).AVY
 ·exact (qR (vJ h):HU c d a b).symm
 ·exact (qR (vJ h):HU c d b a).AVY.symm
 ·have e:=TM a b c d
  have h1:=GK h1
  have h2:=GK h2
  have k1:aE c d b*a.1-aE c d a*b.1=aE a b c*d.1-aE a b d*c.1:=by simp only[aE];grind
  have k2:aE c d b*a.2-aE c d a*b.2=aE a b c*d.2-aE a b d*c.2:=by simp only[aE];grind
  rcases h2 with ⟨h3,h4⟩|⟨h3,h4⟩
  ·have h5:0<aE a b c∧aE a b d<0:=by rcases h1 with h|h<;>omega
   refine ⟨aE c d b,-aE c d a,-aE a b d,aE a b c,by omega,by omega,by omega,by omega,by omega,by omega,?_,?_⟩
   ·rw[Int.neg_mul,Int.neg_mul];omega
   ·rw[Int.neg_mul,Int.neg_mul];omega
  ·have h5:aE a b c<0∧0<aE a b d:=by rcases h1 with h|h<;>omega
   refine ⟨-aE c d b,aE c d a,aE a b d,-aE a b c,by omega,by omega,by omega,by omega,by omega,by omega,?_,?_⟩
   ·rw[Int.neg_mul,Int.neg_mul];omega
   ·rw[Int.neg_mul,Int.neg_mul];omega
theorem dA {s x:Int} (hs:s≠0) (h:s*x=0):x=0:=by
 rcases Int.mul_eq_zero.1 h with h|h
 ·exact absurd h hs
 ·exact h
theorem AVS {a b u:Pt} (h0:aE a b u=0) (h:(a.2≠b.2∧min a.2 b.2≤u.2∧u.2≤max a.2 b.2)∨(a.2=b.2∧a.1≠b.1∧min a.1 b.1≤u.1∧u.1≤max a.1 b.1)):gN a b u=true:=by
 rcases h with ⟨h1,h2,h3⟩|⟨h1,h2,h3,h4⟩
 ·rcases Int.lt_or_lt_of_ne h1 with h|h
  ·exact j6 h0 h (by omega) (by omega)
  ·rw[←G5]
   exact j6 (by rw[e9,h0];rfl) h (by omega) (by omega)
 ·have:u.2=a.2:=by
   simp only[aE] at h0
   have h5:(b.1-a.1)*(u.2-a.2)=0:=by rw[h1] at h0 ⊢;grind
   have:=dA (by omega) h5
   omega
  exact TX this.symm (by omega) h3 h4
theorem ovl {a b c d:Int} (q:min a b≤max c d∧min c d≤max a b):(min a b≤c∧c≤max a b)∨(min a b≤d∧d≤max a b)∨(min c d≤a∧a≤max c d)∨(min c d≤b∧b≤max c d):=by omega
theorem AUC {a b c d:Pt} (hab:a≠b) (hcd:c≠d) (n1:gN a b c=false) (n2:gN a b d=false) (n3:gN c d a=false) (n4:gN c d b=false) (r1:aE c d a=0∧aE c d b=0) (r2:aE a b c=0∧aE a b d=0)
  (q1:min a.1 b.1≤max c.1 d.1∧min c.1 d.1≤max a.1 b.1) (q2:min a.2 b.2≤max c.2 d.2∧min c.2 d.2≤max a.2 b.2):False:=by
 have nab:a.2≠b.2∨(a.2=b.2∧a.1≠b.1):=by
  by_cases h:a.2=b.2
  ·exact .inr ⟨h,fun h'=>hab (Prod.ext h' h)⟩
  ·exact .inl h
 have ncd:c.2≠d.2∨(c.2=d.2∧c.1≠d.1):=by
  by_cases h:c.2=d.2
  ·exact .inr ⟨h,fun h'=>hcd (Prod.ext h' h)⟩
  ·exact .inl h
 have f1:∀ {a b u:Pt},aE a b u=0→gN a b u=false→(a.2≠b.2→min a.2 b.2≤u.2→u.2≤max a.2 b.2→False)∧(a.2=b.2→a.1≠b.1→min a.1 b.1≤u.1→u.1≤max a.1 b.1→False):=by
  intro a b u hz hn
  refine ⟨fun x1 x2 x3=>?_,fun x1 x2 x3 x4=>?_⟩
  ·rw[AVS hz (.inl ⟨x1,x2,x3⟩)] at hn;cases hn
  ·rw[AVS hz (.inr ⟨x1,x2,x3,x4⟩)] at hn;cases hn
 obtain ⟨a1,a2⟩:=f1 r2.1 n1
 obtain ⟨b1,b2⟩:=f1 r2.2 n2
 obtain ⟨c1,c2⟩:=f1 r1.1 n3
 obtain ⟨d1,d2⟩:=f1 r1.2 n4
 have flat:a.2=b.2→c.2=a.2∧d.2=a.2:=fun hh=>by
  have x1:a.1≠b.1:=fun h'=>hab (Prod.ext h' hh)
  have y1:=r2.1;have y2:=r2.2
  simp only[aE] at y1 y2
  have z1:(b.1-a.1)*(c.2-a.2)=0:=by rw[hh] at y1 ⊢;grind
  have z2:(b.1-a.1)*(d.2-a.2)=0:=by rw[hh] at y2 ⊢;grind
  have:=dA (by omega) z1
  have:=dA (by omega) z2
  omega
 have flat':c.2=d.2→a.2=c.2∧b.2=c.2:=fun hh=>by
  have x1:c.1≠d.1:=fun h'=>hcd (Prod.ext h' hh)
  have y1:=r1.1;have y2:=r1.2
  simp only[aE] at y1 y2
  have z1:(d.1-c.1)*(a.2-c.2)=0:=by rw[hh] at y1 ⊢;grind
  have z2:(d.1-c.1)*(b.2-c.2)=0:=by rw[hh] at y2 ⊢;grind
  have:=dA (by omega) z1
  have:=dA (by omega) z2
  omega
 by_cases hf:a.2=b.2
 ·obtain ⟨x1,x2⟩:=flat hf
  have x3:a.1≠b.1:=fun h'=>hab (Prod.ext h' hf)
  have x5:c.2=d.2:=x1.trans x2.symm
  have x4:c.1≠d.1:=fun h'=>hcd (Prod.ext h' x5)
  rcases ovl q1 with h|h|h|h
  ·exact a2 hf x3 h.1 h.2
  ·exact b2 hf x3 h.1 h.2
  ·exact c2 x5 x4 h.1 h.2
  ·exact d2 x5 x4 h.1 h.2
 ·have hg:c.2≠d.2:=fun hh=>hf ((flat' hh).1.trans (flat' hh).2.symm)
  rcases ovl q2 with h|h|h|h
  ·exact a1 hf h.1 h.2
  ·exact b1 hf h.1 h.2
  ·exact c1 hg h.1 h.2
  ·exact d1 hg h.1 h.2
theorem F9 {a b c d:Pt} (hab:a≠b) (hcd:c≠d) (h:HU a b c d):bJ a b c d=true:=by
 obtain ⟨s,t,s',t',h1,h2,h3,h4,h5,h6,h7,h8⟩:=h
 have g:s*aE c d a+t*aE c d b=0:=by
  simp only[aE];grind
 have g':s'*aE a b c+t'*aE a b d=0:=by
  simp only[aE];grind
 have e:=TM a b c d
 refine Classical.byContradiction fun hm=>?_
 have hm:bJ a b c d=false:=by simpa using hm
 obtain ⟨n1,n2,n3,n4⟩:=nN hm
 have ms:=lK hm
 have on3:t=0→False:=fun ht=>by
  subst ht
  have:sE c d a:=⟨s',t',h3,h4,by omega,by rw[←h5,Int.add_zero];omega,by rw[←h5,Int.add_zero];omega⟩
  rw[this.on] at n3;cases n3
 have on4:s=0→False:=fun hs=>by
  subst hs
  have:sE c d b:=⟨s',t',h3,h4,by omega,by rw[←h5,Int.zero_add];omega,by rw[←h5,Int.zero_add];omega⟩
  rw[this.on] at n4;cases n4
 have on1:t'=0→False:=fun ht=>by
  subst ht
  have:sE a b c:=⟨s,t,h1,h2,h6,by rw[h5,Int.add_zero];omega,by rw[h5,Int.add_zero];omega⟩
  rw[this.on] at n1;cases n1
 have on2:s'=0→False:=fun hs=>by
  subst hs
  have:sE a b d:=⟨s,t,h1,h2,h6,by rw[h5,Int.zero_add];omega,by rw[h5,Int.zero_add];omega⟩
  rw[this.on] at n2;cases n2
 have sgns:∀ {s t x y:Int},0<s→0<t→s*x+t*y=0→(x=0∧y=0)∨(0<x∧y<0)∨(x<0∧0<y):=by
  intro s t x y hs ht hh
  rcases Int.lt_trichotomy x 0 with hx|hx|hx
  ·have:s*x<0:=Int.mul_neg_of_pos_of_neg hs hx
   have:0<y:=oW (a:=t) (by omega) ht
   omega
  ·subst hx
   have:=dA (s:=t) (x:=y) (by omega) (by omega)
   omega
  ·have:0<s*x:=Int.mul_pos hs hx
   have hy:0 < -y:=oW (a:=t) (by rw[Int.mul_neg];omega) ht
   omega
 have hs:0<s:=by rcases Int.lt_or_eq_of_le h1 with h|h;exact h;exact (on4 h.symm).elim
 have ht:0<t:=by rcases Int.lt_or_eq_of_le h2 with h|h;exact h;exact (on3 h.symm).elim
 have hs':0<s':=by rcases Int.lt_or_eq_of_le h3 with h|h;exact h;exact (on2 h.symm).elim
 have ht':0<t':=by rcases Int.lt_or_eq_of_le h4 with h|h;exact h;exact (on1 h.symm).elim
 have r1:=sgns hs ht g
 have r2:=sgns hs' ht' g'
 rcases r1 with r1|r1
 ·have r2:aE a b c=0∧aE a b d=0:=by rcases r2 with r2|r2;exact r2;clear on1 on2 on3 on4 sgns;omega
  have q2:min a.2 b.2≤max c.2 d.2∧min c.2 d.2≤max a.2 b.2:=by
   have e1:=cJ h1 (Int.min_le_left a.2 b.2);have e2:=cJ h2 (Int.min_le_right a.2 b.2)
   have e3:=cJ h3 (Int.le_max_left c.2 d.2);have e4:=cJ h4 (Int.le_max_right c.2 d.2)
   have e5:=cJ h3 (Int.min_le_left c.2 d.2);have e6:=cJ h4 (Int.min_le_right c.2 d.2)
   have e7:=cJ h1 (Int.le_max_left a.2 b.2);have e8:=cJ h2 (Int.le_max_right a.2 b.2)
   constructor
   ·refine kR h6 ?_
    rw[Int.add_mul,h5,Int.add_mul];omega
   ·refine kR (s:=s'+t') (by omega) ?_
    rw[Int.add_mul,←h5,Int.add_mul];omega
  have q1:min a.1 b.1≤max c.1 d.1∧min c.1 d.1≤max a.1 b.1:=by
   have e1:=cJ h1 (Int.min_le_left a.1 b.1);have e2:=cJ h2 (Int.min_le_right a.1 b.1)
   have e3:=cJ h3 (Int.le_max_left c.1 d.1);have e4:=cJ h4 (Int.le_max_right c.1 d.1)
   have e5:=cJ h3 (Int.min_le_left c.1 d.1);have e6:=cJ h4 (Int.min_le_right c.1 d.1)
   have e7:=cJ h1 (Int.le_max_left a.1 b.1);have e8:=cJ h2 (Int.le_max_right a.1 b.1)
   constructor
   ·refine kR h6 ?_
    rw[Int.add_mul,h5,Int.add_mul];omega
   ·refine kR (s:=s'+t') (by omega) ?_
    rw[Int.add_mul,←h5,Int.add_mul];omega
  exact AUC hab hcd n1 n2 n3 n4 r1 r2 q1 q2
 ·rcases r2 with r2|r2
  ·omega
  ·exact ms ⟨by omega,by omega⟩
theorem HU.sub {a b c d u v:Pt} (hu:sE a b u) (hv:sE a b v) (h:HU u v c d):HU a b c d:=by
 obtain ⟨s,t,s',t',h1,h2,h3,h4,h5,h6,h7,h8⟩:=h
 obtain ⟨p,q,k1,k2,k3,k4,k5⟩:=hu
 obtain ⟨p',q',l1,l2,l3,l4,l5⟩:=hv
 have m1:0<(p+q)*(p'+q'):=Int.mul_pos k3 l3
 refine ⟨s*(p'+q')*p+t*(p+q)*p',s*(p'+q')*q+t*(p+q)*q',(p+q)*(p'+q')*s',(p+q)*(p'+q')*t',?_,?_,?_,?_,?_,?_,?_,?_⟩
 ·exact Int.add_nonneg (Int.mul_nonneg (Int.mul_nonneg h1 (by omega)) k1) (Int.mul_nonneg (Int.mul_nonneg h2 (by omega)) l1)
 ·exact Int.add_nonneg (Int.mul_nonneg (Int.mul_nonneg h1 (by omega)) k2) (Int.mul_nonneg (Int.mul_nonneg h2 (by omega)) l2)
 ·exact Int.mul_nonneg (by omega) h3
 ·exact Int.mul_nonneg (by omega) h4
 ·rw[←Int.mul_add,←h5];grind
 ·have:0<(p+q)*(p'+q')*(s+t):=Int.mul_pos m1 h6
  have e:s*(p'+q')*p+t*(p+q)*p'+(s*(p'+q')*q+t*(p+q)*q')=(p+q)*(p'+q')*(s+t):=by grind
  omega
 ·have e1:(s*(p'+q')*p+t*(p+q)*p')*a.1+(s*(p'+q')*q+t*(p+q)*q')*b.1=s*(p'+q')*(p*a.1+q*b.1)+t*(p+q)*(p'*a.1+q'*b.1):=by grind
  have e2:s*(p'+q')*((p+q)*u.1)+t*(p+q)*((p'+q')*v.1)=(p+q)*(p'+q')*(s*u.1+t*v.1):=by grind
  have e3:(p+q)*(p'+q')*(s'*c.1+t'*d.1)=(p+q)*(p'+q')*s'*c.1+(p+q)*(p'+q')*t'*d.1:=by grind
  rw[e1,←k4,←l4,e2,h7,e3]
 ·have e1:(s*(p'+q')*p+t*(p+q)*p')*a.2+(s*(p'+q')*q+t*(p+q)*q')*b.2=s*(p'+q')*(p*a.2+q*b.2)+t*(p+q)*(p'*a.2+q'*b.2):=by grind
  have e2:s*(p'+q')*((p+q)*u.2)+t*(p+q)*((p'+q')*v.2)=(p+q)*(p'+q')*(s*u.2+t*v.2):=by grind
  have e3:(p+q)*(p'+q')*(s'*c.2+t'*d.2)=(p+q)*(p'+q')*s'*c.2+(p+q)*(p'+q')*t'*d.2:=by grind
  rw[e1,←k5,←l5,e2,h8,e3]
theorem tB {a b c d u v:Pt} (hn:¬ HU a b c d) (hu:sE a b u) (hv:sE a b v):bJ c d u v=false:=by
 rw[Bool.eq_false_iff]
 intro h
 exact hn ((FQ h).symm.sub hu hv)
def GN (a b u:Pt):Prop:=∃ s t:Int,0≤s∧0<t∧(s+t)*u.1=s*a.1+t*b.1∧(s+t)*u.2=s*a.2+t*b.2
theorem GN.seg {a b u:Pt} (h:GN a b u):sE a b u:=by
 obtain ⟨s,t,h1,h2,h3,h4⟩:=h
 exact ⟨s,t,h1,by omega,by omega,h3,h4⟩
theorem AAQ {c a b u v:Pt} (hab:a≠b) (hf:¬ (aE c a b=0∧0<j0 c a b)) (hu:GN a b u) (hv:GN a b v):bJ c a u v=false:=by
 rw[Bool.eq_false_iff]
 intro h
 obtain ⟨s,t,s',t',h1,h2,h3,h4,h5,h6,h7,h8⟩:=FQ h
 obtain ⟨p,q,k1,k2,k4,k5⟩:=hu
 obtain ⟨p',q',l1,l2,l4,l5⟩:=hv
 have kp:0<p+q:=by omega
 have lp:0<p'+q':=by omega
 have m1:0<(p+q)*(p'+q'):=Int.mul_pos kp lp
 have e1:(p+q)*(p'+q')*s*(c.1-a.1)=(s'*(p'+q')*q+t'*(p+q)*q')*(b.1-a.1):=by
  have e:(p+q)*(p'+q')*(s*c.1+t*a.1)=(p+q)*(p'+q')*(s'*u.1+t'*v.1):=by rw[h7]
  have e':(p+q)*(p'+q')*(s+t)*a.1=(p+q)*(p'+q')*(s'+t')*a.1:=by rw[h5]
  grind
 have e2:(p+q)*(p'+q')*s*(c.2-a.2)=(s'*(p'+q')*q+t'*(p+q)*q')*(b.2-a.2):=by
  have e:(p+q)*(p'+q')*(s*c.2+t*a.2)=(p+q)*(p'+q')*(s'*u.2+t'*v.2):=by rw[h8]
  have e':(p+q)*(p'+q')*(s+t)*a.2=(p+q)*(p'+q')*(s'+t')*a.2:=by rw[h5]
  grind
 have hQ:0<s'*(p'+q')*q+t'*(p+q)*q':=by
  have x1:0≤s'*(p'+q')*q:=Int.mul_nonneg (Int.mul_nonneg h3 (by omega)) (by omega)
  have x2:0≤t'*(p+q)*q':=Int.mul_nonneg (Int.mul_nonneg h4 (by omega)) (by omega)
  rcases Int.lt_or_eq_of_le h3 with x|x
  ·have:=Int.mul_pos (Int.mul_pos x lp) k2;omega
  ·have:0<t':=by omega
   have:=Int.mul_pos (Int.mul_pos this kp) l2;omega
 generalize s'*(p'+q')*q+t'*(p+q)*q'=Q at e1 e2 hQ
 generalize hS:(p+q)*(p'+q')*s=S at e1 e2
 have hS0:0≤S:=by rw[←hS];exact Int.mul_nonneg (by omega) h1
 have hd:0<(b.1-a.1)*(b.1-a.1)+(b.2-a.2)*(b.2-a.2):=by
  have y1:0≤(b.1-a.1)*(b.1-a.1):=ASC _
  have y2:0≤(b.2-a.2)*(b.2-a.2):=ASC _
  by_cases z:b.1-a.1=0
  ·have z2:b.2-a.2≠0:=fun h'=>hab (Prod.ext (by omega) (by omega))
   have:(b.2-a.2)*(b.2-a.2)≠0:=fun h'=>by rcases Int.mul_eq_zero.1 h' with h|h<;>omega
   omega
  ·have:(b.1-a.1)*(b.1-a.1)≠0:=fun h'=>by rcases Int.mul_eq_zero.1 h' with h|h<;>omega
   omega
 have hSpos:0<S:=by
  rcases Int.lt_or_eq_of_le hS0 with x|x
  ·exact x
  ·rw[←x] at e1 e2
   have z1:=dA (s:=Q) (x:=b.1-a.1) (by omega) (by omega)
   have z2:=dA (s:=Q) (x:=b.2-a.2) (by omega) (by omega)
   exact absurd (Prod.ext (by omega) (by omega)) hab
 refine hf ⟨?_,?_⟩
 ·have:S*aE c a b=0:=by
   simp only[aE]
   have:S*((a.1-c.1)*(b.2-c.2)-(a.2-c.2)*(b.1-c.1))=(S*(c.2-a.2))*(b.1-a.1)-(S*(c.1-a.1))*(b.2-a.2):=by grind
   rw[this,e1,e2];grind
  exact dA (by omega) this
 ·have:S*j0 c a b=Q*((b.1-a.1)*(b.1-a.1)+(b.2-a.2)*(b.2-a.2)):=by
   simp only[j0]
   have:S*((c.1-a.1)*(b.1-a.1)+(c.2-a.2)*(b.2-a.2))=(S*(c.1-a.1))*(b.1-a.1)+(S*(c.2-a.2))*(b.2-a.2):=by grind
   rw[this,e1,e2];grind
  have:0<S*j0 c a b:=by rw[this];exact Int.mul_pos hQ hd
  exact oW this hSpos
def o4 (a b u:Pt):Prop:=∃ s t:Int,0<s∧0<t∧(s+t)*u.1=s*a.1+t*b.1∧(s+t)*u.2=s*a.2+t*b.2
theorem o4.r {a b u:Pt} (h:o4 a b u):GN a b u:=by
 obtain ⟨s,t,h1,h2,h3,h4⟩:=h
 exact ⟨s,t,by omega,h2,h3,h4⟩
theorem o4.swap {a b u:Pt} (h:o4 a b u):o4 b a u:=by
 obtain ⟨s,t,h1,h2,h3,h4⟩:=h
 exact ⟨t,s,h2,h1,by rw[Int.add_comm t s];omega,by rw[Int.add_comm t s];omega⟩
theorem o4.seg {a b u:Pt} (h:o4 a b u):sE a b u:=h.r.seg
theorem MF (a b:Pt):GN a b b:=⟨0,1,by omega,by omega,by omega,by omega⟩
def sg (a b:Pt):Bool:=decide (b.2<a.2)||(decide (b.2=a.2)&&decide (a.1<b.1))
def FR (u v w:Pt):Bool:=if u.2≤v.2 then dr u v w else dr v u w
theorem DO {a b u v:Pt} (hm:bJ a b u v=false):(hit a b u ^^ hit a b v)=(FR u v a ^^ FR u v b):=by
 unfold FR
 by_cases h:u.2≤v.2
 ·rw[if_pos h,if_pos h];exact KT h hm
 ·rw[if_neg h,if_neg h,Bool.xor_comm];exact KT (by omega) (by rw[LV];exact hm)
theorem lH {u v w:Pt} (h:aE u v w=0):FR u v w=false:=by
 unfold FR dr
 split
 ·rw[h];simp
 ·rw[e9 u v w,h];simp
structure wV (x y:Int):Prop where
 p:0<x↔0<y
 n:x<0↔y<0
theorem EL {k s x y:Int} (hk:0<k) (hs:0<s) (h:k*x=s*y):wV x y:=by
 constructor
 ·constructor
  ·intro hx;exact oW (a:=s) (by rw[←h];exact Int.mul_pos hk hx) hs
  ·intro hy;exact oW (a:=k) (by rw[h];exact Int.mul_pos hs hy) hk
 ·constructor
  ·intro hx
   have:0 < -y:=oW (a:=s) (by rw[Int.mul_neg,←h];have:=Int.mul_neg_of_pos_of_neg hk hx;omega) hs
   omega
  ·intro hy
   have:0 < -x:=oW (a:=k) (by rw[Int.mul_neg,h];have:=Int.mul_neg_of_pos_of_neg hs hy;omega) hk
   omega
theorem AJ8 {a b c u:Pt} (hu:o4 a b u):(hit b c u ^^ FR u b c)=if a.2<b.2 then decide (c.2≤b.2)&&decide (aE a b c<0) else decide (b.2<c.2)&&decide (0<aE a b c):=by
 obtain ⟨s,t,h1,h2,h3,h4⟩:=hu
 have k1:wV (aE b c u) (aE a b c):=EL (k:=s+t) (s:=s) (by omega) h1 (by simp only[aE];grind)
 have k2:wV (aE u b c) (aE a b c):=EL (k:=s+t) (s:=s) (by omega) h1 (by simp only[aE];grind)
 have k3:wV (u.2-b.2) (a.2-b.2):=EL (k:=s+t) (s:=s) (by omega) h1 (by grind)
 obtain ⟨p1,n1⟩:=k1
 obtain ⟨p2,n2⟩:=k2
 obtain ⟨p3,n3⟩:=k3
 have e3:=e9 u b c
 unfold hit FR dr
 rw[e3]
 generalize aE b c u=X at *
 generalize aE u b c=Y at *
 generalize aE a b c=Z at *
 rcases Int.lt_trichotomy Z 0 with hz|hz|hz<;>rcases Int.lt_trichotomy a.2 b.2 with ha|ha|ha<;>rcases Int.lt_trichotomy c.2 b.2 with hc|hc|hc<;>rcases Int.lt_or_le u.2 c.2 with hd|hd<;>grind
theorem AJ9 {a b c v:Pt} (hv:o4 b c v):(hit a b v ^^ FR b v a)=if c.2<b.2 then decide (a.2≤b.2)&&decide (0<aE a b c) else decide (b.2<a.2)&&decide (aE a b c<0):=by
 obtain ⟨s,t,h1,h2,h3,h4⟩:=hv
 have k1:wV (aE a b v) (aE a b c):=EL (k:=s+t) (s:=t) (by omega) h2 (by simp only[aE];grind)
 have k2:wV (aE b v a) (aE a b c):=EL (k:=s+t) (s:=t) (by omega) h2 (by simp only[aE];grind)
 have k3:wV (v.2-b.2) (c.2-b.2):=EL (k:=s+t) (s:=t) (by omega) h2 (by grind)
 obtain ⟨p1,n1⟩:=k1
 obtain ⟨p2,n2⟩:=k2
 obtain ⟨p3,n3⟩:=k3
 have e3:=e9 b v a
 unfold hit FR dr
 rw[e3]
 generalize aE a b v=X at *
 generalize aE b v a=Y at *
 generalize aE a b c=Z at *
 rcases Int.lt_trichotomy Z 0 with hz|hz|hz<;>rcases Int.lt_trichotomy a.2 b.2 with ha|ha|ha<;>rcases Int.lt_trichotomy c.2 b.2 with hc|hc|hc<;>rcases Int.lt_or_le v.2 a.2 with hd|hd<;>grind
theorem ATR {a b c:Pt} (hf:¬ (aE a b c=0∧0<j0 a b c)) (h:(a.2<b.2∧c.2<b.2)∨(b.2<a.2∧b.2<c.2)):aE a b c≠0:=by
 intro h0
 refine hf ⟨h0,?_⟩
 have hy:0<(a.2-b.2)*(c.2-b.2):=by
  rcases h with ⟨h1,h2⟩|⟨h1,h2⟩
  ·have:=Int.mul_pos (show 0<b.2-a.2 by omega) (show 0<b.2-c.2 by omega)
   have e:(a.2-b.2)*(c.2-b.2)=(b.2-a.2)*(b.2-c.2):=by grind
   omega
  ·exact Int.mul_pos (by omega) (by omega)
 have hx:0≤(a.1-b.1)*(c.1-b.1):=by
  have e:(a.2-b.2)*(c.2-b.2)*((a.1-b.1)*(c.1-b.1))=((a.2-b.2)*(c.1-b.1))*((a.2-b.2)*(c.1-b.1)):=by
   simp only[aE] at h0
   have h1:(a.1-b.1)*(c.2-b.2)=(a.2-b.2)*(c.1-b.1):=by grind
   have:(a.2-b.2)*(c.2-b.2)*((a.1-b.1)*(c.1-b.1))=((a.1-b.1)*(c.2-b.2))*((a.2-b.2)*(c.1-b.1)):=by grind
   rw[this,h1]
  have e2:0≤(a.2-b.2)*(c.2-b.2)*((a.1-b.1)*(c.1-b.1)):=by rw[e];exact ASC _
  rcases Int.lt_or_le ((a.1-b.1)*(c.1-b.1)) 0 with h|h
  ·have:=Int.mul_neg_of_pos_of_neg hy h;omega
  ·exact h
 unfold j0
 omega
theorem AWJ {a b c u v:Pt} (hab:a≠b) (hbc:b≠c) (hf:¬ (aE a b c=0∧0<j0 a b c)) (hu:o4 a b u) (hv:o4 b c v) :
  ((hit b c u ^^ FR u b c) ^^ (hit a b v ^^ FR b v a))=(sg a b ^^ sg b c):=by
 rw[AJ8 hu,AJ9 hv]
 have nf:=@ATR a b c hf
 unfold sg
 rcases Int.lt_trichotomy a.2 b.2 with ha|ha|ha
 ·rcases Int.lt_trichotomy c.2 b.2 with hc|hc|hc
  ·have:=nf (.inl ⟨ha,hc⟩)
   rcases Int.lt_or_lt_of_ne this with h|h<;>grind
  ·have hx:b.1≠c.1:=fun h=>hbc (Prod.ext h hc.symm)
   have e:aE a b c = -((b.2-a.2)*(c.1-b.1)):=by simp only[aE];rw[hc];grind
   rcases Int.lt_or_lt_of_ne hx with h|h
   ·have:=Int.mul_pos (show 0<b.2-a.2 by omega) (show 0<c.1-b.1 by omega)
    grind
   ·have:=Int.mul_neg_of_pos_of_neg (show 0<b.2-a.2 by omega) (show c.1-b.1<0 by omega)
    grind
  ·grind
 ·have hx:a.1≠b.1:=fun h=>hab (Prod.ext h ha)
  rcases Int.lt_trichotomy c.2 b.2 with hc|hc|hc
  ·have e:aE a b c=(b.1-a.1)*(c.2-b.2):=by simp only[aE];rw[ha];grind
   rcases Int.lt_or_lt_of_ne hx with h|h
   ·have:=Int.mul_neg_of_pos_of_neg (show 0<b.1-a.1 by omega) (show c.2-b.2<0 by omega)
    grind
   ·have:=Int.mul_pos (show 0<a.1-b.1 by omega) (show 0<b.2-c.2 by omega)
    have e':(a.1-b.1)*(b.2-c.2)=(b.1-a.1)*(c.2-b.2):=by grind
    grind
  ·have hx2:b.1≠c.1:=fun h=>hbc (Prod.ext h hc.symm)
   have e:aE a b c=0:=by simp only[aE];rw[ha,hc];grind
   have hd:¬ 0<j0 a b c:=fun h=>hf ⟨e,h⟩
   have ed:j0 a b c=(a.1-b.1)*(c.1-b.1):=by simp only[j0];rw[ha,hc];grind
   rcases Int.lt_or_lt_of_ne hx with h|h<;>rcases Int.lt_or_lt_of_ne hx2 with h'|h'
   ·grind
   ·have:=Int.mul_pos (show 0<b.1-a.1 by omega) (show 0<b.1-c.1 by omega)
    have e':(b.1-a.1)*(b.1-c.1)=(a.1-b.1)*(c.1-b.1):=by grind
    omega
   ·have:=Int.mul_pos (show 0<a.1-b.1 by omega) (show 0<c.1-b.1 by omega)
    omega
   ·grind
  ·have e:aE a b c=(b.1-a.1)*(c.2-b.2):=by simp only[aE];rw[ha];grind
   rcases Int.lt_or_lt_of_ne hx with h|h
   ·have:=Int.mul_pos (show 0<b.1-a.1 by omega) (show 0<c.2-b.2 by omega)
    grind
   ·have:=Int.mul_neg_of_pos_of_neg (show 0<c.2-b.2 by omega) (show b.1-a.1<0 by omega)
    have e':(c.2-b.2)*(b.1-a.1)=(b.1-a.1)*(c.2-b.2):=by grind
    grind
 ·rcases Int.lt_trichotomy c.2 b.2 with hc|hc|hc
  ·grind
  ·have hx:b.1≠c.1:=fun h=>hbc (Prod.ext h hc.symm)
   have e:aE a b c=(a.2-b.2)*(c.1-b.1):=by simp only[aE];rw[hc];grind
   rcases Int.lt_or_lt_of_ne hx with h|h
   ·have:=Int.mul_pos (show 0<a.2-b.2 by omega) (show 0<c.1-b.1 by omega)
    grind
   ·have:=Int.mul_neg_of_pos_of_neg (show 0<a.2-b.2 by omega) (show c.1-b.1<0 by omega)
    grind
  ·have:=nf (.inr ⟨ha,hc⟩)
   rcases Int.lt_or_lt_of_ne this with h|h<;>grind
structure eN (p:List Pt):Prop where
 n3:3≤p.length
 ne:∀ i,i<p.length→pt p i≠nx p i
 nf:∀ i,i<p.length→¬ (aE (pt p i) (nx p i) (lL p i)=0∧0<j0 (pt p i) (nx p i) (lL p i))
 ap:∀ i k,i<p.length→k<p.length→k≠i→k≠(i+1) % p.length→i≠(k+1) % p.length→¬ HU (pt p i) (nx p i) (pt p k) (nx p k)
theorem uP (p:List Pt) (i:Nat):nx p ((i+1) % p.length)=lL p i:=by
 unfold nx lL
 rw[Nat.mod_add_mod]
theorem next_ne {n i:Nat} (hn:3≤n) (hi:i<n):(i+1) % n≠i∧i≠((i+1) % n+1) % n:=by
 rw[Nat.mod_add_mod]
 rcases Nat.lt_or_ge (i+1) n with h|h
 ·rw[Nat.mod_eq_of_lt h]
  refine ⟨by omega,?_⟩
  rcases Nat.lt_or_ge (i+1+1) n with h'|h'
  ·rw[Nat.mod_eq_of_lt h'];omega
  ·rw[show i+1+1=n by omega,Nat.mod_self];omega
 ·have e:i+1=n:=by omega
  rw[e,Nat.mod_self,show n+1=1+n by omega,Nat.add_mod_right,Nat.mod_eq_of_lt (by omega)]
  omega
theorem AQ3 {n i j:Nat} (hi:i<n) (hj:j<n) (h:(i+1) % n=(j+1) % n):i=j:=by
 rcases Nat.lt_or_ge (i+1) n with h1|h1<;>rcases Nat.lt_or_ge (j+1) n with h2|h2
 ·rw[Nat.mod_eq_of_lt h1,Nat.mod_eq_of_lt h2] at h;omega
 ·rw[Nat.mod_eq_of_lt h1,show j+1=n by omega,Nat.mod_self] at h;omega
 ·rw[Nat.mod_eq_of_lt h2,show i+1=n by omega,Nat.mod_self] at h;omega
 ·omega
section
variable {p : List Pt}
theorem eN.right (S:eN p) {i j:Nat} (hi:i<p.length) (hj:j<p.length) (h1:j≠i) (h2:j≠(i+1) % p.length) {u v:Pt} (hu:GN (pt p i) (nx p i) u) (hv:GN (pt p i) (nx p i) v):bJ (pt p j) (nx p j) u v=false:=by
 by_cases h:i=(j+1) % p.length
 ·have e:nx p j=pt p i:=by rw[h];rfl
  have e2:lL p j=nx p i:=by rw[←uP,←h]
  rw[e]
  refine AAQ (S.ne i hi) ?_ hu hv
  have:=S.nf j hj
  rw[e,e2] at this
  exact this
 ·exact tB (S.ap i j hi hj h1 h2 h) hu.seg hv.seg
theorem AKA (a b c:Pt):aE c b a = - aE a b c:=by simp only[aE];grind
theorem AS6 (a b c:Pt):j0 c b a=j0 a b c:=by simp only[j0];grind
theorem eN.left (S:eN p) {i j:Nat} (hi:i<p.length) (hj:j<p.length) (h1:j≠i) (h2:i≠(j+1) % p.length) {u v:Pt} (hu:GN (nx p i) (pt p i) u) (hv:GN (nx p i) (pt p i) v):bJ (pt p j) (nx p j) u v=false:=by
 by_cases h:j=(i+1) % p.length
 ·have e:pt p j=nx p i:=by rw[h];rfl
  have e2:nx p j=lL p i:=by rw[←uP,←h]
  rw[e,e2,ED]
  refine AAQ (fun h'=>S.ne i hi h'.symm) ?_ hu hv
  rw[AKA,AS6]
  rintro ⟨x,y⟩
  exact S.nf i hi ⟨by omega,y⟩
 ·exact tB (S.ap i j hi hj h1 h h2) hu.seg.swap hv.seg.swap
theorem eN.inner (S:eN p) {i j:Nat} (hi:i<p.length) (hj:j<p.length) (h1:j≠i) {u v:Pt} (hu:o4 (pt p i) (nx p i) u) (hv:o4 (pt p i) (nx p i) v):bJ (pt p j) (nx p j) u v=false:=by
 by_cases h:j=(i+1) % p.length
 ·refine S.left hi hj h1 ?_ hu.swap.r hv.swap.r
  rw[h];exact (next_ne S.n3 hi).2
 ·exact S.right hi hj h1 h hu.r hv.r
end
theorem EM {a b u v:Pt} (hu:sE a b u) (hv:sE a b v):aE u v a=0∧aE u v b=0:=by
 obtain ⟨s,t,h1,h2,h3,h4,h5⟩:=hu
 obtain ⟨s',t',k1,k2,k3,k4,k5⟩:=hv
 have d1:(s+t)*(s'+t')*(v.1-u.1)=((s+t)*t'-(s'+t')*t)*(b.1-a.1):=by
  have e1:(s+t)*((s'+t')*v.1)=(s+t)*(s'*a.1+t'*b.1):=by rw[k4]
  have e2:(s'+t')*((s+t)*u.1)=(s'+t')*(s*a.1+t*b.1):=by rw[h4]
  grind
 have d2:(s+t)*(s'+t')*(v.2-u.2)=((s+t)*t'-(s'+t')*t)*(b.2-a.2):=by
  have e1:(s+t)*((s'+t')*v.2)=(s+t)*(s'*a.2+t'*b.2):=by rw[k5]
  have e2:(s'+t')*((s+t)*u.2)=(s'+t')*(s*a.2+t*b.2):=by rw[h5]
  grind
 have f1:(s+t)*(a.1-u.1)=(-t)*(b.1-a.1):=by grind
 have f2:(s+t)*(a.2-u.2)=(-t)*(b.2-a.2):=by grind
 have g1:(s+t)*(b.1-u.1)=s*(b.1-a.1):=by grind
 have g2:(s+t)*(b.2-u.2)=s*(b.2-a.2):=by grind
 have m:(s+t)*(s'+t')*(s+t)≠0:=by
  have:=Int.mul_pos (Int.mul_pos h3 k3) h3;omega
 generalize (s+t)*t'-(s'+t')*t=C at d1 d2
 generalize hL:s+t=L at *
 generalize hL':s'+t'=L' at *
 constructor
 ·refine dA m ?_
  have e:L*L'*L*aE u v a=(L*L'*(v.1-u.1))*(L*(a.2-u.2))-(L*L'*(v.2-u.2))*(L*(a.1-u.1)):=by simp only[aE];grind
  rw[e,d1,d2,f1,f2];grind
 ·refine dA m ?_
  have e:L*L'*L*aE u v b=(L*L'*(v.1-u.1))*(L*(b.2-u.2))-(L*L'*(v.2-u.2))*(L*(b.1-u.1)):=by simp only[aE];grind
  rw[e,d1,d2,g1,g2];grind
def H (p:List Pt) (i:Nat) (u:Pt):Bool:=eD p.length fun j=>!decide (j=i)&&hit (pt p j) (nx p j) u
section
variable {p : List Pt}
theorem j8 {a b:Bool} (h:(a ^^ b)=false):a=b:=by revert h;cases a<;>cases b<;>simp
theorem AV8 (S:eN p) {i:Nat} (hi:i<p.length) {u v:Pt} (hu:o4 (pt p i) (nx p i) u) (hv:o4 (pt p i) (nx p i) v):H p i u=H p i v:=by
 refine j8 ?_
 unfold H
 rw[←lT,fU (g:=fun j=>FR u v (pt p j) ^^ FR u v (pt p ((j+1) % p.length))) fun j hj=>?_]
 ·exact qL (fun j=>FR u v (pt p j)) p.length
 ·by_cases h:j=i
  ·subst h
   obtain ⟨z1,z2⟩:=EM hu.seg hv.seg
   rw[decide_eq_true rfl,lH z1,show pt p ((j+1) % p.length)=nx p j from rfl,lH z2];rfl
  ·rw[decide_eq_false h,Bool.not_false,Bool.true_and,Bool.true_and]
   exact DO (S.inner hi hj h hu hv)
theorem ABW {n i:Nat} (X:Bool):eD n (fun j=>decide (j=i)&&X)=(decide (i<n)&&X):=by
 induction n with
 | zero=>simp[eD]
 | succ n ih =>
  rw[eD,ih]
  by_cases h1:i<n
  ·rw[decide_eq_true h1,decide_eq_true (show i<n+1 by omega),decide_eq_false (show ¬ n=i by omega)];simp
  ·by_cases h2:n=i
   ·rw[decide_eq_false h1,decide_eq_true h2,decide_eq_true (show i<n+1 by omega)];simp
   ·rw[decide_eq_false h1,decide_eq_false h2,decide_eq_false (show ¬ i<n+1 by omega)];simp
theorem ANN (A B C D:Nat→Bool) (n:Nat):eD n (fun j=>A j ^^ (B j ^^ (C j ^^ D j)))=(eD n A ^^ (eD n B ^^ (eD n C ^^ eD n D))):=by
 rw[lT A fun j=>B j ^^ (C j ^^ D j),lT B fun j=>C j ^^ D j,lT C D]
theorem AV7 (S:eN p) {i:Nat} (hi:i<p.length) {u v:Pt} (hu:o4 (pt p i) (nx p i) u) (hv:o4 (nx p i) (lL p i) v):(H p i u ^^ H p ((i+1) % p.length) v)=(sg (pt p i) (nx p i) ^^ sg (nx p i) (lL p i)):=by
 obtain ⟨hk1,hk2⟩:=next_ne S.n3 hi
 have hk:(i+1) % p.length<p.length:=Nat.mod_lt _ (by omega)
 have ek:pt p ((i+1) % p.length)=nx p i:=rfl
 have ek2:nx p ((i+1) % p.length)=lL p i:=uP p i
 have hbc:nx p i≠lL p i:=by have:=S.ne _ hk;rwa[ek,ek2] at this
 have c:=AWJ (S.ne i hi) hbc (S.nf i hi) hu hv
 rw[←c]
 generalize hkk:(i+1) % p.length=k at *
 have zu:=EM hu.seg (sE.right (pt p i) (nx p i))
 have zv:=EM (sE.left (nx p i) (lL p i)) hv.seg
 have e:(H p i u ^^ H p k v)=eD p.length (fun j=>(FR u (nx p i) (pt p j) ^^ FR u (nx p i) (pt p ((j+1) % p.length))) ^^ ((FR (nx p i) v (pt p j) ^^ FR (nx p i) v (pt p ((j+1) % p.length))) ^^
   ((decide (j=i)&&(hit (pt p i) (nx p i) v ^^ FR (nx p i) v (pt p i))) ^^ (decide (j=k)&&(hit (nx p i) (lL p i) u ^^ FR u (nx p i) (lL p i)))))):=by
  unfold H
  rw[←lT]
  refine fU fun j hj=>?_
  rw[show pt p ((j+1) % p.length)=nx p j from rfl]
  by_cases h1:j=i
  ·subst h1
   rw[decide_eq_true rfl,decide_eq_false (fun h=>hk1 h.symm),lH zu.1,lH zu.2,lH (w:=nx p j) zv.1]
   cases hit (pt p j) (nx p j) v<;>cases FR (nx p j) v (pt p j)<;>rfl
  ·by_cases h2:j=k
   ·subst h2
    rw[decide_eq_false h1,decide_eq_true rfl,ek,ek2,lH zu.2,lH zv.1,lH zv.2]
    cases hit (nx p i) (lL p i) u<;>cases FR u (nx p i) (lL p i)<;>rfl
   ·rw[decide_eq_false h1,decide_eq_false h2]
    have q1:=DO (S.right hi hj h1 (by rw[hkk];exact h2) hu.r (MF _ _))
    have hv':GN (nx p k) (pt p k) v:=by rw[ek,ek2];exact hv.swap.r
    have hb':GN (nx p k) (pt p k) (nx p i):=by rw[ek,ek2];exact MF _ _
    have q2:=DO (S.left hk hj h2 (fun h=>h1 (AQ3 hj hi (by rw[←h,hkk]))) hb' hv')
    rw[←q1,←q2]
    cases hit (pt p j) (nx p j) u<;>cases hit (pt p j) (nx p j) v<;>cases hit (pt p j) (nx p j) (nx p i)<;>rfl
 rw[e,ANN,ABW,ABW,decide_eq_true hi,decide_eq_true hk,qL (fun j=>FR u (nx p i) (pt p j)) p.length,qL (fun j=>FR (nx p i) v (pt p j)) p.length]
 cases hit (pt p i) (nx p i) v<;>cases FR (nx p i) v (pt p i)<;>cases hit (nx p i) (lL p i) u<;>cases FR u (nx p i) (lL p i)<;>rfl
theorem AZA (S:eN p) (hm:∀ i,i<p.length→∃ m,o4 (pt p i) (nx p i) m):∃ κ:Bool,∀ i,i<p.length→∀ u,o4 (pt p i) (nx p i) u→(H p i u ^^ sg (pt p i) (nx p i))=κ:=by
 have h0:0<p.length:=by have:=S.n3;omega
 obtain ⟨m0,hm0⟩:=hm 0 h0
 refine ⟨H p 0 m0 ^^ sg (pt p 0) (nx p 0),fun i=>?_⟩
 induction i with
 | zero=>intro hi u hu;rw[AV8 S hi hu hm0]
 | succ i ih =>
  intro hi u hu
  have hi':i<p.length:=by omega
  obtain ⟨m,hmi⟩:=hm i hi'
  rw[←ih hi' m hmi]
  have e:(i+1) % p.length=i+1:=Nat.mod_eq_of_lt hi
  have en:nx p i=pt p (i+1):=by unfold nx;rw[e]
  have en2:lL p i=nx p (i+1):=by rw[←uP,e]
  have:=AV7 S hi' hmi (v:=u) (by rw[en,en2];exact hu)
  rw[e,en,en2] at this
  rw[en]
  revert this
  cases H p i m<;>cases H p (i+1) u<;>cases sg (pt p i) (pt p (i+1))<;>cases sg (pt p (i+1)) (nx p (i+1))<;>simp
end
def o5 (l:List (Int×Bool)) (x:Int):Nat:=(l.filter fun f=>decide (x<f.1)).length
def val:List (Int×Bool)→Int
 | []=>0
 | e::l=>(if e.2 then -e.1 else e.1)+val l
theorem yX:∀ (a b:List (Int×Bool)),val (a++b)=val a+val b
 | [],b=>by simp[val]
 | e::a,b=>by rw[List.cons_append,val,val,yX a b];omega
theorem ASH {a b:List (Int×Bool)} (h:a.Perm b):val a=val b:=by
 induction h with
 | nil=>rfl
 | cons x _ ih=>rw[val,val,ih]
 | swap x y l=>simp only[val];omega
 | trans _ _ h1 h2=>rw[h1,h2]
theorem AO5 {a b:List (Int×Bool)} (h:a.Perm b) (x:Int):o5 a x=o5 b x:=(h.filter _).length_eq
theorem AEH (a b:List (Int×Bool)) (x:Int):o5 (a++b) x=o5 a x+o5 b x:=by unfold o5;rw[List.filter_append,List.length_append]
def lM (n:Nat):Bool:=decide (n % 2=1)
theorem uQ (n:Nat):lM (n+1) = !lM n:=by
 unfold lM
 rcases Nat.mod_two_eq_zero_or_one n with h|h
 ·rw[h,decide_eq_true (show (n+1) % 2=1 by omega)];rfl
 ·rw[h,decide_eq_false (show ¬ (n+1) % 2=1 by omega)];rfl
theorem L0 (m n:Nat):lM (m+n)=(lM m ^^ lM n):=by
 induction n with
 | zero=>rw[Nat.add_zero,show lM 0=false from rfl,Bool.xor_false]
 | succ n ih=>rw[←Nat.add_assoc,uQ,uQ,ih];cases lM m<;>cases lM n<;>rfl
theorem AHQ:∀ (n:Nat) (l:List (Int×Bool)),l.length=2*n→l.Pairwise (fun a b=>b.1<a.1)→(∀ e∈l,lM (o5 l e.1)=e.2)→0≤val l∧(l≠[]→0<val l)
 | 0,l,hl,_,_=>by
  have:l=[]:=List.eq_nil_of_length_eq_zero (by omega)
  subst this;exact ⟨Int.le_refl 0,fun h=>absurd rfl h⟩
 | n+1,[],hl,_,_=>by (rw[List.length_nil] at hl;omega)
 | n+1,[e],hl,_,_=>by simp at hl;omega
 | n+1,e::f::l,hl,hp,hc=>by
  obtain ⟨p1,hp'⟩:=List.pairwise_cons.1 hp
  obtain ⟨p2,hp''⟩:=List.pairwise_cons.1 hp'
  have hfe:f.1<e.1:=p1 f (by simp)
  have none1:∀ (l:List (Int×Bool)) (x:Int),(∀ g∈l,g.1<x)→o5 l x=0:=fun l x h=>by
   unfold o5
   rw[List.length_eq_zero_iff,List.filter_eq_nil_iff]
   intro g hg
   have:=h g hg
   simp;omega
  have c1:o5 (e::f::l) e.1=0:=by
   unfold o5
   rw[List.length_eq_zero_iff,List.filter_eq_nil_iff]
   intro g hg
   rcases List.mem_cons.1 hg with rfl|hg
   ·simp
   ·have:=p1 g hg;simp;omega
  have c2:o5 (e::f::l) f.1=1:=by
   have:o5 (f::l) f.1=0:=by
    unfold o5
    rw[List.length_eq_zero_iff,List.filter_eq_nil_iff]
    intro g hg
    rcases List.mem_cons.1 hg with rfl|hg
    ·simp
    ·have:=p2 g hg;simp;omega
   unfold o5 at this ⊢
   rw[List.filter_cons,if_pos (by simpa using hfe),List.length_cons,this]
  have s1:e.2=false:=by rw[←hc e (by simp),c1];rfl
  have s2:f.2=true:=by rw[←hc f (by simp),c2];rfl
  have ih:=AHQ n l (by simp at hl;omega) hp'' fun g hg=>by
   have:=hc g (by simp[hg])
   have h1:g.1<e.1:=p1 g (by simp[hg])
   have h2:g.1<f.1:=p2 g hg
   have:o5 (e::f::l) g.1=o5 l g.1+1+1:=by
    unfold o5
    rw[List.filter_cons,if_pos (by simpa using h1),List.filter_cons,if_pos (by simpa using h2),List.length_cons,List.length_cons]
   rw[←hc g (by simp[hg]),this,uQ,uQ,Bool.not_not]
  rw[val,val,s1,s2]
  simp only[if_true]
  simp only[Bool.false_eq_true,if_false]
  have ih:=ih.1
  exact ⟨by omega,fun _=>by omega⟩
theorem A1 {l:List (Int×Bool)} (he:lM l.length=false) (hd:l.Pairwise fun a b=>a.1≠b.1) (hc:∀ e∈l,lM (o5 l e.1)=e.2):0≤val l∧(l≠[]→0<val l):=by
 let le:Int×Bool→Int×Bool→Bool:=fun a b=>decide (b.1≤a.1)
 have hperm:=List.mergeSort_perm l le
 have hs:(l.mergeSort le).Pairwise fun a b=>le a b=true:=List.pairwise_mergeSort (fun a b c h1 h2=>by
  simp only[le,decide_eq_true_eq] at *;omega) (fun a b=>by simp only[le,Bool.or_eq_true,decide_eq_true_eq];omega) l
 have hd':(l.mergeSort le).Pairwise fun a b=>a.1≠b.1:=(hperm.symm.pairwise_iff (R:=fun (a b:Int×Bool)=>a.1≠b.1) (fun h=>h.symm)).1 hd
 have hs':(l.mergeSort le).Pairwise fun a b=>b.1<a.1:=by
  refine (hs.and hd').imp fun {a b} h=>?_
  have h1:b.1≤a.1:=by simpa [le] using h.1
  have:=h.2
  omega
 rw[←ASH hperm]
 have hlen:(l.mergeSort le).length=2*(l.length / 2):=by
  rw[hperm.length_eq]
  unfold lM at he
  have:=of_decide_eq_false he
  omega
 have hv:=AHQ _ _ hlen hs' fun e hm=>by rw[AO5 hperm];exact hc e (hperm.mem_iff.1 hm)
 refine ⟨hv.1,fun hne=>hv.2 fun h=>hne ?_⟩
 have hl:=hperm.length_eq
 rw[h] at hl
 exact List.eq_nil_of_length_eq_zero hl.symm
def flip (l:List (Int×Bool)):List (Int×Bool):=l.map fun e=>(e.1,!e.2)
theorem ABU:∀ l:List (Int×Bool),val (flip l) = - val l
 | []=>rfl
 | e::l=>by
  show (if (!e.2) then -e.1 else e.1)+val (flip l) = -((if e.2 then -e.1 else e.1)+val l)
  rw[ABU l]
  cases e.2<;>simp<;>omega
theorem AO4 (l:List (Int×Bool)) (x:Int):o5 (flip l) x=o5 l x:=by
 unfold o5 flip
 rw[List.filter_map,List.length_map];rfl
theorem MA {l:List (Int×Bool)} (he:lM l.length=false) (hd:l.Pairwise fun a b=>a.1≠b.1) (hc:∀ e∈l,(lM (o5 l e.1) ^^ e.2)=true):val l≤0∧(l≠[]→val l<0):=by
 have:=A1 (l:=flip l) (by unfold flip;rw[List.length_map];exact he) (by unfold flip;rw[List.pairwise_map];exact hd) fun e hm=>by
  obtain ⟨f,hf,rfl⟩:=List.mem_map.1 hm
  have h:=hc f hf
  dsimp only
  rw[AO4]
  revert h
  cases lM (o5 l f.1)<;>cases f.2<;>simp
 rw[ABU] at this
 refine ⟨by have:=this.1;omega,fun hne=>?_⟩
 have:=this.2 (by unfold flip;intro h;exact hne (List.map_eq_nil_iff.1 h))
 omega
def fac:Nat→Nat
 | 0=>1
 | n+1=>fac n*(n+1)
theorem SP:∀ n,0<fac n
 | 0=>by decide
 | n+1=>Nat.mul_pos (SP n) (by omega)
theorem AHY:∀ {n d:Nat},1≤d→d≤n→d ∣ fac n
 | 0,d,h1,h2=>by omega
 | n+1,d,h1,h2=>by
  rcases Nat.lt_or_ge d (n+1) with h|h
  ·exact Nat.dvd_trans (AHY h1 (by omega)) ⟨n+1,rfl⟩
  ·have:d=n+1:=by omega
   subst this
   exact ⟨fac n,Nat.mul_comm _ _⟩
def sc (N:Int) (a:Pt):Pt:=(N*a.1,N*a.2)
def cr (a b:Pt) (k:Int):Bool:=(decide (a.2≤k)&&decide (k<b.2))||(decide (b.2≤k)&&decide (k<a.2))
def rx (M:Int) (a b:Pt) (k:Int):Int:=2*M*a.1+(b.1-a.1)*(M / (b.2-a.2))*(2*(k-a.2)+1)
def ru (M:Int) (a b:Pt) (k:Int):Pt:=(rx M a b k,2*M*k+M)
def Mul (M:Int) (a b:Pt):Prop:=a.2≠b.2→M / (b.2-a.2)*(b.2-a.2)=M
theorem EK {M:Int} {a b:Pt} {k:Int} (hM:0<M) (hd:Mul M a b) (hc:cr a b k=true):o4 (sc (2*M) a) (sc (2*M) b) (ru M a b k):=by
 unfold cr at hc
 simp only[Bool.or_eq_true,Bool.and_eq_true,decide_eq_true_eq] at hc
 have he:=hd (by omega)
 generalize M / (b.2-a.2)=e at he
 have hre:rx M a b k=2*M*a.1+(b.1-a.1)*e*(2*(k-a.2)+1):=by
  unfold rx
  have:M / (b.2-a.2)=e:=by
   rw[←he];exact Int.mul_ediv_cancel _ (by omega)
  rw[this]
 have hw:0<e*(2*(k-a.2)+1)∧e*(2*(k-a.2)+1)<2*M:=by
  rcases hc with ⟨h1,h2⟩|⟨h1,h2⟩
  ·have hep:0<e:=by
    refine oW (a:=b.2-a.2) (by rw[Int.mul_comm,he];exact hM) (by omega)
   refine ⟨Int.mul_pos hep (by omega),?_⟩
   have:e*(2*(k-a.2)+1)<e*(2*(b.2-a.2)):=Int.mul_lt_mul_of_pos_left (by omega) hep
   have e2:e*(2*(b.2-a.2))=2*M:=by rw[←he];grind
   omega
  ·have hep:0 < -e:=by
    refine oW (a:=a.2-b.2) ?_ (by omega)
    have:(a.2-b.2) * -e=M:=by rw[←he];grind
    omega
   have e1:e*(2*(k-a.2)+1)=(-e)*(2*(a.2-k)-1):=by grind
   rw[e1]
   refine ⟨Int.mul_pos hep (by omega),?_⟩
   have:(-e)*(2*(a.2-k)-1)<(-e)*(2*(a.2-b.2)):=Int.mul_lt_mul_of_pos_left (by omega) hep
   have e2:(-e)*(2*(a.2-b.2))=2*M:=by rw[←he];grind
   omega
 refine ⟨2*M-e*(2*(k-a.2)+1),e*(2*(k-a.2)+1),by omega,hw.1,?_,?_⟩
 ·show _*rx M a b k=_*(2*M*a.1)+_*(2*M*b.1)
  rw[hre];grind
 ·show _*(2*M*k+M)=_*(2*M*a.2)+_*(2*M*b.2)
  have:e*(2*(k-a.2)+1)*(b.2-a.2)=M*(2*(k-a.2)+1):=by
   rw[←he];grind
  grind
theorem AH6 {M:Int} {a b c d:Pt} {k:Int} (hM:0<M) (hd:Mul M c d):hit (sc (2*M) c) (sc (2*M) d) (ru M a b k)=(cr c d k&&decide (rx M a b k<rx M c d k)):=by
 have h1:∀ y:Int,(2*M*y≤2*M*k+M↔y≤k):=fun y=>by
  constructor
  ·intro h
   rcases Int.lt_or_le k y with h'|h'
   ·have:=Int.mul_le_mul_of_nonneg_left (show k+1≤y by omega) (show 0≤2*M by omega)
    have e:2*M*(k+1)=2*M*k+2*M:=by grind
    omega
   ·exact h'
  ·intro h
   have:=Int.mul_le_mul_of_nonneg_left h (show 0≤2*M by omega)
   omega
 have h2:∀ y:Int,(2*M*k+M<2*M*y↔k<y):=fun y=>by
  have:=h1 y;omega
 by_cases hc:cr c d k=true
 ·have hs:=(EK hM hd hc).seg.AVK
  have key:aE (sc (2*M) c) (sc (2*M) d) (ru M a b k)=2*M*(d.2-c.2)*(rx M c d k-rx M a b k):=by
   simp only[aE,sc,ru] at hs ⊢
   grind
  unfold hit
  rw[key]
  unfold cr at hc ⊢
  simp only[Bool.or_eq_true,Bool.and_eq_true,decide_eq_true_eq] at hc
  show (decide (2*M*c.2≤2*M*k+M)&&decide (2*M*k+M<2*M*d.2)&&_||decide (2*M*d.2≤2*M*k+M)&&decide (2*M*k+M<2*M*c.2)&&_)=_
  rw[decide_eq_decide.2 (h1 c.2),decide_eq_decide.2 (h1 d.2),decide_eq_decide.2 (h2 c.2),decide_eq_decide.2 (h2 d.2)]
  rcases hc with ⟨x1,x2⟩|⟨x1,x2⟩
  ·have sgn1:(0<2*M*(d.2-c.2)*(rx M c d k-rx M a b k))↔rx M a b k<rx M c d k:=by
    have hp:0<2*M*(d.2-c.2):=Int.mul_pos (by omega) (by omega)
    constructor
    ·intro h;have:=oW (a:=2*M*(d.2-c.2)) h hp;omega
    ·intro h;exact Int.mul_pos hp (by omega)
   rw[decide_eq_true x1,decide_eq_true x2,decide_eq_false (show ¬ d.2≤k by omega),show decide (0<2*M*(d.2-c.2)*(rx M c d k-rx M a b k))=decide (rx M a b k<rx M c d k) from decide_eq_decide.2 sgn1]
   simp
  ·have sgn1:(2*M*(d.2-c.2)*(rx M c d k-rx M a b k)<0)↔rx M a b k<rx M c d k:=by
    have hp:0<2*M*(c.2-d.2):=Int.mul_pos (by omega) (by omega)
    have e:2*M*(d.2-c.2)*(rx M c d k-rx M a b k) = -(2*M*(c.2-d.2)*(rx M c d k-rx M a b k)):=by grind
    rw[e]
    constructor
    ·intro h;have:=oW (a:=2*M*(c.2-d.2)) (b:=rx M c d k-rx M a b k) (by omega) hp;omega
    ·intro h;have:=Int.mul_pos hp (show 0<rx M c d k-rx M a b k by omega);omega
   rw[decide_eq_true x1,decide_eq_true x2,decide_eq_false (show ¬ c.2≤k by omega),show decide (2*M*(d.2-c.2)*(rx M c d k-rx M a b k)<0)=decide (rx M a b k<rx M c d k) from decide_eq_decide.2 sgn1]
   simp
 ·have hc:cr c d k=false:=by simpa using hc
  rw[hc,Bool.false_and]
  unfold cr at hc
  simp only[Bool.or_eq_false_iff] at hc
  unfold hit
  show (decide (2*M*c.2≤2*M*k+M)&&decide (2*M*k+M<2*M*d.2)&&_||decide (2*M*d.2≤2*M*k+M)&&decide (2*M*k+M<2*M*c.2)&&_)=_
  rw[decide_eq_decide.2 (h1 c.2),decide_eq_decide.2 (h1 d.2),decide_eq_decide.2 (h2 c.2),decide_eq_decide.2 (h2 d.2),hc.1,hc.2]
  rfl
def lX (M:Int) (p:List Pt) (k:Int):List (Int×Bool):=((List.range p.length).filter fun i=>cr (pt p i) (nx p i) k).map fun i=>(rx M (pt p i) (nx p i) k,sg (pt p i) (nx p i))
theorem M6 (f:Nat→Bool):∀ n:Nat,eD n f=lM ((List.range n).filter f).length
 | 0=>rfl
 | n+1=>by
  rw[eD,M6 f n,List.range_succ,List.filter_append,List.length_append,L0]
  congr 1
  cases h:f n
  ·rw[List.filter_cons,if_neg (by rw[h];decide)];rfl
  ·rw[List.filter_cons,if_pos h];rfl
theorem AWK (a b:Pt) (k:Int):cr a b k=(decide (a.2≤k) ^^ decide (b.2≤k)):=by
 unfold cr
 rcases Int.lt_or_le k a.2 with h1|h1<;>rcases Int.lt_or_le k b.2 with h2|h2
 ·rw[decide_eq_false (show ¬ a.2≤k by omega),decide_eq_false (show ¬ b.2≤k by omega)];rfl
 ·rw[decide_eq_false (show ¬ a.2≤k by omega),decide_eq_true h2,decide_eq_true h1];rfl
 ·rw[decide_eq_false (show ¬ b.2≤k by omega),decide_eq_true h2,decide_eq_true h1];rfl
 ·rw[decide_eq_true h1,decide_eq_true h2,decide_eq_false (show ¬ k<b.2 by omega),decide_eq_false (show ¬ k<a.2 by omega)];rfl
theorem kS (M:Int) (p:List Pt) (k:Int):lM (lX M p k).length=false:=by
 unfold lX
 rw[List.length_map,←M6,fU (g:=fun i=>decide ((pt p i).2≤k) ^^ decide ((pt p ((i+1) % p.length)).2≤k)) fun i _=>AWK (pt p i) (nx p i) k]
 exact qL (fun i=>decide ((pt p i).2≤k)) p.length
def QA (N:Int) (p:List Pt):List Pt:=p.map (sc N)
theorem iZ (N:Int) (p:List Pt):(QA N p).length=p.length:=List.length_map ..
theorem iJ (N:Int) (p:List Pt) (i:Nat):pt (QA N p) i=sc N (pt p i):=by
 unfold pt QA
 rw[List.getD_eq_getElem?_getD,List.getD_eq_getElem?_getD,List.getElem?_map]
 cases h:p[i]? with
 | none=>simp[sc]
 | some a=>rfl
theorem j5 (N:Int) (p:List Pt) (i:Nat):nx (QA N p) i=sc N (nx p i):=by unfold nx;rw[iZ,iJ]
theorem AUD (N:Int) (p:List Pt) (i:Nat):lL (QA N p) i=sc N (lL p i):=by unfold lL;rw[iZ,iJ]
theorem AXU {N:Int} (hN:0<N) {a b:Pt} (h:sc N a=sc N b):a=b:=by
 have h1:=congrArg Prod.fst h;have h2:=congrArg Prod.snd h
 have h1:N*a.1=N*b.1:=h1
 have h2:N*a.2=N*b.2:=h2
 exact Prod.ext (Int.eq_of_mul_eq_mul_left (by omega) h1) (Int.eq_of_mul_eq_mul_left (by omega) h2)
theorem YL (N:Int) (a b c:Pt):aE (sc N a) (sc N b) (sc N c)=N*N*aE a b c:=by simp only[aE,sc];grind
theorem AWL (N:Int) (a b c:Pt):j0 (sc N a) (sc N b) (sc N c)=N*N*j0 a b c:=by simp only[j0,sc];grind
theorem AEJ {N:Int} (hN:0<N) {a b c d:Pt} (h:HU (sc N a) (sc N b) (sc N c) (sc N d)):HU a b c d:=by
 obtain ⟨s,t,s',t',h1,h2,h3,h4,h5,h6,h7,h8⟩:=h
 simp only[sc] at h7 h8
 refine ⟨s,t,s',t',h1,h2,h3,h4,h5,h6,?_,?_⟩
 ·refine Int.eq_of_mul_eq_mul_left (a:=N) (by omega) ?_;grind
 ·refine Int.eq_of_mul_eq_mul_left (a:=N) (by omega) ?_;grind
theorem eN.QA {p:List Pt} (S:eN p) {N:Int} (hN:0<N):eN (QA N p):=by
 refine ⟨by rw[iZ];exact S.n3,fun i hi=>?_,fun i hi=>?_,fun i k hi hk h1 h2 h3=>?_⟩
 ·rw[iZ] at hi
  rw[iJ,j5]
  exact fun h=>S.ne i hi (AXU hN h)
 ·rw[iZ] at hi
  rw[iJ,j5,AUD,YL,AWL]
  have hNN:0<N*N:=Int.mul_pos hN hN
  rintro ⟨h1,h2⟩
  exact S.nf i hi ⟨dA (by omega) h1,oW h2 hNN⟩
 ·rw[iZ] at *
  rw[iJ,j5,iJ,j5]
  exact fun h=>S.ap i k hi hk h1 h2 h3 (AEJ hN h)
def J9 (M:Int) (p:List Pt):Prop:=0<M∧∀ i,Mul M (pt p i) (nx p i)
section
variable {M : Int} {p : List Pt}
theorem SJ (hM:J9 M p) {c d:Pt} {k:Int}:lM (o5 (lX M p k) (rx M c d k))=eH (QA (2*M) p) (ru M c d k):=by
 unfold eH
 rw[iZ,fU (g:=fun i=>cr (pt p i) (nx p i) k&&decide (rx M c d k<rx M (pt p i) (nx p i) k)) fun i _=>by rw[iJ,j5,AH6 hM.1 (hM.2 i)],M6]
 unfold o5 lX
 rw[List.filter_map,List.length_map,List.filter_filter]
 refine congrArg (fun l=>lM (List.length l)) (List.filter_congr fun i _=>?_)
 simp[Function.comp,Bool.and_comm]
theorem AWY (hM:J9 M p) {i:Nat} (hi:i<p.length) {k:Int}:eH (QA (2*M) p) (ru M (pt p i) (nx p i) k)=H (QA (2*M) p) i (ru M (pt p i) (nx p i) k):=by
 unfold eH H
 refine fU fun j _=>?_
 by_cases h:j=i
 ·subst h
  rw[decide_eq_true rfl,iJ,j5,AH6 hM.1 (hM.2 j),decide_eq_false (show ¬ rx M (pt p j) (nx p j) k<rx M (pt p j) (nx p j) k by omega)]
  simp
 ·rw[decide_eq_false h];rfl
theorem AXV {a b:Pt} {N:Int} (hN:0<N):sg (sc N a) (sc N b)=sg a b:=by
 unfold sg
 have l:∀ {x y:Int},(N*x<N*y↔x<y):=fun {x y}=>by
  constructor
  ·intro h;exact Int.lt_of_mul_lt_mul_left h (by omega)
  ·intro h;exact Int.mul_lt_mul_of_pos_left h hN
 have e:∀ {x y:Int},(N*x=N*y↔x=y):=fun {x y}=>by
  constructor
  ·intro h;exact Int.eq_of_mul_eq_mul_left (by omega) h
  ·intro h;rw[h]
 show (decide (N*b.2<N*a.2)||(decide (N*b.2=N*a.2)&&decide (N*a.1<N*b.1)))=_
 rw[decide_eq_decide.2 l,decide_eq_decide.2 e,decide_eq_decide.2 l]
theorem AT7 {M:Int} (a b:Pt):o4 (sc (2*M) a) (sc (2*M) b) (M*(a.1+b.1),M*(a.2+b.2)):=by
 refine ⟨1,1,by omega,by omega,?_,?_⟩
 ·show (1+1)*(M*(a.1+b.1))=1*(2*M*a.1)+1*(2*M*b.1);grind
 ·show (1+1)*(M*(a.2+b.2))=1*(2*M*a.2)+1*(2*M*b.2);grind
theorem AGX (S:eN p) (hM:J9 M p):∃ κ:Bool,∀ k i,i<p.length→cr (pt p i) (nx p i) k=true→(eH (QA (2*M) p) (ru M (pt p i) (nx p i) k) ^^ sg (pt p i) (nx p i))=κ:=by
 have hN:0<2*M:=by have:=hM.1;omega
 obtain ⟨κ,hκ⟩:=AZA (S.QA hN) (fun i hi=>⟨_,by rw[iJ,j5];exact AT7 _ _⟩)
 refine ⟨κ,fun k i hi hc=>?_⟩
 have:=hκ i (by rw[iZ];exact hi) (ru M (pt p i) (nx p i) k) (by rw[iJ,j5];exact EK hM.1 (hM.2 i) hc)
 rw[iJ,j5,AXV hN] at this
 rw[AWY hM hi]
 exact this
theorem P7 {a b c d:Pt} {k:Int} (hM:0<M) (h1:Mul M a b) (h2:Mul M c d) (c1:cr a b k=true) (c2:cr c d k=true) (hm:bJ (sc (2*M) c) (sc (2*M) d) (ru M a b k) (ru M a b k)=false):rx M a b k≠rx M c d k:=by
 intro h
 have e:ru M a b k=ru M c d k:=by unfold ru;rw[h]
 have o:=(EK hM h2 c2).seg.on
 rw[←e] at o
 rw[(nN hm).1] at o;cases o
theorem jI (S:eN p) (hM:J9 M p) (k:Int):(lX M p k).Pairwise fun a b=>a.1≠b.1:=by
 have hN:0<2*M:=by have:=hM.1;omega
 unfold lX
 rw[List.pairwise_map,List.pairwise_filter]
 refine (List.nodup_range (n:=p.length)).imp_of_mem fun {i j} hi hj hij=>fun c1 c2=>?_
 have hi:=List.mem_range.1 hi
 have hj:=List.mem_range.1 hj
 refine P7 hM.1 (hM.2 i) (hM.2 j) c1 c2 ?_
 have s:=EK hM.1 (hM.2 i) c1
 have:=(S.QA hN).inner (i:=i) (j:=j) (by rw[iZ];exact hi) (by rw[iZ];exact hj) (fun h=>hij h.symm) (u:=ru M (pt p i) (nx p i) k) (v:=ru M (pt p i) (nx p i) k) (by rw[iJ,j5];exact s) (by rw[iJ,j5];exact s)
 rwa[iJ,j5] at this
theorem tC {e:Int×Bool} {k:Int} (h:e∈lX M p k):∃ i,i<p.length∧cr (pt p i) (nx p i) k=true∧e=(rx M (pt p i) (nx p i) k,sg (pt p i) (nx p i)):=by
 unfold lX at h
 obtain ⟨i,hi,rfl⟩:=List.mem_map.1 h
 obtain ⟨h1,h2⟩:=List.mem_filter.1 hi
 exact ⟨i,List.mem_range.1 h1,h2,rfl⟩
end
theorem fB {f g:Nat→Int}:∀ {n:Nat},(∀ i,i<n→f i=g i)→cE n f=cE n g
 | 0,_=>rfl
 | n+1,h=>by rw[cE,cE,fB fun i hi=>h i (by omega),h n (by omega)]
theorem n8 (f g:Nat→Int):∀ n,cE n (fun i=>f i+g i)=cE n f+cE n g
 | 0=>rfl
 | n+1=>by rw[cE,cE,cE,n8 f g n];omega
theorem n9 (c:Int) (f:Nat→Int):∀ n,cE n (fun i=>c*f i)=c*cE n f
 | 0=>by simp[cE]
 | n+1=>by rw[cE,cE,n9 c f n,Int.mul_add]
theorem vN:∀ n,cE n (fun _=>0)=0
 | 0=>rfl
 | n+1=>by rw[cE,vN n];rfl
theorem QK (f:Nat→Nat→Int) (m:Nat):∀ n,cE n (fun i=>cE m (fun j=>f i j))=cE m (fun j=>cE n (fun i=>f i j))
 | 0=>(vN m).symm
 | n+1=>by
  rw[cE,QK f m n,←n8];rfl
theorem yV (f:Nat→Int):∀ n,cE (n+1) f=f 0+cE n (fun i=>f (i+1))
 | 0=>by simp[cE]
 | n+1=>by rw[cE,yV f n,cE];omega
theorem ABR (d:Nat→Int) (n:Nat):cE n (fun i=>d ((i+1) % n))=cE n d:=by
 cases n with
 | zero=>rfl
 | succ m =>
  rw[yV d m,cE,Nat.mod_self]
  rw[fB (g:=fun i=>d (i+1)) fun i hi=>by rw[Nat.mod_eq_of_lt (by omega)]]
  omega
theorem FK (F:Int→Int) (K:Int):∀ n:Nat,cE n (fun j=>F ((j:Int)-K+1)-F ((j:Int)-K))=F ((n:Int)-K)-F (-K)
 | 0=>by simp[cE]
 | n+1=>by
  rw[cE,FK F K n,show ((n+1:Nat):Int)-K=(n:Int)-K+1 by omega]
  omega
theorem B4 {f:Nat→Int}:∀ {n:Nat},(∀ i,i<n→0≤f i)→0≤cE n f
 | 0,_=>Int.le_refl 0
 | n+1,h=>by
  have:=B4 (n:=n) fun i hi=>h i (by omega)
  have:=h n (by omega)
  unfold cE;omega
def ge (M:Int) (a b:Pt) (k:Int):Int:=if cr a b k=true then (if sg a b=true then-rx M a b k else rx M a b k) else 0
theorem ASI (M:Int) (p:List Pt) (k:Int):val (lX M p k)=cE p.length fun i=>ge M (pt p i) (nx p i) k:=by
 unfold lX
 generalize p.length=n
 induction n with
 | zero=>rfl
 | succ n ih =>
  rw[List.range_succ,List.filter_append,List.map_append,yX,ih,cE]
  congr 1
  unfold ge
  by_cases h:cr (pt p n) (nx p n) k=true
  ·rw[if_pos h,List.filter_cons,if_pos h]
   simp[val]
  ·rw[if_neg h,List.filter_cons,if_neg h]
   rfl
def jM (lo hi k:Int):Int:=if k≤lo then lo else if hi≤k then hi else k
theorem AKB {M:Int} {a b:Pt} (hM:0<M) (hd:Mul M a b) {K:Int} {n:Nat} (ha:-K≤a.2∧a.2≤(n:Int)-K) (hb:-K≤b.2∧b.2≤(n:Int)-K) :
  cE n (fun j=>ge M a b ((j:Int)-K))=M*((a.1+b.1)*(b.2-a.2)):=by
 by_cases h:a.2=b.2
 ·rw[h,Int.sub_self,Int.mul_zero,Int.mul_zero,fB (g:=fun _=>0) fun i _=>?_,vN]
  unfold ge cr
  rw[if_neg]
  simp only[Bool.or_eq_true,Bool.and_eq_true,decide_eq_true_eq]
  omega
 ·have he:=hd h
  generalize hE:M / (b.2-a.2)=E at he
  have hx:∀ k,rx M a b k=2*M*a.1+(b.1-a.1)*E*(2*(k-a.2)+1):=fun k=>by unfold rx;rw[hE]
  let S:Int→Int:=fun y=>2*M*a.1*y+(b.1-a.1)*E*(y*y)
  have hS:∀ y,S (y+1)-S y=2*M*a.1+(b.1-a.1)*E*(2*y+1):=fun y=>by simp only[S];grind
  have fin:S (b.2-a.2)=M*((a.1+b.1)*(b.2-a.2)):=by
   simp only[S]
   have:(b.1-a.1)*E*((b.2-a.2)*(b.2-a.2))=(b.1-a.1)*(E*(b.2-a.2))*(b.2-a.2):=by grind
   rw[this,he];grind
  rcases Int.lt_or_lt_of_ne h with hlt|hlt
  ·let F:Int→Int:=fun k=>S (jM a.2 b.2 k-a.2)
   rw[fB (g:=fun j=>F ((j:Int)-K+1)-F ((j:Int)-K)) fun j _=>?_,FK F K n]
   ·have e1:F ((n:Int)-K)=S (b.2-a.2):=by
     simp only[F];unfold jM;rw[if_neg (by omega),if_pos (by omega)]
    have e2:F (-K)=0:=by
     simp only[F];unfold jM;rw[if_pos (by omega),Int.sub_self];simp[S]
    rw[e1,e2,fin];omega
   ·generalize (j:Int)-K=k
    have hsg:sg a b=false:=by unfold sg;rw[decide_eq_false (show ¬ b.2<a.2 by omega),decide_eq_false (show ¬ b.2=a.2 by omega)];rfl
    unfold ge
    by_cases hc:cr a b k=true
    ·rw[if_pos hc,hsg]
     simp only[Bool.false_eq_true,if_false]
     unfold cr at hc
     simp only[Bool.or_eq_true,Bool.and_eq_true,decide_eq_true_eq] at hc
     have hk:a.2≤k∧k<b.2:=by omega
     have c1:jM a.2 b.2 k=k:=by unfold jM;split;omega;split<;>omega
     have c2:jM a.2 b.2 (k+1)=k+1:=by unfold jM;split;omega;split<;>omega
     simp only[F]
     rw[c1,c2,hx,←hS,show k+1-a.2=k-a.2+1 by omega]
    ·rw[if_neg hc]
     unfold cr at hc
     simp only[Bool.or_eq_true,Bool.and_eq_true,decide_eq_true_eq] at hc
     have c1:jM a.2 b.2 (k+1)=jM a.2 b.2 k:=by unfold jM;repeat' split<;>omega
     simp only[F]
     rw[c1];omega
  ·let F:Int→Int:=fun k=>-S (jM b.2 a.2 k-a.2)
   rw[fB (g:=fun j=>F ((j:Int)-K+1)-F ((j:Int)-K)) fun j _=>?_,FK F K n]
   ·have e1:F ((n:Int)-K)=0:=by
     simp only[F];unfold jM;rw[if_neg (by omega),if_pos (by omega),Int.sub_self];simp[S]
    have e2:F (-K) = -S (b.2-a.2):=by
     simp only[F];unfold jM;rw[if_pos (by omega)]
    rw[e1,e2,fin];omega
   ·generalize (j:Int)-K=k
    have hsg:sg a b=true:=by unfold sg;rw[decide_eq_true hlt];rfl
    unfold ge
    by_cases hc:cr a b k=true
    ·rw[if_pos hc,hsg]
     simp only[if_true]
     unfold cr at hc
     simp only[Bool.or_eq_true,Bool.and_eq_true,decide_eq_true_eq] at hc
     have hk:b.2≤k∧k<a.2:=by omega
     have c1:jM b.2 a.2 k=k:=by unfold jM;split;omega;split<;>omega
     have c2:jM b.2 a.2 (k+1)=k+1:=by unfold jM;split;omega;split<;>omega
     simp only[F]
     rw[c1,c2,hx,←hS,show k+1-a.2=k-a.2+1 by omega]
     omega
    ·rw[if_neg hc]
     unfold cr at hc
     simp only[Bool.or_eq_true,Bool.and_eq_true,decide_eq_true_eq] at hc
     have c1:jM b.2 a.2 (k+1)=jM b.2 a.2 k:=by unfold jM;repeat' split<;>omega
     simp only[F]
     rw[c1];omega
def tZ (K:Int) (n:Nat) (p:List Pt):Prop:=∀ i,-K≤(pt p i).2∧(pt p i).2≤(n:Int)-K
theorem AJY (p:List Pt):dU p=cE p.length fun i=>((pt p i).1+(nx p i).1)*((nx p i).2-(pt p i).2):=by
 have h:=ABR (fun i=>(pt p i).1*(pt p i).2) p.length
 have e:cE p.length (fun i=>((pt p i).1+(nx p i).1)*((nx p i).2-(pt p i).2))=cE p.length (fun i=>yE p i+(pt p ((i+1) % p.length)).1*(pt p ((i+1) % p.length)).2)+cE p.length (fun i=>(-1)*((pt p i).1*(pt p i).2)):=by
  rw[←n8]
  refine fB fun i _=>?_
  show ((pt p i).1+(nx p i).1)*((nx p i).2-(pt p i).2)=(pt p i).1*(nx p i).2-(nx p i).1*(pt p i).2+(nx p i).1*(nx p i).2+(-1)*((pt p i).1*(pt p i).2)
  grind
 rw[e,n8,n9,h]
 unfold dU
 omega
theorem DH {M:Int} {p:List Pt} (hM:J9 M p) {K:Int} {n:Nat} (hh:tZ K n p):M*dU p=cE n fun j=>val (lX M p ((j:Int)-K)):=by
 rw[fB (g:=fun j=>cE p.length fun i=>ge M (pt p i) (nx p i) ((j:Int)-K)) fun j _=>ASI M p _,←QK,AJY,←n9]
 exact (fB fun i _=>AKB hM.1 (hM.2 i) (hh _) (hh _)).symm
def M4:List Bool→Bool
 | []=>false
 | a::l=>a ^^ M4 l
def kX:List Int→Int
 | []=>0
 | a::l=>a+kX l
theorem ABT (f:List Pt→List (Int×Bool)):∀ cs:List (List Pt),val (cs.flatMap f)=kX (cs.map fun p=>val (f p))
 | []=>rfl
 | p::cs=>by rw[List.flatMap_cons,yX,ABT f cs];rfl
theorem AAX (f:List Pt→List (Int×Bool)):∀ cs:List (List Pt),lM (cs.flatMap f).length=M4 (cs.map fun p=>lM (f p).length)
 | []=>rfl
 | p::cs=>by rw[List.flatMap_cons,List.length_append,L0,AAX f cs];rfl
theorem YI (f:List Pt→List (Int×Bool)) (x:Int):∀ cs:List (List Pt),lM (o5 (cs.flatMap f) x)=M4 (cs.map fun p=>lM (o5 (f p) x))
 | []=>rfl
 | p::cs=>by rw[List.flatMap_cons,AEH,L0,YI f x cs];rfl
theorem rU:∀ {l:List Bool},(∀ a∈l,a=false)→M4 l=false
 | [],_=>rfl
 | a::l,h=>by rw[M4,h a (by simp),rU fun b hb=>h b (by simp[hb])];rfl
def lU (p q:List Pt):Prop:=∀ i j,i<p.length→j<q.length→¬ HU (pt p i) (nx p i) (pt q j) (nx q j)
theorem lU.symm {p q:List Pt} (h:lU p q):lU q p:=fun i j hi hj hc=>h j i hj hi hc.symm
section
variable {M : Int} {p q : List Pt}
theorem xC (hA:lU p q) (hM:J9 M q) {i:Nat} (hi:i<q.length) {k:Int} (hc:cr (pt q i) (nx q i) k=true):eH (QA (2*M) p) (ru M (pt q i) (nx q i) k)=eH (QA (2*M) p) (sc (2*M) (pt q i)):=by
 have hN:0<2*M:=by have:=hM.1;omega
 refine xB fun j hj=>?_
 rw[iZ] at hj
 rw[iJ,j5]
 exact tB (fun h=>hA j i hj hi (AEJ hN h).symm) (EK hM.1 (hM.2 i) hc).seg (sE.left _ _)
theorem AWX {N:Int} (hN:0<N) (a b q:Pt):hit (sc N a) (sc N b) (sc N q)=hit a b q:=by
 unfold hit
 rw[YL]
 have l:∀ {x y:Int},(N*x<N*y↔x<y):=fun {x y}=>⟨fun h=>Int.lt_of_mul_lt_mul_left h (by omega),fun h=>Int.mul_lt_mul_of_pos_left h hN⟩
 have m:∀ {x y:Int},(N*x≤N*y↔x≤y):=fun {x y}=>⟨fun h=>Int.le_of_mul_le_mul_left h hN,fun h=>Int.mul_le_mul_of_nonneg_left h (by omega)⟩
 have hNN:0<N*N:=Int.mul_pos hN hN
 have c1:(0<N*N*aE a b q)↔0<aE a b q:=⟨fun h=>oW h hNN,fun h=>Int.mul_pos hNN h⟩
 have c2:(N*N*aE a b q<0)↔aE a b q<0:=by
  constructor
  ·intro h
   have:=oW (a:=N*N) (b:=- aE a b q) (by rw[Int.mul_neg];omega) hNN
   omega
  ·intro h;exact Int.mul_neg_of_pos_of_neg hNN h
 show (decide (N*a.2≤N*q.2)&&decide (N*q.2<N*b.2)&&_||decide (N*b.2≤N*q.2)&&decide (N*q.2<N*a.2)&&_)=_
 rw[decide_eq_decide.2 m,decide_eq_decide.2 l,decide_eq_decide.2 m,decide_eq_decide.2 l,decide_eq_decide.2 c1,decide_eq_decide.2 c2]
theorem TL {N:Int} (hN:0<N) (p:List Pt) (q:Pt):eH (QA N p) (sc N q)=eH p q:=by
 unfold eH
 rw[iZ]
 exact fU fun i _=>by rw[iJ,j5,AWX hN]
theorem q9 (hA:lU p q) (hp:∀ i,i<p.length→pt p i≠nx p i):∀ i,i<q.length→eH p (pt q i)=eH p (pt q 0)
 | 0,_=>rfl
 | i+1,hi=>by
  rw[←q9 hA hp i (by omega)]
  have e:pt q (i+1)=nx q i:=by unfold nx;rw[Nat.mod_eq_of_lt hi]
  rw[e]
  symm
  refine xB fun j hj=>?_
  exact tB (fun h=>hA j i hj (by omega) h.symm) (sE.left _ _) (sE.right _ _)
theorem DI (S:eN p) (hM:J9 M p) {K:Int} {n:Nat} (hh:tZ K n p):∃ κ:Bool,(∀ k i,i<p.length→cr (pt p i) (nx p i) k=true→(eH (QA (2*M) p) (ru M (pt p i) (nx p i) k) ^^ sg (pt p i) (nx p i))=κ)∧(κ=false→0≤dU p)∧(κ=true→dU p≤0):=by
 obtain ⟨κ,hκ⟩:=AGX S hM
 have har:=DH hM hh
 have pos:=hM.1
 have key:∀ k e,e∈lX M p k→(lM (o5 (lX M p k) e.1) ^^ e.2)=κ:=fun k e he=>by
  obtain ⟨i,hi,hc,rfl⟩:=tC he
  dsimp only
  rw[SJ hM]
  exact hκ k i hi hc
 refine ⟨κ,hκ,fun h=>?_,fun h=>?_⟩
 ·have:0≤M*dU p:=by
   rw[har]
   refine B4 fun j _=>(A1 (kS _ _ _) (jI S hM _) fun e he=>?_).1
   have:=key _ e he
   rw[h] at this
   exact j8 this
  rcases Int.lt_or_le (dU p) 0 with h'|h'
  ·have:=Int.mul_neg_of_pos_of_neg pos h';omega
  ·exact h'
 ·have:0≤M * -dU p:=by
   rw[Int.mul_neg,har]
   have e:-(cE n fun j=>val (lX M p ((j:Int)-K)))=cE n fun j=>(-1)*val (lX M p ((j:Int)-K)):=by
    rw[n9];omega
   rw[e]
   refine B4 fun j _=>?_
   have:=(MA (kS M p ((j:Int)-K)) (jI S hM _) fun e he=>by rw[key _ e he,h]).1
   omega
  rcases Int.lt_or_le 0 (dU p) with h'|h'
  ·have:=Int.mul_neg_of_pos_of_neg pos (show -dU p<0 by omega);omega
  ·exact h'
end
theorem ABQ (c:Int):∀ l:List Int,kX (l.map fun x=>c*x)=c*kX l
 | []=>by simp[kX]
 | a::l=>by rw[List.map_cons,kX,kX,ABQ c l,Int.mul_add]
theorem QJ {α:Type} (f:α→Nat→Int) (n:Nat):∀ l:List α,kX (l.map fun a=>cE n (f a))=cE n fun j=>kX (l.map fun a=>f a j)
 | []=>(vN n).symm
 | a::l=>by
  rw[List.map_cons,kX,QJ f n l,←n8];rfl
theorem APL {M:Int} {cs:List (List Pt)} {K:Int} {n:Nat} (hM0:0<M) (hS:∀ p∈cs,eN p) (hM:∀ p∈cs,J9 M p) (hh:∀ p∈cs,tZ K n p) (hap:cs.Pairwise lU)
  (hpar:∀ p∈cs,∀ k i,i<p.length→cr (pt p i) (nx p i) k=true→M4 (cs.map fun q=>eH (QA (2*M) q) (ru M (pt p i) (nx p i) k))=sg (pt p i) (nx p i)):0≤kX (cs.map dU):=by
 have hN:0<2*M:=by omega
 have key:0≤M*kX (cs.map dU):=by
  have e:M*kX (cs.map dU)=cE n fun j=>val (cs.flatMap fun p=>lX M p ((j:Int)-K)):=by
   rw[←ABQ,List.map_map,fB (g:=fun j=>kX (cs.map fun p=>val (lX M p ((j:Int)-K)))) fun j _=>ABT _ _,←QJ (fun p j=>val (lX M p ((j:Int)-K)))]
   congr 1
   exact List.map_congr_left fun p hp=>DH (hM p hp) (hh p hp)
  rw[e]
  refine B4 fun j _=>?_
  generalize (j:Int)-K=k
  refine (A1 ?_ ?_ fun e he=>?_).1
  ·rw[AAX]
   refine rU fun a ha=>?_
   obtain ⟨p,_,rfl⟩:=List.mem_map.1 ha
   exact kS _ _ _
  ·rw[List.pairwise_flatMap]
   refine ⟨fun p hp=>jI (hS p hp) (hM p hp) k,hap.imp_of_mem fun {p q} hp hq h x hx y hy=>?_⟩
   obtain ⟨i,hi,c1,rfl⟩:=tC hx
   obtain ⟨j,hj,c2,rfl⟩:=tC hy
   have hs:=(EK hM0 ((hM p hp).2 i) c1).seg
   exact P7 hM0 ((hM p hp).2 i) ((hM q hq).2 j) c1 c2 (tB (fun hc=>h i j hi hj (AEJ hN hc)) hs hs)
  ·obtain ⟨p,hp,hep⟩:=List.mem_flatMap.1 he
   obtain ⟨i,hi,hc,rfl⟩:=tC hep
   rw[YI]
   dsimp only
   rw[←hpar p hp k i hi hc]
   congr 1
   exact List.map_congr_left fun q hq=>SJ (hM q hq)
 rcases Int.lt_or_le (kX (cs.map dU)) 0 with h'|h'
 ·have:=Int.mul_neg_of_pos_of_neg hM0 h';omega
 ·exact h'
theorem AY3 {a b q:Pt} (h:hit a b q=true):q.1<max a.1 b.1:=by
 unfold hit at h
 simp only[Bool.or_eq_true,Bool.and_eq_true,decide_eq_true_eq] at h
 refine Classical.byContradiction fun hc=>?_
 have h1:0≤q.1-a.1:=by omega
 have h2:0≤q.1-b.1:=by omega
 rcases h with ⟨⟨x1,x2⟩,x3⟩|⟨⟨x1,x2⟩,x3⟩
 ·have y1:=Int.mul_nonneg h1 (show 0≤b.2-q.2 by omega)
  have y2:=Int.mul_nonneg h2 (show 0≤q.2-a.2 by omega)
  have e:aE a b q = -((q.1-a.1)*(b.2-q.2)+(q.1-b.1)*(q.2-a.2)):=by simp only[aE];grind
  omega
 ·have y1:=Int.mul_nonneg h1 (show 0≤q.2-b.2 by omega)
  have y2:=Int.mul_nonneg h2 (show 0≤a.2-q.2 by omega)
  have e:aE a b q=(q.1-a.1)*(q.2-b.2)+(q.1-b.1)*(a.2-q.2):=by simp only[aE];grind
  omega
theorem ABV {f:Nat→Bool}:∀ {n:Nat},eD n f=true→∃ i,i<n∧f i=true
 | 0,h=>by cases h
 | n+1,h=>by
  rw[eD] at h
  cases hf:f n with
  | true=>exact ⟨n,by omega,hf⟩
  | false =>
   rw[hf,Bool.xor_false] at h
   obtain ⟨i,hi,hx⟩:=ABV h
   exact ⟨i,by omega,hx⟩
theorem AQC {p:List Pt} {q:Pt} (hp:0<p.length) (h:eH p q=true):∃ i,i<p.length∧q.1<(pt p i).1:=by
 obtain ⟨i,hi,hx⟩:=ABV h
 have:=AY3 hx
 by_cases hc:q.1<(pt p i).1
 ·exact ⟨i,hi,hc⟩
 ·exact ⟨(i+1) % p.length,Nat.mod_lt _ hp,by show q.1<(nx p i).1;omega⟩
theorem LU {p:List Pt}:∀ n:Nat,0<n→∃ m,m<n∧∀ i,i<n→(pt p i).1≤(pt p m).1
 | 0,h=>by omega
 | 1,_=>⟨0,by omega,fun i hi=>by rw[show i=0 by omega];exact Int.le_refl _⟩
 | n+2,_=>by
  obtain ⟨m,hm,h⟩:=LU (p:=p) (n+1) (by omega)
  rcases Int.lt_or_le (pt p m).1 (pt p (n+1)).1 with hc|hc
  ·exact ⟨n+1,by omega,fun i hi=>by
    rcases Nat.lt_or_ge i (n+1) with h'|h'
    ·have:=h i h';omega
    ·rw[show i=n+1 by omega];exact Int.le_refl _⟩
  ·exact ⟨m,by omega,fun i hi=>by
    rcases Nat.lt_or_ge i (n+1) with h'|h'
    ·exact h i h'
    ·rw[show i=n+1 by omega];exact hc⟩
theorem AM1 {o h:List Pt} (ho:0<o.length) (hh:0<h.length) (hin:∀ i,i<h.length→eH o (pt h i)=true) (hA:lU h o) (hne:∀ i,i<h.length→pt h i≠nx h i):∀ i,i<o.length→eH h (pt o i)=false:=by
 obtain ⟨m,hm,hmax⟩:=LU (p:=o) o.length ho
 have hlt:∀ i,i<h.length→(pt h i).1<(pt o m).1:=fun i hi=>by
  obtain ⟨j,hj,hx⟩:=AQC ho (hin i hi)
  have:=hmax j hj
  omega
 have h0:eH h (pt o m)=false:=by
  rw[Bool.eq_false_iff]
  intro hc
  obtain ⟨i,hi,hx⟩:=AQC hh hc
  have:=hlt i hi
  omega
 intro i hi
 rw[q9 hA hne i hi,←q9 hA hne m hm]
 exact h0
theorem AI2 {α:Type} {f:α→Bool}:∀ {l:List α} {i:Nat} (hi:i<l.length),(∀ j (hj:j<l.length),j≠i→f l[j]=false)→M4 (l.map f)=f l[i]
 | [],i,hi,_=>by simp at hi
 | a::l,0,hi,h=>by
  rw[List.map_cons,M4,rU,Bool.xor_false];rfl
  intro b hb
  obtain ⟨c,hc,rfl⟩:=List.mem_map.1 hb
  obtain ⟨j,hj,rfl⟩:=List.mem_iff_getElem.1 hc
  exact h (j+1) (by simpa using hj) (by omega)
 | a::l,i+1,hi,h=>by
  have h0:f a=false:=h 0 (by simp) (by omega)
  rw[List.map_cons,M4,h0,Bool.false_xor]
  exact AI2 (by simpa using hi) fun j hj hne=>h (j+1) (by simpa using hj) (by omega)
theorem AGY {o:List Pt} {hs:List (List Pt)} {M K:Int} {n:Nat} (hM0:0<M) (hS:∀ p∈o::hs,eN p) (hM:∀ p∈o::hs,J9 M p) (hh:∀ p∈o::hs,tZ K n p)
  (hao:0<dU o) (hah:∀ h∈hs,dU h<0) (hA:∀ h∈hs,lU h o) (hin:∀ h∈hs,∀ i,i<h.length→eH o (pt h i)=true)
  (hAA:∀ i j (hi:i<hs.length) (hj:j<hs.length),i≠j→lU hs[i] hs[j]∧eH hs[i] (pt hs[j] 0)=false):0≤kX ((o::hs).map dU):=by
 have hN:0<2*M:=by omega
 have So:=hS o (by simp)
 have Mo:=hM o (by simp)
 refine APL hM0 hS hM hh ?_ ?_
 ·refine List.pairwise_cons.2 ⟨fun h hm=>(hA h hm).symm,List.pairwise_iff_getElem.2 fun i j hi hj hij=>(hAA i j hi hj (by omega)).1⟩
 ·intro p hp k i hi hc
  rcases List.mem_cons.1 hp with rfl|hp'
  ·
   obtain ⟨κ,h1,h2,h3⟩:=DI So Mo (hh _ (by simp))
   have hκ:κ=false:=by
    cases κ with
    | false=>rfl
    | true=>have:=h3 rfl;omega
   have:=h1 k i hi hc
   rw[hκ] at this
   rw[List.map_cons,M4,rU (l:=List.map _ hs),Bool.xor_false]
   ·exact j8 this
   ·intro b hb
    obtain ⟨h,hm,rfl⟩:=List.mem_map.1 hb
    have Sh:=hS h (by simp[hm])
    have n3:=Sh.n3;have n3':=So.n3
    rw[xC (hA h hm) Mo hi hc,TL hN]
    exact AM1 (by omega) (by omega) (hin h hm) (hA h hm) Sh.ne i hi
  ·obtain ⟨m,hm,rfl⟩:=List.mem_iff_getElem.1 hp'
   have Sp:=hS _ hp
   have Mp:=hM _ hp
   obtain ⟨κ,h1,h2,h3⟩:=DI Sp Mp (hh _ hp)
   have hneg:=hah _ hp'
   have hκ:κ=true:=by
    cases κ with
    | true=>rfl
    | false=>have:=h2 rfl;omega
   have hown:=h1 k i hi hc
   rw[hκ] at hown
   rw[List.map_cons,M4,xC (hA _ hp').symm Mp hi hc,TL hN,hin _ hp' i hi,AI2 (f:=fun q=>eH (QA (2*M) q) (ru M (pt hs[m] i) (nx hs[m] i) k)) hm fun j hj hne=>?_]
   ·revert hown
    cases eH (QA (2*M) hs[m]) (ru M (pt hs[m] i) (nx hs[m] i) k)<;>cases sg (pt hs[m] i) (nx hs[m] i)<;>simp
   ·obtain ⟨a1,a2⟩:=hAA j m hj hm hne
    have Sj:=hS hs[j] (by simp)
    rw[xC a1 Mp hi hc,TL hN,q9 a1 Sj.ne i hi,a2]
theorem tW {f:Nat→Int}:∀ {n:Nat},(∀ i,i<n→0≤f i)→∀ j,j<n→0<f j→0<cE n f
 | 0,_,j,hj,_=>by omega
 | n+1,h,j,hj,hp=>by
  have h0:=h n (by omega)
  unfold cE
  by_cases e:j=n
  ·subst e
   have:=B4 (n:=j) fun i hi=>h i (by omega)
   omega
  ·have:=tW (n:=n) (fun i hi=>h i (by omega)) j (by omega) hp
   omega
theorem AZU {p:List Pt} (S:eN p):∃ i,i<p.length∧(pt p i).2≠(nx p i).2:=by
 refine Classical.byContradiction fun hc=>?_
 have hc:∀ i,i<p.length→(pt p i).2=(nx p i).2:=fun i hi=>Classical.byContradiction fun h=>hc ⟨i,hi,h⟩
 have n3:=S.n3
 have hne:∀ i,i<p.length→(pt p i).1≠(nx p i).1:=fun i hi h=>S.ne i hi (Prod.ext h (hc i hi))
 have st:∀ i,i<p.length→((pt p i).1<(nx p i).1↔(nx p i).1<(lL p i).1):=fun i hi=>by
  have hk:(i+1) % p.length<p.length:=Nat.mod_lt _ (by omega)
  have e1:=hc i hi
  have e2:=hc _ hk
  have x1:=hne i hi
  have x2:=hne _ hk
  rw[uP,show pt p ((i+1) % p.length)=nx p i from rfl] at e2 x2
  have hf:=S.nf i hi
  have z:aE (pt p i) (nx p i) (lL p i)=0:=by simp only[aE];rw[e1,←e2];grind
  have hd:¬ 0<j0 (pt p i) (nx p i) (lL p i):=fun h=>hf ⟨z,h⟩
  have ed:j0 (pt p i) (nx p i) (lL p i)=((pt p i).1-(nx p i).1)*((lL p i).1-(nx p i).1):=by simp only[j0];rw[e1,←e2];grind
  constructor
  ·intro h
   refine Classical.byContradiction fun h'=>hd ?_
   have:=Int.mul_pos (show 0<(nx p i).1-(pt p i).1 by omega) (show 0<(nx p i).1-(lL p i).1 by omega)
   have e:((nx p i).1-(pt p i).1)*((nx p i).1-(lL p i).1)=((pt p i).1-(nx p i).1)*((lL p i).1-(nx p i).1):=by grind
   omega
  ·intro h
   refine Classical.byContradiction fun h'=>hd ?_
   have:=Int.mul_pos (show 0<(pt p i).1-(nx p i).1 by omega) (show 0<(lL p i).1-(nx p i).1 by omega)
   omega
 have all:∀ i,i<p.length→((pt p 0).1<(nx p 0).1↔(pt p i).1<(nx p i).1):=fun i=>by
  induction i with
  | zero=>intro _;exact Iff.rfl
  | succ i ih =>
   intro hi
   have e:(i+1) % p.length=i+1:=Nat.mod_eq_of_lt hi
   have en:nx p i=pt p (i+1):=by unfold nx;rw[e]
   have en2:lL p i=nx p (i+1):=by rw[←uP,e]
   rw[ih (by omega),st i (by omega),en,en2]
 have sum0:cE p.length (fun i=>(nx p i).1)=cE p.length (fun i=>(pt p i).1):=ABR (fun i=>(pt p i).1) p.length
 by_cases h:(pt p 0).1<(nx p 0).1
 ·have:0<cE p.length (fun i=>(nx p i).1+(-1)*(pt p i).1):=tW (fun i hi=>by have:=(all i hi).1 h;omega) 0 (by omega) (by have:=(all 0 (by omega)).1 h;omega)
  rw[n8,n9,sum0] at this
  omega
 ·have:0<cE p.length (fun i=>(pt p i).1+(-1)*(nx p i).1):=tW (fun i hi=>by
   have h1:=(all i hi);have:=hne i hi
   have:¬ (pt p i).1<(nx p i).1:=fun h'=>h (h1.2 h')
   omega) 0 (by omega) (by have:=hne 0 (by omega);omega)
  rw[n8,n9,sum0] at this
  omega
theorem AS1 {M:Int} {p:List Pt} (S:eN p) (hM:J9 M p) {K:Int} {n:Nat} (hh:tZ K n p):dU p≠0:=by
 obtain ⟨κ,hκ,_,_⟩:=DI S hM hh
 have har:=DH hM hh
 have key:∀ k e,e∈lX M p k→(lM (o5 (lX M p k) e.1) ^^ e.2)=κ:=fun k e he=>by
  obtain ⟨i,hi,hc,rfl⟩:=tC he
  dsimp only
  rw[SJ hM]
  exact hκ k i hi hc
 obtain ⟨i,hi,hne⟩:=AZU S
 obtain ⟨k,hk⟩:∃ k,k=min (pt p i).2 (nx p i).2:=⟨_,rfl⟩
 have hc:cr (pt p i) (nx p i) k=true:=by
  unfold cr
  simp only[Bool.or_eq_true,Bool.and_eq_true,decide_eq_true_eq]
  omega
 have hmem:(rx M (pt p i) (nx p i) k,sg (pt p i) (nx p i))∈lX M p k:=by
  unfold lX
  exact List.mem_map.2 ⟨i,List.mem_filter.2 ⟨List.mem_range.2 hi,hc⟩,rfl⟩
 have hnil:lX M p k≠[]:=fun h=>by rw[h] at hmem;cases hmem
 have b1:=hh i
 have b2:=hh ((i+1) % p.length)
 have b2:-K≤(nx p i).2∧(nx p i).2≤(n:Int)-K:=b2
 obtain ⟨j,hj⟩:∃ j:Nat,(j:Int)=k+K:=⟨(k+K).toNat,by omega⟩
 have hjn:j<n:=by omega
 have hjk:(j:Int)-K=k:=by omega
 intro h0
 rw[h0,Int.mul_zero] at har
 cases κ with
 | false =>
  have:=tW (f:=fun j=>val (lX M p ((j:Int)-K))) (n:=n) (fun j _=>(A1 (kS _ _ _) (jI S hM _) fun e he=>j8 (key _ e he)).1) j hjn (by
   rw[hjk]
   exact (A1 (kS _ _ _) (jI S hM _) fun e he=>j8 (key _ e he)).2 hnil)
  omega
 | true =>
  have:=tW (f:=fun j=>(-1)*val (lX M p ((j:Int)-K))) (n:=n) (fun j _=>by
   have:=(MA (kS M p ((j:Int)-K)) (jI S hM _) fun e he=>key _ e he).1
   omega) j hjn (by
   rw[hjk]
   have:=(MA (kS M p k) (jI S hM _) fun e he=>key _ e he).2 hnil
   omega)
  rw[n9] at this
  omega
theorem PR:∃ (M K:Int) (n:Nat),0<M∧∀ p:List Pt,(∀ i,bO (pt p i))→J9 M p∧tZ K n p:=by
 obtain ⟨B,hB⟩:∃ B:Nat,B=65536:=⟨_,rfl⟩
 refine ⟨(fac B:Int),32768,65536,by have:=SP B;omega,fun p hp=>⟨⟨by have:=SP B;omega,fun i hne=>?_⟩,fun i=>?_⟩⟩
 ·have h1:=hp i
  have h2:bO (nx p i):=hp _
  unfold bO at h1 h2
  refine Int.ediv_mul_cancel ?_
  have hd:((nx p i).2-(pt p i).2).natAbs ∣ fac B:=AHY (by omega) (by omega)
  exact Int.natAbs_dvd.1 (Int.natCast_dvd_natCast.2 hd)
 ·have h1:=hp i
  unfold bO at h1
  omega
theorem ABK {p:List Pt} (S:eN p) (hp:∀ i,bO (pt p i)):dU p≠0:=by
 obtain ⟨M,K,n,h0,h⟩:=PR
 exact AS1 S (h p hp).1 (h p hp).2
theorem AR8 {o:List Pt} {hs:List (List Pt)} (hS:∀ p∈o::hs,eN p) (hN:∀ p∈o::hs,∀ i,bO (pt p i))
  (hao:0<dU o) (hah:∀ h∈hs,dU h<0) (hA:∀ h∈hs,lU h o) (hin:∀ h∈hs,∀ i,i<h.length→eH o (pt h i)=true)
  (hAA:∀ i j (hi:i<hs.length) (hj:j<hs.length),i≠j→lU hs[i] hs[j]∧eH hs[i] (pt hs[j] 0)=false):0≤kX ((o::hs).map dU):=by
 obtain ⟨M,K,n,h0,h⟩:=PR
 exact AGY h0 hS (fun p hp=>(h p (hN p hp)).1) (fun p hp=>(h p (hN p hp)).2) hao hah hA hin hAA
end Go.Pv.Geo
namespace Go.Pv
open Go Go.Proofs Go.Pv.Geo
theorem lO {p:List Pt} (h:l9 p=true) {i:Nat} (hi:i<p.length):pt p i≠nx p i∧¬ (aE (pt p i) (nx p i) (lL p i)=0∧0<j0 (pt p i) (nx p i) (lL p i))∧∀ k,k<p.length→i+2≤k→oE p i k=true:=by
 have h:=b9.1 h i hi
 unfold AL at h
 simp only[Bool.and_eq_true,Bool.not_eq_true',decide_eq_false_iff_not] at h
 obtain ⟨h1,h2,h3⟩:=h
 refine ⟨h1,fun ⟨a,b⟩=>?_,fun k hk hik=>?_⟩
 ·rw[decide_eq_true a,decide_eq_true b] at h2;cases h2
 ·have:=b9.1 h3 k hk
  rw[decide_eq_false (by omega),Bool.false_or] at this
  exact this
theorem AA4 {p:List Pt} {i k:Nat} (h:oE p i k=true) (hne:(k+1) % p.length≠i):bJ (pt p i) (nx p i) (pt p k) (nx p k)=false:=by
 unfold oE at h
 rw[decide_eq_false hne] at h
 simpa using h
theorem QC {p:List Pt} (h:l9 p=true) (h3:3≤p.length):eN p:=by
 refine ⟨h3,fun i hi=>(lO h hi).1,fun i hi=>(lO h hi).2.1,fun i k hi hk h1 h2 h4 hc=>?_⟩
 have hm:=F9 (lO h hi).1 (lO h hk).1 hc
 rcases Nat.lt_or_ge i k with hl|hl
 ·have:i+2≤k:=by
   rcases Nat.lt_or_ge (i+1) k with h5|h5
   ·omega
   ·have e:k=i+1:=by omega
    rw[Nat.mod_eq_of_lt (by omega)] at h2
    exact absurd e h2
  rw[AA4 ((lO h hi).2.2 k hk this) (fun e=>h4 e.symm)] at hm
  cases hm
 ·have:k+2≤i:=by
   rcases Nat.lt_or_ge (k+1) i with h5|h5
   ·omega
   ·rcases Nat.lt_or_ge k i with h6|h6
    ·have e:i=k+1:=by omega
     rw[Nat.mod_eq_of_lt (by omega)] at h4
     exact absurd e h4
    ·omega
  rw[kP,AA4 ((lO h hk).2.2 i hi this) (fun e=>h2 e.symm)] at hm
  cases hm
theorem ANE {p:List Pt} (h:l9 p=true) (h3:3≤p.length) (hn:fH p):dU p≠0:=ABK (QC h h3) hn.pt
theorem qS {p q:List Pt} (h:dH p q=false) {i k:Nat} (hi:i<p.length) (hk:k<q.length):bJ (pt p i) (nx p i) (pt q k) (nx q k)=false:=by
 rw[Bool.eq_false_iff]
 intro hm
 rw[show dH p q=true from dG.2 ⟨i,hi,dG.2 ⟨k,hk,hm⟩⟩] at h
 cases h
theorem KF {p q:List Pt} (hp:l9 p=true) (hq:l9 q=true) (h:dH p q=false):lU p q:=fun i j hi hj hc=>by
 have hm:=F9 (lO hp hi).1 (lO hq hj).1 hc
 rw[qS h hi hj] at hm
 cases hm
theorem uR {h o:List Pt} (he:dH h o=false) {i:Nat} (hi:i<h.length):AM o (pt h i)=false:=wX fun k hk=>by
 have:=qS he hi hk
 exact (nN this).2.2.1
theorem B6 {o:List Pt} {q:Pt} (hq:bO q) (ho:cU o=0) (hn:AM o q=false):cF o q=if eH o q=true then 1 else -1:=by
 unfold cF
 rw[if_neg,hn,if_neg (by simp)]
 rintro (h|h)
 ·exact h hq
 ·exact h ho
theorem LO {h o:List Pt} (he:dH h o=false):∀ i,i<h.length→eH o (pt h i)=eH o (pt h 0)
 | 0,_=>rfl
 | i+1,hi=>by
  rw[←LO he i (by omega)]
  have e:pt h (i+1)=nx h i:=by unfold nx;rw[Nat.mod_eq_of_lt hi]
  rw[e]
  symm
  refine xB fun k hk=>?_
  rw[kP]
  exact qS he (by omega) hk
theorem UY {h o:List Pt} (hn:fH h) (ho:cU o=0) (h0:0<h.length):eY h o=(!dH h o&&decide (cF o (pt h 0)=1)):=by
 unfold eY
 cases he:dH h o with
 | true=>rfl
 | false =>
  rw[Bool.not_false,Bool.true_and,Bool.true_and,Bool.eq_iff_iff]
  have w:∀ i,i<h.length→(cF o (pt h i)=1↔eH o (pt h 0)=true):=fun i hi=>by
   rw[B6 (hn.pt i) ho (uR he hi),LO he i hi]
   cases eH o (pt h 0)<;>simp
  constructor
  ·intro ha
   rw[List.all_eq_true] at ha
   have:=ha _ (List.getElem_mem h0)
   rw[rH h0];exact this
  ·intro ha
   rw[List.all_eq_true]
   intro c hc
   obtain ⟨i,hi,rfl⟩:=List.mem_iff_getElem.1 hc
   rw[←rH hi]
   exact decide_eq_true ((w i hi).2 ((w 0 h0).1 (of_decide_eq_true ha)))
theorem ASE (l:List (List Pt)) (f:List Pt→Int):Geo.kX (l.map f)=cE l.length fun i=>f (l.getD i []):=by
 induction l with
 | nil=>rfl
 | cons a l ih =>
  rw[List.map_cons,Geo.kX,ih,List.length_cons,yV]
  rfl
theorem pT {s:dP} {i:Nat} (hi:i<s.2.length) (h:kB s i=0):cU s.2[i]=0∧fC s.2[i]<0∧eY s.2[i] s.1=true∧∀ k (hk:k<i),eP s.2[i] (s.2[k]'(by omega))=true:=by
 have hg:s.2.getD i []=s.2[i]:=TK hi
 unfold kB at h
 rw[hg] at h
 by_cases h1:cU s.2[i]=0
 ·rw[if_neg (by simpa using h1)] at h
  by_cases h2:0≤fC s.2[i]∨eY s.2[i] s.1=false
  ·rw[if_pos h2] at h;cases h
  rw[if_neg h2] at h
  refine ⟨h1,?_,?_,fun k hk=>?_⟩
  ·rcases Int.lt_or_le (fC s.2[i]) 0 with h3|h3
   ·exact h3
   ·exact absurd (.inl h3) h2
  ·cases h3:eY s.2[i] s.1 with
   | true=>rfl
   | false=>exact absurd (.inr h3) h2
  ·by_cases h3:((List.range i).all fun k=>eP s.2[i] (s.2.getD k []))=false
   ·rw[if_pos h3] at h;cases h
   have h3:((List.range i).all fun k=>eP s.2[i] (s.2.getD k []))=true:=by simpa using h3
   have:=b9.1 h3 k hk
   rwa[TK (by omega)] at this
 ·rw[if_pos (by simpa using h1)] at h
  exact absurd h h1
theorem AIQ {s:dP} (h:fE s=0):s.2.length≤8∧cU s.1=0∧0<fC s.1∧∀ i,i<s.2.length→kB s i=0:=by
 unfold fE at h
 by_cases h1:8<s.2.length
 ·rw[if_pos h1] at h;cases h
 rw[if_neg h1] at h
 by_cases h2:cU s.1=0
 ·rw[if_neg (by simpa using h2)] at h
  by_cases h3:fC s.1≤0
  ·rw[if_pos h3] at h;cases h
  rw[if_neg h3] at h
  exact ⟨by omega,h2,by omega,fun i hi=>FW h i (List.mem_range.2 hi)⟩
 ·rw[if_pos (by simpa using h2)] at h
  exact absurd h h2
theorem KG {p:List Pt} (h:cU p=0):fC p=dU p:=by unfold fC;rw[if_pos h]
theorem AU5 (s:dP):0≤nY s:=by
 unfold nY
 by_cases h:fE s=0
 ·rw[if_pos h]
  obtain ⟨h8,ho,hao,hh⟩:=AIQ h
  have hp:∀ p∈s.1::s.2,cU p=0:=fun p hp=>by
   rcases List.mem_cons.1 hp with rfl|hp
   ·exact ho
   ·obtain ⟨i,hi,rfl⟩:=List.mem_iff_getElem.1 hp
    exact (pT hi (hh i hi)).1
  have e:ANM (s.1::s.2)=Geo.kX ((s.1::s.2).map dU):=by
   rw[ASE]
   unfold ANM
   refine fB fun i hi=>?_
   rw[TK hi]
   exact KG (hp _ (List.getElem_mem hi))
  rw[e]
  have hsi:∀ p∈s.1::s.2,l9 p=true:=fun p hm=>(c9 (hp p hm)).2.2.2.1
  refine AR8 (fun p hm=>QC (hsi p hm) (c9 (hp p hm)).1) (fun p hm=>(c9 (hp p hm)).2.2.1.pt) (by rw[←KG ho];exact hao) ?_ ?_ ?_ ?_
  ·intro c hm
   obtain ⟨i,hi,rfl⟩:=List.mem_iff_getElem.1 hm
   have:=pT hi (hh i hi)
   rw[←KG this.1];exact this.2.1
  ·intro c hm
   obtain ⟨i,hi,rfl⟩:=List.mem_iff_getElem.1 hm
   have hw:=(pT hi (hh i hi)).2.2.1
   refine KF (hsi _ (by simp)) (hsi _ (by simp)) ?_
   unfold eY at hw
   simp only[Bool.and_eq_true,Bool.not_eq_true'] at hw
   exact hw.1
  ·intro c hm j hj
   obtain ⟨i,hi,rfl⟩:=List.mem_iff_getElem.1 hm
   have hq:=pT hi (hh i hi)
   have hw:=hq.2.2.1
   have hnear:=(c9 hq.1).2.2.1
   unfold eY at hw
   simp only[Bool.and_eq_true,Bool.not_eq_true',List.all_eq_true] at hw
   have h1:=of_decide_eq_true (hw.2 _ (List.getElem_mem hj))
   rw[←rH hj,B6 (hnear.pt j) ho (uR hw.1 hj)] at h1
   refine Classical.byContradiction fun hc=>?_
   rw[if_neg hc] at h1
   cases h1
  ·have key:∀ i j (hi:i<s.2.length) (hj:j<s.2.length),j<i→dH s.2[i] s.2[j]=false∧eH s.2[i] (pt s.2[j] 0)=false∧eH s.2[j] (pt s.2[i] 0)=false:=fun i j hi hj hij=>by
    have hq:=pT hi (hh i hi)
    have hq':=pT hj (hh j hj)
    have ha:=hq.2.2.2 j hij
    have hn:=(c9 hq.1).2.2.1
    have hn':=(c9 hq'.1).2.2.1
    have l1:=(c9 hq.1).1
    have l2:=(c9 hq'.1).1
    unfold eP at ha
    simp only[Bool.and_eq_true,Bool.not_eq_true',decide_eq_true_eq] at ha
    obtain ⟨e1,e2,e3⟩:=ha
    have e1':dH s.2[j] s.2[i]=false:=by
     rw[Bool.eq_false_iff]
     intro hc
     obtain ⟨a,ha,hb⟩:=dG.1 hc
     obtain ⟨b,hb1,hb2⟩:=dG.1 hb
     rw[kP,qS e1 hb1 ha] at hb2
     cases hb2
    rw[B6 (hn'.pt 0) hq.1 (uR e1' (by omega))] at e2
    rw[B6 (hn.pt 0) hq'.1 (uR e1 (by omega))] at e3
    refine ⟨e1,?_,?_⟩
    ·rw[Bool.eq_false_iff];intro hc;rw[if_pos hc] at e2;omega
    ·rw[Bool.eq_false_iff];intro hc;rw[if_pos hc] at e3;omega
   intro i j hi hj hij
   rcases Nat.lt_or_ge i j with hl|hl
   ·obtain ⟨k1,k2,k3⟩:=key j i hj hi hl
    exact ⟨(KF (hsi _ (by simp)) (hsi _ (by simp)) k1).symm,k3⟩
   ·obtain ⟨k1,k2,k3⟩:=key i j hi hj (by omega)
    exact ⟨KF (hsi _ (by simp)) (hsi _ (by simp)) k1,k2⟩
 ·rw[if_neg h];exact Int.le_refl 0
end Go.Pv
namespace Go.Pv
open Go Go.Proofs
noncomputable def AB2:Env:=Env.of [(193,.pure cX)]
def AOG:FuncId→Hint:=fun _=>aS
theorem ANW:aF Tryz.prog AB2:=aF.cons (x:=.pure cX) DY (aF.nil _)
def ADK (a0:aI) (a1:aI) (a2:aI) (R:T→Prop):Prop :=
 aH [(false,Sy.int IntKind.i64)]
 (cX [aB true aA a1,aB true aA a2,aB true aA a0])
 fun (y0:Int) =>
 aC (decide (y0=0))
 (aC (decide ((if a2.1<a1.1 then a2.1 else a1.1)≤a0.1))
 (aC (decide (a0.1≤if a1.1<a2.1 then a2.1 else a1.1))
 (aC (decide ((if a2.2<a1.2 then a2.2 else a1.2)≤a0.2))
 (R (T.v (.bool (decide (a0.2≤if a1.2<a2.2 then a2.2 else a1.2)))))
 (R (T.v (.bool false))))
 (R (T.v (.bool false))))
 (R (T.v (.bool false))))
 (R (T.v (.bool false)))
theorem AJM ( a0 a1 a2 R):bD aX Tryz.prog AB2 AOG 8 192 [aB true aA a0,aB true aA a1,aB true aA a2] R=ADK a0 a1 a2 R:=by kernel_rfl
abbrev UD:Sh:=[(true,aA),(true,aA),(true,aA)]
def UO (x:aI×aI×aI):Option T:=tE x.2.1 x.2.2 x.1 (T.v (.bool (gN x.2.1 x.2.2 x.1)))
noncomputable def gT:List T→Option (T):=gS UD UO
theorem ALD {a0 a1 a2}:gT [aB true aA a0,aB true aA a1,aB true aA a2]=UO (a0,a1,a2):=aT (s:=UD) rfl (a0,a1,a2) rfl
theorem AUI (h:∀ a0 a1 a2 r,UO (a0,a1,a2)=some r→bU UD (a0,a1,a2)→ADK a0 a1 a2 (fun y=>y=r)):aJ Tryz.prog 192 gT :=
 aN (E:=AB2) (Hs:=AOG) ANW aU aV (aK rfl) 8 ⟨_,_,Tryz.func192,rfl⟩ rfl fun x r h1 h2=>by
  obtain ⟨a0,a1,a2⟩:=x
  rw[show Sh.bI UD (a0,a1,a2)=[aB true aA a0,aB true aA a1,aB true aA a2] from rfl,AJM]
  exact h a0 a1 a2 r h1 h2
theorem SV:aJ Tryz.prog 192 gT:=AUI fun c a b r h hb=>by
 obtain ⟨h1,h2,h3,rfl⟩:=nO h
 unfold ADK
 refine aD (s:=[(false,.int .i64)]) (jQ h1 h2 h3) ?_
 refine bT (fun h=>?_) fun h=>cM (by unfold gN;rw[decide_eq_false h];rfl)
 rw[tD,tD,tA,tA]
 have w:gN a b c=G0 a b c:=by unfold gN;rw[decide_eq_true h];rfl
 show aC _ _ _
 rw[show (gN (c,a,b).2.1 (c,a,b).2.2 (c,a,b).1)=G0 a b c from w]
 clear h w
 refine bT (fun h1=>bT (fun h2=>bT (fun h3=>cM ?_) fun h3=>cM ?_) fun h2=>cM ?_) fun h1=>cM ?_
 all_goals simp[G0,h1]
 all_goals simp[h2]
 all_goals simp[h3]
theorem kK {c a b:Pt} (h1:bO a) (h2:bO b) (h3:bO c):gT [aB true aA c,aB true aA a,aB true aA b]=some (Sh.enc [(false,.bool)] (gN a b c)):=(ALD ..).trans (nP _ h1 h2 h3)
noncomputable def H6:Env:=Env.of [(193,.pure cX),(192,.pure gT),(221,.pure iU)]
def WY:FuncId→Hint:=fun _=>aS
theorem ACJ:aF Tryz.prog H6:=aF.cons (x:=.pure cX) DY (aF.cons (x:=.pure gT) SV (aF.cons (x:=.pure iU) AK6 (aF.nil _)))
def JA (a0:aI) (a1:aI) (a2:aI) (a3:aI) (R:T→Prop):Prop :=
 aH [(false,Sy.bool)]
 (gT [aB true aA a0,aB true aA a2,aB true aA a3])
 fun (y0:Bool) =>
 aC y0 (R (T.v (.bool true)))
 (aH [(false,Sy.bool)]
 (gT [aB true aA a1,aB true aA a2,aB true aA a3])
 fun (y1:Bool) =>
 aC y1 (R (T.v (.bool true)))
 (aH [(false,Sy.bool)]
 (gT
 [aB true aA a2,aB true aA a0,aB true aA a1])
 fun (y2:Bool) =>
 aC y2 (R (T.v (.bool true)))
 (aH [(false,Sy.bool)]
 (gT
 [aB true aA a3,aB true aA a0,aB true aA a1])
 fun (y3:Bool) =>
 aC y3 (R (T.v (.bool true)))
 (aH [(false,Sy.int IntKind.i64)]
 (cX
 [aB true aA a0,aB true aA a1,aB true aA a2])
 fun (y4:Int) =>
 aH [(false,Sy.int IntKind.i64)]
 (iU [T.v (.int .i64 y4)]) fun (y5:Int) =>
 aH [(false,Sy.int IntKind.i64)]
 (cX
 [aB true aA a0,aB true aA a1,
 aB true aA a3])
 fun (y6:Int) =>
 aH [(false,Sy.int IntKind.i64)]
 (iU [T.v (.int .i64 y6)]) fun (y7:Int) =>
 aC (decide (IntKind.i64.wrap (y5*y7)<0))
 (aH [(false,Sy.int IntKind.i64)]
 (cX
 [aB true aA a2,aB true aA a3,
 aB true aA a0])
 fun (y8:Int) =>
 aH [(false,Sy.int IntKind.i64)]
 (iU [T.v (.int .i64 y8)]) fun (y9:Int) =>
 aH [(false,Sy.int IntKind.i64)]
 (cX
 [aB true aA a2,aB true aA a3,
 aB true aA a1])
 fun (y10:Int) =>
 aH [(false,Sy.int IntKind.i64)]
 (iU [T.v (.int .i64 y10)]) fun (y11:Int) =>
 R (T.v (.bool (decide (IntKind.i64.wrap (y9*y11)<0)))))
 (R (T.v (.bool false)))))))
theorem VV ( a0 a1 a2 a3 R):bD aX Tryz.prog H6 WY 8 211 [aB true aA a0,aB true aA a1,aB true aA a2,
 aB true aA a3] R=JA a0 a1 a2 a3 R:=by kernel_rfl
abbrev BB:Sh:=[(true,aA),(true,aA),(true,aA),(true,aA)]
def EX (x:aI×aI×aI×aI):Option T:=GC x.1 x.2.1 x.2.2.1 x.2.2.2 (T.v (.bool (bJ x.1 x.2.1 x.2.2.1 x.2.2.2)))
noncomputable def nF:List T→Option (T):=gS BB EX
theorem ZH {a0 a1 a2 a3}:nF [aB true aA a0,aB true aA a1,aB true aA a2,
 aB true aA a3]=EX (a0,a1,a2,a3):=aT (s:=BB) rfl (a0,a1,a2,a3) rfl
theorem AL7 (h:∀ a0 a1 a2 a3 r,EX (a0,a1,a2,a3)=some r→bU BB (a0,a1,a2,a3)→JA a0 a1 a2 a3 (fun y=>y=r)):aJ Tryz.prog 211 nF :=
 aN (E:=H6) (Hs:=WY) ACJ aU aV (aK rfl) 8 ⟨_,_,Tryz.func211,rfl⟩ rfl fun x r h1 h2=>by
  obtain ⟨a0,a1,a2,a3⟩:=x
  rw[show Sh.bI BB (a0,a1,a2,a3)=[aB true aA a0,aB true aA a1,aB true aA a2,
 aB true aA a3] from rfl,VV]
  exact h a0 a1 a2 a3 r h1 h2
theorem AKR:aJ Tryz.prog 211 nF:=AL7 fun a b c d r h hb=>by
 obtain ⟨h1,h2,h3,h4,rfl⟩:=AI h
 unfold JA
 refine aD (s:=[(false,.bool)]) (kK h3 h4 h1) ?_
 refine vR (fun h=>cM (by unfold bJ;rw[h];simp)) fun k1=>?_
 refine aD (s:=[(false,.bool)]) (kK h3 h4 h2) ?_
 refine vR (fun h=>cM (by unfold bJ;rw[h];simp)) fun k2=>?_
 refine aD (s:=[(false,.bool)]) (kK h1 h2 h3) ?_
 refine vR (fun h=>cM (by unfold bJ;rw[h];simp)) fun k3=>?_
 refine aD (s:=[(false,.bool)]) (kK h1 h2 h4) ?_
 refine vR (fun h=>cM (by unfold bJ;rw[h];simp)) fun k4=>?_
 refine aD (s:=[(false,.int .i64)]) (jQ h1 h2 h3) ?_
 refine aD (s:=[(false,.int .i64)]) (oO _) ?_
 refine aD (s:=[(false,.int .i64)]) (jQ h1 h2 h4) ?_
 refine aD (s:=[(false,.int .i64)]) (oO _) ?_
 rw[lS]
 refine bT (fun h=>?_) fun h=>cM (by unfold bJ;rw[k1,k2,k3,k4,decide_eq_false h];rfl)
 refine aD (s:=[(false,.int .i64)]) (jQ h3 h4 h1) ?_
 refine aD (s:=[(false,.int .i64)]) (oO _) ?_
 refine aD (s:=[(false,.int .i64)]) (jQ h3 h4 h2) ?_
 refine aD (s:=[(false,.int .i64)]) (oO _) ?_
 rw[lS]
 exact cM (by unfold bJ;rw[k1,k2,k3,k4,decide_eq_true h];rfl)
theorem ZI {a b c d:Pt} (h1:bO a) (h2:bO b) (h3:bO c) (h4:bO d):nF [aB true aA a,aB true aA b,aB true aA c,aB true aA d]=some (Sh.enc [(false,.bool)] (bJ a b c d)):=(ZH ..).trans (AJ _ h1 h2 h3 h4)
noncomputable def CG:Env:=Env.of []
def N8:FuncId→Hint:=fun _=>aS
theorem U8:aF Tryz.prog CG:=aF.nil _
def CZ (a0:aI) (R:T→Prop):Prop :=
 aC (decide (-32768≤a0.1))
 (aC (decide (a0.1≤32768))
 (aC (decide (-32768≤a0.2)) (R (T.v (.bool (decide (a0.2≤32768)))))
 (R (T.v (.bool false))))
 (R (T.v (.bool false))))
 (R (T.v (.bool false)))
theorem RL ( a0 R):bD aX Tryz.prog CG N8 8 191 [aB true aA a0] R=CZ a0 R:=by kernel_rfl
abbrev uY:Sh:=[(true,aA)]
def yJ (q:aI):Option T:=some (T.v (.bool (decide (bO q))))
noncomputable def iA:List T→Option (T):=gS uY yJ
theorem zQ {a0}:iA [aB true aA a0]=yJ (a0):=aT (s:=uY) rfl (a0) rfl
theorem AF9 (h:∀ a0 r,yJ (a0)=some r→bU uY (a0)→CZ a0 (fun y=>y=r)):aJ Tryz.prog 191 iA :=
 aN (E:=CG) (Hs:=N8) U8 aU aV (aK rfl) 8 ⟨_,_,Tryz.func191,rfl⟩ rfl fun x r h1 h2=>by
  let a0:=x
  rw[show Sh.bI uY (a0)=[aB true aA a0] from rfl,RL]
  exact h a0 r h1 h2
theorem K8:aJ Tryz.prog 191 iA:=AF9 fun q r h hb=>by
 cases h
 unfold CZ
 have no:¬ bO q→false=decide (bO q):=fun h=>by rw[decide_eq_false h]
 refine bT (fun h1=>bT (fun h2=>bT (fun h3=>cM ?_) fun h=>cM (no (by unfold bO;omega))) fun h=>cM (no (by unfold bO;omega))) fun h=>cM (no (by unfold bO;omega))
 by_cases h:bO q
 ·rw[decide_eq_true h]
  unfold bO at h
  exact decide_eq_true (by omega)
 ·rw[decide_eq_false h]
  unfold bO at h
  exact decide_eq_false (by omega)
noncomputable def CF:Env:=Env.of [(191,.pure iA)]
def N7:FuncId→Hint:=fun f=>match f == 188 with|true=>⟨fun r=>match r == 2 with|true=>.inv [.val 3 false (.int .i64)]|false=>.none,fun _ _=>none,fun _=>none⟩|false=>aS
theorem U7:aF Tryz.prog CF:=aF.cons (x:=.pure iA) K8 (aF.nil _)
def CY (a0:List aI) (R:T→Prop):Prop :=
 bE (Int×PUnit)
 (fun (X0:Int×PUnit→Prop) (s1:Int×PUnit) =>
 aC (decide (s1.1<(↑(List.map aA.enc a0).length:Int)))
 (aZ aA (List.map aA.enc a0) s1.1 fun (y2:aI) =>
 aH [(false,Sy.bool)] (iA [aB true aA y2]) fun (y3:Bool) =>
 aC (!y3) (R (T.v (.bool false))) (X0 (IntKind.i64.wrap (s1.1+1),())))
 (R (T.v (.bool true))))
 (0,())
theorem RJ ( a0 R):bD aX Tryz.prog CF N7 8 188 [aB false aA.li a0] R=CY a0 R:=by kernel_rfl
abbrev uX:Sh:=[(false,aA.li)]
def yI (p:List aI):Option T:=some (T.v (.bool (wC p)))
noncomputable def mL:List T→Option (T):=gS uX yI
theorem S2 {a0}:mL [T.sl false (List.map aA.enc a0)]=yI (a0):=aT (s:=uX) rfl (a0) rfl
theorem AF8 (h:∀ a0 r,yI (a0)=some r→bU uX (a0)→CY a0 (fun y=>y=r)):aJ Tryz.prog 188 mL :=
 aN (E:=CF) (Hs:=N7) U7 aU aV (aK rfl) 8 ⟨_,_,Tryz.func188,rfl⟩ rfl fun x r h1 h2=>by
  let a0:=x
  rw[show Sh.bI uX (a0)=[aB false aA.li a0] from rfl,RJ]
  exact h a0 r h1 h2
theorem AEW:aJ Tryz.prog 188 mL:=AF8 fun p r h hb=>by
 cases h
 have hl:p.length≤140737488355328:=hb.1
 unfold CY
 refine aR p.length (fun k s=>s=((k:Int),())∧∀ i,i<k→i<p.length→bO (pt p i)) ⟨rfl,fun i h=>by omega⟩ ?_
 rintro X k s hk ⟨rfl,hJ⟩ hX
 dsimp only
 refine bT (fun hlt=>?_) fun hge=>?_
 ·rw[List.length_map] at hlt
  have hlt:k<p.length:=by omega
  rw[bN hlt]
  refine aD (s:=[(false,.bool)]) (y:=decide (bO (pt p k))) (zQ ..) ?_
  refine rX (fun hf=>cM ?_) fun hn=>hX _ hlt ⟨by rw[show IntKind.i64.wrap ((k:Int)+1)=((k+1:Nat):Int) from aO _ (by omega) (by omega)],fun i h1 h2=>by
   rcases Nat.lt_or_ge i k with h3|h3
   ·exact hJ i h3 h2
   ·have:i=k:=by omega
    subst this;exact hn⟩
  symm
  rw[Bool.eq_false_iff];intro h
  have:=gJ.1 h _ (List.getElem_mem hlt)
  rw[←rH hlt] at this
  exact hf this
 ·rw[List.length_map] at hge
  refine cM (Eq.symm (gJ.2 fun q hq=>?_))
  obtain ⟨i,hi,rfl⟩:=List.mem_iff_getElem.1 hq
  rw[←rH hi]
  exact hJ i (by omega) hi
def pC (p:List Pt) (i:Nat):Bool:=!gN (nx p i) (lL p i) (pt p i)&&(!gN (pt p i) (nx p i) (lL p i)&&(List.range p.length).all fun k=>decide (k<i+2)||oE p i k)
def APB (p:List Pt):Bool:=(List.range p.length).all fun i=>(List.range i).all fun k=>!decide (pt p i=pt p k)
def n0 (p:List Pt):Bool:=APB p&&(List.range p.length).all (pC p)
theorem AYQ {u1 v1 u2 v2:Int} (h:u1*v2=u2*v1) (h0:0<u1) (h1:u1≤v1):(0≤u2∧u2≤v2)∨(v2≤u2∧u2≤0):=by
 have key:∀ {u2 v2:Int},u1*v2=u2*v1→0≤v2→0≤u2∧u2≤v2:=fun {u2 v2} h hv=>by
  have n1:0≤u1*v2:=Int.mul_nonneg (by omega) hv
  refine ⟨?_,?_⟩
  ·rcases Int.lt_or_le u2 0 with hc|hc
   ·have:=Int.mul_neg_of_neg_of_pos hc (show 0<v1 by omega);omega
   ·exact hc
  ·rcases Int.lt_or_le v2 u2 with hc|hc
   ·have a1:=Int.mul_lt_mul_of_pos_right hc (show 0<v1 by omega)
    have a2:=Int.mul_le_mul_of_nonneg_right h1 hv
    rw[Int.mul_comm v1 v2] at a2;omega
   ·exact hc
 rcases Int.le_total 0 v2 with hv|hv
 ·exact .inl (key h hv)
 ·have:=key (u2:=-u2) (v2:=-v2) (by rw[Int.mul_neg,Int.neg_mul,h]) (by omega)
  exact .inr ⟨by omega,by omega⟩
def On0 (u1 u2 v1 v2:Int):Prop:=((0≤u1∧u1≤v1)∨(v1≤u1∧u1≤0))∧((0≤u2∧u2≤v2)∨(v2≤u2∧u2≤0))
theorem ARO {u1 u2 v1 v2:Int} (h:u1*v2=u2*v1) (hp:0<u1*v1):On0 u1 u2 v1 v2∨On0 v1 v2 u1 u2:=by
 have pos:∀ {u1 u2 v1 v2:Int},u1*v2=u2*v1→0<u1→0<v1→On0 u1 u2 v1 v2∨On0 v1 v2 u1 u2:=fun {u1 u2 v1 v2} h hu hv=>by
  rcases Int.le_total u1 v1 with hc|hc
  ·exact .inl ⟨.inl ⟨by omega,hc⟩,AYQ h hu hc⟩
  ·exact .inr ⟨.inl ⟨by omega,hc⟩,AYQ (by rw[Int.mul_comm v1,Int.mul_comm v2];exact h.symm) hv hc⟩
 rcases Int.lt_trichotomy u1 0 with hu|hu|hu
 ·have hv:v1<0:=by
   rcases Int.lt_or_le v1 0 with hc|hc
   ·exact hc
   ·have:=Int.mul_nonneg (show 0≤-u1 by omega) hc;rw[Int.neg_mul] at this;omega
  have:=pos (u1:=-u1) (u2:=-u2) (v1:=-v1) (v2:=-v2) (by rw[Int.neg_mul_neg,Int.neg_mul_neg,h]) (by omega) (by omega)
  unfold On0 at this ⊢
  omega
 ·subst hu;simp at hp
 ·have hv:0<v1:=by
   rcases Int.lt_or_le 0 v1 with hc|hc
   ·exact hc
   ·have:=Int.mul_nonneg (show 0≤u1 by omega) (show 0≤-v1 by omega);rw[Int.mul_neg] at this;omega
  exact pos h hu hv
theorem AHW {u1 u2 v1 v2:Int} (h:On0 u1 u2 v1 v2) (hne:u1≠0∨u2≠0):0<u1*v1+u2*v2:=by
 have one:∀ {u v:Int},(0≤u∧u≤v)∨(v≤u∧u≤0)→0≤u*v∧(u≠0→0<u*v):=fun {u v} h=>by
  rcases h with ⟨h1,h2⟩|⟨h1,h2⟩
  ·refine ⟨Int.mul_nonneg h1 (by omega),fun hn=>Int.mul_pos (by omega) (by omega)⟩
  ·have e:u*v=(-u)*(-v):=by rw[Int.neg_mul_neg]
   refine ⟨by rw[e];exact Int.mul_nonneg (by omega) (by omega),fun hn=>by rw[e];exact Int.mul_pos (by omega) (by omega)⟩
 obtain ⟨a1,a2⟩:=one h.1
 obtain ⟨b1,b2⟩:=one h.2
 rcases hne with hn|hn
 ·have:=a2 hn;omega
 ·have:=b2 hn;omega
theorem AH4 {a b c:Pt} (hab:a≠b) (hbc:b≠c):(decide (aE a b c=0)&&decide (0<j0 a b c))=(gN b c a||gN a b c):=by
 have k1:aE a b c=(a.2-b.2)*(c.1-b.1)-(a.1-b.1)*(c.2-b.2):=by simp only[aE];grind
 have k2:aE b c a=(a.2-b.2)*(c.1-b.1)-(a.1-b.1)*(c.2-b.2):=by simp only[aE];grind
 have o1:gN b c a=true↔(a.1-b.1)*(c.2-b.2)=(a.2-b.2)*(c.1-b.1)∧On0 (a.1-b.1) (a.2-b.2) (c.1-b.1) (c.2-b.2):=by
  unfold gN G0 On0
  rw[k2]
  generalize (a.1-b.1)*(c.2-b.2)=X
  generalize (a.2-b.2)*(c.1-b.1)=Y
  simp only[Bool.and_eq_true,decide_eq_true_eq]
  omega
 have o2:gN a b c=true↔(a.1-b.1)*(c.2-b.2)=(a.2-b.2)*(c.1-b.1)∧On0 (c.1-b.1) (c.2-b.2) (a.1-b.1) (a.2-b.2):=by
  unfold gN G0 On0
  rw[k1]
  generalize (a.1-b.1)*(c.2-b.2)=X
  generalize (a.2-b.2)*(c.1-b.1)=Y
  simp only[Bool.and_eq_true,decide_eq_true_eq]
  omega
 have nab:a.1-b.1≠0∨a.2-b.2≠0:=by
  by_cases h:a.1-b.1=0
  ·exact .inr fun h2=>hab (Prod.ext (by omega) (by omega))
  ·exact .inl h
 have ncb:c.1-b.1≠0∨c.2-b.2≠0:=by
  by_cases h:c.1-b.1=0
  ·exact .inr fun h2=>hbc (Prod.ext (by omega) (by omega))
  ·exact .inl h
 rw[Bool.eq_iff_iff,Bool.or_eq_true,o1,o2,Bool.and_eq_true,decide_eq_true_eq,decide_eq_true_eq,k1]
 have hd:j0 a b c=(a.1-b.1)*(c.1-b.1)+(a.2-b.2)*(c.2-b.2):=rfl
 rw[hd]
 generalize a.1-b.1=u1 at *
 generalize a.2-b.2=u2 at *
 generalize c.1-b.1=v1 at *
 generalize c.2-b.2=v2 at *
 constructor
 ·rintro ⟨h1,h2⟩
  have h:u1*v2=u2*v1:=by omega
  rcases Int.lt_or_le 0 (u1*v1) with hp|hp
  ·rcases ARO h hp with h3|h3
   ·exact .inl ⟨h,h3⟩
   ·exact .inr ⟨h,h3⟩
  ·have hp2:0<u2*v2:=by omega
   rcases ARO (u1:=u2) (u2:=u1) (v1:=v2) (v2:=v1) h.symm hp2 with h3|h3
   ·exact .inl ⟨h,h3.2,h3.1⟩
   ·exact .inr ⟨h,h3.2,h3.1⟩
 ·rintro (⟨h,h3⟩|⟨h,h3⟩)
  ·exact ⟨by omega,AHW h3 nab⟩
  ·have:=AHW h3 ncb
   rw[Int.mul_comm v1,Int.mul_comm v2] at this
   exact ⟨by omega,this⟩
theorem AEI (a b c:Pt):bJ a b a c=true:=by
 unfold bJ
 rw[show gN a b a=true from by
  unfold gN G0
  rw[show aE a b a=0 by simp only[aE];grind,decide_eq_true rfl,decide_eq_true (show min a.1 b.1≤a.1 by omega),decide_eq_true (show a.1≤max a.1 b.1 by omega),decide_eq_true (show min a.2 b.2≤a.2 by omega),decide_eq_true (show a.2≤max a.2 b.2 by omega)]
  rfl]
 rfl
theorem ANC {p:List Pt} (h3:3≤p.length):n0 p=l9 p:=by
 rw[Bool.eq_iff_iff]
 have nxt:∀ i,i<p.length→(i+1) % p.length<p.length:=fun i _=>Nat.mod_lt _ (by omega)
 constructor
 ·intro h
  unfold n0 at h
  rw[Bool.and_eq_true] at h
  obtain ⟨h1,h2⟩:=h
  have dist:∀ i k,i<p.length→k<i→pt p i≠pt p k:=fun i k hi hk e=>by
   have:=b9.1 (b9.1 h1 i hi) k hk
   rw[decide_eq_true e] at this;cases this
  have dist2:∀ i k,i<p.length→k<p.length→i≠k→pt p i≠pt p k:=fun i k hi hk hne=>by
   rcases Nat.lt_or_ge k i with h|h
   ·exact dist i k hi h
   ·exact (dist k i hk (by omega)).symm
  have ab:∀ i,i<p.length→pt p i≠nx p i:=fun i hi=>dist2 _ _ hi (nxt i hi) (by
   rcases Nat.lt_or_ge (i+1) p.length with h|h
   ·rw[Nat.mod_eq_of_lt h];omega
   ·rw[show i+1=p.length by omega,Nat.mod_self];omega)
  refine b9.2 fun i hi=>?_
  have h4:=b9.1 h2 i hi
  unfold pC at h4
  simp only[Bool.and_eq_true,Bool.not_eq_true'] at h4
  unfold AL
  have hbc:nx p i≠lL p i:=by
   have:=ab _ (nxt i hi)
   unfold lL
   unfold nx at this ⊢
   rwa[Nat.mod_add_mod] at this
  rw[AH4 (ab i hi) hbc,h4.1,h4.2.1,decide_eq_false (ab i hi),h4.2.2];rfl
 ·intro h
  have at_:∀ i,i<p.length→AL p i=true:=fun i hi=>b9.1 h i hi
  have ab:∀ i,i<p.length→pt p i≠nx p i:=fun i hi e=>by
   have:=at_ i hi
   unfold AL at this
   rw[decide_eq_true e] at this;cases this
  have pair:∀ i k,i<p.length→k<p.length→i+2≤k→(k+1) % p.length≠i→bJ (pt p i) (nx p i) (pt p k) (nx p k)=false:=fun i k hi hk hik hne=>by
   have:=at_ i hi
   unfold AL at this
   simp only[Bool.and_eq_true] at this
   have h5:=b9.1 this.2.2 k hk
   rw[decide_eq_false (by omega),Bool.false_or] at h5
   unfold oE at h5
   rw[decide_eq_false hne] at h5
   simpa using h5
  unfold n0
  rw[Bool.and_eq_true]
  refine ⟨b9.2 fun i hi=>b9.2 fun k hk=>?_,b9.2 fun i hi=>?_⟩
  ·rw[Bool.not_eq_true',decide_eq_false_iff_not]
   intro e
   by_cases h1:k+1=i
   ·refine ab k (by omega) ?_
    unfold nx
    rw[Nat.mod_eq_of_lt (by omega),h1,e]
   ·by_cases h2:(i+1) % p.length=k
    ·refine ab i hi ?_
     unfold nx
     rw[h2,e]
    ·have:=pair k i (by omega) hi (by omega) h2
     rw[e,AEI] at this;cases this
  ·have h4:=at_ i hi
   unfold AL at h4
   have hbc:nx p i≠lL p i:=by
    have:=ab _ (nxt i hi)
    unfold lL
    unfold nx at this ⊢
    rwa[Nat.mod_add_mod] at this
   rw[AH4 (ab i hi) hbc] at h4
   unfold pC
   simp only[Bool.and_eq_true,Bool.not_eq_true',Bool.or_eq_false_iff] at h4 ⊢
   exact ⟨h4.2.1.1,h4.2.1.2,h4.2.2⟩
end Go.Pv
namespace Go.Pv
open Go Go.Proofs
noncomputable def wN:Env:=Env.of [(192,.pure gT),(211,.pure nF)]
def J8:FuncId→Hint:=fun f=>match f == 189 with|true=>⟨fun r=>match r == 3 with|true=>.inv [.val 4 false (.int .i64)]|false=>match r == 6 with|true=>.inv [.val 5 false (.int .i64)]|false=>match r == 11 with|true=>.inv [.val 6 false (.int .i64)]|false=>match r == 17 with|true=>.inv [.val 10 false (.int .i64)]|false=>.none,fun _ _=>none,fun _=>none⟩|false=>aS
theorem Q9:aF Tryz.prog wN:=aF.cons (x:=.pure gT) SV (aF.cons (x:=.pure nF) AKR (aF.nil _))
def wT (a0:List aI) (R:T→Prop):Prop :=
 bE (Int×PUnit)
 (fun (X0:Int×PUnit→Prop) (s1:Int×PUnit) =>
 aC (decide (s1.1<(↑(List.map aA.enc a0).length:Int)))
 (bE (Int×PUnit)
 (fun (X2:Int×PUnit→Prop) (s3:Int×PUnit) =>
 aC (decide (s3.1<s1.1))
 (aZ aA (List.map aA.enc a0) s1.1 fun (y4:aI) =>
 aZ aA (List.map aA.enc a0) s3.1 fun (y5:aI) =>
 aC (decide (y4.1=y5.1)&&(decide (y4.2=y5.2)&&true))
 (R (T.v (.bool false))) (X2 (IntKind.i64.wrap (s3.1+1),())))
 (X0 (IntKind.i64.wrap (s1.1+1),())))
 (0,()))
 (bE (Int×PUnit)
 (fun (X6:Int×PUnit→Prop) (s7:Int×PUnit) =>
 aC (decide (s7.1<(↑(List.map aA.enc a0).length:Int)))
 (aZ aA (List.map aA.enc a0) s7.1 fun (y8:aI) =>
 bS (!decide ((↑(List.map aA.enc a0).length:Int)=0))
 (aZ aA (List.map aA.enc a0)
 ((IntKind.i64.wrap (s7.1+1)).tmod (↑(List.map aA.enc a0).length:Int))
 fun (y9:aI) =>
 bS (!decide ((↑(List.map aA.enc a0).length:Int)=0))
 (aZ aA (List.map aA.enc a0)
 ((IntKind.i64.wrap (s7.1+2)).tmod (↑(List.map aA.enc a0).length:Int))
 fun (y10:aI) =>
 aH [(false,Sy.bool)]
 (gT
 [aB true aA y8,aB true aA y9,
 aB true aA y10])
 fun (y11:Bool) =>
 aC y11 (R (T.v (.bool false)))
 (aH [(false,Sy.bool)]
 (gT
 [aB true aA y10,aB true aA y8,
 aB true aA y9])
 fun (y12:Bool) =>
 aC y12 (R (T.v (.bool false)))
 (bE (Int×PUnit)
 (fun (X13:Int×PUnit→Prop) (s14:Int×PUnit) =>
 aC (decide (s14.1<(↑(List.map aA.enc a0).length:Int)))
 (bS (!decide ((↑(List.map aA.enc a0).length:Int)=0))
 (aC
 (!decide
 ((IntKind.i64.wrap (s14.1+1)).tmod
 (↑(List.map aA.enc a0).length:Int) =
 s7.1))
 (aZ aA (List.map aA.enc a0) s14.1
 fun (y15:aI) =>
 bS (!decide ((↑(List.map aA.enc a0).length:Int)=0))
 (aZ aA (List.map aA.enc a0)
 ((IntKind.i64.wrap (s14.1+1)).tmod
 (↑(List.map aA.enc a0).length:Int))
 fun (y16:aI) =>
 aH [(false,Sy.bool)]
 (nF
 [aB true aA y8,aB true aA y9,
 aB true aA y15,aB true aA y16])
 fun (y17:Bool) =>
 aC y17 (R (T.v (.bool false)))
 (X13 (IntKind.i64.wrap (s14.1+1),()))))
 (X13 (IntKind.i64.wrap (s14.1+1),()))))
 (X6 (IntKind.i64.wrap (s7.1+1),())))
 (IntKind.i64.wrap (s7.1+2),()))))))
 (R (T.v (.bool true))))
 (0,())))
 (0,())
theorem NF ( a0 R):bD aX Tryz.prog wN J8 8 189 [aB false aA.li a0] R=wT a0 R:=by kernel_rfl
abbrev rO:Sh:=[(false,aA.li)]
def tS (p:List aI):Option T:=L2 p (T.v (.bool (n0 p)))
noncomputable def jF:List T→Option (T):=gS rO tS
theorem NR {a0}:jF [T.sl false (List.map aA.enc a0)]=tS (a0):=aT (s:=rO) rfl (a0) rfl
theorem AA2 (h:∀ a0 r,tS (a0)=some r→bU rO (a0)→wT a0 (fun y=>y=r)):aJ Tryz.prog 189 jF :=
 aN (E:=wN) (Hs:=J8) Q9 aU aV (aK rfl) 8 ⟨_,_,Tryz.func189,rfl⟩ rfl fun x r h1 h2=>by
  let a0:=x
  rw[show Sh.bI rO (a0)=[aB false aA.li a0] from rfl,NF]
  exact h a0 r h1 h2
theorem Y0:aJ Tryz.prog 189 jF:=AA2 fun p r h hb=>by
 obtain ⟨hl,hn,rfl⟩:=L3 h
 clear h
 have is:∀ {b:Bool},n0 p=b→T.v (.bool b)=T.v (.bool (n0 p)):=fun h=>by rw[h]
 have nw:∀ {k:Nat},k≤3000→IntKind.i64.wrap ((k:Int)+1)=((k+1:Nat):Int):=fun h=>aO _ (by omega) (by omega)
 unfold wT
 refine aR p.length (fun k s=>s=((k:Int),())∧∀ i,i<k→i<p.length→∀ j,j<i→pt p i≠pt p j) ⟨rfl,fun i h=>by omega⟩ ?_
 rintro X k s hk ⟨rfl,hJ⟩ hX
 dsimp only
 refine bT (fun hlt=>?_) fun hge=>?_
 ·rw[List.length_map] at hlt
  have hlt:k<p.length:=by omega
  refine aR k (fun j s=>s=((j:Int),())∧∀ i,i<j→pt p k≠pt p i) ⟨rfl,fun i h=>by omega⟩ ?_
  rintro Y j s hj ⟨rfl,hI⟩ hY
  dsimp only
  refine bT (fun hjl=>?_) fun hjl=>hX _ hlt ⟨by rw[nw (by omega)],fun i h1 h2 j' h3=>by
   rcases Nat.lt_or_ge i k with h4|h4
   ·exact hJ i h4 h2 j' h3
   ·have:i=k:=by omega
    subst this;exact hI j' (by omega)⟩
  have hjl:j<k:=by omega
  rw[bN hlt,bN (show j<p.length by omega)]
  have heq:(decide ((pt p k).1=(pt p j).1)&&(decide ((pt p k).2=(pt p j).2)&&true))=decide (pt p k=pt p j):=by
   rw[Bool.and_true,←Bool.decide_and]
   exact decide_eq_decide.2 Prod.ext_iff.symm
  rw[heq]
  refine bT (fun h=>is ?_) fun h=>hY _ hjl ⟨by rw[nw (by omega)],fun i hi=>by
   rcases Nat.lt_or_ge i j with h4|h4
   ·exact hI i h4
   ·have:i=j:=by omega
    subst this;exact h⟩
  unfold n0 APB
  rw[oI hlt (oI hjl (by rw[decide_eq_true h];rfl))];rfl
 rw[List.length_map] at hge
 have hd:APB p=true:=b9.2 fun i hi=>b9.2 fun j hj=>by
  rw[decide_eq_false (hJ i (by omega) hi j hj)];rfl
 have w:n0 p=(List.range p.length).all (pC p):=by unfold n0;rw[hd];rfl
 clear hJ hX hd
 refine aR p.length (fun k s=>s=((k:Int),())∧∀ i,i<k→i<p.length→pC p i=true) ⟨rfl,fun i h=>by omega⟩ ?_
 rintro X k s hk ⟨rfl,hJ⟩ hX
 dsimp only
 refine bT (fun hlt=>?_) fun hge=>is (w.trans (b9.2 fun i hi=>hJ i (by rw[List.length_map] at hge;omega) hi))
 rw[List.length_map] at hlt
 have hlt:k<p.length:=by omega
 have hne:(!decide (((List.map aA.enc p).length:Int)=0))=true:=by rw[List.length_map,decide_eq_false (by omega)];rfl
 have hm1:(k+1) % p.length<p.length:=Nat.mod_lt _ (by omega)
 have hm2:(k+2) % p.length<p.length:=Nat.mod_lt _ (by omega)
 have i1:(IntKind.i64.wrap ((k:Int)+1)).tmod ((List.map aA.enc p).length:Int)=(((k+1) % p.length:Nat):Int):=by rw[List.length_map];exact gM (c:=1) hl (by omega) (by omega)
 have i2:(IntKind.i64.wrap ((k:Int)+2)).tmod ((List.map aA.enc p).length:Int)=(((k+2) % p.length:Nat):Int):=by rw[List.length_map];exact gM (c:=2) hl (by omega) (by omega)
 have bad:pC p k=false→T.v (.bool false)=T.v (.bool (n0 p)):=fun h=>is (w.trans (oI hlt h))
 rw[bN hlt,i1]
 refine ⟨hne,?_⟩
 rw[bN hm1,i2]
 refine ⟨hne,?_⟩
 rw[bN hm2]
 refine aD (s:=[(false,.bool)]) (kK (hn.pt _) (hn.pt _) (hn.pt _)) ?_
 refine vR (fun h=>bad (by unfold pC;rw[show gN (nx p k) (lL p k) (pt p k)=true from h];rfl)) fun o1=>?_
 refine aD (s:=[(false,.bool)]) (kK (hn.pt _) (hn.pt _) (hn.pt _)) ?_
 refine vR (fun h=>bad (by unfold pC;rw[show gN (pt p k) (nx p k) (lL p k)=true from h];simp)) fun o2=>?_
 have e:pC p k=(List.range p.length).all fun j=>decide (j<k+2)||oE p k j:=by
  unfold pC;rw[show gN (nx p k) (lL p k) (pt p k)=false from o1,show gN (pt p k) (nx p k) (lL p k)=false from o2];rfl
 refine aR p.length (fun m s=>s=(((k+2+m:Nat):Int),())∧∀ j,j<k+2+m→j<p.length→(decide (j<k+2)||oE p k j)=true) ⟨by rw[show IntKind.i64.wrap ((k:Int)+2)=((k+2+0:Nat):Int) from aO _ (by omega) (by omega)],fun j h _=>by rw[decide_eq_true (by omega)];rfl⟩ ?_
 rintro Y m s hm ⟨rfl,hI⟩ hY
 dsimp only
 refine bT (fun hjl=>?_) fun hjl=>hX _ hlt ⟨by rw[nw (by omega)],fun i h1 h2=>by
  rcases Nat.lt_or_ge i k with h4|h4
  ·exact hJ i h4 h2
  ·have:i=k:=by omega
   subst this
   rw[e]
   exact b9.2 fun j hj=>hI j (by rw[List.length_map] at hjl;omega) hj⟩
 rw[List.length_map] at hjl
 have hj:k+2+m<p.length:=by omega
 have hix:(IntKind.i64.wrap (((k+2+m:Nat):Int)+1)).tmod ((List.map aA.enc p).length:Int)=(((k+2+m+1) % p.length:Nat):Int):=by rw[List.length_map];exact gM (c:=1) hl (by omega) (by omega)
 have hw:IntKind.i64.wrap (((k+2+m:Nat):Int)+1)=((k+2+(m+1):Nat):Int):=by rw[aO _ (by omega) (by omega)];omega
 have hmod:(k+2+m+1) % p.length<p.length:=Nat.mod_lt _ (by omega)
 have go:oE p k (k+2+m)=true→Y (((k+2+(m+1):Nat):Int),()):=fun h=>hY _ (by omega) ⟨rfl,fun j h1 h2=>by
  rcases Nat.lt_or_ge j (k+2+m) with h3|h3
  ·exact hI j h3 h2
  ·have:j=k+2+m:=by omega
   subst this;rw[h];simp⟩
 refine ⟨hne,?_⟩
 rw[hix,hw]
 refine rX (fun h=>?_) fun h=>go (by unfold oE;rw[decide_eq_true (show (k+2+m+1) % p.length=k by omega)];rfl)
 rw[bN hj,ABE,bN hmod]
 refine ⟨hne,?_⟩
 refine aD (s:=[(false,.bool)]) (ZI (hn.pt _) (hn.pt _) (hn.pt _) (hn.pt _)) ?_
 have e2:oE p k (k+2+m) = !bJ (pt p k) (nx p k) (pt p (k+2+m)) (nx p (k+2+m)):=by
  unfold oE;rw[decide_eq_false (show ¬ (k+2+m+1) % p.length=k by omega)];rfl
 refine vR (fun hmt=>bad ?_) fun hmt=>go ?_
 ·rw[e]
  refine oI hj ?_
  show (decide (k+2+m<k+2)||oE p k (k+2+m))=false
  rw[e2,show bJ (pt p k) (nx p k) (pt p (k+2+m)) (nx p (k+2+m))=true from hmt];simp
 ·rw[e2,show bJ (pt p k) (nx p k) (pt p (k+2+m)) (nx p (k+2+m))=false from hmt];rfl
theorem NS {p:List Pt} (h:p.length≤1000) (h2:fH p):jF [T.sl false (List.map aA.enc p)]=some (Sh.enc [(false,.bool)] (n0 p)):=(NR ..).trans (L4 _ h h2)
noncomputable def IE:Env:=Env.of [(188,.pure mL),(189,.pure jF)]
def W6:FuncId→Hint:=fun _=>aS
theorem ACS:aF Tryz.prog IE:=aF.cons (x:=.pure mL) AEW (aF.cons (x:=.pure jF) Y0 (aF.nil _))
def JJ (a0:List aI) (R:T→Prop):Prop :=
 aC (decide ((↑(List.map aA.enc a0).length:Int)<3)) (R (T.v (.int .i64 3)))
 (aC (decide (32<(↑(List.map aA.enc a0).length:Int)))
 (R (T.v (.int .i64 4)))
 (aH [(false,Sy.bool)] (mL [T.sl false (List.map aA.enc a0)])
 fun (y0:Bool) =>
 aC (!y0) (R (T.v (.int .i64 9)))
 (aH [(false,Sy.bool)] (jF [T.sl false (List.map aA.enc a0)])
 fun (y1:Bool) =>
 aC (!y1) (R (T.v (.int .i64 17)))
 (R (T.v (.int .i64 0))))))
theorem V3 ( a0 R):bD aX Tryz.prog IE W6 8 159 [aB false aA.li a0] R=JJ a0 R:=by kernel_rfl
abbrev BJ:Sh:=[(false,aA.li)]
def E3 (p:List aI):Option T:=some (T.v (Value.int .i64 (cU p)))
noncomputable def eV:List T→Option (T):=gS BJ E3
theorem ZP {a0}:eV [T.sl false (List.map aA.enc a0)]=E3 (a0):=aT (s:=BJ) rfl (a0) rfl
theorem AMF (h:∀ a0 r,E3 (a0)=some r→bU BJ (a0)→JJ a0 (fun y=>y=r)):aJ Tryz.prog 159 eV :=
 aN (E:=IE) (Hs:=W6) ACS aU aV (aK rfl) 8 ⟨_,_,Tryz.func159,rfl⟩ rfl fun x r h1 h2=>by
  let a0:=x
  rw[show Sh.bI BJ (a0)=[aB false aA.li a0] from rfl,V3]
  exact h a0 r h1 h2
theorem DX:aJ Tryz.prog 159 eV:=AMF fun p r h hb=>by
 cases h
 have is:∀ {n:Int},cU p=n→T.v (.int .i64 n)=T.v (.int .i64 (cU p)):=fun h=>by rw[h]
 unfold JJ
 refine bT (fun h=>is (by rw[List.length_map] at h;unfold cU;rw[if_pos (by omega)])) fun h1=>?_
 refine bT (fun h=>is (by rw[List.length_map] at h h1;unfold cU;rw[if_neg (by omega),if_pos (by omega)])) fun h2=>?_
 rw[List.length_map] at h1 h2
 refine aD (s:=[(false,.bool)]) (y:=wC p) (S2 ..) ?_
 refine pU (fun h=>is (by unfold cU;rw[if_neg (by omega),if_neg (by omega),if_pos h])) fun hb=>?_
 have hN:=gJ.1 hb
 have hnb:¬ wC p=false:=by rw[hb];simp
 refine aD (s:=[(false,.bool)]) (NS (by omega) hN) ?_
 rw[ANC (by omega)]
 refine pU (fun h=>is (by unfold cU;rw[if_neg (by omega),if_neg (by omega),if_neg hnb,if_pos (.inl h)])) fun hs=>is ?_
 have hs:l9 p=true:=hs
 unfold cU
 rw[if_neg (by omega),if_neg (by omega),if_neg hnb,if_neg]
 rintro (h|h)
 ·rw[hs] at h;cases h
 ·exact ANE hs (by omega) hN h
theorem oM (p:List Pt):eV [T.sl false (List.map aA.enc p)]=some (Sh.enc [(false,.int .i64)] (cU p)):=ZP ..
noncomputable def HV:Env:=Env.of [(159,.pure eV)]
def WO:FuncId→Hint:=fun f=>match f == 129 with|true=>⟨fun r=>match r == 5 with|true=>.inv [.val 3 false (.int .i64),.val 4 false (.int .i64)]|false=>.none,fun _ _=>none,fun _=>none⟩|false=>aS
theorem ACA:aF Tryz.prog HV:=aF.cons (x:=.pure eV) DX (aF.nil _)
def I1 (a0:List aI) (R:T→Prop):Prop :=
 aH [(false,Sy.int IntKind.i64)] (eV [T.sl false (List.map aA.enc a0)])
 fun (y0:Int) =>
 aC (!decide (y0=0)) (R (T.v (.int .i64 0)))
 (bE (Int×Int×PUnit)
 (fun (X1:Int×Int×PUnit→Prop) (s2:Int×Int×PUnit) =>
 aC (decide (s2.2.1<(↑(List.map aA.enc a0).length:Int)))
 (aZ aA (List.map aA.enc a0) s2.2.1 fun (y3:aI) =>
 bS (!decide ((↑(List.map aA.enc a0).length:Int)=0))
 (aZ aA (List.map aA.enc a0)
 ((IntKind.i64.wrap (s2.2.1+1)).tmod (↑(List.map aA.enc a0).length:Int))
 fun (y4:aI) =>
 X1
 (IntKind.i64.wrap
 (IntKind.i64.wrap (s2.1+IntKind.i64.wrap (y3.1*y4.2)) -
 IntKind.i64.wrap (y3.2*y4.1)),
 IntKind.i64.wrap (s2.2.1+1),())))
 (R (T.v (.int .i64 s2.1))))
 (0,0,()))
theorem VM ( a0 R):bD aX Tryz.prog HV WO 8 129 [aB false aA.li a0] R=I1 a0 R:=by kernel_rfl
abbrev A3:Sh:=[(false,aA.li)]
def EP (p:List aI):Option T:=some (T.v (Value.int .i64 (fC p)))
noncomputable def gQ:List T→Option (T):=gS A3 EP
theorem Y5 {a0}:gQ [T.sl false (List.map aA.enc a0)]=EP (a0):=aT (s:=A3) rfl (a0) rfl
theorem ALY (h:∀ a0 r,EP (a0)=some r→bU A3 (a0)→I1 a0 (fun y=>y=r)):aJ Tryz.prog 129 gQ :=
 aN (E:=HV) (Hs:=WO) ACA aU aV (aK rfl) 8 ⟨_,_,Tryz.func129,rfl⟩ rfl fun x r h1 h2=>by
  let a0:=x
  rw[show Sh.bI A3 (a0)=[aB false aA.li a0] from rfl,VM]
  exact h a0 r h1 h2
theorem O2:aJ Tryz.prog 129 gQ:=ALY fun p r h hb=>by
 cases h
 unfold I1
 refine aD (s:=[(false,.int .i64)]) (oM p) ?_
 refine rX (fun h=>o8 (by unfold fC;rw[if_neg h])) fun h=>?_
 obtain ⟨_,h2,hn,_⟩:=c9 h
 have e0:fC p=dU p:=by unfold fC;rw[if_pos h]
 refine aR p.length (fun k s=>s=(cE k (yE p),(k:Int),())) rfl ?_
 rintro X k s hk rfl hX
 dsimp only
 refine bT (fun hlt=>?_) fun hge=>o8 (by rw[List.length_map] at hge;rw[e0,show k=p.length by omega];rfl)
 rw[List.length_map] at hlt
 have hlt:k<p.length:=by omega
 have hne:(!decide (((List.map aA.enc p).length:Int)=0))=true:=by rw[List.length_map,decide_eq_false (by omega)];rfl
 have hm1:(k+1) % p.length<p.length:=Nat.mod_lt _ (by omega)
 have i1:(IntKind.i64.wrap ((k:Int)+1)).tmod ((List.map aA.enc p).length:Int)=(((k+1) % p.length:Nat):Int):=by rw[List.length_map];exact gM (c:=1) (by omega) (by omega) (by omega)
 rw[bN hlt,i1]
 refine ⟨hne,?_⟩
 rw[bN hm1]
 have hb1:=UM hn k
 have hb2:=uB hn k
 have hb3:=uB hn (k+1)
 refine hX _ hlt ?_
 rw[show IntKind.i64.wrap ((k:Int)+1)=((k+1:Nat):Int) from aO _ (by omega) (by omega)]
 have e:IntKind.i64.wrap (IntKind.i64.wrap (cE k (yE p)+IntKind.i64.wrap ((pt p k).1*(nx p k).2))-IntKind.i64.wrap ((pt p k).2*(nx p k).1))=cE (k+1) (yE p):=by
  rw[Int.mul_comm (pt p k).2,aO ((pt p k).1*(nx p k).2) (by omega) (by omega),aO ((nx p k).1*(pt p k).2) (by omega) (by omega),aO (cE k (yE p)+(pt p k).1*(nx p k).2) (by omega) (by omega),aO _ (by omega) (by omega)]
  show _=cE k (yE p)+yE p k
  unfold yE
  omega
 rw[←e];rfl
theorem sM (p:List Pt):gQ [T.sl false (List.map aA.enc p)]=some (Sh.enc [(false,.int .i64)] (fC p)):=Y5 ..
noncomputable def CT:Env:=Env.of [(159,.pure eV),(191,.pure iA),(192,.pure gT),(193,.pure cX)]
def OL:FuncId→Hint:=fun f=>match f == 161 with|true=>⟨fun r=>match r == 5 with|true=>.inv [.val 5 false .bool,.val 6 false (.int .i64)]|false=>.none,fun _ _=>none,fun _=>none⟩|false=>aS
theorem VL:aF Tryz.prog CT:=aF.cons (x:=.pure eV) DX (aF.cons (x:=.pure iA) K8 (aF.cons (x:=.pure gT) SV (aF.cons (x:=.pure cX) DY (aF.nil _))))
def DC (a0:List aI) (a1:aI) (R:T→Prop):Prop :=
 aH [(false,Sy.int IntKind.i64)] (eV [T.sl false (List.map aA.enc a0)])
 fun (y0:Int) =>
 aC (!decide (y0=0)) (R (T.v (.int .i64 (-1))))
 (aH [(false,Sy.bool)] (iA [aB true aA a1]) fun (y1:Bool) =>
 aC (!y1) (R (T.v (.int .i64 (-1))))
 (bE (Bool×Int×PUnit)
 (fun (X2:Bool×Int×PUnit→Prop) (s3:Bool×Int×PUnit) =>
 aC (decide (s3.2.1<(↑(List.map aA.enc a0).length:Int)))
 (aZ aA (List.map aA.enc a0) s3.2.1 fun (y4:aI) =>
 bS (!decide ((↑(List.map aA.enc a0).length:Int)=0))
 (aZ aA (List.map aA.enc a0)
 ((IntKind.i64.wrap (s3.2.1+1)).tmod (↑(List.map aA.enc a0).length:Int))
 fun (y5:aI) =>
 aH [(false,Sy.bool)]
 (gT
 [aB true aA a1,aB true aA y4,
 aB true aA y5])
 fun (y6:Bool) =>
 aC y6 (R (T.v (.int .i64 0)))
 (aC (decide (y4.2≤a1.2))
 (aC (decide (a1.2<y5.2))
 (aH [(false,Sy.int IntKind.i64)]
 (cX
 [aB true aA y4,aB true aA y5,
 aB true aA a1])
 fun (y7:Int) =>
 aC (decide (y5.2≤a1.2))
 (aC (decide (a1.2<y4.2))
 (aH [(false,Sy.int IntKind.i64)]
 (cX
 [aB true aA y4,aB true aA y5,
 aB true aA a1])
 fun (y8:Int) =>
 aC (decide (0<y7))
 (X2 (!s3.1,IntKind.i64.wrap (s3.2.1+1),()))
 (aC (decide (y8<0))
 (X2 (!s3.1,IntKind.i64.wrap (s3.2.1+1),()))
 (X2 (s3.1,IntKind.i64.wrap (s3.2.1+1),()))))
 (aC (decide (0<y7)) (X2 (!s3.1,IntKind.i64.wrap (s3.2.1+1),()))
 (X2 (s3.1,IntKind.i64.wrap (s3.2.1+1),()))))
 (aC (decide (0<y7)) (X2 (!s3.1,IntKind.i64.wrap (s3.2.1+1),()))
 (X2 (s3.1,IntKind.i64.wrap (s3.2.1+1),()))))
 (aC (decide (y5.2≤a1.2))
 (aC (decide (a1.2<y4.2))
 (aH [(false,Sy.int IntKind.i64)]
 (cX
 [aB true aA y4,aB true aA y5,
 aB true aA a1])
 fun (y9:Int) =>
 aC (decide (y9<0)) (X2 (!s3.1,IntKind.i64.wrap (s3.2.1+1),()))
 (X2 (s3.1,IntKind.i64.wrap (s3.2.1+1),())))
 (X2 (s3.1,IntKind.i64.wrap (s3.2.1+1),())))
 (X2 (s3.1,IntKind.i64.wrap (s3.2.1+1),()))))
 (aC (decide (y5.2≤a1.2))
 (aC (decide (a1.2<y4.2))
 (aH [(false,Sy.int IntKind.i64)]
 (cX
 [aB true aA y4,aB true aA y5,
 aB true aA a1])
 fun (y10:Int) =>
 aC (decide (y10<0)) (X2 (!s3.1,IntKind.i64.wrap (s3.2.1+1),()))
 (X2 (s3.1,IntKind.i64.wrap (s3.2.1+1),())))
 (X2 (s3.1,IntKind.i64.wrap (s3.2.1+1),())))
 (X2 (s3.1,IntKind.i64.wrap (s3.2.1+1),()))))))
 (aC s3.1 (R (T.v (.int .i64 1)))
 (R (T.v (.int .i64 (-1))))))
 (false,0,())))
theorem R9 ( a0 a1 R):bD aX Tryz.prog CT OL 8 161 [aB false aA.li a0,aB true aA a1] R=DC a0 a1 R:=by kernel_rfl
abbrev vG:Sh:=[(false,aA.li),(true,aA)]
def yT (x:List aI×aI):Option T:=some (T.v (Value.int .i64 (cF x.1 x.2)))
noncomputable def iC:List T→Option (T):=gS vG yT
theorem TJ {a0 a1}:iC [T.sl false (List.map aA.enc a0),aB true aA a1]=yT (a0,a1):=aT (s:=vG) rfl (a0,a1) rfl
theorem AGM (h:∀ a0 a1 r,yT (a0,a1)=some r→bU vG (a0,a1)→DC a0 a1 (fun y=>y=r)):aJ Tryz.prog 161 iC :=
 aN (E:=CT) (Hs:=OL) VL aU aV (aK rfl) 8 ⟨_,_,Tryz.func161,rfl⟩ rfl fun x r h1 h2=>by
  obtain ⟨a0,a1⟩:=x
  rw[show Sh.bI vG (a0,a1)=[aB false aA.li a0,aB true aA a1] from rfl,R9]
  exact h a0 a1 r h1 h2
theorem AE7:aJ Tryz.prog 161 iC:=AGM fun p q r h hb=>by
 cases h
 have is:∀ {n:Int},cF p q=n→T.v (.int .i64 n)=T.v (.int .i64 (cF p q)):=fun h=>by rw[h]
 unfold DC
 refine aD (s:=[(false,.int .i64)]) (oM p) ?_
 refine rX (fun h=>is (by unfold cF;rw[if_pos (.inr h)])) fun hp=>?_
 refine aD (s:=[(false,.bool)]) (y:=decide (bO q)) (zQ ..) ?_
 refine rX (fun h=>is (by unfold cF;rw[if_pos (.inl h)])) fun hq=>?_
 obtain ⟨hl3,hl32,hn,_⟩:=c9 hp
 have w:cF p q=if AM p q=true then 0 else if eH p q=true then 1 else -1:=by
  unfold cF;rw[if_neg];rintro (h|h)
  ·exact h hq
  ·exact h hp
 refine aR p.length (fun k s=>s=(eD k (fun i=>hit (pt p i) (nx p i) q),(k:Int),())∧∀ i,i<k→i<p.length→gN (pt p i) (nx p i) q=false) ⟨rfl,fun i h=>by omega⟩ ?_
 rintro X k s hk ⟨rfl,hJ⟩ hX
 dsimp only
 refine bT (fun hlt=>?_) fun hge=>?_
 ·rw[List.length_map] at hlt
  have hlt:k<p.length:=by omega
  have hne:(!decide (((List.map aA.enc p).length:Int)=0))=true:=by rw[List.length_map,decide_eq_false (by omega)];rfl
  have hm1:(k+1) % p.length<p.length:=Nat.mod_lt _ (by omega)
  have i1:(IntKind.i64.wrap ((k:Int)+1)).tmod ((List.map aA.enc p).length:Int)=(((k+1) % p.length:Nat):Int):=by rw[List.length_map];exact gM (c:=1) (by omega) (by omega) (by omega)
  rw[bN hlt,i1]
  refine ⟨hne,?_⟩
  rw[bN hm1]
  refine aD (s:=[(false,.bool)]) (kK (hn.pt _) (hn.pt _) hq) ?_
  refine vR (fun h=>is (by rw[w,if_pos (show AM p q=true from dG.2 ⟨k,hlt,h⟩)])) fun ho=>?_
  have hw:IntKind.i64.wrap ((k:Int)+1)=((k+1:Nat):Int):=aO _ (by omega) (by omega)
  have hJ':∀ i,i<k+1→i<p.length→gN (pt p i) (nx p i) q=false:=fun i h1 h2=>by
   rcases Nat.lt_or_ge i k with h3|h3
   ·exact hJ i h3 h2
   ·have:i=k:=by omega
    subst this;exact ho
  have yes:hit (pt p k) (nx p k) q=true→X (!(eD k fun i=>hit (pt p i) (nx p i) q),IntKind.i64.wrap ((k:Int)+1),()):=fun hc=>hX _ hlt ⟨by rw[hw,eD,hc,Bool.xor_true],hJ'⟩
  have no:hit (pt p k) (nx p k) q=false→X ((eD k fun i=>hit (pt p i) (nx p i) q),IntKind.i64.wrap ((k:Int)+1),()):=fun hc=>hX _ hlt ⟨by rw[hw,eD,hc,Bool.xor_false],hJ'⟩
  have hit_def:hit (pt p k) (nx p k) q=((decide ((pt p k).2≤q.2)&&decide (q.2<(nx p k).2)&&decide (0<aE (pt p k) (nx p k) q))||(decide ((nx p k).2≤q.2)&&decide (q.2<(pt p k).2)&&decide (aE (pt p k) (nx p k) q<0))):=rfl
  have tn:cX [aB true aA (pt p k),aB true aA (nx p k),aB true aA q]=some (Sh.enc [(false,.int .i64)] (aE (pt p k) (nx p k) q)):=jQ (hn.pt k) (hn.pt ((k+1) % p.length)) hq
  rw[show pt p ((k+1) % p.length)=nx p k from rfl]
  rw[hit_def] at yes no
  generalize nx p k=b at yes no tn ⊢
  generalize aE (pt p k) b q=C at yes no tn
  clear hJ' hX hJ is w
  repeat' first
   | (refine bT (fun h=>?_) (fun h=>?_))
   | (refine aD (s:=[(false,.int .i64)]) tn ?_)
  all_goals first
   | (refine yes ?_;simp only[Bool.or_eq_true,Bool.and_eq_true,decide_eq_true_eq];omega)
   | (refine no ?_;rw[Bool.eq_false_iff];intro hc;simp only[Bool.or_eq_true,Bool.and_eq_true,decide_eq_true_eq] at hc;omega)
 ·rw[List.length_map] at hge
  have:k=p.length:=by omega
  subst this
  have hna:AM p q=false:=wX fun i hi=>hJ i hi hi
  refine vR (fun h=>is ?_) fun h=>is ?_
  ·rw[w,hna,if_neg (by simp),if_pos (show eH p q=true from h)]
  ·rw[w,hna,if_neg (by simp),if_neg (by rw[show eH p q=false from h];simp)]
theorem q8 (p:List Pt) (q:Pt):iC [T.sl false (List.map aA.enc p),aB true aA q]=some (Sh.enc [(false,.int .i64)] (cF p q)):=TJ ..
end Go.Pv
namespace Go.Pv
open Go Go.Proofs
noncomputable def IZ:Env:=Env.of []
def XO:FuncId→Hint:=fun _=>aS
theorem ADA:aF Tryz.prog IZ:=aF.nil _
def J1 (a0:aI) (a1:aI) (a2:aI) (R:T→Prop):Prop :=
 aC
 (decide
 (0 <
 IntKind.i64.wrap
 (IntKind.i64.wrap (IntKind.i64.wrap (a1.1-a0.1)*IntKind.i64.wrap (a2.2-a0.2)) -
 IntKind.i64.wrap (IntKind.i64.wrap (a1.2-a0.2)*IntKind.i64.wrap (a2.1-a0.1)))))
 (R (T.v (.int .i64 1)))
 (aC
 (decide
 (IntKind.i64.wrap
 (IntKind.i64.wrap (IntKind.i64.wrap (a1.1-a0.1)*IntKind.i64.wrap (a2.2-a0.2)) -
 IntKind.i64.wrap (IntKind.i64.wrap (a1.2-a0.2)*IntKind.i64.wrap (a2.1-a0.1))) <
 0))
 (R (T.v (.int .i64 (-1)))) (R (T.v (.int .i64 0))))
theorem WM ( a0 a1 a2 R):bD aX Tryz.prog IZ XO 8 213 [aB true aA a0,aB true aA a1,aB true aA a2] R=J1 a0 a1 a2 R:=by kernel_rfl
abbrev B0:Sh:=[(true,aA),(true,aA),(true,aA)]
def FI (x:aI×aI×aI):Option T:=tE x.1 x.2.1 x.2.2 (T.v (Value.int .i64 (pG (aE x.1 x.2.1 x.2.2))))
noncomputable def fL:List T→Option (T):=gS B0 FI
theorem AAC {a0 a1 a2}:fL [aB true aA a0,aB true aA a1,aB true aA a2]=FI (a0,a1,a2):=aT (s:=B0) rfl (a0,a1,a2) rfl
theorem AMX (h:∀ a0 a1 a2 r,FI (a0,a1,a2)=some r→bU B0 (a0,a1,a2)→J1 a0 a1 a2 (fun y=>y=r)):aJ Tryz.prog 213 fL :=
 aN (E:=IZ) (Hs:=XO) ADA aU aV (aK rfl) 8 ⟨_,_,Tryz.func213,rfl⟩ rfl fun x r h1 h2=>by
  obtain ⟨a0,a1,a2⟩:=x
  rw[show Sh.bI B0 (a0,a1,a2)=[aB true aA a0,aB true aA a1,aB true aA a2] from rfl,WM]
  exact h a0 a1 a2 r h1 h2
theorem PA:aJ Tryz.prog 213 fL:=AMX fun a b c r h hb=>by
 obtain ⟨h1,h2,h3,rfl⟩:=nO h
 unfold J1
 rw[rT h1 h2 h3]
 unfold pG
 exact bT (fun h=>o8 (by rw[if_neg (by omega),if_pos h])) fun h=>bT (fun h2=>o8 (by rw[if_pos h2])) fun h2=>o8 (by rw[if_neg h2,if_neg h])
theorem lJ {a b c:Pt} (h1:bO a) (h2:bO b) (h3:bO c):fL [aB true aA a,aB true aA b,aB true aA c]=some (Sh.enc [(false,.int .i64)] (pG (aE a b c))):=(AAC ..).trans (nP _ h1 h2 h3)
noncomputable def AB3:Env:=Env.of [(213,.pure fL)]
def AOH:FuncId→Hint:=fun _=>aS
theorem ANX:aF Tryz.prog AB3:=aF.cons (x:=.pure fL) PA (aF.nil _)
def ADL (a0:aI) (a1:aI) (a2:aI) (R:T→Prop):Prop :=
 aH [(false,Sy.int IntKind.i64)]
 (fL [aB true aA a0,aB true aA a1,aB true aA a2])
 fun (y0:Int) =>
 aC (decide (y0=0))
 (aC (decide ((if a1.1<a0.1 then a1.1 else a0.1)≤a2.1))
 (aC (decide (a2.1≤if a0.1<a1.1 then a1.1 else a0.1))
 (aC (decide ((if a1.2<a0.2 then a1.2 else a0.2)≤a2.2))
 (R (T.v (.bool (decide (a2.2≤if a0.2<a1.2 then a1.2 else a0.2)))))
 (R (T.v (.bool false))))
 (R (T.v (.bool false))))
 (R (T.v (.bool false))))
 (R (T.v (.bool false)))
theorem AJN ( a0 a1 a2 R):bD aX Tryz.prog AB3 AOH 8 212 [aB true aA a0,aB true aA a1,aB true aA a2] R=ADL a0 a1 a2 R:=by kernel_rfl
abbrev UE:Sh:=[(true,aA),(true,aA),(true,aA)]
def UP (x:aI×aI×aI):Option T:=tE x.1 x.2.1 x.2.2 (T.v (.bool (gN x.1 x.2.1 x.2.2)))
noncomputable def o7:List T→Option (T):=gS UE UP
theorem ALE {a0 a1 a2}:o7 [aB true aA a0,aB true aA a1,aB true aA a2]=UP (a0,a1,a2):=aT (s:=UE) rfl (a0,a1,a2) rfl
theorem AUJ (h:∀ a0 a1 a2 r,UP (a0,a1,a2)=some r→bU UE (a0,a1,a2)→ADL a0 a1 a2 (fun y=>y=r)):aJ Tryz.prog 212 o7 :=
 aN (E:=AB3) (Hs:=AOH) ANX aU aV (aK rfl) 8 ⟨_,_,Tryz.func212,rfl⟩ rfl fun x r h1 h2=>by
  obtain ⟨a0,a1,a2⟩:=x
  rw[show Sh.bI UE (a0,a1,a2)=[aB true aA a0,aB true aA a1,aB true aA a2] from rfl,AJN]
  exact h a0 a1 a2 r h1 h2
theorem ATL:aJ Tryz.prog 212 o7:=AUJ fun a b c r h hb=>by
 obtain ⟨h1,h2,h3,rfl⟩:=nO h
 unfold ADL
 refine aD (s:=[(false,.int .i64)]) (lJ h1 h2 h3) ?_
 refine bT (fun h=>?_) fun h=>cM (by unfold gN;rw[decide_eq_false (fun e=>h (MI.2 e))];rfl)
 have h:=MI.1 h
 rw[tD,tD,tA,tA]
 have w:gN a b c=G0 a b c:=by unfold gN;rw[decide_eq_true h];rfl
 show aC _ _ _
 rw[show (gN (a,b,c).1 (a,b,c).2.1 (a,b,c).2.2)=G0 a b c from w]
 clear h w
 refine bT (fun h1=>bT (fun h2=>bT (fun h3=>cM ?_) fun h3=>cM ?_) fun h2=>cM ?_) fun h1=>cM ?_
 all_goals simp[G0,h1]
 all_goals simp[h2]
 all_goals simp[h3]
theorem uK {a b c:Pt} (h1:bO a) (h2:bO b) (h3:bO c):o7 [aB true aA a,aB true aA b,aB true aA c]=some (Sh.enc [(false,.bool)] (gN a b c)):=(ALE ..).trans (nP _ h1 h2 h3)
noncomputable def H7:Env:=Env.of [(213,.pure fL),(212,.pure o7)]
def WZ:FuncId→Hint:=fun _=>aS
theorem ACK:aF Tryz.prog H7:=aF.cons (x:=.pure fL) PA (aF.cons (x:=.pure o7) ATL (aF.nil _))
def JB (a0:aI) (a1:aI) (a2:aI) (a3:aI) (R:T→Prop):Prop :=
 aH [(false,Sy.bool)]
 (o7 [aB true aA a0,aB true aA a1,aB true aA a2])
 fun (y0:Bool) =>
 aC y0 (R (T.v (.bool true)))
 (aH [(false,Sy.bool)]
 (o7 [aB true aA a0,aB true aA a1,aB true aA a3])
 fun (y1:Bool) =>
 aC y1 (R (T.v (.bool true)))
 (aH [(false,Sy.bool)]
 (o7
 [aB true aA a2,aB true aA a3,aB true aA a0])
 fun (y2:Bool) =>
 aC y2 (R (T.v (.bool true)))
 (aH [(false,Sy.bool)]
 (o7
 [aB true aA a2,aB true aA a3,aB true aA a1])
 fun (y3:Bool) =>
 aC y3 (R (T.v (.bool true)))
 (aH [(false,Sy.int IntKind.i64)]
 (fL
 [aB true aA a0,aB true aA a1,aB true aA a2])
 fun (y4:Int) =>
 aH [(false,Sy.int IntKind.i64)]
 (fL
 [aB true aA a0,aB true aA a1,
 aB true aA a3])
 fun (y5:Int) =>
 aC (decide (IntKind.i64.wrap (y4*y5)<0))
 (aH [(false,Sy.int IntKind.i64)]
 (fL
 [aB true aA a2,aB true aA a3,
 aB true aA a0])
 fun (y6:Int) =>
 aH [(false,Sy.int IntKind.i64)]
 (fL
 [aB true aA a2,aB true aA a3,
 aB true aA a1])
 fun (y7:Int)=>R (T.v (.bool (decide (IntKind.i64.wrap (y6*y7)<0)))))
 (R (T.v (.bool false)))))))
theorem VW ( a0 a1 a2 a3 R):bD aX Tryz.prog H7 WZ 8 190 [aB true aA a0,aB true aA a1,aB true aA a2,
 aB true aA a3] R=JB a0 a1 a2 a3 R:=by kernel_rfl
abbrev BC:Sh:=[(true,aA),(true,aA),(true,aA),(true,aA)]
def EY (x:aI×aI×aI×aI):Option T:=GC x.1 x.2.1 x.2.2.1 x.2.2.2 (T.v (.bool (bJ x.1 x.2.1 x.2.2.1 x.2.2.2)))
noncomputable def nG:List T→Option (T):=gS BC EY
theorem ZJ {a0 a1 a2 a3}:nG [aB true aA a0,aB true aA a1,aB true aA a2,
 aB true aA a3]=EY (a0,a1,a2,a3):=aT (s:=BC) rfl (a0,a1,a2,a3) rfl
theorem AL8 (h:∀ a0 a1 a2 a3 r,EY (a0,a1,a2,a3)=some r→bU BC (a0,a1,a2,a3)→JB a0 a1 a2 a3 (fun y=>y=r)):aJ Tryz.prog 190 nG :=
 aN (E:=H7) (Hs:=WZ) ACK aU aV (aK rfl) 8 ⟨_,_,Tryz.func190,rfl⟩ rfl fun x r h1 h2=>by
  obtain ⟨a0,a1,a2,a3⟩:=x
  rw[show Sh.bI BC (a0,a1,a2,a3)=[aB true aA a0,aB true aA a1,aB true aA a2,
 aB true aA a3] from rfl,VW]
  exact h a0 a1 a2 a3 r h1 h2
theorem AKS:aJ Tryz.prog 190 nG:=AL8 fun a b c d r h hb=>by
 obtain ⟨h1,h2,h3,h4,rfl⟩:=AI h
 unfold JB
 refine aD (s:=[(false,.bool)]) (uK h1 h2 h3) ?_
 refine vR (fun h=>cM (by unfold bJ;rw[h];rfl)) fun k1=>?_
 refine aD (s:=[(false,.bool)]) (uK h1 h2 h4) ?_
 refine vR (fun h=>cM (by unfold bJ;rw[h,k1];rfl)) fun k2=>?_
 refine aD (s:=[(false,.bool)]) (uK h3 h4 h1) ?_
 refine vR (fun h=>cM (by unfold bJ;rw[h,k1,k2];rfl)) fun k3=>?_
 refine aD (s:=[(false,.bool)]) (uK h3 h4 h2) ?_
 refine vR (fun h=>cM (by unfold bJ;rw[h,k1,k2,k3];rfl)) fun k4=>?_
 refine aD (s:=[(false,.int .i64)]) (lJ h1 h2 h3) ?_
 refine aD (s:=[(false,.int .i64)]) (lJ h1 h2 h4) ?_
 rw[lS]
 refine bT (fun h=>?_) fun h=>cM (by unfold bJ;rw[k1,k2,k3,k4,decide_eq_false h];rfl)
 refine aD (s:=[(false,.int .i64)]) (lJ h3 h4 h1) ?_
 refine aD (s:=[(false,.int .i64)]) (lJ h3 h4 h2) ?_
 rw[lS]
 exact cM (by unfold bJ;rw[k1,k2,k3,k4,decide_eq_true h];rfl)
theorem ZK {a b c d:Pt} (h1:bO a) (h2:bO b) (h3:bO c) (h4:bO d):nG [aB true aA a,aB true aA b,aB true aA c,aB true aA d]=some (Sh.enc [(false,.bool)] (bJ a b c d)):=(ZJ ..).trans (AJ _ h1 h2 h3 h4)
noncomputable def CC:Env:=Env.of [(190,.pure nG)]
def N4:FuncId→Hint:=fun f=>match f == 160 with|true=>⟨fun r=>match r == 2 with|true=>.inv [.val 5 false (.int .i64)]|false=>match r == 5 with|true=>.inv [.val 6 false (.int .i64)]|false=>.none,fun _ _=>none,fun _=>none⟩|false=>aS
theorem U4:aF Tryz.prog CC:=aF.cons (x:=.pure nG) AKS (aF.nil _)
def CV (a0:List aI) (a1:List aI) (R:T→Prop):Prop :=
 bE (Int×PUnit)
 (fun (X0:Int×PUnit→Prop) (s1:Int×PUnit) =>
 aC (decide (s1.1<(↑(List.map aA.enc a0).length:Int)))
 (bE (Int×PUnit)
 (fun (X2:Int×PUnit→Prop) (s3:Int×PUnit) =>
 aC (decide (s3.1<(↑(List.map aA.enc a1).length:Int)))
 (aZ aA (List.map aA.enc a0) s1.1 fun (y4:aI) =>
 bS (!decide ((↑(List.map aA.enc a0).length:Int)=0))
 (aZ aA (List.map aA.enc a0)
 ((IntKind.i64.wrap (s1.1+1)).tmod (↑(List.map aA.enc a0).length:Int))
 fun (y5:aI) =>
 aZ aA (List.map aA.enc a1) s3.1 fun (y6:aI) =>
 bS (!decide ((↑(List.map aA.enc a1).length:Int)=0))
 (aZ aA (List.map aA.enc a1)
 ((IntKind.i64.wrap (s3.1+1)).tmod (↑(List.map aA.enc a1).length:Int))
 fun (y7:aI) =>
 aH [(false,Sy.bool)]
 (nG
 [aB true aA y4,aB true aA y5,
 aB true aA y6,aB true aA y7])
 fun (y8:Bool) =>
 aC y8 (R (T.v (.bool true)))
 (X2 (IntKind.i64.wrap (s3.1+1),())))))
 (X0 (IntKind.i64.wrap (s1.1+1),())))
 (0,()))
 (R (T.v (.bool false))))
 (0,())
theorem RB ( a0 a1 R):bD aX Tryz.prog CC N4 8 160 [aB false aA.li a0,aB false aA.li a1] R=CV a0 a1 R:=by kernel_rfl
abbrev uU:Sh:=[(false,aA.li),(false,aA.li)]
def yG (x:List aI×List aI):Option T:=GH x.1 x.2 (T.v (.bool (dH x.1 x.2)))
noncomputable def jO:List T→Option (T):=gS uU yG
theorem SZ {a0 a1}:jO [T.sl false (List.map aA.enc a0),T.sl false (List.map aA.enc a1)]=yG (a0,a1):=aT (s:=uU) rfl (a0,a1) rfl
theorem AF5 (h:∀ a0 a1 r,yG (a0,a1)=some r→bU uU (a0,a1)→CV a0 a1 (fun y=>y=r)):aJ Tryz.prog 160 jO :=
 aN (E:=CC) (Hs:=N4) U4 aU aV (aK rfl) 8 ⟨_,_,Tryz.func160,rfl⟩ rfl fun x r h1 h2=>by
  obtain ⟨a0,a1⟩:=x
  rw[show Sh.bI uU (a0,a1)=[aB false aA.li a0,aB false aA.li a1] from rfl,RB]
  exact h a0 a1 r h1 h2
theorem AET:aJ Tryz.prog 160 jO:=AF5 fun p q r h hb=>by
 obtain ⟨hl,hn,hl2,hn2,rfl⟩:=AO h
 replace hl:p.length≤1000:=hl
 replace hl2:q.length≤1000:=hl2
 clear h
 have nw:∀ {k:Nat},k≤3000→IntKind.i64.wrap ((k:Int)+1)=((k+1:Nat):Int):=fun h=>aO _ (by omega) (by omega)
 unfold CV
 refine aR p.length (fun k s=>s=((k:Int),())∧∀ i,i<k→i<p.length→((List.range q.length).any fun k=>bJ (pt p i) (nx p i) (pt q k) (nx q k))=false) ⟨rfl,fun i h=>by omega⟩ ?_
 rintro X k s hk ⟨rfl,hJ⟩ hX
 dsimp only
 refine bT (fun hlt=>?_) fun hge=>cM (Eq.symm (wX fun i hi=>hJ i (by rw[List.length_map] at hge;omega) hi))
 rw[List.length_map] at hlt
 have hlt:k<p.length:=by omega
 have hne:(!decide (((List.map aA.enc p).length:Int)=0))=true:=by rw[List.length_map,decide_eq_false (by omega)];rfl
 have hm1:(k+1) % p.length<p.length:=Nat.mod_lt _ (by omega)
 have i1:(IntKind.i64.wrap ((k:Int)+1)).tmod ((List.map aA.enc p).length:Int)=(((k+1) % p.length:Nat):Int):=by rw[List.length_map];exact gM (c:=1) hl (by omega) (by omega)
 refine aR q.length (fun j s=>s=((j:Int),())∧∀ i,i<j→i<q.length→bJ (pt p k) (nx p k) (pt q i) (nx q i)=false) ⟨rfl,fun i h=>by omega⟩ ?_
 rintro Y j s hj ⟨rfl,hI⟩ hY
 dsimp only
 refine bT (fun hlj=>?_) fun hgj=>hX _ hlt ⟨by rw[nw (by omega)],fun i h1 h2=>by
  rcases Nat.lt_or_ge i k with h3|h3
  ·exact hJ i h3 h2
  ·have:i=k:=by omega
   subst this;exact wX fun m hm=>hI m (by rw[List.length_map] at hgj;omega) hm⟩
 rw[List.length_map] at hlj
 have hlj:j<q.length:=by omega
 have hne2:(!decide (((List.map aA.enc q).length:Int)=0))=true:=by rw[List.length_map,decide_eq_false (by omega)];rfl
 have hm2:(j+1) % q.length<q.length:=Nat.mod_lt _ (by omega)
 have i2:(IntKind.i64.wrap ((j:Int)+1)).tmod ((List.map aA.enc q).length:Int)=(((j+1) % q.length:Nat):Int):=by rw[List.length_map];exact gM (c:=1) hl2 (by omega) (by omega)
 rw[bN hlt,i1]
 refine ⟨hne,?_⟩
 rw[bN hm1,bN hlj,i2]
 refine ⟨hne2,?_⟩
 rw[bN hm2]
 refine aD (s:=[(false,.bool)]) (ZK (hn.pt _) (hn.pt _) (hn2.pt _) (hn2.pt _)) ?_
 refine vR (fun h=>cM (Eq.symm (dG.2 ⟨k,hlt,dG.2 ⟨j,hlj,h⟩⟩))) fun h=>hY _ hlj ⟨by rw[nw (by omega)],fun i h1 h2=>by
  rcases Nat.lt_or_ge i j with h3|h3
  ·exact hI i h3 h2
  ·have:i=j:=by omega
   subst this;exact h⟩
theorem zP {p q:List Pt} (h:p.length≤1000) (h2:fH p) (h3:q.length≤1000) (h4:fH q):jO [T.sl false (List.map aA.enc p),T.sl false (List.map aA.enc q)]=some (Sh.enc [(false,.bool)] (dH p q)):=(SZ ..).trans (AP _ h h2 h3 h4)
noncomputable def IP:Env:=Env.of [(159,.pure eV),(129,.pure gQ),(160,.pure jO),(161,.pure iC)]
def XF:FuncId→Hint:=fun f=>match f == 125 with|true=>⟨fun r=>match r == 9 with|true=>.inv [.val 4 false (.int .i64)]|false=>match r == 18 with|true=>.inv [.val 7 false (.int .i64)]|false=>.none,fun _ _=>none,fun _=>none⟩|false=>aS
theorem AC1:aF Tryz.prog IP:=aF.cons (x:=.pure eV) DX (aF.cons (x:=.pure gQ) O2 (aF.cons (x:=.pure jO) AET (aF.cons (x:=.pure iC) AE7 (aF.nil _))))
def JS (a0:dP) (R:T→Prop):Prop :=
 aC (decide (8<(↑(List.map aA.li.enc a0.2).length:Int)))
 (R (T.v (.int .i64 12)))
 (aH [(false,Sy.int IntKind.i64)]
 (eV [T.sl false (List.map aA.enc a0.1)]) fun (y0:Int) =>
 aC (!decide (y0=0)) (R (T.v (.int .i64 y0)))
 (aH [(false,Sy.int IntKind.i64)]
 (gQ [T.sl false (List.map aA.enc a0.1)]) fun (y1:Int) =>
 aC (decide (y1≤0)) (R (T.v (.int .i64 17)))
 (bE (Int×PUnit)
 (fun (X2:Int×PUnit→Prop) (s3:Int×PUnit) =>
 aC (decide (s3.1<(↑(List.map aA.li.enc a0.2).length:Int)))
 (aZ aA.li (List.map aA.li.enc a0.2) s3.1
 fun (y4:List aI) =>
 aH [(false,Sy.int IntKind.i64)]
 (eV [T.sl false (List.map aA.enc y4)]) fun (y5:Int) =>
 aC (!decide (y5=0)) (R (T.v (.int .i64 y5)))
 (aH [(false,Sy.int IntKind.i64)]
 (gQ [T.sl false (List.map aA.enc y4)]) fun (y6:Int) =>
 aC (decide (0≤y6)) (R (T.v (.int .i64 17)))
 (aH [(false,Sy.bool)]
 (jO
 [T.sl false (List.map aA.enc a0.1),
 T.sl false (List.map aA.enc y4)])
 fun (y7:Bool) =>
 aC y7 (R (T.v (.int .i64 17)))
 (aZ aA (List.map aA.enc y4) 0 fun (y8:aI) =>
 aH [(false,Sy.int IntKind.i64)]
 (iC
 [T.sl false (List.map aA.enc a0.1),
 aB true aA y8])
 fun (y9:Int) =>
 aC (!decide (y9=1)) (R (T.v (.int .i64 17)))
 (bE (Int×PUnit)
 (fun (X10:Int×PUnit→Prop) (s11:Int×PUnit) =>
 aC (decide (s11.1<s3.1))
 (aZ aA.li (List.map aA.li.enc a0.2) s11.1
 fun (y12:List aI) =>
 aH [(false,Sy.bool)]
 (jO
 [T.sl false (List.map aA.enc y4),
 T.sl false (List.map aA.enc y12)])
 fun (y13:Bool) =>
 aC y13 (R (T.v (.int .i64 17)))
 (aZ aA.li (List.map aA.li.enc a0.2)
 s11.1 fun (y14:List aI) =>
 aZ aA (List.map aA.enc y14) 0
 fun (y15:aI) =>
 aH [(false,Sy.int IntKind.i64)]
 (iC
 [T.sl false (List.map aA.enc y4),
 aB true aA y15])
 fun (y16:Int) =>
 aC (!decide (y16 = -1))
 (R (T.v (.int .i64 17)))
 (aZ aA.li
 (List.map aA.li.enc a0.2) s11.1
 fun (y17:List aI) =>
 aZ aA (List.map aA.enc y4) 0
 fun (y18:aI) =>
 aH [(false,Sy.int IntKind.i64)]
 (iC
 [T.sl false (List.map aA.enc y17),
 aB true aA y18])
 fun (y19:Int) =>
 aC (!decide (y19 = -1))
 (R (T.v (.int .i64 17)))
 (X10 (IntKind.i64.wrap (s11.1+1),())))))
 (X2 (IntKind.i64.wrap (s3.1+1),())))
 (0,()))))))
 (R (T.v (.int .i64 0))))
 (0,()))))
theorem WC ( a0 R):bD aX Tryz.prog IP XF 8 125 [aB true b6 a0] R=JS a0 R:=by kernel_rfl
abbrev BS:Sh:=[(true,b6)]
def FB (s:dP):Option T:=some (T.v (Value.int .i64 (fE s)))
noncomputable def gX:List T→Option (T):=gS BS FB
theorem Z2 {a0}:gX [aB true b6 a0]=FB (a0):=aT (s:=BS) rfl (a0) rfl
theorem AMO (h:∀ a0 r,FB (a0)=some r→bU BS (a0)→JS a0 (fun y=>y=r)):aJ Tryz.prog 125 gX :=
 aN (E:=IP) (Hs:=XF) AC1 aU aV (aK rfl) 8 ⟨_,_,Tryz.func125,rfl⟩ rfl fun x r h1 h2=>by
  let a0:=x
  rw[show Sh.bI BS (a0)=[aB true b6 a0] from rfl,WC]
  exact h a0 r h1 h2
theorem YP (p q:List Pt):dH p q=dH q p:=by
 have half:∀ {p q:List Pt},dH p q=true→dH q p=true:=fun {p q} h=>by
  obtain ⟨a,ha,hb⟩:=dG.1 h
  obtain ⟨b,hb1,hb2⟩:=dG.1 hb
  exact dG.2 ⟨b,hb1,dG.2 ⟨a,ha,by rw[kP];exact hb2⟩⟩
 rw[Bool.eq_iff_iff]
 exact ⟨half,half⟩
theorem vO {p:List Pt} {q:Pt}:cF p q<0↔cF p q = -1:=by
 unfold cF
 split
 ·omega
 ·split
  ·omega
  ·split<;>omega
theorem O8:aJ Tryz.prog 125 gX:=AMO fun s r h hb=>by
 cases h
 have is:∀ {n:Int},fE s=n→T.v (.int .i64 n)=T.v (.int .i64 (fE s)):=fun h=>by rw[h]
 have nw:∀ {k:Nat},k≤3000→IntKind.i64.wrap ((k:Int)+1)=((k+1:Nat):Int):=fun h=>aO _ (by omega) (by omega)
 unfold JS
 refine bT (fun h=>is (by rw[List.length_map] at h;unfold fE;rw[if_pos (by omega)])) fun h1=>?_
 rw[List.length_map] at h1
 refine aD (s:=[(false,.int .i64)]) (oM s.1) ?_
 refine rX (fun h=>is (by unfold fE;rw[if_neg (by omega),if_pos h])) fun h2=>?_
 refine aD (s:=[(false,.int .i64)]) (sM s.1) ?_
 refine bT (fun h=>is (by unfold fE;rw[if_neg (by omega),if_neg (by simpa using h2),if_pos h])) fun h3=>?_
 have w:fE s=eF (kB s) (List.range s.2.length):=by unfold fE;rw[if_neg (by omega),if_neg (by simpa using h2),if_neg h3]
 obtain ⟨ho3,ho32,hoN,_⟩:=c9 h2
 refine FX (r:=aA.li) (kB s) (by show s.2.length≤1000000;omega) (fun X k hk hprev hok hbad=>?_) fun h0=>is (w.trans h0)
 have hk:k<s.2.length:=hk
 have hg:s.2.getD k []=s.2[k]:=by rw[List.getD_eq_getElem?_getD,List.getElem?_eq_getElem hk];rfl
 have bad:∀ {n:Int},n≠0→kB s k=n→T.v (.int .i64 n)=T.v (.int .i64 (fE s)):=fun hn h=>is (w.trans ((hbad (by rw[h];exact hn)).trans h))
 have hE:kB s k=if ¬ cU s.2[k]=0 then cU s.2[k] else if 0≤fC s.2[k]∨eY s.2[k] s.1=false then 17 else if ((List.range k).all fun j=>eP s.2[k] (s.2.getD j []))=false then 17 else 0:=by unfold kB;rw[hg]
 dsimp only
 refine aD (s:=[(false,.int .i64)]) (oM s.2[k]) ?_
 refine rX (fun h=>bad h (by rw[hE,if_pos h])) fun p1=>?_
 refine aD (s:=[(false,.int .i64)]) (sM s.2[k]) ?_
 refine bT (fun h=>bad (by decide) (by rw[hE,if_neg (by simpa using p1),if_pos (.inl h)])) fun p2=>?_
 obtain ⟨hp3,hp32,hpN,_⟩:=c9 p1
 have wf:=UY (h:=s.2[k]) (o:=s.1) hpN h2 (by omega)
 refine aD (s:=[(false,.bool)]) (zP (by omega) hoN (by omega) hpN) ?_
 rw[YP]
 refine vR (fun h=>bad (by decide) (by rw[hE,if_neg (by simpa using p1),if_pos (.inr (by rw[wf,show dH s.2[k] s.1=true from h];rfl))])) fun pe=>?_
 have pe:dH s.2[k] s.1=false:=pe
 rw[show (0:Int)=((0:Nat):Int) from rfl,bN (p:=s.2[k]) (show 0<List.length s.2[k] by omega)]
 refine aD (s:=[(false,.int .i64)]) (q8 s.1 (pt s.2[k] 0)) ?_
 refine rX (fun h=>bad (by decide) (by rw[hE,if_neg (by simpa using p1),if_pos (.inr (by rw[wf,pe,decide_eq_false (show ¬ cF s.1 (pt s.2[k] 0)=1 from h)];rfl))])) fun pw=>?_
 have p3:eY s.2[k] s.1=true:=by rw[wf,pe,decide_eq_true (show cF s.1 (pt s.2[k] 0)=1 from pw)];rfl
 have hE2:kB s k=if ((List.range k).all fun j=>eP s.2[k] (s.2.getD j []))=false then 17 else 0:=by
  rw[hE,if_neg (by simpa using p1),if_neg]
  rintro (h|h)
  ·exact p2 h
  ·rw[p3] at h;cases h
 refine aR k (fun j s'=>s'=((j:Int),())∧∀ i,i<j→eP s.2[k] (s.2.getD i [])=true) ⟨rfl,fun i h=>by omega⟩ ?_
 rintro Y j s' hj ⟨rfl,hJ⟩ hY
 dsimp only
 refine bT (fun hlt=>?_) fun hge=>?_
 ·have hlt:j<k:=by omega
  have hjl:j<s.2.length:=by omega
  rw[a7 (r:=aA.li) hjl]
  have hgj:s.2.getD j []=s.2[j]:=by rw[List.getD_eq_getElem?_getD,List.getElem?_eq_getElem hjl];rfl
  have hj0:cU s.2[j]=0:=by
   have h0:=hprev j hlt
   unfold kB at h0
   rw[hgj] at h0
   refine Classical.byContradiction fun hc=>?_
   rw[if_pos hc] at h0
   exact hc h0
  obtain ⟨hq3,hq32,hqN,_⟩:=c9 hj0
  have badA:eP s.2[k] s.2[j]=false→T.v (.int .i64 17)=T.v (.int .i64 (fE s)):=fun h=>bad (by decide) (by rw[hE2,if_pos (oI hlt (by rw[hgj];exact h))])
  refine aD (s:=[(false,.bool)]) (zP (by omega) hpN (by omega) hqN) ?_
  refine vR (fun h=>badA (by unfold eP;rw[show dH s.2[k] s.2[j]=true from h];rfl)) fun e1=>?_
  rw[a7 (r:=aA.li) hjl,bN (p:=s.2[j]) (show 0<List.length s.2[j] by omega)]
  refine aD (s:=[(false,.int .i64)]) (q8 s.2[k] (pt s.2[j] 0)) ?_
  refine rX (fun h=>badA (by unfold eP;rw[decide_eq_false (show ¬ cF s.2[k] (pt s.2[j] 0)<0 from fun h'=>h (vO.1 h'))];simp)) fun e2=>?_
  rw[a7 (r:=aA.li) hjl,bN (p:=s.2[k]) (show 0<List.length s.2[k] by omega)]
  refine aD (s:=[(false,.int .i64)]) (q8 s.2[j] (pt s.2[k] 0)) ?_
  refine rX (fun h=>badA (by unfold eP;rw[decide_eq_false (show ¬ cF s.2[j] (pt s.2[k] 0)<0 from fun h'=>h (vO.1 h'))];simp)) fun e3=>?_
  have e4:eP s.2[k] s.2[j]=true:=by
   unfold eP
   rw[show dH s.2[k] s.2[j]=false from e1,decide_eq_true (vO.2 e2),decide_eq_true (vO.2 e3)];rfl
  exact hY _ hlt ⟨by rw[nw (by omega)],fun i hi=>by
   rcases Nat.lt_or_ge i j with h3|h3
   ·exact hJ i h3
   ·have:i=j:=by omega
    subst this;rw[hgj];exact e4⟩
 ·have:j=k:=by omega
  subst this
  rw[nw (by omega)]
  refine hok ?_
  rw[hE2,if_neg]
  rw[b9.2 hJ];simp
theorem F3 (s:dP):gX [aB true b6 s]=some (Sh.enc [(false,.int .i64)] (fE s)):=Z2 ..
noncomputable def CB:Env:=Env.of []
def N3:FuncId→Hint:=fun _=>aS
theorem U3:aF Tryz.prog CB:=aF.nil _
def CU (a0:dP) (R:T→Prop):Prop :=
 aC (List.map aA.li.enc a0.2).isEmpty
 (R (T.sl false [[T.sl false (List.map aA.enc a0.1)]]))
 (bS
 (fR 1 (List.map aA.li.enc a0.2) &&
 decide ((1+(List.map aA.li.enc a0.2).length)*24≤140737488355328) &&
 decide (1+(List.map aA.li.enc a0.2).length≤140737488355328))
 (R
 (T.sl false
 ([T.sl false (List.map aA.enc a0.1)] ::
 (List.map aA.li.enc a0.2)))))
theorem RA ( a0 R):bD aX Tryz.prog CB N3 8 128 [aB true b6 a0] R=CU a0 R:=by kernel_rfl
abbrev uT:Sh:=[(true,b6)]
abbrev AM7:Sh:=[(false,aA.li.li)]
def n5 (s:dP):Option T:=match decide (s.2.length≤1000) with
 | true=>some (Sh.enc AM7 (s.1::s.2))
 | false=>none
noncomputable def mK:List T→Option (T):=gS uT n5
theorem SY {a0}:mK [aB true b6 a0]=n5 (a0):=aT (s:=uT) rfl (a0) rfl
theorem AF4 (h:∀ a0 r,n5 (a0)=some r→bU uT (a0)→CU a0 (fun y=>y=r)):aJ Tryz.prog 128 mK :=
 aN (E:=CB) (Hs:=N3) U3 aU aV (aK rfl) 8 ⟨_,_,Tryz.func128,rfl⟩ rfl fun x r h1 h2=>by
  let a0:=x
  rw[show Sh.bI uT (a0)=[aB true b6 a0] from rfl,RA]
  exact h a0 r h1 h2
theorem AES:aJ Tryz.prog 128 mK:=AF4 fun s r h hb=>by
 unfold n5 at h
 split at h
 ·rename_i hc
  have hc:s.2.length≤1000:=of_decide_eq_true hc
  cases h
  obtain ⟨o,hs⟩:=s
  unfold CU
  cases hs with
  | nil=>exact (rfl:T.sl false [[T.sl false (List.map aA.enc o)]]=_)
  | cons a l =>
   show bS _ _
   refine ⟨?_,rfl⟩
   simp only[Bool.and_eq_true,decide_eq_true_eq,List.length_map]
   have hc:(a::l).length≤1000:=hc
   exact ⟨⟨zA (.li aA) (a::l),by omega⟩,by omega⟩
 ·cases h
noncomputable def HW:Env:=Env.of [(125,.pure gX),(128,.pure mK),(129,.pure gQ)]
def WQ:FuncId→Hint:=fun f=>match f == 74 with|true=>⟨fun r=>match r == 6 with|true=>.inv [.val 3 false (.int .i64),.val 5 false (.int .i64)]|false=>.none,fun _ _=>none,fun _=>none⟩|false=>aS
theorem ACB:aF Tryz.prog HW:=aF.cons (x:=.pure gX) O8 (aF.cons (x:=.pure mK) AES (aF.cons (x:=.pure gQ) O2 (aF.nil _)))
def I2 (a0:dP) (R:T→Prop):Prop :=
 aH [(false,Sy.int IntKind.i64)] (gX [aB true b6 a0]) fun (y0:Int) =>
 aC (!decide (y0=0)) (R (T.v (.int .i64 0)))
 (aH [(false,aA.li.li)] (mK [aB true b6 a0])
 fun (y1:List (List aI)) =>
 bE (Int×Int×PUnit)
 (fun (X2:Int×Int×PUnit→Prop) (s3:Int×Int×PUnit) =>
 aC (decide (s3.2.1<(↑(List.map aA.li.enc y1).length:Int)))
 (aZ aA.li (List.map aA.li.enc y1) s3.2.1 fun (y4:List aI) =>
 aH [(false,Sy.int IntKind.i64)]
 (gQ [T.sl false (List.map aA.enc y4)]) fun (y5:Int) =>
 X2 (IntKind.i64.wrap (s3.1+y5),IntKind.i64.wrap (s3.2.1+1),()))
 (R (T.v (.int .i64 s3.1))))
 (0,0,()))
theorem VN ( a0 R):bD aX Tryz.prog HW WQ 8 74 [aB true b6 a0] R=I2 a0 R:=by kernel_rfl
abbrev A4:Sh:=[(true,b6)]
def ER (s:dP):Option T:=some (T.v (Value.int .i64 (nY s)))
noncomputable def nB:List T→Option (T):=gS A4 ER
theorem Y6 {a0}:nB [aB true b6 a0]=ER (a0):=aT (s:=A4) rfl (a0) rfl
theorem ALZ (h:∀ a0 r,ER (a0)=some r→bU A4 (a0)→I2 a0 (fun y=>y=r)):aJ Tryz.prog 74 nB :=
 aN (E:=HW) (Hs:=WQ) ACB aU aV (aK rfl) 8 ⟨_,_,Tryz.func74,rfl⟩ rfl fun x r h1 h2=>by
  let a0:=x
  rw[show Sh.bI A4 (a0)=[aB true b6 a0] from rfl,VN]
  exact h a0 r h1 h2
theorem AKJ:aJ Tryz.prog 74 nB:=ALZ fun s r h hb=>by
 cases h
 have is:∀ {n:Int},nY s=n→T.v (.int .i64 n)=T.v (.int .i64 (nY s)):=fun h=>by rw[h]
 unfold I2
 refine aD (s:=[(false,.int .i64)]) (F3 s) ?_
 refine rX (fun h=>is (by unfold nY;rw[if_neg h])) fun h=>?_
 have h8:s.2.length≤8:=(AIQ h).1
 refine aD (s:=[(false,.li (.li aA))]) (y:=(s.1::s.2:List (List aI))) ((SY ..).trans (by unfold n5;rw[decide_eq_true (by omega)])) ?_
 have w:nY s=ANM (s.1::s.2):=by unfold nY;rw[if_pos h]
 have hlen:(s.1::s.2).length≤9:=by simp;omega
 generalize s.1::s.2=l at w hlen
 refine aR l.length (fun k t=>t=(cE k (fun i=>fC (l.getD i [])),(k:Int),())) rfl ?_
 rintro X k t hk rfl hX
 dsimp only
 refine bT (fun hlt=>?_) fun hge=>is (by rw[List.length_map] at hge;rw[w,show k=l.length by omega];rfl)
 rw[List.length_map] at hlt
 have hlt:k<l.length:=by omega
 rw[a7 (r:=aA.li) hlt]
 have hg:l.getD k []=l[k]:=by rw[List.getD_eq_getElem?_getD,List.getElem?_eq_getElem hlt];rfl
 refine aD (s:=[(false,.int .i64)]) (sM l[k]) ?_
 refine hX _ hlt ?_
 have b1:=HS l k
 have b2:=KH l[k]
 rw[show IntKind.i64.wrap ((k:Int)+1)=((k+1:Nat):Int) from aO _ (by omega) (by omega),aO _ (by omega) (by omega),cE,hg]
theorem Y7 (s:dP):nB [aB true b6 s]=some (Sh.enc [(false,.int .i64)] (nY s)):=Y6 ..
end Go.Pv
namespace Go.Pv
open Go Go.Proofs
noncomputable def CQ:Env:=Env.of []
def OI:FuncId→Hint:=fun _=>aS
theorem VI:aF Tryz.prog CQ:=aF.nil _
def C9 (a0:qN) (R:T→Prop):Prop :=
 aC (decide (-524288≤a0.1.1))
 (aC (decide (a0.1.1≤524288))
 (aC (decide (-524288≤a0.1.2.1))
 (aC (decide (a0.1.2.1≤524288))
 (aC (decide (-524288≤a0.1.2.2))
 (aC (decide (a0.1.2.2≤524288))
 (aC (decide (0≤a0.2)) (R (T.v (.bool (decide (a0.2≤23)))))
 (R (T.v (.bool false))))
 (R (T.v (.bool false))))
 (R (T.v (.bool false))))
 (R (T.v (.bool false))))
 (R (T.v (.bool false))))
 (R (T.v (.bool false))))
 (R (T.v (.bool false)))
theorem R6 ( a0 R):bD aX Tryz.prog CQ OI 8 127 [aB true cI a0] R=C9 a0 R:=by kernel_rfl
abbrev vD:Sh:=[(true,cI)]
def yR (p:qN):Option T:=some (T.v (.bool (gK p)))
noncomputable def gI:List T→Option (T):=gS vD yR
theorem TG {a0}:gI [aB true cI a0]=yR (a0):=aT (s:=vD) rfl (a0) rfl
theorem AGJ (h:∀ a0 r,yR (a0)=some r→bU vD (a0)→C9 a0 (fun y=>y=r)):aJ Tryz.prog 127 gI :=
 aN (E:=CQ) (Hs:=OI) VI aU aV (aK rfl) 8 ⟨_,_,Tryz.func127,rfl⟩ rfl fun x r h1 h2=>by
  let a0:=x
  rw[show Sh.bI vD (a0)=[aB true cI a0] from rfl,R6]
  exact h a0 r h1 h2
theorem AE4:aJ Tryz.prog 127 gI:=AGJ fun p r h hb=>by
 cases h
 unfold C9
 have pb:gK p=true↔((-524288≤p.1.1∧p.1.1≤524288)∧(-524288≤p.1.2.1∧p.1.2.1≤524288)∧(-524288≤p.1.2.2∧p.1.2.2≤524288))∧0≤p.2∧p.2≤23:=by
  unfold gK gF AAW
  simp only[Bool.and_eq_true,decide_eq_true_eq]
  by_cases h:p.2<0∨24≤p.2
  ·rw[if_pos h];omega
  ·rw[if_neg h];omega
 have no:¬ (((-524288≤p.1.1∧p.1.1≤524288)∧(-524288≤p.1.2.1∧p.1.2.1≤524288)∧(-524288≤p.1.2.2∧p.1.2.2≤524288))∧0≤p.2∧p.2≤23)→T.v (.bool false)=T.v (.bool (gK p)):=fun h=>cM (Eq.symm (by rw[Bool.eq_false_iff];exact fun h2=>h (pb.1 h2)))
 refine bT (fun h1=>bT (fun h2=>bT (fun h3=>bT (fun h4=>bT (fun h5=>bT (fun h6=>bT (fun h7=>cM ?_) fun h=>no (by omega)) fun h=>no (by omega)) fun h=>no (by omega)) fun h=>no (by omega)) fun h=>no (by omega)) fun h=>no (by omega)) fun h=>no (by omega)
 rw[Bool.eq_iff_iff,pb,decide_eq_true_eq]
 omega
noncomputable def wM:Env:=Env.of []
def J7:FuncId→Hint:=fun f=>match f == 72 with|true=>⟨fun r=>match r == 2 with|true=>.inv [.val 6 false (.int .i64),.fix 1]|false=>.none,fun _ _=>none,fun _=>none⟩|false=>aS
theorem Q8:aF Tryz.prog wM:=aF.nil _
def wS (a0:aM) (a1:ByteArray) (R:T→Prop):Prop :=
 dY
 (aY.rows false
 [[D.p (T.v (.string { data:=#[] })),D.p (T.v (.int .i64 0)),
 D.p (T.v (.int .i64 0)),D.p (T.v (Value.slice none 0 0))]])
 (aY.rows false
 [[D.p (T.v (.string { data:=#[] })),D.p (T.v (.int .i64 0)),
 D.p (T.v (.int .i64 0)),D.p (T.v (Value.slice none 0 0))]])
 (bE (Int×PUnit×PUnit)
 (fun (X0:Int×PUnit×PUnit→Prop) (s1:Int×PUnit×PUnit) =>
 aC (decide (s1.1<(↑(List.map bK.enc a0.1).length:Int)))
 (aZ bK (List.map bK.enc a0.1) s1.1 fun (y2:dO) =>
 aC (decide (y2.1=a1))
 (aZ bK (List.map bK.enc a0.1) s1.1 fun (y3:dO) =>
 bS
 (fR 1 (List.map (Sy.int IntKind.i64).enc y3.2.2.2)&&true &&
 decide ((List.map (Sy.int IntKind.i64).enc y3.2.2.2).length*8≤140737488355328) &&
 decide ((List.map (Sy.int IntKind.i64).enc y3.2.2.2).length≤140737488355328))
 (R (T.bX [aB true bK y3,T.v (.bool true)])))
 (dY
 (aY.rows false
 [[D.p (T.v (.string { data:=#[] })),
 D.p (T.v (.int .i64 0)),
 D.p (T.v (.int .i64 0)),
 D.p (T.v (Value.slice none 0 0))]])
 (aY.rows false
 [[D.p (T.v (.string { data:=#[] })),
 D.p (T.v (.int .i64 0)),
 D.p (T.v (.int .i64 0)),
 D.p (T.v (Value.slice none 0 0))]])
 (X0 (IntKind.i64.wrap (s1.1+1),(),()))))
 (R
 (T.bX
 [T.agg
 [T.v (.string { data:=#[] }),T.v (.int .i64 0),
 T.v (.int .i64 0),T.sl false []],
 T.v (.bool false)])))
 (0,(),()))
theorem ND ( a0 a1 R):bD aX Tryz.prog wM J7 8 72 [aB true aG a0,aB false Sy.str a1] R=wS a0 a1 R:=by kernel_rfl
abbrev rN:Sh:=[(true,aG),(false,Sy.str)]
def tP (x:aM×ByteArray):Option T:=tH x.1 (Sh.enc [(true,bK),(false,.bool)] (found fG (cA x.1 x.2)))
noncomputable def dI:List T→Option (T):=gS rN tP
theorem NQ {a0 a1}:dI [aB true aG a0,T.v (.string a1)]=tP (a0,a1):=aT (s:=rN) rfl (a0,a1) rfl
theorem AA1 (h:∀ a0 a1 r,tP (a0,a1)=some r→bU rN (a0,a1)→wS a0 a1 (fun y=>y=r)):aJ Tryz.prog 72 dI :=
 aN (E:=wM) (Hs:=J7) Q8 aU aV (aK rfl) 8 ⟨_,_,Tryz.func72,rfl⟩ rfl fun x r h1 h2=>by
  obtain ⟨a0,a1⟩:=x
  rw[show Sh.bI rN (a0,a1)=[aB true aG a0,aB false Sy.str a1] from rfl,ND]
  exact h a0 a1 r h1 h2
theorem sK:aJ Tryz.prog 72 dI:=AA1 fun m n r h hb=>by
 obtain ⟨hok,rfl⟩:=nT h
 clear h
 simp only[CA,Bool.and_eq_true,decide_eq_true_eq] at hok
 unfold wS
 rw[bY]
 refine aR m.1.length (fun k s=>s.1=(k:Int)∧(m.1.drop k).find? (fun s=>decide (s.1=n))=cA m n) ⟨rfl,rfl⟩ ?_
 rintro X k ⟨i,u1,u2⟩ hk ⟨rfl,hf⟩ hX
 dsimp only at hf ⊢
 refine bT (fun hlt=>?_) fun hge=>?_
 ·rw[List.length_map] at hlt
  have hlt:k<m.1.length:=by omega
  rw[gG hlt] at hf
  rw[a7 (r:=bK) hlt]
  refine bT (fun hc=>?_) fun hc=>?_
  ·rw[if_pos (decide_eq_true hc)] at hf
   rw[a7 (r:=bK) hlt]
   have hg:m.1[k].2.2.2.length≤1000:=by
    have:=List.all_eq_true.1 hok.2 _ (List.getElem_mem hlt)
    exact of_decide_eq_true this
   refine ⟨?_,?_⟩
   ·rw[show fR 1 (List.map (Sy.int IntKind.i64).enc m.1[k].2.2.2)=true from zA (.int .i64) _,List.length_map,decide_eq_true (by omega),decide_eq_true (by omega)];rfl
   ·show _=Sh.enc [(true,bK),(false,.bool)] (found fG (cA m n))
    rw[←hf];rfl
  ·rw[if_neg (by simpa using hc)] at hf
   rw[bY]
   exact hX _ hlt ⟨TS (by omega),hf⟩
 ·rw[List.length_map] at hge
  have:k=m.1.length:=by omega
  subst this
  rw[List.drop_length] at hf
  show _=Sh.enc [(true,bK),(false,.bool)] (found fG (cA m n))
  rw[←hf];rfl
theorem o6 {m:aM} (h:CA m=true) (n:ByteArray):dI [aB true aG m,T.v (.string n)]=some (Sh.enc [(true,bK),(false,.bool)] (found fG (cA m n))):=(NQ ..).trans (nU _ h)
noncomputable def H8:Env:=Env.of []
def W0:FuncId→Hint:=fun f=>match f == 73 with|true=>⟨fun r=>match r == 2 with|true=>.inv [.val 6 false (.int .i64),.fix 1]|false=>.none,fun _ _=>none,fun _=>none⟩|false=>aS
theorem ACL:aF Tryz.prog H8:=aF.nil _
def JD (a0:aM) (a1:ByteArray) (R:T→Prop):Prop :=
 dY
 (aY.rows false
 [[D.p (T.v (.string { data:=#[] })),D.p (T.v (.int .i64 0)),
 D.p (T.v (.int .i64 0)),D.p (T.v (.int .i64 0))]])
 (aY.rows false
 [[D.p (T.v (.string { data:=#[] })),D.p (T.v (.int .i64 0)),
 D.p (T.v (.int .i64 0)),D.p (T.v (.int .i64 0))]])
 (bE (Int×PUnit×PUnit)
 (fun (X0:Int×PUnit×PUnit→Prop) (s1:Int×PUnit×PUnit) =>
 aC (decide (s1.1<(↑(List.map aW.enc a0.2).length:Int)))
 (aZ aW (List.map aW.enc a0.2) s1.1 fun (y2:bQ) =>
 aC (decide (y2.1=a1))
 (aZ aW (List.map aW.enc a0.2) s1.1 fun (y3:bQ) =>
 R (T.bX [aB true aW y3,T.v (.bool true)]))
 (dY
 (aY.rows false
 [[D.p (T.v (.string { data:=#[] })),
 D.p (T.v (.int .i64 0)),
 D.p (T.v (.int .i64 0)),
 D.p (T.v (.int .i64 0))]])
 (aY.rows false
 [[D.p (T.v (.string { data:=#[] })),
 D.p (T.v (.int .i64 0)),
 D.p (T.v (.int .i64 0)),
 D.p (T.v (.int .i64 0))]])
 (X0 (IntKind.i64.wrap (s1.1+1),(),()))))
 (R
 (T.bX
 [T.agg
 [T.v (.string { data:=#[] }),T.v (.int .i64 0),
 T.v (.int .i64 0),T.v (.int .i64 0)],
 T.v (.bool false)])))
 (0,(),()))
theorem VX ( a0 a1 R):bD aX Tryz.prog H8 W0 8 73 [aB true aG a0,aB false Sy.str a1] R=JD a0 a1 R:=by kernel_rfl
abbrev BD:Sh:=[(true,aG),(false,Sy.str)]
def EZ (x:aM×ByteArray):Option T:=some (Sh.enc [(true,aW),(false,.bool)] (found AK (l8 x.1 x.2)))
noncomputable def iQ:List T→Option (T):=gS BD EZ
theorem ZL {a0 a1}:iQ [aB true aG a0,T.v (.string a1)]=EZ (a0,a1):=aT (s:=BD) rfl (a0,a1) rfl
theorem AL9 (h:∀ a0 a1 r,EZ (a0,a1)=some r→bU BD (a0,a1)→JD a0 a1 (fun y=>y=r)):aJ Tryz.prog 73 iQ :=
 aN (E:=H8) (Hs:=W0) ACL aU aV (aK rfl) 8 ⟨_,_,Tryz.func73,rfl⟩ rfl fun x r h1 h2=>by
  obtain ⟨a0,a1⟩:=x
  rw[show Sh.bI BD (a0,a1)=[aB true aG a0,aB false Sy.str a1] from rfl,VX]
  exact h a0 a1 r h1 h2
theorem O4:aJ Tryz.prog 73 iQ:=AL9 fun m n r h hb=>by
 cases h
 have hl:m.2.length≤2 ^ 47:=hb.1.2.1
 unfold JD
 rw[bY]
 refine aR m.2.length (fun k s=>s.1=(k:Int)∧(m.2.drop k).find? (fun s=>decide (s.1=n))=l8 m n) ⟨rfl,rfl⟩ ?_
 rintro X k ⟨i,u1,u2⟩ hk ⟨rfl,hf⟩ hX
 dsimp only at hf ⊢
 refine bT (fun hlt=>?_) fun hge=>?_
 ·rw[List.length_map] at hlt
  have hlt:k<m.2.length:=by omega
  rw[gG hlt] at hf
  rw[a7 (r:=aW) hlt]
  refine bT (fun hc=>?_) fun hc=>?_
  ·rw[if_pos (decide_eq_true hc)] at hf
   rw[a7 (r:=aW) hlt]
   show _=Sh.enc [(true,aW),(false,.bool)] (found AK (l8 m n))
   rw[←hf];rfl
  ·rw[if_neg (by simpa using hc)] at hf
   rw[bY]
   exact hX _ hlt ⟨by show IntKind.i64.wrap ((k:Int)+1)=_;exact aO _ (by omega) (by omega),hf⟩
 ·rw[List.length_map] at hge
  have:k=m.2.length:=by omega
  subst this
  rw[List.drop_length] at hf
  show _=Sh.enc [(true,aW),(false,.bool)] (found AK (l8 m n))
  rw[←hf];rfl
theorem F1 (m:aM) (n:ByteArray):iQ [aB true aG m,T.v (.string n)]=some (Sh.enc [(true,aW),(false,.bool)] (found AK (l8 m n))):=ZL ..
noncomputable def sA:Env:=Env.of [(72,.pure dI)]
def FN:FuncId→Hint:=fun f=>match f == 158 with|true=>⟨fun r=>match r == 3 with|true=>.inv [.val 9 false (.int .i64)]|false=>.none,fun _ _=>none,fun _=>none⟩|false=>aS
theorem M9:aF Tryz.prog sA:=aF.cons (x:=.pure dI) sK (aF.nil _)
def sB (a0:aM) (a1:ByteArray) (a2:Int) (R:T→Prop):Prop :=
 aH [(true,bK),(false,Sy.bool)]
 (dI [aB true aG a0,T.v (.string a1)])
 fun (y0:dO×Bool) =>
 bE (Int×PUnit)
 (fun (X1:Int×PUnit→Prop) (s2:Int×PUnit) =>
 aC (decide (s2.1<(↑(List.map (Sy.int IntKind.i64).enc y0.1.2.2.2).length:Int)))
 (aZ (Sy.int IntKind.i64) (List.map (Sy.int IntKind.i64).enc y0.1.2.2.2)
 s2.1 fun (y3:Int) =>
 aC (decide (y3=a2)) (R (T.v (.bool true)))
 (X1 (IntKind.i64.wrap (s2.1+1),())))
 (R (T.v (.bool false))))
 (0,())
theorem JC ( a0 a1 a2 R):bD aX Tryz.prog sA FN 8 158 [aB true aG a0,aB false Sy.str a1,
 aB false (Sy.int IntKind.i64) a2] R=sB a0 a1 a2 R:=by kernel_rfl
abbrev oX:Sh:=[(true,aG),(false,Sy.str),(false,(Sy.int IntKind.i64))]
def rP (x:aM×ByteArray×Int):Option T:=tH x.1 (T.v (.bool (fS x.1 x.2.1 x.2.2)))
noncomputable def gR:List T→Option (T):=gS oX rP
theorem LI {a0 a1 a2}:gR [aB true aG a0,T.v (.string a1),T.v (.int .i64 a2)]=rP (a0,a1,a2):=aT (s:=oX) rfl (a0,a1,a2) rfl
theorem TU (h:∀ a0 a1 a2 r,rP (a0,a1,a2)=some r→bU oX (a0,a1,a2)→sB a0 a1 a2 (fun y=>y=r)):aJ Tryz.prog 158 gR :=
 aN (E:=sA) (Hs:=FN) M9 aU aV (aK rfl) 8 ⟨_,_,Tryz.func158,rfl⟩ rfl fun x r h1 h2=>by
  obtain ⟨a0,a1,a2⟩:=x
  rw[show Sh.bI oX (a0,a1,a2)=[aB true aG a0,aB false Sy.str a1,
 aB false (Sy.int IntKind.i64) a2] from rfl,JC]
  exact h a0 a1 a2 r h1 h2
theorem SS:aJ Tryz.prog 158 gR:=TU fun m n t r h hb=>by
 obtain ⟨hok,rfl⟩:=nT h
 clear h
 replace hok:CA m=true:=hok
 have is:∀ {b:Bool},fS m n t=b→T.v (.bool b)=T.v (.bool (fS m n t)):=fun h=>by rw[h]
 unfold sB
 refine aD (s:=[(true,bK),(false,.bool)]) (y:=found fG (cA m n)) (o6 hok n) ?_
 have w:fS m n t=(found fG (cA m n)).1.2.2.2.any fun x=>decide (t=x):=by
  unfold fS
  cases cA m n<;>rfl
 have hlen:(found fG (cA m n)).1.2.2.2.length≤1000:=by
  cases hg:cA m n with
  | none=>exact Nat.zero_le _
  | some g =>
   simp only[CA,Bool.and_eq_true,decide_eq_true_eq] at hok
   exact of_decide_eq_true (List.all_eq_true.1 hok.2 _ (List.mem_of_find?_eq_some hg))
 generalize (found fG (cA m n)).1.2.2.2=g at w hlen ⊢
 refine aR g.length (fun k s=>s=((k:Int),())∧g.any (fun x=>decide (t=x))=(g.drop k).any fun x=>decide (t=x)) ⟨rfl,by rw[List.drop_zero]⟩ ?_
 rintro X k s hk ⟨rfl,hf⟩ hX
 dsimp only
 refine bT (fun hlt=>?_) fun hge=>is ?_
 ·rw[List.length_map] at hlt
  have hlt:k<g.length:=by omega
  rw[List.drop_eq_getElem_cons hlt,List.any_cons] at hf
  rw[a7 (r:=.int .i64) hlt]
  refine bT (fun hc=>is ?_) fun hc=>hX _ hlt ⟨by rw[TS (by omega)],by rw[hf,decide_eq_false (fun e=>hc e.symm),Bool.false_or]⟩
  rw[w,hf,decide_eq_true hc.symm];rfl
 ·rw[List.length_map] at hge
  have:k=g.length:=by omega
  subst this
  rw[w,hf,List.drop_length];rfl
theorem LJ {m:aM} (h:CA m=true) (n:ByteArray) (t:Int):gR [aB true aG m,T.v (.string n),T.v (Value.int .i64 t)]=some (Sh.enc [(false,.bool)] (fS m n t)):=(LI ..).trans (nU _ h)
end Go.Pv
