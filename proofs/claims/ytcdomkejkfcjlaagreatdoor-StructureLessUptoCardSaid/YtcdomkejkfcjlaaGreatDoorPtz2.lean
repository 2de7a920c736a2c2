/-
  part: Check, Mass.
  Plane geometry, plain: a simple contour has an area, and the area of a valid shape is not negative.
  The reference's poly: segments and simple contours.
  The reference's poly: Check, Area2, Where.
  The reference's region: Check, Area2.
  The reference's vec.Valid and material.
  The reference's part: Check, Mass.
  dag.Order, walked.
  dag.Order of the program, as the reference takes it: again and again the least node that nothing waits for.
  Packages; equality of lists, shapes, parts and packages.
  Chapter 17: the tree's seams and requirements.
  Chapter 17: the tree's parts and packages, walked; Check, walked.
-/
import Derived.Test.YtcdomkejkfcjlaaGreatDoorPtz1
set_option linter.unusedSimpArgs false
set_option linter.unusedVariables false
set_option maxRecDepth 100000
namespace Go.Pv
open Go Go.Proofs
abbrev bG (p:bM):Int:=p.2.2.1
abbrev eY (p:bM):ByteArray:=p.2.2.2.1
abbrev dS (p:bM):ByteArray:=p.2.2.2.2.1
abbrev fT (p:bM):Int:=p.2.2.2.2.2.1
abbrev dH (p:bM):eQ:=p.2.2.2.2.2.2.1
abbrev CB (p:bM):ByteArray:=p.2.2.2.2.2.2.2.1
abbrev kK (p:bM):Int:=p.2.2.2.2.2.2.2.2.1
abbrev iF (p:bM):Int:=p.2.2.2.2.2.2.2.2.2.1
abbrev pD (p:bM):AFH:=p.2.2.2.2.2.2.2.2.2.2.1
abbrev aAt (p:bM):uL:=p.2.2.2.2.2.2.2.2.2.2.2
def SH (p:bM):Bool:=!decide (fT p=0)||decide (0<(dH p).1.length+(dH p).2.length)
def AZ6 (p:bM):Bool:=!decide (CB p = { data:=#[] }) || !decide (kK p=0)
def A0G (p:bM):Bool:=!decide (iF p=0) || !(decide ((pD p).1=0)&&(decide ((pD p).2.1=0)&&decide ((pD p).2.2=0)))
def iC (p:bM):Bool:=if bG p=1 then AZ6 p||A0G p else if bG p=2∨bG p=3 then SH p||A0G p else !decide (dS p = { data:=#[] })||(SH p||AZ6 p)
noncomputable def NR:Env:=Env.of []
def AE0:FuncId→Hint:=fun f=>match f == 102 with|true=>⟨fun _=>.none,fun i j=>match i == 1&&j == 1 with|true=>some [.val 3 false .bool]|false=>match i == 2&&j == 2 with|true=>some [.val 4 false .bool]|false=>match i == 3&&j == 3 with|true=>some [.val 5 false .bool]|false=>none,fun _=>none⟩|false=>aV
theorem AKQ:aH Tryz.prog NR:=aH.nil _
def OZ (a0:bM) (R:T→Prop):Prop :=
 rD (Bool×PUnit)
 (fun (X0:Bool×PUnit→Prop) =>
 aB (!decide (a0.2.2.2.2.2.1=0)) (X0 (true,()))
 (X0
 (decide
 (0 <
 IntKind.i64.wrap
 ((↑(List.map aA.enc a0.2.2.2.2.2.2.1.1).length:Int) +
 (↑(List.map aA.li.enc a0.2.2.2.2.2.2.1.2).length:Int))),
 ())))
 fun (s1:Bool×PUnit) =>
 rD (Bool×PUnit)
 (fun (X2:Bool×PUnit→Prop) =>
 aB (!decide (a0.2.2.2.2.2.2.2.1 = { data:=#[] })) (X2 (true,()))
 (X2 (!decide (a0.2.2.2.2.2.2.2.2.1=0),())))
 fun (s3:Bool×PUnit) =>
 rD (Bool×PUnit)
 (fun (X4:Bool×PUnit→Prop) =>
 aB (!decide (a0.2.2.2.2.2.2.2.2.2.1=0)) (X4 (true,()))
 (X4
 (!(decide (a0.2.2.2.2.2.2.2.2.2.2.1.1=0) &&
 (decide (a0.2.2.2.2.2.2.2.2.2.2.1.2.1=0) &&
 (decide (a0.2.2.2.2.2.2.2.2.2.2.1.2.2=0)&&true))),
 ())))
 fun (s5:Bool×PUnit) =>
 aB (decide (a0.2.2.1=1))
 (aB s3.1 (R (T.v (.bool true))) (R (T.v (.bool s5.1))))
 (aB (decide (a0.2.2.1=2))
 (aB s1.1 (R (T.v (.bool true))) (R (T.v (.bool s5.1))))
 (aB (decide (a0.2.2.1=3))
 (aB s1.1 (R (T.v (.bool true))) (R (T.v (.bool s5.1))))
 (aB (decide (a0.2.2.1=4))
 (aB (!decide (a0.2.2.2.2.1 = { data:=#[] })) (R (T.v (.bool true)))
 (aB s1.1 (R (T.v (.bool true))) (R (T.v (.bool s3.1)))))
 (aB (!decide (a0.2.2.2.2.1 = { data:=#[] })) (R (T.v (.bool true)))
 (aB s1.1 (R (T.v (.bool true))) (R (T.v (.bool s3.1))))))))
theorem ADS ( a0 R):bC aY Tryz.prog NR AE0 8 102 [aC true aU a0] R=OZ a0 R:=by kernel_rfl
abbrev F0:Sh:=[(true,aU)]
def J2 (p:bM):Option T:=some (T.v (.bool (iC p)))
noncomputable def kA:List T→Option (T):=gS F0 J2
theorem AHG {a0}:kA [aC true aU a0]=J2 (a0):=a8 (s:=F0) rfl (a0) rfl
theorem AVI (h:∀ a0 r,J2 (a0)=some r→b8 F0 (a0)→OZ a0 (fun y=>y=r)):aK Tryz.prog 102 kA :=
 aR (E:=NR) (Hs:=AE0) AKQ aW aX (aM rfl) 8 ⟨_,_,Tryz.func102,rfl⟩ rfl fun x r h1 h2=>by
  let a0:=x
  rw[show Sh.bN F0 (a0)=[aC true aU a0] from rfl,ADS]
  exact h a0 r h1 h2
theorem AAW {a b:Bool} {n:Bool} (h:n=(a||b)):aB a (T.v (.bool true)=T.v (.bool n)) (T.v (.bool b)=T.v (.bool n)):=by
 subst h;cases a<;>rfl
theorem ATQ:aK Tryz.prog 102 kA:=AVI fun p r h hb=>by
 have b1:(dH p).1.length≤2 ^ 47:=hb.2.2.2.2.2.2.1.1.1
 have b2:(dH p).2.length≤2 ^ 47:=hb.2.2.2.2.2.2.1.2.1
 cases h
 unfold OZ
 have j:∀ {a b:Bool} {K:Bool×PUnit→Prop},K (a||b,())→rD (Bool×PUnit) (fun (X:Bool×PUnit→Prop)=>aB a (X (true,())) (X (b,()))) K:=fun {a b K} hK=>by
  rw[zH];cases a<;>exact hK
 have e1:decide (0<IntKind.i64.wrap (((List.map aA.enc (dH p).1).length:Int)+((List.map aA.li.enc (dH p).2).length:Int)))=decide (0<(dH p).1.length+(dH p).2.length):=by
  rw[List.length_map,List.length_map,aS _ (by omega) (by omega)]
  exact decide_eq_decide.2 (by omega)
 refine j ?_
 refine j ?_
 refine j ?_
 dsimp only
 rw[e1,Bool.and_true]
 refine bL (fun h=>AAW (by unfold iC;rw[if_pos h];rfl)) fun k1=>?_
 refine bL (fun h=>AAW (by unfold iC;rw[if_neg k1,if_pos (.inl h)];rfl)) fun k2=>?_
 refine bL (fun h=>AAW (by unfold iC;rw[if_neg k1,if_pos (.inr h)];rfl)) fun k3=>?_
 have w:iC p=(!decide (dS p = { data:=#[] })||(SH p||AZ6 p)):=by
  unfold iC;rw[if_neg k1,if_neg];rintro (h|h)
  ·exact k2 h
  ·exact k3 h
 have fin:aB (!decide (dS p = { data:=#[] })) (T.v (.bool true)=T.v (.bool (iC p))) (aB (SH p) (T.v (.bool true)=T.v (.bool (iC p))) (T.v (.bool (AZ6 p))=T.v (.bool (iC p)))):=by
  rw[w]
  cases (!decide (dS p = { data:=#[] })) with
  | true=>rfl
  | false=>exact AAW rfl
 exact bL (fun _=>fin) fun _=>fin
def LJ (m:aN) (n:ByteArray):Bool:=match qA m n with
 | some s=>decide (1≤s.2.1)&&decide (s.2.1≤1000000)&&(decide (1≤s.2.2.1)&&decide (s.2.2.1≤2000))
 | none=>false
def dA (p:bM) (m:aN):Bool:=if bG p=4 then true else match cJ m (dS p) with
 | none=>false
 | some g=>decide (1000≤g.2.1)&&decide (g.2.1≤20000)&&(if bG p=1 then decide (1≤fT p)&&decide (fT p≤120)&&iB m (dS p) (fT p) else LJ m (CB p))
noncomputable def XF:Env:=Env.of [(107,.pure eF),(108,.pure cA),(127,.pure iP)]
def APW:FuncId→Hint:=fun _=>aV
theorem AR3:aH Tryz.prog XF:=aH.cons (x:=.pure eF) IQ (aH.cons (x:=.pure cA) QR (aH.cons (x:=.pure iP) AMN (aH.nil _)))
def YS (a0:bM) (a1:aN) (R:T→Prop):Prop :=
 aB (decide (a0.2.2.1=1))
 (aG [(true,bH),(false,Sy.bool)]
 (eF [aC true aE a1,T.v (.string a0.2.2.2.2.1)])
 fun (y0:cS×Bool) =>
 aB (!y0.2) (R (T.v (.bool false)))
 (aB (decide (1000≤y0.1.2.1))
 (aB (!decide (y0.1.2.1≤20000)) (R (T.v (.bool false)))
 (aB (decide (a0.2.2.1=1))
 (aB (decide (1≤a0.2.2.2.2.2.1))
 (aB (decide (a0.2.2.2.2.2.1≤120))
 (aG [(false,Sy.bool)]
 (iP
 [aC true aE a1,T.v (.string a0.2.2.2.2.1),
 T.v (.int .i64 a0.2.2.2.2.2.1)])
 fun (y1:Bool)=>R (T.v (.bool y1)))
 (R (T.v (.bool false))))
 (R (T.v (.bool false))))
 (aB (decide (a0.2.2.1=2))
 (aG [(true,a7),(false,Sy.bool)]
 (cA
 [aC true aE a1,T.v (.string a0.2.2.2.2.2.2.2.1)])
 fun (y2:bU×Bool) =>
 aB y2.2
 (aB (decide (1≤y2.1.2.1))
 (aB (decide (y2.1.2.1≤1000000))
 (aB (decide (1≤y2.1.2.2.1))
 (R (T.v (.bool (decide (y2.1.2.2.1≤2000)))))
 (R (T.v (.bool false))))
 (R (T.v (.bool false))))
 (R (T.v (.bool false))))
 (R (T.v (.bool false))))
 (aB (decide (a0.2.2.1=3))
 (aG [(true,a7),(false,Sy.bool)]
 (cA
 [aC true aE a1,
 T.v (.string a0.2.2.2.2.2.2.2.1)])
 fun (y3:bU×Bool) =>
 aB y3.2
 (aB (decide (1≤y3.1.2.1))
 (aB (decide (y3.1.2.1≤1000000))
 (aB (decide (1≤y3.1.2.2.1))
 (R (T.v (.bool (decide (y3.1.2.2.1≤2000)))))
 (R (T.v (.bool false))))
 (R (T.v (.bool false))))
 (R (T.v (.bool false))))
 (R (T.v (.bool false))))
 (aB (decide (a0.2.2.1=4))
 (aG [(true,a7),(false,Sy.bool)]
 (cA
 [aC true aE a1,
 T.v (.string a0.2.2.2.2.2.2.2.1)])
 fun (y4:bU×Bool) =>
 aB y4.2
 (aB (decide (1≤y4.1.2.1))
 (aB (decide (y4.1.2.1≤1000000))
 (aB (decide (1≤y4.1.2.2.1))
 (R (T.v (.bool (decide (y4.1.2.2.1≤2000)))))
 (R (T.v (.bool false))))
 (R (T.v (.bool false))))
 (R (T.v (.bool false))))
 (R (T.v (.bool false))))
 (aG [(true,a7),(false,Sy.bool)]
 (cA
 [aC true aE a1,
 T.v (.string a0.2.2.2.2.2.2.2.1)])
 fun (y5:bU×Bool) =>
 aB y5.2
 (aB (decide (1≤y5.1.2.1))
 (aB (decide (y5.1.2.1≤1000000))
 (aB (decide (1≤y5.1.2.2.1))
 (R (T.v (.bool (decide (y5.1.2.2.1≤2000)))))
 (R (T.v (.bool false))))
 (R (T.v (.bool false))))
 (R (T.v (.bool false))))
 (R (T.v (.bool false)))))))))
 (R (T.v (.bool false)))))
 (aB (decide (a0.2.2.1=2))
 (aG [(true,bH),(false,Sy.bool)]
 (eF [aC true aE a1,T.v (.string a0.2.2.2.2.1)])
 fun (y6:cS×Bool) =>
 aB (!y6.2) (R (T.v (.bool false)))
 (aB (decide (1000≤y6.1.2.1))
 (aB (!decide (y6.1.2.1≤20000)) (R (T.v (.bool false)))
 (aB (decide (a0.2.2.1=1))
 (aB (decide (1≤a0.2.2.2.2.2.1))
 (aB (decide (a0.2.2.2.2.2.1≤120))
 (aG [(false,Sy.bool)]
 (iP
 [aC true aE a1,T.v (.string a0.2.2.2.2.1),
 T.v (.int .i64 a0.2.2.2.2.2.1)])
 fun (y7:Bool)=>R (T.v (.bool y7)))
 (R (T.v (.bool false))))
 (R (T.v (.bool false))))
 (aB (decide (a0.2.2.1=2))
 (aG [(true,a7),(false,Sy.bool)]
 (cA
 [aC true aE a1,
 T.v (.string a0.2.2.2.2.2.2.2.1)])
 fun (y8:bU×Bool) =>
 aB y8.2
 (aB (decide (1≤y8.1.2.1))
 (aB (decide (y8.1.2.1≤1000000))
 (aB (decide (1≤y8.1.2.2.1))
 (R (T.v (.bool (decide (y8.1.2.2.1≤2000)))))
 (R (T.v (.bool false))))
 (R (T.v (.bool false))))
 (R (T.v (.bool false))))
 (R (T.v (.bool false))))
 (aB (decide (a0.2.2.1=3))
 (aG [(true,a7),(false,Sy.bool)]
 (cA
 [aC true aE a1,
 T.v (.string a0.2.2.2.2.2.2.2.1)])
 fun (y9:bU×Bool) =>
 aB y9.2
 (aB (decide (1≤y9.1.2.1))
 (aB (decide (y9.1.2.1≤1000000))
 (aB (decide (1≤y9.1.2.2.1))
 (R (T.v (.bool (decide (y9.1.2.2.1≤2000)))))
 (R (T.v (.bool false))))
 (R (T.v (.bool false))))
 (R (T.v (.bool false))))
 (R (T.v (.bool false))))
 (aB (decide (a0.2.2.1=4))
 (aG [(true,a7),(false,Sy.bool)]
 (cA
 [aC true aE a1,
 T.v (.string a0.2.2.2.2.2.2.2.1)])
 fun (y10:bU×Bool) =>
 aB y10.2
 (aB (decide (1≤y10.1.2.1))
 (aB (decide (y10.1.2.1≤1000000))
 (aB (decide (1≤y10.1.2.2.1))
 (R (T.v (.bool (decide (y10.1.2.2.1≤2000)))))
 (R (T.v (.bool false))))
 (R (T.v (.bool false))))
 (R (T.v (.bool false))))
 (R (T.v (.bool false))))
 (aG [(true,a7),(false,Sy.bool)]
 (cA
 [aC true aE a1,
 T.v (.string a0.2.2.2.2.2.2.2.1)])
 fun (y11:bU×Bool) =>
 aB y11.2
 (aB (decide (1≤y11.1.2.1))
 (aB (decide (y11.1.2.1≤1000000))
 (aB (decide (1≤y11.1.2.2.1))
 (R (T.v (.bool (decide (y11.1.2.2.1≤2000)))))
 (R (T.v (.bool false))))
 (R (T.v (.bool false))))
 (R (T.v (.bool false))))
 (R (T.v (.bool false)))))))))
 (R (T.v (.bool false)))))
 (aB (decide (a0.2.2.1=3))
 (aG [(true,bH),(false,Sy.bool)]
 (eF [aC true aE a1,T.v (.string a0.2.2.2.2.1)])
 fun (y12:cS×Bool) =>
 aB (!y12.2) (R (T.v (.bool false)))
 (aB (decide (1000≤y12.1.2.1))
 (aB (!decide (y12.1.2.1≤20000)) (R (T.v (.bool false)))
 (aB (decide (a0.2.2.1=1))
 (aB (decide (1≤a0.2.2.2.2.2.1))
 (aB (decide (a0.2.2.2.2.2.1≤120))
 (aG [(false,Sy.bool)]
 (iP
 [aC true aE a1,T.v (.string a0.2.2.2.2.1),
 T.v (.int .i64 a0.2.2.2.2.2.1)])
 fun (y13:Bool)=>R (T.v (.bool y13)))
 (R (T.v (.bool false))))
 (R (T.v (.bool false))))
 (aB (decide (a0.2.2.1=2))
 (aG [(true,a7),(false,Sy.bool)]
 (cA
 [aC true aE a1,
 T.v (.string a0.2.2.2.2.2.2.2.1)])
 fun (y14:bU×Bool) =>
 aB y14.2
 (aB (decide (1≤y14.1.2.1))
 (aB (decide (y14.1.2.1≤1000000))
 (aB (decide (1≤y14.1.2.2.1))
 (R (T.v (.bool (decide (y14.1.2.2.1≤2000)))))
 (R (T.v (.bool false))))
 (R (T.v (.bool false))))
 (R (T.v (.bool false))))
 (R (T.v (.bool false))))
 (aB (decide (a0.2.2.1=3))
 (aG [(true,a7),(false,Sy.bool)]
 (cA
 [aC true aE a1,
 T.v (.string a0.2.2.2.2.2.2.2.1)])
 fun (y15:bU×Bool) =>
 aB y15.2
 (aB (decide (1≤y15.1.2.1))
 (aB (decide (y15.1.2.1≤1000000))
 (aB (decide (1≤y15.1.2.2.1))
 (R (T.v (.bool (decide (y15.1.2.2.1≤2000)))))
 (R (T.v (.bool false))))
 (R (T.v (.bool false))))
 (R (T.v (.bool false))))
 (R (T.v (.bool false))))
 (aB (decide (a0.2.2.1=4))
 (aG [(true,a7),(false,Sy.bool)]
 (cA
 [aC true aE a1,
 T.v (.string a0.2.2.2.2.2.2.2.1)])
 fun (y16:bU×Bool) =>
 aB y16.2
 (aB (decide (1≤y16.1.2.1))
 (aB (decide (y16.1.2.1≤1000000))
 (aB (decide (1≤y16.1.2.2.1))
 (R (T.v (.bool (decide (y16.1.2.2.1≤2000)))))
 (R (T.v (.bool false))))
 (R (T.v (.bool false))))
 (R (T.v (.bool false))))
 (R (T.v (.bool false))))
 (aG [(true,a7),(false,Sy.bool)]
 (cA
 [aC true aE a1,
 T.v (.string a0.2.2.2.2.2.2.2.1)])
 fun (y17:bU×Bool) =>
 aB y17.2
 (aB (decide (1≤y17.1.2.1))
 (aB (decide (y17.1.2.1≤1000000))
 (aB (decide (1≤y17.1.2.2.1))
 (R (T.v (.bool (decide (y17.1.2.2.1≤2000)))))
 (R (T.v (.bool false))))
 (R (T.v (.bool false))))
 (R (T.v (.bool false))))
 (R (T.v (.bool false)))))))))
 (R (T.v (.bool false)))))
 (aB (decide (a0.2.2.1=4)) (R (T.v (.bool true)))
 (aG [(true,bH),(false,Sy.bool)]
 (eF [aC true aE a1,T.v (.string a0.2.2.2.2.1)])
 fun (y18:cS×Bool) =>
 aB (!y18.2) (R (T.v (.bool false)))
 (aB (decide (1000≤y18.1.2.1))
 (aB (!decide (y18.1.2.1≤20000)) (R (T.v (.bool false)))
 (aB (decide (a0.2.2.1=1))
 (aB (decide (1≤a0.2.2.2.2.2.1))
 (aB (decide (a0.2.2.2.2.2.1≤120))
 (aG [(false,Sy.bool)]
 (iP
 [aC true aE a1,T.v (.string a0.2.2.2.2.1),
 T.v (.int .i64 a0.2.2.2.2.2.1)])
 fun (y19:Bool)=>R (T.v (.bool y19)))
 (R (T.v (.bool false))))
 (R (T.v (.bool false))))
 (aB (decide (a0.2.2.1=2))
 (aG [(true,a7),(false,Sy.bool)]
 (cA
 [aC true aE a1,
 T.v (.string a0.2.2.2.2.2.2.2.1)])
 fun (y20:bU×Bool) =>
 aB y20.2
 (aB (decide (1≤y20.1.2.1))
 (aB (decide (y20.1.2.1≤1000000))
 (aB (decide (1≤y20.1.2.2.1))
 (R (T.v (.bool (decide (y20.1.2.2.1≤2000)))))
 (R (T.v (.bool false))))
 (R (T.v (.bool false))))
 (R (T.v (.bool false))))
 (R (T.v (.bool false))))
 (aB (decide (a0.2.2.1=3))
 (aG [(true,a7),(false,Sy.bool)]
 (cA
 [aC true aE a1,
 T.v (.string a0.2.2.2.2.2.2.2.1)])
 fun (y21:bU×Bool) =>
 aB y21.2
 (aB (decide (1≤y21.1.2.1))
 (aB (decide (y21.1.2.1≤1000000))
 (aB (decide (1≤y21.1.2.2.1))
 (R (T.v (.bool (decide (y21.1.2.2.1≤2000)))))
 (R (T.v (.bool false))))
 (R (T.v (.bool false))))
 (R (T.v (.bool false))))
 (R (T.v (.bool false))))
 (aB (decide (a0.2.2.1=4))
 (aG [(true,a7),(false,Sy.bool)]
 (cA
 [aC true aE a1,
 T.v (.string a0.2.2.2.2.2.2.2.1)])
 fun (y22:bU×Bool) =>
 aB y22.2
 (aB (decide (1≤y22.1.2.1))
 (aB (decide (y22.1.2.1≤1000000))
 (aB (decide (1≤y22.1.2.2.1))
 (R (T.v (.bool (decide (y22.1.2.2.1≤2000)))))
 (R (T.v (.bool false))))
 (R (T.v (.bool false))))
 (R (T.v (.bool false))))
 (R (T.v (.bool false))))
 (aG [(true,a7),(false,Sy.bool)]
 (cA
 [aC true aE a1,
 T.v (.string a0.2.2.2.2.2.2.2.1)])
 fun (y23:bU×Bool) =>
 aB y23.2
 (aB (decide (1≤y23.1.2.1))
 (aB (decide (y23.1.2.1≤1000000))
 (aB (decide (1≤y23.1.2.2.1))
 (R (T.v (.bool (decide (y23.1.2.2.1≤2000)))))
 (R (T.v (.bool false))))
 (R (T.v (.bool false))))
 (R (T.v (.bool false))))
 (R (T.v (.bool false)))))))))
 (R (T.v (.bool false))))))))
theorem ALN ( a0 a1 R):bC aY Tryz.prog XF APW 8 103 [aC true aU a0,aC true aE a1] R=YS a0 a1 R:=by kernel_rfl
abbrev MN:Sh:=[(true,aU),(true,aE)]
def SR (x:bM×aN):Option T:=xZ x.2 (T.v (.bool (dA x.1 x.2)))
noncomputable def nA:List T→Option (T):=gS MN SR
theorem ANG {a0 a1}:nA [aC true aU a0,aC true aE a1]=SR (a0,a1):=a8 (s:=MN) rfl (a0,a1) rfl
theorem A06 (h:∀ a0 a1 r,SR (a0,a1)=some r→b8 MN (a0,a1)→YS a0 a1 (fun y=>y=r)):aK Tryz.prog 103 nA :=
 aR (E:=XF) (Hs:=APW) AR3 aW aX (aM rfl) 8 ⟨_,_,Tryz.func103,rfl⟩ rfl fun x r h1 h2=>by
  obtain ⟨a0,a1⟩:=x
  rw[show Sh.bN MN (a0,a1)=[aC true aU a0,aC true aE a1] from rfl,ALN]
  exact h a0 a1 r h1 h2
theorem EI (m:aN) (n:ByteArray):cA [aC true aE m,T.v (.string n)]=some (Sh.enc [(true,a7),(false,.bool)] (found nQ (qA m n))):=AAL ..
theorem AZA:aK Tryz.prog 103 nA:=A06 fun p m r h hb=>by
 obtain ⟨hok,rfl⟩:=pZ h
 replace hok:BK m=true:=hok
 clear h
 have is:∀ {n:Bool},dA p m=n→T.v (.bool n)=T.v (.bool (dA p m)):=fun h=>by rw[h]
 unfold YS
 have sec:∀ {g:cS},cJ m (dS p)=some g→¬ bG p=4→¬ bG p=1→1000≤g.2.1→g.2.1≤20000 →
   aG [(true,a7),(false,Sy.bool)] (cA [aC true aE m,T.v (.string (CB p))])
    fun (y2:bU×Bool) =>
    aB y2.2
     (aB (decide (1≤y2.1.2.1))
      (aB (decide (y2.1.2.1≤1000000))
       (aB (decide (1≤y2.1.2.2.1))
        (T.v (.bool (decide (y2.1.2.2.1≤2000)))=T.v (.bool (dA p m)))
        (T.v (.bool false)=T.v (.bool (dA p m))))
       (T.v (.bool false)=T.v (.bool (dA p m))))
      (T.v (.bool false)=T.v (.bool (dA p m))))
     (T.v (.bool false)=T.v (.bool (dA p m))):=by
  intro g hg k4 k1 d1 d2
  have w:dA p m=LJ m (CB p):=by
   unfold dA;rw[if_neg k4,hg];dsimp only;rw[decide_eq_true d1,decide_eq_true d2,if_neg k1];rfl
  refine aD (s:=[(true,a7),(false,.bool)]) (EI m _) ?_
  cases hs:qA m (CB p) with
  | none =>
   show aB false _ _
   rw[fV];exact is (by rw[w];unfold LJ;rw[hs])
  | some s =>
   show aB true _ _
   rw[eU]
   dsimp only[found]
   have w2:dA p m=(decide (1≤s.2.1)&&decide (s.2.1≤1000000)&&(decide (1≤s.2.2.1)&&decide (s.2.2.1≤2000))):=by rw[w];unfold LJ;rw[hs]
   refine bL (fun h1=>bL (fun h2=>bL (fun h3=>is ?_) fun h3=>is ?_) fun h2=>is ?_) fun h1=>is ?_
   ·rw[w2,decide_eq_true h1,decide_eq_true h2,decide_eq_true h3];rfl
   ·rw[w2,decide_eq_true h1,decide_eq_true h2,decide_eq_false h3];rfl
   ·rw[w2,decide_eq_true h1,decide_eq_false h2];rfl
   ·rw[w2,decide_eq_false h1];rfl
 have plate:∀ {g:cS},cJ m (dS p)=some g→bG p=1→1000≤g.2.1→g.2.1≤20000 →
   aB (decide (1≤fT p)) (aB (decide (fT p≤120)) (aG [(false,Sy.bool)] (iP [aC true aE m,T.v (.string (dS p)),T.v (.int .i64 (fT p))]) fun (y1:Bool)=>T.v (.bool y1)=T.v (.bool (dA p m))) (T.v (.bool false)=T.v (.bool (dA p m)))) (T.v (.bool false)=T.v (.bool (dA p m))):=by
  intro g hg k1 d1 d2
  have w:dA p m=(decide (1≤fT p)&&decide (fT p≤120)&&iB m (dS p) (fT p)):=by
   unfold dA;rw[if_neg (by omega),hg];dsimp only;rw[decide_eq_true d1,decide_eq_true d2,if_pos k1];rfl
  refine bL (fun h1=>bL (fun h2=>?_) fun h2=>is ?_) fun h1=>is ?_
  ·refine aD (s:=[(false,.bool)]) (y:=iB m (dS p) (fT p)) ((Z5 ..).trans (p0 _ hok)) (is ?_)
   rw[w,decide_eq_true h1,decide_eq_true h2];rfl
  ·rw[w,decide_eq_true h1,decide_eq_false h2];rfl
  ·rw[w,decide_eq_false h1];rfl
 by_cases k4:p.2.2.1=4
 ·have w:dA p m=true:=by unfold dA;rw[if_pos k4]
  repeat' first
   | (exfalso;omega)
   | exact is w
   | refine bL (fun h=>?_) (fun h=>?_)
 ·have hnone:cJ m (dS p)=none→dA p m=false:=fun h=>by unfold dA;rw[if_neg k4,h]
  have dens:∀ {g:cS},cJ m (dS p)=some g→¬ (1000≤g.2.1∧g.2.1≤20000)→dA p m=false:=fun {g} hg h=>by
   unfold dA;rw[if_neg k4,hg];dsimp only
   by_cases h1:1000≤g.2.1
   ·rw[decide_eq_false (show ¬ g.2.1≤20000 by omega),Bool.and_false,Bool.false_and]
   ·rw[decide_eq_false h1,Bool.false_and,Bool.false_and]
  have call:∀ {K:cS×Bool→Prop},(cJ m (dS p)=none→K (dO,false))→(∀ g,cJ m (dS p)=some g→K (g,true))→aG [(true,bH),(false,Sy.bool)] (eF [aC true aE m,T.v (.string p.2.2.2.2.1)]) K:=fun {K} h1 h2=>by
   refine aD (s:=[(true,bH),(false,.bool)]) (xH hok _) ?_
   cases hg:cJ m (dS p) with
   | none=>exact h1 hg
   | some g=>exact h2 g hg
  have body:∀ {K:cS×Bool→Prop},(∀ g,cJ m (dS p)=some g→1000≤g.2.1→g.2.1≤20000→K (g,true))→aG [(true,bH),(false,Sy.bool)] (eF [aC true aE m,T.v (.string p.2.2.2.2.1)]) fun (y0:cS×Bool)=>aB (!y0.2) (T.v (.bool false)=T.v (.bool (dA p m))) (aB (decide (1000≤y0.1.2.1)) (aB (!decide (y0.1.2.1≤20000)) (T.v (.bool false)=T.v (.bool (dA p m))) (K y0)) (T.v (.bool false)=T.v (.bool (dA p m)))):=fun {K} hK=>by
   refine call (fun hn=>?_) fun g hg=>?_
   ·show aB true _ _
    rw[eU];exact is (hnone hn)
   ·show aB false _ _
    rw[fV]
    exact bL (fun d1=>gP (fun d2=>is (dens hg (fun h=>d2 h.2))) fun d2=>hK g hg d1 d2) fun d1=>is (dens hg (fun h=>d1 h.1))
  refine bL (fun h=>body fun g hg d1 d2=>?_) fun h1=>bL (fun h=>body fun g hg d1 d2=>?_) fun h2=>bL (fun h=>body fun g hg d1 d2=>?_) fun h3=>bL (fun h=>absurd h k4) fun _=>body fun g hg d1 d2=>?_
  all_goals
   repeat' first
    | (exfalso;omega)
    | exact plate hg (by assumption) d1 d2
    | exact sec hg k4 (by assumption) d1 d2
    | exact sec hg k4 (by intro h';have h'':p.2.2.1=1:=h';omega) d1 d2
    | refine bL (fun h=>?_) (fun h=>?_)
def eA (p:bM) (m:aN):Int:=if gX p.1=false∨gX (eY p)=false then 6 else if ¬ (1≤p.2.1∧p.2.1≤1000) then 9 else if ¬ (bG p=1∨bG p=2∨bG p=3∨bG p=4) then 10 else if iC p=true then 2 else if dA p m=false then 23 else
 if bG p=1∧¬ gM (dH p)=0 then gM (dH p) else if (bG p=2∨bG p=3)∧¬ (1≤kK p∧kK p≤32768) then 9 else if bG p=4∧¬ (1≤iF p∧iF p≤1099511627776∧iN (pD p)=true) then 9 else if iU (aAt p)=false then 9 else 0
noncomputable def G3:Env:=Env.of [(66,.pure dQ),(102,.pure kA),(103,.pure nA),(104,.pure gB),(106,.pure b9)]
def UK:FuncId→Hint:=fun _=>aV
theorem ACQ:aH Tryz.prog G3:=aH.cons (x:=.pure dQ) L2 (aH.cons (x:=.pure kA) ATQ (aH.cons (x:=.pure nA) AZA (aH.cons (x:=.pure gB) VE (aH.cons (x:=.pure b9) ATZ (aH.nil _)))))
def HW (a0:bM) (a1:aN) (R:T→Prop):Prop :=
 aG [(false,Sy.bool)] (dQ [T.v (.string a0.1)]) fun (y0:Bool) =>
 aB (!y0) (R (T.v (.int .i64 6)))
 (aG [(false,Sy.bool)] (dQ [T.v (.string a0.2.2.2.1)])
 fun (y1:Bool) =>
 aB (!y1) (R (T.v (.int .i64 6)))
 (aB (decide (1≤a0.2.1))
 (aB (!decide (a0.2.1≤1000)) (R (T.v (.int .i64 9)))
 (aB (decide (a0.2.2.1=1))
 (aG [(false,Sy.bool)] (kA [aC true aU a0]) fun (y2:Bool) =>
 aB y2 (R (T.v (.int .i64 2)))
 (aG [(false,Sy.bool)]
 (nA [aC true aU a0,aC true aE a1])
 fun (y3:Bool) =>
 aB (!y3) (R (T.v (.int .i64 23)))
 (aB (decide (a0.2.2.1=1))
 (aG [(false,Sy.int IntKind.i64)]
 (gB [aC true cF a0.2.2.2.2.2.2.1])
 fun (y4:Int) =>
 aB (!decide (y4=0)) (R (T.v (.int .i64 y4)))
 (aG [(false,Sy.bool)]
 (b9
 [aC true cW a0.2.2.2.2.2.2.2.2.2.2.2])
 fun (y5:Bool) =>
 aB (!y5) (R (T.v (.int .i64 9)))
 (R (T.v (.int .i64 0)))))
 (aB (decide (a0.2.2.1=2))
 (aB (decide (1≤a0.2.2.2.2.2.2.2.2.1))
 (aB (!decide (a0.2.2.2.2.2.2.2.2.1≤32768))
 (R (T.v (.int .i64 9)))
 (aG [(false,Sy.bool)]
 (b9
 [aC true cW a0.2.2.2.2.2.2.2.2.2.2.2])
 fun (y6:Bool) =>
 aB (!y6) (R (T.v (.int .i64 9)))
 (R (T.v (.int .i64 0)))))
 (R (T.v (.int .i64 9))))
 (aB (decide (a0.2.2.1=3))
 (aB (decide (1≤a0.2.2.2.2.2.2.2.2.1))
 (aB (!decide (a0.2.2.2.2.2.2.2.2.1≤32768))
 (R (T.v (.int .i64 9)))
 (aG [(false,Sy.bool)]
 (b9
 [aC true cW a0.2.2.2.2.2.2.2.2.2.2.2])
 fun (y7:Bool) =>
 aB (!y7) (R (T.v (.int .i64 9)))
 (R (T.v (.int .i64 0)))))
 (R (T.v (.int .i64 9))))
 (aB (decide (a0.2.2.1=4))
 (aB (decide (1≤a0.2.2.2.2.2.2.2.2.2.1))
 (aB (!decide (a0.2.2.2.2.2.2.2.2.2.1≤1099511627776))
 (R (T.v (.int .i64 9)))
 (aG [(false,Sy.bool)]
 (b9
 [T.agg
 [T.v
 (Value.int IntKind.i64
 a0.2.2.2.2.2.2.2.2.2.2.1.1),
 T.v
 (Value.int IntKind.i64
 a0.2.2.2.2.2.2.2.2.2.2.1.2.1),
 T.v
 (Value.int IntKind.i64
 a0.2.2.2.2.2.2.2.2.2.2.1.2.2),
 T.v (.int .i64 0)]])
 fun (y8:Bool) =>
 aB (!y8) (R (T.v (.int .i64 9)))
 (aG [(false,Sy.bool)]
 (b9
 [aC true cW a0.2.2.2.2.2.2.2.2.2.2.2])
 fun (y9:Bool) =>
 aB (!y9) (R (T.v (.int .i64 9)))
 (R (T.v (.int .i64 0))))))
 (R (T.v (.int .i64 9))))
 (aG [(false,Sy.bool)]
 (b9
 [aC true cW a0.2.2.2.2.2.2.2.2.2.2.2])
 fun (y10:Bool) =>
 aB (!y10) (R (T.v (.int .i64 9)))
 (R (T.v (.int .i64 0))))))))))
 (aB (decide (a0.2.2.1=2))
 (aG [(false,Sy.bool)] (kA [aC true aU a0])
 fun (y11:Bool) =>
 aB y11 (R (T.v (.int .i64 2)))
 (aG [(false,Sy.bool)]
 (nA [aC true aU a0,aC true aE a1])
 fun (y12:Bool) =>
 aB (!y12) (R (T.v (.int .i64 23)))
 (aB (decide (a0.2.2.1=1))
 (aG [(false,Sy.int IntKind.i64)]
 (gB [aC true cF a0.2.2.2.2.2.2.1])
 fun (y13:Int) =>
 aB (!decide (y13=0)) (R (T.v (.int .i64 y13)))
 (aG [(false,Sy.bool)]
 (b9
 [aC true cW a0.2.2.2.2.2.2.2.2.2.2.2])
 fun (y14:Bool) =>
 aB (!y14) (R (T.v (.int .i64 9)))
 (R (T.v (.int .i64 0)))))
 (aB (decide (a0.2.2.1=2))
 (aB (decide (1≤a0.2.2.2.2.2.2.2.2.1))
 (aB (!decide (a0.2.2.2.2.2.2.2.2.1≤32768))
 (R (T.v (.int .i64 9)))
 (aG [(false,Sy.bool)]
 (b9
 [aC true cW a0.2.2.2.2.2.2.2.2.2.2.2])
 fun (y15:Bool) =>
 aB (!y15) (R (T.v (.int .i64 9)))
 (R (T.v (.int .i64 0)))))
 (R (T.v (.int .i64 9))))
 (aB (decide (a0.2.2.1=3))
 (aB (decide (1≤a0.2.2.2.2.2.2.2.2.1))
 (aB (!decide (a0.2.2.2.2.2.2.2.2.1≤32768))
 (R (T.v (.int .i64 9)))
 (aG [(false,Sy.bool)]
 (b9
 [aC true cW a0.2.2.2.2.2.2.2.2.2.2.2])
 fun (y16:Bool) =>
 aB (!y16) (R (T.v (.int .i64 9)))
 (R (T.v (.int .i64 0)))))
 (R (T.v (.int .i64 9))))
 (aB (decide (a0.2.2.1=4))
 (aB (decide (1≤a0.2.2.2.2.2.2.2.2.2.1))
 (aB (!decide (a0.2.2.2.2.2.2.2.2.2.1≤1099511627776))
 (R (T.v (.int .i64 9)))
 (aG [(false,Sy.bool)]
 (b9
 [T.agg
 [T.v
 (Value.int IntKind.i64
 a0.2.2.2.2.2.2.2.2.2.2.1.1),
 T.v
 (Value.int IntKind.i64
 a0.2.2.2.2.2.2.2.2.2.2.1.2.1),
 T.v
 (Value.int IntKind.i64
 a0.2.2.2.2.2.2.2.2.2.2.1.2.2),
 T.v (.int .i64 0)]])
 fun (y17:Bool) =>
 aB (!y17) (R (T.v (.int .i64 9)))
 (aG [(false,Sy.bool)]
 (b9
 [aC true cW
 a0.2.2.2.2.2.2.2.2.2.2.2])
 fun (y18:Bool) =>
 aB (!y18) (R (T.v (.int .i64 9)))
 (R (T.v (.int .i64 0))))))
 (R (T.v (.int .i64 9))))
 (aG [(false,Sy.bool)]
 (b9
 [aC true cW a0.2.2.2.2.2.2.2.2.2.2.2])
 fun (y19:Bool) =>
 aB (!y19) (R (T.v (.int .i64 9)))
 (R (T.v (.int .i64 0))))))))))
 (aB (decide (a0.2.2.1=3))
 (aG [(false,Sy.bool)] (kA [aC true aU a0])
 fun (y20:Bool) =>
 aB y20 (R (T.v (.int .i64 2)))
 (aG [(false,Sy.bool)]
 (nA [aC true aU a0,aC true aE a1])
 fun (y21:Bool) =>
 aB (!y21) (R (T.v (.int .i64 23)))
 (aB (decide (a0.2.2.1=1))
 (aG [(false,Sy.int IntKind.i64)]
 (gB [aC true cF a0.2.2.2.2.2.2.1])
 fun (y22:Int) =>
 aB (!decide (y22=0)) (R (T.v (.int .i64 y22)))
 (aG [(false,Sy.bool)]
 (b9
 [aC true cW a0.2.2.2.2.2.2.2.2.2.2.2])
 fun (y23:Bool) =>
 aB (!y23) (R (T.v (.int .i64 9)))
 (R (T.v (.int .i64 0)))))
 (aB (decide (a0.2.2.1=2))
 (aB (decide (1≤a0.2.2.2.2.2.2.2.2.1))
 (aB (!decide (a0.2.2.2.2.2.2.2.2.1≤32768))
 (R (T.v (.int .i64 9)))
 (aG [(false,Sy.bool)]
 (b9
 [aC true cW a0.2.2.2.2.2.2.2.2.2.2.2])
 fun (y24:Bool) =>
 aB (!y24) (R (T.v (.int .i64 9)))
 (R (T.v (.int .i64 0)))))
 (R (T.v (.int .i64 9))))
 (aB (decide (a0.2.2.1=3))
 (aB (decide (1≤a0.2.2.2.2.2.2.2.2.1))
 (aB (!decide (a0.2.2.2.2.2.2.2.2.1≤32768))
 (R (T.v (.int .i64 9)))
 (aG [(false,Sy.bool)]
 (b9
 [aC true cW a0.2.2.2.2.2.2.2.2.2.2.2])
 fun (y25:Bool) =>
 aB (!y25) (R (T.v (.int .i64 9)))
 (R (T.v (.int .i64 0)))))
 (R (T.v (.int .i64 9))))
 (aB (decide (a0.2.2.1=4))
 (aB (decide (1≤a0.2.2.2.2.2.2.2.2.2.1))
 (aB (!decide (a0.2.2.2.2.2.2.2.2.2.1≤1099511627776))
 (R (T.v (.int .i64 9)))
 (aG [(false,Sy.bool)]
 (b9
 [T.agg
 [T.v
 (Value.int IntKind.i64
 a0.2.2.2.2.2.2.2.2.2.2.1.1),
 T.v
 (Value.int IntKind.i64
 a0.2.2.2.2.2.2.2.2.2.2.1.2.1),
 T.v
 (Value.int IntKind.i64
 a0.2.2.2.2.2.2.2.2.2.2.1.2.2),
 T.v (.int .i64 0)]])
 fun (y26:Bool) =>
 aB (!y26) (R (T.v (.int .i64 9)))
 (aG [(false,Sy.bool)]
 (b9
 [aC true cW
 a0.2.2.2.2.2.2.2.2.2.2.2])
 fun (y27:Bool) =>
 aB (!y27) (R (T.v (.int .i64 9)))
 (R (T.v (.int .i64 0))))))
 (R (T.v (.int .i64 9))))
 (aG [(false,Sy.bool)]
 (b9
 [aC true cW a0.2.2.2.2.2.2.2.2.2.2.2])
 fun (y28:Bool) =>
 aB (!y28) (R (T.v (.int .i64 9)))
 (R (T.v (.int .i64 0))))))))))
 (aB (decide (a0.2.2.1=4))
 (aG [(false,Sy.bool)] (kA [aC true aU a0])
 fun (y29:Bool) =>
 aB y29 (R (T.v (.int .i64 2)))
 (aG [(false,Sy.bool)]
 (nA [aC true aU a0,aC true aE a1])
 fun (y30:Bool) =>
 aB (!y30) (R (T.v (.int .i64 23)))
 (aB (decide (a0.2.2.1=1))
 (aG [(false,Sy.int IntKind.i64)]
 (gB [aC true cF a0.2.2.2.2.2.2.1])
 fun (y31:Int) =>
 aB (!decide (y31=0)) (R (T.v (.int .i64 y31)))
 (aG [(false,Sy.bool)]
 (b9
 [aC true cW a0.2.2.2.2.2.2.2.2.2.2.2])
 fun (y32:Bool) =>
 aB (!y32) (R (T.v (.int .i64 9)))
 (R (T.v (.int .i64 0)))))
 (aB (decide (a0.2.2.1=2))
 (aB (decide (1≤a0.2.2.2.2.2.2.2.2.1))
 (aB (!decide (a0.2.2.2.2.2.2.2.2.1≤32768))
 (R (T.v (.int .i64 9)))
 (aG [(false,Sy.bool)]
 (b9
 [aC true cW a0.2.2.2.2.2.2.2.2.2.2.2])
 fun (y33:Bool) =>
 aB (!y33) (R (T.v (.int .i64 9)))
 (R (T.v (.int .i64 0)))))
 (R (T.v (.int .i64 9))))
 (aB (decide (a0.2.2.1=3))
 (aB (decide (1≤a0.2.2.2.2.2.2.2.2.1))
 (aB (!decide (a0.2.2.2.2.2.2.2.2.1≤32768))
 (R (T.v (.int .i64 9)))
 (aG [(false,Sy.bool)]
 (b9
 [aC true cW a0.2.2.2.2.2.2.2.2.2.2.2])
 fun (y34:Bool) =>
 aB (!y34) (R (T.v (.int .i64 9)))
 (R (T.v (.int .i64 0)))))
 (R (T.v (.int .i64 9))))
 (aB (decide (a0.2.2.1=4))
 (aB (decide (1≤a0.2.2.2.2.2.2.2.2.2.1))
 (aB (!decide (a0.2.2.2.2.2.2.2.2.2.1≤1099511627776))
 (R (T.v (.int .i64 9)))
 (aG [(false,Sy.bool)]
 (b9
 [T.agg
 [T.v
 (Value.int IntKind.i64
 a0.2.2.2.2.2.2.2.2.2.2.1.1),
 T.v
 (Value.int IntKind.i64
 a0.2.2.2.2.2.2.2.2.2.2.1.2.1),
 T.v
 (Value.int IntKind.i64
 a0.2.2.2.2.2.2.2.2.2.2.1.2.2),
 T.v (.int .i64 0)]])
 fun (y35:Bool) =>
 aB (!y35) (R (T.v (.int .i64 9)))
 (aG [(false,Sy.bool)]
 (b9
 [aC true cW
 a0.2.2.2.2.2.2.2.2.2.2.2])
 fun (y36:Bool) =>
 aB (!y36) (R (T.v (.int .i64 9)))
 (R (T.v (.int .i64 0))))))
 (R (T.v (.int .i64 9))))
 (aG [(false,Sy.bool)]
 (b9
 [aC true cW a0.2.2.2.2.2.2.2.2.2.2.2])
 fun (y37:Bool) =>
 aB (!y37) (R (T.v (.int .i64 9)))
 (R (T.v (.int .i64 0))))))))))
 (R (T.v (.int .i64 10))))))))
 (R (T.v (.int .i64 9)))))
theorem YW ( a0 a1 R):bC aY Tryz.prog G3 UK 8 68 [aC true aU a0,aC true aE a1] R=HW a0 a1 R:=by kernel_rfl
abbrev AG:Sh:=[(true,aU),(true,aE)]
def DE (x:bM×aN):Option T:=xZ x.2 (T.v (Value.int .i64 (eA x.1 x.2)))
noncomputable def iQ:List T→Option (T):=gS AG DE
theorem AAF {a0 a1}:iQ [aC true aU a0,aC true aE a1]=DE (a0,a1):=a8 (s:=AG) rfl (a0,a1) rfl
theorem AOJ (h:∀ a0 a1 r,DE (a0,a1)=some r→b8 AG (a0,a1)→HW a0 a1 (fun y=>y=r)):aK Tryz.prog 68 iQ :=
 aR (E:=G3) (Hs:=UK) ACQ aW aX (aM rfl) 8 ⟨_,_,Tryz.func68,rfl⟩ rfl fun x r h1 h2=>by
  obtain ⟨a0,a1⟩:=x
  rw[show Sh.bN AG (a0,a1)=[aC true aU a0,aC true aE a1] from rfl,YW]
  exact h a0 a1 r h1 h2
theorem QQ:aK Tryz.prog 68 iQ:=AOJ fun p m r h hb=>by
 obtain ⟨hok,rfl⟩:=pZ h
 replace hok:BK m=true:=hok
 clear h hb
 have is:∀ {n:Int},eA p m=n→T.v (.int .i64 n)=T.v (.int .i64 (eA p m)):=fun h=>by rw[h]
 unfold HW
 rw[mR]
 refine dM (fun h=>is (by unfold eA;rw[if_pos (.inl h)])) fun i1=>?_
 rw[mR]
 refine dM (fun h=>is (by unfold eA;rw[if_pos (.inr h)])) fun i2=>?_
 have n1:¬ (gX p.1=false∨gX (eY p)=false):=by
  rintro (h|h)
  ·rw[i1] at h;cases h
  ·rw[show gX (eY p)=true from i2] at h;cases h
 have r9:¬ (1≤p.2.1∧p.2.1≤1000)→T.v (.int .i64 9)=T.v (.int .i64 (eA p m)):=fun h=>is (by unfold eA;rw[if_neg n1,if_pos h])
 refine bL (fun v1=>gP (fun h=>r9 (fun h2=>h h2.2)) fun v2=>?_) fun h=>r9 (fun h2=>h h2.1)
 have n2:¬ ¬ (1≤p.2.1∧p.2.1≤1000):=fun h=>h ⟨v1,v2⟩
 have w1:eA p m=if ¬ (bG p=1∨bG p=2∨bG p=3∨bG p=4) then 10 else if iC p=true then 2 else if dA p m=false then 23 else if bG p=1∧¬ gM (dH p)=0 then gM (dH p) else if (bG p=2∨bG p=3)∧¬ (1≤kK p∧kK p≤32768) then 9 else if bG p=4∧¬ (1≤iF p∧iF p≤1099511627776∧iN (pD p)=true) then 9 else if iU (aAt p)=false then 9 else 0:=by
  unfold eA;rw[if_neg n1,if_neg n2]
 have spare:∀ {K:Bool→Prop},K (iC p)→aG [(false,Sy.bool)] (kA [aC true aU p]) K:=fun h=>aD (s:=[(false,.bool)]) (y:=iC p) (AHG ..) h
 have made:∀ {K:Bool→Prop},K (dA p m)→aG [(false,Sy.bool)] (nA [aC true aU p,aC true aE m]) K:=fun h=>aD (s:=[(false,.bool)]) (y:=dA p m) ((ANG ..).trans (p0 _ hok)) h
 have place:∀ {K:Bool→Prop},K (iU (aAt p))→aG [(false,Sy.bool)] (b9 [aC true cW (aAt p)]) K:=fun h=>aD (s:=[(false,.bool)]) (y:=iU (aAt p)) (K5 ..) h
 have near:∀ {K:Bool→Prop},K (iN (pD p))→aG [(false,Sy.bool)] (b9 [aC true cW (pD p,0)]) K:=fun {K} h=>aD (s:=[(false,.bool)]) (y:=iU (pD p,0)) (K5 ..) (by
  rw[show iU (pD p,0)=iN (pD p) by unfold iU;rw[show decide (((pD p,(0:Int)):uL).2=AIN ((pD p,(0:Int)):uL).2)=true from rfl,Bool.and_true]];exact h)
 have reg:∀ {K:Int→Prop},K (gM (dH p))→aG [(false,Sy.int IntKind.i64)] (gB [aC true cF (dH p)]) K:=fun h=>aD (s:=[(false,.int .i64)]) (K1 _) h
 repeat' first
  | (exfalso;omega)
  | refine spare ?_
  | refine made ?_
  | refine reg ?_
  | refine place ?_
  | refine near ?_
  | refine gP (fun h=>?_) (fun h=>?_)
  | refine bL (fun h=>?_) (fun h=>?_)
  | refine dM (fun h=>?_) (fun h=>?_)
  | refine rS (fun h=>?_) (fun h=>?_)
 all_goals (refine is ?_;clear spare made place near reg is r9;rw[w1];clear w1 n1 n2 i1 i2;simp_all;try (intros;exfalso;simp only[kK,iF] at *;omega))
theorem EH {m:aN} (h:BK m=true) (p:bM):iQ [aC true aU p,aC true aE m]=some (Sh.enc [(false,.int .i64)] (eA p m)):=(AAF ..).trans (p0 _ h)
def IZ (m:aN) (n:ByteArray):cS:=(cJ m n).getD dO
def A1T (m:aN) (n:ByteArray):bU:=(qA m n).getD nQ
theorem L3 {α:Type} {no:α} {o:Option α}:(found no o).1=o.getD no:=by cases o<;>rfl
def mB (p:bM) (m:aN):Int:=if bG p=1 then IntKind.i64.wrap ((IntKind.i64.wrap (IntKind.i64.wrap (p8 (dH p)*fT p)*(IZ m (dS p)).2.1)).tdiv 2000000) else if bG p=2∨bG p=3 then IntKind.i64.wrap ((IntKind.i64.wrap (IntKind.i64.wrap ((A1T m (CB p)).2.1*kK p)*(IZ m (dS p)).2.1)).tdiv 1000000) else iF p
def iJ (p:bM) (m:aN):Int×Int:=if eA p m=0 then (mB p m,0) else (0,eA p m)
noncomputable def NS:Env:=Env.of [(68,.pure iQ),(107,.pure eF),(108,.pure cA),(109,.pure pV)]
def AE1:FuncId→Hint:=fun _=>aV
theorem AKR:aH Tryz.prog NS:=aH.cons (x:=.pure iQ) QQ (aH.cons (x:=.pure eF) IQ (aH.cons (x:=.pure cA) QR (aH.cons (x:=.pure pV) ATT (aH.nil _))))
def O0 (a0:bM) (a1:aN) (R:T→Prop):Prop :=
 aG [(false,Sy.int IntKind.i64)]
 (iQ [aC true aU a0,aC true aE a1]) fun (y0:Int) =>
 aB (!decide (y0=0))
 (R (T.cR [T.v (.int .i64 0),T.v (.int .i64 y0)]))
 (aG [(true,bH),(false,Sy.bool)]
 (eF [aC true aE a1,T.v (.string a0.2.2.2.2.1)])
 fun (y1:cS×Bool) =>
 aG [(true,a7),(false,Sy.bool)]
 (cA
 [aC true aE a1,T.v (.string a0.2.2.2.2.2.2.2.1)])
 fun (y2:bU×Bool) =>
 aB (decide (a0.2.2.1=1))
 (aG [(false,Sy.int IntKind.i64)]
 (pV [aC true cF a0.2.2.2.2.2.2.1]) fun (y3:Int) =>
 bP true
 (R
 (T.cR
 [T.v
 (Value.int IntKind.i64
 (IntKind.i64.wrap
 ((IntKind.i64.wrap
 (IntKind.i64.wrap (y3*a0.2.2.2.2.2.1)*y1.1.2.1)).tdiv
 2000000))),
 T.v (.int .i64 0)])))
 (aB (decide (a0.2.2.1=2))
 (bP true
 (R
 (T.cR
 [T.v
 (Value.int IntKind.i64
 (IntKind.i64.wrap
 ((IntKind.i64.wrap
 (IntKind.i64.wrap (y2.1.2.1*a0.2.2.2.2.2.2.2.2.1) *
 y1.1.2.1)).tdiv
 1000000))),
 T.v (.int .i64 0)])))
 (aB (decide (a0.2.2.1=3))
 (bP true
 (R
 (T.cR
 [T.v
 (Value.int IntKind.i64
 (IntKind.i64.wrap
 ((IntKind.i64.wrap
 (IntKind.i64.wrap (y2.1.2.1*a0.2.2.2.2.2.2.2.2.1) *
 y1.1.2.1)).tdiv
 1000000))),
 T.v (.int .i64 0)])))
 (aB (decide (a0.2.2.1=4))
 (R
 (T.cR
 [T.v (.int .i64 a0.2.2.2.2.2.2.2.2.2.1),
 T.v (.int .i64 0)]))
 (R
 (T.cR
 [T.v (.int .i64 a0.2.2.2.2.2.2.2.2.2.1),
 T.v (.int .i64 0)]))))))
theorem ADT ( a0 a1 R):bC aY Tryz.prog NS AE1 8 69 [aC true aU a0,aC true aE a1] R=O0 a0 a1 R:=by kernel_rfl
abbrev F1:Sh:=[(true,aU),(true,aE)]
abbrev AI3:Sh:=[(false,Sy.int IntKind.i64),(false,Sy.int IntKind.i64)]
def J3 (x:bM×aN):Option T:=xZ x.2 (Sh.enc AI3 (iJ x.1 x.2))
noncomputable def pT:List T→Option (T):=gS F1 J3
theorem AHH {a0 a1}:pT [aC true aU a0,aC true aE a1]=J3 (a0,a1):=a8 (s:=F1) rfl (a0,a1) rfl
theorem AVJ (h:∀ a0 a1 r,J3 (a0,a1)=some r→b8 F1 (a0,a1)→O0 a0 a1 (fun y=>y=r)):aK Tryz.prog 69 pT :=
 aR (E:=NS) (Hs:=AE1) AKR aW aX (aM rfl) 8 ⟨_,_,Tryz.func69,rfl⟩ rfl fun x r h1 h2=>by
  obtain ⟨a0,a1⟩:=x
  rw[show Sh.bN F1 (a0,a1)=[aC true aU a0,aC true aE a1] from rfl,ADT]
  exact h a0 a1 r h1 h2
theorem ATR:aK Tryz.prog 69 pT:=AVJ fun p m r h hb=>by
 obtain ⟨hok,rfl⟩:=pZ h
 replace hok:BK m=true:=hok
 clear h hb
 have is:∀ {a b:Int},iJ p m=(a,b)→T.cR [T.v (.int .i64 a),T.v (.int .i64 b)]=Sh.enc AI3 (iJ p m):=fun h=>by rw[h];rfl
 unfold O0
 refine aD (s:=[(false,.int .i64)]) (EH hok p) ?_
 refine gP (fun h=>is (by unfold iJ;rw[if_neg h])) fun h=>?_
 refine aD (s:=[(true,bH),(false,.bool)]) (xH hok _) ?_
 refine aD (s:=[(true,a7),(false,.bool)]) (EI m _) ?_
 have w:iJ p m=(mB p m,0):=by unfold iJ;rw[if_pos h]
 have eg:(found dO (cJ m (dS p))).1=IZ m (dS p):=L3
 have es:(found nQ (qA m (CB p))).1=A1T m (CB p):=L3
 refine bL (fun k1=>?_) fun k1=>?_
 ·refine aD (s:=[(false,.int .i64)]) (AHN _) ?_
  refine ⟨rfl,is ?_⟩
  rw[w];unfold mB;rw[if_pos k1,←eg]
 refine bL (fun k2=>⟨rfl,is ?_⟩) fun k2=>?_
 ·rw[w];unfold mB;rw[if_neg k1,if_pos (.inl k2),←eg,←es]
 refine bL (fun k3=>⟨rfl,is ?_⟩) fun k3=>?_
 ·rw[w];unfold mB;rw[if_neg k1,if_pos (.inr k3),←eg,←es]
 have fin:iJ p m=(iF p,0):=by
  rw[w];unfold mB;rw[if_neg k1,if_neg];rintro (h|h)
  ·exact k2 h
  ·exact k3 h
 exact bL (fun _=>is fin) fun _=>is fin
theorem AHI {m:aN} (h:BK m=true) (p:bM):pT [aC true aU p,aC true aE m]=some (Sh.enc [(false,.int .i64),(false,.int .i64)] (iJ p m)):=(AHH ..).trans (p0 _ h)
end Go.Pv
namespace Go.Pv.Geo
def MX (a b c d:Pt):Prop:=∃ s t s' t':Int,0≤s∧0≤t∧0≤s'∧0≤t'∧s+t=s'+t'∧0<s+t∧s*a.1+t*b.1=s'*c.1+t'*d.1∧s*a.2+t*b.2=s'*c.2+t'*d.2
theorem MX.symm {a b c d:Pt} (h:MX a b c d):MX c d a b:=by
 obtain ⟨s,t,s',t',h1,h2,h3,h4,h5,h6,h7,h8⟩:=h
 exact ⟨s',t',s,t,h3,h4,h1,h2,h5.symm,by omega,h7.symm,h8.symm⟩
theorem MX.swap {a b c d:Pt} (h:MX a b c d):MX b a c d:=by
 obtain ⟨s,t,s',t',h1,h2,h3,h4,h5,h6,h7,h8⟩:=h
 exact ⟨t,s,s',t',h2,h1,h3,h4,by omega,by omega,by omega,by omega⟩
theorem MX.A52 {a b c d:Pt} (h:MX a b c d):MX a b d c:=h.symm.swap.symm
theorem rJ {a b:Int} (h:0<a*b) (ha:0<a):0<b:=by
 rcases Int.lt_trichotomy b 0 with hb|hb|hb
 ·have:=Int.mul_neg_of_pos_of_neg ha hb;omega
 ·subst hb;simp at h
 ·exact hb
theorem A11 (x:Int):0≤x*x:=by
 rcases Int.le_total 0 x with h|h
 ·exact Int.mul_nonneg h h
 ·have:=Int.mul_nonneg (show 0≤-x by omega) (show 0≤-x by omega);rwa[Int.neg_mul_neg] at this
theorem cX {s x y:Int} (hs:0≤s) (h:x≤y):s*x≤s*y:=Int.mul_le_mul_of_nonneg_left h hs
def w4 (a b u:Pt):Prop:=∃ s t:Int,0≤s∧0≤t∧0<s+t∧(s+t)*u.1=s*a.1+t*b.1∧(s+t)*u.2=s*a.2+t*b.2
theorem w4.left (a b:Pt):w4 a b a:=⟨1,0,by omega,by omega,by omega,by omega,by omega⟩
theorem w4.right (a b:Pt):w4 a b b:=⟨0,1,by omega,by omega,by omega,by omega,by omega⟩
theorem w4.swap {a b u:Pt} (h:w4 a b u):w4 b a u:=by
 obtain ⟨s,t,h1,h2,h3,h4,h5⟩:=h
 exact ⟨t,s,h2,h1,by omega,by rw[Int.add_comm t s];omega,by rw[Int.add_comm t s];omega⟩
theorem mU {s x y:Int} (hs:0<s) (h:s*x≤s*y):x≤y:=Int.le_of_mul_le_mul_left h hs
theorem w4.A6J {a b u:Pt} (h:w4 a b u):min a.1 b.1≤u.1∧u.1≤max a.1 b.1:=by
 obtain ⟨s,t,h1,h2,h3,h4,_⟩:=h
 constructor
 ·refine mU h3 ?_
  have e1:=cX h1 (Int.min_le_left a.1 b.1)
  have e2:=cX h2 (Int.min_le_right a.1 b.1)
  rw[h4,Int.add_mul];omega
 ·refine mU h3 ?_
  have e1:=cX h1 (Int.le_max_left a.1 b.1)
  have e2:=cX h2 (Int.le_max_right a.1 b.1)
  rw[h4,Int.add_mul];omega
theorem w4.A9A {a b u:Pt} (h:w4 a b u):min a.2 b.2≤u.2∧u.2≤max a.2 b.2:=by
 obtain ⟨s,t,h1,h2,h3,h4,h5⟩:=h
 exact w4.A6J (a:=(a.2,a.1)) (b:=(b.2,b.1)) (u:=(u.2,u.1)) ⟨s,t,h1,h2,h3,h5,h4⟩
theorem w4.A5Q {a b u:Pt} (h:w4 a b u):aI a b u=0:=by
 obtain ⟨s,t,h1,h2,h3,h4,h5⟩:=h
 have e:(s+t)*aI a b u=0:=by
  simp only[aI]
  grind
 rcases Int.mul_eq_zero.1 e with h|h
 ·omega
 ·exact h
theorem w4.on {a b u:Pt} (h:w4 a b u):iZ a b u=true:=by
 unfold iZ L0
 rw[decide_eq_true h.A5Q,decide_eq_true h.A6J.1,decide_eq_true h.A6J.2,decide_eq_true h.A9A.1,decide_eq_true h.A9A.2];rfl
theorem A4T {a b u:Pt} (h:iZ a b u=true):aI a b u=0∧(min a.1 b.1≤u.1∧u.1≤max a.1 b.1)∧min a.2 b.2≤u.2∧u.2≤max a.2 b.2:=by
 unfold iZ L0 at h
 simp only[Bool.and_eq_true,decide_eq_true_eq] at h
 exact ⟨h.1,h.2.1,h.2.2⟩
theorem AU {a b u:Pt} (h:iZ a b u=true):w4 a b u:=by
 obtain ⟨h0,h1,h2⟩:=A4T h
 simp only[aI] at h0
 rcases Int.lt_trichotomy a.1 b.1 with hx|hx|hx
 ·exact ⟨b.1-u.1,u.1-a.1,by omega,by omega,by omega,by grind,by grind⟩
 ·rcases Int.lt_trichotomy a.2 b.2 with hy|hy|hy
  ·exact ⟨b.2-u.2,u.2-a.2,by omega,by omega,by omega,by grind,by grind⟩
  ·exact ⟨1,0,by omega,by omega,by omega,by omega,by omega⟩
  ·exact ⟨u.2-b.2,a.2-u.2,by omega,by omega,by omega,by grind,by grind⟩
 ·exact ⟨u.1-b.1,a.1-u.1,by omega,by omega,by omega,by grind,by grind⟩
theorem uP {a b c d:Pt} (h:w4 a b c):MX a b c d:=by
 obtain ⟨s,t,h1,h2,h3,h4,h5⟩:=h
 exact ⟨s,t,s+t,0,h1,h2,by omega,by omega,by omega,h3,by omega,by omega⟩
theorem LK {m n:Int} (h:r4 m*r4 n<0):(m<0∧0<n)∨(0<m∧n<0):=by
 unfold r4 at h
 split at h<;>split at h<;>(try split at h)<;>omega
theorem KP {a b c d:Pt} (h:bS a b c d=true):MX a b c d:=by
 simp only[bS,Bool.or_eq_true,Bool.and_eq_true,decide_eq_true_eq] at h
 rcases h with (((h|h)|h)|h)|⟨h1,h2⟩
 ·exact uP (AU h)
 ·exact (uP (AU h):MX a b d c).A52
 ·exact (uP (AU h):MX c d a b).symm
 ·exact (uP (AU h):MX c d b a).A52.symm
 ·have e:=AAT a b c d
  have h1:=LK h1
  have h2:=LK h2
  have k1:aI c d b*a.1-aI c d a*b.1=aI a b c*d.1-aI a b d*c.1:=by simp only[aI];grind
  have k2:aI c d b*a.2-aI c d a*b.2=aI a b c*d.2-aI a b d*c.2:=by simp only[aI];grind
  rcases h2 with ⟨h3,h4⟩|⟨h3,h4⟩
  ·have h5:0<aI a b c∧aI a b d<0:=by rcases h1 with h|h<;>omega
   refine ⟨aI c d b,-aI c d a,-aI a b d,aI a b c,by omega,by omega,by omega,by omega,by omega,by omega,?_,?_⟩
   ·rw[Int.neg_mul,Int.neg_mul];omega
   ·rw[Int.neg_mul,Int.neg_mul];omega
  ·have h5:aI a b c<0∧0<aI a b d:=by rcases h1 with h|h<;>omega
   refine ⟨-aI c d b,aI c d a,aI a b d,-aI a b c,by omega,by omega,by omega,by omega,by omega,by omega,?_,?_⟩
   ·rw[Int.neg_mul,Int.neg_mul];omega
   ·rw[Int.neg_mul,Int.neg_mul];omega
theorem eB {s x:Int} (hs:s≠0) (h:s*x=0):x=0:=by
 rcases Int.mul_eq_zero.1 h with h|h
 ·exact absurd h hs
 ·exact h
theorem A5W {a b u:Pt} (h0:aI a b u=0) (h:(a.2≠b.2∧min a.2 b.2≤u.2∧u.2≤max a.2 b.2)∨(a.2=b.2∧a.1≠b.1∧min a.1 b.1≤u.1∧u.1≤max a.1 b.1)):iZ a b u=true:=by
 rcases h with ⟨h1,h2,h3⟩|⟨h1,h2,h3,h4⟩
 ·rcases Int.lt_or_lt_of_ne h1 with h|h
  ·exact lW h0 h (by omega) (by omega)
  ·rw[←MA]
   exact lW (by rw[gH,h0];rfl) h (by omega) (by omega)
 ·have:u.2=a.2:=by
   simp only[aI] at h0
   have h5:(b.1-a.1)*(u.2-a.2)=0:=by rw[h1] at h0 ⊢;grind
   have:=eB (by omega) h5
   omega
  exact AA6 this.symm (by omega) h3 h4
theorem ovl {a b c d:Int} (q:min a b≤max c d∧min c d≤max a b):(min a b≤c∧c≤max a b)∨(min a b≤d∧d≤max a b)∨(min c d≤a∧a≤max c d)∨(min c d≤b∧b≤max c d):=by omega
theorem A4C {a b c d:Pt} (hab:a≠b) (hcd:c≠d) (n1:iZ a b c=false) (n2:iZ a b d=false) (n3:iZ c d a=false) (n4:iZ c d b=false) (r1:aI c d a=0∧aI c d b=0) (r2:aI a b c=0∧aI a b d=0)
  (q1:min a.1 b.1≤max c.1 d.1∧min c.1 d.1≤max a.1 b.1) (q2:min a.2 b.2≤max c.2 d.2∧min c.2 d.2≤max a.2 b.2):False:=by
 have nab:a.2≠b.2∨(a.2=b.2∧a.1≠b.1):=by
  by_cases h:a.2=b.2
  ·exact .inr ⟨h,fun h'=>hab (Prod.ext h' h)⟩
  ·exact .inl h
 have ncd:c.2≠d.2∨(c.2=d.2∧c.1≠d.1):=by
  by_cases h:c.2=d.2
  ·exact .inr ⟨h,fun h'=>hcd (Prod.ext h' h)⟩
  ·exact .inl h
 have f1:∀ {a b u:Pt},aI a b u=0→iZ a b u=false→(a.2≠b.2→min a.2 b.2≤u.2→u.2≤max a.2 b.2→False)∧(a.2=b.2→a.1≠b.1→min a.1 b.1≤u.1→u.1≤max a.1 b.1→False):=by
  intro a b u hz hn
  refine ⟨fun x1 x2 x3=>?_,fun x1 x2 x3 x4=>?_⟩
  ·rw[A5W hz (.inl ⟨x1,x2,x3⟩)] at hn;cases hn
  ·rw[A5W hz (.inr ⟨x1,x2,x3,x4⟩)] at hn;cases hn
 obtain ⟨a1,a2⟩:=f1 r2.1 n1
 obtain ⟨b1,b2⟩:=f1 r2.2 n2
 obtain ⟨c1,c2⟩:=f1 r1.1 n3
 obtain ⟨d1,d2⟩:=f1 r1.2 n4
 have flat:a.2=b.2→c.2=a.2∧d.2=a.2:=fun hh=>by
  have x1:a.1≠b.1:=fun h'=>hab (Prod.ext h' hh)
  have y1:=r2.1;have y2:=r2.2
  simp only[aI] at y1 y2
  have z1:(b.1-a.1)*(c.2-a.2)=0:=by rw[hh] at y1 ⊢;grind
  have z2:(b.1-a.1)*(d.2-a.2)=0:=by rw[hh] at y2 ⊢;grind
  have:=eB (by omega) z1
  have:=eB (by omega) z2
  omega
 have flat':c.2=d.2→a.2=c.2∧b.2=c.2:=fun hh=>by
  have x1:c.1≠d.1:=fun h'=>hcd (Prod.ext h' hh)
  have y1:=r1.1;have y2:=r1.2
  simp only[aI] at y1 y2
  have z1:(d.1-c.1)*(a.2-c.2)=0:=by rw[hh] at y1 ⊢;grind
  have z2:(d.1-c.1)*(b.2-c.2)=0:=by rw[hh] at y2 ⊢;grind
  have:=eB (by omega) z1
  have:=eB (by omega) z2
  omega
 by_cases hf:a.2=b.2
 ·obtain ⟨x1,x2⟩:=flat hf
  have x3:a.1≠b.1:=fun h'=>hab (Prod.ext h' hf)
  have x5:c.2=d.2:=x1.trans x2.symm
  have x4:c.1≠d.1:=fun h'=>hcd (Prod.ext h' x5)
  rcases ovl q1 with h|h|h|h
  ·exact a2 hf x3 h.1 h.2
  ·exact b2 hf x3 h.1 h.2
  ·exact c2 x5 x4 h.1 h.2
  ·exact d2 x5 x4 h.1 h.2
 ·have hg:c.2≠d.2:=fun hh=>hf ((flat' hh).1.trans (flat' hh).2.symm)
  rcases ovl q2 with h|h|h|h
  ·exact a1 hf h.1 h.2
  ·exact b1 hf h.1 h.2
  ·exact c1 hg h.1 h.2
  ·exact d1 hg h.1 h.2
theorem LA {a b c d:Pt} (hab:a≠b) (hcd:c≠d) (h:MX a b c d):bS a b c d=true:=by
 obtain ⟨s,t,s',t',h1,h2,h3,h4,h5,h6,h7,h8⟩:=h
 have g:s*aI c d a+t*aI c d b=0:=by
  simp only[aI];grind
 have g':s'*aI a b c+t'*aI a b d=0:=by
  simp only[aI];grind
 have e:=AAT a b c d
 refine Classical.byContradiction fun hm=>?_
 have hm:bS a b c d=false:=by simpa using hm
 obtain ⟨n1,n2,n3,n4⟩:=pW hm
 have ms:=nP hm
 have on3:t=0→False:=fun ht=>by
  subst ht
  have:w4 c d a:=⟨s',t',h3,h4,by omega,by rw[←h5,Int.add_zero];omega,by rw[←h5,Int.add_zero];omega⟩
  rw[this.on] at n3;cases n3
 have on4:s=0→False:=fun hs=>by
  subst hs
  have:w4 c d b:=⟨s',t',h3,h4,by omega,by rw[←h5,Int.zero_add];omega,by rw[←h5,Int.zero_add];omega⟩
  rw[this.on] at n4;cases n4
 have on1:t'=0→False:=fun ht=>by
  subst ht
  have:w4 a b c:=⟨s,t,h1,h2,h6,by rw[h5,Int.add_zero];omega,by rw[h5,Int.add_zero];omega⟩
  rw[this.on] at n1;cases n1
 have on2:s'=0→False:=fun hs=>by
  subst hs
  have:w4 a b d:=⟨s,t,h1,h2,h6,by rw[h5,Int.zero_add];omega,by rw[h5,Int.zero_add];omega⟩
  rw[this.on] at n2;cases n2
 have sgns:∀ {s t x y:Int},0<s→0<t→s*x+t*y=0→(x=0∧y=0)∨(0<x∧y<0)∨(x<0∧0<y):=by
  intro s t x y hs ht hh
  rcases Int.lt_trichotomy x 0 with hx|hx|hx
  ·have:s*x<0:=Int.mul_neg_of_pos_of_neg hs hx
   have:0<y:=rJ (a:=t) (by omega) ht
   omega
  ·subst hx
   have:=eB (s:=t) (x:=y) (by omega) (by omega)
   omega
  ·have:0<s*x:=Int.mul_pos hs hx
   have hy:0 < -y:=rJ (a:=t) (by rw[Int.mul_neg];omega) ht
   omega
 have hs:0<s:=by rcases Int.lt_or_eq_of_le h1 with h|h;exact h;exact (on4 h.symm).elim
 have ht:0<t:=by rcases Int.lt_or_eq_of_le h2 with h|h;exact h;exact (on3 h.symm).elim
 have hs':0<s':=by rcases Int.lt_or_eq_of_le h3 with h|h;exact h;exact (on2 h.symm).elim
 have ht':0<t':=by rcases Int.lt_or_eq_of_le h4 with h|h;exact h;exact (on1 h.symm).elim
 have r1:=sgns hs ht g
 have r2:=sgns hs' ht' g'
 rcases r1 with r1|r1
 ·have r2:aI a b c=0∧aI a b d=0:=by rcases r2 with r2|r2;exact r2;clear on1 on2 on3 on4 sgns;omega
  have q2:min a.2 b.2≤max c.2 d.2∧min c.2 d.2≤max a.2 b.2:=by
   have e1:=cX h1 (Int.min_le_left a.2 b.2);have e2:=cX h2 (Int.min_le_right a.2 b.2)
   have e3:=cX h3 (Int.le_max_left c.2 d.2);have e4:=cX h4 (Int.le_max_right c.2 d.2)
   have e5:=cX h3 (Int.min_le_left c.2 d.2);have e6:=cX h4 (Int.min_le_right c.2 d.2)
   have e7:=cX h1 (Int.le_max_left a.2 b.2);have e8:=cX h2 (Int.le_max_right a.2 b.2)
   constructor
   ·refine mU h6 ?_
    rw[Int.add_mul,h5,Int.add_mul];omega
   ·refine mU (s:=s'+t') (by omega) ?_
    rw[Int.add_mul,←h5,Int.add_mul];omega
  have q1:min a.1 b.1≤max c.1 d.1∧min c.1 d.1≤max a.1 b.1:=by
   have e1:=cX h1 (Int.min_le_left a.1 b.1);have e2:=cX h2 (Int.min_le_right a.1 b.1)
   have e3:=cX h3 (Int.le_max_left c.1 d.1);have e4:=cX h4 (Int.le_max_right c.1 d.1)
   have e5:=cX h3 (Int.min_le_left c.1 d.1);have e6:=cX h4 (Int.min_le_right c.1 d.1)
   have e7:=cX h1 (Int.le_max_left a.1 b.1);have e8:=cX h2 (Int.le_max_right a.1 b.1)
   constructor
   ·refine mU h6 ?_
    rw[Int.add_mul,h5,Int.add_mul];omega
   ·refine mU (s:=s'+t') (by omega) ?_
    rw[Int.add_mul,←h5,Int.add_mul];omega
  exact A4C hab hcd n1 n2 n3 n4 r1 r2 q1 q2
 ·rcases r2 with r2|r2
  ·omega
  ·exact ms ⟨by omega,by omega⟩
theorem MX.sub {a b c d u v:Pt} (hu:w4 a b u) (hv:w4 a b v) (h:MX u v c d):MX a b c d:=by
 obtain ⟨s,t,s',t',h1,h2,h3,h4,h5,h6,h7,h8⟩:=h
 obtain ⟨p,q,k1,k2,k3,k4,k5⟩:=hu
 obtain ⟨p',q',l1,l2,l3,l4,l5⟩:=hv
 have m1:0<(p+q)*(p'+q'):=Int.mul_pos k3 l3
 refine ⟨s*(p'+q')*p+t*(p+q)*p',s*(p'+q')*q+t*(p+q)*q',(p+q)*(p'+q')*s',(p+q)*(p'+q')*t',?_,?_,?_,?_,?_,?_,?_,?_⟩
 ·exact Int.add_nonneg (Int.mul_nonneg (Int.mul_nonneg h1 (by omega)) k1) (Int.mul_nonneg (Int.mul_nonneg h2 (by omega)) l1)
 ·exact Int.add_nonneg (Int.mul_nonneg (Int.mul_nonneg h1 (by omega)) k2) (Int.mul_nonneg (Int.mul_nonneg h2 (by omega)) l2)
 ·exact Int.mul_nonneg (by omega) h3
 ·exact Int.mul_nonneg (by omega) h4
 ·rw[←Int.mul_add,←h5];grind
 ·have:0<(p+q)*(p'+q')*(s+t):=Int.mul_pos m1 h6
  have e:s*(p'+q')*p+t*(p+q)*p'+(s*(p'+q')*q+t*(p+q)*q')=(p+q)*(p'+q')*(s+t):=by grind
  omega
 ·have e1:(s*(p'+q')*p+t*(p+q)*p')*a.1+(s*(p'+q')*q+t*(p+q)*q')*b.1=s*(p'+q')*(p*a.1+q*b.1)+t*(p+q)*(p'*a.1+q'*b.1):=by grind
  have e2:s*(p'+q')*((p+q)*u.1)+t*(p+q)*((p'+q')*v.1)=(p+q)*(p'+q')*(s*u.1+t*v.1):=by grind
  have e3:(p+q)*(p'+q')*(s'*c.1+t'*d.1)=(p+q)*(p'+q')*s'*c.1+(p+q)*(p'+q')*t'*d.1:=by grind
  rw[e1,←k4,←l4,e2,h7,e3]
 ·have e1:(s*(p'+q')*p+t*(p+q)*p')*a.2+(s*(p'+q')*q+t*(p+q)*q')*b.2=s*(p'+q')*(p*a.2+q*b.2)+t*(p+q)*(p'*a.2+q'*b.2):=by grind
  have e2:s*(p'+q')*((p+q)*u.2)+t*(p+q)*((p'+q')*v.2)=(p+q)*(p'+q')*(s*u.2+t*v.2):=by grind
  have e3:(p+q)*(p'+q')*(s'*c.2+t'*d.2)=(p+q)*(p'+q')*s'*c.2+(p+q)*(p'+q')*t'*d.2:=by grind
  rw[e1,←k5,←l5,e2,h8,e3]
theorem xT {a b c d u v:Pt} (hn:¬ MX a b c d) (hu:w4 a b u) (hv:w4 a b v):bS c d u v=false:=by
 rw[Bool.eq_false_iff]
 intro h
 exact hn ((KP h).symm.sub hu hv)
def LP (a b u:Pt):Prop:=∃ s t:Int,0≤s∧0<t∧(s+t)*u.1=s*a.1+t*b.1∧(s+t)*u.2=s*a.2+t*b.2
theorem LP.seg {a b u:Pt} (h:LP a b u):w4 a b u:=by
 obtain ⟨s,t,h1,h2,h3,h4⟩:=h
 exact ⟨s,t,h1,by omega,by omega,h3,h4⟩
theorem AIE {c a b u v:Pt} (hab:a≠b) (hf:¬ (aI c a b=0∧0<lO c a b)) (hu:LP a b u) (hv:LP a b v):bS c a u v=false:=by
 rw[Bool.eq_false_iff]
 intro h
 obtain ⟨s,t,s',t',h1,h2,h3,h4,h5,h6,h7,h8⟩:=KP h
 obtain ⟨p,q,k1,k2,k4,k5⟩:=hu
 obtain ⟨p',q',l1,l2,l4,l5⟩:=hv
 have kp:0<p+q:=by omega
 have lp:0<p'+q':=by omega
 have m1:0<(p+q)*(p'+q'):=Int.mul_pos kp lp
 have e1:(p+q)*(p'+q')*s*(c.1-a.1)=(s'*(p'+q')*q+t'*(p+q)*q')*(b.1-a.1):=by
  have e:(p+q)*(p'+q')*(s*c.1+t*a.1)=(p+q)*(p'+q')*(s'*u.1+t'*v.1):=by rw[h7]
  have e':(p+q)*(p'+q')*(s+t)*a.1=(p+q)*(p'+q')*(s'+t')*a.1:=by rw[h5]
  grind
 have e2:(p+q)*(p'+q')*s*(c.2-a.2)=(s'*(p'+q')*q+t'*(p+q)*q')*(b.2-a.2):=by
  have e:(p+q)*(p'+q')*(s*c.2+t*a.2)=(p+q)*(p'+q')*(s'*u.2+t'*v.2):=by rw[h8]
  have e':(p+q)*(p'+q')*(s+t)*a.2=(p+q)*(p'+q')*(s'+t')*a.2:=by rw[h5]
  grind
 have hQ:0<s'*(p'+q')*q+t'*(p+q)*q':=by
  have x1:0≤s'*(p'+q')*q:=Int.mul_nonneg (Int.mul_nonneg h3 (by omega)) (by omega)
  have x2:0≤t'*(p+q)*q':=Int.mul_nonneg (Int.mul_nonneg h4 (by omega)) (by omega)
  rcases Int.lt_or_eq_of_le h3 with x|x
  ·have:=Int.mul_pos (Int.mul_pos x lp) k2;omega
  ·have:0<t':=by omega
   have:=Int.mul_pos (Int.mul_pos this kp) l2;omega
 generalize s'*(p'+q')*q+t'*(p+q)*q'=Q at e1 e2 hQ
 generalize hS:(p+q)*(p'+q')*s=S at e1 e2
 have hS0:0≤S:=by rw[←hS];exact Int.mul_nonneg (by omega) h1
 have hd:0<(b.1-a.1)*(b.1-a.1)+(b.2-a.2)*(b.2-a.2):=by
  have y1:0≤(b.1-a.1)*(b.1-a.1):=A11 _
  have y2:0≤(b.2-a.2)*(b.2-a.2):=A11 _
  by_cases z:b.1-a.1=0
  ·have z2:b.2-a.2≠0:=fun h'=>hab (Prod.ext (by omega) (by omega))
   have:(b.2-a.2)*(b.2-a.2)≠0:=fun h'=>by rcases Int.mul_eq_zero.1 h' with h|h<;>omega
   omega
  ·have:(b.1-a.1)*(b.1-a.1)≠0:=fun h'=>by rcases Int.mul_eq_zero.1 h' with h|h<;>omega
   omega
 have hSpos:0<S:=by
  rcases Int.lt_or_eq_of_le hS0 with x|x
  ·exact x
  ·rw[←x] at e1 e2
   have z1:=eB (s:=Q) (x:=b.1-a.1) (by omega) (by omega)
   have z2:=eB (s:=Q) (x:=b.2-a.2) (by omega) (by omega)
   exact absurd (Prod.ext (by omega) (by omega)) hab
 refine hf ⟨?_,?_⟩
 ·have:S*aI c a b=0:=by
   simp only[aI]
   have:S*((a.1-c.1)*(b.2-c.2)-(a.2-c.2)*(b.1-c.1))=(S*(c.2-a.2))*(b.1-a.1)-(S*(c.1-a.1))*(b.2-a.2):=by grind
   rw[this,e1,e2];grind
  exact eB (by omega) this
 ·have:S*lO c a b=Q*((b.1-a.1)*(b.1-a.1)+(b.2-a.2)*(b.2-a.2)):=by
   simp only[lO]
   have:S*((c.1-a.1)*(b.1-a.1)+(c.2-a.2)*(b.2-a.2))=(S*(c.1-a.1))*(b.1-a.1)+(S*(c.2-a.2))*(b.2-a.2):=by grind
   rw[this,e1,e2];grind
  have:0<S*lO c a b:=by rw[this];exact Int.mul_pos hQ hd
  exact rJ this hSpos
def rO (a b u:Pt):Prop:=∃ s t:Int,0<s∧0<t∧(s+t)*u.1=s*a.1+t*b.1∧(s+t)*u.2=s*a.2+t*b.2
theorem rO.r {a b u:Pt} (h:rO a b u):LP a b u:=by
 obtain ⟨s,t,h1,h2,h3,h4⟩:=h
 exact ⟨s,t,by omega,h2,h3,h4⟩
theorem rO.swap {a b u:Pt} (h:rO a b u):rO b a u:=by
 obtain ⟨s,t,h1,h2,h3,h4⟩:=h
 exact ⟨t,s,h2,h1,by rw[Int.add_comm t s];omega,by rw[Int.add_comm t s];omega⟩
theorem rO.seg {a b u:Pt} (h:rO a b u):w4 a b u:=h.r.seg
theorem SD (a b:Pt):LP a b b:=⟨0,1,by omega,by omega,by omega,by omega⟩
def sg (a b:Pt):Bool:=decide (b.2<a.2)||(decide (b.2=a.2)&&decide (a.1<b.1))
def KR (u v w:Pt):Bool:=if u.2≤v.2 then dr u v w else dr v u w
theorem IH {a b u v:Pt} (hm:bS a b u v=false):(hit a b u ^^ hit a b v)=(KR u v a ^^ KR u v b):=by
 unfold KR
 by_cases h:u.2≤v.2
 ·rw[if_pos h,if_pos h];exact P8 h hm
 ·rw[if_neg h,if_neg h,Bool.xor_comm];exact P8 (by omega) (by rw[RJ];exact hm)
theorem nL {u v w:Pt} (h:aI u v w=0):KR u v w=false:=by
 unfold KR dr
 split
 ·rw[h];simp
 ·rw[gH u v w,h];simp
structure CA (x y:Int):Prop where
 p:0<x↔0<y
 n:x<0↔y<0
theorem JG {k s x y:Int} (hk:0<k) (hs:0<s) (h:k*x=s*y):CA x y:=by
 constructor
 ·constructor
  ·intro hx;exact rJ (a:=s) (by rw[←h];exact Int.mul_pos hk hx) hs
  ·intro hy;exact rJ (a:=k) (by rw[h];exact Int.mul_pos hs hy) hk
 ·constructor
  ·intro hx
   have:0 < -y:=rJ (a:=s) (by rw[Int.mul_neg,←h];have:=Int.mul_neg_of_pos_of_neg hk hx;omega) hs
   omega
  ·intro hy
   have:0 < -x:=rJ (a:=k) (by rw[Int.mul_neg,h];have:=Int.mul_neg_of_pos_of_neg hs hy;omega) hk
   omega
theorem ASY {a b c u:Pt} (hu:rO a b u):(hit b c u ^^ KR u b c)=if a.2<b.2 then decide (c.2≤b.2)&&decide (aI a b c<0) else decide (b.2<c.2)&&decide (0<aI a b c):=by
 obtain ⟨s,t,h1,h2,h3,h4⟩:=hu
 have k1:CA (aI b c u) (aI a b c):=JG (k:=s+t) (s:=s) (by omega) h1 (by simp only[aI];grind)
 have k2:CA (aI u b c) (aI a b c):=JG (k:=s+t) (s:=s) (by omega) h1 (by simp only[aI];grind)
 have k3:CA (u.2-b.2) (a.2-b.2):=JG (k:=s+t) (s:=s) (by omega) h1 (by grind)
 obtain ⟨p1,n1⟩:=k1
 obtain ⟨p2,n2⟩:=k2
 obtain ⟨p3,n3⟩:=k3
 have e3:=gH u b c
 unfold hit KR dr
 rw[e3]
 generalize aI b c u=X at *
 generalize aI u b c=Y at *
 generalize aI a b c=Z at *
 rcases Int.lt_trichotomy Z 0 with hz|hz|hz<;>rcases Int.lt_trichotomy a.2 b.2 with ha|ha|ha<;>rcases Int.lt_trichotomy c.2 b.2 with hc|hc|hc<;>rcases Int.lt_or_le u.2 c.2 with hd|hd<;>grind
theorem ASZ {a b c v:Pt} (hv:rO b c v):(hit a b v ^^ KR b v a)=if c.2<b.2 then decide (a.2≤b.2)&&decide (0<aI a b c) else decide (b.2<a.2)&&decide (aI a b c<0):=by
 obtain ⟨s,t,h1,h2,h3,h4⟩:=hv
 have k1:CA (aI a b v) (aI a b c):=JG (k:=s+t) (s:=t) (by omega) h2 (by simp only[aI];grind)
 have k2:CA (aI b v a) (aI a b c):=JG (k:=s+t) (s:=t) (by omega) h2 (by simp only[aI];grind)
 have k3:CA (v.2-b.2) (c.2-b.2):=JG (k:=s+t) (s:=t) (by omega) h2 (by grind)
 obtain ⟨p1,n1⟩:=k1
 obtain ⟨p2,n2⟩:=k2
 obtain ⟨p3,n3⟩:=k3
 have e3:=gH b v a
 unfold hit KR dr
 rw[e3]
 generalize aI a b v=X at *
 generalize aI b v a=Y at *
 generalize aI a b c=Z at *
 rcases Int.lt_trichotomy Z 0 with hz|hz|hz<;>rcases Int.lt_trichotomy a.2 b.2 with ha|ha|ha<;>rcases Int.lt_trichotomy c.2 b.2 with hc|hc|hc<;>rcases Int.lt_or_le v.2 a.2 with hd|hd<;>grind
theorem A3P {a b c:Pt} (hf:¬ (aI a b c=0∧0<lO a b c)) (h:(a.2<b.2∧c.2<b.2)∨(b.2<a.2∧b.2<c.2)):aI a b c≠0:=by
 intro h0
 refine hf ⟨h0,?_⟩
 have hy:0<(a.2-b.2)*(c.2-b.2):=by
  rcases h with ⟨h1,h2⟩|⟨h1,h2⟩
  ·have:=Int.mul_pos (show 0<b.2-a.2 by omega) (show 0<b.2-c.2 by omega)
   have e:(a.2-b.2)*(c.2-b.2)=(b.2-a.2)*(b.2-c.2):=by grind
   omega
  ·exact Int.mul_pos (by omega) (by omega)
 have hx:0≤(a.1-b.1)*(c.1-b.1):=by
  have e:(a.2-b.2)*(c.2-b.2)*((a.1-b.1)*(c.1-b.1))=((a.2-b.2)*(c.1-b.1))*((a.2-b.2)*(c.1-b.1)):=by
   simp only[aI] at h0
   have h1:(a.1-b.1)*(c.2-b.2)=(a.2-b.2)*(c.1-b.1):=by grind
   have:(a.2-b.2)*(c.2-b.2)*((a.1-b.1)*(c.1-b.1))=((a.1-b.1)*(c.2-b.2))*((a.2-b.2)*(c.1-b.1)):=by grind
   rw[this,h1]
  have e2:0≤(a.2-b.2)*(c.2-b.2)*((a.1-b.1)*(c.1-b.1)):=by rw[e];exact A11 _
  rcases Int.lt_or_le ((a.1-b.1)*(c.1-b.1)) 0 with h|h
  ·have:=Int.mul_neg_of_pos_of_neg hy h;omega
  ·exact h
 unfold lO
 omega
theorem A6N {a b c u v:Pt} (hab:a≠b) (hbc:b≠c) (hf:¬ (aI a b c=0∧0<lO a b c)) (hu:rO a b u) (hv:rO b c v) :
  ((hit b c u ^^ KR u b c) ^^ (hit a b v ^^ KR b v a))=(sg a b ^^ sg b c):=by
 rw[ASY hu,ASZ hv]
 have nf:=@A3P a b c hf
 unfold sg
 rcases Int.lt_trichotomy a.2 b.2 with ha|ha|ha
 ·rcases Int.lt_trichotomy c.2 b.2 with hc|hc|hc
  ·have:=nf (.inl ⟨ha,hc⟩)
   rcases Int.lt_or_lt_of_ne this with h|h<;>grind
  ·have hx:b.1≠c.1:=fun h=>hbc (Prod.ext h hc.symm)
   have e:aI a b c = -((b.2-a.2)*(c.1-b.1)):=by simp only[aI];rw[hc];grind
   rcases Int.lt_or_lt_of_ne hx with h|h
   ·have:=Int.mul_pos (show 0<b.2-a.2 by omega) (show 0<c.1-b.1 by omega)
    grind
   ·have:=Int.mul_neg_of_pos_of_neg (show 0<b.2-a.2 by omega) (show c.1-b.1<0 by omega)
    grind
  ·grind
 ·have hx:a.1≠b.1:=fun h=>hab (Prod.ext h ha)
  rcases Int.lt_trichotomy c.2 b.2 with hc|hc|hc
  ·have e:aI a b c=(b.1-a.1)*(c.2-b.2):=by simp only[aI];rw[ha];grind
   rcases Int.lt_or_lt_of_ne hx with h|h
   ·have:=Int.mul_neg_of_pos_of_neg (show 0<b.1-a.1 by omega) (show c.2-b.2<0 by omega)
    grind
   ·have:=Int.mul_pos (show 0<a.1-b.1 by omega) (show 0<b.2-c.2 by omega)
    have e':(a.1-b.1)*(b.2-c.2)=(b.1-a.1)*(c.2-b.2):=by grind
    grind
  ·have hx2:b.1≠c.1:=fun h=>hbc (Prod.ext h hc.symm)
   have e:aI a b c=0:=by simp only[aI];rw[ha,hc];grind
   have hd:¬ 0<lO a b c:=fun h=>hf ⟨e,h⟩
   have ed:lO a b c=(a.1-b.1)*(c.1-b.1):=by simp only[lO];rw[ha,hc];grind
   rcases Int.lt_or_lt_of_ne hx with h|h<;>rcases Int.lt_or_lt_of_ne hx2 with h'|h'
   ·grind
   ·have:=Int.mul_pos (show 0<b.1-a.1 by omega) (show 0<b.1-c.1 by omega)
    have e':(b.1-a.1)*(b.1-c.1)=(a.1-b.1)*(c.1-b.1):=by grind
    omega
   ·have:=Int.mul_pos (show 0<a.1-b.1 by omega) (show 0<c.1-b.1 by omega)
    omega
   ·grind
  ·have e:aI a b c=(b.1-a.1)*(c.2-b.2):=by simp only[aI];rw[ha];grind
   rcases Int.lt_or_lt_of_ne hx with h|h
   ·have:=Int.mul_pos (show 0<b.1-a.1 by omega) (show 0<c.2-b.2 by omega)
    grind
   ·have:=Int.mul_neg_of_pos_of_neg (show 0<c.2-b.2 by omega) (show b.1-a.1<0 by omega)
    have e':(c.2-b.2)*(b.1-a.1)=(b.1-a.1)*(c.2-b.2):=by grind
    grind
 ·rcases Int.lt_trichotomy c.2 b.2 with hc|hc|hc
  ·grind
  ·have hx:b.1≠c.1:=fun h=>hbc (Prod.ext h hc.symm)
   have e:aI a b c=(a.2-b.2)*(c.1-b.1):=by simp only[aI];rw[hc];grind
   rcases Int.lt_or_lt_of_ne hx with h|h
   ·have:=Int.mul_pos (show 0<a.2-b.2 by omega) (show 0<c.1-b.1 by omega)
    grind
   ·have:=Int.mul_neg_of_pos_of_neg (show 0<a.2-b.2 by omega) (show c.1-b.1<0 by omega)
    grind
  ·have:=nf (.inr ⟨ha,hc⟩)
   rcases Int.lt_or_lt_of_ne this with h|h<;>grind
structure fS (p:List Pt):Prop where
 n3:3≤p.length
 ne:∀ i,i<p.length→pt p i≠nx p i
 nf:∀ i,i<p.length→¬ (aI (pt p i) (nx p i) (nR p i)=0∧0<lO (pt p i) (nx p i) (nR p i))
 ap:∀ i k,i<p.length→k<p.length→k≠i→k≠(i+1) % p.length→i≠(k+1) % p.length→¬ MX (pt p i) (nx p i) (pt p k) (nx p k)
theorem zL (p:List Pt) (i:Nat):nx p ((i+1) % p.length)=nR p i:=by
 unfold nx nR
 rw[Nat.mod_add_mod]
theorem next_ne {n i:Nat} (hn:3≤n) (hi:i<n):(i+1) % n≠i∧i≠((i+1) % n+1) % n:=by
 rw[Nat.mod_add_mod]
 rcases Nat.lt_or_ge (i+1) n with h|h
 ·rw[Nat.mod_eq_of_lt h]
  refine ⟨by omega,?_⟩
  rcases Nat.lt_or_ge (i+1+1) n with h'|h'
  ·rw[Nat.mod_eq_of_lt h'];omega
  ·rw[show i+1+1=n by omega,Nat.mod_self];omega
 ·have e:i+1=n:=by omega
  rw[e,Nat.mod_self,show n+1=1+n by omega,Nat.add_mod_right,Nat.mod_eq_of_lt (by omega)]
  omega
theorem A0P {n i j:Nat} (hi:i<n) (hj:j<n) (h:(i+1) % n=(j+1) % n):i=j:=by
 rcases Nat.lt_or_ge (i+1) n with h1|h1<;>rcases Nat.lt_or_ge (j+1) n with h2|h2
 ·rw[Nat.mod_eq_of_lt h1,Nat.mod_eq_of_lt h2] at h;omega
 ·rw[Nat.mod_eq_of_lt h1,show j+1=n by omega,Nat.mod_self] at h;omega
 ·rw[Nat.mod_eq_of_lt h2,show i+1=n by omega,Nat.mod_self] at h;omega
 ·omega
section
variable {p : List Pt}
theorem fS.right (S:fS p) {i j:Nat} (hi:i<p.length) (hj:j<p.length) (h1:j≠i) (h2:j≠(i+1) % p.length) {u v:Pt} (hu:LP (pt p i) (nx p i) u) (hv:LP (pt p i) (nx p i) v):bS (pt p j) (nx p j) u v=false:=by
 by_cases h:i=(j+1) % p.length
 ·have e:nx p j=pt p i:=by rw[h];rfl
  have e2:nR p j=nx p i:=by rw[←zL,←h]
  rw[e]
  refine AIE (S.ne i hi) ?_ hu hv
  have:=S.nf j hj
  rw[e,e2] at this
  exact this
 ·exact xT (S.ap i j hi hj h1 h2 h) hu.seg hv.seg
theorem AS0 (a b c:Pt):aI c b a = - aI a b c:=by simp only[aI];grind
theorem A29 (a b c:Pt):lO c b a=lO a b c:=by simp only[lO];grind
theorem fS.left (S:fS p) {i j:Nat} (hi:i<p.length) (hj:j<p.length) (h1:j≠i) (h2:i≠(j+1) % p.length) {u v:Pt} (hu:LP (nx p i) (pt p i) u) (hv:LP (nx p i) (pt p i) v):bS (pt p j) (nx p j) u v=false:=by
 by_cases h:j=(i+1) % p.length
 ·have e:pt p j=nx p i:=by rw[h];rfl
  have e2:nx p j=nR p i:=by rw[←zL,←h]
  rw[e,e2,I8]
  refine AIE (fun h'=>S.ne i hi h'.symm) ?_ hu hv
  rw[AS0,A29]
  rintro ⟨x,y⟩
  exact S.nf i hi ⟨by omega,y⟩
 ·exact xT (S.ap i j hi hj h1 h h2) hu.seg.swap hv.seg.swap
theorem fS.inner (S:fS p) {i j:Nat} (hi:i<p.length) (hj:j<p.length) (h1:j≠i) {u v:Pt} (hu:rO (pt p i) (nx p i) u) (hv:rO (pt p i) (nx p i) v):bS (pt p j) (nx p j) u v=false:=by
 by_cases h:j=(i+1) % p.length
 ·refine S.left hi hj h1 ?_ hu.swap.r hv.swap.r
  rw[h];exact (next_ne S.n3 hi).2
 ·exact S.right hi hj h1 h hu.r hv.r
end
theorem JH {a b u v:Pt} (hu:w4 a b u) (hv:w4 a b v):aI u v a=0∧aI u v b=0:=by
 obtain ⟨s,t,h1,h2,h3,h4,h5⟩:=hu
 obtain ⟨s',t',k1,k2,k3,k4,k5⟩:=hv
 have d1:(s+t)*(s'+t')*(v.1-u.1)=((s+t)*t'-(s'+t')*t)*(b.1-a.1):=by
  have e1:(s+t)*((s'+t')*v.1)=(s+t)*(s'*a.1+t'*b.1):=by rw[k4]
  have e2:(s'+t')*((s+t)*u.1)=(s'+t')*(s*a.1+t*b.1):=by rw[h4]
  grind
 have d2:(s+t)*(s'+t')*(v.2-u.2)=((s+t)*t'-(s'+t')*t)*(b.2-a.2):=by
  have e1:(s+t)*((s'+t')*v.2)=(s+t)*(s'*a.2+t'*b.2):=by rw[k5]
  have e2:(s'+t')*((s+t)*u.2)=(s'+t')*(s*a.2+t*b.2):=by rw[h5]
  grind
 have f1:(s+t)*(a.1-u.1)=(-t)*(b.1-a.1):=by grind
 have f2:(s+t)*(a.2-u.2)=(-t)*(b.2-a.2):=by grind
 have g1:(s+t)*(b.1-u.1)=s*(b.1-a.1):=by grind
 have g2:(s+t)*(b.2-u.2)=s*(b.2-a.2):=by grind
 have m:(s+t)*(s'+t')*(s+t)≠0:=by
  have:=Int.mul_pos (Int.mul_pos h3 k3) h3;omega
 generalize (s+t)*t'-(s'+t')*t=C at d1 d2
 generalize hL:s+t=L at *
 generalize hL':s'+t'=L' at *
 constructor
 ·refine eB m ?_
  have e:L*L'*L*aI u v a=(L*L'*(v.1-u.1))*(L*(a.2-u.2))-(L*L'*(v.2-u.2))*(L*(a.1-u.1)):=by simp only[aI];grind
  rw[e,d1,d2,f1,f2];grind
 ·refine eB m ?_
  have e:L*L'*L*aI u v b=(L*L'*(v.1-u.1))*(L*(b.2-u.2))-(L*L'*(v.2-u.2))*(L*(b.1-u.1)):=by simp only[aI];grind
  rw[e,d1,d2,g1,g2];grind
def H (p:List Pt) (i:Nat) (u:Pt):Bool:=fI p.length fun j=>!decide (j=i)&&hit (pt p j) (nx p j) u
section
variable {p : List Pt}
theorem l6 {a b:Bool} (h:(a ^^ b)=false):a=b:=by revert h;cases a<;>cases b<;>simp
theorem A6B (S:fS p) {i:Nat} (hi:i<p.length) {u v:Pt} (hu:rO (pt p i) (nx p i) u) (hv:rO (pt p i) (nx p i) v):H p i u=H p i v:=by
 refine l6 ?_
 unfold H
 rw[←n9,iD (g:=fun j=>KR u v (pt p j) ^^ KR u v (pt p ((j+1) % p.length))) fun j hj=>?_]
 ·exact uJ (fun j=>KR u v (pt p j)) p.length
 ·by_cases h:j=i
  ·subst h
   obtain ⟨z1,z2⟩:=JH hu.seg hv.seg
   rw[decide_eq_true rfl,nL z1,show pt p ((j+1) % p.length)=nx p j from rfl,nL z2];rfl
  ·rw[decide_eq_false h,Bool.not_false,Bool.true_and,Bool.true_and]
   exact IH (S.inner hi hj h hu hv)
theorem AJO {n i:Nat} (X:Bool):fI n (fun j=>decide (j=i)&&X)=(decide (i<n)&&X):=by
 induction n with
 | zero=>simp[fI]
 | succ n ih =>
  rw[fI,ih]
  by_cases h1:i<n
  ·rw[decide_eq_true h1,decide_eq_true (show i<n+1 by omega),decide_eq_false (show ¬ n=i by omega)];simp
  ·by_cases h2:n=i
   ·rw[decide_eq_false h1,decide_eq_true h2,decide_eq_true (show i<n+1 by omega)];simp
   ·rw[decide_eq_false h1,decide_eq_false h2,decide_eq_false (show ¬ i<n+1 by omega)];simp
theorem AWK (A B C D:Nat→Bool) (n:Nat):fI n (fun j=>A j ^^ (B j ^^ (C j ^^ D j)))=(fI n A ^^ (fI n B ^^ (fI n C ^^ fI n D))):=by
 rw[n9 A fun j=>B j ^^ (C j ^^ D j),n9 B fun j=>C j ^^ D j,n9 C D]
theorem A6A (S:fS p) {i:Nat} (hi:i<p.length) {u v:Pt} (hu:rO (pt p i) (nx p i) u) (hv:rO (nx p i) (nR p i) v):(H p i u ^^ H p ((i+1) % p.length) v)=(sg (pt p i) (nx p i) ^^ sg (nx p i) (nR p i)):=by
 obtain ⟨hk1,hk2⟩:=next_ne S.n3 hi
 have hk:(i+1) % p.length<p.length:=Nat.mod_lt _ (by omega)
 have ek:pt p ((i+1) % p.length)=nx p i:=rfl
 have ek2:nx p ((i+1) % p.length)=nR p i:=zL p i
 have hbc:nx p i≠nR p i:=by have:=S.ne _ hk;rwa[ek,ek2] at this
 have c:=A6N (S.ne i hi) hbc (S.nf i hi) hu hv
 rw[←c]
 generalize hkk:(i+1) % p.length=k at *
 have zu:=JH hu.seg (w4.right (pt p i) (nx p i))
 have zv:=JH (w4.left (nx p i) (nR p i)) hv.seg
 have e:(H p i u ^^ H p k v)=fI p.length (fun j=>(KR u (nx p i) (pt p j) ^^ KR u (nx p i) (pt p ((j+1) % p.length))) ^^ ((KR (nx p i) v (pt p j) ^^ KR (nx p i) v (pt p ((j+1) % p.length))) ^^
   ((decide (j=i)&&(hit (pt p i) (nx p i) v ^^ KR (nx p i) v (pt p i))) ^^ (decide (j=k)&&(hit (nx p i) (nR p i) u ^^ KR u (nx p i) (nR p i)))))):=by
  unfold H
  rw[←n9]
  refine iD fun j hj=>?_
  rw[show pt p ((j+1) % p.length)=nx p j from rfl]
  by_cases h1:j=i
  ·subst h1
   rw[decide_eq_true rfl,decide_eq_false (fun h=>hk1 h.symm),nL zu.1,nL zu.2,nL (w:=nx p j) zv.1]
   cases hit (pt p j) (nx p j) v<;>cases KR (nx p j) v (pt p j)<;>rfl
  ·by_cases h2:j=k
   ·subst h2
    rw[decide_eq_false h1,decide_eq_true rfl,ek,ek2,nL zu.2,nL zv.1,nL zv.2]
    cases hit (nx p i) (nR p i) u<;>cases KR u (nx p i) (nR p i)<;>rfl
   ·rw[decide_eq_false h1,decide_eq_false h2]
    have q1:=IH (S.right hi hj h1 (by rw[hkk];exact h2) hu.r (SD _ _))
    have hv':LP (nx p k) (pt p k) v:=by rw[ek,ek2];exact hv.swap.r
    have hb':LP (nx p k) (pt p k) (nx p i):=by rw[ek,ek2];exact SD _ _
    have q2:=IH (S.left hk hj h2 (fun h=>h1 (A0P hj hi (by rw[←h,hkk]))) hb' hv')
    rw[←q1,←q2]
    cases hit (pt p j) (nx p j) u<;>cases hit (pt p j) (nx p j) v<;>cases hit (pt p j) (nx p j) (nx p i)<;>rfl
 rw[e,AWK,AJO,AJO,decide_eq_true hi,decide_eq_true hk,uJ (fun j=>KR u (nx p i) (pt p j)) p.length,uJ (fun j=>KR (nx p i) v (pt p j)) p.length]
 cases hit (pt p i) (nx p i) v<;>cases KR (nx p i) v (pt p i)<;>cases hit (nx p i) (nR p i) u<;>cases KR u (nx p i) (nR p i)<;>rfl
theorem A9T (S:fS p) (hm:∀ i,i<p.length→∃ m,rO (pt p i) (nx p i) m):∃ κ:Bool,∀ i,i<p.length→∀ u,rO (pt p i) (nx p i) u→(H p i u ^^ sg (pt p i) (nx p i))=κ:=by
 have h0:0<p.length:=by have:=S.n3;omega
 obtain ⟨m0,hm0⟩:=hm 0 h0
 refine ⟨H p 0 m0 ^^ sg (pt p 0) (nx p 0),fun i=>?_⟩
 induction i with
 | zero=>intro hi u hu;rw[A6B S hi hu hm0]
 | succ i ih =>
  intro hi u hu
  have hi':i<p.length:=by omega
  obtain ⟨m,hmi⟩:=hm i hi'
  rw[←ih hi' m hmi]
  have e:(i+1) % p.length=i+1:=Nat.mod_eq_of_lt hi
  have en:nx p i=pt p (i+1):=by unfold nx;rw[e]
  have en2:nR p i=nx p (i+1):=by rw[←zL,e]
  have:=A6A S hi' hmi (v:=u) (by rw[en,en2];exact hu)
  rw[e,en,en2] at this
  rw[en]
  revert this
  cases H p i m<;>cases H p (i+1) u<;>cases sg (pt p i) (pt p (i+1))<;>cases sg (pt p (i+1)) (nx p (i+1))<;>simp
end
def r7 (l:List (Int×Bool)) (x:Int):Nat:=(l.filter fun f=>decide (x<f.1)).length
def val:List (Int×Bool)→Int
 | []=>0
 | e::l=>(if e.2 then -e.1 else e.1)+val l
theorem DQ:∀ (a b:List (Int×Bool)),val (a++b)=val a+val b
 | [],b=>by simp[val]
 | e::a,b=>by rw[List.cons_append,val,val,DQ a b];omega
theorem A19 {a b:List (Int×Bool)} (h:a.Perm b):val a=val b:=by
 induction h with
 | nil=>rfl
 | cons x _ ih=>rw[val,val,ih]
 | swap x y l=>simp only[val];omega
 | trans _ _ h1 h2=>rw[h1,h2]
theorem AYL {a b:List (Int×Bool)} (h:a.Perm b) (x:Int):r7 a x=r7 b x:=(h.filter _).length_eq
theorem AL6 (a b:List (Int×Bool)) (x:Int):r7 (a++b) x=r7 a x+r7 b x:=by unfold r7;rw[List.filter_append,List.length_append]
def nS (n:Nat):Bool:=decide (n % 2=1)
theorem zM (n:Nat):nS (n+1) = !nS n:=by
 unfold nS
 rcases Nat.mod_two_eq_zero_or_one n with h|h
 ·rw[h,decide_eq_true (show (n+1) % 2=1 by omega)];rfl
 ·rw[h,decide_eq_false (show ¬ (n+1) % 2=1 by omega)];rfl
theorem RP (m n:Nat):nS (m+n)=(nS m ^^ nS n):=by
 induction n with
 | zero=>rw[Nat.add_zero,show nS 0=false from rfl,Bool.xor_false]
 | succ n ih=>rw[←Nat.add_assoc,zM,zM,ih];cases nS m<;>cases nS n<;>rfl
theorem AP2:∀ (n:Nat) (l:List (Int×Bool)),l.length=2*n→l.Pairwise (fun a b=>b.1<a.1)→(∀ e∈l,nS (r7 l e.1)=e.2)→0≤val l∧(l≠[]→0<val l)
 | 0,l,hl,_,_=>by
  have:l=[]:=List.eq_nil_of_length_eq_zero (by omega)
  subst this;exact ⟨Int.le_refl 0,fun h=>absurd rfl h⟩
 | n+1,[],hl,_,_=>by (rw[List.length_nil] at hl;omega)
 | n+1,[e],hl,_,_=>by simp at hl;omega
 | n+1,e::f::l,hl,hp,hc=>by
  obtain ⟨p1,hp'⟩:=List.pairwise_cons.1 hp
  obtain ⟨p2,hp''⟩:=List.pairwise_cons.1 hp'
  have hfe:f.1<e.1:=p1 f (by simp)
  have none1:∀ (l:List (Int×Bool)) (x:Int),(∀ g∈l,g.1<x)→r7 l x=0:=fun l x h=>by
   unfold r7
   rw[List.length_eq_zero_iff,List.filter_eq_nil_iff]
   intro g hg
   have:=h g hg
   simp;omega
  have c1:r7 (e::f::l) e.1=0:=by
   unfold r7
   rw[List.length_eq_zero_iff,List.filter_eq_nil_iff]
   intro g hg
   rcases List.mem_cons.1 hg with rfl|hg
   ·simp
   ·have:=p1 g hg;simp;omega
  have c2:r7 (e::f::l) f.1=1:=by
   have:r7 (f::l) f.1=0:=by
    unfold r7
    rw[List.length_eq_zero_iff,List.filter_eq_nil_iff]
    intro g hg
    rcases List.mem_cons.1 hg with rfl|hg
    ·simp
    ·have:=p2 g hg;simp;omega
   unfold r7 at this ⊢
   rw[List.filter_cons,if_pos (by simpa using hfe),List.length_cons,this]
  have s1:e.2=false:=by rw[←hc e (by simp),c1];rfl
  have s2:f.2=true:=by rw[←hc f (by simp),c2];rfl
  have ih:=AP2 n l (by simp at hl;omega) hp'' fun g hg=>by
   have:=hc g (by simp[hg])
   have h1:g.1<e.1:=p1 g (by simp[hg])
   have h2:g.1<f.1:=p2 g hg
   have:r7 (e::f::l) g.1=r7 l g.1+1+1:=by
    unfold r7
    rw[List.filter_cons,if_pos (by simpa using h1),List.filter_cons,if_pos (by simpa using h2),List.length_cons,List.length_cons]
   rw[←hc g (by simp[hg]),this,zM,zM,Bool.not_not]
  rw[val,val,s1,s2]
  simp only[if_true]
  simp only[Bool.false_eq_true,if_false]
  have ih:=ih.1
  exact ⟨by omega,fun _=>by omega⟩
theorem FB {l:List (Int×Bool)} (he:nS l.length=false) (hd:l.Pairwise fun a b=>a.1≠b.1) (hc:∀ e∈l,nS (r7 l e.1)=e.2):0≤val l∧(l≠[]→0<val l):=by
 let le:Int×Bool→Int×Bool→Bool:=fun a b=>decide (b.1≤a.1)
 have hperm:=List.mergeSort_perm l le
 have hs:(l.mergeSort le).Pairwise fun a b=>le a b=true:=List.pairwise_mergeSort (fun a b c h1 h2=>by
  simp only[le,decide_eq_true_eq] at *;omega) (fun a b=>by simp only[le,Bool.or_eq_true,decide_eq_true_eq];omega) l
 have hd':(l.mergeSort le).Pairwise fun a b=>a.1≠b.1:=(hperm.symm.pairwise_iff (R:=fun (a b:Int×Bool)=>a.1≠b.1) (fun h=>h.symm)).1 hd
 have hs':(l.mergeSort le).Pairwise fun a b=>b.1<a.1:=by
  refine (hs.and hd').imp fun {a b} h=>?_
  have h1:b.1≤a.1:=by simpa [le] using h.1
  have:=h.2
  omega
 rw[←A19 hperm]
 have hlen:(l.mergeSort le).length=2*(l.length / 2):=by
  rw[hperm.length_eq]
  unfold nS at he
  have:=of_decide_eq_false he
  omega
 have hv:=AP2 _ _ hlen hs' fun e hm=>by rw[AYL hperm];exact hc e (hperm.mem_iff.1 hm)
 refine ⟨hv.1,fun hne=>hv.2 fun h=>hne ?_⟩
 have hl:=hperm.length_eq
 rw[h] at hl
 exact List.eq_nil_of_length_eq_zero hl.symm
def flip (l:List (Int×Bool)):List (Int×Bool):=l.map fun e=>(e.1,!e.2)
theorem AJM:∀ l:List (Int×Bool),val (flip l) = - val l
 | []=>rfl
 | e::l=>by
  show (if (!e.2) then -e.1 else e.1)+val (flip l) = -((if e.2 then -e.1 else e.1)+val l)
  rw[AJM l]
  cases e.2<;>simp<;>omega
theorem AYK (l:List (Int×Bool)) (x:Int):r7 (flip l) x=r7 l x:=by
 unfold r7 flip
 rw[List.filter_map,List.length_map];rfl
theorem R8 {l:List (Int×Bool)} (he:nS l.length=false) (hd:l.Pairwise fun a b=>a.1≠b.1) (hc:∀ e∈l,(nS (r7 l e.1) ^^ e.2)=true):val l≤0∧(l≠[]→val l<0):=by
 have:=FB (l:=flip l) (by unfold flip;rw[List.length_map];exact he) (by unfold flip;rw[List.pairwise_map];exact hd) fun e hm=>by
  obtain ⟨f,hf,rfl⟩:=List.mem_map.1 hm
  have h:=hc f hf
  dsimp only
  rw[AYK]
  revert h
  cases nS (r7 l f.1)<;>cases f.2<;>simp
 rw[AJM] at this
 refine ⟨by have:=this.1;omega,fun hne=>?_⟩
 have:=this.2 (by unfold flip;intro h;exact hne (List.map_eq_nil_iff.1 h))
 omega
def fac:Nat→Nat
 | 0=>1
 | n+1=>fac n*(n+1)
theorem ZQ:∀ n,0<fac n
 | 0=>by decide
 | n+1=>Nat.mul_pos (ZQ n) (by omega)
theorem AQC:∀ {n d:Nat},1≤d→d≤n→d ∣ fac n
 | 0,d,h1,h2=>by omega
 | n+1,d,h1,h2=>by
  rcases Nat.lt_or_ge d (n+1) with h|h
  ·exact Nat.dvd_trans (AQC h1 (by omega)) ⟨n+1,rfl⟩
  ·have:d=n+1:=by omega
   subst this
   exact ⟨fac n,Nat.mul_comm _ _⟩
def sc (N:Int) (a:Pt):Pt:=(N*a.1,N*a.2)
def cr (a b:Pt) (k:Int):Bool:=(decide (a.2≤k)&&decide (k<b.2))||(decide (b.2≤k)&&decide (k<a.2))
def rx (M:Int) (a b:Pt) (k:Int):Int:=2*M*a.1+(b.1-a.1)*(M / (b.2-a.2))*(2*(k-a.2)+1)
def ru (M:Int) (a b:Pt) (k:Int):Pt:=(rx M a b k,2*M*k+M)
def Mul (M:Int) (a b:Pt):Prop:=a.2≠b.2→M / (b.2-a.2)*(b.2-a.2)=M
theorem JF {M:Int} {a b:Pt} {k:Int} (hM:0<M) (hd:Mul M a b) (hc:cr a b k=true):rO (sc (2*M) a) (sc (2*M) b) (ru M a b k):=by
 unfold cr at hc
 simp only[Bool.or_eq_true,Bool.and_eq_true,decide_eq_true_eq] at hc
 have he:=hd (by omega)
 generalize M / (b.2-a.2)=e at he
 have hre:rx M a b k=2*M*a.1+(b.1-a.1)*e*(2*(k-a.2)+1):=by
  unfold rx
  have:M / (b.2-a.2)=e:=by
   rw[←he];exact Int.mul_ediv_cancel _ (by omega)
  rw[this]
 have hw:0<e*(2*(k-a.2)+1)∧e*(2*(k-a.2)+1)<2*M:=by
  rcases hc with ⟨h1,h2⟩|⟨h1,h2⟩
  ·have hep:0<e:=by
    refine rJ (a:=b.2-a.2) (by rw[Int.mul_comm,he];exact hM) (by omega)
   refine ⟨Int.mul_pos hep (by omega),?_⟩
   have:e*(2*(k-a.2)+1)<e*(2*(b.2-a.2)):=Int.mul_lt_mul_of_pos_left (by omega) hep
   have e2:e*(2*(b.2-a.2))=2*M:=by rw[←he];grind
   omega
  ·have hep:0 < -e:=by
    refine rJ (a:=a.2-b.2) ?_ (by omega)
    have:(a.2-b.2) * -e=M:=by rw[←he];grind
    omega
   have e1:e*(2*(k-a.2)+1)=(-e)*(2*(a.2-k)-1):=by grind
   rw[e1]
   refine ⟨Int.mul_pos hep (by omega),?_⟩
   have:(-e)*(2*(a.2-k)-1)<(-e)*(2*(a.2-b.2)):=Int.mul_lt_mul_of_pos_left (by omega) hep
   have e2:(-e)*(2*(a.2-b.2))=2*M:=by rw[←he];grind
   omega
 refine ⟨2*M-e*(2*(k-a.2)+1),e*(2*(k-a.2)+1),by omega,hw.1,?_,?_⟩
 ·show _*rx M a b k=_*(2*M*a.1)+_*(2*M*b.1)
  rw[hre];grind
 ·show _*(2*M*k+M)=_*(2*M*a.2)+_*(2*M*b.2)
  have:e*(2*(k-a.2)+1)*(b.2-a.2)=M*(2*(k-a.2)+1):=by
   rw[←he];grind
  grind
theorem AQK {M:Int} {a b c d:Pt} {k:Int} (hM:0<M) (hd:Mul M c d):hit (sc (2*M) c) (sc (2*M) d) (ru M a b k)=(cr c d k&&decide (rx M a b k<rx M c d k)):=by
 have h1:∀ y:Int,(2*M*y≤2*M*k+M↔y≤k):=fun y=>by
  constructor
  ·intro h
   rcases Int.lt_or_le k y with h'|h'
   ·have:=Int.mul_le_mul_of_nonneg_left (show k+1≤y by omega) (show 0≤2*M by omega)
    have e:2*M*(k+1)=2*M*k+2*M:=by grind
    omega
   ·exact h'
  ·intro h
   have:=Int.mul_le_mul_of_nonneg_left h (show 0≤2*M by omega)
   omega
 have h2:∀ y:Int,(2*M*k+M<2*M*y↔k<y):=fun y=>by
  have:=h1 y;omega
 by_cases hc:cr c d k=true
 ·have hs:=(JF hM hd hc).seg.A5Q
  have key:aI (sc (2*M) c) (sc (2*M) d) (ru M a b k)=2*M*(d.2-c.2)*(rx M c d k-rx M a b k):=by
   simp only[aI,sc,ru] at hs ⊢
   grind
  unfold hit
  rw[key]
  unfold cr at hc ⊢
  simp only[Bool.or_eq_true,Bool.and_eq_true,decide_eq_true_eq] at hc
  show (decide (2*M*c.2≤2*M*k+M)&&decide (2*M*k+M<2*M*d.2)&&_||decide (2*M*d.2≤2*M*k+M)&&decide (2*M*k+M<2*M*c.2)&&_)=_
  rw[decide_eq_decide.2 (h1 c.2),decide_eq_decide.2 (h1 d.2),decide_eq_decide.2 (h2 c.2),decide_eq_decide.2 (h2 d.2)]
  rcases hc with ⟨x1,x2⟩|⟨x1,x2⟩
  ·have sgn1:(0<2*M*(d.2-c.2)*(rx M c d k-rx M a b k))↔rx M a b k<rx M c d k:=by
    have hp:0<2*M*(d.2-c.2):=Int.mul_pos (by omega) (by omega)
    constructor
    ·intro h;have:=rJ (a:=2*M*(d.2-c.2)) h hp;omega
    ·intro h;exact Int.mul_pos hp (by omega)
   rw[decide_eq_true x1,decide_eq_true x2,decide_eq_false (show ¬ d.2≤k by omega),show decide (0<2*M*(d.2-c.2)*(rx M c d k-rx M a b k))=decide (rx M a b k<rx M c d k) from decide_eq_decide.2 sgn1]
   simp
  ·have sgn1:(2*M*(d.2-c.2)*(rx M c d k-rx M a b k)<0)↔rx M a b k<rx M c d k:=by
    have hp:0<2*M*(c.2-d.2):=Int.mul_pos (by omega) (by omega)
    have e:2*M*(d.2-c.2)*(rx M c d k-rx M a b k) = -(2*M*(c.2-d.2)*(rx M c d k-rx M a b k)):=by grind
    rw[e]
    constructor
    ·intro h;have:=rJ (a:=2*M*(c.2-d.2)) (b:=rx M c d k-rx M a b k) (by omega) hp;omega
    ·intro h;have:=Int.mul_pos hp (show 0<rx M c d k-rx M a b k by omega);omega
   rw[decide_eq_true x1,decide_eq_true x2,decide_eq_false (show ¬ c.2≤k by omega),show decide (2*M*(d.2-c.2)*(rx M c d k-rx M a b k)<0)=decide (rx M a b k<rx M c d k) from decide_eq_decide.2 sgn1]
   simp
 ·have hc:cr c d k=false:=by simpa using hc
  rw[hc,Bool.false_and]
  unfold cr at hc
  simp only[Bool.or_eq_false_iff] at hc
  unfold hit
  show (decide (2*M*c.2≤2*M*k+M)&&decide (2*M*k+M<2*M*d.2)&&_||decide (2*M*d.2≤2*M*k+M)&&decide (2*M*k+M<2*M*c.2)&&_)=_
  rw[decide_eq_decide.2 (h1 c.2),decide_eq_decide.2 (h1 d.2),decide_eq_decide.2 (h2 c.2),decide_eq_decide.2 (h2 d.2),hc.1,hc.2]
  rfl
def oG (M:Int) (p:List Pt) (k:Int):List (Int×Bool):=((List.range p.length).filter fun i=>cr (pt p i) (nx p i) k).map fun i=>(rx M (pt p i) (nx p i) k,sg (pt p i) (nx p i))
theorem S6 (f:Nat→Bool):∀ n:Nat,fI n f=nS ((List.range n).filter f).length
 | 0=>rfl
 | n+1=>by
  rw[fI,S6 f n,List.range_succ,List.filter_append,List.length_append,RP]
  congr 1
  cases h:f n
  ·rw[List.filter_cons,if_neg (by rw[h];decide)];rfl
  ·rw[List.filter_cons,if_pos h];rfl
theorem A6O (a b:Pt) (k:Int):cr a b k=(decide (a.2≤k) ^^ decide (b.2≤k)):=by
 unfold cr
 rcases Int.lt_or_le k a.2 with h1|h1<;>rcases Int.lt_or_le k b.2 with h2|h2
 ·rw[decide_eq_false (show ¬ a.2≤k by omega),decide_eq_false (show ¬ b.2≤k by omega)];rfl
 ·rw[decide_eq_false (show ¬ a.2≤k by omega),decide_eq_true h2,decide_eq_true h1];rfl
 ·rw[decide_eq_false (show ¬ b.2≤k by omega),decide_eq_true h2,decide_eq_true h1];rfl
 ·rw[decide_eq_true h1,decide_eq_true h2,decide_eq_false (show ¬ k<b.2 by omega),decide_eq_false (show ¬ k<a.2 by omega)];rfl
theorem mW (M:Int) (p:List Pt) (k:Int):nS (oG M p k).length=false:=by
 unfold oG
 rw[List.length_map,←S6,iD (g:=fun i=>decide ((pt p i).2≤k) ^^ decide ((pt p ((i+1) % p.length)).2≤k)) fun i _=>A6O (pt p i) (nx p i) k]
 exact uJ (fun i=>decide ((pt p i).2≤k)) p.length
def WJ (N:Int) (p:List Pt):List Pt:=p.map (sc N)
theorem kJ (N:Int) (p:List Pt):(WJ N p).length=p.length:=List.length_map ..
theorem j2 (N:Int) (p:List Pt) (i:Nat):pt (WJ N p) i=sc N (pt p i):=by
 unfold pt WJ
 rw[List.getD_eq_getElem?_getD,List.getD_eq_getElem?_getD,List.getElem?_map]
 cases h:p[i]? with
 | none=>simp[sc]
 | some a=>rfl
theorem lV (N:Int) (p:List Pt) (i:Nat):nx (WJ N p) i=sc N (nx p i):=by unfold nx;rw[kJ,j2]
theorem A4D (N:Int) (p:List Pt) (i:Nat):nR (WJ N p) i=sc N (nR p i):=by unfold nR;rw[kJ,j2]
theorem A8G {N:Int} (hN:0<N) {a b:Pt} (h:sc N a=sc N b):a=b:=by
 have h1:=congrArg Prod.fst h;have h2:=congrArg Prod.snd h
 have h1:N*a.1=N*b.1:=h1
 have h2:N*a.2=N*b.2:=h2
 exact Prod.ext (Int.eq_of_mul_eq_mul_left (by omega) h1) (Int.eq_of_mul_eq_mul_left (by omega) h2)
theorem AF0 (N:Int) (a b c:Pt):aI (sc N a) (sc N b) (sc N c)=N*N*aI a b c:=by simp only[aI,sc];grind
theorem A6P (N:Int) (a b c:Pt):lO (sc N a) (sc N b) (sc N c)=N*N*lO a b c:=by simp only[lO,sc];grind
theorem AL8 {N:Int} (hN:0<N) {a b c d:Pt} (h:MX (sc N a) (sc N b) (sc N c) (sc N d)):MX a b c d:=by
 obtain ⟨s,t,s',t',h1,h2,h3,h4,h5,h6,h7,h8⟩:=h
 simp only[sc] at h7 h8
 refine ⟨s,t,s',t',h1,h2,h3,h4,h5,h6,?_,?_⟩
 ·refine Int.eq_of_mul_eq_mul_left (a:=N) (by omega) ?_;grind
 ·refine Int.eq_of_mul_eq_mul_left (a:=N) (by omega) ?_;grind
theorem fS.WJ {p:List Pt} (S:fS p) {N:Int} (hN:0<N):fS (WJ N p):=by
 refine ⟨by rw[kJ];exact S.n3,fun i hi=>?_,fun i hi=>?_,fun i k hi hk h1 h2 h3=>?_⟩
 ·rw[kJ] at hi
  rw[j2,lV]
  exact fun h=>S.ne i hi (A8G hN h)
 ·rw[kJ] at hi
  rw[j2,lV,A4D,AF0,A6P]
  have hNN:0<N*N:=Int.mul_pos hN hN
  rintro ⟨h1,h2⟩
  exact S.nf i hi ⟨eB (by omega) h1,rJ h2 hNN⟩
 ·rw[kJ] at *
  rw[j2,lV,j2,lV]
  exact fun h=>S.ap i k hi hk h1 h2 h3 (AL8 hN h)
def PN (M:Int) (p:List Pt):Prop:=0<M∧∀ i,Mul M (pt p i) (nx p i)
section
variable {M : Int} {p : List Pt}
theorem ZL (hM:PN M p) {c d:Pt} {k:Int}:nS (r7 (oG M p k) (rx M c d k))=fM (WJ (2*M) p) (ru M c d k):=by
 unfold fM
 rw[kJ,iD (g:=fun i=>cr (pt p i) (nx p i) k&&decide (rx M c d k<rx M (pt p i) (nx p i) k)) fun i _=>by rw[j2,lV,AQK hM.1 (hM.2 i)],S6]
 unfold r7 oG
 rw[List.filter_map,List.length_map,List.filter_filter]
 refine congrArg (fun l=>nS (List.length l)) (List.filter_congr fun i _=>?_)
 simp[Function.comp,Bool.and_comm]
theorem A7H (hM:PN M p) {i:Nat} (hi:i<p.length) {k:Int}:fM (WJ (2*M) p) (ru M (pt p i) (nx p i) k)=H (WJ (2*M) p) i (ru M (pt p i) (nx p i) k):=by
 unfold fM H
 refine iD fun j _=>?_
 by_cases h:j=i
 ·subst h
  rw[decide_eq_true rfl,j2,lV,AQK hM.1 (hM.2 j),decide_eq_false (show ¬ rx M (pt p j) (nx p j) k<rx M (pt p j) (nx p j) k by omega)]
  simp
 ·rw[decide_eq_false h];rfl
theorem A8H {a b:Pt} {N:Int} (hN:0<N):sg (sc N a) (sc N b)=sg a b:=by
 unfold sg
 have l:∀ {x y:Int},(N*x<N*y↔x<y):=fun {x y}=>by
  constructor
  ·intro h;exact Int.lt_of_mul_lt_mul_left h (by omega)
  ·intro h;exact Int.mul_lt_mul_of_pos_left h hN
 have e:∀ {x y:Int},(N*x=N*y↔x=y):=fun {x y}=>by
  constructor
  ·intro h;exact Int.eq_of_mul_eq_mul_left (by omega) h
  ·intro h;rw[h]
 show (decide (N*b.2<N*a.2)||(decide (N*b.2=N*a.2)&&decide (N*a.1<N*b.1)))=_
 rw[decide_eq_decide.2 l,decide_eq_decide.2 e,decide_eq_decide.2 l]
theorem A36 {M:Int} (a b:Pt):rO (sc (2*M) a) (sc (2*M) b) (M*(a.1+b.1),M*(a.2+b.2)):=by
 refine ⟨1,1,by omega,by omega,?_,?_⟩
 ·show (1+1)*(M*(a.1+b.1))=1*(2*M*a.1)+1*(2*M*b.1);grind
 ·show (1+1)*(M*(a.2+b.2))=1*(2*M*a.2)+1*(2*M*b.2);grind
theorem AO1 (S:fS p) (hM:PN M p):∃ κ:Bool,∀ k i,i<p.length→cr (pt p i) (nx p i) k=true→(fM (WJ (2*M) p) (ru M (pt p i) (nx p i) k) ^^ sg (pt p i) (nx p i))=κ:=by
 have hN:0<2*M:=by have:=hM.1;omega
 obtain ⟨κ,hκ⟩:=A9T (S.WJ hN) (fun i hi=>⟨_,by rw[j2,lV];exact A36 _ _⟩)
 refine ⟨κ,fun k i hi hc=>?_⟩
 have:=hκ i (by rw[kJ];exact hi) (ru M (pt p i) (nx p i) k) (by rw[j2,lV];exact JF hM.1 (hM.2 i) hc)
 rw[j2,lV,A8H hN] at this
 rw[A7H hM hi]
 exact this
theorem WG {a b c d:Pt} {k:Int} (hM:0<M) (h1:Mul M a b) (h2:Mul M c d) (c1:cr a b k=true) (c2:cr c d k=true) (hm:bS (sc (2*M) c) (sc (2*M) d) (ru M a b k) (ru M a b k)=false):rx M a b k≠rx M c d k:=by
 intro h
 have e:ru M a b k=ru M c d k:=by unfold ru;rw[h]
 have o:=(JF hM h2 c2).seg.on
 rw[←e] at o
 rw[(pW hm).1] at o;cases o
theorem kS (S:fS p) (hM:PN M p) (k:Int):(oG M p k).Pairwise fun a b=>a.1≠b.1:=by
 have hN:0<2*M:=by have:=hM.1;omega
 unfold oG
 rw[List.pairwise_map,List.pairwise_filter]
 refine (List.nodup_range (n:=p.length)).imp_of_mem fun {i j} hi hj hij=>fun c1 c2=>?_
 have hi:=List.mem_range.1 hi
 have hj:=List.mem_range.1 hj
 refine WG hM.1 (hM.2 i) (hM.2 j) c1 c2 ?_
 have s:=JF hM.1 (hM.2 i) c1
 have:=(S.WJ hN).inner (i:=i) (j:=j) (by rw[kJ];exact hi) (by rw[kJ];exact hj) (fun h=>hij h.symm) (u:=ru M (pt p i) (nx p i) k) (v:=ru M (pt p i) (nx p i) k) (by rw[j2,lV];exact s) (by rw[j2,lV];exact s)
 rwa[j2,lV] at this
theorem xU {e:Int×Bool} {k:Int} (h:e∈oG M p k):∃ i,i<p.length∧cr (pt p i) (nx p i) k=true∧e=(rx M (pt p i) (nx p i) k,sg (pt p i) (nx p i)):=by
 unfold oG at h
 obtain ⟨i,hi,rfl⟩:=List.mem_map.1 h
 obtain ⟨h1,h2⟩:=List.mem_filter.1 hi
 exact ⟨i,List.mem_range.1 h1,h2,rfl⟩
end
theorem gI {f g:Nat→Int}:∀ {n:Nat},(∀ i,i<n→f i=g i)→cN n f=cN n g
 | 0,_=>rfl
 | n+1,h=>by rw[cN,cN,gI fun i hi=>h i (by omega),h n (by omega)]
theorem qH (f g:Nat→Int):∀ n,cN n (fun i=>f i+g i)=cN n f+cN n g
 | 0=>rfl
 | n+1=>by rw[cN,cN,cN,qH f g n];omega
theorem qI (c:Int) (f:Nat→Int):∀ n,cN n (fun i=>c*f i)=c*cN n f
 | 0=>by simp[cN]
 | n+1=>by rw[cN,cN,qI c f n,Int.mul_add]
theorem AY:∀ n,cN n (fun _=>0)=0
 | 0=>rfl
 | n+1=>by rw[cN,AY n];rfl
theorem WU (f:Nat→Nat→Int) (m:Nat):∀ n,cN n (fun i=>cN m (fun j=>f i j))=cN m (fun j=>cN n (fun i=>f i j))
 | 0=>(AY m).symm
 | n+1=>by
  rw[cN,WU f m n,←qH];rfl
theorem DO (f:Nat→Int):∀ n,cN (n+1) f=f 0+cN n (fun i=>f (i+1))
 | 0=>by simp[cN]
 | n+1=>by rw[cN,DO f n,cN];omega
theorem AJI (d:Nat→Int) (n:Nat):cN n (fun i=>d ((i+1) % n))=cN n d:=by
 cases n with
 | zero=>rfl
 | succ m =>
  rw[DO d m,cN,Nat.mod_self]
  rw[gI (g:=fun i=>d (i+1)) fun i hi=>by rw[Nat.mod_eq_of_lt (by omega)]]
  omega
theorem KH (F:Int→Int) (K:Int):∀ n:Nat,cN n (fun j=>F ((j:Int)-K+1)-F ((j:Int)-K))=F ((n:Int)-K)-F (-K)
 | 0=>by simp[cN]
 | n+1=>by
  rw[cN,KH F K n,show ((n+1:Nat):Int)-K=(n:Int)-K+1 by omega]
  omega
theorem GG {f:Nat→Int}:∀ {n:Nat},(∀ i,i<n→0≤f i)→0≤cN n f
 | 0,_=>Int.le_refl 0
 | n+1,h=>by
  have:=GG (n:=n) fun i hi=>h i (by omega)
  have:=h n (by omega)
  unfold cN;omega
def ge (M:Int) (a b:Pt) (k:Int):Int:=if cr a b k=true then (if sg a b=true then-rx M a b k else rx M a b k) else 0
theorem A2A (M:Int) (p:List Pt) (k:Int):val (oG M p k)=cN p.length fun i=>ge M (pt p i) (nx p i) k:=by
 unfold oG
 generalize p.length=n
 induction n with
 | zero=>rfl
 | succ n ih =>
  rw[List.range_succ,List.filter_append,List.map_append,DQ,ih,cN]
  congr 1
  unfold ge
  by_cases h:cr (pt p n) (nx p n) k=true
  ·rw[if_pos h,List.filter_cons,if_pos h]
   simp[val]
  ·rw[if_neg h,List.filter_cons,if_neg h]
   rfl
def kW (lo hi k:Int):Int:=if k≤lo then lo else if hi≤k then hi else k
theorem AS1 {M:Int} {a b:Pt} (hM:0<M) (hd:Mul M a b) {K:Int} {n:Nat} (ha:-K≤a.2∧a.2≤(n:Int)-K) (hb:-K≤b.2∧b.2≤(n:Int)-K) :
  cN n (fun j=>ge M a b ((j:Int)-K))=M*((a.1+b.1)*(b.2-a.2)):=by
 by_cases h:a.2=b.2
 ·rw[h,Int.sub_self,Int.mul_zero,Int.mul_zero,gI (g:=fun _=>0) fun i _=>?_,AY]
  unfold ge cr
  rw[if_neg]
  simp only[Bool.or_eq_true,Bool.and_eq_true,decide_eq_true_eq]
  omega
 ·have he:=hd h
  generalize hE:M / (b.2-a.2)=E at he
  have hx:∀ k,rx M a b k=2*M*a.1+(b.1-a.1)*E*(2*(k-a.2)+1):=fun k=>by unfold rx;rw[hE]
  let S:Int→Int:=fun y=>2*M*a.1*y+(b.1-a.1)*E*(y*y)
  have hS:∀ y,S (y+1)-S y=2*M*a.1+(b.1-a.1)*E*(2*y+1):=fun y=>by simp only[S];grind
  have fin:S (b.2-a.2)=M*((a.1+b.1)*(b.2-a.2)):=by
   simp only[S]
   have:(b.1-a.1)*E*((b.2-a.2)*(b.2-a.2))=(b.1-a.1)*(E*(b.2-a.2))*(b.2-a.2):=by grind
   rw[this,he];grind
  rcases Int.lt_or_lt_of_ne h with hlt|hlt
  ·let F:Int→Int:=fun k=>S (kW a.2 b.2 k-a.2)
   rw[gI (g:=fun j=>F ((j:Int)-K+1)-F ((j:Int)-K)) fun j _=>?_,KH F K n]
   ·have e1:F ((n:Int)-K)=S (b.2-a.2):=by
     simp only[F];unfold kW;rw[if_neg (by omega),if_pos (by omega)]
    have e2:F (-K)=0:=by
     simp only[F];unfold kW;rw[if_pos (by omega),Int.sub_self];simp[S]
    rw[e1,e2,fin];omega
   ·generalize (j:Int)-K=k
    have hsg:sg a b=false:=by unfold sg;rw[decide_eq_false (show ¬ b.2<a.2 by omega),decide_eq_false (show ¬ b.2=a.2 by omega)];rfl
    unfold ge
    by_cases hc:cr a b k=true
    ·rw[if_pos hc,hsg]
     simp only[Bool.false_eq_true,if_false]
     unfold cr at hc
     simp only[Bool.or_eq_true,Bool.and_eq_true,decide_eq_true_eq] at hc
     have hk:a.2≤k∧k<b.2:=by omega
     have c1:kW a.2 b.2 k=k:=by unfold kW;split;omega;split<;>omega
     have c2:kW a.2 b.2 (k+1)=k+1:=by unfold kW;split;omega;split<;>omega
     simp only[F]
     rw[c1,c2,hx,←hS,show k+1-a.2=k-a.2+1 by omega]
    ·rw[if_neg hc]
     unfold cr at hc
     simp only[Bool.or_eq_true,Bool.and_eq_true,decide_eq_true_eq] at hc
     have c1:kW a.2 b.2 (k+1)=kW a.2 b.2 k:=by unfold kW;repeat' split<;>omega
     simp only[F]
     rw[c1];omega
  ·let F:Int→Int:=fun k=>-S (kW b.2 a.2 k-a.2)
   rw[gI (g:=fun j=>F ((j:Int)-K+1)-F ((j:Int)-K)) fun j _=>?_,KH F K n]
   ·have e1:F ((n:Int)-K)=0:=by
     simp only[F];unfold kW;rw[if_neg (by omega),if_pos (by omega),Int.sub_self];simp[S]
    have e2:F (-K) = -S (b.2-a.2):=by
     simp only[F];unfold kW;rw[if_pos (by omega)]
    rw[e1,e2,fin];omega
   ·generalize (j:Int)-K=k
    have hsg:sg a b=true:=by unfold sg;rw[decide_eq_true hlt];rfl
    unfold ge
    by_cases hc:cr a b k=true
    ·rw[if_pos hc,hsg]
     simp only[if_true]
     unfold cr at hc
     simp only[Bool.or_eq_true,Bool.and_eq_true,decide_eq_true_eq] at hc
     have hk:b.2≤k∧k<a.2:=by omega
     have c1:kW b.2 a.2 k=k:=by unfold kW;split;omega;split<;>omega
     have c2:kW b.2 a.2 (k+1)=k+1:=by unfold kW;split;omega;split<;>omega
     simp only[F]
     rw[c1,c2,hx,←hS,show k+1-a.2=k-a.2+1 by omega]
     omega
    ·rw[if_neg hc]
     unfold cr at hc
     simp only[Bool.or_eq_true,Bool.and_eq_true,decide_eq_true_eq] at hc
     have c1:kW b.2 a.2 (k+1)=kW b.2 a.2 k:=by unfold kW;repeat' split<;>omega
     simp only[F]
     rw[c1];omega
def yQ (K:Int) (n:Nat) (p:List Pt):Prop:=∀ i,-K≤(pt p i).2∧(pt p i).2≤(n:Int)-K
theorem ASK (p:List Pt):eZ p=cN p.length fun i=>((pt p i).1+(nx p i).1)*((nx p i).2-(pt p i).2):=by
 have h:=AJI (fun i=>(pt p i).1*(pt p i).2) p.length
 have e:cN p.length (fun i=>((pt p i).1+(nx p i).1)*((nx p i).2-(pt p i).2))=cN p.length (fun i=>CZ p i+(pt p ((i+1) % p.length)).1*(pt p ((i+1) % p.length)).2)+cN p.length (fun i=>(-1)*((pt p i).1*(pt p i).2)):=by
  rw[←qH]
  refine gI fun i _=>?_
  show ((pt p i).1+(nx p i).1)*((nx p i).2-(pt p i).2)=(pt p i).1*(nx p i).2-(nx p i).1*(pt p i).2+(nx p i).1*(nx p i).2+(-1)*((pt p i).1*(pt p i).2)
  grind
 rw[e,qH,qI,h]
 unfold eZ
 omega
theorem IC {M:Int} {p:List Pt} (hM:PN M p) {K:Int} {n:Nat} (hh:yQ K n p):M*eZ p=cN n fun j=>val (oG M p ((j:Int)-K)):=by
 rw[gI (g:=fun j=>cN p.length fun i=>ge M (pt p i) (nx p i) ((j:Int)-K)) fun j _=>A2A M p _,←WU,ASK,←qI]
 exact (gI fun i _=>AS1 hM.1 (hM.2 i) (hh _) (hh _)).symm
def S4:List Bool→Bool
 | []=>false
 | a::l=>a ^^ S4 l
def mY:List Int→Int
 | []=>0
 | a::l=>a+mY l
theorem AJL (f:List Pt→List (Int×Bool)):∀ cs:List (List Pt),val (cs.flatMap f)=mY (cs.map fun p=>val (f p))
 | []=>rfl
 | p::cs=>by rw[List.flatMap_cons,DQ,AJL f cs];rfl
theorem AIO (f:List Pt→List (Int×Bool)):∀ cs:List (List Pt),nS (cs.flatMap f).length=S4 (cs.map fun p=>nS (f p).length)
 | []=>rfl
 | p::cs=>by rw[List.flatMap_cons,List.length_append,RP,AIO f cs];rfl
theorem AFY (f:List Pt→List (Int×Bool)) (x:Int):∀ cs:List (List Pt),nS (r7 (cs.flatMap f) x)=S4 (cs.map fun p=>nS (r7 (f p) x))
 | []=>rfl
 | p::cs=>by rw[List.flatMap_cons,AL6,RP,AFY f x cs];rfl
theorem wH:∀ {l:List Bool},(∀ a∈l,a=false)→S4 l=false
 | [],_=>rfl
 | a::l,h=>by rw[S4,h a (by simp),wH fun b hb=>h b (by simp[hb])];rfl
def oA (p q:List Pt):Prop:=∀ i j,i<p.length→j<q.length→¬ MX (pt p i) (nx p i) (pt q j) (nx q j)
theorem oA.symm {p q:List Pt} (h:oA p q):oA q p:=fun i j hi hj hc=>h j i hj hi hc.symm
section
variable {M : Int} {p q : List Pt}
theorem CQ (hA:oA p q) (hM:PN M q) {i:Nat} (hi:i<q.length) {k:Int} (hc:cr (pt q i) (nx q i) k=true):fM (WJ (2*M) p) (ru M (pt q i) (nx q i) k)=fM (WJ (2*M) p) (sc (2*M) (pt q i)):=by
 have hN:0<2*M:=by have:=hM.1;omega
 refine CP fun j hj=>?_
 rw[kJ] at hj
 rw[j2,lV]
 exact xT (fun h=>hA j i hj hi (AL8 hN h).symm) (JF hM.1 (hM.2 i) hc).seg (w4.left _ _)
theorem A7G {N:Int} (hN:0<N) (a b q:Pt):hit (sc N a) (sc N b) (sc N q)=hit a b q:=by
 unfold hit
 rw[AF0]
 have l:∀ {x y:Int},(N*x<N*y↔x<y):=fun {x y}=>⟨fun h=>Int.lt_of_mul_lt_mul_left h (by omega),fun h=>Int.mul_lt_mul_of_pos_left h hN⟩
 have m:∀ {x y:Int},(N*x≤N*y↔x≤y):=fun {x y}=>⟨fun h=>Int.le_of_mul_le_mul_left h hN,fun h=>Int.mul_le_mul_of_nonneg_left h (by omega)⟩
 have hNN:0<N*N:=Int.mul_pos hN hN
 have c1:(0<N*N*aI a b q)↔0<aI a b q:=⟨fun h=>rJ h hNN,fun h=>Int.mul_pos hNN h⟩
 have c2:(N*N*aI a b q<0)↔aI a b q<0:=by
  constructor
  ·intro h
   have:=rJ (a:=N*N) (b:=- aI a b q) (by rw[Int.mul_neg];omega) hNN
   omega
  ·intro h;exact Int.mul_neg_of_pos_of_neg hNN h
 show (decide (N*a.2≤N*q.2)&&decide (N*q.2<N*b.2)&&_||decide (N*b.2≤N*q.2)&&decide (N*q.2<N*a.2)&&_)=_
 rw[decide_eq_decide.2 m,decide_eq_decide.2 l,decide_eq_decide.2 m,decide_eq_decide.2 l,decide_eq_decide.2 c1,decide_eq_decide.2 c2]
theorem AAS {N:Int} (hN:0<N) (p:List Pt) (q:Pt):fM (WJ N p) (sc N q)=fM p q:=by
 unfold fM
 rw[kJ]
 exact iD fun i _=>by rw[j2,lV,A7G hN]
theorem vA (hA:oA p q) (hp:∀ i,i<p.length→pt p i≠nx p i):∀ i,i<q.length→fM p (pt q i)=fM p (pt q 0)
 | 0,_=>rfl
 | i+1,hi=>by
  rw[←vA hA hp i (by omega)]
  have e:pt q (i+1)=nx q i:=by unfold nx;rw[Nat.mod_eq_of_lt hi]
  rw[e]
  symm
  refine CP fun j hj=>?_
  exact xT (fun h=>hA j i hj (by omega) h.symm) (w4.left _ _) (w4.right _ _)
theorem ID (S:fS p) (hM:PN M p) {K:Int} {n:Nat} (hh:yQ K n p):∃ κ:Bool,(∀ k i,i<p.length→cr (pt p i) (nx p i) k=true→(fM (WJ (2*M) p) (ru M (pt p i) (nx p i) k) ^^ sg (pt p i) (nx p i))=κ)∧(κ=false→0≤eZ p)∧(κ=true→eZ p≤0):=by
 obtain ⟨κ,hκ⟩:=AO1 S hM
 have har:=IC hM hh
 have pos:=hM.1
 have key:∀ k e,e∈oG M p k→(nS (r7 (oG M p k) e.1) ^^ e.2)=κ:=fun k e he=>by
  obtain ⟨i,hi,hc,rfl⟩:=xU he
  dsimp only
  rw[ZL hM]
  exact hκ k i hi hc
 refine ⟨κ,hκ,fun h=>?_,fun h=>?_⟩
 ·have:0≤M*eZ p:=by
   rw[har]
   refine GG fun j _=>(FB (mW _ _ _) (kS S hM _) fun e he=>?_).1
   have:=key _ e he
   rw[h] at this
   exact l6 this
  rcases Int.lt_or_le (eZ p) 0 with h'|h'
  ·have:=Int.mul_neg_of_pos_of_neg pos h';omega
  ·exact h'
 ·have:0≤M * -eZ p:=by
   rw[Int.mul_neg,har]
   have e:-(cN n fun j=>val (oG M p ((j:Int)-K)))=cN n fun j=>(-1)*val (oG M p ((j:Int)-K)):=by
    rw[qI];omega
   rw[e]
   refine GG fun j _=>?_
   have:=(R8 (mW M p ((j:Int)-K)) (kS S hM _) fun e he=>by rw[key _ e he,h]).1
   omega
  rcases Int.lt_or_le 0 (eZ p) with h'|h'
  ·have:=Int.mul_neg_of_pos_of_neg pos (show -eZ p<0 by omega);omega
  ·exact h'
end
theorem AJH (c:Int):∀ l:List Int,mY (l.map fun x=>c*x)=c*mY l
 | []=>by simp[mY]
 | a::l=>by rw[List.map_cons,mY,mY,AJH c l,Int.mul_add]
theorem WS {α:Type} (f:α→Nat→Int) (n:Nat):∀ l:List α,mY (l.map fun a=>cN n (f a))=cN n fun j=>mY (l.map fun a=>f a j)
 | []=>(AY n).symm
 | a::l=>by
  rw[List.map_cons,mY,WS f n l,←qH];rfl
theorem AY0 {M:Int} {cs:List (List Pt)} {K:Int} {n:Nat} (hM0:0<M) (hS:∀ p∈cs,fS p) (hM:∀ p∈cs,PN M p) (hh:∀ p∈cs,yQ K n p) (hap:cs.Pairwise oA)
  (hpar:∀ p∈cs,∀ k i,i<p.length→cr (pt p i) (nx p i) k=true→S4 (cs.map fun q=>fM (WJ (2*M) q) (ru M (pt p i) (nx p i) k))=sg (pt p i) (nx p i)):0≤mY (cs.map eZ):=by
 have hN:0<2*M:=by omega
 have key:0≤M*mY (cs.map eZ):=by
  have e:M*mY (cs.map eZ)=cN n fun j=>val (cs.flatMap fun p=>oG M p ((j:Int)-K)):=by
   rw[←AJH,List.map_map,gI (g:=fun j=>mY (cs.map fun p=>val (oG M p ((j:Int)-K)))) fun j _=>AJL _ _,←WS (fun p j=>val (oG M p ((j:Int)-K)))]
   congr 1
   exact List.map_congr_left fun p hp=>IC (hM p hp) (hh p hp)
  rw[e]
  refine GG fun j _=>?_
  generalize (j:Int)-K=k
  refine (FB ?_ ?_ fun e he=>?_).1
  ·rw[AIO]
   refine wH fun a ha=>?_
   obtain ⟨p,_,rfl⟩:=List.mem_map.1 ha
   exact mW _ _ _
  ·rw[List.pairwise_flatMap]
   refine ⟨fun p hp=>kS (hS p hp) (hM p hp) k,hap.imp_of_mem fun {p q} hp hq h x hx y hy=>?_⟩
   obtain ⟨i,hi,c1,rfl⟩:=xU hx
   obtain ⟨j,hj,c2,rfl⟩:=xU hy
   have hs:=(JF hM0 ((hM p hp).2 i) c1).seg
   exact WG hM0 ((hM p hp).2 i) ((hM q hq).2 j) c1 c2 (xT (fun hc=>h i j hi hj (AL8 hN hc)) hs hs)
  ·obtain ⟨p,hp,hep⟩:=List.mem_flatMap.1 he
   obtain ⟨i,hi,hc,rfl⟩:=xU hep
   rw[AFY]
   dsimp only
   rw[←hpar p hp k i hi hc]
   congr 1
   exact List.map_congr_left fun q hq=>ZL (hM q hq)
 rcases Int.lt_or_le (mY (cs.map eZ)) 0 with h'|h'
 ·have:=Int.mul_neg_of_pos_of_neg hM0 h';omega
 ·exact h'
theorem A9M {a b q:Pt} (h:hit a b q=true):q.1<max a.1 b.1:=by
 unfold hit at h
 simp only[Bool.or_eq_true,Bool.and_eq_true,decide_eq_true_eq] at h
 refine Classical.byContradiction fun hc=>?_
 have h1:0≤q.1-a.1:=by omega
 have h2:0≤q.1-b.1:=by omega
 rcases h with ⟨⟨x1,x2⟩,x3⟩|⟨⟨x1,x2⟩,x3⟩
 ·have y1:=Int.mul_nonneg h1 (show 0≤b.2-q.2 by omega)
  have y2:=Int.mul_nonneg h2 (show 0≤q.2-a.2 by omega)
  have e:aI a b q = -((q.1-a.1)*(b.2-q.2)+(q.1-b.1)*(q.2-a.2)):=by simp only[aI];grind
  omega
 ·have y1:=Int.mul_nonneg h1 (show 0≤q.2-b.2 by omega)
  have y2:=Int.mul_nonneg h2 (show 0≤a.2-q.2 by omega)
  have e:aI a b q=(q.1-a.1)*(q.2-b.2)+(q.1-b.1)*(a.2-q.2):=by simp only[aI];grind
  omega
theorem AJN {f:Nat→Bool}:∀ {n:Nat},fI n f=true→∃ i,i<n∧f i=true
 | 0,h=>by cases h
 | n+1,h=>by
  rw[fI] at h
  cases hf:f n with
  | true=>exact ⟨n,by omega,hf⟩
  | false =>
   rw[hf,Bool.xor_false] at h
   obtain ⟨i,hi,hx⟩:=AJN h
   exact ⟨i,by omega,hx⟩
theorem AZX {p:List Pt} {q:Pt} (hp:0<p.length) (h:fM p q=true):∃ i,i<p.length∧q.1<(pt p i).1:=by
 obtain ⟨i,hi,hx⟩:=AJN h
 have:=A9M hx
 by_cases hc:q.1<(pt p i).1
 ·exact ⟨i,hi,hc⟩
 ·exact ⟨(i+1) % p.length,Nat.mod_lt _ hp,by show q.1<(nx p i).1;omega⟩
theorem RI {p:List Pt}:∀ n:Nat,0<n→∃ m,m<n∧∀ i,i<n→(pt p i).1≤(pt p m).1
 | 0,h=>by omega
 | 1,_=>⟨0,by omega,fun i hi=>by rw[show i=0 by omega];exact Int.le_refl _⟩
 | n+2,_=>by
  obtain ⟨m,hm,h⟩:=RI (p:=p) (n+1) (by omega)
  rcases Int.lt_or_le (pt p m).1 (pt p (n+1)).1 with hc|hc
  ·exact ⟨n+1,by omega,fun i hi=>by
    rcases Nat.lt_or_ge i (n+1) with h'|h'
    ·have:=h i h';omega
    ·rw[show i=n+1 by omega];exact Int.le_refl _⟩
  ·exact ⟨m,by omega,fun i hi=>by
    rcases Nat.lt_or_ge i (n+1) with h'|h'
    ·exact h i h'
    ·rw[show i=n+1 by omega];exact hc⟩
theorem AVZ {o h:List Pt} (ho:0<o.length) (hh:0<h.length) (hin:∀ i,i<h.length→fM o (pt h i)=true) (hA:oA h o) (hne:∀ i,i<h.length→pt h i≠nx h i):∀ i,i<o.length→fM h (pt o i)=false:=by
 obtain ⟨m,hm,hmax⟩:=RI (p:=o) o.length ho
 have hlt:∀ i,i<h.length→(pt h i).1<(pt o m).1:=fun i hi=>by
  obtain ⟨j,hj,hx⟩:=AZX ho (hin i hi)
  have:=hmax j hj
  omega
 have h0:fM h (pt o m)=false:=by
  rw[Bool.eq_false_iff]
  intro hc
  obtain ⟨i,hi,hx⟩:=AZX hh hc
  have:=hlt i hi
  omega
 intro i hi
 rw[vA hA hne i hi,←vA hA hne m hm]
 exact h0
theorem ARI {α:Type} {f:α→Bool}:∀ {l:List α} {i:Nat} (hi:i<l.length),(∀ j (hj:j<l.length),j≠i→f l[j]=false)→S4 (l.map f)=f l[i]
 | [],i,hi,_=>by simp at hi
 | a::l,0,hi,h=>by
  rw[List.map_cons,S4,wH,Bool.xor_false];rfl
  intro b hb
  obtain ⟨c,hc,rfl⟩:=List.mem_map.1 hb
  obtain ⟨j,hj,rfl⟩:=List.mem_iff_getElem.1 hc
  exact h (j+1) (by simpa using hj) (by omega)
 | a::l,i+1,hi,h=>by
  have h0:f a=false:=h 0 (by simp) (by omega)
  rw[List.map_cons,S4,h0,Bool.false_xor]
  exact ARI (by simpa using hi) fun j hj hne=>h (j+1) (by simpa using hj) (by omega)
theorem AO2 {o:List Pt} {hs:List (List Pt)} {M K:Int} {n:Nat} (hM0:0<M) (hS:∀ p∈o::hs,fS p) (hM:∀ p∈o::hs,PN M p) (hh:∀ p∈o::hs,yQ K n p)
  (hao:0<eZ o) (hah:∀ h∈hs,eZ h<0) (hA:∀ h∈hs,oA h o) (hin:∀ h∈hs,∀ i,i<h.length→fM o (pt h i)=true)
  (hAA:∀ i j (hi:i<hs.length) (hj:j<hs.length),i≠j→oA hs[i] hs[j]∧fM hs[i] (pt hs[j] 0)=false):0≤mY ((o::hs).map eZ):=by
 have hN:0<2*M:=by omega
 have So:=hS o (by simp)
 have Mo:=hM o (by simp)
 refine AY0 hM0 hS hM hh ?_ ?_
 ·refine List.pairwise_cons.2 ⟨fun h hm=>(hA h hm).symm,List.pairwise_iff_getElem.2 fun i j hi hj hij=>(hAA i j hi hj (by omega)).1⟩
 ·intro p hp k i hi hc
  rcases List.mem_cons.1 hp with rfl|hp'
  ·
   obtain ⟨κ,h1,h2,h3⟩:=ID So Mo (hh _ (by simp))
   have hκ:κ=false:=by
    cases κ with
    | false=>rfl
    | true=>have:=h3 rfl;omega
   have:=h1 k i hi hc
   rw[hκ] at this
   rw[List.map_cons,S4,wH (l:=List.map _ hs),Bool.xor_false]
   ·exact l6 this
   ·intro b hb
    obtain ⟨h,hm,rfl⟩:=List.mem_map.1 hb
    have Sh:=hS h (by simp[hm])
    have n3:=Sh.n3;have n3':=So.n3
    rw[CQ (hA h hm) Mo hi hc,AAS hN]
    exact AVZ (by omega) (by omega) (hin h hm) (hA h hm) Sh.ne i hi
  ·obtain ⟨m,hm,rfl⟩:=List.mem_iff_getElem.1 hp'
   have Sp:=hS _ hp
   have Mp:=hM _ hp
   obtain ⟨κ,h1,h2,h3⟩:=ID Sp Mp (hh _ hp)
   have hneg:=hah _ hp'
   have hκ:κ=true:=by
    cases κ with
    | true=>rfl
    | false=>have:=h2 rfl;omega
   have hown:=h1 k i hi hc
   rw[hκ] at hown
   rw[List.map_cons,S4,CQ (hA _ hp').symm Mp hi hc,AAS hN,hin _ hp' i hi,ARI (f:=fun q=>fM (WJ (2*M) q) (ru M (pt hs[m] i) (nx hs[m] i) k)) hm fun j hj hne=>?_]
   ·revert hown
    cases fM (WJ (2*M) hs[m]) (ru M (pt hs[m] i) (nx hs[m] i) k)<;>cases sg (pt hs[m] i) (nx hs[m] i)<;>simp
   ·obtain ⟨a1,a2⟩:=hAA j m hj hm hne
    have Sj:=hS hs[j] (by simp)
    rw[CQ a1 Mp hi hc,AAS hN,vA a1 Sj.ne i hi,a2]
theorem yO {f:Nat→Int}:∀ {n:Nat},(∀ i,i<n→0≤f i)→∀ j,j<n→0<f j→0<cN n f
 | 0,_,j,hj,_=>by omega
 | n+1,h,j,hj,hp=>by
  have h0:=h n (by omega)
  unfold cN
  by_cases e:j=n
  ·subst e
   have:=GG (n:=j) fun i hi=>h i (by omega)
   omega
  ·have:=yO (n:=n) (fun i hi=>h i (by omega)) j (by omega) hp
   omega
theorem BAF {p:List Pt} (S:fS p):∃ i,i<p.length∧(pt p i).2≠(nx p i).2:=by
 refine Classical.byContradiction fun hc=>?_
 have hc:∀ i,i<p.length→(pt p i).2=(nx p i).2:=fun i hi=>Classical.byContradiction fun h=>hc ⟨i,hi,h⟩
 have n3:=S.n3
 have hne:∀ i,i<p.length→(pt p i).1≠(nx p i).1:=fun i hi h=>S.ne i hi (Prod.ext h (hc i hi))
 have st:∀ i,i<p.length→((pt p i).1<(nx p i).1↔(nx p i).1<(nR p i).1):=fun i hi=>by
  have hk:(i+1) % p.length<p.length:=Nat.mod_lt _ (by omega)
  have e1:=hc i hi
  have e2:=hc _ hk
  have x1:=hne i hi
  have x2:=hne _ hk
  rw[zL,show pt p ((i+1) % p.length)=nx p i from rfl] at e2 x2
  have hf:=S.nf i hi
  have z:aI (pt p i) (nx p i) (nR p i)=0:=by simp only[aI];rw[e1,←e2];grind
  have hd:¬ 0<lO (pt p i) (nx p i) (nR p i):=fun h=>hf ⟨z,h⟩
  have ed:lO (pt p i) (nx p i) (nR p i)=((pt p i).1-(nx p i).1)*((nR p i).1-(nx p i).1):=by simp only[lO];rw[e1,←e2];grind
  constructor
  ·intro h
   refine Classical.byContradiction fun h'=>hd ?_
   have:=Int.mul_pos (show 0<(nx p i).1-(pt p i).1 by omega) (show 0<(nx p i).1-(nR p i).1 by omega)
   have e:((nx p i).1-(pt p i).1)*((nx p i).1-(nR p i).1)=((pt p i).1-(nx p i).1)*((nR p i).1-(nx p i).1):=by grind
   omega
  ·intro h
   refine Classical.byContradiction fun h'=>hd ?_
   have:=Int.mul_pos (show 0<(pt p i).1-(nx p i).1 by omega) (show 0<(nR p i).1-(nx p i).1 by omega)
   omega
 have all:∀ i,i<p.length→((pt p 0).1<(nx p 0).1↔(pt p i).1<(nx p i).1):=fun i=>by
  induction i with
  | zero=>intro _;exact Iff.rfl
  | succ i ih =>
   intro hi
   have e:(i+1) % p.length=i+1:=Nat.mod_eq_of_lt hi
   have en:nx p i=pt p (i+1):=by unfold nx;rw[e]
   have en2:nR p i=nx p (i+1):=by rw[←zL,e]
   rw[ih (by omega),st i (by omega),en,en2]
 have sum0:cN p.length (fun i=>(nx p i).1)=cN p.length (fun i=>(pt p i).1):=AJI (fun i=>(pt p i).1) p.length
 by_cases h:(pt p 0).1<(nx p 0).1
 ·have:0<cN p.length (fun i=>(nx p i).1+(-1)*(pt p i).1):=yO (fun i hi=>by have:=(all i hi).1 h;omega) 0 (by omega) (by have:=(all 0 (by omega)).1 h;omega)
  rw[qH,qI,sum0] at this
  omega
 ·have:0<cN p.length (fun i=>(pt p i).1+(-1)*(nx p i).1):=yO (fun i hi=>by
   have h1:=(all i hi);have:=hne i hi
   have:¬ (pt p i).1<(nx p i).1:=fun h'=>h (h1.2 h')
   omega) 0 (by omega) (by have:=hne 0 (by omega);omega)
  rw[qH,qI,sum0] at this
  omega
theorem A22 {M:Int} {p:List Pt} (S:fS p) (hM:PN M p) {K:Int} {n:Nat} (hh:yQ K n p):eZ p≠0:=by
 obtain ⟨κ,hκ,_,_⟩:=ID S hM hh
 have har:=IC hM hh
 have key:∀ k e,e∈oG M p k→(nS (r7 (oG M p k) e.1) ^^ e.2)=κ:=fun k e he=>by
  obtain ⟨i,hi,hc,rfl⟩:=xU he
  dsimp only
  rw[ZL hM]
  exact hκ k i hi hc
 obtain ⟨i,hi,hne⟩:=BAF S
 obtain ⟨k,hk⟩:∃ k,k=min (pt p i).2 (nx p i).2:=⟨_,rfl⟩
 have hc:cr (pt p i) (nx p i) k=true:=by
  unfold cr
  simp only[Bool.or_eq_true,Bool.and_eq_true,decide_eq_true_eq]
  omega
 have hmem:(rx M (pt p i) (nx p i) k,sg (pt p i) (nx p i))∈oG M p k:=by
  unfold oG
  exact List.mem_map.2 ⟨i,List.mem_filter.2 ⟨List.mem_range.2 hi,hc⟩,rfl⟩
 have hnil:oG M p k≠[]:=fun h=>by rw[h] at hmem;cases hmem
 have b1:=hh i
 have b2:=hh ((i+1) % p.length)
 have b2:-K≤(nx p i).2∧(nx p i).2≤(n:Int)-K:=b2
 obtain ⟨j,hj⟩:∃ j:Nat,(j:Int)=k+K:=⟨(k+K).toNat,by omega⟩
 have hjn:j<n:=by omega
 have hjk:(j:Int)-K=k:=by omega
 intro h0
 rw[h0,Int.mul_zero] at har
 cases κ with
 | false =>
  have:=yO (f:=fun j=>val (oG M p ((j:Int)-K))) (n:=n) (fun j _=>(FB (mW _ _ _) (kS S hM _) fun e he=>l6 (key _ e he)).1) j hjn (by
   rw[hjk]
   exact (FB (mW _ _ _) (kS S hM _) fun e he=>l6 (key _ e he)).2 hnil)
  omega
 | true =>
  have:=yO (f:=fun j=>(-1)*val (oG M p ((j:Int)-K))) (n:=n) (fun j _=>by
   have:=(R8 (mW M p ((j:Int)-K)) (kS S hM _) fun e he=>key _ e he).1
   omega) j hjn (by
   rw[hjk]
   have:=(R8 (mW M p k) (kS S hM _) fun e he=>key _ e he).2 hnil
   omega)
  rw[qI] at this
  omega
theorem VZ:∃ (M K:Int) (n:Nat),0<M∧∀ p:List Pt,(∀ i,bX (pt p i))→PN M p∧yQ K n p:=by
 obtain ⟨B,hB⟩:∃ B:Nat,B=65536:=⟨_,rfl⟩
 refine ⟨(fac B:Int),32768,65536,by have:=ZQ B;omega,fun p hp=>⟨⟨by have:=ZQ B;omega,fun i hne=>?_⟩,fun i=>?_⟩⟩
 ·have h1:=hp i
  have h2:bX (nx p i):=hp _
  unfold bX at h1 h2
  refine Int.ediv_mul_cancel ?_
  have hd:((nx p i).2-(pt p i).2).natAbs ∣ fac B:=AQC (by omega) (by omega)
  exact Int.natAbs_dvd.1 (Int.natCast_dvd_natCast.2 hd)
 ·have h1:=hp i
  unfold bX at h1
  omega
theorem AJB {p:List Pt} (S:fS p) (hp:∀ i,bX (pt p i)):eZ p≠0:=by
 obtain ⟨M,K,n,h0,h⟩:=VZ
 exact A22 S (h p hp).1 (h p hp).2
theorem A1V {o:List Pt} {hs:List (List Pt)} (hS:∀ p∈o::hs,fS p) (hN:∀ p∈o::hs,∀ i,bX (pt p i))
  (hao:0<eZ o) (hah:∀ h∈hs,eZ h<0) (hA:∀ h∈hs,oA h o) (hin:∀ h∈hs,∀ i,i<h.length→fM o (pt h i)=true)
  (hAA:∀ i j (hi:i<hs.length) (hj:j<hs.length),i≠j→oA hs[i] hs[j]∧fM hs[i] (pt hs[j] 0)=false):0≤mY ((o::hs).map eZ):=by
 obtain ⟨M,K,n,h0,h⟩:=VZ
 exact AO2 h0 hS (fun p hp=>(h p (hN p hp)).1) (fun p hp=>(h p (hN p hp)).2) hao hah hA hin hAA
end Go.Pv.Geo
namespace Go.Pv
open Go Go.Proofs Go.Pv.Geo
theorem nV {p:List Pt} (h:oJ p=true) {i:Nat} (hi:i<p.length):pt p i≠nx p i∧¬ (aI (pt p i) (nx p i) (nR p i)=0∧0<lO (pt p i) (nx p i) (nR p i))∧∀ k,k<p.length→i+2≤k→qN p i k=true:=by
 have h:=cG.1 h i hi
 unfold EY at h
 simp only[Bool.and_eq_true,Bool.not_eq_true',decide_eq_false_iff_not] at h
 obtain ⟨h1,h2,h3⟩:=h
 refine ⟨h1,fun ⟨a,b⟩=>?_,fun k hk hik=>?_⟩
 ·rw[decide_eq_true a,decide_eq_true b] at h2;cases h2
 ·have:=cG.1 h3 k hk
  rw[decide_eq_false (by omega),Bool.false_or] at this
  exact this
theorem AIX {p:List Pt} {i k:Nat} (h:qN p i k=true) (hne:(k+1) % p.length≠i):bS (pt p i) (nx p i) (pt p k) (nx p k)=false:=by
 unfold qN at h
 rw[decide_eq_false hne] at h
 simpa using h
theorem WM {p:List Pt} (h:oJ p=true) (h3:3≤p.length):fS p:=by
 refine ⟨h3,fun i hi=>(nV h hi).1,fun i hi=>(nV h hi).2.1,fun i k hi hk h1 h2 h4 hc=>?_⟩
 have hm:=LA (nV h hi).1 (nV h hk).1 hc
 rcases Nat.lt_or_ge i k with hl|hl
 ·have:i+2≤k:=by
   rcases Nat.lt_or_ge (i+1) k with h5|h5
   ·omega
   ·have e:k=i+1:=by omega
    rw[Nat.mod_eq_of_lt (by omega)] at h2
    exact absurd e h2
  rw[AIX ((nV h hi).2.2 k hk this) (fun e=>h4 e.symm)] at hm
  cases hm
 ·have:k+2≤i:=by
   rcases Nat.lt_or_ge (k+1) i with h5|h5
   ·omega
   ·rcases Nat.lt_or_ge k i with h6|h6
    ·have e:i=k+1:=by omega
     rw[Nat.mod_eq_of_lt (by omega)] at h4
     exact absurd e h4
    ·omega
  rw[mT,AIX ((nV h hk).2.2 i hi this) (fun e=>h2 e.symm)] at hm
  cases hm
theorem AWA {p:List Pt} (h:oJ p=true) (h3:3≤p.length) (hn:gR p):eZ p≠0:=AJB (WM h h3) hn.pt
theorem uQ {p q:List Pt} (h:eL p q=false) {i k:Nat} (hi:i<p.length) (hk:k<q.length):bS (pt p i) (nx p i) (pt q k) (nx q k)=false:=by
 rw[Bool.eq_false_iff]
 intro hm
 rw[show eL p q=true from eK.2 ⟨i,hi,eK.2 ⟨k,hk,hm⟩⟩] at h
 cases h
theorem PS {p q:List Pt} (hp:oJ p=true) (hq:oJ q=true) (h:eL p q=false):oA p q:=fun i j hi hj hc=>by
 have hm:=LA (nV hp hi).1 (nV hq hj).1 hc
 rw[uQ h hi hj] at hm
 cases hm
theorem zO {h o:List Pt} (he:eL h o=false) {i:Nat} (hi:i<h.length):EZ o (pt h i)=false:=CC fun k hk=>by
 have:=uQ he hi hk
 exact (pW this).2.2.1
theorem GI {o:List Pt} {q:Pt} (hq:bX q) (ho:dG o=0) (hn:EZ o q=false):cO o q=if fM o q=true then 1 else -1:=by
 unfold cO
 rw[if_neg,hn,if_neg (by simp)]
 rintro (h|h)
 ·exact h hq
 ·exact h ho
theorem Q6 {h o:List Pt} (he:eL h o=false):∀ i,i<h.length→fM o (pt h i)=fM o (pt h 0)
 | 0,_=>rfl
 | i+1,hi=>by
  rw[←Q6 he i (by omega)]
  have e:pt h (i+1)=nx h i:=by unfold nx;rw[Nat.mod_eq_of_lt hi]
  rw[e]
  symm
  refine CP fun k hk=>?_
  rw[mT]
  exact uQ he (by omega) hk
theorem AB2 {h o:List Pt} (hn:gR h) (ho:dG o=0) (h0:0<h.length):gG h o=(!eL h o&&decide (cO o (pt h 0)=1)):=by
 unfold gG
 cases he:eL h o with
 | true=>rfl
 | false =>
  rw[Bool.not_false,Bool.true_and,Bool.true_and,Bool.eq_iff_iff]
  have w:∀ i,i<h.length→(cO o (pt h i)=1↔fM o (pt h 0)=true):=fun i hi=>by
   rw[GI (hn.pt i) ho (zO he hi),Q6 he i hi]
   cases fM o (pt h 0)<;>simp
  constructor
  ·intro ha
   rw[List.all_eq_true] at ha
   have:=ha _ (List.getElem_mem h0)
   rw[vR h0];exact this
  ·intro ha
   rw[List.all_eq_true]
   intro c hc
   obtain ⟨i,hi,rfl⟩:=List.mem_iff_getElem.1 hc
   rw[←vR hi]
   exact decide_eq_true ((w i hi).2 ((w 0 h0).1 (of_decide_eq_true ha)))
theorem A13 (l:List (List Pt)) (f:List Pt→Int):Geo.mY (l.map f)=cN l.length fun i=>f (l.getD i []):=by
 induction l with
 | nil=>rfl
 | cons a l ih =>
  rw[List.map_cons,Geo.mY,ih,List.length_cons,DO]
  rfl
theorem sY {s:eQ} {i:Nat} (hi:i<s.2.length) (h:mA s i=0):dG s.2[i]=0∧gJ s.2[i]<0∧gG s.2[i] s.1=true∧∀ k (hk:k<i),fU s.2[i] (s.2[k]'(by omega))=true:=by
 have hg:s.2.getD i []=s.2[i]:=gO hi
 unfold mA at h
 rw[hg] at h
 by_cases h1:dG s.2[i]=0
 ·rw[if_neg (by simpa using h1)] at h
  by_cases h2:0≤gJ s.2[i]∨gG s.2[i] s.1=false
  ·rw[if_pos h2] at h;cases h
  rw[if_neg h2] at h
  refine ⟨h1,?_,?_,fun k hk=>?_⟩
  ·rcases Int.lt_or_le (gJ s.2[i]) 0 with h3|h3
   ·exact h3
   ·exact absurd (.inl h3) h2
  ·cases h3:gG s.2[i] s.1 with
   | true=>rfl
   | false=>exact absurd (.inr h3) h2
  ·by_cases h3:((List.range i).all fun k=>fU s.2[i] (s.2.getD k []))=false
   ·rw[if_pos h3] at h;cases h
   have h3:((List.range i).all fun k=>fU s.2[i] (s.2.getD k []))=true:=by simpa using h3
   have:=cG.1 h3 k hk
   rwa[gO (by omega)] at this
 ·rw[if_pos (by simpa using h1)] at h
  exact absurd h h1
theorem AQ7 {s:eQ} (h:gM s=0):s.2.length≤8∧dG s.1=0∧0<gJ s.1∧∀ i,i<s.2.length→mA s i=0:=by
 unfold gM at h
 by_cases h1:8<s.2.length
 ·rw[if_pos h1] at h;cases h
 rw[if_neg h1] at h
 by_cases h2:dG s.1=0
 ·rw[if_neg (by simpa using h2)] at h
  by_cases h3:gJ s.1≤0
  ·rw[if_pos h3] at h;cases h
  rw[if_neg h3] at h
  exact ⟨by omega,h2,by omega,fun i hi=>jD h i (List.mem_range.2 hi)⟩
 ·rw[if_pos (by simpa using h2)] at h
  exact absurd h h2
theorem PT {p:List Pt} (h:dG p=0):gJ p=eZ p:=by unfold gJ;rw[if_pos h]
theorem A44 (s:eQ):0≤p8 s:=by
 unfold p8
 by_cases h:gM s=0
 ·rw[if_pos h]
  obtain ⟨h8,ho,hao,hh⟩:=AQ7 h
  have hp:∀ p∈s.1::s.2,dG p=0:=fun p hp=>by
   rcases List.mem_cons.1 hp with rfl|hp
   ·exact ho
   ·obtain ⟨i,hi,rfl⟩:=List.mem_iff_getElem.1 hp
    exact (sY hi (hh i hi)).1
  have e:AWJ (s.1::s.2)=Geo.mY ((s.1::s.2).map eZ):=by
   rw[A13]
   unfold AWJ
   refine gI fun i hi=>?_
   rw[gO hi]
   exact PT (hp _ (List.getElem_mem hi))
  rw[e]
  have hsi:∀ p∈s.1::s.2,oJ p=true:=fun p hm=>(dY (hp p hm)).2.2.2.1
  refine A1V (fun p hm=>WM (hsi p hm) (dY (hp p hm)).1) (fun p hm=>(dY (hp p hm)).2.2.1.pt) (by rw[←PT ho];exact hao) ?_ ?_ ?_ ?_
  ·intro c hm
   obtain ⟨i,hi,rfl⟩:=List.mem_iff_getElem.1 hm
   have:=sY hi (hh i hi)
   rw[←PT this.1];exact this.2.1
  ·intro c hm
   obtain ⟨i,hi,rfl⟩:=List.mem_iff_getElem.1 hm
   have hw:=(sY hi (hh i hi)).2.2.1
   refine PS (hsi _ (by simp)) (hsi _ (by simp)) ?_
   unfold gG at hw
   simp only[Bool.and_eq_true,Bool.not_eq_true'] at hw
   exact hw.1
  ·intro c hm j hj
   obtain ⟨i,hi,rfl⟩:=List.mem_iff_getElem.1 hm
   have hq:=sY hi (hh i hi)
   have hw:=hq.2.2.1
   have hnear:=(dY hq.1).2.2.1
   unfold gG at hw
   simp only[Bool.and_eq_true,Bool.not_eq_true',List.all_eq_true] at hw
   have h1:=of_decide_eq_true (hw.2 _ (List.getElem_mem hj))
   rw[←vR hj,GI (hnear.pt j) ho (zO hw.1 hj)] at h1
   refine Classical.byContradiction fun hc=>?_
   rw[if_neg hc] at h1
   cases h1
  ·have key:∀ i j (hi:i<s.2.length) (hj:j<s.2.length),j<i→eL s.2[i] s.2[j]=false∧fM s.2[i] (pt s.2[j] 0)=false∧fM s.2[j] (pt s.2[i] 0)=false:=fun i j hi hj hij=>by
    have hq:=sY hi (hh i hi)
    have hq':=sY hj (hh j hj)
    have ha:=hq.2.2.2 j hij
    have hn:=(dY hq.1).2.2.1
    have hn':=(dY hq'.1).2.2.1
    have l1:=(dY hq.1).1
    have l2:=(dY hq'.1).1
    unfold fU at ha
    simp only[Bool.and_eq_true,Bool.not_eq_true',decide_eq_true_eq] at ha
    obtain ⟨e1,e2,e3⟩:=ha
    have e1':eL s.2[j] s.2[i]=false:=by
     rw[Bool.eq_false_iff]
     intro hc
     obtain ⟨a,ha,hb⟩:=eK.1 hc
     obtain ⟨b,hb1,hb2⟩:=eK.1 hb
     rw[mT,uQ e1 hb1 ha] at hb2
     cases hb2
    rw[GI (hn'.pt 0) hq.1 (zO e1' (by omega))] at e2
    rw[GI (hn.pt 0) hq'.1 (zO e1 (by omega))] at e3
    refine ⟨e1,?_,?_⟩
    ·rw[Bool.eq_false_iff];intro hc;rw[if_pos hc] at e2;omega
    ·rw[Bool.eq_false_iff];intro hc;rw[if_pos hc] at e3;omega
   intro i j hi hj hij
   rcases Nat.lt_or_ge i j with hl|hl
   ·obtain ⟨k1,k2,k3⟩:=key j i hj hi hl
    exact ⟨(PS (hsi _ (by simp)) (hsi _ (by simp)) k1).symm,k3⟩
   ·obtain ⟨k1,k2,k3⟩:=key i j hi hj (by omega)
    exact ⟨PS (hsi _ (by simp)) (hsi _ (by simp)) k1,k2⟩
 ·rw[if_neg h];exact Int.le_refl 0
end Go.Pv
namespace Go.Pv
open Go Go.Proofs
noncomputable def AJV:Env:=Env.of [(164,.pure dL)]
def AXZ:FuncId→Hint:=fun _=>aV
theorem AW3:aH Tryz.prog AJV:=aH.cons (x:=.pure dL) IT (aH.nil _)
def ALH (a0:aJ) (a1:aJ) (a2:aJ) (R:T→Prop):Prop :=
 aG [(false,Sy.int IntKind.i64)]
 (dL [aC true aA a1,aC true aA a2,aC true aA a0])
 fun (y0:Int) =>
 aB (decide (y0=0))
 (aB (decide ((if a2.1<a1.1 then a2.1 else a1.1)≤a0.1))
 (aB (decide (a0.1≤if a1.1<a2.1 then a2.1 else a1.1))
 (aB (decide ((if a2.2<a1.2 then a2.2 else a1.2)≤a0.2))
 (R (T.v (.bool (decide (a0.2≤if a1.2<a2.2 then a2.2 else a1.2)))))
 (R (T.v (.bool false))))
 (R (T.v (.bool false))))
 (R (T.v (.bool false))))
 (R (T.v (.bool false)))
theorem ASB ( a0 a1 a2 R):bC aY Tryz.prog AJV AXZ 8 163 [aC true aA a0,aC true aA a1,aC true aA a2] R=ALH a0 a1 a2 R:=by kernel_rfl
abbrev ABI:Sh:=[(true,aA),(true,aA),(true,aA)]
def ABR (x:aJ×aJ×aJ):Option T:=xW x.2.1 x.2.2 x.1 (T.v (.bool (iZ x.2.1 x.2.2 x.1)))
noncomputable def jG:List T→Option (T):=gS ABI ABR
theorem AT6 {a0 a1 a2}:jG [aC true aA a0,aC true aA a1,aC true aA a2]=ABR (a0,a1,a2):=a8 (s:=ABI) rfl (a0,a1,a2) rfl
theorem A4J (h:∀ a0 a1 a2 r,ABR (a0,a1,a2)=some r→b8 ABI (a0,a1,a2)→ALH a0 a1 a2 (fun y=>y=r)):aK Tryz.prog 163 jG :=
 aR (E:=AJV) (Hs:=AXZ) AW3 aW aX (aM rfl) 8 ⟨_,_,Tryz.func163,rfl⟩ rfl fun x r h1 h2=>by
  obtain ⟨a0,a1,a2⟩:=x
  rw[show Sh.bN ABI (a0,a1,a2)=[aC true aA a0,aC true aA a1,aC true aA a2] from rfl,ASB]
  exact h a0 a1 a2 r h1 h2
theorem ZU:aK Tryz.prog 163 jG:=A4J fun c a b r h hb=>by
 obtain ⟨h1,h2,h3,rfl⟩:=pX h
 unfold ALH
 refine aD (s:=[(false,.int .i64)]) (lA h1 h2 h3) ?_
 refine bL (fun h=>?_) fun h=>cM (by unfold iZ;rw[decide_eq_false h];rfl)
 rw[xV,xV,xS,xS]
 have w:iZ a b c=L0 a b c:=by unfold iZ;rw[decide_eq_true h];rfl
 show aB _ _ _
 rw[show (iZ (c,a,b).2.1 (c,a,b).2.2 (c,a,b).1)=L0 a b c from w]
 clear h w
 refine bL (fun h1=>bL (fun h2=>bL (fun h3=>cM ?_) fun h3=>cM ?_) fun h2=>cM ?_) fun h1=>cM ?_
 all_goals simp[L0,h1]
 all_goals simp[h2]
 all_goals simp[h3]
theorem mO {c a b:Pt} (h1:bX a) (h2:bX b) (h3:bX c):jG [aC true aA c,aC true aA a,aC true aA b]=some (Sh.enc [(false,.bool)] (iZ a b c)):=(AT6 ..).trans (pY _ h1 h2 h3)
noncomputable def NG:Env:=Env.of [(164,.pure dL),(163,.pure jG),(187,.pure kD)]
def AEP:FuncId→Hint:=fun _=>aV
theorem AKF:aH Tryz.prog NG:=aH.cons (x:=.pure dL) IT (aH.cons (x:=.pure jG) ZU (aH.cons (x:=.pure kD) ATX (aH.nil _)))
def ON (a0:aJ) (a1:aJ) (a2:aJ) (a3:aJ) (R:T→Prop):Prop :=
 aG [(false,Sy.bool)]
 (jG [aC true aA a0,aC true aA a2,aC true aA a3])
 fun (y0:Bool) =>
 aB y0 (R (T.v (.bool true)))
 (aG [(false,Sy.bool)]
 (jG [aC true aA a1,aC true aA a2,aC true aA a3])
 fun (y1:Bool) =>
 aB y1 (R (T.v (.bool true)))
 (aG [(false,Sy.bool)]
 (jG
 [aC true aA a2,aC true aA a0,aC true aA a1])
 fun (y2:Bool) =>
 aB y2 (R (T.v (.bool true)))
 (aG [(false,Sy.bool)]
 (jG
 [aC true aA a3,aC true aA a0,aC true aA a1])
 fun (y3:Bool) =>
 aB y3 (R (T.v (.bool true)))
 (aG [(false,Sy.int IntKind.i64)]
 (dL
 [aC true aA a0,aC true aA a1,aC true aA a2])
 fun (y4:Int) =>
 aG [(false,Sy.int IntKind.i64)]
 (kD [T.v (.int .i64 y4)]) fun (y5:Int) =>
 aG [(false,Sy.int IntKind.i64)]
 (dL
 [aC true aA a0,aC true aA a1,
 aC true aA a3])
 fun (y6:Int) =>
 aG [(false,Sy.int IntKind.i64)]
 (kD [T.v (.int .i64 y6)]) fun (y7:Int) =>
 aB (decide (IntKind.i64.wrap (y5*y7)<0))
 (aG [(false,Sy.int IntKind.i64)]
 (dL
 [aC true aA a2,aC true aA a3,
 aC true aA a0])
 fun (y8:Int) =>
 aG [(false,Sy.int IntKind.i64)]
 (kD [T.v (.int .i64 y8)]) fun (y9:Int) =>
 aG [(false,Sy.int IntKind.i64)]
 (dL
 [aC true aA a2,aC true aA a3,
 aC true aA a1])
 fun (y10:Int) =>
 aG [(false,Sy.int IntKind.i64)]
 (kD [T.v (.int .i64 y10)]) fun (y11:Int) =>
 R (T.v (.bool (decide (IntKind.i64.wrap (y9*y11)<0)))))
 (R (T.v (.bool false)))))))
theorem ADH ( a0 a1 a2 a3 R):bC aY Tryz.prog NG AEP 8 177 [aC true aA a0,aC true aA a1,aC true aA a2,
 aC true aA a3] R=ON a0 a1 a2 a3 R:=by kernel_rfl
abbrev FO:Sh:=[(true,aA),(true,aA),(true,aA),(true,aA)]
def JU (x:aJ×aJ×aJ×aJ):Option T:=LD x.1 x.2.1 x.2.2.1 x.2.2.2 (T.v (.bool (bS x.1 x.2.1 x.2.2.1 x.2.2.2)))
noncomputable def pR:List T→Option (T):=gS FO JU
theorem AG6 {a0 a1 a2 a3}:pR [aC true aA a0,aC true aA a1,aC true aA a2,
 aC true aA a3]=JU (a0,a1,a2,a3):=a8 (s:=FO) rfl (a0,a1,a2,a3) rfl
theorem AU7 (h:∀ a0 a1 a2 a3 r,JU (a0,a1,a2,a3)=some r→b8 FO (a0,a1,a2,a3)→ON a0 a1 a2 a3 (fun y=>y=r)):aK Tryz.prog 177 pR :=
 aR (E:=NG) (Hs:=AEP) AKF aW aX (aM rfl) 8 ⟨_,_,Tryz.func177,rfl⟩ rfl fun x r h1 h2=>by
  obtain ⟨a0,a1,a2,a3⟩:=x
  rw[show Sh.bN FO (a0,a1,a2,a3)=[aC true aA a0,aC true aA a1,aC true aA a2,
 aC true aA a3] from rfl,ADH]
  exact h a0 a1 a2 a3 r h1 h2
theorem ATM:aK Tryz.prog 177 pR:=AU7 fun a b c d r h hb=>by
 obtain ⟨h1,h2,h3,h4,rfl⟩:=EW h
 unfold ON
 refine aD (s:=[(false,.bool)]) (mO h3 h4 h1) ?_
 refine rS (fun h=>cM (by unfold bS;rw[h];simp)) fun k1=>?_
 refine aD (s:=[(false,.bool)]) (mO h3 h4 h2) ?_
 refine rS (fun h=>cM (by unfold bS;rw[h];simp)) fun k2=>?_
 refine aD (s:=[(false,.bool)]) (mO h1 h2 h3) ?_
 refine rS (fun h=>cM (by unfold bS;rw[h];simp)) fun k3=>?_
 refine aD (s:=[(false,.bool)]) (mO h1 h2 h4) ?_
 refine rS (fun h=>cM (by unfold bS;rw[h];simp)) fun k4=>?_
 refine aD (s:=[(false,.int .i64)]) (lA h1 h2 h3) ?_
 refine aD (s:=[(false,.int .i64)]) (rB _) ?_
 refine aD (s:=[(false,.int .i64)]) (lA h1 h2 h4) ?_
 refine aD (s:=[(false,.int .i64)]) (rB _) ?_
 rw[n8]
 refine bL (fun h=>?_) fun h=>cM (by unfold bS;rw[k1,k2,k3,k4,decide_eq_false h];rfl)
 refine aD (s:=[(false,.int .i64)]) (lA h3 h4 h1) ?_
 refine aD (s:=[(false,.int .i64)]) (rB _) ?_
 refine aD (s:=[(false,.int .i64)]) (lA h3 h4 h2) ?_
 refine aD (s:=[(false,.int .i64)]) (rB _) ?_
 rw[n8]
 exact cM (by unfold bS;rw[k1,k2,k3,k4,decide_eq_true h];rfl)
theorem AG7 {a b c d:Pt} (h1:bX a) (h2:bX b) (h3:bX c) (h4:bX d):pR [aC true aA a,aC true aA b,aC true aA c,aC true aA d]=some (Sh.enc [(false,.bool)] (bS a b c d)):=(AG6 ..).trans (EX _ h1 h2 h3 h4)
noncomputable def GV:Env:=Env.of []
def UC:FuncId→Hint:=fun _=>aV
theorem ACH:aH Tryz.prog GV:=aH.nil _
def HO (a0:aJ) (R:T→Prop):Prop :=
 aB (decide (-32768≤a0.1))
 (aB (decide (a0.1≤32768))
 (aB (decide (-32768≤a0.2)) (R (T.v (.bool (decide (a0.2≤32768)))))
 (R (T.v (.bool false))))
 (R (T.v (.bool false))))
 (R (T.v (.bool false)))
theorem YI ( a0 R):bC aY Tryz.prog GV UC 8 162 [aC true aA a0] R=HO a0 R:=by kernel_rfl
abbrev z6:Sh:=[(true,aA)]
def C7 (q:aJ):Option T:=some (T.v (.bool (decide (bX q))))
noncomputable def jV:List T→Option (T):=gS z6 C7
theorem EG {a0}:jV [aC true aA a0]=C7 (a0):=a8 (s:=z6) rfl (a0) rfl
theorem AOB (h:∀ a0 r,C7 (a0)=some r→b8 z6 (a0)→HO a0 (fun y=>y=r)):aK Tryz.prog 162 jV :=
 aR (E:=GV) (Hs:=UC) ACH aW aX (aM rfl) 8 ⟨_,_,Tryz.func162,rfl⟩ rfl fun x r h1 h2=>by
  let a0:=x
  rw[show Sh.bN z6 (a0)=[aC true aA a0] from rfl,YI]
  exact h a0 r h1 h2
theorem QP:aK Tryz.prog 162 jV:=AOB fun q r h hb=>by
 cases h
 unfold HO
 have no:¬ bX q→false=decide (bX q):=fun h=>by rw[decide_eq_false h]
 refine bL (fun h1=>bL (fun h2=>bL (fun h3=>cM ?_) fun h=>cM (no (by unfold bX;omega))) fun h=>cM (no (by unfold bX;omega))) fun h=>cM (no (by unfold bX;omega))
 by_cases h:bX q
 ·rw[decide_eq_true h]
  unfold bX at h
  exact decide_eq_true (by omega)
 ·rw[decide_eq_false h]
  unfold bX at h
  exact decide_eq_false (by omega)
noncomputable def GU:Env:=Env.of [(162,.pure jV)]
def UB:FuncId→Hint:=fun f=>match f == 159 with|true=>⟨fun r=>match r == 2 with|true=>.inv [.val 3 false (.int .i64)]|false=>.none,fun _ _=>none,fun _=>none⟩|false=>aV
theorem ACG:aH Tryz.prog GU:=aH.cons (x:=.pure jV) QP (aH.nil _)
def HN (a0:List aJ) (R:T→Prop):Prop :=
 bA (Int×PUnit)
 (fun (X0:Int×PUnit→Prop) (s1:Int×PUnit) =>
 aB (decide (s1.1<(↑(List.map aA.enc a0).length:Int)))
 (aO aA (List.map aA.enc a0) s1.1 fun (y2:aJ) =>
 aG [(false,Sy.bool)] (jV [aC true aA y2]) fun (y3:Bool) =>
 aB (!y3) (R (T.v (.bool false))) (X0 (IntKind.i64.wrap (s1.1+1),())))
 (R (T.v (.bool true))))
 (0,())
theorem YH ( a0 R):bC aY Tryz.prog GU UB 8 159 [aC false aA.li a0] R=HN a0 R:=by kernel_rfl
abbrev zZ:Sh:=[(false,aA.li)]
def C6 (p:List aJ):Option T:=some (T.v (.bool (BH p)))
noncomputable def oV:List T→Option (T):=gS zZ C6
theorem Z6 {a0}:oV [T.sl false (List.map aA.enc a0)]=C6 (a0):=a8 (s:=zZ) rfl (a0) rfl
theorem AOA (h:∀ a0 r,C6 (a0)=some r→b8 zZ (a0)→HN a0 (fun y=>y=r)):aK Tryz.prog 159 oV :=
 aR (E:=GU) (Hs:=UB) ACG aW aX (aM rfl) 8 ⟨_,_,Tryz.func159,rfl⟩ rfl fun x r h1 h2=>by
  let a0:=x
  rw[show Sh.bN zZ (a0)=[aC false aA.li a0] from rfl,YH]
  exact h a0 r h1 h2
theorem AMO:aK Tryz.prog 159 oV:=AOA fun p r h hb=>by
 cases h
 have hl:p.length≤140737488355328:=hb.1
 unfold HN
 refine aZ p.length (fun k s=>s=((k:Int),())∧∀ i,i<k→i<p.length→bX (pt p i)) ⟨rfl,fun i h=>by omega⟩ ?_
 rintro X k s hk ⟨rfl,hJ⟩ hX
 dsimp only
 refine bL (fun hlt=>?_) fun hge=>?_
 ·rw[List.length_map] at hlt
  have hlt:k<p.length:=by omega
  rw[bW hlt]
  refine aD (s:=[(false,.bool)]) (y:=decide (bX (pt p k))) (EG ..) ?_
  refine gP (fun hf=>cM ?_) fun hn=>hX _ hlt ⟨by rw[show IntKind.i64.wrap ((k:Int)+1)=((k+1:Nat):Int) from aS _ (by omega) (by omega)],fun i h1 h2=>by
   rcases Nat.lt_or_ge i k with h3|h3
   ·exact hJ i h3 h2
   ·have:i=k:=by omega
    subst this;exact hn⟩
  symm
  rw[Bool.eq_false_iff];intro h
  have:=iS.1 h _ (List.getElem_mem hlt)
  rw[←vR hlt] at this
  exact hf this
 ·rw[List.length_map] at hge
  refine cM (Eq.symm (iS.2 fun q hq=>?_))
  obtain ⟨i,hi,rfl⟩:=List.mem_iff_getElem.1 hq
  rw[←vR hi]
  exact hJ i (by omega) hi
def rW (p:List Pt) (i:Nat):Bool:=!iZ (nx p i) (nR p i) (pt p i)&&(!iZ (pt p i) (nx p i) (nR p i)&&(List.range p.length).all fun k=>decide (k<i+2)||qN p i k)
def AYQ (p:List Pt):Bool:=(List.range p.length).all fun i=>(List.range i).all fun k=>!decide (pt p i=pt p k)
def qB (p:List Pt):Bool:=AYQ p&&(List.range p.length).all (rW p)
theorem A88 {u1 v1 u2 v2:Int} (h:u1*v2=u2*v1) (h0:0<u1) (h1:u1≤v1):(0≤u2∧u2≤v2)∨(v2≤u2∧u2≤0):=by
 have key:∀ {u2 v2:Int},u1*v2=u2*v1→0≤v2→0≤u2∧u2≤v2:=fun {u2 v2} h hv=>by
  have n1:0≤u1*v2:=Int.mul_nonneg (by omega) hv
  refine ⟨?_,?_⟩
  ·rcases Int.lt_or_le u2 0 with hc|hc
   ·have:=Int.mul_neg_of_neg_of_pos hc (show 0<v1 by omega);omega
   ·exact hc
  ·rcases Int.lt_or_le v2 u2 with hc|hc
   ·have a1:=Int.mul_lt_mul_of_pos_right hc (show 0<v1 by omega)
    have a2:=Int.mul_le_mul_of_nonneg_right h1 hv
    rw[Int.mul_comm v1 v2] at a2;omega
   ·exact hc
 rcases Int.le_total 0 v2 with hv|hv
 ·exact .inl (key h hv)
 ·have:=key (u2:=-u2) (v2:=-v2) (by rw[Int.mul_neg,Int.neg_mul,h]) (by omega)
  exact .inr ⟨by omega,by omega⟩
def On0 (u1 u2 v1 v2:Int):Prop:=((0≤u1∧u1≤v1)∨(v1≤u1∧u1≤0))∧((0≤u2∧u2≤v2)∨(v2≤u2∧u2≤0))
theorem A1C {u1 u2 v1 v2:Int} (h:u1*v2=u2*v1) (hp:0<u1*v1):On0 u1 u2 v1 v2∨On0 v1 v2 u1 u2:=by
 have pos:∀ {u1 u2 v1 v2:Int},u1*v2=u2*v1→0<u1→0<v1→On0 u1 u2 v1 v2∨On0 v1 v2 u1 u2:=fun {u1 u2 v1 v2} h hu hv=>by
  rcases Int.le_total u1 v1 with hc|hc
  ·exact .inl ⟨.inl ⟨by omega,hc⟩,A88 h hu hc⟩
  ·exact .inr ⟨.inl ⟨by omega,hc⟩,A88 (by rw[Int.mul_comm v1,Int.mul_comm v2];exact h.symm) hv hc⟩
 rcases Int.lt_trichotomy u1 0 with hu|hu|hu
 ·have hv:v1<0:=by
   rcases Int.lt_or_le v1 0 with hc|hc
   ·exact hc
   ·have:=Int.mul_nonneg (show 0≤-u1 by omega) hc;rw[Int.neg_mul] at this;omega
  have:=pos (u1:=-u1) (u2:=-u2) (v1:=-v1) (v2:=-v2) (by rw[Int.neg_mul_neg,Int.neg_mul_neg,h]) (by omega) (by omega)
  unfold On0 at this ⊢
  omega
 ·subst hu;simp at hp
 ·have hv:0<v1:=by
   rcases Int.lt_or_le 0 v1 with hc|hc
   ·exact hc
   ·have:=Int.mul_nonneg (show 0≤u1 by omega) (show 0≤-v1 by omega);rw[Int.mul_neg] at this;omega
  exact pos h hu hv
theorem AQA {u1 u2 v1 v2:Int} (h:On0 u1 u2 v1 v2) (hne:u1≠0∨u2≠0):0<u1*v1+u2*v2:=by
 have one:∀ {u v:Int},(0≤u∧u≤v)∨(v≤u∧u≤0)→0≤u*v∧(u≠0→0<u*v):=fun {u v} h=>by
  rcases h with ⟨h1,h2⟩|⟨h1,h2⟩
  ·refine ⟨Int.mul_nonneg h1 (by omega),fun hn=>Int.mul_pos (by omega) (by omega)⟩
  ·have e:u*v=(-u)*(-v):=by rw[Int.neg_mul_neg]
   refine ⟨by rw[e];exact Int.mul_nonneg (by omega) (by omega),fun hn=>by rw[e];exact Int.mul_pos (by omega) (by omega)⟩
 obtain ⟨a1,a2⟩:=one h.1
 obtain ⟨b1,b2⟩:=one h.2
 rcases hne with hn|hn
 ·have:=a2 hn;omega
 ·have:=b2 hn;omega
theorem AQI {a b c:Pt} (hab:a≠b) (hbc:b≠c):(decide (aI a b c=0)&&decide (0<lO a b c))=(iZ b c a||iZ a b c):=by
 have k1:aI a b c=(a.2-b.2)*(c.1-b.1)-(a.1-b.1)*(c.2-b.2):=by simp only[aI];grind
 have k2:aI b c a=(a.2-b.2)*(c.1-b.1)-(a.1-b.1)*(c.2-b.2):=by simp only[aI];grind
 have o1:iZ b c a=true↔(a.1-b.1)*(c.2-b.2)=(a.2-b.2)*(c.1-b.1)∧On0 (a.1-b.1) (a.2-b.2) (c.1-b.1) (c.2-b.2):=by
  unfold iZ L0 On0
  rw[k2]
  generalize (a.1-b.1)*(c.2-b.2)=X
  generalize (a.2-b.2)*(c.1-b.1)=Y
  simp only[Bool.and_eq_true,decide_eq_true_eq]
  omega
 have o2:iZ a b c=true↔(a.1-b.1)*(c.2-b.2)=(a.2-b.2)*(c.1-b.1)∧On0 (c.1-b.1) (c.2-b.2) (a.1-b.1) (a.2-b.2):=by
  unfold iZ L0 On0
  rw[k1]
  generalize (a.1-b.1)*(c.2-b.2)=X
  generalize (a.2-b.2)*(c.1-b.1)=Y
  simp only[Bool.and_eq_true,decide_eq_true_eq]
  omega
 have nab:a.1-b.1≠0∨a.2-b.2≠0:=by
  by_cases h:a.1-b.1=0
  ·exact .inr fun h2=>hab (Prod.ext (by omega) (by omega))
  ·exact .inl h
 have ncb:c.1-b.1≠0∨c.2-b.2≠0:=by
  by_cases h:c.1-b.1=0
  ·exact .inr fun h2=>hbc (Prod.ext (by omega) (by omega))
  ·exact .inl h
 rw[Bool.eq_iff_iff,Bool.or_eq_true,o1,o2,Bool.and_eq_true,decide_eq_true_eq,decide_eq_true_eq,k1]
 have hd:lO a b c=(a.1-b.1)*(c.1-b.1)+(a.2-b.2)*(c.2-b.2):=rfl
 rw[hd]
 generalize a.1-b.1=u1 at *
 generalize a.2-b.2=u2 at *
 generalize c.1-b.1=v1 at *
 generalize c.2-b.2=v2 at *
 constructor
 ·rintro ⟨h1,h2⟩
  have h:u1*v2=u2*v1:=by omega
  rcases Int.lt_or_le 0 (u1*v1) with hp|hp
  ·rcases A1C h hp with h3|h3
   ·exact .inl ⟨h,h3⟩
   ·exact .inr ⟨h,h3⟩
  ·have hp2:0<u2*v2:=by omega
   rcases A1C (u1:=u2) (u2:=u1) (v1:=v2) (v2:=v1) h.symm hp2 with h3|h3
   ·exact .inl ⟨h,h3.2,h3.1⟩
   ·exact .inr ⟨h,h3.2,h3.1⟩
 ·rintro (⟨h,h3⟩|⟨h,h3⟩)
  ·exact ⟨by omega,AQA h3 nab⟩
  ·have:=AQA h3 ncb
   rw[Int.mul_comm v1,Int.mul_comm v2] at this
   exact ⟨by omega,this⟩
theorem AL7 (a b c:Pt):bS a b a c=true:=by
 unfold bS
 rw[show iZ a b a=true from by
  unfold iZ L0
  rw[show aI a b a=0 by simp only[aI];grind,decide_eq_true rfl,decide_eq_true (show min a.1 b.1≤a.1 by omega),decide_eq_true (show a.1≤max a.1 b.1 by omega),decide_eq_true (show min a.2 b.2≤a.2 by omega),decide_eq_true (show a.2≤max a.2 b.2 by omega)]
  rfl]
 rfl
theorem AV9 {p:List Pt} (h3:3≤p.length):qB p=oJ p:=by
 rw[Bool.eq_iff_iff]
 have nxt:∀ i,i<p.length→(i+1) % p.length<p.length:=fun i _=>Nat.mod_lt _ (by omega)
 constructor
 ·intro h
  unfold qB at h
  rw[Bool.and_eq_true] at h
  obtain ⟨h1,h2⟩:=h
  have dist:∀ i k,i<p.length→k<i→pt p i≠pt p k:=fun i k hi hk e=>by
   have:=cG.1 (cG.1 h1 i hi) k hk
   rw[decide_eq_true e] at this;cases this
  have dist2:∀ i k,i<p.length→k<p.length→i≠k→pt p i≠pt p k:=fun i k hi hk hne=>by
   rcases Nat.lt_or_ge k i with h|h
   ·exact dist i k hi h
   ·exact (dist k i hk (by omega)).symm
  have ab:∀ i,i<p.length→pt p i≠nx p i:=fun i hi=>dist2 _ _ hi (nxt i hi) (by
   rcases Nat.lt_or_ge (i+1) p.length with h|h
   ·rw[Nat.mod_eq_of_lt h];omega
   ·rw[show i+1=p.length by omega,Nat.mod_self];omega)
  refine cG.2 fun i hi=>?_
  have h4:=cG.1 h2 i hi
  unfold rW at h4
  simp only[Bool.and_eq_true,Bool.not_eq_true'] at h4
  unfold EY
  have hbc:nx p i≠nR p i:=by
   have:=ab _ (nxt i hi)
   unfold nR
   unfold nx at this ⊢
   rwa[Nat.mod_add_mod] at this
  rw[AQI (ab i hi) hbc,h4.1,h4.2.1,decide_eq_false (ab i hi),h4.2.2];rfl
 ·intro h
  have at_:∀ i,i<p.length→EY p i=true:=fun i hi=>cG.1 h i hi
  have ab:∀ i,i<p.length→pt p i≠nx p i:=fun i hi e=>by
   have:=at_ i hi
   unfold EY at this
   rw[decide_eq_true e] at this;cases this
  have pair:∀ i k,i<p.length→k<p.length→i+2≤k→(k+1) % p.length≠i→bS (pt p i) (nx p i) (pt p k) (nx p k)=false:=fun i k hi hk hik hne=>by
   have:=at_ i hi
   unfold EY at this
   simp only[Bool.and_eq_true] at this
   have h5:=cG.1 this.2.2 k hk
   rw[decide_eq_false (by omega),Bool.false_or] at h5
   unfold qN at h5
   rw[decide_eq_false hne] at h5
   simpa using h5
  unfold qB
  rw[Bool.and_eq_true]
  refine ⟨cG.2 fun i hi=>cG.2 fun k hk=>?_,cG.2 fun i hi=>?_⟩
  ·rw[Bool.not_eq_true',decide_eq_false_iff_not]
   intro e
   by_cases h1:k+1=i
   ·refine ab k (by omega) ?_
    unfold nx
    rw[Nat.mod_eq_of_lt (by omega),h1,e]
   ·by_cases h2:(i+1) % p.length=k
    ·refine ab i hi ?_
     unfold nx
     rw[h2,e]
    ·have:=pair k i (by omega) hi (by omega) h2
     rw[e,AL7] at this;cases this
  ·have h4:=at_ i hi
   unfold EY at h4
   have hbc:nx p i≠nR p i:=by
    have:=ab _ (nxt i hi)
    unfold nR
    unfold nx at this ⊢
    rwa[Nat.mod_add_mod] at this
   rw[AQI (ab i hi) hbc] at h4
   unfold rW
   simp only[Bool.and_eq_true,Bool.not_eq_true',Bool.or_eq_false_iff] at h4 ⊢
   exact ⟨h4.2.1.1,h4.2.1.2,h4.2.2⟩
end Go.Pv
namespace Go.Pv
open Go Go.Proofs
noncomputable def B0:Env:=Env.of [(163,.pure jG),(177,.pure pR)]
def PM:FuncId→Hint:=fun f=>match f == 160 with|true=>⟨fun r=>match r == 3 with|true=>.inv [.val 4 false (.int .i64)]|false=>match r == 6 with|true=>.inv [.val 5 false (.int .i64)]|false=>match r == 11 with|true=>.inv [.val 6 false (.int .i64)]|false=>match r == 17 with|true=>.inv [.val 10 false (.int .i64)]|false=>.none,fun _ _=>none,fun _=>none⟩|false=>aV
theorem XQ:aH Tryz.prog B0:=aH.cons (x:=.pure jG) ZU (aH.cons (x:=.pure pR) ATM (aH.nil _))
def B9 (a0:List aJ) (R:T→Prop):Prop :=
 bA (Int×PUnit)
 (fun (X0:Int×PUnit→Prop) (s1:Int×PUnit) =>
 aB (decide (s1.1<(↑(List.map aA.enc a0).length:Int)))
 (bA (Int×PUnit)
 (fun (X2:Int×PUnit→Prop) (s3:Int×PUnit) =>
 aB (decide (s3.1<s1.1))
 (aO aA (List.map aA.enc a0) s1.1 fun (y4:aJ) =>
 aO aA (List.map aA.enc a0) s3.1 fun (y5:aJ) =>
 aB (decide (y4.1=y5.1)&&(decide (y4.2=y5.2)&&true))
 (R (T.v (.bool false))) (X2 (IntKind.i64.wrap (s3.1+1),())))
 (X0 (IntKind.i64.wrap (s1.1+1),())))
 (0,()))
 (bA (Int×PUnit)
 (fun (X6:Int×PUnit→Prop) (s7:Int×PUnit) =>
 aB (decide (s7.1<(↑(List.map aA.enc a0).length:Int)))
 (aO aA (List.map aA.enc a0) s7.1 fun (y8:aJ) =>
 bP (!decide ((↑(List.map aA.enc a0).length:Int)=0))
 (aO aA (List.map aA.enc a0)
 ((IntKind.i64.wrap (s7.1+1)).tmod (↑(List.map aA.enc a0).length:Int))
 fun (y9:aJ) =>
 bP (!decide ((↑(List.map aA.enc a0).length:Int)=0))
 (aO aA (List.map aA.enc a0)
 ((IntKind.i64.wrap (s7.1+2)).tmod (↑(List.map aA.enc a0).length:Int))
 fun (y10:aJ) =>
 aG [(false,Sy.bool)]
 (jG
 [aC true aA y8,aC true aA y9,
 aC true aA y10])
 fun (y11:Bool) =>
 aB y11 (R (T.v (.bool false)))
 (aG [(false,Sy.bool)]
 (jG
 [aC true aA y10,aC true aA y8,
 aC true aA y9])
 fun (y12:Bool) =>
 aB y12 (R (T.v (.bool false)))
 (bA (Int×PUnit)
 (fun (X13:Int×PUnit→Prop) (s14:Int×PUnit) =>
 aB (decide (s14.1<(↑(List.map aA.enc a0).length:Int)))
 (bP (!decide ((↑(List.map aA.enc a0).length:Int)=0))
 (aB
 (!decide
 ((IntKind.i64.wrap (s14.1+1)).tmod
 (↑(List.map aA.enc a0).length:Int) =
 s7.1))
 (aO aA (List.map aA.enc a0) s14.1
 fun (y15:aJ) =>
 bP (!decide ((↑(List.map aA.enc a0).length:Int)=0))
 (aO aA (List.map aA.enc a0)
 ((IntKind.i64.wrap (s14.1+1)).tmod
 (↑(List.map aA.enc a0).length:Int))
 fun (y16:aJ) =>
 aG [(false,Sy.bool)]
 (pR
 [aC true aA y8,aC true aA y9,
 aC true aA y15,aC true aA y16])
 fun (y17:Bool) =>
 aB y17 (R (T.v (.bool false)))
 (X13 (IntKind.i64.wrap (s14.1+1),()))))
 (X13 (IntKind.i64.wrap (s14.1+1),()))))
 (X6 (IntKind.i64.wrap (s7.1+1),())))
 (IntKind.i64.wrap (s7.1+2),()))))))
 (R (T.v (.bool true))))
 (0,())))
 (0,())
theorem TG ( a0 R):bC aY Tryz.prog B0 PM 8 160 [aC false aA.li a0] R=B9 a0 R:=by kernel_rfl
abbrev wA:Sh:=[(false,aA.li)]
def yK (p:List aJ):Option T:=RV p (T.v (.bool (qB p)))
noncomputable def kO:List T→Option (T):=gS wA yK
theorem TR {a0}:kO [T.sl false (List.map aA.enc a0)]=yK (a0):=a8 (s:=wA) rfl (a0) rfl
theorem AIW (h:∀ a0 r,yK (a0)=some r→b8 wA (a0)→B9 a0 (fun y=>y=r)):aK Tryz.prog 160 kO :=
 aR (E:=B0) (Hs:=PM) XQ aW aX (aM rfl) 8 ⟨_,_,Tryz.func160,rfl⟩ rfl fun x r h1 h2=>by
  let a0:=x
  rw[show Sh.bN wA (a0)=[aC false aA.li a0] from rfl,TG]
  exact h a0 r h1 h2
theorem AGF:aK Tryz.prog 160 kO:=AIW fun p r h hb=>by
 obtain ⟨hl,hn,rfl⟩:=RW h
 clear h
 have is:∀ {b:Bool},qB p=b→T.v (.bool b)=T.v (.bool (qB p)):=fun h=>by rw[h]
 have nw:∀ {k:Nat},k≤3000→IntKind.i64.wrap ((k:Int)+1)=((k+1:Nat):Int):=fun h=>aS _ (by omega) (by omega)
 unfold B9
 refine aZ p.length (fun k s=>s=((k:Int),())∧∀ i,i<k→i<p.length→∀ j,j<i→pt p i≠pt p j) ⟨rfl,fun i h=>by omega⟩ ?_
 rintro X k s hk ⟨rfl,hJ⟩ hX
 dsimp only
 refine bL (fun hlt=>?_) fun hge=>?_
 ·rw[List.length_map] at hlt
  have hlt:k<p.length:=by omega
  refine aZ k (fun j s=>s=((j:Int),())∧∀ i,i<j→pt p k≠pt p i) ⟨rfl,fun i h=>by omega⟩ ?_
  rintro Y j s hj ⟨rfl,hI⟩ hY
  dsimp only
  refine bL (fun hjl=>?_) fun hjl=>hX _ hlt ⟨by rw[nw (by omega)],fun i h1 h2 j' h3=>by
   rcases Nat.lt_or_ge i k with h4|h4
   ·exact hJ i h4 h2 j' h3
   ·have:i=k:=by omega
    subst this;exact hI j' (by omega)⟩
  have hjl:j<k:=by omega
  rw[bW hlt,bW (show j<p.length by omega)]
  have heq:(decide ((pt p k).1=(pt p j).1)&&(decide ((pt p k).2=(pt p j).2)&&true))=decide (pt p k=pt p j):=by
   rw[Bool.and_true,←Bool.decide_and]
   exact decide_eq_decide.2 Prod.ext_iff.symm
  rw[heq]
  refine bL (fun h=>is ?_) fun h=>hY _ hjl ⟨by rw[nw (by omega)],fun i hi=>by
   rcases Nat.lt_or_ge i j with h4|h4
   ·exact hI i h4
   ·have:i=j:=by omega
    subst this;exact h⟩
  unfold qB AYQ
  rw[qX hlt (qX hjl (by rw[decide_eq_true h];rfl))];rfl
 rw[List.length_map] at hge
 have hd:AYQ p=true:=cG.2 fun i hi=>cG.2 fun j hj=>by
  rw[decide_eq_false (hJ i (by omega) hi j hj)];rfl
 have w:qB p=(List.range p.length).all (rW p):=by unfold qB;rw[hd];rfl
 clear hJ hX hd
 refine aZ p.length (fun k s=>s=((k:Int),())∧∀ i,i<k→i<p.length→rW p i=true) ⟨rfl,fun i h=>by omega⟩ ?_
 rintro X k s hk ⟨rfl,hJ⟩ hX
 dsimp only
 refine bL (fun hlt=>?_) fun hge=>is (w.trans (cG.2 fun i hi=>hJ i (by rw[List.length_map] at hge;omega) hi))
 rw[List.length_map] at hlt
 have hlt:k<p.length:=by omega
 have hne:(!decide (((List.map aA.enc p).length:Int)=0))=true:=by rw[List.length_map,decide_eq_false (by omega)];rfl
 have hm1:(k+1) % p.length<p.length:=Nat.mod_lt _ (by omega)
 have hm2:(k+2) % p.length<p.length:=Nat.mod_lt _ (by omega)
 have i1:(IntKind.i64.wrap ((k:Int)+1)).tmod ((List.map aA.enc p).length:Int)=(((k+1) % p.length:Nat):Int):=by rw[List.length_map];exact iY (c:=1) hl (by omega) (by omega)
 have i2:(IntKind.i64.wrap ((k:Int)+2)).tmod ((List.map aA.enc p).length:Int)=(((k+2) % p.length:Nat):Int):=by rw[List.length_map];exact iY (c:=2) hl (by omega) (by omega)
 have bad:rW p k=false→T.v (.bool false)=T.v (.bool (qB p)):=fun h=>is (w.trans (qX hlt h))
 rw[bW hlt,i1]
 refine ⟨hne,?_⟩
 rw[bW hm1,i2]
 refine ⟨hne,?_⟩
 rw[bW hm2]
 refine aD (s:=[(false,.bool)]) (mO (hn.pt _) (hn.pt _) (hn.pt _)) ?_
 refine rS (fun h=>bad (by unfold rW;rw[show iZ (nx p k) (nR p k) (pt p k)=true from h];rfl)) fun o1=>?_
 refine aD (s:=[(false,.bool)]) (mO (hn.pt _) (hn.pt _) (hn.pt _)) ?_
 refine rS (fun h=>bad (by unfold rW;rw[show iZ (pt p k) (nx p k) (nR p k)=true from h];simp)) fun o2=>?_
 have e:rW p k=(List.range p.length).all fun j=>decide (j<k+2)||qN p k j:=by
  unfold rW;rw[show iZ (nx p k) (nR p k) (pt p k)=false from o1,show iZ (pt p k) (nx p k) (nR p k)=false from o2];rfl
 refine aZ p.length (fun m s=>s=(((k+2+m:Nat):Int),())∧∀ j,j<k+2+m→j<p.length→(decide (j<k+2)||qN p k j)=true) ⟨by rw[show IntKind.i64.wrap ((k:Int)+2)=((k+2+0:Nat):Int) from aS _ (by omega) (by omega)],fun j h _=>by rw[decide_eq_true (by omega)];rfl⟩ ?_
 rintro Y m s hm ⟨rfl,hI⟩ hY
 dsimp only
 refine bL (fun hjl=>?_) fun hjl=>hX _ hlt ⟨by rw[nw (by omega)],fun i h1 h2=>by
  rcases Nat.lt_or_ge i k with h4|h4
  ·exact hJ i h4 h2
  ·have:i=k:=by omega
   subst this
   rw[e]
   exact cG.2 fun j hj=>hI j (by rw[List.length_map] at hjl;omega) hj⟩
 rw[List.length_map] at hjl
 have hj:k+2+m<p.length:=by omega
 have hix:(IntKind.i64.wrap (((k+2+m:Nat):Int)+1)).tmod ((List.map aA.enc p).length:Int)=(((k+2+m+1) % p.length:Nat):Int):=by rw[List.length_map];exact iY (c:=1) hl (by omega) (by omega)
 have hw:IntKind.i64.wrap (((k+2+m:Nat):Int)+1)=((k+2+(m+1):Nat):Int):=by rw[aS _ (by omega) (by omega)];omega
 have hmod:(k+2+m+1) % p.length<p.length:=Nat.mod_lt _ (by omega)
 have go:qN p k (k+2+m)=true→Y (((k+2+(m+1):Nat):Int),()):=fun h=>hY _ (by omega) ⟨rfl,fun j h1 h2=>by
  rcases Nat.lt_or_ge j (k+2+m) with h3|h3
  ·exact hI j h3 h2
  ·have:j=k+2+m:=by omega
   subst this;rw[h];simp⟩
 refine ⟨hne,?_⟩
 rw[hix,hw]
 refine gP (fun h=>?_) fun h=>go (by unfold qN;rw[decide_eq_true (show (k+2+m+1) % p.length=k by omega)];rfl)
 rw[bW hj,AI6,bW hmod]
 refine ⟨hne,?_⟩
 refine aD (s:=[(false,.bool)]) (AG7 (hn.pt _) (hn.pt _) (hn.pt _) (hn.pt _)) ?_
 have e2:qN p k (k+2+m) = !bS (pt p k) (nx p k) (pt p (k+2+m)) (nx p (k+2+m)):=by
  unfold qN;rw[decide_eq_false (show ¬ (k+2+m+1) % p.length=k by omega)];rfl
 refine rS (fun hmt=>bad ?_) fun hmt=>go ?_
 ·rw[e]
  refine qX hj ?_
  show (decide (k+2+m<k+2)||qN p k (k+2+m))=false
  rw[e2,show bS (pt p k) (nx p k) (pt p (k+2+m)) (nx p (k+2+m))=true from hmt];simp
 ·rw[e2,show bS (pt p k) (nx p k) (pt p (k+2+m)) (nx p (k+2+m))=false from hmt];rfl
theorem TS {p:List Pt} (h:p.length≤1000) (h2:gR p):kO [T.sl false (List.map aA.enc p)]=some (Sh.enc [(false,.bool)] (qB p)):=(TR ..).trans (RX _ h h2)
noncomputable def NO:Env:=Env.of [(159,.pure oV),(160,.pure kO)]
def AEX:FuncId→Hint:=fun _=>aV
theorem AKN:aH Tryz.prog NO:=aH.cons (x:=.pure oV) AMO (aH.cons (x:=.pure kO) AGF (aH.nil _))
def OW (a0:List aJ) (R:T→Prop):Prop :=
 aB (decide ((↑(List.map aA.enc a0).length:Int)<3)) (R (T.v (.int .i64 3)))
 (aB (decide (32<(↑(List.map aA.enc a0).length:Int)))
 (R (T.v (.int .i64 4)))
 (aG [(false,Sy.bool)] (oV [T.sl false (List.map aA.enc a0)])
 fun (y0:Bool) =>
 aB (!y0) (R (T.v (.int .i64 9)))
 (aG [(false,Sy.bool)] (kO [T.sl false (List.map aA.enc a0)])
 fun (y1:Bool) =>
 aB (!y1) (R (T.v (.int .i64 17)))
 (R (T.v (.int .i64 0))))))
theorem ADP ( a0 R):bC aY Tryz.prog NO AEX 8 142 [aC false aA.li a0] R=OW a0 R:=by kernel_rfl
abbrev FX:Sh:=[(false,aA.li)]
def JZ (p:List aJ):Option T:=some (T.v (Value.int .i64 (dG p)))
noncomputable def fZ:List T→Option (T):=gS FX JZ
theorem AHD {a0}:fZ [T.sl false (List.map aA.enc a0)]=JZ (a0):=a8 (s:=FX) rfl (a0) rfl
theorem AVF (h:∀ a0 r,JZ (a0)=some r→b8 FX (a0)→OW a0 (fun y=>y=r)):aK Tryz.prog 142 fZ :=
 aR (E:=NO) (Hs:=AEX) AKN aW aX (aM rfl) 8 ⟨_,_,Tryz.func142,rfl⟩ rfl fun x r h1 h2=>by
  let a0:=x
  rw[show Sh.bN FX (a0)=[aC false aA.li a0] from rfl,ADP]
  exact h a0 r h1 h2
theorem IS:aK Tryz.prog 142 fZ:=AVF fun p r h hb=>by
 cases h
 have is:∀ {n:Int},dG p=n→T.v (.int .i64 n)=T.v (.int .i64 (dG p)):=fun h=>by rw[h]
 unfold OW
 refine bL (fun h=>is (by rw[List.length_map] at h;unfold dG;rw[if_pos (by omega)])) fun h1=>?_
 refine bL (fun h=>is (by rw[List.length_map] at h h1;unfold dG;rw[if_neg (by omega),if_pos (by omega)])) fun h2=>?_
 rw[List.length_map] at h1 h2
 refine aD (s:=[(false,.bool)]) (y:=BH p) (Z6 ..) ?_
 refine dM (fun h=>is (by unfold dG;rw[if_neg (by omega),if_neg (by omega),if_pos h])) fun hb=>?_
 have hN:=iS.1 hb
 have hnb:¬ BH p=false:=by rw[hb];simp
 refine aD (s:=[(false,.bool)]) (TS (by omega) hN) ?_
 rw[AV9 (by omega)]
 refine dM (fun h=>is (by unfold dG;rw[if_neg (by omega),if_neg (by omega),if_neg hnb,if_pos (.inl h)])) fun hs=>is ?_
 have hs:oJ p=true:=hs
 unfold dG
 rw[if_neg (by omega),if_neg (by omega),if_neg hnb,if_neg]
 rintro (h|h)
 ·rw[hs] at h;cases h
 ·exact AWA hs (by omega) hN h
theorem q9 (p:List Pt):fZ [T.sl false (List.map aA.enc p)]=some (Sh.enc [(false,.int .i64)] (dG p)):=AHD ..
noncomputable def MY:Env:=Env.of [(142,.pure fZ)]
def AD9:FuncId→Hint:=fun f=>match f == 143 with|true=>⟨fun r=>match r == 5 with|true=>.inv [.val 3 false (.int .i64),.val 4 false (.int .i64)]|false=>.none,fun _ _=>none,fun _=>none⟩|false=>aV
theorem AJZ:aH Tryz.prog MY:=aH.cons (x:=.pure fZ) IS (aH.nil _)
def N7 (a0:List aJ) (R:T→Prop):Prop :=
 aG [(false,Sy.int IntKind.i64)] (fZ [T.sl false (List.map aA.enc a0)])
 fun (y0:Int) =>
 aB (!decide (y0=0)) (R (T.v (.int .i64 0)))
 (bA (Int×Int×PUnit)
 (fun (X1:Int×Int×PUnit→Prop) (s2:Int×Int×PUnit) =>
 aB (decide (s2.2.1<(↑(List.map aA.enc a0).length:Int)))
 (aO aA (List.map aA.enc a0) s2.2.1 fun (y3:aJ) =>
 bP (!decide ((↑(List.map aA.enc a0).length:Int)=0))
 (aO aA (List.map aA.enc a0)
 ((IntKind.i64.wrap (s2.2.1+1)).tmod (↑(List.map aA.enc a0).length:Int))
 fun (y4:aJ) =>
 X1
 (IntKind.i64.wrap
 (IntKind.i64.wrap (s2.1+IntKind.i64.wrap (y3.1*y4.2)) -
 IntKind.i64.wrap (y3.2*y4.1)),
 IntKind.i64.wrap (s2.2.1+1),())))
 (R (T.v (.int .i64 s2.1))))
 (0,0,()))
theorem AC1 ( a0 R):bC aY Tryz.prog MY AD9 8 143 [aC false aA.li a0] R=N7 a0 R:=by kernel_rfl
abbrev FD:Sh:=[(false,aA.li)]
def JJ (p:List aJ):Option T:=some (T.v (Value.int .i64 (gJ p)))
noncomputable def jE:List T→Option (T):=gS FD JJ
theorem AGL {a0}:jE [T.sl false (List.map aA.enc a0)]=JJ (a0):=a8 (s:=FD) rfl (a0) rfl
theorem AUR (h:∀ a0 r,JJ (a0)=some r→b8 FD (a0)→N7 a0 (fun y=>y=r)):aK Tryz.prog 143 jE :=
 aR (E:=MY) (Hs:=AD9) AJZ aW aX (aM rfl) 8 ⟨_,_,Tryz.func143,rfl⟩ rfl fun x r h1 h2=>by
  let a0:=x
  rw[show Sh.bN FD (a0)=[aC false aA.li a0] from rfl,AC1]
  exact h a0 r h1 h2
theorem U8:aK Tryz.prog 143 jE:=AUR fun p r h hb=>by
 cases h
 unfold N7
 refine aD (s:=[(false,.int .i64)]) (q9 p) ?_
 refine gP (fun h=>rT (by unfold gJ;rw[if_neg h])) fun h=>?_
 obtain ⟨_,h2,hn,_⟩:=dY h
 have e0:gJ p=eZ p:=by unfold gJ;rw[if_pos h]
 refine aZ p.length (fun k s=>s=(cN k (CZ p),(k:Int),())) rfl ?_
 rintro X k s hk rfl hX
 dsimp only
 refine bL (fun hlt=>?_) fun hge=>rT (by rw[List.length_map] at hge;rw[e0,show k=p.length by omega];rfl)
 rw[List.length_map] at hlt
 have hlt:k<p.length:=by omega
 have hne:(!decide (((List.map aA.enc p).length:Int)=0))=true:=by rw[List.length_map,decide_eq_false (by omega)];rfl
 have hm1:(k+1) % p.length<p.length:=Nat.mod_lt _ (by omega)
 have i1:(IntKind.i64.wrap ((k:Int)+1)).tmod ((List.map aA.enc p).length:Int)=(((k+1) % p.length:Nat):Int):=by rw[List.length_map];exact iY (c:=1) (by omega) (by omega) (by omega)
 rw[bW hlt,i1]
 refine ⟨hne,?_⟩
 rw[bW hm1]
 have hb1:=ABN hn k
 have hb2:=yS hn k
 have hb3:=yS hn (k+1)
 refine hX _ hlt ?_
 rw[show IntKind.i64.wrap ((k:Int)+1)=((k+1:Nat):Int) from aS _ (by omega) (by omega)]
 have e:IntKind.i64.wrap (IntKind.i64.wrap (cN k (CZ p)+IntKind.i64.wrap ((pt p k).1*(nx p k).2))-IntKind.i64.wrap ((pt p k).2*(nx p k).1))=cN (k+1) (CZ p):=by
  rw[Int.mul_comm (pt p k).2,aS ((pt p k).1*(nx p k).2) (by omega) (by omega),aS ((nx p k).1*(pt p k).2) (by omega) (by omega),aS (cN k (CZ p)+(pt p k).1*(nx p k).2) (by omega) (by omega),aS _ (by omega) (by omega)]
  show _=cN k (CZ p)+CZ p k
  unfold CZ
  omega
 rw[←e];rfl
theorem xE (p:List Pt):jE [T.sl false (List.map aA.enc p)]=some (Sh.enc [(false,.int .i64)] (gJ p)):=AGL ..
noncomputable def HD:Env:=Env.of [(142,.pure fZ),(162,.pure jV),(163,.pure jG),(164,.pure dL)]
def UU:FuncId→Hint:=fun f=>match f == 145 with|true=>⟨fun r=>match r == 5 with|true=>.inv [.val 5 false .bool,.val 6 false (.int .i64)]|false=>.none,fun _ _=>none,fun _=>none⟩|false=>aV
theorem AC0:aH Tryz.prog HD:=aH.cons (x:=.pure fZ) IS (aH.cons (x:=.pure jV) QP (aH.cons (x:=.pure jG) ZU (aH.cons (x:=.pure dL) IT (aH.nil _))))
def H8 (a0:List aJ) (a1:aJ) (R:T→Prop):Prop :=
 aG [(false,Sy.int IntKind.i64)] (fZ [T.sl false (List.map aA.enc a0)])
 fun (y0:Int) =>
 aB (!decide (y0=0)) (R (T.v (.int .i64 (-1))))
 (aG [(false,Sy.bool)] (jV [aC true aA a1]) fun (y1:Bool) =>
 aB (!y1) (R (T.v (.int .i64 (-1))))
 (bA (Bool×Int×PUnit)
 (fun (X2:Bool×Int×PUnit→Prop) (s3:Bool×Int×PUnit) =>
 aB (decide (s3.2.1<(↑(List.map aA.enc a0).length:Int)))
 (aO aA (List.map aA.enc a0) s3.2.1 fun (y4:aJ) =>
 bP (!decide ((↑(List.map aA.enc a0).length:Int)=0))
 (aO aA (List.map aA.enc a0)
 ((IntKind.i64.wrap (s3.2.1+1)).tmod (↑(List.map aA.enc a0).length:Int))
 fun (y5:aJ) =>
 aG [(false,Sy.bool)]
 (jG
 [aC true aA a1,aC true aA y4,
 aC true aA y5])
 fun (y6:Bool) =>
 aB y6 (R (T.v (.int .i64 0)))
 (aB (decide (y4.2≤a1.2))
 (aB (decide (a1.2<y5.2))
 (aG [(false,Sy.int IntKind.i64)]
 (dL
 [aC true aA y4,aC true aA y5,
 aC true aA a1])
 fun (y7:Int) =>
 aB (decide (y5.2≤a1.2))
 (aB (decide (a1.2<y4.2))
 (aG [(false,Sy.int IntKind.i64)]
 (dL
 [aC true aA y4,aC true aA y5,
 aC true aA a1])
 fun (y8:Int) =>
 aB (decide (0<y7))
 (X2 (!s3.1,IntKind.i64.wrap (s3.2.1+1),()))
 (aB (decide (y8<0))
 (X2 (!s3.1,IntKind.i64.wrap (s3.2.1+1),()))
 (X2 (s3.1,IntKind.i64.wrap (s3.2.1+1),()))))
 (aB (decide (0<y7)) (X2 (!s3.1,IntKind.i64.wrap (s3.2.1+1),()))
 (X2 (s3.1,IntKind.i64.wrap (s3.2.1+1),()))))
 (aB (decide (0<y7)) (X2 (!s3.1,IntKind.i64.wrap (s3.2.1+1),()))
 (X2 (s3.1,IntKind.i64.wrap (s3.2.1+1),()))))
 (aB (decide (y5.2≤a1.2))
 (aB (decide (a1.2<y4.2))
 (aG [(false,Sy.int IntKind.i64)]
 (dL
 [aC true aA y4,aC true aA y5,
 aC true aA a1])
 fun (y9:Int) =>
 aB (decide (y9<0)) (X2 (!s3.1,IntKind.i64.wrap (s3.2.1+1),()))
 (X2 (s3.1,IntKind.i64.wrap (s3.2.1+1),())))
 (X2 (s3.1,IntKind.i64.wrap (s3.2.1+1),())))
 (X2 (s3.1,IntKind.i64.wrap (s3.2.1+1),()))))
 (aB (decide (y5.2≤a1.2))
 (aB (decide (a1.2<y4.2))
 (aG [(false,Sy.int IntKind.i64)]
 (dL
 [aC true aA y4,aC true aA y5,
 aC true aA a1])
 fun (y10:Int) =>
 aB (decide (y10<0)) (X2 (!s3.1,IntKind.i64.wrap (s3.2.1+1),()))
 (X2 (s3.1,IntKind.i64.wrap (s3.2.1+1),())))
 (X2 (s3.1,IntKind.i64.wrap (s3.2.1+1),())))
 (X2 (s3.1,IntKind.i64.wrap (s3.2.1+1),()))))))
 (aB s3.1 (R (T.v (.int .i64 1)))
 (R (T.v (.int .i64 (-1))))))
 (false,0,())))
theorem Y7 ( a0 a1 R):bC aY Tryz.prog HD UU 8 145 [aC false aA.li a0,aC true aA a1] R=H8 a0 a1 R:=by kernel_rfl
abbrev AQ:Sh:=[(false,aA.li),(true,aA)]
def DL (x:List aJ×aJ):Option T:=some (T.v (Value.int .i64 (cO x.1 x.2)))
noncomputable def jW:List T→Option (T):=gS AQ DL
theorem AAR {a0 a1}:jW [T.sl false (List.map aA.enc a0),aC true aA a1]=DL (a0,a1):=a8 (s:=AQ) rfl (a0,a1) rfl
theorem AOT (h:∀ a0 a1 r,DL (a0,a1)=some r→b8 AQ (a0,a1)→H8 a0 a1 (fun y=>y=r)):aK Tryz.prog 145 jW :=
 aR (E:=HD) (Hs:=UU) AC0 aW aX (aM rfl) 8 ⟨_,_,Tryz.func145,rfl⟩ rfl fun x r h1 h2=>by
  obtain ⟨a0,a1⟩:=x
  rw[show Sh.bN AQ (a0,a1)=[aC false aA.li a0,aC true aA a1] from rfl,Y7]
  exact h a0 a1 r h1 h2
theorem AM3:aK Tryz.prog 145 jW:=AOT fun p q r h hb=>by
 cases h
 have is:∀ {n:Int},cO p q=n→T.v (.int .i64 n)=T.v (.int .i64 (cO p q)):=fun h=>by rw[h]
 unfold H8
 refine aD (s:=[(false,.int .i64)]) (q9 p) ?_
 refine gP (fun h=>is (by unfold cO;rw[if_pos (.inr h)])) fun hp=>?_
 refine aD (s:=[(false,.bool)]) (y:=decide (bX q)) (EG ..) ?_
 refine gP (fun h=>is (by unfold cO;rw[if_pos (.inl h)])) fun hq=>?_
 obtain ⟨hl3,hl32,hn,_⟩:=dY hp
 have w:cO p q=if EZ p q=true then 0 else if fM p q=true then 1 else -1:=by
  unfold cO;rw[if_neg];rintro (h|h)
  ·exact h hq
  ·exact h hp
 refine aZ p.length (fun k s=>s=(fI k (fun i=>hit (pt p i) (nx p i) q),(k:Int),())∧∀ i,i<k→i<p.length→iZ (pt p i) (nx p i) q=false) ⟨rfl,fun i h=>by omega⟩ ?_
 rintro X k s hk ⟨rfl,hJ⟩ hX
 dsimp only
 refine bL (fun hlt=>?_) fun hge=>?_
 ·rw[List.length_map] at hlt
  have hlt:k<p.length:=by omega
  have hne:(!decide (((List.map aA.enc p).length:Int)=0))=true:=by rw[List.length_map,decide_eq_false (by omega)];rfl
  have hm1:(k+1) % p.length<p.length:=Nat.mod_lt _ (by omega)
  have i1:(IntKind.i64.wrap ((k:Int)+1)).tmod ((List.map aA.enc p).length:Int)=(((k+1) % p.length:Nat):Int):=by rw[List.length_map];exact iY (c:=1) (by omega) (by omega) (by omega)
  rw[bW hlt,i1]
  refine ⟨hne,?_⟩
  rw[bW hm1]
  refine aD (s:=[(false,.bool)]) (mO (hn.pt _) (hn.pt _) hq) ?_
  refine rS (fun h=>is (by rw[w,if_pos (show EZ p q=true from eK.2 ⟨k,hlt,h⟩)])) fun ho=>?_
  have hw:IntKind.i64.wrap ((k:Int)+1)=((k+1:Nat):Int):=aS _ (by omega) (by omega)
  have hJ':∀ i,i<k+1→i<p.length→iZ (pt p i) (nx p i) q=false:=fun i h1 h2=>by
   rcases Nat.lt_or_ge i k with h3|h3
   ·exact hJ i h3 h2
   ·have:i=k:=by omega
    subst this;exact ho
  have yes:hit (pt p k) (nx p k) q=true→X (!(fI k fun i=>hit (pt p i) (nx p i) q),IntKind.i64.wrap ((k:Int)+1),()):=fun hc=>hX _ hlt ⟨by rw[hw,fI,hc,Bool.xor_true],hJ'⟩
  have no:hit (pt p k) (nx p k) q=false→X ((fI k fun i=>hit (pt p i) (nx p i) q),IntKind.i64.wrap ((k:Int)+1),()):=fun hc=>hX _ hlt ⟨by rw[hw,fI,hc,Bool.xor_false],hJ'⟩
  have hit_def:hit (pt p k) (nx p k) q=((decide ((pt p k).2≤q.2)&&decide (q.2<(nx p k).2)&&decide (0<aI (pt p k) (nx p k) q))||(decide ((nx p k).2≤q.2)&&decide (q.2<(pt p k).2)&&decide (aI (pt p k) (nx p k) q<0))):=rfl
  have tn:dL [aC true aA (pt p k),aC true aA (nx p k),aC true aA q]=some (Sh.enc [(false,.int .i64)] (aI (pt p k) (nx p k) q)):=lA (hn.pt k) (hn.pt ((k+1) % p.length)) hq
  rw[show pt p ((k+1) % p.length)=nx p k from rfl]
  rw[hit_def] at yes no
  generalize nx p k=b at yes no tn ⊢
  generalize aI (pt p k) b q=C at yes no tn
  clear hJ' hX hJ is w
  repeat' first
   | (refine bL (fun h=>?_) (fun h=>?_))
   | (refine aD (s:=[(false,.int .i64)]) tn ?_)
  all_goals first
   | (refine yes ?_;simp only[Bool.or_eq_true,Bool.and_eq_true,decide_eq_true_eq];omega)
   | (refine no ?_;rw[Bool.eq_false_iff];intro hc;simp only[Bool.or_eq_true,Bool.and_eq_true,decide_eq_true_eq] at hc;omega)
 ·rw[List.length_map] at hge
  have:k=p.length:=by omega
  subst this
  have hna:EZ p q=false:=CC fun i hi=>hJ i hi hi
  refine rS (fun h=>is ?_) fun h=>is ?_
  ·rw[w,hna,if_neg (by simp),if_pos (show fM p q=true from h)]
  ·rw[w,hna,if_neg (by simp),if_neg (by rw[show fM p q=false from h];simp)]
theorem u7 (p:List Pt) (q:Pt):jW [T.sl false (List.map aA.enc p),aC true aA q]=some (Sh.enc [(false,.int .i64)] (cO p q)):=AAR ..
end Go.Pv
namespace Go.Pv
open Go Go.Proofs
noncomputable def N5:Env:=Env.of []
def AFE:FuncId→Hint:=fun _=>aV
theorem AK4:aH Tryz.prog N5:=aH.nil _
def PD (a0:aJ) (a1:aJ) (a2:aJ) (R:T→Prop):Prop :=
 aB
 (decide
 (0 <
 IntKind.i64.wrap
 (IntKind.i64.wrap (IntKind.i64.wrap (a1.1-a0.1)*IntKind.i64.wrap (a2.2-a0.2)) -
 IntKind.i64.wrap (IntKind.i64.wrap (a1.2-a0.2)*IntKind.i64.wrap (a2.1-a0.1)))))
 (R (T.v (.int .i64 1)))
 (aB
 (decide
 (IntKind.i64.wrap
 (IntKind.i64.wrap (IntKind.i64.wrap (a1.1-a0.1)*IntKind.i64.wrap (a2.2-a0.2)) -
 IntKind.i64.wrap (IntKind.i64.wrap (a1.2-a0.2)*IntKind.i64.wrap (a2.1-a0.1))) <
 0))
 (R (T.v (.int .i64 (-1)))) (R (T.v (.int .i64 0))))
theorem AD6 ( a0 a1 a2 R):bC aY Tryz.prog N5 AFE 8 179 [aC true aA a0,aC true aA a1,aC true aA a2] R=PD a0 a1 a2 R:=by kernel_rfl
abbrev GC:Sh:=[(true,aA),(true,aA),(true,aA)]
def KF (x:aJ×aJ×aJ):Option T:=xW x.1 x.2.1 x.2.2 (T.v (Value.int .i64 (r4 (aI x.1 x.2.1 x.2.2))))
noncomputable def gW:List T→Option (T):=gS GC KF
theorem AH3 {a0 a1 a2}:gW [aC true aA a0,aC true aA a1,aC true aA a2]=KF (a0,a1,a2):=a8 (s:=GC) rfl (a0,a1,a2) rfl
theorem AVW (h:∀ a0 a1 a2 r,KF (a0,a1,a2)=some r→b8 GC (a0,a1,a2)→PD a0 a1 a2 (fun y=>y=r)):aK Tryz.prog 179 gW :=
 aR (E:=N5) (Hs:=AFE) AK4 aW aX (aM rfl) 8 ⟨_,_,Tryz.func179,rfl⟩ rfl fun x r h1 h2=>by
  obtain ⟨a0,a1,a2⟩:=x
  rw[show Sh.bN GC (a0,a1,a2)=[aC true aA a0,aC true aA a1,aC true aA a2] from rfl,AD6]
  exact h a0 a1 a2 r h1 h2
theorem VI:aK Tryz.prog 179 gW:=AVW fun a b c r h hb=>by
 obtain ⟨h1,h2,h3,rfl⟩:=pX h
 unfold PD
 rw[wG h1 h2 h3]
 unfold r4
 exact bL (fun h=>rT (by rw[if_neg (by omega),if_pos h])) fun h=>bL (fun h2=>rT (by rw[if_pos h2])) fun h2=>rT (by rw[if_neg h2,if_neg h])
theorem nN {a b c:Pt} (h1:bX a) (h2:bX b) (h3:bX c):gW [aC true aA a,aC true aA b,aC true aA c]=some (Sh.enc [(false,.int .i64)] (r4 (aI a b c))):=(AH3 ..).trans (pY _ h1 h2 h3)
noncomputable def AJW:Env:=Env.of [(179,.pure gW)]
def AX0:FuncId→Hint:=fun _=>aV
theorem AW4:aH Tryz.prog AJW:=aH.cons (x:=.pure gW) VI (aH.nil _)
def ALI (a0:aJ) (a1:aJ) (a2:aJ) (R:T→Prop):Prop :=
 aG [(false,Sy.int IntKind.i64)]
 (gW [aC true aA a0,aC true aA a1,aC true aA a2])
 fun (y0:Int) =>
 aB (decide (y0=0))
 (aB (decide ((if a1.1<a0.1 then a1.1 else a0.1)≤a2.1))
 (aB (decide (a2.1≤if a0.1<a1.1 then a1.1 else a0.1))
 (aB (decide ((if a1.2<a0.2 then a1.2 else a0.2)≤a2.2))
 (R (T.v (.bool (decide (a2.2≤if a0.2<a1.2 then a1.2 else a0.2)))))
 (R (T.v (.bool false))))
 (R (T.v (.bool false))))
 (R (T.v (.bool false))))
 (R (T.v (.bool false)))
theorem ASC ( a0 a1 a2 R):bC aY Tryz.prog AJW AX0 8 178 [aC true aA a0,aC true aA a1,aC true aA a2] R=ALI a0 a1 a2 R:=by kernel_rfl
abbrev ABJ:Sh:=[(true,aA),(true,aA),(true,aA)]
def ABS (x:aJ×aJ×aJ):Option T:=xW x.1 x.2.1 x.2.2 (T.v (.bool (iZ x.1 x.2.1 x.2.2)))
noncomputable def rR:List T→Option (T):=gS ABJ ABS
theorem AT7 {a0 a1 a2}:rR [aC true aA a0,aC true aA a1,aC true aA a2]=ABS (a0,a1,a2):=a8 (s:=ABJ) rfl (a0,a1,a2) rfl
theorem A4K (h:∀ a0 a1 a2 r,ABS (a0,a1,a2)=some r→b8 ABJ (a0,a1,a2)→ALI a0 a1 a2 (fun y=>y=r)):aK Tryz.prog 178 rR :=
 aR (E:=AJW) (Hs:=AX0) AW4 aW aX (aM rfl) 8 ⟨_,_,Tryz.func178,rfl⟩ rfl fun x r h1 h2=>by
  obtain ⟨a0,a1,a2⟩:=x
  rw[show Sh.bN ABJ (a0,a1,a2)=[aC true aA a0,aC true aA a1,aC true aA a2] from rfl,ASC]
  exact h a0 a1 a2 r h1 h2
theorem A3N:aK Tryz.prog 178 rR:=A4K fun a b c r h hb=>by
 obtain ⟨h1,h2,h3,rfl⟩:=pX h
 unfold ALI
 refine aD (s:=[(false,.int .i64)]) (nN h1 h2 h3) ?_
 refine bL (fun h=>?_) fun h=>cM (by unfold iZ;rw[decide_eq_false (fun e=>h (SG.2 e))];rfl)
 have h:=SG.1 h
 rw[xV,xV,xS,xS]
 have w:iZ a b c=L0 a b c:=by unfold iZ;rw[decide_eq_true h];rfl
 show aB _ _ _
 rw[show (iZ (a,b,c).1 (a,b,c).2.1 (a,b,c).2.2)=L0 a b c from w]
 clear h w
 refine bL (fun h1=>bL (fun h2=>bL (fun h3=>cM ?_) fun h3=>cM ?_) fun h2=>cM ?_) fun h1=>cM ?_
 all_goals simp[L0,h1]
 all_goals simp[h2]
 all_goals simp[h3]
theorem zD {a b c:Pt} (h1:bX a) (h2:bX b) (h3:bX c):rR [aC true aA a,aC true aA b,aC true aA c]=some (Sh.enc [(false,.bool)] (iZ a b c)):=(AT7 ..).trans (pY _ h1 h2 h3)
noncomputable def NH:Env:=Env.of [(179,.pure gW),(178,.pure rR)]
def AEQ:FuncId→Hint:=fun _=>aV
theorem AKG:aH Tryz.prog NH:=aH.cons (x:=.pure gW) VI (aH.cons (x:=.pure rR) A3N (aH.nil _))
def OO (a0:aJ) (a1:aJ) (a2:aJ) (a3:aJ) (R:T→Prop):Prop :=
 aG [(false,Sy.bool)]
 (rR [aC true aA a0,aC true aA a1,aC true aA a2])
 fun (y0:Bool) =>
 aB y0 (R (T.v (.bool true)))
 (aG [(false,Sy.bool)]
 (rR [aC true aA a0,aC true aA a1,aC true aA a3])
 fun (y1:Bool) =>
 aB y1 (R (T.v (.bool true)))
 (aG [(false,Sy.bool)]
 (rR
 [aC true aA a2,aC true aA a3,aC true aA a0])
 fun (y2:Bool) =>
 aB y2 (R (T.v (.bool true)))
 (aG [(false,Sy.bool)]
 (rR
 [aC true aA a2,aC true aA a3,aC true aA a1])
 fun (y3:Bool) =>
 aB y3 (R (T.v (.bool true)))
 (aG [(false,Sy.int IntKind.i64)]
 (gW
 [aC true aA a0,aC true aA a1,aC true aA a2])
 fun (y4:Int) =>
 aG [(false,Sy.int IntKind.i64)]
 (gW
 [aC true aA a0,aC true aA a1,
 aC true aA a3])
 fun (y5:Int) =>
 aB (decide (IntKind.i64.wrap (y4*y5)<0))
 (aG [(false,Sy.int IntKind.i64)]
 (gW
 [aC true aA a2,aC true aA a3,
 aC true aA a0])
 fun (y6:Int) =>
 aG [(false,Sy.int IntKind.i64)]
 (gW
 [aC true aA a2,aC true aA a3,
 aC true aA a1])
 fun (y7:Int)=>R (T.v (.bool (decide (IntKind.i64.wrap (y6*y7)<0)))))
 (R (T.v (.bool false)))))))
theorem ADI ( a0 a1 a2 a3 R):bC aY Tryz.prog NH AEQ 8 161 [aC true aA a0,aC true aA a1,aC true aA a2,
 aC true aA a3] R=OO a0 a1 a2 a3 R:=by kernel_rfl
abbrev FP:Sh:=[(true,aA),(true,aA),(true,aA),(true,aA)]
def JV (x:aJ×aJ×aJ×aJ):Option T:=LD x.1 x.2.1 x.2.2.1 x.2.2.2 (T.v (.bool (bS x.1 x.2.1 x.2.2.1 x.2.2.2)))
noncomputable def pS:List T→Option (T):=gS FP JV
theorem AG8 {a0 a1 a2 a3}:pS [aC true aA a0,aC true aA a1,aC true aA a2,
 aC true aA a3]=JV (a0,a1,a2,a3):=a8 (s:=FP) rfl (a0,a1,a2,a3) rfl
theorem AU8 (h:∀ a0 a1 a2 a3 r,JV (a0,a1,a2,a3)=some r→b8 FP (a0,a1,a2,a3)→OO a0 a1 a2 a3 (fun y=>y=r)):aK Tryz.prog 161 pS :=
 aR (E:=NH) (Hs:=AEQ) AKG aW aX (aM rfl) 8 ⟨_,_,Tryz.func161,rfl⟩ rfl fun x r h1 h2=>by
  obtain ⟨a0,a1,a2,a3⟩:=x
  rw[show Sh.bN FP (a0,a1,a2,a3)=[aC true aA a0,aC true aA a1,aC true aA a2,
 aC true aA a3] from rfl,ADI]
  exact h a0 a1 a2 a3 r h1 h2
theorem ATN:aK Tryz.prog 161 pS:=AU8 fun a b c d r h hb=>by
 obtain ⟨h1,h2,h3,h4,rfl⟩:=EW h
 unfold OO
 refine aD (s:=[(false,.bool)]) (zD h1 h2 h3) ?_
 refine rS (fun h=>cM (by unfold bS;rw[h];rfl)) fun k1=>?_
 refine aD (s:=[(false,.bool)]) (zD h1 h2 h4) ?_
 refine rS (fun h=>cM (by unfold bS;rw[h,k1];rfl)) fun k2=>?_
 refine aD (s:=[(false,.bool)]) (zD h3 h4 h1) ?_
 refine rS (fun h=>cM (by unfold bS;rw[h,k1,k2];rfl)) fun k3=>?_
 refine aD (s:=[(false,.bool)]) (zD h3 h4 h2) ?_
 refine rS (fun h=>cM (by unfold bS;rw[h,k1,k2,k3];rfl)) fun k4=>?_
 refine aD (s:=[(false,.int .i64)]) (nN h1 h2 h3) ?_
 refine aD (s:=[(false,.int .i64)]) (nN h1 h2 h4) ?_
 rw[n8]
 refine bL (fun h=>?_) fun h=>cM (by unfold bS;rw[k1,k2,k3,k4,decide_eq_false h];rfl)
 refine aD (s:=[(false,.int .i64)]) (nN h3 h4 h1) ?_
 refine aD (s:=[(false,.int .i64)]) (nN h3 h4 h2) ?_
 rw[n8]
 exact cM (by unfold bS;rw[k1,k2,k3,k4,decide_eq_true h];rfl)
theorem AG9 {a b c d:Pt} (h1:bX a) (h2:bX b) (h3:bX c) (h4:bX d):pS [aC true aA a,aC true aA b,aC true aA c,aC true aA d]=some (Sh.enc [(false,.bool)] (bS a b c d)):=(AG8 ..).trans (EX _ h1 h2 h3 h4)
noncomputable def GN:Env:=Env.of [(161,.pure pS)]
def T5:FuncId→Hint:=fun f=>match f == 144 with|true=>⟨fun r=>match r == 2 with|true=>.inv [.val 5 false (.int .i64)]|false=>match r == 5 with|true=>.inv [.val 6 false (.int .i64)]|false=>.none,fun _ _=>none,fun _=>none⟩|false=>aV
theorem ACA:aH Tryz.prog GN:=aH.cons (x:=.pure pS) ATN (aH.nil _)
def HH (a0:List aJ) (a1:List aJ) (R:T→Prop):Prop :=
 bA (Int×PUnit)
 (fun (X0:Int×PUnit→Prop) (s1:Int×PUnit) =>
 aB (decide (s1.1<(↑(List.map aA.enc a0).length:Int)))
 (bA (Int×PUnit)
 (fun (X2:Int×PUnit→Prop) (s3:Int×PUnit) =>
 aB (decide (s3.1<(↑(List.map aA.enc a1).length:Int)))
 (aO aA (List.map aA.enc a0) s1.1 fun (y4:aJ) =>
 bP (!decide ((↑(List.map aA.enc a0).length:Int)=0))
 (aO aA (List.map aA.enc a0)
 ((IntKind.i64.wrap (s1.1+1)).tmod (↑(List.map aA.enc a0).length:Int))
 fun (y5:aJ) =>
 aO aA (List.map aA.enc a1) s3.1 fun (y6:aJ) =>
 bP (!decide ((↑(List.map aA.enc a1).length:Int)=0))
 (aO aA (List.map aA.enc a1)
 ((IntKind.i64.wrap (s3.1+1)).tmod (↑(List.map aA.enc a1).length:Int))
 fun (y7:aJ) =>
 aG [(false,Sy.bool)]
 (pS
 [aC true aA y4,aC true aA y5,
 aC true aA y6,aC true aA y7])
 fun (y8:Bool) =>
 aB y8 (R (T.v (.bool true)))
 (X2 (IntKind.i64.wrap (s3.1+1),())))))
 (X0 (IntKind.i64.wrap (s1.1+1),())))
 (0,()))
 (R (T.v (.bool false))))
 (0,())
theorem XW ( a0 a1 R):bC aY Tryz.prog GN T5 8 144 [aC false aA.li a0,aC false aA.li a1] R=HH a0 a1 R:=by kernel_rfl
abbrev zU:Sh:=[(false,aA.li),(false,aA.li)]
def C2 (x:List aJ×List aJ):Option T:=LI x.1 x.2 (T.v (.bool (eL x.1 x.2)))
noncomputable def kY:List T→Option (T):=gS zU C2
theorem Z0 {a0 a1}:kY [T.sl false (List.map aA.enc a0),T.sl false (List.map aA.enc a1)]=C2 (a0,a1):=a8 (s:=zU) rfl (a0,a1) rfl
theorem AN4 (h:∀ a0 a1 r,C2 (a0,a1)=some r→b8 zU (a0,a1)→HH a0 a1 (fun y=>y=r)):aK Tryz.prog 144 kY :=
 aR (E:=GN) (Hs:=T5) ACA aW aX (aM rfl) 8 ⟨_,_,Tryz.func144,rfl⟩ rfl fun x r h1 h2=>by
  obtain ⟨a0,a1⟩:=x
  rw[show Sh.bN zU (a0,a1)=[aC false aA.li a0,aC false aA.li a1] from rfl,XW]
  exact h a0 a1 r h1 h2
theorem AMK:aK Tryz.prog 144 kY:=AN4 fun p q r h hb=>by
 obtain ⟨hl,hn,hl2,hn2,rfl⟩:=E1 h
 replace hl:p.length≤1000:=hl
 replace hl2:q.length≤1000:=hl2
 clear h
 have nw:∀ {k:Nat},k≤3000→IntKind.i64.wrap ((k:Int)+1)=((k+1:Nat):Int):=fun h=>aS _ (by omega) (by omega)
 unfold HH
 refine aZ p.length (fun k s=>s=((k:Int),())∧∀ i,i<k→i<p.length→((List.range q.length).any fun k=>bS (pt p i) (nx p i) (pt q k) (nx q k))=false) ⟨rfl,fun i h=>by omega⟩ ?_
 rintro X k s hk ⟨rfl,hJ⟩ hX
 dsimp only
 refine bL (fun hlt=>?_) fun hge=>cM (Eq.symm (CC fun i hi=>hJ i (by rw[List.length_map] at hge;omega) hi))
 rw[List.length_map] at hlt
 have hlt:k<p.length:=by omega
 have hne:(!decide (((List.map aA.enc p).length:Int)=0))=true:=by rw[List.length_map,decide_eq_false (by omega)];rfl
 have hm1:(k+1) % p.length<p.length:=Nat.mod_lt _ (by omega)
 have i1:(IntKind.i64.wrap ((k:Int)+1)).tmod ((List.map aA.enc p).length:Int)=(((k+1) % p.length:Nat):Int):=by rw[List.length_map];exact iY (c:=1) hl (by omega) (by omega)
 refine aZ q.length (fun j s=>s=((j:Int),())∧∀ i,i<j→i<q.length→bS (pt p k) (nx p k) (pt q i) (nx q i)=false) ⟨rfl,fun i h=>by omega⟩ ?_
 rintro Y j s hj ⟨rfl,hI⟩ hY
 dsimp only
 refine bL (fun hlj=>?_) fun hgj=>hX _ hlt ⟨by rw[nw (by omega)],fun i h1 h2=>by
  rcases Nat.lt_or_ge i k with h3|h3
  ·exact hJ i h3 h2
  ·have:i=k:=by omega
   subst this;exact CC fun m hm=>hI m (by rw[List.length_map] at hgj;omega) hm⟩
 rw[List.length_map] at hlj
 have hlj:j<q.length:=by omega
 have hne2:(!decide (((List.map aA.enc q).length:Int)=0))=true:=by rw[List.length_map,decide_eq_false (by omega)];rfl
 have hm2:(j+1) % q.length<q.length:=Nat.mod_lt _ (by omega)
 have i2:(IntKind.i64.wrap ((j:Int)+1)).tmod ((List.map aA.enc q).length:Int)=(((j+1) % q.length:Nat):Int):=by rw[List.length_map];exact iY (c:=1) hl2 (by omega) (by omega)
 rw[bW hlt,i1]
 refine ⟨hne,?_⟩
 rw[bW hm1,bW hlj,i2]
 refine ⟨hne2,?_⟩
 rw[bW hm2]
 refine aD (s:=[(false,.bool)]) (AG9 (hn.pt _) (hn.pt _) (hn2.pt _) (hn2.pt _)) ?_
 refine rS (fun h=>cM (Eq.symm (eK.2 ⟨k,hlt,eK.2 ⟨j,hlj,h⟩⟩))) fun h=>hY _ hlj ⟨by rw[nw (by omega)],fun i h1 h2=>by
  rcases Nat.lt_or_ge i j with h3|h3
  ·exact hI i h3 h2
  ·have:i=j:=by omega
   subst this;exact h⟩
theorem EE {p q:List Pt} (h:p.length≤1000) (h2:gR p) (h3:q.length≤1000) (h4:gR q):kY [T.sl false (List.map aA.enc p),T.sl false (List.map aA.enc q)]=some (Sh.enc [(false,.bool)] (eL p q)):=(Z0 ..).trans (E2 _ h h2 h3 h4)
noncomputable def NX:Env:=Env.of [(142,.pure fZ),(143,.pure jE),(144,.pure kY),(145,.pure jW)]
def AE6:FuncId→Hint:=fun f=>match f == 118 with|true=>⟨fun r=>match r == 9 with|true=>.inv [.val 4 false (.int .i64)]|false=>match r == 18 with|true=>.inv [.val 7 false (.int .i64)]|false=>.none,fun _ _=>none,fun _=>none⟩|false=>aV
theorem AKW:aH Tryz.prog NX:=aH.cons (x:=.pure fZ) IS (aH.cons (x:=.pure jE) U8 (aH.cons (x:=.pure kY) AMK (aH.cons (x:=.pure jW) AM3 (aH.nil _))))
def O5 (a0:eQ) (R:T→Prop):Prop :=
 aB (decide (8<(↑(List.map aA.li.enc a0.2).length:Int)))
 (R (T.v (.int .i64 12)))
 (aG [(false,Sy.int IntKind.i64)]
 (fZ [T.sl false (List.map aA.enc a0.1)]) fun (y0:Int) =>
 aB (!decide (y0=0)) (R (T.v (.int .i64 y0)))
 (aG [(false,Sy.int IntKind.i64)]
 (jE [T.sl false (List.map aA.enc a0.1)]) fun (y1:Int) =>
 aB (decide (y1≤0)) (R (T.v (.int .i64 17)))
 (bA (Int×PUnit)
 (fun (X2:Int×PUnit→Prop) (s3:Int×PUnit) =>
 aB (decide (s3.1<(↑(List.map aA.li.enc a0.2).length:Int)))
 (aO aA.li (List.map aA.li.enc a0.2) s3.1
 fun (y4:List aJ) =>
 aG [(false,Sy.int IntKind.i64)]
 (fZ [T.sl false (List.map aA.enc y4)]) fun (y5:Int) =>
 aB (!decide (y5=0)) (R (T.v (.int .i64 y5)))
 (aG [(false,Sy.int IntKind.i64)]
 (jE [T.sl false (List.map aA.enc y4)]) fun (y6:Int) =>
 aB (decide (0≤y6)) (R (T.v (.int .i64 17)))
 (aG [(false,Sy.bool)]
 (kY
 [T.sl false (List.map aA.enc a0.1),
 T.sl false (List.map aA.enc y4)])
 fun (y7:Bool) =>
 aB y7 (R (T.v (.int .i64 17)))
 (aO aA (List.map aA.enc y4) 0 fun (y8:aJ) =>
 aG [(false,Sy.int IntKind.i64)]
 (jW
 [T.sl false (List.map aA.enc a0.1),
 aC true aA y8])
 fun (y9:Int) =>
 aB (!decide (y9=1)) (R (T.v (.int .i64 17)))
 (bA (Int×PUnit)
 (fun (X10:Int×PUnit→Prop) (s11:Int×PUnit) =>
 aB (decide (s11.1<s3.1))
 (aO aA.li (List.map aA.li.enc a0.2) s11.1
 fun (y12:List aJ) =>
 aG [(false,Sy.bool)]
 (kY
 [T.sl false (List.map aA.enc y4),
 T.sl false (List.map aA.enc y12)])
 fun (y13:Bool) =>
 aB y13 (R (T.v (.int .i64 17)))
 (aO aA.li (List.map aA.li.enc a0.2)
 s11.1 fun (y14:List aJ) =>
 aO aA (List.map aA.enc y14) 0
 fun (y15:aJ) =>
 aG [(false,Sy.int IntKind.i64)]
 (jW
 [T.sl false (List.map aA.enc y4),
 aC true aA y15])
 fun (y16:Int) =>
 aB (!decide (y16 = -1))
 (R (T.v (.int .i64 17)))
 (aO aA.li
 (List.map aA.li.enc a0.2) s11.1
 fun (y17:List aJ) =>
 aO aA (List.map aA.enc y4) 0
 fun (y18:aJ) =>
 aG [(false,Sy.int IntKind.i64)]
 (jW
 [T.sl false (List.map aA.enc y17),
 aC true aA y18])
 fun (y19:Int) =>
 aB (!decide (y19 = -1))
 (R (T.v (.int .i64 17)))
 (X10 (IntKind.i64.wrap (s11.1+1),())))))
 (X2 (IntKind.i64.wrap (s3.1+1),())))
 (0,()))))))
 (R (T.v (.int .i64 0))))
 (0,()))))
theorem ADY ( a0 R):bC aY Tryz.prog NX AE6 8 118 [aC true cF a0] R=O5 a0 R:=by kernel_rfl
abbrev F6:Sh:=[(true,cF)]
def J7 (s:eQ):Option T:=some (T.v (Value.int .i64 (gM s)))
noncomputable def jK:List T→Option (T):=gS F6 J7
theorem AHP {a0}:jK [aC true cF a0]=J7 (a0):=a8 (s:=F6) rfl (a0) rfl
theorem AVO (h:∀ a0 r,J7 (a0)=some r→b8 F6 (a0)→O5 a0 (fun y=>y=r)):aK Tryz.prog 118 jK :=
 aR (E:=NX) (Hs:=AE6) AKW aW aX (aM rfl) 8 ⟨_,_,Tryz.func118,rfl⟩ rfl fun x r h1 h2=>by
  let a0:=x
  rw[show Sh.bN F6 (a0)=[aC true cF a0] from rfl,ADY]
  exact h a0 r h1 h2
theorem AF4 (p q:List Pt):eL p q=eL q p:=by
 have half:∀ {p q:List Pt},eL p q=true→eL q p=true:=fun {p q} h=>by
  obtain ⟨a,ha,hb⟩:=eK.1 h
  obtain ⟨b,hb1,hb2⟩:=eK.1 hb
  exact eK.2 ⟨b,hb1,eK.2 ⟨a,ha,by rw[mT];exact hb2⟩⟩
 rw[Bool.eq_iff_iff]
 exact ⟨half,half⟩
theorem AZ {p:List Pt} {q:Pt}:cO p q<0↔cO p q = -1:=by
 unfold cO
 split
 ·omega
 ·split
  ·omega
  ·split<;>omega
theorem VF:aK Tryz.prog 118 jK:=AVO fun s r h hb=>by
 cases h
 have is:∀ {n:Int},gM s=n→T.v (.int .i64 n)=T.v (.int .i64 (gM s)):=fun h=>by rw[h]
 have nw:∀ {k:Nat},k≤3000→IntKind.i64.wrap ((k:Int)+1)=((k+1:Nat):Int):=fun h=>aS _ (by omega) (by omega)
 unfold O5
 refine bL (fun h=>is (by rw[List.length_map] at h;unfold gM;rw[if_pos (by omega)])) fun h1=>?_
 rw[List.length_map] at h1
 refine aD (s:=[(false,.int .i64)]) (q9 s.1) ?_
 refine gP (fun h=>is (by unfold gM;rw[if_neg (by omega),if_pos h])) fun h2=>?_
 refine aD (s:=[(false,.int .i64)]) (xE s.1) ?_
 refine bL (fun h=>is (by unfold gM;rw[if_neg (by omega),if_neg (by simpa using h2),if_pos h])) fun h3=>?_
 have w:gM s=bD (mA s) (List.range s.2.length):=by unfold gM;rw[if_neg (by omega),if_neg (by simpa using h2),if_neg h3]
 obtain ⟨ho3,ho32,hoN,_⟩:=dY h2
 refine hO (r:=aA.li) (mA s) (by show s.2.length≤1000000;omega) (fun X k hk hprev hok hbad=>?_) fun h0=>is (w.trans h0)
 have hk:k<s.2.length:=hk
 have hg:s.2.getD k []=s.2[k]:=by rw[List.getD_eq_getElem?_getD,List.getElem?_eq_getElem hk];rfl
 have bad:∀ {n:Int},n≠0→mA s k=n→T.v (.int .i64 n)=T.v (.int .i64 (gM s)):=fun hn h=>is (w.trans ((hbad (by rw[h];exact hn)).trans h))
 have hE:mA s k=if ¬ dG s.2[k]=0 then dG s.2[k] else if 0≤gJ s.2[k]∨gG s.2[k] s.1=false then 17 else if ((List.range k).all fun j=>fU s.2[k] (s.2.getD j []))=false then 17 else 0:=by unfold mA;rw[hg]
 dsimp only
 refine aD (s:=[(false,.int .i64)]) (q9 s.2[k]) ?_
 refine gP (fun h=>bad h (by rw[hE,if_pos h])) fun p1=>?_
 refine aD (s:=[(false,.int .i64)]) (xE s.2[k]) ?_
 refine bL (fun h=>bad (by decide) (by rw[hE,if_neg (by simpa using p1),if_pos (.inl h)])) fun p2=>?_
 obtain ⟨hp3,hp32,hpN,_⟩:=dY p1
 have wf:=AB2 (h:=s.2[k]) (o:=s.1) hpN h2 (by omega)
 refine aD (s:=[(false,.bool)]) (EE (by omega) hoN (by omega) hpN) ?_
 rw[AF4]
 refine rS (fun h=>bad (by decide) (by rw[hE,if_neg (by simpa using p1),if_pos (.inr (by rw[wf,show eL s.2[k] s.1=true from h];rfl))])) fun pe=>?_
 have pe:eL s.2[k] s.1=false:=pe
 rw[show (0:Int)=((0:Nat):Int) from rfl,bW (p:=s.2[k]) (show 0<List.length s.2[k] by omega)]
 refine aD (s:=[(false,.int .i64)]) (u7 s.1 (pt s.2[k] 0)) ?_
 refine gP (fun h=>bad (by decide) (by rw[hE,if_neg (by simpa using p1),if_pos (.inr (by rw[wf,pe,decide_eq_false (show ¬ cO s.1 (pt s.2[k] 0)=1 from h)];rfl))])) fun pw=>?_
 have p3:gG s.2[k] s.1=true:=by rw[wf,pe,decide_eq_true (show cO s.1 (pt s.2[k] 0)=1 from pw)];rfl
 have hE2:mA s k=if ((List.range k).all fun j=>fU s.2[k] (s.2.getD j []))=false then 17 else 0:=by
  rw[hE,if_neg (by simpa using p1),if_neg]
  rintro (h|h)
  ·exact p2 h
  ·rw[p3] at h;cases h
 refine aZ k (fun j s'=>s'=((j:Int),())∧∀ i,i<j→fU s.2[k] (s.2.getD i [])=true) ⟨rfl,fun i h=>by omega⟩ ?_
 rintro Y j s' hj ⟨rfl,hJ⟩ hY
 dsimp only
 refine bL (fun hlt=>?_) fun hge=>?_
 ·have hlt:j<k:=by omega
  have hjl:j<s.2.length:=by omega
  rw[aT (r:=aA.li) hjl]
  have hgj:s.2.getD j []=s.2[j]:=by rw[List.getD_eq_getElem?_getD,List.getElem?_eq_getElem hjl];rfl
  have hj0:dG s.2[j]=0:=by
   have h0:=hprev j hlt
   unfold mA at h0
   rw[hgj] at h0
   refine Classical.byContradiction fun hc=>?_
   rw[if_pos hc] at h0
   exact hc h0
  obtain ⟨hq3,hq32,hqN,_⟩:=dY hj0
  have badA:fU s.2[k] s.2[j]=false→T.v (.int .i64 17)=T.v (.int .i64 (gM s)):=fun h=>bad (by decide) (by rw[hE2,if_pos (qX hlt (by rw[hgj];exact h))])
  refine aD (s:=[(false,.bool)]) (EE (by omega) hpN (by omega) hqN) ?_
  refine rS (fun h=>badA (by unfold fU;rw[show eL s.2[k] s.2[j]=true from h];rfl)) fun e1=>?_
  rw[aT (r:=aA.li) hjl,bW (p:=s.2[j]) (show 0<List.length s.2[j] by omega)]
  refine aD (s:=[(false,.int .i64)]) (u7 s.2[k] (pt s.2[j] 0)) ?_
  refine gP (fun h=>badA (by unfold fU;rw[decide_eq_false (show ¬ cO s.2[k] (pt s.2[j] 0)<0 from fun h'=>h (AZ.1 h'))];simp)) fun e2=>?_
  rw[aT (r:=aA.li) hjl,bW (p:=s.2[k]) (show 0<List.length s.2[k] by omega)]
  refine aD (s:=[(false,.int .i64)]) (u7 s.2[j] (pt s.2[k] 0)) ?_
  refine gP (fun h=>badA (by unfold fU;rw[decide_eq_false (show ¬ cO s.2[j] (pt s.2[k] 0)<0 from fun h'=>h (AZ.1 h'))];simp)) fun e3=>?_
  have e4:fU s.2[k] s.2[j]=true:=by
   unfold fU
   rw[show eL s.2[k] s.2[j]=false from e1,decide_eq_true (AZ.2 e2),decide_eq_true (AZ.2 e3)];rfl
  exact hY _ hlt ⟨by rw[nw (by omega)],fun i hi=>by
   rcases Nat.lt_or_ge i j with h3|h3
   ·exact hJ i h3
   ·have:i=j:=by omega
    subst this;rw[hgj];exact e4⟩
 ·have:j=k:=by omega
  subst this
  rw[nw (by omega)]
  refine hok ?_
  rw[hE2,if_neg]
  rw[cG.2 hJ];simp
theorem K2 (s:eQ):jK [aC true cF s]=some (Sh.enc [(false,.int .i64)] (gM s)):=AHP ..
noncomputable def GM:Env:=Env.of []
def T4:FuncId→Hint:=fun _=>aV
theorem AB9:aH Tryz.prog GM:=aH.nil _
def HG (a0:eQ) (R:T→Prop):Prop :=
 aB (List.map aA.li.enc a0.2).isEmpty
 (R (T.sl false [[T.sl false (List.map aA.enc a0.1)]]))
 (bP
 (gU 1 (List.map aA.li.enc a0.2) &&
 decide ((1+(List.map aA.li.enc a0.2).length)*24≤140737488355328) &&
 decide (1+(List.map aA.li.enc a0.2).length≤140737488355328))
 (R
 (T.sl false
 ([T.sl false (List.map aA.enc a0.1)] ::
 (List.map aA.li.enc a0.2)))))
theorem XV ( a0 R):bC aY Tryz.prog GM T4 8 146 [aC true cF a0] R=HG a0 R:=by kernel_rfl
abbrev zT:Sh:=[(true,cF)]
abbrev AV4:Sh:=[(false,aA.li.li)]
def qC (s:eQ):Option T:=match decide (s.2.length≤1000) with
 | true=>some (Sh.enc AV4 (s.1::s.2))
 | false=>none
noncomputable def oU:List T→Option (T):=gS zT qC
theorem ZZ {a0}:oU [aC true cF a0]=qC (a0):=a8 (s:=zT) rfl (a0) rfl
theorem AN3 (h:∀ a0 r,qC (a0)=some r→b8 zT (a0)→HG a0 (fun y=>y=r)):aK Tryz.prog 146 oU :=
 aR (E:=GM) (Hs:=T4) AB9 aW aX (aM rfl) 8 ⟨_,_,Tryz.func146,rfl⟩ rfl fun x r h1 h2=>by
  let a0:=x
  rw[show Sh.bN zT (a0)=[aC true cF a0] from rfl,XV]
  exact h a0 r h1 h2
theorem AMJ:aK Tryz.prog 146 oU:=AN3 fun s r h hb=>by
 unfold qC at h
 split at h
 ·rename_i hc
  have hc:s.2.length≤1000:=of_decide_eq_true hc
  cases h
  obtain ⟨o,hs⟩:=s
  unfold HG
  cases hs with
  | nil=>exact (rfl:T.sl false [[T.sl false (List.map aA.enc o)]]=_)
  | cons a l =>
   show bP _ _
   refine ⟨?_,rfl⟩
   simp only[Bool.and_eq_true,decide_eq_true_eq,List.length_map]
   have hc:(a::l).length≤1000:=hc
   exact ⟨⟨pE (.li aA) (a::l),by omega⟩,by omega⟩
 ·cases h
noncomputable def MZ:Env:=Env.of [(118,.pure jK),(146,.pure oU),(143,.pure jE)]
def AEA:FuncId→Hint:=fun f=>match f == 123 with|true=>⟨fun r=>match r == 6 with|true=>.inv [.val 3 false (.int .i64),.val 5 false (.int .i64)]|false=>.none,fun _ _=>none,fun _=>none⟩|false=>aV
theorem AJ0:aH Tryz.prog MZ:=aH.cons (x:=.pure jK) VF (aH.cons (x:=.pure oU) AMJ (aH.cons (x:=.pure jE) U8 (aH.nil _)))
def N8 (a0:eQ) (R:T→Prop):Prop :=
 aG [(false,Sy.int IntKind.i64)] (jK [aC true cF a0]) fun (y0:Int) =>
 aB (!decide (y0=0)) (R (T.v (.int .i64 0)))
 (aG [(false,aA.li.li)] (oU [aC true cF a0])
 fun (y1:List (List aJ)) =>
 bA (Int×Int×PUnit)
 (fun (X2:Int×Int×PUnit→Prop) (s3:Int×Int×PUnit) =>
 aB (decide (s3.2.1<(↑(List.map aA.li.enc y1).length:Int)))
 (aO aA.li (List.map aA.li.enc y1) s3.2.1 fun (y4:List aJ) =>
 aG [(false,Sy.int IntKind.i64)]
 (jE [T.sl false (List.map aA.enc y4)]) fun (y5:Int) =>
 X2 (IntKind.i64.wrap (s3.1+y5),IntKind.i64.wrap (s3.2.1+1),()))
 (R (T.v (.int .i64 s3.1))))
 (0,0,()))
theorem AC2 ( a0 R):bC aY Tryz.prog MZ AEA 8 123 [aC true cF a0] R=N8 a0 R:=by kernel_rfl
abbrev FE:Sh:=[(true,cF)]
def JK (s:eQ):Option T:=some (T.v (Value.int .i64 (p8 s)))
noncomputable def pL:List T→Option (T):=gS FE JK
theorem AGM {a0}:pL [aC true cF a0]=JK (a0):=a8 (s:=FE) rfl (a0) rfl
theorem AUS (h:∀ a0 r,JK (a0)=some r→b8 FE (a0)→N8 a0 (fun y=>y=r)):aK Tryz.prog 123 pL :=
 aR (E:=MZ) (Hs:=AEA) AJ0 aW aX (aM rfl) 8 ⟨_,_,Tryz.func123,rfl⟩ rfl fun x r h1 h2=>by
  let a0:=x
  rw[show Sh.bN FE (a0)=[aC true cF a0] from rfl,AC2]
  exact h a0 r h1 h2
theorem AS9:aK Tryz.prog 123 pL:=AUS fun s r h hb=>by
 cases h
 have is:∀ {n:Int},p8 s=n→T.v (.int .i64 n)=T.v (.int .i64 (p8 s)):=fun h=>by rw[h]
 unfold N8
 refine aD (s:=[(false,.int .i64)]) (K2 s) ?_
 refine gP (fun h=>is (by unfold p8;rw[if_neg h])) fun h=>?_
 have h8:s.2.length≤8:=(AQ7 h).1
 refine aD (s:=[(false,.li (.li aA))]) (y:=(s.1::s.2:List (List aJ))) ((ZZ ..).trans (by unfold qC;rw[decide_eq_true (by omega)])) ?_
 have w:p8 s=AWJ (s.1::s.2):=by unfold p8;rw[if_pos h]
 have hlen:(s.1::s.2).length≤9:=by simp;omega
 generalize s.1::s.2=l at w hlen
 refine aZ l.length (fun k t=>t=(cN k (fun i=>gJ (l.getD i [])),(k:Int),())) rfl ?_
 rintro X k t hk rfl hX
 dsimp only
 refine bL (fun hlt=>?_) fun hge=>is (by rw[List.length_map] at hge;rw[w,show k=l.length by omega];rfl)
 rw[List.length_map] at hlt
 have hlt:k<l.length:=by omega
 rw[aT (r:=aA.li) hlt]
 have hg:l.getD k []=l[k]:=by rw[List.getD_eq_getElem?_getD,List.getElem?_eq_getElem hlt];rfl
 refine aD (s:=[(false,.int .i64)]) (xE l[k]) ?_
 refine hX _ hlt ?_
 have b1:=MV l k
 have b2:=PU l[k]
 rw[show IntKind.i64.wrap ((k:Int)+1)=((k+1:Nat):Int) from aS _ (by omega) (by omega),aS _ (by omega) (by omega),cN,hg]
theorem AGN (s:eQ):pL [aC true cF s]=some (Sh.enc [(false,.int .i64)] (p8 s)):=AGM ..
end Go.Pv
namespace Go.Pv
open Go Go.Proofs
noncomputable def HA:Env:=Env.of []
def UR:FuncId→Hint:=fun _=>aV
theorem ACX:aH Tryz.prog HA:=aH.nil _
def H5 (a0:uL) (R:T→Prop):Prop :=
 aB (decide (-524288≤a0.1.1))
 (aB (decide (a0.1.1≤524288))
 (aB (decide (-524288≤a0.1.2.1))
 (aB (decide (a0.1.2.1≤524288))
 (aB (decide (-524288≤a0.1.2.2))
 (aB (decide (a0.1.2.2≤524288))
 (aB (decide (0≤a0.2)) (R (T.v (.bool (decide (a0.2≤23)))))
 (R (T.v (.bool false))))
 (R (T.v (.bool false))))
 (R (T.v (.bool false))))
 (R (T.v (.bool false))))
 (R (T.v (.bool false))))
 (R (T.v (.bool false))))
 (R (T.v (.bool false)))
theorem Y4 ( a0 R):bC aY Tryz.prog HA UR 8 120 [aC true cW a0] R=H5 a0 R:=by kernel_rfl
abbrev AN:Sh:=[(true,cW)]
def DJ (p:uL):Option T:=some (T.v (.bool (iU p)))
noncomputable def iR:List T→Option (T):=gS AN DJ
theorem AAO {a0}:iR [aC true cW a0]=DJ (a0):=a8 (s:=AN) rfl (a0) rfl
theorem AOQ (h:∀ a0 r,DJ (a0)=some r→b8 AN (a0)→H5 a0 (fun y=>y=r)):aK Tryz.prog 120 iR :=
 aR (E:=HA) (Hs:=UR) ACX aW aX (aM rfl) 8 ⟨_,_,Tryz.func120,rfl⟩ rfl fun x r h1 h2=>by
  let a0:=x
  rw[show Sh.bN AN (a0)=[aC true cW a0] from rfl,Y4]
  exact h a0 r h1 h2
theorem AM0:aK Tryz.prog 120 iR:=AOQ fun p r h hb=>by
 cases h
 unfold H5
 have pb:iU p=true↔((-524288≤p.1.1∧p.1.1≤524288)∧(-524288≤p.1.2.1∧p.1.2.1≤524288)∧(-524288≤p.1.2.2∧p.1.2.2≤524288))∧0≤p.2∧p.2≤23:=by
  unfold iU iN AIN
  simp only[Bool.and_eq_true,decide_eq_true_eq]
  by_cases h:p.2<0∨24≤p.2
  ·rw[if_pos h];omega
  ·rw[if_neg h];omega
 have no:¬ (((-524288≤p.1.1∧p.1.1≤524288)∧(-524288≤p.1.2.1∧p.1.2.1≤524288)∧(-524288≤p.1.2.2∧p.1.2.2≤524288))∧0≤p.2∧p.2≤23)→T.v (.bool false)=T.v (.bool (iU p)):=fun h=>cM (Eq.symm (by rw[Bool.eq_false_iff];exact fun h2=>h (pb.1 h2)))
 refine bL (fun h1=>bL (fun h2=>bL (fun h3=>bL (fun h4=>bL (fun h5=>bL (fun h6=>bL (fun h7=>cM ?_) fun h=>no (by omega)) fun h=>no (by omega)) fun h=>no (by omega)) fun h=>no (by omega)) fun h=>no (by omega)) fun h=>no (by omega)) fun h=>no (by omega)
 rw[Bool.eq_iff_iff,pb,decide_eq_true_eq]
 omega
def lS (l:List Int):Int:=if l.length=0 then 3 else if 16<l.length then 4 else bD (oC l) (List.range l.length)
noncomputable def BV:Env:=Env.of []
def PH:FuncId→Hint:=fun f=>match f == 112 with|true=>⟨fun r=>match r == 6 with|true=>.inv [.val 3 false (.int .i64)]|false=>.none,fun _ _=>none,fun _=>none⟩|false=>aV
theorem XL:aH Tryz.prog BV:=aH.nil _
def B4 (a0:List Int) (R:T→Prop):Prop :=
 aB (decide ((↑(List.map (Sy.int IntKind.i64).enc a0).length:Int)=0))
 (R (T.v (.int .i64 3)))
 (aB (decide (16<(↑(List.map (Sy.int IntKind.i64).enc a0).length:Int)))
 (R (T.v (.int .i64 4)))
 (bA (Int×PUnit)
 (fun (X0:Int×PUnit→Prop) (s1:Int×PUnit) =>
 aB (decide (s1.1<(↑(List.map (Sy.int IntKind.i64).enc a0).length:Int)))
 (aO (Sy.int IntKind.i64) (List.map (Sy.int IntKind.i64).enc a0) s1.1
 fun (y2:Int) =>
 aB (decide (1≤y2))
 (aB (!decide (y2≤120)) (R (T.v (.int .i64 9)))
 (aB (decide (0<s1.1))
 (aO (Sy.int IntKind.i64) (List.map (Sy.int IntKind.i64).enc a0) s1.1
 fun (y3:Int) =>
 aO (Sy.int IntKind.i64) (List.map (Sy.int IntKind.i64).enc a0)
 (IntKind.i64.wrap (s1.1-1)) fun (y4:Int) =>
 aB (decide (y3≤y4)) (R (T.v (.int .i64 11)))
 (X0 (IntKind.i64.wrap (s1.1+1),())))
 (X0 (IntKind.i64.wrap (s1.1+1),()))))
 (R (T.v (.int .i64 9))))
 (R (T.v (.int .i64 0))))
 (0,())))
theorem TB ( a0 R):bC aY Tryz.prog BV PH 8 112 [aC false (Sy.int IntKind.i64).li a0] R=B4 a0 R:=by kernel_rfl
abbrev vX:Sh:=[(false,(Sy.int IntKind.i64).li)]
def yF (l:List Int):Option T:=some (T.v (Value.int .i64 (lS l)))
noncomputable def mK:List T→Option (T):=gS vX yF
theorem TN {a0}:mK [T.sl false (List.map (Sy.int IntKind.i64).enc a0)]=yF (a0):=a8 (s:=vX) rfl (a0) rfl
theorem AIR (h:∀ a0 r,yF (a0)=some r→b8 vX (a0)→B4 a0 (fun y=>y=r)):aK Tryz.prog 112 mK :=
 aR (E:=BV) (Hs:=PH) XL aW aX (aM rfl) 8 ⟨_,_,Tryz.func112,rfl⟩ rfl fun x r h1 h2=>by
  let a0:=x
  rw[show Sh.bN vX (a0)=[aC false (Sy.int IntKind.i64).li a0] from rfl,TB]
  exact h a0 r h1 h2
theorem AGA:aK Tryz.prog 112 mK:=AIR fun l r h hb=>by
 cases h
 have is:∀ {n:Int},lS l=n→T.v (.int .i64 n)=T.v (.int .i64 (lS l)):=fun h=>by rw[h]
 unfold B4
 refine bL (fun h=>is (by rw[List.length_map] at h;unfold lS;rw[if_pos (by omega)])) fun h5=>?_
 refine bL (fun h=>is (by rw[List.length_map] at h h5;unfold lS;rw[if_neg (by omega),if_pos (by omega)])) fun h6=>?_
 rw[List.length_map] at h5 h6
 have w:lS l=bD (oC l) (List.range l.length):=by unfold lS;rw[if_neg (by omega),if_neg (by omega)]
 refine hO (r:=.int .i64) (oC l) (by show l.length≤1000000;omega) (fun X k hk hprev hok hbad=>?_) fun h0=>is (w.trans h0)
 have hk:k<l.length:=hk
 have bad:∀ {n:Int},n≠0→oC l k=n→T.v (.int .i64 n)=T.v (.int .i64 (lS l)):=fun hn h=>is (w.trans ((hbad (by rw[h];exact hn)).trans h))
 have hE:oC l k=if ¬ (1≤l[k]∧l[k]≤120) then 9 else if 0<k∧l[k]≤l.getD (k-1) 0 then 11 else 0:=by unfold oC;rw[gO hk]
 dsimp only
 rw[rV (by omega)]
 refine bL (fun p1=>gP (fun h=>bad (by decide) (by rw[hE,if_pos (by omega)])) fun p2=>?_) fun h=>bad (by decide) (by rw[hE,if_pos (by omega)])
 refine bL (fun p3=>?_) fun p3=>hok (by rw[hE,if_neg (by omega),if_neg (by omega)])
 have k0:0<k:=by omega
 rw[aT (r:=.int .i64) hk,zP (r:=.int .i64) hk k0 (by show l.length≤1000000;omega)]
 have hg1:l.getD (k-1) 0=l[k-1]'(by omega):=gO (by omega)
 exact bL (fun h=>bad (by decide) (by rw[hE,if_neg (by omega),hg1,if_pos ⟨k0,h⟩])) fun h=>hok (by rw[hE,if_neg (by omega),hg1,if_neg (fun hc=>h hc.2)])
theorem TT (g:cS):fB g=if isName g.1=false then 6 else if ¬ (1000≤g.2.1∧g.2.1≤20000∧100≤g.2.2.1∧g.2.2.1≤1500) then 9 else lS g.2.2.2:=rfl
noncomputable def BW:Env:=Env.of [(74,.pure dI),(112,.pure mK)]
def PI:FuncId→Hint:=fun f=>match f == 73 with|true=>⟨fun r=>match r == 2 with|true=>.inv [.val 3 false (.int .i64)]|false=>.none,fun _ _=>none,fun _=>none⟩|false=>aV
theorem XM:aH Tryz.prog BW:=aH.cons (x:=.pure dI) q7 (aH.cons (x:=.pure mK) AGA (aH.nil _))
def B5 (a0:List cS) (R:T→Prop):Prop :=
 bA (Int×PUnit)
 (fun (X0:Int×PUnit→Prop) (s1:Int×PUnit) =>
 aB (decide (s1.1<(↑(List.map bH.enc a0).length:Int)))
 (aO bH (List.map bH.enc a0) s1.1 fun (y2:cS) =>
 aG [(false,Sy.bool)] (dI [T.v (.string y2.1)]) fun (y3:Bool) =>
 aB (!y3) (R (T.v (.int .i64 6)))
 (aO bH (List.map bH.enc a0) s1.1 fun (y4:cS) =>
 aB (decide (1000≤y4.2.1))
 (aB (!decide (y4.2.1≤20000)) (R (T.v (.int .i64 9)))
 (aO bH (List.map bH.enc a0) s1.1 fun (y5:cS) =>
 aB (decide (100≤y5.2.2.1))
 (aB (!decide (y5.2.2.1≤1500)) (R (T.v (.int .i64 9)))
 (aO bH (List.map bH.enc a0) s1.1 fun (y6:cS) =>
 aG [(false,Sy.int IntKind.i64)]
 (mK
 [T.sl false (List.map (Sy.int IntKind.i64).enc y6.2.2.2)])
 fun (y7:Int) =>
 aB (!decide (y7=0)) (R (T.v (.int .i64 y7)))
 (aB (decide (0<s1.1))
 (aO bH (List.map bH.enc a0) s1.1
 fun (y8:cS) =>
 aO bH (List.map bH.enc a0)
 (IntKind.i64.wrap (s1.1-1)) fun (y9:cS) =>
 aB (dR y8.1 y9.1||decide (y8.1=y9.1))
 (R (T.v (.int .i64 11)))
 (X0 (IntKind.i64.wrap (s1.1+1),())))
 (X0 (IntKind.i64.wrap (s1.1+1),())))))
 (R (T.v (.int .i64 9)))))
 (R (T.v (.int .i64 9)))))
 (R (T.v (.int .i64 0))))
 (0,())
theorem TC ( a0 R):bC aY Tryz.prog BW PI 8 73 [aC false bH.li a0] R=B5 a0 R:=by kernel_rfl
abbrev vY:Sh:=[(false,bH.li)]
def nY (l:List cS):Option T:=match decide (l.length≤1000) with
 | true=>some (T.v (Value.int .i64 (bD (jL (l,[])) (List.range l.length))))
 | false=>none
noncomputable def mL:List T→Option (T):=gS vY nY
theorem TO {a0}:mL [T.sl false (List.map bH.enc a0)]=nY (a0):=a8 (s:=vY) rfl (a0) rfl
theorem AIS (h:∀ a0 r,nY (a0)=some r→b8 vY (a0)→B5 a0 (fun y=>y=r)):aK Tryz.prog 73 mL :=
 aR (E:=BW) (Hs:=PI) XM aW aX (aM rfl) 8 ⟨_,_,Tryz.func73,rfl⟩ rfl fun x r h1 h2=>by
  let a0:=x
  rw[show Sh.bN vY (a0)=[aC false bH.li a0] from rfl,TC]
  exact h a0 r h1 h2
theorem AGB:aK Tryz.prog 73 mL:=AIS fun l r h hb=>by
 unfold nY at h
 split at h
 case h_2=>cases h
 rename_i hl
 have hl:l.length≤1000:=of_decide_eq_true hl
 cases h
 unfold B5
 refine hO (r:=bH) (jL (l,[])) (by show l.length≤1000000;omega) (fun X k hk hprev hok hbad=>?_) fun h0=>by rw[h0]
 have hk:k<l.length:=hk
 have bad:∀ {n:Int},n≠0→jL (l,[]) k=n→T.v (.int .i64 n)=T.v (.int .i64 (bD (jL (l,[])) (List.range l.length))):=fun hn h=>by rw[hbad (by rw[h];exact hn),h]
 have hE:jL (l,[]) k=if ¬ fB l[k]=0 then fB l[k] else if 0<k∧BJ l[k].1 (l.getD (k-1) dO).1=true then 11 else 0:=by unfold jL;dsimp only;rw[gO hk]
 have hG:=TT l[k]
 have badG:∀ {n:Int},n≠0→fB l[k]=n→T.v (.int .i64 n)=T.v (.int .i64 (bD (jL (l,[])) (List.range l.length))):=fun hn h=>bad hn (by rw[hE,if_pos (by rw[h];exact hn),h])
 dsimp only
 rw[rV (by omega)]
 refine aD (s:=[(false,.bool)]) (y:=isName l[k].1) mZ ?_
 refine dM (fun h=>badG (by decide) (by rw[hG,if_pos h])) fun hn=>?_
 have hn':¬ isName l[k].1=false:=by rw[hn];simp
 rw[aT (r:=bH) hk]
 have r9:¬ (1000≤l[k].2.1∧l[k].2.1≤20000∧100≤l[k].2.2.1∧l[k].2.2.1≤1500)→T.v (.int .i64 9)=T.v (.int .i64 (bD (jL (l,[])) (List.range l.length))):=fun h=>badG (by decide) (by rw[hG,if_neg hn',if_pos h])
 refine bL (fun h1=>gP (fun h=>r9 (by omega)) fun h2=>?_) fun h=>r9 (by omega)
 rw[aT (r:=bH) hk]
 refine bL (fun h3=>gP (fun h=>r9 (by omega)) fun h4=>?_) fun h=>r9 (by omega)
 rw[aT (r:=bH) hk]
 have hG2:fB l[k]=lS l[k].2.2.2:=by rw[hG,if_neg hn',if_neg (by omega)]
 refine aD (s:=[(false,.int .i64)]) (y:=lS l[k].2.2.2) (TN ..) ?_
 refine gP (fun h=>badG h hG2) fun h5=>?_
 have z:fB l[k]=0:=hG2.trans h5
 refine bL (fun p3=>?_) fun p3=>hok (by rw[hE,if_neg (fun h=>h z),if_neg (by omega)])
 have k0:0<k:=by omega
 rw[aT (r:=bH) hk,zP (r:=bH) hk k0 (by show l.length≤1000000;omega)]
 have hg1:l.getD (k-1) dO=l[k-1]'(by omega):=gO (by omega)
 exact rS (fun h=>bad (by decide) (by rw[hE,if_neg (fun h=>h z),hg1,if_pos ⟨k0,h⟩])) fun h=>hok (by rw[hE,if_neg (fun h=>h z),hg1,if_neg (fun hc=>by rw[show BJ l[k].1 (l[k-1]'(by omega)).1=false from h] at hc;cases hc.2)])
noncomputable def NF:Env:=Env.of [(74,.pure dI),(73,.pure mL)]
def AEO:FuncId→Hint:=fun f=>match f == 30 with|true=>⟨fun r=>match r == 7 with|true=>.inv [.val 4 false (.int .i64)]|false=>.none,fun _ _=>none,fun _=>none⟩|false=>aV
theorem AKE:aH Tryz.prog NF:=aH.cons (x:=.pure dI) q7 (aH.cons (x:=.pure mL) AGB (aH.nil _))
def OM (a0:aN) (R:T→Prop):Prop :=
 aB (decide (16<(↑(List.map bH.enc a0.1).length:Int)))
 (R (T.v (.int .i64 4)))
 (aB (decide (32<(↑(List.map a7.enc a0.2).length:Int)))
 (R (T.v (.int .i64 4)))
 (aG [(false,Sy.int IntKind.i64)]
 (mL [T.sl false (List.map bH.enc a0.1)]) fun (y0:Int) =>
 aB (!decide (y0=0)) (R (T.v (.int .i64 y0)))
 (bA (Int×PUnit)
 (fun (X1:Int×PUnit→Prop) (s2:Int×PUnit) =>
 aB (decide (s2.1<(↑(List.map a7.enc a0.2).length:Int)))
 (aO a7 (List.map a7.enc a0.2) s2.1 fun (y3:bU) =>
 aG [(false,Sy.bool)] (dI [T.v (.string y3.1)])
 fun (y4:Bool) =>
 aB (!y4) (R (T.v (.int .i64 6)))
 (aB (decide (1≤y3.2.1))
 (aB (!decide (y3.2.1≤1000000)) (R (T.v (.int .i64 9)))
 (aB (decide (1≤y3.2.2.1))
 (aB (!decide (y3.2.2.1≤2000)) (R (T.v (.int .i64 9)))
 (aB (decide (100≤y3.2.2.2))
 (aB (!decide (y3.2.2.2≤32768))
 (R (T.v (.int .i64 9)))
 (aB (decide (0<s2.1))
 (aO a7 (List.map a7.enc a0.2)
 (IntKind.i64.wrap (s2.1-1)) fun (y5:bU) =>
 aB (dR y3.1 y5.1||decide (y3.1=y5.1))
 (R (T.v (.int .i64 11)))
 (X1 (IntKind.i64.wrap (s2.1+1),())))
 (X1 (IntKind.i64.wrap (s2.1+1),()))))
 (R (T.v (.int .i64 9)))))
 (R (T.v (.int .i64 9)))))
 (R (T.v (.int .i64 9)))))
 (R (T.v (.int .i64 0))))
 (0,()))))
theorem ADG ( a0 R):bC aY Tryz.prog NF AEO 8 30 [aC true aE a0] R=OM a0 R:=by kernel_rfl
abbrev FN:Sh:=[(true,aE)]
def JT (m:aN):Option T:=some (T.v (Value.int .i64 (kQ m)))
noncomputable def sP:List T→Option (T):=gS FN JT
theorem AG5 {a0}:sP [aC true aE a0]=JT (a0):=a8 (s:=FN) rfl (a0) rfl
theorem AU6 (h:∀ a0 r,JT (a0)=some r→b8 FN (a0)→OM a0 (fun y=>y=r)):aK Tryz.prog 30 sP :=
 aR (E:=NF) (Hs:=AEO) AKE aW aX (aM rfl) 8 ⟨_,_,Tryz.func30,rfl⟩ rfl fun x r h1 h2=>by
  let a0:=x
  rw[show Sh.bN FN (a0)=[aC true aE a0] from rfl,ADG]
  exact h a0 r h1 h2
theorem ATL:aK Tryz.prog 30 sP:=AU6 fun m r h hb=>by
 cases h
 have is:∀ {n:Int},kQ m=n→T.v (.int .i64 n)=T.v (.int .i64 (kQ m)):=fun h=>by rw[h]
 unfold OM
 refine bL (fun h=>is (by rw[List.length_map] at h;unfold kQ;rw[if_pos (by omega)])) fun h1=>?_
 refine bL (fun h=>is (by rw[List.length_map] at h;unfold kQ;rw[if_pos (by omega)])) fun h2=>?_
 rw[List.length_map] at h1 h2
 refine aD (s:=[(false,.int .i64)]) (y:=bD (jL m) (List.range m.1.length)) ((TO ..).trans (by unfold nY;rw[decide_eq_true (by omega)];rfl)) ?_
 refine gP (fun h=>is (by unfold kQ;rw[if_neg (by omega),if_pos h])) fun h0=>?_
 have w:kQ m=bD (SC m) (List.range m.2.length):=by unfold kQ;rw[if_neg (by omega),if_neg (fun h=>h h0)]
 refine hO (r:=a7) (SC m) (by show m.2.length≤1000000;omega) (fun X k hk hprev hok hbad=>?_) fun h0=>is (w.trans h0)
 have hk:k<m.2.length:=hk
 have bad:∀ {n:Int},n≠0→SC m k=n→T.v (.int .i64 n)=T.v (.int .i64 (kQ m)):=fun hn h=>is (w.trans ((hbad (by rw[h];exact hn)).trans h))
 have hE:SC m k=if ¬ wB m.2[k]=0 then wB m.2[k] else if 0<k∧BJ m.2[k].1 (m.2.getD (k-1) nQ).1=true then 11 else 0:=by unfold SC;rw[gO hk]
 have badG:∀ {n:Int},n≠0→wB m.2[k]=n→T.v (.int .i64 n)=T.v (.int .i64 (kQ m)):=fun hn h=>bad hn (by rw[hE,if_pos (by rw[h];exact hn),h])
 dsimp only
 rw[rV (by omega)]
 refine aD (s:=[(false,.bool)]) (y:=isName m.2[k].1) mZ ?_
 refine dM (fun h=>badG (by decide) (by unfold wB;rw[if_pos h])) fun hn=>?_
 have hn':¬ isName m.2[k].1=false:=by rw[hn];simp
 have r9:¬ (1≤m.2[k].2.1∧m.2[k].2.1≤1000000∧1≤m.2[k].2.2.1∧m.2[k].2.2.1≤2000∧100≤m.2[k].2.2.2∧m.2[k].2.2.2≤32768)→T.v (.int .i64 9)=T.v (.int .i64 (kQ m)):=fun h=>badG (by decide) (by unfold wB;rw[if_neg hn',if_pos h])
 refine bL (fun h1=>gP (fun h=>r9 (by omega)) fun h2=>bL (fun h3=>gP (fun h=>r9 (by omega)) fun h4=>bL (fun h5=>gP (fun h=>r9 (by omega)) fun h6=>?_) fun h=>r9 (by omega)) fun h=>r9 (by omega)) fun h=>r9 (by omega)
 have z:wB m.2[k]=0:=by unfold wB;rw[if_neg hn',if_neg (by omega)]
 refine bL (fun p3=>?_) fun p3=>hok (by rw[hE,if_neg (fun h=>h z),if_neg (by omega)])
 have k0:0<k:=by omega
 rw[zP (r:=a7) hk k0 (by show m.2.length≤1000000;omega)]
 have hg1:m.2.getD (k-1) nQ=m.2[k-1]'(by omega):=gO (by omega)
 exact rS (fun h=>bad (by decide) (by rw[hE,if_neg (fun h=>h z),hg1,if_pos ⟨k0,h⟩])) fun h=>hok (by rw[hE,if_neg (fun h=>h z),hg1,if_neg (fun hc=>by rw[show BJ m.2[k].1 (m.2[k-1]'(by omega)).1=false from h] at hc;cases hc.2)])
noncomputable def BY:Env:=Env.of []
def PK:FuncId→Hint:=fun f=>match f == 121 with|true=>⟨fun r=>match r == 2 with|true=>.inv [.val 6 false (.int .i64),.fix 1]|false=>.none,fun _ _=>none,fun _=>none⟩|false=>aV
theorem XO:aH Tryz.prog BY:=aH.nil _
def B7 (a0:aN) (a1:ByteArray) (R:T→Prop):Prop :=
 fE
 (bB.rows false
 [[D.p (T.v (.string { data:=#[] })),D.p (T.v (.int .i64 0)),
 D.p (T.v (.int .i64 0)),D.p (T.v (Value.slice none 0 0))]])
 (bB.rows false
 [[D.p (T.v (.string { data:=#[] })),D.p (T.v (.int .i64 0)),
 D.p (T.v (.int .i64 0)),D.p (T.v (Value.slice none 0 0))]])
 (bA (Int×PUnit×PUnit)
 (fun (X0:Int×PUnit×PUnit→Prop) (s1:Int×PUnit×PUnit) =>
 aB (decide (s1.1<(↑(List.map bH.enc a0.1).length:Int)))
 (aO bH (List.map bH.enc a0.1) s1.1 fun (y2:cS) =>
 aB (decide (y2.1=a1))
 (aO bH (List.map bH.enc a0.1) s1.1 fun (y3:cS) =>
 bP
 (gU 1 (List.map (Sy.int IntKind.i64).enc y3.2.2.2)&&true &&
 decide ((List.map (Sy.int IntKind.i64).enc y3.2.2.2).length*8≤140737488355328) &&
 decide ((List.map (Sy.int IntKind.i64).enc y3.2.2.2).length≤140737488355328))
 (R (T.cR [aC true bH y3,T.v (.bool true)])))
 (fE
 (bB.rows false
 [[D.p (T.v (.string { data:=#[] })),
 D.p (T.v (.int .i64 0)),
 D.p (T.v (.int .i64 0)),
 D.p (T.v (Value.slice none 0 0))]])
 (bB.rows false
 [[D.p (T.v (.string { data:=#[] })),
 D.p (T.v (.int .i64 0)),
 D.p (T.v (.int .i64 0)),
 D.p (T.v (Value.slice none 0 0))]])
 (X0 (IntKind.i64.wrap (s1.1+1),(),()))))
 (R
 (T.cR
 [T.agg
 [T.v (.string { data:=#[] }),T.v (.int .i64 0),
 T.v (.int .i64 0),T.sl false []],
 T.v (.bool false)])))
 (0,(),()))
theorem TE ( a0 a1 R):bC aY Tryz.prog BY PK 8 121 [aC true aE a0,aC false Sy.str a1] R=B7 a0 a1 R:=by kernel_rfl
abbrev v7:Sh:=[(true,aE),(false,Sy.str)]
def yG (x:aN×ByteArray):Option T:=xZ x.1 (Sh.enc [(true,bH),(false,.bool)] (found dO (cJ x.1 x.2)))
noncomputable def eM:List T→Option (T):=gS v7 yG
theorem TP {a0 a1}:eM [aC true aE a0,T.v (.string a1)]=yG (a0,a1):=a8 (s:=v7) rfl (a0,a1) rfl
theorem AIU (h:∀ a0 a1 r,yG (a0,a1)=some r→b8 v7 (a0,a1)→B7 a0 a1 (fun y=>y=r)):aK Tryz.prog 121 eM :=
 aR (E:=BY) (Hs:=PK) XO aW aX (aM rfl) 8 ⟨_,_,Tryz.func121,rfl⟩ rfl fun x r h1 h2=>by
  obtain ⟨a0,a1⟩:=x
  rw[show Sh.bN v7 (a0,a1)=[aC true aE a0,aC false Sy.str a1] from rfl,TE]
  exact h a0 a1 r h1 h2
theorem xD:aK Tryz.prog 121 eM:=AIU fun m n r h hb=>by
 obtain ⟨hok,rfl⟩:=pZ h
 clear h
 simp only[BK,Bool.and_eq_true,decide_eq_true_eq] at hok
 unfold B7
 rw[cI]
 refine aZ m.1.length (fun k s=>s.1=(k:Int)∧(m.1.drop k).find? (fun s=>decide (s.1=n))=cJ m n) ⟨rfl,rfl⟩ ?_
 rintro X k ⟨i,u1,u2⟩ hk ⟨rfl,hf⟩ hX
 dsimp only at hf ⊢
 refine bL (fun hlt=>?_) fun hge=>?_
 ·rw[List.length_map] at hlt
  have hlt:k<m.1.length:=by omega
  rw[mH hlt] at hf
  rw[aT (r:=bH) hlt]
  refine bL (fun hc=>?_) fun hc=>?_
  ·rw[if_pos (decide_eq_true hc)] at hf
   rw[aT (r:=bH) hlt]
   have hg:m.1[k].2.2.2.length≤1000:=by
    have:=List.all_eq_true.1 hok.2 _ (List.getElem_mem hlt)
    exact of_decide_eq_true this
   refine ⟨?_,?_⟩
   ·rw[show gU 1 (List.map (Sy.int IntKind.i64).enc m.1[k].2.2.2)=true from pE (.int .i64) _,List.length_map,decide_eq_true (by omega),decide_eq_true (by omega)];rfl
   ·show _=Sh.enc [(true,bH),(false,.bool)] (found dO (cJ m n))
    rw[←hf];rfl
  ·rw[if_neg (by simpa using hc)] at hf
   rw[cI]
   exact hX _ hlt ⟨rV (by omega),hf⟩
 ·rw[List.length_map] at hge
  have:k=m.1.length:=by omega
  subst this
  rw[List.drop_length] at hf
  show _=Sh.enc [(true,bH),(false,.bool)] (found dO (cJ m n))
  rw[←hf];rfl
theorem rQ {m:aN} (h:BK m=true) (n:ByteArray):eM [aC true aE m,T.v (.string n)]=some (Sh.enc [(true,bH),(false,.bool)] (found dO (cJ m n))):=(TP ..).trans (p0 _ h)
noncomputable def NJ:Env:=Env.of []
def AES:FuncId→Hint:=fun f=>match f == 122 with|true=>⟨fun r=>match r == 2 with|true=>.inv [.val 6 false (.int .i64),.fix 1]|false=>.none,fun _ _=>none,fun _=>none⟩|false=>aV
theorem AKI:aH Tryz.prog NJ:=aH.nil _
def OR (a0:aN) (a1:ByteArray) (R:T→Prop):Prop :=
 fE
 (bB.rows false
 [[D.p (T.v (.string { data:=#[] })),D.p (T.v (.int .i64 0)),
 D.p (T.v (.int .i64 0)),D.p (T.v (.int .i64 0))]])
 (bB.rows false
 [[D.p (T.v (.string { data:=#[] })),D.p (T.v (.int .i64 0)),
 D.p (T.v (.int .i64 0)),D.p (T.v (.int .i64 0))]])
 (bA (Int×PUnit×PUnit)
 (fun (X0:Int×PUnit×PUnit→Prop) (s1:Int×PUnit×PUnit) =>
 aB (decide (s1.1<(↑(List.map a7.enc a0.2).length:Int)))
 (aO a7 (List.map a7.enc a0.2) s1.1 fun (y2:bU) =>
 aB (decide (y2.1=a1))
 (aO a7 (List.map a7.enc a0.2) s1.1 fun (y3:bU) =>
 R (T.cR [aC true a7 y3,T.v (.bool true)]))
 (fE
 (bB.rows false
 [[D.p (T.v (.string { data:=#[] })),
 D.p (T.v (.int .i64 0)),
 D.p (T.v (.int .i64 0)),
 D.p (T.v (.int .i64 0))]])
 (bB.rows false
 [[D.p (T.v (.string { data:=#[] })),
 D.p (T.v (.int .i64 0)),
 D.p (T.v (.int .i64 0)),
 D.p (T.v (.int .i64 0))]])
 (X0 (IntKind.i64.wrap (s1.1+1),(),()))))
 (R
 (T.cR
 [T.agg
 [T.v (.string { data:=#[] }),T.v (.int .i64 0),
 T.v (.int .i64 0),T.v (.int .i64 0)],
 T.v (.bool false)])))
 (0,(),()))
theorem ADK ( a0 a1 R):bC aY Tryz.prog NJ AES 8 122 [aC true aE a0,aC false Sy.str a1] R=OR a0 a1 R:=by kernel_rfl
abbrev FR:Sh:=[(true,aE),(false,Sy.str)]
def JX (x:aN×ByteArray):Option T:=some (Sh.enc [(true,a7),(false,.bool)] (found nQ (qA x.1 x.2)))
noncomputable def j7:List T→Option (T):=gS FR JX
theorem AHB {a0 a1}:j7 [aC true aE a0,T.v (.string a1)]=JX (a0,a1):=a8 (s:=FR) rfl (a0,a1) rfl
theorem AVA (h:∀ a0 a1 r,JX (a0,a1)=some r→b8 FR (a0,a1)→OR a0 a1 (fun y=>y=r)):aK Tryz.prog 122 j7 :=
 aR (E:=NJ) (Hs:=AES) AKI aW aX (aM rfl) 8 ⟨_,_,Tryz.func122,rfl⟩ rfl fun x r h1 h2=>by
  obtain ⟨a0,a1⟩:=x
  rw[show Sh.bN FR (a0,a1)=[aC true aE a0,aC false Sy.str a1] from rfl,ADK]
  exact h a0 a1 r h1 h2
theorem U9:aK Tryz.prog 122 j7:=AVA fun m n r h hb=>by
 cases h
 have hl:m.2.length≤2 ^ 47:=hb.1.2.1
 unfold OR
 rw[cI]
 refine aZ m.2.length (fun k s=>s.1=(k:Int)∧(m.2.drop k).find? (fun s=>decide (s.1=n))=qA m n) ⟨rfl,rfl⟩ ?_
 rintro X k ⟨i,u1,u2⟩ hk ⟨rfl,hf⟩ hX
 dsimp only at hf ⊢
 refine bL (fun hlt=>?_) fun hge=>?_
 ·rw[List.length_map] at hlt
  have hlt:k<m.2.length:=by omega
  rw[mH hlt] at hf
  rw[aT (r:=a7) hlt]
  refine bL (fun hc=>?_) fun hc=>?_
  ·rw[if_pos (decide_eq_true hc)] at hf
   rw[aT (r:=a7) hlt]
   show _=Sh.enc [(true,a7),(false,.bool)] (found nQ (qA m n))
   rw[←hf];rfl
  ·rw[if_neg (by simpa using hc)] at hf
   rw[cI]
   exact hX _ hlt ⟨by show IntKind.i64.wrap ((k:Int)+1)=_;exact aS _ (by omega) (by omega),hf⟩
 ·rw[List.length_map] at hge
  have:k=m.2.length:=by omega
  subst this
  rw[List.drop_length] at hf
  show _=Sh.enc [(true,a7),(false,.bool)] (found nQ (qA m n))
  rw[←hf];rfl
theorem KY (m:aN) (n:ByteArray):j7 [aC true aE m,T.v (.string n)]=some (Sh.enc [(true,a7),(false,.bool)] (found nQ (qA m n))):=AHB ..
noncomputable def wV:Env:=Env.of [(121,.pure eM)]
def KK:FuncId→Hint:=fun f=>match f == 141 with|true=>⟨fun r=>match r == 3 with|true=>.inv [.val 9 false (.int .i64)]|false=>.none,fun _ _=>none,fun _=>none⟩|false=>aV
theorem S8:aH Tryz.prog wV:=aH.cons (x:=.pure eM) xD (aH.nil _)
def wW (a0:aN) (a1:ByteArray) (a2:Int) (R:T→Prop):Prop :=
 aG [(true,bH),(false,Sy.bool)]
 (eM [aC true aE a0,T.v (.string a1)])
 fun (y0:cS×Bool) =>
 bA (Int×PUnit)
 (fun (X1:Int×PUnit→Prop) (s2:Int×PUnit) =>
 aB (decide (s2.1<(↑(List.map (Sy.int IntKind.i64).enc y0.1.2.2.2).length:Int)))
 (aO (Sy.int IntKind.i64) (List.map (Sy.int IntKind.i64).enc y0.1.2.2.2)
 s2.1 fun (y3:Int) =>
 aB (decide (y3=a2)) (R (T.v (.bool true)))
 (X1 (IntKind.i64.wrap (s2.1+1),())))
 (R (T.v (.bool false))))
 (0,())
theorem OQ ( a0 a1 a2 R):bC aY Tryz.prog wV KK 8 141 [aC true aE a0,aC false Sy.str a1,
 aC false (Sy.int IntKind.i64) a2] R=wW a0 a1 a2 R:=by kernel_rfl
abbrev rK:Sh:=[(true,aE),(false,Sy.str),(false,(Sy.int IntKind.i64))]
def wC (x:aN×ByteArray×Int):Option T:=xZ x.1 (T.v (.bool (iB x.1 x.2.1 x.2.2)))
noncomputable def jF:List T→Option (T):=gS rK wC
theorem Q1 {a0 a1 a2}:jF [aC true aE a0,T.v (.string a1),T.v (.int .i64 a2)]=wC (a0,a1,a2):=a8 (s:=rK) rfl (a0,a1,a2) rfl
theorem AA5 (h:∀ a0 a1 a2 r,wC (a0,a1,a2)=some r→b8 rK (a0,a1,a2)→wW a0 a1 a2 (fun y=>y=r)):aK Tryz.prog 141 jF :=
 aR (E:=wV) (Hs:=KK) S8 aW aX (aM rfl) 8 ⟨_,_,Tryz.func141,rfl⟩ rfl fun x r h1 h2=>by
  obtain ⟨a0,a1,a2⟩:=x
  rw[show Sh.bN rK (a0,a1,a2)=[aC true aE a0,aC false Sy.str a1,
 aC false (Sy.int IntKind.i64) a2] from rfl,OQ]
  exact h a0 a1 a2 r h1 h2
theorem ZT:aK Tryz.prog 141 jF:=AA5 fun m n t r h hb=>by
 obtain ⟨hok,rfl⟩:=pZ h
 clear h
 replace hok:BK m=true:=hok
 have is:∀ {b:Bool},iB m n t=b→T.v (.bool b)=T.v (.bool (iB m n t)):=fun h=>by rw[h]
 unfold wW
 refine aD (s:=[(true,bH),(false,.bool)]) (y:=found dO (cJ m n)) (rQ hok n) ?_
 have w:iB m n t=(found dO (cJ m n)).1.2.2.2.any fun x=>decide (t=x):=by
  unfold iB
  cases cJ m n<;>rfl
 have hlen:(found dO (cJ m n)).1.2.2.2.length≤1000:=by
  cases hg:cJ m n with
  | none=>exact Nat.zero_le _
  | some g =>
   simp only[BK,Bool.and_eq_true,decide_eq_true_eq] at hok
   exact of_decide_eq_true (List.all_eq_true.1 hok.2 _ (List.mem_of_find?_eq_some hg))
 generalize (found dO (cJ m n)).1.2.2.2=g at w hlen ⊢
 refine aZ g.length (fun k s=>s=((k:Int),())∧g.any (fun x=>decide (t=x))=(g.drop k).any fun x=>decide (t=x)) ⟨rfl,by rw[List.drop_zero]⟩ ?_
 rintro X k s hk ⟨rfl,hf⟩ hX
 dsimp only
 refine bL (fun hlt=>?_) fun hge=>is ?_
 ·rw[List.length_map] at hlt
  have hlt:k<g.length:=by omega
  rw[List.drop_eq_getElem_cons hlt,List.any_cons] at hf
  rw[aT (r:=.int .i64) hlt]
  refine bL (fun hc=>is ?_) fun hc=>hX _ hlt ⟨by rw[rV (by omega)],by rw[hf,decide_eq_false (fun e=>hc e.symm),Bool.false_or]⟩
  rw[w,hf,decide_eq_true hc.symm];rfl
 ·rw[List.length_map] at hge
  have:k=g.length:=by omega
  subst this
  rw[w,hf,List.drop_length];rfl
theorem Q2 {m:aN} (h:BK m=true) (n:ByteArray) (t:Int):jF [aC true aE m,T.v (.string n),T.v (Value.int .i64 t)]=some (Sh.enc [(false,.bool)] (iB m n t)):=(Q1 ..).trans (p0 _ h)
end Go.Pv
namespace Go.Pv
open Go Go.Proofs
def DR (s:ByteArray):Bool:=decide (s.size≤1099511627776)
theorem Q9 {s:ByteArray} (h:DR s=true):dK [T.v (.string s)]=some (Sh.enc x7 (gX s)):=by
 rw[AGW];unfold uF;rw[show decide (s.size≤1099511627776)=true from h]
def A4Q (p:bM):Bool:=decide (1≤bG p)&&decide (bG p≤4)
def JA {α:Type} (p:bM) (r:α):Option α:=match A4Q p with
 | true=>some r
 | false=>none
theorem V3 {α:Type} {p:bM} {t r:α} (h:JA p t=some r):(bG p=1∨bG p=2∨bG p=3∨bG p=4)∧r=t:=by
 unfold JA at h;split at h
 ·rename_i hc
  simp only[A4Q,Bool.and_eq_true,decide_eq_true_eq] at hc
  cases h;exact ⟨by omega,rfl⟩
 ·cases h
theorem V4 {α:Type} {p:bM} (t:α) (h:bG p=1∨bG p=2∨bG p=3∨bG p=4):JA p t=some t:=by
 unfold JA;rw[show A4Q p=true by simp only[A4Q,Bool.and_eq_true,decide_eq_true_eq];omega]
theorem BAW {α β:Type} (a:List α) (b:List β):(0<a.length+b.length)↔(¬ a=[]∨¬ b=[]):=by cases a<;>cases b<;>simp<;>omega
noncomputable def G9:Env:=Env.of []
def UQ:FuncId→Hint:=fun _=>aV
theorem ACW:aH Tryz.prog G9:=aH.nil _
def H4 (a0:bM) (R:T→Prop):Prop :=
 aB (!decide (a0.2.2.2.2.2.1=0))
 (aB (!decide (a0.2.2.2.2.2.2.2.1 = { data:=#[] }))
 (aB (!decide (a0.2.2.2.2.2.2.2.2.2.1=0))
 (aB (decide (a0.2.2.1=1)) (R (T.v (.bool true)))
 (aB (decide (a0.2.2.1=4)) (R (T.v (.bool true)))
 (R (T.v (.bool true)))))
 (aB (decide (a0.2.2.1=1)) (R (T.v (.bool true)))
 (aB (decide (a0.2.2.1=4)) (R (T.v (.bool true)))
 (R (T.v (.bool true))))))
 (aB (!decide (a0.2.2.2.2.2.2.2.2.2.1=0))
 (aB (decide (a0.2.2.1=1))
 (aB (!decide (a0.2.2.2.2.2.2.2.2.1=0)) (R (T.v (.bool true)))
 (R (T.v (.bool true))))
 (aB (decide (a0.2.2.1=4)) (R (T.v (.bool true)))
 (R (T.v (.bool true)))))
 (aB (decide (a0.2.2.1=1))
 (aB (!decide (a0.2.2.2.2.2.2.2.2.1=0)) (R (T.v (.bool true)))
 (R
 (T.v
 (Value.bool
 !(decide (a0.2.2.2.2.2.2.2.2.2.2.1.1=0) &&
 (decide (a0.2.2.2.2.2.2.2.2.2.2.1.2.1=0) &&
 (decide (a0.2.2.2.2.2.2.2.2.2.2.1.2.2=0)&&true)))))))
 (aB (decide (a0.2.2.1=4)) (R (T.v (.bool true)))
 (R (T.v (.bool true)))))))
 (aB (decide ((↑(List.map aA.enc a0.2.2.2.2.2.2.1.1).length:Int)=0))
 (aB (!decide (a0.2.2.2.2.2.2.2.1 = { data:=#[] }))
 (aB (!decide (a0.2.2.2.2.2.2.2.2.2.1=0))
 (aB (decide (a0.2.2.1=1)) (R (T.v (.bool true)))
 (aB (decide (a0.2.2.1=4))
 (aB
 (!decide ((↑(List.map aA.li.enc a0.2.2.2.2.2.2.1.2).length:Int)=0))
 (R (T.v (.bool true))) (R (T.v (.bool true))))
 (aB
 (!decide ((↑(List.map aA.li.enc a0.2.2.2.2.2.2.1.2).length:Int)=0))
 (R (T.v (.bool true))) (R (T.v (.bool true))))))
 (aB (decide (a0.2.2.1=1)) (R (T.v (.bool true)))
 (aB (decide (a0.2.2.1=4))
 (aB
 (!decide ((↑(List.map aA.li.enc a0.2.2.2.2.2.2.1.2).length:Int)=0))
 (R (T.v (.bool true))) (R (T.v (.bool true))))
 (aB
 (!decide ((↑(List.map aA.li.enc a0.2.2.2.2.2.2.1.2).length:Int)=0))
 (R (T.v (.bool true)))
 (R
 (T.v
 (Value.bool
 !(decide (a0.2.2.2.2.2.2.2.2.2.2.1.1=0) &&
 (decide (a0.2.2.2.2.2.2.2.2.2.2.1.2.1=0) &&
 (decide (a0.2.2.2.2.2.2.2.2.2.2.1.2.2=0)&&true))))))))))
 (aB (!decide (a0.2.2.2.2.2.2.2.2.2.1=0))
 (aB (decide (a0.2.2.1=1))
 (aB (!decide (a0.2.2.2.2.2.2.2.2.1=0)) (R (T.v (.bool true)))
 (R (T.v (.bool true))))
 (aB (decide (a0.2.2.1=4))
 (aB
 (!decide ((↑(List.map aA.li.enc a0.2.2.2.2.2.2.1.2).length:Int)=0))
 (R (T.v (.bool true)))
 (aB (!decide (a0.2.2.2.2.2.2.2.2.1=0)) (R (T.v (.bool true)))
 (R (T.v (.bool !decide (a0.2.2.2.2.1 = { data:=#[] }))))))
 (aB
 (!decide ((↑(List.map aA.li.enc a0.2.2.2.2.2.2.1.2).length:Int)=0))
 (R (T.v (.bool true))) (R (T.v (.bool true))))))
 (aB (decide (a0.2.2.1=1))
 (aB (!decide (a0.2.2.2.2.2.2.2.2.1=0)) (R (T.v (.bool true)))
 (R
 (T.v
 (Value.bool
 !(decide (a0.2.2.2.2.2.2.2.2.2.2.1.1=0) &&
 (decide (a0.2.2.2.2.2.2.2.2.2.2.1.2.1=0) &&
 (decide (a0.2.2.2.2.2.2.2.2.2.2.1.2.2=0)&&true)))))))
 (aB (decide (a0.2.2.1=4))
 (aB
 (!decide ((↑(List.map aA.li.enc a0.2.2.2.2.2.2.1.2).length:Int)=0))
 (R (T.v (.bool true)))
 (aB (!decide (a0.2.2.2.2.2.2.2.2.1=0)) (R (T.v (.bool true)))
 (R (T.v (.bool !decide (a0.2.2.2.2.1 = { data:=#[] }))))))
 (aB
 (!decide ((↑(List.map aA.li.enc a0.2.2.2.2.2.2.1.2).length:Int)=0))
 (R (T.v (.bool true)))
 (R
 (T.v
 (Value.bool
 !(decide (a0.2.2.2.2.2.2.2.2.2.2.1.1=0) &&
 (decide (a0.2.2.2.2.2.2.2.2.2.2.1.2.1=0) &&
 (decide (a0.2.2.2.2.2.2.2.2.2.2.1.2.2=0)&&true)))))))))))
 (aB (!decide (a0.2.2.2.2.2.2.2.1 = { data:=#[] }))
 (aB (!decide (a0.2.2.2.2.2.2.2.2.2.1=0))
 (aB (decide (a0.2.2.1=1)) (R (T.v (.bool true)))
 (aB (decide (a0.2.2.1=4)) (R (T.v (.bool true)))
 (R (T.v (.bool true)))))
 (aB (decide (a0.2.2.1=1)) (R (T.v (.bool true)))
 (aB (decide (a0.2.2.1=4)) (R (T.v (.bool true)))
 (R (T.v (.bool true))))))
 (aB (!decide (a0.2.2.2.2.2.2.2.2.2.1=0))
 (aB (decide (a0.2.2.1=1))
 (aB (!decide (a0.2.2.2.2.2.2.2.2.1=0)) (R (T.v (.bool true)))
 (R (T.v (.bool true))))
 (aB (decide (a0.2.2.1=4)) (R (T.v (.bool true)))
 (R (T.v (.bool true)))))
 (aB (decide (a0.2.2.1=1))
 (aB (!decide (a0.2.2.2.2.2.2.2.2.1=0)) (R (T.v (.bool true)))
 (R
 (T.v
 (Value.bool
 !(decide (a0.2.2.2.2.2.2.2.2.2.2.1.1=0) &&
 (decide (a0.2.2.2.2.2.2.2.2.2.2.1.2.1=0) &&
 (decide (a0.2.2.2.2.2.2.2.2.2.2.1.2.2=0)&&true)))))))
 (aB (decide (a0.2.2.1=4)) (R (T.v (.bool true)))
 (R (T.v (.bool true))))))))
theorem Y3 ( a0 R):bC aY Tryz.prog G9 UQ 8 116 [aC true aU a0] R=H4 a0 R:=by kernel_rfl
abbrev AM:Sh:=[(true,aU)]
def DI (p:bM):Option T:=JA p (T.v (.bool (iC p)))
noncomputable def mQ:List T→Option (T):=gS AM DI
theorem AAM {a0}:mQ [aC true aU a0]=DI (a0):=a8 (s:=AM) rfl (a0) rfl
theorem AOP (h:∀ a0 r,DI (a0)=some r→b8 AM (a0)→H4 a0 (fun y=>y=r)):aK Tryz.prog 116 mQ :=
 aR (E:=G9) (Hs:=UQ) ACW aW aX (aM rfl) 8 ⟨_,_,Tryz.func116,rfl⟩ rfl fun x r h1 h2=>by
  let a0:=x
  rw[show Sh.bN AM (a0)=[aC true aU a0] from rfl,Y3]
  exact h a0 r h1 h2
theorem AMZ:aK Tryz.prog 116 mQ:=AOP fun p r h hb=>by
 obtain ⟨hk,rfl⟩:=V3 h
 clear h hb
 unfold H4
 simp only[List.length_map,Bool.and_true]
 repeat' first
  | refine gP (fun h=>?_) (fun h=>?_)
  | refine bL (fun h=>?_) (fun h=>?_)
 all_goals (refine cM ?_;unfold iC SH AZ6 A0G bG fT dH CB kK iF pD dS)
 all_goals (replace hk:p.2.2.1=1∨p.2.2.1=2∨p.2.2.1=3∨p.2.2.1=4:=hk;rcases hk with k|k|k|k)
 all_goals (try (exfalso;omega))
 all_goals (simp_all[List.length_pos_iff,BAW])
 all_goals (try omega)
noncomputable def GP:Env:=Env.of [(121,.pure eM),(122,.pure j7),(141,.pure jF)]
def T7:FuncId→Hint:=fun _=>aV
theorem ACC:aH Tryz.prog GP:=aH.cons (x:=.pure eM) xD (aH.cons (x:=.pure j7) U9 (aH.cons (x:=.pure jF) ZT (aH.nil _)))
def HJ (a0:bM) (a1:aN) (R:T→Prop):Prop :=
 aB (decide (a0.2.2.1=4)) (R (T.v (.bool true)))
 (aG [(true,bH),(false,Sy.bool)]
 (eM [aC true aE a1,T.v (.string a0.2.2.2.2.1)])
 fun (y0:cS×Bool) =>
 aB (!y0.2) (R (T.v (.bool false)))
 (aB (decide (y0.1.2.1<1000)) (R (T.v (.bool false)))
 (aB (decide (20000<y0.1.2.1)) (R (T.v (.bool false)))
 (aB (decide (a0.2.2.1=1))
 (aB (decide (1≤a0.2.2.2.2.2.1))
 (aB (decide (a0.2.2.2.2.2.1≤120))
 (aG [(false,Sy.bool)]
 (jF
 [aC true aE a1,T.v (.string a0.2.2.2.2.1),
 T.v (.int .i64 a0.2.2.2.2.2.1)])
 fun (y1:Bool)=>R (T.v (.bool y1)))
 (R (T.v (.bool false))))
 (R (T.v (.bool false))))
 (aG [(true,a7),(false,Sy.bool)]
 (j7
 [aC true aE a1,T.v (.string a0.2.2.2.2.2.2.2.1)])
 fun (y2:bU×Bool) =>
 aB y2.2
 (aB (decide (1≤y2.1.2.1))
 (aB (decide (y2.1.2.1≤1000000))
 (aB (decide (1≤y2.1.2.2.1))
 (R (T.v (.bool (decide (y2.1.2.2.1≤2000)))))
 (R (T.v (.bool false))))
 (R (T.v (.bool false))))
 (R (T.v (.bool false))))
 (R (T.v (.bool false))))))))
theorem YC ( a0 a1 R):bC aY Tryz.prog GP T7 8 117 [aC true aU a0,aC true aE a1] R=HJ a0 a1 R:=by kernel_rfl
abbrev zW:Sh:=[(true,aU),(true,aE)]
def qD (x:bM×aN):Option T:=match BK x.2 with
 | true=>JA x.1 (T.v (.bool (dA x.1 x.2)))
 | false=>none
noncomputable def mM:List T→Option (T):=gS zW qD
theorem Z3 {a0 a1}:mM [aC true aU a0,aC true aE a1]=qD (a0,a1):=a8 (s:=zW) rfl (a0,a1) rfl
theorem AN6 (h:∀ a0 a1 r,qD (a0,a1)=some r→b8 zW (a0,a1)→HJ a0 a1 (fun y=>y=r)):aK Tryz.prog 117 mM :=
 aR (E:=GP) (Hs:=T7) ACC aW aX (aM rfl) 8 ⟨_,_,Tryz.func117,rfl⟩ rfl fun x r h1 h2=>by
  obtain ⟨a0,a1⟩:=x
  rw[show Sh.bN zW (a0,a1)=[aC true aU a0,aC true aE a1] from rfl,YC]
  exact h a0 a1 r h1 h2
theorem AML:aK Tryz.prog 117 mM:=AN6 fun p m r h hb=>by
 unfold qD at h
 split at h
 case h_2=>cases h
 rename_i hok
 replace hok:BK m=true:=hok
 obtain ⟨hk,rfl⟩:=V3 h
 clear h hb
 have is:∀ {n:Bool},dA p m=n→T.v (.bool n)=T.v (.bool (dA p m)):=fun h=>by rw[h]
 unfold HJ
 refine bL (fun h=>is (by unfold dA;rw[if_pos h])) fun k4=>?_
 refine aD (s:=[(true,bH),(false,.bool)]) (rQ hok _) ?_
 cases hg:cJ m (dS p) with
 | none =>
  show aB true _ _
  rw[eU];exact is (by unfold dA;rw[if_neg k4,hg])
 | some g =>
  show aB false _ _
  rw[fV]
  dsimp only[found]
  have w0:dA p m=(decide (1000≤g.2.1)&&decide (g.2.1≤20000)&&(if bG p=1 then decide (1≤fT p)&&decide (fT p≤120)&&iB m (dS p) (fT p) else LJ m (CB p))):=by unfold dA;rw[if_neg k4,hg]
  refine bL (fun h=>is (by rw[w0,decide_eq_false (show ¬ 1000≤g.2.1 by omega)];rfl)) fun d1=>?_
  refine bL (fun h=>is (by rw[w0,decide_eq_false (show ¬ g.2.1≤20000 by omega)];simp)) fun d2=>?_
  rw[decide_eq_true (show 1000≤g.2.1 by omega),decide_eq_true (show g.2.1≤20000 by omega)] at w0
  refine bL (fun k1=>?_) fun k1=>?_
  ·rw[if_pos k1] at w0
   refine bL (fun h1=>bL (fun h2=>?_) fun h2=>is ?_) fun h1=>is ?_
   ·refine aD (s:=[(false,.bool)]) (y:=iB m (dS p) (fT p)) (Q2 hok _ _) (is ?_)
    rw[w0,decide_eq_true h1,decide_eq_true h2];rfl
   ·rw[w0,decide_eq_true h1,decide_eq_false h2];rfl
   ·rw[w0,decide_eq_false h1];rfl
  ·rw[if_neg k1] at w0
   refine aD (s:=[(true,a7),(false,.bool)]) (KY m _) ?_
   cases hs:qA m (CB p) with
   | none =>
    show aB false _ _
    rw[fV];exact is (by rw[w0];unfold LJ;rw[hs];rfl)
   | some s =>
    show aB true _ _
    rw[eU]
    dsimp only[found]
    have w2:dA p m=(decide (1≤s.2.1)&&decide (s.2.1≤1000000)&&(decide (1≤s.2.2.1)&&decide (s.2.2.1≤2000))):=by rw[w0];unfold LJ;rw[hs];rfl
    refine bL (fun h1=>bL (fun h2=>bL (fun h3=>is ?_) fun h3=>is ?_) fun h2=>is ?_) fun h1=>is ?_
    ·rw[w2,decide_eq_true h1,decide_eq_true h2,decide_eq_true h3];rfl
    ·rw[w2,decide_eq_true h1,decide_eq_true h2,decide_eq_false h3];rfl
    ·rw[w2,decide_eq_true h1,decide_eq_false h2];rfl
    ·rw[w2,decide_eq_false h1];rfl
noncomputable def W8:Env:=Env.of []
def APP:FuncId→Hint:=fun _=>aV
theorem ARW:aH Tryz.prog W8:=aH.nil _
def XY (a0:AFH) (R:T→Prop):Prop :=
 aB (decide (a0.1 < -524288)) (R (T.v (.bool true)))
 (aB (decide (524288<a0.1)) (R (T.v (.bool true)))
 (aB (decide (a0.2.1 < -524288)) (R (T.v (.bool true)))
 (aB (decide (524288<a0.2.1)) (R (T.v (.bool true)))
 (aB (decide (a0.2.2 < -524288)) (R (T.v (.bool true)))
 (R (T.v (.bool (decide (524288<a0.2.2)))))))))
theorem ALB ( a0 R):bC aY Tryz.prog W8 APP 8 119 [aC true KJ a0] R=XY a0 R:=by kernel_rfl
abbrev MH:Sh:=[(true,KJ)]
def SM (v:AFH):Option T:=some (T.v (.bool (!iN v)))
noncomputable def uY:List T→Option (T):=gS MH SM
theorem AM9 {a0}:uY [aC true KJ a0]=SM (a0):=a8 (s:=MH) rfl (a0) rfl
theorem A0Z (h:∀ a0 r,SM (a0)=some r→b8 MH (a0)→XY a0 (fun y=>y=r)):aK Tryz.prog 119 uY :=
 aR (E:=W8) (Hs:=APP) ARW aW aX (aM rfl) 8 ⟨_,_,Tryz.func119,rfl⟩ rfl fun x r h1 h2=>by
  let a0:=x
  rw[show Sh.bN MH (a0)=[aC true KJ a0] from rfl,ALB]
  exact h a0 r h1 h2
theorem AY6:aK Tryz.prog 119 uY:=A0Z fun v r h hb=>by
 cases h
 unfold XY
 have pb:iN v=true↔(-524288≤v.1∧v.1≤524288)∧(-524288≤v.2.1∧v.2.1≤524288)∧(-524288≤v.2.2∧v.2.2≤524288):=by
  unfold iN
  simp only[Bool.and_eq_true,decide_eq_true_eq]
  omega
 have no:¬ ((-524288≤v.1∧v.1≤524288)∧(-524288≤v.2.1∧v.2.1≤524288)∧(-524288≤v.2.2∧v.2.2≤524288))→T.v (.bool true)=T.v (.bool (!iN v)):=fun h=>cM (by
  rw[show iN v=false by rw[Bool.eq_false_iff];exact fun h2=>h (pb.1 h2)];rfl)
 refine bL (fun h=>no (by omega)) fun h1=>bL (fun h=>no (by omega)) fun h2=>bL (fun h=>no (by omega)) fun h3=>bL (fun h=>no (by omega)) fun h4=>bL (fun h=>no (by omega)) fun h5=>cM ?_
 rw[Bool.eq_iff_iff,Bool.not_eq_true',←Bool.not_eq_true,pb,decide_eq_true_eq]
 omega
def A8A (p:bM) (m:aN):Bool:=BK m&&(DR p.1&&DR (eY p))
def JB {α:Type} (p:bM) (m:aN) (r:α):Option α:=match A8A p m with
 | true=>some r
 | false=>none
theorem V5 {α:Type} {p:bM} {m:aN} {t r:α} (h:JB p m t=some r):BK m=true∧DR p.1=true∧DR (eY p)=true∧r=t:=by
 unfold JB at h;split at h
 ·rename_i hc
  simp only[A8A,Bool.and_eq_true] at hc
  cases h;exact ⟨hc.1,hc.2.1,hc.2.2,rfl⟩
 ·cases h
theorem V6 {α:Type} {p:bM} {m:aN} (t:α) (h:BK m=true) (h1:DR p.1=true) (h2:DR (eY p)=true):JB p m t=some t:=by
 unfold JB A8A;rw[h,h1,h2];rfl
noncomputable def NP:Env:=Env.of [(79,.pure dK),(116,.pure mQ),(117,.pure mM),(118,.pure jK),(119,.pure uY),(120,.pure iR)]
def AEY:FuncId→Hint:=fun _=>aV
theorem AKO:aH Tryz.prog NP:=aH.cons (x:=.pure dK) yX (aH.cons (x:=.pure mQ) AMZ (aH.cons (x:=.pure mM) AML (aH.cons (x:=.pure jK) VF (aH.cons (x:=.pure uY) AY6 (aH.cons (x:=.pure iR) AM0 (aH.nil _))))))
def OX (a0:bM) (a1:aN) (R:T→Prop):Prop :=
 aG [(false,Sy.bool)] (dK [T.v (.string a0.1)]) fun (y0:Bool) =>
 aB (!y0) (R (T.v (.int .i64 6)))
 (aG [(false,Sy.bool)] (dK [T.v (.string a0.2.2.2.1)])
 fun (y1:Bool) =>
 aB (!y1) (R (T.v (.int .i64 6)))
 (aB (decide (a0.2.1<1)) (R (T.v (.int .i64 9)))
 (aB (decide (1000<a0.2.1)) (R (T.v (.int .i64 9)))
 (aB (decide (a0.2.2.1<1)) (R (T.v (.int .i64 10)))
 (aB (decide (4<a0.2.2.1)) (R (T.v (.int .i64 10)))
 (aG [(false,Sy.bool)] (mQ [aC true aU a0])
 fun (y2:Bool) =>
 aB y2 (R (T.v (.int .i64 2)))
 (aG [(false,Sy.bool)]
 (mM [aC true aU a0,aC true aE a1])
 fun (y3:Bool) =>
 aB (!y3) (R (T.v (.int .i64 23)))
 (aB (decide (a0.2.2.1=1))
 (aG [(false,Sy.int IntKind.i64)]
 (jK [aC true cF a0.2.2.2.2.2.2.1])
 fun (y4:Int) =>
 aB (!decide (y4=0)) (R (T.v (.int .i64 y4)))
 (aG [(false,Sy.bool)]
 (iR
 [aC true cW a0.2.2.2.2.2.2.2.2.2.2.2])
 fun (y5:Bool) =>
 aB (!y5) (R (T.v (.int .i64 9)))
 (R (T.v (.int .i64 0)))))
 (aB (decide (a0.2.2.1=4))
 (aB (decide (a0.2.2.2.2.2.2.2.2.2.1<1))
 (R (T.v (.int .i64 9)))
 (aB (decide (1099511627776<a0.2.2.2.2.2.2.2.2.2.1))
 (R (T.v (.int .i64 9)))
 (aG [(false,Sy.bool)]
 (uY
 [aC true KJ a0.2.2.2.2.2.2.2.2.2.2.1])
 fun (y6:Bool) =>
 aB y6 (R (T.v (.int .i64 9)))
 (aG [(false,Sy.bool)]
 (iR
 [aC true cW a0.2.2.2.2.2.2.2.2.2.2.2])
 fun (y7:Bool) =>
 aB (!y7) (R (T.v (.int .i64 9)))
 (R (T.v (.int .i64 0)))))))
 (aB (decide (a0.2.2.2.2.2.2.2.2.1<1))
 (R (T.v (.int .i64 9)))
 (aB (decide (32768<a0.2.2.2.2.2.2.2.2.1))
 (R (T.v (.int .i64 9)))
 (aG [(false,Sy.bool)]
 (iR
 [aC true cW a0.2.2.2.2.2.2.2.2.2.2.2])
 fun (y8:Bool) =>
 aB (!y8) (R (T.v (.int .i64 9)))
 (R (T.v (.int .i64 0)))))))))))))))
theorem ADQ ( a0 a1 R):bC aY Tryz.prog NP AEY 8 82 [aC true aU a0,aC true aE a1] R=OX a0 a1 R:=by kernel_rfl
abbrev FY:Sh:=[(true,aU),(true,aE)]
def J0 (x:bM×aN):Option T:=JB x.1 x.2 (T.v (Value.int .i64 (eA x.1 x.2)))
noncomputable def j9:List T→Option (T):=gS FY J0
theorem AHE {a0 a1}:j9 [aC true aU a0,aC true aE a1]=J0 (a0,a1):=a8 (s:=FY) rfl (a0,a1) rfl
theorem AVG (h:∀ a0 a1 r,J0 (a0,a1)=some r→b8 FY (a0,a1)→OX a0 a1 (fun y=>y=r)):aK Tryz.prog 82 j9 :=
 aR (E:=NP) (Hs:=AEY) AKO aW aX (aM rfl) 8 ⟨_,_,Tryz.func82,rfl⟩ rfl fun x r h1 h2=>by
  obtain ⟨a0,a1⟩:=x
  rw[show Sh.bN FY (a0,a1)=[aC true aU a0,aC true aE a1] from rfl,ADQ]
  exact h a0 a1 r h1 h2
theorem VC:aK Tryz.prog 82 j9:=AVG fun p m r h hb=>by
 obtain ⟨hok,hs1,hs2,rfl⟩:=V5 h
 replace hok:BK m=true:=hok
 clear h hb
 have is:∀ {n:Int},eA p m=n→T.v (.int .i64 n)=T.v (.int .i64 (eA p m)):=fun h=>by rw[h]
 unfold OX
 refine aD (s:=x7) (y:=gX p.1) (Q9 hs1) ?_
 refine dM (fun h=>is (by unfold eA;rw[if_pos (.inl h)])) fun i1=>?_
 refine aD (s:=x7) (y:=gX (eY p)) (Q9 hs2) ?_
 refine dM (fun h=>is (by unfold eA;rw[if_pos (.inr h)])) fun i2=>?_
 have n1:¬ (gX p.1=false∨gX (eY p)=false):=by
  rintro (h|h)
  ·rw[show gX p.1=true from i1] at h;cases h
  ·rw[show gX (eY p)=true from i2] at h;cases h
 have r9:¬ (1≤p.2.1∧p.2.1≤1000)→T.v (.int .i64 9)=T.v (.int .i64 (eA p m)):=fun h=>is (by unfold eA;rw[if_neg n1,if_pos h])
 refine bL (fun h=>r9 (by omega)) fun v1=>bL (fun h=>r9 (by omega)) fun v2=>?_
 have n2:¬ ¬ (1≤p.2.1∧p.2.1≤1000):=fun h=>h (by omega)
 have r10:¬ (bG p=1∨bG p=2∨bG p=3∨bG p=4)→T.v (.int .i64 10)=T.v (.int .i64 (eA p m)):=fun h=>is (by unfold eA;rw[if_neg n1,if_neg n2,if_pos h])
 refine bL (fun h=>r10 (by unfold bG;omega)) fun k1=>bL (fun h=>r10 (by unfold bG;omega)) fun k2=>?_
 have hk:bG p=1∨bG p=2∨bG p=3∨bG p=4:=by unfold bG;omega
 have w1:eA p m=if iC p=true then 2 else if dA p m=false then 23 else if bG p=1∧¬ gM (dH p)=0 then gM (dH p) else if (bG p=2∨bG p=3)∧¬ (1≤kK p∧kK p≤32768) then 9 else if bG p=4∧¬ (1≤iF p∧iF p≤1099511627776∧iN (pD p)=true) then 9 else if iU (aAt p)=false then 9 else 0:=by
  unfold eA;rw[if_neg n1,if_neg n2,if_neg (fun h=>h hk)]
 have spare:∀ {K:Bool→Prop},K (iC p)→aG [(false,Sy.bool)] (mQ [aC true aU p]) K:=fun h=>aD (s:=[(false,.bool)]) (y:=iC p) ((AAM ..).trans (V4 _ hk)) h
 have made:∀ {K:Bool→Prop},K (dA p m)→aG [(false,Sy.bool)] (mM [aC true aU p,aC true aE m]) K:=fun h=>aD (s:=[(false,.bool)]) (y:=dA p m) ((Z3 ..).trans (by unfold qD;rw[hok];exact V4 _ hk)) h
 have place:∀ {K:Bool→Prop},K (iU (aAt p))→aG [(false,Sy.bool)] (iR [aC true cW (aAt p)]) K:=fun h=>aD (s:=[(false,.bool)]) (y:=iU (aAt p)) (AAO ..) h
 have far:∀ {K:Bool→Prop},K (!iN (pD p))→aG [(false,Sy.bool)] (uY [aC true KJ (pD p)]) K:=fun h=>aD (s:=[(false,.bool)]) (y:=!iN (pD p)) (AM9 ..) h
 have reg:∀ {K:Int→Prop},K (gM (dH p))→aG [(false,Sy.int IntKind.i64)] (jK [aC true cF (dH p)]) K:=fun h=>aD (s:=[(false,.int .i64)]) (K2 _) h
 refine spare ?_
 refine rS (fun h=>is (by rw[w1,if_pos h])) fun s0=>?_
 refine made ?_
 refine dM (fun h=>is (by rw[w1,if_neg (by rw[s0];exact Bool.noConfusion),if_pos h])) fun m0=>?_
 have w2:eA p m=if bG p=1∧¬ gM (dH p)=0 then gM (dH p) else if (bG p=2∨bG p=3)∧¬ (1≤kK p∧kK p≤32768) then 9 else if bG p=4∧¬ (1≤iF p∧iF p≤1099511627776∧iN (pD p)=true) then 9 else if iU (aAt p)=false then 9 else 0:=by
  rw[w1,if_neg (by rw[s0];exact Bool.noConfusion),if_neg (by rw[m0];exact Bool.noConfusion)]
 clear w1 n1 n2 r9 r10
 have fin:¬ (bG p=1∧¬ gM (dH p)=0)→¬ ((bG p=2∨bG p=3)∧¬ (1≤kK p∧kK p≤32768))→¬ (bG p=4∧¬ (1≤iF p∧iF p≤1099511627776∧iN (pD p)=true))→aG [(false,Sy.bool)] (iR [aC true cW (aAt p)]) (fun y:Bool=>aB (!y) (T.v (.int .i64 9)=T.v (.int .i64 (eA p m))) (T.v (.int .i64 0)=T.v (.int .i64 (eA p m)))):=fun a b c=>place (dM (fun v=>is (by rw[w2,if_neg a,if_neg b,if_neg c,if_pos v])) fun v=>is (by rw[w2,if_neg a,if_neg b,if_neg c,if_neg (by rw[v];exact Bool.noConfusion)]))
 refine bL (fun h1=>reg (gP (fun h=>is (by rw[w2,if_pos ⟨h1,h⟩])) fun h=>fin (fun h2=>h2.2 h) ?_ ?_)) fun h1=>bL (fun h4=>?_) fun h4=>?_
 ·have h1:bG p=1:=h1
  omega
 ·have h1:bG p=1:=h1
  omega
 ·have h4:bG p=4:=h4
  have a:¬ (bG p=1∧¬ gM (dH p)=0):=fun h=>h1 h.1
  have b:¬ ((bG p=2∨bG p=3)∧¬ (1≤kK p∧kK p≤32768)):=fun h=>by omega
  have no:¬ (1≤iF p∧iF p≤1099511627776∧iN (pD p)=true)→T.v (.int .i64 9)=T.v (.int .i64 (eA p m)):=fun h=>is (by rw[w2,if_neg a,if_neg b,if_pos ⟨h4,h⟩])
  refine bL (fun h=>no fun h2=>?_) fun l1=>bL (fun h=>no fun h2=>?_) fun l2=>far (rS (fun h=>no fun h2=>?_) fun h=>fin a b fun h2=>h2.2 ⟨?_,?_,?_⟩)
  ·have h:iF p<1:=h
   omega
  ·have h:1099511627776<iF p:=h
   omega
  ·rw[h2.2.2] at h;cases h
  ·have l1:¬ iF p<1:=l1
   omega
  ·have l2:¬ 1099511627776<iF p:=l2
   omega
  ·cases hv:iN (pD p)
   ·rw[hv] at h;cases h
   ·rfl
 ·have h4:¬ bG p=4:=h4
  have h1:¬ bG p=1:=h1
  have k23:bG p=2∨bG p=3:=by omega
  have a:¬ (bG p=1∧¬ gM (dH p)=0):=fun h=>h1 h.1
  have no:¬ (1≤kK p∧kK p≤32768)→T.v (.int .i64 9)=T.v (.int .i64 (eA p m)):=fun h=>is (by rw[w2,if_neg a,if_pos ⟨k23,h⟩])
  refine bL (fun h=>no fun h2=>?_) fun l1=>bL (fun h=>no fun h2=>?_) fun l2=>fin a (fun h2=>h2.2 ⟨?_,?_⟩) fun h2=>h4 h2.1
  ·have h:kK p<1:=h
   omega
  ·have h:32768<kK p:=h
   omega
  ·have l1:¬ kK p<1:=l1
   omega
  ·have l2:¬ 32768<kK p:=l2
   omega
theorem K0 {m:aN} {p:bM} (h:BK m=true) (h1:DR p.1=true) (h2:DR (eY p)=true):j9 [aC true aU p,aC true aE m]=some (Sh.enc [(false,.int .i64)] (eA p m)):=(AHE ..).trans (V6 _ h h1 h2)
noncomputable def NC:Env:=Env.of [(82,.pure j9),(121,.pure eM),(122,.pure j7),(123,.pure pL)]
def AEM:FuncId→Hint:=fun _=>aV
theorem AKC:aH Tryz.prog NC:=aH.cons (x:=.pure j9) VC (aH.cons (x:=.pure eM) xD (aH.cons (x:=.pure j7) U9 (aH.cons (x:=.pure pL) AS9 (aH.nil _))))
def OK (a0:bM) (a1:aN) (R:T→Prop):Prop :=
 aG [(false,Sy.int IntKind.i64)]
 (j9 [aC true aU a0,aC true aE a1]) fun (y0:Int) =>
 aB (!decide (y0=0))
 (R (T.cR [T.v (.int .i64 0),T.v (.int .i64 y0)]))
 (aG [(true,bH),(false,Sy.bool)]
 (eM [aC true aE a1,T.v (.string a0.2.2.2.2.1)])
 fun (y1:cS×Bool) =>
 aG [(true,a7),(false,Sy.bool)]
 (j7
 [aC true aE a1,T.v (.string a0.2.2.2.2.2.2.2.1)])
 fun (y2:bU×Bool) =>
 aB (decide (a0.2.2.1=1))
 (aG [(false,Sy.int IntKind.i64)]
 (pL [aC true cF a0.2.2.2.2.2.2.1]) fun (y3:Int) =>
 bP true
 (R
 (T.cR
 [T.v
 (Value.int IntKind.i64
 (IntKind.i64.wrap
 ((IntKind.i64.wrap
 (IntKind.i64.wrap (y3*a0.2.2.2.2.2.1)*y1.1.2.1)).tdiv
 2000000))),
 T.v (.int .i64 0)])))
 (aB (decide (a0.2.2.1=4))
 (R
 (T.cR
 [T.v (.int .i64 a0.2.2.2.2.2.2.2.2.2.1),
 T.v (.int .i64 0)]))
 (bP true
 (R
 (T.cR
 [T.v
 (Value.int IntKind.i64
 (IntKind.i64.wrap
 ((IntKind.i64.wrap
 (IntKind.i64.wrap (y2.1.2.1*a0.2.2.2.2.2.2.2.2.1) *
 y1.1.2.1)).tdiv
 1000000))),
 T.v (.int .i64 0)])))))
theorem ADE ( a0 a1 R):bC aY Tryz.prog NC AEM 8 83 [aC true aU a0,aC true aE a1] R=OK a0 a1 R:=by kernel_rfl
abbrev FL:Sh:=[(true,aU),(true,aE)]
abbrev AI2:Sh:=[(false,Sy.int IntKind.i64),(false,Sy.int IntKind.i64)]
def JR (x:bM×aN):Option T:=JB x.1 x.2 (Sh.enc AI2 (iJ x.1 x.2))
noncomputable def pQ:List T→Option (T):=gS FL JR
theorem AG2 {a0 a1}:pQ [aC true aU a0,aC true aE a1]=JR (a0,a1):=a8 (s:=FL) rfl (a0,a1) rfl
theorem AU4 (h:∀ a0 a1 r,JR (a0,a1)=some r→b8 FL (a0,a1)→OK a0 a1 (fun y=>y=r)):aK Tryz.prog 83 pQ :=
 aR (E:=NC) (Hs:=AEM) AKC aW aX (aM rfl) 8 ⟨_,_,Tryz.func83,rfl⟩ rfl fun x r h1 h2=>by
  obtain ⟨a0,a1⟩:=x
  rw[show Sh.bN FL (a0,a1)=[aC true aU a0,aC true aE a1] from rfl,ADE]
  exact h a0 a1 r h1 h2
theorem ATJ:aK Tryz.prog 83 pQ:=AU4 fun p m r h hb=>by
 obtain ⟨hok,hs1,hs2,rfl⟩:=V5 h
 replace hok:BK m=true:=hok
 clear h hb
 have is:∀ {a b:Int},iJ p m=(a,b)→T.cR [T.v (.int .i64 a),T.v (.int .i64 b)]=Sh.enc AI2 (iJ p m):=fun h=>by rw[h];rfl
 unfold OK
 refine aD (s:=[(false,.int .i64)]) (K0 hok hs1 hs2) ?_
 refine gP (fun h=>is (by unfold iJ;rw[if_neg h])) fun h=>?_
 refine aD (s:=[(true,bH),(false,.bool)]) (rQ hok _) ?_
 refine aD (s:=[(true,a7),(false,.bool)]) (KY m _) ?_
 have w:iJ p m=(mB p m,0):=by unfold iJ;rw[if_pos h]
 have hk:bG p=1∨bG p=2∨bG p=3∨bG p=4:=by
  refine Classical.byContradiction fun hc=>?_
  have h:=h
  unfold eA at h
  by_cases c1:gX p.1=false∨gX (eY p)=false
  ·rw[if_pos c1] at h;cases h
  ·rw[if_neg c1] at h
   by_cases c2:¬ (1≤p.2.1∧p.2.1≤1000)
   ·rw[if_pos c2] at h;cases h
   ·rw[if_neg c2,if_pos hc] at h;cases h
 have eg:(found dO (cJ m (dS p))).1=IZ m (dS p):=L3
 have es:(found nQ (qA m (CB p))).1=A1T m (CB p):=L3
 refine bL (fun k1=>?_) fun k1=>?_
 ·refine aD (s:=[(false,.int .i64)]) (AGN _) ?_
  refine ⟨rfl,is ?_⟩
  rw[w];unfold mB;rw[if_pos k1,←eg]
 refine bL (fun k4=>is ?_) fun k4=>⟨rfl,is ?_⟩
 ·have k4:bG p=4:=k4
  rw[w];unfold mB;rw[if_neg k1,if_neg (by omega)]
 ·have k4:¬ bG p=4:=k4
  have k1:¬ bG p=1:=k1
  rw[w];unfold mB;rw[if_neg k1,if_pos (by omega),←eg,←es]
theorem AG3 {m:aN} {p:bM} (h:BK m=true) (h1:DR p.1=true) (h2:DR (eY p)=true):pQ [aC true aU p,aC true aE m]=some (Sh.enc [(false,.int .i64),(false,.int .i64)] (iJ p m)):=(AG2 ..).trans (V6 _ h h1 h2)
end Go.Pv
namespace Go.Pv
open Go Go.Proofs
noncomputable def AJS:Env:=Env.of []
def AXW:FuncId→Hint:=fun f=>match f == 111 with|true=>⟨fun r=>match r == 2 with|true=>.inv [.val 9 false (.int .i64)]|false=>.none,fun _ _=>none,fun _=>none⟩|false=>aV
theorem AW0:aH Tryz.prog AJS:=aH.nil _
def ALA (a0:Int) (a1:List aJ) (R:T→Prop):Prop :=
 bA (Int×PUnit)
 (fun (X0:Int×PUnit→Prop) (s1:Int×PUnit) =>
 aB (decide (s1.1<(↑(List.map aA.enc a1).length:Int)))
 (aO aA (List.map aA.enc a1) s1.1 fun (y2:aJ) =>
 aB (decide (y2.1<0)) (R (T.v (.int .i64 9)))
 (aB (decide (a0≤y2.1)) (R (T.v (.int .i64 9)))
 (aB (decide (y2.2<0)) (R (T.v (.int .i64 9)))
 (aB (decide (a0≤y2.2)) (R (T.v (.int .i64 9)))
 (aB (decide (y2.1=y2.2)) (R (T.v (.int .i64 2)))
 (X0 (IntKind.i64.wrap (s1.1+1),())))))))
 (R (T.v (.int .i64 0))))
 (0,())
theorem AR8 ( a0 a1 R):bC aY Tryz.prog AJS AXW 8 111 [aC false (Sy.int IntKind.i64) a0,aC false aA.li a1] R=ALA a0 a1 R:=by kernel_rfl
abbrev ABG:Sh:=[(false,(Sy.int IntKind.i64)),(false,aA.li)]
def nM (n:Int) (x:aJ):Int:=if x.1<0∨n≤x.1∨x.2<0∨n≤x.2 then 9 else if x.1=x.2 then 2 else 0
def ABP (x:Int×List aJ):Option T:=mD x.2 (T.v (Value.int .i64 (bD (nM x.1) x.2)))
noncomputable def IX:List T→Option (T):=gS ABG ABP
theorem AT2 {a0 a1}:IX [T.v (.int .i64 a0),T.sl false (List.map aA.enc a1)]=ABP (a0,a1):=a8 (s:=ABG) rfl (a0,a1) rfl
theorem A4G (h:∀ a0 a1 r,ABP (a0,a1)=some r→b8 ABG (a0,a1)→ALA a0 a1 (fun y=>y=r)):aK Tryz.prog 111 IX :=
 aR (E:=AJS) (Hs:=AXW) AW0 aW aX (aM rfl) 8 ⟨_,_,Tryz.func111,rfl⟩ rfl fun x r h1 h2=>by
  obtain ⟨a0,a1⟩:=x
  rw[show Sh.bN ABG (a0,a1)=[aC false (Sy.int IntKind.i64) a0,aC false aA.li a1] from rfl,AR8]
  exact h a0 a1 r h1 h2
theorem A3L:aK Tryz.prog 111 IX:=A4G fun n l r h hb=>by
 obtain ⟨hl,rfl⟩:=gC h
 clear h
 unfold ALA
 refine fK (r:=aA) (nM n) hl (fun X s y hy hok hbad=>?_) fun h0=>?_
 ·have bad:∀ {m:Int},m≠0→nM n y=m→T.v (.int .i64 m)=T.v (.int .i64 (bD (nM n) l)):=fun hn h=>by
   rw[hbad (by rw[h];exact hn),h]
  clear hbad hb
  repeat' first
   | refine gP (fun h=>?_) (fun h=>?_)
   | refine bL (fun h=>?_) (fun h=>?_)
  all_goals first
   | (exfalso;omega)
   | (refine bad (by decide) ?_;clear bad hok;unfold nM;first|(rw[if_pos (by omega)];done)|(rw[if_neg (by omega),if_pos (by omega)];done))
   | (refine hok ?_;clear bad hok;unfold nM;rw[if_neg (by omega),if_neg (by omega)];done)
 ·show _=T.v (.int .i64 (bD (nM n) l))
  rw[h0]
noncomputable def XC:Env:=Env.of [(111,.pure IX)]
def APT:FuncId→Hint:=fun f=>match f == 72 with|true=>⟨fun r=>match r == 8 with|true=>.inv [.arr 0 1 (.int .i64),.val 31 false (.int .i64)]|false=>match r == 14 with|true=>.inv [.arr 0 1 (.int .i64),.own 10 1 (.int .i64),.arr 2 1 .bool]|false=>match r == 16 with|true=>.inv [.val 52 false (.int .i64),.fix 0,.fix 2,.fix 3]|false=>match r == 22 with|true=>.inv [.arr 0 1 (.int .i64),.val 75 false (.int .i64)]|false=>.none,fun _ _=>none,fun _=>none⟩|false=>aV
theorem AR0:aH Tryz.prog XC:=aH.cons (x:=.pure IX) A3L (aH.nil _)
def YL (a0:Int) (a1:List aJ) (R:T→Prop):Prop :=
 aB (decide (a0<0))
 (bP (T.v (.int .i64 9)).flat
 (R (T.cR [T.sl false [],T.v (.int .i64 9)])))
 (aB (decide (256<a0))
 (bP (T.v (.int .i64 9)).flat
 (R (T.cR [T.sl false [],T.v (.int .i64 9)])))
 (aG [(false,Sy.int IntKind.i64)]
 (IX [T.v (.int .i64 a0),T.sl false (List.map aA.enc a1)])
 fun (y0:Int) =>
 aB (!decide (y0=0))
 (bP (T.v (.int .i64 y0)).flat
 (R (T.cR [T.sl false [],T.v (.int .i64 y0)])))
 (bP
 ((decide (a0=a0)||decide (a0=0))&&decide (0≤a0)&&decide (a0*(↑8:Int)≤140737488355328) &&
 decide (a0≤140737488355328))
 (b6 (Sy.int IntKind.i64)
 (List.replicate (Int.toNat a0) [T.v (.int .i64 0)]) fun (y1:List Int) =>
 bA (List Int×Int×PUnit)
 (fun (X2:List Int×Int×PUnit→Prop) (s3:List Int×Int×PUnit) =>
 aB (decide (s3.2.1<(↑(List.map aA.enc a1).length:Int)))
 (aO aA (List.map aA.enc a1) s3.2.1 fun (y4:aJ) =>
 aO (Sy.int IntKind.i64) (List.map (Sy.int IntKind.i64).enc s3.1) y4.2
 fun (y5:Int) =>
 BL (Sy.int IntKind.i64) (List.map (Sy.int IntKind.i64).enc s3.1)
 (Int.toNat y4.2) 0 fun (y6:Int) =>
 aO (Sy.int IntKind.i64) (List.map (Sy.int IntKind.i64).enc s3.1)
 y4.2 fun (y7:Int) =>
 AI9 (List.map (Sy.int IntKind.i64).enc s3.1) (Int.toNat y4.2)
 fun (y8:List T) =>
 bP (decide (1≤y8.length))
 (b6 (Sy.int IntKind.i64)
 ((List.map (Sy.int IntKind.i64).enc s3.1).set (Int.toNat y4.2)
 (cT y8 0
 [T.v (.int .i64 (IntKind.i64.wrap (y6+1)))]))
 fun (y9:List Int)=>X2 (y9,IntKind.i64.wrap (s3.2.1+1),())))
 (bP
 ((decide (0=a0)||true)&&decide (0≤a0)&&decide (a0*(↑8:Int)≤140737488355328) &&
 decide (a0≤140737488355328))
 (bP
 ((decide (a0=a0)||decide (a0=0))&&decide (0≤a0) &&
 decide (a0*(↑1:Int)≤140737488355328) &&
 decide (a0≤140737488355328))
 (b6 (Sy.int IntKind.i64) (List.map (Sy.int IntKind.i64).enc s3.1)
 fun (y10:List Int) =>
 b6 (Sy.int IntKind.i64) [] fun (y11:List Int) =>
 b6 Sy.bool (List.replicate (Int.toNat a0) [T.v (.bool false)])
 fun (y12:List Bool) =>
 bA (List Int×List Int×List Bool×PUnit)
 (fun (X13:List Int×List Int×List Bool×PUnit→Prop)
 (s14:List Int×List Int×List Bool×PUnit) =>
 aB
 (decide
 ((↑(List.map (Sy.int IntKind.i64).enc s14.2.1).length:Int)<a0))
 (fE
 (bB.arr false 1 (List.map (Sy.int IntKind.i64).enc s14.1))
 (bB.arr false 1 (List.map (Sy.int IntKind.i64).enc s14.1))
 (fE (bB.arr false 1 (List.map Sy.bool.enc s14.2.2.1))
 (bB.arr false 1 (List.map Sy.bool.enc s14.2.2.1))
 (fE
 (bB.arr false 1 (List.map (Sy.int IntKind.i64).enc s14.2.1))
 (bB.arr false 1 (List.map (Sy.int IntKind.i64).enc s14.2.1))
 (bA (Int×PUnit×PUnit×PUnit×PUnit)
 (fun (X15:Int×PUnit×PUnit×PUnit×PUnit→Prop)
 (s16:Int×PUnit×PUnit×PUnit×PUnit) =>
 aB (decide (s16.1<a0))
 (aO Sy.bool (List.map Sy.bool.enc s14.2.2.1)
 s16.1 fun (y17:Bool) =>
 BL Sy.bool (List.map Sy.bool.enc s14.2.2.1)
 (Int.toNat s16.1) 0 fun (y18:Bool) =>
 aB y18
 (fE
 (bB.arr false 1
 (List.map (Sy.int IntKind.i64).enc s14.1))
 (bB.arr false 1
 (List.map (Sy.int IntKind.i64).enc s14.1))
 (fE
 (bB.arr false 1
 (List.map Sy.bool.enc s14.2.2.1))
 (bB.arr false 1
 (List.map Sy.bool.enc s14.2.2.1))
 (fE
 (bB.arr false 1
 (List.map (Sy.int IntKind.i64).enc s14.2.1))
 (bB.arr false 1
 (List.map (Sy.int IntKind.i64).enc s14.2.1))
 (X15 (IntKind.i64.wrap (s16.1+1),(),(),(),())))))
 (aO (Sy.int IntKind.i64)
 (List.map (Sy.int IntKind.i64).enc s14.1) s16.1
 fun (y19:Int) =>
 BL (Sy.int IntKind.i64)
 (List.map (Sy.int IntKind.i64).enc s14.1)
 (Int.toNat s16.1) 0 fun (y20:Int) =>
 aB (decide (0<y20))
 (fE
 (bB.arr false 1
 (List.map (Sy.int IntKind.i64).enc s14.1))
 (bB.arr false 1
 (List.map (Sy.int IntKind.i64).enc s14.1))
 (fE
 (bB.arr false 1
 (List.map Sy.bool.enc s14.2.2.1))
 (bB.arr false 1
 (List.map Sy.bool.enc s14.2.2.1))
 (fE
 (bB.arr false 1
 (List.map (Sy.int IntKind.i64).enc
 s14.2.1))
 (bB.arr false 1
 (List.map (Sy.int IntKind.i64).enc
 s14.2.1))
 (X15
 (IntKind.i64.wrap (s16.1+1),(),(),(),
 ())))))
 (aO Sy.bool
 (List.map Sy.bool.enc s14.2.2.1) s16.1
 fun (y21:Bool) =>
 AI9 (List.map Sy.bool.enc s14.2.2.1)
 (Int.toNat s16.1) fun (y22:List T) =>
 bP (decide (1≤y22.length))
 (bP
 (decide
 (((List.map (Sy.int IntKind.i64).enc
 s14.2.1).length +
 1) *
 8 ≤
 140737488355328) &&
 decide
 ((List.map (Sy.int IntKind.i64).enc
 s14.2.1).length +
 1 ≤
 140737488355328))
 (b6 (Sy.int IntKind.i64)
 (List.map (Sy.int IntKind.i64).enc s14.1)
 fun (y23:List Int) =>
 bA (List Int×Int×PUnit)
 (fun (X24:List Int×Int×PUnit→Prop)
 (s25:List Int×Int×PUnit) =>
 aB
 (decide
 (s25.2.1 <
 (↑(List.map aA.enc a1).length :
 Int)))
 (aO aA
 (List.map aA.enc a1) s25.2.1
 fun (y26:aJ) =>
 aB (decide (y26.1=s16.1))
 (aO (Sy.int IntKind.i64)
 (List.map
 (Sy.int IntKind.i64).enc
 s25.1)
 y26.2 fun (y27:Int) =>
 BL
 (Sy.int IntKind.i64)
 (List.map
 (Sy.int IntKind.i64).enc
 s25.1)
 (Int.toNat y26.2) 0
 fun (y28:Int) =>
 aO
 (Sy.int IntKind.i64)
 (List.map
 (Sy.int IntKind.i64).enc
 s25.1)
 y26.2 fun (y29:Int) =>
 AI9
 (List.map
 (Sy.int
 IntKind.i64).enc
 s25.1)
 (Int.toNat y26.2)
 fun (y30:List T) =>
 bP
 (decide (1≤y30.length))
 (b6
 (Sy.int IntKind.i64)
 ((List.map
 (Sy.int
 IntKind.i64).enc
 s25.1).set
 (Int.toNat y26.2)
 (cT y30 0
 [T.v
 (Value.int
 IntKind.i64
 (IntKind.i64.wrap
 (y28-1)))]))
 fun (y31:List Int) =>
 X24
 (y31,
 IntKind.i64.wrap
 (s25.2.1+1),
 ())))
 (b6 (Sy.int IntKind.i64)
 (List.map
 (Sy.int IntKind.i64).enc
 s25.1)
 fun (y32:List Int) =>
 X24
 (y32,
 IntKind.i64.wrap
 (s25.2.1+1),
 ())))
 (b6 (Sy.int IntKind.i64)
 (List.map (Sy.int IntKind.i64).enc
 s25.1)
 fun (y33:List Int) =>
 b6 (Sy.int IntKind.i64)
 (List.map
 (Sy.int IntKind.i64).enc
 s14.2.1 ++
 [[T.v
 (Value.int IntKind.i64
 s16.1)]])
 fun (y34:List Int) =>
 b6 Sy.bool
 ((List.map Sy.bool.enc
 s14.2.2.1).set
 (Int.toNat s16.1)
 (cT y22 0
 [T.v (.bool true)]))
 fun (y35:List Bool) =>
 X13 (y33,y34,y35,())))
 (y23,0,()))))))
 (bP (T.v (.int .i64 20)).flat
 (R
 (T.cR
 [T.sl false [],
 T.v (.int .i64 20)]))))
 (0,(),(),(),())))))
 (bP
 ((List.map (Sy.int IntKind.i64).enc s14.2.1).all
 fun (r:List T)=>r.all T.flat)
 (bP (T.v (.int .i64 0)).flat
 (R
 (T.cR
 [T.sl false (List.map (Sy.int IntKind.i64).enc s14.2.1),
 T.v (.int .i64 0)])))))
 (y10,y11,y12,())))))
 (y1,0,())))))
theorem ALJ ( a0 a1 R):r5 aY Tryz.prog XC APT 8 72 [aC false (Sy.int IntKind.i64) a0,aC false aA.li a1] R=YL a0 a1 R:=by kernel_rfl
abbrev MK:Sh:=[(false,(Sy.int IntKind.i64)),(false,aA.li)]
abbrev zQ:Sh:=[(false,(Sy.int IntKind.i64).li),(false,Sy.int IntKind.i64)]
def P4 (b:List Int) (e:aJ):List Int:=b.set e.2.toNat (IntKind.i64.wrap (b.getD e.2.toNat 0+1))
def P6 (v:Int) (b:List Int) (e:aJ):List Int:=if e.1=v then b.set e.2.toNat (IntKind.i64.wrap (b.getD e.2.toNat 0-1)) else b
def BC (b:List Int) (t:List Bool) (k:Nat):Bool:=!t.getD k false&&decide (b.getD k 0≤0)
def vP (l:List aJ) (n:Nat):Nat→List Int→List Int→List Bool→List Int×Int
 | 0,_,o,_=>(o,0)
 | f+1,b,o,t=>match (List.range n).find? (BC b t) with
  | none=>([],20)
  | some v=>vP l n f (l.foldl (P6 v) b) (o++[(v:Int)]) (t.set v true)
def dJ (n:Int) (l:List aJ):List Int×Int :=
 if n<0∨256<n then ([],9) else if bD (nM n) l=0 then vP l n.toNat n.toNat (l.foldl P4 (List.replicate n.toNat 0)) [] (List.replicate n.toNat false) else ([],bD (nM n) l)
theorem AFX (b:List Int) (e:aJ):(P4 b e).length=b.length:=by unfold P4;rw[List.length_set]
theorem AF2 (v:Int) (b:List Int) (e:aJ):(P6 v b e).length=b.length:=by unfold P6;split<;>simp
theorem QT {α β:Type} {f:List β→α→List β} (hf:∀ b e,(f b e).length=b.length):∀ (l:List α) (b:List β),(l.foldl f b).length=b.length
 | [],_=>rfl
 | e::l,b=>(QT hf l (f b e)).trans (hf b e)
theorem lP {α:Type} {f:α→Int}:∀ {l:List α},bD f l=0→∀ a∈l,f a=0
 | [],_,_,h=>by cases h
 | b::l,h,a,ha=>by
  unfold bD at h
  split at h
  ·rename_i hb
   rcases List.mem_cons.1 ha with rfl|ha
   ·exact hb
   ·exact lP h a ha
  ·exact absurd h ‹_›
theorem o8 {r:Sy} {l:List r.den} {i:Int} (h0:0≤i) (h:i.toNat<l.length) (K:r.den→Prop):aO r (List.map r.enc l) i K=K l[i.toNat]:=by
 have e:i=((i.toNat:Nat):Int):=by omega
 have:=aT h K
 rw[←e] at this
 exact this
theorem ARC {l:List Int} {k:Nat} (h:k<l.length) (y:Int):(List.map (Sy.int .i64).enc l).set k (cT ((Sy.int .i64).enc l[k]) 0 [T.v (.int .i64 y)])=List.map (Sy.int .i64).enc (l.set k y):=by
 rw[List.map_set];rfl
theorem SF {l:List Bool} {k:Nat} (h:k<l.length) (y:Bool):(List.map Sy.bool.enc l).set k (cT (Sy.bool.enc l[k]) 0 [T.v (.bool y)])=List.map Sy.bool.enc (l.set k y):=by
 rw[List.map_set];rfl
theorem nD {α:Type} {l:List α} {k:Nat} (d:α) (h:k<l.length):l.getD k d=l[k]:=by simp[List.getD,h]
theorem A45 (n:Nat):List.replicate n [T.v (Value.int .i64 0)]=List.map (Sy.int .i64).enc (List.replicate n 0):=by rw[List.map_replicate];rfl
theorem AI5 (n:Nat):List.replicate n [T.v (.bool false)]=List.map Sy.bool.enc (List.replicate n false):=by rw[List.map_replicate];rfl
theorem U7 (l:List Int):((List.map (Sy.int .i64).enc l).all fun (r:List T)=>r.all T.flat)=true:=by
 rw[List.all_map,List.all_eq_true];intro a _;rfl
def SP (x:Int×List aJ):Option T:=mD x.2 (Sh.enc zQ (dJ x.1 x.2))
noncomputable def zE:List T→Option (T):=gS MK SP
theorem ANC {a0 a1}:zE [T.v (.int .i64 a0),T.sl false (List.map aA.enc a1)]=SP (a0,a1):=a8 (s:=MK) rfl (a0,a1) rfl
theorem A03 (h:∀ a0 a1 r,SP (a0,a1)=some r→b8 MK (a0,a1)→YL a0 a1 (fun y=>y=r)):iV Tryz.prog 72 zE :=
 AQZ (E:=XC) (Hs:=APT) AR0 aW aX (aM rfl) 8 ⟨_,_,Tryz.func72,rfl⟩ rfl fun x r h1 h2=>by
  obtain ⟨a0,a1⟩:=x
  rw[show Sh.bN MK (a0,a1)=[aC false (Sy.int IntKind.i64) a0,aC false aA.li a1] from rfl,ALJ]
  exact h a0 a1 r h1 h2
theorem AY8:iV Tryz.prog 72 zE:=A03 fun n l r h hb=>by
 obtain ⟨hl,rfl⟩:=gC h
 clear h
 have hl:l.length≤140737488355328:=hl
 unfold YL
 refine bL (fun h=>?_) fun hn0=>?_
 ·refine ⟨rfl,?_⟩
  show _=Sh.enc zQ (dJ n l)
  rw[dJ,if_pos (Or.inl h)];rfl
 refine bL (fun h=>?_) fun hn1=>?_
 ·refine ⟨rfl,?_⟩
  show _=Sh.enc zQ (dJ n l)
  rw[dJ,if_pos (Or.inr h)];rfl
 refine aD (s:=[(false,.int .i64)]) (y:=bD (nM n) l) (by rw[AT2];exact eH _ hl) ?_
 refine gP (fun h0=>?_) (fun h0=>?_)
 ·refine ⟨rfl,?_⟩
  show _=Sh.enc zQ (dJ n l)
  rw[dJ,if_neg (by omega),if_neg h0];rfl
 have hv:dJ n l=vP l n.toNat n.toNat (l.foldl P4 (List.replicate n.toNat 0)) [] (List.replicate n.toNat false):=by
  rw[dJ,if_neg (by omega),if_pos h0]
 have hend:∀ e∈l,0≤e.1∧e.1<n∧0≤e.2∧e.2<n:=fun e he=>by
  have:=lP h0 e he
  unfold nM at this
  split at this
  ·exact absurd this (by decide)
  ·omega
 clear h0 hb
 obtain ⟨N,rfl⟩:∃ N:Nat,n=(N:Int):=⟨n.toNat,by omega⟩
 rw[Int.toNat_natCast] at hv ⊢
 refine ⟨by simp;omega,?_⟩
 rw[A45,dT rfl]
 refine aZ l.length (fun k s=>s.2.1=(k:Int)∧s.1.length=N∧(l.drop k).foldl P4 s.1=l.foldl P4 (List.replicate N 0)) ⟨rfl,by simp,rfl⟩ ?_
 rintro X k ⟨b,i,u⟩ hk ⟨rfl,hbl,hbf⟩ hX
 dsimp only at hbl hbf ⊢
 refine bL (fun hlt=>?_) fun hge=>?_
 ·rw[List.length_map] at hlt
  have hlt:k<l.length:=by omega
  rw[aT hlt]
  obtain ⟨-,-,e0,e1⟩:=hend _ (List.getElem_mem hlt)
  have hj:(l[k].2).toNat<b.length:=by omega
  rw[o8 e0 hj,p6 hj,o8 e0 hj,FA hj]
  refine ⟨rfl,?_⟩
  rw[ARC hj,dT rfl]
  refine hX _ hlt ⟨?_,?_,?_⟩
  ·show IntKind.i64.wrap ((k:Int)+1)=_
   rw[aS]<;>omega
  ·show (List.set _ _ _).length=N
   rw[List.length_set];exact hbl
  ·rw[List.drop_eq_getElem_cons hlt,List.foldl_cons] at hbf
   rw[←hbf]
   congr 1
   unfold P4
   rw[nD (l:=b) 0 hj]
 rw[List.length_map] at hge
 have hkl:k=l.length:=by omega
 subst hkl
 rw[List.drop_length,List.foldl_nil] at hbf
 rw[←hbf] at hv
 refine ⟨by simp;omega,⟨by simp;omega,?_⟩⟩
 rw[dT rfl,AYP,AI5,dT rfl]
 clear hX hge hbf
 refine aZ N (fun k s=>s.1.length=N∧s.2.1.length=k∧s.2.2.1.length=N∧vP l N (N-k) s.1 s.2.1 s.2.2.1=dJ N l) ⟨hbl,rfl,by simp,by rw[hv];rfl⟩ ?_
 clear hv hbl b u
 rintro X k ⟨b,o,t,u⟩ hk ⟨hbl,hol,htl,hr⟩ hX
 dsimp only at hbl hol htl hr ⊢
 refine bL (fun hlt=>?_) fun hge=>?_
 ·rw[List.length_map,hol] at hlt
  have hlt:k<N:=by omega
  rw[cI,cI,cI]
  obtain ⟨m,hm⟩:∃ m,N-k=m+1:=⟨N-k-1,by omega⟩
  rw[hm,vP] at hr
  refine aZ N (fun j s=>s.1=(j:Int)∧(List.range N).find? (BC b t)=(List.range' j (N-j)).find? (BC b t)) ⟨rfl,by rw[List.range_eq_range'];rfl⟩ ?_
  rintro Y j ⟨i,u1,u2,u3,u4⟩ hj ⟨rfl,hf⟩ hY
  dsimp only at hf ⊢
  refine bL (fun hjn=>?_) fun hjn=>?_
  ·have hjn:j<N:=by omega
   have hjb:j<b.length:=by omega
   have hjt:j<t.length:=by omega
   obtain ⟨q,hq⟩:∃ q,N-j=q+1:=⟨N-j-1,by omega⟩
   rw[hq,List.range'_succ,List.find?_cons] at hf
   have next:BC b t j=false→Y (IntKind.i64.wrap ((j:Int)+1),(),(),(),()):=fun h=>by
    refine hY _ hjn ⟨?_,?_⟩
    ·show IntKind.i64.wrap ((j:Int)+1)=_
     rw[aS]<;>omega
    ·rw[hf,h]
     rw[show N-(j+1)=q by omega]
   simp only[Int.toNat_natCast]
   rw[aT hjt,p6 hjt]
   refine rS (fun ht=>?_) fun ht=>?_
   ·rw[cI,cI,cI]
    exact next (by rw[BC,nD (l:=t) false hjt,ht];rfl)
   rw[aT hjb,p6 hjb]
   refine bL (fun hp=>?_) fun hp=>?_
   ·rw[cI,cI,cI]
    exact next (by rw[BC,nD (l:=b) 0 hjb,decide_eq_false (by omega),Bool.and_false])
   have hfree:BC b t j=true:=by rw[BC,nD (l:=b) 0 hjb,nD (l:=t) false hjt,ht,decide_eq_true (by omega)];rfl
   rw[hfree] at hf
   rw[hf] at hr
   dsimp only at hr
   clear next hY hf
   rw[aT hjt,FA hjt]
   refine ⟨rfl,⟨by simp;omega,?_⟩⟩
   rw[dT rfl]
   refine aZ l.length (fun k s=>s.2.1=(k:Int)∧s.1.length=N∧(l.drop k).foldl (P6 j) s.1=l.foldl (P6 j) b) ⟨rfl,hbl,rfl⟩ ?_
   rintro Z i ⟨c,i',u⟩ hi ⟨rfl,hcl,hcf⟩ hZ
   dsimp only at hcl hcf ⊢
   refine bL (fun hlt=>?_) fun hge=>?_
   ·rw[List.length_map] at hlt
    have hlt:i<l.length:=by omega
    rw[aT hlt]
    obtain ⟨-,-,e0,e1⟩:=hend _ (List.getElem_mem hlt)
    have hjc:(l[i].2).toNat<c.length:=by omega
    rw[List.drop_eq_getElem_cons hlt,List.foldl_cons] at hcf
    have hw:IntKind.i64.wrap ((i:Int)+1)=((i+1:Nat):Int):=by rw[aS]<;>omega
    refine bL (fun hv=>?_) fun hv=>?_
    ·rw[o8 e0 hjc,p6 hjc,o8 e0 hjc,FA hjc]
     refine ⟨rfl,?_⟩
     rw[ARC hjc,dT rfl]
     refine hZ _ hlt ⟨hw,?_,?_⟩
     ·show (List.set _ _ _).length=N
      rw[List.length_set];exact hcl
     ·rw[←hcf]
      congr 1
      unfold P6
      rw[if_pos hv,nD (l:=c) 0 hjc]
    ·rw[dT rfl]
     refine hZ _ hlt ⟨hw,hcl,?_⟩
     rw[←hcf]
     congr 1
     unfold P6
     rw[if_neg hv]
   ·rw[List.length_map] at hge
    have hil:i=l.length:=by omega
    subst hil
    rw[List.drop_length,List.foldl_nil] at hcf
    rw[dT rfl,sF (r:=.int .i64) rfl o [T.v (.int .i64 (j:Int))] (j:Int) rfl,SF hjt,dT rfl]
    refine hX _ hlt ⟨hcl,by simp[hol],by simp[htl],?_⟩
    rw[show N-(k+1)=m by omega]
    show vP l N m c (o++[(j:Int)]) (t.set j true)=_
    rw[hcf];exact hr
  ·have hjn:j=N:=by omega
   subst hjn
   rw[Nat.sub_self] at hf
   rw[show (List.range' j 0)=[] from rfl,List.find?_nil] at hf
   rw[hf] at hr
   refine ⟨rfl,?_⟩
   show _=Sh.enc zQ (dJ (j:Int) l)
   rw[←hr];rfl
 ·rw[List.length_map,hol] at hge
  have hkN:k=N:=by omega
  subst hkN
  rw[Nat.sub_self,vP] at hr
  refine ⟨U7 o,rfl,?_⟩
  show _=Sh.enc zQ (dJ (k:Int) l)
  rw[←hr];rfl
end Go.Pv
namespace Go.Pv
open Go Go.Proofs
def BP (t:List Bool) (v:Nat) (e:aJ):Bool:=decide (e.2=(v:Int)) && !t.getD e.1.toNat false
def LO (l:List aJ) (t:List Bool) (v:Nat):Bool:=l.any (BP t v)
def pK (l:List aJ) (t:List Bool) (k:Nat):Bool:=!t.getD k false && !LO l t k
def p7 (l:List aJ) (n:Nat):Nat→List Int→List Bool→List Int×Int
 | 0,o,_=>(o,0)
 | f+1,o,t=>match (List.range n).find? (pK l t) with
  | none=>([],20)
  | some v=>p7 l n f (o++[(v:Int)]) (t.set v true)
theorem EK {α:Type} {l:List α} {i:Nat} {x d:α} (h:i<l.length) (k:Nat):(l.set i x).getD k d=if k=i then x else l.getD k d:=by
 rw[List.getD_eq_getElem?_getD,List.getD_eq_getElem?_getD,List.getElem?_set]
 by_cases e:i=k
 ·subst e
  rw[if_pos rfl,if_pos h,if_pos rfl];rfl
 ·rw[if_neg e,if_neg (fun h=>e h.symm)]
theorem AGG (v:Nat):∀ (l:List aJ) (b:List Int),(∀ e∈l,0≤e.2∧e.2.toNat<b.length)→(∀ v,0≤b.getD v 0∧b.getD v 0+l.length≤1000000000000000)→(l.foldl P4 b).getD v 0=b.getD v 0+(l.countP fun e=>decide (e.2=(v:Int)):Nat)
 | [],b,_,_=>by simp
 | e::l,b,h1,h2=>by
  obtain ⟨e0,e1⟩:=h1 e (by simp)
  have hb:=h2 e.2.toNat
  have hv:=h2 v
  simp only[List.length_cons] at hb hv
  have hw:IntKind.i64.wrap (b.getD e.2.toNat 0+1)=b.getD e.2.toNat 0+1:=aS _ (by omega) (by omega)
  have hg:∀ w,(P4 b e).getD w 0=if w=e.2.toNat then b.getD w 0+1 else b.getD w 0:=fun w=>by
   unfold P4
   rw[EK e1,hw]
   by_cases hc:w=e.2.toNat
   ·rw[if_pos hc,if_pos hc,hc]
   ·rw[if_neg hc,if_neg hc]
  rw[List.foldl_cons,AGG v l (P4 b e) (fun x hx=>by rw[AFX];exact h1 x (by simp[hx])) (fun w=>by
   have:=h2 w
   simp only[List.length_cons] at this
   rw[hg]
   split<;>omega),hg,List.countP_cons]
  by_cases hc:v=e.2.toNat
  ·rw[if_pos hc,decide_eq_true (show e.2=(v:Int) by omega)];simp;omega
  ·rw[if_neg hc,decide_eq_false (show ¬ e.2=(v:Int) by omega)];simp
theorem AGH (v w:Nat):∀ (l:List aJ) (b:List Int),(∀ e∈l,0≤e.2∧e.2.toNat<b.length)→(∀ v,b.getD v 0≤1000000000000000∧-1000000000000000≤b.getD v 0-l.length)→(l.foldl (P6 v) b).getD w 0=b.getD w 0-(l.countP fun e=>decide (e.1=(v:Int))&&decide (e.2=(w:Int)):Nat)
 | [],b,_,_=>by simp
 | e::l,b,h1,h2=>by
  obtain ⟨e0,e1⟩:=h1 e (by simp)
  have hb:=h2 e.2.toNat
  have hv:=h2 w
  simp only[List.length_cons] at hb hv
  have hw:IntKind.i64.wrap (b.getD e.2.toNat 0-1)=b.getD e.2.toNat 0-1:=aS _ (by omega) (by omega)
  have hg:∀ w,(P6 v b e).getD w 0=if e.1=(v:Int)∧w=e.2.toNat then b.getD w 0-1 else b.getD w 0:=fun w=>by
   unfold P6
   by_cases hc:e.1=(v:Int)
   ·rw[if_pos hc,EK e1,hw]
    by_cases hd:w=e.2.toNat
    ·rw[if_pos hd,if_pos ⟨hc,hd⟩,hd]
    ·rw[if_neg hd,if_neg (fun h=>hd h.2)]
   ·rw[if_neg hc,if_neg (fun h=>hc h.1)]
  rw[List.foldl_cons,AGH v w l (P6 v b e) (fun x hx=>by rw[AF2];exact h1 x (by simp[hx])) (fun w=>by
   have:=h2 w
   simp only[List.length_cons] at this
   rw[hg]
   split<;>omega),hg,List.countP_cons]
  by_cases hc:e.1=(v:Int)
  ·by_cases hd:w=e.2.toNat
   ·rw[if_pos ⟨hc,hd⟩,decide_eq_true hc,decide_eq_true (show e.2=(w:Int) by omega)];simp;omega
   ·rw[if_neg (fun h=>hd h.2),decide_eq_true hc,decide_eq_false (show ¬ e.2=(w:Int) by omega)];simp
  ·rw[if_neg (fun h=>hc h.1),decide_eq_false hc];simp
def ZK (l:List aJ) (t:List Bool) (v:Nat):Nat:=l.countP (BP t v)
theorem ASX (l:List aJ) (t:List Bool) (v:Nat):decide ((ZK l t v:Int)≤0) = !LO l t v:=by
 unfold ZK LO
 cases h:l.any (BP t v) with
 | true =>
  have:0<l.countP (BP t v):=List.countP_pos_iff.2 (List.any_eq_true.1 h)
  rw[decide_eq_false (by omega)];rfl
 | false =>
  have:l.countP (BP t v)=0:=List.countP_eq_zero.2 fun a ha=>by
   rw[Bool.eq_false_iff] at h
   intro h2
   exact h (List.any_eq_true.2 ⟨a,ha,h2⟩)
  rw[this];rfl
theorem DZ {α:Type} (p q r:α→Bool):∀ l:List α,(∀ a∈l,p a=(q a||r a)∧(q a&&r a)=false)→l.countP p=l.countP q+l.countP r
 | [],_=>rfl
 | a::l,h=>by
  obtain ⟨h1,h2⟩:=h a (by simp)
  rw[List.countP_cons,List.countP_cons,List.countP_cons,DZ p q r l fun b hb=>h b (by simp[hb]),h1]
  revert h2
  cases q a<;>cases r a<;>simp<;>omega
theorem ASW {l:List aJ} {t:List Bool} {v:Nat} (hl:∀ e∈l,0≤e.1∧e.1.toNat<t.length) (hv:t.getD v false=false) (hvl:v<t.length) (w:Nat):ZK l t w=ZK l (t.set v true) w+l.countP fun e=>decide (e.1=(v:Int))&&decide (e.2=(w:Int)):=by
 unfold ZK
 refine DZ _ _ _ _ fun e he=>?_
 obtain ⟨e0,e1⟩:=hl e he
 unfold BP
 rw[EK hvl]
 by_cases hc:e.1=(v:Int)
 ·have:e.1.toNat=v:=by omega
  rw[if_pos this,this,hv,decide_eq_true hc]
  cases decide (e.2=(w:Int))<;>simp
 ·have:¬ e.1.toNat=v:=by omega
  rw[if_neg this,decide_eq_false hc]
  simp
theorem A3R {l:List aJ} {b:List Int} {t:List Bool} {k:Nat} (h:b.getD k 0=(ZK l t k:Int)):BC b t k=pK l t k:=by
 unfold BC pK
 rw[h,ASX]
theorem find_congr {α:Type} {p q:α→Bool}:∀ {l:List α},(∀ a∈l,p a=q a)→l.find? p=l.find? q
 | [],_=>rfl
 | a::l,h=>by rw[List.find?_cons,List.find?_cons,h a (by simp),find_congr fun b hb=>h b (by simp[hb])]
theorem RZ {l:List aJ} {n:Nat} (hll:l.length≤140737488355328) (hl:∀ e∈l,0≤e.1∧e.1.toNat<n∧0≤e.2∧e.2.toNat<n):∀ (f:Nat) (b:List Int) (o:List Int) (t:List Bool),b.length=n→t.length=n→(∀ k,k<n→b.getD k 0=(ZK l t k:Int))→vP l n f b o t=p7 l n f o t
 | 0,b,o,t,_,_,_=>rfl
 | f+1,b,o,t,hb,ht,h=>by
  rw[vP,p7,find_congr (q:=pK l t) fun k hk=>A3R (h k (List.mem_range.1 hk))]
  cases hf:(List.range n).find? (pK l t) with
  | none=>rfl
  | some v =>
   have hv:v<n:=List.mem_range.1 (List.mem_of_find?_eq_some hf)
   have hfree:=List.find?_some hf
   unfold pK at hfree
   rw[Bool.and_eq_true,Bool.not_eq_true'] at hfree
   refine RZ hll hl f _ _ _ (by rw[QT (AF2 v)];exact hb) (by rw[List.length_set];exact ht) fun k hk=>?_
   have hcw:∀ w,ZK l t w≤l.length:=fun w=>List.countP_le_length
   have hgd:∀ w,b.getD w 0≤140737488355328∧0≤b.getD w 0:=fun w=>by
    rcases Nat.lt_or_ge w n with hw|hw
    ·rw[h w hw];have:=hcw w;omega
    ·rw[List.getD_eq_getElem?_getD,List.getElem?_eq_none (by omega)];simp
   rw[AGH v k l b (fun e he=>by obtain ⟨_,_,x,y⟩:=hl e he;exact ⟨x,by omega⟩) (fun w=>by have:=hgd w;omega),h k hk,ASW (v:=v) (fun e he=>by obtain ⟨x,y,_⟩:=hl e he;exact ⟨x,by omega⟩) hfree.1 (by omega) k]
   omega
theorem R0 {n:Int} {l:List aJ} (hll:l.length≤140737488355328) (hn:0≤n) (hn2:n≤256) (h0:bD (nM n) l=0):dJ n l=p7 l n.toNat n.toNat [] (List.replicate n.toNat false):=by
 have hend:∀ e∈l,0≤e.1∧e.1<n∧0≤e.2∧e.2<n:=fun e he=>by
  have:=lP h0 e he
  unfold nM at this
  split at this
  ·exact absurd this (by decide)
  ·omega
 rw[dJ,if_neg (by omega),if_pos h0]
 refine RZ hll (fun e he=>by have:=hend e he;omega) _ _ _ _ (by rw[QT AFX];simp) (by simp) fun k hk=>?_
 rw[AGG k l _ (fun e he=>by have:=hend e he;rw[List.length_replicate];omega) (fun w=>by
  have:(List.replicate n.toNat (0:Int)).getD w 0=0:=by
   rw[List.getD_eq_getElem?_getD,List.getElem?_replicate];split<;>rfl
  rw[this];omega)]
 have:(List.replicate n.toNat (0:Int)).getD k 0=0:=by
  rw[List.getD_eq_getElem?_getD,List.getElem?_replicate];split<;>rfl
 rw[this,Int.zero_add]
 unfold ZK
 congr 1
 refine List.countP_congr fun e he=>?_
 unfold BP
 have:(List.replicate n.toNat false).getD e.1.toNat false=false:=by
  rw[List.getD_eq_getElem?_getD,List.getElem?_replicate];split<;>rfl
 rw[this];simp
end Go.Pv
namespace Go.Pv
open Go Go.Proofs
noncomputable def eqB {α:Type} (a b:α):Bool:=@decide (a=b) (Classical.propDecidable _)
theorem A3C {α:Type} {a b:α}:eqB a b=true↔a=b:=by unfold eqB;exact @decide_eq_true_iff _ (Classical.propDecidable _)
@[simp] theorem A9G {α:Type} (a:α):eqB a a=true:=A3C.2 rfl
def jP (d:aF) (id:ByteArray):Option cC:=d.2.2.2.2.1.find? fun s=>decide (s.1=id)
def noPack:cC:=(⟨#[]⟩,⟨#[]⟩,[],0,[])
def uG (x:aF×ByteArray):Option T:=some (Sh.enc [(true,aP),(false,.bool)] (found noPack (jP x.1 x.2)))
noncomputable def NL:Env:=Env.of []
def AEU:FuncId→Hint:=fun f=>match f == 89 with|true=>⟨fun r=>match r == 2 with|true=>.inv [.val 6 false (.int .i64),.fix 1]|false=>.none,fun _ _=>none,fun _=>none⟩|false=>aV
theorem AKK:aH Tryz.prog NL:=aH.nil _
def OT (a0:aF) (a1:ByteArray) (R:T→Prop):Prop :=
 fE
 (bB.rows false
 [[D.p (T.v (.string { data:=#[] })),D.p (T.v (.string { data:=#[] })),
 D.p (T.v (Value.slice none 0 0)),D.p (T.v (.int .i64 0)),
 D.p (T.v (Value.slice none 0 0))]])
 (bB.rows false
 [[D.p (T.v (.string { data:=#[] })),D.p (T.v (.string { data:=#[] })),
 D.p (T.v (Value.slice none 0 0)),D.p (T.v (.int .i64 0)),
 D.p (T.v (Value.slice none 0 0))]])
 (bA (Int×PUnit×PUnit)
 (fun (X0:Int×PUnit×PUnit→Prop) (s1:Int×PUnit×PUnit) =>
 aB (decide (s1.1<(↑(List.map aP.enc a0.2.2.2.2.1).length:Int)))
 (aO aP (List.map aP.enc a0.2.2.2.2.1) s1.1
 fun (y2:cC) =>
 aB (decide (y2.1=a1))
 (aO aP (List.map aP.enc a0.2.2.2.2.1) s1.1
 fun (y3:cC) =>
 R (T.cR [aC true aP y3,T.v (.bool true)]))
 (fE
 (bB.rows false
 [[D.p (T.v (.string { data:=#[] })),
 D.p (T.v (.string { data:=#[] })),
 D.p (T.v (Value.slice none 0 0)),
 D.p (T.v (.int .i64 0)),
 D.p (T.v (Value.slice none 0 0))]])
 (bB.rows false
 [[D.p (T.v (.string { data:=#[] })),
 D.p (T.v (.string { data:=#[] })),
 D.p (T.v (Value.slice none 0 0)),
 D.p (T.v (.int .i64 0)),
 D.p (T.v (Value.slice none 0 0))]])
 (X0 (IntKind.i64.wrap (s1.1+1),(),()))))
 (R
 (T.cR
 [T.agg
 [T.v (.string { data:=#[] }),T.v (.string { data:=#[] }),
 T.sl false [],T.v (.int .i64 0),T.sl false []],
 T.v (.bool false)])))
 (0,(),()))
theorem ADM ( a0 a1 R):bC aY Tryz.prog NL AEU 8 89 [aC true aL a0,aC false Sy.str a1] R=OT a0 a1 R:=by kernel_rfl
abbrev FU:Sh:=[(true,aL),(false,Sy.str)]
noncomputable def j8:List T→Option (T):=gS FU uG
theorem KZ {a0 a1}:j8 [aC true aL a0,T.v (.string a1)]=uG (a0,a1):=a8 (s:=FU) rfl (a0,a1) rfl
theorem AVC (h:∀ a0 a1 r,uG (a0,a1)=some r→b8 FU (a0,a1)→OT a0 a1 (fun y=>y=r)):aK Tryz.prog 89 j8 :=
 aR (E:=NL) (Hs:=AEU) AKK aW aX (aM rfl) 8 ⟨_,_,Tryz.func89,rfl⟩ rfl fun x r h1 h2=>by
  obtain ⟨a0,a1⟩:=x
  rw[show Sh.bN FU (a0,a1)=[aC true aL a0,aC false Sy.str a1] from rfl,ADM]
  exact h a0 a1 r h1 h2
theorem VA:aK Tryz.prog 89 j8:=AVC fun d id r h hb=>by
 have hl:d.2.2.2.2.1.length≤2 ^ 47:=hb.1.2.2.2.2.1.1
 unfold OT
 rw[cI]
 refine aZ d.2.2.2.2.1.length (fun k s=>s=((k:Int),(),())∧(d.2.2.2.2.1.drop k).find? (fun s=>decide (s.1=id))=jP d id) ⟨rfl,rfl⟩ ?_
 rintro X k s hk ⟨rfl,hf⟩ hX
 simp only[List.length_map,AAX,cI]
 by_cases hlt:k<d.2.2.2.2.1.length
 ·rw[mH hlt] at hf
  simp only[hlt,decide_true,aB,aT (r:=aP) hlt]
  cases hc:decide (d.2.2.2.2.1[k].1=id) with
  | true =>
   simp only[hc,if_true] at hf
   simp only[uG,←hf] at h
   cases h;rfl
  | false =>
   simp only[hc] at hf
   refine hX _ hlt ⟨?_,hf⟩
   simp only[Prod.mk.injEq,and_true]
   exact aS _ (by omega) (by omega)
 ·have:k=d.2.2.2.2.1.length:=by omega
  subst this
  simp only[List.drop_length,List.find?_nil] at hf
  simp only[uG,←hf] at h
  simp only[hlt,decide_false,aB]
  cases h;rfl
def A1A (p:cC):Bool:=RR 16 p.2.2.1.length&&RR 16 p.2.2.2.2.length
def okK (d:aF):Bool:=d.2.2.2.2.1.all A1A
end Go.Pv
namespace Go.Pv
open Go Go.Proofs
def jA (d:aF) (s:l9):Int:=if gX s.1=false∨gX s.2.1=false∨gX s.2.2.1=false then 6 else if s.2.1=s.2.2.1 then 2 else if ¬ s.2.2.2.1=1∧¬ s.2.2.2.1=2 then 10 else if s.2.2.2.2.1<1∨32768<s.2.2.2.2.1∨s.2.2.2.2.2<1∨3<s.2.2.2.2.2 then 9 else if (partOf d s.2.1).isNone=true∨(partOf d s.2.2.1).isNone=true then 8 else 0
def pC (a0:aF) (m1:List (ByteArray×Int)) (m2:List (ByteArray×Int)) (m3:List (ByteArray×Int)) (m4:List (ByteArray×Int)):List T:=[S2 a0 m1 m2 m3 m4]
noncomputable def M3:Env:=Env.of [(66,.pure dQ)]
def AED:FuncId→Hint:=fun f=>match f == 27 with|true=>⟨fun r=>match r == 2 with|true=>.inv [.val 17 false (.int .i64)]|false=>.none,fun _ _=>none,fun _=>none⟩|false=>aV
theorem AJ3:aH Tryz.prog M3:=aH.cons (x:=.pure dQ) L2 (aH.nil _)
def OB (a0:aF) (m1:List (ByteArray×Int)) (m2:List (ByteArray×Int)) (m3:List (ByteArray×Int)) (m4:List (ByteArray×Int)) (R:T→Prop):Prop :=
 bA (Int×PUnit)
 (fun (X0:Int×PUnit→Prop) (s1:Int×PUnit) =>
 aB (decide (s1.1<(↑(List.map a6.enc a0.2.2.2.1).length:Int)))
 (aO a6 (List.map a6.enc a0.2.2.2.1) s1.1 fun (y2:l9) =>
 gK TypeDesc.string (Value.string y2.2.1) (qL (bI m2)) false
 (Sy.int IntKind.i64)
 (gK TypeDesc.string (Value.string y2.2.2.1) (qL (bI m2)) false
 (Sy.int IntKind.i64)
 (aG [(false,Sy.bool)] (dQ [T.v (.string y2.1)])
 fun (y18:Bool) =>
 aB (!y18) (R (T.v (.int .i64 6)))
 (aG [(false,Sy.bool)] (dQ [T.v (.string y2.2.1)])
 fun (y19:Bool) =>
 aB (!y19) (R (T.v (.int .i64 6)))
 (aG [(false,Sy.bool)] (dQ [T.v (.string y2.2.2.1)])
 fun (y20:Bool) =>
 aB (!y20) (R (T.v (.int .i64 6)))
 (aB (decide (y2.2.1=y2.2.2.1))
 (R (T.v (.int .i64 2)))
 (aB (!decide (y2.2.2.2.1=1))
 (aB (!decide (y2.2.2.2.1=2))
 (R (T.v (.int .i64 10)))
 (aB (decide (y2.2.2.2.2.1<1))
 (R (T.v (.int .i64 9)))
 (aB (decide (32768<y2.2.2.2.2.1))
 (R (T.v (.int .i64 9)))
 (aB (decide (y2.2.2.2.2.2<1))
 (R (T.v (.int .i64 9)))
 (aB (decide (3<y2.2.2.2.2.2))
 (R (T.v (.int .i64 9)))
 (R (T.v (.int .i64 8))))))))
 (aB (decide (y2.2.2.2.2.1<1))
 (R (T.v (.int .i64 9)))
 (aB (decide (32768<y2.2.2.2.2.1))
 (R (T.v (.int .i64 9)))
 (aB (decide (y2.2.2.2.2.2<1))
 (R (T.v (.int .i64 9)))
 (aB (decide (3<y2.2.2.2.2.2))
 (R (T.v (.int .i64 9)))
 (R (T.v (.int .i64 8))))))))))))
 fun (i13:Nat) (y14:Int) =>
 aG [(false,Sy.bool)] (dQ [T.v (.string y2.1)]) fun (y15:Bool) =>
 aB (!y15) (R (T.v (.int .i64 6)))
 (aG [(false,Sy.bool)] (dQ [T.v (.string y2.2.1)])
 fun (y16:Bool) =>
 aB (!y16) (R (T.v (.int .i64 6)))
 (aG [(false,Sy.bool)] (dQ [T.v (.string y2.2.2.1)])
 fun (y17:Bool) =>
 aB (!y17) (R (T.v (.int .i64 6)))
 (aB (decide (y2.2.1=y2.2.2.1))
 (R (T.v (.int .i64 2)))
 (aB (!decide (y2.2.2.2.1=1))
 (aB (!decide (y2.2.2.2.1=2))
 (R (T.v (.int .i64 10)))
 (aB (decide (y2.2.2.2.2.1<1))
 (R (T.v (.int .i64 9)))
 (aB (decide (32768<y2.2.2.2.2.1))
 (R (T.v (.int .i64 9)))
 (aB (decide (y2.2.2.2.2.2<1))
 (R (T.v (.int .i64 9)))
 (aB (decide (3<y2.2.2.2.2.2))
 (R (T.v (.int .i64 9)))
 (R (T.v (.int .i64 8))))))))
 (aB (decide (y2.2.2.2.2.1<1))
 (R (T.v (.int .i64 9)))
 (aB (decide (32768<y2.2.2.2.2.1))
 (R (T.v (.int .i64 9)))
 (aB (decide (y2.2.2.2.2.2<1))
 (R (T.v (.int .i64 9)))
 (aB (decide (3<y2.2.2.2.2.2))
 (R (T.v (.int .i64 9)))
 (R (T.v (.int .i64 8))))))))))))
 fun (i3:Nat) (y4:Int) =>
 gK TypeDesc.string (Value.string y2.2.2.1) (qL (bI m2)) false
 (Sy.int IntKind.i64)
 (aG [(false,Sy.bool)] (dQ [T.v (.string y2.1)])
 fun (y10:Bool) =>
 aB (!y10) (R (T.v (.int .i64 6)))
 (aG [(false,Sy.bool)] (dQ [T.v (.string y2.2.1)])
 fun (y11:Bool) =>
 aB (!y11) (R (T.v (.int .i64 6)))
 (aG [(false,Sy.bool)] (dQ [T.v (.string y2.2.2.1)])
 fun (y12:Bool) =>
 aB (!y12) (R (T.v (.int .i64 6)))
 (aB (decide (y2.2.1=y2.2.2.1))
 (R (T.v (.int .i64 2)))
 (aB (!decide (y2.2.2.2.1=1))
 (aB (!decide (y2.2.2.2.1=2))
 (R (T.v (.int .i64 10)))
 (aB (decide (y2.2.2.2.2.1<1))
 (R (T.v (.int .i64 9)))
 (aB (decide (32768<y2.2.2.2.2.1))
 (R (T.v (.int .i64 9)))
 (aB (decide (y2.2.2.2.2.2<1))
 (R (T.v (.int .i64 9)))
 (aB (decide (3<y2.2.2.2.2.2))
 (R (T.v (.int .i64 9)))
 (R (T.v (.int .i64 8))))))))
 (aB (decide (y2.2.2.2.2.1<1))
 (R (T.v (.int .i64 9)))
 (aB (decide (32768<y2.2.2.2.2.1))
 (R (T.v (.int .i64 9)))
 (aB (decide (y2.2.2.2.2.2<1))
 (R (T.v (.int .i64 9)))
 (aB (decide (3<y2.2.2.2.2.2))
 (R (T.v (.int .i64 9)))
 (R (T.v (.int .i64 8))))))))))))
 fun (i5:Nat) (y6:Int) =>
 aG [(false,Sy.bool)] (dQ [T.v (.string y2.1)]) fun (y7:Bool) =>
 aB (!y7) (R (T.v (.int .i64 6)))
 (aG [(false,Sy.bool)] (dQ [T.v (.string y2.2.1)])
 fun (y8:Bool) =>
 aB (!y8) (R (T.v (.int .i64 6)))
 (aG [(false,Sy.bool)] (dQ [T.v (.string y2.2.2.1)])
 fun (y9:Bool) =>
 aB (!y9) (R (T.v (.int .i64 6)))
 (aB (decide (y2.2.1=y2.2.2.1))
 (R (T.v (.int .i64 2)))
 (aB (!decide (y2.2.2.2.1=1))
 (aB (!decide (y2.2.2.2.1=2))
 (R (T.v (.int .i64 10)))
 (aB (decide (y2.2.2.2.2.1<1))
 (R (T.v (.int .i64 9)))
 (aB (decide (32768<y2.2.2.2.2.1))
 (R (T.v (.int .i64 9)))
 (aB (decide (y2.2.2.2.2.2<1))
 (R (T.v (.int .i64 9)))
 (aB (decide (3<y2.2.2.2.2.2))
 (R (T.v (.int .i64 9)))
 (X0 (IntKind.i64.wrap (s1.1+1),())))))))
 (aB (decide (y2.2.2.2.2.1<1))
 (R (T.v (.int .i64 9)))
 (aB (decide (32768<y2.2.2.2.2.1))
 (R (T.v (.int .i64 9)))
 (aB (decide (y2.2.2.2.2.2<1))
 (R (T.v (.int .i64 9)))
 (aB (decide (3<y2.2.2.2.2.2))
 (R (T.v (.int .i64 9)))
 (X0 (IntKind.i64.wrap (s1.1+1),())))))))))))
 (R (T.v (.int .i64 0))))
 (0,())
theorem AC5 ( a0 m1 m2 m3 m4 R):bC aY Tryz.prog M3 AED 8 27 (pC a0 m1 m2 m3 m4) R=OB a0 m1 m2 m3 m4 R:=by kernel_rfl
theorem W0 (x y:aF×MP×MP×MP×MP) (h:pC x.1 x.2.1 x.2.2.1 x.2.2.2.1 x.2.2.2.2=pC y.1 y.2.1 y.2.2.1 y.2.2.2.1 y.2.2.2.2):x=y:=qJ (List.cons.inj h).1
def JN (x:aF×MP×MP×MP×MP):Option T:=wL x (T.v (Value.int .i64 (bD (jA x.1) x.1.2.2.2.1)))
noncomputable def sL:List T→Option (T):=gA (fun (x:aF×(List (ByteArray×Int))×(List (ByteArray×Int))×(List (ByteArray×Int))×List (ByteArray×Int))=>pC x.1 x.2.1 x.2.2.1 x.2.2.2.1 x.2.2.2.2) JN
theorem AGQ (a0:aF) (m1:List (ByteArray×Int)) (m2:List (ByteArray×Int)) (m3:List (ByteArray×Int)) (m4:List (ByteArray×Int)):sL (pC a0 m1 m2 m3 m4)=JN (a0,m1,m2,m3,m4):=lQ (A:=(fun (x:aF×(List (ByteArray×Int))×(List (ByteArray×Int))×(List (ByteArray×Int))×List (ByteArray×Int))=>pC x.1 x.2.1 x.2.2.1 x.2.2.2.1 x.2.2.2.2)) W0 (a0,m1,m2,m3,m4)
theorem AUV (h:∀ (a0:aF) (m1:List (ByteArray×Int)) (m2:List (ByteArray×Int)) (m3:List (ByteArray×Int)) (m4:List (ByteArray×Int)) (r:T),JN (a0,m1,m2,m3,m4)=some r→(∀ t∈pC a0 m1 m2 m3 m4,Bd t)→OB a0 m1 m2 m3 m4 (fun y=>y=r)):aK Tryz.prog 27 sL :=
 fO (E:=M3) (Hs:=AED) AJ3 aW aX (aM rfl) 8 ⟨_,_,Tryz.func27,rfl⟩ fun x r h1 h2=>by
  rw[AC5]
  exact h x.1 x.2.1 x.2.2.1 x.2.2.2.1 x.2.2.2.2 r h1 h2
theorem ATC:aK Tryz.prog 27 sL:=AUV fun d m1 m2 m3 m4 r h hb=>by
 obtain ⟨hx,hs,rfl⟩:=nT h
 simp only[Prod.mk.injEq,true_and] at hx
 obtain ⟨rfl,rfl,rfl,rfl⟩:=hx
 replace hs:mE d:=hs
 clear h
 unfold OB
 refine fK (r:=a6) (jA d) hs.s (fun X s y hy hok hbad=>?_) fun h0=>?_
 ·have bad:∀ {n:Int},n≠0→jA d y=n→T.v (.int .i64 n)=T.v (.int .i64 (bD (jA d) d.2.2.2.1)):=fun hn h=>by
   rw[hbad (by rw[h];exact hn),h]
  clear hbad hb
  repeat' first
   | refine ixK (fun hn=>?_) (fun i j hj hn=>?_)
   | rw[mR]
   | refine gP (fun h=>?_) (fun h=>?_)
   | refine bL (fun h=>?_) (fun h=>?_)
   | refine dM (fun h=>?_) (fun h=>?_)
  all_goals first
   | (exfalso;omega)
   | (refine bad (by decide) ?_;clear bad hok;unfold jA;simp[*,partOf,jP];done)
   | (refine hok ?_;clear bad hok;unfold jA;simp[*,partOf,jP];done)
 ·show _=T.v (.int .i64 (bD (jA d) d.2.2.2.1))
  rw[h0]
def qR (a0:aF) (m1:List (ByteArray×Int)) (m2:List (ByteArray×Int)) (m3:List (ByteArray×Int)) (m4:List (ByteArray×Int)) (a5:ByteArray):List T:=[S2 a0 m1 m2 m3 m4,T.v (.string a5)]
noncomputable def XA:Env:=Env.of []
def APR:FuncId→Hint:=fun _=>aV
theorem ARY:aH Tryz.prog XA:=aH.nil _
def YA (a0:aF) (m1:List (ByteArray×Int)) (m2:List (ByteArray×Int)) (m3:List (ByteArray×Int)) (m4:List (ByteArray×Int)) (a5:ByteArray) (R:T→Prop):Prop :=
 gK TypeDesc.string (Value.string a5) (qL (bI m1)) false (Sy.int IntKind.i64)
 (R (T.v (.bool false))) fun (i0:Nat) (y1:Int) =>
 aO bE (List.map bE.enc a0.2.1) y1 fun (y2:gT) =>
 R (T.v (.bool (decide (y2.2.1=1))))
theorem ALE ( a0 m1 m2 m3 m4 a5 R):bC aY Tryz.prog XA APR 8 70 (qR a0 m1 m2 m3 m4 a5) R=YA a0 m1 m2 m3 m4 a5 R:=by kernel_rfl
def lU (d:aF) (id:ByteArray):Bool:=match cB d id with
 | some n=>decide (n.2.1=1)
 | none=>false
theorem AB6 (x y:aF×MP×MP×MP×MP×ByteArray) (h:qR x.1 x.2.1 x.2.2.1 x.2.2.2.1 x.2.2.2.2.1 x.2.2.2.2.2=qR y.1 y.2.1 y.2.2.1 y.2.2.2.1 y.2.2.2.2.1 y.2.2.2.2.2):x=y:=DS x y h
def SO (x:aF×MP×MP×MP×MP×ByteArray):Option T:=wL (x.1,x.2.1,x.2.2.1,x.2.2.2.1,x.2.2.2.2.1) (T.v (.bool (lU x.1 x.2.2.2.2.2)))
noncomputable def fA:List T→Option (T):=gA (fun (x:aF×(List (ByteArray×Int))×(List (ByteArray×Int))×(List (ByteArray×Int))×(List (ByteArray×Int))×ByteArray)=>qR x.1 x.2.1 x.2.2.1 x.2.2.2.1 x.2.2.2.2.1 x.2.2.2.2.2) SO
theorem ANA (a0:aF) (m1:List (ByteArray×Int)) (m2:List (ByteArray×Int)) (m3:List (ByteArray×Int)) (m4:List (ByteArray×Int)) (a5:ByteArray):fA (qR a0 m1 m2 m3 m4 a5)=SO (a0,m1,m2,m3,m4,a5):=lQ (A:=(fun (x:aF×(List (ByteArray×Int))×(List (ByteArray×Int))×(List (ByteArray×Int))×(List (ByteArray×Int))×ByteArray)=>qR x.1 x.2.1 x.2.2.1 x.2.2.2.1 x.2.2.2.2.1 x.2.2.2.2.2)) AB6 (a0,m1,m2,m3,m4,a5)
theorem A01 (h:∀ (a0:aF) (m1:List (ByteArray×Int)) (m2:List (ByteArray×Int)) (m3:List (ByteArray×Int)) (m4:List (ByteArray×Int)) (a5:ByteArray) (r:T),SO (a0,m1,m2,m3,m4,a5)=some r→(∀ t∈qR a0 m1 m2 m3 m4 a5,Bd t)→YA a0 m1 m2 m3 m4 a5 (fun y=>y=r)):aK Tryz.prog 70 fA :=
 fO (E:=XA) (Hs:=APR) ARY aW aX (aM rfl) 8 ⟨_,_,Tryz.func70,rfl⟩ fun x r h1 h2=>by
  rw[ALE]
  exact h x.1 x.2.1 x.2.2.1 x.2.2.2.1 x.2.2.2.2.1 x.2.2.2.2.2 r h1 h2
theorem AGC:aK Tryz.prog 70 fA:=A01 fun d m1 m2 m3 m4 id0 r h hb=>by
 obtain ⟨hx,hs,rfl⟩:=nT h
 simp only[Prod.mk.injEq,true_and] at hx
 obtain ⟨rfl,rfl,rfl,rfl⟩:=hx
 replace hs:mE d:=hs
 clear h
 unfold YA
 refine ixK (fun hn=>?_) fun i j hj hn=>?_
 ·have hn:cB d id0=none:=hn
  show _=T.v (.bool (lU d id0))
  unfold lU;rw[hn]
 ·have hn:cB d id0=some d.2.1[j]:=hn
  rw[aT (r:=bE) hj]
  show _=T.v (.bool (lU d id0))
  unfold lU;rw[hn]
theorem QZ {d:aF} (hs:mE d) (id:ByteArray):fA (qR d (hH (ids d.2.1)) (hH (ids d.2.2.1)) (hH (ids d.2.2.2.1)) (hH (ids d.2.2.2.2.1)) id)=some (Sh.enc [(false,.bool)] (lU d id)):=by
 rw[ANA];exact nU hs _
def hU (d:aF) (x:fQ):Int:=if x.1<1∨3<x.1 then 10 else if x.2.2=x.2.1 then 2 else if lU d x.2.1=false then 8 else if (x.1=1∧¬ x.2.2 = { data:=#[] }∧lU d x.2.2=false)∨(x.1=2∧lU d x.2.2=false)∨(x.1=3∧(jP d x.2.2).isNone=true) then 8 else 0
def pA (a0:aF) (m1:List (ByteArray×Int)) (m2:List (ByteArray×Int)) (m3:List (ByteArray×Int)) (m4:List (ByteArray×Int)):List T:=[S2 a0 m1 m2 m3 m4]
noncomputable def M0:Env:=Env.of [(70,.pure fA)]
def AEB:FuncId→Hint:=fun f=>match f == 29 with|true=>⟨fun r=>match r == 2 with|true=>.inv [.val 15 false (.int .i64)]|false=>.none,fun _ _=>none,fun _=>none⟩|false=>aV
theorem AJ1:aH Tryz.prog M0:=aH.cons (x:=.pure fA) AGC (aH.nil _)
def N9 (a0:aF) (m1:List (ByteArray×Int)) (m2:List (ByteArray×Int)) (m3:List (ByteArray×Int)) (m4:List (ByteArray×Int)) (R:T→Prop):Prop :=
 bA (Int×PUnit)
 (fun (X0:Int×PUnit→Prop) (s1:Int×PUnit) =>
 aB (decide (s1.1<(↑(List.map aQ.enc a0.2.2.2.2.2).length:Int)))
 (aO aQ (List.map aQ.enc a0.2.2.2.2.2) s1.1 fun (y2:fQ) =>
 gK TypeDesc.string (Value.string y2.2.2) (qL (bI m4)) false
 (Sy.int IntKind.i64)
 (aB (decide (y2.1<1)) (R (T.v (.int .i64 10)))
 (aB (decide (3<y2.1)) (R (T.v (.int .i64 10)))
 (aB (decide (y2.2.2=y2.2.1)) (R (T.v (.int .i64 2)))
 (aG [(false,Sy.bool)]
 (fA
 [T.ref
 [T.ref
 [T.v (.string a0.1),T.sl false (List.map bE.enc a0.2.1),
 T.sl false (List.map aU.enc a0.2.2.1),
 T.sl false (List.map a6.enc a0.2.2.2.1),
 T.sl false (List.map aP.enc a0.2.2.2.2.1),
 T.sl false (List.map aQ.enc a0.2.2.2.2.2)],
 T.mp (bI m1),T.mp (bI m2),T.mp (bI m3),
 T.mp (bI m4)],
 T.v (.string y2.2.1)])
 fun (y10:Bool) =>
 aB (!y10) (R (T.v (.int .i64 8)))
 (aB (decide (y2.1=1))
 (aB (!decide (y2.2.2 = { data:=#[] }))
 (aG [(false,Sy.bool)]
 (fA
 [T.ref
 [T.ref
 [T.v (.string a0.1),
 T.sl false (List.map bE.enc a0.2.1),
 T.sl false (List.map aU.enc a0.2.2.1),
 T.sl false (List.map a6.enc a0.2.2.2.1),
 T.sl false (List.map aP.enc a0.2.2.2.2.1),
 T.sl false (List.map aQ.enc a0.2.2.2.2.2)],
 T.mp (bI m1),T.mp (bI m2),T.mp (bI m3),
 T.mp (bI m4)],
 T.v (.string y2.2.2)])
 fun (y11:Bool) =>
 aB (!y11) (R (T.v (.int .i64 8)))
 (aB (decide (y2.1=2))
 (aG [(false,Sy.bool)]
 (fA
 [T.ref
 [T.ref
 [T.v (.string a0.1),
 T.sl false (List.map bE.enc a0.2.1),
 T.sl false (List.map aU.enc a0.2.2.1),
 T.sl false (List.map a6.enc a0.2.2.2.1),
 T.sl false (List.map aP.enc a0.2.2.2.2.1),
 T.sl false (List.map aQ.enc a0.2.2.2.2.2)],
 T.mp (bI m1),T.mp (bI m2),
 T.mp (bI m3),T.mp (bI m4)],
 T.v (.string y2.2.2)])
 fun (y12:Bool) =>
 aB (!y12) (R (T.v (.int .i64 8)))
 (aB (decide (y2.1=3)) (R (T.v (.int .i64 8)))
 (X0 (IntKind.i64.wrap (s1.1+1),()))))
 (aB (decide (y2.1=3)) (R (T.v (.int .i64 8)))
 (X0 (IntKind.i64.wrap (s1.1+1),())))))
 (aB (decide (y2.1=2))
 (aG [(false,Sy.bool)]
 (fA
 [T.ref
 [T.ref
 [T.v (.string a0.1),
 T.sl false (List.map bE.enc a0.2.1),
 T.sl false (List.map aU.enc a0.2.2.1),
 T.sl false (List.map a6.enc a0.2.2.2.1),
 T.sl false (List.map aP.enc a0.2.2.2.2.1),
 T.sl false (List.map aQ.enc a0.2.2.2.2.2)],
 T.mp (bI m1),T.mp (bI m2),T.mp (bI m3),
 T.mp (bI m4)],
 T.v (.string y2.2.2)])
 fun (y13:Bool) =>
 aB (!y13) (R (T.v (.int .i64 8)))
 (aB (decide (y2.1=3)) (R (T.v (.int .i64 8)))
 (X0 (IntKind.i64.wrap (s1.1+1),()))))
 (aB (decide (y2.1=3)) (R (T.v (.int .i64 8)))
 (X0 (IntKind.i64.wrap (s1.1+1),())))))
 (aB (decide (y2.1=2))
 (aG [(false,Sy.bool)]
 (fA
 [T.ref
 [T.ref
 [T.v (.string a0.1),
 T.sl false (List.map bE.enc a0.2.1),
 T.sl false (List.map aU.enc a0.2.2.1),
 T.sl false (List.map a6.enc a0.2.2.2.1),
 T.sl false (List.map aP.enc a0.2.2.2.2.1),
 T.sl false (List.map aQ.enc a0.2.2.2.2.2)],
 T.mp (bI m1),T.mp (bI m2),T.mp (bI m3),
 T.mp (bI m4)],
 T.v (.string y2.2.2)])
 fun (y14:Bool) =>
 aB (!y14) (R (T.v (.int .i64 8)))
 (aB (decide (y2.1=3)) (R (T.v (.int .i64 8)))
 (X0 (IntKind.i64.wrap (s1.1+1),()))))
 (aB (decide (y2.1=3)) (R (T.v (.int .i64 8)))
 (X0 (IntKind.i64.wrap (s1.1+1),())))))))))
 fun (i3:Nat) (y4:Int) =>
 aB (decide (y2.1<1)) (R (T.v (.int .i64 10)))
 (aB (decide (3<y2.1)) (R (T.v (.int .i64 10)))
 (aB (decide (y2.2.2=y2.2.1)) (R (T.v (.int .i64 2)))
 (aG [(false,Sy.bool)]
 (fA
 [T.ref
 [T.ref
 [T.v (.string a0.1),T.sl false (List.map bE.enc a0.2.1),
 T.sl false (List.map aU.enc a0.2.2.1),
 T.sl false (List.map a6.enc a0.2.2.2.1),
 T.sl false (List.map aP.enc a0.2.2.2.2.1),
 T.sl false (List.map aQ.enc a0.2.2.2.2.2)],
 T.mp (bI m1),T.mp (bI m2),T.mp (bI m3),
 T.mp (bI m4)],
 T.v (.string y2.2.1)])
 fun (y5:Bool) =>
 aB (!y5) (R (T.v (.int .i64 8)))
 (aB (decide (y2.1=1))
 (aB (!decide (y2.2.2 = { data:=#[] }))
 (aG [(false,Sy.bool)]
 (fA
 [T.ref
 [T.ref
 [T.v (.string a0.1),
 T.sl false (List.map bE.enc a0.2.1),
 T.sl false (List.map aU.enc a0.2.2.1),
 T.sl false (List.map a6.enc a0.2.2.2.1),
 T.sl false (List.map aP.enc a0.2.2.2.2.1),
 T.sl false (List.map aQ.enc a0.2.2.2.2.2)],
 T.mp (bI m1),T.mp (bI m2),T.mp (bI m3),
 T.mp (bI m4)],
 T.v (.string y2.2.2)])
 fun (y6:Bool) =>
 aB (!y6) (R (T.v (.int .i64 8)))
 (aB (decide (y2.1=2))
 (aG [(false,Sy.bool)]
 (fA
 [T.ref
 [T.ref
 [T.v (.string a0.1),
 T.sl false (List.map bE.enc a0.2.1),
 T.sl false (List.map aU.enc a0.2.2.1),
 T.sl false (List.map a6.enc a0.2.2.2.1),
 T.sl false (List.map aP.enc a0.2.2.2.2.1),
 T.sl false (List.map aQ.enc a0.2.2.2.2.2)],
 T.mp (bI m1),T.mp (bI m2),
 T.mp (bI m3),T.mp (bI m4)],
 T.v (.string y2.2.2)])
 fun (y7:Bool) =>
 aB (!y7) (R (T.v (.int .i64 8)))
 (aB (decide (y2.1=3)) (X0 (IntKind.i64.wrap (s1.1+1),()))
 (X0 (IntKind.i64.wrap (s1.1+1),()))))
 (aB (decide (y2.1=3)) (X0 (IntKind.i64.wrap (s1.1+1),()))
 (X0 (IntKind.i64.wrap (s1.1+1),())))))
 (aB (decide (y2.1=2))
 (aG [(false,Sy.bool)]
 (fA
 [T.ref
 [T.ref
 [T.v (.string a0.1),
 T.sl false (List.map bE.enc a0.2.1),
 T.sl false (List.map aU.enc a0.2.2.1),
 T.sl false (List.map a6.enc a0.2.2.2.1),
 T.sl false (List.map aP.enc a0.2.2.2.2.1),
 T.sl false (List.map aQ.enc a0.2.2.2.2.2)],
 T.mp (bI m1),T.mp (bI m2),T.mp (bI m3),
 T.mp (bI m4)],
 T.v (.string y2.2.2)])
 fun (y8:Bool) =>
 aB (!y8) (R (T.v (.int .i64 8)))
 (aB (decide (y2.1=3)) (X0 (IntKind.i64.wrap (s1.1+1),()))
 (X0 (IntKind.i64.wrap (s1.1+1),()))))
 (aB (decide (y2.1=3)) (X0 (IntKind.i64.wrap (s1.1+1),()))
 (X0 (IntKind.i64.wrap (s1.1+1),())))))
 (aB (decide (y2.1=2))
 (aG [(false,Sy.bool)]
 (fA
 [T.ref
 [T.ref
 [T.v (.string a0.1),
 T.sl false (List.map bE.enc a0.2.1),
 T.sl false (List.map aU.enc a0.2.2.1),
 T.sl false (List.map a6.enc a0.2.2.2.1),
 T.sl false (List.map aP.enc a0.2.2.2.2.1),
 T.sl false (List.map aQ.enc a0.2.2.2.2.2)],
 T.mp (bI m1),T.mp (bI m2),T.mp (bI m3),
 T.mp (bI m4)],
 T.v (.string y2.2.2)])
 fun (y9:Bool) =>
 aB (!y9) (R (T.v (.int .i64 8)))
 (aB (decide (y2.1=3)) (X0 (IntKind.i64.wrap (s1.1+1),()))
 (X0 (IntKind.i64.wrap (s1.1+1),()))))
 (aB (decide (y2.1=3)) (X0 (IntKind.i64.wrap (s1.1+1),()))
 (X0 (IntKind.i64.wrap (s1.1+1),())))))))))
 (R (T.v (.int .i64 0))))
 (0,())
theorem AC3 ( a0 m1 m2 m3 m4 R):bC aY Tryz.prog M0 AEB 8 29 (pA a0 m1 m2 m3 m4) R=N9 a0 m1 m2 m3 m4 R:=by kernel_rfl
theorem WY (x y:aF×MP×MP×MP×MP) (h:pA x.1 x.2.1 x.2.2.1 x.2.2.2.1 x.2.2.2.2=pA y.1 y.2.1 y.2.2.1 y.2.2.2.1 y.2.2.2.2):x=y:=qJ (List.cons.inj h).1
def JL (x:aF×MP×MP×MP×MP):Option T:=wL x (T.v (Value.int .i64 (bD (hU x.1) x.1.2.2.2.2.2)))
noncomputable def sJ:List T→Option (T):=gA (fun (x:aF×(List (ByteArray×Int))×(List (ByteArray×Int))×(List (ByteArray×Int))×List (ByteArray×Int))=>pA x.1 x.2.1 x.2.2.1 x.2.2.2.1 x.2.2.2.2) JL
theorem AGO (a0:aF) (m1:List (ByteArray×Int)) (m2:List (ByteArray×Int)) (m3:List (ByteArray×Int)) (m4:List (ByteArray×Int)):sJ (pA a0 m1 m2 m3 m4)=JL (a0,m1,m2,m3,m4):=lQ (A:=(fun (x:aF×(List (ByteArray×Int))×(List (ByteArray×Int))×(List (ByteArray×Int))×List (ByteArray×Int))=>pA x.1 x.2.1 x.2.2.1 x.2.2.2.1 x.2.2.2.2)) WY (a0,m1,m2,m3,m4)
theorem AUT (h:∀ (a0:aF) (m1:List (ByteArray×Int)) (m2:List (ByteArray×Int)) (m3:List (ByteArray×Int)) (m4:List (ByteArray×Int)) (r:T),JL (a0,m1,m2,m3,m4)=some r→(∀ t∈pA a0 m1 m2 m3 m4,Bd t)→N9 a0 m1 m2 m3 m4 (fun y=>y=r)):aK Tryz.prog 29 sJ :=
 fO (E:=M0) (Hs:=AEB) AJ1 aW aX (aM rfl) 8 ⟨_,_,Tryz.func29,rfl⟩ fun x r h1 h2=>by
  rw[AC3]
  exact h x.1 x.2.1 x.2.2.1 x.2.2.2.1 x.2.2.2.2 r h1 h2
theorem ATA:aK Tryz.prog 29 sJ:=AUT fun d m1 m2 m3 m4 r h hb=>by
 obtain ⟨hx,hs,rfl⟩:=nT h
 simp only[Prod.mk.injEq,true_and] at hx
 obtain ⟨rfl,rfl,rfl,rfl⟩:=hx
 replace hs:mE d:=hs
 clear h
 unfold N9
 refine fK (r:=aQ) (hU d) hs.r (fun X s y hy hok hbad=>?_) fun h0=>?_
 ·have bad:∀ {n:Int},n≠0→hU d y=n→T.v (.int .i64 n)=T.v (.int .i64 (bD (hU d) d.2.2.2.2.2)):=fun hn h=>by
   rw[hbad (by rw[h];exact hn),h]
  clear hbad hb
  repeat' first
   | refine ixK (fun hn=>?_) (fun i j hj hn=>?_)
   | rw[mR]
   | refine aD (s:=[(false,.bool)]) (QZ hs _) ?_
   | refine gP (fun h=>?_) (fun h=>?_)
   | refine bL (fun h=>?_) (fun h=>?_)
   | refine dM (fun h=>?_) (fun h=>?_)
  all_goals first
   | (exfalso;omega)
   | (refine bad (by decide) ?_;clear bad hok;unfold hU;simp[*,partOf,jP];done)
   | (refine hok ?_;clear bad hok;unfold hU;simp[*,partOf,jP];done)
   | (refine hok ?_;clear bad hok hs hy;unfold hU;simp_all[partOf,jP];done)
 ·show _=T.v (.int .i64 (bD (hU d) d.2.2.2.2.2))
  rw[h0]
end Go.Pv
namespace Go.Pv
open Go Go.Proofs
def wU (a0:List ByteArray):List T:=[T.sl false (List.map Sy.str.enc a0)]
noncomputable def AJY:Env:=Env.of []
def AX2:FuncId→Hint:=fun _=>aV
theorem AW6:aH Tryz.prog AJY:=aH.nil _
def ALR (a0:List ByteArray) (R:T→Prop):Prop :=
 R (T.fn 110 [] [T.ref [T.sl false (List.map Sy.str.enc a0)]])
theorem ASE ( a0 R):bC aY Tryz.prog AJY AX2 8 71 (wU a0) R=ALR a0 R:=by kernel_rfl
def ABV (l:List ByteArray):Option T:=some (T.fn 110 [] [T.ref [T.sl false (List.map Sy.str.enc l)]])
theorem AJQ (x y:List ByteArray) (h:wU x=wU y):x=y:=by
 unfold wU at h
 have h:=(T.sl.injEq .. ▸ (List.cons.inj h).1)
 exact map_inj (Sy.dV .str) h.2
noncomputable def CO:List T→Option (T):=gA (fun (x:List ByteArray)=>wU x) ABV
theorem VO (a0:List ByteArray):CO (wU a0)=ABV a0:=lQ (A:=(fun (x:List ByteArray)=>wU x)) AJQ a0
theorem A4M (h:∀ (a0:List ByteArray) (r:T),ABV a0=some r→(∀ t∈wU a0,Bd t)→ALR a0 (fun y=>y=r)):aK Tryz.prog 71 CO :=
 fO (E:=AJY) (Hs:=AX2) AW6 aW aX (aM rfl) 8 ⟨_,_,Tryz.func71,rfl⟩ fun x r h1 h2=>by
  rw[ASE]
  exact h x r h1 h2
theorem A3O:aK Tryz.prog 71 CO:=A4M fun l r h hb=>by
 cases h
 unfold ALR
 rfl
end Go.Pv
