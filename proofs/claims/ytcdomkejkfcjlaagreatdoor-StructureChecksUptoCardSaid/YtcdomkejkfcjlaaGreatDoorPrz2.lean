/-
  part: Check, Mass.
  Plane geometry, plain: a simple contour has an area, and the area of a valid shape is not negative.
  The reference's poly: segments and simple contours.
  The reference's poly: Check, Area2, Where.
  The reference's region: Check, Area2.
  The reference's vec.Valid and material.
  The reference's part: Check, Mass.
  dag.Order, walked.
  dag.Order of the program, as the reference takes it: again and again the least node that nothing waits for.
  Packages; equality of lists, shapes, parts and packages.
  Chapter 17: the tree's seams and requirements.
  Chapter 17: the tree's parts and packages, walked; Check, walked.
-/
import Derived.Test.YtcdomkejkfcjlaaGreatDoorPrz1
set_option linter.unusedSimpArgs false
set_option linter.unusedVariables false
set_option maxRecDepth 100000
namespace Go.Pv
open Go Go.Proofs
abbrev bB (p:bL):Int:=p.2.2.1
abbrev e9 (p:bL):ByteArray:=p.2.2.2.1
abbrev dL (p:bL):ByteArray:=p.2.2.2.2.1
abbrev fO (p:bL):Int:=p.2.2.2.2.2.1
abbrev dC (p:bL):eL:=p.2.2.2.2.2.2.1
abbrev B0 (p:bL):ByteArray:=p.2.2.2.2.2.2.2.1
abbrev j8 (p:bL):Int:=p.2.2.2.2.2.2.2.2.1
abbrev hU (p:bL):Int:=p.2.2.2.2.2.2.2.2.2.1
abbrev o6 (p:bL):AEU:=p.2.2.2.2.2.2.2.2.2.2.1
abbrev aAt (p:bL):uP:=p.2.2.2.2.2.2.2.2.2.2.2
def R3 (p:bL):Bool:=!decide (fO p=0)||decide (0<(dC p).1.length+(dC p).2.length)
def AYT (p:bL):Bool:=!decide (B0 p = { data:=#[] }) || !decide (j8 p=0)
def AY3 (p:bL):Bool:=!decide (hU p=0) || !(decide ((o6 p).1=0)&&(decide ((o6 p).2.1=0)&&decide ((o6 p).2.2=0)))
def gZ (p:bL):Bool:=if bB p=1 then AYT p||AY3 p else if bB p=2∨bB p=3 then R3 p||AY3 p else !decide (dL p = { data:=#[] })||(R3 p||AYT p)
noncomputable def ND:Env:=Env.of []
def AED:FuncId→Hint:=fun f=>match f == 102 with|true=>⟨fun _=>.none,fun i j=>match i == 1&&j == 1 with|true=>some [.val 3 false .bool]|false=>match i == 2&&j == 2 with|true=>some [.val 4 false .bool]|false=>match i == 3&&j == 3 with|true=>some [.val 5 false .bool]|false=>none,fun _=>none⟩|false=>aT
theorem AJ1:aE Tryz.prog ND:=aE.nil _
def ON (a0:bL) (R:T→Prop):Prop :=
 rU (Bool×PUnit)
 (fun (X0:Bool×PUnit→Prop) =>
 aB (!decide (a0.2.2.2.2.2.1=0)) (X0 (true,()))
 (X0
 (decide
 (0 <
 IntKind.i64.wrap
 ((↑(List.map aA.enc a0.2.2.2.2.2.2.1.1).length:Int) +
 (↑(List.map aA.li.enc a0.2.2.2.2.2.2.1.2).length:Int))),
 ())))
 fun (s1:Bool×PUnit) =>
 rU (Bool×PUnit)
 (fun (X2:Bool×PUnit→Prop) =>
 aB (!decide (a0.2.2.2.2.2.2.2.1 = { data:=#[] })) (X2 (true,()))
 (X2 (!decide (a0.2.2.2.2.2.2.2.2.1=0),())))
 fun (s3:Bool×PUnit) =>
 rU (Bool×PUnit)
 (fun (X4:Bool×PUnit→Prop) =>
 aB (!decide (a0.2.2.2.2.2.2.2.2.2.1=0)) (X4 (true,()))
 (X4
 (!(decide (a0.2.2.2.2.2.2.2.2.2.2.1.1=0) &&
 (decide (a0.2.2.2.2.2.2.2.2.2.2.1.2.1=0) &&
 (decide (a0.2.2.2.2.2.2.2.2.2.2.1.2.2=0)&&true))),
 ())))
 fun (s5:Bool×PUnit) =>
 aB (decide (a0.2.2.1=1))
 (aB s3.1 (R (T.v (.bool true))) (R (T.v (.bool s5.1))))
 (aB (decide (a0.2.2.1=2))
 (aB s1.1 (R (T.v (.bool true))) (R (T.v (.bool s5.1))))
 (aB (decide (a0.2.2.1=3))
 (aB s1.1 (R (T.v (.bool true))) (R (T.v (.bool s5.1))))
 (aB (decide (a0.2.2.1=4))
 (aB (!decide (a0.2.2.2.2.1 = { data:=#[] })) (R (T.v (.bool true)))
 (aB s1.1 (R (T.v (.bool true))) (R (T.v (.bool s3.1)))))
 (aB (!decide (a0.2.2.2.2.1 = { data:=#[] })) (R (T.v (.bool true)))
 (aB s1.1 (R (T.v (.bool true))) (R (T.v (.bool s3.1))))))))
theorem AC5 ( a0 R):bA aW Tryz.prog ND AED 8 102 [aC true aX a0] R=ON a0 R:=by kernel_rfl
abbrev FN:Sh:=[(true,aX)]
def JQ (p:bL):Option T:=some (T.v (.bool (gZ p)))
noncomputable def jW:List T→Option (T):=gS FN JQ
theorem AGU {a0}:jW [aC true aX a0]=JQ (a0):=a6 (s:=FN) rfl (a0) rfl
theorem AUC (h:∀ a0 r,JQ (a0)=some r→bY FN (a0)→ON a0 (fun y=>y=r)):aK Tryz.prog 102 jW :=
 aP (E:=ND) (Hs:=AED) AJ1 aU aV (aL rfl) 8 ⟨_,_,Tryz.func102,rfl⟩ rfl fun x r h1 h2=>by
  let a0:=x
  rw[show Sh.bK FN (a0)=[aC true aX a0] from rfl,AC5]
  exact h a0 r h1 h2
theorem AAD {a b:Bool} {n:Bool} (h:n=(a||b)):aB a (T.v (.bool true)=T.v (.bool n)) (T.v (.bool b)=T.v (.bool n)):=by
 subst h;cases a<;>rfl
theorem ASR:aK Tryz.prog 102 jW:=AUC fun p r h hb=>by
 have b1:(dC p).1.length≤2 ^ 47:=hb.2.2.2.2.2.2.1.1.1
 have b2:(dC p).2.length≤2 ^ 47:=hb.2.2.2.2.2.2.1.2.1
 cases h
 unfold ON
 have j:∀ {a b:Bool} {K:Bool×PUnit→Prop},K (a||b,())→rU (Bool×PUnit) (fun (X:Bool×PUnit→Prop)=>aB a (X (true,())) (X (b,()))) K:=fun {a b K} hK=>by
  rw[yZ];cases a<;>exact hK
 have e1:decide (0<IntKind.i64.wrap (((List.map aA.enc (dC p).1).length:Int)+((List.map aA.li.enc (dC p).2).length:Int)))=decide (0<(dC p).1.length+(dC p).2.length):=by
  rw[List.length_map,List.length_map,aQ _ (by omega) (by omega)]
  exact decide_eq_decide.2 (by omega)
 refine j ?_
 refine j ?_
 refine j ?_
 dsimp only
 rw[e1,Bool.and_true]
 refine bJ (fun h=>AAD (by unfold gZ;rw[if_pos h];rfl)) fun k1=>?_
 refine bJ (fun h=>AAD (by unfold gZ;rw[if_neg k1,if_pos (.inl h)];rfl)) fun k2=>?_
 refine bJ (fun h=>AAD (by unfold gZ;rw[if_neg k1,if_pos (.inr h)];rfl)) fun k3=>?_
 have w:gZ p=(!decide (dL p = { data:=#[] })||(R3 p||AYT p)):=by
  unfold gZ;rw[if_neg k1,if_neg];rintro (h|h)
  ·exact k2 h
  ·exact k3 h
 have fin:aB (!decide (dL p = { data:=#[] })) (T.v (.bool true)=T.v (.bool (gZ p))) (aB (R3 p) (T.v (.bool true)=T.v (.bool (gZ p))) (T.v (.bool (AYT p))=T.v (.bool (gZ p)))):=by
  rw[w]
  cases (!decide (dL p = { data:=#[] })) with
  | true=>rfl
  | false=>exact AAD rfl
 exact bJ (fun _=>fin) fun _=>fin
def K6 (m:aN) (n:ByteArray):Bool:=match pY m n with
 | some s=>decide (1≤s.2.1)&&decide (s.2.1≤1000000)&&(decide (1≤s.2.2.1)&&decide (s.2.2.1≤2000))
 | none=>false
def c0 (p:bL) (m:aN):Bool:=if bB p=4 then true else match cH m (dL p) with
 | none=>false
 | some g=>decide (1000≤g.2.1)&&decide (g.2.1≤20000)&&(if bB p=1 then decide (1≤fO p)&&decide (fO p≤120)&&gX m (dL p) (fO p) else K6 m (B0 p))
noncomputable def WW:Env:=Env.of [(107,.pure dV),(108,.pure b9),(127,.pure iH)]
def AO2:FuncId→Hint:=fun _=>aT
theorem AQ6:aE Tryz.prog WW:=aE.cons (x:=.pure dV) IA (aE.cons (x:=.pure b9) QI (aE.cons (x:=.pure iH) ALW (aE.nil _)))
def XY (a0:bL) (a1:aN) (R:T→Prop):Prop :=
 aB (decide (a0.2.2.1=1))
 (aG [(true,bD),(false,Sy.bool)]
 (dV [aC true aH a1,T.v (.string a0.2.2.2.2.1)])
 fun (y0:cR×Bool) =>
 aB (!y0.2) (R (T.v (.bool false)))
 (aB (decide (1000≤y0.1.2.1))
 (aB (!decide (y0.1.2.1≤20000)) (R (T.v (.bool false)))
 (aB (decide (a0.2.2.1=1))
 (aB (decide (1≤a0.2.2.2.2.2.1))
 (aB (decide (a0.2.2.2.2.2.1≤120))
 (aG [(false,Sy.bool)]
 (iH
 [aC true aH a1,T.v (.string a0.2.2.2.2.1),
 T.v (.int .i64 a0.2.2.2.2.2.1)])
 fun (y1:Bool)=>R (T.v (.bool y1)))
 (R (T.v (.bool false))))
 (R (T.v (.bool false))))
 (aB (decide (a0.2.2.1=2))
 (aG [(true,aZ),(false,Sy.bool)]
 (b9
 [aC true aH a1,T.v (.string a0.2.2.2.2.2.2.2.1)])
 fun (y2:bQ×Bool) =>
 aB y2.2
 (aB (decide (1≤y2.1.2.1))
 (aB (decide (y2.1.2.1≤1000000))
 (aB (decide (1≤y2.1.2.2.1))
 (R (T.v (.bool (decide (y2.1.2.2.1≤2000)))))
 (R (T.v (.bool false))))
 (R (T.v (.bool false))))
 (R (T.v (.bool false))))
 (R (T.v (.bool false))))
 (aB (decide (a0.2.2.1=3))
 (aG [(true,aZ),(false,Sy.bool)]
 (b9
 [aC true aH a1,
 T.v (.string a0.2.2.2.2.2.2.2.1)])
 fun (y3:bQ×Bool) =>
 aB y3.2
 (aB (decide (1≤y3.1.2.1))
 (aB (decide (y3.1.2.1≤1000000))
 (aB (decide (1≤y3.1.2.2.1))
 (R (T.v (.bool (decide (y3.1.2.2.1≤2000)))))
 (R (T.v (.bool false))))
 (R (T.v (.bool false))))
 (R (T.v (.bool false))))
 (R (T.v (.bool false))))
 (aB (decide (a0.2.2.1=4))
 (aG [(true,aZ),(false,Sy.bool)]
 (b9
 [aC true aH a1,
 T.v (.string a0.2.2.2.2.2.2.2.1)])
 fun (y4:bQ×Bool) =>
 aB y4.2
 (aB (decide (1≤y4.1.2.1))
 (aB (decide (y4.1.2.1≤1000000))
 (aB (decide (1≤y4.1.2.2.1))
 (R (T.v (.bool (decide (y4.1.2.2.1≤2000)))))
 (R (T.v (.bool false))))
 (R (T.v (.bool false))))
 (R (T.v (.bool false))))
 (R (T.v (.bool false))))
 (aG [(true,aZ),(false,Sy.bool)]
 (b9
 [aC true aH a1,
 T.v (.string a0.2.2.2.2.2.2.2.1)])
 fun (y5:bQ×Bool) =>
 aB y5.2
 (aB (decide (1≤y5.1.2.1))
 (aB (decide (y5.1.2.1≤1000000))
 (aB (decide (1≤y5.1.2.2.1))
 (R (T.v (.bool (decide (y5.1.2.2.1≤2000)))))
 (R (T.v (.bool false))))
 (R (T.v (.bool false))))
 (R (T.v (.bool false))))
 (R (T.v (.bool false)))))))))
 (R (T.v (.bool false)))))
 (aB (decide (a0.2.2.1=2))
 (aG [(true,bD),(false,Sy.bool)]
 (dV [aC true aH a1,T.v (.string a0.2.2.2.2.1)])
 fun (y6:cR×Bool) =>
 aB (!y6.2) (R (T.v (.bool false)))
 (aB (decide (1000≤y6.1.2.1))
 (aB (!decide (y6.1.2.1≤20000)) (R (T.v (.bool false)))
 (aB (decide (a0.2.2.1=1))
 (aB (decide (1≤a0.2.2.2.2.2.1))
 (aB (decide (a0.2.2.2.2.2.1≤120))
 (aG [(false,Sy.bool)]
 (iH
 [aC true aH a1,T.v (.string a0.2.2.2.2.1),
 T.v (.int .i64 a0.2.2.2.2.2.1)])
 fun (y7:Bool)=>R (T.v (.bool y7)))
 (R (T.v (.bool false))))
 (R (T.v (.bool false))))
 (aB (decide (a0.2.2.1=2))
 (aG [(true,aZ),(false,Sy.bool)]
 (b9
 [aC true aH a1,
 T.v (.string a0.2.2.2.2.2.2.2.1)])
 fun (y8:bQ×Bool) =>
 aB y8.2
 (aB (decide (1≤y8.1.2.1))
 (aB (decide (y8.1.2.1≤1000000))
 (aB (decide (1≤y8.1.2.2.1))
 (R (T.v (.bool (decide (y8.1.2.2.1≤2000)))))
 (R (T.v (.bool false))))
 (R (T.v (.bool false))))
 (R (T.v (.bool false))))
 (R (T.v (.bool false))))
 (aB (decide (a0.2.2.1=3))
 (aG [(true,aZ),(false,Sy.bool)]
 (b9
 [aC true aH a1,
 T.v (.string a0.2.2.2.2.2.2.2.1)])
 fun (y9:bQ×Bool) =>
 aB y9.2
 (aB (decide (1≤y9.1.2.1))
 (aB (decide (y9.1.2.1≤1000000))
 (aB (decide (1≤y9.1.2.2.1))
 (R (T.v (.bool (decide (y9.1.2.2.1≤2000)))))
 (R (T.v (.bool false))))
 (R (T.v (.bool false))))
 (R (T.v (.bool false))))
 (R (T.v (.bool false))))
 (aB (decide (a0.2.2.1=4))
 (aG [(true,aZ),(false,Sy.bool)]
 (b9
 [aC true aH a1,
 T.v (.string a0.2.2.2.2.2.2.2.1)])
 fun (y10:bQ×Bool) =>
 aB y10.2
 (aB (decide (1≤y10.1.2.1))
 (aB (decide (y10.1.2.1≤1000000))
 (aB (decide (1≤y10.1.2.2.1))
 (R (T.v (.bool (decide (y10.1.2.2.1≤2000)))))
 (R (T.v (.bool false))))
 (R (T.v (.bool false))))
 (R (T.v (.bool false))))
 (R (T.v (.bool false))))
 (aG [(true,aZ),(false,Sy.bool)]
 (b9
 [aC true aH a1,
 T.v (.string a0.2.2.2.2.2.2.2.1)])
 fun (y11:bQ×Bool) =>
 aB y11.2
 (aB (decide (1≤y11.1.2.1))
 (aB (decide (y11.1.2.1≤1000000))
 (aB (decide (1≤y11.1.2.2.1))
 (R (T.v (.bool (decide (y11.1.2.2.1≤2000)))))
 (R (T.v (.bool false))))
 (R (T.v (.bool false))))
 (R (T.v (.bool false))))
 (R (T.v (.bool false)))))))))
 (R (T.v (.bool false)))))
 (aB (decide (a0.2.2.1=3))
 (aG [(true,bD),(false,Sy.bool)]
 (dV [aC true aH a1,T.v (.string a0.2.2.2.2.1)])
 fun (y12:cR×Bool) =>
 aB (!y12.2) (R (T.v (.bool false)))
 (aB (decide (1000≤y12.1.2.1))
 (aB (!decide (y12.1.2.1≤20000)) (R (T.v (.bool false)))
 (aB (decide (a0.2.2.1=1))
 (aB (decide (1≤a0.2.2.2.2.2.1))
 (aB (decide (a0.2.2.2.2.2.1≤120))
 (aG [(false,Sy.bool)]
 (iH
 [aC true aH a1,T.v (.string a0.2.2.2.2.1),
 T.v (.int .i64 a0.2.2.2.2.2.1)])
 fun (y13:Bool)=>R (T.v (.bool y13)))
 (R (T.v (.bool false))))
 (R (T.v (.bool false))))
 (aB (decide (a0.2.2.1=2))
 (aG [(true,aZ),(false,Sy.bool)]
 (b9
 [aC true aH a1,
 T.v (.string a0.2.2.2.2.2.2.2.1)])
 fun (y14:bQ×Bool) =>
 aB y14.2
 (aB (decide (1≤y14.1.2.1))
 (aB (decide (y14.1.2.1≤1000000))
 (aB (decide (1≤y14.1.2.2.1))
 (R (T.v (.bool (decide (y14.1.2.2.1≤2000)))))
 (R (T.v (.bool false))))
 (R (T.v (.bool false))))
 (R (T.v (.bool false))))
 (R (T.v (.bool false))))
 (aB (decide (a0.2.2.1=3))
 (aG [(true,aZ),(false,Sy.bool)]
 (b9
 [aC true aH a1,
 T.v (.string a0.2.2.2.2.2.2.2.1)])
 fun (y15:bQ×Bool) =>
 aB y15.2
 (aB (decide (1≤y15.1.2.1))
 (aB (decide (y15.1.2.1≤1000000))
 (aB (decide (1≤y15.1.2.2.1))
 (R (T.v (.bool (decide (y15.1.2.2.1≤2000)))))
 (R (T.v (.bool false))))
 (R (T.v (.bool false))))
 (R (T.v (.bool false))))
 (R (T.v (.bool false))))
 (aB (decide (a0.2.2.1=4))
 (aG [(true,aZ),(false,Sy.bool)]
 (b9
 [aC true aH a1,
 T.v (.string a0.2.2.2.2.2.2.2.1)])
 fun (y16:bQ×Bool) =>
 aB y16.2
 (aB (decide (1≤y16.1.2.1))
 (aB (decide (y16.1.2.1≤1000000))
 (aB (decide (1≤y16.1.2.2.1))
 (R (T.v (.bool (decide (y16.1.2.2.1≤2000)))))
 (R (T.v (.bool false))))
 (R (T.v (.bool false))))
 (R (T.v (.bool false))))
 (R (T.v (.bool false))))
 (aG [(true,aZ),(false,Sy.bool)]
 (b9
 [aC true aH a1,
 T.v (.string a0.2.2.2.2.2.2.2.1)])
 fun (y17:bQ×Bool) =>
 aB y17.2
 (aB (decide (1≤y17.1.2.1))
 (aB (decide (y17.1.2.1≤1000000))
 (aB (decide (1≤y17.1.2.2.1))
 (R (T.v (.bool (decide (y17.1.2.2.1≤2000)))))
 (R (T.v (.bool false))))
 (R (T.v (.bool false))))
 (R (T.v (.bool false))))
 (R (T.v (.bool false)))))))))
 (R (T.v (.bool false)))))
 (aB (decide (a0.2.2.1=4)) (R (T.v (.bool true)))
 (aG [(true,bD),(false,Sy.bool)]
 (dV [aC true aH a1,T.v (.string a0.2.2.2.2.1)])
 fun (y18:cR×Bool) =>
 aB (!y18.2) (R (T.v (.bool false)))
 (aB (decide (1000≤y18.1.2.1))
 (aB (!decide (y18.1.2.1≤20000)) (R (T.v (.bool false)))
 (aB (decide (a0.2.2.1=1))
 (aB (decide (1≤a0.2.2.2.2.2.1))
 (aB (decide (a0.2.2.2.2.2.1≤120))
 (aG [(false,Sy.bool)]
 (iH
 [aC true aH a1,T.v (.string a0.2.2.2.2.1),
 T.v (.int .i64 a0.2.2.2.2.2.1)])
 fun (y19:Bool)=>R (T.v (.bool y19)))
 (R (T.v (.bool false))))
 (R (T.v (.bool false))))
 (aB (decide (a0.2.2.1=2))
 (aG [(true,aZ),(false,Sy.bool)]
 (b9
 [aC true aH a1,
 T.v (.string a0.2.2.2.2.2.2.2.1)])
 fun (y20:bQ×Bool) =>
 aB y20.2
 (aB (decide (1≤y20.1.2.1))
 (aB (decide (y20.1.2.1≤1000000))
 (aB (decide (1≤y20.1.2.2.1))
 (R (T.v (.bool (decide (y20.1.2.2.1≤2000)))))
 (R (T.v (.bool false))))
 (R (T.v (.bool false))))
 (R (T.v (.bool false))))
 (R (T.v (.bool false))))
 (aB (decide (a0.2.2.1=3))
 (aG [(true,aZ),(false,Sy.bool)]
 (b9
 [aC true aH a1,
 T.v (.string a0.2.2.2.2.2.2.2.1)])
 fun (y21:bQ×Bool) =>
 aB y21.2
 (aB (decide (1≤y21.1.2.1))
 (aB (decide (y21.1.2.1≤1000000))
 (aB (decide (1≤y21.1.2.2.1))
 (R (T.v (.bool (decide (y21.1.2.2.1≤2000)))))
 (R (T.v (.bool false))))
 (R (T.v (.bool false))))
 (R (T.v (.bool false))))
 (R (T.v (.bool false))))
 (aB (decide (a0.2.2.1=4))
 (aG [(true,aZ),(false,Sy.bool)]
 (b9
 [aC true aH a1,
 T.v (.string a0.2.2.2.2.2.2.2.1)])
 fun (y22:bQ×Bool) =>
 aB y22.2
 (aB (decide (1≤y22.1.2.1))
 (aB (decide (y22.1.2.1≤1000000))
 (aB (decide (1≤y22.1.2.2.1))
 (R (T.v (.bool (decide (y22.1.2.2.1≤2000)))))
 (R (T.v (.bool false))))
 (R (T.v (.bool false))))
 (R (T.v (.bool false))))
 (R (T.v (.bool false))))
 (aG [(true,aZ),(false,Sy.bool)]
 (b9
 [aC true aH a1,
 T.v (.string a0.2.2.2.2.2.2.2.1)])
 fun (y23:bQ×Bool) =>
 aB y23.2
 (aB (decide (1≤y23.1.2.1))
 (aB (decide (y23.1.2.1≤1000000))
 (aB (decide (1≤y23.1.2.2.1))
 (R (T.v (.bool (decide (y23.1.2.2.1≤2000)))))
 (R (T.v (.bool false))))
 (R (T.v (.bool false))))
 (R (T.v (.bool false))))
 (R (T.v (.bool false)))))))))
 (R (T.v (.bool false))))))))
theorem AKY ( a0 a1 R):bA aW Tryz.prog WW AO2 8 103 [aC true aX a0,aC true aH a1] R=XY a0 a1 R:=by kernel_rfl
abbrev MA:Sh:=[(true,aX),(true,aH)]
def SE (x:bL×aN):Option T:=xS x.2 (T.v (.bool (c0 x.1 x.2)))
noncomputable def mP:List T→Option (T):=gS MA SE
theorem AMO {a0 a1}:mP [aC true aX a0,aC true aH a1]=SE (a0,a1):=a6 (s:=MA) rfl (a0,a1) rfl
theorem AZT (h:∀ a0 a1 r,SE (a0,a1)=some r→bY MA (a0,a1)→XY a0 a1 (fun y=>y=r)):aK Tryz.prog 103 mP :=
 aP (E:=WW) (Hs:=AO2) AQ6 aU aV (aL rfl) 8 ⟨_,_,Tryz.func103,rfl⟩ rfl fun x r h1 h2=>by
  obtain ⟨a0,a1⟩:=x
  rw[show Sh.bK MA (a0,a1)=[aC true aX a0,aC true aH a1] from rfl,AKY]
  exact h a0 a1 r h1 h2
theorem D6 (m:aN) (n:ByteArray):b9 [aC true aH m,T.v (.string n)]=some (Sh.enc [(true,aZ),(false,.bool)] (found nE (pY m n))):=Z1 ..
theorem AXX:aK Tryz.prog 103 mP:=AZT fun p m r h hb=>by
 obtain ⟨hok,rfl⟩:=pR h
 replace hok:A9 m=true:=hok
 clear h
 have is:∀ {n:Bool},c0 p m=n→T.v (.bool n)=T.v (.bool (c0 p m)):=fun h=>by rw[h]
 unfold XY
 have sec:∀ {g:cR},cH m (dL p)=some g→¬ bB p=4→¬ bB p=1→1000≤g.2.1→g.2.1≤20000 →
   aG [(true,aZ),(false,Sy.bool)] (b9 [aC true aH m,T.v (.string (B0 p))])
    fun (y2:bQ×Bool) =>
    aB y2.2
     (aB (decide (1≤y2.1.2.1))
      (aB (decide (y2.1.2.1≤1000000))
       (aB (decide (1≤y2.1.2.2.1))
        (T.v (.bool (decide (y2.1.2.2.1≤2000)))=T.v (.bool (c0 p m)))
        (T.v (.bool false)=T.v (.bool (c0 p m))))
       (T.v (.bool false)=T.v (.bool (c0 p m))))
      (T.v (.bool false)=T.v (.bool (c0 p m))))
     (T.v (.bool false)=T.v (.bool (c0 p m))):=by
  intro g hg k4 k1 d1 d2
  have w:c0 p m=K6 m (B0 p):=by
   unfold c0;rw[if_neg k4,hg];dsimp only;rw[decide_eq_true d1,decide_eq_true d2,if_neg k1];rfl
  refine aD (s:=[(true,aZ),(false,.bool)]) (D6 m _) ?_
  cases hs:pY m (B0 p) with
  | none =>
   show aB false _ _
   rw[fS];exact is (by rw[w];unfold K6;rw[hs])
  | some s =>
   show aB true _ _
   rw[eO]
   dsimp only[found]
   have w2:c0 p m=(decide (1≤s.2.1)&&decide (s.2.1≤1000000)&&(decide (1≤s.2.2.1)&&decide (s.2.2.1≤2000))):=by rw[w];unfold K6;rw[hs]
   refine bJ (fun h1=>bJ (fun h2=>bJ (fun h3=>is ?_) fun h3=>is ?_) fun h2=>is ?_) fun h1=>is ?_
   ·rw[w2,decide_eq_true h1,decide_eq_true h2,decide_eq_true h3];rfl
   ·rw[w2,decide_eq_true h1,decide_eq_true h2,decide_eq_false h3];rfl
   ·rw[w2,decide_eq_true h1,decide_eq_false h2];rfl
   ·rw[w2,decide_eq_false h1];rfl
 have plate:∀ {g:cR},cH m (dL p)=some g→bB p=1→1000≤g.2.1→g.2.1≤20000 →
   aB (decide (1≤fO p)) (aB (decide (fO p≤120)) (aG [(false,Sy.bool)] (iH [aC true aH m,T.v (.string (dL p)),T.v (.int .i64 (fO p))]) fun (y1:Bool)=>T.v (.bool y1)=T.v (.bool (c0 p m))) (T.v (.bool false)=T.v (.bool (c0 p m)))) (T.v (.bool false)=T.v (.bool (c0 p m))):=by
  intro g hg k1 d1 d2
  have w:c0 p m=(decide (1≤fO p)&&decide (fO p≤120)&&gX m (dL p) (fO p)):=by
   unfold c0;rw[if_neg (by omega),hg];dsimp only;rw[decide_eq_true d1,decide_eq_true d2,if_pos k1];rfl
  refine bJ (fun h1=>bJ (fun h2=>?_) fun h2=>is ?_) fun h1=>is ?_
  ·refine aD (s:=[(false,.bool)]) (y:=gX m (dL p) (fO p)) ((ZL ..).trans (pS _ hok)) (is ?_)
   rw[w,decide_eq_true h1,decide_eq_true h2];rfl
  ·rw[w,decide_eq_true h1,decide_eq_false h2];rfl
  ·rw[w,decide_eq_false h1];rfl
 by_cases k4:p.2.2.1=4
 ·have w:c0 p m=true:=by unfold c0;rw[if_pos k4]
  repeat' first
   | (exfalso;omega)
   | exact is w
   | refine bJ (fun h=>?_) (fun h=>?_)
 ·have hnone:cH m (dL p)=none→c0 p m=false:=fun h=>by unfold c0;rw[if_neg k4,h]
  have dens:∀ {g:cR},cH m (dL p)=some g→¬ (1000≤g.2.1∧g.2.1≤20000)→c0 p m=false:=fun {g} hg h=>by
   unfold c0;rw[if_neg k4,hg];dsimp only
   by_cases h1:1000≤g.2.1
   ·rw[decide_eq_false (show ¬ g.2.1≤20000 by omega),Bool.and_false,Bool.false_and]
   ·rw[decide_eq_false h1,Bool.false_and,Bool.false_and]
  have call:∀ {K:cR×Bool→Prop},(cH m (dL p)=none→K (dI,false))→(∀ g,cH m (dL p)=some g→K (g,true))→aG [(true,bD),(false,Sy.bool)] (dV [aC true aH m,T.v (.string p.2.2.2.2.1)]) K:=fun {K} h1 h2=>by
   refine aD (s:=[(true,bD),(false,.bool)]) (xB hok _) ?_
   cases hg:cH m (dL p) with
   | none=>exact h1 hg
   | some g=>exact h2 g hg
  have body:∀ {K:cR×Bool→Prop},(∀ g,cH m (dL p)=some g→1000≤g.2.1→g.2.1≤20000→K (g,true))→aG [(true,bD),(false,Sy.bool)] (dV [aC true aH m,T.v (.string p.2.2.2.2.1)]) fun (y0:cR×Bool)=>aB (!y0.2) (T.v (.bool false)=T.v (.bool (c0 p m))) (aB (decide (1000≤y0.1.2.1)) (aB (!decide (y0.1.2.1≤20000)) (T.v (.bool false)=T.v (.bool (c0 p m))) (K y0)) (T.v (.bool false)=T.v (.bool (c0 p m)))):=fun {K} hK=>by
   refine call (fun hn=>?_) fun g hg=>?_
   ·show aB true _ _
    rw[eO];exact is (hnone hn)
   ·show aB false _ _
    rw[fS]
    exact bJ (fun d1=>gT (fun d2=>is (dens hg (fun h=>d2 h.2))) fun d2=>hK g hg d1 d2) fun d1=>is (dens hg (fun h=>d1 h.1))
  refine bJ (fun h=>body fun g hg d1 d2=>?_) fun h1=>bJ (fun h=>body fun g hg d1 d2=>?_) fun h2=>bJ (fun h=>body fun g hg d1 d2=>?_) fun h3=>bJ (fun h=>absurd h k4) fun _=>body fun g hg d1 d2=>?_
  all_goals
   repeat' first
    | (exfalso;omega)
    | exact plate hg (by assumption) d1 d2
    | exact sec hg k4 (by assumption) d1 d2
    | exact sec hg k4 (by intro h';have h'':p.2.2.1=1:=h';omega) d1 d2
    | refine bJ (fun h=>?_) (fun h=>?_)
def dS (p:bL) (m:aN):Int:=if gP p.1=false∨gP (e9 p)=false then 6 else if ¬ (1≤p.2.1∧p.2.1≤1000) then 9 else if ¬ (bB p=1∨bB p=2∨bB p=3∨bB p=4) then 10 else if gZ p=true then 2 else if c0 p m=false then 23 else
 if bB p=1∧¬ gI (dC p)=0 then gI (dC p) else if (bB p=2∨bB p=3)∧¬ (1≤j8 p∧j8 p≤32768) then 9 else if bB p=4∧¬ (1≤hU p∧hU p≤1099511627776∧iF (o6 p)=true) then 9 else if iL (aAt p)=false then 9 else 0
noncomputable def GO:Env:=Env.of [(66,.pure dJ),(102,.pure jW),(103,.pure mP),(104,.pure fX),(106,.pure b8)]
def T8:FuncId→Hint:=fun _=>aT
theorem AB2:aE Tryz.prog GO:=aE.cons (x:=.pure dJ) LO (aE.cons (x:=.pure jW) ASR (aE.cons (x:=.pure mP) AXX (aE.cons (x:=.pure fX) U1 (aE.cons (x:=.pure b8) AS0 (aE.nil _)))))
def HH (a0:bL) (a1:aN) (R:T→Prop):Prop :=
 aG [(false,Sy.bool)] (dJ [T.v (.string a0.1)]) fun (y0:Bool) =>
 aB (!y0) (R (T.v (.int .i64 6)))
 (aG [(false,Sy.bool)] (dJ [T.v (.string a0.2.2.2.1)])
 fun (y1:Bool) =>
 aB (!y1) (R (T.v (.int .i64 6)))
 (aB (decide (1≤a0.2.1))
 (aB (!decide (a0.2.1≤1000)) (R (T.v (.int .i64 9)))
 (aB (decide (a0.2.2.1=1))
 (aG [(false,Sy.bool)] (jW [aC true aX a0]) fun (y2:Bool) =>
 aB y2 (R (T.v (.int .i64 2)))
 (aG [(false,Sy.bool)]
 (mP [aC true aX a0,aC true aH a1])
 fun (y3:Bool) =>
 aB (!y3) (R (T.v (.int .i64 23)))
 (aB (decide (a0.2.2.1=1))
 (aG [(false,Sy.int IntKind.i64)]
 (fX [aC true cD a0.2.2.2.2.2.2.1])
 fun (y4:Int) =>
 aB (!decide (y4=0)) (R (T.v (.int .i64 y4)))
 (aG [(false,Sy.bool)]
 (b8
 [aC true cV a0.2.2.2.2.2.2.2.2.2.2.2])
 fun (y5:Bool) =>
 aB (!y5) (R (T.v (.int .i64 9)))
 (R (T.v (.int .i64 0)))))
 (aB (decide (a0.2.2.1=2))
 (aB (decide (1≤a0.2.2.2.2.2.2.2.2.1))
 (aB (!decide (a0.2.2.2.2.2.2.2.2.1≤32768))
 (R (T.v (.int .i64 9)))
 (aG [(false,Sy.bool)]
 (b8
 [aC true cV a0.2.2.2.2.2.2.2.2.2.2.2])
 fun (y6:Bool) =>
 aB (!y6) (R (T.v (.int .i64 9)))
 (R (T.v (.int .i64 0)))))
 (R (T.v (.int .i64 9))))
 (aB (decide (a0.2.2.1=3))
 (aB (decide (1≤a0.2.2.2.2.2.2.2.2.1))
 (aB (!decide (a0.2.2.2.2.2.2.2.2.1≤32768))
 (R (T.v (.int .i64 9)))
 (aG [(false,Sy.bool)]
 (b8
 [aC true cV a0.2.2.2.2.2.2.2.2.2.2.2])
 fun (y7:Bool) =>
 aB (!y7) (R (T.v (.int .i64 9)))
 (R (T.v (.int .i64 0)))))
 (R (T.v (.int .i64 9))))
 (aB (decide (a0.2.2.1=4))
 (aB (decide (1≤a0.2.2.2.2.2.2.2.2.2.1))
 (aB (!decide (a0.2.2.2.2.2.2.2.2.2.1≤1099511627776))
 (R (T.v (.int .i64 9)))
 (aG [(false,Sy.bool)]
 (b8
 [T.agg
 [T.v
 (Value.int IntKind.i64
 a0.2.2.2.2.2.2.2.2.2.2.1.1),
 T.v
 (Value.int IntKind.i64
 a0.2.2.2.2.2.2.2.2.2.2.1.2.1),
 T.v
 (Value.int IntKind.i64
 a0.2.2.2.2.2.2.2.2.2.2.1.2.2),
 T.v (.int .i64 0)]])
 fun (y8:Bool) =>
 aB (!y8) (R (T.v (.int .i64 9)))
 (aG [(false,Sy.bool)]
 (b8
 [aC true cV a0.2.2.2.2.2.2.2.2.2.2.2])
 fun (y9:Bool) =>
 aB (!y9) (R (T.v (.int .i64 9)))
 (R (T.v (.int .i64 0))))))
 (R (T.v (.int .i64 9))))
 (aG [(false,Sy.bool)]
 (b8
 [aC true cV a0.2.2.2.2.2.2.2.2.2.2.2])
 fun (y10:Bool) =>
 aB (!y10) (R (T.v (.int .i64 9)))
 (R (T.v (.int .i64 0))))))))))
 (aB (decide (a0.2.2.1=2))
 (aG [(false,Sy.bool)] (jW [aC true aX a0])
 fun (y11:Bool) =>
 aB y11 (R (T.v (.int .i64 2)))
 (aG [(false,Sy.bool)]
 (mP [aC true aX a0,aC true aH a1])
 fun (y12:Bool) =>
 aB (!y12) (R (T.v (.int .i64 23)))
 (aB (decide (a0.2.2.1=1))
 (aG [(false,Sy.int IntKind.i64)]
 (fX [aC true cD a0.2.2.2.2.2.2.1])
 fun (y13:Int) =>
 aB (!decide (y13=0)) (R (T.v (.int .i64 y13)))
 (aG [(false,Sy.bool)]
 (b8
 [aC true cV a0.2.2.2.2.2.2.2.2.2.2.2])
 fun (y14:Bool) =>
 aB (!y14) (R (T.v (.int .i64 9)))
 (R (T.v (.int .i64 0)))))
 (aB (decide (a0.2.2.1=2))
 (aB (decide (1≤a0.2.2.2.2.2.2.2.2.1))
 (aB (!decide (a0.2.2.2.2.2.2.2.2.1≤32768))
 (R (T.v (.int .i64 9)))
 (aG [(false,Sy.bool)]
 (b8
 [aC true cV a0.2.2.2.2.2.2.2.2.2.2.2])
 fun (y15:Bool) =>
 aB (!y15) (R (T.v (.int .i64 9)))
 (R (T.v (.int .i64 0)))))
 (R (T.v (.int .i64 9))))
 (aB (decide (a0.2.2.1=3))
 (aB (decide (1≤a0.2.2.2.2.2.2.2.2.1))
 (aB (!decide (a0.2.2.2.2.2.2.2.2.1≤32768))
 (R (T.v (.int .i64 9)))
 (aG [(false,Sy.bool)]
 (b8
 [aC true cV a0.2.2.2.2.2.2.2.2.2.2.2])
 fun (y16:Bool) =>
 aB (!y16) (R (T.v (.int .i64 9)))
 (R (T.v (.int .i64 0)))))
 (R (T.v (.int .i64 9))))
 (aB (decide (a0.2.2.1=4))
 (aB (decide (1≤a0.2.2.2.2.2.2.2.2.2.1))
 (aB (!decide (a0.2.2.2.2.2.2.2.2.2.1≤1099511627776))
 (R (T.v (.int .i64 9)))
 (aG [(false,Sy.bool)]
 (b8
 [T.agg
 [T.v
 (Value.int IntKind.i64
 a0.2.2.2.2.2.2.2.2.2.2.1.1),
 T.v
 (Value.int IntKind.i64
 a0.2.2.2.2.2.2.2.2.2.2.1.2.1),
 T.v
 (Value.int IntKind.i64
 a0.2.2.2.2.2.2.2.2.2.2.1.2.2),
 T.v (.int .i64 0)]])
 fun (y17:Bool) =>
 aB (!y17) (R (T.v (.int .i64 9)))
 (aG [(false,Sy.bool)]
 (b8
 [aC true cV
 a0.2.2.2.2.2.2.2.2.2.2.2])
 fun (y18:Bool) =>
 aB (!y18) (R (T.v (.int .i64 9)))
 (R (T.v (.int .i64 0))))))
 (R (T.v (.int .i64 9))))
 (aG [(false,Sy.bool)]
 (b8
 [aC true cV a0.2.2.2.2.2.2.2.2.2.2.2])
 fun (y19:Bool) =>
 aB (!y19) (R (T.v (.int .i64 9)))
 (R (T.v (.int .i64 0))))))))))
 (aB (decide (a0.2.2.1=3))
 (aG [(false,Sy.bool)] (jW [aC true aX a0])
 fun (y20:Bool) =>
 aB y20 (R (T.v (.int .i64 2)))
 (aG [(false,Sy.bool)]
 (mP [aC true aX a0,aC true aH a1])
 fun (y21:Bool) =>
 aB (!y21) (R (T.v (.int .i64 23)))
 (aB (decide (a0.2.2.1=1))
 (aG [(false,Sy.int IntKind.i64)]
 (fX [aC true cD a0.2.2.2.2.2.2.1])
 fun (y22:Int) =>
 aB (!decide (y22=0)) (R (T.v (.int .i64 y22)))
 (aG [(false,Sy.bool)]
 (b8
 [aC true cV a0.2.2.2.2.2.2.2.2.2.2.2])
 fun (y23:Bool) =>
 aB (!y23) (R (T.v (.int .i64 9)))
 (R (T.v (.int .i64 0)))))
 (aB (decide (a0.2.2.1=2))
 (aB (decide (1≤a0.2.2.2.2.2.2.2.2.1))
 (aB (!decide (a0.2.2.2.2.2.2.2.2.1≤32768))
 (R (T.v (.int .i64 9)))
 (aG [(false,Sy.bool)]
 (b8
 [aC true cV a0.2.2.2.2.2.2.2.2.2.2.2])
 fun (y24:Bool) =>
 aB (!y24) (R (T.v (.int .i64 9)))
 (R (T.v (.int .i64 0)))))
 (R (T.v (.int .i64 9))))
 (aB (decide (a0.2.2.1=3))
 (aB (decide (1≤a0.2.2.2.2.2.2.2.2.1))
 (aB (!decide (a0.2.2.2.2.2.2.2.2.1≤32768))
 (R (T.v (.int .i64 9)))
 (aG [(false,Sy.bool)]
 (b8
 [aC true cV a0.2.2.2.2.2.2.2.2.2.2.2])
 fun (y25:Bool) =>
 aB (!y25) (R (T.v (.int .i64 9)))
 (R (T.v (.int .i64 0)))))
 (R (T.v (.int .i64 9))))
 (aB (decide (a0.2.2.1=4))
 (aB (decide (1≤a0.2.2.2.2.2.2.2.2.2.1))
 (aB (!decide (a0.2.2.2.2.2.2.2.2.2.1≤1099511627776))
 (R (T.v (.int .i64 9)))
 (aG [(false,Sy.bool)]
 (b8
 [T.agg
 [T.v
 (Value.int IntKind.i64
 a0.2.2.2.2.2.2.2.2.2.2.1.1),
 T.v
 (Value.int IntKind.i64
 a0.2.2.2.2.2.2.2.2.2.2.1.2.1),
 T.v
 (Value.int IntKind.i64
 a0.2.2.2.2.2.2.2.2.2.2.1.2.2),
 T.v (.int .i64 0)]])
 fun (y26:Bool) =>
 aB (!y26) (R (T.v (.int .i64 9)))
 (aG [(false,Sy.bool)]
 (b8
 [aC true cV
 a0.2.2.2.2.2.2.2.2.2.2.2])
 fun (y27:Bool) =>
 aB (!y27) (R (T.v (.int .i64 9)))
 (R (T.v (.int .i64 0))))))
 (R (T.v (.int .i64 9))))
 (aG [(false,Sy.bool)]
 (b8
 [aC true cV a0.2.2.2.2.2.2.2.2.2.2.2])
 fun (y28:Bool) =>
 aB (!y28) (R (T.v (.int .i64 9)))
 (R (T.v (.int .i64 0))))))))))
 (aB (decide (a0.2.2.1=4))
 (aG [(false,Sy.bool)] (jW [aC true aX a0])
 fun (y29:Bool) =>
 aB y29 (R (T.v (.int .i64 2)))
 (aG [(false,Sy.bool)]
 (mP [aC true aX a0,aC true aH a1])
 fun (y30:Bool) =>
 aB (!y30) (R (T.v (.int .i64 23)))
 (aB (decide (a0.2.2.1=1))
 (aG [(false,Sy.int IntKind.i64)]
 (fX [aC true cD a0.2.2.2.2.2.2.1])
 fun (y31:Int) =>
 aB (!decide (y31=0)) (R (T.v (.int .i64 y31)))
 (aG [(false,Sy.bool)]
 (b8
 [aC true cV a0.2.2.2.2.2.2.2.2.2.2.2])
 fun (y32:Bool) =>
 aB (!y32) (R (T.v (.int .i64 9)))
 (R (T.v (.int .i64 0)))))
 (aB (decide (a0.2.2.1=2))
 (aB (decide (1≤a0.2.2.2.2.2.2.2.2.1))
 (aB (!decide (a0.2.2.2.2.2.2.2.2.1≤32768))
 (R (T.v (.int .i64 9)))
 (aG [(false,Sy.bool)]
 (b8
 [aC true cV a0.2.2.2.2.2.2.2.2.2.2.2])
 fun (y33:Bool) =>
 aB (!y33) (R (T.v (.int .i64 9)))
 (R (T.v (.int .i64 0)))))
 (R (T.v (.int .i64 9))))
 (aB (decide (a0.2.2.1=3))
 (aB (decide (1≤a0.2.2.2.2.2.2.2.2.1))
 (aB (!decide (a0.2.2.2.2.2.2.2.2.1≤32768))
 (R (T.v (.int .i64 9)))
 (aG [(false,Sy.bool)]
 (b8
 [aC true cV a0.2.2.2.2.2.2.2.2.2.2.2])
 fun (y34:Bool) =>
 aB (!y34) (R (T.v (.int .i64 9)))
 (R (T.v (.int .i64 0)))))
 (R (T.v (.int .i64 9))))
 (aB (decide (a0.2.2.1=4))
 (aB (decide (1≤a0.2.2.2.2.2.2.2.2.2.1))
 (aB (!decide (a0.2.2.2.2.2.2.2.2.2.1≤1099511627776))
 (R (T.v (.int .i64 9)))
 (aG [(false,Sy.bool)]
 (b8
 [T.agg
 [T.v
 (Value.int IntKind.i64
 a0.2.2.2.2.2.2.2.2.2.2.1.1),
 T.v
 (Value.int IntKind.i64
 a0.2.2.2.2.2.2.2.2.2.2.1.2.1),
 T.v
 (Value.int IntKind.i64
 a0.2.2.2.2.2.2.2.2.2.2.1.2.2),
 T.v (.int .i64 0)]])
 fun (y35:Bool) =>
 aB (!y35) (R (T.v (.int .i64 9)))
 (aG [(false,Sy.bool)]
 (b8
 [aC true cV
 a0.2.2.2.2.2.2.2.2.2.2.2])
 fun (y36:Bool) =>
 aB (!y36) (R (T.v (.int .i64 9)))
 (R (T.v (.int .i64 0))))))
 (R (T.v (.int .i64 9))))
 (aG [(false,Sy.bool)]
 (b8
 [aC true cV a0.2.2.2.2.2.2.2.2.2.2.2])
 fun (y37:Bool) =>
 aB (!y37) (R (T.v (.int .i64 9)))
 (R (T.v (.int .i64 0))))))))))
 (R (T.v (.int .i64 10))))))))
 (R (T.v (.int .i64 9)))))
theorem YC ( a0 a1 R):bA aW Tryz.prog GO T8 8 68 [aC true aX a0,aC true aH a1] R=HH a0 a1 R:=by kernel_rfl
abbrev zY:Sh:=[(true,aX),(true,aH)]
def C2 (x:bL×aN):Option T:=xS x.2 (T.v (Value.int .i64 (dS x.1 x.2)))
noncomputable def iI:List T→Option (T):=gS zY C2
theorem ZV {a0 a1}:iI [aC true aX a0,aC true aH a1]=C2 (a0,a1):=a6 (s:=zY) rfl (a0,a1) rfl
theorem ANQ (h:∀ a0 a1 r,C2 (a0,a1)=some r→bY zY (a0,a1)→HH a0 a1 (fun y=>y=r)):aK Tryz.prog 68 iI :=
 aP (E:=GO) (Hs:=T8) AB2 aU aV (aL rfl) 8 ⟨_,_,Tryz.func68,rfl⟩ rfl fun x r h1 h2=>by
  obtain ⟨a0,a1⟩:=x
  rw[show Sh.bK zY (a0,a1)=[aC true aX a0,aC true aH a1] from rfl,YC]
  exact h a0 a1 r h1 h2
theorem QH:aK Tryz.prog 68 iI:=ANQ fun p m r h hb=>by
 obtain ⟨hok,rfl⟩:=pR h
 replace hok:A9 m=true:=hok
 clear h hb
 have is:∀ {n:Int},dS p m=n→T.v (.int .i64 n)=T.v (.int .i64 (dS p m)):=fun h=>by rw[h]
 unfold HH
 rw[mD]
 refine dK (fun h=>is (by unfold dS;rw[if_pos (.inl h)])) fun i1=>?_
 rw[mD]
 refine dK (fun h=>is (by unfold dS;rw[if_pos (.inr h)])) fun i2=>?_
 have n1:¬ (gP p.1=false∨gP (e9 p)=false):=by
  rintro (h|h)
  ·rw[i1] at h;cases h
  ·rw[show gP (e9 p)=true from i2] at h;cases h
 have r9:¬ (1≤p.2.1∧p.2.1≤1000)→T.v (.int .i64 9)=T.v (.int .i64 (dS p m)):=fun h=>is (by unfold dS;rw[if_neg n1,if_pos h])
 refine bJ (fun v1=>gT (fun h=>r9 (fun h2=>h h2.2)) fun v2=>?_) fun h=>r9 (fun h2=>h h2.1)
 have n2:¬ ¬ (1≤p.2.1∧p.2.1≤1000):=fun h=>h ⟨v1,v2⟩
 have w1:dS p m=if ¬ (bB p=1∨bB p=2∨bB p=3∨bB p=4) then 10 else if gZ p=true then 2 else if c0 p m=false then 23 else if bB p=1∧¬ gI (dC p)=0 then gI (dC p) else if (bB p=2∨bB p=3)∧¬ (1≤j8 p∧j8 p≤32768) then 9 else if bB p=4∧¬ (1≤hU p∧hU p≤1099511627776∧iF (o6 p)=true) then 9 else if iL (aAt p)=false then 9 else 0:=by
  unfold dS;rw[if_neg n1,if_neg n2]
 have spare:∀ {K:Bool→Prop},K (gZ p)→aG [(false,Sy.bool)] (jW [aC true aX p]) K:=fun h=>aD (s:=[(false,.bool)]) (y:=gZ p) (AGU ..) h
 have made:∀ {K:Bool→Prop},K (c0 p m)→aG [(false,Sy.bool)] (mP [aC true aX p,aC true aH m]) K:=fun h=>aD (s:=[(false,.bool)]) (y:=c0 p m) ((AMO ..).trans (pS _ hok)) h
 have place:∀ {K:Bool→Prop},K (iL (aAt p))→aG [(false,Sy.bool)] (b8 [aC true cV (aAt p)]) K:=fun h=>aD (s:=[(false,.bool)]) (y:=iL (aAt p)) (KU ..) h
 have near:∀ {K:Bool→Prop},K (iF (o6 p))→aG [(false,Sy.bool)] (b8 [aC true cV (o6 p,0)]) K:=fun {K} h=>aD (s:=[(false,.bool)]) (y:=iL (o6 p,0)) (KU ..) (by
  rw[show iL (o6 p,0)=iF (o6 p) by unfold iL;rw[show decide (((o6 p,(0:Int)):uP).2=AHY ((o6 p,(0:Int)):uP).2)=true from rfl,Bool.and_true]];exact h)
 have reg:∀ {K:Int→Prop},K (gI (dC p))→aG [(false,Sy.int IntKind.i64)] (fX [aC true cD (dC p)]) K:=fun h=>aD (s:=[(false,.int .i64)]) (KQ _) h
 repeat' first
  | (exfalso;omega)
  | refine spare ?_
  | refine made ?_
  | refine reg ?_
  | refine place ?_
  | refine near ?_
  | refine gT (fun h=>?_) (fun h=>?_)
  | refine bJ (fun h=>?_) (fun h=>?_)
  | refine dK (fun h=>?_) (fun h=>?_)
  | refine tA (fun h=>?_) (fun h=>?_)
 all_goals (refine is ?_;clear spare made place near reg is r9;rw[w1];clear w1 n1 n2 i1 i2;simp_all;try (intros;exfalso;simp only[j8,hU] at *;omega))
theorem D5 {m:aN} (h:A9 m=true) (p:bL):iI [aC true aX p,aC true aH m]=some (Sh.enc [(false,.int .i64)] (dS p m)):=(ZV ..).trans (pS _ h)
def IJ (m:aN) (n:ByteArray):cR:=(cH m n).getD dI
def A0F (m:aN) (n:ByteArray):bQ:=(pY m n).getD nE
theorem LP {α:Type} {no:α} {o:Option α}:(found no o).1=o.getD no:=by cases o<;>rfl
def lQ (p:bL) (m:aN):Int:=if bB p=1 then IntKind.i64.wrap ((IntKind.i64.wrap (IntKind.i64.wrap (pW (dC p)*fO p)*(IJ m (dL p)).2.1)).tdiv 2000000) else if bB p=2∨bB p=3 then IntKind.i64.wrap ((IntKind.i64.wrap (IntKind.i64.wrap ((A0F m (B0 p)).2.1*j8 p)*(IJ m (dL p)).2.1)).tdiv 1000000) else hU p
def iC (p:bL) (m:aN):Int×Int:=if dS p m=0 then (lQ p m,0) else (0,dS p m)
noncomputable def NF:Env:=Env.of [(68,.pure iI),(107,.pure dV),(108,.pure b9),(109,.pure pN)]
def AEE:FuncId→Hint:=fun _=>aT
theorem AJ2:aE Tryz.prog NF:=aE.cons (x:=.pure iI) QH (aE.cons (x:=.pure dV) IA (aE.cons (x:=.pure b9) QI (aE.cons (x:=.pure pN) ASU (aE.nil _))))
def OO (a0:bL) (a1:aN) (R:T→Prop):Prop :=
 aG [(false,Sy.int IntKind.i64)]
 (iI [aC true aX a0,aC true aH a1]) fun (y0:Int) =>
 aB (!decide (y0=0))
 (R (T.cQ [T.v (.int .i64 0),T.v (.int .i64 y0)]))
 (aG [(true,bD),(false,Sy.bool)]
 (dV [aC true aH a1,T.v (.string a0.2.2.2.2.1)])
 fun (y1:cR×Bool) =>
 aG [(true,aZ),(false,Sy.bool)]
 (b9
 [aC true aH a1,T.v (.string a0.2.2.2.2.2.2.2.1)])
 fun (y2:bQ×Bool) =>
 aB (decide (a0.2.2.1=1))
 (aG [(false,Sy.int IntKind.i64)]
 (pN [aC true cD a0.2.2.2.2.2.2.1]) fun (y3:Int) =>
 bV true
 (R
 (T.cQ
 [T.v
 (Value.int IntKind.i64
 (IntKind.i64.wrap
 ((IntKind.i64.wrap
 (IntKind.i64.wrap (y3*a0.2.2.2.2.2.1)*y1.1.2.1)).tdiv
 2000000))),
 T.v (.int .i64 0)])))
 (aB (decide (a0.2.2.1=2))
 (bV true
 (R
 (T.cQ
 [T.v
 (Value.int IntKind.i64
 (IntKind.i64.wrap
 ((IntKind.i64.wrap
 (IntKind.i64.wrap (y2.1.2.1*a0.2.2.2.2.2.2.2.2.1) *
 y1.1.2.1)).tdiv
 1000000))),
 T.v (.int .i64 0)])))
 (aB (decide (a0.2.2.1=3))
 (bV true
 (R
 (T.cQ
 [T.v
 (Value.int IntKind.i64
 (IntKind.i64.wrap
 ((IntKind.i64.wrap
 (IntKind.i64.wrap (y2.1.2.1*a0.2.2.2.2.2.2.2.2.1) *
 y1.1.2.1)).tdiv
 1000000))),
 T.v (.int .i64 0)])))
 (aB (decide (a0.2.2.1=4))
 (R
 (T.cQ
 [T.v (.int .i64 a0.2.2.2.2.2.2.2.2.2.1),
 T.v (.int .i64 0)]))
 (R
 (T.cQ
 [T.v (.int .i64 a0.2.2.2.2.2.2.2.2.2.1),
 T.v (.int .i64 0)]))))))
theorem AC6 ( a0 a1 R):bA aW Tryz.prog NF AEE 8 69 [aC true aX a0,aC true aH a1] R=OO a0 a1 R:=by kernel_rfl
abbrev FO:Sh:=[(true,aX),(true,aH)]
abbrev AIE:Sh:=[(false,Sy.int IntKind.i64),(false,Sy.int IntKind.i64)]
def JR (x:bL×aN):Option T:=xS x.2 (Sh.enc AIE (iC x.1 x.2))
noncomputable def pL:List T→Option (T):=gS FO JR
theorem AGV {a0 a1}:pL [aC true aX a0,aC true aH a1]=JR (a0,a1):=a6 (s:=FO) rfl (a0,a1) rfl
theorem AUD (h:∀ a0 a1 r,JR (a0,a1)=some r→bY FO (a0,a1)→OO a0 a1 (fun y=>y=r)):aK Tryz.prog 69 pL :=
 aP (E:=NF) (Hs:=AEE) AJ2 aU aV (aL rfl) 8 ⟨_,_,Tryz.func69,rfl⟩ rfl fun x r h1 h2=>by
  obtain ⟨a0,a1⟩:=x
  rw[show Sh.bK FO (a0,a1)=[aC true aX a0,aC true aH a1] from rfl,AC6]
  exact h a0 a1 r h1 h2
theorem ASS:aK Tryz.prog 69 pL:=AUD fun p m r h hb=>by
 obtain ⟨hok,rfl⟩:=pR h
 replace hok:A9 m=true:=hok
 clear h hb
 have is:∀ {a b:Int},iC p m=(a,b)→T.cQ [T.v (.int .i64 a),T.v (.int .i64 b)]=Sh.enc AIE (iC p m):=fun h=>by rw[h];rfl
 unfold OO
 refine aD (s:=[(false,.int .i64)]) (D5 hok p) ?_
 refine gT (fun h=>is (by unfold iC;rw[if_neg h])) fun h=>?_
 refine aD (s:=[(true,bD),(false,.bool)]) (xB hok _) ?_
 refine aD (s:=[(true,aZ),(false,.bool)]) (D6 m _) ?_
 have w:iC p m=(lQ p m,0):=by unfold iC;rw[if_pos h]
 have eg:(found dI (cH m (dL p))).1=IJ m (dL p):=LP
 have es:(found nE (pY m (B0 p))).1=A0F m (B0 p):=LP
 refine bJ (fun k1=>?_) fun k1=>?_
 ·refine aD (s:=[(false,.int .i64)]) (AG1 _) ?_
  refine ⟨rfl,is ?_⟩
  rw[w];unfold lQ;rw[if_pos k1,←eg]
 refine bJ (fun k2=>⟨rfl,is ?_⟩) fun k2=>?_
 ·rw[w];unfold lQ;rw[if_neg k1,if_pos (.inl k2),←eg,←es]
 refine bJ (fun k3=>⟨rfl,is ?_⟩) fun k3=>?_
 ·rw[w];unfold lQ;rw[if_neg k1,if_pos (.inr k3),←eg,←es]
 have fin:iC p m=(hU p,0):=by
  rw[w];unfold lQ;rw[if_neg k1,if_neg];rintro (h|h)
  ·exact k2 h
  ·exact k3 h
 exact bJ (fun _=>is fin) fun _=>is fin
theorem AGW {m:aN} (h:A9 m=true) (p:bL):pL [aC true aX p,aC true aH m]=some (Sh.enc [(false,.int .i64),(false,.int .i64)] (iC p m)):=(AGV ..).trans (pS _ h)
end Go.Pv
namespace Go.Pv.Geo
def MJ (a b c d:Pt):Prop:=∃ s t s' t':Int,0≤s∧0≤t∧0≤s'∧0≤t'∧s+t=s'+t'∧0<s+t∧s*a.1+t*b.1=s'*c.1+t'*d.1∧s*a.2+t*b.2=s'*c.2+t'*d.2
theorem MJ.symm {a b c d:Pt} (h:MJ a b c d):MJ c d a b:=by
 obtain ⟨s,t,s',t',h1,h2,h3,h4,h5,h6,h7,h8⟩:=h
 exact ⟨s',t',s,t,h3,h4,h1,h2,h5.symm,by omega,h7.symm,h8.symm⟩
theorem MJ.swap {a b c d:Pt} (h:MJ a b c d):MJ b a c d:=by
 obtain ⟨s,t,s',t',h1,h2,h3,h4,h5,h6,h7,h8⟩:=h
 exact ⟨t,s,s',t',h2,h1,h3,h4,by omega,by omega,by omega,by omega⟩
theorem MJ.A4K {a b c d:Pt} (h:MJ a b c d):MJ a b d c:=h.symm.swap.symm
theorem r4 {a b:Int} (h:0<a*b) (ha:0<a):0<b:=by
 rcases Int.lt_trichotomy b 0 with hb|hb|hb
 ·have:=Int.mul_neg_of_pos_of_neg ha hb;omega
 ·subst hb;simp at h
 ·exact hb
theorem A0N (x:Int):0≤x*x:=by
 rcases Int.le_total 0 x with h|h
 ·exact Int.mul_nonneg h h
 ·have:=Int.mul_nonneg (show 0≤-x by omega) (show 0≤-x by omega);rwa[Int.neg_mul_neg] at this
theorem cW {s x y:Int} (hs:0≤s) (h:x≤y):s*x≤s*y:=Int.mul_le_mul_of_nonneg_left h hs
def wW (a b u:Pt):Prop:=∃ s t:Int,0≤s∧0≤t∧0<s+t∧(s+t)*u.1=s*a.1+t*b.1∧(s+t)*u.2=s*a.2+t*b.2
theorem wW.left (a b:Pt):wW a b a:=⟨1,0,by omega,by omega,by omega,by omega,by omega⟩
theorem wW.right (a b:Pt):wW a b b:=⟨0,1,by omega,by omega,by omega,by omega,by omega⟩
theorem wW.swap {a b u:Pt} (h:wW a b u):wW b a u:=by
 obtain ⟨s,t,h1,h2,h3,h4,h5⟩:=h
 exact ⟨t,s,h2,h1,by omega,by rw[Int.add_comm t s];omega,by rw[Int.add_comm t s];omega⟩
theorem mH {s x y:Int} (hs:0<s) (h:s*x≤s*y):x≤y:=Int.le_of_mul_le_mul_left h hs
theorem wW.A41 {a b u:Pt} (h:wW a b u):min a.1 b.1≤u.1∧u.1≤max a.1 b.1:=by
 obtain ⟨s,t,h1,h2,h3,h4,_⟩:=h
 constructor
 ·refine mH h3 ?_
  have e1:=cW h1 (Int.min_le_left a.1 b.1)
  have e2:=cW h2 (Int.min_le_right a.1 b.1)
  rw[h4,Int.add_mul];omega
 ·refine mH h3 ?_
  have e1:=cW h1 (Int.le_max_left a.1 b.1)
  have e2:=cW h2 (Int.le_max_right a.1 b.1)
  rw[h4,Int.add_mul];omega
theorem wW.A7T {a b u:Pt} (h:wW a b u):min a.2 b.2≤u.2∧u.2≤max a.2 b.2:=by
 obtain ⟨s,t,h1,h2,h3,h4,h5⟩:=h
 exact wW.A41 (a:=(a.2,a.1)) (b:=(b.2,b.1)) (u:=(u.2,u.1)) ⟨s,t,h1,h2,h3,h5,h4⟩
theorem wW.A38 {a b u:Pt} (h:wW a b u):aI a b u=0:=by
 obtain ⟨s,t,h1,h2,h3,h4,h5⟩:=h
 have e:(s+t)*aI a b u=0:=by
  simp only[aI]
  grind
 rcases Int.mul_eq_zero.1 e with h|h
 ·omega
 ·exact h
theorem wW.on {a b u:Pt} (h:wW a b u):iP a b u=true:=by
 unfold iP LM
 rw[decide_eq_true h.A38,decide_eq_true h.A41.1,decide_eq_true h.A41.2,decide_eq_true h.A7T.1,decide_eq_true h.A7T.2];rfl
theorem A3B {a b u:Pt} (h:iP a b u=true):aI a b u=0∧(min a.1 b.1≤u.1∧u.1≤max a.1 b.1)∧min a.2 b.2≤u.2∧u.2≤max a.2 b.2:=by
 unfold iP LM at h
 simp only[Bool.and_eq_true,decide_eq_true_eq] at h
 exact ⟨h.1,h.2.1,h.2.2⟩
theorem AJ {a b u:Pt} (h:iP a b u=true):wW a b u:=by
 obtain ⟨h0,h1,h2⟩:=A3B h
 simp only[aI] at h0
 rcases Int.lt_trichotomy a.1 b.1 with hx|hx|hx
 ·exact ⟨b.1-u.1,u.1-a.1,by omega,by omega,by omega,by grind,by grind⟩
 ·rcases Int.lt_trichotomy a.2 b.2 with hy|hy|hy
  ·exact ⟨b.2-u.2,u.2-a.2,by omega,by omega,by omega,by grind,by grind⟩
  ·exact ⟨1,0,by omega,by omega,by omega,by omega,by omega⟩
  ·exact ⟨u.2-b.2,a.2-u.2,by omega,by omega,by omega,by grind,by grind⟩
 ·exact ⟨u.1-b.1,a.1-u.1,by omega,by omega,by omega,by grind,by grind⟩
theorem uU {a b c d:Pt} (h:wW a b c):MJ a b c d:=by
 obtain ⟨s,t,h1,h2,h3,h4,h5⟩:=h
 exact ⟨s,t,s+t,0,h1,h2,by omega,by omega,by omega,h3,by omega,by omega⟩
theorem K7 {m n:Int} (h:sW m*sW n<0):(m<0∧0<n)∨(0<m∧n<0):=by
 unfold sW at h
 split at h<;>split at h<;>(try split at h)<;>omega
theorem KB {a b c d:Pt} (h:bO a b c d=true):MJ a b c d:=by
 simp only[bO,Bool.or_eq_true,Bool.and_eq_true,decide_eq_true_eq] at h
 rcases h with (((h|h)|h)|h)|⟨h1,h2⟩
 ·exact uU (AJ h)
 ·exact (uU (AJ h):MJ a b d c).A4K
 ·exact (uU (AJ h):MJ c d a b).symm
 ·exact (uU (AJ h):MJ c d b a).A4K.symm
 ·have e:=AAA a b c d
  have h1:=K7 h1
  have h2:=K7 h2
  have k1:aI c d b*a.1-aI c d a*b.1=aI a b c*d.1-aI a b d*c.1:=by simp only[aI];grind
  have k2:aI c d b*a.2-aI c d a*b.2=aI a b c*d.2-aI a b d*c.2:=by simp only[aI];grind
  rcases h2 with ⟨h3,h4⟩|⟨h3,h4⟩
  ·have h5:0<aI a b c∧aI a b d<0:=by rcases h1 with h|h<;>omega
   refine ⟨aI c d b,-aI c d a,-aI a b d,aI a b c,by omega,by omega,by omega,by omega,by omega,by omega,?_,?_⟩
   ·rw[Int.neg_mul,Int.neg_mul];omega
   ·rw[Int.neg_mul,Int.neg_mul];omega
  ·have h5:aI a b c<0∧0<aI a b d:=by rcases h1 with h|h<;>omega
   refine ⟨-aI c d b,aI c d a,aI a b d,-aI a b c,by omega,by omega,by omega,by omega,by omega,by omega,?_,?_⟩
   ·rw[Int.neg_mul,Int.neg_mul];omega
   ·rw[Int.neg_mul,Int.neg_mul];omega
theorem dT {s x:Int} (hs:s≠0) (h:s*x=0):x=0:=by
 rcases Int.mul_eq_zero.1 h with h|h
 ·exact absurd h hs
 ·exact h
theorem A4E {a b u:Pt} (h0:aI a b u=0) (h:(a.2≠b.2∧min a.2 b.2≤u.2∧u.2≤max a.2 b.2)∨(a.2=b.2∧a.1≠b.1∧min a.1 b.1≤u.1∧u.1≤max a.1 b.1)):iP a b u=true:=by
 rcases h with ⟨h1,h2,h3⟩|⟨h1,h2,h3,h4⟩
 ·rcases Int.lt_or_lt_of_ne h1 with h|h
  ·exact lH h0 h (by omega) (by omega)
  ·rw[←LW]
   exact lH (by rw[gC,h0];rfl) h (by omega) (by omega)
 ·have:u.2=a.2:=by
   simp only[aI] at h0
   have h5:(b.1-a.1)*(u.2-a.2)=0:=by rw[h1] at h0 ⊢;grind
   have:=dT (by omega) h5
   omega
  exact AAJ this.symm (by omega) h3 h4
theorem ovl {a b c d:Int} (q:min a b≤max c d∧min c d≤max a b):(min a b≤c∧c≤max a b)∨(min a b≤d∧d≤max a b)∨(min c d≤a∧a≤max c d)∨(min c d≤b∧b≤max c d):=by omega
theorem A2U {a b c d:Pt} (hab:a≠b) (hcd:c≠d) (n1:iP a b c=false) (n2:iP a b d=false) (n3:iP c d a=false) (n4:iP c d b=false) (r1:aI c d a=0∧aI c d b=0) (r2:aI a b c=0∧aI a b d=0)
  (q1:min a.1 b.1≤max c.1 d.1∧min c.1 d.1≤max a.1 b.1) (q2:min a.2 b.2≤max c.2 d.2∧min c.2 d.2≤max a.2 b.2):False:=by
 have nab:a.2≠b.2∨(a.2=b.2∧a.1≠b.1):=by
  by_cases h:a.2=b.2
  ·exact .inr ⟨h,fun h'=>hab (Prod.ext h' h)⟩
  ·exact .inl h
 have ncd:c.2≠d.2∨(c.2=d.2∧c.1≠d.1):=by
  by_cases h:c.2=d.2
  ·exact .inr ⟨h,fun h'=>hcd (Prod.ext h' h)⟩
  ·exact .inl h
 have f1:∀ {a b u:Pt},aI a b u=0→iP a b u=false→(a.2≠b.2→min a.2 b.2≤u.2→u.2≤max a.2 b.2→False)∧(a.2=b.2→a.1≠b.1→min a.1 b.1≤u.1→u.1≤max a.1 b.1→False):=by
  intro a b u hz hn
  refine ⟨fun x1 x2 x3=>?_,fun x1 x2 x3 x4=>?_⟩
  ·rw[A4E hz (.inl ⟨x1,x2,x3⟩)] at hn;cases hn
  ·rw[A4E hz (.inr ⟨x1,x2,x3,x4⟩)] at hn;cases hn
 obtain ⟨a1,a2⟩:=f1 r2.1 n1
 obtain ⟨b1,b2⟩:=f1 r2.2 n2
 obtain ⟨c1,c2⟩:=f1 r1.1 n3
 obtain ⟨d1,d2⟩:=f1 r1.2 n4
 have flat:a.2=b.2→c.2=a.2∧d.2=a.2:=fun hh=>by
  have x1:a.1≠b.1:=fun h'=>hab (Prod.ext h' hh)
  have y1:=r2.1;have y2:=r2.2
  simp only[aI] at y1 y2
  have z1:(b.1-a.1)*(c.2-a.2)=0:=by rw[hh] at y1 ⊢;grind
  have z2:(b.1-a.1)*(d.2-a.2)=0:=by rw[hh] at y2 ⊢;grind
  have:=dT (by omega) z1
  have:=dT (by omega) z2
  omega
 have flat':c.2=d.2→a.2=c.2∧b.2=c.2:=fun hh=>by
  have x1:c.1≠d.1:=fun h'=>hcd (Prod.ext h' hh)
  have y1:=r1.1;have y2:=r1.2
  simp only[aI] at y1 y2
  have z1:(d.1-c.1)*(a.2-c.2)=0:=by rw[hh] at y1 ⊢;grind
  have z2:(d.1-c.1)*(b.2-c.2)=0:=by rw[hh] at y2 ⊢;grind
  have:=dT (by omega) z1
  have:=dT (by omega) z2
  omega
 by_cases hf:a.2=b.2
 ·obtain ⟨x1,x2⟩:=flat hf
  have x3:a.1≠b.1:=fun h'=>hab (Prod.ext h' hf)
  have x5:c.2=d.2:=x1.trans x2.symm
  have x4:c.1≠d.1:=fun h'=>hcd (Prod.ext h' x5)
  rcases ovl q1 with h|h|h|h
  ·exact a2 hf x3 h.1 h.2
  ·exact b2 hf x3 h.1 h.2
  ·exact c2 x5 x4 h.1 h.2
  ·exact d2 x5 x4 h.1 h.2
 ·have hg:c.2≠d.2:=fun hh=>hf ((flat' hh).1.trans (flat' hh).2.symm)
  rcases ovl q2 with h|h|h|h
  ·exact a1 hf h.1 h.2
  ·exact b1 hf h.1 h.2
  ·exact c1 hg h.1 h.2
  ·exact d1 hg h.1 h.2
theorem KZ {a b c d:Pt} (hab:a≠b) (hcd:c≠d) (h:MJ a b c d):bO a b c d=true:=by
 obtain ⟨s,t,s',t',h1,h2,h3,h4,h5,h6,h7,h8⟩:=h
 have g:s*aI c d a+t*aI c d b=0:=by
  simp only[aI];grind
 have g':s'*aI a b c+t'*aI a b d=0:=by
  simp only[aI];grind
 have e:=AAA a b c d
 refine Classical.byContradiction fun hm=>?_
 have hm:bO a b c d=false:=by simpa using hm
 obtain ⟨n1,n2,n3,n4⟩:=pO hm
 have ms:=nD hm
 have on3:t=0→False:=fun ht=>by
  subst ht
  have:wW c d a:=⟨s',t',h3,h4,by omega,by rw[←h5,Int.add_zero];omega,by rw[←h5,Int.add_zero];omega⟩
  rw[this.on] at n3;cases n3
 have on4:s=0→False:=fun hs=>by
  subst hs
  have:wW c d b:=⟨s',t',h3,h4,by omega,by rw[←h5,Int.zero_add];omega,by rw[←h5,Int.zero_add];omega⟩
  rw[this.on] at n4;cases n4
 have on1:t'=0→False:=fun ht=>by
  subst ht
  have:wW a b c:=⟨s,t,h1,h2,h6,by rw[h5,Int.add_zero];omega,by rw[h5,Int.add_zero];omega⟩
  rw[this.on] at n1;cases n1
 have on2:s'=0→False:=fun hs=>by
  subst hs
  have:wW a b d:=⟨s,t,h1,h2,h6,by rw[h5,Int.zero_add];omega,by rw[h5,Int.zero_add];omega⟩
  rw[this.on] at n2;cases n2
 have sgns:∀ {s t x y:Int},0<s→0<t→s*x+t*y=0→(x=0∧y=0)∨(0<x∧y<0)∨(x<0∧0<y):=by
  intro s t x y hs ht hh
  rcases Int.lt_trichotomy x 0 with hx|hx|hx
  ·have:s*x<0:=Int.mul_neg_of_pos_of_neg hs hx
   have:0<y:=r4 (a:=t) (by omega) ht
   omega
  ·subst hx
   have:=dT (s:=t) (x:=y) (by omega) (by omega)
   omega
  ·have:0<s*x:=Int.mul_pos hs hx
   have hy:0 < -y:=r4 (a:=t) (by rw[Int.mul_neg];omega) ht
   omega
 have hs:0<s:=by rcases Int.lt_or_eq_of_le h1 with h|h;exact h;exact (on4 h.symm).elim
 have ht:0<t:=by rcases Int.lt_or_eq_of_le h2 with h|h;exact h;exact (on3 h.symm).elim
 have hs':0<s':=by rcases Int.lt_or_eq_of_le h3 with h|h;exact h;exact (on2 h.symm).elim
 have ht':0<t':=by rcases Int.lt_or_eq_of_le h4 with h|h;exact h;exact (on1 h.symm).elim
 have r1:=sgns hs ht g
 have r2:=sgns hs' ht' g'
 rcases r1 with r1|r1
 ·have r2:aI a b c=0∧aI a b d=0:=by rcases r2 with r2|r2;exact r2;clear on1 on2 on3 on4 sgns;omega
  have q2:min a.2 b.2≤max c.2 d.2∧min c.2 d.2≤max a.2 b.2:=by
   have e1:=cW h1 (Int.min_le_left a.2 b.2);have e2:=cW h2 (Int.min_le_right a.2 b.2)
   have e3:=cW h3 (Int.le_max_left c.2 d.2);have e4:=cW h4 (Int.le_max_right c.2 d.2)
   have e5:=cW h3 (Int.min_le_left c.2 d.2);have e6:=cW h4 (Int.min_le_right c.2 d.2)
   have e7:=cW h1 (Int.le_max_left a.2 b.2);have e8:=cW h2 (Int.le_max_right a.2 b.2)
   constructor
   ·refine mH h6 ?_
    rw[Int.add_mul,h5,Int.add_mul];omega
   ·refine mH (s:=s'+t') (by omega) ?_
    rw[Int.add_mul,←h5,Int.add_mul];omega
  have q1:min a.1 b.1≤max c.1 d.1∧min c.1 d.1≤max a.1 b.1:=by
   have e1:=cW h1 (Int.min_le_left a.1 b.1);have e2:=cW h2 (Int.min_le_right a.1 b.1)
   have e3:=cW h3 (Int.le_max_left c.1 d.1);have e4:=cW h4 (Int.le_max_right c.1 d.1)
   have e5:=cW h3 (Int.min_le_left c.1 d.1);have e6:=cW h4 (Int.min_le_right c.1 d.1)
   have e7:=cW h1 (Int.le_max_left a.1 b.1);have e8:=cW h2 (Int.le_max_right a.1 b.1)
   constructor
   ·refine mH h6 ?_
    rw[Int.add_mul,h5,Int.add_mul];omega
   ·refine mH (s:=s'+t') (by omega) ?_
    rw[Int.add_mul,←h5,Int.add_mul];omega
  exact A2U hab hcd n1 n2 n3 n4 r1 r2 q1 q2
 ·rcases r2 with r2|r2
  ·omega
  ·exact ms ⟨by omega,by omega⟩
theorem MJ.sub {a b c d u v:Pt} (hu:wW a b u) (hv:wW a b v) (h:MJ u v c d):MJ a b c d:=by
 obtain ⟨s,t,s',t',h1,h2,h3,h4,h5,h6,h7,h8⟩:=h
 obtain ⟨p,q,k1,k2,k3,k4,k5⟩:=hu
 obtain ⟨p',q',l1,l2,l3,l4,l5⟩:=hv
 have m1:0<(p+q)*(p'+q'):=Int.mul_pos k3 l3
 refine ⟨s*(p'+q')*p+t*(p+q)*p',s*(p'+q')*q+t*(p+q)*q',(p+q)*(p'+q')*s',(p+q)*(p'+q')*t',?_,?_,?_,?_,?_,?_,?_,?_⟩
 ·exact Int.add_nonneg (Int.mul_nonneg (Int.mul_nonneg h1 (by omega)) k1) (Int.mul_nonneg (Int.mul_nonneg h2 (by omega)) l1)
 ·exact Int.add_nonneg (Int.mul_nonneg (Int.mul_nonneg h1 (by omega)) k2) (Int.mul_nonneg (Int.mul_nonneg h2 (by omega)) l2)
 ·exact Int.mul_nonneg (by omega) h3
 ·exact Int.mul_nonneg (by omega) h4
 ·rw[←Int.mul_add,←h5];grind
 ·have:0<(p+q)*(p'+q')*(s+t):=Int.mul_pos m1 h6
  have e:s*(p'+q')*p+t*(p+q)*p'+(s*(p'+q')*q+t*(p+q)*q')=(p+q)*(p'+q')*(s+t):=by grind
  omega
 ·have e1:(s*(p'+q')*p+t*(p+q)*p')*a.1+(s*(p'+q')*q+t*(p+q)*q')*b.1=s*(p'+q')*(p*a.1+q*b.1)+t*(p+q)*(p'*a.1+q'*b.1):=by grind
  have e2:s*(p'+q')*((p+q)*u.1)+t*(p+q)*((p'+q')*v.1)=(p+q)*(p'+q')*(s*u.1+t*v.1):=by grind
  have e3:(p+q)*(p'+q')*(s'*c.1+t'*d.1)=(p+q)*(p'+q')*s'*c.1+(p+q)*(p'+q')*t'*d.1:=by grind
  rw[e1,←k4,←l4,e2,h7,e3]
 ·have e1:(s*(p'+q')*p+t*(p+q)*p')*a.2+(s*(p'+q')*q+t*(p+q)*q')*b.2=s*(p'+q')*(p*a.2+q*b.2)+t*(p+q)*(p'*a.2+q'*b.2):=by grind
  have e2:s*(p'+q')*((p+q)*u.2)+t*(p+q)*((p'+q')*v.2)=(p+q)*(p'+q')*(s*u.2+t*v.2):=by grind
  have e3:(p+q)*(p'+q')*(s'*c.2+t'*d.2)=(p+q)*(p'+q')*s'*c.2+(p+q)*(p'+q')*t'*d.2:=by grind
  rw[e1,←k5,←l5,e2,h8,e3]
theorem xM {a b c d u v:Pt} (hn:¬ MJ a b c d) (hu:wW a b u) (hv:wW a b v):bO c d u v=false:=by
 rw[Bool.eq_false_iff]
 intro h
 exact hn ((KB h).symm.sub hu hv)
def LA (a b u:Pt):Prop:=∃ s t:Int,0≤s∧0<t∧(s+t)*u.1=s*a.1+t*b.1∧(s+t)*u.2=s*a.2+t*b.2
theorem LA.seg {a b u:Pt} (h:LA a b u):wW a b u:=by
 obtain ⟨s,t,h1,h2,h3,h4⟩:=h
 exact ⟨s,t,h1,by omega,by omega,h3,h4⟩
theorem AHQ {c a b u v:Pt} (hab:a≠b) (hf:¬ (aI c a b=0∧0<kY c a b)) (hu:LA a b u) (hv:LA a b v):bO c a u v=false:=by
 rw[Bool.eq_false_iff]
 intro h
 obtain ⟨s,t,s',t',h1,h2,h3,h4,h5,h6,h7,h8⟩:=KB h
 obtain ⟨p,q,k1,k2,k4,k5⟩:=hu
 obtain ⟨p',q',l1,l2,l4,l5⟩:=hv
 have kp:0<p+q:=by omega
 have lp:0<p'+q':=by omega
 have m1:0<(p+q)*(p'+q'):=Int.mul_pos kp lp
 have e1:(p+q)*(p'+q')*s*(c.1-a.1)=(s'*(p'+q')*q+t'*(p+q)*q')*(b.1-a.1):=by
  have e:(p+q)*(p'+q')*(s*c.1+t*a.1)=(p+q)*(p'+q')*(s'*u.1+t'*v.1):=by rw[h7]
  have e':(p+q)*(p'+q')*(s+t)*a.1=(p+q)*(p'+q')*(s'+t')*a.1:=by rw[h5]
  grind
 have e2:(p+q)*(p'+q')*s*(c.2-a.2)=(s'*(p'+q')*q+t'*(p+q)*q')*(b.2-a.2):=by
  have e:(p+q)*(p'+q')*(s*c.2+t*a.2)=(p+q)*(p'+q')*(s'*u.2+t'*v.2):=by rw[h8]
  have e':(p+q)*(p'+q')*(s+t)*a.2=(p+q)*(p'+q')*(s'+t')*a.2:=by rw[h5]
  grind
 have hQ:0<s'*(p'+q')*q+t'*(p+q)*q':=by
  have x1:0≤s'*(p'+q')*q:=Int.mul_nonneg (Int.mul_nonneg h3 (by omega)) (by omega)
  have x2:0≤t'*(p+q)*q':=Int.mul_nonneg (Int.mul_nonneg h4 (by omega)) (by omega)
  rcases Int.lt_or_eq_of_le h3 with x|x
  ·have:=Int.mul_pos (Int.mul_pos x lp) k2;omega
  ·have:0<t':=by omega
   have:=Int.mul_pos (Int.mul_pos this kp) l2;omega
 generalize s'*(p'+q')*q+t'*(p+q)*q'=Q at e1 e2 hQ
 generalize hS:(p+q)*(p'+q')*s=S at e1 e2
 have hS0:0≤S:=by rw[←hS];exact Int.mul_nonneg (by omega) h1
 have hd:0<(b.1-a.1)*(b.1-a.1)+(b.2-a.2)*(b.2-a.2):=by
  have y1:0≤(b.1-a.1)*(b.1-a.1):=A0N _
  have y2:0≤(b.2-a.2)*(b.2-a.2):=A0N _
  by_cases z:b.1-a.1=0
  ·have z2:b.2-a.2≠0:=fun h'=>hab (Prod.ext (by omega) (by omega))
   have:(b.2-a.2)*(b.2-a.2)≠0:=fun h'=>by rcases Int.mul_eq_zero.1 h' with h|h<;>omega
   omega
  ·have:(b.1-a.1)*(b.1-a.1)≠0:=fun h'=>by rcases Int.mul_eq_zero.1 h' with h|h<;>omega
   omega
 have hSpos:0<S:=by
  rcases Int.lt_or_eq_of_le hS0 with x|x
  ·exact x
  ·rw[←x] at e1 e2
   have z1:=dT (s:=Q) (x:=b.1-a.1) (by omega) (by omega)
   have z2:=dT (s:=Q) (x:=b.2-a.2) (by omega) (by omega)
   exact absurd (Prod.ext (by omega) (by omega)) hab
 refine hf ⟨?_,?_⟩
 ·have:S*aI c a b=0:=by
   simp only[aI]
   have:S*((a.1-c.1)*(b.2-c.2)-(a.2-c.2)*(b.1-c.1))=(S*(c.2-a.2))*(b.1-a.1)-(S*(c.1-a.1))*(b.2-a.2):=by grind
   rw[this,e1,e2];grind
  exact dT (by omega) this
 ·have:S*kY c a b=Q*((b.1-a.1)*(b.1-a.1)+(b.2-a.2)*(b.2-a.2)):=by
   simp only[kY]
   have:S*((c.1-a.1)*(b.1-a.1)+(c.2-a.2)*(b.2-a.2))=(S*(c.1-a.1))*(b.1-a.1)+(S*(c.2-a.2))*(b.2-a.2):=by grind
   rw[this,e1,e2];grind
  have:0<S*kY c a b:=by rw[this];exact Int.mul_pos hQ hd
  exact r4 this hSpos
def sA (a b u:Pt):Prop:=∃ s t:Int,0<s∧0<t∧(s+t)*u.1=s*a.1+t*b.1∧(s+t)*u.2=s*a.2+t*b.2
theorem sA.r {a b u:Pt} (h:sA a b u):LA a b u:=by
 obtain ⟨s,t,h1,h2,h3,h4⟩:=h
 exact ⟨s,t,by omega,h2,h3,h4⟩
theorem sA.swap {a b u:Pt} (h:sA a b u):sA b a u:=by
 obtain ⟨s,t,h1,h2,h3,h4⟩:=h
 exact ⟨t,s,h2,h1,by rw[Int.add_comm t s];omega,by rw[Int.add_comm t s];omega⟩
theorem sA.seg {a b u:Pt} (h:sA a b u):wW a b u:=h.r.seg
theorem RY (a b:Pt):LA a b b:=⟨0,1,by omega,by omega,by omega,by omega⟩
def sg (a b:Pt):Bool:=decide (b.2<a.2)||(decide (b.2=a.2)&&decide (a.1<b.1))
def KE (u v w:Pt):Bool:=if u.2≤v.2 then dr u v w else dr v u w
theorem H3 {a b u v:Pt} (hm:bO a b u v=false):(hit a b u ^^ hit a b v)=(KE u v a ^^ KE u v b):=by
 unfold KE
 by_cases h:u.2≤v.2
 ·rw[if_pos h,if_pos h];exact PX h hm
 ·rw[if_neg h,if_neg h,Bool.xor_comm];exact PX (by omega) (by rw[Q9];exact hm)
theorem mZ {u v w:Pt} (h:aI u v w=0):KE u v w=false:=by
 unfold KE dr
 split
 ·rw[h];simp
 ·rw[gC u v w,h];simp
structure BZ (x y:Int):Prop where
 p:0<x↔0<y
 n:x<0↔y<0
theorem I4 {k s x y:Int} (hk:0<k) (hs:0<s) (h:k*x=s*y):BZ x y:=by
 constructor
 ·constructor
  ·intro hx;exact r4 (a:=s) (by rw[←h];exact Int.mul_pos hk hx) hs
  ·intro hy;exact r4 (a:=k) (by rw[h];exact Int.mul_pos hs hy) hk
 ·constructor
  ·intro hx
   have:0 < -y:=r4 (a:=s) (by rw[Int.mul_neg,←h];have:=Int.mul_neg_of_pos_of_neg hk hx;omega) hs
   omega
  ·intro hy
   have:0 < -x:=r4 (a:=k) (by rw[Int.mul_neg,h];have:=Int.mul_neg_of_pos_of_neg hs hy;omega) hk
   omega
theorem ARZ {a b c u:Pt} (hu:sA a b u):(hit b c u ^^ KE u b c)=if a.2<b.2 then decide (c.2≤b.2)&&decide (aI a b c<0) else decide (b.2<c.2)&&decide (0<aI a b c):=by
 obtain ⟨s,t,h1,h2,h3,h4⟩:=hu
 have k1:BZ (aI b c u) (aI a b c):=I4 (k:=s+t) (s:=s) (by omega) h1 (by simp only[aI];grind)
 have k2:BZ (aI u b c) (aI a b c):=I4 (k:=s+t) (s:=s) (by omega) h1 (by simp only[aI];grind)
 have k3:BZ (u.2-b.2) (a.2-b.2):=I4 (k:=s+t) (s:=s) (by omega) h1 (by grind)
 obtain ⟨p1,n1⟩:=k1
 obtain ⟨p2,n2⟩:=k2
 obtain ⟨p3,n3⟩:=k3
 have e3:=gC u b c
 unfold hit KE dr
 rw[e3]
 generalize aI b c u=X at *
 generalize aI u b c=Y at *
 generalize aI a b c=Z at *
 rcases Int.lt_trichotomy Z 0 with hz|hz|hz<;>rcases Int.lt_trichotomy a.2 b.2 with ha|ha|ha<;>rcases Int.lt_trichotomy c.2 b.2 with hc|hc|hc<;>rcases Int.lt_or_le u.2 c.2 with hd|hd<;>grind
theorem AR0 {a b c v:Pt} (hv:sA b c v):(hit a b v ^^ KE b v a)=if c.2<b.2 then decide (a.2≤b.2)&&decide (0<aI a b c) else decide (b.2<a.2)&&decide (aI a b c<0):=by
 obtain ⟨s,t,h1,h2,h3,h4⟩:=hv
 have k1:BZ (aI a b v) (aI a b c):=I4 (k:=s+t) (s:=t) (by omega) h2 (by simp only[aI];grind)
 have k2:BZ (aI b v a) (aI a b c):=I4 (k:=s+t) (s:=t) (by omega) h2 (by simp only[aI];grind)
 have k3:BZ (v.2-b.2) (c.2-b.2):=I4 (k:=s+t) (s:=t) (by omega) h2 (by grind)
 obtain ⟨p1,n1⟩:=k1
 obtain ⟨p2,n2⟩:=k2
 obtain ⟨p3,n3⟩:=k3
 have e3:=gC b v a
 unfold hit KE dr
 rw[e3]
 generalize aI a b v=X at *
 generalize aI b v a=Y at *
 generalize aI a b c=Z at *
 rcases Int.lt_trichotomy Z 0 with hz|hz|hz<;>rcases Int.lt_trichotomy a.2 b.2 with ha|ha|ha<;>rcases Int.lt_trichotomy c.2 b.2 with hc|hc|hc<;>rcases Int.lt_or_le v.2 a.2 with hd|hd<;>grind
theorem A18 {a b c:Pt} (hf:¬ (aI a b c=0∧0<kY a b c)) (h:(a.2<b.2∧c.2<b.2)∨(b.2<a.2∧b.2<c.2)):aI a b c≠0:=by
 intro h0
 refine hf ⟨h0,?_⟩
 have hy:0<(a.2-b.2)*(c.2-b.2):=by
  rcases h with ⟨h1,h2⟩|⟨h1,h2⟩
  ·have:=Int.mul_pos (show 0<b.2-a.2 by omega) (show 0<b.2-c.2 by omega)
   have e:(a.2-b.2)*(c.2-b.2)=(b.2-a.2)*(b.2-c.2):=by grind
   omega
  ·exact Int.mul_pos (by omega) (by omega)
 have hx:0≤(a.1-b.1)*(c.1-b.1):=by
  have e:(a.2-b.2)*(c.2-b.2)*((a.1-b.1)*(c.1-b.1))=((a.2-b.2)*(c.1-b.1))*((a.2-b.2)*(c.1-b.1)):=by
   simp only[aI] at h0
   have h1:(a.1-b.1)*(c.2-b.2)=(a.2-b.2)*(c.1-b.1):=by grind
   have:(a.2-b.2)*(c.2-b.2)*((a.1-b.1)*(c.1-b.1))=((a.1-b.1)*(c.2-b.2))*((a.2-b.2)*(c.1-b.1)):=by grind
   rw[this,h1]
  have e2:0≤(a.2-b.2)*(c.2-b.2)*((a.1-b.1)*(c.1-b.1)):=by rw[e];exact A0N _
  rcases Int.lt_or_le ((a.1-b.1)*(c.1-b.1)) 0 with h|h
  ·have:=Int.mul_neg_of_pos_of_neg hy h;omega
  ·exact h
 unfold kY
 omega
theorem A45 {a b c u v:Pt} (hab:a≠b) (hbc:b≠c) (hf:¬ (aI a b c=0∧0<kY a b c)) (hu:sA a b u) (hv:sA b c v) :
  ((hit b c u ^^ KE u b c) ^^ (hit a b v ^^ KE b v a))=(sg a b ^^ sg b c):=by
 rw[ARZ hu,AR0 hv]
 have nf:=@A18 a b c hf
 unfold sg
 rcases Int.lt_trichotomy a.2 b.2 with ha|ha|ha
 ·rcases Int.lt_trichotomy c.2 b.2 with hc|hc|hc
  ·have:=nf (.inl ⟨ha,hc⟩)
   rcases Int.lt_or_lt_of_ne this with h|h<;>grind
  ·have hx:b.1≠c.1:=fun h=>hbc (Prod.ext h hc.symm)
   have e:aI a b c = -((b.2-a.2)*(c.1-b.1)):=by simp only[aI];rw[hc];grind
   rcases Int.lt_or_lt_of_ne hx with h|h
   ·have:=Int.mul_pos (show 0<b.2-a.2 by omega) (show 0<c.1-b.1 by omega)
    grind
   ·have:=Int.mul_neg_of_pos_of_neg (show 0<b.2-a.2 by omega) (show c.1-b.1<0 by omega)
    grind
  ·grind
 ·have hx:a.1≠b.1:=fun h=>hab (Prod.ext h ha)
  rcases Int.lt_trichotomy c.2 b.2 with hc|hc|hc
  ·have e:aI a b c=(b.1-a.1)*(c.2-b.2):=by simp only[aI];rw[ha];grind
   rcases Int.lt_or_lt_of_ne hx with h|h
   ·have:=Int.mul_neg_of_pos_of_neg (show 0<b.1-a.1 by omega) (show c.2-b.2<0 by omega)
    grind
   ·have:=Int.mul_pos (show 0<a.1-b.1 by omega) (show 0<b.2-c.2 by omega)
    have e':(a.1-b.1)*(b.2-c.2)=(b.1-a.1)*(c.2-b.2):=by grind
    grind
  ·have hx2:b.1≠c.1:=fun h=>hbc (Prod.ext h hc.symm)
   have e:aI a b c=0:=by simp only[aI];rw[ha,hc];grind
   have hd:¬ 0<kY a b c:=fun h=>hf ⟨e,h⟩
   have ed:kY a b c=(a.1-b.1)*(c.1-b.1):=by simp only[kY];rw[ha,hc];grind
   rcases Int.lt_or_lt_of_ne hx with h|h<;>rcases Int.lt_or_lt_of_ne hx2 with h'|h'
   ·grind
   ·have:=Int.mul_pos (show 0<b.1-a.1 by omega) (show 0<b.1-c.1 by omega)
    have e':(b.1-a.1)*(b.1-c.1)=(a.1-b.1)*(c.1-b.1):=by grind
    omega
   ·have:=Int.mul_pos (show 0<a.1-b.1 by omega) (show 0<c.1-b.1 by omega)
    omega
   ·grind
  ·have e:aI a b c=(b.1-a.1)*(c.2-b.2):=by simp only[aI];rw[ha];grind
   rcases Int.lt_or_lt_of_ne hx with h|h
   ·have:=Int.mul_pos (show 0<b.1-a.1 by omega) (show 0<c.2-b.2 by omega)
    grind
   ·have:=Int.mul_neg_of_pos_of_neg (show 0<c.2-b.2 by omega) (show b.1-a.1<0 by omega)
    have e':(c.2-b.2)*(b.1-a.1)=(b.1-a.1)*(c.2-b.2):=by grind
    grind
 ·rcases Int.lt_trichotomy c.2 b.2 with hc|hc|hc
  ·grind
  ·have hx:b.1≠c.1:=fun h=>hbc (Prod.ext h hc.symm)
   have e:aI a b c=(a.2-b.2)*(c.1-b.1):=by simp only[aI];rw[hc];grind
   rcases Int.lt_or_lt_of_ne hx with h|h
   ·have:=Int.mul_pos (show 0<a.2-b.2 by omega) (show 0<c.1-b.1 by omega)
    grind
   ·have:=Int.mul_neg_of_pos_of_neg (show 0<a.2-b.2 by omega) (show c.1-b.1<0 by omega)
    grind
  ·have:=nf (.inr ⟨ha,hc⟩)
   rcases Int.lt_or_lt_of_ne this with h|h<;>grind
structure fN (p:List Pt):Prop where
 n3:3≤p.length
 ne:∀ i,i<p.length→pt p i≠nx p i
 nf:∀ i,i<p.length→¬ (aI (pt p i) (nx p i) (nG p i)=0∧0<kY (pt p i) (nx p i) (nG p i))
 ap:∀ i k,i<p.length→k<p.length→k≠i→k≠(i+1) % p.length→i≠(k+1) % p.length→¬ MJ (pt p i) (nx p i) (pt p k) (nx p k)
theorem zB (p:List Pt) (i:Nat):nx p ((i+1) % p.length)=nG p i:=by
 unfold nx nG
 rw[Nat.mod_add_mod]
theorem next_ne {n i:Nat} (hn:3≤n) (hi:i<n):(i+1) % n≠i∧i≠((i+1) % n+1) % n:=by
 rw[Nat.mod_add_mod]
 rcases Nat.lt_or_ge (i+1) n with h|h
 ·rw[Nat.mod_eq_of_lt h]
  refine ⟨by omega,?_⟩
  rcases Nat.lt_or_ge (i+1+1) n with h'|h'
  ·rw[Nat.mod_eq_of_lt h'];omega
  ·rw[show i+1+1=n by omega,Nat.mod_self];omega
 ·have e:i+1=n:=by omega
  rw[e,Nat.mod_self,show n+1=1+n by omega,Nat.add_mod_right,Nat.mod_eq_of_lt (by omega)]
  omega
theorem AZC {n i j:Nat} (hi:i<n) (hj:j<n) (h:(i+1) % n=(j+1) % n):i=j:=by
 rcases Nat.lt_or_ge (i+1) n with h1|h1<;>rcases Nat.lt_or_ge (j+1) n with h2|h2
 ·rw[Nat.mod_eq_of_lt h1,Nat.mod_eq_of_lt h2] at h;omega
 ·rw[Nat.mod_eq_of_lt h1,show j+1=n by omega,Nat.mod_self] at h;omega
 ·rw[Nat.mod_eq_of_lt h2,show i+1=n by omega,Nat.mod_self] at h;omega
 ·omega
section
variable {p : List Pt}
theorem fN.right (S:fN p) {i j:Nat} (hi:i<p.length) (hj:j<p.length) (h1:j≠i) (h2:j≠(i+1) % p.length) {u v:Pt} (hu:LA (pt p i) (nx p i) u) (hv:LA (pt p i) (nx p i) v):bO (pt p j) (nx p j) u v=false:=by
 by_cases h:i=(j+1) % p.length
 ·have e:nx p j=pt p i:=by rw[h];rfl
  have e2:nG p j=nx p i:=by rw[←zB,←h]
  rw[e]
  refine AHQ (S.ne i hi) ?_ hu hv
  have:=S.nf j hj
  rw[e,e2] at this
  exact this
 ·exact xM (S.ap i j hi hj h1 h2 h) hu.seg hv.seg
theorem AR1 (a b c:Pt):aI c b a = - aI a b c:=by simp only[aI];grind
theorem A1S (a b c:Pt):kY c b a=kY a b c:=by simp only[kY];grind
theorem fN.left (S:fN p) {i j:Nat} (hi:i<p.length) (hj:j<p.length) (h1:j≠i) (h2:i≠(j+1) % p.length) {u v:Pt} (hu:LA (nx p i) (pt p i) u) (hv:LA (nx p i) (pt p i) v):bO (pt p j) (nx p j) u v=false:=by
 by_cases h:j=(i+1) % p.length
 ·have e:pt p j=nx p i:=by rw[h];rfl
  have e2:nx p j=nG p i:=by rw[←zB,←h]
  rw[e,e2,IV]
  refine AHQ (fun h'=>S.ne i hi h'.symm) ?_ hu hv
  rw[AR1,A1S]
  rintro ⟨x,y⟩
  exact S.nf i hi ⟨by omega,y⟩
 ·exact xM (S.ap i j hi hj h1 h h2) hu.seg.swap hv.seg.swap
theorem fN.inner (S:fN p) {i j:Nat} (hi:i<p.length) (hj:j<p.length) (h1:j≠i) {u v:Pt} (hu:sA (pt p i) (nx p i) u) (hv:sA (pt p i) (nx p i) v):bO (pt p j) (nx p j) u v=false:=by
 by_cases h:j=(i+1) % p.length
 ·refine S.left hi hj h1 ?_ hu.swap.r hv.swap.r
  rw[h];exact (next_ne S.n3 hi).2
 ·exact S.right hi hj h1 h hu.r hv.r
end
theorem I5 {a b u v:Pt} (hu:wW a b u) (hv:wW a b v):aI u v a=0∧aI u v b=0:=by
 obtain ⟨s,t,h1,h2,h3,h4,h5⟩:=hu
 obtain ⟨s',t',k1,k2,k3,k4,k5⟩:=hv
 have d1:(s+t)*(s'+t')*(v.1-u.1)=((s+t)*t'-(s'+t')*t)*(b.1-a.1):=by
  have e1:(s+t)*((s'+t')*v.1)=(s+t)*(s'*a.1+t'*b.1):=by rw[k4]
  have e2:(s'+t')*((s+t)*u.1)=(s'+t')*(s*a.1+t*b.1):=by rw[h4]
  grind
 have d2:(s+t)*(s'+t')*(v.2-u.2)=((s+t)*t'-(s'+t')*t)*(b.2-a.2):=by
  have e1:(s+t)*((s'+t')*v.2)=(s+t)*(s'*a.2+t'*b.2):=by rw[k5]
  have e2:(s'+t')*((s+t)*u.2)=(s'+t')*(s*a.2+t*b.2):=by rw[h5]
  grind
 have f1:(s+t)*(a.1-u.1)=(-t)*(b.1-a.1):=by grind
 have f2:(s+t)*(a.2-u.2)=(-t)*(b.2-a.2):=by grind
 have g1:(s+t)*(b.1-u.1)=s*(b.1-a.1):=by grind
 have g2:(s+t)*(b.2-u.2)=s*(b.2-a.2):=by grind
 have m:(s+t)*(s'+t')*(s+t)≠0:=by
  have:=Int.mul_pos (Int.mul_pos h3 k3) h3;omega
 generalize (s+t)*t'-(s'+t')*t=C at d1 d2
 generalize hL:s+t=L at *
 generalize hL':s'+t'=L' at *
 constructor
 ·refine dT m ?_
  have e:L*L'*L*aI u v a=(L*L'*(v.1-u.1))*(L*(a.2-u.2))-(L*L'*(v.2-u.2))*(L*(a.1-u.1)):=by simp only[aI];grind
  rw[e,d1,d2,f1,f2];grind
 ·refine dT m ?_
  have e:L*L'*L*aI u v b=(L*L'*(v.1-u.1))*(L*(b.2-u.2))-(L*L'*(v.2-u.2))*(L*(b.1-u.1)):=by simp only[aI];grind
  rw[e,d1,d2,g1,g2];grind
def H (p:List Pt) (i:Nat) (u:Pt):Bool:=fE p.length fun j=>!decide (j=i)&&hit (pt p j) (nx p j) u
section
variable {p : List Pt}
theorem lM {a b:Bool} (h:(a ^^ b)=false):a=b:=by revert h;cases a<;>cases b<;>simp
theorem A4T (S:fN p) {i:Nat} (hi:i<p.length) {u v:Pt} (hu:sA (pt p i) (nx p i) u) (hv:sA (pt p i) (nx p i) v):H p i u=H p i v:=by
 refine lM ?_
 unfold H
 rw[←nS,hH (g:=fun j=>KE u v (pt p j) ^^ KE u v (pt p ((j+1) % p.length))) fun j hj=>?_]
 ·exact uN (fun j=>KE u v (pt p j)) p.length
 ·by_cases h:j=i
  ·subst h
   obtain ⟨z1,z2⟩:=I5 hu.seg hv.seg
   rw[decide_eq_true rfl,mZ z1,show pt p ((j+1) % p.length)=nx p j from rfl,mZ z2];rfl
  ·rw[decide_eq_false h,Bool.not_false,Bool.true_and,Bool.true_and]
   exact H3 (S.inner hi hj h hu hv)
theorem AIZ {n i:Nat} (X:Bool):fE n (fun j=>decide (j=i)&&X)=(decide (i<n)&&X):=by
 induction n with
 | zero=>simp[fE]
 | succ n ih =>
  rw[fE,ih]
  by_cases h1:i<n
  ·rw[decide_eq_true h1,decide_eq_true (show i<n+1 by omega),decide_eq_false (show ¬ n=i by omega)];simp
  ·by_cases h2:n=i
   ·rw[decide_eq_false h1,decide_eq_true h2,decide_eq_true (show i<n+1 by omega)];simp
   ·rw[decide_eq_false h1,decide_eq_false h2,decide_eq_false (show ¬ i<n+1 by omega)];simp
theorem AVC (A B C D:Nat→Bool) (n:Nat):fE n (fun j=>A j ^^ (B j ^^ (C j ^^ D j)))=(fE n A ^^ (fE n B ^^ (fE n C ^^ fE n D))):=by
 rw[nS A fun j=>B j ^^ (C j ^^ D j),nS B fun j=>C j ^^ D j,nS C D]
theorem A4S (S:fN p) {i:Nat} (hi:i<p.length) {u v:Pt} (hu:sA (pt p i) (nx p i) u) (hv:sA (nx p i) (nG p i) v):(H p i u ^^ H p ((i+1) % p.length) v)=(sg (pt p i) (nx p i) ^^ sg (nx p i) (nG p i)):=by
 obtain ⟨hk1,hk2⟩:=next_ne S.n3 hi
 have hk:(i+1) % p.length<p.length:=Nat.mod_lt _ (by omega)
 have ek:pt p ((i+1) % p.length)=nx p i:=rfl
 have ek2:nx p ((i+1) % p.length)=nG p i:=zB p i
 have hbc:nx p i≠nG p i:=by have:=S.ne _ hk;rwa[ek,ek2] at this
 have c:=A45 (S.ne i hi) hbc (S.nf i hi) hu hv
 rw[←c]
 generalize hkk:(i+1) % p.length=k at *
 have zu:=I5 hu.seg (wW.right (pt p i) (nx p i))
 have zv:=I5 (wW.left (nx p i) (nG p i)) hv.seg
 have e:(H p i u ^^ H p k v)=fE p.length (fun j=>(KE u (nx p i) (pt p j) ^^ KE u (nx p i) (pt p ((j+1) % p.length))) ^^ ((KE (nx p i) v (pt p j) ^^ KE (nx p i) v (pt p ((j+1) % p.length))) ^^
   ((decide (j=i)&&(hit (pt p i) (nx p i) v ^^ KE (nx p i) v (pt p i))) ^^ (decide (j=k)&&(hit (nx p i) (nG p i) u ^^ KE u (nx p i) (nG p i)))))):=by
  unfold H
  rw[←nS]
  refine hH fun j hj=>?_
  rw[show pt p ((j+1) % p.length)=nx p j from rfl]
  by_cases h1:j=i
  ·subst h1
   rw[decide_eq_true rfl,decide_eq_false (fun h=>hk1 h.symm),mZ zu.1,mZ zu.2,mZ (w:=nx p j) zv.1]
   cases hit (pt p j) (nx p j) v<;>cases KE (nx p j) v (pt p j)<;>rfl
  ·by_cases h2:j=k
   ·subst h2
    rw[decide_eq_false h1,decide_eq_true rfl,ek,ek2,mZ zu.2,mZ zv.1,mZ zv.2]
    cases hit (nx p i) (nG p i) u<;>cases KE u (nx p i) (nG p i)<;>rfl
   ·rw[decide_eq_false h1,decide_eq_false h2]
    have q1:=H3 (S.right hi hj h1 (by rw[hkk];exact h2) hu.r (RY _ _))
    have hv':LA (nx p k) (pt p k) v:=by rw[ek,ek2];exact hv.swap.r
    have hb':LA (nx p k) (pt p k) (nx p i):=by rw[ek,ek2];exact RY _ _
    have q2:=H3 (S.left hk hj h2 (fun h=>h1 (AZC hj hi (by rw[←h,hkk]))) hb' hv')
    rw[←q1,←q2]
    cases hit (pt p j) (nx p j) u<;>cases hit (pt p j) (nx p j) v<;>cases hit (pt p j) (nx p j) (nx p i)<;>rfl
 rw[e,AVC,AIZ,AIZ,decide_eq_true hi,decide_eq_true hk,uN (fun j=>KE u (nx p i) (pt p j)) p.length,uN (fun j=>KE (nx p i) v (pt p j)) p.length]
 cases hit (pt p i) (nx p i) v<;>cases KE (nx p i) v (pt p i)<;>cases hit (nx p i) (nG p i) u<;>cases KE u (nx p i) (nG p i)<;>rfl
theorem A8C (S:fN p) (hm:∀ i,i<p.length→∃ m,sA (pt p i) (nx p i) m):∃ κ:Bool,∀ i,i<p.length→∀ u,sA (pt p i) (nx p i) u→(H p i u ^^ sg (pt p i) (nx p i))=κ:=by
 have h0:0<p.length:=by have:=S.n3;omega
 obtain ⟨m0,hm0⟩:=hm 0 h0
 refine ⟨H p 0 m0 ^^ sg (pt p 0) (nx p 0),fun i=>?_⟩
 induction i with
 | zero=>intro hi u hu;rw[A4T S hi hu hm0]
 | succ i ih =>
  intro hi u hu
  have hi':i<p.length:=by omega
  obtain ⟨m,hmi⟩:=hm i hi'
  rw[←ih hi' m hmi]
  have e:(i+1) % p.length=i+1:=Nat.mod_eq_of_lt hi
  have en:nx p i=pt p (i+1):=by unfold nx;rw[e]
  have en2:nG p i=nx p (i+1):=by rw[←zB,e]
  have:=A4S S hi' hmi (v:=u) (by rw[en,en2];exact hu)
  rw[e,en,en2] at this
  rw[en]
  revert this
  cases H p i m<;>cases H p (i+1) u<;>cases sg (pt p i) (pt p (i+1))<;>cases sg (pt p (i+1)) (nx p (i+1))<;>simp
end
def sZ (l:List (Int×Bool)) (x:Int):Nat:=(l.filter fun f=>decide (x<f.1)).length
def val:List (Int×Bool)→Int
 | []=>0
 | e::l=>(if e.2 then -e.1 else e.1)+val l
theorem DE:∀ (a b:List (Int×Bool)),val (a++b)=val a+val b
 | [],b=>by simp[val]
 | e::a,b=>by rw[List.cons_append,val,val,DE a b];omega
theorem A0T {a b:List (Int×Bool)} (h:a.Perm b):val a=val b:=by
 induction h with
 | nil=>rfl
 | cons x _ ih=>rw[val,val,ih]
 | swap x y l=>simp only[val];omega
 | trans _ _ h1 h2=>rw[h1,h2]
theorem AW9 {a b:List (Int×Bool)} (h:a.Perm b) (x:Int):sZ a x=sZ b x:=(h.filter _).length_eq
theorem ALH (a b:List (Int×Bool)) (x:Int):sZ (a++b) x=sZ a x+sZ b x:=by unfold sZ;rw[List.filter_append,List.length_append]
def nH (n:Nat):Bool:=decide (n % 2=1)
theorem zC (n:Nat):nH (n+1) = !nH n:=by
 unfold nH
 rcases Nat.mod_two_eq_zero_or_one n with h|h
 ·rw[h,decide_eq_true (show (n+1) % 2=1 by omega)];rfl
 ·rw[h,decide_eq_false (show ¬ (n+1) % 2=1 by omega)];rfl
theorem RD (m n:Nat):nH (m+n)=(nH m ^^ nH n):=by
 induction n with
 | zero=>rw[Nat.add_zero,show nH 0=false from rfl,Bool.xor_false]
 | succ n ih=>rw[←Nat.add_assoc,zC,zC,ih];cases nH m<;>cases nH n<;>rfl
theorem AO7:∀ (n:Nat) (l:List (Int×Bool)),l.length=2*n→l.Pairwise (fun a b=>b.1<a.1)→(∀ e∈l,nH (sZ l e.1)=e.2)→0≤val l∧(l≠[]→0<val l)
 | 0,l,hl,_,_=>by
  have:l=[]:=List.eq_nil_of_length_eq_zero (by omega)
  subst this;exact ⟨Int.le_refl 0,fun h=>absurd rfl h⟩
 | n+1,[],hl,_,_=>by (rw[List.length_nil] at hl;omega)
 | n+1,[e],hl,_,_=>by simp at hl;omega
 | n+1,e::f::l,hl,hp,hc=>by
  obtain ⟨p1,hp'⟩:=List.pairwise_cons.1 hp
  obtain ⟨p2,hp''⟩:=List.pairwise_cons.1 hp'
  have hfe:f.1<e.1:=p1 f (by simp)
  have none1:∀ (l:List (Int×Bool)) (x:Int),(∀ g∈l,g.1<x)→sZ l x=0:=fun l x h=>by
   unfold sZ
   rw[List.length_eq_zero_iff,List.filter_eq_nil_iff]
   intro g hg
   have:=h g hg
   simp;omega
  have c1:sZ (e::f::l) e.1=0:=by
   unfold sZ
   rw[List.length_eq_zero_iff,List.filter_eq_nil_iff]
   intro g hg
   rcases List.mem_cons.1 hg with rfl|hg
   ·simp
   ·have:=p1 g hg;simp;omega
  have c2:sZ (e::f::l) f.1=1:=by
   have:sZ (f::l) f.1=0:=by
    unfold sZ
    rw[List.length_eq_zero_iff,List.filter_eq_nil_iff]
    intro g hg
    rcases List.mem_cons.1 hg with rfl|hg
    ·simp
    ·have:=p2 g hg;simp;omega
   unfold sZ at this ⊢
   rw[List.filter_cons,if_pos (by simpa using hfe),List.length_cons,this]
  have s1:e.2=false:=by rw[←hc e (by simp),c1];rfl
  have s2:f.2=true:=by rw[←hc f (by simp),c2];rfl
  have ih:=AO7 n l (by simp at hl;omega) hp'' fun g hg=>by
   have:=hc g (by simp[hg])
   have h1:g.1<e.1:=p1 g (by simp[hg])
   have h2:g.1<f.1:=p2 g hg
   have:sZ (e::f::l) g.1=sZ l g.1+1+1:=by
    unfold sZ
    rw[List.filter_cons,if_pos (by simpa using h1),List.filter_cons,if_pos (by simpa using h2),List.length_cons,List.length_cons]
   rw[←hc g (by simp[hg]),this,zC,zC,Bool.not_not]
  rw[val,val,s1,s2]
  simp only[if_true]
  simp only[Bool.false_eq_true,if_false]
  have ih:=ih.1
  exact ⟨by omega,fun _=>by omega⟩
theorem EZ {l:List (Int×Bool)} (he:nH l.length=false) (hd:l.Pairwise fun a b=>a.1≠b.1) (hc:∀ e∈l,nH (sZ l e.1)=e.2):0≤val l∧(l≠[]→0<val l):=by
 let le:Int×Bool→Int×Bool→Bool:=fun a b=>decide (b.1≤a.1)
 have hperm:=List.mergeSort_perm l le
 have hs:(l.mergeSort le).Pairwise fun a b=>le a b=true:=List.pairwise_mergeSort (fun a b c h1 h2=>by
  simp only[le,decide_eq_true_eq] at *;omega) (fun a b=>by simp only[le,Bool.or_eq_true,decide_eq_true_eq];omega) l
 have hd':(l.mergeSort le).Pairwise fun a b=>a.1≠b.1:=(hperm.symm.pairwise_iff (R:=fun (a b:Int×Bool)=>a.1≠b.1) (fun h=>h.symm)).1 hd
 have hs':(l.mergeSort le).Pairwise fun a b=>b.1<a.1:=by
  refine (hs.and hd').imp fun {a b} h=>?_
  have h1:b.1≤a.1:=by simpa [le] using h.1
  have:=h.2
  omega
 rw[←A0T hperm]
 have hlen:(l.mergeSort le).length=2*(l.length / 2):=by
  rw[hperm.length_eq]
  unfold nH at he
  have:=of_decide_eq_false he
  omega
 have hv:=AO7 _ _ hlen hs' fun e hm=>by rw[AW9 hperm];exact hc e (hperm.mem_iff.1 hm)
 refine ⟨hv.1,fun hne=>hv.2 fun h=>hne ?_⟩
 have hl:=hperm.length_eq
 rw[h] at hl
 exact List.eq_nil_of_length_eq_zero hl.symm
def flip (l:List (Int×Bool)):List (Int×Bool):=l.map fun e=>(e.1,!e.2)
theorem AIX:∀ l:List (Int×Bool),val (flip l) = - val l
 | []=>rfl
 | e::l=>by
  show (if (!e.2) then -e.1 else e.1)+val (flip l) = -((if e.2 then -e.1 else e.1)+val l)
  rw[AIX l]
  cases e.2<;>simp<;>omega
theorem AW8 (l:List (Int×Bool)) (x:Int):sZ (flip l) x=sZ l x:=by
 unfold sZ flip
 rw[List.filter_map,List.length_map];rfl
theorem RT {l:List (Int×Bool)} (he:nH l.length=false) (hd:l.Pairwise fun a b=>a.1≠b.1) (hc:∀ e∈l,(nH (sZ l e.1) ^^ e.2)=true):val l≤0∧(l≠[]→val l<0):=by
 have:=EZ (l:=flip l) (by unfold flip;rw[List.length_map];exact he) (by unfold flip;rw[List.pairwise_map];exact hd) fun e hm=>by
  obtain ⟨f,hf,rfl⟩:=List.mem_map.1 hm
  have h:=hc f hf
  dsimp only
  rw[AW8]
  revert h
  cases nH (sZ l f.1)<;>cases f.2<;>simp
 rw[AIX] at this
 refine ⟨by have:=this.1;omega,fun hne=>?_⟩
 have:=this.2 (by unfold flip;intro h;exact hne (List.map_eq_nil_iff.1 h))
 omega
def fac:Nat→Nat
 | 0=>1
 | n+1=>fac n*(n+1)
theorem Y7:∀ n,0<fac n
 | 0=>by decide
 | n+1=>Nat.mul_pos (Y7 n) (by omega)
theorem APF:∀ {n d:Nat},1≤d→d≤n→d ∣ fac n
 | 0,d,h1,h2=>by omega
 | n+1,d,h1,h2=>by
  rcases Nat.lt_or_ge d (n+1) with h|h
  ·exact Nat.dvd_trans (APF h1 (by omega)) ⟨n+1,rfl⟩
  ·have:d=n+1:=by omega
   subst this
   exact ⟨fac n,Nat.mul_comm _ _⟩
def sc (N:Int) (a:Pt):Pt:=(N*a.1,N*a.2)
def cr (a b:Pt) (k:Int):Bool:=(decide (a.2≤k)&&decide (k<b.2))||(decide (b.2≤k)&&decide (k<a.2))
def rx (M:Int) (a b:Pt) (k:Int):Int:=2*M*a.1+(b.1-a.1)*(M / (b.2-a.2))*(2*(k-a.2)+1)
def ru (M:Int) (a b:Pt) (k:Int):Pt:=(rx M a b k,2*M*k+M)
def Mul (M:Int) (a b:Pt):Prop:=a.2≠b.2→M / (b.2-a.2)*(b.2-a.2)=M
theorem I3 {M:Int} {a b:Pt} {k:Int} (hM:0<M) (hd:Mul M a b) (hc:cr a b k=true):sA (sc (2*M) a) (sc (2*M) b) (ru M a b k):=by
 unfold cr at hc
 simp only[Bool.or_eq_true,Bool.and_eq_true,decide_eq_true_eq] at hc
 have he:=hd (by omega)
 generalize M / (b.2-a.2)=e at he
 have hre:rx M a b k=2*M*a.1+(b.1-a.1)*e*(2*(k-a.2)+1):=by
  unfold rx
  have:M / (b.2-a.2)=e:=by
   rw[←he];exact Int.mul_ediv_cancel _ (by omega)
  rw[this]
 have hw:0<e*(2*(k-a.2)+1)∧e*(2*(k-a.2)+1)<2*M:=by
  rcases hc with ⟨h1,h2⟩|⟨h1,h2⟩
  ·have hep:0<e:=by
    refine r4 (a:=b.2-a.2) (by rw[Int.mul_comm,he];exact hM) (by omega)
   refine ⟨Int.mul_pos hep (by omega),?_⟩
   have:e*(2*(k-a.2)+1)<e*(2*(b.2-a.2)):=Int.mul_lt_mul_of_pos_left (by omega) hep
   have e2:e*(2*(b.2-a.2))=2*M:=by rw[←he];grind
   omega
  ·have hep:0 < -e:=by
    refine r4 (a:=a.2-b.2) ?_ (by omega)
    have:(a.2-b.2) * -e=M:=by rw[←he];grind
    omega
   have e1:e*(2*(k-a.2)+1)=(-e)*(2*(a.2-k)-1):=by grind
   rw[e1]
   refine ⟨Int.mul_pos hep (by omega),?_⟩
   have:(-e)*(2*(a.2-k)-1)<(-e)*(2*(a.2-b.2)):=Int.mul_lt_mul_of_pos_left (by omega) hep
   have e2:(-e)*(2*(a.2-b.2))=2*M:=by rw[←he];grind
   omega
 refine ⟨2*M-e*(2*(k-a.2)+1),e*(2*(k-a.2)+1),by omega,hw.1,?_,?_⟩
 ·show _*rx M a b k=_*(2*M*a.1)+_*(2*M*b.1)
  rw[hre];grind
 ·show _*(2*M*k+M)=_*(2*M*a.2)+_*(2*M*b.2)
  have:e*(2*(k-a.2)+1)*(b.2-a.2)=M*(2*(k-a.2)+1):=by
   rw[←he];grind
  grind
theorem APN {M:Int} {a b c d:Pt} {k:Int} (hM:0<M) (hd:Mul M c d):hit (sc (2*M) c) (sc (2*M) d) (ru M a b k)=(cr c d k&&decide (rx M a b k<rx M c d k)):=by
 have h1:∀ y:Int,(2*M*y≤2*M*k+M↔y≤k):=fun y=>by
  constructor
  ·intro h
   rcases Int.lt_or_le k y with h'|h'
   ·have:=Int.mul_le_mul_of_nonneg_left (show k+1≤y by omega) (show 0≤2*M by omega)
    have e:2*M*(k+1)=2*M*k+2*M:=by grind
    omega
   ·exact h'
  ·intro h
   have:=Int.mul_le_mul_of_nonneg_left h (show 0≤2*M by omega)
   omega
 have h2:∀ y:Int,(2*M*k+M<2*M*y↔k<y):=fun y=>by
  have:=h1 y;omega
 by_cases hc:cr c d k=true
 ·have hs:=(I3 hM hd hc).seg.A38
  have key:aI (sc (2*M) c) (sc (2*M) d) (ru M a b k)=2*M*(d.2-c.2)*(rx M c d k-rx M a b k):=by
   simp only[aI,sc,ru] at hs ⊢
   grind
  unfold hit
  rw[key]
  unfold cr at hc ⊢
  simp only[Bool.or_eq_true,Bool.and_eq_true,decide_eq_true_eq] at hc
  show (decide (2*M*c.2≤2*M*k+M)&&decide (2*M*k+M<2*M*d.2)&&_||decide (2*M*d.2≤2*M*k+M)&&decide (2*M*k+M<2*M*c.2)&&_)=_
  rw[decide_eq_decide.2 (h1 c.2),decide_eq_decide.2 (h1 d.2),decide_eq_decide.2 (h2 c.2),decide_eq_decide.2 (h2 d.2)]
  rcases hc with ⟨x1,x2⟩|⟨x1,x2⟩
  ·have sgn1:(0<2*M*(d.2-c.2)*(rx M c d k-rx M a b k))↔rx M a b k<rx M c d k:=by
    have hp:0<2*M*(d.2-c.2):=Int.mul_pos (by omega) (by omega)
    constructor
    ·intro h;have:=r4 (a:=2*M*(d.2-c.2)) h hp;omega
    ·intro h;exact Int.mul_pos hp (by omega)
   rw[decide_eq_true x1,decide_eq_true x2,decide_eq_false (show ¬ d.2≤k by omega),show decide (0<2*M*(d.2-c.2)*(rx M c d k-rx M a b k))=decide (rx M a b k<rx M c d k) from decide_eq_decide.2 sgn1]
   simp
  ·have sgn1:(2*M*(d.2-c.2)*(rx M c d k-rx M a b k)<0)↔rx M a b k<rx M c d k:=by
    have hp:0<2*M*(c.2-d.2):=Int.mul_pos (by omega) (by omega)
    have e:2*M*(d.2-c.2)*(rx M c d k-rx M a b k) = -(2*M*(c.2-d.2)*(rx M c d k-rx M a b k)):=by grind
    rw[e]
    constructor
    ·intro h;have:=r4 (a:=2*M*(c.2-d.2)) (b:=rx M c d k-rx M a b k) (by omega) hp;omega
    ·intro h;have:=Int.mul_pos hp (show 0<rx M c d k-rx M a b k by omega);omega
   rw[decide_eq_true x1,decide_eq_true x2,decide_eq_false (show ¬ c.2≤k by omega),show decide (2*M*(d.2-c.2)*(rx M c d k-rx M a b k)<0)=decide (rx M a b k<rx M c d k) from decide_eq_decide.2 sgn1]
   simp
 ·have hc:cr c d k=false:=by simpa using hc
  rw[hc,Bool.false_and]
  unfold cr at hc
  simp only[Bool.or_eq_false_iff] at hc
  unfold hit
  show (decide (2*M*c.2≤2*M*k+M)&&decide (2*M*k+M<2*M*d.2)&&_||decide (2*M*d.2≤2*M*k+M)&&decide (2*M*k+M<2*M*c.2)&&_)=_
  rw[decide_eq_decide.2 (h1 c.2),decide_eq_decide.2 (h1 d.2),decide_eq_decide.2 (h2 c.2),decide_eq_decide.2 (h2 d.2),hc.1,hc.2]
  rfl
def nZ (M:Int) (p:List Pt) (k:Int):List (Int×Bool):=((List.range p.length).filter fun i=>cr (pt p i) (nx p i) k).map fun i=>(rx M (pt p i) (nx p i) k,sg (pt p i) (nx p i))
theorem SU (f:Nat→Bool):∀ n:Nat,fE n f=nH ((List.range n).filter f).length
 | 0=>rfl
 | n+1=>by
  rw[fE,SU f n,List.range_succ,List.filter_append,List.length_append,RD]
  congr 1
  cases h:f n
  ·rw[List.filter_cons,if_neg (by rw[h];decide)];rfl
  ·rw[List.filter_cons,if_pos h];rfl
theorem A46 (a b:Pt) (k:Int):cr a b k=(decide (a.2≤k) ^^ decide (b.2≤k)):=by
 unfold cr
 rcases Int.lt_or_le k a.2 with h1|h1<;>rcases Int.lt_or_le k b.2 with h2|h2
 ·rw[decide_eq_false (show ¬ a.2≤k by omega),decide_eq_false (show ¬ b.2≤k by omega)];rfl
 ·rw[decide_eq_false (show ¬ a.2≤k by omega),decide_eq_true h2,decide_eq_true h1];rfl
 ·rw[decide_eq_false (show ¬ b.2≤k by omega),decide_eq_true h2,decide_eq_true h1];rfl
 ·rw[decide_eq_true h1,decide_eq_true h2,decide_eq_false (show ¬ k<b.2 by omega),decide_eq_false (show ¬ k<a.2 by omega)];rfl
theorem mJ (M:Int) (p:List Pt) (k:Int):nH (nZ M p k).length=false:=by
 unfold nZ
 rw[List.length_map,←SU,hH (g:=fun i=>decide ((pt p i).2≤k) ^^ decide ((pt p ((i+1) % p.length)).2≤k)) fun i _=>A46 (pt p i) (nx p i) k]
 exact uN (fun i=>decide ((pt p i).2≤k)) p.length
def VZ (N:Int) (p:List Pt):List Pt:=p.map (sc N)
theorem j7 (N:Int) (p:List Pt):(VZ N p).length=p.length:=List.length_map ..
theorem jP (N:Int) (p:List Pt) (i:Nat):pt (VZ N p) i=sc N (pt p i):=by
 unfold pt VZ
 rw[List.getD_eq_getElem?_getD,List.getD_eq_getElem?_getD,List.getElem?_map]
 cases h:p[i]? with
 | none=>simp[sc]
 | some a=>rfl
theorem lG (N:Int) (p:List Pt) (i:Nat):nx (VZ N p) i=sc N (nx p i):=by unfold nx;rw[j7,jP]
theorem A2V (N:Int) (p:List Pt) (i:Nat):nG (VZ N p) i=sc N (nG p i):=by unfold nG;rw[j7,jP]
theorem A6Y {N:Int} (hN:0<N) {a b:Pt} (h:sc N a=sc N b):a=b:=by
 have h1:=congrArg Prod.fst h;have h2:=congrArg Prod.snd h
 have h1:N*a.1=N*b.1:=h1
 have h2:N*a.2=N*b.2:=h2
 exact Prod.ext (Int.eq_of_mul_eq_mul_left (by omega) h1) (Int.eq_of_mul_eq_mul_left (by omega) h2)
theorem AFE (N:Int) (a b c:Pt):aI (sc N a) (sc N b) (sc N c)=N*N*aI a b c:=by simp only[aI,sc];grind
theorem A47 (N:Int) (a b c:Pt):kY (sc N a) (sc N b) (sc N c)=N*N*kY a b c:=by simp only[kY,sc];grind
theorem ALJ {N:Int} (hN:0<N) {a b c d:Pt} (h:MJ (sc N a) (sc N b) (sc N c) (sc N d)):MJ a b c d:=by
 obtain ⟨s,t,s',t',h1,h2,h3,h4,h5,h6,h7,h8⟩:=h
 simp only[sc] at h7 h8
 refine ⟨s,t,s',t',h1,h2,h3,h4,h5,h6,?_,?_⟩
 ·refine Int.eq_of_mul_eq_mul_left (a:=N) (by omega) ?_;grind
 ·refine Int.eq_of_mul_eq_mul_left (a:=N) (by omega) ?_;grind
theorem fN.VZ {p:List Pt} (S:fN p) {N:Int} (hN:0<N):fN (VZ N p):=by
 refine ⟨by rw[j7];exact S.n3,fun i hi=>?_,fun i hi=>?_,fun i k hi hk h1 h2 h3=>?_⟩
 ·rw[j7] at hi
  rw[jP,lG]
  exact fun h=>S.ne i hi (A6Y hN h)
 ·rw[j7] at hi
  rw[jP,lG,A2V,AFE,A47]
  have hNN:0<N*N:=Int.mul_pos hN hN
  rintro ⟨h1,h2⟩
  exact S.nf i hi ⟨dT (by omega) h1,r4 h2 hNN⟩
 ·rw[j7] at *
  rw[jP,lG,jP,lG]
  exact fun h=>S.ap i k hi hk h1 h2 h3 (ALJ hN h)
def PB (M:Int) (p:List Pt):Prop:=0<M∧∀ i,Mul M (pt p i) (nx p i)
section
variable {M : Int} {p : List Pt}
theorem Y2 (hM:PB M p) {c d:Pt} {k:Int}:nH (sZ (nZ M p k) (rx M c d k))=fH (VZ (2*M) p) (ru M c d k):=by
 unfold fH
 rw[j7,hH (g:=fun i=>cr (pt p i) (nx p i) k&&decide (rx M c d k<rx M (pt p i) (nx p i) k)) fun i _=>by rw[jP,lG,APN hM.1 (hM.2 i)],SU]
 unfold sZ nZ
 rw[List.filter_map,List.length_map,List.filter_filter]
 refine congrArg (fun l=>nH (List.length l)) (List.filter_congr fun i _=>?_)
 simp[Function.comp,Bool.and_comm]
theorem A5Z (hM:PB M p) {i:Nat} (hi:i<p.length) {k:Int}:fH (VZ (2*M) p) (ru M (pt p i) (nx p i) k)=H (VZ (2*M) p) i (ru M (pt p i) (nx p i) k):=by
 unfold fH H
 refine hH fun j _=>?_
 by_cases h:j=i
 ·subst h
  rw[decide_eq_true rfl,jP,lG,APN hM.1 (hM.2 j),decide_eq_false (show ¬ rx M (pt p j) (nx p j) k<rx M (pt p j) (nx p j) k by omega)]
  simp
 ·rw[decide_eq_false h];rfl
theorem A6Z {a b:Pt} {N:Int} (hN:0<N):sg (sc N a) (sc N b)=sg a b:=by
 unfold sg
 have l:∀ {x y:Int},(N*x<N*y↔x<y):=fun {x y}=>by
  constructor
  ·intro h;exact Int.lt_of_mul_lt_mul_left h (by omega)
  ·intro h;exact Int.mul_lt_mul_of_pos_left h hN
 have e:∀ {x y:Int},(N*x=N*y↔x=y):=fun {x y}=>by
  constructor
  ·intro h;exact Int.eq_of_mul_eq_mul_left (by omega) h
  ·intro h;rw[h]
 show (decide (N*b.2<N*a.2)||(decide (N*b.2=N*a.2)&&decide (N*a.1<N*b.1)))=_
 rw[decide_eq_decide.2 l,decide_eq_decide.2 e,decide_eq_decide.2 l]
theorem A2O {M:Int} (a b:Pt):sA (sc (2*M) a) (sc (2*M) b) (M*(a.1+b.1),M*(a.2+b.2)):=by
 refine ⟨1,1,by omega,by omega,?_,?_⟩
 ·show (1+1)*(M*(a.1+b.1))=1*(2*M*a.1)+1*(2*M*b.1);grind
 ·show (1+1)*(M*(a.2+b.2))=1*(2*M*a.2)+1*(2*M*b.2);grind
theorem AN7 (S:fN p) (hM:PB M p):∃ κ:Bool,∀ k i,i<p.length→cr (pt p i) (nx p i) k=true→(fH (VZ (2*M) p) (ru M (pt p i) (nx p i) k) ^^ sg (pt p i) (nx p i))=κ:=by
 have hN:0<2*M:=by have:=hM.1;omega
 obtain ⟨κ,hκ⟩:=A8C (S.VZ hN) (fun i hi=>⟨_,by rw[jP,lG];exact A2O _ _⟩)
 refine ⟨κ,fun k i hi hc=>?_⟩
 have:=hκ i (by rw[j7];exact hi) (ru M (pt p i) (nx p i) k) (by rw[jP,lG];exact I3 hM.1 (hM.2 i) hc)
 rw[jP,lG,A6Z hN] at this
 rw[A5Z hM hi]
 exact this
theorem VW {a b c d:Pt} {k:Int} (hM:0<M) (h1:Mul M a b) (h2:Mul M c d) (c1:cr a b k=true) (c2:cr c d k=true) (hm:bO (sc (2*M) c) (sc (2*M) d) (ru M a b k) (ru M a b k)=false):rx M a b k≠rx M c d k:=by
 intro h
 have e:ru M a b k=ru M c d k:=by unfold ru;rw[h]
 have o:=(I3 hM h2 c2).seg.on
 rw[←e] at o
 rw[(pO hm).1] at o;cases o
theorem kF (S:fN p) (hM:PB M p) (k:Int):(nZ M p k).Pairwise fun a b=>a.1≠b.1:=by
 have hN:0<2*M:=by have:=hM.1;omega
 unfold nZ
 rw[List.pairwise_map,List.pairwise_filter]
 refine (List.nodup_range (n:=p.length)).imp_of_mem fun {i j} hi hj hij=>fun c1 c2=>?_
 have hi:=List.mem_range.1 hi
 have hj:=List.mem_range.1 hj
 refine VW hM.1 (hM.2 i) (hM.2 j) c1 c2 ?_
 have s:=I3 hM.1 (hM.2 i) c1
 have:=(S.VZ hN).inner (i:=i) (j:=j) (by rw[j7];exact hi) (by rw[j7];exact hj) (fun h=>hij h.symm) (u:=ru M (pt p i) (nx p i) k) (v:=ru M (pt p i) (nx p i) k) (by rw[jP,lG];exact s) (by rw[jP,lG];exact s)
 rwa[jP,lG] at this
theorem xN {e:Int×Bool} {k:Int} (h:e∈nZ M p k):∃ i,i<p.length∧cr (pt p i) (nx p i) k=true∧e=(rx M (pt p i) (nx p i) k,sg (pt p i) (nx p i)):=by
 unfold nZ at h
 obtain ⟨i,hi,rfl⟩:=List.mem_map.1 h
 obtain ⟨h1,h2⟩:=List.mem_filter.1 hi
 exact ⟨i,List.mem_range.1 h1,h2,rfl⟩
end
theorem gE {f g:Nat→Int}:∀ {n:Nat},(∀ i,i<n→f i=g i)→cM n f=cM n g
 | 0,_=>rfl
 | n+1,h=>by rw[cM,cM,gE fun i hi=>h i (by omega),h n (by omega)]
theorem qA (f g:Nat→Int):∀ n,cM n (fun i=>f i+g i)=cM n f+cM n g
 | 0=>rfl
 | n+1=>by rw[cM,cM,cM,qA f g n];omega
theorem qB (c:Int) (f:Nat→Int):∀ n,cM n (fun i=>c*f i)=c*cM n f
 | 0=>by simp[cM]
 | n+1=>by rw[cM,cM,qB c f n,Int.mul_add]
theorem AM:∀ n,cM n (fun _=>0)=0
 | 0=>rfl
 | n+1=>by rw[cM,AM n];rfl
theorem V9 (f:Nat→Nat→Int) (m:Nat):∀ n,cM n (fun i=>cM m (fun j=>f i j))=cM m (fun j=>cM n (fun i=>f i j))
 | 0=>(AM m).symm
 | n+1=>by
  rw[cM,V9 f m n,←qA];rfl
theorem DC (f:Nat→Int):∀ n,cM (n+1) f=f 0+cM n (fun i=>f (i+1))
 | 0=>by simp[cM]
 | n+1=>by rw[cM,DC f n,cM];omega
theorem AIT (d:Nat→Int) (n:Nat):cM n (fun i=>d ((i+1) % n))=cM n d:=by
 cases n with
 | zero=>rfl
 | succ m =>
  rw[DC d m,cM,Nat.mod_self]
  rw[gE (g:=fun i=>d (i+1)) fun i hi=>by rw[Nat.mod_eq_of_lt (by omega)]]
  omega
theorem J4 (F:Int→Int) (K:Int):∀ n:Nat,cM n (fun j=>F ((j:Int)-K+1)-F ((j:Int)-K))=F ((n:Int)-K)-F (-K)
 | 0=>by simp[cM]
 | n+1=>by
  rw[cM,J4 F K n,show ((n+1:Nat):Int)-K=(n:Int)-K+1 by omega]
  omega
theorem F3 {f:Nat→Int}:∀ {n:Nat},(∀ i,i<n→0≤f i)→0≤cM n f
 | 0,_=>Int.le_refl 0
 | n+1,h=>by
  have:=F3 (n:=n) fun i hi=>h i (by omega)
  have:=h n (by omega)
  unfold cM;omega
def ge (M:Int) (a b:Pt) (k:Int):Int:=if cr a b k=true then (if sg a b=true then-rx M a b k else rx M a b k) else 0
theorem A0U (M:Int) (p:List Pt) (k:Int):val (nZ M p k)=cM p.length fun i=>ge M (pt p i) (nx p i) k:=by
 unfold nZ
 generalize p.length=n
 induction n with
 | zero=>rfl
 | succ n ih =>
  rw[List.range_succ,List.filter_append,List.map_append,DE,ih,cM]
  congr 1
  unfold ge
  by_cases h:cr (pt p n) (nx p n) k=true
  ·rw[if_pos h,List.filter_cons,if_pos h]
   simp[val]
  ·rw[if_neg h,List.filter_cons,if_neg h]
   rfl
def kH (lo hi k:Int):Int:=if k≤lo then lo else if hi≤k then hi else k
theorem AR2 {M:Int} {a b:Pt} (hM:0<M) (hd:Mul M a b) {K:Int} {n:Nat} (ha:-K≤a.2∧a.2≤(n:Int)-K) (hb:-K≤b.2∧b.2≤(n:Int)-K) :
  cM n (fun j=>ge M a b ((j:Int)-K))=M*((a.1+b.1)*(b.2-a.2)):=by
 by_cases h:a.2=b.2
 ·rw[h,Int.sub_self,Int.mul_zero,Int.mul_zero,gE (g:=fun _=>0) fun i _=>?_,AM]
  unfold ge cr
  rw[if_neg]
  simp only[Bool.or_eq_true,Bool.and_eq_true,decide_eq_true_eq]
  omega
 ·have he:=hd h
  generalize hE:M / (b.2-a.2)=E at he
  have hx:∀ k,rx M a b k=2*M*a.1+(b.1-a.1)*E*(2*(k-a.2)+1):=fun k=>by unfold rx;rw[hE]
  let S:Int→Int:=fun y=>2*M*a.1*y+(b.1-a.1)*E*(y*y)
  have hS:∀ y,S (y+1)-S y=2*M*a.1+(b.1-a.1)*E*(2*y+1):=fun y=>by simp only[S];grind
  have fin:S (b.2-a.2)=M*((a.1+b.1)*(b.2-a.2)):=by
   simp only[S]
   have:(b.1-a.1)*E*((b.2-a.2)*(b.2-a.2))=(b.1-a.1)*(E*(b.2-a.2))*(b.2-a.2):=by grind
   rw[this,he];grind
  rcases Int.lt_or_lt_of_ne h with hlt|hlt
  ·let F:Int→Int:=fun k=>S (kH a.2 b.2 k-a.2)
   rw[gE (g:=fun j=>F ((j:Int)-K+1)-F ((j:Int)-K)) fun j _=>?_,J4 F K n]
   ·have e1:F ((n:Int)-K)=S (b.2-a.2):=by
     simp only[F];unfold kH;rw[if_neg (by omega),if_pos (by omega)]
    have e2:F (-K)=0:=by
     simp only[F];unfold kH;rw[if_pos (by omega),Int.sub_self];simp[S]
    rw[e1,e2,fin];omega
   ·generalize (j:Int)-K=k
    have hsg:sg a b=false:=by unfold sg;rw[decide_eq_false (show ¬ b.2<a.2 by omega),decide_eq_false (show ¬ b.2=a.2 by omega)];rfl
    unfold ge
    by_cases hc:cr a b k=true
    ·rw[if_pos hc,hsg]
     simp only[Bool.false_eq_true,if_false]
     unfold cr at hc
     simp only[Bool.or_eq_true,Bool.and_eq_true,decide_eq_true_eq] at hc
     have hk:a.2≤k∧k<b.2:=by omega
     have c1:kH a.2 b.2 k=k:=by unfold kH;split;omega;split<;>omega
     have c2:kH a.2 b.2 (k+1)=k+1:=by unfold kH;split;omega;split<;>omega
     simp only[F]
     rw[c1,c2,hx,←hS,show k+1-a.2=k-a.2+1 by omega]
    ·rw[if_neg hc]
     unfold cr at hc
     simp only[Bool.or_eq_true,Bool.and_eq_true,decide_eq_true_eq] at hc
     have c1:kH a.2 b.2 (k+1)=kH a.2 b.2 k:=by unfold kH;repeat' split<;>omega
     simp only[F]
     rw[c1];omega
  ·let F:Int→Int:=fun k=>-S (kH b.2 a.2 k-a.2)
   rw[gE (g:=fun j=>F ((j:Int)-K+1)-F ((j:Int)-K)) fun j _=>?_,J4 F K n]
   ·have e1:F ((n:Int)-K)=0:=by
     simp only[F];unfold kH;rw[if_neg (by omega),if_pos (by omega),Int.sub_self];simp[S]
    have e2:F (-K) = -S (b.2-a.2):=by
     simp only[F];unfold kH;rw[if_pos (by omega)]
    rw[e1,e2,fin];omega
   ·generalize (j:Int)-K=k
    have hsg:sg a b=true:=by unfold sg;rw[decide_eq_true hlt];rfl
    unfold ge
    by_cases hc:cr a b k=true
    ·rw[if_pos hc,hsg]
     simp only[if_true]
     unfold cr at hc
     simp only[Bool.or_eq_true,Bool.and_eq_true,decide_eq_true_eq] at hc
     have hk:b.2≤k∧k<a.2:=by omega
     have c1:kH b.2 a.2 k=k:=by unfold kH;split;omega;split<;>omega
     have c2:kH b.2 a.2 (k+1)=k+1:=by unfold kH;split;omega;split<;>omega
     simp only[F]
     rw[c1,c2,hx,←hS,show k+1-a.2=k-a.2+1 by omega]
     omega
    ·rw[if_neg hc]
     unfold cr at hc
     simp only[Bool.or_eq_true,Bool.and_eq_true,decide_eq_true_eq] at hc
     have c1:kH b.2 a.2 (k+1)=kH b.2 a.2 k:=by unfold kH;repeat' split<;>omega
     simp only[F]
     rw[c1];omega
def yK (K:Int) (n:Nat) (p:List Pt):Prop:=∀ i,-K≤(pt p i).2∧(pt p i).2≤(n:Int)-K
theorem ARM (p:List Pt):eU p=cM p.length fun i=>((pt p i).1+(nx p i).1)*((nx p i).2-(pt p i).2):=by
 have h:=AIT (fun i=>(pt p i).1*(pt p i).2) p.length
 have e:cM p.length (fun i=>((pt p i).1+(nx p i).1)*((nx p i).2-(pt p i).2))=cM p.length (fun i=>CN p i+(pt p ((i+1) % p.length)).1*(pt p ((i+1) % p.length)).2)+cM p.length (fun i=>(-1)*((pt p i).1*(pt p i).2)):=by
  rw[←qA]
  refine gE fun i _=>?_
  show ((pt p i).1+(nx p i).1)*((nx p i).2-(pt p i).2)=(pt p i).1*(nx p i).2-(nx p i).1*(pt p i).2+(nx p i).1*(nx p i).2+(-1)*((pt p i).1*(pt p i).2)
  grind
 rw[e,qA,qB,h]
 unfold eU
 omega
theorem HV {M:Int} {p:List Pt} (hM:PB M p) {K:Int} {n:Nat} (hh:yK K n p):M*eU p=cM n fun j=>val (nZ M p ((j:Int)-K)):=by
 rw[gE (g:=fun j=>cM p.length fun i=>ge M (pt p i) (nx p i) ((j:Int)-K)) fun j _=>A0U M p _,←V9,ARM,←qB]
 exact (gE fun i _=>AR2 hM.1 (hM.2 i) (hh _) (hh _)).symm
def SR:List Bool→Bool
 | []=>false
 | a::l=>a ^^ SR l
def mN:List Int→Int
 | []=>0
 | a::l=>a+mN l
theorem AIW (f:List Pt→List (Int×Bool)):∀ cs:List (List Pt),val (cs.flatMap f)=mN (cs.map fun p=>val (f p))
 | []=>rfl
 | p::cs=>by rw[List.flatMap_cons,DE,AIW f cs];rfl
theorem AHZ (f:List Pt→List (Int×Bool)):∀ cs:List (List Pt),nH (cs.flatMap f).length=SR (cs.map fun p=>nH (f p).length)
 | []=>rfl
 | p::cs=>by rw[List.flatMap_cons,List.length_append,RD,AHZ f cs];rfl
theorem AFC (f:List Pt→List (Int×Bool)) (x:Int):∀ cs:List (List Pt),nH (sZ (cs.flatMap f) x)=SR (cs.map fun p=>nH (sZ (f p) x))
 | []=>rfl
 | p::cs=>by rw[List.flatMap_cons,ALH,RD,AFC f x cs];rfl
theorem wD:∀ {l:List Bool},(∀ a∈l,a=false)→SR l=false
 | [],_=>rfl
 | a::l,h=>by rw[SR,h a (by simp),wD fun b hb=>h b (by simp[hb])];rfl
def nT (p q:List Pt):Prop:=∀ i j,i<p.length→j<q.length→¬ MJ (pt p i) (nx p i) (pt q j) (nx q j)
theorem nT.symm {p q:List Pt} (h:nT p q):nT q p:=fun i j hi hj hc=>h j i hj hi hc.symm
section
variable {M : Int} {p q : List Pt}
theorem CE (hA:nT p q) (hM:PB M q) {i:Nat} (hi:i<q.length) {k:Int} (hc:cr (pt q i) (nx q i) k=true):fH (VZ (2*M) p) (ru M (pt q i) (nx q i) k)=fH (VZ (2*M) p) (sc (2*M) (pt q i)):=by
 have hN:0<2*M:=by have:=hM.1;omega
 refine CD fun j hj=>?_
 rw[j7] at hj
 rw[jP,lG]
 exact xM (fun h=>hA j i hj hi (ALJ hN h).symm) (I3 hM.1 (hM.2 i) hc).seg (wW.left _ _)
theorem A5Y {N:Int} (hN:0<N) (a b q:Pt):hit (sc N a) (sc N b) (sc N q)=hit a b q:=by
 unfold hit
 rw[AFE]
 have l:∀ {x y:Int},(N*x<N*y↔x<y):=fun {x y}=>⟨fun h=>Int.lt_of_mul_lt_mul_left h (by omega),fun h=>Int.mul_lt_mul_of_pos_left h hN⟩
 have m:∀ {x y:Int},(N*x≤N*y↔x≤y):=fun {x y}=>⟨fun h=>Int.le_of_mul_le_mul_left h hN,fun h=>Int.mul_le_mul_of_nonneg_left h (by omega)⟩
 have hNN:0<N*N:=Int.mul_pos hN hN
 have c1:(0<N*N*aI a b q)↔0<aI a b q:=⟨fun h=>r4 h hNN,fun h=>Int.mul_pos hNN h⟩
 have c2:(N*N*aI a b q<0)↔aI a b q<0:=by
  constructor
  ·intro h
   have:=r4 (a:=N*N) (b:=- aI a b q) (by rw[Int.mul_neg];omega) hNN
   omega
  ·intro h;exact Int.mul_neg_of_pos_of_neg hNN h
 show (decide (N*a.2≤N*q.2)&&decide (N*q.2<N*b.2)&&_||decide (N*b.2≤N*q.2)&&decide (N*q.2<N*a.2)&&_)=_
 rw[decide_eq_decide.2 m,decide_eq_decide.2 l,decide_eq_decide.2 m,decide_eq_decide.2 l,decide_eq_decide.2 c1,decide_eq_decide.2 c2]
theorem Z9 {N:Int} (hN:0<N) (p:List Pt) (q:Pt):fH (VZ N p) (sc N q)=fH p q:=by
 unfold fH
 rw[j7]
 exact hH fun i _=>by rw[jP,lG,A5Y hN]
theorem vE (hA:nT p q) (hp:∀ i,i<p.length→pt p i≠nx p i):∀ i,i<q.length→fH p (pt q i)=fH p (pt q 0)
 | 0,_=>rfl
 | i+1,hi=>by
  rw[←vE hA hp i (by omega)]
  have e:pt q (i+1)=nx q i:=by unfold nx;rw[Nat.mod_eq_of_lt hi]
  rw[e]
  symm
  refine CD fun j hj=>?_
  exact xM (fun h=>hA j i hj (by omega) h.symm) (wW.left _ _) (wW.right _ _)
theorem HW (S:fN p) (hM:PB M p) {K:Int} {n:Nat} (hh:yK K n p):∃ κ:Bool,(∀ k i,i<p.length→cr (pt p i) (nx p i) k=true→(fH (VZ (2*M) p) (ru M (pt p i) (nx p i) k) ^^ sg (pt p i) (nx p i))=κ)∧(κ=false→0≤eU p)∧(κ=true→eU p≤0):=by
 obtain ⟨κ,hκ⟩:=AN7 S hM
 have har:=HV hM hh
 have pos:=hM.1
 have key:∀ k e,e∈nZ M p k→(nH (sZ (nZ M p k) e.1) ^^ e.2)=κ:=fun k e he=>by
  obtain ⟨i,hi,hc,rfl⟩:=xN he
  dsimp only
  rw[Y2 hM]
  exact hκ k i hi hc
 refine ⟨κ,hκ,fun h=>?_,fun h=>?_⟩
 ·have:0≤M*eU p:=by
   rw[har]
   refine F3 fun j _=>(EZ (mJ _ _ _) (kF S hM _) fun e he=>?_).1
   have:=key _ e he
   rw[h] at this
   exact lM this
  rcases Int.lt_or_le (eU p) 0 with h'|h'
  ·have:=Int.mul_neg_of_pos_of_neg pos h';omega
  ·exact h'
 ·have:0≤M * -eU p:=by
   rw[Int.mul_neg,har]
   have e:-(cM n fun j=>val (nZ M p ((j:Int)-K)))=cM n fun j=>(-1)*val (nZ M p ((j:Int)-K)):=by
    rw[qB];omega
   rw[e]
   refine F3 fun j _=>?_
   have:=(RT (mJ M p ((j:Int)-K)) (kF S hM _) fun e he=>by rw[key _ e he,h]).1
   omega
  rcases Int.lt_or_le 0 (eU p) with h'|h'
  ·have:=Int.mul_neg_of_pos_of_neg pos (show -eU p<0 by omega);omega
  ·exact h'
end
theorem AIS (c:Int):∀ l:List Int,mN (l.map fun x=>c*x)=c*mN l
 | []=>by simp[mN]
 | a::l=>by rw[List.map_cons,mN,mN,AIS c l,Int.mul_add]
theorem V7 {α:Type} (f:α→Nat→Int) (n:Nat):∀ l:List α,mN (l.map fun a=>cM n (f a))=cM n fun j=>mN (l.map fun a=>f a j)
 | []=>(AM n).symm
 | a::l=>by
  rw[List.map_cons,mN,V7 f n l,←qA];rfl
theorem AXO {M:Int} {cs:List (List Pt)} {K:Int} {n:Nat} (hM0:0<M) (hS:∀ p∈cs,fN p) (hM:∀ p∈cs,PB M p) (hh:∀ p∈cs,yK K n p) (hap:cs.Pairwise nT)
  (hpar:∀ p∈cs,∀ k i,i<p.length→cr (pt p i) (nx p i) k=true→SR (cs.map fun q=>fH (VZ (2*M) q) (ru M (pt p i) (nx p i) k))=sg (pt p i) (nx p i)):0≤mN (cs.map eU):=by
 have hN:0<2*M:=by omega
 have key:0≤M*mN (cs.map eU):=by
  have e:M*mN (cs.map eU)=cM n fun j=>val (cs.flatMap fun p=>nZ M p ((j:Int)-K)):=by
   rw[←AIS,List.map_map,gE (g:=fun j=>mN (cs.map fun p=>val (nZ M p ((j:Int)-K)))) fun j _=>AIW _ _,←V7 (fun p j=>val (nZ M p ((j:Int)-K)))]
   congr 1
   exact List.map_congr_left fun p hp=>HV (hM p hp) (hh p hp)
  rw[e]
  refine F3 fun j _=>?_
  generalize (j:Int)-K=k
  refine (EZ ?_ ?_ fun e he=>?_).1
  ·rw[AHZ]
   refine wD fun a ha=>?_
   obtain ⟨p,_,rfl⟩:=List.mem_map.1 ha
   exact mJ _ _ _
  ·rw[List.pairwise_flatMap]
   refine ⟨fun p hp=>kF (hS p hp) (hM p hp) k,hap.imp_of_mem fun {p q} hp hq h x hx y hy=>?_⟩
   obtain ⟨i,hi,c1,rfl⟩:=xN hx
   obtain ⟨j,hj,c2,rfl⟩:=xN hy
   have hs:=(I3 hM0 ((hM p hp).2 i) c1).seg
   exact VW hM0 ((hM p hp).2 i) ((hM q hq).2 j) c1 c2 (xM (fun hc=>h i j hi hj (ALJ hN hc)) hs hs)
  ·obtain ⟨p,hp,hep⟩:=List.mem_flatMap.1 he
   obtain ⟨i,hi,hc,rfl⟩:=xN hep
   rw[AFC]
   dsimp only
   rw[←hpar p hp k i hi hc]
   congr 1
   exact List.map_congr_left fun q hq=>Y2 (hM q hq)
 rcases Int.lt_or_le (mN (cs.map eU)) 0 with h'|h'
 ·have:=Int.mul_neg_of_pos_of_neg hM0 h';omega
 ·exact h'
theorem A75 {a b q:Pt} (h:hit a b q=true):q.1<max a.1 b.1:=by
 unfold hit at h
 simp only[Bool.or_eq_true,Bool.and_eq_true,decide_eq_true_eq] at h
 refine Classical.byContradiction fun hc=>?_
 have h1:0≤q.1-a.1:=by omega
 have h2:0≤q.1-b.1:=by omega
 rcases h with ⟨⟨x1,x2⟩,x3⟩|⟨⟨x1,x2⟩,x3⟩
 ·have y1:=Int.mul_nonneg h1 (show 0≤b.2-q.2 by omega)
  have y2:=Int.mul_nonneg h2 (show 0≤q.2-a.2 by omega)
  have e:aI a b q = -((q.1-a.1)*(b.2-q.2)+(q.1-b.1)*(q.2-a.2)):=by simp only[aI];grind
  omega
 ·have y1:=Int.mul_nonneg h1 (show 0≤q.2-b.2 by omega)
  have y2:=Int.mul_nonneg h2 (show 0≤a.2-q.2 by omega)
  have e:aI a b q=(q.1-a.1)*(q.2-b.2)+(q.1-b.1)*(a.2-q.2):=by simp only[aI];grind
  omega
theorem AIY {f:Nat→Bool}:∀ {n:Nat},fE n f=true→∃ i,i<n∧f i=true
 | 0,h=>by cases h
 | n+1,h=>by
  rw[fE] at h
  cases hf:f n with
  | true=>exact ⟨n,by omega,hf⟩
  | false =>
   rw[hf,Bool.xor_false] at h
   obtain ⟨i,hi,hx⟩:=AIY h
   exact ⟨i,by omega,hx⟩
theorem AYJ {p:List Pt} {q:Pt} (hp:0<p.length) (h:fH p q=true):∃ i,i<p.length∧q.1<(pt p i).1:=by
 obtain ⟨i,hi,hx⟩:=AIY h
 have:=A75 hx
 by_cases hc:q.1<(pt p i).1
 ·exact ⟨i,hi,hc⟩
 ·exact ⟨(i+1) % p.length,Nat.mod_lt _ hp,by show q.1<(nx p i).1;omega⟩
theorem Q8 {p:List Pt}:∀ n:Nat,0<n→∃ m,m<n∧∀ i,i<n→(pt p i).1≤(pt p m).1
 | 0,h=>by omega
 | 1,_=>⟨0,by omega,fun i hi=>by rw[show i=0 by omega];exact Int.le_refl _⟩
 | n+2,_=>by
  obtain ⟨m,hm,h⟩:=Q8 (p:=p) (n+1) (by omega)
  rcases Int.lt_or_le (pt p m).1 (pt p (n+1)).1 with hc|hc
  ·exact ⟨n+1,by omega,fun i hi=>by
    rcases Nat.lt_or_ge i (n+1) with h'|h'
    ·have:=h i h';omega
    ·rw[show i=n+1 by omega];exact Int.le_refl _⟩
  ·exact ⟨m,by omega,fun i hi=>by
    rcases Nat.lt_or_ge i (n+1) with h'|h'
    ·exact h i h'
    ·rw[show i=n+1 by omega];exact hc⟩
theorem AUT {o h:List Pt} (ho:0<o.length) (hh:0<h.length) (hin:∀ i,i<h.length→fH o (pt h i)=true) (hA:nT h o) (hne:∀ i,i<h.length→pt h i≠nx h i):∀ i,i<o.length→fH h (pt o i)=false:=by
 obtain ⟨m,hm,hmax⟩:=Q8 (p:=o) o.length ho
 have hlt:∀ i,i<h.length→(pt h i).1<(pt o m).1:=fun i hi=>by
  obtain ⟨j,hj,hx⟩:=AYJ ho (hin i hi)
  have:=hmax j hj
  omega
 have h0:fH h (pt o m)=false:=by
  rw[Bool.eq_false_iff]
  intro hc
  obtain ⟨i,hi,hx⟩:=AYJ hh hc
  have:=hlt i hi
  omega
 intro i hi
 rw[vE hA hne i hi,←vE hA hne m hm]
 exact h0
theorem AQL {α:Type} {f:α→Bool}:∀ {l:List α} {i:Nat} (hi:i<l.length),(∀ j (hj:j<l.length),j≠i→f l[j]=false)→SR (l.map f)=f l[i]
 | [],i,hi,_=>by simp at hi
 | a::l,0,hi,h=>by
  rw[List.map_cons,SR,wD,Bool.xor_false];rfl
  intro b hb
  obtain ⟨c,hc,rfl⟩:=List.mem_map.1 hb
  obtain ⟨j,hj,rfl⟩:=List.mem_iff_getElem.1 hc
  exact h (j+1) (by simpa using hj) (by omega)
 | a::l,i+1,hi,h=>by
  have h0:f a=false:=h 0 (by simp) (by omega)
  rw[List.map_cons,SR,h0,Bool.false_xor]
  exact AQL (by simpa using hi) fun j hj hne=>h (j+1) (by simpa using hj) (by omega)
theorem AN8 {o:List Pt} {hs:List (List Pt)} {M K:Int} {n:Nat} (hM0:0<M) (hS:∀ p∈o::hs,fN p) (hM:∀ p∈o::hs,PB M p) (hh:∀ p∈o::hs,yK K n p)
  (hao:0<eU o) (hah:∀ h∈hs,eU h<0) (hA:∀ h∈hs,nT h o) (hin:∀ h∈hs,∀ i,i<h.length→fH o (pt h i)=true)
  (hAA:∀ i j (hi:i<hs.length) (hj:j<hs.length),i≠j→nT hs[i] hs[j]∧fH hs[i] (pt hs[j] 0)=false):0≤mN ((o::hs).map eU):=by
 have hN:0<2*M:=by omega
 have So:=hS o (by simp)
 have Mo:=hM o (by simp)
 refine AXO hM0 hS hM hh ?_ ?_
 ·refine List.pairwise_cons.2 ⟨fun h hm=>(hA h hm).symm,List.pairwise_iff_getElem.2 fun i j hi hj hij=>(hAA i j hi hj (by omega)).1⟩
 ·intro p hp k i hi hc
  rcases List.mem_cons.1 hp with rfl|hp'
  ·
   obtain ⟨κ,h1,h2,h3⟩:=HW So Mo (hh _ (by simp))
   have hκ:κ=false:=by
    cases κ with
    | false=>rfl
    | true=>have:=h3 rfl;omega
   have:=h1 k i hi hc
   rw[hκ] at this
   rw[List.map_cons,SR,wD (l:=List.map _ hs),Bool.xor_false]
   ·exact lM this
   ·intro b hb
    obtain ⟨h,hm,rfl⟩:=List.mem_map.1 hb
    have Sh:=hS h (by simp[hm])
    have n3:=Sh.n3;have n3':=So.n3
    rw[CE (hA h hm) Mo hi hc,Z9 hN]
    exact AUT (by omega) (by omega) (hin h hm) (hA h hm) Sh.ne i hi
  ·obtain ⟨m,hm,rfl⟩:=List.mem_iff_getElem.1 hp'
   have Sp:=hS _ hp
   have Mp:=hM _ hp
   obtain ⟨κ,h1,h2,h3⟩:=HW Sp Mp (hh _ hp)
   have hneg:=hah _ hp'
   have hκ:κ=true:=by
    cases κ with
    | true=>rfl
    | false=>have:=h2 rfl;omega
   have hown:=h1 k i hi hc
   rw[hκ] at hown
   rw[List.map_cons,SR,CE (hA _ hp').symm Mp hi hc,Z9 hN,hin _ hp' i hi,AQL (f:=fun q=>fH (VZ (2*M) q) (ru M (pt hs[m] i) (nx hs[m] i) k)) hm fun j hj hne=>?_]
   ·revert hown
    cases fH (VZ (2*M) hs[m]) (ru M (pt hs[m] i) (nx hs[m] i) k)<;>cases sg (pt hs[m] i) (nx hs[m] i)<;>simp
   ·obtain ⟨a1,a2⟩:=hAA j m hj hm hne
    have Sj:=hS hs[j] (by simp)
    rw[CE a1 Mp hi hc,Z9 hN,vE a1 Sj.ne i hi,a2]
theorem yI {f:Nat→Int}:∀ {n:Nat},(∀ i,i<n→0≤f i)→∀ j,j<n→0<f j→0<cM n f
 | 0,_,j,hj,_=>by omega
 | n+1,h,j,hj,hp=>by
  have h0:=h n (by omega)
  unfold cM
  by_cases e:j=n
  ·subst e
   have:=F3 (n:=j) fun i hi=>h i (by omega)
   omega
  ·have:=yI (n:=n) (fun i hi=>h i (by omega)) j (by omega) hp
   omega
theorem A8Y {p:List Pt} (S:fN p):∃ i,i<p.length∧(pt p i).2≠(nx p i).2:=by
 refine Classical.byContradiction fun hc=>?_
 have hc:∀ i,i<p.length→(pt p i).2=(nx p i).2:=fun i hi=>Classical.byContradiction fun h=>hc ⟨i,hi,h⟩
 have n3:=S.n3
 have hne:∀ i,i<p.length→(pt p i).1≠(nx p i).1:=fun i hi h=>S.ne i hi (Prod.ext h (hc i hi))
 have st:∀ i,i<p.length→((pt p i).1<(nx p i).1↔(nx p i).1<(nG p i).1):=fun i hi=>by
  have hk:(i+1) % p.length<p.length:=Nat.mod_lt _ (by omega)
  have e1:=hc i hi
  have e2:=hc _ hk
  have x1:=hne i hi
  have x2:=hne _ hk
  rw[zB,show pt p ((i+1) % p.length)=nx p i from rfl] at e2 x2
  have hf:=S.nf i hi
  have z:aI (pt p i) (nx p i) (nG p i)=0:=by simp only[aI];rw[e1,←e2];grind
  have hd:¬ 0<kY (pt p i) (nx p i) (nG p i):=fun h=>hf ⟨z,h⟩
  have ed:kY (pt p i) (nx p i) (nG p i)=((pt p i).1-(nx p i).1)*((nG p i).1-(nx p i).1):=by simp only[kY];rw[e1,←e2];grind
  constructor
  ·intro h
   refine Classical.byContradiction fun h'=>hd ?_
   have:=Int.mul_pos (show 0<(nx p i).1-(pt p i).1 by omega) (show 0<(nx p i).1-(nG p i).1 by omega)
   have e:((nx p i).1-(pt p i).1)*((nx p i).1-(nG p i).1)=((pt p i).1-(nx p i).1)*((nG p i).1-(nx p i).1):=by grind
   omega
  ·intro h
   refine Classical.byContradiction fun h'=>hd ?_
   have:=Int.mul_pos (show 0<(pt p i).1-(nx p i).1 by omega) (show 0<(nG p i).1-(nx p i).1 by omega)
   omega
 have all:∀ i,i<p.length→((pt p 0).1<(nx p 0).1↔(pt p i).1<(nx p i).1):=fun i=>by
  induction i with
  | zero=>intro _;exact Iff.rfl
  | succ i ih =>
   intro hi
   have e:(i+1) % p.length=i+1:=Nat.mod_eq_of_lt hi
   have en:nx p i=pt p (i+1):=by unfold nx;rw[e]
   have en2:nG p i=nx p (i+1):=by rw[←zB,e]
   rw[ih (by omega),st i (by omega),en,en2]
 have sum0:cM p.length (fun i=>(nx p i).1)=cM p.length (fun i=>(pt p i).1):=AIT (fun i=>(pt p i).1) p.length
 by_cases h:(pt p 0).1<(nx p 0).1
 ·have:0<cM p.length (fun i=>(nx p i).1+(-1)*(pt p i).1):=yI (fun i hi=>by have:=(all i hi).1 h;omega) 0 (by omega) (by have:=(all 0 (by omega)).1 h;omega)
  rw[qA,qB,sum0] at this
  omega
 ·have:0<cM p.length (fun i=>(pt p i).1+(-1)*(nx p i).1):=yI (fun i hi=>by
   have h1:=(all i hi);have:=hne i hi
   have:¬ (pt p i).1<(nx p i).1:=fun h'=>h (h1.2 h')
   omega) 0 (by omega) (by have:=hne 0 (by omega);omega)
  rw[qA,qB,sum0] at this
  omega
theorem A1M {M:Int} {p:List Pt} (S:fN p) (hM:PB M p) {K:Int} {n:Nat} (hh:yK K n p):eU p≠0:=by
 obtain ⟨κ,hκ,_,_⟩:=HW S hM hh
 have har:=HV hM hh
 have key:∀ k e,e∈nZ M p k→(nH (sZ (nZ M p k) e.1) ^^ e.2)=κ:=fun k e he=>by
  obtain ⟨i,hi,hc,rfl⟩:=xN he
  dsimp only
  rw[Y2 hM]
  exact hκ k i hi hc
 obtain ⟨i,hi,hne⟩:=A8Y S
 obtain ⟨k,hk⟩:∃ k,k=min (pt p i).2 (nx p i).2:=⟨_,rfl⟩
 have hc:cr (pt p i) (nx p i) k=true:=by
  unfold cr
  simp only[Bool.or_eq_true,Bool.and_eq_true,decide_eq_true_eq]
  omega
 have hmem:(rx M (pt p i) (nx p i) k,sg (pt p i) (nx p i))∈nZ M p k:=by
  unfold nZ
  exact List.mem_map.2 ⟨i,List.mem_filter.2 ⟨List.mem_range.2 hi,hc⟩,rfl⟩
 have hnil:nZ M p k≠[]:=fun h=>by rw[h] at hmem;cases hmem
 have b1:=hh i
 have b2:=hh ((i+1) % p.length)
 have b2:-K≤(nx p i).2∧(nx p i).2≤(n:Int)-K:=b2
 obtain ⟨j,hj⟩:∃ j:Nat,(j:Int)=k+K:=⟨(k+K).toNat,by omega⟩
 have hjn:j<n:=by omega
 have hjk:(j:Int)-K=k:=by omega
 intro h0
 rw[h0,Int.mul_zero] at har
 cases κ with
 | false =>
  have:=yI (f:=fun j=>val (nZ M p ((j:Int)-K))) (n:=n) (fun j _=>(EZ (mJ _ _ _) (kF S hM _) fun e he=>lM (key _ e he)).1) j hjn (by
   rw[hjk]
   exact (EZ (mJ _ _ _) (kF S hM _) fun e he=>lM (key _ e he)).2 hnil)
  omega
 | true =>
  have:=yI (f:=fun j=>(-1)*val (nZ M p ((j:Int)-K))) (n:=n) (fun j _=>by
   have:=(RT (mJ M p ((j:Int)-K)) (kF S hM _) fun e he=>key _ e he).1
   omega) j hjn (by
   rw[hjk]
   have:=(RT (mJ M p k) (kF S hM _) fun e he=>key _ e he).2 hnil
   omega)
  rw[qB] at this
  omega
theorem VI:∃ (M K:Int) (n:Nat),0<M∧∀ p:List Pt,(∀ i,bS (pt p i))→PB M p∧yK K n p:=by
 obtain ⟨B,hB⟩:∃ B:Nat,B=65536:=⟨_,rfl⟩
 refine ⟨(fac B:Int),32768,65536,by have:=Y7 B;omega,fun p hp=>⟨⟨by have:=Y7 B;omega,fun i hne=>?_⟩,fun i=>?_⟩⟩
 ·have h1:=hp i
  have h2:bS (nx p i):=hp _
  unfold bS at h1 h2
  refine Int.ediv_mul_cancel ?_
  have hd:((nx p i).2-(pt p i).2).natAbs ∣ fac B:=APF (by omega) (by omega)
  exact Int.natAbs_dvd.1 (Int.natCast_dvd_natCast.2 hd)
 ·have h1:=hp i
  unfold bS at h1
  omega
theorem AIN {p:List Pt} (S:fN p) (hp:∀ i,bS (pt p i)):eU p≠0:=by
 obtain ⟨M,K,n,h0,h⟩:=VI
 exact A1M S (h p hp).1 (h p hp).2
theorem A0H {o:List Pt} {hs:List (List Pt)} (hS:∀ p∈o::hs,fN p) (hN:∀ p∈o::hs,∀ i,bS (pt p i))
  (hao:0<eU o) (hah:∀ h∈hs,eU h<0) (hA:∀ h∈hs,nT h o) (hin:∀ h∈hs,∀ i,i<h.length→fH o (pt h i)=true)
  (hAA:∀ i j (hi:i<hs.length) (hj:j<hs.length),i≠j→nT hs[i] hs[j]∧fH hs[i] (pt hs[j] 0)=false):0≤mN ((o::hs).map eU):=by
 obtain ⟨M,K,n,h0,h⟩:=VI
 exact AN8 h0 hS (fun p hp=>(h p (hN p hp)).1) (fun p hp=>(h p (hN p hp)).2) hao hah hA hin hAA
end Go.Pv.Geo
namespace Go.Pv
open Go Go.Proofs Go.Pv.Geo
theorem nM {p:List Pt} (h:oA p=true) {i:Nat} (hi:i<p.length):pt p i≠nx p i∧¬ (aI (pt p i) (nx p i) (nG p i)=0∧0<kY (pt p i) (nx p i) (nG p i))∧∀ k,k<p.length→i+2≤k→q9 p i k=true:=by
 have h:=cE.1 h i hi
 unfold EL at h
 simp only[Bool.and_eq_true,Bool.not_eq_true',decide_eq_false_iff_not] at h
 obtain ⟨h1,h2,h3⟩:=h
 refine ⟨h1,fun ⟨a,b⟩=>?_,fun k hk hik=>?_⟩
 ·rw[decide_eq_true a,decide_eq_true b] at h2;cases h2
 ·have:=cE.1 h3 k hk
  rw[decide_eq_false (by omega),Bool.false_or] at this
  exact this
theorem AH8 {p:List Pt} {i k:Nat} (h:q9 p i k=true) (hne:(k+1) % p.length≠i):bO (pt p i) (nx p i) (pt p k) (nx p k)=false:=by
 unfold q9 at h
 rw[decide_eq_false hne] at h
 simpa using h
theorem V2 {p:List Pt} (h:oA p=true) (h3:3≤p.length):fN p:=by
 refine ⟨h3,fun i hi=>(nM h hi).1,fun i hi=>(nM h hi).2.1,fun i k hi hk h1 h2 h4 hc=>?_⟩
 have hm:=KZ (nM h hi).1 (nM h hk).1 hc
 rcases Nat.lt_or_ge i k with hl|hl
 ·have:i+2≤k:=by
   rcases Nat.lt_or_ge (i+1) k with h5|h5
   ·omega
   ·have e:k=i+1:=by omega
    rw[Nat.mod_eq_of_lt (by omega)] at h2
    exact absurd e h2
  rw[AH8 ((nM h hi).2.2 k hk this) (fun e=>h4 e.symm)] at hm
  cases hm
 ·have:k+2≤i:=by
   rcases Nat.lt_or_ge (k+1) i with h5|h5
   ·omega
   ·rcases Nat.lt_or_ge k i with h6|h6
    ·have e:i=k+1:=by omega
     rw[Nat.mod_eq_of_lt (by omega)] at h4
     exact absurd e h4
    ·omega
  rw[mF,AH8 ((nM h hk).2.2 i hi this) (fun e=>h2 e.symm)] at hm
  cases hm
theorem AU2 {p:List Pt} (h:oA p=true) (h3:3≤p.length) (hn:gM p):eU p≠0:=AIN (V2 h h3) hn.pt
theorem uV {p q:List Pt} (h:eA p q=false) {i k:Nat} (hi:i<p.length) (hk:k<q.length):bO (pt p i) (nx p i) (pt q k) (nx q k)=false:=by
 rw[Bool.eq_false_iff]
 intro hm
 rw[show eA p q=true from dZ.2 ⟨i,hi,dZ.2 ⟨k,hk,hm⟩⟩] at h
 cases h
theorem PF {p q:List Pt} (hp:oA p=true) (hq:oA q=true) (h:eA p q=false):nT p q:=fun i j hi hj hc=>by
 have hm:=KZ (nM hp hi).1 (nM hq hj).1 hc
 rw[uV h hi hj] at hm
 cases hm
theorem zE {h o:List Pt} (he:eA h o=false) {i:Nat} (hi:i<h.length):EM o (pt h i)=false:=B2 fun k hk=>by
 have:=uV he hi hk
 exact (pO this).2.2.1
theorem F5 {o:List Pt} {q:Pt} (hq:bS q) (ho:dB o=0) (hn:EM o q=false):cN o q=if fH o q=true then 1 else -1:=by
 unfold cN
 rw[if_neg,hn,if_neg (by simp)]
 rintro (h|h)
 ·exact h hq
 ·exact h ho
theorem QX {h o:List Pt} (he:eA h o=false):∀ i,i<h.length→fH o (pt h i)=fH o (pt h 0)
 | 0,_=>rfl
 | i+1,hi=>by
  rw[←QX he i (by omega)]
  have e:pt h (i+1)=nx h i:=by unfold nx;rw[Nat.mod_eq_of_lt hi]
  rw[e]
  symm
  refine CD fun k hk=>?_
  rw[mF]
  exact uV he (by omega) hk
theorem ABG {h o:List Pt} (hn:gM h) (ho:dB o=0) (h0:0<h.length):gB h o=(!eA h o&&decide (cN o (pt h 0)=1)):=by
 unfold gB
 cases he:eA h o with
 | true=>rfl
 | false =>
  rw[Bool.not_false,Bool.true_and,Bool.true_and,Bool.eq_iff_iff]
  have w:∀ i,i<h.length→(cN o (pt h i)=1↔fH o (pt h 0)=true):=fun i hi=>by
   rw[F5 (hn.pt i) ho (zE he hi),QX he i hi]
   cases fH o (pt h 0)<;>simp
  constructor
  ·intro ha
   rw[List.all_eq_true] at ha
   have:=ha _ (List.getElem_mem h0)
   rw[vN h0];exact this
  ·intro ha
   rw[List.all_eq_true]
   intro c hc
   obtain ⟨i,hi,rfl⟩:=List.mem_iff_getElem.1 hc
   rw[←vN hi]
   exact decide_eq_true ((w i hi).2 ((w 0 h0).1 (of_decide_eq_true ha)))
theorem A0P (l:List (List Pt)) (f:List Pt→Int):Geo.mN (l.map f)=cM l.length fun i=>f (l.getD i []):=by
 induction l with
 | nil=>rfl
 | cons a l ih =>
  rw[List.map_cons,Geo.mN,ih,List.length_cons,DC]
  rfl
theorem uA {s:eL} {i:Nat} (hi:i<s.2.length) (h:lP s i=0):dB s.2[i]=0∧gF s.2[i]<0∧gB s.2[i] s.1=true∧∀ k (hk:k<i),fP s.2[i] (s.2[k]'(by omega))=true:=by
 have hg:s.2.getD i []=s.2[i]:=gK hi
 unfold lP at h
 rw[hg] at h
 by_cases h1:dB s.2[i]=0
 ·rw[if_neg (by simpa using h1)] at h
  by_cases h2:0≤gF s.2[i]∨gB s.2[i] s.1=false
  ·rw[if_pos h2] at h;cases h
  rw[if_neg h2] at h
  refine ⟨h1,?_,?_,fun k hk=>?_⟩
  ·rcases Int.lt_or_le (gF s.2[i]) 0 with h3|h3
   ·exact h3
   ·exact absurd (.inl h3) h2
  ·cases h3:gB s.2[i] s.1 with
   | true=>rfl
   | false=>exact absurd (.inr h3) h2
  ·by_cases h3:((List.range i).all fun k=>fP s.2[i] (s.2.getD k []))=false
   ·rw[if_pos h3] at h;cases h
   have h3:((List.range i).all fun k=>fP s.2[i] (s.2.getD k []))=true:=by simpa using h3
   have:=cE.1 h3 k hk
   rwa[gK (by omega)] at this
 ·rw[if_pos (by simpa using h1)] at h
  exact absurd h h1
theorem AQA {s:eL} (h:gI s=0):s.2.length≤8∧dB s.1=0∧0<gF s.1∧∀ i,i<s.2.length→lP s i=0:=by
 unfold gI at h
 by_cases h1:8<s.2.length
 ·rw[if_pos h1] at h;cases h
 rw[if_neg h1] at h
 by_cases h2:dB s.1=0
 ·rw[if_neg (by simpa using h2)] at h
  by_cases h3:gF s.1≤0
  ·rw[if_pos h3] at h;cases h
  rw[if_neg h3] at h
  exact ⟨by omega,h2,by omega,fun i hi=>w4 h i (List.mem_range.2 hi)⟩
 ·rw[if_pos (by simpa using h2)] at h
  exact absurd h h2
theorem PG {p:List Pt} (h:dB p=0):gF p=eU p:=by unfold gF;rw[if_pos h]
theorem A3M (s:eL):0≤pW s:=by
 unfold pW
 by_cases h:gI s=0
 ·rw[if_pos h]
  obtain ⟨h8,ho,hao,hh⟩:=AQA h
  have hp:∀ p∈s.1::s.2,dB p=0:=fun p hp=>by
   rcases List.mem_cons.1 hp with rfl|hp
   ·exact ho
   ·obtain ⟨i,hi,rfl⟩:=List.mem_iff_getElem.1 hp
    exact (uA hi (hh i hi)).1
  have e:AVB (s.1::s.2)=Geo.mN ((s.1::s.2).map eU):=by
   rw[A0P]
   unfold AVB
   refine gE fun i hi=>?_
   rw[gK hi]
   exact PG (hp _ (List.getElem_mem hi))
  rw[e]
  have hsi:∀ p∈s.1::s.2,oA p=true:=fun p hm=>(dR (hp p hm)).2.2.2.1
  refine A0H (fun p hm=>V2 (hsi p hm) (dR (hp p hm)).1) (fun p hm=>(dR (hp p hm)).2.2.1.pt) (by rw[←PG ho];exact hao) ?_ ?_ ?_ ?_
  ·intro c hm
   obtain ⟨i,hi,rfl⟩:=List.mem_iff_getElem.1 hm
   have:=uA hi (hh i hi)
   rw[←PG this.1];exact this.2.1
  ·intro c hm
   obtain ⟨i,hi,rfl⟩:=List.mem_iff_getElem.1 hm
   have hw:=(uA hi (hh i hi)).2.2.1
   refine PF (hsi _ (by simp)) (hsi _ (by simp)) ?_
   unfold gB at hw
   simp only[Bool.and_eq_true,Bool.not_eq_true'] at hw
   exact hw.1
  ·intro c hm j hj
   obtain ⟨i,hi,rfl⟩:=List.mem_iff_getElem.1 hm
   have hq:=uA hi (hh i hi)
   have hw:=hq.2.2.1
   have hnear:=(dR hq.1).2.2.1
   unfold gB at hw
   simp only[Bool.and_eq_true,Bool.not_eq_true',List.all_eq_true] at hw
   have h1:=of_decide_eq_true (hw.2 _ (List.getElem_mem hj))
   rw[←vN hj,F5 (hnear.pt j) ho (zE hw.1 hj)] at h1
   refine Classical.byContradiction fun hc=>?_
   rw[if_neg hc] at h1
   cases h1
  ·have key:∀ i j (hi:i<s.2.length) (hj:j<s.2.length),j<i→eA s.2[i] s.2[j]=false∧fH s.2[i] (pt s.2[j] 0)=false∧fH s.2[j] (pt s.2[i] 0)=false:=fun i j hi hj hij=>by
    have hq:=uA hi (hh i hi)
    have hq':=uA hj (hh j hj)
    have ha:=hq.2.2.2 j hij
    have hn:=(dR hq.1).2.2.1
    have hn':=(dR hq'.1).2.2.1
    have l1:=(dR hq.1).1
    have l2:=(dR hq'.1).1
    unfold fP at ha
    simp only[Bool.and_eq_true,Bool.not_eq_true',decide_eq_true_eq] at ha
    obtain ⟨e1,e2,e3⟩:=ha
    have e1':eA s.2[j] s.2[i]=false:=by
     rw[Bool.eq_false_iff]
     intro hc
     obtain ⟨a,ha,hb⟩:=dZ.1 hc
     obtain ⟨b,hb1,hb2⟩:=dZ.1 hb
     rw[mF,uV e1 hb1 ha] at hb2
     cases hb2
    rw[F5 (hn'.pt 0) hq.1 (zE e1' (by omega))] at e2
    rw[F5 (hn.pt 0) hq'.1 (zE e1 (by omega))] at e3
    refine ⟨e1,?_,?_⟩
    ·rw[Bool.eq_false_iff];intro hc;rw[if_pos hc] at e2;omega
    ·rw[Bool.eq_false_iff];intro hc;rw[if_pos hc] at e3;omega
   intro i j hi hj hij
   rcases Nat.lt_or_ge i j with hl|hl
   ·obtain ⟨k1,k2,k3⟩:=key j i hj hi hl
    exact ⟨(PF (hsi _ (by simp)) (hsi _ (by simp)) k1).symm,k3⟩
   ·obtain ⟨k1,k2,k3⟩:=key i j hi hj (by omega)
    exact ⟨PF (hsi _ (by simp)) (hsi _ (by simp)) k1,k2⟩
 ·rw[if_neg h];exact Int.le_refl 0
end Go.Pv
namespace Go.Pv
open Go Go.Proofs
noncomputable def AI6:Env:=Env.of [(164,.pure dG)]
def AWR:FuncId→Hint:=fun _=>aT
theorem AVV:aE Tryz.prog AI6:=aE.cons (x:=.pure dG) IC (aE.nil _)
def AKS (a0:aJ) (a1:aJ) (a2:aJ) (R:T→Prop):Prop :=
 aG [(false,Sy.int IntKind.i64)]
 (dG [aC true aA a1,aC true aA a2,aC true aA a0])
 fun (y0:Int) =>
 aB (decide (y0=0))
 (aB (decide ((if a2.1<a1.1 then a2.1 else a1.1)≤a0.1))
 (aB (decide (a0.1≤if a1.1<a2.1 then a2.1 else a1.1))
 (aB (decide ((if a2.2<a1.2 then a2.2 else a1.2)≤a0.2))
 (R (T.v (.bool (decide (a0.2≤if a1.2<a2.2 then a2.2 else a1.2)))))
 (R (T.v (.bool false))))
 (R (T.v (.bool false))))
 (R (T.v (.bool false))))
 (R (T.v (.bool false)))
theorem ARE ( a0 a1 a2 R):bA aW Tryz.prog AI6 AWR 8 163 [aC true aA a0,aC true aA a1,aC true aA a2] R=AKS a0 a1 a2 R:=by kernel_rfl
abbrev AAW:Sh:=[(true,aA),(true,aA),(true,aA)]
def AA5 (x:aJ×aJ×aJ):Option T:=xP x.2.1 x.2.2 x.1 (T.v (.bool (iP x.2.1 x.2.2 x.1)))
noncomputable def iW:List T→Option (T):=gS AAW AA5
theorem AS7 {a0 a1 a2}:iW [aC true aA a0,aC true aA a1,aC true aA a2]=AA5 (a0,a1,a2):=a6 (s:=AAW) rfl (a0,a1,a2) rfl
theorem A21 (h:∀ a0 a1 a2 r,AA5 (a0,a1,a2)=some r→bY AAW (a0,a1,a2)→AKS a0 a1 a2 (fun y=>y=r)):aK Tryz.prog 163 iW :=
 aP (E:=AI6) (Hs:=AWR) AVV aU aV (aL rfl) 8 ⟨_,_,Tryz.func163,rfl⟩ rfl fun x r h1 h2=>by
  obtain ⟨a0,a1,a2⟩:=x
  rw[show Sh.bK AAW (a0,a1,a2)=[aC true aA a0,aC true aA a1,aC true aA a2] from rfl,ARE]
  exact h a0 a1 a2 r h1 h2
theorem ZC:aK Tryz.prog 163 iW:=A21 fun c a b r h hb=>by
 obtain ⟨h1,h2,h3,rfl⟩:=pP h
 unfold AKS
 refine aD (s:=[(false,.int .i64)]) (kM h1 h2 h3) ?_
 refine bJ (fun h=>?_) fun h=>cL (by unfold iP;rw[decide_eq_false h];rfl)
 rw[xO,xO,xL,xL]
 have w:iP a b c=LM a b c:=by unfold iP;rw[decide_eq_true h];rfl
 show aB _ _ _
 rw[show (iP (c,a,b).2.1 (c,a,b).2.2 (c,a,b).1)=LM a b c from w]
 clear h w
 refine bJ (fun h1=>bJ (fun h2=>bJ (fun h3=>cL ?_) fun h3=>cL ?_) fun h2=>cL ?_) fun h1=>cL ?_
 all_goals simp[LM,h1]
 all_goals simp[h2]
 all_goals simp[h3]
theorem mA {c a b:Pt} (h1:bS a) (h2:bS b) (h3:bS c):iW [aC true aA c,aC true aA a,aC true aA b]=some (Sh.enc [(false,.bool)] (iP a b c)):=(AS7 ..).trans (pQ _ h1 h2 h3)
noncomputable def M1:Env:=Env.of [(164,.pure dG),(163,.pure iW),(187,.pure jZ)]
def AD2:FuncId→Hint:=fun _=>aT
theorem AJQ:aE Tryz.prog M1:=aE.cons (x:=.pure dG) IC (aE.cons (x:=.pure iW) ZC (aE.cons (x:=.pure jZ) ASY (aE.nil _)))
def OB (a0:aJ) (a1:aJ) (a2:aJ) (a3:aJ) (R:T→Prop):Prop :=
 aG [(false,Sy.bool)]
 (iW [aC true aA a0,aC true aA a2,aC true aA a3])
 fun (y0:Bool) =>
 aB y0 (R (T.v (.bool true)))
 (aG [(false,Sy.bool)]
 (iW [aC true aA a1,aC true aA a2,aC true aA a3])
 fun (y1:Bool) =>
 aB y1 (R (T.v (.bool true)))
 (aG [(false,Sy.bool)]
 (iW
 [aC true aA a2,aC true aA a0,aC true aA a1])
 fun (y2:Bool) =>
 aB y2 (R (T.v (.bool true)))
 (aG [(false,Sy.bool)]
 (iW
 [aC true aA a3,aC true aA a0,aC true aA a1])
 fun (y3:Bool) =>
 aB y3 (R (T.v (.bool true)))
 (aG [(false,Sy.int IntKind.i64)]
 (dG
 [aC true aA a0,aC true aA a1,aC true aA a2])
 fun (y4:Int) =>
 aG [(false,Sy.int IntKind.i64)]
 (jZ [T.v (.int .i64 y4)]) fun (y5:Int) =>
 aG [(false,Sy.int IntKind.i64)]
 (dG
 [aC true aA a0,aC true aA a1,
 aC true aA a3])
 fun (y6:Int) =>
 aG [(false,Sy.int IntKind.i64)]
 (jZ [T.v (.int .i64 y6)]) fun (y7:Int) =>
 aB (decide (IntKind.i64.wrap (y5*y7)<0))
 (aG [(false,Sy.int IntKind.i64)]
 (dG
 [aC true aA a2,aC true aA a3,
 aC true aA a0])
 fun (y8:Int) =>
 aG [(false,Sy.int IntKind.i64)]
 (jZ [T.v (.int .i64 y8)]) fun (y9:Int) =>
 aG [(false,Sy.int IntKind.i64)]
 (dG
 [aC true aA a2,aC true aA a3,
 aC true aA a1])
 fun (y10:Int) =>
 aG [(false,Sy.int IntKind.i64)]
 (jZ [T.v (.int .i64 y10)]) fun (y11:Int) =>
 R (T.v (.bool (decide (IntKind.i64.wrap (y9*y11)<0)))))
 (R (T.v (.bool false)))))))
theorem ACU ( a0 a1 a2 a3 R):bA aW Tryz.prog M1 AD2 8 177 [aC true aA a0,aC true aA a1,aC true aA a2,
 aC true aA a3] R=OB a0 a1 a2 a3 R:=by kernel_rfl
abbrev FC:Sh:=[(true,aA),(true,aA),(true,aA),(true,aA)]
def JI (x:aJ×aJ×aJ×aJ):Option T:=K2 x.1 x.2.1 x.2.2.1 x.2.2.2 (T.v (.bool (bO x.1 x.2.1 x.2.2.1 x.2.2.2)))
noncomputable def pJ:List T→Option (T):=gS FC JI
theorem AGK {a0 a1 a2 a3}:pJ [aC true aA a0,aC true aA a1,aC true aA a2,
 aC true aA a3]=JI (a0,a1,a2,a3):=a6 (s:=FC) rfl (a0,a1,a2,a3) rfl
theorem AT1 (h:∀ a0 a1 a2 a3 r,JI (a0,a1,a2,a3)=some r→bY FC (a0,a1,a2,a3)→OB a0 a1 a2 a3 (fun y=>y=r)):aK Tryz.prog 177 pJ :=
 aP (E:=M1) (Hs:=AD2) AJQ aU aV (aL rfl) 8 ⟨_,_,Tryz.func177,rfl⟩ rfl fun x r h1 h2=>by
  obtain ⟨a0,a1,a2,a3⟩:=x
  rw[show Sh.bK FC (a0,a1,a2,a3)=[aC true aA a0,aC true aA a1,aC true aA a2,
 aC true aA a3] from rfl,ACU]
  exact h a0 a1 a2 a3 r h1 h2
theorem ASN:aK Tryz.prog 177 pJ:=AT1 fun a b c d r h hb=>by
 obtain ⟨h1,h2,h3,h4,rfl⟩:=EJ h
 unfold OB
 refine aD (s:=[(false,.bool)]) (mA h3 h4 h1) ?_
 refine tA (fun h=>cL (by unfold bO;rw[h];simp)) fun k1=>?_
 refine aD (s:=[(false,.bool)]) (mA h3 h4 h2) ?_
 refine tA (fun h=>cL (by unfold bO;rw[h];simp)) fun k2=>?_
 refine aD (s:=[(false,.bool)]) (mA h1 h2 h3) ?_
 refine tA (fun h=>cL (by unfold bO;rw[h];simp)) fun k3=>?_
 refine aD (s:=[(false,.bool)]) (mA h1 h2 h4) ?_
 refine tA (fun h=>cL (by unfold bO;rw[h];simp)) fun k4=>?_
 refine aD (s:=[(false,.int .i64)]) (kM h1 h2 h3) ?_
 refine aD (s:=[(false,.int .i64)]) (rS _) ?_
 refine aD (s:=[(false,.int .i64)]) (kM h1 h2 h4) ?_
 refine aD (s:=[(false,.int .i64)]) (rS _) ?_
 rw[nR]
 refine bJ (fun h=>?_) fun h=>cL (by unfold bO;rw[k1,k2,k3,k4,decide_eq_false h];rfl)
 refine aD (s:=[(false,.int .i64)]) (kM h3 h4 h1) ?_
 refine aD (s:=[(false,.int .i64)]) (rS _) ?_
 refine aD (s:=[(false,.int .i64)]) (kM h3 h4 h2) ?_
 refine aD (s:=[(false,.int .i64)]) (rS _) ?_
 rw[nR]
 exact cL (by unfold bO;rw[k1,k2,k3,k4,decide_eq_true h];rfl)
theorem AGL {a b c d:Pt} (h1:bS a) (h2:bS b) (h3:bS c) (h4:bS d):pJ [aC true aA a,aC true aA b,aC true aA c,aC true aA d]=some (Sh.enc [(false,.bool)] (bO a b c d)):=(AGK ..).trans (EK _ h1 h2 h3 h4)
noncomputable def GG:Env:=Env.of []
def T0:FuncId→Hint:=fun _=>aT
theorem ABU:aE Tryz.prog GG:=aE.nil _
def G9 (a0:aJ) (R:T→Prop):Prop :=
 aB (decide (-32768≤a0.1))
 (aB (decide (a0.1≤32768))
 (aB (decide (-32768≤a0.2)) (R (T.v (.bool (decide (a0.2≤32768)))))
 (R (T.v (.bool false))))
 (R (T.v (.bool false))))
 (R (T.v (.bool false)))
theorem XO ( a0 R):bA aW Tryz.prog GG T0 8 162 [aC true aA a0] R=G9 a0 R:=by kernel_rfl
abbrev zQ:Sh:=[(true,aA)]
def CV (q:aJ):Option T:=some (T.v (.bool (decide (bS q))))
noncomputable def jJ:List T→Option (T):=gS zQ CV
theorem D4 {a0}:jJ [aC true aA a0]=CV (a0):=a6 (s:=zQ) rfl (a0) rfl
theorem ANI (h:∀ a0 r,CV (a0)=some r→bY zQ (a0)→G9 a0 (fun y=>y=r)):aK Tryz.prog 162 jJ :=
 aP (E:=GG) (Hs:=T0) ABU aU aV (aL rfl) 8 ⟨_,_,Tryz.func162,rfl⟩ rfl fun x r h1 h2=>by
  let a0:=x
  rw[show Sh.bK zQ (a0)=[aC true aA a0] from rfl,XO]
  exact h a0 r h1 h2
theorem QG:aK Tryz.prog 162 jJ:=ANI fun q r h hb=>by
 cases h
 unfold G9
 have no:¬ bS q→false=decide (bS q):=fun h=>by rw[decide_eq_false h]
 refine bJ (fun h1=>bJ (fun h2=>bJ (fun h3=>cL ?_) fun h=>cL (no (by unfold bS;omega))) fun h=>cL (no (by unfold bS;omega))) fun h=>cL (no (by unfold bS;omega))
 by_cases h:bS q
 ·rw[decide_eq_true h]
  unfold bS at h
  exact decide_eq_true (by omega)
 ·rw[decide_eq_false h]
  unfold bS at h
  exact decide_eq_false (by omega)
noncomputable def GF:Env:=Env.of [(162,.pure jJ)]
def TZ:FuncId→Hint:=fun f=>match f == 159 with|true=>⟨fun r=>match r == 2 with|true=>.inv [.val 3 false (.int .i64)]|false=>.none,fun _ _=>none,fun _=>none⟩|false=>aT
theorem ABT:aE Tryz.prog GF:=aE.cons (x:=.pure jJ) QG (aE.nil _)
def G8 (a0:List aJ) (R:T→Prop):Prop :=
 a7 (Int×PUnit)
 (fun (X0:Int×PUnit→Prop) (s1:Int×PUnit) =>
 aB (decide (s1.1<(↑(List.map aA.enc a0).length:Int)))
 (aO aA (List.map aA.enc a0) s1.1 fun (y2:aJ) =>
 aG [(false,Sy.bool)] (jJ [aC true aA y2]) fun (y3:Bool) =>
 aB (!y3) (R (T.v (.bool false))) (X0 (IntKind.i64.wrap (s1.1+1),())))
 (R (T.v (.bool true))))
 (0,())
theorem XN ( a0 R):bA aW Tryz.prog GF TZ 8 159 [aC false aA.li a0] R=G8 a0 R:=by kernel_rfl
abbrev zP:Sh:=[(false,aA.li)]
def CU (p:List aJ):Option T:=some (T.v (.bool (A6 p)))
noncomputable def oN:List T→Option (T):=gS zP CU
theorem ZM {a0}:oN [T.sl false (List.map aA.enc a0)]=CU (a0):=a6 (s:=zP) rfl (a0) rfl
theorem ANH (h:∀ a0 r,CU (a0)=some r→bY zP (a0)→G8 a0 (fun y=>y=r)):aK Tryz.prog 159 oN :=
 aP (E:=GF) (Hs:=TZ) ABT aU aV (aL rfl) 8 ⟨_,_,Tryz.func159,rfl⟩ rfl fun x r h1 h2=>by
  let a0:=x
  rw[show Sh.bK zP (a0)=[aC false aA.li a0] from rfl,XN]
  exact h a0 r h1 h2
theorem ALX:aK Tryz.prog 159 oN:=ANH fun p r h hb=>by
 cases h
 have hl:p.length≤140737488355328:=hb.1
 unfold G8
 refine aY p.length (fun k s=>s=((k:Int),())∧∀ i,i<k→i<p.length→bS (pt p i)) ⟨rfl,fun i h=>by omega⟩ ?_
 rintro X k s hk ⟨rfl,hJ⟩ hX
 dsimp only
 refine bJ (fun hlt=>?_) fun hge=>?_
 ·rw[List.length_map] at hlt
  have hlt:k<p.length:=by omega
  rw[bR hlt]
  refine aD (s:=[(false,.bool)]) (y:=decide (bS (pt p k))) (D4 ..) ?_
  refine gT (fun hf=>cL ?_) fun hn=>hX _ hlt ⟨by rw[show IntKind.i64.wrap ((k:Int)+1)=((k+1:Nat):Int) from aQ _ (by omega) (by omega)],fun i h1 h2=>by
   rcases Nat.lt_or_ge i k with h3|h3
   ·exact hJ i h3 h2
   ·have:i=k:=by omega
    subst this;exact hn⟩
  symm
  rw[Bool.eq_false_iff];intro h
  have:=iK.1 h _ (List.getElem_mem hlt)
  rw[←vN hlt] at this
  exact hf this
 ·rw[List.length_map] at hge
  refine cL (Eq.symm (iK.2 fun q hq=>?_))
  obtain ⟨i,hi,rfl⟩:=List.mem_iff_getElem.1 hq
  rw[←vN hi]
  exact hJ i (by omega) hi
def sS (p:List Pt) (i:Nat):Bool:=!iP (nx p i) (nG p i) (pt p i)&&(!iP (pt p i) (nx p i) (nG p i)&&(List.range p.length).all fun k=>decide (k<i+2)||q9 p i k)
def AXE (p:List Pt):Bool:=(List.range p.length).all fun i=>(List.range i).all fun k=>!decide (pt p i=pt p k)
def pZ (p:List Pt):Bool:=AXE p&&(List.range p.length).all (sS p)
theorem A7R {u1 v1 u2 v2:Int} (h:u1*v2=u2*v1) (h0:0<u1) (h1:u1≤v1):(0≤u2∧u2≤v2)∨(v2≤u2∧u2≤0):=by
 have key:∀ {u2 v2:Int},u1*v2=u2*v1→0≤v2→0≤u2∧u2≤v2:=fun {u2 v2} h hv=>by
  have n1:0≤u1*v2:=Int.mul_nonneg (by omega) hv
  refine ⟨?_,?_⟩
  ·rcases Int.lt_or_le u2 0 with hc|hc
   ·have:=Int.mul_neg_of_neg_of_pos hc (show 0<v1 by omega);omega
   ·exact hc
  ·rcases Int.lt_or_le v2 u2 with hc|hc
   ·have a1:=Int.mul_lt_mul_of_pos_right hc (show 0<v1 by omega)
    have a2:=Int.mul_le_mul_of_nonneg_right h1 hv
    rw[Int.mul_comm v1 v2] at a2;omega
   ·exact hc
 rcases Int.le_total 0 v2 with hv|hv
 ·exact .inl (key h hv)
 ·have:=key (u2:=-u2) (v2:=-v2) (by rw[Int.mul_neg,Int.neg_mul,h]) (by omega)
  exact .inr ⟨by omega,by omega⟩
def On0 (u1 u2 v1 v2:Int):Prop:=((0≤u1∧u1≤v1)∨(v1≤u1∧u1≤0))∧((0≤u2∧u2≤v2)∨(v2≤u2∧u2≤0))
theorem AZZ {u1 u2 v1 v2:Int} (h:u1*v2=u2*v1) (hp:0<u1*v1):On0 u1 u2 v1 v2∨On0 v1 v2 u1 u2:=by
 have pos:∀ {u1 u2 v1 v2:Int},u1*v2=u2*v1→0<u1→0<v1→On0 u1 u2 v1 v2∨On0 v1 v2 u1 u2:=fun {u1 u2 v1 v2} h hu hv=>by
  rcases Int.le_total u1 v1 with hc|hc
  ·exact .inl ⟨.inl ⟨by omega,hc⟩,A7R h hu hc⟩
  ·exact .inr ⟨.inl ⟨by omega,hc⟩,A7R (by rw[Int.mul_comm v1,Int.mul_comm v2];exact h.symm) hv hc⟩
 rcases Int.lt_trichotomy u1 0 with hu|hu|hu
 ·have hv:v1<0:=by
   rcases Int.lt_or_le v1 0 with hc|hc
   ·exact hc
   ·have:=Int.mul_nonneg (show 0≤-u1 by omega) hc;rw[Int.neg_mul] at this;omega
  have:=pos (u1:=-u1) (u2:=-u2) (v1:=-v1) (v2:=-v2) (by rw[Int.neg_mul_neg,Int.neg_mul_neg,h]) (by omega) (by omega)
  unfold On0 at this ⊢
  omega
 ·subst hu;simp at hp
 ·have hv:0<v1:=by
   rcases Int.lt_or_le 0 v1 with hc|hc
   ·exact hc
   ·have:=Int.mul_nonneg (show 0≤u1 by omega) (show 0≤-v1 by omega);rw[Int.mul_neg] at this;omega
  exact pos h hu hv
theorem APD {u1 u2 v1 v2:Int} (h:On0 u1 u2 v1 v2) (hne:u1≠0∨u2≠0):0<u1*v1+u2*v2:=by
 have one:∀ {u v:Int},(0≤u∧u≤v)∨(v≤u∧u≤0)→0≤u*v∧(u≠0→0<u*v):=fun {u v} h=>by
  rcases h with ⟨h1,h2⟩|⟨h1,h2⟩
  ·refine ⟨Int.mul_nonneg h1 (by omega),fun hn=>Int.mul_pos (by omega) (by omega)⟩
  ·have e:u*v=(-u)*(-v):=by rw[Int.neg_mul_neg]
   refine ⟨by rw[e];exact Int.mul_nonneg (by omega) (by omega),fun hn=>by rw[e];exact Int.mul_pos (by omega) (by omega)⟩
 obtain ⟨a1,a2⟩:=one h.1
 obtain ⟨b1,b2⟩:=one h.2
 rcases hne with hn|hn
 ·have:=a2 hn;omega
 ·have:=b2 hn;omega
theorem APL {a b c:Pt} (hab:a≠b) (hbc:b≠c):(decide (aI a b c=0)&&decide (0<kY a b c))=(iP b c a||iP a b c):=by
 have k1:aI a b c=(a.2-b.2)*(c.1-b.1)-(a.1-b.1)*(c.2-b.2):=by simp only[aI];grind
 have k2:aI b c a=(a.2-b.2)*(c.1-b.1)-(a.1-b.1)*(c.2-b.2):=by simp only[aI];grind
 have o1:iP b c a=true↔(a.1-b.1)*(c.2-b.2)=(a.2-b.2)*(c.1-b.1)∧On0 (a.1-b.1) (a.2-b.2) (c.1-b.1) (c.2-b.2):=by
  unfold iP LM On0
  rw[k2]
  generalize (a.1-b.1)*(c.2-b.2)=X
  generalize (a.2-b.2)*(c.1-b.1)=Y
  simp only[Bool.and_eq_true,decide_eq_true_eq]
  omega
 have o2:iP a b c=true↔(a.1-b.1)*(c.2-b.2)=(a.2-b.2)*(c.1-b.1)∧On0 (c.1-b.1) (c.2-b.2) (a.1-b.1) (a.2-b.2):=by
  unfold iP LM On0
  rw[k1]
  generalize (a.1-b.1)*(c.2-b.2)=X
  generalize (a.2-b.2)*(c.1-b.1)=Y
  simp only[Bool.and_eq_true,decide_eq_true_eq]
  omega
 have nab:a.1-b.1≠0∨a.2-b.2≠0:=by
  by_cases h:a.1-b.1=0
  ·exact .inr fun h2=>hab (Prod.ext (by omega) (by omega))
  ·exact .inl h
 have ncb:c.1-b.1≠0∨c.2-b.2≠0:=by
  by_cases h:c.1-b.1=0
  ·exact .inr fun h2=>hbc (Prod.ext (by omega) (by omega))
  ·exact .inl h
 rw[Bool.eq_iff_iff,Bool.or_eq_true,o1,o2,Bool.and_eq_true,decide_eq_true_eq,decide_eq_true_eq,k1]
 have hd:kY a b c=(a.1-b.1)*(c.1-b.1)+(a.2-b.2)*(c.2-b.2):=rfl
 rw[hd]
 generalize a.1-b.1=u1 at *
 generalize a.2-b.2=u2 at *
 generalize c.1-b.1=v1 at *
 generalize c.2-b.2=v2 at *
 constructor
 ·rintro ⟨h1,h2⟩
  have h:u1*v2=u2*v1:=by omega
  rcases Int.lt_or_le 0 (u1*v1) with hp|hp
  ·rcases AZZ h hp with h3|h3
   ·exact .inl ⟨h,h3⟩
   ·exact .inr ⟨h,h3⟩
  ·have hp2:0<u2*v2:=by omega
   rcases AZZ (u1:=u2) (u2:=u1) (v1:=v2) (v2:=v1) h.symm hp2 with h3|h3
   ·exact .inl ⟨h,h3.2,h3.1⟩
   ·exact .inr ⟨h,h3.2,h3.1⟩
 ·rintro (⟨h,h3⟩|⟨h,h3⟩)
  ·exact ⟨by omega,APD h3 nab⟩
  ·have:=APD h3 ncb
   rw[Int.mul_comm v1,Int.mul_comm v2] at this
   exact ⟨by omega,this⟩
theorem ALI (a b c:Pt):bO a b a c=true:=by
 unfold bO
 rw[show iP a b a=true from by
  unfold iP LM
  rw[show aI a b a=0 by simp only[aI];grind,decide_eq_true rfl,decide_eq_true (show min a.1 b.1≤a.1 by omega),decide_eq_true (show a.1≤max a.1 b.1 by omega),decide_eq_true (show min a.2 b.2≤a.2 by omega),decide_eq_true (show a.2≤max a.2 b.2 by omega)]
  rfl]
 rfl
theorem AU1 {p:List Pt} (h3:3≤p.length):pZ p=oA p:=by
 rw[Bool.eq_iff_iff]
 have nxt:∀ i,i<p.length→(i+1) % p.length<p.length:=fun i _=>Nat.mod_lt _ (by omega)
 constructor
 ·intro h
  unfold pZ at h
  rw[Bool.and_eq_true] at h
  obtain ⟨h1,h2⟩:=h
  have dist:∀ i k,i<p.length→k<i→pt p i≠pt p k:=fun i k hi hk e=>by
   have:=cE.1 (cE.1 h1 i hi) k hk
   rw[decide_eq_true e] at this;cases this
  have dist2:∀ i k,i<p.length→k<p.length→i≠k→pt p i≠pt p k:=fun i k hi hk hne=>by
   rcases Nat.lt_or_ge k i with h|h
   ·exact dist i k hi h
   ·exact (dist k i hk (by omega)).symm
  have ab:∀ i,i<p.length→pt p i≠nx p i:=fun i hi=>dist2 _ _ hi (nxt i hi) (by
   rcases Nat.lt_or_ge (i+1) p.length with h|h
   ·rw[Nat.mod_eq_of_lt h];omega
   ·rw[show i+1=p.length by omega,Nat.mod_self];omega)
  refine cE.2 fun i hi=>?_
  have h4:=cE.1 h2 i hi
  unfold sS at h4
  simp only[Bool.and_eq_true,Bool.not_eq_true'] at h4
  unfold EL
  have hbc:nx p i≠nG p i:=by
   have:=ab _ (nxt i hi)
   unfold nG
   unfold nx at this ⊢
   rwa[Nat.mod_add_mod] at this
  rw[APL (ab i hi) hbc,h4.1,h4.2.1,decide_eq_false (ab i hi),h4.2.2];rfl
 ·intro h
  have at_:∀ i,i<p.length→EL p i=true:=fun i hi=>cE.1 h i hi
  have ab:∀ i,i<p.length→pt p i≠nx p i:=fun i hi e=>by
   have:=at_ i hi
   unfold EL at this
   rw[decide_eq_true e] at this;cases this
  have pair:∀ i k,i<p.length→k<p.length→i+2≤k→(k+1) % p.length≠i→bO (pt p i) (nx p i) (pt p k) (nx p k)=false:=fun i k hi hk hik hne=>by
   have:=at_ i hi
   unfold EL at this
   simp only[Bool.and_eq_true] at this
   have h5:=cE.1 this.2.2 k hk
   rw[decide_eq_false (by omega),Bool.false_or] at h5
   unfold q9 at h5
   rw[decide_eq_false hne] at h5
   simpa using h5
  unfold pZ
  rw[Bool.and_eq_true]
  refine ⟨cE.2 fun i hi=>cE.2 fun k hk=>?_,cE.2 fun i hi=>?_⟩
  ·rw[Bool.not_eq_true',decide_eq_false_iff_not]
   intro e
   by_cases h1:k+1=i
   ·refine ab k (by omega) ?_
    unfold nx
    rw[Nat.mod_eq_of_lt (by omega),h1,e]
   ·by_cases h2:(i+1) % p.length=k
    ·refine ab i hi ?_
     unfold nx
     rw[h2,e]
    ·have:=pair k i (by omega) hi (by omega) h2
     rw[e,ALI] at this;cases this
  ·have h4:=at_ i hi
   unfold EL at h4
   have hbc:nx p i≠nG p i:=by
    have:=ab _ (nxt i hi)
    unfold nG
    unfold nx at this ⊢
    rwa[Nat.mod_add_mod] at this
   rw[APL (ab i hi) hbc] at h4
   unfold sS
   simp only[Bool.and_eq_true,Bool.not_eq_true',Bool.or_eq_false_iff] at h4 ⊢
   exact ⟨h4.2.1.1,h4.2.1.2,h4.2.2⟩
end Go.Pv
namespace Go.Pv
open Go Go.Proofs
noncomputable def BP:Env:=Env.of [(163,.pure iW),(177,.pure pJ)]
def PA:FuncId→Hint:=fun f=>match f == 160 with|true=>⟨fun r=>match r == 3 with|true=>.inv [.val 4 false (.int .i64)]|false=>match r == 6 with|true=>.inv [.val 5 false (.int .i64)]|false=>match r == 11 with|true=>.inv [.val 6 false (.int .i64)]|false=>match r == 17 with|true=>.inv [.val 10 false (.int .i64)]|false=>.none,fun _ _=>none,fun _=>none⟩|false=>aT
theorem W7:aE Tryz.prog BP:=aE.cons (x:=.pure iW) ZC (aE.cons (x:=.pure pJ) ASN (aE.nil _))
def BY (a0:List aJ) (R:T→Prop):Prop :=
 a7 (Int×PUnit)
 (fun (X0:Int×PUnit→Prop) (s1:Int×PUnit) =>
 aB (decide (s1.1<(↑(List.map aA.enc a0).length:Int)))
 (a7 (Int×PUnit)
 (fun (X2:Int×PUnit→Prop) (s3:Int×PUnit) =>
 aB (decide (s3.1<s1.1))
 (aO aA (List.map aA.enc a0) s1.1 fun (y4:aJ) =>
 aO aA (List.map aA.enc a0) s3.1 fun (y5:aJ) =>
 aB (decide (y4.1=y5.1)&&(decide (y4.2=y5.2)&&true))
 (R (T.v (.bool false))) (X2 (IntKind.i64.wrap (s3.1+1),())))
 (X0 (IntKind.i64.wrap (s1.1+1),())))
 (0,()))
 (a7 (Int×PUnit)
 (fun (X6:Int×PUnit→Prop) (s7:Int×PUnit) =>
 aB (decide (s7.1<(↑(List.map aA.enc a0).length:Int)))
 (aO aA (List.map aA.enc a0) s7.1 fun (y8:aJ) =>
 bV (!decide ((↑(List.map aA.enc a0).length:Int)=0))
 (aO aA (List.map aA.enc a0)
 ((IntKind.i64.wrap (s7.1+1)).tmod (↑(List.map aA.enc a0).length:Int))
 fun (y9:aJ) =>
 bV (!decide ((↑(List.map aA.enc a0).length:Int)=0))
 (aO aA (List.map aA.enc a0)
 ((IntKind.i64.wrap (s7.1+2)).tmod (↑(List.map aA.enc a0).length:Int))
 fun (y10:aJ) =>
 aG [(false,Sy.bool)]
 (iW
 [aC true aA y8,aC true aA y9,
 aC true aA y10])
 fun (y11:Bool) =>
 aB y11 (R (T.v (.bool false)))
 (aG [(false,Sy.bool)]
 (iW
 [aC true aA y10,aC true aA y8,
 aC true aA y9])
 fun (y12:Bool) =>
 aB y12 (R (T.v (.bool false)))
 (a7 (Int×PUnit)
 (fun (X13:Int×PUnit→Prop) (s14:Int×PUnit) =>
 aB (decide (s14.1<(↑(List.map aA.enc a0).length:Int)))
 (bV (!decide ((↑(List.map aA.enc a0).length:Int)=0))
 (aB
 (!decide
 ((IntKind.i64.wrap (s14.1+1)).tmod
 (↑(List.map aA.enc a0).length:Int) =
 s7.1))
 (aO aA (List.map aA.enc a0) s14.1
 fun (y15:aJ) =>
 bV (!decide ((↑(List.map aA.enc a0).length:Int)=0))
 (aO aA (List.map aA.enc a0)
 ((IntKind.i64.wrap (s14.1+1)).tmod
 (↑(List.map aA.enc a0).length:Int))
 fun (y16:aJ) =>
 aG [(false,Sy.bool)]
 (pJ
 [aC true aA y8,aC true aA y9,
 aC true aA y15,aC true aA y16])
 fun (y17:Bool) =>
 aB y17 (R (T.v (.bool false)))
 (X13 (IntKind.i64.wrap (s14.1+1),()))))
 (X13 (IntKind.i64.wrap (s14.1+1),()))))
 (X6 (IntKind.i64.wrap (s7.1+1),())))
 (IntKind.i64.wrap (s7.1+2),()))))))
 (R (T.v (.bool true))))
 (0,())))
 (0,())
theorem S5 ( a0 R):bA aW Tryz.prog BP PA 8 160 [aC false aA.li a0] R=BY a0 R:=by kernel_rfl
abbrev vY:Sh:=[(false,aA.li)]
def yE (p:List aJ):Option T:=RH p (T.v (.bool (pZ p)))
noncomputable def kD:List T→Option (T):=gS vY yE
theorem TG {a0}:kD [T.sl false (List.map aA.enc a0)]=yE (a0):=a6 (s:=vY) rfl (a0) rfl
theorem AH7 (h:∀ a0 r,yE (a0)=some r→bY vY (a0)→BY a0 (fun y=>y=r)):aK Tryz.prog 160 kD :=
 aP (E:=BP) (Hs:=PA) W7 aU aV (aL rfl) 8 ⟨_,_,Tryz.func160,rfl⟩ rfl fun x r h1 h2=>by
  let a0:=x
  rw[show Sh.bK vY (a0)=[aC false aA.li a0] from rfl,S5]
  exact h a0 r h1 h2
theorem AFT:aK Tryz.prog 160 kD:=AH7 fun p r h hb=>by
 obtain ⟨hl,hn,rfl⟩:=RI h
 clear h
 have is:∀ {b:Bool},pZ p=b→T.v (.bool b)=T.v (.bool (pZ p)):=fun h=>by rw[h]
 have nw:∀ {k:Nat},k≤3000→IntKind.i64.wrap ((k:Int)+1)=((k+1:Nat):Int):=fun h=>aQ _ (by omega) (by omega)
 unfold BY
 refine aY p.length (fun k s=>s=((k:Int),())∧∀ i,i<k→i<p.length→∀ j,j<i→pt p i≠pt p j) ⟨rfl,fun i h=>by omega⟩ ?_
 rintro X k s hk ⟨rfl,hJ⟩ hX
 dsimp only
 refine bJ (fun hlt=>?_) fun hge=>?_
 ·rw[List.length_map] at hlt
  have hlt:k<p.length:=by omega
  refine aY k (fun j s=>s=((j:Int),())∧∀ i,i<j→pt p k≠pt p i) ⟨rfl,fun i h=>by omega⟩ ?_
  rintro Y j s hj ⟨rfl,hI⟩ hY
  dsimp only
  refine bJ (fun hjl=>?_) fun hjl=>hX _ hlt ⟨by rw[nw (by omega)],fun i h1 h2 j' h3=>by
   rcases Nat.lt_or_ge i k with h4|h4
   ·exact hJ i h4 h2 j' h3
   ·have:i=k:=by omega
    subst this;exact hI j' (by omega)⟩
  have hjl:j<k:=by omega
  rw[bR hlt,bR (show j<p.length by omega)]
  have heq:(decide ((pt p k).1=(pt p j).1)&&(decide ((pt p k).2=(pt p j).2)&&true))=decide (pt p k=pt p j):=by
   rw[Bool.and_true,←Bool.decide_and]
   exact decide_eq_decide.2 Prod.ext_iff.symm
  rw[heq]
  refine bJ (fun h=>is ?_) fun h=>hY _ hjl ⟨by rw[nw (by omega)],fun i hi=>by
   rcases Nat.lt_or_ge i j with h4|h4
   ·exact hI i h4
   ·have:i=j:=by omega
    subst this;exact h⟩
  unfold pZ AXE
  rw[rJ hlt (rJ hjl (by rw[decide_eq_true h];rfl))];rfl
 rw[List.length_map] at hge
 have hd:AXE p=true:=cE.2 fun i hi=>cE.2 fun j hj=>by
  rw[decide_eq_false (hJ i (by omega) hi j hj)];rfl
 have w:pZ p=(List.range p.length).all (sS p):=by unfold pZ;rw[hd];rfl
 clear hJ hX hd
 refine aY p.length (fun k s=>s=((k:Int),())∧∀ i,i<k→i<p.length→sS p i=true) ⟨rfl,fun i h=>by omega⟩ ?_
 rintro X k s hk ⟨rfl,hJ⟩ hX
 dsimp only
 refine bJ (fun hlt=>?_) fun hge=>is (w.trans (cE.2 fun i hi=>hJ i (by rw[List.length_map] at hge;omega) hi))
 rw[List.length_map] at hlt
 have hlt:k<p.length:=by omega
 have hne:(!decide (((List.map aA.enc p).length:Int)=0))=true:=by rw[List.length_map,decide_eq_false (by omega)];rfl
 have hm1:(k+1) % p.length<p.length:=Nat.mod_lt _ (by omega)
 have hm2:(k+2) % p.length<p.length:=Nat.mod_lt _ (by omega)
 have i1:(IntKind.i64.wrap ((k:Int)+1)).tmod ((List.map aA.enc p).length:Int)=(((k+1) % p.length:Nat):Int):=by rw[List.length_map];exact iO (c:=1) hl (by omega) (by omega)
 have i2:(IntKind.i64.wrap ((k:Int)+2)).tmod ((List.map aA.enc p).length:Int)=(((k+2) % p.length:Nat):Int):=by rw[List.length_map];exact iO (c:=2) hl (by omega) (by omega)
 have bad:sS p k=false→T.v (.bool false)=T.v (.bool (pZ p)):=fun h=>is (w.trans (rJ hlt h))
 rw[bR hlt,i1]
 refine ⟨hne,?_⟩
 rw[bR hm1,i2]
 refine ⟨hne,?_⟩
 rw[bR hm2]
 refine aD (s:=[(false,.bool)]) (mA (hn.pt _) (hn.pt _) (hn.pt _)) ?_
 refine tA (fun h=>bad (by unfold sS;rw[show iP (nx p k) (nG p k) (pt p k)=true from h];rfl)) fun o1=>?_
 refine aD (s:=[(false,.bool)]) (mA (hn.pt _) (hn.pt _) (hn.pt _)) ?_
 refine tA (fun h=>bad (by unfold sS;rw[show iP (pt p k) (nx p k) (nG p k)=true from h];simp)) fun o2=>?_
 have e:sS p k=(List.range p.length).all fun j=>decide (j<k+2)||q9 p k j:=by
  unfold sS;rw[show iP (nx p k) (nG p k) (pt p k)=false from o1,show iP (pt p k) (nx p k) (nG p k)=false from o2];rfl
 refine aY p.length (fun m s=>s=(((k+2+m:Nat):Int),())∧∀ j,j<k+2+m→j<p.length→(decide (j<k+2)||q9 p k j)=true) ⟨by rw[show IntKind.i64.wrap ((k:Int)+2)=((k+2+0:Nat):Int) from aQ _ (by omega) (by omega)],fun j h _=>by rw[decide_eq_true (by omega)];rfl⟩ ?_
 rintro Y m s hm ⟨rfl,hI⟩ hY
 dsimp only
 refine bJ (fun hjl=>?_) fun hjl=>hX _ hlt ⟨by rw[nw (by omega)],fun i h1 h2=>by
  rcases Nat.lt_or_ge i k with h4|h4
  ·exact hJ i h4 h2
  ·have:i=k:=by omega
   subst this
   rw[e]
   exact cE.2 fun j hj=>hI j (by rw[List.length_map] at hjl;omega) hj⟩
 rw[List.length_map] at hjl
 have hj:k+2+m<p.length:=by omega
 have hix:(IntKind.i64.wrap (((k+2+m:Nat):Int)+1)).tmod ((List.map aA.enc p).length:Int)=(((k+2+m+1) % p.length:Nat):Int):=by rw[List.length_map];exact iO (c:=1) hl (by omega) (by omega)
 have hw:IntKind.i64.wrap (((k+2+m:Nat):Int)+1)=((k+2+(m+1):Nat):Int):=by rw[aQ _ (by omega) (by omega)];omega
 have hmod:(k+2+m+1) % p.length<p.length:=Nat.mod_lt _ (by omega)
 have go:q9 p k (k+2+m)=true→Y (((k+2+(m+1):Nat):Int),()):=fun h=>hY _ (by omega) ⟨rfl,fun j h1 h2=>by
  rcases Nat.lt_or_ge j (k+2+m) with h3|h3
  ·exact hI j h3 h2
  ·have:j=k+2+m:=by omega
   subst this;rw[h];simp⟩
 refine ⟨hne,?_⟩
 rw[hix,hw]
 refine gT (fun h=>?_) fun h=>go (by unfold q9;rw[decide_eq_true (show (k+2+m+1) % p.length=k by omega)];rfl)
 rw[bR hj,AII,bR hmod]
 refine ⟨hne,?_⟩
 refine aD (s:=[(false,.bool)]) (AGL (hn.pt _) (hn.pt _) (hn.pt _) (hn.pt _)) ?_
 have e2:q9 p k (k+2+m) = !bO (pt p k) (nx p k) (pt p (k+2+m)) (nx p (k+2+m)):=by
  unfold q9;rw[decide_eq_false (show ¬ (k+2+m+1) % p.length=k by omega)];rfl
 refine tA (fun hmt=>bad ?_) fun hmt=>go ?_
 ·rw[e]
  refine rJ hj ?_
  show (decide (k+2+m<k+2)||q9 p k (k+2+m))=false
  rw[e2,show bO (pt p k) (nx p k) (pt p (k+2+m)) (nx p (k+2+m))=true from hmt];simp
 ·rw[e2,show bO (pt p k) (nx p k) (pt p (k+2+m)) (nx p (k+2+m))=false from hmt];rfl
theorem TH {p:List Pt} (h:p.length≤1000) (h2:gM p):kD [T.sl false (List.map aA.enc p)]=some (Sh.enc [(false,.bool)] (pZ p)):=(TG ..).trans (RJ _ h h2)
noncomputable def NA:Env:=Env.of [(159,.pure oN),(160,.pure kD)]
def AEA:FuncId→Hint:=fun _=>aT
theorem AJY:aE Tryz.prog NA:=aE.cons (x:=.pure oN) ALX (aE.cons (x:=.pure kD) AFT (aE.nil _))
def OK (a0:List aJ) (R:T→Prop):Prop :=
 aB (decide ((↑(List.map aA.enc a0).length:Int)<3)) (R (T.v (.int .i64 3)))
 (aB (decide (32<(↑(List.map aA.enc a0).length:Int)))
 (R (T.v (.int .i64 4)))
 (aG [(false,Sy.bool)] (oN [T.sl false (List.map aA.enc a0)])
 fun (y0:Bool) =>
 aB (!y0) (R (T.v (.int .i64 9)))
 (aG [(false,Sy.bool)] (kD [T.sl false (List.map aA.enc a0)])
 fun (y1:Bool) =>
 aB (!y1) (R (T.v (.int .i64 17)))
 (R (T.v (.int .i64 0))))))
theorem AC2 ( a0 R):bA aW Tryz.prog NA AEA 8 142 [aC false aA.li a0] R=OK a0 R:=by kernel_rfl
abbrev FK:Sh:=[(false,aA.li)]
def JN (p:List aJ):Option T:=some (T.v (Value.int .i64 (dB p)))
noncomputable def fW:List T→Option (T):=gS FK JN
theorem AGR {a0}:fW [T.sl false (List.map aA.enc a0)]=JN (a0):=a6 (s:=FK) rfl (a0) rfl
theorem AT9 (h:∀ a0 r,JN (a0)=some r→bY FK (a0)→OK a0 (fun y=>y=r)):aK Tryz.prog 142 fW :=
 aP (E:=NA) (Hs:=AEA) AJY aU aV (aL rfl) 8 ⟨_,_,Tryz.func142,rfl⟩ rfl fun x r h1 h2=>by
  let a0:=x
  rw[show Sh.bK FK (a0)=[aC false aA.li a0] from rfl,AC2]
  exact h a0 r h1 h2
theorem IB:aK Tryz.prog 142 fW:=AT9 fun p r h hb=>by
 cases h
 have is:∀ {n:Int},dB p=n→T.v (.int .i64 n)=T.v (.int .i64 (dB p)):=fun h=>by rw[h]
 unfold OK
 refine bJ (fun h=>is (by rw[List.length_map] at h;unfold dB;rw[if_pos (by omega)])) fun h1=>?_
 refine bJ (fun h=>is (by rw[List.length_map] at h h1;unfold dB;rw[if_neg (by omega),if_pos (by omega)])) fun h2=>?_
 rw[List.length_map] at h1 h2
 refine aD (s:=[(false,.bool)]) (y:=A6 p) (ZM ..) ?_
 refine dK (fun h=>is (by unfold dB;rw[if_neg (by omega),if_neg (by omega),if_pos h])) fun hb=>?_
 have hN:=iK.1 hb
 have hnb:¬ A6 p=false:=by rw[hb];simp
 refine aD (s:=[(false,.bool)]) (TH (by omega) hN) ?_
 rw[AU1 (by omega)]
 refine dK (fun h=>is (by unfold dB;rw[if_neg (by omega),if_neg (by omega),if_neg hnb,if_pos (.inl h)])) fun hs=>is ?_
 have hs:oA p=true:=hs
 unfold dB
 rw[if_neg (by omega),if_neg (by omega),if_neg hnb,if_neg]
 rintro (h|h)
 ·rw[hs] at h;cases h
 ·exact AU2 hs (by omega) hN h
theorem rQ (p:List Pt):fW [T.sl false (List.map aA.enc p)]=some (Sh.enc [(false,.int .i64)] (dB p)):=AGR ..
noncomputable def MK:Env:=Env.of [(142,.pure fW)]
def ADM:FuncId→Hint:=fun f=>match f == 143 with|true=>⟨fun r=>match r == 5 with|true=>.inv [.val 3 false (.int .i64),.val 4 false (.int .i64)]|false=>.none,fun _ _=>none,fun _=>none⟩|false=>aT
theorem AJA:aE Tryz.prog MK:=aE.cons (x:=.pure fW) IB (aE.nil _)
def NU (a0:List aJ) (R:T→Prop):Prop :=
 aG [(false,Sy.int IntKind.i64)] (fW [T.sl false (List.map aA.enc a0)])
 fun (y0:Int) =>
 aB (!decide (y0=0)) (R (T.v (.int .i64 0)))
 (a7 (Int×Int×PUnit)
 (fun (X1:Int×Int×PUnit→Prop) (s2:Int×Int×PUnit) =>
 aB (decide (s2.2.1<(↑(List.map aA.enc a0).length:Int)))
 (aO aA (List.map aA.enc a0) s2.2.1 fun (y3:aJ) =>
 bV (!decide ((↑(List.map aA.enc a0).length:Int)=0))
 (aO aA (List.map aA.enc a0)
 ((IntKind.i64.wrap (s2.2.1+1)).tmod (↑(List.map aA.enc a0).length:Int))
 fun (y4:aJ) =>
 X1
 (IntKind.i64.wrap
 (IntKind.i64.wrap (s2.1+IntKind.i64.wrap (y3.1*y4.2)) -
 IntKind.i64.wrap (y3.2*y4.1)),
 IntKind.i64.wrap (s2.2.1+1),())))
 (R (T.v (.int .i64 s2.1))))
 (0,0,()))
theorem ACD ( a0 R):bA aW Tryz.prog MK ADM 8 143 [aC false aA.li a0] R=NU a0 R:=by kernel_rfl
abbrev E1:Sh:=[(false,aA.li)]
def I7 (p:List aJ):Option T:=some (T.v (Value.int .i64 (gF p)))
noncomputable def iU:List T→Option (T):=gS E1 I7
theorem AFZ {a0}:iU [T.sl false (List.map aA.enc a0)]=I7 (a0):=a6 (s:=E1) rfl (a0) rfl
theorem ATL (h:∀ a0 r,I7 (a0)=some r→bY E1 (a0)→NU a0 (fun y=>y=r)):aK Tryz.prog 143 iU :=
 aP (E:=MK) (Hs:=ADM) AJA aU aV (aL rfl) 8 ⟨_,_,Tryz.func143,rfl⟩ rfl fun x r h1 h2=>by
  let a0:=x
  rw[show Sh.bK E1 (a0)=[aC false aA.li a0] from rfl,ACD]
  exact h a0 r h1 h2
theorem UU:aK Tryz.prog 143 iU:=ATL fun p r h hb=>by
 cases h
 unfold NU
 refine aD (s:=[(false,.int .i64)]) (rQ p) ?_
 refine gT (fun h=>sF (by unfold gF;rw[if_neg h])) fun h=>?_
 obtain ⟨_,h2,hn,_⟩:=dR h
 have e0:gF p=eU p:=by unfold gF;rw[if_pos h]
 refine aY p.length (fun k s=>s=(cM k (CN p),(k:Int),())) rfl ?_
 rintro X k s hk rfl hX
 dsimp only
 refine bJ (fun hlt=>?_) fun hge=>sF (by rw[List.length_map] at hge;rw[e0,show k=p.length by omega];rfl)
 rw[List.length_map] at hlt
 have hlt:k<p.length:=by omega
 have hne:(!decide (((List.map aA.enc p).length:Int)=0))=true:=by rw[List.length_map,decide_eq_false (by omega)];rfl
 have hm1:(k+1) % p.length<p.length:=Nat.mod_lt _ (by omega)
 have i1:(IntKind.i64.wrap ((k:Int)+1)).tmod ((List.map aA.enc p).length:Int)=(((k+1) % p.length:Nat):Int):=by rw[List.length_map];exact iO (c:=1) (by omega) (by omega) (by omega)
 rw[bR hlt,i1]
 refine ⟨hne,?_⟩
 rw[bR hm1]
 have hb1:=AA1 hn k
 have hb2:=yM hn k
 have hb3:=yM hn (k+1)
 refine hX _ hlt ?_
 rw[show IntKind.i64.wrap ((k:Int)+1)=((k+1:Nat):Int) from aQ _ (by omega) (by omega)]
 have e:IntKind.i64.wrap (IntKind.i64.wrap (cM k (CN p)+IntKind.i64.wrap ((pt p k).1*(nx p k).2))-IntKind.i64.wrap ((pt p k).2*(nx p k).1))=cM (k+1) (CN p):=by
  rw[Int.mul_comm (pt p k).2,aQ ((pt p k).1*(nx p k).2) (by omega) (by omega),aQ ((nx p k).1*(pt p k).2) (by omega) (by omega),aQ (cM k (CN p)+(pt p k).1*(nx p k).2) (by omega) (by omega),aQ _ (by omega) (by omega)]
  show _=cM k (CN p)+CN p k
  unfold CN
  omega
 rw[←e];rfl
theorem w8 (p:List Pt):iU [T.sl false (List.map aA.enc p)]=some (Sh.enc [(false,.int .i64)] (gF p)):=AFZ ..
noncomputable def GZ:Env:=Env.of [(142,.pure fW),(162,.pure jJ),(163,.pure iW),(164,.pure dG)]
def UI:FuncId→Hint:=fun f=>match f == 145 with|true=>⟨fun r=>match r == 5 with|true=>.inv [.val 5 false .bool,.val 6 false (.int .i64)]|false=>.none,fun _ _=>none,fun _=>none⟩|false=>aT
theorem ACC:aE Tryz.prog GZ:=aE.cons (x:=.pure fW) IB (aE.cons (x:=.pure jJ) QG (aE.cons (x:=.pure iW) ZC (aE.cons (x:=.pure dG) IC (aE.nil _))))
def HR (a0:List aJ) (a1:aJ) (R:T→Prop):Prop :=
 aG [(false,Sy.int IntKind.i64)] (fW [T.sl false (List.map aA.enc a0)])
 fun (y0:Int) =>
 aB (!decide (y0=0)) (R (T.v (.int .i64 (-1))))
 (aG [(false,Sy.bool)] (jJ [aC true aA a1]) fun (y1:Bool) =>
 aB (!y1) (R (T.v (.int .i64 (-1))))
 (a7 (Bool×Int×PUnit)
 (fun (X2:Bool×Int×PUnit→Prop) (s3:Bool×Int×PUnit) =>
 aB (decide (s3.2.1<(↑(List.map aA.enc a0).length:Int)))
 (aO aA (List.map aA.enc a0) s3.2.1 fun (y4:aJ) =>
 bV (!decide ((↑(List.map aA.enc a0).length:Int)=0))
 (aO aA (List.map aA.enc a0)
 ((IntKind.i64.wrap (s3.2.1+1)).tmod (↑(List.map aA.enc a0).length:Int))
 fun (y5:aJ) =>
 aG [(false,Sy.bool)]
 (iW
 [aC true aA a1,aC true aA y4,
 aC true aA y5])
 fun (y6:Bool) =>
 aB y6 (R (T.v (.int .i64 0)))
 (aB (decide (y4.2≤a1.2))
 (aB (decide (a1.2<y5.2))
 (aG [(false,Sy.int IntKind.i64)]
 (dG
 [aC true aA y4,aC true aA y5,
 aC true aA a1])
 fun (y7:Int) =>
 aB (decide (y5.2≤a1.2))
 (aB (decide (a1.2<y4.2))
 (aG [(false,Sy.int IntKind.i64)]
 (dG
 [aC true aA y4,aC true aA y5,
 aC true aA a1])
 fun (y8:Int) =>
 aB (decide (0<y7))
 (X2 (!s3.1,IntKind.i64.wrap (s3.2.1+1),()))
 (aB (decide (y8<0))
 (X2 (!s3.1,IntKind.i64.wrap (s3.2.1+1),()))
 (X2 (s3.1,IntKind.i64.wrap (s3.2.1+1),()))))
 (aB (decide (0<y7)) (X2 (!s3.1,IntKind.i64.wrap (s3.2.1+1),()))
 (X2 (s3.1,IntKind.i64.wrap (s3.2.1+1),()))))
 (aB (decide (0<y7)) (X2 (!s3.1,IntKind.i64.wrap (s3.2.1+1),()))
 (X2 (s3.1,IntKind.i64.wrap (s3.2.1+1),()))))
 (aB (decide (y5.2≤a1.2))
 (aB (decide (a1.2<y4.2))
 (aG [(false,Sy.int IntKind.i64)]
 (dG
 [aC true aA y4,aC true aA y5,
 aC true aA a1])
 fun (y9:Int) =>
 aB (decide (y9<0)) (X2 (!s3.1,IntKind.i64.wrap (s3.2.1+1),()))
 (X2 (s3.1,IntKind.i64.wrap (s3.2.1+1),())))
 (X2 (s3.1,IntKind.i64.wrap (s3.2.1+1),())))
 (X2 (s3.1,IntKind.i64.wrap (s3.2.1+1),()))))
 (aB (decide (y5.2≤a1.2))
 (aB (decide (a1.2<y4.2))
 (aG [(false,Sy.int IntKind.i64)]
 (dG
 [aC true aA y4,aC true aA y5,
 aC true aA a1])
 fun (y10:Int) =>
 aB (decide (y10<0)) (X2 (!s3.1,IntKind.i64.wrap (s3.2.1+1),()))
 (X2 (s3.1,IntKind.i64.wrap (s3.2.1+1),())))
 (X2 (s3.1,IntKind.i64.wrap (s3.2.1+1),())))
 (X2 (s3.1,IntKind.i64.wrap (s3.2.1+1),()))))))
 (aB s3.1 (R (T.v (.int .i64 1)))
 (R (T.v (.int .i64 (-1))))))
 (false,0,())))
theorem YN ( a0 a1 R):bA aW Tryz.prog GZ UI 8 145 [aC false aA.li a0,aC true aA a1] R=HR a0 a1 R:=by kernel_rfl
abbrev AG:Sh:=[(false,aA.li),(true,aA)]
def C9 (x:List aJ×aJ):Option T:=some (T.v (Value.int .i64 (cN x.1 x.2)))
noncomputable def jK:List T→Option (T):=gS AG C9
theorem Z8 {a0 a1}:jK [T.sl false (List.map aA.enc a0),aC true aA a1]=C9 (a0,a1):=a6 (s:=AG) rfl (a0,a1) rfl
theorem AN0 (h:∀ a0 a1 r,C9 (a0,a1)=some r→bY AG (a0,a1)→HR a0 a1 (fun y=>y=r)):aK Tryz.prog 145 jK :=
 aP (E:=GZ) (Hs:=UI) ACC aU aV (aL rfl) 8 ⟨_,_,Tryz.func145,rfl⟩ rfl fun x r h1 h2=>by
  obtain ⟨a0,a1⟩:=x
  rw[show Sh.bK AG (a0,a1)=[aC false aA.li a0,aC true aA a1] from rfl,YN]
  exact h a0 a1 r h1 h2
theorem AMC:aK Tryz.prog 145 jK:=AN0 fun p q r h hb=>by
 cases h
 have is:∀ {n:Int},cN p q=n→T.v (.int .i64 n)=T.v (.int .i64 (cN p q)):=fun h=>by rw[h]
 unfold HR
 refine aD (s:=[(false,.int .i64)]) (rQ p) ?_
 refine gT (fun h=>is (by unfold cN;rw[if_pos (.inr h)])) fun hp=>?_
 refine aD (s:=[(false,.bool)]) (y:=decide (bS q)) (D4 ..) ?_
 refine gT (fun h=>is (by unfold cN;rw[if_pos (.inl h)])) fun hq=>?_
 obtain ⟨hl3,hl32,hn,_⟩:=dR hp
 have w:cN p q=if EM p q=true then 0 else if fH p q=true then 1 else -1:=by
  unfold cN;rw[if_neg];rintro (h|h)
  ·exact h hq
  ·exact h hp
 refine aY p.length (fun k s=>s=(fE k (fun i=>hit (pt p i) (nx p i) q),(k:Int),())∧∀ i,i<k→i<p.length→iP (pt p i) (nx p i) q=false) ⟨rfl,fun i h=>by omega⟩ ?_
 rintro X k s hk ⟨rfl,hJ⟩ hX
 dsimp only
 refine bJ (fun hlt=>?_) fun hge=>?_
 ·rw[List.length_map] at hlt
  have hlt:k<p.length:=by omega
  have hne:(!decide (((List.map aA.enc p).length:Int)=0))=true:=by rw[List.length_map,decide_eq_false (by omega)];rfl
  have hm1:(k+1) % p.length<p.length:=Nat.mod_lt _ (by omega)
  have i1:(IntKind.i64.wrap ((k:Int)+1)).tmod ((List.map aA.enc p).length:Int)=(((k+1) % p.length:Nat):Int):=by rw[List.length_map];exact iO (c:=1) (by omega) (by omega) (by omega)
  rw[bR hlt,i1]
  refine ⟨hne,?_⟩
  rw[bR hm1]
  refine aD (s:=[(false,.bool)]) (mA (hn.pt _) (hn.pt _) hq) ?_
  refine tA (fun h=>is (by rw[w,if_pos (show EM p q=true from dZ.2 ⟨k,hlt,h⟩)])) fun ho=>?_
  have hw:IntKind.i64.wrap ((k:Int)+1)=((k+1:Nat):Int):=aQ _ (by omega) (by omega)
  have hJ':∀ i,i<k+1→i<p.length→iP (pt p i) (nx p i) q=false:=fun i h1 h2=>by
   rcases Nat.lt_or_ge i k with h3|h3
   ·exact hJ i h3 h2
   ·have:i=k:=by omega
    subst this;exact ho
  have yes:hit (pt p k) (nx p k) q=true→X (!(fE k fun i=>hit (pt p i) (nx p i) q),IntKind.i64.wrap ((k:Int)+1),()):=fun hc=>hX _ hlt ⟨by rw[hw,fE,hc,Bool.xor_true],hJ'⟩
  have no:hit (pt p k) (nx p k) q=false→X ((fE k fun i=>hit (pt p i) (nx p i) q),IntKind.i64.wrap ((k:Int)+1),()):=fun hc=>hX _ hlt ⟨by rw[hw,fE,hc,Bool.xor_false],hJ'⟩
  have hit_def:hit (pt p k) (nx p k) q=((decide ((pt p k).2≤q.2)&&decide (q.2<(nx p k).2)&&decide (0<aI (pt p k) (nx p k) q))||(decide ((nx p k).2≤q.2)&&decide (q.2<(pt p k).2)&&decide (aI (pt p k) (nx p k) q<0))):=rfl
  have tn:dG [aC true aA (pt p k),aC true aA (nx p k),aC true aA q]=some (Sh.enc [(false,.int .i64)] (aI (pt p k) (nx p k) q)):=kM (hn.pt k) (hn.pt ((k+1) % p.length)) hq
  rw[show pt p ((k+1) % p.length)=nx p k from rfl]
  rw[hit_def] at yes no
  generalize nx p k=b at yes no tn ⊢
  generalize aI (pt p k) b q=C at yes no tn
  clear hJ' hX hJ is w
  repeat' first
   | (refine bJ (fun h=>?_) (fun h=>?_))
   | (refine aD (s:=[(false,.int .i64)]) tn ?_)
  all_goals first
   | (refine yes ?_;simp only[Bool.or_eq_true,Bool.and_eq_true,decide_eq_true_eq];omega)
   | (refine no ?_;rw[Bool.eq_false_iff];intro hc;simp only[Bool.or_eq_true,Bool.and_eq_true,decide_eq_true_eq] at hc;omega)
 ·rw[List.length_map] at hge
  have:k=p.length:=by omega
  subst this
  have hna:EM p q=false:=B2 fun i hi=>hJ i hi hi
  refine tA (fun h=>is ?_) fun h=>is ?_
  ·rw[w,hna,if_neg (by simp),if_pos (show fH p q=true from h)]
  ·rw[w,hna,if_neg (by simp),if_neg (by rw[show fH p q=false from h];simp)]
theorem vC (p:List Pt) (q:Pt):jK [T.sl false (List.map aA.enc p),aC true aA q]=some (Sh.enc [(false,.int .i64)] (cN p q)):=Z8 ..
end Go.Pv
namespace Go.Pv
open Go Go.Proofs
noncomputable def NS:Env:=Env.of []
def AER:FuncId→Hint:=fun _=>aT
theorem AKF:aE Tryz.prog NS:=aE.nil _
def O1 (a0:aJ) (a1:aJ) (a2:aJ) (R:T→Prop):Prop :=
 aB
 (decide
 (0 <
 IntKind.i64.wrap
 (IntKind.i64.wrap (IntKind.i64.wrap (a1.1-a0.1)*IntKind.i64.wrap (a2.2-a0.2)) -
 IntKind.i64.wrap (IntKind.i64.wrap (a1.2-a0.2)*IntKind.i64.wrap (a2.1-a0.1)))))
 (R (T.v (.int .i64 1)))
 (aB
 (decide
 (IntKind.i64.wrap
 (IntKind.i64.wrap (IntKind.i64.wrap (a1.1-a0.1)*IntKind.i64.wrap (a2.2-a0.2)) -
 IntKind.i64.wrap (IntKind.i64.wrap (a1.2-a0.2)*IntKind.i64.wrap (a2.1-a0.1))) <
 0))
 (R (T.v (.int .i64 (-1)))) (R (T.v (.int .i64 0))))
theorem ADJ ( a0 a1 a2 R):bA aW Tryz.prog NS AER 8 179 [aC true aA a0,aC true aA a1,aC true aA a2] R=O1 a0 a1 a2 R:=by kernel_rfl
abbrev F0:Sh:=[(true,aA),(true,aA),(true,aA)]
def J2 (x:aJ×aJ×aJ):Option T:=xP x.1 x.2.1 x.2.2 (T.v (Value.int .i64 (sW (aI x.1 x.2.1 x.2.2))))
noncomputable def gO:List T→Option (T):=gS F0 J2
theorem AHH {a0 a1 a2}:gO [aC true aA a0,aC true aA a1,aC true aA a2]=J2 (a0,a1,a2):=a6 (s:=F0) rfl (a0,a1,a2) rfl
theorem AUQ (h:∀ a0 a1 a2 r,J2 (a0,a1,a2)=some r→bY F0 (a0,a1,a2)→O1 a0 a1 a2 (fun y=>y=r)):aK Tryz.prog 179 gO :=
 aP (E:=NS) (Hs:=AER) AKF aU aV (aL rfl) 8 ⟨_,_,Tryz.func179,rfl⟩ rfl fun x r h1 h2=>by
  obtain ⟨a0,a1,a2⟩:=x
  rw[show Sh.bK F0 (a0,a1,a2)=[aC true aA a0,aC true aA a1,aC true aA a2] from rfl,ADJ]
  exact h a0 a1 a2 r h1 h2
theorem U5:aK Tryz.prog 179 gO:=AUQ fun a b c r h hb=>by
 obtain ⟨h1,h2,h3,rfl⟩:=pP h
 unfold O1
 rw[wC h1 h2 h3]
 unfold sW
 exact bJ (fun h=>sF (by rw[if_neg (by omega),if_pos h])) fun h=>bJ (fun h2=>sF (by rw[if_pos h2])) fun h2=>sF (by rw[if_neg h2,if_neg h])
theorem nB {a b c:Pt} (h1:bS a) (h2:bS b) (h3:bS c):gO [aC true aA a,aC true aA b,aC true aA c]=some (Sh.enc [(false,.int .i64)] (sW (aI a b c))):=(AHH ..).trans (pQ _ h1 h2 h3)
noncomputable def AI7:Env:=Env.of [(179,.pure gO)]
def AWS:FuncId→Hint:=fun _=>aT
theorem AVW:aE Tryz.prog AI7:=aE.cons (x:=.pure gO) U5 (aE.nil _)
def AKT (a0:aJ) (a1:aJ) (a2:aJ) (R:T→Prop):Prop :=
 aG [(false,Sy.int IntKind.i64)]
 (gO [aC true aA a0,aC true aA a1,aC true aA a2])
 fun (y0:Int) =>
 aB (decide (y0=0))
 (aB (decide ((if a1.1<a0.1 then a1.1 else a0.1)≤a2.1))
 (aB (decide (a2.1≤if a0.1<a1.1 then a1.1 else a0.1))
 (aB (decide ((if a1.2<a0.2 then a1.2 else a0.2)≤a2.2))
 (R (T.v (.bool (decide (a2.2≤if a0.2<a1.2 then a1.2 else a0.2)))))
 (R (T.v (.bool false))))
 (R (T.v (.bool false))))
 (R (T.v (.bool false))))
 (R (T.v (.bool false)))
theorem ARF ( a0 a1 a2 R):bA aW Tryz.prog AI7 AWS 8 178 [aC true aA a0,aC true aA a1,aC true aA a2] R=AKT a0 a1 a2 R:=by kernel_rfl
abbrev AAX:Sh:=[(true,aA),(true,aA),(true,aA)]
def AA6 (x:aJ×aJ×aJ):Option T:=xP x.1 x.2.1 x.2.2 (T.v (.bool (iP x.1 x.2.1 x.2.2)))
noncomputable def sE:List T→Option (T):=gS AAX AA6
theorem AS8 {a0 a1 a2}:sE [aC true aA a0,aC true aA a1,aC true aA a2]=AA6 (a0,a1,a2):=a6 (s:=AAX) rfl (a0,a1,a2) rfl
theorem A22 (h:∀ a0 a1 a2 r,AA6 (a0,a1,a2)=some r→bY AAX (a0,a1,a2)→AKT a0 a1 a2 (fun y=>y=r)):aK Tryz.prog 178 sE :=
 aP (E:=AI7) (Hs:=AWS) AVW aU aV (aL rfl) 8 ⟨_,_,Tryz.func178,rfl⟩ rfl fun x r h1 h2=>by
  obtain ⟨a0,a1,a2⟩:=x
  rw[show Sh.bK AAX (a0,a1,a2)=[aC true aA a0,aC true aA a1,aC true aA a2] from rfl,ARF]
  exact h a0 a1 a2 r h1 h2
theorem A16:aK Tryz.prog 178 sE:=A22 fun a b c r h hb=>by
 obtain ⟨h1,h2,h3,rfl⟩:=pP h
 unfold AKT
 refine aD (s:=[(false,.int .i64)]) (nB h1 h2 h3) ?_
 refine bJ (fun h=>?_) fun h=>cL (by unfold iP;rw[decide_eq_false (fun e=>h (R1.2 e))];rfl)
 have h:=R1.1 h
 rw[xO,xO,xL,xL]
 have w:iP a b c=LM a b c:=by unfold iP;rw[decide_eq_true h];rfl
 show aB _ _ _
 rw[show (iP (a,b,c).1 (a,b,c).2.1 (a,b,c).2.2)=LM a b c from w]
 clear h w
 refine bJ (fun h1=>bJ (fun h2=>bJ (fun h3=>cL ?_) fun h3=>cL ?_) fun h2=>cL ?_) fun h1=>cL ?_
 all_goals simp[LM,h1]
 all_goals simp[h2]
 all_goals simp[h3]
theorem yW {a b c:Pt} (h1:bS a) (h2:bS b) (h3:bS c):sE [aC true aA a,aC true aA b,aC true aA c]=some (Sh.enc [(false,.bool)] (iP a b c)):=(AS8 ..).trans (pQ _ h1 h2 h3)
noncomputable def M3:Env:=Env.of [(179,.pure gO),(178,.pure sE)]
def AD3:FuncId→Hint:=fun _=>aT
theorem AJR:aE Tryz.prog M3:=aE.cons (x:=.pure gO) U5 (aE.cons (x:=.pure sE) A16 (aE.nil _))
def OC (a0:aJ) (a1:aJ) (a2:aJ) (a3:aJ) (R:T→Prop):Prop :=
 aG [(false,Sy.bool)]
 (sE [aC true aA a0,aC true aA a1,aC true aA a2])
 fun (y0:Bool) =>
 aB y0 (R (T.v (.bool true)))
 (aG [(false,Sy.bool)]
 (sE [aC true aA a0,aC true aA a1,aC true aA a3])
 fun (y1:Bool) =>
 aB y1 (R (T.v (.bool true)))
 (aG [(false,Sy.bool)]
 (sE
 [aC true aA a2,aC true aA a3,aC true aA a0])
 fun (y2:Bool) =>
 aB y2 (R (T.v (.bool true)))
 (aG [(false,Sy.bool)]
 (sE
 [aC true aA a2,aC true aA a3,aC true aA a1])
 fun (y3:Bool) =>
 aB y3 (R (T.v (.bool true)))
 (aG [(false,Sy.int IntKind.i64)]
 (gO
 [aC true aA a0,aC true aA a1,aC true aA a2])
 fun (y4:Int) =>
 aG [(false,Sy.int IntKind.i64)]
 (gO
 [aC true aA a0,aC true aA a1,
 aC true aA a3])
 fun (y5:Int) =>
 aB (decide (IntKind.i64.wrap (y4*y5)<0))
 (aG [(false,Sy.int IntKind.i64)]
 (gO
 [aC true aA a2,aC true aA a3,
 aC true aA a0])
 fun (y6:Int) =>
 aG [(false,Sy.int IntKind.i64)]
 (gO
 [aC true aA a2,aC true aA a3,
 aC true aA a1])
 fun (y7:Int)=>R (T.v (.bool (decide (IntKind.i64.wrap (y6*y7)<0)))))
 (R (T.v (.bool false)))))))
theorem ACV ( a0 a1 a2 a3 R):bA aW Tryz.prog M3 AD3 8 161 [aC true aA a0,aC true aA a1,aC true aA a2,
 aC true aA a3] R=OC a0 a1 a2 a3 R:=by kernel_rfl
abbrev FD:Sh:=[(true,aA),(true,aA),(true,aA),(true,aA)]
def JJ (x:aJ×aJ×aJ×aJ):Option T:=K2 x.1 x.2.1 x.2.2.1 x.2.2.2 (T.v (.bool (bO x.1 x.2.1 x.2.2.1 x.2.2.2)))
noncomputable def pK:List T→Option (T):=gS FD JJ
theorem AGM {a0 a1 a2 a3}:pK [aC true aA a0,aC true aA a1,aC true aA a2,
 aC true aA a3]=JJ (a0,a1,a2,a3):=a6 (s:=FD) rfl (a0,a1,a2,a3) rfl
theorem AT2 (h:∀ a0 a1 a2 a3 r,JJ (a0,a1,a2,a3)=some r→bY FD (a0,a1,a2,a3)→OC a0 a1 a2 a3 (fun y=>y=r)):aK Tryz.prog 161 pK :=
 aP (E:=M3) (Hs:=AD3) AJR aU aV (aL rfl) 8 ⟨_,_,Tryz.func161,rfl⟩ rfl fun x r h1 h2=>by
  obtain ⟨a0,a1,a2,a3⟩:=x
  rw[show Sh.bK FD (a0,a1,a2,a3)=[aC true aA a0,aC true aA a1,aC true aA a2,
 aC true aA a3] from rfl,ACV]
  exact h a0 a1 a2 a3 r h1 h2
theorem ASO:aK Tryz.prog 161 pK:=AT2 fun a b c d r h hb=>by
 obtain ⟨h1,h2,h3,h4,rfl⟩:=EJ h
 unfold OC
 refine aD (s:=[(false,.bool)]) (yW h1 h2 h3) ?_
 refine tA (fun h=>cL (by unfold bO;rw[h];rfl)) fun k1=>?_
 refine aD (s:=[(false,.bool)]) (yW h1 h2 h4) ?_
 refine tA (fun h=>cL (by unfold bO;rw[h,k1];rfl)) fun k2=>?_
 refine aD (s:=[(false,.bool)]) (yW h3 h4 h1) ?_
 refine tA (fun h=>cL (by unfold bO;rw[h,k1,k2];rfl)) fun k3=>?_
 refine aD (s:=[(false,.bool)]) (yW h3 h4 h2) ?_
 refine tA (fun h=>cL (by unfold bO;rw[h,k1,k2,k3];rfl)) fun k4=>?_
 refine aD (s:=[(false,.int .i64)]) (nB h1 h2 h3) ?_
 refine aD (s:=[(false,.int .i64)]) (nB h1 h2 h4) ?_
 rw[nR]
 refine bJ (fun h=>?_) fun h=>cL (by unfold bO;rw[k1,k2,k3,k4,decide_eq_false h];rfl)
 refine aD (s:=[(false,.int .i64)]) (nB h3 h4 h1) ?_
 refine aD (s:=[(false,.int .i64)]) (nB h3 h4 h2) ?_
 rw[nR]
 exact cL (by unfold bO;rw[k1,k2,k3,k4,decide_eq_true h];rfl)
theorem AGN {a b c d:Pt} (h1:bS a) (h2:bS b) (h3:bS c) (h4:bS d):pK [aC true aA a,aC true aA b,aC true aA c,aC true aA d]=some (Sh.enc [(false,.bool)] (bO a b c d)):=(AGM ..).trans (EK _ h1 h2 h3 h4)
noncomputable def F9:Env:=Env.of [(161,.pure pK)]
def TU:FuncId→Hint:=fun f=>match f == 144 with|true=>⟨fun r=>match r == 2 with|true=>.inv [.val 5 false (.int .i64)]|false=>match r == 5 with|true=>.inv [.val 6 false (.int .i64)]|false=>.none,fun _ _=>none,fun _=>none⟩|false=>aT
theorem ABO:aE Tryz.prog F9:=aE.cons (x:=.pure pK) ASO (aE.nil _)
def G3 (a0:List aJ) (a1:List aJ) (R:T→Prop):Prop :=
 a7 (Int×PUnit)
 (fun (X0:Int×PUnit→Prop) (s1:Int×PUnit) =>
 aB (decide (s1.1<(↑(List.map aA.enc a0).length:Int)))
 (a7 (Int×PUnit)
 (fun (X2:Int×PUnit→Prop) (s3:Int×PUnit) =>
 aB (decide (s3.1<(↑(List.map aA.enc a1).length:Int)))
 (aO aA (List.map aA.enc a0) s1.1 fun (y4:aJ) =>
 bV (!decide ((↑(List.map aA.enc a0).length:Int)=0))
 (aO aA (List.map aA.enc a0)
 ((IntKind.i64.wrap (s1.1+1)).tmod (↑(List.map aA.enc a0).length:Int))
 fun (y5:aJ) =>
 aO aA (List.map aA.enc a1) s3.1 fun (y6:aJ) =>
 bV (!decide ((↑(List.map aA.enc a1).length:Int)=0))
 (aO aA (List.map aA.enc a1)
 ((IntKind.i64.wrap (s3.1+1)).tmod (↑(List.map aA.enc a1).length:Int))
 fun (y7:aJ) =>
 aG [(false,Sy.bool)]
 (pK
 [aC true aA y4,aC true aA y5,
 aC true aA y6,aC true aA y7])
 fun (y8:Bool) =>
 aB y8 (R (T.v (.bool true)))
 (X2 (IntKind.i64.wrap (s3.1+1),())))))
 (X0 (IntKind.i64.wrap (s1.1+1),())))
 (0,()))
 (R (T.v (.bool false))))
 (0,())
theorem XD ( a0 a1 R):bA aW Tryz.prog F9 TU 8 144 [aC false aA.li a0,aC false aA.li a1] R=G3 a0 a1 R:=by kernel_rfl
abbrev zK:Sh:=[(false,aA.li),(false,aA.li)]
def CQ (x:List aJ×List aJ):Option T:=K5 x.1 x.2 (T.v (.bool (eA x.1 x.2)))
noncomputable def kK:List T→Option (T):=gS zK CQ
theorem ZH {a0 a1}:kK [T.sl false (List.map aA.enc a0),T.sl false (List.map aA.enc a1)]=CQ (a0,a1):=a6 (s:=zK) rfl (a0,a1) rfl
theorem ANB (h:∀ a0 a1 r,CQ (a0,a1)=some r→bY zK (a0,a1)→G3 a0 a1 (fun y=>y=r)):aK Tryz.prog 144 kK :=
 aP (E:=F9) (Hs:=TU) ABO aU aV (aL rfl) 8 ⟨_,_,Tryz.func144,rfl⟩ rfl fun x r h1 h2=>by
  obtain ⟨a0,a1⟩:=x
  rw[show Sh.bK zK (a0,a1)=[aC false aA.li a0,aC false aA.li a1] from rfl,XD]
  exact h a0 a1 r h1 h2
theorem ALU:aK Tryz.prog 144 kK:=ANB fun p q r h hb=>by
 obtain ⟨hl,hn,hl2,hn2,rfl⟩:=EO h
 replace hl:p.length≤1000:=hl
 replace hl2:q.length≤1000:=hl2
 clear h
 have nw:∀ {k:Nat},k≤3000→IntKind.i64.wrap ((k:Int)+1)=((k+1:Nat):Int):=fun h=>aQ _ (by omega) (by omega)
 unfold G3
 refine aY p.length (fun k s=>s=((k:Int),())∧∀ i,i<k→i<p.length→((List.range q.length).any fun k=>bO (pt p i) (nx p i) (pt q k) (nx q k))=false) ⟨rfl,fun i h=>by omega⟩ ?_
 rintro X k s hk ⟨rfl,hJ⟩ hX
 dsimp only
 refine bJ (fun hlt=>?_) fun hge=>cL (Eq.symm (B2 fun i hi=>hJ i (by rw[List.length_map] at hge;omega) hi))
 rw[List.length_map] at hlt
 have hlt:k<p.length:=by omega
 have hne:(!decide (((List.map aA.enc p).length:Int)=0))=true:=by rw[List.length_map,decide_eq_false (by omega)];rfl
 have hm1:(k+1) % p.length<p.length:=Nat.mod_lt _ (by omega)
 have i1:(IntKind.i64.wrap ((k:Int)+1)).tmod ((List.map aA.enc p).length:Int)=(((k+1) % p.length:Nat):Int):=by rw[List.length_map];exact iO (c:=1) hl (by omega) (by omega)
 refine aY q.length (fun j s=>s=((j:Int),())∧∀ i,i<j→i<q.length→bO (pt p k) (nx p k) (pt q i) (nx q i)=false) ⟨rfl,fun i h=>by omega⟩ ?_
 rintro Y j s hj ⟨rfl,hI⟩ hY
 dsimp only
 refine bJ (fun hlj=>?_) fun hgj=>hX _ hlt ⟨by rw[nw (by omega)],fun i h1 h2=>by
  rcases Nat.lt_or_ge i k with h3|h3
  ·exact hJ i h3 h2
  ·have:i=k:=by omega
   subst this;exact B2 fun m hm=>hI m (by rw[List.length_map] at hgj;omega) hm⟩
 rw[List.length_map] at hlj
 have hlj:j<q.length:=by omega
 have hne2:(!decide (((List.map aA.enc q).length:Int)=0))=true:=by rw[List.length_map,decide_eq_false (by omega)];rfl
 have hm2:(j+1) % q.length<q.length:=Nat.mod_lt _ (by omega)
 have i2:(IntKind.i64.wrap ((j:Int)+1)).tmod ((List.map aA.enc q).length:Int)=(((j+1) % q.length:Nat):Int):=by rw[List.length_map];exact iO (c:=1) hl2 (by omega) (by omega)
 rw[bR hlt,i1]
 refine ⟨hne,?_⟩
 rw[bR hm1,bR hlj,i2]
 refine ⟨hne2,?_⟩
 rw[bR hm2]
 refine aD (s:=[(false,.bool)]) (AGN (hn.pt _) (hn.pt _) (hn2.pt _) (hn2.pt _)) ?_
 refine tA (fun h=>cL (Eq.symm (dZ.2 ⟨k,hlt,dZ.2 ⟨j,hlj,h⟩⟩))) fun h=>hY _ hlj ⟨by rw[nw (by omega)],fun i h1 h2=>by
  rcases Nat.lt_or_ge i j with h3|h3
  ·exact hI i h3 h2
  ·have:i=j:=by omega
   subst this;exact h⟩
theorem D2 {p q:List Pt} (h:p.length≤1000) (h2:gM p) (h3:q.length≤1000) (h4:gM q):kK [T.sl false (List.map aA.enc p),T.sl false (List.map aA.enc q)]=some (Sh.enc [(false,.bool)] (eA p q)):=(ZH ..).trans (EP _ h h2 h3 h4)
noncomputable def NK:Env:=Env.of [(142,.pure fW),(143,.pure iU),(144,.pure kK),(145,.pure jK)]
def AEJ:FuncId→Hint:=fun f=>match f == 118 with|true=>⟨fun r=>match r == 9 with|true=>.inv [.val 4 false (.int .i64)]|false=>match r == 18 with|true=>.inv [.val 7 false (.int .i64)]|false=>.none,fun _ _=>none,fun _=>none⟩|false=>aT
theorem AJ7:aE Tryz.prog NK:=aE.cons (x:=.pure fW) IB (aE.cons (x:=.pure iU) UU (aE.cons (x:=.pure kK) ALU (aE.cons (x:=.pure jK) AMC (aE.nil _))))
def OT (a0:eL) (R:T→Prop):Prop :=
 aB (decide (8<(↑(List.map aA.li.enc a0.2).length:Int)))
 (R (T.v (.int .i64 12)))
 (aG [(false,Sy.int IntKind.i64)]
 (fW [T.sl false (List.map aA.enc a0.1)]) fun (y0:Int) =>
 aB (!decide (y0=0)) (R (T.v (.int .i64 y0)))
 (aG [(false,Sy.int IntKind.i64)]
 (iU [T.sl false (List.map aA.enc a0.1)]) fun (y1:Int) =>
 aB (decide (y1≤0)) (R (T.v (.int .i64 17)))
 (a7 (Int×PUnit)
 (fun (X2:Int×PUnit→Prop) (s3:Int×PUnit) =>
 aB (decide (s3.1<(↑(List.map aA.li.enc a0.2).length:Int)))
 (aO aA.li (List.map aA.li.enc a0.2) s3.1
 fun (y4:List aJ) =>
 aG [(false,Sy.int IntKind.i64)]
 (fW [T.sl false (List.map aA.enc y4)]) fun (y5:Int) =>
 aB (!decide (y5=0)) (R (T.v (.int .i64 y5)))
 (aG [(false,Sy.int IntKind.i64)]
 (iU [T.sl false (List.map aA.enc y4)]) fun (y6:Int) =>
 aB (decide (0≤y6)) (R (T.v (.int .i64 17)))
 (aG [(false,Sy.bool)]
 (kK
 [T.sl false (List.map aA.enc a0.1),
 T.sl false (List.map aA.enc y4)])
 fun (y7:Bool) =>
 aB y7 (R (T.v (.int .i64 17)))
 (aO aA (List.map aA.enc y4) 0 fun (y8:aJ) =>
 aG [(false,Sy.int IntKind.i64)]
 (jK
 [T.sl false (List.map aA.enc a0.1),
 aC true aA y8])
 fun (y9:Int) =>
 aB (!decide (y9=1)) (R (T.v (.int .i64 17)))
 (a7 (Int×PUnit)
 (fun (X10:Int×PUnit→Prop) (s11:Int×PUnit) =>
 aB (decide (s11.1<s3.1))
 (aO aA.li (List.map aA.li.enc a0.2) s11.1
 fun (y12:List aJ) =>
 aG [(false,Sy.bool)]
 (kK
 [T.sl false (List.map aA.enc y4),
 T.sl false (List.map aA.enc y12)])
 fun (y13:Bool) =>
 aB y13 (R (T.v (.int .i64 17)))
 (aO aA.li (List.map aA.li.enc a0.2)
 s11.1 fun (y14:List aJ) =>
 aO aA (List.map aA.enc y14) 0
 fun (y15:aJ) =>
 aG [(false,Sy.int IntKind.i64)]
 (jK
 [T.sl false (List.map aA.enc y4),
 aC true aA y15])
 fun (y16:Int) =>
 aB (!decide (y16 = -1))
 (R (T.v (.int .i64 17)))
 (aO aA.li
 (List.map aA.li.enc a0.2) s11.1
 fun (y17:List aJ) =>
 aO aA (List.map aA.enc y4) 0
 fun (y18:aJ) =>
 aG [(false,Sy.int IntKind.i64)]
 (jK
 [T.sl false (List.map aA.enc y17),
 aC true aA y18])
 fun (y19:Int) =>
 aB (!decide (y19 = -1))
 (R (T.v (.int .i64 17)))
 (X10 (IntKind.i64.wrap (s11.1+1),())))))
 (X2 (IntKind.i64.wrap (s3.1+1),())))
 (0,()))))))
 (R (T.v (.int .i64 0))))
 (0,()))))
theorem ADB ( a0 R):bA aW Tryz.prog NK AEJ 8 118 [aC true cD a0] R=OT a0 R:=by kernel_rfl
abbrev FU:Sh:=[(true,cD)]
def JV (s:eL):Option T:=some (T.v (Value.int .i64 (gI s)))
noncomputable def jA:List T→Option (T):=gS FU JV
theorem AG3 {a0}:jA [aC true cD a0]=JV (a0):=a6 (s:=FU) rfl (a0) rfl
theorem AUI (h:∀ a0 r,JV (a0)=some r→bY FU (a0)→OT a0 (fun y=>y=r)):aK Tryz.prog 118 jA :=
 aP (E:=NK) (Hs:=AEJ) AJ7 aU aV (aL rfl) 8 ⟨_,_,Tryz.func118,rfl⟩ rfl fun x r h1 h2=>by
  let a0:=x
  rw[show Sh.bK FU (a0)=[aC true cD a0] from rfl,ADB]
  exact h a0 r h1 h2
theorem AFI (p q:List Pt):eA p q=eA q p:=by
 have half:∀ {p q:List Pt},eA p q=true→eA q p=true:=fun {p q} h=>by
  obtain ⟨a,ha,hb⟩:=dZ.1 h
  obtain ⟨b,hb1,hb2⟩:=dZ.1 hb
  exact dZ.2 ⟨b,hb1,dZ.2 ⟨a,ha,by rw[mF];exact hb2⟩⟩
 rw[Bool.eq_iff_iff]
 exact ⟨half,half⟩
theorem AN {p:List Pt} {q:Pt}:cN p q<0↔cN p q = -1:=by
 unfold cN
 split
 ·omega
 ·split
  ·omega
  ·split<;>omega
theorem U2:aK Tryz.prog 118 jA:=AUI fun s r h hb=>by
 cases h
 have is:∀ {n:Int},gI s=n→T.v (.int .i64 n)=T.v (.int .i64 (gI s)):=fun h=>by rw[h]
 have nw:∀ {k:Nat},k≤3000→IntKind.i64.wrap ((k:Int)+1)=((k+1:Nat):Int):=fun h=>aQ _ (by omega) (by omega)
 unfold OT
 refine bJ (fun h=>is (by rw[List.length_map] at h;unfold gI;rw[if_pos (by omega)])) fun h1=>?_
 rw[List.length_map] at h1
 refine aD (s:=[(false,.int .i64)]) (rQ s.1) ?_
 refine gT (fun h=>is (by unfold gI;rw[if_neg (by omega),if_pos h])) fun h2=>?_
 refine aD (s:=[(false,.int .i64)]) (w8 s.1) ?_
 refine bJ (fun h=>is (by unfold gI;rw[if_neg (by omega),if_neg (by simpa using h2),if_pos h])) fun h3=>?_
 have w:gI s=bC (lP s) (List.range s.2.length):=by unfold gI;rw[if_neg (by omega),if_neg (by simpa using h2),if_neg h3]
 obtain ⟨ho3,ho32,hoN,_⟩:=dR h2
 refine gV (r:=aA.li) (lP s) (by show s.2.length≤1000000;omega) (fun X k hk hprev hok hbad=>?_) fun h0=>is (w.trans h0)
 have hk:k<s.2.length:=hk
 have hg:s.2.getD k []=s.2[k]:=by rw[List.getD_eq_getElem?_getD,List.getElem?_eq_getElem hk];rfl
 have bad:∀ {n:Int},n≠0→lP s k=n→T.v (.int .i64 n)=T.v (.int .i64 (gI s)):=fun hn h=>is (w.trans ((hbad (by rw[h];exact hn)).trans h))
 have hE:lP s k=if ¬ dB s.2[k]=0 then dB s.2[k] else if 0≤gF s.2[k]∨gB s.2[k] s.1=false then 17 else if ((List.range k).all fun j=>fP s.2[k] (s.2.getD j []))=false then 17 else 0:=by unfold lP;rw[hg]
 dsimp only
 refine aD (s:=[(false,.int .i64)]) (rQ s.2[k]) ?_
 refine gT (fun h=>bad h (by rw[hE,if_pos h])) fun p1=>?_
 refine aD (s:=[(false,.int .i64)]) (w8 s.2[k]) ?_
 refine bJ (fun h=>bad (by decide) (by rw[hE,if_neg (by simpa using p1),if_pos (.inl h)])) fun p2=>?_
 obtain ⟨hp3,hp32,hpN,_⟩:=dR p1
 have wf:=ABG (h:=s.2[k]) (o:=s.1) hpN h2 (by omega)
 refine aD (s:=[(false,.bool)]) (D2 (by omega) hoN (by omega) hpN) ?_
 rw[AFI]
 refine tA (fun h=>bad (by decide) (by rw[hE,if_neg (by simpa using p1),if_pos (.inr (by rw[wf,show eA s.2[k] s.1=true from h];rfl))])) fun pe=>?_
 have pe:eA s.2[k] s.1=false:=pe
 rw[show (0:Int)=((0:Nat):Int) from rfl,bR (p:=s.2[k]) (show 0<List.length s.2[k] by omega)]
 refine aD (s:=[(false,.int .i64)]) (vC s.1 (pt s.2[k] 0)) ?_
 refine gT (fun h=>bad (by decide) (by rw[hE,if_neg (by simpa using p1),if_pos (.inr (by rw[wf,pe,decide_eq_false (show ¬ cN s.1 (pt s.2[k] 0)=1 from h)];rfl))])) fun pw=>?_
 have p3:gB s.2[k] s.1=true:=by rw[wf,pe,decide_eq_true (show cN s.1 (pt s.2[k] 0)=1 from pw)];rfl
 have hE2:lP s k=if ((List.range k).all fun j=>fP s.2[k] (s.2.getD j []))=false then 17 else 0:=by
  rw[hE,if_neg (by simpa using p1),if_neg]
  rintro (h|h)
  ·exact p2 h
  ·rw[p3] at h;cases h
 refine aY k (fun j s'=>s'=((j:Int),())∧∀ i,i<j→fP s.2[k] (s.2.getD i [])=true) ⟨rfl,fun i h=>by omega⟩ ?_
 rintro Y j s' hj ⟨rfl,hJ⟩ hY
 dsimp only
 refine bJ (fun hlt=>?_) fun hge=>?_
 ·have hlt:j<k:=by omega
  have hjl:j<s.2.length:=by omega
  rw[aS (r:=aA.li) hjl]
  have hgj:s.2.getD j []=s.2[j]:=by rw[List.getD_eq_getElem?_getD,List.getElem?_eq_getElem hjl];rfl
  have hj0:dB s.2[j]=0:=by
   have h0:=hprev j hlt
   unfold lP at h0
   rw[hgj] at h0
   refine Classical.byContradiction fun hc=>?_
   rw[if_pos hc] at h0
   exact hc h0
  obtain ⟨hq3,hq32,hqN,_⟩:=dR hj0
  have badA:fP s.2[k] s.2[j]=false→T.v (.int .i64 17)=T.v (.int .i64 (gI s)):=fun h=>bad (by decide) (by rw[hE2,if_pos (rJ hlt (by rw[hgj];exact h))])
  refine aD (s:=[(false,.bool)]) (D2 (by omega) hpN (by omega) hqN) ?_
  refine tA (fun h=>badA (by unfold fP;rw[show eA s.2[k] s.2[j]=true from h];rfl)) fun e1=>?_
  rw[aS (r:=aA.li) hjl,bR (p:=s.2[j]) (show 0<List.length s.2[j] by omega)]
  refine aD (s:=[(false,.int .i64)]) (vC s.2[k] (pt s.2[j] 0)) ?_
  refine gT (fun h=>badA (by unfold fP;rw[decide_eq_false (show ¬ cN s.2[k] (pt s.2[j] 0)<0 from fun h'=>h (AN.1 h'))];simp)) fun e2=>?_
  rw[aS (r:=aA.li) hjl,bR (p:=s.2[k]) (show 0<List.length s.2[k] by omega)]
  refine aD (s:=[(false,.int .i64)]) (vC s.2[j] (pt s.2[k] 0)) ?_
  refine gT (fun h=>badA (by unfold fP;rw[decide_eq_false (show ¬ cN s.2[j] (pt s.2[k] 0)<0 from fun h'=>h (AN.1 h'))];simp)) fun e3=>?_
  have e4:fP s.2[k] s.2[j]=true:=by
   unfold fP
   rw[show eA s.2[k] s.2[j]=false from e1,decide_eq_true (AN.2 e2),decide_eq_true (AN.2 e3)];rfl
  exact hY _ hlt ⟨by rw[nw (by omega)],fun i hi=>by
   rcases Nat.lt_or_ge i j with h3|h3
   ·exact hJ i h3
   ·have:i=j:=by omega
    subst this;rw[hgj];exact e4⟩
 ·have:j=k:=by omega
  subst this
  rw[nw (by omega)]
  refine hok ?_
  rw[hE2,if_neg]
  rw[cE.2 hJ];simp
theorem KR (s:eL):jA [aC true cD s]=some (Sh.enc [(false,.int .i64)] (gI s)):=AG3 ..
noncomputable def F8:Env:=Env.of []
def TT:FuncId→Hint:=fun _=>aT
theorem ABN:aE Tryz.prog F8:=aE.nil _
def G2 (a0:eL) (R:T→Prop):Prop :=
 aB (List.map aA.li.enc a0.2).isEmpty
 (R (T.sl false [[T.sl false (List.map aA.enc a0.1)]]))
 (bV
 (kA 1 (List.map aA.li.enc a0.2) &&
 decide ((1+(List.map aA.li.enc a0.2).length)*24≤140737488355328) &&
 decide (1+(List.map aA.li.enc a0.2).length≤140737488355328))
 (R
 (T.sl false
 ([T.sl false (List.map aA.enc a0.1)] ::
 (List.map aA.li.enc a0.2)))))
theorem XC ( a0 R):bA aW Tryz.prog F8 TT 8 146 [aC true cD a0] R=G2 a0 R:=by kernel_rfl
abbrev zJ:Sh:=[(true,cD)]
abbrev AUW:Sh:=[(false,aA.li.li)]
def p0 (s:eL):Option T:=match decide (s.2.length≤1000) with
 | true=>some (Sh.enc AUW (s.1::s.2))
 | false=>none
noncomputable def oM:List T→Option (T):=gS zJ p0
theorem ZG {a0}:oM [aC true cD a0]=p0 (a0):=a6 (s:=zJ) rfl (a0) rfl
theorem ANA (h:∀ a0 r,p0 (a0)=some r→bY zJ (a0)→G2 a0 (fun y=>y=r)):aK Tryz.prog 146 oM :=
 aP (E:=F8) (Hs:=TT) ABN aU aV (aL rfl) 8 ⟨_,_,Tryz.func146,rfl⟩ rfl fun x r h1 h2=>by
  let a0:=x
  rw[show Sh.bK zJ (a0)=[aC true cD a0] from rfl,XC]
  exact h a0 r h1 h2
theorem ALT:aK Tryz.prog 146 oM:=ANA fun s r h hb=>by
 unfold p0 at h
 split at h
 ·rename_i hc
  have hc:s.2.length≤1000:=of_decide_eq_true hc
  cases h
  obtain ⟨o,hs⟩:=s
  unfold G2
  cases hs with
  | nil=>exact (rfl:T.sl false [[T.sl false (List.map aA.enc o)]]=_)
  | cons a l =>
   show bV _ _
   refine ⟨?_,rfl⟩
   simp only[Bool.and_eq_true,decide_eq_true_eq,List.length_map]
   have hc:(a::l).length≤1000:=hc
   exact ⟨⟨DJ (.li aA) (a::l),by omega⟩,by omega⟩
 ·cases h
noncomputable def ML:Env:=Env.of [(118,.pure jA),(146,.pure oM),(143,.pure iU)]
def ADN:FuncId→Hint:=fun f=>match f == 123 with|true=>⟨fun r=>match r == 6 with|true=>.inv [.val 3 false (.int .i64),.val 5 false (.int .i64)]|false=>.none,fun _ _=>none,fun _=>none⟩|false=>aT
theorem AJB:aE Tryz.prog ML:=aE.cons (x:=.pure jA) U2 (aE.cons (x:=.pure oM) ALT (aE.cons (x:=.pure iU) UU (aE.nil _)))
def NV (a0:eL) (R:T→Prop):Prop :=
 aG [(false,Sy.int IntKind.i64)] (jA [aC true cD a0]) fun (y0:Int) =>
 aB (!decide (y0=0)) (R (T.v (.int .i64 0)))
 (aG [(false,aA.li.li)] (oM [aC true cD a0])
 fun (y1:List (List aJ)) =>
 a7 (Int×Int×PUnit)
 (fun (X2:Int×Int×PUnit→Prop) (s3:Int×Int×PUnit) =>
 aB (decide (s3.2.1<(↑(List.map aA.li.enc y1).length:Int)))
 (aO aA.li (List.map aA.li.enc y1) s3.2.1 fun (y4:List aJ) =>
 aG [(false,Sy.int IntKind.i64)]
 (iU [T.sl false (List.map aA.enc y4)]) fun (y5:Int) =>
 X2 (IntKind.i64.wrap (s3.1+y5),IntKind.i64.wrap (s3.2.1+1),()))
 (R (T.v (.int .i64 s3.1))))
 (0,0,()))
theorem ACE ( a0 R):bA aW Tryz.prog ML ADN 8 123 [aC true cD a0] R=NV a0 R:=by kernel_rfl
abbrev E2:Sh:=[(true,cD)]
def I8 (s:eL):Option T:=some (T.v (Value.int .i64 (pW s)))
noncomputable def pC:List T→Option (T):=gS E2 I8
theorem AF0 {a0}:pC [aC true cD a0]=I8 (a0):=a6 (s:=E2) rfl (a0) rfl
theorem ATM (h:∀ a0 r,I8 (a0)=some r→bY E2 (a0)→NV a0 (fun y=>y=r)):aK Tryz.prog 123 pC :=
 aP (E:=ML) (Hs:=ADN) AJB aU aV (aL rfl) 8 ⟨_,_,Tryz.func123,rfl⟩ rfl fun x r h1 h2=>by
  let a0:=x
  rw[show Sh.bK E2 (a0)=[aC true cD a0] from rfl,ACE]
  exact h a0 r h1 h2
theorem ASA:aK Tryz.prog 123 pC:=ATM fun s r h hb=>by
 cases h
 have is:∀ {n:Int},pW s=n→T.v (.int .i64 n)=T.v (.int .i64 (pW s)):=fun h=>by rw[h]
 unfold NV
 refine aD (s:=[(false,.int .i64)]) (KR s) ?_
 refine gT (fun h=>is (by unfold pW;rw[if_neg h])) fun h=>?_
 have h8:s.2.length≤8:=(AQA h).1
 refine aD (s:=[(false,.li (.li aA))]) (y:=(s.1::s.2:List (List aJ))) ((ZG ..).trans (by unfold p0;rw[decide_eq_true (by omega)])) ?_
 have w:pW s=AVB (s.1::s.2):=by unfold pW;rw[if_pos h]
 have hlen:(s.1::s.2).length≤9:=by simp;omega
 generalize s.1::s.2=l at w hlen
 refine aY l.length (fun k t=>t=(cM k (fun i=>gF (l.getD i [])),(k:Int),())) rfl ?_
 rintro X k t hk rfl hX
 dsimp only
 refine bJ (fun hlt=>?_) fun hge=>is (by rw[List.length_map] at hge;rw[w,show k=l.length by omega];rfl)
 rw[List.length_map] at hlt
 have hlt:k<l.length:=by omega
 rw[aS (r:=aA.li) hlt]
 have hg:l.getD k []=l[k]:=by rw[List.getD_eq_getElem?_getD,List.getElem?_eq_getElem hlt];rfl
 refine aD (s:=[(false,.int .i64)]) (w8 l[k]) ?_
 refine hX _ hlt ?_
 have b1:=MH l k
 have b2:=PH l[k]
 rw[show IntKind.i64.wrap ((k:Int)+1)=((k+1:Nat):Int) from aQ _ (by omega) (by omega),aQ _ (by omega) (by omega),cM,hg]
theorem AF1 (s:eL):pC [aC true cD s]=some (Sh.enc [(false,.int .i64)] (pW s)):=AF0 ..
end Go.Pv
namespace Go.Pv
open Go Go.Proofs
noncomputable def GW:Env:=Env.of []
def UF:FuncId→Hint:=fun _=>aT
theorem AB9:aE Tryz.prog GW:=aE.nil _
def HO (a0:uP) (R:T→Prop):Prop :=
 aB (decide (-524288≤a0.1.1))
 (aB (decide (a0.1.1≤524288))
 (aB (decide (-524288≤a0.1.2.1))
 (aB (decide (a0.1.2.1≤524288))
 (aB (decide (-524288≤a0.1.2.2))
 (aB (decide (a0.1.2.2≤524288))
 (aB (decide (0≤a0.2)) (R (T.v (.bool (decide (a0.2≤23)))))
 (R (T.v (.bool false))))
 (R (T.v (.bool false))))
 (R (T.v (.bool false))))
 (R (T.v (.bool false))))
 (R (T.v (.bool false))))
 (R (T.v (.bool false))))
 (R (T.v (.bool false)))
theorem YK ( a0 R):bA aW Tryz.prog GW UF 8 120 [aC true cV a0] R=HO a0 R:=by kernel_rfl
abbrev AD:Sh:=[(true,cV)]
def C7 (p:uP):Option T:=some (T.v (.bool (iL p)))
noncomputable def iJ:List T→Option (T):=gS AD C7
theorem Z5 {a0}:iJ [aC true cV a0]=C7 (a0):=a6 (s:=AD) rfl (a0) rfl
theorem ANX (h:∀ a0 r,C7 (a0)=some r→bY AD (a0)→HO a0 (fun y=>y=r)):aK Tryz.prog 120 iJ :=
 aP (E:=GW) (Hs:=UF) AB9 aU aV (aL rfl) 8 ⟨_,_,Tryz.func120,rfl⟩ rfl fun x r h1 h2=>by
  let a0:=x
  rw[show Sh.bK AD (a0)=[aC true cV a0] from rfl,YK]
  exact h a0 r h1 h2
theorem AL9:aK Tryz.prog 120 iJ:=ANX fun p r h hb=>by
 cases h
 unfold HO
 have pb:iL p=true↔((-524288≤p.1.1∧p.1.1≤524288)∧(-524288≤p.1.2.1∧p.1.2.1≤524288)∧(-524288≤p.1.2.2∧p.1.2.2≤524288))∧0≤p.2∧p.2≤23:=by
  unfold iL iF AHY
  simp only[Bool.and_eq_true,decide_eq_true_eq]
  by_cases h:p.2<0∨24≤p.2
  ·rw[if_pos h];omega
  ·rw[if_neg h];omega
 have no:¬ (((-524288≤p.1.1∧p.1.1≤524288)∧(-524288≤p.1.2.1∧p.1.2.1≤524288)∧(-524288≤p.1.2.2∧p.1.2.2≤524288))∧0≤p.2∧p.2≤23)→T.v (.bool false)=T.v (.bool (iL p)):=fun h=>cL (Eq.symm (by rw[Bool.eq_false_iff];exact fun h2=>h (pb.1 h2)))
 refine bJ (fun h1=>bJ (fun h2=>bJ (fun h3=>bJ (fun h4=>bJ (fun h5=>bJ (fun h6=>bJ (fun h7=>cL ?_) fun h=>no (by omega)) fun h=>no (by omega)) fun h=>no (by omega)) fun h=>no (by omega)) fun h=>no (by omega)) fun h=>no (by omega)) fun h=>no (by omega)
 rw[Bool.eq_iff_iff,pb,decide_eq_true_eq]
 omega
def lC (l:List Int):Int:=if l.length=0 then 3 else if 16<l.length then 4 else bC (nV l) (List.range l.length)
noncomputable def BK:Env:=Env.of []
def O5:FuncId→Hint:=fun f=>match f == 112 with|true=>⟨fun r=>match r == 6 with|true=>.inv [.val 3 false (.int .i64)]|false=>.none,fun _ _=>none,fun _=>none⟩|false=>aT
theorem W2:aE Tryz.prog BK:=aE.nil _
def BT (a0:List Int) (R:T→Prop):Prop :=
 aB (decide ((↑(List.map (Sy.int IntKind.i64).enc a0).length:Int)=0))
 (R (T.v (.int .i64 3)))
 (aB (decide (16<(↑(List.map (Sy.int IntKind.i64).enc a0).length:Int)))
 (R (T.v (.int .i64 4)))
 (a7 (Int×PUnit)
 (fun (X0:Int×PUnit→Prop) (s1:Int×PUnit) =>
 aB (decide (s1.1<(↑(List.map (Sy.int IntKind.i64).enc a0).length:Int)))
 (aO (Sy.int IntKind.i64) (List.map (Sy.int IntKind.i64).enc a0) s1.1
 fun (y2:Int) =>
 aB (decide (1≤y2))
 (aB (!decide (y2≤120)) (R (T.v (.int .i64 9)))
 (aB (decide (0<s1.1))
 (aO (Sy.int IntKind.i64) (List.map (Sy.int IntKind.i64).enc a0) s1.1
 fun (y3:Int) =>
 aO (Sy.int IntKind.i64) (List.map (Sy.int IntKind.i64).enc a0)
 (IntKind.i64.wrap (s1.1-1)) fun (y4:Int) =>
 aB (decide (y3≤y4)) (R (T.v (.int .i64 11)))
 (X0 (IntKind.i64.wrap (s1.1+1),())))
 (X0 (IntKind.i64.wrap (s1.1+1),()))))
 (R (T.v (.int .i64 9))))
 (R (T.v (.int .i64 0))))
 (0,())))
theorem S0 ( a0 R):bA aW Tryz.prog BK O5 8 112 [aC false (Sy.int IntKind.i64).li a0] R=BT a0 R:=by kernel_rfl
abbrev vT:Sh:=[(false,(Sy.int IntKind.i64).li)]
def x9 (l:List Int):Option T:=some (T.v (Value.int .i64 (lC l)))
noncomputable def l6:List T→Option (T):=gS vT x9
theorem TC {a0}:l6 [T.sl false (List.map (Sy.int IntKind.i64).enc a0)]=x9 (a0):=a6 (s:=vT) rfl (a0) rfl
theorem AH2 (h:∀ a0 r,x9 (a0)=some r→bY vT (a0)→BT a0 (fun y=>y=r)):aK Tryz.prog 112 l6 :=
 aP (E:=BK) (Hs:=O5) W2 aU aV (aL rfl) 8 ⟨_,_,Tryz.func112,rfl⟩ rfl fun x r h1 h2=>by
  let a0:=x
  rw[show Sh.bK vT (a0)=[aC false (Sy.int IntKind.i64).li a0] from rfl,S0]
  exact h a0 r h1 h2
theorem AFO:aK Tryz.prog 112 l6:=AH2 fun l r h hb=>by
 cases h
 have is:∀ {n:Int},lC l=n→T.v (.int .i64 n)=T.v (.int .i64 (lC l)):=fun h=>by rw[h]
 unfold BT
 refine bJ (fun h=>is (by rw[List.length_map] at h;unfold lC;rw[if_pos (by omega)])) fun h5=>?_
 refine bJ (fun h=>is (by rw[List.length_map] at h h5;unfold lC;rw[if_neg (by omega),if_pos (by omega)])) fun h6=>?_
 rw[List.length_map] at h5 h6
 have w:lC l=bC (nV l) (List.range l.length):=by unfold lC;rw[if_neg (by omega),if_neg (by omega)]
 refine gV (r:=.int .i64) (nV l) (by show l.length≤1000000;omega) (fun X k hk hprev hok hbad=>?_) fun h0=>is (w.trans h0)
 have hk:k<l.length:=hk
 have bad:∀ {n:Int},n≠0→nV l k=n→T.v (.int .i64 n)=T.v (.int .i64 (lC l)):=fun hn h=>is (w.trans ((hbad (by rw[h];exact hn)).trans h))
 have hE:nV l k=if ¬ (1≤l[k]∧l[k]≤120) then 9 else if 0<k∧l[k]≤l.getD (k-1) 0 then 11 else 0:=by unfold nV;rw[gK hk]
 dsimp only
 rw[sR (by omega)]
 refine bJ (fun p1=>gT (fun h=>bad (by decide) (by rw[hE,if_pos (by omega)])) fun p2=>?_) fun h=>bad (by decide) (by rw[hE,if_pos (by omega)])
 refine bJ (fun p3=>?_) fun p3=>hok (by rw[hE,if_neg (by omega),if_neg (by omega)])
 have k0:0<k:=by omega
 rw[aS (r:=.int .i64) hk,zF (r:=.int .i64) hk k0 (by show l.length≤1000000;omega)]
 have hg1:l.getD (k-1) 0=l[k-1]'(by omega):=gK (by omega)
 exact bJ (fun h=>bad (by decide) (by rw[hE,if_neg (by omega),hg1,if_pos ⟨k0,h⟩])) fun h=>hok (by rw[hE,if_neg (by omega),hg1,if_neg (fun hc=>h hc.2)])
theorem TI (g:cR):eX g=if isName g.1=false then 6 else if ¬ (1000≤g.2.1∧g.2.1≤20000∧100≤g.2.2.1∧g.2.2.1≤1500) then 9 else lC g.2.2.2:=rfl
noncomputable def BL:Env:=Env.of [(74,.pure dD),(112,.pure l6)]
def O6:FuncId→Hint:=fun f=>match f == 73 with|true=>⟨fun r=>match r == 2 with|true=>.inv [.val 3 false (.int .i64)]|false=>.none,fun _ _=>none,fun _=>none⟩|false=>aT
theorem W3:aE Tryz.prog BL:=aE.cons (x:=.pure dD) rO (aE.cons (x:=.pure l6) AFO (aE.nil _))
def BU (a0:List cR) (R:T→Prop):Prop :=
 a7 (Int×PUnit)
 (fun (X0:Int×PUnit→Prop) (s1:Int×PUnit) =>
 aB (decide (s1.1<(↑(List.map bD.enc a0).length:Int)))
 (aO bD (List.map bD.enc a0) s1.1 fun (y2:cR) =>
 aG [(false,Sy.bool)] (dD [T.v (.string y2.1)]) fun (y3:Bool) =>
 aB (!y3) (R (T.v (.int .i64 6)))
 (aO bD (List.map bD.enc a0) s1.1 fun (y4:cR) =>
 aB (decide (1000≤y4.2.1))
 (aB (!decide (y4.2.1≤20000)) (R (T.v (.int .i64 9)))
 (aO bD (List.map bD.enc a0) s1.1 fun (y5:cR) =>
 aB (decide (100≤y5.2.2.1))
 (aB (!decide (y5.2.2.1≤1500)) (R (T.v (.int .i64 9)))
 (aO bD (List.map bD.enc a0) s1.1 fun (y6:cR) =>
 aG [(false,Sy.int IntKind.i64)]
 (l6
 [T.sl false (List.map (Sy.int IntKind.i64).enc y6.2.2.2)])
 fun (y7:Int) =>
 aB (!decide (y7=0)) (R (T.v (.int .i64 y7)))
 (aB (decide (0<s1.1))
 (aO bD (List.map bD.enc a0) s1.1
 fun (y8:cR) =>
 aO bD (List.map bD.enc a0)
 (IntKind.i64.wrap (s1.1-1)) fun (y9:cR) =>
 aB (eP y8.1 y9.1||decide (y8.1=y9.1))
 (R (T.v (.int .i64 11)))
 (X0 (IntKind.i64.wrap (s1.1+1),())))
 (X0 (IntKind.i64.wrap (s1.1+1),())))))
 (R (T.v (.int .i64 9)))))
 (R (T.v (.int .i64 9)))))
 (R (T.v (.int .i64 0))))
 (0,())
theorem S1 ( a0 R):bA aW Tryz.prog BL O6 8 73 [aC false bD.li a0] R=BU a0 R:=by kernel_rfl
abbrev vU:Sh:=[(false,bD.li)]
def nP (l:List cR):Option T:=match decide (l.length≤1000) with
 | true=>some (T.v (Value.int .i64 (bC (jB (l,[])) (List.range l.length))))
 | false=>none
noncomputable def l7:List T→Option (T):=gS vU nP
theorem TD {a0}:l7 [T.sl false (List.map bD.enc a0)]=nP (a0):=a6 (s:=vU) rfl (a0) rfl
theorem AH3 (h:∀ a0 r,nP (a0)=some r→bY vU (a0)→BU a0 (fun y=>y=r)):aK Tryz.prog 73 l7 :=
 aP (E:=BL) (Hs:=O6) W3 aU aV (aL rfl) 8 ⟨_,_,Tryz.func73,rfl⟩ rfl fun x r h1 h2=>by
  let a0:=x
  rw[show Sh.bK vU (a0)=[aC false bD.li a0] from rfl,S1]
  exact h a0 r h1 h2
theorem AFP:aK Tryz.prog 73 l7:=AH3 fun l r h hb=>by
 unfold nP at h
 split at h
 case h_2=>cases h
 rename_i hl
 have hl:l.length≤1000:=of_decide_eq_true hl
 cases h
 unfold BU
 refine gV (r:=bD) (jB (l,[])) (by show l.length≤1000000;omega) (fun X k hk hprev hok hbad=>?_) fun h0=>by rw[h0]
 have hk:k<l.length:=hk
 have bad:∀ {n:Int},n≠0→jB (l,[]) k=n→T.v (.int .i64 n)=T.v (.int .i64 (bC (jB (l,[])) (List.range l.length))):=fun hn h=>by rw[hbad (by rw[h];exact hn),h]
 have hE:jB (l,[]) k=if ¬ eX l[k]=0 then eX l[k] else if 0<k∧A8 l[k].1 (l.getD (k-1) dI).1=true then 11 else 0:=by unfold jB;dsimp only;rw[gK hk]
 have hG:=TI l[k]
 have badG:∀ {n:Int},n≠0→eX l[k]=n→T.v (.int .i64 n)=T.v (.int .i64 (bC (jB (l,[])) (List.range l.length))):=fun hn h=>bad hn (by rw[hE,if_pos (by rw[h];exact hn),h])
 dsimp only
 rw[sR (by omega)]
 refine aD (s:=[(false,.bool)]) (y:=isName l[k].1) mO ?_
 refine dK (fun h=>badG (by decide) (by rw[hG,if_pos h])) fun hn=>?_
 have hn':¬ isName l[k].1=false:=by rw[hn];simp
 rw[aS (r:=bD) hk]
 have r9:¬ (1000≤l[k].2.1∧l[k].2.1≤20000∧100≤l[k].2.2.1∧l[k].2.2.1≤1500)→T.v (.int .i64 9)=T.v (.int .i64 (bC (jB (l,[])) (List.range l.length))):=fun h=>badG (by decide) (by rw[hG,if_neg hn',if_pos h])
 refine bJ (fun h1=>gT (fun h=>r9 (by omega)) fun h2=>?_) fun h=>r9 (by omega)
 rw[aS (r:=bD) hk]
 refine bJ (fun h3=>gT (fun h=>r9 (by omega)) fun h4=>?_) fun h=>r9 (by omega)
 rw[aS (r:=bD) hk]
 have hG2:eX l[k]=lC l[k].2.2.2:=by rw[hG,if_neg hn',if_neg (by omega)]
 refine aD (s:=[(false,.int .i64)]) (y:=lC l[k].2.2.2) (TC ..) ?_
 refine gT (fun h=>badG h hG2) fun h5=>?_
 have z:eX l[k]=0:=hG2.trans h5
 refine bJ (fun p3=>?_) fun p3=>hok (by rw[hE,if_neg (fun h=>h z),if_neg (by omega)])
 have k0:0<k:=by omega
 rw[aS (r:=bD) hk,zF (r:=bD) hk k0 (by show l.length≤1000000;omega)]
 have hg1:l.getD (k-1) dI=l[k-1]'(by omega):=gK (by omega)
 exact tA (fun h=>bad (by decide) (by rw[hE,if_neg (fun h=>h z),hg1,if_pos ⟨k0,h⟩])) fun h=>hok (by rw[hE,if_neg (fun h=>h z),hg1,if_neg (fun hc=>by rw[show A8 l[k].1 (l[k-1]'(by omega)).1=false from h] at hc;cases hc.2)])
noncomputable def M0:Env:=Env.of [(74,.pure dD),(73,.pure l7)]
def AD1:FuncId→Hint:=fun f=>match f == 30 with|true=>⟨fun r=>match r == 7 with|true=>.inv [.val 4 false (.int .i64)]|false=>.none,fun _ _=>none,fun _=>none⟩|false=>aT
theorem AJP:aE Tryz.prog M0:=aE.cons (x:=.pure dD) rO (aE.cons (x:=.pure l7) AFP (aE.nil _))
def OA (a0:aN) (R:T→Prop):Prop :=
 aB (decide (16<(↑(List.map bD.enc a0.1).length:Int)))
 (R (T.v (.int .i64 4)))
 (aB (decide (32<(↑(List.map aZ.enc a0.2).length:Int)))
 (R (T.v (.int .i64 4)))
 (aG [(false,Sy.int IntKind.i64)]
 (l7 [T.sl false (List.map bD.enc a0.1)]) fun (y0:Int) =>
 aB (!decide (y0=0)) (R (T.v (.int .i64 y0)))
 (a7 (Int×PUnit)
 (fun (X1:Int×PUnit→Prop) (s2:Int×PUnit) =>
 aB (decide (s2.1<(↑(List.map aZ.enc a0.2).length:Int)))
 (aO aZ (List.map aZ.enc a0.2) s2.1 fun (y3:bQ) =>
 aG [(false,Sy.bool)] (dD [T.v (.string y3.1)])
 fun (y4:Bool) =>
 aB (!y4) (R (T.v (.int .i64 6)))
 (aB (decide (1≤y3.2.1))
 (aB (!decide (y3.2.1≤1000000)) (R (T.v (.int .i64 9)))
 (aB (decide (1≤y3.2.2.1))
 (aB (!decide (y3.2.2.1≤2000)) (R (T.v (.int .i64 9)))
 (aB (decide (100≤y3.2.2.2))
 (aB (!decide (y3.2.2.2≤32768))
 (R (T.v (.int .i64 9)))
 (aB (decide (0<s2.1))
 (aO aZ (List.map aZ.enc a0.2)
 (IntKind.i64.wrap (s2.1-1)) fun (y5:bQ) =>
 aB (eP y3.1 y5.1||decide (y3.1=y5.1))
 (R (T.v (.int .i64 11)))
 (X1 (IntKind.i64.wrap (s2.1+1),())))
 (X1 (IntKind.i64.wrap (s2.1+1),()))))
 (R (T.v (.int .i64 9)))))
 (R (T.v (.int .i64 9)))))
 (R (T.v (.int .i64 9)))))
 (R (T.v (.int .i64 0))))
 (0,()))))
theorem ACT ( a0 R):bA aW Tryz.prog M0 AD1 8 30 [aC true aH a0] R=OA a0 R:=by kernel_rfl
abbrev FB:Sh:=[(true,aH)]
def JH (m:aN):Option T:=some (T.v (Value.int .i64 (lE m)))
noncomputable def tR:List T→Option (T):=gS FB JH
theorem AGJ {a0}:tR [aC true aH a0]=JH (a0):=a6 (s:=FB) rfl (a0) rfl
theorem AT0 (h:∀ a0 r,JH (a0)=some r→bY FB (a0)→OA a0 (fun y=>y=r)):aK Tryz.prog 30 tR :=
 aP (E:=M0) (Hs:=AD1) AJP aU aV (aL rfl) 8 ⟨_,_,Tryz.func30,rfl⟩ rfl fun x r h1 h2=>by
  let a0:=x
  rw[show Sh.bK FB (a0)=[aC true aH a0] from rfl,ACT]
  exact h a0 r h1 h2
theorem ASM:aK Tryz.prog 30 tR:=AT0 fun m r h hb=>by
 cases h
 have is:∀ {n:Int},lE m=n→T.v (.int .i64 n)=T.v (.int .i64 (lE m)):=fun h=>by rw[h]
 unfold OA
 refine bJ (fun h=>is (by rw[List.length_map] at h;unfold lE;rw[if_pos (by omega)])) fun h1=>?_
 refine bJ (fun h=>is (by rw[List.length_map] at h;unfold lE;rw[if_pos (by omega)])) fun h2=>?_
 rw[List.length_map] at h1 h2
 refine aD (s:=[(false,.int .i64)]) (y:=bC (jB m) (List.range m.1.length)) ((TD ..).trans (by unfold nP;rw[decide_eq_true (by omega)];rfl)) ?_
 refine gT (fun h=>is (by unfold lE;rw[if_neg (by omega),if_pos h])) fun h0=>?_
 have w:lE m=bC (RX m) (List.range m.2.length):=by unfold lE;rw[if_neg (by omega),if_neg (fun h=>h h0)]
 refine gV (r:=aZ) (RX m) (by show m.2.length≤1000000;omega) (fun X k hk hprev hok hbad=>?_) fun h0=>is (w.trans h0)
 have hk:k<m.2.length:=hk
 have bad:∀ {n:Int},n≠0→RX m k=n→T.v (.int .i64 n)=T.v (.int .i64 (lE m)):=fun hn h=>is (w.trans ((hbad (by rw[h];exact hn)).trans h))
 have hE:RX m k=if ¬ vZ m.2[k]=0 then vZ m.2[k] else if 0<k∧A8 m.2[k].1 (m.2.getD (k-1) nE).1=true then 11 else 0:=by unfold RX;rw[gK hk]
 have badG:∀ {n:Int},n≠0→vZ m.2[k]=n→T.v (.int .i64 n)=T.v (.int .i64 (lE m)):=fun hn h=>bad hn (by rw[hE,if_pos (by rw[h];exact hn),h])
 dsimp only
 rw[sR (by omega)]
 refine aD (s:=[(false,.bool)]) (y:=isName m.2[k].1) mO ?_
 refine dK (fun h=>badG (by decide) (by unfold vZ;rw[if_pos h])) fun hn=>?_
 have hn':¬ isName m.2[k].1=false:=by rw[hn];simp
 have r9:¬ (1≤m.2[k].2.1∧m.2[k].2.1≤1000000∧1≤m.2[k].2.2.1∧m.2[k].2.2.1≤2000∧100≤m.2[k].2.2.2∧m.2[k].2.2.2≤32768)→T.v (.int .i64 9)=T.v (.int .i64 (lE m)):=fun h=>badG (by decide) (by unfold vZ;rw[if_neg hn',if_pos h])
 refine bJ (fun h1=>gT (fun h=>r9 (by omega)) fun h2=>bJ (fun h3=>gT (fun h=>r9 (by omega)) fun h4=>bJ (fun h5=>gT (fun h=>r9 (by omega)) fun h6=>?_) fun h=>r9 (by omega)) fun h=>r9 (by omega)) fun h=>r9 (by omega)
 have z:vZ m.2[k]=0:=by unfold vZ;rw[if_neg hn',if_neg (by omega)]
 refine bJ (fun p3=>?_) fun p3=>hok (by rw[hE,if_neg (fun h=>h z),if_neg (by omega)])
 have k0:0<k:=by omega
 rw[zF (r:=aZ) hk k0 (by show m.2.length≤1000000;omega)]
 have hg1:m.2.getD (k-1) nE=m.2[k-1]'(by omega):=gK (by omega)
 exact tA (fun h=>bad (by decide) (by rw[hE,if_neg (fun h=>h z),hg1,if_pos ⟨k0,h⟩])) fun h=>hok (by rw[hE,if_neg (fun h=>h z),hg1,if_neg (fun hc=>by rw[show A8 m.2[k].1 (m.2[k-1]'(by omega)).1=false from h] at hc;cases hc.2)])
noncomputable def BN:Env:=Env.of []
def O8:FuncId→Hint:=fun f=>match f == 121 with|true=>⟨fun r=>match r == 2 with|true=>.inv [.val 6 false (.int .i64),.fix 1]|false=>.none,fun _ _=>none,fun _=>none⟩|false=>aT
theorem W5:aE Tryz.prog BN:=aE.nil _
def BW (a0:aN) (a1:ByteArray) (R:T→Prop):Prop :=
 fB
 (a8.rows false
 [[D.p (T.v (.string { data:=#[] })),D.p (T.v (.int .i64 0)),
 D.p (T.v (.int .i64 0)),D.p (T.v (Value.slice none 0 0))]])
 (a8.rows false
 [[D.p (T.v (.string { data:=#[] })),D.p (T.v (.int .i64 0)),
 D.p (T.v (.int .i64 0)),D.p (T.v (Value.slice none 0 0))]])
 (a7 (Int×PUnit×PUnit)
 (fun (X0:Int×PUnit×PUnit→Prop) (s1:Int×PUnit×PUnit) =>
 aB (decide (s1.1<(↑(List.map bD.enc a0.1).length:Int)))
 (aO bD (List.map bD.enc a0.1) s1.1 fun (y2:cR) =>
 aB (decide (y2.1=a1))
 (aO bD (List.map bD.enc a0.1) s1.1 fun (y3:cR) =>
 bV
 (kA 1 (List.map (Sy.int IntKind.i64).enc y3.2.2.2)&&true &&
 decide ((List.map (Sy.int IntKind.i64).enc y3.2.2.2).length*8≤140737488355328) &&
 decide ((List.map (Sy.int IntKind.i64).enc y3.2.2.2).length≤140737488355328))
 (R (T.cQ [aC true bD y3,T.v (.bool true)])))
 (fB
 (a8.rows false
 [[D.p (T.v (.string { data:=#[] })),
 D.p (T.v (.int .i64 0)),
 D.p (T.v (.int .i64 0)),
 D.p (T.v (Value.slice none 0 0))]])
 (a8.rows false
 [[D.p (T.v (.string { data:=#[] })),
 D.p (T.v (.int .i64 0)),
 D.p (T.v (.int .i64 0)),
 D.p (T.v (Value.slice none 0 0))]])
 (X0 (IntKind.i64.wrap (s1.1+1),(),()))))
 (R
 (T.cQ
 [T.agg
 [T.v (.string { data:=#[] }),T.v (.int .i64 0),
 T.v (.int .i64 0),T.sl false []],
 T.v (.bool false)])))
 (0,(),()))
theorem S3 ( a0 a1 R):bA aW Tryz.prog BN O8 8 121 [aC true aH a0,aC false Sy.str a1] R=BW a0 a1 R:=by kernel_rfl
abbrev vW:Sh:=[(true,aH),(false,Sy.str)]
def yA (x:aN×ByteArray):Option T:=xS x.1 (Sh.enc [(true,bD),(false,.bool)] (found dI (cH x.1 x.2)))
noncomputable def eB:List T→Option (T):=gS vW yA
theorem TE {a0 a1}:eB [aC true aH a0,T.v (.string a1)]=yA (a0,a1):=a6 (s:=vW) rfl (a0,a1) rfl
theorem AH5 (h:∀ a0 a1 r,yA (a0,a1)=some r→bY vW (a0,a1)→BW a0 a1 (fun y=>y=r)):aK Tryz.prog 121 eB :=
 aP (E:=BN) (Hs:=O8) W5 aU aV (aL rfl) 8 ⟨_,_,Tryz.func121,rfl⟩ rfl fun x r h1 h2=>by
  obtain ⟨a0,a1⟩:=x
  rw[show Sh.bK vW (a0,a1)=[aC true aH a0,aC false Sy.str a1] from rfl,S3]
  exact h a0 a1 r h1 h2
theorem w7:aK Tryz.prog 121 eB:=AH5 fun m n r h hb=>by
 obtain ⟨hok,rfl⟩:=pR h
 clear h
 simp only[A9,Bool.and_eq_true,decide_eq_true_eq] at hok
 unfold BW
 rw[cG]
 refine aY m.1.length (fun k s=>s.1=(k:Int)∧(m.1.drop k).find? (fun s=>decide (s.1=n))=cH m n) ⟨rfl,rfl⟩ ?_
 rintro X k ⟨i,u1,u2⟩ hk ⟨rfl,hf⟩ hX
 dsimp only at hf ⊢
 refine bJ (fun hlt=>?_) fun hge=>?_
 ·rw[List.length_map] at hlt
  have hlt:k<m.1.length:=by omega
  rw[lW hlt] at hf
  rw[aS (r:=bD) hlt]
  refine bJ (fun hc=>?_) fun hc=>?_
  ·rw[if_pos (decide_eq_true hc)] at hf
   rw[aS (r:=bD) hlt]
   have hg:m.1[k].2.2.2.length≤1000:=by
    have:=List.all_eq_true.1 hok.2 _ (List.getElem_mem hlt)
    exact of_decide_eq_true this
   refine ⟨?_,?_⟩
   ·rw[show kA 1 (List.map (Sy.int IntKind.i64).enc m.1[k].2.2.2)=true from DJ (.int .i64) _,List.length_map,decide_eq_true (by omega),decide_eq_true (by omega)];rfl
   ·show _=Sh.enc [(true,bD),(false,.bool)] (found dI (cH m n))
    rw[←hf];rfl
  ·rw[if_neg (by simpa using hc)] at hf
   rw[cG]
   exact hX _ hlt ⟨sR (by omega),hf⟩
 ·rw[List.length_map] at hge
  have:k=m.1.length:=by omega
  subst this
  rw[List.drop_length] at hf
  show _=Sh.enc [(true,bD),(false,.bool)] (found dI (cH m n))
  rw[←hf];rfl
theorem sD {m:aN} (h:A9 m=true) (n:ByteArray):eB [aC true aH m,T.v (.string n)]=some (Sh.enc [(true,bD),(false,.bool)] (found dI (cH m n))):=(TE ..).trans (pS _ h)
noncomputable def M5:Env:=Env.of []
def AD5:FuncId→Hint:=fun f=>match f == 122 with|true=>⟨fun r=>match r == 2 with|true=>.inv [.val 6 false (.int .i64),.fix 1]|false=>.none,fun _ _=>none,fun _=>none⟩|false=>aT
theorem AJT:aE Tryz.prog M5:=aE.nil _
def OF (a0:aN) (a1:ByteArray) (R:T→Prop):Prop :=
 fB
 (a8.rows false
 [[D.p (T.v (.string { data:=#[] })),D.p (T.v (.int .i64 0)),
 D.p (T.v (.int .i64 0)),D.p (T.v (.int .i64 0))]])
 (a8.rows false
 [[D.p (T.v (.string { data:=#[] })),D.p (T.v (.int .i64 0)),
 D.p (T.v (.int .i64 0)),D.p (T.v (.int .i64 0))]])
 (a7 (Int×PUnit×PUnit)
 (fun (X0:Int×PUnit×PUnit→Prop) (s1:Int×PUnit×PUnit) =>
 aB (decide (s1.1<(↑(List.map aZ.enc a0.2).length:Int)))
 (aO aZ (List.map aZ.enc a0.2) s1.1 fun (y2:bQ) =>
 aB (decide (y2.1=a1))
 (aO aZ (List.map aZ.enc a0.2) s1.1 fun (y3:bQ) =>
 R (T.cQ [aC true aZ y3,T.v (.bool true)]))
 (fB
 (a8.rows false
 [[D.p (T.v (.string { data:=#[] })),
 D.p (T.v (.int .i64 0)),
 D.p (T.v (.int .i64 0)),
 D.p (T.v (.int .i64 0))]])
 (a8.rows false
 [[D.p (T.v (.string { data:=#[] })),
 D.p (T.v (.int .i64 0)),
 D.p (T.v (.int .i64 0)),
 D.p (T.v (.int .i64 0))]])
 (X0 (IntKind.i64.wrap (s1.1+1),(),()))))
 (R
 (T.cQ
 [T.agg
 [T.v (.string { data:=#[] }),T.v (.int .i64 0),
 T.v (.int .i64 0),T.v (.int .i64 0)],
 T.v (.bool false)])))
 (0,(),()))
theorem ACX ( a0 a1 R):bA aW Tryz.prog M5 AD5 8 122 [aC true aH a0,aC false Sy.str a1] R=OF a0 a1 R:=by kernel_rfl
abbrev FF:Sh:=[(true,aH),(false,Sy.str)]
def JL (x:aN×ByteArray):Option T:=some (Sh.enc [(true,aZ),(false,.bool)] (found nE (pY x.1 x.2)))
noncomputable def jT:List T→Option (T):=gS FF JL
theorem AGP {a0 a1}:jT [aC true aH a0,T.v (.string a1)]=JL (a0,a1):=a6 (s:=FF) rfl (a0,a1) rfl
theorem AT4 (h:∀ a0 a1 r,JL (a0,a1)=some r→bY FF (a0,a1)→OF a0 a1 (fun y=>y=r)):aK Tryz.prog 122 jT :=
 aP (E:=M5) (Hs:=AD5) AJT aU aV (aL rfl) 8 ⟨_,_,Tryz.func122,rfl⟩ rfl fun x r h1 h2=>by
  obtain ⟨a0,a1⟩:=x
  rw[show Sh.bK FF (a0,a1)=[aC true aH a0,aC false Sy.str a1] from rfl,ACX]
  exact h a0 a1 r h1 h2
theorem UW:aK Tryz.prog 122 jT:=AT4 fun m n r h hb=>by
 cases h
 have hl:m.2.length≤2 ^ 47:=hb.1.2.1
 unfold OF
 rw[cG]
 refine aY m.2.length (fun k s=>s.1=(k:Int)∧(m.2.drop k).find? (fun s=>decide (s.1=n))=pY m n) ⟨rfl,rfl⟩ ?_
 rintro X k ⟨i,u1,u2⟩ hk ⟨rfl,hf⟩ hX
 dsimp only at hf ⊢
 refine bJ (fun hlt=>?_) fun hge=>?_
 ·rw[List.length_map] at hlt
  have hlt:k<m.2.length:=by omega
  rw[lW hlt] at hf
  rw[aS (r:=aZ) hlt]
  refine bJ (fun hc=>?_) fun hc=>?_
  ·rw[if_pos (decide_eq_true hc)] at hf
   rw[aS (r:=aZ) hlt]
   show _=Sh.enc [(true,aZ),(false,.bool)] (found nE (pY m n))
   rw[←hf];rfl
  ·rw[if_neg (by simpa using hc)] at hf
   rw[cG]
   exact hX _ hlt ⟨by show IntKind.i64.wrap ((k:Int)+1)=_;exact aQ _ (by omega) (by omega),hf⟩
 ·rw[List.length_map] at hge
  have:k=m.2.length:=by omega
  subst this
  rw[List.drop_length] at hf
  show _=Sh.enc [(true,aZ),(false,.bool)] (found nE (pY m n))
  rw[←hf];rfl
theorem KM (m:aN) (n:ByteArray):jT [aC true aH m,T.v (.string n)]=some (Sh.enc [(true,aZ),(false,.bool)] (found nE (pY m n))):=AGP ..
noncomputable def wP:Env:=Env.of [(121,.pure eB)]
def J8:FuncId→Hint:=fun f=>match f == 141 with|true=>⟨fun r=>match r == 3 with|true=>.inv [.val 9 false (.int .i64)]|false=>.none,fun _ _=>none,fun _=>none⟩|false=>aT
theorem SX:aE Tryz.prog wP:=aE.cons (x:=.pure eB) w7 (aE.nil _)
def wR (a0:aN) (a1:ByteArray) (a2:Int) (R:T→Prop):Prop :=
 aG [(true,bD),(false,Sy.bool)]
 (eB [aC true aH a0,T.v (.string a1)])
 fun (y0:cR×Bool) =>
 a7 (Int×PUnit)
 (fun (X1:Int×PUnit→Prop) (s2:Int×PUnit) =>
 aB (decide (s2.1<(↑(List.map (Sy.int IntKind.i64).enc y0.1.2.2.2).length:Int)))
 (aO (Sy.int IntKind.i64) (List.map (Sy.int IntKind.i64).enc y0.1.2.2.2)
 s2.1 fun (y3:Int) =>
 aB (decide (y3=a2)) (R (T.v (.bool true)))
 (X1 (IntKind.i64.wrap (s2.1+1),())))
 (R (T.v (.bool false))))
 (0,())
theorem OE ( a0 a1 a2 R):bA aW Tryz.prog wP J8 8 141 [aC true aH a0,aC false Sy.str a1,
 aC false (Sy.int IntKind.i64) a2] R=wR a0 a1 a2 R:=by kernel_rfl
abbrev r5:Sh:=[(true,aH),(false,Sy.str),(false,(Sy.int IntKind.i64))]
def v7 (x:aN×ByteArray×Int):Option T:=xS x.1 (T.v (.bool (gX x.1 x.2.1 x.2.2)))
noncomputable def iV:List T→Option (T):=gS r5 v7
theorem QS {a0 a1 a2}:iV [aC true aH a0,T.v (.string a1),T.v (.int .i64 a2)]=v7 (a0,a1,a2):=a6 (s:=r5) rfl (a0,a1,a2) rfl
theorem AAI (h:∀ a0 a1 a2 r,v7 (a0,a1,a2)=some r→bY r5 (a0,a1,a2)→wR a0 a1 a2 (fun y=>y=r)):aK Tryz.prog 141 iV :=
 aP (E:=wP) (Hs:=J8) SX aU aV (aL rfl) 8 ⟨_,_,Tryz.func141,rfl⟩ rfl fun x r h1 h2=>by
  obtain ⟨a0,a1,a2⟩:=x
  rw[show Sh.bK r5 (a0,a1,a2)=[aC true aH a0,aC false Sy.str a1,
 aC false (Sy.int IntKind.i64) a2] from rfl,OE]
  exact h a0 a1 a2 r h1 h2
theorem ZB:aK Tryz.prog 141 iV:=AAI fun m n t r h hb=>by
 obtain ⟨hok,rfl⟩:=pR h
 clear h
 replace hok:A9 m=true:=hok
 have is:∀ {b:Bool},gX m n t=b→T.v (.bool b)=T.v (.bool (gX m n t)):=fun h=>by rw[h]
 unfold wR
 refine aD (s:=[(true,bD),(false,.bool)]) (y:=found dI (cH m n)) (sD hok n) ?_
 have w:gX m n t=(found dI (cH m n)).1.2.2.2.any fun x=>decide (t=x):=by
  unfold gX
  cases cH m n<;>rfl
 have hlen:(found dI (cH m n)).1.2.2.2.length≤1000:=by
  cases hg:cH m n with
  | none=>exact Nat.zero_le _
  | some g =>
   simp only[A9,Bool.and_eq_true,decide_eq_true_eq] at hok
   exact of_decide_eq_true (List.all_eq_true.1 hok.2 _ (List.mem_of_find?_eq_some hg))
 generalize (found dI (cH m n)).1.2.2.2=g at w hlen ⊢
 refine aY g.length (fun k s=>s=((k:Int),())∧g.any (fun x=>decide (t=x))=(g.drop k).any fun x=>decide (t=x)) ⟨rfl,by rw[List.drop_zero]⟩ ?_
 rintro X k s hk ⟨rfl,hf⟩ hX
 dsimp only
 refine bJ (fun hlt=>?_) fun hge=>is ?_
 ·rw[List.length_map] at hlt
  have hlt:k<g.length:=by omega
  rw[List.drop_eq_getElem_cons hlt,List.any_cons] at hf
  rw[aS (r:=.int .i64) hlt]
  refine bJ (fun hc=>is ?_) fun hc=>hX _ hlt ⟨by rw[sR (by omega)],by rw[hf,decide_eq_false (fun e=>hc e.symm),Bool.false_or]⟩
  rw[w,hf,decide_eq_true hc.symm];rfl
 ·rw[List.length_map] at hge
  have:k=g.length:=by omega
  subst this
  rw[w,hf,List.drop_length];rfl
theorem QT {m:aN} (h:A9 m=true) (n:ByteArray) (t:Int):iV [aC true aH m,T.v (.string n),T.v (Value.int .i64 t)]=some (Sh.enc [(false,.bool)] (gX m n t)):=(QS ..).trans (pS _ h)
end Go.Pv
namespace Go.Pv
open Go Go.Proofs
def DF (s:ByteArray):Bool:=decide (s.size≤1099511627776)
theorem QZ {s:ByteArray} (h:DF s=true):dF [T.v (.string s)]=some (Sh.enc xU (gP s)):=by
 rw[AGA];unfold uJ;rw[show decide (s.size≤1099511627776)=true from h]
def A28 (p:bL):Bool:=decide (1≤bB p)&&decide (bB p≤4)
def IY {α:Type} (p:bL) (r:α):Option α:=match A28 p with
 | true=>some r
 | false=>none
theorem VM {α:Type} {p:bL} {t r:α} (h:IY p t=some r):(bB p=1∨bB p=2∨bB p=3∨bB p=4)∧r=t:=by
 unfold IY at h;split at h
 ·rename_i hc
  simp only[A28,Bool.and_eq_true,decide_eq_true_eq] at hc
  cases h;exact ⟨by omega,rfl⟩
 ·cases h
theorem VN {α:Type} {p:bL} (t:α) (h:bB p=1∨bB p=2∨bB p=3∨bB p=4):IY p t=some t:=by
 unfold IY;rw[show A28 p=true by simp only[A28,Bool.and_eq_true,decide_eq_true_eq];omega]
theorem A9F {α β:Type} (a:List α) (b:List β):(0<a.length+b.length)↔(¬ a=[]∨¬ b=[]):=by cases a<;>cases b<;>simp<;>omega
noncomputable def GV:Env:=Env.of []
def UE:FuncId→Hint:=fun _=>aT
theorem AB8:aE Tryz.prog GV:=aE.nil _
def HN (a0:bL) (R:T→Prop):Prop :=
 aB (!decide (a0.2.2.2.2.2.1=0))
 (aB (!decide (a0.2.2.2.2.2.2.2.1 = { data:=#[] }))
 (aB (!decide (a0.2.2.2.2.2.2.2.2.2.1=0))
 (aB (decide (a0.2.2.1=1)) (R (T.v (.bool true)))
 (aB (decide (a0.2.2.1=4)) (R (T.v (.bool true)))
 (R (T.v (.bool true)))))
 (aB (decide (a0.2.2.1=1)) (R (T.v (.bool true)))
 (aB (decide (a0.2.2.1=4)) (R (T.v (.bool true)))
 (R (T.v (.bool true))))))
 (aB (!decide (a0.2.2.2.2.2.2.2.2.2.1=0))
 (aB (decide (a0.2.2.1=1))
 (aB (!decide (a0.2.2.2.2.2.2.2.2.1=0)) (R (T.v (.bool true)))
 (R (T.v (.bool true))))
 (aB (decide (a0.2.2.1=4)) (R (T.v (.bool true)))
 (R (T.v (.bool true)))))
 (aB (decide (a0.2.2.1=1))
 (aB (!decide (a0.2.2.2.2.2.2.2.2.1=0)) (R (T.v (.bool true)))
 (R
 (T.v
 (Value.bool
 !(decide (a0.2.2.2.2.2.2.2.2.2.2.1.1=0) &&
 (decide (a0.2.2.2.2.2.2.2.2.2.2.1.2.1=0) &&
 (decide (a0.2.2.2.2.2.2.2.2.2.2.1.2.2=0)&&true)))))))
 (aB (decide (a0.2.2.1=4)) (R (T.v (.bool true)))
 (R (T.v (.bool true)))))))
 (aB (decide ((↑(List.map aA.enc a0.2.2.2.2.2.2.1.1).length:Int)=0))
 (aB (!decide (a0.2.2.2.2.2.2.2.1 = { data:=#[] }))
 (aB (!decide (a0.2.2.2.2.2.2.2.2.2.1=0))
 (aB (decide (a0.2.2.1=1)) (R (T.v (.bool true)))
 (aB (decide (a0.2.2.1=4))
 (aB
 (!decide ((↑(List.map aA.li.enc a0.2.2.2.2.2.2.1.2).length:Int)=0))
 (R (T.v (.bool true))) (R (T.v (.bool true))))
 (aB
 (!decide ((↑(List.map aA.li.enc a0.2.2.2.2.2.2.1.2).length:Int)=0))
 (R (T.v (.bool true))) (R (T.v (.bool true))))))
 (aB (decide (a0.2.2.1=1)) (R (T.v (.bool true)))
 (aB (decide (a0.2.2.1=4))
 (aB
 (!decide ((↑(List.map aA.li.enc a0.2.2.2.2.2.2.1.2).length:Int)=0))
 (R (T.v (.bool true))) (R (T.v (.bool true))))
 (aB
 (!decide ((↑(List.map aA.li.enc a0.2.2.2.2.2.2.1.2).length:Int)=0))
 (R (T.v (.bool true)))
 (R
 (T.v
 (Value.bool
 !(decide (a0.2.2.2.2.2.2.2.2.2.2.1.1=0) &&
 (decide (a0.2.2.2.2.2.2.2.2.2.2.1.2.1=0) &&
 (decide (a0.2.2.2.2.2.2.2.2.2.2.1.2.2=0)&&true))))))))))
 (aB (!decide (a0.2.2.2.2.2.2.2.2.2.1=0))
 (aB (decide (a0.2.2.1=1))
 (aB (!decide (a0.2.2.2.2.2.2.2.2.1=0)) (R (T.v (.bool true)))
 (R (T.v (.bool true))))
 (aB (decide (a0.2.2.1=4))
 (aB
 (!decide ((↑(List.map aA.li.enc a0.2.2.2.2.2.2.1.2).length:Int)=0))
 (R (T.v (.bool true)))
 (aB (!decide (a0.2.2.2.2.2.2.2.2.1=0)) (R (T.v (.bool true)))
 (R (T.v (.bool !decide (a0.2.2.2.2.1 = { data:=#[] }))))))
 (aB
 (!decide ((↑(List.map aA.li.enc a0.2.2.2.2.2.2.1.2).length:Int)=0))
 (R (T.v (.bool true))) (R (T.v (.bool true))))))
 (aB (decide (a0.2.2.1=1))
 (aB (!decide (a0.2.2.2.2.2.2.2.2.1=0)) (R (T.v (.bool true)))
 (R
 (T.v
 (Value.bool
 !(decide (a0.2.2.2.2.2.2.2.2.2.2.1.1=0) &&
 (decide (a0.2.2.2.2.2.2.2.2.2.2.1.2.1=0) &&
 (decide (a0.2.2.2.2.2.2.2.2.2.2.1.2.2=0)&&true)))))))
 (aB (decide (a0.2.2.1=4))
 (aB
 (!decide ((↑(List.map aA.li.enc a0.2.2.2.2.2.2.1.2).length:Int)=0))
 (R (T.v (.bool true)))
 (aB (!decide (a0.2.2.2.2.2.2.2.2.1=0)) (R (T.v (.bool true)))
 (R (T.v (.bool !decide (a0.2.2.2.2.1 = { data:=#[] }))))))
 (aB
 (!decide ((↑(List.map aA.li.enc a0.2.2.2.2.2.2.1.2).length:Int)=0))
 (R (T.v (.bool true)))
 (R
 (T.v
 (Value.bool
 !(decide (a0.2.2.2.2.2.2.2.2.2.2.1.1=0) &&
 (decide (a0.2.2.2.2.2.2.2.2.2.2.1.2.1=0) &&
 (decide (a0.2.2.2.2.2.2.2.2.2.2.1.2.2=0)&&true)))))))))))
 (aB (!decide (a0.2.2.2.2.2.2.2.1 = { data:=#[] }))
 (aB (!decide (a0.2.2.2.2.2.2.2.2.2.1=0))
 (aB (decide (a0.2.2.1=1)) (R (T.v (.bool true)))
 (aB (decide (a0.2.2.1=4)) (R (T.v (.bool true)))
 (R (T.v (.bool true)))))
 (aB (decide (a0.2.2.1=1)) (R (T.v (.bool true)))
 (aB (decide (a0.2.2.1=4)) (R (T.v (.bool true)))
 (R (T.v (.bool true))))))
 (aB (!decide (a0.2.2.2.2.2.2.2.2.2.1=0))
 (aB (decide (a0.2.2.1=1))
 (aB (!decide (a0.2.2.2.2.2.2.2.2.1=0)) (R (T.v (.bool true)))
 (R (T.v (.bool true))))
 (aB (decide (a0.2.2.1=4)) (R (T.v (.bool true)))
 (R (T.v (.bool true)))))
 (aB (decide (a0.2.2.1=1))
 (aB (!decide (a0.2.2.2.2.2.2.2.2.1=0)) (R (T.v (.bool true)))
 (R
 (T.v
 (Value.bool
 !(decide (a0.2.2.2.2.2.2.2.2.2.2.1.1=0) &&
 (decide (a0.2.2.2.2.2.2.2.2.2.2.1.2.1=0) &&
 (decide (a0.2.2.2.2.2.2.2.2.2.2.1.2.2=0)&&true)))))))
 (aB (decide (a0.2.2.1=4)) (R (T.v (.bool true)))
 (R (T.v (.bool true))))))))
theorem YJ ( a0 R):bA aW Tryz.prog GV UE 8 116 [aC true aX a0] R=HN a0 R:=by kernel_rfl
abbrev AB:Sh:=[(true,aX)]
def C6 (p:bL):Option T:=IY p (T.v (.bool (gZ p)))
noncomputable def mC:List T→Option (T):=gS AB C6
theorem Z3 {a0}:mC [aC true aX a0]=C6 (a0):=a6 (s:=AB) rfl (a0) rfl
theorem ANW (h:∀ a0 r,C6 (a0)=some r→bY AB (a0)→HN a0 (fun y=>y=r)):aK Tryz.prog 116 mC :=
 aP (E:=GV) (Hs:=UE) AB8 aU aV (aL rfl) 8 ⟨_,_,Tryz.func116,rfl⟩ rfl fun x r h1 h2=>by
  let a0:=x
  rw[show Sh.bK AB (a0)=[aC true aX a0] from rfl,YJ]
  exact h a0 r h1 h2
theorem AL8:aK Tryz.prog 116 mC:=ANW fun p r h hb=>by
 obtain ⟨hk,rfl⟩:=VM h
 clear h hb
 unfold HN
 simp only[List.length_map,Bool.and_true]
 repeat' first
  | refine gT (fun h=>?_) (fun h=>?_)
  | refine bJ (fun h=>?_) (fun h=>?_)
 all_goals (refine cL ?_;unfold gZ R3 AYT AY3 bB fO dC B0 j8 hU o6 dL)
 all_goals (replace hk:p.2.2.1=1∨p.2.2.1=2∨p.2.2.1=3∨p.2.2.1=4:=hk;rcases hk with k|k|k|k)
 all_goals (try (exfalso;omega))
 all_goals (simp_all[List.length_pos_iff,A9F])
 all_goals (try omega)
noncomputable def GB:Env:=Env.of [(121,.pure eB),(122,.pure jT),(141,.pure iV)]
def TW:FuncId→Hint:=fun _=>aT
theorem ABQ:aE Tryz.prog GB:=aE.cons (x:=.pure eB) w7 (aE.cons (x:=.pure jT) UW (aE.cons (x:=.pure iV) ZB (aE.nil _)))
def G5 (a0:bL) (a1:aN) (R:T→Prop):Prop :=
 aB (decide (a0.2.2.1=4)) (R (T.v (.bool true)))
 (aG [(true,bD),(false,Sy.bool)]
 (eB [aC true aH a1,T.v (.string a0.2.2.2.2.1)])
 fun (y0:cR×Bool) =>
 aB (!y0.2) (R (T.v (.bool false)))
 (aB (decide (y0.1.2.1<1000)) (R (T.v (.bool false)))
 (aB (decide (20000<y0.1.2.1)) (R (T.v (.bool false)))
 (aB (decide (a0.2.2.1=1))
 (aB (decide (1≤a0.2.2.2.2.2.1))
 (aB (decide (a0.2.2.2.2.2.1≤120))
 (aG [(false,Sy.bool)]
 (iV
 [aC true aH a1,T.v (.string a0.2.2.2.2.1),
 T.v (.int .i64 a0.2.2.2.2.2.1)])
 fun (y1:Bool)=>R (T.v (.bool y1)))
 (R (T.v (.bool false))))
 (R (T.v (.bool false))))
 (aG [(true,aZ),(false,Sy.bool)]
 (jT
 [aC true aH a1,T.v (.string a0.2.2.2.2.2.2.2.1)])
 fun (y2:bQ×Bool) =>
 aB y2.2
 (aB (decide (1≤y2.1.2.1))
 (aB (decide (y2.1.2.1≤1000000))
 (aB (decide (1≤y2.1.2.2.1))
 (R (T.v (.bool (decide (y2.1.2.2.1≤2000)))))
 (R (T.v (.bool false))))
 (R (T.v (.bool false))))
 (R (T.v (.bool false))))
 (R (T.v (.bool false))))))))
theorem XJ ( a0 a1 R):bA aW Tryz.prog GB TW 8 117 [aC true aX a0,aC true aH a1] R=G5 a0 a1 R:=by kernel_rfl
abbrev zM:Sh:=[(true,aX),(true,aH)]
def p5 (x:bL×aN):Option T:=match A9 x.2 with
 | true=>IY x.1 (T.v (.bool (c0 x.1 x.2)))
 | false=>none
noncomputable def l8:List T→Option (T):=gS zM p5
theorem ZJ {a0 a1}:l8 [aC true aX a0,aC true aH a1]=p5 (a0,a1):=a6 (s:=zM) rfl (a0,a1) rfl
theorem ANE (h:∀ a0 a1 r,p5 (a0,a1)=some r→bY zM (a0,a1)→G5 a0 a1 (fun y=>y=r)):aK Tryz.prog 117 l8 :=
 aP (E:=GB) (Hs:=TW) ABQ aU aV (aL rfl) 8 ⟨_,_,Tryz.func117,rfl⟩ rfl fun x r h1 h2=>by
  obtain ⟨a0,a1⟩:=x
  rw[show Sh.bK zM (a0,a1)=[aC true aX a0,aC true aH a1] from rfl,XJ]
  exact h a0 a1 r h1 h2
theorem ALV:aK Tryz.prog 117 l8:=ANE fun p m r h hb=>by
 unfold p5 at h
 split at h
 case h_2=>cases h
 rename_i hok
 replace hok:A9 m=true:=hok
 obtain ⟨hk,rfl⟩:=VM h
 clear h hb
 have is:∀ {n:Bool},c0 p m=n→T.v (.bool n)=T.v (.bool (c0 p m)):=fun h=>by rw[h]
 unfold G5
 refine bJ (fun h=>is (by unfold c0;rw[if_pos h])) fun k4=>?_
 refine aD (s:=[(true,bD),(false,.bool)]) (sD hok _) ?_
 cases hg:cH m (dL p) with
 | none =>
  show aB true _ _
  rw[eO];exact is (by unfold c0;rw[if_neg k4,hg])
 | some g =>
  show aB false _ _
  rw[fS]
  dsimp only[found]
  have w0:c0 p m=(decide (1000≤g.2.1)&&decide (g.2.1≤20000)&&(if bB p=1 then decide (1≤fO p)&&decide (fO p≤120)&&gX m (dL p) (fO p) else K6 m (B0 p))):=by unfold c0;rw[if_neg k4,hg]
  refine bJ (fun h=>is (by rw[w0,decide_eq_false (show ¬ 1000≤g.2.1 by omega)];rfl)) fun d1=>?_
  refine bJ (fun h=>is (by rw[w0,decide_eq_false (show ¬ g.2.1≤20000 by omega)];simp)) fun d2=>?_
  rw[decide_eq_true (show 1000≤g.2.1 by omega),decide_eq_true (show g.2.1≤20000 by omega)] at w0
  refine bJ (fun k1=>?_) fun k1=>?_
  ·rw[if_pos k1] at w0
   refine bJ (fun h1=>bJ (fun h2=>?_) fun h2=>is ?_) fun h1=>is ?_
   ·refine aD (s:=[(false,.bool)]) (y:=gX m (dL p) (fO p)) (QT hok _ _) (is ?_)
    rw[w0,decide_eq_true h1,decide_eq_true h2];rfl
   ·rw[w0,decide_eq_true h1,decide_eq_false h2];rfl
   ·rw[w0,decide_eq_false h1];rfl
  ·rw[if_neg k1] at w0
   refine aD (s:=[(true,aZ),(false,.bool)]) (KM m _) ?_
   cases hs:pY m (B0 p) with
   | none =>
    show aB false _ _
    rw[fS];exact is (by rw[w0];unfold K6;rw[hs];rfl)
   | some s =>
    show aB true _ _
    rw[eO]
    dsimp only[found]
    have w2:c0 p m=(decide (1≤s.2.1)&&decide (s.2.1≤1000000)&&(decide (1≤s.2.2.1)&&decide (s.2.2.1≤2000))):=by rw[w0];unfold K6;rw[hs];rfl
    refine bJ (fun h1=>bJ (fun h2=>bJ (fun h3=>is ?_) fun h3=>is ?_) fun h2=>is ?_) fun h1=>is ?_
    ·rw[w2,decide_eq_true h1,decide_eq_true h2,decide_eq_true h3];rfl
    ·rw[w2,decide_eq_true h1,decide_eq_true h2,decide_eq_false h3];rfl
    ·rw[w2,decide_eq_true h1,decide_eq_false h2];rfl
    ·rw[w2,decide_eq_false h1];rfl
noncomputable def WO:Env:=Env.of []
def AOV:FuncId→Hint:=fun _=>aT
theorem AQZ:aE Tryz.prog WO:=aE.nil _
def XF (a0:AEU) (R:T→Prop):Prop :=
 aB (decide (a0.1 < -524288)) (R (T.v (.bool true)))
 (aB (decide (524288<a0.1)) (R (T.v (.bool true)))
 (aB (decide (a0.2.1 < -524288)) (R (T.v (.bool true)))
 (aB (decide (524288<a0.2.1)) (R (T.v (.bool true)))
 (aB (decide (a0.2.2 < -524288)) (R (T.v (.bool true)))
 (R (T.v (.bool (decide (524288<a0.2.2)))))))))
theorem AKM ( a0 R):bA aW Tryz.prog WO AOV 8 119 [aC true J6 a0] R=XF a0 R:=by kernel_rfl
abbrev L3:Sh:=[(true,J6)]
def R9 (v:AEU):Option T:=some (T.v (.bool (!iF v)))
noncomputable def u7:List T→Option (T):=gS L3 R9
theorem AMI {a0}:u7 [aC true J6 a0]=R9 (a0):=a6 (s:=L3) rfl (a0) rfl
theorem AZM (h:∀ a0 r,R9 (a0)=some r→bY L3 (a0)→XF a0 (fun y=>y=r)):aK Tryz.prog 119 u7 :=
 aP (E:=WO) (Hs:=AOV) AQZ aU aV (aL rfl) 8 ⟨_,_,Tryz.func119,rfl⟩ rfl fun x r h1 h2=>by
  let a0:=x
  rw[show Sh.bK L3 (a0)=[aC true J6 a0] from rfl,AKM]
  exact h a0 r h1 h2
theorem AXT:aK Tryz.prog 119 u7:=AZM fun v r h hb=>by
 cases h
 unfold XF
 have pb:iF v=true↔(-524288≤v.1∧v.1≤524288)∧(-524288≤v.2.1∧v.2.1≤524288)∧(-524288≤v.2.2∧v.2.2≤524288):=by
  unfold iF
  simp only[Bool.and_eq_true,decide_eq_true_eq]
  omega
 have no:¬ ((-524288≤v.1∧v.1≤524288)∧(-524288≤v.2.1∧v.2.1≤524288)∧(-524288≤v.2.2∧v.2.2≤524288))→T.v (.bool true)=T.v (.bool (!iF v)):=fun h=>cL (by
  rw[show iF v=false by rw[Bool.eq_false_iff];exact fun h2=>h (pb.1 h2)];rfl)
 refine bJ (fun h=>no (by omega)) fun h1=>bJ (fun h=>no (by omega)) fun h2=>bJ (fun h=>no (by omega)) fun h3=>bJ (fun h=>no (by omega)) fun h4=>bJ (fun h=>no (by omega)) fun h5=>cL ?_
 rw[Bool.eq_iff_iff,Bool.not_eq_true',←Bool.not_eq_true,pb,decide_eq_true_eq]
 omega
def A6S (p:bL) (m:aN):Bool:=A9 m&&(DF p.1&&DF (e9 p))
def IZ {α:Type} (p:bL) (m:aN) (r:α):Option α:=match A6S p m with
 | true=>some r
 | false=>none
theorem VO {α:Type} {p:bL} {m:aN} {t r:α} (h:IZ p m t=some r):A9 m=true∧DF p.1=true∧DF (e9 p)=true∧r=t:=by
 unfold IZ at h;split at h
 ·rename_i hc
  simp only[A6S,Bool.and_eq_true] at hc
  cases h;exact ⟨hc.1,hc.2.1,hc.2.2,rfl⟩
 ·cases h
theorem VP {α:Type} {p:bL} {m:aN} (t:α) (h:A9 m=true) (h1:DF p.1=true) (h2:DF (e9 p)=true):IZ p m t=some t:=by
 unfold IZ A6S;rw[h,h1,h2];rfl
noncomputable def NB:Env:=Env.of [(79,.pure dF),(116,.pure mC),(117,.pure l8),(118,.pure jA),(119,.pure u7),(120,.pure iJ)]
def AEB:FuncId→Hint:=fun _=>aT
theorem AJZ:aE Tryz.prog NB:=aE.cons (x:=.pure dF) yQ (aE.cons (x:=.pure mC) AL8 (aE.cons (x:=.pure l8) ALV (aE.cons (x:=.pure jA) U2 (aE.cons (x:=.pure u7) AXT (aE.cons (x:=.pure iJ) AL9 (aE.nil _))))))
def OL (a0:bL) (a1:aN) (R:T→Prop):Prop :=
 aG [(false,Sy.bool)] (dF [T.v (.string a0.1)]) fun (y0:Bool) =>
 aB (!y0) (R (T.v (.int .i64 6)))
 (aG [(false,Sy.bool)] (dF [T.v (.string a0.2.2.2.1)])
 fun (y1:Bool) =>
 aB (!y1) (R (T.v (.int .i64 6)))
 (aB (decide (a0.2.1<1)) (R (T.v (.int .i64 9)))
 (aB (decide (1000<a0.2.1)) (R (T.v (.int .i64 9)))
 (aB (decide (a0.2.2.1<1)) (R (T.v (.int .i64 10)))
 (aB (decide (4<a0.2.2.1)) (R (T.v (.int .i64 10)))
 (aG [(false,Sy.bool)] (mC [aC true aX a0])
 fun (y2:Bool) =>
 aB y2 (R (T.v (.int .i64 2)))
 (aG [(false,Sy.bool)]
 (l8 [aC true aX a0,aC true aH a1])
 fun (y3:Bool) =>
 aB (!y3) (R (T.v (.int .i64 23)))
 (aB (decide (a0.2.2.1=1))
 (aG [(false,Sy.int IntKind.i64)]
 (jA [aC true cD a0.2.2.2.2.2.2.1])
 fun (y4:Int) =>
 aB (!decide (y4=0)) (R (T.v (.int .i64 y4)))
 (aG [(false,Sy.bool)]
 (iJ
 [aC true cV a0.2.2.2.2.2.2.2.2.2.2.2])
 fun (y5:Bool) =>
 aB (!y5) (R (T.v (.int .i64 9)))
 (R (T.v (.int .i64 0)))))
 (aB (decide (a0.2.2.1=4))
 (aB (decide (a0.2.2.2.2.2.2.2.2.2.1<1))
 (R (T.v (.int .i64 9)))
 (aB (decide (1099511627776<a0.2.2.2.2.2.2.2.2.2.1))
 (R (T.v (.int .i64 9)))
 (aG [(false,Sy.bool)]
 (u7
 [aC true J6 a0.2.2.2.2.2.2.2.2.2.2.1])
 fun (y6:Bool) =>
 aB y6 (R (T.v (.int .i64 9)))
 (aG [(false,Sy.bool)]
 (iJ
 [aC true cV a0.2.2.2.2.2.2.2.2.2.2.2])
 fun (y7:Bool) =>
 aB (!y7) (R (T.v (.int .i64 9)))
 (R (T.v (.int .i64 0)))))))
 (aB (decide (a0.2.2.2.2.2.2.2.2.1<1))
 (R (T.v (.int .i64 9)))
 (aB (decide (32768<a0.2.2.2.2.2.2.2.2.1))
 (R (T.v (.int .i64 9)))
 (aG [(false,Sy.bool)]
 (iJ
 [aC true cV a0.2.2.2.2.2.2.2.2.2.2.2])
 fun (y8:Bool) =>
 aB (!y8) (R (T.v (.int .i64 9)))
 (R (T.v (.int .i64 0)))))))))))))))
theorem AC3 ( a0 a1 R):bA aW Tryz.prog NB AEB 8 82 [aC true aX a0,aC true aH a1] R=OL a0 a1 R:=by kernel_rfl
abbrev FL:Sh:=[(true,aX),(true,aH)]
def JO (x:bL×aN):Option T:=IZ x.1 x.2 (T.v (Value.int .i64 (dS x.1 x.2)))
noncomputable def jV:List T→Option (T):=gS FL JO
theorem AGS {a0 a1}:jV [aC true aX a0,aC true aH a1]=JO (a0,a1):=a6 (s:=FL) rfl (a0,a1) rfl
theorem AUA (h:∀ a0 a1 r,JO (a0,a1)=some r→bY FL (a0,a1)→OL a0 a1 (fun y=>y=r)):aK Tryz.prog 82 jV :=
 aP (E:=NB) (Hs:=AEB) AJZ aU aV (aL rfl) 8 ⟨_,_,Tryz.func82,rfl⟩ rfl fun x r h1 h2=>by
  obtain ⟨a0,a1⟩:=x
  rw[show Sh.bK FL (a0,a1)=[aC true aX a0,aC true aH a1] from rfl,AC3]
  exact h a0 a1 r h1 h2
theorem UZ:aK Tryz.prog 82 jV:=AUA fun p m r h hb=>by
 obtain ⟨hok,hs1,hs2,rfl⟩:=VO h
 replace hok:A9 m=true:=hok
 clear h hb
 have is:∀ {n:Int},dS p m=n→T.v (.int .i64 n)=T.v (.int .i64 (dS p m)):=fun h=>by rw[h]
 unfold OL
 refine aD (s:=xU) (y:=gP p.1) (QZ hs1) ?_
 refine dK (fun h=>is (by unfold dS;rw[if_pos (.inl h)])) fun i1=>?_
 refine aD (s:=xU) (y:=gP (e9 p)) (QZ hs2) ?_
 refine dK (fun h=>is (by unfold dS;rw[if_pos (.inr h)])) fun i2=>?_
 have n1:¬ (gP p.1=false∨gP (e9 p)=false):=by
  rintro (h|h)
  ·rw[show gP p.1=true from i1] at h;cases h
  ·rw[show gP (e9 p)=true from i2] at h;cases h
 have r9:¬ (1≤p.2.1∧p.2.1≤1000)→T.v (.int .i64 9)=T.v (.int .i64 (dS p m)):=fun h=>is (by unfold dS;rw[if_neg n1,if_pos h])
 refine bJ (fun h=>r9 (by omega)) fun v1=>bJ (fun h=>r9 (by omega)) fun v2=>?_
 have n2:¬ ¬ (1≤p.2.1∧p.2.1≤1000):=fun h=>h (by omega)
 have r10:¬ (bB p=1∨bB p=2∨bB p=3∨bB p=4)→T.v (.int .i64 10)=T.v (.int .i64 (dS p m)):=fun h=>is (by unfold dS;rw[if_neg n1,if_neg n2,if_pos h])
 refine bJ (fun h=>r10 (by unfold bB;omega)) fun k1=>bJ (fun h=>r10 (by unfold bB;omega)) fun k2=>?_
 have hk:bB p=1∨bB p=2∨bB p=3∨bB p=4:=by unfold bB;omega
 have w1:dS p m=if gZ p=true then 2 else if c0 p m=false then 23 else if bB p=1∧¬ gI (dC p)=0 then gI (dC p) else if (bB p=2∨bB p=3)∧¬ (1≤j8 p∧j8 p≤32768) then 9 else if bB p=4∧¬ (1≤hU p∧hU p≤1099511627776∧iF (o6 p)=true) then 9 else if iL (aAt p)=false then 9 else 0:=by
  unfold dS;rw[if_neg n1,if_neg n2,if_neg (fun h=>h hk)]
 have spare:∀ {K:Bool→Prop},K (gZ p)→aG [(false,Sy.bool)] (mC [aC true aX p]) K:=fun h=>aD (s:=[(false,.bool)]) (y:=gZ p) ((Z3 ..).trans (VN _ hk)) h
 have made:∀ {K:Bool→Prop},K (c0 p m)→aG [(false,Sy.bool)] (l8 [aC true aX p,aC true aH m]) K:=fun h=>aD (s:=[(false,.bool)]) (y:=c0 p m) ((ZJ ..).trans (by unfold p5;rw[hok];exact VN _ hk)) h
 have place:∀ {K:Bool→Prop},K (iL (aAt p))→aG [(false,Sy.bool)] (iJ [aC true cV (aAt p)]) K:=fun h=>aD (s:=[(false,.bool)]) (y:=iL (aAt p)) (Z5 ..) h
 have far:∀ {K:Bool→Prop},K (!iF (o6 p))→aG [(false,Sy.bool)] (u7 [aC true J6 (o6 p)]) K:=fun h=>aD (s:=[(false,.bool)]) (y:=!iF (o6 p)) (AMI ..) h
 have reg:∀ {K:Int→Prop},K (gI (dC p))→aG [(false,Sy.int IntKind.i64)] (jA [aC true cD (dC p)]) K:=fun h=>aD (s:=[(false,.int .i64)]) (KR _) h
 refine spare ?_
 refine tA (fun h=>is (by rw[w1,if_pos h])) fun s0=>?_
 refine made ?_
 refine dK (fun h=>is (by rw[w1,if_neg (by rw[s0];exact Bool.noConfusion),if_pos h])) fun m0=>?_
 have w2:dS p m=if bB p=1∧¬ gI (dC p)=0 then gI (dC p) else if (bB p=2∨bB p=3)∧¬ (1≤j8 p∧j8 p≤32768) then 9 else if bB p=4∧¬ (1≤hU p∧hU p≤1099511627776∧iF (o6 p)=true) then 9 else if iL (aAt p)=false then 9 else 0:=by
  rw[w1,if_neg (by rw[s0];exact Bool.noConfusion),if_neg (by rw[m0];exact Bool.noConfusion)]
 clear w1 n1 n2 r9 r10
 have fin:¬ (bB p=1∧¬ gI (dC p)=0)→¬ ((bB p=2∨bB p=3)∧¬ (1≤j8 p∧j8 p≤32768))→¬ (bB p=4∧¬ (1≤hU p∧hU p≤1099511627776∧iF (o6 p)=true))→aG [(false,Sy.bool)] (iJ [aC true cV (aAt p)]) (fun y:Bool=>aB (!y) (T.v (.int .i64 9)=T.v (.int .i64 (dS p m))) (T.v (.int .i64 0)=T.v (.int .i64 (dS p m)))):=fun a b c=>place (dK (fun v=>is (by rw[w2,if_neg a,if_neg b,if_neg c,if_pos v])) fun v=>is (by rw[w2,if_neg a,if_neg b,if_neg c,if_neg (by rw[v];exact Bool.noConfusion)]))
 refine bJ (fun h1=>reg (gT (fun h=>is (by rw[w2,if_pos ⟨h1,h⟩])) fun h=>fin (fun h2=>h2.2 h) ?_ ?_)) fun h1=>bJ (fun h4=>?_) fun h4=>?_
 ·have h1:bB p=1:=h1
  omega
 ·have h1:bB p=1:=h1
  omega
 ·have h4:bB p=4:=h4
  have a:¬ (bB p=1∧¬ gI (dC p)=0):=fun h=>h1 h.1
  have b:¬ ((bB p=2∨bB p=3)∧¬ (1≤j8 p∧j8 p≤32768)):=fun h=>by omega
  have no:¬ (1≤hU p∧hU p≤1099511627776∧iF (o6 p)=true)→T.v (.int .i64 9)=T.v (.int .i64 (dS p m)):=fun h=>is (by rw[w2,if_neg a,if_neg b,if_pos ⟨h4,h⟩])
  refine bJ (fun h=>no fun h2=>?_) fun l1=>bJ (fun h=>no fun h2=>?_) fun l2=>far (tA (fun h=>no fun h2=>?_) fun h=>fin a b fun h2=>h2.2 ⟨?_,?_,?_⟩)
  ·have h:hU p<1:=h
   omega
  ·have h:1099511627776<hU p:=h
   omega
  ·rw[h2.2.2] at h;cases h
  ·have l1:¬ hU p<1:=l1
   omega
  ·have l2:¬ 1099511627776<hU p:=l2
   omega
  ·cases hv:iF (o6 p)
   ·rw[hv] at h;cases h
   ·rfl
 ·have h4:¬ bB p=4:=h4
  have h1:¬ bB p=1:=h1
  have k23:bB p=2∨bB p=3:=by omega
  have a:¬ (bB p=1∧¬ gI (dC p)=0):=fun h=>h1 h.1
  have no:¬ (1≤j8 p∧j8 p≤32768)→T.v (.int .i64 9)=T.v (.int .i64 (dS p m)):=fun h=>is (by rw[w2,if_neg a,if_pos ⟨k23,h⟩])
  refine bJ (fun h=>no fun h2=>?_) fun l1=>bJ (fun h=>no fun h2=>?_) fun l2=>fin a (fun h2=>h2.2 ⟨?_,?_⟩) fun h2=>h4 h2.1
  ·have h:j8 p<1:=h
   omega
  ·have h:32768<j8 p:=h
   omega
  ·have l1:¬ j8 p<1:=l1
   omega
  ·have l2:¬ 32768<j8 p:=l2
   omega
theorem KP {m:aN} {p:bL} (h:A9 m=true) (h1:DF p.1=true) (h2:DF (e9 p)=true):jV [aC true aX p,aC true aH m]=some (Sh.enc [(false,.int .i64)] (dS p m)):=(AGS ..).trans (VP _ h h1 h2)
noncomputable def MY:Env:=Env.of [(82,.pure jV),(121,.pure eB),(122,.pure jT),(123,.pure pC)]
def ADZ:FuncId→Hint:=fun _=>aT
theorem AJN:aE Tryz.prog MY:=aE.cons (x:=.pure jV) UZ (aE.cons (x:=.pure eB) w7 (aE.cons (x:=.pure jT) UW (aE.cons (x:=.pure pC) ASA (aE.nil _))))
def N8 (a0:bL) (a1:aN) (R:T→Prop):Prop :=
 aG [(false,Sy.int IntKind.i64)]
 (jV [aC true aX a0,aC true aH a1]) fun (y0:Int) =>
 aB (!decide (y0=0))
 (R (T.cQ [T.v (.int .i64 0),T.v (.int .i64 y0)]))
 (aG [(true,bD),(false,Sy.bool)]
 (eB [aC true aH a1,T.v (.string a0.2.2.2.2.1)])
 fun (y1:cR×Bool) =>
 aG [(true,aZ),(false,Sy.bool)]
 (jT
 [aC true aH a1,T.v (.string a0.2.2.2.2.2.2.2.1)])
 fun (y2:bQ×Bool) =>
 aB (decide (a0.2.2.1=1))
 (aG [(false,Sy.int IntKind.i64)]
 (pC [aC true cD a0.2.2.2.2.2.2.1]) fun (y3:Int) =>
 bV true
 (R
 (T.cQ
 [T.v
 (Value.int IntKind.i64
 (IntKind.i64.wrap
 ((IntKind.i64.wrap
 (IntKind.i64.wrap (y3*a0.2.2.2.2.2.1)*y1.1.2.1)).tdiv
 2000000))),
 T.v (.int .i64 0)])))
 (aB (decide (a0.2.2.1=4))
 (R
 (T.cQ
 [T.v (.int .i64 a0.2.2.2.2.2.2.2.2.2.1),
 T.v (.int .i64 0)]))
 (bV true
 (R
 (T.cQ
 [T.v
 (Value.int IntKind.i64
 (IntKind.i64.wrap
 ((IntKind.i64.wrap
 (IntKind.i64.wrap (y2.1.2.1*a0.2.2.2.2.2.2.2.2.1) *
 y1.1.2.1)).tdiv
 1000000))),
 T.v (.int .i64 0)])))))
theorem ACR ( a0 a1 R):bA aW Tryz.prog MY ADZ 8 83 [aC true aX a0,aC true aH a1] R=N8 a0 a1 R:=by kernel_rfl
abbrev E9:Sh:=[(true,aX),(true,aH)]
abbrev AID:Sh:=[(false,Sy.int IntKind.i64),(false,Sy.int IntKind.i64)]
def JF (x:bL×aN):Option T:=IZ x.1 x.2 (Sh.enc AID (iC x.1 x.2))
noncomputable def pH:List T→Option (T):=gS E9 JF
theorem AGG {a0 a1}:pH [aC true aX a0,aC true aH a1]=JF (a0,a1):=a6 (s:=E9) rfl (a0,a1) rfl
theorem ATY (h:∀ a0 a1 r,JF (a0,a1)=some r→bY E9 (a0,a1)→N8 a0 a1 (fun y=>y=r)):aK Tryz.prog 83 pH :=
 aP (E:=MY) (Hs:=ADZ) AJN aU aV (aL rfl) 8 ⟨_,_,Tryz.func83,rfl⟩ rfl fun x r h1 h2=>by
  obtain ⟨a0,a1⟩:=x
  rw[show Sh.bK E9 (a0,a1)=[aC true aX a0,aC true aH a1] from rfl,ACR]
  exact h a0 a1 r h1 h2
theorem ASK:aK Tryz.prog 83 pH:=ATY fun p m r h hb=>by
 obtain ⟨hok,hs1,hs2,rfl⟩:=VO h
 replace hok:A9 m=true:=hok
 clear h hb
 have is:∀ {a b:Int},iC p m=(a,b)→T.cQ [T.v (.int .i64 a),T.v (.int .i64 b)]=Sh.enc AID (iC p m):=fun h=>by rw[h];rfl
 unfold N8
 refine aD (s:=[(false,.int .i64)]) (KP hok hs1 hs2) ?_
 refine gT (fun h=>is (by unfold iC;rw[if_neg h])) fun h=>?_
 refine aD (s:=[(true,bD),(false,.bool)]) (sD hok _) ?_
 refine aD (s:=[(true,aZ),(false,.bool)]) (KM m _) ?_
 have w:iC p m=(lQ p m,0):=by unfold iC;rw[if_pos h]
 have hk:bB p=1∨bB p=2∨bB p=3∨bB p=4:=by
  refine Classical.byContradiction fun hc=>?_
  have h:=h
  unfold dS at h
  by_cases c1:gP p.1=false∨gP (e9 p)=false
  ·rw[if_pos c1] at h;cases h
  ·rw[if_neg c1] at h
   by_cases c2:¬ (1≤p.2.1∧p.2.1≤1000)
   ·rw[if_pos c2] at h;cases h
   ·rw[if_neg c2,if_pos hc] at h;cases h
 have eg:(found dI (cH m (dL p))).1=IJ m (dL p):=LP
 have es:(found nE (pY m (B0 p))).1=A0F m (B0 p):=LP
 refine bJ (fun k1=>?_) fun k1=>?_
 ·refine aD (s:=[(false,.int .i64)]) (AF1 _) ?_
  refine ⟨rfl,is ?_⟩
  rw[w];unfold lQ;rw[if_pos k1,←eg]
 refine bJ (fun k4=>is ?_) fun k4=>⟨rfl,is ?_⟩
 ·have k4:bB p=4:=k4
  rw[w];unfold lQ;rw[if_neg k1,if_neg (by omega)]
 ·have k4:¬ bB p=4:=k4
  have k1:¬ bB p=1:=k1
  rw[w];unfold lQ;rw[if_neg k1,if_pos (by omega),←eg,←es]
theorem AGH {m:aN} {p:bL} (h:A9 m=true) (h1:DF p.1=true) (h2:DF (e9 p)=true):pH [aC true aX p,aC true aH m]=some (Sh.enc [(false,.int .i64),(false,.int .i64)] (iC p m)):=(AGG ..).trans (VP _ h h1 h2)
end Go.Pv
namespace Go.Pv
open Go Go.Proofs
noncomputable def AI3:Env:=Env.of []
def AWO:FuncId→Hint:=fun f=>match f == 111 with|true=>⟨fun r=>match r == 2 with|true=>.inv [.val 9 false (.int .i64)]|false=>.none,fun _ _=>none,fun _=>none⟩|false=>aT
theorem AVS:aE Tryz.prog AI3:=aE.nil _
def AKL (a0:Int) (a1:List aJ) (R:T→Prop):Prop :=
 a7 (Int×PUnit)
 (fun (X0:Int×PUnit→Prop) (s1:Int×PUnit) =>
 aB (decide (s1.1<(↑(List.map aA.enc a1).length:Int)))
 (aO aA (List.map aA.enc a1) s1.1 fun (y2:aJ) =>
 aB (decide (y2.1<0)) (R (T.v (.int .i64 9)))
 (aB (decide (a0≤y2.1)) (R (T.v (.int .i64 9)))
 (aB (decide (y2.2<0)) (R (T.v (.int .i64 9)))
 (aB (decide (a0≤y2.2)) (R (T.v (.int .i64 9)))
 (aB (decide (y2.1=y2.2)) (R (T.v (.int .i64 2)))
 (X0 (IntKind.i64.wrap (s1.1+1),())))))))
 (R (T.v (.int .i64 0))))
 (0,())
theorem ARB ( a0 a1 R):bA aW Tryz.prog AI3 AWO 8 111 [aC false (Sy.int IntKind.i64) a0,aC false aA.li a1] R=AKL a0 a1 R:=by kernel_rfl
abbrev AAU:Sh:=[(false,(Sy.int IntKind.i64)),(false,aA.li)]
def nA (n:Int) (x:aJ):Int:=if x.1<0∨n≤x.1∨x.2<0∨n≤x.2 then 9 else if x.1=x.2 then 2 else 0
def AA3 (x:Int×List aJ):Option T:=lS x.2 (T.v (Value.int .i64 (bC (nA x.1) x.2)))
noncomputable def IH:List T→Option (T):=gS AAU AA3
theorem AS3 {a0 a1}:IH [T.v (.int .i64 a0),T.sl false (List.map aA.enc a1)]=AA3 (a0,a1):=a6 (s:=AAU) rfl (a0,a1) rfl
theorem A2Y (h:∀ a0 a1 r,AA3 (a0,a1)=some r→bY AAU (a0,a1)→AKL a0 a1 (fun y=>y=r)):aK Tryz.prog 111 IH :=
 aP (E:=AI3) (Hs:=AWO) AVS aU aV (aL rfl) 8 ⟨_,_,Tryz.func111,rfl⟩ rfl fun x r h1 h2=>by
  obtain ⟨a0,a1⟩:=x
  rw[show Sh.bK AAU (a0,a1)=[aC false (Sy.int IntKind.i64) a0,aC false aA.li a1] from rfl,ARB]
  exact h a0 a1 r h1 h2
theorem A14:aK Tryz.prog 111 IH:=A2Y fun n l r h hb=>by
 obtain ⟨hl,rfl⟩:=fY h
 clear h
 unfold AKL
 refine fG (r:=aA) (nA n) hl (fun X s y hy hok hbad=>?_) fun h0=>?_
 ·have bad:∀ {m:Int},m≠0→nA n y=m→T.v (.int .i64 m)=T.v (.int .i64 (bC (nA n) l)):=fun hn h=>by
   rw[hbad (by rw[h];exact hn),h]
  clear hbad hb
  repeat' first
   | refine gT (fun h=>?_) (fun h=>?_)
   | refine bJ (fun h=>?_) (fun h=>?_)
  all_goals first
   | (exfalso;omega)
   | (refine bad (by decide) ?_;clear bad hok;unfold nA;first|(rw[if_pos (by omega)];done)|(rw[if_neg (by omega),if_pos (by omega)];done))
   | (refine hok ?_;clear bad hok;unfold nA;rw[if_neg (by omega),if_neg (by omega)];done)
 ·show _=T.v (.int .i64 (bC (nA n) l))
  rw[h0]
noncomputable def WT:Env:=Env.of [(111,.pure IH)]
def AOZ:FuncId→Hint:=fun f=>match f == 72 with|true=>⟨fun r=>match r == 8 with|true=>.inv [.arr 0 1 (.int .i64),.val 31 false (.int .i64)]|false=>match r == 14 with|true=>.inv [.arr 0 1 (.int .i64),.own 10 1 (.int .i64),.arr 2 1 .bool]|false=>match r == 16 with|true=>.inv [.val 52 false (.int .i64),.fix 0,.fix 2,.fix 3]|false=>match r == 22 with|true=>.inv [.arr 0 1 (.int .i64),.val 75 false (.int .i64)]|false=>.none,fun _ _=>none,fun _=>none⟩|false=>aT
theorem AQ3:aE Tryz.prog WT:=aE.cons (x:=.pure IH) A14 (aE.nil _)
def XR (a0:Int) (a1:List aJ) (R:T→Prop):Prop :=
 aB (decide (a0<0))
 (bV (T.v (.int .i64 9)).flat
 (R (T.cQ [T.sl false [],T.v (.int .i64 9)])))
 (aB (decide (256<a0))
 (bV (T.v (.int .i64 9)).flat
 (R (T.cQ [T.sl false [],T.v (.int .i64 9)])))
 (aG [(false,Sy.int IntKind.i64)]
 (IH [T.v (.int .i64 a0),T.sl false (List.map aA.enc a1)])
 fun (y0:Int) =>
 aB (!decide (y0=0))
 (bV (T.v (.int .i64 y0)).flat
 (R (T.cQ [T.sl false [],T.v (.int .i64 y0)])))
 (bV
 ((decide (a0=a0)||decide (a0=0))&&decide (0≤a0)&&decide (a0*(↑8:Int)≤140737488355328) &&
 decide (a0≤140737488355328))
 (bX (Sy.int IntKind.i64)
 (List.replicate (Int.toNat a0) [T.v (.int .i64 0)]) fun (y1:List Int) =>
 a7 (List Int×Int×PUnit)
 (fun (X2:List Int×Int×PUnit→Prop) (s3:List Int×Int×PUnit) =>
 aB (decide (s3.2.1<(↑(List.map aA.enc a1).length:Int)))
 (aO aA (List.map aA.enc a1) s3.2.1 fun (y4:aJ) =>
 aO (Sy.int IntKind.i64) (List.map (Sy.int IntKind.i64).enc s3.1) y4.2
 fun (y5:Int) =>
 BA (Sy.int IntKind.i64) (List.map (Sy.int IntKind.i64).enc s3.1)
 (Int.toNat y4.2) 0 fun (y6:Int) =>
 aO (Sy.int IntKind.i64) (List.map (Sy.int IntKind.i64).enc s3.1)
 y4.2 fun (y7:Int) =>
 AIL (List.map (Sy.int IntKind.i64).enc s3.1) (Int.toNat y4.2)
 fun (y8:List T) =>
 bV (decide (1≤y8.length))
 (bX (Sy.int IntKind.i64)
 ((List.map (Sy.int IntKind.i64).enc s3.1).set (Int.toNat y4.2)
 (cS y8 0
 [T.v (.int .i64 (IntKind.i64.wrap (y6+1)))]))
 fun (y9:List Int)=>X2 (y9,IntKind.i64.wrap (s3.2.1+1),())))
 (bV
 ((decide (0=a0)||true)&&decide (0≤a0)&&decide (a0*(↑8:Int)≤140737488355328) &&
 decide (a0≤140737488355328))
 (bV
 ((decide (a0=a0)||decide (a0=0))&&decide (0≤a0) &&
 decide (a0*(↑1:Int)≤140737488355328) &&
 decide (a0≤140737488355328))
 (bX (Sy.int IntKind.i64) (List.map (Sy.int IntKind.i64).enc s3.1)
 fun (y10:List Int) =>
 bX (Sy.int IntKind.i64) [] fun (y11:List Int) =>
 bX Sy.bool (List.replicate (Int.toNat a0) [T.v (.bool false)])
 fun (y12:List Bool) =>
 a7 (List Int×List Int×List Bool×PUnit)
 (fun (X13:List Int×List Int×List Bool×PUnit→Prop)
 (s14:List Int×List Int×List Bool×PUnit) =>
 aB
 (decide
 ((↑(List.map (Sy.int IntKind.i64).enc s14.2.1).length:Int)<a0))
 (fB
 (a8.arr false 1 (List.map (Sy.int IntKind.i64).enc s14.1))
 (a8.arr false 1 (List.map (Sy.int IntKind.i64).enc s14.1))
 (fB (a8.arr false 1 (List.map Sy.bool.enc s14.2.2.1))
 (a8.arr false 1 (List.map Sy.bool.enc s14.2.2.1))
 (fB
 (a8.arr false 1 (List.map (Sy.int IntKind.i64).enc s14.2.1))
 (a8.arr false 1 (List.map (Sy.int IntKind.i64).enc s14.2.1))
 (a7 (Int×PUnit×PUnit×PUnit×PUnit)
 (fun (X15:Int×PUnit×PUnit×PUnit×PUnit→Prop)
 (s16:Int×PUnit×PUnit×PUnit×PUnit) =>
 aB (decide (s16.1<a0))
 (aO Sy.bool (List.map Sy.bool.enc s14.2.2.1)
 s16.1 fun (y17:Bool) =>
 BA Sy.bool (List.map Sy.bool.enc s14.2.2.1)
 (Int.toNat s16.1) 0 fun (y18:Bool) =>
 aB y18
 (fB
 (a8.arr false 1
 (List.map (Sy.int IntKind.i64).enc s14.1))
 (a8.arr false 1
 (List.map (Sy.int IntKind.i64).enc s14.1))
 (fB
 (a8.arr false 1
 (List.map Sy.bool.enc s14.2.2.1))
 (a8.arr false 1
 (List.map Sy.bool.enc s14.2.2.1))
 (fB
 (a8.arr false 1
 (List.map (Sy.int IntKind.i64).enc s14.2.1))
 (a8.arr false 1
 (List.map (Sy.int IntKind.i64).enc s14.2.1))
 (X15 (IntKind.i64.wrap (s16.1+1),(),(),(),())))))
 (aO (Sy.int IntKind.i64)
 (List.map (Sy.int IntKind.i64).enc s14.1) s16.1
 fun (y19:Int) =>
 BA (Sy.int IntKind.i64)
 (List.map (Sy.int IntKind.i64).enc s14.1)
 (Int.toNat s16.1) 0 fun (y20:Int) =>
 aB (decide (0<y20))
 (fB
 (a8.arr false 1
 (List.map (Sy.int IntKind.i64).enc s14.1))
 (a8.arr false 1
 (List.map (Sy.int IntKind.i64).enc s14.1))
 (fB
 (a8.arr false 1
 (List.map Sy.bool.enc s14.2.2.1))
 (a8.arr false 1
 (List.map Sy.bool.enc s14.2.2.1))
 (fB
 (a8.arr false 1
 (List.map (Sy.int IntKind.i64).enc
 s14.2.1))
 (a8.arr false 1
 (List.map (Sy.int IntKind.i64).enc
 s14.2.1))
 (X15
 (IntKind.i64.wrap (s16.1+1),(),(),(),
 ())))))
 (aO Sy.bool
 (List.map Sy.bool.enc s14.2.2.1) s16.1
 fun (y21:Bool) =>
 AIL (List.map Sy.bool.enc s14.2.2.1)
 (Int.toNat s16.1) fun (y22:List T) =>
 bV (decide (1≤y22.length))
 (bV
 (decide
 (((List.map (Sy.int IntKind.i64).enc
 s14.2.1).length +
 1) *
 8 ≤
 140737488355328) &&
 decide
 ((List.map (Sy.int IntKind.i64).enc
 s14.2.1).length +
 1 ≤
 140737488355328))
 (bX (Sy.int IntKind.i64)
 (List.map (Sy.int IntKind.i64).enc s14.1)
 fun (y23:List Int) =>
 a7 (List Int×Int×PUnit)
 (fun (X24:List Int×Int×PUnit→Prop)
 (s25:List Int×Int×PUnit) =>
 aB
 (decide
 (s25.2.1 <
 (↑(List.map aA.enc a1).length :
 Int)))
 (aO aA
 (List.map aA.enc a1) s25.2.1
 fun (y26:aJ) =>
 aB (decide (y26.1=s16.1))
 (aO (Sy.int IntKind.i64)
 (List.map
 (Sy.int IntKind.i64).enc
 s25.1)
 y26.2 fun (y27:Int) =>
 BA
 (Sy.int IntKind.i64)
 (List.map
 (Sy.int IntKind.i64).enc
 s25.1)
 (Int.toNat y26.2) 0
 fun (y28:Int) =>
 aO
 (Sy.int IntKind.i64)
 (List.map
 (Sy.int IntKind.i64).enc
 s25.1)
 y26.2 fun (y29:Int) =>
 AIL
 (List.map
 (Sy.int
 IntKind.i64).enc
 s25.1)
 (Int.toNat y26.2)
 fun (y30:List T) =>
 bV
 (decide (1≤y30.length))
 (bX
 (Sy.int IntKind.i64)
 ((List.map
 (Sy.int
 IntKind.i64).enc
 s25.1).set
 (Int.toNat y26.2)
 (cS y30 0
 [T.v
 (Value.int
 IntKind.i64
 (IntKind.i64.wrap
 (y28-1)))]))
 fun (y31:List Int) =>
 X24
 (y31,
 IntKind.i64.wrap
 (s25.2.1+1),
 ())))
 (bX (Sy.int IntKind.i64)
 (List.map
 (Sy.int IntKind.i64).enc
 s25.1)
 fun (y32:List Int) =>
 X24
 (y32,
 IntKind.i64.wrap
 (s25.2.1+1),
 ())))
 (bX (Sy.int IntKind.i64)
 (List.map (Sy.int IntKind.i64).enc
 s25.1)
 fun (y33:List Int) =>
 bX (Sy.int IntKind.i64)
 (List.map
 (Sy.int IntKind.i64).enc
 s14.2.1 ++
 [[T.v
 (Value.int IntKind.i64
 s16.1)]])
 fun (y34:List Int) =>
 bX Sy.bool
 ((List.map Sy.bool.enc
 s14.2.2.1).set
 (Int.toNat s16.1)
 (cS y22 0
 [T.v (.bool true)]))
 fun (y35:List Bool) =>
 X13 (y33,y34,y35,())))
 (y23,0,()))))))
 (bV (T.v (.int .i64 20)).flat
 (R
 (T.cQ
 [T.sl false [],
 T.v (.int .i64 20)]))))
 (0,(),(),(),())))))
 (bV
 ((List.map (Sy.int IntKind.i64).enc s14.2.1).all
 fun (r:List T)=>r.all T.flat)
 (bV (T.v (.int .i64 0)).flat
 (R
 (T.cQ
 [T.sl false (List.map (Sy.int IntKind.i64).enc s14.2.1),
 T.v (.int .i64 0)])))))
 (y10,y11,y12,())))))
 (y1,0,())))))
theorem AKU ( a0 a1 R):sX aW Tryz.prog WT AOZ 8 72 [aC false (Sy.int IntKind.i64) a0,aC false aA.li a1] R=XR a0 a1 R:=by kernel_rfl
abbrev L7:Sh:=[(false,(Sy.int IntKind.i64)),(false,aA.li)]
abbrev zG:Sh:=[(false,(Sy.int IntKind.i64).li),(false,Sy.int IntKind.i64)]
def PS (b:List Int) (e:aJ):List Int:=b.set e.2.toNat (IntKind.i64.wrap (b.getD e.2.toNat 0+1))
def PU (v:Int) (b:List Int) (e:aJ):List Int:=if e.1=v then b.set e.2.toNat (IntKind.i64.wrap (b.getD e.2.toNat 0-1)) else b
def A1 (b:List Int) (t:List Bool) (k:Nat):Bool:=!t.getD k false&&decide (b.getD k 0≤0)
def vL (l:List aJ) (n:Nat):Nat→List Int→List Int→List Bool→List Int×Int
 | 0,_,o,_=>(o,0)
 | f+1,b,o,t=>match (List.range n).find? (A1 b t) with
  | none=>([],20)
  | some v=>vL l n f (l.foldl (PU v) b) (o++[(v:Int)]) (t.set v true)
def dE (n:Int) (l:List aJ):List Int×Int :=
 if n<0∨256<n then ([],9) else if bC (nA n) l=0 then vL l n.toNat n.toNat (l.foldl PS (List.replicate n.toNat 0)) [] (List.replicate n.toNat false) else ([],bC (nA n) l)
theorem AFB (b:List Int) (e:aJ):(PS b e).length=b.length:=by unfold PS;rw[List.length_set]
theorem AFG (v:Int) (b:List Int) (e:aJ):(PU v b e).length=b.length:=by unfold PU;split<;>simp
theorem QK {α β:Type} {f:List β→α→List β} (hf:∀ b e,(f b e).length=b.length):∀ (l:List α) (b:List β),(l.foldl f b).length=b.length
 | [],_=>rfl
 | e::l,b=>(QK hf l (f b e)).trans (hf b e)
theorem kZ {α:Type} {f:α→Int}:∀ {l:List α},bC f l=0→∀ a∈l,f a=0
 | [],_,_,h=>by cases h
 | b::l,h,a,ha=>by
  unfold bC at h
  split at h
  ·rename_i hb
   rcases List.mem_cons.1 ha with rfl|ha
   ·exact hb
   ·exact kZ h a ha
  ·exact absurd h ‹_›
theorem oY {r:Sy} {l:List r.den} {i:Int} (h0:0≤i) (h:i.toNat<l.length) (K:r.den→Prop):aO r (List.map r.enc l) i K=K l[i.toNat]:=by
 have e:i=((i.toNat:Nat):Int):=by omega
 have:=aS h K
 rw[←e] at this
 exact this
theorem AQF {l:List Int} {k:Nat} (h:k<l.length) (y:Int):(List.map (Sy.int .i64).enc l).set k (cS ((Sy.int .i64).enc l[k]) 0 [T.v (.int .i64 y)])=List.map (Sy.int .i64).enc (l.set k y):=by
 rw[List.map_set];rfl
theorem R0 {l:List Bool} {k:Nat} (h:k<l.length) (y:Bool):(List.map Sy.bool.enc l).set k (cS (Sy.bool.enc l[k]) 0 [T.v (.bool y)])=List.map Sy.bool.enc (l.set k y):=by
 rw[List.map_set];rfl
theorem mS {α:Type} {l:List α} {k:Nat} (d:α) (h:k<l.length):l.getD k d=l[k]:=by simp[List.getD,h]
theorem A3N (n:Nat):List.replicate n [T.v (Value.int .i64 0)]=List.map (Sy.int .i64).enc (List.replicate n 0):=by rw[List.map_replicate];rfl
theorem AIH (n:Nat):List.replicate n [T.v (.bool false)]=List.map Sy.bool.enc (List.replicate n false):=by rw[List.map_replicate];rfl
theorem UT (l:List Int):((List.map (Sy.int .i64).enc l).all fun (r:List T)=>r.all T.flat)=true:=by
 rw[List.all_map,List.all_eq_true];intro a _;rfl
def SC (x:Int×List aJ):Option T:=lS x.2 (Sh.enc zG (dE x.1 x.2))
noncomputable def yX:List T→Option (T):=gS L7 SC
theorem AML {a0 a1}:yX [T.v (.int .i64 a0),T.sl false (List.map aA.enc a1)]=SC (a0,a1):=a6 (s:=L7) rfl (a0,a1) rfl
theorem AZQ (h:∀ a0 a1 r,SC (a0,a1)=some r→bY L7 (a0,a1)→XR a0 a1 (fun y=>y=r)):iM Tryz.prog 72 yX :=
 AP2 (E:=WT) (Hs:=AOZ) AQ3 aU aV (aL rfl) 8 ⟨_,_,Tryz.func72,rfl⟩ rfl fun x r h1 h2=>by
  obtain ⟨a0,a1⟩:=x
  rw[show Sh.bK L7 (a0,a1)=[aC false (Sy.int IntKind.i64) a0,aC false aA.li a1] from rfl,AKU]
  exact h a0 a1 r h1 h2
theorem AXV:iM Tryz.prog 72 yX:=AZQ fun n l r h hb=>by
 obtain ⟨hl,rfl⟩:=fY h
 clear h
 have hl:l.length≤140737488355328:=hl
 unfold XR
 refine bJ (fun h=>?_) fun hn0=>?_
 ·refine ⟨rfl,?_⟩
  show _=Sh.enc zG (dE n l)
  rw[dE,if_pos (Or.inl h)];rfl
 refine bJ (fun h=>?_) fun hn1=>?_
 ·refine ⟨rfl,?_⟩
  show _=Sh.enc zG (dE n l)
  rw[dE,if_pos (Or.inr h)];rfl
 refine aD (s:=[(false,.int .i64)]) (y:=bC (nA n) l) (by rw[AS3];exact dX _ hl) ?_
 refine gT (fun h0=>?_) (fun h0=>?_)
 ·refine ⟨rfl,?_⟩
  show _=Sh.enc zG (dE n l)
  rw[dE,if_neg (by omega),if_neg h0];rfl
 have hv:dE n l=vL l n.toNat n.toNat (l.foldl PS (List.replicate n.toNat 0)) [] (List.replicate n.toNat false):=by
  rw[dE,if_neg (by omega),if_pos h0]
 have hend:∀ e∈l,0≤e.1∧e.1<n∧0≤e.2∧e.2<n:=fun e he=>by
  have:=kZ h0 e he
  unfold nA at this
  split at this
  ·exact absurd this (by decide)
  ·omega
 clear h0 hb
 obtain ⟨N,rfl⟩:∃ N:Nat,n=(N:Int):=⟨n.toNat,by omega⟩
 rw[Int.toNat_natCast] at hv ⊢
 refine ⟨by simp;omega,?_⟩
 rw[A3N,dM rfl]
 refine aY l.length (fun k s=>s.2.1=(k:Int)∧s.1.length=N∧(l.drop k).foldl PS s.1=l.foldl PS (List.replicate N 0)) ⟨rfl,by simp,rfl⟩ ?_
 rintro X k ⟨b,i,u⟩ hk ⟨rfl,hbl,hbf⟩ hX
 dsimp only at hbl hbf ⊢
 refine bJ (fun hlt=>?_) fun hge=>?_
 ·rw[List.length_map] at hlt
  have hlt:k<l.length:=by omega
  rw[aS hlt]
  obtain ⟨-,-,e0,e1⟩:=hend _ (List.getElem_mem hlt)
  have hj:(l[k].2).toNat<b.length:=by omega
  rw[oY e0 hj,pU hj,oY e0 hj,EY hj]
  refine ⟨rfl,?_⟩
  rw[AQF hj,dM rfl]
  refine hX _ hlt ⟨?_,?_,?_⟩
  ·show IntKind.i64.wrap ((k:Int)+1)=_
   rw[aQ]<;>omega
  ·show (List.set _ _ _).length=N
   rw[List.length_set];exact hbl
  ·rw[List.drop_eq_getElem_cons hlt,List.foldl_cons] at hbf
   rw[←hbf]
   congr 1
   unfold PS
   rw[mS (l:=b) 0 hj]
 rw[List.length_map] at hge
 have hkl:k=l.length:=by omega
 subst hkl
 rw[List.drop_length,List.foldl_nil] at hbf
 rw[←hbf] at hv
 refine ⟨by simp;omega,⟨by simp;omega,?_⟩⟩
 rw[dM rfl,AXD,AIH,dM rfl]
 clear hX hge hbf
 refine aY N (fun k s=>s.1.length=N∧s.2.1.length=k∧s.2.2.1.length=N∧vL l N (N-k) s.1 s.2.1 s.2.2.1=dE N l) ⟨hbl,rfl,by simp,by rw[hv];rfl⟩ ?_
 clear hv hbl b u
 rintro X k ⟨b,o,t,u⟩ hk ⟨hbl,hol,htl,hr⟩ hX
 dsimp only at hbl hol htl hr ⊢
 refine bJ (fun hlt=>?_) fun hge=>?_
 ·rw[List.length_map,hol] at hlt
  have hlt:k<N:=by omega
  rw[cG,cG,cG]
  obtain ⟨m,hm⟩:∃ m,N-k=m+1:=⟨N-k-1,by omega⟩
  rw[hm,vL] at hr
  refine aY N (fun j s=>s.1=(j:Int)∧(List.range N).find? (A1 b t)=(List.range' j (N-j)).find? (A1 b t)) ⟨rfl,by rw[List.range_eq_range'];rfl⟩ ?_
  rintro Y j ⟨i,u1,u2,u3,u4⟩ hj ⟨rfl,hf⟩ hY
  dsimp only at hf ⊢
  refine bJ (fun hjn=>?_) fun hjn=>?_
  ·have hjn:j<N:=by omega
   have hjb:j<b.length:=by omega
   have hjt:j<t.length:=by omega
   obtain ⟨q,hq⟩:∃ q,N-j=q+1:=⟨N-j-1,by omega⟩
   rw[hq,List.range'_succ,List.find?_cons] at hf
   have next:A1 b t j=false→Y (IntKind.i64.wrap ((j:Int)+1),(),(),(),()):=fun h=>by
    refine hY _ hjn ⟨?_,?_⟩
    ·show IntKind.i64.wrap ((j:Int)+1)=_
     rw[aQ]<;>omega
    ·rw[hf,h]
     rw[show N-(j+1)=q by omega]
   simp only[Int.toNat_natCast]
   rw[aS hjt,pU hjt]
   refine tA (fun ht=>?_) fun ht=>?_
   ·rw[cG,cG,cG]
    exact next (by rw[A1,mS (l:=t) false hjt,ht];rfl)
   rw[aS hjb,pU hjb]
   refine bJ (fun hp=>?_) fun hp=>?_
   ·rw[cG,cG,cG]
    exact next (by rw[A1,mS (l:=b) 0 hjb,decide_eq_false (by omega),Bool.and_false])
   have hfree:A1 b t j=true:=by rw[A1,mS (l:=b) 0 hjb,mS (l:=t) false hjt,ht,decide_eq_true (by omega)];rfl
   rw[hfree] at hf
   rw[hf] at hr
   dsimp only at hr
   clear next hY hf
   rw[aS hjt,EY hjt]
   refine ⟨rfl,⟨by simp;omega,?_⟩⟩
   rw[dM rfl]
   refine aY l.length (fun k s=>s.2.1=(k:Int)∧s.1.length=N∧(l.drop k).foldl (PU j) s.1=l.foldl (PU j) b) ⟨rfl,hbl,rfl⟩ ?_
   rintro Z i ⟨c,i',u⟩ hi ⟨rfl,hcl,hcf⟩ hZ
   dsimp only at hcl hcf ⊢
   refine bJ (fun hlt=>?_) fun hge=>?_
   ·rw[List.length_map] at hlt
    have hlt:i<l.length:=by omega
    rw[aS hlt]
    obtain ⟨-,-,e0,e1⟩:=hend _ (List.getElem_mem hlt)
    have hjc:(l[i].2).toNat<c.length:=by omega
    rw[List.drop_eq_getElem_cons hlt,List.foldl_cons] at hcf
    have hw:IntKind.i64.wrap ((i:Int)+1)=((i+1:Nat):Int):=by rw[aQ]<;>omega
    refine bJ (fun hv=>?_) fun hv=>?_
    ·rw[oY e0 hjc,pU hjc,oY e0 hjc,EY hjc]
     refine ⟨rfl,?_⟩
     rw[AQF hjc,dM rfl]
     refine hZ _ hlt ⟨hw,?_,?_⟩
     ·show (List.set _ _ _).length=N
      rw[List.length_set];exact hcl
     ·rw[←hcf]
      congr 1
      unfold PU
      rw[if_pos hv,mS (l:=c) 0 hjc]
    ·rw[dM rfl]
     refine hZ _ hlt ⟨hw,hcl,?_⟩
     rw[←hcf]
     congr 1
     unfold PU
     rw[if_neg hv]
   ·rw[List.length_map] at hge
    have hil:i=l.length:=by omega
    subst hil
    rw[List.drop_length,List.foldl_nil] at hcf
    rw[dM rfl,tI (r:=.int .i64) rfl o [T.v (.int .i64 (j:Int))] (j:Int) rfl,R0 hjt,dM rfl]
    refine hX _ hlt ⟨hcl,by simp[hol],by simp[htl],?_⟩
    rw[show N-(k+1)=m by omega]
    show vL l N m c (o++[(j:Int)]) (t.set j true)=_
    rw[hcf];exact hr
  ·have hjn:j=N:=by omega
   subst hjn
   rw[Nat.sub_self] at hf
   rw[show (List.range' j 0)=[] from rfl,List.find?_nil] at hf
   rw[hf] at hr
   refine ⟨rfl,?_⟩
   show _=Sh.enc zG (dE (j:Int) l)
   rw[←hr];rfl
 ·rw[List.length_map,hol] at hge
  have hkN:k=N:=by omega
  subst hkN
  rw[Nat.sub_self,vL] at hr
  refine ⟨UT o,rfl,?_⟩
  show _=Sh.enc zG (dE (k:Int) l)
  rw[←hr];rfl
end Go.Pv
namespace Go.Pv
open Go Go.Proofs
def BE (t:List Bool) (v:Nat) (e:aJ):Bool:=decide (e.2=(v:Int)) && !t.getD e.1.toNat false
def K9 (l:List aJ) (t:List Bool) (v:Nat):Bool:=l.any (BE t v)
def pB (l:List aJ) (t:List Bool) (k:Nat):Bool:=!t.getD k false && !K9 l t k
def pV (l:List aJ) (n:Nat):Nat→List Int→List Bool→List Int×Int
 | 0,o,_=>(o,0)
 | f+1,o,t=>match (List.range n).find? (pB l t) with
  | none=>([],20)
  | some v=>pV l n f (o++[(v:Int)]) (t.set v true)
theorem D8 {α:Type} {l:List α} {i:Nat} {x d:α} (h:i<l.length) (k:Nat):(l.set i x).getD k d=if k=i then x else l.getD k d:=by
 rw[List.getD_eq_getElem?_getD,List.getD_eq_getElem?_getD,List.getElem?_set]
 by_cases e:i=k
 ·subst e
  rw[if_pos rfl,if_pos h,if_pos rfl];rfl
 ·rw[if_neg e,if_neg (fun h=>e h.symm)]
theorem AFU (v:Nat):∀ (l:List aJ) (b:List Int),(∀ e∈l,0≤e.2∧e.2.toNat<b.length)→(∀ v,0≤b.getD v 0∧b.getD v 0+l.length≤1000000000000000)→(l.foldl PS b).getD v 0=b.getD v 0+(l.countP fun e=>decide (e.2=(v:Int)):Nat)
 | [],b,_,_=>by simp
 | e::l,b,h1,h2=>by
  obtain ⟨e0,e1⟩:=h1 e (by simp)
  have hb:=h2 e.2.toNat
  have hv:=h2 v
  simp only[List.length_cons] at hb hv
  have hw:IntKind.i64.wrap (b.getD e.2.toNat 0+1)=b.getD e.2.toNat 0+1:=aQ _ (by omega) (by omega)
  have hg:∀ w,(PS b e).getD w 0=if w=e.2.toNat then b.getD w 0+1 else b.getD w 0:=fun w=>by
   unfold PS
   rw[D8 e1,hw]
   by_cases hc:w=e.2.toNat
   ·rw[if_pos hc,if_pos hc,hc]
   ·rw[if_neg hc,if_neg hc]
  rw[List.foldl_cons,AFU v l (PS b e) (fun x hx=>by rw[AFB];exact h1 x (by simp[hx])) (fun w=>by
   have:=h2 w
   simp only[List.length_cons] at this
   rw[hg]
   split<;>omega),hg,List.countP_cons]
  by_cases hc:v=e.2.toNat
  ·rw[if_pos hc,decide_eq_true (show e.2=(v:Int) by omega)];simp;omega
  ·rw[if_neg hc,decide_eq_false (show ¬ e.2=(v:Int) by omega)];simp
theorem AFV (v w:Nat):∀ (l:List aJ) (b:List Int),(∀ e∈l,0≤e.2∧e.2.toNat<b.length)→(∀ v,b.getD v 0≤1000000000000000∧-1000000000000000≤b.getD v 0-l.length)→(l.foldl (PU v) b).getD w 0=b.getD w 0-(l.countP fun e=>decide (e.1=(v:Int))&&decide (e.2=(w:Int)):Nat)
 | [],b,_,_=>by simp
 | e::l,b,h1,h2=>by
  obtain ⟨e0,e1⟩:=h1 e (by simp)
  have hb:=h2 e.2.toNat
  have hv:=h2 w
  simp only[List.length_cons] at hb hv
  have hw:IntKind.i64.wrap (b.getD e.2.toNat 0-1)=b.getD e.2.toNat 0-1:=aQ _ (by omega) (by omega)
  have hg:∀ w,(PU v b e).getD w 0=if e.1=(v:Int)∧w=e.2.toNat then b.getD w 0-1 else b.getD w 0:=fun w=>by
   unfold PU
   by_cases hc:e.1=(v:Int)
   ·rw[if_pos hc,D8 e1,hw]
    by_cases hd:w=e.2.toNat
    ·rw[if_pos hd,if_pos ⟨hc,hd⟩,hd]
    ·rw[if_neg hd,if_neg (fun h=>hd h.2)]
   ·rw[if_neg hc,if_neg (fun h=>hc h.1)]
  rw[List.foldl_cons,AFV v w l (PU v b e) (fun x hx=>by rw[AFG];exact h1 x (by simp[hx])) (fun w=>by
   have:=h2 w
   simp only[List.length_cons] at this
   rw[hg]
   split<;>omega),hg,List.countP_cons]
  by_cases hc:e.1=(v:Int)
  ·by_cases hd:w=e.2.toNat
   ·rw[if_pos ⟨hc,hd⟩,decide_eq_true hc,decide_eq_true (show e.2=(w:Int) by omega)];simp;omega
   ·rw[if_neg (fun h=>hd h.2),decide_eq_true hc,decide_eq_false (show ¬ e.2=(w:Int) by omega)];simp
  ·rw[if_neg (fun h=>hc h.1),decide_eq_false hc];simp
def Y1 (l:List aJ) (t:List Bool) (v:Nat):Nat:=l.countP (BE t v)
theorem ARY (l:List aJ) (t:List Bool) (v:Nat):decide ((Y1 l t v:Int)≤0) = !K9 l t v:=by
 unfold Y1 K9
 cases h:l.any (BE t v) with
 | true =>
  have:0<l.countP (BE t v):=List.countP_pos_iff.2 (List.any_eq_true.1 h)
  rw[decide_eq_false (by omega)];rfl
 | false =>
  have:l.countP (BE t v)=0:=List.countP_eq_zero.2 fun a ha=>by
   rw[Bool.eq_false_iff] at h
   intro h2
   exact h (List.any_eq_true.2 ⟨a,ha,h2⟩)
  rw[this];rfl
theorem DN {α:Type} (p q r:α→Bool):∀ l:List α,(∀ a∈l,p a=(q a||r a)∧(q a&&r a)=false)→l.countP p=l.countP q+l.countP r
 | [],_=>rfl
 | a::l,h=>by
  obtain ⟨h1,h2⟩:=h a (by simp)
  rw[List.countP_cons,List.countP_cons,List.countP_cons,DN p q r l fun b hb=>h b (by simp[hb]),h1]
  revert h2
  cases q a<;>cases r a<;>simp<;>omega
theorem ARX {l:List aJ} {t:List Bool} {v:Nat} (hl:∀ e∈l,0≤e.1∧e.1.toNat<t.length) (hv:t.getD v false=false) (hvl:v<t.length) (w:Nat):Y1 l t w=Y1 l (t.set v true) w+l.countP fun e=>decide (e.1=(v:Int))&&decide (e.2=(w:Int)):=by
 unfold Y1
 refine DN _ _ _ _ fun e he=>?_
 obtain ⟨e0,e1⟩:=hl e he
 unfold BE
 rw[D8 hvl]
 by_cases hc:e.1=(v:Int)
 ·have:e.1.toNat=v:=by omega
  rw[if_pos this,this,hv,decide_eq_true hc]
  cases decide (e.2=(w:Int))<;>simp
 ·have:¬ e.1.toNat=v:=by omega
  rw[if_neg this,decide_eq_false hc]
  simp
theorem A2A {l:List aJ} {b:List Int} {t:List Bool} {k:Nat} (h:b.getD k 0=(Y1 l t k:Int)):A1 b t k=pB l t k:=by
 unfold A1 pB
 rw[h,ARY]
theorem find_congr {α:Type} {p q:α→Bool}:∀ {l:List α},(∀ a∈l,p a=q a)→l.find? p=l.find? q
 | [],_=>rfl
 | a::l,h=>by rw[List.find?_cons,List.find?_cons,h a (by simp),find_congr fun b hb=>h b (by simp[hb])]
theorem RM {l:List aJ} {n:Nat} (hll:l.length≤140737488355328) (hl:∀ e∈l,0≤e.1∧e.1.toNat<n∧0≤e.2∧e.2.toNat<n):∀ (f:Nat) (b:List Int) (o:List Int) (t:List Bool),b.length=n→t.length=n→(∀ k,k<n→b.getD k 0=(Y1 l t k:Int))→vL l n f b o t=pV l n f o t
 | 0,b,o,t,_,_,_=>rfl
 | f+1,b,o,t,hb,ht,h=>by
  rw[vL,pV,find_congr (q:=pB l t) fun k hk=>A2A (h k (List.mem_range.1 hk))]
  cases hf:(List.range n).find? (pB l t) with
  | none=>rfl
  | some v =>
   have hv:v<n:=List.mem_range.1 (List.mem_of_find?_eq_some hf)
   have hfree:=List.find?_some hf
   unfold pB at hfree
   rw[Bool.and_eq_true,Bool.not_eq_true'] at hfree
   refine RM hll hl f _ _ _ (by rw[QK (AFG v)];exact hb) (by rw[List.length_set];exact ht) fun k hk=>?_
   have hcw:∀ w,Y1 l t w≤l.length:=fun w=>List.countP_le_length
   have hgd:∀ w,b.getD w 0≤140737488355328∧0≤b.getD w 0:=fun w=>by
    rcases Nat.lt_or_ge w n with hw|hw
    ·rw[h w hw];have:=hcw w;omega
    ·rw[List.getD_eq_getElem?_getD,List.getElem?_eq_none (by omega)];simp
   rw[AFV v k l b (fun e he=>by obtain ⟨_,_,x,y⟩:=hl e he;exact ⟨x,by omega⟩) (fun w=>by have:=hgd w;omega),h k hk,ARX (v:=v) (fun e he=>by obtain ⟨x,y,_⟩:=hl e he;exact ⟨x,by omega⟩) hfree.1 (by omega) k]
   omega
theorem RN {n:Int} {l:List aJ} (hll:l.length≤140737488355328) (hn:0≤n) (hn2:n≤256) (h0:bC (nA n) l=0):dE n l=pV l n.toNat n.toNat [] (List.replicate n.toNat false):=by
 have hend:∀ e∈l,0≤e.1∧e.1<n∧0≤e.2∧e.2<n:=fun e he=>by
  have:=kZ h0 e he
  unfold nA at this
  split at this
  ·exact absurd this (by decide)
  ·omega
 rw[dE,if_neg (by omega),if_pos h0]
 refine RM hll (fun e he=>by have:=hend e he;omega) _ _ _ _ (by rw[QK AFB];simp) (by simp) fun k hk=>?_
 rw[AFU k l _ (fun e he=>by have:=hend e he;rw[List.length_replicate];omega) (fun w=>by
  have:(List.replicate n.toNat (0:Int)).getD w 0=0:=by
   rw[List.getD_eq_getElem?_getD,List.getElem?_replicate];split<;>rfl
  rw[this];omega)]
 have:(List.replicate n.toNat (0:Int)).getD k 0=0:=by
  rw[List.getD_eq_getElem?_getD,List.getElem?_replicate];split<;>rfl
 rw[this,Int.zero_add]
 unfold Y1
 congr 1
 refine List.countP_congr fun e he=>?_
 unfold BE
 have:(List.replicate n.toNat false).getD e.1.toNat false=false:=by
  rw[List.getD_eq_getElem?_getD,List.getElem?_replicate];split<;>rfl
 rw[this];simp
end Go.Pv
namespace Go.Pv
open Go Go.Proofs
noncomputable def eqB {α:Type} (a b:α):Bool:=@decide (a=b) (Classical.propDecidable _)
theorem A1V {α:Type} {a b:α}:eqB a b=true↔a=b:=by unfold eqB;exact @decide_eq_true_iff _ (Classical.propDecidable _)
@[simp] theorem A7Z {α:Type} (a:α):eqB a a=true:=A1V.2 rfl
def lK (d:aF) (id:ByteArray):Option cB:=d.2.2.2.2.1.find? fun s=>decide (s.1=id)
def noPack:cB:=(⟨#[]⟩,⟨#[]⟩,[],0,[])
def uK (x:aF×ByteArray):Option T:=some (Sh.enc [(true,aR),(false,.bool)] (found noPack (lK x.1 x.2)))
noncomputable def M7:Env:=Env.of []
def AD7:FuncId→Hint:=fun f=>match f == 89 with|true=>⟨fun r=>match r == 2 with|true=>.inv [.val 6 false (.int .i64),.fix 1]|false=>.none,fun _ _=>none,fun _=>none⟩|false=>aT
theorem AJV:aE Tryz.prog M7:=aE.nil _
def OH (a0:aF) (a1:ByteArray) (R:T→Prop):Prop :=
 fB
 (a8.rows false
 [[D.p (T.v (.string { data:=#[] })),D.p (T.v (.string { data:=#[] })),
 D.p (T.v (Value.slice none 0 0)),D.p (T.v (.int .i64 0)),
 D.p (T.v (Value.slice none 0 0))]])
 (a8.rows false
 [[D.p (T.v (.string { data:=#[] })),D.p (T.v (.string { data:=#[] })),
 D.p (T.v (Value.slice none 0 0)),D.p (T.v (.int .i64 0)),
 D.p (T.v (Value.slice none 0 0))]])
 (a7 (Int×PUnit×PUnit)
 (fun (X0:Int×PUnit×PUnit→Prop) (s1:Int×PUnit×PUnit) =>
 aB (decide (s1.1<(↑(List.map aR.enc a0.2.2.2.2.1).length:Int)))
 (aO aR (List.map aR.enc a0.2.2.2.2.1) s1.1
 fun (y2:cB) =>
 aB (decide (y2.1=a1))
 (aO aR (List.map aR.enc a0.2.2.2.2.1) s1.1
 fun (y3:cB) =>
 R (T.cQ [aC true aR y3,T.v (.bool true)]))
 (fB
 (a8.rows false
 [[D.p (T.v (.string { data:=#[] })),
 D.p (T.v (.string { data:=#[] })),
 D.p (T.v (Value.slice none 0 0)),
 D.p (T.v (.int .i64 0)),
 D.p (T.v (Value.slice none 0 0))]])
 (a8.rows false
 [[D.p (T.v (.string { data:=#[] })),
 D.p (T.v (.string { data:=#[] })),
 D.p (T.v (Value.slice none 0 0)),
 D.p (T.v (.int .i64 0)),
 D.p (T.v (Value.slice none 0 0))]])
 (X0 (IntKind.i64.wrap (s1.1+1),(),()))))
 (R
 (T.cQ
 [T.agg
 [T.v (.string { data:=#[] }),T.v (.string { data:=#[] }),
 T.sl false [],T.v (.int .i64 0),T.sl false []],
 T.v (.bool false)])))
 (0,(),()))
theorem ACZ ( a0 a1 R):bA aW Tryz.prog M7 AD7 8 89 [aC true aM a0,aC false Sy.str a1] R=OH a0 a1 R:=by kernel_rfl
abbrev FH:Sh:=[(true,aM),(false,Sy.str)]
noncomputable def jU:List T→Option (T):=gS FH uK
theorem KO {a0 a1}:jU [aC true aM a0,T.v (.string a1)]=uK (a0,a1):=a6 (s:=FH) rfl (a0,a1) rfl
theorem AT6 (h:∀ a0 a1 r,uK (a0,a1)=some r→bY FH (a0,a1)→OH a0 a1 (fun y=>y=r)):aK Tryz.prog 89 jU :=
 aP (E:=M7) (Hs:=AD7) AJV aU aV (aL rfl) 8 ⟨_,_,Tryz.func89,rfl⟩ rfl fun x r h1 h2=>by
  obtain ⟨a0,a1⟩:=x
  rw[show Sh.bK FH (a0,a1)=[aC true aM a0,aC false Sy.str a1] from rfl,ACZ]
  exact h a0 a1 r h1 h2
theorem UX:aK Tryz.prog 89 jU:=AT6 fun d id r h hb=>by
 have hl:d.2.2.2.2.1.length≤2 ^ 47:=hb.1.2.2.2.2.1.1
 unfold OH
 rw[cG]
 refine aY d.2.2.2.2.1.length (fun k s=>s=((k:Int),(),())∧(d.2.2.2.2.1.drop k).find? (fun s=>decide (s.1=id))=lK d id) ⟨rfl,rfl⟩ ?_
 rintro X k s hk ⟨rfl,hf⟩ hX
 simp only[List.length_map,AAE,cG]
 by_cases hlt:k<d.2.2.2.2.1.length
 ·rw[lW hlt] at hf
  simp only[hlt,decide_true,aB,aS (r:=aR) hlt]
  cases hc:decide (d.2.2.2.2.1[k].1=id) with
  | true =>
   simp only[hc,if_true] at hf
   simp only[uK,←hf] at h
   cases h;rfl
  | false =>
   simp only[hc] at hf
   refine hX _ hlt ⟨?_,hf⟩
   simp only[Prod.mk.injEq,and_true]
   exact aQ _ (by omega) (by omega)
 ·have:k=d.2.2.2.2.1.length:=by omega
  subst this
  simp only[List.drop_length,List.find?_nil] at hf
  simp only[uK,←hf] at h
  simp only[hlt,decide_false,aB]
  cases h;rfl
def AZX (p:cB):Bool:=RE 16 p.2.2.1.length&&RE 16 p.2.2.2.2.length
def okK (d:aF):Bool:=d.2.2.2.2.1.all AZX
end Go.Pv
namespace Go.Pv
open Go Go.Proofs
def lL (d:aF) (s:o5):Int:=if gP s.1=false∨gP s.2.1=false∨gP s.2.2.1=false then 6 else if s.2.1=s.2.2.1 then 2 else if ¬ s.2.2.2.1=1∧¬ s.2.2.2.1=2 then 10 else if s.2.2.2.2.1<1∨32768<s.2.2.2.2.1∨s.2.2.2.2.2<1∨3<s.2.2.2.2.2 then 9 else if (partOf d s.2.1).isNone=true∨(partOf d s.2.2.1).isNone=true then 8 else 0
def o4 (a0:aF) (m1:List (ByteArray×Int)) (m2:List (ByteArray×Int)) (m3:List (ByteArray×Int)) (m4:List (ByteArray×Int)):List T:=[SP a0 m1 m2 m3 m4]
noncomputable def MO:Env:=Env.of [(66,.pure dJ)]
def ADQ:FuncId→Hint:=fun f=>match f == 27 with|true=>⟨fun r=>match r == 2 with|true=>.inv [.val 17 false (.int .i64)]|false=>.none,fun _ _=>none,fun _=>none⟩|false=>aT
theorem AJE:aE Tryz.prog MO:=aE.cons (x:=.pure dJ) LO (aE.nil _)
def NY (a0:aF) (m1:List (ByteArray×Int)) (m2:List (ByteArray×Int)) (m3:List (ByteArray×Int)) (m4:List (ByteArray×Int)) (R:T→Prop):Prop :=
 a7 (Int×PUnit)
 (fun (X0:Int×PUnit→Prop) (s1:Int×PUnit) =>
 aB (decide (s1.1<(↑(List.map bW.enc a0.2.2.2.1).length:Int)))
 (aO bW (List.map bW.enc a0.2.2.2.1) s1.1 fun (y2:o5) =>
 gG TypeDesc.string (Value.string y2.2.1) (qE (bE m2)) false
 (Sy.int IntKind.i64)
 (gG TypeDesc.string (Value.string y2.2.2.1) (qE (bE m2)) false
 (Sy.int IntKind.i64)
 (aG [(false,Sy.bool)] (dJ [T.v (.string y2.1)])
 fun (y18:Bool) =>
 aB (!y18) (R (T.v (.int .i64 6)))
 (aG [(false,Sy.bool)] (dJ [T.v (.string y2.2.1)])
 fun (y19:Bool) =>
 aB (!y19) (R (T.v (.int .i64 6)))
 (aG [(false,Sy.bool)] (dJ [T.v (.string y2.2.2.1)])
 fun (y20:Bool) =>
 aB (!y20) (R (T.v (.int .i64 6)))
 (aB (decide (y2.2.1=y2.2.2.1))
 (R (T.v (.int .i64 2)))
 (aB (!decide (y2.2.2.2.1=1))
 (aB (!decide (y2.2.2.2.1=2))
 (R (T.v (.int .i64 10)))
 (aB (decide (y2.2.2.2.2.1<1))
 (R (T.v (.int .i64 9)))
 (aB (decide (32768<y2.2.2.2.2.1))
 (R (T.v (.int .i64 9)))
 (aB (decide (y2.2.2.2.2.2<1))
 (R (T.v (.int .i64 9)))
 (aB (decide (3<y2.2.2.2.2.2))
 (R (T.v (.int .i64 9)))
 (R (T.v (.int .i64 8))))))))
 (aB (decide (y2.2.2.2.2.1<1))
 (R (T.v (.int .i64 9)))
 (aB (decide (32768<y2.2.2.2.2.1))
 (R (T.v (.int .i64 9)))
 (aB (decide (y2.2.2.2.2.2<1))
 (R (T.v (.int .i64 9)))
 (aB (decide (3<y2.2.2.2.2.2))
 (R (T.v (.int .i64 9)))
 (R (T.v (.int .i64 8))))))))))))
 fun (i13:Nat) (y14:Int) =>
 aG [(false,Sy.bool)] (dJ [T.v (.string y2.1)]) fun (y15:Bool) =>
 aB (!y15) (R (T.v (.int .i64 6)))
 (aG [(false,Sy.bool)] (dJ [T.v (.string y2.2.1)])
 fun (y16:Bool) =>
 aB (!y16) (R (T.v (.int .i64 6)))
 (aG [(false,Sy.bool)] (dJ [T.v (.string y2.2.2.1)])
 fun (y17:Bool) =>
 aB (!y17) (R (T.v (.int .i64 6)))
 (aB (decide (y2.2.1=y2.2.2.1))
 (R (T.v (.int .i64 2)))
 (aB (!decide (y2.2.2.2.1=1))
 (aB (!decide (y2.2.2.2.1=2))
 (R (T.v (.int .i64 10)))
 (aB (decide (y2.2.2.2.2.1<1))
 (R (T.v (.int .i64 9)))
 (aB (decide (32768<y2.2.2.2.2.1))
 (R (T.v (.int .i64 9)))
 (aB (decide (y2.2.2.2.2.2<1))
 (R (T.v (.int .i64 9)))
 (aB (decide (3<y2.2.2.2.2.2))
 (R (T.v (.int .i64 9)))
 (R (T.v (.int .i64 8))))))))
 (aB (decide (y2.2.2.2.2.1<1))
 (R (T.v (.int .i64 9)))
 (aB (decide (32768<y2.2.2.2.2.1))
 (R (T.v (.int .i64 9)))
 (aB (decide (y2.2.2.2.2.2<1))
 (R (T.v (.int .i64 9)))
 (aB (decide (3<y2.2.2.2.2.2))
 (R (T.v (.int .i64 9)))
 (R (T.v (.int .i64 8))))))))))))
 fun (i3:Nat) (y4:Int) =>
 gG TypeDesc.string (Value.string y2.2.2.1) (qE (bE m2)) false
 (Sy.int IntKind.i64)
 (aG [(false,Sy.bool)] (dJ [T.v (.string y2.1)])
 fun (y10:Bool) =>
 aB (!y10) (R (T.v (.int .i64 6)))
 (aG [(false,Sy.bool)] (dJ [T.v (.string y2.2.1)])
 fun (y11:Bool) =>
 aB (!y11) (R (T.v (.int .i64 6)))
 (aG [(false,Sy.bool)] (dJ [T.v (.string y2.2.2.1)])
 fun (y12:Bool) =>
 aB (!y12) (R (T.v (.int .i64 6)))
 (aB (decide (y2.2.1=y2.2.2.1))
 (R (T.v (.int .i64 2)))
 (aB (!decide (y2.2.2.2.1=1))
 (aB (!decide (y2.2.2.2.1=2))
 (R (T.v (.int .i64 10)))
 (aB (decide (y2.2.2.2.2.1<1))
 (R (T.v (.int .i64 9)))
 (aB (decide (32768<y2.2.2.2.2.1))
 (R (T.v (.int .i64 9)))
 (aB (decide (y2.2.2.2.2.2<1))
 (R (T.v (.int .i64 9)))
 (aB (decide (3<y2.2.2.2.2.2))
 (R (T.v (.int .i64 9)))
 (R (T.v (.int .i64 8))))))))
 (aB (decide (y2.2.2.2.2.1<1))
 (R (T.v (.int .i64 9)))
 (aB (decide (32768<y2.2.2.2.2.1))
 (R (T.v (.int .i64 9)))
 (aB (decide (y2.2.2.2.2.2<1))
 (R (T.v (.int .i64 9)))
 (aB (decide (3<y2.2.2.2.2.2))
 (R (T.v (.int .i64 9)))
 (R (T.v (.int .i64 8))))))))))))
 fun (i5:Nat) (y6:Int) =>
 aG [(false,Sy.bool)] (dJ [T.v (.string y2.1)]) fun (y7:Bool) =>
 aB (!y7) (R (T.v (.int .i64 6)))
 (aG [(false,Sy.bool)] (dJ [T.v (.string y2.2.1)])
 fun (y8:Bool) =>
 aB (!y8) (R (T.v (.int .i64 6)))
 (aG [(false,Sy.bool)] (dJ [T.v (.string y2.2.2.1)])
 fun (y9:Bool) =>
 aB (!y9) (R (T.v (.int .i64 6)))
 (aB (decide (y2.2.1=y2.2.2.1))
 (R (T.v (.int .i64 2)))
 (aB (!decide (y2.2.2.2.1=1))
 (aB (!decide (y2.2.2.2.1=2))
 (R (T.v (.int .i64 10)))
 (aB (decide (y2.2.2.2.2.1<1))
 (R (T.v (.int .i64 9)))
 (aB (decide (32768<y2.2.2.2.2.1))
 (R (T.v (.int .i64 9)))
 (aB (decide (y2.2.2.2.2.2<1))
 (R (T.v (.int .i64 9)))
 (aB (decide (3<y2.2.2.2.2.2))
 (R (T.v (.int .i64 9)))
 (X0 (IntKind.i64.wrap (s1.1+1),())))))))
 (aB (decide (y2.2.2.2.2.1<1))
 (R (T.v (.int .i64 9)))
 (aB (decide (32768<y2.2.2.2.2.1))
 (R (T.v (.int .i64 9)))
 (aB (decide (y2.2.2.2.2.2<1))
 (R (T.v (.int .i64 9)))
 (aB (decide (3<y2.2.2.2.2.2))
 (R (T.v (.int .i64 9)))
 (X0 (IntKind.i64.wrap (s1.1+1),())))))))))))
 (R (T.v (.int .i64 0))))
 (0,())
theorem ACH ( a0 m1 m2 m3 m4 R):bA aW Tryz.prog MO ADQ 8 27 (o4 a0 m1 m2 m3 m4) R=NY a0 m1 m2 m3 m4 R:=by kernel_rfl
theorem WG (x y:aF×MP×MP×MP×MP) (h:o4 x.1 x.2.1 x.2.2.1 x.2.2.2.1 x.2.2.2.2=o4 y.1 y.2.1 y.2.2.1 y.2.2.2.1 y.2.2.2.2):x=y:=qC (List.cons.inj h).1
def JB (x:aF×MP×MP×MP×MP):Option T:=wH x (T.v (Value.int .i64 (bC (lL x.1) x.1.2.2.2.1)))
noncomputable def tN:List T→Option (T):=gA (fun (x:aF×(List (ByteArray×Int))×(List (ByteArray×Int))×(List (ByteArray×Int))×List (ByteArray×Int))=>o4 x.1 x.2.1 x.2.2.1 x.2.2.2.1 x.2.2.2.2) JB
theorem AF4 (a0:aF) (m1:List (ByteArray×Int)) (m2:List (ByteArray×Int)) (m3:List (ByteArray×Int)) (m4:List (ByteArray×Int)):tN (o4 a0 m1 m2 m3 m4)=JB (a0,m1,m2,m3,m4):=lA (A:=(fun (x:aF×(List (ByteArray×Int))×(List (ByteArray×Int))×(List (ByteArray×Int))×List (ByteArray×Int))=>o4 x.1 x.2.1 x.2.2.1 x.2.2.2.1 x.2.2.2.2)) WG (a0,m1,m2,m3,m4)
theorem ATP (h:∀ (a0:aF) (m1:List (ByteArray×Int)) (m2:List (ByteArray×Int)) (m3:List (ByteArray×Int)) (m4:List (ByteArray×Int)) (r:T),JB (a0,m1,m2,m3,m4)=some r→(∀ t∈o4 a0 m1 m2 m3 m4,Bd t)→NY a0 m1 m2 m3 m4 (fun y=>y=r)):aK Tryz.prog 27 tN :=
 fK (E:=MO) (Hs:=ADQ) AJE aU aV (aL rfl) 8 ⟨_,_,Tryz.func27,rfl⟩ fun x r h1 h2=>by
  rw[ACH]
  exact h x.1 x.2.1 x.2.2.1 x.2.2.2.1 x.2.2.2.2 r h1 h2
theorem ASD:aK Tryz.prog 27 tN:=ATP fun d m1 m2 m3 m4 r h hb=>by
 obtain ⟨hx,hs,rfl⟩:=nJ h
 simp only[Prod.mk.injEq,true_and] at hx
 obtain ⟨rfl,rfl,rfl,rfl⟩:=hx
 replace hs:lT d:=hs
 clear h
 unfold NY
 refine fG (r:=bW) (lL d) hs.s (fun X s y hy hok hbad=>?_) fun h0=>?_
 ·have bad:∀ {n:Int},n≠0→lL d y=n→T.v (.int .i64 n)=T.v (.int .i64 (bC (lL d) d.2.2.2.1)):=fun hn h=>by
   rw[hbad (by rw[h];exact hn),h]
  clear hbad hb
  repeat' first
   | refine ixK (fun hn=>?_) (fun i j hj hn=>?_)
   | rw[mD]
   | refine gT (fun h=>?_) (fun h=>?_)
   | refine bJ (fun h=>?_) (fun h=>?_)
   | refine dK (fun h=>?_) (fun h=>?_)
  all_goals first
   | (exfalso;omega)
   | (refine bad (by decide) ?_;clear bad hok;unfold lL;simp[*,partOf,lK];done)
   | (refine hok ?_;clear bad hok;unfold lL;simp[*,partOf,lK];done)
 ·show _=T.v (.int .i64 (bC (lL d) d.2.2.2.1))
  rw[h0]
def rD (a0:aF) (m1:List (ByteArray×Int)) (m2:List (ByteArray×Int)) (m3:List (ByteArray×Int)) (m4:List (ByteArray×Int)) (a5:ByteArray):List T:=[SP a0 m1 m2 m3 m4,T.v (.string a5)]
noncomputable def WR:Env:=Env.of []
def AOX:FuncId→Hint:=fun _=>aT
theorem AQ1:aE Tryz.prog WR:=aE.nil _
def XH (a0:aF) (m1:List (ByteArray×Int)) (m2:List (ByteArray×Int)) (m3:List (ByteArray×Int)) (m4:List (ByteArray×Int)) (a5:ByteArray) (R:T→Prop):Prop :=
 gG TypeDesc.string (Value.string a5) (qE (bE m1)) false (Sy.int IntKind.i64)
 (R (T.v (.bool false))) fun (i0:Nat) (y1:Int) =>
 aO bH (List.map bH.enc a0.2.1) y1 fun (y2:gU) =>
 R (T.v (.bool (decide (y2.2.1=1))))
theorem AKP ( a0 m1 m2 m3 m4 a5 R):bA aW Tryz.prog WR AOX 8 70 (rD a0 m1 m2 m3 m4 a5) R=XH a0 m1 m2 m3 m4 a5 R:=by kernel_rfl
def n8 (d:aF) (id:ByteArray):Bool:=match cJ d id with
 | some n=>decide (n.2.1=1)
 | none=>false
theorem ABK (x y:aF×MP×MP×MP×MP×ByteArray) (h:rD x.1 x.2.1 x.2.2.1 x.2.2.2.1 x.2.2.2.2.1 x.2.2.2.2.2=rD y.1 y.2.1 y.2.2.1 y.2.2.2.1 y.2.2.2.2.1 y.2.2.2.2.2):x=y:=DG x y h
def SB (x:aF×MP×MP×MP×MP×ByteArray):Option T:=wH (x.1,x.2.1,x.2.2.1,x.2.2.2.1,x.2.2.2.2.1) (T.v (.bool (n8 x.1 x.2.2.2.2.2)))
noncomputable def eW:List T→Option (T):=gA (fun (x:aF×(List (ByteArray×Int))×(List (ByteArray×Int))×(List (ByteArray×Int))×(List (ByteArray×Int))×ByteArray)=>rD x.1 x.2.1 x.2.2.1 x.2.2.2.1 x.2.2.2.2.1 x.2.2.2.2.2) SB
theorem AMJ (a0:aF) (m1:List (ByteArray×Int)) (m2:List (ByteArray×Int)) (m3:List (ByteArray×Int)) (m4:List (ByteArray×Int)) (a5:ByteArray):eW (rD a0 m1 m2 m3 m4 a5)=SB (a0,m1,m2,m3,m4,a5):=lA (A:=(fun (x:aF×(List (ByteArray×Int))×(List (ByteArray×Int))×(List (ByteArray×Int))×(List (ByteArray×Int))×ByteArray)=>rD x.1 x.2.1 x.2.2.1 x.2.2.2.1 x.2.2.2.2.1 x.2.2.2.2.2)) ABK (a0,m1,m2,m3,m4,a5)
theorem AZO (h:∀ (a0:aF) (m1:List (ByteArray×Int)) (m2:List (ByteArray×Int)) (m3:List (ByteArray×Int)) (m4:List (ByteArray×Int)) (a5:ByteArray) (r:T),SB (a0,m1,m2,m3,m4,a5)=some r→(∀ t∈rD a0 m1 m2 m3 m4 a5,Bd t)→XH a0 m1 m2 m3 m4 a5 (fun y=>y=r)):aK Tryz.prog 70 eW :=
 fK (E:=WR) (Hs:=AOX) AQ1 aU aV (aL rfl) 8 ⟨_,_,Tryz.func70,rfl⟩ fun x r h1 h2=>by
  rw[AKP]
  exact h x.1 x.2.1 x.2.2.1 x.2.2.2.1 x.2.2.2.2.1 x.2.2.2.2.2 r h1 h2
theorem AFQ:aK Tryz.prog 70 eW:=AZO fun d m1 m2 m3 m4 id0 r h hb=>by
 obtain ⟨hx,hs,rfl⟩:=nJ h
 simp only[Prod.mk.injEq,true_and] at hx
 obtain ⟨rfl,rfl,rfl,rfl⟩:=hx
 replace hs:lT d:=hs
 clear h
 unfold XH
 refine ixK (fun hn=>?_) fun i j hj hn=>?_
 ·have hn:cJ d id0=none:=hn
  show _=T.v (.bool (n8 d id0))
  unfold n8;rw[hn]
 ·have hn:cJ d id0=some d.2.1[j]:=hn
  rw[aS (r:=bH) hj]
  show _=T.v (.bool (n8 d id0))
  unfold n8;rw[hn]
theorem QQ {d:aF} (hs:lT d) (id:ByteArray):eW (rD d (gW (ids d.2.1)) (gW (ids d.2.2.1)) (gW (ids d.2.2.2.1)) (gW (ids d.2.2.2.2.1)) id)=some (Sh.enc [(false,.bool)] (n8 d id)):=by
 rw[AMJ];exact nK hs _
def lF (d:aF) (x:n7):Int:=if x.1<1∨3<x.1 then 10 else if x.2.2=x.2.1 then 2 else if n8 d x.2.1=false then 8 else if (x.1=1∧¬ x.2.2 = { data:=#[] }∧n8 d x.2.2=false)∨(x.1=2∧n8 d x.2.2=false)∨(x.1=3∧(lK d x.2.2).isNone=true) then 8 else 0
def o0 (a0:aF) (m1:List (ByteArray×Int)) (m2:List (ByteArray×Int)) (m3:List (ByteArray×Int)) (m4:List (ByteArray×Int)):List T:=[SP a0 m1 m2 m3 m4]
noncomputable def MM:Env:=Env.of [(70,.pure eW)]
def ADO:FuncId→Hint:=fun f=>match f == 29 with|true=>⟨fun r=>match r == 2 with|true=>.inv [.val 15 false (.int .i64)]|false=>.none,fun _ _=>none,fun _=>none⟩|false=>aT
theorem AJC:aE Tryz.prog MM:=aE.cons (x:=.pure eW) AFQ (aE.nil _)
def NW (a0:aF) (m1:List (ByteArray×Int)) (m2:List (ByteArray×Int)) (m3:List (ByteArray×Int)) (m4:List (ByteArray×Int)) (R:T→Prop):Prop :=
 a7 (Int×PUnit)
 (fun (X0:Int×PUnit→Prop) (s1:Int×PUnit) =>
 aB (decide (s1.1<(↑(List.map b6.enc a0.2.2.2.2.2).length:Int)))
 (aO b6 (List.map b6.enc a0.2.2.2.2.2) s1.1 fun (y2:n7) =>
 gG TypeDesc.string (Value.string y2.2.2) (qE (bE m4)) false
 (Sy.int IntKind.i64)
 (aB (decide (y2.1<1)) (R (T.v (.int .i64 10)))
 (aB (decide (3<y2.1)) (R (T.v (.int .i64 10)))
 (aB (decide (y2.2.2=y2.2.1)) (R (T.v (.int .i64 2)))
 (aG [(false,Sy.bool)]
 (eW
 [T.ref
 [T.ref
 [T.v (.string a0.1),T.sl false (List.map bH.enc a0.2.1),
 T.sl false (List.map aX.enc a0.2.2.1),
 T.sl false (List.map bW.enc a0.2.2.2.1),
 T.sl false (List.map aR.enc a0.2.2.2.2.1),
 T.sl false (List.map b6.enc a0.2.2.2.2.2)],
 T.mp (bE m1),T.mp (bE m2),T.mp (bE m3),
 T.mp (bE m4)],
 T.v (.string y2.2.1)])
 fun (y10:Bool) =>
 aB (!y10) (R (T.v (.int .i64 8)))
 (aB (decide (y2.1=1))
 (aB (!decide (y2.2.2 = { data:=#[] }))
 (aG [(false,Sy.bool)]
 (eW
 [T.ref
 [T.ref
 [T.v (.string a0.1),
 T.sl false (List.map bH.enc a0.2.1),
 T.sl false (List.map aX.enc a0.2.2.1),
 T.sl false (List.map bW.enc a0.2.2.2.1),
 T.sl false (List.map aR.enc a0.2.2.2.2.1),
 T.sl false (List.map b6.enc a0.2.2.2.2.2)],
 T.mp (bE m1),T.mp (bE m2),T.mp (bE m3),
 T.mp (bE m4)],
 T.v (.string y2.2.2)])
 fun (y11:Bool) =>
 aB (!y11) (R (T.v (.int .i64 8)))
 (aB (decide (y2.1=2))
 (aG [(false,Sy.bool)]
 (eW
 [T.ref
 [T.ref
 [T.v (.string a0.1),
 T.sl false (List.map bH.enc a0.2.1),
 T.sl false (List.map aX.enc a0.2.2.1),
 T.sl false (List.map bW.enc a0.2.2.2.1),
 T.sl false (List.map aR.enc a0.2.2.2.2.1),
 T.sl false (List.map b6.enc a0.2.2.2.2.2)],
 T.mp (bE m1),T.mp (bE m2),
 T.mp (bE m3),T.mp (bE m4)],
 T.v (.string y2.2.2)])
 fun (y12:Bool) =>
 aB (!y12) (R (T.v (.int .i64 8)))
 (aB (decide (y2.1=3)) (R (T.v (.int .i64 8)))
 (X0 (IntKind.i64.wrap (s1.1+1),()))))
 (aB (decide (y2.1=3)) (R (T.v (.int .i64 8)))
 (X0 (IntKind.i64.wrap (s1.1+1),())))))
 (aB (decide (y2.1=2))
 (aG [(false,Sy.bool)]
 (eW
 [T.ref
 [T.ref
 [T.v (.string a0.1),
 T.sl false (List.map bH.enc a0.2.1),
 T.sl false (List.map aX.enc a0.2.2.1),
 T.sl false (List.map bW.enc a0.2.2.2.1),
 T.sl false (List.map aR.enc a0.2.2.2.2.1),
 T.sl false (List.map b6.enc a0.2.2.2.2.2)],
 T.mp (bE m1),T.mp (bE m2),T.mp (bE m3),
 T.mp (bE m4)],
 T.v (.string y2.2.2)])
 fun (y13:Bool) =>
 aB (!y13) (R (T.v (.int .i64 8)))
 (aB (decide (y2.1=3)) (R (T.v (.int .i64 8)))
 (X0 (IntKind.i64.wrap (s1.1+1),()))))
 (aB (decide (y2.1=3)) (R (T.v (.int .i64 8)))
 (X0 (IntKind.i64.wrap (s1.1+1),())))))
 (aB (decide (y2.1=2))
 (aG [(false,Sy.bool)]
 (eW
 [T.ref
 [T.ref
 [T.v (.string a0.1),
 T.sl false (List.map bH.enc a0.2.1),
 T.sl false (List.map aX.enc a0.2.2.1),
 T.sl false (List.map bW.enc a0.2.2.2.1),
 T.sl false (List.map aR.enc a0.2.2.2.2.1),
 T.sl false (List.map b6.enc a0.2.2.2.2.2)],
 T.mp (bE m1),T.mp (bE m2),T.mp (bE m3),
 T.mp (bE m4)],
 T.v (.string y2.2.2)])
 fun (y14:Bool) =>
 aB (!y14) (R (T.v (.int .i64 8)))
 (aB (decide (y2.1=3)) (R (T.v (.int .i64 8)))
 (X0 (IntKind.i64.wrap (s1.1+1),()))))
 (aB (decide (y2.1=3)) (R (T.v (.int .i64 8)))
 (X0 (IntKind.i64.wrap (s1.1+1),())))))))))
 fun (i3:Nat) (y4:Int) =>
 aB (decide (y2.1<1)) (R (T.v (.int .i64 10)))
 (aB (decide (3<y2.1)) (R (T.v (.int .i64 10)))
 (aB (decide (y2.2.2=y2.2.1)) (R (T.v (.int .i64 2)))
 (aG [(false,Sy.bool)]
 (eW
 [T.ref
 [T.ref
 [T.v (.string a0.1),T.sl false (List.map bH.enc a0.2.1),
 T.sl false (List.map aX.enc a0.2.2.1),
 T.sl false (List.map bW.enc a0.2.2.2.1),
 T.sl false (List.map aR.enc a0.2.2.2.2.1),
 T.sl false (List.map b6.enc a0.2.2.2.2.2)],
 T.mp (bE m1),T.mp (bE m2),T.mp (bE m3),
 T.mp (bE m4)],
 T.v (.string y2.2.1)])
 fun (y5:Bool) =>
 aB (!y5) (R (T.v (.int .i64 8)))
 (aB (decide (y2.1=1))
 (aB (!decide (y2.2.2 = { data:=#[] }))
 (aG [(false,Sy.bool)]
 (eW
 [T.ref
 [T.ref
 [T.v (.string a0.1),
 T.sl false (List.map bH.enc a0.2.1),
 T.sl false (List.map aX.enc a0.2.2.1),
 T.sl false (List.map bW.enc a0.2.2.2.1),
 T.sl false (List.map aR.enc a0.2.2.2.2.1),
 T.sl false (List.map b6.enc a0.2.2.2.2.2)],
 T.mp (bE m1),T.mp (bE m2),T.mp (bE m3),
 T.mp (bE m4)],
 T.v (.string y2.2.2)])
 fun (y6:Bool) =>
 aB (!y6) (R (T.v (.int .i64 8)))
 (aB (decide (y2.1=2))
 (aG [(false,Sy.bool)]
 (eW
 [T.ref
 [T.ref
 [T.v (.string a0.1),
 T.sl false (List.map bH.enc a0.2.1),
 T.sl false (List.map aX.enc a0.2.2.1),
 T.sl false (List.map bW.enc a0.2.2.2.1),
 T.sl false (List.map aR.enc a0.2.2.2.2.1),
 T.sl false (List.map b6.enc a0.2.2.2.2.2)],
 T.mp (bE m1),T.mp (bE m2),
 T.mp (bE m3),T.mp (bE m4)],
 T.v (.string y2.2.2)])
 fun (y7:Bool) =>
 aB (!y7) (R (T.v (.int .i64 8)))
 (aB (decide (y2.1=3)) (X0 (IntKind.i64.wrap (s1.1+1),()))
 (X0 (IntKind.i64.wrap (s1.1+1),()))))
 (aB (decide (y2.1=3)) (X0 (IntKind.i64.wrap (s1.1+1),()))
 (X0 (IntKind.i64.wrap (s1.1+1),())))))
 (aB (decide (y2.1=2))
 (aG [(false,Sy.bool)]
 (eW
 [T.ref
 [T.ref
 [T.v (.string a0.1),
 T.sl false (List.map bH.enc a0.2.1),
 T.sl false (List.map aX.enc a0.2.2.1),
 T.sl false (List.map bW.enc a0.2.2.2.1),
 T.sl false (List.map aR.enc a0.2.2.2.2.1),
 T.sl false (List.map b6.enc a0.2.2.2.2.2)],
 T.mp (bE m1),T.mp (bE m2),T.mp (bE m3),
 T.mp (bE m4)],
 T.v (.string y2.2.2)])
 fun (y8:Bool) =>
 aB (!y8) (R (T.v (.int .i64 8)))
 (aB (decide (y2.1=3)) (X0 (IntKind.i64.wrap (s1.1+1),()))
 (X0 (IntKind.i64.wrap (s1.1+1),()))))
 (aB (decide (y2.1=3)) (X0 (IntKind.i64.wrap (s1.1+1),()))
 (X0 (IntKind.i64.wrap (s1.1+1),())))))
 (aB (decide (y2.1=2))
 (aG [(false,Sy.bool)]
 (eW
 [T.ref
 [T.ref
 [T.v (.string a0.1),
 T.sl false (List.map bH.enc a0.2.1),
 T.sl false (List.map aX.enc a0.2.2.1),
 T.sl false (List.map bW.enc a0.2.2.2.1),
 T.sl false (List.map aR.enc a0.2.2.2.2.1),
 T.sl false (List.map b6.enc a0.2.2.2.2.2)],
 T.mp (bE m1),T.mp (bE m2),T.mp (bE m3),
 T.mp (bE m4)],
 T.v (.string y2.2.2)])
 fun (y9:Bool) =>
 aB (!y9) (R (T.v (.int .i64 8)))
 (aB (decide (y2.1=3)) (X0 (IntKind.i64.wrap (s1.1+1),()))
 (X0 (IntKind.i64.wrap (s1.1+1),()))))
 (aB (decide (y2.1=3)) (X0 (IntKind.i64.wrap (s1.1+1),()))
 (X0 (IntKind.i64.wrap (s1.1+1),())))))))))
 (R (T.v (.int .i64 0))))
 (0,())
theorem ACF ( a0 m1 m2 m3 m4 R):bA aW Tryz.prog MM ADO 8 29 (o0 a0 m1 m2 m3 m4) R=NW a0 m1 m2 m3 m4 R:=by kernel_rfl
theorem WD (x y:aF×MP×MP×MP×MP) (h:o0 x.1 x.2.1 x.2.2.1 x.2.2.2.1 x.2.2.2.2=o0 y.1 y.2.1 y.2.2.1 y.2.2.2.1 y.2.2.2.2):x=y:=qC (List.cons.inj h).1
def I9 (x:aF×MP×MP×MP×MP):Option T:=wH x (T.v (Value.int .i64 (bC (lF x.1) x.1.2.2.2.2.2)))
noncomputable def tL:List T→Option (T):=gA (fun (x:aF×(List (ByteArray×Int))×(List (ByteArray×Int))×(List (ByteArray×Int))×List (ByteArray×Int))=>o0 x.1 x.2.1 x.2.2.1 x.2.2.2.1 x.2.2.2.2) I9
theorem AF2 (a0:aF) (m1:List (ByteArray×Int)) (m2:List (ByteArray×Int)) (m3:List (ByteArray×Int)) (m4:List (ByteArray×Int)):tL (o0 a0 m1 m2 m3 m4)=I9 (a0,m1,m2,m3,m4):=lA (A:=(fun (x:aF×(List (ByteArray×Int))×(List (ByteArray×Int))×(List (ByteArray×Int))×List (ByteArray×Int))=>o0 x.1 x.2.1 x.2.2.1 x.2.2.2.1 x.2.2.2.2)) WD (a0,m1,m2,m3,m4)
theorem ATN (h:∀ (a0:aF) (m1:List (ByteArray×Int)) (m2:List (ByteArray×Int)) (m3:List (ByteArray×Int)) (m4:List (ByteArray×Int)) (r:T),I9 (a0,m1,m2,m3,m4)=some r→(∀ t∈o0 a0 m1 m2 m3 m4,Bd t)→NW a0 m1 m2 m3 m4 (fun y=>y=r)):aK Tryz.prog 29 tL :=
 fK (E:=MM) (Hs:=ADO) AJC aU aV (aL rfl) 8 ⟨_,_,Tryz.func29,rfl⟩ fun x r h1 h2=>by
  rw[ACF]
  exact h x.1 x.2.1 x.2.2.1 x.2.2.2.1 x.2.2.2.2 r h1 h2
theorem ASB:aK Tryz.prog 29 tL:=ATN fun d m1 m2 m3 m4 r h hb=>by
 obtain ⟨hx,hs,rfl⟩:=nJ h
 simp only[Prod.mk.injEq,true_and] at hx
 obtain ⟨rfl,rfl,rfl,rfl⟩:=hx
 replace hs:lT d:=hs
 clear h
 unfold NW
 refine fG (r:=b6) (lF d) hs.r (fun X s y hy hok hbad=>?_) fun h0=>?_
 ·have bad:∀ {n:Int},n≠0→lF d y=n→T.v (.int .i64 n)=T.v (.int .i64 (bC (lF d) d.2.2.2.2.2)):=fun hn h=>by
   rw[hbad (by rw[h];exact hn),h]
  clear hbad hb
  repeat' first
   | refine ixK (fun hn=>?_) (fun i j hj hn=>?_)
   | rw[mD]
   | refine aD (s:=[(false,.bool)]) (QQ hs _) ?_
   | refine gT (fun h=>?_) (fun h=>?_)
   | refine bJ (fun h=>?_) (fun h=>?_)
   | refine dK (fun h=>?_) (fun h=>?_)
  all_goals first
   | (exfalso;omega)
   | (refine bad (by decide) ?_;clear bad hok;unfold lF;simp[*,partOf,lK];done)
   | (refine hok ?_;clear bad hok;unfold lF;simp[*,partOf,lK];done)
   | (refine hok ?_;clear bad hok hs hy;unfold lF;simp_all[partOf,lK];done)
 ·show _=T.v (.int .i64 (bC (lF d) d.2.2.2.2.2))
  rw[h0]
end Go.Pv
namespace Go.Pv
open Go Go.Proofs
def wN (a0:List ByteArray):List T:=[T.sl false (List.map Sy.str.enc a0)]
noncomputable def AI9:Env:=Env.of []
def AWU:FuncId→Hint:=fun _=>aT
theorem AVY:aE Tryz.prog AI9:=aE.nil _
def AK2 (a0:List ByteArray) (R:T→Prop):Prop :=
 R (T.fn 110 [] [T.ref [T.sl false (List.map Sy.str.enc a0)]])
theorem ARH ( a0 R):bA aW Tryz.prog AI9 AWU 8 71 (wN a0) R=AK2 a0 R:=by kernel_rfl
def AA9 (l:List ByteArray):Option T:=some (T.fn 110 [] [T.ref [T.sl false (List.map Sy.str.enc l)]])
theorem AI1 (x y:List ByteArray) (h:wN x=wN y):x=y:=by
 unfold wN at h
 have h:=(T.sl.injEq .. ▸ (List.cons.inj h).1)
 exact map_inj (Sy.dO .str) h.2
noncomputable def CC:List T→Option (T):=gA (fun (x:List ByteArray)=>wN x) AA9
theorem U9 (a0:List ByteArray):CC (wN a0)=AA9 a0:=lA (A:=(fun (x:List ByteArray)=>wN x)) AI1 a0
theorem A24 (h:∀ (a0:List ByteArray) (r:T),AA9 a0=some r→(∀ t∈wN a0,Bd t)→AK2 a0 (fun y=>y=r)):aK Tryz.prog 71 CC :=
 fK (E:=AI9) (Hs:=AWU) AVY aU aV (aL rfl) 8 ⟨_,_,Tryz.func71,rfl⟩ fun x r h1 h2=>by
  rw[ARH]
  exact h x r h1 h2
theorem A17:aK Tryz.prog 71 CC:=A24 fun l r h hb=>by
 cases h
 unfold AK2
 rfl
end Go.Pv
