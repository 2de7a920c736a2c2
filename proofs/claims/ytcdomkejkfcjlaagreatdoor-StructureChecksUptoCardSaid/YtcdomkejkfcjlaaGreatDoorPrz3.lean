/-
  Chapter 17: the tree's parts and packages in full.
  Chapter 17: the tree's packages in full.
  Chapter 17: Check where the parts and packages are empty ones; StructureLong, walked.
  Chapter 17: structure.Check in full.
  StructureFinds: Part, Node, Seam and Package answer as the reference does.
  StructureBlocks: Block, Path, Parts and Blocks answer as the reference does.
  The reference's Check of chapter 17.
  The reference's dag.Order, packages and Check of chapter 17.
  The tree of a valid design, in plain words: ways up, paths, what two paths share.
  The reference's packages and Check of chapter 17.
  The reference's Check of chapter 17, whole.
  StructureChecks: structure.Check answers as the reference's Check does.
-/
import Derived.Test.YtcdomkejkfcjlaaGreatDoorPrz2
import Derived.Sort.Walk0
import Derived.Test.YtcdomkejkfcjlaaGreatDoorPrkp
import Derived.Test.YtcdomkejkfcjlaaGreatDoorPrz1
import Derived.Test.YtcdomkejkfcjlaaGreatDoorPrkj
import Derived.Test.YtcdomkejkfcjlaaGreatDoorPrkn
set_option linter.unusedSimpArgs false
set_option linter.unusedVariables false
set_option maxRecDepth 100000
namespace Go.Pv
open Go Go.Proofs
def mW (a0:aF) (m1:List (ByteArray×Int)) (m2:List (ByteArray×Int)) (m3:List (ByteArray×Int)) (m4:List (ByteArray×Int)) (a5:aN):List T:=[SP a0 m1 m2 m3 m4,T.agg (aH.enc a5)]
noncomputable def MS:Env:=Env.of [(68,.pure iI),(69,.pure pL)]
def ADT:FuncId→Hint:=fun f=>match f == 26 with|true=>⟨fun r=>match r == 2 with|true=>.inv [.val 23 false (.int .i64)]|false=>match r == 13 with|true=>.inv [.val 10 false (.int .i64),.val 54 false (.int .i64)]|false=>.none,fun _ _=>none,fun _=>none⟩|false=>aT
theorem AJH:aE Tryz.prog MS:=aE.cons (x:=.pure iI) QH (aE.cons (x:=.pure pL) ASS (aE.nil _))
def N1 (a0:aF) (m1:List (ByteArray×Int)) (m2:List (ByteArray×Int)) (m3:List (ByteArray×Int)) (m4:List (ByteArray×Int)) (a5:aN) (R:T→Prop):Prop :=
 a7 (Int×PUnit)
 (fun (X0:Int×PUnit→Prop) (s1:Int×PUnit) =>
 aB (decide (s1.1<(↑(List.map aX.enc a0.2.2.1).length:Int)))
 (aO aX (List.map aX.enc a0.2.2.1) s1.1 fun (y2:bL) =>
 aG [(false,Sy.int IntKind.i64)]
 (iI [aC true aX y2,aC true aH a5]) fun (y3:Int) =>
 aB (!decide (y3=0)) (R (T.v (.int .i64 y3)))
 (gG TypeDesc.string (Value.string y2.2.2.2.1) (qE (bE m1)) false
 (Sy.int IntKind.i64) (R (T.v (.int .i64 8))) fun (i4:Nat) (y5:Int) =>
 X0 (IntKind.i64.wrap (s1.1+1),())))
 (a7 (Int×Int×PUnit)
 (fun (X6:Int×Int×PUnit→Prop) (s7:Int×Int×PUnit) =>
 aB (decide (s7.2.1<(↑(List.map aX.enc a0.2.2.1).length:Int)))
 (aO aX (List.map aX.enc a0.2.2.1) s7.2.1 fun (y8:bL) =>
 aG [(false,Sy.int IntKind.i64),(false,Sy.int IntKind.i64)]
 (pL [aC true aX y8,aC true aH a5])
 fun (y9:aJ) =>
 aB (decide (1099511627776<IntKind.i64.wrap (s7.1+y9.1)))
 (R (T.v (.int .i64 13)))
 (X6 (IntKind.i64.wrap (s7.1+y9.1),IntKind.i64.wrap (s7.2.1+1),())))
 (R (T.v (.int .i64 0))))
 (0,0,())))
 (0,())
theorem ACK ( a0 m1 m2 m3 m4 a5 R):bA aW Tryz.prog MS ADT 8 26 (mW a0 m1 m2 m3 m4 a5) R=N1 a0 m1 m2 m3 m4 a5 R:=by kernel_rfl
theorem WI (x y:aF×MP×MP×MP×MP×aN) (h:mW x.1 x.2.1 x.2.2.1 x.2.2.2.1 x.2.2.2.2.1 x.2.2.2.2.2=mW y.1 y.2.1 y.2.2.1 y.2.2.2.1 y.2.2.2.2.1 y.2.2.2.2.2):x=y:=by
 obtain ⟨h1,h2⟩:=List.cons.inj h
 have:=qC (x:=(x.1,x.2.1,x.2.2.1,x.2.2.2.1,x.2.2.2.2.1)) (y:=(y.1,y.2.1,y.2.2.1,y.2.2.2.1,y.2.2.2.2.1)) h1
 have h2:=Sy.dO aH _ _ (T.agg.inj (List.cons.inj h2).1)
 simp only[Prod.mk.injEq] at this
 obtain ⟨e1,e2,e3,e4,e5⟩:=this
 exact Prod.ext e1 (Prod.ext e2 (Prod.ext e3 (Prod.ext e4 (Prod.ext e5 h2))))
def eE (d:aF) (m:aN) (p:bL):Int:=if dS p m=0 then (if (cJ d (e9 p)).isNone=true then 8 else 0) else dS p m
def wB (m:aN):List bL→Int→Int
 | [],_=>0
 | p::l,s=>if 1099511627776<IntKind.i64.wrap (s+(iC p m).1) then 13 else wB m l (IntKind.i64.wrap (s+(iC p m).1))
def fJ (d:aF) (m:aN):Int:=if bC (eE d m) d.2.2.1=0 then wB m d.2.2.1 0 else bC (eE d m) d.2.2.1
def uI (x:aF×MP×MP×MP×MP×aN):Option T:=match A9 x.2.2.2.2.2 with
 | true=>wH (x.1,x.2.1,x.2.2.1,x.2.2.2.1,x.2.2.2.2.1) (T.v (Value.int .i64 (fJ x.1 x.2.2.2.2.2)))
 | false=>none
noncomputable def pF:List T→Option (T):=gA (fun (x:aF×(List (ByteArray×Int))×(List (ByteArray×Int))×(List (ByteArray×Int))×(List (ByteArray×Int))×aN)=>mW x.1 x.2.1 x.2.2.1 x.2.2.2.1 x.2.2.2.2.1 x.2.2.2.2.2) uI
theorem AF8 (a0:aF) (m1:List (ByteArray×Int)) (m2:List (ByteArray×Int)) (m3:List (ByteArray×Int)) (m4:List (ByteArray×Int)) (a5:aN):pF (mW a0 m1 m2 m3 m4 a5)=uI (a0,m1,m2,m3,m4,a5):=lA (A:=(fun (x:aF×(List (ByteArray×Int))×(List (ByteArray×Int))×(List (ByteArray×Int))×(List (ByteArray×Int))×aN)=>mW x.1 x.2.1 x.2.2.1 x.2.2.2.1 x.2.2.2.2.1 x.2.2.2.2.2)) WI (a0,m1,m2,m3,m4,a5)
theorem ATS (h:∀ (a0:aF) (m1:List (ByteArray×Int)) (m2:List (ByteArray×Int)) (m3:List (ByteArray×Int)) (m4:List (ByteArray×Int)) (a5:aN) (r:T),uI (a0,m1,m2,m3,m4,a5)=some r→(∀ t∈mW a0 m1 m2 m3 m4 a5,Bd t)→N1 a0 m1 m2 m3 m4 a5 (fun y=>y=r)):aK Tryz.prog 26 pF :=
 fK (E:=MS) (Hs:=ADT) AJH aU aV (aL rfl) 8 ⟨_,_,Tryz.func26,rfl⟩ fun x r h1 h2=>by
  rw[ACK]
  exact h x.1 x.2.1 x.2.2.1 x.2.2.2.1 x.2.2.2.2.1 x.2.2.2.2.2 r h1 h2
theorem ASH:aK Tryz.prog 26 pF:=ATS fun d m1 m2 m3 m4 m r h hb=>by
 unfold uI at h
 split at h
 case h_2=>cases h
 rename_i hok
 replace hok:A9 m=true:=hok
 obtain ⟨hx,hs,rfl⟩:=nJ h
 simp only[Prod.mk.injEq,true_and] at hx
 obtain ⟨rfl,rfl,rfl,rfl⟩:=hx
 replace hs:lT d:=hs
 clear h hb
 have is:∀ {n:Int},fJ d m=n→T.v (.int .i64 n)=T.v (.int .i64 (fJ d m)):=fun h=>by rw[h]
 unfold N1
 refine fG (r:=aX) (eE d m) hs.p (fun X s y hy hgo hbad=>?_) fun h0=>?_
 ·have bad:∀ {n:Int},n≠0→eE d m y=n→T.v (.int .i64 n)=T.v (.int .i64 (fJ d m)):=fun hn h=>by
   have h1:=hbad (by rw[h];exact hn)
   refine is ?_
   unfold fJ
   rw[if_neg (by rw[h1,h];exact hn),h1,h]
  refine aD (s:=[(false,.int .i64)]) (D5 hok y) ?_
  refine gT (fun h=>bad h (by unfold eE;rw[if_neg h])) fun h=>?_
  refine ixK (fun hn=>bad (by decide) ?_) fun i j hj hn=>hgo ?_
  ·have hn:cJ d (e9 y)=none:=hn
   unfold eE;rw[if_pos h,hn];rfl
  ·have hn:cJ d (e9 y)=some d.2.1[j]:=hn
   unfold eE;rw[if_pos h,hn];rfl
 ·have w:fJ d m=wB m d.2.2.1 0:=by unfold fJ;rw[if_pos h0]
  clear h0
  have hl:=hs.p
  generalize d.2.2.1=l at w hl ⊢
  refine aY l.length (fun k s=>s.2.1=(k:Int)∧wB m (l.drop k) s.1=fJ d m) ⟨rfl,by rw[w];rfl⟩ ?_
  rintro X k ⟨s,i,u⟩ hk ⟨rfl,he⟩ hX
  dsimp only at he ⊢
  refine bJ (fun hlt=>?_) fun hge=>?_
  ·rw[List.length_map] at hlt
   have hlt:k<l.length:=by omega
   rw[aS (r:=aX) hlt]
   rw[List.drop_eq_getElem_cons hlt,wB] at he
   refine aD (s:=[(false,.int .i64),(false,.int .i64)]) (AGW hok _) ?_
   refine bJ (fun h=>is (by rw[←he,if_pos h])) fun h=>?_
   rw[if_neg h] at he
   refine hX _ hlt ⟨?_,he⟩
   show IntKind.i64.wrap ((k:Int)+1)=_
   rw[aQ]<;>omega
  ·rw[List.length_map] at hge
   have:k=l.length:=by omega
   subst this
   rw[List.drop_length,wB] at he
   exact is he.symm
end Go.Pv
namespace Go.Pv
open Go Go.Proofs
def mV (a0:aF) (m1:List (ByteArray×Int)) (m2:List (ByteArray×Int)) (m3:List (ByteArray×Int)) (m4:List (ByteArray×Int)):List T:=[SP a0 m1 m2 m3 m4]
noncomputable def MR:Env:=Env.of [(66,.pure dJ),(61,.pure tV),(71,.pure CC),(70,.pure eW),(67,.pure iB),(72,.new yX)]
def ADS:FuncId→Hint:=fun f=>match f == 28 with|true=>⟨fun r=>match r == 4 with|true=>.inv [.own 3 2 (.pr (.int .i64) (.int .i64)),.map 0 .str false .bool,.val 29 false (.int .i64)]|false=>match r == 15 with|true=>.inv [.val 76 false (.int .i64),.map 0 .str false .bool]|false=>match r == 31 with|true=>.inv [.own 3 2 (.pr (.int .i64) (.int .i64)),.val 147 false (.int .i64)]|false=>.none,fun _ _=>none,fun _=>none⟩|false=>aT
theorem AJG:aE Tryz.prog MR:=aE.cons (x:=.pure dJ) LO (aE.cons (x:=.pure tV) A4B (aE.cons (x:=.pure CC) A17 (aE.cons (x:=.pure eW) AFQ (aE.cons (x:=.pure iB) U4 (aE.cons (x:=.new yX) AXV (aE.nil _))))))
def N0 (a0:aF) (m1:List (ByteArray×Int)) (m2:List (ByteArray×Int)) (m3:List (ByteArray×Int)) (m4:List (ByteArray×Int)) (R:T→Prop):Prop :=
 dN Sy.str false Sy.bool [] fun (y0:List (ByteArray×Bool)) =>
 a7 (List aJ×List (ByteArray×Bool)×Int×PUnit)
 (fun (X1:List aJ×List (ByteArray×Bool)×Int×PUnit→Prop)
 (s2:List aJ×List (ByteArray×Bool)×Int×PUnit) =>
 aB (decide (s2.2.2.1<(↑(List.map aR.enc a0.2.2.2.2.1).length:Int)))
 (aO aR (List.map aR.enc a0.2.2.2.2.1) s2.2.2.1
 fun (y3:cB) =>
 aG [(false,Sy.bool)] (dJ [T.v (.string y3.1)]) fun (y4:Bool) =>
 aB (!y4) (R (T.v (.int .i64 6)))
 (aG [(false,Sy.bool)]
 (eW
 [T.ref
 [T.ref
 [T.v (.string a0.1),T.sl false (List.map bH.enc a0.2.1),
 T.sl false (List.map aX.enc a0.2.2.1),
 T.sl false (List.map bW.enc a0.2.2.2.1),
 T.sl false (List.map aR.enc a0.2.2.2.2.1),
 T.sl false (List.map b6.enc a0.2.2.2.2.2)],
 T.mp (bE m1),T.mp (bE m2),T.mp (bE m3),
 T.mp (bE m4)],
 T.v (.string y3.2.1)])
 fun (y5:Bool) =>
 aB (!y5) (R (T.v (.int .i64 8)))
 (aB (decide (y3.2.2.2.1<1)) (R (T.v (.int .i64 9)))
 (aB (decide (10000<y3.2.2.2.1)) (R (T.v (.int .i64 9)))
 (aG [(false,Sy.any)]
 (CC [T.sl false (List.map Sy.str.enc y3.2.2.1)])
 fun (y6:T) =>
 aG [(false,Sy.bool)]
 (tV
 [T.v
 (Value.int IntKind.i64
 (↑(List.map Sy.str.enc y3.2.2.1).length:Int)),
 y6])
 fun (y7:Bool) =>
 aB (!y7) (R (T.v (.int .i64 11)))
 (aG [(false,Sy.any)]
 (CC [T.sl false (List.map Sy.str.enc y3.2.2.2.2)])
 fun (y8:T) =>
 aG [(false,Sy.bool)]
 (tV
 [T.v
 (Value.int IntKind.i64
 (↑(List.map Sy.str.enc y3.2.2.2.2).length:Int)),
 y8])
 fun (y9:Bool) =>
 aB (!y9) (R (T.v (.int .i64 11)))
 (dN Sy.str false Sy.bool
 (List.map (cC Sy.str false Sy.bool) s2.2.1)
 fun (y10:List (ByteArray×Bool)) =>
 a7 (Int×List (ByteArray×Bool)×PUnit)
 (fun (X11:Int×List (ByteArray×Bool)×PUnit→Prop)
 (s12:Int×List (ByteArray×Bool)×PUnit) =>
 aB
 (decide
 (s12.1<(↑(List.map Sy.str.enc y3.2.2.1).length:Int)))
 (aO Sy.str (List.map Sy.str.enc y3.2.2.1) s12.1
 fun (y13:ByteArray) =>
 gG TypeDesc.string (Value.string y13)
 (qE (bE m2)) false (Sy.int IntKind.i64)
 (R (T.v (.int .i64 8)))
 fun (i14:Nat) (y15:Int) =>
 aO aX (List.map aX.enc a0.2.2.1) y15
 fun (y16:bL) =>
 aB (!decide (y16.2.2.1=4))
 (aB (!decide (y16.2.2.1=3))
 (R (T.v (.int .i64 10)))
 (aO aX (List.map aX.enc a0.2.2.1)
 y15 fun (y17:bL) =>
 aG [(false,Sy.str.li),(false,Sy.bool)]
 (iB
 [T.ref
 [T.ref
 [T.v (.string a0.1),
 T.sl false
 (List.map bH.enc a0.2.1),
 T.sl false
 (List.map aX.enc a0.2.2.1),
 T.sl false
 (List.map bW.enc a0.2.2.2.1),
 T.sl false
 (List.map aR.enc
 a0.2.2.2.2.1),
 T.sl false
 (List.map b6.enc
 a0.2.2.2.2.2)],
 T.mp (bE m1),T.mp (bE m2),
 T.mp (bE m3),T.mp (bE m4)],
 T.v (.string y17.2.2.2.1)])
 fun (y18:List ByteArray×Bool) =>
 aB
 (decide
 ((↑(List.map Sy.str.enc y18.1).length:Int)=0))
 (R (T.v (.int .i64 2)))
 (aO Sy.str (List.map Sy.str.enc y18.1)
 (IntKind.i64.wrap
 ((↑(List.map Sy.str.enc y18.1).length:Int)-1))
 fun (y19:ByteArray) =>
 aB (!decide (y19=y3.2.1))
 (R (T.v (.int .i64 2)))
 (gG TypeDesc.string (Value.string y13)
 (List.map (cC Sy.str false Sy.bool)
 s12.2.1)
 false Sy.bool
 (nY (Option (Nat×D))
 (findD TypeDesc.string (Value.string y13)
 (List.map
 (cC Sy.str false Sy.bool)
 s12.2.1)
 0)
 fun (y24:Option (Nat×D)) =>
 dN Sy.str false Sy.bool
 (eT
 (List.map
 (cC Sy.str false Sy.bool)
 s12.2.1)
 y24 (Value.string y13)
 (D.p (T.v (.bool true))))
 fun (y25:List (ByteArray×Bool)) =>
 X11 (IntKind.i64.wrap (s12.1+1),y25,()))
 fun (i20:Nat) (y21:Bool) =>
 aB y21
 (R (T.v (.int .i64 7)))
 (nY (Option (Nat×D))
 (findD TypeDesc.string
 (Value.string y13)
 (List.map
 (cC Sy.str false Sy.bool)
 s12.2.1)
 0)
 fun (y22:Option (Nat×D)) =>
 dN Sy.str false Sy.bool
 (eT
 (List.map
 (cC Sy.str false Sy.bool)
 s12.2.1)
 y22 (Value.string y13)
 (D.p (T.v (.bool true))))
 fun (y23:List (ByteArray×Bool)) =>
 X11
 (IntKind.i64.wrap (s12.1+1),y23,
 ()))))))
 (aO aX (List.map aX.enc a0.2.2.1) y15
 fun (y26:bL) =>
 aG [(false,Sy.str.li),(false,Sy.bool)]
 (iB
 [T.ref
 [T.ref
 [T.v (.string a0.1),
 T.sl false
 (List.map bH.enc a0.2.1),
 T.sl false
 (List.map aX.enc a0.2.2.1),
 T.sl false
 (List.map bW.enc a0.2.2.2.1),
 T.sl false
 (List.map aR.enc
 a0.2.2.2.2.1),
 T.sl false
 (List.map b6.enc a0.2.2.2.2.2)],
 T.mp (bE m1),T.mp (bE m2),
 T.mp (bE m3),T.mp (bE m4)],
 T.v (.string y26.2.2.2.1)])
 fun (y27:List ByteArray×Bool) =>
 aB
 (decide
 ((↑(List.map Sy.str.enc y27.1).length:Int)=0))
 (R (T.v (.int .i64 2)))
 (aO Sy.str (List.map Sy.str.enc y27.1)
 (IntKind.i64.wrap
 ((↑(List.map Sy.str.enc y27.1).length:Int)-1))
 fun (y28:ByteArray) =>
 aB (!decide (y28=y3.2.1))
 (R (T.v (.int .i64 2)))
 (gG TypeDesc.string (Value.string y13)
 (List.map (cC Sy.str false Sy.bool)
 s12.2.1)
 false Sy.bool
 (nY (Option (Nat×D))
 (findD TypeDesc.string (Value.string y13)
 (List.map
 (cC Sy.str false Sy.bool)
 s12.2.1)
 0)
 fun (y33:Option (Nat×D)) =>
 dN Sy.str false Sy.bool
 (eT
 (List.map
 (cC Sy.str false Sy.bool)
 s12.2.1)
 y33 (Value.string y13)
 (D.p (T.v (.bool true))))
 fun (y34:List (ByteArray×Bool)) =>
 X11 (IntKind.i64.wrap (s12.1+1),y34,()))
 fun (i29:Nat) (y30:Bool) =>
 aB y30
 (R (T.v (.int .i64 7)))
 (nY (Option (Nat×D))
 (findD TypeDesc.string (Value.string y13)
 (List.map
 (cC Sy.str false Sy.bool)
 s12.2.1)
 0)
 fun (y31:Option (Nat×D)) =>
 dN Sy.str false Sy.bool
 (eT
 (List.map
 (cC Sy.str false Sy.bool)
 s12.2.1)
 y31 (Value.string y13)
 (D.p (T.v (.bool true))))
 fun (y32:List (ByteArray×Bool)) =>
 X11
 (IntKind.i64.wrap (s12.1+1),y32,()))))))
 (bX aA (List.map aA.enc s2.1)
 fun (y35:List aJ) =>
 a7 (List aJ×Int×PUnit)
 (fun (X36:List aJ×Int×PUnit→Prop)
 (s37:List aJ×Int×PUnit) =>
 aB
 (decide
 (s37.2.1 <
 (↑(List.map Sy.str.enc y3.2.2.2.2).length:Int)))
 (aO Sy.str
 (List.map Sy.str.enc y3.2.2.2.2) s37.2.1
 fun (y38:ByteArray) =>
 aB (decide (y38=y3.1))
 (R (T.v (.int .i64 2)))
 (gG TypeDesc.string (Value.string y38)
 (qE (bE m4)) false (Sy.int IntKind.i64)
 (R (T.v (.int .i64 8)))
 fun (i39:Nat) (y40:Int) =>
 bV
 (decide
 (((List.map aA.enc s37.1).length+1)*16 ≤
 140737488355328) &&
 decide
 ((List.map aA.enc s37.1).length+1 ≤
 140737488355328))
 (bX aA
 (List.map aA.enc s37.1 ++
 [[T.v (.int .i64 y40),
 T.v
 (Value.int IntKind.i64 s2.2.2.1)]])
 fun (y41:List aJ) =>
 X36 (y41,IntKind.i64.wrap (s37.2.1+1),()))))
 (bX aA (List.map aA.enc s37.1)
 fun (y42:List aJ) =>
 dN Sy.str false Sy.bool
 (List.map (cC Sy.str false Sy.bool)
 s12.2.1)
 fun (y43:List (ByteArray×Bool)) =>
 X1 (y42,y43,IntKind.i64.wrap (s2.2.2.1+1),())))
 (y35,0,())))
 (0,y10,()))))))))
 (aG [(false,(Sy.int IntKind.i64).li),(false,Sy.int IntKind.i64)]
 (yX
 [T.v
 (Value.int IntKind.i64 (↑(List.map aR.enc a0.2.2.2.2.1).length:Int)),
 T.sl false (List.map aA.enc s2.1)])
 fun (y44:List Int×Int) =>
 aB (!decide (y44.2=0)) (R (T.v (.int .i64 20)))
 (R (T.v (.int .i64 0)))))
 ([],y0,0,())
theorem ACJ ( a0 m1 m2 m3 m4 R):bA aW Tryz.prog MR ADS 8 28 (mV a0 m1 m2 m3 m4) R=N0 a0 m1 m2 m3 m4 R:=by kernel_rfl
theorem WH (x y:aF×MP×MP×MP×MP) (h:mV x.1 x.2.1 x.2.2.1 x.2.2.2.1 x.2.2.2.2=mV y.1 y.2.1 y.2.2.1 y.2.2.2.1 y.2.2.2.2):x=y:=qC (List.cons.inj h).1
abbrev dA (k:cB):List ByteArray:=k.2.2.1
abbrev cF (k:cB):List ByteArray:=k.2.2.2.2
abbrev IS (k:cB):Int:=k.2.2.2.1
def kN (d:aF) (k:cB):Int:=if gP k.1=false then 6 else if n8 d k.2.1=false then 8 else if IS k<1∨10000<IS k then 9 else if lU (dA k)=false∨lU (cF k)=false then 11 else 0
def instE (d:aF) (b:ByteArray):List ByteArray→List ByteArray→Int×List ByteArray
 | [],S=>(0,S)
 | id::l,S=>match partOf d id with
  | none=>(8,S)
  | some p=>if ¬ bB p=4∧¬ bB p=3 then (10,S) else if (up d (e9 p)).1.getLast? = some b then (if mG S id=true then (7,S) else instE d b l (id::S)) else (2,S)
def B1 (d:aF) (k:ByteArray) (i:Int):List ByteArray→List aJ→Int×List aJ
 | [],E=>(0,E)
 | id::l,E=>if id=k then (2,E) else match iR (gW (ids d.2.2.2.2.1)) id with
  | none=>(8,E)
  | some j=>B1 d k i l (E++[(j,i)])
def iQ (d:aF):List cB→Int→List aJ→List ByteArray→Int×List aJ
 | [],_,E,_=>(0,E)
 | k::l,i,E,S=>if ¬ kN d k=0 then (kN d k,E) else if ¬ (instE d k.2.1 (dA k) S).1=0 then ((instE d k.2.1 (dA k) S).1,E) else if ¬ (B1 d k.1 i (cF k) E).1=0 then ((B1 d k.1 i (cF k) E).1,E) else
  iQ d l (i+1) (B1 d k.1 i (cF k) E).2 (instE d k.2.1 (dA k) S).2
def dU (d:aF):Int:=if (iQ d d.2.2.2.2.1 0 [] []).1=0 then (if (dE d.2.2.2.2.1.length (iQ d d.2.2.2.2.1 0 [] []).2).2=0 then 0 else 20) else (iQ d d.2.2.2.2.1 0 [] []).1
def zD (d:aF):Bool:=d.2.2.2.2.1.all (fun k=>decide ((dA k).length≤140737488355328)&&decide ((cF k).length≤140737488355328))&&decide (d.2.2.2.2.1.length≤64)
theorem x6 (a b:ByteArray):eP a b=true↔a.data.toList<b.data.toList:=by
 unfold eP;rw[bytesLess_eq,decide_eq_true_iff]
theorem APA {a b:ByteArray} (h:(!(eP b a||decide (b=a)))=true):a.data.toList<b.data.toList:=by
 simp only[Bool.not_eq_true',Bool.or_eq_false_iff,decide_eq_false_iff_not] at h
 refine Classical.byContradiction fun hc=>h.2 ?_
 have h1:¬ b.data.toList<a.data.toList:=fun h'=>by rw[(x6 b a).2 h'] at h;exact absurd h.1 (by decide)
 have e:b.data.toList=a.data.toList:=List.le_antisymm (List.not_lt.1 hc) (List.not_lt.1 h1)
 exact ByteArray.ext (Array.ext' e)
theorem AE4:∀ {l:List ByteArray},lU l=true→l.Pairwise fun a b=>a.data.toList<b.data.toList
 | [],_=>List.Pairwise.nil
 | [a],_=>by simp
 | a::b::l,h=>by
  rw[lU,Bool.and_eq_true] at h
  have h1:=APA h.1
  have ih:=AE4 h.2
  refine List.pairwise_cons.2 ⟨fun x hx=>?_,ih⟩
  rcases List.mem_cons.1 hx with rfl|hx
  ·exact h1
  ·exact List.lt_trans h1 ((List.pairwise_cons.1 ih).1 x hx)
theorem HX {l:List ByteArray} (h:lU l=true):l.Nodup:=by
 refine (AE4 h).imp fun {a b} hab e=>?_
 subst e
 exact List.lt_irrefl _ hab
theorem APS:∀ {l m:List ByteArray},l.Nodup→(∀ x∈l,x∈m)→l.length≤m.length
 | [],_,_,_=>Nat.zero_le _
 | a::l,m,h,hm=>by
  obtain ⟨h1,h2⟩:=List.pairwise_cons.1 h
  have h3:l.length≤(m.filter fun x=>decide (x≠a)).length:=APS h2 fun x hx=>List.mem_filter.2 ⟨hm x (List.mem_cons_of_mem _ hx),decide_eq_true fun e=>h1 x hx e.symm⟩
  have h4:(m.filter fun x=>decide (x≠a)).length<m.length:=List.length_filter_lt_length_iff_exists.2 ⟨a,hm a List.mem_cons_self,by simp⟩
  rw[List.length_cons];omega
def uH (x:aF×MP×MP×MP×MP):Option T:=match zD x.1 with
 | true=>wH x (T.v (Value.int .i64 (dU x.1)))
 | false=>none
noncomputable def pE:List T→Option (T):=gA (fun (x:aF×(List (ByteArray×Int))×(List (ByteArray×Int))×(List (ByteArray×Int))×List (ByteArray×Int))=>mV x.1 x.2.1 x.2.2.1 x.2.2.2.1 x.2.2.2.2) uH
theorem AF7 (a0:aF) (m1:List (ByteArray×Int)) (m2:List (ByteArray×Int)) (m3:List (ByteArray×Int)) (m4:List (ByteArray×Int)):pE (mV a0 m1 m2 m3 m4)=uH (a0,m1,m2,m3,m4):=lA (A:=(fun (x:aF×(List (ByteArray×Int))×(List (ByteArray×Int))×(List (ByteArray×Int))×List (ByteArray×Int))=>mV x.1 x.2.1 x.2.2.1 x.2.2.2.1 x.2.2.2.2)) WH (a0,m1,m2,m3,m4)
theorem ATR (h:∀ (a0:aF) (m1:List (ByteArray×Int)) (m2:List (ByteArray×Int)) (m3:List (ByteArray×Int)) (m4:List (ByteArray×Int)) (r:T),uH (a0,m1,m2,m3,m4)=some r→(∀ t∈mV a0 m1 m2 m3 m4,Bd t)→N0 a0 m1 m2 m3 m4 (fun y=>y=r)):aK Tryz.prog 28 pE :=
 fK (E:=MR) (Hs:=ADS) AJG aU aV (aL rfl) 8 ⟨_,_,Tryz.func28,rfl⟩ fun x r h1 h2=>by
  rw[ACJ]
  exact h x.1 x.2.1 x.2.2.1 x.2.2.2.1 x.2.2.2.2 r h1 h2
theorem A8B {α:Type} {id:ByteArray} {l:List (ByteArray×α)} {A:Prop} {B:Nat→Int→Prop} (hA:iR (gW (ids l)) id=none→l.find? (fun s=>decide (s.1=id))=none→A) (hB:∀ i k (h:k<l.length),iR (gW (ids l)) id=some (k:Int)→l.find? (fun s=>decide (s.1=id))=some l[k]→B i (k:Int)) :
  gG TypeDesc.string (Value.string id) (qE (bE (gW (ids l)))) false (Sy.int IntKind.i64) A B:=by
 rw[AHS]
 refine DW (r:=.int .i64) (fun h=>?_) fun i v h=>?_
 ·rcases xH id l with ⟨h1,h2⟩|⟨k,hk,h1,_⟩
  ·exact hA h1 h2
  ·rw[h] at h1;cases h1
 ·rcases xH id l with ⟨h1,_⟩|⟨k,hk,h1,h2⟩
  ·rw[h] at h1;cases h1
  ·rw[h] at h1;cases h1;exact hB i k hk h h2
theorem A8E {l:List ByteArray} {b:ByteArray} {A:Prop} (hl:l.length≤140737488355328) (hyes:l.getLast? = some b→A) (hno:¬ l.getLast? = some b→A) {R2:Prop} (hR2:¬ l.getLast? = some b→R2) {K:Prop} (hK:l.getLast? = some b→K) :
  aB (decide (((List.map Sy.str.enc l).length:Int)=0)) R2 (aO Sy.str (List.map Sy.str.enc l) (IntKind.i64.wrap (((List.map Sy.str.enc l).length:Int)-1)) fun (y:ByteArray)=>aB (!decide (y=b)) R2 K):=by
 rw[List.length_map]
 refine bJ (fun h=>hR2 ?_) fun h=>?_
 ·have:l=[]:=List.length_eq_zero_iff.1 (by omega)
  rw[this];simp
 ·have h1:l.length-1<l.length:=by omega
  rw[aQ _ (by omega) (by omega),show ((l.length:Int)-1)=((l.length-1:Nat):Int) by omega,aS (r:=.str) h1]
  have e:l.getLast? = some l[l.length-1]:=by rw[List.getLast?_eq_getElem?,List.getElem?_eq_getElem h1]
  refine gT (fun h=>hR2 ?_) fun h=>hK ?_
  ·rw[e];intro h';exact h (Option.some.inj h')
  ·rw[e];exact congrArg some h
theorem A8X {es:List (ByteArray×Bool)} {S:List ByteArray} {id:ByteArray} {R7:Prop} {K:List (ByteArray×Bool)→Prop} (hS:Seen es (fun x=>x∈S)) (h7:id∈S→R7) (hK:∀ es',id∉S→Seen es' (fun x=>x∈id::S)→K es') :
  gG TypeDesc.string (Value.string id) (List.map (cC Sy.str false Sy.bool) es) false Sy.bool
   (nY (Option (Nat×D)) (findD TypeDesc.string (Value.string id) (List.map (cC Sy.str false Sy.bool) es) 0) fun (y24:Option (Nat×D)) =>
    dN Sy.str false Sy.bool (eT (List.map (cC Sy.str false Sy.bool) es) y24 (Value.string id) (D.p (T.v (.bool true)))) fun (y25:List (ByteArray×Bool))=>K y25)
   fun (i20:Nat) (y21:Bool)=>aB y21 R7
    (nY (Option (Nat×D)) (findD TypeDesc.string (Value.string id) (List.map (cC Sy.str false Sy.bool) es) 0) fun (y22:Option (Nat×D)) =>
     dN Sy.str false Sy.bool (eT (List.map (cC Sy.str false Sy.bool) es) y22 (Value.string id) (D.p (T.v (.bool true)))) fun (y23:List (ByteArray×Bool))=>K y23):=by
 refine DW (r:=.bool) (fun hno=>?_) fun j b hb=>?_
 ·refine AYM (r:=.bool) rfl (es:=es) (k:=id) (v:=true) (hK _ (fun h=>?_) ((hS.ins id).congr fun x=>?_))
  ·have:=(hS.2 id).2 h
   rw[hno] at this;cases this
  ·rw[List.mem_cons];exact ⟨fun h=>h.symm.imp_left Eq.symm,fun h=>h.symm.imp_right Eq.symm⟩
 ·have:=hS.1 _ _ hb
  subst this
  rw[eO]
  exact h7 ((hS.2 _).1 hb)
theorem ASG:aK Tryz.prog 28 pE:=ATR fun d m1 m2 m3 m4 r h hb=>by
 unfold uH at h
 split at h
 case h_2=>cases h
 rename_i hok
 replace hok:zD d=true:=hok
 obtain ⟨hx,hs,rfl⟩:=nJ h
 simp only[Prod.mk.injEq,true_and] at hx
 obtain ⟨rfl,rfl,rfl,rfl⟩:=hx
 replace hs:lT d:=hs
 clear h hb
 simp only[zD,Bool.and_eq_true,decide_eq_true_eq,List.all_eq_true] at hok
 obtain ⟨hkp,hka⟩:=hok
 have hkq:=fun k hk=>(hkp k hk).2
 replace hkp:=fun k hk=>(hkp k hk).1
 have hlk:=hs.k
 have is:∀ {n:Int},dU d=n→T.v (.int .i64 n)=T.v (.int .i64 (dU d)):=fun h=>by rw[h]
 unfold N0
 refine mY (r:=.bool) rfl [] _ ?_
 refine aY d.2.2.2.2.1.length (fun k s=>∃ S,s.2.2.1=(k:Int)∧Seen s.2.1 (fun x=>x∈S)∧s.1.length≤64*k∧iQ d (d.2.2.2.2.1.drop k) k s.1 S=iQ d d.2.2.2.2.1 0 [] []) ⟨[],rfl,Seen.nil.congr (by simp),by simp,rfl⟩ ?_
 rintro X k ⟨E,es,i,u⟩ hk ⟨S,rfl,hseen,hlen,hr⟩ hX
 dsimp only at hseen hlen hr ⊢
 refine bJ (fun hlt=>?_) fun hge=>?_
 ·rw[List.length_map] at hlt
  have hlt:k<d.2.2.2.2.1.length:=by omega
  rw[aS (r:=aR) hlt]
  rw[List.drop_eq_getElem_cons hlt] at hr
  have hmem:=List.getElem_mem hlt
  have hp1:=hkp _ hmem
  have hp2:=hkq _ hmem
  generalize hy:d.2.2.2.2.1[k]=y at hr hp1 hp2 ⊢
  rw[iQ] at hr
  have bad:∀ {n:Int},n≠0→(iQ d d.2.2.2.2.1 0 [] []).1=n→T.v (.int .i64 n)=T.v (.int .i64 (dU d)):=fun hn h=>by
   refine is ?_
   unfold dU
   rw[if_neg (by rw[h];exact hn),h]
  have badH:∀ {n:Int},n≠0→kN d y=n→T.v (.int .i64 n)=T.v (.int .i64 (dU d)):=fun hn h=>by
   refine bad hn ?_
   rw[if_pos (by rw[h];exact hn)] at hr
   rw[←hr];exact h
  rw[mD]
  refine dK (fun h=>badH (by decide) (by unfold kN;rw[if_pos h])) fun i1=>?_
  refine aD (s:=[(false,.bool)]) (QQ hs _) ?_
  refine dK (fun h=>badH (by decide) (by unfold kN;rw[if_neg (by rw[i1];decide),if_pos h])) fun i2=>?_
  have n1:¬ gP y.1=false:=by rw[i1];decide
  have n2:¬ n8 d y.2.1=false:=by rw[i2];decide
  refine bJ (fun h=>badH (by decide) (by unfold kN;rw[if_neg n1,if_neg n2,if_pos (.inl h)])) fun h3=>?_
  refine bJ (fun h=>badH (by decide) (by unfold kN;rw[if_neg n1,if_neg n2,if_pos (.inr h)])) fun h4=>?_
  have n3:¬ (IS y<1∨10000<IS y):=by rintro (h|h);exact h3 h;exact h4 h
  refine aD (s:=[(false,.any)]) (U9 (a0:=dA y)) ?_
  refine LZ (b:=lU (dA y)) (by rw[List.length_map];exact AYE hp1) _ ?_
  refine dK (fun h=>badH (by decide) (by unfold kN;rw[if_neg n1,if_neg n2,if_neg n3,if_pos (.inl h)])) fun h5=>?_
  refine aD (s:=[(false,.any)]) (U9 (a0:=cF y)) ?_
  refine LZ (b:=lU (cF y)) (by rw[List.length_map];exact AYE (l:=cF y) hp2) _ ?_
  refine dK (fun h=>badH (by decide) (by unfold kN;rw[if_neg n1,if_neg n2,if_neg n3,if_pos (.inr h)])) fun h6=>?_
  have hh:kN d y=0:=by unfold kN;rw[if_neg n1,if_neg n2,if_neg n3,if_neg];rintro (h|h);(rw[h5] at h;cases h);(rw[h6] at h;cases h)
  have hnd:=HX h6
  clear badH n1 n2 n3 h3 h4 h5 h6 i1 i2
  rw[if_neg (fun h=>h hh)] at hr
  refine mY (r:=.bool) rfl es _ ?_
  refine aY (dA y).length (fun j s=>∃ S',s.1=(j:Int)∧Seen s.2.1 (fun x=>x∈S')∧instE d y.2.1 ((dA y).drop j) S'=instE d y.2.1 (dA y) S) ⟨S,rfl,hseen,rfl⟩ ?_
  rintro Y j ⟨i,es',u⟩ hj ⟨S',rfl,hseen',hi⟩ hY
  dsimp only at hseen' hi ⊢
  refine bJ (fun hjl=>?_) fun hjl=>?_
  ·rw[List.length_map] at hjl
   replace hjl:(j:Int)<((dA y).length:Int):=hjl
   have hjl:j<(dA y).length:=by omega
   rw[aS (r:=.str) hjl]
   rw[List.drop_eq_getElem_cons hjl,instE] at hi
   have badI:∀ {n:Int},n≠0→(instE d y.2.1 (dA y) S).1=n→T.v (.int .i64 n)=T.v (.int .i64 (dU d)):=fun hn h=>by
    refine bad hn ?_
    rw[if_pos (by rw[h];exact hn)] at hr
    rw[←hr];exact h
   have hw:IntKind.i64.wrap ((j:Int)+1)=((j+1:Nat):Int):=aQ _ (by omega) (by omega)
   generalize (dA y)[j]=id at hi ⊢
   refine A8B (fun _ hn=>badI (by decide) ?_) fun i q hq _ hn=>?_
   ·have hn:partOf d id=none:=hn
    rw[hn] at hi;rw[←hi]
   ·have hn:partOf d id=some d.2.2.1[q]:=hn
    rw[hn] at hi
    rw[aS (r:=aX) hq]
    obtain ⟨p,hp⟩:∃ p,p=d.2.2.1[q]:=⟨_,rfl⟩
    rw[←hp] at hi hn ⊢
    dsimp only at hi
    have fin:¬ (¬ bB p=4∧¬ bB p=3)→aG [(false,Sy.str.li),(false,Sy.bool)]
      (iB (kU d (gW (ids d.2.1)) (gW (ids d.2.2.1)) (gW (ids d.2.2.2.1)) (gW (ids d.2.2.2.2.1)) (e9 p))) fun (y18:List ByteArray×Bool) =>
      aB (decide (((List.map Sy.str.enc y18.1).length:Int)=0)) (T.v (.int .i64 2)=T.v (.int .i64 (dU d)))
       (aO Sy.str (List.map Sy.str.enc y18.1) (IntKind.i64.wrap (((List.map Sy.str.enc y18.1).length:Int)-1)) fun (y19:ByteArray) =>
        aB (!decide (y19=y.2.1)) (T.v (.int .i64 2)=T.v (.int .i64 (dU d)))
        (gG TypeDesc.string (Value.string id) (List.map (cC Sy.str false Sy.bool) es') false Sy.bool
         (nY (Option (Nat×D)) (findD TypeDesc.string (Value.string id) (List.map (cC Sy.str false Sy.bool) es') 0) fun (y24:Option (Nat×D)) =>
          dN Sy.str false Sy.bool (eT (List.map (cC Sy.str false Sy.bool) es') y24 (Value.string id) (D.p (T.v (.bool true)))) fun (y25:List (ByteArray×Bool))=>Y (IntKind.i64.wrap ((j:Int)+1),y25,()))
         fun (i20:Nat) (y21:Bool)=>aB y21 (T.v (.int .i64 7)=T.v (.int .i64 (dU d)))
          (nY (Option (Nat×D)) (findD TypeDesc.string (Value.string id) (List.map (cC Sy.str false Sy.bool) es') 0) fun (y22:Option (Nat×D)) =>
           dN Sy.str false Sy.bool (eT (List.map (cC Sy.str false Sy.bool) es') y22 (Value.string id) (D.p (T.v (.bool true)))) fun (y23:List (ByteArray×Bool))=>Y (IntKind.i64.wrap ((j:Int)+1),y23,())))):=by
     intro hk
     rw[if_neg hk] at hi
     refine aD (s:=[(false,.li .str),(false,.bool)]) (KT hs _) ?_
     have hul:=ABF d (e9 p)
     refine A8E (A:=True) (b:=y.2.1) (by omega) (fun _=>trivial) (fun _=>trivial) (fun h=>badI (by decide) ?_) fun h=>?_
     ·rw[if_neg h] at hi;rw[←hi]
     ·rw[if_pos h] at hi
      refine A8X (K:=fun es=>Y (IntKind.i64.wrap ((j:Int)+1),es,())) hseen' (fun h7=>badI (by decide) ?_) fun es2 h7 hs2=>?_
      ·rw[if_pos (j1.2 h7)] at hi;rw[←hi]
      ·rw[if_neg (fun h=>h7 (j1.1 h))] at hi
       rw[hw]
       exact hY _ hjl ⟨id::S',rfl,hs2,hi⟩
    refine gT (fun k4=>?_) fun k4=>?_
    ·refine gT (fun k3=>badI (by decide) ?_) fun k3=>?_
     ·rw[if_pos ⟨k4,k3⟩] at hi;rw[←hi]
     ·rw[aS (r:=aX) hq,←hp]
      exact fin fun h=>h.2 k3
    ·rw[aS (r:=aX) hq,←hp]
     exact fin fun h=>h.1 k4
  ·rw[List.length_map] at hjl
   replace hjl:¬ (j:Int)<((dA y).length:Int):=hjl
   have hjl:j=(dA y).length:=by omega
   subst hjl
   rw[List.drop_length,instE] at hi
   rw[←hi,if_neg (by simp)] at hr
   dsimp only at hr
   clear hY hi hj
   rw[dM rfl]
   refine aY (cF y).length (fun j s=>s.2.1=(j:Int)∧s.1.length=E.length+j∧(∀ x∈(cF y).take j,x∈ids d.2.2.2.2.1)∧B1 d y.1 k ((cF y).drop j) s.1=B1 d y.1 k (cF y) E) ⟨rfl,by simp,by simp,rfl⟩ ?_
   rintro Y j ⟨E',i,u⟩ hj ⟨rfl,hEl,hin,hi⟩ hY
   dsimp only at hEl hin hi ⊢
   have hjk:j≤64:=by
    have h1:=APS (hnd.sublist (List.take_sublist j _)) hin
    have h2:(ids d.2.2.2.2.1).length=d.2.2.2.2.1.length:=by simp[ids]
    rw[List.length_take] at h1
    omega
   refine bJ (fun hjl=>?_) fun hjl=>?_
   ·rw[List.length_map] at hjl
    replace hjl:(j:Int)<((cF y).length:Int):=hjl
    have hjl:j<(cF y).length:=by omega
    rw[aS (r:=.str) hjl]
    rw[List.drop_eq_getElem_cons hjl,B1] at hi
    have badA:∀ {n:Int},n≠0→(B1 d y.1 k (cF y) E).1=n→T.v (.int .i64 n)=T.v (.int .i64 (dU d)):=fun hn h=>by
     refine bad hn ?_
     rw[if_pos (by rw[h];exact hn)] at hr
     rw[←hr];exact h
    have hw:IntKind.i64.wrap ((j:Int)+1)=((j+1:Nat):Int):=aQ _ (by omega) (by omega)
    have hts:(cF y).take (j+1)=(cF y).take j++[(cF y)[j]]:=List.take_succ_eq_append_getElem hjl
    generalize (cF y)[j]=id at hi hts ⊢
    refine bJ (fun h=>badA (by decide) ?_) fun h=>?_
    ·rw[if_pos h] at hi;rw[←hi]
    rw[if_neg h] at hi
    refine A8B (fun hg _=>badA (by decide) ?_) fun i q hq hg hfi=>?_
    ·rw[hg] at hi;rw[←hi]
    ·rw[hg] at hi
     dsimp only at hi
     refine ⟨by simp;omega,?_⟩
     rw[tI (r:=aA) rfl E' [T.v (.int .i64 (q:Int)),T.v (.int .i64 (k:Int))] ((q:Int),(k:Int)) rfl,hw]
     refine hY _ hjl ⟨rfl,by simp only[List.length_append,List.length_cons,List.length_nil];omega,fun x hx=>?_,hi⟩
     rw[hts] at hx
     rcases List.mem_append.1 hx with hx|hx
     ·exact hin x hx
     ·have hx:x=id:=by simpa using hx
      subst hx
      have h9:=List.find?_some hfi
      exact List.mem_map.2 ⟨_,List.getElem_mem hq,of_decide_eq_true h9⟩
   ·rw[List.length_map] at hjl
    replace hjl:¬ (j:Int)<((cF y).length:Int):=hjl
    have hjl:j=(cF y).length:=by omega
    subst hjl
    rw[List.drop_length,B1] at hi
    rw[←hi,if_neg (by simp)] at hr
    dsimp only at hr
    rw[dM rfl]
    refine mY (r:=.bool) rfl es' _ ?_
    refine hX _ hlt ⟨S',?_,hseen',?_,?_⟩
    ·show IntKind.i64.wrap ((k:Int)+1)=_
     rw[aQ]<;>omega
    ·show E'.length≤_
     omega
    ·rw[←hr];rfl
 ·rw[List.length_map] at hge
  have hkl:k=d.2.2.2.2.1.length:=by omega
  subst hkl
  rw[List.drop_length,iQ] at hr
  have w:dU d=if (dE d.2.2.2.2.1.length E).2=0 then 0 else 20:=by
   unfold dU;rw[←hr,if_pos rfl]
  refine aD (s:=[(false,.li (.int .i64)),(false,.int .i64)]) (y:=dE d.2.2.2.2.1.length E) (by rw[List.length_map];exact (AML ..).trans (dX (l:=E) _ (by omega))) ?_
  exact gT (fun h=>is (by rw[w,if_neg h])) fun h=>is (by rw[w,if_pos h])
end Go.Pv
namespace Go.Pv
open Go Go.Proofs
theorem LS {a:Option MP} {es:MP} {K:MP→Prop} (h:a=some es) (hk:K es):nY (List (ByteArray×Int)) a K:=⟨es,h,hk⟩
end Go.Pv
namespace Go.Pv
open Go Go.Proofs
noncomputable def QR:List T→Option (List (ByteArray×Int)):=AS6
theorem A5H:iM Tryz.prog 56 (sC QR):=A70
noncomputable def AI2:Env:=Env.of [(21,.pure tQ),(22,.pure eM),(56,.ALP QR),(24,.pure II),(25,.pure tM),(26,.pure pF),(27,.pure tN),(28,.pure pE),(29,.pure tL)]
def AWN:FuncId→Hint:=fun _=>aT
theorem AVR:aE Tryz.prog AI2:=aE.cons (x:=.pure tQ) ASL (aE.cons (x:=.pure eM) yR (aE.cons (x:=.ALP QR) A5H (aE.cons (x:=.pure II) A15 (aE.cons (x:=.pure tM) ASC (aE.cons (x:=.pure pF) ASH (aE.cons (x:=.pure tN) ASD (aE.cons (x:=.pure pE) ASG (aE.cons (x:=.pure tL) ASB (aE.nil _)))))))))
def AKJ (a0:aF) (a1:aN) (R:T→Prop):Prop :=
 aG [(false,Sy.int IntKind.i64)] (tQ [aC true aH a1])
 fun (y0:Int) =>
 aB (!decide (y0=0)) (R (T.v (.int .i64 y0)))
 (aG [(false,Sy.bool)] (eM [T.v (.string a0.1)]) fun (y1:Bool) =>
 aB (!y1) (R (T.v (.int .i64 6)))
 (nY (List (ByteArray×Int))
 (QR
 [T.fn 57 [].reverse
 [T.ref
 [T.ref
 [T.sl false (List.map b6.enc a0.2.2.2.2.2),
 T.sl false (List.map aR.enc a0.2.2.2.2.1),
 T.sl false (List.map bW.enc a0.2.2.2.1),
 T.sl false (List.map aX.enc a0.2.2.1),
 T.sl false (List.map bH.enc a0.2.1),
 T.v (.string a0.1)].reverse].reverse].reverse,
 T.v (.int .i64 (↑(List.map bH.enc a0.2.1).length:Int))].reverse)
 fun (y2:List (ByteArray×Int)) =>
 nY (List (ByteArray×Int))
 (QR
 [T.fn 58 [].reverse
 [T.ref
 [T.ref
 [T.sl false (List.map b6.enc a0.2.2.2.2.2),
 T.sl false (List.map aR.enc a0.2.2.2.2.1),
 T.sl false (List.map bW.enc a0.2.2.2.1),
 T.sl false (List.map aX.enc a0.2.2.1),
 T.sl false (List.map bH.enc a0.2.1),
 T.v (.string a0.1)].reverse].reverse].reverse,
 T.v
 (Value.int IntKind.i64 (↑(List.map aX.enc a0.2.2.1).length:Int))].reverse)
 fun (y3:List (ByteArray×Int)) =>
 nY (List (ByteArray×Int))
 (QR
 [T.fn 59 [].reverse
 [T.ref
 [T.ref
 [T.sl false (List.map b6.enc a0.2.2.2.2.2),
 T.sl false (List.map aR.enc a0.2.2.2.2.1),
 T.sl false (List.map bW.enc a0.2.2.2.1),
 T.sl false (List.map aX.enc a0.2.2.1),
 T.sl false (List.map bH.enc a0.2.1),
 T.v (.string a0.1)].reverse].reverse].reverse,
 T.v
 (Value.int IntKind.i64
 (↑(List.map bW.enc a0.2.2.2.1).length:Int))].reverse)
 fun (y4:List (ByteArray×Int)) =>
 nY (List (ByteArray×Int))
 (QR
 [T.fn 60 [].reverse
 [T.ref
 [T.ref
 [T.sl false (List.map b6.enc a0.2.2.2.2.2),
 T.sl false (List.map aR.enc a0.2.2.2.2.1),
 T.sl false (List.map bW.enc a0.2.2.2.1),
 T.sl false (List.map aX.enc a0.2.2.1),
 T.sl false (List.map bH.enc a0.2.1),
 T.v (.string a0.1)].reverse].reverse].reverse,
 T.v
 (Value.int IntKind.i64
 (↑(List.map aR.enc a0.2.2.2.2.1).length:Int))].reverse)
 fun (y5:List (ByteArray×Int)) =>
 aG [(false,Sy.int IntKind.i64)]
 (II
 [T.ref
 [T.ref
 [T.v (.string a0.1),T.sl false (List.map bH.enc a0.2.1),
 T.sl false (List.map aX.enc a0.2.2.1),
 T.sl false (List.map bW.enc a0.2.2.2.1),
 T.sl false (List.map aR.enc a0.2.2.2.2.1),
 T.sl false (List.map b6.enc a0.2.2.2.2.2)],
 T.mp (bE y2),T.mp (bE y3),T.mp (bE y4),
 T.mp (bE y5)]])
 fun (y6:Int) =>
 aB (!decide (y6=0)) (R (T.v (.int .i64 y6)))
 (aG [(false,Sy.int IntKind.i64)]
 (tM
 [T.ref
 [T.ref
 [T.v (.string a0.1),
 T.sl false (List.map bH.enc a0.2.1),
 T.sl false (List.map aX.enc a0.2.2.1),
 T.sl false (List.map bW.enc a0.2.2.2.1),
 T.sl false (List.map aR.enc a0.2.2.2.2.1),
 T.sl false (List.map b6.enc a0.2.2.2.2.2)],
 T.mp (bE y2),T.mp (bE y3),T.mp (bE y4),
 T.mp (bE y5)]])
 fun (y7:Int) =>
 aB (!decide (y7=0)) (R (T.v (.int .i64 y7)))
 (aG [(false,Sy.int IntKind.i64)]
 (pF
 [T.ref
 [T.ref
 [T.v (.string a0.1),
 T.sl false (List.map bH.enc a0.2.1),
 T.sl false (List.map aX.enc a0.2.2.1),
 T.sl false (List.map bW.enc a0.2.2.2.1),
 T.sl false (List.map aR.enc a0.2.2.2.2.1),
 T.sl false (List.map b6.enc a0.2.2.2.2.2)],
 T.mp (bE y2),T.mp (bE y3),T.mp (bE y4),
 T.mp (bE y5)],
 aC true aH a1])
 fun (y8:Int) =>
 aB (!decide (y8=0)) (R (T.v (.int .i64 y8)))
 (aG [(false,Sy.int IntKind.i64)]
 (tN
 [T.ref
 [T.ref
 [T.v (.string a0.1),
 T.sl false (List.map bH.enc a0.2.1),
 T.sl false (List.map aX.enc a0.2.2.1),
 T.sl false (List.map bW.enc a0.2.2.2.1),
 T.sl false (List.map aR.enc a0.2.2.2.2.1),
 T.sl false (List.map b6.enc a0.2.2.2.2.2)],
 T.mp (bE y2),T.mp (bE y3),
 T.mp (bE y4),T.mp (bE y5)]])
 fun (y9:Int) =>
 aB (!decide (y9=0)) (R (T.v (.int .i64 y9)))
 (aG [(false,Sy.int IntKind.i64)]
 (pE
 [T.ref
 [T.ref
 [T.v (.string a0.1),
 T.sl false (List.map bH.enc a0.2.1),
 T.sl false (List.map aX.enc a0.2.2.1),
 T.sl false (List.map bW.enc a0.2.2.2.1),
 T.sl false (List.map aR.enc a0.2.2.2.2.1),
 T.sl false (List.map b6.enc a0.2.2.2.2.2)],
 T.mp (bE y2),T.mp (bE y3),
 T.mp (bE y4),T.mp (bE y5)]])
 fun (y10:Int) =>
 aB (!decide (y10=0)) (R (T.v (.int .i64 y10)))
 (aG [(false,Sy.int IntKind.i64)]
 (tL
 [T.ref
 [T.ref
 [T.v (.string a0.1),
 T.sl false (List.map bH.enc a0.2.1),
 T.sl false (List.map aX.enc a0.2.2.1),
 T.sl false (List.map bW.enc a0.2.2.2.1),
 T.sl false (List.map aR.enc a0.2.2.2.2.1),
 T.sl false (List.map b6.enc a0.2.2.2.2.2)],
 T.mp (bE y2),T.mp (bE y3),
 T.mp (bE y4),T.mp (bE y5)]])
 fun (y11:Int)=>R (T.v (.int .i64 y11)))))))))
theorem ARA ( a0 a1 R):bA aW Tryz.prog AI2 AWN 8 9 [aC true aM a0,aC true aH a1] R=AKJ a0 a1 R:=by kernel_rfl
abbrev AAT:Sh:=[(true,aM),(true,aH)]
def oD (d:aF) (m:aN):Int:=if ¬ lE m=0 then lE m else if isName d.1=false then 6 else if ¬ fA d=0 then fA d else if ¬ eD d=0 then eD d else if ¬ fJ d m=0 then fJ d m else if ¬ bC (lL d) d.2.2.2.1=0 then bC (lL d) d.2.2.2.1 else if ¬ dU d=0 then dU d else bC (lF d) d.2.2.2.2.2
def AA2 (x:aF×aN):Option T:=some (T.v (Value.int .i64 (oD x.1 x.2)))
noncomputable def IG:List T→Option (T):=gS AAT AA2
theorem AS2 {a0 a1}:IG [aC true aM a0,aC true aH a1]=AA2 (a0,a1):=a6 (s:=AAT) rfl (a0,a1) rfl
theorem A2X (h:∀ a0 a1 r,AA2 (a0,a1)=some r→bY AAT (a0,a1)→AKJ a0 a1 (fun y=>y=r)):aK Tryz.prog 9 IG :=
 aP (E:=AI2) (Hs:=AWN) AVR aU aV (aL rfl) 8 ⟨_,_,Tryz.func9,rfl⟩ rfl fun x r h1 h2=>by
  obtain ⟨a0,a1⟩:=x
  rw[show Sh.bK AAT (a0,a1)=[aC true aM a0,aC true aH a1] from rfl,ARA]
  exact h a0 a1 r h1 h2
theorem APU {m:aN} (h:lE m=0):A9 m=true:=by
 unfold lE at h
 split at h
 ·cases h
 rename_i h1
 split at h
 ·rename_i h2;exact absurd h h2
 rename_i h2
 have h2:bC (jB m) (List.range m.1.length)=0:=Classical.byContradiction h2
 simp only[A9,Bool.and_eq_true,decide_eq_true_eq,List.all_eq_true]
 refine ⟨⟨by omega,by omega⟩,fun g hg=>?_⟩
 obtain ⟨i,hi,rfl⟩:=List.mem_iff_getElem.1 hg
 have h3:=w4 h2 i (List.mem_range.2 hi)
 unfold jB at h3
 rw[gK hi] at h3
 have h4:eX m.1[i]=0:=by
  refine Classical.byContradiction fun hc=>?_
  rw[if_pos hc] at h3
  exact hc h3
 unfold eX at h4
 split at h4
 ·cases h4
 split at h4
 ·cases h4
 split at h4
 ·cases h4
 split at h4
 ·cases h4
 ·omega
theorem A1O {d:aF} {m:aN} (hs:lT d) (hm:A9 m=true):pF (mW d (gW (ids d.2.1)) (gW (ids d.2.2.1)) (gW (ids d.2.2.2.1)) (gW (ids d.2.2.2.2.1)) m)=some (T.v (Value.int .i64 (fJ d m))):=by
 rw[AF8];unfold uI;dsimp only;rw[hm];exact nK hs _
theorem A1N {d:aF} (hs:lT d) (hk:zD d=true):pE (mV d (gW (ids d.2.1)) (gW (ids d.2.2.1)) (gW (ids d.2.2.2.1)) (gW (ids d.2.2.2.2.1)))=some (T.v (Value.int .i64 (dU d))):=by
 rw[AF7];unfold uH;dsimp only;rw[hk];exact nK hs _
theorem A13:aK Tryz.prog 9 IG:=A2X fun d m r h hb=>by
 cases h
 have hd:BdS aM d:=hb.1
 have hs:lT d:=⟨hd.2.1.1,hd.2.2.1.1,hd.2.2.2.1.1,hd.2.2.2.2.1.1,hd.2.2.2.2.2.1⟩
 have hkl:∀ k∈d.2.2.2.2.1,(dA k).length≤140737488355328∧(cF k).length≤140737488355328:=fun k hk=>by
  have h:=hd.2.2.2.2.1.2 k hk
  exact ⟨h.2.2.1.1,h.2.2.2.2.1⟩
 clear hd
 have is:∀ {n:Int},oD d m=n→T.v (.int .i64 n)=T.v (.int .i64 (oD d m)):=fun h=>by rw[h]
 unfold AKJ
 refine aD (s:=[(false,.int .i64)]) (y:=lE m) (AGI ..) ?_
 refine gT (fun h=>is (by unfold oD;rw[if_pos h])) fun h0=>?_
 have hm:=APU h0
 refine aD (s:=[(false,.bool)]) (y:=isName d.1) xA ?_
 have n0:¬ ¬ lE m=0:=fun h=>h h0
 refine dK (fun h=>is (by unfold oD;rw[if_neg n0,if_pos h])) fun hn=>?_
 have n1:¬ isName d.1=false:=by rw[hn];decide
 refine LS (es:=gW (ids d.2.1)) (by rw[List.length_map];exact A5P hs.n) ?_
 refine LS (es:=gW (ids d.2.2.1)) (by rw[List.length_map];exact A5Q hs.p) ?_
 refine LS (es:=gW (ids d.2.2.2.1)) (by rw[List.length_map];exact A5R hs.s) ?_
 refine LS (es:=gW (ids d.2.2.2.2.1)) (by rw[List.length_map];exact A5S hs.k) ?_
 refine aD (s:=[(false,.int .i64)]) (y:=fA d) ((AS4 ..).trans (nK hs _)) ?_
 refine gT (fun h=>is (by unfold oD;rw[if_neg n0,if_neg n1,if_pos h])) fun h1=>?_
 have n2:¬ ¬ fA d=0:=fun h=>h h1
 have hk:zD d=true:=by
  simp only[zD,Bool.and_eq_true,decide_eq_true_eq,List.all_eq_true]
  refine ⟨hkl,?_⟩
  have hlong:eK d=false:=by
   rw[Bool.eq_false_iff]
   intro h
   unfold fA at h1
   rw[if_pos h] at h1
   cases h1
  simp only[eK,Bool.or_eq_false_iff,decide_eq_false_iff_not] at hlong
  omega
 refine aD (s:=[(false,.int .i64)]) (y:=eD d) ((AF3 ..).trans (nK hs _)) ?_
 refine gT (fun h=>is (by unfold oD;rw[if_neg n0,if_neg n1,if_neg n2,if_pos h])) fun h2=>?_
 have n3:¬ ¬ eD d=0:=fun h=>h h2
 refine aD (s:=[(false,.int .i64)]) (y:=fJ d m) (A1O hs hm) ?_
 refine gT (fun h=>is (by unfold oD;rw[if_neg n0,if_neg n1,if_neg n2,if_neg n3,if_pos h])) fun h3=>?_
 have n4:¬ ¬ fJ d m=0:=fun h=>h h3
 refine aD (s:=[(false,.int .i64)]) (y:=bC (lL d) d.2.2.2.1) ((AF4 ..).trans (nK hs _)) ?_
 refine gT (fun h=>is (by unfold oD;rw[if_neg n0,if_neg n1,if_neg n2,if_neg n3,if_neg n4,if_pos h])) fun h4=>?_
 have n5:¬ ¬ bC (lL d) d.2.2.2.1=0:=fun h=>h h4
 refine aD (s:=[(false,.int .i64)]) (y:=dU d) (A1N hs hk) ?_
 refine gT (fun h=>is (by unfold oD;rw[if_neg n0,if_neg n1,if_neg n2,if_neg n3,if_neg n4,if_neg n5,if_pos h])) fun h5=>?_
 have n6:¬ ¬ dU d=0:=fun h=>h h5
 refine aD (s:=[(false,.int .i64)]) (y:=bC (lF d) d.2.2.2.2.2) ((AF2 ..).trans (nK hs _)) ?_
 exact is (by unfold oD;rw[if_neg n0,if_neg n1,if_neg n2,if_neg n3,if_neg n4,if_neg n5,if_neg n6])
end Go.Pv
namespace Go.Pv
open Go Go.Proofs
def H7 (d:aF) (n:Int):Bool:=decide ((d.2.1.length:Int)≤n)&&decide ((d.2.2.1.length:Int)≤n)&&decide ((d.2.2.2.1.length:Int)≤n)&&decide ((d.2.2.2.2.1.length:Int)≤n)&&decide ((d.2.2.2.2.2.length:Int)≤n)&&d.2.2.2.2.1.all fun k=>decide ((k.2.2.1.length:Int)≤n)&&decide ((k.2.2.2.2.length:Int)≤n)
def AOA (x:aF×Int):Option T:=some (Sh.enc r_b (H7 x.1 x.2))
noncomputable def AVF:Env:=Env.of []
def A3U:FuncId→Hint:=fun f=>match f == 7 with|true=>⟨fun r=>match r == 4 with|true=>.inv [.val 5 false (.int .i64)]|false=>.none,fun _ _=>none,fun _=>none⟩|false=>aT
theorem A01:aE Tryz.prog AVF:=aE.nil _
def AVZ (a0:aF) (a1:Int) (R:T→Prop):Prop :=
 aB (decide (a1<(↑(List.map bH.enc a0.2.1).length:Int))) (R (T.v (.bool false)))
 (aB (decide (a1<(↑(List.map aX.enc a0.2.2.1).length:Int)))
 (R (T.v (.bool false)))
 (aB (decide (a1<(↑(List.map bW.enc a0.2.2.2.1).length:Int)))
 (R (T.v (.bool false)))
 (aB (decide (a1<(↑(List.map aR.enc a0.2.2.2.2.1).length:Int)))
 (R (T.v (.bool false)))
 (aB (decide (a1<(↑(List.map b6.enc a0.2.2.2.2.2).length:Int)))
 (R (T.v (.bool false)))
 (a7 (Int×PUnit)
 (fun (X0:Int×PUnit→Prop) (s1:Int×PUnit) =>
 aB (decide (s1.1<(↑(List.map aR.enc a0.2.2.2.2.1).length:Int)))
 (aO aR (List.map aR.enc a0.2.2.2.2.1) s1.1
 fun (y2:cB) =>
 aB (decide (a1<(↑(List.map Sy.str.enc y2.2.2.1).length:Int)))
 (R (T.v (.bool false)))
 (aO aR (List.map aR.enc a0.2.2.2.2.1) s1.1
 fun (y3:cB) =>
 aB (decide (a1<(↑(List.map Sy.str.enc y3.2.2.2.2).length:Int)))
 (R (T.v (.bool false))) (X0 (IntKind.i64.wrap (s1.1+1),()))))
 (R (T.v (.bool true))))
 (0,()))))))
theorem AV0 ( a0 a1 R):bA aW Tryz.prog AVF A3U 8 7 [aC true aM a0,aC false (Sy.int IntKind.i64) a1] R=AVZ a0 a1 R:=by kernel_rfl
abbrev AQB:Sh:=[(true,aM),(false,(Sy.int IntKind.i64))]
noncomputable def QP:List T→Option (T):=gS AQB AOA
theorem AX3 {a0 a1}:QP [aC true aM a0,T.v (.int .i64 a1)]=AOA (a0,a1):=a6 (s:=AQB) rfl (a0,a1) rfl
theorem A6G (h:∀ a0 a1 r,AOA (a0,a1)=some r→bY AQB (a0,a1)→AVZ a0 a1 (fun y=>y=r)):aK Tryz.prog 7 QP :=
 aP (E:=AVF) (Hs:=A3U) A01 aU aV (aL rfl) 8 ⟨_,_,Tryz.func7,rfl⟩ rfl fun x r h1 h2=>by
  obtain ⟨a0,a1⟩:=x
  rw[show Sh.bK AQB (a0,a1)=[aC true aM a0,aC false (Sy.int IntKind.i64) a1] from rfl,AV0]
  exact h a0 a1 r h1 h2
theorem vF {n:Int} {m:Nat} {A B:Prop} (h1:¬ (m:Int)≤n→A) (h2:(m:Int)≤n→B):aB (decide (n<(m:Int))) A B:=by
 by_cases h:(m:Int)≤n
 ·exact dH (by omega) (h2 h)
 ·exact cU (by omega) (h1 h)
theorem AWY {α:Type} {p:α→Bool} {l:List α} {k:Nat} (h:k<l.length):(l.drop k).all p=(p l[k]&&(l.drop (k+1)).all p):=by rw[List.drop_eq_getElem_cons h,List.all_cons]
theorem A5C:aK Tryz.prog 7 QP:=A6G fun d n r h hb=>by
 cases h
 have hl:d.2.2.2.2.1.length≤2 ^ 47:=hb.1.2.2.2.2.1.1
 have no:H7 d n=false→T.v (.bool false)=Sh.enc r_b (H7 d n):=fun h=>by rw[h];rfl
 unfold AVZ
 simp only[List.length_map]
 refine vF (fun h=>no (by simp[H7,h])) fun g1=>?_
 refine vF (fun h=>no (by simp[H7,h])) fun g2=>?_
 refine vF (fun h=>no (by simp[H7,h])) fun g3=>?_
 refine vF (fun h=>no (by simp[H7,h])) fun g4=>?_
 refine vF (fun h=>no (by simp[H7,h])) fun g5=>?_
 refine aY d.2.2.2.2.1.length (fun k s=>s=((k:Int),())∧H7 d n=(d.2.2.2.2.1.drop k).all fun k=>decide ((k.2.2.1.length:Int)≤n)&&decide ((k.2.2.2.2.length:Int)≤n)) ⟨rfl,by simp only[H7,g1,g2,g3,g4,g5,decide_true,Bool.true_and,List.drop_zero]⟩ ?_
 rintro X k s hk ⟨rfl,he⟩ hX
 dsimp only
 by_cases hlt:k<d.2.2.2.2.1.length
 ·rw[AWY hlt] at he
  refine cU (by simp[hlt]) ?_
  rw[aS (r:=aR) hlt]
  try simp only[List.length_map]
  refine vF (fun h=>no (by rw[he];simp[h])) fun g6=>?_
  try rw[aS (r:=aR) hlt]
  try simp only[List.length_map]
  refine vF (fun h=>no (by rw[he];simp[h])) fun g7=>?_
  refine hX _ hlt ⟨by rw[show IntKind.i64.wrap ((k:Int)+1)=((k+1:Nat):Int) from aQ _ (by omega) (by omega)],?_⟩
  rw[he]
  simp only[g6,g7,decide_true,Bool.true_and]
 ·have:k=d.2.2.2.2.1.length:=by omega
  subst this
  refine dH (by simp) ?_
  rw[he];simp only[List.drop_length,List.all_nil];rfl
theorem QO (K:Bool→Prop):aG [(false,Sy.bool)] (lX []) K=K true:=lV (s:=[(false,Sy.bool)]) rfl true K
theorem A2G {c:Bool} {A B:Prop} (h1:c=false→A) (h2:c=true→B):aB (!c) A B:=by cases c with
 | true=>exact h2 rfl
 | false=>exact h1 rfl
end Go.Pv
namespace Go.Pv
open Go Go.Proofs
def R4 (d:aF):Bool:=decide (d.2.1.length≤1000000)&&decide (d.2.2.1.length≤1000000)
def AH9 (d:aF) (t:T):Option T:=match okD d&&okK d&&R4 d with
 | true=>some t
 | false=>none
theorem AZ1 {d:aF} {t r:T} (h:AH9 d t=some r):okD d=true∧okK d=true∧(d.2.1.length≤1000000∧d.2.2.1.length≤1000000)∧r=t:=by
 unfold AH9 at h;split at h
 ·rename_i hc
  simp only[R4,Bool.and_eq_true,decide_eq_true_eq] at hc
  cases h;exact ⟨hc.1.1,hc.1.2,hc.2,rfl⟩
 ·cases h
theorem AZ2 {d:aF} (t:T) (h1:okD d=true) (h2:okK d=true) (h3:R4 d=true):AH9 d t=some t:=by unfold AH9;rw[h1,h2,h3];rfl
theorem AU6 {d:aF} {n:Int} (h:H7 d n=true) (hn:n≤1000000):R4 d=true:=by
 simp only[H7,Bool.and_eq_true,decide_eq_true_eq] at h
 simp only[R4,Bool.and_eq_true,decide_eq_true_eq]
 omega
def A74 (l:List ByteArray) (x:ByteArray):Bool:=l.any fun y=>decide (y=x)
def SA (x:List ByteArray×ByteArray):Option T:=some (Sh.enc r_b (A74 x.1 x.2))
def Q4 (l:List ByteArray):ByteArray:=l.getLastD ⟨#[]⟩
def WA (d:aF) (id:ByteArray):ByteArray×Bool:=if (up d id).2=true then (Q4 (up d id).1,true) else (⟨#[]⟩,false)
def fV (d:aF) (id:ByteArray):ByteArray×Bool:=match cJ d id with
 | some _=>WA d id
 | none=>match partOf d id with
  | some p=>WA d (AP8 p)
  | none=>match lK d id with
   | some k=>(match cJ d k.2.1 with
    | some n=>if n.2.1=1 then (k.2.1,true) else (⟨#[]⟩,false)
    | none=>(⟨#[]⟩,false))
   | none=>(⟨#[]⟩,false)
theorem u5 {α:Type} (no x:α):found no (some x)=(x,true):=rfl
theorem uZ {α:Type} (no:α):found no none=(no,false):=rfl
abbrev AAP:Sh:=[(false,.str),(false,.bool)]
def A0J (x:aF×ByteArray):Option T:=AH9 x.1 (Sh.enc AAP (fV x.1 x.2))
abbrev CO:=A0J
noncomputable def WQ:Env:=Env.of []
def AOW:FuncId→Hint:=fun f=>match f == 14 with|true=>⟨fun r=>match r == 2 with|true=>.inv [.val 5 false (.int .i64)]|false=>.none,fun _ _=>none,fun _=>none⟩|false=>aT
theorem AQ0:aE Tryz.prog WQ:=aE.nil _
def XG (a0:List ByteArray) (a1:ByteArray) (R:T→Prop):Prop :=
 a7 (Int×PUnit)
 (fun (X0:Int×PUnit→Prop) (s1:Int×PUnit) =>
 aB (decide (s1.1<(↑(List.map Sy.str.enc a0).length:Int)))
 (aO Sy.str (List.map Sy.str.enc a0) s1.1 fun (y2:ByteArray) =>
 aB (decide (y2=a1)) (R (T.v (.bool true))) (X0 (IntKind.i64.wrap (s1.1+1),())))
 (R (T.v (.bool false))))
 (0,())
theorem AKO ( a0 a1 R):bA aW Tryz.prog WQ AOW 8 14 [aC false Sy.str.li a0,aC false Sy.str a1] R=XG a0 a1 R:=by kernel_rfl
abbrev L5:Sh:=[(false,Sy.str.li),(false,Sy.str)]
noncomputable def eH:List T→Option (T):=gS L5 SA
theorem CB {a0 a1}:eH [T.sl false (List.map Sy.str.enc a0),T.v (.string a1)]=SA (a0,a1):=a6 (s:=L5) rfl (a0,a1) rfl
theorem AZN (h:∀ a0 a1 r,SA (a0,a1)=some r→bY L5 (a0,a1)→XG a0 a1 (fun y=>y=r)):aK Tryz.prog 14 eH :=
 aP (E:=WQ) (Hs:=AOW) AQ0 aU aV (aL rfl) 8 ⟨_,_,Tryz.func14,rfl⟩ rfl fun x r h1 h2=>by
  obtain ⟨a0,a1⟩:=x
  rw[show Sh.bK L5 (a0,a1)=[aC false Sy.str.li a0,aC false Sy.str a1] from rfl,AKO]
  exact h a0 a1 r h1 h2
theorem AK8 {α:Type} {p:α→Bool} {l:List α} {k:Nat} (h:k<l.length):(l.drop k).any p=(p l[k]||(l.drop (k+1)).any p):=by rw[List.drop_eq_getElem_cons h,List.any_cons]
theorem QD:aK Tryz.prog 14 eH:=AZN fun l x r h hb=>by
 cases h
 have hl:l.length≤2 ^ 47:=hb.1.1
 unfold XG
 refine aY l.length (fun k s=>s=((k:Int),())∧A74 l x=(l.drop k).any fun y=>decide (y=x)) ⟨rfl,rfl⟩ ?_
 rintro X k s hk ⟨rfl,he⟩ hX
 dsimp only
 by_cases hlt:k<l.length
 ·rw[AK8 hlt] at he
  refine cU (by simp[hlt]) ?_
  rw[aS (r:=.str) hlt]
  by_cases h1:l[k]=x
  ·refine cU h1 ?_
   rw[he,decide_eq_true h1];rfl
  ·refine dH h1 (hX _ hlt ⟨by rw[show IntKind.i64.wrap ((k:Int)+1)=((k+1:Nat):Int) from aQ _ (by omega) (by omega)],?_⟩)
   rw[he,decide_eq_false h1,Bool.false_or]
 ·have:k=l.length:=by omega
  subst this
  refine dH (by simp) ?_
  rw[he,List.drop_length];rfl
theorem A81 {d:aF} {id:ByteArray} (h:(up d id).2=true):(up d id).1≠[]:=by
 have key:∀ n id l,(upF d n id l).2=true→(upF d n id l).1≠[]:=by
  intro n
  induction n with
  | zero=>intro id l h;simp[upF] at h
  | succ n ih =>
   intro id l h
   simp only[upF] at h ⊢
   cases hn:cJ d id with
   | none=>simp[hn] at h
   | some x =>
    simp only[hn] at h ⊢
    by_cases hx:x.2.1=1
    ·simp[hx]
    ·simp only[hx,if_false] at h ⊢;exact ih _ _ h
 exact key _ _ _ h
theorem AYQ {l:List ByteArray} (hl:l.length≤65) (h0:l≠[]) (K:ByteArray→Prop):aO Sy.str (List.map Sy.str.enc l) (IntKind.i64.wrap (((List.map Sy.str.enc l).length:Int)-1)) K=K (Q4 l):=by
 have hpos:0<l.length:=List.length_pos_iff.2 h0
 have e:IntKind.i64.wrap (((List.map Sy.str.enc l).length:Int)-1)=((l.length-1:Nat):Int):=by
  rw[List.length_map,aQ _ (by omega) (by omega)];omega
 rw[e,aS (r:=.str) (by omega)]
 have:Q4 l=l[l.length-1]'(by omega):=by
  unfold Q4
  rw[List.getLastD_eq_getLast?,List.getLast?_eq_getElem?,List.getElem?_eq_getElem (by omega)]
  rfl
 rw[←this]
noncomputable def F6:Env:=Env.of [(41,.pure cX),(85,.pure eN),(89,.pure jU),(80,.pure D7)]
def TR:FuncId→Hint:=fun _=>aT
theorem ABL:aE Tryz.prog F6:=aE.cons (x:=.pure cX) oK (aE.cons (x:=.pure eN) yS (aE.cons (x:=.pure jU) UX (aE.cons (x:=.pure D7) AX2 (aE.nil _))))
def G0 (a0:aF) (a1:ByteArray) (R:T→Prop):Prop :=
 aG [(true,bH),(false,Sy.bool)]
 (cX [aC true aM a0,T.v (.string a1)]) fun (y0:gU×Bool) =>
 aB (!y0.2)
 (aG [(true,aX),(false,Sy.bool)]
 (eN [aC true aM a0,T.v (.string a1)])
 fun (y1:bL×Bool) =>
 aB y1.2
 (aG [(false,Sy.str.li),(false,Sy.bool)]
 (D7 [aC true aM a0,T.v (.string y1.1.2.2.2.1)])
 fun (y2:List ByteArray×Bool) =>
 aB (!y2.2)
 (R (T.cQ [T.v (.string { data:=#[] }),T.v (.bool false)]))
 (aO Sy.str (List.map Sy.str.enc y2.1)
 (IntKind.i64.wrap ((↑(List.map Sy.str.enc y2.1).length:Int)-1)) fun (y3:ByteArray) =>
 R (T.cQ [T.v (.string y3),T.v (.bool true)])))
 (aG [(true,aR),(false,Sy.bool)]
 (jU [aC true aM a0,T.v (.string a1)])
 fun (y4:cB×Bool) =>
 aB y4.2
 (aG [(true,bH),(false,Sy.bool)]
 (cX [aC true aM a0,T.v (.string y4.1.2.1)])
 fun (y5:gU×Bool) =>
 aB (!y5.2)
 (R (T.cQ [T.v (.string { data:=#[] }),T.v (.bool false)]))
 (aB (!decide (y5.1.2.1=1))
 (R (T.cQ [T.v (.string { data:=#[] }),T.v (.bool false)]))
 (R (T.cQ [T.v (.string y4.1.2.1),T.v (.bool true)]))))
 (R (T.cQ [T.v (.string { data:=#[] }),T.v (.bool false)]))))
 (aG [(false,Sy.str.li),(false,Sy.bool)]
 (D7 [aC true aM a0,T.v (.string a1)])
 fun (y6:List ByteArray×Bool) =>
 aB (!y6.2)
 (R (T.cQ [T.v (.string { data:=#[] }),T.v (.bool false)]))
 (aO Sy.str (List.map Sy.str.enc y6.1)
 (IntKind.i64.wrap ((↑(List.map Sy.str.enc y6.1).length:Int)-1)) fun (y7:ByteArray) =>
 R (T.cQ [T.v (.string y7),T.v (.bool true)])))
theorem W9 ( a0 a1 R):bA aW Tryz.prog F6 TR 8 124 [aC true aM a0,aC false Sy.str a1] R=G0 a0 a1 R:=by kernel_rfl
abbrev zH:Sh:=[(true,aM),(false,Sy.str)]
noncomputable def jI:List T→Option (T):=gS zH CO
theorem ZE {a0 a1}:jI [aC true aM a0,T.v (.string a1)]=CO (a0,a1):=a6 (s:=zH) rfl (a0,a1) rfl
theorem AM8 (h:∀ a0 a1 r,CO (a0,a1)=some r→bY zH (a0,a1)→G0 a0 a1 (fun y=>y=r)):aK Tryz.prog 124 jI :=
 aP (E:=F6) (Hs:=TR) ABL aU aV (aL rfl) 8 ⟨_,_,Tryz.func124,rfl⟩ rfl fun x r h1 h2=>by
  obtain ⟨a0,a1⟩:=x
  rw[show Sh.bK zH (a0,a1)=[aC true aM a0,aC false Sy.str a1] from rfl,W9]
  exact h a0 a1 r h1 h2
theorem ALR:aK Tryz.prog 124 jI:=AM8 fun d id r h hb=>by
 obtain ⟨hok,hok2,_,rfl⟩:=AZ1 h
 clear h
 have top:∀ at0,fV d id=WA d at0→aB (!(up d at0).2) (T.cQ [T.v (.string { data:=#[] }),T.v (.bool false)]=Sh.enc AAP (fV d id)) (aO Sy.str (List.map Sy.str.enc (up d at0).1) (IntKind.i64.wrap (((List.map Sy.str.enc (up d at0).1).length:Int)-1)) fun (y3:ByteArray)=>T.cQ [T.v (.string y3),T.v (.bool true)]=Sh.enc AAP (fV d id)):=by
  intro at0 he
  rw[he]
  unfold WA
  refine A2G (fun h=>?_) (fun h=>?_)
  ·rw[h];rfl
  ·rw[AYQ (ABF d at0) (A81 h),if_pos h];rfl
 unfold G0
 simp only[rP,kS,AL,sU,xD,mL,F2,BC,Z4,AIP,VU]
 cases hn:cJ d id with
 | some x=>simp only[u5,uZ,Bool.not_true,fS];exact top id (by simp[fV,hn])
 | none =>
  simp only[u5,uZ,Bool.not_false,eO]
  cases hp:partOf d id with
  | some p=>simp only[u5,eO];exact top (AP8 p) (by simp[fV,hn,hp])
  | none =>
   simp only[uZ,fS]
   refine aD (s:=[(true,aR),(false,.bool)]) (y:=found noPack (lK d id)) KO ?_
   cases hk:lK d id with
   | none=>simp only[u5,uZ,fS];simp[fV,hn,hp,hk,Sh.enc,Sh.bK,aC,Sy.enc,hdT]
   | some k =>
    simp only[u5,uZ,eO]
    rcases Option.eq_none_or_eq_some (cJ d k.2.1) with hm|⟨m,hm⟩
    ·simp only[hm,u5,uZ,Bool.not_false,eO];simp[fV,hn,hp,hk,hm,Sh.enc,Sh.bK,aC,Sy.enc,hdT]
    ·simp only[hm,u5,uZ,Bool.not_true,fS]
     by_cases hx:m.2.1=1
     ·refine IP hx ?_
      simp[fV,hn,hp,hk,hm,hx,Sh.enc,Sh.bK,aC,Sy.enc,hdT]
     ·refine Q1 hx ?_
      simp[fV,hn,hp,hk,hm,hx,Sh.enc,Sh.bK,aC,Sy.enc,hdT]
end Go.Pv
namespace Go.Pv
open Go Go.Proofs
def okI (d:aF):Bool:=d.2.1.all (fun n=>DF n.1)&&d.2.2.1.all (fun p=>DF p.1&&DF (e9 p))&&d.2.2.2.1.all (fun s=>DF s.1&&(DF s.2.1&&DF s.2.2.1))&&d.2.2.2.2.1.all (fun k=>DF k.1)
def okU (d:aF):Bool:=H7 d 1000&&(okD d&&(okK d&&okI d))
def rY (d:aF) (t:T):Option T:=match okU d with
 | true=>some t
 | false=>none
theorem lI {d:aF} {t r:T} (h:rY d t=some r):okU d=true∧r=t:=by
 unfold rY at h;split at h
 ·rename_i hc
  cases h;exact ⟨hc,rfl⟩
 ·cases h
theorem lJ {d:aF} (t:T) (h:okU d=true):rY d t=some t:=by unfold rY;rw[h]
structure UOk (d:aF):Prop where
 H7:H7 d 1000=true
 n:d.2.1.length≤1000
 p:d.2.2.1.length≤1000
 s:d.2.2.2.1.length≤1000
 k:d.2.2.2.2.1.length≤1000
 r:d.2.2.2.2.2.length≤1000
 kl:∀ k∈d.2.2.2.2.1,(dA k).length≤1000∧(cF k).length≤1000
 okD:okD d=true
 okK:okK d=true
 nI:∀ n∈d.2.1,DF n.1=true
 pI:∀ p∈d.2.2.1,DF p.1=true∧DF (e9 p)=true
 sI:∀ s∈d.2.2.2.1,DF s.1=true∧DF s.2.1=true∧DF s.2.2.1=true
 kI:∀ k∈d.2.2.2.2.1,DF k.1=true
theorem rX {d:aF} (h:okU d=true):UOk d:=by
 simp only[okU,okI,Bool.and_eq_true,List.all_eq_true] at h
 obtain ⟨h1,h2,h3,⟨⟨i1,i2⟩,i3⟩,i4⟩:=h
 have h0:=h1
 simp only[H7,Bool.and_eq_true,List.all_eq_true,decide_eq_true_eq] at h1
 obtain ⟨⟨⟨⟨⟨a,b⟩,c⟩,e⟩,f⟩,g⟩:=h1
 exact ⟨h0,by omega,by omega,by omega,by omega,by omega,fun k hk=>by have:=g k hk;unfold dA cF;omega,h2,h3,i1,i2,fun s hs=>i3 s hs,i4⟩
theorem AU4 (a b:ByteArray):(!(eP b a||decide (b=a)))=eP a b:=by
 rw[Bool.eq_iff_iff]
 refine ⟨fun h=>(x6 a b).2 (APA h),fun h=>?_⟩
 have h1:=(x6 a b).1 h
 have h2:eP b a=false:=by
  rw[Bool.eq_false_iff]
  intro h3
  exact List.lt_irrefl _ (List.lt_trans h1 ((x6 b a).1 h3))
 have h3:¬ b=a:=fun e=>by rw[e] at h1;exact List.lt_irrefl _ h1
 rw[h2,decide_eq_false h3];rfl
noncomputable def WL:Env:=Env.of []
def AOS:FuncId→Hint:=fun f=>match f == 77 with|true=>⟨fun r=>match r == 2 with|true=>.inv [.val 3 false (.int .i64)]|false=>.none,fun _ _=>none,fun _=>none⟩|false=>aT
theorem AQW:aE Tryz.prog WL:=aE.nil _
def W8 (a0:List ByteArray) (R:T→Prop):Prop :=
 a7 (Int×PUnit)
 (fun (X0:Int×PUnit→Prop) (s1:Int×PUnit) =>
 aB (decide (s1.1<(↑(List.map Sy.str.enc a0).length:Int)))
 (aO Sy.str (List.map Sy.str.enc a0) (IntKind.i64.wrap (s1.1-1))
 fun (y2:ByteArray) =>
 aO Sy.str (List.map Sy.str.enc a0) s1.1 fun (y3:ByteArray) =>
 aB (!eP y2 y3) (R (T.v (.bool false)))
 (X0 (IntKind.i64.wrap (s1.1+1),())))
 (R (T.v (.bool true))))
 (1,())
theorem AKH ( a0 R):bA aW Tryz.prog WL AOS 8 77 [aC false Sy.str.li a0] R=W8 a0 R:=by kernel_rfl
abbrev L0:Sh:=[(false,Sy.str.li)]
def R5 (l:List ByteArray):Option T:=lS l (T.v (.bool (lU l)))
noncomputable def iN:List T→Option (T):=gS L0 R5
theorem pD {a0}:iN [T.sl false (List.map Sy.str.enc a0)]=R5 (a0):=a6 (s:=L0) rfl (a0) rfl
theorem AZJ (h:∀ a0 r,R5 (a0)=some r→bY L0 (a0)→W8 a0 (fun y=>y=r)):aK Tryz.prog 77 iN :=
 aP (E:=WL) (Hs:=AOS) AQW aU aV (aL rfl) 8 ⟨_,_,Tryz.func77,rfl⟩ rfl fun x r h1 h2=>by
  let a0:=x
  rw[show Sh.bK L0 (a0)=[aC false Sy.str.li a0] from rfl,AKH]
  exact h a0 r h1 h2
theorem AFL:aK Tryz.prog 77 iN:=AZJ fun l r h hb=>by
 obtain ⟨hl,rfl⟩:=fY h
 clear h hb
 unfold W8
 refine aY l.length (fun k s=>s=(((k+1:Nat):Int),())∧lU l=lU (l.drop k)) ⟨rfl,by rw[List.drop_zero]⟩ ?_
 rintro X k s hk ⟨rfl,he⟩ hX
 dsimp only
 have hw:IntKind.i64.wrap (((k+1:Nat):Int)+1)=((k+1+1:Nat):Int):=aQ _ (by omega) (by omega)
 have hw1:IntKind.i64.wrap (((k+1:Nat):Int)-1)=((k:Nat):Int):=by rw[aQ _ (by omega) (by omega)];omega
 refine bJ (fun hlt=>?_) fun hge=>?_
 ·rw[List.length_map] at hlt
  have hlt:k+1<l.length:=by omega
  rw[hw1,aS (r:=.str) (show k<l.length by omega),aS (r:=.str) hlt,hw]
  rw[AE5 hlt,AU4] at he
  refine dK (fun h=>cL ?_) fun h=>hX _ (by omega) ⟨rfl,?_⟩
  ·rw[he,h];rfl
  ·rw[he,h];rfl
 ·rw[List.length_map] at hge
  refine cL ?_
  rw[he,AO9 (by omega)]
noncomputable def BI:Env:=Env.of []
def O3:FuncId→Hint:=fun _=>aT
theorem W0:aE Tryz.prog BI:=aE.nil _
def BR (a0:n7) (a1:n7) (R:T→Prop):Prop :=
 aB (!decide (a0.1=a1.1)) (R (T.v (.bool (decide (a0.1<a1.1)))))
 (aB (!decide (a0.2.1=a1.2.1)) (R (T.v (.bool (eP a0.2.1 a1.2.1))))
 (R (T.v (.bool (eP a0.2.2 a1.2.2)))))
theorem SY ( a0 a1 R):bA aW Tryz.prog BI O3 8 78 [aC true b6 a0,aC true b6 a1] R=BR a0 a1 R:=by kernel_rfl
abbrev vR:Sh:=[(true,b6),(true,b6)]
def x8 (x:n7×n7):Option T:=some (T.v (.bool (ltN x.1 x.2)))
noncomputable def lY:List T→Option (T):=gS vR x8
theorem TA {a0 a1}:lY [aC true b6 a0,aC true b6 a1]=x8 (a0,a1):=a6 (s:=vR) rfl (a0,a1) rfl
theorem AH0 (h:∀ a0 a1 r,x8 (a0,a1)=some r→bY vR (a0,a1)→BR a0 a1 (fun y=>y=r)):aK Tryz.prog 78 lY :=
 aP (E:=BI) (Hs:=O3) W0 aU aV (aL rfl) 8 ⟨_,_,Tryz.func78,rfl⟩ rfl fun x r h1 h2=>by
  obtain ⟨a0,a1⟩:=x
  rw[show Sh.bK vR (a0,a1)=[aC true b6 a0,aC true b6 a1] from rfl,SY]
  exact h a0 a1 r h1 h2
theorem AFM:aK Tryz.prog 78 lY:=AH0 fun a b r h hb=>by
 cases h
 unfold BR
 refine gT (fun h=>cL ?_) fun h=>gT (fun h2=>cL ?_) fun h2=>cL ?_
 ·unfold ltN;rw[decide_eq_false h];simp
 ·unfold ltN;rw[decide_eq_true h,decide_eq_false h2];simp[h]
 ·unfold ltN;rw[decide_eq_true h,decide_eq_true h2,h2,show eP b.2.1 b.2.1=false by rw[Bool.eq_false_iff];exact fun h=>List.lt_irrefl _ ((x6 _ _).1 h)];simp[h]
noncomputable def GC:Env:=Env.of []
def TX:FuncId→Hint:=fun f=>match f == 76 with|true=>⟨fun r=>match r == 3 with|true=>.inv [.val 4 false (.int .i64),.box 2 (.pr (.li .str) (.pr (.li .str) (.pr (.li .str) (.li .str)))),.tF 2 0 1 .str,.tF 2 1 1 .str,.tF 2 2 1 .str,.tF 2 3 1 .str]|false=>match r == 7 with|true=>.inv [.val 5 false (.int .i64),.box 2 (.pr (.li .str) (.pr (.li .str) (.pr (.li .str) (.li .str)))),.tF 2 0 1 .str,.tF 2 1 1 .str,.tF 2 2 1 .str,.tF 2 3 1 .str]|false=>match r == 11 with|true=>.inv [.val 6 false (.int .i64),.box 2 (.pr (.li .str) (.pr (.li .str) (.pr (.li .str) (.li .str)))),.tF 2 0 1 .str,.tF 2 1 1 .str,.tF 2 2 1 .str,.tF 2 3 1 .str]|false=>match r == 15 with|true=>.inv [.val 7 false (.int .i64),.box 2 (.pr (.li .str) (.pr (.li .str) (.pr (.li .str) (.li .str)))),.tF 2 0 1 .str,.tF 2 1 1 .str,.tF 2 2 1 .str,.tF 2 3 1 .str]|false=>.none,fun _ _=>none,fun _=>none⟩|false=>aT
theorem ABR:aE Tryz.prog GC:=aE.nil _
def G6 (a0:aF) (R:T→Prop):Prop :=
 bX Sy.str [] fun (y0:List ByteArray) =>
 bX Sy.str [] fun (y1:List ByteArray) =>
 bX Sy.str [] fun (y2:List ByteArray) =>
 bX Sy.str [] fun (y3:List ByteArray) =>
 a7
 (Int ×
 (List ByteArray×List ByteArray×List ByteArray×List ByteArray) ×
 List ByteArray×List ByteArray×List ByteArray×List ByteArray×PUnit)
 (fun
 (X4 :
 Int ×
 (List ByteArray×List ByteArray×List ByteArray×List ByteArray) ×
 List ByteArray×List ByteArray×List ByteArray×List ByteArray×PUnit →
 Prop)
 (s5 :
 Int ×
 (List ByteArray×List ByteArray×List ByteArray×List ByteArray) ×
 List ByteArray×List ByteArray×List ByteArray×List ByteArray×PUnit) =>
 aB (decide (s5.1<(↑(List.map bH.enc a0.2.1).length:Int)))
 (aO bH (List.map bH.enc a0.2.1) s5.1 fun (y6:gU) =>
 bV
 (decide (((List.map Sy.str.enc s5.2.2.1).length+1)*16≤140737488355328) &&
 decide ((List.map Sy.str.enc s5.2.2.1).length+1≤140737488355328))
 (bX Sy.str [] fun (y7:List ByteArray) =>
 bX Sy.str [] fun (y8:List ByteArray) =>
 bX Sy.str [] fun (y9:List ByteArray) =>
 bX Sy.str [] fun (y10:List ByteArray) =>
 bX Sy.str
 (List.map Sy.str.enc s5.2.2.1++[[T.v (.string y6.1)]])
 fun (y11:List ByteArray) =>
 bX Sy.str (List.map Sy.str.enc s5.2.2.2.1)
 fun (y12:List ByteArray) =>
 bX Sy.str (List.map Sy.str.enc s5.2.2.2.2.1)
 fun (y13:List ByteArray) =>
 bX Sy.str (List.map Sy.str.enc s5.2.2.2.2.2.1)
 fun (y14:List ByteArray) =>
 X4 (IntKind.i64.wrap (s5.1+1),(y7,y8,y9,y10),y11,y12,y13,y14,())))
 (bX Sy.str [] fun (y15:List ByteArray) =>
 bX Sy.str [] fun (y16:List ByteArray) =>
 bX Sy.str [] fun (y17:List ByteArray) =>
 bX Sy.str [] fun (y18:List ByteArray) =>
 bX Sy.str (List.map Sy.str.enc s5.2.2.1) fun (y19:List ByteArray) =>
 bX Sy.str (List.map Sy.str.enc s5.2.2.2.1)
 fun (y20:List ByteArray) =>
 bX Sy.str (List.map Sy.str.enc s5.2.2.2.2.1)
 fun (y21:List ByteArray) =>
 bX Sy.str (List.map Sy.str.enc s5.2.2.2.2.2.1)
 fun (y22:List ByteArray) =>
 a7
 (Int ×
 (List ByteArray×List ByteArray×List ByteArray×List ByteArray) ×
 List ByteArray×List ByteArray×List ByteArray×List ByteArray×PUnit)
 (fun
 (X23 :
 Int ×
 (List ByteArray×List ByteArray×List ByteArray×List ByteArray) ×
 List ByteArray×List ByteArray×List ByteArray×List ByteArray×PUnit →
 Prop)
 (s24 :
 Int ×
 (List ByteArray×List ByteArray×List ByteArray×List ByteArray) ×
 List ByteArray×List ByteArray×List ByteArray×List ByteArray×PUnit) =>
 aB
 (decide (s24.1<(↑(List.map aX.enc a0.2.2.1).length:Int)))
 (aO aX (List.map aX.enc a0.2.2.1) s24.1
 fun (y25:bL) =>
 bV
 (decide
 (((List.map Sy.str.enc s24.2.2.2.1).length+1)*16 ≤
 140737488355328) &&
 decide
 ((List.map Sy.str.enc s24.2.2.2.1).length+1 ≤
 140737488355328))
 (bX Sy.str [] fun (y26:List ByteArray) =>
 bX Sy.str [] fun (y27:List ByteArray) =>
 bX Sy.str [] fun (y28:List ByteArray) =>
 bX Sy.str [] fun (y29:List ByteArray) =>
 bX Sy.str (List.map Sy.str.enc s24.2.2.1)
 fun (y30:List ByteArray) =>
 bX Sy.str
 (List.map Sy.str.enc s24.2.2.2.1 ++
 [[T.v (.string y25.1)]])
 fun (y31:List ByteArray) =>
 bX Sy.str
 (List.map Sy.str.enc s24.2.2.2.2.1)
 fun (y32:List ByteArray) =>
 bX Sy.str
 (List.map Sy.str.enc s24.2.2.2.2.2.1)
 fun (y33:List ByteArray) =>
 X23
 (IntKind.i64.wrap (s24.1+1),(y26,y27,y28,y29),y30,
 y31,y32,y33,())))
 (bX Sy.str [] fun (y34:List ByteArray) =>
 bX Sy.str [] fun (y35:List ByteArray) =>
 bX Sy.str [] fun (y36:List ByteArray) =>
 bX Sy.str [] fun (y37:List ByteArray) =>
 bX Sy.str (List.map Sy.str.enc s24.2.2.1)
 fun (y38:List ByteArray) =>
 bX Sy.str (List.map Sy.str.enc s24.2.2.2.1)
 fun (y39:List ByteArray) =>
 bX Sy.str
 (List.map Sy.str.enc s24.2.2.2.2.1)
 fun (y40:List ByteArray) =>
 bX Sy.str
 (List.map Sy.str.enc s24.2.2.2.2.2.1)
 fun (y41:List ByteArray) =>
 a7
 (Int ×
 (List ByteArray ×
 List ByteArray×List ByteArray×List ByteArray) ×
 List ByteArray ×
 List ByteArray×List ByteArray×List ByteArray×PUnit)
 (fun
 (X42 :
 Int ×
 (List ByteArray ×
 List ByteArray×List ByteArray×List ByteArray) ×
 List ByteArray ×
 List ByteArray ×
 List ByteArray×List ByteArray×PUnit →
 Prop)
 (s43 :
 Int ×
 (List ByteArray ×
 List ByteArray×List ByteArray×List ByteArray) ×
 List ByteArray ×
 List ByteArray ×
 List ByteArray×List ByteArray×PUnit) =>
 aB
 (decide
 (s43.1 <
 (↑(List.map bW.enc a0.2.2.2.1).length :
 Int)))
 (aO bW
 (List.map bW.enc a0.2.2.2.1) s43.1
 fun (y44:o5) =>
 bV
 (decide
 (((List.map Sy.str.enc
 s43.2.2.2.2.1).length +
 1) *
 16 ≤
 140737488355328) &&
 decide
 ((List.map Sy.str.enc
 s43.2.2.2.2.1).length +
 1 ≤
 140737488355328))
 (bX Sy.str [] fun (y45:List ByteArray) =>
 bX Sy.str [] fun (y46:List ByteArray) =>
 bX Sy.str []
 fun (y47:List ByteArray) =>
 bX Sy.str []
 fun (y48:List ByteArray) =>
 bX Sy.str
 (List.map Sy.str.enc s43.2.2.1)
 fun (y49:List ByteArray) =>
 bX Sy.str
 (List.map Sy.str.enc
 s43.2.2.2.1)
 fun (y50:List ByteArray) =>
 bX Sy.str
 (List.map Sy.str.enc
 s43.2.2.2.2.1 ++
 [[T.v (.string y44.1)]])
 fun (y51:List ByteArray) =>
 bX Sy.str
 (List.map Sy.str.enc
 s43.2.2.2.2.2.1)
 fun (y52:List ByteArray) =>
 X42
 (IntKind.i64.wrap (s43.1+1),
 (y45,y46,y47,y48),y49,y50,y51,
 y52,())))
 (bX Sy.str [] fun (y53:List ByteArray) =>
 bX Sy.str [] fun (y54:List ByteArray) =>
 bX Sy.str [] fun (y55:List ByteArray) =>
 bX Sy.str [] fun (y56:List ByteArray) =>
 bX Sy.str
 (List.map Sy.str.enc s43.2.2.1)
 fun (y57:List ByteArray) =>
 bX Sy.str
 (List.map Sy.str.enc s43.2.2.2.1)
 fun (y58:List ByteArray) =>
 bX Sy.str
 (List.map Sy.str.enc
 s43.2.2.2.2.1)
 fun (y59:List ByteArray) =>
 bX Sy.str
 (List.map Sy.str.enc
 s43.2.2.2.2.2.1)
 fun (y60:List ByteArray) =>
 a7
 (Int ×
 (List ByteArray ×
 List ByteArray ×
 List ByteArray×List ByteArray) ×
 List ByteArray ×
 List ByteArray ×
 List ByteArray ×
 List ByteArray×PUnit)
 (fun
 (X61 :
 Int ×
 (List ByteArray ×
 List ByteArray ×
 List ByteArray ×
 List ByteArray) ×
 List ByteArray ×
 List ByteArray ×
 List ByteArray ×
 List ByteArray×PUnit →
 Prop)
 (s62 :
 Int ×
 (List ByteArray ×
 List ByteArray ×
 List ByteArray ×
 List ByteArray) ×
 List ByteArray ×
 List ByteArray ×
 List ByteArray ×
 List ByteArray×PUnit) =>
 aB
 (decide
 (s62.1 <
 (↑(List.map aR.enc
 a0.2.2.2.2.1).length :
 Int)))
 (aO aR
 (List.map aR.enc
 a0.2.2.2.2.1)
 s62.1 fun (y63:cB) =>
 bV
 (decide
 (((List.map Sy.str.enc
 s62.2.2.2.2.2.1).length +
 1) *
 16 ≤
 140737488355328) &&
 decide
 ((List.map Sy.str.enc
 s62.2.2.2.2.2.1).length +
 1 ≤
 140737488355328))
 (bX Sy.str []
 fun (y64:List ByteArray) =>
 bX Sy.str []
 fun (y65:List ByteArray) =>
 bX Sy.str []
 fun (y66:List ByteArray) =>
 bX Sy.str []
 fun
 (y67:List ByteArray) =>
 bX Sy.str
 (List.map Sy.str.enc
 s62.2.2.1)
 fun
 (y68 :
 List ByteArray) =>
 bX Sy.str
 (List.map
 Sy.str.enc
 s62.2.2.2.1)
 fun
 (y69 :
 List ByteArray) =>
 bX Sy.str
 (List.map
 Sy.str.enc
 s62.2.2.2.2.1)
 fun
 (y70 :
 List ByteArray) =>
 bX
 Sy.str
 (List.map
 Sy.str.enc
 s62.2.2.2.2.2.1 ++
 [[T.v
 (Value.string
 y63.1)]])
 fun
 (y71 :
 List
 ByteArray) =>
 X61
 (IntKind.i64.wrap
 (s62.1+1),
 (y64,y65,y66,
 y67),
 y68,y69,y70,
 y71,())))
 (R
 (T.agg
 [T.sl false
 (List.map Sy.str.enc
 s62.2.2.1),
 T.sl false
 (List.map Sy.str.enc
 s62.2.2.2.1),
 T.sl false
 (List.map Sy.str.enc
 s62.2.2.2.2.1),
 T.sl false
 (List.map Sy.str.enc
 s62.2.2.2.2.2.1)])))
 (0,(y53,y54,y55,y56),y57,y58,y59,
 y60,())))
 (0,(y34,y35,y36,y37),y38,y39,y40,y41,())))
 (0,(y15,y16,y17,y18),y19,y20,y21,y22,())))
 (0,(y0,y1,y2,y3),[],[],[],[],())
theorem XK ( a0 R):bA aW Tryz.prog GC TX 8 76 [aC true aM a0] R=G6 a0 R:=by kernel_rfl
abbrev zN:Sh:=[(true,aM)]
abbrev L4:=List ByteArray×List ByteArray×List ByteArray×List ByteArray
def AMY (d:aF):L4:=(ids d.2.1,ids d.2.2.1,ids d.2.2.2.1,ids d.2.2.2.2.1)
def A9D (x:L4):T:=T.agg [T.sl false (List.map Sy.str.enc x.1),T.sl false (List.map Sy.str.enc x.2.1),T.sl false (List.map Sy.str.enc x.2.2.1),T.sl false (List.map Sy.str.enc x.2.2.2)]
def CS (d:aF):Option T:=rY d (A9D (AMY d))
noncomputable def iG:List T→Option (T):=gS zN CS
theorem ZK {a0}:iG [aC true aM a0]=CS (a0):=a6 (s:=zN) rfl (a0) rfl
theorem ANF (h:∀ a0 r,CS (a0)=some r→bY zN (a0)→G6 a0 (fun y=>y=r)):aK Tryz.prog 76 iG :=
 aP (E:=GC) (Hs:=TX) ABR aU aV (aL rfl) 8 ⟨_,_,Tryz.func76,rfl⟩ rfl fun x r h1 h2=>by
  let a0:=x
  rw[show Sh.bK zN (a0)=[aC true aM a0] from rfl,XK]
  exact h a0 r h1 h2
theorem dk {l:List ByteArray} {rows:List (List T)} {K:List ByteArray→Prop} (e:rows=List.map Sy.str.enc l) (h:K l):bX Sy.str rows K:=by
 subst e;rw[dM (r:=.str) rfl];exact h
theorem D9 {α:Type} {l:List (ByteArray×α)} {k:Nat} (h:k<l.length):ids (l.take (k+1))=ids (l.take k)++[l[k].1]:=by
 unfold ids;rw[List.take_succ_eq_append_getElem h,List.map_append];rfl
theorem LR {α:Type} {l:List (ByteArray×α)} {k:Nat}:(ids (l.take k)).length≤k:=by
 unfold ids;rw[List.length_map,List.length_take];omega
theorem QF:aK Tryz.prog 76 iG:=ANF fun d r h hb=>by
 obtain ⟨hu,rfl⟩:=lI h
 have u:=rX hu
 clear h hb
 unfold G6
 refine dk (l:=[]) rfl (dk (l:=[]) rfl (dk (l:=[]) rfl (dk (l:=[]) rfl ?_)))
 refine aY d.2.1.length (fun k s=>s=((k:Int),([],[],[],[]),ids (d.2.1.take k),[],[],[],())) rfl ?_
 rintro X k s hk rfl hX
 dsimp only
 refine bJ (fun hlt=>?_) fun hge=>?_
 ·rw[List.length_map] at hlt
  have hlt:k<d.2.1.length:=by omega
  have hl:=u.n
  have ht:=LR (l:=d.2.1) (k:=k)
  rw[aS (r:=bH) hlt,B3 (by omega)]
  refine dk (l:=[]) rfl (dk (l:=[]) rfl (dk (l:=[]) rfl (dk (l:=[]) rfl ?_)))
  refine dk (l:=ids (d.2.1.take k)++[d.2.1[k].1]) (by rw[List.map_append];rfl) (dk (l:=[]) rfl (dk (l:=[]) rfl (dk (l:=[]) rfl ?_)))
  refine hX _ hlt ?_
  rw[D9 hlt,show IntKind.i64.wrap ((k:Int)+1)=((k+1:Nat):Int) from aQ _ (by omega) (by omega)]
 have:k=d.2.1.length:=by rw[List.length_map] at hge;omega
 subst this
 rw[List.take_length]
 clear hge hX hk X
 refine dk (l:=[]) rfl (dk (l:=[]) rfl (dk (l:=[]) rfl (dk (l:=[]) rfl ?_)))
 refine dk (l:=ids d.2.1) rfl (dk (l:=[]) rfl (dk (l:=[]) rfl (dk (l:=[]) rfl ?_)))
 refine aY d.2.2.1.length (fun k s=>s=((k:Int),([],[],[],[]),ids d.2.1,ids (d.2.2.1.take k),[],[],())) rfl ?_
 rintro X k s hk rfl hX
 dsimp only
 refine bJ (fun hlt=>?_) fun hge=>?_
 ·rw[List.length_map] at hlt
  have hlt:k<d.2.2.1.length:=by omega
  have hl:=u.p
  have ht:=LR (l:=d.2.2.1) (k:=k)
  rw[aS (r:=aX) hlt,B3 (by omega)]
  refine dk (l:=[]) rfl (dk (l:=[]) rfl (dk (l:=[]) rfl (dk (l:=[]) rfl ?_)))
  refine dk (l:=ids d.2.1) rfl (dk (l:=ids (d.2.2.1.take k)++[d.2.2.1[k].1]) (by rw[List.map_append];rfl) (dk (l:=[]) rfl (dk (l:=[]) rfl ?_)))
  refine hX _ hlt ?_
  rw[D9 hlt,show IntKind.i64.wrap ((k:Int)+1)=((k+1:Nat):Int) from aQ _ (by omega) (by omega)]
 have:k=d.2.2.1.length:=by rw[List.length_map] at hge;omega
 subst this
 rw[List.take_length]
 clear hge hX hk X
 refine dk (l:=[]) rfl (dk (l:=[]) rfl (dk (l:=[]) rfl (dk (l:=[]) rfl ?_)))
 refine dk (l:=ids d.2.1) rfl (dk (l:=ids d.2.2.1) rfl (dk (l:=[]) rfl (dk (l:=[]) rfl ?_)))
 refine aY d.2.2.2.1.length (fun k s=>s=((k:Int),([],[],[],[]),ids d.2.1,ids d.2.2.1,ids (d.2.2.2.1.take k),[],())) rfl ?_
 rintro X k s hk rfl hX
 dsimp only
 refine bJ (fun hlt=>?_) fun hge=>?_
 ·rw[List.length_map] at hlt
  have hlt:k<d.2.2.2.1.length:=by omega
  have hl:=u.s
  have ht:=LR (l:=d.2.2.2.1) (k:=k)
  rw[aS (r:=bW) hlt,B3 (by omega)]
  refine dk (l:=[]) rfl (dk (l:=[]) rfl (dk (l:=[]) rfl (dk (l:=[]) rfl ?_)))
  refine dk (l:=ids d.2.1) rfl (dk (l:=ids d.2.2.1) rfl (dk (l:=ids (d.2.2.2.1.take k)++[d.2.2.2.1[k].1]) (by rw[List.map_append];rfl) (dk (l:=[]) rfl ?_)))
  refine hX _ hlt ?_
  rw[D9 hlt,show IntKind.i64.wrap ((k:Int)+1)=((k+1:Nat):Int) from aQ _ (by omega) (by omega)]
 have:k=d.2.2.2.1.length:=by rw[List.length_map] at hge;omega
 subst this
 rw[List.take_length]
 clear hge hX hk X
 refine dk (l:=[]) rfl (dk (l:=[]) rfl (dk (l:=[]) rfl (dk (l:=[]) rfl ?_)))
 refine dk (l:=ids d.2.1) rfl (dk (l:=ids d.2.2.1) rfl (dk (l:=ids d.2.2.2.1) rfl (dk (l:=[]) rfl ?_)))
 refine aY d.2.2.2.2.1.length (fun k s=>s=((k:Int),([],[],[],[]),ids d.2.1,ids d.2.2.1,ids d.2.2.2.1,ids (d.2.2.2.2.1.take k),())) rfl ?_
 rintro X k s hk rfl hX
 dsimp only
 refine bJ (fun hlt=>?_) fun hge=>?_
 ·rw[List.length_map] at hlt
  have hlt:k<d.2.2.2.2.1.length:=by omega
  have hl:=u.k
  have ht:=LR (l:=d.2.2.2.2.1) (k:=k)
  rw[aS (r:=aR) hlt,B3 (by omega)]
  refine dk (l:=[]) rfl (dk (l:=[]) rfl (dk (l:=[]) rfl (dk (l:=[]) rfl ?_)))
  refine dk (l:=ids d.2.1) rfl (dk (l:=ids d.2.2.1) rfl (dk (l:=ids d.2.2.2.1) rfl (dk (l:=ids (d.2.2.2.2.1.take k)++[d.2.2.2.2.1[k].1]) (by rw[List.map_append];rfl) ?_)))
  refine hX _ hlt ?_
  rw[D9 hlt,show IntKind.i64.wrap ((k:Int)+1)=((k+1:Nat):Int) from aQ _ (by omega) (by omega)]
 have:k=d.2.2.2.2.1.length:=by rw[List.length_map] at hge;omega
 subst this
 rw[List.take_length]
 clear hge hX hk X
 rfl
abbrev q4:Sh:=[(true,Sy.str.li.pr (Sy.str.li.pr (Sy.str.li.pr Sy.str.li)))]
theorem D3 {d:aF} (h:okU d=true):iG [aC true aM d]=some (Sh.enc q4 (AMY d)):=(ZK ..).trans (lJ _ h)
theorem tZ {m l:List ByteArray} (hl:l.length≤140737488355328) {R7 Exit:Prop} (h7:l.any (mG m)=true→R7) (hx:l.any (mG m)=false→Exit) :
 a7 (Int×PUnit) (fun (X:Int×PUnit→Prop) (s:Int×PUnit)=>aB (decide (s.1<((List.map Sy.str.enc l).length:Int))) (aO Sy.str (List.map Sy.str.enc l) s.1 fun y=>aG [(false,Sy.bool)] (eH [T.sl false (List.map Sy.str.enc m),T.v (.string y)]) fun (b:Bool)=>aB b R7 (X (IntKind.i64.wrap (s.1+1),()))) Exit) (0,()):=by
 refine fG (r:=.str) (fun y=>if mG m y=true then 1 else 0) hl (fun X s y hy hok hbad=>?_) fun h0=>hx ?_
 ·refine aD (s:=xU) (y:=mG m y) (CB ..) ?_
  refine tA (fun h=>h7 (List.any_eq_true.2 ⟨y,hy,h⟩)) fun h=>hok (by rw[h];rfl)
 ·rw[Bool.eq_false_iff]
  intro h
  obtain ⟨y,hy,h⟩:=List.any_eq_true.1 h
  have this:(if mG m y=true then (1:Int) else 0)=0:=kZ h0 y hy
  rw[if_pos h] at this
  cases this
noncomputable def MT:Env:=Env.of [(74,.pure dD),(76,.pure iG),(77,.pure iN),(78,.pure lY),(14,.pure eH)]
def ADU:FuncId→Hint:=fun f=>match f == 31 with|true=>⟨fun r=>match r == 7 with|true=>.J5 5|false=>match r == 12 with|true=>.inv [.val 5 false (.int .i64)]|false=>match r == 17 with|true=>.J5 5|false=>match r == 20 with|true=>.J5 5|false=>match r == 23 with|true=>.inv [.val 8 false (.int .i64)]|false=>.none,fun _ _=>none,fun _=>none⟩|false=>aT
theorem AJI:aE Tryz.prog MT:=aE.cons (x:=.pure dD) rO (aE.cons (x:=.pure iG) QF (aE.cons (x:=.pure iN) AFL (aE.cons (x:=.pure lY) AFM (aE.cons (x:=.pure eH) QD (aE.nil _)))))
def N2 (a0:aF) (R:T→Prop):Prop :=
 aG [(false,Sy.bool)] (dD [T.v (.string a0.1)]) fun (y0:Bool) =>
 aB (!y0) (R (T.v (.int .i64 6)))
 (aB (decide (64<(↑(List.map bH.enc a0.2.1).length:Int)))
 (R (T.v (.int .i64 4)))
 (aB (decide (256<(↑(List.map aX.enc a0.2.2.1).length:Int)))
 (R (T.v (.int .i64 4)))
 (aB (decide (256<(↑(List.map bW.enc a0.2.2.2.1).length:Int)))
 (R (T.v (.int .i64 4)))
 (aB (decide (64<(↑(List.map aR.enc a0.2.2.2.2.1).length:Int)))
 (R (T.v (.int .i64 4)))
 (aB (decide (256<(↑(List.map b6.enc a0.2.2.2.2.2).length:Int)))
 (R (T.v (.int .i64 4)))
 (aG [(true,Sy.str.li.pr (Sy.str.li.pr (Sy.str.li.pr Sy.str.li)))]
 (iG [aC true aM a0])
 fun (y1:List ByteArray×List ByteArray×List ByteArray×List ByteArray) =>
 aG [(false,Sy.bool)]
 (iN [T.sl false (List.map Sy.str.enc y1.1)]) fun (y2:Bool) =>
 aB (!y2) (R (T.v (.int .i64 11)))
 (aG [(false,Sy.bool)]
 (iN [T.sl false (List.map Sy.str.enc y1.2.1)]) fun (y3:Bool) =>
 aB (!y3) (R (T.v (.int .i64 11)))
 (aG [(false,Sy.bool)]
 (iN [T.sl false (List.map Sy.str.enc y1.2.2.1)])
 fun (y4:Bool) =>
 aB (!y4) (R (T.v (.int .i64 11)))
 (aG [(false,Sy.bool)]
 (iN [T.sl false (List.map Sy.str.enc y1.2.2.2)])
 fun (y5:Bool) =>
 aB (!y5) (R (T.v (.int .i64 11)))
 (a7 (Int×PUnit)
 (fun (X6:Int×PUnit→Prop) (s7:Int×PUnit) =>
 aB
 (decide
 (s7.1<(↑(List.map b6.enc a0.2.2.2.2.2).length:Int)))
 (aO b6 (List.map b6.enc a0.2.2.2.2.2)
 (IntKind.i64.wrap (s7.1-1)) fun (y8:n7) =>
 aO b6 (List.map b6.enc a0.2.2.2.2.2) s7.1
 fun (y9:n7) =>
 aG [(false,Sy.bool)]
 (lY
 [aC true b6 y8,aC true b6 y9])
 fun (y10:Bool) =>
 aB (!y10) (R (T.v (.int .i64 11)))
 (X6 (IntKind.i64.wrap (s7.1+1),())))
 (a7 (Int×PUnit)
 (fun (X11:Int×PUnit→Prop) (s12:Int×PUnit) =>
 aB
 (decide (s12.1<(↑(List.map Sy.str.enc y1.2.1).length:Int)))
 (aO Sy.str (List.map Sy.str.enc y1.2.1) s12.1
 fun (y13:ByteArray) =>
 aG [(false,Sy.bool)]
 (eH
 [T.sl false (List.map Sy.str.enc y1.1),
 T.v (.string y13)])
 fun (y14:Bool) =>
 aB y14 (R (T.v (.int .i64 7)))
 (X11 (IntKind.i64.wrap (s12.1+1),())))
 (a7 (Int×PUnit)
 (fun (X15:Int×PUnit→Prop) (s16:Int×PUnit) =>
 aB
 (decide
 (s16.1 <
 (↑(List.map Sy.str.enc y1.2.2.1).length:Int)))
 (aO Sy.str (List.map Sy.str.enc y1.2.2.1)
 s16.1 fun (y17:ByteArray) =>
 aG [(false,Sy.bool)]
 (eH
 [T.sl false (List.map Sy.str.enc y1.1),
 T.v (.string y17)])
 fun (y18:Bool) =>
 aB y18 (R (T.v (.int .i64 7)))
 (X15 (IntKind.i64.wrap (s16.1+1),())))
 (a7 (Int×PUnit)
 (fun (X19:Int×PUnit→Prop) (s20:Int×PUnit) =>
 aB
 (decide
 (s20.1 <
 (↑(List.map Sy.str.enc y1.2.2.1).length:Int)))
 (aO Sy.str
 (List.map Sy.str.enc y1.2.2.1) s20.1
 fun (y21:ByteArray) =>
 aG [(false,Sy.bool)]
 (eH
 [T.sl false (List.map Sy.str.enc y1.2.1),
 T.v (.string y21)])
 fun (y22:Bool) =>
 aB y22
 (R (T.v (.int .i64 7)))
 (X19 (IntKind.i64.wrap (s20.1+1),())))
 (a7 (Int×PUnit)
 (fun (X23:Int×PUnit→Prop) (s24:Int×PUnit) =>
 aB
 (decide
 (s24.1 <
 (↑(List.map Sy.str.enc y1.2.2.2).length :
 Int)))
 (aO Sy.str
 (List.map Sy.str.enc y1.2.2.2) s24.1
 fun (y25:ByteArray) =>
 aG [(false,Sy.bool)]
 (eH
 [T.sl false
 (List.map Sy.str.enc y1.1),
 T.v (.string y25)])
 fun (y26:Bool) =>
 aB y26
 (R (T.v (.int .i64 7)))
 (X23 (IntKind.i64.wrap (s24.1+1),())))
 (a7 (Int×PUnit)
 (fun (X27:Int×PUnit→Prop) (s28:Int×PUnit) =>
 aB
 (decide
 (s28.1 <
 (↑(List.map Sy.str.enc
 y1.2.2.2).length :
 Int)))
 (aO Sy.str
 (List.map Sy.str.enc y1.2.2.2) s28.1
 fun (y29:ByteArray) =>
 aG [(false,Sy.bool)]
 (eH
 [T.sl false
 (List.map Sy.str.enc y1.2.1),
 T.v (.string y29)])
 fun (y30:Bool) =>
 aB y30
 (R
 (T.v (.int .i64 7)))
 (X27 (IntKind.i64.wrap (s28.1+1),())))
 (a7 (Int×PUnit)
 (fun (X31:Int×PUnit→Prop)
 (s32:Int×PUnit) =>
 aB
 (decide
 (s32.1 <
 (↑(List.map Sy.str.enc
 y1.2.2.2).length :
 Int)))
 (aO Sy.str
 (List.map Sy.str.enc y1.2.2.2)
 s32.1 fun (y33:ByteArray) =>
 aG [(false,Sy.bool)]
 (eH
 [T.sl false
 (List.map Sy.str.enc
 y1.2.2.1),
 T.v (.string y33)])
 fun (y34:Bool) =>
 aB y34
 (R
 (T.v
 (Value.int IntKind.i64 7)))
 (X31
 (IntKind.i64.wrap (s32.1+1),
 ())))
 (R
 (T.v
 (Value.int IntKind.i64 0))))
 (0,())))
 (0,())))
 (0,())))
 (0,())))
 (0,())))
 (0,())))
 (1,())))))))))))
theorem ACL ( a0 R):bA aW Tryz.prog MT ADU 8 31 [aC true aM a0] R=N2 a0 R:=by kernel_rfl
abbrev E4:Sh:=[(true,aM)]
def JC (d:aF):Option T:=rY d (T.v (Value.int .i64 (if isName d.1=false then 6 else fA d)))
noncomputable def tP:List T→Option (T):=gS E4 JC
theorem AF9 {a0}:tP [aC true aM a0]=JC (a0):=a6 (s:=E4) rfl (a0) rfl
theorem ATT (h:∀ a0 r,JC (a0)=some r→bY E4 (a0)→N2 a0 (fun y=>y=r)):aK Tryz.prog 31 tP :=
 aP (E:=MT) (Hs:=ADU) AJI aU aV (aL rfl) 8 ⟨_,_,Tryz.func31,rfl⟩ rfl fun x r h1 h2=>by
  let a0:=x
  rw[show Sh.bK E4 (a0)=[aC true aM a0] from rfl,ACL]
  exact h a0 r h1 h2
theorem B5 {d:aF} {m l:List ByteArray} (hc:(m=ids d.2.1∧l=ids d.2.2.1)∨(m=ids d.2.1∧l=ids d.2.2.2.1)∨(m=ids d.2.2.1∧l=ids d.2.2.2.1)∨(m=ids d.2.1∧l=ids d.2.2.2.2.1)∨(m=ids d.2.2.1∧l=ids d.2.2.2.2.1)∨(m=ids d.2.2.2.1∧l=ids d.2.2.2.2.1)) (h:l.any (mG m)=true):H0 d=true:=by
 obtain ⟨x,hx,hm⟩:=List.any_eq_true.1 h
 simp only[H0,AXG,Bool.or_eq_true,List.any_eq_true]
 rcases hc with ⟨rfl,rfl⟩|⟨rfl,rfl⟩|⟨rfl,rfl⟩|⟨rfl,rfl⟩|⟨rfl,rfl⟩|⟨rfl,rfl⟩
 ·exact .inl (.inl ⟨x,hx,hm⟩)
 ·exact .inl (.inr ⟨x,hx,.inl hm⟩)
 ·exact .inl (.inr ⟨x,hx,.inr hm⟩)
 ·exact .inr ⟨x,hx,.inl (.inl hm)⟩
 ·exact .inr ⟨x,hx,.inl (.inr hm)⟩
 ·exact .inr ⟨x,hx,.inr hm⟩
theorem ASI:aK Tryz.prog 31 tP:=ATT fun d r h hb=>by
 obtain ⟨hu,rfl⟩:=lI h
 have u:=rX hu
 have un:=u.n
 have up:=u.p
 have us:=u.s
 have uk:=u.k
 have ur:=u.r
 clear h hb
 have is0:∀ {n:Int},(if isName d.1=false then 6 else fA d)=n→T.v (.int .i64 n)=T.v (.int .i64 (if isName d.1=false then 6 else fA d)):=fun h=>by rw[h]
 unfold N2
 refine aD (s:=xU) (y:=isName d.1) mO ?_
 refine dK (fun h=>is0 (by rw[if_pos h])) fun hn=>?_
 have is:∀ {n:Int},fA d=n→T.v (.int .i64 n)=T.v (.int .i64 (if isName d.1=false then 6 else fA d)):=fun h=>is0 (by rw[if_neg (by rw[show isName d.1=true from hn];exact Bool.noConfusion)];exact h)
 clear is0
 have long:eK d=true→fA d=4:=fun h=>by unfold fA;rw[if_pos h]
 refine bJ (fun h=>is (long (by rw[List.length_map] at h;simp only[eK,Bool.or_eq_true,decide_eq_true_eq];omega))) fun l1=>?_
 refine bJ (fun h=>is (long (by rw[List.length_map] at h;simp only[eK,Bool.or_eq_true,decide_eq_true_eq];omega))) fun l2=>?_
 refine bJ (fun h=>is (long (by rw[List.length_map] at h;simp only[eK,Bool.or_eq_true,decide_eq_true_eq];omega))) fun l3=>?_
 refine bJ (fun h=>is (long (by rw[List.length_map] at h;simp only[eK,Bool.or_eq_true,decide_eq_true_eq];omega))) fun l4=>?_
 refine bJ (fun h=>is (long (by rw[List.length_map] at h;simp only[eK,Bool.or_eq_true,decide_eq_true_eq];omega))) fun l5=>?_
 rw[List.length_map] at l1 l2 l3 l4 l5
 have notLong:eK d=false:=by simp only[eK,Bool.or_eq_false_iff,decide_eq_false_iff_not];omega
 have b11:j5 d=false→T.v (.int .i64 11)=T.v (.int .i64 (if isName d.1=false then 6 else fA d)):=fun h=>is (by unfold fA;rw[notLong,if_neg (by simp),if_pos h])
 refine aD (s:=q4) (D3 hu) ?_
 have il:∀ {α:Type} {l:List (ByteArray×α)},l.length≤1000→(ids l).length≤140737488355328:=fun h=>by unfold ids;rw[List.length_map];omega
 refine aD (s:=xU) (y:=lU (ids d.2.1)) ((pD ..).trans (dX _ (il un))) ?_
 refine dK (fun h=>b11 (by unfold j5;rw[h];rfl)) fun a1=>?_
 refine aD (s:=xU) (y:=lU (ids d.2.2.1)) ((pD ..).trans (dX _ (il up))) ?_
 refine dK (fun h=>b11 (by unfold j5;rw[h];simp)) fun a2=>?_
 refine aD (s:=xU) (y:=lU (ids d.2.2.2.1)) ((pD ..).trans (dX _ (il us))) ?_
 refine dK (fun h=>b11 (by unfold j5;rw[h];simp)) fun a3=>?_
 refine aD (s:=xU) (y:=lU (ids d.2.2.2.2.1)) ((pD ..).trans (dX _ (il uk))) ?_
 refine dK (fun h=>b11 (by unfold j5;rw[h];simp)) fun a4=>?_
 refine aY d.2.2.2.2.2.length (fun k s=>s=(((k+1:Nat):Int),())∧YT d.2.2.2.2.2=YT (d.2.2.2.2.2.drop k)) ⟨rfl,by rw[List.drop_zero]⟩ ?_
 rintro X k s hk ⟨rfl,he⟩ hX
 dsimp only
 have hw:IntKind.i64.wrap (((k+1:Nat):Int)+1)=((k+1+1:Nat):Int):=aQ _ (by omega) (by omega)
 have hw1:IntKind.i64.wrap (((k+1:Nat):Int)-1)=((k:Nat):Int):=by rw[aQ _ (by omega) (by omega)];omega
 refine bJ (fun hlt=>?_) fun hge=>?_
 ·have hlt:k+1<d.2.2.2.2.2.length:=by rw[List.length_map] at hlt;omega
  rw[hw1,aS (r:=b6) (show k<d.2.2.2.2.2.length by omega),aS (r:=b6) hlt,hw]
  rw[UM hlt] at he
  refine aD (s:=xU) (y:=ltN d.2.2.2.2.2[k] d.2.2.2.2.2[k+1]) (TA ..) ?_
  refine dK (fun h=>b11 ?_) fun h=>hX _ (by omega) ⟨rfl,?_⟩
  ·unfold j5;rw[he,h];simp
  ·rw[he,h];rfl
 rw[List.length_map] at hge
 rw[AE3 (by omega)] at he
 clear hX hk hw hw1 hge
 have io:¬ j5 d=false:=by unfold j5;rw[a1,a2,a3,a4,he];decide
 have b7:H0 d=true→T.v (.int .i64 7)=T.v (.int .i64 (if isName d.1=false then 6 else fA d)):=fun h=>is (by unfold fA;rw[notLong,if_neg (by simp),if_neg io,if_pos h])
 refine tZ (m:=ids d.2.1) (l:=ids d.2.2.1) (il up) (fun h=>b7 (B5 (.inl ⟨rfl,rfl⟩) h)) fun c1=>?_
 refine tZ (m:=ids d.2.1) (l:=ids d.2.2.2.1) (il us) (fun h=>b7 (B5 (.inr (.inl ⟨rfl,rfl⟩)) h)) fun c2=>?_
 refine tZ (m:=ids d.2.2.1) (l:=ids d.2.2.2.1) (il us) (fun h=>b7 (B5 (.inr (.inr (.inl ⟨rfl,rfl⟩))) h)) fun c3=>?_
 refine tZ (m:=ids d.2.1) (l:=ids d.2.2.2.2.1) (il uk) (fun h=>b7 (B5 (.inr (.inr (.inr (.inl ⟨rfl,rfl⟩)))) h)) fun c4=>?_
 refine tZ (m:=ids d.2.2.1) (l:=ids d.2.2.2.2.1) (il uk) (fun h=>b7 (B5 (.inr (.inr (.inr (.inr (.inl ⟨rfl,rfl⟩))))) h)) fun c5=>?_
 refine tZ (m:=ids d.2.2.2.1) (l:=ids d.2.2.2.2.1) (il uk) (fun h=>b7 (B5 (.inr (.inr (.inr (.inr (.inr ⟨rfl,rfl⟩))))) h)) fun c6=>is ?_
 have na:∀ {l:List ByteArray} {p:ByteArray→Bool} {x:ByteArray},l.any p=false→x∈l→p x=false:=fun h hx=>by
  rw[Bool.eq_false_iff] at h ⊢
  exact fun h2=>h (List.any_eq_true.2 ⟨_,hx,h2⟩)
 have nd:¬ H0 d=true:=by
  intro h
  simp only[H0,AXG,Bool.or_eq_true,List.any_eq_true] at h
  rcases h with (⟨x,hx,h⟩|⟨x,hx,h|h⟩)|⟨x,hx,(h|h)|h⟩
  ·rw[na c1 hx] at h;cases h
  ·rw[na c2 hx] at h;cases h
  ·rw[na c3 hx] at h;cases h
  ·rw[na c4 hx] at h;cases h
  ·rw[na c5 hx] at h;cases h
  ·rw[na c6 hx] at h;cases h
 unfold fA;rw[notLong,if_neg (by simp),if_neg io,if_neg nd]
noncomputable def GI:Env:=Env.of [(79,.pure dF),(41,.pure cX),(80,.pure D7),(81,.pure oS)]
def T2:FuncId→Hint:=fun f=>match f == 32 with|true=>⟨fun r=>match r == 2 with|true=>.inv [.val 3 false (.int .i64)]|false=>match r == 15 with|true=>.inv [.val 7 false (.int .i64)]|false=>match r == 21 with|true=>.inv [.val 10 false (.int .i64)]|false=>.none,fun _ _=>none,fun _=>none⟩|false=>aT
theorem ABW:aE Tryz.prog GI:=aE.cons (x:=.pure dF) yQ (aE.cons (x:=.pure cX) oK (aE.cons (x:=.pure D7) AX2 (aE.cons (x:=.pure oS) AL2 (aE.nil _))))
def HB (a0:aF) (R:T→Prop):Prop :=
 a7 (Int×PUnit)
 (fun (X0:Int×PUnit→Prop) (s1:Int×PUnit) =>
 aB (decide (s1.1<(↑(List.map bH.enc a0.2.1).length:Int)))
 (aO bH (List.map bH.enc a0.2.1) s1.1 fun (y2:gU) =>
 aG [(true,bH),(false,Sy.bool)]
 (cX [aC true aM a0,T.v (.string y2.2.2)])
 fun (y3:gU×Bool) =>
 aG [(false,Sy.bool)] (dF [T.v (.string y2.1)]) fun (y4:Bool) =>
 aB (!y4) (R (T.v (.int .i64 6)))
 (aB (!decide (y2.2.1=1))
 (aB (!decide (y2.2.1=2)) (R (T.v (.int .i64 10)))
 (aB (decide (y2.2.1=1))
 (aB (!decide (y2.2.2 = { data:=#[] })) (R (T.v (.int .i64 2)))
 (aB (decide (y2.2.1=2))
 (aB (!y3.2) (R (T.v (.int .i64 8)))
 (X0 (IntKind.i64.wrap (s1.1+1),())))
 (X0 (IntKind.i64.wrap (s1.1+1),()))))
 (aB (decide (y2.2.1=2))
 (aB (!y3.2) (R (T.v (.int .i64 8)))
 (X0 (IntKind.i64.wrap (s1.1+1),())))
 (X0 (IntKind.i64.wrap (s1.1+1),())))))
 (aB (decide (y2.2.1=1))
 (aB (!decide (y2.2.2 = { data:=#[] })) (R (T.v (.int .i64 2)))
 (aB (decide (y2.2.1=2))
 (aB (!y3.2) (R (T.v (.int .i64 8)))
 (X0 (IntKind.i64.wrap (s1.1+1),())))
 (X0 (IntKind.i64.wrap (s1.1+1),()))))
 (aB (decide (y2.2.1=2))
 (aB (!y3.2) (R (T.v (.int .i64 8)))
 (X0 (IntKind.i64.wrap (s1.1+1),())))
 (X0 (IntKind.i64.wrap (s1.1+1),()))))))
 (a7 (Int×PUnit)
 (fun (X5:Int×PUnit→Prop) (s6:Int×PUnit) =>
 aB (decide (s6.1<(↑(List.map bH.enc a0.2.1).length:Int)))
 (aO bH (List.map bH.enc a0.2.1) s6.1 fun (y7:gU) =>
 aG [(false,Sy.str.li),(false,Sy.bool)]
 (D7 [aC true aM a0,T.v (.string y7.1)])
 fun (y8:List ByteArray×Bool) =>
 aB (!y8.2) (R (T.v (.int .i64 20)))
 (X5 (IntKind.i64.wrap (s6.1+1),())))
 (a7 (Int×PUnit)
 (fun (X9:Int×PUnit→Prop) (s10:Int×PUnit) =>
 aB (decide (s10.1<(↑(List.map bH.enc a0.2.1).length:Int)))
 (aO bH (List.map bH.enc a0.2.1) s10.1 fun (y11:gU) =>
 aG [(false,Sy.str.li)]
 (oS [aC true aM a0,T.v (.string y11.1)])
 fun (y12:List ByteArray) =>
 aB (decide (8<(↑(List.map Sy.str.enc y12).length:Int)))
 (R (T.v (.int .i64 13))) (X9 (IntKind.i64.wrap (s10.1+1),())))
 (R (T.v (.int .i64 0))))
 (0,())))
 (0,())))
 (0,())
theorem XQ ( a0 R):bA aW Tryz.prog GI T2 8 32 [aC true aM a0] R=HB a0 R:=by kernel_rfl
abbrev zS:Sh:=[(true,aM)]
def CX (d:aF):Option T:=rY d (T.v (Value.int .i64 (eD d)))
noncomputable def oP:List T→Option (T):=gS zS CX
theorem ZO {a0}:oP [aC true aM a0]=CX (a0):=a6 (s:=zS) rfl (a0) rfl
theorem ANK (h:∀ a0 r,CX (a0)=some r→bY zS (a0)→HB a0 (fun y=>y=r)):aK Tryz.prog 32 oP :=
 aP (E:=GI) (Hs:=T2) ABW aU aV (aL rfl) 8 ⟨_,_,Tryz.func32,rfl⟩ rfl fun x r h1 h2=>by
  let a0:=x
  rw[show Sh.bK zS (a0)=[aC true aM a0] from rfl,XQ]
  exact h a0 r h1 h2
theorem xQ {d:aF} {id:ByteArray} {K:gU×Bool→Prop} (h:K (found AM7 (cJ d id))):aG [(true,bH),(false,Sy.bool)] (cX [aC true aM d,T.v (.string id)]) K:=aD (s:=[(true,bH),(false,.bool)]) (rP ..) h
theorem nC {s:ByteArray} {K:Bool→Prop} (h:DF s=true) (hk:K (gP s)):aG [(false,Sy.bool)] (dF [T.v (.string s)]) K:=aD (s:=xU) (QZ h) hk
theorem ALZ:aK Tryz.prog 32 oP:=ANK fun d r h hb=>by
 obtain ⟨hu,rfl⟩:=lI h
 have u:=rX hu
 have un:=u.n
 clear h hb
 have is:∀ {n:Int},eD d=n→T.v (.int .i64 n)=T.v (.int .i64 (eD d)):=fun h=>by rw[h]
 unfold HB
 refine fG (r:=bH) (nF d) (by omega) (fun X s y hy hok hbad=>?_) fun h0=>?_
 ·have bad:∀ {n:Int},n≠0→nF d y=n→T.v (.int .i64 n)=T.v (.int .i64 (eD d)):=fun hn h=>is (by
   have:=hbad (by rw[h];exact hn)
   unfold eD
   rw[if_neg (by rw[this,h];exact hn),this,h])
  refine xQ (nC (u.nI y hy) ?_)
  refine dK (fun hid=>bad (by decide) (by unfold nF;rw[if_pos hid])) fun hid=>?_
  have fi:(found AM7 (cJ d y.2.2)).2=(cJ d y.2.2).isSome:=by cases cJ d y.2.2<;>rfl
  rw[fi]
  clear fi hbad
  repeat' first
   | refine gT (fun h=>?_) (fun h=>?_)
   | refine bJ (fun h=>?_) (fun h=>?_)
   | refine dK (fun h=>?_) (fun h=>?_)
  all_goals first
   | (exfalso;omega)
   | (refine bad (by decide) ?_;clear bad hok;unfold nF;simp_all[Option.isSome_iff_ne_none];done)
   | (refine hok ?_;clear bad hok;unfold nF;simp_all[Option.isSome_iff_ne_none];done)
 ·have wn:eD d=if AHX d=true then 20 else if PV d=true then 13 else 0:=by unfold eD;rw[if_pos h0]
  clear h0
  refine fG (r:=bH) (fun n=>if (up d n.1).2=true then 0 else 20) (by omega) (fun X s y hy hok hbad=>?_) fun h1=>?_
  ·refine aD (s:=[(false,.li .str),(false,.bool)]) (y:=up d y.1) (Z4 ..) ?_
   refine dK (fun h=>is ?_) fun h=>hok (by rw[if_pos h])
   rw[wn,if_pos]
   unfold AHX
   exact List.any_eq_true.2 ⟨y,hy,by rw[h];rfl⟩
  have w2:eD d=if PV d=true then 13 else 0:=by
   rw[wn,if_neg]
   unfold AHX
   intro h
   obtain ⟨y,hy,h⟩:=List.any_eq_true.1 h
   have this:(if (up d y.1).2=true then (0:Int) else 20)=0:=kZ h1 y hy
   rw[if_neg (by intro hc;rw[hc] at h;cases h)] at this
   cases this
  clear wn h1
  have pa:∀ y∈d.2.1,BB d y.1=(up d y.1).1.reverse:=fun y hy=>by
   have hs:cJ d y.1≠none:=fun h=>by
    have:=List.find?_eq_none.1 h y hy
    simp at this
   unfold BB
   cases hn:cJ d y.1 with
   | none=>exact absurd hn hs
   | some _=>rfl
  refine fG (r:=bH) (fun n=>if 8<(up d n.1).1.length then 13 else 0) (by omega) (fun X s y hy hok hbad=>?_) fun h1=>is ?_
  ·refine aD (s:=[(false,.li .str)]) (y:=BB d y.1) ((ZR ..).trans (show VL d _=_ by unfold VL;rw[u.okD])) ?_
   rw[pa y hy]
   refine bJ (fun h=>is ?_) fun h=>hok (by rw[List.length_map,List.length_reverse] at h;rw[if_neg (by omega)])
   rw[List.length_map,List.length_reverse] at h
   rw[w2,if_pos]
   unfold PV
   exact List.any_eq_true.2 ⟨y,hy,by rw[decide_eq_true_eq];omega⟩
  rw[w2,if_neg]
  unfold PV
  intro h
  obtain ⟨y,hy,h⟩:=List.any_eq_true.1 h
  rw[decide_eq_true_eq] at h
  have this:(if 8<(up d y.1).1.length then (13:Int) else 0)=0:=kZ h1 y hy
  rw[if_pos h] at this
  cases this
noncomputable def BJ:Env:=Env.of [(82,.pure jV),(41,.pure cX),(83,.pure pH)]
def O4:FuncId→Hint:=fun f=>match f == 33 with|true=>⟨fun r=>match r == 2 with|true=>.inv [.val 5 false (.int .i64)]|false=>match r == 12 with|true=>.inv [.val 9 false (.int .i64),.val 10 false (.int .i64)]|false=>.none,fun _ _=>none,fun _=>none⟩|false=>aT
theorem W1:aE Tryz.prog BJ:=aE.cons (x:=.pure jV) UZ (aE.cons (x:=.pure cX) oK (aE.cons (x:=.pure pH) ASK (aE.nil _)))
def BS (a0:aF) (a1:aN) (R:T→Prop):Prop :=
 a7 (Int×PUnit)
 (fun (X0:Int×PUnit→Prop) (s1:Int×PUnit) =>
 aB (decide (s1.1<(↑(List.map aX.enc a0.2.2.1).length:Int)))
 (aO aX (List.map aX.enc a0.2.2.1) s1.1 fun (y2:bL) =>
 aG [(false,Sy.int IntKind.i64)]
 (jV [aC true aX y2,aC true aH a1]) fun (y3:Int) =>
 aB (!decide (y3=0)) (R (T.v (.int .i64 y3)))
 (aO aX (List.map aX.enc a0.2.2.1) s1.1 fun (y4:bL) =>
 aG [(true,bH),(false,Sy.bool)]
 (cX [aC true aM a0,T.v (.string y4.2.2.2.1)])
 fun (y5:gU×Bool) =>
 aB (!y5.2) (R (T.v (.int .i64 8)))
 (X0 (IntKind.i64.wrap (s1.1+1),()))))
 (a7 (Int×Int×PUnit)
 (fun (X6:Int×Int×PUnit→Prop) (s7:Int×Int×PUnit) =>
 aB (decide (s7.2.1<(↑(List.map aX.enc a0.2.2.1).length:Int)))
 (aO aX (List.map aX.enc a0.2.2.1) s7.2.1 fun (y8:bL) =>
 aG [(false,Sy.int IntKind.i64),(false,Sy.int IntKind.i64)]
 (pH [aC true aX y8,aC true aH a1])
 fun (y9:aJ) =>
 X6 (IntKind.i64.wrap (s7.1+y9.1),IntKind.i64.wrap (s7.2.1+1),()))
 (aB (decide (1099511627776<s7.1)) (R (T.v (.int .i64 13)))
 (R (T.v (.int .i64 0)))))
 (0,0,())))
 (0,())
theorem SZ ( a0 a1 R):bA aW Tryz.prog BJ O4 8 33 [aC true aM a0,aC true aH a1] R=BS a0 a1 R:=by kernel_rfl
abbrev vS:Sh:=[(true,aM),(true,aH)]
def nO (x:aF×aN):Option T:=match A9 x.2 with
 | true=>rY x.1 (T.v (Value.int .i64 (fJ x.1 x.2)))
 | false=>none
noncomputable def lZ:List T→Option (T):=gS vS nO
theorem TB {a0 a1}:lZ [aC true aM a0,aC true aH a1]=nO (a0,a1):=a6 (s:=vS) rfl (a0,a1) rfl
theorem AH1 (h:∀ a0 a1 r,nO (a0,a1)=some r→bY vS (a0,a1)→BS a0 a1 (fun y=>y=r)):aK Tryz.prog 33 lZ :=
 aP (E:=BJ) (Hs:=O4) W1 aU aV (aL rfl) 8 ⟨_,_,Tryz.func33,rfl⟩ rfl fun x r h1 h2=>by
  obtain ⟨a0,a1⟩:=x
  rw[show Sh.bK vS (a0,a1)=[aC true aM a0,aC true aH a1] from rfl,SZ]
  exact h a0 a1 r h1 h2
theorem w5 {r:Sy} {l:List r.den} (f:r.den→Int) (hl:l.length≤140737488355328) {Body:(Int×PUnit→Prop)→Int×PUnit→Prop} {Exit:Prop}
  (hbody:∀ (X:Int×PUnit→Prop) (k:Nat) (h:k<l.length),(f l[k]=0→X (IntKind.i64.wrap ((k:Int)+1),()))→(f l[k]≠0→bC f l=f l[k])→Body X ((k:Int),())) (hexit:bC f l=0→Exit) :
  a7 (Int×PUnit) (fun (X:Int×PUnit→Prop) (s:Int×PUnit)=>aB (decide (s.1<((List.map r.enc l).length:Int))) (Body X s) Exit) (0,()):=by
 refine aY l.length (fun k s=>s=((k:Int),())∧bC f l=bC f (l.drop k)) ⟨rfl,by rw[List.drop_zero]⟩ ?_
 rintro X k s hk ⟨rfl,he⟩ hX
 dsimp only
 refine bJ (fun hlt=>?_) fun hge=>?_
 ·rw[List.length_map] at hlt
  have hlt:k<l.length:=by omega
  have hd:l.drop k=l[k]::l.drop (k+1):=List.drop_eq_getElem_cons hlt
  rw[hd,bC] at he
  refine hbody X k hlt (fun h0=>?_) fun h0=>by rw[he,if_neg h0]
  rw[if_pos h0] at he
  exact hX _ hlt ⟨by rw[show IntKind.i64.wrap ((k:Int)+1)=((k+1:Nat):Int) from aQ _ (by omega) (by omega)],he⟩
 ·rw[List.length_map] at hge
  have:k=l.length:=by omega
  subst this
  rw[List.drop_length] at he
  exact hexit he
theorem LV {a b A B:Int} (h1:0≤a∧a≤A) (h2:0≤b∧b≤B):0≤a*b∧a*b≤A*B:=⟨Int.mul_nonneg h1.1 h2.1,Int.mul_le_mul h1.2 h2.2 h2.1 (Int.le_trans h1.1 h1.2)⟩
theorem APC {x n B:Int} (hn:0<n) (h:0≤x∧x≤n*B):0≤x.tdiv n∧x.tdiv n≤B:=by
 rw[Int.tdiv_eq_ediv_of_nonneg h.1]
 exact ⟨Int.ediv_nonneg h.1 (Int.le_of_lt hn),Int.ediv_le_of_le_mul hn (by rw[Int.mul_comm];exact h.2)⟩
theorem AAF {p:bL} {m:aN} (h:dS p m=0):0≤(iC p m).1∧(iC p m).1≤2199023255552:=by
 have w:iC p m=(lQ p m,0):=by unfold iC;rw[if_pos h]
 rw[w]
 show 0≤lQ p m∧lQ p m≤2199023255552
 have e:lQ p m=lQ p m:=rfl
 unfold dS at h
 by_cases c1:gP p.1=false∨gP (e9 p)=false
 ·rw[if_pos c1] at h;cases h
 rw[if_neg c1] at h
 by_cases c2:¬ (1≤p.2.1∧p.2.1≤1000)
 ·rw[if_pos c2] at h;cases h
 rw[if_neg c2] at h
 by_cases c3:¬ (bB p=1∨bB p=2∨bB p=3∨bB p=4)
 ·rw[if_pos c3] at h;cases h
 rw[if_neg c3] at h
 by_cases c4:gZ p=true
 ·rw[if_pos c4] at h;cases h
 rw[if_neg c4] at h
 by_cases c5:c0 p m=false
 ·rw[if_pos c5] at h;cases h
 rw[if_neg c5] at h
 have c5:c0 p m=true:=by cases hc:c0 p m with
  | true=>rfl
  | false=>exact absurd hc c5
 by_cases c6:bB p=1∧¬ gI (dC p)=0
 ·rw[if_pos c6] at h;exact absurd h c6.2
 rw[if_neg c6] at h
 by_cases c7:(bB p=2∨bB p=3)∧¬ (1≤j8 p∧j8 p≤32768)
 ·rw[if_pos c7] at h;cases h
 rw[if_neg c7] at h
 by_cases c8:bB p=4∧¬ (1≤hU p∧hU p≤1099511627776∧iF (o6 p)=true)
 ·rw[if_pos c8] at h;cases h
 clear h w
 have k:bB p=1∨bB p=2∨bB p=3∨bB p=4:=Classical.not_not.1 c3
 clear c1 c2 c3 c4
 by_cases k4:bB p=4
 ·have hb:=Classical.not_and_iff_not_or_not.1 c8
  have hm:1≤hU p∧hU p≤1099511627776∧iF (o6 p)=true:=hb.elim (fun h=>absurd k4 h) Classical.not_not.1
  unfold lQ
  rw[if_neg (by omega),if_neg (by omega)]
  omega
 unfold c0 at c5
 rw[if_neg k4] at c5
 cases hg:cH m (dL p) with
 | none=>rw[hg] at c5;cases c5
 | some g =>
  rw[hg] at c5
  dsimp only at c5
  simp only[Bool.and_eq_true,decide_eq_true_eq] at c5
  obtain ⟨⟨d1,d2⟩,c5⟩:=c5
  have eg:IJ m (dL p)=g:=by unfold IJ;rw[hg];rfl
  by_cases k1:bB p=1
  ·rw[if_pos k1] at c5
   simp only[Bool.and_eq_true,decide_eq_true_eq] at c5
   have t:=LV (A:=618475290624) (B:=120) ⟨A3M (dC p),(A3L (dC p)).2⟩ (show 0≤fO p∧fO p≤120 by omega)
   have t2:=LV (B:=20000) t (show 0≤g.2.1∧g.2.1≤20000 by omega)
   unfold lQ
   rw[if_pos k1,eg,aQ (pW (dC p)*fO p) (by omega) (by omega),aQ (pW (dC p)*fO p*g.2.1) (by omega) (by omega)]
   have v:=APC (x:=pW (dC p)*fO p*g.2.1) (n:=2000000) (B:=742170348749) (by omega) (by omega)
   rw[aQ _ (by omega) (by omega)]
   omega
  ·rw[if_neg k1] at c5
   unfold K6 at c5
   cases hs:pY m (B0 p) with
   | none=>rw[hs] at c5;cases c5
   | some s =>
    rw[hs] at c5
    dsimp only at c5
    simp only[Bool.and_eq_true,decide_eq_true_eq] at c5
    have es:A0F m (B0 p)=s:=by unfold A0F;rw[hs];rfl
    have k23:bB p=2∨bB p=3:=by omega
    have hl:1≤j8 p∧j8 p≤32768:=Classical.byContradiction fun hc=>c7 ⟨k23,hc⟩
    have t:=LV (A:=1000000) (B:=32768) (show 0≤s.2.1∧s.2.1≤1000000 by omega) (show 0≤j8 p∧j8 p≤32768 by omega)
    have t2:=LV (B:=20000) t (show 0≤g.2.1∧g.2.1≤20000 by omega)
    unfold lQ
    rw[if_neg k1,if_pos k23,eg,es,aQ (s.2.1*j8 p) (by omega) (by omega),aQ (s.2.1*j8 p*g.2.1) (by omega) (by omega)]
    have v:=APC (x:=s.2.1*j8 p*g.2.1) (n:=1000000) (B:=655360000) (by omega) (by omega)
    rw[aQ _ (by omega) (by omega)]
    omega
def DB (m:aN):List bL→Int
 | []=>0
 | p::l=>(iC p m).1+DB m l
theorem ABC {m:aN}:∀ {l:List bL},(∀ p∈l,dS p m=0)→0≤DB m l∧DB m l≤2199023255552*(l.length:Int)
 | [],_=>by simp[DB]
 | p::l,h=>by
  have h1:=AAF (h p (by simp))
  have h2:=ABC (l:=l) fun q hq=>h q (by simp[hq])
  simp only[DB,List.length_cons]
  omega
theorem V8 {m:aN} {p:bL}:∀ {l:List bL},DB m (l++[p])=DB m l+(iC p m).1
 | []=>by simp[DB]
 | q::l=>by simp only[List.cons_append,DB,V8 (l:=l)];omega
theorem AIU {m:aN}:∀ {l:List bL} {s:Int},(∀ p∈l,dS p m=0)→0≤s→s≤1099511627776→wB m l s=if 1099511627776<s+DB m l then 13 else 0
 | [],s,_,h0,h1=>by rw[wB,DB,if_neg (by omega)]
 | p::l,s,h,h0,h1=>by
  have b:=AAF (h p (by simp))
  have b2:=ABC (l:=l) fun q hq=>h q (by simp[hq])
  rw[wB,DB,aQ _ (by omega) (by omega)]
  by_cases hc:1099511627776<s+(iC p m).1
  ·rw[if_pos hc,if_pos (by omega)]
  ·rw[if_neg hc,AIU (l:=l) (fun q hq=>h q (by simp[hq])) (by omega) (by omega)]
   congr 1
   exact propext ⟨fun h=>by omega,fun h=>by omega⟩
theorem xT {d:aF} {id:ByteArray} {K:bL×Bool→Prop} (h:K (found AZF (partOf d id))):aG [(true,aX),(false,Sy.bool)] (eN [aC true aM d,T.v (.string id)]) K:=aD (s:=[(true,aX),(false,.bool)]) (xD ..) h
theorem DY {α:Type} {no:α} {o:Option α}:(found no o).2=o.isSome:=by cases o<;>rfl
theorem AFN:aK Tryz.prog 33 lZ:=AH1 fun d m r h hb=>by
 unfold nO at h
 split at h
 case h_2=>cases h
 rename_i hok
 replace hok:A9 m=true:=hok
 obtain ⟨hu,rfl⟩:=lI h
 have u:UOk d:=rX hu
 have un:d.2.2.1.length≤1000:=u.p
 clear h hb
 have is:∀ {n:Int},fJ d m=n→T.v (.int .i64 n)=T.v (.int .i64 (fJ d m)):=fun h=>by rw[h]
 unfold BS
 refine w5 (r:=aX) (eE d m) (by omega) (fun X k hk hgo hbad=>?_) fun h0=>?_
 ·have bad:∀ {n:Int},n≠0→eE d m d.2.2.1[k]=n→T.v (.int .i64 n)=T.v (.int .i64 (fJ d m)):=fun hn h=>by
   have h1:=hbad (by rw[h];exact hn)
   refine is ?_
   unfold fJ
   rw[if_neg (by rw[h1,h];exact hn),h1,h]
  dsimp only
  rw[aS (r:=aX) hk]
  have hi:=u.pI _ (List.getElem_mem hk)
  refine aD (s:=[(false,.int .i64)]) (KP hok hi.1 hi.2) ?_
  refine gT (fun h=>bad h (by unfold eE;rw[if_neg h])) fun h=>?_
  try rw[aS (r:=aX) hk]
  refine xQ ?_
  rw[DY]
  refine dK (fun hn=>bad (by decide) ?_) fun hn=>hgo ?_
  ·unfold eE;rw[if_pos h,if_pos]
   cases hc:cJ d (e9 d.2.2.1[k]) with
   | none=>rfl
   | some x=>rw[show cJ d d.2.2.1[k].2.2.2.1=some x from hc] at hn;cases hn
  ·unfold eE;rw[if_pos h,if_neg]
   cases hc:cJ d (e9 d.2.2.1[k]) with
   | none=>rw[show cJ d d.2.2.1[k].2.2.2.1=none from hc] at hn;cases hn
   | some x=>exact Bool.noConfusion
 ·have hz:∀ p∈d.2.2.1,dS p m=0:=fun p hp=>by
   have:=kZ h0 p hp
   unfold eE at this
   refine Classical.byContradiction fun hc=>?_
   rw[if_neg hc] at this
   exact hc this
  have w:fJ d m=if 1099511627776<DB m d.2.2.1 then 13 else 0:=by unfold fJ;rw[if_pos h0,AIU hz (by omega) (by omega),Int.zero_add]
  clear h0
  refine aY d.2.2.1.length (fun k s=>s=(DB m (d.2.2.1.take k),(k:Int),())) rfl ?_
  rintro X k s hk rfl hX
  dsimp only
  refine bJ (fun hlt=>?_) fun hge=>?_
  ·rw[List.length_map] at hlt
   have hlt:k<d.2.2.1.length:=by omega
   rw[aS (r:=aX) hlt]
   have hi:=u.pI _ (List.getElem_mem hlt)
   refine aD (s:=[(false,.int .i64),(false,.int .i64)]) (AGH hok hi.1 hi.2) ?_
   have b:=AAF (hz _ (List.getElem_mem hlt))
   have b2:=ABC (l:=d.2.2.1.take k) fun p hp=>hz p (List.mem_of_mem_take hp)
   rw[List.length_take] at b2
   refine hX _ hlt ?_
   rw[List.take_succ_eq_append_getElem hlt,V8]
   rw[aQ (DB m (d.2.2.1.take k)+(iC d.2.2.1[k] m).1) (by omega) (by omega),aQ ((k:Int)+1) (by omega) (by omega)]
   rfl
  ·rw[List.length_map] at hge
   have:k=d.2.2.1.length:=by omega
   subst this
   rw[List.take_length]
   refine bJ (fun h=>is (by rw[w,if_pos h])) fun h=>is (by rw[w,if_neg h])
noncomputable def GR:Env:=Env.of [(79,.pure dF)]
def UB:FuncId→Hint:=fun _=>aT
theorem AB5:aE Tryz.prog GR:=aE.cons (x:=.pure dF) yQ (aE.nil _)
def HK (a0:o5) (R:T→Prop):Prop :=
 aG [(false,Sy.bool)] (dF [T.v (.string a0.1)]) fun (y0:Bool) =>
 aB (!y0) (R (T.v (.int .i64 6)))
 (aG [(false,Sy.bool)] (dF [T.v (.string a0.2.1)]) fun (y1:Bool) =>
 aB (!y1) (R (T.v (.int .i64 6)))
 (aG [(false,Sy.bool)] (dF [T.v (.string a0.2.2.1)])
 fun (y2:Bool) =>
 aB (!y2) (R (T.v (.int .i64 6)))
 (aB (decide (a0.2.1=a0.2.2.1)) (R (T.v (.int .i64 2)))
 (aB (!decide (a0.2.2.2.1=1))
 (aB (!decide (a0.2.2.2.1=2)) (R (T.v (.int .i64 10)))
 (aB (decide (a0.2.2.2.2.1<1)) (R (T.v (.int .i64 9)))
 (aB (decide (32768<a0.2.2.2.2.1))
 (R (T.v (.int .i64 9)))
 (aB (decide (a0.2.2.2.2.2<1)) (R (T.v (.int .i64 9)))
 (aB (decide (3<a0.2.2.2.2.2))
 (R (T.v (.int .i64 9)))
 (R (T.v (.int .i64 0))))))))
 (aB (decide (a0.2.2.2.2.1<1)) (R (T.v (.int .i64 9)))
 (aB (decide (32768<a0.2.2.2.2.1)) (R (T.v (.int .i64 9)))
 (aB (decide (a0.2.2.2.2.2<1)) (R (T.v (.int .i64 9)))
 (aB (decide (3<a0.2.2.2.2.2)) (R (T.v (.int .i64 9)))
 (R (T.v (.int .i64 0)))))))))))
theorem YG ( a0 R):bA aW Tryz.prog GR UB 8 84 [aC true bW a0] R=HK a0 R:=by kernel_rfl
abbrev z7:Sh:=[(true,bW)]
def A6T (s:o5):Bool:=DF s.1&&(DF s.2.1&&DF s.2.2.1)
def wK (s:o5):Int:=if gP s.1=false∨gP s.2.1=false∨gP s.2.2.1=false then 6 else if s.2.1=s.2.2.1 then 2 else if ¬ s.2.2.2.1=1∧¬ s.2.2.2.1=2 then 10 else if s.2.2.2.2.1<1∨32768<s.2.2.2.2.1∨s.2.2.2.2.2<1∨3<s.2.2.2.2.2 then 9 else 0
def p7 (s:o5):Option T:=match A6T s with
 | true=>some (T.v (Value.int .i64 (wK s)))
 | false=>none
noncomputable def oU:List T→Option (T):=gS z7 p7
theorem ZZ {a0}:oU [aC true bW a0]=p7 (a0):=a6 (s:=z7) rfl (a0) rfl
theorem ANT (h:∀ a0 r,p7 (a0)=some r→bY z7 (a0)→HK a0 (fun y=>y=r)):aK Tryz.prog 84 oU :=
 aP (E:=GR) (Hs:=UB) AB5 aU aV (aL rfl) 8 ⟨_,_,Tryz.func84,rfl⟩ rfl fun x r h1 h2=>by
  let a0:=x
  rw[show Sh.bK z7 (a0)=[aC true bW a0] from rfl,YG]
  exact h a0 r h1 h2
theorem AL6:aK Tryz.prog 84 oU:=ANT fun y r h hb=>by
 unfold p7 at h
 split at h
 case h_2=>cases h
 rename_i hok
 cases h
 simp only[A6T,Bool.and_eq_true] at hok
 clear hb
 have is:∀ {n:Int},wK y=n→T.v (.int .i64 n)=T.v (.int .i64 (wK y)):=fun h=>by rw[h]
 unfold HK
 refine nC hok.1 ?_
 refine dK (fun h=>is (by unfold wK;rw[if_pos (.inl h)])) fun i1=>nC hok.2.1 ?_
 refine dK (fun h=>is (by unfold wK;rw[if_pos (.inr (.inl h))])) fun i2=>nC hok.2.2 ?_
 refine dK (fun h=>is (by unfold wK;rw[if_pos (.inr (.inr h))])) fun i3=>?_
 have w:wK y=if y.2.1=y.2.2.1 then 2 else if ¬ y.2.2.2.1=1∧¬ y.2.2.2.1=2 then 10 else if y.2.2.2.2.1<1∨32768<y.2.2.2.2.1∨y.2.2.2.2.2<1∨3<y.2.2.2.2.2 then 9 else 0:=by
  unfold wK;rw[if_neg (by simp only[show gP y.1=true from i1,show gP y.2.1=true from i2,show gP y.2.2.1=true from i3];decide)]
 repeat' first
  | refine gT (fun h=>?_) (fun h=>?_)
  | refine bJ (fun h=>?_) (fun h=>?_)
 all_goals (refine is ?_;rw[w];clear w is;simp_all)
noncomputable def GS:Env:=Env.of [(84,.pure oU),(85,.pure eN)]
def UC:FuncId→Hint:=fun f=>match f == 34 with|true=>⟨fun r=>match r == 2 with|true=>.inv [.val 3 false (.int .i64)]|false=>.none,fun _ _=>none,fun _=>none⟩|false=>aT
theorem AB6:aE Tryz.prog GS:=aE.cons (x:=.pure oU) AL6 (aE.cons (x:=.pure eN) yS (aE.nil _))
def HL (a0:aF) (R:T→Prop):Prop :=
 a7 (Int×PUnit)
 (fun (X0:Int×PUnit→Prop) (s1:Int×PUnit) =>
 aB (decide (s1.1<(↑(List.map bW.enc a0.2.2.2.1).length:Int)))
 (aO bW (List.map bW.enc a0.2.2.2.1) s1.1 fun (y2:o5) =>
 aG [(false,Sy.int IntKind.i64)] (oU [aC true bW y2])
 fun (y3:Int) =>
 aB (!decide (y3=0)) (R (T.v (.int .i64 y3)))
 (aO bW (List.map bW.enc a0.2.2.2.1) s1.1 fun (y4:o5) =>
 aG [(true,aX),(false,Sy.bool)]
 (eN [aC true aM a0,T.v (.string y4.2.1)])
 fun (y5:bL×Bool) =>
 aO bW (List.map bW.enc a0.2.2.2.1) s1.1 fun (y6:o5) =>
 aG [(true,aX),(false,Sy.bool)]
 (eN [aC true aM a0,T.v (.string y6.2.2.1)])
 fun (y7:bL×Bool) =>
 aB (!y5.2) (R (T.v (.int .i64 8)))
 (aB (!y7.2) (R (T.v (.int .i64 8)))
 (X0 (IntKind.i64.wrap (s1.1+1),())))))
 (R (T.v (.int .i64 0))))
 (0,())
theorem YH ( a0 R):bA aW Tryz.prog GS UC 8 34 [aC true aM a0] R=HL a0 R:=by kernel_rfl
abbrev z8:Sh:=[(true,aM)]
def C5 (d:aF):Option T:=rY d (T.v (Value.int .i64 (bC (lL d) d.2.2.2.1)))
noncomputable def oV:List T→Option (T):=gS z8 C5
theorem Z0 {a0}:oV [aC true aM a0]=C5 (a0):=a6 (s:=z8) rfl (a0) rfl
theorem ANU (h:∀ a0 r,C5 (a0)=some r→bY z8 (a0)→HL a0 (fun y=>y=r)):aK Tryz.prog 34 oV :=
 aP (E:=GS) (Hs:=UC) AB6 aU aV (aL rfl) 8 ⟨_,_,Tryz.func34,rfl⟩ rfl fun x r h1 h2=>by
  let a0:=x
  rw[show Sh.bK z8 (a0)=[aC true aM a0] from rfl,YH]
  exact h a0 r h1 h2
theorem AL7:aK Tryz.prog 34 oV:=ANU fun d r h hb=>by
 obtain ⟨hu,rfl⟩:=lI h
 have u:=rX hu
 have un:=u.s
 clear h hb
 unfold HL
 refine w5 (r:=bW) (lL d) (by omega) (fun X k hk hok hbad=>?_) fun h0=>by rw[h0]
 dsimp only
 have hi:=u.sI _ (List.getElem_mem hk)
 generalize hy:d.2.2.2.1[k]=y at hi hok hbad
 have bad:∀ {n:Int},n≠0→lL d y=n→T.v (.int .i64 n)=T.v (.int .i64 (bC (lL d) d.2.2.2.1)):=fun hn h=>by
  rw[hbad (by rw[h];exact hn),h]
 have w:lL d y=if wK y=0 then (if (partOf d y.2.1).isNone=true∨(partOf d y.2.2.1).isNone=true then 8 else 0) else wK y:=by
  unfold lL wK
  by_cases g1:gP y.1=false∨gP y.2.1=false∨gP y.2.2.1=false
  ·simp only[if_pos g1];rw[if_neg (by decide)]
  simp only[if_neg g1]
  by_cases g2:y.2.1=y.2.2.1
  ·simp only[if_pos g2];rw[if_neg (by decide)]
  simp only[if_neg g2]
  by_cases g3:¬ y.2.2.2.1=1∧¬ y.2.2.2.1=2
  ·simp only[if_pos g3];rw[if_neg (by decide)]
  simp only[if_neg g3]
  by_cases g4:y.2.2.2.2.1<1∨32768<y.2.2.2.2.1∨y.2.2.2.2.2<1∨3<y.2.2.2.2.2
  ·simp only[if_pos g4];rw[if_neg (by decide)]
  simp only[if_neg g4]
  rw[if_pos trivial]
 rw[aS (r:=bW) hk]
 rw[hy]
 refine aD (s:=[(false,.int .i64)]) (y:=wK y) ((ZZ ..).trans (by unfold p7 A6T;rw[hi.1,hi.2.1,hi.2.2];rfl)) ?_
 refine gT (fun h=>bad h (by rw[w,if_neg h])) fun h=>?_
 rw[if_pos h] at w
 rw[aS (r:=bW) hk,hy]
 refine xT ?_
 rw[aS (r:=bW) hk,hy]
 refine xT ?_
 rw[DY,DY]
 cases h1:partOf d y.2.1 with
 | none=>exact dK (fun _=>bad (by decide) (by rw[w,h1];rfl)) fun h=>Bool.noConfusion h
 | some a =>
  refine dK (fun h=>Bool.noConfusion h) fun _=>?_
  cases h2:partOf d y.2.2.1 with
  | none=>exact dK (fun _=>bad (by decide) (by rw[w,h2];simp)) fun h=>Bool.noConfusion h
  | some b=>exact dK (fun h=>Bool.noConfusion h) fun _=>hok (by rw[w,h1,h2];rfl)
noncomputable def GA:Env:=Env.of [(41,.pure cX)]
def TV:FuncId→Hint:=fun _=>aT
theorem ABP:aE Tryz.prog GA:=aE.cons (x:=.pure cX) oK (aE.nil _)
def G4 (a0:aF) (a1:ByteArray) (R:T→Prop):Prop :=
 aG [(true,bH),(false,Sy.bool)]
 (cX [aC true aM a0,T.v (.string a1)]) fun (y0:gU×Bool) =>
 aB y0.2 (R (T.v (.bool (decide (y0.1.2.1=1))))) (R (T.v (.bool false)))
theorem XI ( a0 a1 R):bA aW Tryz.prog GA TV 8 86 [aC true aM a0,aC false Sy.str a1] R=G4 a0 a1 R:=by kernel_rfl
abbrev zL:Sh:=[(true,aM),(false,Sy.str)]
def CR (x:aF×ByteArray):Option T:=some (T.v (.bool (n8 x.1 x.2)))
noncomputable def cA:List T→Option (T):=gS zL CR
theorem ZI {a0 a1}:cA [aC true aM a0,T.v (.string a1)]=CR (a0,a1):=a6 (s:=zL) rfl (a0,a1) rfl
theorem ANC (h:∀ a0 a1 r,CR (a0,a1)=some r→bY zL (a0,a1)→G4 a0 a1 (fun y=>y=r)):aK Tryz.prog 86 cA :=
 aP (E:=GA) (Hs:=TV) ABP aU aV (aL rfl) 8 ⟨_,_,Tryz.func86,rfl⟩ rfl fun x r h1 h2=>by
  obtain ⟨a0,a1⟩:=x
  rw[show Sh.bK zL (a0,a1)=[aC true aM a0,aC false Sy.str a1] from rfl,XI]
  exact h a0 a1 r h1 h2
theorem QE:aK Tryz.prog 86 cA:=ANC fun d id r h hb=>by
 cases h
 unfold G4
 refine xQ ?_
 have w:n8 d id=match cJ d id with
  | some n=>decide (n.2.1=1)
  | none=>false:=rfl
 cases hn:cJ d id with
 | none=>rw[hn] at w;exact tA (fun h=>Bool.noConfusion h) fun _=>cL w.symm
 | some n=>rw[hn] at w;exact tA (fun _=>cL w.symm) fun h=>Bool.noConfusion h
theorem Q0 {d:aF} {id:ByteArray} {K:Bool→Prop} (h:K (n8 d id)):aG [(false,Sy.bool)] (cA [aC true aM d,T.v (.string id)]) K:=aD (s:=xU) (ZI ..) h
noncomputable def GH:Env:=Env.of [(89,.pure jU),(86,.pure cA)]
def T1:FuncId→Hint:=fun f=>match f == 36 with|true=>⟨fun r=>match r == 2 with|true=>.inv [.val 3 false (.int .i64)]|false=>.none,fun _ _=>none,fun _=>none⟩|false=>aT
theorem ABV:aE Tryz.prog GH:=aE.cons (x:=.pure jU) UX (aE.cons (x:=.pure cA) QE (aE.nil _))
def HA (a0:aF) (R:T→Prop):Prop :=
 a7 (Int×PUnit)
 (fun (X0:Int×PUnit→Prop) (s1:Int×PUnit) =>
 aB (decide (s1.1<(↑(List.map b6.enc a0.2.2.2.2.2).length:Int)))
 (aO b6 (List.map b6.enc a0.2.2.2.2.2) s1.1 fun (y2:n7) =>
 aB (decide (y2.1<1)) (R (T.v (.int .i64 10)))
 (aB (decide (3<y2.1)) (R (T.v (.int .i64 10)))
 (aB (decide (y2.2.2=y2.2.1)) (R (T.v (.int .i64 2)))
 (aG [(true,aR),(false,Sy.bool)]
 (jU [aC true aM a0,T.v (.string y2.2.2)])
 fun (y3:cB×Bool) =>
 aB (decide (y2.1=1))
 (aB (decide (y2.2.2 = { data:=#[] }))
 (aG [(false,Sy.bool)]
 (cA [aC true aM a0,T.v (.string y2.2.1)])
 fun (y4:Bool) =>
 aB (!y4) (R (T.v (.int .i64 8)))
 (X0 (IntKind.i64.wrap (s1.1+1),())))
 (aG [(false,Sy.bool)]
 (cA [aC true aM a0,T.v (.string y2.2.2)])
 fun (y5:Bool) =>
 aB y5
 (aG [(false,Sy.bool)]
 (cA [aC true aM a0,T.v (.string y2.2.1)])
 fun (y6:Bool) =>
 aB (!y6) (R (T.v (.int .i64 8)))
 (X0 (IntKind.i64.wrap (s1.1+1),())))
 (aB (decide (y2.1=2))
 (aG [(false,Sy.bool)]
 (cA [aC true aM a0,T.v (.string y2.2.2)])
 fun (y7:Bool) =>
 aB y7
 (aG [(false,Sy.bool)]
 (cA
 [aC true aM a0,T.v (.string y2.2.1)])
 fun (y8:Bool) =>
 aB (!y8) (R (T.v (.int .i64 8)))
 (X0 (IntKind.i64.wrap (s1.1+1),())))
 (aB (decide (y2.1=3))
 (aG [(false,Sy.bool)]
 (cA
 [aC true aM a0,T.v (.string y2.2.1)])
 fun (y9:Bool) =>
 aB (!y9) (R (T.v (.int .i64 8)))
 (aB (!y3.2) (R (T.v (.int .i64 8)))
 (X0 (IntKind.i64.wrap (s1.1+1),()))))
 (aG [(false,Sy.bool)]
 (cA
 [aC true aM a0,T.v (.string y2.2.1)])
 fun (y10:Bool) =>
 aB (!y10) (R (T.v (.int .i64 8)))
 (R (T.v (.int .i64 8))))))
 (aB (decide (y2.1=3))
 (aG [(false,Sy.bool)]
 (cA
 [aC true aM a0,T.v (.string y2.2.1)])
 fun (y11:Bool) =>
 aB (!y11) (R (T.v (.int .i64 8)))
 (aB (!y3.2) (R (T.v (.int .i64 8)))
 (X0 (IntKind.i64.wrap (s1.1+1),()))))
 (aG [(false,Sy.bool)]
 (cA
 [aC true aM a0,T.v (.string y2.2.1)])
 fun (y12:Bool) =>
 aB (!y12) (R (T.v (.int .i64 8)))
 (R (T.v (.int .i64 8))))))))
 (aB (decide (y2.1=2))
 (aG [(false,Sy.bool)]
 (cA [aC true aM a0,T.v (.string y2.2.2)])
 fun (y13:Bool) =>
 aB y13
 (aG [(false,Sy.bool)]
 (cA [aC true aM a0,T.v (.string y2.2.1)])
 fun (y14:Bool) =>
 aB (!y14) (R (T.v (.int .i64 8)))
 (X0 (IntKind.i64.wrap (s1.1+1),())))
 (aB (decide (y2.1=3))
 (aG [(false,Sy.bool)]
 (cA [aC true aM a0,T.v (.string y2.2.1)])
 fun (y15:Bool) =>
 aB (!y15) (R (T.v (.int .i64 8)))
 (aB (!y3.2) (R (T.v (.int .i64 8)))
 (X0 (IntKind.i64.wrap (s1.1+1),()))))
 (aG [(false,Sy.bool)]
 (cA [aC true aM a0,T.v (.string y2.2.1)])
 fun (y16:Bool) =>
 aB (!y16) (R (T.v (.int .i64 8)))
 (R (T.v (.int .i64 8))))))
 (aB (decide (y2.1=3))
 (aG [(false,Sy.bool)]
 (cA [aC true aM a0,T.v (.string y2.2.1)])
 fun (y17:Bool) =>
 aB (!y17) (R (T.v (.int .i64 8)))
 (aB (!y3.2) (R (T.v (.int .i64 8)))
 (X0 (IntKind.i64.wrap (s1.1+1),()))))
 (aG [(false,Sy.bool)]
 (cA [aC true aM a0,T.v (.string y2.2.1)])
 fun (y18:Bool) =>
 aB (!y18) (R (T.v (.int .i64 8)))
 (R (T.v (.int .i64 8))))))))))
 (R (T.v (.int .i64 0))))
 (0,())
theorem XP ( a0 R):bA aW Tryz.prog GH T1 8 36 [aC true aM a0] R=HA a0 R:=by kernel_rfl
abbrev zR:Sh:=[(true,aM)]
def CW (d:aF):Option T:=rY d (T.v (Value.int .i64 (bC (lF d) d.2.2.2.2.2)))
noncomputable def oO:List T→Option (T):=gS zR CW
theorem ZN {a0}:oO [aC true aM a0]=CW (a0):=a6 (s:=zR) rfl (a0) rfl
theorem ANJ (h:∀ a0 r,CW (a0)=some r→bY zR (a0)→HA a0 (fun y=>y=r)):aK Tryz.prog 36 oO :=
 aP (E:=GH) (Hs:=T1) ABV aU aV (aL rfl) 8 ⟨_,_,Tryz.func36,rfl⟩ rfl fun x r h1 h2=>by
  let a0:=x
  rw[show Sh.bK zR (a0)=[aC true aM a0] from rfl,XP]
  exact h a0 r h1 h2
theorem AIA {d:aF} {id:ByteArray} {K:cB×Bool→Prop} (h:K (found noPack (lK d id))):aG [(true,aR),(false,Sy.bool)] (jU [aC true aM d,T.v (.string id)]) K:=aD (s:=[(true,aR),(false,.bool)]) (KO ..) h
theorem ALY:aK Tryz.prog 36 oO:=ANJ fun d r h hb=>by
 obtain ⟨hu,rfl⟩:=lI h
 have u:=rX hu
 have un:=u.r
 clear h hb
 unfold HA
 refine fG (r:=b6) (lF d) (by omega) (fun X s y hy hok hbad=>?_) fun h0=>by rw[h0]
 have bad:∀ {n:Int},n≠0→lF d y=n→T.v (.int .i64 n)=T.v (.int .i64 (bC (lF d) d.2.2.2.2.2)):=fun hn h=>by
  rw[hbad (by rw[h];exact hn),h]
 clear hbad
 have fi:(found noPack (lK d y.2.2)).2=(lK d y.2.2).isSome:=DY
 repeat' first
  | (exfalso;omega)
  | refine Q0 ?_
  | refine AIA ?_
  | refine gT (fun h=>?_) (fun h=>?_)
  | refine bJ (fun h=>?_) (fun h=>?_)
  | refine dK (fun h=>?_) (fun h=>?_)
  | refine tA (fun h=>?_) (fun h=>?_)
 all_goals first
  | (exfalso;omega)
  | (refine bad (by decide) ?_;clear bad hok;unfold lF;simp_all[Option.isSome_iff_ne_none];done)
  | (refine hok ?_;clear bad hok;unfold lF;simp_all[Option.isSome_iff_ne_none];done)
  | (refine bad (by decide) ?_;clear bad hok;unfold lF;simp_all[Option.isSome_iff_ne_none];omega)
  | (refine hok ?_;clear bad hok;unfold lF;simp_all[Option.isSome_iff_ne_none];omega)
end Go.Pv
namespace Go.Pv
open Go Go.Proofs
noncomputable def F7:Env:=Env.of []
def TS:FuncId→Hint:=fun f=>match f == 125 with|true=>⟨fun r=>match r == 2 with|true=>.inv [.val 5 false (.int .i64)]|false=>.none,fun _ _=>none,fun _=>none⟩|false=>aT
theorem ABM:aE Tryz.prog F7:=aE.nil _
def G1 (a0:Int) (a1:List aJ) (R:T→Prop):Prop :=
 a7 (Int×PUnit)
 (fun (X0:Int×PUnit→Prop) (s1:Int×PUnit) =>
 aB (decide (s1.1<(↑(List.map aA.enc a1).length:Int)))
 (aO aA (List.map aA.enc a1) s1.1 fun (y2:aJ) =>
 aO aA (List.map aA.enc a1) s1.1 fun (y3:aJ) =>
 aB (decide (y2.1<0)) (R (T.v (.int .i64 9)))
 (aB (decide (a0≤y2.1)) (R (T.v (.int .i64 9)))
 (aB (decide (y3.2<0)) (R (T.v (.int .i64 9)))
 (aB (decide (a0≤y3.2)) (R (T.v (.int .i64 9)))
 (aB (decide (y2.1=y3.2)) (R (T.v (.int .i64 2)))
 (X0 (IntKind.i64.wrap (s1.1+1),())))))))
 (R (T.v (.int .i64 0))))
 (0,())
theorem XA ( a0 a1 R):bA aW Tryz.prog F7 TS 8 125 [aC false (Sy.int IntKind.i64) a0,aC false aA.li a1] R=G1 a0 a1 R:=by kernel_rfl
abbrev zI:Sh:=[(false,(Sy.int IntKind.i64)),(false,aA.li)]
def CP (x:Int×List aJ):Option T:=lS x.2 (T.v (Value.int .i64 (bC (nA x.1) x.2)))
noncomputable def oL:List T→Option (T):=gS zI CP
theorem ZF {a0 a1}:oL [T.v (.int .i64 a0),T.sl false (List.map aA.enc a1)]=CP (a0,a1):=a6 (s:=zI) rfl (a0,a1) rfl
theorem AM9 (h:∀ a0 a1 r,CP (a0,a1)=some r→bY zI (a0,a1)→G1 a0 a1 (fun y=>y=r)):aK Tryz.prog 125 oL :=
 aP (E:=F7) (Hs:=TS) ABM aU aV (aL rfl) 8 ⟨_,_,Tryz.func125,rfl⟩ rfl fun x r h1 h2=>by
  obtain ⟨a0,a1⟩:=x
  rw[show Sh.bK zI (a0,a1)=[aC false (Sy.int IntKind.i64) a0,aC false aA.li a1] from rfl,XA]
  exact h a0 a1 r h1 h2
theorem ALS:aK Tryz.prog 125 oL:=AM9 fun n l r h hb=>by
 obtain ⟨hl,rfl⟩:=fY h
 have hl:l.length≤140737488355328:=hl
 clear h hb
 unfold G1
 refine w5 (r:=aA) (nA n) hl (fun X k hk hok hbad=>?_) fun h0=>?_
 ·have bad:∀ {m:Int},m≠0→nA n l[k]=m→T.v (.int .i64 m)=T.v (.int .i64 (bC (nA n) l)):=fun hn h=>by
   rw[hbad (by rw[h];exact hn),h]
  dsimp only
  rw[aS (r:=aA) hk,aS (r:=aA) hk]
  clear hbad
  generalize l[k]=y at hok bad
  repeat' first
   | refine gT (fun h=>?_) (fun h=>?_)
   | refine bJ (fun h=>?_) (fun h=>?_)
  all_goals first
   | (exfalso;omega)
   | (refine bad (by decide) ?_;clear bad hok;unfold nA;first|(rw[if_pos (by omega)];done)|(rw[if_neg (by omega),if_pos (by omega)];done))
   | (refine hok ?_;clear bad hok;unfold nA;rw[if_neg (by omega),if_neg (by omega)];done)
 ·show _=T.v (.int .i64 (bC (nA n) l))
  rw[h0]
noncomputable def GJ:Env:=Env.of [(125,.pure oL)]
def T3:FuncId→Hint:=fun f=>match f == 88 with|true=>⟨fun r=>match r == 8 with|true=>.inv [.own 7 1 (.int .i64),.arr 0 1 .bool]|false=>match r == 11 with|true=>.inv [.arr 2 1 .bool,.val 10 false (.int .i64)]|false=>match r == 17 with|true=>.inv [.val 11 false (.int .i64),.val 12 false (.int .i64)]|false=>.none,fun _ _=>none,fun _=>none⟩|false=>aT
theorem ABX:aE Tryz.prog GJ:=aE.cons (x:=.pure oL) ALS (aE.nil _)
def HC (a0:Int) (a1:List aJ) (R:T→Prop):Prop :=
 aB (decide (a0<0))
 (bV (T.v (.int .i64 9)).flat
 (R (T.cQ [T.sl false [],T.v (.int .i64 9)])))
 (aB (decide (256<a0))
 (bV (T.v (.int .i64 9)).flat
 (R (T.cQ [T.sl false [],T.v (.int .i64 9)])))
 (aG [(false,Sy.int IntKind.i64)]
 (oL [T.v (.int .i64 a0),T.sl false (List.map aA.enc a1)])
 fun (y0:Int) =>
 aB (!decide (y0=0))
 (bV (T.v (.int .i64 y0)).flat
 (R (T.cQ [T.sl false [],T.v (.int .i64 y0)])))
 (bV
 ((decide (a0=a0)||decide (a0=0))&&decide (0≤a0)&&decide (a0*(↑1:Int)≤140737488355328) &&
 decide (a0≤140737488355328))
 (bX Sy.bool (List.replicate (Int.toNat a0) [T.v (.bool false)])
 fun (y1:List Bool) =>
 a7 (List Int×List Bool×PUnit)
 (fun (X2:List Int×List Bool×PUnit→Prop) (s3:List Int×List Bool×PUnit) =>
 aB (decide ((↑(List.map (Sy.int IntKind.i64).enc s3.1).length:Int)<a0))
 (bV
 ((decide (a0=a0)||decide (a0=0))&&decide (0≤a0) &&
 decide (a0*(↑1:Int)≤140737488355328) &&
 decide (a0≤140737488355328))
 (bX Sy.bool (List.replicate (Int.toNat a0) [T.v (.bool false)])
 fun (y4:List Bool) =>
 a7 (List Bool×Int×PUnit)
 (fun (X5:List Bool×Int×PUnit→Prop) (s6:List Bool×Int×PUnit) =>
 aB (decide (s6.2.1<(↑(List.map aA.enc a1).length:Int)))
 (aO aA (List.map aA.enc a1) s6.2.1
 fun (y7:aJ) =>
 aO Sy.bool (List.map Sy.bool.enc s3.2.1) y7.1
 fun (y8:Bool) =>
 BA Sy.bool (List.map Sy.bool.enc s3.2.1) (Int.toNat y7.1) 0
 fun (y9:Bool) =>
 aB (!y9)
 (aO aA (List.map aA.enc a1) s6.2.1
 fun (y10:aJ) =>
 aO Sy.bool (List.map Sy.bool.enc s6.1) y10.2
 fun (y11:Bool) =>
 AIL (List.map Sy.bool.enc s6.1) (Int.toNat y10.2)
 fun (y12:List T) =>
 bV (decide (1≤y12.length))
 (bX Sy.bool
 ((List.map Sy.bool.enc s6.1).set (Int.toNat y10.2)
 (cS y12 0 [T.v (.bool true)]))
 fun (y13:List Bool) =>
 X5 (y13,IntKind.i64.wrap (s6.2.1+1),())))
 (bX Sy.bool (List.map Sy.bool.enc s6.1)
 fun (y14:List Bool)=>X5 (y14,IntKind.i64.wrap (s6.2.1+1),())))
 (a7 (Int×Int×PUnit)
 (fun (X15:Int×Int×PUnit→Prop) (s16:Int×Int×PUnit) =>
 aB (decide (0≤s16.2.1))
 (aO Sy.bool (List.map Sy.bool.enc s3.2.1) s16.2.1
 fun (y17:Bool) =>
 BA Sy.bool (List.map Sy.bool.enc s3.2.1)
 (Int.toNat s16.2.1) 0 fun (y18:Bool) =>
 aB (!y18)
 (aO Sy.bool (List.map Sy.bool.enc s6.1) s16.2.1
 fun (y19:Bool) =>
 BA Sy.bool (List.map Sy.bool.enc s6.1)
 (Int.toNat s16.2.1) 0 fun (y20:Bool) =>
 aB (!y20)
 (X15 (s16.2.1,IntKind.i64.wrap (s16.2.1-1),()))
 (X15 (s16.1,IntKind.i64.wrap (s16.2.1-1),())))
 (X15 (s16.1,IntKind.i64.wrap (s16.2.1-1),())))
 (aB (decide (s16.1<0))
 (bV (T.v (.int .i64 20)).flat
 (R
 (T.cQ
 [T.sl false [],T.v (.int .i64 20)])))
 (aO Sy.bool (List.map Sy.bool.enc s3.2.1) s16.1
 fun (y21:Bool) =>
 AIL (List.map Sy.bool.enc s3.2.1) (Int.toNat s16.1)
 fun (y22:List T) =>
 bV (decide (1≤y22.length))
 (bV
 (decide
 (((List.map (Sy.int IntKind.i64).enc s3.1).length+1)*8 ≤
 140737488355328) &&
 decide
 ((List.map (Sy.int IntKind.i64).enc s3.1).length+1 ≤
 140737488355328))
 (bX (Sy.int IntKind.i64)
 (List.map (Sy.int IntKind.i64).enc s3.1 ++
 [[T.v (.int .i64 s16.1)]])
 fun (y23:List Int) =>
 bX Sy.bool
 ((List.map Sy.bool.enc s3.2.1).set (Int.toNat s16.1)
 (cS y22 0 [T.v (.bool true)]))
 fun (y24:List Bool)=>X2 (y23,y24,()))))))
 (-1,IntKind.i64.wrap (a0-1),())))
 (y4,0,())))
 (bV
 ((List.map (Sy.int IntKind.i64).enc s3.1).all fun (r:List T) =>
 r.all T.flat)
 (bV (T.v (.int .i64 0)).flat
 (R
 (T.cQ
 [T.sl false (List.map (Sy.int IntKind.i64).enc s3.1),
 T.v (.int .i64 0)])))))
 ([],y1,())))))
theorem XS ( a0 a1 R):sX aW Tryz.prog GJ T3 8 88 [aC false (Sy.int IntKind.i64) a0,aC false aA.li a1] R=HC a0 a1 R:=by kernel_rfl
abbrev zT:Sh:=[(false,(Sy.int IntKind.i64)),(false,aA.li)]
abbrev mI:Sh:=[(false,(Sy.int IntKind.i64).li),(false,Sy.int IntKind.i64)]
def CY (x:Int×List aJ):Option T:=lS x.2 (Sh.enc mI (dE x.1 x.2))
noncomputable def oQ:List T→Option (T):=gS zT CY
theorem ZP {a0 a1}:oQ [T.v (.int .i64 a0),T.sl false (List.map aA.enc a1)]=CY (a0,a1):=a6 (s:=zT) rfl (a0,a1) rfl
theorem ANL (h:∀ a0 a1 r,CY (a0,a1)=some r→bY zT (a0,a1)→HC a0 a1 (fun y=>y=r)):iM Tryz.prog 88 oQ :=
 AP2 (E:=GJ) (Hs:=T3) ABX aU aV (aL rfl) 8 ⟨_,_,Tryz.func88,rfl⟩ rfl fun x r h1 h2=>by
  obtain ⟨a0,a1⟩:=x
  rw[show Sh.bK zT (a0,a1)=[aC false (Sy.int IntKind.i64) a0,aC false aA.li a1] from rfl,XS]
  exact h a0 a1 r h1 h2
theorem AL0:iM Tryz.prog 88 oQ:=ANL fun n l r h hb=>by
 obtain ⟨hl,rfl⟩:=fY h
 clear h
 have hl:l.length≤140737488355328:=hl
 unfold HC
 refine bJ (fun h=>?_) fun hn0=>?_
 ·refine ⟨rfl,?_⟩
  show _=Sh.enc mI (dE n l)
  rw[dE,if_pos (Or.inl h)];rfl
 refine bJ (fun h=>?_) fun hn1=>?_
 ·refine ⟨rfl,?_⟩
  show _=Sh.enc mI (dE n l)
  rw[dE,if_pos (Or.inr h)];rfl
 refine aD (s:=[(false,.int .i64)]) (y:=bC (nA n) l) (by rw[ZF];exact dX _ hl) ?_
 refine gT (fun h0=>?_) (fun h0=>?_)
 ·refine ⟨rfl,?_⟩
  show _=Sh.enc mI (dE n l)
  rw[dE,if_neg (by omega),if_neg h0];rfl
 have hv:dE n l=pV l n.toNat n.toNat [] (List.replicate n.toNat false):=RN hl (by omega) (by omega) h0
 have hend:∀ e∈l,0≤e.1∧e.1<n∧0≤e.2∧e.2<n:=fun e he=>by
  have:=kZ h0 e he
  unfold nA at this
  split at this
  ·exact absurd this (by decide)
  ·omega
 clear h0 hb
 obtain ⟨N,rfl⟩:∃ N:Nat,n=(N:Int):=⟨n.toNat,by omega⟩
 rw[Int.toNat_natCast] at hv ⊢
 refine ⟨by simp;omega,?_⟩
 rw[AIH,dM rfl]
 refine aY N (fun k s=>s.1.length=k∧s.2.1.length=N∧pV l N (N-k) s.1 s.2.1=dE N l) ⟨rfl,by simp,by rw[hv];rfl⟩ ?_
 clear hv
 rintro X k ⟨o,t,u⟩ hk ⟨hol,htl,hr⟩ hX
 dsimp only at hol htl hr ⊢
 refine bJ (fun hlt=>?_) fun hge=>?_
 ·rw[List.length_map,hol] at hlt
  have hlt:k<N:=by omega
  obtain ⟨m,hm⟩:∃ m,N-k=m+1:=⟨N-k-1,by omega⟩
  rw[hm,pV] at hr
  refine ⟨by simp;omega,?_⟩
  rw[dM rfl]
  refine aY l.length (fun j s=>s.2.1=(j:Int)∧s.1.length=N∧∀ v,s.1.getD v false=K9 (l.take j) t v) ⟨rfl,by simp,fun v=>?_⟩ ?_
  ·show (List.replicate N false).getD v false=K9 [] t v
   rw[List.getD_eq_getElem?_getD,List.getElem?_replicate];split<;>rfl
  rintro Y j ⟨w,i,u⟩ hj ⟨rfl,hwl,hw⟩ hY
  dsimp only at hwl hw ⊢
  refine bJ (fun hjl=>?_) fun hjl=>?_
  ·rw[List.length_map] at hjl
   have hjl:j<l.length:=by omega
   rw[aS hjl]
   obtain ⟨e0,e1,f0,f1⟩:=hend _ (List.getElem_mem hjl)
   have ht:(l[j].1).toNat<t.length:=by omega
   have hwj:(l[j].2).toNat<w.length:=by omega
   rw[oY e0 ht,pU ht]
   have step:∀ v,K9 (l.take (j+1)) t v=(K9 (l.take j) t v||BE t v l[j]):=fun v=>by
    unfold K9;rw[List.take_succ_eq_append_getElem hjl,List.any_append];simp
   have hwr:IntKind.i64.wrap ((j:Int)+1)=((j+1:Nat):Int):=by rw[aQ]<;>omega
   refine dK (fun hf=>?_) fun hf=>?_
   ·rw[aS hjl,oY f0 hwj,EY hwj]
    refine ⟨rfl,?_⟩
    rw[R0 hwj,dM rfl]
    refine hY _ hjl ⟨hwr,?_,fun v=>?_⟩
    ·show (List.set _ _ _).length=N
     rw[List.length_set];exact hwl
    show (w.set (l[j].2).toNat true).getD v false=_
    rw[D8 hwj,step,←hw]
    unfold BE
    rw[mS (l:=t) false ht,hf]
    by_cases hc:v=l[j].2.toNat
    ·rw[if_pos hc,decide_eq_true (show l[j].2=(v:Int) by omega)];simp
    ·rw[if_neg hc,decide_eq_false (show ¬ l[j].2=(v:Int) by omega)];simp
   ·rw[dM rfl]
    refine hY _ hjl ⟨hwr,hwl,fun v=>?_⟩
    show w.getD v false=_
    rw[step,←hw]
    unfold BE
    rw[mS (l:=t) false ht,hf];simp
  rw[List.length_map] at hjl
  have:j=l.length:=by omega
  subst this
  rw[List.take_length] at hw
  clear hY hjl hj
  refine aY N (fun q s=>s.2.1=(N:Int)-1-(q:Int)∧s.1=match (List.range' (N-q) q).find? (pB l t) with
   | none=>-1
   | some v=>(v:Int)) ⟨?_,rfl⟩ ?_
  ·show IntKind.i64.wrap ((N:Int)-1)=(N:Int)-1-0
   rw[aQ]<;>omega
  rintro Z q ⟨x,i,u⟩ hq ⟨rfl,hx⟩ hZ
  dsimp only at hx ⊢
  refine bJ (fun hqn=>?_) fun hqn=>?_
  ·have hqn:q<N:=by omega
   obtain ⟨v,hv⟩:∃ v:Nat,(N:Int)-1-(q:Int)=(v:Int):=⟨N-1-q,by omega⟩
   rw[hv]
   have hvt:v<t.length:=by omega
   have hvw:v<w.length:=by omega
   rw[aS hvt,Int.toNat_natCast,pU hvt]
   have hfind:(List.range' (N-(q+1)) (q+1)).find? (pB l t)=if pB l t v=true then some v else (List.range' (N-q) q).find? (pB l t):=by
    have e:N-(q+1)=v:=by omega
    have e2:N-q=v+1:=by omega
    rw[e,e2,List.range'_succ,List.find?_cons];cases pB l t v<;>rfl
   have fw:pB l t v=(!t[v] && !w[v]):=by unfold pB;rw[←hw,mS (l:=t) false hvt,mS (l:=w) false hvw]
   have nx:IntKind.i64.wrap ((v:Int)-1)=(N:Int)-1-((q+1:Nat):Int):=by rw[aQ]<;>omega
   refine dK (fun h1=>?_) fun h1=>?_
   ·rw[aS hvw,pU hvw]
    refine dK (fun h2=>?_) fun h2=>?_
    ·refine hZ _ hqn ⟨nx,?_⟩
     show (v:Int)=_
     rw[hfind,fw,h1,h2];rfl
    ·refine hZ _ hqn ⟨nx,?_⟩
     show x=_
     rw[hfind,fw,h1,h2];exact hx
   ·refine hZ _ hqn ⟨nx,?_⟩
    show x=_
    rw[hfind,fw,h1];exact hx
  have hqN:q=N:=by omega
  rw[hqN,Nat.sub_self,←List.range_eq_range'] at hx
  clear hZ hqn hq
  cases hf:(List.range N).find? (pB l t) with
  | none =>
   rw[hf] at hx hr
   have hx:x = -1:=hx
   refine bJ (fun _=>⟨rfl,?_⟩) fun h=>?_
   ·show _=Sh.enc mI (dE (N:Int) l)
    rw[←hr];rfl
   ·exfalso;omega
  | some v =>
   rw[hf] at hx hr
   have hx:x=(v:Int):=hx
   subst hx
   have hvn:v<N:=List.mem_range.1 (List.mem_of_find?_eq_some hf)
   refine bJ (fun h=>by exfalso;omega) fun _=>?_
   have hvt:v<t.length:=by omega
   rw[aS hvt,Int.toNat_natCast,EY hvt]
   refine ⟨rfl,⟨by simp;omega,?_⟩⟩
   rw[tI (r:=.int .i64) rfl o [T.v (.int .i64 (v:Int))] (v:Int) rfl,R0 hvt,dM rfl]
   refine hX _ hlt ⟨by simp[hol],by simp[htl],?_⟩
   rw[show N-(k+1)=m by omega]
   exact hr
 ·rw[List.length_map,hol] at hge
  have hkN:k=N:=by omega
  subst hkN
  rw[Nat.sub_self,pV] at hr
  refine ⟨UT o,rfl,?_⟩
  show _=Sh.enc mI (dE (k:Int) l)
  rw[←hr];rfl
end Go.Pv
namespace Go.Pv
open Go Go.Proofs
end Go.Pv
namespace Go.Pv
open Go Go.Proofs
theorem AMD {d:aF} (h:fA d=0):eK d=false∧(lU (ids d.2.1)=true∧lU (ids d.2.2.1)=true∧lU (ids d.2.2.2.1)=true∧lU (ids d.2.2.2.2.1)=true)∧H0 d=false:=by
 unfold fA at h
 split at h
 ·cases h
 split at h
 ·cases h
 split at h
 ·cases h
 rename_i h1 h2 h3
 have h2:j5 d=true:=by simpa using h2
 simp only[j5,Bool.and_eq_true] at h2
 exact ⟨by simpa using h1,⟨h2.1.1.1.1,h2.1.1.1.2,h2.1.1.2,h2.1.2⟩,by simpa using h3⟩
theorem uW {α:Type} {l:List (ByteArray×α)} {id:ByteArray} {a:ByteArray×α} (h:l.find? (fun s=>decide (s.1=id))=some a):a∈l∧a.1=id :=
 ⟨List.mem_of_find?_eq_some h,by have:=List.find?_some h;simpa using this⟩
theorem A0S {d:aF}:∀ {n:Nat} {id:ByteArray} {l:List ByteArray},(upF d n id l).2=true→(upF d n id l).1≠[]
 | 0,_,_,h=>by cases h
 | n+1,id,l,h=>by
  unfold upF at h ⊢
  cases hn:cJ d id with
  | none=>rw[hn] at h;cases h
  | some x =>
   rw[hn] at h
   dsimp only at h ⊢
   by_cases h1:x.2.1=1
   ·rw[if_pos h1];simp
   ·rw[if_neg h1] at h ⊢;exact A0S h
structure VOk (d:aF):Prop where
 u:UOk d
 long:d.2.2.2.2.1.length≤64
 A9A:lU (ids d.2.2.2.2.1)=true
 none:∀ p∈d.2.2.1,cJ d p.1=none
 up:∀ p∈d.2.2.1,(up d (e9 p)).2=true
def okV (d:aF):Bool:=okU d&&(decide (fA d=0)&&(decide (eD d=0)&&d.2.2.1.all fun p=>(cJ d (e9 p)).isSome))
theorem A3A {d:aF} (h:okV d=true):VOk d:=by
 simp only[okV,Bool.and_eq_true,decide_eq_true_eq,List.all_eq_true] at h
 obtain ⟨h0,h1,h2,h3⟩:=h
 obtain ⟨f1,⟨-,-,-,f4⟩,f5⟩:=AMD h1
 refine ⟨rX h0,?_,f4,fun p hp=>?_,fun p hp=>?_⟩
 ·simp only[eK,Bool.or_eq_false_iff,decide_eq_false_iff_not] at f1;omega
 ·cases hn:cJ d p.1 with
  | none=>rfl
  | some n =>
   exfalso
   obtain ⟨m1,m2⟩:=uW hn
   have:H0 d=true:=B5 (m:=ids d.2.1) (l:=ids d.2.2.1) (.inl ⟨rfl,rfl⟩) (List.any_eq_true.2 ⟨p.1,List.mem_map.2 ⟨p,hp,rfl⟩,j1.2 (m2 ▸ List.mem_map.2 ⟨n,m1,rfl⟩)⟩)
   rw[f5] at this;cases this
 ·have h4:=h3 p hp
  obtain ⟨n,hn⟩:=Option.isSome_iff_exists.1 h4
  obtain ⟨m1,m2⟩:=uW hn
  have hup:AHX d=false:=by
   unfold eD at h2
   split at h2
   ·split at h2
    ·cases h2
    ·rename_i h;simpa using h
   ·rename_i h;exact absurd h2 h
  unfold AHX at hup
  rw[←m2]
  cases hc:(up d n.1).2 with
  | true=>rfl
  | false =>
   exfalso
   rw[Bool.eq_false_iff] at hup
   exact hup (List.any_eq_true.2 ⟨n,m1,by rw[hc];rfl⟩)
theorem ARQ {d:aF} (v:VOk d) {p:bL} {id b:ByteArray} (hp:partOf d id=some p):p.1=id∧((fV d p.1).1=b↔(up d (e9 p)).1.getLast? = some b):=by
 obtain ⟨m1,m2⟩:=uW hp
 refine ⟨m2,?_⟩
 have hu:=v.up p m1
 have e:fV d p.1=(Q4 (up d (e9 p)).1,true):=by
  unfold fV
  rw[v.none p m1,m2,hp]
  show WA d (e9 p)=_
  unfold WA
  rw[if_pos hu]
 rw[e]
 have hne:(up d (e9 p)).1≠[]:=A0S hu
 show Q4 _=b↔_
 unfold Q4
 rw[List.getLastD_eq_getLast?]
 cases hl:(up d (e9 p)).1.getLast? with
 | none=>exact absurd (List.getLast?_eq_none_iff.1 hl) hne
 | some x=>exact ⟨fun h=>congrArg some h,fun h=>Option.some.inj h⟩
noncomputable def MQ:Env:=Env.of [(85,.pure eN),(124,.pure jI),(14,.pure eH)]
def ADR:FuncId→Hint:=fun f=>match f == 87 with|true=>⟨fun r=>match r == 3 with|true=>.inv [.val 6 false (.int .i64)]|false=>match r == 14 with|true=>.inv [.val 11 false (.int .i64)]|false=>.none,fun _ _=>none,fun _=>none⟩|false=>aT
theorem AJF:aE Tryz.prog MQ:=aE.cons (x:=.pure eN) yS (aE.cons (x:=.pure jI) ALR (aE.cons (x:=.pure eH) QD (aE.nil _)))
def NZ (a0:aF) (a1:Int) (R:T→Prop):Prop :=
 aO aR (List.map aR.enc a0.2.2.2.2.1) a1 fun (y0:cB) =>
 a7 (Int×PUnit)
 (fun (X1:Int×PUnit→Prop) (s2:Int×PUnit) =>
 aB (decide (s2.1<(↑(List.map Sy.str.enc y0.2.2.1).length:Int)))
 (aO Sy.str (List.map Sy.str.enc y0.2.2.1) s2.1 fun (y3:ByteArray) =>
 aG [(true,aX),(false,Sy.bool)]
 (eN [aC true aM a0,T.v (.string y3)])
 fun (y4:bL×Bool) =>
 aB (!y4.2) (R (T.v (.int .i64 8)))
 (aB (!decide (y4.1.2.2.1=4))
 (aB (!decide (y4.1.2.2.1=3)) (R (T.v (.int .i64 10)))
 (aG [(false,Sy.str),(false,Sy.bool)]
 (jI [aC true aM a0,T.v (.string y4.1.1)])
 fun (y5:ByteArray×Bool) =>
 aB (!decide (y5.1=y0.2.1)) (R (T.v (.int .i64 2)))
 (a7 (Int×PUnit)
 (fun (X6:Int×PUnit→Prop) (s7:Int×PUnit) =>
 aB (decide (s7.1<a1))
 (aO aR (List.map aR.enc a0.2.2.2.2.1) s7.1
 fun (y8:cB) =>
 aG [(false,Sy.bool)]
 (eH
 [T.sl false (List.map Sy.str.enc y8.2.2.1),
 T.v (.string y4.1.1)])
 fun (y9:Bool) =>
 aB y9 (R (T.v (.int .i64 7)))
 (X6 (IntKind.i64.wrap (s7.1+1),())))
 (X1 (IntKind.i64.wrap (s2.1+1),())))
 (0,()))))
 (aG [(false,Sy.str),(false,Sy.bool)]
 (jI [aC true aM a0,T.v (.string y4.1.1)])
 fun (y10:ByteArray×Bool) =>
 aB (!decide (y10.1=y0.2.1)) (R (T.v (.int .i64 2)))
 (a7 (Int×PUnit)
 (fun (X11:Int×PUnit→Prop) (s12:Int×PUnit) =>
 aB (decide (s12.1<a1))
 (aO aR (List.map aR.enc a0.2.2.2.2.1) s12.1
 fun (y13:cB) =>
 aG [(false,Sy.bool)]
 (eH
 [T.sl false (List.map Sy.str.enc y13.2.2.1),
 T.v (.string y4.1.1)])
 fun (y14:Bool) =>
 aB y14 (R (T.v (.int .i64 7)))
 (X11 (IntKind.i64.wrap (s12.1+1),())))
 (X1 (IntKind.i64.wrap (s2.1+1),())))
 (0,())))))
 (R (T.v (.int .i64 0))))
 (0,())
theorem ACI ( a0 a1 R):bA aW Tryz.prog MQ ADR 8 87 [aC true aM a0,aC false (Sy.int IntKind.i64) a1] R=NZ a0 a1 R:=by kernel_rfl
abbrev E3:Sh:=[(true,aM),(false,(Sy.int IntKind.i64))]
def DM (d:aF) (k:Nat) (b:ByteArray) (id:ByteArray):Int:=match partOf d id with
 | none=>8
 | some p=>if ¬ bB p=4∧¬ bB p=3 then 10 else if ¬ (fV d p.1).1=b then 2 else if ((d.2.2.2.2.1.take k).any fun q=>mG (dA q) p.1)=true then 7 else 0
def KC (d:aF) (k:Nat) (x:cB):Int:=bC (DM d k x.2.1) (dA x)
def uG (x:aF×Int):Option T:=match decide (0≤x.2),x.1.2.2.2.2.1[x.2.toNat]? with
 | true,some k=>rY x.1 (T.v (Value.int .i64 (KC x.1 x.2.toNat k)))
 | _,_=>none
noncomputable def tO:List T→Option (T):=gS E3 uG
theorem AF6 {a0 a1}:tO [aC true aM a0,T.v (.int .i64 a1)]=uG (a0,a1):=a6 (s:=E3) rfl (a0,a1) rfl
theorem ATQ (h:∀ a0 a1 r,uG (a0,a1)=some r→bY E3 (a0,a1)→NZ a0 a1 (fun y=>y=r)):aK Tryz.prog 87 tO :=
 aP (E:=MQ) (Hs:=ADR) AJF aU aV (aL rfl) 8 ⟨_,_,Tryz.func87,rfl⟩ rfl fun x r h1 h2=>by
  obtain ⟨a0,a1⟩:=x
  rw[show Sh.bK E3 (a0,a1)=[aC true aM a0,aC false (Sy.int IntKind.i64) a1] from rfl,ACI]
  exact h a0 a1 r h1 h2
theorem YX {d:aF} (u:UOk d) {id:ByteArray} {K:ByteArray×Bool→Prop} (h:K (fV d id)):aG [(false,Sy.str),(false,Sy.bool)] (jI [aC true aM d,T.v (.string id)]) K:=aD (s:=AAP) ((ZE ..).trans (AZ2 _ u.okD u.okK (AU6 u.H7 (by omega)))) h
theorem ASF:aK Tryz.prog 87 tO:=ATQ fun d i r h hb=>by
 unfold uG at h
 split at h
 case h_2=>cases h
 rename_i y h0 hy
 have h0:0≤i:=of_decide_eq_true h0
 obtain ⟨k,rfl⟩:∃ k:Nat,i=(k:Int):=⟨i.toNat,by omega⟩
 obtain ⟨hu,rfl⟩:=lI h
 have u:UOk d:=rX hu
 clear h hb h0
 have hy:d.2.2.2.2.1[k]? = some y:=hy
 obtain ⟨hk,hy⟩:=List.getElem?_eq_some_iff.1 hy
 have hl:=u.kl y (hy ▸ List.getElem_mem hk)
 have hkl:=u.k
 unfold NZ
 dsimp only
 rw[aS (r:=aR) hk,hy]
 show _
 refine fG (r:=.str) (DM d k y.2.1) (show (dA y).length≤_ by omega) (fun X s id hid hok hbad=>?_) fun h0=>?_
 ·have bad:∀ {n:Int},n≠0→DM d k y.2.1 id=n→T.v (.int .i64 n)=T.v (.int .i64 (KC d k y)):=fun hn h=>by
   unfold KC
   rw[hbad (by rw[h];exact hn),h]
  clear hbad
  refine xT ?_
  cases hp:partOf d id with
  | none=>exact dK (fun _=>bad (by decide) (by unfold DM;rw[hp])) fun h=>Bool.noConfusion h
  | some p =>
   refine dK (fun h=>Bool.noConfusion h) fun _=>?_
   dsimp only[found]
   have w:DM d k y.2.1 id=if ¬ bB p=4∧¬ bB p=3 then 10 else if ¬ (fV d p.1).1=y.2.1 then 2 else if ((d.2.2.2.2.1.take k).any fun q=>mG (dA q) p.1)=true then 7 else 0:=by unfold DM;rw[hp]
   have tail:¬ (¬ bB p=4∧¬ bB p=3)→aG [(false,Sy.str),(false,Sy.bool)] (jI [aC true aM d,T.v (.string p.1)])
     (fun (y5:ByteArray×Bool)=>aB (!decide (y5.1=y.2.1)) (T.v (.int .i64 2)=T.v (.int .i64 (KC d k y)))
      (a7 (Int×PUnit) (fun (X6:Int×PUnit→Prop) (s7:Int×PUnit)=>aB (decide (s7.1<(k:Int)))
       (aO aR (List.map aR.enc d.2.2.2.2.1) s7.1 fun (y8:cB)=>aG [(false,Sy.bool)] (eH [T.sl false (List.map Sy.str.enc y8.2.2.1),T.v (.string p.1)]) fun (y9:Bool) =>
        aB y9 (T.v (.int .i64 7)=T.v (.int .i64 (KC d k y))) (X6 (IntKind.i64.wrap (s7.1+1),())))
       (X (IntKind.i64.wrap (s.1+1),()))) (0,()))):=by
    intro hkind
    rw[if_neg hkind] at w
    refine YX u ?_
    refine gT (fun h=>bad (by decide) (by rw[w,if_pos h])) fun h=>?_
    rw[if_neg (fun h2=>h2 h)] at w
    refine aY k (fun j s=>s=((j:Int),())∧∀ q∈d.2.2.2.2.1.take j,mG (dA q) p.1=false) ⟨rfl,by simp⟩ ?_
    rintro Z j _ hj ⟨rfl,hall⟩ hZ
    dsimp only
    refine bJ (fun hlt=>?_) fun hge=>?_
    ·have hlt:j<k:=by omega
     have hjl:j<d.2.2.2.2.1.length:=by omega
     have ht:d.2.2.2.2.1.take (j+1)=d.2.2.2.2.1.take j++[d.2.2.2.2.1[j]]:=List.take_succ_eq_append_getElem hjl
     rw[aS (r:=aR) hjl]
     refine aD (s:=xU) (y:=mG (dA d.2.2.2.2.1[j]) p.1) (CB ..) ?_
     refine tA (fun h=>bad (by decide) ?_) fun h=>hZ _ hlt ⟨?_,fun q hq=>?_⟩
     ·rw[w,if_pos]
      refine List.any_eq_true.2 ⟨d.2.2.2.2.1[j],?_,h⟩
      exact List.mem_take_iff_getElem.2 ⟨j,by omega,rfl⟩
     ·rw[show IntKind.i64.wrap ((j:Int)+1)=((j+1:Nat):Int) from aQ _ (by omega) (by omega)]
     ·rw[ht] at hq
      rcases List.mem_append.1 hq with hq|hq
      ·exact hall q hq
      ·rw[List.mem_singleton.1 hq];exact h
    ·have hjk:j=k:=by omega
     subst hjk
     refine hok ?_
     rw[w,if_neg]
     intro h
     obtain ⟨q,hq,h⟩:=List.any_eq_true.1 h
     rw[hall q hq] at h;cases h
   refine gT (fun h4=>gT (fun h3=>bad (by decide) ?_) fun h3=>tail fun h=>h.2 h3) fun h4=>tail fun h=>h.1 h4
   rw[w,if_pos ⟨h4,h3⟩]
 ·show _=T.v (.int .i64 (KC d k y))
  unfold KC
  rw[h0]
theorem inst_eq {d:aF} (v:VOk d) {k:Nat} {b:ByteArray}:∀ {l S:List ByteArray},l.Nodup→(∀ id∈l,id∈S↔((d.2.2.2.2.1.take k).any fun q=>mG (dA q) id)=true)→(instE d b l S).1=bC (DM d k b) l∧((instE d b l S).1=0→∀ id,id∈(instE d b l S).2↔id∈S∨id∈l)
 | [],S,_,_=>⟨rfl,fun _ id=>by simp[instE]⟩
 | a::l,S,hn,hS=>by
  obtain ⟨n1,n2⟩:=List.pairwise_cons.1 hn
  have hc:DM d k b a=match partOf d a with
   | none=>8
   | some p=>if ¬ bB p=4∧¬ bB p=3 then 10 else if ¬ (fV d p.1).1=b then 2 else if ((d.2.2.2.2.1.take k).any fun q=>mG (dA q) p.1)=true then 7 else 0:=rfl
  rw[instE,bC]
  cases hp:partOf d a with
  | none =>
   rw[hp] at hc
   have hc:DM d k b a=8:=hc
   rw[hc];exact ⟨by show (8:Int)=_;rw[if_neg (by decide)],fun h=>by cases h⟩
  | some p =>
   rw[hp] at hc
   obtain ⟨e1,e2⟩:=ARQ v (b:=b) hp
   dsimp only at hc ⊢
   by_cases c1:¬ bB p=4∧¬ bB p=3
   ·rw[if_pos c1] at hc ⊢;rw[hc];exact ⟨by rw[if_neg (by decide)],fun h=>by cases h⟩
   rw[if_neg c1] at hc ⊢
   by_cases c2:(up d (e9 p)).1.getLast? = some b
   ·rw[if_neg (fun h=>h (e2.2 c2))] at hc
    rw[if_pos c2]
    rw[e1] at hc
    have hm:=hS a (by simp)
    by_cases c3:mG S a=true
    ·rw[if_pos (hm.1 (j1.1 c3))] at hc
     rw[if_pos c3,hc];exact ⟨by rw[if_neg (by decide)],fun h=>by cases h⟩
    ·rw[if_neg (fun h=>c3 (j1.2 (hm.2 h)))] at hc
     rw[if_neg c3,hc,if_pos rfl]
     obtain ⟨r1,r2⟩:=inst_eq v (k:=k) (b:=b) (l:=l) (S:=a::S) n2 fun id hid=>by
      rw[←hS id (List.mem_cons_of_mem _ hid)]
      exact ⟨fun h=>(List.mem_cons.1 h).resolve_left fun e=>n1 id hid e.symm,fun h=>List.mem_cons_of_mem _ h⟩
     refine ⟨r1,fun h id=>?_⟩
     rw[r2 h id]
     simp only[List.mem_cons]
     exact ⟨fun h=>h.elim (fun h=>h.elim (fun h=>.inr (.inl h)) .inl) fun h=>.inr (.inr h),fun h=>h.elim (fun h=>.inl (.inr h)) fun h=>h.elim (fun h=>.inl (.inl h)) .inr⟩
   ·rw[if_pos (fun h=>c2 (e2.1 h))] at hc
    rw[if_neg c2,hc];exact ⟨by rw[if_neg (by decide)],fun h=>by cases h⟩
theorem RR {l:List aJ} {n:Nat}:∀ {f:Nat} {o:List Int} {t:List Bool},(pV l n f o t).2=0∨(pV l n f o t).2=20
 | 0,o,t=>.inl rfl
 | f+1,o,t=>by
  rw[pV]
  cases (List.range n).find? (pB l t) with
  | none=>exact .inr rfl
  | some v=>exact RR (f:=f)
theorem QC {α:Type} {f:α→Int}:∀ {l:List α},(∀ a∈l,f a=0)→bC f l=0
 | [],_=>rfl
 | a::l,h=>by rw[bC,if_pos (h a (by simp))];exact QC fun b hb=>h b (by simp[hb])
theorem A4W {d:aF} {k id:ByteArray} {i j:Nat} (hi:i<d.2.2.2.2.1.length) (hj:j<d.2.2.2.2.1.length) (hk:d.2.2.2.2.1[i].1=k) (h:d.2.2.2.2.1[j].1=id) (hne:¬ id=k):j≠i:=by
 intro e;subst e;exact hne (h.symm.trans hk)
theorem A2E {α:Type} {l:List (ByteArray×α)} {n:Nat} (h:n<(ids l).length):(ids l)[n]=(l[n]'(by unfold ids at h;rw[List.length_map] at h;exact h)).1:=by simp only[ids,List.getElem_map]
theorem A2F {α:Type} {l:List (ByteArray×α)} (hn:(ids l).Nodup) {i j:Nat} (hi:i<l.length) (hj:j<l.length) (h:l[i].1=l[j].1):i=j:=by
 have li:∀ {m:Nat},m<l.length→m<(ids l).length:=fun h=>by unfold ids;rw[List.length_map];exact h
 have h2:(ids l)[i]'(li hi)=(ids l)[j]'(li hj):=by simp only[ids,List.getElem_map];exact h
 have hp:=List.pairwise_iff_getElem.1 hn
 rcases Nat.lt_trichotomy i j with h3|h3|h3
 ·exact absurd h2 (hp i j (li hi) (li hj) h3)
 ·exact h3
 ·exact absurd h2.symm (hp j i (li hj) (li hi) h3)
noncomputable def GK:Env:=Env.of [(79,.pure dF),(86,.pure cA),(77,.pure iN),(87,.pure tO),(14,.pure eH),(76,.pure iG),(88,.new oQ)]
def T4:FuncId→Hint:=fun f=>match f == 35 with|true=>⟨fun r=>match r == 4 with|true=>.inv [.own 4 2 (.pr (.int .i64) (.int .i64)),.val 5 false (.int .i64)]|false=>match r == 19 with|true=>.inv [.own 4 2 (.pr (.int .i64) (.int .i64)),.val 8 false (.int .i64)]|false=>match r == 26 with|true=>.inv [.own 4 2 (.pr (.int .i64) (.int .i64)),.val 9 false (.int .i64)]|false=>.none,fun _ _=>none,fun _=>none⟩|false=>aT
theorem ABY:aE Tryz.prog GK:=aE.cons (x:=.pure dF) yQ (aE.cons (x:=.pure cA) QE (aE.cons (x:=.pure iN) AFL (aE.cons (x:=.pure tO) ASF (aE.cons (x:=.pure eH) QD (aE.cons (x:=.pure iG) QF (aE.cons (x:=.new oQ) AL0 (aE.nil _)))))))
def HD (a0:aF) (R:T→Prop):Prop :=
 aG [(true,Sy.str.li.pr (Sy.str.li.pr (Sy.str.li.pr Sy.str.li)))]
 (iG [aC true aM a0])
 fun (y0:List ByteArray×List ByteArray×List ByteArray×List ByteArray) =>
 a7 (List aJ×Int×PUnit)
 (fun (X1:List aJ×Int×PUnit→Prop) (s2:List aJ×Int×PUnit) =>
 aB (decide (s2.2.1<(↑(List.map aR.enc a0.2.2.2.2.1).length:Int)))
 (aO aR (List.map aR.enc a0.2.2.2.2.1) s2.2.1
 fun (y3:cB) =>
 aG [(false,Sy.bool)] (dF [T.v (.string y3.1)]) fun (y4:Bool) =>
 aB (!y4) (R (T.v (.int .i64 6)))
 (aG [(false,Sy.bool)]
 (cA [aC true aM a0,T.v (.string y3.2.1)])
 fun (y5:Bool) =>
 aB (!y5) (R (T.v (.int .i64 8)))
 (aB (decide (y3.2.2.2.1<1)) (R (T.v (.int .i64 9)))
 (aB (decide (10000<y3.2.2.2.1)) (R (T.v (.int .i64 9)))
 (aG [(false,Sy.bool)]
 (iN [T.sl false (List.map Sy.str.enc y3.2.2.1)]) fun (y6:Bool) =>
 aB (!y6) (R (T.v (.int .i64 11)))
 (aG [(false,Sy.bool)]
 (iN [T.sl false (List.map Sy.str.enc y3.2.2.2.2)])
 fun (y7:Bool) =>
 aB (!y7) (R (T.v (.int .i64 11)))
 (aG [(false,Sy.int IntKind.i64)]
 (tO
 [aC true aM a0,
 T.v (.int .i64 s2.2.1)])
 fun (y8:Int) =>
 aB (!decide (y8=0)) (R (T.v (.int .i64 y8)))
 (bX aA (List.map aA.enc s2.1)
 fun (y9:List aJ) =>
 a7 (List aJ×Int×PUnit)
 (fun (X10:List aJ×Int×PUnit→Prop)
 (s11:List aJ×Int×PUnit) =>
 aB
 (decide
 (s11.2.1 <
 (↑(List.map Sy.str.enc y3.2.2.2.2).length:Int)))
 (aO Sy.str (List.map Sy.str.enc y3.2.2.2.2)
 s11.2.1 fun (y12:ByteArray) =>
 aB (decide (y12=y3.1))
 (R (T.v (.int .i64 2)))
 (aO Sy.str (List.map Sy.str.enc y3.2.2.2.2)
 s11.2.1 fun (y13:ByteArray) =>
 aG [(false,Sy.bool)]
 (eH
 [T.sl false (List.map Sy.str.enc y0.2.2.2),
 T.v (.string y13)])
 fun (y14:Bool) =>
 aB (!y14) (R (T.v (.int .i64 8)))
 (bX aA (List.map aA.enc s11.1)
 fun (y15:List aJ) =>
 a7 (List aJ×Int×PUnit)
 (fun (X16:List aJ×Int×PUnit→Prop)
 (s17:List aJ×Int×PUnit) =>
 aB
 (decide
 (s17.2.1 <
 (↑(List.map Sy.str.enc y0.2.2.2).length :
 Int)))
 (aO Sy.str
 (List.map Sy.str.enc y0.2.2.2) s17.2.1
 fun (y18:ByteArray) =>
 aO Sy.str
 (List.map Sy.str.enc y3.2.2.2.2)
 s11.2.1 fun (y19:ByteArray) =>
 aB (decide (y18=y19))
 (bV
 (decide
 (((List.map aA.enc s17.1).length +
 1) *
 16 ≤
 140737488355328) &&
 decide
 ((List.map aA.enc s17.1).length +
 1 ≤
 140737488355328))
 (bX aA
 (List.map aA.enc s17.1 ++
 [[T.v
 (Value.int IntKind.i64 s17.2.1),
 T.v
 (Value.int IntKind.i64
 s2.2.1)]])
 fun (y20:List aJ) =>
 X16
 (y20,IntKind.i64.wrap (s17.2.1+1),
 ())))
 (bX aA
 (List.map aA.enc s17.1)
 fun (y21:List aJ) =>
 X16
 (y21,IntKind.i64.wrap (s17.2.1+1),())))
 (bX aA (List.map aA.enc s17.1)
 fun (y22:List aJ) =>
 X10 (y22,IntKind.i64.wrap (s11.2.1+1),())))
 (y15,0,()))))
 (bX aA (List.map aA.enc s11.1)
 fun (y23:List aJ) =>
 X1 (y23,IntKind.i64.wrap (s2.2.1+1),())))
 (y9,0,())))))))))
 (aG [(false,(Sy.int IntKind.i64).li),(false,Sy.int IntKind.i64)]
 (oQ
 [T.v
 (Value.int IntKind.i64 (↑(List.map aR.enc a0.2.2.2.2.1).length:Int)),
 T.sl false (List.map aA.enc s2.1)])
 fun (y24:List Int×Int)=>R (T.v (.int .i64 y24.2))))
 ([],0,())
theorem XT ( a0 R):bA aW Tryz.prog GK T4 8 35 [aC true aM a0] R=HD a0 R:=by kernel_rfl
abbrev zU:Sh:=[(true,aM)]
def p6 (d:aF):Option T:=match okV d with
 | true=>some (T.v (Value.int .i64 (dU d)))
 | false=>none
noncomputable def oR:List T→Option (T):=gS zU p6
theorem ZQ {a0}:oR [aC true aM a0]=p6 (a0):=a6 (s:=zU) rfl (a0) rfl
theorem ANM (h:∀ a0 r,p6 (a0)=some r→bY zU (a0)→HD a0 (fun y=>y=r)):aK Tryz.prog 35 oR :=
 aP (E:=GK) (Hs:=T4) ABY aU aV (aL rfl) 8 ⟨_,_,Tryz.func35,rfl⟩ rfl fun x r h1 h2=>by
  let a0:=x
  rw[show Sh.bK zU (a0)=[aC true aM a0] from rfl,XT]
  exact h a0 r h1 h2
theorem AMU {l:List ByteArray} {x:ByteArray} {K:Bool→Prop} (h:K (mG l x)):aG [(false,Sy.bool)] (eH [T.sl false (List.map Sy.str.enc l),T.v (.string x)]) K:=aD (s:=xU) (y:=mG l x) (CB ..) h
theorem PJ {l:List ByteArray} {K:Bool→Prop} (hl:l.length≤1000) (h:K (lU l)):aG [(false,Sy.bool)] (iN [T.sl false (List.map Sy.str.enc l)]) K:=aD (s:=xU) (y:=lU l) ((pD ..).trans (dX _ (by omega))) h
theorem dkp {l:List aJ} {rows:List (List T)} {K:List aJ→Prop} (e:rows=List.map aA.enc l) (h:K l):bX aA rows K:=by
 subst e;rw[dM (r:=aA) rfl];exact h
theorem AL1:aK Tryz.prog 35 oR:=ANM fun d r h hb=>by
 unfold p6 at h
 split at h
 case h_2=>cases h
 rename_i hv
 cases h
 have v:=A3A hv
 have u:=v.u
 have hu:okU d=true:=by simp only[okV,Bool.and_eq_true] at hv;exact hv.1
 have hlong:=v.long
 have hnd:=HX v.A9A
 clear hb hv
 have is:∀ {n:Int},dU d=n→T.v (.int .i64 n)=T.v (.int .i64 (dU d)):=fun h=>by rw[h]
 unfold HD
 refine aD (s:=q4) (D3 hu) ?_
 refine aY d.2.2.2.2.1.length (fun k s=>s.2.1=(k:Int)∧s.1.length≤k*1000∧(∀ e∈s.1,nA d.2.2.2.2.1.length e=0)∧∃ S,(∀ id,id∈S↔((d.2.2.2.2.1.take k).any fun q=>mG (dA q) id)=true)∧iQ d (d.2.2.2.2.1.drop k) k s.1 S=iQ d d.2.2.2.2.1 0 [] []) ⟨rfl,by simp,by simp,[],by simp,rfl⟩ ?_
 rintro X k ⟨E,i,w⟩ hk ⟨rfl,hEl,hE,S,hS,hr⟩ hX
 dsimp only at hEl hE hr ⊢
 refine bJ (fun hlt=>?_) fun hge=>?_
 ·rw[List.length_map] at hlt
  have hlt:k<d.2.2.2.2.1.length:=by omega
  rw[aS (r:=aR) hlt]
  have hd:d.2.2.2.2.1.drop k=d.2.2.2.2.1[k]::d.2.2.2.2.1.drop (k+1):=List.drop_eq_getElem_cons hlt
  have ht:d.2.2.2.2.1.take (k+1)=d.2.2.2.2.1.take k++[d.2.2.2.2.1[k]]:=List.take_succ_eq_append_getElem hlt
  have hkl:=u.kl _ (List.getElem_mem hlt)
  have hki:=u.kI _ (List.getElem_mem hlt)
  have hget:d.2.2.2.2.1[k]? = some d.2.2.2.2.1[k]:=List.getElem?_eq_getElem hlt
  generalize hy:d.2.2.2.2.1[k]=y at hd ht hkl hki hget
  rw[hd,iQ] at hr
  have bad:∀ {n:Int},n≠0→(iQ d d.2.2.2.2.1 0 [] []).1=n→T.v (.int .i64 n)=T.v (.int .i64 (dU d)):=fun hn h=>is (by unfold dU;rw[if_neg (by rw[h];exact hn),h])
  have badH:∀ {n:Int},n≠0→kN d y=n→T.v (.int .i64 n)=T.v (.int .i64 (dU d)):=fun hn h=>bad hn (by rw[←hr,if_pos (by rw[h];exact hn),h])
  refine nC hki ?_
  refine dK (fun h=>badH (by decide) (by unfold kN;rw[if_pos h])) fun i1=>?_
  have n1:¬ gP y.1=false:=by rw[show gP y.1=true from i1];exact Bool.noConfusion
  refine Q0 ?_
  refine dK (fun h=>badH (by decide) (by unfold kN;rw[if_neg n1,if_pos h])) fun i2=>?_
  have n2:¬ n8 d y.2.1=false:=by rw[show n8 d y.2.1=true from i2];exact Bool.noConfusion
  refine bJ (fun h=>badH (by decide) (by unfold kN;rw[if_neg n1,if_neg n2,if_pos (.inl h)])) fun h1=>?_
  refine bJ (fun h=>badH (by decide) (by unfold kN;rw[if_neg n1,if_neg n2,if_pos (.inr h)])) fun h2=>?_
  have n3:¬ (IS y<1∨10000<IS y):=fun h=>h.elim h1 h2
  refine PJ hkl.1 ?_
  refine dK (fun h=>badH (by decide) (by unfold kN;rw[if_neg n1,if_neg n2,if_neg n3,if_pos (.inl h)])) fun a1=>?_
  refine PJ hkl.2 ?_
  refine dK (fun h=>badH (by decide) (by unfold kN;rw[if_neg n1,if_neg n2,if_neg n3,if_pos (.inr h)])) fun a2=>?_
  have h0:kN d y=0:=by
   unfold kN;rw[if_neg n1,if_neg n2,if_neg n3,if_neg]
   rw[show lU (dA y)=true from a1,show lU (cF y)=true from a2];decide
  clear badH n1 n2 n3 i1 i2 h1 h2
  rw[if_neg (fun h=>h h0)] at hr
  obtain ⟨q1,q2⟩:=inst_eq v (k:=k) (b:=y.2.1) (l:=dA y) (S:=S) (HX a1) fun id _=>hS id
  refine aD (s:=[(false,.int .i64)]) (y:=KC d k y) ((AF6 ..).trans ?_) ?_
  ·unfold uG
   dsimp only
   rw[decide_eq_true (show (0:Int)≤(k:Int) by omega),Int.toNat_natCast,hget]
   exact lJ _ hu
  refine gT (fun h=>bad h (by rw[←hr,if_pos (by rw[q1];exact h),q1];rfl)) fun hc=>?_
  have hc:(instE d y.2.1 (dA y) S).1=0:=q1.trans hc
  rw[if_neg (fun h=>h hc)] at hr
  refine dkp (l:=E) rfl ?_
  refine aY (cF y).length (fun j s=>s.2.1=(j:Int)∧s.1.length≤k*1000+j∧(∀ e∈s.1,nA d.2.2.2.2.1.length e=0)∧B1 d y.1 k ((cF y).drop j) s.1=B1 d y.1 k (cF y) E) ⟨rfl,by simpa using hEl,hE,rfl⟩ ?_
  rintro Y j ⟨F,i,w⟩ hj ⟨rfl,hFl,hF,ha⟩ hY
  dsimp only at hFl hF ha ⊢
  refine bJ (fun hlj=>?_) fun hgj=>?_
  ·rw[List.length_map] at hlj
   have hlj:j<(cF y).length:=by
    have:(j:Int)<((cF y).length:Int):=hlj
    omega
   rw[aS (r:=.str) (l:=cF y) hlj]
   have hdj:(cF y).drop j=(cF y)[j]::(cF y).drop (j+1):=List.drop_eq_getElem_cons hlj
   rw[hdj,B1] at ha
   generalize hid:(cF y)[j]=id at ha
   have badA:∀ {n:Int},n≠0→(B1 d y.1 k (cF y) E).1=n→T.v (.int .i64 n)=T.v (.int .i64 (dU d)):=fun hn h=>bad hn (by rw[←hr,if_pos (by rw[h];exact hn),h])
   refine bJ (fun h=>badA (by decide) (by rw[←ha,if_pos h])) fun hne=>?_
   rw[if_neg hne] at ha
   rw[aS (r:=.str) (l:=cF y) hlj,hid]
   refine AMU ?_
   rcases xH id d.2.2.2.2.1 with ⟨g1,g2⟩|⟨m,hm,g1,g2⟩
   ·rw[g1] at ha
    have hno:mG (ids d.2.2.2.2.1) id=false:=by
     rw[Bool.eq_false_iff]
     intro h
     obtain ⟨q,hq,e⟩:=List.mem_map.1 (j1.1 h)
     have:=List.find?_eq_none.1 g2 q hq
     simp[e] at this
    exact dK (fun _=>badA (by decide) (by rw[←ha])) fun h=>absurd (hno.symm.trans h) Bool.noConfusion
   ·rw[g1] at ha
    dsimp only at ha
    have hm1:d.2.2.2.2.1[m].1=id:=(uW g2).2
    have hyes:mG (ids d.2.2.2.2.1) id=true:=j1.2 (hm1 ▸ List.mem_map.2 ⟨_,List.getElem_mem hm,rfl⟩)
    refine dK (fun h=>absurd (hyes.symm.trans h) Bool.noConfusion) fun _=>?_
    refine dkp (l:=F) rfl ?_
    have hli:(ids d.2.2.2.2.1).length=d.2.2.2.2.1.length:=by unfold ids;rw[List.length_map]
    refine aY (ids d.2.2.2.2.1).length (fun n s=>s=(F++(if m<n then [((m:Int),(k:Int))] else []),(n:Int),())) (by simp) ?_
    rintro Z n _ hn rfl hZ
    dsimp only
    have hFn:(F++(if m<n then [((m:Int),(k:Int))] else [])).length≤100000:=by
     have:(if m<n then [((m:Int),(k:Int))] else []).length≤1:=by split<;>simp
     rw[List.length_append];omega
    refine bJ (fun hln=>?_) fun hgn=>?_
    ·rw[List.length_map] at hln
     have hln:n<(ids d.2.2.2.2.1).length:=by
      have:(n:Int)<((ids d.2.2.2.2.1).length:Int):=hln
      omega
     have hwn:IntKind.i64.wrap ((n:Int)+1)=((n+1:Nat):Int):=aQ _ (by omega) (by omega)
     rw[aS (r:=.str) (l:=(AMY d).2.2.2) hln,aS (r:=.str) (l:=cF y) hlj,hid]
     have hnn:(ids d.2.2.2.2.1)[n]=d.2.2.2.2.1[n].1:=A2E hln
     refine bJ (fun he=>?_) fun he=>?_
     ·have hnm:n=m:=A2F hnd (by omega) hm (hnn.symm.trans (he.trans hm1.symm))
      subst hnm
      refine ⟨by simp only[List.length_map,Bool.and_eq_true,decide_eq_true_eq];omega,?_⟩
      refine dkp (l:=F++[((n:Int),(k:Int))]) ?_ (hZ _ hln ?_)
      ·rw[if_neg (by omega),List.append_nil,List.map_append];rfl
      ·rw[if_pos (by omega),hwn]
     ·have hnm:n≠m:=fun e=>he (by subst e;exact hnn.trans hm1)
      refine dkp rfl (hZ _ hln ?_)
      rw[hwn]
      by_cases hc:m<n
      ·rw[if_pos hc,if_pos (by omega)]
      ·rw[if_neg hc,if_neg (by omega)]
    ·rw[List.length_map] at hgn
     have hgn:n=d.2.2.2.2.1.length:=by
      have:¬ (n:Int)<((ids d.2.2.2.2.1).length:Int):=hgn
      omega
     refine dkp rfl (hY _ hlj ⟨?_,?_,fun e he=>?_,?_⟩)
     ·show IntKind.i64.wrap ((j:Int)+1)=_
      rw[aQ]<;>omega
     ·show (F++(if m<n then [((m:Int),(k:Int))] else [])).length≤_
      rw[if_pos (by omega),List.length_append];simp only[List.length_cons,List.length_nil];omega
     ·have he:e∈F++(if m<n then [((m:Int),(k:Int))] else []):=he
      rw[if_pos (by omega)] at he
      rcases List.mem_append.1 he with he|he
      ·exact hF e he
      ·rw[List.mem_singleton.1 he]
       have hmk:m≠k:=A4W (i:=k) (j:=m) hlt hm (by rw[hy]) hm1 hne
       unfold nA
       rw[if_neg (by dsimp only;omega),if_neg (by dsimp only;omega)]
     ·show B1 d y.1 k ((cF y).drop (j+1)) (F++(if m<n then [((m:Int),(k:Int))] else []))=_
      rw[if_pos (by omega)];exact ha
  ·rw[List.length_map] at hgj
   have hgj:j=(cF y).length:=by
    have:¬ (j:Int)<((cF y).length:Int):=hgj
    omega
   subst hgj
   rw[List.drop_length,B1] at ha
   rw[←ha,if_neg (fun h=>h rfl)] at hr
   refine dkp rfl (hX _ hlt ⟨?_,?_,hF,(instE d y.2.1 (dA y) S).2,fun id=>?_,?_⟩)
   ·show IntKind.i64.wrap ((k:Int)+1)=_
    rw[aQ]<;>omega
   ·show F.length≤_
    omega
   ·rw[q2 hc id,hS id,ht,List.any_append]
    simp only[List.any_cons,List.any_nil,Bool.or_false,Bool.or_eq_true,j1]
   ·rw[←hr];rfl
 ·rw[List.length_map] at hge
  have hkl:k=d.2.2.2.2.1.length:=by omega
  subst hkl
  rw[List.drop_length,iQ] at hr
  have h0:bC (nA d.2.2.2.2.1.length) E=0:=QC hE
  have hEb:E.length≤140737488355328:=by omega
  rw[List.length_map]
  refine aD (s:=mI) (y:=dE d.2.2.2.2.1.length E) ((ZP ..).trans (dX _ hEb)) (is ?_)
  unfold dU
  rw[←hr,if_pos rfl]
  rcases (show (dE d.2.2.2.2.1.length E).2=0∨(dE d.2.2.2.2.1.length E).2=20 by
   rw[RN hEb (by omega) (by omega) h0];exact RR) with h|h
  ·rw[if_pos h,h]
  ·rw[if_neg (by rw[h];decide),h]
end Go.Pv
namespace Go.Pv
open Go Go.Proofs
noncomputable def WM:Env:=Env.of [(30,.pure tR),(31,.pure tP),(32,.pure oP),(33,.pure lZ),(34,.pure oV),(35,.pure oR),(36,.pure oO)]
def AOT:FuncId→Hint:=fun _=>aT
theorem AQX:aE Tryz.prog WM:=aE.cons (x:=.pure tR) ASM (aE.cons (x:=.pure tP) ASI (aE.cons (x:=.pure oP) ALZ (aE.cons (x:=.pure lZ) AFN (aE.cons (x:=.pure oV) AL7 (aE.cons (x:=.pure oR) AL1 (aE.cons (x:=.pure oO) ALY (aE.nil _)))))))
def XB (a0:aF) (a1:aN) (R:T→Prop):Prop :=
 aG [(false,Sy.int IntKind.i64)] (tR [aC true aH a1])
 fun (y0:Int) =>
 aB (!decide (y0=0)) (R (T.v (.int .i64 y0)))
 (aG [(false,Sy.int IntKind.i64)] (tP [aC true aM a0])
 fun (y1:Int) =>
 aB (!decide (y1=0)) (R (T.v (.int .i64 y1)))
 (aG [(false,Sy.int IntKind.i64)] (oP [aC true aM a0])
 fun (y2:Int) =>
 aB (!decide (y2=0)) (R (T.v (.int .i64 y2)))
 (aG [(false,Sy.int IntKind.i64)]
 (lZ [aC true aM a0,aC true aH a1])
 fun (y3:Int) =>
 aB (!decide (y3=0)) (R (T.v (.int .i64 y3)))
 (aG [(false,Sy.int IntKind.i64)] (oV [aC true aM a0])
 fun (y4:Int) =>
 aB (!decide (y4=0)) (R (T.v (.int .i64 y4)))
 (aG [(false,Sy.int IntKind.i64)]
 (oR [aC true aM a0]) fun (y5:Int) =>
 aB (!decide (y5=0)) (R (T.v (.int .i64 y5)))
 (aG [(false,Sy.int IntKind.i64)]
 (oO [aC true aM a0]) fun (y6:Int) =>
 R (T.v (.int .i64 y6))))))))
theorem AKI ( a0 a1 R):bA aW Tryz.prog WM AOT 8 10 [aC true aM a0,aC true aH a1] R=XB a0 a1 R:=by kernel_rfl
abbrev L1:Sh:=[(true,aM),(true,aH)]
def R6 (x:aF×aN):Option T:=rY x.1 (T.v (Value.int .i64 (oD x.1 x.2)))
noncomputable def u6:List T→Option (T):=gS L1 R6
theorem AMG {a0 a1}:u6 [aC true aM a0,aC true aH a1]=R6 (a0,a1):=a6 (s:=L1) rfl (a0,a1) rfl
theorem AZK (h:∀ a0 a1 r,R6 (a0,a1)=some r→bY L1 (a0,a1)→XB a0 a1 (fun y=>y=r)):aK Tryz.prog 10 u6 :=
 aP (E:=WM) (Hs:=AOT) AQX aU aV (aL rfl) 8 ⟨_,_,Tryz.func10,rfl⟩ rfl fun x r h1 h2=>by
  obtain ⟨a0,a1⟩:=x
  rw[show Sh.bK L1 (a0,a1)=[aC true aM a0,aC true aH a1] from rfl,AKI]
  exact h a0 a1 r h1 h2
theorem AXR:aK Tryz.prog 10 u6:=AZK fun d m r h hb=>by
 obtain ⟨hu,rfl⟩:=lI h
 replace hu:okU d=true:=hu
 clear h hb
 have is:∀ {n:Int},oD d m=n→T.v (.int .i64 n)=T.v (.int .i64 (oD d m)):=fun h=>by rw[h]
 unfold XB
 refine aD (s:=[(false,.int .i64)]) (y:=lE m) (AGJ ..) ?_
 refine gT (fun h=>is (by unfold oD;rw[if_pos h])) fun h0=>?_
 have hm:=APU h0
 have n0:¬ ¬ lE m=0:=fun h=>h h0
 refine aD (s:=[(false,.int .i64)]) (y:=if isName d.1=false then 6 else fA d) ((AF9 ..).trans (lJ _ hu)) ?_
 by_cases hn:isName d.1=false
 ·rw[if_pos hn]
  exact gT (fun h=>is (by unfold oD;rw[if_neg n0,if_pos hn])) fun h=>by cases h
 rw[if_neg hn]
 refine gT (fun h=>is (by unfold oD;rw[if_neg n0,if_neg hn,if_pos h])) fun h1=>?_
 have n2:¬ ¬ fA d=0:=fun h=>h h1
 refine aD (s:=[(false,.int .i64)]) (y:=eD d) ((ZO ..).trans (lJ _ hu)) ?_
 refine gT (fun h=>is (by unfold oD;rw[if_neg n0,if_neg hn,if_neg n2,if_pos h])) fun h2=>?_
 have n3:¬ ¬ eD d=0:=fun h=>h h2
 refine aD (s:=[(false,.int .i64)]) (y:=fJ d m) ((TB ..).trans (by unfold nO;dsimp only;rw[hm];exact lJ _ hu)) ?_
 refine gT (fun h=>is (by unfold oD;rw[if_neg n0,if_neg hn,if_neg n2,if_neg n3,if_pos h])) fun h3=>?_
 have n4:¬ ¬ fJ d m=0:=fun h=>h h3
 have hv:okV d=true:=by
  simp only[okV,Bool.and_eq_true,decide_eq_true_eq,List.all_eq_true]
  refine ⟨hu,h1,h2,fun p hp=>?_⟩
  have h0:bC (eE d m) d.2.2.1=0:=by
   unfold fJ at h3
   split at h3
   ·assumption
   ·exact h3
  have h4:=kZ h0 p hp
  unfold eE at h4
  by_cases hp0:dS p m=0
  ·rw[if_pos hp0] at h4
   cases hc:cJ d (e9 p) with
   | some n=>rfl
   | none=>rw[hc] at h4;cases h4
  ·rw[if_neg hp0] at h4;exact absurd h4 hp0
 refine aD (s:=[(false,.int .i64)]) (y:=bC (lL d) d.2.2.2.1) ((Z0 ..).trans (lJ _ hu)) ?_
 refine gT (fun h=>is (by unfold oD;rw[if_neg n0,if_neg hn,if_neg n2,if_neg n3,if_neg n4,if_pos h])) fun h4=>?_
 have n5:¬ ¬ bC (lL d) d.2.2.2.1=0:=fun h=>h h4
 refine aD (s:=[(false,.int .i64)]) (y:=dU d) ((ZQ ..).trans (by unfold p6;rw[hv];rfl)) ?_
 refine gT (fun h=>is (by unfold oD;rw[if_neg n0,if_neg hn,if_neg n2,if_neg n3,if_neg n4,if_neg n5,if_pos h])) fun h5=>?_
 have n6:¬ ¬ dU d=0:=fun h=>h h5
 refine aD (s:=[(false,.int .i64)]) (y:=bC (lF d) d.2.2.2.2.2) ((ZN ..).trans (lJ _ hu)) ?_
 exact is (by unfold oD;rw[if_neg n0,if_neg hn,if_neg n2,if_neg n3,if_neg n4,if_neg n5,if_neg n6])
theorem ALG {d:aF} {m:aN} {K:Int→Prop} (hu:okU d=true) (h:K (oD d m)):aG [(false,Sy.int IntKind.i64)] (u6 [aC true aM d,aC true aH m]) K:=aD (s:=[(false,.int .i64)]) ((AMG ..).trans (lJ _ hu)) h
end Go.Pv
namespace Go.Pv
open Go Go.Proofs
noncomputable def wO:Env:=Env.of [(7,.pure QP),(9,.pure IG),(10,.pure u6),(8,.pure lX)]
def J7:FuncId→Hint:=fun _=>aT
theorem SW:aE Tryz.prog wO:=aE.cons (x:=.pure QP) A5C (aE.cons (x:=.pure IG) A13 (aE.cons (x:=.pure u6) AXR (aE.cons (x:=.pure lX) ALQ (aE.nil _))))
def wQ (a0:aF) (a1:aN) (R:T→Prop):Prop :=
 aG [(false,Sy.bool)]
 (QP [aC true aM a0,T.v (.int .i64 80)]) fun (y0:Bool) =>
 aB (!y0)
 (aG [(false,Sy.bool)] (lX []) fun (y1:Bool)=>R (T.v (.bool y1)))
 (aG [(false,Sy.int IntKind.i64)]
 (IG [aC true aM a0,aC true aH a1]) fun (y2:Int) =>
 aG [(false,Sy.int IntKind.i64)]
 (u6 [aC true aM a0,aC true aH a1]) fun (y3:Int) =>
 aB (decide (y2=y3))
 (aG [(false,Sy.bool)] (lX []) fun (y4:Bool) =>
 R (T.v (.bool y4)))
 (R (T.v (.bool false))))
theorem N5 ( a0 a1 R):bA aW Tryz.prog wO J7 8 3 [aC true aM a0,aC true aH a1] R=wQ a0 a1 R:=by kernel_rfl
abbrev nL:Sh:=[(true,aM),(true,aH)]
def gY (x:aF×aN):Option T:=match H7 x.1 80 with
 | true=>rY x.1 (.v (.bool true))
 | false=>some (.v (.bool true))
noncomputable def KK:List T→Option (T):=gS nL gY
theorem AAH (h:∀ a0 a1 r,gY (a0,a1)=some r→bY nL (a0,a1)→wQ a0 a1 (fun y=>y=r)):aK Tryz.prog 3 KK :=
 aP (E:=wO) (Hs:=J7) SW aU aV (aL rfl) 8 ⟨_,_,Tryz.func3,rfl⟩ rfl fun x r h1 h2=>by
  obtain ⟨a0,a1⟩:=x
  rw[show Sh.bK nL (a0,a1)=[aC true aM a0,aC true aH a1] from rfl,N5]
  exact h a0 a1 r h1 h2
theorem AXP {d:aF} {n:Int} {K:Bool→Prop} (h:K (H7 d n)):aG [(false,Sy.bool)] (QP [aC true aM d,T.v (.int .i64 n)]) K:=aD (s:=xU) (AX3 ..) h
theorem PK {K:Bool→Prop} (h:K true):aG [(false,Sy.bool)] (lX []) K:=by rw[QO];exact h
theorem ZA:aK Tryz.prog 3 KK:=AAH fun d m r h hb=>by
 clear hb
 unfold wQ
 refine AXP ?_
 cases hf:H7 d 80 with
 | false =>
  have h:some (T.v (.bool true))=some r:=by
   have h:=h
   unfold gY at h
   rw[show H7 (d,m).1 80=false from hf] at h;exact h
  cases h
  exact dK (fun _=>PK rfl) fun h=>Bool.noConfusion h
 | true =>
  have h:rY d (T.v (.bool true))=some r:=by
   have h:=h
   unfold gY at h
   rw[show H7 (d,m).1 80=true from hf] at h;exact h
  obtain ⟨hu,rfl⟩:=lI h
  refine dK (fun h=>Bool.noConfusion h) fun _=>?_
  refine aD (s:=[(false,.int .i64)]) (y:=oD d m) (AS2 ..) ?_
  refine ALG hu ?_
  exact bJ (fun _=>PK rfl) fun h=>absurd rfl h
theorem AXQ {d:aF} {a b:Int} (hab:a≤b) (h:H7 d a=true):H7 d b=true:=by
 simp only[H7,Bool.and_eq_true,List.all_eq_true,decide_eq_true_eq] at h ⊢
 obtain ⟨⟨⟨⟨⟨h1,h2⟩,h3⟩,h4⟩,h5⟩,h6⟩:=h
 exact ⟨⟨⟨⟨⟨by omega,by omega⟩,by omega⟩,by omega⟩,by omega⟩,fun k hk=>by have:=h6 k hk;omega⟩
theorem A25 {d:aF} (h:AP (2 ^ 40) aM d):okD d=true:=by
 refine List.all_eq_true.2 fun p hp=>?_
 obtain ⟨_,_,⟨_,_,h3⟩,_⟩:=h
 have h4:=h3 p hp
 obtain ⟨_,_,_,_,_,_,⟨⟨h5,h6,_⟩,h7,h8,h9⟩,_⟩:=h4
 unfold AZY AP6 RE
 simp only[Bool.and_eq_true,decide_eq_true_eq,List.all_eq_true]
 have up:∀ {n:Nat},n≤2 ^ 40→n≤140737488355328:=fun h=>by omega
 refine ⟨⟨⟨?_,?_⟩,?_,?_⟩,fun q hq=>?_⟩
 ·exact up h5
 ·exact up h6
 ·exact up h7
 ·exact up h8
 ·obtain ⟨g1,g2,_⟩:=h9 q hq
  exact ⟨up g1,up g2⟩
theorem A27 {d:aF} (h:AP (2 ^ 40) aM d):okK d=true:=by
 refine List.all_eq_true.2 fun p hp=>?_
 obtain ⟨_,_,_,_,⟨_,_,h3⟩,_⟩:=h
 obtain ⟨_,_,⟨h5,h6,_⟩,_,⟨h7,h8,_⟩⟩:=h3 p hp
 unfold AZX RE
 have up:∀ {n:Nat},n≤2 ^ 40→n≤140737488355328:=fun h=>by omega
 simp only[Bool.and_eq_true,decide_eq_true_eq]
 exact ⟨⟨up h5,up h6⟩,up h7,up h8⟩
theorem A26 {d:aF} (h:AP (2 ^ 40) aM d):okI d=true:=by
 obtain ⟨_,⟨_,_,hn⟩,⟨_,_,hp⟩,⟨_,_,hs⟩,⟨_,_,hk⟩,_⟩:=h
 simp only[okI,DF,Bool.and_eq_true,decide_eq_true_eq,List.all_eq_true]
 refine ⟨⟨⟨fun n hm=>?_,fun p hm=>?_⟩,fun s hm=>?_⟩,fun k hm=>?_⟩
 ·obtain ⟨a,_⟩:=hn n hm
  exact a
 ·obtain ⟨a,_,_,b,_⟩:=hp p hm
  exact ⟨a,b⟩
 ·obtain ⟨a,b,c,_⟩:=hs s hm
  exact ⟨a,b,c⟩
 ·obtain ⟨a,_⟩:=hk k hm
  exact a
theorem A29 {d:aF} {n:Int} (hn:n≤1000) (hf:H7 d n=true) (h:AP (2 ^ 40) aM d):okU d=true:=by
 unfold okU;rw[AXQ hn hf,A25 h,A27 h,A26 h];rfl
theorem AAK:∀ x,AET (2 ^ 40) nL x→gY x=some (.v (.bool true)):=by
 rintro ⟨d,m⟩ ⟨h,_⟩
 have h:AP (2 ^ 40) aM d:=h
 unfold gY
 cases hf:H7 (d,m).1 80 with
 | false=>rfl
 | true=>exact lJ _ (A29 (by decide) hf h)
end Go.Pv
