/-
  Chapter 17: the tree's parts and packages in full.
  Chapter 17: the tree's packages in full.
  Chapter 17: Check where the parts and packages are empty ones; StructureLong, walked.
  Chapter 17: structure.Check in full.
  StructureFinds: Part, Node, Seam and Package answer as the reference does.
  StructureBlocks: Block, Path, Parts and Blocks answer as the reference does.
  The reference's Check of chapter 17.
  The reference's dag.Order, packages and Check of chapter 17.
  The tree of a valid design, in plain words: ways up, paths, what two paths share.
  The reference's packages and Check of chapter 17.
  The reference's Check of chapter 17, whole.
  StructureChecks: structure.Check answers as the reference's Check does.
  What a design that chapter 17's Check accepts is known by: its blocks, parts and paths, in plain words.
  Paths of an accepted design; an accepted design stays one without a seam, a requirement, its packages. In plain words.
  StructureLess: the law's function, walked.
-/
import Derived.Test.YtcdomkejkfcjlaaGreatDoorPtz2
import Derived.Sort.Walk0
import Derived.Test.YtcdomkejkfcjlaaGreatDoorPtkp
import Derived.Test.YtcdomkejkfcjlaaGreatDoorPtz1
import Derived.Test.YtcdomkejkfcjlaaGreatDoorPtkj
import Derived.Test.YtcdomkejkfcjlaaGreatDoorPtkn
set_option linter.unusedSimpArgs false
set_option linter.unusedVariables false
set_option maxRecDepth 100000
namespace Go.Pv
open Go Go.Proofs
def nH (a0:aF) (m1:List (ByteArray×Int)) (m2:List (ByteArray×Int)) (m3:List (ByteArray×Int)) (m4:List (ByteArray×Int)) (a5:aN):List T:=[S2 a0 m1 m2 m3 m4,T.agg (aE.enc a5)]
noncomputable def M6:Env:=Env.of [(68,.pure iQ),(69,.pure pT)]
def AEG:FuncId→Hint:=fun f=>match f == 26 with|true=>⟨fun r=>match r == 2 with|true=>.inv [.val 23 false (.int .i64)]|false=>match r == 13 with|true=>.inv [.val 10 false (.int .i64),.val 54 false (.int .i64)]|false=>.none,fun _ _=>none,fun _=>none⟩|false=>aV
theorem AJ6:aH Tryz.prog M6:=aH.cons (x:=.pure iQ) QQ (aH.cons (x:=.pure pT) ATR (aH.nil _))
def OE (a0:aF) (m1:List (ByteArray×Int)) (m2:List (ByteArray×Int)) (m3:List (ByteArray×Int)) (m4:List (ByteArray×Int)) (a5:aN) (R:T→Prop):Prop :=
 bA (Int×PUnit)
 (fun (X0:Int×PUnit→Prop) (s1:Int×PUnit) =>
 aB (decide (s1.1<(↑(List.map aU.enc a0.2.2.1).length:Int)))
 (aO aU (List.map aU.enc a0.2.2.1) s1.1 fun (y2:bM) =>
 aG [(false,Sy.int IntKind.i64)]
 (iQ [aC true aU y2,aC true aE a5]) fun (y3:Int) =>
 aB (!decide (y3=0)) (R (T.v (.int .i64 y3)))
 (gK TypeDesc.string (Value.string y2.2.2.2.1) (qL (bI m1)) false
 (Sy.int IntKind.i64) (R (T.v (.int .i64 8))) fun (i4:Nat) (y5:Int) =>
 X0 (IntKind.i64.wrap (s1.1+1),())))
 (bA (Int×Int×PUnit)
 (fun (X6:Int×Int×PUnit→Prop) (s7:Int×Int×PUnit) =>
 aB (decide (s7.2.1<(↑(List.map aU.enc a0.2.2.1).length:Int)))
 (aO aU (List.map aU.enc a0.2.2.1) s7.2.1 fun (y8:bM) =>
 aG [(false,Sy.int IntKind.i64),(false,Sy.int IntKind.i64)]
 (pT [aC true aU y8,aC true aE a5])
 fun (y9:aJ) =>
 aB (decide (1099511627776<IntKind.i64.wrap (s7.1+y9.1)))
 (R (T.v (.int .i64 13)))
 (X6 (IntKind.i64.wrap (s7.1+y9.1),IntKind.i64.wrap (s7.2.1+1),())))
 (R (T.v (.int .i64 0))))
 (0,0,())))
 (0,())
theorem AC8 ( a0 m1 m2 m3 m4 a5 R):bC aY Tryz.prog M6 AEG 8 26 (nH a0 m1 m2 m3 m4 a5) R=OE a0 m1 m2 m3 m4 a5 R:=by kernel_rfl
theorem W2 (x y:aF×MP×MP×MP×MP×aN) (h:nH x.1 x.2.1 x.2.2.1 x.2.2.2.1 x.2.2.2.2.1 x.2.2.2.2.2=nH y.1 y.2.1 y.2.2.1 y.2.2.2.1 y.2.2.2.2.1 y.2.2.2.2.2):x=y:=by
 obtain ⟨h1,h2⟩:=List.cons.inj h
 have:=qJ (x:=(x.1,x.2.1,x.2.2.1,x.2.2.2.1,x.2.2.2.2.1)) (y:=(y.1,y.2.1,y.2.2.1,y.2.2.2.1,y.2.2.2.2.1)) h1
 have h2:=Sy.dV aE _ _ (T.agg.inj (List.cons.inj h2).1)
 simp only[Prod.mk.injEq] at this
 obtain ⟨e1,e2,e3,e4,e5⟩:=this
 exact Prod.ext e1 (Prod.ext e2 (Prod.ext e3 (Prod.ext e4 (Prod.ext e5 h2))))
def dD (d:aF) (m:aN) (p:bM):Int:=if eA p m=0 then (if (cB d (eY p)).isNone=true then 8 else 0) else eA p m
def wF (m:aN):List bM→Int→Int
 | [],_=>0
 | p::l,s=>if 1099511627776<IntKind.i64.wrap (s+(iJ p m).1) then 13 else wF m l (IntKind.i64.wrap (s+(iJ p m).1))
def eC (d:aF) (m:aN):Int:=if bD (dD d m) d.2.2.1=0 then wF m d.2.2.1 0 else bD (dD d m) d.2.2.1
def uE (x:aF×MP×MP×MP×MP×aN):Option T:=match BK x.2.2.2.2.2 with
 | true=>wL (x.1,x.2.1,x.2.2.1,x.2.2.2.1,x.2.2.2.2.1) (T.v (Value.int .i64 (eC x.1 x.2.2.2.2.2)))
 | false=>none
noncomputable def pO:List T→Option (T):=gA (fun (x:aF×(List (ByteArray×Int))×(List (ByteArray×Int))×(List (ByteArray×Int))×(List (ByteArray×Int))×aN)=>nH x.1 x.2.1 x.2.2.1 x.2.2.2.1 x.2.2.2.2.1 x.2.2.2.2.2) uE
theorem AGU (a0:aF) (m1:List (ByteArray×Int)) (m2:List (ByteArray×Int)) (m3:List (ByteArray×Int)) (m4:List (ByteArray×Int)) (a5:aN):pO (nH a0 m1 m2 m3 m4 a5)=uE (a0,m1,m2,m3,m4,a5):=lQ (A:=(fun (x:aF×(List (ByteArray×Int))×(List (ByteArray×Int))×(List (ByteArray×Int))×(List (ByteArray×Int))×aN)=>nH x.1 x.2.1 x.2.2.1 x.2.2.2.1 x.2.2.2.2.1 x.2.2.2.2.2)) W2 (a0,m1,m2,m3,m4,a5)
theorem AUY (h:∀ (a0:aF) (m1:List (ByteArray×Int)) (m2:List (ByteArray×Int)) (m3:List (ByteArray×Int)) (m4:List (ByteArray×Int)) (a5:aN) (r:T),uE (a0,m1,m2,m3,m4,a5)=some r→(∀ t∈nH a0 m1 m2 m3 m4 a5,Bd t)→OE a0 m1 m2 m3 m4 a5 (fun y=>y=r)):aK Tryz.prog 26 pO :=
 fO (E:=M6) (Hs:=AEG) AJ6 aW aX (aM rfl) 8 ⟨_,_,Tryz.func26,rfl⟩ fun x r h1 h2=>by
  rw[AC8]
  exact h x.1 x.2.1 x.2.2.1 x.2.2.2.1 x.2.2.2.2.1 x.2.2.2.2.2 r h1 h2
theorem ATG:aK Tryz.prog 26 pO:=AUY fun d m1 m2 m3 m4 m r h hb=>by
 unfold uE at h
 split at h
 case h_2=>cases h
 rename_i hok
 replace hok:BK m=true:=hok
 obtain ⟨hx,hs,rfl⟩:=nT h
 simp only[Prod.mk.injEq,true_and] at hx
 obtain ⟨rfl,rfl,rfl,rfl⟩:=hx
 replace hs:mE d:=hs
 clear h hb
 have is:∀ {n:Int},eC d m=n→T.v (.int .i64 n)=T.v (.int .i64 (eC d m)):=fun h=>by rw[h]
 unfold OE
 refine fK (r:=aU) (dD d m) hs.p (fun X s y hy hgo hbad=>?_) fun h0=>?_
 ·have bad:∀ {n:Int},n≠0→dD d m y=n→T.v (.int .i64 n)=T.v (.int .i64 (eC d m)):=fun hn h=>by
   have h1:=hbad (by rw[h];exact hn)
   refine is ?_
   unfold eC
   rw[if_neg (by rw[h1,h];exact hn),h1,h]
  refine aD (s:=[(false,.int .i64)]) (EH hok y) ?_
  refine gP (fun h=>bad h (by unfold dD;rw[if_neg h])) fun h=>?_
  refine ixK (fun hn=>bad (by decide) ?_) fun i j hj hn=>hgo ?_
  ·have hn:cB d (eY y)=none:=hn
   unfold dD;rw[if_pos h,hn];rfl
  ·have hn:cB d (eY y)=some d.2.1[j]:=hn
   unfold dD;rw[if_pos h,hn];rfl
 ·have w:eC d m=wF m d.2.2.1 0:=by unfold eC;rw[if_pos h0]
  clear h0
  have hl:=hs.p
  generalize d.2.2.1=l at w hl ⊢
  refine aZ l.length (fun k s=>s.2.1=(k:Int)∧wF m (l.drop k) s.1=eC d m) ⟨rfl,by rw[w];rfl⟩ ?_
  rintro X k ⟨s,i,u⟩ hk ⟨rfl,he⟩ hX
  dsimp only at he ⊢
  refine bL (fun hlt=>?_) fun hge=>?_
  ·rw[List.length_map] at hlt
   have hlt:k<l.length:=by omega
   rw[aT (r:=aU) hlt]
   rw[List.drop_eq_getElem_cons hlt,wF] at he
   refine aD (s:=[(false,.int .i64),(false,.int .i64)]) (AHI hok _) ?_
   refine bL (fun h=>is (by rw[←he,if_pos h])) fun h=>?_
   rw[if_neg h] at he
   refine hX _ hlt ⟨?_,he⟩
   show IntKind.i64.wrap ((k:Int)+1)=_
   rw[aS]<;>omega
  ·rw[List.length_map] at hge
   have:k=l.length:=by omega
   subst this
   rw[List.drop_length,wF] at he
   exact is he.symm
end Go.Pv
namespace Go.Pv
open Go Go.Proofs
def nG (a0:aF) (m1:List (ByteArray×Int)) (m2:List (ByteArray×Int)) (m3:List (ByteArray×Int)) (m4:List (ByteArray×Int)):List T:=[S2 a0 m1 m2 m3 m4]
noncomputable def M5:Env:=Env.of [(66,.pure dQ),(61,.pure sT),(71,.pure CO),(70,.pure fA),(67,.pure iI),(72,.new zE)]
def AEF:FuncId→Hint:=fun f=>match f == 28 with|true=>⟨fun r=>match r == 4 with|true=>.inv [.own 3 2 (.pr (.int .i64) (.int .i64)),.map 0 .str false .bool,.val 29 false (.int .i64)]|false=>match r == 15 with|true=>.inv [.val 76 false (.int .i64),.map 0 .str false .bool]|false=>match r == 31 with|true=>.inv [.own 3 2 (.pr (.int .i64) (.int .i64)),.val 147 false (.int .i64)]|false=>.none,fun _ _=>none,fun _=>none⟩|false=>aV
theorem AJ5:aH Tryz.prog M5:=aH.cons (x:=.pure dQ) L2 (aH.cons (x:=.pure sT) A5T (aH.cons (x:=.pure CO) A3O (aH.cons (x:=.pure fA) AGC (aH.cons (x:=.pure iI) VH (aH.cons (x:=.new zE) AY8 (aH.nil _))))))
def OD (a0:aF) (m1:List (ByteArray×Int)) (m2:List (ByteArray×Int)) (m3:List (ByteArray×Int)) (m4:List (ByteArray×Int)) (R:T→Prop):Prop :=
 dU Sy.str false Sy.bool [] fun (y0:List (ByteArray×Bool)) =>
 bA (List aJ×List (ByteArray×Bool)×Int×PUnit)
 (fun (X1:List aJ×List (ByteArray×Bool)×Int×PUnit→Prop)
 (s2:List aJ×List (ByteArray×Bool)×Int×PUnit) =>
 aB (decide (s2.2.2.1<(↑(List.map aP.enc a0.2.2.2.2.1).length:Int)))
 (aO aP (List.map aP.enc a0.2.2.2.2.1) s2.2.2.1
 fun (y3:cC) =>
 aG [(false,Sy.bool)] (dQ [T.v (.string y3.1)]) fun (y4:Bool) =>
 aB (!y4) (R (T.v (.int .i64 6)))
 (aG [(false,Sy.bool)]
 (fA
 [T.ref
 [T.ref
 [T.v (.string a0.1),T.sl false (List.map bE.enc a0.2.1),
 T.sl false (List.map aU.enc a0.2.2.1),
 T.sl false (List.map a6.enc a0.2.2.2.1),
 T.sl false (List.map aP.enc a0.2.2.2.2.1),
 T.sl false (List.map aQ.enc a0.2.2.2.2.2)],
 T.mp (bI m1),T.mp (bI m2),T.mp (bI m3),
 T.mp (bI m4)],
 T.v (.string y3.2.1)])
 fun (y5:Bool) =>
 aB (!y5) (R (T.v (.int .i64 8)))
 (aB (decide (y3.2.2.2.1<1)) (R (T.v (.int .i64 9)))
 (aB (decide (10000<y3.2.2.2.1)) (R (T.v (.int .i64 9)))
 (aG [(false,Sy.any)]
 (CO [T.sl false (List.map Sy.str.enc y3.2.2.1)])
 fun (y6:T) =>
 aG [(false,Sy.bool)]
 (sT
 [T.v
 (Value.int IntKind.i64
 (↑(List.map Sy.str.enc y3.2.2.1).length:Int)),
 y6])
 fun (y7:Bool) =>
 aB (!y7) (R (T.v (.int .i64 11)))
 (aG [(false,Sy.any)]
 (CO [T.sl false (List.map Sy.str.enc y3.2.2.2.2)])
 fun (y8:T) =>
 aG [(false,Sy.bool)]
 (sT
 [T.v
 (Value.int IntKind.i64
 (↑(List.map Sy.str.enc y3.2.2.2.2).length:Int)),
 y8])
 fun (y9:Bool) =>
 aB (!y9) (R (T.v (.int .i64 11)))
 (dU Sy.str false Sy.bool
 (List.map (cE Sy.str false Sy.bool) s2.2.1)
 fun (y10:List (ByteArray×Bool)) =>
 bA (Int×List (ByteArray×Bool)×PUnit)
 (fun (X11:Int×List (ByteArray×Bool)×PUnit→Prop)
 (s12:Int×List (ByteArray×Bool)×PUnit) =>
 aB
 (decide
 (s12.1<(↑(List.map Sy.str.enc y3.2.2.1).length:Int)))
 (aO Sy.str (List.map Sy.str.enc y3.2.2.1) s12.1
 fun (y13:ByteArray) =>
 gK TypeDesc.string (Value.string y13)
 (qL (bI m2)) false (Sy.int IntKind.i64)
 (R (T.v (.int .i64 8)))
 fun (i14:Nat) (y15:Int) =>
 aO aU (List.map aU.enc a0.2.2.1) y15
 fun (y16:bM) =>
 aB (!decide (y16.2.2.1=4))
 (aB (!decide (y16.2.2.1=3))
 (R (T.v (.int .i64 10)))
 (aO aU (List.map aU.enc a0.2.2.1)
 y15 fun (y17:bM) =>
 aG [(false,Sy.str.li),(false,Sy.bool)]
 (iI
 [T.ref
 [T.ref
 [T.v (.string a0.1),
 T.sl false
 (List.map bE.enc a0.2.1),
 T.sl false
 (List.map aU.enc a0.2.2.1),
 T.sl false
 (List.map a6.enc a0.2.2.2.1),
 T.sl false
 (List.map aP.enc
 a0.2.2.2.2.1),
 T.sl false
 (List.map aQ.enc
 a0.2.2.2.2.2)],
 T.mp (bI m1),T.mp (bI m2),
 T.mp (bI m3),T.mp (bI m4)],
 T.v (.string y17.2.2.2.1)])
 fun (y18:List ByteArray×Bool) =>
 aB
 (decide
 ((↑(List.map Sy.str.enc y18.1).length:Int)=0))
 (R (T.v (.int .i64 2)))
 (aO Sy.str (List.map Sy.str.enc y18.1)
 (IntKind.i64.wrap
 ((↑(List.map Sy.str.enc y18.1).length:Int)-1))
 fun (y19:ByteArray) =>
 aB (!decide (y19=y3.2.1))
 (R (T.v (.int .i64 2)))
 (gK TypeDesc.string (Value.string y13)
 (List.map (cE Sy.str false Sy.bool)
 s12.2.1)
 false Sy.bool
 (oF (Option (Nat×D))
 (findD TypeDesc.string (Value.string y13)
 (List.map
 (cE Sy.str false Sy.bool)
 s12.2.1)
 0)
 fun (y24:Option (Nat×D)) =>
 dU Sy.str false Sy.bool
 (eX
 (List.map
 (cE Sy.str false Sy.bool)
 s12.2.1)
 y24 (Value.string y13)
 (D.p (T.v (.bool true))))
 fun (y25:List (ByteArray×Bool)) =>
 X11 (IntKind.i64.wrap (s12.1+1),y25,()))
 fun (i20:Nat) (y21:Bool) =>
 aB y21
 (R (T.v (.int .i64 7)))
 (oF (Option (Nat×D))
 (findD TypeDesc.string
 (Value.string y13)
 (List.map
 (cE Sy.str false Sy.bool)
 s12.2.1)
 0)
 fun (y22:Option (Nat×D)) =>
 dU Sy.str false Sy.bool
 (eX
 (List.map
 (cE Sy.str false Sy.bool)
 s12.2.1)
 y22 (Value.string y13)
 (D.p (T.v (.bool true))))
 fun (y23:List (ByteArray×Bool)) =>
 X11
 (IntKind.i64.wrap (s12.1+1),y23,
 ()))))))
 (aO aU (List.map aU.enc a0.2.2.1) y15
 fun (y26:bM) =>
 aG [(false,Sy.str.li),(false,Sy.bool)]
 (iI
 [T.ref
 [T.ref
 [T.v (.string a0.1),
 T.sl false
 (List.map bE.enc a0.2.1),
 T.sl false
 (List.map aU.enc a0.2.2.1),
 T.sl false
 (List.map a6.enc a0.2.2.2.1),
 T.sl false
 (List.map aP.enc
 a0.2.2.2.2.1),
 T.sl false
 (List.map aQ.enc a0.2.2.2.2.2)],
 T.mp (bI m1),T.mp (bI m2),
 T.mp (bI m3),T.mp (bI m4)],
 T.v (.string y26.2.2.2.1)])
 fun (y27:List ByteArray×Bool) =>
 aB
 (decide
 ((↑(List.map Sy.str.enc y27.1).length:Int)=0))
 (R (T.v (.int .i64 2)))
 (aO Sy.str (List.map Sy.str.enc y27.1)
 (IntKind.i64.wrap
 ((↑(List.map Sy.str.enc y27.1).length:Int)-1))
 fun (y28:ByteArray) =>
 aB (!decide (y28=y3.2.1))
 (R (T.v (.int .i64 2)))
 (gK TypeDesc.string (Value.string y13)
 (List.map (cE Sy.str false Sy.bool)
 s12.2.1)
 false Sy.bool
 (oF (Option (Nat×D))
 (findD TypeDesc.string (Value.string y13)
 (List.map
 (cE Sy.str false Sy.bool)
 s12.2.1)
 0)
 fun (y33:Option (Nat×D)) =>
 dU Sy.str false Sy.bool
 (eX
 (List.map
 (cE Sy.str false Sy.bool)
 s12.2.1)
 y33 (Value.string y13)
 (D.p (T.v (.bool true))))
 fun (y34:List (ByteArray×Bool)) =>
 X11 (IntKind.i64.wrap (s12.1+1),y34,()))
 fun (i29:Nat) (y30:Bool) =>
 aB y30
 (R (T.v (.int .i64 7)))
 (oF (Option (Nat×D))
 (findD TypeDesc.string (Value.string y13)
 (List.map
 (cE Sy.str false Sy.bool)
 s12.2.1)
 0)
 fun (y31:Option (Nat×D)) =>
 dU Sy.str false Sy.bool
 (eX
 (List.map
 (cE Sy.str false Sy.bool)
 s12.2.1)
 y31 (Value.string y13)
 (D.p (T.v (.bool true))))
 fun (y32:List (ByteArray×Bool)) =>
 X11
 (IntKind.i64.wrap (s12.1+1),y32,()))))))
 (b6 aA (List.map aA.enc s2.1)
 fun (y35:List aJ) =>
 bA (List aJ×Int×PUnit)
 (fun (X36:List aJ×Int×PUnit→Prop)
 (s37:List aJ×Int×PUnit) =>
 aB
 (decide
 (s37.2.1 <
 (↑(List.map Sy.str.enc y3.2.2.2.2).length:Int)))
 (aO Sy.str
 (List.map Sy.str.enc y3.2.2.2.2) s37.2.1
 fun (y38:ByteArray) =>
 aB (decide (y38=y3.1))
 (R (T.v (.int .i64 2)))
 (gK TypeDesc.string (Value.string y38)
 (qL (bI m4)) false (Sy.int IntKind.i64)
 (R (T.v (.int .i64 8)))
 fun (i39:Nat) (y40:Int) =>
 bP
 (decide
 (((List.map aA.enc s37.1).length+1)*16 ≤
 140737488355328) &&
 decide
 ((List.map aA.enc s37.1).length+1 ≤
 140737488355328))
 (b6 aA
 (List.map aA.enc s37.1 ++
 [[T.v (.int .i64 y40),
 T.v
 (Value.int IntKind.i64 s2.2.2.1)]])
 fun (y41:List aJ) =>
 X36 (y41,IntKind.i64.wrap (s37.2.1+1),()))))
 (b6 aA (List.map aA.enc s37.1)
 fun (y42:List aJ) =>
 dU Sy.str false Sy.bool
 (List.map (cE Sy.str false Sy.bool)
 s12.2.1)
 fun (y43:List (ByteArray×Bool)) =>
 X1 (y42,y43,IntKind.i64.wrap (s2.2.2.1+1),())))
 (y35,0,())))
 (0,y10,()))))))))
 (aG [(false,(Sy.int IntKind.i64).li),(false,Sy.int IntKind.i64)]
 (zE
 [T.v
 (Value.int IntKind.i64 (↑(List.map aP.enc a0.2.2.2.2.1).length:Int)),
 T.sl false (List.map aA.enc s2.1)])
 fun (y44:List Int×Int) =>
 aB (!decide (y44.2=0)) (R (T.v (.int .i64 20)))
 (R (T.v (.int .i64 0)))))
 ([],y0,0,())
theorem AC7 ( a0 m1 m2 m3 m4 R):bC aY Tryz.prog M5 AEF 8 28 (nG a0 m1 m2 m3 m4) R=OD a0 m1 m2 m3 m4 R:=by kernel_rfl
theorem W1 (x y:aF×MP×MP×MP×MP) (h:nG x.1 x.2.1 x.2.2.1 x.2.2.2.1 x.2.2.2.2=nG y.1 y.2.1 y.2.2.1 y.2.2.2.1 y.2.2.2.2):x=y:=qJ (List.cons.inj h).1
abbrev dE (k:cC):List ByteArray:=k.2.2.1
abbrev cH (k:cC):List ByteArray:=k.2.2.2.2
abbrev I5 (k:cC):Int:=k.2.2.2.1
def jM (d:aF) (k:cC):Int:=if gX k.1=false then 6 else if lU d k.2.1=false then 8 else if I5 k<1∨10000<I5 k then 9 else if lL (dE k)=false∨lL (cH k)=false then 11 else 0
def instE (d:aF) (b:ByteArray):List ByteArray→List ByteArray→Int×List ByteArray
 | [],S=>(0,S)
 | id::l,S=>match partOf d id with
  | none=>(8,S)
  | some p=>if ¬ bG p=4∧¬ bG p=3 then (10,S) else if (up d (eY p)).1.getLast? = some b then (if l7 S id=true then (7,S) else instE d b l (id::S)) else (2,S)
def wP (d:aF) (k:ByteArray) (i:Int):List ByteArray→List aJ→Int×List aJ
 | [],E=>(0,E)
 | id::l,E=>if id=k then (2,E) else match iT (hH (ids d.2.2.2.2.1)) id with
  | none=>(8,E)
  | some j=>wP d k i l (E++[(j,i)])
def gE (d:aF):List cC→Int→List aJ→List ByteArray→Int×List aJ
 | [],_,E,_=>(0,E)
 | k::l,i,E,S=>if ¬ jM d k=0 then (jM d k,E) else if ¬ (instE d k.2.1 (dE k) S).1=0 then ((instE d k.2.1 (dE k) S).1,E) else if ¬ (wP d k.1 i (cH k) E).1=0 then ((wP d k.1 i (cH k) E).1,E) else
  gE d l (i+1) (wP d k.1 i (cH k) E).2 (instE d k.2.1 (dE k) S).2
def c9 (d:aF):Int:=if (gE d d.2.2.2.2.1 0 [] []).1=0 then (if (dJ d.2.2.2.2.1.length (gE d d.2.2.2.2.1 0 [] []).2).2=0 then 0 else 20) else (gE d d.2.2.2.2.1 0 [] []).1
def zN (d:aF):Bool:=d.2.2.2.2.1.all (fun k=>decide ((dE k).length≤140737488355328)&&decide ((cH k).length≤140737488355328))&&decide (d.2.2.2.2.1.length≤64)
theorem lZ (a b:ByteArray):dR a b=true↔a.data.toList<b.data.toList:=by
 unfold dR;rw[bytesLess_eq,decide_eq_true_iff]
theorem AP7 {a b:ByteArray} (h:(!(dR b a||decide (b=a)))=true):a.data.toList<b.data.toList:=by
 simp only[Bool.not_eq_true',Bool.or_eq_false_iff,decide_eq_false_iff_not] at h
 refine Classical.byContradiction fun hc=>h.2 ?_
 have h1:¬ b.data.toList<a.data.toList:=fun h'=>by rw[(lZ b a).2 h'] at h;exact absurd h.1 (by decide)
 have e:b.data.toList=a.data.toList:=List.le_antisymm (List.not_lt.1 hc) (List.not_lt.1 h1)
 exact ByteArray.ext (Array.ext' e)
theorem PX:∀ {l:List ByteArray},lL l=true→l.Pairwise fun a b=>a.data.toList<b.data.toList
 | [],_=>List.Pairwise.nil
 | [a],_=>by simp
 | a::b::l,h=>by
  rw[lL,Bool.and_eq_true] at h
  have h1:=AP7 h.1
  have ih:=PX h.2
  refine List.pairwise_cons.2 ⟨fun x hx=>?_,ih⟩
  rcases List.mem_cons.1 hx with rfl|hx
  ·exact h1
  ·exact List.lt_trans h1 ((List.pairwise_cons.1 ih).1 x hx)
theorem IE {l:List ByteArray} (h:lL l=true):l.Nodup:=by
 refine (PX h).imp fun {a b} hab e=>?_
 subst e
 exact List.lt_irrefl _ hab
theorem AQP:∀ {l m:List ByteArray},l.Nodup→(∀ x∈l,x∈m)→l.length≤m.length
 | [],_,_,_=>Nat.zero_le _
 | a::l,m,h,hm=>by
  obtain ⟨h1,h2⟩:=List.pairwise_cons.1 h
  have h3:l.length≤(m.filter fun x=>decide (x≠a)).length:=AQP h2 fun x hx=>List.mem_filter.2 ⟨hm x (List.mem_cons_of_mem _ hx),decide_eq_true fun e=>h1 x hx e.symm⟩
  have h4:(m.filter fun x=>decide (x≠a)).length<m.length:=List.length_filter_lt_length_iff_exists.2 ⟨a,hm a List.mem_cons_self,by simp⟩
  rw[List.length_cons];omega
def uD (x:aF×MP×MP×MP×MP):Option T:=match zN x.1 with
 | true=>wL x (T.v (Value.int .i64 (c9 x.1)))
 | false=>none
noncomputable def pN:List T→Option (T):=gA (fun (x:aF×(List (ByteArray×Int))×(List (ByteArray×Int))×(List (ByteArray×Int))×List (ByteArray×Int))=>nG x.1 x.2.1 x.2.2.1 x.2.2.2.1 x.2.2.2.2) uD
theorem AGT (a0:aF) (m1:List (ByteArray×Int)) (m2:List (ByteArray×Int)) (m3:List (ByteArray×Int)) (m4:List (ByteArray×Int)):pN (nG a0 m1 m2 m3 m4)=uD (a0,m1,m2,m3,m4):=lQ (A:=(fun (x:aF×(List (ByteArray×Int))×(List (ByteArray×Int))×(List (ByteArray×Int))×List (ByteArray×Int))=>nG x.1 x.2.1 x.2.2.1 x.2.2.2.1 x.2.2.2.2)) W1 (a0,m1,m2,m3,m4)
theorem AUX (h:∀ (a0:aF) (m1:List (ByteArray×Int)) (m2:List (ByteArray×Int)) (m3:List (ByteArray×Int)) (m4:List (ByteArray×Int)) (r:T),uD (a0,m1,m2,m3,m4)=some r→(∀ t∈nG a0 m1 m2 m3 m4,Bd t)→OD a0 m1 m2 m3 m4 (fun y=>y=r)):aK Tryz.prog 28 pN :=
 fO (E:=M5) (Hs:=AEF) AJ5 aW aX (aM rfl) 8 ⟨_,_,Tryz.func28,rfl⟩ fun x r h1 h2=>by
  rw[AC7]
  exact h x.1 x.2.1 x.2.2.1 x.2.2.2.1 x.2.2.2.2 r h1 h2
theorem A9S {α:Type} {id:ByteArray} {l:List (ByteArray×α)} {A:Prop} {B:Nat→Int→Prop} (hA:iT (hH (ids l)) id=none→l.find? (fun s=>decide (s.1=id))=none→A) (hB:∀ i k (h:k<l.length),iT (hH (ids l)) id=some (k:Int)→l.find? (fun s=>decide (s.1=id))=some l[k]→B i (k:Int)) :
  gK TypeDesc.string (Value.string id) (qL (bI (hH (ids l)))) false (Sy.int IntKind.i64) A B:=by
 rw[AIH]
 refine D8 (r:=.int .i64) (fun h=>?_) fun i v h=>?_
 ·rcases xN id l with ⟨h1,h2⟩|⟨k,hk,h1,_⟩
  ·exact hA h1 h2
  ·rw[h] at h1;cases h1
 ·rcases xN id l with ⟨h1,_⟩|⟨k,hk,h1,h2⟩
  ·rw[h] at h1;cases h1
  ·rw[h] at h1;cases h1;exact hB i k hk h h2
theorem A9V {l:List ByteArray} {b:ByteArray} {A:Prop} (hl:l.length≤140737488355328) (hyes:l.getLast? = some b→A) (hno:¬ l.getLast? = some b→A) {R2:Prop} (hR2:¬ l.getLast? = some b→R2) {K:Prop} (hK:l.getLast? = some b→K) :
  aB (decide (((List.map Sy.str.enc l).length:Int)=0)) R2 (aO Sy.str (List.map Sy.str.enc l) (IntKind.i64.wrap (((List.map Sy.str.enc l).length:Int)-1)) fun (y:ByteArray)=>aB (!decide (y=b)) R2 K):=by
 rw[List.length_map]
 refine bL (fun h=>hR2 ?_) fun h=>?_
 ·have:l=[]:=List.length_eq_zero_iff.1 (by omega)
  rw[this];simp
 ·have h1:l.length-1<l.length:=by omega
  rw[aS _ (by omega) (by omega),show ((l.length:Int)-1)=((l.length-1:Nat):Int) by omega,aT (r:=.str) h1]
  have e:l.getLast? = some l[l.length-1]:=by rw[List.getLast?_eq_getElem?,List.getElem?_eq_getElem h1]
  refine gP (fun h=>hR2 ?_) fun h=>hK ?_
  ·rw[e];intro h';exact h (Option.some.inj h')
  ·rw[e];exact congrArg some h
theorem BAE {es:List (ByteArray×Bool)} {S:List ByteArray} {id:ByteArray} {R7:Prop} {K:List (ByteArray×Bool)→Prop} (hS:Seen es (fun x=>x∈S)) (h7:id∈S→R7) (hK:∀ es',id∉S→Seen es' (fun x=>x∈id::S)→K es') :
  gK TypeDesc.string (Value.string id) (List.map (cE Sy.str false Sy.bool) es) false Sy.bool
   (oF (Option (Nat×D)) (findD TypeDesc.string (Value.string id) (List.map (cE Sy.str false Sy.bool) es) 0) fun (y24:Option (Nat×D)) =>
    dU Sy.str false Sy.bool (eX (List.map (cE Sy.str false Sy.bool) es) y24 (Value.string id) (D.p (T.v (.bool true)))) fun (y25:List (ByteArray×Bool))=>K y25)
   fun (i20:Nat) (y21:Bool)=>aB y21 R7
    (oF (Option (Nat×D)) (findD TypeDesc.string (Value.string id) (List.map (cE Sy.str false Sy.bool) es) 0) fun (y22:Option (Nat×D)) =>
     dU Sy.str false Sy.bool (eX (List.map (cE Sy.str false Sy.bool) es) y22 (Value.string id) (D.p (T.v (.bool true)))) fun (y23:List (ByteArray×Bool))=>K y23):=by
 refine D8 (r:=.bool) (fun hno=>?_) fun j b hb=>?_
 ·refine AZ0 (r:=.bool) rfl (es:=es) (k:=id) (v:=true) (hK _ (fun h=>?_) ((hS.ins id).congr fun x=>?_))
  ·have:=(hS.2 id).2 h
   rw[hno] at this;cases this
  ·rw[List.mem_cons];exact ⟨fun h=>h.symm.imp_left Eq.symm,fun h=>h.symm.imp_right Eq.symm⟩
 ·have:=hS.1 _ _ hb
  subst this
  rw[eU]
  exact h7 ((hS.2 _).1 hb)
theorem ATF:aK Tryz.prog 28 pN:=AUX fun d m1 m2 m3 m4 r h hb=>by
 unfold uD at h
 split at h
 case h_2=>cases h
 rename_i hok
 replace hok:zN d=true:=hok
 obtain ⟨hx,hs,rfl⟩:=nT h
 simp only[Prod.mk.injEq,true_and] at hx
 obtain ⟨rfl,rfl,rfl,rfl⟩:=hx
 replace hs:mE d:=hs
 clear h hb
 simp only[zN,Bool.and_eq_true,decide_eq_true_eq,List.all_eq_true] at hok
 obtain ⟨hkp,hka⟩:=hok
 have hkq:=fun k hk=>(hkp k hk).2
 replace hkp:=fun k hk=>(hkp k hk).1
 have hlk:=hs.k
 have is:∀ {n:Int},c9 d=n→T.v (.int .i64 n)=T.v (.int .i64 (c9 d)):=fun h=>by rw[h]
 unfold OD
 refine nK (r:=.bool) rfl [] _ ?_
 refine aZ d.2.2.2.2.1.length (fun k s=>∃ S,s.2.2.1=(k:Int)∧Seen s.2.1 (fun x=>x∈S)∧s.1.length≤64*k∧gE d (d.2.2.2.2.1.drop k) k s.1 S=gE d d.2.2.2.2.1 0 [] []) ⟨[],rfl,Seen.nil.congr (by simp),by simp,rfl⟩ ?_
 rintro X k ⟨E,es,i,u⟩ hk ⟨S,rfl,hseen,hlen,hr⟩ hX
 dsimp only at hseen hlen hr ⊢
 refine bL (fun hlt=>?_) fun hge=>?_
 ·rw[List.length_map] at hlt
  have hlt:k<d.2.2.2.2.1.length:=by omega
  rw[aT (r:=aP) hlt]
  rw[List.drop_eq_getElem_cons hlt] at hr
  have hmem:=List.getElem_mem hlt
  have hp1:=hkp _ hmem
  have hp2:=hkq _ hmem
  generalize hy:d.2.2.2.2.1[k]=y at hr hp1 hp2 ⊢
  rw[gE] at hr
  have bad:∀ {n:Int},n≠0→(gE d d.2.2.2.2.1 0 [] []).1=n→T.v (.int .i64 n)=T.v (.int .i64 (c9 d)):=fun hn h=>by
   refine is ?_
   unfold c9
   rw[if_neg (by rw[h];exact hn),h]
  have badH:∀ {n:Int},n≠0→jM d y=n→T.v (.int .i64 n)=T.v (.int .i64 (c9 d)):=fun hn h=>by
   refine bad hn ?_
   rw[if_pos (by rw[h];exact hn)] at hr
   rw[←hr];exact h
  rw[mR]
  refine dM (fun h=>badH (by decide) (by unfold jM;rw[if_pos h])) fun i1=>?_
  refine aD (s:=[(false,.bool)]) (QZ hs _) ?_
  refine dM (fun h=>badH (by decide) (by unfold jM;rw[if_neg (by rw[i1];decide),if_pos h])) fun i2=>?_
  have n1:¬ gX y.1=false:=by rw[i1];decide
  have n2:¬ lU d y.2.1=false:=by rw[i2];decide
  refine bL (fun h=>badH (by decide) (by unfold jM;rw[if_neg n1,if_neg n2,if_pos (.inl h)])) fun h3=>?_
  refine bL (fun h=>badH (by decide) (by unfold jM;rw[if_neg n1,if_neg n2,if_pos (.inr h)])) fun h4=>?_
  have n3:¬ (I5 y<1∨10000<I5 y):=by rintro (h|h);exact h3 h;exact h4 h
  refine aD (s:=[(false,.any)]) (VO (a0:=dE y)) ?_
  refine MD (b:=lL (dE y)) (by rw[List.length_map];exact AZS hp1) _ ?_
  refine dM (fun h=>badH (by decide) (by unfold jM;rw[if_neg n1,if_neg n2,if_neg n3,if_pos (.inl h)])) fun h5=>?_
  refine aD (s:=[(false,.any)]) (VO (a0:=cH y)) ?_
  refine MD (b:=lL (cH y)) (by rw[List.length_map];exact AZS (l:=cH y) hp2) _ ?_
  refine dM (fun h=>badH (by decide) (by unfold jM;rw[if_neg n1,if_neg n2,if_neg n3,if_pos (.inr h)])) fun h6=>?_
  have hh:jM d y=0:=by unfold jM;rw[if_neg n1,if_neg n2,if_neg n3,if_neg];rintro (h|h);(rw[h5] at h;cases h);(rw[h6] at h;cases h)
  have hnd:=IE h6
  clear badH n1 n2 n3 h3 h4 h5 h6 i1 i2
  rw[if_neg (fun h=>h hh)] at hr
  refine nK (r:=.bool) rfl es _ ?_
  refine aZ (dE y).length (fun j s=>∃ S',s.1=(j:Int)∧Seen s.2.1 (fun x=>x∈S')∧instE d y.2.1 ((dE y).drop j) S'=instE d y.2.1 (dE y) S) ⟨S,rfl,hseen,rfl⟩ ?_
  rintro Y j ⟨i,es',u⟩ hj ⟨S',rfl,hseen',hi⟩ hY
  dsimp only at hseen' hi ⊢
  refine bL (fun hjl=>?_) fun hjl=>?_
  ·rw[List.length_map] at hjl
   replace hjl:(j:Int)<((dE y).length:Int):=hjl
   have hjl:j<(dE y).length:=by omega
   rw[aT (r:=.str) hjl]
   rw[List.drop_eq_getElem_cons hjl,instE] at hi
   have badI:∀ {n:Int},n≠0→(instE d y.2.1 (dE y) S).1=n→T.v (.int .i64 n)=T.v (.int .i64 (c9 d)):=fun hn h=>by
    refine bad hn ?_
    rw[if_pos (by rw[h];exact hn)] at hr
    rw[←hr];exact h
   have hw:IntKind.i64.wrap ((j:Int)+1)=((j+1:Nat):Int):=aS _ (by omega) (by omega)
   generalize (dE y)[j]=id at hi ⊢
   refine A9S (fun _ hn=>badI (by decide) ?_) fun i q hq _ hn=>?_
   ·have hn:partOf d id=none:=hn
    rw[hn] at hi;rw[←hi]
   ·have hn:partOf d id=some d.2.2.1[q]:=hn
    rw[hn] at hi
    rw[aT (r:=aU) hq]
    obtain ⟨p,hp⟩:∃ p,p=d.2.2.1[q]:=⟨_,rfl⟩
    rw[←hp] at hi hn ⊢
    dsimp only at hi
    have fin:¬ (¬ bG p=4∧¬ bG p=3)→aG [(false,Sy.str.li),(false,Sy.bool)]
      (iI (lI d (hH (ids d.2.1)) (hH (ids d.2.2.1)) (hH (ids d.2.2.2.1)) (hH (ids d.2.2.2.2.1)) (eY p))) fun (y18:List ByteArray×Bool) =>
      aB (decide (((List.map Sy.str.enc y18.1).length:Int)=0)) (T.v (.int .i64 2)=T.v (.int .i64 (c9 d)))
       (aO Sy.str (List.map Sy.str.enc y18.1) (IntKind.i64.wrap (((List.map Sy.str.enc y18.1).length:Int)-1)) fun (y19:ByteArray) =>
        aB (!decide (y19=y.2.1)) (T.v (.int .i64 2)=T.v (.int .i64 (c9 d)))
        (gK TypeDesc.string (Value.string id) (List.map (cE Sy.str false Sy.bool) es') false Sy.bool
         (oF (Option (Nat×D)) (findD TypeDesc.string (Value.string id) (List.map (cE Sy.str false Sy.bool) es') 0) fun (y24:Option (Nat×D)) =>
          dU Sy.str false Sy.bool (eX (List.map (cE Sy.str false Sy.bool) es') y24 (Value.string id) (D.p (T.v (.bool true)))) fun (y25:List (ByteArray×Bool))=>Y (IntKind.i64.wrap ((j:Int)+1),y25,()))
         fun (i20:Nat) (y21:Bool)=>aB y21 (T.v (.int .i64 7)=T.v (.int .i64 (c9 d)))
          (oF (Option (Nat×D)) (findD TypeDesc.string (Value.string id) (List.map (cE Sy.str false Sy.bool) es') 0) fun (y22:Option (Nat×D)) =>
           dU Sy.str false Sy.bool (eX (List.map (cE Sy.str false Sy.bool) es') y22 (Value.string id) (D.p (T.v (.bool true)))) fun (y23:List (ByteArray×Bool))=>Y (IntKind.i64.wrap ((j:Int)+1),y23,())))):=by
     intro hk
     rw[if_neg hk] at hi
     refine aD (s:=[(false,.li .str),(false,.bool)]) (K4 hs _) ?_
     have hul:=AB1 d (eY p)
     refine A9V (A:=True) (b:=y.2.1) (by omega) (fun _=>trivial) (fun _=>trivial) (fun h=>badI (by decide) ?_) fun h=>?_
     ·rw[if_neg h] at hi;rw[←hi]
     ·rw[if_pos h] at hi
      refine BAE (K:=fun es=>Y (IntKind.i64.wrap ((j:Int)+1),es,())) hseen' (fun h7=>badI (by decide) ?_) fun es2 h7 hs2=>?_
      ·rw[if_pos (iK.2 h7)] at hi;rw[←hi]
      ·rw[if_neg (fun h=>h7 (iK.1 h))] at hi
       rw[hw]
       exact hY _ hjl ⟨id::S',rfl,hs2,hi⟩
    refine gP (fun k4=>?_) fun k4=>?_
    ·refine gP (fun k3=>badI (by decide) ?_) fun k3=>?_
     ·rw[if_pos ⟨k4,k3⟩] at hi;rw[←hi]
     ·rw[aT (r:=aU) hq,←hp]
      exact fin fun h=>h.2 k3
    ·rw[aT (r:=aU) hq,←hp]
     exact fin fun h=>h.1 k4
  ·rw[List.length_map] at hjl
   replace hjl:¬ (j:Int)<((dE y).length:Int):=hjl
   have hjl:j=(dE y).length:=by omega
   subst hjl
   rw[List.drop_length,instE] at hi
   rw[←hi,if_neg (by simp)] at hr
   dsimp only at hr
   clear hY hi hj
   rw[dT rfl]
   refine aZ (cH y).length (fun j s=>s.2.1=(j:Int)∧s.1.length=E.length+j∧(∀ x∈(cH y).take j,x∈ids d.2.2.2.2.1)∧wP d y.1 k ((cH y).drop j) s.1=wP d y.1 k (cH y) E) ⟨rfl,by simp,by simp,rfl⟩ ?_
   rintro Y j ⟨E',i,u⟩ hj ⟨rfl,hEl,hin,hi⟩ hY
   dsimp only at hEl hin hi ⊢
   have hjk:j≤64:=by
    have h1:=AQP (hnd.sublist (List.take_sublist j _)) hin
    have h2:(ids d.2.2.2.2.1).length=d.2.2.2.2.1.length:=by simp[ids]
    rw[List.length_take] at h1
    omega
   refine bL (fun hjl=>?_) fun hjl=>?_
   ·rw[List.length_map] at hjl
    replace hjl:(j:Int)<((cH y).length:Int):=hjl
    have hjl:j<(cH y).length:=by omega
    rw[aT (r:=.str) hjl]
    rw[List.drop_eq_getElem_cons hjl,wP] at hi
    have badA:∀ {n:Int},n≠0→(wP d y.1 k (cH y) E).1=n→T.v (.int .i64 n)=T.v (.int .i64 (c9 d)):=fun hn h=>by
     refine bad hn ?_
     rw[if_pos (by rw[h];exact hn)] at hr
     rw[←hr];exact h
    have hw:IntKind.i64.wrap ((j:Int)+1)=((j+1:Nat):Int):=aS _ (by omega) (by omega)
    have hts:(cH y).take (j+1)=(cH y).take j++[(cH y)[j]]:=List.take_succ_eq_append_getElem hjl
    generalize (cH y)[j]=id at hi hts ⊢
    refine bL (fun h=>badA (by decide) ?_) fun h=>?_
    ·rw[if_pos h] at hi;rw[←hi]
    rw[if_neg h] at hi
    refine A9S (fun hg _=>badA (by decide) ?_) fun i q hq hg hfi=>?_
    ·rw[hg] at hi;rw[←hi]
    ·rw[hg] at hi
     dsimp only at hi
     refine ⟨by simp;omega,?_⟩
     rw[sF (r:=aA) rfl E' [T.v (.int .i64 (q:Int)),T.v (.int .i64 (k:Int))] ((q:Int),(k:Int)) rfl,hw]
     refine hY _ hjl ⟨rfl,by simp only[List.length_append,List.length_cons,List.length_nil];omega,fun x hx=>?_,hi⟩
     rw[hts] at hx
     rcases List.mem_append.1 hx with hx|hx
     ·exact hin x hx
     ·have hx:x=id:=by simpa using hx
      subst hx
      have h9:=List.find?_some hfi
      exact List.mem_map.2 ⟨_,List.getElem_mem hq,of_decide_eq_true h9⟩
   ·rw[List.length_map] at hjl
    replace hjl:¬ (j:Int)<((cH y).length:Int):=hjl
    have hjl:j=(cH y).length:=by omega
    subst hjl
    rw[List.drop_length,wP] at hi
    rw[←hi,if_neg (by simp)] at hr
    dsimp only at hr
    rw[dT rfl]
    refine nK (r:=.bool) rfl es' _ ?_
    refine hX _ hlt ⟨S',?_,hseen',?_,?_⟩
    ·show IntKind.i64.wrap ((k:Int)+1)=_
     rw[aS]<;>omega
    ·show E'.length≤_
     omega
    ·rw[←hr];rfl
 ·rw[List.length_map] at hge
  have hkl:k=d.2.2.2.2.1.length:=by omega
  subst hkl
  rw[List.drop_length,gE] at hr
  have w:c9 d=if (dJ d.2.2.2.2.1.length E).2=0 then 0 else 20:=by
   unfold c9;rw[←hr,if_pos rfl]
  refine aD (s:=[(false,.li (.int .i64)),(false,.int .i64)]) (y:=dJ d.2.2.2.2.1.length E) (by rw[List.length_map];exact (ANC ..).trans (eH (l:=E) _ (by omega))) ?_
  exact gP (fun h=>is (by rw[w,if_neg h])) fun h=>is (by rw[w,if_pos h])
end Go.Pv
namespace Go.Pv
open Go Go.Proofs
theorem L7 {a:Option MP} {es:MP} {K:MP→Prop} (h:a=some es) (hk:K es):oF (List (ByteArray×Int)) a K:=⟨es,h,hk⟩
end Go.Pv
namespace Go.Pv
open Go Go.Proofs
noncomputable def Q0:List T→Option (List (ByteArray×Int)):=AT5
theorem A6Z:iV Tryz.prog 56 (rP Q0):=A9H
noncomputable def AJR:Env:=Env.of [(21,.pure sO),(22,.pure eR),(56,.AMF Q0),(24,.pure IY),(25,.pure sK),(26,.pure pO),(27,.pure sL),(28,.pure pN),(29,.pure sJ)]
def AXV:FuncId→Hint:=fun _=>aV
theorem AWZ:aH Tryz.prog AJR:=aH.cons (x:=.pure sO) ATK (aH.cons (x:=.pure eR) yY (aH.cons (x:=.AMF Q0) A6Z (aH.cons (x:=.pure IY) A3M (aH.cons (x:=.pure sK) ATB (aH.cons (x:=.pure pO) ATG (aH.cons (x:=.pure sL) ATC (aH.cons (x:=.pure pN) ATF (aH.cons (x:=.pure sJ) ATA (aH.nil _)))))))))
def AK8 (a0:aF) (a1:aN) (R:T→Prop):Prop :=
 aG [(false,Sy.int IntKind.i64)] (sO [aC true aE a1])
 fun (y0:Int) =>
 aB (!decide (y0=0)) (R (T.v (.int .i64 y0)))
 (aG [(false,Sy.bool)] (eR [T.v (.string a0.1)]) fun (y1:Bool) =>
 aB (!y1) (R (T.v (.int .i64 6)))
 (oF (List (ByteArray×Int))
 (Q0
 [T.fn 57 [].reverse
 [T.ref
 [T.ref
 [T.sl false (List.map aQ.enc a0.2.2.2.2.2),
 T.sl false (List.map aP.enc a0.2.2.2.2.1),
 T.sl false (List.map a6.enc a0.2.2.2.1),
 T.sl false (List.map aU.enc a0.2.2.1),
 T.sl false (List.map bE.enc a0.2.1),
 T.v (.string a0.1)].reverse].reverse].reverse,
 T.v (.int .i64 (↑(List.map bE.enc a0.2.1).length:Int))].reverse)
 fun (y2:List (ByteArray×Int)) =>
 oF (List (ByteArray×Int))
 (Q0
 [T.fn 58 [].reverse
 [T.ref
 [T.ref
 [T.sl false (List.map aQ.enc a0.2.2.2.2.2),
 T.sl false (List.map aP.enc a0.2.2.2.2.1),
 T.sl false (List.map a6.enc a0.2.2.2.1),
 T.sl false (List.map aU.enc a0.2.2.1),
 T.sl false (List.map bE.enc a0.2.1),
 T.v (.string a0.1)].reverse].reverse].reverse,
 T.v
 (Value.int IntKind.i64 (↑(List.map aU.enc a0.2.2.1).length:Int))].reverse)
 fun (y3:List (ByteArray×Int)) =>
 oF (List (ByteArray×Int))
 (Q0
 [T.fn 59 [].reverse
 [T.ref
 [T.ref
 [T.sl false (List.map aQ.enc a0.2.2.2.2.2),
 T.sl false (List.map aP.enc a0.2.2.2.2.1),
 T.sl false (List.map a6.enc a0.2.2.2.1),
 T.sl false (List.map aU.enc a0.2.2.1),
 T.sl false (List.map bE.enc a0.2.1),
 T.v (.string a0.1)].reverse].reverse].reverse,
 T.v
 (Value.int IntKind.i64
 (↑(List.map a6.enc a0.2.2.2.1).length:Int))].reverse)
 fun (y4:List (ByteArray×Int)) =>
 oF (List (ByteArray×Int))
 (Q0
 [T.fn 60 [].reverse
 [T.ref
 [T.ref
 [T.sl false (List.map aQ.enc a0.2.2.2.2.2),
 T.sl false (List.map aP.enc a0.2.2.2.2.1),
 T.sl false (List.map a6.enc a0.2.2.2.1),
 T.sl false (List.map aU.enc a0.2.2.1),
 T.sl false (List.map bE.enc a0.2.1),
 T.v (.string a0.1)].reverse].reverse].reverse,
 T.v
 (Value.int IntKind.i64
 (↑(List.map aP.enc a0.2.2.2.2.1).length:Int))].reverse)
 fun (y5:List (ByteArray×Int)) =>
 aG [(false,Sy.int IntKind.i64)]
 (IY
 [T.ref
 [T.ref
 [T.v (.string a0.1),T.sl false (List.map bE.enc a0.2.1),
 T.sl false (List.map aU.enc a0.2.2.1),
 T.sl false (List.map a6.enc a0.2.2.2.1),
 T.sl false (List.map aP.enc a0.2.2.2.2.1),
 T.sl false (List.map aQ.enc a0.2.2.2.2.2)],
 T.mp (bI y2),T.mp (bI y3),T.mp (bI y4),
 T.mp (bI y5)]])
 fun (y6:Int) =>
 aB (!decide (y6=0)) (R (T.v (.int .i64 y6)))
 (aG [(false,Sy.int IntKind.i64)]
 (sK
 [T.ref
 [T.ref
 [T.v (.string a0.1),
 T.sl false (List.map bE.enc a0.2.1),
 T.sl false (List.map aU.enc a0.2.2.1),
 T.sl false (List.map a6.enc a0.2.2.2.1),
 T.sl false (List.map aP.enc a0.2.2.2.2.1),
 T.sl false (List.map aQ.enc a0.2.2.2.2.2)],
 T.mp (bI y2),T.mp (bI y3),T.mp (bI y4),
 T.mp (bI y5)]])
 fun (y7:Int) =>
 aB (!decide (y7=0)) (R (T.v (.int .i64 y7)))
 (aG [(false,Sy.int IntKind.i64)]
 (pO
 [T.ref
 [T.ref
 [T.v (.string a0.1),
 T.sl false (List.map bE.enc a0.2.1),
 T.sl false (List.map aU.enc a0.2.2.1),
 T.sl false (List.map a6.enc a0.2.2.2.1),
 T.sl false (List.map aP.enc a0.2.2.2.2.1),
 T.sl false (List.map aQ.enc a0.2.2.2.2.2)],
 T.mp (bI y2),T.mp (bI y3),T.mp (bI y4),
 T.mp (bI y5)],
 aC true aE a1])
 fun (y8:Int) =>
 aB (!decide (y8=0)) (R (T.v (.int .i64 y8)))
 (aG [(false,Sy.int IntKind.i64)]
 (sL
 [T.ref
 [T.ref
 [T.v (.string a0.1),
 T.sl false (List.map bE.enc a0.2.1),
 T.sl false (List.map aU.enc a0.2.2.1),
 T.sl false (List.map a6.enc a0.2.2.2.1),
 T.sl false (List.map aP.enc a0.2.2.2.2.1),
 T.sl false (List.map aQ.enc a0.2.2.2.2.2)],
 T.mp (bI y2),T.mp (bI y3),
 T.mp (bI y4),T.mp (bI y5)]])
 fun (y9:Int) =>
 aB (!decide (y9=0)) (R (T.v (.int .i64 y9)))
 (aG [(false,Sy.int IntKind.i64)]
 (pN
 [T.ref
 [T.ref
 [T.v (.string a0.1),
 T.sl false (List.map bE.enc a0.2.1),
 T.sl false (List.map aU.enc a0.2.2.1),
 T.sl false (List.map a6.enc a0.2.2.2.1),
 T.sl false (List.map aP.enc a0.2.2.2.2.1),
 T.sl false (List.map aQ.enc a0.2.2.2.2.2)],
 T.mp (bI y2),T.mp (bI y3),
 T.mp (bI y4),T.mp (bI y5)]])
 fun (y10:Int) =>
 aB (!decide (y10=0)) (R (T.v (.int .i64 y10)))
 (aG [(false,Sy.int IntKind.i64)]
 (sJ
 [T.ref
 [T.ref
 [T.v (.string a0.1),
 T.sl false (List.map bE.enc a0.2.1),
 T.sl false (List.map aU.enc a0.2.2.1),
 T.sl false (List.map a6.enc a0.2.2.2.1),
 T.sl false (List.map aP.enc a0.2.2.2.2.1),
 T.sl false (List.map aQ.enc a0.2.2.2.2.2)],
 T.mp (bI y2),T.mp (bI y3),
 T.mp (bI y4),T.mp (bI y5)]])
 fun (y11:Int)=>R (T.v (.int .i64 y11)))))))))
theorem AR7 ( a0 a1 R):bC aY Tryz.prog AJR AXV 8 9 [aC true aL a0,aC true aE a1] R=AK8 a0 a1 R:=by kernel_rfl
abbrev ABF:Sh:=[(true,aL),(true,aE)]
def iH (d:aF) (m:aN):Int:=if ¬ kQ m=0 then kQ m else if isName d.1=false then 6 else if ¬ dZ d=0 then dZ d else if ¬ dF d=0 then dF d else if ¬ eC d m=0 then eC d m else if ¬ bD (jA d) d.2.2.2.1=0 then bD (jA d) d.2.2.2.1 else if ¬ c9 d=0 then c9 d else bD (hU d) d.2.2.2.2.2
def ABO (x:aF×aN):Option T:=some (T.v (Value.int .i64 (iH x.1 x.2)))
noncomputable def ZY:List T→Option (T):=gS ABF ABO
theorem VL {a0 a1}:ZY [aC true aL a0,aC true aE a1]=ABO (a0,a1):=a8 (s:=ABF) rfl (a0,a1) rfl
theorem A4F (h:∀ a0 a1 r,ABO (a0,a1)=some r→b8 ABF (a0,a1)→AK8 a0 a1 (fun y=>y=r)):aK Tryz.prog 9 ZY :=
 aR (E:=AJR) (Hs:=AXV) AWZ aW aX (aM rfl) 8 ⟨_,_,Tryz.func9,rfl⟩ rfl fun x r h1 h2=>by
  obtain ⟨a0,a1⟩:=x
  rw[show Sh.bN ABF (a0,a1)=[aC true aL a0,aC true aE a1] from rfl,AR7]
  exact h a0 a1 r h1 h2
theorem AQR {m:aN} (h:kQ m=0):BK m=true:=by
 unfold kQ at h
 split at h
 ·cases h
 rename_i h1
 split at h
 ·rename_i h2;exact absurd h h2
 rename_i h2
 have h2:bD (jL m) (List.range m.1.length)=0:=Classical.byContradiction h2
 simp only[BK,Bool.and_eq_true,decide_eq_true_eq,List.all_eq_true]
 refine ⟨⟨by omega,by omega⟩,fun g hg=>?_⟩
 obtain ⟨i,hi,rfl⟩:=List.mem_iff_getElem.1 hg
 have h3:=jD h2 i (List.mem_range.2 hi)
 unfold jL at h3
 rw[gO hi] at h3
 have h4:fB m.1[i]=0:=by
  refine Classical.byContradiction fun hc=>?_
  rw[if_pos hc] at h3
  exact hc h3
 unfold fB at h4
 split at h4
 ·cases h4
 split at h4
 ·cases h4
 split at h4
 ·cases h4
 split at h4
 ·cases h4
 ·omega
theorem A24 {d:aF} {m:aN} (hs:mE d) (hm:BK m=true):pO (nH d (hH (ids d.2.1)) (hH (ids d.2.2.1)) (hH (ids d.2.2.2.1)) (hH (ids d.2.2.2.2.1)) m)=some (T.v (Value.int .i64 (eC d m))):=by
 rw[AGU];unfold uE;dsimp only;rw[hm];exact nU hs _
theorem A23 {d:aF} (hs:mE d) (hk:zN d=true):pN (nG d (hH (ids d.2.1)) (hH (ids d.2.2.1)) (hH (ids d.2.2.2.1)) (hH (ids d.2.2.2.2.1)))=some (T.v (Value.int .i64 (c9 d))):=by
 rw[AGT];unfold uD;dsimp only;rw[hk];exact nU hs _
theorem A3K:aK Tryz.prog 9 ZY:=A4F fun d m r h hb=>by
 cases h
 have hd:BdS aL d:=hb.1
 have hs:mE d:=⟨hd.2.1.1,hd.2.2.1.1,hd.2.2.2.1.1,hd.2.2.2.2.1.1,hd.2.2.2.2.2.1⟩
 have hkl:∀ k∈d.2.2.2.2.1,(dE k).length≤140737488355328∧(cH k).length≤140737488355328:=fun k hk=>by
  have h:=hd.2.2.2.2.1.2 k hk
  exact ⟨h.2.2.1.1,h.2.2.2.2.1⟩
 clear hd
 have is:∀ {n:Int},iH d m=n→T.v (.int .i64 n)=T.v (.int .i64 (iH d m)):=fun h=>by rw[h]
 unfold AK8
 refine aD (s:=[(false,.int .i64)]) (y:=kQ m) (AG4 ..) ?_
 refine gP (fun h=>is (by unfold iH;rw[if_pos h])) fun h0=>?_
 have hm:=AQR h0
 refine aD (s:=[(false,.bool)]) (y:=isName d.1) xG ?_
 have n0:¬ ¬ kQ m=0:=fun h=>h h0
 refine dM (fun h=>is (by unfold iH;rw[if_neg n0,if_pos h])) fun hn=>?_
 have n1:¬ isName d.1=false:=by rw[hn];decide
 refine L7 (es:=hH (ids d.2.1)) (by rw[List.length_map];exact A67 hs.n) ?_
 refine L7 (es:=hH (ids d.2.2.1)) (by rw[List.length_map];exact A68 hs.p) ?_
 refine L7 (es:=hH (ids d.2.2.2.1)) (by rw[List.length_map];exact A69 hs.s) ?_
 refine L7 (es:=hH (ids d.2.2.2.2.1)) (by rw[List.length_map];exact A7A hs.k) ?_
 refine aD (s:=[(false,.int .i64)]) (y:=dZ d) ((AT3 ..).trans (nU hs _)) ?_
 refine gP (fun h=>is (by unfold iH;rw[if_neg n0,if_neg n1,if_pos h])) fun h1=>?_
 have n2:¬ ¬ dZ d=0:=fun h=>h h1
 have hk:zN d=true:=by
  simp only[zN,Bool.and_eq_true,decide_eq_true_eq,List.all_eq_true]
  refine ⟨hkl,?_⟩
  have hlong:dP d=false:=by
   rw[Bool.eq_false_iff]
   intro h
   unfold dZ at h1
   rw[if_pos h] at h1
   cases h1
  simp only[dP,Bool.or_eq_false_iff,decide_eq_false_iff_not] at hlong
  omega
 refine aD (s:=[(false,.int .i64)]) (y:=dF d) ((AGP ..).trans (nU hs _)) ?_
 refine gP (fun h=>is (by unfold iH;rw[if_neg n0,if_neg n1,if_neg n2,if_pos h])) fun h2=>?_
 have n3:¬ ¬ dF d=0:=fun h=>h h2
 refine aD (s:=[(false,.int .i64)]) (y:=eC d m) (A24 hs hm) ?_
 refine gP (fun h=>is (by unfold iH;rw[if_neg n0,if_neg n1,if_neg n2,if_neg n3,if_pos h])) fun h3=>?_
 have n4:¬ ¬ eC d m=0:=fun h=>h h3
 refine aD (s:=[(false,.int .i64)]) (y:=bD (jA d) d.2.2.2.1) ((AGQ ..).trans (nU hs _)) ?_
 refine gP (fun h=>is (by unfold iH;rw[if_neg n0,if_neg n1,if_neg n2,if_neg n3,if_neg n4,if_pos h])) fun h4=>?_
 have n5:¬ ¬ bD (jA d) d.2.2.2.1=0:=fun h=>h h4
 refine aD (s:=[(false,.int .i64)]) (y:=c9 d) (A23 hs hk) ?_
 refine gP (fun h=>is (by unfold iH;rw[if_neg n0,if_neg n1,if_neg n2,if_neg n3,if_neg n4,if_neg n5,if_pos h])) fun h5=>?_
 have n6:¬ ¬ c9 d=0:=fun h=>h h5
 refine aD (s:=[(false,.int .i64)]) (y:=bD (hU d) d.2.2.2.2.2) ((AGO ..).trans (nU hs _)) ?_
 exact is (by unfold iH;rw[if_neg n0,if_neg n1,if_neg n2,if_neg n3,if_neg n4,if_neg n5,if_neg n6])
noncomputable def bR:List T→Option T:=gD ZY
theorem AY4:aK Tryz.prog 9 bR:=A3K.deep
end Go.Pv
namespace Go.Pv
open Go Go.Proofs
def IL (d:aF) (n:Int):Bool:=decide ((d.2.1.length:Int)≤n)&&decide ((d.2.2.1.length:Int)≤n)&&decide ((d.2.2.2.1.length:Int)≤n)&&decide ((d.2.2.2.2.1.length:Int)≤n)&&decide ((d.2.2.2.2.2.length:Int)≤n)&&d.2.2.2.2.1.all fun k=>decide ((k.2.2.1.length:Int)≤n)&&decide ((k.2.2.2.2.length:Int)≤n)
def AO4 (x:aF×Int):Option T:=some (Sh.enc r_b (IL x.1 x.2))
noncomputable def AWN:Env:=Env.of []
def A5C:FuncId→Hint:=fun f=>match f == 7 with|true=>⟨fun r=>match r == 4 with|true=>.inv [.val 5 false (.int .i64)]|false=>.none,fun _ _=>none,fun _=>none⟩|false=>aV
theorem A2H:aH Tryz.prog AWN:=aH.nil _
def AW7 (a0:aF) (a1:Int) (R:T→Prop):Prop :=
 aB (decide (a1<(↑(List.map bE.enc a0.2.1).length:Int))) (R (T.v (.bool false)))
 (aB (decide (a1<(↑(List.map aU.enc a0.2.2.1).length:Int)))
 (R (T.v (.bool false)))
 (aB (decide (a1<(↑(List.map a6.enc a0.2.2.2.1).length:Int)))
 (R (T.v (.bool false)))
 (aB (decide (a1<(↑(List.map aP.enc a0.2.2.2.2.1).length:Int)))
 (R (T.v (.bool false)))
 (aB (decide (a1<(↑(List.map aQ.enc a0.2.2.2.2.2).length:Int)))
 (R (T.v (.bool false)))
 (bA (Int×PUnit)
 (fun (X0:Int×PUnit→Prop) (s1:Int×PUnit) =>
 aB (decide (s1.1<(↑(List.map aP.enc a0.2.2.2.2.1).length:Int)))
 (aO aP (List.map aP.enc a0.2.2.2.2.1) s1.1
 fun (y2:cC) =>
 aB (decide (a1<(↑(List.map Sy.str.enc y2.2.2.1).length:Int)))
 (R (T.v (.bool false)))
 (aO aP (List.map aP.enc a0.2.2.2.2.1) s1.1
 fun (y3:cC) =>
 aB (decide (a1<(↑(List.map Sy.str.enc y3.2.2.2.2).length:Int)))
 (R (T.v (.bool false))) (X0 (IntKind.i64.wrap (s1.1+1),()))))
 (R (T.v (.bool true))))
 (0,()))))))
theorem AW8 ( a0 a1 R):bC aY Tryz.prog AWN A5C 8 7 [aC true aL a0,aC false (Sy.int IntKind.i64) a1] R=AW7 a0 a1 R:=by kernel_rfl
abbrev AQ8:Sh:=[(true,aL),(false,(Sy.int IntKind.i64))]
noncomputable def QY:List T→Option (T):=gS AQ8 AO4
theorem AZH {a0 a1}:QY [aC true aL a0,T.v (.int .i64 a1)]=AO4 (a0,a1):=a8 (s:=AQ8) rfl (a0,a1) rfl
theorem A7Y (h:∀ a0 a1 r,AO4 (a0,a1)=some r→b8 AQ8 (a0,a1)→AW7 a0 a1 (fun y=>y=r)):aK Tryz.prog 7 QY :=
 aR (E:=AWN) (Hs:=A5C) A2H aW aX (aM rfl) 8 ⟨_,_,Tryz.func7,rfl⟩ rfl fun x r h1 h2=>by
  obtain ⟨a0,a1⟩:=x
  rw[show Sh.bN AQ8 (a0,a1)=[aC true aL a0,aC false (Sy.int IntKind.i64) a1] from rfl,AW8]
  exact h a0 a1 r h1 h2
theorem vB {n:Int} {m:Nat} {A B:Prop} (h1:¬ (m:Int)≤n→A) (h2:(m:Int)≤n→B):aB (decide (n<(m:Int))) A B:=by
 by_cases h:(m:Int)≤n
 ·exact dN (by omega) (h2 h)
 ·exact cV (by omega) (h1 h)
theorem AX6 {α:Type} {p:α→Bool} {l:List α} {k:Nat} (h:k<l.length):(l.drop k).all p=(p l[k]&&(l.drop (k+1)).all p):=by rw[List.drop_eq_getElem_cons h,List.all_cons]
theorem A6U:aK Tryz.prog 7 QY:=A7Y fun d n r h hb=>by
 cases h
 have hl:d.2.2.2.2.1.length≤2 ^ 47:=hb.1.2.2.2.2.1.1
 have no:IL d n=false→T.v (.bool false)=Sh.enc r_b (IL d n):=fun h=>by rw[h];rfl
 unfold AW7
 simp only[List.length_map]
 refine vB (fun h=>no (by simp[IL,h])) fun g1=>?_
 refine vB (fun h=>no (by simp[IL,h])) fun g2=>?_
 refine vB (fun h=>no (by simp[IL,h])) fun g3=>?_
 refine vB (fun h=>no (by simp[IL,h])) fun g4=>?_
 refine vB (fun h=>no (by simp[IL,h])) fun g5=>?_
 refine aZ d.2.2.2.2.1.length (fun k s=>s=((k:Int),())∧IL d n=(d.2.2.2.2.1.drop k).all fun k=>decide ((k.2.2.1.length:Int)≤n)&&decide ((k.2.2.2.2.length:Int)≤n)) ⟨rfl,by simp only[IL,g1,g2,g3,g4,g5,decide_true,Bool.true_and,List.drop_zero]⟩ ?_
 rintro X k s hk ⟨rfl,he⟩ hX
 dsimp only
 by_cases hlt:k<d.2.2.2.2.1.length
 ·rw[AX6 hlt] at he
  refine cV (by simp[hlt]) ?_
  rw[aT (r:=aP) hlt]
  try simp only[List.length_map]
  refine vB (fun h=>no (by rw[he];simp[h])) fun g6=>?_
  try rw[aT (r:=aP) hlt]
  try simp only[List.length_map]
  refine vB (fun h=>no (by rw[he];simp[h])) fun g7=>?_
  refine hX _ hlt ⟨by rw[show IntKind.i64.wrap ((k:Int)+1)=((k+1:Nat):Int) from aS _ (by omega) (by omega)],?_⟩
  rw[he]
  simp only[g6,g7,decide_true,Bool.true_and]
 ·have:k=d.2.2.2.2.1.length:=by omega
  subst this
  refine dN (by simp) ?_
  rw[he];simp only[List.drop_length,List.all_nil];rfl
theorem QX (K:Bool→Prop):aG [(false,Sy.bool)] (dB []) K=K true:=mF (s:=[(false,Sy.bool)]) rfl true K
theorem A3X {c:Bool} {A B:Prop} (h1:c=false→A) (h2:c=true→B):aB (!c) A B:=by cases c with
 | true=>exact h2 rfl
 | false=>exact h1 rfl
end Go.Pv
namespace Go.Pv
open Go Go.Proofs
def SI (d:aF):Bool:=decide (d.2.1.length≤1000000)&&decide (d.2.2.1.length≤1000000)
def AIY (d:aF) (t:T):Option T:=match okD d&&okK d&&SI d with
 | true=>some t
 | false=>none
theorem A1E {d:aF} {t r:T} (h:AIY d t=some r):okD d=true∧okK d=true∧(d.2.1.length≤1000000∧d.2.2.1.length≤1000000)∧r=t:=by
 unfold AIY at h;split at h
 ·rename_i hc
  simp only[SI,Bool.and_eq_true,decide_eq_true_eq] at hc
  cases h;exact ⟨hc.1.1,hc.1.2,hc.2,rfl⟩
 ·cases h
theorem A1F {d:aF} (t:T) (h1:okD d=true) (h2:okK d=true) (h3:SI d=true):AIY d t=some t:=by unfold AIY;rw[h1,h2,h3];rfl
theorem AWE {d:aF} {n:Int} (h:IL d n=true) (hn:n≤1000000):SI d=true:=by
 simp only[IL,Bool.and_eq_true,decide_eq_true_eq] at h
 simp only[SI,Bool.and_eq_true,decide_eq_true_eq]
 omega
def A9L (l:List ByteArray) (x:ByteArray):Bool:=l.any fun y=>decide (y=x)
def SN (x:List ByteArray×ByteArray):Option T:=some (Sh.enc r_b (A9L x.1 x.2))
def RE (l:List ByteArray):ByteArray:=l.getLastD ⟨#[]⟩
def WV (d:aF) (id:ByteArray):ByteArray×Bool:=if (up d id).2=true then (RE (up d id).1,true) else (⟨#[]⟩,false)
def fY (d:aF) (id:ByteArray):ByteArray×Bool:=match cB d id with
 | some _=>WV d id
 | none=>match partOf d id with
  | some p=>WV d (AQ5 p)
  | none=>match jP d id with
   | some k=>(match cB d k.2.1 with
    | some n=>if n.2.1=1 then (k.2.1,true) else (⟨#[]⟩,false)
    | none=>(⟨#[]⟩,false))
   | none=>(⟨#[]⟩,false)
theorem uW {α:Type} (no x:α):found no (some x)=(x,true):=rfl
theorem uV {α:Type} (no:α):found no none=(no,false):=rfl
abbrev ABB:Sh:=[(false,.str),(false,.bool)]
def A1X (x:aF×ByteArray):Option T:=AIY x.1 (Sh.enc ABB (fY x.1 x.2))
abbrev C0:=A1X
noncomputable def W9:Env:=Env.of []
def APQ:FuncId→Hint:=fun f=>match f == 14 with|true=>⟨fun r=>match r == 2 with|true=>.inv [.val 5 false (.int .i64)]|false=>.none,fun _ _=>none,fun _=>none⟩|false=>aV
theorem ARX:aH Tryz.prog W9:=aH.nil _
def XZ (a0:List ByteArray) (a1:ByteArray) (R:T→Prop):Prop :=
 bA (Int×PUnit)
 (fun (X0:Int×PUnit→Prop) (s1:Int×PUnit) =>
 aB (decide (s1.1<(↑(List.map Sy.str.enc a0).length:Int)))
 (aO Sy.str (List.map Sy.str.enc a0) s1.1 fun (y2:ByteArray) =>
 aB (decide (y2=a1)) (R (T.v (.bool true))) (X0 (IntKind.i64.wrap (s1.1+1),())))
 (R (T.v (.bool false))))
 (0,())
theorem ALD ( a0 a1 R):bC aY Tryz.prog W9 APQ 8 14 [aC false Sy.str.li a0,aC false Sy.str a1] R=XZ a0 a1 R:=by kernel_rfl
abbrev MI:Sh:=[(false,Sy.str.li),(false,Sy.str)]
noncomputable def eP:List T→Option (T):=gS MI SN
theorem CN {a0 a1}:eP [T.sl false (List.map Sy.str.enc a0),T.v (.string a1)]=SN (a0,a1):=a8 (s:=MI) rfl (a0,a1) rfl
theorem A00 (h:∀ a0 a1 r,SN (a0,a1)=some r→b8 MI (a0,a1)→XZ a0 a1 (fun y=>y=r)):aK Tryz.prog 14 eP :=
 aR (E:=W9) (Hs:=APQ) ARX aW aX (aM rfl) 8 ⟨_,_,Tryz.func14,rfl⟩ rfl fun x r h1 h2=>by
  obtain ⟨a0,a1⟩:=x
  rw[show Sh.bN MI (a0,a1)=[aC false Sy.str.li a0,aC false Sy.str a1] from rfl,ALD]
  exact h a0 a1 r h1 h2
theorem ALX {α:Type} {p:α→Bool} {l:List α} {k:Nat} (h:k<l.length):(l.drop k).any p=(p l[k]||(l.drop (k+1)).any p):=by rw[List.drop_eq_getElem_cons h,List.any_cons]
theorem QM:aK Tryz.prog 14 eP:=A00 fun l x r h hb=>by
 cases h
 have hl:l.length≤2 ^ 47:=hb.1.1
 unfold XZ
 refine aZ l.length (fun k s=>s=((k:Int),())∧A9L l x=(l.drop k).any fun y=>decide (y=x)) ⟨rfl,rfl⟩ ?_
 rintro X k s hk ⟨rfl,he⟩ hX
 dsimp only
 by_cases hlt:k<l.length
 ·rw[ALX hlt] at he
  refine cV (by simp[hlt]) ?_
  rw[aT (r:=.str) hlt]
  by_cases h1:l[k]=x
  ·refine cV h1 ?_
   rw[he,decide_eq_true h1];rfl
  ·refine dN h1 (hX _ hlt ⟨by rw[show IntKind.i64.wrap ((k:Int)+1)=((k+1:Nat):Int) from aS _ (by omega) (by omega)],?_⟩)
   rw[he,decide_eq_false h1,Bool.false_or]
 ·have:k=l.length:=by omega
  subst this
  refine dN (by simp) ?_
  rw[he,List.drop_length];rfl
theorem BAI {d:aF} {id:ByteArray} (h:(up d id).2=true):(up d id).1≠[]:=by
 have key:∀ n id l,(upF d n id l).2=true→(upF d n id l).1≠[]:=by
  intro n
  induction n with
  | zero=>intro id l h;simp[upF] at h
  | succ n ih =>
   intro id l h
   simp only[upF] at h ⊢
   cases hn:cB d id with
   | none=>simp[hn] at h
   | some x =>
    simp only[hn] at h ⊢
    by_cases hx:x.2.1=1
    ·simp[hx]
    ·simp only[hx,if_false] at h ⊢;exact ih _ _ h
 exact key _ _ _ h
theorem AZ3 {l:List ByteArray} (hl:l.length≤65) (h0:l≠[]) (K:ByteArray→Prop):aO Sy.str (List.map Sy.str.enc l) (IntKind.i64.wrap (((List.map Sy.str.enc l).length:Int)-1)) K=K (RE l):=by
 have hpos:0<l.length:=List.length_pos_iff.2 h0
 have e:IntKind.i64.wrap (((List.map Sy.str.enc l).length:Int)-1)=((l.length-1:Nat):Int):=by
  rw[List.length_map,aS _ (by omega) (by omega)];omega
 rw[e,aT (r:=.str) (by omega)]
 have:RE l=l[l.length-1]'(by omega):=by
  unfold RE
  rw[List.getLastD_eq_getLast?,List.getLast?_eq_getElem?,List.getElem?_eq_getElem (by omega)]
  rfl
 rw[←this]
noncomputable def GK:Env:=Env.of [(41,.pure cY),(85,.pure eT),(89,.pure j8),(80,.pure EJ)]
def T2:FuncId→Hint:=fun _=>aV
theorem AB7:aH Tryz.prog GK:=aH.cons (x:=.pure cY) oS (aH.cons (x:=.pure eT) yZ (aH.cons (x:=.pure j8) VA (aH.cons (x:=.pure EJ) AZF (aH.nil _))))
def HE (a0:aF) (a1:ByteArray) (R:T→Prop):Prop :=
 aG [(true,bE),(false,Sy.bool)]
 (cY [aC true aL a0,T.v (.string a1)]) fun (y0:gT×Bool) =>
 aB (!y0.2)
 (aG [(true,aU),(false,Sy.bool)]
 (eT [aC true aL a0,T.v (.string a1)])
 fun (y1:bM×Bool) =>
 aB y1.2
 (aG [(false,Sy.str.li),(false,Sy.bool)]
 (EJ [aC true aL a0,T.v (.string y1.1.2.2.2.1)])
 fun (y2:List ByteArray×Bool) =>
 aB (!y2.2)
 (R (T.cR [T.v (.string { data:=#[] }),T.v (.bool false)]))
 (aO Sy.str (List.map Sy.str.enc y2.1)
 (IntKind.i64.wrap ((↑(List.map Sy.str.enc y2.1).length:Int)-1)) fun (y3:ByteArray) =>
 R (T.cR [T.v (.string y3),T.v (.bool true)])))
 (aG [(true,aP),(false,Sy.bool)]
 (j8 [aC true aL a0,T.v (.string a1)])
 fun (y4:cC×Bool) =>
 aB y4.2
 (aG [(true,bE),(false,Sy.bool)]
 (cY [aC true aL a0,T.v (.string y4.1.2.1)])
 fun (y5:gT×Bool) =>
 aB (!y5.2)
 (R (T.cR [T.v (.string { data:=#[] }),T.v (.bool false)]))
 (aB (!decide (y5.1.2.1=1))
 (R (T.cR [T.v (.string { data:=#[] }),T.v (.bool false)]))
 (R (T.cR [T.v (.string y4.1.2.1),T.v (.bool true)]))))
 (R (T.cR [T.v (.string { data:=#[] }),T.v (.bool false)]))))
 (aG [(false,Sy.str.li),(false,Sy.bool)]
 (EJ [aC true aL a0,T.v (.string a1)])
 fun (y6:List ByteArray×Bool) =>
 aB (!y6.2)
 (R (T.cR [T.v (.string { data:=#[] }),T.v (.bool false)]))
 (aO Sy.str (List.map Sy.str.enc y6.1)
 (IntKind.i64.wrap ((↑(List.map Sy.str.enc y6.1).length:Int)-1)) fun (y7:ByteArray) =>
 R (T.cR [T.v (.string y7),T.v (.bool true)])))
theorem XS ( a0 a1 R):bC aY Tryz.prog GK T2 8 124 [aC true aL a0,aC false Sy.str a1] R=HE a0 a1 R:=by kernel_rfl
abbrev zR:Sh:=[(true,aL),(false,Sy.str)]
noncomputable def jU:List T→Option (T):=gS zR C0
theorem ZW {a0 a1}:jU [aC true aL a0,T.v (.string a1)]=C0 (a0,a1):=a8 (s:=zR) rfl (a0,a1) rfl
theorem AN1 (h:∀ a0 a1 r,C0 (a0,a1)=some r→b8 zR (a0,a1)→HE a0 a1 (fun y=>y=r)):aK Tryz.prog 124 jU :=
 aR (E:=GK) (Hs:=T2) AB7 aW aX (aM rfl) 8 ⟨_,_,Tryz.func124,rfl⟩ rfl fun x r h1 h2=>by
  obtain ⟨a0,a1⟩:=x
  rw[show Sh.bN zR (a0,a1)=[aC true aL a0,aC false Sy.str a1] from rfl,XS]
  exact h a0 a1 r h1 h2
theorem AMH:aK Tryz.prog 124 jU:=AN1 fun d id r h hb=>by
 obtain ⟨hok,hok2,_,rfl⟩:=A1E h
 clear h
 have top:∀ at0,fY d id=WV d at0→aB (!(up d at0).2) (T.cR [T.v (.string { data:=#[] }),T.v (.bool false)]=Sh.enc ABB (fY d id)) (aO Sy.str (List.map Sy.str.enc (up d at0).1) (IntKind.i64.wrap (((List.map Sy.str.enc (up d at0).1).length:Int)-1)) fun (y3:ByteArray)=>T.cR [T.v (.string y3),T.v (.bool true)]=Sh.enc ABB (fY d id)):=by
  intro at0 he
  rw[he]
  unfold WV
  refine A3X (fun h=>?_) (fun h=>?_)
  ·rw[h];rfl
  ·rw[AZ3 (AB1 d at0) (BAI h),if_pos h];rfl
 unfold HE
 simp only[q8,lG,AX,rY,xJ,mX,GF,BN,AAN,AJE,WD]
 cases hn:cB d id with
 | some x=>simp only[uW,uV,Bool.not_true,fV];exact top id (by simp[fY,hn])
 | none =>
  simp only[uW,uV,Bool.not_false,eU]
  cases hp:partOf d id with
  | some p=>simp only[uW,eU];exact top (AQ5 p) (by simp[fY,hn,hp])
  | none =>
   simp only[uV,fV]
   refine aD (s:=[(true,aP),(false,.bool)]) (y:=found noPack (jP d id)) KZ ?_
   cases hk:jP d id with
   | none=>simp only[uW,uV,fV];simp[fY,hn,hp,hk,Sh.enc,Sh.bN,aC,Sy.enc,hdT]
   | some k =>
    simp only[uW,uV,eU]
    rcases Option.eq_none_or_eq_some (cB d k.2.1) with hm|⟨m,hm⟩
    ·simp only[hm,uW,uV,Bool.not_false,eU];simp[fY,hn,hp,hk,hm,Sh.enc,Sh.bN,aC,Sy.enc,hdT]
    ·simp only[hm,uW,uV,Bool.not_true,fV]
     by_cases hx:m.2.1=1
     ·refine I3 hx ?_
      simp[fY,hn,hp,hk,hm,hx,Sh.enc,Sh.bN,aC,Sy.enc,hdT]
     ·refine RB hx ?_
      simp[fY,hn,hp,hk,hm,hx,Sh.enc,Sh.bN,aC,Sy.enc,hdT]
end Go.Pv
namespace Go.Pv
open Go Go.Proofs
def okI (d:aF):Bool:=d.2.1.all (fun n=>DR n.1)&&d.2.2.1.all (fun p=>DR p.1&&DR (eY p))&&d.2.2.2.1.all (fun s=>DR s.1&&(DR s.2.1&&DR s.2.2.1))&&d.2.2.2.2.1.all (fun k=>DR k.1)
def okU (d:aF):Bool:=IL d 1000&&(okD d&&(okK d&&okI d))
def rH (d:aF) (t:T):Option T:=match okU d with
 | true=>some t
 | false=>none
theorem lX {d:aF} {t r:T} (h:rH d t=some r):okU d=true∧r=t:=by
 unfold rH at h;split at h
 ·rename_i hc
  cases h;exact ⟨hc,rfl⟩
 ·cases h
theorem lY {d:aF} (t:T) (h:okU d=true):rH d t=some t:=by unfold rH;rw[h]
structure UOk (d:aF):Prop where
 IL:IL d 1000=true
 n:d.2.1.length≤1000
 p:d.2.2.1.length≤1000
 s:d.2.2.2.1.length≤1000
 k:d.2.2.2.2.1.length≤1000
 r:d.2.2.2.2.2.length≤1000
 kl:∀ k∈d.2.2.2.2.1,(dE k).length≤1000∧(cH k).length≤1000
 okD:okD d=true
 okK:okK d=true
 nI:∀ n∈d.2.1,DR n.1=true
 pI:∀ p∈d.2.2.1,DR p.1=true∧DR (eY p)=true
 sI:∀ s∈d.2.2.2.1,DR s.1=true∧DR s.2.1=true∧DR s.2.2.1=true
 kI:∀ k∈d.2.2.2.2.1,DR k.1=true
theorem rG {d:aF} (h:okU d=true):UOk d:=by
 simp only[okU,okI,Bool.and_eq_true,List.all_eq_true] at h
 obtain ⟨h1,h2,h3,⟨⟨i1,i2⟩,i3⟩,i4⟩:=h
 have h0:=h1
 simp only[IL,Bool.and_eq_true,List.all_eq_true,decide_eq_true_eq] at h1
 obtain ⟨⟨⟨⟨⟨a,b⟩,c⟩,e⟩,f⟩,g⟩:=h1
 exact ⟨h0,by omega,by omega,by omega,by omega,by omega,fun k hk=>by have:=g k hk;unfold dE cH;omega,h2,h3,i1,i2,fun s hs=>i3 s hs,i4⟩
theorem AWC (a b:ByteArray):(!(dR b a||decide (b=a)))=dR a b:=by
 rw[Bool.eq_iff_iff]
 refine ⟨fun h=>(lZ a b).2 (AP7 h),fun h=>?_⟩
 have h1:=(lZ a b).1 h
 have h2:dR b a=false:=by
  rw[Bool.eq_false_iff]
  intro h3
  exact List.lt_irrefl _ (List.lt_trans h1 ((lZ b a).1 h3))
 have h3:¬ b=a:=fun e=>by rw[e] at h1;exact List.lt_irrefl _ h1
 rw[h2,decide_eq_false h3];rfl
noncomputable def W5:Env:=Env.of []
def APM:FuncId→Hint:=fun f=>match f == 77 with|true=>⟨fun r=>match r == 2 with|true=>.inv [.val 3 false (.int .i64)]|false=>.none,fun _ _=>none,fun _=>none⟩|false=>aV
theorem ART:aH Tryz.prog W5:=aH.nil _
def XR (a0:List ByteArray) (R:T→Prop):Prop :=
 bA (Int×PUnit)
 (fun (X0:Int×PUnit→Prop) (s1:Int×PUnit) =>
 aB (decide (s1.1<(↑(List.map Sy.str.enc a0).length:Int)))
 (aO Sy.str (List.map Sy.str.enc a0) (IntKind.i64.wrap (s1.1-1))
 fun (y2:ByteArray) =>
 aO Sy.str (List.map Sy.str.enc a0) s1.1 fun (y3:ByteArray) =>
 aB (!dR y2 y3) (R (T.v (.bool false)))
 (X0 (IntKind.i64.wrap (s1.1+1),())))
 (R (T.v (.bool true))))
 (1,())
theorem AK6 ( a0 R):bC aY Tryz.prog W5 APM 8 77 [aC false Sy.str.li a0] R=XR a0 R:=by kernel_rfl
abbrev ME:Sh:=[(false,Sy.str.li)]
def SJ (l:List ByteArray):Option T:=mD l (T.v (.bool (lL l)))
noncomputable def iX:List T→Option (T):=gS ME SJ
theorem pM {a0}:iX [T.sl false (List.map Sy.str.enc a0)]=SJ (a0):=a8 (s:=ME) rfl (a0) rfl
theorem A0W (h:∀ a0 r,SJ (a0)=some r→b8 ME (a0)→XR a0 (fun y=>y=r)):aK Tryz.prog 77 iX :=
 aR (E:=W5) (Hs:=APM) ART aW aX (aM rfl) 8 ⟨_,_,Tryz.func77,rfl⟩ rfl fun x r h1 h2=>by
  let a0:=x
  rw[show Sh.bN ME (a0)=[aC false Sy.str.li a0] from rfl,AK6]
  exact h a0 r h1 h2
theorem AF7:aK Tryz.prog 77 iX:=A0W fun l r h hb=>by
 obtain ⟨hl,rfl⟩:=gC h
 clear h hb
 unfold XR
 refine aZ l.length (fun k s=>s=(((k+1:Nat):Int),())∧lL l=lL (l.drop k)) ⟨rfl,by rw[List.drop_zero]⟩ ?_
 rintro X k s hk ⟨rfl,he⟩ hX
 dsimp only
 have hw:IntKind.i64.wrap (((k+1:Nat):Int)+1)=((k+1+1:Nat):Int):=aS _ (by omega) (by omega)
 have hw1:IntKind.i64.wrap (((k+1:Nat):Int)-1)=((k:Nat):Int):=by rw[aS _ (by omega) (by omega)];omega
 refine bL (fun hlt=>?_) fun hge=>?_
 ·rw[List.length_map] at hlt
  have hlt:k+1<l.length:=by omega
  rw[hw1,aT (r:=.str) (show k<l.length by omega),aT (r:=.str) hlt,hw]
  rw[AFR hlt,AWC] at he
  refine dM (fun h=>cM ?_) fun h=>hX _ (by omega) ⟨rfl,?_⟩
  ·rw[he,h];rfl
  ·rw[he,h];rfl
 ·rw[List.length_map] at hge
  refine cM ?_
  rw[he,AP5 (by omega)]
noncomputable def BT:Env:=Env.of []
def PF:FuncId→Hint:=fun _=>aV
theorem XJ:aH Tryz.prog BT:=aH.nil _
def B2 (a0:fQ) (a1:fQ) (R:T→Prop):Prop :=
 aB (!decide (a0.1=a1.1)) (R (T.v (.bool (decide (a0.1<a1.1)))))
 (aB (!decide (a0.2.1=a1.2.1)) (R (T.v (.bool (dR a0.2.1 a1.2.1))))
 (R (T.v (.bool (dR a0.2.2 a1.2.2)))))
theorem S9 ( a0 a1 R):bC aY Tryz.prog BT PF 8 78 [aC true aQ a0,aC true aQ a1] R=B2 a0 a1 R:=by kernel_rfl
abbrev vV:Sh:=[(true,aQ),(true,aQ)]
def yE (x:fQ×fQ):Option T:=some (T.v (.bool (ltN x.1 x.2)))
noncomputable def mI:List T→Option (T):=gS vV yE
theorem TL {a0 a1}:mI [aC true aQ a0,aC true aQ a1]=yE (a0,a1):=a8 (s:=vV) rfl (a0,a1) rfl
theorem AIP (h:∀ a0 a1 r,yE (a0,a1)=some r→b8 vV (a0,a1)→B2 a0 a1 (fun y=>y=r)):aK Tryz.prog 78 mI :=
 aR (E:=BT) (Hs:=PF) XJ aW aX (aM rfl) 8 ⟨_,_,Tryz.func78,rfl⟩ rfl fun x r h1 h2=>by
  obtain ⟨a0,a1⟩:=x
  rw[show Sh.bN vV (a0,a1)=[aC true aQ a0,aC true aQ a1] from rfl,S9]
  exact h a0 a1 r h1 h2
theorem AF8:aK Tryz.prog 78 mI:=AIP fun a b r h hb=>by
 cases h
 unfold B2
 refine gP (fun h=>cM ?_) fun h=>gP (fun h2=>cM ?_) fun h2=>cM ?_
 ·unfold ltN;rw[decide_eq_false h];simp
 ·unfold ltN;rw[decide_eq_true h,decide_eq_false h2];simp[h]
 ·unfold ltN;rw[decide_eq_true h,decide_eq_true h2,h2,show dR b.2.1 b.2.1=false by rw[Bool.eq_false_iff];exact fun h=>List.lt_irrefl _ ((lZ _ _).1 h)];simp[h]
noncomputable def GR:Env:=Env.of []
def T9:FuncId→Hint:=fun f=>match f == 76 with|true=>⟨fun r=>match r == 3 with|true=>.inv [.val 4 false (.int .i64),.box 2 (.pr (.li .str) (.pr (.li .str) (.pr (.li .str) (.li .str)))),.sE 2 0 1 .str,.sE 2 1 1 .str,.sE 2 2 1 .str,.sE 2 3 1 .str]|false=>match r == 7 with|true=>.inv [.val 5 false (.int .i64),.box 2 (.pr (.li .str) (.pr (.li .str) (.pr (.li .str) (.li .str)))),.sE 2 0 1 .str,.sE 2 1 1 .str,.sE 2 2 1 .str,.sE 2 3 1 .str]|false=>match r == 11 with|true=>.inv [.val 6 false (.int .i64),.box 2 (.pr (.li .str) (.pr (.li .str) (.pr (.li .str) (.li .str)))),.sE 2 0 1 .str,.sE 2 1 1 .str,.sE 2 2 1 .str,.sE 2 3 1 .str]|false=>match r == 15 with|true=>.inv [.val 7 false (.int .i64),.box 2 (.pr (.li .str) (.pr (.li .str) (.pr (.li .str) (.li .str)))),.sE 2 0 1 .str,.sE 2 1 1 .str,.sE 2 2 1 .str,.sE 2 3 1 .str]|false=>.none,fun _ _=>none,fun _=>none⟩|false=>aV
theorem ACE:aH Tryz.prog GR:=aH.nil _
def HL (a0:aF) (R:T→Prop):Prop :=
 b6 Sy.str [] fun (y0:List ByteArray) =>
 b6 Sy.str [] fun (y1:List ByteArray) =>
 b6 Sy.str [] fun (y2:List ByteArray) =>
 b6 Sy.str [] fun (y3:List ByteArray) =>
 bA
 (Int ×
 (List ByteArray×List ByteArray×List ByteArray×List ByteArray) ×
 List ByteArray×List ByteArray×List ByteArray×List ByteArray×PUnit)
 (fun
 (X4 :
 Int ×
 (List ByteArray×List ByteArray×List ByteArray×List ByteArray) ×
 List ByteArray×List ByteArray×List ByteArray×List ByteArray×PUnit →
 Prop)
 (s5 :
 Int ×
 (List ByteArray×List ByteArray×List ByteArray×List ByteArray) ×
 List ByteArray×List ByteArray×List ByteArray×List ByteArray×PUnit) =>
 aB (decide (s5.1<(↑(List.map bE.enc a0.2.1).length:Int)))
 (aO bE (List.map bE.enc a0.2.1) s5.1 fun (y6:gT) =>
 bP
 (decide (((List.map Sy.str.enc s5.2.2.1).length+1)*16≤140737488355328) &&
 decide ((List.map Sy.str.enc s5.2.2.1).length+1≤140737488355328))
 (b6 Sy.str [] fun (y7:List ByteArray) =>
 b6 Sy.str [] fun (y8:List ByteArray) =>
 b6 Sy.str [] fun (y9:List ByteArray) =>
 b6 Sy.str [] fun (y10:List ByteArray) =>
 b6 Sy.str
 (List.map Sy.str.enc s5.2.2.1++[[T.v (.string y6.1)]])
 fun (y11:List ByteArray) =>
 b6 Sy.str (List.map Sy.str.enc s5.2.2.2.1)
 fun (y12:List ByteArray) =>
 b6 Sy.str (List.map Sy.str.enc s5.2.2.2.2.1)
 fun (y13:List ByteArray) =>
 b6 Sy.str (List.map Sy.str.enc s5.2.2.2.2.2.1)
 fun (y14:List ByteArray) =>
 X4 (IntKind.i64.wrap (s5.1+1),(y7,y8,y9,y10),y11,y12,y13,y14,())))
 (b6 Sy.str [] fun (y15:List ByteArray) =>
 b6 Sy.str [] fun (y16:List ByteArray) =>
 b6 Sy.str [] fun (y17:List ByteArray) =>
 b6 Sy.str [] fun (y18:List ByteArray) =>
 b6 Sy.str (List.map Sy.str.enc s5.2.2.1) fun (y19:List ByteArray) =>
 b6 Sy.str (List.map Sy.str.enc s5.2.2.2.1)
 fun (y20:List ByteArray) =>
 b6 Sy.str (List.map Sy.str.enc s5.2.2.2.2.1)
 fun (y21:List ByteArray) =>
 b6 Sy.str (List.map Sy.str.enc s5.2.2.2.2.2.1)
 fun (y22:List ByteArray) =>
 bA
 (Int ×
 (List ByteArray×List ByteArray×List ByteArray×List ByteArray) ×
 List ByteArray×List ByteArray×List ByteArray×List ByteArray×PUnit)
 (fun
 (X23 :
 Int ×
 (List ByteArray×List ByteArray×List ByteArray×List ByteArray) ×
 List ByteArray×List ByteArray×List ByteArray×List ByteArray×PUnit →
 Prop)
 (s24 :
 Int ×
 (List ByteArray×List ByteArray×List ByteArray×List ByteArray) ×
 List ByteArray×List ByteArray×List ByteArray×List ByteArray×PUnit) =>
 aB
 (decide (s24.1<(↑(List.map aU.enc a0.2.2.1).length:Int)))
 (aO aU (List.map aU.enc a0.2.2.1) s24.1
 fun (y25:bM) =>
 bP
 (decide
 (((List.map Sy.str.enc s24.2.2.2.1).length+1)*16 ≤
 140737488355328) &&
 decide
 ((List.map Sy.str.enc s24.2.2.2.1).length+1 ≤
 140737488355328))
 (b6 Sy.str [] fun (y26:List ByteArray) =>
 b6 Sy.str [] fun (y27:List ByteArray) =>
 b6 Sy.str [] fun (y28:List ByteArray) =>
 b6 Sy.str [] fun (y29:List ByteArray) =>
 b6 Sy.str (List.map Sy.str.enc s24.2.2.1)
 fun (y30:List ByteArray) =>
 b6 Sy.str
 (List.map Sy.str.enc s24.2.2.2.1 ++
 [[T.v (.string y25.1)]])
 fun (y31:List ByteArray) =>
 b6 Sy.str
 (List.map Sy.str.enc s24.2.2.2.2.1)
 fun (y32:List ByteArray) =>
 b6 Sy.str
 (List.map Sy.str.enc s24.2.2.2.2.2.1)
 fun (y33:List ByteArray) =>
 X23
 (IntKind.i64.wrap (s24.1+1),(y26,y27,y28,y29),y30,
 y31,y32,y33,())))
 (b6 Sy.str [] fun (y34:List ByteArray) =>
 b6 Sy.str [] fun (y35:List ByteArray) =>
 b6 Sy.str [] fun (y36:List ByteArray) =>
 b6 Sy.str [] fun (y37:List ByteArray) =>
 b6 Sy.str (List.map Sy.str.enc s24.2.2.1)
 fun (y38:List ByteArray) =>
 b6 Sy.str (List.map Sy.str.enc s24.2.2.2.1)
 fun (y39:List ByteArray) =>
 b6 Sy.str
 (List.map Sy.str.enc s24.2.2.2.2.1)
 fun (y40:List ByteArray) =>
 b6 Sy.str
 (List.map Sy.str.enc s24.2.2.2.2.2.1)
 fun (y41:List ByteArray) =>
 bA
 (Int ×
 (List ByteArray ×
 List ByteArray×List ByteArray×List ByteArray) ×
 List ByteArray ×
 List ByteArray×List ByteArray×List ByteArray×PUnit)
 (fun
 (X42 :
 Int ×
 (List ByteArray ×
 List ByteArray×List ByteArray×List ByteArray) ×
 List ByteArray ×
 List ByteArray ×
 List ByteArray×List ByteArray×PUnit →
 Prop)
 (s43 :
 Int ×
 (List ByteArray ×
 List ByteArray×List ByteArray×List ByteArray) ×
 List ByteArray ×
 List ByteArray ×
 List ByteArray×List ByteArray×PUnit) =>
 aB
 (decide
 (s43.1 <
 (↑(List.map a6.enc a0.2.2.2.1).length :
 Int)))
 (aO a6
 (List.map a6.enc a0.2.2.2.1) s43.1
 fun (y44:l9) =>
 bP
 (decide
 (((List.map Sy.str.enc
 s43.2.2.2.2.1).length +
 1) *
 16 ≤
 140737488355328) &&
 decide
 ((List.map Sy.str.enc
 s43.2.2.2.2.1).length +
 1 ≤
 140737488355328))
 (b6 Sy.str [] fun (y45:List ByteArray) =>
 b6 Sy.str [] fun (y46:List ByteArray) =>
 b6 Sy.str []
 fun (y47:List ByteArray) =>
 b6 Sy.str []
 fun (y48:List ByteArray) =>
 b6 Sy.str
 (List.map Sy.str.enc s43.2.2.1)
 fun (y49:List ByteArray) =>
 b6 Sy.str
 (List.map Sy.str.enc
 s43.2.2.2.1)
 fun (y50:List ByteArray) =>
 b6 Sy.str
 (List.map Sy.str.enc
 s43.2.2.2.2.1 ++
 [[T.v (.string y44.1)]])
 fun (y51:List ByteArray) =>
 b6 Sy.str
 (List.map Sy.str.enc
 s43.2.2.2.2.2.1)
 fun (y52:List ByteArray) =>
 X42
 (IntKind.i64.wrap (s43.1+1),
 (y45,y46,y47,y48),y49,y50,y51,
 y52,())))
 (b6 Sy.str [] fun (y53:List ByteArray) =>
 b6 Sy.str [] fun (y54:List ByteArray) =>
 b6 Sy.str [] fun (y55:List ByteArray) =>
 b6 Sy.str [] fun (y56:List ByteArray) =>
 b6 Sy.str
 (List.map Sy.str.enc s43.2.2.1)
 fun (y57:List ByteArray) =>
 b6 Sy.str
 (List.map Sy.str.enc s43.2.2.2.1)
 fun (y58:List ByteArray) =>
 b6 Sy.str
 (List.map Sy.str.enc
 s43.2.2.2.2.1)
 fun (y59:List ByteArray) =>
 b6 Sy.str
 (List.map Sy.str.enc
 s43.2.2.2.2.2.1)
 fun (y60:List ByteArray) =>
 bA
 (Int ×
 (List ByteArray ×
 List ByteArray ×
 List ByteArray×List ByteArray) ×
 List ByteArray ×
 List ByteArray ×
 List ByteArray ×
 List ByteArray×PUnit)
 (fun
 (X61 :
 Int ×
 (List ByteArray ×
 List ByteArray ×
 List ByteArray ×
 List ByteArray) ×
 List ByteArray ×
 List ByteArray ×
 List ByteArray ×
 List ByteArray×PUnit →
 Prop)
 (s62 :
 Int ×
 (List ByteArray ×
 List ByteArray ×
 List ByteArray ×
 List ByteArray) ×
 List ByteArray ×
 List ByteArray ×
 List ByteArray ×
 List ByteArray×PUnit) =>
 aB
 (decide
 (s62.1 <
 (↑(List.map aP.enc
 a0.2.2.2.2.1).length :
 Int)))
 (aO aP
 (List.map aP.enc
 a0.2.2.2.2.1)
 s62.1 fun (y63:cC) =>
 bP
 (decide
 (((List.map Sy.str.enc
 s62.2.2.2.2.2.1).length +
 1) *
 16 ≤
 140737488355328) &&
 decide
 ((List.map Sy.str.enc
 s62.2.2.2.2.2.1).length +
 1 ≤
 140737488355328))
 (b6 Sy.str []
 fun (y64:List ByteArray) =>
 b6 Sy.str []
 fun (y65:List ByteArray) =>
 b6 Sy.str []
 fun (y66:List ByteArray) =>
 b6 Sy.str []
 fun
 (y67:List ByteArray) =>
 b6 Sy.str
 (List.map Sy.str.enc
 s62.2.2.1)
 fun
 (y68 :
 List ByteArray) =>
 b6 Sy.str
 (List.map
 Sy.str.enc
 s62.2.2.2.1)
 fun
 (y69 :
 List ByteArray) =>
 b6 Sy.str
 (List.map
 Sy.str.enc
 s62.2.2.2.2.1)
 fun
 (y70 :
 List ByteArray) =>
 b6
 Sy.str
 (List.map
 Sy.str.enc
 s62.2.2.2.2.2.1 ++
 [[T.v
 (Value.string
 y63.1)]])
 fun
 (y71 :
 List
 ByteArray) =>
 X61
 (IntKind.i64.wrap
 (s62.1+1),
 (y64,y65,y66,
 y67),
 y68,y69,y70,
 y71,())))
 (R
 (T.agg
 [T.sl false
 (List.map Sy.str.enc
 s62.2.2.1),
 T.sl false
 (List.map Sy.str.enc
 s62.2.2.2.1),
 T.sl false
 (List.map Sy.str.enc
 s62.2.2.2.2.1),
 T.sl false
 (List.map Sy.str.enc
 s62.2.2.2.2.2.1)])))
 (0,(y53,y54,y55,y56),y57,y58,y59,
 y60,())))
 (0,(y34,y35,y36,y37),y38,y39,y40,y41,())))
 (0,(y15,y16,y17,y18),y19,y20,y21,y22,())))
 (0,(y0,y1,y2,y3),[],[],[],[],())
theorem YE ( a0 R):bC aY Tryz.prog GR T9 8 76 [aC true aL a0] R=HL a0 R:=by kernel_rfl
abbrev zX:Sh:=[(true,aL)]
abbrev L4:=List ByteArray×List ByteArray×List ByteArray×List ByteArray
def ANR (d:aF):L4:=(ids d.2.1,ids d.2.2.1,ids d.2.2.2.1,ids d.2.2.2.2.1)
def BAU (x:L4):T:=T.agg [T.sl false (List.map Sy.str.enc x.1),T.sl false (List.map Sy.str.enc x.2.1),T.sl false (List.map Sy.str.enc x.2.2.1),T.sl false (List.map Sy.str.enc x.2.2.2)]
def C4 (d:aF):Option T:=rH d (BAU (ANR d))
noncomputable def iO:List T→Option (T):=gS zX C4
theorem Z4 {a0}:iO [aC true aL a0]=C4 (a0):=a8 (s:=zX) rfl (a0) rfl
theorem AN8 (h:∀ a0 r,C4 (a0)=some r→b8 zX (a0)→HL a0 (fun y=>y=r)):aK Tryz.prog 76 iO :=
 aR (E:=GR) (Hs:=T9) ACE aW aX (aM rfl) 8 ⟨_,_,Tryz.func76,rfl⟩ rfl fun x r h1 h2=>by
  let a0:=x
  rw[show Sh.bN zX (a0)=[aC true aL a0] from rfl,YE]
  exact h a0 r h1 h2
theorem dk {l:List ByteArray} {rows:List (List T)} {K:List ByteArray→Prop} (e:rows=List.map Sy.str.enc l) (h:K l):b6 Sy.str rows K:=by
 subst e;rw[dT (r:=.str) rfl];exact h
theorem EL {α:Type} {l:List (ByteArray×α)} {k:Nat} (h:k<l.length):ids (l.take (k+1))=ids (l.take k)++[l[k].1]:=by
 unfold ids;rw[List.take_succ_eq_append_getElem h,List.map_append];rfl
theorem L6 {α:Type} {l:List (ByteArray×α)} {k:Nat}:(ids (l.take k)).length≤k:=by
 unfold ids;rw[List.length_map,List.length_take];omega
theorem QO:aK Tryz.prog 76 iO:=AN8 fun d r h hb=>by
 obtain ⟨hu,rfl⟩:=lX h
 have u:=rG hu
 clear h hb
 unfold HL
 refine dk (l:=[]) rfl (dk (l:=[]) rfl (dk (l:=[]) rfl (dk (l:=[]) rfl ?_)))
 refine aZ d.2.1.length (fun k s=>s=((k:Int),([],[],[],[]),ids (d.2.1.take k),[],[],[],())) rfl ?_
 rintro X k s hk rfl hX
 dsimp only
 refine bL (fun hlt=>?_) fun hge=>?_
 ·rw[List.length_map] at hlt
  have hlt:k<d.2.1.length:=by omega
  have hl:=u.n
  have ht:=L6 (l:=d.2.1) (k:=k)
  rw[aT (r:=bE) hlt,CD (by omega)]
  refine dk (l:=[]) rfl (dk (l:=[]) rfl (dk (l:=[]) rfl (dk (l:=[]) rfl ?_)))
  refine dk (l:=ids (d.2.1.take k)++[d.2.1[k].1]) (by rw[List.map_append];rfl) (dk (l:=[]) rfl (dk (l:=[]) rfl (dk (l:=[]) rfl ?_)))
  refine hX _ hlt ?_
  rw[EL hlt,show IntKind.i64.wrap ((k:Int)+1)=((k+1:Nat):Int) from aS _ (by omega) (by omega)]
 have:k=d.2.1.length:=by rw[List.length_map] at hge;omega
 subst this
 rw[List.take_length]
 clear hge hX hk X
 refine dk (l:=[]) rfl (dk (l:=[]) rfl (dk (l:=[]) rfl (dk (l:=[]) rfl ?_)))
 refine dk (l:=ids d.2.1) rfl (dk (l:=[]) rfl (dk (l:=[]) rfl (dk (l:=[]) rfl ?_)))
 refine aZ d.2.2.1.length (fun k s=>s=((k:Int),([],[],[],[]),ids d.2.1,ids (d.2.2.1.take k),[],[],())) rfl ?_
 rintro X k s hk rfl hX
 dsimp only
 refine bL (fun hlt=>?_) fun hge=>?_
 ·rw[List.length_map] at hlt
  have hlt:k<d.2.2.1.length:=by omega
  have hl:=u.p
  have ht:=L6 (l:=d.2.2.1) (k:=k)
  rw[aT (r:=aU) hlt,CD (by omega)]
  refine dk (l:=[]) rfl (dk (l:=[]) rfl (dk (l:=[]) rfl (dk (l:=[]) rfl ?_)))
  refine dk (l:=ids d.2.1) rfl (dk (l:=ids (d.2.2.1.take k)++[d.2.2.1[k].1]) (by rw[List.map_append];rfl) (dk (l:=[]) rfl (dk (l:=[]) rfl ?_)))
  refine hX _ hlt ?_
  rw[EL hlt,show IntKind.i64.wrap ((k:Int)+1)=((k+1:Nat):Int) from aS _ (by omega) (by omega)]
 have:k=d.2.2.1.length:=by rw[List.length_map] at hge;omega
 subst this
 rw[List.take_length]
 clear hge hX hk X
 refine dk (l:=[]) rfl (dk (l:=[]) rfl (dk (l:=[]) rfl (dk (l:=[]) rfl ?_)))
 refine dk (l:=ids d.2.1) rfl (dk (l:=ids d.2.2.1) rfl (dk (l:=[]) rfl (dk (l:=[]) rfl ?_)))
 refine aZ d.2.2.2.1.length (fun k s=>s=((k:Int),([],[],[],[]),ids d.2.1,ids d.2.2.1,ids (d.2.2.2.1.take k),[],())) rfl ?_
 rintro X k s hk rfl hX
 dsimp only
 refine bL (fun hlt=>?_) fun hge=>?_
 ·rw[List.length_map] at hlt
  have hlt:k<d.2.2.2.1.length:=by omega
  have hl:=u.s
  have ht:=L6 (l:=d.2.2.2.1) (k:=k)
  rw[aT (r:=a6) hlt,CD (by omega)]
  refine dk (l:=[]) rfl (dk (l:=[]) rfl (dk (l:=[]) rfl (dk (l:=[]) rfl ?_)))
  refine dk (l:=ids d.2.1) rfl (dk (l:=ids d.2.2.1) rfl (dk (l:=ids (d.2.2.2.1.take k)++[d.2.2.2.1[k].1]) (by rw[List.map_append];rfl) (dk (l:=[]) rfl ?_)))
  refine hX _ hlt ?_
  rw[EL hlt,show IntKind.i64.wrap ((k:Int)+1)=((k+1:Nat):Int) from aS _ (by omega) (by omega)]
 have:k=d.2.2.2.1.length:=by rw[List.length_map] at hge;omega
 subst this
 rw[List.take_length]
 clear hge hX hk X
 refine dk (l:=[]) rfl (dk (l:=[]) rfl (dk (l:=[]) rfl (dk (l:=[]) rfl ?_)))
 refine dk (l:=ids d.2.1) rfl (dk (l:=ids d.2.2.1) rfl (dk (l:=ids d.2.2.2.1) rfl (dk (l:=[]) rfl ?_)))
 refine aZ d.2.2.2.2.1.length (fun k s=>s=((k:Int),([],[],[],[]),ids d.2.1,ids d.2.2.1,ids d.2.2.2.1,ids (d.2.2.2.2.1.take k),())) rfl ?_
 rintro X k s hk rfl hX
 dsimp only
 refine bL (fun hlt=>?_) fun hge=>?_
 ·rw[List.length_map] at hlt
  have hlt:k<d.2.2.2.2.1.length:=by omega
  have hl:=u.k
  have ht:=L6 (l:=d.2.2.2.2.1) (k:=k)
  rw[aT (r:=aP) hlt,CD (by omega)]
  refine dk (l:=[]) rfl (dk (l:=[]) rfl (dk (l:=[]) rfl (dk (l:=[]) rfl ?_)))
  refine dk (l:=ids d.2.1) rfl (dk (l:=ids d.2.2.1) rfl (dk (l:=ids d.2.2.2.1) rfl (dk (l:=ids (d.2.2.2.2.1.take k)++[d.2.2.2.2.1[k].1]) (by rw[List.map_append];rfl) ?_)))
  refine hX _ hlt ?_
  rw[EL hlt,show IntKind.i64.wrap ((k:Int)+1)=((k+1:Nat):Int) from aS _ (by omega) (by omega)]
 have:k=d.2.2.2.2.1.length:=by rw[List.length_map] at hge;omega
 subst this
 rw[List.take_length]
 clear hge hX hk X
 rfl
abbrev q4:Sh:=[(true,Sy.str.li.pr (Sy.str.li.pr (Sy.str.li.pr Sy.str.li)))]
theorem EF {d:aF} (h:okU d=true):iO [aC true aL d]=some (Sh.enc q4 (ANR d)):=(Z4 ..).trans (lY _ h)
theorem sX {m l:List ByteArray} (hl:l.length≤140737488355328) {R7 Exit:Prop} (h7:l.any (l7 m)=true→R7) (hx:l.any (l7 m)=false→Exit) :
 bA (Int×PUnit) (fun (X:Int×PUnit→Prop) (s:Int×PUnit)=>aB (decide (s.1<((List.map Sy.str.enc l).length:Int))) (aO Sy.str (List.map Sy.str.enc l) s.1 fun y=>aG [(false,Sy.bool)] (eP [T.sl false (List.map Sy.str.enc m),T.v (.string y)]) fun (b:Bool)=>aB b R7 (X (IntKind.i64.wrap (s.1+1),()))) Exit) (0,()):=by
 refine fK (r:=.str) (fun y=>if l7 m y=true then 1 else 0) hl (fun X s y hy hok hbad=>?_) fun h0=>hx ?_
 ·refine aD (s:=x7) (y:=l7 m y) (CN ..) ?_
  refine rS (fun h=>h7 (List.any_eq_true.2 ⟨y,hy,h⟩)) fun h=>hok (by rw[h];rfl)
 ·rw[Bool.eq_false_iff]
  intro h
  obtain ⟨y,hy,h⟩:=List.any_eq_true.1 h
  have this:(if l7 m y=true then (1:Int) else 0)=0:=lP h0 y hy
  rw[if_pos h] at this
  cases this
noncomputable def M7:Env:=Env.of [(74,.pure dI),(76,.pure iO),(77,.pure iX),(78,.pure mI),(14,.pure eP)]
def AEH:FuncId→Hint:=fun f=>match f == 31 with|true=>⟨fun r=>match r == 7 with|true=>.KI 5|false=>match r == 12 with|true=>.inv [.val 5 false (.int .i64)]|false=>match r == 17 with|true=>.KI 5|false=>match r == 20 with|true=>.KI 5|false=>match r == 23 with|true=>.inv [.val 8 false (.int .i64)]|false=>.none,fun _ _=>none,fun _=>none⟩|false=>aV
theorem AJ7:aH Tryz.prog M7:=aH.cons (x:=.pure dI) q7 (aH.cons (x:=.pure iO) QO (aH.cons (x:=.pure iX) AF7 (aH.cons (x:=.pure mI) AF8 (aH.cons (x:=.pure eP) QM (aH.nil _)))))
def OF (a0:aF) (R:T→Prop):Prop :=
 aG [(false,Sy.bool)] (dI [T.v (.string a0.1)]) fun (y0:Bool) =>
 aB (!y0) (R (T.v (.int .i64 6)))
 (aB (decide (64<(↑(List.map bE.enc a0.2.1).length:Int)))
 (R (T.v (.int .i64 4)))
 (aB (decide (256<(↑(List.map aU.enc a0.2.2.1).length:Int)))
 (R (T.v (.int .i64 4)))
 (aB (decide (256<(↑(List.map a6.enc a0.2.2.2.1).length:Int)))
 (R (T.v (.int .i64 4)))
 (aB (decide (64<(↑(List.map aP.enc a0.2.2.2.2.1).length:Int)))
 (R (T.v (.int .i64 4)))
 (aB (decide (256<(↑(List.map aQ.enc a0.2.2.2.2.2).length:Int)))
 (R (T.v (.int .i64 4)))
 (aG [(true,Sy.str.li.pr (Sy.str.li.pr (Sy.str.li.pr Sy.str.li)))]
 (iO [aC true aL a0])
 fun (y1:List ByteArray×List ByteArray×List ByteArray×List ByteArray) =>
 aG [(false,Sy.bool)]
 (iX [T.sl false (List.map Sy.str.enc y1.1)]) fun (y2:Bool) =>
 aB (!y2) (R (T.v (.int .i64 11)))
 (aG [(false,Sy.bool)]
 (iX [T.sl false (List.map Sy.str.enc y1.2.1)]) fun (y3:Bool) =>
 aB (!y3) (R (T.v (.int .i64 11)))
 (aG [(false,Sy.bool)]
 (iX [T.sl false (List.map Sy.str.enc y1.2.2.1)])
 fun (y4:Bool) =>
 aB (!y4) (R (T.v (.int .i64 11)))
 (aG [(false,Sy.bool)]
 (iX [T.sl false (List.map Sy.str.enc y1.2.2.2)])
 fun (y5:Bool) =>
 aB (!y5) (R (T.v (.int .i64 11)))
 (bA (Int×PUnit)
 (fun (X6:Int×PUnit→Prop) (s7:Int×PUnit) =>
 aB
 (decide
 (s7.1<(↑(List.map aQ.enc a0.2.2.2.2.2).length:Int)))
 (aO aQ (List.map aQ.enc a0.2.2.2.2.2)
 (IntKind.i64.wrap (s7.1-1)) fun (y8:fQ) =>
 aO aQ (List.map aQ.enc a0.2.2.2.2.2) s7.1
 fun (y9:fQ) =>
 aG [(false,Sy.bool)]
 (mI
 [aC true aQ y8,aC true aQ y9])
 fun (y10:Bool) =>
 aB (!y10) (R (T.v (.int .i64 11)))
 (X6 (IntKind.i64.wrap (s7.1+1),())))
 (bA (Int×PUnit)
 (fun (X11:Int×PUnit→Prop) (s12:Int×PUnit) =>
 aB
 (decide (s12.1<(↑(List.map Sy.str.enc y1.2.1).length:Int)))
 (aO Sy.str (List.map Sy.str.enc y1.2.1) s12.1
 fun (y13:ByteArray) =>
 aG [(false,Sy.bool)]
 (eP
 [T.sl false (List.map Sy.str.enc y1.1),
 T.v (.string y13)])
 fun (y14:Bool) =>
 aB y14 (R (T.v (.int .i64 7)))
 (X11 (IntKind.i64.wrap (s12.1+1),())))
 (bA (Int×PUnit)
 (fun (X15:Int×PUnit→Prop) (s16:Int×PUnit) =>
 aB
 (decide
 (s16.1 <
 (↑(List.map Sy.str.enc y1.2.2.1).length:Int)))
 (aO Sy.str (List.map Sy.str.enc y1.2.2.1)
 s16.1 fun (y17:ByteArray) =>
 aG [(false,Sy.bool)]
 (eP
 [T.sl false (List.map Sy.str.enc y1.1),
 T.v (.string y17)])
 fun (y18:Bool) =>
 aB y18 (R (T.v (.int .i64 7)))
 (X15 (IntKind.i64.wrap (s16.1+1),())))
 (bA (Int×PUnit)
 (fun (X19:Int×PUnit→Prop) (s20:Int×PUnit) =>
 aB
 (decide
 (s20.1 <
 (↑(List.map Sy.str.enc y1.2.2.1).length:Int)))
 (aO Sy.str
 (List.map Sy.str.enc y1.2.2.1) s20.1
 fun (y21:ByteArray) =>
 aG [(false,Sy.bool)]
 (eP
 [T.sl false (List.map Sy.str.enc y1.2.1),
 T.v (.string y21)])
 fun (y22:Bool) =>
 aB y22
 (R (T.v (.int .i64 7)))
 (X19 (IntKind.i64.wrap (s20.1+1),())))
 (bA (Int×PUnit)
 (fun (X23:Int×PUnit→Prop) (s24:Int×PUnit) =>
 aB
 (decide
 (s24.1 <
 (↑(List.map Sy.str.enc y1.2.2.2).length :
 Int)))
 (aO Sy.str
 (List.map Sy.str.enc y1.2.2.2) s24.1
 fun (y25:ByteArray) =>
 aG [(false,Sy.bool)]
 (eP
 [T.sl false
 (List.map Sy.str.enc y1.1),
 T.v (.string y25)])
 fun (y26:Bool) =>
 aB y26
 (R (T.v (.int .i64 7)))
 (X23 (IntKind.i64.wrap (s24.1+1),())))
 (bA (Int×PUnit)
 (fun (X27:Int×PUnit→Prop) (s28:Int×PUnit) =>
 aB
 (decide
 (s28.1 <
 (↑(List.map Sy.str.enc
 y1.2.2.2).length :
 Int)))
 (aO Sy.str
 (List.map Sy.str.enc y1.2.2.2) s28.1
 fun (y29:ByteArray) =>
 aG [(false,Sy.bool)]
 (eP
 [T.sl false
 (List.map Sy.str.enc y1.2.1),
 T.v (.string y29)])
 fun (y30:Bool) =>
 aB y30
 (R
 (T.v (.int .i64 7)))
 (X27 (IntKind.i64.wrap (s28.1+1),())))
 (bA (Int×PUnit)
 (fun (X31:Int×PUnit→Prop)
 (s32:Int×PUnit) =>
 aB
 (decide
 (s32.1 <
 (↑(List.map Sy.str.enc
 y1.2.2.2).length :
 Int)))
 (aO Sy.str
 (List.map Sy.str.enc y1.2.2.2)
 s32.1 fun (y33:ByteArray) =>
 aG [(false,Sy.bool)]
 (eP
 [T.sl false
 (List.map Sy.str.enc
 y1.2.2.1),
 T.v (.string y33)])
 fun (y34:Bool) =>
 aB y34
 (R
 (T.v
 (Value.int IntKind.i64 7)))
 (X31
 (IntKind.i64.wrap (s32.1+1),
 ())))
 (R
 (T.v
 (Value.int IntKind.i64 0))))
 (0,())))
 (0,())))
 (0,())))
 (0,())))
 (0,())))
 (0,())))
 (1,())))))))))))
theorem AC9 ( a0 R):bC aY Tryz.prog M7 AEH 8 31 [aC true aL a0] R=OF a0 R:=by kernel_rfl
abbrev FG:Sh:=[(true,aL)]
def JO (d:aF):Option T:=rH d (T.v (Value.int .i64 (if isName d.1=false then 6 else dZ d)))
noncomputable def sN:List T→Option (T):=gS FG JO
theorem AGV {a0}:sN [aC true aL a0]=JO (a0):=a8 (s:=FG) rfl (a0) rfl
theorem AUZ (h:∀ a0 r,JO (a0)=some r→b8 FG (a0)→OF a0 (fun y=>y=r)):aK Tryz.prog 31 sN :=
 aR (E:=M7) (Hs:=AEH) AJ7 aW aX (aM rfl) 8 ⟨_,_,Tryz.func31,rfl⟩ rfl fun x r h1 h2=>by
  let a0:=x
  rw[show Sh.bN FG (a0)=[aC true aL a0] from rfl,AC9]
  exact h a0 r h1 h2
theorem CH {d:aF} {m l:List ByteArray} (hc:(m=ids d.2.1∧l=ids d.2.2.1)∨(m=ids d.2.1∧l=ids d.2.2.2.1)∨(m=ids d.2.2.1∧l=ids d.2.2.2.1)∨(m=ids d.2.1∧l=ids d.2.2.2.2.1)∨(m=ids d.2.2.1∧l=ids d.2.2.2.2.1)∨(m=ids d.2.2.2.1∧l=ids d.2.2.2.2.1)) (h:l.any (l7 m)=true):A3 d=true:=by
 obtain ⟨x,hx,hm⟩:=List.any_eq_true.1 h
 simp only[A3,AMA,Bool.or_eq_true,List.any_eq_true]
 rcases hc with ⟨rfl,rfl⟩|⟨rfl,rfl⟩|⟨rfl,rfl⟩|⟨rfl,rfl⟩|⟨rfl,rfl⟩|⟨rfl,rfl⟩
 ·exact .inl (.inl ⟨x,hx,hm⟩)
 ·exact .inl (.inr ⟨x,hx,.inl hm⟩)
 ·exact .inl (.inr ⟨x,hx,.inr hm⟩)
 ·exact .inr ⟨x,hx,.inl (.inl hm)⟩
 ·exact .inr ⟨x,hx,.inl (.inr hm)⟩
 ·exact .inr ⟨x,hx,.inr hm⟩
theorem ATH:aK Tryz.prog 31 sN:=AUZ fun d r h hb=>by
 obtain ⟨hu,rfl⟩:=lX h
 have u:=rG hu
 have un:=u.n
 have up:=u.p
 have us:=u.s
 have uk:=u.k
 have ur:=u.r
 clear h hb
 have is0:∀ {n:Int},(if isName d.1=false then 6 else dZ d)=n→T.v (.int .i64 n)=T.v (.int .i64 (if isName d.1=false then 6 else dZ d)):=fun h=>by rw[h]
 unfold OF
 refine aD (s:=x7) (y:=isName d.1) mZ ?_
 refine dM (fun h=>is0 (by rw[if_pos h])) fun hn=>?_
 have is:∀ {n:Int},dZ d=n→T.v (.int .i64 n)=T.v (.int .i64 (if isName d.1=false then 6 else dZ d)):=fun h=>is0 (by rw[if_neg (by rw[show isName d.1=true from hn];exact Bool.noConfusion)];exact h)
 clear is0
 have long:dP d=true→dZ d=4:=fun h=>by unfold dZ;rw[if_pos h]
 refine bL (fun h=>is (long (by rw[List.length_map] at h;simp only[dP,Bool.or_eq_true,decide_eq_true_eq];omega))) fun l1=>?_
 refine bL (fun h=>is (long (by rw[List.length_map] at h;simp only[dP,Bool.or_eq_true,decide_eq_true_eq];omega))) fun l2=>?_
 refine bL (fun h=>is (long (by rw[List.length_map] at h;simp only[dP,Bool.or_eq_true,decide_eq_true_eq];omega))) fun l3=>?_
 refine bL (fun h=>is (long (by rw[List.length_map] at h;simp only[dP,Bool.or_eq_true,decide_eq_true_eq];omega))) fun l4=>?_
 refine bL (fun h=>is (long (by rw[List.length_map] at h;simp only[dP,Bool.or_eq_true,decide_eq_true_eq];omega))) fun l5=>?_
 rw[List.length_map] at l1 l2 l3 l4 l5
 have notLong:dP d=false:=by simp only[dP,Bool.or_eq_false_iff,decide_eq_false_iff_not];omega
 have b11:iA d=false→T.v (.int .i64 11)=T.v (.int .i64 (if isName d.1=false then 6 else dZ d)):=fun h=>is (by unfold dZ;rw[notLong,if_neg (by simp),if_pos h])
 refine aD (s:=q4) (EF hu) ?_
 have il:∀ {α:Type} {l:List (ByteArray×α)},l.length≤1000→(ids l).length≤140737488355328:=fun h=>by unfold ids;rw[List.length_map];omega
 refine aD (s:=x7) (y:=lL (ids d.2.1)) ((pM ..).trans (eH _ (il un))) ?_
 refine dM (fun h=>b11 (by unfold iA;rw[h];rfl)) fun a1=>?_
 refine aD (s:=x7) (y:=lL (ids d.2.2.1)) ((pM ..).trans (eH _ (il up))) ?_
 refine dM (fun h=>b11 (by unfold iA;rw[h];simp)) fun a2=>?_
 refine aD (s:=x7) (y:=lL (ids d.2.2.2.1)) ((pM ..).trans (eH _ (il us))) ?_
 refine dM (fun h=>b11 (by unfold iA;rw[h];simp)) fun a3=>?_
 refine aD (s:=x7) (y:=lL (ids d.2.2.2.2.1)) ((pM ..).trans (eH _ (il uk))) ?_
 refine dM (fun h=>b11 (by unfold iA;rw[h];simp)) fun a4=>?_
 refine aZ d.2.2.2.2.2.length (fun k s=>s=(((k+1:Nat):Int),())∧CE d.2.2.2.2.2=CE (d.2.2.2.2.2.drop k)) ⟨rfl,by rw[List.drop_zero]⟩ ?_
 rintro X k s hk ⟨rfl,he⟩ hX
 dsimp only
 have hw:IntKind.i64.wrap (((k+1:Nat):Int)+1)=((k+1+1:Nat):Int):=aS _ (by omega) (by omega)
 have hw1:IntKind.i64.wrap (((k+1:Nat):Int)-1)=((k:Nat):Int):=by rw[aS _ (by omega) (by omega)];omega
 refine bL (fun hlt=>?_) fun hge=>?_
 ·have hlt:k+1<d.2.2.2.2.2.length:=by rw[List.length_map] at hlt;omega
  rw[hw1,aT (r:=aQ) (show k<d.2.2.2.2.2.length by omega),aT (r:=aQ) hlt,hw]
  rw[U0 hlt] at he
  refine aD (s:=x7) (y:=ltN d.2.2.2.2.2[k] d.2.2.2.2.2[k+1]) (TL ..) ?_
  refine dM (fun h=>b11 ?_) fun h=>hX _ (by omega) ⟨rfl,?_⟩
  ·unfold iA;rw[he,h];simp
  ·rw[he,h];rfl
 rw[List.length_map] at hge
 rw[AFQ (by omega)] at he
 clear hX hk hw hw1 hge
 have io:¬ iA d=false:=by unfold iA;rw[a1,a2,a3,a4,he];decide
 have b7:A3 d=true→T.v (.int .i64 7)=T.v (.int .i64 (if isName d.1=false then 6 else dZ d)):=fun h=>is (by unfold dZ;rw[notLong,if_neg (by simp),if_neg io,if_pos h])
 refine sX (m:=ids d.2.1) (l:=ids d.2.2.1) (il up) (fun h=>b7 (CH (.inl ⟨rfl,rfl⟩) h)) fun c1=>?_
 refine sX (m:=ids d.2.1) (l:=ids d.2.2.2.1) (il us) (fun h=>b7 (CH (.inr (.inl ⟨rfl,rfl⟩)) h)) fun c2=>?_
 refine sX (m:=ids d.2.2.1) (l:=ids d.2.2.2.1) (il us) (fun h=>b7 (CH (.inr (.inr (.inl ⟨rfl,rfl⟩))) h)) fun c3=>?_
 refine sX (m:=ids d.2.1) (l:=ids d.2.2.2.2.1) (il uk) (fun h=>b7 (CH (.inr (.inr (.inr (.inl ⟨rfl,rfl⟩)))) h)) fun c4=>?_
 refine sX (m:=ids d.2.2.1) (l:=ids d.2.2.2.2.1) (il uk) (fun h=>b7 (CH (.inr (.inr (.inr (.inr (.inl ⟨rfl,rfl⟩))))) h)) fun c5=>?_
 refine sX (m:=ids d.2.2.2.1) (l:=ids d.2.2.2.2.1) (il uk) (fun h=>b7 (CH (.inr (.inr (.inr (.inr (.inr ⟨rfl,rfl⟩))))) h)) fun c6=>is ?_
 have na:∀ {l:List ByteArray} {p:ByteArray→Bool} {x:ByteArray},l.any p=false→x∈l→p x=false:=fun h hx=>by
  rw[Bool.eq_false_iff] at h ⊢
  exact fun h2=>h (List.any_eq_true.2 ⟨_,hx,h2⟩)
 have nd:¬ A3 d=true:=by
  intro h
  simp only[A3,AMA,Bool.or_eq_true,List.any_eq_true] at h
  rcases h with (⟨x,hx,h⟩|⟨x,hx,h|h⟩)|⟨x,hx,(h|h)|h⟩
  ·rw[na c1 hx] at h;cases h
  ·rw[na c2 hx] at h;cases h
  ·rw[na c3 hx] at h;cases h
  ·rw[na c4 hx] at h;cases h
  ·rw[na c5 hx] at h;cases h
  ·rw[na c6 hx] at h;cases h
 unfold dZ;rw[notLong,if_neg (by simp),if_neg io,if_neg nd]
noncomputable def GX:Env:=Env.of [(79,.pure dK),(41,.pure cY),(80,.pure EJ),(81,.pure o0)]
def UE:FuncId→Hint:=fun f=>match f == 32 with|true=>⟨fun r=>match r == 2 with|true=>.inv [.val 3 false (.int .i64)]|false=>match r == 15 with|true=>.inv [.val 7 false (.int .i64)]|false=>match r == 21 with|true=>.inv [.val 10 false (.int .i64)]|false=>.none,fun _ _=>none,fun _=>none⟩|false=>aV
theorem ACJ:aH Tryz.prog GX:=aH.cons (x:=.pure dK) yX (aH.cons (x:=.pure cY) oS (aH.cons (x:=.pure EJ) AZF (aH.cons (x:=.pure o0) AMT (aH.nil _))))
def HQ (a0:aF) (R:T→Prop):Prop :=
 bA (Int×PUnit)
 (fun (X0:Int×PUnit→Prop) (s1:Int×PUnit) =>
 aB (decide (s1.1<(↑(List.map bE.enc a0.2.1).length:Int)))
 (aO bE (List.map bE.enc a0.2.1) s1.1 fun (y2:gT) =>
 aG [(true,bE),(false,Sy.bool)]
 (cY [aC true aL a0,T.v (.string y2.2.2)])
 fun (y3:gT×Bool) =>
 aG [(false,Sy.bool)] (dK [T.v (.string y2.1)]) fun (y4:Bool) =>
 aB (!y4) (R (T.v (.int .i64 6)))
 (aB (!decide (y2.2.1=1))
 (aB (!decide (y2.2.1=2)) (R (T.v (.int .i64 10)))
 (aB (decide (y2.2.1=1))
 (aB (!decide (y2.2.2 = { data:=#[] })) (R (T.v (.int .i64 2)))
 (aB (decide (y2.2.1=2))
 (aB (!y3.2) (R (T.v (.int .i64 8)))
 (X0 (IntKind.i64.wrap (s1.1+1),())))
 (X0 (IntKind.i64.wrap (s1.1+1),()))))
 (aB (decide (y2.2.1=2))
 (aB (!y3.2) (R (T.v (.int .i64 8)))
 (X0 (IntKind.i64.wrap (s1.1+1),())))
 (X0 (IntKind.i64.wrap (s1.1+1),())))))
 (aB (decide (y2.2.1=1))
 (aB (!decide (y2.2.2 = { data:=#[] })) (R (T.v (.int .i64 2)))
 (aB (decide (y2.2.1=2))
 (aB (!y3.2) (R (T.v (.int .i64 8)))
 (X0 (IntKind.i64.wrap (s1.1+1),())))
 (X0 (IntKind.i64.wrap (s1.1+1),()))))
 (aB (decide (y2.2.1=2))
 (aB (!y3.2) (R (T.v (.int .i64 8)))
 (X0 (IntKind.i64.wrap (s1.1+1),())))
 (X0 (IntKind.i64.wrap (s1.1+1),()))))))
 (bA (Int×PUnit)
 (fun (X5:Int×PUnit→Prop) (s6:Int×PUnit) =>
 aB (decide (s6.1<(↑(List.map bE.enc a0.2.1).length:Int)))
 (aO bE (List.map bE.enc a0.2.1) s6.1 fun (y7:gT) =>
 aG [(false,Sy.str.li),(false,Sy.bool)]
 (EJ [aC true aL a0,T.v (.string y7.1)])
 fun (y8:List ByteArray×Bool) =>
 aB (!y8.2) (R (T.v (.int .i64 20)))
 (X5 (IntKind.i64.wrap (s6.1+1),())))
 (bA (Int×PUnit)
 (fun (X9:Int×PUnit→Prop) (s10:Int×PUnit) =>
 aB (decide (s10.1<(↑(List.map bE.enc a0.2.1).length:Int)))
 (aO bE (List.map bE.enc a0.2.1) s10.1 fun (y11:gT) =>
 aG [(false,Sy.str.li)]
 (o0 [aC true aL a0,T.v (.string y11.1)])
 fun (y12:List ByteArray) =>
 aB (decide (8<(↑(List.map Sy.str.enc y12).length:Int)))
 (R (T.v (.int .i64 13))) (X9 (IntKind.i64.wrap (s10.1+1),())))
 (R (T.v (.int .i64 0))))
 (0,())))
 (0,())))
 (0,())
theorem YK ( a0 R):bC aY Tryz.prog GX UE 8 32 [aC true aL a0] R=HQ a0 R:=by kernel_rfl
abbrev z8:Sh:=[(true,aL)]
def C9 (d:aF):Option T:=rH d (T.v (Value.int .i64 (dF d)))
noncomputable def oX:List T→Option (T):=gS z8 C9
theorem Z8 {a0}:oX [aC true aL a0]=C9 (a0):=a8 (s:=z8) rfl (a0) rfl
theorem AOD (h:∀ a0 r,C9 (a0)=some r→b8 z8 (a0)→HQ a0 (fun y=>y=r)):aK Tryz.prog 32 oX :=
 aR (E:=GX) (Hs:=UE) ACJ aW aX (aM rfl) 8 ⟨_,_,Tryz.func32,rfl⟩ rfl fun x r h1 h2=>by
  let a0:=x
  rw[show Sh.bN z8 (a0)=[aC true aL a0] from rfl,YK]
  exact h a0 r h1 h2
theorem xX {d:aF} {id:ByteArray} {K:gT×Bool→Prop} (h:K (found AN0 (cB d id))):aG [(true,bE),(false,Sy.bool)] (cY [aC true aL d,T.v (.string id)]) K:=aD (s:=[(true,bE),(false,.bool)]) (q8 ..) h
theorem nO {s:ByteArray} {K:Bool→Prop} (h:DR s=true) (hk:K (gX s)):aG [(false,Sy.bool)] (dK [T.v (.string s)]) K:=aD (s:=x7) (Q9 h) hk
theorem AMQ:aK Tryz.prog 32 oX:=AOD fun d r h hb=>by
 obtain ⟨hu,rfl⟩:=lX h
 have u:=rG hu
 have un:=u.n
 clear h hb
 have is:∀ {n:Int},dF d=n→T.v (.int .i64 n)=T.v (.int .i64 (dF d)):=fun h=>by rw[h]
 unfold HQ
 refine fK (r:=bE) (lC d) (by omega) (fun X s y hy hok hbad=>?_) fun h0=>?_
 ·have bad:∀ {n:Int},n≠0→lC d y=n→T.v (.int .i64 n)=T.v (.int .i64 (dF d)):=fun hn h=>is (by
   have:=hbad (by rw[h];exact hn)
   unfold dF
   rw[if_neg (by rw[this,h];exact hn),this,h])
  refine xX (nO (u.nI y hy) ?_)
  refine dM (fun hid=>bad (by decide) (by unfold lC;rw[if_pos hid])) fun hid=>?_
  have fi:(found AN0 (cB d y.2.2)).2=(cB d y.2.2).isSome:=by cases cB d y.2.2<;>rfl
  rw[fi]
  clear fi hbad
  repeat' first
   | refine gP (fun h=>?_) (fun h=>?_)
   | refine bL (fun h=>?_) (fun h=>?_)
   | refine dM (fun h=>?_) (fun h=>?_)
  all_goals first
   | (exfalso;omega)
   | (refine bad (by decide) ?_;clear bad hok;unfold lC;simp_all[Option.isSome_iff_ne_none];done)
   | (refine hok ?_;clear bad hok;unfold lC;simp_all[Option.isSome_iff_ne_none];done)
 ·have wn:dF d=if RN d=true then 20 else if BA d=true then 13 else 0:=by unfold dF;rw[if_pos h0]
  clear h0
  refine fK (r:=bE) (fun n=>if (up d n.1).2=true then 0 else 20) (by omega) (fun X s y hy hok hbad=>?_) fun h1=>?_
  ·refine aD (s:=[(false,.li .str),(false,.bool)]) (y:=up d y.1) (AAN ..) ?_
   refine dM (fun h=>is ?_) fun h=>hok (by rw[if_pos h])
   rw[wn,if_pos]
   unfold RN
   exact List.any_eq_true.2 ⟨y,hy,by rw[h];rfl⟩
  have w2:dF d=if BA d=true then 13 else 0:=by
   rw[wn,if_neg]
   unfold RN
   intro h
   obtain ⟨y,hy,h⟩:=List.any_eq_true.1 h
   have this:(if (up d y.1).2=true then (0:Int) else 20)=0:=lP h1 y hy
   rw[if_neg (by intro hc;rw[hc] at h;cases h)] at this
   cases this
  clear wn h1
  have pa:∀ y∈d.2.1,BM d y.1=(up d y.1).1.reverse:=fun y hy=>by
   have hs:cB d y.1≠none:=fun h=>by
    have:=List.find?_eq_none.1 h y hy
    simp at this
   unfold BM
   cases hn:cB d y.1 with
   | none=>exact absurd hn hs
   | some _=>rfl
  refine fK (r:=bE) (fun n=>if 8<(up d n.1).1.length then 13 else 0) (by omega) (fun X s y hy hok hbad=>?_) fun h1=>is ?_
  ·refine aD (s:=[(false,.li .str)]) (y:=BM d y.1) ((AAB ..).trans (show V2 d _=_ by unfold V2;rw[u.okD])) ?_
   rw[pa y hy]
   refine bL (fun h=>is ?_) fun h=>hok (by rw[List.length_map,List.length_reverse] at h;rw[if_neg (by omega)])
   rw[List.length_map,List.length_reverse] at h
   rw[w2,if_pos]
   unfold BA
   exact List.any_eq_true.2 ⟨y,hy,by rw[decide_eq_true_eq];omega⟩
  rw[w2,if_neg]
  unfold BA
  intro h
  obtain ⟨y,hy,h⟩:=List.any_eq_true.1 h
  rw[decide_eq_true_eq] at h
  have this:(if 8<(up d y.1).1.length then (13:Int) else 0)=0:=lP h1 y hy
  rw[if_pos h] at this
  cases this
noncomputable def BU:Env:=Env.of [(82,.pure j9),(41,.pure cY),(83,.pure pQ)]
def PG:FuncId→Hint:=fun f=>match f == 33 with|true=>⟨fun r=>match r == 2 with|true=>.inv [.val 5 false (.int .i64)]|false=>match r == 12 with|true=>.inv [.val 9 false (.int .i64),.val 10 false (.int .i64)]|false=>.none,fun _ _=>none,fun _=>none⟩|false=>aV
theorem XK:aH Tryz.prog BU:=aH.cons (x:=.pure j9) VC (aH.cons (x:=.pure cY) oS (aH.cons (x:=.pure pQ) ATJ (aH.nil _)))
def B3 (a0:aF) (a1:aN) (R:T→Prop):Prop :=
 bA (Int×PUnit)
 (fun (X0:Int×PUnit→Prop) (s1:Int×PUnit) =>
 aB (decide (s1.1<(↑(List.map aU.enc a0.2.2.1).length:Int)))
 (aO aU (List.map aU.enc a0.2.2.1) s1.1 fun (y2:bM) =>
 aG [(false,Sy.int IntKind.i64)]
 (j9 [aC true aU y2,aC true aE a1]) fun (y3:Int) =>
 aB (!decide (y3=0)) (R (T.v (.int .i64 y3)))
 (aO aU (List.map aU.enc a0.2.2.1) s1.1 fun (y4:bM) =>
 aG [(true,bE),(false,Sy.bool)]
 (cY [aC true aL a0,T.v (.string y4.2.2.2.1)])
 fun (y5:gT×Bool) =>
 aB (!y5.2) (R (T.v (.int .i64 8)))
 (X0 (IntKind.i64.wrap (s1.1+1),()))))
 (bA (Int×Int×PUnit)
 (fun (X6:Int×Int×PUnit→Prop) (s7:Int×Int×PUnit) =>
 aB (decide (s7.2.1<(↑(List.map aU.enc a0.2.2.1).length:Int)))
 (aO aU (List.map aU.enc a0.2.2.1) s7.2.1 fun (y8:bM) =>
 aG [(false,Sy.int IntKind.i64),(false,Sy.int IntKind.i64)]
 (pQ [aC true aU y8,aC true aE a1])
 fun (y9:aJ) =>
 X6 (IntKind.i64.wrap (s7.1+y9.1),IntKind.i64.wrap (s7.2.1+1),()))
 (aB (decide (1099511627776<s7.1)) (R (T.v (.int .i64 13)))
 (R (T.v (.int .i64 0)))))
 (0,0,())))
 (0,())
theorem TA ( a0 a1 R):bC aY Tryz.prog BU PG 8 33 [aC true aL a0,aC true aE a1] R=B3 a0 a1 R:=by kernel_rfl
abbrev vW:Sh:=[(true,aL),(true,aE)]
def nX (x:aF×aN):Option T:=match BK x.2 with
 | true=>rH x.1 (T.v (Value.int .i64 (eC x.1 x.2)))
 | false=>none
noncomputable def mJ:List T→Option (T):=gS vW nX
theorem TM {a0 a1}:mJ [aC true aL a0,aC true aE a1]=nX (a0,a1):=a8 (s:=vW) rfl (a0,a1) rfl
theorem AIQ (h:∀ a0 a1 r,nX (a0,a1)=some r→b8 vW (a0,a1)→B3 a0 a1 (fun y=>y=r)):aK Tryz.prog 33 mJ :=
 aR (E:=BU) (Hs:=PG) XK aW aX (aM rfl) 8 ⟨_,_,Tryz.func33,rfl⟩ rfl fun x r h1 h2=>by
  obtain ⟨a0,a1⟩:=x
  rw[show Sh.bN vW (a0,a1)=[aC true aL a0,aC true aE a1] from rfl,TA]
  exact h a0 a1 r h1 h2
theorem xB {r:Sy} {l:List r.den} (f:r.den→Int) (hl:l.length≤140737488355328) {Body:(Int×PUnit→Prop)→Int×PUnit→Prop} {Exit:Prop}
  (hbody:∀ (X:Int×PUnit→Prop) (k:Nat) (h:k<l.length),(f l[k]=0→X (IntKind.i64.wrap ((k:Int)+1),()))→(f l[k]≠0→bD f l=f l[k])→Body X ((k:Int),())) (hexit:bD f l=0→Exit) :
  bA (Int×PUnit) (fun (X:Int×PUnit→Prop) (s:Int×PUnit)=>aB (decide (s.1<((List.map r.enc l).length:Int))) (Body X s) Exit) (0,()):=by
 refine aZ l.length (fun k s=>s=((k:Int),())∧bD f l=bD f (l.drop k)) ⟨rfl,by rw[List.drop_zero]⟩ ?_
 rintro X k s hk ⟨rfl,he⟩ hX
 dsimp only
 refine bL (fun hlt=>?_) fun hge=>?_
 ·rw[List.length_map] at hlt
  have hlt:k<l.length:=by omega
  have hd:l.drop k=l[k]::l.drop (k+1):=List.drop_eq_getElem_cons hlt
  rw[hd,bD] at he
  refine hbody X k hlt (fun h0=>?_) fun h0=>by rw[he,if_neg h0]
  rw[if_pos h0] at he
  exact hX _ hlt ⟨by rw[show IntKind.i64.wrap ((k:Int)+1)=((k+1:Nat):Int) from aS _ (by omega) (by omega)],he⟩
 ·rw[List.length_map] at hge
  have:k=l.length:=by omega
  subst this
  rw[List.drop_length] at he
  exact hexit he
theorem L9 {a b A B:Int} (h1:0≤a∧a≤A) (h2:0≤b∧b≤B):0≤a*b∧a*b≤A*B:=⟨Int.mul_nonneg h1.1 h2.1,Int.mul_le_mul h1.2 h2.2 h2.1 (Int.le_trans h1.1 h1.2)⟩
theorem AP9 {x n B:Int} (hn:0<n) (h:0≤x∧x≤n*B):0≤x.tdiv n∧x.tdiv n≤B:=by
 rw[Int.tdiv_eq_ediv_of_nonneg h.1]
 exact ⟨Int.ediv_nonneg h.1 (Int.le_of_lt hn),Int.ediv_le_of_le_mul hn (by rw[Int.mul_comm];exact h.2)⟩
theorem AA3 {p:bM} {m:aN} (h:eA p m=0):0≤(iJ p m).1∧(iJ p m).1≤2199023255552:=by
 have w:iJ p m=(mB p m,0):=by unfold iJ;rw[if_pos h]
 rw[w]
 show 0≤mB p m∧mB p m≤2199023255552
 have e:mB p m=mB p m:=rfl
 unfold eA at h
 by_cases c1:gX p.1=false∨gX (eY p)=false
 ·rw[if_pos c1] at h;cases h
 rw[if_neg c1] at h
 by_cases c2:¬ (1≤p.2.1∧p.2.1≤1000)
 ·rw[if_pos c2] at h;cases h
 rw[if_neg c2] at h
 by_cases c3:¬ (bG p=1∨bG p=2∨bG p=3∨bG p=4)
 ·rw[if_pos c3] at h;cases h
 rw[if_neg c3] at h
 by_cases c4:iC p=true
 ·rw[if_pos c4] at h;cases h
 rw[if_neg c4] at h
 by_cases c5:dA p m=false
 ·rw[if_pos c5] at h;cases h
 rw[if_neg c5] at h
 have c5:dA p m=true:=by cases hc:dA p m with
  | true=>rfl
  | false=>exact absurd hc c5
 by_cases c6:bG p=1∧¬ gM (dH p)=0
 ·rw[if_pos c6] at h;exact absurd h c6.2
 rw[if_neg c6] at h
 by_cases c7:(bG p=2∨bG p=3)∧¬ (1≤kK p∧kK p≤32768)
 ·rw[if_pos c7] at h;cases h
 rw[if_neg c7] at h
 by_cases c8:bG p=4∧¬ (1≤iF p∧iF p≤1099511627776∧iN (pD p)=true)
 ·rw[if_pos c8] at h;cases h
 clear h w
 have k:bG p=1∨bG p=2∨bG p=3∨bG p=4:=Classical.not_not.1 c3
 clear c1 c2 c3 c4
 by_cases k4:bG p=4
 ·have hb:=Classical.not_and_iff_not_or_not.1 c8
  have hm:1≤iF p∧iF p≤1099511627776∧iN (pD p)=true:=hb.elim (fun h=>absurd k4 h) Classical.not_not.1
  unfold mB
  rw[if_neg (by omega),if_neg (by omega)]
  omega
 unfold dA at c5
 rw[if_neg k4] at c5
 cases hg:cJ m (dS p) with
 | none=>rw[hg] at c5;cases c5
 | some g =>
  rw[hg] at c5
  dsimp only at c5
  simp only[Bool.and_eq_true,decide_eq_true_eq] at c5
  obtain ⟨⟨d1,d2⟩,c5⟩:=c5
  have eg:IZ m (dS p)=g:=by unfold IZ;rw[hg];rfl
  by_cases k1:bG p=1
  ·rw[if_pos k1] at c5
   simp only[Bool.and_eq_true,decide_eq_true_eq] at c5
   have t:=L9 (A:=618475290624) (B:=120) ⟨A44 (dH p),(A43 (dH p)).2⟩ (show 0≤fT p∧fT p≤120 by omega)
   have t2:=L9 (B:=20000) t (show 0≤g.2.1∧g.2.1≤20000 by omega)
   unfold mB
   rw[if_pos k1,eg,aS (p8 (dH p)*fT p) (by omega) (by omega),aS (p8 (dH p)*fT p*g.2.1) (by omega) (by omega)]
   have v:=AP9 (x:=p8 (dH p)*fT p*g.2.1) (n:=2000000) (B:=742170348749) (by omega) (by omega)
   rw[aS _ (by omega) (by omega)]
   omega
  ·rw[if_neg k1] at c5
   unfold LJ at c5
   cases hs:qA m (CB p) with
   | none=>rw[hs] at c5;cases c5
   | some s =>
    rw[hs] at c5
    dsimp only at c5
    simp only[Bool.and_eq_true,decide_eq_true_eq] at c5
    have es:A1T m (CB p)=s:=by unfold A1T;rw[hs];rfl
    have k23:bG p=2∨bG p=3:=by omega
    have hl:1≤kK p∧kK p≤32768:=Classical.byContradiction fun hc=>c7 ⟨k23,hc⟩
    have t:=L9 (A:=1000000) (B:=32768) (show 0≤s.2.1∧s.2.1≤1000000 by omega) (show 0≤kK p∧kK p≤32768 by omega)
    have t2:=L9 (B:=20000) t (show 0≤g.2.1∧g.2.1≤20000 by omega)
    unfold mB
    rw[if_neg k1,if_pos k23,eg,es,aS (s.2.1*kK p) (by omega) (by omega),aS (s.2.1*kK p*g.2.1) (by omega) (by omega)]
    have v:=AP9 (x:=s.2.1*kK p*g.2.1) (n:=1000000) (B:=655360000) (by omega) (by omega)
    rw[aS _ (by omega) (by omega)]
    omega
def DN (m:aN):List bM→Int
 | []=>0
 | p::l=>(iJ p m).1+DN m l
theorem ABY {m:aN}:∀ {l:List bM},(∀ p∈l,eA p m=0)→0≤DN m l∧DN m l≤2199023255552*(l.length:Int)
 | [],_=>by simp[DN]
 | p::l,h=>by
  have h1:=AA3 (h p (by simp))
  have h2:=ABY (l:=l) fun q hq=>h q (by simp[hq])
  simp only[DN,List.length_cons]
  omega
theorem WT {m:aN} {p:bM}:∀ {l:List bM},DN m (l++[p])=DN m l+(iJ p m).1
 | []=>by simp[DN]
 | q::l=>by simp only[List.cons_append,DN,WT (l:=l)];omega
theorem AJJ {m:aN}:∀ {l:List bM} {s:Int},(∀ p∈l,eA p m=0)→0≤s→s≤1099511627776→wF m l s=if 1099511627776<s+DN m l then 13 else 0
 | [],s,_,h0,h1=>by rw[wF,DN,if_neg (by omega)]
 | p::l,s,h,h0,h1=>by
  have b:=AA3 (h p (by simp))
  have b2:=ABY (l:=l) fun q hq=>h q (by simp[hq])
  rw[wF,DN,aS _ (by omega) (by omega)]
  by_cases hc:1099511627776<s+(iJ p m).1
  ·rw[if_pos hc,if_pos (by omega)]
  ·rw[if_neg hc,AJJ (l:=l) (fun q hq=>h q (by simp[hq])) (by omega) (by omega)]
   congr 1
   exact propext ⟨fun h=>by omega,fun h=>by omega⟩
theorem x6 {d:aF} {id:ByteArray} {K:bM×Bool→Prop} (h:K (found A0S (partOf d id))):aG [(true,aU),(false,Sy.bool)] (eT [aC true aL d,T.v (.string id)]) K:=aD (s:=[(true,aU),(false,.bool)]) (xJ ..) h
theorem EA {α:Type} {no:α} {o:Option α}:(found no o).2=o.isSome:=by cases o<;>rfl
theorem AF9:aK Tryz.prog 33 mJ:=AIQ fun d m r h hb=>by
 unfold nX at h
 split at h
 case h_2=>cases h
 rename_i hok
 replace hok:BK m=true:=hok
 obtain ⟨hu,rfl⟩:=lX h
 have u:UOk d:=rG hu
 have un:d.2.2.1.length≤1000:=u.p
 clear h hb
 have is:∀ {n:Int},eC d m=n→T.v (.int .i64 n)=T.v (.int .i64 (eC d m)):=fun h=>by rw[h]
 unfold B3
 refine xB (r:=aU) (dD d m) (by omega) (fun X k hk hgo hbad=>?_) fun h0=>?_
 ·have bad:∀ {n:Int},n≠0→dD d m d.2.2.1[k]=n→T.v (.int .i64 n)=T.v (.int .i64 (eC d m)):=fun hn h=>by
   have h1:=hbad (by rw[h];exact hn)
   refine is ?_
   unfold eC
   rw[if_neg (by rw[h1,h];exact hn),h1,h]
  dsimp only
  rw[aT (r:=aU) hk]
  have hi:=u.pI _ (List.getElem_mem hk)
  refine aD (s:=[(false,.int .i64)]) (K0 hok hi.1 hi.2) ?_
  refine gP (fun h=>bad h (by unfold dD;rw[if_neg h])) fun h=>?_
  try rw[aT (r:=aU) hk]
  refine xX ?_
  rw[EA]
  refine dM (fun hn=>bad (by decide) ?_) fun hn=>hgo ?_
  ·unfold dD;rw[if_pos h,if_pos]
   cases hc:cB d (eY d.2.2.1[k]) with
   | none=>rfl
   | some x=>rw[show cB d d.2.2.1[k].2.2.2.1=some x from hc] at hn;cases hn
  ·unfold dD;rw[if_pos h,if_neg]
   cases hc:cB d (eY d.2.2.1[k]) with
   | none=>rw[show cB d d.2.2.1[k].2.2.2.1=none from hc] at hn;cases hn
   | some x=>exact Bool.noConfusion
 ·have hz:∀ p∈d.2.2.1,eA p m=0:=fun p hp=>by
   have:=lP h0 p hp
   unfold dD at this
   refine Classical.byContradiction fun hc=>?_
   rw[if_neg hc] at this
   exact hc this
  have w:eC d m=if 1099511627776<DN m d.2.2.1 then 13 else 0:=by unfold eC;rw[if_pos h0,AJJ hz (by omega) (by omega),Int.zero_add]
  clear h0
  refine aZ d.2.2.1.length (fun k s=>s=(DN m (d.2.2.1.take k),(k:Int),())) rfl ?_
  rintro X k s hk rfl hX
  dsimp only
  refine bL (fun hlt=>?_) fun hge=>?_
  ·rw[List.length_map] at hlt
   have hlt:k<d.2.2.1.length:=by omega
   rw[aT (r:=aU) hlt]
   have hi:=u.pI _ (List.getElem_mem hlt)
   refine aD (s:=[(false,.int .i64),(false,.int .i64)]) (AG3 hok hi.1 hi.2) ?_
   have b:=AA3 (hz _ (List.getElem_mem hlt))
   have b2:=ABY (l:=d.2.2.1.take k) fun p hp=>hz p (List.mem_of_mem_take hp)
   rw[List.length_take] at b2
   refine hX _ hlt ?_
   rw[List.take_succ_eq_append_getElem hlt,WT]
   rw[aS (DN m (d.2.2.1.take k)+(iJ d.2.2.1[k] m).1) (by omega) (by omega),aS ((k:Int)+1) (by omega) (by omega)]
   rfl
  ·rw[List.length_map] at hge
   have:k=d.2.2.1.length:=by omega
   subst this
   rw[List.take_length]
   refine bL (fun h=>is (by rw[w,if_pos h])) fun h=>is (by rw[w,if_neg h])
noncomputable def G6:Env:=Env.of [(79,.pure dK)]
def UN:FuncId→Hint:=fun _=>aV
theorem ACT:aH Tryz.prog G6:=aH.cons (x:=.pure dK) yX (aH.nil _)
def HZ (a0:l9) (R:T→Prop):Prop :=
 aG [(false,Sy.bool)] (dK [T.v (.string a0.1)]) fun (y0:Bool) =>
 aB (!y0) (R (T.v (.int .i64 6)))
 (aG [(false,Sy.bool)] (dK [T.v (.string a0.2.1)]) fun (y1:Bool) =>
 aB (!y1) (R (T.v (.int .i64 6)))
 (aG [(false,Sy.bool)] (dK [T.v (.string a0.2.2.1)])
 fun (y2:Bool) =>
 aB (!y2) (R (T.v (.int .i64 6)))
 (aB (decide (a0.2.1=a0.2.2.1)) (R (T.v (.int .i64 2)))
 (aB (!decide (a0.2.2.2.1=1))
 (aB (!decide (a0.2.2.2.1=2)) (R (T.v (.int .i64 10)))
 (aB (decide (a0.2.2.2.2.1<1)) (R (T.v (.int .i64 9)))
 (aB (decide (32768<a0.2.2.2.2.1))
 (R (T.v (.int .i64 9)))
 (aB (decide (a0.2.2.2.2.2<1)) (R (T.v (.int .i64 9)))
 (aB (decide (3<a0.2.2.2.2.2))
 (R (T.v (.int .i64 9)))
 (R (T.v (.int .i64 0))))))))
 (aB (decide (a0.2.2.2.2.1<1)) (R (T.v (.int .i64 9)))
 (aB (decide (32768<a0.2.2.2.2.1)) (R (T.v (.int .i64 9)))
 (aB (decide (a0.2.2.2.2.2<1)) (R (T.v (.int .i64 9)))
 (aB (decide (3<a0.2.2.2.2.2)) (R (T.v (.int .i64 9)))
 (R (T.v (.int .i64 0)))))))))))
theorem Y0 ( a0 R):bC aY Tryz.prog G6 UN 8 84 [aC true a6 a0] R=HZ a0 R:=by kernel_rfl
abbrev AJ:Sh:=[(true,a6)]
def A8B (s:l9):Bool:=DR s.1&&(DR s.2.1&&DR s.2.2.1)
def wO (s:l9):Int:=if gX s.1=false∨gX s.2.1=false∨gX s.2.2.1=false then 6 else if s.2.1=s.2.2.1 then 2 else if ¬ s.2.2.2.1=1∧¬ s.2.2.2.1=2 then 10 else if s.2.2.2.2.1<1∨32768<s.2.2.2.2.1∨s.2.2.2.2.2<1∨3<s.2.2.2.2.2 then 9 else 0
def qF (s:l9):Option T:=match A8B s with
 | true=>some (T.v (Value.int .i64 (wO s)))
 | false=>none
noncomputable def o4:List T→Option (T):=gS AJ qF
theorem AAJ {a0}:o4 [aC true a6 a0]=qF (a0):=a8 (s:=AJ) rfl (a0) rfl
theorem AOM (h:∀ a0 r,qF (a0)=some r→b8 AJ (a0)→HZ a0 (fun y=>y=r)):aK Tryz.prog 84 o4 :=
 aR (E:=G6) (Hs:=UN) ACT aW aX (aM rfl) 8 ⟨_,_,Tryz.func84,rfl⟩ rfl fun x r h1 h2=>by
  let a0:=x
  rw[show Sh.bN AJ (a0)=[aC true a6 a0] from rfl,Y0]
  exact h a0 r h1 h2
theorem AMX:aK Tryz.prog 84 o4:=AOM fun y r h hb=>by
 unfold qF at h
 split at h
 case h_2=>cases h
 rename_i hok
 cases h
 simp only[A8B,Bool.and_eq_true] at hok
 clear hb
 have is:∀ {n:Int},wO y=n→T.v (.int .i64 n)=T.v (.int .i64 (wO y)):=fun h=>by rw[h]
 unfold HZ
 refine nO hok.1 ?_
 refine dM (fun h=>is (by unfold wO;rw[if_pos (.inl h)])) fun i1=>nO hok.2.1 ?_
 refine dM (fun h=>is (by unfold wO;rw[if_pos (.inr (.inl h))])) fun i2=>nO hok.2.2 ?_
 refine dM (fun h=>is (by unfold wO;rw[if_pos (.inr (.inr h))])) fun i3=>?_
 have w:wO y=if y.2.1=y.2.2.1 then 2 else if ¬ y.2.2.2.1=1∧¬ y.2.2.2.1=2 then 10 else if y.2.2.2.2.1<1∨32768<y.2.2.2.2.1∨y.2.2.2.2.2<1∨3<y.2.2.2.2.2 then 9 else 0:=by
  unfold wO;rw[if_neg (by simp only[show gX y.1=true from i1,show gX y.2.1=true from i2,show gX y.2.2.1=true from i3];decide)]
 repeat' first
  | refine gP (fun h=>?_) (fun h=>?_)
  | refine bL (fun h=>?_) (fun h=>?_)
 all_goals (refine is ?_;rw[w];clear w is;simp_all)
noncomputable def G7:Env:=Env.of [(84,.pure o4),(85,.pure eT)]
def UO:FuncId→Hint:=fun f=>match f == 34 with|true=>⟨fun r=>match r == 2 with|true=>.inv [.val 3 false (.int .i64)]|false=>.none,fun _ _=>none,fun _=>none⟩|false=>aV
theorem ACU:aH Tryz.prog G7:=aH.cons (x:=.pure o4) AMX (aH.cons (x:=.pure eT) yZ (aH.nil _))
def H0 (a0:aF) (R:T→Prop):Prop :=
 bA (Int×PUnit)
 (fun (X0:Int×PUnit→Prop) (s1:Int×PUnit) =>
 aB (decide (s1.1<(↑(List.map a6.enc a0.2.2.2.1).length:Int)))
 (aO a6 (List.map a6.enc a0.2.2.2.1) s1.1 fun (y2:l9) =>
 aG [(false,Sy.int IntKind.i64)] (o4 [aC true a6 y2])
 fun (y3:Int) =>
 aB (!decide (y3=0)) (R (T.v (.int .i64 y3)))
 (aO a6 (List.map a6.enc a0.2.2.2.1) s1.1 fun (y4:l9) =>
 aG [(true,aU),(false,Sy.bool)]
 (eT [aC true aL a0,T.v (.string y4.2.1)])
 fun (y5:bM×Bool) =>
 aO a6 (List.map a6.enc a0.2.2.2.1) s1.1 fun (y6:l9) =>
 aG [(true,aU),(false,Sy.bool)]
 (eT [aC true aL a0,T.v (.string y6.2.2.1)])
 fun (y7:bM×Bool) =>
 aB (!y5.2) (R (T.v (.int .i64 8)))
 (aB (!y7.2) (R (T.v (.int .i64 8)))
 (X0 (IntKind.i64.wrap (s1.1+1),())))))
 (R (T.v (.int .i64 0))))
 (0,())
theorem Y1 ( a0 R):bC aY Tryz.prog G7 UO 8 34 [aC true aL a0] R=H0 a0 R:=by kernel_rfl
abbrev AK:Sh:=[(true,aL)]
def DH (d:aF):Option T:=rH d (T.v (Value.int .i64 (bD (jA d) d.2.2.2.1)))
noncomputable def o5:List T→Option (T):=gS AK DH
theorem AAK {a0}:o5 [aC true aL a0]=DH (a0):=a8 (s:=AK) rfl (a0) rfl
theorem AON (h:∀ a0 r,DH (a0)=some r→b8 AK (a0)→H0 a0 (fun y=>y=r)):aK Tryz.prog 34 o5 :=
 aR (E:=G7) (Hs:=UO) ACU aW aX (aM rfl) 8 ⟨_,_,Tryz.func34,rfl⟩ rfl fun x r h1 h2=>by
  let a0:=x
  rw[show Sh.bN AK (a0)=[aC true aL a0] from rfl,Y1]
  exact h a0 r h1 h2
theorem AMY:aK Tryz.prog 34 o5:=AON fun d r h hb=>by
 obtain ⟨hu,rfl⟩:=lX h
 have u:=rG hu
 have un:=u.s
 clear h hb
 unfold H0
 refine xB (r:=a6) (jA d) (by omega) (fun X k hk hok hbad=>?_) fun h0=>by rw[h0]
 dsimp only
 have hi:=u.sI _ (List.getElem_mem hk)
 generalize hy:d.2.2.2.1[k]=y at hi hok hbad
 have bad:∀ {n:Int},n≠0→jA d y=n→T.v (.int .i64 n)=T.v (.int .i64 (bD (jA d) d.2.2.2.1)):=fun hn h=>by
  rw[hbad (by rw[h];exact hn),h]
 have w:jA d y=if wO y=0 then (if (partOf d y.2.1).isNone=true∨(partOf d y.2.2.1).isNone=true then 8 else 0) else wO y:=by
  unfold jA wO
  by_cases g1:gX y.1=false∨gX y.2.1=false∨gX y.2.2.1=false
  ·simp only[if_pos g1];rw[if_neg (by decide)]
  simp only[if_neg g1]
  by_cases g2:y.2.1=y.2.2.1
  ·simp only[if_pos g2];rw[if_neg (by decide)]
  simp only[if_neg g2]
  by_cases g3:¬ y.2.2.2.1=1∧¬ y.2.2.2.1=2
  ·simp only[if_pos g3];rw[if_neg (by decide)]
  simp only[if_neg g3]
  by_cases g4:y.2.2.2.2.1<1∨32768<y.2.2.2.2.1∨y.2.2.2.2.2<1∨3<y.2.2.2.2.2
  ·simp only[if_pos g4];rw[if_neg (by decide)]
  simp only[if_neg g4]
  rw[if_pos trivial]
 rw[aT (r:=a6) hk]
 rw[hy]
 refine aD (s:=[(false,.int .i64)]) (y:=wO y) ((AAJ ..).trans (by unfold qF A8B;rw[hi.1,hi.2.1,hi.2.2];rfl)) ?_
 refine gP (fun h=>bad h (by rw[w,if_neg h])) fun h=>?_
 rw[if_pos h] at w
 rw[aT (r:=a6) hk,hy]
 refine x6 ?_
 rw[aT (r:=a6) hk,hy]
 refine x6 ?_
 rw[EA,EA]
 cases h1:partOf d y.2.1 with
 | none=>exact dM (fun _=>bad (by decide) (by rw[w,h1];rfl)) fun h=>Bool.noConfusion h
 | some a =>
  refine dM (fun h=>Bool.noConfusion h) fun _=>?_
  cases h2:partOf d y.2.2.1 with
  | none=>exact dM (fun _=>bad (by decide) (by rw[w,h2];simp)) fun h=>Bool.noConfusion h
  | some b=>exact dM (fun h=>Bool.noConfusion h) fun _=>hok (by rw[w,h1,h2];rfl)
noncomputable def GO:Env:=Env.of [(41,.pure cY)]
def T6:FuncId→Hint:=fun _=>aV
theorem ACB:aH Tryz.prog GO:=aH.cons (x:=.pure cY) oS (aH.nil _)
def HI (a0:aF) (a1:ByteArray) (R:T→Prop):Prop :=
 aG [(true,bE),(false,Sy.bool)]
 (cY [aC true aL a0,T.v (.string a1)]) fun (y0:gT×Bool) =>
 aB y0.2 (R (T.v (.bool (decide (y0.1.2.1=1))))) (R (T.v (.bool false)))
theorem YB ( a0 a1 R):bC aY Tryz.prog GO T6 8 86 [aC true aL a0,aC false Sy.str a1] R=HI a0 a1 R:=by kernel_rfl
abbrev zV:Sh:=[(true,aL),(false,Sy.str)]
def C3 (x:aF×ByteArray):Option T:=some (T.v (.bool (lU x.1 x.2)))
noncomputable def cD:List T→Option (T):=gS zV C3
theorem Z1 {a0 a1}:cD [aC true aL a0,T.v (.string a1)]=C3 (a0,a1):=a8 (s:=zV) rfl (a0,a1) rfl
theorem AN5 (h:∀ a0 a1 r,C3 (a0,a1)=some r→b8 zV (a0,a1)→HI a0 a1 (fun y=>y=r)):aK Tryz.prog 86 cD :=
 aR (E:=GO) (Hs:=T6) ACB aW aX (aM rfl) 8 ⟨_,_,Tryz.func86,rfl⟩ rfl fun x r h1 h2=>by
  obtain ⟨a0,a1⟩:=x
  rw[show Sh.bN zV (a0,a1)=[aC true aL a0,aC false Sy.str a1] from rfl,YB]
  exact h a0 a1 r h1 h2
theorem QN:aK Tryz.prog 86 cD:=AN5 fun d id r h hb=>by
 cases h
 unfold HI
 refine xX ?_
 have w:lU d id=match cB d id with
  | some n=>decide (n.2.1=1)
  | none=>false:=rfl
 cases hn:cB d id with
 | none=>rw[hn] at w;exact rS (fun h=>Bool.noConfusion h) fun _=>cM w.symm
 | some n=>rw[hn] at w;exact rS (fun _=>cM w.symm) fun h=>Bool.noConfusion h
theorem RA {d:aF} {id:ByteArray} {K:Bool→Prop} (h:K (lU d id)):aG [(false,Sy.bool)] (cD [aC true aL d,T.v (.string id)]) K:=aD (s:=x7) (Z1 ..) h
noncomputable def GW:Env:=Env.of [(89,.pure j8),(86,.pure cD)]
def UD:FuncId→Hint:=fun f=>match f == 36 with|true=>⟨fun r=>match r == 2 with|true=>.inv [.val 3 false (.int .i64)]|false=>.none,fun _ _=>none,fun _=>none⟩|false=>aV
theorem ACI:aH Tryz.prog GW:=aH.cons (x:=.pure j8) VA (aH.cons (x:=.pure cD) QN (aH.nil _))
def HP (a0:aF) (R:T→Prop):Prop :=
 bA (Int×PUnit)
 (fun (X0:Int×PUnit→Prop) (s1:Int×PUnit) =>
 aB (decide (s1.1<(↑(List.map aQ.enc a0.2.2.2.2.2).length:Int)))
 (aO aQ (List.map aQ.enc a0.2.2.2.2.2) s1.1 fun (y2:fQ) =>
 aB (decide (y2.1<1)) (R (T.v (.int .i64 10)))
 (aB (decide (3<y2.1)) (R (T.v (.int .i64 10)))
 (aB (decide (y2.2.2=y2.2.1)) (R (T.v (.int .i64 2)))
 (aG [(true,aP),(false,Sy.bool)]
 (j8 [aC true aL a0,T.v (.string y2.2.2)])
 fun (y3:cC×Bool) =>
 aB (decide (y2.1=1))
 (aB (decide (y2.2.2 = { data:=#[] }))
 (aG [(false,Sy.bool)]
 (cD [aC true aL a0,T.v (.string y2.2.1)])
 fun (y4:Bool) =>
 aB (!y4) (R (T.v (.int .i64 8)))
 (X0 (IntKind.i64.wrap (s1.1+1),())))
 (aG [(false,Sy.bool)]
 (cD [aC true aL a0,T.v (.string y2.2.2)])
 fun (y5:Bool) =>
 aB y5
 (aG [(false,Sy.bool)]
 (cD [aC true aL a0,T.v (.string y2.2.1)])
 fun (y6:Bool) =>
 aB (!y6) (R (T.v (.int .i64 8)))
 (X0 (IntKind.i64.wrap (s1.1+1),())))
 (aB (decide (y2.1=2))
 (aG [(false,Sy.bool)]
 (cD [aC true aL a0,T.v (.string y2.2.2)])
 fun (y7:Bool) =>
 aB y7
 (aG [(false,Sy.bool)]
 (cD
 [aC true aL a0,T.v (.string y2.2.1)])
 fun (y8:Bool) =>
 aB (!y8) (R (T.v (.int .i64 8)))
 (X0 (IntKind.i64.wrap (s1.1+1),())))
 (aB (decide (y2.1=3))
 (aG [(false,Sy.bool)]
 (cD
 [aC true aL a0,T.v (.string y2.2.1)])
 fun (y9:Bool) =>
 aB (!y9) (R (T.v (.int .i64 8)))
 (aB (!y3.2) (R (T.v (.int .i64 8)))
 (X0 (IntKind.i64.wrap (s1.1+1),()))))
 (aG [(false,Sy.bool)]
 (cD
 [aC true aL a0,T.v (.string y2.2.1)])
 fun (y10:Bool) =>
 aB (!y10) (R (T.v (.int .i64 8)))
 (R (T.v (.int .i64 8))))))
 (aB (decide (y2.1=3))
 (aG [(false,Sy.bool)]
 (cD
 [aC true aL a0,T.v (.string y2.2.1)])
 fun (y11:Bool) =>
 aB (!y11) (R (T.v (.int .i64 8)))
 (aB (!y3.2) (R (T.v (.int .i64 8)))
 (X0 (IntKind.i64.wrap (s1.1+1),()))))
 (aG [(false,Sy.bool)]
 (cD
 [aC true aL a0,T.v (.string y2.2.1)])
 fun (y12:Bool) =>
 aB (!y12) (R (T.v (.int .i64 8)))
 (R (T.v (.int .i64 8))))))))
 (aB (decide (y2.1=2))
 (aG [(false,Sy.bool)]
 (cD [aC true aL a0,T.v (.string y2.2.2)])
 fun (y13:Bool) =>
 aB y13
 (aG [(false,Sy.bool)]
 (cD [aC true aL a0,T.v (.string y2.2.1)])
 fun (y14:Bool) =>
 aB (!y14) (R (T.v (.int .i64 8)))
 (X0 (IntKind.i64.wrap (s1.1+1),())))
 (aB (decide (y2.1=3))
 (aG [(false,Sy.bool)]
 (cD [aC true aL a0,T.v (.string y2.2.1)])
 fun (y15:Bool) =>
 aB (!y15) (R (T.v (.int .i64 8)))
 (aB (!y3.2) (R (T.v (.int .i64 8)))
 (X0 (IntKind.i64.wrap (s1.1+1),()))))
 (aG [(false,Sy.bool)]
 (cD [aC true aL a0,T.v (.string y2.2.1)])
 fun (y16:Bool) =>
 aB (!y16) (R (T.v (.int .i64 8)))
 (R (T.v (.int .i64 8))))))
 (aB (decide (y2.1=3))
 (aG [(false,Sy.bool)]
 (cD [aC true aL a0,T.v (.string y2.2.1)])
 fun (y17:Bool) =>
 aB (!y17) (R (T.v (.int .i64 8)))
 (aB (!y3.2) (R (T.v (.int .i64 8)))
 (X0 (IntKind.i64.wrap (s1.1+1),()))))
 (aG [(false,Sy.bool)]
 (cD [aC true aL a0,T.v (.string y2.2.1)])
 fun (y18:Bool) =>
 aB (!y18) (R (T.v (.int .i64 8)))
 (R (T.v (.int .i64 8))))))))))
 (R (T.v (.int .i64 0))))
 (0,())
theorem YJ ( a0 R):bC aY Tryz.prog GW UD 8 36 [aC true aL a0] R=HP a0 R:=by kernel_rfl
abbrev z7:Sh:=[(true,aL)]
def C8 (d:aF):Option T:=rH d (T.v (Value.int .i64 (bD (hU d) d.2.2.2.2.2)))
noncomputable def oW:List T→Option (T):=gS z7 C8
theorem Z7 {a0}:oW [aC true aL a0]=C8 (a0):=a8 (s:=z7) rfl (a0) rfl
theorem AOC (h:∀ a0 r,C8 (a0)=some r→b8 z7 (a0)→HP a0 (fun y=>y=r)):aK Tryz.prog 36 oW :=
 aR (E:=GW) (Hs:=UD) ACI aW aX (aM rfl) 8 ⟨_,_,Tryz.func36,rfl⟩ rfl fun x r h1 h2=>by
  let a0:=x
  rw[show Sh.bN z7 (a0)=[aC true aL a0] from rfl,YJ]
  exact h a0 r h1 h2
theorem AIZ {d:aF} {id:ByteArray} {K:cC×Bool→Prop} (h:K (found noPack (jP d id))):aG [(true,aP),(false,Sy.bool)] (j8 [aC true aL d,T.v (.string id)]) K:=aD (s:=[(true,aP),(false,.bool)]) (KZ ..) h
theorem AMP:aK Tryz.prog 36 oW:=AOC fun d r h hb=>by
 obtain ⟨hu,rfl⟩:=lX h
 have u:=rG hu
 have un:=u.r
 clear h hb
 unfold HP
 refine fK (r:=aQ) (hU d) (by omega) (fun X s y hy hok hbad=>?_) fun h0=>by rw[h0]
 have bad:∀ {n:Int},n≠0→hU d y=n→T.v (.int .i64 n)=T.v (.int .i64 (bD (hU d) d.2.2.2.2.2)):=fun hn h=>by
  rw[hbad (by rw[h];exact hn),h]
 clear hbad
 have fi:(found noPack (jP d y.2.2)).2=(jP d y.2.2).isSome:=EA
 repeat' first
  | (exfalso;omega)
  | refine RA ?_
  | refine AIZ ?_
  | refine gP (fun h=>?_) (fun h=>?_)
  | refine bL (fun h=>?_) (fun h=>?_)
  | refine dM (fun h=>?_) (fun h=>?_)
  | refine rS (fun h=>?_) (fun h=>?_)
 all_goals first
  | (exfalso;omega)
  | (refine bad (by decide) ?_;clear bad hok;unfold hU;simp_all[Option.isSome_iff_ne_none];done)
  | (refine hok ?_;clear bad hok;unfold hU;simp_all[Option.isSome_iff_ne_none];done)
  | (refine bad (by decide) ?_;clear bad hok;unfold hU;simp_all[Option.isSome_iff_ne_none];omega)
  | (refine hok ?_;clear bad hok;unfold hU;simp_all[Option.isSome_iff_ne_none];omega)
end Go.Pv
namespace Go.Pv
open Go Go.Proofs
noncomputable def GL:Env:=Env.of []
def T3:FuncId→Hint:=fun f=>match f == 125 with|true=>⟨fun r=>match r == 2 with|true=>.inv [.val 5 false (.int .i64)]|false=>.none,fun _ _=>none,fun _=>none⟩|false=>aV
theorem AB8:aH Tryz.prog GL:=aH.nil _
def HF (a0:Int) (a1:List aJ) (R:T→Prop):Prop :=
 bA (Int×PUnit)
 (fun (X0:Int×PUnit→Prop) (s1:Int×PUnit) =>
 aB (decide (s1.1<(↑(List.map aA.enc a1).length:Int)))
 (aO aA (List.map aA.enc a1) s1.1 fun (y2:aJ) =>
 aO aA (List.map aA.enc a1) s1.1 fun (y3:aJ) =>
 aB (decide (y2.1<0)) (R (T.v (.int .i64 9)))
 (aB (decide (a0≤y2.1)) (R (T.v (.int .i64 9)))
 (aB (decide (y3.2<0)) (R (T.v (.int .i64 9)))
 (aB (decide (a0≤y3.2)) (R (T.v (.int .i64 9)))
 (aB (decide (y2.1=y3.2)) (R (T.v (.int .i64 2)))
 (X0 (IntKind.i64.wrap (s1.1+1),())))))))
 (R (T.v (.int .i64 0))))
 (0,())
theorem XT ( a0 a1 R):bC aY Tryz.prog GL T3 8 125 [aC false (Sy.int IntKind.i64) a0,aC false aA.li a1] R=HF a0 a1 R:=by kernel_rfl
abbrev zS:Sh:=[(false,(Sy.int IntKind.i64)),(false,aA.li)]
def C1 (x:Int×List aJ):Option T:=mD x.2 (T.v (Value.int .i64 (bD (nM x.1) x.2)))
noncomputable def oT:List T→Option (T):=gS zS C1
theorem ZX {a0 a1}:oT [T.v (.int .i64 a0),T.sl false (List.map aA.enc a1)]=C1 (a0,a1):=a8 (s:=zS) rfl (a0,a1) rfl
theorem AN2 (h:∀ a0 a1 r,C1 (a0,a1)=some r→b8 zS (a0,a1)→HF a0 a1 (fun y=>y=r)):aK Tryz.prog 125 oT :=
 aR (E:=GL) (Hs:=T3) AB8 aW aX (aM rfl) 8 ⟨_,_,Tryz.func125,rfl⟩ rfl fun x r h1 h2=>by
  obtain ⟨a0,a1⟩:=x
  rw[show Sh.bN zS (a0,a1)=[aC false (Sy.int IntKind.i64) a0,aC false aA.li a1] from rfl,XT]
  exact h a0 a1 r h1 h2
theorem AMI:aK Tryz.prog 125 oT:=AN2 fun n l r h hb=>by
 obtain ⟨hl,rfl⟩:=gC h
 have hl:l.length≤140737488355328:=hl
 clear h hb
 unfold HF
 refine xB (r:=aA) (nM n) hl (fun X k hk hok hbad=>?_) fun h0=>?_
 ·have bad:∀ {m:Int},m≠0→nM n l[k]=m→T.v (.int .i64 m)=T.v (.int .i64 (bD (nM n) l)):=fun hn h=>by
   rw[hbad (by rw[h];exact hn),h]
  dsimp only
  rw[aT (r:=aA) hk,aT (r:=aA) hk]
  clear hbad
  generalize l[k]=y at hok bad
  repeat' first
   | refine gP (fun h=>?_) (fun h=>?_)
   | refine bL (fun h=>?_) (fun h=>?_)
  all_goals first
   | (exfalso;omega)
   | (refine bad (by decide) ?_;clear bad hok;unfold nM;first|(rw[if_pos (by omega)];done)|(rw[if_neg (by omega),if_pos (by omega)];done))
   | (refine hok ?_;clear bad hok;unfold nM;rw[if_neg (by omega),if_neg (by omega)];done)
 ·show _=T.v (.int .i64 (bD (nM n) l))
  rw[h0]
noncomputable def GY:Env:=Env.of [(125,.pure oT)]
def UF:FuncId→Hint:=fun f=>match f == 88 with|true=>⟨fun r=>match r == 8 with|true=>.inv [.own 7 1 (.int .i64),.arr 0 1 .bool]|false=>match r == 11 with|true=>.inv [.arr 2 1 .bool,.val 10 false (.int .i64)]|false=>match r == 17 with|true=>.inv [.val 11 false (.int .i64),.val 12 false (.int .i64)]|false=>.none,fun _ _=>none,fun _=>none⟩|false=>aV
theorem ACK:aH Tryz.prog GY:=aH.cons (x:=.pure oT) AMI (aH.nil _)
def HR (a0:Int) (a1:List aJ) (R:T→Prop):Prop :=
 aB (decide (a0<0))
 (bP (T.v (.int .i64 9)).flat
 (R (T.cR [T.sl false [],T.v (.int .i64 9)])))
 (aB (decide (256<a0))
 (bP (T.v (.int .i64 9)).flat
 (R (T.cR [T.sl false [],T.v (.int .i64 9)])))
 (aG [(false,Sy.int IntKind.i64)]
 (oT [T.v (.int .i64 a0),T.sl false (List.map aA.enc a1)])
 fun (y0:Int) =>
 aB (!decide (y0=0))
 (bP (T.v (.int .i64 y0)).flat
 (R (T.cR [T.sl false [],T.v (.int .i64 y0)])))
 (bP
 ((decide (a0=a0)||decide (a0=0))&&decide (0≤a0)&&decide (a0*(↑1:Int)≤140737488355328) &&
 decide (a0≤140737488355328))
 (b6 Sy.bool (List.replicate (Int.toNat a0) [T.v (.bool false)])
 fun (y1:List Bool) =>
 bA (List Int×List Bool×PUnit)
 (fun (X2:List Int×List Bool×PUnit→Prop) (s3:List Int×List Bool×PUnit) =>
 aB (decide ((↑(List.map (Sy.int IntKind.i64).enc s3.1).length:Int)<a0))
 (bP
 ((decide (a0=a0)||decide (a0=0))&&decide (0≤a0) &&
 decide (a0*(↑1:Int)≤140737488355328) &&
 decide (a0≤140737488355328))
 (b6 Sy.bool (List.replicate (Int.toNat a0) [T.v (.bool false)])
 fun (y4:List Bool) =>
 bA (List Bool×Int×PUnit)
 (fun (X5:List Bool×Int×PUnit→Prop) (s6:List Bool×Int×PUnit) =>
 aB (decide (s6.2.1<(↑(List.map aA.enc a1).length:Int)))
 (aO aA (List.map aA.enc a1) s6.2.1
 fun (y7:aJ) =>
 aO Sy.bool (List.map Sy.bool.enc s3.2.1) y7.1
 fun (y8:Bool) =>
 BL Sy.bool (List.map Sy.bool.enc s3.2.1) (Int.toNat y7.1) 0
 fun (y9:Bool) =>
 aB (!y9)
 (aO aA (List.map aA.enc a1) s6.2.1
 fun (y10:aJ) =>
 aO Sy.bool (List.map Sy.bool.enc s6.1) y10.2
 fun (y11:Bool) =>
 AI9 (List.map Sy.bool.enc s6.1) (Int.toNat y10.2)
 fun (y12:List T) =>
 bP (decide (1≤y12.length))
 (b6 Sy.bool
 ((List.map Sy.bool.enc s6.1).set (Int.toNat y10.2)
 (cT y12 0 [T.v (.bool true)]))
 fun (y13:List Bool) =>
 X5 (y13,IntKind.i64.wrap (s6.2.1+1),())))
 (b6 Sy.bool (List.map Sy.bool.enc s6.1)
 fun (y14:List Bool)=>X5 (y14,IntKind.i64.wrap (s6.2.1+1),())))
 (bA (Int×Int×PUnit)
 (fun (X15:Int×Int×PUnit→Prop) (s16:Int×Int×PUnit) =>
 aB (decide (0≤s16.2.1))
 (aO Sy.bool (List.map Sy.bool.enc s3.2.1) s16.2.1
 fun (y17:Bool) =>
 BL Sy.bool (List.map Sy.bool.enc s3.2.1)
 (Int.toNat s16.2.1) 0 fun (y18:Bool) =>
 aB (!y18)
 (aO Sy.bool (List.map Sy.bool.enc s6.1) s16.2.1
 fun (y19:Bool) =>
 BL Sy.bool (List.map Sy.bool.enc s6.1)
 (Int.toNat s16.2.1) 0 fun (y20:Bool) =>
 aB (!y20)
 (X15 (s16.2.1,IntKind.i64.wrap (s16.2.1-1),()))
 (X15 (s16.1,IntKind.i64.wrap (s16.2.1-1),())))
 (X15 (s16.1,IntKind.i64.wrap (s16.2.1-1),())))
 (aB (decide (s16.1<0))
 (bP (T.v (.int .i64 20)).flat
 (R
 (T.cR
 [T.sl false [],T.v (.int .i64 20)])))
 (aO Sy.bool (List.map Sy.bool.enc s3.2.1) s16.1
 fun (y21:Bool) =>
 AI9 (List.map Sy.bool.enc s3.2.1) (Int.toNat s16.1)
 fun (y22:List T) =>
 bP (decide (1≤y22.length))
 (bP
 (decide
 (((List.map (Sy.int IntKind.i64).enc s3.1).length+1)*8 ≤
 140737488355328) &&
 decide
 ((List.map (Sy.int IntKind.i64).enc s3.1).length+1 ≤
 140737488355328))
 (b6 (Sy.int IntKind.i64)
 (List.map (Sy.int IntKind.i64).enc s3.1 ++
 [[T.v (.int .i64 s16.1)]])
 fun (y23:List Int) =>
 b6 Sy.bool
 ((List.map Sy.bool.enc s3.2.1).set (Int.toNat s16.1)
 (cT y22 0 [T.v (.bool true)]))
 fun (y24:List Bool)=>X2 (y23,y24,()))))))
 (-1,IntKind.i64.wrap (a0-1),())))
 (y4,0,())))
 (bP
 ((List.map (Sy.int IntKind.i64).enc s3.1).all fun (r:List T) =>
 r.all T.flat)
 (bP (T.v (.int .i64 0)).flat
 (R
 (T.cR
 [T.sl false (List.map (Sy.int IntKind.i64).enc s3.1),
 T.v (.int .i64 0)])))))
 ([],y1,())))))
theorem YM ( a0 a1 R):r5 aY Tryz.prog GY UF 8 88 [aC false (Sy.int IntKind.i64) a0,aC false aA.li a1] R=HR a0 a1 R:=by kernel_rfl
abbrev AA:Sh:=[(false,(Sy.int IntKind.i64)),(false,aA.li)]
abbrev mV:Sh:=[(false,(Sy.int IntKind.i64).li),(false,Sy.int IntKind.i64)]
def DA (x:Int×List aJ):Option T:=mD x.2 (Sh.enc mV (dJ x.1 x.2))
noncomputable def oY:List T→Option (T):=gS AA DA
theorem Z9 {a0 a1}:oY [T.v (.int .i64 a0),T.sl false (List.map aA.enc a1)]=DA (a0,a1):=a8 (s:=AA) rfl (a0,a1) rfl
theorem AOE (h:∀ a0 a1 r,DA (a0,a1)=some r→b8 AA (a0,a1)→HR a0 a1 (fun y=>y=r)):iV Tryz.prog 88 oY :=
 AQZ (E:=GY) (Hs:=UF) ACK aW aX (aM rfl) 8 ⟨_,_,Tryz.func88,rfl⟩ rfl fun x r h1 h2=>by
  obtain ⟨a0,a1⟩:=x
  rw[show Sh.bN AA (a0,a1)=[aC false (Sy.int IntKind.i64) a0,aC false aA.li a1] from rfl,YM]
  exact h a0 a1 r h1 h2
theorem AMR:iV Tryz.prog 88 oY:=AOE fun n l r h hb=>by
 obtain ⟨hl,rfl⟩:=gC h
 clear h
 have hl:l.length≤140737488355328:=hl
 unfold HR
 refine bL (fun h=>?_) fun hn0=>?_
 ·refine ⟨rfl,?_⟩
  show _=Sh.enc mV (dJ n l)
  rw[dJ,if_pos (Or.inl h)];rfl
 refine bL (fun h=>?_) fun hn1=>?_
 ·refine ⟨rfl,?_⟩
  show _=Sh.enc mV (dJ n l)
  rw[dJ,if_pos (Or.inr h)];rfl
 refine aD (s:=[(false,.int .i64)]) (y:=bD (nM n) l) (by rw[ZX];exact eH _ hl) ?_
 refine gP (fun h0=>?_) (fun h0=>?_)
 ·refine ⟨rfl,?_⟩
  show _=Sh.enc mV (dJ n l)
  rw[dJ,if_neg (by omega),if_neg h0];rfl
 have hv:dJ n l=p7 l n.toNat n.toNat [] (List.replicate n.toNat false):=R0 hl (by omega) (by omega) h0
 have hend:∀ e∈l,0≤e.1∧e.1<n∧0≤e.2∧e.2<n:=fun e he=>by
  have:=lP h0 e he
  unfold nM at this
  split at this
  ·exact absurd this (by decide)
  ·omega
 clear h0 hb
 obtain ⟨N,rfl⟩:∃ N:Nat,n=(N:Int):=⟨n.toNat,by omega⟩
 rw[Int.toNat_natCast] at hv ⊢
 refine ⟨by simp;omega,?_⟩
 rw[AI5,dT rfl]
 refine aZ N (fun k s=>s.1.length=k∧s.2.1.length=N∧p7 l N (N-k) s.1 s.2.1=dJ N l) ⟨rfl,by simp,by rw[hv];rfl⟩ ?_
 clear hv
 rintro X k ⟨o,t,u⟩ hk ⟨hol,htl,hr⟩ hX
 dsimp only at hol htl hr ⊢
 refine bL (fun hlt=>?_) fun hge=>?_
 ·rw[List.length_map,hol] at hlt
  have hlt:k<N:=by omega
  obtain ⟨m,hm⟩:∃ m,N-k=m+1:=⟨N-k-1,by omega⟩
  rw[hm,p7] at hr
  refine ⟨by simp;omega,?_⟩
  rw[dT rfl]
  refine aZ l.length (fun j s=>s.2.1=(j:Int)∧s.1.length=N∧∀ v,s.1.getD v false=LO (l.take j) t v) ⟨rfl,by simp,fun v=>?_⟩ ?_
  ·show (List.replicate N false).getD v false=LO [] t v
   rw[List.getD_eq_getElem?_getD,List.getElem?_replicate];split<;>rfl
  rintro Y j ⟨w,i,u⟩ hj ⟨rfl,hwl,hw⟩ hY
  dsimp only at hwl hw ⊢
  refine bL (fun hjl=>?_) fun hjl=>?_
  ·rw[List.length_map] at hjl
   have hjl:j<l.length:=by omega
   rw[aT hjl]
   obtain ⟨e0,e1,f0,f1⟩:=hend _ (List.getElem_mem hjl)
   have ht:(l[j].1).toNat<t.length:=by omega
   have hwj:(l[j].2).toNat<w.length:=by omega
   rw[o8 e0 ht,p6 ht]
   have step:∀ v,LO (l.take (j+1)) t v=(LO (l.take j) t v||BP t v l[j]):=fun v=>by
    unfold LO;rw[List.take_succ_eq_append_getElem hjl,List.any_append];simp
   have hwr:IntKind.i64.wrap ((j:Int)+1)=((j+1:Nat):Int):=by rw[aS]<;>omega
   refine dM (fun hf=>?_) fun hf=>?_
   ·rw[aT hjl,o8 f0 hwj,FA hwj]
    refine ⟨rfl,?_⟩
    rw[SF hwj,dT rfl]
    refine hY _ hjl ⟨hwr,?_,fun v=>?_⟩
    ·show (List.set _ _ _).length=N
     rw[List.length_set];exact hwl
    show (w.set (l[j].2).toNat true).getD v false=_
    rw[EK hwj,step,←hw]
    unfold BP
    rw[nD (l:=t) false ht,hf]
    by_cases hc:v=l[j].2.toNat
    ·rw[if_pos hc,decide_eq_true (show l[j].2=(v:Int) by omega)];simp
    ·rw[if_neg hc,decide_eq_false (show ¬ l[j].2=(v:Int) by omega)];simp
   ·rw[dT rfl]
    refine hY _ hjl ⟨hwr,hwl,fun v=>?_⟩
    show w.getD v false=_
    rw[step,←hw]
    unfold BP
    rw[nD (l:=t) false ht,hf];simp
  rw[List.length_map] at hjl
  have:j=l.length:=by omega
  subst this
  rw[List.take_length] at hw
  clear hY hjl hj
  refine aZ N (fun q s=>s.2.1=(N:Int)-1-(q:Int)∧s.1=match (List.range' (N-q) q).find? (pK l t) with
   | none=>-1
   | some v=>(v:Int)) ⟨?_,rfl⟩ ?_
  ·show IntKind.i64.wrap ((N:Int)-1)=(N:Int)-1-0
   rw[aS]<;>omega
  rintro Z q ⟨x,i,u⟩ hq ⟨rfl,hx⟩ hZ
  dsimp only at hx ⊢
  refine bL (fun hqn=>?_) fun hqn=>?_
  ·have hqn:q<N:=by omega
   obtain ⟨v,hv⟩:∃ v:Nat,(N:Int)-1-(q:Int)=(v:Int):=⟨N-1-q,by omega⟩
   rw[hv]
   have hvt:v<t.length:=by omega
   have hvw:v<w.length:=by omega
   rw[aT hvt,Int.toNat_natCast,p6 hvt]
   have hfind:(List.range' (N-(q+1)) (q+1)).find? (pK l t)=if pK l t v=true then some v else (List.range' (N-q) q).find? (pK l t):=by
    have e:N-(q+1)=v:=by omega
    have e2:N-q=v+1:=by omega
    rw[e,e2,List.range'_succ,List.find?_cons];cases pK l t v<;>rfl
   have fw:pK l t v=(!t[v] && !w[v]):=by unfold pK;rw[←hw,nD (l:=t) false hvt,nD (l:=w) false hvw]
   have nx:IntKind.i64.wrap ((v:Int)-1)=(N:Int)-1-((q+1:Nat):Int):=by rw[aS]<;>omega
   refine dM (fun h1=>?_) fun h1=>?_
   ·rw[aT hvw,p6 hvw]
    refine dM (fun h2=>?_) fun h2=>?_
    ·refine hZ _ hqn ⟨nx,?_⟩
     show (v:Int)=_
     rw[hfind,fw,h1,h2];rfl
    ·refine hZ _ hqn ⟨nx,?_⟩
     show x=_
     rw[hfind,fw,h1,h2];exact hx
   ·refine hZ _ hqn ⟨nx,?_⟩
    show x=_
    rw[hfind,fw,h1];exact hx
  have hqN:q=N:=by omega
  rw[hqN,Nat.sub_self,←List.range_eq_range'] at hx
  clear hZ hqn hq
  cases hf:(List.range N).find? (pK l t) with
  | none =>
   rw[hf] at hx hr
   have hx:x = -1:=hx
   refine bL (fun _=>⟨rfl,?_⟩) fun h=>?_
   ·show _=Sh.enc mV (dJ (N:Int) l)
    rw[←hr];rfl
   ·exfalso;omega
  | some v =>
   rw[hf] at hx hr
   have hx:x=(v:Int):=hx
   subst hx
   have hvn:v<N:=List.mem_range.1 (List.mem_of_find?_eq_some hf)
   refine bL (fun h=>by exfalso;omega) fun _=>?_
   have hvt:v<t.length:=by omega
   rw[aT hvt,Int.toNat_natCast,FA hvt]
   refine ⟨rfl,⟨by simp;omega,?_⟩⟩
   rw[sF (r:=.int .i64) rfl o [T.v (.int .i64 (v:Int))] (v:Int) rfl,SF hvt,dT rfl]
   refine hX _ hlt ⟨by simp[hol],by simp[htl],?_⟩
   rw[show N-(k+1)=m by omega]
   exact hr
 ·rw[List.length_map,hol] at hge
  have hkN:k=N:=by omega
  subst hkN
  rw[Nat.sub_self,p7] at hr
  refine ⟨U7 o,rfl,?_⟩
  show _=Sh.enc mV (dJ (k:Int) l)
  rw[←hr];rfl
end Go.Pv
namespace Go.Pv
open Go Go.Proofs
end Go.Pv
namespace Go.Pv
open Go Go.Proofs
theorem AM4 {d:aF} (h:dZ d=0):dP d=false∧(lL (ids d.2.1)=true∧lL (ids d.2.2.1)=true∧lL (ids d.2.2.2.1)=true∧lL (ids d.2.2.2.2.1)=true)∧A3 d=false:=by
 unfold dZ at h
 split at h
 ·cases h
 split at h
 ·cases h
 split at h
 ·cases h
 rename_i h1 h2 h3
 have h2:iA d=true:=by simpa using h2
 simp only[iA,Bool.and_eq_true] at h2
 exact ⟨by simpa using h1,⟨h2.1.1.1.1,h2.1.1.1.2,h2.1.1.2,h2.1.2⟩,by simpa using h3⟩
theorem uR {α:Type} {l:List (ByteArray×α)} {id:ByteArray} {a:ByteArray×α} (h:l.find? (fun s=>decide (s.1=id))=some a):a∈l∧a.1=id :=
 ⟨List.mem_of_find?_eq_some h,by have:=List.find?_some h;simpa using this⟩
theorem A17 {d:aF}:∀ {n:Nat} {id:ByteArray} {l:List ByteArray},(upF d n id l).2=true→(upF d n id l).1≠[]
 | 0,_,_,h=>by cases h
 | n+1,id,l,h=>by
  unfold upF at h ⊢
  cases hn:cB d id with
  | none=>rw[hn] at h;cases h
  | some x =>
   rw[hn] at h
   dsimp only at h ⊢
   by_cases h1:x.2.1=1
   ·rw[if_pos h1];simp
   ·rw[if_neg h1] at h ⊢;exact A17 h
structure VOk (d:aF):Prop where
 u:UOk d
 long:d.2.2.2.2.1.length≤64
 BAR:lL (ids d.2.2.2.2.1)=true
 none:∀ p∈d.2.2.1,cB d p.1=none
 up:∀ p∈d.2.2.1,(up d (eY p)).2=true
def okV (d:aF):Bool:=okU d&&(decide (dZ d=0)&&(decide (dF d=0)&&d.2.2.1.all fun p=>(cB d (eY p)).isSome))
theorem A4S {d:aF} (h:okV d=true):VOk d:=by
 simp only[okV,Bool.and_eq_true,decide_eq_true_eq,List.all_eq_true] at h
 obtain ⟨h0,h1,h2,h3⟩:=h
 obtain ⟨f1,⟨-,-,-,f4⟩,f5⟩:=AM4 h1
 refine ⟨rG h0,?_,f4,fun p hp=>?_,fun p hp=>?_⟩
 ·simp only[dP,Bool.or_eq_false_iff,decide_eq_false_iff_not] at f1;omega
 ·cases hn:cB d p.1 with
  | none=>rfl
  | some n =>
   exfalso
   obtain ⟨m1,m2⟩:=uR hn
   have:A3 d=true:=CH (m:=ids d.2.1) (l:=ids d.2.2.1) (.inl ⟨rfl,rfl⟩) (List.any_eq_true.2 ⟨p.1,List.mem_map.2 ⟨p,hp,rfl⟩,iK.2 (m2 ▸ List.mem_map.2 ⟨n,m1,rfl⟩)⟩)
   rw[f5] at this;cases this
 ·have h4:=h3 p hp
  obtain ⟨n,hn⟩:=Option.isSome_iff_exists.1 h4
  obtain ⟨m1,m2⟩:=uR hn
  have hup:RN d=false:=by
   unfold dF at h2
   split at h2
   ·split at h2
    ·cases h2
    ·rename_i h;simpa using h
   ·rename_i h;exact absurd h2 h
  unfold RN at hup
  rw[←m2]
  cases hc:(up d n.1).2 with
  | true=>rfl
  | false =>
   exfalso
   rw[Bool.eq_false_iff] at hup
   exact hup (List.any_eq_true.2 ⟨n,m1,by rw[hc];rfl⟩)
theorem ASO {d:aF} (v:VOk d) {p:bM} {id b:ByteArray} (hp:partOf d id=some p):p.1=id∧((fY d p.1).1=b↔(up d (eY p)).1.getLast? = some b):=by
 obtain ⟨m1,m2⟩:=uR hp
 refine ⟨m2,?_⟩
 have hu:=v.up p m1
 have e:fY d p.1=(RE (up d (eY p)).1,true):=by
  unfold fY
  rw[v.none p m1,m2,hp]
  show WV d (eY p)=_
  unfold WV
  rw[if_pos hu]
 rw[e]
 have hne:(up d (eY p)).1≠[]:=A17 hu
 show RE _=b↔_
 unfold RE
 rw[List.getLastD_eq_getLast?]
 cases hl:(up d (eY p)).1.getLast? with
 | none=>exact absurd (List.getLast?_eq_none_iff.1 hl) hne
 | some x=>exact ⟨fun h=>congrArg some h,fun h=>Option.some.inj h⟩
noncomputable def M4:Env:=Env.of [(85,.pure eT),(124,.pure jU),(14,.pure eP)]
def AEE:FuncId→Hint:=fun f=>match f == 87 with|true=>⟨fun r=>match r == 3 with|true=>.inv [.val 6 false (.int .i64)]|false=>match r == 14 with|true=>.inv [.val 11 false (.int .i64)]|false=>.none,fun _ _=>none,fun _=>none⟩|false=>aV
theorem AJ4:aH Tryz.prog M4:=aH.cons (x:=.pure eT) yZ (aH.cons (x:=.pure jU) AMH (aH.cons (x:=.pure eP) QM (aH.nil _)))
def OC (a0:aF) (a1:Int) (R:T→Prop):Prop :=
 aO aP (List.map aP.enc a0.2.2.2.2.1) a1 fun (y0:cC) =>
 bA (Int×PUnit)
 (fun (X1:Int×PUnit→Prop) (s2:Int×PUnit) =>
 aB (decide (s2.1<(↑(List.map Sy.str.enc y0.2.2.1).length:Int)))
 (aO Sy.str (List.map Sy.str.enc y0.2.2.1) s2.1 fun (y3:ByteArray) =>
 aG [(true,aU),(false,Sy.bool)]
 (eT [aC true aL a0,T.v (.string y3)])
 fun (y4:bM×Bool) =>
 aB (!y4.2) (R (T.v (.int .i64 8)))
 (aB (!decide (y4.1.2.2.1=4))
 (aB (!decide (y4.1.2.2.1=3)) (R (T.v (.int .i64 10)))
 (aG [(false,Sy.str),(false,Sy.bool)]
 (jU [aC true aL a0,T.v (.string y4.1.1)])
 fun (y5:ByteArray×Bool) =>
 aB (!decide (y5.1=y0.2.1)) (R (T.v (.int .i64 2)))
 (bA (Int×PUnit)
 (fun (X6:Int×PUnit→Prop) (s7:Int×PUnit) =>
 aB (decide (s7.1<a1))
 (aO aP (List.map aP.enc a0.2.2.2.2.1) s7.1
 fun (y8:cC) =>
 aG [(false,Sy.bool)]
 (eP
 [T.sl false (List.map Sy.str.enc y8.2.2.1),
 T.v (.string y4.1.1)])
 fun (y9:Bool) =>
 aB y9 (R (T.v (.int .i64 7)))
 (X6 (IntKind.i64.wrap (s7.1+1),())))
 (X1 (IntKind.i64.wrap (s2.1+1),())))
 (0,()))))
 (aG [(false,Sy.str),(false,Sy.bool)]
 (jU [aC true aL a0,T.v (.string y4.1.1)])
 fun (y10:ByteArray×Bool) =>
 aB (!decide (y10.1=y0.2.1)) (R (T.v (.int .i64 2)))
 (bA (Int×PUnit)
 (fun (X11:Int×PUnit→Prop) (s12:Int×PUnit) =>
 aB (decide (s12.1<a1))
 (aO aP (List.map aP.enc a0.2.2.2.2.1) s12.1
 fun (y13:cC) =>
 aG [(false,Sy.bool)]
 (eP
 [T.sl false (List.map Sy.str.enc y13.2.2.1),
 T.v (.string y4.1.1)])
 fun (y14:Bool) =>
 aB y14 (R (T.v (.int .i64 7)))
 (X11 (IntKind.i64.wrap (s12.1+1),())))
 (X1 (IntKind.i64.wrap (s2.1+1),())))
 (0,())))))
 (R (T.v (.int .i64 0))))
 (0,())
theorem AC6 ( a0 a1 R):bC aY Tryz.prog M4 AEE 8 87 [aC true aL a0,aC false (Sy.int IntKind.i64) a1] R=OC a0 a1 R:=by kernel_rfl
abbrev FF:Sh:=[(true,aL),(false,(Sy.int IntKind.i64))]
def DY (d:aF) (k:Nat) (b:ByteArray) (id:ByteArray):Int:=match partOf d id with
 | none=>8
 | some p=>if ¬ bG p=4∧¬ bG p=3 then 10 else if ¬ (fY d p.1).1=b then 2 else if ((d.2.2.2.2.1.take k).any fun q=>l7 (dE q) p.1)=true then 7 else 0
def KQ (d:aF) (k:Nat) (x:cC):Int:=bD (DY d k x.2.1) (dE x)
def uC (x:aF×Int):Option T:=match decide (0≤x.2),x.1.2.2.2.2.1[x.2.toNat]? with
 | true,some k=>rH x.1 (T.v (Value.int .i64 (KQ x.1 x.2.toNat k)))
 | _,_=>none
noncomputable def sM:List T→Option (T):=gS FF uC
theorem AGS {a0 a1}:sM [aC true aL a0,T.v (.int .i64 a1)]=uC (a0,a1):=a8 (s:=FF) rfl (a0,a1) rfl
theorem AUW (h:∀ a0 a1 r,uC (a0,a1)=some r→b8 FF (a0,a1)→OC a0 a1 (fun y=>y=r)):aK Tryz.prog 87 sM :=
 aR (E:=M4) (Hs:=AEE) AJ4 aW aX (aM rfl) 8 ⟨_,_,Tryz.func87,rfl⟩ rfl fun x r h1 h2=>by
  obtain ⟨a0,a1⟩:=x
  rw[show Sh.bN FF (a0,a1)=[aC true aL a0,aC false (Sy.int IntKind.i64) a1] from rfl,AC6]
  exact h a0 a1 r h1 h2
theorem ZG {d:aF} (u:UOk d) {id:ByteArray} {K:ByteArray×Bool→Prop} (h:K (fY d id)):aG [(false,Sy.str),(false,Sy.bool)] (jU [aC true aL d,T.v (.string id)]) K:=aD (s:=ABB) ((ZW ..).trans (A1F _ u.okD u.okK (AWE u.IL (by omega)))) h
theorem ATE:aK Tryz.prog 87 sM:=AUW fun d i r h hb=>by
 unfold uC at h
 split at h
 case h_2=>cases h
 rename_i y h0 hy
 have h0:0≤i:=of_decide_eq_true h0
 obtain ⟨k,rfl⟩:∃ k:Nat,i=(k:Int):=⟨i.toNat,by omega⟩
 obtain ⟨hu,rfl⟩:=lX h
 have u:UOk d:=rG hu
 clear h hb h0
 have hy:d.2.2.2.2.1[k]? = some y:=hy
 obtain ⟨hk,hy⟩:=List.getElem?_eq_some_iff.1 hy
 have hl:=u.kl y (hy ▸ List.getElem_mem hk)
 have hkl:=u.k
 unfold OC
 dsimp only
 rw[aT (r:=aP) hk,hy]
 show _
 refine fK (r:=.str) (DY d k y.2.1) (show (dE y).length≤_ by omega) (fun X s id hid hok hbad=>?_) fun h0=>?_
 ·have bad:∀ {n:Int},n≠0→DY d k y.2.1 id=n→T.v (.int .i64 n)=T.v (.int .i64 (KQ d k y)):=fun hn h=>by
   unfold KQ
   rw[hbad (by rw[h];exact hn),h]
  clear hbad
  refine x6 ?_
  cases hp:partOf d id with
  | none=>exact dM (fun _=>bad (by decide) (by unfold DY;rw[hp])) fun h=>Bool.noConfusion h
  | some p =>
   refine dM (fun h=>Bool.noConfusion h) fun _=>?_
   dsimp only[found]
   have w:DY d k y.2.1 id=if ¬ bG p=4∧¬ bG p=3 then 10 else if ¬ (fY d p.1).1=y.2.1 then 2 else if ((d.2.2.2.2.1.take k).any fun q=>l7 (dE q) p.1)=true then 7 else 0:=by unfold DY;rw[hp]
   have tail:¬ (¬ bG p=4∧¬ bG p=3)→aG [(false,Sy.str),(false,Sy.bool)] (jU [aC true aL d,T.v (.string p.1)])
     (fun (y5:ByteArray×Bool)=>aB (!decide (y5.1=y.2.1)) (T.v (.int .i64 2)=T.v (.int .i64 (KQ d k y)))
      (bA (Int×PUnit) (fun (X6:Int×PUnit→Prop) (s7:Int×PUnit)=>aB (decide (s7.1<(k:Int)))
       (aO aP (List.map aP.enc d.2.2.2.2.1) s7.1 fun (y8:cC)=>aG [(false,Sy.bool)] (eP [T.sl false (List.map Sy.str.enc y8.2.2.1),T.v (.string p.1)]) fun (y9:Bool) =>
        aB y9 (T.v (.int .i64 7)=T.v (.int .i64 (KQ d k y))) (X6 (IntKind.i64.wrap (s7.1+1),())))
       (X (IntKind.i64.wrap (s.1+1),()))) (0,()))):=by
    intro hkind
    rw[if_neg hkind] at w
    refine ZG u ?_
    refine gP (fun h=>bad (by decide) (by rw[w,if_pos h])) fun h=>?_
    rw[if_neg (fun h2=>h2 h)] at w
    refine aZ k (fun j s=>s=((j:Int),())∧∀ q∈d.2.2.2.2.1.take j,l7 (dE q) p.1=false) ⟨rfl,by simp⟩ ?_
    rintro Z j _ hj ⟨rfl,hall⟩ hZ
    dsimp only
    refine bL (fun hlt=>?_) fun hge=>?_
    ·have hlt:j<k:=by omega
     have hjl:j<d.2.2.2.2.1.length:=by omega
     have ht:d.2.2.2.2.1.take (j+1)=d.2.2.2.2.1.take j++[d.2.2.2.2.1[j]]:=List.take_succ_eq_append_getElem hjl
     rw[aT (r:=aP) hjl]
     refine aD (s:=x7) (y:=l7 (dE d.2.2.2.2.1[j]) p.1) (CN ..) ?_
     refine rS (fun h=>bad (by decide) ?_) fun h=>hZ _ hlt ⟨?_,fun q hq=>?_⟩
     ·rw[w,if_pos]
      refine List.any_eq_true.2 ⟨d.2.2.2.2.1[j],?_,h⟩
      exact List.mem_take_iff_getElem.2 ⟨j,by omega,rfl⟩
     ·rw[show IntKind.i64.wrap ((j:Int)+1)=((j+1:Nat):Int) from aS _ (by omega) (by omega)]
     ·rw[ht] at hq
      rcases List.mem_append.1 hq with hq|hq
      ·exact hall q hq
      ·rw[List.mem_singleton.1 hq];exact h
    ·have hjk:j=k:=by omega
     subst hjk
     refine hok ?_
     rw[w,if_neg]
     intro h
     obtain ⟨q,hq,h⟩:=List.any_eq_true.1 h
     rw[hall q hq] at h;cases h
   refine gP (fun h4=>gP (fun h3=>bad (by decide) ?_) fun h3=>tail fun h=>h.2 h3) fun h4=>tail fun h=>h.1 h4
   rw[w,if_pos ⟨h4,h3⟩]
 ·show _=T.v (.int .i64 (KQ d k y))
  unfold KQ
  rw[h0]
theorem inst_eq {d:aF} (v:VOk d) {k:Nat} {b:ByteArray}:∀ {l S:List ByteArray},l.Nodup→(∀ id∈l,id∈S↔((d.2.2.2.2.1.take k).any fun q=>l7 (dE q) id)=true)→(instE d b l S).1=bD (DY d k b) l∧((instE d b l S).1=0→∀ id,id∈(instE d b l S).2↔id∈S∨id∈l)
 | [],S,_,_=>⟨rfl,fun _ id=>by simp[instE]⟩
 | a::l,S,hn,hS=>by
  obtain ⟨n1,n2⟩:=List.pairwise_cons.1 hn
  have hc:DY d k b a=match partOf d a with
   | none=>8
   | some p=>if ¬ bG p=4∧¬ bG p=3 then 10 else if ¬ (fY d p.1).1=b then 2 else if ((d.2.2.2.2.1.take k).any fun q=>l7 (dE q) p.1)=true then 7 else 0:=rfl
  rw[instE,bD]
  cases hp:partOf d a with
  | none =>
   rw[hp] at hc
   have hc:DY d k b a=8:=hc
   rw[hc];exact ⟨by show (8:Int)=_;rw[if_neg (by decide)],fun h=>by cases h⟩
  | some p =>
   rw[hp] at hc
   obtain ⟨e1,e2⟩:=ASO v (b:=b) hp
   dsimp only at hc ⊢
   by_cases c1:¬ bG p=4∧¬ bG p=3
   ·rw[if_pos c1] at hc ⊢;rw[hc];exact ⟨by rw[if_neg (by decide)],fun h=>by cases h⟩
   rw[if_neg c1] at hc ⊢
   by_cases c2:(up d (eY p)).1.getLast? = some b
   ·rw[if_neg (fun h=>h (e2.2 c2))] at hc
    rw[if_pos c2]
    rw[e1] at hc
    have hm:=hS a (by simp)
    by_cases c3:l7 S a=true
    ·rw[if_pos (hm.1 (iK.1 c3))] at hc
     rw[if_pos c3,hc];exact ⟨by rw[if_neg (by decide)],fun h=>by cases h⟩
    ·rw[if_neg (fun h=>c3 (iK.2 (hm.2 h)))] at hc
     rw[if_neg c3,hc,if_pos rfl]
     obtain ⟨r1,r2⟩:=inst_eq v (k:=k) (b:=b) (l:=l) (S:=a::S) n2 fun id hid=>by
      rw[←hS id (List.mem_cons_of_mem _ hid)]
      exact ⟨fun h=>(List.mem_cons.1 h).resolve_left fun e=>n1 id hid e.symm,fun h=>List.mem_cons_of_mem _ h⟩
     refine ⟨r1,fun h id=>?_⟩
     rw[r2 h id]
     simp only[List.mem_cons]
     exact ⟨fun h=>h.elim (fun h=>h.elim (fun h=>.inr (.inl h)) .inl) fun h=>.inr (.inr h),fun h=>h.elim (fun h=>.inl (.inr h)) fun h=>h.elim (fun h=>.inl (.inl h)) .inr⟩
   ·rw[if_pos (fun h=>c2 (e2.1 h))] at hc
    rw[if_neg c2,hc];exact ⟨by rw[if_neg (by decide)],fun h=>by cases h⟩
theorem R6 {l:List aJ} {n:Nat}:∀ {f:Nat} {o:List Int} {t:List Bool},(p7 l n f o t).2=0∨(p7 l n f o t).2=20
 | 0,o,t=>.inl rfl
 | f+1,o,t=>by
  rw[p7]
  cases (List.range n).find? (pK l t) with
  | none=>exact .inr rfl
  | some v=>exact R6 (f:=f)
theorem uS {α:Type} {f:α→Int}:∀ {l:List α},(∀ a∈l,f a=0)→bD f l=0
 | [],_=>rfl
 | a::l,h=>by rw[bD,if_pos (h a (by simp))];exact uS fun b hb=>h b (by simp[hb])
theorem A6E {d:aF} {k id:ByteArray} {i j:Nat} (hi:i<d.2.2.2.2.1.length) (hj:j<d.2.2.2.2.1.length) (hk:d.2.2.2.2.1[i].1=k) (h:d.2.2.2.2.1[j].1=id) (hne:¬ id=k):j≠i:=by
 intro e;subst e;exact hne (h.symm.trans hk)
theorem A3V {α:Type} {l:List (ByteArray×α)} {n:Nat} (h:n<(ids l).length):(ids l)[n]=(l[n]'(by unfold ids at h;rw[List.length_map] at h;exact h)).1:=by simp only[ids,List.getElem_map]
theorem A3W {α:Type} {l:List (ByteArray×α)} (hn:(ids l).Nodup) {i j:Nat} (hi:i<l.length) (hj:j<l.length) (h:l[i].1=l[j].1):i=j:=by
 have li:∀ {m:Nat},m<l.length→m<(ids l).length:=fun h=>by unfold ids;rw[List.length_map];exact h
 have h2:(ids l)[i]'(li hi)=(ids l)[j]'(li hj):=by simp only[ids,List.getElem_map];exact h
 have hp:=List.pairwise_iff_getElem.1 hn
 rcases Nat.lt_trichotomy i j with h3|h3|h3
 ·exact absurd h2 (hp i j (li hi) (li hj) h3)
 ·exact h3
 ·exact absurd h2.symm (hp j i (li hj) (li hi) h3)
noncomputable def GZ:Env:=Env.of [(79,.pure dK),(86,.pure cD),(77,.pure iX),(87,.pure sM),(14,.pure eP),(76,.pure iO),(88,.new oY)]
def UG:FuncId→Hint:=fun f=>match f == 35 with|true=>⟨fun r=>match r == 4 with|true=>.inv [.own 4 2 (.pr (.int .i64) (.int .i64)),.val 5 false (.int .i64)]|false=>match r == 19 with|true=>.inv [.own 4 2 (.pr (.int .i64) (.int .i64)),.val 8 false (.int .i64)]|false=>match r == 26 with|true=>.inv [.own 4 2 (.pr (.int .i64) (.int .i64)),.val 9 false (.int .i64)]|false=>.none,fun _ _=>none,fun _=>none⟩|false=>aV
theorem ACL:aH Tryz.prog GZ:=aH.cons (x:=.pure dK) yX (aH.cons (x:=.pure cD) QN (aH.cons (x:=.pure iX) AF7 (aH.cons (x:=.pure sM) ATE (aH.cons (x:=.pure eP) QM (aH.cons (x:=.pure iO) QO (aH.cons (x:=.new oY) AMR (aH.nil _)))))))
def HS (a0:aF) (R:T→Prop):Prop :=
 aG [(true,Sy.str.li.pr (Sy.str.li.pr (Sy.str.li.pr Sy.str.li)))]
 (iO [aC true aL a0])
 fun (y0:List ByteArray×List ByteArray×List ByteArray×List ByteArray) =>
 bA (List aJ×Int×PUnit)
 (fun (X1:List aJ×Int×PUnit→Prop) (s2:List aJ×Int×PUnit) =>
 aB (decide (s2.2.1<(↑(List.map aP.enc a0.2.2.2.2.1).length:Int)))
 (aO aP (List.map aP.enc a0.2.2.2.2.1) s2.2.1
 fun (y3:cC) =>
 aG [(false,Sy.bool)] (dK [T.v (.string y3.1)]) fun (y4:Bool) =>
 aB (!y4) (R (T.v (.int .i64 6)))
 (aG [(false,Sy.bool)]
 (cD [aC true aL a0,T.v (.string y3.2.1)])
 fun (y5:Bool) =>
 aB (!y5) (R (T.v (.int .i64 8)))
 (aB (decide (y3.2.2.2.1<1)) (R (T.v (.int .i64 9)))
 (aB (decide (10000<y3.2.2.2.1)) (R (T.v (.int .i64 9)))
 (aG [(false,Sy.bool)]
 (iX [T.sl false (List.map Sy.str.enc y3.2.2.1)]) fun (y6:Bool) =>
 aB (!y6) (R (T.v (.int .i64 11)))
 (aG [(false,Sy.bool)]
 (iX [T.sl false (List.map Sy.str.enc y3.2.2.2.2)])
 fun (y7:Bool) =>
 aB (!y7) (R (T.v (.int .i64 11)))
 (aG [(false,Sy.int IntKind.i64)]
 (sM
 [aC true aL a0,
 T.v (.int .i64 s2.2.1)])
 fun (y8:Int) =>
 aB (!decide (y8=0)) (R (T.v (.int .i64 y8)))
 (b6 aA (List.map aA.enc s2.1)
 fun (y9:List aJ) =>
 bA (List aJ×Int×PUnit)
 (fun (X10:List aJ×Int×PUnit→Prop)
 (s11:List aJ×Int×PUnit) =>
 aB
 (decide
 (s11.2.1 <
 (↑(List.map Sy.str.enc y3.2.2.2.2).length:Int)))
 (aO Sy.str (List.map Sy.str.enc y3.2.2.2.2)
 s11.2.1 fun (y12:ByteArray) =>
 aB (decide (y12=y3.1))
 (R (T.v (.int .i64 2)))
 (aO Sy.str (List.map Sy.str.enc y3.2.2.2.2)
 s11.2.1 fun (y13:ByteArray) =>
 aG [(false,Sy.bool)]
 (eP
 [T.sl false (List.map Sy.str.enc y0.2.2.2),
 T.v (.string y13)])
 fun (y14:Bool) =>
 aB (!y14) (R (T.v (.int .i64 8)))
 (b6 aA (List.map aA.enc s11.1)
 fun (y15:List aJ) =>
 bA (List aJ×Int×PUnit)
 (fun (X16:List aJ×Int×PUnit→Prop)
 (s17:List aJ×Int×PUnit) =>
 aB
 (decide
 (s17.2.1 <
 (↑(List.map Sy.str.enc y0.2.2.2).length :
 Int)))
 (aO Sy.str
 (List.map Sy.str.enc y0.2.2.2) s17.2.1
 fun (y18:ByteArray) =>
 aO Sy.str
 (List.map Sy.str.enc y3.2.2.2.2)
 s11.2.1 fun (y19:ByteArray) =>
 aB (decide (y18=y19))
 (bP
 (decide
 (((List.map aA.enc s17.1).length +
 1) *
 16 ≤
 140737488355328) &&
 decide
 ((List.map aA.enc s17.1).length +
 1 ≤
 140737488355328))
 (b6 aA
 (List.map aA.enc s17.1 ++
 [[T.v
 (Value.int IntKind.i64 s17.2.1),
 T.v
 (Value.int IntKind.i64
 s2.2.1)]])
 fun (y20:List aJ) =>
 X16
 (y20,IntKind.i64.wrap (s17.2.1+1),
 ())))
 (b6 aA
 (List.map aA.enc s17.1)
 fun (y21:List aJ) =>
 X16
 (y21,IntKind.i64.wrap (s17.2.1+1),())))
 (b6 aA (List.map aA.enc s17.1)
 fun (y22:List aJ) =>
 X10 (y22,IntKind.i64.wrap (s11.2.1+1),())))
 (y15,0,()))))
 (b6 aA (List.map aA.enc s11.1)
 fun (y23:List aJ) =>
 X1 (y23,IntKind.i64.wrap (s2.2.1+1),())))
 (y9,0,())))))))))
 (aG [(false,(Sy.int IntKind.i64).li),(false,Sy.int IntKind.i64)]
 (oY
 [T.v
 (Value.int IntKind.i64 (↑(List.map aP.enc a0.2.2.2.2.1).length:Int)),
 T.sl false (List.map aA.enc s2.1)])
 fun (y24:List Int×Int)=>R (T.v (.int .i64 y24.2))))
 ([],0,())
theorem YN ( a0 R):bC aY Tryz.prog GZ UG 8 35 [aC true aL a0] R=HS a0 R:=by kernel_rfl
abbrev AB:Sh:=[(true,aL)]
def qE (d:aF):Option T:=match okV d with
 | true=>some (T.v (Value.int .i64 (c9 d)))
 | false=>none
noncomputable def oZ:List T→Option (T):=gS AB qE
theorem AAA {a0}:oZ [aC true aL a0]=qE (a0):=a8 (s:=AB) rfl (a0) rfl
theorem AOF (h:∀ a0 r,qE (a0)=some r→b8 AB (a0)→HS a0 (fun y=>y=r)):aK Tryz.prog 35 oZ :=
 aR (E:=GZ) (Hs:=UG) ACL aW aX (aM rfl) 8 ⟨_,_,Tryz.func35,rfl⟩ rfl fun x r h1 h2=>by
  let a0:=x
  rw[show Sh.bN AB (a0)=[aC true aL a0] from rfl,YN]
  exact h a0 r h1 h2
theorem ANM {l:List ByteArray} {x:ByteArray} {K:Bool→Prop} (h:K (l7 l x)):aG [(false,Sy.bool)] (eP [T.sl false (List.map Sy.str.enc l),T.v (.string x)]) K:=aD (s:=x7) (y:=l7 l x) (CN ..) h
theorem PW {l:List ByteArray} {K:Bool→Prop} (hl:l.length≤1000) (h:K (lL l)):aG [(false,Sy.bool)] (iX [T.sl false (List.map Sy.str.enc l)]) K:=aD (s:=x7) (y:=lL l) ((pM ..).trans (eH _ (by omega))) h
theorem dkp {l:List aJ} {rows:List (List T)} {K:List aJ→Prop} (e:rows=List.map aA.enc l) (h:K l):b6 aA rows K:=by
 subst e;rw[dT (r:=aA) rfl];exact h
theorem AMS:aK Tryz.prog 35 oZ:=AOF fun d r h hb=>by
 unfold qE at h
 split at h
 case h_2=>cases h
 rename_i hv
 cases h
 have v:=A4S hv
 have u:=v.u
 have hu:okU d=true:=by simp only[okV,Bool.and_eq_true] at hv;exact hv.1
 have hlong:=v.long
 have hnd:=IE v.BAR
 clear hb hv
 have is:∀ {n:Int},c9 d=n→T.v (.int .i64 n)=T.v (.int .i64 (c9 d)):=fun h=>by rw[h]
 unfold HS
 refine aD (s:=q4) (EF hu) ?_
 refine aZ d.2.2.2.2.1.length (fun k s=>s.2.1=(k:Int)∧s.1.length≤k*1000∧(∀ e∈s.1,nM d.2.2.2.2.1.length e=0)∧∃ S,(∀ id,id∈S↔((d.2.2.2.2.1.take k).any fun q=>l7 (dE q) id)=true)∧gE d (d.2.2.2.2.1.drop k) k s.1 S=gE d d.2.2.2.2.1 0 [] []) ⟨rfl,by simp,by simp,[],by simp,rfl⟩ ?_
 rintro X k ⟨E,i,w⟩ hk ⟨rfl,hEl,hE,S,hS,hr⟩ hX
 dsimp only at hEl hE hr ⊢
 refine bL (fun hlt=>?_) fun hge=>?_
 ·rw[List.length_map] at hlt
  have hlt:k<d.2.2.2.2.1.length:=by omega
  rw[aT (r:=aP) hlt]
  have hd:d.2.2.2.2.1.drop k=d.2.2.2.2.1[k]::d.2.2.2.2.1.drop (k+1):=List.drop_eq_getElem_cons hlt
  have ht:d.2.2.2.2.1.take (k+1)=d.2.2.2.2.1.take k++[d.2.2.2.2.1[k]]:=List.take_succ_eq_append_getElem hlt
  have hkl:=u.kl _ (List.getElem_mem hlt)
  have hki:=u.kI _ (List.getElem_mem hlt)
  have hget:d.2.2.2.2.1[k]? = some d.2.2.2.2.1[k]:=List.getElem?_eq_getElem hlt
  generalize hy:d.2.2.2.2.1[k]=y at hd ht hkl hki hget
  rw[hd,gE] at hr
  have bad:∀ {n:Int},n≠0→(gE d d.2.2.2.2.1 0 [] []).1=n→T.v (.int .i64 n)=T.v (.int .i64 (c9 d)):=fun hn h=>is (by unfold c9;rw[if_neg (by rw[h];exact hn),h])
  have badH:∀ {n:Int},n≠0→jM d y=n→T.v (.int .i64 n)=T.v (.int .i64 (c9 d)):=fun hn h=>bad hn (by rw[←hr,if_pos (by rw[h];exact hn),h])
  refine nO hki ?_
  refine dM (fun h=>badH (by decide) (by unfold jM;rw[if_pos h])) fun i1=>?_
  have n1:¬ gX y.1=false:=by rw[show gX y.1=true from i1];exact Bool.noConfusion
  refine RA ?_
  refine dM (fun h=>badH (by decide) (by unfold jM;rw[if_neg n1,if_pos h])) fun i2=>?_
  have n2:¬ lU d y.2.1=false:=by rw[show lU d y.2.1=true from i2];exact Bool.noConfusion
  refine bL (fun h=>badH (by decide) (by unfold jM;rw[if_neg n1,if_neg n2,if_pos (.inl h)])) fun h1=>?_
  refine bL (fun h=>badH (by decide) (by unfold jM;rw[if_neg n1,if_neg n2,if_pos (.inr h)])) fun h2=>?_
  have n3:¬ (I5 y<1∨10000<I5 y):=fun h=>h.elim h1 h2
  refine PW hkl.1 ?_
  refine dM (fun h=>badH (by decide) (by unfold jM;rw[if_neg n1,if_neg n2,if_neg n3,if_pos (.inl h)])) fun a1=>?_
  refine PW hkl.2 ?_
  refine dM (fun h=>badH (by decide) (by unfold jM;rw[if_neg n1,if_neg n2,if_neg n3,if_pos (.inr h)])) fun a2=>?_
  have h0:jM d y=0:=by
   unfold jM;rw[if_neg n1,if_neg n2,if_neg n3,if_neg]
   rw[show lL (dE y)=true from a1,show lL (cH y)=true from a2];decide
  clear badH n1 n2 n3 i1 i2 h1 h2
  rw[if_neg (fun h=>h h0)] at hr
  obtain ⟨q1,q2⟩:=inst_eq v (k:=k) (b:=y.2.1) (l:=dE y) (S:=S) (IE a1) fun id _=>hS id
  refine aD (s:=[(false,.int .i64)]) (y:=KQ d k y) ((AGS ..).trans ?_) ?_
  ·unfold uC
   dsimp only
   rw[decide_eq_true (show (0:Int)≤(k:Int) by omega),Int.toNat_natCast,hget]
   exact lY _ hu
  refine gP (fun h=>bad h (by rw[←hr,if_pos (by rw[q1];exact h),q1];rfl)) fun hc=>?_
  have hc:(instE d y.2.1 (dE y) S).1=0:=q1.trans hc
  rw[if_neg (fun h=>h hc)] at hr
  refine dkp (l:=E) rfl ?_
  refine aZ (cH y).length (fun j s=>s.2.1=(j:Int)∧s.1.length≤k*1000+j∧(∀ e∈s.1,nM d.2.2.2.2.1.length e=0)∧wP d y.1 k ((cH y).drop j) s.1=wP d y.1 k (cH y) E) ⟨rfl,by simpa using hEl,hE,rfl⟩ ?_
  rintro Y j ⟨F,i,w⟩ hj ⟨rfl,hFl,hF,ha⟩ hY
  dsimp only at hFl hF ha ⊢
  refine bL (fun hlj=>?_) fun hgj=>?_
  ·rw[List.length_map] at hlj
   have hlj:j<(cH y).length:=by
    have:(j:Int)<((cH y).length:Int):=hlj
    omega
   rw[aT (r:=.str) (l:=cH y) hlj]
   have hdj:(cH y).drop j=(cH y)[j]::(cH y).drop (j+1):=List.drop_eq_getElem_cons hlj
   rw[hdj,wP] at ha
   generalize hid:(cH y)[j]=id at ha
   have badA:∀ {n:Int},n≠0→(wP d y.1 k (cH y) E).1=n→T.v (.int .i64 n)=T.v (.int .i64 (c9 d)):=fun hn h=>bad hn (by rw[←hr,if_pos (by rw[h];exact hn),h])
   refine bL (fun h=>badA (by decide) (by rw[←ha,if_pos h])) fun hne=>?_
   rw[if_neg hne] at ha
   rw[aT (r:=.str) (l:=cH y) hlj,hid]
   refine ANM ?_
   rcases xN id d.2.2.2.2.1 with ⟨g1,g2⟩|⟨m,hm,g1,g2⟩
   ·rw[g1] at ha
    have hno:l7 (ids d.2.2.2.2.1) id=false:=by
     rw[Bool.eq_false_iff]
     intro h
     obtain ⟨q,hq,e⟩:=List.mem_map.1 (iK.1 h)
     have:=List.find?_eq_none.1 g2 q hq
     simp[e] at this
    exact dM (fun _=>badA (by decide) (by rw[←ha])) fun h=>absurd (hno.symm.trans h) Bool.noConfusion
   ·rw[g1] at ha
    dsimp only at ha
    have hm1:d.2.2.2.2.1[m].1=id:=(uR g2).2
    have hyes:l7 (ids d.2.2.2.2.1) id=true:=iK.2 (hm1 ▸ List.mem_map.2 ⟨_,List.getElem_mem hm,rfl⟩)
    refine dM (fun h=>absurd (hyes.symm.trans h) Bool.noConfusion) fun _=>?_
    refine dkp (l:=F) rfl ?_
    have hli:(ids d.2.2.2.2.1).length=d.2.2.2.2.1.length:=by unfold ids;rw[List.length_map]
    refine aZ (ids d.2.2.2.2.1).length (fun n s=>s=(F++(if m<n then [((m:Int),(k:Int))] else []),(n:Int),())) (by simp) ?_
    rintro Z n _ hn rfl hZ
    dsimp only
    have hFn:(F++(if m<n then [((m:Int),(k:Int))] else [])).length≤100000:=by
     have:(if m<n then [((m:Int),(k:Int))] else []).length≤1:=by split<;>simp
     rw[List.length_append];omega
    refine bL (fun hln=>?_) fun hgn=>?_
    ·rw[List.length_map] at hln
     have hln:n<(ids d.2.2.2.2.1).length:=by
      have:(n:Int)<((ids d.2.2.2.2.1).length:Int):=hln
      omega
     have hwn:IntKind.i64.wrap ((n:Int)+1)=((n+1:Nat):Int):=aS _ (by omega) (by omega)
     rw[aT (r:=.str) (l:=(ANR d).2.2.2) hln,aT (r:=.str) (l:=cH y) hlj,hid]
     have hnn:(ids d.2.2.2.2.1)[n]=d.2.2.2.2.1[n].1:=A3V hln
     refine bL (fun he=>?_) fun he=>?_
     ·have hnm:n=m:=A3W hnd (by omega) hm (hnn.symm.trans (he.trans hm1.symm))
      subst hnm
      refine ⟨by simp only[List.length_map,Bool.and_eq_true,decide_eq_true_eq];omega,?_⟩
      refine dkp (l:=F++[((n:Int),(k:Int))]) ?_ (hZ _ hln ?_)
      ·rw[if_neg (by omega),List.append_nil,List.map_append];rfl
      ·rw[if_pos (by omega),hwn]
     ·have hnm:n≠m:=fun e=>he (by subst e;exact hnn.trans hm1)
      refine dkp rfl (hZ _ hln ?_)
      rw[hwn]
      by_cases hc:m<n
      ·rw[if_pos hc,if_pos (by omega)]
      ·rw[if_neg hc,if_neg (by omega)]
    ·rw[List.length_map] at hgn
     have hgn:n=d.2.2.2.2.1.length:=by
      have:¬ (n:Int)<((ids d.2.2.2.2.1).length:Int):=hgn
      omega
     refine dkp rfl (hY _ hlj ⟨?_,?_,fun e he=>?_,?_⟩)
     ·show IntKind.i64.wrap ((j:Int)+1)=_
      rw[aS]<;>omega
     ·show (F++(if m<n then [((m:Int),(k:Int))] else [])).length≤_
      rw[if_pos (by omega),List.length_append];simp only[List.length_cons,List.length_nil];omega
     ·have he:e∈F++(if m<n then [((m:Int),(k:Int))] else []):=he
      rw[if_pos (by omega)] at he
      rcases List.mem_append.1 he with he|he
      ·exact hF e he
      ·rw[List.mem_singleton.1 he]
       have hmk:m≠k:=A6E (i:=k) (j:=m) hlt hm (by rw[hy]) hm1 hne
       unfold nM
       rw[if_neg (by dsimp only;omega),if_neg (by dsimp only;omega)]
     ·show wP d y.1 k ((cH y).drop (j+1)) (F++(if m<n then [((m:Int),(k:Int))] else []))=_
      rw[if_pos (by omega)];exact ha
  ·rw[List.length_map] at hgj
   have hgj:j=(cH y).length:=by
    have:¬ (j:Int)<((cH y).length:Int):=hgj
    omega
   subst hgj
   rw[List.drop_length,wP] at ha
   rw[←ha,if_neg (fun h=>h rfl)] at hr
   refine dkp rfl (hX _ hlt ⟨?_,?_,hF,(instE d y.2.1 (dE y) S).2,fun id=>?_,?_⟩)
   ·show IntKind.i64.wrap ((k:Int)+1)=_
    rw[aS]<;>omega
   ·show F.length≤_
    omega
   ·rw[q2 hc id,hS id,ht,List.any_append]
    simp only[List.any_cons,List.any_nil,Bool.or_false,Bool.or_eq_true,iK]
   ·rw[←hr];rfl
 ·rw[List.length_map] at hge
  have hkl:k=d.2.2.2.2.1.length:=by omega
  subst hkl
  rw[List.drop_length,gE] at hr
  have h0:bD (nM d.2.2.2.2.1.length) E=0:=uS hE
  have hEb:E.length≤140737488355328:=by omega
  rw[List.length_map]
  refine aD (s:=mV) (y:=dJ d.2.2.2.2.1.length E) ((Z9 ..).trans (eH _ hEb)) (is ?_)
  unfold c9
  rw[←hr,if_pos rfl]
  rcases (show (dJ d.2.2.2.2.1.length E).2=0∨(dJ d.2.2.2.2.1.length E).2=20 by
   rw[R0 hEb (by omega) (by omega) h0];exact R6) with h|h
  ·rw[if_pos h,h]
  ·rw[if_neg (by rw[h];decide),h]
end Go.Pv
namespace Go.Pv
open Go Go.Proofs
noncomputable def W6:Env:=Env.of [(30,.pure sP),(31,.pure sN),(32,.pure oX),(33,.pure mJ),(34,.pure o5),(35,.pure oZ),(36,.pure oW)]
def APN:FuncId→Hint:=fun _=>aV
theorem ARU:aH Tryz.prog W6:=aH.cons (x:=.pure sP) ATL (aH.cons (x:=.pure sN) ATH (aH.cons (x:=.pure oX) AMQ (aH.cons (x:=.pure mJ) AF9 (aH.cons (x:=.pure o5) AMY (aH.cons (x:=.pure oZ) AMS (aH.cons (x:=.pure oW) AMP (aH.nil _)))))))
def XU (a0:aF) (a1:aN) (R:T→Prop):Prop :=
 aG [(false,Sy.int IntKind.i64)] (sP [aC true aE a1])
 fun (y0:Int) =>
 aB (!decide (y0=0)) (R (T.v (.int .i64 y0)))
 (aG [(false,Sy.int IntKind.i64)] (sN [aC true aL a0])
 fun (y1:Int) =>
 aB (!decide (y1=0)) (R (T.v (.int .i64 y1)))
 (aG [(false,Sy.int IntKind.i64)] (oX [aC true aL a0])
 fun (y2:Int) =>
 aB (!decide (y2=0)) (R (T.v (.int .i64 y2)))
 (aG [(false,Sy.int IntKind.i64)]
 (mJ [aC true aL a0,aC true aE a1])
 fun (y3:Int) =>
 aB (!decide (y3=0)) (R (T.v (.int .i64 y3)))
 (aG [(false,Sy.int IntKind.i64)] (o5 [aC true aL a0])
 fun (y4:Int) =>
 aB (!decide (y4=0)) (R (T.v (.int .i64 y4)))
 (aG [(false,Sy.int IntKind.i64)]
 (oZ [aC true aL a0]) fun (y5:Int) =>
 aB (!decide (y5=0)) (R (T.v (.int .i64 y5)))
 (aG [(false,Sy.int IntKind.i64)]
 (oW [aC true aL a0]) fun (y6:Int) =>
 R (T.v (.int .i64 y6))))))))
theorem AK7 ( a0 a1 R):bC aY Tryz.prog W6 APN 8 10 [aC true aL a0,aC true aE a1] R=XU a0 a1 R:=by kernel_rfl
abbrev MF:Sh:=[(true,aL),(true,aE)]
def SK (x:aF×aN):Option T:=rH x.1 (T.v (Value.int .i64 (iH x.1 x.2)))
noncomputable def uX:List T→Option (T):=gS MF SK
theorem AM7 {a0 a1}:uX [aC true aL a0,aC true aE a1]=SK (a0,a1):=a8 (s:=MF) rfl (a0,a1) rfl
theorem A0X (h:∀ a0 a1 r,SK (a0,a1)=some r→b8 MF (a0,a1)→XU a0 a1 (fun y=>y=r)):aK Tryz.prog 10 uX :=
 aR (E:=W6) (Hs:=APN) ARU aW aX (aM rfl) 8 ⟨_,_,Tryz.func10,rfl⟩ rfl fun x r h1 h2=>by
  obtain ⟨a0,a1⟩:=x
  rw[show Sh.bN MF (a0,a1)=[aC true aL a0,aC true aE a1] from rfl,AK7]
  exact h a0 a1 r h1 h2
theorem AY3:aK Tryz.prog 10 uX:=A0X fun d m r h hb=>by
 obtain ⟨hu,rfl⟩:=lX h
 replace hu:okU d=true:=hu
 clear h hb
 have is:∀ {n:Int},iH d m=n→T.v (.int .i64 n)=T.v (.int .i64 (iH d m)):=fun h=>by rw[h]
 unfold XU
 refine aD (s:=[(false,.int .i64)]) (y:=kQ m) (AG5 ..) ?_
 refine gP (fun h=>is (by unfold iH;rw[if_pos h])) fun h0=>?_
 have hm:=AQR h0
 have n0:¬ ¬ kQ m=0:=fun h=>h h0
 refine aD (s:=[(false,.int .i64)]) (y:=if isName d.1=false then 6 else dZ d) ((AGV ..).trans (lY _ hu)) ?_
 by_cases hn:isName d.1=false
 ·rw[if_pos hn]
  exact gP (fun h=>is (by unfold iH;rw[if_neg n0,if_pos hn])) fun h=>by cases h
 rw[if_neg hn]
 refine gP (fun h=>is (by unfold iH;rw[if_neg n0,if_neg hn,if_pos h])) fun h1=>?_
 have n2:¬ ¬ dZ d=0:=fun h=>h h1
 refine aD (s:=[(false,.int .i64)]) (y:=dF d) ((Z8 ..).trans (lY _ hu)) ?_
 refine gP (fun h=>is (by unfold iH;rw[if_neg n0,if_neg hn,if_neg n2,if_pos h])) fun h2=>?_
 have n3:¬ ¬ dF d=0:=fun h=>h h2
 refine aD (s:=[(false,.int .i64)]) (y:=eC d m) ((TM ..).trans (by unfold nX;dsimp only;rw[hm];exact lY _ hu)) ?_
 refine gP (fun h=>is (by unfold iH;rw[if_neg n0,if_neg hn,if_neg n2,if_neg n3,if_pos h])) fun h3=>?_
 have n4:¬ ¬ eC d m=0:=fun h=>h h3
 have hv:okV d=true:=by
  simp only[okV,Bool.and_eq_true,decide_eq_true_eq,List.all_eq_true]
  refine ⟨hu,h1,h2,fun p hp=>?_⟩
  have h0:bD (dD d m) d.2.2.1=0:=by
   unfold eC at h3
   split at h3
   ·assumption
   ·exact h3
  have h4:=lP h0 p hp
  unfold dD at h4
  by_cases hp0:eA p m=0
  ·rw[if_pos hp0] at h4
   cases hc:cB d (eY p) with
   | some n=>rfl
   | none=>rw[hc] at h4;cases h4
  ·rw[if_neg hp0] at h4;exact absurd h4 hp0
 refine aD (s:=[(false,.int .i64)]) (y:=bD (jA d) d.2.2.2.1) ((AAK ..).trans (lY _ hu)) ?_
 refine gP (fun h=>is (by unfold iH;rw[if_neg n0,if_neg hn,if_neg n2,if_neg n3,if_neg n4,if_pos h])) fun h4=>?_
 have n5:¬ ¬ bD (jA d) d.2.2.2.1=0:=fun h=>h h4
 refine aD (s:=[(false,.int .i64)]) (y:=c9 d) ((AAA ..).trans (by unfold qE;rw[hv];rfl)) ?_
 refine gP (fun h=>is (by unfold iH;rw[if_neg n0,if_neg hn,if_neg n2,if_neg n3,if_neg n4,if_neg n5,if_pos h])) fun h5=>?_
 have n6:¬ ¬ c9 d=0:=fun h=>h h5
 refine aD (s:=[(false,.int .i64)]) (y:=bD (hU d) d.2.2.2.2.2) ((Z7 ..).trans (lY _ hu)) ?_
 exact is (by unfold iH;rw[if_neg n0,if_neg hn,if_neg n2,if_neg n3,if_neg n4,if_neg n5,if_neg n6])
theorem AL5 {d:aF} {m:aN} {K:Int→Prop} (hu:okU d=true) (h:K (iH d m)):aG [(false,Sy.int IntKind.i64)] (uX [aC true aL d,aC true aE m]) K:=aD (s:=[(false,.int .i64)]) ((AM7 ..).trans (lY _ hu)) h
end Go.Pv
namespace Go.Pv
open Go Go.Proofs
theorem AY1 {d:aF} {n:Int} {K:Bool→Prop} (h:K (IL d n)):aG [(false,Sy.bool)] (QY [aC true aL d,T.v (.int .i64 n)]) K:=aD (s:=x7) (AZH ..) h
theorem CF {K:Bool→Prop} (h:K true):aG [(false,Sy.bool)] (dB []) K:=by rw[QX];exact h
theorem AY2 {d:aF} {a b:Int} (hab:a≤b) (h:IL d a=true):IL d b=true:=by
 simp only[IL,Bool.and_eq_true,List.all_eq_true,decide_eq_true_eq] at h ⊢
 obtain ⟨⟨⟨⟨⟨h1,h2⟩,h3⟩,h4⟩,h5⟩,h6⟩:=h
 exact ⟨⟨⟨⟨⟨by omega,by omega⟩,by omega⟩,by omega⟩,by omega⟩,fun k hk=>by have:=h6 k hk;omega⟩
theorem A4N {d:aF} (h:A0 (2 ^ 40) aL d):okD d=true:=by
 refine List.all_eq_true.2 fun p hp=>?_
 obtain ⟨_,_,⟨_,_,h3⟩,_⟩:=h
 have h4:=h3 p hp
 obtain ⟨_,_,_,_,_,_,⟨⟨h5,h6,_⟩,h7,h8,h9⟩,_⟩:=h4
 unfold A1B AQ3 RR
 simp only[Bool.and_eq_true,decide_eq_true_eq,List.all_eq_true]
 have up:∀ {n:Nat},n≤2 ^ 40→n≤140737488355328:=fun h=>by omega
 refine ⟨⟨⟨?_,?_⟩,?_,?_⟩,fun q hq=>?_⟩
 ·exact up h5
 ·exact up h6
 ·exact up h7
 ·exact up h8
 ·obtain ⟨g1,g2,_⟩:=h9 q hq
  exact ⟨up g1,up g2⟩
theorem A4P {d:aF} (h:A0 (2 ^ 40) aL d):okK d=true:=by
 refine List.all_eq_true.2 fun p hp=>?_
 obtain ⟨_,_,_,_,⟨_,_,h3⟩,_⟩:=h
 obtain ⟨_,_,⟨h5,h6,_⟩,_,⟨h7,h8,_⟩⟩:=h3 p hp
 unfold A1A RR
 have up:∀ {n:Nat},n≤2 ^ 40→n≤140737488355328:=fun h=>by omega
 simp only[Bool.and_eq_true,decide_eq_true_eq]
 exact ⟨⟨up h5,up h6⟩,up h7,up h8⟩
theorem A4O {d:aF} (h:A0 (2 ^ 40) aL d):okI d=true:=by
 obtain ⟨_,⟨_,_,hn⟩,⟨_,_,hp⟩,⟨_,_,hs⟩,⟨_,_,hk⟩,_⟩:=h
 simp only[okI,DR,Bool.and_eq_true,decide_eq_true_eq,List.all_eq_true]
 refine ⟨⟨⟨fun n hm=>?_,fun p hm=>?_⟩,fun s hm=>?_⟩,fun k hm=>?_⟩
 ·obtain ⟨a,_⟩:=hn n hm
  exact a
 ·obtain ⟨a,_,_,b,_⟩:=hp p hm
  exact ⟨a,b⟩
 ·obtain ⟨a,b,c,_⟩:=hs s hm
  exact ⟨a,b,c⟩
 ·obtain ⟨a,_⟩:=hk k hm
  exact a
theorem A4R {d:aF} {n:Int} (hn:n≤1000) (hf:IL d n=true) (h:A0 (2 ^ 40) aL d):okU d=true:=by
 unfold okU;rw[AY2 hn hf,A4N h,A4P h,A4O h];rfl
end Go.Pv
namespace Go.Pv
open Go Go.Proofs
theorem yU {d:aF} {m:aN} (h:iH d m=0):(kQ m=0∧isName d.1=true∧dZ d=0)∧dF d=0∧eC d m=0∧bD (jA d) d.2.2.2.1=0∧c9 d=0∧bD (hU d) d.2.2.2.2.2=0:=by
 unfold iH at h
 split at h
 ·exact absurd h ‹_›
 split at h
 ·cases h
 split at h
 ·exact absurd h ‹_›
 split at h
 ·exact absurd h ‹_›
 split at h
 ·exact absurd h ‹_›
 split at h
 ·exact absurd h ‹_›
 split at h
 ·exact absurd h ‹_›
 rename_i h1 h2 h3 h4 h5 h6 h7
 exact ⟨⟨Classical.byContradiction h1,by simpa using h2,Classical.byContradiction h3⟩,Classical.byContradiction h4,Classical.byContradiction h5,Classical.byContradiction h6,Classical.byContradiction h7,h⟩
structure BA0 (d:aF):Prop where
 v:VOk d
 n1:(ids d.2.1).Nodup
 n2:(ids d.2.2.1).Nodup
 up:∀ n∈d.2.1,(up d n.1).2=true∧(up d n.1).1.length≤8
 nd:∀ p∈d.2.2.1,∃ n∈d.2.1,n.1=eY p
end Go.Pv
namespace Go.Pv
open Go Go.Proofs
structure BAY (d:aF) (l:List ByteArray) (last:ByteArray):Prop where
 pos:0<l.length
 len:l.length≤8
 last:l.getLast? = some last
 node:∀ (i:Nat) (h:i<l.length),∃ x,cB d l[i]=some x∧(x.2.1=1↔i=0)∧∀ (j:Nat) (hj:j<l.length),j+1=i→x.2.2=l[j]
section
variable {x d : aF}
theorem zK (hN:x.2.1=d.2.1):cB x=cB d:=by funext id;unfold cB;rw[hN]
theorem WB (hP:x.2.2.1=d.2.2.1):partOf x=partOf d:=by funext id;unfold partOf;rw[hP]
theorem AV1 (hK:x.2.2.2.2.1=d.2.2.2.2.1):jP x=jP d:=by funext id;unfold jP;rw[hK]
theorem A16 (hN:x.2.1=d.2.1):∀ (n:Nat) (id:ByteArray) (l:List ByteArray),upF x n id l=upF d n id l
 | 0,_,_=>rfl
 | n+1,id,l=>by
  unfold upF
  rw[zK hN]
  cases cB d id with
  | none=>rfl
  | some y=>dsimp only;rw[A16 hN n]
theorem A18 (hN:x.2.1=d.2.1):up x=up d:=by funext id;unfold up;rw[A16 hN]
theorem AUQ (hN:x.2.1=d.2.1):dF x=dF d:=by
 have h1:lC x=lC d:=by funext n;unfold lC;rw[zK hN]
 have h2:RN x=RN d:=by unfold RN;rw[hN,A18 hN]
 have h3:BA x=BA d:=by unfold BA;rw[hN,A18 hN]
 unfold dF;rw[h1,h2,h3,hN]
theorem AV2 {m:aN} (hN:x.2.1=d.2.1) (hP:x.2.2.1=d.2.2.1):eC x m=eC d m:=by
 have h1:dD x m=dD d m:=by funext n;unfold dD;rw[zK hN]
 unfold eC;rw[h1,hP]
theorem A1S (hP:x.2.2.1=d.2.2.1):jA x=jA d:=by funext s;unfold jA;rw[WB hP]
theorem Q8 (hN:x.2.1=d.2.1):lU x=lU d:=by funext s;unfold lU;rw[zK hN]
theorem AIJ (hN:x.2.1=d.2.1) (hK:x.2.2.2.2.1=d.2.2.2.2.1):hU x=hU d:=by funext s;unfold hU;rw[Q8 hN,AV1 hK]
theorem instE_eq (hN:x.2.1=d.2.1) (hP:x.2.2.1=d.2.2.1) (b:ByteArray):∀ l S,instE x b l S=instE d b l S
 | [],S=>rfl
 | id::l,S=>by
  unfold instE
  rw[WB hP,A18 hN]
  cases partOf d id with
  | none=>rfl
  | some p=>dsimp only;rw[instE_eq hN hP b l]
theorem AP1 (hK:x.2.2.2.2.1=d.2.2.2.2.1) (k:ByteArray) (i:Int):∀ l E,wP x k i l E=wP d k i l E
 | [],E=>rfl
 | id::l,E=>by
  unfold wP
  rw[hK]
  split
  ·rfl
  ·cases iT (hH (ids d.2.2.2.2.1)) id with
   | none=>rfl
   | some p=>exact AP1 hK k i l _
theorem R3 (hN:x.2.1=d.2.1) (hP:x.2.2.1=d.2.2.1) (hK:x.2.2.2.2.1=d.2.2.2.2.1):∀ l i E S,gE x l i E S=gE d l i E S
 | [],i,E,S=>rfl
 | k::l,i,E,S=>by
  have h1:jM x k=jM d k:=by unfold jM;rw[Q8 hN]
  unfold gE
  rw[h1,instE_eq hN hP,AP1 hK,R3 hN hP hK l]
theorem V9 (hN:x.2.1=d.2.1) (hP:x.2.2.1=d.2.2.1) (hK:x.2.2.2.2.1=d.2.2.2.2.1):c9 x=c9 d:=by
 unfold c9;rw[R3 hN hP hK,hK]
end
theorem AYA {l:List ByteArray} (h:l.Pairwise fun a b=>a.data.toList<b.data.toList):lL l=true:=by
 match l,h with
 | [],_=>rfl
 | [a],_=>rfl
 | a::b::l,h =>
  obtain ⟨h1,h2⟩:=List.pairwise_cons.1 h
  have hab:=h1 b List.mem_cons_self
  rw[lL,AYA h2,Bool.and_true]
  simp only[Bool.not_eq_true',Bool.or_eq_false_iff,decide_eq_false_iff_not]
  refine ⟨?_,fun e=>?_⟩
  ·cases hs:dR b a with
   | false=>rfl
   | true=>exact absurd (List.lt_trans hab ((lZ b a).1 hs)) (List.lt_irrefl _)
  ·subst e;exact List.lt_irrefl _ hab
termination_by l.length
theorem AP6 {l s:List ByteArray} (h:lL l=true) (hs:s.Sublist l):lL s=true:=AYA ((PX h).sublist hs)
theorem LL {a b c:ByteArray} (h1:dR a b=true) (h2:dR b c=true):dR a c=true:=(lZ a c).2 (List.lt_trans ((lZ a b).1 h1) ((lZ b c).1 h2))
theorem A35 {a b:fQ}:ltN a b=true↔a.1<b.1∨(a.1=b.1∧(dR a.2.1 b.2.1=true∨(a.2.1=b.2.1∧dR a.2.2 b.2.2=true))):=by
 unfold ltN
 simp only[Bool.or_eq_true,Bool.and_eq_true,decide_eq_true_eq]
theorem AUK {a b c:fQ} (h1:ltN a b=true) (h2:ltN b c=true):ltN a c=true:=by
 rw[A35] at h1 h2 ⊢
 rcases h1 with h1|⟨h1,h1'⟩
 ·rcases h2 with h2|⟨h2,_⟩
  ·left;omega
  ·left;omega
 ·rcases h2 with h2|⟨h2,h2'⟩
  ·left;omega
  ·right
   refine ⟨h1.trans h2,?_⟩
   rcases h1' with h1'|⟨e1,h1'⟩
   ·rcases h2' with h2'|⟨e2,_⟩
    ·exact .inl (LL h1' h2')
    ·exact .inl (e2 ▸ h1')
   ·rcases h2' with h2'|⟨e2,h2'⟩
    ·exact .inl (e1 ▸ h2')
    ·exact .inr ⟨e1.trans e2,LL h1' h2'⟩
theorem UZ:∀ {l:List fQ},CE l=true→l.Pairwise fun a b=>ltN a b=true
 | [],_=>List.Pairwise.nil
 | [a],_=>by simp
 | a::b::l,h=>by
  rw[CE,Bool.and_eq_true] at h
  have ih:=UZ h.2
  refine List.pairwise_cons.2 ⟨fun x hx=>?_,ih⟩
  rcases List.mem_cons.1 hx with rfl|hx
  ·exact h.1
  ·exact AUK h.1 ((List.pairwise_cons.1 ih).1 x hx)
theorem AP4 {l:List fQ} (h:l.Pairwise fun a b=>ltN a b=true):CE l=true:=by
 match l,h with
 | [],_=>rfl
 | [a],_=>rfl
 | a::b::l,h =>
  obtain ⟨h1,h2⟩:=List.pairwise_cons.1 h
  rw[CE,AP4 h2,h1 b List.mem_cons_self];rfl
termination_by l.length
theorem AX9 {l s:List fQ} (h:CE l=true) (hs:s.Sublist l):CE s=true:=AP4 ((UZ h).sublist hs)
theorem AYS {l1 l2 l3 l4:List ByteArray}:AMA l1 l2 l3 l4=false↔(∀ x∈l2,x∉l1)∧(∀ x∈l3,x∉l1∧x∉l2)∧∀ x∈l4,(x∉l1∧x∉l2)∧x∉l3:=by
 have hm:∀ {l:List ByteArray} {x:ByteArray},l7 l x=false↔x∉l:=fun {l x}=>by rw[←iK,Bool.not_eq_true]
 unfold AMA
 simp only[Bool.or_eq_false_iff,List.any_eq_false,Bool.or_eq_true,not_or,iK,and_assoc]
theorem zG {α:Type} {l s:List (ByteArray×α)} (h:s.Sublist l):(ids s).Sublist (ids l):=h.map _
theorem AT0 {d:aF} (h:dZ d=0):dP d=false∧iA d=true∧A3 d=false:=by
 unfold dZ at h
 split at h
 ·cases h
 split at h
 ·cases h
 split at h
 ·cases h
 rename_i h1 h2 h3
 exact ⟨by simpa using h1,by simpa using h2,by simpa using h3⟩
theorem AZG {d:aF} (h:dP d=false∧iA d=true∧A3 d=false):dZ d=0:=by
 unfold dZ;rw[h.1,h.2.1,h.2.2];rfl
theorem A28 {d:aF} {m:aN} (h:(kQ m=0∧isName d.1=true∧dZ d=0)∧dF d=0∧eC d m=0∧bD (jA d) d.2.2.2.1=0∧c9 d=0∧bD (hU d) d.2.2.2.2.2=0):iH d m=0:=by
 obtain ⟨⟨h1,h2,h3⟩,h4,h5,h6,h7,h8⟩:=h
 unfold iH
 rw[h1,h2,h3,h4,h5,h6,h7,h8];rfl
theorem ANQ {d:aF} {m:aN} (h:iH d m=0) {S:List l9} {K:List cC} {E:List fQ} (hS:S.Sublist d.2.2.2.1) (hK:K.Sublist d.2.2.2.2.1) (hE:E.Sublist d.2.2.2.2.2)
  (hp:c9 (d.1,d.2.1,d.2.2.1,S,K,E)=0) (hn:∀ e∈E,hU (d.1,d.2.1,d.2.2.1,S,K,E) e=0):iH (d.1,d.2.1,d.2.2.1,S,K,E) m=0:=by
 obtain ⟨⟨h1,h2,h3⟩,h4,h5,h6,h7,h8⟩:=yU h
 obtain ⟨f1,f2,f3⟩:=AT0 h3
 refine A28 ⟨⟨h1,h2,AZG ⟨?_,?_,?_⟩⟩,?_,?_,?_,hp,uS hn⟩
 ·have e1:=hS.length_le
  have e2:=hK.length_le
  have e3:=hE.length_le
  simp only[dP,Bool.or_eq_false_iff,decide_eq_false_iff_not] at f1 ⊢
  omega
 ·simp only[iA,Bool.and_eq_true] at f2 ⊢
  obtain ⟨⟨⟨⟨a1,a2⟩,a3⟩,a4⟩,a5⟩:=f2
  exact ⟨⟨⟨⟨a1,a2⟩,AP6 a3 (zG hS)⟩,AP6 a4 (zG hK)⟩,AX9 a5 hE⟩
 ·unfold A3 at f3 ⊢
  rw[AYS] at f3 ⊢
  obtain ⟨a1,a2,a3⟩:=f3
  exact ⟨a1,fun x hx=>a2 x ((zG hS).subset hx),fun x hx=>⟨(a3 x ((zG hK).subset hx)).1,fun hm=>(a3 x ((zG hK).subset hx)).2 ((zG hS).subset hm)⟩⟩
 ·exact (AUQ (d:=d) rfl).trans h4
 ·exact (AV2 (d:=d) rfl rfl).trans h5
 ·rw[A1S (x:=(d.1,d.2.1,d.2.2.1,S,K,E)) (d:=d) rfl];exact uS fun s hs=>jD h6 s (hS.subset hs)
theorem AUI {d:aF} {m:aN} (h:iH d m=0) {S:List l9} (hS:S.Sublist d.2.2.2.1):iH (d.1,d.2.1,d.2.2.1,S,d.2.2.2.2.1,d.2.2.2.2.2) m=0:=by
 obtain ⟨_,h4,h5,h6,h7,h8⟩:=yU h
 refine ANQ h hS (List.Sublist.refl _) (List.Sublist.refl _) ?_ ?_
 ·exact (V9 (x:=(d.1,d.2.1,d.2.2.1,S,d.2.2.2.2.1,d.2.2.2.2.2)) (d:=d) rfl rfl rfl).trans h7
 ·rw[AIJ (x:=(d.1,d.2.1,d.2.2.1,S,d.2.2.2.2.1,d.2.2.2.2.2)) (d:=d) rfl rfl];exact jD h8
theorem AUG {d:aF} {m:aN} (h:iH d m=0) {E:List fQ} (hE:E.Sublist d.2.2.2.2.2):iH (d.1,d.2.1,d.2.2.1,d.2.2.2.1,d.2.2.2.2.1,E) m=0:=by
 obtain ⟨_,h4,h5,h6,h7,h8⟩:=yU h
 refine ANQ h (List.Sublist.refl _) (List.Sublist.refl _) hE ?_ ?_
 ·exact (V9 (x:=(d.1,d.2.1,d.2.2.1,d.2.2.2.1,d.2.2.2.2.1,E)) (d:=d) rfl rfl rfl).trans h7
 ·rw[AIJ (x:=(d.1,d.2.1,d.2.2.1,d.2.2.2.1,d.2.2.2.2.1,E)) (d:=d) rfl rfl];exact fun e he=>jD h8 e (hE.subset he)
theorem AUH {d:aF} {m:aN} (h:iH d m=0) (hno:∀ e∈d.2.2.2.2.2,¬ e.1=3):iH (d.1,d.2.1,d.2.2.1,d.2.2.2.1,[],d.2.2.2.2.2) m=0:=by
 obtain ⟨_,h4,h5,h6,h7,h8⟩:=yU h
 refine ANQ h (List.Sublist.refl _) (List.nil_sublist _) (List.Sublist.refl _) rfl fun e he=>?_
 have h9:=jD h8 e he
 have h10:=hno e he
 unfold hU at h9 ⊢
 rw[Q8 (x:=(d.1,d.2.1,d.2.2.1,d.2.2.2.1,[],d.2.2.2.2.2)) (d:=d) rfl]
 simp only[h10,false_and,or_false] at h9 ⊢
 exact h9
end Go.Pv
namespace Go.Pv
open Go Go.Proofs
noncomputable def GQ:Env:=Env.of [(7000000000,.mark),(7,.pure QY),(10,.pure uX),(9,.pure bR),(8,.pure dB)]
def T8:FuncId→Hint:=fun f=>match f == 6 with|true=>⟨fun r=>match r == 14 with|true=>.inv [.val 12 false .bool,.val 13 false (.int .i64)]|false=>.none,fun _ _=>none,fun _=>none⟩|false=>aV
theorem ACD:aH Tryz.prog GQ:=aH.cons (x:=.mark) trivial (aH.cons (x:=.pure QY) A6U (aH.cons (x:=.pure uX) AY3 (aH.cons (x:=.pure bR) AY4 (aH.cons (x:=.pure dB) AMG (aH.nil _)))))
def HK (a0:aF) (a1:aN) (a2:Int) (R:T→Prop):Prop :=
 aG [(false,Sy.bool)]
 (QY [aC true aL a0,T.v (.int .i64 60)]) fun (y0:Bool) =>
 aB (!y0)
 (aG [(false,Sy.bool)] (dB []) fun (y1:Bool)=>R (T.v (.bool y1)))
 (aG [(false,Sy.int IntKind.i64)]
 (uX [aC true aL a0,aC true aE a1]) fun (y2:Int) =>
 aB (!decide (y2=0))
 (aG [(false,Sy.bool)] (dB []) fun (y3:Bool)=>R (T.v (.bool y3)))
 (aG [(false,Sy.int IntKind.i64)]
 (bR [aC true aL a0,aC true aE a1]) fun (y4:Int) =>
 aB (!decide (y4=0)) (R (T.v (.bool false)))
 (aB (decide (0<(↑(List.map a6.enc a0.2.2.2.1).length:Int)))
 (bP (!decide ((↑(List.map a6.enc a0.2.2.2.1).length:Int)=0))
 (bP
 (kR 6 (List.map a6.enc a0.2.2.2.1) &&
 (decide
 (0 ≤
 (IntKind.i64.wrap a2).tmod
 (↑(List.map a6.enc a0.2.2.2.1).length:Int)) &&
 decide
 (((IntKind.i64.wrap a2).tmod
 (↑(List.map a6.enc a0.2.2.2.1).length:Int)).toNat ≤
 (List.map a6.enc a0.2.2.2.1).length)) &&
 true)
 (bP
 (gU 6
 (List.drop 0
 (List.take
 ((IntKind.i64.wrap a2).tmod
 (↑(List.map a6.enc a0.2.2.2.1).length:Int)).toNat
 (List.map a6.enc a0.2.2.2.1))) &&
 true &&
 decide
 ((List.drop 0
 (List.take
 ((IntKind.i64.wrap a2).tmod
 (↑(List.map a6.enc a0.2.2.2.1).length:Int)).toNat
 (List.map a6.enc a0.2.2.2.1))).length *
 72 ≤
 140737488355328) &&
 decide
 ((List.drop 0
 (List.take
 ((IntKind.i64.wrap a2).tmod
 (↑(List.map a6.enc a0.2.2.2.1).length:Int)).toNat
 (List.map a6.enc a0.2.2.2.1))).length ≤
 140737488355328))
 (bP
 (kR 6 (List.map a6.enc a0.2.2.2.1) &&
 decide
 ((List.map a6.enc a0.2.2.2.1).length ≤
 (List.map a6.enc a0.2.2.2.1).length) &&
 (decide
 (0 ≤
 IntKind.i64.wrap
 ((IntKind.i64.wrap a2).tmod
 (↑(List.map a6.enc a0.2.2.2.1).length:Int) +
 1)) &&
 decide
 ((IntKind.i64.wrap
 ((IntKind.i64.wrap a2).tmod
 (↑(List.map a6.enc a0.2.2.2.1).length:Int) +
 1)).toNat ≤
 (List.map a6.enc a0.2.2.2.1).length)))
 (bP
 (gU 6
 (List.drop
 (IntKind.i64.wrap
 ((IntKind.i64.wrap a2).tmod
 (↑(List.map a6.enc a0.2.2.2.1).length:Int) +
 1)).toNat
 (List.take (List.map a6.enc a0.2.2.2.1).length
 (List.map a6.enc a0.2.2.2.1))) &&
 decide
 (((List.drop 0
 (List.take
 ((IntKind.i64.wrap a2).tmod
 (↑(List.map a6.enc a0.2.2.2.1).length:Int)).toNat
 (List.map a6.enc a0.2.2.2.1))).length +
 (List.drop
 (IntKind.i64.wrap
 ((IntKind.i64.wrap a2).tmod
 (↑(List.map a6.enc a0.2.2.2.1).length:Int) +
 1)).toNat
 (List.take (List.map a6.enc a0.2.2.2.1).length
 (List.map a6.enc a0.2.2.2.1))).length) *
 72 ≤
 140737488355328) &&
 decide
 ((List.drop 0
 (List.take
 ((IntKind.i64.wrap a2).tmod
 (↑(List.map a6.enc a0.2.2.2.1).length:Int)).toNat
 (List.map a6.enc a0.2.2.2.1))).length +
 (List.drop
 (IntKind.i64.wrap
 ((IntKind.i64.wrap a2).tmod
 (↑(List.map a6.enc a0.2.2.2.1).length:Int) +
 1)).toNat
 (List.take (List.map a6.enc a0.2.2.2.1).length
 (List.map a6.enc a0.2.2.2.1))).length ≤
 140737488355328))
 (aB (decide (0<(↑(List.map aQ.enc a0.2.2.2.2.2).length:Int)))
 (bP (!decide ((↑(List.map aQ.enc a0.2.2.2.2.2).length:Int)=0))
 (bP
 (kR 3 (List.map aQ.enc a0.2.2.2.2.2) &&
 (decide
 (0 ≤
 (IntKind.i64.wrap a2).tmod
 (↑(List.map aQ.enc a0.2.2.2.2.2).length:Int)) &&
 decide
 (((IntKind.i64.wrap a2).tmod
 (↑(List.map aQ.enc a0.2.2.2.2.2).length:Int)).toNat ≤
 (List.map aQ.enc a0.2.2.2.2.2).length)) &&
 true)
 (bP
 (gU 3
 (List.drop 0
 (List.take
 ((IntKind.i64.wrap a2).tmod
 (↑(List.map aQ.enc a0.2.2.2.2.2).length:Int)).toNat
 (List.map aQ.enc a0.2.2.2.2.2))) &&
 true &&
 decide
 ((List.drop 0
 (List.take
 ((IntKind.i64.wrap a2).tmod
 (↑(List.map aQ.enc a0.2.2.2.2.2).length :
 Int)).toNat
 (List.map aQ.enc a0.2.2.2.2.2))).length *
 40 ≤
 140737488355328) &&
 decide
 ((List.drop 0
 (List.take
 ((IntKind.i64.wrap a2).tmod
 (↑(List.map aQ.enc a0.2.2.2.2.2).length:Int)).toNat
 (List.map aQ.enc a0.2.2.2.2.2))).length ≤
 140737488355328))
 (bP
 (kR 3 (List.map aQ.enc a0.2.2.2.2.2) &&
 decide
 ((List.map aQ.enc a0.2.2.2.2.2).length ≤
 (List.map aQ.enc a0.2.2.2.2.2).length) &&
 (decide
 (0 ≤
 IntKind.i64.wrap
 ((IntKind.i64.wrap a2).tmod
 (↑(List.map aQ.enc a0.2.2.2.2.2).length:Int) +
 1)) &&
 decide
 ((IntKind.i64.wrap
 ((IntKind.i64.wrap a2).tmod
 (↑(List.map aQ.enc a0.2.2.2.2.2).length:Int) +
 1)).toNat ≤
 (List.map aQ.enc a0.2.2.2.2.2).length)))
 (bP
 (gU 3
 (List.drop
 (IntKind.i64.wrap
 ((IntKind.i64.wrap a2).tmod
 (↑(List.map aQ.enc a0.2.2.2.2.2).length:Int) +
 1)).toNat
 (List.take (List.map aQ.enc a0.2.2.2.2.2).length
 (List.map aQ.enc a0.2.2.2.2.2))) &&
 decide
 (((List.drop 0
 (List.take
 ((IntKind.i64.wrap a2).tmod
 (↑(List.map aQ.enc a0.2.2.2.2.2).length :
 Int)).toNat
 (List.map aQ.enc a0.2.2.2.2.2))).length +
 (List.drop
 (IntKind.i64.wrap
 ((IntKind.i64.wrap a2).tmod
 (↑(List.map aQ.enc a0.2.2.2.2.2).length :
 Int) +
 1)).toNat
 (List.take (List.map aQ.enc a0.2.2.2.2.2).length
 (List.map aQ.enc a0.2.2.2.2.2))).length) *
 40 ≤
 140737488355328) &&
 decide
 ((List.drop 0
 (List.take
 ((IntKind.i64.wrap a2).tmod
 (↑(List.map aQ.enc a0.2.2.2.2.2).length :
 Int)).toNat
 (List.map aQ.enc a0.2.2.2.2.2))).length +
 (List.drop
 (IntKind.i64.wrap
 ((IntKind.i64.wrap a2).tmod
 (↑(List.map aQ.enc a0.2.2.2.2.2).length :
 Int) +
 1)).toNat
 (List.take (List.map aQ.enc a0.2.2.2.2.2).length
 (List.map aQ.enc a0.2.2.2.2.2))).length ≤
 140737488355328))
 (bA (Bool×Int×PUnit)
 (fun (X5:Bool×Int×PUnit→Prop) (s6:Bool×Int×PUnit) =>
 aB
 (decide
 (s6.2.1 <
 (↑(List.map aQ.enc a0.2.2.2.2.2).length:Int)))
 (aB s6.1 (X5 (true,IntKind.i64.wrap (s6.2.1+1),()))
 (aO aQ (List.map aQ.enc a0.2.2.2.2.2)
 s6.2.1 fun (y7:fQ) =>
 X5 (decide (y7.1=3),IntKind.i64.wrap (s6.2.1+1),())))
 (aB (!s6.1)
 (aG [(false,Sy.int IntKind.i64)]
 (bR
 [T.agg
 [T.v (.string a0.1),
 T.sl false (List.map bE.enc a0.2.1),
 T.sl false (List.map aU.enc a0.2.2.1),
 T.sl false
 (List.drop 0
 (List.take
 ((IntKind.i64.wrap a2).tmod
 (↑(List.map a6.enc
 a0.2.2.2.1).length :
 Int)).toNat
 (List.map a6.enc a0.2.2.2.1)) ++
 List.drop
 (IntKind.i64.wrap
 ((IntKind.i64.wrap a2).tmod
 (↑(List.map a6.enc
 a0.2.2.2.1).length :
 Int) +
 1)).toNat
 (List.take
 (List.map a6.enc a0.2.2.2.1).length
 (List.map a6.enc a0.2.2.2.1))),
 T.sl false
 (List.map aP.enc a0.2.2.2.2.1),
 T.sl false
 (List.map aQ.enc a0.2.2.2.2.2)],
 aC true aE a1])
 fun (y8:Int) =>
 aB (decide (y8=0))
 (aG [(false,Sy.int IntKind.i64)]
 (bR
 [T.agg
 [T.v (.string a0.1),
 T.sl false (List.map bE.enc a0.2.1),
 T.sl false (List.map aU.enc a0.2.2.1),
 T.sl false
 (List.map a6.enc a0.2.2.2.1),
 T.sl false
 (List.map aP.enc a0.2.2.2.2.1),
 T.sl false
 (List.drop 0
 (List.take
 ((IntKind.i64.wrap a2).tmod
 (↑(List.map aQ.enc
 a0.2.2.2.2.2).length :
 Int)).toNat
 (List.map aQ.enc a0.2.2.2.2.2)) ++
 List.drop
 (IntKind.i64.wrap
 ((IntKind.i64.wrap a2).tmod
 (↑(List.map aQ.enc
 a0.2.2.2.2.2).length :
 Int) +
 1)).toNat
 (List.take
 (List.map aQ.enc
 a0.2.2.2.2.2).length
 (List.map aQ.enc a0.2.2.2.2.2)))],
 aC true aE a1])
 fun (y9:Int) =>
 aB (decide (y9=0))
 (aG [(false,Sy.int IntKind.i64)]
 (bR
 [T.agg
 [T.v (.string a0.1),
 T.sl false (List.map bE.enc a0.2.1),
 T.sl false
 (List.map aU.enc a0.2.2.1),
 T.sl false
 (List.map a6.enc a0.2.2.2.1),
 T.v (Value.slice none 0 0),
 T.sl false
 (List.map aQ.enc a0.2.2.2.2.2)],
 aC true aE a1])
 fun (y10:Int) =>
 aB (decide (y10=0))
 (aG [(false,Sy.bool)] (dB [])
 fun (y11:Bool)=>R (T.v (.bool y11)))
 (R (T.v (.bool false))))
 (R (T.v (.bool false))))
 (R (T.v (.bool false))))
 (aG [(false,Sy.int IntKind.i64)]
 (bR
 [T.agg
 [T.v (.string a0.1),
 T.sl false (List.map bE.enc a0.2.1),
 T.sl false (List.map aU.enc a0.2.2.1),
 T.sl false
 (List.drop 0
 (List.take
 ((IntKind.i64.wrap a2).tmod
 (↑(List.map a6.enc
 a0.2.2.2.1).length :
 Int)).toNat
 (List.map a6.enc a0.2.2.2.1)) ++
 List.drop
 (IntKind.i64.wrap
 ((IntKind.i64.wrap a2).tmod
 (↑(List.map a6.enc
 a0.2.2.2.1).length :
 Int) +
 1)).toNat
 (List.take
 (List.map a6.enc a0.2.2.2.1).length
 (List.map a6.enc a0.2.2.2.1))),
 T.sl false
 (List.map aP.enc a0.2.2.2.2.1),
 T.sl false
 (List.map aQ.enc a0.2.2.2.2.2)],
 aC true aE a1])
 fun (y12:Int) =>
 aB (decide (y12=0))
 (aG [(false,Sy.int IntKind.i64)]
 (bR
 [T.agg
 [T.v (.string a0.1),
 T.sl false (List.map bE.enc a0.2.1),
 T.sl false (List.map aU.enc a0.2.2.1),
 T.sl false
 (List.map a6.enc a0.2.2.2.1),
 T.sl false
 (List.map aP.enc a0.2.2.2.2.1),
 T.sl false
 (List.drop 0
 (List.take
 ((IntKind.i64.wrap a2).tmod
 (↑(List.map aQ.enc
 a0.2.2.2.2.2).length :
 Int)).toNat
 (List.map aQ.enc a0.2.2.2.2.2)) ++
 List.drop
 (IntKind.i64.wrap
 ((IntKind.i64.wrap a2).tmod
 (↑(List.map aQ.enc
 a0.2.2.2.2.2).length :
 Int) +
 1)).toNat
 (List.take
 (List.map aQ.enc
 a0.2.2.2.2.2).length
 (List.map aQ.enc a0.2.2.2.2.2)))],
 aC true aE a1])
 fun (y13:Int) =>
 aB (decide (y13=0))
 (aG [(false,Sy.int IntKind.i64)]
 (bR
 [aC true aL a0,
 aC true aE a1])
 fun (y14:Int) =>
 aB (decide (y14=0))
 (aG [(false,Sy.bool)] (dB [])
 fun (y15:Bool)=>R (T.v (.bool y15)))
 (R (T.v (.bool false))))
 (R (T.v (.bool false))))
 (R (T.v (.bool false))))))
 (false,0,())))))))
 (bA (Bool×Int×PUnit)
 (fun (X16:Bool×Int×PUnit→Prop) (s17:Bool×Int×PUnit) =>
 aB
 (decide
 (s17.2.1<(↑(List.map aQ.enc a0.2.2.2.2.2).length:Int)))
 (aB s17.1 (X16 (true,IntKind.i64.wrap (s17.2.1+1),()))
 (aO aQ (List.map aQ.enc a0.2.2.2.2.2) s17.2.1
 fun (y18:fQ) =>
 X16 (decide (y18.1=3),IntKind.i64.wrap (s17.2.1+1),())))
 (aB (!s17.1)
 (aG [(false,Sy.int IntKind.i64)]
 (bR
 [T.agg
 [T.v (.string a0.1),
 T.sl false (List.map bE.enc a0.2.1),
 T.sl false (List.map aU.enc a0.2.2.1),
 T.sl false
 (List.drop 0
 (List.take
 ((IntKind.i64.wrap a2).tmod
 (↑(List.map a6.enc a0.2.2.2.1).length :
 Int)).toNat
 (List.map a6.enc a0.2.2.2.1)) ++
 List.drop
 (IntKind.i64.wrap
 ((IntKind.i64.wrap a2).tmod
 (↑(List.map a6.enc a0.2.2.2.1).length :
 Int) +
 1)).toNat
 (List.take (List.map a6.enc a0.2.2.2.1).length
 (List.map a6.enc a0.2.2.2.1))),
 T.sl false (List.map aP.enc a0.2.2.2.2.1),
 T.sl false (List.map aQ.enc a0.2.2.2.2.2)],
 aC true aE a1])
 fun (y19:Int) =>
 aB (decide (y19=0))
 (aG [(false,Sy.int IntKind.i64)]
 (bR
 [aC true aL a0,aC true aE a1])
 fun (y20:Int) =>
 aB (decide (y20=0))
 (aG [(false,Sy.int IntKind.i64)]
 (bR
 [T.agg
 [T.v (.string a0.1),
 T.sl false (List.map bE.enc a0.2.1),
 T.sl false (List.map aU.enc a0.2.2.1),
 T.sl false (List.map a6.enc a0.2.2.2.1),
 T.v (Value.slice none 0 0),
 T.sl false (List.map aQ.enc a0.2.2.2.2.2)],
 aC true aE a1])
 fun (y21:Int) =>
 aB (decide (y21=0))
 (aG [(false,Sy.bool)] (dB [])
 fun (y22:Bool)=>R (T.v (.bool y22)))
 (R (T.v (.bool false))))
 (R (T.v (.bool false))))
 (R (T.v (.bool false))))
 (aG [(false,Sy.int IntKind.i64)]
 (bR
 [T.agg
 [T.v (.string a0.1),
 T.sl false (List.map bE.enc a0.2.1),
 T.sl false (List.map aU.enc a0.2.2.1),
 T.sl false
 (List.drop 0
 (List.take
 ((IntKind.i64.wrap a2).tmod
 (↑(List.map a6.enc a0.2.2.2.1).length :
 Int)).toNat
 (List.map a6.enc a0.2.2.2.1)) ++
 List.drop
 (IntKind.i64.wrap
 ((IntKind.i64.wrap a2).tmod
 (↑(List.map a6.enc a0.2.2.2.1).length :
 Int) +
 1)).toNat
 (List.take (List.map a6.enc a0.2.2.2.1).length
 (List.map a6.enc a0.2.2.2.1))),
 T.sl false (List.map aP.enc a0.2.2.2.2.1),
 T.sl false (List.map aQ.enc a0.2.2.2.2.2)],
 aC true aE a1])
 fun (y23:Int) =>
 aB (decide (y23=0))
 (aG [(false,Sy.int IntKind.i64)]
 (bR
 [aC true aL a0,aC true aE a1])
 fun (y24:Int) =>
 aB (decide (y24=0))
 (aG [(false,Sy.int IntKind.i64)]
 (bR
 [aC true aL a0,aC true aE a1])
 fun (y25:Int) =>
 aB (decide (y25=0))
 (aG [(false,Sy.bool)] (dB [])
 fun (y26:Bool)=>R (T.v (.bool y26)))
 (R (T.v (.bool false))))
 (R (T.v (.bool false))))
 (R (T.v (.bool false))))))
 (false,0,()))))))))
 (aB (decide (0<(↑(List.map aQ.enc a0.2.2.2.2.2).length:Int)))
 (bP (!decide ((↑(List.map aQ.enc a0.2.2.2.2.2).length:Int)=0))
 (bP
 (kR 3 (List.map aQ.enc a0.2.2.2.2.2) &&
 (decide
 (0 ≤
 (IntKind.i64.wrap a2).tmod
 (↑(List.map aQ.enc a0.2.2.2.2.2).length:Int)) &&
 decide
 (((IntKind.i64.wrap a2).tmod
 (↑(List.map aQ.enc a0.2.2.2.2.2).length:Int)).toNat ≤
 (List.map aQ.enc a0.2.2.2.2.2).length)) &&
 true)
 (bP
 (gU 3
 (List.drop 0
 (List.take
 ((IntKind.i64.wrap a2).tmod
 (↑(List.map aQ.enc a0.2.2.2.2.2).length:Int)).toNat
 (List.map aQ.enc a0.2.2.2.2.2))) &&
 true &&
 decide
 ((List.drop 0
 (List.take
 ((IntKind.i64.wrap a2).tmod
 (↑(List.map aQ.enc a0.2.2.2.2.2).length:Int)).toNat
 (List.map aQ.enc a0.2.2.2.2.2))).length *
 40 ≤
 140737488355328) &&
 decide
 ((List.drop 0
 (List.take
 ((IntKind.i64.wrap a2).tmod
 (↑(List.map aQ.enc a0.2.2.2.2.2).length:Int)).toNat
 (List.map aQ.enc a0.2.2.2.2.2))).length ≤
 140737488355328))
 (bP
 (kR 3 (List.map aQ.enc a0.2.2.2.2.2) &&
 decide
 ((List.map aQ.enc a0.2.2.2.2.2).length ≤
 (List.map aQ.enc a0.2.2.2.2.2).length) &&
 (decide
 (0 ≤
 IntKind.i64.wrap
 ((IntKind.i64.wrap a2).tmod
 (↑(List.map aQ.enc a0.2.2.2.2.2).length:Int) +
 1)) &&
 decide
 ((IntKind.i64.wrap
 ((IntKind.i64.wrap a2).tmod
 (↑(List.map aQ.enc a0.2.2.2.2.2).length:Int) +
 1)).toNat ≤
 (List.map aQ.enc a0.2.2.2.2.2).length)))
 (bP
 (gU 3
 (List.drop
 (IntKind.i64.wrap
 ((IntKind.i64.wrap a2).tmod
 (↑(List.map aQ.enc a0.2.2.2.2.2).length:Int) +
 1)).toNat
 (List.take (List.map aQ.enc a0.2.2.2.2.2).length
 (List.map aQ.enc a0.2.2.2.2.2))) &&
 decide
 (((List.drop 0
 (List.take
 ((IntKind.i64.wrap a2).tmod
 (↑(List.map aQ.enc a0.2.2.2.2.2).length:Int)).toNat
 (List.map aQ.enc a0.2.2.2.2.2))).length +
 (List.drop
 (IntKind.i64.wrap
 ((IntKind.i64.wrap a2).tmod
 (↑(List.map aQ.enc a0.2.2.2.2.2).length:Int) +
 1)).toNat
 (List.take (List.map aQ.enc a0.2.2.2.2.2).length
 (List.map aQ.enc a0.2.2.2.2.2))).length) *
 40 ≤
 140737488355328) &&
 decide
 ((List.drop 0
 (List.take
 ((IntKind.i64.wrap a2).tmod
 (↑(List.map aQ.enc a0.2.2.2.2.2).length:Int)).toNat
 (List.map aQ.enc a0.2.2.2.2.2))).length +
 (List.drop
 (IntKind.i64.wrap
 ((IntKind.i64.wrap a2).tmod
 (↑(List.map aQ.enc a0.2.2.2.2.2).length:Int) +
 1)).toNat
 (List.take (List.map aQ.enc a0.2.2.2.2.2).length
 (List.map aQ.enc a0.2.2.2.2.2))).length ≤
 140737488355328))
 (bA (Bool×Int×PUnit)
 (fun (X27:Bool×Int×PUnit→Prop) (s28:Bool×Int×PUnit) =>
 aB
 (decide
 (s28.2.1<(↑(List.map aQ.enc a0.2.2.2.2.2).length:Int)))
 (aB s28.1 (X27 (true,IntKind.i64.wrap (s28.2.1+1),()))
 (aO aQ (List.map aQ.enc a0.2.2.2.2.2) s28.2.1
 fun (y29:fQ) =>
 X27 (decide (y29.1=3),IntKind.i64.wrap (s28.2.1+1),())))
 (aB (!s28.1)
 (aG [(false,Sy.int IntKind.i64)]
 (bR
 [aC true aL a0,aC true aE a1])
 fun (y30:Int) =>
 aB (decide (y30=0))
 (aG [(false,Sy.int IntKind.i64)]
 (bR
 [T.agg
 [T.v (.string a0.1),
 T.sl false (List.map bE.enc a0.2.1),
 T.sl false (List.map aU.enc a0.2.2.1),
 T.sl false (List.map a6.enc a0.2.2.2.1),
 T.sl false (List.map aP.enc a0.2.2.2.2.1),
 T.sl false
 (List.drop 0
 (List.take
 ((IntKind.i64.wrap a2).tmod
 (↑(List.map aQ.enc a0.2.2.2.2.2).length :
 Int)).toNat
 (List.map aQ.enc a0.2.2.2.2.2)) ++
 List.drop
 (IntKind.i64.wrap
 ((IntKind.i64.wrap a2).tmod
 (↑(List.map aQ.enc
 a0.2.2.2.2.2).length :
 Int) +
 1)).toNat
 (List.take
 (List.map aQ.enc a0.2.2.2.2.2).length
 (List.map aQ.enc a0.2.2.2.2.2)))],
 aC true aE a1])
 fun (y31:Int) =>
 aB (decide (y31=0))
 (aG [(false,Sy.int IntKind.i64)]
 (bR
 [T.agg
 [T.v (.string a0.1),
 T.sl false (List.map bE.enc a0.2.1),
 T.sl false (List.map aU.enc a0.2.2.1),
 T.sl false (List.map a6.enc a0.2.2.2.1),
 T.v (Value.slice none 0 0),
 T.sl false (List.map aQ.enc a0.2.2.2.2.2)],
 aC true aE a1])
 fun (y32:Int) =>
 aB (decide (y32=0))
 (aG [(false,Sy.bool)] (dB [])
 fun (y33:Bool)=>R (T.v (.bool y33)))
 (R (T.v (.bool false))))
 (R (T.v (.bool false))))
 (R (T.v (.bool false))))
 (aG [(false,Sy.int IntKind.i64)]
 (bR
 [aC true aL a0,aC true aE a1])
 fun (y34:Int) =>
 aB (decide (y34=0))
 (aG [(false,Sy.int IntKind.i64)]
 (bR
 [T.agg
 [T.v (.string a0.1),
 T.sl false (List.map bE.enc a0.2.1),
 T.sl false (List.map aU.enc a0.2.2.1),
 T.sl false (List.map a6.enc a0.2.2.2.1),
 T.sl false (List.map aP.enc a0.2.2.2.2.1),
 T.sl false
 (List.drop 0
 (List.take
 ((IntKind.i64.wrap a2).tmod
 (↑(List.map aQ.enc a0.2.2.2.2.2).length :
 Int)).toNat
 (List.map aQ.enc a0.2.2.2.2.2)) ++
 List.drop
 (IntKind.i64.wrap
 ((IntKind.i64.wrap a2).tmod
 (↑(List.map aQ.enc
 a0.2.2.2.2.2).length :
 Int) +
 1)).toNat
 (List.take
 (List.map aQ.enc a0.2.2.2.2.2).length
 (List.map aQ.enc a0.2.2.2.2.2)))],
 aC true aE a1])
 fun (y35:Int) =>
 aB (decide (y35=0))
 (aG [(false,Sy.int IntKind.i64)]
 (bR
 [aC true aL a0,aC true aE a1])
 fun (y36:Int) =>
 aB (decide (y36=0))
 (aG [(false,Sy.bool)] (dB [])
 fun (y37:Bool)=>R (T.v (.bool y37)))
 (R (T.v (.bool false))))
 (R (T.v (.bool false))))
 (R (T.v (.bool false))))))
 (false,0,())))))))
 (bA (Bool×Int×PUnit)
 (fun (X38:Bool×Int×PUnit→Prop) (s39:Bool×Int×PUnit) =>
 aB
 (decide (s39.2.1<(↑(List.map aQ.enc a0.2.2.2.2.2).length:Int)))
 (aB s39.1 (X38 (true,IntKind.i64.wrap (s39.2.1+1),()))
 (aO aQ (List.map aQ.enc a0.2.2.2.2.2) s39.2.1
 fun (y40:fQ) =>
 X38 (decide (y40.1=3),IntKind.i64.wrap (s39.2.1+1),())))
 (aB (!s39.1)
 (aG [(false,Sy.int IntKind.i64)]
 (bR [aC true aL a0,aC true aE a1])
 fun (y41:Int) =>
 aB (decide (y41=0))
 (aG [(false,Sy.int IntKind.i64)]
 (bR [aC true aL a0,aC true aE a1])
 fun (y42:Int) =>
 aB (decide (y42=0))
 (aG [(false,Sy.int IntKind.i64)]
 (bR
 [T.agg
 [T.v (.string a0.1),
 T.sl false (List.map bE.enc a0.2.1),
 T.sl false (List.map aU.enc a0.2.2.1),
 T.sl false (List.map a6.enc a0.2.2.2.1),
 T.v (Value.slice none 0 0),
 T.sl false (List.map aQ.enc a0.2.2.2.2.2)],
 aC true aE a1])
 fun (y43:Int) =>
 aB (decide (y43=0))
 (aG [(false,Sy.bool)] (dB []) fun (y44:Bool) =>
 R (T.v (.bool y44)))
 (R (T.v (.bool false))))
 (R (T.v (.bool false))))
 (R (T.v (.bool false))))
 (aG [(false,Sy.int IntKind.i64)]
 (bR [aC true aL a0,aC true aE a1])
 fun (y45:Int) =>
 aB (decide (y45=0))
 (aG [(false,Sy.int IntKind.i64)]
 (bR [aC true aL a0,aC true aE a1])
 fun (y46:Int) =>
 aB (decide (y46=0))
 (aG [(false,Sy.int IntKind.i64)]
 (bR
 [aC true aL a0,aC true aE a1])
 fun (y47:Int) =>
 aB (decide (y47=0))
 (aG [(false,Sy.bool)] (dB []) fun (y48:Bool) =>
 R (T.v (.bool y48)))
 (R (T.v (.bool false))))
 (R (T.v (.bool false))))
 (R (T.v (.bool false))))))
 (false,0,()))))))
theorem YD ( a0 a1 a2 R):bC aY Tryz.prog GQ T8 8 6 [aC true aL a0,aC true aE a1,
 aC false (Sy.int IntKind.u8) a2] R=HK a0 a1 a2 R:=by kernel_rfl
abbrev uB:Sh:=[(true,aL),(true,aE),(false,(Sy.int IntKind.u8))]
def kT (x:aF×aN×Int):Option T:=match decide (0≤x.2.2∧x.2.2≤255) with
 | true=>(match IL x.1 60 with
  | true=>rH x.1 (.v (.bool true))
  | false=>some (.v (.bool true)))
 | false=>none
noncomputable def VM:List T→Option (T):=gS uB kT
theorem AN7 (h:∀ a0 a1 a2 r,kT (a0,a1,a2)=some r→b8 uB (a0,a1,a2)→HK a0 a1 a2 (fun y=>y=r)):aK Tryz.prog 6 VM :=
 aR (E:=GQ) (Hs:=T8) ACD aW aX (aM rfl) 8 ⟨_,_,Tryz.func6,rfl⟩ rfl fun x r h1 h2=>by
  obtain ⟨a0,a1,a2⟩:=x
  rw[show Sh.bN uB (a0,a1,a2)=[aC true aL a0,aC true aE a1,
 aC false (Sy.int IntKind.u8) a2] from rfl,YD]
  exact h a0 a1 a2 r h1 h2
theorem AYJ (d:aF) (m:aN):bR [aC true aL d,aC true aE m]=some (Sh.enc [(false,.int .i64)] (iH d m)):=by
 unfold bR gD
 rw[List.map_cons,List.map_cons,List.map_nil,mG 3 (ag:=true) (r:=aL) d rfl rfl,mG 3 (ag:=true) (r:=aE) m rfl rfl]
 exact VL ..
theorem AST (h:ByteArray) (N:List gT) (P:List bM) (S:List l9) (E:List fQ) (m:aN) :
  bR [T.agg [T.v (.string h),T.sl false (List.map bE.enc N),T.sl false (List.map aU.enc P),T.sl false (List.map a6.enc S),T.v (Value.slice none 0 0),T.sl false (List.map aQ.enc E)],aC true aE m]=some (Sh.enc [(false,.int .i64)] (iH (h,N,P,S,[],E) m)):=by
 have e:([T.agg [T.v (.string h),T.sl false (List.map bE.enc N),T.sl false (List.map aU.enc P),T.sl false (List.map a6.enc S),T.v (Value.slice none 0 0),T.sl false (List.map aQ.enc E)],aC true aE m]).map (T.deep 4)=[aC true aL (h,N,P,S,[],E),aC true aE m]:=by
  rw[List.map_cons,List.map_cons,List.map_nil,mG 3 (ag:=true) (r:=aE) m rfl rfl]
  have e1:=mG 2 (ag:=false) (r:=.li bE) N rfl rfl
  have e2:=mG 2 (ag:=false) (r:=.li aU) P rfl rfl
  have e3:=mG 2 (ag:=false) (r:=.li a6) S rfl rfl
  have e5:=mG 2 (ag:=false) (r:=.li aQ) E rfl rfl
  refine congrArg (fun t=>[t,aC true aE m]) ?_
  show T.agg [T.v (.string h),T.deep 3 (aC false (.li bE) N),T.deep 3 (aC false (.li aU) P),T.deep 3 (aC false (.li a6) S),T.sl false [],T.deep 3 (aC false (.li aQ) E)]=_
  rw[e1,e2,e3,e5];rfl
 unfold bR gD
 rw[e]
 exact VL ..
theorem RQ (r:Sy) (l:List r.den):kR r.w (List.map r.enc l)=true:=by
 have h:=pE r l
 cases l with
 | nil=>rfl
 | cons a l =>
  rw[List.map_cons,ASJ,Bool.and_eq_true] at h
  exact h.1
section
variable {r : Sy} {z : Nat} {l : List r.den} {i : Int}
theorem AAZ (hz:r.w=z) (h0:0≤i) (h1:i<l.length):(kR z (List.map r.enc l)&&(decide (0≤i)&&decide (i.toNat≤(List.map r.enc l).length))&&true)=true:=by
 subst hz
 rw[RQ,List.length_map,decide_eq_true h0,decide_eq_true (by omega)];rfl
theorem AUJ (hz:r.w=z) (n:Nat):gU z (List.drop 0 (List.take n (List.map r.enc l)))=true:=by
 subst hz
 rw[List.drop_zero,←List.map_take];exact pE ..
theorem AUF (hz:r.w=z) (n:Nat):gU z (List.drop n (List.take (List.map r.enc l).length (List.map r.enc l)))=true:=by
 subst hz
 rw[List.take_length,←List.map_drop];exact pE ..
theorem AA0 {b:Nat} (hz:r.w=z) (hb:b≤1000) (hl:l.length≤60) (n:Nat):(gU z (List.drop 0 (List.take n (List.map r.enc l)))&&true&&decide ((List.drop 0 (List.take n (List.map r.enc l))).length*b≤140737488355328)&&decide ((List.drop 0 (List.take n (List.map r.enc l))).length≤140737488355328))=true:=by
 have e:(List.drop 0 (List.take n (List.map r.enc l))).length≤60:=by
  rw[List.drop_zero,List.length_take,List.length_map];omega
 have e2:(List.drop 0 (List.take n (List.map r.enc l))).length*b≤60*1000:=Nat.mul_le_mul e hb
 rw[AUJ hz,decide_eq_true (by omega),decide_eq_true (by omega)];rfl
theorem VV (h0:0≤i) (h1:i<l.length) (hl:l.length≤60):IntKind.i64.wrap (i+1)=i+1:=by rw[aS]<;>omega
theorem AA1 (hz:r.w=z) (h0:0≤i) (h1:i<l.length) (hl:l.length≤60):(kR z (List.map r.enc l)&&decide ((List.map r.enc l).length≤(List.map r.enc l).length)&&(decide (0≤IntKind.i64.wrap (i+1))&&decide ((IntKind.i64.wrap (i+1)).toNat≤(List.map r.enc l).length)))=true:=by
 subst hz
 rw[VV (l:=l) h0 h1 hl,RQ,List.length_map,decide_eq_true (Nat.le_refl _),decide_eq_true (by omega),decide_eq_true (by omega)];rfl
theorem AA2 {b:Nat} (hz:r.w=z) (hb:b≤1000) (hl:l.length≤60) (n k:Nat):(gU z (List.drop k (List.take (List.map r.enc l).length (List.map r.enc l)))&&decide (((List.drop 0 (List.take n (List.map r.enc l))).length+(List.drop k (List.take (List.map r.enc l).length (List.map r.enc l))).length)*b≤140737488355328)&&decide ((List.drop 0 (List.take n (List.map r.enc l))).length+(List.drop k (List.take (List.map r.enc l).length (List.map r.enc l))).length≤140737488355328))=true:=by
 have e:(List.drop 0 (List.take n (List.map r.enc l))).length+(List.drop k (List.take (List.map r.enc l).length (List.map r.enc l))).length≤120:=by
  rw[List.drop_zero,List.length_take,List.length_drop,List.length_take,List.length_map];omega
 have e2:=Nat.mul_le_mul e hb
 rw[AUF hz,decide_eq_true (by omega),decide_eq_true (by omega)];rfl
theorem VU (h0:0≤i) (h1:i<l.length) (hl:l.length≤60):List.drop 0 (List.take i.toNat (List.map r.enc l))++List.drop (IntKind.i64.wrap (i+1)).toNat (List.take (List.map r.enc l).length (List.map r.enc l))=List.map r.enc (l.take i.toNat++l.drop (i+1).toNat):=by
 rw[VV (l:=l) h0 h1 hl,List.drop_zero,List.take_length,List.map_append,List.map_take,List.map_drop]
end
theorem AH7 {α:Type} (l:List α) {a b:Nat} (h:a≤b):(l.take a++l.drop b).Sublist l:=by
 have h1:(l.drop b).Sublist (l.drop a):=by
  rw[show b=a+(b-a) by omega,←List.drop_drop]
  exact List.drop_sublist _ _
 have h2:=(List.Sublist.refl (l.take a)).append h1
 rwa[List.take_append_drop] at h2
theorem AAY {n:Nat} {a:Int} (h:0≤a∧a≤255) (hn:0<n):0≤(IntKind.i64.wrap a).tmod (n:Int)∧(IntKind.i64.wrap a).tmod (n:Int)<n:=by
 rw[aS _ (by omega) (by omega),Int.tmod_eq_emod_of_nonneg h.1]
 exact ⟨Int.emod_nonneg _ (by omega),Int.emod_lt_of_pos _ (by omega)⟩
theorem KM {R:T→Prop} (hR:R (T.v (.bool true))):aG [(false,Sy.bool)] (dB []) (fun (y:Bool)=>R (T.v (.bool y))):=CF hR
theorem zI {E:List fQ} (hE:E.length≤60) {m tx ty tz td:T} {R:T→Prop} (hR:R (T.v (.bool true)))
  (hx:bR [tx,m]=some (Sh.enc [(false,.int .i64)] (0:Int))) (hy:bR [ty,m]=some (Sh.enc [(false,.int .i64)] (0:Int))) (hz:(∀ e∈E,¬ e.1=3)→bR [tz,m]=some (Sh.enc [(false,.int .i64)] (0:Int))) (hd:bR [td,m]=some (Sh.enc [(false,.int .i64)] (0:Int))) :
 bA (Bool×Int×PUnit)
  (fun (X5:Bool×Int×PUnit→Prop) (s6:Bool×Int×PUnit) =>
  aB (decide (s6.2.1<(↑(List.map aQ.enc E).length:Int)))
  (aB s6.1 (X5 (true,IntKind.i64.wrap (s6.2.1+1),()))
   (aO aQ (List.map aQ.enc E) s6.2.1 fun (y7:fQ)=>X5 (decide (y7.1=3),IntKind.i64.wrap (s6.2.1+1),())))
  (aB (!s6.1)
   (aG [(false,Sy.int IntKind.i64)] (bR [tx,m]) fun (y8:Int) =>
   aB (decide (y8=0))
    (aG [(false,Sy.int IntKind.i64)] (bR [ty,m]) fun (y9:Int) =>
    aB (decide (y9=0))
     (aG [(false,Sy.int IntKind.i64)] (bR [tz,m]) fun (y10:Int) =>
     aB (decide (y10=0))
      (aG [(false,Sy.bool)] (dB []) fun (y11:Bool)=>R (T.v (.bool y11)))
      (R (T.v (.bool false))))
     (R (T.v (.bool false))))
    (R (T.v (.bool false))))
   (aG [(false,Sy.int IntKind.i64)] (bR [tx,m]) fun (y8:Int) =>
   aB (decide (y8=0))
    (aG [(false,Sy.int IntKind.i64)] (bR [ty,m]) fun (y9:Int) =>
    aB (decide (y9=0))
     (aG [(false,Sy.int IntKind.i64)] (bR [td,m]) fun (y10:Int) =>
     aB (decide (y10=0))
      (aG [(false,Sy.bool)] (dB []) fun (y11:Bool)=>R (T.v (.bool y11)))
      (R (T.v (.bool false))))
     (R (T.v (.bool false))))
    (R (T.v (.bool false))))))
  (false,0,()):=by
 refine aZ E.length (fun k s=>s.2.1=(k:Int)∧(s.1=false→∀ e∈E.take k,¬ e.1=3)) ⟨rfl,fun _ e he=>by simp at he⟩ ?_
 rintro X k ⟨b,i,un⟩ hk ⟨rfl,hb⟩ hX
 dsimp only at hb ⊢
 refine bL (fun hlt=>?_) fun hge=>?_
 ·rw[List.length_map] at hlt
  have hlt:k<E.length:=by omega
  have hw:IntKind.i64.wrap ((k:Int)+1)=((k+1:Nat):Int):=by rw[aS]<;>omega
  refine rS (fun ht=>hX _ hlt ⟨hw,fun h=>Bool.noConfusion h⟩) fun hf=>?_
  rw[aT (r:=aQ) hlt]
  refine hX _ hlt ⟨hw,fun h e he=>?_⟩
  rw[List.take_add_one,List.mem_append] at he
  rcases he with he|he
  ·exact hb hf e he
  ·rw[List.getElem?_eq_getElem hlt] at he
   have he:e=E[k]:=by simpa using he
   subst he
   exact of_decide_eq_false h
 ·rw[List.length_map] at hge
  have:k=E.length:=by omega
  subst this
  rw[List.take_length] at hb
  refine dM (fun hf=>?_) fun _=>?_
  ·refine aD (s:=[(false,.int .i64)]) hx (bL (fun _=>?_) fun h=>absurd rfl h)
   refine aD (s:=[(false,.int .i64)]) hy (bL (fun _=>?_) fun h=>absurd rfl h)
   refine aD (s:=[(false,.int .i64)]) (hz (hb hf)) (bL (fun _=>?_) fun h=>absurd rfl h)
   exact KM hR
  ·refine aD (s:=[(false,.int .i64)]) hx (bL (fun _=>?_) fun h=>absurd rfl h)
   refine aD (s:=[(false,.int .i64)]) hy (bL (fun _=>?_) fun h=>absurd rfl h)
   refine aD (s:=[(false,.int .i64)]) hd (bL (fun _=>?_) fun h=>absurd rfl h)
   exact KM hR
theorem AMM:aK Tryz.prog 6 VM:=AN7 fun d m a r h hb=>by
 clear hb
 have ha:0≤a∧a≤255:=by
  unfold kT at h
  split at h
  ·rename_i h1;exact of_decide_eq_true h1
  ·cases h
 have h:(match IL d 60 with
  | true=>rH d (.v (.bool true))
  | false=>some (.v (.bool true)))=some r:=by
  unfold kT at h
  rw[show decide (0≤(d,m,a).2.2∧(d,m,a).2.2≤255)=true from decide_eq_true ha] at h
  exact h
 unfold HK
 refine AY1 ?_
 cases hf:IL d 60 with
 | false =>
  rw[hf] at h
  cases h
  exact dM (fun _=>CF rfl) fun h=>Bool.noConfusion h
 | true =>
  rw[hf] at h
  obtain ⟨hu,rfl⟩:=lX h
  clear h
  refine dM (fun h=>Bool.noConfusion h) fun _=>?_
  refine AL5 hu ?_
  refine gP (fun _=>CF rfl) fun hc=>?_
  have hlen:d.2.2.2.1.length≤60∧d.2.2.2.2.2.length≤60:=by
   simp only[IL,Bool.and_eq_true,decide_eq_true_eq] at hf;omega
  have zero:∀ {x:aF},iH x m=0→bR [aC true aL x,aC true aE m]=some (Sh.enc [(false,.int .i64)] (0:Int)):=fun {x} h=>by rw[AYJ,h]
  have hd:=zero hc
  have hz:(∀ e∈d.2.2.2.2.2,¬ e.1=3)→bR [T.agg [T.v (.string d.1),T.sl false (List.map bE.enc d.2.1),T.sl false (List.map aU.enc d.2.2.1),T.sl false (List.map a6.enc d.2.2.2.1),T.v (Value.slice none 0 0),T.sl false (List.map aQ.enc d.2.2.2.2.2)],aC true aE m]=some (Sh.enc [(false,.int .i64)] (0:Int)):=fun h=>by
   rw[AST,AUH hc h]
  have hx:∀ {i:Int},0≤i→i<d.2.2.2.1.length→bR [T.agg [T.v (.string d.1),T.sl false (List.map bE.enc d.2.1),T.sl false (List.map aU.enc d.2.2.1),T.sl false (List.drop 0 (List.take i.toNat (List.map a6.enc d.2.2.2.1))++List.drop (IntKind.i64.wrap (i+1)).toNat (List.take (List.map a6.enc d.2.2.2.1).length (List.map a6.enc d.2.2.2.1))),T.sl false (List.map aP.enc d.2.2.2.2.1),T.sl false (List.map aQ.enc d.2.2.2.2.2)],aC true aE m]=some (Sh.enc [(false,.int .i64)] (0:Int)):=fun {i} h0 h1=>by
   rw[VU (r:=a6) h0 h1 hlen.1]
   exact zero (AUI hc (AH7 _ (by omega)))
  have hy:∀ {i:Int},0≤i→i<d.2.2.2.2.2.length→bR [T.agg [T.v (.string d.1),T.sl false (List.map bE.enc d.2.1),T.sl false (List.map aU.enc d.2.2.1),T.sl false (List.map a6.enc d.2.2.2.1),T.sl false (List.map aP.enc d.2.2.2.2.1),T.sl false (List.drop 0 (List.take i.toNat (List.map aQ.enc d.2.2.2.2.2))++List.drop (IntKind.i64.wrap (i+1)).toNat (List.take (List.map aQ.enc d.2.2.2.2.2).length (List.map aQ.enc d.2.2.2.2.2)))],aC true aE m]=some (Sh.enc [(false,.int .i64)] (0:Int)):=fun {i} h0 h1=>by
   rw[VU (r:=aQ) h0 h1 hlen.2]
   exact zero (AUG hc (AH7 _ (by omega)))
  refine aD (s:=[(false,.int .i64)]) hd ?_
  refine gP (fun h=>absurd rfl h) fun _=>?_
  have pos:∀ {α β:Type} {f:α→β} {l:List α},(0:Int)<((List.map f l).length:Int)→(!decide (((List.map f l).length:Int)=0))=true∧0<l.length:=fun h=>by
   rw[List.length_map] at h ⊢
   exact ⟨by simp only[Bool.not_eq_true',decide_eq_false_iff_not];omega,by omega⟩
  refine bL (fun hs=>?_) fun hs=>?_
  ·obtain ⟨p1,p2⟩:=pos hs
   have q:=AAY ha p2
   have q':0≤(IntKind.i64.wrap a).tmod ((List.map a6.enc d.2.2.2.1).length:Int)∧(IntKind.i64.wrap a).tmod ((List.map a6.enc d.2.2.2.1).length:Int)<(d.2.2.2.1.length:Int):=by rw[List.length_map];exact q
   refine ⟨p1,AAZ (r:=a6) rfl q'.1 q'.2,AA0 (r:=a6) rfl (by decide) hlen.1 _,AA1 (r:=a6) rfl q'.1 q'.2 hlen.1,AA2 (r:=a6) rfl (by decide) hlen.1 _ _,?_⟩
   refine bL (fun hn=>?_) fun hn=>?_
   ·obtain ⟨p3,p4⟩:=pos hn
    have w:=AAY ha p4
    have w':0≤(IntKind.i64.wrap a).tmod ((List.map aQ.enc d.2.2.2.2.2).length:Int)∧(IntKind.i64.wrap a).tmod ((List.map aQ.enc d.2.2.2.2.2).length:Int)<(d.2.2.2.2.2.length:Int):=by rw[List.length_map];exact w
    refine ⟨p3,AAZ (r:=aQ) rfl w'.1 w'.2,AA0 (r:=aQ) rfl (by decide) hlen.2 _,AA1 (r:=aQ) rfl w'.1 w'.2 hlen.2,AA2 (r:=aQ) rfl (by decide) hlen.2 _ _,?_⟩
    exact zI (R:=fun y=>y=T.v (.bool true)) hlen.2 rfl (hx q'.1 q'.2) (hy w'.1 w'.2) hz hd
   ·exact zI (R:=fun y=>y=T.v (.bool true)) hlen.2 rfl (hx q'.1 q'.2) hd hz hd
  ·refine bL (fun hn=>?_) fun hn=>?_
   ·obtain ⟨p3,p4⟩:=pos hn
    have w:=AAY ha p4
    have w':0≤(IntKind.i64.wrap a).tmod ((List.map aQ.enc d.2.2.2.2.2).length:Int)∧(IntKind.i64.wrap a).tmod ((List.map aQ.enc d.2.2.2.2.2).length:Int)<(d.2.2.2.2.2.length:Int):=by rw[List.length_map];exact w
    refine ⟨p3,AAZ (r:=aQ) rfl w'.1 w'.2,AA0 (r:=aQ) rfl (by decide) hlen.2 _,AA1 (r:=aQ) rfl w'.1 w'.2 hlen.2,AA2 (r:=aQ) rfl (by decide) hlen.2 _ _,?_⟩
    exact zI (R:=fun y=>y=T.v (.bool true)) hlen.2 rfl hd (hy w'.1 w'.2) hz hd
   ·exact zI (R:=fun y=>y=T.v (.bool true)) hlen.2 rfl hd hd hz hd
theorem AOV:∀ x,AFG (2 ^ 40) uB x→kT x=some (.v (.bool true)):=by
 rintro ⟨d,m,a⟩ ⟨h,_,h3⟩
 have h:A0 (2 ^ 40) aL d:=h
 have ha:0≤a∧a≤255:=by
  have h3:(decide (IntKind.u8.min≤a)&&decide (a≤IntKind.u8.max))=true:=h3
  rw[Bool.and_eq_true] at h3
  exact ⟨of_decide_eq_true h3.1,of_decide_eq_true h3.2⟩
 unfold kT
 rw[show decide (0≤(d,m,a).2.2∧(d,m,a).2.2≤255)=true from decide_eq_true ha]
 dsimp only
 cases hf:IL d 60 with
 | false=>rfl
 | true=>exact lY _ (A4R (by decide) hf h)
end Go.Pv
