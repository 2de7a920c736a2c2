/-
  edit.Apply, the kinds 5 and 6 (the copied parts are turned in place).
  shipyardref16.Few, shipyardref19.Few.
  edit.Apply with a kind that there is not; edit.Apply.
  Designs that an edit makes are not too large.
  Change orders, plain: an order has the effect of its beginning followed by the rest.
  change.Apply: an order, edit by edit.
  version's copies: they are what was copied.
  version's copies of designs, orders, catalogs.
  Histories, plain: what orders one after another make of a design; a history's versions.
  A history's readers: Latest, At, Since; what orders one after another make of a design.
  Catalogs that are not too large (without the rest of Pye).
  VersionChanges, plain: maps of first elements, what differs; the least behind the last.
  slices.Sort, Compact, DeleteFunc, Grow at strings.
  edit.Touches.
  Ascending lists of strings, each once (plain).
  VersionChanges, plain: what two designs differ in, ascending.
  shipyardref19.Touches.
  shipyardref19.Touches.
  ChangeTouches, plain: what orders name.
  shipyardref20.with, Touched, Conflicts, Few.
  VersionChanges: maps of records keyed by strings, and ranges over them.
  Sets of names as maps, and ranges over them.
  change.Touched, Conflicts.
  version.Changed: what it asks of elements.
  version.Changed.
  Edits of different elements do not touch each other (plain).
  Two accepted edits that name nothing in common lead to one design in both sequences (plain).
  Edits that name nothing in common (plain).
  Change orders, plain: what becomes of parts.
  EditOne (plain): what was added to a valid design can be removed from it again, and that leads back.
  Change orders that name nothing in common lead to one design in both sequences (plain).
  VersionReplays, plain: what an order changes it touches; orders that were accepted one after the other.
  The examples of chapter 21, run by the kernel.
  VersionReplays: the orders behind a version lead to the latest one; what an order changes it touches.
-/
import Derived.Test.YtcnfagefgkblkaaGreatDoorVrz2
import Derived.Test.YtcnfagefgkblkaaGreatDoorVrz1
import Derived.Test.YtcnfagefgkblkaaGreatDoorVrkp
import Derived.Test.YtcnfagefgkblkaaGreatDoorVrkj
import Derived.Test.YtcnfagefgkblkaaGreatDoorVrky
import Derived.Test.YtcnfagefgkblkaaGreatDoorVrkn
import Derived.Test.YtcnfagefgkblkaaGreatDoorVrkq
import Derived.Test.YtcnfagefgkblkaaGreatDoorVrkr
import Derived.Test.YtcnfagefgkblkaaGreatDoorVrlv
import Derived.KernelRfl
import Derived.Sort.Walk0
import Derived.Test.YtcnfagefgkblkaaGreatDoorVrcb
import Derived.Test.YtcnfagefgkblkaaGreatDoorVrgs
set_option linter.defProp false
set_option linter.unusedSimpArgs false
set_option linter.unusedVariables false
set_option maxRecDepth 100000
namespace Go.Pv
open Go Go.Proofs IntKind
variable {α:Type}
def AON {is:α->Bool} {f:α->α} {l:List α} {k:Nat} (hk:k<l.length) (h:l.findIdx is=k):OL is f l=l.set k (f l[k]):=by
 unfold OL;rw[h];refine List.ext_getElem (by simp) λi h1 h2=>?_;rw[List.getElem_modify,List.getElem_set];by_cases e:k=i
 ·subst e;simp
 ·simp[e]
def AQJ {r:Sy} {l:List r.den} {k:Nat} {y:r.den} {row:List T} (h:row=r.enc y):(List.map r.enc l).set k row=List.map r.enc (l.set k y):=by rw[h,List.map_set]
def VN {α:Type}:∀ (s pre r:List α),r.length=s.length->bR (pre++r) pre.length s=pre++s
 | [],pre,[],_=>rfl
 | [],_,_::_,h=>by cases h
 | _::_,_,[],h=>by cases h
 | x::s,pre,a::r,h=>by
  unfold bR;rw[show (pre++a::r).set pre.length x=(pre++[x])++r by simp,show pre.length+1=(pre++[x]).length by simp,VN s (pre++[x]) r (by simpa using h)];simp
def ANZ (r s:List α) (h:r.length=s.length):bR r 0 s=s:=VN s [] r h
def AF8 {d:aB} {id:iII} (h:(partOf d id).isSome=true):d.2.2.1≠[]:=by
 intro e;unfold partOf at h;rw[e] at h;cases h
def AF7 {d:aB} {id:iII} (h:(partOf d id).isSome=true):d.2.2.1.any (λp=>cR id p)=true:=by
 unfold partOf at h;rw[List.find?_isSome] at h;obtain ⟨p,hp,h⟩:=h;exact List.any_eq_true.2 ⟨p,hp,h⟩
def VB {d:aB} {n:Nat} (h:d.2.2.1≠[]) (hn:n=aJ.w):(!(List.map aJ.enc d.2.2.1).isEmpty&&eP n (List.map aJ.enc d.2.2.1))=true:=by
 subst hn;rw[ac];refine ⟨?_,tQ ..⟩;cases hl:d.2.2.1 with
 | nil=>exact absurd hl h
 | cons a l=>rfl
def MT (a0:aB) (a1:aG) (a2:dG):List T:=[aF true aC a0,aF true aK a1,aF true aN (6,a2)]
noncomputable def AXY:Env:=Env.of [(118,.pure cV),(235,.pure UL),(119,.pure lO),(229,.pure j8),(160,.pure iI),(120,.part 2 PS),(26,.pure cM)]
def BGL:FuncId->Hint:=bT 231 [(2,.inv [.val 8 false (.int .i64)])] (λ_=>aX)
def BA0:aQ Tryz.prog AXY:=.cons jF (.cons BKE (.cons E8 (.cons tZ (.cons vQ (.cons AO1 (.cons jU (.nil _)))))))
def BTY:T:=aF true aC (cC,[],[],[],[],[])
def BT0:Sh:=[(false,Sy.bool)]
def BT3:Sh:=[(false,Sy.int IntKind.i64)]
def BT7:Sh:=[(true,aJ),(false,Sy.bool)]
def BUE(y3:aB):List (List T):=List.map aJ.enc y3.2.2.1
def BUM(y3:aB):List (List T):=List.map aE.enc y3.2.2.2.2.1
def BUW(X4:Int×PUnit->Prop)(s5:Int×PUnit):Prop:=X4 (i64.wrap (s5.1+1),())
def BUO(y3:aB):List (List T):=List.map aV.enc y3.2.2.2.1
def BUS(y3:aB):List (List T):=List.map aS.enc y3.2.1
def BUT(y3:aB):List (List T):=List.map aW.enc y3.2.2.2.2.2
def BU2(y3:aB)(y12:List T)(a2:dG):List T:=[pPQ y3.1, T.sl false (BUS y3), T.sl false ((BUE y3).set (-1).toNat (bR y12 3 [pPQ a2.2.1])), T.sl false (BUO y3), T.sl false (BUM y3), T.sl false (BUT y3)]
def BU3(y3:aB)(s5:Int×PUnit)(y9:List T)(a2:dG):List T:=[pPQ y3.1, T.sl false (BUS y3), T.sl false ((BUE y3).set (Int.toNat s5.1) (bR y9 3 [pPQ a2.2.1])), T.sl false (BUO y3), T.sl false (BUM y3), T.sl false (BUT y3)]
def BVA(R:T->Prop)(y10:Int):Prop:=R (T.bX [BTY, pPP y10])
def BVB(R:T->Prop):Prop:=R (T.bX [BTY, pPP 2])
def BVC(R:T->Prop):Prop:=R (T.bX [BTY, pPP 8])
def AZ6(a0:aB)(a1:aG)(a2:dG)(R:T->Prop):Prop:=aI [(true,aN)] (UL [(aF true aN (6,a2))]) λ(y0:aZ)=>aI BT0 (cV [(aF true aN (6,a2)), aF true aN y0]) λ(y1:Bool)=>aD (!y1) (BVB R) (aI BT7 (lO [aF true aC a0,pPQ a2.1]) λ(y2:bB×Bool)=>aD (!y2.2) (BVC R) (aI [(true,aC)] (PS [aF true aC a0]) λ(y3:aB)=>bH (!(BUE y3).isEmpty && eP (1+(1+(1+(1+(1+(1+(1+1+(1+(1+(1+(1+(1+1)+(1+(1+1)+1)))))))))))) (BUE y3)) (a7 (Int×PUnit) (λX4 s5=>aD (decide (s5.1<(↑(BUE y3).length:Int))) (aP aJ (BUE y3) s5.1 λ(y6:bB)=>eK aJ (BUE y3) (Int.toNat s5.1) 0 λ(y7:bB)=>aD (decide (y7.1=a2.1)) (aP aJ (BUE y3) s5.1 λ(y8:bB)=>GN (BUE y3) (Int.toNat s5.1) λ(y9:List T)=>bH (decide (4<=y9.length)) (aI BT3 (cM [T.agg (BU3 y3 s5 y9 a2), aF true aK a1]) λ(y10:Int)=>aD (!decide (y10=0)) (BVA R y10) (R (T.bX [T.agg (BU3 y3 s5 y9 a2), pPP 0])))) (BUW X4 s5)) (aP aJ (BUE y3) (-1) λ(y11:bB)=>GN (BUE y3) (-1).toNat λ(y12:List T)=>bH (decide (4<=y12.length)) (aI BT3 (cM [T.agg (BU2 y3 y12 a2), aF true aK a1]) λ(y13:Int)=>aD (!decide (y13=0)) (BVA R y13) (R (T.bX [T.agg (BU2 y3 y12 a2), pPP 0]))))) (0,()))))
def AZ7 ( a0 a1 a2 R):dV bS Tryz.prog AXY BGL 8 83 (MT a0 a1 a2) R=AZ6 a0 a1 a2 R:=by kernel_rfl
noncomputable def ANL:oI->Option T:=EC 6
def AQX (x y:oI) (h:MT x.1 x.2.1 x.2.2=MT y.1 y.2.1 y.2.2):x=y:=lM 6 x y h
noncomputable def A43:List T->Option (T):=gA (λ(x:aB×aG×dG)=>MT x.1 x.2.1 x.2.2) ANL
def A44 (a0:aB) (a1:aG) (a2:dG):A43 (MT a0 a1 a2)=ANL (a0,a1,a2):=eR (A:=(λ(x:aB×aG×dG)=>MT x.1 x.2.1 x.2.2)) AQX (a0,a1,a2)
def BLN (h:∀ (a0:aB) (a1:aG) (a2:dG) (r:T),ANL (a0,a1,a2)=some r->(∀ t∈MT a0 a1 a2,Bd t)->AZ6 a0 a1 a2 (λy=>y=r)):aM Tryz.prog 83 A43 :=
 cG (E:=AXY) (Hs:=BGL) BA0 aR aU (aL rfl) 8 ⟨_,_,Tryz.func83,rfl⟩ λx r h1 h2=>by
  rw[AZ7];exact h x.1 x.2.1 x.2.2 r h1 h2
def BJO:aM Tryz.prog 83 A43:=BLN λd m x r h hb=>by
 clear hb;obtain ⟨hp,rfl⟩:=tE h;clear h;obtain ⟨hc,ho1,ho2⟩:=GC hp;have c:=fO hc;have hk:(1:Int)<=((6,x):aZ).1/\((6,x):aZ).1<=12:=by dsimp only;omega
 have lift:∀ {a:aB×Int},b6 d m (6,x)=a->∀ v,v=Sh.enc [(true,aC),(false,.int .i64)] a->v=Sh.enc [(true,aC),(false,.int .i64)] (b6 d m (6,x)):=λh v hv=>by rw[h];exact hv
 unfold AZ6 BVC BVB BVA BU3 BU2 BUT BUS BUO BUW BUM BUE BT7 BT3 BT0 BTY;have z1:UL [aF true aN (6,x)]=some (Sh.enc [(true,aN)] (dN (6,x))):=(A5U ..).trans rfl;refine aH (s:=[(true,aN)]) (y:=dN (6,x)) z1 ?_;have z2:cV [aF true aN (6,x),aF true aN (dN (6,x))]=some (Sh.enc pC (mB (6,x) (dN (6,x)))):=qY ..;refine aH (s:=pC) (y:=mB (6,x) (dN (6,x))) z2 ?_;refine jI (λh=>lift (EO hk h) _ rfl) λhE=>?_;have h5:¬ ((6,x):aZ).1=5:=by dsimp only;omega
 refine aH (s:=[(true,aJ),(false,.bool)]) (y:=found dO (partOf d (fT (6,x)))) ((qX ..).trans (by unfold lJ;dsimp only;rw[c.BA];rfl)) ?_;have ht:iP d (6,x)=(found dO (partOf d (fT (6,x)))).2:=(qA ..).symm;refine jI (λh=>lift (OE hk h5 hE rfl (ht.trans h)) _ rfl) λh=>?_;have hth:iP d (6,x) = !nM (6,x):=ht.trans h;have hus:sS d (6,x)=false:=rfl;have hso:(partOf d (fT (6,x))).isSome=true:=(qA ..).symm.trans h;refine aH (s:=[(true,aC)]) (y:=d) ((uB ..).trans (eY hc)) ⟨VB (AF8 hso) rfl,?_⟩;refine cX (r:=aJ) (λp=>cR (fT (6,x)) p) (pB c.p) (λX k y hlt hy hp hn=>?_) (λh0 ha=>absurd (AF7 hso) (by rw[ha];exact Bool.false_ne_true));rw[show Int.toNat (k:Int)=k from rfl,jJ (r:=aJ) hlt];refine bV (λhe=>?_) λhe=>hn (by subst hy;exact ai he);obtain ⟨hidx,_⟩:=hp (by subst hy;exact ah he);rw[bC (r:=aJ) hlt,pV (r:=aJ) hlt];refine ⟨by rw[Sy.dA];rfl,?_⟩;have hD:r4 d (6,x)=(d.1,d.2.1,d.2.2.1.set k (ALW d.2.2.1[k] (eTo (6,x))),d.2.2.2):=by
  have e:r4 d (6,x)=(d.1,d.2.1,OL (cR (fT (6,x))) (λp=>ALW p (eTo (6,x))) d.2.2.1,d.2.2.2):=rfl;rw[e,AON hlt hidx]
 have hs:(List.map aJ.enc d.2.2.1).set k (bR (aJ.enc d.2.2.1[k]) 3 [pPQ x.2.1])=List.map aJ.enc (d.2.2.1.set k (ALW d.2.2.1[k] (eTo (6,x)))):=AQJ (r:=aJ) rfl;rw[hs];have z3:=nS (a0:=r4 d (6,x)) (a1:=m);have hchk:=vG (m:=m) hk h5 hE hth hus;rw[hD] at z3 hchk;refine aH (s:=[(false,.int .i64)]) z3 ?_;exact lA (λh=>lift (hchk.trans (if_neg h)) _ rfl) λh=>lift (hchk.trans (if_pos h)) _ rfl
def MS (a0:aB) (a1:aG) (a2:dG):List T:=[aF true aC a0,aF true aK a1,aF true aN (5,a2)]
noncomputable def AXX:Env:=Env.of [(118,.pure cV),(227,.pure UK),(119,.pure lO),(229,.pure j8),(160,.pure iI),(120,.part 2 PS),(26,.pure cM)]
def BGK:FuncId->Hint:=bT 231 [(2,.inv [.val 8 false (.int .i64)])] (λ_=>aX)
def BAZ:aQ Tryz.prog AXX:=.cons jF (.cons BKD (.cons E8 (.cons tZ (.cons vQ (.cons AO1 (.cons jU (.nil _)))))))
def BT5:Sy:=Sy.int IntKind.i64
def BUD(y9:bB)(y11:Int):List T:=[pPQ y9.1, pPP (i64.wrap (y11+1)), pPP y9.2.2.1, pPQ y9.2.2.2.1, pPQ y9.2.2.2.2.1, pPP y9.2.2.2.2.2.1, T.sl false (List.map aA.enc y9.2.2.2.2.2.2.1.1), T.sl false (List.map aA.li.enc y9.2.2.2.2.2.2.1.2), pPQ y9.2.2.2.2.2.2.2.1, pPP y9.2.2.2.2.2.2.2.2.1, pPP y9.2.2.2.2.2.2.2.2.2.1, pPP y9.2.2.2.2.2.2.2.2.2.2.1.1, pPP y9.2.2.2.2.2.2.2.2.2.2.1.2.1, pPP y9.2.2.2.2.2.2.2.2.2.2.1.2.2, pPP y9.2.2.2.2.2.2.2.2.2.2.2.1.1, pPP y9.2.2.2.2.2.2.2.2.2.2.2.1.2.1, pPP y9.2.2.2.2.2.2.2.2.2.2.2.1.2.2, pPP y9.2.2.2.2.2.2.2.2.2.2.2.2]
def BU8(y4:aB)(y19:List T)(y15:bB)(y17:Int):List T:=[pPQ y4.1, T.sl false (BUS y4), T.sl false ((BUE y4).set (-1).toNat (bR y19 0 (BUD y15 y17))), T.sl false (BUO y4), T.sl false (BUM y4), T.sl false (BUT y4)]
def BU9(y4:aB)(s6:Int×PUnit)(y13:List T)(y9:bB)(y11:Int):List T:=[pPQ y4.1, T.sl false (BUS y4), T.sl false ((BUE y4).set (Int.toNat s6.1) (bR y13 0 (BUD y9 y11))), T.sl false (BUO y4), T.sl false (BUM y4), T.sl false (BUT y4)]
def AZ4(a0:aB)(a1:aG)(a2:dG)(R:T->Prop):Prop:=aI [(true,aN)] (UK [(aF true aN (5,a2))]) λ(y0:aZ)=>aI BT0 (cV [(aF true aN (5,a2)), aF true aN y0]) λ(y1:Bool)=>aD (!y1) (BVB R) (aD (!decide (a2.2.2.2.1.2.1=0)) (BVB R) (aI BT7 (lO [aF true aC a0,pPQ a2.2.2.2.1.1]) λ(y2:bB×Bool)=>aD (!y2.2) (BVC R) (aI BT7 (lO [aF true aC a0,pPQ a2.2.2.2.1.1]) λ(y3:bB×Bool)=>aD (!decide (y3.1.2.2.2.1=a2.2.2.2.1.2.2.2.1)) (BVB R) (aI [(true,aC)] (PS [aF true aC a0]) λ(y4:aB)=>bH (!(BUE y4).isEmpty && eP (1 + (1+(1+(1+(1+(1+(1+1+(1+(1+(1+(1+(1+1)+(1+(1+1)+1)))))))))))) (BUE y4)) (a7 (Int×PUnit) (λX5 s6=>aD (decide (s6.1<(↑(BUE y4).length:Int))) (aP aJ (BUE y4) s6.1 λ(y7:bB)=>eK aJ (BUE y4) (Int.toNat s6.1) 0 λ(y8:bB)=>aD (decide (y8.1=a2.2.2.2.1.1)) (aI [(true,aJ)] (iI [aF true aJ a2.2.2.2.1]) λ(y9:bB)=>aP aJ (BUE y4) s6.1 λ(y10:bB)=>eK BT5 (BUE y4) (Int.toNat s6.1) 1 λ(y11:Int)=>aP aJ (BUE y4) s6.1 λ(y12:bB)=>GN (BUE y4) (Int.toNat s6.1) λ(y13:List T)=>bH (decide (18<=y13.length)) (aI BT3 (cM [T.agg (BU9 y4 s6 y13 y9 y11), aF true aK a1]) λ(y14:Int)=>aD (!decide (y14=0)) (BVA R y14) (R (T.bX [T.agg (BU9 y4 s6 y13 y9 y11), pPP 0])))) (BUW X5 s6)) (aI [(true,aJ)] (iI [aF true aJ a2.2.2.2.1]) λ(y15:bB)=>aP aJ (BUE y4) (-1) λ(y16:bB)=>eK BT5 (BUE y4) (-1).toNat 1 λ(y17:Int)=>aP aJ (BUE y4) (-1) λ(y18:bB)=>GN (BUE y4) (-1).toNat λ(y19:List T)=>bH (decide (18<=y19.length)) (aI BT3 (cM [T.agg (BU8 y4 y19 y15 y17), aF true aK a1]) λ(y20:Int)=>aD (!decide (y20=0)) (BVA R y20) (R (T.bX [T.agg (BU8 y4 y19 y15 y17), pPP 0]))))) (0,()))))))
def AZ5 ( a0 a1 a2 R):dV bS Tryz.prog AXX BGK 8 83 (MS a0 a1 a2) R=AZ4 a0 a1 a2 R:=by kernel_rfl
noncomputable def ANK:oI->Option T:=EC 5
def AQW (x y:oI) (h:MS x.1 x.2.1 x.2.2=MS y.1 y.2.1 y.2.2):x=y:=lM 5 x y h
noncomputable def A41:List T->Option (T):=gA (λ(x:aB×aG×dG)=>MS x.1 x.2.1 x.2.2) ANK
def A42 (a0:aB) (a1:aG) (a2:dG):A41 (MS a0 a1 a2)=ANK (a0,a1,a2):=eR (A:=(λ(x:aB×aG×dG)=>MS x.1 x.2.1 x.2.2)) AQW (a0,a1,a2)
def BLM (h:∀ (a0:aB) (a1:aG) (a2:dG) (r:T),ANK (a0,a1,a2)=some r->(∀ t∈MS a0 a1 a2,Bd t)->AZ4 a0 a1 a2 (λy=>y=r)):aM Tryz.prog 83 A41 :=
 cG (E:=AXX) (Hs:=BGK) BAZ aR aU (aL rfl) 8 ⟨_,_,Tryz.func83,rfl⟩ λx r h1 h2=>by
  rw[AZ5];exact h x.1 x.2.1 x.2.2 r h1 h2
def BJN:aM Tryz.prog 83 A41:=BLM λd m x r h hb=>by
 clear hb;obtain ⟨hp,rfl⟩:=tE h;clear h;obtain ⟨hc,ho1,ho2⟩:=GC hp;have c:=fO hc;have hk:(1:Int)<=((5,x):aZ).1/\((5,x):aZ).1<=12:=by dsimp only;omega
 have lift:∀ {a:aB×Int},b6 d m (5,x)=a->∀ v,v=Sh.enc [(true,aC),(false,.int .i64)] a->v=Sh.enc [(true,aC),(false,.int .i64)] (b6 d m (5,x)):=λh v hv=>by rw[h];exact hv
 unfold AZ4 BVC BVB BVA BU9 BU8 BUT BUS BUO BUW BUM BUE BUD BT7 BT5 BT3 BT0 BTY;have z1:UK [aF true aN (5,x)]=some (Sh.enc [(true,aN)] (dN (5,x))):=(A5T ..).trans rfl;refine aH (s:=[(true,aN)]) (y:=dN (5,x)) z1 ?_;have z2:cV [aF true aN (5,x),aF true aN (dN (5,x))]=some (Sh.enc pC (mB (5,x) (dN (5,x)))):=qY ..;refine aH (s:=pC) (y:=mB (5,x) (dN (5,x))) z2 ?_;refine jI (λh=>lift (EO hk h) _ rfl) λhE=>?_;have hr:¬ (¬ (1<=((5,x):aZ).1/\((5,x):aZ).1<=12)):=λh=>h hk;refine lA (λh=>lift (by unfold b6;rw[if_neg hr,if_pos (.inr ⟨rfl,h⟩)]) _ rfl) λhrev=>?_;have hpl:¬ (mB (5,x) (dN (5,x))=false\/(((5,x):aZ).1=5/\¬ (cN (5,x)).2.1=0)):=λh=>h.elim (λe=>by rw[hE] at e;cases e) λe=>e.2 hrev;refine aH (s:=[(true,aJ),(false,.bool)]) (y:=found dO (partOf d (cN (5,x)).1)) ((qX ..).trans (by unfold lJ;dsimp only;rw[c.BA];rfl)) ?_;have ht:iP d (5,x)=(found dO (partOf d (cN (5,x)).1)).2:=(qA ..).symm;have had:¬ (nM (5,x)=true/\iP d (5,x)=true):=λh=>by cases h.1
 refine jI (λh=>lift (by unfold b6;rw[if_neg hr,if_neg hpl,if_neg had,if_pos ⟨rfl,ht.trans h⟩]) _ rfl) λh=>?_;have hno:¬ (nM (5,x)=false/\iP d (5,x)=false):=λe=>by rw[ht,h] at e;cases e.2
 have hso:(partOf d (cN (5,x)).1).isSome=true:=(qA ..).symm.trans h;refine aH (s:=[(true,aJ),(false,.bool)]) (y:=found dO (partOf d (cN (5,x)).1)) ((qX ..).trans (by unfold lJ;dsimp only;rw[c.BA];rfl)) ?_;refine lA (λh=>lift (by unfold b6;rw[if_neg hr,if_neg hpl,if_neg had,if_neg hno,if_pos ⟨rfl,h⟩]) _ rfl) λhnode=>?_;have hnd:¬ (((5,x):aZ).1=5/\¬ mO (found dO (partOf d (cN (5,x)).1)).1=mO (cN (5,x))):=λe=>e.2 hnode;have hchk:b6 d m (5,x)=if iF (r4 d (5,x)) m=0 then (r4 d (5,x),0) else (iR,iF (r4 d (5,x)) m):=by
  have hu:¬ sS d (5,x)=true:=λh=>by cases h
  unfold b6;rw[if_neg hr,if_neg hpl,if_neg had,if_neg hno,if_neg hnd,if_neg hu]
 refine aH (s:=[(true,aC)]) (y:=d) ((uB ..).trans (eY hc)) ⟨VB (AF8 hso) rfl,?_⟩;refine cX (r:=aJ) (λp=>cR (cN (5,x)).1 p) (pB c.p) (λX k y hlt hy hp hn=>?_) (λh0 ha=>absurd (AF7 hso) (by rw[ha];exact Bool.false_ne_true));rw[show Int.toNat (k:Int)=k from rfl,jJ (r:=aJ) hlt];refine bV (λhe=>?_) λhe=>hn (by subst hy;exact ai he);obtain ⟨hidx,_⟩:=hp (by subst hy;exact ah he);refine aH (s:=[(true,aJ)]) (y:=cN (5,x)) ((vT ..).trans (by unfold jA;rw[ho1])) ?_;rw[bC (r:=aJ) hlt];refine ⟨aJ.enc d.2.2.1[k],(d.2.2.1[k]).2.1,pL.2 (List.getElem?_eq_getElem hlt),by rw[Sy.dA];decide,rfl,?_⟩;dsimp only;rw[bC (r:=aJ) hlt,pV (r:=aJ) hlt];refine ⟨by rw[Sy.dA];rfl,?_⟩;have hD:r4 d (5,x)=(d.1,d.2.1,d.2.2.1.set k (AMP (cN (5,x)) d.2.2.1[k]),d.2.2.2):=by
  have e:r4 d (5,x)=(d.1,d.2.1,OL (cR (cN (5,x)).1) (AMP (cN (5,x))) d.2.2.1,d.2.2.2):=rfl;rw[e,AON hlt hidx]
 generalize hrow:bR (aJ.enc d.2.2.1[k]) 0 _=row;have hs:(List.map aJ.enc d.2.2.1).set k row=List.map aJ.enc (d.2.2.1.set k (AMP (cN (5,x)) d.2.2.1[k])):=AQJ (r:=aJ) (by rw[<-hrow,ANZ _ _ (by rw[Sy.dA];rfl)];rfl);rw[hs];have z3:=nS (a0:=r4 d (5,x)) (a1:=m);rw[hD] at z3 hchk;refine aH (s:=[(false,.int .i64)]) z3 ?_;exact lA (λh=>lift (hchk.trans (if_neg h)) _ rfl) λh=>lift (hchk.trans (if_pos h)) _ rfl
end Go.Pv
namespace Go.Pv
open Go Go.Proofs IntKind
end Go.Pv
namespace Go.Pv
open Go Go.Proofs IntKind
noncomputable def BNL:Env:=Env.of []
def BN6:FuncId->Hint:=λ_=>aX
def BAU:aQ Tryz.prog BNL:=.nil _
def AZV(a0:aB)(a1:aG)(a2:aZ)(R:T->Prop):Prop:=aD (decide (a2.1=1)) (aD (decide (a2.1=1)) (nJ 72) (nJ 72)) (aD (decide (a2.1=2)) (aD (decide (a2.1=1)) (nJ 72) (nJ 72)) (aD (decide (a2.1=3)) (aD (decide (a2.1=3)) (nJ 72) (nJ 72)) (aD (decide (a2.1=4)) (aD (decide (a2.1=3)) (nJ 72) (nJ 72)) (aD (decide (a2.1=5)) (nJ 72) (aD (decide (a2.1=6)) (nJ 72) (aD (decide (a2.1=7)) (aD (decide (a2.1=7)) (nJ 72) (nJ 72)) (aD (decide (a2.1=8)) (aD (decide (a2.1=7)) (nJ 72) (nJ 72)) (aD (decide (a2.1=9)) (aD (decide (a2.1=9)) (nJ 72) (nJ 72)) (aD (decide (a2.1=10)) (aD (decide (a2.1=9)) (nJ 72) (nJ 72)) (aD (decide (a2.1=11)) (nJ 72) (aD (decide (a2.1=12)) (nJ 72) (R (T.bX [T.agg [pPQ ({data:=#[]}),T.sl false [],T.sl false [], T.sl false [],T.sl false [],T.sl false []], pPP 10])))))))))))))
abbrev A86:Sh:=[(true,aC),(true,aK),(true,aN)]
def JU (x:aB×aG×aZ):Option T:=if 1<=x.2.2.1/\x.2.2.1<=12 then none else some (Sh.enc [(true,aC),(false,.int .i64)] (iR,10))
noncomputable def A4R:List T->Option T:=gS A86 JU
def A4S {a0 a1 a2}:A4R [aF true aC a0,aF true aK a1,aF true aN a2]=JU (a0,a1,a2):=bA (s:=A86) rfl (a0,a1,a2) rfl
def BLH:Of3 Tryz.prog 83 A4R JU (bY A86) AZV:=S2 (a1:=(true,aC)) (a2:=(true,aK)) (a3:=(true,aN)) (Hs:=BN6) (k:=2) BAU aR aU (aL rfl) ⟨_,_,Tryz.func83,rfl⟩ rfl λ_ _ _ _=>by kernel_rfl
def BJJ:aM Tryz.prog 83 A4R:=BLH λd m x r h hb=>by
 clear hb;unfold JU at h;split at h
 ·cases h
 rename_i hk;cases h;have hk:¬ (1<=x.1/\x.1<=12):=hk;unfold AZV;refine bV (λh=>absurd (by omega) hk) λ_=>?_;refine bV (λh=>absurd (by omega) hk) λ_=>?_;refine bV (λh=>absurd (by omega) hk) λ_=>?_;refine bV (λh=>absurd (by omega) hk) λ_=>?_;refine bV (λh=>absurd (by omega) hk) λ_=>?_;refine bV (λh=>absurd (by omega) hk) λ_=>?_;refine bV (λh=>absurd (by omega) hk) λ_=>?_;refine bV (λh=>absurd (by omega) hk) λ_=>?_;refine bV (λh=>absurd (by omega) hk) λ_=>?_;refine bV (λh=>absurd (by omega) hk) λ_=>?_;refine bV (λh=>absurd (by omega) hk) λ_=>?_;refine bV (λh=>absurd (by omega) hk) λ_=>?_;rfl
def LS (x:aB×aG×aZ):List T:=[aF true aC x.1,aF true aK x.2.1,aF true aN x.2.2]
noncomputable def GS (x:aB×aG×aZ):Option T:=match okX x.1 x.2.2 with
 | true=>some (Sh.enc [(true,aC),(false,.int .i64)] (b6 x.1 x.2.1 x.2.2))
 | false=>none
noncomputable def FC:List T->Option T:=gA LS GS
def AAR (x y:aB×aG×aZ) (h:LS x=LS y):x=y:=by
 simp only[LS,List.cons.injEq,and_true] at h;obtain ⟨h1,h2,h3⟩:=h;exact Prod.ext (mR (r:=aC) rfl h1) (Prod.ext (mR (r:=aK) rfl h2) (mR (r:=aN) rfl h3))
def AKR (d:aB) (m:aG) (x:aZ):FC [aF true aC d,aF true aK m,aF true aN x]=GS (d,m,x):=eR AAR (d,m,x)
def A32:aM Tryz.prog 83 FC:=⟨A31.entry,λw own args vs r hG ho ha hg=>by
 obtain ⟨⟨d,m,k,x⟩,rfl,h⟩:=XR hg;unfold GS at h;dsimp only at h;clear hg;by_cases c1:k=1
 ·subst c1;exact A31.calls w own _ vs r hG ho ha ((A4U d m x).trans h)
 by_cases c2:k=2
 ·subst c2;exact BJK.calls w own _ vs r hG ho ha ((A4W d m x).trans h)
 by_cases c3:k=3
 ·subst c3;exact BJL.calls w own _ vs r hG ho ha ((A4Y d m x).trans h)
 by_cases c4:k=4
 ·subst c4;exact BJM.calls w own _ vs r hG ho ha ((A40 d m x).trans h)
 by_cases c5:k=5
 ·subst c5;exact BJN.calls w own _ vs r hG ho ha ((A42 d m x).trans h)
 by_cases c6:k=6
 ·subst c6;exact BJO.calls w own _ vs r hG ho ha ((A44 d m x).trans h)
 by_cases c7:k=7
 ·subst c7;exact BJP.calls w own _ vs r hG ho ha ((A46 d m x).trans h)
 by_cases c8:k=8
 ·subst c8;exact BJQ.calls w own _ vs r hG ho ha ((A48 d m x).trans h)
 by_cases c9:k=9
 ·subst c9;exact BJR.calls w own _ vs r hG ho ha ((A5A d m x).trans h)
 by_cases c10:k=10
 ·subst c10;exact BDH.calls w own _ vs r hG ho ha ((AUP d m x).trans h)
 by_cases c11:k=11
 ·subst c11;exact BDI.calls w own _ vs r hG ho ha ((AUQ d m x).trans h)
 by_cases c12:k=12
 ·subst c12;exact BDJ.calls w own _ vs r hG ho ha ((AUR d m x).trans h)
 have hn:¬ (1<=k/\k<=12):=by omega
 have hr:some (Sh.enc [(true,aC),(false,.int .i64)] (b6 d m (k,x)))=some r:=by
  split at h
  ·exact h
  ·cases h
 refine BJJ.calls w own _ vs r hG ho ha ((A4S (a0:=d) (a1:=m) (a2:=(k,x))).trans ?_);rw[<-hr];unfold JU b6;rw[if_neg hn,if_pos hn]⟩
end Go.Pv
namespace Go.Pv
open Go Go.Proofs IntKind
structure oY (b:Nat) (d:aB):Prop where
 n:d.2.1.length<=b
 p:d.2.2.1.length<=b
 s:d.2.2.2.1.length<=b
 k:d.2.2.2.2.1.length<=b
 r:d.2.2.2.2.2.length<=b
def BML {e:aB} (hP:∀ q∈e.2.2.1,dP q=true) (hK:∀ q∈e.2.2.2.2.1,dI q=true) (n:e.2.1.length<=1000) (p:e.2.2.1.length<=1000) (s:e.2.2.2.1.length<=1000) (k:e.2.2.2.2.1.length<=1000) (r:e.2.2.2.2.2.length<=1000):rJ e=true:=by
 unfold rJ BA zR;rw[List.all_eq_true.2 hP,List.all_eq_true.2 hK,ah n,ah p,ah s,ah k,ah r];rfl
variable {α:Type}
def BCT {p:α->Bool} {f:α->α} {l:List α}:(OL p f l).length=l.length:=by unfold OL;exact List.length_modify ..
def XB {α:Type} {p:α->Bool} {f:α->α}:∀ {l:List α} {a:α},a∈OL p f l->a∈l\/∃ b∈l,a=f b
 | [],_,h=>by simp[OL] at h
 | z::l,a,h=>by
  unfold OL at h;rw[List.findIdx_cons] at h;cases hz:p z with
  | true =>
   rw[hz] at h;rcases List.mem_cons.1 (show a∈f z::l from h) with e|h
   ·exact .inr ⟨z,al,e⟩
   ·exact .inl (List.mem_cons_of_mem _ h)
  | false =>
   rw[hz] at h;rcases List.mem_cons.1 (show a∈z::OL p f l from h) with e|h
   ·exact .inl (e ▸ al)
   ·rcases XB h with h|⟨b,h,e⟩
    ·exact .inl (List.mem_cons_of_mem _ h)
    ·exact .inr ⟨b,List.mem_cons_of_mem _ h,e⟩
def A3M {b:Nat} {d:aB} {x:aZ} (h:oY b d):oY (b+1) (r4 d x):=by
 obtain ⟨ln,lp,ls,lk,lr⟩:=h;have i1:∀ {α:Type} {f:α->α->Bool} {l:List α} {a:α},l.length<=b->(j9 f l a).length<=b+1:=λh=>by rw[A6F];omega
 have i2:∀ {α:Type} {f:α->Bool} {l:List α},l.length<=b->(gE f l).length<=b+1:=λh=>Nat.le_trans ACL (by omega);have i3:∀ {α:Type} {l:List α},l.length<=b->l.length<=b+1:=λh=>by omega
 have i4:∀ {α:Type} {p:α->Bool} {f:α->α} {l:List α},l.length<=b->(OL p f l).length<=b+1:=λh=>by rw[BCT];omega
 unfold r4;by_cases h1:x.1=1
 ·rw[if_pos h1];exact ⟨i1 ln,i3 lp,i3 ls,i3 lk,i3 lr⟩
 rw[if_neg h1];by_cases h2:x.1=2
 ·rw[if_pos h2];exact ⟨i2 ln,i3 lp,i3 ls,i3 lk,i3 lr⟩
 rw[if_neg h2];by_cases h3:x.1=3
 ·rw[if_pos h3];exact ⟨i3 ln,i1 lp,i3 ls,i3 lk,i3 lr⟩
 rw[if_neg h3];by_cases h4:x.1=4
 ·rw[if_pos h4];exact ⟨i3 ln,i2 lp,i3 ls,i3 lk,i3 lr⟩
 rw[if_neg h4];by_cases h5:x.1=5
 ·rw[if_pos h5];exact ⟨i3 ln,i4 lp,i3 ls,i3 lk,i3 lr⟩
 rw[if_neg h5];by_cases h6:x.1=6
 ·rw[if_pos h6];exact ⟨i3 ln,i4 lp,i3 ls,i3 lk,i3 lr⟩
 rw[if_neg h6];by_cases h7:x.1=7
 ·rw[if_pos h7];exact ⟨i3 ln,i3 lp,i1 ls,i3 lk,i3 lr⟩
 rw[if_neg h7];by_cases h8:x.1=8
 ·rw[if_pos h8];exact ⟨i3 ln,i3 lp,i2 ls,i3 lk,i3 lr⟩
 rw[if_neg h8];by_cases h9:x.1=9
 ·rw[if_pos h9];exact ⟨i3 ln,i3 lp,i3 ls,i1 lk,i3 lr⟩
 rw[if_neg h9];by_cases h10:x.1=10
 ·rw[if_pos h10];exact ⟨i3 ln,i3 lp,i3 ls,i2 lk,i3 lr⟩
 rw[if_neg h10];by_cases h11:x.1=11
 ·rw[if_pos h11];exact ⟨i3 ln,i3 lp,i3 ls,i3 lk,i1 lr⟩
 rw[if_neg h11];exact ⟨i3 ln,i3 lp,i3 ls,i3 lk,i2 lr⟩
def A3N {d:aB} {x:aZ} (hD:BA d=true) (hp:dP (cN x)=true):BA (r4 d x)=true:=by
 have a1:∀ q∈d.2.2.1,dP q=true:=λq hq=>List.all_eq_true.1 hD q hq;have mk:∀ {e:aB},(∀ q∈e.2.2.1,dP q=true)->BA e=true:=λh=>List.all_eq_true.2 h;unfold r4;by_cases h1:x.1=1
 ·rw[if_pos h1];exact mk a1
 rw[if_neg h1];by_cases h2:x.1=2
 ·rw[if_pos h2];exact mk a1
 rw[if_neg h2];by_cases h3:x.1=3
 ·rw[if_pos h3];exact mk λq hq=>(P6.1 hq).elim (λe=>by rw[e];exact hp) (a1 q)
 rw[if_neg h3];by_cases h4:x.1=4
 ·rw[if_pos h4];exact mk λq hq=>a1 q (OX hq)
 rw[if_neg h4];by_cases h5:x.1=5
 ·rw[if_pos h5];exact mk λq hq=>(XB hq).elim (a1 q) λ⟨b,_,e⟩=>by rw[e];exact hp
 rw[if_neg h5];by_cases h6:x.1=6
 ·rw[if_pos h6];exact mk λq hq=>(XB hq).elim (a1 q) λ⟨b,hb,e⟩=>by rw[e];exact a1 b hb
 rw[if_neg h6];by_cases h7:x.1=7
 ·rw[if_pos h7];exact mk a1
 rw[if_neg h7];by_cases h8:x.1=8
 ·rw[if_pos h8];exact mk a1
 rw[if_neg h8];by_cases h9:x.1=9
 ·rw[if_pos h9];exact mk a1
 rw[if_neg h9];by_cases h10:x.1=10
 ·rw[if_pos h10];exact mk a1
 rw[if_neg h10];by_cases h11:x.1=11
 ·rw[if_pos h11];exact mk a1
 rw[if_neg h11];exact mk a1
def A3O {d:aB} {x:aZ} (hK:zR d=true) (hk:dI (fF x)=true):zR (r4 d x)=true:=by
 have b1:∀ q∈d.2.2.2.2.1,dI q=true:=λq hq=>List.all_eq_true.1 hK q hq;have mk:∀ {e:aB},(∀ q∈e.2.2.2.2.1,dI q=true)->zR e=true:=λh=>List.all_eq_true.2 h;unfold r4;by_cases h1:x.1=1
 ·rw[if_pos h1];exact mk b1
 rw[if_neg h1];by_cases h2:x.1=2
 ·rw[if_pos h2];exact mk b1
 rw[if_neg h2];by_cases h3:x.1=3
 ·rw[if_pos h3];exact mk b1
 rw[if_neg h3];by_cases h4:x.1=4
 ·rw[if_pos h4];exact mk b1
 rw[if_neg h4];by_cases h5:x.1=5
 ·rw[if_pos h5];exact mk b1
 rw[if_neg h5];by_cases h6:x.1=6
 ·rw[if_pos h6];exact mk b1
 rw[if_neg h6];by_cases h7:x.1=7
 ·rw[if_pos h7];exact mk b1
 rw[if_neg h7];by_cases h8:x.1=8
 ·rw[if_pos h8];exact mk b1
 rw[if_neg h8];by_cases h9:x.1=9
 ·rw[if_pos h9];exact mk λq hq=>(P6.1 hq).elim (λe=>by rw[e];exact hk) (b1 q)
 rw[if_neg h9];by_cases h10:x.1=10
 ·rw[if_pos h10];exact mk λq hq=>b1 q (OX hq)
 rw[if_neg h10];by_cases h11:x.1=11
 ·rw[if_pos h11];exact mk b1
 rw[if_neg h11];exact mk b1
def BFV {d:aB} (hD:BA d=true) (hK:zR d=true) {b:Nat} (h:oY b d) (hb:b<=1000):rJ d=true:=by
 obtain ⟨ln,lp,ls,lk,lr⟩:=h;exact BML (λq hq=>List.all_eq_true.1 hD q hq) (λq hq=>List.all_eq_true.1 hK q hq) (by omega) (by omega) (by omega) (by omega) (by omega)
variable {m:aG}
def A2R {d:aB} {x:aZ} (hc:rJ d=true) (hp:dP (cN x)=true) (hk:dI (fF x)=true):FC [aF true aC d,aF true aK m,aF true aN x]=some (Sh.enc [(true,aC),(false,.int .i64)] (b6 d m x)):=by
 rw[AKR];unfold GS;exact eY (by unfold okX;rw[hc,hp,hk];rfl)
def AW0 {p:bB} (h4:InS aJ p):dP p=true:=by
 obtain ⟨_,_,_,_,_,_,⟨⟨h5,h6,_⟩,h7,h8,h9⟩,_⟩:=h4;unfold dP BC dX;simp only[ac,ae,List.all_eq_true];refine ⟨⟨⟨?_,?_⟩,?_,?_⟩,λq hq=>?_⟩
 ·exact h5
 ·exact h6
 ·exact h7
 ·exact h8
 ·obtain ⟨g1,g2,_⟩:=h9 q hq;exact ⟨g1,g2⟩
def AWZ {k:aT} (h:InS aE k):dI k=true:=by
 obtain ⟨_,_,⟨h5,h6,_⟩,_,⟨h7,h8,_⟩⟩:=h;unfold dI dX;simp only[ac,ae];exact ⟨⟨h5,h6⟩,h7,h8⟩
end Go.Pv
namespace Go.Pv
open Go Go.Proofs IntKind
noncomputable def dH (m:aG):aB->List aZ->aB×Int
 | d,[]=>(d,0)
 | d,x::l=>if (b6 d m x).2=0 then dH m (b6 d m x).1 l else (iR,(b6 d m x).2)
noncomputable def jZ (d:aB) (m:aG) (o:bK):aB×Int :=
 if pT o.1=false then (iR,6)
 else if (o.2.length:Int)=0 then (iR,3)
 else if 32<(o.2.length:Int) then (iR,4)
 else if ¬ iF d m=0 then (iR,iF d m)
 else dH m d o.2
def OG {m:aG}:∀ {l:List aZ} {d:aB},iF d m=0->(dH m d l).2=0->iF (dH m d l).1 m=0
 | [],d,hc,_=>hc
 | x::l,d,hc,h=>by
  unfold dH at h ⊢;split at h
  ·rename_i hx;rw[if_pos hx];have hd:=XJ hx;exact OG (by rw[hd.eq];exact hd.chk) h
  ·rename_i hx;exact absurd h hx
variable {m:aG}
def KF {d:aB} {x:aZ} {l:List aZ} (h:(dH m d (x::l)).2=0):EK d m x/\dH m d (x::l)=dH m (r4 d x) l:=by
 have e:dH m d (x::l)=if (b6 d m x).2=0 then dH m (b6 d m x).1 l else (iR,(b6 d m x).2):=rfl
 by_cases hx:(b6 d m x).2=0
 ·have hd:=XJ hx;rw[if_pos hx,hd.eq] at e;exact ⟨hd,e⟩
 ·rw[if_neg hx] at e;rw[e] at h;exact absurd h hx
def XD {d:aB} {o:bK} (h:(jZ d m o).2=0):iF d m=0/\jZ d m o=dH m d o.2:=by
 unfold jZ at h ⊢;split at h
 ·cases h
 split at h
 ·cases h
 split at h
 ·cases h
 split at h
 ·rename_i hc;exact absurd h hc
 ·rename_i h1 h2 h3 h4;exact ⟨Classical.byContradiction h4,by rw[if_neg h1,if_neg h2,if_neg h3,if_neg h4]⟩
def DE {m:aG}:∀ {l:List aZ} {b:Nat} {d:aB},oY b d->BA d=true->zR d=true->(∀ x∈l,dP (cN x)=true/\dI (fF x)=true)->(dH m d l).2=0->oY (b+l.length) (dH m d l).1/\BA (dH m d l).1=true/\zR (dH m d l).1=true
 | [],b,d,h,hD,hK,_,_=>⟨h,hD,hK⟩
 | x::l,b,d,h,hD,hK,hE,h0=>by
  obtain ⟨hd,e⟩:=KF h0;rw[e] at h0 ⊢;obtain ⟨hp,hq⟩:=hE x al;have:=DE (A3M h) (A3N hD hp) (A3O hK hq) (λy hy=>hE y (List.mem_cons_of_mem _ hy)) h0;rw[List.length_cons,show b+(l.length+1)=b+1+l.length by omega];exact this
def okA (d:aB) (o:bK):Bool:=(BA d&&zR d)&&((decide (d.2.1.length<=900)&&decide (d.2.2.1.length<=900))&&(decide (d.2.2.2.1.length<=900)&&(decide (d.2.2.2.2.1.length<=900)&&decide (d.2.2.2.2.2.length<=900))))&&o.2.all λx=>dP (cN x)&&dI (fF x)
def AMH {d:aB} {o:bK} {b:Nat} (h:oY b d) (hb:b<=900) (hD:BA d=true) (hK:zR d=true) (hE:∀ x∈o.2,dP (cN x)=true/\dI (fF x)=true):okA d o=true:=by
 obtain ⟨a1,a2,a3,a4,a5⟩:=h;unfold okA;simp only[ac,ae,List.all_eq_true];exact ⟨⟨⟨hD,hK⟩,⟨by omega,by omega⟩,by omega,by omega,by omega⟩,hE⟩
end Go.Pv
namespace Go.Pv
open Go Go.Proofs IntKind
noncomputable def BHV:Env:=Env.of [(1000000102,.mark),(82,.pure eU),(26,.pure cM),(83,.pure FC)]
def BIH:FuncId->Hint:=bT 37 [(12,.inv [.own 9 6 aC,.val 40 false (.int .i64)])] (λ_=>aX)
def AY5:aQ Tryz.prog BHV:=.cons (x:=.mark) trivial (.cons E7 (.cons jU (.cons A32 (.nil _))))
def BT1:Sh:=[(true,aC),(false,Sy.int IntKind.i64)]
def BUY(a2:bK):List (List T):=List.map aN.enc a2.2
def BU6(s5:List aB×Int×PUnit):List (List T):=List.map aC.enc s5.1
def BU7(y2:aB):List T:=[aF true aC y2,pPP 0]
def BVE(R:T->Prop):Prop:=aP aC [] (i64.wrap ((↑0:Int)-1)) λ(y2:aB)=>R (T.bX (BU7 y2))
def AIF(a0:aB)(a1:aG)(a2:bK)(R:T->Prop):Prop:=aI BT0 (eU [pPQ a2.1]) λ(y0:Bool)=>aD (!y0) (R (T.bX [BTY, pPP 6])) (aD (decide ((↑(BUY a2).length:Int)=0)) (R (T.bX [BTY, pPP 3])) (aD (decide (32<(↑(BUY a2).length:Int))) (R (T.bX [BTY, pPP 4])) (aI BT3 (cM [aF true aC a0,aF true aK a1]) λ(y1:Int)=>aD (!decide (y1=0)) (aD (!decide (y1=0)) (BVA R y1) (BVE R)) (bZ aC [(aC.enc a0)] λ(y3:List aB)=>a7 (List aB×Int×PUnit) (λX4 s5=>aD (decide (s5.2.1<(↑(BUY a2).length:Int))) (aP aN (BUY a2) s5.2.1 λ(y6:aZ)=>aP aC (BU6 s5) (i64.wrap ((↑(BU6 s5).length:Int)-1)) λ(y7:aB)=>eK aC (BU6 s5) (i64.wrap ((↑(BU6 s5).length:Int)-1)).toNat 0 λ(y8:aB)=>aI BT1 (FC [aF true aC y8,aF true aK a1, aF true aN y6]) λ(y9:aB×Int)=>aD (!decide (y9.2=0)) (aD (!decide (y9.2=0)) (R (T.bX [BTY, pPP y9.2])) (BVE R)) (bH (decide (((BU6 s5).length+1)*136<=140737488355328) && decide ((BU6 s5).length+1<=140737488355328)) (bZ aC (List.map aC.enc s5.1 ++ [(aC.enc y9.1)]) λ(y11:List aB)=>X4 (y11,i64.wrap (s5.2.1+1),())))) (aP aC (BU6 s5) (i64.wrap ((↑(BU6 s5).length:Int)-1)) λ(y12:aB)=>eK aC (BU6 s5) (i64.wrap ((↑(BU6 s5).length:Int)-1)).toNat 0 λ(y13:aB)=>R (T.bX (BU7 y13)))) (y3,0,())))))
abbrev AMQ:Sh:=[(true,aC),(true,aK),(true,a6)]
noncomputable def GU (x:aB×aG×bK):Option T:=match okA x.1 x.2.2 with
 | true=>some (Sh.enc [(true,aC),(false,.int .i64)] (jZ x.1 x.2.1 x.2.2))
 | false=>none
noncomputable def o8:List T->Option T:=gS AMQ GU
def AUS {a0 a1 a2}:o8 [aF true aC a0,aF true aK a1,aF true a6 a2]=GU (a0,a1,a2):=bA (s:=AMQ) rfl (a0,a1,a2) rfl
def BE4:Of3 Tryz.prog 18 o8 GU (bY AMQ) AIF:=S2 (a1:=(true,aC)) (a2:=(true,aK)) (a3:=(true,a6)) (Hs:=BIH) (k:=8) AY5 aR aU (aL rfl) ⟨_,_,Tryz.func18,rfl⟩ rfl λ_ _ _ _=>by kernel_rfl
def BHN {r:Sy} {l:List r.den} {i:Int} {k:Nat} {y:r.den} {K:r.den->Prop} (hi:i=(k:Int)) (hy:l[k]? = some y) (hk:K y):aP r (List.map r.enc l) i K :=
 ⟨y,by omega,by rw[hi,Int.toNat_natCast];exact pL.2 hy,hk⟩
def A8C {l:List aB} {i k:Nat} {y:aB} {K:aB->Prop} (hi:i=k) (hy:l[k]? = some y) (hk:K y):eK aC (List.map aC.enc l) i 0 K :=
 ⟨_,y,by rw[hi];exact (pL (r:=aC)).2 hy,ak _,rfl,hk⟩
def AOZ:aM Tryz.prog 18 o8:=BE4 λd m o r h hb=>by
 clear hb;obtain ⟨hc,rfl⟩:=tE h;clear h;unfold okA at hc;simp only[ac,ae,List.all_eq_true] at hc;obtain ⟨⟨⟨hD,hK⟩,⟨l1,l2⟩,l3,l4,l5⟩,hE⟩:=hc;unfold AIF BVE BVA BU7 BU6 BUY BT3 BT1 BT0 BTY;refine aH (s:=[(false,Sy.bool)]) (y:=pT o.1) (UE ..) ?_;refine jI (λhi=>?_) λhi=>?_
 ·unfold jZ;rw[if_pos hi];rfl
 have hi:¬ pT o.1=false:=by rw[hi];decide
 have eO:(List.map aN.enc o.2).length=o.2.length:=ad ..;rw[eO];refine bV (λh1=>?_) λh1=>?_
 ·unfold jZ;rw[if_neg hi,if_pos h1];rfl
 refine bV (λh2=>?_) λh2=>?_
 ·unfold jZ;rw[if_neg hi,if_neg h1,if_pos h2];rfl
 refine aH (s:=[(false,.int .i64)]) (y:=iF d m) (nS ..) ?_;have hA:jZ d m o=if ¬ iF d m=0 then (iR,iF d m) else dH m d o.2:=by
  unfold jZ;rw[if_neg hi,if_neg h1,if_neg h2]
 rw[hA];refine lA (λh3=>?_) λh3=>?_
 ·rw[if_pos h3];exact lA (λ_=>rfl) λh=>absurd h h3
 rw[if_neg (λh=>h h3)];clear hA;refine eQ (r:=aC) rfl (l:=[d]) rfl ?_;refine bI o.2.length (λk s=>∃ (L:List aB) (c:aB),s=(L,(k:Int),())/\L.length=k+1/\L[k]? = some c/\dH m d o.2=dH m c (o.2.drop k)/\oY (900+k) c/\BA c=true/\zR c=true) ⟨[d],d,rfl,rfl,rfl,by rw[List.drop_zero],⟨l1,l2,l3,l4,l5⟩,hD,hK⟩ ?_;rintro X k s hk ⟨L,c,rfl,hL,hLk,hF,hN,hcD,hcK⟩ hX;dsimp only;have hw:i64.wrap (((List.map aC.enc L).length:Int)-1)=(k:Int):=by
  rw[ad,hL];exact (bD _ (by omega) (by omega)).trans (by omega)
 rw[hw];refine bV (λhlt=>?_) λhge=>?_
 ·have hlt:k<o.2.length:=by omega
  rw[bC (r:=aN) hlt];refine BHN (r:=aC) rfl hLk (A8C (Int.toNat_natCast k) hLk ?_);obtain ⟨hp,hq⟩:=hE _ (aj hlt);refine aH (s:=[(true,aC),(false,.int .i64)]) (y:=b6 c m o.2[k]) (A2R (BFV hcD hcK hN (by omega)) hp hq) ?_;have hF2:dH m d o.2=if (b6 c m o.2[k]).2=0 then dH m (b6 c m o.2[k]).1 (o.2.drop (k+1)) else (iR,(b6 c m o.2[k]).2):=by
   rw[hF,List.drop_eq_getElem_cons hlt];rfl
  refine lA (λhe=>?_) λhe=>?_
  ·refine lA (λ_=>?_) λh=>absurd h he;rw[hF2,if_neg he];rfl
  ·rw[if_pos he] at hF2;have hd:=XJ he;refine ⟨by rw[ad,hL,ac];exact ⟨ah (by omega),ah (by omega)⟩,?_⟩;refine eQ (r:=aC) rfl (l:=L++[(b6 c m o.2[k]).1]) (by rw[List.map_append];rfl) ?_;refine hX _ hlt ⟨_,(b6 c m o.2[k]).1,by rw[show i64.wrap ((k:Int)+1)=((k+1:Nat):Int) from bD _ (by omega) (by omega)],by rw[List.length_append,hL];rfl,?_,hF2,?_,?_,?_⟩
   ·rw[List.getElem?_append_right (by omega),hL];simp
   ·rw[hd.eq];exact A3M hN
   ·rw[hd.eq];exact A3N hcD hp
   ·rw[hd.eq];exact A3O hcK hq
 ·have hk2:o.2.drop k=[]:=List.drop_eq_nil_of_le (by omega);refine BHN (r:=aC) rfl hLk (A8C (Int.toNat_natCast k) hLk ?_);rw[hF,hk2];rfl
variable {m:aG}
def H0 {d:aB} {o:bK} (h:okA d o=true):o8 [aF true aC d,aF true aK m,aF true a6 o]=some (Sh.enc [(true,aC),(false,.int .i64)] (jZ d m o)):=by
 rw[AUS];unfold GU;exact eY h
end Go.Pv
namespace Go.Pv
open Go Go.Proofs IntKind
def AS9:xF Tryz.prog 69 3 40:=⟨λR=>by kernel_rfl,λfl R=>by kernel_rfl,λfl a rows R=>by kernel_rfl⟩
noncomputable def FF:List T->Option T:=gS [(false,.li aS)] (cZ aS 40)
def ADH {u0}:FF [T.sl false (List.map (Sy.enc aS) u0)]=cZ aS 40 u0:=bA (s:=[(false,.li aS)]) rfl u0 rfl
def AT2:aM Tryz.prog 69 FF:=nR aR aU ⟨_,_,Tryz.func69,rfl⟩ AS9
def ATA:xF Tryz.prog 70 6 72:=⟨λR=>by kernel_rfl,λfl R=>by kernel_rfl,λfl a rows R=>by kernel_rfl⟩
noncomputable def FH:List T->Option T:=gS [(false,.li aV)] (cZ aV 72)
def ADI {u0}:FH [T.sl false (List.map (Sy.enc aV) u0)]=cZ aV 72 u0:=bA (s:=[(false,.li aV)]) rfl u0 rfl
def AT3:aM Tryz.prog 70 FH:=nR aR aU ⟨_,_,Tryz.func70,rfl⟩ ATA
def AS8:xF Tryz.prog 71 3 40:=⟨λR=>by kernel_rfl,λfl R=>by kernel_rfl,λfl a rows R=>by kernel_rfl⟩
noncomputable def FE:List T->Option T:=gS [(false,.li aW)] (cZ aW 40)
def ADG {u0}:FE [T.sl false (List.map (Sy.enc aW) u0)]=cZ aW 40 u0:=bA (s:=[(false,.li aW)]) rfl u0 rfl
def AT1:aM Tryz.prog 71 FE:=nR aR aU ⟨_,_,Tryz.func71,rfl⟩ AS8
def A22:xF Tryz.prog 65 4 40:=⟨λR=>by kernel_rfl,λfl R=>by kernel_rfl,λfl a rows R=>by kernel_rfl⟩
noncomputable def LZ:List T->Option T:=gS [(false,.li bG)] (cZ bG 40)
def AKS {u0}:LZ [T.sl false (List.map (Sy.enc bG) u0)]=cZ bG 40 u0:=bA (s:=[(false,.li bG)]) rfl u0 rfl
def A33:aM Tryz.prog 65 LZ:=nR aR aU ⟨_,_,Tryz.func65,rfl⟩ A22
def wH {r:Sy} {b:Nat} {l:List r.den} (h:dX b l.length=true):cZ r b l=some (.sl false (List.map r.enc l)):=by
 unfold cZ;rw[iD h];rfl
def idK (b:Bool) (t:T):Option T:=match b with
 | true=>some t
 | false=>none
def pA {b:Bool} {t r:T} (h:idK b t=some r):b=true/\r=t:=by
 cases b with
 | true=>cases h;exact ⟨rfl,rfl⟩
 | false=>cases h
def nB {b:Bool} (t:T) (h:b=true):idK b t=some t:=by rw[h];rfl
def xL {r:Sy} (hr:r.pure=true) {l:List r.den} {b:Nat} {s:Sh} {G:List T->Option T} {A:r.den->List T} {W:Sh.den s->List (List T)} {Q:List r.den->Prop} {y0:r.den->Sh.den s}
  (hlen:dX b l.length=true) (hC:∀ y∈l,G (A y)=some (Sh.enc s (y0 y))) (hW:∀ y,∃ row,W (y0 y)=[row]/\row.map (T.canon 0)=r.enc y) (hQ:Q l) :
  a7 (Int×List r.den×PUnit) (λ(X:Int×List r.den×PUnit->Prop) (s2:Int×List r.den×PUnit)=>aD (decide (s2.1<((List.map r.enc l).length:Int)))
   (aP r (List.map r.enc l) s2.1 λy=>aI s (G (A y)) λz=>bH (decide (((List.map r.enc s2.2.1).length+1)*b<=140737488355328)&&decide ((List.map r.enc s2.2.1).length+1<=140737488355328))
    (bZ r (List.map r.enc s2.2.1++W z) λq=>X (i64.wrap (s2.1+1),q,()))) (Q s2.2.1)) (0,[],()):=by
 unfold dX at hlen;rw[ac,ae,ae] at hlen;refine bI l.length (λk s=>s=((k:Int),l.take k,())) rfl ?_;rintro X k s2 hk rfl hX;dsimp only;rw[ad,ad];by_cases hlt:k<l.length
 ·rw[show decide ((k:Int)<(l.length:Int))=true from ah (by omega),kC,bC hlt];refine aH (y:=y0 l[k]) (hC _ (aj hlt)) ?_;have h1:(k+1)*b<=l.length*b:=Nat.mul_le_mul_right b (by omega);refine ⟨by rw[List.length_take,Nat.min_eq_left (by omega),ac,ae,ae];omega,?_⟩;obtain ⟨row,e1,e2⟩:=hW l[k];rw[e1,AP hr (l.take k) row l[k] e2];refine hX _ hlt ?_;rw[show i64.wrap ((k:Int)+1)=((k+1:Nat):Int) from bD _ (by omega) (by omega),List.take_add_one,List.getElem?_eq_getElem hlt];rfl
 ·have:k=l.length:=by omega
  subst this;rw[show decide ((l.length:Int)<(l.length:Int))=false from ai (by omega),nW,List.take_length];exact hQ
def rQ (a0:List (List aO)):List T:=[T.sl false (List.map aA.li.enc a0),T.fn 111 [] []]
noncomputable def V1:Env:=Env.of [(111,.pure fN)]
def AOC:FuncId->Hint:=bT 112 [(3,.inv [.val 10 false (.int .i64),.own 5 1 (.li aA)])] (λ_=>aX)
def ARP:aQ Tryz.prog V1:=.cons vP (.nil _)
def AOA(a0:List (List aO))(R:T->Prop):Prop:=a7 (Int×List (List aO)×PUnit) (λX0 s1=>aD (decide (s1.1<(↑(List.map aA.li.enc a0).length:Int))) (aP aA.li (List.map aA.li.enc a0) s1.1 λ(y2:List aO)=>aI [(false,aA.li)] (fN [T.sl false (List.map aA.enc y2)]) λ(y3:List aO)=>bH (decide (((List.map aA.li.enc s1.2.1).length+1)*24<=140737488355328) && decide ((List.map aA.li.enc s1.2.1).length+1<=140737488355328)) (bZ aA.li (List.map aA.li.enc s1.2.1++[[T.sl false (List.map aA.enc y3)]]) λ(y4:List (List aO))=>X0 (i64.wrap (s1.1+1),y4,()))) (R (T.sl false (List.map aA.li.enc s1.2.1)))) (0,[],())
def AIL ( a0 R):dV bS Tryz.prog V1 AOC 8 112 (rQ a0) R=AOA a0 R:=by kernel_rfl
def RV (x:List (List aO)):Option T:=idK (dX 24 x.length&&x.all λh=>dX 16 h.length) (.sl false (List.map aA.li.enc x))
def AAT (x y:List (List aO)) (h:rQ x=rQ y):x=y:=by
 unfold rQ at h;simp only[List.cons.injEq,T.sl.injEq,and_true,true_and] at h;exact map_inj (Sy.c0 aA.li) h
noncomputable def FJ:List T->Option (T):=gA (λ(x:List (List aO))=>rQ x) RV
def AKU (a0:List (List aO)):FJ (rQ a0)=RV a0:=eR (A:=(λ(x:List (List aO))=>rQ x)) AAT a0
def A7J (h:∀ (a0:List (List aO)) (r:T),RV a0=some r->(∀ t∈rQ a0,Bd t)->AOA a0 (λy=>y=r)):aM Tryz.prog 112 FJ :=
 cG (E:=V1) (Hs:=AOC) ARP aR aU (aL rfl) 8 ⟨_,_,Tryz.func112,rfl⟩ λx r h1 h2=>by
  rw[AIL];exact h x r h1 h2
def A35:aM Tryz.prog 112 FJ:=A7J λl r h hb=>by
 obtain ⟨h1,rfl⟩:=pA h;rw[ac,List.all_eq_true] at h1;exact xL (r:=aA.li) rfl (b:=24) (s:=[(false,aA.li)]) (G:=fN) (A:=λy=>[T.sl false (List.map aA.enc y)]) (W:=λz=>[aA.li.enc z]) (Q:=λq=>T.sl false (List.map aA.li.enc q)=T.sl false (List.map aA.li.enc l)) (y0:=λy=>y)
  h1.1 (λy hy=>kL.trans (wH (h1.2 y hy))) (λy=>⟨_,rfl,iY (r:=aA.li) y rfl⟩) rfl
noncomputable def ARE:Env:=Env.of [(111,.pure fN),(112,.pure FJ)]
def ASM:FuncId->Hint:=λ_=>aX
def AA3:aQ Tryz.prog ARE:=.cons vP (.cons A35 (.nil _))
def HL(a0:bB)(R:T->Prop):Prop:=aI [(false,aA.li)] (fN [T.sl false (List.map aA.enc a0.2.2.2.2.2.2.1.1)]) λ(y0:List aO)=>aI [(false,aA.li.li)] (FJ [T.sl false (List.map aA.li.enc a0.2.2.2.2.2.2.1.2),T.fn 111 [] []]) λ(y1:List (List aO))=>R (T.agg [pPQ a0.1,pPP a0.2.1, pPP a0.2.2.1,pPQ a0.2.2.2.1, pPQ a0.2.2.2.2.1, pPP a0.2.2.2.2.2.1, T.sl false (List.map aA.enc y0),T.sl false (List.map aA.li.enc y1), pPQ a0.2.2.2.2.2.2.2.1, pPP a0.2.2.2.2.2.2.2.2.1, pPP a0.2.2.2.2.2.2.2.2.2.1, pPP a0.2.2.2.2.2.2.2.2.2.2.1.1, pPP a0.2.2.2.2.2.2.2.2.2.2.1.2.1, pPP a0.2.2.2.2.2.2.2.2.2.2.1.2.2, pPP a0.2.2.2.2.2.2.2.2.2.2.2.1.1, pPP a0.2.2.2.2.2.2.2.2.2.2.2.1.2.1, pPP a0.2.2.2.2.2.2.2.2.2.2.2.1.2.2, pPP a0.2.2.2.2.2.2.2.2.2.2.2.2])
abbrev JH:Sh:=[(true,aJ)]
def wJ (x:bB):Option T:=idK (dP x) (aF true aJ x)
noncomputable def mE:List T->Option T:=gS JH wJ
def FL {a0}:mE [aF true aJ a0]=wJ (a0):=bA (s:=JH) rfl (a0) rfl
def AL7:qM Tryz.prog 73 mE wJ (bY JH) HL:=gK (a1:=(true,aJ)) (Hs:=ASM) (k:=8) AA3 aR aU (aL rfl) ⟨_,_,Tryz.func73,rfl⟩ rfl λ_ _=>by kernel_rfl
def PF:aM Tryz.prog 73 mE:=AL7 λp r h hb=>by
 obtain ⟨h1,rfl⟩:=pA h;unfold dP BC at h1;rw[ac,ac] at h1;unfold HL;refine aH (s:=[(false,aA.li)]) (y:=p.2.2.2.2.2.2.1.1) (kL.trans (wH h1.1.1)) ?_;refine aH (s:=[(false,aA.li.li)]) (y:=p.2.2.2.2.2.2.1.2) ((AKU _).trans (nB _ (by rw[h1.1.2,h1.2];rfl))) ?_;rfl
noncomputable def ARD:Env:=Env.of [(113,.pure gF)]
def ASL:FuncId->Hint:=λ_=>aX
def AA2:aQ Tryz.prog ARD:=.cons xT (.nil _)
def BT6:Sh:=[(false,Sy.str.li)]
def BUF(y0:List iII):List (List T):=List.map Sy.str.enc y0
def BVF(a0:aT):List (List T):=List.map Sy.str.enc a0.2.2.2.2
def BVK(a0:aT):List (List T):=List.map Sy.str.enc a0.2.2.1
def HK(a0:aT)(R:T->Prop):Prop:=aI BT6 (gF [T.sl false (BVK a0)]) λ(y0:List iII)=>aI BT6 (gF [T.sl false (BVF a0)]) λ(y1:List iII)=>R (T.agg [pPQ a0.1,pPQ a0.2.1, T.sl false (BUF y0),pPP a0.2.2.2.1, T.sl false (BUF y1)])
abbrev JG:Sh:=[(true,aE)]
def wI (x:aT):Option T:=idK (dI x) (aF true aE x)
noncomputable def mD:List T->Option T:=gS JG wI
def FK {a0}:mD [aF true aE a0]=wI (a0):=bA (s:=JG) rfl (a0) rfl
def AL6:qM Tryz.prog 75 mD wI (bY JG) HK:=gK (a1:=(true,aE)) (Hs:=ASL) (k:=8) AA2 aR aU (aL rfl) ⟨_,_,Tryz.func75,rfl⟩ rfl λ_ _=>by kernel_rfl
def PE:aM Tryz.prog 75 mD:=AL6 λp r h hb=>by
 obtain ⟨h1,rfl⟩:=pA h;unfold dI at h1;rw[ac] at h1;unfold HK BVK BVF BUF BT6;refine aH (s:=[(false,.li .str)]) (y:=p.2.2.1) (jO.trans (wH h1.1)) ?_;refine aH (s:=[(false,.li .str)]) (y:=p.2.2.2.2) (jO.trans (wH h1.2)) ?_;rfl
noncomputable def BAB:Env:=Env.of [(73,.pure mE),(75,.pure mD)]
def BBY:FuncId->Hint:=λ_=>aX
def ARQ:aQ Tryz.prog BAB:=.cons PF (.cons PE (.nil _))
def WC(a0:aZ)(R:T->Prop):Prop:=aI [(true,aJ)] (mE [aF true aJ a0.2.2.2.2.1]) λ(y0:bB)=>aI [(true,aE)] (mD [aF true aE a0.2.2.2.2.2.2.1]) λ(y1:aT)=>R ((aF true aN (a0.1,a0.2.1,a0.2.2.1,a0.2.2.2.1,y0,a0.2.2.2.2.2.1,y1,a0.2.2.2.2.2.2.2)))
abbrev Y9:Sh:=[(true,aN)]
def GV (x:aZ):Option T:=idK (dP (cN x)&&dI (fF x)) (aF true aN x)
noncomputable def AV:List T->Option T:=gS Y9 GV
def AKV {a0}:AV [aF true aN a0]=GV (a0):=bA (s:=Y9) rfl (a0) rfl
def A7K:qM Tryz.prog 79 AV GV (bY Y9) WC:=gK (a1:=(true,aN)) (Hs:=BBY) (k:=8) ARQ aR aU (aL rfl) ⟨_,_,Tryz.func79,rfl⟩ rfl λ_ _=>by kernel_rfl
def A36:aM Tryz.prog 79 AV:=A7K λx r h hb=>by
 obtain ⟨h1,rfl⟩:=pA h;rw[ac] at h1;unfold WC;refine aH (s:=[(true,aJ)]) (y:=cN x) ((FL ..).trans (nB _ h1.1)) ?_;refine aH (s:=[(true,aE)]) (y:=fF x) ((FK ..).trans (nB _ h1.2)) ?_;rfl
noncomputable def BAC:Env:=Env.of [(68,.pure uA)]
def BBZ:FuncId->Hint:=λ_=>aX
def ARR:aQ Tryz.prog BAC:=.cons TZ (.nil _)
def WD(a0:cT)(R:T->Prop):Prop:=aI [(false,BT5.li)] (uA [T.sl false (List.map BT5.enc a0.2.2.2)]) λ(y0:List Int)=>R (T.agg [pPQ a0.1,pPP a0.2.1, pPP a0.2.2.1, T.sl false (List.map BT5.enc y0)])
abbrev ZA:Sh:=[(true,bM)]
def GW (x:cT):Option T:=idK (dX 8 x.2.2.2.length) (aF true bM x)
noncomputable def AX:List T->Option T:=gS ZA GW
def AKW {a0}:AX [aF true bM a0]=GW (a0):=bA (s:=ZA) rfl (a0) rfl
def A7L:qM Tryz.prog 67 AX GW (bY ZA) WD:=gK (a1:=(true,bM)) (Hs:=BBZ) (k:=8) ARR aR aU (aL rfl) ⟨_,_,Tryz.func67,rfl⟩ rfl λ_ _=>by kernel_rfl
def A37:aM Tryz.prog 67 AX:=A7L λx r h hb=>by
 obtain ⟨h1,rfl⟩:=pA h;unfold WD BT5;refine aH (s:=[(false,.li (.int .i64))]) (y:=x.2.2.2) (KR.trans (wH h1)) ?_;rfl
def l9 (a0:List bB):List T:=[T.sl false (List.map aJ.enc a0),T.fn 73 [] []]
noncomputable def HH:Env:=Env.of [(73,.pure mE)]
def TD:FuncId->Hint:=bT 72 [(3,.inv [.val 10 false (.int .i64),.own 5 18 aJ])] (λ_=>aX)
def AA1:aQ Tryz.prog HH:=.cons PF (.nil _)
def S9(a0:List bB)(R:T->Prop):Prop:=a7 (Int×List bB×PUnit) (λX0 s1=>aD (decide (s1.1<(↑(List.map aJ.enc a0).length:Int))) (aP aJ (List.map aJ.enc a0) s1.1 λ(y2:bB)=>aI [(true,aJ)] (mE [aF true aJ y2]) λ(y3:bB)=>bH (decide (((List.map aJ.enc s1.2.1).length+1)*208<=140737488355328) && decide ((List.map aJ.enc s1.2.1).length+1<=140737488355328)) (bZ aJ (List.map aJ.enc s1.2.1 ++ [(aJ.enc y3)]) λ(y4:List bB)=>X0 (i64.wrap (s1.1+1),y4,()))) (R (T.sl false (List.map aJ.enc s1.2.1)))) (0,[],())
def WB ( a0 R):dV bS Tryz.prog HH TD 8 72 (l9 a0) R=S9 a0 R:=by kernel_rfl
def EF (x:List bB):Option T:=idK (dX 208 x.length&&x.all λy=>dP y) (.sl false (List.map aJ.enc x))
def SG (x y:List bB) (h:l9 x=l9 y):x=y:=by
 unfold l9 at h;simp only[List.cons.injEq,T.sl.injEq,and_true,true_and] at h;exact map_inj (Sy.c0 aJ) h
noncomputable def uE:List T->Option (T):=gA (λ(x:List bB)=>l9 x) EF
def XW (a0:List bB):uE (l9 a0)=EF a0:=eR (A:=(λ(x:List bB)=>l9 x)) SG a0
def AL5 (h:∀ (a0:List bB) (r:T),EF a0=some r->(∀ t∈l9 a0,Bd t)->S9 a0 (λy=>y=r)):aM Tryz.prog 72 uE :=
 cG (E:=HH) (Hs:=TD) AA1 aR aU (aL rfl) 8 ⟨_,_,Tryz.func72,rfl⟩ λx r h1 h2=>by
  rw[WB];exact h x r h1 h2
def AKA:aM Tryz.prog 72 uE:=AL5 λl r h hb=>by
 obtain ⟨h1,rfl⟩:=pA h;rw[ac,List.all_eq_true] at h1;exact xL (r:=aJ) rfl (b:=208) (s:=[(true,aJ)]) (G:=mE) (A:=λy=>[aF true aJ y]) (W:=λz=>[Sy.enc aJ z]) (Q:=λq=>T.sl false (List.map aJ.enc q)=T.sl false (List.map aJ.enc l)) (y0:=λy=>y)
  h1.1 (λy hy=>(FL ..).trans (nB _ (h1.2 y hy))) (λy=>⟨_,rfl,iY (r:=aJ) y rfl⟩) rfl
def l8 (a0:List aT):List T:=[T.sl false (List.map aE.enc a0),T.fn 75 [] []]
noncomputable def HG:Env:=Env.of [(75,.pure mD)]
def TC:FuncId->Hint:=bT 74 [(3,.inv [.val 10 false (.int .i64),.own 5 5 aE])] (λ_=>aX)
def AA0:aQ Tryz.prog HG:=.cons PE (.nil _)
def S8(a0:List aT)(R:T->Prop):Prop:=a7 (Int×List aT×PUnit) (λX0 s1=>aD (decide (s1.1<(↑(List.map aE.enc a0).length:Int))) (aP aE (List.map aE.enc a0) s1.1 λ(y2:aT)=>aI [(true,aE)] (mD [aF true aE y2]) λ(y3:aT)=>bH (decide (((List.map aE.enc s1.2.1).length+1)*88<=140737488355328) && decide ((List.map aE.enc s1.2.1).length+1<=140737488355328)) (bZ aE (List.map aE.enc s1.2.1 ++ [[pPQ y3.1,pPQ y3.2.1, T.sl false (BVK y3), pPP y3.2.2.2.1, T.sl false (BVF y3)]]) λ(y4:List aT)=>X0 (i64.wrap (s1.1+1),y4,()))) (R (T.sl false (List.map aE.enc s1.2.1)))) (0,[],())
def WA ( a0 R):dV bS Tryz.prog HG TC 8 74 (l8 a0) R=S8 a0 R:=by kernel_rfl
def EE (x:List aT):Option T:=idK (dX 88 x.length&&x.all λy=>dI y) (.sl false (List.map aE.enc x))
def SF (x y:List aT) (h:l8 x=l8 y):x=y:=by
 unfold l8 at h;simp only[List.cons.injEq,T.sl.injEq,and_true,true_and] at h;exact map_inj (Sy.c0 aE) h
noncomputable def uD:List T->Option (T):=gA (λ(x:List aT)=>l8 x) EE
def XV (a0:List aT):uD (l8 a0)=EE a0:=eR (A:=(λ(x:List aT)=>l8 x)) SF a0
def AL4 (h:∀ (a0:List aT) (r:T),EE a0=some r->(∀ t∈l8 a0,Bd t)->S8 a0 (λy=>y=r)):aM Tryz.prog 74 uD :=
 cG (E:=HG) (Hs:=TC) AA0 aR aU (aL rfl) 8 ⟨_,_,Tryz.func74,rfl⟩ λx r h1 h2=>by
  rw[WA];exact h x r h1 h2
def AJ9:aM Tryz.prog 74 uD:=AL4 λl r h hb=>by
 obtain ⟨h1,rfl⟩:=pA h;rw[ac,List.all_eq_true] at h1;exact xL (r:=aE) rfl (b:=88) (s:=[(true,aE)]) (G:=mD) (A:=λy=>[aF true aE y]) (W:=λz=>[Sy.enc aE z]) (Q:=λq=>T.sl false (List.map aE.enc q)=T.sl false (List.map aE.enc l)) (y0:=λy=>y)
  h1.1 (λy hy=>(FK ..).trans (nB _ (h1.2 y hy))) (λy=>⟨_,rfl,iY (r:=aE) y rfl⟩) rfl
def l7 (a0:List aZ):List T:=[T.sl false (List.map aN.enc a0),T.fn 79 [] []]
noncomputable def HF:Env:=Env.of [(79,.pure AV)]
def TB:FuncId->Hint:=bT 78 [(3,.inv [.val 10 false (.int .i64),.own 5 38 aN])] (λ_=>aX)
def AAZ:aQ Tryz.prog HF:=.cons A36 (.nil _)
def S7(a0:List aZ)(R:T->Prop):Prop:=a7 (Int×List aZ×PUnit) (λX0 s1=>aD (decide (s1.1<(↑(List.map aN.enc a0).length:Int))) (aP aN (List.map aN.enc a0) s1.1 λ(y2:aZ)=>aI [(true,aN)] (AV [aF true aN y2]) λ(y3:aZ)=>bH (decide (((List.map aN.enc s1.2.1).length+1)*488<=140737488355328) && decide ((List.map aN.enc s1.2.1).length+1<=140737488355328)) (bZ aN (List.map aN.enc s1.2.1 ++ [(aN.enc y3)]) λ(y4:List aZ)=>X0 (i64.wrap (s1.1+1),y4,()))) (R (T.sl false (List.map aN.enc s1.2.1)))) (0,[],())
def V9 ( a0 R):dV bS Tryz.prog HF TB 8 78 (l7 a0) R=S7 a0 R:=by kernel_rfl
def ED (x:List aZ):Option T:=idK (dX 488 x.length&&x.all λy=>dP (cN y)&&dI (fF y)) (.sl false (List.map aN.enc x))
def SE (x y:List aZ) (h:l7 x=l7 y):x=y:=by
 unfold l7 at h;simp only[List.cons.injEq,T.sl.injEq,and_true,true_and] at h;exact map_inj (Sy.c0 aN) h
noncomputable def uC:List T->Option (T):=gA (λ(x:List aZ)=>l7 x) ED
def XU (a0:List aZ):uC (l7 a0)=ED a0:=eR (A:=(λ(x:List aZ)=>l7 x)) SE a0
def AL3 (h:∀ (a0:List aZ) (r:T),ED a0=some r->(∀ t∈l7 a0,Bd t)->S7 a0 (λy=>y=r)):aM Tryz.prog 78 uC :=
 cG (E:=HF) (Hs:=TB) AAZ aR aU (aL rfl) 8 ⟨_,_,Tryz.func78,rfl⟩ λx r h1 h2=>by
  rw[V9];exact h x r h1 h2
def AJ8:aM Tryz.prog 78 uC:=AL3 λl r h hb=>by
 obtain ⟨h1,rfl⟩:=pA h;rw[ac,List.all_eq_true] at h1;exact xL (r:=aN) rfl (b:=488) (s:=[(true,aN)]) (G:=AV) (A:=λy=>[aF true aN y]) (W:=λz=>[Sy.enc aN z]) (Q:=λq=>T.sl false (List.map aN.enc q)=T.sl false (List.map aN.enc l)) (y0:=λy=>y)
  h1.1 (λy hy=>(AKV ..).trans (nB _ (h1.2 y hy))) (λy=>⟨_,rfl,iY (r:=aN) y rfl⟩) rfl
def rP (a0:List cT):List T:=[T.sl false (List.map bM.enc a0),T.fn 67 [] []]
noncomputable def V0:Env:=Env.of [(67,.pure AX)]
def AOB:FuncId->Hint:=bT 66 [(3,.inv [.val 10 false (.int .i64),.own 5 4 bM])] (λ_=>aX)
def ARO:aQ Tryz.prog V0:=.cons A37 (.nil _)
def AN9(a0:List cT)(R:T->Prop):Prop:=a7 (Int×List cT×PUnit) (λX0 s1=>aD (decide (s1.1<(↑(List.map bM.enc a0).length:Int))) (aP bM (List.map bM.enc a0) s1.1 λ(y2:cT)=>aI [(true,bM)] (AX [aF true bM y2]) λ(y3:cT)=>bH (decide (((List.map bM.enc s1.2.1).length+1)*56<=140737488355328) && decide ((List.map bM.enc s1.2.1).length+1<=140737488355328)) (bZ bM (List.map bM.enc s1.2.1 ++ [[pPQ y3.1,pPP y3.2.1, pPP y3.2.2.1, T.sl false (List.map BT5.enc y3.2.2.2)]]) λ(y4:List cT)=>X0 (i64.wrap (s1.1+1),y4,()))) (R (T.sl false (List.map bM.enc s1.2.1)))) (0,[],())
def AIK ( a0 R):dV bS Tryz.prog V0 AOB 8 66 (rP a0) R=AN9 a0 R:=by kernel_rfl
def RU (x:List cT):Option T:=idK (dX 56 x.length&&x.all λy=>dX 8 y.2.2.2.length) (.sl false (List.map bM.enc x))
def AAS (x y:List cT) (h:rP x=rP y):x=y:=by
 unfold rP at h;simp only[List.cons.injEq,T.sl.injEq,and_true,true_and] at h;exact map_inj (Sy.c0 bM) h
noncomputable def FI:List T->Option (T):=gA (λ(x:List cT)=>rP x) RU
def AKT (a0:List cT):FI (rP a0)=RU a0:=eR (A:=(λ(x:List cT)=>rP x)) AAS a0
def A7I (h:∀ (a0:List cT) (r:T),RU a0=some r->(∀ t∈rP a0,Bd t)->AN9 a0 (λy=>y=r)):aM Tryz.prog 66 FI :=
 cG (E:=V0) (Hs:=AOB) ARO aR aU (aL rfl) 8 ⟨_,_,Tryz.func66,rfl⟩ λx r h1 h2=>by
  rw[AIK];exact h x r h1 h2
def A34:aM Tryz.prog 66 FI:=A7I λl r h hb=>by
 obtain ⟨h1,rfl⟩:=pA h;rw[ac,List.all_eq_true] at h1;exact xL (r:=bM) rfl (b:=56) (s:=[(true,bM)]) (G:=AX) (A:=λy=>[aF true bM y]) (W:=λz=>[Sy.enc bM z]) (Q:=λq=>T.sl false (List.map bM.enc q)=T.sl false (List.map bM.enc l)) (y0:=λy=>y)
  h1.1 (λy hy=>(AKW ..).trans (nB _ (h1.2 y hy))) (λy=>⟨_,rfl,iY (r:=bM) y rfl⟩) rfl
end Go.Pv
namespace Go.Pv
open Go Go.Proofs IntKind
def APW (d:aB):Bool:=(BA d&&zR d)&&(dX 40 d.2.1.length&&(dX 72 d.2.2.2.1.length&&(dX 40 d.2.2.2.2.2.length&&(dX 208 d.2.2.1.length&&dX 88 d.2.2.2.2.1.length))))
def nD {b n k:Nat} (h:n<=k) (hk:k*b<=140737488355328) (hk2:k<=140737488355328):dX b n=true:=by
 unfold dX;have:=Nat.mul_le_mul_right b h;rw[ah (by omega),ah (by omega)];rfl
def A75 {d:aB} {b:Nat} (h:oY b d) (hb:b<=900) (hD:BA d=true) (hK:zR d=true):APW d=true:=by
 obtain ⟨a1,a2,a3,a4,a5⟩:=h;unfold APW;rw[hD,hK,nD (k:=900) (by omega) (by omega) (by omega),nD (k:=900) (by omega) (by omega) (by omega),nD (k:=900) (by omega) (by omega) (by omega),nD (k:=900) (by omega) (by omega) (by omega),nD (k:=900) (by omega) (by omega) (by omega)];rfl
noncomputable def AX2:Env:=Env.of [(69,.pure FF),(70,.pure FH),(71,.pure FE),(72,.pure uE),(74,.pure uD)]
def A1Q:FuncId->Hint:=λ_=>aX
def AHJ:aQ Tryz.prog AX2:=.cons AT2 (.cons AT3 (.cons AT1 (.cons AKA (.cons AJ9 (.nil _)))))
def NA(a0:aB)(R:T->Prop):Prop:=aI [(false,aS.li)] (FF [T.sl false (BUS a0)]) λ(y0:List cH)=>aI [(false,aV.li)] (FH [T.sl false (BUO a0)]) λ(y1:List cJ)=>aI [(false,aW.li)] (FE [T.sl false (BUT a0)]) λ(y2:List cQ)=>aI [(false,aJ.li)] (uE [T.sl false (BUE a0),T.fn 73 [] []]) λ(y3:List bB)=>aI [(false,aE.li)] (uD [T.sl false (BUM a0),T.fn 75 [] []]) λ(y4:List aT)=>R ((aF true aC (a0.1,y0,y3,y1,y4,y2)))
abbrev Q0:Sh:=[(true,aC)]
def BH (x:aB):Option T:=idK (APW x) (aF true aC x)
noncomputable def jG:List T->Option T:=gS Q0 BH
def ADJ {a0}:jG [aF true aC a0]=BH (a0):=bA (s:=Q0) rfl (a0) rfl
def AV5:qM Tryz.prog 28 jG BH (bY Q0) NA:=gK (a1:=(true,aC)) (Hs:=A1Q) (k:=8) AHJ aR aU (aL rfl) ⟨_,_,Tryz.func28,rfl⟩ rfl λ_ _=>by kernel_rfl
def T0:aM Tryz.prog 28 jG:=AV5 λd r h hb=>by
 obtain ⟨h1,rfl⟩:=pA h;unfold APW at h1;simp only[ac] at h1;obtain ⟨⟨hD,hK⟩,h1,h2,h3,h4,h5⟩:=h1;unfold NA BUT BUS BUO BUM BUE;refine aH (s:=[(false,aS.li)]) (y:=d.2.1) (ADH.trans (wH h1)) ?_;refine aH (s:=[(false,aV.li)]) (y:=d.2.2.2.1) (ADI.trans (wH h2)) ?_;refine aH (s:=[(false,aW.li)]) (y:=d.2.2.2.2.2) (ADG.trans (wH h3)) ?_;refine aH (s:=[(false,aJ.li)]) (y:=d.2.2.1) ((XW _).trans (nB _ (by rw[h4,Bool.true_and];exact hD))) ?_;refine aH (s:=[(false,aE.li)]) (y:=d.2.2.2.2.1) ((XV _).trans (nB _ (by rw[h5,Bool.true_and];exact hK))) ?_;rfl
def GB (o:bK):Bool:=dX 488 o.2.length&&o.2.all λy=>dP (cN y)&&dI (fF y)
noncomputable def AX4:Env:=Env.of [(78,.pure uC)]
def A1S:FuncId->Hint:=λ_=>aX
def AHL:aQ Tryz.prog AX4:=.cons AJ8 (.nil _)
def NC(a0:bK)(R:T->Prop):Prop:=aI [(false,aN.li)] (uC [T.sl false (BUY a0),T.fn 79 [] []]) λ(y0:List aZ)=>R (T.agg [pPQ a0.1,T.sl false (List.map aN.enc y0)])
abbrev Q2:Sh:=[(true,a6)]
def BJ (x:bK):Option T:=idK (GB x) (aF true a6 x)
noncomputable def mT:List T->Option T:=gS Q2 BJ
def ADL {a0}:mT [aF true a6 a0]=BJ (a0):=bA (s:=Q2) rfl (a0) rfl
def AV7:qM Tryz.prog 32 mT BJ (bY Q2) NC:=gK (a1:=(true,a6)) (Hs:=A1S) (k:=8) AHL aR aU (aL rfl) ⟨_,_,Tryz.func32,rfl⟩ rfl λ_ _=>by kernel_rfl
def T1:aM Tryz.prog 32 mT:=AV7 λo r h hb=>by
 obtain ⟨h1,rfl⟩:=pA h;unfold NC BUY;refine aH (s:=[(false,aN.li)]) (y:=o.2) ((XU _).trans (nB _ h1)) ?_;rfl
def AFZ (m:aG):Bool:=dX 40 m.2.length&&(dX 56 m.1.length&&m.1.all λy=>dX 8 y.2.2.2.length)
noncomputable def AX3:Env:=Env.of [(65,.pure LZ),(66,.pure FI)]
def A1R:FuncId->Hint:=λ_=>aX
def AHK:aQ Tryz.prog AX3:=.cons A33 (.cons A34 (.nil _))
def BVG(a0:aG):List (List T):=List.map bM.enc a0.1
def BVP(a0:aG):List (List T):=List.map bG.enc a0.2
def NB(a0:aG)(R:T->Prop):Prop:=aI [(false,bG.li)] (LZ [T.sl false (BVP a0)]) λ(y0:List cA)=>aI [(false,bM.li)] (FI [T.sl false (BVG a0),T.fn 67 [] []]) λ(y1:List cT)=>R (T.agg [T.sl false (List.map bM.enc y1),T.sl false (List.map bG.enc y0)])
abbrev Q1:Sh:=[(true,aK)]
def BI (x:aG):Option T:=idK (AFZ x) (aF true aK x)
noncomputable def xZ:List T->Option T:=gS Q1 BI
def ADK {a0}:xZ [aF true aK a0]=BI (a0):=bA (s:=Q1) rfl (a0) rfl
def AV6:qM Tryz.prog 27 xZ BI (bY Q1) NB:=gK (a1:=(true,aK)) (Hs:=A1R) (k:=8) AHK aR aU (aL rfl) ⟨_,_,Tryz.func27,rfl⟩ rfl λ_ _=>by kernel_rfl
def AT4:aM Tryz.prog 27 xZ:=AV6 λm r h hb=>by
 obtain ⟨h1,rfl⟩:=pA h;unfold AFZ at h1;simp only[ac] at h1;unfold NB BVP BVG;refine aH (s:=[(false,bG.li)]) (y:=m.2) (AKS.trans (wH h1.1)) ?_;refine aH (s:=[(false,bM.li)]) (y:=m.1) ((AKT _).trans (nB _ (by rw[h1.2.1,h1.2.2];rfl))) ?_;rfl
end Go.Pv
namespace Go.Pv
section
variable {D O β : Type} (z : D) (ap : D -> O -> D × Int)
def F1:D->List O->D×Int
 | d,[]=>(d,0)
 | d,o::l=>if (ap d o).2=0 then F1 (ap d o).1 l else (z,(ap d o).2)
def sB:∀ (l m:List O) (d:D),F1 z ap d (l++m)=if (F1 z ap d l).2=0 then F1 z ap (F1 z ap d l).1 m else F1 z ap d l
 | [],_,_=>rfl
 | o::l,m,d=>by
  show (if (ap d o).2=0 then F1 z ap (ap d o).1 (l++m) else _)=_;rw[F1];split
  ·exact sB l m _
  ·rfl
structure AOF (D O:Type) where
 base:D
 QT:List O
 last:D
def AOF.Ok (h:AOF D O):Prop:=F1 z ap h.base h.QT=(h.last,0)
variable {z ap}
def BOR {h:AOF D O} (hk:h.Ok z ap) (v:Nat):(F1 z ap h.base (h.QT.take v)).2=0/\F1 z ap (F1 z ap h.base (h.QT.take v)).1 (h.QT.drop v)=(h.last,0):=by
 unfold AOF.Ok at hk;rw[<-List.take_append_drop v h.QT,sB] at hk;split at hk
 ·rename_i h0;exact ⟨h0,hk⟩
 ·rename_i h0;rw[hk] at h0;exact absurd rfl h0
def BD9 {d e:D}:∀ {l:List O},F1 z ap d l=(e,0)->∀ {k:Nat} (hk:k<l.length),
  (F1 z ap d (l.take k)).2=0/\(ap (F1 z ap d (l.take k)).1 l[k]).2=0/\(ap (F1 z ap d (l.take k)).1 l[k]).1=(F1 z ap d (l.take (k+1))).1:=by
 intro l h k hk;have h1:(F1 z ap d (l.take k)).2=0:=by
  rw[<-List.take_append_drop k l,sB] at h;split at h
  ·rename_i h0;exact h0
  ·rename_i h0;rw[h] at h0;exact absurd rfl h0
 have e2:l.take (k+1)=l.take k++[l[k]]:=List.take_succ_eq_append_getElem hk;have h2:(F1 z ap d (l.take (k+1))).2=0:=by
  rw[<-List.take_append_drop (k+1) l,sB] at h;split at h
  ·rename_i h0;exact h0
  ·rename_i h0;rw[h] at h0;exact absurd rfl h0
 rw[e2,sB,if_pos h1] at h2 ⊢;have h3:(ap (F1 z ap d (l.take k)).1 l[k]).2=0:=by
  by_cases hc:(ap (F1 z ap d (l.take k)).1 l[k]).2=0
  ·exact hc
  ·rw[F1,if_neg hc] at h2;exact absurd h2 hc
 refine ⟨h1,h3,?_⟩;rw[F1,if_pos h3];rfl
end
end Go.Pv
namespace Go.Pv
open Go Go.Proofs IntKind
def EU {d:aB} {K:List cH->List bB->List cJ->List aT->List cQ->Prop} (h:K d.2.1 d.2.2.1 d.2.2.2.1 d.2.2.2.2.1 d.2.2.2.2.2) :
  bZ aS (List.map aS.enc d.2.1) λa=>bZ aJ (List.map aJ.enc d.2.2.1) λb=>bZ aV (List.map aV.enc d.2.2.2.1) λc=>bZ aE (List.map aE.enc d.2.2.2.2.1) λe=>bZ aW (List.map aW.enc d.2.2.2.2.2) λf=>K a b c e f :=
 eQ (r:=aS) rfl rfl (eQ (r:=aJ) rfl rfl (eQ (r:=aV) rfl rfl (eQ (r:=aE) rfl rfl (eQ (r:=aW) rfl rfl h))))
def LY {l:List bK} {K:List bK->Prop} (h:K l):bZ a6 (List.map a6.enc l) K:=eQ (r:=a6) rfl rfl h
def A8E {l:List bK} {i k:Nat} {K:bK->Prop} (hi:i=k) (h:k<l.length) (hk:K l[k]):eK a6 (List.map a6.enc l) i 0 K :=
 ⟨_,l[k],by rw[hi];exact (pL (r:=a6)).2 (List.getElem?_eq_getElem h),ak _,rfl,hk⟩
def AF2:∀ {l:List bK},l.length≠0->A77 2 (List.map a6.enc l)=true
 | [],h=>absurd rfl h
 | _::_,_=>rfl
noncomputable def apO (m:aG) (d:aB) (o:bK):aB×Int:=jZ d m o
noncomputable def o9 (m:aG) (d:aB) (l:List bK):aB×Int:=F1 iR (apO m) d l
variable {m:aG}
def ACC {d:aB} {o:bK} (h:(jZ d m o).2=0):o.2.length<=32:=by
 unfold jZ at h;split at h
 ·cases h
 split at h
 ·cases h
 split at h
 ·cases h
 ·omega
def zS {o:bK} (h:GB o=true):∀ x∈o.2,dP (cN x)=true/\dI (fF x)=true:=λx hx=>by
 unfold GB at h;rw[ac,List.all_eq_true] at h;have:=h.2 x hx;rwa[ac] at this
def oY.mono {a b:Nat} {d:aB} (h:oY a d) (hab:a<=b):oY b d:=by
 obtain ⟨a1,a2,a3,a4,a5⟩:=h;exact ⟨by omega,by omega,by omega,by omega,by omega⟩
def A56 {m:aG}:∀ {l:List bK} {d:aB} {b:Nat},oY b d->BA d=true->zR d=true->(∀ o∈l,GB o=true)->(o9 m d l).2=0->oY (b+32*l.length) (o9 m d l).1/\BA (o9 m d l).1=true/\zR (o9 m d l).1=true
 | [],d,b,h,hD,hK,_,_=>⟨h,hD,hK⟩
 | o::l,d,b,h,hD,hK,hO,h0=>by
  unfold o9 at h0 ⊢;rw[F1] at h0 ⊢;by_cases ha:(apO m d o).2=0
  ·rw[if_pos ha] at h0 ⊢;have hl:=ACC ha;obtain ⟨_,e⟩:=XD ha;have ha':(dH m d o.2).2=0:=by rw[<-e];exact ha
   obtain ⟨f1,f2,f3⟩:=DE h hD hK (zS (hO o al)) ha';have e2:(apO m d o).1=(dH m d o.2).1:=congrArg Prod.fst e;rw[e2] at h0 ⊢;obtain ⟨g1,g2,g3⟩:=A56 (f1.mono (b:=b+32) (by omega)) f2 f3 (λx hx=>hO x (List.mem_cons_of_mem _ hx)) h0;refine ⟨oY.mono g1 (by rw[List.length_cons];omega),g2,g3⟩
  ·rw[if_neg ha] at h0;exact absurd h0 ha
structure tP (a:cP):Prop where
 b:∃ b,oY b a.2.1/\b+32*a.2.2.1.length<=868
 D:BA a.2.1=true
 K:zR a.2.1=true
 O:∀ o∈a.2.2.1,GB o=true
def tP.len {a:cP} (h:tP a):a.2.2.1.length<=27:=by obtain ⟨b,_,hb⟩:=h.b;omega
def tP.step {a:cP} (h:tP a) {t:Nat} (ht:t<=a.2.2.1.length) (h0:(o9 a.1 a.2.1 (a.2.2.1.take t)).2=0):oY 868 (o9 a.1 a.2.1 (a.2.2.1.take t)).1/\BA (o9 a.1 a.2.1 (a.2.2.1.take t)).1=true/\zR (o9 a.1 a.2.1 (a.2.2.1.take t)).1=true:=by
 obtain ⟨b,h1,h2⟩:=h.b;obtain ⟨g1,g2,g3⟩:=A56 h1 h.D h.K (λo ho=>h.O o (List.mem_of_mem_take ho)) h0;exact ⟨oY.mono g1 (by rw[List.length_take];omega),g2,g3⟩
noncomputable def atH (a:cP) (v:Int):aB×Int:=if v<0\/(a.2.2.1.length:Int)<v then (iR,8) else o9 a.1 a.2.1 (a.2.2.1.take v.toNat)
def LO (a:cP) (v:Int):List bK×Int:=if v<0\/(a.2.2.1.length:Int)<v then ([],8) else (a.2.2.1.drop v.toNat,0)
def BD7 {d:aB} {l:List bK} {t n:Nat} (ht:t<n) (hn:n<=l.length) (h0:(o9 m d (l.take t)).2=0) (hb:¬ (jZ (o9 m d (l.take t)).1 m (l[t]'(by omega))).2=0):o9 m d (l.take n)=(iR,(jZ (o9 m d (l.take t)).1 m (l[t]'(by omega))).2):=by
 have e:l.take n=l.take t++(l[t]'(by omega)::(l.take n).drop (t+1)):=by
  have h1:(l.take n).take t=l.take t:=by rw[List.take_take,Nat.min_eq_left (by omega)]
  have h2:t<(l.take n).length:=by rw[List.length_take];omega
  rw[<-h1];have h3:(l.take n)[t]=l[t]'(by omega):=List.getElem_take ..;rw[<-h3,<-List.drop_eq_getElem_cons h2,List.take_append_drop]
 unfold o9 at h0 hb ⊢;rw[e,sB,if_pos h0,F1,if_neg (show ¬ (apO m (F1 iR (apO m) d (l.take t)).1 (l[t]'(by omega))).2=0 from hb)];rfl
def BD8 {d:aB} {l:List bK} {t:Nat} (ht:t<l.length) (h0:(o9 m d (l.take t)).2=0) (hb:(jZ (o9 m d (l.take t)).1 m l[t]).2=0):o9 m d (l.take (t+1))=((jZ (o9 m d (l.take t)).1 m l[t]).1,0):=by
 unfold o9 at h0 hb ⊢;rw[List.take_succ_eq_append_getElem ht,sB,if_pos h0,F1,if_pos (by exact hb)];rfl
noncomputable def AG9:Env:=Env.of []
def A1U:FuncId->Hint:=λ_=>aX
def AZC:aQ Tryz.prog AG9:=.nil _
def BUR(a0:cP):List (List T):=List.map a6.enc a0.2.2.1
def AIP(a0:cP)(R:T->Prop):Prop:=R (pPP (↑(BUR a0).length:Int))
def ASF ( a0 R):AAG bS Tryz.prog AG9 A1U 8 17 [aF true bU a0] R=AIP a0 R:=by kernel_rfl
abbrev ZE:Sh:=[(true,bU)]
def Z3 (x:cP):Option T:=some (.v (.int .i64 (x.2.2.1.length:Int)))
noncomputable def IJ:List T->Option (T):=gS ZE Z3
def AUY {a0}:IJ [aF true bU a0]=Z3 (a0):=bA (s:=ZE) rfl (a0) rfl
def BFC (h:∀ a0 r,Z3 (a0)=some r->bY ZE (a0)->AIP a0 (λy=>y=r)):DB Tryz.prog 17 IJ :=
 P4 (E:=AG9) (Hs:=A1U) AZC aR aU (aL rfl) 8 ⟨_,_,Tryz.func17,rfl⟩ rfl λx r h1 h2=>by
  let a0:=x
  rw[show Sh.iS ZE (a0)=[aF true bU a0] from rfl,ASF];exact h a0 r h1 h2
def BDR:DB Tryz.prog 17 IJ:=BFC λa r h hb=>by
 cases h;unfold AIP BUR;rw[ad]
noncomputable def AX5:Env:=Env.of [(28,.pure jG),(18,.pure o8)]
def BGP:FuncId->Hint:=bT 10 [(6,.inv [.val 32 false (.int .i64),.box 3 aC,.fix 2])] (λ_=>aX)
def BBC:aQ Tryz.prog AX5:=.cons T0 (.cons AOZ (.nil _))
def BTW:T:=T.v (Value.slice none 0 0)
def BT2:T:=pPQ ({data:=#[]})
def BVH(y8:aB×Int):List (List T):=List.map aE.enc y8.1.2.2.2.2.1
def BVI(y8:aB×Int):List (List T):=List.map aW.enc y8.1.2.2.2.2.2
def BVM(y8:aB×Int):List (List T):=List.map aV.enc y8.1.2.2.2.1
def BVN(y8:aB×Int):List (List T):=List.map aJ.enc y8.1.2.2.1
def A0M(a0:cP)(a1:Int)(R:T->Prop):Prop:=aD (decide (a1<0)) (BVC R) (aD (decide ((↑(BUR a0).length:Int)<a1)) (BVC R) (bH (decide (0<=a1)&&decide (Int.toNat a1<=(BUR a0).length)&&true) (aD (decide (Int.toNat a1=0)) (bZ aS (List.map aS.enc a0.2.1.2.1) λ(y0:List cH)=>bZ aJ (List.map aJ.enc a0.2.1.2.2.1) λ(y1:List bB)=>bZ aV (List.map aV.enc a0.2.1.2.2.2.1) λ(y2:List cJ)=>bZ aE (List.map aE.enc a0.2.1.2.2.2.2.1) λ(y3:List aT)=>bZ aW (List.map aW.enc a0.2.1.2.2.2.2.2) λ(y4:List cQ)=>fK (bE.rows false [[D.p BT2, D.p BTW, D.p BTW, D.p BTW, D.p BTW, D.p BTW]]) (bE.rows false [[D.p BT2, D.p BTW, D.p BTW, D.p BTW, D.p BTW, D.p BTW]]) (a7 (Int×aB×PUnit×PUnit) (λX5 s6=>aD (decide (s6.1<(↑0:Int))) (aP a6 [] s6.1 λ(y7:bK)=>aI BT1 (o8 [aF true aC s6.2.1,aF true aK a0.1, aF true a6 y7]) λ(y8:aB×Int)=>aD (!decide (y8.2=0)) (R (T.bX [BTY, pPP y8.2])) (bZ aS (List.map aS.enc y8.1.2.1) λ(y9:List cH)=>bZ aJ (BVN y8) λ(y10:List bB)=>bZ aV (BVM y8) λ(y11:List cJ)=>bZ aE (BVH y8) λ(y12:List aT)=>bZ aW (BVI y8) λ(y13:List cQ)=>fK (bE.rows false [[D.p BT2, D.p BTW, D.p BTW, D.p BTW, D.p BTW, D.p BTW]]) (bE.rows false [[D.p BT2, D.p BTW, D.p BTW, D.p BTW, D.p BTW, D.p BTW]]) (X5 (i64.wrap (s6.1+1),(y8.1.1,y9,y10,y11,y12,y13), (),())))) (aI [(true,aC)] (jG [aF true aC s6.2.1]) λ(y14:aB)=>R (T.bX (BU7 y14)))) (0,(a0.2.1.1,y0,y1,y2,y3,y4),(),()))) (bH (A77 2 (BUR a0)) (bZ aS (List.map aS.enc a0.2.1.2.1) λ(y15:List cH)=>bZ aJ (List.map aJ.enc a0.2.1.2.2.1) λ(y16:List bB)=>bZ aV (List.map aV.enc a0.2.1.2.2.2.1) λ(y17:List cJ)=>bZ aE (List.map aE.enc a0.2.1.2.2.2.2.1) λ(y18:List aT)=>bZ aW (List.map aW.enc a0.2.1.2.2.2.2.2) λ(y19:List cQ)=>fK (bE.rows false [[D.p BT2, D.p BTW, D.p BTW, D.p BTW, D.p BTW, D.p BTW]]) (bE.rows false [[D.p BT2, D.p BTW, D.p BTW, D.p BTW, D.p BTW, D.p BTW]]) (a7 (Int×aB×PUnit×PUnit) (λX20 s21=>aD (decide (s21.1<(↑(Int.toNat a1-0):Int))) (bH (decide (0<=s21.1)&&decide (Int.toNat s21.1<Int.toNat a1-0)) (aP a6 (BUR a0) (↑(0+Int.toNat s21.1):Int) λ(y22:bK)=>eK a6 (BUR a0) (0+Int.toNat s21.1) 0 λ(y23:bK)=>aI BT1 (o8 [aF true aC s21.2.1, aF true aK a0.1,aF true a6 y23]) λ(y24:aB×Int)=>aD (!decide (y24.2=0)) (R (T.bX [BTY, pPP y24.2])) (bZ aS (List.map aS.enc y24.1.2.1) λ(y25:List cH)=>bZ aJ (BVN y24) λ(y26:List bB)=>bZ aV (BVM y24) λ(y27:List cJ)=>bZ aE (BVH y24) λ(y28:List aT)=>bZ aW (BVI y24) λ(y29:List cQ)=>fK (bE.rows false [[D.p BT2, D.p BTW, D.p BTW, D.p BTW, D.p BTW, D.p BTW]]) (bE.rows false [[D.p BT2, D.p BTW, D.p BTW, D.p BTW, D.p BTW, D.p BTW]]) (X20 (i64.wrap (s21.1+1), (y24.1.1,y25,y26,y27,y28,y29),(),()))))) (aI [(true,aC)] (jG [aF true aC s21.2.1]) λ(y30:aB)=>R (T.bX (BU7 y30)))) (0,(a0.2.1.1,y15,y16,y17,y18,y19),(),())))))))
def A0N ( a0 a1 R):AAG bS Tryz.prog AX5 BGP 8 10 [aF true bU a0,aF false (Sy.int IntKind.i64) a1] R=A0M a0 a1 R:=by kernel_rfl
abbrev AQE:Sh:=[(true,bU),(false,(Sy.int IntKind.i64))]
open Classical in
noncomputable def J5 (x:cP×Int):Option T:=if tP x.1 then some (Sh.enc [(true,aC),(false,.int .i64)] (atH x.1 x.2)) else none
noncomputable def CP:List T->Option (T):=gS AQE J5
def A5J {a0 a1}:CP [aF true bU a0,pPP a1]=J5 (a0,a1):=bA (s:=AQE) rfl (a0,a1) rfl
def BLZ (h:∀ a0 a1 r,J5 (a0,a1)=some r->bY AQE (a0,a1)->A0M a0 a1 (λy=>y=r)):DB Tryz.prog 10 CP :=
 P4 (E:=AX5) (Hs:=BGP) BBC aR aU (aL rfl) 8 ⟨_,_,Tryz.func10,rfl⟩ rfl λx r h1 h2=>by
  obtain ⟨a0,a1⟩:=x;rw[show Sh.iS AQE (a0,a1)=[aF true bU a0,aF false (Sy.int IntKind.i64) a1] from rfl,A0N];exact h a0 a1 r h1 h2
def A58 {a:cP} (h:tP a) (v:Int):CP [aF true bU a,.v (.int .i64 v)]=some (Sh.enc [(true,aC),(false,.int .i64)] (atH a v)):=by
 have e:CP [aF true bU a,.v (.int .i64 v)]=J5 (a,v):=A5J ..;rw[e];unfold J5;exact if_pos h
def LX {d:aB} {b:Nat} (h:oY b d) (hb:b<=900) (hD:BA d=true) (hK:zR d=true):jG [aF true aC d]=some (Sh.enc [(true,aC)] d):=(ADJ ..).trans (nB _ (A75 h hb hD hK))
variable {R:T->Prop}
def BI7 {a:cP} (hc:tP a) {n:Nat} {bx:bE} (hn:n<=a.2.2.1.length) (hR:R (T.bX [aF true aC (o9 a.1 a.2.1 (a.2.2.1.take n)).1,pPP ((o9 a.1 a.2.1 (a.2.2.1.take n)).2)])) :
  a7 (Int×aB×PUnit×PUnit) (λX s=>aD (decide (s.1<((n-0:Nat):Int))) (bH (decide (0<=s.1)&&decide (Int.toNat s.1<n-0)) (aP a6 (List.map a6.enc a.2.2.1) ((0+Int.toNat s.1:Nat):Int) λ_ =>
   eK a6 (List.map a6.enc a.2.2.1) (0+Int.toNat s.1) 0 λo=>aI [(true,aC),(false,.int .i64)] (o8 [aF true aC s.2.1,aF true aK a.1,aF true a6 o]) λy=>aD (!decide (y.2=0)) (R (T.bX [aF true aC iR,pPP y.2]))
    (bZ aS (List.map aS.enc y.1.2.1) λa=>bZ aJ (List.map aJ.enc y.1.2.2.1) λb=>bZ aV (List.map aV.enc y.1.2.2.2.1) λc=>bZ aE (List.map aE.enc y.1.2.2.2.2.1) λe=>bZ aW (List.map aW.enc y.1.2.2.2.2.2) λq =>
     fK bx bx (X (i64.wrap (s.1+1),(y.1.1,a,b,c,e,q),(),())))))
   (aI [(true,aC)] (jG [aF true aC s.2.1]) λy=>R (T.bX [aF true aC y,pPP 0]))) (0,a.2.1,(),()):=by
 have hl:=hc.len;refine bI n (λk s=>s=((k:Int),(o9 a.1 a.2.1 (a.2.2.1.take k)).1,(),())/\(o9 a.1 a.2.1 (a.2.2.1.take k)).2=0) ⟨rfl,rfl⟩ ?_;rintro X k s hk ⟨rfl,h0⟩ hX;dsimp only;obtain ⟨f1,f2,f3⟩:=hc.step (by omega) h0;refine bV (λh=>?_) λh=>?_
 ·have hlt:k<n:=by omega
  have hO:k<a.2.2.1.length:=by omega
  refine ⟨by rw[ah (by omega),ah (by omega)];rfl,?_⟩;rw[Int.toNat_natCast,Nat.zero_add,bC (r:=a6) hO];refine A8E rfl hO ?_;refine aH (s:=[(true,aC),(false,.int .i64)]) (y:=jZ (o9 a.1 a.2.1 (a.2.2.1.take k)).1 a.1 a.2.2.1[k]) (H0 (AMH f1 (by omega) f2 f3 (zS (hc.O _ (aj hO))))) ?_;refine lA (λhb=>?_) λhg=>?_
  ·rw[BD7 hlt hn h0 hb] at hR;exact hR
  ·refine EU ?_;rw[cU];have e:=BD8 hO h0 hg;exact hX _ hlt ⟨by rw[bD _ (by omega) (by omega),e];rfl,by rw[e]⟩
 ·have:k=n:=by omega
  subst this;refine aH (s:=[(true,aC)]) (y:=(o9 a.1 a.2.1 (a.2.2.1.take k)).1) (LX f1 (by omega) f2 f3) ?_;rw[h0] at hR;exact hR
def BJ2:DB Tryz.prog 10 CP:=BLZ λa v r h hb=>by
 clear hb;unfold J5 at h;split at h
 case isFalse=>cases h
 rename_i hc;have hc:tP a:=hc;cases h;have hl:=hc.len;unfold A0M BVN BVM BVI BVH BVC BU7 BUR BT2 BT1 BTY BTW;rw[ad];refine bV (λh1=>?_) λh1=>?_
 ·show _=Sh.enc [(true,aC),(false,.int .i64)] (atH a v);unfold atH;rw[if_pos (.inl h1)];rfl
 refine bV (λh2=>?_) λh2=>?_
 ·show _=Sh.enc [(true,aC),(false,.int .i64)] (atH a v);unfold atH;rw[if_pos (.inr h2)];rfl
 have e:atH a v=o9 a.1 a.2.1 (a.2.2.1.take v.toNat):=by unfold atH;rw[if_neg (by omega)]
 refine ⟨by rw[ah (by omega),ah (by omega)];rfl,?_⟩;refine bV (λh0=>?_) λh0=>?_
 ·refine EU (d:=a.2.1) ?_;rw[cU];intro X hX;refine hX _ ?_;dsimp only;refine bV (λh=>absurd h (by decide)) λ_=>?_;obtain ⟨f1,f2,f3⟩:=hc.step (t:=0) (by omega) rfl;refine aH (s:=[(true,aC)]) (y:=a.2.1) (LX f1 (by omega) f2 f3) ?_;show _=Sh.enc [(true,aC),(false,.int .i64)] (atH a v);rw[e,h0];rfl
 ·refine ⟨AF2 (by omega),?_⟩;refine EU (d:=a.2.1) ?_;rw[cU];refine BI7 hc (R:=λy=>y=Sh.enc [(true,aC),(false,.int .i64)] (atH a v)) (by omega) ?_;rw[e];rfl
noncomputable def AHA:Env:=Env.of [(32,.pure mT)]
def A1V:FuncId->Hint:=bT 35 [(3,.inv [.val 10 false (.int .i64),.own 5 2 a6])] (λ_=>aX)
def AZD:aQ Tryz.prog AHA:=.cons T1 (.nil _)
def BVL(s1:Int×List bK×PUnit):List (List T):=List.map a6.enc s1.2.1
def AIQ(a0:cP)(a1:Int)(R:T->Prop):Prop:=aD (decide (a1<0)) (R (T.bX [T.sl false [],pPP 8])) (aD (decide ((↑(BUR a0).length:Int)<a1)) (R (T.bX [T.sl false [],pPP 8])) (bH (decide ((BUR a0).length<=(BUR a0).length) && (decide (0<=a1)&&decide (Int.toNat a1<=(BUR a0).length))) (aD (decide ((BUR a0).length=Int.toNat a1)) (a7 (Int×List bK×PUnit) (λX0 s1=>aD (decide (s1.1<(↑0:Int))) (aP a6 [] s1.1 λ(y2:bK)=>aI [(true,a6)] (mT [aF true a6 y2]) λ(y3:bK)=>bH (decide (((BVL s1).length+1)*40<=140737488355328) && decide ((BVL s1).length+1<=140737488355328)) (bZ a6 (List.map a6.enc s1.2.1 ++ [[pPQ y3.1,T.sl false (BUY y3)]]) λ(y4:List bK)=>X0 (i64.wrap (s1.1+1),y4,()))) (R (T.bX [T.sl false (BVL s1), pPP 0]))) (0,[],())) (bH (A77 2 (BUR a0)) (a7 (Int×List bK×PUnit) (λX5 s6=>aD (decide (s6.1<(↑((BUR a0).length-Int.toNat a1):Int))) (bH (decide (0<=s6.1) && decide (Int.toNat s6.1<(BUR a0).length-Int.toNat a1)) (aP a6 (BUR a0) (↑(Int.toNat a1+Int.toNat s6.1):Int) λ(y7:bK)=>eK a6 (BUR a0) (Int.toNat a1+Int.toNat s6.1) 0 λ(y8:bK)=>aI [(true,a6)] (mT [aF true a6 y8]) λ(y9:bK)=>bH (decide (((BVL s6).length+1)*40<=140737488355328) && decide ((BVL s6).length+1<=140737488355328)) (bZ a6 (List.map a6.enc s6.2.1 ++ [[pPQ y9.1, T.sl false (BUY y9)]]) λ(y10:List bK)=>X5 (i64.wrap (s6.1+1),y10,())))) (R (T.bX [T.sl false (BVL s6), pPP 0]))) (0,[],()))))))
def ASG ( a0 a1 R):AAG bS Tryz.prog AHA A1V 8 13 [aF true bU a0,aF false (Sy.int IntKind.i64) a1] R=AIQ a0 a1 R:=by kernel_rfl
abbrev ZF:Sh:=[(true,bU),(false,(Sy.int IntKind.i64))]
open Classical in
noncomputable def BL (x:cP×Int):Option T:=if tP x.1 then some (Sh.enc [(false,a6.li),(false,.int .i64)] (LO x.1 x.2)) else none
noncomputable def x5:List T->Option (T):=gS ZF BL
def AUZ {a0 a1}:x5 [aF true bU a0,pPP a1]=BL (a0,a1):=bA (s:=ZF) rfl (a0,a1) rfl
def BFD (h:∀ a0 a1 r,BL (a0,a1)=some r->bY ZF (a0,a1)->AIQ a0 a1 (λy=>y=r)):DB Tryz.prog 13 x5 :=
 P4 (E:=AHA) (Hs:=A1V) AZD aR aU (aL rfl) 8 ⟨_,_,Tryz.func13,rfl⟩ rfl λx r h1 h2=>by
  obtain ⟨a0,a1⟩:=x;rw[show Sh.iS ZF (a0,a1)=[aF true bU a0,aF false (Sy.int IntKind.i64) a1] from rfl,ASG];exact h a0 a1 r h1 h2
def BEB {a:cP} (h:tP a) (v:Int):x5 [aF true bU a,.v (.int .i64 v)]=some (Sh.enc [(false,a6.li),(false,.int .i64)] (LO a v)):=by
 have e:x5 [aF true bU a,.v (.int .i64 v)]=BL (a,v):=AUZ ..;rw[e];unfold BL;exact if_pos h
def AOQ {o:bK} (h:GB o=true):mT [aF true a6 o]=some (Sh.enc [(true,a6)] o):=(ADL ..).trans (nB _ h)
def BDS:DB Tryz.prog 13 x5:=BFD λa v r h hb=>by
 clear hb;unfold BL at h;split at h
 case isFalse=>cases h
 rename_i hc;have hc:tP a:=hc;cases h;have hl:=hc.len;unfold AIQ BVL BUR BUY;rw[ad];refine bV (λh1=>?_) λh1=>?_
 ·show _=Sh.enc [(false,a6.li),(false,.int .i64)] (LO a v);unfold LO;rw[if_pos (.inl h1)];rfl
 refine bV (λh2=>?_) λh2=>?_
 ·show _=Sh.enc [(false,a6.li),(false,.int .i64)] (LO a v);unfold LO;rw[if_pos (.inr h2)];rfl
 have e:LO a v=(a.2.2.1.drop v.toNat,0):=by unfold LO;rw[if_neg (by omega)]
 refine ⟨by rw[ah (ak _),ah (by omega),ah (by omega)];rfl,?_⟩;refine bV (λh0=>?_) λh0=>?_
 ·intro X hX;refine hX _ ?_;dsimp only;refine bV (λh=>absurd h (by decide)) λ_=>?_;show _=Sh.enc [(false,a6.li),(false,.int .i64)] (LO a v);rw[e,List.drop_eq_nil_of_le (by omega)];rfl
 ·refine ⟨AF2 (by omega),?_⟩;have hd:(a.2.2.1.drop v.toNat).length=a.2.2.1.length-v.toNat:=List.length_drop ..;refine bI (a.2.2.1.length-v.toNat) (λk s=>s=((k:Int),(a.2.2.1.drop v.toNat).take k,())) rfl ?_;rintro X k s hk rfl hX;dsimp only;refine bV (λh=>?_) λh=>?_
  ·have hlt:k<a.2.2.1.length-v.toNat:=by omega
   have hO:v.toNat+k<a.2.2.1.length:=by omega
   refine ⟨by rw[ah (by omega),ah (by omega)];rfl,?_⟩;rw[Int.toNat_natCast,bC (r:=a6) hO];refine A8E rfl hO ?_;refine aH (s:=[(true,a6)]) (y:=a.2.2.1[v.toNat+k]) (AOQ (hc.O _ (aj hO))) ?_;have hk2:(List.map a6.enc ((a.2.2.1.drop v.toNat).take k)).length<=27:=by rw[ad,List.length_take];omega
   refine ⟨by rw[ah (by omega),ah (by omega)];rfl,?_⟩;refine eQ (r:=a6) rfl (l:=(a.2.2.1.drop v.toNat).take k++[a.2.2.1[v.toNat+k]]) (by rw[List.map_append];rfl) ?_;refine hX _ hlt ?_;have e3:(a.2.2.1.drop v.toNat).take (k+1)=(a.2.2.1.drop v.toNat).take k++[a.2.2.1[v.toNat+k]]:=by
    rw[List.take_succ_eq_append_getElem (by omega:k<(a.2.2.1.drop v.toNat).length)];simp
   rw[bD _ (by omega) (by omega),e3];rfl
  ·have:k=a.2.2.1.length-v.toNat:=by omega
   subst this;show _=Sh.enc [(false,a6.li),(false,.int .i64)] (LO a v);rw[e,<-hd,List.take_length];rfl
end Go.Pv
namespace Go.Pv
open Go Go.Proofs IntKind
def CO (g:cT):Bool:=decide ((g.2.2.2.length:Int)<=30)&&decide ((g.1.size:Int)<=40)
def AQD (s:cA):Bool:=decide ((s.1.size:Int)<=40)
def vM (m:aG):Bool:=(m.1.take 41).all CO&&((m.2.take 41).all AQD&&(decide ((m.1.length:Int)<=40)&&decide ((m.2.length:Int)<=40)))
def GX (m:aG):Option T:=some (pPR (vM m))
noncomputable def BAD:Env:=Env.of []
def BB0:FuncId->Hint:=bT 23 [(2,.inv [.val 3 false (.int .i64)]),(7,.inv [.val 4 false (.int .i64)])] (λ_=>aX)
def ARS:aQ Tryz.prog BAD:=.nil _
def BTX:T:=pPR false
def BU5(a0:aG)(R:T->Prop):Prop:=aD (decide ((↑(BVG a0).length:Int)<=40)) (R (pPR (decide ((↑(BVP a0).length:Int)<=40)))) (R BTX)
def BUJ(a0:aG)(R:T->Prop):Prop:=a7 (Int×PUnit) (λX4 s5=>aD (decide (s5.1<(↑(BVP a0).length:Int))) (aD (decide (s5.1<41)) (aP bG (BVP a0) s5.1 λ(y6:cA)=>aD (decide (40<(↑(ByteArray.size y6.1):Int))) (R BTX) (BUW X4 s5)) (BU5 a0 R)) (BU5 a0 R)) (0,())
def WE(a0:aG)(R:T->Prop):Prop:=a7 (Int×PUnit) (λX0 s1=>aD (decide (s1.1<(↑(BVG a0).length:Int))) (aD (decide (s1.1<41)) (aP bM (BVG a0) s1.1 λ(y2:cT)=>aD (decide (30<(↑(List.map BT5.enc y2.2.2.2).length:Int))) (R BTX) (aP bM (BVG a0) s1.1 λ(y3:cT)=>aD (decide (40<(↑(ByteArray.size y3.1):Int))) (R BTX) (BUW X0 s1))) (BUJ a0 R)) (BUJ a0 R)) (0,())
abbrev ZB:Sh:=[(true,aK)]
noncomputable def FM:List T->Option T:=gS ZB GX
def AKX {a0}:FM [aF true aK a0]=GX (a0):=bA (s:=ZB) rfl (a0) rfl
def A7M:qM Tryz.prog 23 FM GX (bY ZB) WE:=gK (a1:=(true,aK)) (Hs:=BB0) (k:=8) ARS aR aU (aL rfl) ⟨_,_,Tryz.func23,rfl⟩ rfl λ_ _=>by kernel_rfl
variable {α:Type}
def R9 {l:List α} {ok:α->Bool} {k:Nat} (h:k<l.length) (h41:k<41) (hb:ok l[k]=false):(l.take 41).all ok=false:=by
 rw[Bool.eq_false_iff];intro hc;have hk:k<(l.take 41).length:=by rw[List.length_take];omega
 have h1:=List.all_eq_true.1 hc (l.take 41)[k] (aj hk);rw[List.getElem_take,hb] at h1;cases h1
def ACS {r:Sy} {l:List r.den} (ok:r.den->Bool) {Fin:Prop} {Body:(Int×PUnit->Prop)->Int×PUnit->Prop}
  (hbody:∀ X k (h:k<l.length),k<41->(ok l[k]=true->X (i64.wrap ((k:Int)+1),()))->Body X ((k:Int),())) (hF:(l.take 41).all ok=true->Fin) :
  a7 (Int×PUnit) (λX s=>aD (decide (s.1<((List.map r.enc l).length:Int))) (aD (decide (s.1<41)) (Body X s) Fin) Fin) (0,()):=by
 refine bI l.length (λk s=>s=((k:Int),())/\k<=41/\(l.take k).all ok=true) ⟨rfl,by omega,rfl⟩ ?_;rintro X k s hk ⟨rfl,h41,he⟩ hX;dsimp only;refine bV (λhlt=>?_) λhge=>?_
 ·rw[ad] at hlt;have hlt:k<l.length:=by omega
  refine bV (λh=>hbody X k hlt (by omega) λhok=>hX _ hlt ⟨?_,by omega,?_⟩) λh=>hF ?_
  ·rw[show i64.wrap ((k:Int)+1)=((k+1:Nat):Int) by rw[bD]<;>omega]
  ·rw[List.take_add_one,List.getElem?_eq_getElem hlt,List.all_append,he];simpa using hok
  ·have:k=41:=by omega
   subst this;exact he
 ·rw[ad] at hge;have:k=l.length:=by omega
  subst this;exact hF (by rw[List.take_of_length_le h41];rw[List.take_length] at he;exact he)
def A38:aM Tryz.prog 23 FM:=A7M λm r h hb=>by
 clear hb;cases h;have is:∀ {b:Bool},vM m=b->pPR b=pPR (vM m):=λh=>by rw[h]
 unfold WE BUJ BU5 BVP BVG BUW BT5 BTX;have fin:(m.1.take 41).all CO=true->(m.2.take 41).all AQD=true->aD (decide ((↑(List.map bM.enc m.1).length:Int)<=40)) (pPR (decide ((↑(List.map bG.enc m.2).length:Int)<=40))=pPR (vM m)) (pPR false=pPR (vM m)):=λh1 h2=>by
  rw[ad,ad];refine bV (λh=>is ?_) λh=>is ?_
  ·unfold vM;rw[h1,h2,ah h];rfl
  ·unfold vM;rw[h1,h2,ai h];rfl
 have sec:(m.1.take 41).all CO=true->a7 (Int×PUnit)
   (λ(X4:Int×PUnit->Prop) (s5:Int×PUnit) =>
   aD (decide (s5.1<(↑(List.map bG.enc m.2).length:Int)))
   (aD (decide (s5.1<41))
    (aP bG (List.map bG.enc m.2) s5.1 λ(y6:cA) =>
    aD (decide (40<(↑(ByteArray.size y6.1):Int))) (pPR false=pPR (vM m))
    (X4 (i64.wrap (s5.1+1),())))
    (aD (decide ((↑(List.map bM.enc m.1).length:Int)<=40))
    (pPR (decide ((↑(List.map bG.enc m.2).length:Int)<=40))=pPR (vM m))
    (pPR false=pPR (vM m))))
   (aD (decide ((↑(List.map bM.enc m.1).length:Int)<=40))
    (pPR (decide ((↑(List.map bG.enc m.2).length:Int)<=40))=pPR (vM m))
    (pPR false=pPR (vM m))))
   (0,()):=λh1=>by
  refine ACS (r:=bG) AQD (λX k hk h41 hX=>?_) λh2=>fin h1 h2;dsimp only;rw[bC (r:=bG) hk];refine bV (λhb=>is ?_) λhb=>hX ?_
  ·unfold vM;rw[R9 hk h41 (show AQD m.2[k]=false from ai (by omega))];simp
  ·exact ah (by omega)
 refine ACS (r:=bM) CO (λX k hk h41 hX=>?_) λh1=>sec h1;dsimp only;rw[bC (r:=bM) hk,ad];refine bV (λhb=>is ?_) λhb=>?_
 ·unfold vM;rw[R9 hk h41 (show CO m.1[k]=false by unfold CO;rw[ai (by omega),Bool.false_and])];rfl
 rw[bC (r:=bM) hk];refine bV (λhb2=>is ?_) λhb2=>hX ?_
 ·unfold vM;rw[R9 hk h41 (show CO m.1[k]=false by unfold CO;rw[ai (p:=((m.1[k].1.size:Nat):Int)<=40) (by omega),Bool.and_false])];rfl
 ·unfold CO;rw[ah (by omega),ah (by omega)];rfl
end Go.Pv
namespace Go.Pv
open Go Go.RowKit IntKind
section
variable {α : Type}
def UP {k:iII}:∀ {es:List (iII×α)},eC es k=none->k∉es.map λe=>e.1
 | [],_=>by simp
 | e::es,h=>by
  unfold eC at h;split at h
  ·cases h
  ·rename_i hne;have:=UP h;simp only[List.map_cons,List.mem_cons,not_or];exact ⟨λh'=>hne h'.symm,this⟩
def UQ {k s:iII} {x:α}:∀ {es:List (iII×α)},eC (es++[(k,x)]) s=match eC es s with|some y=>some y|none=>if k=s then some x else none
 | []=>by simp[eC]
 | e::es=>by
  simp only[List.cons_append,eC];split
  ·rfl
  ·exact UQ
def yK {s:iII} {x:α}:∀ {es:List (iII×α)},(es.map λe=>e.1).Nodup->(eC es s=some x↔(s,x)∈es)
 | [],_=>by simp[eC]
 | e::es,h=>by
  simp only[List.map_cons,List.nodup_cons] at h;unfold eC;split
  ·rename_i he;constructor
   ·intro h';cases h';subst he;simp
   ·intro h';rcases List.mem_cons.1 h' with h'|h'
    ·subst h';rfl
    ·exact absurd (List.mem_map.2 ⟨_,h',he.symm⟩) h.1
  ·rename_i he;rw[yK h.2,List.mem_cons];constructor
   ·exact .inr
   ·rintro (h'|h')
    ·subst h';exact absurd rfl he
    ·exact h'
def nP (id:α->iII) (l:List α) (k:Nat) (es:List (iII×α)):Prop :=
 (∀ s,eC es s=(l.take k).find? λx=>decide (id x=s))/\(es.map λe=>e.1).Nodup/\es.length<=k
def nP.zero (id:α->iII) (l:List α):nP id l 0 []:=⟨by simp[eC],by simp,by simp⟩
def nP.no {id:α->iII} {l:List α} {k:Nat} {es:List (iII×α)} (h:nP id l k es) (hk:k<l.length) {y:α} (hy:eC es (id l[k])=some y):nP id l (k+1) es:=by
 refine ⟨λs=>?_,h.2.1,by have:=h.2.2;omega⟩;rw[List.take_succ_eq_append_getElem hk,List.find?_append,<-h.1];cases hs:eC es s with
 | some z=>rfl
 | none =>
  rw[Option.none_or,List.find?_cons];split
  ·rename_i he;rw[of_decide_eq_true he,hs] at hy;cases hy
  ·rfl
def nP.yes {id:α->iII} {l:List α} {k:Nat} {es:List (iII×α)} (h:nP id l k es) (hk:k<l.length) (hy:eC es (id l[k])=none):nP id l (k+1) (es++[(id l[k],l[k])]):=by
 refine ⟨λs=>?_,?_,by have:=h.2.2;simp;omega⟩
 ·rw[List.take_succ_eq_append_getElem hk,List.find?_append,<-h.1,UQ];cases hs:eC es s with
  | some z=>rfl
  | none =>
   rw[Option.none_or,List.find?_cons];by_cases he:id l[k]=s
   ·simp[he]
   ·simp[he]
 ·rw[List.map_append,List.nodup_append];refine ⟨h.2.1,by simp,λa ha b hb e=>?_⟩;simp only[List.map_cons,List.map_nil,List.mem_singleton] at hb;subst hb e;exact UP hy ha
def dif (same:α->α->Bool):Option α->Option α->Bool
 | some x,some y=>!same x y
 | none,none=>false
 | _,_=>true
def AJ0 (same:α->α->Bool) (q:List (iII×α)) (e:iII×α):Bool:=match eC q e.1 with|some y=>!same e.2 y|none=>true
def ATI (p:List (iII×α)) (e:iII×α):Bool:=(eC p e.1).isNone
def BC3 {same:α->α->Bool} {id:α->iII} {a b:List α} {p q:List (iII×α)} (hp:nP id a a.length p) (hq:nP id b b.length q) {o1 o2:List iII}
  (h1:∀ s,s∈o1↔∃ e∈p,e.1=s/\AJ0 same q e=true) (h2:∀ s,s∈o2↔∃ e∈q,e.1=s/\ATI p e=true) (s:iII) :
  s∈o1++o2↔dif same (a.find? λx=>decide (id x=s)) (b.find? λx=>decide (id x=s))=true:=by
 have ea:(a.find? λx=>decide (id x=s))=eC p s:=by have:=hp.1 s;rw[List.take_length] at this;exact this.symm
 have eb:(b.find? λx=>decide (id x=s))=eC q s:=by have:=hq.1 s;rw[List.take_length] at this;exact this.symm
 rw[ea,eb,List.mem_append,h1,h2];constructor
 ·rintro (⟨e,he,rfl,hd⟩|⟨e,he,rfl,hd⟩)
  ·have hg:=(yK (x:=e.2) hp.2.1).2 he;rw[hg];unfold AJ0 at hd;split at hd
   ·rename_i y hy;rw[hy];exact hd
   ·rename_i hy;rw[hy];rfl
  ·have hg:=(yK (x:=e.2) hq.2.1).2 he;unfold ATI at hd;rw[Option.isNone_iff_eq_none] at hd;rw[hg,hd];rfl
 ·intro hd;cases hpx:eC p s with
  | some x =>
   refine .inl ⟨(s,x),(yK hp.2.1).1 hpx,rfl,?_⟩;unfold AJ0;rw[hpx] at hd;cases hqy:eC q s with
   | some y=>rw[hqy] at hd;exact hd
   | none=>simp
  | none =>
   cases hqy:eC q s with
   | some y =>
    refine .inr ⟨(s,y),(yK hq.2.1).1 hqy,rfl,?_⟩;unfold ATI;simp[hpx]
   | none=>rw[hpx,hqy] at hd;cases hd
def A3L {same:α->α->Bool} (hs:∀ x,same x x=true) (x:Option α):dif same x x=false:=by
 cases x<;>simp[dif,hs]
end
section
variable {β : Type} {lt : β -> β -> Prop}
structure BCH (lt:β->β->Prop):Prop where
 irr:∀ a,¬ lt a a
 tr:∀ {a b c},lt a b->lt b c->lt a c
 tot:∀ {a b},¬ lt a b->¬ lt b a->a=b
def LA (lt:β->β->Prop) (begun:Bool) (last s:β):Prop:=begun=false\/lt last s
def oZ (lt:β->β->Prop) (all:List β) (begun:Bool) (last:β) (k:Nat) (nx:β) (sm:Bool):Prop :=
 (sm=false->∀ s∈all.take k,¬ LA lt begun last s)/\(sm=true->nx∈all/\LA lt begun last nx/\∀ s∈all.take k,LA lt begun last s->¬ lt s nx)
def oZ.zero (all:List β) (begun:Bool) (last nx:β):oZ lt all begun last 0 nx false:=⟨by simp,by simp⟩
variable {begun sm:Bool}
def oZ.take (ho:BCH lt) {all:List β} {last:β} {k:Nat} {nx:β} (h:oZ lt all begun last k nx sm) (hk:k<all.length)
  (he:LA lt begun last all[k]) (hc:sm=false\/lt all[k] nx):oZ lt all begun last (k+1) all[k] true:=by
 refine ⟨by simp,λ_=>⟨aj hk,he,λs hs hes=>?_⟩⟩;rw[List.take_succ_eq_append_getElem hk,List.mem_append] at hs;rcases hs with hs|hs
 ·cases sm with
  | false=>exact absurd hes (h.1 rfl s hs)
  | true =>
   have hlt:=hc.resolve_left (by simp);exact λh'=>(h.2 rfl).2.2 s hs hes (ho.tr h' hlt)
 ·rw[List.mem_singleton.1 hs];exact ho.irr _
def oZ.skip {all:List β} {last:β} {k:Nat} {nx:β} (h:oZ lt all begun last k nx sm) (hk:k<all.length)
  (hc:¬ LA lt begun last all[k]\/(sm=true/\¬ lt all[k] nx)):oZ lt all begun last (k+1) nx sm:=by
 refine ⟨λe s hs=>?_,λe=>⟨(h.2 e).1,(h.2 e).2.1,λs hs hes=>?_⟩⟩
 ·rw[List.take_succ_eq_append_getElem hk,List.mem_append] at hs;rcases hs with hs|hs
  ·exact h.1 e s hs
  ·rw[List.mem_singleton.1 hs];rcases hc with hc|⟨hc,_⟩
   ·exact hc
   ·rw[hc] at e;cases e
 ·rw[List.take_succ_eq_append_getElem hk,List.mem_append] at hs;rcases hs with hs|hs
  ·exact (h.2 e).2.2 s hs hes
  ·rw[List.mem_singleton.1 hs] at hes ⊢;rcases hc with hc|⟨_,hc⟩
   ·exact absurd hes hc
   ·exact hc
def sW (lt:β->β->Prop) (all:List β) (D:β->Prop) (out:List β) (begun:Bool) (last:β):Prop :=
 out.Pairwise lt/\∀ s,s∈out↔s∈all/\D s/\¬ LA lt begun last s
def sW.zero (all:List β) (D:β->Prop) (last:β):sW lt all D [] false last:=⟨List.Pairwise.nil,λs=>by simp[LA]⟩
def zO (ho:BCH lt) {all:List β} {last nx:β} (h:oZ lt all begun last all.length nx true) {s:β} (hs:s∈all):¬ LA lt true nx s↔¬ LA lt begun last s\/s=nx:=by
 have h2:=(h.2 rfl).2;rw[List.take_length] at h2;have e1:LA lt true nx s↔lt nx s:=by simp[LA]
 rw[e1];constructor
 ·intro hn;by_cases he:LA lt begun last s
  ·exact .inr (ho.tot (h2.2 s hs he) hn)
  ·exact .inl he
 ·rintro (hn|rfl)
  ·intro hl;refine hn ?_;rcases h2.1 with h3|h3
   ·exact .inl h3
   ·exact .inr (ho.tr h3 hl)
  ·exact ho.irr _
def sW.skip (ho:BCH lt) {all:List β} {D:β->Prop} {out:List β} {last nx:β} (h:sW lt all D out begun last) (hl:oZ lt all begun last all.length nx true) (hd:¬ D nx):sW lt all D out true nx:=by
 refine ⟨h.1,λs=>?_⟩;rw[h.2];constructor
 ·rintro ⟨h1,h2,h3⟩;exact ⟨h1,h2,(zO ho hl h1).2 (.inl h3)⟩
 ·rintro ⟨h1,h2,h3⟩;rcases (zO ho hl h1).1 h3 with h3|rfl
  ·exact ⟨h1,h2,h3⟩
  ·exact absurd h2 hd
def sW.take (ho:BCH lt) {all:List β} {D:β->Prop} {out:List β} {last nx:β} (h:sW lt all D out begun last) (hl:oZ lt all begun last all.length nx true) (hd:D nx):sW lt all D (out++[nx]) true nx:=by
 have hn:=hl.2 rfl;refine ⟨List.pairwise_append.2 ⟨h.1,by simp,λa ha b hb=>?_⟩,λs=>?_⟩
 ·rw[List.mem_singleton.1 hb];have ha':=(h.2 a).1 ha;refine Classical.byContradiction λhlt=>?_;have:¬ lt nx a:=λh'=>ha'.2.2 (by
   rcases hn.2.1 with h3|h3
   ·exact .inl h3
   ·exact .inr (ho.tr h3 h'))
  exact ha'.2.2 (by rw[ho.tot hlt this];exact hn.2.1)
 ·rw[List.mem_append,h.2,List.mem_singleton];constructor
  ·rintro (⟨h1,h2,h3⟩|rfl)
   ·exact ⟨h1,h2,(zO ho hl h1).2 (.inl h3)⟩
   ·exact ⟨hn.1,hd,(zO ho hl hn.1).2 (.inr rfl)⟩
  ·rintro ⟨h1,h2,h3⟩;rcases (zO ho hl h1).1 h3 with h3|rfl
   ·exact .inl ⟨h1,h2,h3⟩
   ·exact .inr rfl
def sW.done {all:List β} {D:β->Prop} {out:List β} {last nx:β} (h:sW lt all D out begun last) (hl:oZ lt all begun last all.length nx false):out.Pairwise lt/\∀ s,s∈out↔s∈all/\D s:=by
 refine ⟨h.1,λs=>?_⟩;rw[h.2];have:=hl.1 rfl;rw[List.take_length] at this;exact ⟨λ⟨a,b,_⟩=>⟨a,b⟩,λ⟨a,b⟩=>⟨a,b,this s a⟩⟩
open Classical in
open Classical in
end
end Go.Pv
namespace Go.Pv
open Go Go.Proofs Go.RowKit Go.Sort Go.Shelf IntKind
def toL (b:iII):List UInt8:=b.data.toList
def ofL (a:List UInt8):iII:=⟨a.toArray⟩
def sG (b:iII):ofL (toL b)=b:=by cases b;simp[ofL,toL]
def toL_ofL (a:List UInt8):toL (ofL a)=a:=by simp[ofL,toL]
def l6 (q:List (List UInt8)->List (List UInt8)) (l:List iII):List iII:=(q (l.map toL)).map ofL
def JB (q:List (List UInt8)->List (List UInt8)) (l:List iII):(q (l.map toL)).map (λa=>[T.v (encStr a)])=List.map Sy.str.enc (l6 q l):=by
 unfold l6;rw[List.map_map];rfl
def eN (l:List (List UInt8)):List (List UInt8):=l.mergeSort λx y=>decide (x<=y)
def q7 (rows:List (List T)):Option (List (List T)):=(ET rows).map λl=>(eN l).map λa=>[.v (encStr a)]
def yH (l:List iII) (K:List (List T)->Prop):dS (List (List T)) (q7 (List.map Sy.str.enc l)) K=K (List.map Sy.str.enc (l6 eN l)):=by
 have e:q7 (List.map Sy.str.enc l)=some (List.map Sy.str.enc (l6 eN l)):=by
  unfold q7;rw[AO];exact congrArg some (JB ..)
 rw[e];exact propext ⟨λ⟨y,h1,h2⟩=>by cases h1;exact h2,λh=>⟨_,rfl,h⟩⟩
def IC:cB Tryz.prog 51 (xV 1 q7) :=
 AW6 (f:=51) encStr (λ_=>rfl) ET DI eN (λl=>by unfold eN;simp) ⟨_,Tryz.func51,rfl,rfl⟩
  (λbJ cap zs w hH hb hs=>Any.slices_Sort_string Tryz.APH bJ 0 cap zs w hH hb hs) (λp cap w=>Any.slices_Sort_string_none Tryz.APH p cap w)
def DH (l:List (List UInt8)):(Lib.compact l).length<=l.length:=by
 unfold Lib.compact;unfold Lib.compactUpTo;rw[ad];exact Nat.le_trans (List.length_filter_le _ _) (by simp)
def noA:List T->Bool
 | []=>true
 | _=>false
def eH:List (List T)->List T->Option (List (List T)):=IE Lib.compact noA true
def UD (l:List iII) (K:List iII->Prop):bP .str (eH (List.map Sy.str.enc l) []) K=K (l6 Lib.compact l):=by
 have e:eH (List.map Sy.str.enc l) []=some (List.map Sy.str.enc (l6 Lib.compact l)):=by
  unfold eH IE;simp only[noA,Bool.true_or,Bool.and_self];rw[AO];exact congrArg some (JB ..)
 rw[e];exact propext ⟨λ⟨y,h1,h2⟩=>by rw[map_inj (Sy.c0 .str) (Option.some.inj h1)];exact h2,λh=>⟨_,rfl,h⟩⟩
def AO2:cB Tryz.prog 52 (j5 1 eH) :=
 P3 (f:=52) Lib.compact DH rfl noA true #[] (λts w cx ρ σ vs h _ hl=>by
   cases ts with
   | nil=>exact List.length_eq_zero_iff.1 hl
   | cons=>cases h) ⟨_,Tryz.func52,rfl,rfl⟩
  (λbJ cap zs w hH hb hs hc=>Any.slices_Compact_string Tryz.API bJ 0 cap zs w hH (by omega) hc) (λ_ a cap w=>Any.slices_Compact_string_empty Tryz.API a cap w)
def BQS:Ren:=⟨λ|10=>132|6=>168|n=>n,λ|22=>63|23=>9|25=>120|n=>n,λ|n=>n⟩
def BQO:SlLaysH.n10 Tryz.prog BQS:={
 mixed:=aR
 f6:=Exists.intro ("slices.IndexFunc[[]string,string]") ⟨by decide,Tryz.func168.trans (congrArg some (by kernel_rfl))⟩
 f10:=Exists.intro ("slices.DeleteFunc[[]string,string]") ⟨by decide,Tryz.func132.trans (congrArg some (by kernel_rfl))⟩
 t0:=by kernel_rfl
 a0:=λ_=>by kernel_rfl
 z0:=λ_=>by kernel_rfl
 v0:=λ_=>by kernel_rfl
 t3:=by kernel_rfl
 a3:=λ_=>by kernel_rfl
 z3:=λ_=>by kernel_rfl
 v3:=λ_=>by kernel_rfl
 t4:=by kernel_rfl
 a4:=λ_=>by kernel_rfl
 z4:=λ_=>by kernel_rfl
 v4:=λ_=>by kernel_rfl
 t22:=by kernel_rfl
 a22:=λ_=>by kernel_rfl
 z22:=λ_=>by kernel_rfl
 v22:=λ_=>by kernel_rfl
 a23:=λ_=>by kernel_rfl
 z23:=λ_=>by kernel_rfl
 t25:=by kernel_rfl
 a25:=λ_=>by kernel_rfl
 z25:=λ_=>by kernel_rfl
 v25:=λ_=>by kernel_rfl }
def XK (x:List UInt8):Bool:=x.isEmpty
def KX (x:List UInt8) (W:World):FnGives Tryz.prog 133 #[] #[encStr x] (.bool (XK x)) W:=by
 show Calls Tryz.prog 133 #[encStr x] W _
 go_enter Tryz.func133,Tryz.ntmps133
 go_wp2
 all_goals (go_ret;exact ⟨rfl,0,rfl⟩)
def EV (l:List (List UInt8)):List (List UInt8):=l.filter λx=>!XK x
def AJZ:List T->Bool
 | [.fn f [] []]=>decide (f=133)
 | _=>false
def e8:List (List T)->List T->Option (List (List T)):=IE EV AJZ false
def AUU (l:List iII) (hl:l≠[]) (K:List iII->Prop):bP .str (e8 (List.map Sy.str.enc l) [.fn 133 [] []]) K=K (l6 EV l):=by
 have e:e8 (List.map Sy.str.enc l) [.fn 133 [] []]=some (List.map Sy.str.enc (l6 EV l)):=by
  have h0:(List.map Sy.str.enc l).isEmpty=false:=by cases l;exact absurd rfl hl;rfl
  unfold e8 IE;rw[h0];show (ET (List.map Sy.str.enc l)).map _=_;rw[AO];exact congrArg some (JB ..)
 rw[e];exact propext ⟨λ⟨y,h1,h2⟩=>by rw[map_inj (Sy.c0 .str) (Option.some.inj h1)];exact h2,λh=>⟨_,rfl,h⟩⟩
def BDM:cB Tryz.prog 132 (j5 1 e8) :=
 P3 (f:=132) EV (λl=>List.length_filter_le _ _) rfl AJZ false #[.func (.func 133) #[] #[]] (λts w cx ρ σ vs h hr hl=>by
   unfold AJZ at h;split at h
   ·rename_i f;have hf:f=133:=of_decide_eq_true h;subst hf
    match vs,hl with
    | [v],_ =>
     have h0:=hr 0 (by simp);simp only[List.getElem_cons_zero,List.getD_cons_zero] at h0;cases h0 with
     | p _ _ h0 =>
      cases h0 with
      | fn _ _ _ va vb h1 h2 _ _ =>
       have e1:va = #[]:=Array.eq_empty_of_size_eq_zero h1;have e2:vb = #[]:=Array.eq_empty_of_size_eq_zero h2;subst e1 e2;rfl
   ·cases h) ⟨_,Tryz.func132,rfl,rfl⟩
  (λbJ cap zs w hH hb hs hc=>by
   have h:=AnyE.slices_DeleteFunc BQO encStr (λ_=>rfl) XK 133 #[] (enters_of Tryz.func133 (by kernel_rfl) rfl) [] (λw=>by kernel_rfl) bJ 0 cap zs.toArray w (λW x _=>KX x W) (λn os dk x _=>KX x _) hH (by simpa using (by omega)) (by simpa using hc);change Calls Tryz.prog 132 _ _ _ at h;simpa [EV] using h) (λh=>by cases h)
def BMS:Ren:=⟨λ|4=>320|n=>n,λ|20=>20|22=>63|25=>9|n=>n,λ|n=>n⟩
def BQP:Lays8.n4 Tryz.prog BMS:={
 mixed:=aR
 f4:=Exists.intro ("slices.Grow[[]string,string]") ⟨by decide,Tryz.func320.trans (congrArg some (by kernel_rfl))⟩
 t0:=by kernel_rfl
 a0:=λ_=>by kernel_rfl
 z0:=λ_=>by kernel_rfl
 v0:=λ_=>by kernel_rfl
 t3:=by kernel_rfl
 a3:=λ_=>by kernel_rfl
 z3:=λ_=>by kernel_rfl
 v3:=λ_=>by kernel_rfl
 t4:=by kernel_rfl
 a4:=λ_=>by kernel_rfl
 z4:=λ_=>by kernel_rfl
 v4:=λ_=>by kernel_rfl
 t9:=by kernel_rfl
 a9:=λ_=>by kernel_rfl
 z9:=λ_=>by kernel_rfl
 v9:=λ_=>by kernel_rfl
 t20:=by kernel_rfl
 a20:=λ_=>by kernel_rfl
 z20:=λ_=>by kernel_rfl
 v20:=λ_=>by kernel_rfl
 t22:=by kernel_rfl
 a22:=λ_=>by kernel_rfl
 z22:=λ_=>by kernel_rfl
 v22:=λ_=>by kernel_rfl }
def BPA:∃ i0,Tryz.prog.info? (BMS.t 25)=some i0/\i0.zero=some (.string ⟨#[]⟩)/\i0.size=1/\i0.bytes=16:=by
 have h:(Tryz.prog.info? (BMS.t 25)).map (λi=>(i.zero,i.size,i.bytes))=some (some (Value.string ⟨#[]⟩),1,16):=by kernel_rfl
 simp only[aa,Prod.mk.injEq] at h;obtain ⟨i,h1,h2,h3,h4⟩:=h;exact ⟨i,h1,h2,h3,h4⟩
def BDQ:cB Tryz.prog 320 (KQ 1 16) :=
 AXA BQP BPA (by decide) rfl (by decide) ⟨_,Tryz.func320,rfl,rfl⟩
end Go.Pv
namespace Go.Pv
open Go Go.Proofs IntKind
def dY:List (List T)->Option (List (List T)):=q7
def ALE (l:List iII) (K:List (List T)->Prop):dS (List (List T)) (dY (List.map Sy.str.enc l)) K=K (List.map Sy.str.enc (l6 eN l)):=yH l K
def A4N:cB Tryz.prog 51 (xV 1 dY):=IC
noncomputable def AYZ:Env:=Env.of [(1000000063,.mark),(1000000310,.mark),(51,.perm 1 dY),(52,.grow 1 eH),(132,.grow 1 e8),(320,.room 1 16)]
def A2G:FuncId->Hint:=bT 269 [(3,.SA 4),(11,.SA 4)] (λ_=>aX)
def AH9:aQ Tryz.prog AYZ:=.cons (x:=.mark) trivial (.cons (x:=.mark) trivial (.cons A4N (.cons AO2 (.cons BDM (aQ.cons (x:=.room 1 16) BDQ (.nil _))))))
def BTZ:List T:=[T.fn 133 [] []]
def BUC(a0:aZ):List (List T):=[[T.sl false [[pPQ a0.2.2.2.2.2.2.1.1], [pPQ a0.2.2.2.2.2.2.1.2.1]]], [T.sl false (List.map Sy.str.enc a0.2.2.2.2.2.2.1.2.2.1)], [T.sl false (List.map Sy.str.enc a0.2.2.2.2.2.2.1.2.2.2.2)]]
def BUB(y0:List (List T))(R:T->Prop):Prop:=bP Sy.str (eH y0 []) λ(y1:List iII)=>bP Sy.str (e8 (BUF y1) BTZ) λ(y2:List iII)=>R (T.sl false (BUF y2))
def BUI(a0:aZ)(R:T->Prop):Prop:=bH true (dS (List (List T)) (dY [[pPQ a0.2.1].reverse]) λ(y3:List (List T))=>BUB y3 R)
def BUA(a0:aZ)(R:T->Prop):Prop:=aD (decide (a0.1=9)) (aP Sy.str.li (BUC a0) 0 λ(y42:List iII)=>eK Sy.str.li (BUC a0) (Int.toNat 0) 0 λ(y43:List iII)=>aD (decide (i64.wrap (0+(↑(BUF y43).length:Int))<0)) (nJ 162) (aP Sy.str.li (BUC a0) (i64.wrap (0+1)) λ(y44:List iII)=>eK Sy.str.li (BUC a0) 1 0 λ(y45:List iII)=>aD (decide (i64.wrap (i64.wrap (0+(↑(BUF y43).length:Int)) + (↑(BUF y45).length:Int)) < 0)) (nJ 162) (aP Sy.str.li (BUC a0) (i64.wrap (i64.wrap (0+1)+1)) λ(y46:List iII)=>eK Sy.str.li (BUC a0) 2 0 λ(y47:List iII)=>aD (decide (i64.wrap (i64.wrap (i64.wrap (0+(↑(BUF y43).length:Int)) + (↑(BUF y45).length:Int)) + (↑(BUF y47).length:Int)) < 0)) (nJ 162) (bH (decide (0 <= i64.wrap (i64.wrap (i64.wrap (0+(↑(BUF y43).length:Int)) + (↑(BUF y45).length:Int)) + (↑(BUF y47).length:Int))) && decide ((i64.wrap (i64.wrap (i64.wrap (0+(↑(BUF y43).length:Int)) + (↑(BUF y45).length:Int)) + (↑(BUF y47).length:Int))).toNat * 16 <= 140737488355328) && decide ((i64.wrap (i64.wrap (i64.wrap (0+(↑(BUF y43).length:Int)) + (↑(BUF y45).length:Int)) + (↑(BUF y47).length:Int))).toNat <= 140737488355328)) (aP Sy.str.li (BUC a0) 0 λ(y48:List iII)=>eK Sy.str.li (BUC a0) (Int.toNat 0) 0 λ(y49:List iII)=>bH (eP 1 (BUF y49) && decide ((0+(BUF y49).length)*16 <= 140737488355328) && decide (0+(BUF y49).length<=140737488355328)) (aP Sy.str.li (BUC a0) (i64.wrap (0+1)) λ(y50:List iII)=>eK Sy.str.li (BUC a0) 1 0 λ(y51:List iII)=>bH (eP 1 (BUF y51) && decide ((([]++List.map Sy.str.enc y49).length + (BUF y51).length) * 16 <= 140737488355328) && decide (([]++List.map Sy.str.enc y49).length + (BUF y51).length <= 140737488355328)) (aP Sy.str.li (BUC a0) (i64.wrap (i64.wrap (0+1)+1)) λ(y52:List iII)=>eK Sy.str.li (BUC a0) 2 0 λ(y53:List iII)=>bH (eP 1 (BUF y53) && decide ((([]++List.map Sy.str.enc y49 ++ List.map Sy.str.enc y51).length + (BUF y53).length) * 16 <= 140737488355328) && decide (([]++List.map Sy.str.enc y49 ++ List.map Sy.str.enc y51).length + (BUF y53).length <= 140737488355328)) (bH (eP 1 ([]++List.map Sy.str.enc y49 ++ List.map Sy.str.enc y51 ++ List.map Sy.str.enc y53) && true && decide (([]++List.map Sy.str.enc y49 ++ List.map Sy.str.enc y51 ++ List.map Sy.str.enc y53).length * 16 <= 140737488355328) && decide (([]++List.map Sy.str.enc y49 ++ List.map Sy.str.enc y51 ++ List.map Sy.str.enc y53).length <= 140737488355328)) (dS (List (List T)) (dY ([]++List.map Sy.str.enc y49 ++ List.map Sy.str.enc y51 ++ List.map Sy.str.enc y53)) λ(y54:List (List T))=>bP Sy.str (eH y54 []) λ(y55:List iII)=>bP Sy.str (e8 (BUF y55) BTZ) λ(y56:List iII)=>R (T.sl false (BUF y56))))))))))) (BUI a0 R)
def BUP(a0:aZ)(R:T->Prop):Prop:=bH true (dS (List (List T)) (dY [[pPQ a0.2.2.2.2.1.1].reverse, [pPQ a0.2.2.2.2.1.2.2.2.1].reverse]) λ(y12:List (List T))=>BUB y12 R)
def BUU(a0:aZ)(R:T->Prop):Prop:=aD (decide (a0.1=7)) (bH true (dS (List (List T)) (dY [[pPQ a0.2.2.2.2.2.1.1].reverse, [pPQ a0.2.2.2.2.2.1.2.1].reverse, [pPQ a0.2.2.2.2.2.1.2.2.1].reverse]) λ(y30:List (List T))=>BUB y30 R)) (BUI a0 R)
def BUZ(a0:aZ)(R:T->Prop):Prop:=aD (decide (a0.1=1)) (bH true (dS (List (List T)) (dY [[pPQ a0.2.2.2.1.1].reverse, [pPQ a0.2.2.2.1.2.2].reverse]) λ(y0:List (List T))=>BUB y0 R)) (BUI a0 R)
def BU0(a0:aZ)(R:T->Prop):Prop:=bH true (dS (List (List T)) (dY [[pPQ a0.2.2.2.2.2.2.2.2.1].reverse, [pPQ a0.2.2.2.2.2.2.2.2.2].reverse]) λ(y78:List (List T))=>BUB y78 R)
def N1(a0:aZ)(R:T->Prop):Prop:=aD (decide (a0.1=1)) (BUZ a0 R) (aD (decide (a0.1=2)) (BUZ a0 R) (aD (decide (a0.1=3)) (aD (decide (a0.1=3)) (BUP a0 R) (BUI a0 R)) (aD (decide (a0.1=4)) (aD (decide (a0.1=3)) (BUP a0 R) (BUI a0 R)) (aD (decide (a0.1=5)) (BUP a0 R) (aD (decide (a0.1=6)) (bH true (dS (List (List T)) (dY [[pPQ a0.2.1].reverse, [pPQ a0.2.2.1].reverse]) λ(y27:List (List T))=>BUB y27 R)) (aD (decide (a0.1=7)) (BUU a0 R) (aD (decide (a0.1=8)) (BUU a0 R) (aD (decide (a0.1=9)) (BUA a0 R) (aD (decide (a0.1=10)) (BUA a0 R) (aD (decide (a0.1=11)) (BU0 a0 R) (aD (decide (a0.1=12)) (BU0 a0 R) (R (T.sl false [])))))))))))))
abbrev RM:Sh:=[(true,aN)]
def AJT {zs:List (List UInt8)} (h:zs≠[]):Lib.compact zs≠[]:=by
 cases zs with
 | nil=>exact absurd rfl h
 | cons a l =>
  unfold Lib.compact Lib.compactUpTo;intro e;rw[List.map_eq_nil_iff,List.filter_eq_nil_iff] at e;exact e 0 (List.mem_range.2 (by simp)) (Lib.keeps_lt_one _ 0 (by omega))
def AQQ {q:List (List UInt8)->List (List UInt8)} (hq:∀ l,l≠[]->q l≠[]) {l:List iII} (h:l≠[]):l6 q l≠[]:=by
 unfold l6;rw[Ne,List.map_eq_nil_iff];exact hq _ (by rw[Ne,List.map_eq_nil_iff];exact h)
def AXH {l:List (List UInt8)} (h:l≠[]):eN l≠[]:=by
 unfold eN;intro e;have:=congrArg List.length e;rw[List.length_mergeSort] at this;exact h (List.length_eq_zero_iff.1 this)
def mK (l:List iII):List iII:=l6 EV (l6 Lib.compact (l6 eN l))
def AV0:mK []=[]:=by
 have e:eN []=[]:=by unfold eN;simp
 unfold mK l6;rw[List.map_nil,e];rfl
variable {y:List iII}{K:List iII->Prop}
def VF {l:List (List iII)} {rows:List (List T)} {i:Int} {k:Nat} (hr:rows=List.map (Sy.li .str).enc l) (hi:i=(k:Int)) (hy:l[k]? = some y) (hk:K y):aP (.li .str) rows i K :=
 ⟨y,by omega,by rw[hr,hi,Int.toNat_natCast];exact pL.2 hy,hk⟩
def U9 {l:List (List iII)} {rows:List (List T)} {k:Nat} (hr:rows=List.map (Sy.li .str).enc l) (hy:l[k]? = some y) (hk:K y):eK (.li .str) rows k 0 K :=
 ⟨_,y,by rw[hr];exact pL.2 hy,ak _,rfl,hk⟩
variable {R:T->Prop}
def QE {L:List iII} (hL:L≠[]) {rows:List (List T)} (hr:rows=List.map Sy.str.enc L) (h:R (T.sl false (List.map Sy.str.enc (mK L)))) :
  dS (List (List T)) (dY rows) λy0=>bP Sy.str (eH y0 []) λy1=>bP Sy.str (e8 (List.map Sy.str.enc y1) [T.fn 133 [] []]) λy2=>R (T.sl false (List.map Sy.str.enc y2)):=by
 subst hr;rw[ALE,UD,AUU _ (AQQ (λl=>AJT) (AQQ (λl=>AXH) hL))];exact h
def cK (x:aZ):List iII :=
 if x.1=1 then [x.2.2.2.1.1,x.2.2.2.1.2.2]
 else if x.1=2\/x.1=4\/x.1=8\/x.1=10 then [x.2.1]
 else if x.1=3\/x.1=5 then [x.2.2.2.2.1.1,x.2.2.2.2.1.2.2.2.1]
 else if x.1=6 then [x.2.1,x.2.2.1]
 else if x.1=7 then [x.2.2.2.2.2.1.1,x.2.2.2.2.2.1.2.1,x.2.2.2.2.2.1.2.2.1]
 else if x.1=9 then ([x.2.2.2.2.2.2.1.1,x.2.2.2.2.2.2.1.2.1]++x.2.2.2.2.2.2.1.2.2.1)++x.2.2.2.2.2.2.1.2.2.2.2
 else if x.1=11\/x.1=12 then [x.2.2.2.2.2.2.2.2.1,x.2.2.2.2.2.2.2.2.2]
 else []
def AF0 (x:aZ):Bool:=decide (x.2.2.2.2.2.2.1.2.2.1.length<=1000000)&&decide (x.2.2.2.2.2.2.1.2.2.2.2.length<=1000000)
def vC (x:aZ):Option T:=match AF0 x with
 | true=>some (T.sl false (List.map Sy.str.enc (mK (cK x))))
 | false=>none
noncomputable def uP:List T->Option T:=gS RM vC
def AE1 {a0}:uP [aF true aN a0]=vC (a0):=bA (s:=RM) rfl (a0) rfl
def AWV:qM Tryz.prog 92 uP vC (bY RM) N1:=gK (a1:=(true,aN)) (Hs:=A2G) (k:=9) AH9 aR aU (aL rfl) ⟨_,_,Tryz.func92,rfl⟩ rfl λ_ _=>by kernel_rfl
def L3 {c:Bool} {a r:T} (h:(match c with|true=>some a|false=>none)=some r):c=true/\a=r:=by
 cases c with
 | true=>exact ⟨rfl,Option.some.inj h⟩
 | false=>cases h
def N9 {l:List iII}:eP 1 (List.map Sy.str.enc l)=true:=tQ .str l
def AUM:aM Tryz.prog 92 uP:=AWV λx r h hb=>by
 clear hb;obtain ⟨hp,rfl⟩:=L3 h;clear h;unfold AF0 at hp;rw[ac,ae,ae] at hp;obtain ⟨hp1,hp2⟩:=hp;have go:∀ {L:List iII} {rows:List (List T)},cK x=L->L≠[]->rows=List.map Sy.str.enc L->dS (List (List T)) (dY rows) λy0=>bP Sy.str (eH y0 []) λy1=>bP Sy.str (e8 (List.map Sy.str.enc y1) [T.fn 133 [] []]) λy2=>T.sl false (List.map Sy.str.enc y2)=T.sl false (List.map Sy.str.enc (mK (cK x))):=λ{L} {rows} e hn hr=>by
  rw[e];exact QE (R:=λy=>y=T.sl false (List.map Sy.str.enc (mK L))) hn hr rfl
 unfold N1 BU0 BUZ BUU BUP BUA BUI BUB BUF BUC BTZ;have e1:x.1=1->cK x=[x.2.2.2.1.1,x.2.2.2.1.2.2]:=λh=>by simp only[cK,h,if_true]
 have e2:x.1=2\/x.1=4\/x.1=8\/x.1=10->cK x=[x.2.1]:=λh=>by
  unfold cK;rw[if_neg (by omega),if_pos h]
 have e3:x.1=3\/x.1=5->cK x=[x.2.2.2.2.1.1,x.2.2.2.2.1.2.2.2.1]:=λh=>by
  unfold cK;rw[if_neg (by omega),if_neg (by omega),if_pos h]
 have e6:x.1=6->cK x=[x.2.1,x.2.2.1]:=λh=>by
  unfold cK;rw[if_neg (by omega),if_neg (by omega),if_neg (by omega),if_pos h]
 have e7:x.1=7->cK x=[x.2.2.2.2.2.1.1,x.2.2.2.2.2.1.2.1,x.2.2.2.2.2.1.2.2.1]:=λh=>by
  unfold cK;rw[if_neg (by omega),if_neg (by omega),if_neg (by omega),if_neg (by omega),if_pos h]
 have e9:x.1=9->cK x=([x.2.2.2.2.2.2.1.1,x.2.2.2.2.2.2.1.2.1]++x.2.2.2.2.2.2.1.2.2.1)++x.2.2.2.2.2.2.1.2.2.2.2:=λh=>by
  unfold cK;rw[if_neg (by omega),if_neg (by omega),if_neg (by omega),if_neg (by omega),if_neg (by omega),if_pos h]
 have e11:x.1=11\/x.1=12->cK x=[x.2.2.2.2.2.2.2.2.1,x.2.2.2.2.2.2.2.2.2]:=λh=>by
  unfold cK;rw[if_neg (by omega),if_neg (by omega),if_neg (by omega),if_neg (by omega),if_neg (by omega),if_neg (by omega),if_pos h]
 refine bV (λh=>bV (λ_=>⟨rfl,go (e1 h) (by simp) rfl⟩) λh'=>absurd h h') λn1=>?_;refine bV (λh=>bV (λh'=>by omega) λ_=>⟨rfl,go (e2 (by omega)) (by simp) rfl⟩) λn2=>?_;refine bV (λh=>bV (λ_=>⟨rfl,go (e3 (by omega)) (by simp) rfl⟩) λh'=>absurd h h') λn3=>?_;refine bV (λh=>bV (λh'=>by omega) λ_=>⟨rfl,go (e2 (by omega)) (by simp) rfl⟩) λn4=>?_;refine bV (λh=>⟨rfl,go (e3 (by omega)) (by simp) rfl⟩) λn5=>?_;refine bV (λh=>⟨rfl,go (e6 (by omega)) (by simp) rfl⟩) λn6=>?_;refine bV (λh=>bV (λ_=>⟨rfl,go (e7 (by omega)) (by simp) rfl⟩) λh'=>absurd h h') λn7=>?_;refine bV (λh=>bV (λh'=>by omega) λ_=>⟨rfl,go (e2 (by omega)) (by simp) rfl⟩) λn8=>?_;refine bV (λh=>bV (λ_=>?_) λh'=>absurd h h') λn9=>?_
 ·have w1:i64.wrap (0+1)=1:=rfl;have w2:i64.wrap (1+1)=2:=rfl;rw[e9 h];generalize hA:[x.2.2.2.2.2.2.1.1,x.2.2.2.2.2.2.1.2.1]=A;have hAl:A.length=2:=by rw[<-hA];rfl
  clear e1 e2 e3 e6 e7 e11;generalize x.2.2.2.2.2.2.1.2.2.1=B at hp1 ⊢;generalize x.2.2.2.2.2.2.1.2.2.2.2=C at hp2 ⊢;have l1:i64.wrap (0+((List.map Sy.str.enc A).length:Int))=2:=by rw[ad,hAl];rfl
  have l2:i64.wrap (2+((List.map Sy.str.enc B).length:Int))=2+(B.length:Int):=by rw[ad];exact bD _ (by omega) (by omega)
  have l3:i64.wrap (2+(B.length:Int)+((List.map Sy.str.enc C).length:Int))=2+(B.length:Int)+(C.length:Int):=by rw[ad];exact bD _ (by omega) (by omega)
  have hR:[[T.sl false [[pPQ x.2.2.2.2.2.2.1.1],[pPQ x.2.2.2.2.2.2.1.2.1]]],[T.sl false (List.map Sy.str.enc B)],[T.sl false (List.map Sy.str.enc C)]]=List.map (Sy.li .str).enc [A,B,C]:=by rw[<-hA];rfl
  rw[hR];rw[w1,w2];refine VF rfl rfl (k:=0) rfl (U9 rfl rfl ?_);rw[l1];refine bV (λh=>by omega) λ_=>?_;refine VF rfl rfl (k:=1) rfl (U9 rfl rfl ?_);rw[l2];refine bV (λh=>by omega) λ_=>?_;refine VF rfl rfl (k:=2) rfl (U9 rfl rfl ?_);rw[l3];refine bV (λh=>by omega) λ_=>?_;refine ⟨by rw[ac,ac];exact ⟨⟨ah (by omega),ah (by omega)⟩,ah (by omega)⟩,?_⟩;refine VF rfl rfl (k:=0) rfl (U9 (k:=0) rfl rfl ?_);refine ⟨by rw[ac,ac];exact ⟨⟨N9,ah (by simp;omega)⟩,ah (by simp;omega)⟩,?_⟩;refine VF rfl rfl (k:=1) rfl (U9 rfl rfl ?_);refine ⟨by rw[ac,ac];exact ⟨⟨N9,ah (by simp;omega)⟩,ah (by simp;omega)⟩,?_⟩;refine VF rfl rfl (k:=2) rfl (U9 rfl rfl ?_);refine ⟨by rw[ac,ac];exact ⟨⟨N9,ah (by simp;omega)⟩,ah (by simp;omega)⟩,?_⟩;have eA:[]++List.map Sy.str.enc A++List.map Sy.str.enc B++List.map Sy.str.enc C=List.map Sy.str.enc (A++B++C):=by rw[List.map_append,List.map_append];rfl
  rw[eA];refine ⟨by rw[ac,ac,ac];exact ⟨⟨⟨N9,rfl⟩,ah (by simp;omega)⟩,ah (by simp;omega)⟩,?_⟩;exact QE (R:=λy=>y=T.sl false (List.map Sy.str.enc (mK (A++B++C)))) (by
   intro e;have:=congrArg List.length e;simp only[List.length_append,hAl,List.length_nil] at this;omega) rfl rfl
 refine bV (λh=>bV (λh'=>by omega) λ_=>⟨rfl,go (e2 (by omega)) (by simp) rfl⟩) λn10=>?_;refine bV (λh=>⟨rfl,go (e11 (by omega)) (by simp) rfl⟩) λn11=>?_;refine bV (λh=>⟨rfl,go (e11 (by omega)) (by simp) rfl⟩) λn12=>?_;have e:cK x=[]:=by
  unfold cK;rw[if_neg (by omega),if_neg (by omega),if_neg (by omega),if_neg (by omega),if_neg (by omega),if_neg (by omega),if_neg (by omega)]
 rw[e,AV0];rfl
end Go.Pv
namespace Go.Pv
open Go Go.Proofs Go.Lib IntKind
def AB6:∀ {l m:List (List UInt8)},l.Pairwise (· < ·)->m.Pairwise (· < ·)->(∀ a,a∈l↔a∈m)->l=m
 | [],[],_,_,_=>rfl
 | [],b::m,_,_,h=>absurd ((h b).2 al) (by simp)
 | a::l,[],_,_,h=>absurd ((h a).1 al) (by simp)
 | a::l,b::m,h1,h2,h=>by
  rw[List.pairwise_cons] at h1 h2;have e:a=b:=by
   rcases List.mem_cons.1 ((h a).1 al) with e|e
   ·exact e
   ·rcases List.mem_cons.1 ((h b).2 al) with e'|e'
    ·exact e'.symm
    ·exact absurd (List.lt_trans (h1.1 b e') (h2.1 a e)) (List.lt_irrefl _)
  subst e;refine congrArg (a :: ·) (AB6 h1.2 h2.2 λx=>⟨λhx=>?_,λhx=>?_⟩)
  ·rcases List.mem_cons.1 ((h x).1 (List.mem_cons_of_mem _ hx)) with e|e
   ·subst e;exact absurd (h1.1 _ hx) (List.lt_irrefl _)
   ·exact e
  ·rcases List.mem_cons.1 ((h x).2 (List.mem_cons_of_mem _ hx)) with e|e
   ·subst e;exact absurd (h2.1 _ hx) (List.lt_irrefl _)
   ·exact e
def VK (l:List (List UInt8)):(eN l).Pairwise (· <= ·):=by
 unfold eN;have h:=List.pairwise_mergeSort (le:=λx y:List UInt8=>decide (x<=y)) (λa b c h1 h2=>ah (List.le_trans (of_decide_eq_true h1) (of_decide_eq_true h2))) (λa b=>by
  rw[Bool.or_eq_true,ae,ae];exact List.le_total a b) l
 exact h.imp λh=>of_decide_eq_true h
def EB {l:List (List UInt8)} {a:List UInt8}:a∈eN l↔a∈l:=by unfold eN;exact List.mem_mergeSort
def AJU {l:List (List UInt8)} (h:l.Pairwise (· <= ·)):(Lib.compact l).Pairwise (· < ·):=by
 unfold Lib.compact compactUpTo;rw[List.pairwise_map,List.pairwise_filter];refine List.Pairwise.imp_of_mem ?_ List.pairwise_lt_range;intro i j hi hj hij ki kj;rw[List.mem_range] at hi hj;have get:∀ k (hk:k<l.length),l.toArray[k]! = l[k]:=λk hk=>by simp[hk]
 have le:∀ p q (hp:p<l.length) (hq:q<l.length),p<=q->l[p]<=l[q]:=λp q hp hq hpq=>by
  by_cases e:p=q
  ·subst e;exact List.le_refl _
  ·exact List.pairwise_iff_getElem.1 h p q hp hq (by omega)
 unfold keeps at kj;rw[ae] at kj;have hne:l.toArray[j]! ≠ l.toArray[j-1]! := kj.resolve_left (by omega);rw[get j hj,get (j-1) (by omega)] at hne;rw[get i hi,get j hj];have a1:=le i (j-1) hi (by omega) (by omega);have a2:=le (j-1) j (by omega) hj (by omega);have a3:l[j-1]<l[j]:=Decidable.byContradiction λhn=>hne (List.le_antisymm (List.not_lt.1 hn) a2);exact Decidable.byContradiction λhn=>absurd (List.le_trans (List.not_lt.1 hn) a1) (List.not_le.2 a3)
def KH {l:List (List UInt8)} {a:List UInt8}:a∈Lib.compact l↔a∈l:=by
 have get:∀ k (hk:k<l.length),l.toArray[k]! = l[k]:=λk hk=>by simp[hk]
 have all:∀ n k,k<=n->(hk:k<l.length)->l[k]∈Lib.compact l:=by
  intro n
  induction n with
  | zero =>
   intro k hk hl;have:k=0:=by omega
   subst this;unfold Lib.compact compactUpTo;exact List.mem_map.2 ⟨0,List.mem_filter.2 ⟨List.mem_range.2 hl,keeps_lt_one _ 0 (by omega)⟩,get 0 hl⟩
  | succ n ih =>
   intro k hk hl;by_cases hkk:keeps l.toArray k=true
   ·unfold Lib.compact compactUpTo;exact List.mem_map.2 ⟨k,List.mem_filter.2 ⟨List.mem_range.2 hl,hkk⟩,get k hl⟩
   ·unfold keeps at hkk;rw[ae,not_or] at hkk;have e:l.toArray[k]! = l.toArray[k-1]! := Decidable.byContradiction hkk.2;rw[get k hl,get (k-1) (by omega)] at e;rw[e];exact ih (k-1) (by omega) (by omega)
 constructor
 ·intro h;unfold Lib.compact compactUpTo at h;obtain ⟨k,h1,rfl⟩:=List.mem_map.1 h;have hk:=List.mem_range.1 (List.mem_filter.1 h1).1;rw[get k hk];exact aj hk
 ·intro h;obtain ⟨k,hk,rfl⟩:=List.mem_iff_getElem.1 h;exact all k k (ak _) hk
def ATG {l:List (List UInt8)} {a:List UInt8}:a∈EV l↔a∈l/\a≠[]:=by
 unfold EV XK;rw[List.mem_filter];cases a<;>simp
def AV1 (l:List iII):(mK l).map toL=EV (Lib.compact (eN (l.map toL))):=by
 have e:∀ m:List (List UInt8),(m.map ofL).map toL=m:=λm=>by
  rw[List.map_map];exact (List.map_congr_left λa _=>toL_ofL a).trans (List.map_id _)
 unfold mK l6;rw[e,e,e]
def AVZ (l:List iII) (a:List UInt8):a∈(mK l).map toL↔a∈l.map toL/\a≠[]:=by
 rw[AV1,ATG,KH,EB]
end Go.Pv
namespace Go.Pv
open Go Go.Proofs IntKind
def ltB (a b:iII):Prop:=toL a<toL b
def OJ (l:List iII):List iII:=l6 Lib.compact (l6 eN l)
def toL_viaL (q:List (List UInt8)->List (List UInt8)) (l:List iII):(l6 q l).map toL=q (l.map toL):=by
 unfold l6;rw[List.map_map];exact (List.map_congr_left λa _=>toL_ofL a).trans (List.map_id _)
def XA (l:List iII):(OJ l).Pairwise ltB:=by
 have h:((OJ l).map toL).Pairwise (· < ·):=by
  unfold OJ;rw[toL_viaL,toL_viaL];exact AJU (VK _)
 show (OJ l).Pairwise λa b=>toL a<toL b;exact List.pairwise_map.1 h
def A8 {l:List iII} {s:iII}:toL s∈l.map toL↔s∈l :=
 ⟨λh=>by obtain ⟨b,hb,e⟩:=List.mem_map.1 h;rw[<-sG s,<-e,sG];exact hb,λh=>List.mem_map.2 ⟨s,h,rfl⟩⟩
def EP {l:List iII} {s:iII}:s∈OJ l↔s∈l:=by
 rw[<-A8];unfold OJ;rw[toL_viaL,toL_viaL,KH,EB,A8]
def AOK {l m:List iII} (h1:l.Pairwise ltB) (h2:m.Pairwise ltB) (h:∀ s,s∈l↔s∈m):l=m:=by
 have e:l.map toL=m.map toL:=AB6 (List.pairwise_map.2 h1) (List.pairwise_map.2 h2) λa=>by
  constructor
  ·intro ha;obtain ⟨b,hb,rfl⟩:=List.mem_map.1 ha;exact A8.2 ((h b).1 hb)
  ·intro ha;obtain ⟨b,hb,rfl⟩:=List.mem_map.1 ha;exact A8.2 ((h b).2 hb)
 have:=congrArg (List.map ofL) e;rw[List.map_map,List.map_map] at this;have u:∀ k:List iII,List.map (ofL∘toL) k=k:=λk=>(List.map_congr_left λa _=>sG a).trans (List.map_id _);rwa[u,u] at this
noncomputable def LF (a b:aB) (s:iII):Bool:=dif mB (eV a s) (eV b s)||dif mB (partOf a s) (partOf b s)||dif mB (oA a s) (oA b s)||dif mB (iB a s) (iB b s)
def IT (d:aB):List iII:=d.2.1.map (λx=>x.1)++d.2.2.1.map (λx=>x.1)++d.2.2.2.1.map (λx=>x.1)++d.2.2.2.2.1.map (λx=>x.1)
noncomputable def j1 (a b:aB):List iII:=OJ ((IT a++IT b).filter (LF a b))
variable {α:Type}
def EW {same:α->α->Bool} {id:α->iII} {a b:List α} {s:iII} (h:dif same (a.find? λx=>decide (id x=s)) (b.find? λx=>decide (id x=s))=true):s∈a.map id\/s∈b.map id:=by
 have get:∀ {l:List α} {x:α},l.find? (λx=>decide (id x=s))=some x->s∈l.map id:=λ{l x} h=>by
  have h1:=List.mem_of_find?_eq_some h;have h2:=List.find?_some h;exact List.mem_map.2 ⟨x,h1,of_decide_eq_true h2⟩
 cases ha:a.find? λx=>decide (id x=s) with
 | some x=>exact .inl (get ha)
 | none =>
  cases hb:b.find? λx=>decide (id x=s) with
  | some y=>exact .inr (get hb)
  | none=>rw[ha,hb] at h;cases h
def A3K {a b:aB} {s:iII} (h:LF a b s=true):s∈IT a++IT b:=by
 unfold LF at h;rw[Bool.or_eq_true,Bool.or_eq_true,Bool.or_eq_true] at h;unfold IT;simp only[List.mem_append];rcases h with ((h|h)|h)|h
 ·rcases EW (id:=λx:cH=>x.1) h with h|h<;>simp[h]
 ·rcases EW (id:=λx:bB=>x.1) h with h|h<;>simp[h]
 ·rcases EW (id:=λx:cJ=>x.1) h with h|h<;>simp[h]
 ·rcases EW (id:=λx:aT=>x.1) h with h|h<;>simp[h]
def ACD {a b:aB} {o:List iII} (h:∀ s,s∈o↔LF a b s=true):OJ o=j1 a b :=
 AOK (XA _) (XA _) λs=>by
  rw[j1,EP,EP,h,List.mem_filter];exact ⟨λh=>⟨A3K h,h⟩,λh=>h.2⟩
def ATJ (a:aB) (s:iII):LF a a s=false:=by
 unfold LF;simp only[A3L ACQ];rfl
end Go.Pv
namespace Go.Pv
open Go Go.Proofs IntKind
end Go.Pv
namespace Go.Pv
open Go Go.Proofs IntKind
def A6A {l:List iII} {a:iII}:A59 l a=true↔a∈l:=by
 unfold A59;simp
end Go.Pv
namespace Go.Pv
open Go Go.Proofs IntKind
def BF8 {l:List iII} (h:l.Nodup):(l6 eN l).Pairwise ltB:=by
 have h1:((l6 eN l).map toL).Pairwise (· <= ·):=by rw[toL_viaL];exact VK _
 have h2:((l6 eN l).map toL).Nodup:=by
  rw[toL_viaL];unfold eN;have hn:(l.map toL).Nodup:=by
   unfold List.Nodup;rw[List.pairwise_map];exact h.imp λ{a b} hne e=>hne (by rw[<-sG a,e,sG])
  exact (List.mergeSort_perm _ _).nodup_iff.2 hn
 have h3:((l6 eN l).map toL).Pairwise (· < ·):=(h1.and h2).imp λ{a b} h=>Classical.byContradiction λhn=>h.2 (List.le_antisymm h.1 (List.not_lt.1 hn));show (l6 eN l).Pairwise λa b=>toL a<toL b;exact List.pairwise_map.1 h3
def A9X {l:List iII} {s:iII}:s∈l6 eN l↔s∈l:=by
 rw[<-A8,toL_viaL,EB,A8]
def LP (l:List aZ):List iII:=OJ (l.flatMap λe=>mK (cK e))
def BGA (l:List aZ):(LP l).Pairwise ltB:=XA _
def AGT {l:List aZ} {s:iII}:s∈LP l↔∃ e∈l,s∈mK (cK e):=by
 unfold LP;rw[EP,List.mem_flatMap]
def A91 {l:List aZ} {ks:List iII} (hn:ks.Nodup) (hm:∀ s,s∈ks↔∃ e∈l,s∈mK (cK e)):l6 eN ks=LP l :=
 AOK (BF8 hn) (BGA l) λs=>by rw[A9X,hm,AGT]
end Go.Pv
namespace Go.Pv
open Go Go.Proofs IntKind
def AW1 (o:bK):Bool:=decide (o.2.length<=100)&&o.2.all AF0
def BFW {o:bK} (h:AW1 o=true):o.2.length<=100/\∀ e∈o.2,AF0 e=true:=by
 unfold AW1 at h;rw[ac,ae] at h;exact ⟨h.1,List.all_eq_true.1 h.2⟩
def AJ (q:List (List UInt8)->List (List UInt8)) (l:List iII) (h:∀ m,(q m).length<=m.length):(l6 q l).length<=l.length:=by
 unfold l6;rw[ad];exact Nat.le_trans (h _) (by simp)
def AVY (l:List iII):(mK l).length<=l.length:=by
 unfold mK;refine Nat.le_trans (AJ _ _ λm=>List.length_filter_le _ _) (Nat.le_trans (AJ _ _ DH) (AJ _ _ λm=>by unfold eN;simp))
def ALX {x:aZ} (h:AF0 x=true):(cK x).length<=2000010:=by
 unfold AF0 at h;rw[ac,ae,ae] at h;unfold cK
 repeat' split
 all_goals simp only[List.length_cons,List.length_nil,List.length_append]
 all_goals omega
noncomputable def BAE:Env:=Env.of []
def BB1:FuncId->Hint:=bT 24 [(4,.inv [.val 5 false (.int .i64)]),(10,.inv [.val 7 false (.int .i64)])] (λ_=>aX)
def ART:aQ Tryz.prog BAE:=.nil _
def BT8:T:=pPR true
def BVD(y2:aZ):List (List T):=List.map aA.li.enc y2.2.2.2.2.1.2.2.2.2.2.2.1.2
def WG(a0:bK)(a1:Int)(R:T->Prop):Prop:=aD (decide (100<(↑(ByteArray.size a0.1):Int))) (R BTX) (aD (decide (a1<(↑(BUY a0).length:Int))) (R BTX) (a7 (Int×PUnit) (λX0 s1=>aD (decide (s1.1<(↑(BUY a0).length:Int))) (aP aN (BUY a0) s1.1 λ(y2:aZ)=>aD (decide (40<(↑(List.map Sy.str.enc y2.2.2.2.2.2.2.1.2.2.1).length:Int))) (R BTX) (aD (decide (40<(↑(List.map Sy.str.enc y2.2.2.2.2.2.2.1.2.2.2.2).length:Int))) (R BTX) (aD (decide (100 < (↑(List.map aA.enc y2.2.2.2.2.1.2.2.2.2.2.2.1.1).length : Int))) (R BTX) (aD (decide (20 < (↑(BVD y2).length : Int))) (R BTX) (a7 (Int×PUnit) (λX3 s4=>aD (decide (s4.1 < (↑(BVD y2).length : Int))) (aP aA.li (BVD y2) s4.1 λ(y5:List aO)=>aD (decide (100<(↑(List.map aA.enc y5).length:Int))) (R BTX) (BUW X3 s4)) (BUW X0 s1)) (0,())))))) (R BT8)) (0,())))
abbrev ZC:Sh:=[(true,a6),(false,(Sy.int IntKind.i64))]
def O8 (x:aZ):Bool:=decide ((x.2.2.2.2.2.2.1.2.2.1.length:Int)<=40)&&(decide ((x.2.2.2.2.2.2.1.2.2.2.2.length:Int)<=40)&&(decide ((x.2.2.2.2.1.2.2.2.2.2.2.1.1.length:Int)<=100)&&(decide ((x.2.2.2.2.1.2.2.2.2.2.2.1.2.length:Int)<=20)&&x.2.2.2.2.1.2.2.2.2.2.2.1.2.all λh=>decide ((h.length:Int)<=100))))
def pD (o:bK) (n:Int):Bool:=decide ((o.1.size:Int)<=100)&&(decide ((o.2.length:Int)<=n)&&o.2.all O8)
def GY (x:bK×Int):Option T:=match decide (x.2<=1000) with
 | true=>some (Sh.enc pC (pD x.1 x.2))
 | false=>none
noncomputable def FN:List T->Option T:=gS ZC GY
def AKY {a0 a1}:FN [aF true a6 a0,pPP a1]=GY (a0,a1):=bA (s:=ZC) rfl (a0,a1) rfl
def A7N:qN Tryz.prog 24 FN GY (bY ZC) WG:=gL (a1:=(true,a6)) (a2:=(false,(Sy.int IntKind.i64))) (Hs:=BB1) (k:=8) ART aR aU (aL rfl) ⟨_,_,Tryz.func24,rfl⟩ rfl λ_ _ _=>by kernel_rfl
def A39:aM Tryz.prog 24 FN:=A7N λo n r h hb=>by
 clear hb;obtain ⟨hn,rfl⟩:=L3 h;clear h;have hn:n<=1000:=of_decide_eq_true hn;have no:pD o n=false->pPR false=Sh.enc pC (pD o n):=λh=>by rw[h];rfl
 unfold WG BVD BUY BUW BT8 BTX;simp only[ad];refine jW (λh=>no (by unfold pD;rw[ai h];rfl)) λg1=>?_;refine jW (λh=>no (by unfold pD;rw[ai h,Bool.false_and,Bool.and_false])) λg2=>?_;refine bI o.2.length (λk s=>s=((k:Int),())/\pD o n=(o.2.drop k).all O8) ⟨rfl,by unfold pD;rw[ah g1,ah g2];rfl⟩ ?_;rintro X k s hk ⟨rfl,he⟩ hX;dsimp only;refine bV (λhlt=>?_) λhge=>?_
 ·have hlt:k<o.2.length:=by omega
  rw[OA hlt] at he;rw[bC (r:=aN) hlt];generalize o.2[k]=x at he ⊢;unfold O8 at he;refine jW (λh=>no (by rw[he,ai h];rfl)) λk1=>?_;rw[ah k1,Bool.true_and] at he;refine jW (λh=>no (by rw[he,ai h];rfl)) λk2=>?_;rw[ah k2,Bool.true_and] at he;refine jW (λh=>no (by rw[he,ai h];rfl)) λk3=>?_;rw[ah k3,Bool.true_and] at he;refine jW (λh=>no (by rw[he,ai h];rfl)) λk4=>?_;rw[ah k4,Bool.true_and] at he;generalize x.2.2.2.2.1.2.2.2.2.2.2.1.2=H at k4 he ⊢;refine bI H.length (λj q=>q=((j:Int),())/\pD o n=((H.drop j).all (λh=>decide ((h.length:Int)<=100))&&(o.2.drop (k+1)).all O8)) ⟨rfl,by rw[List.drop_zero];exact he⟩ ?_;rintro Y j q hj ⟨rfl,hq⟩ hY;dsimp only;refine bV (λhlt2=>?_) λhge2=>?_
  ·have hlt2:j<H.length:=by omega
   rw[OA hlt2] at hq;rw[bC (r:=.li aA) hlt2];refine jW (λh=>no (by rw[hq,ai h];rfl)) λk5=>?_;rw[ah k5,Bool.true_and] at hq;exact hY _ hlt2 ⟨by rw[show i64.wrap ((j:Int)+1)=((j+1:Nat):Int) from bD _ (by omega) (by omega)],hq⟩
  ·rw[List.drop_eq_nil_of_le (by omega),List.all_nil,Bool.true_and] at hq;exact hX _ hlt ⟨by rw[show i64.wrap ((k:Int)+1)=((k+1:Nat):Int) from bD _ (by omega) (by omega)],hq⟩
 ·rw[he,List.drop_eq_nil_of_le (by omega)];rfl
def A3Z {o:bK} {n:Int} (hn:n<=100) (h:pD o n=true):AW1 o=true:=by
 unfold pD at h;rw[ac,ac,ae,ae] at h;obtain ⟨_,h2,h3⟩:=h;unfold AW1;rw[ac];refine ⟨ah (by omega),List.all_eq_true.2 λx hx=>?_⟩;have hx:=List.all_eq_true.1 h3 x hx;unfold O8 at hx;rw[ac,ac,ae,ae] at hx;unfold AF0;rw[ac];exact ⟨ah (by omega),ah (by omega)⟩
end Go.Pv
namespace Go.Pv
open Go Go.RowKit IntKind
section
variable {ag : Bool} {r : Sy}
def DL {k:iII}:∀ {es:List (iII×r.den)} {i:Nat},(∀ e∈es,e.1≠k)->findD .string (.string k) (List.map (a8 .str ag r) es) i=some none
 | [],_,_=>rfl
 | e::es,i,h=>by
  show (match Instr.sameNow .string (.string k) (.string e.1) with|some true=>_|some false=>_|none=>_)=_;rw[uX,ai (λh'=>h e (by simp) h'.symm)];exact DL λe' he'=>h e' (by simp[he'])
def ACT {k:iII}:∀ {es:List (iII×r.den)} {i j:Nat} (hj:j<es.length),es[j].1=k->(∀ q (hq:q<j),es[q].1≠k)->findD .string (.string k) (List.map (a8 .str ag r) es) i=some (some (i+j,.p (aF ag r es[j].2)))
 | e::es,i,0,_,he,_=>by
  show (match Instr.sameNow .string (.string k) (.string e.1) with|some true=>_|some false=>_|none=>_)=_;rw[uX,ah (by simpa using he.symm)];rfl
 | e::es,i,j+1,hj,he,hp=>by
  have hj':j<es.length:=by simpa using hj
  have hne:e.1≠k:=hp 0 (by omega);show (match Instr.sameNow .string (.string k) (.string e.1) with|some true=>_|some false=>_|none=>_)=_;rw[uX,ai (λh=>hne h.symm)];have:=ACT (i:=i+1) hj' (by simpa using he) (λq hq=>by have:=hp (q+1) (by omega);simpa using this);rw[show i+1+j=i+(j+1) by omega] at this;exact this
def XO {es:List (iII×r.den)} {k:iII} {A:Prop} {B:Nat->r.den->Prop} (hA:eC es k=none->A) (hB:∀ i v,eC es k=some v->B i v):dJ .string (.string k) (List.map (a8 .str ag r) es) ag r A B:=by
 rcases lX k es with ⟨h1,h2⟩|⟨j,hj,h1,h2,h3⟩
 ·exact .inl ⟨DL h2,hA h1⟩
 ·exact .inr ⟨0+j,es[j].2,ACT hj h1 h2,hB _ _ h3⟩
def BCX (h:r.pure=true) (e:iII×r.den):SO (a8 .str true r e)=a8 .str true r e:=by
 show (LJ .str e.1,D.p (T.agg ((r.enc e.2).map (T.canon 0))))=_;rw[iY e.2 h];rfl
def OV (h:r.pure=true) (es:List (iII×r.den)) (K:List (iII×r.den)->Prop) (hk:K es):b7 .str true r (List.map (a8 .str true r) es) K :=
 ⟨es,by rw[List.map_map];exact List.map_congr_left λe _=>BCX h e,hk⟩
def BPO (h:r.pure=true) {es:List (iII×r.den)} {k:iII} {v:r.den} (hg:eC es k=none) {K:List (iII×r.den)->Prop} (hK:K (es++[(k,v)])) :
  dS (Option (Nat×D)) (findD .string (.string k) (List.map (a8 .str true r) es) 0) λy=>b7 .str true r (dB (List.map (a8 .str true r) es) y (.string k) (D.p (.agg (r.enc v)))) K:=by
 rcases lX k es with ⟨h1,h2⟩|⟨j,hj,h1,h2,h3⟩
 ·refine ⟨_,DL h2,?_⟩;dsimp only;rw[show dB (List.map (a8 .str true r) es) none (.string k) (D.p (.agg (r.enc v)))=List.map (a8 .str true r) (es++[(k,v)]) by simp only[dB,List.map_append,List.map_cons,List.map_nil];rfl];exact OV h _ _ hK
 ·rw[hg] at h3;cases h3
variable {seen:List Nat}
def A3U {es:List (iII×r.den)} {i:Nat} (hi:i<es.length) (K:iII->r.den->Prop) (hk:K es[i].1 es[i].2):o7 .str ag r (List.map (a8 .str ag r) es) (seen++[i]) K :=
 ⟨i,es[i].1,es[i].2,by simp,by simp[hi],hk⟩
abbrev rL:=List iII×(Nat×List Nat×Nat)×PUnit
variable {E:List (Value×D)}
def AP8 {es:List (iII×r.den)} (hE:E=List.map (a8 .str ag r) es) {o:List iII} (P:iII×r.den->Bool)
  {EXIT:rL->Prop} {BODY:(rL->Prop)->rL->Nat->iII->r.den->Prop}
  (hbody:∀ (X:rL->Prop) (out:List iII) (seen:List Nat) (i:Nat) (hi:i<es.length),out.length<=o.length+seen.length->seen.length<es.length ->
   (P es[i]=true->X (out++[es[i].1],(E.length,seen++[i],E.length),()))->(P es[i]=false->X (out,(E.length,seen++[i],E.length),()))->BODY X (out,(E.length,seen,E.length),()) i es[i].1 es[i].2)
  (hexit:∀ (o2:List iII) (seen:List Nat),(∀ s,s∈o2↔∃ e∈es,e.1=s/\P e=true)->o2.length<=es.length->EXIT (o++o2,(E.length,seen,E.length),())) :
  a7 rL (λX s=>bH (decide (E.length<=s.2.1.1)&&decide (s.2.1.1<=s.2.1.2.2)) (j3 E.length s.2.1.2.1 (EXIT s) λi=>bH (decide (E.length=E.length)) (o7 .str ag r E (s.2.1.2.1++[i]) λk v=>BODY X s i k v))) (o,(E.length,[],E.length),()):=by
 have hn:E.length=es.length:=by rw[hE,ad]
 refine UW (λs=>∃ (seen:List Nat) (o2:List iII),s=(o++o2,(E.length,seen,E.length),())/\seen.Nodup/\(∀ i∈seen,i<es.length)/\(∀ s,s∈o2↔∃ i∈seen,∃ e,es[i]? = some e/\e.1=s/\P e=true)/\o2.length<=seen.length/\seen.length+(cE E.length seen).length<=E.length) (λs=>(cE E.length s.2.1.2.1).length) ⟨[],[],by rw[List.append_nil],by simp,by simp,by simp,by simp,by rw[sF];simp⟩ ?_;rintro X s ⟨seen,o2,rfl,hnd,hlt,hm,hl,hq⟩ hX;dsimp only;refine ⟨by simp,λhnil=>?_,λi hi=>⟨by simp,?_⟩⟩
 ·refine hexit o2 seen (λs=>?_) (by omega);rw[hm];constructor
  ·rintro ⟨i,_,e,he,h1,h2⟩;exact ⟨e,List.mem_of_getElem? he,h1,h2⟩
  ·rintro ⟨e,he,h1,h2⟩;obtain ⟨i,hi,rfl⟩:=List.mem_iff_getElem.1 he;refine ⟨i,?_,_,List.getElem?_eq_getElem hi,h1,h2⟩;refine Classical.byContradiction λhc=>?_;have:i∈cE E.length seen:=iU.2 ⟨by omega,hc⟩;rw[hnil] at this;cases this
 ·have hi':=iU.1 hi;have hie:i<es.length:=by omega
  have hst:=pU hi;subst hE;have hnd2:(seen++[i]).Nodup:=by
   rw[List.nodup_append];exact ⟨hnd,by simp,λa ha b hb=>by simp at hb;subst hb;exact λe=>hi'.2 (e ▸ ha)⟩
  have hlt2:∀ j∈seen++[i],j<es.length:=λj hj=>by
   rcases List.mem_append.1 hj with h|h
   ·exact hlt j h
   ·simp at h;omega
  have hpos:=List.length_pos_of_mem hi;have hq2:(seen++[i]).length+(cE (List.map (a8 .str ag r) es).length (seen++[i])).length<=(List.map (a8 .str ag r) es).length:=by simp only[List.length_append,List.length_singleton];omega
  refine A3U hie _ (hbody X _ seen i hie (by rw[List.length_append];omega) (by omega) (λhP=>?_) λhP=>?_)
  ·refine hX _ ⟨seen++[i],o2++[es[i].1],by rw[List.append_assoc],hnd2,hlt2,λs=>?_,by simp;omega,hq2⟩ hst;rw[List.mem_append,hm,List.mem_singleton];constructor
   ·rintro (⟨j,hj,h⟩|rfl)
    ·exact ⟨j,List.mem_append_left _ hj,h⟩
    ·exact ⟨i,by simp,_,List.getElem?_eq_getElem hie,rfl,hP⟩
   ·rintro ⟨j,hj,e,he,h1,h2⟩;rcases List.mem_append.1 hj with h|h
    ·exact .inl ⟨j,h,e,he,h1,h2⟩
    ·rw[List.mem_singleton.1 h,List.getElem?_eq_getElem hie] at he;cases he;exact .inr h1.symm
  ·refine hX _ ⟨seen++[i],o2,rfl,hnd2,hlt2,λs=>?_,by simp;omega,hq2⟩ hst;rw[hm];constructor
   ·rintro ⟨j,hj,h⟩;exact ⟨j,List.mem_append_left _ hj,h⟩
   ·rintro ⟨j,hj,e,he,h1,h2⟩;rcases List.mem_append.1 hj with h|h
    ·exact ⟨j,h,e,he,h1,h2⟩
    ·rw[List.mem_singleton.1 h,List.getElem?_eq_getElem hie] at he;cases he;rw[hP] at h2;cases h2
end
end Go.Pv
namespace Go.Pv
open Go Go.Proofs IntKind
variable {E:List (Value×D)}
def BF3 {ag:Bool} {r:Sy} {es:List (iII×r.den)} (hE:E=List.map (a8 .str ag r) es) {o:List iII} (P:iII×r.den->Bool)
  {EXIT:rL->Prop} {BODY:(rL->Prop)->rL->Nat->iII->r.den->Prop}
  (hbody:∀ (X:rL->Prop) (out:List iII) (seen:List Nat) (i:Nat) (hi:i<es.length),out.length<=o.length+seen.length->seen.length<es.length ->
   (P es[i]=true->X (out++[es[i].1],(E.length,seen++[i],E.length),()))->(P es[i]=false->X (out,(E.length,seen++[i],E.length),()))->BODY X (out,(E.length,seen,E.length),()) i es[i].1 es[i].2)
  (hexit:∀ (o2:List iII) (seen:List Nat),(∀ s,s∈o2↔∃ e∈es,e.1=s/\P e=true)->o2.length<=es.length->((es.map λe=>e.1).Nodup->o2.Nodup)->EXIT (o++o2,(E.length,seen,E.length),())) :
  a7 rL (λX s=>bH (decide (E.length<=s.2.1.1)&&decide (s.2.1.1<=s.2.1.2.2)) (j3 E.length s.2.1.2.1 (EXIT s) λi=>bH (decide (E.length=E.length)) (o7 .str ag r E (s.2.1.2.1++[i]) λk v=>BODY X s i k v))) (o,(E.length,[],E.length),()):=by
 have hn:E.length=es.length:=by rw[hE,ad]
 refine UW (λs=>∃ (seen:List Nat) (o2:List iII),s=(o++o2,(E.length,seen,E.length),())/\seen.Nodup/\(∀ i∈seen,i<es.length)/\(∀ s,s∈o2↔∃ i∈seen,∃ e,es[i]? = some e/\e.1=s/\P e=true)/\o2.length<=seen.length/\((es.map λe=>e.1).Nodup->o2.Nodup)/\seen.length+(cE E.length seen).length<=E.length) (λs=>(cE E.length s.2.1.2.1).length) ⟨[],[],by rw[List.append_nil],by simp,by simp,by simp,by simp,by simp,by rw[sF];simp⟩ ?_;rintro X s ⟨seen,o2,rfl,hnd,hlt,hm,hl,hon,hq⟩ hX;dsimp only;refine ⟨by simp,λhnil=>?_,λi hi=>⟨by simp,?_⟩⟩
 ·refine hexit o2 seen (λs=>?_) (by omega) hon;rw[hm];constructor
  ·rintro ⟨i,_,e,he,h1,h2⟩;exact ⟨e,List.mem_of_getElem? he,h1,h2⟩
  ·rintro ⟨e,he,h1,h2⟩;obtain ⟨i,hi,rfl⟩:=List.mem_iff_getElem.1 he;refine ⟨i,?_,_,List.getElem?_eq_getElem hi,h1,h2⟩;refine Classical.byContradiction λhc=>?_;have:i∈cE E.length seen:=iU.2 ⟨by omega,hc⟩;rw[hnil] at this;cases this
 ·have hi':=iU.1 hi;have hie:i<es.length:=by omega
  have hst:=pU hi;subst hE;have hnd2:(seen++[i]).Nodup:=by
   rw[List.nodup_append];exact ⟨hnd,by simp,λa ha b hb=>by simp at hb;subst hb;exact λe=>hi'.2 (e ▸ ha)⟩
  have hlt2:∀ j∈seen++[i],j<es.length:=λj hj=>by
   rcases List.mem_append.1 hj with h|h
   ·exact hlt j h
   ·simp at h;omega
  have hpos:=List.length_pos_of_mem hi;have hq2:(seen++[i]).length+(cE (List.map (a8 .str ag r) es).length (seen++[i])).length<=(List.map (a8 .str ag r) es).length:=by simp only[List.length_append,List.length_singleton];omega
  refine A3U hie _ (hbody X _ seen i hie (by rw[List.length_append];omega) (by omega) (λhP=>?_) λhP=>?_)
  ·refine hX _ ⟨seen++[i],o2++[es[i].1],by rw[List.append_assoc],hnd2,hlt2,λs=>?_,by simp;omega,?_,hq2⟩ hst
   case refine_2 =>
    intro hk;rw[List.nodup_append];refine ⟨hon hk,by simp,λx hx y hy e=>?_⟩;rw[List.mem_singleton.1 hy] at e;obtain ⟨j,hj,e',he',h1,_⟩:=(hm x).1 hx;obtain ⟨hjl,rfl⟩:=List.getElem?_eq_some_iff.1 he';have hne:j≠i:=λh=>hi'.2 (h ▸ hj);have h2:(es.map λe=>e.1)[j]'(by simpa using hjl)=(es.map λe=>e.1)[i]'(by simpa using hie):=by simp[h1,e]
    rcases Nat.lt_or_gt_of_ne hne with h|h
    ·exact List.pairwise_iff_getElem.1 hk _ _ _ _ h h2
    ·exact List.pairwise_iff_getElem.1 hk _ _ _ _ h h2.symm
   rw[List.mem_append,hm,List.mem_singleton];constructor
   ·rintro (⟨j,hj,h⟩|rfl)
    ·exact ⟨j,List.mem_append_left _ hj,h⟩
    ·exact ⟨i,by simp,_,List.getElem?_eq_getElem hie,rfl,hP⟩
   ·rintro ⟨j,hj,e,he,h1,h2⟩;rcases List.mem_append.1 hj with h|h
    ·exact .inl ⟨j,h,e,he,h1,h2⟩
    ·rw[List.mem_singleton.1 h,List.getElem?_eq_getElem hie] at he;cases he;exact .inr h1.symm
  ·refine hX _ ⟨seen++[i],o2,rfl,hnd2,hlt2,λs=>?_,by simp;omega,hon,hq2⟩ hst;rw[hm];constructor
   ·rintro ⟨j,hj,h⟩;exact ⟨j,List.mem_append_left _ hj,h⟩
   ·rintro ⟨j,hj,e,he,h1,h2⟩;rcases List.mem_append.1 hj with h|h
    ·exact ⟨j,h,e,he,h1,h2⟩
    ·rw[List.mem_singleton.1 h,List.getElem?_eq_getElem hie] at he;cases he;rw[hP] at h2;cases h2
def YL {α:Type} {k:iII} {v:α}:∀ {es:List (iII×α)},k∈es.map (λe=>e.1)->(nK es k v).map (λe=>e.1)=es.map (λe=>e.1)
 | [],h=>by cases h
 | e::es,h=>by
  unfold nK;by_cases h1:e.1=k
  ·simp[h1]
  ·rw[if_neg h1,List.map_cons,YL ((List.mem_cons.1 h).resolve_left λe'=>h1 e'.symm)];rfl
variable {α:Type}
def AE7 {k:iII} {v:α} {es:List (iII×α)} (h:k∉es.map (λe=>e.1)):(nK es k v).map (λe=>e.1)=es.map (λe=>e.1)++[k]:=by
 rw[IW λe he h'=>h (List.mem_map.2 ⟨e,he,h'⟩),List.map_append];rfl
def AE5 {k:iII}:∀ {es:List (iII×Bool)},(∀ e∈es,e.2=true)->∀ e∈nK es k true,e.2=true
 | [],_,e,h=>by rw[nK,List.mem_singleton] at h;rw[h]
 | a::es,hp,e,h=>by
  unfold nK at h;split at h
  ·rcases List.mem_cons.1 h with h|h
   ·rw[h]
   ·exact hp e (List.mem_cons_of_mem _ h)
  ·rcases List.mem_cons.1 h with h|h
   ·rw[h];exact hp a al
   ·exact AE5 (λe he=>hp e (List.mem_cons_of_mem _ he)) e h
def wU (p:iII->Prop) (n:Nat) (es:List (iII×Bool)):Prop:=(es.map λe=>e.1).Nodup/\(∀ s,s∈es.map (λe=>e.1)↔p s)/\es.length<=n/\∀ e∈es,e.2=true
variable {es:List (iII×Bool)}
def wU.ins {p q:iII->Prop} {n:Nat} {k:iII} (h:wU p n es) (hq:∀ s,q s↔p s\/s=k):wU q (n+1) (nK es k true):=by
 refine ⟨?_,λs=>?_,?_,AE5 h.2.2.2⟩
 ·by_cases hm:k∈es.map (λe=>e.1)
  ·rw[YL hm];exact h.1
  ·rw[AE7 hm,List.nodup_append];exact ⟨h.1,by simp,λa ha b hb e=>hm (by rw[List.mem_singleton.1 hb] at e;rw[<-e];exact ha)⟩
 ·rw[hq,<-h.2.1];by_cases hm:k∈es.map (λe=>e.1)
  ·rw[YL hm];exact ⟨.inl,λh'=>h'.elim (λh=>h) λe=>by rw[e];exact hm⟩
  ·rw[AE7 hm,List.mem_append,List.mem_singleton]
 ·have:=AE6 (k:=k) (v:=true) (es:=es);have:=h.2.2.1;omega
def wU.mono {p q:iII->Prop} {n m:Nat} (h:wU p n es) (hq:∀ s,q s↔p s) (hm:n<=m):wU q m es:=⟨h.1,λs=>by rw[hq];exact h.2.1 s,Nat.le_trans h.2.2.1 hm,h.2.2.2⟩
def wU.get {p:iII->Prop} {n:Nat} (h:wU p n es) (s:iII):(eC es s=none/\¬ p s)\/(eC es s=some true/\p s):=by
 rcases lX s es with ⟨h1,h2⟩|⟨j,hj,h1,_,h3⟩
 ·refine .inl ⟨h1,λhp=>?_⟩;obtain ⟨e,he,h⟩:=List.mem_map.1 ((h.2.1 s).2 hp);exact h2 e he h
 ·refine .inr ⟨by rw[h3,h.2.2.2 _ (aj hj)],(h.2.1 s).1 (List.mem_map.2 ⟨_,aj hj,h1⟩)⟩
abbrev AGU (gt:List T->Option T) (l:List aZ) (EXIT:Int×List (iII×Bool)×PUnit->Prop):Prop :=
 b7 Sy.str false Sy.bool [] λy0=>a7 (Int×List (iII×Bool)×PUnit) (λX1 s2=>aD (decide (s2.1<(↑(List.map aN.enc l).length:Int)))
  (aP aN (List.map aN.enc l) s2.1 λy3=>aI [(false,Sy.str.li)] (gt [aF true aN y3]) λ(y4:List iII) =>
   b7 Sy.str false Sy.bool (List.map (a8 Sy.str false Sy.bool) s2.2.1) λy5 =>
    a7 (Int×List (iII×Bool)×PUnit) (λX6 s7=>aD (decide (s7.1<(↑(List.map Sy.str.enc y4).length:Int)))
     (aP Sy.str (List.map Sy.str.enc y4) s7.1 λy8=>dS (Option (Nat×D)) (findD TypeDesc.string (Value.string y8) (List.map (a8 Sy.str false Sy.bool) s7.2.1) 0) λy9 =>
      b7 Sy.str false Sy.bool (dB (List.map (a8 Sy.str false Sy.bool) s7.2.1) y9 (Value.string y8) (D.p (pPR true))) λy10=>X6 (i64.wrap (s7.1+1),y10,()))
     (b7 Sy.str false Sy.bool (List.map (a8 Sy.str false Sy.bool) s7.2.1) λy11=>X1 (i64.wrap (s2.1+1),y11,()))) (0,y5,()))
  (EXIT s2)) (0,y0,())
variable {M:Nat}{EXIT:Int×List (iII×Bool)×PUnit->Prop}
def BMY {gt:List T->Option T} {tf:aZ->List iII} {l:List aZ} (hM:M<=3000000) (hNm:∀ e∈l,(tf e).length<=M) (hok:∀ e∈l,gt [aF true aN e]=some (Sh.enc [(false,Sy.str.li)] (tf e))) (hl:l.length<=100000)
  (hE:∀ i es,wU (λs=>∃ e∈l,s∈tf e) (l.length*M) es->EXIT (i,es,())):AGU gt l EXIT:=by
 refine j2 (r:=.bool) rfl [] _ ?_;refine bI l.length (λk s=>s.1=(k:Int)/\wU (λs=>∃ e∈l.take k,s∈tf e) (k*M) s.2.1) ⟨rfl,List.Pairwise.nil,λs=>Iff.intro (λh=>by cases h) (λh=>by obtain ⟨e,he,_⟩:=h;rw[List.take_zero] at he;cases he),Nat.zero_le _,λe he=>by cases he⟩ ?_;rintro X k ⟨i,es,u⟩ hk ⟨rfl,hs⟩ hX;dsimp only at hs ⊢;rw[ad];refine bV (λhlt=>?_) λhge=>?_
 ·have hlt:k<l.length:=by omega
  rw[bC (r:=aN) hlt];have hw:∀ {j:Nat},j<=3000000->i64.wrap ((j:Int)+1)=((j+1:Nat):Int):=λh=>bD _ (by omega) (by omega);refine aH (s:=[(false,Sy.str.li)]) (y:=tf l[k]) (hok _ (aj hlt)) ?_;refine j2 (r:=.bool) rfl _ _ ?_;have hN:(tf l[k]).length<=M:=hNm _ (aj hlt);generalize hB:tf l[k]=B at hN ⊢;refine bI B.length (λj s=>s.1=(j:Int)/\wU (λs=>(∃ e∈l.take k,s∈tf e)\/s∈B.take j) (k*M+j) s.2.1) ⟨rfl,hs.mono (λs=>by simp) (by omega)⟩ ?_;rintro Y j ⟨i,es2,u⟩ hj ⟨rfl,hs2⟩ hY;dsimp only at hs2 ⊢;rw[ad];refine bV (λhlt2=>?_) λhge2=>?_
  ·have hlt2:j<B.length:=by omega
   rw[bC (r:=.str) hlt2];refine APE (r:=.bool) rfl ?_;refine hY _ hlt2 ⟨hw (by omega),hs2.ins λs=>?_⟩;rw[List.take_succ_eq_append_getElem hlt2,List.mem_append,List.mem_singleton,or_assoc]
  ·have:j=B.length:=by omega
   subst this;refine j2 (r:=.bool) rfl _ _ ?_;refine hX _ hlt ⟨hw (by omega),hs2.mono (λs=>?_) (by rw[Nat.succ_mul];omega)⟩;show (∃ e,e∈l.take (k+1)/\s∈tf e)↔(∃ e,e∈l.take k/\s∈tf e)\/s∈B.take B.length;rw[List.take_length,List.take_succ_eq_append_getElem hlt];constructor
   ·rintro ⟨e,he,h⟩;rcases List.mem_append.1 he with he|he
    ·exact .inl ⟨e,he,h⟩
    ·rw[List.mem_singleton.1 he,hB] at h;exact .inr h
   ·rintro (⟨e,he,h⟩|h)
    ·exact ⟨e,List.mem_append_left _ he,h⟩
    ·exact ⟨l[k],List.mem_append_right _ (List.mem_singleton.2 rfl),by rw[hB];exact h⟩
 ·have:k=l.length:=by omega
  subst this;rw[List.take_length] at hs;exact hE _ _ hs
end Go.Pv
namespace Go.Pv
open Go Go.Proofs IntKind
def FW:List (List T)->Option (List (List T)):=q7
def ALD (l:List iII) (K:List (List T)->Prop):dS (List (List T)) (FW (List.map Sy.str.enc l)) K=K (List.map Sy.str.enc (l6 eN l)):=yH l K
def A4M:cB Tryz.prog 51 (xV 1 FW):=IC
noncomputable def BH9:Env:=Env.of [(92,.pure uP),(51,.perm 1 FW)]
def BIV:FuncId->Hint:=λf=>match f == 54 with|true=>⟨P9 [(3,.inv [.val 12 false (.int .i64),.map 2 .str false .bool]),(6,.inv [.val 19 false (.int .i64),.map 2 .str false .bool])],λ_ _=>none,λ_=>none⟩|false=>match f == 53 with|true=>⟨λr=>match r == 3 with|true=>.inv [.own 5 1 .str,.lB 3 (some 2)]|false=>.none,λ_ _=>none,λr=>match r == 4 with|true=>some (.str,false,.bool)|false=>none⟩|false=>aX
def AZN:aQ Tryz.prog BH9:=.cons AUM (.cons A4M (.nil _))
def BUN(s13:List iII×(Nat×List Nat×Nat)×PUnit):List (List T):=List.map Sy.str.enc s13.1
def BVO(k16:iII):List (List T):=[[pPQ k16]]
def AI2(a0:bK)(R:T->Prop):Prop:=b7 Sy.str false Sy.bool [] λ(y0:List (iII×Bool))=>a7 (Int×List (iII×Bool)×PUnit) (λX1 s2=>aD (decide (s2.1<(↑(BUY a0).length:Int))) (aP aN (BUY a0) s2.1 λ(y3:aZ)=>aI BT6 (uP [aF true aN y3]) λ(y4:List iII)=>b7 Sy.str false Sy.bool (List.map (a8 Sy.str false Sy.bool) s2.2.1) λ(y5:List (iII×Bool))=>a7 (Int×List (iII×Bool)×PUnit) (λX6 s7=>aD (decide (s7.1<(↑(BUF y4).length:Int))) (aP Sy.str (BUF y4) s7.1 λ(y8:iII)=>dS (Option (Nat×D)) (findD TypeDesc.string (Value.string y8) (List.map (a8 Sy.str false Sy.bool) s7.2.1) 0) λ(y9:Option (Nat×D))=>b7 Sy.str false Sy.bool (dB (List.map (a8 Sy.str false Sy.bool) s7.2.1) y9 (Value.string y8) (D.p BT8)) λ(y10:List (iII×Bool))=>X6 (i64.wrap (s7.1+1),y10,())) (b7 Sy.str false Sy.bool (List.map (a8 Sy.str false Sy.bool) s7.2.1) λ(y11:List (iII×Bool))=>X1 (i64.wrap (s2.1+1),y11,()))) (0,y5,())) (a7 (List iII×(Nat×List Nat×Nat)×PUnit) (λX12 s13=>bH (decide ((List.map (a8 Sy.str false Sy.bool) s2.2.1).length<=s13.2.1.1) && decide (s13.2.1.1<=s13.2.1.2.2)) (j3 (List.map (a8 Sy.str false Sy.bool) s2.2.1).length s13.2.1.2.1 (dS (List (List T)) (FW (BUN s13)) λ(y14:List (List T))=>R (T.sl false y14)) λ(i15:Nat)=>bH (decide ((List.map (a8 Sy.str false Sy.bool) s2.2.1).length = (List.map (a8 Sy.str false Sy.bool) s2.2.1).length)) (o7 Sy.str false Sy.bool (List.map (a8 Sy.str false Sy.bool) s2.2.1) (s13.2.1.2.1++[i15]) λ(k16:iII) (y17:Bool)=>bH (decide (((BUN s13).length+1)*16<=140737488355328) && decide ((BUN s13).length+1<=140737488355328)) (bZ Sy.str (List.map Sy.str.enc s13.1++(BVO k16)) λ(y18:List iII)=>X12 (y18, (s13.2.1.1,s13.2.1.2.1++[i15], (List.map (a8 Sy.str false Sy.bool) s2.2.1).length), ()))))) ([], ((List.map (a8 Sy.str false Sy.bool) s2.2.1).length,[], (List.map (a8 Sy.str false Sy.bool) s2.2.1).length), ()))) (0,y0,())
abbrev AM4:Sh:=[(true,a6)]
variable {M:Nat}{EXIT:Int×List (iII×Bool)×PUnit->Prop}
def BP4 {l:List aZ} (hM:M<=3000000) (hNm:∀ e∈l,(mK (cK e)).length<=M) (hok:∀ e∈l,AF0 e=true) (hl:l.length<=100000)
  (hE:∀ i es,wU (λs=>∃ e∈l,s∈mK (cK e)) (l.length*M) es->EXIT (i,es,())):AGU uP l EXIT :=
 BMY (tf:=λe=>mK (cK e)) hM hNm (λe he=>(AE1 ..).trans (by unfold vC;rw[hok e he];rfl)) hl hE
def ME (o:bK):Option T:=match AW1 o with
 | true=>some (T.sl false (List.map Sy.str.enc (LP o.2)))
 | false=>none
noncomputable def P0:List T->Option T:=gS AM4 ME
def AU3 {a0}:P0 [aF true a6 a0]=ME (a0):=bA (s:=AM4) rfl (a0) rfl
def BFN:qM Tryz.prog 20 P0 ME (bY AM4) AI2:=gK (a1:=(true,a6)) (Hs:=BIV) (k:=10) AZN aR aU (aL rfl) ⟨_,_,Tryz.func20,rfl⟩ rfl λ_ _=>by kernel_rfl
def BDW:aM Tryz.prog 20 P0:=BFN λo r h hb=>by
 clear hb;obtain ⟨hc,rfl⟩:=L3 h;clear h;obtain ⟨hl,hok⟩:=BFW hc;unfold AI2 BVO BUN BUY BUF BT8 BT6;refine BP4 (M:=2000010) (l:=o.2) (by omega) (λe he=>Nat.le_trans (AVY _) (ALX (hok e he))) hok (by omega) λ_ es hs=>?_;have hz:es.length<=1000000000:=Nat.le_trans hs.2.2.1 (by omega);refine BF3 (ag:=false) (r:=.bool) rfl (λ_=>true) (λX out seen i hi h1 h2 hy hn=>?_) λo2 seen hm hl2 hnd=>?_
 ·have h1:out.length<=0+seen.length:=h1;have h2:seen.length<es.length:=h2;dsimp only;rw[AJJ (by omega),OW];exact hy rfl
 ·show dS (List (List T)) (FW (List.map Sy.str.enc ([]++o2))) _;rw[List.nil_append,ALD];rw[A91 (hnd hs.1) λs=>?_];refine Iff.trans ?_ (hs.2.1 s);rw[hm,List.mem_map];exact ⟨λ⟨e,he,h,_⟩=>⟨e,he,h⟩,λ⟨e,he,h⟩=>⟨e,he,h,rfl⟩⟩
end Go.Pv
namespace Go.Pv
open Go Go.Proofs IntKind
noncomputable def BIB:Env:=Env.of []
def BIX:FuncId->Hint:=λ_=>aX
def AZP:aQ Tryz.prog BIB:=.nil _
def A1K(a0:cH)(R:T->Prop):Prop:=R (pPQ a0.1)
abbrev AM6:Sh:=[(true,aS)]
def MG (x:cH):Option T:=some (Sh.enc [(false,.str)] x.1)
noncomputable def vY:List T->Option T:=gS AM6 MG
def AU5 {a0}:vY [aF true aS a0]=MG (a0):=bA (s:=AM6) rfl (a0) rfl
def BFP:qM Tryz.prog 39 vY MG (bY AM6) A1K:=gK (a1:=(true,aS)) (Hs:=BIX) (k:=8) AZP aR aU (aL rfl) ⟨_,_,Tryz.func39,rfl⟩ rfl λ_ _=>by kernel_rfl
def BDY:aM Tryz.prog 39 vY:=BFP λx r h hb=>by
 cases h;rfl
noncomputable def BIC:Env:=Env.of []
def BIY:FuncId->Hint:=λ_=>aX
def AZQ:aQ Tryz.prog BIC:=.nil _
def A1L(a0:bB)(R:T->Prop):Prop:=R (pPQ a0.1)
abbrev AM7:Sh:=[(true,aJ)]
def MH (x:bB):Option T:=some (Sh.enc [(false,.str)] x.1)
noncomputable def vZ:List T->Option T:=gS AM7 MH
def AU6 {a0}:vZ [aF true aJ a0]=MH (a0):=bA (s:=AM7) rfl (a0) rfl
def BFQ:qM Tryz.prog 42 vZ MH (bY AM7) A1L:=gK (a1:=(true,aJ)) (Hs:=BIY) (k:=8) AZQ aR aU (aL rfl) ⟨_,_,Tryz.func42,rfl⟩ rfl λ_ _=>by kernel_rfl
def BDZ:aM Tryz.prog 42 vZ:=BFQ λx r h hb=>by
 cases h;rfl
noncomputable def BID:Env:=Env.of []
def BIZ:FuncId->Hint:=λ_=>aX
def AZR:aQ Tryz.prog BID:=.nil _
def A1M(a0:cJ)(R:T->Prop):Prop:=R (pPQ a0.1)
abbrev AM8:Sh:=[(true,aV)]
def MI (x:cJ):Option T:=some (Sh.enc [(false,.str)] x.1)
noncomputable def v7:List T->Option T:=gS AM8 MI
def AU7 {a0}:v7 [aF true aV a0]=MI (a0):=bA (s:=AM8) rfl (a0) rfl
def BFR:qM Tryz.prog 45 v7 MI (bY AM8) A1M:=gK (a1:=(true,aV)) (Hs:=BIZ) (k:=8) AZR aR aU (aL rfl) ⟨_,_,Tryz.func45,rfl⟩ rfl λ_ _=>by kernel_rfl
def BD0:aM Tryz.prog 45 v7:=BFR λx r h hb=>by
 cases h;rfl
noncomputable def BIA:Env:=Env.of []
def BIW:FuncId->Hint:=λ_=>aX
def AZO:aQ Tryz.prog BIA:=.nil _
def A1J(a0:aT)(R:T->Prop):Prop:=R (pPQ a0.1)
abbrev AM5:Sh:=[(true,aE)]
def MF (x:aT):Option T:=some (Sh.enc [(false,.str)] x.1)
noncomputable def vX:List T->Option T:=gS AM5 MF
def AU4 {a0}:vX [aF true aE a0]=MF (a0):=bA (s:=AM5) rfl (a0) rfl
def BFO:qM Tryz.prog 48 vX MF (bY AM5) A1J:=gK (a1:=(true,aE)) (Hs:=BIW) (k:=8) AZO aR aU (aL rfl) ⟨_,_,Tryz.func48,rfl⟩ rfl λ_ _=>by kernel_rfl
def BDX:aM Tryz.prog 48 vX:=BFO λx r h hb=>by
 cases h;rfl
noncomputable def AF (x:List iII×List iII):Option T:=some (Sh.enc pC (mB x.1 x.2))
noncomputable def BAQ:Env:=Env.of []
def BCD:FuncId->Hint:=bT 50 [(4,.inv [.val 13 false (.int .i64)])] (λ_=>aX)
def AR7:aQ Tryz.prog BAQ:=.nil _
def WV(a0:List iII)(a1:List iII)(R:T->Prop):Prop:=aD (!decide ((↑(BUF a0).length:Int)=(↑(BUF a1).length:Int))) (R BTX) (a7 (Int×PUnit) (λX0 s1=>aD (decide (s1.1<(↑(BUF a0).length:Int))) (aP Sy.str (BUF a0) s1.1 λ(y2:iII)=>aP Sy.str (BUF a1) s1.1 λ(y3:iII)=>aD (!decide (y2=y3)) (R BTX) (BUW X0 s1)) (R BT8)) (0,()))
abbrev ZR:Sh:=[(false,Sy.str.li),(false,Sy.str.li)]
noncomputable def A0:List T->Option T:=gS ZR AF
def ALB {a0 a1}:A0 [T.sl false (List.map Sy.str.enc a0),T.sl false (List.map Sy.str.enc a1)]=AF (a0,a1):=bA (s:=ZR) rfl (a0,a1) rfl
def A71:qN Tryz.prog 50 A0 AF (bY ZR) WV:=gL (a1:=(false,Sy.str.li)) (a2:=(false,Sy.str.li)) (Hs:=BCD) (k:=8) AR7 aR aU (aL rfl) ⟨_,_,Tryz.func50,rfl⟩ rfl λ_ _ _=>by kernel_rfl
def A4K:aM Tryz.prog 50 A0:=A71 λa b r h hb=>by
 cases h;unfold WV BUW BUF BT8 BTX;exact AA (r:=.str) (R:=λy=>y=Sh.enc pC (mB a b)) hb.1.1 _ (λx y=>decide_eq_true_iff) rfl
noncomputable def BIF:Env:=Env.of []
def BI1:FuncId->Hint:=λ_=>aX
def AZT:aQ Tryz.prog BIF:=.nil _
def AI4(a0:cH)(a1:cH)(R:T->Prop):Prop:=R (pPR (decide (a0.1=a1.1)&&(decide (a0.2.1=a1.2.1)&&(decide (a0.2.2=a1.2.2)&&true))))
abbrev ANA:Sh:=[(true,aS),(true,aS)]
noncomputable def MK (x:cH×cH):Option T:=some (Sh.enc pC (mB x.1 x.2))
noncomputable def IP:List T->Option T:=gS ANA MK
def AU9 {a0 a1}:IP [aF true aS a0,aF true aS a1]=MK (a0,a1):=bA (s:=ANA) rfl (a0,a1) rfl
def BFT:qN Tryz.prog 40 IP MK (bY ANA) AI4:=gL (a1:=(true,aS)) (a2:=(true,aS)) (Hs:=BI1) (k:=8) AZT aR aU (aL rfl) ⟨_,_,Tryz.func40,rfl⟩ rfl λ_ _ _=>by kernel_rfl
def BD2:aM Tryz.prog 40 IP:=BFT λa b r h hb=>by
 cases h;unfold AI4;show T.v (.bool _)=T.v (.bool (mB a b))
 congr 2
 rw[Bool.eq_iff_iff,eG];simp only[Bool.and_true,ac,ae,Prod.ext_iff,and_assoc]
noncomputable def BIG:Env:=Env.of []
def BI2:FuncId->Hint:=λ_=>aX
def AZU:aQ Tryz.prog BIG:=.nil _
def AI5(a0:cJ)(a1:cJ)(R:T->Prop):Prop:=R (pPR (decide (a0.1=a1.1) && (decide (a0.2.1=a1.2.1) && (decide (a0.2.2.1=a1.2.2.1) && (decide (a0.2.2.2.1=a1.2.2.2.1) && (decide (a0.2.2.2.2.1=a1.2.2.2.2.1) && (decide (a0.2.2.2.2.2=a1.2.2.2.2.2)&&true)))))))
abbrev ANB:Sh:=[(true,aV),(true,aV)]
noncomputable def ML (x:cJ×cJ):Option T:=some (Sh.enc pC (mB x.1 x.2))
noncomputable def IQ:List T->Option T:=gS ANB ML
def AVA {a0 a1}:IQ [aF true aV a0,aF true aV a1]=ML (a0,a1):=bA (s:=ANB) rfl (a0,a1) rfl
def BFU:qN Tryz.prog 46 IQ ML (bY ANB) AI5:=gL (a1:=(true,aV)) (a2:=(true,aV)) (Hs:=BI2) (k:=8) AZU aR aU (aL rfl) ⟨_,_,Tryz.func46,rfl⟩ rfl λ_ _ _=>by kernel_rfl
def BD3:aM Tryz.prog 46 IQ:=BFU λa b r h hb=>by
 cases h;unfold AI5;show T.v (.bool _)=T.v (.bool (mB a b))
 congr 2
 rw[Bool.eq_iff_iff,eG];simp only[Bool.and_true,ac,ae,Prod.ext_iff,and_assoc]
noncomputable def BIE:Env:=Env.of [(50,.pure A0)]
def BI0:FuncId->Hint:=λ_=>aX
def AZS:aQ Tryz.prog BIE:=.cons A4K (.nil _)
def AI3(a0:aT)(a1:aT)(R:T->Prop):Prop:=aD (decide (a0.1=a1.1)) (aD (decide (a0.2.1=a1.2.1)) (aD (decide (a0.2.2.2.1=a1.2.2.2.1)) (aI BT0 (A0 [T.sl false (BVK a0), T.sl false (BVK a1)]) λ(y0:Bool)=>aD y0 (aI BT0 (A0 [T.sl false (BVF a0), T.sl false (BVF a1)]) λ(y1:Bool)=>R (pPR y1)) (R BTX)) (R BTX)) (R BTX)) (R BTX)
abbrev AM9:Sh:=[(true,aE),(true,aE)]
noncomputable def MJ (x:aT×aT):Option T:=some (Sh.enc pC (mB x.1 x.2))
noncomputable def IM:List T->Option T:=gS AM9 MJ
def AU8 {a0 a1}:IM [aF true aE a0,aF true aE a1]=MJ (a0,a1):=bA (s:=AM9) rfl (a0,a1) rfl
def BFS:qN Tryz.prog 49 IM MJ (bY AM9) AI3:=gL (a1:=(true,aE)) (a2:=(true,aE)) (Hs:=BI0) (k:=8) AZS aR aU (aL rfl) ⟨_,_,Tryz.func49,rfl⟩ rfl λ_ _ _=>by kernel_rfl
def BD1:aM Tryz.prog 49 IM:=BFS λa b r h hb=>by
 cases h;unfold AI3 BVK BVF BT0 BTX;have u:=@ALB;simp only[u,AF,uW];simp only[A3R,P7,IZ]
 congr 2
 rw[Bool.eq_iff_iff,eG];simp only[Bool.and_true,ac,ae,eG,Prod.ext_iff];exact ⟨λ⟨h1,h2,h3,h4,h5⟩=>⟨h1,h2,h4,h3,h5⟩,λ⟨h1,h2,h4,h3,h5⟩=>⟨h1,h2,h3,h4,h5⟩⟩
end Go.Pv
namespace Go.Pv
open Go Go.Proofs IntKind
def FV:List (List T)->Option (List (List T)):=q7
def ALC (l:List iII) (K:List (List T)->Prop):dS (List (List T)) (FV (List.map Sy.str.enc l)) K=K (List.map Sy.str.enc (l6 eN l)):=yH l K
def A4L:cB Tryz.prog 51 (xV 1 FV):=IC
noncomputable def AG6:Env:=Env.of [(51,.perm 1 FV),(52,.grow 1 eH),(43,.pure j6),(39,.pure vY),(40,.pure IP),(42,.pure vZ),(45,.pure v7),(46,.pure IQ),(48,.pure vX),(49,.pure IM)]
def AI6:FuncId->Hint:=λf=>match f == 84 with|true=>⟨P9 [(3,.alt [.val 13 false (.int .i64),.map 3 .str true aS] [.val 13 false (.int .i64),.map 2 .str true aS])],λ_ _=>none,λ_=>none⟩|false=>match f == 38 with|true=>⟨λr=>match r == 4 with|true=>.inv [.own 11 1 .str,.lB 4 (some 2)]|false=>match r == 10 with|true=>.inv [.own 11 1 .str,.lB 6 (some 3)]|false=>.none,λ_ _=>none,λr=>match r == 5 with|true=>some (.str,true,aS)|false=>match r == 11 with|true=>some (.str,true,aS)|false=>none⟩|false=>match f == 85 with|true=>⟨P9 [(3,.alt [.val 13 false (.int .i64),.map 9 .str true aJ] [.val 13 false (.int .i64),.map 8 .str true aJ])],λ_ _=>none,λ_=>none⟩|false=>match f == 41 with|true=>⟨λr=>match r == 4 with|true=>.inv [.own 11 1 .str,.lB 10 (some 8)]|false=>match r == 10 with|true=>.inv [.own 11 1 .str,.lB 12 (some 9)]|false=>.none,λ_ _=>none,λr=>match r == 5 with|true=>some (.str,true,aJ)|false=>match r == 11 with|true=>some (.str,true,aJ)|false=>none⟩|false=>match f == 88 with|true=>⟨P9 [(3,.alt [.val 13 false (.int .i64),.map 16 .str true aV] [.val 13 false (.int .i64),.map 15 .str true aV])],λ_ _=>none,λ_=>none⟩|false=>match f == 44 with|true=>⟨λr=>match r == 4 with|true=>.inv [.own 11 1 .str,.lB 17 (some 15)]|false=>match r == 10 with|true=>.inv [.own 11 1 .str,.lB 19 (some 16)]|false=>.none,λ_ _=>none,λr=>match r == 5 with|true=>some (.str,true,aV)|false=>match r == 11 with|true=>some (.str,true,aV)|false=>none⟩|false=>match f == 89 with|true=>⟨P9 [(3,.alt [.val 13 false (.int .i64),.map 23 .str true aE] [.val 13 false (.int .i64),.map 22 .str true aE])],λ_ _=>none,λ_=>none⟩|false=>match f == 47 with|true=>⟨λr=>match r == 4 with|true=>.inv [.own 11 1 .str,.lB 24 (some 22)]|false=>match r == 10 with|true=>.inv [.own 11 1 .str,.lB 26 (some 23)]|false=>.none,λ_ _=>none,λr=>match r == 5 with|true=>some (.str,true,aE)|false=>match r == 11 with|true=>some (.str,true,aE)|false=>none⟩|false=>aX
def V4:aQ Tryz.prog AG6:=.cons A4L (.cons AO2 (.cons KM (.cons BDY (.cons BD2 (.cons BDZ (.cons BD0 (.cons BD3 (.cons BDX (.cons BD1 (.nil _))))))))))
def BT4:Sh:=[(false,Sy.str)]
def BT9:Sh:=[(false, Sy.str)]
def BUG(a0:aB)(s83: Int × List (iII × aT) × PUnit)(X82: Int × List (iII × aT) × PUnit -> Prop):Prop:=aP aE (BUM a0) s83.1 λ(y84 : aT)=>aI BT9 (vX [aF true aE y84]) λ(y85 : iII)=>dJ TypeDesc.string (Value.string y85) (List.map (a8 Sy.str true aE) s83.2.1) true aE (aI BT9 (vX [aF true aE y84]) λ(y89 : iII)=>dS (Option (Nat × D)) (findD TypeDesc.string (Value.string y89) (List.map (a8 Sy.str true aE) s83.2.1) 0) λ(y90 : Option (Nat × D))=>b7 Sy.str true aE (dB (List.map (a8 Sy.str true aE) s83.2.1) y90 (Value.string y89) (D.p (aF true aE y84))) λ(y91 : List (iII × aT))=>X82 (i64.wrap (s83.1 + 1), y91, ())) λ(i86 : Nat) (y87 : aT)=>b7 Sy.str true aE (List.map (a8 Sy.str true aE) s83.2.1) λ(y88 : List (iII × aT))=>X82 (i64.wrap (s83.1 + 1), y88, ())
def BUH(a0:aB)(s29:Int×List (iII×bB)×PUnit)(X28:Int×List (iII×bB)×PUnit->Prop):Prop:=aP aJ (BUE a0) s29.1 λ(y30:bB)=>aI BT4 (vZ [aF true aJ y30]) λ(y31:iII)=>dJ TypeDesc.string (Value.string y31) (List.map (a8 Sy.str true aJ) s29.2.1) true aJ (aI BT4 (vZ [aF true aJ y30]) λ(y35:iII)=>dS (Option (Nat×D)) (findD TypeDesc.string (Value.string y35) (List.map (a8 Sy.str true aJ) s29.2.1) 0) λ(y36:Option (Nat×D))=>b7 Sy.str true aJ (dB (List.map (a8 Sy.str true aJ) s29.2.1) y36 (Value.string y35) (D.p (aF true aJ y30))) λ(y37:List (iII×bB))=>X28 (i64.wrap (s29.1+1),y37,())) λ(i32:Nat) (y33:bB)=>b7 Sy.str true aJ (List.map (a8 Sy.str true aJ) s29.2.1) λ(y34:List (iII×bB))=>X28 (i64.wrap (s29.1+1),y34,())
def BUX(s80: List iII × (Nat × List Nat × Nat) × PUnit):List (List T):=List.map Sy.str.enc s80.1
def BUK(s107: List iII × (Nat × List Nat × Nat) × PUnit)(k111: iII)(X106: List iII × (Nat × List Nat × Nat) × PUnit -> Prop)(i110: Nat)(s94: Int × List (iII × aT) × PUnit):Prop:=bH (decide (((BUX s107).length + 1) * 16 <= 140737488355328) && decide ((BUX s107).length + 1 <= 140737488355328)) (bZ Sy.str (List.map Sy.str.enc s107.1 ++ [[pPQ k111]]) λ(y116 : List iII)=>X106 (y116, (s107.2.1.1, s107.2.1.2.1 ++ [i110], (List.map (a8 Sy.str true aE) s94.2.1).length), ()))
def BU1(s26:List iII×(Nat×List Nat×Nat)×PUnit)(k159:iII)(X25:List iII×(Nat×List Nat×Nat)×PUnit->Prop)(i158:Nat)(s13:Int×List (iII×cH)×PUnit):Prop:=bZ Sy.str (List.map Sy.str.enc s26.1++(BVO k159)) λ(y164:List iII)=>X25 (y164, (s26.2.1.1,s26.2.1.2.1++[i158], (List.map (a8 Sy.str true aS) s13.2.1).length), ())
def BU4(s77: List iII × (Nat×List Nat×Nat) × PUnit)(k134:iII)(X76: List iII × (Nat × List Nat×Nat) × PUnit -> Prop)(i133:Nat)(s56: Int × List (iII×cJ) × PUnit):Prop:=bH (decide (((List.map Sy.str.enc s77.1).length + 1) * 16 <= 140737488355328) && decide ((List.map Sy.str.enc s77.1).length + 1 <= 140737488355328)) (bZ Sy.str (List.map Sy.str.enc s77.1 ++ (BVO k134)) λ(y141 : List iII)=>X76 (y141, (s77.2.1.1, s77.2.1.2.1 ++ [i133], (List.map (a8 Sy.str true aV) s56.2.1).length), ()))
def C6(a0:aB)(a1:aB)(R:T->Prop):Prop:=b7 Sy.str true aS [] λ(y0:List (iII×cH))=>a7 (Int×List (iII×cH)×PUnit) (λX1 s2=>aD (decide (s2.1<(↑(BUS a0).length:Int))) (aP aS (BUS a0) s2.1 λ(y3:cH)=>aI BT4 (vY [aF true aS y3]) λ(y4:iII)=>dJ TypeDesc.string (Value.string y4) (List.map (a8 Sy.str true aS) s2.2.1) true aS (aI BT4 (vY [aF true aS y3]) λ(y8:iII)=>dS (Option (Nat×D)) (findD TypeDesc.string (Value.string y8) (List.map (a8 Sy.str true aS) s2.2.1) 0) λ(y9:Option (Nat×D))=>b7 Sy.str true aS (dB (List.map (a8 Sy.str true aS) s2.2.1) y9 (Value.string y8) (D.p (aF true aS y3))) λ(y10:List (iII×cH))=>X1 (i64.wrap (s2.1+1),y10,())) λ(i5:Nat) (y6:cH)=>b7 Sy.str true aS (List.map (a8 Sy.str true aS) s2.2.1) λ(y7:List (iII×cH))=>X1 (i64.wrap (s2.1+1),y7,())) (b7 Sy.str true aS [] λ(y11:List (iII×cH))=>a7 (Int×List (iII×cH)×PUnit) (λX12 s13=>aD (decide (s13.1<(↑(BUS a1).length:Int))) (aP aS (BUS a1) s13.1 λ(y14:cH)=>aI BT4 (vY [aF true aS y14]) λ(y15:iII)=>dJ TypeDesc.string (Value.string y15) (List.map (a8 Sy.str true aS) s13.2.1) true aS (aI BT4 (vY [aF true aS y14]) λ(y19:iII)=>dS (Option (Nat×D)) (findD TypeDesc.string (Value.string y19) (List.map (a8 Sy.str true aS) s13.2.1) 0) λ(y20:Option (Nat×D))=>b7 Sy.str true aS (dB (List.map (a8 Sy.str true aS) s13.2.1) y20 (Value.string y19) (D.p (aF true aS y14))) λ(y21:List (iII×cH))=>X12 (i64.wrap (s13.1+1),y21,())) λ(i16:Nat) (y17:cH)=>b7 Sy.str true aS (List.map (a8 Sy.str true aS) s13.2.1) λ(y18:List (iII×cH))=>X12 (i64.wrap (s13.1+1),y18,())) (a7 (List iII×(Nat×List Nat×Nat)×PUnit) (λX22 s23=>bH (decide ((List.map (a8 Sy.str true aS) s2.2.1).length<=s23.2.1.1) && decide (s23.2.1.1<=s23.2.1.2.2)) (j3 (List.map (a8 Sy.str true aS) s2.2.1).length s23.2.1.2.1 (bZ Sy.str (BUN s23) λ(y24:List iII)=>a7 (List iII×(Nat×List Nat×Nat)×PUnit) (λX25 s26=>bH (decide ((List.map (a8 Sy.str true aS) s13.2.1).length <= s26.2.1.1) && decide (s26.2.1.1<=s26.2.1.2.2)) (j3 (List.map (a8 Sy.str true aS) s13.2.1).length s26.2.1.2.1 (b7 Sy.str true aJ [] λ(y27:List (iII×bB))=>a7 (Int×List (iII×bB)×PUnit) (λX28 s29=>aD (decide (s29.1<(↑(BUE a0).length:Int))) (BUH a0 s29 X28) (b7 Sy.str true aJ [] λ(y38:List (iII×bB))=>a7 (Int×List (iII×bB)×PUnit) (λX39 s40=>aD (decide (s40.1 < (↑(BUE a1).length:Int))) (BUH a1 s40 X39) (a7 (List iII×(Nat×List Nat×Nat)×PUnit) (λX49 s50=>bH (decide ((List.map (a8 Sy.str true aJ) s29.2.1).length <= s50.2.1.1) && decide (s50.2.1.1<=s50.2.1.2.2)) (j3 (List.map (a8 Sy.str true aJ) s29.2.1).length s50.2.1.2.1 (bZ Sy.str (BUN s50) λ(y51:List iII)=>a7 (List iII×(Nat×List Nat×Nat)×PUnit) (λ(X52 : List iII×(Nat×List Nat×Nat)×PUnit -> Prop) (s53 : List iII×(Nat×List Nat×Nat)×PUnit)=>bH (decide ((List.map (a8 Sy.str true aJ) s40.2.1).length <= s53.2.1.1) && decide (s53.2.1.1<=s53.2.1.2.2)) (j3 (List.map (a8 Sy.str true aJ) s40.2.1).length s53.2.1.2.1 (bH (eP 1 (List.map Sy.str.enc s53.1) && decide (((BUN s26).length + (List.map Sy.str.enc s53.1).length) * 16 <= 140737488355328) && decide ((BUN s26).length + (List.map Sy.str.enc s53.1).length <= 140737488355328)) (b7 Sy.str true aV [] λ(y54:List (iII×cJ))=>a7 (Int×List (iII×cJ)×PUnit) (λ(X55 : Int × List (iII×cJ) × PUnit -> Prop) (s56 : Int × List (iII×cJ) × PUnit)=>aD (decide (s56.1 < (↑(BUO a0).length : Int))) (aP aV (BUO a0) s56.1 λ(y57:cJ)=>aI BT4 (v7 [aF true aV y57]) λ(y58:iII)=>dJ TypeDesc.string (Value.string y58) (List.map (a8 Sy.str true aV) s56.2.1) true aV (aI BT4 (v7 [aF true aV y57]) λ(y62:iII)=>dS (Option (Nat×D)) (findD TypeDesc.string (Value.string y62) (List.map (a8 Sy.str true aV) s56.2.1) 0) λ(y63 : Option (Nat×D))=>b7 Sy.str true aV (dB (List.map (a8 Sy.str true aV) s56.2.1) y63 (Value.string y62) (D.p (aF true aV y57))) λ(y64 : List (iII × cJ))=>X55 (i64.wrap (s56.1+1), y64,())) λ(i59:Nat) (y60:cJ)=>b7 Sy.str true aV (List.map (a8 Sy.str true aV) s56.2.1) λ(y61 : List (iII × cJ))=>X55 (i64.wrap (s56.1+1), y61,())) (b7 Sy.str true aV [] λ(y65 : List (iII×cJ))=>a7 (Int × List (iII×cJ) × PUnit) (λ(X66 : Int × List (iII × cJ) × PUnit -> Prop) (s67 : Int × List (iII × cJ) × PUnit)=>aD (decide (s67.1 < (↑(BUO a1).length : Int))) (aP aV (BUO a1) s67.1 λ(y68:cJ)=>aI BT4 (v7 [aF true aV y68]) λ(y69:iII)=>dJ TypeDesc.string (Value.string y69) (List.map (a8 Sy.str true aV) s67.2.1) true aV (aI BT4 (v7 [aF true aV y68]) λ(y73:iII)=>dS (Option (Nat×D)) (findD TypeDesc.string (Value.string y73) (List.map (a8 Sy.str true aV) s67.2.1) 0) λ(y74 : Option (Nat × D))=>b7 Sy.str true aV (dB (List.map (a8 Sy.str true aV) s67.2.1) y74 (Value.string y73) (D.p (aF true aV y68))) λ(y75 : List (iII × cJ))=>X66 (i64.wrap (s67.1+1), y75,())) λ(i70:Nat) (y71:cJ)=>b7 Sy.str true aV (List.map (a8 Sy.str true aV) s67.2.1) λ(y72 : List (iII × cJ))=>X66 (i64.wrap (s67.1+1), y72,())) (a7 (List iII × (Nat×List Nat×Nat) × PUnit) (λ(X76 : List iII × (Nat × List Nat×Nat) × PUnit -> Prop) (s77 : List iII × (Nat×List Nat×Nat) × PUnit)=>bH (decide ((List.map (a8 Sy.str true aV) s56.2.1).length <= s77.2.1.1) && decide (s77.2.1.1 <= s77.2.1.2.2)) (j3 (List.map (a8 Sy.str true aV) s56.2.1).length s77.2.1.2.1 (bZ Sy.str (List.map Sy.str.enc s77.1) λ(y78 : List iII)=>a7 (List iII × (Nat × List Nat × Nat) × PUnit) (λ(X79 : List iII × (Nat × List Nat × Nat) × PUnit -> Prop) (s80 : List iII × (Nat × List Nat × Nat) × PUnit)=>bH (decide ((List.map (a8 Sy.str true aV) s67.2.1).length <= s80.2.1.1) && decide (s80.2.1.1 <= s80.2.1.2.2)) (j3 (List.map (a8 Sy.str true aV) s67.2.1).length s80.2.1.2.1 (bH (eP 1 (BUX s80) && decide (((List.map Sy.str.enc s26.1 ++ List.map Sy.str.enc s53.1).length + (BUX s80).length) * 16 <= 140737488355328) && decide ((List.map Sy.str.enc s26.1 ++ List.map Sy.str.enc s53.1).length + (BUX s80).length <= 140737488355328)) (b7 Sy.str true aE [] λ(y81 : List (iII × aT))=>a7 (Int × List (iII × aT) × PUnit) (λ(X82 : Int × List (iII × aT) × PUnit -> Prop) (s83 : Int × List (iII × aT) × PUnit)=>aD (decide (s83.1 < (↑(BUM a0).length : Int))) (BUG a0 s83 X82) (b7 Sy.str true aE [] λ(y92 : List (iII × aT))=>a7 (Int × List (iII × aT) × PUnit) (λ(X93 : Int × List (iII × aT) × PUnit -> Prop) (s94 : Int × List (iII × aT) × PUnit)=>aD (decide (s94.1 < (↑(BUM a1).length : Int))) (BUG a1 s94 X93) (a7 (List iII × (Nat × List Nat × Nat) × PUnit) (λ(X103 : List iII × (Nat × List Nat × Nat) × PUnit -> Prop) (s104 : List iII × (Nat × List Nat × Nat) × PUnit)=>bH (decide ((List.map (a8 Sy.str true aE) s83.2.1).length <= s104.2.1.1) && decide (s104.2.1.1 <= s104.2.1.2.2)) (j3 (List.map (a8 Sy.str true aE) s83.2.1).length s104.2.1.2.1 (bZ Sy.str (BUX s104) λ(y105 : List iII)=>a7 (List iII × (Nat × List Nat × Nat) × PUnit) (λ(X106 : List iII × (Nat × List Nat × Nat) × PUnit -> Prop) (s107 : List iII × (Nat × List Nat × Nat) × PUnit)=>bH (decide ((List.map (a8 Sy.str true aE) s94.2.1).length <= s107.2.1.1) && decide (s107.2.1.1 <= s107.2.1.2.2)) (j3 (List.map (a8 Sy.str true aE) s94.2.1).length s107.2.1.2.1 (bH (eP 1 (BUX s107) && decide (((List.map Sy.str.enc s26.1 ++ List.map Sy.str.enc s53.1 ++ List.map Sy.str.enc s80.1).length + (BUX s107).length) * 16 <= 140737488355328) && decide ((List.map Sy.str.enc s26.1 ++ List.map Sy.str.enc s53.1 ++ List.map Sy.str.enc s80.1).length + (BUX s107).length <= 140737488355328)) (dS (List (List T)) (FV (List.map Sy.str.enc s26.1 ++ List.map Sy.str.enc s53.1 ++ List.map Sy.str.enc s80.1 ++ List.map Sy.str.enc s107.1)) λ(y108 : List (List T))=>bP Sy.str (eH y108 []) λ(y109 : List iII)=>R (T.sl false (List.map Sy.str.enc y109)))) λ(i110 : Nat)=>bH (decide ((List.map (a8 Sy.str true aE) s94.2.1).length = (List.map (a8 Sy.str true aE) s94.2.1).length)) (o7 Sy.str true aE (List.map (a8 Sy.str true aE) s94.2.1) (s107.2.1.2.1 ++ [i110]) λ(k111 : iII) (y112 : aT)=>dJ TypeDesc.string (Value.string k111) (List.map (a8 Sy.str true aE) s83.2.1) true aE (BUK s107 k111 X106 i110 s94) λ(i113 : Nat) (y114 : aT)=>bZ Sy.str (BUX s107) λ(y115 : List iII)=>X106 (y115, (s107.2.1.1, s107.2.1.2.1 ++ [i110], (List.map (a8 Sy.str true aE) s94.2.1).length), ())))) (y105, ((List.map (a8 Sy.str true aE) s94.2.1).length, [], (List.map (a8 Sy.str true aE) s94.2.1).length), ())) λ(i117 : Nat)=>bH (decide ((List.map (a8 Sy.str true aE) s83.2.1).length = (List.map (a8 Sy.str true aE) s83.2.1).length)) (o7 Sy.str true aE (List.map (a8 Sy.str true aE) s83.2.1) (s104.2.1.2.1 ++ [i117]) λ(k118 : iII) (y119 : aT)=>dJ TypeDesc.string (Value.string k118) (List.map (a8 Sy.str true aE) s94.2.1) true aE (BUK s104 k118 X103 i117 s83) λ(i120 : Nat) (y121 : aT)=>aI [(false, Sy.bool)] (IM [aF true aE y119, aF true aE y121]) λ(y122 : Bool)=>aD (!y122) (BUK s104 k118 X103 i117 s83) (bZ Sy.str (BUX s104) λ(y124 : List iII)=>X103 (y124, (s104.2.1.1, s104.2.1.2.1 ++ [i117], (List.map (a8 Sy.str true aE) s83.2.1).length), ()))))) ([], ((List.map (a8 Sy.str true aE) s83.2.1).length, [], (List.map (a8 Sy.str true aE) s83.2.1).length), ()))) (0, y92, ()))) (0,y81, ()))) λ(i126 : Nat)=>bH (decide ((List.map (a8 Sy.str true aV) s67.2.1).length = (List.map (a8 Sy.str true aV) s67.2.1).length)) (o7 Sy.str true aV (List.map (a8 Sy.str true aV) s67.2.1) (s80.2.1.2.1 ++ [i126]) λ(k127 : iII) (y128 : cJ)=>dJ TypeDesc.string (Value.string k127) (List.map (a8 Sy.str true aV) s56.2.1) true aV (bH (decide (((BUX s80).length + 1) * 16 <= 140737488355328) && decide ((BUX s80).length + 1 <= 140737488355328)) (bZ Sy.str (List.map Sy.str.enc s80.1 ++ [[pPQ k127]]) λ(y132 : List iII)=>X79 (y132, (s80.2.1.1, s80.2.1.2.1 ++ [i126], (List.map (a8 Sy.str true aV) s67.2.1).length), ()))) λ(i129 : Nat) (y130 : cJ)=>bZ Sy.str (BUX s80) λ(y131 : List iII)=>X79 (y131, (s80.2.1.1, s80.2.1.2.1 ++ [i126], (List.map (a8 Sy.str true aV) s67.2.1).length), ())))) (y78, ((List.map (a8 Sy.str true aV) s67.2.1).length, [], (List.map (a8 Sy.str true aV) s67.2.1).length), ())) λ(i133:Nat)=>bH (decide ((List.map (a8 Sy.str true aV) s56.2.1).length = (List.map (a8 Sy.str true aV) s56.2.1).length)) (o7 Sy.str true aV (List.map (a8 Sy.str true aV) s56.2.1) (s77.2.1.2.1 ++ [i133]) λ(k134:iII) (y135 : cJ)=>dJ TypeDesc.string (Value.string k134) (List.map (a8 Sy.str true aV) s67.2.1) true aV (BU4 s77 k134 X76 i133 s56) λ(i136:Nat) (y137 : cJ)=>aI [(false, Sy.bool)] (IQ [aF true aV y135, aF true aV y137]) λ(y138:Bool)=>aD (!y138) (BU4 s77 k134 X76 i133 s56) (bZ Sy.str (List.map Sy.str.enc s77.1) λ(y140 : List iII)=>X76 (y140, (s77.2.1.1, s77.2.1.2.1 ++ [i133], (List.map (a8 Sy.str true aV) s56.2.1).length), ()))))) ([], ((List.map (a8 Sy.str true aV) s56.2.1).length, [], (List.map (a8 Sy.str true aV) s56.2.1).length), ()))) (0,y65,()))) (0,y54,()))) λ(i142:Nat)=>bH (decide ((List.map (a8 Sy.str true aJ) s40.2.1).length = (List.map (a8 Sy.str true aJ) s40.2.1).length)) (o7 Sy.str true aJ (List.map (a8 Sy.str true aJ) s40.2.1) (s53.2.1.2.1++[i142]) λ(k143:iII) (y144:bB)=>dJ TypeDesc.string (Value.string k143) (List.map (a8 Sy.str true aJ) s29.2.1) true aJ (bH (decide (((List.map Sy.str.enc s53.1).length + 1) * 16 <= 140737488355328) && decide ((List.map Sy.str.enc s53.1).length + 1 <= 140737488355328)) (bZ Sy.str (List.map Sy.str.enc s53.1 ++ (BVO k143)) λ(y148:List iII)=>X52 (y148, (s53.2.1.1, s53.2.1.2.1++[i142], (List.map (a8 Sy.str true aJ) s40.2.1).length), ()))) λ(i145:Nat) (y146:bB)=>bZ Sy.str (List.map Sy.str.enc s53.1) λ(y147:List iII)=>X52 (y147, (s53.2.1.1, s53.2.1.2.1++[i142], (List.map (a8 Sy.str true aJ) s40.2.1).length), ())))) (y51, ((List.map (a8 Sy.str true aJ) s40.2.1).length, [], (List.map (a8 Sy.str true aJ) s40.2.1).length), ())) λ(i149:Nat)=>bH (decide ((List.map (a8 Sy.str true aJ) s29.2.1).length = (List.map (a8 Sy.str true aJ) s29.2.1).length)) (o7 Sy.str true aJ (List.map (a8 Sy.str true aJ) s29.2.1) (s50.2.1.2.1++[i149]) λ(k150:iII) (y151:bB)=>dJ TypeDesc.string (Value.string k150) (List.map (a8 Sy.str true aJ) s40.2.1) true aJ (bH (decide (((BUN s50).length + 1) * 16 <= 140737488355328) && decide ((BUN s50).length+1 <= 140737488355328)) (bZ Sy.str (List.map Sy.str.enc s50.1 ++ (BVO k150)) λ(y157:List iII)=>X49 (y157, (s50.2.1.1,s50.2.1.2.1++[i149], (List.map (a8 Sy.str true aJ) s29.2.1).length), ()))) λ(i152:Nat) (y153:bB)=>aI BT0 (j6 [aF true aJ y151, aF true aJ y153]) λ(y154:Bool)=>aD (!y154) (bH (decide (((BUN s50).length + 1) * 16 <= 140737488355328) && decide ((BUN s50).length + 1 <= 140737488355328)) (bZ Sy.str (List.map Sy.str.enc s50.1 ++ (BVO k150)) λ(y155:List iII)=>X49 (y155, (s50.2.1.1, s50.2.1.2.1++[i149], (List.map (a8 Sy.str true aJ) s29.2.1).length), ()))) (bZ Sy.str (BUN s50) λ(y156:List iII)=>X49 (y156, (s50.2.1.1, s50.2.1.2.1++[i149], (List.map (a8 Sy.str true aJ) s29.2.1).length), ()))))) ([], ((List.map (a8 Sy.str true aJ) s29.2.1).length, [], (List.map (a8 Sy.str true aJ) s29.2.1).length), ()))) (0,y38,()))) (0,y27,())) λ(i158:Nat)=>bH (decide ((List.map (a8 Sy.str true aS) s13.2.1).length = (List.map (a8 Sy.str true aS) s13.2.1).length)) (o7 Sy.str true aS (List.map (a8 Sy.str true aS) s13.2.1) (s26.2.1.2.1++[i158]) λ(k159:iII) (y160:cH)=>dJ TypeDesc.string (Value.string k159) (List.map (a8 Sy.str true aS) s2.2.1) true aS (bH (decide (((BUN s26).length+1)*16 <= 140737488355328) && decide ((BUN s26).length+1<=140737488355328)) (BU1 s26 k159 X25 i158 s13)) λ(i161:Nat) (y162:cH)=>bZ Sy.str (BUN s26) λ(y163:List iII)=>X25 (y163, (s26.2.1.1,s26.2.1.2.1++[i158], (List.map (a8 Sy.str true aS) s13.2.1).length), ())))) (y24, ((List.map (a8 Sy.str true aS) s13.2.1).length,[], (List.map (a8 Sy.str true aS) s13.2.1).length), ())) λ(i165:Nat)=>bH (decide ((List.map (a8 Sy.str true aS) s2.2.1).length = (List.map (a8 Sy.str true aS) s2.2.1).length)) (o7 Sy.str true aS (List.map (a8 Sy.str true aS) s2.2.1) (s23.2.1.2.1++[i165]) λ(k166:iII) (y167:cH)=>dJ TypeDesc.string (Value.string k166) (List.map (a8 Sy.str true aS) s13.2.1) true aS (bH (decide (((BUN s23).length+1)*16<=140737488355328) && decide ((BUN s23).length+1<=140737488355328)) (BU1 s23 k166 X22 i165 s2)) λ(i168:Nat) (y169:cH)=>aI BT0 (IP [aF true aS y167,aF true aS y169]) λ(y170:Bool)=>aD (!y170) (bH (decide (((BUN s23).length+1)*16<=140737488355328) && decide ((BUN s23).length+1<=140737488355328)) (BU1 s23 k166 X22 i165 s2)) (bZ Sy.str (BUN s23) λ(y172:List iII)=>X22 (y172, (s23.2.1.1,s23.2.1.2.1++[i165], (List.map (a8 Sy.str true aS) s2.2.1).length), ()))))) ([], ((List.map (a8 Sy.str true aS) s2.2.1).length,[], (List.map (a8 Sy.str true aS) s2.2.1).length), ()))) (0,y11,()))) (0,y0,())
abbrev D6:Sh:=[(true,aC),(true,aC)]
abbrev AJ6 (r:Sy) (gv:List T->Option T) (l:List r.den) (EXIT:Int×List (iII×r.den)×PUnit->Prop):Prop :=
 b7 Sy.str true r [] λy0=>a7 (Int×List (iII×r.den)×PUnit) (λX1 s2=>aD (decide (s2.1<(↑(List.map r.enc l).length:Int))) (aP r (List.map r.enc l) s2.1 λy3=>aI [(false,Sy.str)] (gv [aF true r y3]) λ(y4:iII) =>
  dJ TypeDesc.string (Value.string y4) (List.map (a8 Sy.str true r) s2.2.1) true r
   (aI [(false,Sy.str)] (gv [aF true r y3]) λ(y8:iII)=>dS (Option (Nat×D)) (findD TypeDesc.string (Value.string y8) (List.map (a8 Sy.str true r) s2.2.1) 0) λy9 =>
    b7 Sy.str true r (dB (List.map (a8 Sy.str true r) s2.2.1) y9 (Value.string y8) (D.p (aF true r y3))) λy10=>X1 (i64.wrap (s2.1+1),y10,()))
   λ_ _=>b7 Sy.str true r (List.map (a8 Sy.str true r) s2.2.1) λy7=>X1 (i64.wrap (s2.1+1),y7,())) (EXIT s2)) (0,y0,())
variable {gv:List T->Option T}
def AOY {r:Sy} (hp:r.pure=true) (id:r.den->iII) (hv:∀ y,gv [aF true r y]=some (Sh.enc [(false,Sy.str)] (id y))) {l:List r.den} (hl:l.length<=10000) {EXIT:Int×List (iII×r.den)×PUnit->Prop}
  (hE:∀ i es,nP id l l.length es->EXIT (i,es,())):AJ6 r gv l EXIT:=by
 refine OV hp [] _ ?_;refine bI l.length (λk s=>s.1=(k:Int)/\nP id l k s.2.1) ⟨rfl,nP.zero id l⟩ ?_;rintro X k ⟨i,es,u⟩ hk ⟨rfl,hs⟩ hX;dsimp only at hs ⊢;rw[ad];refine bV (λhlt=>?_) λhge=>?_
 ·have hlt:k<l.length:=by omega
  rw[bC hlt];have hw:i64.wrap ((k:Int)+1)=((k+1:Nat):Int):=bD _ (by omega) (by omega);refine aH (s:=[(false,Sy.str)]) (y:=id l[k]) (hv _) ?_;refine XO (λhg=>?_) λj y hg=>?_
  ·refine aH (s:=[(false,Sy.str)]) (y:=id l[k]) (hv _) ?_;refine BPO hp hg ?_;exact hX _ hlt ⟨hw,hs.yes hlt hg⟩
  ·refine OV hp _ _ ?_;exact hX _ hlt ⟨hw,hs.no hlt hg⟩
 ·have:k=l.length:=by omega
  subst this;exact hE _ _ hs
abbrev A8M (r:Sy) (E:List (Value×D)) (EXIT:rL->Prop) (BODY:(rL->Prop)->rL->Nat->iII->r.den->Prop) (o:List iII):Prop :=
 a7 rL (λX s=>bH (decide (E.length<=s.2.1.1)&&decide (s.2.1.1<=s.2.1.2.2)) (j3 E.length s.2.1.2.1 (EXIT s) λi=>bH (decide (E.length=E.length)) (o7 .str true r E (s.2.1.2.1++[i]) λk v=>BODY X s i k v))) (o,(E.length,[],E.length),())
abbrev BCP (E:List (Value×D)) (X:rL->Prop) (s:rL) (i:Nat) (k:iII):Prop :=
 bH (decide (((List.map Sy.str.enc s.1).length+1)*16<=140737488355328)&&decide ((List.map Sy.str.enc s.1).length+1<=140737488355328)) (bZ Sy.str (List.map Sy.str.enc s.1++[[pPQ k]]) λy=>X (y,(s.2.1.1,s.2.1.2.1++[i],E.length),()))
abbrev BK7 (E:List (Value×D)) (X:rL->Prop) (s:rL) (i:Nat):Prop:=bZ Sy.str (List.map Sy.str.enc s.1) λy=>X (y,(s.2.1.1,s.2.1.2.1++[i],E.length),())
variable {E:List (Value×D)}{X:rL->Prop}{out:List iII}{seen:List Nat}
def A2L {n i:Nat} {k:iII} (h:out.length<=100000) (hX:X (out++[k],(n,seen++[i],E.length),())):BCP E X (out,(n,seen,n),()) i k:=by
 show bH _ (bZ _ _ _);dsimp only;rw[AJJ (by omega),OW];exact hX
def BHB {n i:Nat} (hX:X (out,(n,seen++[i],E.length),())):BK7 E X (out,(n,seen,n),()) i:=by
 show bZ _ _ _;dsimp only;rw[dW (r:=.str) rfl];exact hX
abbrev BC4 (r:Sy) (gv gw:List T->Option T) (a b:List r.den) (K:rL->Prop):Prop :=
 AJ6 r gv a λs2=>AJ6 r gv b λs13 =>
  A8M r (List.map (a8 Sy.str true r) s2.2.1)
   (λs23=>bZ Sy.str (List.map Sy.str.enc s23.1) λy24 =>
    A8M r (List.map (a8 Sy.str true r) s13.2.1) K
     (λX25 s26 i158 k159 _=>dJ TypeDesc.string (Value.string k159) (List.map (a8 Sy.str true r) s2.2.1) true r (BCP (List.map (a8 Sy.str true r) s13.2.1) X25 s26 i158 k159) λ_ _=>BK7 (List.map (a8 Sy.str true r) s13.2.1) X25 s26 i158) y24)
   (λX22 s23 i165 k166 y167=>dJ TypeDesc.string (Value.string k166) (List.map (a8 Sy.str true r) s13.2.1) true r (BCP (List.map (a8 Sy.str true r) s2.2.1) X22 s23 i165 k166)
    λ_ y169=>aI [(false,Sy.bool)] (gw [aF true r y167,aF true r y169]) λ(y170:Bool)=>aD (!y170) (BCP (List.map (a8 Sy.str true r) s2.2.1) X22 s23 i165 k166) (BK7 (List.map (a8 Sy.str true r) s2.2.1) X22 s23 i165)) []
def EX {r:Sy} (hp:r.pure=true) (id:r.den->iII) (same:r.den->r.den->Bool) {gw:List T->Option T} (hv:∀ y,gv [aF true r y]=some (Sh.enc [(false,Sy.str)] (id y))) (hw:∀ x y,gw [aF true r x,aF true r y]=some (Sh.enc pC (same x y)))
  {a b:List r.den} (ha:a.length<=10000) (hb:b.length<=10000) {K:rL->Prop}
  (hK:∀ o n seen,(∀ s,s∈o↔dif same (a.find? λx=>decide (id x=s)) (b.find? λx=>decide (id x=s))=true)->o.length<=20000->K (o,(n,seen,n),())):BC4 r gv gw a b K:=by
 refine AOY hp id hv ha λ_ P hP=>?_;refine AOY hp id hv hb λ_ Q hQ=>?_;have lP:=hP.2.2;have lQ:=hQ.2.2;refine AP8 rfl (AJ0 same Q) (λX out seen i hi h1 h2 hy hn=>?_) λo1 seen1 hm1 hl1=>?_
 ·have h1:out.length<=0+seen.length:=h1;have h2:seen.length<P.length:=h2;refine XO (λhg=>?_) λj y hg=>?_
  ·exact A2L (by omega) (hy (by unfold AJ0;rw[hg]))
  ·refine aH (s:=pC) (y:=same P[i].2 y) (hw _ _) ?_;refine jI (λhs=>?_) λhs=>?_
   ·exact A2L (by omega) (hy (by unfold AJ0;rw[hg];simp[hs]))
   ·exact BHB (hn (by unfold AJ0;rw[hg];simp[hs]))
 ·show bZ _ _ _;dsimp only;rw[dW (r:=.str) rfl,List.nil_append];refine AP8 rfl (ATI P) (λX out seen i hi h1 h2 hy hn=>?_) λo2 seen2 hm2 hl2=>?_
  ·have h2:seen.length<Q.length:=h2;have hl1:o1.length<=P.length:=hl1;refine XO (λhg=>?_) λj y hg=>?_
   ·exact A2L (by omega) (hy (by unfold ATI;rw[hg];rfl))
   ·exact BHB (hn (by unfold ATI;rw[hg];rfl))
  ·have hl1:o1.length<=P.length:=hl1;have hl2:o2.length<=Q.length:=hl2;exact hK _ _ _ (λs=>BC3 hP hQ hm1 hm2 s) (by rw[List.length_append];omega)
def A76 (d:aB):Bool:=decide ((IT d).length<=10000)
def APX {d:aB} (h:A76 d=true):d.2.1.length<=10000/\d.2.2.1.length<=10000/\d.2.2.2.1.length<=10000/\d.2.2.2.2.1.length<=10000/\(IT d).length<=10000:=by
 have h:=of_decide_eq_true h;have h':=h;unfold IT at h;simp only[List.length_append,ad] at h;exact ⟨by omega,by omega,by omega,by omega,h'⟩
noncomputable def sL (x:aB×aB):Option T:=match A76 x.1&&A76 x.2 with
 | true=>some (T.sl false (List.map Sy.str.enc (j1 x.1 x.2)))
 | false=>none
noncomputable def qU:List T->Option T:=gS D6 sL
def SU {a0 a1}:qU [aF true aC a0,aF true aC a1]=sL (a0,a1):=bA (s:=D6) rfl (a0,a1) rfl
def AFT:qN Tryz.prog 19 qU sL (bY D6) C6:=gL (a1:=(true,aC)) (a2:=(true,aC)) (Hs:=AI6) (k:=12) V4 aR aU (aL rfl) ⟨_,_,Tryz.func19,rfl⟩ rfl λ_ _ _=>by kernel_rfl
def ACW:aM Tryz.prog 19 qU:=AFT λa b r h hb=>by
 clear hb;obtain ⟨hc,rfl⟩:=L3 h;clear h;rw[ac] at hc;obtain ⟨a1,a2,a3,a4,_⟩:=APX hc.1;obtain ⟨b1,b2,b3,b4,_⟩:=APX hc.2;unfold C6 BU4 BU1 BVO BUN BUS BUO BUK BUX BUH BUG BUM BUE BT9 BT4 BT0;refine EX (r:=aS) (gv:=vY) (gw:=IP) (a:=a.2.1) (b:=b.2.1) rfl (λx=>x.1) mB (λ_=>AU5) (λ_ _=>AU9) a1 b1 λo1 _ _ m1 l1=>?_;refine EX (r:=aJ) (gv:=vZ) (gw:=j6) (a:=a.2.2.1) (b:=b.2.2.1) rfl (λx=>x.1) mB (λ_=>AU6) (λ_ _=>CQ) a2 b2 λo2 _ _ m2 l2=>?_;have sz:∀ {x y:List (List T)},x.length<=80000->y.length<=20000->(decide ((x.length+y.length)*16<=140737488355328)&&decide (x.length+y.length<=140737488355328))=true:=λh1 h2=>by
  rw[ac];exact ⟨ah (by omega),ah (by omega)⟩
 have rq:∀ {x:List (List T)} {l:List iII},x.length<=80000->l.length<=20000->(eP 1 (List.map Sy.str.enc l)&&decide ((x.length+(List.map Sy.str.enc l).length)*16<=140737488355328)&&decide (x.length+(List.map Sy.str.enc l).length<=140737488355328))=true:=λ{x l} h1 h2=>by
  rw[N9,Bool.true_and];exact sz h1 (by rw[ad];exact h2)
 refine ⟨rq (x:=List.map Sy.str.enc o1) (by rw[ad];omega) l2,?_⟩;refine EX (r:=aV) (gv:=v7) (gw:=IQ) (a:=a.2.2.2.1) (b:=b.2.2.2.1) rfl (λx=>x.1) mB (λ_=>AU7) (λ_ _=>AVA) a3 b3 λo3 _ _ m3 l3=>?_;refine ⟨rq (x:=List.map Sy.str.enc o1++List.map Sy.str.enc o2) (by rw[List.length_append,ad,ad];omega) l3,?_⟩;refine EX (r:=aE) (gv:=vX) (gw:=IM) (a:=a.2.2.2.2.1) (b:=b.2.2.2.2.1) rfl (λx=>x.1) mB (λ_=>AU4) (λ_ _=>AU8) a4 b4 λo4 _ _ m4 l4=>?_;refine ⟨rq (x:=List.map Sy.str.enc o1++List.map Sy.str.enc o2++List.map Sy.str.enc o3) (by rw[List.length_append,List.length_append,ad,ad,ad];omega) l4,?_⟩;have hm:∀ s,s∈o1++o2++o3++o4↔LF a b s=true:=λs=>by
  rw[List.mem_append,List.mem_append,List.mem_append,m1,m2,m3,m4];unfold LF;rw[Bool.or_eq_true,Bool.or_eq_true,Bool.or_eq_true];rfl
 have hr:List.map Sy.str.enc o1++List.map Sy.str.enc o2++List.map Sy.str.enc o3++List.map Sy.str.enc o4=List.map Sy.str.enc (o1++o2++o3++o4):=by rw[List.map_append,List.map_append,List.map_append]
 show dS (List (List T)) (FV (List.map Sy.str.enc o1++List.map Sy.str.enc o2++List.map Sy.str.enc o3++List.map Sy.str.enc o4)) _;rw[hr,ALC,UD];show T.sl false (List.map Sy.str.enc (OJ (o1++o2++o3++o4)))=_;rw[ACD hm]
end Go.Pv
namespace Go.Pv
open Go Go.Proofs IntKind
section
variable {α : Type} {af : α -> α -> Bool} {p q : α -> Bool} {f g : α -> α} {l : List α} {x y z : α}
def BJE (h:p z=true):gE p (z::l)=l:=by
 unfold gE;rw[List.findIdx_cons,h];rfl
def BJD (h:p z=false):gE p (z::l)=z::gE p l:=by
 unfold gE;rw[List.findIdx_cons,h];rfl
def BG2 (h:p z=true):OL p f (z::l)=f z::l:=by
 unfold OL;rw[List.findIdx_cons,h];rfl
def BG1 (h:p z=false):OL p f (z::l)=z::OL p f l:=by
 unfold OL;rw[List.findIdx_cons,h];rfl
structure Ord (af:α->α->Bool):Prop where
 trans:∀ {a b c},af c b=true->af b a=true->af c a=true
 irr:∀ a,af a a=false
end
end Go.Pv
namespace Go.Pv
open Go Go.Proofs IntKind
def opN (x:aZ) (l:List cH):List cH:=if x.1=1 then j9 eX l (r5 x) else if x.1=2 then gE (cR (fT x)) l else l
def opP (x:aZ) (l:List bB):List bB:=if x.1=3 then j9 eX l (cN x) else if x.1=4 then gE (cR (fT x)) l else if x.1=5 then OL (cR (cN x).1) (AMP (cN x)) l else if x.1=6 then OL (cR (fT x)) (λp=>ALW p (eTo x)) l else l
def opS (x:aZ) (l:List cJ):List cJ:=if x.1=7 then j9 eX l (r6 x) else if x.1=8 then gE (cR (fT x)) l else l
def opK (x:aZ) (l:List aT):List aT:=if x.1=9 then j9 eX l (fF x) else if x.1=10 then gE (cR (fT x)) l else l
def opR (x:aZ) (l:List cQ):List cQ:=if x.1=11 then j9 DD l (nN x) else if x.1=12 then gE (λn=>decide (n=nN x)) l else l
def XI {d:aB} {x:aZ} (h:1<=x.1/\x.1<=12):r4 d x=(d.1,opN x d.2.1,opP x d.2.2.1,opS x d.2.2.2.1,opK x d.2.2.2.2.1,opR x d.2.2.2.2.2):=by
 have:x.1=1\/x.1=2\/x.1=3\/x.1=4\/x.1=5\/x.1=6\/x.1=7\/x.1=8\/x.1=9\/x.1=10\/x.1=11\/x.1=12:=by omega
 rcases this with h|h|h|h|h|h|h|h|h|h|h|h<;>simp[r4,opN,opP,opS,opK,opR,h]
variable {m:aG}
def H4 {d:aB} (hc:iF d m=0):jV d=true:=by
 have hf:oK d=0:=by
  unfold iF at hc;split at hc
  ·exact absurd hc ‹_›
  split at hc
  ·cases hc
  split at hc
  ·exact absurd hc ‹_›
  rename_i h3;exact Classical.byContradiction h3
 unfold oK at hf;split at hf
 ·cases hf
 split at hf
 ·cases hf
 rename_i h2;simpa using h2
variable {α:Type}
def AS1 {l:List (iII×α)} (h:pZ (ids l)=true):l.Pairwise (λa b=>eX b a=true):=by
 have:=OK h;unfold ids at this;rw[List.pairwise_map] at this;exact this.imp λh=>(nE ..).2 h
section
variable {α : Type} {l : List (iII × α)}
end
structure BQY (d:aB) (m:aG) (x y:aZ):Prop where
 a:EK d m x
 b:EK d m y
 c:EK (r4 d x) m y
 e:EK (r4 d y) m x
section
variable {d : aB} {m : aG} {x y : aZ}
def QS (h:EK d m x):jV (r4 d x)=true:=H4 h.chk
def tId (x:aZ):iII:=if x.1=5 then (cN x).1 else fT x
def tF (x:aZ) (p:bB):bB:=if x.1=5 then AMP (cN x) p else ALW p (eTo x)
def turns (x:aZ):Prop:=x.1=5\/x.1=6
def A79 (h:turns x) (l:List bB):opP x l=OL (cR (tId x)) (tF x) l:=by
 rcases h with h|h
 ·have e:tF x=AMP (cN x):=by funext p;unfold tF;rw[if_pos h]
  unfold opP tId;rw[e,if_neg (by omega),if_neg (by omega),if_pos h,if_pos h]
 ·have e:tF x=λp=>ALW p (eTo x):=by funext p;unfold tF;rw[if_neg (by omega)]
  unfold opP tId;rw[e,if_neg (by omega),if_neg (by omega),if_neg (by omega),if_pos h,if_neg (by omega)]
def BHP {a:bB} (ha:cR (tId x) a=true):(tF x a).1=a.1:=by
 have ha:a.1=tId x:=of_decide_eq_true ha;unfold tF;unfold tId at ha;split
 ·rename_i h;rw[if_pos h] at ha;exact ha.symm
 ·rfl
def BO3 (hd:EK d m x):(r4 d x).2.2.1=opP x d.2.2.1:=by rw[XI hd.kind]
def BF1 (hc:iF d m=0) {p:bB} (hp:p∈d.2.2.1):pT p.1=true:=by
 have h1:kG d m=0:=by
  unfold iF at hc;split at hc
  ·exact absurd hc ‹_›
  split at hc
  ·cases hc
  split at hc
  ·exact absurd hc ‹_›
  split at hc
  ·exact absurd hc ‹_›
  split at hc
  ·exact absurd hc ‹_›
  rename_i h;exact Classical.byContradiction h
 have h2:cF (iM d m) d.2.2.1=0:=by
  unfold kG at h1;split at h1
  ·assumption
  ·exact h1
 have h3:=j4 h2 p hp;have h4:pH p m=0:=by
  unfold iM at h3;split at h3
  ·assumption
  ·exact h3
 unfold pH at h4;split at h4
 ·cases h4
 rename_i h;rw[not_or] at h;simpa using h.1
end
end Go.Pv
namespace Go.Pv
open Go Go.Proofs IntKind
def A7E {l:List iII} {s:iII} (h:s∈l) (hn:s≠⟨#[]⟩):s∈mK l:=by
 have h1:toL s∈(mK l).map toL:=(AVZ l (toL s)).2 ⟨List.mem_map.2 ⟨s,h,rfl⟩,λe=>hn (by rw[<-sG s,e];rfl)⟩;obtain ⟨t,ht,e⟩:=List.mem_map.1 h1;rw[<-sG s,<-e,sG];exact ht
def AXM {x:aZ} (h:turns x):tId x∈cK x:=by
 rcases h with h|h
 ·unfold tId cK;rw[if_pos h,if_neg (by omega),if_neg (by omega),if_pos (by omega)];exact al
 ·have e1:tId x=fT x:=by unfold tId;rw[if_neg (by omega)]
  have e2:cK x=[x.2.1,x.2.2.1]:=by
   unfold cK;rw[if_neg (by omega),if_neg (by omega),if_neg (by omega),if_pos h]
  rw[e1,e2];exact al
end Go.Pv
namespace Go.Pv
open Go Go.Proofs IntKind
section
variable {α : Type} {l : List (iII × α)} {id j : iII}
def ATU {a:iII×α} (h:a.1≠id):(j9 eX l a).find? (λs=>decide (s.1=id))=l.find? λs=>decide (s.1=id):=by
 unfold j9;rw[List.find?_append,List.find?_cons_of_neg (by simpa using h),<-List.find?_append,List.take_append_drop]
def TS (h:j≠id):∀ l:List (iII×α),(gE (cR j) l).find? (λs=>decide (s.1=id))=l.find? λs=>decide (s.1=id)
 | []=>rfl
 | z::l=>by
  cases hz:cR j z with
  | true =>
   have e:z.1=j:=of_decide_eq_true hz;rw[BJE hz,List.find?_cons_of_neg (by rw[e];simpa using h)]
  | false =>
   rw[BJD hz,List.find?_cons,List.find?_cons,TS h l]
def ACU {f:iII×α->iII×α} (hf:∀ a,cR j a=true->(f a).1=a.1) (h:j≠id):∀ l:List (iII×α),(OL (cR j) f l).find? (λs=>decide (s.1=id))=l.find? λs=>decide (s.1=id)
 | []=>rfl
 | z::l=>by
  cases hz:cR j z with
  | true =>
   have e:z.1=j:=of_decide_eq_true hz;rw[BG2 hz,List.find?_cons_of_neg (by rw[hf z hz,e];simpa using h),List.find?_cons_of_neg (by rw[e];simpa using h)]
  | false =>
   rw[BG1 hz,List.find?_cons,List.find?_cons,ACU hf h l]
end
section
variable {d : aB} {m : aG} {x : aZ} {id : iII}
def BES (h:x.1=3):(cN x).1∈cK x:=by
 unfold cK;rw[if_neg (by omega),if_neg (by omega),if_pos (.inl h)];exact al
end
variable {m : aG} {id : iII}
def BLG {l:List aZ} (h:id∉LP l) (hn:id≠⟨#[]⟩):∀ x∈l,id∉cK x:=λx hx hc=>h (AGT.2 ⟨x,hx,A7E hc hn⟩)
end Go.Pv
namespace Go.Pv
open Go Go.Proofs IntKind
structure Val (d:aB) (m:aG):Prop where
 order:jV d=true
 nodes:∀ n∈d.2.1,pF d n=0
 up:A7C d=false
 parts:∀ p∈d.2.2.1,iM d m p=0
 BP0:∀ s∈d.2.2.2.1,rE d s=0
 BPU:(kP d d.2.2.2.2.1 0 [] []).1=0
 BQV:∀ n∈d.2.2.2.2.2,zQ d n=0
variable {m:aG}
def BM6 {d:aB} (hc:iF d m=0):Val d m:=by
 have ho:=H4 hc;unfold iF at hc;split at hc
 ·exact absurd hc ‹_›
 split at hc
 ·cases hc
 split at hc
 ·exact absurd hc ‹_›
 split at hc
 ·exact absurd hc ‹_›
 rename_i h4;split at hc
 ·exact absurd hc ‹_›
 rename_i h5;split at hc
 ·exact absurd hc ‹_›
 rename_i h6;split at hc
 ·exact absurd hc ‹_›
 rename_i h7;have h4:kD d=0:=Classical.byContradiction h4;have h5:kG d m=0:=Classical.byContradiction h5;have h6:cF (rE d) d.2.2.2.1=0:=Classical.byContradiction h6;have h7:iL d=0:=Classical.byContradiction h7;have n1:cF (pF d) d.2.1=0/\A7C d=false:=by
  unfold kD at h4;split at h4
  ·rename_i g;refine ⟨g,?_⟩;split at h4
   ·cases h4
   ·rename_i g2;simpa using g2
  ·rename_i g;exact absurd h4 g
 have p1:cF (iM d m) d.2.2.1=0:=by
  unfold kG at h5;split at h5
  ·assumption
  ·exact h5
 have k1:(kP d d.2.2.2.2.1 0 [] []).1=0:=by
  unfold iL at h7;split at h7
  ·assumption
  ·exact h7
 exact ⟨ho,j4 n1.1,n1.2,j4 p1,j4 h6,k1,j4 hc⟩
def BEY {d:aB} {n:cH} (h:pF d n=0):pT n.1=true/\((n.2.1=1/\n.2.2=⟨#[]⟩)\/(¬ n.2.1=1/\(eV d n.2.2).isSome=true)):=by
 unfold pF at h;split at h
 ·cases h
 rename_i h1;split at h
 ·cases h
 rename_i h2;split at h
 ·cases h
 rename_i h3;split at h
 ·cases h
 rename_i h4;refine ⟨by simpa using h1,?_⟩;by_cases hk:n.2.1=1
 ·exact .inl ⟨hk,Classical.byContradiction λg=>h3 ⟨hk,g⟩⟩
 ·have hk2:n.2.1=2:=Classical.byContradiction λg=>h2 ⟨hk,g⟩;refine .inr ⟨hk,?_⟩;cases hn:eV d n.2.2 with
  | none=>exact absurd ⟨hk2,by rw[hn];rfl⟩ h4
  | some _=>rfl
section
variable {d : aB} {m : aG} {x : aZ}
def APB {s:iII} (h:pT s=true):s≠⟨#[]⟩:=λe=>by rw[e] at h;exact absurd h (by decide)
variable {α:Type}
def ALZ {l:List (iII×α)} (ho:pZ (ids l)=true) {a:iII×α} (ha:a∈l):l.find? (λs=>decide (s.1=a.1))=some a:=by
 have hpw:=AS1 ho;cases hf:l.find? λs=>decide (s.1=a.1) with
 | none=>exact absurd (ah rfl) (List.find?_eq_none.1 hf a ha)
 | some b =>
  have hb:=List.mem_of_find?_eq_some hf;have he:b.1=a.1:=by simpa using List.find?_some hf
  refine congrArg some ?_;obtain ⟨i,hi,rfl⟩:=List.mem_iff_getElem.1 ha;obtain ⟨j,hj,rfl⟩:=List.mem_iff_getElem.1 hb;have hs:∀ p q (hp:p<l.length) (hq:q<l.length),p<q->l[p].1≠l[q].1:=λp q hp hq hpq e=>by
   have h1:=List.pairwise_iff_getElem.1 hpw p q hp hq hpq;unfold eX gtS at h1;rw[e,JT] at h1;cases h1
  rcases Nat.lt_trichotomy i j with g|g|g
  ·exact absurd he.symm (hs i j hi hj g)
  ·subst g;rfl
  ·exact absurd he (hs j i hj hi g)
end
end Go.Pv
namespace Go.Pv
open Go Go.Proofs IntKind
section
variable {α : Type}
variable {β:Type}
def BEZ {o:Option β} (h:o.isSome=false):o=none:=by
 cases o with
 | none=>rfl
 | some _=>cases h
def AOX {j:iII} {f:iII×α->iII×α} (hf:∀ a,cR j a=true->(f a).1=a.1):∀ l:List (iII×α),(OL (cR j) f l).find? (λs=>decide (s.1=j))=(l.find? λs=>decide (s.1=j)).map f
 | []=>rfl
 | z::l=>by
  cases hz:cR j z with
  | true =>
   have e:z.1=j:=of_decide_eq_true hz;rw[BG2 hz,List.find?_cons_of_pos (p:=λs:iII×α=>decide (s.1=j)) (by rw[hf z hz,e];exact ah rfl),List.find?_cons_of_pos (p:=λs:iII×α=>decide (s.1=j)) (ah e)];rfl
  | false =>
   have e:¬ z.1=j:=of_decide_eq_false hz;rw[BG1 hz,List.find?_cons_of_neg (by simpa using e),List.find?_cons_of_neg (by simpa using e),AOX hf l]
def lv (ki kd:Int) (x:aZ) (a:iII×α) (i:iII) (o:Option (iII×α)):Option (iII×α):=if x.1=ki/\a.1=i then some a else if x.1=kd/\fT x=i then none else o
def BPB {l:List (iII×α)} {a:iII×α} (h:pZ (ids (j9 eX l a))=true):(j9 eX l a).find? (λs=>decide (s.1=a.1))=some a:=ALZ h (P6.2 (.inl rfl))
variable {ki kd:Int}
def APL {x:aZ} {a:iII×α} {i:iII} (h1:x.1=ki->a.1∈cK x) (h2:x.1=kd->fT x∈cK x) (hn:i∉cK x) (o:Option (iII×α)):lv ki kd x a i o=o:=by
 unfold lv;rw[if_neg (λh:x.1=ki/\a.1=i=>hn (h.2 ▸ h1 h.1)),if_neg (λh:x.1=kd/\fT x=i=>hn (h.2 ▸ h2 h.1))]
def YR {x:aZ} (hne:ki≠kd) {l op:List (iII×α)} {a:iII×α} {i:iII} (ho:pZ (ids l)=true) (ho2:pZ (ids op)=true) (he:op=if x.1=ki then j9 eX l a else if x.1=kd then gE (cR (fT x)) l else l):op.find? (λs=>decide (s.1=i))=lv ki kd x a i (l.find? λs=>decide (s.1=i)):=by
 unfold lv;by_cases h1:x.1=ki
 ·rw[if_pos h1] at he;subst he;by_cases e:a.1=i
  ·rw[if_pos ⟨h1,e⟩,<-e];exact BPB ho2
  ·rw[if_neg (λh=>e h.2),if_neg (λh=>hne (h1.symm.trans h.1))];exact ATU e
 rw[if_neg h1] at he;rw[if_neg (λh=>h1 h.1)];by_cases h2:x.1=kd
 ·rw[if_pos h2] at he;subst he;by_cases e:fT x=i
  ·rw[if_pos ⟨h2,e⟩,<-e];exact BEZ (A30 (TK ho))
  ·rw[if_neg (λh=>e h.2)];exact TS e _
 rw[if_neg h2] at he;rw[if_neg (λh=>h2 h.1),he]
end
section
variable {d : aB} {m : aG} {x : aZ} {i : iII}
def sH (h:jV d=true):pZ (ids d.2.1)=true/\pZ (ids d.2.2.1)=true/\pZ (ids d.2.2.2.1)=true/\pZ (ids d.2.2.2.2.1)=true/\AB5 d.2.2.2.2.2=true:=by
 simp only[jV,ac] at h;exact ⟨h.1.1.1.1,h.1.1.1.2,h.1.1.2,h.1.2,h.2⟩
def A7D (ho:jV d=true) (hd:EK d m x):eV (r4 d x) i=lv 1 2 x (r5 x) i (eV d i):=by
 unfold eV;exact YR (by decide) (sH ho).1 (sH (QS hd)).1 (by rw[XI hd.kind];rfl)
def A9Q (ho:jV d=true) (hd:EK d m x):oA (r4 d x) i=lv 7 8 x (r6 x) i (oA d i):=by
 unfold oA;exact YR (by decide) (sH ho).2.2.1 (sH (QS hd)).2.2.1 (by rw[XI hd.kind];rfl)
def A8A (ho:jV d=true) (hd:EK d m x):iB (r4 d x) i=lv 9 10 x (fF x) i (iB d i):=by
 unfold iB;exact YR (by decide) (sH ho).2.2.2.1 (sH (QS hd)).2.2.2.1 (by rw[XI hd.kind];rfl)
def pv (x:aZ) (i:iII) (o:Option bB):Option bB:=if (x.1=5\/x.1=6)/\tId x=i then o.map (tF x) else lv 3 4 x (cN x) i o
def A8F (ho:jV d=true) (hd:EK d m x):partOf (r4 d x) i=pv x i (partOf d i):=by
 unfold partOf pv;by_cases ht:turns x
 ·rw[BO3 hd,A79 ht];by_cases e:tId x=i
  ·rw[if_pos ⟨ht,e⟩,<-e];exact AOX (λa ha=>BHP ha) _
  ·rw[if_neg (λh=>e h.2),ACU (λa ha=>BHP ha) e];unfold lv;unfold turns at ht;rw[if_neg (λh=>by omega),if_neg (λh=>by omega)]
 ·rw[if_neg (λh=>ht h.1)];unfold turns at ht;refine YR (by decide) (sH ho).2.1 (sH (QS hd)).2.1 ?_;rw[BO3 hd];unfold opP;rw[if_neg (c:=x.1=5) (λh=>ht (.inl h)),if_neg (c:=x.1=6) (λh=>ht (.inr h))]
def BER (h:x.1=1):(r5 x).1∈cK x:=by
 unfold cK;rw[if_pos h];exact al
def L2 (h:x.1=2\/x.1=4\/x.1=8\/x.1=10):fT x∈cK x:=by
 unfold cK;rw[if_neg (by omega),if_pos h];exact al
def BET (h:x.1=7):(r6 x).1∈cK x:=by
 unfold cK;rw[if_neg (by omega),if_neg (by omega),if_neg (by omega),if_neg (by omega),if_pos h];exact al
def BEU (h:x.1=9):(fF x).1∈cK x:=by
 unfold cK;rw[if_neg (by omega),if_neg (by omega),if_neg (by omega),if_neg (by omega),if_neg (by omega),if_pos h];exact al
def BPV (hn:i∉cK x) (o:Option bB):pv x i o=o:=by
 unfold pv;rw[if_neg (λh:(x.1=5\/x.1=6)/\tId x=i=>hn (h.2 ▸ AXM h.1))];exact APL BES (λh=>L2 (.inr (.inl h))) hn o
end
section
variable {m : aG} {a b : List aZ} {d : aB}
def AQH {β:Type} {view:aB->β} {f:aZ->β->β} (hf:∀ d x,jV d=true->EK d m x->view (r4 d x)=f x (view d)):∀ {l:List aZ} {d:aB},jV d=true->(dH m d l).2=0->view (dH m d l).1=l.foldl (λo x=>f x o) (view d)
 | [],d,_,_=>rfl
 | x::l,d,ho,h=>by
  obtain ⟨hd,e⟩:=KF h;rw[e] at h ⊢;rw[AQH hf (QS hd) h,hf d x ho hd];rfl
def AO8 {β:Type} {f:aZ->β->β}:∀ {l:List aZ} {o:β},(∀ x∈l,∀ o,f x o=o)->l.foldl (λo x=>f x o) o=o
 | [],o,_=>rfl
 | x::l,o,h=>by
  rw[List.foldl_cons,h x al];exact AO8 λy hy=>h y (List.mem_cons_of_mem _ hy)
structure BQX (m:aG) (d:aB) (a b:List aZ):Prop where
 chk:iF d m=0
 a1:(dH m d a).2=0
 b1:(dH m d b).2=0
 a2:(dH m (dH m d a).1 b).2=0
 b2:(dH m (dH m d b).1 a).2=0
 apart:∀ s,s∈LP a->s∉LP b
def A85:∀ {l:List aT} {i:Int} {E:List aO} {S:List iII},(kP d l i E S).1=0->∀ k∈l,pT k.1=true
 | [],_,_,_,_,k,hk=>by cases hk
 | c::l,i,E,S,h,k,hk=>by
  unfold kP at h;split at h
  ·rename_i g;exact absurd h g
  rename_i g1;split at h
  ·rename_i g;exact absurd h g
  split at h
  ·rename_i g;exact absurd h g
  rcases List.mem_cons.1 hk with rfl|hk
  ·have g1:uS d k=0:=Classical.byContradiction g1;unfold uS at g1;split at g1
   ·cases g1
   ·rename_i g;simpa using g
  ·exact A85 h k hk
def BF6 {s:cJ} (h:rE d s=0):pT s.1=true:=by
 unfold rE at h;split at h
 ·cases h
 ·rename_i g;rw[not_or] at g;simpa using g.1
def YI (hc:iF d m=0) {i:iII} (h:i∈ids d.2.1\/i∈ids d.2.2.1\/i∈ids d.2.2.2.1\/i∈ids d.2.2.2.2.1):i≠⟨#[]⟩:=by
 have V:=BM6 hc;rcases h with h|h|h|h
 ·obtain ⟨n,hn,rfl⟩:=List.mem_map.1 h;exact APB (BEY (V.nodes n hn)).1
 ·obtain ⟨n,hn,rfl⟩:=List.mem_map.1 h;exact APB (BF1 hc hn)
 ·obtain ⟨n,hn,rfl⟩:=List.mem_map.1 h;exact APB (BF6 (V.BP0 n hn))
 ·obtain ⟨n,hn,rfl⟩:=List.mem_map.1 h;exact APB (A85 V.BPU n hn)
end
end Go.Pv
namespace Go.Pv
open Go Go.Proofs IntKind
section
variable {m : aG}
def TQ {a b:aB} {s:iII} (h1:eV a s=eV b s) (h2:partOf a s=partOf b s) (h3:oA a s=oA b s) (h4:iB a s=iB b s):LF a b s=false:=by
 have e:=ATJ b s;unfold LF at e ⊢;rw[h1,h2,h3,h4];exact e
variable {β:Type}
def GQ {l:List aZ} {d:aB} (hc:iF d m=0) (h:(dH m d l).2=0) {view:aB->β} {f:aZ->β->β} (hf:∀ d x,jV d=true->EK d m x->view (r4 d x)=f x (view d)) (hn:∀ x∈l,∀ o,f x o=o):view (dH m d l).1=view d:=by
 rw[AQH hf (H4 hc) h,AO8 hn]
variable {α:Type}
def E5 {l:List (iII×α)} (h:∀ i∈ids l,i≠⟨#[]⟩):l.find? (λs=>decide (s.1=⟨#[]⟩))=none:=by
 refine List.find?_eq_none.2 λa ha hc=>?_;exact h a.1 (List.mem_map.2 ⟨a,ha,rfl⟩) (of_decide_eq_true hc)
def ATK {l:List aZ} {d:aB} (hc:iF d m=0) (h:(dH m d l).2=0) {s:iII} (hs:LF d (dH m d l).1 s=true):s∈LP l:=by
 refine Classical.byContradiction λhn=>?_;have hc2:=OG hc h;have key:LF d (dH m d l).1 s=false:=by
  by_cases e:s=⟨#[]⟩
  ·subst e;have z:∀ {q:aB},iF q m=0->eV q ⟨#[]⟩=none/\partOf q ⟨#[]⟩=none/\oA q ⟨#[]⟩=none/\iB q ⟨#[]⟩=none:=λ{q} hq =>
    ⟨E5 λi hi=>YI hq (.inl hi),E5 λi hi=>YI hq (.inr (.inl hi)),E5 λi hi=>YI hq (.inr (.inr (.inl hi))),E5 λi hi=>YI hq (.inr (.inr (.inr hi)))⟩
   obtain ⟨a1,a2,a3,a4⟩:=z hc;obtain ⟨b1,b2,b3,b4⟩:=z hc2;exact TQ (a1.trans b1.symm) (a2.trans b2.symm) (a3.trans b3.symm) (a4.trans b4.symm)
  ·have nn:=BLG hn e;refine TQ ?_ ?_ ?_ ?_
   ·exact (GQ hc h (view:=λd=>eV d s) (f:=λx o=>lv 1 2 x (r5 x) s o) (λd x ho hd=>A7D ho hd) λx hx o=>APL BER (λh=>L2 (.inl h)) (nn x hx) o).symm
   ·exact (GQ hc h (view:=λd=>partOf d s) (f:=λx o=>pv x s o) (λd x ho hd=>A8F ho hd) λx hx o=>BPV (nn x hx) o).symm
   ·exact (GQ hc h (view:=λd=>oA d s) (f:=λx o=>lv 7 8 x (r6 x) s o) (λd x ho hd=>A9Q ho hd) λx hx o=>APL BET (λh=>L2 (.inr (.inr (.inl h)))) (nn x hx) o).symm
   ·exact (GQ hc h (view:=λd=>iB d s) (f:=λx o=>lv 9 10 x (fF x) s o) (λd x ho hd=>A8A ho hd) λx hx o=>APL BEU (λh=>L2 (.inr (.inr (.inr h)))) (nn x hx) o).symm
 rw[key] at hs;cases hs
def SP {o:bK} {d:aB} (h:(jZ d m o).2=0) {s:iII} (hs:s∈j1 d (jZ d m o).1):s∈LP o.2:=by
 obtain ⟨hc,e⟩:=XD h;rw[e] at h hs;unfold j1 at hs;rw[EP,List.mem_filter] at hs;exact ATK hc h hs.2
end
end Go.Pv
namespace Go.Pv
open Go Go.Proofs IntKind
def ACZ:fE Tryz.prog 65 (oL 4 40):=jN aR aU ⟨_,_,Tryz.func65,rfl⟩ ⟨λR=>by kernel_rfl,λfl R=>by kernel_rfl,λfl a rows R=>by kernel_rfl⟩
def ACX:fE Tryz.prog 68 (oL 1 8):=jN aR aU ⟨_,_,Tryz.func68,rfl⟩ ⟨λR=>by kernel_rfl,λfl R=>by kernel_rfl,λfl a rows R=>by kernel_rfl⟩
def TV:fE Tryz.prog 69 (oL 3 40):=jN aR aU ⟨_,_,Tryz.func69,rfl⟩ ⟨λR=>by kernel_rfl,λfl R=>by kernel_rfl,λfl a rows R=>by kernel_rfl⟩
def TY:fE Tryz.prog 70 (oL 6 72):=jN aR aU ⟨_,_,Tryz.func70,rfl⟩ ⟨λR=>by kernel_rfl,λfl R=>by kernel_rfl,λfl a rows R=>by kernel_rfl⟩
def TU:fE Tryz.prog 71 (oL 3 40):=jN aR aU ⟨_,_,Tryz.func71,rfl⟩ ⟨λR=>by kernel_rfl,λfl R=>by kernel_rfl,λfl a rows R=>by kernel_rfl⟩
def AO0:fE Tryz.prog 111 (oL 2 16):=jN aR aU ⟨_,_,Tryz.func111,rfl⟩ ⟨λR=>by kernel_rfl,λfl R=>by kernel_rfl,λfl a rows R=>by kernel_rfl⟩
def ACY:fE Tryz.prog 157 (oL 1 24):=jN aR aU ⟨_,_,Tryz.func157,rfl⟩ ⟨λR=>by kernel_rfl,λfl R=>by kernel_rfl,λfl a rows R=>by kernel_rfl⟩
def TX:fE Tryz.prog 158 (oL 18 208):=jN aR aU ⟨_,_,Tryz.func158,rfl⟩ ⟨λR=>by kernel_rfl,λfl R=>by kernel_rfl,λfl a rows R=>by kernel_rfl⟩
def TW:fE Tryz.prog 159 (oL 5 88):=jN aR aU ⟨_,_,Tryz.func159,rfl⟩ ⟨λR=>by kernel_rfl,λfl R=>by kernel_rfl,λfl a rows R=>by kernel_rfl⟩
def AC0:fE Tryz.prog 113 (oL 1 16):=jN aR aU ⟨_,_,Tryz.func113,rfl⟩ ⟨λR=>by kernel_rfl,λfl R=>by kernel_rfl,λfl a rows R=>by kernel_rfl⟩
def APA:FuncId->Bool:=λf=>[135,58,105,120,230,237].contains f
noncomputable def A6N:Env:=Env.of [(116,.pure sY),(65,.fresh (oL 4 40)),(68,.fresh (oL 1 8)),(69,.fresh (oL 3 40)),(70,.fresh (oL 6 72)),(71,.fresh (oL 3 40)),(111,.fresh (oL 2 16)),(157,.fresh (oL 1 24)),(158,.fresh (oL 18 208)),(159,.fresh (oL 5 88)),(113,.fresh (oL 1 16)),(5000000000+28,.mark)]
def AVO:aQ Tryz.prog A6N:=aQ.cons (x:=.pure sY) xU (aQ.cons (x:=.fresh (oL 4 40)) ACZ (aQ.cons (x:=.fresh (oL 1 8)) ACX (aQ.cons (x:=.fresh (oL 3 40)) TV (aQ.cons (x:=.fresh (oL 6 72)) TY (aQ.cons (x:=.fresh (oL 3 40)) TU (aQ.cons (x:=.fresh (oL 2 16)) AO0 (aQ.cons (x:=.fresh (oL 1 24)) ACY (aQ.cons (x:=.fresh (oL 18 208)) TX (aQ.cons (x:=.fresh (oL 5 88)) TW (aQ.cons (x:=.fresh (oL 1 16)) AC0 (aQ.cons (x:=.mark) trivial (aQ.nil _))))))))))))
noncomputable def gEd:List T->Option T:=AXC Tryz.prog 400 APA A6N 40 83
def BJ1:aM Tryz.prog 83 gEd:=QW aR aU 400 APA AVO 40 (VI (k:=39) (fn:=_) (c:=_) (by kernel_rfl) Tryz.func83 rfl (by kernel_rfl))
noncomputable def A6M:Env:=Env.of [(116,.pure sY),(83,.pure gEd)]
def AVN:aQ Tryz.prog A6M:=aQ.cons (x:=.pure sY) xU (aQ.cons (x:=.pure gEd) BJ1 (aQ.nil _))
noncomputable def gAp:List T->Option T:=AXC Tryz.prog 400 APA A6M 40 18
def BJ0:aM Tryz.prog 18 gAp:=QW aR aU 400 APA AVN 40 (VI (k:=39) (fn:=_) (c:=_) (by kernel_rfl) Tryz.func18 rfl (by kernel_rfl))
def BKX:FuncId->Bool:=λf=>[12,10,17,13,29,9,135,58,105,19,38,41,44,47,51,90,121,52].contains f
noncomputable def APG:Env:=Env.of [(116,.pure sY),(18,.pure gAp),(65,.fresh (oL 4 40)),(68,.fresh (oL 1 8)),(69,.fresh (oL 3 40)),(70,.fresh (oL 6 72)),(71,.fresh (oL 3 40)),(111,.fresh (oL 2 16)),(157,.fresh (oL 1 24)),(158,.fresh (oL 18 208)),(159,.fresh (oL 5 88)),(113,.fresh (oL 1 16))]
def ALN:aQ Tryz.prog APG:=aQ.cons (x:=.pure sY) xU (aQ.cons (x:=.pure gAp) BJ0 (aQ.cons (x:=.fresh (oL 4 40)) ACZ (aQ.cons (x:=.fresh (oL 1 8)) ACX (aQ.cons (x:=.fresh (oL 3 40)) TV (aQ.cons (x:=.fresh (oL 6 72)) TY (aQ.cons (x:=.fresh (oL 3 40)) TU (aQ.cons (x:=.fresh (oL 2 16)) AO0 (aQ.cons (x:=.fresh (oL 1 24)) ACY (aQ.cons (x:=.fresh (oL 18 208)) TX (aQ.cons (x:=.fresh (oL 5 88)) TW (aQ.cons (x:=.fresh (oL 1 16)) AC0 (aQ.nil _))))))))))))
def BO8:List T->Option T:=λargs=>match args with | []=>some (.v (.bool true))|_=>none
def qB:List T->Option T:=BO8
def AJ7:aM Tryz.prog 7 qB :=
 AUB aR aU 400 BKX (B:=APG) ALN 40 (by kernel_rfl)
end Go.Pv
namespace Go.Pv
open Go Go.Proofs IntKind
def wW (d:aB) (m:aG) (l:List bK):Bool:=few d 24&&(vM m&&(decide (l.length<=6)&&l.all λo=>pD o 8))
def GZ (x:aB×aG×List bK):Option T:=some (Sh.enc pC (wW x.1 x.2.1 x.2.2))
noncomputable def BAF:Env:=Env.of [(22,.pure ADV),(23,.pure FM),(24,.pure FN)]
def BB2:FuncId->Hint:=bT 6 [(4,.inv [.val 7 false (.int .i64)])] (λ_=>aX)
def ARU:aQ Tryz.prog BAF:=.cons BJZ (.cons A38 (.cons A39 (.nil _)))
def BVJ(a2:List bK):List (List T):=List.map a6.enc a2
def WH(a0:aB)(a1:aG)(a2:List bK)(R:T->Prop):Prop:=aI BT0 (ADV [aF true aC a0,pPP 24]) λ(y0:Bool)=>aD (!y0) (R BTX) (aI BT0 (FM [aF true aK a1]) λ(y1:Bool)=>aD (!y1) (R BTX) (aD (decide (6<(↑(BVJ a2).length:Int))) (R BTX) (a7 (Int×PUnit) (λX2 s3=>aD (decide (s3.1<(↑(BVJ a2).length:Int))) (aP a6 (BVJ a2) s3.1 λ(y4:bK)=>aI BT0 (FN [aF true a6 y4,pPP 8]) λ(y5:Bool)=>aD (!y5) (R BTX) (BUW X2 s3)) (R BT8)) (0,()))))
abbrev ZD:Sh:=[(true,aC),(true,aK),(false,a6.li)]
noncomputable def FO:List T->Option T:=gS ZD GZ
def AKZ {a0 a1 a2}:FO [aF true aC a0,aF true aK a1,T.sl false (List.map a6.enc a2)]=GZ (a0,a1,a2):=bA (s:=ZD) rfl (a0,a1,a2) rfl
def A7O:Of3 Tryz.prog 6 FO GZ (bY ZD) WH:=S2 (a1:=(true,aC)) (a2:=(true,aK)) (a3:=(false,a6.li)) (Hs:=BB2) (k:=8) ARU aR aU (aL rfl) ⟨_,_,Tryz.func6,rfl⟩ rfl λ_ _ _ _=>by kernel_rfl
def A4A:aM Tryz.prog 6 FO:=A7O λd m l r h hb=>by
 clear hb;cases h;have no:wW d m l=false->pPR false=Sh.enc pC (wW d m l):=λh=>by rw[h];rfl
 unfold WH BVJ BUW BT8 BT0 BTX;refine aH (s:=[(false,.bool)]) (y:=few d 24) (A5I ..) ?_;refine jI (λh1=>no (by unfold wW;rw[h1];rfl)) λh1=>?_;refine aH (s:=[(false,.bool)]) (y:=vM m) (AKX ..) ?_;refine jI (λh2=>no (by unfold wW;rw[h1,h2];rfl)) λh2=>?_;rw[ad];refine bV (λh3=>no (by unfold wW;rw[h1,h2,ai (by omega)];rfl)) λh3=>?_;have e:wW d m l=l.all λo=>pD o 8:=by unfold wW;rw[h1,h2,ah (by omega)];rfl
 refine bI l.length (λk s=>s=((k:Int),())/\wW d m l=(l.drop k).all λo=>pD o 8) ⟨rfl,by rw[e];rfl⟩ ?_;rintro X k s hk ⟨rfl,he⟩ hX;dsimp only;refine bV (λhlt=>?_) λhge=>?_
 ·have hlt:k<l.length:=by omega
  rw[bC (r:=a6) hlt];rw[List.drop_eq_getElem_cons hlt,List.all_cons] at he;refine aH (s:=[(false,.bool)]) (y:=pD l[k] 8) ((AKY ..).trans (eY rfl)) ?_;refine jI (λh=>no (by rw[he,h];rfl)) λh=>hX _ hlt ⟨by rw[bD _ (by omega) (by omega)];rfl,by rw[he,h];rfl⟩
 ·rw[List.drop_eq_nil_of_le (by omega)] at he;rw[he];rfl
def BO5 {d:aB} {n:Nat} (h:few d (n:Int)=true):oY n d:=by
 simp only[few,ac,ae] at h;obtain ⟨⟨⟨⟨⟨a,b⟩,c⟩,e⟩,f⟩,_⟩:=h;exact ⟨by omega,by omega,by omega,by omega,by omega⟩
variable {m:aG}
def BDE (h:vM m=true):AFZ m=true:=by
 unfold vM at h;simp only[ac,ae] at h;obtain ⟨h1,_,h3,h4⟩:=h;rw[List.take_of_length_le (by omega)] at h1;unfold AFZ;rw[nD (k:=40) (by omega) (by omega) (by omega),nD (k:=40) (by omega) (by omega) (by omega),Bool.true_and,Bool.true_and];refine List.all_eq_true.2 λg hg=>?_;have:=List.all_eq_true.1 h1 g hg;unfold CO at this;rw[ac,ae] at this;exact nD (k:=40) (by omega) (by omega) (by omega)
def ATS {o:bK} (h:pD o 8=true) (hE:(o.2.all λx=>dP (cN x)&&dI (fF x))=true):GB o=true:=by
 unfold pD at h;rw[ac,ac,ae,ae] at h;unfold GB;rw[nD (k:=40) (by omega) (by omega) (by omega),hE];rfl
def recC (m:aG) (d L:aB):T×T×T×T×T×T×T×T×T×T×T×T×T×T×T :=
 (T.sl false (List.map bM.enc m.1),T.sl false (List.map bG.enc m.2),pPQ d.1,T.sl false (List.map aS.enc d.2.1),T.sl false (List.map aJ.enc d.2.2.1),T.sl false (List.map aV.enc d.2.2.2.1),T.sl false (List.map aE.enc d.2.2.2.2.1),T.sl false (List.map aW.enc d.2.2.2.2.2),
  T.sl false [],pPQ L.1,T.sl false (List.map aS.enc L.2.1),T.sl false (List.map aJ.enc L.2.2.1),T.sl false (List.map aV.enc L.2.2.2.1),T.sl false (List.map aE.enc L.2.2.2.2.1),T.sl false (List.map aW.enc L.2.2.2.2.2))
structure Hst (m:aG) (d:aB) (l O:List bK) (L:aB) (k:Nat):Prop where
 ok:o9 m d O=(L,0)
 len:O.length<=k
 sub:∀ o∈O,o∈l
variable {O:List bK}{L:aB}
def Hst.add {d:aB} {l:List bK} {k:Nat} (h:Hst m d l O L k) {o:bK} (ho:o∈l) (hg:(jZ L m o).2=0):Hst m d l (O++[o]) (jZ L m o).1 (k+1) where
 ok:=by
  have:=h.ok;unfold o9 at this ⊢;rw[sB,this,if_pos rfl];show (if (apO m L o).2=0 then F1 iR (apO m) (apO m L o).1 [] else (iR,(apO m L o).2))=_;rw[if_pos (by exact hg)];rfl
 len:=by have:=h.len;rw[List.length_append];show O.length+1<=k+1;omega
 sub:=λx hx=>(List.mem_append.1 hx).elim (h.sub x) λhx=>by rw[List.mem_singleton.1 hx];exact ho
def Hst.mono {d:aB} {l:List bK} {k:Nat} (h:Hst m d l O L k):Hst m d l O L (k+1):=⟨h.ok,by have:=h.len;omega,h.sub⟩
structure ABT (d:aB) (m:aG) (l:List bK):Prop where
 D:BA d=true
 K:zR d=true
 N:oY 24 d
 M:AFZ m=true
 len:l.length<=6
 O:∀ o∈l,GB o=true
 T:∀ o∈l,AW1 o=true
def ABT.last {d:aB} {l:List bK} {k:Nat} (c:ABT d m l) (h:Hst m d l O L k) (hk:k<=6):oY 868 L/\BA L=true/\zR L=true:=by
 have e:L=(o9 m d O).1:=by rw[h.ok]
 have hl:=h.len;obtain ⟨g1,g2,g3⟩:=A56 (m:=m) c.N c.D c.K (λo ho=>c.O o (h.sub o ho)) (by rw[h.ok]);rw[e];exact ⟨oY.mono g1 (by omega),g2,g3⟩
def ABT.BQN {d:aB} {l:List bK} {k:Nat} (c:ABT d m l) (h:Hst m d l O L k) (hk:k<=6):tP (m,d,O,L) where
 b:=⟨24,c.N,by have:=h.len;show 24+32*O.length<=868;omega⟩
 D:=c.D
 K:=c.K
 O:=λo ho=>c.O o (h.sub o ho)
def AF1 (d:aB) (l:List bK):Bool:=(BA d&&zR d)&&l.all λo=>o.2.all λx=>dP (cN x)&&dI (fF x)
def BPX {d:aB} {l:List bK} (h:AF1 d l=true) (hf:wW d m l=true):ABT d m l:=by
 unfold AF1 at h;unfold wW at hf;simp only[ac,ae] at h hf;obtain ⟨⟨hD,hK⟩,hE⟩:=h;obtain ⟨f1,f2,f3,f4⟩:=hf;exact ⟨hD,hK,BO5 (n:=24) f1,BDE f2,f3,λo ho=>ATS (List.all_eq_true.1 f4 o ho) (List.all_eq_true.1 hE o ho),λo ho=>A3Z (n:=8) (by omega) (List.all_eq_true.1 f4 o ho)⟩
def awV {K:Bool->Prop} (h:K true):aI [(false,Sy.bool)] (qB []) K:=aH (s:=[(false,.bool)]) (y:=true) rfl h
noncomputable def AYB:Env:=Env.of [(6,.pure FO),(26,.pure cM),(27,.pure xZ),(28,.pure jG),(32,.pure mT),(18,.pure o8),(19,.pure qU),(20,.pure P0),(21,.pure FP),(11,.pure oM),(17,.read (UB 8 2 IJ)),(10,.read (UB 8 2 CP)),(13,.read (UB 8 2 x5)),(7,.pure qB)]
def A1X:FuncId->Hint:=bT 5 [(7,.inv [.val 9 false (.int .i64),.box 4 (.pr .any (.pr .any (.pr .any (.pr .any (.pr .any (.pr .any (.pr .any (.pr .any (.pr .any (.pr .any (.pr .any (.pr .any (.pr .any (.pr .any .any)))))))))))))),.KG 4 8 2 a6]),(15,.inv [.val 13 false (.int .i64)]),(22,.inv [.val 18 false (.int .i64),.box 9 aC]),(27,.inv [.val 23 false (.int .i64)])] (bT 80 [(2,.inv [.val 8 false (.int .i64)])] (λ_=>aX))
def AHP:aQ Tryz.prog AYB:=.cons A4A (.cons jU (.cons AT4 (.cons T0 (.cons T1 (.cons AOZ (.cons ACW (.cons BDW (.cons A4B (.cons XP (.cons BDR (.cons BJ2 (.cons BDS (.cons AJ7 (.nil _))))))))))))))
def BUL(y10:aB×Int)(s7: Int × (T × T × T × T × T×T×T×T×T×T×qO) × List bK×PUnit)(y9:bK)(X6: Int × (T × T × T × T × T×T×T×T×T×T×qO) × List bK×PUnit -> Prop):Prop:=aI [(true,aC)] (jG [aF true aC y10.1]) λ(y18:aB)=>bZ a6 (List.map a6.enc s7.2.2.1 ++ [[pPQ y9.1, T.sl false (BUY y9)]]) λ(y19:List bK)=>X6 (i64.wrap (s7.1+1), (s7.2.1.1,s7.2.1.2.1,s7.2.1.2.2.1, s7.2.1.2.2.2.1,s7.2.1.2.2.2.2.1, s7.2.1.2.2.2.2.2.1, s7.2.1.2.2.2.2.2.2.1, s7.2.1.2.2.2.2.2.2.2.1,T.sl false [], pPQ y18.1, T.sl false (BUS y18), T.sl false (BUE y18), T.sl false (BUO y18), T.sl false (BUM y18), T.sl false (BUT y18)), y19,())
def BUV(s7: Int × (T × T × T × T × T×T×T×T×T×T×qO) × List bK×PUnit):List (List T):=List.map a6.enc s7.2.2.1
def BUQ(s7: Int × (T × T × T × T × T×T×T×T×T×T×qO) × List bK×PUnit)(X6: Int × (T × T × T × T × T×T×T×T×T×T×qO) × List bK×PUnit -> Prop):Prop:=bZ a6 (BUV s7) λ(y16:List bK)=>X6 (i64.wrap (s7.1+1), (s7.2.1.1,s7.2.1.2.1,s7.2.1.2.2.1, s7.2.1.2.2.2.1,s7.2.1.2.2.2.2.1, s7.2.1.2.2.2.2.2.1, s7.2.1.2.2.2.2.2.2.1, s7.2.1.2.2.2.2.2.2.2.1,T.sl false [], s7.2.1.2.2.2.2.2.2.2.2.2.1, s7.2.1.2.2.2.2.2.2.2.2.2.2.1, s7.2.1.2.2.2.2.2.2.2.2.2.2.2.1, s7.2.1.2.2.2.2.2.2.2.2.2.2.2.2.1, s7.2.1.2.2.2.2.2.2.2.2.2.2.2.2.2.1, s7.2.1.2.2.2.2.2.2.2.2.2.2.2.2.2.2), y16,())
def NH(a0:aB)(a1:aG)(a2:List bK)(R:T->Prop):Prop:=aI BT0 (FO [aF true aC a0,aF true aK a1, T.sl false (BVJ a2)]) λ(y0:Bool)=>aD (!y0) (aI BT0 (qB []) λ(y1:Bool)=>R (pPR y1)) (aI BT3 (cM [aF true aC a0,aF true aK a1]) λ(y2:Int)=>aD (!decide (y2=0)) (aD (!decide (y2=0)) (aI BT0 (qB []) λ(y3:Bool)=>R (pPR y3)) (R BTX)) (aI [(true,aK)] (xZ [aF true aK a1]) λ(y4:aG)=>aI [(true,aC)] (jG [aF true aC a0]) λ(y5:aB)=>a7 (Int × (T × T × T × T×T×T×T×T×T×T×qO) × List bK×PUnit) (λ(X6 : Int × (T × T × T × T × T×T×T×T×T×T×qO) × List bK×PUnit -> Prop) (s7 : Int × (T × T × T × T × T×T×T×T×T×T×qO) × List bK×PUnit)=>aD (decide (s7.1<(↑(BVJ a2).length:Int))) (aP a6 (BVJ a2) s7.1 λ(y8:bK)=>aI [(true,a6)] (mT [aF true a6 y8]) λ(y9:bK)=>aI BT1 (o8 [T.agg [s7.2.1.2.2.2.2.2.2.2.2.2.1, s7.2.1.2.2.2.2.2.2.2.2.2.2.1, s7.2.1.2.2.2.2.2.2.2.2.2.2.2.1, s7.2.1.2.2.2.2.2.2.2.2.2.2.2.2.1, s7.2.1.2.2.2.2.2.2.2.2.2.2.2.2.2.1, s7.2.1.2.2.2.2.2.2.2.2.2.2.2.2.2.2], T.agg [s7.2.1.1,s7.2.1.2.1],aF true a6 y9]) λ(y10:aB×Int)=>aD (!decide (y10.2=0)) (bZ a6 (BUV s7) λ(y11:List bK)=>X6 (i64.wrap (s7.1+1), (s7.2.1.1,s7.2.1.2.1,s7.2.1.2.2.1,s7.2.1.2.2.2.1, s7.2.1.2.2.2.2.1,s7.2.1.2.2.2.2.2.1, s7.2.1.2.2.2.2.2.2.1,s7.2.1.2.2.2.2.2.2.2.1, T.sl false [],s7.2.1.2.2.2.2.2.2.2.2.2.1, s7.2.1.2.2.2.2.2.2.2.2.2.2.1, s7.2.1.2.2.2.2.2.2.2.2.2.2.2.1, s7.2.1.2.2.2.2.2.2.2.2.2.2.2.2.1, s7.2.1.2.2.2.2.2.2.2.2.2.2.2.2.2.1, s7.2.1.2.2.2.2.2.2.2.2.2.2.2.2.2.2), y11,())) (a7 (Int×PUnit) (λX12 s13=>aD (decide (s13.1<(↑(BUV s7).length:Int))) (aP a6 (BUV s7) s13.1 λ(y14:bK)=>eK a6 (BUV s7) (Int.toNat s13.1) 0 λ(y15:bK)=>aD (decide (y15.1=y9.1)) (aD (decide (0<=s13.1)) (BUQ s7 X6) (aD (decide (64<=(↑(BUV s7).length:Int))) (BUQ s7 X6) (bH (decide (((BUV s7).length+1)*40 <= 140737488355328) && decide ((BUV s7).length+1 <= 140737488355328)) (BUL y10 s7 y9 X6)))) (BUW X12 s13)) (aD (decide (64<=(↑(BUV s7).length:Int))) (bZ a6 (BUV s7) λ(y20:List bK)=>X6 (i64.wrap (s7.1+1), (s7.2.1.1,s7.2.1.2.1,s7.2.1.2.2.1, s7.2.1.2.2.2.1,s7.2.1.2.2.2.2.1, s7.2.1.2.2.2.2.2.1,s7.2.1.2.2.2.2.2.2.1, s7.2.1.2.2.2.2.2.2.2.1,T.sl false [], s7.2.1.2.2.2.2.2.2.2.2.2.1, s7.2.1.2.2.2.2.2.2.2.2.2.2.1, s7.2.1.2.2.2.2.2.2.2.2.2.2.2.1, s7.2.1.2.2.2.2.2.2.2.2.2.2.2.2.1, s7.2.1.2.2.2.2.2.2.2.2.2.2.2.2.2.1, s7.2.1.2.2.2.2.2.2.2.2.2.2.2.2.2.2), y20,())) (bH (decide (((BUV s7).length+1)*40 <= 140737488355328) && decide ((BUV s7).length+1<=140737488355328)) (BUL y10 s7 y9 X6)))) (0,()))) (aI BT3 (IJ [T.agg [s7.2.1.1,s7.2.1.2.1,s7.2.1.2.2.1,s7.2.1.2.2.2.1, s7.2.1.2.2.2.2.1,s7.2.1.2.2.2.2.2.1, s7.2.1.2.2.2.2.2.2.1,s7.2.1.2.2.2.2.2.2.2.1, T.sl false (BUV s7), s7.2.1.2.2.2.2.2.2.2.2.2.1, s7.2.1.2.2.2.2.2.2.2.2.2.2.1, s7.2.1.2.2.2.2.2.2.2.2.2.2.2.1, s7.2.1.2.2.2.2.2.2.2.2.2.2.2.2.1, s7.2.1.2.2.2.2.2.2.2.2.2.2.2.2.2.1, s7.2.1.2.2.2.2.2.2.2.2.2.2.2.2.2.2]]) λ(y23:Int)=>aI BT1 (CP [T.agg [s7.2.1.1,s7.2.1.2.1,s7.2.1.2.2.1,s7.2.1.2.2.2.1, s7.2.1.2.2.2.2.1,s7.2.1.2.2.2.2.2.1, s7.2.1.2.2.2.2.2.2.1,s7.2.1.2.2.2.2.2.2.2.1, T.sl false (BUV s7), s7.2.1.2.2.2.2.2.2.2.2.2.1, s7.2.1.2.2.2.2.2.2.2.2.2.2.1, s7.2.1.2.2.2.2.2.2.2.2.2.2.2.1, s7.2.1.2.2.2.2.2.2.2.2.2.2.2.2.1, s7.2.1.2.2.2.2.2.2.2.2.2.2.2.2.2.1, s7.2.1.2.2.2.2.2.2.2.2.2.2.2.2.2.2], pPP y23]) λ(y24:aB×Int)=>aD (!decide (y24.2=0)) (R BTX) (aD (decide (y23<0)) (R BTX) (aD (decide ((↑(BVJ a2).length:Int)<y23)) (R BTX) (a7 (Int×PUnit) (λX25 s26=>aD (decide (s26.1<=y23)) (aI BT1 (CP [T.agg [s7.2.1.1,s7.2.1.2.1,s7.2.1.2.2.1, s7.2.1.2.2.2.1,s7.2.1.2.2.2.2.1, s7.2.1.2.2.2.2.2.1,s7.2.1.2.2.2.2.2.2.1, s7.2.1.2.2.2.2.2.2.2.1, T.sl false (BUV s7), s7.2.1.2.2.2.2.2.2.2.2.2.1, s7.2.1.2.2.2.2.2.2.2.2.2.2.1, s7.2.1.2.2.2.2.2.2.2.2.2.2.2.1, s7.2.1.2.2.2.2.2.2.2.2.2.2.2.2.1, s7.2.1.2.2.2.2.2.2.2.2.2.2.2.2.2.1, s7.2.1.2.2.2.2.2.2.2.2.2.2.2.2.2.2], pPP s26.1]) λ(y27:aB×Int)=>aI [(false,a6.li),(false,Sy.int IntKind.i64)] (x5 [T.agg [s7.2.1.1,s7.2.1.2.1,s7.2.1.2.2.1, s7.2.1.2.2.2.1,s7.2.1.2.2.2.2.1, s7.2.1.2.2.2.2.2.1, s7.2.1.2.2.2.2.2.2.1, s7.2.1.2.2.2.2.2.2.2.1, T.sl false (BUV s7), s7.2.1.2.2.2.2.2.2.2.2.2.1, s7.2.1.2.2.2.2.2.2.2.2.2.2.1, s7.2.1.2.2.2.2.2.2.2.2.2.2.2.1, s7.2.1.2.2.2.2.2.2.2.2.2.2.2.2.1, s7.2.1.2.2.2.2.2.2.2.2.2.2.2.2.2.1, s7.2.1.2.2.2.2.2.2.2.2.2.2.2.2.2.2], pPP s26.1]) λ(y28:List bK×Int)=>aD (!decide (y27.2=0)) (R BTX) (aD (!decide (y28.2=0)) (R BTX) (aD (!decide ((↑(List.map a6.enc y28.1).length:Int) = i64.wrap (y23-s26.1))) (R BTX) (bZ aS (List.map aS.enc y27.1.2.1) λ(y29:List cH)=>bZ aJ (BVN y27) λ(y30:List bB)=>bZ aV (BVM y27) λ(y31:List cJ)=>bZ aE (BVH y27) λ(y32:List aT)=>bZ aW (BVI y27) λ(y33:List cQ)=>a7 (Int×aB×PUnit) (λX34 s35=>aD (decide (s35.1 < (↑(List.map a6.enc y28.1).length:Int))) (aP a6 (List.map a6.enc y28.1) s35.1 λ(y36:bK)=>aI [(true,aC), (false,Sy.int IntKind.i64)] (o8 [aF true aC s35.2.1, aF true aK a1, aF true a6 y36]) λ(y37:aB×Int)=>aI BT6 (qU [aF true aC s35.2.1, aF true aC y37.1]) λ(y38:List iII)=>aP a6 (List.map a6.enc y28.1) s35.1 λ(y39:bK)=>aI BT6 (P0 [aF true a6 y39]) λ(y40:List iII)=>a7 (Int×PUnit) (λX41 s42=>aD (decide (s42.1 < (↑(BUF y38).length : Int))) (aP Sy.str (BUF y38) s42.1 λ(y43:iII)=>aI BT0 (FP [T.sl false (BUF y40), pPQ y43]) λ(y44:Bool)=>aD (!y44) (R BTX) (X41 (i64.wrap (s42.1+1), ()))) (aD (!decide (y37.2=0)) (R BTX) (bZ aS (List.map aS.enc y37.1.2.1) λ(y45:List cH)=>bZ aJ (BVN y37) λ(y46:List bB)=>bZ aV (BVM y37) λ(y47:List cJ)=>bZ aE (BVH y37) λ(y48:List aT)=>bZ aW (BVI y37) λ(y49:List cQ)=>X34 (i64.wrap (s35.1+1), (y37.1.1,y45,y46,y47, y48,y49), ())))) (0,())) (aI BT0 (oM [aF true aC s35.2.1, aF true aC y24.1]) λ(y50:Bool)=>aD (!y50) (R BTX) (BUW X25 s26))) (0,(y27.1.1,y29,y30,y31,y32,y33),()))))) (aI BT0 (qB []) λ(y51:Bool)=>R (pPR y51))) (0,())))))) (0, (T.sl false (BVG y4), T.sl false (BVP y4),pPQ y5.1, T.sl false (BUS y5), T.sl false (BUE y5), T.sl false (BUO y5), T.sl false (BUM y5), T.sl false (BUT y5),T.sl false [], pPQ y5.1,T.sl false (BUS y5), T.sl false (BUE y5), T.sl false (BUO y5), T.sl false (BUM y5), T.sl false (BUT y5)), [],())))
abbrev GP:Sh:=[(true,aC),(true,aK),(false,a6.li)]
def u7 (x:aB×aG×List bK):Option T:=match AF1 x.1 x.2.2 with
 | true=>some (pPR true)
 | false=>none
noncomputable def AD0:List T->Option T:=gS GP u7
def AWB:Of3 Tryz.prog 5 AD0 u7 (bY GP) NH:=S2 (a1:=(true,aC)) (a2:=(true,aK)) (a3:=(false,a6.li)) (Hs:=A1X) (k:=8) AHP aR aU (aL rfl) ⟨_,_,Tryz.func5,rfl⟩ rfl λ_ _ _ _=>by kernel_rfl
def BG3 {d:aB} {l:List bK} {k:Nat} (h:Hst m d l O L k) (v:Nat):(o9 m d (O.take v)).2=0:=(BOR (h:=⟨d,O,L⟩) (z:=iR) (ap:=apO m) h.ok v).1
def AOM {d:aB} {v:Nat} (hv:v<=O.length):atH (m,d,O,L) (v:Int)=o9 m d (O.take v):=by
 unfold atH;rw[if_neg (show ¬ ((v:Int)<0\/(O.length:Int)<(v:Int)) by omega)];show o9 m d (O.take (v:Int).toNat)=_;rw[Int.toNat_natCast]
def A9V {d:aB} {v:Nat} (hv:v<=O.length):LO (m,d,O,L) (v:Int)=(O.drop v,0):=by
 unfold LO;rw[if_neg (show ¬ ((v:Int)<0\/(O.length:Int)<(v:Int)) by omega)];show (O.drop (v:Int).toNat,(0:Int))=_;rw[Int.toNat_natCast]
def XE (a b:aB):(j1 a b).length<=(IT a).length+(IT b).length:=by
 unfold j1 OJ;refine Nat.le_trans (AJ _ _ DH) (Nat.le_trans (AJ _ _ λm=>by unfold eN;simp) (Nat.le_trans (List.length_filter_le _ _) ?_));rw[List.length_append];exact ak _
def AT8:aM Tryz.prog 5 AD0:=AWB λd m l r h hb=>by
 clear hb;obtain ⟨hc,rfl⟩:=tE h;clear h;unfold NH BVN BVM BVJ BVI BVH BUQ BUV BUL BUY BUT BUS BUO BVP BVG BUW BUM BUE BUF BT6 BT3 BT1 BT0 BTX;refine aH (s:=[(false,.bool)]) (y:=wW d m l) (AKZ ..) ?_;refine jI (λ_=>awV rfl) λhf=>?_;have c:=BPX hc hf;clear hc hf;have hl6:l.length<=6:=c.len;refine aH (s:=[(false,.int .i64)]) (y:=iF d m) (nS ..) ?_;refine lA (λh0=>?_) λh0=>?_
 ·exact lA (λ_=>awV rfl) λh=>absurd h h0
 refine aH (s:=[(true,aK)]) (y:=m) ((ADK ..).trans (nB _ c.M)) ?_;refine aH (s:=[(true,aC)]) (y:=d) (LX c.N (by omega) c.D c.K) ?_;refine bI l.length (λk s=>∃ O L,s=((k:Int),recC m d L,O,())/\Hst m d l O L k) ⟨[],d,rfl,rfl,ak _,λ_ h=>by cases h⟩ ?_;rintro X k s hk ⟨O,L,rfl,H⟩ hX;unfold recC;dsimp only;obtain ⟨f1,f2,f3⟩:=c.last H (by omega);have hO:=H.len;rw[ad,ad];refine bV (λhlt=>?_) λhge=>?_
 ·have hlt:k<l.length:=by omega
  have hm:=aj hlt;rw[bC (r:=a6) hlt];generalize l[k]=o at hm ⊢;have same:∀ {K:List bK->Prop},(∀ s',s'=(i64.wrap ((k:Int)+1),recC m d L,O,())->X s')->(X (i64.wrap ((k:Int)+1),recC m d L,O,())->K O)->bZ a6 (List.map a6.enc O) K:=λh1 h2=>LY (h2 (h1 _ rfl));have hw:i64.wrap ((k:Int)+1)=((k+1:Nat):Int):=bD _ (by omega) (by omega);have stay:X (i64.wrap ((k:Int)+1),recC m d L,O,()):=hX _ hlt ⟨O,L,by rw[hw],H.mono⟩;have fin:(jZ L m o).2=0->X (i64.wrap ((k:Int)+1),recC m d (jZ L m o).1,O++[o],()):=λhg=>hX _ hlt ⟨_,_,by rw[hw],H.add hm hg⟩;refine aH (s:=[(true,a6)]) (y:=o) (AOQ (c.O o hm)) ?_;refine aH (s:=[(true,aC),(false,.int .i64)]) (y:=jZ L m o) (Eq.trans (b:=o8 [aF true aC L,aF true aK m,aF true a6 o]) (by kernel_rfl) (H0 (AMH f1 (by omega) f2 f3 (zS (c.O o hm))))) ?_;refine lA (λhbad=>LY stay) λhg=>?_;refine bI O.length (λj s=>s=((j:Int),())) rfl ?_;rintro X2 j s hj rfl hX2;dsimp only;refine bV (λhlt2=>?_) λhge2=>?_
  ·have hlt2:j<O.length:=by omega
   rw[bC (r:=a6) hlt2];refine A8E (Int.toNat_natCast j) hlt2 ?_;refine bV (λ_=>?_) λ_=>hX2 _ hlt2 (by rw[bD _ (by omega) (by omega)];rfl);refine bV (λ_=>LY stay) λh=>absurd (by omega) h
  ·refine bV (λ_=>LY stay) λh64=>?_;refine ⟨by rw[ah (by omega),ah (by omega)];rfl,?_⟩;obtain ⟨_,e⟩:=XD hg;have hN:oY (868+32) (jZ L m o).1/\BA (jZ L m o).1=true/\zR (jZ L m o).1=true:=by
    have hg':(dH m L o.2).2=0:=by rw[<-e];exact hg
    obtain ⟨a1,a2,a3⟩:=DE f1 f2 f3 (zS (c.O o hm)) hg';have:=ACC hg;rw[e];exact ⟨oY.mono a1 (by omega),a2,a3⟩
   refine aH (s:=[(true,aC)]) (y:=(jZ L m o).1) (LX hN.1 (by omega) hN.2.1 hN.2.2) ?_;refine eQ (r:=a6) rfl (l:=O++[o]) (by rw[List.map_append];rfl) ?_;exact fin hg
 ·have hkl:k=l.length:=by omega
  have hH:tP (m,d,O,L):=c.BQN H (by omega);refine aH (s:=[(false,.int .i64)]) (y:=((O.length:Nat):Int)) (Eq.trans (b:=IJ [aF true bU (m,d,O,L)]) (by kernel_rfl) (AUY ..)) ?_;have eL:atH (m,d,O,L) (O.length:Int)=(L,0):=by rw[AOM (ak _),List.take_length,H.ok]
  refine aH (s:=[(true,aC),(false,.int .i64)]) (y:=(L,(0:Int))) (Eq.trans (b:=CP [aF true bU (m,d,O,L),.v (.int .i64 (O.length:Int))]) (by kernel_rfl) ((A58 hH _).trans (by rw[eL]))) ?_;refine lA (λh=>absurd rfl h) λ_=>?_;refine bV (λh=>absurd h (by omega)) λ_=>?_;refine bV (λh=>absurd h (by omega)) λ_=>?_;refine bI (O.length+1) (λv s=>s=((v:Int),())) rfl ?_;rintro X2 v s hv rfl hX2;dsimp only;refine bV (λhle=>?_) λ_=>awV rfl;have hv:v<=O.length:=by omega
  have hv0:=BG3 H v;have eA:o9 m d (O.take v)=((o9 m d (O.take v)).1,0):=Prod.ext rfl hv0;refine aH (s:=[(true,aC),(false,.int .i64)]) (y:=((o9 m d (O.take v)).1,(0:Int))) (Eq.trans (b:=CP [aF true bU (m,d,O,L),.v (.int .i64 (v:Int))]) (by kernel_rfl) ((A58 hH _).trans (by rw[AOM hv,<-eA]))) ?_;refine aH (s:=[(false,a6.li),(false,.int .i64)]) (y:=(O.drop v,(0:Int))) (Eq.trans (b:=x5 [aF true bU (m,d,O,L),.v (.int .i64 (v:Int))]) (by kernel_rfl) ((BEB hH _).trans (by rw[A9V hv]))) ?_;refine lA (λh=>absurd rfl h) λ_=>?_;refine lA (λh=>absurd rfl h) λ_=>?_;have hdl:(List.map a6.enc (O.drop v)).length=O.length-v:=by rw[ad,List.length_drop]
  rw[hdl];refine lA (λh=>absurd ?_ h) λ_=>?_
  ·rw[bD _ (by omega) (by omega)];omega
  refine EU ?_;refine bI (O.length-v) (λj s=>s=((j:Int),(o9 m d (O.take (v+j))).1,())) rfl ?_;rintro X3 j s hj rfl hX3;dsimp only;refine bV (λhlt3=>?_) λhge3=>?_
  ·have hlt3:j<O.length-v:=by omega
   have hvj:v+j<O.length:=by omega
   have hdj:j<(O.drop v).length:=by rw[List.length_drop];omega
   have ho:(O.drop v)[j]=O[v+j]:=List.getElem_drop ..;have hmO:=H.sub _ (aj hvj);obtain ⟨s1,s2,s3⟩:=BD9 (z:=iR) (ap:=apO m) (d:=d) (e:=L) (l:=O) H.ok hvj;have s2:(jZ (o9 m d (O.take (v+j))).1 m O[v+j]).2=0:=s2;have s3:(jZ (o9 m d (O.take (v+j))).1 m O[v+j]).1=(o9 m d (O.take (v+(j+1)))).1:=s3;obtain ⟨g1,g2,g3⟩:=hH.step (t:=v+j) (Nat.le_of_lt hvj) s1;obtain ⟨k1,k2,k3⟩:=hH.step (t:=v+(j+1)) (by show v+(j+1)<=O.length;omega) (BG3 H _);have okI:∀ {q:aB},oY 868 q->A76 q=true:=λ{q} hq=>by
    obtain ⟨a1,a2,a3,a4,a5⟩:=hq;unfold A76 IT;simp only[List.length_append,ad];exact ah (by omega)
   rw[bC (r:=a6) hdj,ho];refine aH (s:=[(true,aC),(false,.int .i64)]) (y:=jZ (o9 m d (O.take (v+j))).1 m O[v+j]) (H0 (AMH g1 (by omega) g2 g3 (zS (c.O _ hmO)))) ?_;refine aH (s:=[(false,Sy.str.li)]) (y:=j1 (o9 m d (O.take (v+j))).1 (jZ (o9 m d (O.take (v+j))).1 m O[v+j]).1) ((SU ..).trans (eY (by rw[okI g1,s3,okI k1];rfl))) ?_;rw[bC (r:=a6) hdj,ho];refine aH (s:=[(false,Sy.str.li)]) (y:=LP O[v+j].2) ((AU3 ..).trans (eY (c.T _ hmO))) ?_;have tou:∀ s∈j1 (o9 m d (O.take (v+j))).1 (jZ (o9 m d (O.take (v+j))).1 m O[v+j]).1,A59 (LP O[v+j].2) s=true:=λs hs=>A6A.2 (SP s2 hs);have chl:(j1 (o9 m d (O.take (v+j))).1 (jZ (o9 m d (O.take (v+j))).1 m O[v+j]).1).length<=20000:=by
    have h1:(IT (o9 m d (O.take (v+j))).1).length<=10000:=of_decide_eq_true (okI g1);have h2:(IT (o9 m d (O.take (v+(j+1)))).1).length<=10000:=of_decide_eq_true (okI k1);refine Nat.le_trans (XE _ _) ?_;rw[s3];omega
   generalize j1 (o9 m d (O.take (v+j))).1 (jZ (o9 m d (O.take (v+j))).1 m O[v+j]).1=ch at tou chl ⊢;refine bI ch.length (λq s=>s=((q:Int),())) rfl ?_;rintro X4 q s hq rfl hX4;dsimp only;rw[ad];refine bV (λhlt4=>?_) λhge4=>?_
   ·have hlt4:q<ch.length:=by omega
    rw[bC (r:=.str) hlt4];refine aH (s:=[(false,.bool)]) (y:=true) ((AK0 ..).trans (by unfold AD;rw[tou _ (aj hlt4)])) ?_;refine jI (λh=>by cases h) λ_=>?_;exact hX4 _ hlt4 (by rw[bD _ (by omega) (by omega)];rfl)
   ·refine lA (λh=>absurd s2 h) λ_=>?_;refine EU ?_;refine hX3 _ hlt3 ?_;rw[bD _ (by omega) (by omega),s3];rfl
  ·have hjn:v+j=O.length:=by omega
   refine aH (s:=[(false,.bool)]) (y:=true) ((PT ..).trans (by
    unfold nG RW;rw[hjn,List.take_length,H.ok,ACQ])) ?_
   refine jI (λh=>by cases h) λ_=>?_;exact hX2 _ (by omega) (by rw[bD _ (by omega) (by omega)];rfl)
def AW7:∀ x:aB×aG×List bK,BI3 GP x->u7 x=some (.v (.bool true)):=λ⟨d,m,l⟩ h=>eY (c:=AF1 d l) (a:=pPR true) (by
 unfold AF1;have hd:InS aC d:=h.1;rw[BMM hd,BMN hd,Bool.true_and,Bool.true_and];refine List.all_eq_true.2 λo ho=>?_;have ho:InS a6 o:=h.2.2.2.2 o ho;refine List.all_eq_true.2 λx hx=>?_;have h:InS aN x:=ho.2.2.2 x hx;rw[AW0 h.2.2.2.2.1,AWZ h.2.2.2.2.2.2.1];rfl)
end Go.Pv
