/-
  The closures of edit.kinds: what they come to.
  edit.Apply, the kinds 5 and 6 (the copied parts are turned in place).
  edit.Apply, kind by kind.
  edit.Apply, the kinds 5 and 6 (the copied parts are turned in place).
  shipyardref16.Few, shipyardref19.Few.
  edit.Apply with a kind that there is not; edit.Apply.
  Designs that an edit makes are not too large.
  Plane geometry, plain: a simple contour has an area, and the area of a valid shape is not negative.
  The reference's poly: segments and simple contours.
  The reference's poly: Check, Area2, Where.
  The reference's region: Check, Area2.
  The reference's vec.Valid and material.
  The reference's part: Check, Mass.
  The mass of a part that is in order is not negative, and bounded.
  dag.Order of the program, as the reference takes it: again and again the least node that nothing waits for.
  StructureBlocks: Block, Path, Parts and Blocks answer as the reference does.
  The reference's Check of chapter 17.
-/
import Derived.Test.YtepoplfbgaoggaaGreatDoorOnez2
import Derived.Test.YtepoplfbgaoggaaGreatDoorOnez1
import Derived.Test.YtepoplfbgaoggaaGreatDoorOnekn
set_option linter.defProp false
set_option linter.unusedSimpArgs false
set_option linter.unusedVariables false
set_option maxRecDepth 100000
namespace Go.Pv
open Go Go.Proofs IntKind
def cZ {r:Sy} {l:List r.den} (p:r.den->Bool) {Body:(Int×PUnit->Prop)->Int×PUnit->r.den->Prop} {Fin:Prop} (hl:l.length<=140737488355328)
  (hB:∀ (X:Int×PUnit->Prop) (k:Nat) (y:r.den) (h:k<l.length),l[k]=y->(p y=true->l.findIdx p=k/\l.any p=true)->(p y=false->X (i64.wrap ((k:Int)+1),()))->Body X ((k:Int),()) y)
  (hF:l.findIdx p=l.length->l.any p=false->Fin) :
  a7 (Int×PUnit) (λX s=>aE (decide (s.1<((List.map r.enc l).length:Int))) (aU r (List.map r.enc l) s.1 λy=>Body X s y) Fin) (0,()):=by
 refine bJ l.length (λk s=>s=((k:Int),())/\∀ i,(h:i<l.length)->i<k->p l[i]=false) ⟨rfl,λi _ h=>by omega⟩ ?_;rintro X k s hk ⟨rfl,he⟩ hX;dsimp only;refine b8 (λhlt=>?_) λhge=>?_
 ·rw[ae] at hlt;have hlt:k<l.length:=by omega
  rw[bA (r:=r) hlt];refine hB X k _ hlt rfl (λhp=>⟨?_,List.any_eq_true.2 ⟨_,ak hlt,hp⟩⟩) λhp=>hX _ hlt ⟨?_,λi hi hik=>?_⟩
  ·exact (List.findIdx_eq hlt).2 ⟨hp,λj hj=>he j (by omega) hj⟩
  ·rw[show i64.wrap ((k:Int)+1)=((k+1:Nat):Int) by rw[aZ]<;>omega]
  ·rcases Nat.lt_or_ge i k with h|h
   ·exact he i hi h
   ·have:i=k:=by omega
    subst this;exact hp
 ·rw[ae] at hge;have hall:∀ y∈l,p y=false:=λy hy=>by
   obtain ⟨i,hi,rfl⟩:=List.mem_iff_getElem.1 hy;exact he i hi (by omega)
  exact hF (List.findIdx_eq_length_of_false λy hy=>by simpa using hall y hy) (List.any_eq_false.2 λy hy=>by simp[hall y hy])
def qO {n:Nat} (h:n<=1000):n<=140737488355328:=by omega
variable {α:Type}{is:α->Bool}{l:List α}
def AE (h:l.findIdx is=l.length):jP is l=l:=by
 unfold jP;rw[h,List.take_length,List.drop_eq_nil_of_le (by omega),List.append_nil]
def uP {r:Sy} {z b k:Nat} {f:Bool} {l:List r.den} {x:r.den} (hz:r.w=z) (hk:k<=l.length) (hl:l.length<=1000) (hb:b<=1000):ADC z b (List.map r.enc l) [.v (.int .i64 (k:Int)),.sl f [r.enc x]]=some (List.map r.enc (l.take k++x::l.drop k)):=by
 unfold ADC;have hm:(l.length+1)*b<=1001*1000:=Nat.mul_le_mul (by omega) hb;have hc:(decide (0<=(k:Int))&&decide ((k:Int).toNat<=(List.map r.enc l).length)&&decide ((r.enc x).length=z)&&iD z (List.map r.enc l)&&decide (((List.map r.enc l).length+1)*b<=140737488355328)&&decide ((List.map r.enc l).length+1<=140737488355328))=true:=by
  subst hz;simp only[ae,Int.toNat_natCast,Sy.dV,pH,ac,ah,and_true];omega
 dsimp only;rw[hc];simp
def LK {r:Sy} {z k:Nat} {l:List r.den} (hz:r.w=z) (hk:k<l.length) (hl:l.length<=1000):ADB z (List.map r.enc l) [.v (.int .i64 (k:Int)),.v (.int .i64 (i64.wrap ((k:Int)+1)))]=some (List.map r.enc (l.take k++l.drop (k+1))):=by
 unfold ADB;have hw:i64.wrap ((k:Int)+1)=(k:Int)+1:=by rw[aZ]<;>omega
 have hc:(decide (0<=(k:Int))&&decide (i64.wrap ((k:Int)+1)=(k:Int)+1)&&decide ((k:Int).toNat<(List.map r.enc l).length)&&iD z (List.map r.enc l))=true:=by
  subst hz;rw[hw];simp only[ae,Int.toNat_natCast,pH,ac,ah,and_true];omega
 dsimp only;rw[hc];simp
def AF7 (x:bD):Option T:=some (Sh.enc [(true,aW)] ((x.1,cC,cC,mX x,cO,dS,noPack,jO):bD))
def A57(a0:bD)(R:T->Prop):Prop:=R ((aH true aW (a0.1,cC,cC,a0.2.2.2.1,cO,dS,noPack,jO)))
abbrev BEI:Sh:=[(true,aW)]
noncomputable def AKB:List T->Option T:=gS BEI AF7
def BAK {a0}:AKB [aH true aW a0]=AF7 (a0):=a8 (s:=BEI) rfl (a0) rfl
def BPJ:lW Tryz.prog 155 AKB AF7 (bR BEI) A57:=eN (a1:=(true,aW)) (Hs:=c0) (k:=8) (bM _) aV aY (aQ rfl) ⟨_,_,Tryz.func155,rfl⟩ rfl λ_ _=>by kernel_rfl
def BNL:aT Tryz.prog 155 AKB:=BPJ λx r h hb=>by
 cases h;unfold A57;rfl
def AF8 (x:bD):Option T:=some (Sh.enc [(true,aW)] ((x.1,fM x,cC,dI,cO,dS,noPack,jO):bD))
def BXN(a0:bD):T:=aH true aW (a0.1,a0.2.1,cC,dI,cO,dS,noPack,jO)
def A58(a0:bD)(R:T->Prop):Prop:=R ((BXN a0))
abbrev BEJ:Sh:=[(true,aW)]
noncomputable def AKC:List T->Option T:=gS BEJ AF8
def BAL {a0}:AKC [aH true aW a0]=AF8 (a0):=a8 (s:=BEJ) rfl (a0) rfl
def BPK:lW Tryz.prog 163 AKC AF8 (bR BEJ) A58:=eN (a1:=(true,aW)) (Hs:=c0) (k:=8) (bM _) aV aY (aQ rfl) ⟨_,_,Tryz.func163,rfl⟩ rfl λ_ _=>by kernel_rfl
def BNM:aT Tryz.prog 163 AKC:=BPK λx r h hb=>by
 cases h;unfold A58 BXN;rfl
def AF9 (x:bD):Option T:=some (Sh.enc [(true,aW)] ((x.1,cC,cC,dI,cR x,dS,noPack,jO):bD))
def A59(a0:bD)(R:T->Prop):Prop:=R ((aH true aW (a0.1,cC,cC,dI,a0.2.2.2.2.1,dS,noPack,jO)))
abbrev BEK:Sh:=[(true,aW)]
noncomputable def AKD:List T->Option T:=gS BEK AF9
def BAM {a0}:AKD [aH true aW a0]=AF9 (a0):=a8 (s:=BEK) rfl (a0) rfl
def BPL:lW Tryz.prog 175 AKD AF9 (bR BEK) A59:=eN (a1:=(true,aW)) (Hs:=c0) (k:=8) (bM _) aV aY (aQ rfl) ⟨_,_,Tryz.func175,rfl⟩ rfl λ_ _=>by kernel_rfl
def BNN:aT Tryz.prog 175 AKD:=BPL λx r h hb=>by
 cases h;unfold A59;rfl
def AGA (x:bD):Option T:=some (Sh.enc [(true,aW)] ((x.1,fM x,cC,dI,cO,dS,noPack,jO):bD))
def A6A(a0:bD)(R:T->Prop):Prop:=R ((BXN a0))
abbrev BEL:Sh:=[(true,aW)]
noncomputable def AKE:List T->Option T:=gS BEL AGA
def BAN {a0}:AKE [aH true aW a0]=AGA (a0):=a8 (s:=BEL) rfl (a0) rfl
def BPM:lW Tryz.prog 182 AKE AGA (bR BEL) A6A:=eN (a1:=(true,aW)) (Hs:=c0) (k:=8) (bM _) aV aY (aQ rfl) ⟨_,_,Tryz.func182,rfl⟩ rfl λ_ _=>by kernel_rfl
def BNO:aT Tryz.prog 182 AKE:=BPM λx r h hb=>by
 cases h;unfold A6A BXN;rfl
def AGD (x:bD):Option T:=some (Sh.enc [(true,aW)] ((x.1,cC,cC,dI,cO,rZ x,noPack,jO):bD))
def A6D(a0:bD)(R:T->Prop):Prop:=R ((aH true aW (a0.1,cC,cC,dI,cO,a0.2.2.2.2.2.1,noPack,jO)))
abbrev BEO:Sh:=[(true,aW)]
noncomputable def AKF:List T->Option T:=gS BEO AGD
def BAQ {a0}:AKF [aH true aW a0]=AGD (a0):=a8 (s:=BEO) rfl (a0) rfl
def BPP:lW Tryz.prog 203 AKF AGD (bR BEO) A6D:=eN (a1:=(true,aW)) (Hs:=c0) (k:=8) (bM _) aV aY (aQ rfl) ⟨_,_,Tryz.func203,rfl⟩ rfl λ_ _=>by kernel_rfl
def BNR:aT Tryz.prog 203 AKF:=BPP λx r h hb=>by
 cases h;unfold A6D;rfl
def AGE (x:bD):Option T:=some (Sh.enc [(true,aW)] ((x.1,fM x,cC,dI,cO,dS,noPack,jO):bD))
def A6E(a0:bD)(R:T->Prop):Prop:=R ((BXN a0))
abbrev BEP:Sh:=[(true,aW)]
noncomputable def AKG:List T->Option T:=gS BEP AGE
def BAR {a0}:AKG [aH true aW a0]=AGE (a0):=a8 (s:=BEP) rfl (a0) rfl
def BPQ:lW Tryz.prog 211 AKG AGE (bR BEP) A6E:=eN (a1:=(true,aW)) (Hs:=c0) (k:=8) (bM _) aV aY (aQ rfl) ⟨_,_,Tryz.func211,rfl⟩ rfl λ_ _=>by kernel_rfl
def BNS:aT Tryz.prog 211 AKG:=BPQ λx r h hb=>by
 cases h;unfold A6E BXN;rfl
def AGF (x:bD):Option T:=some (Sh.enc [(true,aW)] ((x.1,cC,cC,dI,cO,dS,gW x,jO):bD))
def A6F(a0:bD)(R:T->Prop):Prop:=R ((aH true aW (a0.1,cC,cC,dI,cO,dS,a0.2.2.2.2.2.2.1,jO)))
abbrev BEQ:Sh:=[(true,aW)]
noncomputable def AKH:List T->Option T:=gS BEQ AGF
def BAS {a0}:AKH [aH true aW a0]=AGF (a0):=a8 (s:=BEQ) rfl (a0) rfl
def BPR:lW Tryz.prog 223 AKH AGF (bR BEQ) A6F:=eN (a1:=(true,aW)) (Hs:=c0) (k:=8) (bM _) aV aY (aQ rfl) ⟨_,_,Tryz.func223,rfl⟩ rfl λ_ _=>by kernel_rfl
def BNT:aT Tryz.prog 223 AKH:=BPR λx r h hb=>by
 cases h;unfold A6F;rfl
def Q2 (x:bD):Option T:=some (Sh.enc [(true,aW)] ((x.1,fM x,cC,dI,cO,dS,noPack,jO):bD))
def AO4(a0:bD)(R:T->Prop):Prop:=R ((BXN a0))
abbrev ATD:Sh:=[(true,aW)]
noncomputable def UT:List T->Option T:=gS ATD Q2
def A1G {a0}:UT [aH true aW a0]=Q2 (a0):=a8 (s:=ATD) rfl (a0) rfl
def BJM:lW Tryz.prog 232 UT Q2 (bR ATD) AO4:=eN (a1:=(true,aW)) (Hs:=c0) (k:=8) (bM _) aV aY (aQ rfl) ⟨_,_,Tryz.func232,rfl⟩ rfl λ_ _=>by kernel_rfl
def BH9:aT Tryz.prog 232 UT:=BJM λx r h hb=>by
 cases h;unfold AO4 BXN;rfl
def Q3 (x:bD):Option T:=some (Sh.enc [(true,aW)] ((x.1,cC,cC,dI,cO,dS,noPack,iO x):bD))
def AO5(a0:bD)(R:T->Prop):Prop:=R ((aH true aW (a0.1,cC,cC,dI,cO,dS,noPack,a0.2.2.2.2.2.2.2)))
abbrev ATE:Sh:=[(true,aW)]
noncomputable def xZ:List T->Option T:=gS ATE Q3
def ZQ {a0}:xZ [aH true aW a0]=Q3 (a0):=a8 (s:=ATE) rfl (a0) rfl
def BJN:lW Tryz.prog 238 xZ Q3 (bR ATE) AO5:=eN (a1:=(true,aW)) (Hs:=c0) (k:=8) (bM _) aV aY (aQ rfl) ⟨_,_,Tryz.func238,rfl⟩ rfl λ_ _=>by kernel_rfl
def AU3:aT Tryz.prog 238 xZ:=BJN λx r h hb=>by
 cases h;unfold AO5;rfl
def DU (x:aG×bD):Option T:=some (pPR false)
def BVY:T:=pPR false
def SQ(a0:aG)(a1:bD)(R:T->Prop):Prop:=R BVY
abbrev W3:Sh:=[(true,aF),(true,aW)]
noncomputable def kQ:List T->Option T:=gS W3 DU
def O2 {a0 a1}:kQ [aH true aF a0,aH true aW a1]=DU (a0,a1):=a8 (s:=W3) rfl (a0,a1) rfl
def A28:nJ Tryz.prog 191 kQ DU (bR W3) SQ:=eV (a1:=(true,aF)) (a2:=(true,aW)) (Hs:=c0) (k:=8) (bM _) aV aY (aQ rfl) ⟨_,_,Tryz.func191,rfl⟩ rfl λ_ _ _=>by kernel_rfl
def vH:aT Tryz.prog 191 kQ:=A28 λd x r h hb=>by
 cases h;unfold SQ BVY;rfl
def uR {c:Bool} {a r:T} (h:(match c with|true=>some a|false=>none)=some r):c=true/\a=r:=by
 cases c with
 | true=>exact ⟨rfl,Option.some.inj h⟩
 | false=>cases h
def KC (x:aG×bD):Option T:=match rB x.1 with
 | true=>some (pPR (oF x.1 (fM x.2)))
 | false=>none
def BHD:FuncId->Hint:=bP 294 [(2,.inv [.val 8 false (.int .i64)])] (bP 299 [(2,.inv [.val 8 false (.int .i64)])] (bP 300 [(2,.inv [.val 8 false (.int .i64)])] (λ_=>bH)))
def BV0:T:=pPR true
def BWG(X3:Int×PUnit->Prop)(s4:Int×PUnit):Prop:=X3 (i64.wrap (s4.1+1),())
def BW9(s10:Int×PUnit):T:=pPR (decide (0<=s10.1))
def BWI(a0:aG):List (List T):=List.map aK.enc a0.2.2.2.2.1
def BWN(a0:aG)(a1:bD)(R:T->Prop):Prop:=a7 (Int×PUnit) (λX3 s4=>aE (decide (s4.1<(↑(BWI a0).length:Int))) (aU aK (BWI a0) s4.1 λ(y5:bE)=>a7 (Int×PUnit) (λX6 s7=>aE (decide (s7.1<(↑(List.map Sy.str.enc y5.2.2.1).length:Int))) (aU Sy.str (List.map Sy.str.enc y5.2.2.1) s7.1 λ(y8:iII)=>aE (decide (a1.2.1=y8)) (aE (decide (0<=s7.1)) (R (BW9 s4)) (BWG X3 s4)) (BWG X6 s7)) (BWG X3 s4)) (0,())) (R BVY)) (0,())
def BWO(a0:aG):List (List T):=List.map bI.enc a0.2.2.2.1
def ACD(a0:aG)(a1:bD)(R:T->Prop):Prop:=a7 (Int×PUnit) (λX0 s1=>aE (decide (s1.1<(↑(BWO a0).length:Int))) (aU bI (BWO a0) s1.1 λ(y2:gE)=>aE (decide (y2.2.1=a1.2.1)) (aE (decide (0<=s1.1)) (R BV0) (BWN a0 a1 R)) (aE (decide (y2.2.2.1=a1.2.1)) (aE (decide (0<=s1.1)) (R BV0) (BWN a0 a1 R)) (BWG X0 s1))) (BWN a0 a1 R)) (0,())
abbrev AFY:Sh:=[(true,aF),(true,aW)]
noncomputable def H7:List T->Option T:=gS AFY KC
def ARL {a0 a1}:H7 [aH true aF a0,aH true aW a1]=KC (a0,a1):=a8 (s:=AFY) rfl (a0,a1) rfl
def BC9:nJ Tryz.prog 170 H7 KC (bR AFY) ACD:=eV (a1:=(true,aF)) (a2:=(true,aW)) (Hs:=BHD) (k:=8) (bM _) aV aY (aQ rfl) ⟨_,_,Tryz.func170,rfl⟩ rfl λ_ _ _=>by kernel_rfl
def A9J:aT Tryz.prog 170 H7:=BC9 λd x r h hb=>by
 clear hb;obtain ⟨hp,rfl⟩:=uR h;clear h;have c:=fY hp;have hk:∀ k∈d.2.2.2.2.1,k.2.2.1.length<=140737488355328/\k.2.2.2.2.length<=140737488355328:=λk hk=>by
  have:=List.all_eq_true.1 c.PD k hk;simp only[fZ,mB,ac,ah] at this;exact ⟨this.1.2,this.2.2⟩
 have is:∀ {b:Bool},oF d (fM x)=b->pPR b=pPR (oF d (fM x)):=λh=>by rw[h]
 have pos:∀ {k:Nat},¬ (0<=(k:Int))->False:=λh=>h (by omega);unfold ACD BWO BWN BWI BW9 BWG BV0 BVY;refine cZ (r:=bI) (λs=>decide (s.2.1=fM x)||decide (s.2.2.1=fM x)) (qO c.s) (λX k y hlt hy hp hn=>?_) (λ_ h1=>?_)
 ·dsimp only;have yes:(decide (y.2.1=fM x)||decide (y.2.2.1=fM x))=true->oF d (fM x)=true:=λh=>by unfold oF;rw[(hp h).2];rfl
  refine b8 (λh=>b8 (λ_=>is (yes (by rw[ai h];rfl))) λh=>(pos h).elim) λh=>?_;refine b8 (λh2=>b8 (λ_=>is (yes (by rw[ai h2,Bool.or_true]))) λh=>(pos h).elim) λh2=>hn ?_;rw[aj h,aj h2];rfl
 ·refine cZ (r:=aK) (λk=>AD4 k.2.2.1 (fM x)) (qO c.k) (λX k y hlt hy hp hn=>?_) (λ_ h2=>is ?_)
  ·dsimp only;refine cZ (r:=.str) (λz=>decide (z=fM x)) (hk y (by rw[<-hy];exact ak hlt)).1 (λY j z hj hz hp2 hn2=>?_) (λ_ h3=>hn h3);dsimp only;refine b8 (λh=>b8 (λ_=>is ?_) λh=>(pos h).elim) λh=>hn2 (aj λe=>h e.symm);have:=(hp (hp2 (ai h.symm)).2).2;rw[show decide ((0:Int)<=(k:Int))=true from ai (by omega)];unfold oF;rw[this,Bool.or_true]
  ·unfold oF;rw[h1,h2];rfl
def KA (x:aG×bD):Option T:=match rB x.1 with
 | true=>some (pPR (kZ x.1 (fM x.2)))
 | false=>none
def BHB:FuncId->Hint:=bP 193 [(2,.inv [.val 8 false (.int .i64)])] (bP 293 [(2,.inv [.val 8 false (.int .i64)])] (bP 294 [(2,.inv [.val 8 false (.int .i64)])] (bP 295 [(2,.inv [.val 8 false (.int .i64)])] (λ_=>bH))))
def BWH(a0:aG):List (List T):=List.map a6.enc a0.2.2.2.2.2
def BX2(a0:aG)(s10:Int×PUnit)(a1:bD)(R:T->Prop)(X9:Int×PUnit->Prop):Prop:=aU a6 (BWH a0) s10.1 λ(y11:cP)=>aE (decide (y11.2.1=a1.2.1)) (R (BW9 s10)) (aE (decide (y11.2.2=a1.2.1)) (aE (!decide (y11.1=3)) (R (BW9 s10)) (BWG X9 s10)) (BWG X9 s10))
def BWE(a0:aG)(a1:bD)(R:T->Prop):Prop:=a7 (Int×PUnit) (λX12 s13=>aE (decide (s13.1<(↑(BWH a0).length:Int))) (BX2 a0 s13 a1 R X12) (R BVY)) (0,())
def BWL(a0:aG):List (List T):=List.map aS.enc a0.2.2.1
def BWQ(a0:aG):List (List T):=List.map bC.enc a0.2.1
def BWV(a0:aG)(a1:bD)(R:T->Prop):Prop:=a7 (Int×PUnit) (λX15 s16=>aE (decide (s16.1<(↑(BWI a0).length:Int))) (aU aK (BWI a0) s16.1 λ(y17:bE)=>aE (decide (y17.2.1=a1.2.1)) (aE (decide (0<=s16.1)) (R BV0) (BWE a0 a1 R)) (BWG X15 s16)) (BWE a0 a1 R)) (0,())
def ACB(a0:aG)(a1:bD)(R:T->Prop):Prop:=a7 (Int×PUnit) (λX0 s1=>aE (decide (s1.1<(↑(BWL a0).length:Int))) (aU aS (BWL a0) s1.1 λ(y2:bG)=>aE (decide (y2.2.2.2.1=a1.2.1)) (aE (decide (0<=s1.1)) (R BV0) (a7 (Int×PUnit) (λX3 s4=>aE (decide (s4.1<(↑(BWQ a0).length:Int))) (aU bC (BWQ a0) s4.1 λ(y5:eH)=>aE (decide (y5.2.2=a1.2.1)) (aE (decide (0<=s4.1)) (R BV0) (a7 (Int×PUnit) (λX6 s7=>aE (decide (s7.1<(↑(BWI a0).length:Int))) (aU aK (BWI a0) s7.1 λ(y8:bE)=>aE (decide (y8.2.1=a1.2.1)) (aE (decide (0<=s7.1)) (R BV0) (a7 (Int×PUnit) (λX9 s10=>aE (decide (s10.1 < (↑(BWH a0).length:Int))) (BX2 a0 s10 a1 R X9) (R BVY)) (0,()))) (BWG X6 s7)) (BWE a0 a1 R)) (0,()))) (BWG X3 s4)) (BWV a0 a1 R)) (0,()))) (BWG X0 s1)) (a7 (Int×PUnit) (λX24 s25=>aE (decide (s25.1<(↑(BWQ a0).length:Int))) (aU bC (BWQ a0) s25.1 λ(y26:eH)=>aE (decide (y26.2.2=a1.2.1)) (aE (decide (0<=s25.1)) (R BV0) (BWV a0 a1 R)) (BWG X24 s25)) (BWV a0 a1 R)) (0,()))) (0,())
abbrev AFW:Sh:=[(true,aF),(true,aW)]
noncomputable def H5:List T->Option T:=gS AFW KA
def ARJ {a0 a1}:H5 [aH true aF a0,aH true aW a1]=KA (a0,a1):=a8 (s:=AFW) rfl (a0,a1) rfl
def BC7:nJ Tryz.prog 146 H5 KA (bR AFW) ACB:=eV (a1:=(true,aF)) (a2:=(true,aW)) (Hs:=BHB) (k:=8) (bM _) aV aY (aQ rfl) ⟨_,_,Tryz.func146,rfl⟩ rfl λ_ _ _=>by kernel_rfl
def A9H:aT Tryz.prog 146 H5:=BC7 λd x r h hb=>by
 clear hb;obtain ⟨hp,rfl⟩:=uR h;clear h;have c:=fY hp;have is:∀ {b:Bool},kZ d (fM x)=b->pPR b=pPR (kZ d (fM x)):=λh=>by rw[h]
 have pos:∀ {k:Nat},¬ (0<=(k:Int))->False:=λh=>h (by omega);have d0:∀ {k:Nat},decide ((0:Int)<=(k:Int))=true:=ai (by omega);unfold ACB BWV BWQ BWL BWI BWE BX2 BW9 BWG BWH BV0 BVY;refine cZ (r:=aS) (λp=>decide (fV p=fM x)) (qO c.p) (λX k y hlt hy hp hn=>?_) (λ_ h1=>?_)
 ·dsimp only;exact b8 (λh=>b8 (λ_=>is (by unfold kZ;rw[(hp (ai h)).2];rfl)) λh=>(pos h).elim) λh=>hn (aj h)
 refine cZ (r:=bC) (λn=>decide (n.2.2=fM x)) (qO c.n) (λX k y hlt hy hp hn=>?_) (λ_ h2=>?_)
 ·dsimp only;exact b8 (λh=>b8 (λ_=>is (by unfold kZ;rw[h1,(hp (ai h)).2];rfl)) λh=>(pos h).elim) λh=>hn (aj h)
 refine cZ (r:=aK) (λk=>decide (k.2.1=fM x)) (qO c.k) (λX k y hlt hy hp hn=>?_) (λ_ h3=>?_)
 ·dsimp only;exact b8 (λh=>b8 (λ_=>is (by unfold kZ;rw[h1,h2,(hp (ai h)).2];rfl)) λh=>(pos h).elim) λh=>hn (aj h)
 refine cZ (r:=a6) (λn=>decide (n.2.1=fM x)||(decide (n.2.2=fM x) && !decide (n.1=3))) (qO c.r) (λX k y hlt hy hp hn=>?_) (λ_ h4=>is (by unfold kZ;rw[h1,h2,h3,h4];rfl));dsimp only;have yes:(decide (y.2.1=fM x)||(decide (y.2.2=fM x) && !decide (y.1=3)))=true->kZ d (fM x)=decide ((0:Int)<=(k:Int)):=λh=>by rw[d0];unfold kZ;rw[h1,h2,h3,(hp h).2];rfl
 refine b8 (λh=>is (yes (by rw[ai h];rfl))) λa1=>?_;refine b8 (λa2=>?_) λa2=>hn (by rw[aj a1,aj a2];rfl);refine kD (λa3=>is (yes (by rw[ai a2,aj a3];simp))) λa3=>hn (by rw[aj a1,ai a3,Bool.not_true,Bool.and_false];rfl)
def KB (x:aG×bD):Option T:=match rB x.1 with
 | true=>some (pPR (qH x.1 (fM x.2)))
 | false=>none
noncomputable def BGB:Env:=Env.of [(96,.dup 5 88),(307,.grow 5 nR)]
def BHC:FuncId->Hint:=bP 294 [(2,.inv [.val 8 false (.int .i64)])] (bP 295 [(2,.inv [.val 8 false (.int .i64)])] (bP 300 [(2,.inv [.val 8 false (.int .i64)])] (λ_=>bH)))
def AYL:bB Tryz.prog BGB:=bB.cons (x:=.dup 5 88) o4 (.cons ED (.nil _))
def BWP(a0:aG)(a1:bD)(R:T->Prop):Prop:=a7 (Int×PUnit) (λX13 s14=>aE (decide (s14.1<(↑(BWH a0).length:Int))) (aU a6 (BWH a0) s14.1 λ(y15:cP)=>aE (decide (y15.1=3)) (aE (decide (y15.2.2=a1.2.1)) (R (BW9 s14)) (BWG X13 s14)) (BWG X13 s14)) (R BVY)) (0,())
def BX3(y33:bE):List (List T):=List.map Sy.str.enc y33.2.2.2.2
def BWT(y6:bE)(a1:bD)(s4:Int×PUnit)(R:T->Prop)(a0:aG)(X3:Int×PUnit->Prop):Prop:=a7 (Int×PUnit) (λX7 s8=>aE (decide (s8.1<(↑(BX3 y6).length:Int))) (aU Sy.str (BX3 y6) s8.1 λ(y9:iII)=>aE (decide (a1.2.1=y9)) (aE (decide (0<=s8.1)) (aE (decide (0<=s4.1)) (R BV0) (a7 (Int×PUnit) (λX10 s11=>aE (decide (s11.1 < (↑(BWH a0).length:Int))) (aU a6 (BWH a0) s11.1 λ(y12:cP)=>aE (decide (y12.1=3)) (aE (decide (y12.2.2=a1.2.1)) (R (BW9 s11)) (BWG X10 s11)) (BWG X10 s11)) (R BVY)) (0,()))) (BWG X3 s4)) (BWG X7 s8)) (BWG X3 s4)) (0,())
def BW3(s1:Int×PUnit):List T:=[pPP s1.1, pPP (i64.wrap (s1.1+1))]
def ACC(a0:aG)(a1:bD)(R:T->Prop):Prop:=a7 (Int×PUnit) (λX0 s1=>aE (decide (s1.1<(↑(BWI a0).length:Int))) (aU aK (BWI a0) s1.1 λ(y2:bE)=>aE (decide (y2.1=a1.2.1)) (aE (decide (s1.1<0)) (bO (((BWI a0).all λ(r:List T)=>decide (r.length=5)) && decide ((BWI a0).length*88<=140737488355328) && decide ((BWI a0).length<=140737488355328)) (a7 (Int×PUnit) (λX3 s4=>aE (decide (s4.1<(↑(BWI a0).length:Int))) (aU aK (BWI a0) s4.1 λ(y5:bE)=>kU aK (BWI a0) (Int.toNat s4.1) 0 λ(y6:bE)=>BWT y6 a1 s4 R a0 X3) (BWP a0 a1 R)) (0,()))) (bO (((BWI a0).all λ(r:List T)=>decide (r.length=5)) && decide ((BWI a0).length*88<=140737488355328) && decide ((BWI a0).length<=140737488355328)) (fK aK (nR (BWI a0) (BW3 s1)) λ(y16:List bE)=>a7 (Int×PUnit) (λX17 s18=>aE (decide (s18.1<(↑(List.map aK.enc y16).length:Int))) (aU aK (List.map aK.enc y16) s18.1 λ(y19:bE)=>kU aK (List.map aK.enc y16) (Int.toNat s18.1) 0 λ(y20:bE)=>BWT y20 a1 s18 R a0 X17) (BWP a0 a1 R)) (0,())))) (BWG X0 s1)) (bO (((BWI a0).all λ(r:List T)=>decide (r.length=5)) && decide ((BWI a0).length*88<=140737488355328) && decide ((BWI a0).length<=140737488355328)) (a7 (Int×PUnit) (λX30 s31=>aE (decide (s31.1<(↑(BWI a0).length:Int))) (aU aK (BWI a0) s31.1 λ(y32:bE)=>kU aK (BWI a0) (Int.toNat s31.1) 0 λ(y33:bE)=>a7 (Int×PUnit) (λX34 s35=>aE (decide (s35.1<(↑(BX3 y33).length:Int))) (aU Sy.str (BX3 y33) s35.1 λ(y36:iII)=>aE (decide (a1.2.1=y36)) (aE (decide (0<=s35.1)) (aE (decide (0<=s31.1)) (R BV0) (BWP a0 a1 R)) (BWG X30 s31)) (BWG X34 s35)) (BWG X30 s31)) (0,())) (BWP a0 a1 R)) (0,())))) (0,())
abbrev AFX:Sh:=[(true,aF),(true,aW)]
noncomputable def H6:List T->Option T:=gS AFX KB
def ARK {a0 a1}:H6 [aH true aF a0,aH true aW a1]=KB (a0,a1):=a8 (s:=AFX) rfl (a0,a1) rfl
def BC8:nJ Tryz.prog 218 H6 KB (bR AFX) ACC:=eV (a1:=(true,aF)) (a2:=(true,aW)) (Hs:=BHC) (k:=8) AYL aV aY (aQ rfl) ⟨_,_,Tryz.func218,rfl⟩ rfl λ_ _ _=>by kernel_rfl
def A9I:aT Tryz.prog 218 H6:=BC8 λd x r h hb=>by
 clear hb;obtain ⟨hp,rfl⟩:=uR h;clear h;have c:=fY hp;have hk:∀ k∈d.2.2.2.2.1,k.2.2.1.length<=140737488355328/\k.2.2.2.2.length<=140737488355328:=λk hk=>by
  have:=List.all_eq_true.1 c.PD k hk;simp only[fZ,mB,ac,ah] at this;exact ⟨this.1.2,this.2.2⟩
 have is:∀ {b:Bool},qH d (fM x)=b->pPR b=pPR (qH d (fM x)):=λh=>by rw[h]
 have pos:∀ {k:Nat},¬ (0<=(k:Int))->False:=λh=>h (by omega);have d0:∀ {k:Nat},decide ((0:Int)<=(k:Int))=true:=ai (by omega);have hd:=AG (r:=aK) (l:=d.2.2.2.2.1) (z:=5) (b:=88) rfl (eG c.k (by decide));unfold ACC BW3 BWT BX3 BWP BWI BW9 BWG BWH BV0 BVY;refine cZ (r:=aK) (λy=>dX (fM x) y) (qO c.k) (λX k y hlt hy hp hn=>?_) (λh0 _=>?_)
 ·dsimp only;refine b8 (λh=>?_) λh=>hn (aj h);obtain ⟨hi,_⟩:=hp (ai h);refine b8 (λh=>by omega) λ_=>⟨hd,?_⟩
  have eL:jP (dX (fM x)) d.2.2.2.2.1=d.2.2.2.2.1.take k++d.2.2.2.2.1.drop (k+1):=by
   unfold jP;rw[show List.findIdx (dX (fM x)) d.2.2.2.2.1=k from hi]
  refine eT (r:=aK) (l:=jP (dX (fM x)) d.2.2.2.2.1) (by rw[eL];exact LK (r:=aK) rfl hlt c.k) _ ?_;have hL:(jP (dX (fM x)) d.2.2.2.2.1).length<=1000:=Nat.le_trans AIQ c.k;have hkL:∀ k∈jP (dX (fM x)) d.2.2.2.2.1,k.2.2.2.2.length<=140737488355328:=λk h=>(hk k (TI h)).2;have hV:qH d (fM x)=(((jP (dX (fM x)) d.2.2.2.2.1).any λk=>AD4 k.2.2.2.2 (fM x))||(d.2.2.2.2.2.any λn=>decide (n.1=3)&&decide (n.2.2=fM x))):=rfl;clear hp hn eL;generalize jP (dX (fM x)) d.2.2.2.2.1=L at *;refine cZ (r:=aK) (λk=>AD4 k.2.2.2.2 (fM x)) (qO hL) (λX k y hlt hy hp hn=>?_) (λ_ h2=>?_)
  ·dsimp only;rw[show Int.toNat (k:Int)=k from rfl,gI (r:=aK) hlt,hy];refine cZ (r:=.str) (λz=>decide (z=fM x)) (hkL y (by rw[<-hy];exact ak hlt)) (λY j z hj hz hp2 hn2=>?_) (λ_ h3=>hn h3);dsimp only;refine b8 (λh=>b8 (λ_=>b8 (λ_=>is ?_) λh=>(pos h).elim) λh=>(pos h).elim) λh=>hn2 (aj λe=>h e.symm);rw[hV,(hp (hp2 (ai h.symm)).2).2];rfl
  ·refine cZ (r:=a6) (λn=>decide (n.1=3)&&decide (n.2.2=fM x)) (qO c.r) (λX k y hlt hy hp hn=>?_) (λ_ h4=>is (by rw[hV,h2,h4];rfl));dsimp only;refine b8 (λa1=>?_) λa1=>hn (by rw[aj a1];rfl);refine b8 (λa2=>is ?_) λa2=>hn (by rw[aj a2,Bool.and_false]);rw[d0,hV,(hp (by rw[ai a1,ai a2];rfl)).2,Bool.or_true]
 ·refine ⟨hd,?_⟩;have hV:qH d (fM x)=((d.2.2.2.2.1.any λk=>AD4 k.2.2.2.2 (fM x))||(d.2.2.2.2.2.any λn=>decide (n.1=3)&&decide (n.2.2=fM x))):=by unfold qH;rw[AE (is:=dX (fM x)) h0]
  have hL:=c.k;have hkL:∀ k∈d.2.2.2.2.1,k.2.2.2.2.length<=140737488355328:=λk h=>(hk k h).2;refine cZ (r:=aK) (λk=>AD4 k.2.2.2.2 (fM x)) (qO hL) (λX k y hlt hy hp hn=>?_) (λ_ h2=>?_)
  ·dsimp only;rw[show Int.toNat (k:Int)=k from rfl,gI (r:=aK) hlt,hy];refine cZ (r:=.str) (λz=>decide (z=fM x)) (hkL y (by rw[<-hy];exact ak hlt)) (λY j z hj hz hp2 hn2=>?_) (λ_ h3=>hn h3);dsimp only;refine b8 (λh=>b8 (λ_=>b8 (λ_=>is ?_) λh=>(pos h).elim) λh=>(pos h).elim) λh=>hn2 (aj λe=>h e.symm);rw[hV,(hp (hp2 (ai h.symm)).2).2];rfl
  ·refine cZ (r:=a6) (λn=>decide (n.1=3)&&decide (n.2.2=fM x)) (qO c.r) (λX k y hlt hy hp hn=>?_) (λ_ h4=>is (by rw[hV,h2,h4];rfl));dsimp only;refine b8 (λa1=>?_) λa1=>hn (by rw[aj a1];rfl);refine b8 (λa2=>is ?_) λa2=>hn (by rw[aj a2,Bool.and_false]);rw[d0,hV,(hp (by rw[ai a1,ai a2];rfl)).2,Bool.or_true]
def vA (lt gt:Bool):Int:=match lt,gt with
 | true,_=>-1
 | false,true=>1
 | false,false=>0
def QY (x:Int×Int):Option T:=some (T.v (Value.int .i64 (vA (decide (x.1<x.2)) (decide (x.2<x.1)))))
def QZ (x:iII×iII):Option T:=some (T.v (Value.int .i64 (vA (cK x.1 x.2) (cK x.2 x.1))))
def orE:List Int->Int
 | []=>0
 | a::l=>if a=0 then orE l else a
def ATY (l:List Int):Option T:=some (T.v (Value.int .i64 (orE l)))
def BV3:T:=pPP 0
def BV9:T:=pPP (-1)
def BWB:T:=pPP 1
def AOT(a0:Int)(a1:Int)(R:T->Prop):Prop:=aE (!decide (a0=a0)) (aE (!decide (a1=a1)) (R BV3) (R BV9)) (aE (!decide (a1=a1)) (R BWB) (aE (decide (a0<a1)) (R BV9) (aE (decide (a1<a0)) (R BWB) (R BV3))))
abbrev AS4:Sh:=[(false,(Sy.int IntKind.i64)),(false,(Sy.int IntKind.i64))]
noncomputable def UI:List T->Option T:=gS AS4 QY
def A09 {a0 a1}:UI [pPP a0,pPP a1]=QY (a0,a1):=a8 (s:=AS4) rfl (a0,a1) rfl
def BJB:nJ Tryz.prog 244 UI QY (bR AS4) AOT:=eV (a1:=(false,(Sy.int IntKind.i64))) (a2:=(false,(Sy.int IntKind.i64))) (Hs:=c0) (k:=8) (bM _) aV aY (aQ rfl) ⟨_,_,Tryz.func244,rfl⟩ rfl λ_ _ _=>by kernel_rfl
def BH1:aT Tryz.prog 244 UI:=BJB λa b r h hb=>by
 cases h;unfold AOT BWB BV9 BV3;refine kD (λh=>absurd rfl h) λ_=>kD (λh=>absurd rfl h) λ_=>?_;refine b8 (λh=>by unfold vA;rw[ai h]) λh=>?_;refine b8 (λh2=>by unfold vA;rw[aj h,ai h2]) λh2=>by unfold vA;rw[aj h,aj h2]
def AOU(a0:iII)(a1:iII)(R:T->Prop):Prop:=aE (!decide (a0=a0)) (aE (!decide (a1=a1)) (R BV3) (R BV9)) (aE (!decide (a1=a1)) (R BWB) (aE (cK a0 a1) (R BV9) (aE (!(cK a0 a1||decide (a0=a1))) (R BWB) (R BV3))))
abbrev AS5:Sh:=[(false,Sy.str),(false,Sy.str)]
noncomputable def LX:List T->Option T:=gS AS5 QZ
def ZK {a0 a1}:LX [pPQ a0,pPQ a1]=QZ (a0,a1):=a8 (s:=AS5) rfl (a0,a1) rfl
def BJC:nJ Tryz.prog 245 LX QZ (bR AS5) AOU:=eV (a1:=(false,Sy.str)) (a2:=(false,Sy.str)) (Hs:=c0) (k:=8) (bM _) aV aY (aQ rfl) ⟨_,_,Tryz.func245,rfl⟩ rfl λ_ _ _=>by kernel_rfl
def BH2:aT Tryz.prog 245 LX:=BJC λa b r h hb=>by
 cases h;unfold AOU BWB BV9 BV3;refine kD (λh=>absurd rfl h) λ_=>kD (λh=>absurd rfl h) λ_=>?_;rw[oX];refine zQ (λh=>by unfold vA;rw[h]) λh=>?_;refine zQ (λh2=>by unfold vA;rw[h,h2]) λh2=>by unfold vA;rw[h,h2]
def OF (a0:List Int):List T:=[T.sl true (List.map (Sy.int .i64).enc a0)]
def BKX:FuncId->Hint:=bP 243 [(3,.inv [.val 8 false (.int .i64)])] (λ_=>bH)
def BV7:Sy:=Sy.int IntKind.i64
def A55(a0:List Int)(R:T->Prop):Prop:=a7 (Int×PUnit) (λX0 s1=>aE (decide (s1.1<(↑(List.map BV7.enc a0).length:Int))) (aU BV7 (List.map BV7.enc a0) s1.1 λ(y2:Int)=>aE (!decide (y2=0)) (R (pPP y2)) (BWG X0 s1)) (R BV3)) (0,())
def A56 ( a0 R):fE cA Tryz.prog oU BKX 8 243 (OF a0) R=A55 a0 R:=by kernel_rfl
def AXF (x y:List Int) (h:OF x=OF y):x=y:=by
 simp only[OF,List.cons.injEq,T.sl.injEq,true_and,and_true] at h;exact map_inj (Sy.eU (.int .i64)) h
noncomputable def AJ8:List T->Option (T):=gA (λ(x:List Int)=>OF x) ATY
def BAJ (a0:List Int):AJ8 (OF a0)=ATY a0:=gF (A:=(λ(x:List Int)=>OF x)) AXF a0
def BPI (h:∀ (a0:List Int) (r:T),ATY a0=some r->(∀ t∈OF a0,Bd t)->A55 a0 (λy=>y=r)):aT Tryz.prog 243 AJ8 :=
 dA (E:=oU) (Hs:=BKX) (bM _) aV aY (aQ rfl) 8 ⟨_,_,Tryz.func243,rfl⟩ λx r h1 h2=>by
  rw[A56];exact h x r h1 h2
def BNK:aT Tryz.prog 243 AJ8:=BPI λl r h hb=>by
 have hl:l.length<=2 ^ 47:=by
  have:=((BKO _ _).1 (hb _ am)).1;simpa using this
 cases h;have is:∀ {n:Int},orE l=n->pPP n=pPP (orE l):=λh=>by rw[h]
 unfold A55 BWG BV7 BV3;refine bJ l.length (λk s=>s=((k:Int),())/\orE (l.drop k)=orE l) ⟨rfl,rfl⟩ ?_;rintro X k s hk ⟨rfl,he⟩ hX;dsimp only;refine b8 (λhlt=>?_) λhge=>?_
 ·rw[ae] at hlt;have hlt:k<l.length:=by omega
  rw[bA (r:=.int .i64) hlt];rw[List.drop_eq_getElem_cons hlt,orE] at he;refine kD (λh=>is ?_) λh=>hX _ hlt ⟨?_,?_⟩
  ·rw[if_neg h] at he;exact he.symm
  ·rw[show i64.wrap ((k:Int)+1)=((k+1:Nat):Int) by rw[aZ]<;>omega]
  ·rw[if_pos h] at he;exact he
 ·rw[ae] at hge;rw[List.drop_eq_nil_of_le (by omega)] at he;exact is he.symm
def DI (x:cP×cP):Option T:=some (pPR (z6 x.1 x.2))
noncomputable def A4L:Env:=Env.of [(244,.pure UI),(245,.pure LX),(243,.pure AJ8)]
def AOC:bB Tryz.prog A4L:=.cons BH1 (.cons BH2 (.cons BNK (.nil _)))
def BVW:Sh:=[(false,Sy.int IntKind.i64)]
def R5(a0:cP)(a1:cP)(R:T->Prop):Prop:=aJ BVW (UI [pPP a0.1,pPP a1.1]) λ(y0:Int)=>aJ BVW (LX [pPQ a0.2.1,pPQ a1.2.1]) λ(y1:Int)=>aJ BVW (LX [pPQ a0.2.2,pPQ a1.2.2]) λ(y2:Int)=>aJ BVW (AJ8 [T.sl true [[pPP y0],[pPP y1], [pPP y2]]]) λ(y3:Int)=>R (pPR (decide (0<y3)))
abbrev WH:Sh:=[(true,a6),(true,a6)]
noncomputable def sB:List T->Option T:=gS WH DI
def AJ6 {a0 a1}:sB [aH true a6 a0,aH true a6 a1]=DI (a0,a1):=a8 (s:=WH) rfl (a0,a1) rfl
def A2M:nJ Tryz.prog 242 sB DI (bR WH) R5:=eV (a1:=(true,a6)) (a2:=(true,a6)) (Hs:=c0) (k:=8) AOC aV aY (aQ rfl) ⟨_,_,Tryz.func242,rfl⟩ rfl λ_ _ _=>by kernel_rfl
def ZA:aT Tryz.prog 242 sB:=A2M λa b r h hb=>by
 cases h;unfold R5 BVW;refine aM (s:=[(false,.int .i64)]) (A09 ..) ?_;refine aM (s:=[(false,.int .i64)]) (ZK ..) ?_;refine aM (s:=[(false,.int .i64)]) (ZK ..) ?_;refine aM (s:=[(false,.int .i64)]) (y:=orE [vA (decide (a.1<b.1)) (decide (b.1<a.1)),vA (cK a.2.1 b.2.1) (cK b.2.1 a.2.1),vA (cK a.2.2 b.2.2) (cK b.2.2 a.2.2)]) (BAJ [vA (decide (a.1<b.1)) (decide (b.1<a.1)),vA (cK a.2.1 b.2.1) (cK b.2.1 a.2.1),vA (cK a.2.2 b.2.2) (cK b.2.2 a.2.2)]) ?_;refine iG ?_;unfold z6 ltN;have tot:∀ {s t:iII},cK s t=true->cK t s=false/\decide (t=s)=false:=λ{s t} h=>by
  refine ⟨?_,aj λe=>?_⟩
  ·rw[Bool.eq_false_iff];intro h2;have:=BQE h h2;rw[NY] at this;cases this
  ·rw[e,NY] at h;cases h
 have eqS:∀ {s t:iII},cK s t=false->cK t s=false->decide (t=s)=true:=λ{s t} h1 h2=>by
  have h3:=oX s t;rw[h1,h2] at h3;simpa using h3
 rcases Int.lt_trichotomy a.1 b.1 with h|h|h
 ·rw[ai h,aj (show ¬ b.1<a.1 by omega),aj (show ¬ b.1=a.1 by omega)];simp[vA,orE]
 ·rw[aj (show ¬ a.1<b.1 by omega),aj (show ¬ b.1<a.1 by omega),ai h.symm];cases h1:cK a.2.1 b.2.1 with
  | true=>rw[(tot h1).1,(tot h1).2];simp[vA,orE]
  | false =>
   cases h2:cK b.2.1 a.2.1 with
   | true=>simp[vA,orE]
   | false =>
    rw[eqS h1 h2];cases h3:cK a.2.2 b.2.2 with
    | true=>rw[(tot h3).1];simp[vA,orE]
    | false=>cases h4:cK b.2.2 a.2.2<;>simp[vA,orE]
 ·rw[aj (show ¬ a.1<b.1 by omega),ai h];simp[vA,orE]
def AVS (d:aG) (x:bD):aG:=(d.1,iF eA d.2.1 (mX x),d.2.2)
def N3 (x:aG×bD):Option T:=match rB x.1 with
 | true=>some (Sh.enc [(true,aF)] (AVS x.1 x.2))
 | false=>none
noncomputable def BQY:Env:=Env.of [(92,.dup 3 40),(297,.grow 3 vP)]
def BRA:FuncId->Hint:=bP 293 [(2,.inv [.val 8 false (.int .i64)])] (λ_=>bH)
def BGL:bB Tryz.prog BQY:=bB.cons (x:=.dup 3 40) FE (.cons AP9 (.nil _))
def BXW(a0:aG)(y4:List eH):T:=aH true aF (a0.1,y4,a0.2.2.1,a0.2.2.2.1,a0.2.2.2.2.1,a0.2.2.2.2.2)
def BX9(a1:bD):List T:=[pPQ a1.2.2.2.1.1, pPP a1.2.2.2.1.2.1, pPQ a1.2.2.2.1.2.2]
def BWX(a0:aG)(a1:bD)(R:T->Prop):Prop:=bO (((BWQ a0).all λ(r:List T)=>decide (r.length=3)) && decide ((BWQ a0).length*40<=140737488355328) && decide ((BWQ a0).length<=140737488355328)) (fK bC (vP (BWQ a0) [pPP (↑(BWQ a0).length:Int), T.sl true [(BX9 a1)]]) λ(y3:List eH)=>R ((BXW a0 y3)))
def A5P(a0:aG)(a1:bD)(R:T->Prop):Prop:=a7 (Int×PUnit) (λX0 s1=>aE (decide (s1.1<(↑(BWQ a0).length:Int))) (aU bC (BWQ a0) s1.1 λ(y2:eH)=>aE (!(cK y2.1 a1.2.2.2.1.1||decide (y2.1=a1.2.2.2.1.1))) (aE (decide (s1.1<0)) (BWX a0 a1 R) (bO (((BWQ a0).all λ(r:List T)=>decide (r.length=3)) && decide ((BWQ a0).length*40<=140737488355328) && decide ((BWQ a0).length<=140737488355328)) (fK bC (vP (BWQ a0) [pPP s1.1, T.sl true [(BX9 a1)]]) λ(y4:List eH)=>R ((BXW a0 y4))))) (BWG X0 s1)) (BWX a0 a1 R)) (0,())
abbrev BD8:Sh:=[(true,aF),(true,aW)]
noncomputable def AJP:List T->Option T:=gS BD8 N3
def A96 {a0 a1}:AJP [aH true aF a0,aH true aW a1]=N3 (a0,a1):=a8 (s:=BD8) rfl (a0,a1) rfl
def BO4:nJ Tryz.prog 158 AJP N3 (bR BD8) A5P:=eV (a1:=(true,aF)) (a2:=(true,aW)) (Hs:=BRA) (k:=8) BGL aV aY (aQ rfl) ⟨_,_,Tryz.func158,rfl⟩ rfl λ_ _ _=>by kernel_rfl
def BM6:aT Tryz.prog 158 AJP:=BO4 λd x r h hb=>by
 clear hb;have hp:rB d=true:=by
  unfold N3 at h;split at h
  ·assumption
  ·cases h
 have e:Sh.enc [(true,aF)] (AVS d x)=r:=by
  unfold N3 at h;rw[show rB (d,x).1=true from hp] at h;exact Option.some.inj h
 subst e;clear h;have c:=fY hp;have hd:=AG (r:=bC) (l:=d.2.1) (z:=3) (b:=40) rfl (eG c.n (by decide));unfold A5P BWX BX9 BXW BWQ BWG;refine cZ (r:=bC) (λy=>eA y (mX x)) (qO c.n) (λX k y hk hy hp hn=>?_) (λh _=>?_)
 ·dsimp only;rw[oX];refine zQ (λh=>?_) λh=>hn h;obtain ⟨hi,_⟩:=hp h;refine b8 (λh=>by omega) λ_=>⟨hd,?_⟩
  refine eT (r:=bC) (l:=d.2.1.take k++mX x::d.2.1.drop k) (uP (r:=bC) (x:=mX x) rfl (by omega) c.n (by decide)) _ ?_;unfold AVS iF;rw[hi];rfl
 ·refine ⟨hd,?_⟩;rw[show (((List.map (bC).enc d.2.1).length:Nat):Int)=(((d.2.1).length:Nat):Int) by rw[ae]];refine eT (r:=bC) (l:=d.2.1.take (d.2.1).length++mX x::d.2.1.drop (d.2.1).length) (uP (r:=bC) (x:=mX x) rfl (al _) c.n (by decide)) _ ?_;unfold AVS iF;rw[h];rfl
def AVW (d:aG) (x:bD):aG:=(d.1,d.2.1,d.2.2.1,iF eA d.2.2.2.1 (rZ x),d.2.2.2.2)
def N7 (x:aG×bD):Option T:=match rB x.1 with
 | true=>some (Sh.enc [(true,aF)] (AVW x.1 x.2))
 | false=>none
noncomputable def BQ2:Env:=Env.of [(93,.dup 6 72),(305,.grow 6 vR)]
def BRE:FuncId->Hint:=bP 299 [(2,.inv [.val 8 false (.int .i64)])] (λ_=>bH)
def BGP:bB Tryz.prog BQ2:=bB.cons (x:=.dup 6 72) FH (.cons AQB (.nil _))
def BW5(a1:bD):List T:=[pPQ a1.2.2.2.2.2.1.1, pPQ a1.2.2.2.2.2.1.2.1, pPQ a1.2.2.2.2.2.1.2.2.1, pPP a1.2.2.2.2.2.1.2.2.2.1, pPP a1.2.2.2.2.2.1.2.2.2.2.1, pPP a1.2.2.2.2.2.1.2.2.2.2.2]
def BXZ(a0:aG)(y4:List gE):T:=aH true aF (a0.1,a0.2.1,a0.2.2.1,y4,a0.2.2.2.2.1,a0.2.2.2.2.2)
def BWU(a0:aG)(a1:bD)(R:T->Prop):Prop:=bO (((BWO a0).all λ(r:List T)=>decide (r.length=6)) && decide ((BWO a0).length*72<=140737488355328) && decide ((BWO a0).length<=140737488355328)) (fK bI (vR (BWO a0) [pPP (↑(BWO a0).length:Int), T.sl true [(BW5 a1)]]) λ(y3:List gE)=>R ((BXZ a0 y3)))
def A5T(a0:aG)(a1:bD)(R:T->Prop):Prop:=a7 (Int×PUnit) (λX0 s1=>aE (decide (s1.1<(↑(BWO a0).length:Int))) (aU bI (BWO a0) s1.1 λ(y2:gE)=>aE (!(cK y2.1 a1.2.2.2.2.2.1.1||decide (y2.1=a1.2.2.2.2.2.1.1))) (aE (decide (s1.1<0)) (BWU a0 a1 R) (bO (((BWO a0).all λ(r:List T)=>decide (r.length=6)) && decide ((BWO a0).length*72<=140737488355328) && decide ((BWO a0).length<=140737488355328)) (fK bI (vR (BWO a0) [pPP s1.1, T.sl true [(BW5 a1)]]) λ(y4:List gE)=>R ((BXZ a0 y4))))) (BWG X0 s1)) (BWU a0 a1 R)) (0,())
abbrev BEC:Sh:=[(true,aF),(true,aW)]
noncomputable def AJT:List T->Option T:=gS BEC N7
def BAA {a0 a1}:AJT [aH true aF a0,aH true aW a1]=N7 (a0,a1):=a8 (s:=BEC) rfl (a0,a1) rfl
def BO8:nJ Tryz.prog 206 AJT N7 (bR BEC) A5T:=eV (a1:=(true,aF)) (a2:=(true,aW)) (Hs:=BRE) (k:=8) BGP aV aY (aQ rfl) ⟨_,_,Tryz.func206,rfl⟩ rfl λ_ _ _=>by kernel_rfl
def BNA:aT Tryz.prog 206 AJT:=BO8 λd x r h hb=>by
 clear hb;have hp:rB d=true:=by
  unfold N7 at h;split at h
  ·assumption
  ·cases h
 have e:Sh.enc [(true,aF)] (AVW d x)=r:=by
  unfold N7 at h;rw[show rB (d,x).1=true from hp] at h;exact Option.some.inj h
 subst e;clear h;have c:=fY hp;have hd:=AG (r:=bI) (l:=d.2.2.2.1) (z:=6) (b:=72) rfl (eG c.s (by decide));unfold A5T BWU BXZ BW5 BWO BWG;refine cZ (r:=bI) (λy=>eA y (rZ x)) (qO c.s) (λX k y hk hy hp hn=>?_) (λh _=>?_)
 ·dsimp only;rw[oX];refine zQ (λh=>?_) λh=>hn h;obtain ⟨hi,_⟩:=hp h;refine b8 (λh=>by omega) λ_=>⟨hd,?_⟩
  refine eT (r:=bI) (l:=d.2.2.2.1.take k++rZ x::d.2.2.2.1.drop k) (uP (r:=bI) (x:=rZ x) rfl (by omega) c.s (by decide)) _ ?_;unfold AVW iF;rw[hi];rfl
 ·refine ⟨hd,?_⟩;rw[show (((List.map (bI).enc d.2.2.2.1).length:Nat):Int)=(((d.2.2.2.1).length:Nat):Int) by rw[ae]];refine eT (r:=bI) (l:=d.2.2.2.1.take (d.2.2.2.1).length++rZ x::d.2.2.2.1.drop (d.2.2.2.1).length) (uP (r:=bI) (x:=rZ x) rfl (al _) c.s (by decide)) _ ?_;unfold AVW iF;rw[h];rfl
def AVT (d:aG) (x:bD):aG:=(d.1,jP (dX (fM x)) d.2.1,d.2.2)
def N4 (x:aG×bD):Option T:=match rB x.1 with
 | true=>some (Sh.enc [(true,aF)] (AVT x.1 x.2))
 | false=>none
noncomputable def BQZ:Env:=Env.of [(92,.dup 3 40),(298,.grow 3 LY)]
def BRB:FuncId->Hint:=bP 293 [(2,.inv [.val 8 false (.int .i64)])] (λ_=>bH)
def BGM:bB Tryz.prog BQZ:=bB.cons (x:=.dup 3 40) FE (.cons AP3 (.nil _))
def BXA(a0:aG)(R:T->Prop):Prop:=bO (((BWQ a0).all λ(r:List T)=>decide (r.length=3)) && decide ((BWQ a0).length*40<=140737488355328) && decide ((BWQ a0).length<=140737488355328)) (R (aH true aF a0))
def A5Q(a0:aG)(a1:bD)(R:T->Prop):Prop:=a7 (Int×PUnit) (λX0 s1=>aE (decide (s1.1<(↑(BWQ a0).length:Int))) (aU bC (BWQ a0) s1.1 λ(y2:eH)=>aE (decide (y2.1=a1.2.1)) (aE (decide (s1.1<0)) (BXA a0 R) (bO (((BWQ a0).all λ(r:List T)=>decide (r.length=3)) && decide ((BWQ a0).length*40<=140737488355328) && decide ((BWQ a0).length<=140737488355328)) (fK bC (LY (BWQ a0) (BW3 s1)) λ(y3:List eH)=>R ((BXW a0 y3))))) (BWG X0 s1)) (BXA a0 R)) (0,())
abbrev BD9:Sh:=[(true,aF),(true,aW)]
noncomputable def AJQ:List T->Option T:=gS BD9 N4
def A97 {a0 a1}:AJQ [aH true aF a0,aH true aW a1]=N4 (a0,a1):=a8 (s:=BD9) rfl (a0,a1) rfl
def BO5:nJ Tryz.prog 165 AJQ N4 (bR BD9) A5Q:=eV (a1:=(true,aF)) (a2:=(true,aW)) (Hs:=BRB) (k:=8) BGM aV aY (aQ rfl) ⟨_,_,Tryz.func165,rfl⟩ rfl λ_ _ _=>by kernel_rfl
def BM7:aT Tryz.prog 165 AJQ:=BO5 λd x r h hb=>by
 clear hb;have hp:rB d=true:=by
  unfold N4 at h;split at h
  ·assumption
  ·cases h
 have e:Sh.enc [(true,aF)] (AVT d x)=r:=by
  unfold N4 at h;rw[show rB (d,x).1=true from hp] at h;exact Option.some.inj h
 subst e;clear h;have c:=fY hp;have hd:=AG (r:=bC) (l:=d.2.1) (z:=3) (b:=40) rfl (eG c.n (by decide));unfold A5Q BXA BW3 BXW BWQ BWG;refine cZ (r:=bC) (λy=>dX (fM x) y) (qO c.n) (λX k y hk hy hp hn=>?_) (λh _=>?_)
 ·dsimp only;refine b8 (λh=>?_) λh=>hn (aj h);obtain ⟨hi,_⟩:=hp (ai h);refine b8 (λh=>by omega) λ_=>⟨hd,?_⟩
  refine eT (r:=bC) (l:=d.2.1.take k++d.2.1.drop (k+1)) (LK (r:=bC) rfl hk c.n) _ ?_;unfold AVT jP;rw[show List.findIdx (dX (fM x)) d.2.1=k from hi];rfl
 ·refine ⟨hd,?_⟩;unfold AVT;rw[AE (is:=dX (fM x)) h];rfl
def AVV (d:aG) (x:bD):aG:=(d.1,d.2.1,jP (dX (fM x)) d.2.2.1,d.2.2.2)
def N6 (x:aG×bD):Option T:=match rB x.1 with
 | true=>some (Sh.enc [(true,aF)] (AVV x.1 x.2))
 | false=>none
noncomputable def BQ1:Env:=Env.of [(95,.dup 18 208),(303,.grow 18 LZ)]
def BRD:FuncId->Hint:=bP 193 [(2,.inv [.val 8 false (.int .i64)])] (λ_=>bH)
def BGO:bB Tryz.prog BQ1:=bB.cons (x:=.dup 18 208) FF (.cons AP4 (.nil _))
def BXY(a0:aG)(y3:List bG):T:=aH true aF (a0.1,a0.2.1,y3,a0.2.2.2.1,a0.2.2.2.2.1,a0.2.2.2.2.2)
def BW8(a0:aG)(R:T->Prop):Prop:=bO (((BWL a0).all λ(r:List T)=>decide (r.length=18)) && decide ((BWL a0).length*208<=140737488355328) && decide ((BWL a0).length<=140737488355328)) (R (aH true aF a0))
def A5S(a0:aG)(a1:bD)(R:T->Prop):Prop:=a7 (Int×PUnit) (λX0 s1=>aE (decide (s1.1<(↑(BWL a0).length:Int))) (aU aS (BWL a0) s1.1 λ(y2:bG)=>aE (decide (y2.1=a1.2.1)) (aE (decide (s1.1<0)) (BW8 a0 R) (bO (((BWL a0).all λ(r:List T)=>decide (r.length=18)) && decide ((BWL a0).length*208<=140737488355328) && decide ((BWL a0).length<=140737488355328)) (fK aS (LZ (BWL a0) (BW3 s1)) λ(y3:List bG)=>R ((BXY a0 y3))))) (BWG X0 s1)) (BW8 a0 R)) (0,())
abbrev BEB:Sh:=[(true,aF),(true,aW)]
noncomputable def AJS:List T->Option T:=gS BEB N6
def A99 {a0 a1}:AJS [aH true aF a0,aH true aW a1]=N6 (a0,a1):=a8 (s:=BEB) rfl (a0,a1) rfl
def BO7:nJ Tryz.prog 184 AJS N6 (bR BEB) A5S:=eV (a1:=(true,aF)) (a2:=(true,aW)) (Hs:=BRD) (k:=8) BGO aV aY (aQ rfl) ⟨_,_,Tryz.func184,rfl⟩ rfl λ_ _ _=>by kernel_rfl
def BM9:aT Tryz.prog 184 AJS:=BO7 λd x r h hb=>by
 clear hb;have hp:rB d=true:=by
  unfold N6 at h;split at h
  ·assumption
  ·cases h
 have e:Sh.enc [(true,aF)] (AVV d x)=r:=by
  unfold N6 at h;rw[show rB (d,x).1=true from hp] at h;exact Option.some.inj h
 subst e;clear h;have c:=fY hp;have hd:=AG (r:=aS) (l:=d.2.2.1) (z:=18) (b:=208) rfl (eG c.p (by decide));unfold A5S BW8 BW3 BXY BWL BWG;refine cZ (r:=aS) (λy=>dX (fM x) y) (qO c.p) (λX k y hk hy hp hn=>?_) (λh _=>?_)
 ·dsimp only;refine b8 (λh=>?_) λh=>hn (aj h);obtain ⟨hi,_⟩:=hp (ai h);refine b8 (λh=>by omega) λ_=>⟨hd,?_⟩
  refine eT (r:=aS) (l:=d.2.2.1.take k++d.2.2.1.drop (k+1)) (LK (r:=aS) rfl hk c.p) _ ?_;unfold AVV jP;rw[show List.findIdx (dX (fM x)) d.2.2.1=k from hi];rfl
 ·refine ⟨hd,?_⟩;unfold AVV;rw[AE (is:=dX (fM x)) h];rfl
def AVX (d:aG) (x:bD):aG:=(d.1,d.2.1,d.2.2.1,jP (dX (fM x)) d.2.2.2.1,d.2.2.2.2)
def N8 (x:aG×bD):Option T:=match rB x.1 with
 | true=>some (Sh.enc [(true,aF)] (AVX x.1 x.2))
 | false=>none
noncomputable def BQ3:Env:=Env.of [(93,.dup 6 72),(306,.grow 6 L0)]
def BRF:FuncId->Hint:=bP 299 [(2,.inv [.val 8 false (.int .i64)])] (λ_=>bH)
def BGQ:bB Tryz.prog BQ3:=bB.cons (x:=.dup 6 72) FH (.cons AP5 (.nil _))
def BXB(a0:aG)(R:T->Prop):Prop:=bO (((BWO a0).all λ(r:List T)=>decide (r.length=6)) && decide ((BWO a0).length*72<=140737488355328) && decide ((BWO a0).length<=140737488355328)) (R (aH true aF a0))
def A5U(a0:aG)(a1:bD)(R:T->Prop):Prop:=a7 (Int×PUnit) (λX0 s1=>aE (decide (s1.1<(↑(BWO a0).length:Int))) (aU bI (BWO a0) s1.1 λ(y2:gE)=>aE (decide (y2.1=a1.2.1)) (aE (decide (s1.1<0)) (BXB a0 R) (bO (((BWO a0).all λ(r:List T)=>decide (r.length=6)) && decide ((BWO a0).length*72<=140737488355328) && decide ((BWO a0).length<=140737488355328)) (fK bI (L0 (BWO a0) (BW3 s1)) λ(y3:List gE)=>R ((BXZ a0 y3))))) (BWG X0 s1)) (BXB a0 R)) (0,())
abbrev BED:Sh:=[(true,aF),(true,aW)]
noncomputable def AJU:List T->Option T:=gS BED N8
def BAB {a0 a1}:AJU [aH true aF a0,aH true aW a1]=N8 (a0,a1):=a8 (s:=BED) rfl (a0,a1) rfl
def BO9:nJ Tryz.prog 213 AJU N8 (bR BED) A5U:=eV (a1:=(true,aF)) (a2:=(true,aW)) (Hs:=BRF) (k:=8) BGQ aV aY (aQ rfl) ⟨_,_,Tryz.func213,rfl⟩ rfl λ_ _ _=>by kernel_rfl
def BNB:aT Tryz.prog 213 AJU:=BO9 λd x r h hb=>by
 clear hb;have hp:rB d=true:=by
  unfold N8 at h;split at h
  ·assumption
  ·cases h
 have e:Sh.enc [(true,aF)] (AVX d x)=r:=by
  unfold N8 at h;rw[show rB (d,x).1=true from hp] at h;exact Option.some.inj h
 subst e;clear h;have c:=fY hp;have hd:=AG (r:=bI) (l:=d.2.2.2.1) (z:=6) (b:=72) rfl (eG c.s (by decide));unfold A5U BXB BW3 BXZ BWO BWG;refine cZ (r:=bI) (λy=>dX (fM x) y) (qO c.s) (λX k y hk hy hp hn=>?_) (λh _=>?_)
 ·dsimp only;refine b8 (λh=>?_) λh=>hn (aj h);obtain ⟨hi,_⟩:=hp (ai h);refine b8 (λh=>by omega) λ_=>⟨hd,?_⟩
  refine eT (r:=bI) (l:=d.2.2.2.1.take k++d.2.2.2.1.drop (k+1)) (LK (r:=bI) rfl hk c.s) _ ?_;unfold AVX jP;rw[show List.findIdx (dX (fM x)) d.2.2.2.1=k from hi];rfl
 ·refine ⟨hd,?_⟩;unfold AVX;rw[AE (is:=dX (fM x)) h];rfl
def AEP (d:aG) (x:bD):aG:=(d.1,d.2.1,d.2.2.1,d.2.2.2.1,jP (dX (fM x)) d.2.2.2.2.1,d.2.2.2.2.2)
def DC (x:aG×bD):Option T:=match rB x.1 with
 | true=>some (Sh.enc [(true,aF)] (AEP x.1 x.2))
 | false=>none
noncomputable def BL0:Env:=Env.of [(96,.dup 5 88),(307,.grow 5 nR)]
def BL6:FuncId->Hint:=bP 294 [(2,.inv [.val 8 false (.int .i64)])] (λ_=>bH)
def A42:bB Tryz.prog BL0:=bB.cons (x:=.dup 5 88) o4 (.cons ED (.nil _))
def BXD(a0:aG)(y3:List bE):T:=aH true aF (a0.1,a0.2.1,a0.2.2.1,a0.2.2.2.1,y3,a0.2.2.2.2.2)
def AOV(a0:aG)(a1:bD)(R:T->Prop):Prop:=a7 (Int×PUnit) (λX0 s1=>aE (decide (s1.1<(↑(BWI a0).length:Int))) (aU aK (BWI a0) s1.1 λ(y2:bE)=>aE (decide (y2.1=a1.2.1)) (aE (decide (s1.1<0)) (bO (((BWI a0).all λ(r:List T)=>decide (r.length=5)) && decide ((BWI a0).length*88<=140737488355328) && decide ((BWI a0).length<=140737488355328)) (R (aH true aF a0))) (bO (((BWI a0).all λ(r:List T)=>decide (r.length=5)) && decide ((BWI a0).length*88<=140737488355328) && decide ((BWI a0).length<=140737488355328)) (fK aK (nR (BWI a0) (BW3 s1)) λ(y3:List bE)=>R ((BXD a0 y3))))) (BWG X0 s1)) (bO (((BWI a0).all λ(r:List T)=>decide (r.length=5)) && decide ((BWI a0).length*88<=140737488355328) && decide ((BWI a0).length<=140737488355328)) (R (aH true aF a0)))) (0,())
abbrev AS6:Sh:=[(true,aF),(true,aW)]
noncomputable def UK:List T->Option T:=gS AS6 DC
def A1A {a0 a1}:UK [aH true aF a0,aH true aW a1]=DC (a0,a1):=a8 (s:=AS6) rfl (a0,a1) rfl
def BJE:nJ Tryz.prog 234 UK DC (bR AS6) AOV:=eV (a1:=(true,aF)) (a2:=(true,aW)) (Hs:=BL6) (k:=8) A42 aV aY (aQ rfl) ⟨_,_,Tryz.func234,rfl⟩ rfl λ_ _ _=>by kernel_rfl
def BH3:aT Tryz.prog 234 UK:=BJE λd x r h hb=>by
 clear hb;have hp:rB d=true:=by
  unfold DC at h;split at h
  ·assumption
  ·cases h
 have e:Sh.enc [(true,aF)] (AEP d x)=r:=by
  unfold DC at h;rw[show rB (d,x).1=true from hp] at h;exact Option.some.inj h
 subst e;clear h;have c:=fY hp;have hd:=AG (r:=aK) (l:=d.2.2.2.2.1) (z:=5) (b:=88) rfl (eG c.k (by decide));unfold AOV BXD BW3 BWI BWG;refine cZ (r:=aK) (λy=>dX (fM x) y) (qO c.k) (λX k y hk hy hp hn=>?_) (λh _=>?_)
 ·dsimp only;refine b8 (λh=>?_) λh=>hn (aj h);obtain ⟨hi,_⟩:=hp (ai h);refine b8 (λh=>by omega) λ_=>⟨hd,?_⟩
  refine eT (r:=aK) (l:=d.2.2.2.2.1.take k++d.2.2.2.2.1.drop (k+1)) (LK (r:=aK) rfl hk c.k) _ ?_;unfold AEP jP;rw[show List.findIdx (dX (fM x)) d.2.2.2.2.1=k from hi];rfl
 ·refine ⟨hd,?_⟩;unfold AEP;rw[AE (is:=dX (fM x)) h];rfl
def AVU (d:aG) (x:bD):aG:=(d.1,d.2.1,iF eA d.2.2.1 (cR x),d.2.2.2)
def N5 (x:aG×bD):Option T:=match rB x.1&&iA (cR x.2) with
 | true=>some (Sh.enc [(true,aF)] (AVU x.1 x.2))
 | false=>none
noncomputable def BQ0:Env:=Env.of [(97,.pure jJ),(95,.dup 18 208),(302,.grow 18 vQ)]
def BRC:FuncId->Hint:=bP 193 [(2,.inv [.val 8 false (.int .i64)])] (λ_=>bH)
def BGN:bB Tryz.prog BQ0:=.cons xQ (bB.cons (x:=.dup 18 208) FF (.cons AQA (.nil _)))
def BW1(a0:aG)(y0:bG)(R:T->Prop):Prop:=bO (((BWL a0).all λ(r:List T)=>decide (r.length=18)) && decide ((BWL a0).length*208<=140737488355328) && decide ((BWL a0).length<=140737488355328)) (fK aS (vQ (BWL a0) [pPP (↑(BWL a0).length:Int), T.sl true [(aS.enc y0)]]) λ(y4:List bG)=>R ((BXY a0 y4)))
def A5R(a0:aG)(a1:bD)(R:T->Prop):Prop:=aJ [(true,aS)] (jJ [aH true aS a1.2.2.2.2.1]) λ(y0:bG)=>a7 (Int×PUnit) (λX1 s2=>aE (decide (s2.1<(↑(BWL a0).length:Int))) (aU aS (BWL a0) s2.1 λ(y3:bG)=>aE (!(cK y3.1 y0.1||decide (y3.1=y0.1))) (aE (decide (s2.1<0)) (BW1 a0 y0 R) (bO (((BWL a0).all λ(r:List T)=>decide (r.length=18)) && decide ((BWL a0).length*208<=140737488355328) && decide ((BWL a0).length<=140737488355328)) (fK aS (vQ (BWL a0) [pPP s2.1, T.sl true [(aS.enc y0)]]) λ(y5:List bG)=>R ((BXY a0 y5))))) (BWG X1 s2)) (BW1 a0 y0 R)) (0,())
abbrev BEA:Sh:=[(true,aF),(true,aW)]
noncomputable def AJR:List T->Option T:=gS BEA N5
def A98 {a0 a1}:AJR [aH true aF a0,aH true aW a1]=N5 (a0,a1):=a8 (s:=BEA) rfl (a0,a1) rfl
def BO6:nJ Tryz.prog 177 AJR N5 (bR BEA) A5R:=eV (a1:=(true,aF)) (a2:=(true,aW)) (Hs:=BRC) (k:=8) BGN aV aY (aQ rfl) ⟨_,_,Tryz.func177,rfl⟩ rfl λ_ _ _=>by kernel_rfl
def BM8:aT Tryz.prog 177 AJR:=BO6 λd x r h hb=>by
 clear hb;have hq:(rB d&&iA (cR x))=true:=by
  unfold N5 at h;split at h
  ·assumption
  ·cases h
 have e:Sh.enc [(true,aF)] (AVU d x)=r:=by
  unfold N5 at h;rw[show (rB (d,x).1&&iA (cR (d,x).2))=true from hq] at h;exact Option.some.inj h
 subst e;clear h;rw[ac] at hq;obtain ⟨hp,ho⟩:=hq;have c:=fY hp;have hd:=AG (r:=aS) (l:=d.2.2.1) (z:=18) (b:=208) rfl (eG c.p (by decide));unfold A5R BW1 BXY BWL BWG;refine aM (s:=[(true,aS)]) (y:=cR x) ((xV ..).trans (by unfold jZ;rw[ho])) ?_;refine cZ (r:=aS) (λy=>eA y (cR x)) (qO c.p) (λX k y hk hy hp hn=>?_) (λh _=>?_)
 ·dsimp only;rw[oX];refine zQ (λh=>?_) λh=>hn h;obtain ⟨hi,_⟩:=hp h;refine b8 (λh=>by omega) λ_=>⟨hd,?_⟩
  refine eT (r:=aS) (l:=d.2.2.1.take k++cR x::d.2.2.1.drop k) (uP (r:=aS) (x:=cR x) rfl (by omega) c.p (by decide)) _ ?_;unfold AVU iF;rw[hi];rfl
 ·refine ⟨hd,?_⟩;rw[show (((List.map (aS).enc d.2.2.1).length:Nat):Int)=(((d.2.2.1).length:Nat):Int) by rw[ae]];refine eT (r:=aS) (l:=d.2.2.1.take (d.2.2.1).length++cR x::d.2.2.1.drop (d.2.2.1).length) (uP (r:=aS) (x:=cR x) rfl (al _) c.p (by decide)) _ ?_;unfold AVU iF;rw[h];rfl
def AVY (d:aG) (x:bD):aG:=(d.1,d.2.1,d.2.2.1,d.2.2.2.1,iF eA d.2.2.2.2.1 (gW x),d.2.2.2.2.2)
def N9 (x:aG×bD):Option T:=match rB x.1&&fZ (gW x.2) with
 | true=>some (Sh.enc [(true,aF)] (AVY x.1 x.2))
 | false=>none
noncomputable def BQ4:Env:=Env.of [(98,.pure oN),(96,.dup 5 88),(309,.grow 5 nT)]
def BRG:FuncId->Hint:=bP 294 [(2,.inv [.val 8 false (.int .i64)])] (λ_=>bH)
def BGR:bB Tryz.prog BQ4:=.cons TZ (bB.cons (x:=.dup 5 88) o4 (.cons YH (.nil _)))
def BW2(y0:bE):List T:=[pPQ y0.1,pPQ y0.2.1, T.sl false (List.map Sy.str.enc y0.2.2.1), pPP y0.2.2.2.1, T.sl false (BX3 y0)]
def BX5(a0:aG)(y0:bE)(R:T->Prop):Prop:=fK aK (nT (BWI a0) [pPP (↑(BWI a0).length:Int), T.sl true [(BW2 y0)]]) λ(y4:List bE)=>R ((BXD a0 y4))
def A5V(a0:aG)(a1:bD)(R:T->Prop):Prop:=aJ [(true,aK)] (oN [aH true aK a1.2.2.2.2.2.2.1]) λ(y0:bE)=>a7 (Int×PUnit) (λX1 s2=>aE (decide (s2.1<(↑(BWI a0).length:Int))) (aU aK (BWI a0) s2.1 λ(y3:bE)=>aE (!(cK y3.1 y0.1||decide (y3.1=y0.1))) (aE (decide (s2.1<0)) (bO (((BWI a0).all λ(r:List T)=>decide (r.length=5)) && decide ((BWI a0).length*88<=140737488355328) && decide ((BWI a0).length<=140737488355328)) (BX5 a0 y0 R)) (bO (((BWI a0).all λ(r:List T)=>decide (r.length=5)) && decide ((BWI a0).length*88<=140737488355328) && decide ((BWI a0).length<=140737488355328)) (fK aK (nT (BWI a0) [pPP s2.1, T.sl true [(BW2 y0)]]) λ(y5:List bE)=>R ((BXD a0 y5))))) (BWG X1 s2)) (bO (((BWI a0).all λ(r:List T)=>decide (r.length=5)) && decide ((BWI a0).length*88<=140737488355328) && decide ((BWI a0).length<=140737488355328)) (BX5 a0 y0 R))) (0,())
abbrev BEE:Sh:=[(true,aF),(true,aW)]
noncomputable def AJV:List T->Option T:=gS BEE N9
def BAC {a0 a1}:AJV [aH true aF a0,aH true aW a1]=N9 (a0,a1):=a8 (s:=BEE) rfl (a0,a1) rfl
def BPA:nJ Tryz.prog 226 AJV N9 (bR BEE) A5V:=eV (a1:=(true,aF)) (a2:=(true,aW)) (Hs:=BRG) (k:=8) BGR aV aY (aQ rfl) ⟨_,_,Tryz.func226,rfl⟩ rfl λ_ _ _=>by kernel_rfl
def BNC:aT Tryz.prog 226 AJV:=BPA λd x r h hb=>by
 clear hb;have hq:(rB d&&fZ (gW x))=true:=by
  unfold N9 at h;split at h
  ·assumption
  ·cases h
 have e:Sh.enc [(true,aF)] (AVY d x)=r:=by
  unfold N9 at h;rw[show (rB (d,x).1&&fZ (gW (d,x).2))=true from hq] at h;exact Option.some.inj h
 subst e;clear h;rw[ac] at hq;obtain ⟨hp,ho⟩:=hq;have c:=fY hp;have hd:=AG (r:=aK) (l:=d.2.2.2.2.1) (z:=5) (b:=88) rfl (eG c.k (by decide));unfold A5V BX5 BXD BW2 BX3 BWI BWG;refine aM (s:=[(true,aK)]) (y:=gW x) ((HN ..).trans (by unfold kX;rw[ho])) ?_;refine cZ (r:=aK) (λy=>eA y (gW x)) (qO c.k) (λX k y hk hy hp hn=>?_) (λh _=>?_)
 ·dsimp only;rw[oX];refine zQ (λh=>?_) λh=>hn h;obtain ⟨hi,_⟩:=hp h;refine b8 (λh=>by omega) λ_=>⟨hd,?_⟩
  refine eT (r:=aK) (l:=d.2.2.2.2.1.take k++gW x::d.2.2.2.2.1.drop k) (uP (r:=aK) (x:=gW x) rfl (by omega) c.k (by decide)) _ ?_;unfold AVY iF;rw[hi];rfl
 ·refine ⟨hd,?_⟩;rw[show (((List.map (aK).enc d.2.2.2.2.1).length:Nat):Int)=(((d.2.2.2.2.1).length:Nat):Int) by rw[ae]];refine eT (r:=aK) (l:=d.2.2.2.2.1.take (d.2.2.2.2.1).length++gW x::d.2.2.2.2.1.drop (d.2.2.2.2.1).length) (uP (r:=aK) (x:=gW x) rfl (al _) c.k (by decide)) _ ?_;unfold AVY iF;rw[h];rfl
end Go.Pv
namespace Go.Pv
open Go Go.Proofs IntKind
noncomputable def UJ:List T->Option T:=fG
def QK:LA Tryz.prog 36 2 UJ :=
 BDI (E:=ANQ) (Hs:=AO9) AG2 aV aY (aQ rfl) 8 ⟨_,_,Tryz.func36,rfl⟩ (s:=V5) rfl λd r h hb=>by
  have hp:rB d=true:=by
   unfold rD at h;split at h
   ·assumption
   ·cases h
  have e:Sh.enc [(true,aF)] d=r:=by
   unfold rD at h;rw[hp] at h;exact Option.some.inj h
  subst e;rw[show AGK cA Tryz.prog ANQ AO9 8 2 36 (Sh.lD V5 d) (λy=>y=Sh.enc [(true,aF)] d)=RU d (λy=>y=Sh.enc [(true,aF)] d) from by kernel_rfl];exact A74 hp
def AGB (x:bD):Option T:=some (Sh.enc [(true,aW)] ((x.1,cC,cC,dI,cR x,dS,noPack,jO):bD))
def A6B(a0:bD)(R:T->Prop):Prop:=R (T.agg [pPP a0.1,pPQ ({data:=#[]}), pPQ ({data:=#[]}),pPQ ({data:=#[]}), pPP 0,pPQ ({data:=#[]}), pPQ a0.2.2.2.2.1.1, pPP a0.2.2.2.2.1.2.1, pPP a0.2.2.2.2.1.2.2.1, pPQ a0.2.2.2.2.1.2.2.2.1, pPQ a0.2.2.2.2.1.2.2.2.2.1, pPP a0.2.2.2.2.1.2.2.2.2.2.1, T.sl false (List.map aC.enc a0.2.2.2.2.1.2.2.2.2.2.2.1.1), T.sl false (List.map aC.li.enc a0.2.2.2.2.1.2.2.2.2.2.2.1.2), pPQ a0.2.2.2.2.1.2.2.2.2.2.2.2.1, pPP a0.2.2.2.2.1.2.2.2.2.2.2.2.2.1, pPP a0.2.2.2.2.1.2.2.2.2.2.2.2.2.2.1, pPP a0.2.2.2.2.1.2.2.2.2.2.2.2.2.2.2.1.1, pPP a0.2.2.2.2.1.2.2.2.2.2.2.2.2.2.2.1.2.1, pPP a0.2.2.2.2.1.2.2.2.2.2.2.2.2.2.2.1.2.2, pPP a0.2.2.2.2.1.2.2.2.2.2.2.2.2.2.2.2.1.1, pPP a0.2.2.2.2.1.2.2.2.2.2.2.2.2.2.2.2.1.2.1, pPP a0.2.2.2.2.1.2.2.2.2.2.2.2.2.2.2.2.1.2.2, pPP a0.2.2.2.2.1.2.2.2.2.2.2.2.2.2.2.2.2, pPQ ({data:=#[]}),pPQ ({data:=#[]}), pPQ ({data:=#[]}),pPP 0, pPP 0,pPP 0, pPQ ({data:=#[]}),pPQ ({data:=#[]}),T.sl false [], pPP 0,T.sl false [],pPP 0, pPQ ({data:=#[]}),pPQ ({data:=#[]})])
abbrev BEM:Sh:=[(true,aW)]
noncomputable def ZR:List T->Option T:=gS BEM AGB
def BAO {a0}:ZR [aH true aW a0]=AGB (a0):=a8 (s:=BEM) rfl (a0) rfl
def BPN:lW Tryz.prog 189 ZR AGB (bR BEM) A6B:=eN (a1:=(true,aW)) (Hs:=c0) (k:=8) (bM _) aV aY (aQ rfl) ⟨_,_,Tryz.func189,rfl⟩ rfl λ_ _=>by kernel_rfl
def BNP:aT Tryz.prog 189 ZR:=BPN λx r h hb=>by
 cases h;unfold A6B;rfl
def AGC (x:bD):Option T:=some (Sh.enc [(true,aW)] ((x.1,fM x,eTo x,dI,cO,dS,noPack,jO):bD))
def A6C(a0:bD)(R:T->Prop):Prop:=R (T.agg [pPP a0.1,pPQ a0.2.1, pPQ a0.2.2.1,pPQ ({data:=#[]}), pPP 0,pPQ ({data:=#[]}), pPQ ({data:=#[]}),pPP 0, pPP 0,pPQ ({data:=#[]}), pPQ ({data:=#[]}),pPP 0,T.sl false [], T.sl false [],pPQ ({data:=#[]}),pPP 0, pPP 0,pPP 0, pPP 0,pPP 0, pPP 0,pPP 0, pPP 0,pPP 0, pPQ ({data:=#[]}),pPQ ({data:=#[]}), pPQ ({data:=#[]}),pPP 0, pPP 0,pPP 0, pPQ ({data:=#[]}),pPQ ({data:=#[]}),T.sl false [], pPP 0,T.sl false [],pPP 0, pPQ ({data:=#[]}),pPQ ({data:=#[]})])
abbrev BEN:Sh:=[(true,aW)]
noncomputable def ZS:List T->Option T:=gS BEN AGC
def BAP {a0}:ZS [aH true aW a0]=AGC (a0):=a8 (s:=BEN) rfl (a0) rfl
def BPO:lW Tryz.prog 197 ZS AGC (bR BEN) A6C:=eN (a1:=(true,aW)) (Hs:=c0) (k:=8) (bM _) aV aY (aQ rfl) ⟨_,_,Tryz.func197,rfl⟩ rfl λ_ _=>by kernel_rfl
def BNQ:aT Tryz.prog 197 ZS:=BPO λx r h hb=>by
 cases h;unfold A6C;rfl
end Go.Pv
namespace Go.Pv
open Go Go.Proofs IntKind
def okX (d:aG) (x:bD):Bool:=rB d&&(iA (cR x)&&fZ (gW x))
def JD {d:aG} {x:bD} (h:okX d x=true):rB d=true/\iA (cR x)=true/\fZ (gW x)=true:=by
 unfold okX at h;rw[ac,ac] at h;exact h
def mF (k:Int) (x y:pG) (h:([aH true aF x.1,aH true aO x.2.1,aH true aW (k,x.2.2)]:List T)=[aH true aF y.1,aH true aO y.2.1,aH true aW (k,y.2.2)]):x=y:=by
 simp only[List.cons.injEq,and_true] at h;obtain ⟨h1,h2,h3⟩:=h;exact Prod.ext (nP (r:=aF) rfl h1) (Prod.ext (nP (r:=aO) rfl h2) (Prod.mk.inj (nP (r:=aW) rfl h3)).2)
def gO {c:Bool} {a:T}:c=true->(match c with|true=>some a|false=>none)=some a:=λh=>by rw[h]
variable {α:Type}
def rJ (no:α) (o:Option α):(found no o).2=o.isSome:=by cases o<;>rfl
variable {m:aL}
def GX {d:aG} {x:bD} (hk:1<=x.1/\x.1<=12) (h:qM x (dE x)=false):cE d m x=(o2,2):=by
 unfold cE;rw[if_neg (λh=>h hk),if_pos (.inl h)]
def Y0 {d:aG} {x:bD} (hk:1<=x.1/\x.1<=12) (h5:¬ x.1=5) (h:qM x (dE x)=true) (ha:e9 x=true) (ht:cV d x=true):cE d m x=(o2,7):=by
 unfold cE;rw[if_neg (λh=>h hk),if_neg (λe=>e.elim (λe=>by rw[h] at e;cases e) λe=>h5 e.1),if_pos ⟨ha,ht⟩]
def SY {d:aG} {x:bD} (hk:1<=x.1/\x.1<=12) (h5:¬ x.1=5) (h:qM x (dE x)=true) (ha:e9 x=false) (ht:cV d x=false):cE d m x=(o2,8):=by
 unfold cE;rw[if_neg (λh=>h hk),if_neg (λe=>e.elim (λe=>by rw[h] at e;cases e) λe=>h5 e.1),if_neg (λe=>by rw[ha] at e;cases e.1),if_pos ⟨ha,ht⟩]
def A7M {d:aG} {x:bD} (hk:1<=x.1/\x.1<=12) (h5:¬ x.1=5) (h:qM x (dE x)=true) (ha:cV d x = !e9 x) (hu:nH d x=true):cE d m x=(o2,34):=by
 unfold cE;rw[if_neg (λh=>h hk),if_neg (λe=>e.elim (λe=>by rw[h] at e;cases e) λe=>h5 e.1),if_neg (λe=>by rw[ha,e.1] at e;cases e.2),if_neg (λe=>by rw[ha,e.1] at e;cases e.2),if_neg (λe=>h5 e.1),if_pos hu]
def xG {d:aG} {x:bD} (hk:1<=x.1/\x.1<=12) (h5:¬ x.1=5) (h:qM x (dE x)=true) (ha:cV d x = !e9 x) (hu:nH d x=false):cE d m x=if oM (iE d x) m=0 then (iE d x,0) else (o2,oM (iE d x) m):=by
 unfold cE;rw[if_neg (λh=>h hk),if_neg (λe=>e.elim (λe=>by rw[h] at e;cases e) λe=>h5 e.1),if_neg (λe=>by rw[ha,e.1] at e;cases e.2),if_neg (λe=>by rw[ha,e.1] at e;cases e.2),if_neg (λe=>h5 e.1),if_neg (by rw[hu];decide)]
noncomputable def F6 (k:Int) (x:pG):Option T:=match okX x.1 (k,x.2.2) with
 | true=>some (Sh.enc [(true,aF),(false,.int .i64)] (cE x.1 x.2.1 (k,x.2.2)))
 | false=>none
section
variable {k : Int} {d : aG} {m : aL} {x : dP} {r : T}
variable {gd:List T->Option T}
def A7K (hre:r=Sh.enc [(true,aF),(false,.int .i64)] (cE d m (k,x))) (hk:1<=k/\k<=12) (h5:¬ k=5) (hE:qM (k,x) (dE (k,x))=true) (hth:cV d (k,x) = !e9 (k,x)) (hus:nH d (k,x)=false) (hc:rB d=true)
  (zd:gd [aH true aF d,aH true aW (k,x)]=some (Sh.enc [(true,aF)] (iE d (k,x)))) :
  aJ [(true,aF)] (fG [aH true aF d]) λ(y3:aG)=>aJ [(true,aF)] (gd [aH true aF y3,aH true aW (k,x)]) λ(y4:aG)=>aJ [(false,.int .i64)] (cT [aH true aF y4,aH true aO m]) λ(y5:Int) =>
   aE (!decide (y5=0)) (T.cB [aH true aF o2,T.v (Value.int .i64 y5)]=r) (T.cB [aH true aF y4,T.v (Value.int .i64 0)]=r):=by
 subst hre;refine aM (s:=[(true,aF)]) (y:=d) ((rL ..).trans (gO hc)) ?_;refine aM (s:=[(true,aF)]) (y:=iE d (k,x)) zd ?_;refine aM (s:=[(false,.int .i64)]) (y:=oM (iE d (k,x)) m) (rK ..) ?_;exact kD (λh=>by rw[(xG hk h5 hE hth hus).trans (if_neg h)];rfl) λh=>by rw[(xG hk h5 hE hth hus).trans (if_pos h)];rfl
variable {g:List T->Option T}
def AH5 (h:F6 k (d,m,x)=some r) (hk:1<=k/\k<=12) (z1:g [aH true aW (k,x)]=some (Sh.enc [(true,aW)] (dE (k,x)))) {REST:Prop}
  (hr:rB d=true->iA (cR (k,x))=true->fZ (gW (k,x))=true->r=Sh.enc [(true,aF),(false,.int .i64)] (cE d m (k,x))->qM (k,x) (dE (k,x))=true->REST) :
  aJ [(true,aW)] (g [aH true aW (k,x)]) λ(y0:bD)=>aJ [(false,Sy.bool)] (cW [aH true aW (k,x),aH true aW y0]) λ(y1:Bool)=>aE (!y1) (T.cB [aH true aF o2,T.v (Value.int .i64 2)]=r) REST:=by
 obtain ⟨hp,hre⟩:=uR h;obtain ⟨hc,ho1,ho2⟩:=JD hp;refine aM (s:=[(true,aW)]) (y:=dE (k,x)) z1 ?_;refine aM (s:=p0) (y:=qM (k,x) (dE (k,x))) (sE ..) ?_;exact eQ (λh=>by rw[<-hre,show cE d m (k,x)=_ from GX hk h];rfl) λhE=>hr hc ho1 ho2 hre.symm hE
variable {r0:Sy}{no:r0.den}{gx:Option T}
def ACJ (h:F6 k (d,m,x)=some r) (hk:1<=k/\k<=12) (h5:¬ k=5) (ha:e9 (k,x)=true) (hus:nH d (k,x)=false) (z1:g [aH true aW (k,x)]=some (Sh.enc [(true,aW)] (dE (k,x)))) {o:Option r0.den}
  (zx:rB d=true->gx=some (Sh.enc [(true,r0),(false,.bool)] (found no o))) (ht:cV d (k,x)=o.isSome)
  (zd:rB d=true->iA (cR (k,x))=true->fZ (gW (k,x))=true->gd [aH true aF d,aH true aW (k,x)]=some (Sh.enc [(true,aF)] (iE d (k,x)))) :
  aJ [(true,aW)] (g [aH true aW (k,x)]) λ(y0:bD)=>aJ [(false,Sy.bool)] (cW [aH true aW (k,x),aH true aW y0]) λ(y1:Bool)=>aE (!y1) (T.cB [aH true aF o2,T.v (Value.int .i64 2)]=r)
   (aJ [(true,r0),(false,.bool)] gx λ(y2:r0.den×Bool)=>aE y2.2 (T.cB [aH true aF o2,T.v (Value.int .i64 7)]=r)
    (aJ [(true,aF)] (fG [aH true aF d]) λ(y3:aG)=>aJ [(true,aF)] (gd [aH true aF y3,aH true aW (k,x)]) λ(y4:aG)=>aJ [(false,.int .i64)] (cT [aH true aF y4,aH true aO m]) λ(y5:Int) =>
     aE (!decide (y5=0)) (T.cB [aH true aF o2,T.v (Value.int .i64 y5)]=r) (T.cB [aH true aF y4,T.v (Value.int .i64 0)]=r))) :=
 AH5 h hk z1 λhc ho1 ho2 hre hE=>by
  refine aM (s:=[(true,r0),(false,.bool)]) (y:=found no o) (zx hc) ?_;have ht:=ht.trans (rJ no o).symm;refine zQ (λh=>by rw[hre,show cE d m (k,x)=_ from Y0 hk h5 hE ha (ht.trans h)];rfl) λh=>?_;exact A7K hre hk h5 hE (by rw[ha,ht,h];rfl) hus hc (zd hc ho1 ho2)
def ACK (h:F6 k (d,m,x)=some r) (hk:1<=k/\k<=12) (h5:¬ k=5) (ha:e9 (k,x)=false) {gu:List T->Option T} (z1:g [aH true aW (k,x)]=some (Sh.enc [(true,aW)] (dE (k,x)))) {o:Option r0.den}
  (zx:rB d=true->gx=some (Sh.enc [(true,r0),(false,.bool)] (found no o))) (ht:cV d (k,x)=o.isSome) (zu:rB d=true->gu [aH true aF d,aH true aW (k,x)]=some (Sh.enc p0 (nH d (k,x))))
  (zd:rB d=true->gd [aH true aF d,aH true aW (k,x)]=some (Sh.enc [(true,aF)] (iE d (k,x)))) :
  aJ [(true,aW)] (g [aH true aW (k,x)]) λ(y0:bD)=>aJ [(false,Sy.bool)] (cW [aH true aW (k,x),aH true aW y0]) λ(y1:Bool)=>aE (!y1) (T.cB [aH true aF o2,T.v (Value.int .i64 2)]=r)
   (aJ [(true,r0),(false,.bool)] gx λ(y2:r0.den×Bool)=>aE (!y2.2) (T.cB [aH true aF o2,T.v (Value.int .i64 8)]=r)
    (aJ [(false,Sy.bool)] (gu [aH true aF d,aH true aW (k,x)]) λ(u:Bool)=>aE u (T.cB [aH true aF o2,T.v (Value.int .i64 34)]=r)
    (aJ [(true,aF)] (fG [aH true aF d]) λ(y3:aG)=>aJ [(true,aF)] (gd [aH true aF y3,aH true aW (k,x)]) λ(y4:aG)=>aJ [(false,.int .i64)] (cT [aH true aF y4,aH true aO m]) λ(y5:Int) =>
     aE (!decide (y5=0)) (T.cB [aH true aF o2,T.v (Value.int .i64 y5)]=r) (T.cB [aH true aF y4,T.v (Value.int .i64 0)]=r)))) :=
 AH5 h hk z1 λhc ho1 ho2 hre hE=>by
  refine aM (s:=[(true,r0),(false,.bool)]) (y:=found no o) (zx hc) ?_;have ht:=ht.trans (rJ no o).symm;refine eQ (λh=>by rw[hre,show cE d m (k,x)=_ from SY hk h5 hE ha (ht.trans h)];rfl) λh=>?_;have hth:cV d (k,x) = !e9 (k,x):=by rw[ha,ht,h];rfl
  refine aM (s:=p0) (y:=nH d (k,x)) (zu hc) ?_;refine zQ (λh=>by rw[hre,show cE d m (k,x)=_ from A7M hk h5 hE hth h];rfl) λhus=>?_;exact A7K hre hk h5 hE hth hus hc (zd hc)
end
def Q8 (a0:aG) (a1:aL) (a2:dP):List T:=[aH true aF a0,aH true aO a1,aH true aW (1,a2)]
noncomputable def A34:Env:=Env.of [(34,.pure cW),(155,.pure AKB),(157,.pure FL),(36,.pure fG),(158,.pure AJP),(15,.pure cT)]
def BGC:bB Tryz.prog A34:=.cons j2 (.cons BNL (.cons AU0 (.cons o3 (.cons BM6 (.cons lF (.nil _))))))
def BVV:T:=aH true aF (cC,[],[],[],[],[])
def BVX:Sh:=[(false,Sy.bool)]
def BV4:Sh:=[(true,bC),(false,Sy.bool)]
def BXC(R:T->Prop)(y10:Int):Prop:=R (T.cB [BVV, pPP y10])
def BWM(y4:aG)(a1:aL)(R:T->Prop):Prop:=aJ BVW (cT [aH true aF y4,aH true aO a1]) λ(y5:Int)=>aE (!decide (y5=0)) (BXC R y5) (R (T.cB [aH true aF y4,pPP 0]))
def BWY(R:T->Prop):Prop:=R (T.cB [BVV, pPP 2])
def BXU(R:T->Prop):Prop:=R (T.cB [BVV, pPP 7])
def A47(a0:aG)(a1:aL)(a2:dP)(R:T->Prop):Prop:=aJ [(true,aW)] (AKB [(aH true aW (1,a2))]) λ(y0:bD)=>aJ BVX (cW [(aH true aW (1,a2)), aH true aW y0]) λ(y1:Bool)=>aE (!y1) (BWY R) (aJ BV4 (FL [aH true aF a0,pPQ a2.2.2.1.1]) λ(y2:eH×Bool)=>aE y2.2 (BXU R) (aJ [(true,aF)] (fG [aH true aF a0]) λ(y3:aG)=>aJ [(true,aF)] (AJP [aH true aF y3, (aH true aW (1,a2))]) λ(y4:aG)=>BWM y4 a1 R))
def A48 ( a0 a1 a2 R):fE cA Tryz.prog A34 c0 8 8 (Q8 a0 a1 a2) R=A47 a0 a1 a2 R:=by kernel_rfl
noncomputable def ATL:pG->Option T:=F6 1
def AW2 (x y:pG) (h:Q8 x.1 x.2.1 x.2.2=Q8 y.1 y.2.1 y.2.2):x=y:=mF 1 x y h
noncomputable def A9O:List T->Option (T):=gA (λ(x:aG×aL×dP)=>Q8 x.1 x.2.1 x.2.2) ATL
def A9P (a0:aG) (a1:aL) (a2:dP):A9O (Q8 a0 a1 a2)=ATL (a0,a1,a2):=gF (A:=(λ(x:aG×aL×dP)=>Q8 x.1 x.2.1 x.2.2)) AW2 (a0,a1,a2)
def BOV (h:∀ (a0:aG) (a1:aL) (a2:dP) (r:T),ATL (a0,a1,a2)=some r->(∀ t∈Q8 a0 a1 a2,Bd t)->A47 a0 a1 a2 (λy=>y=r)):aT Tryz.prog 8 A9O :=
 dA (E:=A34) (Hs:=c0) BGC aV aY (aQ rfl) 8 ⟨_,_,Tryz.func8,rfl⟩ λx r h1 h2=>by
  rw[A48];exact h x.1 x.2.1 x.2.2 r h1 h2
def A8T:aT Tryz.prog 8 A9O:=BOV λd m x r h hb=>by
 unfold A47 BXU BWY BWM BXC BV4 BVX BVW BVV;exact ACJ h (by decide) (by decide) rfl rfl ((BAK ..).trans rfl) (no:=dI) (λ_=>ZN ..) rfl (λhc _ _=>(A96 ..).trans (gO hc))
def RA (a0:aG) (a1:aL) (a2:dP):List T:=[aH true aF a0,aH true aO a1,aH true aW (3,a2)]
noncomputable def A36:Env:=Env.of [(34,.pure cW),(175,.pure AKD),(35,.pure mI),(36,.pure fG),(177,.pure AJR),(15,.pure cT)]
def BGE:bB Tryz.prog A36:=.cons j2 (.cons BNN (.cons HG (.cons o3 (.cons BM8 (.cons lF (.nil _))))))
def BV1:Sh:=[(true,aS),(false,Sy.bool)]
def BYC(a0:aG)(a2:dP):List T:=[aH true aF a0,pPQ a2.2.2.2.1.1]
def A5B(a0:aG)(a1:aL)(a2:dP)(R:T->Prop):Prop:=aJ [(true,aW)] (AKD [(aH true aW (3,a2))]) λ(y0:bD)=>aJ BVX (cW [(aH true aW (3,a2)), aH true aW y0]) λ(y1:Bool)=>aE (!y1) (BWY R) (aJ BV1 (mI (BYC a0 a2)) λ(y2:bG×Bool)=>aE y2.2 (BXU R) (aJ [(true,aF)] (fG [aH true aF a0]) λ(y3:aG)=>aJ [(true,aF)] (AJR [aH true aF y3, (aH true aW (3,a2))]) λ(y4:aG)=>BWM y4 a1 R))
def A5C ( a0 a1 a2 R):fE cA Tryz.prog A36 c0 8 8 (RA a0 a1 a2) R=A5B a0 a1 a2 R:=by kernel_rfl
noncomputable def ATN:pG->Option T:=F6 3
def AW4 (x y:pG) (h:RA x.1 x.2.1 x.2.2=RA y.1 y.2.1 y.2.2):x=y:=mF 3 x y h
noncomputable def A9S:List T->Option (T):=gA (λ(x:aG×aL×dP)=>RA x.1 x.2.1 x.2.2) ATN
def A9T (a0:aG) (a1:aL) (a2:dP):A9S (RA a0 a1 a2)=ATN (a0,a1,a2):=gF (A:=(λ(x:aG×aL×dP)=>RA x.1 x.2.1 x.2.2)) AW4 (a0,a1,a2)
def BOX (h:∀ (a0:aG) (a1:aL) (a2:dP) (r:T),ATN (a0,a1,a2)=some r->(∀ t∈RA a0 a1 a2,Bd t)->A5B a0 a1 a2 (λy=>y=r)):aT Tryz.prog 8 A9S :=
 dA (E:=A36) (Hs:=c0) BGE aV aY (aQ rfl) 8 ⟨_,_,Tryz.func8,rfl⟩ λx r h1 h2=>by
  rw[A5C];exact h x.1 x.2.1 x.2.2 r h1 h2
def BMZ:aT Tryz.prog 8 A9S:=BOX λd m x r h hb=>by
 unfold A5B BYC BXU BWY BWM BXC BV1 BVX BVW BVV;exact ACJ h (by decide) (by decide) rfl rfl ((BAM ..).trans rfl) (no:=cO) (λhc=>(sC ..).trans (by unfold mD;dsimp only;rw[(fY hc).KK];rfl)) rfl (λhc h1 _=>(A98 ..).trans (gO (by rw[hc,h1];rfl)))
def RE (a0:aG) (a1:aL) (a2:dP):List T:=[aH true aF a0,aH true aO a1,aH true aW (7,a2)]
noncomputable def A4A:Env:=Env.of [(34,.pure cW),(203,.pure AKF),(205,.pure FO),(36,.pure fG),(206,.pure AJT),(15,.pure cT)]
def BGI:bB Tryz.prog A4A:=.cons j2 (.cons BNR (.cons AU4 (.cons o3 (.cons BNA (.cons lF (.nil _))))))
def A5J(a0:aG)(a1:aL)(a2:dP)(R:T->Prop):Prop:=aJ [(true,aW)] (AKF [(aH true aW (7,a2))]) λ(y0:bD)=>aJ BVX (cW [(aH true aW (7,a2)), aH true aW y0]) λ(y1:Bool)=>aE (!y1) (BWY R) (aJ [(true,bI),(false,Sy.bool)] (FO [aH true aF a0,pPQ a2.2.2.2.2.1.1]) λ(y2:gE×Bool)=>aE y2.2 (BXU R) (aJ [(true,aF)] (fG [aH true aF a0]) λ(y3:aG)=>aJ [(true,aF)] (AJT [aH true aF y3, (aH true aW (7,a2))]) λ(y4:aG)=>BWM y4 a1 R))
def A5K ( a0 a1 a2 R):fE cA Tryz.prog A4A c0 8 8 (RE a0 a1 a2) R=A5J a0 a1 a2 R:=by kernel_rfl
noncomputable def ATR:pG->Option T:=F6 7
def AW8 (x y:pG) (h:RE x.1 x.2.1 x.2.2=RE y.1 y.2.1 y.2.2):x=y:=mF 7 x y h
noncomputable def A90:List T->Option (T):=gA (λ(x:aG×aL×dP)=>RE x.1 x.2.1 x.2.2) ATR
def A91 (a0:aG) (a1:aL) (a2:dP):A90 (RE a0 a1 a2)=ATR (a0,a1,a2):=gF (A:=(λ(x:aG×aL×dP)=>RE x.1 x.2.1 x.2.2)) AW8 (a0,a1,a2)
def BO1 (h:∀ (a0:aG) (a1:aL) (a2:dP) (r:T),ATR (a0,a1,a2)=some r->(∀ t∈RE a0 a1 a2,Bd t)->A5J a0 a1 a2 (λy=>y=r)):aT Tryz.prog 8 A90 :=
 dA (E:=A4A) (Hs:=c0) BGI aV aY (aQ rfl) 8 ⟨_,_,Tryz.func8,rfl⟩ λx r h1 h2=>by
  rw[A5K];exact h x.1 x.2.1 x.2.2 r h1 h2
def BM3:aT Tryz.prog 8 A90:=BO1 λd m x r h hb=>by
 unfold A5J BXU BWY BWM BXC BVX BVW BVV;exact ACJ h (by decide) (by decide) rfl rfl ((BAQ ..).trans rfl) (no:=dS) (λ_=>ZT ..) rfl (λhc _ _=>(BAA ..).trans (gO hc))
def RG (a0:aG) (a1:aL) (a2:dP):List T:=[aH true aF a0,aH true aO a1,aH true aW (9,a2)]
noncomputable def A4C:Env:=Env.of [(34,.pure cW),(223,.pure AKH),(225,.pure FM),(36,.pure fG),(226,.pure AJV),(15,.pure cT)]
def BGK:bB Tryz.prog A4C:=.cons j2 (.cons BNT (.cons AU1 (.cons o3 (.cons BNC (.cons lF (.nil _))))))
def BV6:Sh:=[(true,aK),(false,Sy.bool)]
def A5N(a0:aG)(a1:aL)(a2:dP)(R:T->Prop):Prop:=aJ [(true,aW)] (AKH [(aH true aW (9,a2))]) λ(y0:bD)=>aJ BVX (cW [(aH true aW (9,a2)), aH true aW y0]) λ(y1:Bool)=>aE (!y1) (BWY R) (aJ BV6 (FM [aH true aF a0,pPQ a2.2.2.2.2.2.1.1]) λ(y2:bE×Bool)=>aE y2.2 (BXU R) (aJ [(true,aF)] (fG [aH true aF a0]) λ(y3:aG)=>aJ [(true,aF)] (AJV [aH true aF y3, (aH true aW (9,a2))]) λ(y4:aG)=>BWM y4 a1 R))
def A5O ( a0 a1 a2 R):fE cA Tryz.prog A4C c0 8 8 (RG a0 a1 a2) R=A5N a0 a1 a2 R:=by kernel_rfl
noncomputable def ATT:pG->Option T:=F6 9
def AXA (x y:pG) (h:RG x.1 x.2.1 x.2.2=RG y.1 y.2.1 y.2.2):x=y:=mF 9 x y h
noncomputable def A94:List T->Option (T):=gA (λ(x:aG×aL×dP)=>RG x.1 x.2.1 x.2.2) ATT
def A95 (a0:aG) (a1:aL) (a2:dP):A94 (RG a0 a1 a2)=ATT (a0,a1,a2):=gF (A:=(λ(x:aG×aL×dP)=>RG x.1 x.2.1 x.2.2)) AXA (a0,a1,a2)
def BO3 (h:∀ (a0:aG) (a1:aL) (a2:dP) (r:T),ATT (a0,a1,a2)=some r->(∀ t∈RG a0 a1 a2,Bd t)->A5N a0 a1 a2 (λy=>y=r)):aT Tryz.prog 8 A94 :=
 dA (E:=A4C) (Hs:=c0) BGK aV aY (aQ rfl) 8 ⟨_,_,Tryz.func8,rfl⟩ λx r h1 h2=>by
  rw[A5O];exact h x.1 x.2.1 x.2.2 r h1 h2
def BM5:aT Tryz.prog 8 A94:=BO3 λd m x r h hb=>by
 unfold A5N BXU BWY BWM BXC BV6 BVX BVW BVV;exact ACJ h (by decide) (by decide) rfl rfl ((BAS ..).trans rfl) (no:=noPack) (o:=eX d (gW (9,x)).1) (λhc=>(ZO ..).trans (by unfold DJ;exact AL5 _ (fY hc).PD)) rfl (λhc _ h2=>(BAC ..).trans (gO (by rw[hc,h2];rfl)))
def Q9 (a0:aG) (a1:aL) (a2:dP):List T:=[aH true aF a0,aH true aO a1,aH true aW (2,a2)]
noncomputable def A35:Env:=Env.of [(34,.pure cW),(163,.pure AKC),(157,.pure FL),(146,.pure H5),(36,.pure fG),(165,.pure AJQ),(15,.pure cT)]
def BGD:bB Tryz.prog A35:=.cons j2 (.cons BNM (.cons AU0 (.cons A9H (.cons o3 (.cons BM7 (.cons lF (.nil _)))))))
def BW6(R:T->Prop):Prop:=R (T.cB [BVV, pPP 8])
def BXS(R:T->Prop):Prop:=R (T.cB [BVV, pPP 34])
def BX6(a0:aG)(a2:dP):List T:=[aH true aF a0,pPQ a2.1]
def A49(a0:aG)(a1:aL)(a2:dP)(R:T->Prop):Prop:=aJ [(true,aW)] (AKC [(aH true aW (2,a2))]) λ(y0:bD)=>aJ BVX (cW [(aH true aW (2,a2)), aH true aW y0]) λ(y1:Bool)=>aE (!y1) (BWY R) (aJ BV4 (FL (BX6 a0 a2)) λ(y2:eH×Bool)=>aE (!y2.2) (BW6 R) (aJ BVX (H5 [aH true aF a0, (aH true aW (2,a2))]) λ(y3:Bool)=>aE y3 (BXS R) (aJ [(true,aF)] (fG [aH true aF a0]) λ(y4:aG)=>aJ [(true,aF)] (AJQ [aH true aF y4, (aH true aW (2,a2))]) λ(y5:aG)=>BWM y5 a1 R)))
def A5A ( a0 a1 a2 R):fE cA Tryz.prog A35 c0 8 8 (Q9 a0 a1 a2) R=A49 a0 a1 a2 R:=by kernel_rfl
noncomputable def ATM:pG->Option T:=F6 2
def AW3 (x y:pG) (h:Q9 x.1 x.2.1 x.2.2=Q9 y.1 y.2.1 y.2.2):x=y:=mF 2 x y h
noncomputable def A9Q:List T->Option (T):=gA (λ(x:aG×aL×dP)=>Q9 x.1 x.2.1 x.2.2) ATM
def A9R (a0:aG) (a1:aL) (a2:dP):A9Q (Q9 a0 a1 a2)=ATM (a0,a1,a2):=gF (A:=(λ(x:aG×aL×dP)=>Q9 x.1 x.2.1 x.2.2)) AW3 (a0,a1,a2)
def BOW (h:∀ (a0:aG) (a1:aL) (a2:dP) (r:T),ATM (a0,a1,a2)=some r->(∀ t∈Q9 a0 a1 a2,Bd t)->A49 a0 a1 a2 (λy=>y=r)):aT Tryz.prog 8 A9Q :=
 dA (E:=A35) (Hs:=c0) BGD aV aY (aQ rfl) 8 ⟨_,_,Tryz.func8,rfl⟩ λx r h1 h2=>by
  rw[A5A];exact h x.1 x.2.1 x.2.2 r h1 h2
def BMY:aT Tryz.prog 8 A9Q:=BOW λd m x r h hb=>by
 unfold A49 BX6 BXS BW6 BWY BWM BXC BV4 BVX BVW BVV;exact ACK h (by decide) (by decide) rfl ((BAL ..).trans rfl) (no:=dI) (λ_=>ZN ..) rfl (λhc=>(ARJ ..).trans (gO hc)) (λhc=>(A97 ..).trans (gO hc))
def RB (a0:aG) (a1:aL) (a2:dP):List T:=[aH true aF a0,aH true aO a1,aH true aW (4,a2)]
noncomputable def A37:Env:=Env.of [(34,.pure cW),(182,.pure AKE),(35,.pure mI),(170,.pure H7),(36,.pure fG),(184,.pure AJS),(15,.pure cT)]
def BGF:bB Tryz.prog A37:=.cons j2 (.cons BNO (.cons HG (.cons A9J (.cons o3 (.cons BM9 (.cons lF (.nil _)))))))
def A5D(a0:aG)(a1:aL)(a2:dP)(R:T->Prop):Prop:=aJ [(true,aW)] (AKE [(aH true aW (4,a2))]) λ(y0:bD)=>aJ BVX (cW [(aH true aW (4,a2)), aH true aW y0]) λ(y1:Bool)=>aE (!y1) (BWY R) (aJ BV1 (mI (BX6 a0 a2)) λ(y2:bG×Bool)=>aE (!y2.2) (BW6 R) (aJ BVX (H7 [aH true aF a0, (aH true aW (4,a2))]) λ(y3:Bool)=>aE y3 (BXS R) (aJ [(true,aF)] (fG [aH true aF a0]) λ(y4:aG)=>aJ [(true,aF)] (AJS [aH true aF y4, (aH true aW (4,a2))]) λ(y5:aG)=>BWM y5 a1 R)))
def A5E ( a0 a1 a2 R):fE cA Tryz.prog A37 c0 8 8 (RB a0 a1 a2) R=A5D a0 a1 a2 R:=by kernel_rfl
noncomputable def ATO:pG->Option T:=F6 4
def AW5 (x y:pG) (h:RB x.1 x.2.1 x.2.2=RB y.1 y.2.1 y.2.2):x=y:=mF 4 x y h
noncomputable def A9U:List T->Option (T):=gA (λ(x:aG×aL×dP)=>RB x.1 x.2.1 x.2.2) ATO
def A9V (a0:aG) (a1:aL) (a2:dP):A9U (RB a0 a1 a2)=ATO (a0,a1,a2):=gF (A:=(λ(x:aG×aL×dP)=>RB x.1 x.2.1 x.2.2)) AW5 (a0,a1,a2)
def BOY (h:∀ (a0:aG) (a1:aL) (a2:dP) (r:T),ATO (a0,a1,a2)=some r->(∀ t∈RB a0 a1 a2,Bd t)->A5D a0 a1 a2 (λy=>y=r)):aT Tryz.prog 8 A9U :=
 dA (E:=A37) (Hs:=c0) BGF aV aY (aQ rfl) 8 ⟨_,_,Tryz.func8,rfl⟩ λx r h1 h2=>by
  rw[A5E];exact h x.1 x.2.1 x.2.2 r h1 h2
def BM0:aT Tryz.prog 8 A9U:=BOY λd m x r h hb=>by
 unfold A5D BX6 BXS BW6 BWY BWM BXC BV1 BVX BVW BVV;exact ACK h (by decide) (by decide) rfl ((BAN ..).trans rfl) (no:=cO) (λhc=>(sC ..).trans (by unfold mD;dsimp only;rw[(fY hc).KK];rfl)) rfl (λhc=>(ARL ..).trans (gO hc)) (λhc=>(A99 ..).trans (gO hc))
def RF (a0:aG) (a1:aL) (a2:dP):List T:=[aH true aF a0,aH true aO a1,aH true aW (8,a2)]
noncomputable def A4B:Env:=Env.of [(34,.pure cW),(211,.pure AKG),(205,.pure FO),(191,.pure kQ),(36,.pure fG),(213,.pure AJU),(15,.pure cT)]
def BGJ:bB Tryz.prog A4B:=.cons j2 (.cons BNS (.cons AU4 (.cons vH (.cons o3 (.cons BNB (.cons lF (.nil _)))))))
def A5L(a0:aG)(a1:aL)(a2:dP)(R:T->Prop):Prop:=aJ [(true,aW)] (AKG [(aH true aW (8,a2))]) λ(y0:bD)=>aJ BVX (cW [(aH true aW (8,a2)), aH true aW y0]) λ(y1:Bool)=>aE (!y1) (BWY R) (aJ [(true,bI),(false,Sy.bool)] (FO (BX6 a0 a2)) λ(y2:gE×Bool)=>aE (!y2.2) (BW6 R) (aJ BVX (kQ [aH true aF a0, (aH true aW (8,a2))]) λ(y3:Bool)=>aE y3 (BXS R) (aJ [(true,aF)] (fG [aH true aF a0]) λ(y4:aG)=>aJ [(true,aF)] (AJU [aH true aF y4, (aH true aW (8,a2))]) λ(y5:aG)=>BWM y5 a1 R)))
def A5M ( a0 a1 a2 R):fE cA Tryz.prog A4B c0 8 8 (RF a0 a1 a2) R=A5L a0 a1 a2 R:=by kernel_rfl
noncomputable def ATS:pG->Option T:=F6 8
def AW9 (x y:pG) (h:RF x.1 x.2.1 x.2.2=RF y.1 y.2.1 y.2.2):x=y:=mF 8 x y h
noncomputable def A92:List T->Option (T):=gA (λ(x:aG×aL×dP)=>RF x.1 x.2.1 x.2.2) ATS
def A93 (a0:aG) (a1:aL) (a2:dP):A92 (RF a0 a1 a2)=ATS (a0,a1,a2):=gF (A:=(λ(x:aG×aL×dP)=>RF x.1 x.2.1 x.2.2)) AW9 (a0,a1,a2)
def BO2 (h:∀ (a0:aG) (a1:aL) (a2:dP) (r:T),ATS (a0,a1,a2)=some r->(∀ t∈RF a0 a1 a2,Bd t)->A5L a0 a1 a2 (λy=>y=r)):aT Tryz.prog 8 A92 :=
 dA (E:=A4B) (Hs:=c0) BGJ aV aY (aQ rfl) 8 ⟨_,_,Tryz.func8,rfl⟩ λx r h1 h2=>by
  rw[A5M];exact h x.1 x.2.1 x.2.2 r h1 h2
def BM4:aT Tryz.prog 8 A92:=BO2 λd m x r h hb=>by
 unfold A5L BX6 BXS BW6 BWY BWM BXC BVX BVW BVV;exact ACK h (by decide) (by decide) rfl ((BAR ..).trans rfl) (no:=dS) (λ_=>ZT ..) rfl (λ_=>(O2 ..).trans rfl) (λhc=>(BAB ..).trans (gO hc))
def EP (a0:aG) (a1:aL) (a2:dP):List T:=[aH true aF a0,aH true aO a1,aH true aW (10,a2)]
noncomputable def ANN:Env:=Env.of [(34,.pure cW),(232,.pure UT),(225,.pure FM),(218,.pure H6),(36,.pure fG),(234,.pure UK),(15,.pure cT)]
def A4X:bB Tryz.prog ANN:=.cons j2 (.cons BH9 (.cons AU1 (.cons A9I (.cons o3 (.cons BH3 (.cons lF (.nil _)))))))
def AOP(a0:aG)(a1:aL)(a2:dP)(R:T->Prop):Prop:=aJ [(true,aW)] (UT [(aH true aW (10,a2))]) λ(y0:bD)=>aJ BVX (cW [(aH true aW (10,a2)), aH true aW y0]) λ(y1:Bool)=>aE (!y1) (BWY R) (aJ BV6 (FM (BX6 a0 a2)) λ(y2:bE×Bool)=>aE (!y2.2) (BW6 R) (aJ BVX (H6 [aH true aF a0, (aH true aW (10,a2))]) λ(y3:Bool)=>aE y3 (BXS R) (aJ [(true,aF)] (fG [aH true aF a0]) λ(y4:aG)=>aJ [(true,aF)] (UK [aH true aF y4, (aH true aW (10,a2))]) λ(y5:aG)=>BWM y5 a1 R)))
def AYM ( a0 a1 a2 R):fE cA Tryz.prog ANN c0 8 8 (EP a0 a1 a2) R=AOP a0 a1 a2 R:=by kernel_rfl
noncomputable def AF2:pG->Option T:=F6 10
def ANG (x y:pG) (h:EP x.1 x.2.1 x.2.2=EP y.1 y.2.1 y.2.2):x=y:=mF 10 x y h
noncomputable def AQU:List T->Option (T):=gA (λ(x:aG×aL×dP)=>EP x.1 x.2.1 x.2.2) AF2
def A05 (a0:aG) (a1:aL) (a2:dP):AQU (EP a0 a1 a2)=AF2 (a0,a1,a2):=gF (A:=(λ(x:aG×aL×dP)=>EP x.1 x.2.1 x.2.2)) ANG (a0,a1,a2)
def BI6 (h:∀ (a0:aG) (a1:aL) (a2:dP) (r:T),AF2 (a0,a1,a2)=some r->(∀ t∈EP a0 a1 a2,Bd t)->AOP a0 a1 a2 (λy=>y=r)):aT Tryz.prog 8 AQU :=
 dA (E:=ANN) (Hs:=c0) A4X aV aY (aQ rfl) 8 ⟨_,_,Tryz.func8,rfl⟩ λx r h1 h2=>by
  rw[AYM];exact h x.1 x.2.1 x.2.2 r h1 h2
def BHW:aT Tryz.prog 8 AQU:=BI6 λd m x r h hb=>by
 unfold AOP BX6 BXS BW6 BWY BWM BXC BV6 BVX BVW BVV;exact ACK h (by decide) (by decide) rfl ((A1G ..).trans rfl) (no:=noPack) (o:=eX d (fM (10,x))) (λhc=>(ZO ..).trans (by unfold DJ;exact AL5 _ (fY hc).PD)) rfl (λhc=>(ARK ..).trans (gO hc)) (λhc=>(A1A ..).trans (gO hc))
variable {A B:Prop}
def ifC {p q s:Prop} {i:Decidable p} {j:Decidable q} {k:Decidable s} (h1:p/\q/\s->A) (h2:¬ (p/\q/\s)->B):aE (@decide p i&&(@decide q j&&(@decide s k&&true))) A B:=by
 by_cases h:p/\q/\s
 ·rw[ai h.1,ai h.2.1,ai h.2.2];exact h1 h
 ·have:(@decide p i&&(@decide q j&&(@decide s k&&true)))=false:=by
   rw[Bool.eq_false_iff];intro e;simp only[ac,ah,and_true] at e;exact h e
  rw[this];exact h2 h
def C3 {a b:cP}:(a.1=b.1/\a.2.1=b.2.1/\a.2.2=b.2.2)↔a=b:=by
 simp only[Prod.ext_iff]
def ER (a0:aG) (a1:aL) (a2:dP):List T:=[aH true aF a0,aH true aO a1,aH true aW (11,a2)]
noncomputable def ANO:Env:=Env.of [(34,.pure cW),(238,.pure xZ),(191,.pure kQ),(36,.pure fG),(242,.pure sB),(94,.dup 3 40),(315,.grow 3 lH),(316,.grow 3 CY),(15,.pure cT)]
def A6S:FuncId->Hint:=bP 295 [(2,.inv [.val 8 false (.int .i64)])] (bP 311 [(2,.inv [.val 8 false (.int .i64)])] (λ_=>bH))
def A4Y:bB Tryz.prog ANO:=.cons j2 (.cons AU3 (.cons vH (.cons o3 (.cons ZA (bB.cons (x:=.dup 3 40) FD (.cons T2 (.cons T0 (.cons lF (.nil _)))))))))
def BWJ(y5:aG)(y10:List cP)(a1:aL)(R:T->Prop):Prop:=aJ BVW (cT [(aH true aF (y5.1,y5.2.1,y5.2.2.1,y5.2.2.2.1,y5.2.2.2.2.1,y10)), aH true aO a1]) λ(y11:Int)=>aE (!decide (y11=0)) (BXC R y11) (R (T.cB [(aH true aF (y5.1,y5.2.1,y5.2.2.1,y5.2.2.2.1,y5.2.2.2.2.1,y10)), pPP 0]))
def BX0(a2:dP):List T:=[pPP a2.2.2.2.2.2.2.1, pPQ a2.2.2.2.2.2.2.2.1, pPQ a2.2.2.2.2.2.2.2.2]
def BWZ(y5:aG)(a2:dP)(a1:aL)(R:T->Prop):Prop:=fK a6 (lH (BWH y5) [pPP (↑(BWH y5).length:Int), T.sl true [(BX0 a2)]]) λ(y14:List cP)=>BWJ y5 y14 a1 R
def BWR(s7:Int×PUnit)(y5:aG)(a2:dP)(a1:aL)(R:T->Prop):Prop:=aE (decide (s7.1<0)) (bO (((BWH y5).all λ(r:List T)=>decide (r.length=3)) && decide ((BWH y5).length*40 <= 140737488355328) && decide ((BWH y5).length<=140737488355328)) (BWZ y5 a2 a1 R)) (bO (((BWH y5).all λ(r:List T)=>decide (r.length=3)) && decide ((BWH y5).length*40 <= 140737488355328) && decide ((BWH y5).length<=140737488355328)) (fK a6 (lH (BWH y5) [pPP s7.1, T.sl true [(BX0 a2)]]) λ(y12:List cP)=>BWJ y5 y12 a1 R))
def BXO(y5:aG)(a2:dP)(a1:aL)(R:T->Prop):Prop:=bO (((BWH y5).all λ(r:List T)=>decide (r.length=3)) && decide ((BWH y5).length*40<=140737488355328) && decide ((BWH y5).length<=140737488355328)) (BWZ y5 a2 a1 R)
def AOQ(a0:aG)(a1:aL)(a2:dP)(R:T->Prop):Prop:=aJ [(true,aW)] (xZ [(aH true aW (11,a2))]) λ(y0:bD)=>aJ BVX (cW [(aH true aW (11,a2)), aH true aW y0]) λ(y1:Bool)=>aE (!y1) (BWY R) (a7 (Int×PUnit) (λX2 s3=>aE (decide (s3.1<(↑(BWH a0).length:Int))) (aU a6 (BWH a0) s3.1 λ(y4:cP)=>aE (decide (a2.2.2.2.2.2.2.1=y4.1) && (decide (a2.2.2.2.2.2.2.2.1=y4.2.1) && (decide (a2.2.2.2.2.2.2.2.2=y4.2.2)&&true))) (aE (decide (0<=s3.1)) (BXU R) (aJ [(true,aF)] (fG [aH true aF a0]) λ(y5:aG)=>a7 (Int×PUnit) (λX6 s7=>aE (decide (s7.1<(↑(BWH y5).length:Int))) (aU a6 (BWH y5) s7.1 λ(y8:cP)=>aJ BVX (sB [aH true a6 y8, aH true a6 a2.2.2.2.2.2.2]) λ(y9:Bool)=>aE y9 (BWR s7 y5 a2 a1 R) (BWG X6 s7)) (BXO y5 a2 a1 R)) (0,()))) (BWG X2 s3)) (aJ [(true,aF)] (fG [aH true aF a0]) λ(y16:aG)=>a7 (Int×PUnit) (λX17 s18=>aE (decide (s18.1<(↑(BWH y16).length:Int))) (aU a6 (BWH y16) s18.1 λ(y19:cP)=>aJ BVX (sB [aH true a6 y19,aH true a6 a2.2.2.2.2.2.2]) λ(y20:Bool)=>aE y20 (BWR s18 y16 a2 a1 R) (BWG X17 s18)) (BXO y16 a2 a1 R)) (0,()))) (0,()))
def AYN ( a0 a1 a2 R):fE cA Tryz.prog ANO A6S 8 8 (ER a0 a1 a2) R=AOQ a0 a1 a2 R:=by kernel_rfl
noncomputable def AF3:pG->Option T:=F6 11
def ANH (x y:pG) (h:ER x.1 x.2.1 x.2.2=ER y.1 y.2.1 y.2.2):x=y:=mF 11 x y h
noncomputable def AQV:List T->Option (T):=gA (λ(x:aG×aL×dP)=>ER x.1 x.2.1 x.2.2) AF3
def A06 (a0:aG) (a1:aL) (a2:dP):AQV (ER a0 a1 a2)=AF3 (a0,a1,a2):=gF (A:=(λ(x:aG×aL×dP)=>ER x.1 x.2.1 x.2.2)) ANH (a0,a1,a2)
def BI7 (h:∀ (a0:aG) (a1:aL) (a2:dP) (r:T),AF3 (a0,a1,a2)=some r->(∀ t∈ER a0 a1 a2,Bd t)->AOQ a0 a1 a2 (λy=>y=r)):aT Tryz.prog 8 AQV :=
 dA (E:=ANO) (Hs:=A6S) A4Y aV aY (aQ rfl) 8 ⟨_,_,Tryz.func8,rfl⟩ λx r h1 h2=>by
  rw[AYN];exact h x.1 x.2.1 x.2.2 r h1 h2
def BHX:aT Tryz.prog 8 AQV:=BI7 λd m x r h hb=>by
 clear hb;obtain ⟨hp,rfl⟩:=uR h;clear h;obtain ⟨hc,ho1,ho2⟩:=JD hp;have c:=fY hc;have is:∀ {a:aG×Int},cE d m (11,x)=a->Sh.enc [(true,aF),(false,.int .i64)] a=Sh.enc [(true,aF),(false,.int .i64)] (cE d m (11,x)):=λh=>by rw[h]
 have hk:(1:Int)<=((11,x):bD).1/\((11,x):bD).1<=12:=by dsimp only;omega
 have h5:¬ ((11,x):bD).1=5:=by dsimp only;omega
 have lift:∀ {a:aG×Int},cE d m (11,x)=a->∀ v,v=Sh.enc [(true,aF),(false,.int .i64)] a->v=Sh.enc [(true,aF),(false,.int .i64)] (cE d m (11,x)):=λh v hv=>by rw[h];exact hv
 unfold AOQ BXU BXO BWY BWR BWZ BX0 BWJ BXC BWG BWH BVX BVW BVV;have z1:xZ [aH true aW (11,x)]=some (Sh.enc [(true,aW)] (dE (11,x))):=(ZQ ..).trans rfl;refine aM (s:=[(true,aW)]) (y:=dE (11,x)) z1 ?_;have z2:cW [aH true aW (11,x),aH true aW (dE (11,x))]=some (Sh.enc p0 (qM (11,x) (dE (11,x)))):=sE ..;refine aM (s:=p0) (y:=qM (11,x) (dE (11,x))) z2 ?_;refine eQ (λh=>lift (GX hk h) _ rfl) λhE=>?_;have hd:=AG (r:=a6) (l:=d.2.2.2.2.2) (z:=3) (b:=40) rfl (eG c.r (by decide));have pos:∀ {k:Nat},¬ (0<=(k:Int))->False:=λh=>h (by omega);have hus:nH d (11,x)=false:=rfl;have tail:∀ (hth:cV d (11,x) = !e9 (11,x)) (l:List cP) (hl:l=iF z6 d.2.2.2.2.2 (iO (11,x))),aJ [(false,Sy.int IntKind.i64)] (cT [aH true aF (d.1,d.2.1,d.2.2.1,d.2.2.2.1,d.2.2.2.2.1,l),aH true aO m]) λ(y:Int) =>
   aE (!decide (y=0)) (Sh.enc [(true,aF),(false,.int .i64)] (o2,y)=Sh.enc [(true,aF),(false,.int .i64)] (cE d m (11,x))) (Sh.enc [(true,aF),(false,.int .i64)] ((d.1,d.2.1,d.2.2.1,d.2.2.2.1,d.2.2.2.2.1,l),0)=Sh.enc [(true,aF),(false,.int .i64)] (cE d m (11,x))):=λhth l hl=>by
  subst hl;refine aM (s:=[(false,.int .i64)]) (y:=oM (iE d (11,x)) m) (rK ..) ?_;exact kD (λh=>is ((xG hk h5 hE hth hus).trans (if_neg h))) λh=>is ((xG hk h5 hE hth hus).trans (if_pos h))
 refine cZ (r:=a6) (λn=>decide (n=iO (11,x))) (qO c.r) (λX k y hlt hy hp hn=>?_) (λ_ h0=>?_)
 ·dsimp only;refine ifC (λh=>?_) λh=>hn (aj λe=>h (C3.2 e.symm));obtain ⟨_,h2⟩:=hp (ai (C3.1 h).symm);exact b8 (λ_=>lift (Y0 hk h5 hE rfl h2) _ rfl) λh=>(pos h).elim
 ·have hth:cV d (11,x) = !e9 (11,x):=h0;refine aM (s:=[(true,aF)]) (y:=d) ((rL ..).trans (gO hc)) ?_;refine cZ (r:=a6) (λy=>z6 y (iO (11,x))) (qO c.r) (λX k y hk' hy hp hn=>?_) (λh _=>?_)
  ·dsimp only;refine aM (s:=p0) (y:=z6 y (iO (11,x))) (AJ6 ..) ?_;refine zQ (λh=>?_) λh=>hn h;obtain ⟨hi,_⟩:=hp h;refine b8 (λh=>by omega) λ_=>⟨hd,?_⟩
   refine eT (r:=a6) (l:=d.2.2.2.2.2.take k++iO (11,x)::d.2.2.2.2.2.drop k) (uP (r:=a6) (x:=iO (11,x)) rfl (by omega) c.r (by decide)) _ ?_;exact tail hth _ (by unfold iF;rw[hi])
  ·refine ⟨hd,?_⟩;rw[show (((List.map a6.enc d.2.2.2.2.2).length:Nat):Int)=((d.2.2.2.2.2.length:Nat):Int) by rw[ae]];refine eT (r:=a6) (l:=d.2.2.2.2.2.take d.2.2.2.2.2.length++iO (11,x)::d.2.2.2.2.2.drop d.2.2.2.2.2.length) (uP (r:=a6) (x:=iO (11,x)) rfl (al _) c.r (by decide)) _ ?_;exact tail hth _ (by unfold iF;rw[h])
def ES (a0:aG) (a1:aL) (a2:dP):List T:=[aH true aF a0,aH true aO a1,aH true aW (12,a2)]
noncomputable def ANP:Env:=Env.of [(34,.pure cW),(238,.pure xZ),(191,.pure kQ),(36,.pure fG),(242,.pure sB),(94,.dup 3 40),(315,.grow 3 lH),(316,.grow 3 CY),(15,.pure cT)]
def A6T:FuncId->Hint:=bP 295 [(2,.inv [.val 8 false (.int .i64)])] (bP 311 [(2,.inv [.val 8 false (.int .i64)])] (λ_=>bH))
def A4Z:bB Tryz.prog ANP:=.cons j2 (.cons AU3 (.cons vH (.cons o3 (.cons ZA (bB.cons (x:=.dup 3 40) FD (.cons T2 (.cons T0 (.cons lF (.nil _)))))))))
def BW4(y6:aG)(a1:aL)(R:T->Prop):Prop:=bO (((BWH y6).all λ(r:List T)=>decide (r.length=3)) && decide ((BWH y6).length*40 <= 140737488355328) && decide ((BWH y6).length<=140737488355328)) (aJ BVW (cT [aH true aF y6,aH true aO a1]) λ(y10:Int)=>aE (!decide (y10=0)) (BXC R y10) (R (T.cB [aH true aF y6, pPP 0])))
def AOR(a0:aG)(a1:aL)(a2:dP)(R:T->Prop):Prop:=aJ [(true,aW)] (xZ [(aH true aW (12,a2))]) λ(y0:bD)=>aJ BVX (cW [(aH true aW (12,a2)), aH true aW y0]) λ(y1:Bool)=>aE (!y1) (BWY R) (a7 (Int×PUnit) (λX2 s3=>aE (decide (s3.1<(↑(BWH a0).length:Int))) (aU a6 (BWH a0) s3.1 λ(y4:cP)=>aE (decide (a2.2.2.2.2.2.2.1=y4.1) && (decide (a2.2.2.2.2.2.2.2.1=y4.2.1) && (decide (a2.2.2.2.2.2.2.2.2=y4.2.2)&&true))) (aE (!decide (0<=s3.1)) (BW6 R) (aJ BVX (kQ [aH true aF a0, (aH true aW (12,a2))]) λ(y5:Bool)=>aE y5 (BXS R) (aJ [(true,aF)] (fG [aH true aF a0]) λ(y6:aG)=>a7 (Int×PUnit) (λX7 s8=>aE (decide (s8.1<(↑(BWH y6).length:Int))) (aU a6 (BWH y6) s8.1 λ(y9:cP)=>aE (decide (y9.1=a2.2.2.2.2.2.2.1) && (decide (y9.2.1=a2.2.2.2.2.2.2.2.1) && (decide (y9.2.2=a2.2.2.2.2.2.2.2.2)&&true))) (aE (decide (s8.1<0)) (BW4 y6 a1 R) (bO (((BWH y6).all λ(r:List T)=>decide (r.length=3)) && decide ((BWH y6).length*40 <= 140737488355328) && decide ((BWH y6).length<=140737488355328)) (fK a6 (CY (BWH y6) (BW3 s8)) λ(y11:List cP)=>BWJ y6 y11 a1 R))) (BWG X7 s8)) (BW4 y6 a1 R)) (0,())))) (BWG X2 s3)) (BW6 R)) (0,()))
def AYO ( a0 a1 a2 R):fE cA Tryz.prog ANP A6T 8 8 (ES a0 a1 a2) R=AOR a0 a1 a2 R:=by kernel_rfl
noncomputable def AF4:pG->Option T:=F6 12
def ANI (x y:pG) (h:ES x.1 x.2.1 x.2.2=ES y.1 y.2.1 y.2.2):x=y:=mF 12 x y h
noncomputable def AQW:List T->Option (T):=gA (λ(x:aG×aL×dP)=>ES x.1 x.2.1 x.2.2) AF4
def A07 (a0:aG) (a1:aL) (a2:dP):AQW (ES a0 a1 a2)=AF4 (a0,a1,a2):=gF (A:=(λ(x:aG×aL×dP)=>ES x.1 x.2.1 x.2.2)) ANI (a0,a1,a2)
def BI8 (h:∀ (a0:aG) (a1:aL) (a2:dP) (r:T),AF4 (a0,a1,a2)=some r->(∀ t∈ES a0 a1 a2,Bd t)->AOR a0 a1 a2 (λy=>y=r)):aT Tryz.prog 8 AQW :=
 dA (E:=ANP) (Hs:=A6T) A4Z aV aY (aQ rfl) 8 ⟨_,_,Tryz.func8,rfl⟩ λx r h1 h2=>by
  rw[AYO];exact h x.1 x.2.1 x.2.2 r h1 h2
def BHY:aT Tryz.prog 8 AQW:=BI8 λd m x r h hb=>by
 clear hb;obtain ⟨hp,rfl⟩:=uR h;clear h;obtain ⟨hc,ho1,ho2⟩:=JD hp;have c:=fY hc;have is:∀ {a:aG×Int},cE d m (12,x)=a->Sh.enc [(true,aF),(false,.int .i64)] a=Sh.enc [(true,aF),(false,.int .i64)] (cE d m (12,x)):=λh=>by rw[h]
 have hk:(1:Int)<=((12,x):bD).1/\((12,x):bD).1<=12:=by dsimp only;omega
 have h5:¬ ((12,x):bD).1=5:=by dsimp only;omega
 have lift:∀ {a:aG×Int},cE d m (12,x)=a->∀ v,v=Sh.enc [(true,aF),(false,.int .i64)] a->v=Sh.enc [(true,aF),(false,.int .i64)] (cE d m (12,x)):=λh v hv=>by rw[h];exact hv
 unfold AOR BXS BW6 BW4 BW3 BWY BWJ BXC BWG BWH BVX BVW BVV;have z1:xZ [aH true aW (12,x)]=some (Sh.enc [(true,aW)] (dE (12,x))):=(ZQ ..).trans rfl;refine aM (s:=[(true,aW)]) (y:=dE (12,x)) z1 ?_;have z2:cW [aH true aW (12,x),aH true aW (dE (12,x))]=some (Sh.enc p0 (qM (12,x) (dE (12,x)))):=sE ..;refine aM (s:=p0) (y:=qM (12,x) (dE (12,x))) z2 ?_;refine eQ (λh=>lift (GX hk h) _ rfl) λhE=>?_;have hd:=AG (r:=a6) (l:=d.2.2.2.2.2) (z:=3) (b:=40) rfl (eG c.r (by decide));have pos:∀ {k:Nat},¬ (0<=(k:Int))->False:=λh=>h (by omega);have hus:nH d (12,x)=false:=rfl;refine cZ (r:=a6) (λn=>decide (n=iO (12,x))) (qO c.r) (λX k y hlt hy hp hn=>?_) (λ_ h0=>lift (SY hk h5 hE rfl h0) _ rfl);dsimp only;refine ifC (λh=>?_) λh=>hn (aj λe=>h (C3.2 e.symm));obtain ⟨_,h2⟩:=hp (ai (C3.1 h).symm);have hth:cV d (12,x) = !e9 (12,x):=h2;refine eQ (λh=>(pos (of_decide_eq_false h)).elim) λ_=>?_;have z4:kQ [aH true aF d,aH true aW (12,x)]=some (Sh.enc p0 (nH d (12,x))):=(O2 ..).trans rfl;refine aM (s:=p0) (y:=nH d (12,x)) z4 ?_;refine zQ (λh=>absurd h (by rw[hus];decide)) λ_=>?_;refine aM (s:=[(true,aF)]) (y:=d) ((rL ..).trans (gO hc)) ?_;clear hp hn;refine cZ (r:=a6) (λn=>decide (n=iO (12,x))) (qO c.r) (λX k y hk' hy hp hn=>?_) (λh h3=>?_)
 ·dsimp only;refine ifC (λh=>?_) λh=>hn (aj λe=>h (C3.2 e));obtain ⟨hi,_⟩:=hp (ai (C3.1 h));refine b8 (λh=>by omega) λ_=>⟨hd,?_⟩
  have eD:iE d (12,x)=(d.1,d.2.1,d.2.2.1,d.2.2.2.1,d.2.2.2.2.1,d.2.2.2.2.2.take k++d.2.2.2.2.2.drop (k+1)):=by
   show (d.1,d.2.1,d.2.2.1,d.2.2.2.1,d.2.2.2.2.1,jP (λn=>decide (n=iO (12,x))) d.2.2.2.2.2)=_;unfold jP;rw[hi]
  refine eT (r:=a6) (l:=d.2.2.2.2.2.take k++d.2.2.2.2.2.drop (k+1)) (LK (r:=a6) rfl hk' c.r) _ ?_;have z5:cT [aH true aF (d.1,d.2.1,d.2.2.1,d.2.2.2.1,d.2.2.2.2.1,d.2.2.2.2.2.take k++d.2.2.2.2.2.drop (k+1)),aH true aO m]=some (Sh.enc [(false,Sy.int .i64)] (oM (d.1,d.2.1,d.2.2.1,d.2.2.2.1,d.2.2.2.2.1,d.2.2.2.2.2.take k++d.2.2.2.2.2.drop (k+1)) m)):=rK ..;refine aM (s:=[(false,.int .i64)]) (y:=oM (iE d (12,x)) m) (by rw[eD];exact z5) ?_;exact kD (λh=>lift ((xG hk h5 hE hth hus).trans (if_neg h)) _ rfl) λh=>lift ((xG hk h5 hE hth hus).trans (if_pos h)) _ (by rw[eD];rfl)
 ·exfalso;have:=h2.symm.trans h3;cases this
end Go.Pv
namespace Go.Pv
open Go Go.Proofs IntKind
variable {α:Type}{is:α->Bool}{l:List α}
def AUQ {f:α->α} {k:Nat} (hk:k<l.length) (h:l.findIdx is=k):PM is f l=l.set k (f l[k]):=by
 unfold PM;rw[h];refine List.ext_getElem (by simp) λi h1 h2=>?_;rw[List.getElem_modify,List.getElem_set];by_cases e:k=i
 ·subst e;simp
 ·simp[e]
def AWG {r:Sy} {l:List r.den} {k:Nat} {y:r.den} {row:List T} (h:row=r.enc y):(List.map r.enc l).set k row=List.map r.enc (l.set k y):=by rw[h,List.map_set]
def AA2 {α:Type}:∀ (s pre r:List α),r.length=s.length->b6 (pre++r) pre.length s=pre++s
 | [],pre,[],_=>rfl
 | [],_,_::_,h=>by cases h
 | _::_,_,[],h=>by cases h
 | x::s,pre,a::r,h=>by
  unfold b6;rw[show (pre++a::r).set pre.length x=(pre++[x])++r by simp,show pre.length+1=(pre++[x]).length by simp,AA2 s (pre++[x]) r (by simpa using h)];simp
def AT4 (r s:List α) (h:r.length=s.length):b6 r 0 s=s:=AA2 s [] r h
def AMD {d:aG} {id:iII} (h:(partOf d id).isSome=true):d.2.2.1≠[]:=by
 intro e;unfold partOf at h;rw[e] at h;cases h
def AMB {d:aG} {id:iII} (h:(partOf d id).isSome=true):d.2.2.1.any (λp=>dX id p)=true:=by
 unfold partOf at h;rw[List.find?_isSome] at h;obtain ⟨p,hp,h⟩:=h;exact List.any_eq_true.2 ⟨p,hp,h⟩
def AAQ {d:aG} {n:Nat} (h:d.2.2.1≠[]) (hn:n=aS.w):(!(List.map aS.enc d.2.2.1).isEmpty&&iD n (List.map aS.enc d.2.2.1))=true:=by
 subst hn;rw[ac];refine ⟨?_,pH ..⟩;cases hl:d.2.2.1 with
 | nil=>exact absurd hl h
 | cons a l=>rfl
def RD (a0:aG) (a1:aL) (a2:dP):List T:=[aH true aF a0,aH true aO a1,aH true aW (6,a2)]
noncomputable def A39:Env:=Env.of [(34,.pure cW),(197,.pure ZS),(35,.pure mI),(191,.pure kQ),(97,.pure jJ),(36,.part 2 UJ),(15,.pure cT)]
def BKS:FuncId->Hint:=bP 193 [(2,.inv [.val 8 false (.int .i64)])] (λ_=>bH)
def BGH:bB Tryz.prog A39:=.cons j2 (.cons BNQ (.cons HG (.cons vH (.cons xQ (.cons QK (.cons lF (.nil _)))))))
def BXK(y3:aG)(y12:List T)(a2:dP):List T:=[pPQ y3.1, T.sl false (BWQ y3), T.sl false ((BWL y3).set (-1).toNat (b6 y12 3 [pPQ a2.2.1])), T.sl false (BWO y3), T.sl false (BWI y3), T.sl false (BWH y3)]
def BXQ(y3:aG)(s5:Int×PUnit)(y9:List T)(a2:dP):List T:=[pPQ y3.1, T.sl false (BWQ y3), T.sl false ((BWL y3).set (Int.toNat s5.1) (b6 y9 3 [pPQ a2.2.1])), T.sl false (BWO y3), T.sl false (BWI y3), T.sl false (BWH y3)]
def A5H(a0:aG)(a1:aL)(a2:dP)(R:T->Prop):Prop:=aJ [(true,aW)] (ZS [(aH true aW (6,a2))]) λ(y0:bD)=>aJ BVX (cW [(aH true aW (6,a2)), aH true aW y0]) λ(y1:Bool)=>aE (!y1) (BWY R) (aJ BV1 (mI (BX6 a0 a2)) λ(y2:bG×Bool)=>aE (!y2.2) (BW6 R) (aJ [(true,aF)] (UJ [aH true aF a0]) λ(y3:aG)=>bO (!(BWL y3).isEmpty && iD (1+(1+(1+(1+(1+(1+(1+1+(1+(1+(1+(1+(1+1)+(1+(1+1)+1)))))))))))) (BWL y3)) (a7 (Int×PUnit) (λX4 s5=>aE (decide (s5.1<(↑(BWL y3).length:Int))) (aU aS (BWL y3) s5.1 λ(y6:bG)=>kU aS (BWL y3) (Int.toNat s5.1) 0 λ(y7:bG)=>aE (decide (y7.1=a2.1)) (aU aS (BWL y3) s5.1 λ(y8:bG)=>D6 (BWL y3) (Int.toNat s5.1) λ(y9:List T)=>bO (decide (4<=y9.length)) (aJ BVW (cT [T.agg (BXQ y3 s5 y9 a2), aH true aO a1]) λ(y10:Int)=>aE (!decide (y10=0)) (BXC R y10) (R (T.cB [T.agg (BXQ y3 s5 y9 a2), pPP 0])))) (BWG X4 s5)) (aU aS (BWL y3) (-1) λ(y11:bG)=>D6 (BWL y3) (-1).toNat λ(y12:List T)=>bO (decide (4<=y12.length)) (aJ BVW (cT [T.agg (BXK y3 y12 a2), aH true aO a1]) λ(y13:Int)=>aE (!decide (y13=0)) (BXC R y13) (R (T.cB [T.agg (BXK y3 y12 a2), pPP 0]))))) (0,()))))
def A5I ( a0 a1 a2 R):fE cA Tryz.prog A39 BKS 8 8 (RD a0 a1 a2) R=A5H a0 a1 a2 R:=by kernel_rfl
noncomputable def ATQ:pG->Option T:=F6 6
def AW7 (x y:pG) (h:RD x.1 x.2.1 x.2.2=RD y.1 y.2.1 y.2.2):x=y:=mF 6 x y h
noncomputable def A9Y:List T->Option (T):=gA (λ(x:aG×aL×dP)=>RD x.1 x.2.1 x.2.2) ATQ
def A9Z (a0:aG) (a1:aL) (a2:dP):A9Y (RD a0 a1 a2)=ATQ (a0,a1,a2):=gF (A:=(λ(x:aG×aL×dP)=>RD x.1 x.2.1 x.2.2)) AW7 (a0,a1,a2)
def BO0 (h:∀ (a0:aG) (a1:aL) (a2:dP) (r:T),ATQ (a0,a1,a2)=some r->(∀ t∈RD a0 a1 a2,Bd t)->A5H a0 a1 a2 (λy=>y=r)):aT Tryz.prog 8 A9Y :=
 dA (E:=A39) (Hs:=BKS) BGH aV aY (aQ rfl) 8 ⟨_,_,Tryz.func8,rfl⟩ λx r h1 h2=>by
  rw[A5I];exact h x.1 x.2.1 x.2.2 r h1 h2
def BM2:aT Tryz.prog 8 A9Y:=BO0 λd m x r h hb=>by
 clear hb;obtain ⟨hp,rfl⟩:=uR h;clear h;obtain ⟨hc,ho1,ho2⟩:=JD hp;have c:=fY hc;have hk:(1:Int)<=((6,x):bD).1/\((6,x):bD).1<=12:=by dsimp only;omega
 have lift:∀ {a:aG×Int},cE d m (6,x)=a->∀ v,v=Sh.enc [(true,aF),(false,.int .i64)] a->v=Sh.enc [(true,aF),(false,.int .i64)] (cE d m (6,x)):=λh v hv=>by rw[h];exact hv
 unfold A5H BX6 BXQ BXK BW6 BWY BWQ BWO BWL BXC BWI BWG BWH BV1 BVX BVW BVV;have z1:ZS [aH true aW (6,x)]=some (Sh.enc [(true,aW)] (dE (6,x))):=(BAP ..).trans rfl;refine aM (s:=[(true,aW)]) (y:=dE (6,x)) z1 ?_;have z2:cW [aH true aW (6,x),aH true aW (dE (6,x))]=some (Sh.enc p0 (qM (6,x) (dE (6,x)))):=sE ..;refine aM (s:=p0) (y:=qM (6,x) (dE (6,x))) z2 ?_;refine eQ (λh=>lift (GX hk h) _ rfl) λhE=>?_;have h5:¬ ((6,x):bD).1=5:=by dsimp only;omega
 refine aM (s:=[(true,aS),(false,.bool)]) (y:=found cO (partOf d (fM (6,x)))) ((sC ..).trans (by unfold mD;dsimp only;rw[c.KK];rfl)) ?_;have ht:cV d (6,x)=(found cO (partOf d (fM (6,x)))).2:=(rJ ..).symm;refine eQ (λh=>lift (SY hk h5 hE rfl (ht.trans h)) _ rfl) λh=>?_;have hth:cV d (6,x) = !e9 (6,x):=ht.trans h;have hus:nH d (6,x)=false:=rfl;have hso:(partOf d (fM (6,x))).isSome=true:=(rJ ..).symm.trans h;refine aM (s:=[(true,aF)]) (y:=d) ((rL ..).trans (gO hc)) ⟨AAQ (AMD hso) rfl,?_⟩;refine cZ (r:=aS) (λp=>dX (fM (6,x)) p) (qO c.p) (λX k y hlt hy hp hn=>?_) (λh0 ha=>absurd (AMB hso) (by rw[ha];exact Bool.false_ne_true));rw[show Int.toNat (k:Int)=k from rfl,gI (r:=aS) hlt];refine b8 (λhe=>?_) λhe=>hn (by subst hy;exact aj he);obtain ⟨hidx,_⟩:=hp (by subst hy;exact ai he);rw[bA (r:=aS) hlt,n9 (r:=aS) hlt];refine ⟨by rw[Sy.dV];rfl,?_⟩;have hD:iE d (6,x)=(d.1,d.2.1,d.2.2.1.set k (A10 d.2.2.1[k] (eTo (6,x))),d.2.2.2):=by
  have e:iE d (6,x)=(d.1,d.2.1,PM (dX (fM (6,x))) (λp=>A10 p (eTo (6,x))) d.2.2.1,d.2.2.2):=rfl;rw[e,AUQ hlt hidx]
 have hs:(List.map aS.enc d.2.2.1).set k (b6 (aS.enc d.2.2.1[k]) 3 [pPQ x.2.1])=List.map aS.enc (d.2.2.1.set k (A10 d.2.2.1[k] (eTo (6,x)))):=AWG (r:=aS) rfl;rw[hs];have z3:=rK (a0:=iE d (6,x)) (a1:=m);have hchk:=xG (m:=m) hk h5 hE hth hus;rw[hD] at z3 hchk;refine aM (s:=[(false,.int .i64)]) z3 ?_;exact kD (λh=>lift (hchk.trans (if_neg h)) _ rfl) λh=>lift (hchk.trans (if_pos h)) _ rfl
def RC (a0:aG) (a1:aL) (a2:dP):List T:=[aH true aF a0,aH true aO a1,aH true aW (5,a2)]
noncomputable def A38:Env:=Env.of [(34,.pure cW),(189,.pure ZR),(35,.pure mI),(191,.pure kQ),(97,.pure jJ),(36,.part 2 UJ),(15,.pure cT)]
def BKR:FuncId->Hint:=bP 193 [(2,.inv [.val 8 false (.int .i64)])] (λ_=>bH)
def BGG:bB Tryz.prog A38:=.cons j2 (.cons BNP (.cons HG (.cons vH (.cons xQ (.cons QK (.cons lF (.nil _)))))))
def BX4(a0:bG):List (List T):=List.map aC.li.enc a0.2.2.2.2.2.2.1.2
def BWF(y9:bG)(y11:Int):List T:=[pPQ y9.1, pPP (i64.wrap (y11+1)), pPP y9.2.2.1, pPQ y9.2.2.2.1, pPQ y9.2.2.2.2.1, pPP y9.2.2.2.2.2.1, T.sl false (List.map aC.enc y9.2.2.2.2.2.2.1.1), T.sl false (BX4 y9), pPQ y9.2.2.2.2.2.2.2.1, pPP y9.2.2.2.2.2.2.2.2.1, pPP y9.2.2.2.2.2.2.2.2.2.1, pPP y9.2.2.2.2.2.2.2.2.2.2.1.1, pPP y9.2.2.2.2.2.2.2.2.2.2.1.2.1, pPP y9.2.2.2.2.2.2.2.2.2.2.1.2.2, pPP y9.2.2.2.2.2.2.2.2.2.2.2.1.1, pPP y9.2.2.2.2.2.2.2.2.2.2.2.1.2.1, pPP y9.2.2.2.2.2.2.2.2.2.2.2.1.2.2, pPP y9.2.2.2.2.2.2.2.2.2.2.2.2]
def BXV(y4:aG)(y19:List T)(y15:bG)(y17:Int):List T:=[pPQ y4.1, T.sl false (BWQ y4), T.sl false ((BWL y4).set (-1).toNat (b6 y19 0 (BWF y15 y17))), T.sl false (BWO y4), T.sl false (BWI y4), T.sl false (BWH y4)]
def BX1(y4:aG)(s6:Int×PUnit)(y13:List T)(y9:bG)(y11:Int):List T:=[pPQ y4.1, T.sl false (BWQ y4), T.sl false ((BWL y4).set (Int.toNat s6.1) (b6 y13 0 (BWF y9 y11))), T.sl false (BWO y4), T.sl false (BWI y4), T.sl false (BWH y4)]
def A5F(a0:aG)(a1:aL)(a2:dP)(R:T->Prop):Prop:=aJ [(true,aW)] (ZR [(aH true aW (5,a2))]) λ(y0:bD)=>aJ BVX (cW [(aH true aW (5,a2)), aH true aW y0]) λ(y1:Bool)=>aE (!y1) (BWY R) (aE (!decide (a2.2.2.2.1.2.1=0)) (BWY R) (aJ BV1 (mI (BYC a0 a2)) λ(y2:bG×Bool)=>aE (!y2.2) (BW6 R) (aJ BV1 (mI (BYC a0 a2)) λ(y3:bG×Bool)=>aE (!decide (y3.1.2.2.2.1=a2.2.2.2.1.2.2.2.1)) (BWY R) (aJ [(true,aF)] (UJ [aH true aF a0]) λ(y4:aG)=>bO (!(BWL y4).isEmpty && iD (1 + (1+(1+(1+(1+(1+(1+1+(1+(1+(1+(1+(1+1)+(1+(1+1)+1)))))))))))) (BWL y4)) (a7 (Int×PUnit) (λX5 s6=>aE (decide (s6.1<(↑(BWL y4).length:Int))) (aU aS (BWL y4) s6.1 λ(y7:bG)=>kU aS (BWL y4) (Int.toNat s6.1) 0 λ(y8:bG)=>aE (decide (y8.1=a2.2.2.2.1.1)) (aJ [(true,aS)] (jJ [aH true aS a2.2.2.2.1]) λ(y9:bG)=>aU aS (BWL y4) s6.1 λ(y10:bG)=>kU BV7 (BWL y4) (Int.toNat s6.1) 1 λ(y11:Int)=>aU aS (BWL y4) s6.1 λ(y12:bG)=>D6 (BWL y4) (Int.toNat s6.1) λ(y13:List T)=>bO (decide (18<=y13.length)) (aJ BVW (cT [T.agg (BX1 y4 s6 y13 y9 y11), aH true aO a1]) λ(y14:Int)=>aE (!decide (y14=0)) (BXC R y14) (R (T.cB [T.agg (BX1 y4 s6 y13 y9 y11), pPP 0])))) (BWG X5 s6)) (aJ [(true,aS)] (jJ [aH true aS a2.2.2.2.1]) λ(y15:bG)=>aU aS (BWL y4) (-1) λ(y16:bG)=>kU BV7 (BWL y4) (-1).toNat 1 λ(y17:Int)=>aU aS (BWL y4) (-1) λ(y18:bG)=>D6 (BWL y4) (-1).toNat λ(y19:List T)=>bO (decide (18<=y19.length)) (aJ BVW (cT [T.agg (BXV y4 y19 y15 y17), aH true aO a1]) λ(y20:Int)=>aE (!decide (y20=0)) (BXC R y20) (R (T.cB [T.agg (BXV y4 y19 y15 y17), pPP 0]))))) (0,()))))))
def A5G ( a0 a1 a2 R):fE cA Tryz.prog A38 BKR 8 8 (RC a0 a1 a2) R=A5F a0 a1 a2 R:=by kernel_rfl
noncomputable def ATP:pG->Option T:=F6 5
def AW6 (x y:pG) (h:RC x.1 x.2.1 x.2.2=RC y.1 y.2.1 y.2.2):x=y:=mF 5 x y h
noncomputable def A9W:List T->Option (T):=gA (λ(x:aG×aL×dP)=>RC x.1 x.2.1 x.2.2) ATP
def A9X (a0:aG) (a1:aL) (a2:dP):A9W (RC a0 a1 a2)=ATP (a0,a1,a2):=gF (A:=(λ(x:aG×aL×dP)=>RC x.1 x.2.1 x.2.2)) AW6 (a0,a1,a2)
def BOZ (h:∀ (a0:aG) (a1:aL) (a2:dP) (r:T),ATP (a0,a1,a2)=some r->(∀ t∈RC a0 a1 a2,Bd t)->A5F a0 a1 a2 (λy=>y=r)):aT Tryz.prog 8 A9W :=
 dA (E:=A38) (Hs:=BKR) BGG aV aY (aQ rfl) 8 ⟨_,_,Tryz.func8,rfl⟩ λx r h1 h2=>by
  rw[A5G];exact h x.1 x.2.1 x.2.2 r h1 h2
def BM1:aT Tryz.prog 8 A9W:=BOZ λd m x r h hb=>by
 clear hb;obtain ⟨hp,rfl⟩:=uR h;clear h;obtain ⟨hc,ho1,ho2⟩:=JD hp;have c:=fY hc;have hk:(1:Int)<=((5,x):bD).1/\((5,x):bD).1<=12:=by dsimp only;omega
 have lift:∀ {a:aG×Int},cE d m (5,x)=a->∀ v,v=Sh.enc [(true,aF),(false,.int .i64)] a->v=Sh.enc [(true,aF),(false,.int .i64)] (cE d m (5,x)):=λh v hv=>by rw[h];exact hv
 unfold A5F BYC BX1 BXV BW6 BWY BWQ BWO BWL BXC BWI BWF BX4 BWG BWH BV7 BV1 BVX BVW BVV;have z1:ZR [aH true aW (5,x)]=some (Sh.enc [(true,aW)] (dE (5,x))):=(BAO ..).trans rfl;refine aM (s:=[(true,aW)]) (y:=dE (5,x)) z1 ?_;have z2:cW [aH true aW (5,x),aH true aW (dE (5,x))]=some (Sh.enc p0 (qM (5,x) (dE (5,x)))):=sE ..;refine aM (s:=p0) (y:=qM (5,x) (dE (5,x))) z2 ?_;refine eQ (λh=>lift (GX hk h) _ rfl) λhE=>?_;have hr:¬ (¬ (1<=((5,x):bD).1/\((5,x):bD).1<=12)):=λh=>h hk;refine kD (λh=>lift (by unfold cE;rw[if_neg hr,if_pos (.inr ⟨rfl,h⟩)]) _ rfl) λhrev=>?_;have hpl:¬ (qM (5,x) (dE (5,x))=false\/(((5,x):bD).1=5/\¬ (cR (5,x)).2.1=0)):=λh=>h.elim (λe=>by rw[hE] at e;cases e) λe=>e.2 hrev;refine aM (s:=[(true,aS),(false,.bool)]) (y:=found cO (partOf d (cR (5,x)).1)) ((sC ..).trans (by unfold mD;dsimp only;rw[c.KK];rfl)) ?_;have ht:cV d (5,x)=(found cO (partOf d (cR (5,x)).1)).2:=(rJ ..).symm;have had:¬ (e9 (5,x)=true/\cV d (5,x)=true):=λh=>by cases h.1
 refine eQ (λh=>lift (by unfold cE;rw[if_neg hr,if_neg hpl,if_neg had,if_pos ⟨rfl,ht.trans h⟩]) _ rfl) λh=>?_;have hno:¬ (e9 (5,x)=false/\cV d (5,x)=false):=λe=>by rw[ht,h] at e;cases e.2
 have hso:(partOf d (cR (5,x)).1).isSome=true:=(rJ ..).symm.trans h;refine aM (s:=[(true,aS),(false,.bool)]) (y:=found cO (partOf d (cR (5,x)).1)) ((sC ..).trans (by unfold mD;dsimp only;rw[c.KK];rfl)) ?_;refine kD (λh=>lift (by unfold cE;rw[if_neg hr,if_neg hpl,if_neg had,if_neg hno,if_pos ⟨rfl,h⟩]) _ rfl) λhnode=>?_;have hnd:¬ (((5,x):bD).1=5/\¬ fV (found cO (partOf d (cR (5,x)).1)).1=fV (cR (5,x))):=λe=>e.2 hnode;have hchk:cE d m (5,x)=if oM (iE d (5,x)) m=0 then (iE d (5,x),0) else (o2,oM (iE d (5,x)) m):=by
  have hu:¬ nH d (5,x)=true:=λh=>by cases h
  unfold cE;rw[if_neg hr,if_neg hpl,if_neg had,if_neg hno,if_neg hnd,if_neg hu]
 refine aM (s:=[(true,aF)]) (y:=d) ((rL ..).trans (gO hc)) ⟨AAQ (AMD hso) rfl,?_⟩;refine cZ (r:=aS) (λp=>dX (cR (5,x)).1 p) (qO c.p) (λX k y hlt hy hp hn=>?_) (λh0 ha=>absurd (AMB hso) (by rw[ha];exact Bool.false_ne_true));rw[show Int.toNat (k:Int)=k from rfl,gI (r:=aS) hlt];refine b8 (λhe=>?_) λhe=>hn (by subst hy;exact aj he);obtain ⟨hidx,_⟩:=hp (by subst hy;exact ai he);refine aM (s:=[(true,aS)]) (y:=cR (5,x)) ((xV ..).trans (by unfold jZ;rw[ho1])) ?_;rw[bA (r:=aS) hlt];refine ⟨aS.enc d.2.2.1[k],(d.2.2.1[k]).2.1,AC3.2 (List.getElem?_eq_getElem hlt),by rw[Sy.dV];decide,rfl,?_⟩;dsimp only;rw[bA (r:=aS) hlt,n9 (r:=aS) hlt];refine ⟨by rw[Sy.dV];rfl,?_⟩;have hD:iE d (5,x)=(d.1,d.2.1,d.2.2.1.set k (A3N (cR (5,x)) d.2.2.1[k]),d.2.2.2):=by
  have e:iE d (5,x)=(d.1,d.2.1,PM (dX (cR (5,x)).1) (A3N (cR (5,x))) d.2.2.1,d.2.2.2):=rfl;rw[e,AUQ hlt hidx]
 generalize hrow:b6 (aS.enc d.2.2.1[k]) 0 _=row;have hs:(List.map aS.enc d.2.2.1).set k row=List.map aS.enc (d.2.2.1.set k (A3N (cR (5,x)) d.2.2.1[k])):=AWG (r:=aS) (by rw[<-hrow,AT4 _ _ (by rw[Sy.dV];rfl)];rfl);rw[hs];have z3:=rK (a0:=iE d (5,x)) (a1:=m);rw[hD] at z3 hchk;refine aM (s:=[(false,.int .i64)]) z3 ?_;exact kD (λh=>lift (hchk.trans (if_neg h)) _ rfl) λh=>lift (hchk.trans (if_pos h)) _ rfl
end Go.Pv
namespace Go.Pv
open Go Go.Proofs IntKind
def BGZ:FuncId->Hint:=bP 49 [(4,.inv [.val 3 false (.int .i64)])] (λ_=>bH)
def ABU(a0:bG)(R:T->Prop):Prop:=aE (decide (200<(↑(ByteArray.size a0.1):Int))) (R BVY) (aE (decide (200<(↑(ByteArray.size a0.2.2.2.1):Int))) (R BVY) (aE (decide (200<(↑(ByteArray.size a0.2.2.2.2.1):Int))) (R BVY) (aE (decide (200<(↑(ByteArray.size a0.2.2.2.2.2.2.2.1):Int))) (R BVY) (aE (decide (40<(↑(List.map aC.enc a0.2.2.2.2.2.2.1.1).length:Int))) (R BVY) (aE (decide (12<(↑(BX4 a0).length:Int))) (R BVY) (a7 (Int×PUnit) (λX0 s1=>aE (decide (s1.1<(↑(BX4 a0).length:Int))) (aU aC.li (BX4 a0) s1.1 λ(y2:List aN)=>aE (decide (40<(↑(List.map aC.enc y2).length:Int))) (R BVY) (BWG X0 s1)) (R BV0)) (0,())))))))
abbrev AE6:Sh:=[(true,aS)]
def vF (p:bG):Bool:=decide ((p.1.size:Int)<=200)&&(decide ((p.2.2.2.1.size:Int)<=200)&&(decide ((p.2.2.2.2.1.size:Int)<=200)&&(decide ((p.2.2.2.2.2.2.2.1.size:Int)<=200)&&(decide ((p.2.2.2.2.2.2.1.1.length:Int)<=40)&&(decide ((p.2.2.2.2.2.2.1.2.length:Int)<=12)&&p.2.2.2.2.2.2.1.2.all λh=>decide ((h.length:Int)<=40))))))
def JX (p:bG):Option T:=some (Sh.enc p0 (vF p))
noncomputable def HP:List T->Option T:=gS AE6 JX
def AQ0 {a0}:HP [aH true aS a0]=JX (a0):=a8 (s:=AE6) rfl (a0) rfl
def BCF:lW Tryz.prog 49 HP JX (bR AE6) ABU:=eN (a1:=(true,aS)) (Hs:=BGZ) (k:=8) (bM _) aV aY (aQ rfl) ⟨_,_,Tryz.func49,rfl⟩ rfl λ_ _=>by kernel_rfl
def A8Y:aT Tryz.prog 49 HP:=BCF λp r h hb=>by
 clear hb;cases h;have no:vF p=false->pPR false=Sh.enc p0 (vF p):=λh=>by rw[h];rfl
 unfold ABU BX4 BWG BV0 BVY;simp only[ae];refine gN (λh=>no (by simp[vF,h])) λg1=>?_;refine gN (λh=>no (by simp[vF,h])) λg2=>?_;refine gN (λh=>no (by simp[vF,h])) λg3=>?_;refine gN (λh=>no (by simp[vF,h])) λg4=>?_;refine gN (λh=>no (by simp[vF,h])) λg5=>?_;refine gN (λh=>no (by simp[vF,h])) λg6=>?_;refine bJ p.2.2.2.2.2.2.1.2.length (λk s=>s=((k:Int),())/\vF p=(p.2.2.2.2.2.2.1.2.drop k).all λh=>decide ((h.length:Int)<=40)) ⟨rfl,by simp only[vF,g1,g2,g3,g4,g5,g6,decide_true,Bool.true_and,List.drop_zero]⟩ ?_;rintro X k s hk ⟨rfl,he⟩ hX;dsimp only;by_cases hlt:k<p.2.2.2.2.2.2.1.2.length
 ·rw[SW hlt] at he;refine dD (by simp[hlt]) ?_;rw[bA (r:=.li aC) hlt]
  try simp only[ae]
  refine gN (λh=>no (by rw[he];simp[h])) λg7=>?_;refine hX _ hlt ⟨by rw[show i64.wrap ((k:Int)+1)=((k+1:Nat):Int) from aZ _ (by omega) (by omega)],?_⟩;rw[he];simp only[g7,decide_true,Bool.true_and]
 ·have:k=p.2.2.2.2.2.2.1.2.length:=by omega
  subst this;refine eB (by simp) ?_;rw[he];simp only[List.drop_length,List.all_nil];rfl
noncomputable def BFX:Env:=Env.of [(49,.pure HP)]
def BG0:FuncId->Hint:=bP 19 [(6,.inv [.val 4 false (.int .i64)])] (λ_=>bH)
def AX6:bB Tryz.prog BFX:=.cons A8Y (.nil _)
def BXG(a0:bD):List T:=[pPQ a0.2.2.2.2.2.1.2.2.1]
def BXH(a0:bD):List T:=[pPQ a0.2.2.2.2.2.2.1.2.1]
def BXI(a0:bD):List T:=[pPQ a0.2.2.2.2.2.2.2.2.1]
def BXJ(a0:bD):List T:=[pPQ a0.2.2.2.2.2.2.2.2.2]
def BXL(a0:bD):List T:=[pPQ a0.2.2.2.2.2.1.2.1]
def BXM(a0:bD):List T:=[pPQ a0.2.2.2.2.2.2.1.1]
def BXP(a0:bD):List T:=[pPQ a0.2.2.2.2.2.1.1]
def BXT(a0:bD):List T:=[pPQ a0.2.2.2.1.2.2]
def BXX(a0:bD):List T:=[pPQ a0.2.2.2.1.1]
def BX7(a0:bD):List T:=[pPQ a0.2.2.1]
def BYA(a0:bD):List T:=[pPQ a0.2.1]
def BWK(a0:bD):List (List T):=[(BYA a0).reverse, (BX7 a0).reverse, (BXX a0).reverse, (BXT a0).reverse, (BXP a0).reverse, (BXL a0).reverse, (BXG a0).reverse, (BXM a0).reverse, (BXH a0).reverse, (BXI a0).reverse, (BXJ a0).reverse]
def BWW(a0:bD):List (List T):=List.map Sy.str.enc a0.2.2.2.2.2.2.1.2.2.2.2
def BW0(a0:bD):List (List T):=List.map Sy.str.enc a0.2.2.2.2.2.2.1.2.2.1
def ABV(a0:bD)(R:T->Prop):Prop:=aE (decide (40<(↑(BW0 a0).length:Int))) (R BVY) (aE (decide (40<(↑(BWW a0).length:Int))) (R BVY) (aJ BVX (HP [aH true aS a0.2.2.2.2.1]) λ(y0:Bool)=>aE (!y0) (R BVY) (aE (BW0 a0).isEmpty (aE (BWW a0).isEmpty (a7 (Int×PUnit) (λX1 s2=>aE (decide (s2.1<(↑11:Int))) (aU Sy.str [(BYA a0),(BX7 a0), (BXX a0), (BXT a0), (BXP a0), (BXL a0), (BXG a0), (BXM a0), (BXH a0), (BXI a0), (BXJ a0)] s2.1 λ(y3:iII)=>aE (decide (200<(↑y3.size:Int))) (R BVY) (BWG X1 s2)) (R BV0)) (0,())) (bO (iD 1 (BWW a0) && decide ((11+(BWW a0).length)*16 <= 140737488355328) && decide (11+(BWW a0).length <= 140737488355328)) (a7 (Int×PUnit) (λX4 s5=>aE (decide (s5.1 < (↑(ACX (BWK a0) (BWW a0)).length : Int))) (aU Sy.str ((BYA a0) :: (BX7 a0) :: (BXX a0) :: (BXT a0) :: (BXP a0) :: (BXL a0) :: (BXG a0) :: (BXM a0) :: (BXH a0) :: (BXI a0) :: (BXJ a0) :: (BWW a0)) s5.1 λ(y6:iII)=>kU Sy.str ((BYA a0) :: (BX7 a0) :: (BXX a0) :: (BXT a0) :: (BXP a0) :: (BXL a0) :: (BXG a0) :: (BXM a0) :: (BXH a0) :: (BXI a0) :: (BXJ a0) :: (BWW a0)) (Int.toNat s5.1) 0 λ(y7:iII)=>aE (decide (200<(↑y7.size:Int))) (R BVY) (BWG X4 s5)) (R BV0)) (0,())))) (bO (iD 1 (BW0 a0) && decide ((11+(BW0 a0).length)*16 <= 140737488355328) && decide (11+(BW0 a0).length<=140737488355328)) (bO (iD 1 (BWW a0) && decide (((ACX (BWK a0) (BW0 a0)).length + (BWW a0).length) * 16 <= 140737488355328) && decide ((ACX (BWK a0) (BW0 a0)).length + (BWW a0).length <= 140737488355328)) (a7 (Int×PUnit) (λX8 s9=>aE (decide (s9.1 < (↑(ACX (BWK a0) (BW0 a0) ++ List.map Sy.str.enc a0.2.2.2.2.2.2.1.2.2.2.2).length : Int))) (aU Sy.str ((BYA a0) :: (BX7 a0) :: (BXX a0) :: (BXT a0) :: (BXP a0) :: (BXL a0) :: (BXG a0) :: (BXM a0) :: (BXH a0) :: (BXI a0) :: (BXJ a0) :: ((([]++(BW0 a0)))++(BWW a0))) s9.1 λ(y10:iII)=>kU Sy.str ((BYA a0) :: (BX7 a0) :: (BXX a0) :: (BXT a0) :: (BXP a0) :: (BXL a0) :: (BXG a0) :: (BXM a0) :: (BXH a0) :: (BXI a0) :: (BXJ a0) :: ((([]++(BW0 a0)))++(BWW a0))) (Int.toNat s9.1) 0 λ(y11:iII)=>aE (decide (200<(↑y11.size:Int))) (R BVY) (BWG X8 s9)) (R BV0)) (0,())))))))
abbrev AE7:Sh:=[(true,aW)]
def EM (l:List iII):Bool:=l.all λs=>decide ((s.size:Int)<=200)
def AJ (x:bD):List iII:=[x.2.1,x.2.2.1,x.2.2.2.1.1,x.2.2.2.1.2.2,x.2.2.2.2.2.1.1,x.2.2.2.2.2.1.2.1,x.2.2.2.2.2.1.2.2.1,x.2.2.2.2.2.2.1.1,x.2.2.2.2.2.2.1.2.1,x.2.2.2.2.2.2.2.2.1,x.2.2.2.2.2.2.2.2.2]
def vG (x:bD):Bool:=decide ((x.2.2.2.2.2.2.1.2.2.1.length:Int)<=40)&&(decide ((x.2.2.2.2.2.2.1.2.2.2.2.length:Int)<=40)&&(vF (x.2.2.2.2.1)&&EM ((AJ x++x.2.2.2.2.2.2.1.2.2.1)++x.2.2.2.2.2.2.1.2.2.2.2)))
def JY (x:bD):Option T:=some (Sh.enc p0 (vG x))
noncomputable def HQ:List T->Option T:=gS AE7 JY
def AQ1 {a0}:HQ [aH true aW a0]=JY (a0):=a8 (s:=AE7) rfl (a0) rfl
def BCG:lW Tryz.prog 19 HQ JY (bR AE7) ABV:=eN (a1:=(true,aW)) (Hs:=BG0) (k:=8) AX6 aV aY (aQ rfl) ⟨_,_,Tryz.func19,rfl⟩ rfl λ_ _=>by kernel_rfl
variable {L:List iII}{A B:Prop}
def AGL {rows:List (List T)} {n:Int} (hr:rows=List.map Sy.str.enc L) (hn:n=(L.length:Int)) (hl:L.length<=1000) {Body:(Int×PUnit->Prop)->Int×PUnit->iII->Prop}
  (hB:∀ (X:Int×PUnit->Prop) (k:Nat) (h:k<L.length),(¬ ((L[k].size:Int)<=200)->A)->(((L[k].size:Int)<=200)->X (i64.wrap ((k:Int)+1),()))->Body X ((k:Int),()) L[k])
  (hA:EM L=false->A) (hF:EM L=true->B) :
  a7 (Int×PUnit) (λX s=>aE (decide (s.1<n)) (aU .str rows s.1 λy=>Body X s y) B) (0,()):=by
 subst hr;subst hn;refine bJ L.length (λk s=>s=((k:Int),())/\EM L=EM (L.drop k)) ⟨rfl,rfl⟩ ?_;rintro X k s hk ⟨rfl,he⟩ hX;dsimp only;have he':=he;unfold EM at he;refine b8 (λhlt=>?_) λhge=>?_
 ·have hlt:k<L.length:=by omega
  rw[SW hlt] at he;rw[bA (r:=.str) hlt];refine hB X k hlt (λh=>hA (by unfold EM;rw[he,aj h];rfl)) λh=>hX _ hlt ⟨?_,?_⟩
  ·rw[show i64.wrap ((k:Int)+1)=((k+1:Nat):Int) by rw[aZ]<;>omega]
  ·unfold EM;rw[he,ai h];rfl
 ·refine hF ?_;rw[he',List.drop_eq_nil_of_le (by omega)];rfl
def SV {l:List iII}:iD 1 (List.map Sy.str.enc l)=true:=pH (r:=.str) ..
def AMC {rows:List (List T)} {k:Nat} {K:iII->Prop} (hr:rows=List.map Sy.str.enc L) (h:k<L.length) (hk:K L[k]):kU Sy.str rows (Int.toNat (k:Int)) 0 K:=by
 subst hr;rw[Int.toNat_natCast,gI (r:=.str) h];exact hk
def A8Z:aT Tryz.prog 19 HQ:=BCG λx r h hb=>by
 clear hb;cases h;have no:vG x=false->pPR false=Sh.enc p0 (vG x):=λh=>by rw[h];rfl
 have yes:vG x=true->pPR true=Sh.enc p0 (vG x):=λh=>by rw[h];rfl
 unfold ABV BW0 BWW BWK BYA BX7 BXX BXT BXP BXM BXL BXJ BXI BXH BXG BWG BV0 BVY BVX;simp only[ae];refine gN (λh=>no (by simp[vG,h])) λg1=>?_;refine gN (λh=>no (by simp[vG,h])) λg2=>?_;refine aM (s:=p0) (y:=vF (x.2.2.2.2.1)) (AQ0 ..) ?_;refine eQ (λh=>no (by unfold vG;rw[h,Bool.false_and,Bool.and_false,Bool.and_false])) λg3=>?_;have hn:∀ {L},L=(AJ x++x.2.2.2.2.2.2.1.2.2.1)++x.2.2.2.2.2.2.1.2.2.2.2->EM L=false->pPR false=Sh.enc p0 (vG x):=λe h=>no (by subst e;unfold vG;rw[h,Bool.and_false,Bool.and_false,Bool.and_false]);have hy:∀ {L},L=(AJ x++x.2.2.2.2.2.2.1.2.2.1)++x.2.2.2.2.2.2.1.2.2.2.2->EM L=true->pPR true=Sh.enc p0 (vG x):=λe h=>yes (by
  subst e;unfold vG;rw[ai g1,ai g2,g3,h];rfl)
 have hf:(AJ x).length=11:=rfl;refine zQ (λh1=>?_) λh1=>?_
 ·have e1:x.2.2.2.2.2.2.1.2.2.1=[]:=by simpa using h1
  refine zQ (λh2=>?_) λh2=>?_
  ·have e2:x.2.2.2.2.2.2.1.2.2.2.2=[]:=by simpa using h2
   have eL:AJ x=(AJ x++x.2.2.2.2.2.2.1.2.2.1)++x.2.2.2.2.2.2.1.2.2.2.2:=by rw[e1,e2,List.append_nil,List.append_nil]
   exact AGL (L:=AJ x) rfl rfl (by rw[hf];omega) (λX k h ha hc=>gN ha hc) (hn eL) (hy eL)
  ·have eL:AJ x++x.2.2.2.2.2.2.1.2.2.2.2=(AJ x++x.2.2.2.2.2.2.1.2.2.1)++x.2.2.2.2.2.2.1.2.2.2.2:=by rw[e1,List.append_nil]
   refine ⟨?_,?_⟩
   ·rw[ac,ac];exact ⟨⟨SV,ai (by omega)⟩,ai (by omega)⟩
   exact AGL (L:=AJ x++x.2.2.2.2.2.2.1.2.2.2.2) rfl (by simp[ACX,AJ]) (by rw[List.length_append,hf];omega) (λX k h ha hc=>AMC (L:=AJ x++x.2.2.2.2.2.2.1.2.2.2.2) rfl h (gN ha hc)) (hn eL) (hy eL)
 ·have hr:∀ {A B:List (List T)},A=List.map Sy.str.enc (AJ x)++List.map Sy.str.enc x.2.2.2.2.2.2.1.2.2.1++List.map Sy.str.enc x.2.2.2.2.2.2.1.2.2.2.2->A=List.map Sy.str.enc ((AJ x++x.2.2.2.2.2.2.1.2.2.1)++x.2.2.2.2.2.2.1.2.2.2.2):=λh=>by rw[h,List.map_append,List.map_append]
  refine ⟨?_,⟨?_,?_⟩⟩
  ·rw[ac,ac];exact ⟨⟨SV,ai (by omega)⟩,ai (by omega)⟩
  ·rw[ac,ac];exact ⟨⟨SV,ai (by simp[ACX];omega)⟩,ai (by simp[ACX];omega)⟩
  exact AGL (L:=(AJ x++x.2.2.2.2.2.2.1.2.2.1)++x.2.2.2.2.2.2.1.2.2.2.2) (by rw[List.map_append,List.map_append];rfl) (by simp[ACX,AJ];try omega) (by rw[List.length_append,List.length_append,hf];omega) (λX k h ha hc=>AMC (L:=(AJ x++x.2.2.2.2.2.2.1.2.2.1)++x.2.2.2.2.2.2.1.2.2.2.2) (by rw[List.map_append,List.map_append];rfl) h (gN ha hc)) (hn rfl) (hy rfl)
end Go.Pv
namespace Go.Pv
open Go Go.Proofs IntKind
def A46(a0:aG)(a1:aL)(a2:bD)(R:T->Prop):Prop:=aE (decide (a2.1=1)) (aE (decide (a2.1=1)) (tD 72) (tD 72)) (aE (decide (a2.1=2)) (aE (decide (a2.1=1)) (tD 72) (tD 72)) (aE (decide (a2.1=3)) (aE (decide (a2.1=3)) (tD 72) (tD 72)) (aE (decide (a2.1=4)) (aE (decide (a2.1=3)) (tD 72) (tD 72)) (aE (decide (a2.1=5)) (tD 72) (aE (decide (a2.1=6)) (tD 72) (aE (decide (a2.1=7)) (aE (decide (a2.1=7)) (tD 72) (tD 72)) (aE (decide (a2.1=8)) (aE (decide (a2.1=7)) (tD 72) (tD 72)) (aE (decide (a2.1=9)) (aE (decide (a2.1=9)) (tD 72) (tD 72)) (aE (decide (a2.1=10)) (aE (decide (a2.1=9)) (tD 72) (tD 72)) (aE (decide (a2.1=11)) (tD 72) (aE (decide (a2.1=12)) (tD 72) (R (T.cB [T.agg [pPQ ({data:=#[]}),T.sl false [],T.sl false [], T.sl false [],T.sl false [],T.sl false []], pPP 10])))))))))))))
abbrev BD7:Sh:=[(true,aF),(true,aO),(true,aW)]
def NZ (x:aG×aL×bD):Option T:=if 1<=x.2.2.1/\x.2.2.1<=12 then none else some (Sh.enc [(true,aF),(false,.int .i64)] (o2,10))
noncomputable def A9M:List T->Option T:=gS BD7 NZ
def A9N {a0 a1 a2}:A9M [aH true aF a0,aH true aO a1,aH true aW a2]=NZ (a0,a1,a2):=a8 (s:=BD7) rfl (a0,a1,a2) rfl
def BOU:Of3 Tryz.prog 8 A9M NZ (bR BD7) A46:=MQ (a1:=(true,aF)) (a2:=(true,aO)) (a3:=(true,aW)) (Hs:=c0) (k:=2) (bM _) aV aY (aQ rfl) ⟨_,_,Tryz.func8,rfl⟩ rfl λ_ _ _ _=>by kernel_rfl
def BMX:aT Tryz.prog 8 A9M:=BOU λd m x r h hb=>by
 clear hb;unfold NZ at h;split at h
 ·cases h
 rename_i hk;cases h;have hk:¬ (1<=x.1/\x.1<=12):=hk;unfold A46;refine b8 (λh=>absurd (by omega) hk) λ_=>?_;refine b8 (λh=>absurd (by omega) hk) λ_=>?_;refine b8 (λh=>absurd (by omega) hk) λ_=>?_;refine b8 (λh=>absurd (by omega) hk) λ_=>?_;refine b8 (λh=>absurd (by omega) hk) λ_=>?_;refine b8 (λh=>absurd (by omega) hk) λ_=>?_;refine b8 (λh=>absurd (by omega) hk) λ_=>?_;refine b8 (λh=>absurd (by omega) hk) λ_=>?_;refine b8 (λh=>absurd (by omega) hk) λ_=>?_;refine b8 (λh=>absurd (by omega) hk) λ_=>?_;refine b8 (λh=>absurd (by omega) hk) λ_=>?_;refine b8 (λh=>absurd (by omega) hk) λ_=>?_;rfl
def PZ (x:aG×aL×bD):List T:=[aH true aF x.1,aH true aO x.2.1,aH true aW x.2.2]
noncomputable def JS (x:aG×aL×bD):Option T:=match okX x.1 x.2.2 with
 | true=>some (Sh.enc [(true,aF),(false,.int .i64)] (cE x.1 x.2.1 x.2.2))
 | false=>none
noncomputable def xT:List T->Option T:=gA PZ JS
def AGX (x y:aG×aL×bD) (h:PZ x=PZ y):x=y:=by
 simp only[PZ,List.cons.injEq,and_true] at h;obtain ⟨h1,h2,h3⟩:=h;exact Prod.ext (nP (r:=aF) rfl h1) (Prod.ext (nP (r:=aO) rfl h2) (nP (r:=aW) rfl h3))
def AQX (d:aG) (m:aL) (x:bD):xT [aH true aF d,aH true aO m,aH true aW x]=JS (d,m,x):=gF AGX (d,m,x)
def AIW:aT Tryz.prog 8 xT:=⟨A8T.entry,λw own args vs r hG ho ha hg=>by
 obtain ⟨⟨d,m,k,x⟩,rfl,h⟩:=ADA hg;unfold JS at h;dsimp only at h;clear hg;by_cases c1:k=1
 ·subst c1;exact A8T.calls w own _ vs r hG ho ha ((A9P d m x).trans h)
 by_cases c2:k=2
 ·subst c2;exact BMY.calls w own _ vs r hG ho ha ((A9R d m x).trans h)
 by_cases c3:k=3
 ·subst c3;exact BMZ.calls w own _ vs r hG ho ha ((A9T d m x).trans h)
 by_cases c4:k=4
 ·subst c4;exact BM0.calls w own _ vs r hG ho ha ((A9V d m x).trans h)
 by_cases c5:k=5
 ·subst c5;exact BM1.calls w own _ vs r hG ho ha ((A9X d m x).trans h)
 by_cases c6:k=6
 ·subst c6;exact BM2.calls w own _ vs r hG ho ha ((A9Z d m x).trans h)
 by_cases c7:k=7
 ·subst c7;exact BM3.calls w own _ vs r hG ho ha ((A91 d m x).trans h)
 by_cases c8:k=8
 ·subst c8;exact BM4.calls w own _ vs r hG ho ha ((A93 d m x).trans h)
 by_cases c9:k=9
 ·subst c9;exact BM5.calls w own _ vs r hG ho ha ((A95 d m x).trans h)
 by_cases c10:k=10
 ·subst c10;exact BHW.calls w own _ vs r hG ho ha ((A05 d m x).trans h)
 by_cases c11:k=11
 ·subst c11;exact BHX.calls w own _ vs r hG ho ha ((A06 d m x).trans h)
 by_cases c12:k=12
 ·subst c12;exact BHY.calls w own _ vs r hG ho ha ((A07 d m x).trans h)
 have hn:¬ (1<=k/\k<=12):=by omega
 have hr:some (Sh.enc [(true,aF),(false,.int .i64)] (cE d m (k,x)))=some r:=by
  split at h
  ·exact h
  ·cases h
 refine BMX.calls w own _ vs r hG ho ha ((A9N (a0:=d) (a1:=m) (a2:=(k,x))).trans ?_);rw[<-hr];unfold NZ cE;rw[if_neg hn,if_pos hn]⟩
end Go.Pv
namespace Go.Pv
open Go Go.Proofs IntKind
def okW (d:aG) (x:bD):Bool:=(KK d&&PD d)&&(iA (cR x)&&fZ (gW x))
structure BGV (b:Nat) (d:aG):Prop where
 n:d.2.1.length<=b
 p:d.2.2.1.length<=b
 s:d.2.2.2.1.length<=b
 k:d.2.2.2.2.1.length<=b
 r:d.2.2.2.2.2.length<=b
abbrev BKQ (d:aG):Prop:=BGV 40 d
def A8R {d:aG} (h:QJ d 40=true):BKQ d:=by
 simp only[QJ,ac,ah] at h;obtain ⟨⟨⟨⟨⟨a,b⟩,c⟩,e⟩,f⟩,_⟩:=h;exact ⟨by omega,by omega,by omega,by omega,by omega⟩
def BPZ {e:aG} (hP:∀ q∈e.2.2.1,iA q=true) (hK:∀ q∈e.2.2.2.2.1,fZ q=true) (n:e.2.1.length<=1000) (p:e.2.2.1.length<=1000) (s:e.2.2.2.1.length<=1000) (k:e.2.2.2.2.1.length<=1000) (r:e.2.2.2.2.2.length<=1000):rB e=true:=by
 unfold rB KK PD;rw[List.all_eq_true.2 hP,List.all_eq_true.2 hK,ai n,ai p,ai s,ai k,ai r];rfl
variable {α:Type}{l:List α}
def QG {p:α->Bool} {f:α->α}:(PM p f l).length=l.length:=by unfold PM;exact List.length_modify ..
def ACP {α:Type} {p:α->Bool} {f:α->α}:∀ {l:List α} {a:α},a∈PM p f l->a∈l\/∃ b∈l,a=f b
 | [],_,h=>by simp[PM] at h
 | z::l,a,h=>by
  unfold PM at h;rw[List.findIdx_cons] at h;cases hz:p z with
  | true =>
   rw[hz] at h;rcases List.mem_cons.1 (show a∈f z::l from h) with e|h
   ·exact .inr ⟨z,am,e⟩
   ·exact .inl (List.mem_cons_of_mem _ h)
  | false =>
   rw[hz] at h;rcases List.mem_cons.1 (show a∈z::PM p f l from h) with e|h
   ·exact .inl (e ▸ am)
   ·rcases ACP h with h|⟨b,h,e⟩
    ·exact .inl (List.mem_cons_of_mem _ h)
    ·exact .inr ⟨b,List.mem_cons_of_mem _ h,e⟩
def BMR {b:Nat} {d:aG} {x:bD} (h:BGV b d):BGV (b+1) (iE d x):=by
 obtain ⟨ln,lp,ls,lk,lr⟩:=h;have i1:∀ {α:Type} {f:α->α->Bool} {l:List α} {a:α},l.length<=b->(iF f l a).length<=b+1:=λh=>by rw[wL];omega
 have i2:∀ {α:Type} {f:α->Bool} {l:List α},l.length<=b->(jP f l).length<=b+1:=λh=>Nat.le_trans AIQ (by omega);have i3:∀ {α:Type} {l:List α},l.length<=b->l.length<=b+1:=λh=>by omega
 have i4:∀ {α:Type} {p:α->Bool} {f:α->α} {l:List α},l.length<=b->(PM p f l).length<=b+1:=λh=>by rw[QG];omega
 unfold iE;by_cases h1:x.1=1
 ·rw[if_pos h1];exact ⟨i1 ln,i3 lp,i3 ls,i3 lk,i3 lr⟩
 rw[if_neg h1];by_cases h2:x.1=2
 ·rw[if_pos h2];exact ⟨i2 ln,i3 lp,i3 ls,i3 lk,i3 lr⟩
 rw[if_neg h2];by_cases h3:x.1=3
 ·rw[if_pos h3];exact ⟨i3 ln,i1 lp,i3 ls,i3 lk,i3 lr⟩
 rw[if_neg h3];by_cases h4:x.1=4
 ·rw[if_pos h4];exact ⟨i3 ln,i2 lp,i3 ls,i3 lk,i3 lr⟩
 rw[if_neg h4];by_cases h5:x.1=5
 ·rw[if_pos h5];exact ⟨i3 ln,i4 lp,i3 ls,i3 lk,i3 lr⟩
 rw[if_neg h5];by_cases h6:x.1=6
 ·rw[if_pos h6];exact ⟨i3 ln,i4 lp,i3 ls,i3 lk,i3 lr⟩
 rw[if_neg h6];by_cases h7:x.1=7
 ·rw[if_pos h7];exact ⟨i3 ln,i3 lp,i1 ls,i3 lk,i3 lr⟩
 rw[if_neg h7];by_cases h8:x.1=8
 ·rw[if_pos h8];exact ⟨i3 ln,i3 lp,i2 ls,i3 lk,i3 lr⟩
 rw[if_neg h8];by_cases h9:x.1=9
 ·rw[if_pos h9];exact ⟨i3 ln,i3 lp,i3 ls,i1 lk,i3 lr⟩
 rw[if_neg h9];by_cases h10:x.1=10
 ·rw[if_pos h10];exact ⟨i3 ln,i3 lp,i3 ls,i2 lk,i3 lr⟩
 rw[if_neg h10];by_cases h11:x.1=11
 ·rw[if_pos h11];exact ⟨i3 ln,i3 lp,i3 ls,i3 lk,i1 lr⟩
 rw[if_neg h11];exact ⟨i3 ln,i3 lp,i3 ls,i3 lk,i2 lr⟩
def BMS {d:aG} {x:bD} (hD:KK d=true) (hp:iA (cR x)=true):KK (iE d x)=true:=by
 have a1:∀ q∈d.2.2.1,iA q=true:=λq hq=>List.all_eq_true.1 hD q hq;have mk:∀ {e:aG},(∀ q∈e.2.2.1,iA q=true)->KK e=true:=λh=>List.all_eq_true.2 h;unfold iE;by_cases h1:x.1=1
 ·rw[if_pos h1];exact mk a1
 rw[if_neg h1];by_cases h2:x.1=2
 ·rw[if_pos h2];exact mk a1
 rw[if_neg h2];by_cases h3:x.1=3
 ·rw[if_pos h3];exact mk λq hq=>(sJ.1 hq).elim (λe=>by rw[e];exact hp) (a1 q)
 rw[if_neg h3];by_cases h4:x.1=4
 ·rw[if_pos h4];exact mk λq hq=>a1 q (TI hq)
 rw[if_neg h4];by_cases h5:x.1=5
 ·rw[if_pos h5];exact mk λq hq=>(ACP hq).elim (a1 q) λ⟨b,_,e⟩=>by rw[e];exact hp
 rw[if_neg h5];by_cases h6:x.1=6
 ·rw[if_pos h6];exact mk λq hq=>(ACP hq).elim (a1 q) λ⟨b,hb,e⟩=>by rw[e];exact a1 b hb
 rw[if_neg h6];by_cases h7:x.1=7
 ·rw[if_pos h7];exact mk a1
 rw[if_neg h7];by_cases h8:x.1=8
 ·rw[if_pos h8];exact mk a1
 rw[if_neg h8];by_cases h9:x.1=9
 ·rw[if_pos h9];exact mk a1
 rw[if_neg h9];by_cases h10:x.1=10
 ·rw[if_pos h10];exact mk a1
 rw[if_neg h10];by_cases h11:x.1=11
 ·rw[if_pos h11];exact mk a1
 rw[if_neg h11];exact mk a1
def BMT {d:aG} {x:bD} (hK:PD d=true) (hk:fZ (gW x)=true):PD (iE d x)=true:=by
 have b1:∀ q∈d.2.2.2.2.1,fZ q=true:=λq hq=>List.all_eq_true.1 hK q hq;have mk:∀ {e:aG},(∀ q∈e.2.2.2.2.1,fZ q=true)->PD e=true:=λh=>List.all_eq_true.2 h;unfold iE;by_cases h1:x.1=1
 ·rw[if_pos h1];exact mk b1
 rw[if_neg h1];by_cases h2:x.1=2
 ·rw[if_pos h2];exact mk b1
 rw[if_neg h2];by_cases h3:x.1=3
 ·rw[if_pos h3];exact mk b1
 rw[if_neg h3];by_cases h4:x.1=4
 ·rw[if_pos h4];exact mk b1
 rw[if_neg h4];by_cases h5:x.1=5
 ·rw[if_pos h5];exact mk b1
 rw[if_neg h5];by_cases h6:x.1=6
 ·rw[if_pos h6];exact mk b1
 rw[if_neg h6];by_cases h7:x.1=7
 ·rw[if_pos h7];exact mk b1
 rw[if_neg h7];by_cases h8:x.1=8
 ·rw[if_pos h8];exact mk b1
 rw[if_neg h8];by_cases h9:x.1=9
 ·rw[if_pos h9];exact mk λq hq=>(sJ.1 hq).elim (λe=>by rw[e];exact hk) (b1 q)
 rw[if_neg h9];by_cases h10:x.1=10
 ·rw[if_pos h10];exact mk λq hq=>b1 q (TI hq)
 rw[if_neg h10];by_cases h11:x.1=11
 ·rw[if_pos h11];exact mk b1
 rw[if_neg h11];exact mk b1
def AVO {d:aG} (hD:KK d=true) (hK:PD d=true) {b:Nat} (h:BGV b d) (hb:b<=1000):rB d=true:=by
 obtain ⟨ln,lp,ls,lk,lr⟩:=h;exact BPZ (λq hq=>List.all_eq_true.1 hD q hq) (λq hq=>List.all_eq_true.1 hK q hq) (by omega) (by omega) (by omega) (by omega) (by omega)
variable {m:aL}
def GZ {d:aG} {x:bD} (hc:rB d=true) (hp:iA (cR x)=true) (hk:fZ (gW x)=true):xT [aH true aF d,aH true aO m,aH true aW x]=some (Sh.enc [(true,aF),(false,.int .i64)] (cE d m x)):=by
 rw[AQX];unfold JS;exact gO (by unfold okX;rw[hc,hp,hk];rfl)
def A3E {p:bG} (h4:InS aS p):iA p=true:=by
 obtain ⟨_,_,_,_,_,_,⟨⟨h5,h6,_⟩,h7,h8,h9⟩,_⟩:=h4;unfold iA JC mB;simp only[ac,ah,List.all_eq_true];refine ⟨⟨⟨?_,?_⟩,?_,?_⟩,λq hq=>?_⟩
 ·exact h5
 ·exact h6
 ·exact h7
 ·exact h8
 ·obtain ⟨g1,g2,_⟩:=h9 q hq;exact ⟨g1,g2⟩
def A3D {k:bE} (h:InS aK k):fZ k=true:=by
 obtain ⟨_,_,⟨h5,h6,_⟩,_,⟨h7,h8,_⟩⟩:=h;unfold fZ mB;simp only[ac,ah];exact ⟨⟨h5,h6⟩,h7,h8⟩
end Go.Pv
namespace Go.Pv.Geo
def RH (a b c d:Pt):Prop:=∃ s t s' t':Int,0<=s/\0<=t/\0<=s'/\0<=t'/\s+t=s'+t'/\0<s+t/\s*a.1+t*b.1=s'*c.1+t'*d.1/\s*a.2+t*b.2=s'*c.2+t'*d.2
def RH.symm {a b c d:Pt} (h:RH a b c d):RH c d a b:=by
 obtain ⟨s,t,s',t',h1,h2,h3,h4,h5,h6,h7,h8⟩:=h;exact ⟨s',t',s,t,h3,h4,h1,h2,h5.symm,by omega,h7.symm,h8.symm⟩
def RH.swap {a b c d:Pt} (h:RH a b c d):RH b a c d:=by
 obtain ⟨s,t,s',t',h1,h2,h3,h4,h5,h6,h7,h8⟩:=h;exact ⟨t,s,s',t',h2,h1,h3,h4,by omega,by omega,by omega,by omega⟩
def RH.BLV {a b c d:Pt} (h:RH a b c d):RH a b d c:=h.symm.swap.symm
def uB {a b:Int} (h:0<a*b) (ha:0<a):0<b:=by
 rcases Int.lt_trichotomy b 0 with hb|hb|hb
 ·have:=Int.mul_neg_of_pos_of_neg ha hb;omega
 ·subst hb;simp at h
 ·exact hb
def BE5 (x:Int):0<=x*x:=by
 rcases Int.le_total 0 x with h|h
 ·exact Int.mul_nonneg h h
 ·have:=Int.mul_nonneg (show 0≤-x by omega) (show 0≤-x by omega);rwa[Int.neg_mul_neg] at this
variable {y:Int}
def dU {s x:Int} (hs:0<=s) (h:x<=y):s*x<=s*y:=Int.mul_le_mul_of_nonneg_left h hs
def zY (a b u:Pt):Prop:=∃ s t:Int,0<=s/\0<=t/\0<s+t/\(s+t)*u.1=s*a.1+t*b.1/\(s+t)*u.2=s*a.2+t*b.2
def zY.left (a b:Pt):zY a b a:=⟨1,0,by omega,by omega,by omega,by omega,by omega⟩
def zY.right (a b:Pt):zY a b b:=⟨0,1,by omega,by omega,by omega,by omega,by omega⟩
def zY.swap {a b u:Pt} (h:zY a b u):zY b a u:=by
 obtain ⟨s,t,h1,h2,h3,h4,h5⟩:=h;exact ⟨t,s,h2,h1,by omega,by rw[Int.add_comm t s];omega,by rw[Int.add_comm t s];omega⟩
def oV {s x:Int} (hs:0<s) (h:s*x<=s*y):x<=y:=Int.le_of_mul_le_mul_left h hs
def zY.BMK {a b u:Pt} (h:zY a b u):min a.1 b.1<=u.1/\u.1<=max a.1 b.1:=by
 obtain ⟨s,t,h1,h2,h3,h4,_⟩:=h;constructor
 ·refine oV h3 ?_;have e1:=dU h1 (Int.min_le_left a.1 b.1);have e2:=dU h2 (Int.min_le_right a.1 b.1);rw[h4,Int.add_mul];omega
 ·refine oV h3 ?_;have e1:=dU h1 (Int.le_max_left a.1 b.1);have e2:=dU h2 (Int.le_max_right a.1 b.1);rw[h4,Int.add_mul];omega
def zY.BRS {a b u:Pt} (h:zY a b u):min a.2 b.2<=u.2/\u.2<=max a.2 b.2:=by
 obtain ⟨s,t,h1,h2,h3,h4,h5⟩:=h;exact zY.BMK (a:=(a.2,a.1)) (b:=(b.2,b.1)) (u:=(u.2,u.1)) ⟨s,t,h1,h2,h3,h5,h4⟩
def zY.BK7 {a b u:Pt} (h:zY a b u):aR a b u=0:=by
 obtain ⟨s,t,h1,h2,h3,h4,h5⟩:=h;have e:(s+t)*aR a b u=0:=by
  simp only[aR]
  grind
 rcases Int.mul_eq_zero.1 e with h|h
 ·omega
 ·exact h
def zY.on {a b u:Pt} (h:zY a b u):tC a b u=true:=by
 unfold tC btw;rw[ai h.BK7,ai h.BMK.1,ai h.BMK.2,ai h.BRS.1,ai h.BRS.2];rfl
def BJU {a b u:Pt} (h:tC a b u=true):aR a b u=0/\(min a.1 b.1<=u.1/\u.1<=max a.1 b.1)/\min a.2 b.2<=u.2/\u.2<=max a.2 b.2:=by
 unfold tC btw at h;simp only[ac,ah] at h;exact ⟨h.1,h.2.1,h.2.2⟩
def DB {a b u:Pt} (h:tC a b u=true):zY a b u:=by
 obtain ⟨h0,h1,h2⟩:=BJU h;simp only[aR] at h0;rcases Int.lt_trichotomy a.1 b.1 with hx|hx|hx
 ·exact ⟨b.1-u.1,u.1-a.1,by omega,by omega,by omega,by grind,by grind⟩
 ·rcases Int.lt_trichotomy a.2 b.2 with hy|hy|hy
  ·exact ⟨b.2-u.2,u.2-a.2,by omega,by omega,by omega,by grind,by grind⟩
  ·exact ⟨1,0,by omega,by omega,by omega,by omega,by omega⟩
  ·exact ⟨u.2-b.2,a.2-u.2,by omega,by omega,by omega,by grind,by grind⟩
 ·exact ⟨u.1-b.1,a.1-u.1,by omega,by omega,by omega,by grind,by grind⟩
def xK {a b c d:Pt} (h:zY a b c):RH a b c d:=by
 obtain ⟨s,t,h1,h2,h3,h4,h5⟩:=h;exact ⟨s,t,s+t,0,h1,h2,by omega,by omega,by omega,h3,by omega,by omega⟩
def PG {m n:Int} (h:BX m*BX n<0):(m<0/\0<n)\/(0<m/\n<0):=by
 unfold BX at h;split at h<;>split at h<;>(try split at h)<;>omega
def OI {a b c d:Pt} (h:dM a b c d=true):RH a b c d:=by
 simp only[dM,Bool.or_eq_true,ac,ah] at h;rcases h with (((h|h)|h)|h)|⟨h1,h2⟩
 ·exact xK (DB h)
 ·exact (xK (DB h):RH a b d c).BLV
 ·exact (xK (DB h):RH c d a b).symm
 ·exact (xK (DB h):RH c d b a).BLV.symm
 ·have e:=AD6 a b c d;have h1:=PG h1;have h2:=PG h2;have k1:aR c d b*a.1-aR c d a*b.1=aR a b c*d.1-aR a b d*c.1:=by simp only[aR];grind
  have k2:aR c d b*a.2-aR c d a*b.2=aR a b c*d.2-aR a b d*c.2:=by simp only[aR];grind
  rcases h2 with ⟨h3,h4⟩|⟨h3,h4⟩
  ·have h5:0<aR a b c/\aR a b d<0:=by rcases h1 with h|h<;>omega
   refine ⟨aR c d b,-aR c d a,-aR a b d,aR a b c,by omega,by omega,by omega,by omega,by omega,by omega,?_,?_⟩
   ·rw[Int.neg_mul,Int.neg_mul];omega
   ·rw[Int.neg_mul,Int.neg_mul];omega
  ·have h5:aR a b c<0/\0<aR a b d:=by rcases h1 with h|h<;>omega
   refine ⟨-aR c d b,aR c d a,aR a b d,-aR a b c,by omega,by omega,by omega,by omega,by omega,by omega,?_,?_⟩
   ·rw[Int.neg_mul,Int.neg_mul];omega
   ·rw[Int.neg_mul,Int.neg_mul];omega
def fF {s x:Int} (hs:s≠0) (h:s*x=0):x=0:=by
 rcases Int.mul_eq_zero.1 h with h|h
 ·exact absurd h hs
 ·exact h
def BLM {a b u:Pt} (h0:aR a b u=0) (h:(a.2≠b.2/\min a.2 b.2<=u.2/\u.2<=max a.2 b.2)\/(a.2=b.2/\a.1≠b.1/\min a.1 b.1<=u.1/\u.1<=max a.1 b.1)):tC a b u=true:=by
 rcases h with ⟨h1,h2,h3⟩|⟨h1,h2,h3,h4⟩
 ·rcases Int.lt_or_lt_of_ne h1 with h|h
  ·exact n8 h0 h (by omega) (by omega)
  ·rw[<-QR];exact n8 (by rw[iX,h0];rfl) h (by omega) (by omega)
 ·have:u.2=a.2:=by
   simp only[aR] at h0;have h5:(b.1-a.1)*(u.2-a.2)=0:=by rw[h1] at h0 ⊢;grind
   have:=fF (by omega) h5;omega
  exact AEK this.symm (by omega) h3 h4
def ovl {a b c d:Int} (q:min a b<=max c d/\min c d<=max a b):(min a b<=c/\c<=max a b)\/(min a b<=d/\d<=max a b)\/(min c d<=a/\a<=max c d)\/(min c d<=b/\b<=max c d):=by omega
def BI1 {a b c d:Pt} (hab:a≠b) (hcd:c≠d) (n1:tC a b c=false) (n2:tC a b d=false) (n3:tC c d a=false) (n4:tC c d b=false) (r1:aR c d a=0/\aR c d b=0) (r2:aR a b c=0/\aR a b d=0)
  (q1:min a.1 b.1<=max c.1 d.1/\min c.1 d.1<=max a.1 b.1) (q2:min a.2 b.2<=max c.2 d.2/\min c.2 d.2<=max a.2 b.2):False:=by
 have nab:a.2≠b.2\/(a.2=b.2/\a.1≠b.1):=by
  by_cases h:a.2=b.2
  ·exact .inr ⟨h,λh'=>hab (Prod.ext h' h)⟩
  ·exact .inl h
 have ncd:c.2≠d.2\/(c.2=d.2/\c.1≠d.1):=by
  by_cases h:c.2=d.2
  ·exact .inr ⟨h,λh'=>hcd (Prod.ext h' h)⟩
  ·exact .inl h
 have f1:∀ {a b u:Pt},aR a b u=0->tC a b u=false->(a.2≠b.2->min a.2 b.2<=u.2->u.2<=max a.2 b.2->False)/\(a.2=b.2->a.1≠b.1->min a.1 b.1<=u.1->u.1<=max a.1 b.1->False):=by
  intro a b u hz hn;refine ⟨λx1 x2 x3=>?_,λx1 x2 x3 x4=>?_⟩
  ·rw[BLM hz (.inl ⟨x1,x2,x3⟩)] at hn;cases hn
  ·rw[BLM hz (.inr ⟨x1,x2,x3,x4⟩)] at hn;cases hn
 obtain ⟨a1,a2⟩:=f1 r2.1 n1;obtain ⟨b1,b2⟩:=f1 r2.2 n2;obtain ⟨c1,c2⟩:=f1 r1.1 n3;obtain ⟨d1,d2⟩:=f1 r1.2 n4;have flat:a.2=b.2->c.2=a.2/\d.2=a.2:=λhh=>by
  have x1:a.1≠b.1:=λh'=>hab (Prod.ext h' hh);have y1:=r2.1;have y2:=r2.2;simp only[aR] at y1 y2;have z1:(b.1-a.1)*(c.2-a.2)=0:=by rw[hh] at y1 ⊢;grind
  have z2:(b.1-a.1)*(d.2-a.2)=0:=by rw[hh] at y2 ⊢;grind
  have:=fF (by omega) z1;have:=fF (by omega) z2;omega
 have flat':c.2=d.2->a.2=c.2/\b.2=c.2:=λhh=>by
  have x1:c.1≠d.1:=λh'=>hcd (Prod.ext h' hh);have y1:=r1.1;have y2:=r1.2;simp only[aR] at y1 y2;have z1:(d.1-c.1)*(a.2-c.2)=0:=by rw[hh] at y1 ⊢;grind
  have z2:(d.1-c.1)*(b.2-c.2)=0:=by rw[hh] at y2 ⊢;grind
  have:=fF (by omega) z1;have:=fF (by omega) z2;omega
 by_cases hf:a.2=b.2
 ·obtain ⟨x1,x2⟩:=flat hf;have x3:a.1≠b.1:=λh'=>hab (Prod.ext h' hf);have x5:c.2=d.2:=x1.trans x2.symm;have x4:c.1≠d.1:=λh'=>hcd (Prod.ext h' x5);rcases ovl q1 with h|h|h|h
  ·exact a2 hf x3 h.1 h.2
  ·exact b2 hf x3 h.1 h.2
  ·exact c2 x5 x4 h.1 h.2
  ·exact d2 x5 x4 h.1 h.2
 ·have hg:c.2≠d.2:=λhh=>hf ((flat' hh).1.trans (flat' hh).2.symm);rcases ovl q2 with h|h|h|h
  ·exact a1 hf h.1 h.2
  ·exact b1 hf h.1 h.2
  ·exact c1 hg h.1 h.2
  ·exact d1 hg h.1 h.2
def O8 {a b c d:Pt} (hab:a≠b) (hcd:c≠d) (h:RH a b c d):dM a b c d=true:=by
 obtain ⟨s,t,s',t',h1,h2,h3,h4,h5,h6,h7,h8⟩:=h;have g:s*aR c d a+t*aR c d b=0:=by
  simp only[aR];grind
 have g':s'*aR a b c+t'*aR a b d=0:=by
  simp only[aR];grind
 have e:=AD6 a b c d;refine Classical.byContradiction λhm=>?_;have hm:dM a b c d=false:=by simpa using hm
 obtain ⟨n1,n2,n3,n4⟩:=sM hm;have ms:=pU hm;have on3:t=0->False:=λht=>by
  subst ht;have:zY c d a:=⟨s',t',h3,h4,by omega,by rw[<-h5,Int.add_zero];omega,by rw[<-h5,Int.add_zero];omega⟩
  rw[this.on] at n3;cases n3
 have on4:s=0->False:=λhs=>by
  subst hs;have:zY c d b:=⟨s',t',h3,h4,by omega,by rw[<-h5,Int.zero_add];omega,by rw[<-h5,Int.zero_add];omega⟩
  rw[this.on] at n4;cases n4
 have on1:t'=0->False:=λht=>by
  subst ht;have:zY a b c:=⟨s,t,h1,h2,h6,by rw[h5,Int.add_zero];omega,by rw[h5,Int.add_zero];omega⟩
  rw[this.on] at n1;cases n1
 have on2:s'=0->False:=λhs=>by
  subst hs;have:zY a b d:=⟨s,t,h1,h2,h6,by rw[h5,Int.zero_add];omega,by rw[h5,Int.zero_add];omega⟩
  rw[this.on] at n2;cases n2
 have sgns:∀ {s t x y:Int},0<s->0<t->s*x+t*y=0->(x=0/\y=0)\/(0<x/\y<0)\/(x<0/\0<y):=by
  intro s t x y hs ht hh;rcases Int.lt_trichotomy x 0 with hx|hx|hx
  ·have:s*x<0:=Int.mul_neg_of_pos_of_neg hs hx;have:0<y:=uB (a:=t) (by omega) ht;omega
  ·subst hx;have:=fF (s:=t) (x:=y) (by omega) (by omega);omega
  ·have:0<s*x:=Int.mul_pos hs hx;have hy:0 < -y:=uB (a:=t) (by rw[Int.mul_neg];omega) ht;omega
 have hs:0<s:=by rcases Int.lt_or_eq_of_le h1 with h|h;exact h;exact (on4 h.symm).elim
 have ht:0<t:=by rcases Int.lt_or_eq_of_le h2 with h|h;exact h;exact (on3 h.symm).elim
 have hs':0<s':=by rcases Int.lt_or_eq_of_le h3 with h|h;exact h;exact (on2 h.symm).elim
 have ht':0<t':=by rcases Int.lt_or_eq_of_le h4 with h|h;exact h;exact (on1 h.symm).elim
 have r1:=sgns hs ht g;have r2:=sgns hs' ht' g';rcases r1 with r1|r1
 ·have r2:aR a b c=0/\aR a b d=0:=by rcases r2 with r2|r2;exact r2;clear on1 on2 on3 on4 sgns;omega
  have q2:min a.2 b.2<=max c.2 d.2/\min c.2 d.2<=max a.2 b.2:=by
   have e1:=dU h1 (Int.min_le_left a.2 b.2);have e2:=dU h2 (Int.min_le_right a.2 b.2);have e3:=dU h3 (Int.le_max_left c.2 d.2);have e4:=dU h4 (Int.le_max_right c.2 d.2);have e5:=dU h3 (Int.min_le_left c.2 d.2);have e6:=dU h4 (Int.min_le_right c.2 d.2);have e7:=dU h1 (Int.le_max_left a.2 b.2);have e8:=dU h2 (Int.le_max_right a.2 b.2);constructor
   ·refine oV h6 ?_;rw[Int.add_mul,h5,Int.add_mul];omega
   ·refine oV (s:=s'+t') (by omega) ?_;rw[Int.add_mul,<-h5,Int.add_mul];omega
  have q1:min a.1 b.1<=max c.1 d.1/\min c.1 d.1<=max a.1 b.1:=by
   have e1:=dU h1 (Int.min_le_left a.1 b.1);have e2:=dU h2 (Int.min_le_right a.1 b.1);have e3:=dU h3 (Int.le_max_left c.1 d.1);have e4:=dU h4 (Int.le_max_right c.1 d.1);have e5:=dU h3 (Int.min_le_left c.1 d.1);have e6:=dU h4 (Int.min_le_right c.1 d.1);have e7:=dU h1 (Int.le_max_left a.1 b.1);have e8:=dU h2 (Int.le_max_right a.1 b.1);constructor
   ·refine oV h6 ?_;rw[Int.add_mul,h5,Int.add_mul];omega
   ·refine oV (s:=s'+t') (by omega) ?_;rw[Int.add_mul,<-h5,Int.add_mul];omega
  exact BI1 hab hcd n1 n2 n3 n4 r1 r2 q1 q2
 ·rcases r2 with r2|r2
  ·omega
  ·exact ms ⟨by omega,by omega⟩
def RH.sub {a b c d u v:Pt} (hu:zY a b u) (hv:zY a b v) (h:RH u v c d):RH a b c d:=by
 obtain ⟨s,t,s',t',h1,h2,h3,h4,h5,h6,h7,h8⟩:=h;obtain ⟨p,q,k1,k2,k3,k4,k5⟩:=hu;obtain ⟨p',q',l1,l2,l3,l4,l5⟩:=hv;have m1:0<(p+q)*(p'+q'):=Int.mul_pos k3 l3;refine ⟨s*(p'+q')*p+t*(p+q)*p',s*(p'+q')*q+t*(p+q)*q',(p+q)*(p'+q')*s',(p+q)*(p'+q')*t',?_,?_,?_,?_,?_,?_,?_,?_⟩
 ·exact Int.add_nonneg (Int.mul_nonneg (Int.mul_nonneg h1 (by omega)) k1) (Int.mul_nonneg (Int.mul_nonneg h2 (by omega)) l1)
 ·exact Int.add_nonneg (Int.mul_nonneg (Int.mul_nonneg h1 (by omega)) k2) (Int.mul_nonneg (Int.mul_nonneg h2 (by omega)) l2)
 ·exact Int.mul_nonneg (by omega) h3
 ·exact Int.mul_nonneg (by omega) h4
 ·rw[<-Int.mul_add,<-h5];grind
 ·have:0<(p+q)*(p'+q')*(s+t):=Int.mul_pos m1 h6;have e:s*(p'+q')*p+t*(p+q)*p'+(s*(p'+q')*q+t*(p+q)*q')=(p+q)*(p'+q')*(s+t):=by grind
  omega
 ·have e1:(s*(p'+q')*p+t*(p+q)*p')*a.1+(s*(p'+q')*q+t*(p+q)*q')*b.1=s*(p'+q')*(p*a.1+q*b.1)+t*(p+q)*(p'*a.1+q'*b.1):=by grind
  have e2:s*(p'+q')*((p+q)*u.1)+t*(p+q)*((p'+q')*v.1)=(p+q)*(p'+q')*(s*u.1+t*v.1):=by grind
  have e3:(p+q)*(p'+q')*(s'*c.1+t'*d.1)=(p+q)*(p'+q')*s'*c.1+(p+q)*(p'+q')*t'*d.1:=by grind
  rw[e1,<-k4,<-l4,e2,h7,e3]
 ·have e1:(s*(p'+q')*p+t*(p+q)*p')*a.2+(s*(p'+q')*q+t*(p+q)*q')*b.2=s*(p'+q')*(p*a.2+q*b.2)+t*(p+q)*(p'*a.2+q'*b.2):=by grind
  have e2:s*(p'+q')*((p+q)*u.2)+t*(p+q)*((p'+q')*v.2)=(p+q)*(p'+q')*(s*u.2+t*v.2):=by grind
  have e3:(p+q)*(p'+q')*(s'*c.2+t'*d.2)=(p+q)*(p'+q')*s'*c.2+(p+q)*(p'+q')*t'*d.2:=by grind
  rw[e1,<-k5,<-l5,e2,h8,e3]
def BO {a b c d u v:Pt} (hn:¬ RH a b c d) (hu:zY a b u) (hv:zY a b v):dM c d u v=false:=by
 rw[Bool.eq_false_iff];intro h;exact hn ((OI h).symm.sub hu hv)
def PK (a b u:Pt):Prop:=∃ s t:Int,0<=s/\0<t/\(s+t)*u.1=s*a.1+t*b.1/\(s+t)*u.2=s*a.2+t*b.2
def PK.seg {a b u:Pt} (h:PK a b u):zY a b u:=by
 obtain ⟨s,t,h1,h2,h3,h4⟩:=h;exact ⟨s,t,h1,by omega,by omega,h3,h4⟩
def ALJ {c a b u v:Pt} (hab:a≠b) (hf:¬ (aR c a b=0/\0<qX c a b)) (hu:PK a b u) (hv:PK a b v):dM c a u v=false:=by
 rw[Bool.eq_false_iff];intro h;obtain ⟨s,t,s',t',h1,h2,h3,h4,h5,h6,h7,h8⟩:=OI h;obtain ⟨p,q,k1,k2,k4,k5⟩:=hu;obtain ⟨p',q',l1,l2,l4,l5⟩:=hv;have kp:0<p+q:=by omega
 have lp:0<p'+q':=by omega
 have m1:0<(p+q)*(p'+q'):=Int.mul_pos kp lp;have e1:(p+q)*(p'+q')*s*(c.1-a.1)=(s'*(p'+q')*q+t'*(p+q)*q')*(b.1-a.1):=by
  have e:(p+q)*(p'+q')*(s*c.1+t*a.1)=(p+q)*(p'+q')*(s'*u.1+t'*v.1):=by rw[h7]
  have e':(p+q)*(p'+q')*(s+t)*a.1=(p+q)*(p'+q')*(s'+t')*a.1:=by rw[h5]
  grind
 have e2:(p+q)*(p'+q')*s*(c.2-a.2)=(s'*(p'+q')*q+t'*(p+q)*q')*(b.2-a.2):=by
  have e:(p+q)*(p'+q')*(s*c.2+t*a.2)=(p+q)*(p'+q')*(s'*u.2+t'*v.2):=by rw[h8]
  have e':(p+q)*(p'+q')*(s+t)*a.2=(p+q)*(p'+q')*(s'+t')*a.2:=by rw[h5]
  grind
 have hQ:0<s'*(p'+q')*q+t'*(p+q)*q':=by
  have x1:0<=s'*(p'+q')*q:=Int.mul_nonneg (Int.mul_nonneg h3 (by omega)) (by omega);have x2:0<=t'*(p+q)*q':=Int.mul_nonneg (Int.mul_nonneg h4 (by omega)) (by omega);rcases Int.lt_or_eq_of_le h3 with x|x
  ·have:=Int.mul_pos (Int.mul_pos x lp) k2;omega
  ·have:0<t':=by omega
   have:=Int.mul_pos (Int.mul_pos this kp) l2;omega
 generalize s'*(p'+q')*q+t'*(p+q)*q'=Q at e1 e2 hQ;generalize hS:(p+q)*(p'+q')*s=S at e1 e2;have hS0:0<=S:=by rw[<-hS];exact Int.mul_nonneg (by omega) h1
 have hd:0<(b.1-a.1)*(b.1-a.1)+(b.2-a.2)*(b.2-a.2):=by
  have y1:0<=(b.1-a.1)*(b.1-a.1):=BE5 _;have y2:0<=(b.2-a.2)*(b.2-a.2):=BE5 _;by_cases z:b.1-a.1=0
  ·have z2:b.2-a.2≠0:=λh'=>hab (Prod.ext (by omega) (by omega));have:(b.2-a.2)*(b.2-a.2)≠0:=λh'=>by rcases Int.mul_eq_zero.1 h' with h|h<;>omega
   omega
  ·have:(b.1-a.1)*(b.1-a.1)≠0:=λh'=>by rcases Int.mul_eq_zero.1 h' with h|h<;>omega
   omega
 have hSpos:0<S:=by
  rcases Int.lt_or_eq_of_le hS0 with x|x
  ·exact x
  ·rw[<-x] at e1 e2;have z1:=fF (s:=Q) (x:=b.1-a.1) (by omega) (by omega);have z2:=fF (s:=Q) (x:=b.2-a.2) (by omega) (by omega);exact absurd (Prod.ext (by omega) (by omega)) hab
 refine hf ⟨?_,?_⟩
 ·have:S*aR c a b=0:=by
   simp only[aR];have:S*((a.1-c.1)*(b.2-c.2)-(a.2-c.2)*(b.1-c.1))=(S*(c.2-a.2))*(b.1-a.1)-(S*(c.1-a.1))*(b.2-a.2):=by grind
   rw[this,e1,e2];grind
  exact fF (by omega) this
 ·have:S*qX c a b=Q*((b.1-a.1)*(b.1-a.1)+(b.2-a.2)*(b.2-a.2)):=by
   simp only[qX];have:S*((c.1-a.1)*(b.1-a.1)+(c.2-a.2)*(b.2-a.2))=(S*(c.1-a.1))*(b.1-a.1)+(S*(c.2-a.2))*(b.2-a.2):=by grind
   rw[this,e1,e2];grind
  have:0<S*qX c a b:=by rw[this];exact Int.mul_pos hQ hd
  exact uB this hSpos
def uM (a b u:Pt):Prop:=∃ s t:Int,0<s/\0<t/\(s+t)*u.1=s*a.1+t*b.1/\(s+t)*u.2=s*a.2+t*b.2
def uM.r {a b u:Pt} (h:uM a b u):PK a b u:=by
 obtain ⟨s,t,h1,h2,h3,h4⟩:=h;exact ⟨s,t,by omega,h2,h3,h4⟩
def uM.swap {a b u:Pt} (h:uM a b u):uM b a u:=by
 obtain ⟨s,t,h1,h2,h3,h4⟩:=h;exact ⟨t,s,h2,h1,by rw[Int.add_comm t s];omega,by rw[Int.add_comm t s];omega⟩
def uM.seg {a b u:Pt} (h:uM a b u):zY a b u:=h.r.seg
def XA (a b:Pt):PK a b b:=⟨0,1,by omega,by omega,by omega,by omega⟩
def sg (a b:Pt):Bool:=decide (b.2<a.2)||(decide (b.2=a.2)&&decide (a.1<b.1))
def ON (u v w:Pt):Bool:=if u.2<=v.2 then dr u v w else dr v u w
def LM {a b u v:Pt} (hm:dM a b u v=false):(hit a b u ^^ hit a b v)=(ON u v a ^^ ON u v b):=by
 unfold ON;by_cases h:u.2<=v.2
 ·rw[if_pos h,if_pos h];exact TL h hm
 ·rw[if_neg h,if_neg h,Bool.xor_comm];exact TL (by omega) (by rw[VB];exact hm)
def pL {u v w:Pt} (h:aR u v w=0):ON u v w=false:=by
 unfold ON dr;split
 ·rw[h];simp
 ·rw[iX u v w,h];simp
structure E3 (x y:Int):Prop where
 p:0<x↔0<y
 n:x<0↔y<0
def NU {k s x:Int} (hk:0<k) (hs:0<s) (h:k*x=s*y):E3 x y:=by
 constructor
 ·constructor
  ·intro hx;exact uB (a:=s) (by rw[<-h];exact Int.mul_pos hk hx) hs
  ·intro hy;exact uB (a:=k) (by rw[h];exact Int.mul_pos hs hy) hk
 ·constructor
  ·intro hx;have:0 < -y:=uB (a:=s) (by rw[Int.mul_neg,<-h];have:=Int.mul_neg_of_pos_of_neg hk hx;omega) hs;omega
  ·intro hy;have:0 < -x:=uB (a:=k) (by rw[Int.mul_neg,h];have:=Int.mul_neg_of_pos_of_neg hs hy;omega) hk;omega
def AZR {a b c u:Pt} (hu:uM a b u):(hit b c u ^^ ON u b c)=if a.2<b.2 then decide (c.2<=b.2)&&decide (aR a b c<0) else decide (b.2<c.2)&&decide (0<aR a b c):=by
 obtain ⟨s,t,h1,h2,h3,h4⟩:=hu;have k1:E3 (aR b c u) (aR a b c):=NU (k:=s+t) (s:=s) (by omega) h1 (by simp only[aR];grind);have k2:E3 (aR u b c) (aR a b c):=NU (k:=s+t) (s:=s) (by omega) h1 (by simp only[aR];grind);have k3:E3 (u.2-b.2) (a.2-b.2):=NU (k:=s+t) (s:=s) (by omega) h1 (by grind);obtain ⟨p1,n1⟩:=k1;obtain ⟨p2,n2⟩:=k2;obtain ⟨p3,n3⟩:=k3;have e3:=iX u b c;unfold hit ON dr;rw[e3];generalize aR b c u=X at *;generalize aR u b c=Y at *;generalize aR a b c=Z at *;rcases Int.lt_trichotomy Z 0 with hz|hz|hz<;>rcases Int.lt_trichotomy a.2 b.2 with ha|ha|ha<;>rcases Int.lt_trichotomy c.2 b.2 with hc|hc|hc<;>rcases Int.lt_or_le u.2 c.2 with hd|hd<;>grind
def AZS {a b c v:Pt} (hv:uM b c v):(hit a b v ^^ ON b v a)=if c.2<b.2 then decide (a.2<=b.2)&&decide (0<aR a b c) else decide (b.2<a.2)&&decide (aR a b c<0):=by
 obtain ⟨s,t,h1,h2,h3,h4⟩:=hv;have k1:E3 (aR a b v) (aR a b c):=NU (k:=s+t) (s:=t) (by omega) h2 (by simp only[aR];grind);have k2:E3 (aR b v a) (aR a b c):=NU (k:=s+t) (s:=t) (by omega) h2 (by simp only[aR];grind);have k3:E3 (v.2-b.2) (c.2-b.2):=NU (k:=s+t) (s:=t) (by omega) h2 (by grind);obtain ⟨p1,n1⟩:=k1;obtain ⟨p2,n2⟩:=k2;obtain ⟨p3,n3⟩:=k3;have e3:=iX b v a;unfold hit ON dr;rw[e3];generalize aR a b v=X at *;generalize aR b v a=Y at *;generalize aR a b c=Z at *;rcases Int.lt_trichotomy Z 0 with hz|hz|hz<;>rcases Int.lt_trichotomy a.2 b.2 with ha|ha|ha<;>rcases Int.lt_trichotomy c.2 b.2 with hc|hc|hc<;>rcases Int.lt_or_le v.2 a.2 with hd|hd<;>grind
def BIC {a b c:Pt} (hf:¬ (aR a b c=0/\0<qX a b c)) (h:(a.2<b.2/\c.2<b.2)\/(b.2<a.2/\b.2<c.2)):aR a b c≠0:=by
 intro h0;refine hf ⟨h0,?_⟩;have hy:0<(a.2-b.2)*(c.2-b.2):=by
  rcases h with ⟨h1,h2⟩|⟨h1,h2⟩
  ·have:=Int.mul_pos (show 0<b.2-a.2 by omega) (show 0<b.2-c.2 by omega);have e:(a.2-b.2)*(c.2-b.2)=(b.2-a.2)*(b.2-c.2):=by grind
   omega
  ·exact Int.mul_pos (by omega) (by omega)
 have hx:0<=(a.1-b.1)*(c.1-b.1):=by
  have e:(a.2-b.2)*(c.2-b.2)*((a.1-b.1)*(c.1-b.1))=((a.2-b.2)*(c.1-b.1))*((a.2-b.2)*(c.1-b.1)):=by
   simp only[aR] at h0;have h1:(a.1-b.1)*(c.2-b.2)=(a.2-b.2)*(c.1-b.1):=by grind
   have:(a.2-b.2)*(c.2-b.2)*((a.1-b.1)*(c.1-b.1))=((a.1-b.1)*(c.2-b.2))*((a.2-b.2)*(c.1-b.1)):=by grind
   rw[this,h1]
  have e2:0<=(a.2-b.2)*(c.2-b.2)*((a.1-b.1)*(c.1-b.1)):=by rw[e];exact BE5 _
  rcases Int.lt_or_le ((a.1-b.1)*(c.1-b.1)) 0 with h|h
  ·have:=Int.mul_neg_of_pos_of_neg hy h;omega
  ·exact h
 unfold qX;omega
def BMP {a b c u v:Pt} (hab:a≠b) (hbc:b≠c) (hf:¬ (aR a b c=0/\0<qX a b c)) (hu:uM a b u) (hv:uM b c v) :
  ((hit b c u ^^ ON u b c) ^^ (hit a b v ^^ ON b v a))=(sg a b ^^ sg b c):=by
 rw[AZR hu,AZS hv];have nf:=@BIC a b c hf;unfold sg;rcases Int.lt_trichotomy a.2 b.2 with ha|ha|ha
 ·rcases Int.lt_trichotomy c.2 b.2 with hc|hc|hc
  ·have:=nf (.inl ⟨ha,hc⟩);rcases Int.lt_or_lt_of_ne this with h|h<;>grind
  ·have hx:b.1≠c.1:=λh=>hbc (Prod.ext h hc.symm);have e:aR a b c = -((b.2-a.2)*(c.1-b.1)):=by simp only[aR];rw[hc];grind
   rcases Int.lt_or_lt_of_ne hx with h|h
   ·have:=Int.mul_pos (show 0<b.2-a.2 by omega) (show 0<c.1-b.1 by omega)
    grind
   ·have:=Int.mul_neg_of_pos_of_neg (show 0<b.2-a.2 by omega) (show c.1-b.1<0 by omega)
    grind
  ·grind
 ·have hx:a.1≠b.1:=λh=>hab (Prod.ext h ha);rcases Int.lt_trichotomy c.2 b.2 with hc|hc|hc
  ·have e:aR a b c=(b.1-a.1)*(c.2-b.2):=by simp only[aR];rw[ha];grind
   rcases Int.lt_or_lt_of_ne hx with h|h
   ·have:=Int.mul_neg_of_pos_of_neg (show 0<b.1-a.1 by omega) (show c.2-b.2<0 by omega)
    grind
   ·have:=Int.mul_pos (show 0<a.1-b.1 by omega) (show 0<b.2-c.2 by omega);have e':(a.1-b.1)*(b.2-c.2)=(b.1-a.1)*(c.2-b.2):=by grind
    grind
  ·have hx2:b.1≠c.1:=λh=>hbc (Prod.ext h hc.symm);have e:aR a b c=0:=by simp only[aR];rw[ha,hc];grind
   have hd:¬ 0<qX a b c:=λh=>hf ⟨e,h⟩;have ed:qX a b c=(a.1-b.1)*(c.1-b.1):=by simp only[qX];rw[ha,hc];grind
   rcases Int.lt_or_lt_of_ne hx with h|h<;>rcases Int.lt_or_lt_of_ne hx2 with h'|h'
   ·grind
   ·have:=Int.mul_pos (show 0<b.1-a.1 by omega) (show 0<b.1-c.1 by omega);have e':(b.1-a.1)*(b.1-c.1)=(a.1-b.1)*(c.1-b.1):=by grind
    omega
   ·have:=Int.mul_pos (show 0<a.1-b.1 by omega) (show 0<c.1-b.1 by omega);omega
   ·grind
  ·have e:aR a b c=(b.1-a.1)*(c.2-b.2):=by simp only[aR];rw[ha];grind
   rcases Int.lt_or_lt_of_ne hx with h|h
   ·have:=Int.mul_pos (show 0<b.1-a.1 by omega) (show 0<c.2-b.2 by omega)
    grind
   ·have:=Int.mul_neg_of_pos_of_neg (show 0<c.2-b.2 by omega) (show b.1-a.1<0 by omega);have e':(c.2-b.2)*(b.1-a.1)=(b.1-a.1)*(c.2-b.2):=by grind
    grind
 ·rcases Int.lt_trichotomy c.2 b.2 with hc|hc|hc
  ·grind
  ·have hx:b.1≠c.1:=λh=>hbc (Prod.ext h hc.symm);have e:aR a b c=(a.2-b.2)*(c.1-b.1):=by simp only[aR];rw[hc];grind
   rcases Int.lt_or_lt_of_ne hx with h|h
   ·have:=Int.mul_pos (show 0<a.2-b.2 by omega) (show 0<c.1-b.1 by omega)
    grind
   ·have:=Int.mul_neg_of_pos_of_neg (show 0<a.2-b.2 by omega) (show c.1-b.1<0 by omega)
    grind
  ·have:=nf (.inr ⟨ha,hc⟩);rcases Int.lt_or_lt_of_ne this with h|h<;>grind
structure jU (p:List Pt):Prop where
 n3:3<=p.length
 ne:∀ i,i<p.length->pt p i≠nx p i
 nf:∀ i,i<p.length->¬ (aR (pt p i) (nx p i) (D3 p i)=0/\0<qX (pt p i) (nx p i) (D3 p i))
 ap:∀ i k,i<p.length->k<p.length->k≠i->k≠(i+1) % p.length->i≠(k+1) % p.length->¬ RH (pt p i) (nx p i) (pt p k) (nx p k)
def QQ (p:List Pt) (i:Nat):nx p ((i+1) % p.length)=D3 p i:=by
 unfold nx D3;rw[Nat.mod_add_mod]
def next_ne {n i:Nat} (hn:3<=n) (hi:i<n):(i+1) % n≠i/\i≠((i+1) % n+1) % n:=by
 rw[Nat.mod_add_mod];rcases Nat.lt_or_ge (i+1) n with h|h
 ·rw[Nat.mod_eq_of_lt h];refine ⟨by omega,?_⟩;rcases Nat.lt_or_ge (i+1+1) n with h'|h'
  ·rw[Nat.mod_eq_of_lt h'];omega
  ·rw[show i+1+1=n by omega,Nat.mod_self];omega
 ·have e:i+1=n:=by omega
  rw[e,Nat.mod_self,show n+1=1+n by omega,Nat.add_mod_right,Nat.mod_eq_of_lt (by omega)];omega
def BB6 {n i j:Nat} (hi:i<n) (hj:j<n) (h:(i+1) % n=(j+1) % n):i=j:=by
 rcases Nat.lt_or_ge (i+1) n with h1|h1<;>rcases Nat.lt_or_ge (j+1) n with h2|h2
 ·rw[Nat.mod_eq_of_lt h1,Nat.mod_eq_of_lt h2] at h;omega
 ·rw[Nat.mod_eq_of_lt h1,show j+1=n by omega,Nat.mod_self] at h;omega
 ·rw[Nat.mod_eq_of_lt h2,show i+1=n by omega,Nat.mod_self] at h;omega
 ·omega
section
variable {p : List Pt}
def jU.right (S:jU p) {i j:Nat} (hi:i<p.length) (hj:j<p.length) (h1:j≠i) (h2:j≠(i+1) % p.length) {u v:Pt} (hu:PK (pt p i) (nx p i) u) (hv:PK (pt p i) (nx p i) v):dM (pt p j) (nx p j) u v=false:=by
 by_cases h:i=(j+1) % p.length
 ·have e:nx p j=pt p i:=by rw[h];rfl
  have e2:D3 p j=nx p i:=by rw[<-QQ,<-h]
  rw[e];refine ALJ (S.ne i hi) ?_ hu hv;have:=S.nf j hj;rw[e,e2] at this;exact this
 ·exact BO (S.ap i j hi hj h1 h2 h) hu.seg hv.seg
def AZT (a b c:Pt):aR c b a = - aR a b c:=by simp only[aR];grind
def BHQ (a b c:Pt):qX c b a=qX a b c:=by simp only[qX];grind
def jU.left (S:jU p) {i j:Nat} (hi:i<p.length) (hj:j<p.length) (h1:j≠i) (h2:i≠(j+1) % p.length) {u v:Pt} (hu:PK (nx p i) (pt p i) u) (hv:PK (nx p i) (pt p i) v):dM (pt p j) (nx p j) u v=false:=by
 by_cases h:j=(i+1) % p.length
 ·have e:pt p j=nx p i:=by rw[h];rfl
  have e2:nx p j=D3 p i:=by rw[<-QQ,<-h]
  rw[e,e2,MO];refine ALJ (λh'=>S.ne i hi h'.symm) ?_ hu hv;rw[AZT,BHQ];rintro ⟨x,y⟩;exact S.nf i hi ⟨by omega,y⟩
 ·exact BO (S.ap i j hi hj h1 h h2) hu.seg.swap hv.seg.swap
def jU.inner (S:jU p) {i j:Nat} (hi:i<p.length) (hj:j<p.length) (h1:j≠i) {u v:Pt} (hu:uM (pt p i) (nx p i) u) (hv:uM (pt p i) (nx p i) v):dM (pt p j) (nx p j) u v=false:=by
 by_cases h:j=(i+1) % p.length
 ·refine S.left hi hj h1 ?_ hu.swap.r hv.swap.r;rw[h];exact (next_ne S.n3 hi).2
 ·exact S.right hi hj h1 h hu.r hv.r
end
def NV {a b u v:Pt} (hu:zY a b u) (hv:zY a b v):aR u v a=0/\aR u v b=0:=by
 obtain ⟨s,t,h1,h2,h3,h4,h5⟩:=hu;obtain ⟨s',t',k1,k2,k3,k4,k5⟩:=hv;have d1:(s+t)*(s'+t')*(v.1-u.1)=((s+t)*t'-(s'+t')*t)*(b.1-a.1):=by
  have e1:(s+t)*((s'+t')*v.1)=(s+t)*(s'*a.1+t'*b.1):=by rw[k4]
  have e2:(s'+t')*((s+t)*u.1)=(s'+t')*(s*a.1+t*b.1):=by rw[h4]
  grind
 have d2:(s+t)*(s'+t')*(v.2-u.2)=((s+t)*t'-(s'+t')*t)*(b.2-a.2):=by
  have e1:(s+t)*((s'+t')*v.2)=(s+t)*(s'*a.2+t'*b.2):=by rw[k5]
  have e2:(s'+t')*((s+t)*u.2)=(s'+t')*(s*a.2+t*b.2):=by rw[h5]
  grind
 have f1:(s+t)*(a.1-u.1)=(-t)*(b.1-a.1):=by grind
 have f2:(s+t)*(a.2-u.2)=(-t)*(b.2-a.2):=by grind
 have g1:(s+t)*(b.1-u.1)=s*(b.1-a.1):=by grind
 have g2:(s+t)*(b.2-u.2)=s*(b.2-a.2):=by grind
 have m:(s+t)*(s'+t')*(s+t)≠0:=by
  have:=Int.mul_pos (Int.mul_pos h3 k3) h3;omega
 generalize (s+t)*t'-(s'+t')*t=C at d1 d2;generalize hL:s+t=L at *;generalize hL':s'+t'=L' at *;constructor
 ·refine fF m ?_;have e:L*L'*L*aR u v a=(L*L'*(v.1-u.1))*(L*(a.2-u.2))-(L*L'*(v.2-u.2))*(L*(a.1-u.1)):=by simp only[aR];grind
  rw[e,d1,d2,f1,f2];grind
 ·refine fF m ?_;have e:L*L'*L*aR u v b=(L*L'*(v.1-u.1))*(L*(b.2-u.2))-(L*L'*(v.2-u.2))*(L*(b.1-u.1)):=by simp only[aR];grind
  rw[e,d1,d2,g1,g2];grind
def H (p:List Pt) (i:Nat) (u:Pt):Bool:=jB p.length λj=>!decide (j=i)&&hit (pt p j) (nx p j) u
section
variable {p : List Pt}
def zD {a b:Bool} (h:(a ^^ b)=false):a=b:=by revert h;cases a<;>cases b<;>simp
def BMB (S:jU p) {i:Nat} (hi:i<p.length) {u v:Pt} (hu:uM (pt p i) (nx p i) u) (hv:uM (pt p i) (nx p i) v):H p i u=H p i v:=by
 refine zD ?_;unfold H;rw[<-qI,j0 (g:=λj=>ON u v (pt p j) ^^ ON u v (pt p ((j+1) % p.length))) λj hj=>?_]
 ·exact xD (λj=>ON u v (pt p j)) p.length
 ·by_cases h:j=i
  ·subst h;obtain ⟨z1,z2⟩:=NV hu.seg hv.seg;rw[ai rfl,pL z1,show pt p ((j+1) % p.length)=nx p j from rfl,pL z2];rfl
  ·rw[aj h,Bool.not_false,Bool.true_and,Bool.true_and];exact LM (S.inner hi hj h hu hv)
def ANF {n i:Nat} (X:Bool):jB n (λj=>decide (j=i)&&X)=(decide (i<n)&&X):=by
 induction n with
 | zero=>simp[jB]
 | succ n ih =>
  rw[jB,ih];by_cases h1:i<n
  ·rw[ai h1,ai (show i<n+1 by omega),aj (show ¬ n=i by omega)];simp
  ·by_cases h2:n=i
   ·rw[aj h1,ai h2,ai (show i<n+1 by omega)];simp
   ·rw[aj h1,aj h2,aj (show ¬ i<n+1 by omega)];simp
def A32 (A B C D:Nat->Bool) (n:Nat):jB n (λj=>A j ^^ (B j ^^ (C j ^^ D j)))=(jB n A ^^ (jB n B ^^ (jB n C ^^ jB n D))):=by
 rw[qI A λj=>B j ^^ (C j ^^ D j),qI B λj=>C j ^^ D j,qI C D]
def BL8 (S:jU p) {i:Nat} (hi:i<p.length) {u v:Pt} (hu:uM (pt p i) (nx p i) u) (hv:uM (nx p i) (D3 p i) v):(H p i u ^^ H p ((i+1) % p.length) v)=(sg (pt p i) (nx p i) ^^ sg (nx p i) (D3 p i)):=by
 obtain ⟨hk1,hk2⟩:=next_ne S.n3 hi;have hk:(i+1) % p.length<p.length:=Nat.mod_lt _ (by omega);have ek:pt p ((i+1) % p.length)=nx p i:=rfl;have ek2:nx p ((i+1) % p.length)=D3 p i:=QQ p i;have hbc:nx p i≠D3 p i:=by have:=S.ne _ hk;rwa[ek,ek2] at this
 have c:=BMP (S.ne i hi) hbc (S.nf i hi) hu hv;rw[<-c];generalize hkk:(i+1) % p.length=k at *;have zu:=NV hu.seg (zY.right (pt p i) (nx p i));have zv:=NV (zY.left (nx p i) (D3 p i)) hv.seg;have e:(H p i u ^^ H p k v)=jB p.length (λj=>(ON u (nx p i) (pt p j) ^^ ON u (nx p i) (pt p ((j+1) % p.length))) ^^ ((ON (nx p i) v (pt p j) ^^ ON (nx p i) v (pt p ((j+1) % p.length))) ^^
   ((decide (j=i)&&(hit (pt p i) (nx p i) v ^^ ON (nx p i) v (pt p i))) ^^ (decide (j=k)&&(hit (nx p i) (D3 p i) u ^^ ON u (nx p i) (D3 p i)))))):=by
  unfold H;rw[<-qI];refine j0 λj hj=>?_;rw[show pt p ((j+1) % p.length)=nx p j from rfl];by_cases h1:j=i
  ·subst h1;rw[ai rfl,aj (λh=>hk1 h.symm),pL zu.1,pL zu.2,pL (w:=nx p j) zv.1];cases hit (pt p j) (nx p j) v<;>cases ON (nx p j) v (pt p j)<;>rfl
  ·by_cases h2:j=k
   ·subst h2;rw[aj h1,ai rfl,ek,ek2,pL zu.2,pL zv.1,pL zv.2];cases hit (nx p i) (D3 p i) u<;>cases ON u (nx p i) (D3 p i)<;>rfl
   ·rw[aj h1,aj h2];have q1:=LM (S.right hi hj h1 (by rw[hkk];exact h2) hu.r (XA _ _));have hv':PK (nx p k) (pt p k) v:=by rw[ek,ek2];exact hv.swap.r
    have hb':PK (nx p k) (pt p k) (nx p i):=by rw[ek,ek2];exact XA _ _
    have q2:=LM (S.left hk hj h2 (λh=>h1 (BB6 hj hi (by rw[<-h,hkk]))) hb' hv');rw[<-q1,<-q2];cases hit (pt p j) (nx p j) u<;>cases hit (pt p j) (nx p j) v<;>cases hit (pt p j) (nx p j) (nx p i)<;>rfl
 rw[e,A32,ANF,ANF,ai hi,ai hk,xD (λj=>ON u (nx p i) (pt p j)) p.length,xD (λj=>ON (nx p i) v (pt p j)) p.length];cases hit (pt p i) (nx p i) v<;>cases ON (nx p i) v (pt p i)<;>cases hit (nx p i) (D3 p i) u<;>cases ON u (nx p i) (D3 p i)<;>rfl
def BSA (S:jU p) (hm:∀ i,i<p.length->∃ m,uM (pt p i) (nx p i) m):∃ κ:Bool,∀ i,i<p.length->∀ u,uM (pt p i) (nx p i) u->(H p i u ^^ sg (pt p i) (nx p i))=κ:=by
 have h0:0<p.length:=by have:=S.n3;omega
 obtain ⟨m0,hm0⟩:=hm 0 h0;refine ⟨H p 0 m0 ^^ sg (pt p 0) (nx p 0),λi=>?_⟩
 induction i with
 | zero=>intro hi u hu;rw[BMB S hi hu hm0]
 | succ i ih =>
  intro hi u hu;have hi':i<p.length:=by omega
  obtain ⟨m,hmi⟩:=hm i hi';rw[<-ih hi' m hmi];have e:(i+1) % p.length=i+1:=Nat.mod_eq_of_lt hi;have en:nx p i=pt p (i+1):=by unfold nx;rw[e]
  have en2:D3 p i=nx p (i+1):=by rw[<-QQ,e]
  have:=BL8 S hi' hmi (v:=u) (by rw[en,en2];exact hu);rw[e,en,en2] at this;rw[en];revert this;cases H p i m<;>cases H p (i+1) u<;>cases sg (pt p i) (pt p (i+1))<;>cases sg (pt p (i+1)) (nx p (i+1))<;>simp
end
def uX (l:List (Int×Bool)) (x:Int):Nat:=(l.filter λf=>decide (x<f.1)).length
def val:List (Int×Bool)->Int
 | []=>0
 | e::l=>(if e.2 then -e.1 else e.1)+val l
def GD:∀ (a b:List (Int×Bool)),val (a++b)=val a+val b
 | [],b=>by simp[val]
 | e::a,b=>by rw[List.cons_append,val,val,GD a b];omega
def BFG {a b:List (Int×Bool)} (h:a.Perm b):val a=val b:=by
 induction h with
 | nil=>rfl
 | cons x _ ih=>rw[val,val,ih]
 | swap x y l=>simp only[val];omega
 | trans _ _ h1 h2=>rw[h1,h2]
def A71 {a b:List (Int×Bool)} (h:a.Perm b) (x:Int):uX a x=uX b x:=(h.filter _).length_eq
def APU (a b:List (Int×Bool)) (x:Int):uX (a++b) x=uX a x+uX b x:=by unfold uX;rw[List.filter_append,List.length_append]
def qP (n:Nat):Bool:=decide (n % 2=1)
def C4 (n:Nat):qP (n+1) = !qP n:=by
 unfold qP;rcases Nat.mod_two_eq_zero_or_one n with h|h
 ·rw[h,ai (show (n+1) % 2=1 by omega)];rfl
 ·rw[h,aj (show ¬ (n+1) % 2=1 by omega)];rfl
def VK (m n:Nat):qP (m+n)=(qP m ^^ qP n):=by
 induction n with
 | zero=>rw[Nat.add_zero,show qP 0=false from rfl,Bool.xor_false]
 | succ n ih=>rw[<-Nat.add_assoc,C4,C4,ih];cases qP m<;>cases qP n<;>rfl
def AUJ:∀ (n:Nat) (l:List (Int×Bool)),l.length=2*n->l.Pairwise (λa b=>b.1<a.1)->(∀ e∈l,qP (uX l e.1)=e.2)->0<=val l/\(l≠[]->0<val l)
 | 0,l,hl,_,_=>by
  have:l=[]:=List.eq_nil_of_length_eq_zero (by omega);subst this;exact ⟨Int.le_refl 0,λh=>absurd rfl h⟩
 | n+1,[],hl,_,_=>by (rw[List.length_nil] at hl;omega)
 | n+1,[e],hl,_,_=>by simp at hl;omega
 | n+1,e::f::l,hl,hp,hc=>by
  obtain ⟨p1,hp'⟩:=List.pairwise_cons.1 hp;obtain ⟨p2,hp''⟩:=List.pairwise_cons.1 hp';have hfe:f.1<e.1:=p1 f (by simp);have none1:∀ (l:List (Int×Bool)) (x:Int),(∀ g∈l,g.1<x)->uX l x=0:=λl x h=>by
   unfold uX;rw[List.length_eq_zero_iff,List.filter_eq_nil_iff];intro g hg;have:=h g hg;simp;omega
  have c1:uX (e::f::l) e.1=0:=by
   unfold uX;rw[List.length_eq_zero_iff,List.filter_eq_nil_iff];intro g hg;rcases List.mem_cons.1 hg with rfl|hg
   ·simp
   ·have:=p1 g hg;simp;omega
  have c2:uX (e::f::l) f.1=1:=by
   have:uX (f::l) f.1=0:=by
    unfold uX;rw[List.length_eq_zero_iff,List.filter_eq_nil_iff];intro g hg;rcases List.mem_cons.1 hg with rfl|hg
    ·simp
    ·have:=p2 g hg;simp;omega
   unfold uX at this ⊢;rw[List.filter_cons,if_pos (by simpa using hfe),List.length_cons,this]
  have s1:e.2=false:=by rw[<-hc e (by simp),c1];rfl
  have s2:f.2=true:=by rw[<-hc f (by simp),c2];rfl
  have ih:=AUJ n l (by simp at hl;omega) hp'' λg hg=>by
   have:=hc g (by simp[hg]);have h1:g.1<e.1:=p1 g (by simp[hg]);have h2:g.1<f.1:=p2 g hg;have:uX (e::f::l) g.1=uX l g.1+1+1:=by
    unfold uX;rw[List.filter_cons,if_pos (by simpa using h1),List.filter_cons,if_pos (by simpa using h2),List.length_cons,List.length_cons]
   rw[<-hc g (by simp[hg]),this,C4,C4,Bool.not_not]
  rw[val,val,s1,s2];simp only[if_true];simp only[Bool.false_eq_true,if_false];have ih:=ih.1;exact ⟨by omega,λ_=>by omega⟩
def AEY {l:List (Int×Bool)} (he:qP l.length=false) (hd:l.Pairwise λa b=>a.1≠b.1) (hc:∀ e∈l,qP (uX l e.1)=e.2):0<=val l/\(l≠[]->0<val l):=by
 let le:Int×Bool->Int×Bool->Bool:=λa b=>decide (b.1<=a.1)
 have hperm:=List.mergeSort_perm l le;have hs:(l.mergeSort le).Pairwise λa b=>le a b=true:=List.pairwise_mergeSort (λa b c h1 h2=>by
  simp only[le,ah] at *;omega) (λa b=>by simp only[le,Bool.or_eq_true,ah];omega) l
 have hd':(l.mergeSort le).Pairwise λa b=>a.1≠b.1:=(hperm.symm.pairwise_iff (R:=λ(a b:Int×Bool)=>a.1≠b.1) (λh=>h.symm)).1 hd;have hs':(l.mergeSort le).Pairwise λa b=>b.1<a.1:=by
  refine (hs.and hd').imp λ{a b} h=>?_;have h1:b.1<=a.1:=by simpa [le] using h.1
  have:=h.2;omega
 rw[<-BFG hperm];have hlen:(l.mergeSort le).length=2*(l.length / 2):=by
  rw[hperm.length_eq];unfold qP at he;have:=of_decide_eq_false he;omega
 have hv:=AUJ _ _ hlen hs' λe hm=>by rw[A71 hperm];exact hc e (hperm.mem_iff.1 hm)
 refine ⟨hv.1,λhne=>hv.2 λh=>hne ?_⟩;have hl:=hperm.length_eq;rw[h] at hl;exact List.eq_nil_of_length_eq_zero hl.symm
def flip (l:List (Int×Bool)):List (Int×Bool):=l.map λe=>(e.1,!e.2)
def ANA:∀ l:List (Int×Bool),val (flip l) = - val l
 | []=>rfl
 | e::l=>by
  show (if (!e.2) then -e.1 else e.1)+val (flip l) = -((if e.2 then -e.1 else e.1)+val l);rw[ANA l];cases e.2<;>simp<;>omega
def A70 (l:List (Int×Bool)) (x:Int):uX (flip l) x=uX l x:=by
 unfold uX flip;rw[List.filter_map,ae];rfl
def BD6 {l:List (Int×Bool)} (he:qP l.length=false) (hd:l.Pairwise λa b=>a.1≠b.1) (hc:∀ e∈l,(qP (uX l e.1) ^^ e.2)=true):val l<=0/\(l≠[]->val l<0):=by
 have:=AEY (l:=flip l) (by unfold flip;rw[ae];exact he) (by unfold flip;rw[List.pairwise_map];exact hd) λe hm=>by
  obtain ⟨f,hf,rfl⟩:=List.mem_map.1 hm;have h:=hc f hf;dsimp only;rw[A70];revert h;cases qP (uX l f.1)<;>cases f.2<;>simp
 rw[ANA] at this;refine ⟨by have:=this.1;omega,λhne=>?_⟩;have:=this.2 (by unfold flip;intro h;exact hne (List.map_eq_nil_iff.1 h));omega
def fac:Nat->Nat
 | 0=>1
 | n+1=>fac n*(n+1)
def AC5:∀ n,0<fac n
 | 0=>by decide
 | n+1=>Nat.mul_pos (AC5 n) (by omega)
def AUY:∀ {n d:Nat},1<=d->d<=n->d ∣ fac n
 | 0,d,h1,h2=>by omega
 | n+1,d,h1,h2=>by
  rcases Nat.lt_or_ge d (n+1) with h|h
  ·exact Nat.dvd_trans (AUY h1 (by omega)) ⟨n+1,rfl⟩
  ·have:d=n+1:=by omega
   subst this;exact ⟨fac n,Nat.mul_comm _ _⟩
def sc (N:Int) (a:Pt):Pt:=(N*a.1,N*a.2)
def cr (a b:Pt) (k:Int):Bool:=(decide (a.2<=k)&&decide (k<b.2))||(decide (b.2<=k)&&decide (k<a.2))
def rx (M:Int) (a b:Pt) (k:Int):Int:=2*M*a.1+(b.1-a.1)*(M / (b.2-a.2))*(2*(k-a.2)+1)
def ru (M:Int) (a b:Pt) (k:Int):Pt:=(rx M a b k,2*M*k+M)
def Mul (M:Int) (a b:Pt):Prop:=a.2≠b.2->M / (b.2-a.2)*(b.2-a.2)=M
variable {M:Int}
def M0 {a b:Pt} {k:Int} (hM:0<M) (hd:Mul M a b) (hc:cr a b k=true):uM (sc (2*M) a) (sc (2*M) b) (ru M a b k):=by
 unfold cr at hc;simp only[Bool.or_eq_true,ac,ah] at hc;have he:=hd (by omega);generalize M / (b.2-a.2)=e at he;have hre:rx M a b k=2*M*a.1+(b.1-a.1)*e*(2*(k-a.2)+1):=by
  unfold rx;have:M / (b.2-a.2)=e:=by
   rw[<-he];exact Int.mul_ediv_cancel _ (by omega)
  rw[this]
 have hw:0<e*(2*(k-a.2)+1)/\e*(2*(k-a.2)+1)<2*M:=by
  rcases hc with ⟨h1,h2⟩|⟨h1,h2⟩
  ·have hep:0<e:=by
    refine uB (a:=b.2-a.2) (by rw[Int.mul_comm,he];exact hM) (by omega)
   refine ⟨Int.mul_pos hep (by omega),?_⟩;have:e*(2*(k-a.2)+1)<e*(2*(b.2-a.2)):=Int.mul_lt_mul_of_pos_left (by omega) hep;have e2:e*(2*(b.2-a.2))=2*M:=by rw[<-he];grind
   omega
  ·have hep:0 < -e:=by
    refine uB (a:=a.2-b.2) ?_ (by omega);have:(a.2-b.2) * -e=M:=by rw[<-he];grind
    omega
   have e1:e*(2*(k-a.2)+1)=(-e)*(2*(a.2-k)-1):=by grind
   rw[e1];refine ⟨Int.mul_pos hep (by omega),?_⟩;have:(-e)*(2*(a.2-k)-1)<(-e)*(2*(a.2-b.2)):=Int.mul_lt_mul_of_pos_left (by omega) hep;have e2:(-e)*(2*(a.2-b.2))=2*M:=by rw[<-he];grind
   omega
 refine ⟨2*M-e*(2*(k-a.2)+1),e*(2*(k-a.2)+1),by omega,hw.1,?_,?_⟩
 ·show _*rx M a b k=_*(2*M*a.1)+_*(2*M*b.1);rw[hre];grind
 ·show _*(2*M*k+M)=_*(2*M*a.2)+_*(2*M*b.2);have:e*(2*(k-a.2)+1)*(b.2-a.2)=M*(2*(k-a.2)+1):=by
   rw[<-he];grind
  grind
def AU7 {a b c d:Pt} {k:Int} (hM:0<M) (hd:Mul M c d):hit (sc (2*M) c) (sc (2*M) d) (ru M a b k)=(cr c d k&&decide (rx M a b k<rx M c d k)):=by
 have h1:∀ y:Int,(2*M*y<=2*M*k+M↔y<=k):=λy=>by
  constructor
  ·intro h;rcases Int.lt_or_le k y with h'|h'
   ·have:=Int.mul_le_mul_of_nonneg_left (show k+1<=y by omega) (show 0<=2*M by omega);have e:2*M*(k+1)=2*M*k+2*M:=by grind
    omega
   ·exact h'
  ·intro h;have:=Int.mul_le_mul_of_nonneg_left h (show 0<=2*M by omega);omega
 have h2:∀ y:Int,(2*M*k+M<2*M*y↔k<y):=λy=>by
  have:=h1 y;omega
 by_cases hc:cr c d k=true
 ·have hs:=(M0 hM hd hc).seg.BK7;have key:aR (sc (2*M) c) (sc (2*M) d) (ru M a b k)=2*M*(d.2-c.2)*(rx M c d k-rx M a b k):=by
   simp only[aR,sc,ru] at hs ⊢
   grind
  unfold hit;rw[key];unfold cr at hc ⊢;simp only[Bool.or_eq_true,ac,ah] at hc;show (decide (2*M*c.2<=2*M*k+M)&&decide (2*M*k+M<2*M*d.2)&&_||decide (2*M*d.2<=2*M*k+M)&&decide (2*M*k+M<2*M*c.2)&&_)=_;rw[decide_eq_decide.2 (h1 c.2),decide_eq_decide.2 (h1 d.2),decide_eq_decide.2 (h2 c.2),decide_eq_decide.2 (h2 d.2)];rcases hc with ⟨x1,x2⟩|⟨x1,x2⟩
  ·have sgn1:(0<2*M*(d.2-c.2)*(rx M c d k-rx M a b k))↔rx M a b k<rx M c d k:=by
    have hp:0<2*M*(d.2-c.2):=Int.mul_pos (by omega) (by omega);constructor
    ·intro h;have:=uB (a:=2*M*(d.2-c.2)) h hp;omega
    ·intro h;exact Int.mul_pos hp (by omega)
   rw[ai x1,ai x2,aj (show ¬ d.2<=k by omega),show decide (0<2*M*(d.2-c.2)*(rx M c d k-rx M a b k))=decide (rx M a b k<rx M c d k) from decide_eq_decide.2 sgn1];simp
  ·have sgn1:(2*M*(d.2-c.2)*(rx M c d k-rx M a b k)<0)↔rx M a b k<rx M c d k:=by
    have hp:0<2*M*(c.2-d.2):=Int.mul_pos (by omega) (by omega);have e:2*M*(d.2-c.2)*(rx M c d k-rx M a b k) = -(2*M*(c.2-d.2)*(rx M c d k-rx M a b k)):=by grind
    rw[e];constructor
    ·intro h;have:=uB (a:=2*M*(c.2-d.2)) (b:=rx M c d k-rx M a b k) (by omega) hp;omega
    ·intro h;have:=Int.mul_pos hp (show 0<rx M c d k-rx M a b k by omega);omega
   rw[ai x1,ai x2,aj (show ¬ c.2<=k by omega),show decide (2*M*(d.2-c.2)*(rx M c d k-rx M a b k)<0)=decide (rx M a b k<rx M c d k) from decide_eq_decide.2 sgn1];simp
 ·have hc:cr c d k=false:=by simpa using hc
  rw[hc,Bool.false_and];unfold cr at hc;simp only[Bool.or_eq_false_iff] at hc;unfold hit;show (decide (2*M*c.2<=2*M*k+M)&&decide (2*M*k+M<2*M*d.2)&&_||decide (2*M*d.2<=2*M*k+M)&&decide (2*M*k+M<2*M*c.2)&&_)=_;rw[decide_eq_decide.2 (h1 c.2),decide_eq_decide.2 (h1 d.2),decide_eq_decide.2 (h2 c.2),decide_eq_decide.2 (h2 d.2),hc.1,hc.2];rfl
def zT (M:Int) (p:List Pt) (k:Int):List (Int×Bool):=((List.range p.length).filter λi=>cr (pt p i) (nx p i) k).map λi=>(rx M (pt p i) (nx p i) k,sg (pt p i) (nx p i))
def XX (f:Nat->Bool):∀ n:Nat,jB n f=qP ((List.range n).filter f).length
 | 0=>rfl
 | n+1=>by
  rw[jB,XX f n,List.range_succ,List.filter_append,List.length_append,VK]
  congr 1
  cases h:f n
  ·rw[List.filter_cons,if_neg (by rw[h];decide)];rfl
  ·rw[List.filter_cons,if_pos h];rfl
def BMQ (a b:Pt) (k:Int):cr a b k=(decide (a.2<=k) ^^ decide (b.2<=k)):=by
 unfold cr;rcases Int.lt_or_le k a.2 with h1|h1<;>rcases Int.lt_or_le k b.2 with h2|h2
 ·rw[aj (show ¬ a.2<=k by omega),aj (show ¬ b.2<=k by omega)];rfl
 ·rw[aj (show ¬ a.2<=k by omega),ai h2,ai h1];rfl
 ·rw[aj (show ¬ b.2<=k by omega),ai h2,ai h1];rfl
 ·rw[ai h1,ai h2,aj (show ¬ k<b.2 by omega),aj (show ¬ k<a.2 by omega)];rfl
def MY (M:Int) (p:List Pt) (k:Int):qP (zT M p k).length=false:=by
 unfold zT;rw[ae,<-XX,j0 (g:=λi=>decide ((pt p i).2<=k) ^^ decide ((pt p ((i+1) % p.length)).2<=k)) λi _=>BMQ (pt p i) (nx p i) k];exact xD (λi=>decide ((pt p i).2<=k)) p.length
def scl (N:Int) (p:List Pt):List Pt:=p.map (sc N)
def mK (N:Int) (p:List Pt):(scl N p).length=p.length:=ae ..
def lT (N:Int) (p:List Pt) (i:Nat):pt (scl N p) i=sc N (pt p i):=by
 unfold pt scl;rw[List.getD_eq_getElem?_getD,List.getD_eq_getElem?_getD,List.getElem?_map];cases h:p[i]? with
 | none=>simp[sc]
 | some a=>rfl
def nZ (N:Int) (p:List Pt) (i:Nat):nx (scl N p) i=sc N (nx p i):=by unfold nx;rw[mK,lT]
def BI3 (N:Int) (p:List Pt) (i:Nat):D3 (scl N p) i=sc N (D3 p i):=by unfold D3;rw[mK,lT]
variable {N:Int}
def BQB (hN:0<N) {a b:Pt} (h:sc N a=sc N b):a=b:=by
 have h1:=congrArg Prod.fst h;have h2:=congrArg Prod.snd h;have h1:N*a.1=N*b.1:=h1;have h2:N*a.2=N*b.2:=h2;exact Prod.ext (Int.eq_of_mul_eq_mul_left (by omega) h1) (Int.eq_of_mul_eq_mul_left (by omega) h2)
def AIO (N:Int) (a b c:Pt):aR (sc N a) (sc N b) (sc N c)=N*N*aR a b c:=by simp only[aR,sc];grind
def BMU (N:Int) (a b c:Pt):qX (sc N a) (sc N b) (sc N c)=N*N*qX a b c:=by simp only[qX,sc];grind
def APV (hN:0<N) {a b c d:Pt} (h:RH (sc N a) (sc N b) (sc N c) (sc N d)):RH a b c d:=by
 obtain ⟨s,t,s',t',h1,h2,h3,h4,h5,h6,h7,h8⟩:=h;simp only[sc] at h7 h8;refine ⟨s,t,s',t',h1,h2,h3,h4,h5,h6,?_,?_⟩
 ·refine Int.eq_of_mul_eq_mul_left (a:=N) (by omega) ?_;grind
 ·refine Int.eq_of_mul_eq_mul_left (a:=N) (by omega) ?_;grind
def jU.scl {p:List Pt} (S:jU p) (hN:0<N):jU (scl N p):=by
 refine ⟨by rw[mK];exact S.n3,λi hi=>?_,λi hi=>?_,λi k hi hk h1 h2 h3=>?_⟩
 ·rw[mK] at hi;rw[lT,nZ];exact λh=>S.ne i hi (BQB hN h)
 ·rw[mK] at hi;rw[lT,nZ,BI3,AIO,BMU];have hNN:0<N*N:=Int.mul_pos hN hN;rintro ⟨h1,h2⟩;exact S.nf i hi ⟨fF (by omega) h1,uB h2 hNN⟩
 ·rw[mK] at *;rw[lT,nZ,lT,nZ];exact λh=>S.ap i k hi hk h1 h2 h3 (APV hN h)
def YC (M:Int) (p:List Pt):Prop:=0<M/\∀ i,Mul M (pt p i) (nx p i)
section
variable {M : Int} {p : List Pt}
def AUT (hM:YC M p) {c d:Pt} {k:Int}:qP (uX (zT M p k) (rx M c d k))=jQ (scl (2*M) p) (ru M c d k):=by
 unfold jQ;rw[mK,j0 (g:=λi=>cr (pt p i) (nx p i) k&&decide (rx M c d k<rx M (pt p i) (nx p i) k)) λi _=>by rw[lT,nZ,AU7 hM.1 (hM.2 i)],XX];unfold uX zT;rw[List.filter_map,ae,List.filter_filter];refine congrArg (λl=>qP (List.length l)) (List.filter_congr λi _=>?_);simp[Function.comp,Bool.and_comm]
def BOC (hM:YC M p) {i:Nat} (hi:i<p.length) {k:Int}:jQ (scl (2*M) p) (ru M (pt p i) (nx p i) k)=H (scl (2*M) p) i (ru M (pt p i) (nx p i) k):=by
 unfold jQ H;refine j0 λj _=>?_;by_cases h:j=i
 ·subst h;rw[ai rfl,lT,nZ,AU7 hM.1 (hM.2 j),aj (show ¬ rx M (pt p j) (nx p j) k<rx M (pt p j) (nx p j) k by omega)];simp
 ·rw[aj h];rfl
def BQD {a b:Pt} (hN:0<N):sg (sc N a) (sc N b)=sg a b:=by
 unfold sg;have l:∀ {x y:Int},(N*x<N*y↔x<y):=λ{x y}=>by
  constructor
  ·intro h;exact Int.lt_of_mul_lt_mul_left h (by omega)
  ·intro h;exact Int.mul_lt_mul_of_pos_left h hN
 have e:∀ {x y:Int},(N*x=N*y↔x=y):=λ{x y}=>by
  constructor
  ·intro h;exact Int.eq_of_mul_eq_mul_left (by omega) h
  ·intro h;rw[h]
 show (decide (N*b.2<N*a.2)||(decide (N*b.2=N*a.2)&&decide (N*a.1<N*b.1)))=_;rw[decide_eq_decide.2 l,decide_eq_decide.2 e,decide_eq_decide.2 l]
def BIS {M:Int} (a b:Pt):uM (sc (2*M) a) (sc (2*M) b) (M*(a.1+b.1),M*(a.2+b.2)):=by
 refine ⟨1,1,by omega,by omega,?_,?_⟩
 ·show (1+1)*(M*(a.1+b.1))=1*(2*M*a.1)+1*(2*M*b.1);grind
 ·show (1+1)*(M*(a.2+b.2))=1*(2*M*a.2)+1*(2*M*b.2);grind
def AS1 (S:jU p) (hM:YC M p):∃ κ:Bool,∀ k i,i<p.length->cr (pt p i) (nx p i) k=true->(jQ (scl (2*M) p) (ru M (pt p i) (nx p i) k) ^^ sg (pt p i) (nx p i))=κ:=by
 have hN:0<2*M:=by have:=hM.1;omega
 obtain ⟨κ,hκ⟩:=BSA (S.scl hN) (λi hi=>⟨_,by rw[lT,nZ];exact BIS _ _⟩);refine ⟨κ,λk i hi hc=>?_⟩;have:=hκ i (by rw[mK];exact hi) (ru M (pt p i) (nx p i) k) (by rw[lT,nZ];exact M0 hM.1 (hM.2 i) hc);rw[lT,nZ,BQD hN] at this;rw[BOC hM hi];exact this
def AAS {a b c d:Pt} {k:Int} (hM:0<M) (h1:Mul M a b) (h2:Mul M c d) (c1:cr a b k=true) (c2:cr c d k=true) (hm:dM (sc (2*M) c) (sc (2*M) d) (ru M a b k) (ru M a b k)=false):rx M a b k≠rx M c d k:=by
 intro h;have e:ru M a b k=ru M c d k:=by unfold ru;rw[h]
 have o:=(M0 hM h2 c2).seg.on;rw[<-e] at o;rw[(sM hm).1] at o;cases o
def FX (S:jU p) (hM:YC M p) (k:Int):(zT M p k).Pairwise λa b=>a.1≠b.1:=by
 have hN:0<2*M:=by have:=hM.1;omega
 unfold zT;rw[List.pairwise_map,List.pairwise_filter];refine (List.nodup_range (n:=p.length)).imp_of_mem λ{i j} hi hj hij=>λc1 c2=>?_;have hi:=List.mem_range.1 hi;have hj:=List.mem_range.1 hj;refine AAS hM.1 (hM.2 i) (hM.2 j) c1 c2 ?_;have s:=M0 hM.1 (hM.2 i) c1;have:=(S.scl hN).inner (i:=i) (j:=j) (by rw[mK];exact hi) (by rw[mK];exact hj) (λh=>hij h.symm) (u:=ru M (pt p i) (nx p i) k) (v:=ru M (pt p i) (nx p i) k) (by rw[lT,nZ];exact s) (by rw[lT,nZ];exact s);rwa[lT,nZ] at this
def I9 {e:Int×Bool} {k:Int} (h:e∈zT M p k):∃ i,i<p.length/\cr (pt p i) (nx p i) k=true/\e=(rx M (pt p i) (nx p i) k,sg (pt p i) (nx p i)):=by
 unfold zT at h;obtain ⟨i,hi,rfl⟩:=List.mem_map.1 h;obtain ⟨h1,h2⟩:=List.mem_filter.1 hi;exact ⟨i,List.mem_range.1 h1,h2,rfl⟩
end
def jA {f g:Nat->Int}:∀ {n:Nat},(∀ i,i<n->f i=g i)->eJ n f=eJ n g
 | 0,_=>rfl
 | n+1,h=>by rw[eJ,eJ,jA λi hi=>h i (by omega),h n (by omega)]
def CH (f g:Nat->Int):∀ n,eJ n (λi=>f i+g i)=eJ n f+eJ n g
 | 0=>rfl
 | n+1=>by rw[eJ,eJ,eJ,CH f g n];omega
def KG (c:Int) (f:Nat->Int):∀ n,eJ n (λi=>c*f i)=c*eJ n f
 | 0=>by simp[eJ]
 | n+1=>by rw[eJ,eJ,KG c f n,Int.mul_add]
def DX:∀ n,eJ n (λ_=>0)=0
 | 0=>rfl
 | n+1=>by rw[eJ,DX n];rfl
def AA7 (f:Nat->Nat->Int) (m:Nat):∀ n,eJ n (λi=>eJ m (λj=>f i j))=eJ m (λj=>eJ n (λi=>f i j))
 | 0=>(DX m).symm
 | n+1=>by
  rw[eJ,AA7 f m n,<-CH];rfl
def F9 (f:Nat->Int):∀ n,eJ (n+1) f=f 0+eJ n (λi=>f (i+1))
 | 0=>by simp[eJ]
 | n+1=>by rw[eJ,F9 f n,eJ];omega
def BE8 (d:Nat->Int) (n:Nat):eJ n (λi=>d ((i+1) % n))=eJ n d:=by
 cases n with
 | zero=>rfl
 | succ m =>
  rw[F9 d m,eJ,Nat.mod_self];rw[jA (g:=λi=>d (i+1)) λi hi=>by rw[Nat.mod_eq_of_lt (by omega)]];omega
def OC (F:Int->Int) (K:Int):∀ n:Nat,eJ n (λj=>F ((j:Int)-K+1)-F ((j:Int)-K))=F ((n:Int)-K)-F (-K)
 | 0=>by simp[eJ]
 | n+1=>by
  rw[eJ,OC F K n,show ((n+1:Nat):Int)-K=(n:Int)-K+1 by omega];omega
def Q6 {f:Nat->Int}:∀ {n:Nat},(∀ i,i<n->0<=f i)->0<=eJ n f
 | 0,_=>Int.le_refl 0
 | n+1,h=>by
  have:=Q6 (n:=n) λi hi=>h i (by omega);have:=h n (by omega);unfold eJ;omega
def ge (M:Int) (a b:Pt) (k:Int):Int:=if cr a b k=true then (if sg a b=true then-rx M a b k else rx M a b k) else 0
def BFH (M:Int) (p:List Pt) (k:Int):val (zT M p k)=eJ p.length λi=>ge M (pt p i) (nx p i) k:=by
 unfold zT;generalize p.length=n
 induction n with
 | zero=>rfl
 | succ n ih =>
  rw[List.range_succ,List.filter_append,List.map_append,GD,ih,eJ]
  congr 1
  unfold ge;by_cases h:cr (pt p n) (nx p n) k=true
  ·rw[if_pos h,List.filter_cons,if_pos h];simp[val]
  ·rw[if_neg h,List.filter_cons,if_neg h];rfl
def mV (lo hi k:Int):Int:=if k<=lo then lo else if hi<=k then hi else k
def AZV {a b:Pt} (hM:0<M) (hd:Mul M a b) {K:Int} {n:Nat} (ha:-K<=a.2/\a.2<=(n:Int)-K) (hb:-K<=b.2/\b.2<=(n:Int)-K) :
  eJ n (λj=>ge M a b ((j:Int)-K))=M*((a.1+b.1)*(b.2-a.2)):=by
 by_cases h:a.2=b.2
 ·rw[h,Int.sub_self,Int.mul_zero,Int.mul_zero,jA (g:=λ_=>0) λi _=>?_,DX];unfold ge cr;rw[if_neg];simp only[Bool.or_eq_true,ac,ah];omega
 ·have he:=hd h;generalize hE:M / (b.2-a.2)=E at he;have hx:∀ k,rx M a b k=2*M*a.1+(b.1-a.1)*E*(2*(k-a.2)+1):=λk=>by unfold rx;rw[hE]
  let S:Int->Int:=λy=>2*M*a.1*y+(b.1-a.1)*E*(y*y)
  have hS:∀ y,S (y+1)-S y=2*M*a.1+(b.1-a.1)*E*(2*y+1):=λy=>by simp only[S];grind
  have fin:S (b.2-a.2)=M*((a.1+b.1)*(b.2-a.2)):=by
   simp only[S];have:(b.1-a.1)*E*((b.2-a.2)*(b.2-a.2))=(b.1-a.1)*(E*(b.2-a.2))*(b.2-a.2):=by grind
   rw[this,he];grind
  rcases Int.lt_or_lt_of_ne h with hlt|hlt
  ·let F:Int->Int:=λk=>S (mV a.2 b.2 k-a.2)
   rw[jA (g:=λj=>F ((j:Int)-K+1)-F ((j:Int)-K)) λj _=>?_,OC F K n]
   ·have e1:F ((n:Int)-K)=S (b.2-a.2):=by
     simp only[F];unfold mV;rw[if_neg (by omega),if_pos (by omega)]
    have e2:F (-K)=0:=by
     simp only[F];unfold mV;rw[if_pos (by omega),Int.sub_self];simp[S]
    rw[e1,e2,fin];omega
   ·generalize (j:Int)-K=k;have hsg:sg a b=false:=by unfold sg;rw[aj (show ¬ b.2<a.2 by omega),aj (show ¬ b.2=a.2 by omega)];rfl
    unfold ge;by_cases hc:cr a b k=true
    ·rw[if_pos hc,hsg];simp only[Bool.false_eq_true,if_false];unfold cr at hc;simp only[Bool.or_eq_true,ac,ah] at hc;have hk:a.2<=k/\k<b.2:=by omega
     have c1:mV a.2 b.2 k=k:=by unfold mV;split;omega;split<;>omega
     have c2:mV a.2 b.2 (k+1)=k+1:=by unfold mV;split;omega;split<;>omega
     simp only[F];rw[c1,c2,hx,<-hS,show k+1-a.2=k-a.2+1 by omega]
    ·rw[if_neg hc];unfold cr at hc;simp only[Bool.or_eq_true,ac,ah] at hc;have c1:mV a.2 b.2 (k+1)=mV a.2 b.2 k:=by unfold mV;repeat' split<;>omega
     simp only[F];rw[c1];omega
  ·let F:Int->Int:=λk=>-S (mV b.2 a.2 k-a.2)
   rw[jA (g:=λj=>F ((j:Int)-K+1)-F ((j:Int)-K)) λj _=>?_,OC F K n]
   ·have e1:F ((n:Int)-K)=0:=by
     simp only[F];unfold mV;rw[if_neg (by omega),if_pos (by omega),Int.sub_self];simp[S]
    have e2:F (-K) = -S (b.2-a.2):=by
     simp only[F];unfold mV;rw[if_pos (by omega)]
    rw[e1,e2,fin];omega
   ·generalize (j:Int)-K=k;have hsg:sg a b=true:=by unfold sg;rw[ai hlt];rfl
    unfold ge;by_cases hc:cr a b k=true
    ·rw[if_pos hc,hsg];simp only[if_true];unfold cr at hc;simp only[Bool.or_eq_true,ac,ah] at hc;have hk:b.2<=k/\k<a.2:=by omega
     have c1:mV b.2 a.2 k=k:=by unfold mV;split;omega;split<;>omega
     have c2:mV b.2 a.2 (k+1)=k+1:=by unfold mV;split;omega;split<;>omega
     simp only[F];rw[c1,c2,hx,<-hS,show k+1-a.2=k-a.2+1 by omega];omega
    ·rw[if_neg hc];unfold cr at hc;simp only[Bool.or_eq_true,ac,ah] at hc;have c1:mV b.2 a.2 (k+1)=mV b.2 a.2 k:=by unfold mV;repeat' split<;>omega
     simp only[F];rw[c1];omega
def GQ (K:Int) (n:Nat) (p:List Pt):Prop:=∀ i,-K<=(pt p i).2/\(pt p i).2<=(n:Int)-K
def AZB (p:List Pt):iL p=eJ p.length λi=>((pt p i).1+(nx p i).1)*((nx p i).2-(pt p i).2):=by
 have h:=BE8 (λi=>(pt p i).1*(pt p i).2) p.length;have e:eJ p.length (λi=>((pt p i).1+(nx p i).1)*((nx p i).2-(pt p i).2))=eJ p.length (λi=>AMZ p i+(pt p ((i+1) % p.length)).1*(pt p ((i+1) % p.length)).2)+eJ p.length (λi=>(-1)*((pt p i).1*(pt p i).2)):=by
  rw[<-CH];refine jA λi _=>?_;show ((pt p i).1+(nx p i).1)*((nx p i).2-(pt p i).2)=(pt p i).1*(nx p i).2-(nx p i).1*(pt p i).2+(nx p i).1*(nx p i).2+(-1)*((pt p i).1*(pt p i).2)
  grind
 rw[e,CH,KG,h];unfold iL;omega
def Y1 {p:List Pt} (hM:YC M p) {K:Int} {n:Nat} (hh:GQ K n p):M*iL p=eJ n λj=>val (zT M p ((j:Int)-K)):=by
 rw[jA (g:=λj=>eJ p.length λi=>ge M (pt p i) (nx p i) ((j:Int)-K)) λj _=>BFH M p _,<-AA7,AZB,<-KG];exact (jA λi _=>AZV hM.1 (hM.2 i) (hh _) (hh _)).symm
def XV:List Bool->Bool
 | []=>false
 | a::l=>a ^^ XV l
def o1:List Int->Int
 | []=>0
 | a::l=>a+o1 l
def AM9 (f:List Pt->List (Int×Bool)):∀ cs:List (List Pt),val (cs.flatMap f)=o1 (cs.map λp=>val (f p))
 | []=>rfl
 | p::cs=>by rw[List.flatMap_cons,GD,AM9 f cs];rfl
def ALT (f:List Pt->List (Int×Bool)):∀ cs:List (List Pt),qP (cs.flatMap f).length=XV (cs.map λp=>qP (f p).length)
 | []=>rfl
 | p::cs=>by rw[List.flatMap_cons,List.length_append,VK,ALT f cs];rfl
def AIM (f:List Pt->List (Int×Bool)) (x:Int):∀ cs:List (List Pt),qP (uX (cs.flatMap f) x)=XV (cs.map λp=>qP (uX (f p) x))
 | []=>rfl
 | p::cs=>by rw[List.flatMap_cons,APU,VK,AIM f x cs];rfl
def zC:∀ {l:List Bool},(∀ a∈l,a=false)->XV l=false
 | [],_=>rfl
 | a::l,h=>by rw[XV,h a (by simp),zC λb hb=>h b (by simp[hb])];rfl
def qJ (p q:List Pt):Prop:=∀ i j,i<p.length->j<q.length->¬ RH (pt p i) (nx p i) (pt q j) (nx q j)
def qJ.symm {p q:List Pt} (h:qJ p q):qJ q p:=λi j hi hj hc=>h j i hj hi hc.symm
section
variable {M : Int} {p q : List Pt}
def FR (hA:qJ p q) (hM:YC M q) {i:Nat} (hi:i<q.length) {k:Int} (hc:cr (pt q i) (nx q i) k=true):jQ (scl (2*M) p) (ru M (pt q i) (nx q i) k)=jQ (scl (2*M) p) (sc (2*M) (pt q i)):=by
 have hN:0<2*M:=by have:=hM.1;omega
 refine U1 λj hj=>?_;rw[mK] at hj;rw[lT,nZ];exact BO (λh=>hA j i hj hi (APV hN h).symm) (M0 hM.1 (hM.2 i) hc).seg (zY.left _ _)
def BOB (hN:0<N) (a b q:Pt):hit (sc N a) (sc N b) (sc N q)=hit a b q:=by
 unfold hit;rw[AIO];have l:∀ {x y:Int},(N*x<N*y↔x<y):=λ{x y}=>⟨λh=>Int.lt_of_mul_lt_mul_left h (by omega),λh=>Int.mul_lt_mul_of_pos_left h hN⟩
 have m:∀ {x y:Int},(N*x<=N*y↔x<=y):=λ{x y}=>⟨λh=>Int.le_of_mul_le_mul_left h hN,λh=>Int.mul_le_mul_of_nonneg_left h (by omega)⟩
 have hNN:0<N*N:=Int.mul_pos hN hN;have c1:(0<N*N*aR a b q)↔0<aR a b q:=⟨λh=>uB h hNN,λh=>Int.mul_pos hNN h⟩
 have c2:(N*N*aR a b q<0)↔aR a b q<0:=by
  constructor
  ·intro h;have:=uB (a:=N*N) (b:=- aR a b q) (by rw[Int.mul_neg];omega) hNN;omega
  ·intro h;exact Int.mul_neg_of_pos_of_neg hNN h
 show (decide (N*a.2<=N*q.2)&&decide (N*q.2<N*b.2)&&_||decide (N*b.2<=N*q.2)&&decide (N*q.2<N*a.2)&&_)=_;rw[decide_eq_decide.2 m,decide_eq_decide.2 l,decide_eq_decide.2 m,decide_eq_decide.2 l,decide_eq_decide.2 c1,decide_eq_decide.2 c2]
def AD5 (hN:0<N) (p:List Pt) (q:Pt):jQ (scl N p) (sc N q)=jQ p q:=by
 unfold jQ;rw[mK];exact j0 λi _=>by rw[lT,nZ,BOB hN]
def yC (hA:qJ p q) (hp:∀ i,i<p.length->pt p i≠nx p i):∀ i,i<q.length->jQ p (pt q i)=jQ p (pt q 0)
 | 0,_=>rfl
 | i+1,hi=>by
  rw[<-yC hA hp i (by omega)];have e:pt q (i+1)=nx q i:=by unfold nx;rw[Nat.mod_eq_of_lt hi]
  rw[e];symm;refine U1 λj hj=>?_;exact BO (λh=>hA j i hj (by omega) h.symm) (zY.left _ _) (zY.right _ _)
def Y2 (S:jU p) (hM:YC M p) {K:Int} {n:Nat} (hh:GQ K n p):∃ κ:Bool,(∀ k i,i<p.length->cr (pt p i) (nx p i) k=true->(jQ (scl (2*M) p) (ru M (pt p i) (nx p i) k) ^^ sg (pt p i) (nx p i))=κ)/\(κ=false->0<=iL p)/\(κ=true->iL p<=0):=by
 obtain ⟨κ,hκ⟩:=AS1 S hM;have har:=Y1 hM hh;have pos:=hM.1;have key:∀ k e,e∈zT M p k->(qP (uX (zT M p k) e.1) ^^ e.2)=κ:=λk e he=>by
  obtain ⟨i,hi,hc,rfl⟩:=I9 he;dsimp only;rw[AUT hM];exact hκ k i hi hc
 refine ⟨κ,hκ,λh=>?_,λh=>?_⟩
 ·have:0<=M*iL p:=by
   rw[har];refine Q6 λj _=>(AEY (MY _ _ _) (FX S hM _) λe he=>?_).1;have:=key _ e he;rw[h] at this;exact zD this
  rcases Int.lt_or_le (iL p) 0 with h'|h'
  ·have:=Int.mul_neg_of_pos_of_neg pos h';omega
  ·exact h'
 ·have:0<=M * -iL p:=by
   rw[Int.mul_neg,har];have e:-(eJ n λj=>val (zT M p ((j:Int)-K)))=eJ n λj=>(-1)*val (zT M p ((j:Int)-K)):=by
    rw[KG];omega
   rw[e];refine Q6 λj _=>?_;have:=(BD6 (MY M p ((j:Int)-K)) (FX S hM _) λe he=>by rw[key _ e he,h]).1;omega
  rcases Int.lt_or_le 0 (iL p) with h'|h'
  ·have:=Int.mul_neg_of_pos_of_neg pos (show -iL p<0 by omega);omega
  ·exact h'
end
def AM5 (c:Int):∀ l:List Int,o1 (l.map λx=>c*x)=c*o1 l
 | []=>by simp[o1]
 | a::l=>by rw[List.map_cons,o1,o1,AM5 c l,Int.mul_add]
def AA6 {α:Type} (f:α->Nat->Int) (n:Nat):∀ l:List α,o1 (l.map λa=>eJ n (f a))=eJ n λj=>o1 (l.map λa=>f a j)
 | []=>(DX n).symm
 | a::l=>by
  rw[List.map_cons,o1,AA6 f n l,<-CH];rfl
def A8Q {cs:List (List Pt)} {K:Int} {n:Nat} (hM0:0<M) (hS:∀ p∈cs,jU p) (hM:∀ p∈cs,YC M p) (hh:∀ p∈cs,GQ K n p) (hap:cs.Pairwise qJ)
  (hpar:∀ p∈cs,∀ k i,i<p.length->cr (pt p i) (nx p i) k=true->XV (cs.map λq=>jQ (scl (2*M) q) (ru M (pt p i) (nx p i) k))=sg (pt p i) (nx p i)):0<=o1 (cs.map iL):=by
 have hN:0<2*M:=by omega
 have key:0<=M*o1 (cs.map iL):=by
  have e:M*o1 (cs.map iL)=eJ n λj=>val (cs.flatMap λp=>zT M p ((j:Int)-K)):=by
   rw[<-AM5,List.map_map,jA (g:=λj=>o1 (cs.map λp=>val (zT M p ((j:Int)-K)))) λj _=>AM9 _ _,<-AA6 (λp j=>val (zT M p ((j:Int)-K)))]
   congr 1
   exact List.map_congr_left λp hp=>Y1 (hM p hp) (hh p hp)
  rw[e];refine Q6 λj _=>?_;generalize (j:Int)-K=k;refine (AEY ?_ ?_ λe he=>?_).1
  ·rw[ALT];refine zC λa ha=>?_;obtain ⟨p,_,rfl⟩:=List.mem_map.1 ha;exact MY _ _ _
  ·rw[List.pairwise_flatMap];refine ⟨λp hp=>FX (hS p hp) (hM p hp) k,hap.imp_of_mem λ{p q} hp hq h x hx y hy=>?_⟩;obtain ⟨i,hi,c1,rfl⟩:=I9 hx;obtain ⟨j,hj,c2,rfl⟩:=I9 hy;have hs:=(M0 hM0 ((hM p hp).2 i) c1).seg;exact AAS hM0 ((hM p hp).2 i) ((hM q hq).2 j) c1 c2 (BO (λhc=>h i j hi hj (APV hN hc)) hs hs)
  ·obtain ⟨p,hp,hep⟩:=List.mem_flatMap.1 he;obtain ⟨i,hi,hc,rfl⟩:=I9 hep;rw[AIM];dsimp only;rw[<-hpar p hp k i hi hc]
   congr 1
   exact List.map_congr_left λq hq=>AUT (hM q hq)
 rcases Int.lt_or_le (o1 (cs.map iL)) 0 with h'|h'
 ·have:=Int.mul_neg_of_pos_of_neg hM0 h';omega
 ·exact h'
def BR3 {a b q:Pt} (h:hit a b q=true):q.1<max a.1 b.1:=by
 unfold hit at h;simp only[Bool.or_eq_true,ac,ah] at h;refine Classical.byContradiction λhc=>?_;have h1:0<=q.1-a.1:=by omega
 have h2:0<=q.1-b.1:=by omega
 rcases h with ⟨⟨x1,x2⟩,x3⟩|⟨⟨x1,x2⟩,x3⟩
 ·have y1:=Int.mul_nonneg h1 (show 0<=b.2-q.2 by omega);have y2:=Int.mul_nonneg h2 (show 0<=q.2-a.2 by omega);have e:aR a b q = -((q.1-a.1)*(b.2-q.2)+(q.1-b.1)*(q.2-a.2)):=by simp only[aR];grind
  omega
 ·have y1:=Int.mul_nonneg h1 (show 0<=q.2-b.2 by omega);have y2:=Int.mul_nonneg h2 (show 0<=a.2-q.2 by omega);have e:aR a b q=(q.1-a.1)*(q.2-b.2)+(q.1-b.1)*(a.2-q.2):=by simp only[aR];grind
  omega
def ANE {f:Nat->Bool}:∀ {n:Nat},jB n f=true->∃ i,i<n/\f i=true
 | 0,h=>by cases h
 | n+1,h=>by
  rw[jB] at h;cases hf:f n with
  | true=>exact ⟨n,by omega,hf⟩
  | false =>
   rw[hf,Bool.xor_false] at h;obtain ⟨i,hi,hx⟩:=ANE h;exact ⟨i,by omega,hx⟩
def BA5 {p:List Pt} {q:Pt} (hp:0<p.length) (h:jQ p q=true):∃ i,i<p.length/\q.1<(pt p i).1:=by
 obtain ⟨i,hi,hx⟩:=ANE h;have:=BR3 hx;by_cases hc:q.1<(pt p i).1
 ·exact ⟨i,hi,hc⟩
 ·exact ⟨(i+1) % p.length,Nat.mod_lt _ hp,by show q.1<(nx p i).1;omega⟩
def VA {p:List Pt}:∀ n:Nat,0<n->∃ m,m<n/\∀ i,i<n->(pt p i).1<=(pt p m).1
 | 0,h=>by omega
 | 1,_=>⟨0,by omega,λi hi=>by rw[show i=0 by omega];exact Int.le_refl _⟩
 | n+2,_=>by
  obtain ⟨m,hm,h⟩:=VA (p:=p) (n+1) (by omega);rcases Int.lt_or_le (pt p m).1 (pt p (n+1)).1 with hc|hc
  ·exact ⟨n+1,by omega,λi hi=>by
    rcases Nat.lt_or_ge i (n+1) with h'|h'
    ·have:=h i h';omega
    ·rw[show i=n+1 by omega];exact Int.le_refl _⟩
  ·exact ⟨m,by omega,λi hi=>by
    rcases Nat.lt_or_ge i (n+1) with h'|h'
    ·exact h i h'
    ·rw[show i=n+1 by omega];exact hc⟩
def A3F {o h:List Pt} (ho:0<o.length) (hh:0<h.length) (hin:∀ i,i<h.length->jQ o (pt h i)=true) (hA:qJ h o) (hne:∀ i,i<h.length->pt h i≠nx h i):∀ i,i<o.length->jQ h (pt o i)=false:=by
 obtain ⟨m,hm,hmax⟩:=VA (p:=o) o.length ho;have hlt:∀ i,i<h.length->(pt h i).1<(pt o m).1:=λi hi=>by
  obtain ⟨j,hj,hx⟩:=BA5 ho (hin i hi);have:=hmax j hj;omega
 have h0:jQ h (pt o m)=false:=by
  rw[Bool.eq_false_iff];intro hc;obtain ⟨i,hi,hx⟩:=BA5 hh hc;have:=hlt i hi;omega
 intro i hi;rw[yC hA hne i hi,<-yC hA hne m hm];exact h0
def AW0 {α:Type} {f:α->Bool}:∀ {l:List α} {i:Nat} (hi:i<l.length),(∀ j (hj:j<l.length),j≠i->f l[j]=false)->XV (l.map f)=f l[i]
 | [],i,hi,_=>by simp at hi
 | a::l,0,hi,h=>by
  rw[List.map_cons,XV,zC,Bool.xor_false];rfl;intro b hb;obtain ⟨c,hc,rfl⟩:=List.mem_map.1 hb;obtain ⟨j,hj,rfl⟩:=List.mem_iff_getElem.1 hc;exact h (j+1) (by simpa using hj) (by omega)
 | a::l,i+1,hi,h=>by
  have h0:f a=false:=h 0 (by simp) (by omega);rw[List.map_cons,XV,h0,Bool.false_xor];exact AW0 (by simpa using hi) λj hj hne=>h (j+1) (by simpa using hj) (by omega)
variable {hs:List (List Pt)}
def ATJ {o:List Pt} {K:Int} {n:Nat} (hM0:0<M) (hS:∀ p∈o::hs,jU p) (hM:∀ p∈o::hs,YC M p) (hh:∀ p∈o::hs,GQ K n p)
  (hao:0<iL o) (hah:∀ h∈hs,iL h<0) (hA:∀ h∈hs,qJ h o) (hin:∀ h∈hs,∀ i,i<h.length->jQ o (pt h i)=true)
  (hAA:∀ i j (hi:i<hs.length) (hj:j<hs.length),i≠j->qJ hs[i] hs[j]/\jQ hs[i] (pt hs[j] 0)=false):0<=o1 ((o::hs).map iL):=by
 have hN:0<2*M:=by omega
 have So:=hS o (by simp);have Mo:=hM o (by simp);refine A8Q hM0 hS hM hh ?_ ?_
 ·refine List.pairwise_cons.2 ⟨λh hm=>(hA h hm).symm,List.pairwise_iff_getElem.2 λi j hi hj hij=>(hAA i j hi hj (by omega)).1⟩
 ·intro p hp k i hi hc;rcases List.mem_cons.1 hp with rfl|hp'
  ·
   obtain ⟨κ,h1,h2,h3⟩:=Y2 So Mo (hh _ (by simp));have hκ:κ=false:=by
    cases κ with
    | false=>rfl
    | true=>have:=h3 rfl;omega
   have:=h1 k i hi hc;rw[hκ] at this;rw[List.map_cons,XV,zC (l:=List.map _ hs),Bool.xor_false]
   ·exact zD this
   ·intro b hb;obtain ⟨h,hm,rfl⟩:=List.mem_map.1 hb;have Sh:=hS h (by simp[hm]);have n3:=Sh.n3;have n3':=So.n3;rw[FR (hA h hm) Mo hi hc,AD5 hN];exact A3F (by omega) (by omega) (hin h hm) (hA h hm) Sh.ne i hi
  ·obtain ⟨m,hm,rfl⟩:=List.mem_iff_getElem.1 hp';have Sp:=hS _ hp;have Mp:=hM _ hp;obtain ⟨κ,h1,h2,h3⟩:=Y2 Sp Mp (hh _ hp);have hneg:=hah _ hp';have hκ:κ=true:=by
    cases κ with
    | true=>rfl
    | false=>have:=h2 rfl;omega
   have hown:=h1 k i hi hc;rw[hκ] at hown;rw[List.map_cons,XV,FR (hA _ hp').symm Mp hi hc,AD5 hN,hin _ hp' i hi,AW0 (f:=λq=>jQ (scl (2*M) q) (ru M (pt hs[m] i) (nx hs[m] i) k)) hm λj hj hne=>?_]
   ·revert hown;cases jQ (scl (2*M) hs[m]) (ru M (pt hs[m] i) (nx hs[m] i) k)<;>cases sg (pt hs[m] i) (nx hs[m] i)<;>simp
   ·obtain ⟨a1,a2⟩:=hAA j m hj hm hne;have Sj:=hS hs[j] (by simp);rw[FR a1 Mp hi hc,AD5 hN,yC a1 Sj.ne i hi,a2]
def A13:∃ (M K:Int) (n:Nat),0<M/\∀ p:List Pt,(∀ i,dQ (pt p i))->YC M p/\GQ K n p:=by
 obtain ⟨B,hB⟩:∃ B:Nat,B=65536:=⟨_,rfl⟩
 refine ⟨(fac B:Int),32768,65536,by have:=AC5 B;omega,λp hp=>⟨⟨by have:=AC5 B;omega,λi hne=>?_⟩,λi=>?_⟩⟩
 ·have h1:=hp i;have h2:dQ (nx p i):=hp _;unfold dQ at h1 h2;refine Int.ediv_mul_cancel ?_;have hd:((nx p i).2-(pt p i).2).natAbs ∣ fac B:=AUY (by omega) (by omega);exact Int.natAbs_dvd.1 (Int.natCast_dvd_natCast.2 hd)
 ·have h1:=hp i;unfold dQ at h1;omega
def BEZ {o:List Pt} (hS:∀ p∈o::hs,jU p) (hN:∀ p∈o::hs,∀ i,dQ (pt p i))
  (hao:0<iL o) (hah:∀ h∈hs,iL h<0) (hA:∀ h∈hs,qJ h o) (hin:∀ h∈hs,∀ i,i<h.length->jQ o (pt h i)=true)
  (hAA:∀ i j (hi:i<hs.length) (hj:j<hs.length),i≠j->qJ hs[i] hs[j]/\jQ hs[i] (pt hs[j] 0)=false):0<=o1 ((o::hs).map iL):=by
 obtain ⟨M,K,n,h0,h⟩:=A13;exact ATJ h0 hS (λp hp=>(h p (hN p hp)).1) (λp hp=>(h p (hN p hp)).2) hao hah hA hin hAA
end Go.Pv.Geo
namespace Go.Pv
open Go Go.Proofs Go.Pv.Geo IntKind
def qB {p:List Pt} (h:wU p=true) {i:Nat} (hi:i<p.length):pt p i≠nx p i/\¬ (aR (pt p i) (nx p i) (D3 p i)=0/\0<qX (pt p i) (nx p i) (D3 p i))/\∀ k,k<p.length->i+2<=k->MS p i k=true:=by
 have h:=lB.1 h i hi;unfold AEJ at h;simp only[ac,Bool.not_eq_true',decide_eq_false_iff_not] at h;obtain ⟨h1,h2,h3⟩:=h;refine ⟨h1,λ⟨a,b⟩=>?_,λk hk hik=>?_⟩
 ·rw[ai a,ai b] at h2;cases h2
 ·have:=lB.1 h3 k hk;rw[aj (by omega),Bool.false_or] at this;exact this
def AL2 {p:List Pt} {i k:Nat} (h:MS p i k=true) (hne:(k+1) % p.length≠i):dM (pt p i) (nx p i) (pt p k) (nx p k)=false:=by
 unfold MS at h;rw[aj hne] at h;simpa using h
def A3S {p:List Pt} (h:wU p=true) (h3:3<=p.length):jU p:=by
 refine ⟨h3,λi hi=>(qB h hi).1,λi hi=>(qB h hi).2.1,λi k hi hk h1 h2 h4 hc=>?_⟩;have hm:=O8 (qB h hi).1 (qB h hk).1 hc;rcases Nat.lt_or_ge i k with hl|hl
 ·have:i+2<=k:=by
   rcases Nat.lt_or_ge (i+1) k with h5|h5
   ·omega
   ·have e:k=i+1:=by omega
    rw[Nat.mod_eq_of_lt (by omega)] at h2;exact absurd e h2
  rw[AL2 ((qB h hi).2.2 k hk this) (λe=>h4 e.symm)] at hm;cases hm
 ·have:k+2<=i:=by
   rcases Nat.lt_or_ge (k+1) i with h5|h5
   ·omega
   ·rcases Nat.lt_or_ge k i with h6|h6
    ·have e:i=k+1:=by omega
     rw[Nat.mod_eq_of_lt (by omega)] at h4;exact absurd e h4
    ·omega
  rw[yH,AL2 ((qB h hk).2.2 i hi this) (λe=>h2 e.symm)] at hm;cases hm
def E9 {p q:List Pt} (h:nO p q=false) {i k:Nat} (hi:i<p.length) (hk:k<q.length):dM (pt p i) (nx p i) (pt q k) (nx q k)=false:=by
 rw[Bool.eq_false_iff];intro hm;rw[show nO p q=true from mU.2 ⟨i,hi,mU.2 ⟨k,hk,hm⟩⟩] at h;cases h
def SX {p q:List Pt} (hp:wU p=true) (hq:wU q=true) (h:nO p q=false):qJ p q:=λi j hi hj hc=>by
 have hm:=O8 (qB hp hi).1 (qB hq hj).1 hc;rw[E9 h hi hj] at hm;cases hm
def MT {h o:List Pt} (he:nO h o=false) {i:Nat} (hi:i<h.length):AAB o (pt h i)=false:=ACI λk hk=>by
 have:=E9 he hi hk;exact (sM this).2.2.1
def XT {o:List Pt} {q:Pt} (hq:dQ q) (ho:iS o=0) (hn:AAB o q=false):iI o q=if jQ o q=true then 1 else -1:=by
 unfold iI;rw[if_neg,hn,if_neg (by simp)];rintro (h|h)
 ·exact h hq
 ·exact h ho
def BE7 (l:List (List Pt)) (f:List Pt->Int):Geo.o1 (l.map f)=eJ l.length λi=>f (l.getD i []):=by
 induction l with
 | nil=>rfl
 | cons a l ih =>
  rw[List.map_cons,Geo.o1,ih,List.length_cons,F9];rfl
def wK {s:eM} {i:Nat} (hi:i<s.2.length) (h:BK s i=0):iS s.2[i]=0/\lX s.2[i]<0/\lO s.2[i] s.1=true/\∀ k (hk:k<i),oK s.2[i] (s.2[k]'(by omega))=true:=by
 have hg:s.2.getD i []=s.2[i]:=o9 hi;unfold BK at h;rw[hg] at h;by_cases h1:iS s.2[i]=0
 ·rw[if_neg (by simpa using h1)] at h;by_cases h2:0<=lX s.2[i]\/lO s.2[i] s.1=false
  ·rw[if_pos h2] at h;cases h
  rw[if_neg h2] at h;refine ⟨h1,?_,?_,λk hk=>?_⟩
  ·rcases Int.lt_or_le (lX s.2[i]) 0 with h3|h3
   ·exact h3
   ·exact absurd (.inl h3) h2
  ·cases h3:lO s.2[i] s.1 with
   | true=>rfl
   | false=>exact absurd (.inr h3) h2
  ·by_cases h3:((List.range i).all λk=>oK s.2[i] (s.2.getD k []))=false
   ·rw[if_pos h3] at h;cases h
   have h3:((List.range i).all λk=>oK s.2[i] (s.2.getD k []))=true:=by simpa using h3
   have:=lB.1 h3 k hk;rwa[o9 (by omega)] at this
 ·rw[if_pos (by simpa using h1)] at h;exact absurd h h1
def BJ6 {s:eM} (h:sQ s=0):s.2.length<=8/\iS s.1=0/\0<lX s.1/\∀ i,i<s.2.length->BK s i=0:=by
 unfold sQ at h;by_cases h1:8<s.2.length
 ·rw[if_pos h1] at h;cases h
 rw[if_neg h1] at h;by_cases h2:iS s.1=0
 ·rw[if_neg (by simpa using h2)] at h;by_cases h3:lX s.1<=0
  ·rw[if_pos h3] at h;cases h
  rw[if_neg h3] at h;exact ⟨by omega,h2,by omega,λi hi=>kM h i (List.mem_range.2 hi)⟩
 ·rw[if_pos (by simpa using h2)] at h;exact absurd h h2
def S0 {p:List Pt} (h:iS p=0):lX p=iL p:=by unfold lX;rw[if_pos h]
def BJ5 (s:eM):0<=D5 s:=by
 unfold D5;by_cases h:sQ s=0
 ·rw[if_pos h];obtain ⟨h8,ho,hao,hh⟩:=BJ6 h;have hp:∀ p∈s.1::s.2,iS p=0:=λp hp=>by
   rcases List.mem_cons.1 hp with rfl|hp
   ·exact ho
   ·obtain ⟨i,hi,rfl⟩:=List.mem_iff_getElem.1 hp;exact (wK hi (hh i hi)).1
  have e:BE6 (s.1::s.2)=Geo.o1 ((s.1::s.2).map iL):=by
   rw[BE7];unfold BE6;refine jA λi hi=>?_;rw[o9 hi];exact S0 (hp _ (ak hi))
  rw[e];have hsi:∀ p∈s.1::s.2,wU p=true:=λp hm=>(iT (hp p hm)).2.2.2.1;refine BEZ (λp hm=>A3S (hsi p hm) (iT (hp p hm)).1) (λp hm=>(iT (hp p hm)).2.2.1.pt) (by rw[<-S0 ho];exact hao) ?_ ?_ ?_ ?_
  ·intro c hm;obtain ⟨i,hi,rfl⟩:=List.mem_iff_getElem.1 hm;have:=wK hi (hh i hi);rw[<-S0 this.1];exact this.2.1
  ·intro c hm;obtain ⟨i,hi,rfl⟩:=List.mem_iff_getElem.1 hm;have hw:=(wK hi (hh i hi)).2.2.1;refine SX (hsi _ (by simp)) (hsi _ (by simp)) ?_;unfold lO at hw;simp only[ac,Bool.not_eq_true'] at hw;exact hw.1
  ·intro c hm j hj;obtain ⟨i,hi,rfl⟩:=List.mem_iff_getElem.1 hm;have hq:=wK hi (hh i hi);have hw:=hq.2.2.1;have hnear:=(iT hq.1).2.2.1;unfold lO at hw;simp only[ac,Bool.not_eq_true',List.all_eq_true] at hw;have h1:=of_decide_eq_true (hw.2 _ (ak hj));rw[<-VX hj,XT (hnear.pt j) ho (MT hw.1 hj)] at h1;refine Classical.byContradiction λhc=>?_;rw[if_neg hc] at h1;cases h1
  ·have key:∀ i j (hi:i<s.2.length) (hj:j<s.2.length),j<i->nO s.2[i] s.2[j]=false/\jQ s.2[i] (pt s.2[j] 0)=false/\jQ s.2[j] (pt s.2[i] 0)=false:=λi j hi hj hij=>by
    have hq:=wK hi (hh i hi);have hq':=wK hj (hh j hj);have ha:=hq.2.2.2 j hij;have hn:=(iT hq.1).2.2.1;have hn':=(iT hq'.1).2.2.1;have l1:=(iT hq.1).1;have l2:=(iT hq'.1).1;unfold oK at ha;simp only[ac,Bool.not_eq_true',ah] at ha;obtain ⟨e1,e2,e3⟩:=ha;have e1':nO s.2[j] s.2[i]=false:=by
     rw[Bool.eq_false_iff];intro hc;obtain ⟨a,ha,hb⟩:=mU.1 hc;obtain ⟨b,hb1,hb2⟩:=mU.1 hb;rw[yH,E9 e1 hb1 ha] at hb2;cases hb2
    rw[XT (hn'.pt 0) hq.1 (MT e1' (by omega))] at e2;rw[XT (hn.pt 0) hq'.1 (MT e1 (by omega))] at e3;refine ⟨e1,?_,?_⟩
    ·rw[Bool.eq_false_iff];intro hc;rw[if_pos hc] at e2;omega
    ·rw[Bool.eq_false_iff];intro hc;rw[if_pos hc] at e3;omega
   intro i j hi hj hij;rcases Nat.lt_or_ge i j with hl|hl
   ·obtain ⟨k1,k2,k3⟩:=key j i hj hi hl;exact ⟨(SX (hsi _ (by simp)) (hsi _ (by simp)) k1).symm,k3⟩
   ·obtain ⟨k1,k2,k3⟩:=key i j hi hj (by omega);exact ⟨SX (hsi _ (by simp)) (hsi _ (by simp)) k1,k2⟩
 ·rw[if_neg h];exact Int.le_refl 0
end Go.Pv
namespace Go.Pv
open Go Go.Proofs IntKind
end Go.Pv
namespace Go.Pv
open Go Go.Proofs IntKind
end Go.Pv
namespace Go.Pv
open Go Go.Proofs IntKind
end Go.Pv
namespace Go.Pv
open Go Go.Proofs IntKind
end Go.Pv
namespace Go.Pv
open Go Go.Proofs IntKind
def BBH {s:iII} (h:Z9 s=true):gG [pPQ s]=some (Sh.enc D4 (kH s)):=by
 rw[AU];unfold nE;rw[show decide (s.size<=1099511627776)=true from h]
end Go.Pv
namespace Go.Pv
open Go Go.Proofs IntKind
def QP {a b A B:Int} (h1:0<=a/\a<=A) (h2:0<=b/\b<=B):0<=a*b/\a*b<=A*B:=⟨Int.mul_nonneg h1.1 h2.1,Int.mul_le_mul h1.2 h2.2 h2.1 (Int.le_trans h1.1 h1.2)⟩
def AUW {x n B:Int} (hn:0<n) (h:0<=x/\x<=n*B):0<=x.tdiv n/\x.tdiv n<=B:=by
 rw[Int.tdiv_eq_ediv_of_nonneg h.1];exact ⟨Int.ediv_nonneg h.1 (Int.le_of_lt hn),Int.ediv_le_of_le_mul hn (by rw[Int.mul_comm];exact h.2)⟩
variable {m:aL}
def AEE {p:bG} (h:nD p m=0):0<=(tY p m).1/\(tY p m).1<=2199023255552:=by
 have w:tY p m=(tZ p m,0):=by unfold tY;rw[if_pos h]
 rw[w];show 0<=tZ p m/\tZ p m<=2199023255552;have e:tZ p m=tZ p m:=rfl;unfold nD at h;by_cases c1:kH p.1=false\/kH (fV p)=false
 ·rw[if_pos c1] at h;cases h
 rw[if_neg c1] at h;by_cases c2:¬ (1<=p.2.1/\p.2.1<=1000)
 ·rw[if_pos c2] at h;cases h
 rw[if_neg c2] at h;by_cases c3:¬ (cY p=1\/cY p=2\/cY p=3\/cY p=4)
 ·rw[if_pos c3] at h;cases h
 rw[if_neg c3] at h;by_cases c4:oC p=true
 ·rw[if_pos c4] at h;cases h
 rw[if_neg c4] at h;by_cases c5:gH p m=false
 ·rw[if_pos c5] at h;cases h
 rw[if_neg c5] at h;have c5:gH p m=true:=by cases hc:gH p m with
  | true=>rfl
  | false=>exact absurd hc c5
 by_cases c6:cY p=1/\¬ sQ (iW p)=0
 ·rw[if_pos c6] at h;exact absurd h c6.2
 rw[if_neg c6] at h;by_cases c7:(cY p=2\/cY p=3)/\¬ (1<=D0 p/\D0 p<=32768)
 ·rw[if_pos c7] at h;cases h
 rw[if_neg c7] at h;by_cases c8:cY p=4/\¬ (1<=zE p/\zE p<=1099511627776/\zN (GU p)=true)
 ·rw[if_pos c8] at h;cases h
 clear h w;have k:cY p=1\/cY p=2\/cY p=3\/cY p=4:=Classical.not_not.1 c3;clear c1 c2 c3 c4;by_cases k4:cY p=4
 ·have hb:=Classical.not_and_iff_not_or_not.1 c8;have hm:1<=zE p/\zE p<=1099511627776/\zN (GU p)=true:=hb.elim (λh=>absurd k4 h) Classical.not_not.1;unfold tZ;rw[if_neg (by omega),if_neg (by omega)];omega
 unfold gH at c5;rw[if_neg k4] at c5;cases hg:gM m (gU p) with
 | none=>rw[hg] at c5;cases c5
 | some g =>
  rw[hg] at c5;dsimp only at c5;simp only[ac,ah] at c5;obtain ⟨⟨d1,d2⟩,c5⟩:=c5;have eg:UZ m (gU p)=g:=by unfold UZ;rw[hg];rfl
  by_cases k1:cY p=1
  ·rw[if_pos k1] at c5;simp only[ac,ah] at c5;have t:=QP (A:=618475290624) (B:=120) ⟨BJ5 (iW p),(BJ4 (iW p)).2⟩ (show 0<=kL p/\kL p<=120 by omega);have t2:=QP (B:=20000) t (show 0<=g.2.1/\g.2.1<=20000 by omega);unfold tZ;rw[if_pos k1,eg,aZ (D5 (iW p)*kL p) (by omega) (by omega),aZ (D5 (iW p)*kL p*g.2.1) (by omega) (by omega)];have v:=AUW (x:=D5 (iW p)*kL p*g.2.1) (n:=2000000) (B:=742170348749) (by omega) (by omega);rw[aZ _ (by omega) (by omega)];omega
  ·rw[if_neg k1] at c5;unfold AMY at c5;cases hs:PF m (YD p) with
   | none=>rw[hs] at c5;cases c5
   | some s =>
    rw[hs] at c5;dsimp only at c5;simp only[ac,ah] at c5;have es:BKA m (YD p)=s:=by unfold BKA;rw[hs];rfl
    have k23:cY p=2\/cY p=3:=by omega
    have hl:1<=D0 p/\D0 p<=32768:=Classical.byContradiction λhc=>c7 ⟨k23,hc⟩;have t:=QP (A:=1000000) (B:=32768) (show 0<=s.2.1/\s.2.1<=1000000 by omega) (show 0<=D0 p/\D0 p<=32768 by omega);have t2:=QP (B:=20000) t (show 0<=g.2.1/\g.2.1<=20000 by omega);unfold tZ;rw[if_neg k1,if_pos k23,eg,es,aZ (s.2.1*D0 p) (by omega) (by omega),aZ (s.2.1*D0 p*g.2.1) (by omega) (by omega)];have v:=AUW (x:=s.2.1*D0 p*g.2.1) (n:=1000000) (B:=655360000) (by omega) (by omega);rw[aZ _ (by omega) (by omega)];omega
end Go.Pv
namespace Go.Pv
open Go Go.Proofs IntKind
def EO (t:List Bool) (v:Nat) (e:aN):Bool:=decide (e.2=(v:Int)) && !t.getD e.1.toNat false
def PJ (l:List aN) (t:List Bool) (v:Nat):Bool:=l.any (EO t v)
def r6 (l:List aN) (t:List Bool) (k:Nat):Bool:=!t.getD k false && !PJ l t k
def sP (l:List aN) (n:Nat):Nat->List Int->List Bool->List Int×Int
 | 0,o,_=>(o,0)
 | f+1,o,t=>match (List.range n).find? (r6 l t) with
  | none=>([],20)
  | some v=>sP l n f (o++[(v:Int)]) (t.set v true)
variable {α:Type}{l:List α}
def H8 {i:Nat} {x d:α} (h:i<l.length) (k:Nat):(l.set i x).getD k d=if k=i then x else l.getD k d:=by
 rw[List.getD_eq_getElem?_getD,List.getD_eq_getElem?_getD,List.getElem?_set];by_cases e:i=k
 ·subst e;rw[if_pos rfl,if_pos h,if_pos rfl];rfl
 ·rw[if_neg e,if_neg (λh=>e h.symm)]
def AJC (v:Nat):∀ (l:List aN) (b:List Int),(∀ e∈l,0<=e.2/\e.2.toNat<b.length)->(∀ v,0<=b.getD v 0/\b.getD v 0+l.length<=1000000000000000)->(l.foldl TF b).getD v 0=b.getD v 0+(l.countP λe=>decide (e.2=(v:Int)):Nat)
 | [],b,_,_=>by simp
 | e::l,b,h1,h2=>by
  obtain ⟨e0,e1⟩:=h1 e (by simp);have hb:=h2 e.2.toNat;have hv:=h2 v;simp only[List.length_cons] at hb hv;have hw:i64.wrap (b.getD e.2.toNat 0+1)=b.getD e.2.toNat 0+1:=aZ _ (by omega) (by omega);have hg:∀ w,(TF b e).getD w 0=if w=e.2.toNat then b.getD w 0+1 else b.getD w 0:=λw=>by
   unfold TF;rw[H8 e1,hw];by_cases hc:w=e.2.toNat
   ·rw[if_pos hc,if_pos hc,hc]
   ·rw[if_neg hc,if_neg hc]
  rw[List.foldl_cons,AJC v l (TF b e) (λx hx=>by rw[AIL];exact h1 x (by simp[hx])) (λw=>by
   have:=h2 w;simp only[List.length_cons] at this;rw[hg];split<;>omega),hg,List.countP_cons]
  by_cases hc:v=e.2.toNat
  ·rw[if_pos hc,ai (show e.2=(v:Int) by omega)];simp;omega
  ·rw[if_neg hc,aj (show ¬ e.2=(v:Int) by omega)];simp
def AJD (v w:Nat):∀ (l:List aN) (b:List Int),(∀ e∈l,0<=e.2/\e.2.toNat<b.length)->(∀ v,b.getD v 0<=1000000000000000∧-1000000000000000<=b.getD v 0-l.length)->(l.foldl (TG v) b).getD w 0=b.getD w 0-(l.countP λe=>decide (e.1=(v:Int))&&decide (e.2=(w:Int)):Nat)
 | [],b,_,_=>by simp
 | e::l,b,h1,h2=>by
  obtain ⟨e0,e1⟩:=h1 e (by simp);have hb:=h2 e.2.toNat;have hv:=h2 w;simp only[List.length_cons] at hb hv;have hw:i64.wrap (b.getD e.2.toNat 0-1)=b.getD e.2.toNat 0-1:=aZ _ (by omega) (by omega);have hg:∀ w,(TG v b e).getD w 0=if e.1=(v:Int)/\w=e.2.toNat then b.getD w 0-1 else b.getD w 0:=λw=>by
   unfold TG;by_cases hc:e.1=(v:Int)
   ·rw[if_pos hc,H8 e1,hw];by_cases hd:w=e.2.toNat
    ·rw[if_pos hd,if_pos ⟨hc,hd⟩,hd]
    ·rw[if_neg hd,if_neg (λh=>hd h.2)]
   ·rw[if_neg hc,if_neg (λh=>hc h.1)]
  rw[List.foldl_cons,AJD v w l (TG v b e) (λx hx=>by rw[AIP];exact h1 x (by simp[hx])) (λw=>by
   have:=h2 w;simp only[List.length_cons] at this;rw[hg];split<;>omega),hg,List.countP_cons]
  by_cases hc:e.1=(v:Int)
  ·by_cases hd:w=e.2.toNat
   ·rw[if_pos ⟨hc,hd⟩,ai hc,ai (show e.2=(w:Int) by omega)];simp;omega
   ·rw[if_neg (λh=>hd h.2),ai hc,aj (show ¬ e.2=(w:Int) by omega)];simp
  ·rw[if_neg (λh=>hc h.1),aj hc];simp
def AC0 (l:List aN) (t:List Bool) (v:Nat):Nat:=l.countP (EO t v)
def AZO (l:List aN) (t:List Bool) (v:Nat):decide ((AC0 l t v:Int)<=0) = !PJ l t v:=by
 unfold AC0 PJ;cases h:l.any (EO t v) with
 | true =>
  have:0<l.countP (EO t v):=List.countP_pos_iff.2 (List.any_eq_true.1 h);rw[aj (by omega)];rfl
 | false =>
  have:l.countP (EO t v)=0:=List.countP_eq_zero.2 λa ha=>by
   rw[Bool.eq_false_iff] at h;intro h2;exact h (List.any_eq_true.2 ⟨a,ha,h2⟩)
  rw[this];rfl
def G2 {α:Type} (p q r:α->Bool):∀ l:List α,(∀ a∈l,p a=(q a||r a)/\(q a&&r a)=false)->l.countP p=l.countP q+l.countP r
 | [],_=>rfl
 | a::l,h=>by
  obtain ⟨h1,h2⟩:=h a (by simp);rw[List.countP_cons,List.countP_cons,List.countP_cons,G2 p q r l λb hb=>h b (by simp[hb]),h1];revert h2;cases q a<;>cases r a<;>simp<;>omega
def AZN {l:List aN} {t:List Bool} {v:Nat} (hl:∀ e∈l,0<=e.1/\e.1.toNat<t.length) (hv:t.getD v false=false) (hvl:v<t.length) (w:Nat):AC0 l t w=AC0 l (t.set v true) w+l.countP λe=>decide (e.1=(v:Int))&&decide (e.2=(w:Int)):=by
 unfold AC0;refine G2 _ _ _ _ λe he=>?_;obtain ⟨e0,e1⟩:=hl e he;unfold EO;rw[H8 hvl];by_cases hc:e.1=(v:Int)
 ·have:e.1.toNat=v:=by omega
  rw[if_pos this,this,hv,ai hc];cases decide (e.2=(w:Int))<;>simp
 ·have:¬ e.1.toNat=v:=by omega
  rw[if_neg this,aj hc];simp
def BIE {l:List aN} {b:List Int} {t:List Bool} {k:Nat} (h:b.getD k 0=(AC0 l t k:Int)):EE b t k=r6 l t k:=by
 unfold EE r6;rw[h,AZO]
def find_congr {α:Type} {p q:α->Bool}:∀ {l:List α},(∀ a∈l,p a=q a)->l.find? p=l.find? q
 | [],_=>rfl
 | a::l,h=>by rw[List.find?_cons,List.find?_cons,h a (by simp),find_congr λb hb=>h b (by simp[hb])]
def VT {l:List aN} {n:Nat} (hll:l.length<=140737488355328) (hl:∀ e∈l,0<=e.1/\e.1.toNat<n/\0<=e.2/\e.2.toNat<n):∀ (f:Nat) (b:List Int) (o:List Int) (t:List Bool),b.length=n->t.length=n->(∀ k,k<n->b.getD k 0=(AC0 l t k:Int))->yI l n f b o t=sP l n f o t
 | 0,b,o,t,_,_,_=>rfl
 | f+1,b,o,t,hb,ht,h=>by
  rw[yI,sP,find_congr (q:=r6 l t) λk hk=>BIE (h k (List.mem_range.1 hk))];cases hf:(List.range n).find? (r6 l t) with
  | none=>rfl
  | some v =>
   have hv:v<n:=List.mem_range.1 (List.mem_of_find?_eq_some hf);have hfree:=List.find?_some hf;unfold r6 at hfree;rw[ac,Bool.not_eq_true'] at hfree;refine VT hll hl f _ _ _ (by rw[UA (AIP v)];exact hb) (by rw[List.length_set];exact ht) λk hk=>?_;have hcw:∀ w,AC0 l t w<=l.length:=λw=>List.countP_le_length;have hgd:∀ w,b.getD w 0<=140737488355328/\0<=b.getD w 0:=λw=>by
    rcases Nat.lt_or_ge w n with hw|hw
    ·rw[h w hw];have:=hcw w;omega
    ·rw[List.getD_eq_getElem?_getD,List.getElem?_eq_none (by omega)];simp
   rw[AJD v k l b (λe he=>by obtain ⟨_,_,x,y⟩:=hl e he;exact ⟨x,by omega⟩) (λw=>by have:=hgd w;omega),h k hk,AZN (v:=v) (λe he=>by obtain ⟨x,y,_⟩:=hl e he;exact ⟨x,by omega⟩) hfree.1 (by omega) k];omega
def VU {n:Int} {l:List aN} (hll:l.length<=140737488355328) (hn:0<=n) (hn2:n<=256) (h0:bT (pN n) l=0):eR n l=sP l n.toNat n.toNat [] (List.replicate n.toNat false):=by
 have hend:∀ e∈l,0<=e.1/\e.1<n/\0<=e.2/\e.2<n:=λe he=>by
  have:=r5 h0 e he;unfold pN at this;split at this
  ·exact absurd this (by decide)
  ·omega
 rw[eR,if_neg (by omega),if_pos h0];refine VT hll (λe he=>by have:=hend e he;omega) _ _ _ _ (by rw[UA AIL];simp) (by simp) λk hk=>?_;rw[AJC k l _ (λe he=>by have:=hend e he;rw[List.length_replicate];omega) (λw=>by
  have:(List.replicate n.toNat (0:Int)).getD w 0=0:=by
   rw[List.getD_eq_getElem?_getD,List.getElem?_replicate];split<;>rfl
  rw[this];omega)]
 have:(List.replicate n.toNat (0:Int)).getD k 0=0:=by
  rw[List.getD_eq_getElem?_getD,List.getElem?_replicate];split<;>rfl
 rw[this,Int.zero_add];unfold AC0
 congr 1
 refine List.countP_congr λe he=>?_;unfold EO;have:(List.replicate n.toNat false).getD e.1.toNat false=false:=by
  rw[List.getD_eq_getElem?_getD,List.getElem?_replicate];split<;>rfl
 rw[this];simp
end Go.Pv
namespace Go.Pv
open Go Go.Proofs IntKind
def XD (d:aG):Bool:=decide (d.2.1.length<=1000000)&&decide (d.2.2.1.length<=1000000)
def AL8 (d:aG) (t:T):Option T:=match KK d&&PD d&&XD d with
 | true=>some t
 | false=>none
def BDE {d:aG} {t r:T} (h:AL8 d t=some r):KK d=true/\PD d=true/\(d.2.1.length<=1000000/\d.2.2.1.length<=1000000)/\r=t:=by
 unfold AL8 at h;split at h
 ·rename_i hc;simp only[XD,ac,ah] at hc;cases h;exact ⟨hc.1.1,hc.1.2,hc.2,rfl⟩
 ·cases h
def BDF {d:aG} (t:T) (h1:KK d=true) (h2:PD d=true) (h3:XD d=true):AL8 d t=some t:=by unfold AL8;rw[h1,h2,h3];rfl
def A3U {d:aG} {n:Int} (h:QJ d n=true) (hn:n<=1000000):XD d=true:=by
 simp only[QJ,ac,ah] at h;simp only[XD,ac,ah];omega
def U7 (l:List iII):iII:=l.getLastD ⟨#[]⟩
def AA8 (d:aG) (id:iII):iII×Bool:=if (up d id).2=true then (U7 (up d id).1,true) else (⟨#[]⟩,false)
def iM (d:aG) (id:iII):iII×Bool:=match cG d id with
 | some _=>AA8 d id
 | none=>match partOf d id with
  | some p=>AA8 d (AVQ p)
  | none=>match eX d id with
   | some k=>(match cG d k.2.1 with
    | some n=>if n.2.1=1 then (k.2.1,true) else (⟨#[]⟩,false)
    | none=>(⟨#[]⟩,false))
   | none=>(⟨#[]⟩,false)
variable {α:Type}
def xS (no x:α):found no (some x)=(x,true):=rfl
def xR (no:α):found no none=(no,false):=rfl
abbrev AEW:Sh:=[(false,.str),(false,.bool)]
def BE1 (x:aG×iII):Option T:=AL8 x.1 (Sh.enc AEW (iM x.1 x.2))
abbrev yN:=BE1
def BSZ {d:aG} {id:iII} (h:(up d id).2=true):(up d id).1≠[]:=by
 have key:∀ n id l,(upF d n id l).2=true->(upF d n id l).1≠[]:=by
  intro n
  induction n with
  | zero=>intro id l h;simp[upF] at h
  | succ n ih =>
   intro id l h;simp only[upF] at h ⊢;cases hn:cG d id with
   | none=>simp[hn] at h
   | some x =>
    simp only[hn] at h ⊢;by_cases hx:x.2.1=1
    ·simp[hx]
    ·simp only[hx,if_false] at h ⊢;exact ih _ _ h
 exact key _ _ _ h
def BBK {l:List iII} (hl:l.length<=65) (h0:l≠[]) (K:iII->Prop):aU Sy.str (List.map Sy.str.enc l) (i64.wrap (((List.map Sy.str.enc l).length:Int)-1)) K=K (U7 l):=by
 have hpos:0<l.length:=List.length_pos_iff.2 h0;have e:i64.wrap (((List.map Sy.str.enc l).length:Int)-1)=((l.length-1:Nat):Int):=by
  rw[ae,aZ _ (by omega) (by omega)];omega
 rw[e,bA (r:=.str) (by omega)];have:U7 l=l[l.length-1]'(by omega):=by
  unfold U7;rw[List.getLastD_eq_getLast?,List.getLast?_eq_getElem?,List.getElem?_eq_getElem (by omega)];rfl
 rw[<-this]
noncomputable def AXM:Env:=Env.of [(57,.pure fQ),(11,.pure jL),(67,.pure pP),(59,.pure UY)]
def AG1:bB Tryz.prog AXM:=.cons rI (.cons CV (.cons ZB (.cons A9K (.nil _))))
def BV2:List T:=[pPQ ({data:=#[]}),pPR false]
def BV8:Sh:=[(false,Sy.str.li),(false,Sy.bool)]
def BW7(y2:List iII×Bool)(R:T->Prop):Prop:=aE (!y2.2) (R (T.cB BV2)) (aU Sy.str (List.map Sy.str.enc y2.1) (i64.wrap ((↑(List.map Sy.str.enc y2.1).length:Int)-1)) λ(y3:iII)=>R (T.cB [pPQ y3,pPR true]))
def BYB(a0:aG)(a1:iII):List T:=[aH true aF a0,pPQ a1]
def KM(a0:aG)(a1:iII)(R:T->Prop):Prop:=aJ BV4 (fQ (BYB a0 a1)) λ(y0:eH×Bool)=>aE (!y0.2) (aJ BV1 (jL (BYB a0 a1)) λ(y1:bG×Bool)=>aE y1.2 (aJ BV8 (UY [aH true aF a0,pPQ y1.1.2.2.2.1]) λ(y2:List iII×Bool)=>BW7 y2 R) (aJ BV6 (pP (BYB a0 a1)) λ(y4:bE×Bool)=>aE y4.2 (aJ BV4 (fQ [aH true aF a0,pPQ y4.1.2.1]) λ(y5:eH×Bool)=>aE (!y5.2) (R (T.cB BV2)) (aE (!decide (y5.1.2.1=1)) (R (T.cB BV2)) (R (T.cB [pPQ y4.1.2.1,pPR true])))) (R (T.cB BV2)))) (aJ BV8 (UY (BYB a0 a1)) λ(y6:List iII×Bool)=>BW7 y6 R)
abbrev M4:Sh:=[(true,aF),(false,Sy.str)]
noncomputable def mY:List T->Option T:=gS M4 yN
def ADD {a0 a1}:mY [aH true aF a0,pPQ a1]=yN (a0,a1):=a8 (s:=M4) rfl (a0,a1) rfl
def AR4:nJ Tryz.prog 131 mY yN (bR M4) KM:=eV (a1:=(true,aF)) (a2:=(false,Sy.str)) (Hs:=c0) (k:=8) AG1 aV aY (aQ rfl) ⟨_,_,Tryz.func131,rfl⟩ rfl λ_ _ _=>by kernel_rfl
def AP1:aT Tryz.prog 131 mY:=AR4 λd id r h hb=>by
 obtain ⟨hok,hok2,_,rfl⟩:=BDE h;clear h;have top:∀ at0,iM d id=AA8 d at0->aE (!(up d at0).2) (T.cB [pPQ ({ data:=#[] }),pPR false]=Sh.enc AEW (iM d id)) (aU Sy.str (List.map Sy.str.enc (up d at0).1) (i64.wrap (((List.map Sy.str.enc (up d at0).1).length:Int)-1)) λ(y3:iII)=>T.cB [pPQ y3,pPR true]=Sh.enc AEW (iM d id)):=by
  intro at0 he;rw[he];unfold AA8;refine fX (λh=>?_) (λh=>?_)
  ·rw[h];rfl
  ·rw[BBK (AGN d at0) (BSZ h),if_pos h];rfl
 unfold KM BYB BW7 BV8 BV6 BV4 BV2 BV1;simp only[pO,lM,kE,uT,A7,nG,uH,EL,AD1,AAY,AAP];cases hn:cG d id with
 | some x=>simp only[xS,xR,Bool.not_true,hU];exact top id (by simp[iM,hn])
 | none =>
  simp only[xS,xR,Bool.not_false,fL];cases hp:partOf d id with
  | some p=>simp only[xS,fL];exact top (AVQ p) (by simp[iM,hn,hp])
  | none =>
   simp only[xR,hU];refine aM (s:=[(true,aK),(false,.bool)]) (y:=found noPack (eX d id)) OY ?_;cases hk:eX d id with
   | none=>simp only[xS,xR,hU];simp[iM,hn,hp,hk,Sh.enc,Sh.lD,aH,Sy.enc,hdT]
   | some k =>
    simp only[xS,xR,fL];rcases Option.eq_none_or_eq_some (cG d k.2.1) with hm|⟨m,hm⟩
    ·simp only[hm,xS,xR,Bool.not_false,fL];simp[iM,hn,hp,hk,hm,Sh.enc,Sh.lD,aH,Sy.enc,hdT]
    ·simp only[hm,xS,xR,Bool.not_true,hU];by_cases hx:m.2.1=1
     ·refine L9 hx ?_;simp[iM,hn,hp,hk,hm,hx,Sh.enc,Sh.lD,aH,Sy.enc,hdT]
     ·refine U4 hx ?_;simp[iM,hn,hp,hk,hm,hx,Sh.enc,Sh.lD,aH,Sy.enc,hdT]
end Go.Pv
namespace Go.Pv
open Go Go.Proofs IntKind
noncomputable def AXU:Env:=Env.of [(58,.pure gG),(57,.pure fQ),(59,.pure UY),(60,.pure vY)]
def AY0:FuncId->Hint:=bP 22 [(2,.inv [.val 3 false (.int .i64)]),(15,.inv [.val 7 false (.int .i64)]),(21,.inv [.val 10 false (.int .i64)])] (λ_=>bH)
def AHA:bB Tryz.prog AXU:=.cons CT (.cons rI (.cons A9K (.cons AQI (.nil _))))
def BVZ:T:=pPP 8
def BWA:T:=pPP 10
def BWC:T:=pPP 6
def BWD:T:=pPP 2
def BXR(y2:eH)(R:T->Prop)(y3:eH×Bool)(X0:Int×PUnit->Prop)(s1:Int×PUnit):Prop:=aE (decide (y2.2.1=1)) (aE (!decide (y2.2.2 = {data:=#[]})) (R BWD) (aE (decide (y2.2.1=2)) (aE (!y3.2) (R BVZ) (BWG X0 s1)) (BWG X0 s1))) (aE (decide (y2.2.1=2)) (aE (!y3.2) (R BVZ) (BWG X0 s1)) (BWG X0 s1))
def KV(a0:aG)(R:T->Prop):Prop:=a7 (Int×PUnit) (λX0 s1=>aE (decide (s1.1<(↑(BWQ a0).length:Int))) (aU bC (BWQ a0) s1.1 λ(y2:eH)=>aJ BV4 (fQ [aH true aF a0,pPQ y2.2.2]) λ(y3:eH×Bool)=>aJ BVX (gG [pPQ y2.1]) λ(y4:Bool)=>aE (!y4) (R BWC) (aE (!decide (y2.2.1=1)) (aE (!decide (y2.2.1=2)) (R BWA) (BXR y2 R y3 X0 s1)) (BXR y2 R y3 X0 s1))) (a7 (Int×PUnit) (λX5 s6=>aE (decide (s6.1<(↑(BWQ a0).length:Int))) (aU bC (BWQ a0) s6.1 λ(y7:eH)=>aJ BV8 (UY [aH true aF a0,pPQ y7.1]) λ(y8:List iII×Bool)=>aE (!y8.2) (R (pPP 20)) (BWG X5 s6)) (a7 (Int×PUnit) (λX9 s10=>aE (decide (s10.1<(↑(BWQ a0).length:Int))) (aU bC (BWQ a0) s10.1 λ(y11:eH)=>aJ [(false,Sy.str.li)] (vY [aH true aF a0,pPQ y11.1]) λ(y12:List iII)=>aE (decide (8<(↑(List.map Sy.str.enc y12).length:Int))) (R (pPP 13)) (BWG X9 s10)) (R BV3)) (0,()))) (0,()))) (0,())
abbrev NG:Sh:=[(true,aF)]
def yT (d:aG):Option T:=JG d (T.v (Value.int .i64 (fD d)))
noncomputable def vU:List T->Option T:=gS NG yT
def ADM {a0}:vU [aH true aF a0]=yT (a0):=a8 (s:=NG) rfl (a0) rfl
def ASF:lW Tryz.prog 22 vU yT (bR NG) KV:=eN (a1:=(true,aF)) (Hs:=AY0) (k:=8) AHA aV aY (aQ rfl) ⟨_,_,Tryz.func22,rfl⟩ rfl λ_ _=>by kernel_rfl
def PC {d:aG} {id:iII} {K:eH×Bool->Prop} (h:K (found dI (cG d id))):aJ [(true,bC),(false,Sy.bool)] (fQ [aH true aF d,pPQ id]) K:=aM (s:=[(true,bC),(false,.bool)]) (pO ..) h
variable {K:Bool->Prop}
def pT {s:iII} (h:Z9 s=true) (hk:K (kH s)):aJ [(false,Sy.bool)] (gG [pPQ s]) K:=aM (s:=D4) (BBH h) hk
def AQE:aT Tryz.prog 22 vU:=ASF λd r h hb=>by
 obtain ⟨hu,rfl⟩:=JH h;have u:=C6 hu;have un:=u.n;clear h hb;have is:∀ {n:Int},fD d=n->pPP n=pPP (fD d):=λh=>by rw[h]
 unfold KV BXR BWQ BWG BWD BWC BWA BV8 BV4 BV3 BVZ BVX;refine gX (r:=bC) (mA d) (by omega) (λX s y hy hok hbad=>?_) λh0=>?_
 ·have bad:∀ {n:Int},n≠0->mA d y=n->pPP n=pPP (fD d):=λhn h=>is (by
   have:=hbad (by rw[h];exact hn);unfold fD;rw[if_neg (by rw[this,h];exact hn),this,h])
  refine PC (pT (u.nI y hy) ?_);refine eQ (λhid=>bad (by decide) (by unfold mA;rw[if_pos hid])) λhid=>?_;have fi:(found dI (cG d y.2.2)).2=(cG d y.2.2).isSome:=by cases cG d y.2.2<;>rfl
  rw[fi];clear fi hbad
  repeat' first
   | refine kD (λh=>?_) (λh=>?_)
   | refine b8 (λh=>?_) (λh=>?_)
   | refine eQ (λh=>?_) (λh=>?_)
  all_goals first
   | (exfalso;omega)
   | (refine bad (by decide) ?_;clear bad hok;unfold mA;simp_all[Option.isSome_iff_ne_none];done)
   | (refine hok ?_;clear bad hok;unfold mA;simp_all[Option.isSome_iff_ne_none];done)
 ·have wn:fD d=if PV d=true then 20 else if TH d=true then 13 else 0:=by unfold fD;rw[if_pos h0]
  clear h0;refine gX (r:=bC) (λn=>if (up d n.1).2=true then 0 else 20) (by omega) (λX s y hy hok hbad=>?_) λh1=>?_
  ·refine aM (s:=[(false,.li .str),(false,.bool)]) (y:=up d y.1) (AD1 ..) ?_;refine eQ (λh=>is ?_) λh=>hok (by rw[if_pos h]);rw[wn,if_pos];unfold PV;exact List.any_eq_true.2 ⟨y,hy,by rw[h];rfl⟩
  have w2:fD d=if TH d=true then 13 else 0:=by
   rw[wn,if_neg];unfold PV;intro h;obtain ⟨y,hy,h⟩:=List.any_eq_true.1 h;have this:(if (up d y.1).2=true then (0:Int) else 20)=0:=r5 h1 y hy;rw[if_neg (by intro hc;rw[hc] at h;cases h)] at this;cases this
  clear wn h1;have pa:∀ y∈d.2.1,EK d y.1=(up d y.1).1.reverse:=λy hy=>by
   have hs:cG d y.1≠none:=λh=>by
    have:=List.find?_eq_none.1 h y hy;simp at this
   unfold EK;cases hn:cG d y.1 with
   | none=>exact absurd hn hs
   | some _=>rfl
  refine gX (r:=bC) (λn=>if 8<(up d n.1).1.length then 13 else 0) (by omega) (λX s y hy hok hbad=>?_) λh1=>is ?_
  ·refine aM (s:=[(false,.li .str)]) (y:=EK d y.1) ((ADP ..).trans (show AAC d _=_ by unfold AAC;rw[u.KK])) ?_;rw[pa y hy];refine b8 (λh=>is ?_) λh=>hok (by rw[ae,List.length_reverse] at h;rw[if_neg (by omega)]);rw[ae,List.length_reverse] at h;rw[w2,if_pos];unfold TH;exact List.any_eq_true.2 ⟨y,hy,by rw[ah];omega⟩
  rw[w2,if_neg];unfold TH;intro h;obtain ⟨y,hy,h⟩:=List.any_eq_true.1 h;rw[ah] at h;have this:(if 8<(up d y.1).1.length then (13:Int) else 0)=0:=r5 h1 y hy;rw[if_pos h] at this;cases this
def BLU (x:aG×aL):Option T:=match okM x.2 with
 | true=>JG x.1 (T.v (Value.int .i64 (j8 x.1 x.2)))
 | false=>none
def OR {r:Sy} {l:List r.den} (f:r.den->Int) (hl:l.length<=140737488355328) {Body:(Int×PUnit->Prop)->Int×PUnit->Prop} {Exit:Prop}
  (hbody:∀ (X:Int×PUnit->Prop) (k:Nat) (h:k<l.length),(f l[k]=0->X (i64.wrap ((k:Int)+1),()))->(f l[k]≠0->bT f l=f l[k])->Body X ((k:Int),())) (hexit:bT f l=0->Exit) :
  a7 (Int×PUnit) (λ(X:Int×PUnit->Prop) (s:Int×PUnit)=>aE (decide (s.1<((List.map r.enc l).length:Int))) (Body X s) Exit) (0,()):=by
 refine bJ l.length (λk s=>s=((k:Int),())/\bT f l=bT f (l.drop k)) ⟨rfl,by rw[List.drop_zero]⟩ ?_;rintro X k s hk ⟨rfl,he⟩ hX;dsimp only;refine b8 (λhlt=>?_) λhge=>?_
 ·rw[ae] at hlt;have hlt:k<l.length:=by omega
  have hd:l.drop k=l[k]::l.drop (k+1):=List.drop_eq_getElem_cons hlt;rw[hd,bT] at he;refine hbody X k hlt (λh0=>?_) λh0=>by rw[he,if_neg h0]
  rw[if_pos h0] at he;exact hX _ hlt ⟨by rw[show i64.wrap ((k:Int)+1)=((k+1:Nat):Int) from aZ _ (by omega) (by omega)],he⟩
 ·rw[ae] at hge;have:k=l.length:=by omega
  subst this;rw[List.drop_length] at he;exact hexit he
def BR {d:aG} {id:iII} {K:bG×Bool->Prop} (h:K (found cO (partOf d id))):aJ [(true,aS),(false,Sy.bool)] (jL [aH true aF d,pPQ id]) K:=aM (s:=[(true,aS),(false,.bool)]) (A7 ..) h
variable {α:Type}
def HI {no:α} {o:Option α}:(found no o).2=o.isSome:=by cases o<;>rfl
noncomputable def AX1:Env:=Env.of [(58,.pure gG)]
def AHI:bB Tryz.prog AX1:=.cons CT (.nil _)
def BV5:T:=pPP 9
def BXE(a0:gE)(R:T->Prop):Prop:=aE (decide (a0.2.2.2.2.1<1)) (R BV5) (aE (decide (32768<a0.2.2.2.2.1)) (R BV5) (aE (decide (a0.2.2.2.2.2<1)) (R BV5) (aE (decide (3<a0.2.2.2.2.2)) (R BV5) (R BV3))))
def K4(a0:gE)(R:T->Prop):Prop:=aJ BVX (gG [pPQ a0.1]) λ(y0:Bool)=>aE (!y0) (R BWC) (aJ BVX (gG [pPQ a0.2.1]) λ(y1:Bool)=>aE (!y1) (R BWC) (aJ BVX (gG [pPQ a0.2.2.1]) λ(y2:Bool)=>aE (!y2) (R BWC) (aE (decide (a0.2.1=a0.2.2.1)) (R BWD) (aE (!decide (a0.2.2.2.1=1)) (aE (!decide (a0.2.2.2.1=2)) (R BWA) (BXE a0 R)) (BXE a0 R)))))
abbrev NO:Sh:=[(true,bI)]
def BP2 (s:gE):Bool:=Z9 s.1&&(Z9 s.2.1&&Z9 s.2.2.1)
def zM (s:gE):Int:=if kH s.1=false\/kH s.2.1=false\/kH s.2.2.1=false then 6 else if s.2.1=s.2.2.1 then 2 else if ¬ s.2.2.2.1=1/\¬ s.2.2.2.1=2 then 10 else if s.2.2.2.2.1<1\/32768<s.2.2.2.2.1\/s.2.2.2.2.2<1\/3<s.2.2.2.2.2 then 9 else 0
def oZ (s:gE):Option T:=match BP2 s with
 | true=>some (T.v (Value.int .i64 (zM s)))
 | false=>none
noncomputable def wC:List T->Option T:=gS NO oZ
def ADX {a0}:wC [aH true bI a0]=oZ (a0):=a8 (s:=NO) rfl (a0) rfl
def ASO:lW Tryz.prog 63 wC oZ (bR NO) K4:=eN (a1:=(true,bI)) (Hs:=c0) (k:=8) AHI aV aY (aQ rfl) ⟨_,_,Tryz.func63,rfl⟩ rfl λ_ _=>by kernel_rfl
def AQM:aT Tryz.prog 63 wC:=ASO λy r h hb=>by
 unfold oZ at h;split at h
 case h_2=>cases h
 rename_i hok;cases h;simp only[BP2,ac] at hok;clear hb;have is:∀ {n:Int},zM y=n->pPP n=pPP (zM y):=λh=>by rw[h]
 unfold K4 BXE BWD BWC BWA BV5 BV3 BVX;refine pT hok.1 ?_;refine eQ (λh=>is (by unfold zM;rw[if_pos (.inl h)])) λi1=>pT hok.2.1 ?_;refine eQ (λh=>is (by unfold zM;rw[if_pos (.inr (.inl h))])) λi2=>pT hok.2.2 ?_;refine eQ (λh=>is (by unfold zM;rw[if_pos (.inr (.inr h))])) λi3=>?_;have w:zM y=if y.2.1=y.2.2.1 then 2 else if ¬ y.2.2.2.1=1/\¬ y.2.2.2.1=2 then 10 else if y.2.2.2.2.1<1\/32768<y.2.2.2.2.1\/y.2.2.2.2.2<1\/3<y.2.2.2.2.2 then 9 else 0:=by
  unfold zM;rw[if_neg (by simp only[show kH y.1=true from i1,show kH y.2.1=true from i2,show kH y.2.2.1=true from i3];decide)]
 repeat' first
  | refine kD (λh=>?_) (λh=>?_)
  | refine b8 (λh=>?_) (λh=>?_)
 all_goals (refine is ?_;rw[w];clear w is;simp_all)
noncomputable def AX2:Env:=Env.of [(63,.pure wC),(11,.pure jL)]
def AY6:FuncId->Hint:=bP 24 [(2,.inv [.val 3 false (.int .i64)])] (λ_=>bH)
def AHJ:bB Tryz.prog AX2:=.cons AQM (.cons CV (.nil _))
def K5(a0:aG)(R:T->Prop):Prop:=a7 (Int×PUnit) (λX0 s1=>aE (decide (s1.1<(↑(BWO a0).length:Int))) (aU bI (BWO a0) s1.1 λ(y2:gE)=>aJ BVW (wC [aH true bI y2]) λ(y3:Int)=>aE (!decide (y3=0)) (R (pPP y3)) (aU bI (BWO a0) s1.1 λ(y4:gE)=>aJ BV1 (jL [aH true aF a0,pPQ y4.2.1]) λ(y5:bG×Bool)=>aU bI (BWO a0) s1.1 λ(y6:gE)=>aJ BV1 (jL [aH true aF a0,pPQ y6.2.2.1]) λ(y7:bG×Bool)=>aE (!y5.2) (R BVZ) (aE (!y7.2) (R BVZ) (BWG X0 s1)))) (R BV3)) (0,())
abbrev NP:Sh:=[(true,aF)]
def zA (d:aG):Option T:=JG d (T.v (Value.int .i64 (bT (kW d) d.2.2.2.1)))
noncomputable def wD:List T->Option T:=gS NP zA
def ADY {a0}:wD [aH true aF a0]=zA (a0):=a8 (s:=NP) rfl (a0) rfl
def ASP:lW Tryz.prog 24 wD zA (bR NP) K5:=eN (a1:=(true,aF)) (Hs:=AY6) (k:=8) AHJ aV aY (aQ rfl) ⟨_,_,Tryz.func24,rfl⟩ rfl λ_ _=>by kernel_rfl
def AQN:aT Tryz.prog 24 wD:=ASP λd r h hb=>by
 obtain ⟨hu,rfl⟩:=JH h;have u:=C6 hu;have un:=u.s;clear h hb;unfold K5 BWO BWG BV3 BV1 BVZ BVW;refine OR (r:=bI) (kW d) (by omega) (λX k hk hok hbad=>?_) λh0=>by rw[h0]
 dsimp only;have hi:=u.sI _ (ak hk);generalize hy:d.2.2.2.1[k]=y at hi hok hbad;have bad:∀ {n:Int},n≠0->kW d y=n->pPP n=pPP (bT (kW d) d.2.2.2.1):=λhn h=>by
  rw[hbad (by rw[h];exact hn),h]
 have w:kW d y=if zM y=0 then (if (partOf d y.2.1).isNone=true\/(partOf d y.2.2.1).isNone=true then 8 else 0) else zM y:=by
  unfold kW zM;by_cases g1:kH y.1=false\/kH y.2.1=false\/kH y.2.2.1=false
  ·simp only[if_pos g1];rw[if_neg (by decide)]
  simp only[if_neg g1];by_cases g2:y.2.1=y.2.2.1
  ·simp only[if_pos g2];rw[if_neg (by decide)]
  simp only[if_neg g2];by_cases g3:¬ y.2.2.2.1=1/\¬ y.2.2.2.1=2
  ·simp only[if_pos g3];rw[if_neg (by decide)]
  simp only[if_neg g3];by_cases g4:y.2.2.2.2.1<1\/32768<y.2.2.2.2.1\/y.2.2.2.2.2<1\/3<y.2.2.2.2.2
  ·simp only[if_pos g4];rw[if_neg (by decide)]
  simp only[if_neg g4];rw[if_pos trivial]
 rw[bA (r:=bI) hk];rw[hy];refine aM (s:=[(false,.int .i64)]) (y:=zM y) ((ADX ..).trans (by unfold oZ BP2;rw[hi.1,hi.2.1,hi.2.2];rfl)) ?_;refine kD (λh=>bad h (by rw[w,if_neg h])) λh=>?_;rw[if_pos h] at w;rw[bA (r:=bI) hk,hy];refine BR ?_;rw[bA (r:=bI) hk,hy];refine BR ?_;rw[HI,HI];cases h1:partOf d y.2.1 with
 | none=>exact eQ (λ_=>bad (by decide) (by rw[w,h1];rfl)) λh=>Bool.noConfusion h
 | some a =>
  refine eQ (λh=>Bool.noConfusion h) λ_=>?_;cases h2:partOf d y.2.2.1 with
  | none=>exact eQ (λ_=>bad (by decide) (by rw[w,h2];simp)) λh=>Bool.noConfusion h
  | some b=>exact eQ (λh=>Bool.noConfusion h) λ_=>hok (by rw[w,h1,h2];rfl)
noncomputable def AXR:Env:=Env.of [(57,.pure fQ)]
def AG7:bB Tryz.prog AXR:=.cons rI (.nil _)
def KR(a0:aG)(a1:iII)(R:T->Prop):Prop:=aJ BV4 (fQ (BYB a0 a1)) λ(y0:eH×Bool)=>aE y0.2 (R (pPR (decide (y0.1.2.1=1)))) (R BVY)
abbrev NB:Sh:=[(true,aF),(false,Sy.str)]
def yP (x:aG×iII):Option T:=some (pPR (lS x.1 x.2))
noncomputable def dK:List T->Option T:=gS NB yP
def ADI {a0 a1}:dK [aH true aF a0,pPQ a1]=yP (a0,a1):=a8 (s:=NB) rfl (a0,a1) rfl
def ASB:nJ Tryz.prog 64 dK yP (bR NB) KR:=eV (a1:=(true,aF)) (a2:=(false,Sy.str)) (Hs:=c0) (k:=8) AG7 aV aY (aQ rfl) ⟨_,_,Tryz.func64,rfl⟩ rfl λ_ _ _=>by kernel_rfl
def T3:aT Tryz.prog 64 dK:=ASB λd id r h hb=>by
 cases h;unfold KR BYB BV4 BVY;refine PC ?_;have w:lS d id=match cG d id with
  | some n=>decide (n.2.1=1)
  | none=>false:=rfl
 cases hn:cG d id with
 | none=>rw[hn] at w;exact zQ (λh=>Bool.noConfusion h) λ_=>iG w.symm
 | some n=>rw[hn] at w;exact zQ (λ_=>iG w.symm) λh=>Bool.noConfusion h
def U3 {d:aG} {id:iII} (h:K (lS d id)):aJ [(false,Sy.bool)] (dK [aH true aF d,pPQ id]) K:=aM (s:=D4) (ADI ..) h
noncomputable def AXT:Env:=Env.of [(67,.pure pP),(64,.pure dK)]
def AYZ:FuncId->Hint:=bP 26 [(2,.inv [.val 3 false (.int .i64)])] (λ_=>bH)
def AG9:bB Tryz.prog AXT:=.cons ZB (.cons T3 (.nil _))
def BXF(a0:aG)(y2:cP):List T:=[aH true aF a0,pPQ y2.2.1]
def BX8(y2:cP)(a0:aG)(R:T->Prop)(y3:bE×Bool)(X0:Int×PUnit->Prop)(s1:Int×PUnit):Prop:=aE (decide (y2.1=3)) (aJ BVX (dK (BXF a0 y2)) λ(y9:Bool)=>aE (!y9) (R BVZ) (aE (!y3.2) (R BVZ) (BWG X0 s1))) (aJ BVX (dK (BXF a0 y2)) λ(y10:Bool)=>aE (!y10) (R BVZ) (R BVZ))
def BWS(y2:cP)(a0:aG)(R:T->Prop)(X0:Int×PUnit->Prop)(s1:Int×PUnit)(y3:bE×Bool):Prop:=aE (decide (y2.1=2)) (aJ BVX (dK [aH true aF a0,pPQ y2.2.2]) λ(y7:Bool)=>aE y7 (aJ BVX (dK (BXF a0 y2)) λ(y8:Bool)=>aE (!y8) (R BVZ) (BWG X0 s1)) (BX8 y2 a0 R y3 X0 s1)) (BX8 y2 a0 R y3 X0 s1)
def KU(a0:aG)(R:T->Prop):Prop:=a7 (Int×PUnit) (λX0 s1=>aE (decide (s1.1<(↑(BWH a0).length:Int))) (aU a6 (BWH a0) s1.1 λ(y2:cP)=>aE (decide (y2.1<1)) (R BWA) (aE (decide (3<y2.1)) (R BWA) (aE (decide (y2.2.2=y2.2.1)) (R BWD) (aJ BV6 (pP [aH true aF a0,pPQ y2.2.2]) λ(y3:bE×Bool)=>aE (decide (y2.1=1)) (aE (decide (y2.2.2 = {data:=#[]})) (aJ BVX (dK (BXF a0 y2)) λ(y4:Bool)=>aE (!y4) (R BVZ) (BWG X0 s1)) (aJ BVX (dK [aH true aF a0,pPQ y2.2.2]) λ(y5:Bool)=>aE y5 (aJ BVX (dK (BXF a0 y2)) λ(y6:Bool)=>aE (!y6) (R BVZ) (BWG X0 s1)) (BWS y2 a0 R X0 s1 y3))) (BWS y2 a0 R X0 s1 y3))))) (R BV3)) (0,())
abbrev NF:Sh:=[(true,aF)]
def yS (d:aG):Option T:=JG d (T.v (Value.int .i64 (bT (kS d) d.2.2.2.2.2)))
noncomputable def vT:List T->Option T:=gS NF yS
def ADL {a0}:vT [aH true aF a0]=yS (a0):=a8 (s:=NF) rfl (a0) rfl
def ASE:lW Tryz.prog 26 vT yS (bR NF) KU:=eN (a1:=(true,aF)) (Hs:=AYZ) (k:=8) AG9 aV aY (aQ rfl) ⟨_,_,Tryz.func26,rfl⟩ rfl λ_ _=>by kernel_rfl
def AL9 {d:aG} {id:iII} {K:bE×Bool->Prop} (h:K (found noPack (eX d id))):aJ [(true,aK),(false,Sy.bool)] (pP [aH true aF d,pPQ id]) K:=aM (s:=[(true,aK),(false,.bool)]) (OY ..) h
def AQD:aT Tryz.prog 26 vT:=ASE λd r h hb=>by
 obtain ⟨hu,rfl⟩:=JH h;have u:=C6 hu;have un:=u.r;clear h hb;unfold KU BWS BX8 BXF BWG BWH BWD BWA BV6 BV3 BVZ BVX;refine gX (r:=a6) (kS d) (by omega) (λX s y hy hok hbad=>?_) λh0=>by rw[h0]
 have bad:∀ {n:Int},n≠0->kS d y=n->pPP n=pPP (bT (kS d) d.2.2.2.2.2):=λhn h=>by
  rw[hbad (by rw[h];exact hn),h]
 clear hbad;have fi:(found noPack (eX d y.2.2)).2=(eX d y.2.2).isSome:=HI
 repeat' first
  | (exfalso;omega)
  | refine U3 ?_
  | refine AL9 ?_
  | refine kD (λh=>?_) (λh=>?_)
  | refine b8 (λh=>?_) (λh=>?_)
  | refine eQ (λh=>?_) (λh=>?_)
  | refine zQ (λh=>?_) (λh=>?_)
 all_goals first
  | (exfalso;omega)
  | (refine bad (by decide) ?_;clear bad hok;unfold kS;simp_all[Option.isSome_iff_ne_none];done)
  | (refine hok ?_;clear bad hok;unfold kS;simp_all[Option.isSome_iff_ne_none];done)
  | (refine bad (by decide) ?_;clear bad hok;unfold kS;simp_all[Option.isSome_iff_ne_none];omega)
  | (refine hok ?_;clear bad hok;unfold kS;simp_all[Option.isSome_iff_ne_none];omega)
end Go.Pv
