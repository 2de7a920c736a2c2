/-
  poly.Where; region: edges, within, apart, Check, Area2.
  region: Check, Area2.
  vec.Valid; material: Check, Grade, Rolled.
  part: Check, Mass.
  Chapter 17: the tree's parts and packages in full.
  Chapter 17: the tree's packages in full.
  Chapter 17: Check where the parts and packages are empty ones; StructureLong, walked.
  Chapter 17: structure.Check in full.
  What an edit does to a design, in plain words.
  The reference's material.Check.
  R17.Has.
  The form of a design, as the reference looks at it.
  The closures of edit.kinds: what they come to.
  edit.Apply, the kinds 5 and 6 (the copied parts are turned in place).
-/
import Derived.Test.YtipdohmdckdoeaaGreatDoorVdz1
import Derived.Sort.Walk0
import Derived.Test.YtipdohmdckdoeaaGreatDoorVdkp
set_option linter.defProp false
set_option linter.unusedSimpArgs false
set_option linter.unusedVariables false
set_option maxRecDepth 100000
namespace Go.Pv
open Go Go.Proofs IntKind
open List (range drop_zero drop_eq_getElem_cons drop_length mem_cons getElem?_eq_getElem length_take all_eq_true not_lt pairwise_cons length_cons mem_append)
def AK2 (p:List Pt) (q:Pt):Bool:=(range p.length).any λi=>VW (pt p i) (nx p i) q
def iT (p:List Pt) (q:Pt):Int:=if ¬ dK q\/¬ kV p=0 then -1 else if AK2 p q=true then 0 else if A67 p q=true then 1 else -1
def zS {n:Nat} {f:Nat->Bool}:(range n).any f=true↔∃ i,i<n/\f i=true:=by simp[List.any_eq_true,List.mem_range]
def AFH {n:Nat} {f:Nat->Bool} (h:∀ i,i<n->f i=false):(range n).any f=false:=by
 rw[Bool.eq_false_iff];intro ha;obtain ⟨i,hi,h2⟩:=zS.1 ha;rw[h i hi] at h2;cases h2
def AZM {a b q:Pt} (ho:VW a b q=false):hit a b q=(!(decide (q.2<a.2) == decide (q.2<b.2))&&(decide (0<dU a b q) == decide (a.2<b.2))):=by
 rcases Int.lt_or_le q.2 a.2 with h1|h1
 ·rcases Int.lt_or_le q.2 b.2 with h2|h2
  ·unfold hit;simp[show ¬ a.2<=q.2 by omega,show ¬ b.2<=q.2 by omega,h1,h2]
  ·have hz:dU a b q≠0:=λh=>by
    have:=A8J (a:=b) (b:=a) (q:=q) (by rw[MV a b q,h];rfl) (by omega) h2 (by omega);rw[A8I] at this;rw[this] at ho;cases ho
   have h3:decide (0<dU a b q) = !decide (dU a b q<0):=by
    rcases Int.lt_or_le (dU a b q) 0 with h|h
    ·rw[ai h,aj (by omega)];rfl
    ·rw[aj (show ¬ dU a b q<0 by omega),ai (by omega)];rfl
   unfold hit;rw[h3];simp[show ¬ a.2<=q.2 by omega,h1,h2,show ¬ q.2<b.2 by omega,show ¬ a.2<b.2 by omega]
 ·rcases Int.lt_or_le q.2 b.2 with h2|h2
  ·unfold hit;simp[h1,show ¬ q.2<a.2 by omega,h2,show ¬ b.2<=q.2 by omega,show a.2<b.2 by omega]
  ·unfold hit;simp[show ¬ q.2<a.2 by omega,show ¬ q.2<b.2 by omega]
noncomputable def AST:Env:=Env.of [(310,.pure hO),(340,.pure C5),(361,.pure xT),(356,.pure gJ)]
def AVV:FuncId->Hint:=cA 346 [(5,.inv [.val 5 false .bool,.val 19 false (.int .i64)])] (λ_=>bA)
def AD5:aU Tryz.prog AST:=.cons CZ (.cons AJ7 (.cons AXW (.cons z6 (.nil _))))
def BKB:Sh:=[(false,Sy.int IntKind.i64)]
def BKC:Sh:=[(false,Sy.bool)]
def BKD:T:=pPP 0
def BKJ:T:=pPP (-1)
def BKN:T:=pPP 1
def BLD(a0:List aR):List (List T):=List.map aA.enc a0
def LR(a0:List aR)(a1:aR)(R:T->Prop):Prop:=aJ BKC (C5 [aH true aA a1]) λ(y0:Bool)=>aC y0 (R BKJ) (aJ BKB (hO [T.sl false (BLD a0)]) λ(y1:Int)=>aC (!decide (y1=0)) (R BKJ) (bD (Bool×Int×PUnit) (λX2 s3=>aC (decide (s3.2.1<(↑(BLD a0).length:Int))) (aX aA (BLD a0) s3.2.1 λ(y4:aR)=>bQ (!decide ((↑(BLD a0).length:Int)=0)) (aX aA (BLD a0) ((i64.wrap (s3.2.1+1)).tmod (↑(BLD a0).length:Int)) λ(y5:aR)=>aJ BKC (xT [aH true aA y4,aH true aA y5, aH true aA a1]) λ(y6:Bool)=>aC y6 (R BKD) (aC (decide (decide (a1.2<y4.2)=decide (a1.2<y5.2))) (X2 (s3.1,i64.wrap (s3.2.1+1),())) (aJ BKB (gJ [aH true aA y4,aH true aA y5, aH true aA a1]) λ(y7:Int)=>aC (decide (decide (0<y7)=decide (y4.2<y5.2))) (X2 (!s3.1,i64.wrap (s3.2.1+1),())) (X2 (s3.1,i64.wrap (s3.2.1+1),())))))) (aC s3.1 (R BKN) (R BKJ))) (false,0,())))
abbrev O5:Sh:=[(false,aA.li),(true,aA)]
def A8 (x:List aR×aR):Option T:=some (T.v (Value.int .i64 (iT x.1 x.2)))
noncomputable def mZ:List T->Option T:=gS O5 A8
def AAS {a0 a1}:mZ [T.sl false (List.map aA.enc a0),aH true aA a1]=A8 (a0,a1):=bJ (s:=O5) rfl (a0,a1) rfl
def AQV:sP Tryz.prog 346 mZ A8 (cJ O5) LR:=iH (a1:=(false,aA.li)) (a2:=(true,aA)) (sp:=A8) (F:=LR) (Hs:=AVV) (f:=346) (k:=8) AD5 aZ a7 (aO rfl) ⟨_,_,Tryz.func346,rfl⟩ rfl λ_ _ _=>by kernel_rfl
def xD (p q:List Pt):Bool:=(range p.length).any λi=>(range q.length).any λk=>nC (pt p i) (nx p i) (pt q k) (nx q k)
def mN (a0:List aR) (a1:List aR):List T:=[T.sl false (List.map aA.enc a0),T.sl false (List.map aA.enc a1),T.fn 344 [] []]
noncomputable def K6:Env:=Env.of [(344,.pure xX)]
def YR:FuncId->Hint:=cA 343 [(2,.inv [.val 13 false (.int .i64)]),(5,.inv [.val 20 false (.int .i64)])] (λ_=>bA)
def AEB:aU Tryz.prog K6:=.cons AOZ (.nil _)
def BJ9:T:=pPR false
def BKF:T:=pPR true
def BKW(X3:Int×PUnit->Prop)(s4:Int×PUnit):Prop:=X3 (i64.wrap (s4.1+1),())
def LY(a0:List aR)(a1:List aR)(R:T->Prop):Prop:=bD (Int×PUnit) (λX0 s1=>aC (decide (s1.1<(↑(BLD a0).length:Int))) (aX aA (BLD a0) s1.1 λ(y2:aR)=>bD (Int×PUnit) (λX3 s4=>aC (decide (s4.1<(↑(BLD a1).length:Int))) (aX aA (BLD a1) s4.1 λ(y5:aR)=>bQ (!decide ((↑(BLD a0).length:Int)=0)) (aX aA (BLD a0) ((i64.wrap (s1.1+1)).tmod (↑(BLD a0).length:Int)) λ(y6:aR)=>bQ (!decide ((↑(BLD a1).length:Int)=0)) (aX aA (BLD a1) ((i64.wrap (s4.1+1)).tmod (↑(BLD a1).length:Int)) λ(y7:aR)=>aJ BKC (xX [aH true aA y2,aH true aA y6, aH true aA y5,aH true aA y7]) λ(y8:Bool)=>aC y8 (R BKF) (BKW X3 s4)))) (BKW X0 s1)) (0,())) (R BJ9)) (0,())
def YI ( a0 a1 R):eJ b8 Tryz.prog K6 YR 8 343 (mN a0 a1) R=LY a0 a1 R:=by kernel_rfl
variable {α:Type}
def OL (p q:List Pt) (r:α):Option α:=match QM p&&QM q with
 | true=>some r
 | false=>none
def OM {p q:List Pt} {t r:α} (h:OL p q t=some r):p.length<=1000/\kQ p/\q.length<=1000/\kQ q/\r=t:=by
 unfold OL at h;split at h
 ·rename_i hc;simp only[QM,ac,ah,nX] at hc;cases h;exact ⟨hc.1.1,hc.1.2,hc.2.1,hc.2.2,rfl⟩
 ·cases h
def ON {p q:List Pt} (t:α) (h:p.length<=1000) (h2:kQ p) (h3:q.length<=1000) (h4:kQ q):OL p q t=some t:=by
 unfold OL;rw[show (QM p&&QM q)=true by simp only[QM,ac,ah,nX];exact ⟨⟨h,h2⟩,h3,h4⟩]
def IK (x:List aR×List aR):Option T:=OL x.1 x.2 (pPR (xD x.1 x.2))
def TP (x y:List aR×List aR) (h:mN x.1 x.2=mN y.1 y.2):x=y:=by
 unfold mN at h;obtain ⟨h1,h2⟩:=List.cons.inj h;have h2:=(List.cons.inj h2).1;exact Prod.ext (map_inj (Sy.dM aA) (T.sl.inj h1).2) (map_inj (Sy.dM aA) (T.sl.inj h2).2)
noncomputable def oN:List T->Option (T):=gA (λ(x:List aR×List aR)=>mN x.1 x.2) IK
def AA0 (a0:List aR) (a1:List aR):oN (mN a0 a1)=IK (a0,a1):=fP (A:=(λ(x:List aR×List aR)=>mN x.1 x.2)) TP (a0,a1)
def AQ1 (h:∀ (a0:List aR) (a1:List aR) (r:T),IK (a0,a1)=some r->(∀ t∈mN a0 a1,Bd t)->LY a0 a1 (λy=>y=r)):aP Tryz.prog 343 oN :=
 cU (E:=K6) (Hs:=YR) AEB aZ a7 (aO rfl) 8 ⟨_,_,Tryz.func343,rfl⟩ λx r h1 h2=>by
  rw[YI];exact h x.1 x.2 r h1 h2
def RI:aP Tryz.prog 343 oN:=AQ1 λp q r h hb=>by
 obtain ⟨hl,hn,hl2,hn2,rfl⟩:=OM h;replace hl:p.length<=1000:=hl;replace hl2:q.length<=1000:=hl2;clear h;unfold LY BLD BKW BKF BKC BJ9;refine bP p.length (λk s=>s=((k:Int),())/\∀ i,i<k->i<p.length->((range q.length).any λk=>nC (pt p i) (nx p i) (pt q k) (nx q k))=false) ⟨rfl,λi h=>by omega⟩ ?_;rintro X k s hk ⟨rfl,hJ⟩ hX;dsimp only;refine cC (λhlt=>?_) λhge=>jH (Eq.symm (AFH λi hi=>hJ i (by rw[ae] at hge;omega) hi));rw[ae] at hlt;have hlt:k<p.length:=by omega
 have hne:(!decide (((List.map aA.enc p).length:Int)=0))=true:=by rw[ae,aj (by omega)];rfl
 have hm1:(k+1) % p.length<p.length:=Nat.mod_lt _ (by omega);have i1:(i64.wrap ((k:Int)+1)).tmod ((List.map aA.enc p).length:Int)=(((k+1) % p.length:Nat):Int):=by rw[ae];exact vM (c:=1) hl (by omega) (by omega)
 rw[fQ hlt];refine bP q.length (λj s=>s=((j:Int),())/\∀ i,i<j->i<q.length->nC (pt p k) (nx p k) (pt q i) (nx q i)=false) ⟨rfl,λi h=>by omega⟩ ?_;rintro Y j s hj ⟨rfl,hI⟩ hY;dsimp only;refine cC (λhlj=>?_) λhgj=>hX _ hlt ⟨by rw[show i64.wrap ((k:Int)+1)=((k+1:Nat):Int) from bH _ (by omega) (by omega)],λi h1 h2=>by
  rcases Nat.lt_or_ge i k with h3|h3
  ·exact hJ i h3 h2
  ·have:i=k:=by omega
   subst this;exact AFH λm hm=>hI m (by rw[ae] at hgj;omega) hm⟩
 rw[ae] at hlj;have hlj:j<q.length:=by omega
 have hne2:(!decide (((List.map aA.enc q).length:Int)=0))=true:=by rw[ae,aj (by omega)];rfl
 have hm2:(j+1) % q.length<q.length:=Nat.mod_lt _ (by omega);have i2:(i64.wrap ((j:Int)+1)).tmod ((List.map aA.enc q).length:Int)=(((j+1) % q.length:Nat):Int):=by rw[ae];exact vM (c:=1) hl2 (by omega) (by omega)
 rw[fQ hlj,i1];refine ⟨hne,?_⟩;rw[fQ hm1,i2];refine ⟨hne2,?_⟩;rw[fQ hm2];refine aG (s:=[(false,.bool)]) ((AA6 ..).trans (ABZ _ (hn.pt _) (hn.pt _) (hn2.pt _) (hn2.pt _))) ?_;refine wU (λh=>jH (Eq.symm (zS.2 ⟨k,hlt,zS.2 ⟨j,hlj,h⟩⟩))) λh=>hY _ hlj ⟨by rw[show i64.wrap ((j:Int)+1)=((j+1:Nat):Int) from bH _ (by omega) (by omega)],λi h1 h2=>by
  rcases Nat.lt_or_ge i j with h3|h3
  ·exact hI i h3 h2
  ·have:i=j:=by omega
   subst this;exact h⟩
def I6 {p q:List Pt} (h:p.length<=1000) (h2:kQ p) (h3:q.length<=1000) (h4:kQ q):oN (mN p q)=some (Sh.enc [(false,.bool)] (xD p q)):=(AA0 ..).trans (ON _ h h2 h3 h4)
def RG:aP Tryz.prog 346 mZ:=AQV λp q r h hb=>by
 cases h;have is:∀ {n:Int},iT p q=n->pPP n=pPP (iT p q):=λh=>by rw[h]
 unfold LR BLD BKN BKJ BKD BKC BKB;refine aG (s:=[(false,.bool)]) (y:=!decide (dK q)) (R3 ..) ?_;refine kU (λh=>is (by unfold iT;rw[if_pos (.inl h)])) λhq=>?_;refine aG (s:=[(false,.int .i64)]) (pP p) ?_;refine kU (λh=>is (by unfold iT;rw[if_pos (.inr h)])) λhp=>?_;obtain ⟨hl3,hl32,hn,_⟩:=uN hp;have w:iT p q=if AK2 p q=true then 0 else if A67 p q=true then 1 else -1:=by
  unfold iT;rw[if_neg];rintro (h|h)
  ·exact h hq
  ·exact h hp
 refine bP p.length (λk s=>s=(A3D k (λi=>hit (pt p i) (nx p i) q),(k:Int),())/\∀ i,i<k->i<p.length->VW (pt p i) (nx p i) q=false) ⟨rfl,λi h=>by omega⟩ ?_;rintro X k s hk ⟨rfl,hJ⟩ hX;dsimp only;refine cC (λhlt=>?_) λhge=>?_
 ·rw[ae] at hlt;have hlt:k<p.length:=by omega
  have hne:(!decide (((List.map aA.enc p).length:Int)=0))=true:=by rw[ae,aj (by omega)];rfl
  have hm1:(k+1) % p.length<p.length:=Nat.mod_lt _ (by omega);have i1:(i64.wrap ((k:Int)+1)).tmod ((List.map aA.enc p).length:Int)=(((k+1) % p.length:Nat):Int):=by rw[ae];exact vM (c:=1) (by omega) (by omega) (by omega)
  rw[fQ hlt,i1];refine ⟨hne,?_⟩;rw[fQ hm1];refine aG (s:=[(false,.bool)]) (xU (hn.pt _) (hn.pt _) hq) ?_;refine wU (λh=>is (by rw[w,if_pos (show AK2 p q=true from zS.2 ⟨k,hlt,h⟩)])) λho=>?_;have ho:VW (pt p k) (nx p k) q=false:=ho;have hw:i64.wrap ((k:Int)+1)=((k+1:Nat):Int):=bH _ (by omega) (by omega);have hh:=AZM ho;have hJ':∀ i,i<k+1->i<p.length->VW (pt p i) (nx p i) q=false:=λi h1 h2=>by
   rcases Nat.lt_or_ge i k with h3|h3
   ·exact hJ i h3 h2
   ·have:i=k:=by omega
    subst this;exact ho
  have step:∀ c,hit (pt p k) (nx p k) q=c->X ((A3D k (λi=>hit (pt p i) (nx p i) q) ^^ c),i64.wrap ((k:Int)+1),()):=λc hc=>hX _ hlt ⟨by rw[hw,A3D,hc],hJ'⟩;refine cC (λh=>?_) λh=>?_
  ·have e:hit (pt p k) (nx p k) q=false:=by
    rw[hh,show decide (q.2<(pt p k).2)=decide (q.2<(nx p k).2) from h];simp
   have:=step false e;rwa[Bool.xor_false] at this
  ·refine aG (s:=[(false,.int .i64)]) (j2 (hn.pt _) (hn.pt _) hq) ?_;have e0:hit (pt p k) (nx p k) q=(decide (0<dU (pt p k) (nx p k) q) == decide ((pt p k).2<(nx p k).2)):=by
    rw[hh,show (decide (q.2<(pt p k).2) == decide (q.2<(nx p k).2))=false from beq_eq_false_iff_ne.2 h];rfl
   refine cC (λh2=>?_) λh2=>?_
   ·have:=step true (by rw[e0];exact beq_iff_eq.2 h2);rwa[Bool.xor_true] at this
   ·have:=step false (by rw[e0];exact beq_eq_false_iff_ne.2 h2);rwa[Bool.xor_false] at this
 ·rw[ae] at hge;have:k=p.length:=by omega
  subst this;have hna:AK2 p q=false:=AFH λi hi=>hJ i hi hi;refine wU (λh=>is ?_) λh=>is ?_
  ·rw[w,hna,if_neg (by simp),if_pos (show A67 p q=true from h)]
  ·rw[w,hna,if_neg (by simp),if_neg (by rw[show A67 p q=false from h];simp)]
def xV (p:List Pt) (q:Pt):mZ [T.sl false (List.map aA.enc p),aH true aA q]=some (Sh.enc [(false,.int .i64)] (iT p q)):=AAS ..
def sM (p o:List Pt):Bool:=!xD p o&&p.all λc=>decide (iT o c=1)
def uZ (p q:List Pt):Bool:=!xD p q&&(decide (iT p (pt q 0)<0)&&decide (iT q (pt p 0)<0))
noncomputable def AMJ:Env:=Env.of [(346,.pure mZ),(343,.pure oN)]
def ANG:FuncId->Hint:=cA 355 [(2,.inv [.val 8 false (.int .i64)])] (λ_=>bA)
def XZ:aU Tryz.prog AMJ:=.cons RG (.cons RI (.nil _))
def F5(a0:List aR)(a1:List aR)(R:T->Prop):Prop:=aJ BKC (oN [T.sl false (BLD a0),T.sl false (BLD a1), T.fn 344 [] []]) λ(y0:Bool)=>aC (!y0) (bD (Int×PUnit) (λX1 s2=>aC (decide (s2.1<(↑(BLD a0).length:Int))) (aX aA (BLD a0) s2.1 λ(y3:aR)=>aJ BKB (mZ [T.sl false (BLD a1),aH true aA y3]) λ(y4:Int)=>aC (!decide (y4=1)) (R (pPR (!decide (0<=s2.1)))) (BKW X1 s2)) (R BKF)) (0,())) (R BJ9)
abbrev H3:Sh:=[(false,aA.li),(false,aA.li)]
def wB (x:List aR×List aR):Option T:=OL x.1 x.2 (pPR (sM x.1 x.2))
noncomputable def qD:List T->Option T:=gS H3 wB
def VB {a0 a1}:qD [T.sl false (List.map aA.enc a0),T.sl false (List.map aA.enc a1)]=wB (a0,a1):=bJ (s:=H3) rfl (a0,a1) rfl
def AHT:sP Tryz.prog 312 qD wB (cJ H3) F5:=iH (a1:=(false,aA.li)) (a2:=(false,aA.li)) (sp:=wB) (F:=F5) (Hs:=ANG) (f:=312) (k:=8) XZ aZ a7 (aO rfl) ⟨_,_,Tryz.func312,rfl⟩ rfl λ_ _ _=>by kernel_rfl
def AGF:aP Tryz.prog 312 qD:=AHT λp o r h hb=>by
 obtain ⟨hl,hn,hl2,hn2,rfl⟩:=OM h;replace hl:p.length<=1000:=hl;clear h;unfold F5 BLD BKW BKF BKC BKB BJ9;refine aG (s:=[(false,.bool)]) (I6 hl hn hl2 hn2) ?_;refine iE (λhe=>?_) λhe=>jH (by unfold sM;rw[show xD p o=true from he];rfl);have w:sM p o=p.all λc=>decide (iT o c=1):=by unfold sM;rw[show xD p o=false from he];rfl
 refine bP p.length (λk s=>s=((k:Int),())/\p.all (λc=>decide (iT o c=1))=(p.drop k).all λc=>decide (iT o c=1)) ⟨rfl,by rw[drop_zero]⟩ ?_;rintro X k s hk ⟨rfl,hJ⟩ hX;dsimp only;refine cC (λhlt=>?_) λhge=>jH ?_
 ·rw[ae] at hlt;have hlt:k<p.length:=by omega
  rw[drop_eq_getElem_cons hlt,List.all_cons] at hJ;rw[bK (r:=aA) hlt];refine aG (s:=[(false,.int .i64)]) (xV o p[k]) ?_;refine kU (λh=>jH ?_) λh=>hX _ hlt ⟨by rw[show i64.wrap ((k:Int)+1)=((k+1:Nat):Int) from bH _ (by omega) (by omega)],by rw[hJ,ai (show iT o p[k]=1 from h),Bool.true_and]⟩;rw[w,hJ,aj (show ¬ iT o p[k]=1 from h),ai (show 0<=(k:Int) by omega)];rfl
 ·rw[ae] at hge;have:k=p.length:=by omega
  subst this;rw[w,hJ,drop_length];rfl
def VC {p q:List Pt} (h:p.length<=1000) (h2:kQ p) (h3:q.length<=1000) (h4:kQ q):qD [T.sl false (List.map aA.enc p),T.sl false (List.map aA.enc q)]=some (Sh.enc [(false,.bool)] (sM p q)):=(VB ..).trans (ON _ h h2 h3 h4)
def AHX (p q:List Pt) (t:T):Option T:=match p,q with
 | _::_,_::_=>OL p q t
 | _,_=>none
noncomputable def ASU:Env:=Env.of [(346,.pure mZ),(343,.pure oN)]
def AVW:FuncId->Hint:=λ_=>bA
def AD6:aU Tryz.prog ASU:=.cons RG (.cons RI (.nil _))
def LS(a0:List aR)(a1:List aR)(R:T->Prop):Prop:=aJ BKC (oN [T.sl false (BLD a0),T.sl false (BLD a1), T.fn 344 [] []]) λ(y0:Bool)=>aC (!y0) (aX aA (BLD a1) 0 λ(y1:aR)=>aJ BKB (mZ [T.sl false (BLD a0),aH true aA y1]) λ(y2:Int)=>aC (decide (y2<0)) (aX aA (BLD a0) 0 λ(y3:aR)=>aJ BKB (mZ [T.sl false (BLD a1),aH true aA y3]) λ(y4:Int)=>R (pPR (decide (y4<0)))) (R BJ9)) (R BJ9)
abbrev O6:Sh:=[(false,aA.li),(false,aA.li)]
def qI (x:List aR×List aR):Option T:=AHX x.1 x.2 (pPR (uZ x.1 x.2))
noncomputable def uC:List T->Option T:=gS O6 qI
def AAT {a0 a1}:uC [T.sl false (List.map aA.enc a0),T.sl false (List.map aA.enc a1)]=qI (a0,a1):=bJ (s:=O6) rfl (a0,a1) rfl
def AQW:sP Tryz.prog 313 uC qI (cJ O6) LS:=iH (a1:=(false,aA.li)) (a2:=(false,aA.li)) (sp:=qI) (F:=LS) (Hs:=AVW) (f:=313) (k:=8) AD6 aZ a7 (aO rfl) ⟨_,_,Tryz.func313,rfl⟩ rfl λ_ _ _=>by kernel_rfl
def AOV:aP Tryz.prog 313 uC:=AQW λp q r h hb=>by
 unfold qI AHX at h;split at h
 ·rename_i e1 e2;obtain ⟨hl,hn,hl2,hn2,rfl⟩:=OM h;have k1:0<p.length:=by rw[show p=_ from e1];simp
  have k2:0<q.length:=by rw[show q=_ from e2];simp
  clear h;unfold LS BLD BKC BKB BJ9;refine aG (s:=[(false,.bool)]) (I6 hl hn hl2 hn2) ?_;refine iE (λhe=>?_) λhe=>jH (by unfold uZ;rw[show xD p q=true from he];rfl);have w:uZ p q=(decide (iT p (pt q 0)<0)&&decide (iT q (pt p 0)<0)):=by unfold uZ;rw[show xD p q=false from he];rfl
  rw[show (0:Int)=((0:Nat):Int) from rfl,fQ k2];refine aG (s:=[(false,.int .i64)]) (xV p (pt q 0)) ?_;refine cC (λh=>?_) λh=>jH (by rw[w,aj (show ¬ iT p (pt q 0)<0 from h)];rfl);rw[fQ k1];refine aG (s:=[(false,.int .i64)]) (xV q (pt p 0)) ?_;exact jH (by rw[w,ai (show iT p (pt q 0)<0 from h)];rfl)
 ·cases h
def AAU {p q:List Pt} (k1:0<p.length) (k2:0<q.length) (h:p.length<=1000) (h2:kQ p) (h3:q.length<=1000) (h4:kQ q):uC [T.sl false (List.map aA.enc p),T.sl false (List.map aA.enc q)]=some (Sh.enc [(false,.bool)] (uZ p q)):=by
 refine (AAT ..).trans ?_;unfold qI AHX;cases p with
 | nil=>simp at k1
 | cons a p=>cases q with
  | nil=>simp at k2
  | cons b q=>exact ON _ h h2 h3 h4
def r5 {r:Sy} {l:List r.den} (f:Nat->Int) (hl:l.length<=1000000) {Body:(Int×PUnit->Prop)->Int×PUnit->r.den->Prop} {Exit:Prop}
  (hbody:∀ (X:Int×PUnit->Prop) (k:Nat) (hk:k<l.length),(∀ j,j<k->f j=0)->(f k=0->X (((k+1:Nat):Int),()))->(f k≠0->cG f (range l.length)=f k)->Body X ((k:Int),()) l[k]) (hexit:cG f (range l.length)=0->Exit) :
  bD (Int×PUnit) (λ(X:Int×PUnit->Prop) (s:Int×PUnit)=>aC (decide (s.1<((List.map r.enc l).length:Int))) (aX r (List.map r.enc l) s.1 λy=>Body X s y) Exit) (0,()):=by
 refine bP l.length (λk s=>s=((k:Int),())/\cG f (range l.length)=cG f (List.range' k (l.length-k))/\∀ j,j<k->f j=0) ⟨rfl,by rw[List.range_eq_range'];rfl,λj h=>by omega⟩ ?_;rintro X k s hk ⟨rfl,he,hp⟩ hX;dsimp only;refine cC (λhlt=>?_) λhge=>?_
 ·rw[ae] at hlt;have hlt:k<l.length:=by omega
  rw[bK hlt];obtain ⟨m,hm⟩:∃ m,l.length-k=m+1:=⟨l.length-k-1,by omega⟩
  rw[hm,List.range'_succ,cG] at he;refine hbody X k hlt hp (λh0=>?_) λh0=>by rw[he,if_neg h0]
  rw[if_pos h0] at he;exact hX _ hlt ⟨rfl,by rw[he];congr 2;omega,λj hj=>by
   rcases Nat.lt_or_ge j k with h|h
   ·exact hp j h
   ·have:j=k:=by omega
    subst this;exact h0⟩
 ·rw[ae] at hge;have:l.length-k=0:=by omega
  rw[this] at he;exact hexit he
def JD (s:jQ) (i:Nat):Int:=if ¬ kV (s.2.getD i [])=0 then kV (s.2.getD i []) else if 0<=rU (s.2.getD i [])\/sM (s.2.getD i []) s.1=false then 17 else if ((range i).all λk=>uZ (s.2.getD i []) (s.2.getD k []))=false then 17 else 0
def zG (s:jQ):Int:=if 8<s.2.length then 12 else if ¬ kV s.1=0 then kV s.1 else if rU s.1<=0 then 17 else cG (JD s) (range s.2.length)
def jZ {α:Type} {f:α->Int}:∀ {l:List α},cG f l=0->∀ a∈l,f a=0
 | a::l,h,b,hb=>by
  unfold cG at h;by_cases ha:f a=0
  ·rw[if_pos ha] at h;rcases mem_cons.1 hb with rfl|hb
   ·exact ha
   ·exact jZ h b hb
  ·rw[if_neg ha] at h;exact absurd h ha
 | [],_,b,hb=>by cases hb
def AQ9 (l:List (List aR)):HI 1 (List.map aA.li.enc l)=true:=by cases l<;>rfl
noncomputable def ASW:Env:=Env.of [(310,.pure hO),(311,.pure mX),(312,.pure qD),(313,.pure uC)]
def AVY:FuncId->Hint:=cA 266 [(9,.inv [.val 26 false (.int .i64)]),(17,.inv [.val 51 false (.int .i64)])] (λ_=>bA)
def AD8:aU Tryz.prog ASW:=.cons CZ (.cons RF (.cons AGF (.cons AOV (.nil _))))
def BKO:T:=pPP 17
def BLP(y0:Int):T:=pPP y0
def BLO(a0:jQ):List (List T):=List.map aA.li.enc a0.2
def BL4(a0:jQ):List T:=[T.sl false (List.map aA.enc a0.1)]
def LV(a0:jQ)(R:T->Prop):Prop:=aC (decide (8<(↑(BLO a0).length:Int))) (R (pPP 12)) (aJ BKB (hO (BL4 a0)) λ(y0:Int)=>aC (!decide (y0=0)) (R (BLP y0)) (aJ BKB (mX (BL4 a0)) λ(y1:Int)=>aC (decide (y1<=0)) (R BKO) (bD (Int×PUnit) (λX2 s3=>aC (decide (s3.1<(↑(BLO a0).length:Int))) (aX aA.li (BLO a0) s3.1 λ(y4:List aR)=>aJ BKB (hO [T.sl false (BLD y4)]) λ(y5:Int)=>aC (!decide (y5=0)) (R (BLP y5)) (aJ BKB (mX [T.sl false (BLD y4)]) λ(y6:Int)=>aC (decide (0<=y6)) (R BKO) (aJ BKC (qD [T.sl false (BLD y4), T.sl false (List.map aA.enc a0.1)]) λ(y7:Bool)=>aC (!y7) (R BKO) (bQ (HI 1 (BLO a0) && (decide (0<=s3.1) && decide (Int.toNat s3.1<=(BLO a0).length)) && true) (bD (Int×PUnit) (λX8 s9=>aC (decide (s9.1 < (↑(List.drop 0 (List.take (Int.toNat s3.1) (BLO a0))).length : Int))) (aX aA.li (List.drop 0 (List.take (Int.toNat s3.1) (BLO a0))) s9.1 λ(y10:List aR)=>aJ BKC (uC [T.sl false (BLD y4), T.sl false (BLD y10)]) λ(y11:Bool)=>aC (!y11) (R BKO) (BKW X8 s9)) (BKW X2 s3)) (0,())))))) (R BKD)) (0,()))))
abbrev O8:Sh:=[(true,eP)]
def BA (s:jQ):Option T:=some (T.v (Value.int .i64 (zG s)))
noncomputable def jK:List T->Option T:=gS O8 BA
def AAX {a0}:jK [aH true eP a0]=BA (a0):=bJ (s:=O8) rfl (a0) rfl
def AQY:w5 Tryz.prog 266 jK BA (cJ O8) LV:=j5 (a1:=(true,eP)) (sp:=BA) (F:=LV) (Hs:=AVY) (f:=266) (k:=8) AD8 aZ a7 (aO rfl) ⟨_,_,Tryz.func266,rfl⟩ rfl λ_ _=>by kernel_rfl
def RH:aP Tryz.prog 266 jK:=AQY λs r h hb=>by
 cases h;have is:∀ {n:Int},zG s=n->pPP n=pPP (zG s):=λh=>by rw[h]
 unfold LV BL4 BLO BLD BKW BLP BKO BKD BKC BKB;refine cC (λh=>is (by rw[ae] at h;unfold zG;rw[if_pos (by omega)])) λh1=>?_;rw[ae] at h1;refine aG (s:=[(false,.int .i64)]) (pP s.1) ?_;refine kU (λh=>is (by unfold zG;rw[if_neg (by omega),if_pos h])) λh2=>?_;refine aG (s:=[(false,.int .i64)]) (xS s.1) ?_;refine cC (λh=>is (by unfold zG;rw[if_neg (by omega),if_neg (by simpa using h2),if_pos h])) λh3=>?_;have w:zG s=cG (JD s) (range s.2.length):=by unfold zG;rw[if_neg (by omega),if_neg (by simpa using h2),if_neg h3]
 obtain ⟨ho3,ho32,hoN,_⟩:=uN h2;refine r5 (r:=aA.li) (JD s) (by show s.2.length<=1000000;omega) (λX k hk hprev hok hbad=>?_) λh0=>is (w.trans h0);have hk:k<s.2.length:=hk;have hg:s.2.getD k []=s.2[k]:=by rw[List.getD_eq_getElem?_getD,getElem?_eq_getElem hk];rfl
 have bad:∀ {n:Int},n≠0->JD s k=n->pPP n=pPP (zG s):=λhn h=>is (w.trans ((hbad (by rw[h];exact hn)).trans h));have hE:JD s k=if ¬ kV s.2[k]=0 then kV s.2[k] else if 0<=rU s.2[k]\/sM s.2[k] s.1=false then 17 else if ((range k).all λj=>uZ s.2[k] (s.2.getD j []))=false then 17 else 0:=by unfold JD;rw[hg]
 show aJ [(false,Sy.int IntKind.i64)] (hO [T.sl false (List.map aA.enc s.2[k])]) _;refine aG (s:=[(false,.int .i64)]) (pP s.2[k]) ?_;refine kU (λh=>bad h (by rw[hE,if_pos h])) λp1=>?_;refine aG (s:=[(false,.int .i64)]) (xS s.2[k]) ?_;refine cC (λh=>bad (by decide) (by rw[hE,if_neg (by simpa using p1),if_pos (.inl h)])) λp2=>?_;obtain ⟨hp3,hp32,hpN,_⟩:=uN p1;refine aG (s:=[(false,.bool)]) (VC (by omega) hpN (by omega) hoN) ?_;refine iE (λh=>bad (by decide) (by rw[hE,if_neg (by simpa using p1),if_pos (.inr h)])) λp3=>?_;have hE2:JD s k=if ((range k).all λj=>uZ s.2[k] (s.2.getD j []))=false then 17 else 0:=by
  rw[hE,if_neg (by simpa using p1),if_neg];rintro (h|h)
  ·exact p2 h
  ·rw[show sM s.2[k] s.1=true from p3] at h;cases h
 refine ⟨by rw[AQ9,ae];simp;omega,?_⟩;have htk:List.drop 0 (List.take (Int.toNat (k:Int)) (List.map aA.li.enc s.2))=List.map aA.li.enc (s.2.take k):=by rw[drop_zero,Int.toNat_natCast,List.map_take]
 dsimp only;rw[htk];have ht:(s.2.take k).length=k:=by rw[length_take];omega
 refine bP k (λj s'=>s'=((j:Int),())/\∀ i,i<j->uZ s.2[k] (s.2.getD i [])=true) ⟨rfl,λi h=>by omega⟩ ?_;rintro Y j s' hj ⟨rfl,hJ⟩ hY;dsimp only;refine cC (λhlt=>?_) λhge=>?_
 ·rw[ae,ht] at hlt;have hlt:j<k:=by omega
  rw[bK (r:=aA.li) (show j<(s.2.take k).length by omega)];have hgj:s.2.getD j []=s.2[j]:=by rw[List.getD_eq_getElem?_getD,getElem?_eq_getElem (by omega)];rfl
  have hgt:(s.2.take k)[j]'(by omega)=s.2[j]:=by simp
  rw[hgt];have hj0:kV s.2[j]=0:=by
   have h0:=hprev j hlt;unfold JD at h0;rw[hgj] at h0;refine Classical.byContradiction λhc=>?_;rw[if_pos hc] at h0;exact hc h0
  obtain ⟨hq3,hq32,hqN,_⟩:=uN hj0;refine aG (s:=[(false,.bool)]) (AAU (by omega) (by omega) (by omega) hpN (by omega) hqN) ?_;refine iE (λh=>bad (by decide) ?_) λh=>hY _ hlt ⟨by rw[show i64.wrap ((j:Int)+1)=((j+1:Nat):Int) from bH _ (by omega) (by omega)],λi hi=>by
   rcases Nat.lt_or_ge i j with h3|h3
   ·exact hJ i h3
   ·have:i=j:=by omega
    subst this;rw[hgj];exact h⟩
  rw[hE2,if_pos (UI hlt (by rw[hgj];exact h))]
 ·rw[ae,ht] at hge;have:j=k:=by omega
  subst this;rw[show i64.wrap ((j:Int)+1)=((j+1:Nat):Int) from bH _ (by omega) (by omega)];refine hok ?_;rw[hE2,if_neg];rw[p8.2 hJ];simp
def I5 (s:jQ):jK [aH true eP s]=some (Sh.enc [(false,.int .i64)] (zG s)):=AAX ..
noncomputable def ASX:Env:=Env.of []
def AVZ:FuncId->Hint:=λ_=>bA
def AD9:aU Tryz.prog ASX:=.nil _
def LW(a0:jQ)(R:T->Prop):Prop:=aC (BLO a0).isEmpty (R (T.sl false [(BL4 a0)])) (bQ (eY 1 (BLO a0) && decide ((1+(BLO a0).length)*24<=140737488355328) && decide (1+(BLO a0).length<=140737488355328)) (R (T.sl false ((BL4 a0) :: (BLO a0)))))
abbrev O9:Sh:=[(true,eP)]
abbrev A1O:Sh:=[(false,aA.li.li)]
def qJ (s:jQ):Option T:=match decide (s.2.length<=1000) with
 | true=>some (Sh.enc A1O (s.1::s.2))
 | false=>none
noncomputable def xW:List T->Option T:=gS O9 qJ
def AAY {a0}:xW [aH true eP a0]=qJ (a0):=bJ (s:=O9) rfl (a0) rfl
def AQZ:w5 Tryz.prog 321 xW qJ (cJ O9) LW:=j5 (a1:=(true,eP)) (sp:=qJ) (F:=LW) (Hs:=AVZ) (f:=321) (k:=8) AD9 aZ a7 (aO rfl) ⟨_,_,Tryz.func321,rfl⟩ rfl λ_ _=>by kernel_rfl
def AOX:aP Tryz.prog 321 xW:=AQZ λs r h hb=>by
 unfold qJ at h;split at h
 ·rename_i hc;have hc:s.2.length<=1000:=of_decide_eq_true hc;cases h;obtain ⟨o,hs⟩:=s;unfold LW BL4 BLO;cases hs with
  | nil=>exact (rfl:T.sl false [[T.sl false (List.map aA.enc o)]]=_)
  | cons a l =>
   show bQ _ _;refine ⟨?_,rfl⟩;simp only[ac,ah,ae];have hc:(a::l).length<=1000:=hc;exact ⟨⟨tJ (.li aA) (a::l),by omega⟩,by omega⟩
 ·cases h
def BIU (l:List (List Pt)):Int:=BU l.length λi=>rU (l.getD i [])
def ACP (s:jQ):Int:=if zG s=0 then BIU (s.1::s.2) else 0
def Y3 (p:List Pt):-68719476736<=rU p/\rU p<=68719476736:=by
 unfold rU;by_cases h:kV p=0
 ·rw[if_pos h];obtain ⟨_,h2,h3,_⟩:=uN h;have:=J7 h3 p.length;unfold MG;omega
 ·rw[if_neg h];omega
def ALM (l:List (List Pt)):∀ n:Nat,-(68719476736*(n:Int))<=BU n (λi=>rU (l.getD i []))/\BU n (λi=>rU (l.getD i []))<=68719476736*(n:Int)
 | 0=>by simp[BU]
 | n+1=>by
  have ih:=ALM l n;have hb:=Y3 (l.getD n []);unfold BU;constructor<;>push_cast<;>omega
noncomputable def ASV:Env:=Env.of [(266,.pure jK),(321,.pure xW),(311,.pure mX)]
def AVX:FuncId->Hint:=cA 271 [(5,.inv [.val 3 false (.int .i64),.val 12 false (.int .i64)])] (λ_=>bA)
def AD7:aU Tryz.prog ASV:=.cons RH (.cons AOX (.cons RF (.nil _)))
def LU(a0:jQ)(R:T->Prop):Prop:=aJ BKB (jK [aH true eP a0]) λ(y0:Int)=>aC (!decide (y0=0)) (R BKD) (aJ [(false,aA.li.li)] (xW [aH true eP a0]) λ(y1:List (List aR))=>bD (Int×Int×PUnit) (λX2 s3=>aC (decide (s3.2.1<(↑(List.map aA.li.enc y1).length:Int))) (aX aA.li (List.map aA.li.enc y1) s3.2.1 λ(y4:List aR)=>aJ BKB (mX [T.sl false (BLD y4)]) λ(y5:Int)=>X2 (i64.wrap (s3.1+y5),i64.wrap (s3.2.1+1),())) (R (pPP s3.1))) (0,0,()))
abbrev O7:Sh:=[(true,eP)]
def A9 (s:jQ):Option T:=some (T.v (Value.int .i64 (ACP s)))
noncomputable def uD:List T->Option T:=gS O7 A9
def AAV {a0}:uD [aH true eP a0]=A9 (a0):=bJ (s:=O7) rfl (a0) rfl
def AQX:w5 Tryz.prog 271 uD A9 (cJ O7) LU:=j5 (a1:=(true,eP)) (sp:=A9) (F:=LU) (Hs:=AVX) (f:=271) (k:=8) AD7 aZ a7 (aO rfl) ⟨_,_,Tryz.func271,rfl⟩ rfl λ_ _=>by kernel_rfl
def AOW:aP Tryz.prog 271 uD:=AQX λs r h hb=>by
 cases h;have is:∀ {n:Int},ACP s=n->pPP n=pPP (ACP s):=λh=>by rw[h]
 unfold LU BLD BKD BKB;refine aG (s:=[(false,.int .i64)]) (I5 s) ?_;refine kU (λh=>is (by unfold ACP;rw[if_neg h])) λh=>?_;have h8:s.2.length<=8:=by
  refine Classical.byContradiction λhc=>?_;unfold zG at h;rw[if_pos (by omega)] at h;cases h
 refine aG (s:=[(false,.li (.li aA))]) (y:=(s.1::s.2:List (List aR))) ((AAY ..).trans (by unfold qJ;rw[ai (by omega)])) ?_;have w:ACP s=BIU (s.1::s.2):=by unfold ACP;rw[if_pos h]
 have hlen:(s.1::s.2).length<=9:=by simp;omega
 generalize s.1::s.2=l at w hlen;refine bP l.length (λk t=>t=(BU k (λi=>rU (l.getD i [])),(k:Int),())) rfl ?_;rintro X k t hk rfl hX;dsimp only;refine cC (λhlt=>?_) λhge=>is (by rw[ae] at hge;rw[w,show k=l.length by omega];rfl);rw[ae] at hlt;have hlt:k<l.length:=by omega
 rw[bK (r:=aA.li) hlt];have hg:l.getD k []=l[k]:=by rw[List.getD_eq_getElem?_getD,getElem?_eq_getElem hlt];rfl
 refine aG (s:=[(false,.int .i64)]) (xS l[k]) ?_;refine hX _ hlt ?_;have b1:=ALM l k;have b2:=Y3 l[k];rw[show i64.wrap ((k:Int)+1)=((k+1:Nat):Int) from bH _ (by omega) (by omega),bH _ (by omega) (by omega),BU,hg]
def AAW (s:jQ):uD [aH true eP s]=some (Sh.enc [(false,.int .i64)] (ACP s)):=AAV ..
noncomputable def AMM:Env:=Env.of []
def ANJ:FuncId->Hint:=cA 314 [(2,.PZ 4)] (λ_=>bA)
def YC:aU Tryz.prog AMM:=.nil _
def F8(a0:ANK)(a1:Int)(R:T->Prop):Prop:=aC (decide (a0.1<i64.wrap (0-a1))) (R BJ9) (aC (decide (a1<a0.1)) (R BJ9) (aC (decide (a0.2.1<i64.wrap (0-a1))) (R BJ9) (aC (decide (a1<a0.2.1)) (R BJ9) (aC (decide (a0.2.2<i64.wrap (0-a1))) (R BJ9) (aC (decide (a1<a0.2.2)) (R BJ9) (R BKF))))))
abbrev H6:Sh:=[(true,AR0),(false,(Sy.int IntKind.i64))]
def CA (v:ANK):Bool:=decide (-524288<=v.1)&&decide (v.1<=524288)&&(decide (-524288<=v.2.1)&&decide (v.2.1<=524288))&&(decide (-524288<=v.2.2)&&decide (v.2.2<=524288))
def rF (x:ANK×Int):Option T:=match decide (x.2=524288) with
 | true=>some (pPR (CA x.1))
 | false=>none
noncomputable def uG:List T->Option T:=gS H6 rF
def VF {a0 a1}:uG [aH true AR0 a0,pPP a1]=rF (a0,a1):=bJ (s:=H6) rfl (a0,a1) rfl
def AHW:sP Tryz.prog 314 uG rF (cJ H6) F8:=iH (a1:=(true,AR0)) (a2:=(false,(Sy.int IntKind.i64))) (sp:=rF) (F:=F8) (Hs:=ANJ) (f:=314) (k:=8) YC aZ a7 (aO rfl) ⟨_,_,Tryz.func314,rfl⟩ rfl λ_ _ _=>by kernel_rfl
def AGH:aP Tryz.prog 314 uG:=AHW λv n r h hb=>by
 unfold rF at h;split at h
 ·rename_i hn;have hn:n=524288:=of_decide_eq_true hn;subst hn;cases h;unfold F8 BKF BJ9;rw[show i64.wrap (0-524288) = -524288 from rfl];have no:∀ {P:Prop},(¬ (-524288<=v.1/\v.1<=524288∧-524288<=v.2.1/\v.2.1<=524288∧-524288<=v.2.2/\v.2.2<=524288))->pPR false=pPR (CA v):=λh=>jH (Eq.symm (by
   rw[Bool.eq_false_iff];intro h2;simp only[CA,ac,ah] at h2;omega))
  refine cC (λh=>no (P:=True) (by omega)) λh1=>cC (λh=>no (P:=True) (by omega)) λh2=>cC (λh=>no (P:=True) (by omega)) λh3=>cC (λh=>no (P:=True) (by omega)) λh4=>cC (λh=>no (P:=True) (by omega)) λh5=>cC (λh=>no (P:=True) (by omega)) λh6=>jH ?_;simp only[CA];rw[ai (by omega),ai (by omega),ai (by omega),ai (by omega),ai (by omega),ai (by omega)];rfl
 ·cases h
def AHL (t:Int):Int:=if t<0\/24<=t then 0 else t
noncomputable def AML:Env:=Env.of []
def ANI:FuncId->Hint:=λ_=>bA
def YB:aU Tryz.prog AML:=.nil _
def F7(a0:Int)(R:T->Prop):Prop:=aC (decide (a0<0)) (R BKD) (aC (decide (24<=a0)) (R BKD) (R (BLP a0)))
abbrev H5:Sh:=[(false,(Sy.int IntKind.i64))]
def wC (t:Int):Option T:=some (T.v (Value.int .i64 (AHL t)))
noncomputable def uF:List T->Option T:=gS H5 wC
def VE {a0}:uF [pPP a0]=wC (a0):=bJ (s:=H5) rfl (a0) rfl
def AHV:w5 Tryz.prog 315 uF wC (cJ H5) F7:=j5 (a1:=(false,(Sy.int IntKind.i64))) (sp:=wC) (F:=F7) (Hs:=ANI) (f:=315) (k:=8) YB aZ a7 (aO rfl) ⟨_,_,Tryz.func315,rfl⟩ rfl λ_ _=>by kernel_rfl
def AGG:aP Tryz.prog 315 uF:=AHV λt r h hb=>by
 cases h;unfold F7 BLP BKD;exact cC (λh=>JX (by unfold AHL;rw[if_pos (.inl h)])) λh1=>cC (λh=>JX (by unfold AHL;rw[if_pos (.inr h)])) λh2=>JX (by unfold AHL;rw[if_neg (by omega)])
def tC (p:CL):Bool:=CA p.1&&decide (p.2=AHL p.2)
noncomputable def AS9:Env:=Env.of [(314,.pure uG),(315,.pure uF)]
def AV7:FuncId->Hint:=λ_=>bA
def AEI:aU Tryz.prog AS9:=.cons AGH (.cons AGG (.nil _))
def L5(a0:CL)(R:T->Prop):Prop:=aJ BKC (uG [aH true AR0 a0.1,pPP 524288]) λ(y0:Bool)=>aC y0 (aJ BKB (uF [pPP a0.2]) λ(y1:Int)=>R (pPR (decide (a0.2=y1)))) (R BJ9)
abbrev PG:Sh:=[(true,fD)]
def BE (p:CL):Option T:=some (pPR (tC p))
noncomputable def cL:List T->Option T:=gS PG BE
def I9 {a0}:cL [aH true fD a0]=BE (a0):=bJ (s:=PG) rfl (a0) rfl
def AQ8:w5 Tryz.prog 268 cL BE (cJ PG) L5:=j5 (a1:=(true,fD)) (sp:=BE) (F:=L5) (Hs:=AV7) (f:=268) (k:=8) AEI aZ a7 (aO rfl) ⟨_,_,Tryz.func268,rfl⟩ rfl λ_ _=>by kernel_rfl
def AO4:aP Tryz.prog 268 cL:=AQ8 λp r h hb=>by
 cases h;unfold L5 BKC BKB BJ9;refine aG (s:=[(false,.bool)]) (y:=CA p.1) (VF ..) ?_;refine wU (λh=>?_) λh=>jH (by unfold tC;rw[h];rfl);refine aG (s:=[(false,.int .i64)]) (y:=AHL p.2) (VE ..) ?_;exact jH (by unfold tC;rw[h];rfl)
def G5 (l:List Int) (i:Nat):Int:=if ¬ (1<=l.getD i 0/\l.getD i 0<=120) then 9 else if 0<i/\l.getD i 0<=l.getD (i-1) 0 then 11 else 0
def jR (g:gE):Int:=if isName g.1=false then 6 else if ¬ (1000<=g.2.1/\g.2.1<=20000/\100<=g.2.2.1/\g.2.2.1<=1500) then 9 else if g.2.2.2.length=0 then 3 else if 16<g.2.2.2.length then 4 else cG (G5 g.2.2.2) (range g.2.2.2.length)
def J1 (s:cN):Int:=if isName s.1=false then 6 else if ¬ (1<=s.2.1/\s.2.1<=1000000/\1<=s.2.2.1/\s.2.2.1<=2000/\100<=s.2.2.2/\s.2.2.2<=32768) then 9 else 0
def JE (s:iII) (K:Bool->Prop):aJ [(false,Sy.bool)] (iM [pPQ s]) K=K (isName s):=by
 rw[show iM [pPQ s]=uR s from xO];exact QO _ K
noncomputable def ASM:Env:=Env.of [(85,.pure iM)]
def AVP:FuncId->Hint:=cA 116 [(10,.inv [.val 34 false (.int .i64)])] (λ_=>bA)
def ADZ:aU Tryz.prog ASM:=.cons zZ (.nil _)
def BKA:T:=pPP 9
def BKG:Sy:=Sy.int IntKind.i64
def BKL:T:=pPP 6
def BKM:T:=pPP 11
def BL0(a0:gE):List (List T):=List.map BKG.enc a0.2.2.2
def LL(a0:gE)(R:T->Prop):Prop:=aJ BKC (iM [pPQ a0.1]) λ(y0:Bool)=>aC (!y0) (R BKL) (aC (decide (1000<=a0.2.1)) (aC (!decide (a0.2.1<=20000)) (R BKA) (aC (decide (100<=a0.2.2.1)) (aC (!decide (a0.2.2.1<=1500)) (R BKA) (aC (decide ((↑(BL0 a0).length:Int)=0)) (R (pPP 3)) (aC (decide (16<(↑(BL0 a0).length:Int))) (R (pPP 4)) (bD (Int×PUnit) (λX1 s2=>aC (decide (s2.1<(↑(BL0 a0).length:Int))) (aX BKG (BL0 a0) s2.1 λ(y3:Int)=>aC (decide (1<=y3)) (aC (!decide (y3<=120)) (R BKA) (aC (decide (0<s2.1)) (aX BKG (BL0 a0) (i64.wrap (s2.1-1)) λ(y4:Int)=>aC (decide (y3<=y4)) (R BKM) (BKW X1 s2)) (BKW X1 s2))) (R BKA)) (R BKD)) (0,()))))) (R BKA))) (R BKA))
abbrev OZ:Sh:=[(true,dH)]
def AY (g:gE):Option T:=some (T.v (Value.int .i64 (jR g)))
noncomputable def xR:List T->Option T:=gS OZ AY
def AAK {a0}:xR [aH true dH a0]=AY (a0):=bJ (s:=OZ) rfl (a0) rfl
def AQP:w5 Tryz.prog 116 xR AY (cJ OZ) LL:=j5 (a1:=(true,dH)) (sp:=AY) (F:=LL) (Hs:=AVP) (f:=116) (k:=8) ADZ aZ a7 (aO rfl) ⟨_,_,Tryz.func116,rfl⟩ rfl λ_ _=>by kernel_rfl
def vK {l:List α} {i:Nat} {d:α} (h:i<l.length):l.getD i d=l[i]:=by rw[List.getD_eq_getElem?_getD,getElem?_eq_getElem h];rfl
def VY {r:Sy} {l:List r.den} {k:Nat} (hk:k<l.length) (h0:0<k) (hl:l.length<=1000000) (K:r.den->Prop):aX r (List.map r.enc l) (i64.wrap ((k:Int)-1)) K=K (l[k-1]'(by omega)):=by
 rw[show i64.wrap ((k:Int)-1)=((k-1:Nat):Int) by rw[bH _ (by omega) (by omega)];omega];exact bK (by omega) K
def OH {k:Nat} (h:k<1000000):i64.wrap ((k:Int)+1)=((k+1:Nat):Int):=bH _ (by omega) (by omega)
def AOR:aP Tryz.prog 116 xR:=AQP λg r h hb=>by
 cases h;have is:∀ {n:Int},jR g=n->pPP n=pPP (jR g):=λh=>by rw[h]
 unfold LL BL0 BKW BKM BKL BKG BKD BKC BKA;rw[JE];refine iE (λh=>is (by unfold jR;rw[if_pos h])) λhn=>?_;have hn':¬ isName g.1=false:=by rw[hn];simp
 have r9:¬ (1000<=g.2.1/\g.2.1<=20000/\100<=g.2.2.1/\g.2.2.1<=1500)->pPP 9=pPP (jR g):=λh=>is (by unfold jR;rw[if_neg hn',if_pos h]);refine cC (λh1=>kU (λh=>r9 (by omega)) λh2=>cC (λh3=>kU (λh=>r9 (by omega)) λh4=>?_) λh=>r9 (by omega)) λh=>r9 (by omega);have hr:¬ ¬ (1000<=g.2.1/\g.2.1<=20000/\100<=g.2.2.1/\g.2.2.1<=1500):=by omega
 refine cC (λh=>is (by rw[ae] at h;unfold jR;rw[if_neg hn',if_neg hr,if_pos (by omega)])) λh5=>?_;refine cC (λh=>is (by rw[ae] at h h5;unfold jR;rw[if_neg hn',if_neg hr,if_neg (by omega),if_pos (by omega)])) λh6=>?_;rw[ae] at h5 h6;have w:jR g=cG (G5 g.2.2.2) (range g.2.2.2.length):=by unfold jR;rw[if_neg hn',if_neg hr,if_neg (by omega),if_neg (by omega)]
 refine r5 (r:=.int .i64) (G5 g.2.2.2) (by omega) (λX k hk hprev hok hbad=>?_) λh0=>is (w.trans h0);have hk:k<g.2.2.2.length:=hk;have bad:∀ {n:Int},n≠0->G5 g.2.2.2 k=n->pPP n=pPP (jR g):=λhn h=>is (w.trans ((hbad (by rw[h];exact hn)).trans h));have hE:G5 g.2.2.2 k=if ¬ (1<=g.2.2.2[k]/\g.2.2.2[k]<=120) then 9 else if 0<k/\g.2.2.2[k]<=g.2.2.2.getD (k-1) 0 then 11 else 0:=by unfold G5;rw[vK hk]
 dsimp only;rw[OH (by omega)];refine cC (λp1=>kU (λh=>bad (by decide) (by rw[hE,if_pos (by omega)])) λp2=>?_) λh=>bad (by decide) (by rw[hE,if_pos (by omega)]);refine cC (λp3=>?_) λp3=>hok (by rw[hE,if_neg (by omega),if_neg (by omega)]);have k0:0<k:=by omega
 rw[VY (r:=.int .i64) hk k0 (by omega)];have hg1:g.2.2.2.getD (k-1) 0=g.2.2.2[k-1]'(by omega):=vK (by omega);exact cC (λh=>bad (by decide) (by rw[hE,if_neg (by omega),hg1,if_pos ⟨k0,h⟩])) λh=>hok (by rw[hE,if_neg (by omega),hg1,if_neg (λhc=>h hc.2)])
noncomputable def ADL:Env:=Env.of [(85,.pure iM)]
def AE7:FuncId->Hint:=λ_=>bA
def TU:aU Tryz.prog ADL:=.cons zZ (.nil _)
def CH(a0:cN)(R:T->Prop):Prop:=aJ BKC (iM [pPQ a0.1]) λ(y0:Bool)=>aC (!y0) (R BKL) (aC (decide (1<=a0.2.1)) (aC (!decide (a0.2.1<=1000000)) (R BKA) (aC (decide (1<=a0.2.2.1)) (aC (!decide (a0.2.2.1<=2000)) (R BKA) (aC (decide (100<=a0.2.2.2)) (aC (!decide (a0.2.2.2<=32768)) (R BKA) (R BKD)) (R BKA))) (R BKA))) (R BKA))
abbrev DG:Sh:=[(true,bZ)]
def sG (s:cN):Option T:=some (T.v (Value.int .i64 (J1 s)))
noncomputable def qT:List T->Option T:=gS DG sG
def QF {a0}:qT [aH true bZ a0]=sG (a0):=bJ (s:=DG) rfl (a0) rfl
def AB6:w5 Tryz.prog 117 qT sG (cJ DG) CH:=j5 (a1:=(true,bZ)) (sp:=sG) (F:=CH) (Hs:=AE7) (f:=117) (k:=8) TU aZ a7 (aO rfl) ⟨_,_,Tryz.func117,rfl⟩ rfl λ_ _=>by kernel_rfl
def ZY:aP Tryz.prog 117 qT:=AB6 λs r h hb=>by
 cases h;have is:∀ {n:Int},J1 s=n->pPP n=pPP (J1 s):=λh=>by rw[h]
 unfold CH BKL BKD BKC BKA;rw[JE];refine iE (λh=>is (by unfold J1;rw[if_pos h])) λhn=>?_;have hn':¬ isName s.1=false:=by rw[hn];simp
 have r9:¬ (1<=s.2.1/\s.2.1<=1000000/\1<=s.2.2.1/\s.2.2.1<=2000/\100<=s.2.2.2/\s.2.2.2<=32768)->pPP 9=pPP (J1 s):=λh=>is (by unfold J1;rw[if_neg hn',if_pos h]);refine cC (λh1=>kU (λh=>r9 (by omega)) λh2=>cC (λh3=>kU (λh=>r9 (by omega)) λh4=>cC (λh5=>kU (λh=>r9 (by omega)) λh6=>is ?_) λh=>r9 (by omega)) λh=>r9 (by omega)) λh=>r9 (by omega);unfold J1;rw[if_neg hn',if_neg (by omega)]
def kN:gE:=(⟨#[]⟩,0,0,[])
def SZ (a b:iII):Bool:=cR a b||decide (a=b)
def x7 (m:aI) (i:Nat):Int:=if ¬ jR (m.1.getD i kN)=0 then jR (m.1.getD i kN) else if 0<i/\SZ (m.1.getD i kN).1 (m.1.getD (i-1) kN).1=true then 11 else 0
def ARR (m:aI) (i:Nat):Int:=if ¬ J1 (m.2.getD i B7)=0 then J1 (m.2.getD i B7) else if 0<i/\SZ (m.2.getD i B7).1 (m.2.getD (i-1) B7).1=true then 11 else 0
def BT (m:aI):Int:=if 16<m.1.length\/32<m.2.length then 4 else if ¬ cG (x7 m) (range m.1.length)=0 then cG (x7 m) (range m.1.length) else cG (ARR m) (range m.2.length)
noncomputable def ASL:Env:=Env.of [(116,.pure xR),(117,.pure qT)]
def AVO:FuncId->Hint:=cA 84 [(4,.inv [.val 22 false (.int .i64)]),(13,.inv [.val 50 false (.int .i64)])] (λ_=>bA)
def ADY:aU Tryz.prog ASL:=.cons AOR (.cons ZY (.nil _))
def BL5(a0:aI):List (List T):=List.map dH.enc a0.1
def LK(a0:aI)(R:T->Prop):Prop:=aC (decide (16<(↑(BL5 a0).length:Int))) (R (pPP 4)) (aC (decide (32<(↑(List.map bZ.enc a0.2).length:Int))) (R (pPP 4)) (bD (Int×PUnit) (λX0 s1=>aC (decide (s1.1<(↑(BL5 a0).length:Int))) (aX dH (BL5 a0) s1.1 λ(y2:gE)=>aJ BKB (xR [aH true dH y2]) λ(y3:Int)=>aC (!decide (y3=0)) (R (BLP y3)) (aC (decide (0<s1.1)) (aX dH (BL5 a0) (i64.wrap (s1.1-1)) λ(y4:gE)=>aC (cR y2.1 y4.1||decide (y2.1=y4.1)) (R BKM) (BKW X0 s1)) (BKW X0 s1))) (bD (Int×PUnit) (λX5 s6=>aC (decide (s6.1<(↑(List.map bZ.enc a0.2).length:Int))) (aX bZ (List.map bZ.enc a0.2) s6.1 λ(y7:cN)=>aJ BKB (qT [aH true bZ y7]) λ(y8:Int)=>aC (!decide (y8=0)) (R (BLP y8)) (aC (decide (0<s6.1)) (aX bZ (List.map bZ.enc a0.2) (i64.wrap (s6.1-1)) λ(y9:cN)=>aC (cR y7.1 y9.1||decide (y7.1=y9.1)) (R BKM) (BKW X5 s6)) (BKW X5 s6))) (R BKD)) (0,()))) (0,())))
abbrev OY:Sh:=[(true,aK)]
def AX (m:aI):Option T:=some (T.v (Value.int .i64 (BT m)))
noncomputable def xQ:List T->Option T:=gS OY AX
def AAJ {a0}:xQ [aH true aK a0]=AX (a0):=bJ (s:=OY) rfl (a0) rfl
def AQO:w5 Tryz.prog 84 xQ AX (cJ OY) LK:=j5 (a1:=(true,aK)) (sp:=AX) (F:=LK) (Hs:=AVO) (f:=84) (k:=8) ADY aZ a7 (aO rfl) ⟨_,_,Tryz.func84,rfl⟩ rfl λ_ _=>by kernel_rfl
def AOQ:aP Tryz.prog 84 xQ:=AQO λm r h hb=>by
 cases h;have is:∀ {n:Int},BT m=n->pPP n=pPP (BT m):=λh=>by rw[h]
 unfold LK BL5 BKW BLP BKM BKD BKB;refine cC (λh=>is (by rw[ae] at h;unfold BT;rw[if_pos (by omega)])) λh1=>?_;refine cC (λh=>is (by rw[ae] at h;unfold BT;rw[if_pos (by omega)])) λh2=>?_;rw[ae] at h1 h2;refine r5 (r:=dH) (x7 m) (by show m.1.length<=1000000;omega) (λX k hk hprev hok hbad=>?_) λh0=>?_
 ·have hk:k<m.1.length:=hk;have bad:∀ {n:Int},n≠0->x7 m k=n->pPP n=pPP (BT m):=λhn h=>is (by
   have hb:=(hbad (by rw[h];exact hn)).trans h;unfold BT;rw[if_neg (by omega),if_pos (by rw[hb];exact hn),hb])
  have hE:x7 m k=if ¬ jR m.1[k]=0 then jR m.1[k] else if 0<k/\SZ m.1[k].1 (m.1.getD (k-1) kN).1=true then 11 else 0:=by unfold x7;rw[vK hk]
  dsimp only;rw[OH (by omega)];refine aG (s:=[(false,.int .i64)]) (y:=jR m.1[k]) (AAK ..) ?_;refine kU (λh=>bad h (by rw[hE,if_pos h])) λp1=>?_;refine cC (λp3=>?_) λp3=>hok (by rw[hE,if_neg (λh=>h p1),if_neg (by omega)]);have k0:0<k:=by omega
  rw[VY (r:=dH) hk k0 (by show m.1.length<=1000000;omega)];have hg1:m.1.getD (k-1) kN=m.1[k-1]'(by omega):=vK (by omega);exact wU (λh=>bad (by decide) (by rw[hE,if_neg (λh=>h p1),hg1,if_pos ⟨k0,h⟩])) λh=>hok (by rw[hE,if_neg (λh=>h p1),hg1,if_neg (λhc=>by rw[show SZ m.1[k].1 (m.1[k-1]'(by omega)).1=false from h] at hc;cases hc.2)])
 ·have w:BT m=cG (ARR m) (range m.2.length):=by unfold BT;rw[if_neg (by omega),if_neg (λh=>h h0)]
  refine r5 (r:=bZ) (ARR m) (by show m.2.length<=1000000;omega) (λX k hk hprev hok hbad=>?_) λh0=>is (w.trans h0);have hk:k<m.2.length:=hk;have bad:∀ {n:Int},n≠0->ARR m k=n->pPP n=pPP (BT m):=λhn h=>is (w.trans ((hbad (by rw[h];exact hn)).trans h));have hE:ARR m k=if ¬ J1 m.2[k]=0 then J1 m.2[k] else if 0<k/\SZ m.2[k].1 (m.2.getD (k-1) B7).1=true then 11 else 0:=by unfold ARR;rw[vK hk]
  dsimp only;rw[OH (by omega)];refine aG (s:=[(false,.int .i64)]) (y:=J1 m.2[k]) (QF ..) ?_;refine kU (λh=>bad h (by rw[hE,if_pos h])) λp1=>?_;refine cC (λp3=>?_) λp3=>hok (by rw[hE,if_neg (λh=>h p1),if_neg (by omega)]);have k0:0<k:=by omega
  rw[VY (r:=bZ) hk k0 (by show m.2.length<=1000000;omega)];have hg1:m.2.getD (k-1) B7=m.2[k-1]'(by omega):=vK (by omega);exact wU (λh=>bad (by decide) (by rw[hE,if_neg (λh=>h p1),hg1,if_pos ⟨k0,h⟩])) λh=>hok (by rw[hE,if_neg (λh=>h p1),hg1,if_neg (λhc=>by rw[show SZ m.2[k].1 (m.2[k-1]'(by omega)).1=false from h] at hc;cases hc.2)])
def gP (m:aI) (n:iII):Option gE:=m.1.find? λg=>decide (g.1=n)
def okM (m:aI):Bool:=decide (m.1.length<=1000)&&decide (m.2.length<=1000)&&m.1.all λg=>decide (g.2.2.2.length<=1000)
def E0 (m:aI) (r:α):Option α:=match okM m with
 | true=>some r
 | false=>none
variable {m:aI}
def zA {t r:α} (h:E0 m t=some r):okM m=true/\r=t:=by
 unfold E0 at h;split at h
 ·rename_i hc;cases h;exact ⟨hc,rfl⟩
 ·cases h
def zB (t:α) (h:okM m=true):E0 m t=some t:=by unfold E0;rw[h]
def ANW:TR Tryz.prog 318 1 8:=⟨λR=>by kernel_rfl,λfl R=>by kernel_rfl,λfl a rows R=>by kernel_rfl⟩
noncomputable def ED:List T->Option T:=gS [(false,.li (.int .i64))] (fC (.int .i64) 8)
def Z9 {u0}:ED [T.sl false (List.map (Sy.enc (.int .i64)) u0)]=fC (.int .i64) 8 u0:=bJ (s:=[(false,.li (.int .i64))]) rfl u0 rfl
def AOL:aP Tryz.prog 318 ED:=GH aZ a7 ⟨_,_,Tryz.func318,rfl⟩ ANW
noncomputable def ASK:Env:=Env.of [(318,.pure ED)]
def AVN:FuncId->Hint:=cA 316 [(2,.inv [.val 8 false (.int .i64)])] (λ_=>bA)
def ADX:aU Tryz.prog ASK:=.cons AOL (.nil _)
def BKK:List T:=[T.agg [pPQ ({data:=#[]}),pPP 0, pPP 0,T.sl false []], pPR false]
def LJ(a0:aI)(a1:iII)(R:T->Prop):Prop:=bD (Int×PUnit) (λX0 s1=>aC (decide (s1.1<(↑(BL5 a0).length:Int))) (aX dH (BL5 a0) s1.1 λ(y2:gE)=>aC (decide (y2.1=a1)) (aC (decide (s1.1<0)) (R (T.b9 BKK)) (aX dH (BL5 a0) s1.1 λ(y3:gE)=>aJ [(false,BKG.li)] (ED [T.sl false (BL0 y3)]) λ(y4:List Int)=>R (T.b9 [T.agg [pPQ y3.1,pPP y3.2.1, pPP y3.2.2.1, T.sl false (List.map BKG.enc y4)], pPR true]))) (BKW X0 s1)) (R (T.b9 BKK))) (0,())
abbrev OX:Sh:=[(true,aK),(false,Sy.str)]
def AV (x:aI×iII):Option T:=E0 x.1 (Sh.enc [(true,dH),(false,.bool)] (found kN (gP x.1 x.2)))
noncomputable def gI:List T->Option T:=gS OX AV
def AAI {a0 a1}:gI [aH true aK a0,pPQ a1]=AV (a0,a1):=bJ (s:=OX) rfl (a0,a1) rfl
def AQN:sP Tryz.prog 269 gI AV (cJ OX) LJ:=iH (a1:=(true,aK)) (a2:=(false,Sy.str)) (sp:=AV) (F:=LJ) (Hs:=AVN) (f:=269) (k:=8) ADX aZ a7 (aO rfl) ⟨_,_,Tryz.func269,rfl⟩ rfl λ_ _ _=>by kernel_rfl
def GQ:aP Tryz.prog 269 gI:=AQN λm n r h hb=>by
 obtain ⟨hok,rfl⟩:=zA h;clear h;simp only[okM,ac,ah] at hok;unfold LJ BL5 BL0 BKW BKK BKG;refine bP m.1.length (λk s=>s=((k:Int),())/\(m.1.drop k).find? (λs=>decide (s.1=n))=gP m n) ⟨rfl,rfl⟩ ?_;rintro X k s hk ⟨rfl,hf⟩ hX;dsimp only;refine cC (λhlt=>?_) λhge=>?_
 ·rw[ae] at hlt;have hlt:k<m.1.length:=by omega
  rw[qB hlt] at hf;rw[bK (r:=dH) hlt];refine cC (λhc=>?_) λhc=>?_
  ·rw[if_pos (ai hc)] at hf;refine cC (λh=>by omega) λ_=>?_;rw[bK (r:=dH) hlt];have hg:m.1[k].2.2.2.length<=1000:=by
    have:=all_eq_true.1 hok.2 _ (ak hlt);exact of_decide_eq_true this
   refine aG (s:=[(false,.li (.int .i64))]) (y:=m.1[k].2.2.2) ?_ ?_
   ·rw[Z9];unfold fC pX;rw[show (decide (m.1[k].2.2.2.length*8<=140737488355328)&&decide (m.1[k].2.2.2.length<=140737488355328))=true by simp only[ac,ah];omega];rfl
   ·show _=Sh.enc [(true,dH),(false,.bool)] (found kN (gP m n));rw[<-hf];rfl
  ·rw[if_neg (by simpa using hc)] at hf;exact hX _ hlt ⟨by rw[OH (by omega)],hf⟩
 ·rw[ae] at hge;have:k=m.1.length:=by omega
  subst this;rw[drop_length] at hf;show _=Sh.enc [(true,dH),(false,.bool)] (found kN (gP m n));rw[<-hf];rfl
def vX (m:aI) (n:iII) (t:Int):Bool:=match gP m n with
 | some g=>g.2.2.2.any λx=>decide (t=x)
 | none=>false
noncomputable def AME:Env:=Env.of [(269,.pure gI)]
def ANA:FuncId->Hint:=cA 354 [(2,.inv [.val 8 false (.int .i64)])] (λ_=>bA)
def XU:aU Tryz.prog AME:=.cons GQ (.nil _)
def BKI:Sh:=[(true,dH),(false,Sy.bool)]
def BLQ(s2:Int×PUnit):T:=pPR (decide (0<=s2.1))
def F0(a0:aI)(a1:iII)(a2:Int)(R:T->Prop):Prop:=aJ BKI (gI [aH true aK a0,pPQ a1]) λ(y0:gE×Bool)=>aC y0.2 (bD (Int×PUnit) (λX1 s2=>aC (decide (s2.1<(↑(List.map BKG.enc y0.1.2.2.2).length:Int))) (aX BKG (List.map BKG.enc y0.1.2.2.2) s2.1 λ(y3:Int)=>aC (decide (a2=y3)) (R (BLQ s2)) (BKW X1 s2)) (R BJ9)) (0,())) (R BJ9)
abbrev HW:Sh:=[(true,aK),(false,Sy.str),(false,(Sy.int IntKind.i64))]
def vY (x:aI×iII×Int):Option T:=E0 x.1 (pPR (vX x.1 x.2.1 x.2.2))
noncomputable def kM:List T->Option T:=gS HW vY
def U5 {a0 a1 a2}:kM [aH true aK a0,pPQ a1,pPP a2]=vY (a0,a1,a2):=bJ (s:=HW) rfl (a0,a1,a2) rfl
def AHO:Of3 Tryz.prog 309 kM vY (cJ HW) F0:=AB5 (a1:=(true,aK)) (a2:=(false,Sy.str)) (a3:=(false,(Sy.int IntKind.i64))) (sp:=vY) (F:=F0) (Hs:=ANA) (f:=309) (k:=8) XU aZ a7 (aO rfl) ⟨_,_,Tryz.func309,rfl⟩ rfl λ_ _ _ _=>by kernel_rfl
def xP (h:okM m=true) (n:iII):gI [aH true aK m,pPQ n]=some (Sh.enc [(true,dH),(false,.bool)] (found kN (gP m n))):=(AAI ..).trans (zB _ h)
def AGC:aP Tryz.prog 309 kM:=AHO λm n t r h hb=>by
 obtain ⟨hok,rfl⟩:=zA h;clear h;unfold F0 BLQ BKW BKI BKG BJ9;refine aG (s:=[(true,dH),(false,.bool)]) (xP hok n) ?_;cases hg:gP m n with
 | none =>
  show aC false _ _;rw[o7];exact jH (by unfold vX;rw[hg])
 | some g =>
  show aC true _ _;rw[jS];dsimp only[found];have hlen:g.2.2.2.length<=1000:=by
   simp only[okM,ac,ah] at hok;exact of_decide_eq_true (all_eq_true.1 hok.2 _ (List.mem_of_find?_eq_some hg))
  have w:vX m n t=g.2.2.2.any λx=>decide (t=x):=by unfold vX;rw[hg]
  refine bP g.2.2.2.length (λk s=>s=((k:Int),())/\g.2.2.2.any (λx=>decide (t=x))=(g.2.2.2.drop k).any λx=>decide (t=x)) ⟨rfl,by rw[drop_zero]⟩ ?_;rintro X k s hk ⟨rfl,hf⟩ hX;dsimp only;refine cC (λhlt=>?_) λhge=>jH ?_
  ·rw[ae] at hlt;have hlt:k<g.2.2.2.length:=by omega
   rw[drop_eq_getElem_cons hlt,List.any_cons] at hf;rw[bK (r:=.int .i64) hlt];refine cC (λhc=>jH ?_) λhc=>hX _ hlt ⟨by rw[OH (by omega)],by rw[hf,aj hc,Bool.false_or]⟩;rw[w,hf,ai hc,ai (show 0<=(k:Int) by omega)];rfl
  ·rw[ae] at hge;have:k=g.2.2.2.length:=by omega
   subst this;rw[w,hf,drop_length];rfl
abbrev gF (p:a8):Int:=p.2.2.1
abbrev nP (p:a8):iII:=p.2.2.2.1
abbrev iC (p:a8):iII:=p.2.2.2.2.1
abbrev o5 (p:a8):Int:=p.2.2.2.2.2.1
abbrev lW (p:a8):jQ:=p.2.2.2.2.2.2.1
abbrev YU (p:a8):iII:=p.2.2.2.2.2.2.2.1
abbrev AFC (p:a8):Int:=p.2.2.2.2.2.2.2.2.1
abbrev IT (p:a8):Int:=p.2.2.2.2.2.2.2.2.2.1
abbrev JT (p:a8):ANK:=p.2.2.2.2.2.2.2.2.2.2.1
abbrev aAt (p:a8):CL:=p.2.2.2.2.2.2.2.2.2.2.2
def WN (p:a8):Bool:=!decide (o5 p=0)||decide (0<(lW p).1.length+(lW p).2.length)
def A7B (p:a8):Bool:=!decide (YU p = { data:=#[] }) || !decide (AFC p=0)
def A9X (p:a8):Bool:=!decide (IT p=0) || !(decide ((JT p).1=0)&&(decide ((JT p).2.1=0)&&decide ((JT p).2.2=0)))
def oC (p:a8):Bool:=if gF p=1 then A7B p||A9X p else if gF p=2\/gF p=3 then WN p||A9X p else !decide (iC p = { data:=#[] })||(WN p||A7B p)
noncomputable def ASR:Env:=Env.of []
def AVT:FuncId->Hint:=λf=>match f == 264 with|true=>⟨λ_=>.none,λi j=>match i == 1&&j == 1 with|true=>some [.val 3 false .bool]|false=>match i == 2&&j == 2 with|true=>some [.val 4 false .bool]|false=>match i == 3&&j == 3 with|true=>some [.val 5 false .bool]|false=>none,λ_=>none⟩|false=>bA
def AD3:aU Tryz.prog ASR:=.nil _
def BL7(s3:Bool×PUnit)(R:T->Prop)(s5:Bool×PUnit):Prop:=aC s3.1 (R BKF) (R (pPR s5.1))
def LP(a0:a8)(R:T->Prop):Prop:=sB (Bool×PUnit) (λ(X0:Bool×PUnit->Prop)=>aC (!decide (a0.2.2.2.2.2.1=0)) (X0 (true,())) (X0 (decide (0 < i64.wrap ((↑(List.map aA.enc a0.2.2.2.2.2.2.1.1).length:Int) + (↑(List.map aA.li.enc a0.2.2.2.2.2.2.1.2).length:Int))), ()))) λ(s1:Bool×PUnit)=>sB (Bool×PUnit) (λ(X2:Bool×PUnit->Prop)=>aC (!decide (a0.2.2.2.2.2.2.2.1 = {data:=#[]})) (X2 (true,())) (X2 (!decide (a0.2.2.2.2.2.2.2.2.1=0),()))) λ(s3:Bool×PUnit)=>sB (Bool×PUnit) (λ(X4:Bool×PUnit->Prop)=>aC (!decide (a0.2.2.2.2.2.2.2.2.2.1=0)) (X4 (true,())) (X4 (!(decide (a0.2.2.2.2.2.2.2.2.2.2.1.1=0) && (decide (a0.2.2.2.2.2.2.2.2.2.2.1.2.1=0) && (decide (a0.2.2.2.2.2.2.2.2.2.2.1.2.2=0)&&true))), ()))) λ(s5:Bool×PUnit)=>aC (decide (a0.2.2.1=1)) (BL7 s3 R s5) (aC (decide (a0.2.2.1=2)) (BL7 s1 R s5) (aC (decide (a0.2.2.1=3)) (BL7 s1 R s5) (aC (decide (a0.2.2.1=4)) (aC (!decide (a0.2.2.2.2.1 = {data:=#[]})) (R BKF) (BL7 s1 R s3)) (aC (!decide (a0.2.2.2.2.1 = {data:=#[]})) (R BKF) (BL7 s1 R s3)))))
abbrev O3:Sh:=[(true,aN)]
def A6 (p:a8):Option T:=some (pPR (oC p))
noncomputable def mY:List T->Option T:=gS O3 A6
def AAP {a0}:mY [aH true aN a0]=A6 (a0):=bJ (s:=O3) rfl (a0) rfl
def AQT:w5 Tryz.prog 264 mY A6 (cJ O3) LP:=j5 (a1:=(true,aN)) (sp:=A6) (F:=LP) (Hs:=AVT) (f:=264) (k:=8) AD3 aZ a7 (aO rfl) ⟨_,_,Tryz.func264,rfl⟩ rfl λ_ _=>by kernel_rfl
def VM {a b:Bool} {n:Bool} (h:n=(a||b)):aC a (pPR true=pPR n) (pPR b=pPR n):=by
 subst h;cases a<;>rfl
def AOT:aP Tryz.prog 264 mY:=AQT λp r h hb=>by
 have b1:(lW p).1.length<=2 ^ 47:=hb.2.2.2.2.2.2.1.1.1;have b2:(lW p).2.length<=2 ^ 47:=hb.2.2.2.2.2.2.1.2.1;cases h;unfold LP BL7 BKF;have j:∀ {a b:Bool} {K:Bool×PUnit->Prop},K (a||b,())->sB (Bool×PUnit) (λ(X:Bool×PUnit->Prop)=>aC a (X (true,())) (X (b,()))) K:=λ{a b K} hK=>by
  rw[AI];cases a<;>exact hK
 have e1:decide (0<i64.wrap (((List.map aA.enc (lW p).1).length:Int)+((List.map aA.li.enc (lW p).2).length:Int)))=decide (0<(lW p).1.length+(lW p).2.length):=by
  rw[ae,ae,bH _ (by omega) (by omega)];exact decide_eq_decide.2 (by omega)
 refine j ?_;refine j ?_;refine j ?_;dsimp only;rw[e1,Bool.and_true];refine cC (λh=>VM (by unfold oC;rw[if_pos h];rfl)) λk1=>?_;refine cC (λh=>VM (by unfold oC;rw[if_neg k1,if_pos (.inl h)];rfl)) λk2=>?_;refine cC (λh=>VM (by unfold oC;rw[if_neg k1,if_pos (.inr h)];rfl)) λk3=>?_;have w:oC p=(!decide (iC p = { data:=#[] })||(WN p||A7B p)):=by
  unfold oC;rw[if_neg k1,if_neg];rintro (h|h)
  ·exact k2 h
  ·exact k3 h
 have fin:aC (!decide (iC p = { data:=#[] })) (pPR true=pPR (oC p)) (aC (WN p) (pPR true=pPR (oC p)) (pPR (A7B p)=pPR (oC p))):=by
  rw[w];cases (!decide (iC p = { data:=#[] })) with
  | true=>rfl
  | false=>exact VM rfl
 exact cC (λ_=>fin) λ_=>fin
def ALI (m:aI) (n:iII):Bool:=match PK m n with
 | some s=>decide (1<=s.2.1)&&decide (s.2.1<=1000000)&&(decide (1<=s.2.2.1)&&decide (s.2.2.1<=2000))
 | none=>false
def iB (p:a8) (m:aI):Bool:=if gF p=4 then true else match gP m (iC p) with
 | none=>false
 | some g=>decide (1000<=g.2.1)&&decide (g.2.1<=20000)&&(if gF p=1 then decide (1<=o5 p)&&decide (o5 p<=120)&&vX m (iC p) (o5 p) else ALI m (YU p))
noncomputable def A3M:Env:=Env.of [(269,.pure gI),(270,.pure cS),(309,.pure kM)]
def A42:FuncId->Hint:=λ_=>bA
def AMT:aU Tryz.prog A3M:=.cons GQ (.cons NL (.cons AGC (.nil _)))
def BKE:Sh:=[(true,bZ),(false,Sy.bool)]
def BLS(y2:cN×Bool)(R:T->Prop):Prop:=aC y2.2 (aC (decide (1<=y2.1.2.1)) (aC (decide (y2.1.2.1<=1000000)) (aC (decide (1<=y2.1.2.2.1)) (R (pPR (decide (y2.1.2.2.1<=2000)))) (R BJ9)) (R BJ9)) (R BJ9)) (R BJ9)
def BKS(a1:aI)(a0:a8)(R:T->Prop):Prop:=aJ BKE (cS [aH true aK a1, pPQ a0.2.2.2.2.2.2.2.1]) λ(y3:cN×Bool)=>BLS y3 R
def BLR(a0:a8)(a1:aI)(R:T->Prop):Prop:=aC (decide (1<=a0.2.2.2.2.2.1)) (aC (decide (a0.2.2.2.2.2.1<=120)) (aJ BKC (kM [aH true aK a1,pPQ a0.2.2.2.2.1, pPP a0.2.2.2.2.2.1]) λ(y1:Bool)=>R (pPR y1)) (R BJ9)) (R BJ9)
def BL9(a0:a8)(a1:aI)(R:T->Prop):Prop:=aC (decide (a0.2.2.1=3)) (BKS a1 a0 R) (aC (decide (a0.2.2.1=4)) (BKS a1 a0 R) (BKS a1 a0 R))
def BMA(a1:aI)(a0:a8):List T:=[aH true aK a1,pPQ a0.2.2.2.2.1]
def BK1(a1:aI)(a0:a8)(R:T->Prop):Prop:=aJ BKI (gI (BMA a1 a0)) λ(y6:gE×Bool)=>aC (!y6.2) (R BJ9) (aC (decide (1000<=y6.1.2.1)) (aC (!decide (y6.1.2.1<=20000)) (R BJ9) (aC (decide (a0.2.2.1=1)) (BLR a0 a1 R) (aC (decide (a0.2.2.1=2)) (BKS a1 a0 R) (BL9 a0 a1 R)))) (R BJ9))
def T4(a0:a8)(a1:aI)(R:T->Prop):Prop:=aC (decide (a0.2.2.1=1)) (aJ BKI (gI (BMA a1 a0)) λ(y0:gE×Bool)=>aC (!y0.2) (R BJ9) (aC (decide (1000<=y0.1.2.1)) (aC (!decide (y0.1.2.1<=20000)) (R BJ9) (aC (decide (a0.2.2.1=1)) (BLR a0 a1 R) (aC (decide (a0.2.2.1=2)) (aJ BKE (cS [aH true aK a1,pPQ a0.2.2.2.2.2.2.2.1]) λ(y2:cN×Bool)=>BLS y2 R) (BL9 a0 a1 R)))) (R BJ9))) (aC (decide (a0.2.2.1=2)) (BK1 a1 a0 R) (aC (decide (a0.2.2.1=3)) (BK1 a1 a0 R) (aC (decide (a0.2.2.1=4)) (R BKF) (BK1 a1 a0 R))))
abbrev WC:Sh:=[(true,aN),(true,aK)]
def FK (x:a8×aI):Option T:=E0 x.2 (pPR (iB x.1 x.2))
noncomputable def pQ:List T->Option T:=gS WC FK
def AGS {a0 a1}:pQ [aH true aN a0,aH true aK a1]=FK (a0,a1):=bJ (s:=WC) rfl (a0,a1) rfl
def A01:sP Tryz.prog 265 pQ FK (cJ WC) T4:=iH (a1:=(true,aN)) (a2:=(true,aK)) (sp:=FK) (F:=T4) (Hs:=A42) (f:=265) (k:=8) AMT aZ a7 (aO rfl) ⟨_,_,Tryz.func265,rfl⟩ rfl λ_ _ _=>by kernel_rfl
def EI (m:aI) (n:iII):cS [aH true aK m,pPQ n]=some (Sh.enc [(true,bZ),(false,.bool)] (found B7 (PK m n))):=VD ..
def AXU:aP Tryz.prog 265 pQ:=A01 λp m r h hb=>by
 obtain ⟨hok,rfl⟩:=zA h;replace hok:okM m=true:=hok;clear h;have is:∀ {n:Bool},iB p m=n->pPR n=pPR (iB p m):=λh=>by rw[h]
 unfold T4 BK1 BMA BL9 BLR BKS BLS BKI BKF BKE BKC BJ9;have sec:∀ {g:gE},gP m (iC p)=some g->¬ gF p=4->¬ gF p=1->1000<=g.2.1->g.2.1<=20000 ->
   aJ [(true,bZ),(false,Sy.bool)] (cS [aH true aK m,pPQ (YU p)])
    λ(y2:cN×Bool) =>
    aC y2.2
     (aC (decide (1<=y2.1.2.1))
      (aC (decide (y2.1.2.1<=1000000))
       (aC (decide (1<=y2.1.2.2.1))
        (pPR (decide (y2.1.2.2.1<=2000))=pPR (iB p m))
        (pPR false=pPR (iB p m)))
       (pPR false=pPR (iB p m)))
      (pPR false=pPR (iB p m)))
     (pPR false=pPR (iB p m)):=by
  intro g hg k4 k1 d1 d2;have w:iB p m=ALI m (YU p):=by
   unfold iB;rw[if_neg k4,hg];dsimp only;rw[ai d1,ai d2,if_neg k1];rfl
  refine aG (s:=[(true,bZ),(false,.bool)]) (EI m _) ?_;cases hs:PK m (YU p) with
  | none =>
   show aC false _ _;rw[o7];exact is (by rw[w];unfold ALI;rw[hs])
  | some s =>
   show aC true _ _;rw[jS];dsimp only[found];have w2:iB p m=(decide (1<=s.2.1)&&decide (s.2.1<=1000000)&&(decide (1<=s.2.2.1)&&decide (s.2.2.1<=2000))):=by rw[w];unfold ALI;rw[hs]
   refine cC (λh1=>cC (λh2=>cC (λh3=>is ?_) λh3=>is ?_) λh2=>is ?_) λh1=>is ?_
   ·rw[w2,ai h1,ai h2,ai h3];rfl
   ·rw[w2,ai h1,ai h2,aj h3];rfl
   ·rw[w2,ai h1,aj h2];rfl
   ·rw[w2,aj h1];rfl
 have plate:∀ {g:gE},gP m (iC p)=some g->gF p=1->1000<=g.2.1->g.2.1<=20000 ->
   aC (decide (1<=o5 p)) (aC (decide (o5 p<=120)) (aJ [(false,Sy.bool)] (kM [aH true aK m,pPQ (iC p),pPP (o5 p)]) λ(y1:Bool)=>pPR y1=pPR (iB p m)) (pPR false=pPR (iB p m))) (pPR false=pPR (iB p m)):=by
  intro g hg k1 d1 d2;have w:iB p m=(decide (1<=o5 p)&&decide (o5 p<=120)&&vX m (iC p) (o5 p)):=by
   unfold iB;rw[if_neg (by omega),hg];dsimp only;rw[ai d1,ai d2,if_pos k1];rfl
  refine cC (λh1=>cC (λh2=>?_) λh2=>is ?_) λh1=>is ?_
  ·refine aG (s:=[(false,.bool)]) (y:=vX m (iC p) (o5 p)) ((U5 ..).trans (zB _ hok)) (is ?_);rw[w,ai h1,ai h2];rfl
  ·rw[w,ai h1,aj h2];rfl
  ·rw[w,aj h1];rfl
 by_cases k4:p.2.2.1=4
 ·have w:iB p m=true:=by unfold iB;rw[if_pos k4]
  repeat' first
   | (exfalso;omega)
   | exact is w
   | refine cC (λh=>?_) (λh=>?_)
 ·have hnone:gP m (iC p)=none->iB p m=false:=λh=>by unfold iB;rw[if_neg k4,h]
  have dens:∀ {g:gE},gP m (iC p)=some g->¬ (1000<=g.2.1/\g.2.1<=20000)->iB p m=false:=λ{g} hg h=>by
   unfold iB;rw[if_neg k4,hg];dsimp only;by_cases h1:1000<=g.2.1
   ·rw[aj (show ¬ g.2.1<=20000 by omega),Bool.and_false,Bool.false_and]
   ·rw[aj h1,Bool.false_and,Bool.false_and]
  have call:∀ {K:gE×Bool->Prop},(gP m (iC p)=none->K (kN,false))->(∀ g,gP m (iC p)=some g->K (g,true))->aJ [(true,dH),(false,Sy.bool)] (gI [aH true aK m,pPQ p.2.2.2.2.1]) K:=λ{K} h1 h2=>by
   refine aG (s:=[(true,dH),(false,.bool)]) (xP hok _) ?_;cases hg:gP m (iC p) with
   | none=>exact h1 hg
   | some g=>exact h2 g hg
  have body:∀ {K:gE×Bool->Prop},(∀ g,gP m (iC p)=some g->1000<=g.2.1->g.2.1<=20000->K (g,true))->aJ [(true,dH),(false,Sy.bool)] (gI [aH true aK m,pPQ p.2.2.2.2.1]) λ(y0:gE×Bool)=>aC (!y0.2) (pPR false=pPR (iB p m)) (aC (decide (1000<=y0.1.2.1)) (aC (!decide (y0.1.2.1<=20000)) (pPR false=pPR (iB p m)) (K y0)) (pPR false=pPR (iB p m))):=λ{K} hK=>by
   refine call (λhn=>?_) λg hg=>?_
   ·show aC true _ _;rw[jS];exact is (hnone hn)
   ·show aC false _ _;rw[o7];exact cC (λd1=>kU (λd2=>is (dens hg (λh=>d2 h.2))) λd2=>hK g hg d1 d2) λd1=>is (dens hg (λh=>d1 h.1))
  refine cC (λh=>body λg hg d1 d2=>?_) λh1=>cC (λh=>body λg hg d1 d2=>?_) λh2=>cC (λh=>body λg hg d1 d2=>?_) λh3=>cC (λh=>absurd h k4) λ_=>body λg hg d1 d2=>?_
  all_goals
   repeat' first
    | (exfalso;omega)
    | exact plate hg (by assumption) d1 d2
    | exact sec hg k4 (by assumption) d1 d2
    | exact sec hg k4 (by intro h';have h'':p.2.2.1=1:=h';omega) d1 d2
    | refine cC (λh=>?_) (λh=>?_)
def pJ (p:a8) (m:aI):Int:=if pU p.1=false\/pU (nP p)=false then 6 else if ¬ (1<=p.2.1/\p.2.1<=1000) then 9 else if ¬ (gF p=1\/gF p=2\/gF p=3\/gF p=4) then 10 else if oC p=true then 2 else if iB p m=false then 23 else
 if gF p=1/\¬ zG (lW p)=0 then zG (lW p) else if (gF p=2\/gF p=3)/\¬ (1<=AFC p/\AFC p<=32768) then 9 else if gF p=4/\¬ (1<=IT p/\IT p<=1099511627776/\CA (JT p)=true) then 9 else if tC (aAt p)=false then 9 else 0
noncomputable def AMH:Env:=Env.of [(64,.pure eM),(264,.pure mY),(265,.pure pQ),(266,.pure jK),(268,.pure cL)]
def ANE:FuncId->Hint:=λ_=>bA
def XX:aU Tryz.prog AMH:=.cons D5 (.cons AOT (.cons AXU (.cons RH (.cons AO4 (.nil _)))))
def BKH:T:=pPP 2
def BKP:T:=pPP 23
def BLG(a0:a8)(R:T->Prop):Prop:=aJ BKC (cL [aH true fD a0.2.2.2.2.2.2.2.2.2.2.2]) λ(y5:Bool)=>aC (!y5) (R BKA) (R BKD)
def BL2(a0:a8)(R:T->Prop):Prop:=aC (decide (1<=a0.2.2.2.2.2.2.2.2.1)) (aC (!decide (a0.2.2.2.2.2.2.2.2.1<=32768)) (R BKA) (BLG a0 R)) (R BKA)
def BKR(a0:a8)(R:T->Prop)(a1:aI):Prop:=aJ BKC (mY [aH true aN a0]) λ(y2:Bool)=>aC y2 (R BKH) (aJ BKC (pQ [aH true aN a0,aH true aK a1]) λ(y3:Bool)=>aC (!y3) (R BKP) (aC (decide (a0.2.2.1=1)) (aJ BKB (jK [aH true eP a0.2.2.2.2.2.2.1]) λ(y4:Int)=>aC (!decide (y4=0)) (R (BLP y4)) (BLG a0 R)) (aC (decide (a0.2.2.1=2)) (BL2 a0 R) (aC (decide (a0.2.2.1=3)) (BL2 a0 R) (aC (decide (a0.2.2.1=4)) (aC (decide (1<=a0.2.2.2.2.2.2.2.2.2.1)) (aC (!decide (a0.2.2.2.2.2.2.2.2.2.1<=1099511627776)) (R BKA) (aJ BKC (cL [T.agg [pPP a0.2.2.2.2.2.2.2.2.2.2.1.1, pPP a0.2.2.2.2.2.2.2.2.2.2.1.2.1, pPP a0.2.2.2.2.2.2.2.2.2.2.1.2.2, pPP 0]]) λ(y8:Bool)=>aC (!y8) (R BKA) (BLG a0 R))) (R BKA)) (BLG a0 R))))))
def F3(a0:a8)(a1:aI)(R:T->Prop):Prop:=aJ BKC (eM [pPQ a0.1]) λ(y0:Bool)=>aC (!y0) (R BKL) (aJ BKC (eM [pPQ a0.2.2.2.1]) λ(y1:Bool)=>aC (!y1) (R BKL) (aC (decide (1<=a0.2.1)) (aC (!decide (a0.2.1<=1000)) (R BKA) (aC (decide (a0.2.2.1=1)) (BKR a0 R a1) (aC (decide (a0.2.2.1=2)) (BKR a0 R a1) (aC (decide (a0.2.2.1=3)) (BKR a0 R a1) (aC (decide (a0.2.2.1=4)) (BKR a0 R a1) (R (pPP 10))))))) (R BKA)))
abbrev HZ:Sh:=[(true,aN),(true,aK)]
def v8 (x:a8×aI):Option T:=E0 x.2 (T.v (Value.int .i64 (pJ x.1 x.2)))
noncomputable def mF:List T->Option T:=gS HZ v8
def U9 {a0 a1}:mF [aH true aN a0,aH true aK a1]=v8 (a0,a1):=bJ (s:=HZ) rfl (a0,a1) rfl
def AHR:sP Tryz.prog 129 mF v8 (cJ HZ) F3:=iH (a1:=(true,aN)) (a2:=(true,aK)) (sp:=v8) (F:=F3) (Hs:=ANE) (f:=129) (k:=8) XX aZ a7 (aO rfl) ⟨_,_,Tryz.func129,rfl⟩ rfl λ_ _ _=>by kernel_rfl
def NK:aP Tryz.prog 129 mF:=AHR λp m r h hb=>by
 obtain ⟨hok,rfl⟩:=zA h;replace hok:okM m=true:=hok;clear h hb;have is:∀ {n:Int},pJ p m=n->pPP n=pPP (pJ p m):=λh=>by rw[h]
 unfold F3 BKR BL2 BLP BLG BKP BKL BKH BKD BKC BKB BKA;rw[nV];refine iE (λh=>is (by unfold pJ;rw[if_pos (.inl h)])) λi1=>?_;rw[nV];refine iE (λh=>is (by unfold pJ;rw[if_pos (.inr h)])) λi2=>?_;have n1:¬ (pU p.1=false\/pU (nP p)=false):=by
  rintro (h|h)
  ·rw[i1] at h;cases h
  ·rw[show pU (nP p)=true from i2] at h;cases h
 have r9:¬ (1<=p.2.1/\p.2.1<=1000)->pPP 9=pPP (pJ p m):=λh=>is (by unfold pJ;rw[if_neg n1,if_pos h]);refine cC (λv1=>kU (λh=>r9 (λh2=>h h2.2)) λv2=>?_) λh=>r9 (λh2=>h h2.1);have n2:¬ ¬ (1<=p.2.1/\p.2.1<=1000):=λh=>h ⟨v1,v2⟩;have w1:pJ p m=if ¬ (gF p=1\/gF p=2\/gF p=3\/gF p=4) then 10 else if oC p=true then 2 else if iB p m=false then 23 else if gF p=1/\¬ zG (lW p)=0 then zG (lW p) else if (gF p=2\/gF p=3)/\¬ (1<=AFC p/\AFC p<=32768) then 9 else if gF p=4/\¬ (1<=IT p/\IT p<=1099511627776/\CA (JT p)=true) then 9 else if tC (aAt p)=false then 9 else 0:=by
  unfold pJ;rw[if_neg n1,if_neg n2]
 have spare:∀ {K:Bool->Prop},K (oC p)->aJ [(false,Sy.bool)] (mY [aH true aN p]) K:=λh=>aG (s:=[(false,.bool)]) (y:=oC p) (AAP ..) h;have made:∀ {K:Bool->Prop},K (iB p m)->aJ [(false,Sy.bool)] (pQ [aH true aN p,aH true aK m]) K:=λh=>aG (s:=[(false,.bool)]) (y:=iB p m) ((AGS ..).trans (zB _ hok)) h;have place:∀ {K:Bool->Prop},K (tC (aAt p))->aJ [(false,Sy.bool)] (cL [aH true fD (aAt p)]) K:=λh=>aG (s:=[(false,.bool)]) (y:=tC (aAt p)) (I9 ..) h;have near:∀ {K:Bool->Prop},K (CA (JT p))->aJ [(false,Sy.bool)] (cL [aH true fD (JT p,0)]) K:=λ{K} h=>aG (s:=[(false,.bool)]) (y:=tC (JT p,0)) (I9 ..) (by
  rw[show tC (JT p,0)=CA (JT p) by unfold tC;rw[show decide (((JT p,(0:Int)):CL).2=AHL ((JT p,(0:Int)):CL).2)=true from rfl,Bool.and_true]];exact h)
 have reg:∀ {K:Int->Prop},K (zG (lW p))->aJ [(false,Sy.int IntKind.i64)] (jK [aH true eP (lW p)]) K:=λh=>aG (s:=[(false,.int .i64)]) (I5 _) h
 repeat' first
  | (exfalso;omega)
  | refine spare ?_
  | refine made ?_
  | refine reg ?_
  | refine place ?_
  | refine near ?_
  | refine kU (λh=>?_) (λh=>?_)
  | refine cC (λh=>?_) (λh=>?_)
  | refine iE (λh=>?_) (λh=>?_)
  | refine wU (λh=>?_) (λh=>?_)
 all_goals (refine is ?_;clear spare made place near reg is r9;rw[w1];clear w1 n1 n2 i1 i2;simp_all;try (intros;exfalso;simp only[AFC,IT] at *;omega))
def EH (h:okM m=true) (p:a8):mF [aH true aN p,aH true aK m]=some (Sh.enc [(false,.int .i64)] (pJ p m)):=(U9 ..).trans (zB _ h)
def AG4 (m:aI) (n:iII):gE:=(gP m n).getD kN
def BIR (m:aI) (n:iII):cN:=(PK m n).getD B7
def AKA {no:α} {o:Option α}:(found no o).1=o.getD no:=by cases o<;>rfl
def SR (p:a8) (m:aI):Int:=if gF p=1 then i64.wrap ((i64.wrap (i64.wrap (ACP (lW p)*o5 p)*(AG4 m (iC p)).2.1)).tdiv 2000000) else if gF p=2\/gF p=3 then i64.wrap ((i64.wrap (i64.wrap ((BIR m (YU p)).2.1*AFC p)*(AG4 m (iC p)).2.1)).tdiv 1000000) else IT p
def B5 (p:a8) (m:aI):Int×Int:=if pJ p m=0 then (SR p m,0) else (0,pJ p m)
noncomputable def ASS:Env:=Env.of [(129,.pure mF),(269,.pure gI),(270,.pure cS),(271,.pure uD)]
def AVU:FuncId->Hint:=λ_=>bA
def AD4:aU Tryz.prog ASS:=.cons NK (.cons GQ (.cons NL (.cons AOW (.nil _))))
def BLZ(R:T->Prop)(y2:cN×Bool)(a0:a8)(y1:gE×Bool):Prop:=bQ true (R (T.b9 [pPP (i64.wrap ((i64.wrap (i64.wrap (y2.1.2.1*a0.2.2.2.2.2.2.2.2.1) * y1.1.2.1)).tdiv 1000000)), pPP 0]))
def BMB(a0:a8):List T:=[pPP a0.2.2.2.2.2.2.2.2.2.1, pPP 0]
def LQ(a0:a8)(a1:aI)(R:T->Prop):Prop:=aJ BKB (mF [aH true aN a0,aH true aK a1]) λ(y0:Int)=>aC (!decide (y0=0)) (R (T.b9 [pPP 0,pPP y0])) (aJ BKI (gI (BMA a1 a0)) λ(y1:gE×Bool)=>aJ BKE (cS [aH true aK a1,pPQ a0.2.2.2.2.2.2.2.1]) λ(y2:cN×Bool)=>aC (decide (a0.2.2.1=1)) (aJ BKB (uD [aH true eP a0.2.2.2.2.2.2.1]) λ(y3:Int)=>bQ true (R (T.b9 [pPP (i64.wrap ((i64.wrap (i64.wrap (y3*a0.2.2.2.2.2.1)*y1.1.2.1)).tdiv 2000000)), pPP 0]))) (aC (decide (a0.2.2.1=2)) (BLZ R y2 a0 y1) (aC (decide (a0.2.2.1=3)) (BLZ R y2 a0 y1) (aC (decide (a0.2.2.1=4)) (R (T.b9 (BMB a0))) (R (T.b9 (BMB a0)))))))
abbrev O4:Sh:=[(true,aN),(true,aK)]
abbrev ACN:Sh:=[(false,Sy.int IntKind.i64),(false,Sy.int IntKind.i64)]
def A7 (x:a8×aI):Option T:=E0 x.2 (Sh.enc ACN (B5 x.1 x.2))
noncomputable def uA:List T->Option T:=gS O4 A7
def AAQ {a0 a1}:uA [aH true aN a0,aH true aK a1]=A7 (a0,a1):=bJ (s:=O4) rfl (a0,a1) rfl
def AQU:sP Tryz.prog 130 uA A7 (cJ O4) LQ:=iH (a1:=(true,aN)) (a2:=(true,aK)) (sp:=A7) (F:=LQ) (Hs:=AVU) (f:=130) (k:=8) AD4 aZ a7 (aO rfl) ⟨_,_,Tryz.func130,rfl⟩ rfl λ_ _ _=>by kernel_rfl
def AOU:aP Tryz.prog 130 uA:=AQU λp m r h hb=>by
 obtain ⟨hok,rfl⟩:=zA h;replace hok:okM m=true:=hok;clear h hb;have is:∀ {a b:Int},B5 p m=(a,b)->T.b9 [pPP a,pPP b]=Sh.enc ACN (B5 p m):=λh=>by rw[h];rfl
 unfold LQ BMB BLZ BMA BKI BKE BKB;refine aG (s:=[(false,.int .i64)]) (EH hok p) ?_;refine kU (λh=>is (by unfold B5;rw[if_neg h])) λh=>?_;refine aG (s:=[(true,dH),(false,.bool)]) (xP hok _) ?_;refine aG (s:=[(true,bZ),(false,.bool)]) (EI m _) ?_;have w:B5 p m=(SR p m,0):=by unfold B5;rw[if_pos h]
 have eg:(found kN (gP m (iC p))).1=AG4 m (iC p):=AKA;have es:(found B7 (PK m (YU p))).1=BIR m (YU p):=AKA;refine cC (λk1=>?_) λk1=>?_
 ·refine aG (s:=[(false,.int .i64)]) (AAW _) ?_;refine ⟨rfl,is ?_⟩;rw[w];unfold SR;rw[if_pos k1,<-eg]
 refine cC (λk2=>⟨rfl,is ?_⟩) λk2=>?_
 ·rw[w];unfold SR;rw[if_neg k1,if_pos (.inl k2),<-eg,<-es]
 refine cC (λk3=>⟨rfl,is ?_⟩) λk3=>?_
 ·rw[w];unfold SR;rw[if_neg k1,if_pos (.inr k3),<-eg,<-es]
 have fin:B5 p m=(IT p,0):=by
  rw[w];unfold SR;rw[if_neg k1,if_neg];rintro (h|h)
  ·exact k2 h
  ·exact k3 h
 exact cC (λ_=>is fin) λ_=>is fin
def AAR (h:okM m=true) (p:a8):uA [aH true aN p,aH true aK m]=some (Sh.enc [(false,.int .i64),(false,.int .i64)] (B5 p m)):=(AAQ ..).trans (zB _ h)
def oJ (a0:aB) (m1:List aE) (m2:List aE) (m3:List aE) (m4:List aE) (a5:aI):List T:=[PX a0 m1 m2 m3 m4,T.agg (aK.enc a5)]
noncomputable def K4:Env:=Env.of [(129,.pure mF),(130,.pure uA)]
def YP:FuncId->Hint:=cA 89 [(2,.inv [.val 23 false (.int .i64)]),(13,.inv [.val 10 false (.int .i64),.val 54 false (.int .i64)])] (λ_=>bA)
def ADU:aU Tryz.prog K4:=.cons NK (.cons AOU (.nil _))
def BKQ:T:=pPP 8
def BKZ(a0:aB):List (List T):=List.map aN.enc a0.2.2.1
def LF(a0:aB)(m1:List aE)(m2:List aE)(m3:List aE)(m4:List aE)(a5:aI)(R:T->Prop):Prop:=bD (Int×PUnit) (λX0 s1=>aC (decide (s1.1<(↑(BKZ a0).length:Int))) (aX aN (BKZ a0) s1.1 λ(y2:a8)=>aJ BKB (mF [aH true aN y2,aH true aK a5]) λ(y3:Int)=>aC (!decide (y3=0)) (R (BLP y3)) (gR TypeDesc.string (Value.string y2.2.2.2.1) (rJ (bO m1)) false BKG (R BKQ) λ(i4:Nat) (y5:Int)=>X0 (i64.wrap (s1.1+1),()))) (bD (Int×Int×PUnit) (λX6 s7=>aC (decide (s7.2.1<(↑(BKZ a0).length:Int))) (aX aN (BKZ a0) s7.2.1 λ(y8:a8)=>aJ [(false,Sy.int IntKind.i64),(false,Sy.int IntKind.i64)] (uA [aH true aN y8,aH true aK a5]) λ(y9:aR)=>aC (decide (1099511627776<i64.wrap (s7.1+y9.1))) (R (pPP 13)) (X6 (i64.wrap (s7.1+y9.1),i64.wrap (s7.2.1+1),()))) (R BKD)) (0,0,()))) (0,())
def YH ( a0 m1 m2 m3 m4 a5 R):eJ b8 Tryz.prog K4 YP 8 89 (oJ a0 m1 m2 m3 m4 a5) R=LF a0 m1 m2 m3 m4 a5 R:=by kernel_rfl
def TO (x y:aB×MP×MP×MP×MP×aI) (h:oJ x.1 x.2.1 x.2.2.1 x.2.2.2.1 x.2.2.2.2.1 x.2.2.2.2.2=oJ y.1 y.2.1 y.2.2.1 y.2.2.2.1 y.2.2.2.2.1 y.2.2.2.2.2):x=y:=by
 obtain ⟨h1,h2⟩:=List.cons.inj h;have:=rG (x:=(x.1,x.2.1,x.2.2.1,x.2.2.2.1,x.2.2.2.2.1)) (y:=(y.1,y.2.1,y.2.2.1,y.2.2.2.1,y.2.2.2.2.1)) h1;have h2:=Sy.dM aK _ _ (T.agg.inj (List.cons.inj h2).1);simp only[Prod.mk.injEq] at this;obtain ⟨e1,e2,e3,e4,e5⟩:=this;exact Prod.ext e1 (Prod.ext e2 (Prod.ext e3 (Prod.ext e4 (Prod.ext e5 h2))))
def iQ (d:aB) (m:aI) (p:a8):Int:=if pJ p m=0 then (if (eG d (nP p)).isNone=true then 8 else 0) else pJ p m
def IP (m:aI):List a8->Int->Int
 | [],_=>0
 | p::l,s=>if 1099511627776<i64.wrap (s+(B5 p m).1) then 13 else IP m l (i64.wrap (s+(B5 p m).1))
def kC (d:aB) (m:aI):Int:=if cG (iQ d m) d.2.2.1=0 then IP m d.2.2.1 0 else cG (iQ d m) d.2.2.1
def uQ (x:aB×MP×MP×MP×MP×aI):Option T:=match okM x.2.2.2.2.2 with
 | true=>wM (x.1,x.2.1,x.2.2.1,x.2.2.2.1,x.2.2.2.2.1) (T.v (Value.int .i64 (kC x.1 x.2.2.2.2.2)))
 | false=>none
noncomputable def tX:List T->Option (T):=gA (λ(x:aB×List aE×List aE×List aE×List aE×aI)=>oJ x.1 x.2.1 x.2.2.1 x.2.2.2.1 x.2.2.2.2.1 x.2.2.2.2.2) uQ
def AAB (a0:aB) (m1:List aE) (m2:List aE) (m3:List aE) (m4:List aE) (a5:aI):tX (oJ a0 m1 m2 m3 m4 a5)=uQ (a0,m1,m2,m3,m4,a5):=fP (A:=(λ(x:aB×List aE×List aE×List aE×List aE×aI)=>oJ x.1 x.2.1 x.2.2.1 x.2.2.2.1 x.2.2.2.2.1 x.2.2.2.2.2)) TO (a0,m1,m2,m3,m4,a5)
def AQK (h:∀ (a0:aB) (m1:List aE) (m2:List aE) (m3:List aE) (m4:List aE) (a5:aI) (r:T),uQ (a0,m1,m2,m3,m4,a5)=some r->(∀ t∈oJ a0 m1 m2 m3 m4 a5,Bd t)->LF a0 m1 m2 m3 m4 a5 (λy=>y=r)):aP Tryz.prog 89 tX :=
 cU (E:=K4) (Hs:=YP) ADU aZ a7 (aO rfl) 8 ⟨_,_,Tryz.func89,rfl⟩ λx r h1 h2=>by
  rw[YH];exact h x.1 x.2.1 x.2.2.1 x.2.2.2.1 x.2.2.2.2.1 x.2.2.2.2.2 r h1 h2
def AON:aP Tryz.prog 89 tX:=AQK λd m1 m2 m3 m4 m r h hb=>by
 unfold uQ at h;split at h
 case h_2=>cases h
 rename_i hok;replace hok:okM m=true:=hok;obtain ⟨hx,hs,rfl⟩:=oT h;simp only[Prod.mk.injEq,true_and] at hx;obtain ⟨rfl,rfl,rfl,rfl⟩:=hx;replace hs:nS d:=hs;clear h hb;have is:∀ {n:Int},kC d m=n->pPP n=pPP (kC d m):=λh=>by rw[h]
 unfold LF BKZ BLP BKQ BKG BKD BKB;refine qS (r:=aN) (iQ d m) hs.p (λX s y hy hgo hbad=>?_) λh0=>?_
 ·have bad:∀ {n:Int},n≠0->iQ d m y=n->pPP n=pPP (kC d m):=λhn h=>by
   have h1:=hbad (by rw[h];exact hn);refine is ?_;unfold kC;rw[if_neg (by rw[h1,h];exact hn),h1,h]
  refine aG (s:=[(false,.int .i64)]) (EH hok y) ?_;refine kU (λh=>bad h (by unfold iQ;rw[if_neg h])) λh=>?_;refine ixK (λhn=>bad (by decide) ?_) λi j hj hn=>hgo ?_
  ·have hn:eG d (nP y)=none:=hn;unfold iQ;rw[if_pos h,hn];rfl
  ·have hn:eG d (nP y)=some d.2.1[j]:=hn;unfold iQ;rw[if_pos h,hn];rfl
 ·have w:kC d m=IP m d.2.2.1 0:=by unfold kC;rw[if_pos h0]
  clear h0;have hl:=hs.p;generalize d.2.2.1=l at w hl ⊢;refine bP l.length (λk s=>s.2.1=(k:Int)/\IP m (l.drop k) s.1=kC d m) ⟨rfl,by rw[w];rfl⟩ ?_;rintro X k ⟨s,i,u⟩ hk ⟨rfl,he⟩ hX;dsimp only at he ⊢;refine cC (λhlt=>?_) λhge=>?_
  ·rw[ae] at hlt;have hlt:k<l.length:=by omega
   rw[bK (r:=aN) hlt];rw[drop_eq_getElem_cons hlt,IP] at he;refine aG (s:=[(false,.int .i64),(false,.int .i64)]) (AAR hok _) ?_;refine cC (λh=>is (by rw[<-he,if_pos h])) λh=>?_;rw[if_neg h] at he;refine hX _ hlt ⟨?_,he⟩;show i64.wrap ((k:Int)+1)=_;rw[bH]<;>omega
  ·rw[ae] at hge;have:k=l.length:=by omega
   subst this;rw[drop_length,IP] at he;exact is he.symm
def oI (a0:aB) (m1:List aE) (m2:List aE) (m3:List aE) (m4:List aE):List T:=[PX a0 m1 m2 m3 m4]
noncomputable def K3:Env:=Env.of [(64,.pure eM),(123,.pure wR),(132,.pure G3),(131,.pure iA),(128,.pure lG),(133,.new EG)]
def YO:FuncId->Hint:=cA 91 [(4,.inv [.own 3 2 (.pr (.int .i64) (.int .i64)),.map 0 .str false .bool,.val 29 false (.int .i64)]),(15,.inv [.val 76 false (.int .i64),.map 0 .str false .bool]),(31,.inv [.own 3 2 (.pr (.int .i64) (.int .i64)),.val 147 false (.int .i64)])] (λ_=>bA)
def ADT:aU Tryz.prog K3:=.cons D5 (.cons A9U (.cons A61 (.cons ZX (.cons RJ (.cons AXT (.nil _))))))
def BK2(a0:aB):List (List T):=List.map aY.enc a0.2.2.2.2.2
def BKV(a0:aB):List (List T):=List.map aF.enc a0.2.2.2.2.1
def BK0(a0:aB):List (List T):=List.map bC.enc a0.2.2.2.1
def BLX(y3:aQ):List (List T):=List.map Sy.str.enc y3.2.2.1
def BK4(a0:aB):List (List T):=List.map bB.enc a0.2.1
def BK6(a0:aB):List T:=[pPQ a0.1, T.sl false (BK4 a0), T.sl false (BKZ a0), T.sl false (BK0 a0), T.sl false (BKV a0), T.sl false (BK2 a0)]
def BLN(y3:aQ):List (List T):=List.map Sy.str.enc y3.2.2.2.2
def BK9(y13:iII)(s12:Int×List (iII×Bool)×PUnit)(X11:Int×List (iII×Bool)×PUnit->Prop):Prop:=eE (Option (Nat×D)) (findD TypeDesc.string (Value.string y13) (List.map (bY Sy.str false Sy.bool) s12.2.1) 0) λ(y24:Option (Nat×D))=>cO Sy.str false Sy.bool (dZ (List.map (bY Sy.str false Sy.bool) s12.2.1) y24 (Value.string y13) (D.p BKF)) λ(y25:List (iII×Bool))=>X11 (i64.wrap (s12.1+1),y25,())
def BLW(a0:aB)(m1:List aE)(m2:List aE)(m3:List aE)(m4:List aE):List T:=[T.ref (BK6 a0), T.mp (bO m1),T.mp (bO m2), T.mp (bO m3),T.mp (bO m4)]
def BLY(a0:aB):List T:=[pPQ a0.1,T.sl false (BK4 a0), T.sl false (BKZ a0), T.sl false (BK0 a0), T.sl false (BKV a0), T.sl false (BK2 a0)]
def BL8(y18:List iII×Bool):List (List T):=List.map Sy.str.enc y18.1
def LD(a0:aB)(m1:List aE)(m2:List aE)(m3:List aE)(m4:List aE)(R:T->Prop):Prop:=cO Sy.str false Sy.bool [] λ(y0:List (iII×Bool))=>bD (List aR×List (iII×Bool)×Int×PUnit) (λX1 s2=>aC (decide (s2.2.2.1<(↑(BKV a0).length:Int))) (aX aF (BKV a0) s2.2.2.1 λ(y3:aQ)=>aJ BKC (eM [pPQ y3.1]) λ(y4:Bool)=>aC (!y4) (R BKL) (aJ BKC (iA [T.ref [T.ref (BLY a0), T.mp (bO m1),T.mp (bO m2),T.mp (bO m3), T.mp (bO m4)], pPQ y3.2.1]) λ(y5:Bool)=>aC (!y5) (R BKQ) (aC (decide (y3.2.2.2.1<1)) (R BKA) (aC (decide (10000<y3.2.2.2.1)) (R BKA) (aJ [(false,Sy.any)] (G3 [T.sl false (BLX y3)]) λ(y6:T)=>aJ BKC (wR [pPP (↑(BLX y3).length:Int), y6]) λ(y7:Bool)=>aC (!y7) (R BKM) (aJ [(false,Sy.any)] (G3 [T.sl false (BLN y3)]) λ(y8:T)=>aJ BKC (wR [pPP (↑(BLN y3).length:Int), y8]) λ(y9:Bool)=>aC (!y9) (R BKM) (cO Sy.str false Sy.bool (List.map (bY Sy.str false Sy.bool) s2.2.1) λ(y10:List (iII×Bool))=>bD (Int×List (iII×Bool)×PUnit) (λX11 s12=>aC (decide (s12.1<(↑(BLX y3).length:Int))) (aX Sy.str (BLX y3) s12.1 λ(y13:iII)=>gR TypeDesc.string (Value.string y13) (rJ (bO m2)) false BKG (R BKQ) λ(i14:Nat) (y15:Int)=>aX aN (BKZ a0) y15 λ(y16:a8)=>aC (!decide (y16.2.2.1=4)) (aC (!decide (y16.2.2.1=3)) (R (pPP 10)) (aX aN (BKZ a0) y15 λ(y17:a8)=>aJ [(false,Sy.str.li),(false,Sy.bool)] (lG [T.ref (BLW a0 m1 m2 m3 m4), pPQ y17.2.2.2.1]) λ(y18:List iII×Bool)=>aC (decide ((↑(BL8 y18).length:Int)=0)) (R BKH) (aX Sy.str (BL8 y18) (i64.wrap ((↑(BL8 y18).length:Int)-1)) λ(y19:iII)=>aC (!decide (y19=y3.2.1)) (R BKH) (gR TypeDesc.string (Value.string y13) (List.map (bY Sy.str false Sy.bool) s12.2.1) false Sy.bool (BK9 y13 s12 X11) λ(i20:Nat) (y21:Bool)=>aC y21 (R (pPP 7)) (eE (Option (Nat×D)) (findD TypeDesc.string (Value.string y13) (List.map (bY Sy.str false Sy.bool) s12.2.1) 0) λ(y22:Option (Nat×D))=>cO Sy.str false Sy.bool (dZ (List.map (bY Sy.str false Sy.bool) s12.2.1) y22 (Value.string y13) (D.p BKF)) λ(y23:List (iII×Bool))=>X11 (i64.wrap (s12.1+1),y23, ())))))) (aX aN (BKZ a0) y15 λ(y26:a8)=>aJ [(false,Sy.str.li),(false,Sy.bool)] (lG [T.ref (BLW a0 m1 m2 m3 m4), pPQ y26.2.2.2.1]) λ(y27:List iII×Bool)=>aC (decide ((↑(BL8 y27).length:Int)=0)) (R BKH) (aX Sy.str (BL8 y27) (i64.wrap ((↑(BL8 y27).length:Int)-1)) λ(y28:iII)=>aC (!decide (y28=y3.2.1)) (R BKH) (gR TypeDesc.string (Value.string y13) (List.map (bY Sy.str false Sy.bool) s12.2.1) false Sy.bool (BK9 y13 s12 X11) λ(i29:Nat) (y30:Bool)=>aC y30 (R (pPP 7)) (BK9 y13 s12 X11))))) (jI aA (List.map aA.enc s2.1) λ(y35:List aR)=>bD (List aR×Int×PUnit) (λX36 s37=>aC (decide (s37.2.1 < (↑(BLN y3).length:Int))) (aX Sy.str (BLN y3) s37.2.1 λ(y38:iII)=>aC (decide (y38=y3.1)) (R BKH) (gR TypeDesc.string (Value.string y38) (rJ (bO m4)) false BKG (R BKQ) λ(i39:Nat) (y40:Int)=>bQ (decide (((List.map aA.enc s37.1).length+1)*16 <= 140737488355328) && decide ((List.map aA.enc s37.1).length+1 <= 140737488355328)) (jI aA (List.map aA.enc s37.1 ++ [[pPP y40, pPP s2.2.2.1]]) λ(y41:List aR)=>X36 (y41,i64.wrap (s37.2.1+1),())))) (jI aA (List.map aA.enc s37.1) λ(y42:List aR)=>cO Sy.str false Sy.bool (List.map (bY Sy.str false Sy.bool) s12.2.1) λ(y43:List (iII×Bool))=>X1 (y42,y43,i64.wrap (s2.2.2.1+1),()))) (y35,0,()))) (0,y10,())))))))) (aJ [(false,BKG.li),(false,Sy.int IntKind.i64)] (EG [pPP (↑(BKV a0).length:Int), T.sl false (List.map aA.enc s2.1)]) λ(y44:List Int×Int)=>aC (!decide (y44.2=0)) (R (pPP 20)) (R BKD))) ([],y0,0,())
def YG ( a0 m1 m2 m3 m4 R):eJ b8 Tryz.prog K3 YO 8 91 (oI a0 m1 m2 m3 m4) R=LD a0 m1 m2 m3 m4 R:=by kernel_rfl
def TN (x y:aB×MP×MP×MP×MP) (h:oI x.1 x.2.1 x.2.2.1 x.2.2.2.1 x.2.2.2.2=oI y.1 y.2.1 y.2.2.1 y.2.2.2.1 y.2.2.2.2):x=y:=rG (List.cons.inj h).1
abbrev jT (k:aQ):List iII:=k.2.2.1
abbrev gM (k:aQ):List iII:=k.2.2.2.2
abbrev VN (k:aQ):Int:=k.2.2.2.1
def uH (d:aB) (k:aQ):Int:=if pU k.1=false then 6 else if pF d k.2.1=false then 8 else if VN k<1\/10000<VN k then 9 else if pB (jT k)=false\/pB (gM k)=false then 11 else 0
def instE (d:aB) (b:iII):List iII->List iII->Int×List iII
 | [],S=>(0,S)
 | id::l,S=>match partOf d id with
  | none=>(8,S)
  | some p=>if ¬ gF p=4/\¬ gF p=3 then (10,S) else if (up d (nP p)).1.getLast? = some b then (if VQ S id=true then (7,S) else instE d b l (id::S)) else (2,S)
def UE (d:aB) (k:iII) (i:Int):List iII->List aR->Int×List aR
 | [],E=>(0,E)
 | id::l,E=>if id=k then (2,E) else match fF (iV (ids d.2.2.2.2.1)) id with
  | none=>(8,E)
  | some j=>UE d k i l (E++[(j,i)])
def kO (d:aB):List aQ->Int->List aR->List iII->Int×List aR
 | [],_,E,_=>(0,E)
 | k::l,i,E,S=>if ¬ uH d k=0 then (uH d k,E) else if ¬ (instE d k.2.1 (jT k) S).1=0 then ((instE d k.2.1 (jT k) S).1,E) else if ¬ (UE d k.1 i (gM k) E).1=0 then ((UE d k.1 i (gM k) E).1,E) else
  kO d l (i+1) (UE d k.1 i (gM k) E).2 (instE d k.2.1 (jT k) S).2
def iP (d:aB):Int:=if (kO d d.2.2.2.2.1 0 [] []).1=0 then (if (l9 d.2.2.2.2.1.length (kO d d.2.2.2.2.1 0 [] []).2).2=0 then 0 else 20) else (kO d d.2.2.2.2.1 0 [] []).1
def AM (d:aB):Bool:=d.2.2.2.2.1.all (λk=>decide ((jT k).length<=140737488355328)&&decide ((gM k).length<=140737488355328))&&decide (d.2.2.2.2.1.length<=64)
def nH (a b:iII):cR a b=true↔a.data.toList<b.data.toList:=by
 unfold cR;rw[bytesLess_eq,decide_eq_true_iff]
def AJQ {a b:iII} (h:(!(cR b a||decide (b=a)))=true):a.data.toList<b.data.toList:=by
 simp only[Bool.not_eq_true',Bool.or_eq_false_iff,decide_eq_false_iff_not] at h;refine Classical.byContradiction λhc=>h.2 ?_;have h1:¬ b.data.toList<a.data.toList:=λh'=>by rw[(nH b a).2 h'] at h;exact absurd h.1 (by decide)
 have e:b.data.toList=a.data.toList:=List.le_antisymm (not_lt.1 hc) (not_lt.1 h1);exact ByteArray.ext (Array.ext' e)
def MJ:∀ {l:List iII},pB l=true->l.Pairwise λa b=>a.data.toList<b.data.toList
 | [],_=>List.Pairwise.nil
 | [a],_=>by simp
 | a::b::l,h=>by
  rw[pB,ac] at h;have h1:=AJQ h.1;have ih:=MJ h.2;refine pairwise_cons.2 ⟨λx hx=>?_,ih⟩;rcases mem_cons.1 hx with rfl|hx
  ·exact h1
  ·exact List.lt_trans h1 ((pairwise_cons.1 ih).1 x hx)
def QX {l:List iII} (h:pB l=true):l.Nodup:=by
 refine (MJ h).imp λ{a b} hab e=>?_;subst e;exact List.lt_irrefl _ hab
def AKL:∀ {l m:List iII},l.Nodup->(∀ x∈l,x∈m)->l.length<=m.length
 | [],_,_,_=>Nat.zero_le _
 | a::l,m,h,hm=>by
  obtain ⟨h1,h2⟩:=pairwise_cons.1 h;have h3:l.length<=(m.filter λx=>decide (x≠a)).length:=AKL h2 λx hx=>List.mem_filter.2 ⟨hm x (List.mem_cons_of_mem _ hx),ai λe=>h1 x hx e.symm⟩;have h4:(m.filter λx=>decide (x≠a)).length<m.length:=List.length_filter_lt_length_iff_exists.2 ⟨a,hm a am,by simp⟩;rw[length_cons];omega
def uP (x:aB×MP×MP×MP×MP):Option T:=match AM x.1 with
 | true=>wM x (T.v (Value.int .i64 (iP x.1)))
 | false=>none
noncomputable def tW:List T->Option (T):=gA (λ(x:aB×List aE×List aE×List aE×List aE)=>oI x.1 x.2.1 x.2.2.1 x.2.2.2.1 x.2.2.2.2) uP
def AAA (a0:aB) (m1:List aE) (m2:List aE) (m3:List aE) (m4:List aE):tW (oI a0 m1 m2 m3 m4)=uP (a0,m1,m2,m3,m4):=fP (A:=(λ(x:aB×List aE×List aE×List aE×List aE)=>oI x.1 x.2.1 x.2.2.1 x.2.2.2.1 x.2.2.2.2)) TN (a0,m1,m2,m3,m4)
def AQJ (h:∀ (a0:aB) (m1:List aE) (m2:List aE) (m3:List aE) (m4:List aE) (r:T),uP (a0,m1,m2,m3,m4)=some r->(∀ t∈oI a0 m1 m2 m3 m4,Bd t)->LD a0 m1 m2 m3 m4 (λy=>y=r)):aP Tryz.prog 91 tW :=
 cU (E:=K3) (Hs:=YO) ADT aZ a7 (aO rfl) 8 ⟨_,_,Tryz.func91,rfl⟩ λx r h1 h2=>by
  rw[YG];exact h x.1 x.2.1 x.2.2.1 x.2.2.2.1 x.2.2.2.2 r h1 h2
variable {A:Prop}
def BH1 {id:iII} {l:List (iII×α)} {B:Nat->Int->Prop} (hA:fF (iV (ids l)) id=none->l.find? (λs=>decide (s.1=id))=none->A) (hB:∀ i k (h:k<l.length),fF (iV (ids l)) id=some (k:Int)->l.find? (λs=>decide (s.1=id))=some l[k]->B i (k:Int)) :
  gR TypeDesc.string (Value.string id) (rJ (bO (iV (ids l)))) false (Sy.int IntKind.i64) A B:=by
 rw[ABV];refine vB (r:=.int .i64) (λh=>?_) λi v h=>?_
 ·rcases EL id l with ⟨h1,h2⟩|⟨k,hk,h1,_⟩
  ·exact hA h1 h2
  ·rw[h] at h1;cases h1
 ·rcases EL id l with ⟨h1,_⟩|⟨k,hk,h1,h2⟩
  ·rw[h] at h1;cases h1
  ·rw[h] at h1;cases h1;exact hB i k hk h h2
def BH2 {l:List iII} {b:iII} (hl:l.length<=140737488355328) (hyes:l.getLast? = some b->A) (hno:¬ l.getLast? = some b->A) {R2:Prop} (hR2:¬ l.getLast? = some b->R2) {K:Prop} (hK:l.getLast? = some b->K) :
  aC (decide (((List.map Sy.str.enc l).length:Int)=0)) R2 (aX Sy.str (List.map Sy.str.enc l) (i64.wrap (((List.map Sy.str.enc l).length:Int)-1)) λ(y:iII)=>aC (!decide (y=b)) R2 K):=by
 rw[ae];refine cC (λh=>hR2 ?_) λh=>?_
 ·have:l=[]:=List.length_eq_zero_iff.1 (by omega);rw[this];simp
 ·have h1:l.length-1<l.length:=by omega
  rw[bH _ (by omega) (by omega),show ((l.length:Int)-1)=((l.length-1:Nat):Int) by omega,bK (r:=.str) h1];have e:l.getLast? = some l[l.length-1]:=by rw[List.getLast?_eq_getElem?,getElem?_eq_getElem h1]
  refine kU (λh=>hR2 ?_) λh=>hK ?_
  ·rw[e];intro h';exact h (Option.some.inj h')
  ·rw[e];exact congrArg some h
def BIS {es:List (iII×Bool)} {S:List iII} {id:iII} {R7:Prop} {K:List (iII×Bool)->Prop} (hS:Seen es (λx=>x∈S)) (h7:id∈S->R7) (hK:∀ es',id∉S->Seen es' (λx=>x∈id::S)->K es') :
  gR TypeDesc.string (Value.string id) (List.map (bY Sy.str false Sy.bool) es) false Sy.bool
   (eE (Option (Nat×D)) (findD TypeDesc.string (Value.string id) (List.map (bY Sy.str false Sy.bool) es) 0) λ(y24:Option (Nat×D)) =>
    cO Sy.str false Sy.bool (dZ (List.map (bY Sy.str false Sy.bool) es) y24 (Value.string id) (D.p (T.v (.bool true)))) λ(y25:List (iII×Bool))=>K y25)
   λ(i20:Nat) (y21:Bool)=>aC y21 R7
    (eE (Option (Nat×D)) (findD TypeDesc.string (Value.string id) (List.map (bY Sy.str false Sy.bool) es) 0) λ(y22:Option (Nat×D)) =>
     cO Sy.str false Sy.bool (dZ (List.map (bY Sy.str false Sy.bool) es) y22 (Value.string id) (D.p (T.v (.bool true)))) λ(y23:List (iII×Bool))=>K y23):=by
 refine vB (r:=.bool) (λhno=>?_) λj b hb=>?_
 ·refine AKG (r:=.bool) rfl (es:=es) (k:=id) (v:=true) (hK _ (λh=>?_) ((hS.ins id).congr λx=>?_))
  ·have:=(hS.2 id).2 h;rw[hno] at this;cases this
  ·rw[mem_cons];exact ⟨λh=>h.symm.imp_left Eq.symm,λh=>h.symm.imp_right Eq.symm⟩
 ·have:=hS.1 _ _ hb;subst this;rw[jS];exact h7 ((hS.2 _).1 hb)
def AOM:aP Tryz.prog 91 tW:=AQJ λd m1 m2 m3 m4 r h hb=>by
 unfold uP at h;split at h
 case h_2=>cases h
 rename_i hok;replace hok:AM d=true:=hok;obtain ⟨hx,hs,rfl⟩:=oT h;simp only[Prod.mk.injEq,true_and] at hx;obtain ⟨rfl,rfl,rfl,rfl⟩:=hx;replace hs:nS d:=hs;clear h hb;simp only[AM,ac,ah,all_eq_true] at hok;obtain ⟨hkp,hka⟩:=hok;have hkq:=λk hk=>(hkp k hk).2;replace hkp:=λk hk=>(hkp k hk).1;have hlk:=hs.k;have is:∀ {n:Int},iP d=n->T.v (.int .i64 n)=T.v (.int .i64 (iP d)):=λh=>by rw[h]
 unfold LD BL8 BLY BLW BK9 BLN BK6 BK4 BLX BK0 BKZ BKV BK2 BKQ BKM BKL BKH BKG BKF BKD BKC BKA;refine jY (r:=.bool) rfl [] _ ?_;refine bP d.2.2.2.2.1.length (λk s=>∃ S,s.2.2.1=(k:Int)/\Seen s.2.1 (λx=>x∈S)/\s.1.length<=64*k/\kO d (d.2.2.2.2.1.drop k) k s.1 S=kO d d.2.2.2.2.1 0 [] []) ⟨[],rfl,Seen.nil.congr (by simp),by simp,rfl⟩ ?_;rintro X k ⟨E,es,i,u⟩ hk ⟨S,rfl,hseen,hlen,hr⟩ hX;dsimp only at hseen hlen hr ⊢;refine cC (λhlt=>?_) λhge=>?_
 ·rw[ae] at hlt;have hlt:k<d.2.2.2.2.1.length:=by omega
  rw[bK (r:=aF) hlt];rw[drop_eq_getElem_cons hlt] at hr;have hmem:=ak hlt;have hp1:=hkp _ hmem;have hp2:=hkq _ hmem;generalize hy:d.2.2.2.2.1[k]=y at hr hp1 hp2 ⊢;rw[kO] at hr;have bad:∀ {n:Int},n≠0->(kO d d.2.2.2.2.1 0 [] []).1=n->T.v (.int .i64 n)=T.v (.int .i64 (iP d)):=λhn h=>by
   refine is ?_;unfold iP;rw[if_neg (by rw[h];exact hn),h]
  have badH:∀ {n:Int},n≠0->uH d y=n->T.v (.int .i64 n)=T.v (.int .i64 (iP d)):=λhn h=>by
   refine bad hn ?_;rw[if_pos (by rw[h];exact hn)] at hr;rw[<-hr];exact h
  rw[nV];refine iE (λh=>badH (by decide) (by unfold uH;rw[if_pos h])) λi1=>?_;refine aG (s:=[(false,.bool)]) (NZ hs _) ?_;refine iE (λh=>badH (by decide) (by unfold uH;rw[if_neg (by rw[i1];decide),if_pos h])) λi2=>?_;have n1:¬ pU y.1=false:=by rw[i1];decide
  have n2:¬ pF d y.2.1=false:=by rw[i2];decide
  refine cC (λh=>badH (by decide) (by unfold uH;rw[if_neg n1,if_neg n2,if_pos (.inl h)])) λh3=>?_;refine cC (λh=>badH (by decide) (by unfold uH;rw[if_neg n1,if_neg n2,if_pos (.inr h)])) λh4=>?_;have n3:¬ (VN y<1\/10000<VN y):=by rintro (h|h);exact h3 h;exact h4 h
  refine aG (s:=[(false,.any)]) (SG (a0:=jT y)) ?_;refine KE (b:=pB (jT y)) (by rw[ae];exact AZI hp1) _ ?_;refine iE (λh=>badH (by decide) (by unfold uH;rw[if_neg n1,if_neg n2,if_neg n3,if_pos (.inl h)])) λh5=>?_;refine aG (s:=[(false,.any)]) (SG (a0:=gM y)) ?_;refine KE (b:=pB (gM y)) (by rw[ae];exact AZI (l:=gM y) hp2) _ ?_;refine iE (λh=>badH (by decide) (by unfold uH;rw[if_neg n1,if_neg n2,if_neg n3,if_pos (.inr h)])) λh6=>?_;have hh:uH d y=0:=by unfold uH;rw[if_neg n1,if_neg n2,if_neg n3,if_neg];rintro (h|h);(rw[h5] at h;cases h);(rw[h6] at h;cases h)
  have hnd:=QX h6;clear badH n1 n2 n3 h3 h4 h5 h6 i1 i2;rw[if_neg (λh=>h hh)] at hr;refine jY (r:=.bool) rfl es _ ?_;refine bP (jT y).length (λj s=>∃ S',s.1=(j:Int)/\Seen s.2.1 (λx=>x∈S')/\instE d y.2.1 ((jT y).drop j) S'=instE d y.2.1 (jT y) S) ⟨S,rfl,hseen,rfl⟩ ?_;rintro Y j ⟨i,es',u⟩ hj ⟨S',rfl,hseen',hi⟩ hY;dsimp only at hseen' hi ⊢;refine cC (λhjl=>?_) λhjl=>?_
  ·rw[ae] at hjl;replace hjl:(j:Int)<((jT y).length:Int):=hjl;have hjl:j<(jT y).length:=by omega
   rw[bK (r:=.str) hjl];rw[drop_eq_getElem_cons hjl,instE] at hi;have badI:∀ {n:Int},n≠0->(instE d y.2.1 (jT y) S).1=n->T.v (.int .i64 n)=T.v (.int .i64 (iP d)):=λhn h=>by
    refine bad hn ?_;rw[if_pos (by rw[h];exact hn)] at hr;rw[<-hr];exact h
   have hw:i64.wrap ((j:Int)+1)=((j+1:Nat):Int):=bH _ (by omega) (by omega);generalize (jT y)[j]=id at hi ⊢;refine BH1 (λ_ hn=>badI (by decide) ?_) λi q hq _ hn=>?_
   ·have hn:partOf d id=none:=hn;rw[hn] at hi;rw[<-hi]
   ·have hn:partOf d id=some d.2.2.1[q]:=hn;rw[hn] at hi;rw[bK (r:=aN) hq];obtain ⟨p,hp⟩:∃ p,p=d.2.2.1[q]:=⟨_,rfl⟩
    rw[<-hp] at hi hn ⊢;dsimp only at hi;have fin:¬ (¬ gF p=4/\¬ gF p=3)->aJ [(false,Sy.str.li),(false,Sy.bool)]
      (lG (mO d (iV (ids d.2.1)) (iV (ids d.2.2.1)) (iV (ids d.2.2.2.1)) (iV (ids d.2.2.2.2.1)) (nP p))) λ(y18:List iII×Bool) =>
      aC (decide (((List.map Sy.str.enc y18.1).length:Int)=0)) (T.v (.int .i64 2)=T.v (.int .i64 (iP d)))
       (aX Sy.str (List.map Sy.str.enc y18.1) (i64.wrap (((List.map Sy.str.enc y18.1).length:Int)-1)) λ(y19:iII) =>
        aC (!decide (y19=y.2.1)) (T.v (.int .i64 2)=T.v (.int .i64 (iP d)))
        (gR TypeDesc.string (Value.string id) (List.map (bY Sy.str false Sy.bool) es') false Sy.bool
         (eE (Option (Nat×D)) (findD TypeDesc.string (Value.string id) (List.map (bY Sy.str false Sy.bool) es') 0) λ(y24:Option (Nat×D)) =>
          cO Sy.str false Sy.bool (dZ (List.map (bY Sy.str false Sy.bool) es') y24 (Value.string id) (D.p (T.v (.bool true)))) λ(y25:List (iII×Bool))=>Y (i64.wrap ((j:Int)+1),y25,()))
         λ(i20:Nat) (y21:Bool)=>aC y21 (T.v (.int .i64 7)=T.v (.int .i64 (iP d)))
          (eE (Option (Nat×D)) (findD TypeDesc.string (Value.string id) (List.map (bY Sy.str false Sy.bool) es') 0) λ(y22:Option (Nat×D)) =>
           cO Sy.str false Sy.bool (dZ (List.map (bY Sy.str false Sy.bool) es') y22 (Value.string id) (D.p (T.v (.bool true)))) λ(y23:List (iII×Bool))=>Y (i64.wrap ((j:Int)+1),y23,())))):=by
     intro hk;rw[if_neg hk] at hi;refine aG (s:=[(false,.li .str),(false,.bool)]) (I7 hs _) ?_;have hul:=BFI d (nP p);refine BH2 (A:=True) (b:=y.2.1) (by omega) (λ_=>trivial) (λ_=>trivial) (λh=>badI (by decide) ?_) λh=>?_
     ·rw[if_neg h] at hi;rw[<-hi]
     ·rw[if_pos h] at hi;refine BIS (K:=λes=>Y (i64.wrap ((j:Int)+1),es,())) hseen' (λh7=>badI (by decide) ?_) λes2 h7 hs2=>?_
      ·rw[if_pos (EV.2 h7)] at hi;rw[<-hi]
      ·rw[if_neg (λh=>h7 (EV.1 h))] at hi;rw[hw];exact hY _ hjl ⟨id::S',rfl,hs2,hi⟩
    refine kU (λk4=>?_) λk4=>?_
    ·refine kU (λk3=>badI (by decide) ?_) λk3=>?_
     ·rw[if_pos ⟨k4,k3⟩] at hi;rw[<-hi]
     ·rw[bK (r:=aN) hq,<-hp];exact fin λh=>h.2 k3
    ·rw[bK (r:=aN) hq,<-hp];exact fin λh=>h.1 k4
  ·rw[ae] at hjl;replace hjl:¬ (j:Int)<((jT y).length:Int):=hjl;have hjl:j=(jT y).length:=by omega
   subst hjl;rw[drop_length,instE] at hi;rw[<-hi,if_neg (by simp)] at hr;dsimp only at hr;clear hY hi hj;rw[dP rfl];refine bP (gM y).length (λj s=>s.2.1=(j:Int)/\s.1.length=E.length+j/\(∀ x∈(gM y).take j,x∈ids d.2.2.2.2.1)/\UE d y.1 k ((gM y).drop j) s.1=UE d y.1 k (gM y) E) ⟨rfl,by simp,by simp,rfl⟩ ?_;rintro Y j ⟨E',i,u⟩ hj ⟨rfl,hEl,hin,hi⟩ hY;dsimp only at hEl hin hi ⊢;have hjk:j<=64:=by
    have h1:=AKL (hnd.sublist (List.take_sublist j _)) hin;have h2:(ids d.2.2.2.2.1).length=d.2.2.2.2.1.length:=by simp[ids]
    rw[length_take] at h1;omega
   refine cC (λhjl=>?_) λhjl=>?_
   ·rw[ae] at hjl;replace hjl:(j:Int)<((gM y).length:Int):=hjl;have hjl:j<(gM y).length:=by omega
    rw[bK (r:=.str) hjl];rw[drop_eq_getElem_cons hjl,UE] at hi;have badA:∀ {n:Int},n≠0->(UE d y.1 k (gM y) E).1=n->T.v (.int .i64 n)=T.v (.int .i64 (iP d)):=λhn h=>by
     refine bad hn ?_;rw[if_pos (by rw[h];exact hn)] at hr;rw[<-hr];exact h
    have hw:i64.wrap ((j:Int)+1)=((j+1:Nat):Int):=bH _ (by omega) (by omega);have hts:(gM y).take (j+1)=(gM y).take j++[(gM y)[j]]:=List.take_succ_eq_append_getElem hjl;generalize (gM y)[j]=id at hi hts ⊢;refine cC (λh=>badA (by decide) ?_) λh=>?_
    ·rw[if_pos h] at hi;rw[<-hi]
    rw[if_neg h] at hi;refine BH1 (λhg _=>badA (by decide) ?_) λi q hq hg hfi=>?_
    ·rw[hg] at hi;rw[<-hi]
    ·rw[hg] at hi;dsimp only at hi;refine ⟨by simp;omega,?_⟩;rw[GI (r:=aA) rfl E' [T.v (.int .i64 (q:Int)),T.v (.int .i64 (k:Int))] ((q:Int),(k:Int)) rfl,hw];refine hY _ hjl ⟨rfl,by simp only[List.length_append,length_cons,List.length_nil];omega,λx hx=>?_,hi⟩;rw[hts] at hx;rcases mem_append.1 hx with hx|hx
     ·exact hin x hx
     ·have hx:x=id:=by simpa using hx
      subst hx;have h9:=List.find?_some hfi;exact List.mem_map.2 ⟨_,ak hq,of_decide_eq_true h9⟩
   ·rw[ae] at hjl;replace hjl:¬ (j:Int)<((gM y).length:Int):=hjl;have hjl:j=(gM y).length:=by omega
    subst hjl;rw[drop_length,UE] at hi;rw[<-hi,if_neg (by simp)] at hr;dsimp only at hr;rw[dP rfl];refine jY (r:=.bool) rfl es' _ ?_;refine hX _ hlt ⟨S',?_,hseen',?_,?_⟩
    ·show i64.wrap ((k:Int)+1)=_;rw[bH]<;>omega
    ·show E'.length<=_;omega
    ·rw[<-hr];rfl
 ·rw[ae] at hge;have hkl:k=d.2.2.2.2.1.length:=by omega
  subst hkl;rw[drop_length,kO] at hr;have w:iP d=if (l9 d.2.2.2.2.1.length E).2=0 then 0 else 20:=by
   unfold iP;rw[<-hr,if_pos rfl]
  refine aG (s:=[(false,.li (.int .i64)),(false,.int .i64)]) (y:=l9 d.2.2.2.2.1.length E) (by rw[ae];exact (AGQ ..).trans (j8 (l:=E) _ (by omega))) ?_;exact kU (λh=>is (by rw[w,if_neg h])) λh=>is (by rw[w,if_pos h])
def J9 {a:Option MP} {es:MP} {K:MP->Prop} (h:a=some es) (hk:K es):eE (List (iII×Int)) a K:=⟨es,h,hk⟩
noncomputable def RZ:List T->Option (List (iII×Int)):=APJ
def BCB:kR Tryz.prog 118 (sU RZ):=BHR
noncomputable def BAC:Env:=Env.of [(84,.pure xQ),(85,.pure iM),(118,.AOH RZ),(87,.pure NY),(88,.pure xM),(89,.pure tX),(90,.pure xN),(91,.pure tW),(92,.pure xL)]
def BAS:FuncId->Hint:=λ_=>bA
def ATE:aU Tryz.prog BAC:=.cons AOQ (.cons zZ (.cons BCB (.cons A6O (.cons AOJ (.cons AON (.cons AOK (.cons AOM (.cons AOI (.nil _)))))))))
def BLC(a0:aB):List T:=[T.ref [T.ref [T.sl false (BK2 a0), T.sl false (BKV a0), T.sl false (BK0 a0), T.sl false (BKZ a0), T.sl false (BK4 a0), pPQ a0.1].reverse].reverse]
def AEN(a0:aB)(a1:aI)(R:T->Prop):Prop:=aJ BKB (xQ [aH true aK a1]) λ(y0:Int)=>aC (!decide (y0=0)) (R (BLP y0)) (aJ BKC (iM [pPQ a0.1]) λ(y1:Bool)=>aC (!y1) (R BKL) (eE (List aE) (RZ [T.fn 119 [].reverse (BLC a0).reverse, pPP (↑(BK4 a0).length:Int)].reverse) λ(y2:List aE)=>eE (List aE) (RZ [T.fn 120 [].reverse (BLC a0).reverse, pPP (↑(BKZ a0).length:Int)].reverse) λ(y3:List aE)=>eE (List aE) (RZ [T.fn 121 [].reverse (BLC a0).reverse, pPP (↑(BK0 a0).length:Int)].reverse) λ(y4:List aE)=>eE (List aE) (RZ [T.fn 122 [].reverse (BLC a0).reverse, pPP (↑(BKV a0).length:Int)].reverse) λ(y5:List aE)=>aJ BKB (NY [T.ref [T.ref (BLY a0), T.mp (bO y2),T.mp (bO y3),T.mp (bO y4), T.mp (bO y5)]]) λ(y6:Int)=>aC (!decide (y6=0)) (R (BLP y6)) (aJ BKB (xM [T.ref [T.ref (BK6 a0), T.mp (bO y2),T.mp (bO y3),T.mp (bO y4), T.mp (bO y5)]]) λ(y7:Int)=>aC (!decide (y7=0)) (R (BLP y7)) (aJ BKB (tX [T.ref [T.ref (BK6 a0), T.mp (bO y2),T.mp (bO y3),T.mp (bO y4), T.mp (bO y5)], aH true aK a1]) λ(y8:Int)=>aC (!decide (y8=0)) (R (BLP y8)) (aJ BKB (xN [T.ref (BLW a0 y2 y3 y4 y5)]) λ(y9:Int)=>aC (!decide (y9=0)) (R (BLP y9)) (aJ BKB (tW [T.ref (BLW a0 y2 y3 y4 y5)]) λ(y10:Int)=>aC (!decide (y10=0)) (R (BLP y10)) (aJ BKB (xL [T.ref (BLW a0 y2 y3 y4 y5)]) λ(y11:Int)=>R (BLP y11))))))))
abbrev AH6:Sh:=[(true,aD),(true,aK)]
def gQ (d:aB) (m:aI):Int:=if ¬ BT m=0 then BT m else if isName d.1=false then 6 else if ¬ oL d=0 then oL d else if ¬ j4 d=0 then j4 d else if ¬ kC d m=0 then kC d m else if ¬ cG (rE d) d.2.2.2.1=0 then cG (rE d) d.2.2.2.1 else if ¬ iP d=0 then iP d else cG (uL d) d.2.2.2.2.2
def KG (x:aB×aI):Option T:=some (T.v (Value.int .i64 (gQ x.1 x.2)))
noncomputable def cW:List T->Option T:=gS AH6 KG
def gC {a0 a1}:cW [aH true aD a0,aH true aK a1]=KG (a0,a1):=bJ (s:=AH6) rfl (a0,a1) rfl
def A7Z:sP Tryz.prog 65 cW KG (cJ AH6) AEN:=iH (a1:=(true,aD)) (a2:=(true,aK)) (sp:=KG) (F:=AEN) (Hs:=BAS) (f:=65) (k:=8) ATE aZ a7 (aO rfl) ⟨_,_,Tryz.func65,rfl⟩ rfl λ_ _ _=>by kernel_rfl
def A7G (h:BT m=0):okM m=true:=by
 unfold BT at h;split at h
 ·cases h
 rename_i h1;split at h
 ·rename_i h2;exact absurd h h2
 rename_i h2;have h2:cG (x7 m) (range m.1.length)=0:=Classical.byContradiction h2;simp only[okM,ac,ah,all_eq_true];refine ⟨⟨by omega,by omega⟩,λg hg=>?_⟩;obtain ⟨i,hi,rfl⟩:=List.mem_iff_getElem.1 hg;have h3:=jZ h2 i (List.mem_range.2 hi);unfold x7 at h3;rw[vK hi] at h3;have h4:jR m.1[i]=0:=by
  refine Classical.byContradiction λhc=>?_;rw[if_pos hc] at h3;exact hc h3
 unfold jR at h4;split at h4
 ·cases h4
 split at h4
 ·cases h4
 split at h4
 ·cases h4
 split at h4
 ·cases h4
 ·omega
def A5S {d:aB} (hs:nS d) (hm:okM m=true):tX (oJ d (iV (ids d.2.1)) (iV (ids d.2.2.1)) (iV (ids d.2.2.2.1)) (iV (ids d.2.2.2.2.1)) m)=some (T.v (Value.int .i64 (kC d m))):=by
 rw[AAB];unfold uQ;dsimp only;rw[hm];exact oU hs _
def A5R {d:aB} (hs:nS d) (hk:AM d=true):tW (oI d (iV (ids d.2.1)) (iV (ids d.2.2.1)) (iV (ids d.2.2.2.1)) (iV (ids d.2.2.2.2.1)))=some (T.v (Value.int .i64 (iP d))):=by
 rw[AAA];unfold uP;dsimp only;rw[hk];exact oU hs _
def kH:aP Tryz.prog 65 cW:=A7Z λd m r h hb=>by
 cases h;have hd:BdS aD d:=hb.1;have hs:nS d:=⟨hd.2.1.1,hd.2.2.1.1,hd.2.2.2.1.1,hd.2.2.2.2.1.1,hd.2.2.2.2.2.1⟩
 have hkl:∀ k∈d.2.2.2.2.1,(jT k).length<=140737488355328/\(gM k).length<=140737488355328:=λk hk=>by
  have h:=hd.2.2.2.2.1.2 k hk;exact ⟨h.2.2.1.1,h.2.2.2.2.1⟩
 clear hd;have is:∀ {n:Int},gQ d m=n->pPP n=pPP (gQ d m):=λh=>by rw[h]
 unfold AEN BLY BLW BLC BK6 BK4 BK0 BKZ BKV BK2 BLP BKL BKC BKB;refine aG (s:=[(false,.int .i64)]) (y:=BT m) (AAJ ..) ?_;refine kU (λh=>is (by unfold gQ;rw[if_pos h])) λh0=>?_;have hm:=A7G h0;refine aG (s:=[(false,.bool)]) (y:=isName d.1) xO ?_;have n0:¬ ¬ BT m=0:=λh=>h h0;refine iE (λh=>is (by unfold gQ;rw[if_neg n0,if_pos h])) λhn=>?_;have n1:¬ isName d.1=false:=by rw[hn];decide
 refine J9 (es:=iV (ids d.2.1)) (by rw[ae];exact BCX hs.n) ?_;refine J9 (es:=iV (ids d.2.2.1)) (by rw[ae];exact BCY hs.p) ?_;refine J9 (es:=iV (ids d.2.2.2.1)) (by rw[ae];exact BCZ hs.s) ?_;refine J9 (es:=iV (ids d.2.2.2.2.1)) (by rw[ae];exact BC0 hs.k) ?_;refine aG (s:=[(false,.int .i64)]) (y:=oL d) ((API ..).trans (oU hs _)) ?_;refine kU (λh=>is (by unfold gQ;rw[if_neg n0,if_neg n1,if_pos h])) λh1=>?_;have n2:¬ ¬ oL d=0:=λh=>h h1;have hk:AM d=true:=by
  simp only[AM,ac,ah,all_eq_true];refine ⟨hkl,?_⟩;have hlong:nK d=false:=by
   rw[Bool.eq_false_iff];intro h;unfold oL at h1;rw[if_pos h] at h1;cases h1
  simp only[nK,Bool.or_eq_false_iff,decide_eq_false_iff_not] at hlong;omega
 refine aG (s:=[(false,.int .i64)]) (y:=j4 d) ((Z7 ..).trans (oU hs _)) ?_;refine kU (λh=>is (by unfold gQ;rw[if_neg n0,if_neg n1,if_neg n2,if_pos h])) λh2=>?_;have n3:¬ ¬ j4 d=0:=λh=>h h2;refine aG (s:=[(false,.int .i64)]) (y:=kC d m) (A5S hs hm) ?_;refine kU (λh=>is (by unfold gQ;rw[if_neg n0,if_neg n1,if_neg n2,if_neg n3,if_pos h])) λh3=>?_;have n4:¬ ¬ kC d m=0:=λh=>h h3;refine aG (s:=[(false,.int .i64)]) (y:=cG (rE d) d.2.2.2.1) ((Z8 ..).trans (oU hs _)) ?_;refine kU (λh=>is (by unfold gQ;rw[if_neg n0,if_neg n1,if_neg n2,if_neg n3,if_neg n4,if_pos h])) λh4=>?_;have n5:¬ ¬ cG (rE d) d.2.2.2.1=0:=λh=>h h4;refine aG (s:=[(false,.int .i64)]) (y:=iP d) (A5R hs hk) ?_;refine kU (λh=>is (by unfold gQ;rw[if_neg n0,if_neg n1,if_neg n2,if_neg n3,if_neg n4,if_neg n5,if_pos h])) λh5=>?_;have n6:¬ ¬ iP d=0:=λh=>h h5;refine aG (s:=[(false,.int .i64)]) (y:=cG (uL d) d.2.2.2.2.2) ((Z6 ..).trans (oU hs _)) ?_;exact is (by unfold gQ;rw[if_neg n0,if_neg n1,if_neg n2,if_neg n3,if_neg n4,if_neg n5,if_neg n6])
def j3 (after:α->α->Bool) (l:List α) (x:α):List α:=l.take (l.findIdx λy=>after y x)++x::l.drop (l.findIdx λy=>after y x)
def fY (is:α->Bool) (l:List α):List α:=l.take (l.findIdx is)++l.drop (l.findIdx is+1)
variable {after:α->α->Bool}{y:α}
def EN {l:List α} {x:α}:y∈j3 after l x↔y=x\/y∈l:=by
 unfold j3;rw[mem_append,mem_cons];constructor
 ·rintro (h|h|h)
  ·exact .inr (List.mem_of_mem_take h)
  ·exact .inl h
  ·exact .inr (List.mem_of_mem_drop h)
 ·rintro (h|h)
  ·exact .inr (.inl h)
  ·rw[<-List.take_append_drop (l.findIdx λy=>after y x) l,mem_append] at h;rcases h with h|h
   ·exact .inl h
   ·exact .inr (.inr h)
variable {is:α->Bool}
def MY {l:List α} (h:y∈fY is l):y∈l:=by
 unfold fY at h;rcases mem_append.1 h with h|h
 ·exact List.mem_of_mem_take h
 ·exact List.mem_of_mem_drop h
def AZQ {l:List α} {x:α}:(j3 after l x).length=l.length+1:=by
 unfold j3;have:l.findIdx (λy=>after y x)<=l.length:=List.findIdx_le_length;rw[List.length_append,length_cons,length_take,List.length_drop];omega
def ZJ {l:List α}:(fY is l).length<=l.length:=by
 unfold fY;rw[List.length_append,length_take,List.length_drop];omega
def Q2 {β:Type} {f:α->β} {l:List α} (hn:(l.map f).Nodup) (his:∀ x y,is x=true->is y=true->f x=f y):∀ y∈fY is l,is y=false:=by
 induction l with
 | nil=>intro y h;simp[fY] at h
 | cons a l ih =>
  obtain ⟨h1,h2⟩:=pairwise_cons.1 (show (f a::l.map f).Nodup from hn);intro y hy;unfold fY at hy;rw[List.findIdx_cons] at hy;cases ha:is a with
  | true =>
   rw[ha] at hy;simp only[cond_true,List.take_zero,List.nil_append,Nat.zero_add,List.drop_succ_cons,drop_zero] at hy;cases hb:is y with
   | false=>rfl
   | true=>exact absurd (his a y ha hb) (h1 _ (List.mem_map.2 ⟨y,hy,rfl⟩))
  | false =>
   rw[ha] at hy;simp only[cond_false,List.take_succ_cons,List.drop_succ_cons,List.cons_append,mem_cons] at hy;rcases hy with rfl|hy
   ·exact ha
   ·exact ih h2 y hy
abbrev BI8:Type:=iII×iII×bN×a8×bS×aQ×bE
abbrev o4:Type:=aB×aI×BI8
abbrev fE (x:aV):iII:=x.2.1
abbrev eTo (x:aV):iII:=x.2.2.1
abbrev pC (x:aV):bN:=x.2.2.2.1
abbrev cV (x:aV):a8:=x.2.2.2.2.1
abbrev pD (x:aV):bS:=x.2.2.2.2.2.1
abbrev hU (x:aV):aQ:=x.2.2.2.2.2.2.1
abbrev fO (x:aV):bE:=x.2.2.2.2.2.2.2
def nY:iII:=⟨#[]⟩
def pK:bE:=(0,⟨#[]⟩,⟨#[]⟩)
def rI:aB:=(⟨#[]⟩,[],[],[],[],[])
def bW (x:aV):aV :=
 if x.1=1 then (x.1,nY,nY,pC x,eN,iG,noPack,pK)
 else if x.1=3\/x.1=5 then (x.1,nY,nY,iF,cV x,iG,noPack,pK)
 else if x.1=6 then (x.1,fE x,eTo x,iF,eN,iG,noPack,pK)
 else if x.1=7 then (x.1,nY,nY,iF,eN,pD x,noPack,pK)
 else if x.1=9 then (x.1,nY,nY,iF,eN,iG,hU x,pK)
 else if x.1=11\/x.1=12 then (x.1,nY,nY,iF,eN,iG,noPack,fO x)
 else (x.1,fE x,nY,iF,eN,iG,noPack,pK)
def dQ (d:aB) (x:aV):Bool :=
 if x.1=1 then (eG d (pC x).1).isSome
 else if x.1=2 then (eG d (fE x)).isSome
 else if x.1=3\/x.1=5 then (partOf d (cV x).1).isSome
 else if x.1=4\/x.1=6 then (partOf d (fE x)).isSome
 else if x.1=7 then (o9 d (pD x).1).isSome
 else if x.1=8 then (o9 d (fE x)).isSome
 else if x.1=9 then (iO d (hU x).1).isSome
 else if x.1=10 then (iO d (fE x)).isSome
 else d.2.2.2.2.2.any λn=>decide (n=fO x)
def kS (x:aV):Bool:=decide (x.1=1)||decide (x.1=3)||decide (x.1=7)||decide (x.1=9)||decide (x.1=11)
def gtS (a b:iII):Bool:=cR b a
def dW (a b:iII×α):Bool:=gtS a.1 b.1
def CM (a b:bE):Bool:=ltN b a
def qG (a:iII):cR a a=false:=by
 rw[Bool.eq_false_iff];intro h;exact List.lt_irrefl _ ((nH a a).1 h)
def WO {a b c:iII} (h1:cR a b=true) (h2:cR b c=true):cR a c=true:=(nH a c).2 (List.lt_trans ((nH a b).1 h1) ((nH b c).1 h2))
def AKO (a:bE):ltN a a=false:=by
 unfold ltN;rw[qG,qG,aj (Int.lt_irrefl _)];simp
def SP {a b c:bE} (h1:ltN a b=true) (h2:ltN b c=true):ltN a c=true:=by
 unfold ltN at *;simp only[Bool.or_eq_true,ac,ah] at *;rcases h1 with h1|⟨e1,h1⟩
 ·rcases h2 with h2|⟨e2,h2⟩
  ·exact .inl (Int.lt_trans h1 h2)
  ·exact .inl (by omega)
 ·rcases h2 with h2|⟨e2,h2⟩
  ·exact .inl (by omega)
  ·refine .inr ⟨e1.trans e2,?_⟩;rcases h1 with h1|⟨f1,h1⟩
   ·rcases h2 with h2|⟨f2,h2⟩
    ·exact .inl (WO h1 h2)
    ·exact .inl (by rw[<-f2];exact h1)
   ·rcases h2 with h2|⟨f2,h2⟩
    ·exact .inl (by rw[f1];exact h2)
    ·exact .inr ⟨f1.trans f2,WO h1 h2⟩
def cP (id:iII) (a:iII×α):Bool:=decide (a.1=id)
def AG5 (l:List iII) (x:iII):Bool:=l.any λy=>decide (y=x)
def lP (d:aB) (id:iII):Bool:=(d.2.2.1.any λp=>decide (nP p=id))||((d.2.1.any λn=>decide (n.2.2=id))||((d.2.2.2.2.1.any λk=>decide (k.2.1=id))||(d.2.2.2.2.2.any λn=>decide (n.2.1=id)||(decide (n.2.2=id) && !decide (n.1=3)))))
def oY (d:aB) (id:iII):Bool:=(d.2.2.2.1.any λs=>decide (s.2.1=id)||decide (s.2.2.1=id))||(d.2.2.2.2.1.any λk=>AG5 k.2.2.1 id)
def rH (d:aB) (id:iII):Bool:=((fY (cP id) d.2.2.2.2.1).any λk=>AG5 k.2.2.2.2 id)||(d.2.2.2.2.2.any λn=>decide (n.1=3)&&decide (n.2.2=id))
def kX (d:aB) (x:aV):Bool:=if x.1=2 then lP d (fE x) else if x.1=4 then oY d (fE x) else if x.1=10 then rH d (fE x) else false
def AH4 (p old:a8):a8:=(p.1,i64.wrap (old.2.1+1),p.2.2)
def AHJ (p:a8) (id:iII):a8:=(p.1,p.2.1,p.2.2.1,id,p.2.2.2.2)
def MK (is:α->Bool) (f:α->α) (l:List α):List α:=l.modify (l.findIdx is) f
def lE (d:aB) (x:aV):aB :=
 if x.1=1 then (d.1,j3 dW d.2.1 (pC x),d.2.2)
 else if x.1=2 then (d.1,fY (cP (fE x)) d.2.1,d.2.2)
 else if x.1=3 then (d.1,d.2.1,j3 dW d.2.2.1 (cV x),d.2.2.2)
 else if x.1=4 then (d.1,d.2.1,fY (cP (fE x)) d.2.2.1,d.2.2.2)
 else if x.1=5 then (d.1,d.2.1,MK (cP (cV x).1) (AH4 (cV x)) d.2.2.1,d.2.2.2)
 else if x.1=6 then (d.1,d.2.1,MK (cP (fE x)) (λp=>AHJ p (eTo x)) d.2.2.1,d.2.2.2)
 else if x.1=7 then (d.1,d.2.1,d.2.2.1,j3 dW d.2.2.2.1 (pD x),d.2.2.2.2)
 else if x.1=8 then (d.1,d.2.1,d.2.2.1,fY (cP (fE x)) d.2.2.2.1,d.2.2.2.2)
 else if x.1=9 then (d.1,d.2.1,d.2.2.1,d.2.2.2.1,j3 dW d.2.2.2.2.1 (hU x),d.2.2.2.2.2)
 else if x.1=10 then (d.1,d.2.1,d.2.2.1,d.2.2.2.1,fY (cP (fE x)) d.2.2.2.2.1,d.2.2.2.2.2)
 else if x.1=11 then (d.1,d.2.1,d.2.2.1,d.2.2.2.1,d.2.2.2.2.1,j3 CM d.2.2.2.2.2 (fO x))
 else (d.1,d.2.1,d.2.2.1,d.2.2.2.1,d.2.2.2.2.1,fY (λn=>decide (n=fO x)) d.2.2.2.2.2)
noncomputable def bI (d:aB) (m:aI) (x:aV):aB×Int :=
 if ¬ (1<=x.1/\x.1<=12) then (rI,10)
 else if l8 x (bW x)=false\/(x.1=5/\¬ (cV x).2.1=0) then (rI,2)
 else if kS x=true/\dQ d x=true then (rI,7)
 else if kS x=false/\dQ d x=false then (rI,8)
 else if x.1=5/\¬ nP (found eN (partOf d (cV x).1)).1=nP (cV x) then (rI,2)
 else if kX d x=true then (rI,34)
 else if gQ (lE d x) m=0 then (lE d x,0) else (rI,gQ (lE d x) m)
structure wW (d:aB) (m:aI) (x:aV):Prop where
 kind:1<=x.1/\x.1<=12
 plain:x=bW x
 rev:x.1=5->(cV x).2.1=0
 there:dQ d x = !kS x
 node:x.1=5->nP (found eN (partOf d (cV x).1)).1=nP (cV x)
 free:kX d x=false
 chk:gQ (lE d x) m=0
 eq:bI d m x=(lE d x,0)
def US {d:aB} {x:aV} (h:(bI d m x).2=0):wW d m x:=by
 have h0:=h;unfold bI at h;split at h
 ·cases h
 rename_i h1;split at h
 ·cases h
 rename_i h2;split at h
 ·cases h
 rename_i h3;split at h
 ·cases h
 rename_i h4;split at h
 ·cases h
 rename_i h5;split at h
 ·cases h
 rename_i h6;split at h
 ·rename_i h7;have h1:1<=x.1/\x.1<=12:=Classical.byContradiction h1;refine ⟨h1,Classical.byContradiction λhc=>h2 (.inl (xE hc)),λhk=>Classical.byContradiction λhc=>h2 (.inr ⟨hk,hc⟩),?_,λhk=>Classical.byContradiction λhc=>h5 ⟨hk,hc⟩,by simpa using h6,h7,?_⟩
  ·cases ha:kS x<;>cases ht:dQ d x
   ·exact absurd ⟨ha,ht⟩ h4
   ·rfl
   ·rfl
   ·exact absurd ⟨ha,ht⟩ h3
  ·unfold bI;rw[if_neg (λh=>h h1),if_neg h2,if_neg h3,if_neg h4,if_neg h5,if_neg h6,if_pos h7]
 ·rename_i h7;exact absurd h h7
def AXO {l:List (iII×α)} (hn:(ids l).Nodup) {id:iII}:((fY (cP id) l).find? λs=>decide (s.1=id)).isSome=false:=by
 cases hf:(fY (cP id) l).find? λs=>decide (s.1=id) with
 | none=>rfl
 | some a =>
  have h1:=List.mem_of_find?_eq_some hf;have h2:=Q2 (f:=λs:iII×α=>s.1) (is:=cP id) hn (λx y hx hy=>(of_decide_eq_true hx).trans (of_decide_eq_true hy).symm) a h1;have h3:=List.find?_some hf;unfold cP at h2;rw[h3] at h2;cases h2
def zT:∀ {l:List bE},MI l=true->l.Pairwise λa b=>ltN a b=true
 | [],_=>List.Pairwise.nil
 | [a],_=>by simp
 | a::b::l,h=>by
  rw[MI,ac] at h;have ih:=zT h.2;refine pairwise_cons.2 ⟨λy hy=>?_,ih⟩;rcases mem_cons.1 hy with rfl|hy
  ·exact h.1
  ·exact SP h.1 ((pairwise_cons.1 ih).1 y hy)
def AFK {l:List bE} (h:MI l=true):l.Nodup:=by
 refine (zT h).imp λ{a b} hab e=>?_;subst e;rw[AKO] at hab;cases hab
def okS (s:iII):Bool:=decide (s.size<=1099511627776)
def BC5 (l:List iII) (x:iII):Bool:=l.any λy=>decide (y=x)
structure BI9 (d:aB):Prop where
 ZP:ZP d 1000=true
 n:d.2.1.length<=1000
 p:d.2.2.1.length<=1000
 s:d.2.2.2.1.length<=1000
 k:d.2.2.2.2.1.length<=1000
 r:d.2.2.2.2.2.length<=1000
 kl:∀ k∈d.2.2.2.2.1,(jT k).length<=1000/\(gM k).length<=1000
 JH:JH d=true
 HJ:HJ d=true
structure UOk (d:aB):Prop extends BI9 d where
 nI:∀ n∈d.2.1,okS n.1=true
 pI:∀ p∈d.2.2.1,okS p.1=true/\okS (nP p)=true
 sI:∀ s∈d.2.2.2.1,okS s.1=true/\okS s.2.1=true/\okS s.2.2.1=true
 kI:∀ k∈d.2.2.2.2.1,okS k.1=true
def qH (a b:iII):(!(cR b a||decide (b=a)))=cR a b:=by
 rw[Bool.eq_iff_iff];refine ⟨λh=>(nH a b).2 (AJQ h),λh=>?_⟩;have h1:=(nH a b).1 h;have h2:cR b a=false:=by
  rw[Bool.eq_false_iff];intro h3;exact List.lt_irrefl _ (List.lt_trans h1 ((nH b a).1 h3))
 have h3:¬ b=a:=λe=>by rw[e] at h1;exact List.lt_irrefl _ h1
 rw[h2,aj h3];rfl
def dk {l:List iII} {rows:List (List T)} {K:List iII->Prop} (e:rows=List.map Sy.str.enc l) (h:K l):jI Sy.str rows K:=by
 subst e;rw[dP (r:=.str) rfl];exact h
def cT {r:Sy} {l:List r.den} (p:r.den->Bool) {Body:(Int×PUnit->Prop)->Int×PUnit->r.den->Prop} {Fin:Prop} (hl:l.length<=140737488355328)
  (hB:∀ (X:Int×PUnit->Prop) (k:Nat) (y:r.den) (h:k<l.length),l[k]=y->(p y=true->l.findIdx p=k/\l.any p=true)->(p y=false->X (i64.wrap ((k:Int)+1),()))->Body X ((k:Int),()) y)
  (hF:l.findIdx p=l.length->l.any p=false->Fin) :
  bD (Int×PUnit) (λX s=>aC (decide (s.1<((List.map r.enc l).length:Int))) (aX r (List.map r.enc l) s.1 λy=>Body X s y) Fin) (0,()):=by
 refine bP l.length (λk s=>s=((k:Int),())/\∀ i,(h:i<l.length)->i<k->p l[i]=false) ⟨rfl,λi _ h=>by omega⟩ ?_;rintro X k s hk ⟨rfl,he⟩ hX;dsimp only;refine cC (λhlt=>?_) λhge=>?_
 ·rw[ae] at hlt;have hlt:k<l.length:=by omega
  rw[bK (r:=r) hlt];refine hB X k _ hlt rfl (λhp=>⟨?_,List.any_eq_true.2 ⟨_,ak hlt,hp⟩⟩) λhp=>hX _ hlt ⟨?_,λi hi hik=>?_⟩
  ·exact (List.findIdx_eq hlt).2 ⟨hp,λj hj=>he j (by omega) hj⟩
  ·rw[show i64.wrap ((k:Int)+1)=((k+1:Nat):Int) by rw[bH]<;>omega]
  ·rcases Nat.lt_or_ge i k with h|h
   ·exact he i hi h
   ·have:i=k:=by omega
    subst this;exact hp
 ·rw[ae] at hge;have hall:∀ y∈l,p y=false:=λy hy=>by
   obtain ⟨i,hi,rfl⟩:=List.mem_iff_getElem.1 hy;exact he i hi (by omega)
  exact hF (List.findIdx_eq_length_of_false λy hy=>by simpa using hall y hy) (List.any_eq_false.2 λy hy=>by simp[hall y hy])
def o8 {n:Nat} (h:n<=1000):n<=140737488355328:=by omega
def xB {l:List α} (h:l.findIdx is=l.length):fY is l=l:=by
 unfold fY;rw[h,List.take_length,List.drop_eq_nil_of_le (by omega),List.append_nil]
def sX {r:Sy} {z b k:Nat} {f:Bool} {l:List r.den} {x:r.den} (hz:r.w=z) (hk:k<=l.length) (hl:l.length<=1000) (hb:b<=1000):U4 z b (List.map r.enc l) [.v (.int .i64 (k:Int)),.sl f [r.enc x]]=some (List.map r.enc (l.take k++x::l.drop k)):=by
 unfold U4;have hm:(l.length+1)*b<=1001*1000:=Nat.mul_le_mul (by omega) hb;have hc:(decide (0<=(k:Int))&&decide ((k:Int).toNat<=(List.map r.enc l).length)&&decide ((r.enc x).length=z)&&eY z (List.map r.enc l)&&decide (((List.map r.enc l).length+1)*b<=140737488355328)&&decide ((List.map r.enc l).length+1<=140737488355328))=true:=by
  subst hz;simp only[ae,Int.toNat_natCast,Sy.cY,tJ,ac,ah,and_true];omega
 dsimp only;rw[hc];simp
def GJ {r:Sy} {z k:Nat} {l:List r.den} (hz:r.w=z) (hk:k<l.length) (hl:l.length<=1000):U3 z (List.map r.enc l) [.v (.int .i64 (k:Int)),.v (.int .i64 (i64.wrap ((k:Int)+1)))]=some (List.map r.enc (l.take k++l.drop (k+1))):=by
 unfold U3;have hw:i64.wrap ((k:Int)+1)=(k:Int)+1:=by rw[bH]<;>omega
 have hc:(decide (0<=(k:Int))&&decide (i64.wrap ((k:Int)+1)=(k:Int)+1)&&decide ((k:Int).toNat<(List.map r.enc l).length)&&eY z (List.map r.enc l))=true:=by
  subst hz;rw[hw];simp only[ae,Int.toNat_natCast,tJ,ac,ah,and_true];omega
 dsimp only;rw[hc];simp
def WW (x:aV):Option T:=some (Sh.enc [(true,aM)] ((x.1,nY,nY,pC x,eN,iG,noPack,pK):aV))
noncomputable def BF8:Env:=Env.of []
def BGU:FuncId->Hint:=λ_=>bA
def A4I:aU Tryz.prog BF8:=.nil _
def AUW(a0:aV)(R:T->Prop):Prop:=R (T.agg [pPP a0.1,pPQ ({data:=#[]}), pPQ ({data:=#[]}),pPQ a0.2.2.2.1.1, pPP a0.2.2.2.1.2.1, pPQ a0.2.2.2.1.2.2,pPQ ({data:=#[]}), pPP 0,pPP 0, pPQ ({data:=#[]}),pPQ ({data:=#[]}), pPP 0,T.sl false [],T.sl false [], pPQ ({data:=#[]}),pPP 0, pPP 0,pPP 0, pPP 0,pPP 0, pPP 0,pPP 0, pPP 0,pPP 0, pPQ ({data:=#[]}),pPQ ({data:=#[]}), pPQ ({data:=#[]}),pPP 0, pPP 0,pPP 0, pPQ ({data:=#[]}),pPQ ({data:=#[]}),T.sl false [], pPP 0,T.sl false [],pPP 0, pPQ ({data:=#[]}),pPQ ({data:=#[]})])
abbrev A2L:Sh:=[(true,aM)]
noncomputable def R4:List T->Option T:=gS A2L WW
def AY3 {a0}:R4 [aH true aM a0]=WW (a0):=bJ (s:=A2L) rfl (a0) rfl
def BEF:w5 Tryz.prog 147 R4 WW (cJ A2L) AUW:=j5 (a1:=(true,aM)) (sp:=WW) (F:=AUW) (Hs:=BGU) (f:=147) (k:=8) A4I aZ a7 (aO rfl) ⟨_,_,Tryz.func147,rfl⟩ rfl λ_ _=>by kernel_rfl
def BCD:aP Tryz.prog 147 R4:=BEF λx r h hb=>by
 cases h;unfold AUW;rfl
def WX (x:aV):Option T:=some (Sh.enc [(true,aM)] ((x.1,fE x,nY,iF,eN,iG,noPack,pK):aV))
noncomputable def BF9:Env:=Env.of []
def BGV:FuncId->Hint:=λ_=>bA
def A4J:aU Tryz.prog BF9:=.nil _
def BKU(a0:aV):T:=T.agg [pPP a0.1,pPQ a0.2.1, pPQ ({data:=#[]}),pPQ ({data:=#[]}), pPP 0,pPQ ({data:=#[]}), pPQ ({data:=#[]}),pPP 0, pPP 0,pPQ ({data:=#[]}), pPQ ({data:=#[]}),pPP 0,T.sl false [], T.sl false [],pPQ ({data:=#[]}),pPP 0, pPP 0,pPP 0, pPP 0,pPP 0, pPP 0,pPP 0, pPP 0,pPP 0, pPQ ({data:=#[]}),pPQ ({data:=#[]}), pPQ ({data:=#[]}),pPP 0, pPP 0,pPP 0, pPQ ({data:=#[]}),pPQ ({data:=#[]}),T.sl false [], pPP 0,T.sl false [],pPP 0, pPQ ({data:=#[]}),pPQ ({data:=#[]})]
def AUX(a0:aV)(R:T->Prop):Prop:=R (BKU a0)
abbrev A2M:Sh:=[(true,aM)]
noncomputable def R6:List T->Option T:=gS A2M WX
def AY4 {a0}:R6 [aH true aM a0]=WX (a0):=bJ (s:=A2M) rfl (a0) rfl
def BEG:w5 Tryz.prog 155 R6 WX (cJ A2M) AUX:=j5 (a1:=(true,aM)) (sp:=WX) (F:=AUX) (Hs:=BGV) (f:=155) (k:=8) A4J aZ a7 (aO rfl) ⟨_,_,Tryz.func155,rfl⟩ rfl λ_ _=>by kernel_rfl
def BCE:aP Tryz.prog 155 R6:=BEG λx r h hb=>by
 cases h;unfold AUX BKU;rfl
def WY (x:aV):Option T:=some (Sh.enc [(true,aM)] ((x.1,nY,nY,iF,cV x,iG,noPack,pK):aV))
noncomputable def BGA:Env:=Env.of []
def BGW:FuncId->Hint:=λ_=>bA
def A4K:aU Tryz.prog BGA:=.nil _
def BKY(a0:aV):T:=T.agg [pPP a0.1,pPQ ({data:=#[]}), pPQ ({data:=#[]}),pPQ ({data:=#[]}), pPP 0,pPQ ({data:=#[]}), pPQ a0.2.2.2.2.1.1, pPP a0.2.2.2.2.1.2.1, pPP a0.2.2.2.2.1.2.2.1, pPQ a0.2.2.2.2.1.2.2.2.1, pPQ a0.2.2.2.2.1.2.2.2.2.1, pPP a0.2.2.2.2.1.2.2.2.2.2.1, T.sl false (List.map aA.enc a0.2.2.2.2.1.2.2.2.2.2.2.1.1), T.sl false (List.map aA.li.enc a0.2.2.2.2.1.2.2.2.2.2.2.1.2), pPQ a0.2.2.2.2.1.2.2.2.2.2.2.2.1, pPP a0.2.2.2.2.1.2.2.2.2.2.2.2.2.1, pPP a0.2.2.2.2.1.2.2.2.2.2.2.2.2.2.1, pPP a0.2.2.2.2.1.2.2.2.2.2.2.2.2.2.2.1.1, pPP a0.2.2.2.2.1.2.2.2.2.2.2.2.2.2.2.1.2.1, pPP a0.2.2.2.2.1.2.2.2.2.2.2.2.2.2.2.1.2.2, pPP a0.2.2.2.2.1.2.2.2.2.2.2.2.2.2.2.2.1.1, pPP a0.2.2.2.2.1.2.2.2.2.2.2.2.2.2.2.2.1.2.1, pPP a0.2.2.2.2.1.2.2.2.2.2.2.2.2.2.2.2.1.2.2, pPP a0.2.2.2.2.1.2.2.2.2.2.2.2.2.2.2.2.2, pPQ ({data:=#[]}),pPQ ({data:=#[]}), pPQ ({data:=#[]}),pPP 0, pPP 0,pPP 0, pPQ ({data:=#[]}),pPQ ({data:=#[]}),T.sl false [], pPP 0,T.sl false [],pPP 0, pPQ ({data:=#[]}),pPQ ({data:=#[]})]
def AUY(a0:aV)(R:T->Prop):Prop:=R (BKY a0)
abbrev A2N:Sh:=[(true,aM)]
noncomputable def R8:List T->Option T:=gS A2N WY
def AY5 {a0}:R8 [aH true aM a0]=WY (a0):=bJ (s:=A2N) rfl (a0) rfl
def BEH:w5 Tryz.prog 167 R8 WY (cJ A2N) AUY:=j5 (a1:=(true,aM)) (sp:=WY) (F:=AUY) (Hs:=BGW) (f:=167) (k:=8) A4K aZ a7 (aO rfl) ⟨_,_,Tryz.func167,rfl⟩ rfl λ_ _=>by kernel_rfl
def BCF:aP Tryz.prog 167 R8:=BEH λx r h hb=>by
 cases h;unfold AUY BKY;rfl
def WZ (x:aV):Option T:=some (Sh.enc [(true,aM)] ((x.1,fE x,nY,iF,eN,iG,noPack,pK):aV))
noncomputable def BGB:Env:=Env.of []
def BGX:FuncId->Hint:=λ_=>bA
def A4L:aU Tryz.prog BGB:=.nil _
def AUZ(a0:aV)(R:T->Prop):Prop:=R (BKU a0)
abbrev A2O:Sh:=[(true,aM)]
noncomputable def R9:List T->Option T:=gS A2O WZ
def AY6 {a0}:R9 [aH true aM a0]=WZ (a0):=bJ (s:=A2O) rfl (a0) rfl
def BEI:w5 Tryz.prog 174 R9 WZ (cJ A2O) AUZ:=j5 (a1:=(true,aM)) (sp:=WZ) (F:=AUZ) (Hs:=BGX) (f:=174) (k:=8) A4L aZ a7 (aO rfl) ⟨_,_,Tryz.func174,rfl⟩ rfl λ_ _=>by kernel_rfl
def BCG:aP Tryz.prog 174 R9:=BEI λx r h hb=>by
 cases h;unfold AUZ BKU;rfl
def W8 (x:aV):Option T:=some (Sh.enc [(true,aM)] ((x.1,nY,nY,iF,eN,pD x,noPack,pK):aV))
noncomputable def BGE:Env:=Env.of []
def BG0:FuncId->Hint:=λ_=>bA
def A4O:aU Tryz.prog BGE:=.nil _
def AU2(a0:aV)(R:T->Prop):Prop:=R (T.agg [pPP a0.1,pPQ ({data:=#[]}), pPQ ({data:=#[]}),pPQ ({data:=#[]}), pPP 0,pPQ ({data:=#[]}), pPQ ({data:=#[]}),pPP 0, pPP 0,pPQ ({data:=#[]}), pPQ ({data:=#[]}),pPP 0,T.sl false [], T.sl false [],pPQ ({data:=#[]}),pPP 0, pPP 0,pPP 0, pPP 0,pPP 0, pPP 0,pPP 0, pPP 0,pPP 0, pPQ a0.2.2.2.2.2.1.1, pPQ a0.2.2.2.2.2.1.2.1, pPQ a0.2.2.2.2.2.1.2.2.1, pPP a0.2.2.2.2.2.1.2.2.2.1, pPP a0.2.2.2.2.2.1.2.2.2.2.1, pPP a0.2.2.2.2.2.1.2.2.2.2.2, pPQ ({data:=#[]}),pPQ ({data:=#[]}),T.sl false [], pPP 0,T.sl false [],pPP 0, pPQ ({data:=#[]}),pPQ ({data:=#[]})])
abbrev A2R:Sh:=[(true,aM)]
noncomputable def SC:List T->Option T:=gS A2R W8
def AY9 {a0}:SC [aH true aM a0]=W8 (a0):=bJ (s:=A2R) rfl (a0) rfl
def BEL:w5 Tryz.prog 195 SC W8 (cJ A2R) AU2:=j5 (a1:=(true,aM)) (sp:=W8) (F:=AU2) (Hs:=BG0) (f:=195) (k:=8) A4O aZ a7 (aO rfl) ⟨_,_,Tryz.func195,rfl⟩ rfl λ_ _=>by kernel_rfl
def BCJ:aP Tryz.prog 195 SC:=BEL λx r h hb=>by
 cases h;unfold AU2;rfl
def W9 (x:aV):Option T:=some (Sh.enc [(true,aM)] ((x.1,fE x,nY,iF,eN,iG,noPack,pK):aV))
noncomputable def BGF:Env:=Env.of []
def BG1:FuncId->Hint:=λ_=>bA
def A4P:aU Tryz.prog BGF:=.nil _
def AU3(a0:aV)(R:T->Prop):Prop:=R (BKU a0)
abbrev A2S:Sh:=[(true,aM)]
noncomputable def SD:List T->Option T:=gS A2S W9
def AZA {a0}:SD [aH true aM a0]=W9 (a0):=bJ (s:=A2S) rfl (a0) rfl
def BEM:w5 Tryz.prog 203 SD W9 (cJ A2S) AU3:=j5 (a1:=(true,aM)) (sp:=W9) (F:=AU3) (Hs:=BG1) (f:=203) (k:=8) A4P aZ a7 (aO rfl) ⟨_,_,Tryz.func203,rfl⟩ rfl λ_ _=>by kernel_rfl
def BCK:aP Tryz.prog 203 SD:=BEM λx r h hb=>by
 cases h;unfold AU3 BKU;rfl
def XA (x:aV):Option T:=some (Sh.enc [(true,aM)] ((x.1,nY,nY,iF,eN,iG,hU x,pK):aV))
noncomputable def BGG:Env:=Env.of []
def BG2:FuncId->Hint:=λ_=>bA
def A4Q:aU Tryz.prog BGG:=.nil _
def AU4(a0:aV)(R:T->Prop):Prop:=R (T.agg [pPP a0.1,pPQ ({data:=#[]}), pPQ ({data:=#[]}),pPQ ({data:=#[]}), pPP 0,pPQ ({data:=#[]}), pPQ ({data:=#[]}),pPP 0, pPP 0,pPQ ({data:=#[]}), pPQ ({data:=#[]}),pPP 0,T.sl false [], T.sl false [],pPQ ({data:=#[]}),pPP 0, pPP 0,pPP 0, pPP 0,pPP 0, pPP 0,pPP 0, pPP 0,pPP 0, pPQ ({data:=#[]}),pPQ ({data:=#[]}), pPQ ({data:=#[]}),pPP 0, pPP 0,pPP 0, pPQ a0.2.2.2.2.2.2.1.1, pPQ a0.2.2.2.2.2.2.1.2.1, T.sl false (List.map Sy.str.enc a0.2.2.2.2.2.2.1.2.2.1), pPP a0.2.2.2.2.2.2.1.2.2.2.1, T.sl false (List.map Sy.str.enc a0.2.2.2.2.2.2.1.2.2.2.2), pPP 0,pPQ ({data:=#[]}), pPQ ({data:=#[]})])
abbrev A2T:Sh:=[(true,aM)]
noncomputable def SE:List T->Option T:=gS A2T XA
def AZB {a0}:SE [aH true aM a0]=XA (a0):=bJ (s:=A2T) rfl (a0) rfl
def BEN:w5 Tryz.prog 215 SE XA (cJ A2T) AU4:=j5 (a1:=(true,aM)) (sp:=XA) (F:=AU4) (Hs:=BG2) (f:=215) (k:=8) A4Q aZ a7 (aO rfl) ⟨_,_,Tryz.func215,rfl⟩ rfl λ_ _=>by kernel_rfl
def BCL:aP Tryz.prog 215 SE:=BEN λx r h hb=>by
 cases h;unfold AU4;rfl
def KM (x:aV):Option T:=some (Sh.enc [(true,aM)] ((x.1,fE x,nY,iF,eN,iG,noPack,pK):aV))
noncomputable def BAN:Env:=Env.of []
def BA3:FuncId->Hint:=λ_=>bA
def ATQ:aU Tryz.prog BAN:=.nil _
def AE1(a0:aV)(R:T->Prop):Prop:=R (BKU a0)
abbrev AII:Sh:=[(true,aM)]
noncomputable def G1:List T->Option T:=gS AII KM
def APK {a0}:G1 [aH true aM a0]=KM (a0):=bJ (s:=AII) rfl (a0) rfl
def A8C:w5 Tryz.prog 224 G1 KM (cJ AII) AE1:=j5 (a1:=(true,aM)) (sp:=KM) (F:=AE1) (Hs:=BA3) (f:=224) (k:=8) ATQ aZ a7 (aO rfl) ⟨_,_,Tryz.func224,rfl⟩ rfl λ_ _=>by kernel_rfl
def A6Z:aP Tryz.prog 224 G1:=A8C λx r h hb=>by
 cases h;unfold AE1 BKU;rfl
def KO (x:aV):Option T:=some (Sh.enc [(true,aM)] ((x.1,nY,nY,iF,eN,iG,noPack,fO x):aV))
noncomputable def BAO:Env:=Env.of []
def BA4:FuncId->Hint:=λ_=>bA
def ATR:aU Tryz.prog BAO:=.nil _
def AE2(a0:aV)(R:T->Prop):Prop:=R (T.agg [pPP a0.1,pPQ ({data:=#[]}), pPQ ({data:=#[]}),pPQ ({data:=#[]}), pPP 0,pPQ ({data:=#[]}), pPQ ({data:=#[]}),pPP 0, pPP 0,pPQ ({data:=#[]}), pPQ ({data:=#[]}),pPP 0,T.sl false [], T.sl false [],pPQ ({data:=#[]}),pPP 0, pPP 0,pPP 0, pPP 0,pPP 0, pPP 0,pPP 0, pPP 0,pPP 0, pPQ ({data:=#[]}),pPQ ({data:=#[]}), pPQ ({data:=#[]}),pPP 0, pPP 0,pPP 0, pPQ ({data:=#[]}),pPQ ({data:=#[]}),T.sl false [], pPP 0,T.sl false [], pPP a0.2.2.2.2.2.2.2.1, pPQ a0.2.2.2.2.2.2.2.2.1, pPQ a0.2.2.2.2.2.2.2.2.2])
abbrev AIJ:Sh:=[(true,aM)]
noncomputable def vH:List T->Option T:=gS AIJ KO
def R5 {a0}:vH [aH true aM a0]=KO (a0):=bJ (s:=AIJ) rfl (a0) rfl
def A8D:w5 Tryz.prog 230 vH KO (cJ AIJ) AE2:=j5 (a1:=(true,aM)) (sp:=KO) (F:=AE2) (Hs:=BA4) (f:=230) (k:=8) ATR aZ a7 (aO rfl) ⟨_,_,Tryz.func230,rfl⟩ rfl λ_ _=>by kernel_rfl
def AJ8:aP Tryz.prog 230 vH:=A8D λx r h hb=>by
 cases h;unfold AE2;rfl
def BD (x:aB×aV):Option T:=some (pPR false)
noncomputable def AS8:Env:=Env.of []
def AV6:FuncId->Hint:=λ_=>bA
def AEH:aU Tryz.prog AS8:=.nil _
def L4(a0:aB)(a1:aV)(R:T->Prop):Prop:=R BJ9
abbrev PF:Sh:=[(true,aD),(true,aM)]
noncomputable def jL:List T->Option T:=gS PF BD
def I8 {a0 a1}:jL [aH true aD a0,aH true aM a1]=BD (a0,a1):=bJ (s:=PF) rfl (a0,a1) rfl
def AQ7:sP Tryz.prog 183 jL BD (cJ PF) L4:=iH (a1:=(true,aD)) (a2:=(true,aM)) (sp:=BD) (F:=L4) (Hs:=AV6) (f:=183) (k:=8) AEH aZ a7 (aO rfl) ⟨_,_,Tryz.func183,rfl⟩ rfl λ_ _ _=>by kernel_rfl
def tV:aP Tryz.prog 183 jL:=AQ7 λd x r h hb=>by
 cases h;unfold L4 BJ9;rfl
def j6 {c:Bool} {a r:T} (h:(match c with|true=>some a|false=>none)=some r):c=true/\a=r:=by
 cases c with
 | true=>exact ⟨rfl,Option.some.inj h⟩
 | false=>cases h
def FT (x:aB×aV):Option T:=match vS x.1 with
 | true=>some (pPR (oY x.1 (fE x.2)))
 | false=>none
noncomputable def A3U:Env:=Env.of []
def A5A:FuncId->Hint:=cA 277 [(2,.inv [.val 8 false (.int .i64)])] (cA 282 [(2,.inv [.val 8 false (.int .i64)])] (cA 283 [(2,.inv [.val 8 false (.int .i64)])] (λ_=>bA)))
def AM1:aU Tryz.prog A3U:=.nil _
def BK3(a0:aB)(a1:aV)(R:T->Prop):Prop:=bD (Int×PUnit) (λX3 s4=>aC (decide (s4.1<(↑(BKV a0).length:Int))) (aX aF (BKV a0) s4.1 λ(y5:aQ)=>bD (Int×PUnit) (λX6 s7=>aC (decide (s7.1<(↑(BLX y5).length:Int))) (aX Sy.str (BLX y5) s7.1 λ(y8:iII)=>aC (decide (a1.2.1=y8)) (aC (decide (0<=s7.1)) (R (BLQ s4)) (BKW X3 s4)) (BKW X6 s7)) (BKW X3 s4)) (0,())) (R BJ9)) (0,())
def UC(a0:aB)(a1:aV)(R:T->Prop):Prop:=bD (Int×PUnit) (λX0 s1=>aC (decide (s1.1<(↑(BK0 a0).length:Int))) (aX bC (BK0 a0) s1.1 λ(y2:bS)=>aC (decide (y2.2.1=a1.2.1)) (aC (decide (0<=s1.1)) (R BKF) (BK3 a0 a1 R)) (aC (decide (y2.2.2.1=a1.2.1)) (aC (decide (0<=s1.1)) (R BKF) (BK3 a0 a1 R)) (BKW X0 s1))) (BK3 a0 a1 R)) (0,())
abbrev WL:Sh:=[(true,aD),(true,aM)]
noncomputable def AG:List T->Option T:=gS WL FT
def AG3 {a0 a1}:AG [aH true aD a0,aH true aM a1]=FT (a0,a1):=bJ (s:=WL) rfl (a0,a1) rfl
def A09:sP Tryz.prog 162 AG FT (cJ WL) UC:=iH (a1:=(true,aD)) (a2:=(true,aM)) (sp:=FT) (F:=UC) (Hs:=A5A) (f:=162) (k:=8) AM1 aZ a7 (aO rfl) ⟨_,_,Tryz.func162,rfl⟩ rfl λ_ _ _=>by kernel_rfl
def AX5:aP Tryz.prog 162 AG:=A09 λd x r h hb=>by
 clear hb;obtain ⟨hp,rfl⟩:=j6 h;clear h;have c:=dY hp;have hk:∀ k∈d.2.2.2.2.1,k.2.2.1.length<=140737488355328/\k.2.2.2.2.length<=140737488355328:=λk hk=>by
  have:=all_eq_true.1 c.HJ k hk;simp only[eU,lJ,ac,ah] at this;exact ⟨this.1.2,this.2.2⟩
 have is:∀ {b:Bool},oY d (fE x)=b->pPR b=pPR (oY d (fE x)):=λh=>by rw[h]
 have pos:∀ {k:Nat},¬ (0<=(k:Int))->False:=λh=>h (by omega);unfold UC BK3 BLX BK0 BKV BLQ BKW BKF BJ9;refine cT (r:=bC) (λs=>decide (s.2.1=fE x)||decide (s.2.2.1=fE x)) (o8 c.s) (λX k y hlt hy hp hn=>?_) (λ_ h1=>?_)
 ·dsimp only;have yes:(decide (y.2.1=fE x)||decide (y.2.2.1=fE x))=true->oY d (fE x)=true:=λh=>by unfold oY;rw[(hp h).2];rfl
  refine cC (λh=>cC (λ_=>is (yes (by rw[ai h];rfl))) λh=>(pos h).elim) λh=>?_;refine cC (λh2=>cC (λ_=>is (yes (by rw[ai h2,Bool.or_true]))) λh=>(pos h).elim) λh2=>hn ?_;rw[aj h,aj h2];rfl
 ·refine cT (r:=aF) (λk=>AG5 k.2.2.1 (fE x)) (o8 c.k) (λX k y hlt hy hp hn=>?_) (λ_ h2=>is ?_)
  ·dsimp only;refine cT (r:=.str) (λz=>decide (z=fE x)) (hk y (by rw[<-hy];exact ak hlt)).1 (λY j z hj hz hp2 hn2=>?_) (λ_ h3=>hn h3);dsimp only;refine cC (λh=>cC (λ_=>is ?_) λh=>(pos h).elim) λh=>hn2 (aj λe=>h e.symm);have:=(hp (hp2 (ai h.symm)).2).2;rw[show decide ((0:Int)<=(k:Int))=true from ai (by omega)];unfold oY;rw[this,Bool.or_true]
  ·unfold oY;rw[h1,h2];rfl
def FQ (x:aB×aV):Option T:=match vS x.1 with
 | true=>some (pPR (lP x.1 (fE x.2)))
 | false=>none
noncomputable def A3S:Env:=Env.of []
def A48:FuncId->Hint:=cA 185 [(2,.inv [.val 8 false (.int .i64)])] (cA 276 [(2,.inv [.val 8 false (.int .i64)])] (cA 277 [(2,.inv [.val 8 false (.int .i64)])] (cA 278 [(2,.inv [.val 8 false (.int .i64)])] (λ_=>bA))))
def AMZ:aU Tryz.prog A3S:=.nil _
def BL1(a0:aB)(s10:Int×PUnit)(a1:aV)(R:T->Prop)(X9:Int×PUnit->Prop):Prop:=aX aY (BK2 a0) s10.1 λ(y11:bE)=>aC (decide (y11.2.1=a1.2.1)) (R (BLQ s10)) (aC (decide (y11.2.2=a1.2.1)) (aC (!decide (y11.1=3)) (R (BLQ s10)) (BKW X9 s10)) (BKW X9 s10))
def BKT(a0:aB)(a1:aV)(R:T->Prop):Prop:=bD (Int×PUnit) (λX12 s13=>aC (decide (s13.1<(↑(BK2 a0).length:Int))) (BL1 a0 s13 a1 R X12) (R BJ9)) (0,())
def BLA(a0:aB)(a1:aV)(R:T->Prop):Prop:=bD (Int×PUnit) (λ(X15:Int×PUnit->Prop) (J0:Int×PUnit)=>aC (decide (J0.1<(↑(BKV a0).length:Int))) (aX aF (BKV a0) J0.1 λ(y17:aQ)=>aC (decide (y17.2.1=a1.2.1)) (aC (decide (0<=J0.1)) (R BKF) (BKT a0 a1 R)) (BKW X15 J0)) (BKT a0 a1 R)) (0,())
def UA(a0:aB)(a1:aV)(R:T->Prop):Prop:=bD (Int×PUnit) (λX0 s1=>aC (decide (s1.1<(↑(BKZ a0).length:Int))) (aX aN (BKZ a0) s1.1 λ(y2:a8)=>aC (decide (y2.2.2.2.1=a1.2.1)) (aC (decide (0<=s1.1)) (R BKF) (bD (Int×PUnit) (λX3 s4=>aC (decide (s4.1<(↑(BK4 a0).length:Int))) (aX bB (BK4 a0) s4.1 λ(y5:bN)=>aC (decide (y5.2.2=a1.2.1)) (aC (decide (0<=s4.1)) (R BKF) (bD (Int×PUnit) (λX6 s7=>aC (decide (s7.1<(↑(BKV a0).length:Int))) (aX aF (BKV a0) s7.1 λ(y8:aQ)=>aC (decide (y8.2.1=a1.2.1)) (aC (decide (0<=s7.1)) (R BKF) (bD (Int×PUnit) (λX9 s10=>aC (decide (s10.1 < (↑(BK2 a0).length:Int))) (BL1 a0 s10 a1 R X9) (R BJ9)) (0,()))) (BKW X6 s7)) (BKT a0 a1 R)) (0,()))) (BKW X3 s4)) (BLA a0 a1 R)) (0,()))) (BKW X0 s1)) (bD (Int×PUnit) (λX24 s25=>aC (decide (s25.1<(↑(BK4 a0).length:Int))) (aX bB (BK4 a0) s25.1 λ(y26:bN)=>aC (decide (y26.2.2=a1.2.1)) (aC (decide (0<=s25.1)) (R BKF) (BLA a0 a1 R)) (BKW X24 s25)) (BLA a0 a1 R)) (0,()))) (0,())
abbrev WJ:Sh:=[(true,aD),(true,aM)]
noncomputable def AE:List T->Option T:=gS WJ FQ
def AG1 {a0 a1}:AE [aH true aD a0,aH true aM a1]=FQ (a0,a1):=bJ (s:=WJ) rfl (a0,a1) rfl
def A07:sP Tryz.prog 138 AE FQ (cJ WJ) UA:=iH (a1:=(true,aD)) (a2:=(true,aM)) (sp:=FQ) (F:=UA) (Hs:=A48) (f:=138) (k:=8) AMZ aZ a7 (aO rfl) ⟨_,_,Tryz.func138,rfl⟩ rfl λ_ _ _=>by kernel_rfl
def AX3:aP Tryz.prog 138 AE:=A07 λd x r h hb=>by
 clear hb;obtain ⟨hp,rfl⟩:=j6 h;clear h;have c:=dY hp;have is:∀ {b:Bool},lP d (fE x)=b->pPR b=pPR (lP d (fE x)):=λh=>by rw[h]
 have pos:∀ {k:Nat},¬ (0<=(k:Int))->False:=λh=>h (by omega);have d0:∀ {k:Nat},decide ((0:Int)<=(k:Int))=true:=ai (by omega);unfold UA BLA BK4 BKZ BKV BKT BL1 BLQ BKW BK2 BKF BJ9;refine cT (r:=aN) (λp=>decide (nP p=fE x)) (o8 c.p) (λX k y hlt hy hp hn=>?_) (λ_ h1=>?_)
 ·dsimp only;exact cC (λh=>cC (λ_=>is (by unfold lP;rw[(hp (ai h)).2];rfl)) λh=>(pos h).elim) λh=>hn (aj h)
 refine cT (r:=bB) (λn=>decide (n.2.2=fE x)) (o8 c.n) (λX k y hlt hy hp hn=>?_) (λ_ h2=>?_)
 ·dsimp only;exact cC (λh=>cC (λ_=>is (by unfold lP;rw[h1,(hp (ai h)).2];rfl)) λh=>(pos h).elim) λh=>hn (aj h)
 refine cT (r:=aF) (λk=>decide (k.2.1=fE x)) (o8 c.k) (λX k y hlt hy hp hn=>?_) (λ_ h3=>?_)
 ·dsimp only;exact cC (λh=>cC (λ_=>is (by unfold lP;rw[h1,h2,(hp (ai h)).2];rfl)) λh=>(pos h).elim) λh=>hn (aj h)
 refine cT (r:=aY) (λn=>decide (n.2.1=fE x)||(decide (n.2.2=fE x) && !decide (n.1=3))) (o8 c.r) (λX k y hlt hy hp hn=>?_) (λ_ h4=>is (by unfold lP;rw[h1,h2,h3,h4];rfl));dsimp only;have yes:(decide (y.2.1=fE x)||(decide (y.2.2=fE x) && !decide (y.1=3)))=true->lP d (fE x)=decide ((0:Int)<=(k:Int)):=λh=>by rw[d0];unfold lP;rw[h1,h2,h3,(hp h).2];rfl
 refine cC (λh=>is (yes (by rw[ai h];rfl))) λa1=>?_;refine cC (λa2=>?_) λa2=>hn (by rw[aj a1,aj a2];rfl);refine kU (λa3=>is (yes (by rw[ai a2,aj a3];simp))) λa3=>hn (by rw[aj a1,ai a3,Bool.not_true,Bool.and_false];rfl)
def FR (x:aB×aV):Option T:=match vS x.1 with
 | true=>some (pPR (rH x.1 (fE x.2)))
 | false=>none
noncomputable def A3T:Env:=Env.of [(107,.dup 5 88),(290,.grow 5 mV)]
def A49:FuncId->Hint:=cA 277 [(2,.inv [.val 8 false (.int .i64)])] (cA 278 [(2,.inv [.val 8 false (.int .i64)])] (cA 283 [(2,.inv [.val 8 false (.int .i64)])] (λ_=>bA)))
def AM0:aU Tryz.prog A3T:=aU.cons (x:=.dup 5 88) oF (.cons B1 (.nil _))
def BK5(a0:aB)(a1:aV)(R:T->Prop):Prop:=bD (Int×PUnit) (λX13 s14=>aC (decide (s14.1<(↑(BK2 a0).length:Int))) (aX aY (BK2 a0) s14.1 λ(y15:bE)=>aC (decide (y15.1=3)) (aC (decide (y15.2.2=a1.2.1)) (R (BLQ s14)) (BKW X13 s14)) (BKW X13 s14)) (R BJ9)) (0,())
def BK8(y6:aQ)(a1:aV)(s4:Int×PUnit)(R:T->Prop)(a0:aB)(X3:Int×PUnit->Prop):Prop:=bD (Int×PUnit) (λX7 s8=>aC (decide (s8.1<(↑(BLN y6).length:Int))) (aX Sy.str (BLN y6) s8.1 λ(y9:iII)=>aC (decide (a1.2.1=y9)) (aC (decide (0<=s8.1)) (aC (decide (0<=s4.1)) (R BKF) (bD (Int×PUnit) (λX10 s11=>aC (decide (s11.1 < (↑(BK2 a0).length:Int))) (aX aY (BK2 a0) s11.1 λ(y12:bE)=>aC (decide (y12.1=3)) (aC (decide (y12.2.2=a1.2.1)) (R (BLQ s11)) (BKW X10 s11)) (BKW X10 s11)) (R BJ9)) (0,()))) (BKW X3 s4)) (BKW X7 s8)) (BKW X3 s4)) (0,())
def BLL(s1:Int×PUnit):List T:=[pPP s1.1, pPP (i64.wrap (s1.1+1))]
def UB(a0:aB)(a1:aV)(R:T->Prop):Prop:=bD (Int×PUnit) (λX0 s1=>aC (decide (s1.1<(↑(BKV a0).length:Int))) (aX aF (BKV a0) s1.1 λ(y2:aQ)=>aC (decide (y2.1=a1.2.1)) (aC (decide (s1.1<0)) (bQ (((BKV a0).all λ(r:List T)=>decide (r.length=5)) && decide ((BKV a0).length*88<=140737488355328) && decide ((BKV a0).length<=140737488355328)) (bD (Int×PUnit) (λX3 s4=>aC (decide (s4.1<(↑(BKV a0).length:Int))) (aX aF (BKV a0) s4.1 λ(y5:aQ)=>fH aF (BKV a0) (Int.toNat s4.1) 0 λ(y6:aQ)=>BK8 y6 a1 s4 R a0 X3) (BK5 a0 a1 R)) (0,()))) (bQ (((BKV a0).all λ(r:List T)=>decide (r.length=5)) && decide ((BKV a0).length*88<=140737488355328) && decide ((BKV a0).length<=140737488355328)) (bU aF (mV (BKV a0) (BLL s1)) λ(y16:List aQ)=>bD (Int×PUnit) (λX17 s18=>aC (decide (s18.1<(↑(List.map aF.enc y16).length:Int))) (aX aF (List.map aF.enc y16) s18.1 λ(y19:aQ)=>fH aF (List.map aF.enc y16) (Int.toNat s18.1) 0 λ(y20:aQ)=>BK8 y20 a1 s18 R a0 X17) (BK5 a0 a1 R)) (0,())))) (BKW X0 s1)) (bQ (((BKV a0).all λ(r:List T)=>decide (r.length=5)) && decide ((BKV a0).length*88<=140737488355328) && decide ((BKV a0).length<=140737488355328)) (bD (Int×PUnit) (λX30 s31=>aC (decide (s31.1<(↑(BKV a0).length:Int))) (aX aF (BKV a0) s31.1 λ(y32:aQ)=>fH aF (BKV a0) (Int.toNat s31.1) 0 λ(y33:aQ)=>bD (Int×PUnit) (λX34 s35=>aC (decide (s35.1<(↑(BLN y33).length:Int))) (aX Sy.str (BLN y33) s35.1 λ(y36:iII)=>aC (decide (a1.2.1=y36)) (aC (decide (0<=s35.1)) (aC (decide (0<=s31.1)) (R BKF) (BK5 a0 a1 R)) (BKW X30 s31)) (BKW X34 s35)) (BKW X30 s31)) (0,())) (BK5 a0 a1 R)) (0,())))) (0,())
abbrev WK:Sh:=[(true,aD),(true,aM)]
noncomputable def AF:List T->Option T:=gS WK FR
def AG2 {a0 a1}:AF [aH true aD a0,aH true aM a1]=FR (a0,a1):=bJ (s:=WK) rfl (a0,a1) rfl
def A08:sP Tryz.prog 210 AF FR (cJ WK) UB:=iH (a1:=(true,aD)) (a2:=(true,aM)) (sp:=FR) (F:=UB) (Hs:=A49) (f:=210) (k:=8) AM0 aZ a7 (aO rfl) ⟨_,_,Tryz.func210,rfl⟩ rfl λ_ _ _=>by kernel_rfl
def AX4:aP Tryz.prog 210 AF:=A08 λd x r h hb=>by
 clear hb;obtain ⟨hp,rfl⟩:=j6 h;clear h;have c:=dY hp;have hk:∀ k∈d.2.2.2.2.1,k.2.2.1.length<=140737488355328/\k.2.2.2.2.length<=140737488355328:=λk hk=>by
  have:=all_eq_true.1 c.HJ k hk;simp only[eU,lJ,ac,ah] at this;exact ⟨this.1.2,this.2.2⟩
 have is:∀ {b:Bool},rH d (fE x)=b->pPR b=pPR (rH d (fE x)):=λh=>by rw[h]
 have pos:∀ {k:Nat},¬ (0<=(k:Int))->False:=λh=>h (by omega);have d0:∀ {k:Nat},decide ((0:Int)<=(k:Int))=true:=ai (by omega);have hd:=xC (r:=aF) (l:=d.2.2.2.2.1) (z:=5) (b:=88) rfl (dL c.k (by decide));unfold UB BLL BK8 BLN BK5 BKV BLQ BKW BK2 BKF BJ9;refine cT (r:=aF) (λy=>cP (fE x) y) (o8 c.k) (λX k y hlt hy hp hn=>?_) (λh0 _=>?_)
 ·dsimp only;refine cC (λh=>?_) λh=>hn (aj h);obtain ⟨hi,_⟩:=hp (ai h);refine cC (λh=>by omega) λ_=>⟨hd,?_⟩
  have eL:fY (cP (fE x)) d.2.2.2.2.1=d.2.2.2.2.1.take k++d.2.2.2.2.1.drop (k+1):=by
   unfold fY;rw[show List.findIdx (cP (fE x)) d.2.2.2.2.1=k from hi]
  refine dV (r:=aF) (l:=fY (cP (fE x)) d.2.2.2.2.1) (by rw[eL];exact GJ (r:=aF) rfl hlt c.k) _ ?_;have hL:(fY (cP (fE x)) d.2.2.2.2.1).length<=1000:=Nat.le_trans ZJ c.k;have hkL:∀ k∈fY (cP (fE x)) d.2.2.2.2.1,k.2.2.2.2.length<=140737488355328:=λk h=>(hk k (MY h)).2;have hV:rH d (fE x)=(((fY (cP (fE x)) d.2.2.2.2.1).any λk=>AG5 k.2.2.2.2 (fE x))||(d.2.2.2.2.2.any λn=>decide (n.1=3)&&decide (n.2.2=fE x))):=rfl;clear hp hn eL;generalize fY (cP (fE x)) d.2.2.2.2.1=L at *;refine cT (r:=aF) (λk=>AG5 k.2.2.2.2 (fE x)) (o8 hL) (λX k y hlt hy hp hn=>?_) (λ_ h2=>?_)
  ·dsimp only;rw[show Int.toNat (k:Int)=k from rfl,jM (r:=aF) hlt,hy];refine cT (r:=.str) (λz=>decide (z=fE x)) (hkL y (by rw[<-hy];exact ak hlt)) (λY j z hj hz hp2 hn2=>?_) (λ_ h3=>hn h3);dsimp only;refine cC (λh=>cC (λ_=>cC (λ_=>is ?_) λh=>(pos h).elim) λh=>(pos h).elim) λh=>hn2 (aj λe=>h e.symm);rw[hV,(hp (hp2 (ai h.symm)).2).2];rfl
  ·refine cT (r:=aY) (λn=>decide (n.1=3)&&decide (n.2.2=fE x)) (o8 c.r) (λX k y hlt hy hp hn=>?_) (λ_ h4=>is (by rw[hV,h2,h4];rfl));dsimp only;refine cC (λa1=>?_) λa1=>hn (by rw[aj a1];rfl);refine cC (λa2=>is ?_) λa2=>hn (by rw[aj a2,Bool.and_false]);rw[d0,hV,(hp (by rw[ai a1,ai a2];rfl)).2,Bool.or_true]
 ·refine ⟨hd,?_⟩;have hV:rH d (fE x)=((d.2.2.2.2.1.any λk=>AG5 k.2.2.2.2 (fE x))||(d.2.2.2.2.2.any λn=>decide (n.1=3)&&decide (n.2.2=fE x))):=by unfold rH;rw[xB (is:=cP (fE x)) h0]
  have hL:=c.k;have hkL:∀ k∈d.2.2.2.2.1,k.2.2.2.2.length<=140737488355328:=λk h=>(hk k h).2;refine cT (r:=aF) (λk=>AG5 k.2.2.2.2 (fE x)) (o8 hL) (λX k y hlt hy hp hn=>?_) (λ_ h2=>?_)
  ·dsimp only;rw[show Int.toNat (k:Int)=k from rfl,jM (r:=aF) hlt,hy];refine cT (r:=.str) (λz=>decide (z=fE x)) (hkL y (by rw[<-hy];exact ak hlt)) (λY j z hj hz hp2 hn2=>?_) (λ_ h3=>hn h3);dsimp only;refine cC (λh=>cC (λ_=>cC (λ_=>is ?_) λh=>(pos h).elim) λh=>(pos h).elim) λh=>hn2 (aj λe=>h e.symm);rw[hV,(hp (hp2 (ai h.symm)).2).2];rfl
  ·refine cT (r:=aY) (λn=>decide (n.1=3)&&decide (n.2.2=fE x)) (o8 c.r) (λX k y hlt hy hp hn=>?_) (λ_ h4=>is (by rw[hV,h2,h4];rfl));dsimp only;refine cC (λa1=>?_) λa1=>hn (by rw[aj a1];rfl);refine cC (λa2=>is ?_) λa2=>hn (by rw[aj a2,Bool.and_false]);rw[d0,hV,(hp (by rw[ai a1,ai a2];rfl)).2,Bool.or_true]
def tO (lt gt:Bool):Int:=match lt,gt with
 | true,_=>-1
 | false,true=>1
 | false,false=>0
def KH (x:Int×Int):Option T:=some (T.v (Value.int .i64 (tO (decide (x.1<x.2)) (decide (x.2<x.1)))))
def KI (x:iII×iII):Option T:=some (T.v (Value.int .i64 (tO (cR x.1 x.2) (cR x.2 x.1))))
def orE:List Int->Int
 | []=>0
 | a::l=>if a=0 then orE l else a
def AI4 (l:List Int):Option T:=some (T.v (Value.int .i64 (orE l)))
noncomputable def BAD:Env:=Env.of []
def BAT:FuncId->Hint:=λ_=>bA
def ATF:aU Tryz.prog BAD:=.nil _
def AEO(a0:Int)(a1:Int)(R:T->Prop):Prop:=aC (!decide (a0=a0)) (aC (!decide (a1=a1)) (R BKD) (R BKJ)) (aC (!decide (a1=a1)) (R BKN) (aC (decide (a0<a1)) (R BKJ) (aC (decide (a1<a0)) (R BKN) (R BKD))))
abbrev AH7:Sh:=[(false,(Sy.int IntKind.i64)),(false,(Sy.int IntKind.i64))]
noncomputable def NS:List T->Option T:=gS AH7 KH
def APB {a0 a1}:NS [pPP a0,pPP a1]=KH (a0,a1):=bJ (s:=AH7) rfl (a0,a1) rfl
def A70:sP Tryz.prog 236 NS KH (cJ AH7) AEO:=iH (a1:=(false,(Sy.int IntKind.i64))) (a2:=(false,(Sy.int IntKind.i64))) (sp:=KH) (F:=AEO) (Hs:=BAT) (f:=236) (k:=8) ATF aZ a7 (aO rfl) ⟨_,_,Tryz.func236,rfl⟩ rfl λ_ _ _=>by kernel_rfl
def A6F:aP Tryz.prog 236 NS:=A70 λa b r h hb=>by
 cases h;unfold AEO BKN BKJ BKD;refine kU (λh=>absurd rfl h) λ_=>kU (λh=>absurd rfl h) λ_=>?_;refine cC (λh=>by unfold tO;rw[ai h]) λh=>?_;refine cC (λh2=>by unfold tO;rw[aj h,ai h2]) λh2=>by unfold tO;rw[aj h,aj h2]
noncomputable def BAE:Env:=Env.of []
def BAU:FuncId->Hint:=λ_=>bA
def ATG:aU Tryz.prog BAE:=.nil _
def AEP(a0:iII)(a1:iII)(R:T->Prop):Prop:=aC (!decide (a0=a0)) (aC (!decide (a1=a1)) (R BKD) (R BKJ)) (aC (!decide (a1=a1)) (R BKN) (aC (cR a0 a1) (R BKJ) (aC (!(cR a0 a1||decide (a0=a1))) (R BKN) (R BKD))))
abbrev AH8:Sh:=[(false,Sy.str),(false,Sy.str)]
noncomputable def GW:List T->Option T:=gS AH8 KI
def RO {a0 a1}:GW [pPQ a0,pPQ a1]=KI (a0,a1):=bJ (s:=AH8) rfl (a0,a1) rfl
def A71:sP Tryz.prog 237 GW KI (cJ AH8) AEP:=iH (a1:=(false,Sy.str)) (a2:=(false,Sy.str)) (sp:=KI) (F:=AEP) (Hs:=BAU) (f:=237) (k:=8) ATG aZ a7 (aO rfl) ⟨_,_,Tryz.func237,rfl⟩ rfl λ_ _ _=>by kernel_rfl
def A6G:aP Tryz.prog 237 GW:=A71 λa b r h hb=>by
 cases h;unfold AEP BKN BKJ BKD;refine kU (λh=>absurd rfl h) λ_=>kU (λh=>absurd rfl h) λ_=>?_;rw[qH];refine wU (λh=>by unfold tO;rw[h]) λh=>?_;refine wU (λh2=>by unfold tO;rw[h,h2]) λh2=>by unfold tO;rw[h,h2]
def IS (a0:List Int):List T:=[T.sl true (List.map (Sy.int .i64).enc a0)]
noncomputable def ASO:Env:=Env.of []
def A9H:FuncId->Hint:=cA 235 [(3,.inv [.val 8 false (.int .i64)])] (λ_=>bA)
def A4H:aU Tryz.prog ASO:=.nil _
def AUU(a0:List Int)(R:T->Prop):Prop:=bD (Int×PUnit) (λX0 s1=>aC (decide (s1.1<(↑(List.map BKG.enc a0).length:Int))) (aX BKG (List.map BKG.enc a0) s1.1 λ(y2:Int)=>aC (!decide (y2=0)) (R (BLP y2)) (BKW X0 s1)) (R BKD)) (0,())
def AUV ( a0 R):eJ b8 Tryz.prog ASO A9H 8 235 (IS a0) R=AUU a0 R:=by kernel_rfl
def AL6 (x y:List Int) (h:IS x=IS y):x=y:=by
 simp only[IS,List.cons.injEq,T.sl.injEq,true_and,and_true] at h;exact map_inj (Sy.dM (.int .i64)) h
noncomputable def AAM:List T->Option (T):=gA (λ(x:List Int)=>IS x) AI4
def AY2 (a0:List Int):AAM (IS a0)=AI4 a0:=fP (A:=(λ(x:List Int)=>IS x)) AL6 a0
def BEE (h:∀ (a0:List Int) (r:T),AI4 a0=some r->(∀ t∈IS a0,Bd t)->AUU a0 (λy=>y=r)):aP Tryz.prog 235 AAM :=
 cU (E:=ASO) (Hs:=A9H) A4H aZ a7 (aO rfl) 8 ⟨_,_,Tryz.func235,rfl⟩ λx r h1 h2=>by
  rw[AUV];exact h x r h1 h2
def BCC:aP Tryz.prog 235 AAM:=BEE λl r h hb=>by
 have hl:l.length<=2 ^ 47:=by
  have:=((A82 _ _).1 (hb _ am)).1;simpa using this
 cases h;have is:∀ {n:Int},orE l=n->pPP n=pPP (orE l):=λh=>by rw[h]
 unfold AUU BKW BLP BKG BKD;refine bP l.length (λk s=>s=((k:Int),())/\orE (l.drop k)=orE l) ⟨rfl,rfl⟩ ?_;rintro X k s hk ⟨rfl,he⟩ hX;dsimp only;refine cC (λhlt=>?_) λhge=>?_
 ·rw[ae] at hlt;have hlt:k<l.length:=by omega
  rw[bK (r:=.int .i64) hlt];rw[drop_eq_getElem_cons hlt,orE] at he;refine kU (λh=>is ?_) λh=>hX _ hlt ⟨?_,?_⟩
  ·rw[if_neg h] at he;exact he.symm
  ·rw[show i64.wrap ((k:Int)+1)=((k+1:Nat):Int) by rw[bH]<;>omega]
  ·rw[if_pos h] at he;exact he
 ·rw[ae] at hge;rw[List.drop_eq_nil_of_le (by omega)] at he;exact is he.symm
def AZ (x:bE×bE):Option T:=some (pPR (CM x.1 x.2))
noncomputable def ASN:Env:=Env.of [(236,.pure NS),(237,.pure GW),(235,.pure AAM)]
def AVQ:FuncId->Hint:=λ_=>bA
def AD0:aU Tryz.prog ASN:=.cons A6F (.cons A6G (.cons BCC (.nil _)))
def LM(a0:bE)(a1:bE)(R:T->Prop):Prop:=aJ BKB (NS [pPP a0.1,pPP a1.1]) λ(y0:Int)=>aJ BKB (GW [pPQ a0.2.1,pPQ a1.2.1]) λ(y1:Int)=>aJ BKB (GW [pPQ a0.2.2,pPQ a1.2.2]) λ(y2:Int)=>aJ BKB (AAM [T.sl true [[pPP y0],[pPP y1], [pPP y2]]]) λ(y3:Int)=>R (pPR (decide (0<y3)))
abbrev O0:Sh:=[(true,aY),(true,aY)]
noncomputable def qU:List T->Option T:=gS O0 AZ
def AAL {a0 a1}:qU [aH true aY a0,aH true aY a1]=AZ (a0,a1):=bJ (s:=O0) rfl (a0,a1) rfl
def AQQ:sP Tryz.prog 234 qU AZ (cJ O0) LM:=iH (a1:=(true,aY)) (a2:=(true,aY)) (sp:=AZ) (F:=LM) (Hs:=AVQ) (f:=234) (k:=8) AD0 aZ a7 (aO rfl) ⟨_,_,Tryz.func234,rfl⟩ rfl λ_ _ _=>by kernel_rfl
def RE:aP Tryz.prog 234 qU:=AQQ λa b r h hb=>by
 cases h;unfold LM BKB;refine aG (s:=[(false,.int .i64)]) (APB ..) ?_;refine aG (s:=[(false,.int .i64)]) (RO ..) ?_;refine aG (s:=[(false,.int .i64)]) (RO ..) ?_;refine aG (s:=[(false,.int .i64)]) (y:=orE [tO (decide (a.1<b.1)) (decide (b.1<a.1)),tO (cR a.2.1 b.2.1) (cR b.2.1 a.2.1),tO (cR a.2.2 b.2.2) (cR b.2.2 a.2.2)]) (AY2 [tO (decide (a.1<b.1)) (decide (b.1<a.1)),tO (cR a.2.1 b.2.1) (cR b.2.1 a.2.1),tO (cR a.2.2 b.2.2) (cR b.2.2 a.2.2)]) ?_;refine jH ?_;unfold CM ltN;have tot:∀ {s t:iII},cR s t=true->cR t s=false/\decide (t=s)=false:=λ{s t} h=>by
  refine ⟨?_,aj λe=>?_⟩
  ·rw[Bool.eq_false_iff];intro h2;have:=WO h h2;rw[qG] at this;cases this
  ·rw[e,qG] at h;cases h
 have eqS:∀ {s t:iII},cR s t=false->cR t s=false->decide (t=s)=true:=λ{s t} h1 h2=>by
  have h3:=qH s t;rw[h1,h2] at h3;simpa using h3
 rcases Int.lt_trichotomy a.1 b.1 with h|h|h
 ·rw[ai h,aj (show ¬ b.1<a.1 by omega),aj (show ¬ b.1=a.1 by omega)];simp[tO,orE]
 ·rw[aj (show ¬ a.1<b.1 by omega),aj (show ¬ b.1<a.1 by omega),ai h.symm];cases h1:cR a.2.1 b.2.1 with
  | true=>rw[(tot h1).1,(tot h1).2];simp[tO,orE]
  | false =>
   cases h2:cR b.2.1 a.2.1 with
   | true=>simp[tO,orE]
   | false =>
    rw[eqS h1 h2];cases h3:cR a.2.2 b.2.2 with
    | true=>rw[(tot h3).1];simp[tO,orE]
    | false=>cases h4:cR b.2.2 a.2.2<;>simp[tO,orE]
 ·rw[aj (show ¬ a.1<b.1 by omega),ai h];simp[tO,orE]
def AK5 (d:aB) (x:aV):aB:=(d.1,j3 dW d.2.1 (pC x),d.2.2)
def ID (x:aB×aV):Option T:=match vS x.1 with
 | true=>some (Sh.enc [(true,aD)] (AK5 x.1 x.2))
 | false=>none
noncomputable def BF0:Env:=Env.of [(103,.dup 3 40),(280,.grow 3 kL)]
def BGM:FuncId->Hint:=cA 276 [(2,.inv [.val 8 false (.int .i64)])] (λ_=>bA)
def A35:aU Tryz.prog BF0:=aU.cons (x:=.dup 3 40) CV (.cons CY (.nil _))
def BLI(a0:aB)(y4:List bN):T:=T.agg [pPQ a0.1,T.sl false (List.map bB.enc y4), T.sl false (BKZ a0), T.sl false (BK0 a0), T.sl false (BKV a0), T.sl false (BK2 a0)]
def BL6(a1:aV):List T:=[pPQ a1.2.2.2.1.1, pPP a1.2.2.2.1.2.1, pPQ a1.2.2.2.1.2.2]
def BLB(a0:aB)(a1:aV)(R:T->Prop):Prop:=bQ (((BK4 a0).all λ(r:List T)=>decide (r.length=3)) && decide ((BK4 a0).length*40<=140737488355328) && decide ((BK4 a0).length<=140737488355328)) (bU bB (kL (BK4 a0) [pPP (↑(BK4 a0).length:Int), T.sl true [(BL6 a1)]]) λ(y3:List bN)=>R (BLI a0 y3))
def AUE(a0:aB)(a1:aV)(R:T->Prop):Prop:=bD (Int×PUnit) (λX0 s1=>aC (decide (s1.1<(↑(BK4 a0).length:Int))) (aX bB (BK4 a0) s1.1 λ(y2:bN)=>aC (!(cR y2.1 a1.2.2.2.1.1||decide (y2.1=a1.2.2.2.1.1))) (aC (decide (s1.1<0)) (BLB a0 a1 R) (bQ (((BK4 a0).all λ(r:List T)=>decide (r.length=3)) && decide ((BK4 a0).length*40<=140737488355328) && decide ((BK4 a0).length<=140737488355328)) (bU bB (kL (BK4 a0) [pPP s1.1, T.sl true [(BL6 a1)]]) λ(y4:List bN)=>R (BLI a0 y4)))) (BKW X0 s1)) (BLB a0 a1 R)) (0,())
abbrev A2D:Sh:=[(true,aD),(true,aM)]
noncomputable def RP:List T->Option T:=gS A2D ID
def AYR {a0 a1}:RP [aH true aD a0,aH true aM a1]=ID (a0,a1):=bJ (s:=A2D) rfl (a0,a1) rfl
def BD2:sP Tryz.prog 150 RP ID (cJ A2D) AUE:=iH (a1:=(true,aD)) (a2:=(true,aM)) (sp:=ID) (F:=AUE) (Hs:=BGM) (f:=150) (k:=8) A35 aZ a7 (aO rfl) ⟨_,_,Tryz.func150,rfl⟩ rfl λ_ _ _=>by kernel_rfl
def BBX:aP Tryz.prog 150 RP:=BD2 λd x r h hb=>by
 clear hb;have hp:vS d=true:=by
  unfold ID at h;split at h
  ·assumption
  ·cases h
 have e:Sh.enc [(true,aD)] (AK5 d x)=r:=by
  unfold ID at h;rw[show vS (d,x).1=true from hp] at h;exact Option.some.inj h
 subst e;clear h;have c:=dY hp;have hd:=xC (r:=bB) (l:=d.2.1) (z:=3) (b:=40) rfl (dL c.n (by decide));unfold AUE BLB BL6 BLI BK4 BK0 BKZ BKV BKW BK2;refine cT (r:=bB) (λy=>dW y (pC x)) (o8 c.n) (λX k y hk hy hp hn=>?_) (λh _=>?_)
 ·dsimp only;rw[qH];refine wU (λh=>?_) λh=>hn h;obtain ⟨hi,_⟩:=hp h;refine cC (λh=>by omega) λ_=>⟨hd,?_⟩
  refine dV (r:=bB) (l:=d.2.1.take k++pC x::d.2.1.drop k) (sX (r:=bB) (x:=pC x) rfl (by omega) c.n (by decide)) _ ?_;unfold AK5 j3;rw[hi];rfl
 ·refine ⟨hd,?_⟩;rw[show (((List.map (bB).enc d.2.1).length:Nat):Int)=(((d.2.1).length:Nat):Int) by rw[ae]];refine dV (r:=bB) (l:=d.2.1.take (d.2.1).length++pC x::d.2.1.drop (d.2.1).length) (sX (r:=bB) (x:=pC x) rfl (al _) c.n (by decide)) _ ?_;unfold AK5 j3;rw[h];rfl
def AK9 (d:aB) (x:aV):aB:=(d.1,d.2.1,d.2.2.1,j3 dW d.2.2.2.1 (pD x),d.2.2.2.2)
def IH (x:aB×aV):Option T:=match vS x.1 with
 | true=>some (Sh.enc [(true,aD)] (AK9 x.1 x.2))
 | false=>none
noncomputable def BF4:Env:=Env.of [(104,.dup 6 72),(288,.grow 6 tZ)]
def BGQ:FuncId->Hint:=cA 282 [(2,.inv [.val 8 false (.int .i64)])] (λ_=>bA)
def A39:aU Tryz.prog BF4:=aU.cons (x:=.dup 6 72) CX (.cons AGB (.nil _))
def BLJ(a0:aB)(y4:List bS):T:=T.agg [pPQ a0.1,T.sl false (BK4 a0), T.sl false (BKZ a0), T.sl false (List.map bC.enc y4), T.sl false (BKV a0), T.sl false (BK2 a0)]
def BLM(a1:aV):List T:=[pPQ a1.2.2.2.2.2.1.1, pPQ a1.2.2.2.2.2.1.2.1, pPQ a1.2.2.2.2.2.1.2.2.1, pPP a1.2.2.2.2.2.1.2.2.2.1, pPP a1.2.2.2.2.2.1.2.2.2.2.1, pPP a1.2.2.2.2.2.1.2.2.2.2.2]
def BK7(a0:aB)(a1:aV)(R:T->Prop):Prop:=bQ (((BK0 a0).all λ(r:List T)=>decide (r.length=6)) && decide ((BK0 a0).length*72<=140737488355328) && decide ((BK0 a0).length<=140737488355328)) (bU bC (tZ (BK0 a0) [pPP (↑(BK0 a0).length:Int), T.sl true [(BLM a1)]]) λ(y3:List bS)=>R (BLJ a0 y3))
def AUI(a0:aB)(a1:aV)(R:T->Prop):Prop:=bD (Int×PUnit) (λX0 s1=>aC (decide (s1.1<(↑(BK0 a0).length:Int))) (aX bC (BK0 a0) s1.1 λ(y2:bS)=>aC (!(cR y2.1 a1.2.2.2.2.2.1.1||decide (y2.1=a1.2.2.2.2.2.1.1))) (aC (decide (s1.1<0)) (BK7 a0 a1 R) (bQ (((BK0 a0).all λ(r:List T)=>decide (r.length=6)) && decide ((BK0 a0).length*72<=140737488355328) && decide ((BK0 a0).length<=140737488355328)) (bU bC (tZ (BK0 a0) [pPP s1.1, T.sl true [(BLM a1)]]) λ(y4:List bS)=>R (BLJ a0 y4)))) (BKW X0 s1)) (BK7 a0 a1 R)) (0,())
abbrev A2H:Sh:=[(true,aD),(true,aM)]
noncomputable def RU:List T->Option T:=gS A2H IH
def AYV {a0 a1}:RU [aH true aD a0,aH true aM a1]=IH (a0,a1):=bJ (s:=A2H) rfl (a0,a1) rfl
def BD6:sP Tryz.prog 198 RU IH (cJ A2H) AUI:=iH (a1:=(true,aD)) (a2:=(true,aM)) (sp:=IH) (F:=AUI) (Hs:=BGQ) (f:=198) (k:=8) A39 aZ a7 (aO rfl) ⟨_,_,Tryz.func198,rfl⟩ rfl λ_ _ _=>by kernel_rfl
def BB1:aP Tryz.prog 198 RU:=BD6 λd x r h hb=>by
 clear hb;have hp:vS d=true:=by
  unfold IH at h;split at h
  ·assumption
  ·cases h
 have e:Sh.enc [(true,aD)] (AK9 d x)=r:=by
  unfold IH at h;rw[show vS (d,x).1=true from hp] at h;exact Option.some.inj h
 subst e;clear h;have c:=dY hp;have hd:=xC (r:=bC) (l:=d.2.2.2.1) (z:=6) (b:=72) rfl (dL c.s (by decide));unfold AUI BK7 BLM BLJ BK4 BK0 BKZ BKV BKW BK2;refine cT (r:=bC) (λy=>dW y (pD x)) (o8 c.s) (λX k y hk hy hp hn=>?_) (λh _=>?_)
 ·dsimp only;rw[qH];refine wU (λh=>?_) λh=>hn h;obtain ⟨hi,_⟩:=hp h;refine cC (λh=>by omega) λ_=>⟨hd,?_⟩
  refine dV (r:=bC) (l:=d.2.2.2.1.take k++pD x::d.2.2.2.1.drop k) (sX (r:=bC) (x:=pD x) rfl (by omega) c.s (by decide)) _ ?_;unfold AK9 j3;rw[hi];rfl
 ·refine ⟨hd,?_⟩;rw[show (((List.map (bC).enc d.2.2.2.1).length:Nat):Int)=(((d.2.2.2.1).length:Nat):Int) by rw[ae]];refine dV (r:=bC) (l:=d.2.2.2.1.take (d.2.2.2.1).length++pD x::d.2.2.2.1.drop (d.2.2.2.1).length) (sX (r:=bC) (x:=pD x) rfl (al _) c.s (by decide)) _ ?_;unfold AK9 j3;rw[h];rfl
def AK6 (d:aB) (x:aV):aB:=(d.1,fY (cP (fE x)) d.2.1,d.2.2)
def IE (x:aB×aV):Option T:=match vS x.1 with
 | true=>some (Sh.enc [(true,aD)] (AK6 x.1 x.2))
 | false=>none
noncomputable def BF1:Env:=Env.of [(103,.dup 3 40),(281,.grow 3 GX)]
def BGN:FuncId->Hint:=cA 276 [(2,.inv [.val 8 false (.int .i64)])] (λ_=>bA)
def A36:aU Tryz.prog BF1:=aU.cons (x:=.dup 3 40) CV (.cons AF7 (.nil _))
def BLU(a0:aB)(R:T->Prop):Prop:=bQ (((BK4 a0).all λ(r:List T)=>decide (r.length=3)) && decide ((BK4 a0).length*40<=140737488355328) && decide ((BK4 a0).length<=140737488355328)) (R (aH true aD a0))
def AUF(a0:aB)(a1:aV)(R:T->Prop):Prop:=bD (Int×PUnit) (λX0 s1=>aC (decide (s1.1<(↑(BK4 a0).length:Int))) (aX bB (BK4 a0) s1.1 λ(y2:bN)=>aC (decide (y2.1=a1.2.1)) (aC (decide (s1.1<0)) (BLU a0 R) (bQ (((BK4 a0).all λ(r:List T)=>decide (r.length=3)) && decide ((BK4 a0).length*40<=140737488355328) && decide ((BK4 a0).length<=140737488355328)) (bU bB (GX (BK4 a0) (BLL s1)) λ(y3:List bN)=>R (BLI a0 y3)))) (BKW X0 s1)) (BLU a0 R)) (0,())
abbrev A2E:Sh:=[(true,aD),(true,aM)]
noncomputable def RQ:List T->Option T:=gS A2E IE
def AYS {a0 a1}:RQ [aH true aD a0,aH true aM a1]=IE (a0,a1):=bJ (s:=A2E) rfl (a0,a1) rfl
def BD3:sP Tryz.prog 157 RQ IE (cJ A2E) AUF:=iH (a1:=(true,aD)) (a2:=(true,aM)) (sp:=IE) (F:=AUF) (Hs:=BGN) (f:=157) (k:=8) A36 aZ a7 (aO rfl) ⟨_,_,Tryz.func157,rfl⟩ rfl λ_ _ _=>by kernel_rfl
def BBY:aP Tryz.prog 157 RQ:=BD3 λd x r h hb=>by
 clear hb;have hp:vS d=true:=by
  unfold IE at h;split at h
  ·assumption
  ·cases h
 have e:Sh.enc [(true,aD)] (AK6 d x)=r:=by
  unfold IE at h;rw[show vS (d,x).1=true from hp] at h;exact Option.some.inj h
 subst e;clear h;have c:=dY hp;have hd:=xC (r:=bB) (l:=d.2.1) (z:=3) (b:=40) rfl (dL c.n (by decide));unfold AUF BLU BLL BLI BK4 BK0 BKZ BKV BKW BK2;refine cT (r:=bB) (λy=>cP (fE x) y) (o8 c.n) (λX k y hk hy hp hn=>?_) (λh _=>?_)
 ·dsimp only;refine cC (λh=>?_) λh=>hn (aj h);obtain ⟨hi,_⟩:=hp (ai h);refine cC (λh=>by omega) λ_=>⟨hd,?_⟩
  refine dV (r:=bB) (l:=d.2.1.take k++d.2.1.drop (k+1)) (GJ (r:=bB) rfl hk c.n) _ ?_;unfold AK6 fY;rw[show List.findIdx (cP (fE x)) d.2.1=k from hi];rfl
 ·refine ⟨hd,?_⟩;unfold AK6;rw[xB (is:=cP (fE x)) h];rfl
def AK8 (d:aB) (x:aV):aB:=(d.1,d.2.1,fY (cP (fE x)) d.2.2.1,d.2.2.2)
def IG (x:aB×aV):Option T:=match vS x.1 with
 | true=>some (Sh.enc [(true,aD)] (AK8 x.1 x.2))
 | false=>none
noncomputable def BF3:Env:=Env.of [(106,.dup 18 208),(286,.grow 18 GY)]
def BGP:FuncId->Hint:=cA 185 [(2,.inv [.val 8 false (.int .i64)])] (λ_=>bA)
def A38:aU Tryz.prog BF3:=aU.cons (x:=.dup 18 208) CW (.cons AF8 (.nil _))
def BLE(a0:aB)(y3:List a8):T:=T.agg [pPQ a0.1,T.sl false (BK4 a0), T.sl false (List.map aN.enc y3), T.sl false (BK0 a0), T.sl false (BKV a0), T.sl false (BK2 a0)]
def BLT(a0:aB)(R:T->Prop):Prop:=bQ (((BKZ a0).all λ(r:List T)=>decide (r.length=18)) && decide ((BKZ a0).length*208<=140737488355328) && decide ((BKZ a0).length<=140737488355328)) (R (aH true aD a0))
def AUH(a0:aB)(a1:aV)(R:T->Prop):Prop:=bD (Int×PUnit) (λX0 s1=>aC (decide (s1.1<(↑(BKZ a0).length:Int))) (aX aN (BKZ a0) s1.1 λ(y2:a8)=>aC (decide (y2.1=a1.2.1)) (aC (decide (s1.1<0)) (BLT a0 R) (bQ (((BKZ a0).all λ(r:List T)=>decide (r.length=18)) && decide ((BKZ a0).length*208<=140737488355328) && decide ((BKZ a0).length<=140737488355328)) (bU aN (GY (BKZ a0) (BLL s1)) λ(y3:List a8)=>R (BLE a0 y3)))) (BKW X0 s1)) (BLT a0 R)) (0,())
abbrev A2G:Sh:=[(true,aD),(true,aM)]
noncomputable def RT:List T->Option T:=gS A2G IG
def AYU {a0 a1}:RT [aH true aD a0,aH true aM a1]=IG (a0,a1):=bJ (s:=A2G) rfl (a0,a1) rfl
def BD5:sP Tryz.prog 176 RT IG (cJ A2G) AUH:=iH (a1:=(true,aD)) (a2:=(true,aM)) (sp:=IG) (F:=AUH) (Hs:=BGP) (f:=176) (k:=8) A38 aZ a7 (aO rfl) ⟨_,_,Tryz.func176,rfl⟩ rfl λ_ _ _=>by kernel_rfl
def BB0:aP Tryz.prog 176 RT:=BD5 λd x r h hb=>by
 clear hb;have hp:vS d=true:=by
  unfold IG at h;split at h
  ·assumption
  ·cases h
 have e:Sh.enc [(true,aD)] (AK8 d x)=r:=by
  unfold IG at h;rw[show vS (d,x).1=true from hp] at h;exact Option.some.inj h
 subst e;clear h;have c:=dY hp;have hd:=xC (r:=aN) (l:=d.2.2.1) (z:=18) (b:=208) rfl (dL c.p (by decide));unfold AUH BLT BLL BLE BK4 BK0 BKZ BKV BKW BK2;refine cT (r:=aN) (λy=>cP (fE x) y) (o8 c.p) (λX k y hk hy hp hn=>?_) (λh _=>?_)
 ·dsimp only;refine cC (λh=>?_) λh=>hn (aj h);obtain ⟨hi,_⟩:=hp (ai h);refine cC (λh=>by omega) λ_=>⟨hd,?_⟩
  refine dV (r:=aN) (l:=d.2.2.1.take k++d.2.2.1.drop (k+1)) (GJ (r:=aN) rfl hk c.p) _ ?_;unfold AK8 fY;rw[show List.findIdx (cP (fE x)) d.2.2.1=k from hi];rfl
 ·refine ⟨hd,?_⟩;unfold AK8;rw[xB (is:=cP (fE x)) h];rfl
def ALA (d:aB) (x:aV):aB:=(d.1,d.2.1,d.2.2.1,fY (cP (fE x)) d.2.2.2.1,d.2.2.2.2)
def II (x:aB×aV):Option T:=match vS x.1 with
 | true=>some (Sh.enc [(true,aD)] (ALA x.1 x.2))
 | false=>none
noncomputable def BF5:Env:=Env.of [(104,.dup 6 72),(289,.grow 6 GZ)]
def BGR:FuncId->Hint:=cA 282 [(2,.inv [.val 8 false (.int .i64)])] (λ_=>bA)
def A4A:aU Tryz.prog BF5:=aU.cons (x:=.dup 6 72) CX (.cons AF9 (.nil _))
def BLV(a0:aB)(R:T->Prop):Prop:=bQ (((BK0 a0).all λ(r:List T)=>decide (r.length=6)) && decide ((BK0 a0).length*72<=140737488355328) && decide ((BK0 a0).length<=140737488355328)) (R (aH true aD a0))
def AUJ(a0:aB)(a1:aV)(R:T->Prop):Prop:=bD (Int×PUnit) (λX0 s1=>aC (decide (s1.1<(↑(BK0 a0).length:Int))) (aX bC (BK0 a0) s1.1 λ(y2:bS)=>aC (decide (y2.1=a1.2.1)) (aC (decide (s1.1<0)) (BLV a0 R) (bQ (((BK0 a0).all λ(r:List T)=>decide (r.length=6)) && decide ((BK0 a0).length*72<=140737488355328) && decide ((BK0 a0).length<=140737488355328)) (bU bC (GZ (BK0 a0) (BLL s1)) λ(y3:List bS)=>R (BLJ a0 y3)))) (BKW X0 s1)) (BLV a0 R)) (0,())
abbrev A2I:Sh:=[(true,aD),(true,aM)]
noncomputable def RV:List T->Option T:=gS A2I II
def AYW {a0 a1}:RV [aH true aD a0,aH true aM a1]=II (a0,a1):=bJ (s:=A2I) rfl (a0,a1) rfl
def BD7:sP Tryz.prog 205 RV II (cJ A2I) AUJ:=iH (a1:=(true,aD)) (a2:=(true,aM)) (sp:=II) (F:=AUJ) (Hs:=BGR) (f:=205) (k:=8) A4A aZ a7 (aO rfl) ⟨_,_,Tryz.func205,rfl⟩ rfl λ_ _ _=>by kernel_rfl
def BB2:aP Tryz.prog 205 RV:=BD7 λd x r h hb=>by
 clear hb;have hp:vS d=true:=by
  unfold II at h;split at h
  ·assumption
  ·cases h
 have e:Sh.enc [(true,aD)] (ALA d x)=r:=by
  unfold II at h;rw[show vS (d,x).1=true from hp] at h;exact Option.some.inj h
 subst e;clear h;have c:=dY hp;have hd:=xC (r:=bC) (l:=d.2.2.2.1) (z:=6) (b:=72) rfl (dL c.s (by decide));unfold AUJ BLV BLL BLJ BK4 BK0 BKZ BKV BKW BK2;refine cT (r:=bC) (λy=>cP (fE x) y) (o8 c.s) (λX k y hk hy hp hn=>?_) (λh _=>?_)
 ·dsimp only;refine cC (λh=>?_) λh=>hn (aj h);obtain ⟨hi,_⟩:=hp (ai h);refine cC (λh=>by omega) λ_=>⟨hd,?_⟩
  refine dV (r:=bC) (l:=d.2.2.2.1.take k++d.2.2.2.1.drop (k+1)) (GJ (r:=bC) rfl hk c.s) _ ?_;unfold ALA fY;rw[show List.findIdx (cP (fE x)) d.2.2.2.1=k from hi];rfl
 ·refine ⟨hd,?_⟩;unfold ALA;rw[xB (is:=cP (fE x)) h];rfl
def V1 (d:aB) (x:aV):aB:=(d.1,d.2.1,d.2.2.1,d.2.2.2.1,fY (cP (fE x)) d.2.2.2.2.1,d.2.2.2.2.2)
def AU (x:aB×aV):Option T:=match vS x.1 with
 | true=>some (Sh.enc [(true,aD)] (V1 x.1 x.2))
 | false=>none
noncomputable def BAH:Env:=Env.of [(107,.dup 5 88),(290,.grow 5 mV)]
def BAX:FuncId->Hint:=cA 277 [(2,.inv [.val 8 false (.int .i64)])] (λ_=>bA)
def ATJ:aU Tryz.prog BAH:=aU.cons (x:=.dup 5 88) oF (.cons B1 (.nil _))
def BLF(a0:aB)(y3:List aQ):T:=T.agg [pPQ a0.1,T.sl false (BK4 a0), T.sl false (BKZ a0), T.sl false (BK0 a0), T.sl false (List.map aF.enc y3), T.sl false (BK2 a0)]
def AES(a0:aB)(a1:aV)(R:T->Prop):Prop:=bD (Int×PUnit) (λX0 s1=>aC (decide (s1.1<(↑(BKV a0).length:Int))) (aX aF (BKV a0) s1.1 λ(y2:aQ)=>aC (decide (y2.1=a1.2.1)) (aC (decide (s1.1<0)) (bQ (((BKV a0).all λ(r:List T)=>decide (r.length=5)) && decide ((BKV a0).length*88<=140737488355328) && decide ((BKV a0).length<=140737488355328)) (R (aH true aD a0))) (bQ (((BKV a0).all λ(r:List T)=>decide (r.length=5)) && decide ((BKV a0).length*88<=140737488355328) && decide ((BKV a0).length<=140737488355328)) (bU aF (mV (BKV a0) (BLL s1)) λ(y3:List aQ)=>R (BLF a0 y3)))) (BKW X0 s1)) (bQ (((BKV a0).all λ(r:List T)=>decide (r.length=5)) && decide ((BKV a0).length*88<=140737488355328) && decide ((BKV a0).length<=140737488355328)) (R (aH true aD a0)))) (0,())
abbrev AIB:Sh:=[(true,aD),(true,aM)]
noncomputable def G0:List T->Option T:=gS AIB AU
def APG {a0 a1}:G0 [aH true aD a0,aH true aM a1]=AU (a0,a1):=bJ (s:=AIB) rfl (a0,a1) rfl
def A75:sP Tryz.prog 226 G0 AU (cJ AIB) AES:=iH (a1:=(true,aD)) (a2:=(true,aM)) (sp:=AU) (F:=AES) (Hs:=BAX) (f:=226) (k:=8) ATJ aZ a7 (aO rfl) ⟨_,_,Tryz.func226,rfl⟩ rfl λ_ _ _=>by kernel_rfl
def A6L:aP Tryz.prog 226 G0:=A75 λd x r h hb=>by
 clear hb;have hp:vS d=true:=by
  unfold AU at h;split at h
  ·assumption
  ·cases h
 have e:Sh.enc [(true,aD)] (V1 d x)=r:=by
  unfold AU at h;rw[show vS (d,x).1=true from hp] at h;exact Option.some.inj h
 subst e;clear h;have c:=dY hp;have hd:=xC (r:=aF) (l:=d.2.2.2.2.1) (z:=5) (b:=88) rfl (dL c.k (by decide));unfold AES BLL BLF BK4 BK0 BKZ BKV BKW BK2;refine cT (r:=aF) (λy=>cP (fE x) y) (o8 c.k) (λX k y hk hy hp hn=>?_) (λh _=>?_)
 ·dsimp only;refine cC (λh=>?_) λh=>hn (aj h);obtain ⟨hi,_⟩:=hp (ai h);refine cC (λh=>by omega) λ_=>⟨hd,?_⟩
  refine dV (r:=aF) (l:=d.2.2.2.2.1.take k++d.2.2.2.2.1.drop (k+1)) (GJ (r:=aF) rfl hk c.k) _ ?_;unfold V1 fY;rw[show List.findIdx (cP (fE x)) d.2.2.2.2.1=k from hi];rfl
 ·refine ⟨hd,?_⟩;unfold V1;rw[xB (is:=cP (fE x)) h];rfl
def AK7 (d:aB) (x:aV):aB:=(d.1,d.2.1,j3 dW d.2.2.1 (cV x),d.2.2.2)
def IF (x:aB×aV):Option T:=match vS x.1&&fM (cV x.2) with
 | true=>some (Sh.enc [(true,aD)] (AK7 x.1 x.2))
 | false=>none
noncomputable def BF2:Env:=Env.of [(108,.pure iL),(106,.dup 18 208),(285,.grow 18 tY)]
def BGO:FuncId->Hint:=cA 185 [(2,.inv [.val 8 false (.int .i64)])] (λ_=>bA)
def A37:aU Tryz.prog BF2:=.cons vE (aU.cons (x:=.dup 18 208) CW (.cons AGA (.nil _)))
def BKX(y0:a8):List T:=[pPQ y0.1,pPP y0.2.1, pPP y0.2.2.1, pPQ y0.2.2.2.1, pPQ y0.2.2.2.2.1, pPP y0.2.2.2.2.2.1, T.sl false (List.map aA.enc y0.2.2.2.2.2.2.1.1), T.sl false (List.map aA.li.enc y0.2.2.2.2.2.2.1.2), pPQ y0.2.2.2.2.2.2.2.1, pPP y0.2.2.2.2.2.2.2.2.1, pPP y0.2.2.2.2.2.2.2.2.2.1, pPP y0.2.2.2.2.2.2.2.2.2.2.1.1, pPP y0.2.2.2.2.2.2.2.2.2.2.1.2.1, pPP y0.2.2.2.2.2.2.2.2.2.2.1.2.2, pPP y0.2.2.2.2.2.2.2.2.2.2.2.1.1, pPP y0.2.2.2.2.2.2.2.2.2.2.2.1.2.1, pPP y0.2.2.2.2.2.2.2.2.2.2.2.1.2.2, pPP y0.2.2.2.2.2.2.2.2.2.2.2.2]
def BLK(a0:aB)(y0:a8)(R:T->Prop):Prop:=bQ (((BKZ a0).all λ(r:List T)=>decide (r.length=18)) && decide ((BKZ a0).length*208<=140737488355328) && decide ((BKZ a0).length<=140737488355328)) (bU aN (tY (BKZ a0) [pPP (↑(BKZ a0).length:Int), T.sl true [(BKX y0)]]) λ(y4:List a8)=>R (BLE a0 y4))
def AUG(a0:aB)(a1:aV)(R:T->Prop):Prop:=aJ [(true,aN)] (iL [aH true aN a1.2.2.2.2.1]) λ(y0:a8)=>bD (Int×PUnit) (λX1 s2=>aC (decide (s2.1<(↑(BKZ a0).length:Int))) (aX aN (BKZ a0) s2.1 λ(y3:a8)=>aC (!(cR y3.1 y0.1||decide (y3.1=y0.1))) (aC (decide (s2.1<0)) (BLK a0 y0 R) (bQ (((BKZ a0).all λ(r:List T)=>decide (r.length=18)) && decide ((BKZ a0).length*208<=140737488355328) && decide ((BKZ a0).length<=140737488355328)) (bU aN (tY (BKZ a0) [pPP s2.1, T.sl true [(BKX y0)]]) λ(y5:List a8)=>R (BLE a0 y5)))) (BKW X1 s2)) (BLK a0 y0 R)) (0,())
abbrev A2F:Sh:=[(true,aD),(true,aM)]
noncomputable def RR:List T->Option T:=gS A2F IF
def AYT {a0 a1}:RR [aH true aD a0,aH true aM a1]=IF (a0,a1):=bJ (s:=A2F) rfl (a0,a1) rfl
def BD4:sP Tryz.prog 169 RR IF (cJ A2F) AUG:=iH (a1:=(true,aD)) (a2:=(true,aM)) (sp:=IF) (F:=AUG) (Hs:=BGO) (f:=169) (k:=8) A37 aZ a7 (aO rfl) ⟨_,_,Tryz.func169,rfl⟩ rfl λ_ _ _=>by kernel_rfl
def BBZ:aP Tryz.prog 169 RR:=BD4 λd x r h hb=>by
 clear hb;have hq:(vS d&&fM (cV x))=true:=by
  unfold IF at h;split at h
  ·assumption
  ·cases h
 have e:Sh.enc [(true,aD)] (AK7 d x)=r:=by
  unfold IF at h;rw[show (vS (d,x).1&&fM (cV (d,x).2))=true from hq] at h;exact Option.some.inj h
 subst e;clear h;rw[ac] at hq;obtain ⟨hp,ho⟩:=hq;have c:=dY hp;have hd:=xC (r:=aN) (l:=d.2.2.1) (z:=18) (b:=208) rfl (dL c.p (by decide));unfold AUG BLK BLE BK4 BK0 BKZ BKX BKV BKW BK2;refine aG (s:=[(true,aN)]) (y:=cV x) ((vG ..).trans (by unfold jD;rw[ho])) ?_;refine cT (r:=aN) (λy=>dW y (cV x)) (o8 c.p) (λX k y hk hy hp hn=>?_) (λh _=>?_)
 ·dsimp only;rw[qH];refine wU (λh=>?_) λh=>hn h;obtain ⟨hi,_⟩:=hp h;refine cC (λh=>by omega) λ_=>⟨hd,?_⟩
  refine dV (r:=aN) (l:=d.2.2.1.take k++cV x::d.2.2.1.drop k) (sX (r:=aN) (x:=cV x) rfl (by omega) c.p (by decide)) _ ?_;unfold AK7 j3;rw[hi];rfl
 ·refine ⟨hd,?_⟩;rw[show (((List.map (aN).enc d.2.2.1).length:Nat):Int)=(((d.2.2.1).length:Nat):Int) by rw[ae]];refine dV (r:=aN) (l:=d.2.2.1.take (d.2.2.1).length++cV x::d.2.2.1.drop (d.2.2.1).length) (sX (r:=aN) (x:=cV x) rfl (al _) c.p (by decide)) _ ?_;unfold AK7 j3;rw[h];rfl
def ALB (d:aB) (x:aV):aB:=(d.1,d.2.1,d.2.2.1,d.2.2.2.1,j3 dW d.2.2.2.2.1 (hU x),d.2.2.2.2.2)
def IJ (x:aB×aV):Option T:=match vS x.1&&eU (hU x.2) with
 | true=>some (Sh.enc [(true,aD)] (ALB x.1 x.2))
 | false=>none
noncomputable def BF6:Env:=Env.of [(109,.pure nT),(107,.dup 5 88),(292,.grow 5 mW)]
def BGS:FuncId->Hint:=cA 277 [(2,.inv [.val 8 false (.int .i64)])] (λ_=>bA)
def A4B:aU Tryz.prog BF6:=.cons NH (aU.cons (x:=.dup 5 88) oF (.cons QD (.nil _)))
def BLH(y0:aQ):List T:=[pPQ y0.1,pPQ y0.2.1, T.sl false (BLX y0), pPP y0.2.2.2.1, T.sl false (BLN y0)]
def BL3(a0:aB)(y0:aQ)(R:T->Prop):Prop:=bU aF (mW (BKV a0) [pPP (↑(BKV a0).length:Int), T.sl true [(BLH y0)]]) λ(y4:List aQ)=>R (BLF a0 y4)
def AUK(a0:aB)(a1:aV)(R:T->Prop):Prop:=aJ [(true,aF)] (nT [aH true aF a1.2.2.2.2.2.2.1]) λ(y0:aQ)=>bD (Int×PUnit) (λX1 s2=>aC (decide (s2.1<(↑(BKV a0).length:Int))) (aX aF (BKV a0) s2.1 λ(y3:aQ)=>aC (!(cR y3.1 y0.1||decide (y3.1=y0.1))) (aC (decide (s2.1<0)) (bQ (((BKV a0).all λ(r:List T)=>decide (r.length=5)) && decide ((BKV a0).length*88<=140737488355328) && decide ((BKV a0).length<=140737488355328)) (BL3 a0 y0 R)) (bQ (((BKV a0).all λ(r:List T)=>decide (r.length=5)) && decide ((BKV a0).length*88<=140737488355328) && decide ((BKV a0).length<=140737488355328)) (bU aF (mW (BKV a0) [pPP s2.1, T.sl true [(BLH y0)]]) λ(y5:List aQ)=>R (BLF a0 y5)))) (BKW X1 s2)) (bQ (((BKV a0).all λ(r:List T)=>decide (r.length=5)) && decide ((BKV a0).length*88<=140737488355328) && decide ((BKV a0).length<=140737488355328)) (BL3 a0 y0 R))) (0,())
abbrev A2J:Sh:=[(true,aD),(true,aM)]
noncomputable def RW:List T->Option T:=gS A2J IJ
def AYX {a0 a1}:RW [aH true aD a0,aH true aM a1]=IJ (a0,a1):=bJ (s:=A2J) rfl (a0,a1) rfl
def BD8:sP Tryz.prog 218 RW IJ (cJ A2J) AUK:=iH (a1:=(true,aD)) (a2:=(true,aM)) (sp:=IJ) (F:=AUK) (Hs:=BGS) (f:=218) (k:=8) A4B aZ a7 (aO rfl) ⟨_,_,Tryz.func218,rfl⟩ rfl λ_ _ _=>by kernel_rfl
def BB3:aP Tryz.prog 218 RW:=BD8 λd x r h hb=>by
 clear hb;have hq:(vS d&&eU (hU x))=true:=by
  unfold IJ at h;split at h
  ·assumption
  ·cases h
 have e:Sh.enc [(true,aD)] (ALB d x)=r:=by
  unfold IJ at h;rw[show (vS (d,x).1&&eU (hU (d,x).2))=true from hq] at h;exact Option.some.inj h
 subst e;clear h;rw[ac] at hq;obtain ⟨hp,ho⟩:=hq;have c:=dY hp;have hd:=xC (r:=aF) (l:=d.2.2.2.2.1) (z:=5) (b:=88) rfl (dL c.k (by decide));unfold AUK BL3 BLH BLF BLN BK4 BLX BK0 BKZ BKV BKW BK2;refine aG (s:=[(true,aF)]) (y:=hU x) ((EE ..).trans (by unfold kE;rw[ho])) ?_;refine cT (r:=aF) (λy=>dW y (hU x)) (o8 c.k) (λX k y hk hy hp hn=>?_) (λh _=>?_)
 ·dsimp only;rw[qH];refine wU (λh=>?_) λh=>hn h;obtain ⟨hi,_⟩:=hp h;refine cC (λh=>by omega) λ_=>⟨hd,?_⟩
  refine dV (r:=aF) (l:=d.2.2.2.2.1.take k++hU x::d.2.2.2.2.1.drop k) (sX (r:=aF) (x:=hU x) rfl (by omega) c.k (by decide)) _ ?_;unfold ALB j3;rw[hi];rfl
 ·refine ⟨hd,?_⟩;rw[show (((List.map (aF).enc d.2.2.2.2.1).length:Nat):Int)=(((d.2.2.2.2.1).length:Nat):Int) by rw[ae]];refine dV (r:=aF) (l:=d.2.2.2.2.1.take (d.2.2.2.2.1).length++hU x::d.2.2.2.2.1.drop (d.2.2.2.2.1).length) (sX (r:=aF) (x:=hU x) rfl (al _) c.k (by decide)) _ ?_;unfold ALB j3;rw[h];rfl
noncomputable def NU:List T->Option T:=fJ
def AJ3:L6 Tryz.prog 69 2 NU :=
 A1H (E:=ADJ) (Hs:=AE6) XR aZ a7 (aO rfl) 8 ⟨_,_,Tryz.func69,rfl⟩ (s:=OV) rfl λd r h hb=>by
  have hp:vS d=true:=by
   unfold sF at h;split at h
   ·assumption
   ·cases h
  have e:Sh.enc [(true,aD)] d=r:=by
   unfold sF at h;rw[hp] at h;exact Option.some.inj h
  subst e;rw[show XD b8 Tryz.prog ADJ AE6 8 2 69 (Sh.l7 OV d) (λy=>y=Sh.enc [(true,aD)] d)=LC d (λy=>y=Sh.enc [(true,aD)] d) from by kernel_rfl];exact AWY hp
def W0 (x:aV):Option T:=some (Sh.enc [(true,aM)] ((x.1,nY,nY,iF,cV x,iG,noPack,pK):aV))
noncomputable def BGC:Env:=Env.of []
def BGY:FuncId->Hint:=λ_=>bA
def A4M:aU Tryz.prog BGC:=.nil _
def AU0(a0:aV)(R:T->Prop):Prop:=R (BKY a0)
abbrev A2P:Sh:=[(true,aM)]
noncomputable def SA:List T->Option T:=gS A2P W0
def AY7 {a0}:SA [aH true aM a0]=W0 (a0):=bJ (s:=A2P) rfl (a0) rfl
def BEJ:w5 Tryz.prog 181 SA W0 (cJ A2P) AU0:=j5 (a1:=(true,aM)) (sp:=W0) (F:=AU0) (Hs:=BGY) (f:=181) (k:=8) A4M aZ a7 (aO rfl) ⟨_,_,Tryz.func181,rfl⟩ rfl λ_ _=>by kernel_rfl
def BCH:aP Tryz.prog 181 SA:=BEJ λx r h hb=>by
 cases h;unfold AU0 BKY;rfl
def W7 (x:aV):Option T:=some (Sh.enc [(true,aM)] ((x.1,fE x,eTo x,iF,eN,iG,noPack,pK):aV))
noncomputable def BGD:Env:=Env.of []
def BGZ:FuncId->Hint:=λ_=>bA
def A4N:aU Tryz.prog BGD:=.nil _
def AU1(a0:aV)(R:T->Prop):Prop:=R (T.agg [pPP a0.1,pPQ a0.2.1, pPQ a0.2.2.1,pPQ ({data:=#[]}), pPP 0,pPQ ({data:=#[]}), pPQ ({data:=#[]}),pPP 0, pPP 0,pPQ ({data:=#[]}), pPQ ({data:=#[]}),pPP 0,T.sl false [], T.sl false [],pPQ ({data:=#[]}),pPP 0, pPP 0,pPP 0, pPP 0,pPP 0, pPP 0,pPP 0, pPP 0,pPP 0, pPQ ({data:=#[]}),pPQ ({data:=#[]}), pPQ ({data:=#[]}),pPP 0, pPP 0,pPP 0, pPQ ({data:=#[]}),pPQ ({data:=#[]}),T.sl false [], pPP 0,T.sl false [],pPP 0, pPQ ({data:=#[]}),pPQ ({data:=#[]})])
abbrev A2Q:Sh:=[(true,aM)]
noncomputable def SB:List T->Option T:=gS A2Q W7
def AY8 {a0}:SB [aH true aM a0]=W7 (a0):=bJ (s:=A2Q) rfl (a0) rfl
def BEK:w5 Tryz.prog 189 SB W7 (cJ A2Q) AU1:=j5 (a1:=(true,aM)) (sp:=W7) (F:=AU1) (Hs:=BGZ) (f:=189) (k:=8) A4N aZ a7 (aO rfl) ⟨_,_,Tryz.func189,rfl⟩ rfl λ_ _=>by kernel_rfl
def BCI:aP Tryz.prog 189 SB:=BEK λx r h hb=>by
 cases h;unfold AU1;rfl
end Go.Pv
