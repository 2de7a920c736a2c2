/-
  poly.Where; region: edges, within, apart, Check, Area2.
  region: Check, Area2.
  vec.Valid; material: Check, Grade, Rolled.
  part: Check, Mass.
  Chapter 17: the tree's parts and packages in full.
  Chapter 17: the tree's packages in full.
  Chapter 17: Check where the parts and packages are empty ones; StructureLong, walked.
  Chapter 17: structure.Check in full.
  What an edit does to a design, in plain words.
  The reference's material.Check.
  R17.Has.
  The form of a design, as the reference looks at it.
  The closures of edit.kinds: what they come to.
  edit.Apply, the kinds 5 and 6 (the copied parts are turned in place).
-/
import Derived.Test.YtipdohmdckdoeaaGreatDoorVez1
import Derived.Sort.Walk0
import Derived.Test.YtipdohmdckdoeaaGreatDoorVekp
set_option linter.defProp false
set_option linter.unusedSimpArgs false
set_option linter.unusedVariables false
set_option maxRecDepth 100000
namespace Go.Pv
open Go Go.Proofs IntKind
open List (range drop_zero drop_eq_getElem_cons drop_length mem_cons getElem?_eq_getElem length_take all_eq_true not_lt lt_trans lt_irrefl length_cons mem_append)
def AK0 (p:List Pt) (q:Pt):Bool:=(range p.length).any λi=>VZ (pt p i) (nx p i) q
def iN (p:List Pt) (q:Pt):Int:=if ¬ dL q\/¬ kN p=0 then -1 else if AK0 p q=true then 0 else if A63 p q=true then 1 else -1
def yO {n:Nat} {f:Nat->Bool}:(range n).any f=true↔∃ i,i<n/\f i=true:=by simp[List.any_eq_true,List.mem_range]
def AFI {n:Nat} {f:Nat->Bool} (h:∀ i,i<n->f i=false):(range n).any f=false:=by
 rw[Bool.eq_false_iff];intro ha;obtain ⟨i,hi,h2⟩:=yO.1 ha;rw[h i hi] at h2;cases h2
def AZP {a b q:Pt} (ho:VZ a b q=false):hit a b q=(!(decide (q.2<a.2) == decide (q.2<b.2))&&(decide (0<dU a b q) == decide (a.2<b.2))):=by
 rcases Int.lt_or_le q.2 a.2 with h1|h1
 ·rcases Int.lt_or_le q.2 b.2 with h2|h2
  ·unfold hit;simp[show ¬ a.2<=q.2 by omega,show ¬ b.2<=q.2 by omega,h1,h2]
  ·have hz:dU a b q≠0:=λh=>by
    have:=A8E (a:=b) (b:=a) (q:=q) (by rw[MK a b q,h];rfl) (by omega) h2 (by omega);rw[A8D] at this;rw[this] at ho;cases ho
   have h3:decide (0<dU a b q) = !decide (dU a b q<0):=by
    rcases Int.lt_or_le (dU a b q) 0 with h|h
    ·rw[ai h,aj (by omega)];rfl
    ·rw[aj (show ¬ dU a b q<0 by omega),ai (by omega)];rfl
   unfold hit;rw[h3];simp[show ¬ a.2<=q.2 by omega,h1,h2,show ¬ q.2<b.2 by omega,show ¬ a.2<b.2 by omega]
 ·rcases Int.lt_or_le q.2 b.2 with h2|h2
  ·unfold hit;simp[h1,show ¬ q.2<a.2 by omega,h2,show ¬ b.2<=q.2 by omega,show a.2<b.2 by omega]
  ·unfold hit;simp[show ¬ q.2<a.2 by omega,show ¬ q.2<b.2 by omega]
noncomputable def ASV:Env:=Env.of [(310,.pure gU),(340,.pure B9),(361,.pure xJ),(356,.pure gF)]
def AVX:FuncId->Hint:=b6 346 [(5,.inv [.val 5 false .bool,.val 19 false (.int .i64)])] (λ_=>bA)
def AD5:aV Tryz.prog ASV:=.cons B1 (.cons AKB (.cons AX0 (.cons yW (.nil _))))
def BJ7:Sh:=[(false,Sy.int IntKind.i64)]
def BJ8:Sh:=[(false,Sy.bool)]
def BJ9:T:=pPP 0
def BKF:T:=pPP (-1)
def BKJ:T:=pPP 1
def BK9(a0:List aU):List (List T):=List.map aA.enc a0
def LG(a0:List aU)(a1:aU)(R:T->Prop):Prop:=aJ BJ8 (B9 [aG true aA a1]) λ(y0:Bool)=>aC y0 (R BKF) (aJ BJ7 (gU [T.sl false (BK9 a0)]) λ(y1:Int)=>aC (!decide (y1=0)) (R BKF) (bB (Bool×Int×PUnit) (λX2 s3=>aC (decide (s3.2.1<(↑(BK9 a0).length:Int))) (aR aA (BK9 a0) s3.2.1 λ(y4:aU)=>bR (!decide ((↑(BK9 a0).length:Int)=0)) (aR aA (BK9 a0) ((i64.wrap (s3.2.1+1)).tmod (↑(BK9 a0).length:Int)) λ(y5:aU)=>aJ BJ8 (xJ [aG true aA y4,aG true aA y5, aG true aA a1]) λ(y6:Bool)=>aC y6 (R BJ9) (aC (decide (decide (a1.2<y4.2)=decide (a1.2<y5.2))) (X2 (s3.1,i64.wrap (s3.2.1+1),())) (aJ BJ7 (gF [aG true aA y4,aG true aA y5, aG true aA a1]) λ(y7:Int)=>aC (decide (decide (0<y7)=decide (y4.2<y5.2))) (X2 (!s3.1,i64.wrap (s3.2.1+1),())) (X2 (s3.1,i64.wrap (s3.2.1+1),())))))) (aC s3.1 (R BKJ) (R BKF))) (false,0,())))
abbrev O3:Sh:=[(false,aA.li),(true,aA)]
def z7 (x:List aU×aU):Option T:=some (T.v (Value.int .i64 (iN x.1 x.2)))
noncomputable def mU:List T->Option T:=gS O3 z7
def AAT {a0 a1}:mU [T.sl false (List.map aA.enc a0),aG true aA a1]=z7 (a0,a1):=bI (s:=O3) rfl (a0,a1) rfl
def AQV:rJ Tryz.prog 346 mU z7 (cC O3) LG:=gZ (a1:=(false,aA.li)) (a2:=(true,aA)) (sp:=z7) (F:=LG) (Hs:=AVX) (f:=346) (k:=8) AD5 aY a7 (aO rfl) ⟨_,_,Tryz.func346,rfl⟩ rfl λ_ _ _=>by kernel_rfl
def wY (p q:List Pt):Bool:=(range p.length).any λi=>(range q.length).any λk=>mX (pt p i) (nx p i) (pt q k) (nx q k)
def mJ (a0:List aU) (a1:List aU):List T:=[T.sl false (List.map aA.enc a0),T.sl false (List.map aA.enc a1),T.fn 344 [] []]
noncomputable def KU:Env:=Env.of [(344,.pure xN)]
def YU:FuncId->Hint:=b6 343 [(2,.inv [.val 13 false (.int .i64)]),(5,.inv [.val 20 false (.int .i64)])] (λ_=>bA)
def AEB:aV Tryz.prog KU:=.cons AO1 (.nil _)
def BJ5:T:=pPR false
def BKA:T:=pPR true
def BKS(X3:Int×PUnit->Prop)(s4:Int×PUnit):Prop:=X3 (i64.wrap (s4.1+1),())
def LN(a0:List aU)(a1:List aU)(R:T->Prop):Prop:=bB (Int×PUnit) (λX0 s1=>aC (decide (s1.1<(↑(BK9 a0).length:Int))) (aR aA (BK9 a0) s1.1 λ(y2:aU)=>bB (Int×PUnit) (λX3 s4=>aC (decide (s4.1<(↑(BK9 a1).length:Int))) (aR aA (BK9 a1) s4.1 λ(y5:aU)=>bR (!decide ((↑(BK9 a0).length:Int)=0)) (aR aA (BK9 a0) ((i64.wrap (s1.1+1)).tmod (↑(BK9 a0).length:Int)) λ(y6:aU)=>bR (!decide ((↑(BK9 a1).length:Int)=0)) (aR aA (BK9 a1) ((i64.wrap (s4.1+1)).tmod (↑(BK9 a1).length:Int)) λ(y7:aU)=>aJ BJ8 (xN [aG true aA y2,aG true aA y6, aG true aA y5,aG true aA y7]) λ(y8:Bool)=>aC y8 (R BKA) (BKS X3 s4)))) (BKS X0 s1)) (0,())) (R BJ5)) (0,())
def YM ( a0 a1 R):eG bY Tryz.prog KU YU 8 343 (mJ a0 a1) R=LN a0 a1 R:=by kernel_rfl
variable {α:Type}
def OG (p q:List Pt) (r:α):Option α:=match QQ p&&QQ q with
 | true=>some r
 | false=>none
def OH {p q:List Pt} {t r:α} (h:OG p q t=some r):p.length<=1000/\kJ p/\q.length<=1000/\kJ q/\r=t:=by
 unfold OG at h;split at h
 ·rename_i hc;simp only[QQ,ac,ah,nW] at hc;cases h;exact ⟨hc.1.1,hc.1.2,hc.2.1,hc.2.2,rfl⟩
 ·cases h
def OI {p q:List Pt} (t:α) (h:p.length<=1000) (h2:kJ p) (h3:q.length<=1000) (h4:kJ q):OG p q t=some t:=by
 unfold OG;rw[show (QQ p&&QQ q)=true by simp only[QQ,ac,ah,nW];exact ⟨⟨h,h2⟩,h3,h4⟩]
def IA (x:List aU×List aU):Option T:=OG x.1 x.2 (pPR (wY x.1 x.2))
def TP (x y:List aU×List aU) (h:mJ x.1 x.2=mJ y.1 y.2):x=y:=by
 unfold mJ at h;obtain ⟨h1,h2⟩:=List.cons.inj h;have h2:=(List.cons.inj h2).1;exact Prod.ext (map_inj (Sy.dY aA) (T.sl.inj h1).2) (map_inj (Sy.dY aA) (T.sl.inj h2).2)
noncomputable def oN:List T->Option (T):=gA (λ(x:List aU×List aU)=>mJ x.1 x.2) IA
def AA1 (a0:List aU) (a1:List aU):oN (mJ a0 a1)=IA (a0,a1):=fN (A:=(λ(x:List aU×List aU)=>mJ x.1 x.2)) TP (a0,a1)
def AQ1 (h:∀ (a0:List aU) (a1:List aU) (r:T),IA (a0,a1)=some r->(∀ t∈mJ a0 a1,Bd t)->LN a0 a1 (λy=>y=r)):aP Tryz.prog 343 oN :=
 cQ (E:=KU) (Hs:=YU) AEB aY a7 (aO rfl) 8 ⟨_,_,Tryz.func343,rfl⟩ λx r h1 h2=>by
  rw[YM];exact h x.1 x.2 r h1 h2
def RJ:aP Tryz.prog 343 oN:=AQ1 λp q r h hb=>by
 obtain ⟨hl,hn,hl2,hn2,rfl⟩:=OH h;replace hl:p.length<=1000:=hl;replace hl2:q.length<=1000:=hl2;clear h;unfold LN BK9 BKS BKA BJ8 BJ5;refine bK p.length (λk s=>s=((k:Int),())/\∀ i,i<k->i<p.length->((range q.length).any λk=>mX (pt p i) (nx p i) (pt q k) (nx q k))=false) ⟨rfl,λi h=>by omega⟩ ?_;rintro X k s hk ⟨rfl,hJ⟩ hX;dsimp only;refine cA (λhlt=>?_) λhge=>jD (Eq.symm (AFI λi hi=>hJ i (by rw[ae] at hge;omega) hi));rw[ae] at hlt;have hlt:k<p.length:=by omega
 have hne:(!decide (((List.map aA.enc p).length:Int)=0))=true:=by rw[ae,aj (by omega)];rfl
 have hm1:(k+1) % p.length<p.length:=Nat.mod_lt _ (by omega);have i1:(i64.wrap ((k:Int)+1)).tmod ((List.map aA.enc p).length:Int)=(((k+1) % p.length:Nat):Int):=by rw[ae];exact u9 (c:=1) hl (by omega) (by omega)
 rw[fO hlt];refine bK q.length (λj s=>s=((j:Int),())/\∀ i,i<j->i<q.length->mX (pt p k) (nx p k) (pt q i) (nx q i)=false) ⟨rfl,λi h=>by omega⟩ ?_;rintro Y j s hj ⟨rfl,hI⟩ hY;dsimp only;refine cA (λhlj=>?_) λhgj=>hX _ hlt ⟨by rw[show i64.wrap ((k:Int)+1)=((k+1:Nat):Int) from bG _ (by omega) (by omega)],λi h1 h2=>by
  rcases Nat.lt_or_ge i k with h3|h3
  ·exact hJ i h3 h2
  ·have:i=k:=by omega
   subst this;exact AFI λm hm=>hI m (by rw[ae] at hgj;omega) hm⟩
 rw[ae] at hlj;have hlj:j<q.length:=by omega
 have hne2:(!decide (((List.map aA.enc q).length:Int)=0))=true:=by rw[ae,aj (by omega)];rfl
 have hm2:(j+1) % q.length<q.length:=Nat.mod_lt _ (by omega);have i2:(i64.wrap ((j:Int)+1)).tmod ((List.map aA.enc q).length:Int)=(((j+1) % q.length:Nat):Int):=by rw[ae];exact u9 (c:=1) hl2 (by omega) (by omega)
 rw[fO hlj,i1];refine ⟨hne,?_⟩;rw[fO hm1,i2];refine ⟨hne2,?_⟩;rw[fO hm2];refine aF (s:=[(false,.bool)]) ((AA7 ..).trans (AB3 _ (hn.pt _) (hn.pt _) (hn2.pt _) (hn2.pt _))) ?_;refine vA (λh=>jD (Eq.symm (yO.2 ⟨k,hlt,yO.2 ⟨j,hlj,h⟩⟩))) λh=>hY _ hlj ⟨by rw[show i64.wrap ((j:Int)+1)=((j+1:Nat):Int) from bG _ (by omega) (by omega)],λi h1 h2=>by
  rcases Nat.lt_or_ge i j with h3|h3
  ·exact hI i h3 h2
  ·have:i=j:=by omega
   subst this;exact h⟩
def IV {p q:List Pt} (h:p.length<=1000) (h2:kJ p) (h3:q.length<=1000) (h4:kJ q):oN (mJ p q)=some (Sh.enc [(false,.bool)] (wY p q)):=(AA1 ..).trans (OI _ h h2 h3 h4)
def RH:aP Tryz.prog 346 mU:=AQV λp q r h hb=>by
 cases h;have is:∀ {n:Int},iN p q=n->pPP n=pPP (iN p q):=λh=>by rw[h]
 unfold LG BK9 BKJ BKF BJ9 BJ8 BJ7;refine aF (s:=[(false,.bool)]) (y:=!decide (dL q)) (R3 ..) ?_;refine kX (λh=>is (by unfold iN;rw[if_pos (.inl h)])) λhq=>?_;refine aF (s:=[(false,.int .i64)]) (pK p) ?_;refine kX (λh=>is (by unfold iN;rw[if_pos (.inr h)])) λhp=>?_;obtain ⟨hl3,hl32,hn,_⟩:=uB hp;have w:iN p q=if AK0 p q=true then 0 else if A63 p q=true then 1 else -1:=by
  unfold iN;rw[if_neg];rintro (h|h)
  ·exact h hq
  ·exact h hp
 refine bK p.length (λk s=>s=(A3C k (λi=>hit (pt p i) (nx p i) q),(k:Int),())/\∀ i,i<k->i<p.length->VZ (pt p i) (nx p i) q=false) ⟨rfl,λi h=>by omega⟩ ?_;rintro X k s hk ⟨rfl,hJ⟩ hX;dsimp only;refine cA (λhlt=>?_) λhge=>?_
 ·rw[ae] at hlt;have hlt:k<p.length:=by omega
  have hne:(!decide (((List.map aA.enc p).length:Int)=0))=true:=by rw[ae,aj (by omega)];rfl
  have hm1:(k+1) % p.length<p.length:=Nat.mod_lt _ (by omega);have i1:(i64.wrap ((k:Int)+1)).tmod ((List.map aA.enc p).length:Int)=(((k+1) % p.length:Nat):Int):=by rw[ae];exact u9 (c:=1) (by omega) (by omega) (by omega)
  rw[fO hlt,i1];refine ⟨hne,?_⟩;rw[fO hm1];refine aF (s:=[(false,.bool)]) (xK (hn.pt _) (hn.pt _) hq) ?_;refine vA (λh=>is (by rw[w,if_pos (show AK0 p q=true from yO.2 ⟨k,hlt,h⟩)])) λho=>?_;have ho:VZ (pt p k) (nx p k) q=false:=ho;have hw:i64.wrap ((k:Int)+1)=((k+1:Nat):Int):=bG _ (by omega) (by omega);have hh:=AZP ho;have hJ':∀ i,i<k+1->i<p.length->VZ (pt p i) (nx p i) q=false:=λi h1 h2=>by
   rcases Nat.lt_or_ge i k with h3|h3
   ·exact hJ i h3 h2
   ·have:i=k:=by omega
    subst this;exact ho
  have step:∀ c,hit (pt p k) (nx p k) q=c->X ((A3C k (λi=>hit (pt p i) (nx p i) q) ^^ c),i64.wrap ((k:Int)+1),()):=λc hc=>hX _ hlt ⟨by rw[hw,A3C,hc],hJ'⟩;refine cA (λh=>?_) λh=>?_
  ·have e:hit (pt p k) (nx p k) q=false:=by
    rw[hh,show decide (q.2<(pt p k).2)=decide (q.2<(nx p k).2) from h];simp
   have:=step false e;rwa[Bool.xor_false] at this
  ·refine aF (s:=[(false,.int .i64)]) (jW (hn.pt _) (hn.pt _) hq) ?_;have e0:hit (pt p k) (nx p k) q=(decide (0<dU (pt p k) (nx p k) q) == decide ((pt p k).2<(nx p k).2)):=by
    rw[hh,show (decide (q.2<(pt p k).2) == decide (q.2<(nx p k).2))=false from beq_eq_false_iff_ne.2 h];rfl
   refine cA (λh2=>?_) λh2=>?_
   ·have:=step true (by rw[e0];exact beq_iff_eq.2 h2);rwa[Bool.xor_true] at this
   ·have:=step false (by rw[e0];exact beq_eq_false_iff_ne.2 h2);rwa[Bool.xor_false] at this
 ·rw[ae] at hge;have:k=p.length:=by omega
  subst this;have hna:AK0 p q=false:=AFI λi hi=>hJ i hi hi;refine vA (λh=>is ?_) λh=>is ?_
  ·rw[w,hna,if_neg (by simp),if_pos (show A63 p q=true from h)]
  ·rw[w,hna,if_neg (by simp),if_neg (by rw[show A63 p q=false from h];simp)]
def xL (p:List Pt) (q:Pt):mU [T.sl false (List.map aA.enc p),aG true aA q]=some (Sh.enc [(false,.int .i64)] (iN p q)):=AAT ..
def r8 (p o:List Pt):Bool:=!wY p o&&p.all λc=>decide (iN o c=1)
def uO (p q:List Pt):Bool:=!wY p q&&(decide (iN p (pt q 0)<0)&&decide (iN q (pt p 0)<0))
noncomputable def AMG:Env:=Env.of [(346,.pure mU),(343,.pure oN)]
def ANF:FuncId->Hint:=b6 355 [(2,.inv [.val 8 false (.int .i64)])] (λ_=>bA)
def YD:aV Tryz.prog AMG:=.cons RH (.cons RJ (.nil _))
def FT(a0:List aU)(a1:List aU)(R:T->Prop):Prop:=aJ BJ8 (oN [T.sl false (BK9 a0),T.sl false (BK9 a1), T.fn 344 [] []]) λ(y0:Bool)=>aC (!y0) (bB (Int×PUnit) (λX1 s2=>aC (decide (s2.1<(↑(BK9 a0).length:Int))) (aR aA (BK9 a0) s2.1 λ(y3:aU)=>aJ BJ7 (mU [T.sl false (BK9 a1),aG true aA y3]) λ(y4:Int)=>aC (!decide (y4=1)) (R (pPR (!decide (0<=s2.1)))) (BKS X1 s2)) (R BKA)) (0,())) (R BJ5)
abbrev HQ:Sh:=[(false,aA.li),(false,aA.li)]
def vT (x:List aU×List aU):Option T:=OG x.1 x.2 (pPR (r8 x.1 x.2))
noncomputable def pW:List T->Option T:=gS HQ vT
def VD {a0 a1}:pW [T.sl false (List.map aA.enc a0),T.sl false (List.map aA.enc a1)]=vT (a0,a1):=bI (s:=HQ) rfl (a0,a1) rfl
def AHU:rJ Tryz.prog 312 pW vT (cC HQ) FT:=gZ (a1:=(false,aA.li)) (a2:=(false,aA.li)) (sp:=vT) (F:=FT) (Hs:=ANF) (f:=312) (k:=8) YD aY a7 (aO rfl) ⟨_,_,Tryz.func312,rfl⟩ rfl λ_ _ _=>by kernel_rfl
def AGE:aP Tryz.prog 312 pW:=AHU λp o r h hb=>by
 obtain ⟨hl,hn,hl2,hn2,rfl⟩:=OH h;replace hl:p.length<=1000:=hl;clear h;unfold FT BK9 BKS BKA BJ8 BJ7 BJ5;refine aF (s:=[(false,.bool)]) (IV hl hn hl2 hn2) ?_;refine fK (λhe=>?_) λhe=>jD (by unfold r8;rw[show wY p o=true from he];rfl);have w:r8 p o=p.all λc=>decide (iN o c=1):=by unfold r8;rw[show wY p o=false from he];rfl
 refine bK p.length (λk s=>s=((k:Int),())/\p.all (λc=>decide (iN o c=1))=(p.drop k).all λc=>decide (iN o c=1)) ⟨rfl,by rw[drop_zero]⟩ ?_;rintro X k s hk ⟨rfl,hJ⟩ hX;dsimp only;refine cA (λhlt=>?_) λhge=>jD ?_
 ·rw[ae] at hlt;have hlt:k<p.length:=by omega
  rw[drop_eq_getElem_cons hlt,List.all_cons] at hJ;rw[bD (r:=aA) hlt];refine aF (s:=[(false,.int .i64)]) (xL o p[k]) ?_;refine kX (λh=>jD ?_) λh=>hX _ hlt ⟨by rw[show i64.wrap ((k:Int)+1)=((k+1:Nat):Int) from bG _ (by omega) (by omega)],by rw[hJ,ai (show iN o p[k]=1 from h),Bool.true_and]⟩;rw[w,hJ,aj (show ¬ iN o p[k]=1 from h),ai (show 0<=(k:Int) by omega)];rfl
 ·rw[ae] at hge;have:k=p.length:=by omega
  subst this;rw[w,hJ,drop_length];rfl
def VE {p q:List Pt} (h:p.length<=1000) (h2:kJ p) (h3:q.length<=1000) (h4:kJ q):pW [T.sl false (List.map aA.enc p),T.sl false (List.map aA.enc q)]=some (Sh.enc [(false,.bool)] (r8 p q)):=(VD ..).trans (OI _ h h2 h3 h4)
def AHY (p q:List Pt) (t:T):Option T:=match p,q with
 | _::_,_::_=>OG p q t
 | _,_=>none
noncomputable def ASW:Env:=Env.of [(346,.pure mU),(343,.pure oN)]
def AVY:FuncId->Hint:=λ_=>bA
def AD6:aV Tryz.prog ASW:=.cons RH (.cons RJ (.nil _))
def LI(a0:List aU)(a1:List aU)(R:T->Prop):Prop:=aJ BJ8 (oN [T.sl false (BK9 a0),T.sl false (BK9 a1), T.fn 344 [] []]) λ(y0:Bool)=>aC (!y0) (aR aA (BK9 a1) 0 λ(y1:aU)=>aJ BJ7 (mU [T.sl false (BK9 a0),aG true aA y1]) λ(y2:Int)=>aC (decide (y2<0)) (aR aA (BK9 a0) 0 λ(y3:aU)=>aJ BJ7 (mU [T.sl false (BK9 a1),aG true aA y3]) λ(y4:Int)=>R (pPR (decide (y4<0)))) (R BJ5)) (R BJ5)
abbrev O4:Sh:=[(false,aA.li),(false,aA.li)]
def p9 (x:List aU×List aU):Option T:=AHY x.1 x.2 (pPR (uO x.1 x.2))
noncomputable def tO:List T->Option T:=gS O4 p9
def AAU {a0 a1}:tO [T.sl false (List.map aA.enc a0),T.sl false (List.map aA.enc a1)]=p9 (a0,a1):=bI (s:=O4) rfl (a0,a1) rfl
def AQW:rJ Tryz.prog 313 tO p9 (cC O4) LI:=gZ (a1:=(false,aA.li)) (a2:=(false,aA.li)) (sp:=p9) (F:=LI) (Hs:=AVY) (f:=313) (k:=8) AD6 aY a7 (aO rfl) ⟨_,_,Tryz.func313,rfl⟩ rfl λ_ _ _=>by kernel_rfl
def AOX:aP Tryz.prog 313 tO:=AQW λp q r h hb=>by
 unfold p9 AHY at h;split at h
 ·rename_i e1 e2;obtain ⟨hl,hn,hl2,hn2,rfl⟩:=OH h;have k1:0<p.length:=by rw[show p=_ from e1];simp
  have k2:0<q.length:=by rw[show q=_ from e2];simp
  clear h;unfold LI BK9 BJ8 BJ7 BJ5;refine aF (s:=[(false,.bool)]) (IV hl hn hl2 hn2) ?_;refine fK (λhe=>?_) λhe=>jD (by unfold uO;rw[show wY p q=true from he];rfl);have w:uO p q=(decide (iN p (pt q 0)<0)&&decide (iN q (pt p 0)<0)):=by unfold uO;rw[show wY p q=false from he];rfl
  rw[show (0:Int)=((0:Nat):Int) from rfl,fO k2];refine aF (s:=[(false,.int .i64)]) (xL p (pt q 0)) ?_;refine cA (λh=>?_) λh=>jD (by rw[w,aj (show ¬ iN p (pt q 0)<0 from h)];rfl);rw[fO k1];refine aF (s:=[(false,.int .i64)]) (xL q (pt p 0)) ?_;exact jD (by rw[w,ai (show iN p (pt q 0)<0 from h)];rfl)
 ·cases h
def AAV {p q:List Pt} (k1:0<p.length) (k2:0<q.length) (h:p.length<=1000) (h2:kJ p) (h3:q.length<=1000) (h4:kJ q):tO [T.sl false (List.map aA.enc p),T.sl false (List.map aA.enc q)]=some (Sh.enc [(false,.bool)] (uO p q)):=by
 refine (AAU ..).trans ?_;unfold p9 AHY;cases p with
 | nil=>simp at k1
 | cons a p=>cases q with
  | nil=>simp at k2
  | cons b q=>exact OI _ h h2 h3 h4
def rP {r:Sy} {l:List r.den} (f:Nat->Int) (hl:l.length<=1000000) {Body:(Int×PUnit->Prop)->Int×PUnit->r.den->Prop} {Exit:Prop}
  (hbody:∀ (X:Int×PUnit->Prop) (k:Nat) (hk:k<l.length),(∀ j,j<k->f j=0)->(f k=0->X (((k+1:Nat):Int),()))->(f k≠0->cH f (range l.length)=f k)->Body X ((k:Int),()) l[k]) (hexit:cH f (range l.length)=0->Exit) :
  bB (Int×PUnit) (λ(X:Int×PUnit->Prop) (s:Int×PUnit)=>aC (decide (s.1<((List.map r.enc l).length:Int))) (aR r (List.map r.enc l) s.1 λy=>Body X s y) Exit) (0,()):=by
 refine bK l.length (λk s=>s=((k:Int),())/\cH f (range l.length)=cH f (List.range' k (l.length-k))/\∀ j,j<k->f j=0) ⟨rfl,by rw[List.range_eq_range'];rfl,λj h=>by omega⟩ ?_;rintro X k s hk ⟨rfl,he,hp⟩ hX;dsimp only;refine cA (λhlt=>?_) λhge=>?_
 ·rw[ae] at hlt;have hlt:k<l.length:=by omega
  rw[bD hlt];obtain ⟨m,hm⟩:∃ m,l.length-k=m+1:=⟨l.length-k-1,by omega⟩
  rw[hm,List.range'_succ,cH] at he;refine hbody X k hlt hp (λh0=>?_) λh0=>by rw[he,if_neg h0]
  rw[if_pos h0] at he;exact hX _ hlt ⟨rfl,by rw[he];congr 2;omega,λj hj=>by
   rcases Nat.lt_or_ge j k with h|h
   ·exact hp j h
   ·have:j=k:=by omega
    subst this;exact h0⟩
 ·rw[ae] at hge;have:l.length-k=0:=by omega
  rw[this] at he;exact hexit he
def I0 (s:jL) (i:Nat):Int:=if ¬ kN (s.2.getD i [])=0 then kN (s.2.getD i []) else if 0<=rL (s.2.getD i [])\/r8 (s.2.getD i []) s.1=false then 17 else if ((range i).all λk=>uO (s.2.getD i []) (s.2.getD k []))=false then 17 else 0
def x9 (s:jL):Int:=if 8<s.2.length then 12 else if ¬ kN s.1=0 then kN s.1 else if rL s.1<=0 then 17 else cH (I0 s) (range s.2.length)
def w6 {α:Type} {f:α->Int}:∀ {l:List α},cH f l=0->∀ a∈l,f a=0
 | a::l,h,b,hb=>by
  unfold cH at h;by_cases ha:f a=0
  ·rw[if_pos ha] at h;rcases mem_cons.1 hb with rfl|hb
   ·exact ha
   ·exact w6 h b hb
  ·rw[if_neg ha] at h;exact absurd h ha
 | [],_,b,hb=>by cases hb
def ARA (l:List (List aU)):mY 1 (List.map aA.li.enc l)=true:=by cases l<;>rfl
noncomputable def ASY:Env:=Env.of [(310,.pure gU),(311,.pure mS),(312,.pure pW),(313,.pure tO)]
def AV0:FuncId->Hint:=b6 266 [(9,.inv [.val 26 false (.int .i64)]),(17,.inv [.val 51 false (.int .i64)])] (λ_=>bA)
def AD8:aV Tryz.prog ASY:=.cons B1 (.cons RG (.cons AGE (.cons AOX (.nil _))))
def BKK:T:=pPP 17
def BLL(y0:Int):T:=pPP y0
def BLK(a0:jL):List (List T):=List.map aA.li.enc a0.2
def BL0(a0:jL):List T:=[T.sl false (List.map aA.enc a0.1)]
def LK(a0:jL)(R:T->Prop):Prop:=aC (decide (8<(↑(BLK a0).length:Int))) (R (pPP 12)) (aJ BJ7 (gU (BL0 a0)) λ(y0:Int)=>aC (!decide (y0=0)) (R (BLL y0)) (aJ BJ7 (mS (BL0 a0)) λ(y1:Int)=>aC (decide (y1<=0)) (R BKK) (bB (Int×PUnit) (λX2 s3=>aC (decide (s3.1<(↑(BLK a0).length:Int))) (aR aA.li (BLK a0) s3.1 λ(y4:List aU)=>aJ BJ7 (gU [T.sl false (BK9 y4)]) λ(y5:Int)=>aC (!decide (y5=0)) (R (BLL y5)) (aJ BJ7 (mS [T.sl false (BK9 y4)]) λ(y6:Int)=>aC (decide (0<=y6)) (R BKK) (aJ BJ8 (pW [T.sl false (BK9 y4), T.sl false (List.map aA.enc a0.1)]) λ(y7:Bool)=>aC (!y7) (R BKK) (bR (mY 1 (BLK a0) && (decide (0<=s3.1) && decide (Int.toNat s3.1<=(BLK a0).length)) && true) (bB (Int×PUnit) (λX8 s9=>aC (decide (s9.1 < (↑(List.drop 0 (List.take (Int.toNat s3.1) (BLK a0))).length : Int))) (aR aA.li (List.drop 0 (List.take (Int.toNat s3.1) (BLK a0))) s9.1 λ(y10:List aU)=>aJ BJ8 (tO [T.sl false (BK9 y4), T.sl false (BK9 y10)]) λ(y11:Bool)=>aC (!y11) (R BKK) (BKS X8 s9)) (BKS X2 s3)) (0,())))))) (R BJ9)) (0,()))))
abbrev O6:Sh:=[(true,eK)]
def AA (s:jL):Option T:=some (T.v (Value.int .i64 (x9 s)))
noncomputable def jF:List T->Option T:=gS O6 AA
def AAY {a0}:jF [aG true eK a0]=AA (a0):=bI (s:=O6) rfl (a0) rfl
def AQY:wP Tryz.prog 266 jF AA (cC O6) LK:=jZ (a1:=(true,eK)) (sp:=AA) (F:=LK) (Hs:=AV0) (f:=266) (k:=8) AD8 aY a7 (aO rfl) ⟨_,_,Tryz.func266,rfl⟩ rfl λ_ _=>by kernel_rfl
def RI:aP Tryz.prog 266 jF:=AQY λs r h hb=>by
 cases h;have is:∀ {n:Int},x9 s=n->pPP n=pPP (x9 s):=λh=>by rw[h]
 unfold LK BL0 BLK BK9 BKS BLL BKK BJ9 BJ8 BJ7;refine cA (λh=>is (by rw[ae] at h;unfold x9;rw[if_pos (by omega)])) λh1=>?_;rw[ae] at h1;refine aF (s:=[(false,.int .i64)]) (pK s.1) ?_;refine kX (λh=>is (by unfold x9;rw[if_neg (by omega),if_pos h])) λh2=>?_;refine aF (s:=[(false,.int .i64)]) (xI s.1) ?_;refine cA (λh=>is (by unfold x9;rw[if_neg (by omega),if_neg (by simpa using h2),if_pos h])) λh3=>?_;have w:x9 s=cH (I0 s) (range s.2.length):=by unfold x9;rw[if_neg (by omega),if_neg (by simpa using h2),if_neg h3]
 obtain ⟨ho3,ho32,hoN,_⟩:=uB h2;refine rP (r:=aA.li) (I0 s) (by show s.2.length<=1000000;omega) (λX k hk hprev hok hbad=>?_) λh0=>is (w.trans h0);have hk:k<s.2.length:=hk;have hg:s.2.getD k []=s.2[k]:=by rw[List.getD_eq_getElem?_getD,getElem?_eq_getElem hk];rfl
 have bad:∀ {n:Int},n≠0->I0 s k=n->pPP n=pPP (x9 s):=λhn h=>is (w.trans ((hbad (by rw[h];exact hn)).trans h));have hE:I0 s k=if ¬ kN s.2[k]=0 then kN s.2[k] else if 0<=rL s.2[k]\/r8 s.2[k] s.1=false then 17 else if ((range k).all λj=>uO s.2[k] (s.2.getD j []))=false then 17 else 0:=by unfold I0;rw[hg]
 show aJ [(false,Sy.int IntKind.i64)] (gU [T.sl false (List.map aA.enc s.2[k])]) _;refine aF (s:=[(false,.int .i64)]) (pK s.2[k]) ?_;refine kX (λh=>bad h (by rw[hE,if_pos h])) λp1=>?_;refine aF (s:=[(false,.int .i64)]) (xI s.2[k]) ?_;refine cA (λh=>bad (by decide) (by rw[hE,if_neg (by simpa using p1),if_pos (.inl h)])) λp2=>?_;obtain ⟨hp3,hp32,hpN,_⟩:=uB p1;refine aF (s:=[(false,.bool)]) (VE (by omega) hpN (by omega) hoN) ?_;refine fK (λh=>bad (by decide) (by rw[hE,if_neg (by simpa using p1),if_pos (.inr h)])) λp3=>?_;have hE2:I0 s k=if ((range k).all λj=>uO s.2[k] (s.2.getD j []))=false then 17 else 0:=by
  rw[hE,if_neg (by simpa using p1),if_neg];rintro (h|h)
  ·exact p2 h
  ·rw[show r8 s.2[k] s.1=true from p3] at h;cases h
 refine ⟨by rw[ARA,ae];simp;omega,?_⟩;have htk:List.drop 0 (List.take (Int.toNat (k:Int)) (List.map aA.li.enc s.2))=List.map aA.li.enc (s.2.take k):=by rw[drop_zero,Int.toNat_natCast,List.map_take]
 dsimp only;rw[htk];have ht:(s.2.take k).length=k:=by rw[length_take];omega
 refine bK k (λj s'=>s'=((j:Int),())/\∀ i,i<j->uO s.2[k] (s.2.getD i [])=true) ⟨rfl,λi h=>by omega⟩ ?_;rintro Y j s' hj ⟨rfl,hJ⟩ hY;dsimp only;refine cA (λhlt=>?_) λhge=>?_
 ·rw[ae,ht] at hlt;have hlt:j<k:=by omega
  rw[bD (r:=aA.li) (show j<(s.2.take k).length by omega)];have hgj:s.2.getD j []=s.2[j]:=by rw[List.getD_eq_getElem?_getD,getElem?_eq_getElem (by omega)];rfl
  have hgt:(s.2.take k)[j]'(by omega)=s.2[j]:=by simp
  rw[hgt];have hj0:kN s.2[j]=0:=by
   have h0:=hprev j hlt;unfold I0 at h0;rw[hgj] at h0;refine Classical.byContradiction λhc=>?_;rw[if_pos hc] at h0;exact hc h0
  obtain ⟨hq3,hq32,hqN,_⟩:=uB hj0;refine aF (s:=[(false,.bool)]) (AAV (by omega) (by omega) (by omega) hpN (by omega) hqN) ?_;refine fK (λh=>bad (by decide) ?_) λh=>hY _ hlt ⟨by rw[show i64.wrap ((j:Int)+1)=((j+1:Nat):Int) from bG _ (by omega) (by omega)],λi hi=>by
   rcases Nat.lt_or_ge i j with h3|h3
   ·exact hJ i h3
   ·have:i=j:=by omega
    subst this;rw[hgj];exact h⟩
  rw[hE2,if_pos (UM hlt (by rw[hgj];exact h))]
 ·rw[ae,ht] at hge;have:j=k:=by omega
  subst this;rw[show i64.wrap ((j:Int)+1)=((j+1:Nat):Int) from bG _ (by omega) (by omega)];refine hok ?_;rw[hE2,if_neg];rw[pS.2 hJ];simp
def IU (s:jL):jF [aG true eK s]=some (Sh.enc [(false,.int .i64)] (x9 s)):=AAY ..
noncomputable def ASZ:Env:=Env.of []
def AV1:FuncId->Hint:=λ_=>bA
def AD9:aV Tryz.prog ASZ:=.nil _
def LL(a0:jL)(R:T->Prop):Prop:=aC (BLK a0).isEmpty (R (T.sl false [(BL0 a0)])) (bR (eQ 1 (BLK a0) && decide ((1+(BLK a0).length)*24<=140737488355328) && decide (1+(BLK a0).length<=140737488355328)) (R (T.sl false ((BL0 a0) :: (BLK a0)))))
abbrev O7:Sh:=[(true,eK)]
abbrev A1N:Sh:=[(false,aA.li.li)]
def qA (s:jL):Option T:=match decide (s.2.length<=1000) with
 | true=>some (Sh.enc A1N (s.1::s.2))
 | false=>none
noncomputable def xM:List T->Option T:=gS O7 qA
def AAZ {a0}:xM [aG true eK a0]=qA (a0):=bI (s:=O7) rfl (a0) rfl
def AQZ:wP Tryz.prog 321 xM qA (cC O7) LL:=jZ (a1:=(true,eK)) (sp:=qA) (F:=LL) (Hs:=AV1) (f:=321) (k:=8) AD9 aY a7 (aO rfl) ⟨_,_,Tryz.func321,rfl⟩ rfl λ_ _=>by kernel_rfl
def AOZ:aP Tryz.prog 321 xM:=AQZ λs r h hb=>by
 unfold qA at h;split at h
 ·rename_i hc;have hc:s.2.length<=1000:=of_decide_eq_true hc;cases h;obtain ⟨o,hs⟩:=s;unfold LL BL0 BLK;cases hs with
  | nil=>exact (rfl:T.sl false [[T.sl false (List.map aA.enc o)]]=_)
  | cons a l =>
   show bR _ _;refine ⟨?_,rfl⟩;simp only[ac,ah,ae];have hc:(a::l).length<=1000:=hc;exact ⟨⟨sR (.li aA) (a::l),by omega⟩,by omega⟩
 ·cases h
def BIQ (l:List (List Pt)):Int:=AN l.length λi=>rL (l.getD i [])
def ACQ (s:jL):Int:=if x9 s=0 then BIQ (s.1::s.2) else 0
def Y6 (p:List Pt):-68719476736<=rL p/\rL p<=68719476736:=by
 unfold rL;by_cases h:kN p=0
 ·rw[if_pos h];obtain ⟨_,h2,h3,_⟩:=uB h;have:=JV h3 p.length;unfold L7;omega
 ·rw[if_neg h];omega
def ALK (l:List (List Pt)):∀ n:Nat,-(68719476736*(n:Int))<=AN n (λi=>rL (l.getD i []))/\AN n (λi=>rL (l.getD i []))<=68719476736*(n:Int)
 | 0=>by simp[AN]
 | n+1=>by
  have ih:=ALK l n;have hb:=Y6 (l.getD n []);unfold AN;constructor<;>push_cast<;>omega
noncomputable def ASX:Env:=Env.of [(266,.pure jF),(321,.pure xM),(311,.pure mS)]
def AVZ:FuncId->Hint:=b6 271 [(5,.inv [.val 3 false (.int .i64),.val 12 false (.int .i64)])] (λ_=>bA)
def AD7:aV Tryz.prog ASX:=.cons RI (.cons AOZ (.cons RG (.nil _)))
def LJ(a0:jL)(R:T->Prop):Prop:=aJ BJ7 (jF [aG true eK a0]) λ(y0:Int)=>aC (!decide (y0=0)) (R BJ9) (aJ [(false,aA.li.li)] (xM [aG true eK a0]) λ(y1:List (List aU))=>bB (Int×Int×PUnit) (λX2 s3=>aC (decide (s3.2.1<(↑(List.map aA.li.enc y1).length:Int))) (aR aA.li (List.map aA.li.enc y1) s3.2.1 λ(y4:List aU)=>aJ BJ7 (mS [T.sl false (BK9 y4)]) λ(y5:Int)=>X2 (i64.wrap (s3.1+y5),i64.wrap (s3.2.1+1),())) (R (pPP s3.1))) (0,0,()))
abbrev O5:Sh:=[(true,eK)]
def z8 (s:jL):Option T:=some (T.v (Value.int .i64 (ACQ s)))
noncomputable def tP:List T->Option T:=gS O5 z8
def AAW {a0}:tP [aG true eK a0]=z8 (a0):=bI (s:=O5) rfl (a0) rfl
def AQX:wP Tryz.prog 271 tP z8 (cC O5) LJ:=jZ (a1:=(true,eK)) (sp:=z8) (F:=LJ) (Hs:=AVZ) (f:=271) (k:=8) AD7 aY a7 (aO rfl) ⟨_,_,Tryz.func271,rfl⟩ rfl λ_ _=>by kernel_rfl
def AOY:aP Tryz.prog 271 tP:=AQX λs r h hb=>by
 cases h;have is:∀ {n:Int},ACQ s=n->pPP n=pPP (ACQ s):=λh=>by rw[h]
 unfold LJ BK9 BJ9 BJ7;refine aF (s:=[(false,.int .i64)]) (IU s) ?_;refine kX (λh=>is (by unfold ACQ;rw[if_neg h])) λh=>?_;have h8:s.2.length<=8:=by
  refine Classical.byContradiction λhc=>?_;unfold x9 at h;rw[if_pos (by omega)] at h;cases h
 refine aF (s:=[(false,.li (.li aA))]) (y:=(s.1::s.2:List (List aU))) ((AAZ ..).trans (by unfold qA;rw[ai (by omega)])) ?_;have w:ACQ s=BIQ (s.1::s.2):=by unfold ACQ;rw[if_pos h]
 have hlen:(s.1::s.2).length<=9:=by simp;omega
 generalize s.1::s.2=l at w hlen;refine bK l.length (λk t=>t=(AN k (λi=>rL (l.getD i [])),(k:Int),())) rfl ?_;rintro X k t hk rfl hX;dsimp only;refine cA (λhlt=>?_) λhge=>is (by rw[ae] at hge;rw[w,show k=l.length by omega];rfl);rw[ae] at hlt;have hlt:k<l.length:=by omega
 rw[bD (r:=aA.li) hlt];have hg:l.getD k []=l[k]:=by rw[List.getD_eq_getElem?_getD,getElem?_eq_getElem hlt];rfl
 refine aF (s:=[(false,.int .i64)]) (xI l[k]) ?_;refine hX _ hlt ?_;have b1:=ALK l k;have b2:=Y6 l[k];rw[show i64.wrap ((k:Int)+1)=((k+1:Nat):Int) from bG _ (by omega) (by omega),bG _ (by omega) (by omega),AN,hg]
def AAX (s:jL):tP [aG true eK s]=some (Sh.enc [(false,.int .i64)] (ACQ s)):=AAW ..
noncomputable def AMJ:Env:=Env.of []
def ANI:FuncId->Hint:=b6 314 [(2,.AJK 4)] (λ_=>bA)
def YG:aV Tryz.prog AMJ:=.nil _
def FW(a0:ANJ)(a1:Int)(R:T->Prop):Prop:=aC (decide (a0.1<i64.wrap (0-a1))) (R BJ5) (aC (decide (a1<a0.1)) (R BJ5) (aC (decide (a0.2.1<i64.wrap (0-a1))) (R BJ5) (aC (decide (a1<a0.2.1)) (R BJ5) (aC (decide (a0.2.2<i64.wrap (0-a1))) (R BJ5) (aC (decide (a1<a0.2.2)) (R BJ5) (R BKA))))))
abbrev HT:Sh:=[(true,AR2),(false,(Sy.int IntKind.i64))]
def BA (v:ANJ):Bool:=decide (-524288<=v.1)&&decide (v.1<=524288)&&(decide (-524288<=v.2.1)&&decide (v.2.1<=524288))&&(decide (-524288<=v.2.2)&&decide (v.2.2<=524288))
def qV (x:ANJ×Int):Option T:=match decide (x.2=524288) with
 | true=>some (pPR (BA x.1))
 | false=>none
noncomputable def tU:List T->Option T:=gS HT qV
def VH {a0 a1}:tU [aG true AR2 a0,pPP a1]=qV (a0,a1):=bI (s:=HT) rfl (a0,a1) rfl
def AHX:rJ Tryz.prog 314 tU qV (cC HT) FW:=gZ (a1:=(true,AR2)) (a2:=(false,(Sy.int IntKind.i64))) (sp:=qV) (F:=FW) (Hs:=ANI) (f:=314) (k:=8) YG aY a7 (aO rfl) ⟨_,_,Tryz.func314,rfl⟩ rfl λ_ _ _=>by kernel_rfl
def AGG:aP Tryz.prog 314 tU:=AHX λv n r h hb=>by
 unfold qV at h;split at h
 ·rename_i hn;have hn:n=524288:=of_decide_eq_true hn;subst hn;cases h;unfold FW BKA BJ5;rw[show i64.wrap (0-524288) = -524288 from rfl];have no:∀ {P:Prop},(¬ (-524288<=v.1/\v.1<=524288∧-524288<=v.2.1/\v.2.1<=524288∧-524288<=v.2.2/\v.2.2<=524288))->pPR false=pPR (BA v):=λh=>jD (Eq.symm (by
   rw[Bool.eq_false_iff];intro h2;simp only[BA,ac,ah] at h2;omega))
  refine cA (λh=>no (P:=True) (by omega)) λh1=>cA (λh=>no (P:=True) (by omega)) λh2=>cA (λh=>no (P:=True) (by omega)) λh3=>cA (λh=>no (P:=True) (by omega)) λh4=>cA (λh=>no (P:=True) (by omega)) λh5=>cA (λh=>no (P:=True) (by omega)) λh6=>jD ?_;simp only[BA];rw[ai (by omega),ai (by omega),ai (by omega),ai (by omega),ai (by omega),ai (by omega)];rfl
 ·cases h
def AHM (t:Int):Int:=if t<0\/24<=t then 0 else t
noncomputable def AMI:Env:=Env.of []
def ANH:FuncId->Hint:=λ_=>bA
def YF:aV Tryz.prog AMI:=.nil _
def FV(a0:Int)(R:T->Prop):Prop:=aC (decide (a0<0)) (R BJ9) (aC (decide (24<=a0)) (R BJ9) (R (BLL a0)))
abbrev HS:Sh:=[(false,(Sy.int IntKind.i64))]
def vU (t:Int):Option T:=some (T.v (Value.int .i64 (AHM t)))
noncomputable def tT:List T->Option T:=gS HS vU
def VG {a0}:tT [pPP a0]=vU (a0):=bI (s:=HS) rfl (a0) rfl
def AHW:wP Tryz.prog 315 tT vU (cC HS) FV:=jZ (a1:=(false,(Sy.int IntKind.i64))) (sp:=vU) (F:=FV) (Hs:=ANH) (f:=315) (k:=8) YF aY a7 (aO rfl) ⟨_,_,Tryz.func315,rfl⟩ rfl λ_ _=>by kernel_rfl
def AGF:aP Tryz.prog 315 tT:=AHW λt r h hb=>by
 cases h;unfold FV BLL BJ9;exact cA (λh=>JM (by unfold AHM;rw[if_pos (.inl h)])) λh1=>cA (λh=>JM (by unfold AHM;rw[if_pos (.inr h)])) λh2=>JM (by unfold AHM;rw[if_neg (by omega)])
def sL (p:BL):Bool:=BA p.1&&decide (p.2=AHM p.2)
noncomputable def ATA:Env:=Env.of [(314,.pure tU),(315,.pure tT)]
def AV8:FuncId->Hint:=λ_=>bA
def AEH:aV Tryz.prog ATA:=.cons AGG (.cons AGF (.nil _))
def LU(a0:BL)(R:T->Prop):Prop:=aJ BJ8 (tU [aG true AR2 a0.1,pPP 524288]) λ(y0:Bool)=>aC y0 (aJ BJ7 (tT [pPP a0.2]) λ(y1:Int)=>R (pPR (decide (a0.2=y1)))) (R BJ5)
abbrev PD:Sh:=[(true,fC)]
def AF (p:BL):Option T:=some (pPR (sL p))
noncomputable def cJ:List T->Option T:=gS PD AF
def IY {a0}:cJ [aG true fC a0]=AF (a0):=bI (s:=PD) rfl (a0) rfl
def AQ7:wP Tryz.prog 268 cJ AF (cC PD) LU:=jZ (a1:=(true,fC)) (sp:=AF) (F:=LU) (Hs:=AV8) (f:=268) (k:=8) AEH aY a7 (aO rfl) ⟨_,_,Tryz.func268,rfl⟩ rfl λ_ _=>by kernel_rfl
def AO6:aP Tryz.prog 268 cJ:=AQ7 λp r h hb=>by
 cases h;unfold LU BJ8 BJ7 BJ5;refine aF (s:=[(false,.bool)]) (y:=BA p.1) (VH ..) ?_;refine vA (λh=>?_) λh=>jD (by unfold sL;rw[h];rfl);refine aF (s:=[(false,.int .i64)]) (y:=AHM p.2) (VG ..) ?_;exact jD (by unfold sL;rw[h];rfl)
def GP (l:List Int) (i:Nat):Int:=if ¬ (1<=l.getD i 0/\l.getD i 0<=120) then 9 else if 0<i/\l.getD i 0<=l.getD (i-1) 0 then 11 else 0
def jM (g:fY):Int:=if isName g.1=false then 6 else if ¬ (1000<=g.2.1/\g.2.1<=20000/\100<=g.2.2.1/\g.2.2.1<=1500) then 9 else if g.2.2.2.length=0 then 3 else if 16<g.2.2.2.length then 4 else cH (GP g.2.2.2) (range g.2.2.2.length)
def JP (s:cL):Int:=if isName s.1=false then 6 else if ¬ (1<=s.2.1/\s.2.1<=1000000/\1<=s.2.2.1/\s.2.2.1<=2000/\100<=s.2.2.2/\s.2.2.2<=32768) then 9 else 0
def I1 (s:iII) (K:Bool->Prop):aJ [(false,Sy.bool)] (iH [pPQ s]) K=K (isName s):=by
 rw[show iH [pPQ s]=uF s from xE];exact QS _ K
noncomputable def ASN:Env:=Env.of [(85,.pure iH)]
def AVQ:FuncId->Hint:=b6 116 [(10,.inv [.val 34 false (.int .i64)])] (λ_=>bA)
def ADY:aV Tryz.prog ASN:=.cons yV (.nil _)
def BJ6:T:=pPP 9
def BKC:Sy:=Sy.int IntKind.i64
def BKH:T:=pPP 6
def BKI:T:=pPP 11
def BLW(a0:fY):List (List T):=List.map BKC.enc a0.2.2.2
def K8(a0:fY)(R:T->Prop):Prop:=aJ BJ8 (iH [pPQ a0.1]) λ(y0:Bool)=>aC (!y0) (R BKH) (aC (decide (1000<=a0.2.1)) (aC (!decide (a0.2.1<=20000)) (R BJ6) (aC (decide (100<=a0.2.2.1)) (aC (!decide (a0.2.2.1<=1500)) (R BJ6) (aC (decide ((↑(BLW a0).length:Int)=0)) (R (pPP 3)) (aC (decide (16<(↑(BLW a0).length:Int))) (R (pPP 4)) (bB (Int×PUnit) (λX1 s2=>aC (decide (s2.1<(↑(BLW a0).length:Int))) (aR BKC (BLW a0) s2.1 λ(y3:Int)=>aC (decide (1<=y3)) (aC (!decide (y3<=120)) (R BJ6) (aC (decide (0<s2.1)) (aR BKC (BLW a0) (i64.wrap (s2.1-1)) λ(y4:Int)=>aC (decide (y3<=y4)) (R BKI) (BKS X1 s2)) (BKS X1 s2))) (R BJ6)) (R BJ9)) (0,()))))) (R BJ6))) (R BJ6))
abbrev OW:Sh:=[(true,dI)]
def zU (g:fY):Option T:=some (T.v (Value.int .i64 (jM g)))
noncomputable def xH:List T->Option T:=gS OW zU
def AAL {a0}:xH [aG true dI a0]=zU (a0):=bI (s:=OW) rfl (a0) rfl
def AQO:wP Tryz.prog 116 xH zU (cC OW) K8:=jZ (a1:=(true,dI)) (sp:=zU) (F:=K8) (Hs:=AVQ) (f:=116) (k:=8) ADY aY a7 (aO rfl) ⟨_,_,Tryz.func116,rfl⟩ rfl λ_ _=>by kernel_rfl
def u7 {l:List α} {i:Nat} {d:α} (h:i<l.length):l.getD i d=l[i]:=by rw[List.getD_eq_getElem?_getD,getElem?_eq_getElem h];rfl
def V1 {r:Sy} {l:List r.den} {k:Nat} (hk:k<l.length) (h0:0<k) (hl:l.length<=1000000) (K:r.den->Prop):aR r (List.map r.enc l) (i64.wrap ((k:Int)-1)) K=K (l[k-1]'(by omega)):=by
 rw[show i64.wrap ((k:Int)-1)=((k-1:Nat):Int) by rw[bG _ (by omega) (by omega)];omega];exact bD (by omega) K
def OB {k:Nat} (h:k<1000000):i64.wrap ((k:Int)+1)=((k+1:Nat):Int):=bG _ (by omega) (by omega)
def AOS:aP Tryz.prog 116 xH:=AQO λg r h hb=>by
 cases h;have is:∀ {n:Int},jM g=n->pPP n=pPP (jM g):=λh=>by rw[h]
 unfold K8 BLW BKS BKI BKH BKC BJ9 BJ8 BJ6;rw[I1];refine fK (λh=>is (by unfold jM;rw[if_pos h])) λhn=>?_;have hn':¬ isName g.1=false:=by rw[hn];simp
 have r9:¬ (1000<=g.2.1/\g.2.1<=20000/\100<=g.2.2.1/\g.2.2.1<=1500)->pPP 9=pPP (jM g):=λh=>is (by unfold jM;rw[if_neg hn',if_pos h]);refine cA (λh1=>kX (λh=>r9 (by omega)) λh2=>cA (λh3=>kX (λh=>r9 (by omega)) λh4=>?_) λh=>r9 (by omega)) λh=>r9 (by omega);have hr:¬ ¬ (1000<=g.2.1/\g.2.1<=20000/\100<=g.2.2.1/\g.2.2.1<=1500):=by omega
 refine cA (λh=>is (by rw[ae] at h;unfold jM;rw[if_neg hn',if_neg hr,if_pos (by omega)])) λh5=>?_;refine cA (λh=>is (by rw[ae] at h h5;unfold jM;rw[if_neg hn',if_neg hr,if_neg (by omega),if_pos (by omega)])) λh6=>?_;rw[ae] at h5 h6;have w:jM g=cH (GP g.2.2.2) (range g.2.2.2.length):=by unfold jM;rw[if_neg hn',if_neg hr,if_neg (by omega),if_neg (by omega)]
 refine rP (r:=.int .i64) (GP g.2.2.2) (by omega) (λX k hk hprev hok hbad=>?_) λh0=>is (w.trans h0);have hk:k<g.2.2.2.length:=hk;have bad:∀ {n:Int},n≠0->GP g.2.2.2 k=n->pPP n=pPP (jM g):=λhn h=>is (w.trans ((hbad (by rw[h];exact hn)).trans h));have hE:GP g.2.2.2 k=if ¬ (1<=g.2.2.2[k]/\g.2.2.2[k]<=120) then 9 else if 0<k/\g.2.2.2[k]<=g.2.2.2.getD (k-1) 0 then 11 else 0:=by unfold GP;rw[u7 hk]
 dsimp only;rw[OB (by omega)];refine cA (λp1=>kX (λh=>bad (by decide) (by rw[hE,if_pos (by omega)])) λp2=>?_) λh=>bad (by decide) (by rw[hE,if_pos (by omega)]);refine cA (λp3=>?_) λp3=>hok (by rw[hE,if_neg (by omega),if_neg (by omega)]);have k0:0<k:=by omega
 rw[V1 (r:=.int .i64) hk k0 (by omega)];have hg1:g.2.2.2.getD (k-1) 0=g.2.2.2[k-1]'(by omega):=u7 (by omega);exact cA (λh=>bad (by decide) (by rw[hE,if_neg (by omega),hg1,if_pos ⟨k0,h⟩])) λh=>hok (by rw[hE,if_neg (by omega),hg1,if_neg (λhc=>h hc.2)])
noncomputable def ADM:Env:=Env.of [(85,.pure iH)]
def AE8:FuncId->Hint:=λ_=>bA
def TW:aV Tryz.prog ADM:=.cons yV (.nil _)
def BI(a0:cL)(R:T->Prop):Prop:=aJ BJ8 (iH [pPQ a0.1]) λ(y0:Bool)=>aC (!y0) (R BKH) (aC (decide (1<=a0.2.1)) (aC (!decide (a0.2.1<=1000000)) (R BJ6) (aC (decide (1<=a0.2.2.1)) (aC (!decide (a0.2.2.1<=2000)) (R BJ6) (aC (decide (100<=a0.2.2.2)) (aC (!decide (a0.2.2.2<=32768)) (R BJ6) (R BJ9)) (R BJ6))) (R BJ6))) (R BJ6))
abbrev CL:Sh:=[(true,bW)]
def rZ (s:cL):Option T:=some (T.v (Value.int .i64 (JP s)))
noncomputable def qK:List T->Option T:=gS CL rZ
def QI {a0}:qK [aG true bW a0]=rZ (a0):=bI (s:=CL) rfl (a0) rfl
def ACA:wP Tryz.prog 117 qK rZ (cC CL) BI:=jZ (a1:=(true,bW)) (sp:=rZ) (F:=BI) (Hs:=AE8) (f:=117) (k:=8) TW aY a7 (aO rfl) ⟨_,_,Tryz.func117,rfl⟩ rfl λ_ _=>by kernel_rfl
def Z0:aP Tryz.prog 117 qK:=ACA λs r h hb=>by
 cases h;have is:∀ {n:Int},JP s=n->pPP n=pPP (JP s):=λh=>by rw[h]
 unfold BI BKH BJ9 BJ8 BJ6;rw[I1];refine fK (λh=>is (by unfold JP;rw[if_pos h])) λhn=>?_;have hn':¬ isName s.1=false:=by rw[hn];simp
 have r9:¬ (1<=s.2.1/\s.2.1<=1000000/\1<=s.2.2.1/\s.2.2.1<=2000/\100<=s.2.2.2/\s.2.2.2<=32768)->pPP 9=pPP (JP s):=λh=>is (by unfold JP;rw[if_neg hn',if_pos h]);refine cA (λh1=>kX (λh=>r9 (by omega)) λh2=>cA (λh3=>kX (λh=>r9 (by omega)) λh4=>cA (λh5=>kX (λh=>r9 (by omega)) λh6=>is ?_) λh=>r9 (by omega)) λh=>r9 (by omega)) λh=>r9 (by omega);unfold JP;rw[if_neg hn',if_neg (by omega)]
def kG:fY:=(⟨#[]⟩,0,0,[])
def SX (a b:iII):Bool:=cD a b||decide (a=b)
def xS (m:aI) (i:Nat):Int:=if ¬ jM (m.1.getD i kG)=0 then jM (m.1.getD i kG) else if 0<i/\SX (m.1.getD i kG).1 (m.1.getD (i-1) kG).1=true then 11 else 0
def ARR (m:aI) (i:Nat):Int:=if ¬ JP (m.2.getD i A7)=0 then JP (m.2.getD i A7) else if 0<i/\SX (m.2.getD i A7).1 (m.2.getD (i-1) A7).1=true then 11 else 0
def AM (m:aI):Int:=if 16<m.1.length\/32<m.2.length then 4 else if ¬ cH (xS m) (range m.1.length)=0 then cH (xS m) (range m.1.length) else cH (ARR m) (range m.2.length)
noncomputable def ASM:Env:=Env.of [(116,.pure xH),(117,.pure qK)]
def AVP:FuncId->Hint:=b6 84 [(4,.inv [.val 22 false (.int .i64)]),(13,.inv [.val 50 false (.int .i64)])] (λ_=>bA)
def ADX:aV Tryz.prog ASM:=.cons AOS (.cons Z0 (.nil _))
def BL1(a0:aI):List (List T):=List.map dI.enc a0.1
def K6(a0:aI)(R:T->Prop):Prop:=aC (decide (16<(↑(BL1 a0).length:Int))) (R (pPP 4)) (aC (decide (32<(↑(List.map bW.enc a0.2).length:Int))) (R (pPP 4)) (bB (Int×PUnit) (λX0 s1=>aC (decide (s1.1<(↑(BL1 a0).length:Int))) (aR dI (BL1 a0) s1.1 λ(y2:fY)=>aJ BJ7 (xH [aG true dI y2]) λ(y3:Int)=>aC (!decide (y3=0)) (R (BLL y3)) (aC (decide (0<s1.1)) (aR dI (BL1 a0) (i64.wrap (s1.1-1)) λ(y4:fY)=>aC (cD y2.1 y4.1||decide (y2.1=y4.1)) (R BKI) (BKS X0 s1)) (BKS X0 s1))) (bB (Int×PUnit) (λX5 s6=>aC (decide (s6.1<(↑(List.map bW.enc a0.2).length:Int))) (aR bW (List.map bW.enc a0.2) s6.1 λ(y7:cL)=>aJ BJ7 (qK [aG true bW y7]) λ(y8:Int)=>aC (!decide (y8=0)) (R (BLL y8)) (aC (decide (0<s6.1)) (aR bW (List.map bW.enc a0.2) (i64.wrap (s6.1-1)) λ(y9:cL)=>aC (cD y7.1 y9.1||decide (y7.1=y9.1)) (R BKI) (BKS X5 s6)) (BKS X5 s6))) (R BJ9)) (0,()))) (0,())))
abbrev OV:Sh:=[(true,aM)]
def zT (m:aI):Option T:=some (T.v (Value.int .i64 (AM m)))
noncomputable def xG:List T->Option T:=gS OV zT
def AAK {a0}:xG [aG true aM a0]=zT (a0):=bI (s:=OV) rfl (a0) rfl
def AQN:wP Tryz.prog 84 xG zT (cC OV) K6:=jZ (a1:=(true,aM)) (sp:=zT) (F:=K6) (Hs:=AVP) (f:=84) (k:=8) ADX aY a7 (aO rfl) ⟨_,_,Tryz.func84,rfl⟩ rfl λ_ _=>by kernel_rfl
def AOR:aP Tryz.prog 84 xG:=AQN λm r h hb=>by
 cases h;have is:∀ {n:Int},AM m=n->pPP n=pPP (AM m):=λh=>by rw[h]
 unfold K6 BL1 BKS BLL BKI BJ9 BJ7;refine cA (λh=>is (by rw[ae] at h;unfold AM;rw[if_pos (by omega)])) λh1=>?_;refine cA (λh=>is (by rw[ae] at h;unfold AM;rw[if_pos (by omega)])) λh2=>?_;rw[ae] at h1 h2;refine rP (r:=dI) (xS m) (by show m.1.length<=1000000;omega) (λX k hk hprev hok hbad=>?_) λh0=>?_
 ·have hk:k<m.1.length:=hk;have bad:∀ {n:Int},n≠0->xS m k=n->pPP n=pPP (AM m):=λhn h=>is (by
   have hb:=(hbad (by rw[h];exact hn)).trans h;unfold AM;rw[if_neg (by omega),if_pos (by rw[hb];exact hn),hb])
  have hE:xS m k=if ¬ jM m.1[k]=0 then jM m.1[k] else if 0<k/\SX m.1[k].1 (m.1.getD (k-1) kG).1=true then 11 else 0:=by unfold xS;rw[u7 hk]
  dsimp only;rw[OB (by omega)];refine aF (s:=[(false,.int .i64)]) (y:=jM m.1[k]) (AAL ..) ?_;refine kX (λh=>bad h (by rw[hE,if_pos h])) λp1=>?_;refine cA (λp3=>?_) λp3=>hok (by rw[hE,if_neg (λh=>h p1),if_neg (by omega)]);have k0:0<k:=by omega
  rw[V1 (r:=dI) hk k0 (by show m.1.length<=1000000;omega)];have hg1:m.1.getD (k-1) kG=m.1[k-1]'(by omega):=u7 (by omega);exact vA (λh=>bad (by decide) (by rw[hE,if_neg (λh=>h p1),hg1,if_pos ⟨k0,h⟩])) λh=>hok (by rw[hE,if_neg (λh=>h p1),hg1,if_neg (λhc=>by rw[show SX m.1[k].1 (m.1[k-1]'(by omega)).1=false from h] at hc;cases hc.2)])
 ·have w:AM m=cH (ARR m) (range m.2.length):=by unfold AM;rw[if_neg (by omega),if_neg (λh=>h h0)]
  refine rP (r:=bW) (ARR m) (by show m.2.length<=1000000;omega) (λX k hk hprev hok hbad=>?_) λh0=>is (w.trans h0);have hk:k<m.2.length:=hk;have bad:∀ {n:Int},n≠0->ARR m k=n->pPP n=pPP (AM m):=λhn h=>is (w.trans ((hbad (by rw[h];exact hn)).trans h));have hE:ARR m k=if ¬ JP m.2[k]=0 then JP m.2[k] else if 0<k/\SX m.2[k].1 (m.2.getD (k-1) A7).1=true then 11 else 0:=by unfold ARR;rw[u7 hk]
  dsimp only;rw[OB (by omega)];refine aF (s:=[(false,.int .i64)]) (y:=JP m.2[k]) (QI ..) ?_;refine kX (λh=>bad h (by rw[hE,if_pos h])) λp1=>?_;refine cA (λp3=>?_) λp3=>hok (by rw[hE,if_neg (λh=>h p1),if_neg (by omega)]);have k0:0<k:=by omega
  rw[V1 (r:=bW) hk k0 (by show m.2.length<=1000000;omega)];have hg1:m.2.getD (k-1) A7=m.2[k-1]'(by omega):=u7 (by omega);exact vA (λh=>bad (by decide) (by rw[hE,if_neg (λh=>h p1),hg1,if_pos ⟨k0,h⟩])) λh=>hok (by rw[hE,if_neg (λh=>h p1),hg1,if_neg (λhc=>by rw[show SX m.2[k].1 (m.2[k-1]'(by omega)).1=false from h] at hc;cases hc.2)])
def gJ (m:aI) (n:iII):Option fY:=m.1.find? λg=>decide (g.1=n)
def okM (m:aI):Bool:=decide (m.1.length<=1000)&&decide (m.2.length<=1000)&&m.1.all λg=>decide (g.2.2.2.length<=1000)
def EO (m:aI) (r:α):Option α:=match okM m with
 | true=>some r
 | false=>none
variable {m:aI}
def x5 {t r:α} (h:EO m t=some r):okM m=true/\r=t:=by
 unfold EO at h;split at h
 ·rename_i hc;cases h;exact ⟨hc,rfl⟩
 ·cases h
def x6 (t:α) (h:okM m=true):EO m t=some t:=by unfold EO;rw[h]
def ANY:TR Tryz.prog 318 1 8:=⟨λR=>by kernel_rfl,λfl R=>by kernel_rfl,λfl a rows R=>by kernel_rfl⟩
noncomputable def DG:List T->Option T:=gS [(false,.li (.int .i64))] (fA (.int .i64) 8)
def AAB {u0}:DG [T.sl false (List.map (Sy.enc (.int .i64)) u0)]=fA (.int .i64) 8 u0:=bI (s:=[(false,.li (.int .i64))]) rfl u0 rfl
def AON:aP Tryz.prog 318 DG:=F3 aY a7 ⟨_,_,Tryz.func318,rfl⟩ ANY
noncomputable def ASL:Env:=Env.of [(318,.pure DG)]
def AVO:FuncId->Hint:=b6 316 [(2,.inv [.val 8 false (.int .i64)])] (λ_=>bA)
def ADW:aV Tryz.prog ASL:=.cons AON (.nil _)
def BKG:List T:=[T.agg [pPQ ({data:=#[]}),pPP 0, pPP 0,T.sl false []], pPR false]
def K4(a0:aI)(a1:iII)(R:T->Prop):Prop:=bB (Int×PUnit) (λX0 s1=>aC (decide (s1.1<(↑(BL1 a0).length:Int))) (aR dI (BL1 a0) s1.1 λ(y2:fY)=>aC (decide (y2.1=a1)) (aC (decide (s1.1<0)) (R (T.b7 BKG)) (aR dI (BL1 a0) s1.1 λ(y3:fY)=>aJ [(false,BKC.li)] (DG [T.sl false (BLW y3)]) λ(y4:List Int)=>R (T.b7 [T.agg [pPQ y3.1,pPP y3.2.1, pPP y3.2.2.1, T.sl false (List.map BKC.enc y4)], pPR true]))) (BKS X0 s1)) (R (T.b7 BKG))) (0,())
abbrev OU:Sh:=[(true,aM),(false,Sy.str)]
def zS (x:aI×iII):Option T:=EO x.1 (Sh.enc [(true,dI),(false,.bool)] (found kG (gJ x.1 x.2)))
noncomputable def gE:List T->Option T:=gS OU zS
def AAJ {a0 a1}:gE [aG true aM a0,pPQ a1]=zS (a0,a1):=bI (s:=OU) rfl (a0,a1) rfl
def AQM:rJ Tryz.prog 269 gE zS (cC OU) K4:=gZ (a1:=(true,aM)) (a2:=(false,Sy.str)) (sp:=zS) (F:=K4) (Hs:=AVO) (f:=269) (k:=8) ADW aY a7 (aO rfl) ⟨_,_,Tryz.func269,rfl⟩ rfl λ_ _ _=>by kernel_rfl
def GC:aP Tryz.prog 269 gE:=AQM λm n r h hb=>by
 obtain ⟨hok,rfl⟩:=x5 h;clear h;simp only[okM,ac,ah] at hok;unfold K4 BL1 BLW BKS BKG BKC;refine bK m.1.length (λk s=>s=((k:Int),())/\(m.1.drop k).find? (λs=>decide (s.1=n))=gJ m n) ⟨rfl,rfl⟩ ?_;rintro X k s hk ⟨rfl,hf⟩ hX;dsimp only;refine cA (λhlt=>?_) λhge=>?_
 ·rw[ae] at hlt;have hlt:k<m.1.length:=by omega
  rw[nQ hlt] at hf;rw[bD (r:=dI) hlt];refine cA (λhc=>?_) λhc=>?_
  ·rw[if_pos (ai hc)] at hf;refine cA (λh=>by omega) λ_=>?_;rw[bD (r:=dI) hlt];have hg:m.1[k].2.2.2.length<=1000:=by
    have:=all_eq_true.1 hok.2 _ (ak hlt);exact of_decide_eq_true this
   refine aF (s:=[(false,.li (.int .i64))]) (y:=m.1[k].2.2.2) ?_ ?_
   ·rw[AAB];unfold fA pQ;rw[show (decide (m.1[k].2.2.2.length*8<=140737488355328)&&decide (m.1[k].2.2.2.length<=140737488355328))=true by simp only[ac,ah];omega];rfl
   ·show _=Sh.enc [(true,dI),(false,.bool)] (found kG (gJ m n));rw[<-hf];rfl
  ·rw[if_neg (by simpa using hc)] at hf;exact hX _ hlt ⟨by rw[OB (by omega)],hf⟩
 ·rw[ae] at hge;have:k=m.1.length:=by omega
  subst this;rw[drop_length] at hf;show _=Sh.enc [(true,dI),(false,.bool)] (found kG (gJ m n));rw[<-hf];rfl
def vL (m:aI) (n:iII) (t:Int):Bool:=match gJ m n with
 | some g=>g.2.2.2.any λx=>decide (t=x)
 | none=>false
noncomputable def AMB:Env:=Env.of [(269,.pure gE)]
def AM9:FuncId->Hint:=b6 354 [(2,.inv [.val 8 false (.int .i64)])] (λ_=>bA)
def XY:aV Tryz.prog AMB:=.cons GC (.nil _)
def BKE:Sh:=[(true,dI),(false,Sy.bool)]
def BLM(s2:Int×PUnit):T:=pPR (decide (0<=s2.1))
def FN(a0:aI)(a1:iII)(a2:Int)(R:T->Prop):Prop:=aJ BKE (gE [aG true aM a0,pPQ a1]) λ(y0:fY×Bool)=>aC y0.2 (bB (Int×PUnit) (λX1 s2=>aC (decide (s2.1<(↑(List.map BKC.enc y0.1.2.2.2).length:Int))) (aR BKC (List.map BKC.enc y0.1.2.2.2) s2.1 λ(y3:Int)=>aC (decide (a2=y3)) (R (BLM s2)) (BKS X1 s2)) (R BJ5)) (0,())) (R BJ5)
abbrev HL:Sh:=[(true,aM),(false,Sy.str),(false,(Sy.int IntKind.i64))]
def vO (x:aI×iII×Int):Option T:=EO x.1 (pPR (vL x.1 x.2.1 x.2.2))
noncomputable def kE:List T->Option T:=gS HL vO
def U7 {a0 a1 a2}:kE [aG true aM a0,pPQ a1,pPP a2]=vO (a0,a1,a2):=bI (s:=HL) rfl (a0,a1,a2) rfl
def AHP:Of3 Tryz.prog 309 kE vO (cC HL) FN:=QO (a1:=(true,aM)) (a2:=(false,Sy.str)) (a3:=(false,(Sy.int IntKind.i64))) (sp:=vO) (F:=FN) (Hs:=AM9) (f:=309) (k:=8) XY aY a7 (aO rfl) ⟨_,_,Tryz.func309,rfl⟩ rfl λ_ _ _ _=>by kernel_rfl
def xF (h:okM m=true) (n:iII):gE [aG true aM m,pPQ n]=some (Sh.enc [(true,dI),(false,.bool)] (found kG (gJ m n))):=(AAJ ..).trans (x6 _ h)
def AGB:aP Tryz.prog 309 kE:=AHP λm n t r h hb=>by
 obtain ⟨hok,rfl⟩:=x5 h;clear h;unfold FN BLM BKS BKE BKC BJ5;refine aF (s:=[(true,dI),(false,.bool)]) (xF hok n) ?_;cases hg:gJ m n with
 | none =>
  show aC false _ _;rw[o6];exact jD (by unfold vL;rw[hg])
 | some g =>
  show aC true _ _;rw[jY];dsimp only[found];have hlen:g.2.2.2.length<=1000:=by
   simp only[okM,ac,ah] at hok;exact of_decide_eq_true (all_eq_true.1 hok.2 _ (List.mem_of_find?_eq_some hg))
  have w:vL m n t=g.2.2.2.any λx=>decide (t=x):=by unfold vL;rw[hg]
  refine bK g.2.2.2.length (λk s=>s=((k:Int),())/\g.2.2.2.any (λx=>decide (t=x))=(g.2.2.2.drop k).any λx=>decide (t=x)) ⟨rfl,by rw[drop_zero]⟩ ?_;rintro X k s hk ⟨rfl,hf⟩ hX;dsimp only;refine cA (λhlt=>?_) λhge=>jD ?_
  ·rw[ae] at hlt;have hlt:k<g.2.2.2.length:=by omega
   rw[drop_eq_getElem_cons hlt,List.any_cons] at hf;rw[bD (r:=.int .i64) hlt];refine cA (λhc=>jD ?_) λhc=>hX _ hlt ⟨by rw[OB (by omega)],by rw[hf,aj hc,Bool.false_or]⟩;rw[w,hf,ai hc,ai (show 0<=(k:Int) by omega)];rfl
  ·rw[ae] at hge;have:k=g.2.2.2.length:=by omega
   subst this;rw[w,hf,drop_length];rfl
abbrev fZ (p:a8):Int:=p.2.2.1
abbrev nL (p:a8):iII:=p.2.2.2.1
abbrev hU (p:a8):iII:=p.2.2.2.2.1
abbrev o4 (p:a8):Int:=p.2.2.2.2.2.1
abbrev lP (p:a8):jL:=p.2.2.2.2.2.2.1
abbrev YX (p:a8):iII:=p.2.2.2.2.2.2.2.1
abbrev AFC (p:a8):Int:=p.2.2.2.2.2.2.2.2.1
abbrev IG (p:a8):Int:=p.2.2.2.2.2.2.2.2.2.1
abbrev JH (p:a8):ANJ:=p.2.2.2.2.2.2.2.2.2.2.1
abbrev aAt (p:a8):BL:=p.2.2.2.2.2.2.2.2.2.2.2
def WT (p:a8):Bool:=!decide (o4 p=0)||decide (0<(lP p).1.length+(lP p).2.length)
def A67 (p:a8):Bool:=!decide (YX p = { data:=#[] }) || !decide (AFC p=0)
def A9Q (p:a8):Bool:=!decide (IG p=0) || !(decide ((JH p).1=0)&&(decide ((JH p).2.1=0)&&decide ((JH p).2.2=0)))
def oB (p:a8):Bool:=if fZ p=1 then A67 p||A9Q p else if fZ p=2\/fZ p=3 then WT p||A9Q p else !decide (hU p = { data:=#[] })||(WT p||A67 p)
noncomputable def AST:Env:=Env.of []
def AVV:FuncId->Hint:=λf=>match f == 264 with|true=>⟨λ_=>.none,λi j=>match i == 1&&j == 1 with|true=>some [.val 3 false .bool]|false=>match i == 2&&j == 2 with|true=>some [.val 4 false .bool]|false=>match i == 3&&j == 3 with|true=>some [.val 5 false .bool]|false=>none,λ_=>none⟩|false=>bA
def AD3:aV Tryz.prog AST:=.nil _
def BL3(s3:Bool×PUnit)(R:T->Prop)(s5:Bool×PUnit):Prop:=aC s3.1 (R BKA) (R (pPR s5.1))
def LD(a0:a8)(R:T->Prop):Prop:=rU (Bool×PUnit) (λ(X0:Bool×PUnit->Prop)=>aC (!decide (a0.2.2.2.2.2.1=0)) (X0 (true,())) (X0 (decide (0 < i64.wrap ((↑(List.map aA.enc a0.2.2.2.2.2.2.1.1).length:Int) + (↑(List.map aA.li.enc a0.2.2.2.2.2.2.1.2).length:Int))), ()))) λ(s1:Bool×PUnit)=>rU (Bool×PUnit) (λ(X2:Bool×PUnit->Prop)=>aC (!decide (a0.2.2.2.2.2.2.2.1 = {data:=#[]})) (X2 (true,())) (X2 (!decide (a0.2.2.2.2.2.2.2.2.1=0),()))) λ(s3:Bool×PUnit)=>rU (Bool×PUnit) (λ(X4:Bool×PUnit->Prop)=>aC (!decide (a0.2.2.2.2.2.2.2.2.2.1=0)) (X4 (true,())) (X4 (!(decide (a0.2.2.2.2.2.2.2.2.2.2.1.1=0) && (decide (a0.2.2.2.2.2.2.2.2.2.2.1.2.1=0) && (decide (a0.2.2.2.2.2.2.2.2.2.2.1.2.2=0)&&true))), ()))) λ(s5:Bool×PUnit)=>aC (decide (a0.2.2.1=1)) (BL3 s3 R s5) (aC (decide (a0.2.2.1=2)) (BL3 s1 R s5) (aC (decide (a0.2.2.1=3)) (BL3 s1 R s5) (aC (decide (a0.2.2.1=4)) (aC (!decide (a0.2.2.2.2.1 = {data:=#[]})) (R BKA) (BL3 s1 R s3)) (aC (!decide (a0.2.2.2.2.1 = {data:=#[]})) (R BKA) (BL3 s1 R s3)))))
abbrev O1:Sh:=[(true,aK)]
def zZ (p:a8):Option T:=some (pPR (oB p))
noncomputable def mT:List T->Option T:=gS O1 zZ
def AAQ {a0}:mT [aG true aK a0]=zZ (a0):=bI (s:=O1) rfl (a0) rfl
def AQT:wP Tryz.prog 264 mT zZ (cC O1) LD:=jZ (a1:=(true,aK)) (sp:=zZ) (F:=LD) (Hs:=AVV) (f:=264) (k:=8) AD3 aY a7 (aO rfl) ⟨_,_,Tryz.func264,rfl⟩ rfl λ_ _=>by kernel_rfl
def VR {a b:Bool} {n:Bool} (h:n=(a||b)):aC a (pPR true=pPR n) (pPR b=pPR n):=by
 subst h;cases a<;>rfl
def AOV:aP Tryz.prog 264 mT:=AQT λp r h hb=>by
 have b1:(lP p).1.length<=2 ^ 47:=hb.2.2.2.2.2.2.1.1.1;have b2:(lP p).2.length<=2 ^ 47:=hb.2.2.2.2.2.2.1.2.1;cases h;unfold LD BL3 BKA;have j:∀ {a b:Bool} {K:Bool×PUnit->Prop},K (a||b,())->rU (Bool×PUnit) (λ(X:Bool×PUnit->Prop)=>aC a (X (true,())) (X (b,()))) K:=λ{a b K} hK=>by
  rw[zG];cases a<;>exact hK
 have e1:decide (0<i64.wrap (((List.map aA.enc (lP p).1).length:Int)+((List.map aA.li.enc (lP p).2).length:Int)))=decide (0<(lP p).1.length+(lP p).2.length):=by
  rw[ae,ae,bG _ (by omega) (by omega)];exact decide_eq_decide.2 (by omega)
 refine j ?_;refine j ?_;refine j ?_;dsimp only;rw[e1,Bool.and_true];refine cA (λh=>VR (by unfold oB;rw[if_pos h];rfl)) λk1=>?_;refine cA (λh=>VR (by unfold oB;rw[if_neg k1,if_pos (.inl h)];rfl)) λk2=>?_;refine cA (λh=>VR (by unfold oB;rw[if_neg k1,if_pos (.inr h)];rfl)) λk3=>?_;have w:oB p=(!decide (hU p = { data:=#[] })||(WT p||A67 p)):=by
  unfold oB;rw[if_neg k1,if_neg];rintro (h|h)
  ·exact k2 h
  ·exact k3 h
 have fin:aC (!decide (hU p = { data:=#[] })) (pPR true=pPR (oB p)) (aC (WT p) (pPR true=pPR (oB p)) (pPR (A67 p)=pPR (oB p))):=by
  rw[w];cases (!decide (hU p = { data:=#[] })) with
  | true=>rfl
  | false=>exact VR rfl
 exact cA (λ_=>fin) λ_=>fin
def ALG (m:aI) (n:iII):Bool:=match PK m n with
 | some s=>decide (1<=s.2.1)&&decide (s.2.1<=1000000)&&(decide (1<=s.2.2.1)&&decide (s.2.2.1<=2000))
 | none=>false
def gY (p:a8) (m:aI):Bool:=if fZ p=4 then true else match gJ m (hU p) with
 | none=>false
 | some g=>decide (1000<=g.2.1)&&decide (g.2.1<=20000)&&(if fZ p=1 then decide (1<=o4 p)&&decide (o4 p<=120)&&vL m (hU p) (o4 p) else ALG m (YX p))
noncomputable def A3M:Env:=Env.of [(269,.pure gE),(270,.pure cO),(309,.pure kE)]
def A44:FuncId->Hint:=λ_=>bA
def AMS:aV Tryz.prog A3M:=.cons GC (.cons NB (.cons AGB (.nil _)))
def BKB:Sh:=[(true,bW),(false,Sy.bool)]
def BLO(y2:cL×Bool)(R:T->Prop):Prop:=aC y2.2 (aC (decide (1<=y2.1.2.1)) (aC (decide (y2.1.2.1<=1000000)) (aC (decide (1<=y2.1.2.2.1)) (R (pPR (decide (y2.1.2.2.1<=2000)))) (R BJ5)) (R BJ5)) (R BJ5)) (R BJ5)
def BKO(a1:aI)(a0:a8)(R:T->Prop):Prop:=aJ BKB (cO [aG true aM a1, pPQ a0.2.2.2.2.2.2.2.1]) λ(y3:cL×Bool)=>BLO y3 R
def BLN(a0:a8)(a1:aI)(R:T->Prop):Prop:=aC (decide (1<=a0.2.2.2.2.2.1)) (aC (decide (a0.2.2.2.2.2.1<=120)) (aJ BJ8 (kE [aG true aM a1,pPQ a0.2.2.2.2.1, pPP a0.2.2.2.2.2.1]) λ(y1:Bool)=>R (pPR y1)) (R BJ5)) (R BJ5)
def BL5(a0:a8)(a1:aI)(R:T->Prop):Prop:=aC (decide (a0.2.2.1=3)) (BKO a1 a0 R) (aC (decide (a0.2.2.1=4)) (BKO a1 a0 R) (BKO a1 a0 R))
def BL6(a1:aI)(a0:a8):List T:=[aG true aM a1,pPQ a0.2.2.2.2.1]
def BKX(a1:aI)(a0:a8)(R:T->Prop):Prop:=aJ BKE (gE (BL6 a1 a0)) λ(y6:fY×Bool)=>aC (!y6.2) (R BJ5) (aC (decide (1000<=y6.1.2.1)) (aC (!decide (y6.1.2.1<=20000)) (R BJ5) (aC (decide (a0.2.2.1=1)) (BLN a0 a1 R) (aC (decide (a0.2.2.1=2)) (BKO a1 a0 R) (BL5 a0 a1 R)))) (R BJ5))
def T7(a0:a8)(a1:aI)(R:T->Prop):Prop:=aC (decide (a0.2.2.1=1)) (aJ BKE (gE (BL6 a1 a0)) λ(y0:fY×Bool)=>aC (!y0.2) (R BJ5) (aC (decide (1000<=y0.1.2.1)) (aC (!decide (y0.1.2.1<=20000)) (R BJ5) (aC (decide (a0.2.2.1=1)) (BLN a0 a1 R) (aC (decide (a0.2.2.1=2)) (aJ BKB (cO [aG true aM a1,pPQ a0.2.2.2.2.2.2.2.1]) λ(y2:cL×Bool)=>BLO y2 R) (BL5 a0 a1 R)))) (R BJ5))) (aC (decide (a0.2.2.1=2)) (BKX a1 a0 R) (aC (decide (a0.2.2.1=3)) (BKX a1 a0 R) (aC (decide (a0.2.2.1=4)) (R BKA) (BKX a1 a0 R))))
abbrev WI:Sh:=[(true,aK),(true,aM)]
def E6 (x:a8×aI):Option T:=EO x.2 (pPR (gY x.1 x.2))
noncomputable def pL:List T->Option T:=gS WI E6
def AGT {a0 a1}:pL [aG true aK a0,aG true aM a1]=E6 (a0,a1):=bI (s:=WI) rfl (a0,a1) rfl
def A03:rJ Tryz.prog 265 pL E6 (cC WI) T7:=gZ (a1:=(true,aK)) (a2:=(true,aM)) (sp:=E6) (F:=T7) (Hs:=A44) (f:=265) (k:=8) AMS aY a7 (aO rfl) ⟨_,_,Tryz.func265,rfl⟩ rfl λ_ _ _=>by kernel_rfl
def DM (m:aI) (n:iII):cO [aG true aM m,pPQ n]=some (Sh.enc [(true,bW),(false,.bool)] (found A7 (PK m n))):=VF ..
def AXY:aP Tryz.prog 265 pL:=A03 λp m r h hb=>by
 obtain ⟨hok,rfl⟩:=x5 h;replace hok:okM m=true:=hok;clear h;have is:∀ {n:Bool},gY p m=n->pPR n=pPR (gY p m):=λh=>by rw[h]
 unfold T7 BKX BL6 BL5 BLN BKO BLO BKE BKB BKA BJ8 BJ5;have sec:∀ {g:fY},gJ m (hU p)=some g->¬ fZ p=4->¬ fZ p=1->1000<=g.2.1->g.2.1<=20000 ->
   aJ [(true,bW),(false,Sy.bool)] (cO [aG true aM m,pPQ (YX p)])
    λ(y2:cL×Bool) =>
    aC y2.2
     (aC (decide (1<=y2.1.2.1))
      (aC (decide (y2.1.2.1<=1000000))
       (aC (decide (1<=y2.1.2.2.1))
        (pPR (decide (y2.1.2.2.1<=2000))=pPR (gY p m))
        (pPR false=pPR (gY p m)))
       (pPR false=pPR (gY p m)))
      (pPR false=pPR (gY p m)))
     (pPR false=pPR (gY p m)):=by
  intro g hg k4 k1 d1 d2;have w:gY p m=ALG m (YX p):=by
   unfold gY;rw[if_neg k4,hg];dsimp only;rw[ai d1,ai d2,if_neg k1];rfl
  refine aF (s:=[(true,bW),(false,.bool)]) (DM m _) ?_;cases hs:PK m (YX p) with
  | none =>
   show aC false _ _;rw[o6];exact is (by rw[w];unfold ALG;rw[hs])
  | some s =>
   show aC true _ _;rw[jY];dsimp only[found];have w2:gY p m=(decide (1<=s.2.1)&&decide (s.2.1<=1000000)&&(decide (1<=s.2.2.1)&&decide (s.2.2.1<=2000))):=by rw[w];unfold ALG;rw[hs]
   refine cA (λh1=>cA (λh2=>cA (λh3=>is ?_) λh3=>is ?_) λh2=>is ?_) λh1=>is ?_
   ·rw[w2,ai h1,ai h2,ai h3];rfl
   ·rw[w2,ai h1,ai h2,aj h3];rfl
   ·rw[w2,ai h1,aj h2];rfl
   ·rw[w2,aj h1];rfl
 have plate:∀ {g:fY},gJ m (hU p)=some g->fZ p=1->1000<=g.2.1->g.2.1<=20000 ->
   aC (decide (1<=o4 p)) (aC (decide (o4 p<=120)) (aJ [(false,Sy.bool)] (kE [aG true aM m,pPQ (hU p),pPP (o4 p)]) λ(y1:Bool)=>pPR y1=pPR (gY p m)) (pPR false=pPR (gY p m))) (pPR false=pPR (gY p m)):=by
  intro g hg k1 d1 d2;have w:gY p m=(decide (1<=o4 p)&&decide (o4 p<=120)&&vL m (hU p) (o4 p)):=by
   unfold gY;rw[if_neg (by omega),hg];dsimp only;rw[ai d1,ai d2,if_pos k1];rfl
  refine cA (λh1=>cA (λh2=>?_) λh2=>is ?_) λh1=>is ?_
  ·refine aF (s:=[(false,.bool)]) (y:=vL m (hU p) (o4 p)) ((U7 ..).trans (x6 _ hok)) (is ?_);rw[w,ai h1,ai h2];rfl
  ·rw[w,ai h1,aj h2];rfl
  ·rw[w,aj h1];rfl
 by_cases k4:p.2.2.1=4
 ·have w:gY p m=true:=by unfold gY;rw[if_pos k4]
  repeat' first
   | (exfalso;omega)
   | exact is w
   | refine cA (λh=>?_) (λh=>?_)
 ·have hnone:gJ m (hU p)=none->gY p m=false:=λh=>by unfold gY;rw[if_neg k4,h]
  have dens:∀ {g:fY},gJ m (hU p)=some g->¬ (1000<=g.2.1/\g.2.1<=20000)->gY p m=false:=λ{g} hg h=>by
   unfold gY;rw[if_neg k4,hg];dsimp only;by_cases h1:1000<=g.2.1
   ·rw[aj (show ¬ g.2.1<=20000 by omega),Bool.and_false,Bool.false_and]
   ·rw[aj h1,Bool.false_and,Bool.false_and]
  have call:∀ {K:fY×Bool->Prop},(gJ m (hU p)=none->K (kG,false))->(∀ g,gJ m (hU p)=some g->K (g,true))->aJ [(true,dI),(false,Sy.bool)] (gE [aG true aM m,pPQ p.2.2.2.2.1]) K:=λ{K} h1 h2=>by
   refine aF (s:=[(true,dI),(false,.bool)]) (xF hok _) ?_;cases hg:gJ m (hU p) with
   | none=>exact h1 hg
   | some g=>exact h2 g hg
  have body:∀ {K:fY×Bool->Prop},(∀ g,gJ m (hU p)=some g->1000<=g.2.1->g.2.1<=20000->K (g,true))->aJ [(true,dI),(false,Sy.bool)] (gE [aG true aM m,pPQ p.2.2.2.2.1]) λ(y0:fY×Bool)=>aC (!y0.2) (pPR false=pPR (gY p m)) (aC (decide (1000<=y0.1.2.1)) (aC (!decide (y0.1.2.1<=20000)) (pPR false=pPR (gY p m)) (K y0)) (pPR false=pPR (gY p m))):=λ{K} hK=>by
   refine call (λhn=>?_) λg hg=>?_
   ·show aC true _ _;rw[jY];exact is (hnone hn)
   ·show aC false _ _;rw[o6];exact cA (λd1=>kX (λd2=>is (dens hg (λh=>d2 h.2))) λd2=>hK g hg d1 d2) λd1=>is (dens hg (λh=>d1 h.1))
  refine cA (λh=>body λg hg d1 d2=>?_) λh1=>cA (λh=>body λg hg d1 d2=>?_) λh2=>cA (λh=>body λg hg d1 d2=>?_) λh3=>cA (λh=>absurd h k4) λ_=>body λg hg d1 d2=>?_
  all_goals
   repeat' first
    | (exfalso;omega)
    | exact plate hg (by assumption) d1 d2
    | exact sec hg k4 (by assumption) d1 d2
    | exact sec hg k4 (by intro h';have h'':p.2.2.1=1:=h';omega) d1 d2
    | refine cA (λh=>?_) (λh=>?_)
def pC (p:a8) (m:aI):Int:=if sH p.1=false\/sH (nL p)=false then 6 else if ¬ (1<=p.2.1/\p.2.1<=1000) then 9 else if ¬ (fZ p=1\/fZ p=2\/fZ p=3\/fZ p=4) then 10 else if oB p=true then 2 else if gY p m=false then 23 else
 if fZ p=1/\¬ x9 (lP p)=0 then x9 (lP p) else if (fZ p=2\/fZ p=3)/\¬ (1<=AFC p/\AFC p<=32768) then 9 else if fZ p=4/\¬ (1<=IG p/\IG p<=1099511627776/\BA (JH p)=true) then 9 else if sL (aAt p)=false then 9 else 0
noncomputable def AME:Env:=Env.of [(64,.pure eH),(264,.pure mT),(265,.pure pL),(266,.pure jF),(268,.pure cJ)]
def ANC:FuncId->Hint:=λ_=>bA
def YB:aV Tryz.prog AME:=.cons C8 (.cons AOV (.cons AXY (.cons RI (.cons AO6 (.nil _)))))
def BKD:T:=pPP 2
def BKL:T:=pPP 23
def BLC(a0:a8)(R:T->Prop):Prop:=aJ BJ8 (cJ [aG true fC a0.2.2.2.2.2.2.2.2.2.2.2]) λ(y5:Bool)=>aC (!y5) (R BJ6) (R BJ9)
def BLY(a0:a8)(R:T->Prop):Prop:=aC (decide (1<=a0.2.2.2.2.2.2.2.2.1)) (aC (!decide (a0.2.2.2.2.2.2.2.2.1<=32768)) (R BJ6) (BLC a0 R)) (R BJ6)
def BKN(a0:a8)(R:T->Prop)(a1:aI):Prop:=aJ BJ8 (mT [aG true aK a0]) λ(y2:Bool)=>aC y2 (R BKD) (aJ BJ8 (pL [aG true aK a0,aG true aM a1]) λ(y3:Bool)=>aC (!y3) (R BKL) (aC (decide (a0.2.2.1=1)) (aJ BJ7 (jF [aG true eK a0.2.2.2.2.2.2.1]) λ(y4:Int)=>aC (!decide (y4=0)) (R (BLL y4)) (BLC a0 R)) (aC (decide (a0.2.2.1=2)) (BLY a0 R) (aC (decide (a0.2.2.1=3)) (BLY a0 R) (aC (decide (a0.2.2.1=4)) (aC (decide (1<=a0.2.2.2.2.2.2.2.2.2.1)) (aC (!decide (a0.2.2.2.2.2.2.2.2.2.1<=1099511627776)) (R BJ6) (aJ BJ8 (cJ [T.agg [pPP a0.2.2.2.2.2.2.2.2.2.2.1.1, pPP a0.2.2.2.2.2.2.2.2.2.2.1.2.1, pPP a0.2.2.2.2.2.2.2.2.2.2.1.2.2, pPP 0]]) λ(y8:Bool)=>aC (!y8) (R BJ6) (BLC a0 R))) (R BJ6)) (BLC a0 R))))))
def FQ(a0:a8)(a1:aI)(R:T->Prop):Prop:=aJ BJ8 (eH [pPQ a0.1]) λ(y0:Bool)=>aC (!y0) (R BKH) (aJ BJ8 (eH [pPQ a0.2.2.2.1]) λ(y1:Bool)=>aC (!y1) (R BKH) (aC (decide (1<=a0.2.1)) (aC (!decide (a0.2.1<=1000)) (R BJ6) (aC (decide (a0.2.2.1=1)) (BKN a0 R a1) (aC (decide (a0.2.2.1=2)) (BKN a0 R a1) (aC (decide (a0.2.2.1=3)) (BKN a0 R a1) (aC (decide (a0.2.2.1=4)) (BKN a0 R a1) (R (pPP 10))))))) (R BJ6)))
abbrev HO:Sh:=[(true,aK),(true,aM)]
def vR (x:a8×aI):Option T:=EO x.2 (T.v (Value.int .i64 (pC x.1 x.2)))
noncomputable def l8:List T->Option T:=gS HO vR
def VB {a0 a1}:l8 [aG true aK a0,aG true aM a1]=vR (a0,a1):=bI (s:=HO) rfl (a0,a1) rfl
def AHS:rJ Tryz.prog 129 l8 vR (cC HO) FQ:=gZ (a1:=(true,aK)) (a2:=(true,aM)) (sp:=vR) (F:=FQ) (Hs:=ANC) (f:=129) (k:=8) YB aY a7 (aO rfl) ⟨_,_,Tryz.func129,rfl⟩ rfl λ_ _ _=>by kernel_rfl
def NA:aP Tryz.prog 129 l8:=AHS λp m r h hb=>by
 obtain ⟨hok,rfl⟩:=x5 h;replace hok:okM m=true:=hok;clear h hb;have is:∀ {n:Int},pC p m=n->pPP n=pPP (pC p m):=λh=>by rw[h]
 unfold FQ BKN BLY BLL BLC BKL BKH BKD BJ9 BJ8 BJ7 BJ6;rw[nU];refine fK (λh=>is (by unfold pC;rw[if_pos (.inl h)])) λi1=>?_;rw[nU];refine fK (λh=>is (by unfold pC;rw[if_pos (.inr h)])) λi2=>?_;have n1:¬ (sH p.1=false\/sH (nL p)=false):=by
  rintro (h|h)
  ·rw[i1] at h;cases h
  ·rw[show sH (nL p)=true from i2] at h;cases h
 have r9:¬ (1<=p.2.1/\p.2.1<=1000)->pPP 9=pPP (pC p m):=λh=>is (by unfold pC;rw[if_neg n1,if_pos h]);refine cA (λv1=>kX (λh=>r9 (λh2=>h h2.2)) λv2=>?_) λh=>r9 (λh2=>h h2.1);have n2:¬ ¬ (1<=p.2.1/\p.2.1<=1000):=λh=>h ⟨v1,v2⟩;have w1:pC p m=if ¬ (fZ p=1\/fZ p=2\/fZ p=3\/fZ p=4) then 10 else if oB p=true then 2 else if gY p m=false then 23 else if fZ p=1/\¬ x9 (lP p)=0 then x9 (lP p) else if (fZ p=2\/fZ p=3)/\¬ (1<=AFC p/\AFC p<=32768) then 9 else if fZ p=4/\¬ (1<=IG p/\IG p<=1099511627776/\BA (JH p)=true) then 9 else if sL (aAt p)=false then 9 else 0:=by
  unfold pC;rw[if_neg n1,if_neg n2]
 have spare:∀ {K:Bool->Prop},K (oB p)->aJ [(false,Sy.bool)] (mT [aG true aK p]) K:=λh=>aF (s:=[(false,.bool)]) (y:=oB p) (AAQ ..) h;have made:∀ {K:Bool->Prop},K (gY p m)->aJ [(false,Sy.bool)] (pL [aG true aK p,aG true aM m]) K:=λh=>aF (s:=[(false,.bool)]) (y:=gY p m) ((AGT ..).trans (x6 _ hok)) h;have place:∀ {K:Bool->Prop},K (sL (aAt p))->aJ [(false,Sy.bool)] (cJ [aG true fC (aAt p)]) K:=λh=>aF (s:=[(false,.bool)]) (y:=sL (aAt p)) (IY ..) h;have near:∀ {K:Bool->Prop},K (BA (JH p))->aJ [(false,Sy.bool)] (cJ [aG true fC (JH p,0)]) K:=λ{K} h=>aF (s:=[(false,.bool)]) (y:=sL (JH p,0)) (IY ..) (by
  rw[show sL (JH p,0)=BA (JH p) by unfold sL;rw[show decide (((JH p,(0:Int)):BL).2=AHM ((JH p,(0:Int)):BL).2)=true from rfl,Bool.and_true]];exact h)
 have reg:∀ {K:Int->Prop},K (x9 (lP p))->aJ [(false,Sy.int IntKind.i64)] (jF [aG true eK (lP p)]) K:=λh=>aF (s:=[(false,.int .i64)]) (IU _) h
 repeat' first
  | (exfalso;omega)
  | refine spare ?_
  | refine made ?_
  | refine reg ?_
  | refine place ?_
  | refine near ?_
  | refine kX (λh=>?_) (λh=>?_)
  | refine cA (λh=>?_) (λh=>?_)
  | refine fK (λh=>?_) (λh=>?_)
  | refine vA (λh=>?_) (λh=>?_)
 all_goals (refine is ?_;clear spare made place near reg is r9;rw[w1];clear w1 n1 n2 i1 i2;simp_all;try (intros;exfalso;simp only[AFC,IG] at *;omega))
def DL (h:okM m=true) (p:a8):l8 [aG true aK p,aG true aM m]=some (Sh.enc [(false,.int .i64)] (pC p m)):=(VB ..).trans (x6 _ h)
def AG3 (m:aI) (n:iII):fY:=(gJ m n).getD kG
def BIN (m:aI) (n:iII):cL:=(PK m n).getD A7
def AKE {no:α} {o:Option α}:(found no o).1=o.getD no:=by cases o<;>rfl
def SO (p:a8) (m:aI):Int:=if fZ p=1 then i64.wrap ((i64.wrap (i64.wrap (ACQ (lP p)*o4 p)*(AG3 m (hU p)).2.1)).tdiv 2000000) else if fZ p=2\/fZ p=3 then i64.wrap ((i64.wrap (i64.wrap ((BIN m (YX p)).2.1*AFC p)*(AG3 m (hU p)).2.1)).tdiv 1000000) else IG p
def A5 (p:a8) (m:aI):Int×Int:=if pC p m=0 then (SO p m,0) else (0,pC p m)
noncomputable def ASU:Env:=Env.of [(129,.pure l8),(269,.pure gE),(270,.pure cO),(271,.pure tP)]
def AVW:FuncId->Hint:=λ_=>bA
def AD4:aV Tryz.prog ASU:=.cons NA (.cons GC (.cons NB (.cons AOY (.nil _))))
def BLV(R:T->Prop)(y2:cL×Bool)(a0:a8)(y1:fY×Bool):Prop:=bR true (R (T.b7 [pPP (i64.wrap ((i64.wrap (i64.wrap (y2.1.2.1*a0.2.2.2.2.2.2.2.2.1) * y1.1.2.1)).tdiv 1000000)), pPP 0]))
def BL7(a0:a8):List T:=[pPP a0.2.2.2.2.2.2.2.2.2.1, pPP 0]
def LF(a0:a8)(a1:aI)(R:T->Prop):Prop:=aJ BJ7 (l8 [aG true aK a0,aG true aM a1]) λ(y0:Int)=>aC (!decide (y0=0)) (R (T.b7 [pPP 0,pPP y0])) (aJ BKE (gE (BL6 a1 a0)) λ(y1:fY×Bool)=>aJ BKB (cO [aG true aM a1,pPQ a0.2.2.2.2.2.2.2.1]) λ(y2:cL×Bool)=>aC (decide (a0.2.2.1=1)) (aJ BJ7 (tP [aG true eK a0.2.2.2.2.2.2.1]) λ(y3:Int)=>bR true (R (T.b7 [pPP (i64.wrap ((i64.wrap (i64.wrap (y3*a0.2.2.2.2.2.1)*y1.1.2.1)).tdiv 2000000)), pPP 0]))) (aC (decide (a0.2.2.1=2)) (BLV R y2 a0 y1) (aC (decide (a0.2.2.1=3)) (BLV R y2 a0 y1) (aC (decide (a0.2.2.1=4)) (R (T.b7 (BL7 a0))) (R (T.b7 (BL7 a0)))))))
abbrev O2:Sh:=[(true,aK),(true,aM)]
abbrev ACO:Sh:=[(false,Sy.int IntKind.i64),(false,Sy.int IntKind.i64)]
def z6 (x:a8×aI):Option T:=EO x.2 (Sh.enc ACO (A5 x.1 x.2))
noncomputable def tM:List T->Option T:=gS O2 z6
def AAR {a0 a1}:tM [aG true aK a0,aG true aM a1]=z6 (a0,a1):=bI (s:=O2) rfl (a0,a1) rfl
def AQU:rJ Tryz.prog 130 tM z6 (cC O2) LF:=gZ (a1:=(true,aK)) (a2:=(true,aM)) (sp:=z6) (F:=LF) (Hs:=AVW) (f:=130) (k:=8) AD4 aY a7 (aO rfl) ⟨_,_,Tryz.func130,rfl⟩ rfl λ_ _ _=>by kernel_rfl
def AOW:aP Tryz.prog 130 tM:=AQU λp m r h hb=>by
 obtain ⟨hok,rfl⟩:=x5 h;replace hok:okM m=true:=hok;clear h hb;have is:∀ {a b:Int},A5 p m=(a,b)->T.b7 [pPP a,pPP b]=Sh.enc ACO (A5 p m):=λh=>by rw[h];rfl
 unfold LF BL7 BLV BL6 BKE BKB BJ7;refine aF (s:=[(false,.int .i64)]) (DL hok p) ?_;refine kX (λh=>is (by unfold A5;rw[if_neg h])) λh=>?_;refine aF (s:=[(true,dI),(false,.bool)]) (xF hok _) ?_;refine aF (s:=[(true,bW),(false,.bool)]) (DM m _) ?_;have w:A5 p m=(SO p m,0):=by unfold A5;rw[if_pos h]
 have eg:(found kG (gJ m (hU p))).1=AG3 m (hU p):=AKE;have es:(found A7 (PK m (YX p))).1=BIN m (YX p):=AKE;refine cA (λk1=>?_) λk1=>?_
 ·refine aF (s:=[(false,.int .i64)]) (AAX _) ?_;refine ⟨rfl,is ?_⟩;rw[w];unfold SO;rw[if_pos k1,<-eg]
 refine cA (λk2=>⟨rfl,is ?_⟩) λk2=>?_
 ·rw[w];unfold SO;rw[if_neg k1,if_pos (.inl k2),<-eg,<-es]
 refine cA (λk3=>⟨rfl,is ?_⟩) λk3=>?_
 ·rw[w];unfold SO;rw[if_neg k1,if_pos (.inr k3),<-eg,<-es]
 have fin:A5 p m=(IG p,0):=by
  rw[w];unfold SO;rw[if_neg k1,if_neg];rintro (h|h)
  ·exact k2 h
  ·exact k3 h
 exact cA (λ_=>is fin) λ_=>is fin
def AAS (h:okM m=true) (p:a8):tM [aG true aK p,aG true aM m]=some (Sh.enc [(false,.int .i64),(false,.int .i64)] (A5 p m)):=(AAR ..).trans (x6 _ h)
def oK (a0:aB) (m1:List aE) (m2:List aE) (m3:List aE) (m4:List aE) (a5:aI):List T:=[PX a0 m1 m2 m3 m4,T.agg (aM.enc a5)]
noncomputable def KT:Env:=Env.of [(129,.pure l8),(130,.pure tM)]
def YT:FuncId->Hint:=b6 89 [(2,.inv [.val 23 false (.int .i64)]),(13,.inv [.val 10 false (.int .i64),.val 54 false (.int .i64)])] (λ_=>bA)
def ADU:aV Tryz.prog KT:=.cons NA (.cons AOW (.nil _))
def BKM:T:=pPP 8
def BKV(a0:aB):List (List T):=List.map aK.enc a0.2.2.1
def K2(a0:aB)(m1:List aE)(m2:List aE)(m3:List aE)(m4:List aE)(a5:aI)(R:T->Prop):Prop:=bB (Int×PUnit) (λX0 s1=>aC (decide (s1.1<(↑(BKV a0).length:Int))) (aR aK (BKV a0) s1.1 λ(y2:a8)=>aJ BJ7 (l8 [aG true aK y2,aG true aM a5]) λ(y3:Int)=>aC (!decide (y3=0)) (R (BLL y3)) (gW TypeDesc.string (Value.string y2.2.2.2.1) (qZ (bO m1)) false BKC (R BKM) λ(i4:Nat) (y5:Int)=>X0 (i64.wrap (s1.1+1),()))) (bB (Int×Int×PUnit) (λX6 s7=>aC (decide (s7.2.1<(↑(BKV a0).length:Int))) (aR aK (BKV a0) s7.2.1 λ(y8:a8)=>aJ [(false,Sy.int IntKind.i64),(false,Sy.int IntKind.i64)] (tM [aG true aK y8,aG true aM a5]) λ(y9:aU)=>aC (decide (1099511627776<i64.wrap (s7.1+y9.1))) (R (pPP 13)) (X6 (i64.wrap (s7.1+y9.1),i64.wrap (s7.2.1+1),()))) (R BJ9)) (0,0,()))) (0,())
def YL ( a0 m1 m2 m3 m4 a5 R):eG bY Tryz.prog KT YT 8 89 (oK a0 m1 m2 m3 m4 a5) R=K2 a0 m1 m2 m3 m4 a5 R:=by kernel_rfl
def TO (x y:aB×MP×MP×MP×MP×aI) (h:oK x.1 x.2.1 x.2.2.1 x.2.2.2.1 x.2.2.2.2.1 x.2.2.2.2.2=oK y.1 y.2.1 y.2.2.1 y.2.2.2.1 y.2.2.2.2.1 y.2.2.2.2.2):x=y:=by
 obtain ⟨h1,h2⟩:=List.cons.inj h;have:=qW (x:=(x.1,x.2.1,x.2.2.1,x.2.2.2.1,x.2.2.2.2.1)) (y:=(y.1,y.2.1,y.2.2.1,y.2.2.2.1,y.2.2.2.2.1)) h1;have h2:=Sy.dY aM _ _ (T.agg.inj (List.cons.inj h2).1);simp only[Prod.mk.injEq] at this;obtain ⟨e1,e2,e3,e4,e5⟩:=this;exact Prod.ext e1 (Prod.ext e2 (Prod.ext e3 (Prod.ext e4 (Prod.ext e5 h2))))
def jK (d:aB) (m:aI) (p:a8):Int:=if pC p m=0 then (if (iD d (nL p)).isNone=true then 8 else 0) else pC p m
def ID (m:aI):List a8->Int->Int
 | [],_=>0
 | p::l,s=>if 1099511627776<i64.wrap (s+(A5 p m).1) then 13 else ID m l (i64.wrap (s+(A5 p m).1))
def lX (d:aB) (m:aI):Int:=if cH (jK d m) d.2.2.1=0 then ID m d.2.2.1 0 else cH (jK d m) d.2.2.1
def uE (x:aB×MP×MP×MP×MP×aI):Option T:=match okM x.2.2.2.2.2 with
 | true=>wB (x.1,x.2.1,x.2.2.1,x.2.2.2.1,x.2.2.2.2.1) (T.v (Value.int .i64 (lX x.1 x.2.2.2.2.2)))
 | false=>none
noncomputable def tI:List T->Option (T):=gA (λ(x:aB×List aE×List aE×List aE×List aE×aI)=>oK x.1 x.2.1 x.2.2.1 x.2.2.2.1 x.2.2.2.2.1 x.2.2.2.2.2) uE
def AAD (a0:aB) (m1:List aE) (m2:List aE) (m3:List aE) (m4:List aE) (a5:aI):tI (oK a0 m1 m2 m3 m4 a5)=uE (a0,m1,m2,m3,m4,a5):=fN (A:=(λ(x:aB×List aE×List aE×List aE×List aE×aI)=>oK x.1 x.2.1 x.2.2.1 x.2.2.2.1 x.2.2.2.2.1 x.2.2.2.2.2)) TO (a0,m1,m2,m3,m4,a5)
def AQK (h:∀ (a0:aB) (m1:List aE) (m2:List aE) (m3:List aE) (m4:List aE) (a5:aI) (r:T),uE (a0,m1,m2,m3,m4,a5)=some r->(∀ t∈oK a0 m1 m2 m3 m4 a5,Bd t)->K2 a0 m1 m2 m3 m4 a5 (λy=>y=r)):aP Tryz.prog 89 tI :=
 cQ (E:=KT) (Hs:=YT) ADU aY a7 (aO rfl) 8 ⟨_,_,Tryz.func89,rfl⟩ λx r h1 h2=>by
  rw[YL];exact h x.1 x.2.1 x.2.2.1 x.2.2.2.1 x.2.2.2.2.1 x.2.2.2.2.2 r h1 h2
def AOP:aP Tryz.prog 89 tI:=AQK λd m1 m2 m3 m4 m r h hb=>by
 unfold uE at h;split at h
 case h_2=>cases h
 rename_i hok;replace hok:okM m=true:=hok;obtain ⟨hx,hs,rfl⟩:=oT h;simp only[Prod.mk.injEq,true_and] at hx;obtain ⟨rfl,rfl,rfl,rfl⟩:=hx;replace hs:nP d:=hs;clear h hb;have is:∀ {n:Int},lX d m=n->pPP n=pPP (lX d m):=λh=>by rw[h]
 unfold K2 BKV BLL BKM BKC BJ9 BJ7;refine qJ (r:=aK) (jK d m) hs.p (λX s y hy hgo hbad=>?_) λh0=>?_
 ·have bad:∀ {n:Int},n≠0->jK d m y=n->pPP n=pPP (lX d m):=λhn h=>by
   have h1:=hbad (by rw[h];exact hn);refine is ?_;unfold lX;rw[if_neg (by rw[h1,h];exact hn),h1,h]
  refine aF (s:=[(false,.int .i64)]) (DL hok y) ?_;refine kX (λh=>bad h (by unfold jK;rw[if_neg h])) λh=>?_;refine ixK (λhn=>bad (by decide) ?_) λi j hj hn=>hgo ?_
  ·have hn:iD d (nL y)=none:=hn;unfold jK;rw[if_pos h,hn];rfl
  ·have hn:iD d (nL y)=some d.2.1[j]:=hn;unfold jK;rw[if_pos h,hn];rfl
 ·have w:lX d m=ID m d.2.2.1 0:=by unfold lX;rw[if_pos h0]
  clear h0;have hl:=hs.p;generalize d.2.2.1=l at w hl ⊢;refine bK l.length (λk s=>s.2.1=(k:Int)/\ID m (l.drop k) s.1=lX d m) ⟨rfl,by rw[w];rfl⟩ ?_;rintro X k ⟨s,i,u⟩ hk ⟨rfl,he⟩ hX;dsimp only at he ⊢;refine cA (λhlt=>?_) λhge=>?_
  ·rw[ae] at hlt;have hlt:k<l.length:=by omega
   rw[bD (r:=aK) hlt];rw[drop_eq_getElem_cons hlt,ID] at he;refine aF (s:=[(false,.int .i64),(false,.int .i64)]) (AAS hok _) ?_;refine cA (λh=>is (by rw[<-he,if_pos h])) λh=>?_;rw[if_neg h] at he;refine hX _ hlt ⟨?_,he⟩;show i64.wrap ((k:Int)+1)=_;rw[bG]<;>omega
  ·rw[ae] at hge;have:k=l.length:=by omega
   subst this;rw[drop_length,ID] at he;exact is he.symm
def oJ (a0:aB) (m1:List aE) (m2:List aE) (m3:List aE) (m4:List aE):List T:=[PX a0 m1 m2 m3 m4]
noncomputable def KS:Env:=Env.of [(64,.pure eH),(123,.pure wH),(132,.pure GN),(131,.pure gX),(128,.pure kW),(133,.new DK)]
def YS:FuncId->Hint:=b6 91 [(4,.inv [.own 3 2 (.pr (.int .i64) (.int .i64)),.map 0 .str false .bool,.val 29 false (.int .i64)]),(15,.inv [.val 76 false (.int .i64),.map 0 .str false .bool]),(31,.inv [.own 3 2 (.pr (.int .i64) (.int .i64)),.val 147 false (.int .i64)])] (λ_=>bA)
def ADT:aV Tryz.prog KS:=.cons C8 (.cons A9O (.cons A6X (.cons ZY (.cons RL (.cons AXX (.nil _))))))
def BKY(a0:aB):List (List T):=List.map aZ.enc a0.2.2.2.2.2
def BKR(a0:aB):List (List T):=List.map aH.enc a0.2.2.2.2.1
def BKW(a0:aB):List (List T):=List.map bE.enc a0.2.2.2.1
def BLT(y3:aQ):List (List T):=List.map Sy.str.enc y3.2.2.1
def BK0(a0:aB):List (List T):=List.map bC.enc a0.2.1
def BK2(a0:aB):List T:=[pPQ a0.1, T.sl false (BK0 a0), T.sl false (BKV a0), T.sl false (BKW a0), T.sl false (BKR a0), T.sl false (BKY a0)]
def BLJ(y3:aQ):List (List T):=List.map Sy.str.enc y3.2.2.2.2
def BK5(y13:iII)(s12:Int×List (iII×Bool)×PUnit)(X11:Int×List (iII×Bool)×PUnit->Prop):Prop:=lC (Option (Nat×D)) (findD TypeDesc.string (Value.string y13) (List.map (b8 Sy.str false Sy.bool) s12.2.1) 0) λ(y24:Option (Nat×D))=>dA Sy.str false Sy.bool (eJ (List.map (b8 Sy.str false Sy.bool) s12.2.1) y24 (Value.string y13) (D.p BKA)) λ(y25:List (iII×Bool))=>X11 (i64.wrap (s12.1+1),y25,())
def BLS(a0:aB)(m1:List aE)(m2:List aE)(m3:List aE)(m4:List aE):List T:=[T.ref (BK2 a0), T.mp (bO m1),T.mp (bO m2), T.mp (bO m3),T.mp (bO m4)]
def BLU(a0:aB):List T:=[pPQ a0.1,T.sl false (BK0 a0), T.sl false (BKV a0), T.sl false (BKW a0), T.sl false (BKR a0), T.sl false (BKY a0)]
def BL4(y18:List iII×Bool):List (List T):=List.map Sy.str.enc y18.1
def K1(a0:aB)(m1:List aE)(m2:List aE)(m3:List aE)(m4:List aE)(R:T->Prop):Prop:=dA Sy.str false Sy.bool [] λ(y0:List (iII×Bool))=>bB (List aU×List (iII×Bool)×Int×PUnit) (λX1 s2=>aC (decide (s2.2.2.1<(↑(BKR a0).length:Int))) (aR aH (BKR a0) s2.2.2.1 λ(y3:aQ)=>aJ BJ8 (eH [pPQ y3.1]) λ(y4:Bool)=>aC (!y4) (R BKH) (aJ BJ8 (gX [T.ref [T.ref (BLU a0), T.mp (bO m1),T.mp (bO m2),T.mp (bO m3), T.mp (bO m4)], pPQ y3.2.1]) λ(y5:Bool)=>aC (!y5) (R BKM) (aC (decide (y3.2.2.2.1<1)) (R BJ6) (aC (decide (10000<y3.2.2.2.1)) (R BJ6) (aJ [(false,Sy.any)] (GN [T.sl false (BLT y3)]) λ(y6:T)=>aJ BJ8 (wH [pPP (↑(BLT y3).length:Int), y6]) λ(y7:Bool)=>aC (!y7) (R BKI) (aJ [(false,Sy.any)] (GN [T.sl false (BLJ y3)]) λ(y8:T)=>aJ BJ8 (wH [pPP (↑(BLJ y3).length:Int), y8]) λ(y9:Bool)=>aC (!y9) (R BKI) (dA Sy.str false Sy.bool (List.map (b8 Sy.str false Sy.bool) s2.2.1) λ(y10:List (iII×Bool))=>bB (Int×List (iII×Bool)×PUnit) (λX11 s12=>aC (decide (s12.1<(↑(BLT y3).length:Int))) (aR Sy.str (BLT y3) s12.1 λ(y13:iII)=>gW TypeDesc.string (Value.string y13) (qZ (bO m2)) false BKC (R BKM) λ(i14:Nat) (y15:Int)=>aR aK (BKV a0) y15 λ(y16:a8)=>aC (!decide (y16.2.2.1=4)) (aC (!decide (y16.2.2.1=3)) (R (pPP 10)) (aR aK (BKV a0) y15 λ(y17:a8)=>aJ [(false,Sy.str.li),(false,Sy.bool)] (kW [T.ref (BLS a0 m1 m2 m3 m4), pPQ y17.2.2.2.1]) λ(y18:List iII×Bool)=>aC (decide ((↑(BL4 y18).length:Int)=0)) (R BKD) (aR Sy.str (BL4 y18) (i64.wrap ((↑(BL4 y18).length:Int)-1)) λ(y19:iII)=>aC (!decide (y19=y3.2.1)) (R BKD) (gW TypeDesc.string (Value.string y13) (List.map (b8 Sy.str false Sy.bool) s12.2.1) false Sy.bool (BK5 y13 s12 X11) λ(i20:Nat) (y21:Bool)=>aC y21 (R (pPP 7)) (lC (Option (Nat×D)) (findD TypeDesc.string (Value.string y13) (List.map (b8 Sy.str false Sy.bool) s12.2.1) 0) λ(y22:Option (Nat×D))=>dA Sy.str false Sy.bool (eJ (List.map (b8 Sy.str false Sy.bool) s12.2.1) y22 (Value.string y13) (D.p BKA)) λ(y23:List (iII×Bool))=>X11 (i64.wrap (s12.1+1),y23, ())))))) (aR aK (BKV a0) y15 λ(y26:a8)=>aJ [(false,Sy.str.li),(false,Sy.bool)] (kW [T.ref (BLS a0 m1 m2 m3 m4), pPQ y26.2.2.2.1]) λ(y27:List iII×Bool)=>aC (decide ((↑(BL4 y27).length:Int)=0)) (R BKD) (aR Sy.str (BL4 y27) (i64.wrap ((↑(BL4 y27).length:Int)-1)) λ(y28:iII)=>aC (!decide (y28=y3.2.1)) (R BKD) (gW TypeDesc.string (Value.string y13) (List.map (b8 Sy.str false Sy.bool) s12.2.1) false Sy.bool (BK5 y13 s12 X11) λ(i29:Nat) (y30:Bool)=>aC y30 (R (pPP 7)) (BK5 y13 s12 X11))))) (dM aA (List.map aA.enc s2.1) λ(y35:List aU)=>bB (List aU×Int×PUnit) (λX36 s37=>aC (decide (s37.2.1 < (↑(BLJ y3).length:Int))) (aR Sy.str (BLJ y3) s37.2.1 λ(y38:iII)=>aC (decide (y38=y3.1)) (R BKD) (gW TypeDesc.string (Value.string y38) (qZ (bO m4)) false BKC (R BKM) λ(i39:Nat) (y40:Int)=>bR (decide (((List.map aA.enc s37.1).length+1)*16 <= 140737488355328) && decide ((List.map aA.enc s37.1).length+1 <= 140737488355328)) (dM aA (List.map aA.enc s37.1 ++ [[pPP y40, pPP s2.2.2.1]]) λ(y41:List aU)=>X36 (y41,i64.wrap (s37.2.1+1),())))) (dM aA (List.map aA.enc s37.1) λ(y42:List aU)=>dA Sy.str false Sy.bool (List.map (b8 Sy.str false Sy.bool) s12.2.1) λ(y43:List (iII×Bool))=>X1 (y42,y43,i64.wrap (s2.2.2.1+1),()))) (y35,0,()))) (0,y10,())))))))) (aJ [(false,BKC.li),(false,Sy.int IntKind.i64)] (DK [pPP (↑(BKR a0).length:Int), T.sl false (List.map aA.enc s2.1)]) λ(y44:List Int×Int)=>aC (!decide (y44.2=0)) (R (pPP 20)) (R BJ9))) ([],y0,0,())
def YK ( a0 m1 m2 m3 m4 R):eG bY Tryz.prog KS YS 8 91 (oJ a0 m1 m2 m3 m4) R=K1 a0 m1 m2 m3 m4 R:=by kernel_rfl
def TN (x y:aB×MP×MP×MP×MP) (h:oJ x.1 x.2.1 x.2.2.1 x.2.2.2.1 x.2.2.2.2=oJ y.1 y.2.1 y.2.2.1 y.2.2.2.1 y.2.2.2.2):x=y:=qW (List.cons.inj h).1
abbrev jN (k:aQ):List iII:=k.2.2.1
abbrev gG (k:aQ):List iII:=k.2.2.2.2
abbrev VS (k:aQ):Int:=k.2.2.2.1
def xU (d:aB) (k:aQ):Int:=if sH k.1=false then 6 else if xV d k.2.1=false then 8 else if VS k<1\/10000<VS k then 9 else if q7 (jN k)=false\/q7 (gG k)=false then 11 else 0
def instE (d:aB) (b:iII):List iII->List iII->Int×List iII
 | [],S=>(0,S)
 | id::l,S=>match partOf d id with
  | none=>(8,S)
  | some p=>if ¬ fZ p=4/\¬ fZ p=3 then (10,S) else if (up d (nL p)).1.getLast? = some b then (if VU S id=true then (7,S) else instE d b l (id::S)) else (2,S)
def UI (d:aB) (k:iII) (i:Int):List iII->List aU->Int×List aU
 | [],E=>(0,E)
 | id::l,E=>if id=k then (2,E) else match fI (iR (ids d.2.2.2.2.1)) id with
  | none=>(8,E)
  | some j=>UI d k i l (E++[(j,i)])
def oG (d:aB):List aQ->Int->List aU->List iII->Int×List aU
 | [],_,E,_=>(0,E)
 | k::l,i,E,S=>if ¬ xU d k=0 then (xU d k,E) else if ¬ (instE d k.2.1 (jN k) S).1=0 then ((instE d k.2.1 (jN k) S).1,E) else if ¬ (UI d k.1 i (gG k) E).1=0 then ((UI d k.1 i (gG k) E).1,E) else
  oG d l (i+1) (UI d k.1 i (gG k) E).2 (instE d k.2.1 (jN k) S).2
def jO (d:aB):Int:=if (oG d d.2.2.2.2.1 0 [] []).1=0 then (if (lW d.2.2.2.2.1.length (oG d d.2.2.2.2.1 0 [] []).2).2=0 then 0 else 20) else (oG d d.2.2.2.2.1 0 [] []).1
def zJ (d:aB):Bool:=d.2.2.2.2.1.all (λk=>decide ((jN k).length<=140737488355328)&&decide ((gG k).length<=140737488355328))&&decide (d.2.2.2.2.1.length<=64)
def nB (a b:iII):cD a b=true↔a.data.toList<b.data.toList:=by
 unfold cD;rw[bytesLess_eq,decide_eq_true_iff]
def AJS {a b:iII} (h:(!(cD b a||decide (b=a)))=true):a.data.toList<b.data.toList:=by
 simp only[Bool.not_eq_true',Bool.or_eq_false_iff,decide_eq_false_iff_not] at h;refine Classical.byContradiction λhc=>h.2 ?_;have h1:¬ b.data.toList<a.data.toList:=λh'=>by rw[(nB b a).2 h'] at h;exact absurd h.1 (by decide)
 have e:b.data.toList=a.data.toList:=List.le_antisymm (not_lt.1 hc) (not_lt.1 h1);exact ByteArray.ext (Array.ext' e)
def L9:∀ {l:List iII},q7 l=true->l.Pairwise λa b=>a.data.toList<b.data.toList
 | [],_=>List.Pairwise.nil
 | [a],_=>by simp
 | a::b::l,h=>by
  rw[q7,ac] at h;have h1:=AJS h.1;have ih:=L9 h.2;refine List.pairwise_cons.2 ⟨λx hx=>?_,ih⟩;rcases mem_cons.1 hx with rfl|hx
  ·exact h1
  ·exact lt_trans h1 ((List.pairwise_cons.1 ih).1 x hx)
def ANP {l:List iII} (h:q7 l=true):l.Nodup:=by
 refine (L9 h).imp λ{a b} hab e=>?_;subst e;exact lt_irrefl _ hab
def AKN:∀ {l m:List iII},l.Nodup->(∀ x∈l,x∈m)->l.length<=m.length
 | [],_,_,_=>Nat.zero_le _
 | a::l,m,h,hm=>by
  obtain ⟨h1,h2⟩:=List.pairwise_cons.1 h;have h3:l.length<=(m.filter λx=>decide (x≠a)).length:=AKN h2 λx hx=>List.mem_filter.2 ⟨hm x (List.mem_cons_of_mem _ hx),ai λe=>h1 x hx e.symm⟩;have h4:(m.filter λx=>decide (x≠a)).length<m.length:=List.length_filter_lt_length_iff_exists.2 ⟨a,hm a am,by simp⟩;rw[length_cons];omega
def uD (x:aB×MP×MP×MP×MP):Option T:=match zJ x.1 with
 | true=>wB x (T.v (Value.int .i64 (jO x.1)))
 | false=>none
noncomputable def tH:List T->Option (T):=gA (λ(x:aB×List aE×List aE×List aE×List aE)=>oJ x.1 x.2.1 x.2.2.1 x.2.2.2.1 x.2.2.2.2) uD
def AAC (a0:aB) (m1:List aE) (m2:List aE) (m3:List aE) (m4:List aE):tH (oJ a0 m1 m2 m3 m4)=uD (a0,m1,m2,m3,m4):=fN (A:=(λ(x:aB×List aE×List aE×List aE×List aE)=>oJ x.1 x.2.1 x.2.2.1 x.2.2.2.1 x.2.2.2.2)) TN (a0,m1,m2,m3,m4)
def AQJ (h:∀ (a0:aB) (m1:List aE) (m2:List aE) (m3:List aE) (m4:List aE) (r:T),uD (a0,m1,m2,m3,m4)=some r->(∀ t∈oJ a0 m1 m2 m3 m4,Bd t)->K1 a0 m1 m2 m3 m4 (λy=>y=r)):aP Tryz.prog 91 tH :=
 cQ (E:=KS) (Hs:=YS) ADT aY a7 (aO rfl) 8 ⟨_,_,Tryz.func91,rfl⟩ λx r h1 h2=>by
  rw[YK];exact h x.1 x.2.1 x.2.2.1 x.2.2.2.1 x.2.2.2.2 r h1 h2
variable {A:Prop}
def BHZ {id:iII} {l:List (iII×α)} {B:Nat->Int->Prop} (hA:fI (iR (ids l)) id=none->l.find? (λs=>decide (s.1=id))=none->A) (hB:∀ i k (h:k<l.length),fI (iR (ids l)) id=some (k:Int)->l.find? (λs=>decide (s.1=id))=some l[k]->B i (k:Int)) :
  gW TypeDesc.string (Value.string id) (qZ (bO (iR (ids l)))) false (Sy.int IntKind.i64) A B:=by
 rw[ABZ];refine yU (r:=.int .i64) (λh=>?_) λi v h=>?_
 ·rcases DP id l with ⟨h1,h2⟩|⟨k,hk,h1,_⟩
  ·exact hA h1 h2
  ·rw[h] at h1;cases h1
 ·rcases DP id l with ⟨h1,_⟩|⟨k,hk,h1,h2⟩
  ·rw[h] at h1;cases h1
  ·rw[h] at h1;cases h1;exact hB i k hk h h2
def BH0 {l:List iII} {b:iII} (hl:l.length<=140737488355328) (hyes:l.getLast? = some b->A) (hno:¬ l.getLast? = some b->A) {R2:Prop} (hR2:¬ l.getLast? = some b->R2) {K:Prop} (hK:l.getLast? = some b->K) :
  aC (decide (((List.map Sy.str.enc l).length:Int)=0)) R2 (aR Sy.str (List.map Sy.str.enc l) (i64.wrap (((List.map Sy.str.enc l).length:Int)-1)) λ(y:iII)=>aC (!decide (y=b)) R2 K):=by
 rw[ae];refine cA (λh=>hR2 ?_) λh=>?_
 ·have:l=[]:=List.length_eq_zero_iff.1 (by omega);rw[this];simp
 ·have h1:l.length-1<l.length:=by omega
  rw[bG _ (by omega) (by omega),show ((l.length:Int)-1)=((l.length-1:Nat):Int) by omega,bD (r:=.str) h1];have e:l.getLast? = some l[l.length-1]:=by rw[List.getLast?_eq_getElem?,getElem?_eq_getElem h1]
  refine kX (λh=>hR2 ?_) λh=>hK ?_
  ·rw[e];intro h';exact h (Option.some.inj h')
  ·rw[e];exact congrArg some h
def BIO {es:List (iII×Bool)} {S:List iII} {id:iII} {R7:Prop} {K:List (iII×Bool)->Prop} (hS:Seen es (λx=>x∈S)) (h7:id∈S->R7) (hK:∀ es',id∉S->Seen es' (λx=>x∈id::S)->K es') :
  gW TypeDesc.string (Value.string id) (List.map (b8 Sy.str false Sy.bool) es) false Sy.bool
   (lC (Option (Nat×D)) (findD TypeDesc.string (Value.string id) (List.map (b8 Sy.str false Sy.bool) es) 0) λ(y24:Option (Nat×D)) =>
    dA Sy.str false Sy.bool (eJ (List.map (b8 Sy.str false Sy.bool) es) y24 (Value.string id) (D.p (T.v (.bool true)))) λ(y25:List (iII×Bool))=>K y25)
   λ(i20:Nat) (y21:Bool)=>aC y21 R7
    (lC (Option (Nat×D)) (findD TypeDesc.string (Value.string id) (List.map (b8 Sy.str false Sy.bool) es) 0) λ(y22:Option (Nat×D)) =>
     dA Sy.str false Sy.bool (eJ (List.map (b8 Sy.str false Sy.bool) es) y22 (Value.string id) (D.p (T.v (.bool true)))) λ(y23:List (iII×Bool))=>K y23):=by
 refine yU (r:=.bool) (λhno=>?_) λj b hb=>?_
 ·refine AKJ (r:=.bool) rfl (es:=es) (k:=id) (v:=true) (hK _ (λh=>?_) ((hS.ins id).congr λx=>?_))
  ·have:=(hS.2 id).2 h;rw[hno] at this;cases this
  ·rw[mem_cons];exact ⟨λh=>h.symm.imp_left Eq.symm,λh=>h.symm.imp_right Eq.symm⟩
 ·have:=hS.1 _ _ hb;subst this;rw[jY];exact h7 ((hS.2 _).1 hb)
def AOO:aP Tryz.prog 91 tH:=AQJ λd m1 m2 m3 m4 r h hb=>by
 unfold uD at h;split at h
 case h_2=>cases h
 rename_i hok;replace hok:zJ d=true:=hok;obtain ⟨hx,hs,rfl⟩:=oT h;simp only[Prod.mk.injEq,true_and] at hx;obtain ⟨rfl,rfl,rfl,rfl⟩:=hx;replace hs:nP d:=hs;clear h hb;simp only[zJ,ac,ah,all_eq_true] at hok;obtain ⟨hkp,hka⟩:=hok;have hkq:=λk hk=>(hkp k hk).2;replace hkp:=λk hk=>(hkp k hk).1;have hlk:=hs.k;have is:∀ {n:Int},jO d=n->T.v (.int .i64 n)=T.v (.int .i64 (jO d)):=λh=>by rw[h]
 unfold K1 BL4 BLU BLS BK5 BLJ BK2 BK0 BLT BKW BKV BKR BKY BKM BKI BKH BKD BKC BKA BJ9 BJ8 BJ6;refine jU (r:=.bool) rfl [] _ ?_;refine bK d.2.2.2.2.1.length (λk s=>∃ S,s.2.2.1=(k:Int)/\Seen s.2.1 (λx=>x∈S)/\s.1.length<=64*k/\oG d (d.2.2.2.2.1.drop k) k s.1 S=oG d d.2.2.2.2.1 0 [] []) ⟨[],rfl,Seen.nil.congr (by simp),by simp,rfl⟩ ?_;rintro X k ⟨E,es,i,u⟩ hk ⟨S,rfl,hseen,hlen,hr⟩ hX;dsimp only at hseen hlen hr ⊢;refine cA (λhlt=>?_) λhge=>?_
 ·rw[ae] at hlt;have hlt:k<d.2.2.2.2.1.length:=by omega
  rw[bD (r:=aH) hlt];rw[drop_eq_getElem_cons hlt] at hr;have hmem:=ak hlt;have hp1:=hkp _ hmem;have hp2:=hkq _ hmem;generalize hy:d.2.2.2.2.1[k]=y at hr hp1 hp2 ⊢;rw[oG] at hr;have bad:∀ {n:Int},n≠0->(oG d d.2.2.2.2.1 0 [] []).1=n->T.v (.int .i64 n)=T.v (.int .i64 (jO d)):=λhn h=>by
   refine is ?_;unfold jO;rw[if_neg (by rw[h];exact hn),h]
  have badH:∀ {n:Int},n≠0->xU d y=n->T.v (.int .i64 n)=T.v (.int .i64 (jO d)):=λhn h=>by
   refine bad hn ?_;rw[if_pos (by rw[h];exact hn)] at hr;rw[<-hr];exact h
  rw[nU];refine fK (λh=>badH (by decide) (by unfold xU;rw[if_pos h])) λi1=>?_;refine aF (s:=[(false,.bool)]) (NQ hs _) ?_;refine fK (λh=>badH (by decide) (by unfold xU;rw[if_neg (by rw[i1];decide),if_pos h])) λi2=>?_;have n1:¬ sH y.1=false:=by rw[i1];decide
  have n2:¬ xV d y.2.1=false:=by rw[i2];decide
  refine cA (λh=>badH (by decide) (by unfold xU;rw[if_neg n1,if_neg n2,if_pos (.inl h)])) λh3=>?_;refine cA (λh=>badH (by decide) (by unfold xU;rw[if_neg n1,if_neg n2,if_pos (.inr h)])) λh4=>?_;have n3:¬ (VS y<1\/10000<VS y):=by rintro (h|h);exact h3 h;exact h4 h
  refine aF (s:=[(false,.any)]) (SG (a0:=jN y)) ?_;refine J2 (b:=q7 (jN y)) (by rw[ae];exact AZL hp1) _ ?_;refine fK (λh=>badH (by decide) (by unfold xU;rw[if_neg n1,if_neg n2,if_neg n3,if_pos (.inl h)])) λh5=>?_;refine aF (s:=[(false,.any)]) (SG (a0:=gG y)) ?_;refine J2 (b:=q7 (gG y)) (by rw[ae];exact AZL (l:=gG y) hp2) _ ?_;refine fK (λh=>badH (by decide) (by unfold xU;rw[if_neg n1,if_neg n2,if_neg n3,if_pos (.inr h)])) λh6=>?_;have hh:xU d y=0:=by unfold xU;rw[if_neg n1,if_neg n2,if_neg n3,if_neg];rintro (h|h);(rw[h5] at h;cases h);(rw[h6] at h;cases h)
  have hnd:=ANP h6;clear badH n1 n2 n3 h3 h4 h5 h6 i1 i2;rw[if_neg (λh=>h hh)] at hr;refine jU (r:=.bool) rfl es _ ?_;refine bK (jN y).length (λj s=>∃ S',s.1=(j:Int)/\Seen s.2.1 (λx=>x∈S')/\instE d y.2.1 ((jN y).drop j) S'=instE d y.2.1 (jN y) S) ⟨S,rfl,hseen,rfl⟩ ?_;rintro Y j ⟨i,es',u⟩ hj ⟨S',rfl,hseen',hi⟩ hY;dsimp only at hseen' hi ⊢;refine cA (λhjl=>?_) λhjl=>?_
  ·rw[ae] at hjl;replace hjl:(j:Int)<((jN y).length:Int):=hjl;have hjl:j<(jN y).length:=by omega
   rw[bD (r:=.str) hjl];rw[drop_eq_getElem_cons hjl,instE] at hi;have badI:∀ {n:Int},n≠0->(instE d y.2.1 (jN y) S).1=n->T.v (.int .i64 n)=T.v (.int .i64 (jO d)):=λhn h=>by
    refine bad hn ?_;rw[if_pos (by rw[h];exact hn)] at hr;rw[<-hr];exact h
   have hw:i64.wrap ((j:Int)+1)=((j+1:Nat):Int):=bG _ (by omega) (by omega);generalize (jN y)[j]=id at hi ⊢;refine BHZ (λ_ hn=>badI (by decide) ?_) λi q hq _ hn=>?_
   ·have hn:partOf d id=none:=hn;rw[hn] at hi;rw[<-hi]
   ·have hn:partOf d id=some d.2.2.1[q]:=hn;rw[hn] at hi;rw[bD (r:=aK) hq];obtain ⟨p,hp⟩:∃ p,p=d.2.2.1[q]:=⟨_,rfl⟩
    rw[<-hp] at hi hn ⊢;dsimp only at hi;have fin:¬ (¬ fZ p=4/\¬ fZ p=3)->aJ [(false,Sy.str.li),(false,Sy.bool)]
      (kW (mK d (iR (ids d.2.1)) (iR (ids d.2.2.1)) (iR (ids d.2.2.2.1)) (iR (ids d.2.2.2.2.1)) (nL p))) λ(y18:List iII×Bool) =>
      aC (decide (((List.map Sy.str.enc y18.1).length:Int)=0)) (T.v (.int .i64 2)=T.v (.int .i64 (jO d)))
       (aR Sy.str (List.map Sy.str.enc y18.1) (i64.wrap (((List.map Sy.str.enc y18.1).length:Int)-1)) λ(y19:iII) =>
        aC (!decide (y19=y.2.1)) (T.v (.int .i64 2)=T.v (.int .i64 (jO d)))
        (gW TypeDesc.string (Value.string id) (List.map (b8 Sy.str false Sy.bool) es') false Sy.bool
         (lC (Option (Nat×D)) (findD TypeDesc.string (Value.string id) (List.map (b8 Sy.str false Sy.bool) es') 0) λ(y24:Option (Nat×D)) =>
          dA Sy.str false Sy.bool (eJ (List.map (b8 Sy.str false Sy.bool) es') y24 (Value.string id) (D.p (T.v (.bool true)))) λ(y25:List (iII×Bool))=>Y (i64.wrap ((j:Int)+1),y25,()))
         λ(i20:Nat) (y21:Bool)=>aC y21 (T.v (.int .i64 7)=T.v (.int .i64 (jO d)))
          (lC (Option (Nat×D)) (findD TypeDesc.string (Value.string id) (List.map (b8 Sy.str false Sy.bool) es') 0) λ(y22:Option (Nat×D)) =>
           dA Sy.str false Sy.bool (eJ (List.map (b8 Sy.str false Sy.bool) es') y22 (Value.string id) (D.p (T.v (.bool true)))) λ(y23:List (iII×Bool))=>Y (i64.wrap ((j:Int)+1),y23,())))):=by
     intro hk;rw[if_neg hk] at hi;refine aF (s:=[(false,.li .str),(false,.bool)]) (IW hs _) ?_;have hul:=BFE d (nL p);refine BH0 (A:=True) (b:=y.2.1) (by omega) (λ_=>trivial) (λ_=>trivial) (λh=>badI (by decide) ?_) λh=>?_
     ·rw[if_neg h] at hi;rw[<-hi]
     ·rw[if_pos h] at hi;refine BIO (K:=λes=>Y (i64.wrap ((j:Int)+1),es,())) hseen' (λh7=>badI (by decide) ?_) λes2 h7 hs2=>?_
      ·rw[if_pos (EK.2 h7)] at hi;rw[<-hi]
      ·rw[if_neg (λh=>h7 (EK.1 h))] at hi;rw[hw];exact hY _ hjl ⟨id::S',rfl,hs2,hi⟩
    refine kX (λk4=>?_) λk4=>?_
    ·refine kX (λk3=>badI (by decide) ?_) λk3=>?_
     ·rw[if_pos ⟨k4,k3⟩] at hi;rw[<-hi]
     ·rw[bD (r:=aK) hq,<-hp];exact fin λh=>h.2 k3
    ·rw[bD (r:=aK) hq,<-hp];exact fin λh=>h.1 k4
  ·rw[ae] at hjl;replace hjl:¬ (j:Int)<((jN y).length:Int):=hjl;have hjl:j=(jN y).length:=by omega
   subst hjl;rw[drop_length,instE] at hi;rw[<-hi,if_neg (by simp)] at hr;dsimp only at hr;clear hY hi hj;rw[dH rfl];refine bK (gG y).length (λj s=>s.2.1=(j:Int)/\s.1.length=E.length+j/\(∀ x∈(gG y).take j,x∈ids d.2.2.2.2.1)/\UI d y.1 k ((gG y).drop j) s.1=UI d y.1 k (gG y) E) ⟨rfl,by simp,by simp,rfl⟩ ?_;rintro Y j ⟨E',i,u⟩ hj ⟨rfl,hEl,hin,hi⟩ hY;dsimp only at hEl hin hi ⊢;have hjk:j<=64:=by
    have h1:=AKN (hnd.sublist (List.take_sublist j _)) hin;have h2:(ids d.2.2.2.2.1).length=d.2.2.2.2.1.length:=by simp[ids]
    rw[length_take] at h1;omega
   refine cA (λhjl=>?_) λhjl=>?_
   ·rw[ae] at hjl;replace hjl:(j:Int)<((gG y).length:Int):=hjl;have hjl:j<(gG y).length:=by omega
    rw[bD (r:=.str) hjl];rw[drop_eq_getElem_cons hjl,UI] at hi;have badA:∀ {n:Int},n≠0->(UI d y.1 k (gG y) E).1=n->T.v (.int .i64 n)=T.v (.int .i64 (jO d)):=λhn h=>by
     refine bad hn ?_;rw[if_pos (by rw[h];exact hn)] at hr;rw[<-hr];exact h
    have hw:i64.wrap ((j:Int)+1)=((j+1:Nat):Int):=bG _ (by omega) (by omega);have hts:(gG y).take (j+1)=(gG y).take j++[(gG y)[j]]:=List.take_succ_eq_append_getElem hjl;generalize (gG y)[j]=id at hi hts ⊢;refine cA (λh=>badA (by decide) ?_) λh=>?_
    ·rw[if_pos h] at hi;rw[<-hi]
    rw[if_neg h] at hi;refine BHZ (λhg _=>badA (by decide) ?_) λi q hq hg hfi=>?_
    ·rw[hg] at hi;rw[<-hi]
    ·rw[hg] at hi;dsimp only at hi;refine ⟨by simp;omega,?_⟩;rw[F4 (r:=aA) rfl E' [T.v (.int .i64 (q:Int)),T.v (.int .i64 (k:Int))] ((q:Int),(k:Int)) rfl,hw];refine hY _ hjl ⟨rfl,by simp only[List.length_append,length_cons,List.length_nil];omega,λx hx=>?_,hi⟩;rw[hts] at hx;rcases mem_append.1 hx with hx|hx
     ·exact hin x hx
     ·have hx:x=id:=by simpa using hx
      subst hx;have h9:=List.find?_some hfi;exact List.mem_map.2 ⟨_,ak hq,of_decide_eq_true h9⟩
   ·rw[ae] at hjl;replace hjl:¬ (j:Int)<((gG y).length:Int):=hjl;have hjl:j=(gG y).length:=by omega
    subst hjl;rw[drop_length,UI] at hi;rw[<-hi,if_neg (by simp)] at hr;dsimp only at hr;rw[dH rfl];refine jU (r:=.bool) rfl es' _ ?_;refine hX _ hlt ⟨S',?_,hseen',?_,?_⟩
    ·show i64.wrap ((k:Int)+1)=_;rw[bG]<;>omega
    ·show E'.length<=_;omega
    ·rw[<-hr];rfl
 ·rw[ae] at hge;have hkl:k=d.2.2.2.2.1.length:=by omega
  subst hkl;rw[drop_length,oG] at hr;have w:jO d=if (lW d.2.2.2.2.1.length E).2=0 then 0 else 20:=by
   unfold jO;rw[<-hr,if_pos rfl]
  refine aF (s:=[(false,.li (.int .i64)),(false,.int .i64)]) (y:=lW d.2.2.2.2.1.length E) (by rw[ae];exact (AGR ..).trans (j2 (l:=E) _ (by omega))) ?_;exact kX (λh=>is (by rw[w,if_neg h])) λh=>is (by rw[w,if_pos h])
def JY {a:Option MP} {es:MP} {K:MP->Prop} (h:a=some es) (hk:K es):lC (List (iII×Int)) a K:=⟨es,h,hk⟩
noncomputable def RZ:List T->Option (List (iII×Int)):=APL
def BB5:kK Tryz.prog 118 (sE RZ):=BHQ
noncomputable def A93:Env:=Env.of [(84,.pure xG),(85,.pure iH),(118,.AOJ RZ),(87,.pure NO),(88,.pure xC),(89,.pure tI),(90,.pure xD),(91,.pure tH),(92,.pure xB)]
def BAI:FuncId->Hint:=λ_=>bA
def ATH:aV Tryz.prog A93:=.cons AOR (.cons yV (.cons BB5 (.cons A6L (.cons AOL (.cons AOP (.cons AOM (.cons AOO (.cons AOK (.nil _)))))))))
def BK8(a0:aB):List T:=[T.ref [T.ref [T.sl false (BKY a0), T.sl false (BKR a0), T.sl false (BKW a0), T.sl false (BKV a0), T.sl false (BK0 a0), pPQ a0.1].reverse].reverse]
def AEO(a0:aB)(a1:aI)(R:T->Prop):Prop:=aJ BJ7 (xG [aG true aM a1]) λ(y0:Int)=>aC (!decide (y0=0)) (R (BLL y0)) (aJ BJ8 (iH [pPQ a0.1]) λ(y1:Bool)=>aC (!y1) (R BKH) (lC (List aE) (RZ [T.fn 119 [].reverse (BK8 a0).reverse, pPP (↑(BK0 a0).length:Int)].reverse) λ(y2:List aE)=>lC (List aE) (RZ [T.fn 120 [].reverse (BK8 a0).reverse, pPP (↑(BKV a0).length:Int)].reverse) λ(y3:List aE)=>lC (List aE) (RZ [T.fn 121 [].reverse (BK8 a0).reverse, pPP (↑(BKW a0).length:Int)].reverse) λ(y4:List aE)=>lC (List aE) (RZ [T.fn 122 [].reverse (BK8 a0).reverse, pPP (↑(BKR a0).length:Int)].reverse) λ(y5:List aE)=>aJ BJ7 (NO [T.ref [T.ref (BLU a0), T.mp (bO y2),T.mp (bO y3),T.mp (bO y4), T.mp (bO y5)]]) λ(y6:Int)=>aC (!decide (y6=0)) (R (BLL y6)) (aJ BJ7 (xC [T.ref [T.ref (BK2 a0), T.mp (bO y2),T.mp (bO y3),T.mp (bO y4), T.mp (bO y5)]]) λ(y7:Int)=>aC (!decide (y7=0)) (R (BLL y7)) (aJ BJ7 (tI [T.ref [T.ref (BK2 a0), T.mp (bO y2),T.mp (bO y3),T.mp (bO y4), T.mp (bO y5)], aG true aM a1]) λ(y8:Int)=>aC (!decide (y8=0)) (R (BLL y8)) (aJ BJ7 (xD [T.ref (BLS a0 y2 y3 y4 y5)]) λ(y9:Int)=>aC (!decide (y9=0)) (R (BLL y9)) (aJ BJ7 (tH [T.ref (BLS a0 y2 y3 y4 y5)]) λ(y10:Int)=>aC (!decide (y10=0)) (R (BLL y10)) (aJ BJ7 (xB [T.ref (BLS a0 y2 y3 y4 y5)]) λ(y11:Int)=>R (BLL y11))))))))
abbrev AH9:Sh:=[(true,aD),(true,aM)]
def iP (d:aB) (m:aI):Int:=if ¬ AM m=0 then AM m else if isName d.1=false then 6 else if ¬ oM d=0 then oM d else if ¬ lV d=0 then lV d else if ¬ lX d m=0 then lX d m else if ¬ cH (wE d) d.2.2.2.1=0 then cH (wE d) d.2.2.2.1 else if ¬ jO d=0 then jO d else cH (xZ d) d.2.2.2.2.2
def J4 (x:aB×aI):Option T:=some (T.v (Value.int .i64 (iP x.1 x.2)))
noncomputable def cT:List T->Option T:=gS AH9 J4
def fX {a0 a1}:cT [aG true aD a0,aG true aM a1]=J4 (a0,a1):=bI (s:=AH9) rfl (a0,a1) rfl
def A7U:rJ Tryz.prog 65 cT J4 (cC AH9) AEO:=gZ (a1:=(true,aD)) (a2:=(true,aM)) (sp:=J4) (F:=AEO) (Hs:=BAI) (f:=65) (k:=8) ATH aY a7 (aO rfl) ⟨_,_,Tryz.func65,rfl⟩ rfl λ_ _ _=>by kernel_rfl
def A7C (h:AM m=0):okM m=true:=by
 unfold AM at h;split at h
 ·cases h
 rename_i h1;split at h
 ·rename_i h2;exact absurd h h2
 rename_i h2;have h2:cH (xS m) (range m.1.length)=0:=Classical.byContradiction h2;simp only[okM,ac,ah,all_eq_true];refine ⟨⟨by omega,by omega⟩,λg hg=>?_⟩;obtain ⟨i,hi,rfl⟩:=List.mem_iff_getElem.1 hg;have h3:=w6 h2 i (List.mem_range.2 hi);unfold xS at h3;rw[u7 hi] at h3;have h4:jM m.1[i]=0:=by
  refine Classical.byContradiction λhc=>?_;rw[if_pos hc] at h3;exact hc h3
 unfold jM at h4;split at h4
 ·cases h4
 split at h4
 ·cases h4
 split at h4
 ·cases h4
 split at h4
 ·cases h4
 ·omega
def A5S {d:aB} (hs:nP d) (hm:okM m=true):tI (oK d (iR (ids d.2.1)) (iR (ids d.2.2.1)) (iR (ids d.2.2.2.1)) (iR (ids d.2.2.2.2.1)) m)=some (T.v (Value.int .i64 (lX d m))):=by
 rw[AAD];unfold uE;dsimp only;rw[hm];exact oU hs _
def A5R {d:aB} (hs:nP d) (hk:zJ d=true):tH (oJ d (iR (ids d.2.1)) (iR (ids d.2.2.1)) (iR (ids d.2.2.2.1)) (iR (ids d.2.2.2.2.1)))=some (T.v (Value.int .i64 (jO d))):=by
 rw[AAC];unfold uD;dsimp only;rw[hk];exact oU hs _
def j8:aP Tryz.prog 65 cT:=A7U λd m r h hb=>by
 cases h;have hd:BdS aD d:=hb.1;have hs:nP d:=⟨hd.2.1.1,hd.2.2.1.1,hd.2.2.2.1.1,hd.2.2.2.2.1.1,hd.2.2.2.2.2.1⟩
 have hkl:∀ k∈d.2.2.2.2.1,(jN k).length<=140737488355328/\(gG k).length<=140737488355328:=λk hk=>by
  have h:=hd.2.2.2.2.1.2 k hk;exact ⟨h.2.2.1.1,h.2.2.2.2.1⟩
 clear hd;have is:∀ {n:Int},iP d m=n->pPP n=pPP (iP d m):=λh=>by rw[h]
 unfold AEO BLU BLS BK8 BK2 BK0 BKW BKV BKR BKY BLL BKH BJ8 BJ7;refine aF (s:=[(false,.int .i64)]) (y:=AM m) (AAK ..) ?_;refine kX (λh=>is (by unfold iP;rw[if_pos h])) λh0=>?_;have hm:=A7C h0;refine aF (s:=[(false,.bool)]) (y:=isName d.1) xE ?_;have n0:¬ ¬ AM m=0:=λh=>h h0;refine fK (λh=>is (by unfold iP;rw[if_neg n0,if_pos h])) λhn=>?_;have n1:¬ isName d.1=false:=by rw[hn];decide
 refine JY (es:=iR (ids d.2.1)) (by rw[ae];exact BCR hs.n) ?_;refine JY (es:=iR (ids d.2.2.1)) (by rw[ae];exact BCS hs.p) ?_;refine JY (es:=iR (ids d.2.2.2.1)) (by rw[ae];exact BCT hs.s) ?_;refine JY (es:=iR (ids d.2.2.2.2.1)) (by rw[ae];exact BCU hs.k) ?_;refine aF (s:=[(false,.int .i64)]) (y:=oM d) ((APK ..).trans (oU hs _)) ?_;refine kX (λh=>is (by unfold iP;rw[if_neg n0,if_neg n1,if_pos h])) λh1=>?_;have n2:¬ ¬ oM d=0:=λh=>h h1;have hk:zJ d=true:=by
  simp only[zJ,ac,ah,all_eq_true];refine ⟨hkl,?_⟩;have hlong:nE d=false:=by
   rw[Bool.eq_false_iff];intro h;unfold oM at h1;rw[if_pos h] at h1;cases h1
  simp only[nE,Bool.or_eq_false_iff,decide_eq_false_iff_not] at hlong;omega
 refine aF (s:=[(false,.int .i64)]) (y:=lV d) ((Z9 ..).trans (oU hs _)) ?_;refine kX (λh=>is (by unfold iP;rw[if_neg n0,if_neg n1,if_neg n2,if_pos h])) λh2=>?_;have n3:¬ ¬ lV d=0:=λh=>h h2;refine aF (s:=[(false,.int .i64)]) (y:=lX d m) (A5S hs hm) ?_;refine kX (λh=>is (by unfold iP;rw[if_neg n0,if_neg n1,if_neg n2,if_neg n3,if_pos h])) λh3=>?_;have n4:¬ ¬ lX d m=0:=λh=>h h3;refine aF (s:=[(false,.int .i64)]) (y:=cH (wE d) d.2.2.2.1) ((AAA ..).trans (oU hs _)) ?_;refine kX (λh=>is (by unfold iP;rw[if_neg n0,if_neg n1,if_neg n2,if_neg n3,if_neg n4,if_pos h])) λh4=>?_;have n5:¬ ¬ cH (wE d) d.2.2.2.1=0:=λh=>h h4;refine aF (s:=[(false,.int .i64)]) (y:=jO d) (A5R hs hk) ?_;refine kX (λh=>is (by unfold iP;rw[if_neg n0,if_neg n1,if_neg n2,if_neg n3,if_neg n4,if_neg n5,if_pos h])) λh5=>?_;have n6:¬ ¬ jO d=0:=λh=>h h5;refine aF (s:=[(false,.int .i64)]) (y:=cH (xZ d) d.2.2.2.2.2) ((Z8 ..).trans (oU hs _)) ?_;exact is (by unfold iP;rw[if_neg n0,if_neg n1,if_neg n2,if_neg n3,if_neg n4,if_neg n5,if_neg n6])
def jX (after:α->α->Bool) (l:List α) (x:α):List α:=l.take (l.findIdx λy=>after y x)++x::l.drop (l.findIdx λy=>after y x)
def gV (is:α->Bool) (l:List α):List α:=l.take (l.findIdx is)++l.drop (l.findIdx is+1)
variable {after:α->α->Bool}{y:α}
def DR {l:List α} {x:α}:y∈jX after l x↔y=x\/y∈l:=by
 unfold jX;rw[mem_append,mem_cons];constructor
 ·rintro (h|h|h)
  ·exact .inr (List.mem_of_mem_take h)
  ·exact .inl h
  ·exact .inr (List.mem_of_mem_drop h)
 ·rintro (h|h)
  ·exact .inr (.inl h)
  ·rw[<-List.take_append_drop (l.findIdx λy=>after y x) l,mem_append] at h;rcases h with h|h
   ·exact .inl h
   ·exact .inr (.inr h)
variable {is:α->Bool}
def C0 {l:List α} (h:y∈gV is l):y∈l:=by
 unfold gV at h;rcases mem_append.1 h with h|h
 ·exact List.mem_of_mem_take h
 ·exact List.mem_of_mem_drop h
def AZS {l:List α} {x:α}:(jX after l x).length=l.length+1:=by
 unfold jX;have:l.findIdx (λy=>after y x)<=l.length:=List.findIdx_le_length;rw[List.length_append,length_cons,length_take,List.length_drop];omega
def ZM {l:List α}:(gV is l).length<=l.length:=by
 unfold gV;rw[List.length_append,length_take,List.length_drop];omega
abbrev BI4:Type:=iII×iII×bQ×a8×bT×aQ×bM
abbrev oZ:Type:=aB×aI×BI4
abbrev fD (x:aX):iII:=x.2.1
abbrev eTo (x:aX):iII:=x.2.2.1
abbrev sX (x:aX):bQ:=x.2.2.2.1
abbrev cI (x:aX):a8:=x.2.2.2.2.1
abbrev sY (x:aX):bT:=x.2.2.2.2.2.1
abbrev iQ (x:aX):aQ:=x.2.2.2.2.2.2.1
abbrev nN (x:aX):bM:=x.2.2.2.2.2.2.2
def nX:iII:=⟨#[]⟩
def pD:bM:=(0,⟨#[]⟩,⟨#[]⟩)
def qY:aB:=(⟨#[]⟩,[],[],[],[],[])
def bU (x:aX):aX :=
 if x.1=1 then (x.1,nX,nX,sX x,dV,iC,noPack,pD)
 else if x.1=3\/x.1=5 then (x.1,nX,nX,iB,cI x,iC,noPack,pD)
 else if x.1=6 then (x.1,fD x,eTo x,iB,dV,iC,noPack,pD)
 else if x.1=7 then (x.1,nX,nX,iB,dV,sY x,noPack,pD)
 else if x.1=9 then (x.1,nX,nX,iB,dV,iC,iQ x,pD)
 else if x.1=11\/x.1=12 then (x.1,nX,nX,iB,dV,iC,noPack,nN x)
 else (x.1,fD x,nX,iB,dV,iC,noPack,pD)
def dQ (d:aB) (x:aX):Bool :=
 if x.1=1 then (iD d (sX x).1).isSome
 else if x.1=2 then (iD d (fD x)).isSome
 else if x.1=3\/x.1=5 then (partOf d (cI x).1).isSome
 else if x.1=4\/x.1=6 then (partOf d (fD x)).isSome
 else if x.1=7 then (yD d (sY x).1).isSome
 else if x.1=8 then (yD d (fD x)).isSome
 else if x.1=9 then (mZ d (iQ x).1).isSome
 else if x.1=10 then (mZ d (fD x)).isSome
 else d.2.2.2.2.2.any λn=>decide (n=nN x)
def kL (x:aX):Bool:=decide (x.1=1)||decide (x.1=3)||decide (x.1=7)||decide (x.1=9)||decide (x.1=11)
def gtS (a b:iII):Bool:=cD b a
def eM (a b:iII×α):Bool:=gtS a.1 b.1
def BM (a b:bM):Bool:=ltN b a
def HW (a:iII):cD a a=false:=by
 rw[Bool.eq_false_iff];intro h;exact lt_irrefl _ ((nB a a).1 h)
def BE6 {a b c:iII} (h1:cD a b=true) (h2:cD b c=true):cD a c=true:=(nB a c).2 (lt_trans ((nB a b).1 h1) ((nB b c).1 h2))
def cV (id:iII) (a:iII×α):Bool:=decide (a.1=id)
def AG4 (l:List iII) (x:iII):Bool:=l.any λy=>decide (y=x)
def lH (d:aB) (id:iII):Bool:=(d.2.2.1.any λp=>decide (nL p=id))||((d.2.1.any λn=>decide (n.2.2=id))||((d.2.2.2.2.1.any λk=>decide (k.2.1=id))||(d.2.2.2.2.2.any λn=>decide (n.2.1=id)||(decide (n.2.2=id) && !decide (n.1=3)))))
def oX (d:aB) (id:iII):Bool:=(d.2.2.2.1.any λs=>decide (s.2.1=id)||decide (s.2.2.1=id))||(d.2.2.2.2.1.any λk=>AG4 k.2.2.1 id)
def qX (d:aB) (id:iII):Bool:=((gV (cV id) d.2.2.2.2.1).any λk=>AG4 k.2.2.2.2 id)||(d.2.2.2.2.2.any λn=>decide (n.1=3)&&decide (n.2.2=id))
def kQ (d:aB) (x:aX):Bool:=if x.1=2 then lH d (fD x) else if x.1=4 then oX d (fD x) else if x.1=10 then qX d (fD x) else false
def AH7 (p old:a8):a8:=(p.1,i64.wrap (old.2.1+1),p.2.2)
def AHI (p:a8) (id:iII):a8:=(p.1,p.2.1,p.2.2.1,id,p.2.2.2.2)
def JW (is:α->Bool) (f:α->α) (l:List α):List α:=l.modify (l.findIdx is) f
def mI (d:aB) (x:aX):aB :=
 if x.1=1 then (d.1,jX eM d.2.1 (sX x),d.2.2)
 else if x.1=2 then (d.1,gV (cV (fD x)) d.2.1,d.2.2)
 else if x.1=3 then (d.1,d.2.1,jX eM d.2.2.1 (cI x),d.2.2.2)
 else if x.1=4 then (d.1,d.2.1,gV (cV (fD x)) d.2.2.1,d.2.2.2)
 else if x.1=5 then (d.1,d.2.1,JW (cV (cI x).1) (AH7 (cI x)) d.2.2.1,d.2.2.2)
 else if x.1=6 then (d.1,d.2.1,JW (cV (fD x)) (λp=>AHI p (eTo x)) d.2.2.1,d.2.2.2)
 else if x.1=7 then (d.1,d.2.1,d.2.2.1,jX eM d.2.2.2.1 (sY x),d.2.2.2.2)
 else if x.1=8 then (d.1,d.2.1,d.2.2.1,gV (cV (fD x)) d.2.2.2.1,d.2.2.2.2)
 else if x.1=9 then (d.1,d.2.1,d.2.2.1,d.2.2.2.1,jX eM d.2.2.2.2.1 (iQ x),d.2.2.2.2.2)
 else if x.1=10 then (d.1,d.2.1,d.2.2.1,d.2.2.2.1,gV (cV (fD x)) d.2.2.2.2.1,d.2.2.2.2.2)
 else if x.1=11 then (d.1,d.2.1,d.2.2.1,d.2.2.2.1,d.2.2.2.2.1,jX BM d.2.2.2.2.2 (nN x))
 else (d.1,d.2.1,d.2.2.1,d.2.2.2.1,d.2.2.2.2.1,gV (λn=>decide (n=nN x)) d.2.2.2.2.2)
noncomputable def bJ (d:aB) (m:aI) (x:aX):aB×Int :=
 if ¬ (1<=x.1/\x.1<=12) then (qY,10)
 else if nJ x (bU x)=false\/(x.1=5/\¬ (cI x).2.1=0) then (qY,2)
 else if kL x=true/\dQ d x=true then (qY,7)
 else if kL x=false/\dQ d x=false then (qY,8)
 else if x.1=5/\¬ nL (found dV (partOf d (cI x).1)).1=nL (cI x) then (qY,2)
 else if kQ d x=true then (qY,34)
 else if iP (mI d x) m=0 then (mI d x,0) else (qY,iP (mI d x) m)
structure P5 (d:aB) (m:aI) (x:aX):Prop where
 kind:1<=x.1/\x.1<=12
 plain:x=bU x
 rev:x.1=5->(cI x).2.1=0
 there:dQ d x = !kL x
 node:x.1=5->nL (found dV (partOf d (cI x).1)).1=nL (cI x)
 free:kQ d x=false
 chk:iP (mI d x) m=0
 eq:bJ d m x=(mI d x,0)
def AJZ {d:aB} {x:aX} (h:(bJ d m x).2=0):P5 d m x:=by
 have h0:=h;unfold bJ at h;split at h
 ·cases h
 rename_i h1;split at h
 ·cases h
 rename_i h2;split at h
 ·cases h
 rename_i h3;split at h
 ·cases h
 rename_i h4;split at h
 ·cases h
 rename_i h5;split at h
 ·cases h
 rename_i h6;split at h
 ·rename_i h7;have h1:1<=x.1/\x.1<=12:=Classical.byContradiction h1;refine ⟨h1,Classical.byContradiction λhc=>h2 (.inl (BT hc)),λhk=>Classical.byContradiction λhc=>h2 (.inr ⟨hk,hc⟩),?_,λhk=>Classical.byContradiction λhc=>h5 ⟨hk,hc⟩,by simpa using h6,h7,?_⟩
  ·cases ha:kL x<;>cases ht:dQ d x
   ·exact absurd ⟨ha,ht⟩ h4
   ·rfl
   ·rfl
   ·exact absurd ⟨ha,ht⟩ h3
  ·unfold bJ;rw[if_neg (λh=>h h1),if_neg h2,if_neg h3,if_neg h4,if_neg h5,if_neg h6,if_pos h7]
 ·rename_i h7;exact absurd h h7
def okS (s:iII):Bool:=decide (s.size<=1099511627776)
def VI (l:List iII) (x:iII):Bool:=l.any λy=>decide (y=x)
def E3 (x:List iII×iII):Option T:=some (Sh.enc kO (VI x.1 x.2))
noncomputable def A3H:Env:=Env.of []
def A4Z:FuncId->Hint:=b6 22 [(2,.inv [.val 5 false (.int .i64)])] (λ_=>bA)
def AML:aV Tryz.prog A3H:=.nil _
def T0(a0:List iII)(a1:iII)(R:T->Prop):Prop:=bB (Int×PUnit) (λX0 s1=>aC (decide (s1.1<(↑(List.map Sy.str.enc a0).length:Int))) (aR Sy.str (List.map Sy.str.enc a0) s1.1 λ(y2:iII)=>aC (decide (y2=a1)) (R BKA) (BKS X0 s1)) (R BJ5)) (0,())
abbrev WC:Sh:=[(false,Sy.str.li),(false,Sy.str)]
noncomputable def pH:List T->Option T:=gS WC E3
def NP {a0 a1}:pH [T.sl false (List.map Sy.str.enc a0),pPQ a1]=E3 (a0,a1):=bI (s:=WC) rfl (a0,a1) rfl
def A0W:rJ Tryz.prog 22 pH E3 (cC WC) T0:=gZ (a1:=(false,Sy.str.li)) (a2:=(false,Sy.str)) (sp:=E3) (F:=T0) (Hs:=A4Z) (f:=22) (k:=8) AML aY a7 (aO rfl) ⟨_,_,Tryz.func22,rfl⟩ rfl λ_ _ _=>by kernel_rfl
def AFH {p:α->Bool} {l:List α} {k:Nat} (h:k<l.length):(l.drop k).any p=(p l[k]||(l.drop (k+1)).any p):=by rw[drop_eq_getElem_cons h,List.any_cons]
def ZX:aP Tryz.prog 22 pH:=A0W λl x r h hb=>by
 cases h;have hl:l.length<=2 ^ 47:=hb.1.1;unfold T0 BKS BKA BJ5;refine bK l.length (λk s=>s=((k:Int),())/\VI l x=(l.drop k).any λy=>decide (y=x)) ⟨rfl,rfl⟩ ?_;rintro X k s hk ⟨rfl,he⟩ hX;dsimp only;by_cases hlt:k<l.length
 ·rw[AFH hlt] at he;refine eN (by simp[hlt]) ?_;rw[bD (r:=.str) hlt];by_cases h1:l[k]=x
  ·refine eN h1 ?_;rw[he,ai h1];rfl
  ·refine gK h1 (hX _ hlt ⟨by rw[show i64.wrap ((k:Int)+1)=((k+1:Nat):Int) from bG _ (by omega) (by omega)],?_⟩);rw[he,aj h1,Bool.false_or]
 ·have:k=l.length:=by omega
  subst this;refine gK (by simp) ?_;rw[he,drop_length];rfl
structure BI5 (d:aB):Prop where
 few:few d 1000=true
 n:d.2.1.length<=1000
 p:d.2.2.1.length<=1000
 s:d.2.2.2.1.length<=1000
 k:d.2.2.2.2.1.length<=1000
 r:d.2.2.2.2.2.length<=1000
 kl:∀ k∈d.2.2.2.2.1,(jN k).length<=1000/\(gG k).length<=1000
 I4:I4 d=true
 HA:HA d=true
structure UOk (d:aB):Prop extends BI5 d where
 nI:∀ n∈d.2.1,okS n.1=true
 pI:∀ p∈d.2.2.1,okS p.1=true/\okS (nL p)=true
 sI:∀ s∈d.2.2.2.1,okS s.1=true/\okS s.2.1=true/\okS s.2.2.1=true
 kI:∀ k∈d.2.2.2.2.1,okS k.1=true
def pZ (a b:iII):(!(cD b a||decide (b=a)))=cD a b:=by
 rw[Bool.eq_iff_iff];refine ⟨λh=>(nB a b).2 (AJS h),λh=>?_⟩;have h1:=(nB a b).1 h;have h2:cD b a=false:=by
  rw[Bool.eq_false_iff];intro h3;exact lt_irrefl _ (lt_trans h1 ((nB b a).1 h3))
 have h3:¬ b=a:=λe=>by rw[e] at h1;exact lt_irrefl _ h1
 rw[h2,aj h3];rfl
def dk {l:List iII} {rows:List (List T)} {K:List iII->Prop} (e:rows=List.map Sy.str.enc l) (h:K l):dM Sy.str rows K:=by
 subst e;rw[dH (r:=.str) rfl];exact h
def cP {r:Sy} {l:List r.den} (p:r.den->Bool) {Body:(Int×PUnit->Prop)->Int×PUnit->r.den->Prop} {Fin:Prop} (hl:l.length<=140737488355328)
  (hB:∀ (X:Int×PUnit->Prop) (k:Nat) (y:r.den) (h:k<l.length),l[k]=y->(p y=true->l.findIdx p=k/\l.any p=true)->(p y=false->X (i64.wrap ((k:Int)+1),()))->Body X ((k:Int),()) y)
  (hF:l.findIdx p=l.length->l.any p=false->Fin) :
  bB (Int×PUnit) (λX s=>aC (decide (s.1<((List.map r.enc l).length:Int))) (aR r (List.map r.enc l) s.1 λy=>Body X s y) Fin) (0,()):=by
 refine bK l.length (λk s=>s=((k:Int),())/\∀ i,(h:i<l.length)->i<k->p l[i]=false) ⟨rfl,λi _ h=>by omega⟩ ?_;rintro X k s hk ⟨rfl,he⟩ hX;dsimp only;refine cA (λhlt=>?_) λhge=>?_
 ·rw[ae] at hlt;have hlt:k<l.length:=by omega
  rw[bD (r:=r) hlt];refine hB X k _ hlt rfl (λhp=>⟨?_,List.any_eq_true.2 ⟨_,ak hlt,hp⟩⟩) λhp=>hX _ hlt ⟨?_,λi hi hik=>?_⟩
  ·exact (List.findIdx_eq hlt).2 ⟨hp,λj hj=>he j (by omega) hj⟩
  ·rw[show i64.wrap ((k:Int)+1)=((k+1:Nat):Int) by rw[bG]<;>omega]
  ·rcases Nat.lt_or_ge i k with h|h
   ·exact he i hi h
   ·have:i=k:=by omega
    subst this;exact hp
 ·rw[ae] at hge;have hall:∀ y∈l,p y=false:=λy hy=>by
   obtain ⟨i,hi,rfl⟩:=List.mem_iff_getElem.1 hy;exact he i hi (by omega)
  exact hF (List.findIdx_eq_length_of_false λy hy=>by simpa using hall y hy) (List.any_eq_false.2 λy hy=>by simp[hall y hy])
def o7 {n:Nat} (h:n<=1000):n<=140737488355328:=by omega
def wV {l:List α} (h:l.findIdx is=l.length):gV is l=l:=by
 unfold gV;rw[h,List.take_length,List.drop_eq_nil_of_le (by omega),List.append_nil]
def sG {r:Sy} {z b k:Nat} {f:Bool} {l:List r.den} {x:r.den} (hz:r.w=z) (hk:k<=l.length) (hl:l.length<=1000) (hb:b<=1000):U6 z b (List.map r.enc l) [.v (.int .i64 (k:Int)),.sl f [r.enc x]]=some (List.map r.enc (l.take k++x::l.drop k)):=by
 unfold U6;have hm:(l.length+1)*b<=1001*1000:=Nat.mul_le_mul (by omega) hb;have hc:(decide (0<=(k:Int))&&decide ((k:Int).toNat<=(List.map r.enc l).length)&&decide ((r.enc x).length=z)&&eQ z (List.map r.enc l)&&decide (((List.map r.enc l).length+1)*b<=140737488355328)&&decide ((List.map r.enc l).length+1<=140737488355328))=true:=by
  subst hz;simp only[ae,Int.toNat_natCast,Sy.cW,sR,ac,ah,and_true];omega
 dsimp only;rw[hc];simp
def F5 {r:Sy} {z k:Nat} {l:List r.den} (hz:r.w=z) (hk:k<l.length) (hl:l.length<=1000):U5 z (List.map r.enc l) [.v (.int .i64 (k:Int)),.v (.int .i64 (i64.wrap ((k:Int)+1)))]=some (List.map r.enc (l.take k++l.drop (k+1))):=by
 unfold U5;have hw:i64.wrap ((k:Int)+1)=(k:Int)+1:=by rw[bG]<;>omega
 have hc:(decide (0<=(k:Int))&&decide (i64.wrap ((k:Int)+1)=(k:Int)+1)&&decide ((k:Int).toNat<(List.map r.enc l).length)&&eQ z (List.map r.enc l))=true:=by
  subst hz;rw[hw];simp only[ae,Int.toNat_natCast,sR,ac,ah,and_true];omega
 dsimp only;rw[hc];simp
def W0 (x:aX):Option T:=some (Sh.enc [(true,aN)] ((x.1,nX,nX,sX x,dV,iC,noPack,pD):aX))
noncomputable def BF4:Env:=Env.of []
def BGQ:FuncId->Hint:=λ_=>bA
def A4I:aV Tryz.prog BF4:=.nil _
def AUY(a0:aX)(R:T->Prop):Prop:=R (T.agg [pPP a0.1,pPQ ({data:=#[]}), pPQ ({data:=#[]}),pPQ a0.2.2.2.1.1, pPP a0.2.2.2.1.2.1, pPQ a0.2.2.2.1.2.2,pPQ ({data:=#[]}), pPP 0,pPP 0, pPQ ({data:=#[]}),pPQ ({data:=#[]}), pPP 0,T.sl false [],T.sl false [], pPQ ({data:=#[]}),pPP 0, pPP 0,pPP 0, pPP 0,pPP 0, pPP 0,pPP 0, pPP 0,pPP 0, pPQ ({data:=#[]}),pPQ ({data:=#[]}), pPQ ({data:=#[]}),pPP 0, pPP 0,pPP 0, pPQ ({data:=#[]}),pPQ ({data:=#[]}),T.sl false [], pPP 0,T.sl false [],pPP 0, pPQ ({data:=#[]}),pPQ ({data:=#[]})])
abbrev A2J:Sh:=[(true,aN)]
noncomputable def R4:List T->Option T:=gS A2J W0
def AY6 {a0}:R4 [aG true aN a0]=W0 (a0):=bI (s:=A2J) rfl (a0) rfl
def BEA:wP Tryz.prog 147 R4 W0 (cC A2J) AUY:=jZ (a1:=(true,aN)) (sp:=W0) (F:=AUY) (Hs:=BGQ) (f:=147) (k:=8) A4I aY a7 (aO rfl) ⟨_,_,Tryz.func147,rfl⟩ rfl λ_ _=>by kernel_rfl
def BB7:aP Tryz.prog 147 R4:=BEA λx r h hb=>by
 cases h;unfold AUY;rfl
def W7 (x:aX):Option T:=some (Sh.enc [(true,aN)] ((x.1,fD x,nX,iB,dV,iC,noPack,pD):aX))
noncomputable def BF5:Env:=Env.of []
def BGR:FuncId->Hint:=λ_=>bA
def A4J:aV Tryz.prog BF5:=.nil _
def BKQ(a0:aX):T:=T.agg [pPP a0.1,pPQ a0.2.1, pPQ ({data:=#[]}),pPQ ({data:=#[]}), pPP 0,pPQ ({data:=#[]}), pPQ ({data:=#[]}),pPP 0, pPP 0,pPQ ({data:=#[]}), pPQ ({data:=#[]}),pPP 0,T.sl false [], T.sl false [],pPQ ({data:=#[]}),pPP 0, pPP 0,pPP 0, pPP 0,pPP 0, pPP 0,pPP 0, pPP 0,pPP 0, pPQ ({data:=#[]}),pPQ ({data:=#[]}), pPQ ({data:=#[]}),pPP 0, pPP 0,pPP 0, pPQ ({data:=#[]}),pPQ ({data:=#[]}),T.sl false [], pPP 0,T.sl false [],pPP 0, pPQ ({data:=#[]}),pPQ ({data:=#[]})]
def AUZ(a0:aX)(R:T->Prop):Prop:=R (BKQ a0)
abbrev A2K:Sh:=[(true,aN)]
noncomputable def R6:List T->Option T:=gS A2K W7
def AY7 {a0}:R6 [aG true aN a0]=W7 (a0):=bI (s:=A2K) rfl (a0) rfl
def BEB:wP Tryz.prog 155 R6 W7 (cC A2K) AUZ:=jZ (a1:=(true,aN)) (sp:=W7) (F:=AUZ) (Hs:=BGR) (f:=155) (k:=8) A4J aY a7 (aO rfl) ⟨_,_,Tryz.func155,rfl⟩ rfl λ_ _=>by kernel_rfl
def BB8:aP Tryz.prog 155 R6:=BEB λx r h hb=>by
 cases h;unfold AUZ BKQ;rfl
def W8 (x:aX):Option T:=some (Sh.enc [(true,aN)] ((x.1,nX,nX,iB,cI x,iC,noPack,pD):aX))
noncomputable def BF6:Env:=Env.of []
def BGS:FuncId->Hint:=λ_=>bA
def A4K:aV Tryz.prog BF6:=.nil _
def BKU(a0:aX):T:=T.agg [pPP a0.1,pPQ ({data:=#[]}), pPQ ({data:=#[]}),pPQ ({data:=#[]}), pPP 0,pPQ ({data:=#[]}), pPQ a0.2.2.2.2.1.1, pPP a0.2.2.2.2.1.2.1, pPP a0.2.2.2.2.1.2.2.1, pPQ a0.2.2.2.2.1.2.2.2.1, pPQ a0.2.2.2.2.1.2.2.2.2.1, pPP a0.2.2.2.2.1.2.2.2.2.2.1, T.sl false (List.map aA.enc a0.2.2.2.2.1.2.2.2.2.2.2.1.1), T.sl false (List.map aA.li.enc a0.2.2.2.2.1.2.2.2.2.2.2.1.2), pPQ a0.2.2.2.2.1.2.2.2.2.2.2.2.1, pPP a0.2.2.2.2.1.2.2.2.2.2.2.2.2.1, pPP a0.2.2.2.2.1.2.2.2.2.2.2.2.2.2.1, pPP a0.2.2.2.2.1.2.2.2.2.2.2.2.2.2.2.1.1, pPP a0.2.2.2.2.1.2.2.2.2.2.2.2.2.2.2.1.2.1, pPP a0.2.2.2.2.1.2.2.2.2.2.2.2.2.2.2.1.2.2, pPP a0.2.2.2.2.1.2.2.2.2.2.2.2.2.2.2.2.1.1, pPP a0.2.2.2.2.1.2.2.2.2.2.2.2.2.2.2.2.1.2.1, pPP a0.2.2.2.2.1.2.2.2.2.2.2.2.2.2.2.2.1.2.2, pPP a0.2.2.2.2.1.2.2.2.2.2.2.2.2.2.2.2.2, pPQ ({data:=#[]}),pPQ ({data:=#[]}), pPQ ({data:=#[]}),pPP 0, pPP 0,pPP 0, pPQ ({data:=#[]}),pPQ ({data:=#[]}),T.sl false [], pPP 0,T.sl false [],pPP 0, pPQ ({data:=#[]}),pPQ ({data:=#[]})]
def AU0(a0:aX)(R:T->Prop):Prop:=R (BKU a0)
abbrev A2L:Sh:=[(true,aN)]
noncomputable def R8:List T->Option T:=gS A2L W8
def AY8 {a0}:R8 [aG true aN a0]=W8 (a0):=bI (s:=A2L) rfl (a0) rfl
def BEC:wP Tryz.prog 167 R8 W8 (cC A2L) AU0:=jZ (a1:=(true,aN)) (sp:=W8) (F:=AU0) (Hs:=BGS) (f:=167) (k:=8) A4K aY a7 (aO rfl) ⟨_,_,Tryz.func167,rfl⟩ rfl λ_ _=>by kernel_rfl
def BB9:aP Tryz.prog 167 R8:=BEC λx r h hb=>by
 cases h;unfold AU0 BKU;rfl
def W9 (x:aX):Option T:=some (Sh.enc [(true,aN)] ((x.1,fD x,nX,iB,dV,iC,noPack,pD):aX))
noncomputable def BF7:Env:=Env.of []
def BGT:FuncId->Hint:=λ_=>bA
def A4L:aV Tryz.prog BF7:=.nil _
def AU1(a0:aX)(R:T->Prop):Prop:=R (BKQ a0)
abbrev A2M:Sh:=[(true,aN)]
noncomputable def R9:List T->Option T:=gS A2M W9
def AY9 {a0}:R9 [aG true aN a0]=W9 (a0):=bI (s:=A2M) rfl (a0) rfl
def BED:wP Tryz.prog 174 R9 W9 (cC A2M) AU1:=jZ (a1:=(true,aN)) (sp:=W9) (F:=AU1) (Hs:=BGT) (f:=174) (k:=8) A4L aY a7 (aO rfl) ⟨_,_,Tryz.func174,rfl⟩ rfl λ_ _=>by kernel_rfl
def BCA:aP Tryz.prog 174 R9:=BED λx r h hb=>by
 cases h;unfold AU1 BKQ;rfl
def XC (x:aX):Option T:=some (Sh.enc [(true,aN)] ((x.1,nX,nX,iB,dV,sY x,noPack,pD):aX))
noncomputable def BGA:Env:=Env.of []
def BGW:FuncId->Hint:=λ_=>bA
def A4O:aV Tryz.prog BGA:=.nil _
def AU4(a0:aX)(R:T->Prop):Prop:=R (T.agg [pPP a0.1,pPQ ({data:=#[]}), pPQ ({data:=#[]}),pPQ ({data:=#[]}), pPP 0,pPQ ({data:=#[]}), pPQ ({data:=#[]}),pPP 0, pPP 0,pPQ ({data:=#[]}), pPQ ({data:=#[]}),pPP 0,T.sl false [], T.sl false [],pPQ ({data:=#[]}),pPP 0, pPP 0,pPP 0, pPP 0,pPP 0, pPP 0,pPP 0, pPP 0,pPP 0, pPQ a0.2.2.2.2.2.1.1, pPQ a0.2.2.2.2.2.1.2.1, pPQ a0.2.2.2.2.2.1.2.2.1, pPP a0.2.2.2.2.2.1.2.2.2.1, pPP a0.2.2.2.2.2.1.2.2.2.2.1, pPP a0.2.2.2.2.2.1.2.2.2.2.2, pPQ ({data:=#[]}),pPQ ({data:=#[]}),T.sl false [], pPP 0,T.sl false [],pPP 0, pPQ ({data:=#[]}),pPQ ({data:=#[]})])
abbrev A2P:Sh:=[(true,aN)]
noncomputable def SC:List T->Option T:=gS A2P XC
def AZC {a0}:SC [aG true aN a0]=XC (a0):=bI (s:=A2P) rfl (a0) rfl
def BEG:wP Tryz.prog 195 SC XC (cC A2P) AU4:=jZ (a1:=(true,aN)) (sp:=XC) (F:=AU4) (Hs:=BGW) (f:=195) (k:=8) A4O aY a7 (aO rfl) ⟨_,_,Tryz.func195,rfl⟩ rfl λ_ _=>by kernel_rfl
def BCD:aP Tryz.prog 195 SC:=BEG λx r h hb=>by
 cases h;unfold AU4;rfl
def XD (x:aX):Option T:=some (Sh.enc [(true,aN)] ((x.1,fD x,nX,iB,dV,iC,noPack,pD):aX))
noncomputable def BGB:Env:=Env.of []
def BGX:FuncId->Hint:=λ_=>bA
def A4P:aV Tryz.prog BGB:=.nil _
def AU5(a0:aX)(R:T->Prop):Prop:=R (BKQ a0)
abbrev A2Q:Sh:=[(true,aN)]
noncomputable def SD:List T->Option T:=gS A2Q XD
def AZD {a0}:SD [aG true aN a0]=XD (a0):=bI (s:=A2Q) rfl (a0) rfl
def BEH:wP Tryz.prog 203 SD XD (cC A2Q) AU5:=jZ (a1:=(true,aN)) (sp:=XD) (F:=AU5) (Hs:=BGX) (f:=203) (k:=8) A4P aY a7 (aO rfl) ⟨_,_,Tryz.func203,rfl⟩ rfl λ_ _=>by kernel_rfl
def BCE:aP Tryz.prog 203 SD:=BEH λx r h hb=>by
 cases h;unfold AU5 BKQ;rfl
def XE (x:aX):Option T:=some (Sh.enc [(true,aN)] ((x.1,nX,nX,iB,dV,iC,iQ x,pD):aX))
noncomputable def BGC:Env:=Env.of []
def BGY:FuncId->Hint:=λ_=>bA
def A4Q:aV Tryz.prog BGC:=.nil _
def AU6(a0:aX)(R:T->Prop):Prop:=R (T.agg [pPP a0.1,pPQ ({data:=#[]}), pPQ ({data:=#[]}),pPQ ({data:=#[]}), pPP 0,pPQ ({data:=#[]}), pPQ ({data:=#[]}),pPP 0, pPP 0,pPQ ({data:=#[]}), pPQ ({data:=#[]}),pPP 0,T.sl false [], T.sl false [],pPQ ({data:=#[]}),pPP 0, pPP 0,pPP 0, pPP 0,pPP 0, pPP 0,pPP 0, pPP 0,pPP 0, pPQ ({data:=#[]}),pPQ ({data:=#[]}), pPQ ({data:=#[]}),pPP 0, pPP 0,pPP 0, pPQ a0.2.2.2.2.2.2.1.1, pPQ a0.2.2.2.2.2.2.1.2.1, T.sl false (List.map Sy.str.enc a0.2.2.2.2.2.2.1.2.2.1), pPP a0.2.2.2.2.2.2.1.2.2.2.1, T.sl false (List.map Sy.str.enc a0.2.2.2.2.2.2.1.2.2.2.2), pPP 0,pPQ ({data:=#[]}), pPQ ({data:=#[]})])
abbrev A2R:Sh:=[(true,aN)]
noncomputable def SE:List T->Option T:=gS A2R XE
def AZE {a0}:SE [aG true aN a0]=XE (a0):=bI (s:=A2R) rfl (a0) rfl
def BEI:wP Tryz.prog 215 SE XE (cC A2R) AU6:=jZ (a1:=(true,aN)) (sp:=XE) (F:=AU6) (Hs:=BGY) (f:=215) (k:=8) A4Q aY a7 (aO rfl) ⟨_,_,Tryz.func215,rfl⟩ rfl λ_ _=>by kernel_rfl
def BCF:aP Tryz.prog 215 SE:=BEI λx r h hb=>by
 cases h;unfold AU6;rfl
def KA (x:aX):Option T:=some (Sh.enc [(true,aN)] ((x.1,fD x,nX,iB,dV,iC,noPack,pD):aX))
noncomputable def BAD:Env:=Env.of []
def BAS:FuncId->Hint:=λ_=>bA
def ATS:aV Tryz.prog BAD:=.nil _
def AE1(a0:aX)(R:T->Prop):Prop:=R (BKQ a0)
abbrev AIK:Sh:=[(true,aN)]
noncomputable def GL:List T->Option T:=gS AIK KA
def APM {a0}:GL [aG true aN a0]=KA (a0):=bI (s:=AIK) rfl (a0) rfl
def A76:wP Tryz.prog 224 GL KA (cC AIK) AE1:=jZ (a1:=(true,aN)) (sp:=KA) (F:=AE1) (Hs:=BAS) (f:=224) (k:=8) ATS aY a7 (aO rfl) ⟨_,_,Tryz.func224,rfl⟩ rfl λ_ _=>by kernel_rfl
def A6V:aP Tryz.prog 224 GL:=A76 λx r h hb=>by
 cases h;unfold AE1 BKQ;rfl
def KB (x:aX):Option T:=some (Sh.enc [(true,aN)] ((x.1,nX,nX,iB,dV,iC,noPack,nN x):aX))
noncomputable def BAE:Env:=Env.of []
def BAT:FuncId->Hint:=λ_=>bA
def ATT:aV Tryz.prog BAE:=.nil _
def AE2(a0:aX)(R:T->Prop):Prop:=R (T.agg [pPP a0.1,pPQ ({data:=#[]}), pPQ ({data:=#[]}),pPQ ({data:=#[]}), pPP 0,pPQ ({data:=#[]}), pPQ ({data:=#[]}),pPP 0, pPP 0,pPQ ({data:=#[]}), pPQ ({data:=#[]}),pPP 0,T.sl false [], T.sl false [],pPQ ({data:=#[]}),pPP 0, pPP 0,pPP 0, pPP 0,pPP 0, pPP 0,pPP 0, pPP 0,pPP 0, pPQ ({data:=#[]}),pPQ ({data:=#[]}), pPQ ({data:=#[]}),pPP 0, pPP 0,pPP 0, pPQ ({data:=#[]}),pPQ ({data:=#[]}),T.sl false [], pPP 0,T.sl false [], pPP a0.2.2.2.2.2.2.2.1, pPQ a0.2.2.2.2.2.2.2.2.1, pPQ a0.2.2.2.2.2.2.2.2.2])
abbrev AIL:Sh:=[(true,aN)]
noncomputable def uZ:List T->Option T:=gS AIL KB
def R5 {a0}:uZ [aG true aN a0]=KB (a0):=bI (s:=AIL) rfl (a0) rfl
def A77:wP Tryz.prog 230 uZ KB (cC AIL) AE2:=jZ (a1:=(true,aN)) (sp:=KB) (F:=AE2) (Hs:=BAT) (f:=230) (k:=8) ATT aY a7 (aO rfl) ⟨_,_,Tryz.func230,rfl⟩ rfl λ_ _=>by kernel_rfl
def AKC:aP Tryz.prog 230 uZ:=A77 λx r h hb=>by
 cases h;unfold AE2;rfl
def AE (x:aB×aX):Option T:=some (pPR false)
noncomputable def AS9:Env:=Env.of []
def AV7:FuncId->Hint:=λ_=>bA
def AEG:aV Tryz.prog AS9:=.nil _
def LS(a0:aB)(a1:aX)(R:T->Prop):Prop:=R BJ5
abbrev PC:Sh:=[(true,aD),(true,aN)]
noncomputable def jG:List T->Option T:=gS PC AE
def IX {a0 a1}:jG [aG true aD a0,aG true aN a1]=AE (a0,a1):=bI (s:=PC) rfl (a0,a1) rfl
def AQ6:rJ Tryz.prog 183 jG AE (cC PC) LS:=gZ (a1:=(true,aD)) (a2:=(true,aN)) (sp:=AE) (F:=LS) (Hs:=AV7) (f:=183) (k:=8) AEG aY a7 (aO rfl) ⟨_,_,Tryz.func183,rfl⟩ rfl λ_ _ _=>by kernel_rfl
def tG:aP Tryz.prog 183 jG:=AQ6 λd x r h hb=>by
 cases h;unfold LS BJ5;rfl
def j0 {c:Bool} {a r:T} (h:(match c with|true=>some a|false=>none)=some r):c=true/\a=r:=by
 cases c with
 | true=>exact ⟨rfl,Option.some.inj h⟩
 | false=>cases h
def FE (x:aB×aX):Option T:=match vG x.1 with
 | true=>some (pPR (oX x.1 (fD x.2)))
 | false=>none
noncomputable def A3U:Env:=Env.of []
def A5C:FuncId->Hint:=b6 277 [(2,.inv [.val 8 false (.int .i64)])] (b6 282 [(2,.inv [.val 8 false (.int .i64)])] (b6 283 [(2,.inv [.val 8 false (.int .i64)])] (λ_=>bA)))
def AM0:aV Tryz.prog A3U:=.nil _
def BKZ(a0:aB)(a1:aX)(R:T->Prop):Prop:=bB (Int×PUnit) (λX3 s4=>aC (decide (s4.1<(↑(BKR a0).length:Int))) (aR aH (BKR a0) s4.1 λ(y5:aQ)=>bB (Int×PUnit) (λX6 s7=>aC (decide (s7.1<(↑(BLT y5).length:Int))) (aR Sy.str (BLT y5) s7.1 λ(y8:iII)=>aC (decide (a1.2.1=y8)) (aC (decide (0<=s7.1)) (R (BLM s4)) (BKS X3 s4)) (BKS X6 s7)) (BKS X3 s4)) (0,())) (R BJ5)) (0,())
def UF(a0:aB)(a1:aX)(R:T->Prop):Prop:=bB (Int×PUnit) (λX0 s1=>aC (decide (s1.1<(↑(BKW a0).length:Int))) (aR bE (BKW a0) s1.1 λ(y2:bT)=>aC (decide (y2.2.1=a1.2.1)) (aC (decide (0<=s1.1)) (R BKA) (BKZ a0 a1 R)) (aC (decide (y2.2.2.1=a1.2.1)) (aC (decide (0<=s1.1)) (R BKA) (BKZ a0 a1 R)) (BKS X0 s1))) (BKZ a0 a1 R)) (0,())
abbrev WR:Sh:=[(true,aD),(true,aN)]
noncomputable def zC:List T->Option T:=gS WR FE
def AG2 {a0 a1}:zC [aG true aD a0,aG true aN a1]=FE (a0,a1):=bI (s:=WR) rfl (a0,a1) rfl
def A1B:rJ Tryz.prog 162 zC FE (cC WR) UF:=gZ (a1:=(true,aD)) (a2:=(true,aN)) (sp:=FE) (F:=UF) (Hs:=A5C) (f:=162) (k:=8) AM0 aY a7 (aO rfl) ⟨_,_,Tryz.func162,rfl⟩ rfl λ_ _ _=>by kernel_rfl
def AX7:aP Tryz.prog 162 zC:=A1B λd x r h hb=>by
 clear hb;obtain ⟨hp,rfl⟩:=j0 h;clear h;have c:=dZ hp;have hk:∀ k∈d.2.2.2.2.1,k.2.2.1.length<=140737488355328/\k.2.2.2.2.length<=140737488355328:=λk hk=>by
  have:=all_eq_true.1 c.HA k hk;simp only[eT,lB,ac,ah] at this;exact ⟨this.1.2,this.2.2⟩
 have is:∀ {b:Bool},oX d (fD x)=b->pPR b=pPR (oX d (fD x)):=λh=>by rw[h]
 have pos:∀ {k:Nat},¬ (0<=(k:Int))->False:=λh=>h (by omega);unfold UF BKZ BLT BKW BKR BLM BKS BKA BJ5;refine cP (r:=bE) (λs=>decide (s.2.1=fD x)||decide (s.2.2.1=fD x)) (o7 c.s) (λX k y hlt hy hp hn=>?_) (λ_ h1=>?_)
 ·dsimp only;have yes:(decide (y.2.1=fD x)||decide (y.2.2.1=fD x))=true->oX d (fD x)=true:=λh=>by unfold oX;rw[(hp h).2];rfl
  refine cA (λh=>cA (λ_=>is (yes (by rw[ai h];rfl))) λh=>(pos h).elim) λh=>?_;refine cA (λh2=>cA (λ_=>is (yes (by rw[ai h2,Bool.or_true]))) λh=>(pos h).elim) λh2=>hn ?_;rw[aj h,aj h2];rfl
 ·refine cP (r:=aH) (λk=>AG4 k.2.2.1 (fD x)) (o7 c.k) (λX k y hlt hy hp hn=>?_) (λ_ h2=>is ?_)
  ·dsimp only;refine cP (r:=.str) (λz=>decide (z=fD x)) (hk y (by rw[<-hy];exact ak hlt)).1 (λY j z hj hz hp2 hn2=>?_) (λ_ h3=>hn h3);dsimp only;refine cA (λh=>cA (λ_=>is ?_) λh=>(pos h).elim) λh=>hn2 (aj λe=>h e.symm);have:=(hp (hp2 (ai h.symm)).2).2;rw[show decide ((0:Int)<=(k:Int))=true from ai (by omega)];unfold oX;rw[this,Bool.or_true]
  ·unfold oX;rw[h1,h2];rfl
def FC (x:aB×aX):Option T:=match vG x.1 with
 | true=>some (pPR (lH x.1 (fD x.2)))
 | false=>none
noncomputable def A3S:Env:=Env.of []
def A5A:FuncId->Hint:=b6 185 [(2,.inv [.val 8 false (.int .i64)])] (b6 276 [(2,.inv [.val 8 false (.int .i64)])] (b6 277 [(2,.inv [.val 8 false (.int .i64)])] (b6 278 [(2,.inv [.val 8 false (.int .i64)])] (λ_=>bA))))
def AMY:aV Tryz.prog A3S:=.nil _
def BLX(a0:aB)(s10:Int×PUnit)(a1:aX)(R:T->Prop)(X9:Int×PUnit->Prop):Prop:=aR aZ (BKY a0) s10.1 λ(y11:bM)=>aC (decide (y11.2.1=a1.2.1)) (R (BLM s10)) (aC (decide (y11.2.2=a1.2.1)) (aC (!decide (y11.1=3)) (R (BLM s10)) (BKS X9 s10)) (BKS X9 s10))
def BKP(a0:aB)(a1:aX)(R:T->Prop):Prop:=bB (Int×PUnit) (λX12 s13=>aC (decide (s13.1<(↑(BKY a0).length:Int))) (BLX a0 s13 a1 R X12) (R BJ5)) (0,())
def BK6(a0:aB)(a1:aX)(R:T->Prop):Prop:=bB (Int×PUnit) (λ(X15:Int×PUnit->Prop) (CK:Int×PUnit)=>aC (decide (CK.1<(↑(BKR a0).length:Int))) (aR aH (BKR a0) CK.1 λ(y17:aQ)=>aC (decide (y17.2.1=a1.2.1)) (aC (decide (0<=CK.1)) (R BKA) (BKP a0 a1 R)) (BKS X15 CK)) (BKP a0 a1 R)) (0,())
def UD(a0:aB)(a1:aX)(R:T->Prop):Prop:=bB (Int×PUnit) (λX0 s1=>aC (decide (s1.1<(↑(BKV a0).length:Int))) (aR aK (BKV a0) s1.1 λ(y2:a8)=>aC (decide (y2.2.2.2.1=a1.2.1)) (aC (decide (0<=s1.1)) (R BKA) (bB (Int×PUnit) (λX3 s4=>aC (decide (s4.1<(↑(BK0 a0).length:Int))) (aR bC (BK0 a0) s4.1 λ(y5:bQ)=>aC (decide (y5.2.2=a1.2.1)) (aC (decide (0<=s4.1)) (R BKA) (bB (Int×PUnit) (λX6 s7=>aC (decide (s7.1<(↑(BKR a0).length:Int))) (aR aH (BKR a0) s7.1 λ(y8:aQ)=>aC (decide (y8.2.1=a1.2.1)) (aC (decide (0<=s7.1)) (R BKA) (bB (Int×PUnit) (λX9 s10=>aC (decide (s10.1 < (↑(BKY a0).length:Int))) (BLX a0 s10 a1 R X9) (R BJ5)) (0,()))) (BKS X6 s7)) (BKP a0 a1 R)) (0,()))) (BKS X3 s4)) (BK6 a0 a1 R)) (0,()))) (BKS X0 s1)) (bB (Int×PUnit) (λX24 s25=>aC (decide (s25.1<(↑(BK0 a0).length:Int))) (aR bC (BK0 a0) s25.1 λ(y26:bQ)=>aC (decide (y26.2.2=a1.2.1)) (aC (decide (0<=s25.1)) (R BKA) (BK6 a0 a1 R)) (BKS X24 s25)) (BK6 a0 a1 R)) (0,()))) (0,())
abbrev WO:Sh:=[(true,aD),(true,aN)]
noncomputable def zA:List T->Option T:=gS WO FC
def AG0 {a0 a1}:zA [aG true aD a0,aG true aN a1]=FC (a0,a1):=bI (s:=WO) rfl (a0,a1) rfl
def A09:rJ Tryz.prog 138 zA FC (cC WO) UD:=gZ (a1:=(true,aD)) (a2:=(true,aN)) (sp:=FC) (F:=UD) (Hs:=A5A) (f:=138) (k:=8) AMY aY a7 (aO rfl) ⟨_,_,Tryz.func138,rfl⟩ rfl λ_ _ _=>by kernel_rfl
def AX5:aP Tryz.prog 138 zA:=A09 λd x r h hb=>by
 clear hb;obtain ⟨hp,rfl⟩:=j0 h;clear h;have c:=dZ hp;have is:∀ {b:Bool},lH d (fD x)=b->pPR b=pPR (lH d (fD x)):=λh=>by rw[h]
 have pos:∀ {k:Nat},¬ (0<=(k:Int))->False:=λh=>h (by omega);have d0:∀ {k:Nat},decide ((0:Int)<=(k:Int))=true:=ai (by omega);unfold UD BK6 BK0 BKV BKR BKP BLX BLM BKS BKY BKA BJ5;refine cP (r:=aK) (λp=>decide (nL p=fD x)) (o7 c.p) (λX k y hlt hy hp hn=>?_) (λ_ h1=>?_)
 ·dsimp only;exact cA (λh=>cA (λ_=>is (by unfold lH;rw[(hp (ai h)).2];rfl)) λh=>(pos h).elim) λh=>hn (aj h)
 refine cP (r:=bC) (λn=>decide (n.2.2=fD x)) (o7 c.n) (λX k y hlt hy hp hn=>?_) (λ_ h2=>?_)
 ·dsimp only;exact cA (λh=>cA (λ_=>is (by unfold lH;rw[h1,(hp (ai h)).2];rfl)) λh=>(pos h).elim) λh=>hn (aj h)
 refine cP (r:=aH) (λk=>decide (k.2.1=fD x)) (o7 c.k) (λX k y hlt hy hp hn=>?_) (λ_ h3=>?_)
 ·dsimp only;exact cA (λh=>cA (λ_=>is (by unfold lH;rw[h1,h2,(hp (ai h)).2];rfl)) λh=>(pos h).elim) λh=>hn (aj h)
 refine cP (r:=aZ) (λn=>decide (n.2.1=fD x)||(decide (n.2.2=fD x) && !decide (n.1=3))) (o7 c.r) (λX k y hlt hy hp hn=>?_) (λ_ h4=>is (by unfold lH;rw[h1,h2,h3,h4];rfl));dsimp only;have yes:(decide (y.2.1=fD x)||(decide (y.2.2=fD x) && !decide (y.1=3)))=true->lH d (fD x)=decide ((0:Int)<=(k:Int)):=λh=>by rw[d0];unfold lH;rw[h1,h2,h3,(hp h).2];rfl
 refine cA (λh=>is (yes (by rw[ai h];rfl))) λa1=>?_;refine cA (λa2=>?_) λa2=>hn (by rw[aj a1,aj a2];rfl);refine kX (λa3=>is (yes (by rw[ai a2,aj a3];simp))) λa3=>hn (by rw[aj a1,ai a3,Bool.not_true,Bool.and_false];rfl)
def FD (x:aB×aX):Option T:=match vG x.1 with
 | true=>some (pPR (qX x.1 (fD x.2)))
 | false=>none
noncomputable def A3T:Env:=Env.of [(107,.dup 5 88),(290,.grow 5 mQ)]
def A5B:FuncId->Hint:=b6 277 [(2,.inv [.val 8 false (.int .i64)])] (b6 278 [(2,.inv [.val 8 false (.int .i64)])] (b6 283 [(2,.inv [.val 8 false (.int .i64)])] (λ_=>bA)))
def AMZ:aV Tryz.prog A3T:=aV.cons (x:=.dup 5 88) oE (.cons AV (.nil _))
def BK1(a0:aB)(a1:aX)(R:T->Prop):Prop:=bB (Int×PUnit) (λX13 s14=>aC (decide (s14.1<(↑(BKY a0).length:Int))) (aR aZ (BKY a0) s14.1 λ(y15:bM)=>aC (decide (y15.1=3)) (aC (decide (y15.2.2=a1.2.1)) (R (BLM s14)) (BKS X13 s14)) (BKS X13 s14)) (R BJ5)) (0,())
def BK4(y6:aQ)(a1:aX)(s4:Int×PUnit)(R:T->Prop)(a0:aB)(X3:Int×PUnit->Prop):Prop:=bB (Int×PUnit) (λX7 s8=>aC (decide (s8.1<(↑(BLJ y6).length:Int))) (aR Sy.str (BLJ y6) s8.1 λ(y9:iII)=>aC (decide (a1.2.1=y9)) (aC (decide (0<=s8.1)) (aC (decide (0<=s4.1)) (R BKA) (bB (Int×PUnit) (λX10 s11=>aC (decide (s11.1 < (↑(BKY a0).length:Int))) (aR aZ (BKY a0) s11.1 λ(y12:bM)=>aC (decide (y12.1=3)) (aC (decide (y12.2.2=a1.2.1)) (R (BLM s11)) (BKS X10 s11)) (BKS X10 s11)) (R BJ5)) (0,()))) (BKS X3 s4)) (BKS X7 s8)) (BKS X3 s4)) (0,())
def BLH(s1:Int×PUnit):List T:=[pPP s1.1, pPP (i64.wrap (s1.1+1))]
def UE(a0:aB)(a1:aX)(R:T->Prop):Prop:=bB (Int×PUnit) (λX0 s1=>aC (decide (s1.1<(↑(BKR a0).length:Int))) (aR aH (BKR a0) s1.1 λ(y2:aQ)=>aC (decide (y2.1=a1.2.1)) (aC (decide (s1.1<0)) (bR (((BKR a0).all λ(r:List T)=>decide (r.length=5)) && decide ((BKR a0).length*88<=140737488355328) && decide ((BKR a0).length<=140737488355328)) (bB (Int×PUnit) (λX3 s4=>aC (decide (s4.1<(↑(BKR a0).length:Int))) (aR aH (BKR a0) s4.1 λ(y5:aQ)=>iJ aH (BKR a0) (Int.toNat s4.1) 0 λ(y6:aQ)=>BK4 y6 a1 s4 R a0 X3) (BK1 a0 a1 R)) (0,()))) (bR (((BKR a0).all λ(r:List T)=>decide (r.length=5)) && decide ((BKR a0).length*88<=140737488355328) && decide ((BKR a0).length<=140737488355328)) (eR aH (mQ (BKR a0) (BLH s1)) λ(y16:List aQ)=>bB (Int×PUnit) (λX17 s18=>aC (decide (s18.1<(↑(List.map aH.enc y16).length:Int))) (aR aH (List.map aH.enc y16) s18.1 λ(y19:aQ)=>iJ aH (List.map aH.enc y16) (Int.toNat s18.1) 0 λ(y20:aQ)=>BK4 y20 a1 s18 R a0 X17) (BK1 a0 a1 R)) (0,())))) (BKS X0 s1)) (bR (((BKR a0).all λ(r:List T)=>decide (r.length=5)) && decide ((BKR a0).length*88<=140737488355328) && decide ((BKR a0).length<=140737488355328)) (bB (Int×PUnit) (λX30 s31=>aC (decide (s31.1<(↑(BKR a0).length:Int))) (aR aH (BKR a0) s31.1 λ(y32:aQ)=>iJ aH (BKR a0) (Int.toNat s31.1) 0 λ(y33:aQ)=>bB (Int×PUnit) (λX34 s35=>aC (decide (s35.1<(↑(BLJ y33).length:Int))) (aR Sy.str (BLJ y33) s35.1 λ(y36:iII)=>aC (decide (a1.2.1=y36)) (aC (decide (0<=s35.1)) (aC (decide (0<=s31.1)) (R BKA) (BK1 a0 a1 R)) (BKS X30 s31)) (BKS X34 s35)) (BKS X30 s31)) (0,())) (BK1 a0 a1 R)) (0,())))) (0,())
abbrev WQ:Sh:=[(true,aD),(true,aN)]
noncomputable def zB:List T->Option T:=gS WQ FD
def AG1 {a0 a1}:zB [aG true aD a0,aG true aN a1]=FD (a0,a1):=bI (s:=WQ) rfl (a0,a1) rfl
def A1A:rJ Tryz.prog 210 zB FD (cC WQ) UE:=gZ (a1:=(true,aD)) (a2:=(true,aN)) (sp:=FD) (F:=UE) (Hs:=A5B) (f:=210) (k:=8) AMZ aY a7 (aO rfl) ⟨_,_,Tryz.func210,rfl⟩ rfl λ_ _ _=>by kernel_rfl
def AX6:aP Tryz.prog 210 zB:=A1A λd x r h hb=>by
 clear hb;obtain ⟨hp,rfl⟩:=j0 h;clear h;have c:=dZ hp;have hk:∀ k∈d.2.2.2.2.1,k.2.2.1.length<=140737488355328/\k.2.2.2.2.length<=140737488355328:=λk hk=>by
  have:=all_eq_true.1 c.HA k hk;simp only[eT,lB,ac,ah] at this;exact ⟨this.1.2,this.2.2⟩
 have is:∀ {b:Bool},qX d (fD x)=b->pPR b=pPR (qX d (fD x)):=λh=>by rw[h]
 have pos:∀ {k:Nat},¬ (0<=(k:Int))->False:=λh=>h (by omega);have d0:∀ {k:Nat},decide ((0:Int)<=(k:Int))=true:=ai (by omega);have hd:=wW (r:=aH) (l:=d.2.2.2.2.1) (z:=5) (b:=88) rfl (dN c.k (by decide));unfold UE BLH BK4 BLJ BK1 BKR BLM BKS BKY BKA BJ5;refine cP (r:=aH) (λy=>cV (fD x) y) (o7 c.k) (λX k y hlt hy hp hn=>?_) (λh0 _=>?_)
 ·dsimp only;refine cA (λh=>?_) λh=>hn (aj h);obtain ⟨hi,_⟩:=hp (ai h);refine cA (λh=>by omega) λ_=>⟨hd,?_⟩
  have eL:gV (cV (fD x)) d.2.2.2.2.1=d.2.2.2.2.1.take k++d.2.2.2.2.1.drop (k+1):=by
   unfold gV;rw[show List.findIdx (cV (fD x)) d.2.2.2.2.1=k from hi]
  refine dW (r:=aH) (l:=gV (cV (fD x)) d.2.2.2.2.1) (by rw[eL];exact F5 (r:=aH) rfl hlt c.k) _ ?_;have hL:(gV (cV (fD x)) d.2.2.2.2.1).length<=1000:=Nat.le_trans ZM c.k;have hkL:∀ k∈gV (cV (fD x)) d.2.2.2.2.1,k.2.2.2.2.length<=140737488355328:=λk h=>(hk k (C0 h)).2;have hV:qX d (fD x)=(((gV (cV (fD x)) d.2.2.2.2.1).any λk=>AG4 k.2.2.2.2 (fD x))||(d.2.2.2.2.2.any λn=>decide (n.1=3)&&decide (n.2.2=fD x))):=rfl;clear hp hn eL;generalize gV (cV (fD x)) d.2.2.2.2.1=L at *;refine cP (r:=aH) (λk=>AG4 k.2.2.2.2 (fD x)) (o7 hL) (λX k y hlt hy hp hn=>?_) (λ_ h2=>?_)
  ·dsimp only;rw[show Int.toNat (k:Int)=k from rfl,iK (r:=aH) hlt,hy];refine cP (r:=.str) (λz=>decide (z=fD x)) (hkL y (by rw[<-hy];exact ak hlt)) (λY j z hj hz hp2 hn2=>?_) (λ_ h3=>hn h3);dsimp only;refine cA (λh=>cA (λ_=>cA (λ_=>is ?_) λh=>(pos h).elim) λh=>(pos h).elim) λh=>hn2 (aj λe=>h e.symm);rw[hV,(hp (hp2 (ai h.symm)).2).2];rfl
  ·refine cP (r:=aZ) (λn=>decide (n.1=3)&&decide (n.2.2=fD x)) (o7 c.r) (λX k y hlt hy hp hn=>?_) (λ_ h4=>is (by rw[hV,h2,h4];rfl));dsimp only;refine cA (λa1=>?_) λa1=>hn (by rw[aj a1];rfl);refine cA (λa2=>is ?_) λa2=>hn (by rw[aj a2,Bool.and_false]);rw[d0,hV,(hp (by rw[ai a1,ai a2];rfl)).2,Bool.or_true]
 ·refine ⟨hd,?_⟩;have hV:qX d (fD x)=((d.2.2.2.2.1.any λk=>AG4 k.2.2.2.2 (fD x))||(d.2.2.2.2.2.any λn=>decide (n.1=3)&&decide (n.2.2=fD x))):=by unfold qX;rw[wV (is:=cV (fD x)) h0]
  have hL:=c.k;have hkL:∀ k∈d.2.2.2.2.1,k.2.2.2.2.length<=140737488355328:=λk h=>(hk k h).2;refine cP (r:=aH) (λk=>AG4 k.2.2.2.2 (fD x)) (o7 hL) (λX k y hlt hy hp hn=>?_) (λ_ h2=>?_)
  ·dsimp only;rw[show Int.toNat (k:Int)=k from rfl,iK (r:=aH) hlt,hy];refine cP (r:=.str) (λz=>decide (z=fD x)) (hkL y (by rw[<-hy];exact ak hlt)) (λY j z hj hz hp2 hn2=>?_) (λ_ h3=>hn h3);dsimp only;refine cA (λh=>cA (λ_=>cA (λ_=>is ?_) λh=>(pos h).elim) λh=>(pos h).elim) λh=>hn2 (aj λe=>h e.symm);rw[hV,(hp (hp2 (ai h.symm)).2).2];rfl
  ·refine cP (r:=aZ) (λn=>decide (n.1=3)&&decide (n.2.2=fD x)) (o7 c.r) (λX k y hlt hy hp hn=>?_) (λ_ h4=>is (by rw[hV,h2,h4];rfl));dsimp only;refine cA (λa1=>?_) λa1=>hn (by rw[aj a1];rfl);refine cA (λa2=>is ?_) λa2=>hn (by rw[aj a2,Bool.and_false]);rw[d0,hV,(hp (by rw[ai a1,ai a2];rfl)).2,Bool.or_true]
def sW (lt gt:Bool):Int:=match lt,gt with
 | true,_=>-1
 | false,true=>1
 | false,false=>0
def J5 (x:Int×Int):Option T:=some (T.v (Value.int .i64 (sW (decide (x.1<x.2)) (decide (x.2<x.1)))))
def J6 (x:iII×iII):Option T:=some (T.v (Value.int .i64 (sW (cD x.1 x.2) (cD x.2 x.1))))
def orE:List Int->Int
 | []=>0
 | a::l=>if a=0 then orE l else a
def AI4 (l:List Int):Option T:=some (T.v (Value.int .i64 (orE l)))
noncomputable def A94:Env:=Env.of []
def BAJ:FuncId->Hint:=λ_=>bA
def ATI:aV Tryz.prog A94:=.nil _
def AEP(a0:Int)(a1:Int)(R:T->Prop):Prop:=aC (!decide (a0=a0)) (aC (!decide (a1=a1)) (R BJ9) (R BKF)) (aC (!decide (a1=a1)) (R BKJ) (aC (decide (a0<a1)) (R BKF) (aC (decide (a1<a0)) (R BKJ) (R BJ9))))
abbrev AIA:Sh:=[(false,(Sy.int IntKind.i64)),(false,(Sy.int IntKind.i64))]
noncomputable def NL:List T->Option T:=gS AIA J5
def APG {a0 a1}:NL [pPP a0,pPP a1]=J5 (a0,a1):=bI (s:=AIA) rfl (a0,a1) rfl
def A7V:rJ Tryz.prog 236 NL J5 (cC AIA) AEP:=gZ (a1:=(false,(Sy.int IntKind.i64))) (a2:=(false,(Sy.int IntKind.i64))) (sp:=J5) (F:=AEP) (Hs:=BAJ) (f:=236) (k:=8) ATI aY a7 (aO rfl) ⟨_,_,Tryz.func236,rfl⟩ rfl λ_ _ _=>by kernel_rfl
def A6F:aP Tryz.prog 236 NL:=A7V λa b r h hb=>by
 cases h;unfold AEP BKJ BKF BJ9;refine kX (λh=>absurd rfl h) λ_=>kX (λh=>absurd rfl h) λ_=>?_;refine cA (λh=>by unfold sW;rw[ai h]) λh=>?_;refine cA (λh2=>by unfold sW;rw[aj h,ai h2]) λh2=>by unfold sW;rw[aj h,aj h2]
noncomputable def A95:Env:=Env.of []
def BAK:FuncId->Hint:=λ_=>bA
def ATJ:aV Tryz.prog A95:=.nil _
def AEQ(a0:iII)(a1:iII)(R:T->Prop):Prop:=aC (!decide (a0=a0)) (aC (!decide (a1=a1)) (R BJ9) (R BKF)) (aC (!decide (a1=a1)) (R BKJ) (aC (cD a0 a1) (R BKF) (aC (!(cD a0 a1||decide (a0=a1))) (R BKJ) (R BJ9))))
abbrev AIB:Sh:=[(false,Sy.str),(false,Sy.str)]
noncomputable def GG:List T->Option T:=gS AIB J6
def RP {a0 a1}:GG [pPQ a0,pPQ a1]=J6 (a0,a1):=bI (s:=AIB) rfl (a0,a1) rfl
def A7W:rJ Tryz.prog 237 GG J6 (cC AIB) AEQ:=gZ (a1:=(false,Sy.str)) (a2:=(false,Sy.str)) (sp:=J6) (F:=AEQ) (Hs:=BAK) (f:=237) (k:=8) ATJ aY a7 (aO rfl) ⟨_,_,Tryz.func237,rfl⟩ rfl λ_ _ _=>by kernel_rfl
def A6G:aP Tryz.prog 237 GG:=A7W λa b r h hb=>by
 cases h;unfold AEQ BKJ BKF BJ9;refine kX (λh=>absurd rfl h) λ_=>kX (λh=>absurd rfl h) λ_=>?_;rw[pZ];refine vA (λh=>by unfold sW;rw[h]) λh=>?_;refine vA (λh2=>by unfold sW;rw[h,h2]) λh2=>by unfold sW;rw[h,h2]
def IF (a0:List Int):List T:=[T.sl true (List.map (Sy.int .i64).enc a0)]
noncomputable def ASP:Env:=Env.of []
def A9C:FuncId->Hint:=b6 235 [(3,.inv [.val 8 false (.int .i64)])] (λ_=>bA)
def A4H:aV Tryz.prog ASP:=.nil _
def AUW(a0:List Int)(R:T->Prop):Prop:=bB (Int×PUnit) (λX0 s1=>aC (decide (s1.1<(↑(List.map BKC.enc a0).length:Int))) (aR BKC (List.map BKC.enc a0) s1.1 λ(y2:Int)=>aC (!decide (y2=0)) (R (BLL y2)) (BKS X0 s1)) (R BJ9)) (0,())
def AUX ( a0 R):eG bY Tryz.prog ASP A9C 8 235 (IF a0) R=AUW a0 R:=by kernel_rfl
def AL2 (x y:List Int) (h:IF x=IF y):x=y:=by
 simp only[IF,List.cons.injEq,T.sl.injEq,true_and,and_true] at h;exact map_inj (Sy.dY (.int .i64)) h
noncomputable def AAN:List T->Option (T):=gA (λ(x:List Int)=>IF x) AI4
def AY5 (a0:List Int):AAN (IF a0)=AI4 a0:=fN (A:=(λ(x:List Int)=>IF x)) AL2 a0
def BD9 (h:∀ (a0:List Int) (r:T),AI4 a0=some r->(∀ t∈IF a0,Bd t)->AUW a0 (λy=>y=r)):aP Tryz.prog 235 AAN :=
 cQ (E:=ASP) (Hs:=A9C) A4H aY a7 (aO rfl) 8 ⟨_,_,Tryz.func235,rfl⟩ λx r h1 h2=>by
  rw[AUX];exact h x r h1 h2
def BB6:aP Tryz.prog 235 AAN:=BD9 λl r h hb=>by
 have hl:l.length<=2 ^ 47:=by
  have:=((A8X _ _).1 (hb _ am)).1;simpa using this
 cases h;have is:∀ {n:Int},orE l=n->pPP n=pPP (orE l):=λh=>by rw[h]
 unfold AUW BKS BLL BKC BJ9;refine bK l.length (λk s=>s=((k:Int),())/\orE (l.drop k)=orE l) ⟨rfl,rfl⟩ ?_;rintro X k s hk ⟨rfl,he⟩ hX;dsimp only;refine cA (λhlt=>?_) λhge=>?_
 ·rw[ae] at hlt;have hlt:k<l.length:=by omega
  rw[bD (r:=.int .i64) hlt];rw[drop_eq_getElem_cons hlt,orE] at he;refine kX (λh=>is ?_) λh=>hX _ hlt ⟨?_,?_⟩
  ·rw[if_neg h] at he;exact he.symm
  ·rw[show i64.wrap ((k:Int)+1)=((k+1:Nat):Int) by rw[bG]<;>omega]
  ·rw[if_pos h] at he;exact he
 ·rw[ae] at hge;rw[List.drop_eq_nil_of_le (by omega)] at he;exact is he.symm
def zV (x:bM×bM):Option T:=some (pPR (BM x.1 x.2))
noncomputable def ASO:Env:=Env.of [(236,.pure NL),(237,.pure GG),(235,.pure AAN)]
def AVR:FuncId->Hint:=λ_=>bA
def ADZ:aV Tryz.prog ASO:=.cons A6F (.cons A6G (.cons BB6 (.nil _)))
def K9(a0:bM)(a1:bM)(R:T->Prop):Prop:=aJ BJ7 (NL [pPP a0.1,pPP a1.1]) λ(y0:Int)=>aJ BJ7 (GG [pPQ a0.2.1,pPQ a1.2.1]) λ(y1:Int)=>aJ BJ7 (GG [pPQ a0.2.2,pPQ a1.2.2]) λ(y2:Int)=>aJ BJ7 (AAN [T.sl true [[pPP y0],[pPP y1], [pPP y2]]]) λ(y3:Int)=>R (pPR (decide (0<y3)))
abbrev OX:Sh:=[(true,aZ),(true,aZ)]
noncomputable def qL:List T->Option T:=gS OX zV
def AAM {a0 a1}:qL [aG true aZ a0,aG true aZ a1]=zV (a0,a1):=bI (s:=OX) rfl (a0,a1) rfl
def AQP:rJ Tryz.prog 234 qL zV (cC OX) K9:=gZ (a1:=(true,aZ)) (a2:=(true,aZ)) (sp:=zV) (F:=K9) (Hs:=AVR) (f:=234) (k:=8) ADZ aY a7 (aO rfl) ⟨_,_,Tryz.func234,rfl⟩ rfl λ_ _ _=>by kernel_rfl
def RF:aP Tryz.prog 234 qL:=AQP λa b r h hb=>by
 cases h;unfold K9 BJ7;refine aF (s:=[(false,.int .i64)]) (APG ..) ?_;refine aF (s:=[(false,.int .i64)]) (RP ..) ?_;refine aF (s:=[(false,.int .i64)]) (RP ..) ?_;refine aF (s:=[(false,.int .i64)]) (y:=orE [sW (decide (a.1<b.1)) (decide (b.1<a.1)),sW (cD a.2.1 b.2.1) (cD b.2.1 a.2.1),sW (cD a.2.2 b.2.2) (cD b.2.2 a.2.2)]) (AY5 [sW (decide (a.1<b.1)) (decide (b.1<a.1)),sW (cD a.2.1 b.2.1) (cD b.2.1 a.2.1),sW (cD a.2.2 b.2.2) (cD b.2.2 a.2.2)]) ?_;refine jD ?_;unfold BM ltN;have tot:∀ {s t:iII},cD s t=true->cD t s=false/\decide (t=s)=false:=λ{s t} h=>by
  refine ⟨?_,aj λe=>?_⟩
  ·rw[Bool.eq_false_iff];intro h2;have:=BE6 h h2;rw[HW] at this;cases this
  ·rw[e,HW] at h;cases h
 have eqS:∀ {s t:iII},cD s t=false->cD t s=false->decide (t=s)=true:=λ{s t} h1 h2=>by
  have h3:=pZ s t;rw[h1,h2] at h3;simpa using h3
 rcases Int.lt_trichotomy a.1 b.1 with h|h|h
 ·rw[ai h,aj (show ¬ b.1<a.1 by omega),aj (show ¬ b.1=a.1 by omega)];simp[sW,orE]
 ·rw[aj (show ¬ a.1<b.1 by omega),aj (show ¬ b.1<a.1 by omega),ai h.symm];cases h1:cD a.2.1 b.2.1 with
  | true=>rw[(tot h1).1,(tot h1).2];simp[sW,orE]
  | false =>
   cases h2:cD b.2.1 a.2.1 with
   | true=>simp[sW,orE]
   | false =>
    rw[eqS h1 h2];cases h3:cD a.2.2 b.2.2 with
    | true=>rw[(tot h3).1];simp[sW,orE]
    | false=>cases h4:cD b.2.2 a.2.2<;>simp[sW,orE]
 ·rw[aj (show ¬ a.1<b.1 by omega),ai h];simp[sW,orE]
def AK3 (d:aB) (x:aX):aB:=(d.1,jX eM d.2.1 (sX x),d.2.2)
def H3 (x:aB×aX):Option T:=match vG x.1 with
 | true=>some (Sh.enc [(true,aD)] (AK3 x.1 x.2))
 | false=>none
noncomputable def BFW:Env:=Env.of [(103,.dup 3 40),(280,.grow 3 kD)]
def BGI:FuncId->Hint:=b6 276 [(2,.inv [.val 8 false (.int .i64)])] (λ_=>bA)
def A35:aV Tryz.prog BFW:=aV.cons (x:=.dup 3 40) BX (.cons B0 (.nil _))
def BLE(a0:aB)(y4:List bQ):T:=T.agg [pPQ a0.1,T.sl false (List.map bC.enc y4), T.sl false (BKV a0), T.sl false (BKW a0), T.sl false (BKR a0), T.sl false (BKY a0)]
def BL2(a1:aX):List T:=[pPQ a1.2.2.2.1.1, pPP a1.2.2.2.1.2.1, pPQ a1.2.2.2.1.2.2]
def BK7(a0:aB)(a1:aX)(R:T->Prop):Prop:=bR (((BK0 a0).all λ(r:List T)=>decide (r.length=3)) && decide ((BK0 a0).length*40<=140737488355328) && decide ((BK0 a0).length<=140737488355328)) (eR bC (kD (BK0 a0) [pPP (↑(BK0 a0).length:Int), T.sl true [(BL2 a1)]]) λ(y3:List bQ)=>R (BLE a0 y3))
def AUG(a0:aB)(a1:aX)(R:T->Prop):Prop:=bB (Int×PUnit) (λX0 s1=>aC (decide (s1.1<(↑(BK0 a0).length:Int))) (aR bC (BK0 a0) s1.1 λ(y2:bQ)=>aC (!(cD y2.1 a1.2.2.2.1.1||decide (y2.1=a1.2.2.2.1.1))) (aC (decide (s1.1<0)) (BK7 a0 a1 R) (bR (((BK0 a0).all λ(r:List T)=>decide (r.length=3)) && decide ((BK0 a0).length*40<=140737488355328) && decide ((BK0 a0).length<=140737488355328)) (eR bC (kD (BK0 a0) [pPP s1.1, T.sl true [(BL2 a1)]]) λ(y4:List bQ)=>R (BLE a0 y4)))) (BKS X0 s1)) (BK7 a0 a1 R)) (0,())
abbrev A2B:Sh:=[(true,aD),(true,aN)]
noncomputable def RQ:List T->Option T:=gS A2B H3
def AYT {a0 a1}:RQ [aG true aD a0,aG true aN a1]=H3 (a0,a1):=bI (s:=A2B) rfl (a0,a1) rfl
def BDX:rJ Tryz.prog 150 RQ H3 (cC A2B) AUG:=gZ (a1:=(true,aD)) (a2:=(true,aN)) (sp:=H3) (F:=AUG) (Hs:=BGI) (f:=150) (k:=8) A35 aY a7 (aO rfl) ⟨_,_,Tryz.func150,rfl⟩ rfl λ_ _ _=>by kernel_rfl
def BBR:aP Tryz.prog 150 RQ:=BDX λd x r h hb=>by
 clear hb;have hp:vG d=true:=by
  unfold H3 at h;split at h
  ·assumption
  ·cases h
 have e:Sh.enc [(true,aD)] (AK3 d x)=r:=by
  unfold H3 at h;rw[show vG (d,x).1=true from hp] at h;exact Option.some.inj h
 subst e;clear h;have c:=dZ hp;have hd:=wW (r:=bC) (l:=d.2.1) (z:=3) (b:=40) rfl (dN c.n (by decide));unfold AUG BK7 BL2 BLE BK0 BKW BKV BKR BKS BKY;refine cP (r:=bC) (λy=>eM y (sX x)) (o7 c.n) (λX k y hk hy hp hn=>?_) (λh _=>?_)
 ·dsimp only;rw[pZ];refine vA (λh=>?_) λh=>hn h;obtain ⟨hi,_⟩:=hp h;refine cA (λh=>by omega) λ_=>⟨hd,?_⟩
  refine dW (r:=bC) (l:=d.2.1.take k++sX x::d.2.1.drop k) (sG (r:=bC) (x:=sX x) rfl (by omega) c.n (by decide)) _ ?_;unfold AK3 jX;rw[hi];rfl
 ·refine ⟨hd,?_⟩;rw[show (((List.map (bC).enc d.2.1).length:Nat):Int)=(((d.2.1).length:Nat):Int) by rw[ae]];refine dW (r:=bC) (l:=d.2.1.take (d.2.1).length++sX x::d.2.1.drop (d.2.1).length) (sG (r:=bC) (x:=sX x) rfl (al _) c.n (by decide)) _ ?_;unfold AK3 jX;rw[h];rfl
def AK7 (d:aB) (x:aX):aB:=(d.1,d.2.1,d.2.2.1,jX eM d.2.2.2.1 (sY x),d.2.2.2.2)
def H7 (x:aB×aX):Option T:=match vG x.1 with
 | true=>some (Sh.enc [(true,aD)] (AK7 x.1 x.2))
 | false=>none
noncomputable def BF0:Env:=Env.of [(104,.dup 6 72),(288,.grow 6 tK)]
def BGM:FuncId->Hint:=b6 282 [(2,.inv [.val 8 false (.int .i64)])] (λ_=>bA)
def A39:aV Tryz.prog BF0:=aV.cons (x:=.dup 6 72) BZ (.cons AGA (.nil _))
def BLF(a0:aB)(y4:List bT):T:=T.agg [pPQ a0.1,T.sl false (BK0 a0), T.sl false (BKV a0), T.sl false (List.map bE.enc y4), T.sl false (BKR a0), T.sl false (BKY a0)]
def BLI(a1:aX):List T:=[pPQ a1.2.2.2.2.2.1.1, pPQ a1.2.2.2.2.2.1.2.1, pPQ a1.2.2.2.2.2.1.2.2.1, pPP a1.2.2.2.2.2.1.2.2.2.1, pPP a1.2.2.2.2.2.1.2.2.2.2.1, pPP a1.2.2.2.2.2.1.2.2.2.2.2]
def BK3(a0:aB)(a1:aX)(R:T->Prop):Prop:=bR (((BKW a0).all λ(r:List T)=>decide (r.length=6)) && decide ((BKW a0).length*72<=140737488355328) && decide ((BKW a0).length<=140737488355328)) (eR bE (tK (BKW a0) [pPP (↑(BKW a0).length:Int), T.sl true [(BLI a1)]]) λ(y3:List bT)=>R (BLF a0 y3))
def AUK(a0:aB)(a1:aX)(R:T->Prop):Prop:=bB (Int×PUnit) (λX0 s1=>aC (decide (s1.1<(↑(BKW a0).length:Int))) (aR bE (BKW a0) s1.1 λ(y2:bT)=>aC (!(cD y2.1 a1.2.2.2.2.2.1.1||decide (y2.1=a1.2.2.2.2.2.1.1))) (aC (decide (s1.1<0)) (BK3 a0 a1 R) (bR (((BKW a0).all λ(r:List T)=>decide (r.length=6)) && decide ((BKW a0).length*72<=140737488355328) && decide ((BKW a0).length<=140737488355328)) (eR bE (tK (BKW a0) [pPP s1.1, T.sl true [(BLI a1)]]) λ(y4:List bT)=>R (BLF a0 y4)))) (BKS X0 s1)) (BK3 a0 a1 R)) (0,())
abbrev A2F:Sh:=[(true,aD),(true,aN)]
noncomputable def RV:List T->Option T:=gS A2F H7
def AYX {a0 a1}:RV [aG true aD a0,aG true aN a1]=H7 (a0,a1):=bI (s:=A2F) rfl (a0,a1) rfl
def BD1:rJ Tryz.prog 198 RV H7 (cC A2F) AUK:=gZ (a1:=(true,aD)) (a2:=(true,aN)) (sp:=H7) (F:=AUK) (Hs:=BGM) (f:=198) (k:=8) A39 aY a7 (aO rfl) ⟨_,_,Tryz.func198,rfl⟩ rfl λ_ _ _=>by kernel_rfl
def BBV:aP Tryz.prog 198 RV:=BD1 λd x r h hb=>by
 clear hb;have hp:vG d=true:=by
  unfold H7 at h;split at h
  ·assumption
  ·cases h
 have e:Sh.enc [(true,aD)] (AK7 d x)=r:=by
  unfold H7 at h;rw[show vG (d,x).1=true from hp] at h;exact Option.some.inj h
 subst e;clear h;have c:=dZ hp;have hd:=wW (r:=bE) (l:=d.2.2.2.1) (z:=6) (b:=72) rfl (dN c.s (by decide));unfold AUK BK3 BLI BLF BK0 BKW BKV BKR BKS BKY;refine cP (r:=bE) (λy=>eM y (sY x)) (o7 c.s) (λX k y hk hy hp hn=>?_) (λh _=>?_)
 ·dsimp only;rw[pZ];refine vA (λh=>?_) λh=>hn h;obtain ⟨hi,_⟩:=hp h;refine cA (λh=>by omega) λ_=>⟨hd,?_⟩
  refine dW (r:=bE) (l:=d.2.2.2.1.take k++sY x::d.2.2.2.1.drop k) (sG (r:=bE) (x:=sY x) rfl (by omega) c.s (by decide)) _ ?_;unfold AK7 jX;rw[hi];rfl
 ·refine ⟨hd,?_⟩;rw[show (((List.map (bE).enc d.2.2.2.1).length:Nat):Int)=(((d.2.2.2.1).length:Nat):Int) by rw[ae]];refine dW (r:=bE) (l:=d.2.2.2.1.take (d.2.2.2.1).length++sY x::d.2.2.2.1.drop (d.2.2.2.1).length) (sG (r:=bE) (x:=sY x) rfl (al _) c.s (by decide)) _ ?_;unfold AK7 jX;rw[h];rfl
def AK4 (d:aB) (x:aX):aB:=(d.1,gV (cV (fD x)) d.2.1,d.2.2)
def H4 (x:aB×aX):Option T:=match vG x.1 with
 | true=>some (Sh.enc [(true,aD)] (AK4 x.1 x.2))
 | false=>none
noncomputable def BFX:Env:=Env.of [(103,.dup 3 40),(281,.grow 3 GH)]
def BGJ:FuncId->Hint:=b6 276 [(2,.inv [.val 8 false (.int .i64)])] (λ_=>bA)
def A36:aV Tryz.prog BFX:=aV.cons (x:=.dup 3 40) BX (.cons AF6 (.nil _))
def BLQ(a0:aB)(R:T->Prop):Prop:=bR (((BK0 a0).all λ(r:List T)=>decide (r.length=3)) && decide ((BK0 a0).length*40<=140737488355328) && decide ((BK0 a0).length<=140737488355328)) (R (aG true aD a0))
def AUH(a0:aB)(a1:aX)(R:T->Prop):Prop:=bB (Int×PUnit) (λX0 s1=>aC (decide (s1.1<(↑(BK0 a0).length:Int))) (aR bC (BK0 a0) s1.1 λ(y2:bQ)=>aC (decide (y2.1=a1.2.1)) (aC (decide (s1.1<0)) (BLQ a0 R) (bR (((BK0 a0).all λ(r:List T)=>decide (r.length=3)) && decide ((BK0 a0).length*40<=140737488355328) && decide ((BK0 a0).length<=140737488355328)) (eR bC (GH (BK0 a0) (BLH s1)) λ(y3:List bQ)=>R (BLE a0 y3)))) (BKS X0 s1)) (BLQ a0 R)) (0,())
abbrev A2C:Sh:=[(true,aD),(true,aN)]
noncomputable def RR:List T->Option T:=gS A2C H4
def AYU {a0 a1}:RR [aG true aD a0,aG true aN a1]=H4 (a0,a1):=bI (s:=A2C) rfl (a0,a1) rfl
def BDY:rJ Tryz.prog 157 RR H4 (cC A2C) AUH:=gZ (a1:=(true,aD)) (a2:=(true,aN)) (sp:=H4) (F:=AUH) (Hs:=BGJ) (f:=157) (k:=8) A36 aY a7 (aO rfl) ⟨_,_,Tryz.func157,rfl⟩ rfl λ_ _ _=>by kernel_rfl
def BBS:aP Tryz.prog 157 RR:=BDY λd x r h hb=>by
 clear hb;have hp:vG d=true:=by
  unfold H4 at h;split at h
  ·assumption
  ·cases h
 have e:Sh.enc [(true,aD)] (AK4 d x)=r:=by
  unfold H4 at h;rw[show vG (d,x).1=true from hp] at h;exact Option.some.inj h
 subst e;clear h;have c:=dZ hp;have hd:=wW (r:=bC) (l:=d.2.1) (z:=3) (b:=40) rfl (dN c.n (by decide));unfold AUH BLQ BLH BLE BK0 BKW BKV BKR BKS BKY;refine cP (r:=bC) (λy=>cV (fD x) y) (o7 c.n) (λX k y hk hy hp hn=>?_) (λh _=>?_)
 ·dsimp only;refine cA (λh=>?_) λh=>hn (aj h);obtain ⟨hi,_⟩:=hp (ai h);refine cA (λh=>by omega) λ_=>⟨hd,?_⟩
  refine dW (r:=bC) (l:=d.2.1.take k++d.2.1.drop (k+1)) (F5 (r:=bC) rfl hk c.n) _ ?_;unfold AK4 gV;rw[show List.findIdx (cV (fD x)) d.2.1=k from hi];rfl
 ·refine ⟨hd,?_⟩;unfold AK4;rw[wV (is:=cV (fD x)) h];rfl
def AK6 (d:aB) (x:aX):aB:=(d.1,d.2.1,gV (cV (fD x)) d.2.2.1,d.2.2.2)
def H6 (x:aB×aX):Option T:=match vG x.1 with
 | true=>some (Sh.enc [(true,aD)] (AK6 x.1 x.2))
 | false=>none
noncomputable def BFZ:Env:=Env.of [(106,.dup 18 208),(286,.grow 18 GI)]
def BGL:FuncId->Hint:=b6 185 [(2,.inv [.val 8 false (.int .i64)])] (λ_=>bA)
def A38:aV Tryz.prog BFZ:=aV.cons (x:=.dup 18 208) BY (.cons AF7 (.nil _))
def BLA(a0:aB)(y3:List a8):T:=T.agg [pPQ a0.1,T.sl false (BK0 a0), T.sl false (List.map aK.enc y3), T.sl false (BKW a0), T.sl false (BKR a0), T.sl false (BKY a0)]
def BLP(a0:aB)(R:T->Prop):Prop:=bR (((BKV a0).all λ(r:List T)=>decide (r.length=18)) && decide ((BKV a0).length*208<=140737488355328) && decide ((BKV a0).length<=140737488355328)) (R (aG true aD a0))
def AUJ(a0:aB)(a1:aX)(R:T->Prop):Prop:=bB (Int×PUnit) (λX0 s1=>aC (decide (s1.1<(↑(BKV a0).length:Int))) (aR aK (BKV a0) s1.1 λ(y2:a8)=>aC (decide (y2.1=a1.2.1)) (aC (decide (s1.1<0)) (BLP a0 R) (bR (((BKV a0).all λ(r:List T)=>decide (r.length=18)) && decide ((BKV a0).length*208<=140737488355328) && decide ((BKV a0).length<=140737488355328)) (eR aK (GI (BKV a0) (BLH s1)) λ(y3:List a8)=>R (BLA a0 y3)))) (BKS X0 s1)) (BLP a0 R)) (0,())
abbrev A2E:Sh:=[(true,aD),(true,aN)]
noncomputable def RU:List T->Option T:=gS A2E H6
def AYW {a0 a1}:RU [aG true aD a0,aG true aN a1]=H6 (a0,a1):=bI (s:=A2E) rfl (a0,a1) rfl
def BD0:rJ Tryz.prog 176 RU H6 (cC A2E) AUJ:=gZ (a1:=(true,aD)) (a2:=(true,aN)) (sp:=H6) (F:=AUJ) (Hs:=BGL) (f:=176) (k:=8) A38 aY a7 (aO rfl) ⟨_,_,Tryz.func176,rfl⟩ rfl λ_ _ _=>by kernel_rfl
def BBU:aP Tryz.prog 176 RU:=BD0 λd x r h hb=>by
 clear hb;have hp:vG d=true:=by
  unfold H6 at h;split at h
  ·assumption
  ·cases h
 have e:Sh.enc [(true,aD)] (AK6 d x)=r:=by
  unfold H6 at h;rw[show vG (d,x).1=true from hp] at h;exact Option.some.inj h
 subst e;clear h;have c:=dZ hp;have hd:=wW (r:=aK) (l:=d.2.2.1) (z:=18) (b:=208) rfl (dN c.p (by decide));unfold AUJ BLP BLH BLA BK0 BKW BKV BKR BKS BKY;refine cP (r:=aK) (λy=>cV (fD x) y) (o7 c.p) (λX k y hk hy hp hn=>?_) (λh _=>?_)
 ·dsimp only;refine cA (λh=>?_) λh=>hn (aj h);obtain ⟨hi,_⟩:=hp (ai h);refine cA (λh=>by omega) λ_=>⟨hd,?_⟩
  refine dW (r:=aK) (l:=d.2.2.1.take k++d.2.2.1.drop (k+1)) (F5 (r:=aK) rfl hk c.p) _ ?_;unfold AK6 gV;rw[show List.findIdx (cV (fD x)) d.2.2.1=k from hi];rfl
 ·refine ⟨hd,?_⟩;unfold AK6;rw[wV (is:=cV (fD x)) h];rfl
def AK8 (d:aB) (x:aX):aB:=(d.1,d.2.1,d.2.2.1,gV (cV (fD x)) d.2.2.2.1,d.2.2.2.2)
def H8 (x:aB×aX):Option T:=match vG x.1 with
 | true=>some (Sh.enc [(true,aD)] (AK8 x.1 x.2))
 | false=>none
noncomputable def BF1:Env:=Env.of [(104,.dup 6 72),(289,.grow 6 GJ)]
def BGN:FuncId->Hint:=b6 282 [(2,.inv [.val 8 false (.int .i64)])] (λ_=>bA)
def A4A:aV Tryz.prog BF1:=aV.cons (x:=.dup 6 72) BZ (.cons AF8 (.nil _))
def BLR(a0:aB)(R:T->Prop):Prop:=bR (((BKW a0).all λ(r:List T)=>decide (r.length=6)) && decide ((BKW a0).length*72<=140737488355328) && decide ((BKW a0).length<=140737488355328)) (R (aG true aD a0))
def AUL(a0:aB)(a1:aX)(R:T->Prop):Prop:=bB (Int×PUnit) (λX0 s1=>aC (decide (s1.1<(↑(BKW a0).length:Int))) (aR bE (BKW a0) s1.1 λ(y2:bT)=>aC (decide (y2.1=a1.2.1)) (aC (decide (s1.1<0)) (BLR a0 R) (bR (((BKW a0).all λ(r:List T)=>decide (r.length=6)) && decide ((BKW a0).length*72<=140737488355328) && decide ((BKW a0).length<=140737488355328)) (eR bE (GJ (BKW a0) (BLH s1)) λ(y3:List bT)=>R (BLF a0 y3)))) (BKS X0 s1)) (BLR a0 R)) (0,())
abbrev A2G:Sh:=[(true,aD),(true,aN)]
noncomputable def RW:List T->Option T:=gS A2G H8
def AYY {a0 a1}:RW [aG true aD a0,aG true aN a1]=H8 (a0,a1):=bI (s:=A2G) rfl (a0,a1) rfl
def BD2:rJ Tryz.prog 205 RW H8 (cC A2G) AUL:=gZ (a1:=(true,aD)) (a2:=(true,aN)) (sp:=H8) (F:=AUL) (Hs:=BGN) (f:=205) (k:=8) A4A aY a7 (aO rfl) ⟨_,_,Tryz.func205,rfl⟩ rfl λ_ _ _=>by kernel_rfl
def BBW:aP Tryz.prog 205 RW:=BD2 λd x r h hb=>by
 clear hb;have hp:vG d=true:=by
  unfold H8 at h;split at h
  ·assumption
  ·cases h
 have e:Sh.enc [(true,aD)] (AK8 d x)=r:=by
  unfold H8 at h;rw[show vG (d,x).1=true from hp] at h;exact Option.some.inj h
 subst e;clear h;have c:=dZ hp;have hd:=wW (r:=bE) (l:=d.2.2.2.1) (z:=6) (b:=72) rfl (dN c.s (by decide));unfold AUL BLR BLH BLF BK0 BKW BKV BKR BKS BKY;refine cP (r:=bE) (λy=>cV (fD x) y) (o7 c.s) (λX k y hk hy hp hn=>?_) (λh _=>?_)
 ·dsimp only;refine cA (λh=>?_) λh=>hn (aj h);obtain ⟨hi,_⟩:=hp (ai h);refine cA (λh=>by omega) λ_=>⟨hd,?_⟩
  refine dW (r:=bE) (l:=d.2.2.2.1.take k++d.2.2.2.1.drop (k+1)) (F5 (r:=bE) rfl hk c.s) _ ?_;unfold AK8 gV;rw[show List.findIdx (cV (fD x)) d.2.2.2.1=k from hi];rfl
 ·refine ⟨hd,?_⟩;unfold AK8;rw[wV (is:=cV (fD x)) h];rfl
def V4 (d:aB) (x:aX):aB:=(d.1,d.2.1,d.2.2.1,d.2.2.2.1,gV (cV (fD x)) d.2.2.2.2.1,d.2.2.2.2.2)
def zR (x:aB×aX):Option T:=match vG x.1 with
 | true=>some (Sh.enc [(true,aD)] (V4 x.1 x.2))
 | false=>none
noncomputable def A97:Env:=Env.of [(107,.dup 5 88),(290,.grow 5 mQ)]
def BAM:FuncId->Hint:=b6 277 [(2,.inv [.val 8 false (.int .i64)])] (λ_=>bA)
def ATL:aV Tryz.prog A97:=aV.cons (x:=.dup 5 88) oE (.cons AV (.nil _))
def BLB(a0:aB)(y3:List aQ):T:=T.agg [pPQ a0.1,T.sl false (BK0 a0), T.sl false (BKV a0), T.sl false (BKW a0), T.sl false (List.map aH.enc y3), T.sl false (BKY a0)]
def AES(a0:aB)(a1:aX)(R:T->Prop):Prop:=bB (Int×PUnit) (λX0 s1=>aC (decide (s1.1<(↑(BKR a0).length:Int))) (aR aH (BKR a0) s1.1 λ(y2:aQ)=>aC (decide (y2.1=a1.2.1)) (aC (decide (s1.1<0)) (bR (((BKR a0).all λ(r:List T)=>decide (r.length=5)) && decide ((BKR a0).length*88<=140737488355328) && decide ((BKR a0).length<=140737488355328)) (R (aG true aD a0))) (bR (((BKR a0).all λ(r:List T)=>decide (r.length=5)) && decide ((BKR a0).length*88<=140737488355328) && decide ((BKR a0).length<=140737488355328)) (eR aH (mQ (BKR a0) (BLH s1)) λ(y3:List aQ)=>R (BLB a0 y3)))) (BKS X0 s1)) (bR (((BKR a0).all λ(r:List T)=>decide (r.length=5)) && decide ((BKR a0).length*88<=140737488355328) && decide ((BKR a0).length<=140737488355328)) (R (aG true aD a0)))) (0,())
abbrev AID:Sh:=[(true,aD),(true,aN)]
noncomputable def GK:List T->Option T:=gS AID zR
def API {a0 a1}:GK [aG true aD a0,aG true aN a1]=zR (a0,a1):=bI (s:=AID) rfl (a0,a1) rfl
def A7Z:rJ Tryz.prog 226 GK zR (cC AID) AES:=gZ (a1:=(true,aD)) (a2:=(true,aN)) (sp:=zR) (F:=AES) (Hs:=BAM) (f:=226) (k:=8) ATL aY a7 (aO rfl) ⟨_,_,Tryz.func226,rfl⟩ rfl λ_ _ _=>by kernel_rfl
def A6I:aP Tryz.prog 226 GK:=A7Z λd x r h hb=>by
 clear hb;have hp:vG d=true:=by
  unfold zR at h;split at h
  ·assumption
  ·cases h
 have e:Sh.enc [(true,aD)] (V4 d x)=r:=by
  unfold zR at h;rw[show vG (d,x).1=true from hp] at h;exact Option.some.inj h
 subst e;clear h;have c:=dZ hp;have hd:=wW (r:=aH) (l:=d.2.2.2.2.1) (z:=5) (b:=88) rfl (dN c.k (by decide));unfold AES BLH BLB BK0 BKW BKV BKR BKS BKY;refine cP (r:=aH) (λy=>cV (fD x) y) (o7 c.k) (λX k y hk hy hp hn=>?_) (λh _=>?_)
 ·dsimp only;refine cA (λh=>?_) λh=>hn (aj h);obtain ⟨hi,_⟩:=hp (ai h);refine cA (λh=>by omega) λ_=>⟨hd,?_⟩
  refine dW (r:=aH) (l:=d.2.2.2.2.1.take k++d.2.2.2.2.1.drop (k+1)) (F5 (r:=aH) rfl hk c.k) _ ?_;unfold V4 gV;rw[show List.findIdx (cV (fD x)) d.2.2.2.2.1=k from hi];rfl
 ·refine ⟨hd,?_⟩;unfold V4;rw[wV (is:=cV (fD x)) h];rfl
def AK5 (d:aB) (x:aX):aB:=(d.1,d.2.1,jX eM d.2.2.1 (cI x),d.2.2.2)
def H5 (x:aB×aX):Option T:=match vG x.1&&fL (cI x.2) with
 | true=>some (Sh.enc [(true,aD)] (AK5 x.1 x.2))
 | false=>none
noncomputable def BFY:Env:=Env.of [(108,.pure iG),(106,.dup 18 208),(285,.grow 18 tJ)]
def BGK:FuncId->Hint:=b6 185 [(2,.inv [.val 8 false (.int .i64)])] (λ_=>bA)
def A37:aV Tryz.prog BFY:=.cons uV (aV.cons (x:=.dup 18 208) BY (.cons AF9 (.nil _)))
def BKT(y0:a8):List T:=[pPQ y0.1,pPP y0.2.1, pPP y0.2.2.1, pPQ y0.2.2.2.1, pPQ y0.2.2.2.2.1, pPP y0.2.2.2.2.2.1, T.sl false (List.map aA.enc y0.2.2.2.2.2.2.1.1), T.sl false (List.map aA.li.enc y0.2.2.2.2.2.2.1.2), pPQ y0.2.2.2.2.2.2.2.1, pPP y0.2.2.2.2.2.2.2.2.1, pPP y0.2.2.2.2.2.2.2.2.2.1, pPP y0.2.2.2.2.2.2.2.2.2.2.1.1, pPP y0.2.2.2.2.2.2.2.2.2.2.1.2.1, pPP y0.2.2.2.2.2.2.2.2.2.2.1.2.2, pPP y0.2.2.2.2.2.2.2.2.2.2.2.1.1, pPP y0.2.2.2.2.2.2.2.2.2.2.2.1.2.1, pPP y0.2.2.2.2.2.2.2.2.2.2.2.1.2.2, pPP y0.2.2.2.2.2.2.2.2.2.2.2.2]
def BLG(a0:aB)(y0:a8)(R:T->Prop):Prop:=bR (((BKV a0).all λ(r:List T)=>decide (r.length=18)) && decide ((BKV a0).length*208<=140737488355328) && decide ((BKV a0).length<=140737488355328)) (eR aK (tJ (BKV a0) [pPP (↑(BKV a0).length:Int), T.sl true [(BKT y0)]]) λ(y4:List a8)=>R (BLA a0 y4))
def AUI(a0:aB)(a1:aX)(R:T->Prop):Prop:=aJ [(true,aK)] (iG [aG true aK a1.2.2.2.2.1]) λ(y0:a8)=>bB (Int×PUnit) (λX1 s2=>aC (decide (s2.1<(↑(BKV a0).length:Int))) (aR aK (BKV a0) s2.1 λ(y3:a8)=>aC (!(cD y3.1 y0.1||decide (y3.1=y0.1))) (aC (decide (s2.1<0)) (BLG a0 y0 R) (bR (((BKV a0).all λ(r:List T)=>decide (r.length=18)) && decide ((BKV a0).length*208<=140737488355328) && decide ((BKV a0).length<=140737488355328)) (eR aK (tJ (BKV a0) [pPP s2.1, T.sl true [(BKT y0)]]) λ(y5:List a8)=>R (BLA a0 y5)))) (BKS X1 s2)) (BLG a0 y0 R)) (0,())
abbrev A2D:Sh:=[(true,aD),(true,aN)]
noncomputable def RT:List T->Option T:=gS A2D H5
def AYV {a0 a1}:RT [aG true aD a0,aG true aN a1]=H5 (a0,a1):=bI (s:=A2D) rfl (a0,a1) rfl
def BDZ:rJ Tryz.prog 169 RT H5 (cC A2D) AUI:=gZ (a1:=(true,aD)) (a2:=(true,aN)) (sp:=H5) (F:=AUI) (Hs:=BGK) (f:=169) (k:=8) A37 aY a7 (aO rfl) ⟨_,_,Tryz.func169,rfl⟩ rfl λ_ _ _=>by kernel_rfl
def BBT:aP Tryz.prog 169 RT:=BDZ λd x r h hb=>by
 clear hb;have hq:(vG d&&fL (cI x))=true:=by
  unfold H5 at h;split at h
  ·assumption
  ·cases h
 have e:Sh.enc [(true,aD)] (AK5 d x)=r:=by
  unfold H5 at h;rw[show (vG (d,x).1&&fL (cI (d,x).2))=true from hq] at h;exact Option.some.inj h
 subst e;clear h;rw[ac] at hq;obtain ⟨hp,ho⟩:=hq;have c:=dZ hp;have hd:=wW (r:=aK) (l:=d.2.2.1) (z:=18) (b:=208) rfl (dN c.p (by decide));unfold AUI BLG BLA BK0 BKW BKV BKT BKR BKS BKY;refine aF (s:=[(true,aK)]) (y:=cI x) ((uX ..).trans (by unfold iZ;rw[ho])) ?_;refine cP (r:=aK) (λy=>eM y (cI x)) (o7 c.p) (λX k y hk hy hp hn=>?_) (λh _=>?_)
 ·dsimp only;rw[pZ];refine vA (λh=>?_) λh=>hn h;obtain ⟨hi,_⟩:=hp h;refine cA (λh=>by omega) λ_=>⟨hd,?_⟩
  refine dW (r:=aK) (l:=d.2.2.1.take k++cI x::d.2.2.1.drop k) (sG (r:=aK) (x:=cI x) rfl (by omega) c.p (by decide)) _ ?_;unfold AK5 jX;rw[hi];rfl
 ·refine ⟨hd,?_⟩;rw[show (((List.map (aK).enc d.2.2.1).length:Nat):Int)=(((d.2.2.1).length:Nat):Int) by rw[ae]];refine dW (r:=aK) (l:=d.2.2.1.take (d.2.2.1).length++cI x::d.2.2.1.drop (d.2.2.1).length) (sG (r:=aK) (x:=cI x) rfl (al _) c.p (by decide)) _ ?_;unfold AK5 jX;rw[h];rfl
def AK9 (d:aB) (x:aX):aB:=(d.1,d.2.1,d.2.2.1,d.2.2.2.1,jX eM d.2.2.2.2.1 (iQ x),d.2.2.2.2.2)
def H9 (x:aB×aX):Option T:=match vG x.1&&eT (iQ x.2) with
 | true=>some (Sh.enc [(true,aD)] (AK9 x.1 x.2))
 | false=>none
noncomputable def BF2:Env:=Env.of [(109,.pure nS),(107,.dup 5 88),(292,.grow 5 mR)]
def BGO:FuncId->Hint:=b6 277 [(2,.inv [.val 8 false (.int .i64)])] (λ_=>bA)
def A4B:aV Tryz.prog BF2:=.cons M7 (aV.cons (x:=.dup 5 88) oE (.cons QF (.nil _)))
def BLD(y0:aQ):List T:=[pPQ y0.1,pPQ y0.2.1, T.sl false (BLT y0), pPP y0.2.2.2.1, T.sl false (BLJ y0)]
def BLZ(a0:aB)(y0:aQ)(R:T->Prop):Prop:=eR aH (mR (BKR a0) [pPP (↑(BKR a0).length:Int), T.sl true [(BLD y0)]]) λ(y4:List aQ)=>R (BLB a0 y4)
def AUM(a0:aB)(a1:aX)(R:T->Prop):Prop:=aJ [(true,aH)] (nS [aG true aH a1.2.2.2.2.2.2.1]) λ(y0:aQ)=>bB (Int×PUnit) (λX1 s2=>aC (decide (s2.1<(↑(BKR a0).length:Int))) (aR aH (BKR a0) s2.1 λ(y3:aQ)=>aC (!(cD y3.1 y0.1||decide (y3.1=y0.1))) (aC (decide (s2.1<0)) (bR (((BKR a0).all λ(r:List T)=>decide (r.length=5)) && decide ((BKR a0).length*88<=140737488355328) && decide ((BKR a0).length<=140737488355328)) (BLZ a0 y0 R)) (bR (((BKR a0).all λ(r:List T)=>decide (r.length=5)) && decide ((BKR a0).length*88<=140737488355328) && decide ((BKR a0).length<=140737488355328)) (eR aH (mR (BKR a0) [pPP s2.1, T.sl true [(BLD y0)]]) λ(y5:List aQ)=>R (BLB a0 y5)))) (BKS X1 s2)) (bR (((BKR a0).all λ(r:List T)=>decide (r.length=5)) && decide ((BKR a0).length*88<=140737488355328) && decide ((BKR a0).length<=140737488355328)) (BLZ a0 y0 R))) (0,())
abbrev A2H:Sh:=[(true,aD),(true,aN)]
noncomputable def RX:List T->Option T:=gS A2H H9
def AYZ {a0 a1}:RX [aG true aD a0,aG true aN a1]=H9 (a0,a1):=bI (s:=A2H) rfl (a0,a1) rfl
def BD3:rJ Tryz.prog 218 RX H9 (cC A2H) AUM:=gZ (a1:=(true,aD)) (a2:=(true,aN)) (sp:=H9) (F:=AUM) (Hs:=BGO) (f:=218) (k:=8) A4B aY a7 (aO rfl) ⟨_,_,Tryz.func218,rfl⟩ rfl λ_ _ _=>by kernel_rfl
def BBX:aP Tryz.prog 218 RX:=BD3 λd x r h hb=>by
 clear hb;have hq:(vG d&&eT (iQ x))=true:=by
  unfold H9 at h;split at h
  ·assumption
  ·cases h
 have e:Sh.enc [(true,aD)] (AK9 d x)=r:=by
  unfold H9 at h;rw[show (vG (d,x).1&&eT (iQ (d,x).2))=true from hq] at h;exact Option.some.inj h
 subst e;clear h;rw[ac] at hq;obtain ⟨hp,ho⟩:=hq;have c:=dZ hp;have hd:=wW (r:=aH) (l:=d.2.2.2.2.1) (z:=5) (b:=88) rfl (dN c.k (by decide));unfold AUM BLZ BLD BLB BLJ BK0 BLT BKW BKV BKR BKS BKY;refine aF (s:=[(true,aH)]) (y:=iQ x) ((DH ..).trans (by unfold j5;rw[ho])) ?_;refine cP (r:=aH) (λy=>eM y (iQ x)) (o7 c.k) (λX k y hk hy hp hn=>?_) (λh _=>?_)
 ·dsimp only;rw[pZ];refine vA (λh=>?_) λh=>hn h;obtain ⟨hi,_⟩:=hp h;refine cA (λh=>by omega) λ_=>⟨hd,?_⟩
  refine dW (r:=aH) (l:=d.2.2.2.2.1.take k++iQ x::d.2.2.2.2.1.drop k) (sG (r:=aH) (x:=iQ x) rfl (by omega) c.k (by decide)) _ ?_;unfold AK9 jX;rw[hi];rfl
 ·refine ⟨hd,?_⟩;rw[show (((List.map (aH).enc d.2.2.2.2.1).length:Nat):Int)=(((d.2.2.2.2.1).length:Nat):Int) by rw[ae]];refine dW (r:=aH) (l:=d.2.2.2.2.1.take (d.2.2.2.2.1).length++iQ x::d.2.2.2.2.1.drop (d.2.2.2.2.1).length) (sG (r:=aH) (x:=iQ x) rfl (al _) c.k (by decide)) _ ?_;unfold AK9 jX;rw[h];rfl
noncomputable def NM:List T->Option T:=fG
def AJ7:LX Tryz.prog 69 2 NM :=
 A1H (E:=ADJ) (Hs:=AE6) XV aY a7 (aO rfl) 8 ⟨_,_,Tryz.func69,rfl⟩ (s:=OS) rfl λd r h hb=>by
  have hp:vG d=true:=by
   unfold rY at h;split at h
   ·assumption
   ·cases h
  have e:Sh.enc [(true,aD)] d=r:=by
   unfold rY at h;rw[hp] at h;exact Option.some.inj h
  subst e;rw[show XH bY Tryz.prog ADJ AE6 8 2 69 (Sh.lT OS d) (λy=>y=Sh.enc [(true,aD)] d)=K0 d (λy=>y=Sh.enc [(true,aD)] d) from by kernel_rfl];exact AW1 hp
def XA (x:aX):Option T:=some (Sh.enc [(true,aN)] ((x.1,nX,nX,iB,cI x,iC,noPack,pD):aX))
noncomputable def BF8:Env:=Env.of []
def BGU:FuncId->Hint:=λ_=>bA
def A4M:aV Tryz.prog BF8:=.nil _
def AU2(a0:aX)(R:T->Prop):Prop:=R (BKU a0)
abbrev A2N:Sh:=[(true,aN)]
noncomputable def SA:List T->Option T:=gS A2N XA
def AZA {a0}:SA [aG true aN a0]=XA (a0):=bI (s:=A2N) rfl (a0) rfl
def BEE:wP Tryz.prog 181 SA XA (cC A2N) AU2:=jZ (a1:=(true,aN)) (sp:=XA) (F:=AU2) (Hs:=BGU) (f:=181) (k:=8) A4M aY a7 (aO rfl) ⟨_,_,Tryz.func181,rfl⟩ rfl λ_ _=>by kernel_rfl
def BCB:aP Tryz.prog 181 SA:=BEE λx r h hb=>by
 cases h;unfold AU2 BKU;rfl
def XB (x:aX):Option T:=some (Sh.enc [(true,aN)] ((x.1,fD x,eTo x,iB,dV,iC,noPack,pD):aX))
noncomputable def BF9:Env:=Env.of []
def BGV:FuncId->Hint:=λ_=>bA
def A4N:aV Tryz.prog BF9:=.nil _
def AU3(a0:aX)(R:T->Prop):Prop:=R (T.agg [pPP a0.1,pPQ a0.2.1, pPQ a0.2.2.1,pPQ ({data:=#[]}), pPP 0,pPQ ({data:=#[]}), pPQ ({data:=#[]}),pPP 0, pPP 0,pPQ ({data:=#[]}), pPQ ({data:=#[]}),pPP 0,T.sl false [], T.sl false [],pPQ ({data:=#[]}),pPP 0, pPP 0,pPP 0, pPP 0,pPP 0, pPP 0,pPP 0, pPP 0,pPP 0, pPQ ({data:=#[]}),pPQ ({data:=#[]}), pPQ ({data:=#[]}),pPP 0, pPP 0,pPP 0, pPQ ({data:=#[]}),pPQ ({data:=#[]}),T.sl false [], pPP 0,T.sl false [],pPP 0, pPQ ({data:=#[]}),pPQ ({data:=#[]})])
abbrev A2O:Sh:=[(true,aN)]
noncomputable def SB:List T->Option T:=gS A2O XB
def AZB {a0}:SB [aG true aN a0]=XB (a0):=bI (s:=A2O) rfl (a0) rfl
def BEF:wP Tryz.prog 189 SB XB (cC A2O) AU3:=jZ (a1:=(true,aN)) (sp:=XB) (F:=AU3) (Hs:=BGV) (f:=189) (k:=8) A4N aY a7 (aO rfl) ⟨_,_,Tryz.func189,rfl⟩ rfl λ_ _=>by kernel_rfl
def BCC:aP Tryz.prog 189 SB:=BEF λx r h hb=>by
 cases h;unfold AU3;rfl
end Go.Pv
