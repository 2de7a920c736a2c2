/-
  poly.Where; region: edges, within, apart, Check, Area2.
  region: Check, Area2.
  vec.Valid; material: Check, Grade, Rolled.
  part: Check, Mass.
  Chapter 17: the tree's parts and packages in full.
  Chapter 17: the tree's packages in full.
  Chapter 17: Check where the parts and packages are empty ones; StructureLong, walked.
  Chapter 17: structure.Check in full.
  What an edit does to a design, in plain words.
  The reference's material.Check.
  R17.Has.
  The form of a design, as the reference looks at it.
  The closures of edit.kinds: what they come to.
  edit.Apply, the kinds 5 and 6 (the copied parts are turned in place).
-/
import Derived.Test.YtipdohmdckdoeaaGreatDoorVcz1
import Derived.Sort.Walk0
import Derived.Test.YtipdohmdckdoeaaGreatDoorVckp
set_option linter.defProp false
set_option linter.unusedSimpArgs false
set_option linter.unusedVariables false
set_option maxRecDepth 100000
namespace Go.Pv
open Go Go.Proofs IntKind
open List (range drop_zero drop_eq_getElem_cons drop_length mem_cons getElem?_eq_getElem length_take all_eq_true not_lt pairwise_cons length_cons mem_append)
noncomputable section
def AQK (p:List Pt) (q:Pt):Bool:=(range p.length).any λi=>onI (pt p i) (nx p i) q
def jH (p:List Pt) (q:Pt):Int:=if ¬ dS q\/¬ lO p=0 then -1 else if AQK p q=true then 0 else if BDR p q=true then 1 else -1
def BE {n:Nat} {f:Nat->Bool}:(range n).any f=true↔∃ i,i<n/\f i=true:=by simp[List.any_eq_true,List.mem_range]
def AKP {n:Nat} {f:Nat->Bool} (h:∀ i,i<n->f i=false):(range n).any f=false:=by
 rw[Bool.eq_false_iff];intro ha;obtain ⟨i,hi,h2⟩:=BE.1 ha;rw[h i hi] at h2;cases h2
def A5W {a b q:Pt} (ho:onI a b q=false):hit a b q=(!(decide (q.2<a.2) == decide (q.2<b.2))&&(decide (0<eH a b q) == decide (a.2<b.2))):=by
 rcases Int.lt_or_le q.2 a.2 with h1|h1
 ·rcases Int.lt_or_le q.2 b.2 with h2|h2
  ·unfold hit;simp[show ¬ a.2<=q.2 by omega,show ¬ b.2<=q.2 by omega,h1,h2]
  ·have hz:eH a b q≠0:=λh=>by
    have:=BE5 (a:=b) (b:=a) (q:=q) (by rw[QZ a b q,h];rfl) (by omega) h2 (by omega);rw[BE4] at this;rw[this] at ho;cases ho
   have h3:decide (0<eH a b q) = !decide (eH a b q<0):=by
    rcases Int.lt_or_le (eH a b q) 0 with h|h
    ·rw[ai h,aj (by omega)];rfl
    ·rw[aj (show ¬ eH a b q<0 by omega),ai (by omega)];rfl
   unfold hit;rw[h3];simp[show ¬ a.2<=q.2 by omega,h1,h2,show ¬ q.2<b.2 by omega,show ¬ a.2<b.2 by omega]
 ·rcases Int.lt_or_le q.2 b.2 with h2|h2
  ·unfold hit;simp[h1,show ¬ q.2<a.2 by omega,h2,show ¬ b.2<=q.2 by omega,show a.2<b.2 by omega]
  ·unfold hit;simp[show ¬ q.2<a.2 by omega,show ¬ q.2<b.2 by omega]
def AYR:Env:=Env.of [(310,.pure iM),(340,.pure FD),(361,.pure zF),(356,.pure hU)]
def A1X:FuncId->Hint:=b8 346 [(5,.inv [.val 5 false .bool,.val 19 false (.int .i64)])] (λ_=>bA)
def AI8:aU Tryz.prog AYR:=.cons E6 (.cons APP (.cons A35 (.cons BP (.nil _))))
def BQO:Sh:=[(false,Sy.int IntKind.i64)]
def BQP:Sh:=[(false,Sy.bool)]
def BQQ:T:=pPP 0
def BQW:T:=pPP (-1)
def BQ0:T:=pPP 1
def BRQ(a0:List aX):List (List T):=List.map aA.enc a0
def PS(a0:List aX)(a1:aX)(R:T->Prop):Prop:=aJ BQP (FD [aG true aA a1]) λ(y0:Bool)=>aC y0 (R BQW) (aJ BQO (iM [T.sl false (BRQ a0)]) λ(y1:Int)=>aC (!decide (y1=0)) (R BQW) (bB (Bool×Int×PUnit) (λX2 s3=>aC (decide (s3.2.1<(↑(BRQ a0).length:Int))) (aR aA (BRQ a0) s3.2.1 λ(y4:aX)=>bL (!decide ((↑(BRQ a0).length:Int)=0)) (aR aA (BRQ a0) ((i64.wrap (s3.2.1+1)).tmod (↑(BRQ a0).length:Int)) λ(y5:aX)=>aJ BQP (zF [aG true aA y4,aG true aA y5, aG true aA a1]) λ(y6:Bool)=>aC y6 (R BQQ) (aC (decide (decide (a1.2<y4.2)=decide (a1.2<y5.2))) (X2 (s3.1,i64.wrap (s3.2.1+1),())) (aJ BQO (hU [aG true aA y4,aG true aA y5, aG true aA a1]) λ(y7:Int)=>aC (decide (decide (0<y7)=decide (y4.2<y5.2))) (X2 (!s3.1,i64.wrap (s3.2.1+1),())) (X2 (s3.1,i64.wrap (s3.2.1+1),())))))) (aC s3.1 (R BQ0) (R BQW))) (false,0,())))
abbrev TN:Sh:=[(false,aA.li),(true,aA)]
def CJ (x:List aX×aX):Option T:=some (T.v (Value.int .i64 (jH x.1 x.2)))
def nS:List T->Option T:=gS TN CJ
def AFM {a0 a1}:nS [T.sl false (List.map aA.enc a0),aG true aA a1]=CJ (a0,a1):=bH (s:=TN) rfl (a0,a1) rfl
def AWM:qU Tryz.prog 346 nS CJ (cG TN) PS:=gV (a1:=(false,aA.li)) (a2:=(true,aA)) (sp:=CJ) (F:=PS) (Hs:=A1X) (f:=346) (k:=8) AI8 aY a6 (aO rfl) ⟨_,_,Tryz.func346,rfl⟩ rfl λ_ _ _=>by kernel_rfl
def yN (p q:List Pt):Bool:=(range p.length).any λi=>(range q.length).any λk=>nV (pt p i) (nx p i) (pt q k) (nx q k)
def nG (a0:List aX) (a1:List aX):List T:=[T.sl false (List.map aA.enc a0),T.sl false (List.map aA.enc a1),T.fn 344 [] []]
def O6:Env:=Env.of [(344,.pure zJ)]
def ADQ:FuncId->Hint:=b8 343 [(2,.inv [.val 13 false (.int .i64)]),(5,.inv [.val 20 false (.int .i64)])] (λ_=>bA)
def AJE:aU Tryz.prog O6:=.cons AUN (.nil _)
def BQM:T:=pPR false
def BQR:T:=pPR true
def BQ9(X3:Int×PUnit->Prop)(s4:Int×PUnit):Prop:=X3 (i64.wrap (s4.1+1),())
def PY(a0:List aX)(a1:List aX)(R:T->Prop):Prop:=bB (Int×PUnit) (λX0 s1=>aC (decide (s1.1<(↑(BRQ a0).length:Int))) (aR aA (BRQ a0) s1.1 λ(y2:aX)=>bB (Int×PUnit) (λX3 s4=>aC (decide (s4.1<(↑(BRQ a1).length:Int))) (aR aA (BRQ a1) s4.1 λ(y5:aX)=>bL (!decide ((↑(BRQ a0).length:Int)=0)) (aR aA (BRQ a0) ((i64.wrap (s1.1+1)).tmod (↑(BRQ a0).length:Int)) λ(y6:aX)=>bL (!decide ((↑(BRQ a1).length:Int)=0)) (aR aA (BRQ a1) ((i64.wrap (s4.1+1)).tmod (↑(BRQ a1).length:Int)) λ(y7:aX)=>aJ BQP (zJ [aG true aA y2,aG true aA y6, aG true aA y5,aG true aA y7]) λ(y8:Bool)=>aC y8 (R BQR) (BQ9 X3 s4)))) (BQ9 X0 s1)) (0,())) (R BQM)) (0,())
def ADH ( a0 a1 R):eX cD Tryz.prog O6 ADQ 8 343 (nG a0 a1) R=PY a0 a1 R:=by kernel_rfl
variable {α:Type}
def S0 (p q:List Pt) (r:α):Option α:=match VB p&&VB q with
 | true=>some r
 | false=>none
def S1 {p q:List Pt} {t r:α} (h:S0 p q t=some r):p.length<=1000/\lJ p/\q.length<=1000/\lJ q/\r=t:=by
 unfold S0 at h;split at h
 ·rename_i hc;simp only[VB,ac,ah,oP] at hc;cases h;exact ⟨hc.1.1,hc.1.2,hc.2.1,hc.2.2,rfl⟩
 ·cases h
def S2 {p q:List Pt} (t:α) (h:p.length<=1000) (h2:lJ p) (h3:q.length<=1000) (h4:lJ q):S0 p q t=some t:=by
 unfold S0;rw[show (VB p&&VB q)=true by simp only[VB,ac,ah,oP];exact ⟨⟨h,h2⟩,h3,h4⟩]
def MK (x:List aX×List aX):Option T:=S0 x.1 x.2 (pPR (yN x.1 x.2))
def YS (x y:List aX×List aX) (h:nG x.1 x.2=nG y.1 y.2):x=y:=by
 unfold nG at h;obtain ⟨h1,h2⟩:=List.cons.inj h;have h2:=(List.cons.inj h2).1;exact Prod.ext (map_inj (Sy.dV aA) (T.sl.inj h1).2) (map_inj (Sy.dV aA) (T.sl.inj h2).2)
def pB:List T->Option (T):=gA (λ(x:List aX×List aX)=>nG x.1 x.2) MK
def AFU (a0:List aX) (a1:List aX):pB (nG a0 a1)=MK (a0,a1):=gG (A:=(λ(x:List aX×List aX)=>nG x.1 x.2)) YS (a0,a1)
def AWS (h:∀ (a0:List aX) (a1:List aX) (r:T),MK (a0,a1)=some r->(∀ t∈nG a0 a1,Bd t)->PY a0 a1 (λy=>y=r)):aP Tryz.prog 343 pB :=
 cZ (E:=O6) (Hs:=ADQ) AJE aY a6 (aO rfl) 8 ⟨_,_,Tryz.func343,rfl⟩ λx r h1 h2=>by
  rw[ADH];exact h x.1 x.2 r h1 h2
def V7:aP Tryz.prog 343 pB:=AWS λp q r h hb=>by
 obtain ⟨hl,hn,hl2,hn2,rfl⟩:=S1 h;replace hl:p.length<=1000:=hl;replace hl2:q.length<=1000:=hl2;clear h;unfold PY BRQ BQ9 BQR BQP BQM;refine bM p.length (λk s=>s=((k:Int),())/\∀ i,i<k->i<p.length->((range q.length).any λk=>nV (pt p i) (nx p i) (pt q k) (nx q k))=false) ⟨rfl,λi h=>by omega⟩ ?_;rintro X k s hk ⟨rfl,hJ⟩ hX;dsimp only;refine cA (λhlt=>?_) λhge=>jY (Eq.symm (AKP λi hi=>hJ i (by rw[ae] at hge;omega) hi));rw[ae] at hlt;have hlt:k<p.length:=by omega
 have hne:(!decide (((List.map aA.enc p).length:Int)=0))=true:=by rw[ae,aj (by omega)];rfl
 have hm1:(k+1) % p.length<p.length:=Nat.mod_lt _ (by omega);have i1:(i64.wrap ((k:Int)+1)).tmod ((List.map aA.enc p).length:Int)=(((k+1) % p.length:Nat):Int):=by rw[ae];exact wR (c:=1) hl (by omega) (by omega)
 rw[gH hlt];refine bM q.length (λj s=>s=((j:Int),())/\∀ i,i<j->i<q.length->nV (pt p k) (nx p k) (pt q i) (nx q i)=false) ⟨rfl,λi h=>by omega⟩ ?_;rintro Y j s hj ⟨rfl,hI⟩ hY;dsimp only;refine cA (λhlj=>?_) λhgj=>hX _ hlt ⟨by rw[show i64.wrap ((k:Int)+1)=((k+1:Nat):Int) from bG _ (by omega) (by omega)],λi h1 h2=>by
  rcases Nat.lt_or_ge i k with h3|h3
  ·exact hJ i h3 h2
  ·have:i=k:=by omega
   subst this;exact AKP λm hm=>hI m (by rw[ae] at hgj;omega) hm⟩
 rw[ae] at hlj;have hlj:j<q.length:=by omega
 have hne2:(!decide (((List.map aA.enc q).length:Int)=0))=true:=by rw[ae,aj (by omega)];rfl
 have hm2:(j+1) % q.length<q.length:=Nat.mod_lt _ (by omega);have i2:(i64.wrap ((j:Int)+1)).tmod ((List.map aA.enc q).length:Int)=(((j+1) % q.length:Nat):Int):=by rw[ae];exact wR (c:=1) hl2 (by omega) (by omega)
 rw[gH hlj,i1];refine ⟨hne,?_⟩;rw[gH hm1,i2];refine ⟨hne2,?_⟩;rw[gH hm2];refine aF (s:=[(false,.bool)]) ((AF0 ..).trans (AGZ _ (hn.pt _) (hn.pt _) (hn2.pt _) (hn2.pt _))) ?_;refine sX (λh=>jY (Eq.symm (BE.2 ⟨k,hlt,BE.2 ⟨j,hlj,h⟩⟩))) λh=>hY _ hlj ⟨by rw[show i64.wrap ((j:Int)+1)=((j+1:Nat):Int) from bG _ (by omega) (by omega)],λi h1 h2=>by
  rcases Nat.lt_or_ge i j with h3|h3
  ·exact hI i h3 h2
  ·have:i=j:=by omega
   subst this;exact h⟩
def M7 {p q:List Pt} (h:p.length<=1000) (h2:lJ p) (h3:q.length<=1000) (h4:lJ q):pB (nG p q)=some (Sh.enc [(false,.bool)] (yN p q)):=(AFU ..).trans (S2 _ h h2 h3 h4)
def V5:aP Tryz.prog 346 nS:=AWM λp q r h hb=>by
 cases h;have is:∀ {n:Int},jH p q=n->pPP n=pPP (jH p q):=λh=>by rw[h]
 unfold PS BRQ BQ0 BQW BQQ BQP BQO;refine aF (s:=[(false,.bool)]) (y:=!decide (dS q)) (WQ ..) ?_;refine lF (λh=>is (by unfold jH;rw[if_pos (.inl h)])) λhq=>?_;refine aF (s:=[(false,.int .i64)]) (qL p) ?_;refine lF (λh=>is (by unfold jH;rw[if_pos (.inr h)])) λhp=>?_;obtain ⟨hl3,hl32,hn,_⟩:=vI hp;have w:jH p q=if AQK p q=true then 0 else if BDR p q=true then 1 else -1:=by
  unfold jH;rw[if_neg];rintro (h|h)
  ·exact h hq
  ·exact h hp
 refine bM p.length (λk s=>s=(A9T k (λi=>hit (pt p i) (nx p i) q),(k:Int),())/\∀ i,i<k->i<p.length->onI (pt p i) (nx p i) q=false) ⟨rfl,λi h=>by omega⟩ ?_;rintro X k s hk ⟨rfl,hJ⟩ hX;dsimp only;refine cA (λhlt=>?_) λhge=>?_
 ·rw[ae] at hlt;have hlt:k<p.length:=by omega
  have hne:(!decide (((List.map aA.enc p).length:Int)=0))=true:=by rw[ae,aj (by omega)];rfl
  have hm1:(k+1) % p.length<p.length:=Nat.mod_lt _ (by omega);have i1:(i64.wrap ((k:Int)+1)).tmod ((List.map aA.enc p).length:Int)=(((k+1) % p.length:Nat):Int):=by rw[ae];exact wR (c:=1) (by omega) (by omega) (by omega)
  rw[gH hlt,i1];refine ⟨hne,?_⟩;rw[gH hm1];refine aF (s:=[(false,.bool)]) (zG (hn.pt _) (hn.pt _) hq) ?_;refine sX (λh=>is (by rw[w,if_pos (show AQK p q=true from BE.2 ⟨k,hlt,h⟩)])) λho=>?_;have ho:onI (pt p k) (nx p k) q=false:=ho;have hw:i64.wrap ((k:Int)+1)=((k+1:Nat):Int):=bG _ (by omega) (by omega);have hh:=A5W ho;have hJ':∀ i,i<k+1->i<p.length->onI (pt p i) (nx p i) q=false:=λi h1 h2=>by
   rcases Nat.lt_or_ge i k with h3|h3
   ·exact hJ i h3 h2
   ·have:i=k:=by omega
    subst this;exact ho
  have step:∀ c,hit (pt p k) (nx p k) q=c->X ((A9T k (λi=>hit (pt p i) (nx p i) q) ^^ c),i64.wrap ((k:Int)+1),()):=λc hc=>hX _ hlt ⟨by rw[hw,A9T,hc],hJ'⟩;refine cA (λh=>?_) λh=>?_
  ·have e:hit (pt p k) (nx p k) q=false:=by
    rw[hh,show decide (q.2<(pt p k).2)=decide (q.2<(nx p k).2) from h];simp
   have:=step false e;rwa[Bool.xor_false] at this
  ·refine aF (s:=[(false,.int .i64)]) (kN (hn.pt _) (hn.pt _) hq) ?_;have e0:hit (pt p k) (nx p k) q=(decide (0<eH (pt p k) (nx p k) q) == decide ((pt p k).2<(nx p k).2)):=by
    rw[hh,show (decide (q.2<(pt p k).2) == decide (q.2<(nx p k).2))=false from beq_eq_false_iff_ne.2 h];rfl
   refine cA (λh2=>?_) λh2=>?_
   ·have:=step true (by rw[e0];exact beq_iff_eq.2 h2);rwa[Bool.xor_true] at this
   ·have:=step false (by rw[e0];exact beq_eq_false_iff_ne.2 h2);rwa[Bool.xor_false] at this
 ·rw[ae] at hge;have:k=p.length:=by omega
  subst this;have hna:AQK p q=false:=AKP λi hi=>hJ i hi hi;refine sX (λh=>is ?_) λh=>is ?_
  ·rw[w,hna,if_neg (by simp),if_pos (show BDR p q=true from h)]
  ·rw[w,hna,if_neg (by simp),if_neg (by rw[show BDR p q=false from h];simp)]
def zH (p:List Pt) (q:Pt):nS [T.sl false (List.map aA.enc p),aG true aA q]=some (Sh.enc [(false,.int .i64)] (jH p q)):=AFM ..
def tN (p o:List Pt):Bool:=!yN p o&&p.all λc=>decide (jH o c=1)
def vZ (p q:List Pt):Bool:=!yN p q&&(decide (jH p (pt q 0)<0)&&decide (jH q (pt p 0)<0))
def AR4:Env:=Env.of [(346,.pure nS),(343,.pure pB)]
def AS3:FuncId->Hint:=b8 355 [(2,.inv [.val 8 false (.int .i64)])] (λ_=>bA)
def AC8:aU Tryz.prog AR4:=.cons V5 (.cons V7 (.nil _))
def JS(a0:List aX)(a1:List aX)(R:T->Prop):Prop:=aJ BQP (pB [T.sl false (BRQ a0),T.sl false (BRQ a1), T.fn 344 [] []]) λ(y0:Bool)=>aC (!y0) (bB (Int×PUnit) (λX1 s2=>aC (decide (s2.1<(↑(BRQ a0).length:Int))) (aR aA (BRQ a0) s2.1 λ(y3:aX)=>aJ BQO (nS [T.sl false (BRQ a1),aG true aA y3]) λ(y4:Int)=>aC (!decide (y4=1)) (R (pPR (!decide (0<=s2.1)))) (BQ9 X1 s2)) (R BQR)) (0,())) (R BQM)
abbrev L2:Sh:=[(false,aA.li),(false,aA.li)]
def xH (x:List aX×List aX):Option T:=S0 x.1 x.2 (pPR (tN x.1 x.2))
def qZ:List T->Option T:=gS L2 xH
def AAO {a0 a1}:qZ [T.sl false (List.map aA.enc a0),T.sl false (List.map aA.enc a1)]=xH (a0,a1):=bH (s:=L2) rfl (a0,a1) rfl
def AM6:qU Tryz.prog 312 qZ xH (cG L2) JS:=gV (a1:=(false,aA.li)) (a2:=(false,aA.li)) (sp:=xH) (F:=JS) (Hs:=AS3) (f:=312) (k:=8) AC8 aY a6 (aO rfl) ⟨_,_,Tryz.func312,rfl⟩ rfl λ_ _ _=>by kernel_rfl
def ALP:aP Tryz.prog 312 qZ:=AM6 λp o r h hb=>by
 obtain ⟨hl,hn,hl2,hn2,rfl⟩:=S1 h;replace hl:p.length<=1000:=hl;clear h;unfold JS BRQ BQ9 BQR BQP BQO BQM;refine aF (s:=[(false,.bool)]) (M7 hl hn hl2 hn2) ?_;refine fJ (λhe=>?_) λhe=>jY (by unfold tN;rw[show yN p o=true from he];rfl);have w:tN p o=p.all λc=>decide (jH o c=1):=by unfold tN;rw[show yN p o=false from he];rfl
 refine bM p.length (λk s=>s=((k:Int),())/\p.all (λc=>decide (jH o c=1))=(p.drop k).all λc=>decide (jH o c=1)) ⟨rfl,by rw[drop_zero]⟩ ?_;rintro X k s hk ⟨rfl,hJ⟩ hX;dsimp only;refine cA (λhlt=>?_) λhge=>jY ?_
 ·rw[ae] at hlt;have hlt:k<p.length:=by omega
  rw[drop_eq_getElem_cons hlt,List.all_cons] at hJ;rw[bE (r:=aA) hlt];refine aF (s:=[(false,.int .i64)]) (zH o p[k]) ?_;refine lF (λh=>jY ?_) λh=>hX _ hlt ⟨by rw[show i64.wrap ((k:Int)+1)=((k+1:Nat):Int) from bG _ (by omega) (by omega)],by rw[hJ,ai (show jH o p[k]=1 from h),Bool.true_and]⟩;rw[w,hJ,aj (show ¬ jH o p[k]=1 from h),ai (show 0<=(k:Int) by omega)];rfl
 ·rw[ae] at hge;have:k=p.length:=by omega
  subst this;rw[w,hJ,drop_length];rfl
def AAP {p q:List Pt} (h:p.length<=1000) (h2:lJ p) (h3:q.length<=1000) (h4:lJ q):qZ [T.sl false (List.map aA.enc p),T.sl false (List.map aA.enc q)]=some (Sh.enc [(false,.bool)] (tN p q)):=(AAO ..).trans (S2 _ h h2 h3 h4)
def ANB (p q:List Pt) (t:T):Option T:=match p,q with
 | _::_,_::_=>S0 p q t
 | _,_=>none
def AYS:Env:=Env.of [(346,.pure nS),(343,.pure pB)]
def A1Y:FuncId->Hint:=λ_=>bA
def AI9:aU Tryz.prog AYS:=.cons V5 (.cons V7 (.nil _))
def PT(a0:List aX)(a1:List aX)(R:T->Prop):Prop:=aJ BQP (pB [T.sl false (BRQ a0),T.sl false (BRQ a1), T.fn 344 [] []]) λ(y0:Bool)=>aC (!y0) (aR aA (BRQ a1) 0 λ(y1:aX)=>aJ BQO (nS [T.sl false (BRQ a0),aG true aA y1]) λ(y2:Int)=>aC (decide (y2<0)) (aR aA (BRQ a0) 0 λ(y3:aX)=>aJ BQO (nS [T.sl false (BRQ a1),aG true aA y3]) λ(y4:Int)=>R (pPR (decide (y4<0)))) (R BQM)) (R BQM)
abbrev TO:Sh:=[(false,aA.li),(false,aA.li)]
def rC (x:List aX×List aX):Option T:=ANB x.1 x.2 (pPR (vZ x.1 x.2))
def uZ:List T->Option T:=gS TO rC
def AFN {a0 a1}:uZ [T.sl false (List.map aA.enc a0),T.sl false (List.map aA.enc a1)]=rC (a0,a1):=bH (s:=TO) rfl (a0,a1) rfl
def AWN:qU Tryz.prog 313 uZ rC (cG TO) PT:=gV (a1:=(false,aA.li)) (a2:=(false,aA.li)) (sp:=rC) (F:=PT) (Hs:=A1Y) (f:=313) (k:=8) AI9 aY a6 (aO rfl) ⟨_,_,Tryz.func313,rfl⟩ rfl λ_ _ _=>by kernel_rfl
def AUJ:aP Tryz.prog 313 uZ:=AWN λp q r h hb=>by
 unfold rC ANB at h;split at h
 ·rename_i e1 e2;obtain ⟨hl,hn,hl2,hn2,rfl⟩:=S1 h;have k1:0<p.length:=by rw[show p=_ from e1];simp
  have k2:0<q.length:=by rw[show q=_ from e2];simp
  clear h;unfold PT BRQ BQP BQO BQM;refine aF (s:=[(false,.bool)]) (M7 hl hn hl2 hn2) ?_;refine fJ (λhe=>?_) λhe=>jY (by unfold vZ;rw[show yN p q=true from he];rfl);have w:vZ p q=(decide (jH p (pt q 0)<0)&&decide (jH q (pt p 0)<0)):=by unfold vZ;rw[show yN p q=false from he];rfl
  rw[show (0:Int)=((0:Nat):Int) from rfl,gH k2];refine aF (s:=[(false,.int .i64)]) (zH p (pt q 0)) ?_;refine cA (λh=>?_) λh=>jY (by rw[w,aj (show ¬ jH p (pt q 0)<0 from h)];rfl);rw[gH k1];refine aF (s:=[(false,.int .i64)]) (zH q (pt p 0)) ?_;exact jY (by rw[w,ai (show jH p (pt q 0)<0 from h)];rfl)
 ·cases h
def AFO {p q:List Pt} (k1:0<p.length) (k2:0<q.length) (h:p.length<=1000) (h2:lJ p) (h3:q.length<=1000) (h4:lJ q):uZ [T.sl false (List.map aA.enc p),T.sl false (List.map aA.enc q)]=some (Sh.enc [(false,.bool)] (vZ p q)):=by
 refine (AFN ..).trans ?_;unfold rC ANB;cases p with
 | nil=>simp at k1
 | cons a p=>cases q with
  | nil=>simp at k2
  | cons b q=>exact S2 _ h h2 h3 h4
def sS {r:Sy} {l:List r.den} (f:Nat->Int) (hl:l.length<=1000000) {Body:(Int×PUnit->Prop)->Int×PUnit->r.den->Prop} {Exit:Prop}
  (hbody:∀ (X:Int×PUnit->Prop) (k:Nat) (hk:k<l.length),(∀ j,j<k->f j=0)->(f k=0->X (((k+1:Nat):Int),()))->(f k≠0->cJ f (range l.length)=f k)->Body X ((k:Int),()) l[k]) (hexit:cJ f (range l.length)=0->Exit) :
  bB (Int×PUnit) (λ(X:Int×PUnit->Prop) (s:Int×PUnit)=>aC (decide (s.1<((List.map r.enc l).length:Int))) (aR r (List.map r.enc l) s.1 λy=>Body X s y) Exit) (0,()):=by
 refine bM l.length (λk s=>s=((k:Int),())/\cJ f (range l.length)=cJ f (List.range' k (l.length-k))/\∀ j,j<k->f j=0) ⟨rfl,by rw[List.range_eq_range'];rfl,λj h=>by omega⟩ ?_;rintro X k s hk ⟨rfl,he,hp⟩ hX;dsimp only;refine cA (λhlt=>?_) λhge=>?_
 ·rw[ae] at hlt;have hlt:k<l.length:=by omega
  rw[bE hlt];obtain ⟨m,hm⟩:∃ m,l.length-k=m+1:=⟨l.length-k-1,by omega⟩
  rw[hm,List.range'_succ,cJ] at he;refine hbody X k hlt hp (λh0=>?_) λh0=>by rw[he,if_neg h0]
  rw[if_pos h0] at he;exact hX _ hlt ⟨rfl,by rw[he];congr 2;omega,λj hj=>by
   rcases Nat.lt_or_ge j k with h|h
   ·exact hp j h
   ·have:j=k:=by omega
    subst this;exact h0⟩
 ·rw[ae] at hge;have:l.length-k=0:=by omega
  rw[this] at he;exact hexit he
def NF (s:j6) (i:Nat):Int:=if ¬ lO (s.2.getD i [])=0 then lO (s.2.getD i []) else if 0<=sM (s.2.getD i [])\/tN (s.2.getD i []) s.1=false then 17 else if ((range i).all λk=>vZ (s.2.getD i []) (s.2.getD k []))=false then 17 else 0
def AU (s:j6):Int:=if 8<s.2.length then 12 else if ¬ lO s.1=0 then lO s.1 else if sM s.1<=0 then 17 else cJ (NF s) (range s.2.length)
def kK {α:Type} {f:α->Int}:∀ {l:List α},cJ f l=0->∀ a∈l,f a=0
 | a::l,h,b,hb=>by
  unfold cJ at h;by_cases ha:f a=0
  ·rw[if_pos ha] at h;rcases mem_cons.1 hb with rfl|hb
   ·exact ha
   ·exact kK h b hb
  ·rw[if_neg ha] at h;exact absurd h ha
 | [],_,b,hb=>by cases hb
def AW2 (l:List (List aX)):jQ 1 (List.map aA.li.enc l)=true:=by cases l<;>rfl
def AYU:Env:=Env.of [(310,.pure iM),(311,.pure nQ),(312,.pure qZ),(313,.pure uZ)]
def A10:FuncId->Hint:=b8 266 [(9,.inv [.val 26 false (.int .i64)]),(17,.inv [.val 51 false (.int .i64)])] (λ_=>bA)
def AJB:aU Tryz.prog AYU:=.cons E6 (.cons V4 (.cons ALP (.cons AUJ (.nil _))))
def BQ1:T:=pPP 17
def BR2(y0:Int):T:=pPP y0
def BR1(a0:j6):List (List T):=List.map aA.li.enc a0.2
def BSH(a0:j6):List T:=[T.sl false (List.map aA.enc a0.1)]
def PV(a0:j6)(R:T->Prop):Prop:=aC (decide (8<(↑(BR1 a0).length:Int))) (R (pPP 12)) (aJ BQO (iM (BSH a0)) λ(y0:Int)=>aC (!decide (y0=0)) (R (BR2 y0)) (aJ BQO (nQ (BSH a0)) λ(y1:Int)=>aC (decide (y1<=0)) (R BQ1) (bB (Int×PUnit) (λX2 s3=>aC (decide (s3.1<(↑(BR1 a0).length:Int))) (aR aA.li (BR1 a0) s3.1 λ(y4:List aX)=>aJ BQO (iM [T.sl false (BRQ y4)]) λ(y5:Int)=>aC (!decide (y5=0)) (R (BR2 y5)) (aJ BQO (nQ [T.sl false (BRQ y4)]) λ(y6:Int)=>aC (decide (0<=y6)) (R BQ1) (aJ BQP (qZ [T.sl false (BRQ y4), T.sl false (List.map aA.enc a0.1)]) λ(y7:Bool)=>aC (!y7) (R BQ1) (bL (jQ 1 (BR1 a0) && (decide (0<=s3.1) && decide (Int.toNat s3.1<=(BR1 a0).length)) && true) (bB (Int×PUnit) (λX8 s9=>aC (decide (s9.1 < (↑(List.drop 0 (List.take (Int.toNat s3.1) (BR1 a0))).length : Int))) (aR aA.li (List.drop 0 (List.take (Int.toNat s3.1) (BR1 a0))) s9.1 λ(y10:List aX)=>aJ BQP (uZ [T.sl false (BRQ y4), T.sl false (BRQ y10)]) λ(y11:Bool)=>aC (!y11) (R BQ1) (BQ9 X8 s9)) (BQ9 X2 s3)) (0,())))))) (R BQQ)) (0,()))))
abbrev TQ:Sh:=[(true,e8)]
def CL (s:j6):Option T:=some (T.v (Value.int .i64 (AU s)))
def j0:List T->Option T:=gS TQ CL
def AFR {a0}:j0 [aG true e8 a0]=CL (a0):=bH (s:=TQ) rfl (a0) rfl
def AWP:xX Tryz.prog 266 j0 CL (cG TQ) PV:=kC (a1:=(true,e8)) (sp:=CL) (F:=PV) (Hs:=A10) (f:=266) (k:=8) AJB aY a6 (aO rfl) ⟨_,_,Tryz.func266,rfl⟩ rfl λ_ _=>by kernel_rfl
def V6:aP Tryz.prog 266 j0:=AWP λs r h hb=>by
 cases h;have is:∀ {n:Int},AU s=n->pPP n=pPP (AU s):=λh=>by rw[h]
 unfold PV BSH BR1 BRQ BQ9 BR2 BQ1 BQQ BQP BQO;refine cA (λh=>is (by rw[ae] at h;unfold AU;rw[if_pos (by omega)])) λh1=>?_;rw[ae] at h1;refine aF (s:=[(false,.int .i64)]) (qL s.1) ?_;refine lF (λh=>is (by unfold AU;rw[if_neg (by omega),if_pos h])) λh2=>?_;refine aF (s:=[(false,.int .i64)]) (zD s.1) ?_;refine cA (λh=>is (by unfold AU;rw[if_neg (by omega),if_neg (by simpa using h2),if_pos h])) λh3=>?_;have w:AU s=cJ (NF s) (range s.2.length):=by unfold AU;rw[if_neg (by omega),if_neg (by simpa using h2),if_neg h3]
 obtain ⟨ho3,ho32,hoN,_⟩:=vI h2;refine sS (r:=aA.li) (NF s) (by show s.2.length<=1000000;omega) (λX k hk hprev hok hbad=>?_) λh0=>is (w.trans h0);have hk:k<s.2.length:=hk;have hg:s.2.getD k []=s.2[k]:=by rw[List.getD_eq_getElem?_getD,getElem?_eq_getElem hk];rfl
 have bad:∀ {n:Int},n≠0->NF s k=n->pPP n=pPP (AU s):=λhn h=>is (w.trans ((hbad (by rw[h];exact hn)).trans h));have hE:NF s k=if ¬ lO s.2[k]=0 then lO s.2[k] else if 0<=sM s.2[k]\/tN s.2[k] s.1=false then 17 else if ((range k).all λj=>vZ s.2[k] (s.2.getD j []))=false then 17 else 0:=by unfold NF;rw[hg]
 show aJ [(false,Sy.int IntKind.i64)] (iM [T.sl false (List.map aA.enc s.2[k])]) _;refine aF (s:=[(false,.int .i64)]) (qL s.2[k]) ?_;refine lF (λh=>bad h (by rw[hE,if_pos h])) λp1=>?_;refine aF (s:=[(false,.int .i64)]) (zD s.2[k]) ?_;refine cA (λh=>bad (by decide) (by rw[hE,if_neg (by simpa using p1),if_pos (.inl h)])) λp2=>?_;obtain ⟨hp3,hp32,hpN,_⟩:=vI p1;refine aF (s:=[(false,.bool)]) (AAP (by omega) hpN (by omega) hoN) ?_;refine fJ (λh=>bad (by decide) (by rw[hE,if_neg (by simpa using p1),if_pos (.inr h)])) λp3=>?_;have hE2:NF s k=if ((range k).all λj=>vZ s.2[k] (s.2.getD j []))=false then 17 else 0:=by
  rw[hE,if_neg (by simpa using p1),if_neg];rintro (h|h)
  ·exact p2 h
  ·rw[show tN s.2[k] s.1=true from p3] at h;cases h
 refine ⟨by rw[AW2,ae];simp;omega,?_⟩;have htk:List.drop 0 (List.take (Int.toNat (k:Int)) (List.map aA.li.enc s.2))=List.map aA.li.enc (s.2.take k):=by rw[drop_zero,Int.toNat_natCast,List.map_take]
 dsimp only;rw[htk];have ht:(s.2.take k).length=k:=by rw[length_take];omega
 refine bM k (λj s'=>s'=((j:Int),())/\∀ i,i<j->vZ s.2[k] (s.2.getD i [])=true) ⟨rfl,λi h=>by omega⟩ ?_;rintro Y j s' hj ⟨rfl,hJ⟩ hY;dsimp only;refine cA (λhlt=>?_) λhge=>?_
 ·rw[ae,ht] at hlt;have hlt:j<k:=by omega
  rw[bE (r:=aA.li) (show j<(s.2.take k).length by omega)];have hgj:s.2.getD j []=s.2[j]:=by rw[List.getD_eq_getElem?_getD,getElem?_eq_getElem (by omega)];rfl
  have hgt:(s.2.take k)[j]'(by omega)=s.2[j]:=by simp
  rw[hgt];have hj0:lO s.2[j]=0:=by
   have h0:=hprev j hlt;unfold NF at h0;rw[hgj] at h0;refine Classical.byContradiction λhc=>?_;rw[if_pos hc] at h0;exact hc h0
  obtain ⟨hq3,hq32,hqN,_⟩:=vI hj0;refine aF (s:=[(false,.bool)]) (AFO (by omega) (by omega) (by omega) hpN (by omega) hqN) ?_;refine fJ (λh=>bad (by decide) ?_) λh=>hY _ hlt ⟨by rw[show i64.wrap ((j:Int)+1)=((j+1:Nat):Int) from bG _ (by omega) (by omega)],λi hi=>by
   rcases Nat.lt_or_ge i j with h3|h3
   ·exact hJ i h3
   ·have:i=j:=by omega
    subst this;rw[hgj];exact h⟩
  rw[hE2,if_pos (ZR hlt (by rw[hgj];exact h))]
 ·rw[ae,ht] at hge;have:j=k:=by omega
  subst this;rw[show i64.wrap ((j:Int)+1)=((j+1:Nat):Int) from bG _ (by omega) (by omega)];refine hok ?_;rw[hE2,if_neg];rw[qV.2 hJ];simp
def M6 (s:j6):j0 [aG true e8 s]=some (Sh.enc [(false,.int .i64)] (AU s)):=AFR ..
def AYV:Env:=Env.of []
def A11:FuncId->Hint:=λ_=>bA
def AJC:aU Tryz.prog AYV:=.nil _
def PW(a0:j6)(R:T->Prop):Prop:=aC (BR1 a0).isEmpty (R (T.sl false [(BSH a0)])) (bL (eE 1 (BR1 a0) && decide ((1+(BR1 a0).length)*24<=140737488355328) && decide (1+(BR1 a0).length<=140737488355328)) (R (T.sl false ((BSH a0) :: (BR1 a0)))))
abbrev TR:Sh:=[(true,e8)]
abbrev A73:Sh:=[(false,aA.li.li)]
def rD (s:j6):Option T:=match decide (s.2.length<=1000) with
 | true=>some (Sh.enc A73 (s.1::s.2))
 | false=>none
def zI:List T->Option T:=gS TR rD
def AFS {a0}:zI [aG true e8 a0]=rD (a0):=bH (s:=TR) rfl (a0) rfl
def AWQ:xX Tryz.prog 321 zI rD (cG TR) PW:=kC (a1:=(true,e8)) (sp:=rD) (F:=PW) (Hs:=A11) (f:=321) (k:=8) AJC aY a6 (aO rfl) ⟨_,_,Tryz.func321,rfl⟩ rfl λ_ _=>by kernel_rfl
def AUL:aP Tryz.prog 321 zI:=AWQ λs r h hb=>by
 unfold rD at h;split at h
 ·rename_i hc;have hc:s.2.length<=1000:=of_decide_eq_true hc;cases h;obtain ⟨o,hs⟩:=s;unfold PW BSH BR1;cases hs with
  | nil=>exact (rfl:T.sl false [[T.sl false (List.map aA.enc o)]]=_)
  | cons a l =>
   show bL _ _;refine ⟨?_,rfl⟩;simp only[ac,ah,ae];have hc:(a::l).length<=1000:=hc;exact ⟨⟨uH (.li aA) (a::l),by omega⟩,by omega⟩
 ·cases h
def BO6 (l:List (List Pt)):Int:=DU l.length λi=>sM (l.getD i [])
def AHN (s:j6):Int:=if AU s=0 then BO6 (s.1::s.2) else 0
def AD2 (p:List Pt):-68719476736<=sM p/\sM p<=68719476736:=by
 unfold sM;by_cases h:lO p=0
 ·rw[if_pos h];obtain ⟨_,h2,h3,_⟩:=vI h;have:=OA h3 p.length;unfold QK;omega
 ·rw[if_neg h];omega
def AQ6 (l:List (List Pt)):∀ n:Nat,-(68719476736*(n:Int))<=DU n (λi=>sM (l.getD i []))/\DU n (λi=>sM (l.getD i []))<=68719476736*(n:Int)
 | 0=>by simp[DU]
 | n+1=>by
  have ih:=AQ6 l n;have hb:=AD2 (l.getD n []);unfold DU;constructor<;>push_cast<;>omega
def AYT:Env:=Env.of [(266,.pure j0),(321,.pure zI),(311,.pure nQ)]
def A1Z:FuncId->Hint:=b8 271 [(5,.inv [.val 3 false (.int .i64),.val 12 false (.int .i64)])] (λ_=>bA)
def AJA:aU Tryz.prog AYT:=.cons V6 (.cons AUL (.cons V4 (.nil _)))
def PU(a0:j6)(R:T->Prop):Prop:=aJ BQO (j0 [aG true e8 a0]) λ(y0:Int)=>aC (!decide (y0=0)) (R BQQ) (aJ [(false,aA.li.li)] (zI [aG true e8 a0]) λ(y1:List (List aX))=>bB (Int×Int×PUnit) (λX2 s3=>aC (decide (s3.2.1<(↑(List.map aA.li.enc y1).length:Int))) (aR aA.li (List.map aA.li.enc y1) s3.2.1 λ(y4:List aX)=>aJ BQO (nQ [T.sl false (BRQ y4)]) λ(y5:Int)=>X2 (i64.wrap (s3.1+y5),i64.wrap (s3.2.1+1),())) (R (pPP s3.1))) (0,0,()))
abbrev TP:Sh:=[(true,e8)]
def CK (s:j6):Option T:=some (T.v (Value.int .i64 (AHN s)))
def u5:List T->Option T:=gS TP CK
def AFP {a0}:u5 [aG true e8 a0]=CK (a0):=bH (s:=TP) rfl (a0) rfl
def AWO:xX Tryz.prog 271 u5 CK (cG TP) PU:=kC (a1:=(true,e8)) (sp:=CK) (F:=PU) (Hs:=A1Z) (f:=271) (k:=8) AJA aY a6 (aO rfl) ⟨_,_,Tryz.func271,rfl⟩ rfl λ_ _=>by kernel_rfl
def AUK:aP Tryz.prog 271 u5:=AWO λs r h hb=>by
 cases h;have is:∀ {n:Int},AHN s=n->pPP n=pPP (AHN s):=λh=>by rw[h]
 unfold PU BRQ BQQ BQO;refine aF (s:=[(false,.int .i64)]) (M6 s) ?_;refine lF (λh=>is (by unfold AHN;rw[if_neg h])) λh=>?_;have h8:s.2.length<=8:=by
  refine Classical.byContradiction λhc=>?_;unfold AU at h;rw[if_pos (by omega)] at h;cases h
 refine aF (s:=[(false,.li (.li aA))]) (y:=(s.1::s.2:List (List aX))) ((AFS ..).trans (by unfold rD;rw[ai (by omega)])) ?_;have w:AHN s=BO6 (s.1::s.2):=by unfold AHN;rw[if_pos h]
 have hlen:(s.1::s.2).length<=9:=by simp;omega
 generalize s.1::s.2=l at w hlen;refine bM l.length (λk t=>t=(DU k (λi=>sM (l.getD i [])),(k:Int),())) rfl ?_;rintro X k t hk rfl hX;dsimp only;refine cA (λhlt=>?_) λhge=>is (by rw[ae] at hge;rw[w,show k=l.length by omega];rfl);rw[ae] at hlt;have hlt:k<l.length:=by omega
 rw[bE (r:=aA.li) hlt];have hg:l.getD k []=l[k]:=by rw[List.getD_eq_getElem?_getD,getElem?_eq_getElem hlt];rfl
 refine aF (s:=[(false,.int .i64)]) (zD l[k]) ?_;refine hX _ hlt ?_;have b1:=AQ6 l k;have b2:=AD2 l[k];rw[show i64.wrap ((k:Int)+1)=((k+1:Nat):Int) from bG _ (by omega) (by omega),bG _ (by omega) (by omega),DU,hg]
def AFQ (s:j6):u5 [aG true e8 s]=some (Sh.enc [(false,.int .i64)] (AHN s)):=AFP ..
def AR7:Env:=Env.of []
def AS6:FuncId->Hint:=b8 314 [(2,.UI 4)] (λ_=>bA)
def ADB:aU Tryz.prog AR7:=.nil _
def JV(a0:AS7)(a1:Int)(R:T->Prop):Prop:=aC (decide (a0.1<i64.wrap (0-a1))) (R BQM) (aC (decide (a1<a0.1)) (R BQM) (aC (decide (a0.2.1<i64.wrap (0-a1))) (R BQM) (aC (decide (a1<a0.2.1)) (R BQM) (aC (decide (a0.2.2<i64.wrap (0-a1))) (R BQM) (aC (decide (a1<a0.2.2)) (R BQM) (R BQR))))))
abbrev L5:Sh:=[(true,AXW),(false,(Sy.int IntKind.i64))]
def ED (v:AS7):Bool:=decide (-524288<=v.1)&&decide (v.1<=524288)&&(decide (-524288<=v.2.1)&&decide (v.2.1<=524288))&&(decide (-524288<=v.2.2)&&decide (v.2.2<=524288))
def r5 (x:AS7×Int):Option T:=match decide (x.2=524288) with
 | true=>some (pPR (ED x.1))
 | false=>none
def u9:List T->Option T:=gS L5 r5
def AAS {a0 a1}:u9 [aG true AXW a0,pPP a1]=r5 (a0,a1):=bH (s:=L5) rfl (a0,a1) rfl
def AM9:qU Tryz.prog 314 u9 r5 (cG L5) JV:=gV (a1:=(true,AXW)) (a2:=(false,(Sy.int IntKind.i64))) (sp:=r5) (F:=JV) (Hs:=AS6) (f:=314) (k:=8) ADB aY a6 (aO rfl) ⟨_,_,Tryz.func314,rfl⟩ rfl λ_ _ _=>by kernel_rfl
def ALR:aP Tryz.prog 314 u9:=AM9 λv n r h hb=>by
 unfold r5 at h;split at h
 ·rename_i hn;have hn:n=524288:=of_decide_eq_true hn;subst hn;cases h;unfold JV BQR BQM;rw[show i64.wrap (0-524288) = -524288 from rfl];have no:∀ {P:Prop},(¬ (-524288<=v.1/\v.1<=524288∧-524288<=v.2.1/\v.2.1<=524288∧-524288<=v.2.2/\v.2.2<=524288))->pPR false=pPR (ED v):=λh=>jY (Eq.symm (by
   rw[Bool.eq_false_iff];intro h2;simp only[ED,ac,ah] at h2;omega))
  refine cA (λh=>no (P:=True) (by omega)) λh1=>cA (λh=>no (P:=True) (by omega)) λh2=>cA (λh=>no (P:=True) (by omega)) λh3=>cA (λh=>no (P:=True) (by omega)) λh4=>cA (λh=>no (P:=True) (by omega)) λh5=>cA (λh=>no (P:=True) (by omega)) λh6=>jY ?_;simp only[ED];rw[ai (by omega),ai (by omega),ai (by omega),ai (by omega),ai (by omega),ai (by omega)];rfl
 ·cases h
def AMY (t:Int):Int:=if t<0\/24<=t then 0 else t
def AR6:Env:=Env.of []
def AS5:FuncId->Hint:=λ_=>bA
def ADA:aU Tryz.prog AR6:=.nil _
def JU(a0:Int)(R:T->Prop):Prop:=aC (decide (a0<0)) (R BQQ) (aC (decide (24<=a0)) (R BQQ) (R (BR2 a0)))
abbrev L4:Sh:=[(false,(Sy.int IntKind.i64))]
def xI (t:Int):Option T:=some (T.v (Value.int .i64 (AMY t)))
def u7:List T->Option T:=gS L4 xI
def AAR {a0}:u7 [pPP a0]=xI (a0):=bH (s:=L4) rfl (a0) rfl
def AM8:xX Tryz.prog 315 u7 xI (cG L4) JU:=kC (a1:=(false,(Sy.int IntKind.i64))) (sp:=xI) (F:=JU) (Hs:=AS5) (f:=315) (k:=8) ADA aY a6 (aO rfl) ⟨_,_,Tryz.func315,rfl⟩ rfl λ_ _=>by kernel_rfl
def ALQ:aP Tryz.prog 315 u7:=AM8 λt r h hb=>by
 cases h;unfold JU BR2 BQQ;exact cA (λh=>N1 (by unfold AMY;rw[if_pos (.inl h)])) λh1=>cA (λh=>N1 (by unfold AMY;rw[if_pos (.inr h)])) λh2=>N1 (by unfold AMY;rw[if_neg (by omega)])
def uA (p:EP):Bool:=ED p.1&&decide (p.2=AMY p.2)
def AY7:Env:=Env.of [(314,.pure u9),(315,.pure u7)]
def A19:FuncId->Hint:=λ_=>bA
def AJL:aU Tryz.prog AY7:=.cons ALR (.cons ALQ (.nil _))
def P5(a0:EP)(R:T->Prop):Prop:=aJ BQP (u9 [aG true AXW a0.1,pPP 524288]) λ(y0:Bool)=>aC y0 (aJ BQO (u7 [pPP a0.2]) λ(y1:Int)=>R (pPR (decide (a0.2=y1)))) (R BQM)
abbrev TY:Sh:=[(true,fR)]
def CP (p:EP):Option T:=some (pPR (uA p))
def cR:List T->Option T:=gS TY CP
def NA {a0}:cR [aG true fR a0]=CP (a0):=bH (s:=TY) rfl (a0) rfl
def AWZ:xX Tryz.prog 268 cR CP (cG TY) P5:=kC (a1:=(true,fR)) (sp:=CP) (F:=P5) (Hs:=A19) (f:=268) (k:=8) AJL aY a6 (aO rfl) ⟨_,_,Tryz.func268,rfl⟩ rfl λ_ _=>by kernel_rfl
def AUS:aP Tryz.prog 268 cR:=AWZ λp r h hb=>by
 cases h;unfold P5 BQP BQO BQM;refine aF (s:=[(false,.bool)]) (y:=ED p.1) (AAS ..) ?_;refine sX (λh=>?_) λh=>jY (by unfold uA;rw[h];rfl);refine aF (s:=[(false,.int .i64)]) (y:=AMY p.2) (AAR ..) ?_;exact jY (by unfold uA;rw[h];rfl)
def KS (l:List Int) (i:Nat):Int:=if ¬ (1<=l.getD i 0/\l.getD i 0<=120) then 9 else if 0<i/\l.getD i 0<=l.getD (i-1) 0 then 11 else 0
def j7 (g:gW):Int:=if isName g.1=false then 6 else if ¬ (1000<=g.2.1/\g.2.1<=20000/\100<=g.2.2.1/\g.2.2.1<=1500) then 9 else if g.2.2.2.length=0 then 3 else if 16<g.2.2.2.length then 4 else cJ (KS g.2.2.2) (range g.2.2.2.length)
def N4 (s:cU):Int:=if isName s.1=false then 6 else if ¬ (1<=s.2.1/\s.2.1<=1000000/\1<=s.2.2.1/\s.2.2.1<=2000/\100<=s.2.2.2/\s.2.2.2<=32768) then 9 else 0
def NG (s:iII) (K:Bool->Prop):aJ [(false,Sy.bool)] (iZ [pPQ s]) K=K (isName s):=by
 rw[show iZ [pPQ s]=vN s from yZ];exact VE _ K
def AYJ:Env:=Env.of [(85,.pure iZ)]
def A1Q:FuncId->Hint:=b8 116 [(10,.inv [.val 34 false (.int .i64)])] (λ_=>bA)
def AI1:aU Tryz.prog AYJ:=.cons BO (.nil _)
def BQN:T:=pPP 9
def BQT:Sy:=Sy.int IntKind.i64
def BQY:T:=pPP 6
def BQZ:T:=pPP 11
def BSD(a0:gW):List (List T):=List.map BQT.enc a0.2.2.2
def PK(a0:gW)(R:T->Prop):Prop:=aJ BQP (iZ [pPQ a0.1]) λ(y0:Bool)=>aC (!y0) (R BQY) (aC (decide (1000<=a0.2.1)) (aC (!decide (a0.2.1<=20000)) (R BQN) (aC (decide (100<=a0.2.2.1)) (aC (!decide (a0.2.2.1<=1500)) (R BQN) (aC (decide ((↑(BSD a0).length:Int)=0)) (R (pPP 3)) (aC (decide (16<(↑(BSD a0).length:Int))) (R (pPP 4)) (bB (Int×PUnit) (λX1 s2=>aC (decide (s2.1<(↑(BSD a0).length:Int))) (aR BQT (BSD a0) s2.1 λ(y3:Int)=>aC (decide (1<=y3)) (aC (!decide (y3<=120)) (R BQN) (aC (decide (0<s2.1)) (aR BQT (BSD a0) (i64.wrap (s2.1-1)) λ(y4:Int)=>aC (decide (y3<=y4)) (R BQZ) (BQ9 X1 s2)) (BQ9 X1 s2))) (R BQN)) (R BQQ)) (0,()))))) (R BQN))) (R BQN))
abbrev TG:Sh:=[(true,dO)]
def CC (g:gW):Option T:=some (T.v (Value.int .i64 (j7 g)))
def zC:List T->Option T:=gS TG CC
def AFE {a0}:zC [aG true dO a0]=CC (a0):=bH (s:=TG) rfl (a0) rfl
def AWF:xX Tryz.prog 116 zC CC (cG TG) PK:=kC (a1:=(true,dO)) (sp:=CC) (F:=PK) (Hs:=A1Q) (f:=116) (k:=8) AI1 aY a6 (aO rfl) ⟨_,_,Tryz.func116,rfl⟩ rfl λ_ _=>by kernel_rfl
def wP {l:List α} {i:Nat} {d:α} (h:i<l.length):l.getD i d=l[i]:=by rw[List.getD_eq_getElem?_getD,getElem?_eq_getElem h];rfl
def ABD {r:Sy} {l:List r.den} {k:Nat} (hk:k<l.length) (h0:0<k) (hl:l.length<=1000000) (K:r.den->Prop):aR r (List.map r.enc l) (i64.wrap ((k:Int)-1)) K=K (l[k-1]'(by omega)):=by
 rw[show i64.wrap ((k:Int)-1)=((k-1:Nat):Int) by rw[bG _ (by omega) (by omega)];omega];exact bE (by omega) K
def SS {k:Nat} (h:k<1000000):i64.wrap ((k:Int)+1)=((k+1:Nat):Int):=bG _ (by omega) (by omega)
def AUE:aP Tryz.prog 116 zC:=AWF λg r h hb=>by
 cases h;have is:∀ {n:Int},j7 g=n->pPP n=pPP (j7 g):=λh=>by rw[h]
 unfold PK BSD BQ9 BQZ BQY BQT BQQ BQP BQN;rw[NG];refine fJ (λh=>is (by unfold j7;rw[if_pos h])) λhn=>?_;have hn':¬ isName g.1=false:=by rw[hn];simp
 have r9:¬ (1000<=g.2.1/\g.2.1<=20000/\100<=g.2.2.1/\g.2.2.1<=1500)->pPP 9=pPP (j7 g):=λh=>is (by unfold j7;rw[if_neg hn',if_pos h]);refine cA (λh1=>lF (λh=>r9 (by omega)) λh2=>cA (λh3=>lF (λh=>r9 (by omega)) λh4=>?_) λh=>r9 (by omega)) λh=>r9 (by omega);have hr:¬ ¬ (1000<=g.2.1/\g.2.1<=20000/\100<=g.2.2.1/\g.2.2.1<=1500):=by omega
 refine cA (λh=>is (by rw[ae] at h;unfold j7;rw[if_neg hn',if_neg hr,if_pos (by omega)])) λh5=>?_;refine cA (λh=>is (by rw[ae] at h h5;unfold j7;rw[if_neg hn',if_neg hr,if_neg (by omega),if_pos (by omega)])) λh6=>?_;rw[ae] at h5 h6;have w:j7 g=cJ (KS g.2.2.2) (range g.2.2.2.length):=by unfold j7;rw[if_neg hn',if_neg hr,if_neg (by omega),if_neg (by omega)]
 refine sS (r:=.int .i64) (KS g.2.2.2) (by omega) (λX k hk hprev hok hbad=>?_) λh0=>is (w.trans h0);have hk:k<g.2.2.2.length:=hk;have bad:∀ {n:Int},n≠0->KS g.2.2.2 k=n->pPP n=pPP (j7 g):=λhn h=>is (w.trans ((hbad (by rw[h];exact hn)).trans h));have hE:KS g.2.2.2 k=if ¬ (1<=g.2.2.2[k]/\g.2.2.2[k]<=120) then 9 else if 0<k/\g.2.2.2[k]<=g.2.2.2.getD (k-1) 0 then 11 else 0:=by unfold KS;rw[wP hk]
 dsimp only;rw[SS (by omega)];refine cA (λp1=>lF (λh=>bad (by decide) (by rw[hE,if_pos (by omega)])) λp2=>?_) λh=>bad (by decide) (by rw[hE,if_pos (by omega)]);refine cA (λp3=>?_) λp3=>hok (by rw[hE,if_neg (by omega),if_neg (by omega)]);have k0:0<k:=by omega
 rw[ABD (r:=.int .i64) hk k0 (by omega)];have hg1:g.2.2.2.getD (k-1) 0=g.2.2.2[k-1]'(by omega):=wP (by omega);exact cA (λh=>bad (by decide) (by rw[hE,if_neg (by omega),hg1,if_pos ⟨k0,h⟩])) λh=>hok (by rw[hE,if_neg (by omega),hg1,if_neg (λhc=>h hc.2)])
def AIM:Env:=Env.of [(85,.pure iZ)]
def AKD:FuncId->Hint:=λ_=>bA
def YZ:aU Tryz.prog AIM:=.cons BO (.nil _)
def EL(a0:cU)(R:T->Prop):Prop:=aJ BQP (iZ [pPQ a0.1]) λ(y0:Bool)=>aC (!y0) (R BQY) (aC (decide (1<=a0.2.1)) (aC (!decide (a0.2.1<=1000000)) (R BQN) (aC (decide (1<=a0.2.2.1)) (aC (!decide (a0.2.2.1<=2000)) (R BQN) (aC (decide (100<=a0.2.2.2)) (aC (!decide (a0.2.2.2<=32768)) (R BQN) (R BQQ)) (R BQN))) (R BQN))) (R BQN))
abbrev F1:Sh:=[(true,b7)]
def tI (s:cU):Option T:=some (T.v (Value.int .i64 (N4 s)))
def rN:List T->Option T:=gS F1 tI
def U3 {a0}:rN [aG true b7 a0]=tI (a0):=bH (s:=F1) rfl (a0) rfl
def AG6:xX Tryz.prog 117 rN tI (cG F1) EL:=kC (a1:=(true,b7)) (sp:=tI) (F:=EL) (Hs:=AKD) (f:=117) (k:=8) YZ aY a6 (aO rfl) ⟨_,_,Tryz.func117,rfl⟩ rfl λ_ _=>by kernel_rfl
def AEU:aP Tryz.prog 117 rN:=AG6 λs r h hb=>by
 cases h;have is:∀ {n:Int},N4 s=n->pPP n=pPP (N4 s):=λh=>by rw[h]
 unfold EL BQY BQQ BQP BQN;rw[NG];refine fJ (λh=>is (by unfold N4;rw[if_pos h])) λhn=>?_;have hn':¬ isName s.1=false:=by rw[hn];simp
 have r9:¬ (1<=s.2.1/\s.2.1<=1000000/\1<=s.2.2.1/\s.2.2.1<=2000/\100<=s.2.2.2/\s.2.2.2<=32768)->pPP 9=pPP (N4 s):=λh=>is (by unfold N4;rw[if_neg hn',if_pos h]);refine cA (λh1=>lF (λh=>r9 (by omega)) λh2=>cA (λh3=>lF (λh=>r9 (by omega)) λh4=>cA (λh5=>lF (λh=>r9 (by omega)) λh6=>is ?_) λh=>r9 (by omega)) λh=>r9 (by omega)) λh=>r9 (by omega);unfold N4;rw[if_neg hn',if_neg (by omega)]
def lG:gW:=(⟨#[]⟩,0,0,[])
def XR (a b:iII):Bool:=cK a b||decide (a=b)
def zO (m:aI) (i:Nat):Int:=if ¬ j7 (m.1.getD i lG)=0 then j7 (m.1.getD i lG) else if 0<i/\XR (m.1.getD i lG).1 (m.1.getD (i-1) lG).1=true then 11 else 0
def AXL (m:aI) (i:Nat):Int:=if ¬ N4 (m.2.getD i EA)=0 then N4 (m.2.getD i EA) else if 0<i/\XR (m.2.getD i EA).1 (m.2.getD (i-1) EA).1=true then 11 else 0
def DT (m:aI):Int:=if 16<m.1.length\/32<m.2.length then 4 else if ¬ cJ (zO m) (range m.1.length)=0 then cJ (zO m) (range m.1.length) else cJ (AXL m) (range m.2.length)
def AYI:Env:=Env.of [(116,.pure zC),(117,.pure rN)]
def A1P:FuncId->Hint:=b8 84 [(4,.inv [.val 22 false (.int .i64)]),(13,.inv [.val 50 false (.int .i64)])] (λ_=>bA)
def AI0:aU Tryz.prog AYI:=.cons AUE (.cons AEU (.nil _))
def BSI(a0:aI):List (List T):=List.map dO.enc a0.1
def PJ(a0:aI)(R:T->Prop):Prop:=aC (decide (16<(↑(BSI a0).length:Int))) (R (pPP 4)) (aC (decide (32<(↑(List.map b7.enc a0.2).length:Int))) (R (pPP 4)) (bB (Int×PUnit) (λX0 s1=>aC (decide (s1.1<(↑(BSI a0).length:Int))) (aR dO (BSI a0) s1.1 λ(y2:gW)=>aJ BQO (zC [aG true dO y2]) λ(y3:Int)=>aC (!decide (y3=0)) (R (BR2 y3)) (aC (decide (0<s1.1)) (aR dO (BSI a0) (i64.wrap (s1.1-1)) λ(y4:gW)=>aC (cK y2.1 y4.1||decide (y2.1=y4.1)) (R BQZ) (BQ9 X0 s1)) (BQ9 X0 s1))) (bB (Int×PUnit) (λX5 s6=>aC (decide (s6.1<(↑(List.map b7.enc a0.2).length:Int))) (aR b7 (List.map b7.enc a0.2) s6.1 λ(y7:cU)=>aJ BQO (rN [aG true b7 y7]) λ(y8:Int)=>aC (!decide (y8=0)) (R (BR2 y8)) (aC (decide (0<s6.1)) (aR b7 (List.map b7.enc a0.2) (i64.wrap (s6.1-1)) λ(y9:cU)=>aC (cK y7.1 y9.1||decide (y7.1=y9.1)) (R BQZ) (BQ9 X5 s6)) (BQ9 X5 s6))) (R BQQ)) (0,()))) (0,())))
abbrev TF:Sh:=[(true,aK)]
def CB (m:aI):Option T:=some (T.v (Value.int .i64 (DT m)))
def zB:List T->Option T:=gS TF CB
def AFD {a0}:zB [aG true aK a0]=CB (a0):=bH (s:=TF) rfl (a0) rfl
def AWE:xX Tryz.prog 84 zB CB (cG TF) PJ:=kC (a1:=(true,aK)) (sp:=CB) (F:=PJ) (Hs:=A1P) (f:=84) (k:=8) AI0 aY a6 (aO rfl) ⟨_,_,Tryz.func84,rfl⟩ rfl λ_ _=>by kernel_rfl
def AUD:aP Tryz.prog 84 zB:=AWE λm r h hb=>by
 cases h;have is:∀ {n:Int},DT m=n->pPP n=pPP (DT m):=λh=>by rw[h]
 unfold PJ BSI BQ9 BR2 BQZ BQQ BQO;refine cA (λh=>is (by rw[ae] at h;unfold DT;rw[if_pos (by omega)])) λh1=>?_;refine cA (λh=>is (by rw[ae] at h;unfold DT;rw[if_pos (by omega)])) λh2=>?_;rw[ae] at h1 h2;refine sS (r:=dO) (zO m) (by show m.1.length<=1000000;omega) (λX k hk hprev hok hbad=>?_) λh0=>?_
 ·have hk:k<m.1.length:=hk;have bad:∀ {n:Int},n≠0->zO m k=n->pPP n=pPP (DT m):=λhn h=>is (by
   have hb:=(hbad (by rw[h];exact hn)).trans h;unfold DT;rw[if_neg (by omega),if_pos (by rw[hb];exact hn),hb])
  have hE:zO m k=if ¬ j7 m.1[k]=0 then j7 m.1[k] else if 0<k/\XR m.1[k].1 (m.1.getD (k-1) lG).1=true then 11 else 0:=by unfold zO;rw[wP hk]
  dsimp only;rw[SS (by omega)];refine aF (s:=[(false,.int .i64)]) (y:=j7 m.1[k]) (AFE ..) ?_;refine lF (λh=>bad h (by rw[hE,if_pos h])) λp1=>?_;refine cA (λp3=>?_) λp3=>hok (by rw[hE,if_neg (λh=>h p1),if_neg (by omega)]);have k0:0<k:=by omega
  rw[ABD (r:=dO) hk k0 (by show m.1.length<=1000000;omega)];have hg1:m.1.getD (k-1) lG=m.1[k-1]'(by omega):=wP (by omega);exact sX (λh=>bad (by decide) (by rw[hE,if_neg (λh=>h p1),hg1,if_pos ⟨k0,h⟩])) λh=>hok (by rw[hE,if_neg (λh=>h p1),hg1,if_neg (λhc=>by rw[show XR m.1[k].1 (m.1[k-1]'(by omega)).1=false from h] at hc;cases hc.2)])
 ·have w:DT m=cJ (AXL m) (range m.2.length):=by unfold DT;rw[if_neg (by omega),if_neg (λh=>h h0)]
  refine sS (r:=b7) (AXL m) (by show m.2.length<=1000000;omega) (λX k hk hprev hok hbad=>?_) λh0=>is (w.trans h0);have hk:k<m.2.length:=hk;have bad:∀ {n:Int},n≠0->AXL m k=n->pPP n=pPP (DT m):=λhn h=>is (w.trans ((hbad (by rw[h];exact hn)).trans h));have hE:AXL m k=if ¬ N4 m.2[k]=0 then N4 m.2[k] else if 0<k/\XR m.2[k].1 (m.2.getD (k-1) EA).1=true then 11 else 0:=by unfold AXL;rw[wP hk]
  dsimp only;rw[SS (by omega)];refine aF (s:=[(false,.int .i64)]) (y:=N4 m.2[k]) (U3 ..) ?_;refine lF (λh=>bad h (by rw[hE,if_pos h])) λp1=>?_;refine cA (λp3=>?_) λp3=>hok (by rw[hE,if_neg (λh=>h p1),if_neg (by omega)]);have k0:0<k:=by omega
  rw[ABD (r:=b7) hk k0 (by show m.2.length<=1000000;omega)];have hg1:m.2.getD (k-1) EA=m.2[k-1]'(by omega):=wP (by omega);exact sX (λh=>bad (by decide) (by rw[hE,if_neg (λh=>h p1),hg1,if_pos ⟨k0,h⟩])) λh=>hok (by rw[hE,if_neg (λh=>h p1),hg1,if_neg (λhc=>by rw[show XR m.2[k].1 (m.2[k-1]'(by omega)).1=false from h] at hc;cases hc.2)])
def iD (m:aI) (n:iII):Option gW:=m.1.find? λg=>decide (g.1=n)
def okM (m:aI):Bool:=decide (m.1.length<=1000)&&decide (m.2.length<=1000)&&m.1.all λg=>decide (g.2.2.2.length<=1000)
def II (m:aI) (r:α):Option α:=match okM m with
 | true=>some r
 | false=>none
variable {m:aI}
def AP {t r:α} (h:II m t=some r):okM m=true/\r=t:=by
 unfold II at h;split at h
 ·rename_i hc;cases h;exact ⟨hc,rfl⟩
 ·cases h
def AQ (t:α) (h:okM m=true):II m t=some t:=by unfold II;rw[h]
def ATJ:YU Tryz.prog 318 1 8:=⟨λR=>by kernel_rfl,λfl R=>by kernel_rfl,λfl a rows R=>by kernel_rfl⟩
def G4:List T->Option T:=gS [(false,.li (.int .i64))] (fQ (.int .i64) 8)
def AE3 {u0}:G4 [T.sl false (List.map (Sy.enc (.int .i64)) u0)]=fQ (.int .i64) 8 u0:=bH (s:=[(false,.li (.int .i64))]) rfl u0 rfl
def AT7:aP Tryz.prog 318 G4:=J3 aY a6 ⟨_,_,Tryz.func318,rfl⟩ ATJ
def AYH:Env:=Env.of [(318,.pure G4)]
def A1O:FuncId->Hint:=b8 316 [(2,.inv [.val 8 false (.int .i64)])] (λ_=>bA)
def AIZ:aU Tryz.prog AYH:=.cons AT7 (.nil _)
def BQX:List T:=[T.agg [pPQ ({data:=#[]}),pPP 0, pPP 0,T.sl false []], pPR false]
def PI(a0:aI)(a1:iII)(R:T->Prop):Prop:=bB (Int×PUnit) (λX0 s1=>aC (decide (s1.1<(↑(BSI a0).length:Int))) (aR dO (BSI a0) s1.1 λ(y2:gW)=>aC (decide (y2.1=a1)) (aC (decide (s1.1<0)) (R (T.cE BQX)) (aR dO (BSI a0) s1.1 λ(y3:gW)=>aJ [(false,BQT.li)] (G4 [T.sl false (BSD y3)]) λ(y4:List Int)=>R (T.cE [T.agg [pPQ y3.1,pPP y3.2.1, pPP y3.2.2.1, T.sl false (List.map BQT.enc y4)], pPR true]))) (BQ9 X0 s1)) (R (T.cE BQX))) (0,())
abbrev TE:Sh:=[(true,aK),(false,Sy.str)]
def CA (x:aI×iII):Option T:=II x.1 (Sh.enc [(true,dO),(false,.bool)] (found lG (iD x.1 x.2)))
def gZ:List T->Option T:=gS TE CA
def AFC {a0 a1}:gZ [aG true aK a0,pPQ a1]=CA (a0,a1):=bH (s:=TE) rfl (a0,a1) rfl
def AWD:qU Tryz.prog 269 gZ CA (cG TE) PI:=gV (a1:=(true,aK)) (a2:=(false,Sy.str)) (sp:=CA) (F:=PI) (Hs:=A1O) (f:=269) (k:=8) AIZ aY a6 (aO rfl) ⟨_,_,Tryz.func269,rfl⟩ rfl λ_ _ _=>by kernel_rfl
def KC:aP Tryz.prog 269 gZ:=AWD λm n r h hb=>by
 obtain ⟨hok,rfl⟩:=AP h;clear h;simp only[okM,ac,ah] at hok;unfold PI BSI BSD BQ9 BQX BQT;refine bM m.1.length (λk s=>s=((k:Int),())/\(m.1.drop k).find? (λs=>decide (s.1=n))=iD m n) ⟨rfl,rfl⟩ ?_;rintro X k s hk ⟨rfl,hf⟩ hX;dsimp only;refine cA (λhlt=>?_) λhge=>?_
 ·rw[ae] at hlt;have hlt:k<m.1.length:=by omega
  rw[oK hlt] at hf;rw[bE (r:=dO) hlt];refine cA (λhc=>?_) λhc=>?_
  ·rw[if_pos (ai hc)] at hf;refine cA (λh=>by omega) λ_=>?_;rw[bE (r:=dO) hlt];have hg:m.1[k].2.2.2.length<=1000:=by
    have:=all_eq_true.1 hok.2 _ (ak hlt);exact of_decide_eq_true this
   refine aF (s:=[(false,.li (.int .i64))]) (y:=m.1[k].2.2.2) ?_ ?_
   ·rw[AE3];unfold fQ qR;rw[show (decide (m.1[k].2.2.2.length*8<=140737488355328)&&decide (m.1[k].2.2.2.length<=140737488355328))=true by simp only[ac,ah];omega];rfl
   ·show _=Sh.enc [(true,dO),(false,.bool)] (found lG (iD m n));rw[<-hf];rfl
  ·rw[if_neg (by simpa using hc)] at hf;exact hX _ hlt ⟨by rw[SS (by omega)],hf⟩
 ·rw[ae] at hge;have:k=m.1.length:=by omega
  subst this;rw[drop_length] at hf;show _=Sh.enc [(true,dO),(false,.bool)] (found lG (iD m n));rw[<-hf];rfl
def w9 (m:aI) (n:iII) (t:Int):Bool:=match iD m n with
 | some g=>g.2.2.2.any λx=>decide (t=x)
 | none=>false
def ARZ:Env:=Env.of [(269,.pure gZ)]
def ASY:FuncId->Hint:=b8 354 [(2,.inv [.val 8 false (.int .i64)])] (λ_=>bA)
def AC3:aU Tryz.prog ARZ:=.cons KC (.nil _)
def BQV:Sh:=[(true,dO),(false,Sy.bool)]
def BR3(s2:Int×PUnit):T:=pPR (decide (0<=s2.1))
def JN(a0:aI)(a1:iII)(a2:Int)(R:T->Prop):Prop:=aJ BQV (gZ [aG true aK a0,pPQ a1]) λ(y0:gW×Bool)=>aC y0.2 (bB (Int×PUnit) (λX1 s2=>aC (decide (s2.1<(↑(List.map BQT.enc y0.1.2.2.2).length:Int))) (aR BQT (List.map BQT.enc y0.1.2.2.2) s2.1 λ(y3:Int)=>aC (decide (a2=y3)) (R (BR3 s2)) (BQ9 X1 s2)) (R BQM)) (0,())) (R BQM)
abbrev LX:Sh:=[(true,aK),(false,Sy.str),(false,(Sy.int IntKind.i64))]
def xC (x:aI×iII×Int):Option T:=II x.1 (pPR (w9 x.1 x.2.1 x.2.2))
def lE:List T->Option T:=gS LX xC
def AAI {a0 a1 a2}:lE [aG true aK a0,pPQ a1,pPP a2]=xC (a0,a1,a2):=bH (s:=LX) rfl (a0,a1,a2) rfl
def AM1:Of3 Tryz.prog 309 lE xC (cG LX) JN:=SW (a1:=(true,aK)) (a2:=(false,Sy.str)) (a3:=(false,(Sy.int IntKind.i64))) (sp:=xC) (F:=JN) (Hs:=ASY) (f:=309) (k:=8) AC3 aY a6 (aO rfl) ⟨_,_,Tryz.func309,rfl⟩ rfl λ_ _ _ _=>by kernel_rfl
def zA (h:okM m=true) (n:iII):gZ [aG true aK m,pPQ n]=some (Sh.enc [(true,dO),(false,.bool)] (found lG (iD m n))):=(AFC ..).trans (AQ _ h)
def ALM:aP Tryz.prog 309 lE:=AM1 λm n t r h hb=>by
 obtain ⟨hok,rfl⟩:=AP h;clear h;unfold JN BR3 BQ9 BQV BQT BQM;refine aF (s:=[(true,dO),(false,.bool)]) (zA hok n) ?_;cases hg:iD m n with
 | none =>
  show aC false _ _;rw[pT];exact jY (by unfold w9;rw[hg])
 | some g =>
  show aC true _ _;rw[j8];dsimp only[found];have hlen:g.2.2.2.length<=1000:=by
   simp only[okM,ac,ah] at hok;exact of_decide_eq_true (all_eq_true.1 hok.2 _ (List.mem_of_find?_eq_some hg))
  have w:w9 m n t=g.2.2.2.any λx=>decide (t=x):=by unfold w9;rw[hg]
  refine bM g.2.2.2.length (λk s=>s=((k:Int),())/\g.2.2.2.any (λx=>decide (t=x))=(g.2.2.2.drop k).any λx=>decide (t=x)) ⟨rfl,by rw[drop_zero]⟩ ?_;rintro X k s hk ⟨rfl,hf⟩ hX;dsimp only;refine cA (λhlt=>?_) λhge=>jY ?_
  ·rw[ae] at hlt;have hlt:k<g.2.2.2.length:=by omega
   rw[drop_eq_getElem_cons hlt,List.any_cons] at hf;rw[bE (r:=.int .i64) hlt];refine cA (λhc=>jY ?_) λhc=>hX _ hlt ⟨by rw[SS (by omega)],by rw[hf,aj hc,Bool.false_or]⟩;rw[w,hf,ai hc,ai (show 0<=(k:Int) by omega)];rfl
  ·rw[ae] at hge;have:k=g.2.2.2.length:=by omega
   subst this;rw[w,hf,drop_length];rfl
abbrev gX (p:a8):Int:=p.2.2.1
abbrev oG (p:a8):iII:=p.2.2.2.1
abbrev iQ (p:a8):iII:=p.2.2.2.2.1
abbrev pQ (p:a8):Int:=p.2.2.2.2.2.1
abbrev mL (p:a8):j6:=p.2.2.2.2.2.2.1
abbrev ADT (p:a8):iII:=p.2.2.2.2.2.2.2.1
abbrev AKJ (p:a8):Int:=p.2.2.2.2.2.2.2.2.1
abbrev MR (p:a8):Int:=p.2.2.2.2.2.2.2.2.2.1
abbrev NV (p:a8):AS7:=p.2.2.2.2.2.2.2.2.2.2.1
abbrev aAt (p:a8):EP:=p.2.2.2.2.2.2.2.2.2.2.2
def AB3 (p:a8):Bool:=!decide (pQ p=0)||decide (0<(mL p).1.length+(mL p).2.length)
def BDV (p:a8):Bool:=!decide (ADT p = { data:=#[] }) || !decide (AKJ p=0)
def BGE (p:a8):Bool:=!decide (MR p=0) || !(decide ((NV p).1=0)&&(decide ((NV p).2.1=0)&&decide ((NV p).2.2=0)))
def oU (p:a8):Bool:=if gX p=1 then BDV p||BGE p else if gX p=2\/gX p=3 then AB3 p||BGE p else !decide (iQ p = { data:=#[] })||(AB3 p||BDV p)
def AYP:Env:=Env.of []
def A1V:FuncId->Hint:=λf=>match f == 264 with|true=>⟨λ_=>.none,λi j=>match i == 1&&j == 1 with|true=>some [.val 3 false .bool]|false=>match i == 2&&j == 2 with|true=>some [.val 4 false .bool]|false=>match i == 3&&j == 3 with|true=>some [.val 5 false .bool]|false=>none,λ_=>none⟩|false=>bA
def AI6:aU Tryz.prog AYP:=.nil _
def BSK(s3:Bool×PUnit)(R:T->Prop)(s5:Bool×PUnit):Prop:=aC s3.1 (R BQR) (R (pPR s5.1))
def PQ(a0:a8)(R:T->Prop):Prop:=sZ (Bool×PUnit) (λ(X0:Bool×PUnit->Prop)=>aC (!decide (a0.2.2.2.2.2.1=0)) (X0 (true,())) (X0 (decide (0 < i64.wrap ((↑(List.map aA.enc a0.2.2.2.2.2.2.1.1).length:Int) + (↑(List.map aA.li.enc a0.2.2.2.2.2.2.1.2).length:Int))), ()))) λ(s1:Bool×PUnit)=>sZ (Bool×PUnit) (λ(X2:Bool×PUnit->Prop)=>aC (!decide (a0.2.2.2.2.2.2.2.1 = {data:=#[]})) (X2 (true,())) (X2 (!decide (a0.2.2.2.2.2.2.2.2.1=0),()))) λ(s3:Bool×PUnit)=>sZ (Bool×PUnit) (λ(X4:Bool×PUnit->Prop)=>aC (!decide (a0.2.2.2.2.2.2.2.2.2.1=0)) (X4 (true,())) (X4 (!(decide (a0.2.2.2.2.2.2.2.2.2.2.1.1=0) && (decide (a0.2.2.2.2.2.2.2.2.2.2.1.2.1=0) && (decide (a0.2.2.2.2.2.2.2.2.2.2.1.2.2=0)&&true))), ()))) λ(s5:Bool×PUnit)=>aC (decide (a0.2.2.1=1)) (BSK s3 R s5) (aC (decide (a0.2.2.1=2)) (BSK s1 R s5) (aC (decide (a0.2.2.1=3)) (BSK s1 R s5) (aC (decide (a0.2.2.1=4)) (aC (!decide (a0.2.2.2.2.1 = {data:=#[]})) (R BQR) (BSK s1 R s3)) (aC (!decide (a0.2.2.2.2.1 = {data:=#[]})) (R BQR) (BSK s1 R s3)))))
abbrev TL:Sh:=[(true,aN)]
def CH (p:a8):Option T:=some (pPR (oU p))
def nR:List T->Option T:=gS TL CH
def AFJ {a0}:nR [aG true aN a0]=CH (a0):=bH (s:=TL) rfl (a0) rfl
def AWK:xX Tryz.prog 264 nR CH (cG TL) PQ:=kC (a1:=(true,aN)) (sp:=CH) (F:=PQ) (Hs:=A1V) (f:=264) (k:=8) AI6 aY a6 (aO rfl) ⟨_,_,Tryz.func264,rfl⟩ rfl λ_ _=>by kernel_rfl
def AA1 {a b:Bool} {n:Bool} (h:n=(a||b)):aC a (pPR true=pPR n) (pPR b=pPR n):=by
 subst h;cases a<;>rfl
def AUH:aP Tryz.prog 264 nR:=AWK λp r h hb=>by
 have b1:(mL p).1.length<=2 ^ 47:=hb.2.2.2.2.2.2.1.1.1;have b2:(mL p).2.length<=2 ^ 47:=hb.2.2.2.2.2.2.1.2.1;cases h;unfold PQ BSK BQR;have j:∀ {a b:Bool} {K:Bool×PUnit->Prop},K (a||b,())->sZ (Bool×PUnit) (λ(X:Bool×PUnit->Prop)=>aC a (X (true,())) (X (b,()))) K:=λ{a b K} hK=>by
  rw[BY];cases a<;>exact hK
 have e1:decide (0<i64.wrap (((List.map aA.enc (mL p).1).length:Int)+((List.map aA.li.enc (mL p).2).length:Int)))=decide (0<(mL p).1.length+(mL p).2.length):=by
  rw[ae,ae,bG _ (by omega) (by omega)];exact decide_eq_decide.2 (by omega)
 refine j ?_;refine j ?_;refine j ?_;dsimp only;rw[e1,Bool.and_true];refine cA (λh=>AA1 (by unfold oU;rw[if_pos h];rfl)) λk1=>?_;refine cA (λh=>AA1 (by unfold oU;rw[if_neg k1,if_pos (.inl h)];rfl)) λk2=>?_;refine cA (λh=>AA1 (by unfold oU;rw[if_neg k1,if_pos (.inr h)];rfl)) λk3=>?_;have w:oU p=(!decide (iQ p = { data:=#[] })||(AB3 p||BDV p)):=by
  unfold oU;rw[if_neg k1,if_neg];rintro (h|h)
  ·exact k2 h
  ·exact k3 h
 have fin:aC (!decide (iQ p = { data:=#[] })) (pPR true=pPR (oU p)) (aC (AB3 p) (pPR true=pPR (oU p)) (pPR (BDV p)=pPR (oU p))):=by
  rw[w];cases (!decide (iQ p = { data:=#[] })) with
  | true=>rfl
  | false=>exact AA1 rfl
 exact cA (λ_=>fin) λ_=>fin
def AQ2 (m:aI) (n:iII):Bool:=match T4 m n with
 | some s=>decide (1<=s.2.1)&&decide (s.2.1<=1000000)&&(decide (1<=s.2.2.1)&&decide (s.2.2.1<=2000))
 | none=>false
def iP (p:a8) (m:aI):Bool:=if gX p=4 then true else match iD m (iQ p) with
 | none=>false
 | some g=>decide (1000<=g.2.1)&&decide (g.2.1<=20000)&&(if gX p=1 then decide (1<=pQ p)&&decide (pQ p<=120)&&w9 m (iQ p) (pQ p) else AQ2 m (ADT p))
def A94:Env:=Env.of [(269,.pure gZ),(270,.pure cX),(309,.pure lE)]
def BBN:FuncId->Hint:=λ_=>bA
def ASG:aU Tryz.prog A94:=.cons KC (.cons RP (.cons ALM (.nil _)))
def BQS:Sh:=[(true,b7),(false,Sy.bool)]
def BR5(y2:cU×Bool)(R:T->Prop):Prop:=aC y2.2 (aC (decide (1<=y2.1.2.1)) (aC (decide (y2.1.2.1<=1000000)) (aC (decide (1<=y2.1.2.2.1)) (R (pPR (decide (y2.1.2.2.1<=2000)))) (R BQM)) (R BQM)) (R BQM)) (R BQM)
def BQ5(a1:aI)(a0:a8)(R:T->Prop):Prop:=aJ BQS (cX [aG true aK a1, pPQ a0.2.2.2.2.2.2.2.1]) λ(y3:cU×Bool)=>BR5 y3 R
def BR4(a0:a8)(a1:aI)(R:T->Prop):Prop:=aC (decide (1<=a0.2.2.2.2.2.1)) (aC (decide (a0.2.2.2.2.2.1<=120)) (aJ BQP (lE [aG true aK a1,pPQ a0.2.2.2.2.1, pPP a0.2.2.2.2.2.1]) λ(y1:Bool)=>R (pPR y1)) (R BQM)) (R BQM)
def BSM(a0:a8)(a1:aI)(R:T->Prop):Prop:=aC (decide (a0.2.2.1=3)) (BQ5 a1 a0 R) (aC (decide (a0.2.2.1=4)) (BQ5 a1 a0 R) (BQ5 a1 a0 R))
def BSN(a1:aI)(a0:a8):List T:=[aG true aK a1,pPQ a0.2.2.2.2.1]
def BRE(a1:aI)(a0:a8)(R:T->Prop):Prop:=aJ BQV (gZ (BSN a1 a0)) λ(y6:gW×Bool)=>aC (!y6.2) (R BQM) (aC (decide (1000<=y6.1.2.1)) (aC (!decide (y6.1.2.1<=20000)) (R BQM) (aC (decide (a0.2.2.1=1)) (BR4 a0 a1 R) (aC (decide (a0.2.2.1=2)) (BQ5 a1 a0 R) (BSM a0 a1 R)))) (R BQM))
def ZB(a0:a8)(a1:aI)(R:T->Prop):Prop:=aC (decide (a0.2.2.1=1)) (aJ BQV (gZ (BSN a1 a0)) λ(y0:gW×Bool)=>aC (!y0.2) (R BQM) (aC (decide (1000<=y0.1.2.1)) (aC (!decide (y0.1.2.1<=20000)) (R BQM) (aC (decide (a0.2.2.1=1)) (BR4 a0 a1 R) (aC (decide (a0.2.2.1=2)) (aJ BQS (cX [aG true aK a1,pPQ a0.2.2.2.2.2.2.2.1]) λ(y2:cU×Bool)=>BR5 y2 R) (BSM a0 a1 R)))) (R BQM))) (aC (decide (a0.2.2.1=2)) (BRE a1 a0 R) (aC (decide (a0.2.2.1=3)) (BRE a1 a0 R) (aC (decide (a0.2.2.1=4)) (R BQR) (BRE a1 a0 R))))
abbrev ABS:Sh:=[(true,aN),(true,aK)]
def I7 (x:a8×aI):Option T:=II x.2 (pPR (iP x.1 x.2))
def qM:List T->Option T:=gS ABS I7
def AL3 {a0 a1}:qM [aG true aN a0,aG true aK a1]=I7 (a0,a1):=bH (s:=ABS) rfl (a0,a1) rfl
def A7F:qU Tryz.prog 265 qM I7 (cG ABS) ZB:=gV (a1:=(true,aN)) (a2:=(true,aK)) (sp:=I7) (F:=ZB) (Hs:=BBN) (f:=265) (k:=8) ASG aY a6 (aO rfl) ⟨_,_,Tryz.func265,rfl⟩ rfl λ_ _ _=>by kernel_rfl
def HA (m:aI) (n:iII):cX [aG true aK m,pPQ n]=some (Sh.enc [(true,b7),(false,.bool)] (found EA (T4 m n))):=AAQ ..
def A33:aP Tryz.prog 265 qM:=A7F λp m r h hb=>by
 obtain ⟨hok,rfl⟩:=AP h;replace hok:okM m=true:=hok;clear h;have is:∀ {n:Bool},iP p m=n->pPR n=pPR (iP p m):=λh=>by rw[h]
 unfold ZB BRE BSN BSM BR4 BQ5 BR5 BQV BQS BQR BQP BQM;have sec:∀ {g:gW},iD m (iQ p)=some g->¬ gX p=4->¬ gX p=1->1000<=g.2.1->g.2.1<=20000 ->
   aJ [(true,b7),(false,Sy.bool)] (cX [aG true aK m,pPQ (ADT p)])
    λ(y2:cU×Bool) =>
    aC y2.2
     (aC (decide (1<=y2.1.2.1))
      (aC (decide (y2.1.2.1<=1000000))
       (aC (decide (1<=y2.1.2.2.1))
        (pPR (decide (y2.1.2.2.1<=2000))=pPR (iP p m))
        (pPR false=pPR (iP p m)))
       (pPR false=pPR (iP p m)))
      (pPR false=pPR (iP p m)))
     (pPR false=pPR (iP p m)):=by
  intro g hg k4 k1 d1 d2;have w:iP p m=AQ2 m (ADT p):=by
   unfold iP;rw[if_neg k4,hg];dsimp only;rw[ai d1,ai d2,if_neg k1];rfl
  refine aF (s:=[(true,b7),(false,.bool)]) (HA m _) ?_;cases hs:T4 m (ADT p) with
  | none =>
   show aC false _ _;rw[pT];exact is (by rw[w];unfold AQ2;rw[hs])
  | some s =>
   show aC true _ _;rw[j8];dsimp only[found];have w2:iP p m=(decide (1<=s.2.1)&&decide (s.2.1<=1000000)&&(decide (1<=s.2.2.1)&&decide (s.2.2.1<=2000))):=by rw[w];unfold AQ2;rw[hs]
   refine cA (λh1=>cA (λh2=>cA (λh3=>is ?_) λh3=>is ?_) λh2=>is ?_) λh1=>is ?_
   ·rw[w2,ai h1,ai h2,ai h3];rfl
   ·rw[w2,ai h1,ai h2,aj h3];rfl
   ·rw[w2,ai h1,aj h2];rfl
   ·rw[w2,aj h1];rfl
 have plate:∀ {g:gW},iD m (iQ p)=some g->gX p=1->1000<=g.2.1->g.2.1<=20000 ->
   aC (decide (1<=pQ p)) (aC (decide (pQ p<=120)) (aJ [(false,Sy.bool)] (lE [aG true aK m,pPQ (iQ p),pPP (pQ p)]) λ(y1:Bool)=>pPR y1=pPR (iP p m)) (pPR false=pPR (iP p m))) (pPR false=pPR (iP p m)):=by
  intro g hg k1 d1 d2;have w:iP p m=(decide (1<=pQ p)&&decide (pQ p<=120)&&w9 m (iQ p) (pQ p)):=by
   unfold iP;rw[if_neg (by omega),hg];dsimp only;rw[ai d1,ai d2,if_pos k1];rfl
  refine cA (λh1=>cA (λh2=>?_) λh2=>is ?_) λh1=>is ?_
  ·refine aF (s:=[(false,.bool)]) (y:=w9 m (iQ p) (pQ p)) ((AAI ..).trans (AQ _ hok)) (is ?_);rw[w,ai h1,ai h2];rfl
  ·rw[w,ai h1,aj h2];rfl
  ·rw[w,aj h1];rfl
 by_cases k4:p.2.2.1=4
 ·have w:iP p m=true:=by unfold iP;rw[if_pos k4]
  repeat' first
   | (exfalso;omega)
   | exact is w
   | refine cA (λh=>?_) (λh=>?_)
 ·have hnone:iD m (iQ p)=none->iP p m=false:=λh=>by unfold iP;rw[if_neg k4,h]
  have dens:∀ {g:gW},iD m (iQ p)=some g->¬ (1000<=g.2.1/\g.2.1<=20000)->iP p m=false:=λ{g} hg h=>by
   unfold iP;rw[if_neg k4,hg];dsimp only;by_cases h1:1000<=g.2.1
   ·rw[aj (show ¬ g.2.1<=20000 by omega),Bool.and_false,Bool.false_and]
   ·rw[aj h1,Bool.false_and,Bool.false_and]
  have call:∀ {K:gW×Bool->Prop},(iD m (iQ p)=none->K (lG,false))->(∀ g,iD m (iQ p)=some g->K (g,true))->aJ [(true,dO),(false,Sy.bool)] (gZ [aG true aK m,pPQ p.2.2.2.2.1]) K:=λ{K} h1 h2=>by
   refine aF (s:=[(true,dO),(false,.bool)]) (zA hok _) ?_;cases hg:iD m (iQ p) with
   | none=>exact h1 hg
   | some g=>exact h2 g hg
  have body:∀ {K:gW×Bool->Prop},(∀ g,iD m (iQ p)=some g->1000<=g.2.1->g.2.1<=20000->K (g,true))->aJ [(true,dO),(false,Sy.bool)] (gZ [aG true aK m,pPQ p.2.2.2.2.1]) λ(y0:gW×Bool)=>aC (!y0.2) (pPR false=pPR (iP p m)) (aC (decide (1000<=y0.1.2.1)) (aC (!decide (y0.1.2.1<=20000)) (pPR false=pPR (iP p m)) (K y0)) (pPR false=pPR (iP p m))):=λ{K} hK=>by
   refine call (λhn=>?_) λg hg=>?_
   ·show aC true _ _;rw[j8];exact is (hnone hn)
   ·show aC false _ _;rw[pT];exact cA (λd1=>lF (λd2=>is (dens hg (λh=>d2 h.2))) λd2=>hK g hg d1 d2) λd1=>is (dens hg (λh=>d1 h.1))
  refine cA (λh=>body λg hg d1 d2=>?_) λh1=>cA (λh=>body λg hg d1 d2=>?_) λh2=>cA (λh=>body λg hg d1 d2=>?_) λh3=>cA (λh=>absurd h k4) λ_=>body λg hg d1 d2=>?_
  all_goals
   repeat' first
    | (exfalso;omega)
    | exact plate hg (by assumption) d1 d2
    | exact sec hg k4 (by assumption) d1 d2
    | exact sec hg k4 (by intro h';have h'':p.2.2.1=1:=h';omega) d1 d2
    | refine cA (λh=>?_) (λh=>?_)
def qE (p:a8) (m:aI):Int:=if pS p.1=false\/pS (oG p)=false then 6 else if ¬ (1<=p.2.1/\p.2.1<=1000) then 9 else if ¬ (gX p=1\/gX p=2\/gX p=3\/gX p=4) then 10 else if oU p=true then 2 else if iP p m=false then 23 else
 if gX p=1/\¬ AU (mL p)=0 then AU (mL p) else if (gX p=2\/gX p=3)/\¬ (1<=AKJ p/\AKJ p<=32768) then 9 else if gX p=4/\¬ (1<=MR p/\MR p<=1099511627776/\ED (NV p)=true) then 9 else if uA (aAt p)=false then 9 else 0
def AR2:Env:=Env.of [(64,.pure eZ),(264,.pure nR),(265,.pure qM),(266,.pure j0),(268,.pure cR)]
def AS1:FuncId->Hint:=λ_=>bA
def AC6:aU Tryz.prog AR2:=.cons GW (.cons AUH (.cons A33 (.cons V6 (.cons AUS (.nil _)))))
def BQU:T:=pPP 2
def BQ2:T:=pPP 23
def BRT(a0:a8)(R:T->Prop):Prop:=aJ BQP (cR [aG true fR a0.2.2.2.2.2.2.2.2.2.2.2]) λ(y5:Bool)=>aC (!y5) (R BQN) (R BQQ)
def BSF(a0:a8)(R:T->Prop):Prop:=aC (decide (1<=a0.2.2.2.2.2.2.2.2.1)) (aC (!decide (a0.2.2.2.2.2.2.2.2.1<=32768)) (R BQN) (BRT a0 R)) (R BQN)
def BQ4(a0:a8)(R:T->Prop)(a1:aI):Prop:=aJ BQP (nR [aG true aN a0]) λ(y2:Bool)=>aC y2 (R BQU) (aJ BQP (qM [aG true aN a0,aG true aK a1]) λ(y3:Bool)=>aC (!y3) (R BQ2) (aC (decide (a0.2.2.1=1)) (aJ BQO (j0 [aG true e8 a0.2.2.2.2.2.2.1]) λ(y4:Int)=>aC (!decide (y4=0)) (R (BR2 y4)) (BRT a0 R)) (aC (decide (a0.2.2.1=2)) (BSF a0 R) (aC (decide (a0.2.2.1=3)) (BSF a0 R) (aC (decide (a0.2.2.1=4)) (aC (decide (1<=a0.2.2.2.2.2.2.2.2.2.1)) (aC (!decide (a0.2.2.2.2.2.2.2.2.2.1<=1099511627776)) (R BQN) (aJ BQP (cR [T.agg [pPP a0.2.2.2.2.2.2.2.2.2.2.1.1, pPP a0.2.2.2.2.2.2.2.2.2.2.1.2.1, pPP a0.2.2.2.2.2.2.2.2.2.2.1.2.2, pPP 0]]) λ(y8:Bool)=>aC (!y8) (R BQN) (BRT a0 R))) (R BQN)) (BRT a0 R))))))
def JQ(a0:a8)(a1:aI)(R:T->Prop):Prop:=aJ BQP (eZ [pPQ a0.1]) λ(y0:Bool)=>aC (!y0) (R BQY) (aJ BQP (eZ [pPQ a0.2.2.2.1]) λ(y1:Bool)=>aC (!y1) (R BQY) (aC (decide (1<=a0.2.1)) (aC (!decide (a0.2.1<=1000)) (R BQN) (aC (decide (a0.2.2.1=1)) (BQ4 a0 R a1) (aC (decide (a0.2.2.1=2)) (BQ4 a0 R a1) (aC (decide (a0.2.2.1=3)) (BQ4 a0 R a1) (aC (decide (a0.2.2.1=4)) (BQ4 a0 R a1) (R (pPP 10))))))) (R BQN)))
abbrev L0:Sh:=[(true,aN),(true,aK)]
def xF (x:a8×aI):Option T:=II x.2 (T.v (Value.int .i64 (qE x.1 x.2)))
def mW:List T->Option T:=gS L0 xF
def AAM {a0 a1}:mW [aG true aN a0,aG true aK a1]=xF (a0,a1):=bH (s:=L0) rfl (a0,a1) rfl
def AM4:qU Tryz.prog 129 mW xF (cG L0) JQ:=gV (a1:=(true,aN)) (a2:=(true,aK)) (sp:=xF) (F:=JQ) (Hs:=AS1) (f:=129) (k:=8) AC6 aY a6 (aO rfl) ⟨_,_,Tryz.func129,rfl⟩ rfl λ_ _ _=>by kernel_rfl
def RO:aP Tryz.prog 129 mW:=AM4 λp m r h hb=>by
 obtain ⟨hok,rfl⟩:=AP h;replace hok:okM m=true:=hok;clear h hb;have is:∀ {n:Int},qE p m=n->pPP n=pPP (qE p m):=λh=>by rw[h]
 unfold JQ BQ4 BSF BR2 BRT BQ2 BQY BQU BQQ BQP BQO BQN;rw[oN];refine fJ (λh=>is (by unfold qE;rw[if_pos (.inl h)])) λi1=>?_;rw[oN];refine fJ (λh=>is (by unfold qE;rw[if_pos (.inr h)])) λi2=>?_;have n1:¬ (pS p.1=false\/pS (oG p)=false):=by
  rintro (h|h)
  ·rw[i1] at h;cases h
  ·rw[show pS (oG p)=true from i2] at h;cases h
 have r9:¬ (1<=p.2.1/\p.2.1<=1000)->pPP 9=pPP (qE p m):=λh=>is (by unfold qE;rw[if_neg n1,if_pos h]);refine cA (λv1=>lF (λh=>r9 (λh2=>h h2.2)) λv2=>?_) λh=>r9 (λh2=>h h2.1);have n2:¬ ¬ (1<=p.2.1/\p.2.1<=1000):=λh=>h ⟨v1,v2⟩;have w1:qE p m=if ¬ (gX p=1\/gX p=2\/gX p=3\/gX p=4) then 10 else if oU p=true then 2 else if iP p m=false then 23 else if gX p=1/\¬ AU (mL p)=0 then AU (mL p) else if (gX p=2\/gX p=3)/\¬ (1<=AKJ p/\AKJ p<=32768) then 9 else if gX p=4/\¬ (1<=MR p/\MR p<=1099511627776/\ED (NV p)=true) then 9 else if uA (aAt p)=false then 9 else 0:=by
  unfold qE;rw[if_neg n1,if_neg n2]
 have spare:∀ {K:Bool->Prop},K (oU p)->aJ [(false,Sy.bool)] (nR [aG true aN p]) K:=λh=>aF (s:=[(false,.bool)]) (y:=oU p) (AFJ ..) h;have made:∀ {K:Bool->Prop},K (iP p m)->aJ [(false,Sy.bool)] (qM [aG true aN p,aG true aK m]) K:=λh=>aF (s:=[(false,.bool)]) (y:=iP p m) ((AL3 ..).trans (AQ _ hok)) h;have place:∀ {K:Bool->Prop},K (uA (aAt p))->aJ [(false,Sy.bool)] (cR [aG true fR (aAt p)]) K:=λh=>aF (s:=[(false,.bool)]) (y:=uA (aAt p)) (NA ..) h;have near:∀ {K:Bool->Prop},K (ED (NV p))->aJ [(false,Sy.bool)] (cR [aG true fR (NV p,0)]) K:=λ{K} h=>aF (s:=[(false,.bool)]) (y:=uA (NV p,0)) (NA ..) (by
  rw[show uA (NV p,0)=ED (NV p) by unfold uA;rw[show decide (((NV p,(0:Int)):EP).2=AMY ((NV p,(0:Int)):EP).2)=true from rfl,Bool.and_true]];exact h)
 have reg:∀ {K:Int->Prop},K (AU (mL p))->aJ [(false,Sy.int IntKind.i64)] (j0 [aG true e8 (mL p)]) K:=λh=>aF (s:=[(false,.int .i64)]) (M6 _) h
 repeat' first
  | (exfalso;omega)
  | refine spare ?_
  | refine made ?_
  | refine reg ?_
  | refine place ?_
  | refine near ?_
  | refine lF (λh=>?_) (λh=>?_)
  | refine cA (λh=>?_) (λh=>?_)
  | refine fJ (λh=>?_) (λh=>?_)
  | refine sX (λh=>?_) (λh=>?_)
 all_goals (refine is ?_;clear spare made place near reg is r9;rw[w1];clear w1 n1 n2 i1 i2;simp_all;try (intros;exfalso;simp only[AKJ,MR] at *;omega))
def G9 (h:okM m=true) (p:a8):mW [aG true aN p,aG true aK m]=some (Sh.enc [(false,.int .i64)] (qE p m)):=(AAM ..).trans (AQ _ h)
def AMG (m:aI) (n:iII):gW:=(iD m n).getD lG
def BO3 (m:aI) (n:iII):cU:=(T4 m n).getD EA
def APS {no:α} {o:Option α}:(found no o).1=o.getD no:=by cases o<;>rfl
def XJ (p:a8) (m:aI):Int:=if gX p=1 then i64.wrap ((i64.wrap (i64.wrap (AHN (mL p)*pQ p)*(AMG m (iQ p)).2.1)).tdiv 2000000) else if gX p=2\/gX p=3 then i64.wrap ((i64.wrap (i64.wrap ((BO3 m (ADT p)).2.1*AKJ p)*(AMG m (iQ p)).2.1)).tdiv 1000000) else MR p
def D8 (p:a8) (m:aI):Int×Int:=if qE p m=0 then (XJ p m,0) else (0,qE p m)
def AYQ:Env:=Env.of [(129,.pure mW),(269,.pure gZ),(270,.pure cX),(271,.pure u5)]
def A1W:FuncId->Hint:=λ_=>bA
def AI7:aU Tryz.prog AYQ:=.cons RO (.cons KC (.cons RP (.cons AUK (.nil _))))
def BSC(R:T->Prop)(y2:cU×Bool)(a0:a8)(y1:gW×Bool):Prop:=bL true (R (T.cE [pPP (i64.wrap ((i64.wrap (i64.wrap (y2.1.2.1*a0.2.2.2.2.2.2.2.2.1) * y1.1.2.1)).tdiv 1000000)), pPP 0]))
def BSO(a0:a8):List T:=[pPP a0.2.2.2.2.2.2.2.2.2.1, pPP 0]
def PR(a0:a8)(a1:aI)(R:T->Prop):Prop:=aJ BQO (mW [aG true aN a0,aG true aK a1]) λ(y0:Int)=>aC (!decide (y0=0)) (R (T.cE [pPP 0,pPP y0])) (aJ BQV (gZ (BSN a1 a0)) λ(y1:gW×Bool)=>aJ BQS (cX [aG true aK a1,pPQ a0.2.2.2.2.2.2.2.1]) λ(y2:cU×Bool)=>aC (decide (a0.2.2.1=1)) (aJ BQO (u5 [aG true e8 a0.2.2.2.2.2.2.1]) λ(y3:Int)=>bL true (R (T.cE [pPP (i64.wrap ((i64.wrap (i64.wrap (y3*a0.2.2.2.2.2.1)*y1.1.2.1)).tdiv 2000000)), pPP 0]))) (aC (decide (a0.2.2.1=2)) (BSC R y2 a0 y1) (aC (decide (a0.2.2.1=3)) (BSC R y2 a0 y1) (aC (decide (a0.2.2.1=4)) (R (T.cE (BSO a0))) (R (T.cE (BSO a0)))))))
abbrev TM:Sh:=[(true,aN),(true,aK)]
abbrev AHL:Sh:=[(false,Sy.int IntKind.i64),(false,Sy.int IntKind.i64)]
def CI (x:a8×aI):Option T:=II x.2 (Sh.enc AHL (D8 x.1 x.2))
def uX:List T->Option T:=gS TM CI
def AFK {a0 a1}:uX [aG true aN a0,aG true aK a1]=CI (a0,a1):=bH (s:=TM) rfl (a0,a1) rfl
def AWL:qU Tryz.prog 130 uX CI (cG TM) PR:=gV (a1:=(true,aN)) (a2:=(true,aK)) (sp:=CI) (F:=PR) (Hs:=A1W) (f:=130) (k:=8) AI7 aY a6 (aO rfl) ⟨_,_,Tryz.func130,rfl⟩ rfl λ_ _ _=>by kernel_rfl
def AUI:aP Tryz.prog 130 uX:=AWL λp m r h hb=>by
 obtain ⟨hok,rfl⟩:=AP h;replace hok:okM m=true:=hok;clear h hb;have is:∀ {a b:Int},D8 p m=(a,b)->T.cE [pPP a,pPP b]=Sh.enc AHL (D8 p m):=λh=>by rw[h];rfl
 unfold PR BSO BSC BSN BQV BQS BQO;refine aF (s:=[(false,.int .i64)]) (G9 hok p) ?_;refine lF (λh=>is (by unfold D8;rw[if_neg h])) λh=>?_;refine aF (s:=[(true,dO),(false,.bool)]) (zA hok _) ?_;refine aF (s:=[(true,b7),(false,.bool)]) (HA m _) ?_;have w:D8 p m=(XJ p m,0):=by unfold D8;rw[if_pos h]
 have eg:(found lG (iD m (iQ p))).1=AMG m (iQ p):=APS;have es:(found EA (T4 m (ADT p))).1=BO3 m (ADT p):=APS;refine cA (λk1=>?_) λk1=>?_
 ·refine aF (s:=[(false,.int .i64)]) (AFQ _) ?_;refine ⟨rfl,is ?_⟩;rw[w];unfold XJ;rw[if_pos k1,<-eg]
 refine cA (λk2=>⟨rfl,is ?_⟩) λk2=>?_
 ·rw[w];unfold XJ;rw[if_neg k1,if_pos (.inl k2),<-eg,<-es]
 refine cA (λk3=>⟨rfl,is ?_⟩) λk3=>?_
 ·rw[w];unfold XJ;rw[if_neg k1,if_pos (.inr k3),<-eg,<-es]
 have fin:D8 p m=(MR p,0):=by
  rw[w];unfold XJ;rw[if_neg k1,if_neg];rintro (h|h)
  ·exact k2 h
  ·exact k3 h
 exact cA (λ_=>is fin) λ_=>is fin
def AFL (h:okM m=true) (p:a8):uX [aG true aN p,aG true aK m]=some (Sh.enc [(false,.int .i64),(false,.int .i64)] (D8 p m)):=(AFK ..).trans (AQ _ h)
def o7 (a0:aB) (m1:List aE) (m2:List aE) (m3:List aE) (m4:List aE) (a5:aI):List T:=[UG a0 m1 m2 m3 m4,T.agg (aK.enc a5)]
def O5:Env:=Env.of [(129,.pure mW),(130,.pure uX)]
def ADO:FuncId->Hint:=b8 89 [(2,.inv [.val 23 false (.int .i64)]),(13,.inv [.val 10 false (.int .i64),.val 54 false (.int .i64)])] (λ_=>bA)
def AIV:aU Tryz.prog O5:=.cons RO (.cons AUI (.nil _))
def BQ3:T:=pPP 8
def BRC(a0:aB):List (List T):=List.map aN.enc a0.2.2.1
def PE(a0:aB)(m1:List aE)(m2:List aE)(m3:List aE)(m4:List aE)(a5:aI)(R:T->Prop):Prop:=bB (Int×PUnit) (λX0 s1=>aC (decide (s1.1<(↑(BRC a0).length:Int))) (aR aN (BRC a0) s1.1 λ(y2:a8)=>aJ BQO (mW [aG true aN y2,aG true aK a5]) λ(y3:Int)=>aC (!decide (y3=0)) (R (BR2 y3)) (iF TypeDesc.string (Value.string y2.2.2.2.1) (sA (bS m1)) false BQT (R BQ3) λ(i4:Nat) (y5:Int)=>X0 (i64.wrap (s1.1+1),()))) (bB (Int×Int×PUnit) (λX6 s7=>aC (decide (s7.2.1<(↑(BRC a0).length:Int))) (aR aN (BRC a0) s7.2.1 λ(y8:a8)=>aJ [(false,Sy.int IntKind.i64),(false,Sy.int IntKind.i64)] (uX [aG true aN y8,aG true aK a5]) λ(y9:aX)=>aC (decide (1099511627776<i64.wrap (s7.1+y9.1))) (R (pPP 13)) (X6 (i64.wrap (s7.1+y9.1),i64.wrap (s7.2.1+1),()))) (R BQQ)) (0,0,()))) (0,())
def ADG ( a0 m1 m2 m3 m4 a5 R):eX cD Tryz.prog O5 ADO 8 89 (o7 a0 m1 m2 m3 m4 a5) R=PE a0 m1 m2 m3 m4 a5 R:=by kernel_rfl
def YR (x y:aB×MP×MP×MP×MP×aI) (h:o7 x.1 x.2.1 x.2.2.1 x.2.2.2.1 x.2.2.2.2.1 x.2.2.2.2.2=o7 y.1 y.2.1 y.2.2.1 y.2.2.2.1 y.2.2.2.2.1 y.2.2.2.2.2):x=y:=by
 obtain ⟨h1,h2⟩:=List.cons.inj h;have:=r6 (x:=(x.1,x.2.1,x.2.2.1,x.2.2.2.1,x.2.2.2.2.1)) (y:=(y.1,y.2.1,y.2.2.1,y.2.2.2.1,y.2.2.2.2.1)) h1;have h2:=Sy.dV aK _ _ (T.agg.inj (List.cons.inj h2).1);simp only[Prod.mk.injEq] at this;obtain ⟨e1,e2,e3,e4,e5⟩:=this;exact Prod.ext e1 (Prod.ext e2 (Prod.ext e3 (Prod.ext e4 (Prod.ext e5 h2))))
def jE (d:aB) (m:aI) (p:a8):Int:=if qE p m=0 then (if (eV d (oG p)).isNone=true then 8 else 0) else qE p m
def MN (m:aI):List a8->Int->Int
 | [],_=>0
 | p::l,s=>if 1099511627776<i64.wrap (s+(D8 p m).1) then 13 else MN m l (i64.wrap (s+(D8 p m).1))
def kS (d:aB) (m:aI):Int:=if cJ (jE d m) d.2.2.1=0 then MN m d.2.2.1 0 else cJ (jE d m) d.2.2.1
def vM (x:aB×MP×MP×MP×MP×aI):Option T:=match okM x.2.2.2.2.2 with
 | true=>xU (x.1,x.2.1,x.2.2.1,x.2.2.2.1,x.2.2.2.2.1) (T.v (Value.int .i64 (kS x.1 x.2.2.2.2.2)))
 | false=>none
def uT:List T->Option (T):=gA (λ(x:aB×List aE×List aE×List aE×List aE×aI)=>o7 x.1 x.2.1 x.2.2.1 x.2.2.2.1 x.2.2.2.2.1 x.2.2.2.2.2) vM
def AE5 (a0:aB) (m1:List aE) (m2:List aE) (m3:List aE) (m4:List aE) (a5:aI):uT (o7 a0 m1 m2 m3 m4 a5)=vM (a0,m1,m2,m3,m4,a5):=gG (A:=(λ(x:aB×List aE×List aE×List aE×List aE×aI)=>o7 x.1 x.2.1 x.2.2.1 x.2.2.2.1 x.2.2.2.2.1 x.2.2.2.2.2)) YR (a0,m1,m2,m3,m4,a5)
def AV9 (h:∀ (a0:aB) (m1:List aE) (m2:List aE) (m3:List aE) (m4:List aE) (a5:aI) (r:T),vM (a0,m1,m2,m3,m4,a5)=some r->(∀ t∈o7 a0 m1 m2 m3 m4 a5,Bd t)->PE a0 m1 m2 m3 m4 a5 (λy=>y=r)):aP Tryz.prog 89 uT :=
 cZ (E:=O5) (Hs:=ADO) AIV aY a6 (aO rfl) 8 ⟨_,_,Tryz.func89,rfl⟩ λx r h1 h2=>by
  rw[ADG];exact h x.1 x.2.1 x.2.2.1 x.2.2.2.1 x.2.2.2.2.1 x.2.2.2.2.2 r h1 h2
def AT9:aP Tryz.prog 89 uT:=AV9 λd m1 m2 m3 m4 m r h hb=>by
 unfold vM at h;split at h
 case h_2=>cases h
 rename_i hok;replace hok:okM m=true:=hok;obtain ⟨hx,hs,rfl⟩:=pH h;simp only[Prod.mk.injEq,true_and] at hx;obtain ⟨rfl,rfl,rfl,rfl⟩:=hx;replace hs:oJ d:=hs;clear h hb;have is:∀ {n:Int},kS d m=n->pPP n=pPP (kS d m):=λh=>by rw[h]
 unfold PE BRC BR2 BQ3 BQT BQQ BQO;refine rM (r:=aN) (jE d m) hs.p (λX s y hy hgo hbad=>?_) λh0=>?_
 ·have bad:∀ {n:Int},n≠0->jE d m y=n->pPP n=pPP (kS d m):=λhn h=>by
   have h1:=hbad (by rw[h];exact hn);refine is ?_;unfold kS;rw[if_neg (by rw[h1,h];exact hn),h1,h]
  refine aF (s:=[(false,.int .i64)]) (G9 hok y) ?_;refine lF (λh=>bad h (by unfold jE;rw[if_neg h])) λh=>?_;refine ixK (λhn=>bad (by decide) ?_) λi j hj hn=>hgo ?_
  ·have hn:eV d (oG y)=none:=hn;unfold jE;rw[if_pos h,hn];rfl
  ·have hn:eV d (oG y)=some d.2.1[j]:=hn;unfold jE;rw[if_pos h,hn];rfl
 ·have w:kS d m=MN m d.2.2.1 0:=by unfold kS;rw[if_pos h0]
  clear h0;have hl:=hs.p;generalize d.2.2.1=l at w hl ⊢;refine bM l.length (λk s=>s.2.1=(k:Int)/\MN m (l.drop k) s.1=kS d m) ⟨rfl,by rw[w];rfl⟩ ?_;rintro X k ⟨s,i,u⟩ hk ⟨rfl,he⟩ hX;dsimp only at he ⊢;refine cA (λhlt=>?_) λhge=>?_
  ·rw[ae] at hlt;have hlt:k<l.length:=by omega
   rw[bE (r:=aN) hlt];rw[drop_eq_getElem_cons hlt,MN] at he;refine aF (s:=[(false,.int .i64),(false,.int .i64)]) (AFL hok _) ?_;refine cA (λh=>is (by rw[<-he,if_pos h])) λh=>?_;rw[if_neg h] at he;refine hX _ hlt ⟨?_,he⟩;show i64.wrap ((k:Int)+1)=_;rw[bG]<;>omega
  ·rw[ae] at hge;have:k=l.length:=by omega
   subst this;rw[drop_length,MN] at he;exact is he.symm
def o6 (a0:aB) (m1:List aE) (m2:List aE) (m3:List aE) (m4:List aE):List T:=[UG a0 m1 m2 m3 m4]
def O4:Env:=Env.of [(64,.pure eZ),(123,.pure x6),(132,.pure KQ),(131,.pure iO),(128,.pure lY),(133,.new G8)]
def ADN:FuncId->Hint:=b8 91 [(4,.inv [.own 3 2 (.pr (.int .i64) (.int .i64)),.map 0 .str false .bool,.val 29 false (.int .i64)]),(15,.inv [.val 76 false (.int .i64),.map 0 .str false .bool]),(31,.inv [.own 3 2 (.pr (.int .i64) (.int .i64)),.val 147 false (.int .i64)])] (λ_=>bA)
def AIU:aU Tryz.prog O4:=.cons GW (.cons BGC (.cons BDL (.cons AES (.cons V8 (.cons A32 (.nil _))))))
def BRF(a0:aB):List (List T):=List.map aZ.enc a0.2.2.2.2.2
def BQ8(a0:aB):List (List T):=List.map aH.enc a0.2.2.2.2.1
def BRD(a0:aB):List (List T):=List.map bD.enc a0.2.2.2.1
def BSA(y3:aQ):List (List T):=List.map Sy.str.enc y3.2.2.1
def BRH(a0:aB):List (List T):=List.map bC.enc a0.2.1
def BRJ(a0:aB):List T:=[pPQ a0.1, T.sl false (BRH a0), T.sl false (BRC a0), T.sl false (BRD a0), T.sl false (BQ8 a0), T.sl false (BRF a0)]
def BR0(y3:aQ):List (List T):=List.map Sy.str.enc y3.2.2.2.2
def BRM(y13:iII)(s12:Int×List (iII×Bool)×PUnit)(X11:Int×List (iII×Bool)×PUnit->Prop):Prop:=eT (Option (Nat×D)) (findD TypeDesc.string (Value.string y13) (List.map (b6 Sy.str false Sy.bool) s12.2.1) 0) λ(y24:Option (Nat×D))=>cV Sy.str false Sy.bool (eP (List.map (b6 Sy.str false Sy.bool) s12.2.1) y24 (Value.string y13) (D.p BQR)) λ(y25:List (iII×Bool))=>X11 (i64.wrap (s12.1+1),y25,())
def BR9(a0:aB)(m1:List aE)(m2:List aE)(m3:List aE)(m4:List aE):List T:=[T.ref (BRJ a0), T.mp (bS m1),T.mp (bS m2), T.mp (bS m3),T.mp (bS m4)]
def BSB(a0:aB):List T:=[pPQ a0.1,T.sl false (BRH a0), T.sl false (BRC a0), T.sl false (BRD a0), T.sl false (BQ8 a0), T.sl false (BRF a0)]
def BSL(y18:List iII×Bool):List (List T):=List.map Sy.str.enc y18.1
def PD(a0:aB)(m1:List aE)(m2:List aE)(m3:List aE)(m4:List aE)(R:T->Prop):Prop:=cV Sy.str false Sy.bool [] λ(y0:List (iII×Bool))=>bB (List aX×List (iII×Bool)×Int×PUnit) (λX1 s2=>aC (decide (s2.2.2.1<(↑(BQ8 a0).length:Int))) (aR aH (BQ8 a0) s2.2.2.1 λ(y3:aQ)=>aJ BQP (eZ [pPQ y3.1]) λ(y4:Bool)=>aC (!y4) (R BQY) (aJ BQP (iO [T.ref [T.ref (BSB a0), T.mp (bS m1),T.mp (bS m2),T.mp (bS m3), T.mp (bS m4)], pPQ y3.2.1]) λ(y5:Bool)=>aC (!y5) (R BQ3) (aC (decide (y3.2.2.2.1<1)) (R BQN) (aC (decide (10000<y3.2.2.2.1)) (R BQN) (aJ [(false,Sy.any)] (KQ [T.sl false (BSA y3)]) λ(y6:T)=>aJ BQP (x6 [pPP (↑(BSA y3).length:Int), y6]) λ(y7:Bool)=>aC (!y7) (R BQZ) (aJ [(false,Sy.any)] (KQ [T.sl false (BR0 y3)]) λ(y8:T)=>aJ BQP (x6 [pPP (↑(BR0 y3).length:Int), y8]) λ(y9:Bool)=>aC (!y9) (R BQZ) (cV Sy.str false Sy.bool (List.map (b6 Sy.str false Sy.bool) s2.2.1) λ(y10:List (iII×Bool))=>bB (Int×List (iII×Bool)×PUnit) (λX11 s12=>aC (decide (s12.1<(↑(BSA y3).length:Int))) (aR Sy.str (BSA y3) s12.1 λ(y13:iII)=>iF TypeDesc.string (Value.string y13) (sA (bS m2)) false BQT (R BQ3) λ(i14:Nat) (y15:Int)=>aR aN (BRC a0) y15 λ(y16:a8)=>aC (!decide (y16.2.2.1=4)) (aC (!decide (y16.2.2.1=3)) (R (pPP 10)) (aR aN (BRC a0) y15 λ(y17:a8)=>aJ [(false,Sy.str.li),(false,Sy.bool)] (lY [T.ref (BR9 a0 m1 m2 m3 m4), pPQ y17.2.2.2.1]) λ(y18:List iII×Bool)=>aC (decide ((↑(BSL y18).length:Int)=0)) (R BQU) (aR Sy.str (BSL y18) (i64.wrap ((↑(BSL y18).length:Int)-1)) λ(y19:iII)=>aC (!decide (y19=y3.2.1)) (R BQU) (iF TypeDesc.string (Value.string y13) (List.map (b6 Sy.str false Sy.bool) s12.2.1) false Sy.bool (BRM y13 s12 X11) λ(i20:Nat) (y21:Bool)=>aC y21 (R (pPP 7)) (eT (Option (Nat×D)) (findD TypeDesc.string (Value.string y13) (List.map (b6 Sy.str false Sy.bool) s12.2.1) 0) λ(y22:Option (Nat×D))=>cV Sy.str false Sy.bool (eP (List.map (b6 Sy.str false Sy.bool) s12.2.1) y22 (Value.string y13) (D.p BQR)) λ(y23:List (iII×Bool))=>X11 (i64.wrap (s12.1+1),y23, ())))))) (aR aN (BRC a0) y15 λ(y26:a8)=>aJ [(false,Sy.str.li),(false,Sy.bool)] (lY [T.ref (BR9 a0 m1 m2 m3 m4), pPQ y26.2.2.2.1]) λ(y27:List iII×Bool)=>aC (decide ((↑(BSL y27).length:Int)=0)) (R BQU) (aR Sy.str (BSL y27) (i64.wrap ((↑(BSL y27).length:Int)-1)) λ(y28:iII)=>aC (!decide (y28=y3.2.1)) (R BQU) (iF TypeDesc.string (Value.string y13) (List.map (b6 Sy.str false Sy.bool) s12.2.1) false Sy.bool (BRM y13 s12 X11) λ(i29:Nat) (y30:Bool)=>aC y30 (R (pPP 7)) (BRM y13 s12 X11))))) (dP aA (List.map aA.enc s2.1) λ(y35:List aX)=>bB (List aX×Int×PUnit) (λX36 s37=>aC (decide (s37.2.1 < (↑(BR0 y3).length:Int))) (aR Sy.str (BR0 y3) s37.2.1 λ(y38:iII)=>aC (decide (y38=y3.1)) (R BQU) (iF TypeDesc.string (Value.string y38) (sA (bS m4)) false BQT (R BQ3) λ(i39:Nat) (y40:Int)=>bL (decide (((List.map aA.enc s37.1).length+1)*16 <= 140737488355328) && decide ((List.map aA.enc s37.1).length+1 <= 140737488355328)) (dP aA (List.map aA.enc s37.1 ++ [[pPP y40, pPP s2.2.2.1]]) λ(y41:List aX)=>X36 (y41,i64.wrap (s37.2.1+1),())))) (dP aA (List.map aA.enc s37.1) λ(y42:List aX)=>cV Sy.str false Sy.bool (List.map (b6 Sy.str false Sy.bool) s12.2.1) λ(y43:List (iII×Bool))=>X1 (y42,y43,i64.wrap (s2.2.2.1+1),()))) (y35,0,()))) (0,y10,())))))))) (aJ [(false,BQT.li),(false,Sy.int IntKind.i64)] (G8 [pPP (↑(BQ8 a0).length:Int), T.sl false (List.map aA.enc s2.1)]) λ(y44:List Int×Int)=>aC (!decide (y44.2=0)) (R (pPP 20)) (R BQQ))) ([],y0,0,())
def ADF ( a0 m1 m2 m3 m4 R):eX cD Tryz.prog O4 ADN 8 91 (o6 a0 m1 m2 m3 m4) R=PD a0 m1 m2 m3 m4 R:=by kernel_rfl
def YQ (x y:aB×MP×MP×MP×MP) (h:o6 x.1 x.2.1 x.2.2.1 x.2.2.2.1 x.2.2.2.2=o6 y.1 y.2.1 y.2.2.1 y.2.2.2.1 y.2.2.2.2):x=y:=r6 (List.cons.inj h).1
abbrev j9 (k:aQ):List iII:=k.2.2.1
abbrev iA (k:aQ):List iII:=k.2.2.2.2
abbrev AA2 (k:aQ):Int:=k.2.2.2.1
def vB (d:aB) (k:aQ):Int:=if pS k.1=false then 6 else if qB d k.2.1=false then 8 else if AA2 k<1\/10000<AA2 k then 9 else if pY (j9 k)=false\/pY (iA k)=false then 11 else 0
def instE (d:aB) (b:iII):List iII->List iII->Int×List iII
 | [],S=>(0,S)
 | id::l,S=>match partOf d id with
  | none=>(8,S)
  | some p=>if ¬ gX p=4/\¬ gX p=3 then (10,S) else if (up d (oG p)).1.getLast? = some b then (if AA5 S id=true then (7,S) else instE d b l (id::S)) else (2,S)
def ZO (d:aB) (k:iII) (i:Int):List iII->List aX->Int×List aX
 | [],E=>(0,E)
 | id::l,E=>if id=k then (2,E) else match fS (jK (ids d.2.2.2.2.1)) id with
  | none=>(8,E)
  | some j=>ZO d k i l (E++[(j,i)])
def lH (d:aB):List aQ->Int->List aX->List iII->Int×List aX
 | [],_,E,_=>(0,E)
 | k::l,i,E,S=>if ¬ vB d k=0 then (vB d k,E) else if ¬ (instE d k.2.1 (j9 k) S).1=0 then ((instE d k.2.1 (j9 k) S).1,E) else if ¬ (ZO d k.1 i (iA k) E).1=0 then ((ZO d k.1 i (iA k) E).1,E) else
  lH d l (i+1) (ZO d k.1 i (iA k) E).2 (instE d k.2.1 (j9 k) S).2
def jC (d:aB):Int:=if (lH d d.2.2.2.2.1 0 [] []).1=0 then (if (mR d.2.2.2.2.1.length (lH d d.2.2.2.2.1 0 [] []).2).2=0 then 0 else 20) else (lH d d.2.2.2.2.1 0 [] []).1
def B2 (d:aB):Bool:=d.2.2.2.2.1.all (λk=>decide ((j9 k).length<=140737488355328)&&decide ((iA k).length<=140737488355328))&&decide (d.2.2.2.2.1.length<=64)
def nY (a b:iII):cK a b=true↔a.data.toList<b.data.toList:=by
 unfold cK;rw[bytesLess_eq,decide_eq_true_iff]
def AO8 {a b:iII} (h:(!(cK b a||decide (b=a)))=true):a.data.toList<b.data.toList:=by
 simp only[Bool.not_eq_true',Bool.or_eq_false_iff,decide_eq_false_iff_not] at h;refine Classical.byContradiction λhc=>h.2 ?_;have h1:¬ b.data.toList<a.data.toList:=λh'=>by rw[(nY b a).2 h'] at h;exact absurd h.1 (by decide)
 have e:b.data.toList=a.data.toList:=List.le_antisymm (not_lt.1 hc) (not_lt.1 h1);exact ByteArray.ext (Array.ext' e)
def QN:∀ {l:List iII},pY l=true->l.Pairwise λa b=>a.data.toList<b.data.toList
 | [],_=>List.Pairwise.nil
 | [a],_=>by simp
 | a::b::l,h=>by
  rw[pY,ac] at h;have h1:=AO8 h.1;have ih:=QN h.2;refine pairwise_cons.2 ⟨λx hx=>?_,ih⟩;rcases mem_cons.1 hx with rfl|hx
  ·exact h1
  ·exact List.lt_trans h1 ((pairwise_cons.1 ih).1 x hx)
def VN {l:List iII} (h:pY l=true):l.Nodup:=by
 refine (QN h).imp λ{a b} hab e=>?_;subst e;exact List.lt_irrefl _ hab
def AP3:∀ {l m:List iII},l.Nodup->(∀ x∈l,x∈m)->l.length<=m.length
 | [],_,_,_=>Nat.zero_le _
 | a::l,m,h,hm=>by
  obtain ⟨h1,h2⟩:=pairwise_cons.1 h;have h3:l.length<=(m.filter λx=>decide (x≠a)).length:=AP3 h2 λx hx=>List.mem_filter.2 ⟨hm x (List.mem_cons_of_mem _ hx),ai λe=>h1 x hx e.symm⟩;have h4:(m.filter λx=>decide (x≠a)).length<m.length:=List.length_filter_lt_length_iff_exists.2 ⟨a,hm a am,by simp⟩;rw[length_cons];omega
def vL (x:aB×MP×MP×MP×MP):Option T:=match B2 x.1 with
 | true=>xU x (T.v (Value.int .i64 (jC x.1)))
 | false=>none
def uS:List T->Option (T):=gA (λ(x:aB×List aE×List aE×List aE×List aE)=>o6 x.1 x.2.1 x.2.2.1 x.2.2.2.1 x.2.2.2.2) vL
def AE4 (a0:aB) (m1:List aE) (m2:List aE) (m3:List aE) (m4:List aE):uS (o6 a0 m1 m2 m3 m4)=vL (a0,m1,m2,m3,m4):=gG (A:=(λ(x:aB×List aE×List aE×List aE×List aE)=>o6 x.1 x.2.1 x.2.2.1 x.2.2.2.1 x.2.2.2.2)) YQ (a0,m1,m2,m3,m4)
def AV8 (h:∀ (a0:aB) (m1:List aE) (m2:List aE) (m3:List aE) (m4:List aE) (r:T),vL (a0,m1,m2,m3,m4)=some r->(∀ t∈o6 a0 m1 m2 m3 m4,Bd t)->PD a0 m1 m2 m3 m4 (λy=>y=r)):aP Tryz.prog 91 uS :=
 cZ (E:=O4) (Hs:=ADN) AIU aY a6 (aO rfl) 8 ⟨_,_,Tryz.func91,rfl⟩ λx r h1 h2=>by
  rw[ADF];exact h x.1 x.2.1 x.2.2.1 x.2.2.2.1 x.2.2.2.2 r h1 h2
variable {A:Prop}
def BOD {id:iII} {l:List (iII×α)} {B:Nat->Int->Prop} (hA:fS (jK (ids l)) id=none->l.find? (λs=>decide (s.1=id))=none->A) (hB:∀ i k (h:k<l.length),fS (jK (ids l)) id=some (k:Int)->l.find? (λs=>decide (s.1=id))=some l[k]->B i (k:Int)) :
  iF TypeDesc.string (Value.string id) (sA (bS (jK (ids l)))) false (Sy.int IntKind.i64) A B:=by
 rw[AGV];refine wE (r:=.int .i64) (λh=>?_) λi v h=>?_
 ·rcases HE id l with ⟨h1,h2⟩|⟨k,hk,h1,_⟩
  ·exact hA h1 h2
  ·rw[h] at h1;cases h1
 ·rcases HE id l with ⟨h1,_⟩|⟨k,hk,h1,h2⟩
  ·rw[h] at h1;cases h1
  ·rw[h] at h1;cases h1;exact hB i k hk h h2
def BOE {l:List iII} {b:iII} (hl:l.length<=140737488355328) (hyes:l.getLast? = some b->A) (hno:¬ l.getLast? = some b->A) {R2:Prop} (hR2:¬ l.getLast? = some b->R2) {K:Prop} (hK:l.getLast? = some b->K) :
  aC (decide (((List.map Sy.str.enc l).length:Int)=0)) R2 (aR Sy.str (List.map Sy.str.enc l) (i64.wrap (((List.map Sy.str.enc l).length:Int)-1)) λ(y:iII)=>aC (!decide (y=b)) R2 K):=by
 rw[ae];refine cA (λh=>hR2 ?_) λh=>?_
 ·have:l=[]:=List.length_eq_zero_iff.1 (by omega);rw[this];simp
 ·have h1:l.length-1<l.length:=by omega
  rw[bG _ (by omega) (by omega),show ((l.length:Int)-1)=((l.length-1:Nat):Int) by omega,bE (r:=.str) h1];have e:l.getLast? = some l[l.length-1]:=by rw[List.getLast?_eq_getElem?,getElem?_eq_getElem h1]
  refine lF (λh=>hR2 ?_) λh=>hK ?_
  ·rw[e];intro h';exact h (Option.some.inj h')
  ·rw[e];exact congrArg some h
def BO4 {es:List (iII×Bool)} {S:List iII} {id:iII} {R7:Prop} {K:List (iII×Bool)->Prop} (hS:Seen es (λx=>x∈S)) (h7:id∈S->R7) (hK:∀ es',id∉S->Seen es' (λx=>x∈id::S)->K es') :
  iF TypeDesc.string (Value.string id) (List.map (b6 Sy.str false Sy.bool) es) false Sy.bool
   (eT (Option (Nat×D)) (findD TypeDesc.string (Value.string id) (List.map (b6 Sy.str false Sy.bool) es) 0) λ(y24:Option (Nat×D)) =>
    cV Sy.str false Sy.bool (eP (List.map (b6 Sy.str false Sy.bool) es) y24 (Value.string id) (D.p (T.v (.bool true)))) λ(y25:List (iII×Bool))=>K y25)
   λ(i20:Nat) (y21:Bool)=>aC y21 R7
    (eT (Option (Nat×D)) (findD TypeDesc.string (Value.string id) (List.map (b6 Sy.str false Sy.bool) es) 0) λ(y22:Option (Nat×D)) =>
     cV Sy.str false Sy.bool (eP (List.map (b6 Sy.str false Sy.bool) es) y22 (Value.string id) (D.p (T.v (.bool true)))) λ(y23:List (iII×Bool))=>K y23):=by
 refine wE (r:=.bool) (λhno=>?_) λj b hb=>?_
 ·refine APX (r:=.bool) rfl (es:=es) (k:=id) (v:=true) (hK _ (λh=>?_) ((hS.ins id).congr λx=>?_))
  ·have:=(hS.2 id).2 h;rw[hno] at this;cases this
  ·rw[mem_cons];exact ⟨λh=>h.symm.imp_left Eq.symm,λh=>h.symm.imp_right Eq.symm⟩
 ·have:=hS.1 _ _ hb;subst this;rw[j8];exact h7 ((hS.2 _).1 hb)
def AT8:aP Tryz.prog 91 uS:=AV8 λd m1 m2 m3 m4 r h hb=>by
 unfold vL at h;split at h
 case h_2=>cases h
 rename_i hok;replace hok:B2 d=true:=hok;obtain ⟨hx,hs,rfl⟩:=pH h;simp only[Prod.mk.injEq,true_and] at hx;obtain ⟨rfl,rfl,rfl,rfl⟩:=hx;replace hs:oJ d:=hs;clear h hb;simp only[B2,ac,ah,all_eq_true] at hok;obtain ⟨hkp,hka⟩:=hok;have hkq:=λk hk=>(hkp k hk).2;replace hkp:=λk hk=>(hkp k hk).1;have hlk:=hs.k;have is:∀ {n:Int},jC d=n->T.v (.int .i64 n)=T.v (.int .i64 (jC d)):=λh=>by rw[h]
 unfold PD BSL BSB BR9 BRM BR0 BRJ BRH BSA BRD BRC BQ8 BRF BQ3 BQZ BQY BQU BQT BQR BQQ BQP BQN;refine kJ (r:=.bool) rfl [] _ ?_;refine bM d.2.2.2.2.1.length (λk s=>∃ S,s.2.2.1=(k:Int)/\Seen s.2.1 (λx=>x∈S)/\s.1.length<=64*k/\lH d (d.2.2.2.2.1.drop k) k s.1 S=lH d d.2.2.2.2.1 0 [] []) ⟨[],rfl,Seen.nil.congr (by simp),by simp,rfl⟩ ?_;rintro X k ⟨E,es,i,u⟩ hk ⟨S,rfl,hseen,hlen,hr⟩ hX;dsimp only at hseen hlen hr ⊢;refine cA (λhlt=>?_) λhge=>?_
 ·rw[ae] at hlt;have hlt:k<d.2.2.2.2.1.length:=by omega
  rw[bE (r:=aH) hlt];rw[drop_eq_getElem_cons hlt] at hr;have hmem:=ak hlt;have hp1:=hkp _ hmem;have hp2:=hkq _ hmem;generalize hy:d.2.2.2.2.1[k]=y at hr hp1 hp2 ⊢;rw[lH] at hr;have bad:∀ {n:Int},n≠0->(lH d d.2.2.2.2.1 0 [] []).1=n->T.v (.int .i64 n)=T.v (.int .i64 (jC d)):=λhn h=>by
   refine is ?_;unfold jC;rw[if_neg (by rw[h];exact hn),h]
  have badH:∀ {n:Int},n≠0->vB d y=n->T.v (.int .i64 n)=T.v (.int .i64 (jC d)):=λhn h=>by
   refine bad hn ?_;rw[if_pos (by rw[h];exact hn)] at hr;rw[<-hr];exact h
  rw[oN];refine fJ (λh=>badH (by decide) (by unfold vB;rw[if_pos h])) λi1=>?_;refine aF (s:=[(false,.bool)]) (R6 hs _) ?_;refine fJ (λh=>badH (by decide) (by unfold vB;rw[if_neg (by rw[i1];decide),if_pos h])) λi2=>?_;have n1:¬ pS y.1=false:=by rw[i1];decide
  have n2:¬ qB d y.2.1=false:=by rw[i2];decide
  refine cA (λh=>badH (by decide) (by unfold vB;rw[if_neg n1,if_neg n2,if_pos (.inl h)])) λh3=>?_;refine cA (λh=>badH (by decide) (by unfold vB;rw[if_neg n1,if_neg n2,if_pos (.inr h)])) λh4=>?_;have n3:¬ (AA2 y<1\/10000<AA2 y):=by rintro (h|h);exact h3 h;exact h4 h
  refine aF (s:=[(false,.any)]) (W8 (a0:=j9 y)) ?_;refine OG (b:=pY (j9 y)) (by rw[ae];exact A5S hp1) _ ?_;refine fJ (λh=>badH (by decide) (by unfold vB;rw[if_neg n1,if_neg n2,if_neg n3,if_pos (.inl h)])) λh5=>?_;refine aF (s:=[(false,.any)]) (W8 (a0:=iA y)) ?_;refine OG (b:=pY (iA y)) (by rw[ae];exact A5S (l:=iA y) hp2) _ ?_;refine fJ (λh=>badH (by decide) (by unfold vB;rw[if_neg n1,if_neg n2,if_neg n3,if_pos (.inr h)])) λh6=>?_;have hh:vB d y=0:=by unfold vB;rw[if_neg n1,if_neg n2,if_neg n3,if_neg];rintro (h|h);(rw[h5] at h;cases h);(rw[h6] at h;cases h)
  have hnd:=VN h6;clear badH n1 n2 n3 h3 h4 h5 h6 i1 i2;rw[if_neg (λh=>h hh)] at hr;refine kJ (r:=.bool) rfl es _ ?_;refine bM (j9 y).length (λj s=>∃ S',s.1=(j:Int)/\Seen s.2.1 (λx=>x∈S')/\instE d y.2.1 ((j9 y).drop j) S'=instE d y.2.1 (j9 y) S) ⟨S,rfl,hseen,rfl⟩ ?_;rintro Y j ⟨i,es',u⟩ hj ⟨S',rfl,hseen',hi⟩ hY;dsimp only at hseen' hi ⊢;refine cA (λhjl=>?_) λhjl=>?_
  ·rw[ae] at hjl;replace hjl:(j:Int)<((j9 y).length:Int):=hjl;have hjl:j<(j9 y).length:=by omega
   rw[bE (r:=.str) hjl];rw[drop_eq_getElem_cons hjl,instE] at hi;have badI:∀ {n:Int},n≠0->(instE d y.2.1 (j9 y) S).1=n->T.v (.int .i64 n)=T.v (.int .i64 (jC d)):=λhn h=>by
    refine bad hn ?_;rw[if_pos (by rw[h];exact hn)] at hr;rw[<-hr];exact h
   have hw:i64.wrap ((j:Int)+1)=((j+1:Nat):Int):=bG _ (by omega) (by omega);generalize (j9 y)[j]=id at hi ⊢;refine BOD (λ_ hn=>badI (by decide) ?_) λi q hq _ hn=>?_
   ·have hn:partOf d id=none:=hn;rw[hn] at hi;rw[<-hi]
   ·have hn:partOf d id=some d.2.2.1[q]:=hn;rw[hn] at hi;rw[bE (r:=aN) hq];obtain ⟨p,hp⟩:∃ p,p=d.2.2.1[q]:=⟨_,rfl⟩
    rw[<-hp] at hi hn ⊢;dsimp only at hi;have fin:¬ (¬ gX p=4/\¬ gX p=3)->aJ [(false,Sy.str.li),(false,Sy.bool)]
      (lY (nH d (jK (ids d.2.1)) (jK (ids d.2.2.1)) (jK (ids d.2.2.2.1)) (jK (ids d.2.2.2.2.1)) (oG p))) λ(y18:List iII×Bool) =>
      aC (decide (((List.map Sy.str.enc y18.1).length:Int)=0)) (T.v (.int .i64 2)=T.v (.int .i64 (jC d)))
       (aR Sy.str (List.map Sy.str.enc y18.1) (i64.wrap (((List.map Sy.str.enc y18.1).length:Int)-1)) λ(y19:iII) =>
        aC (!decide (y19=y.2.1)) (T.v (.int .i64 2)=T.v (.int .i64 (jC d)))
        (iF TypeDesc.string (Value.string id) (List.map (b6 Sy.str false Sy.bool) es') false Sy.bool
         (eT (Option (Nat×D)) (findD TypeDesc.string (Value.string id) (List.map (b6 Sy.str false Sy.bool) es') 0) λ(y24:Option (Nat×D)) =>
          cV Sy.str false Sy.bool (eP (List.map (b6 Sy.str false Sy.bool) es') y24 (Value.string id) (D.p (T.v (.bool true)))) λ(y25:List (iII×Bool))=>Y (i64.wrap ((j:Int)+1),y25,()))
         λ(i20:Nat) (y21:Bool)=>aC y21 (T.v (.int .i64 7)=T.v (.int .i64 (jC d)))
          (eT (Option (Nat×D)) (findD TypeDesc.string (Value.string id) (List.map (b6 Sy.str false Sy.bool) es') 0) λ(y22:Option (Nat×D)) =>
           cV Sy.str false Sy.bool (eP (List.map (b6 Sy.str false Sy.bool) es') y22 (Value.string id) (D.p (T.v (.bool true)))) λ(y23:List (iII×Bool))=>Y (i64.wrap ((j:Int)+1),y23,())))):=by
     intro hk;rw[if_neg hk] at hi;refine aF (s:=[(false,.li .str),(false,.bool)]) (M8 hs _) ?_;have hul:=BLU d (oG p);refine BOE (A:=True) (b:=y.2.1) (by omega) (λ_=>trivial) (λ_=>trivial) (λh=>badI (by decide) ?_) λh=>?_
     ·rw[if_neg h] at hi;rw[<-hi]
     ·rw[if_pos h] at hi;refine BO4 (K:=λes=>Y (i64.wrap ((j:Int)+1),es,())) hseen' (λh7=>badI (by decide) ?_) λes2 h7 hs2=>?_
      ·rw[if_pos (IC.2 h7)] at hi;rw[<-hi]
      ·rw[if_neg (λh=>h7 (IC.1 h))] at hi;rw[hw];exact hY _ hjl ⟨id::S',rfl,hs2,hi⟩
    refine lF (λk4=>?_) λk4=>?_
    ·refine lF (λk3=>badI (by decide) ?_) λk3=>?_
     ·rw[if_pos ⟨k4,k3⟩] at hi;rw[<-hi]
     ·rw[bE (r:=aN) hq,<-hp];exact fin λh=>h.2 k3
    ·rw[bE (r:=aN) hq,<-hp];exact fin λh=>h.1 k4
  ·rw[ae] at hjl;replace hjl:¬ (j:Int)<((j9 y).length:Int):=hjl;have hjl:j=(j9 y).length:=by omega
   subst hjl;rw[drop_length,instE] at hi;rw[<-hi,if_neg (by simp)] at hr;dsimp only at hr;clear hY hi hj;rw[dJ rfl];refine bM (iA y).length (λj s=>s.2.1=(j:Int)/\s.1.length=E.length+j/\(∀ x∈(iA y).take j,x∈ids d.2.2.2.2.1)/\ZO d y.1 k ((iA y).drop j) s.1=ZO d y.1 k (iA y) E) ⟨rfl,by simp,by simp,rfl⟩ ?_;rintro Y j ⟨E',i,u⟩ hj ⟨rfl,hEl,hin,hi⟩ hY;dsimp only at hEl hin hi ⊢;have hjk:j<=64:=by
    have h1:=AP3 (hnd.sublist (List.take_sublist j _)) hin;have h2:(ids d.2.2.2.2.1).length=d.2.2.2.2.1.length:=by simp[ids]
    rw[length_take] at h1;omega
   refine cA (λhjl=>?_) λhjl=>?_
   ·rw[ae] at hjl;replace hjl:(j:Int)<((iA y).length:Int):=hjl;have hjl:j<(iA y).length:=by omega
    rw[bE (r:=.str) hjl];rw[drop_eq_getElem_cons hjl,ZO] at hi;have badA:∀ {n:Int},n≠0->(ZO d y.1 k (iA y) E).1=n->T.v (.int .i64 n)=T.v (.int .i64 (jC d)):=λhn h=>by
     refine bad hn ?_;rw[if_pos (by rw[h];exact hn)] at hr;rw[<-hr];exact h
    have hw:i64.wrap ((j:Int)+1)=((j+1:Nat):Int):=bG _ (by omega) (by omega);have hts:(iA y).take (j+1)=(iA y).take j++[(iA y)[j]]:=List.take_succ_eq_append_getElem hjl;generalize (iA y)[j]=id at hi hts ⊢;refine cA (λh=>badA (by decide) ?_) λh=>?_
    ·rw[if_pos h] at hi;rw[<-hi]
    rw[if_neg h] at hi;refine BOD (λhg _=>badA (by decide) ?_) λi q hq hg hfi=>?_
    ·rw[hg] at hi;rw[<-hi]
    ·rw[hg] at hi;dsimp only at hi;refine ⟨by simp;omega,?_⟩;rw[J4 (r:=aA) rfl E' [T.v (.int .i64 (q:Int)),T.v (.int .i64 (k:Int))] ((q:Int),(k:Int)) rfl,hw];refine hY _ hjl ⟨rfl,by simp only[List.length_append,length_cons,List.length_nil];omega,λx hx=>?_,hi⟩;rw[hts] at hx;rcases mem_append.1 hx with hx|hx
     ·exact hin x hx
     ·have hx:x=id:=by simpa using hx
      subst hx;have h9:=List.find?_some hfi;exact List.mem_map.2 ⟨_,ak hq,of_decide_eq_true h9⟩
   ·rw[ae] at hjl;replace hjl:¬ (j:Int)<((iA y).length:Int):=hjl;have hjl:j=(iA y).length:=by omega
    subst hjl;rw[drop_length,ZO] at hi;rw[<-hi,if_neg (by simp)] at hr;dsimp only at hr;rw[dJ rfl];refine kJ (r:=.bool) rfl es' _ ?_;refine hX _ hlt ⟨S',?_,hseen',?_,?_⟩
    ·show i64.wrap ((k:Int)+1)=_;rw[bG]<;>omega
    ·show E'.length<=_;omega
    ·rw[<-hr];rfl
 ·rw[ae] at hge;have hkl:k=d.2.2.2.2.1.length:=by omega
  subst hkl;rw[drop_length,lH] at hr;have w:jC d=if (mR d.2.2.2.2.1.length E).2=0 then 0 else 20:=by
   unfold jC;rw[<-hr,if_pos rfl]
  refine aF (s:=[(false,.li (.int .i64)),(false,.int .i64)]) (y:=mR d.2.2.2.2.1.length E) (by rw[ae];exact (AL1 ..).trans (kQ (l:=E) _ (by omega))) ?_;exact lF (λh=>is (by rw[w,if_neg h])) λh=>is (by rw[w,if_pos h])
def OC {a:Option MP} {es:MP} {K:MP->Prop} (h:a=some es) (hk:K es):eT (List (iII×Int)) a K:=⟨es,h,hk⟩
def WM:List T->Option (List (iII×Int)):=AVA
def BIN:lK Tryz.prog 118 (tV WM):=BN3
def BGR:Env:=Env.of [(84,.pure zB),(85,.pure iZ),(118,.AT3 WM),(87,.pure R4),(88,.pure yW),(89,.pure uT),(90,.pure yX),(91,.pure uS),(92,.pure yV)]
def BG7:FuncId->Hint:=λ_=>bA
def AZE:aU Tryz.prog BGR:=.cons AUD (.cons BO (.cons BIN (.cons BC8 (.cons AT5 (.cons AT9 (.cons AT6 (.cons AT8 (.cons AT4 (.nil _)))))))))
def BRP(a0:aB):List T:=[T.ref [T.ref [T.sl false (BRF a0), T.sl false (BQ8 a0), T.sl false (BRD a0), T.sl false (BRC a0), T.sl false (BRH a0), pPQ a0.1].reverse].reverse]
def AJS(a0:aB)(a1:aI)(R:T->Prop):Prop:=aJ BQO (zB [aG true aK a1]) λ(y0:Int)=>aC (!decide (y0=0)) (R (BR2 y0)) (aJ BQP (iZ [pPQ a0.1]) λ(y1:Bool)=>aC (!y1) (R BQY) (eT (List aE) (WM [T.fn 119 [].reverse (BRP a0).reverse, pPP (↑(BRH a0).length:Int)].reverse) λ(y2:List aE)=>eT (List aE) (WM [T.fn 120 [].reverse (BRP a0).reverse, pPP (↑(BRC a0).length:Int)].reverse) λ(y3:List aE)=>eT (List aE) (WM [T.fn 121 [].reverse (BRP a0).reverse, pPP (↑(BRD a0).length:Int)].reverse) λ(y4:List aE)=>eT (List aE) (WM [T.fn 122 [].reverse (BRP a0).reverse, pPP (↑(BQ8 a0).length:Int)].reverse) λ(y5:List aE)=>aJ BQO (R4 [T.ref [T.ref (BSB a0), T.mp (bS y2),T.mp (bS y3),T.mp (bS y4), T.mp (bS y5)]]) λ(y6:Int)=>aC (!decide (y6=0)) (R (BR2 y6)) (aJ BQO (yW [T.ref [T.ref (BRJ a0), T.mp (bS y2),T.mp (bS y3),T.mp (bS y4), T.mp (bS y5)]]) λ(y7:Int)=>aC (!decide (y7=0)) (R (BR2 y7)) (aJ BQO (uT [T.ref [T.ref (BRJ a0), T.mp (bS y2),T.mp (bS y3),T.mp (bS y4), T.mp (bS y5)], aG true aK a1]) λ(y8:Int)=>aC (!decide (y8=0)) (R (BR2 y8)) (aJ BQO (yX [T.ref (BR9 a0 y2 y3 y4 y5)]) λ(y9:Int)=>aC (!decide (y9=0)) (R (BR2 y9)) (aJ BQO (uS [T.ref (BR9 a0 y2 y3 y4 y5)]) λ(y10:Int)=>aC (!decide (y10=0)) (R (BR2 y10)) (aJ BQO (yV [T.ref (BR9 a0 y2 y3 y4 y5)]) λ(y11:Int)=>R (BR2 y11))))))))
abbrev ANN:Sh:=[(true,aD),(true,aK)]
def fK (d:aB) (m:aI):Int:=if ¬ DT m=0 then DT m else if isName d.1=false then 6 else if ¬ pA d=0 then pA d else if ¬ kO d=0 then kO d else if ¬ kS d m=0 then kS d m else if ¬ cJ (r4 d) d.2.2.2.1=0 then cJ (r4 d) d.2.2.2.1 else if ¬ jC d=0 then jC d else cJ (vG d) d.2.2.2.2.2
def OI (x:aB×aI):Option T:=some (T.v (Value.int .i64 (fK x.1 x.2)))
def dB:List T->Option T:=gS ANN OI
def gU {a0 a1}:dB [aG true aD a0,aG true aK a1]=OI (a0,a1):=bH (s:=ANN) rfl (a0,a1) rfl
def BEL:qU Tryz.prog 65 dB OI (cG ANN) AJS:=gV (a1:=(true,aD)) (a2:=(true,aK)) (sp:=OI) (F:=AJS) (Hs:=BG7) (f:=65) (k:=8) AZE aY a6 (aO rfl) ⟨_,_,Tryz.func65,rfl⟩ rfl λ_ _ _=>by kernel_rfl
def BD0 (h:DT m=0):okM m=true:=by
 unfold DT at h;split at h
 ·cases h
 rename_i h1;split at h
 ·rename_i h2;exact absurd h h2
 rename_i h2;have h2:cJ (zO m) (range m.1.length)=0:=Classical.byContradiction h2;simp only[okM,ac,ah,all_eq_true];refine ⟨⟨by omega,by omega⟩,λg hg=>?_⟩;obtain ⟨i,hi,rfl⟩:=List.mem_iff_getElem.1 hg;have h3:=kK h2 i (List.mem_range.2 hi);unfold zO at h3;rw[wP hi] at h3;have h4:j7 m.1[i]=0:=by
  refine Classical.byContradiction λhc=>?_;rw[if_pos hc] at h3;exact hc h3
 unfold j7 at h4;split at h4
 ·cases h4
 split at h4
 ·cases h4
 split at h4
 ·cases h4
 split at h4
 ·cases h4
 ·omega
def BCC {d:aB} (hs:oJ d) (hm:okM m=true):uT (o7 d (jK (ids d.2.1)) (jK (ids d.2.2.1)) (jK (ids d.2.2.2.1)) (jK (ids d.2.2.2.2.1)) m)=some (T.v (Value.int .i64 (kS d m))):=by
 rw[AE5];unfold vM;dsimp only;rw[hm];exact pJ hs _
def BCB {d:aB} (hs:oJ d) (hk:B2 d=true):uS (o6 d (jK (ids d.2.1)) (jK (ids d.2.2.1)) (jK (ids d.2.2.2.1)) (jK (ids d.2.2.2.2.1)))=some (T.v (Value.int .i64 (jC d))):=by
 rw[AE4];unfold vL;dsimp only;rw[hk];exact pJ hs _
def lA:aP Tryz.prog 65 dB:=BEL λd m r h hb=>by
 cases h;have hd:BdS aD d:=hb.1;have hs:oJ d:=⟨hd.2.1.1,hd.2.2.1.1,hd.2.2.2.1.1,hd.2.2.2.2.1.1,hd.2.2.2.2.2.1⟩
 have hkl:∀ k∈d.2.2.2.2.1,(j9 k).length<=140737488355328/\(iA k).length<=140737488355328:=λk hk=>by
  have h:=hd.2.2.2.2.1.2 k hk;exact ⟨h.2.2.1.1,h.2.2.2.2.1⟩
 clear hd;have is:∀ {n:Int},fK d m=n->pPP n=pPP (fK d m):=λh=>by rw[h]
 unfold AJS BSB BR9 BRP BRJ BRH BRD BRC BQ8 BRF BR2 BQY BQP BQO;refine aF (s:=[(false,.int .i64)]) (y:=DT m) (AFD ..) ?_;refine lF (λh=>is (by unfold fK;rw[if_pos h])) λh0=>?_;have hm:=BD0 h0;refine aF (s:=[(false,.bool)]) (y:=isName d.1) yZ ?_;have n0:¬ ¬ DT m=0:=λh=>h h0;refine fJ (λh=>is (by unfold fK;rw[if_neg n0,if_pos h])) λhn=>?_;have n1:¬ isName d.1=false:=by rw[hn];decide
 refine OC (es:=jK (ids d.2.1)) (by rw[ae];exact BI9 hs.n) ?_;refine OC (es:=jK (ids d.2.2.1)) (by rw[ae];exact BJA hs.p) ?_;refine OC (es:=jK (ids d.2.2.2.1)) (by rw[ae];exact BJB hs.s) ?_;refine OC (es:=jK (ids d.2.2.2.2.1)) (by rw[ae];exact BJC hs.k) ?_;refine aF (s:=[(false,.int .i64)]) (y:=pA d) ((AU9 ..).trans (pJ hs _)) ?_;refine lF (λh=>is (by unfold fK;rw[if_neg n0,if_neg n1,if_pos h])) λh1=>?_;have n2:¬ ¬ pA d=0:=λh=>h h1;have hk:B2 d=true:=by
  simp only[B2,ac,ah,all_eq_true];refine ⟨hkl,?_⟩;have hlong:oB d=false:=by
   rw[Bool.eq_false_iff];intro h;unfold pA at h1;rw[if_pos h] at h1;cases h1
  simp only[oB,Bool.or_eq_false_iff,decide_eq_false_iff_not] at hlong;omega
 refine aF (s:=[(false,.int .i64)]) (y:=kO d) ((AE1 ..).trans (pJ hs _)) ?_;refine lF (λh=>is (by unfold fK;rw[if_neg n0,if_neg n1,if_neg n2,if_pos h])) λh2=>?_;have n3:¬ ¬ kO d=0:=λh=>h h2;refine aF (s:=[(false,.int .i64)]) (y:=kS d m) (BCC hs hm) ?_;refine lF (λh=>is (by unfold fK;rw[if_neg n0,if_neg n1,if_neg n2,if_neg n3,if_pos h])) λh3=>?_;have n4:¬ ¬ kS d m=0:=λh=>h h3;refine aF (s:=[(false,.int .i64)]) (y:=cJ (r4 d) d.2.2.2.1) ((AE2 ..).trans (pJ hs _)) ?_;refine lF (λh=>is (by unfold fK;rw[if_neg n0,if_neg n1,if_neg n2,if_neg n3,if_neg n4,if_pos h])) λh4=>?_;have n5:¬ ¬ cJ (r4 d) d.2.2.2.1=0:=λh=>h h4;refine aF (s:=[(false,.int .i64)]) (y:=jC d) (BCB hs hk) ?_;refine lF (λh=>is (by unfold fK;rw[if_neg n0,if_neg n1,if_neg n2,if_neg n3,if_neg n4,if_neg n5,if_pos h])) λh5=>?_;have n6:¬ ¬ jC d=0:=λh=>h h5;refine aF (s:=[(false,.int .i64)]) (y:=cJ (vG d) d.2.2.2.2.2) ((AE0 ..).trans (pJ hs _)) ?_;exact is (by unfold fK;rw[if_neg n0,if_neg n1,if_neg n2,if_neg n3,if_neg n4,if_neg n5,if_neg n6])
def j2 (after:α->α->Bool) (l:List α) (x:α):List α:=l.take (l.findIdx λy=>after y x)++x::l.drop (l.findIdx λy=>after y x)
def fV (is:α->Bool) (l:List α):List α:=l.take (l.findIdx is)++l.drop (l.findIdx is+1)
variable {after:α->α->Bool}{y:α}
def vC {l:List α} {x:α}:y∈j2 after l x↔y=x\/y∈l:=by
 unfold j2;rw[mem_append,mem_cons];constructor
 ·rintro (h|h|h)
  ·exact .inr (List.mem_of_mem_take h)
  ·exact .inl h
  ·exact .inr (List.mem_of_mem_drop h)
 ·rintro (h|h)
  ·exact .inr (.inl h)
  ·rw[<-List.take_append_drop (l.findIdx λy=>after y x) l,mem_append] at h;rcases h with h|h
   ·exact .inl h
   ·exact .inr (.inr h)
variable {is:α->Bool}
def GL {l:List α} (h:y∈fV is l):y∈l:=by
 unfold fV at h;rcases mem_append.1 h with h|h
 ·exact List.mem_of_mem_take h
 ·exact List.mem_of_mem_drop h
def A50 {l:List α} {x:α}:(j2 after l x).length=l.length+1:=by
 unfold j2;have:l.findIdx (λy=>after y x)<=l.length:=List.findIdx_le_length;rw[List.length_append,length_cons,length_take,List.length_drop];omega
def AEH {l:List α}:(fV is l).length<=l.length:=by
 unfold fV;rw[List.length_append,length_take,List.length_drop];omega
def VS {β:Type} {f:α->β} {l:List α} (hn:(l.map f).Nodup) (his:∀ x y,is x=true->is y=true->f x=f y):∀ y∈fV is l,is y=false:=by
 induction l with
 | nil=>intro y h;simp[fV] at h
 | cons a l ih =>
  obtain ⟨h1,h2⟩:=pairwise_cons.1 (show (f a::l.map f).Nodup from hn);intro y hy;unfold fV at hy;rw[List.findIdx_cons] at hy;cases ha:is a with
  | true =>
   rw[ha] at hy;simp only[cond_true,List.take_zero,List.nil_append,Nat.zero_add,List.drop_succ_cons,drop_zero] at hy;cases hb:is y with
   | false=>rfl
   | true=>exact absurd (his a y ha hb) (h1 _ (List.mem_map.2 ⟨y,hy,rfl⟩))
  | false =>
   rw[ha] at hy;simp only[cond_false,List.take_succ_cons,List.drop_succ_cons,List.cons_append,mem_cons] at hy;rcases hy with rfl|hy
   ·exact ha
   ·exact ih h2 y hy
abbrev BPK:Type:=iII×iII×bR×a8×bU×aQ×bI
abbrev pP:Type:=aB×aI×BPK
abbrev fC (x:aV):iII:=x.2.1
abbrev eTo (x:aV):iII:=x.2.2.1
abbrev pZ (x:aV):bR:=x.2.2.2.1
abbrev cQ (x:aV):a8:=x.2.2.2.2.1
abbrev p8 (x:aV):bU:=x.2.2.2.2.2.1
abbrev iN (x:aV):aQ:=x.2.2.2.2.2.2.1
abbrev gF (x:aV):bI:=x.2.2.2.2.2.2.2
def oQ:iII:=⟨#[]⟩
def qF:bI:=(0,⟨#[]⟩,⟨#[]⟩)
def nF:aB:=(⟨#[]⟩,[],[],[],[],[])
def bY (x:aV):aV :=
 if x.1=1 then (x.1,oQ,oQ,pZ x,eJ,iT,noPack,qF)
 else if x.1=3\/x.1=5 then (x.1,oQ,oQ,iS,cQ x,iT,noPack,qF)
 else if x.1=6 then (x.1,fC x,eTo x,iS,eJ,iT,noPack,qF)
 else if x.1=7 then (x.1,oQ,oQ,iS,eJ,p8 x,noPack,qF)
 else if x.1=9 then (x.1,oQ,oQ,iS,eJ,iT,iN x,qF)
 else if x.1=11\/x.1=12 then (x.1,oQ,oQ,iS,eJ,iT,noPack,gF x)
 else (x.1,fC x,oQ,iS,eJ,iT,noPack,qF)
def dY (d:aB) (x:aV):Bool :=
 if x.1=1 then (eV d (pZ x).1).isSome
 else if x.1=2 then (eV d (fC x)).isSome
 else if x.1=3\/x.1=5 then (partOf d (cQ x).1).isSome
 else if x.1=4\/x.1=6 then (partOf d (fC x)).isSome
 else if x.1=7 then (pW d (p8 x).1).isSome
 else if x.1=8 then (pW d (fC x)).isSome
 else if x.1=9 then (jB d (iN x).1).isSome
 else if x.1=10 then (jB d (fC x)).isSome
 else d.2.2.2.2.2.any λn=>decide (n=gF x)
def lL (x:aV):Bool:=decide (x.1=1)||decide (x.1=3)||decide (x.1=7)||decide (x.1=9)||decide (x.1=11)
def gtS (a b:iII):Bool:=cK b a
def dR (a b:iII×α):Bool:=gtS a.1 b.1
def ER (a b:bI):Bool:=ltN b a
def q9 (a:iII):cK a a=false:=by
 rw[Bool.eq_false_iff];intro h;exact List.lt_irrefl _ ((nY a a).1 h)
def AB4 {a b c:iII} (h1:cK a b=true) (h2:cK b c=true):cK a c=true:=(nY a c).2 (List.lt_trans ((nY a b).1 h1) ((nY b c).1 h2))
def AP6 (a:bI):ltN a a=false:=by
 unfold ltN;rw[q9,q9,aj (Int.lt_irrefl _)];simp
def XH {a b c:bI} (h1:ltN a b=true) (h2:ltN b c=true):ltN a c=true:=by
 unfold ltN at *;simp only[Bool.or_eq_true,ac,ah] at *;rcases h1 with h1|⟨e1,h1⟩
 ·rcases h2 with h2|⟨e2,h2⟩
  ·exact .inl (Int.lt_trans h1 h2)
  ·exact .inl (by omega)
 ·rcases h2 with h2|⟨e2,h2⟩
  ·exact .inl (by omega)
  ·refine .inr ⟨e1.trans e2,?_⟩;rcases h1 with h1|⟨f1,h1⟩
   ·rcases h2 with h2|⟨f2,h2⟩
    ·exact .inl (AB4 h1 h2)
    ·exact .inl (by rw[<-f2];exact h1)
   ·rcases h2 with h2|⟨f2,h2⟩
    ·exact .inl (by rw[f1];exact h2)
    ·exact .inr ⟨f1.trans f2,AB4 h1 h2⟩
def cS (id:iII) (a:iII×α):Bool:=decide (a.1=id)
def AMH (l:List iII) (x:iII):Bool:=l.any λy=>decide (y=x)
def mC (d:aB) (id:iII):Bool:=(d.2.2.1.any λp=>decide (oG p=id))||((d.2.1.any λn=>decide (n.2.2=id))||((d.2.2.2.2.1.any λk=>decide (k.2.1=id))||(d.2.2.2.2.2.any λn=>decide (n.2.1=id)||(decide (n.2.2=id) && !decide (n.1=3)))))
def pN (d:aB) (id:iII):Bool:=(d.2.2.2.1.any λs=>decide (s.2.1=id)||decide (s.2.2.1=id))||(d.2.2.2.2.1.any λk=>AMH k.2.2.1 id)
def r8 (d:aB) (id:iII):Bool:=((fV (cS id) d.2.2.2.2.1).any λk=>AMH k.2.2.2.2 id)||(d.2.2.2.2.2.any λn=>decide (n.1=3)&&decide (n.2.2=id))
def lQ (d:aB) (x:aV):Bool:=if x.1=2 then mC d (fC x) else if x.1=4 then pN d (fC x) else if x.1=10 then r8 d (fC x) else false
def ANL (p old:a8):a8:=(p.1,i64.wrap (old.2.1+1),p.2.2)
def AMV (p:a8) (id:iII):a8:=(p.1,p.2.1,p.2.2.1,id,p.2.2.2.2)
def NW (is:α->Bool) (f:α->α) (l:List α):List α:=l.modify (l.findIdx is) f
def kW (d:aB) (x:aV):aB :=
 if x.1=1 then (d.1,j2 dR d.2.1 (pZ x),d.2.2)
 else if x.1=2 then (d.1,fV (cS (fC x)) d.2.1,d.2.2)
 else if x.1=3 then (d.1,d.2.1,j2 dR d.2.2.1 (cQ x),d.2.2.2)
 else if x.1=4 then (d.1,d.2.1,fV (cS (fC x)) d.2.2.1,d.2.2.2)
 else if x.1=5 then (d.1,d.2.1,NW (cS (cQ x).1) (ANL (cQ x)) d.2.2.1,d.2.2.2)
 else if x.1=6 then (d.1,d.2.1,NW (cS (fC x)) (λp=>AMV p (eTo x)) d.2.2.1,d.2.2.2)
 else if x.1=7 then (d.1,d.2.1,d.2.2.1,j2 dR d.2.2.2.1 (p8 x),d.2.2.2.2)
 else if x.1=8 then (d.1,d.2.1,d.2.2.1,fV (cS (fC x)) d.2.2.2.1,d.2.2.2.2)
 else if x.1=9 then (d.1,d.2.1,d.2.2.1,d.2.2.2.1,j2 dR d.2.2.2.2.1 (iN x),d.2.2.2.2.2)
 else if x.1=10 then (d.1,d.2.1,d.2.2.1,d.2.2.2.1,fV (cS (fC x)) d.2.2.2.2.1,d.2.2.2.2.2)
 else if x.1=11 then (d.1,d.2.1,d.2.2.1,d.2.2.2.1,d.2.2.2.2.1,j2 ER d.2.2.2.2.2 (gF x))
 else (d.1,d.2.1,d.2.2.1,d.2.2.2.1,d.2.2.2.2.1,fV (λn=>decide (n=gF x)) d.2.2.2.2.2)
def bK (d:aB) (m:aI) (x:aV):aB×Int :=
 if ¬ (1<=x.1/\x.1<=12) then (nF,10)
 else if lX x (bY x)=false\/(x.1=5/\¬ (cQ x).2.1=0) then (nF,2)
 else if lL x=true/\dY d x=true then (nF,7)
 else if lL x=false/\dY d x=false then (nF,8)
 else if x.1=5/\¬ oG (found eJ (partOf d (cQ x).1)).1=oG (cQ x) then (nF,2)
 else if lQ d x=true then (nF,34)
 else if fK (kW d x) m=0 then (kW d x,0) else (nF,fK (kW d x) m)
structure uG (d:aB) (m:aI) (x:aV):Prop where
 kind:1<=x.1/\x.1<=12
 plain:x=bY x
 rev:x.1=5->(cQ x).2.1=0
 there:dY d x = !lL x
 node:x.1=5->oG (found eJ (partOf d (cQ x).1)).1=oG (cQ x)
 free:lQ d x=false
 chk:fK (kW d x) m=0
 eq:bK d m x=(kW d x,0)
def Z5 {d:aB} {x:aV} (h:(bK d m x).2=0):uG d m x:=by
 have h0:=h;unfold bK at h;split at h
 ·cases h
 rename_i h1;split at h
 ·cases h
 rename_i h2;split at h
 ·cases h
 rename_i h3;split at h
 ·cases h
 rename_i h4;split at h
 ·cases h
 rename_i h5;split at h
 ·cases h
 rename_i h6;split at h
 ·rename_i h7;have h1:1<=x.1/\x.1<=12:=Classical.byContradiction h1;refine ⟨h1,Classical.byContradiction λhc=>h2 (.inl (yO hc)),λhk=>Classical.byContradiction λhc=>h2 (.inr ⟨hk,hc⟩),?_,λhk=>Classical.byContradiction λhc=>h5 ⟨hk,hc⟩,by simpa using h6,h7,?_⟩
  ·cases ha:lL x<;>cases ht:dY d x
   ·exact absurd ⟨ha,ht⟩ h4
   ·rfl
   ·rfl
   ·exact absurd ⟨ha,ht⟩ h3
  ·unfold bK;rw[if_neg (λh=>h h1),if_neg h2,if_neg h3,if_neg h4,if_neg h5,if_neg h6,if_pos h7]
 ·rename_i h7;exact absurd h h7
def A3X {l:List (iII×α)} (hn:(ids l).Nodup) {id:iII}:((fV (cS id) l).find? λs=>decide (s.1=id)).isSome=false:=by
 cases hf:(fV (cS id) l).find? λs=>decide (s.1=id) with
 | none=>rfl
 | some a =>
  have h1:=List.mem_of_find?_eq_some hf;have h2:=VS (f:=λs:iII×α=>s.1) (is:=cS id) hn (λx y hx hy=>(of_decide_eq_true hx).trans (of_decide_eq_true hy).symm) a h1;have h3:=List.find?_some hf;unfold cS at h2;rw[h3] at h2;cases h2
def BF:∀ {l:List bI},QM l=true->l.Pairwise λa b=>ltN a b=true
 | [],_=>List.Pairwise.nil
 | [a],_=>by simp
 | a::b::l,h=>by
  rw[QM,ac] at h;have ih:=BF h.2;refine pairwise_cons.2 ⟨λy hy=>?_,ih⟩;rcases mem_cons.1 hy with rfl|hy
  ·exact h.1
  ·exact XH h.1 ((pairwise_cons.1 ih).1 y hy)
def AKR {l:List bI} (h:QM l=true):l.Nodup:=by
 refine (BF h).imp λ{a b} hab e=>?_;subst e;rw[AP6] at hab;cases hab
def okS (s:iII):Bool:=decide (s.size<=1099511627776)
def U6 (l:List iII) (x:iII):Bool:=l.any λy=>decide (y=x)
def I4 (x:List iII×iII):Option T:=some (Sh.enc jJ (U6 x.1 x.2))
def A9Z:Env:=Env.of []
def BBI:FuncId->Hint:=b8 22 [(2,.inv [.val 5 false (.int .i64)])] (λ_=>bA)
def AR9:aU Tryz.prog A9Z:=.nil _
def Y4(a0:List iII)(a1:iII)(R:T->Prop):Prop:=bB (Int×PUnit) (λX0 s1=>aC (decide (s1.1<(↑(List.map Sy.str.enc a0).length:Int))) (aR Sy.str (List.map Sy.str.enc a0) s1.1 λ(y2:iII)=>aC (decide (y2=a1)) (R BQR) (BQ9 X0 s1)) (R BQM)) (0,())
abbrev ABN:Sh:=[(false,Sy.str.li),(false,Sy.str)]
def qJ:List T->Option T:=gS ABN I4
def R5 {a0 a1}:qJ [T.sl false (List.map Sy.str.enc a0),pPQ a1]=I4 (a0,a1):=bH (s:=ABN) rfl (a0,a1) rfl
def A68:qU Tryz.prog 22 qJ I4 (cG ABN) Y4:=gV (a1:=(false,Sy.str.li)) (a2:=(false,Sy.str)) (sp:=I4) (F:=Y4) (Hs:=BBI) (f:=22) (k:=8) AR9 aY a6 (aO rfl) ⟨_,_,Tryz.func22,rfl⟩ rfl λ_ _ _=>by kernel_rfl
def AKO {p:α->Bool} {l:List α} {k:Nat} (h:k<l.length):(l.drop k).any p=(p l[k]||(l.drop (k+1)).any p):=by rw[drop_eq_getElem_cons h,List.any_cons]
def AER:aP Tryz.prog 22 qJ:=A68 λl x r h hb=>by
 cases h;have hl:l.length<=2 ^ 47:=hb.1.1;unfold Y4 BQ9 BQR BQM;refine bM l.length (λk s=>s=((k:Int),())/\U6 l x=(l.drop k).any λy=>decide (y=x)) ⟨rfl,rfl⟩ ?_;rintro X k s hk ⟨rfl,he⟩ hX;dsimp only;by_cases hlt:k<l.length
 ·rw[AKO hlt] at he;refine fA (by simp[hlt]) ?_;rw[bE (r:=.str) hlt];by_cases h1:l[k]=x
  ·refine fA h1 ?_;rw[he,ai h1];rfl
  ·refine iE h1 (hX _ hlt ⟨by rw[show i64.wrap ((k:Int)+1)=((k+1:Nat):Int) from bG _ (by omega) (by omega)],?_⟩);rw[he,aj h1,Bool.false_or]
 ·have:k=l.length:=by omega
  subst this;refine iE (by simp) ?_;rw[he,drop_length];rfl
structure BPL (d:aB):Prop where
 few:few d 1000=true
 n:d.2.1.length<=1000
 p:d.2.2.1.length<=1000
 s:d.2.2.2.1.length<=1000
 k:d.2.2.2.2.1.length<=1000
 r:d.2.2.2.2.2.length<=1000
 kl:∀ k∈d.2.2.2.2.1,(j9 k).length<=1000/\(iA k).length<=1000
 NJ:NJ d=true
 LJ:LJ d=true
structure UOk (d:aB):Prop extends BPL d where
 nI:∀ n∈d.2.1,okS n.1=true
 pI:∀ p∈d.2.2.1,okS p.1=true/\okS (oG p)=true
 sI:∀ s∈d.2.2.2.1,okS s.1=true/\okS s.2.1=true/\okS s.2.2.1=true
 kI:∀ k∈d.2.2.2.2.1,okS k.1=true
def rA (a b:iII):(!(cK b a||decide (b=a)))=cK a b:=by
 rw[Bool.eq_iff_iff];refine ⟨λh=>(nY a b).2 (AO8 h),λh=>?_⟩;have h1:=(nY a b).1 h;have h2:cK b a=false:=by
  rw[Bool.eq_false_iff];intro h3;exact List.lt_irrefl _ (List.lt_trans h1 ((nY b a).1 h3))
 have h3:¬ b=a:=λe=>by rw[e] at h1;exact List.lt_irrefl _ h1
 rw[h2,aj h3];rfl
def dk {l:List iII} {rows:List (List T)} {K:List iII->Prop} (e:rows=List.map Sy.str.enc l) (h:K l):dP Sy.str rows K:=by
 subst e;rw[dJ (r:=.str) rfl];exact h
def cY {r:Sy} {l:List r.den} (p:r.den->Bool) {Body:(Int×PUnit->Prop)->Int×PUnit->r.den->Prop} {Fin:Prop} (hl:l.length<=140737488355328)
  (hB:∀ (X:Int×PUnit->Prop) (k:Nat) (y:r.den) (h:k<l.length),l[k]=y->(p y=true->l.findIdx p=k/\l.any p=true)->(p y=false->X (i64.wrap ((k:Int)+1),()))->Body X ((k:Int),()) y)
  (hF:l.findIdx p=l.length->l.any p=false->Fin) :
  bB (Int×PUnit) (λX s=>aC (decide (s.1<((List.map r.enc l).length:Int))) (aR r (List.map r.enc l) s.1 λy=>Body X s y) Fin) (0,()):=by
 refine bM l.length (λk s=>s=((k:Int),())/\∀ i,(h:i<l.length)->i<k->p l[i]=false) ⟨rfl,λi _ h=>by omega⟩ ?_;rintro X k s hk ⟨rfl,he⟩ hX;dsimp only;refine cA (λhlt=>?_) λhge=>?_
 ·rw[ae] at hlt;have hlt:k<l.length:=by omega
  rw[bE (r:=r) hlt];refine hB X k _ hlt rfl (λhp=>⟨?_,List.any_eq_true.2 ⟨_,ak hlt,hp⟩⟩) λhp=>hX _ hlt ⟨?_,λi hi hik=>?_⟩
  ·exact (List.findIdx_eq hlt).2 ⟨hp,λj hj=>he j (by omega) hj⟩
  ·rw[show i64.wrap ((k:Int)+1)=((k+1:Nat):Int) by rw[bG]<;>omega]
  ·rcases Nat.lt_or_ge i k with h|h
   ·exact he i hi h
   ·have:i=k:=by omega
    subst this;exact hp
 ·rw[ae] at hge;have hall:∀ y∈l,p y=false:=λy hy=>by
   obtain ⟨i,hi,rfl⟩:=List.mem_iff_getElem.1 hy;exact he i hi (by omega)
  exact hF (List.findIdx_eq_length_of_false λy hy=>by simpa using hall y hy) (List.any_eq_false.2 λy hy=>by simp[hall y hy])
def pU {n:Nat} (h:n<=1000):n<=140737488355328:=by omega
def yL {l:List α} (h:l.findIdx is=l.length):fV is l=l:=by
 unfold fV;rw[h,List.take_length,List.drop_eq_nil_of_le (by omega),List.append_nil]
def tX {r:Sy} {z b k:Nat} {f:Bool} {l:List r.den} {x:r.den} (hz:r.w=z) (hk:k<=l.length) (hl:l.length<=1000) (hb:b<=1000):AAH z b (List.map r.enc l) [.v (.int .i64 (k:Int)),.sl f [r.enc x]]=some (List.map r.enc (l.take k++x::l.drop k)):=by
 unfold AAH;have hm:(l.length+1)*b<=1001*1000:=Nat.mul_le_mul (by omega) hb;have hc:(decide (0<=(k:Int))&&decide ((k:Int).toNat<=(List.map r.enc l).length)&&decide ((r.enc x).length=z)&&eE z (List.map r.enc l)&&decide (((List.map r.enc l).length+1)*b<=140737488355328)&&decide ((List.map r.enc l).length+1<=140737488355328))=true:=by
  subst hz;simp only[ae,Int.toNat_natCast,Sy.dD,uH,ac,ah,and_true];omega
 dsimp only;rw[hc];simp
def J5 {r:Sy} {z k:Nat} {l:List r.den} (hz:r.w=z) (hk:k<l.length) (hl:l.length<=1000):AAG z (List.map r.enc l) [.v (.int .i64 (k:Int)),.v (.int .i64 (i64.wrap ((k:Int)+1)))]=some (List.map r.enc (l.take k++l.drop (k+1))):=by
 unfold AAG;have hw:i64.wrap ((k:Int)+1)=(k:Int)+1:=by rw[bG]<;>omega
 have hc:(decide (0<=(k:Int))&&decide (i64.wrap ((k:Int)+1)=(k:Int)+1)&&decide ((k:Int).toNat<(List.map r.enc l).length)&&eE z (List.map r.enc l))=true:=by
  subst hz;rw[hw];simp only[ae,Int.toNat_natCast,uH,ac,ah,and_true];omega
 dsimp only;rw[hc];simp
def ACB (x:aV):Option T:=some (Sh.enc [(true,aM)] ((x.1,oQ,oQ,pZ x,eJ,iT,noPack,qF):aV))
def BMJ:Env:=Env.of []
def BM5:FuncId->Hint:=λ_=>bA
def BA1:aU Tryz.prog BMJ:=.nil _
def A0W(a0:aV)(R:T->Prop):Prop:=R (T.agg [pPP a0.1,pPQ ({data:=#[]}), pPQ ({data:=#[]}),pPQ a0.2.2.2.1.1, pPP a0.2.2.2.1.2.1, pPQ a0.2.2.2.1.2.2,pPQ ({data:=#[]}), pPP 0,pPP 0, pPQ ({data:=#[]}),pPQ ({data:=#[]}), pPP 0,T.sl false [],T.sl false [], pPQ ({data:=#[]}),pPP 0, pPP 0,pPP 0, pPP 0,pPP 0, pPP 0,pPP 0, pPP 0,pPP 0, pPQ ({data:=#[]}),pPQ ({data:=#[]}), pPQ ({data:=#[]}),pPP 0, pPP 0,pPP 0, pPQ ({data:=#[]}),pPQ ({data:=#[]}),T.sl false [], pPP 0,T.sl false [],pPP 0, pPQ ({data:=#[]}),pPQ ({data:=#[]})])
abbrev A80:Sh:=[(true,aM)]
def WR:List T->Option T:=gS A80 ACB
def A5D {a0}:WR [aG true aM a0]=ACB (a0):=bH (s:=A80) rfl (a0) rfl
def BKQ:xX Tryz.prog 147 WR ACB (cG A80) A0W:=kC (a1:=(true,aM)) (sp:=ACB) (F:=A0W) (Hs:=BM5) (f:=147) (k:=8) BA1 aY a6 (aO rfl) ⟨_,_,Tryz.func147,rfl⟩ rfl λ_ _=>by kernel_rfl
def BIP:aP Tryz.prog 147 WR:=BKQ λx r h hb=>by
 cases h;unfold A0W;rfl
def ACC (x:aV):Option T:=some (Sh.enc [(true,aM)] ((x.1,fC x,oQ,iS,eJ,iT,noPack,qF):aV))
def BMK:Env:=Env.of []
def BM6:FuncId->Hint:=λ_=>bA
def BA2:aU Tryz.prog BMK:=.nil _
def BQ7(a0:aV):T:=T.agg [pPP a0.1,pPQ a0.2.1, pPQ ({data:=#[]}),pPQ ({data:=#[]}), pPP 0,pPQ ({data:=#[]}), pPQ ({data:=#[]}),pPP 0, pPP 0,pPQ ({data:=#[]}), pPQ ({data:=#[]}),pPP 0,T.sl false [], T.sl false [],pPQ ({data:=#[]}),pPP 0, pPP 0,pPP 0, pPP 0,pPP 0, pPP 0,pPP 0, pPP 0,pPP 0, pPQ ({data:=#[]}),pPQ ({data:=#[]}), pPQ ({data:=#[]}),pPP 0, pPP 0,pPP 0, pPQ ({data:=#[]}),pPQ ({data:=#[]}),T.sl false [], pPP 0,T.sl false [],pPP 0, pPQ ({data:=#[]}),pPQ ({data:=#[]})]
def A0X(a0:aV)(R:T->Prop):Prop:=R (BQ7 a0)
abbrev A81:Sh:=[(true,aM)]
def WT:List T->Option T:=gS A81 ACC
def A5E {a0}:WT [aG true aM a0]=ACC (a0):=bH (s:=A81) rfl (a0) rfl
def BKR:xX Tryz.prog 155 WT ACC (cG A81) A0X:=kC (a1:=(true,aM)) (sp:=ACC) (F:=A0X) (Hs:=BM6) (f:=155) (k:=8) BA2 aY a6 (aO rfl) ⟨_,_,Tryz.func155,rfl⟩ rfl λ_ _=>by kernel_rfl
def BIQ:aP Tryz.prog 155 WT:=BKR λx r h hb=>by
 cases h;unfold A0X BQ7;rfl
def ACD (x:aV):Option T:=some (Sh.enc [(true,aM)] ((x.1,oQ,oQ,iS,cQ x,iT,noPack,qF):aV))
def BML:Env:=Env.of []
def BM7:FuncId->Hint:=λ_=>bA
def BA3:aU Tryz.prog BML:=.nil _
def BRB(a0:aV):T:=T.agg [pPP a0.1,pPQ ({data:=#[]}), pPQ ({data:=#[]}),pPQ ({data:=#[]}), pPP 0,pPQ ({data:=#[]}), pPQ a0.2.2.2.2.1.1, pPP a0.2.2.2.2.1.2.1, pPP a0.2.2.2.2.1.2.2.1, pPQ a0.2.2.2.2.1.2.2.2.1, pPQ a0.2.2.2.2.1.2.2.2.2.1, pPP a0.2.2.2.2.1.2.2.2.2.2.1, T.sl false (List.map aA.enc a0.2.2.2.2.1.2.2.2.2.2.2.1.1), T.sl false (List.map aA.li.enc a0.2.2.2.2.1.2.2.2.2.2.2.1.2), pPQ a0.2.2.2.2.1.2.2.2.2.2.2.2.1, pPP a0.2.2.2.2.1.2.2.2.2.2.2.2.2.1, pPP a0.2.2.2.2.1.2.2.2.2.2.2.2.2.2.1, pPP a0.2.2.2.2.1.2.2.2.2.2.2.2.2.2.2.1.1, pPP a0.2.2.2.2.1.2.2.2.2.2.2.2.2.2.2.1.2.1, pPP a0.2.2.2.2.1.2.2.2.2.2.2.2.2.2.2.1.2.2, pPP a0.2.2.2.2.1.2.2.2.2.2.2.2.2.2.2.2.1.1, pPP a0.2.2.2.2.1.2.2.2.2.2.2.2.2.2.2.2.1.2.1, pPP a0.2.2.2.2.1.2.2.2.2.2.2.2.2.2.2.2.1.2.2, pPP a0.2.2.2.2.1.2.2.2.2.2.2.2.2.2.2.2.2, pPQ ({data:=#[]}),pPQ ({data:=#[]}), pPQ ({data:=#[]}),pPP 0, pPP 0,pPP 0, pPQ ({data:=#[]}),pPQ ({data:=#[]}),T.sl false [], pPP 0,T.sl false [],pPP 0, pPQ ({data:=#[]}),pPQ ({data:=#[]})]
def A0Y(a0:aV)(R:T->Prop):Prop:=R (BRB a0)
abbrev A82:Sh:=[(true,aM)]
def WU:List T->Option T:=gS A82 ACD
def A5F {a0}:WU [aG true aM a0]=ACD (a0):=bH (s:=A82) rfl (a0) rfl
def BKS:xX Tryz.prog 167 WU ACD (cG A82) A0Y:=kC (a1:=(true,aM)) (sp:=ACD) (F:=A0Y) (Hs:=BM7) (f:=167) (k:=8) BA3 aY a6 (aO rfl) ⟨_,_,Tryz.func167,rfl⟩ rfl λ_ _=>by kernel_rfl
def BIR:aP Tryz.prog 167 WU:=BKS λx r h hb=>by
 cases h;unfold A0Y BRB;rfl
def ACE (x:aV):Option T:=some (Sh.enc [(true,aM)] ((x.1,fC x,oQ,iS,eJ,iT,noPack,qF):aV))
def BMM:Env:=Env.of []
def BM8:FuncId->Hint:=λ_=>bA
def BA4:aU Tryz.prog BMM:=.nil _
def A0Z(a0:aV)(R:T->Prop):Prop:=R (BQ7 a0)
abbrev A83:Sh:=[(true,aM)]
def WV:List T->Option T:=gS A83 ACE
def A5G {a0}:WV [aG true aM a0]=ACE (a0):=bH (s:=A83) rfl (a0) rfl
def BKT:xX Tryz.prog 174 WV ACE (cG A83) A0Z:=kC (a1:=(true,aM)) (sp:=ACE) (F:=A0Z) (Hs:=BM8) (f:=174) (k:=8) BA4 aY a6 (aO rfl) ⟨_,_,Tryz.func174,rfl⟩ rfl λ_ _=>by kernel_rfl
def BIS:aP Tryz.prog 174 WV:=BKT λx r h hb=>by
 cases h;unfold A0Z BQ7;rfl
def ACH (x:aV):Option T:=some (Sh.enc [(true,aM)] ((x.1,oQ,oQ,iS,eJ,p8 x,noPack,qF):aV))
def BMP:Env:=Env.of []
def BNB:FuncId->Hint:=λ_=>bA
def BA7:aU Tryz.prog BMP:=.nil _
def A02(a0:aV)(R:T->Prop):Prop:=R (T.agg [pPP a0.1,pPQ ({data:=#[]}), pPQ ({data:=#[]}),pPQ ({data:=#[]}), pPP 0,pPQ ({data:=#[]}), pPQ ({data:=#[]}),pPP 0, pPP 0,pPQ ({data:=#[]}), pPQ ({data:=#[]}),pPP 0,T.sl false [], T.sl false [],pPQ ({data:=#[]}),pPP 0, pPP 0,pPP 0, pPP 0,pPP 0, pPP 0,pPP 0, pPP 0,pPP 0, pPQ a0.2.2.2.2.2.1.1, pPQ a0.2.2.2.2.2.1.2.1, pPQ a0.2.2.2.2.2.1.2.2.1, pPP a0.2.2.2.2.2.1.2.2.2.1, pPP a0.2.2.2.2.2.1.2.2.2.2.1, pPP a0.2.2.2.2.2.1.2.2.2.2.2, pPQ ({data:=#[]}),pPQ ({data:=#[]}),T.sl false [], pPP 0,T.sl false [],pPP 0, pPQ ({data:=#[]}),pPQ ({data:=#[]})])
abbrev A86:Sh:=[(true,aM)]
def WY:List T->Option T:=gS A86 ACH
def A5J {a0}:WY [aG true aM a0]=ACH (a0):=bH (s:=A86) rfl (a0) rfl
def BKW:xX Tryz.prog 195 WY ACH (cG A86) A02:=kC (a1:=(true,aM)) (sp:=ACH) (F:=A02) (Hs:=BNB) (f:=195) (k:=8) BA7 aY a6 (aO rfl) ⟨_,_,Tryz.func195,rfl⟩ rfl λ_ _=>by kernel_rfl
def BIV:aP Tryz.prog 195 WY:=BKW λx r h hb=>by
 cases h;unfold A02;rfl
def ACI (x:aV):Option T:=some (Sh.enc [(true,aM)] ((x.1,fC x,oQ,iS,eJ,iT,noPack,qF):aV))
def BMQ:Env:=Env.of []
def BNC:FuncId->Hint:=λ_=>bA
def BA8:aU Tryz.prog BMQ:=.nil _
def A03(a0:aV)(R:T->Prop):Prop:=R (BQ7 a0)
abbrev A87:Sh:=[(true,aM)]
def WZ:List T->Option T:=gS A87 ACI
def A5K {a0}:WZ [aG true aM a0]=ACI (a0):=bH (s:=A87) rfl (a0) rfl
def BKX:xX Tryz.prog 203 WZ ACI (cG A87) A03:=kC (a1:=(true,aM)) (sp:=ACI) (F:=A03) (Hs:=BNC) (f:=203) (k:=8) BA8 aY a6 (aO rfl) ⟨_,_,Tryz.func203,rfl⟩ rfl λ_ _=>by kernel_rfl
def BIW:aP Tryz.prog 203 WZ:=BKX λx r h hb=>by
 cases h;unfold A03 BQ7;rfl
def ACJ (x:aV):Option T:=some (Sh.enc [(true,aM)] ((x.1,oQ,oQ,iS,eJ,iT,iN x,qF):aV))
def BMR:Env:=Env.of []
def BND:FuncId->Hint:=λ_=>bA
def BA9:aU Tryz.prog BMR:=.nil _
def A04(a0:aV)(R:T->Prop):Prop:=R (T.agg [pPP a0.1,pPQ ({data:=#[]}), pPQ ({data:=#[]}),pPQ ({data:=#[]}), pPP 0,pPQ ({data:=#[]}), pPQ ({data:=#[]}),pPP 0, pPP 0,pPQ ({data:=#[]}), pPQ ({data:=#[]}),pPP 0,T.sl false [], T.sl false [],pPQ ({data:=#[]}),pPP 0, pPP 0,pPP 0, pPP 0,pPP 0, pPP 0,pPP 0, pPP 0,pPP 0, pPQ ({data:=#[]}),pPQ ({data:=#[]}), pPQ ({data:=#[]}),pPP 0, pPP 0,pPP 0, pPQ a0.2.2.2.2.2.2.1.1, pPQ a0.2.2.2.2.2.2.1.2.1, T.sl false (List.map Sy.str.enc a0.2.2.2.2.2.2.1.2.2.1), pPP a0.2.2.2.2.2.2.1.2.2.2.1, T.sl false (List.map Sy.str.enc a0.2.2.2.2.2.2.1.2.2.2.2), pPP 0,pPQ ({data:=#[]}), pPQ ({data:=#[]})])
abbrev A88:Sh:=[(true,aM)]
def W0:List T->Option T:=gS A88 ACJ
def A5L {a0}:W0 [aG true aM a0]=ACJ (a0):=bH (s:=A88) rfl (a0) rfl
def BKY:xX Tryz.prog 215 W0 ACJ (cG A88) A04:=kC (a1:=(true,aM)) (sp:=ACJ) (F:=A04) (Hs:=BND) (f:=215) (k:=8) BA9 aY a6 (aO rfl) ⟨_,_,Tryz.func215,rfl⟩ rfl λ_ _=>by kernel_rfl
def BIX:aP Tryz.prog 215 W0:=BKY λx r h hb=>by
 cases h;unfold A04;rfl
def OO (x:aV):Option T:=some (Sh.enc [(true,aM)] ((x.1,fC x,oQ,iS,eJ,iT,noPack,qF):aV))
def BG2:Env:=Env.of []
def BHI:FuncId->Hint:=λ_=>bA
def AZQ:aU Tryz.prog BG2:=.nil _
def AJ6(a0:aV)(R:T->Prop):Prop:=R (BQ7 a0)
abbrev ANY:Sh:=[(true,aM)]
def KO:List T->Option T:=gS ANY OO
def AVB {a0}:KO [aG true aM a0]=OO (a0):=bH (s:=ANY) rfl (a0) rfl
def BEY:xX Tryz.prog 224 KO OO (cG ANY) AJ6:=kC (a1:=(true,aM)) (sp:=OO) (F:=AJ6) (Hs:=BHI) (f:=224) (k:=8) AZQ aY a6 (aO rfl) ⟨_,_,Tryz.func224,rfl⟩ rfl λ_ _=>by kernel_rfl
def BDJ:aP Tryz.prog 224 KO:=BEY λx r h hb=>by
 cases h;unfold AJ6 BQ7;rfl
def OP (x:aV):Option T:=some (Sh.enc [(true,aM)] ((x.1,oQ,oQ,iS,eJ,iT,noPack,gF x):aV))
def BG3:Env:=Env.of []
def BHJ:FuncId->Hint:=λ_=>bA
def AZR:aU Tryz.prog BG3:=.nil _
def AJ7(a0:aV)(R:T->Prop):Prop:=R (T.agg [pPP a0.1,pPQ ({data:=#[]}), pPQ ({data:=#[]}),pPQ ({data:=#[]}), pPP 0,pPQ ({data:=#[]}), pPQ ({data:=#[]}),pPP 0, pPP 0,pPQ ({data:=#[]}), pPQ ({data:=#[]}),pPP 0,T.sl false [], T.sl false [],pPQ ({data:=#[]}),pPP 0, pPP 0,pPP 0, pPP 0,pPP 0, pPP 0,pPP 0, pPP 0,pPP 0, pPQ ({data:=#[]}),pPQ ({data:=#[]}), pPQ ({data:=#[]}),pPP 0, pPP 0,pPP 0, pPQ ({data:=#[]}),pPQ ({data:=#[]}),T.sl false [], pPP 0,T.sl false [], pPP a0.2.2.2.2.2.2.2.1, pPQ a0.2.2.2.2.2.2.2.2.1, pPQ a0.2.2.2.2.2.2.2.2.2])
abbrev ANZ:Sh:=[(true,aM)]
def wM:List T->Option T:=gS ANZ OP
def WS {a0}:wM [aG true aM a0]=OP (a0):=bH (s:=ANZ) rfl (a0) rfl
def BEZ:xX Tryz.prog 230 wM OP (cG ANZ) AJ7:=kC (a1:=(true,aM)) (sp:=OP) (F:=AJ7) (Hs:=BHJ) (f:=230) (k:=8) AZR aY a6 (aO rfl) ⟨_,_,Tryz.func230,rfl⟩ rfl λ_ _=>by kernel_rfl
def APQ:aP Tryz.prog 230 wM:=BEZ λx r h hb=>by
 cases h;unfold AJ7;rfl
def CO (x:aB×aV):Option T:=some (pPR false)
def AY6:Env:=Env.of []
def A18:FuncId->Hint:=λ_=>bA
def AJK:aU Tryz.prog AY6:=.nil _
def P4(a0:aB)(a1:aV)(R:T->Prop):Prop:=R BQM
abbrev TX:Sh:=[(true,aD),(true,aM)]
def j1:List T->Option T:=gS TX CO
def M9 {a0 a1}:j1 [aG true aD a0,aG true aM a1]=CO (a0,a1):=bH (s:=TX) rfl (a0,a1) rfl
def AWY:qU Tryz.prog 183 j1 CO (cG TX) P4:=gV (a1:=(true,aD)) (a2:=(true,aM)) (sp:=CO) (F:=P4) (Hs:=A18) (f:=183) (k:=8) AJK aY a6 (aO rfl) ⟨_,_,Tryz.func183,rfl⟩ rfl λ_ _ _=>by kernel_rfl
def uR:aP Tryz.prog 183 j1:=AWY λd x r h hb=>by
 cases h;unfold P4 BQM;rfl
def jR {c:Bool} {a r:T} (h:(match c with|true=>some a|false=>none)=some r):c=true/\a=r:=by
 cases c with
 | true=>exact ⟨rfl,Option.some.inj h⟩
 | false=>cases h
def JF (x:aB×aV):Option T:=match wY x.1 with
 | true=>some (pPR (pN x.1 (fC x.2)))
 | false=>none
def BAD:Env:=Env.of []
def BBW:FuncId->Hint:=b8 277 [(2,.inv [.val 8 false (.int .i64)])] (b8 282 [(2,.inv [.val 8 false (.int .i64)])] (b8 283 [(2,.inv [.val 8 false (.int .i64)])] (λ_=>bA)))
def ASP:aU Tryz.prog BAD:=.nil _
def BRG(a0:aB)(a1:aV)(R:T->Prop):Prop:=bB (Int×PUnit) (λX3 s4=>aC (decide (s4.1<(↑(BQ8 a0).length:Int))) (aR aH (BQ8 a0) s4.1 λ(y5:aQ)=>bB (Int×PUnit) (λX6 s7=>aC (decide (s7.1<(↑(BSA y5).length:Int))) (aR Sy.str (BSA y5) s7.1 λ(y8:iII)=>aC (decide (a1.2.1=y8)) (aC (decide (0<=s7.1)) (R (BR3 s4)) (BQ9 X3 s4)) (BQ9 X6 s7)) (BQ9 X3 s4)) (0,())) (R BQM)) (0,())
def ZK(a0:aB)(a1:aV)(R:T->Prop):Prop:=bB (Int×PUnit) (λX0 s1=>aC (decide (s1.1<(↑(BRD a0).length:Int))) (aR bD (BRD a0) s1.1 λ(y2:bU)=>aC (decide (y2.2.1=a1.2.1)) (aC (decide (0<=s1.1)) (R BQR) (BRG a0 a1 R)) (aC (decide (y2.2.2.1=a1.2.1)) (aC (decide (0<=s1.1)) (R BQR) (BRG a0 a1 R)) (BQ9 X0 s1))) (BRG a0 a1 R)) (0,())
abbrev AB1:Sh:=[(true,aD),(true,aM)]
def BW:List T->Option T:=gS AB1 JF
def AMF {a0 a1}:BW [aG true aD a0,aG true aM a1]=JF (a0,a1):=bH (s:=AB1) rfl (a0,a1) rfl
def A7O:qU Tryz.prog 162 BW JF (cG AB1) ZK:=gV (a1:=(true,aD)) (a2:=(true,aM)) (sp:=JF) (F:=ZK) (Hs:=BBW) (f:=162) (k:=8) ASP aY a6 (aO rfl) ⟨_,_,Tryz.func162,rfl⟩ rfl λ_ _ _=>by kernel_rfl
def A4F:aP Tryz.prog 162 BW:=A7O λd x r h hb=>by
 clear hb;obtain ⟨hp,rfl⟩:=jR h;clear h;have c:=eN hp;have hk:∀ k∈d.2.2.2.2.1,k.2.2.1.length<=140737488355328/\k.2.2.2.2.length<=140737488355328:=λk hk=>by
  have:=all_eq_true.1 c.LJ k hk;simp only[fF,l7,ac,ah] at this;exact ⟨this.1.2,this.2.2⟩
 have is:∀ {b:Bool},pN d (fC x)=b->pPR b=pPR (pN d (fC x)):=λh=>by rw[h]
 have pos:∀ {k:Nat},¬ (0<=(k:Int))->False:=λh=>h (by omega);unfold ZK BRG BSA BRD BQ8 BR3 BQ9 BQR BQM;refine cY (r:=bD) (λs=>decide (s.2.1=fC x)||decide (s.2.2.1=fC x)) (pU c.s) (λX k y hlt hy hp hn=>?_) (λ_ h1=>?_)
 ·dsimp only;have yes:(decide (y.2.1=fC x)||decide (y.2.2.1=fC x))=true->pN d (fC x)=true:=λh=>by unfold pN;rw[(hp h).2];rfl
  refine cA (λh=>cA (λ_=>is (yes (by rw[ai h];rfl))) λh=>(pos h).elim) λh=>?_;refine cA (λh2=>cA (λ_=>is (yes (by rw[ai h2,Bool.or_true]))) λh=>(pos h).elim) λh2=>hn ?_;rw[aj h,aj h2];rfl
 ·refine cY (r:=aH) (λk=>AMH k.2.2.1 (fC x)) (pU c.k) (λX k y hlt hy hp hn=>?_) (λ_ h2=>is ?_)
  ·dsimp only;refine cY (r:=.str) (λz=>decide (z=fC x)) (hk y (by rw[<-hy];exact ak hlt)).1 (λY j z hj hz hp2 hn2=>?_) (λ_ h3=>hn h3);dsimp only;refine cA (λh=>cA (λ_=>is ?_) λh=>(pos h).elim) λh=>hn2 (aj λe=>h e.symm);have:=(hp (hp2 (ai h.symm)).2).2;rw[show decide ((0:Int)<=(k:Int))=true from ai (by omega)];unfold pN;rw[this,Bool.or_true]
  ·unfold pN;rw[h1,h2];rfl
def JD (x:aB×aV):Option T:=match wY x.1 with
 | true=>some (pPR (mC x.1 (fC x.2)))
 | false=>none
def BAB:Env:=Env.of []
def BBU:FuncId->Hint:=b8 185 [(2,.inv [.val 8 false (.int .i64)])] (b8 276 [(2,.inv [.val 8 false (.int .i64)])] (b8 277 [(2,.inv [.val 8 false (.int .i64)])] (b8 278 [(2,.inv [.val 8 false (.int .i64)])] (λ_=>bA))))
def ASN:aU Tryz.prog BAB:=.nil _
def BSE(a0:aB)(s10:Int×PUnit)(a1:aV)(R:T->Prop)(X9:Int×PUnit->Prop):Prop:=aR aZ (BRF a0) s10.1 λ(y11:bI)=>aC (decide (y11.2.1=a1.2.1)) (R (BR3 s10)) (aC (decide (y11.2.2=a1.2.1)) (aC (!decide (y11.1=3)) (R (BR3 s10)) (BQ9 X9 s10)) (BQ9 X9 s10))
def BQ6(a0:aB)(a1:aV)(R:T->Prop):Prop:=bB (Int×PUnit) (λX12 s13=>aC (decide (s13.1<(↑(BRF a0).length:Int))) (BSE a0 s13 a1 R X12) (R BQM)) (0,())
def BRN(a0:aB)(a1:aV)(R:T->Prop):Prop:=bB (Int×PUnit) (λ(X15:Int×PUnit->Prop) (F0:Int×PUnit)=>aC (decide (F0.1<(↑(BQ8 a0).length:Int))) (aR aH (BQ8 a0) F0.1 λ(y17:aQ)=>aC (decide (y17.2.1=a1.2.1)) (aC (decide (0<=F0.1)) (R BQR) (BQ6 a0 a1 R)) (BQ9 X15 F0)) (BQ6 a0 a1 R)) (0,())
def ZI(a0:aB)(a1:aV)(R:T->Prop):Prop:=bB (Int×PUnit) (λX0 s1=>aC (decide (s1.1<(↑(BRC a0).length:Int))) (aR aN (BRC a0) s1.1 λ(y2:a8)=>aC (decide (y2.2.2.2.1=a1.2.1)) (aC (decide (0<=s1.1)) (R BQR) (bB (Int×PUnit) (λX3 s4=>aC (decide (s4.1<(↑(BRH a0).length:Int))) (aR bC (BRH a0) s4.1 λ(y5:bR)=>aC (decide (y5.2.2=a1.2.1)) (aC (decide (0<=s4.1)) (R BQR) (bB (Int×PUnit) (λX6 s7=>aC (decide (s7.1<(↑(BQ8 a0).length:Int))) (aR aH (BQ8 a0) s7.1 λ(y8:aQ)=>aC (decide (y8.2.1=a1.2.1)) (aC (decide (0<=s7.1)) (R BQR) (bB (Int×PUnit) (λX9 s10=>aC (decide (s10.1 < (↑(BRF a0).length:Int))) (BSE a0 s10 a1 R X9) (R BQM)) (0,()))) (BQ9 X6 s7)) (BQ6 a0 a1 R)) (0,()))) (BQ9 X3 s4)) (BRN a0 a1 R)) (0,()))) (BQ9 X0 s1)) (bB (Int×PUnit) (λX24 s25=>aC (decide (s25.1<(↑(BRH a0).length:Int))) (aR bC (BRH a0) s25.1 λ(y26:bR)=>aC (decide (y26.2.2=a1.2.1)) (aC (decide (0<=s25.1)) (R BQR) (BRN a0 a1 R)) (BQ9 X24 s25)) (BRN a0 a1 R)) (0,()))) (0,())
abbrev ABZ:Sh:=[(true,aD),(true,aM)]
def BU:List T->Option T:=gS ABZ JD
def AMD {a0 a1}:BU [aG true aD a0,aG true aM a1]=JD (a0,a1):=bH (s:=ABZ) rfl (a0,a1) rfl
def A7M:qU Tryz.prog 138 BU JD (cG ABZ) ZI:=gV (a1:=(true,aD)) (a2:=(true,aM)) (sp:=JD) (F:=ZI) (Hs:=BBU) (f:=138) (k:=8) ASN aY a6 (aO rfl) ⟨_,_,Tryz.func138,rfl⟩ rfl λ_ _ _=>by kernel_rfl
def A4D:aP Tryz.prog 138 BU:=A7M λd x r h hb=>by
 clear hb;obtain ⟨hp,rfl⟩:=jR h;clear h;have c:=eN hp;have is:∀ {b:Bool},mC d (fC x)=b->pPR b=pPR (mC d (fC x)):=λh=>by rw[h]
 have pos:∀ {k:Nat},¬ (0<=(k:Int))->False:=λh=>h (by omega);have d0:∀ {k:Nat},decide ((0:Int)<=(k:Int))=true:=ai (by omega);unfold ZI BRN BRH BRC BQ8 BQ6 BSE BR3 BQ9 BRF BQR BQM;refine cY (r:=aN) (λp=>decide (oG p=fC x)) (pU c.p) (λX k y hlt hy hp hn=>?_) (λ_ h1=>?_)
 ·dsimp only;exact cA (λh=>cA (λ_=>is (by unfold mC;rw[(hp (ai h)).2];rfl)) λh=>(pos h).elim) λh=>hn (aj h)
 refine cY (r:=bC) (λn=>decide (n.2.2=fC x)) (pU c.n) (λX k y hlt hy hp hn=>?_) (λ_ h2=>?_)
 ·dsimp only;exact cA (λh=>cA (λ_=>is (by unfold mC;rw[h1,(hp (ai h)).2];rfl)) λh=>(pos h).elim) λh=>hn (aj h)
 refine cY (r:=aH) (λk=>decide (k.2.1=fC x)) (pU c.k) (λX k y hlt hy hp hn=>?_) (λ_ h3=>?_)
 ·dsimp only;exact cA (λh=>cA (λ_=>is (by unfold mC;rw[h1,h2,(hp (ai h)).2];rfl)) λh=>(pos h).elim) λh=>hn (aj h)
 refine cY (r:=aZ) (λn=>decide (n.2.1=fC x)||(decide (n.2.2=fC x) && !decide (n.1=3))) (pU c.r) (λX k y hlt hy hp hn=>?_) (λ_ h4=>is (by unfold mC;rw[h1,h2,h3,h4];rfl));dsimp only;have yes:(decide (y.2.1=fC x)||(decide (y.2.2=fC x) && !decide (y.1=3)))=true->mC d (fC x)=decide ((0:Int)<=(k:Int)):=λh=>by rw[d0];unfold mC;rw[h1,h2,h3,(hp h).2];rfl
 refine cA (λh=>is (yes (by rw[ai h];rfl))) λa1=>?_;refine cA (λa2=>?_) λa2=>hn (by rw[aj a1,aj a2];rfl);refine lF (λa3=>is (yes (by rw[ai a2,aj a3];simp))) λa3=>hn (by rw[aj a1,ai a3,Bool.not_true,Bool.and_false];rfl)
def JE (x:aB×aV):Option T:=match wY x.1 with
 | true=>some (pPR (r8 x.1 (fC x.2)))
 | false=>none
def BAC:Env:=Env.of [(107,.dup 5 88),(290,.grow 5 nO)]
def BBV:FuncId->Hint:=b8 277 [(2,.inv [.val 8 false (.int .i64)])] (b8 278 [(2,.inv [.val 8 false (.int .i64)])] (b8 283 [(2,.inv [.val 8 false (.int .i64)])] (λ_=>bA)))
def ASO:aU Tryz.prog BAC:=aU.cons (x:=.dup 5 88) oX (.cons D1 (.nil _))
def BRI(a0:aB)(a1:aV)(R:T->Prop):Prop:=bB (Int×PUnit) (λX13 s14=>aC (decide (s14.1<(↑(BRF a0).length:Int))) (aR aZ (BRF a0) s14.1 λ(y15:bI)=>aC (decide (y15.1=3)) (aC (decide (y15.2.2=a1.2.1)) (R (BR3 s14)) (BQ9 X13 s14)) (BQ9 X13 s14)) (R BQM)) (0,())
def BRL(y6:aQ)(a1:aV)(s4:Int×PUnit)(R:T->Prop)(a0:aB)(X3:Int×PUnit->Prop):Prop:=bB (Int×PUnit) (λX7 s8=>aC (decide (s8.1<(↑(BR0 y6).length:Int))) (aR Sy.str (BR0 y6) s8.1 λ(y9:iII)=>aC (decide (a1.2.1=y9)) (aC (decide (0<=s8.1)) (aC (decide (0<=s4.1)) (R BQR) (bB (Int×PUnit) (λX10 s11=>aC (decide (s11.1 < (↑(BRF a0).length:Int))) (aR aZ (BRF a0) s11.1 λ(y12:bI)=>aC (decide (y12.1=3)) (aC (decide (y12.2.2=a1.2.1)) (R (BR3 s11)) (BQ9 X10 s11)) (BQ9 X10 s11)) (R BQM)) (0,()))) (BQ9 X3 s4)) (BQ9 X7 s8)) (BQ9 X3 s4)) (0,())
def BRY(s1:Int×PUnit):List T:=[pPP s1.1, pPP (i64.wrap (s1.1+1))]
def ZJ(a0:aB)(a1:aV)(R:T->Prop):Prop:=bB (Int×PUnit) (λX0 s1=>aC (decide (s1.1<(↑(BQ8 a0).length:Int))) (aR aH (BQ8 a0) s1.1 λ(y2:aQ)=>aC (decide (y2.1=a1.2.1)) (aC (decide (s1.1<0)) (bL (((BQ8 a0).all λ(r:List T)=>decide (r.length=5)) && decide ((BQ8 a0).length*88<=140737488355328) && decide ((BQ8 a0).length<=140737488355328)) (bB (Int×PUnit) (λX3 s4=>aC (decide (s4.1<(↑(BQ8 a0).length:Int))) (aR aH (BQ8 a0) s4.1 λ(y5:aQ)=>eR aH (BQ8 a0) (Int.toNat s4.1) 0 λ(y6:aQ)=>BRL y6 a1 s4 R a0 X3) (BRI a0 a1 R)) (0,()))) (bL (((BQ8 a0).all λ(r:List T)=>decide (r.length=5)) && decide ((BQ8 a0).length*88<=140737488355328) && decide ((BQ8 a0).length<=140737488355328)) (bW aH (nO (BQ8 a0) (BRY s1)) λ(y16:List aQ)=>bB (Int×PUnit) (λX17 s18=>aC (decide (s18.1<(↑(List.map aH.enc y16).length:Int))) (aR aH (List.map aH.enc y16) s18.1 λ(y19:aQ)=>eR aH (List.map aH.enc y16) (Int.toNat s18.1) 0 λ(y20:aQ)=>BRL y20 a1 s18 R a0 X17) (BRI a0 a1 R)) (0,())))) (BQ9 X0 s1)) (bL (((BQ8 a0).all λ(r:List T)=>decide (r.length=5)) && decide ((BQ8 a0).length*88<=140737488355328) && decide ((BQ8 a0).length<=140737488355328)) (bB (Int×PUnit) (λX30 s31=>aC (decide (s31.1<(↑(BQ8 a0).length:Int))) (aR aH (BQ8 a0) s31.1 λ(y32:aQ)=>eR aH (BQ8 a0) (Int.toNat s31.1) 0 λ(y33:aQ)=>bB (Int×PUnit) (λX34 s35=>aC (decide (s35.1<(↑(BR0 y33).length:Int))) (aR Sy.str (BR0 y33) s35.1 λ(y36:iII)=>aC (decide (a1.2.1=y36)) (aC (decide (0<=s35.1)) (aC (decide (0<=s31.1)) (R BQR) (BRI a0 a1 R)) (BQ9 X30 s31)) (BQ9 X34 s35)) (BQ9 X30 s31)) (0,())) (BRI a0 a1 R)) (0,())))) (0,())
abbrev AB0:Sh:=[(true,aD),(true,aM)]
def BV:List T->Option T:=gS AB0 JE
def AME {a0 a1}:BV [aG true aD a0,aG true aM a1]=JE (a0,a1):=bH (s:=AB0) rfl (a0,a1) rfl
def A7N:qU Tryz.prog 210 BV JE (cG AB0) ZJ:=gV (a1:=(true,aD)) (a2:=(true,aM)) (sp:=JE) (F:=ZJ) (Hs:=BBV) (f:=210) (k:=8) ASO aY a6 (aO rfl) ⟨_,_,Tryz.func210,rfl⟩ rfl λ_ _ _=>by kernel_rfl
def A4E:aP Tryz.prog 210 BV:=A7N λd x r h hb=>by
 clear hb;obtain ⟨hp,rfl⟩:=jR h;clear h;have c:=eN hp;have hk:∀ k∈d.2.2.2.2.1,k.2.2.1.length<=140737488355328/\k.2.2.2.2.length<=140737488355328:=λk hk=>by
  have:=all_eq_true.1 c.LJ k hk;simp only[fF,l7,ac,ah] at this;exact ⟨this.1.2,this.2.2⟩
 have is:∀ {b:Bool},r8 d (fC x)=b->pPR b=pPR (r8 d (fC x)):=λh=>by rw[h]
 have pos:∀ {k:Nat},¬ (0<=(k:Int))->False:=λh=>h (by omega);have d0:∀ {k:Nat},decide ((0:Int)<=(k:Int))=true:=ai (by omega);have hd:=yM (r:=aH) (l:=d.2.2.2.2.1) (z:=5) (b:=88) rfl (dU c.k (by decide));unfold ZJ BRY BRL BR0 BRI BQ8 BR3 BQ9 BRF BQR BQM;refine cY (r:=aH) (λy=>cS (fC x) y) (pU c.k) (λX k y hlt hy hp hn=>?_) (λh0 _=>?_)
 ·dsimp only;refine cA (λh=>?_) λh=>hn (aj h);obtain ⟨hi,_⟩:=hp (ai h);refine cA (λh=>by omega) λ_=>⟨hd,?_⟩
  have eL:fV (cS (fC x)) d.2.2.2.2.1=d.2.2.2.2.1.take k++d.2.2.2.2.1.drop (k+1):=by
   unfold fV;rw[show List.findIdx (cS (fC x)) d.2.2.2.2.1=k from hi]
  refine eK (r:=aH) (l:=fV (cS (fC x)) d.2.2.2.2.1) (by rw[eL];exact J5 (r:=aH) rfl hlt c.k) _ ?_;have hL:(fV (cS (fC x)) d.2.2.2.2.1).length<=1000:=Nat.le_trans AEH c.k;have hkL:∀ k∈fV (cS (fC x)) d.2.2.2.2.1,k.2.2.2.2.length<=140737488355328:=λk h=>(hk k (GL h)).2;have hV:r8 d (fC x)=(((fV (cS (fC x)) d.2.2.2.2.1).any λk=>AMH k.2.2.2.2 (fC x))||(d.2.2.2.2.2.any λn=>decide (n.1=3)&&decide (n.2.2=fC x))):=rfl;clear hp hn eL;generalize fV (cS (fC x)) d.2.2.2.2.1=L at *;refine cY (r:=aH) (λk=>AMH k.2.2.2.2 (fC x)) (pU hL) (λX k y hlt hy hp hn=>?_) (λ_ h2=>?_)
  ·dsimp only;rw[show Int.toNat (k:Int)=k from rfl,jD (r:=aH) hlt,hy];refine cY (r:=.str) (λz=>decide (z=fC x)) (hkL y (by rw[<-hy];exact ak hlt)) (λY j z hj hz hp2 hn2=>?_) (λ_ h3=>hn h3);dsimp only;refine cA (λh=>cA (λ_=>cA (λ_=>is ?_) λh=>(pos h).elim) λh=>(pos h).elim) λh=>hn2 (aj λe=>h e.symm);rw[hV,(hp (hp2 (ai h.symm)).2).2];rfl
  ·refine cY (r:=aZ) (λn=>decide (n.1=3)&&decide (n.2.2=fC x)) (pU c.r) (λX k y hlt hy hp hn=>?_) (λ_ h4=>is (by rw[hV,h2,h4];rfl));dsimp only;refine cA (λa1=>?_) λa1=>hn (by rw[aj a1];rfl);refine cA (λa2=>is ?_) λa2=>hn (by rw[aj a2,Bool.and_false]);rw[d0,hV,(hp (by rw[ai a1,ai a2];rfl)).2,Bool.or_true]
 ·refine ⟨hd,?_⟩;have hV:r8 d (fC x)=((d.2.2.2.2.1.any λk=>AMH k.2.2.2.2 (fC x))||(d.2.2.2.2.2.any λn=>decide (n.1=3)&&decide (n.2.2=fC x))):=by unfold r8;rw[yL (is:=cS (fC x)) h0]
  have hL:=c.k;have hkL:∀ k∈d.2.2.2.2.1,k.2.2.2.2.length<=140737488355328:=λk h=>(hk k h).2;refine cY (r:=aH) (λk=>AMH k.2.2.2.2 (fC x)) (pU hL) (λX k y hlt hy hp hn=>?_) (λ_ h2=>?_)
  ·dsimp only;rw[show Int.toNat (k:Int)=k from rfl,jD (r:=aH) hlt,hy];refine cY (r:=.str) (λz=>decide (z=fC x)) (hkL y (by rw[<-hy];exact ak hlt)) (λY j z hj hz hp2 hn2=>?_) (λ_ h3=>hn h3);dsimp only;refine cA (λh=>cA (λ_=>cA (λ_=>is ?_) λh=>(pos h).elim) λh=>(pos h).elim) λh=>hn2 (aj λe=>h e.symm);rw[hV,(hp (hp2 (ai h.symm)).2).2];rfl
  ·refine cY (r:=aZ) (λn=>decide (n.1=3)&&decide (n.2.2=fC x)) (pU c.r) (λX k y hlt hy hp hn=>?_) (λ_ h4=>is (by rw[hV,h2,h4];rfl));dsimp only;refine cA (λa1=>?_) λa1=>hn (by rw[aj a1];rfl);refine cA (λa2=>is ?_) λa2=>hn (by rw[aj a2,Bool.and_false]);rw[d0,hV,(hp (by rw[ai a1,ai a2];rfl)).2,Bool.or_true]
def uM (lt gt:Bool):Int:=match lt,gt with
 | true,_=>-1
 | false,true=>1
 | false,false=>0
def OJ (x:Int×Int):Option T:=some (T.v (Value.int .i64 (uM (decide (x.1<x.2)) (decide (x.2<x.1)))))
def OK (x:iII×iII):Option T:=some (T.v (Value.int .i64 (uM (cK x.1 x.2) (cK x.2 x.1))))
def orE:List Int->Int
 | []=>0
 | a::l=>if a=0 then orE l else a
def AOK (l:List Int):Option T:=some (T.v (Value.int .i64 (orE l)))
def BGS:Env:=Env.of []
def BG8:FuncId->Hint:=λ_=>bA
def AZF:aU Tryz.prog BGS:=.nil _
def AJT(a0:Int)(a1:Int)(R:T->Prop):Prop:=aC (!decide (a0=a0)) (aC (!decide (a1=a1)) (R BQQ) (R BQW)) (aC (!decide (a1=a1)) (R BQ0) (aC (decide (a0<a1)) (R BQW) (aC (decide (a1<a0)) (R BQ0) (R BQQ))))
abbrev ANO:Sh:=[(false,(Sy.int IntKind.i64)),(false,(Sy.int IntKind.i64))]
def RZ:List T->Option T:=gS ANO OJ
def AU2 {a0 a1}:RZ [pPP a0,pPP a1]=OJ (a0,a1):=bH (s:=ANO) rfl (a0,a1) rfl
def BEM:qU Tryz.prog 236 RZ OJ (cG ANO) AJT:=gV (a1:=(false,(Sy.int IntKind.i64))) (a2:=(false,(Sy.int IntKind.i64))) (sp:=OJ) (F:=AJT) (Hs:=BG8) (f:=236) (k:=8) AZF aY a6 (aO rfl) ⟨_,_,Tryz.func236,rfl⟩ rfl λ_ _ _=>by kernel_rfl
def BCZ:aP Tryz.prog 236 RZ:=BEM λa b r h hb=>by
 cases h;unfold AJT BQ0 BQW BQQ;refine lF (λh=>absurd rfl h) λ_=>lF (λh=>absurd rfl h) λ_=>?_;refine cA (λh=>by unfold uM;rw[ai h]) λh=>?_;refine cA (λh2=>by unfold uM;rw[aj h,ai h2]) λh2=>by unfold uM;rw[aj h,aj h2]
def BGT:Env:=Env.of []
def BG9:FuncId->Hint:=λ_=>bA
def AZG:aU Tryz.prog BGT:=.nil _
def AJU(a0:iII)(a1:iII)(R:T->Prop):Prop:=aC (!decide (a0=a0)) (aC (!decide (a1=a1)) (R BQQ) (R BQW)) (aC (!decide (a1=a1)) (R BQ0) (aC (cK a0 a1) (R BQW) (aC (!(cK a0 a1||decide (a0=a1))) (R BQ0) (R BQQ))))
abbrev ANP:Sh:=[(false,Sy.str),(false,Sy.str)]
def KI:List T->Option T:=gS ANP OK
def WC {a0 a1}:KI [pPQ a0,pPQ a1]=OK (a0,a1):=bH (s:=ANP) rfl (a0,a1) rfl
def BEN:qU Tryz.prog 237 KI OK (cG ANP) AJU:=gV (a1:=(false,Sy.str)) (a2:=(false,Sy.str)) (sp:=OK) (F:=AJU) (Hs:=BG9) (f:=237) (k:=8) AZG aY a6 (aO rfl) ⟨_,_,Tryz.func237,rfl⟩ rfl λ_ _ _=>by kernel_rfl
def BC0:aP Tryz.prog 237 KI:=BEN λa b r h hb=>by
 cases h;unfold AJU BQ0 BQW BQQ;refine lF (λh=>absurd rfl h) λ_=>lF (λh=>absurd rfl h) λ_=>?_;rw[rA];refine sX (λh=>by unfold uM;rw[h]) λh=>?_;refine sX (λh2=>by unfold uM;rw[h,h2]) λh2=>by unfold uM;rw[h,h2]
def MQ (a0:List Int):List T:=[T.sl true (List.map (Sy.int .i64).enc a0)]
def AYL:Env:=Env.of []
def BF1:FuncId->Hint:=b8 235 [(3,.inv [.val 8 false (.int .i64)])] (λ_=>bA)
def BA0:aU Tryz.prog AYL:=.nil _
def A0U(a0:List Int)(R:T->Prop):Prop:=bB (Int×PUnit) (λX0 s1=>aC (decide (s1.1<(↑(List.map BQT.enc a0).length:Int))) (aR BQT (List.map BQT.enc a0) s1.1 λ(y2:Int)=>aC (!decide (y2=0)) (R (BR2 y2)) (BQ9 X0 s1)) (R BQQ)) (0,())
def A0V ( a0 R):eX cD Tryz.prog AYL BF1 8 235 (MQ a0) R=A0U a0 R:=by kernel_rfl
def ARQ (x y:List Int) (h:MQ x=MQ y):x=y:=by
 simp only[MQ,List.cons.injEq,T.sl.injEq,true_and,and_true] at h;exact map_inj (Sy.dV (.int .i64)) h
def AFG:List T->Option (T):=gA (λ(x:List Int)=>MQ x) AOK
def A5C (a0:List Int):AFG (MQ a0)=AOK a0:=gG (A:=(λ(x:List Int)=>MQ x)) ARQ a0
def BKP (h:∀ (a0:List Int) (r:T),AOK a0=some r->(∀ t∈MQ a0,Bd t)->A0U a0 (λy=>y=r)):aP Tryz.prog 235 AFG :=
 cZ (E:=AYL) (Hs:=BF1) BA0 aY a6 (aO rfl) 8 ⟨_,_,Tryz.func235,rfl⟩ λx r h1 h2=>by
  rw[A0V];exact h x r h1 h2
def BIO:aP Tryz.prog 235 AFG:=BKP λl r h hb=>by
 have hl:l.length<=2 ^ 47:=by
  have:=((BFM _ _).1 (hb _ am)).1;simpa using this
 cases h;have is:∀ {n:Int},orE l=n->pPP n=pPP (orE l):=λh=>by rw[h]
 unfold A0U BQ9 BR2 BQT BQQ;refine bM l.length (λk s=>s=((k:Int),())/\orE (l.drop k)=orE l) ⟨rfl,rfl⟩ ?_;rintro X k s hk ⟨rfl,he⟩ hX;dsimp only;refine cA (λhlt=>?_) λhge=>?_
 ·rw[ae] at hlt;have hlt:k<l.length:=by omega
  rw[bE (r:=.int .i64) hlt];rw[drop_eq_getElem_cons hlt,orE] at he;refine lF (λh=>is ?_) λh=>hX _ hlt ⟨?_,?_⟩
  ·rw[if_neg h] at he;exact he.symm
  ·rw[show i64.wrap ((k:Int)+1)=((k+1:Nat):Int) by rw[bG]<;>omega]
  ·rw[if_pos h] at he;exact he
 ·rw[ae] at hge;rw[List.drop_eq_nil_of_le (by omega)] at he;exact is he.symm
def CD (x:bI×bI):Option T:=some (pPR (ER x.1 x.2))
def AYK:Env:=Env.of [(236,.pure RZ),(237,.pure KI),(235,.pure AFG)]
def A1R:FuncId->Hint:=λ_=>bA
def AI2:aU Tryz.prog AYK:=.cons BCZ (.cons BC0 (.cons BIO (.nil _)))
def PL(a0:bI)(a1:bI)(R:T->Prop):Prop:=aJ BQO (RZ [pPP a0.1,pPP a1.1]) λ(y0:Int)=>aJ BQO (KI [pPQ a0.2.1,pPQ a1.2.1]) λ(y1:Int)=>aJ BQO (KI [pPQ a0.2.2,pPQ a1.2.2]) λ(y2:Int)=>aJ BQO (AFG [T.sl true [[pPP y0],[pPP y1], [pPP y2]]]) λ(y3:Int)=>R (pPR (decide (0<y3)))
abbrev TH:Sh:=[(true,aZ),(true,aZ)]
def rO:List T->Option T:=gS TH CD
def AFF {a0 a1}:rO [aG true aZ a0,aG true aZ a1]=CD (a0,a1):=bH (s:=TH) rfl (a0,a1) rfl
def AWG:qU Tryz.prog 234 rO CD (cG TH) PL:=gV (a1:=(true,aZ)) (a2:=(true,aZ)) (sp:=CD) (F:=PL) (Hs:=A1R) (f:=234) (k:=8) AI2 aY a6 (aO rfl) ⟨_,_,Tryz.func234,rfl⟩ rfl λ_ _ _=>by kernel_rfl
def V3:aP Tryz.prog 234 rO:=AWG λa b r h hb=>by
 cases h;unfold PL BQO;refine aF (s:=[(false,.int .i64)]) (AU2 ..) ?_;refine aF (s:=[(false,.int .i64)]) (WC ..) ?_;refine aF (s:=[(false,.int .i64)]) (WC ..) ?_;refine aF (s:=[(false,.int .i64)]) (y:=orE [uM (decide (a.1<b.1)) (decide (b.1<a.1)),uM (cK a.2.1 b.2.1) (cK b.2.1 a.2.1),uM (cK a.2.2 b.2.2) (cK b.2.2 a.2.2)]) (A5C [uM (decide (a.1<b.1)) (decide (b.1<a.1)),uM (cK a.2.1 b.2.1) (cK b.2.1 a.2.1),uM (cK a.2.2 b.2.2) (cK b.2.2 a.2.2)]) ?_;refine jY ?_;unfold ER ltN;have tot:∀ {s t:iII},cK s t=true->cK t s=false/\decide (t=s)=false:=λ{s t} h=>by
  refine ⟨?_,aj λe=>?_⟩
  ·rw[Bool.eq_false_iff];intro h2;have:=AB4 h h2;rw[q9] at this;cases this
  ·rw[e,q9] at h;cases h
 have eqS:∀ {s t:iII},cK s t=false->cK t s=false->decide (t=s)=true:=λ{s t} h1 h2=>by
  have h3:=rA s t;rw[h1,h2] at h3;simpa using h3
 rcases Int.lt_trichotomy a.1 b.1 with h|h|h
 ·rw[ai h,aj (show ¬ b.1<a.1 by omega),aj (show ¬ b.1=a.1 by omega)];simp[uM,orE]
 ·rw[aj (show ¬ a.1<b.1 by omega),aj (show ¬ b.1<a.1 by omega),ai h.symm];cases h1:cK a.2.1 b.2.1 with
  | true=>rw[(tot h1).1,(tot h1).2];simp[uM,orE]
  | false =>
   cases h2:cK b.2.1 a.2.1 with
   | true=>simp[uM,orE]
   | false =>
    rw[eqS h1 h2];cases h3:cK a.2.2 b.2.2 with
    | true=>rw[(tot h3).1];simp[uM,orE]
    | false=>cases h4:cK b.2.2 a.2.2<;>simp[uM,orE]
 ·rw[aj (show ¬ a.1<b.1 by omega),ai h];simp[uM,orE]
def AQO (d:aB) (x:aV):aB:=(d.1,j2 dR d.2.1 (pZ x),d.2.2)
def MD (x:aB×aV):Option T:=match wY x.1 with
 | true=>some (Sh.enc [(true,aD)] (AQO x.1 x.2))
 | false=>none
def BMB:Env:=Env.of [(103,.dup 3 40),(280,.grow 3 lD)]
def BMX:FuncId->Hint:=b8 276 [(2,.inv [.val 8 false (.int .i64)])] (λ_=>bA)
def BAO:aU Tryz.prog BMB:=aU.cons (x:=.dup 3 40) E2 (.cons E5 (.nil _))
def BRV(a0:aB)(y4:List bR):T:=T.agg [pPQ a0.1,T.sl false (List.map bC.enc y4), T.sl false (BRC a0), T.sl false (BRD a0), T.sl false (BQ8 a0), T.sl false (BRF a0)]
def BSJ(a1:aV):List T:=[pPQ a1.2.2.2.1.1, pPP a1.2.2.2.1.2.1, pPQ a1.2.2.2.1.2.2]
def BRO(a0:aB)(a1:aV)(R:T->Prop):Prop:=bL (((BRH a0).all λ(r:List T)=>decide (r.length=3)) && decide ((BRH a0).length*40<=140737488355328) && decide ((BRH a0).length<=140737488355328)) (bW bC (lD (BRH a0) [pPP (↑(BRH a0).length:Int), T.sl true [(BSJ a1)]]) λ(y3:List bR)=>R (BRV a0 y3))
def A0E(a0:aB)(a1:aV)(R:T->Prop):Prop:=bB (Int×PUnit) (λX0 s1=>aC (decide (s1.1<(↑(BRH a0).length:Int))) (aR bC (BRH a0) s1.1 λ(y2:bR)=>aC (!(cK y2.1 a1.2.2.2.1.1||decide (y2.1=a1.2.2.2.1.1))) (aC (decide (s1.1<0)) (BRO a0 a1 R) (bL (((BRH a0).all λ(r:List T)=>decide (r.length=3)) && decide ((BRH a0).length*40<=140737488355328) && decide ((BRH a0).length<=140737488355328)) (bW bC (lD (BRH a0) [pPP s1.1, T.sl true [(BSJ a1)]]) λ(y4:List bR)=>R (BRV a0 y4)))) (BQ9 X0 s1)) (BRO a0 a1 R)) (0,())
abbrev A8S:Sh:=[(true,aD),(true,aM)]
def WD:List T->Option T:=gS A8S MD
def A41 {a0 a1}:WD [aG true aD a0,aG true aM a1]=MD (a0,a1):=bH (s:=A8S) rfl (a0,a1) rfl
def BKD:qU Tryz.prog 150 WD MD (cG A8S) A0E:=gV (a1:=(true,aD)) (a2:=(true,aM)) (sp:=MD) (F:=A0E) (Hs:=BMX) (f:=150) (k:=8) BAO aY a6 (aO rfl) ⟨_,_,Tryz.func150,rfl⟩ rfl λ_ _ _=>by kernel_rfl
def BIA:aP Tryz.prog 150 WD:=BKD λd x r h hb=>by
 clear hb;have hp:wY d=true:=by
  unfold MD at h;split at h
  ·assumption
  ·cases h
 have e:Sh.enc [(true,aD)] (AQO d x)=r:=by
  unfold MD at h;rw[show wY (d,x).1=true from hp] at h;exact Option.some.inj h
 subst e;clear h;have c:=eN hp;have hd:=yM (r:=bC) (l:=d.2.1) (z:=3) (b:=40) rfl (dU c.n (by decide));unfold A0E BRO BSJ BRV BRH BRD BRC BQ8 BQ9 BRF;refine cY (r:=bC) (λy=>dR y (pZ x)) (pU c.n) (λX k y hk hy hp hn=>?_) (λh _=>?_)
 ·dsimp only;rw[rA];refine sX (λh=>?_) λh=>hn h;obtain ⟨hi,_⟩:=hp h;refine cA (λh=>by omega) λ_=>⟨hd,?_⟩
  refine eK (r:=bC) (l:=d.2.1.take k++pZ x::d.2.1.drop k) (tX (r:=bC) (x:=pZ x) rfl (by omega) c.n (by decide)) _ ?_;unfold AQO j2;rw[hi];rfl
 ·refine ⟨hd,?_⟩;rw[show (((List.map (bC).enc d.2.1).length:Nat):Int)=(((d.2.1).length:Nat):Int) by rw[ae]];refine eK (r:=bC) (l:=d.2.1.take (d.2.1).length++pZ x::d.2.1.drop (d.2.1).length) (tX (r:=bC) (x:=pZ x) rfl (al _) c.n (by decide)) _ ?_;unfold AQO j2;rw[h];rfl
def AQS (d:aB) (x:aV):aB:=(d.1,d.2.1,d.2.2.1,j2 dR d.2.2.2.1 (p8 x),d.2.2.2.2)
def MH (x:aB×aV):Option T:=match wY x.1 with
 | true=>some (Sh.enc [(true,aD)] (AQS x.1 x.2))
 | false=>none
def BMF:Env:=Env.of [(104,.dup 6 72),(288,.grow 6 uV)]
def BM1:FuncId->Hint:=b8 282 [(2,.inv [.val 8 false (.int .i64)])] (λ_=>bA)
def BAS:aU Tryz.prog BMF:=aU.cons (x:=.dup 6 72) E4 (.cons ALL (.nil _))
def BRW(a0:aB)(y4:List bU):T:=T.agg [pPQ a0.1,T.sl false (BRH a0), T.sl false (BRC a0), T.sl false (List.map bD.enc y4), T.sl false (BQ8 a0), T.sl false (BRF a0)]
def BRZ(a1:aV):List T:=[pPQ a1.2.2.2.2.2.1.1, pPQ a1.2.2.2.2.2.1.2.1, pPQ a1.2.2.2.2.2.1.2.2.1, pPP a1.2.2.2.2.2.1.2.2.2.1, pPP a1.2.2.2.2.2.1.2.2.2.2.1, pPP a1.2.2.2.2.2.1.2.2.2.2.2]
def BRK(a0:aB)(a1:aV)(R:T->Prop):Prop:=bL (((BRD a0).all λ(r:List T)=>decide (r.length=6)) && decide ((BRD a0).length*72<=140737488355328) && decide ((BRD a0).length<=140737488355328)) (bW bD (uV (BRD a0) [pPP (↑(BRD a0).length:Int), T.sl true [(BRZ a1)]]) λ(y3:List bU)=>R (BRW a0 y3))
def A0I(a0:aB)(a1:aV)(R:T->Prop):Prop:=bB (Int×PUnit) (λX0 s1=>aC (decide (s1.1<(↑(BRD a0).length:Int))) (aR bD (BRD a0) s1.1 λ(y2:bU)=>aC (!(cK y2.1 a1.2.2.2.2.2.1.1||decide (y2.1=a1.2.2.2.2.2.1.1))) (aC (decide (s1.1<0)) (BRK a0 a1 R) (bL (((BRD a0).all λ(r:List T)=>decide (r.length=6)) && decide ((BRD a0).length*72<=140737488355328) && decide ((BRD a0).length<=140737488355328)) (bW bD (uV (BRD a0) [pPP s1.1, T.sl true [(BRZ a1)]]) λ(y4:List bU)=>R (BRW a0 y4)))) (BQ9 X0 s1)) (BRK a0 a1 R)) (0,())
abbrev A8W:Sh:=[(true,aD),(true,aM)]
def WI:List T->Option T:=gS A8W MH
def A45 {a0 a1}:WI [aG true aD a0,aG true aM a1]=MH (a0,a1):=bH (s:=A8W) rfl (a0,a1) rfl
def BKH:qU Tryz.prog 198 WI MH (cG A8W) A0I:=gV (a1:=(true,aD)) (a2:=(true,aM)) (sp:=MH) (F:=A0I) (Hs:=BM1) (f:=198) (k:=8) BAS aY a6 (aO rfl) ⟨_,_,Tryz.func198,rfl⟩ rfl λ_ _ _=>by kernel_rfl
def BIE:aP Tryz.prog 198 WI:=BKH λd x r h hb=>by
 clear hb;have hp:wY d=true:=by
  unfold MH at h;split at h
  ·assumption
  ·cases h
 have e:Sh.enc [(true,aD)] (AQS d x)=r:=by
  unfold MH at h;rw[show wY (d,x).1=true from hp] at h;exact Option.some.inj h
 subst e;clear h;have c:=eN hp;have hd:=yM (r:=bD) (l:=d.2.2.2.1) (z:=6) (b:=72) rfl (dU c.s (by decide));unfold A0I BRK BRZ BRW BRH BRD BRC BQ8 BQ9 BRF;refine cY (r:=bD) (λy=>dR y (p8 x)) (pU c.s) (λX k y hk hy hp hn=>?_) (λh _=>?_)
 ·dsimp only;rw[rA];refine sX (λh=>?_) λh=>hn h;obtain ⟨hi,_⟩:=hp h;refine cA (λh=>by omega) λ_=>⟨hd,?_⟩
  refine eK (r:=bD) (l:=d.2.2.2.1.take k++p8 x::d.2.2.2.1.drop k) (tX (r:=bD) (x:=p8 x) rfl (by omega) c.s (by decide)) _ ?_;unfold AQS j2;rw[hi];rfl
 ·refine ⟨hd,?_⟩;rw[show (((List.map (bD).enc d.2.2.2.1).length:Nat):Int)=(((d.2.2.2.1).length:Nat):Int) by rw[ae]];refine eK (r:=bD) (l:=d.2.2.2.1.take (d.2.2.2.1).length++p8 x::d.2.2.2.1.drop (d.2.2.2.1).length) (tX (r:=bD) (x:=p8 x) rfl (al _) c.s (by decide)) _ ?_;unfold AQS j2;rw[h];rfl
def AQP (d:aB) (x:aV):aB:=(d.1,fV (cS (fC x)) d.2.1,d.2.2)
def ME (x:aB×aV):Option T:=match wY x.1 with
 | true=>some (Sh.enc [(true,aD)] (AQP x.1 x.2))
 | false=>none
def BMC:Env:=Env.of [(103,.dup 3 40),(281,.grow 3 KJ)]
def BMY:FuncId->Hint:=b8 276 [(2,.inv [.val 8 false (.int .i64)])] (λ_=>bA)
def BAP:aU Tryz.prog BMC:=aU.cons (x:=.dup 3 40) E2 (.cons ALG (.nil _))
def BR7(a0:aB)(R:T->Prop):Prop:=bL (((BRH a0).all λ(r:List T)=>decide (r.length=3)) && decide ((BRH a0).length*40<=140737488355328) && decide ((BRH a0).length<=140737488355328)) (R (aG true aD a0))
def A0F(a0:aB)(a1:aV)(R:T->Prop):Prop:=bB (Int×PUnit) (λX0 s1=>aC (decide (s1.1<(↑(BRH a0).length:Int))) (aR bC (BRH a0) s1.1 λ(y2:bR)=>aC (decide (y2.1=a1.2.1)) (aC (decide (s1.1<0)) (BR7 a0 R) (bL (((BRH a0).all λ(r:List T)=>decide (r.length=3)) && decide ((BRH a0).length*40<=140737488355328) && decide ((BRH a0).length<=140737488355328)) (bW bC (KJ (BRH a0) (BRY s1)) λ(y3:List bR)=>R (BRV a0 y3)))) (BQ9 X0 s1)) (BR7 a0 R)) (0,())
abbrev A8T:Sh:=[(true,aD),(true,aM)]
def WE:List T->Option T:=gS A8T ME
def A42 {a0 a1}:WE [aG true aD a0,aG true aM a1]=ME (a0,a1):=bH (s:=A8T) rfl (a0,a1) rfl
def BKE:qU Tryz.prog 157 WE ME (cG A8T) A0F:=gV (a1:=(true,aD)) (a2:=(true,aM)) (sp:=ME) (F:=A0F) (Hs:=BMY) (f:=157) (k:=8) BAP aY a6 (aO rfl) ⟨_,_,Tryz.func157,rfl⟩ rfl λ_ _ _=>by kernel_rfl
def BIB:aP Tryz.prog 157 WE:=BKE λd x r h hb=>by
 clear hb;have hp:wY d=true:=by
  unfold ME at h;split at h
  ·assumption
  ·cases h
 have e:Sh.enc [(true,aD)] (AQP d x)=r:=by
  unfold ME at h;rw[show wY (d,x).1=true from hp] at h;exact Option.some.inj h
 subst e;clear h;have c:=eN hp;have hd:=yM (r:=bC) (l:=d.2.1) (z:=3) (b:=40) rfl (dU c.n (by decide));unfold A0F BR7 BRY BRV BRH BRD BRC BQ8 BQ9 BRF;refine cY (r:=bC) (λy=>cS (fC x) y) (pU c.n) (λX k y hk hy hp hn=>?_) (λh _=>?_)
 ·dsimp only;refine cA (λh=>?_) λh=>hn (aj h);obtain ⟨hi,_⟩:=hp (ai h);refine cA (λh=>by omega) λ_=>⟨hd,?_⟩
  refine eK (r:=bC) (l:=d.2.1.take k++d.2.1.drop (k+1)) (J5 (r:=bC) rfl hk c.n) _ ?_;unfold AQP fV;rw[show List.findIdx (cS (fC x)) d.2.1=k from hi];rfl
 ·refine ⟨hd,?_⟩;unfold AQP;rw[yL (is:=cS (fC x)) h];rfl
def AQR (d:aB) (x:aV):aB:=(d.1,d.2.1,fV (cS (fC x)) d.2.2.1,d.2.2.2)
def MG (x:aB×aV):Option T:=match wY x.1 with
 | true=>some (Sh.enc [(true,aD)] (AQR x.1 x.2))
 | false=>none
def BME:Env:=Env.of [(106,.dup 18 208),(286,.grow 18 KK)]
def BM0:FuncId->Hint:=b8 185 [(2,.inv [.val 8 false (.int .i64)])] (λ_=>bA)
def BAR:aU Tryz.prog BME:=aU.cons (x:=.dup 18 208) E3 (.cons ALH (.nil _))
def BRR(a0:aB)(y3:List a8):T:=T.agg [pPQ a0.1,T.sl false (BRH a0), T.sl false (List.map aN.enc y3), T.sl false (BRD a0), T.sl false (BQ8 a0), T.sl false (BRF a0)]
def BR6(a0:aB)(R:T->Prop):Prop:=bL (((BRC a0).all λ(r:List T)=>decide (r.length=18)) && decide ((BRC a0).length*208<=140737488355328) && decide ((BRC a0).length<=140737488355328)) (R (aG true aD a0))
def A0H(a0:aB)(a1:aV)(R:T->Prop):Prop:=bB (Int×PUnit) (λX0 s1=>aC (decide (s1.1<(↑(BRC a0).length:Int))) (aR aN (BRC a0) s1.1 λ(y2:a8)=>aC (decide (y2.1=a1.2.1)) (aC (decide (s1.1<0)) (BR6 a0 R) (bL (((BRC a0).all λ(r:List T)=>decide (r.length=18)) && decide ((BRC a0).length*208<=140737488355328) && decide ((BRC a0).length<=140737488355328)) (bW aN (KK (BRC a0) (BRY s1)) λ(y3:List a8)=>R (BRR a0 y3)))) (BQ9 X0 s1)) (BR6 a0 R)) (0,())
abbrev A8V:Sh:=[(true,aD),(true,aM)]
def WH:List T->Option T:=gS A8V MG
def A44 {a0 a1}:WH [aG true aD a0,aG true aM a1]=MG (a0,a1):=bH (s:=A8V) rfl (a0,a1) rfl
def BKG:qU Tryz.prog 176 WH MG (cG A8V) A0H:=gV (a1:=(true,aD)) (a2:=(true,aM)) (sp:=MG) (F:=A0H) (Hs:=BM0) (f:=176) (k:=8) BAR aY a6 (aO rfl) ⟨_,_,Tryz.func176,rfl⟩ rfl λ_ _ _=>by kernel_rfl
def BID:aP Tryz.prog 176 WH:=BKG λd x r h hb=>by
 clear hb;have hp:wY d=true:=by
  unfold MG at h;split at h
  ·assumption
  ·cases h
 have e:Sh.enc [(true,aD)] (AQR d x)=r:=by
  unfold MG at h;rw[show wY (d,x).1=true from hp] at h;exact Option.some.inj h
 subst e;clear h;have c:=eN hp;have hd:=yM (r:=aN) (l:=d.2.2.1) (z:=18) (b:=208) rfl (dU c.p (by decide));unfold A0H BR6 BRY BRR BRH BRD BRC BQ8 BQ9 BRF;refine cY (r:=aN) (λy=>cS (fC x) y) (pU c.p) (λX k y hk hy hp hn=>?_) (λh _=>?_)
 ·dsimp only;refine cA (λh=>?_) λh=>hn (aj h);obtain ⟨hi,_⟩:=hp (ai h);refine cA (λh=>by omega) λ_=>⟨hd,?_⟩
  refine eK (r:=aN) (l:=d.2.2.1.take k++d.2.2.1.drop (k+1)) (J5 (r:=aN) rfl hk c.p) _ ?_;unfold AQR fV;rw[show List.findIdx (cS (fC x)) d.2.2.1=k from hi];rfl
 ·refine ⟨hd,?_⟩;unfold AQR;rw[yL (is:=cS (fC x)) h];rfl
def AQT (d:aB) (x:aV):aB:=(d.1,d.2.1,d.2.2.1,fV (cS (fC x)) d.2.2.2.1,d.2.2.2.2)
def MI (x:aB×aV):Option T:=match wY x.1 with
 | true=>some (Sh.enc [(true,aD)] (AQT x.1 x.2))
 | false=>none
def BMG:Env:=Env.of [(104,.dup 6 72),(289,.grow 6 KL)]
def BM2:FuncId->Hint:=b8 282 [(2,.inv [.val 8 false (.int .i64)])] (λ_=>bA)
def BAT:aU Tryz.prog BMG:=aU.cons (x:=.dup 6 72) E4 (.cons ALI (.nil _))
def BR8(a0:aB)(R:T->Prop):Prop:=bL (((BRD a0).all λ(r:List T)=>decide (r.length=6)) && decide ((BRD a0).length*72<=140737488355328) && decide ((BRD a0).length<=140737488355328)) (R (aG true aD a0))
def A0J(a0:aB)(a1:aV)(R:T->Prop):Prop:=bB (Int×PUnit) (λX0 s1=>aC (decide (s1.1<(↑(BRD a0).length:Int))) (aR bD (BRD a0) s1.1 λ(y2:bU)=>aC (decide (y2.1=a1.2.1)) (aC (decide (s1.1<0)) (BR8 a0 R) (bL (((BRD a0).all λ(r:List T)=>decide (r.length=6)) && decide ((BRD a0).length*72<=140737488355328) && decide ((BRD a0).length<=140737488355328)) (bW bD (KL (BRD a0) (BRY s1)) λ(y3:List bU)=>R (BRW a0 y3)))) (BQ9 X0 s1)) (BR8 a0 R)) (0,())
abbrev A8X:Sh:=[(true,aD),(true,aM)]
def WJ:List T->Option T:=gS A8X MI
def A46 {a0 a1}:WJ [aG true aD a0,aG true aM a1]=MI (a0,a1):=bH (s:=A8X) rfl (a0,a1) rfl
def BKI:qU Tryz.prog 205 WJ MI (cG A8X) A0J:=gV (a1:=(true,aD)) (a2:=(true,aM)) (sp:=MI) (F:=A0J) (Hs:=BM2) (f:=205) (k:=8) BAT aY a6 (aO rfl) ⟨_,_,Tryz.func205,rfl⟩ rfl λ_ _ _=>by kernel_rfl
def BIF:aP Tryz.prog 205 WJ:=BKI λd x r h hb=>by
 clear hb;have hp:wY d=true:=by
  unfold MI at h;split at h
  ·assumption
  ·cases h
 have e:Sh.enc [(true,aD)] (AQT d x)=r:=by
  unfold MI at h;rw[show wY (d,x).1=true from hp] at h;exact Option.some.inj h
 subst e;clear h;have c:=eN hp;have hd:=yM (r:=bD) (l:=d.2.2.2.1) (z:=6) (b:=72) rfl (dU c.s (by decide));unfold A0J BR8 BRY BRW BRH BRD BRC BQ8 BQ9 BRF;refine cY (r:=bD) (λy=>cS (fC x) y) (pU c.s) (λX k y hk hy hp hn=>?_) (λh _=>?_)
 ·dsimp only;refine cA (λh=>?_) λh=>hn (aj h);obtain ⟨hi,_⟩:=hp (ai h);refine cA (λh=>by omega) λ_=>⟨hd,?_⟩
  refine eK (r:=bD) (l:=d.2.2.2.1.take k++d.2.2.2.1.drop (k+1)) (J5 (r:=bD) rfl hk c.s) _ ?_;unfold AQT fV;rw[show List.findIdx (cS (fC x)) d.2.2.2.1=k from hi];rfl
 ·refine ⟨hd,?_⟩;unfold AQT;rw[yL (is:=cS (fC x)) h];rfl
def ABG (d:aB) (x:aV):aB:=(d.1,d.2.1,d.2.2.1,d.2.2.2.1,fV (cS (fC x)) d.2.2.2.2.1,d.2.2.2.2.2)
def B9 (x:aB×aV):Option T:=match wY x.1 with
 | true=>some (Sh.enc [(true,aD)] (ABG x.1 x.2))
 | false=>none
def BGW:Env:=Env.of [(107,.dup 5 88),(290,.grow 5 nO)]
def BHC:FuncId->Hint:=b8 277 [(2,.inv [.val 8 false (.int .i64)])] (λ_=>bA)
def AZJ:aU Tryz.prog BGW:=aU.cons (x:=.dup 5 88) oX (.cons D1 (.nil _))
def BRS(a0:aB)(y3:List aQ):T:=T.agg [pPQ a0.1,T.sl false (BRH a0), T.sl false (BRC a0), T.sl false (BRD a0), T.sl false (List.map aH.enc y3), T.sl false (BRF a0)]
def AJX(a0:aB)(a1:aV)(R:T->Prop):Prop:=bB (Int×PUnit) (λX0 s1=>aC (decide (s1.1<(↑(BQ8 a0).length:Int))) (aR aH (BQ8 a0) s1.1 λ(y2:aQ)=>aC (decide (y2.1=a1.2.1)) (aC (decide (s1.1<0)) (bL (((BQ8 a0).all λ(r:List T)=>decide (r.length=5)) && decide ((BQ8 a0).length*88<=140737488355328) && decide ((BQ8 a0).length<=140737488355328)) (R (aG true aD a0))) (bL (((BQ8 a0).all λ(r:List T)=>decide (r.length=5)) && decide ((BQ8 a0).length*88<=140737488355328) && decide ((BQ8 a0).length<=140737488355328)) (bW aH (nO (BQ8 a0) (BRY s1)) λ(y3:List aQ)=>R (BRS a0 y3)))) (BQ9 X0 s1)) (bL (((BQ8 a0).all λ(r:List T)=>decide (r.length=5)) && decide ((BQ8 a0).length*88<=140737488355328) && decide ((BQ8 a0).length<=140737488355328)) (R (aG true aD a0)))) (0,())
abbrev ANS:Sh:=[(true,aD),(true,aM)]
def KM:List T->Option T:=gS ANS B9
def AU7 {a0 a1}:KM [aG true aD a0,aG true aM a1]=B9 (a0,a1):=bH (s:=ANS) rfl (a0,a1) rfl
def BER:qU Tryz.prog 226 KM B9 (cG ANS) AJX:=gV (a1:=(true,aD)) (a2:=(true,aM)) (sp:=B9) (F:=AJX) (Hs:=BHC) (f:=226) (k:=8) AZJ aY a6 (aO rfl) ⟨_,_,Tryz.func226,rfl⟩ rfl λ_ _ _=>by kernel_rfl
def BC5:aP Tryz.prog 226 KM:=BER λd x r h hb=>by
 clear hb;have hp:wY d=true:=by
  unfold B9 at h;split at h
  ·assumption
  ·cases h
 have e:Sh.enc [(true,aD)] (ABG d x)=r:=by
  unfold B9 at h;rw[show wY (d,x).1=true from hp] at h;exact Option.some.inj h
 subst e;clear h;have c:=eN hp;have hd:=yM (r:=aH) (l:=d.2.2.2.2.1) (z:=5) (b:=88) rfl (dU c.k (by decide));unfold AJX BRY BRS BRH BRD BRC BQ8 BQ9 BRF;refine cY (r:=aH) (λy=>cS (fC x) y) (pU c.k) (λX k y hk hy hp hn=>?_) (λh _=>?_)
 ·dsimp only;refine cA (λh=>?_) λh=>hn (aj h);obtain ⟨hi,_⟩:=hp (ai h);refine cA (λh=>by omega) λ_=>⟨hd,?_⟩
  refine eK (r:=aH) (l:=d.2.2.2.2.1.take k++d.2.2.2.2.1.drop (k+1)) (J5 (r:=aH) rfl hk c.k) _ ?_;unfold ABG fV;rw[show List.findIdx (cS (fC x)) d.2.2.2.2.1=k from hi];rfl
 ·refine ⟨hd,?_⟩;unfold ABG;rw[yL (is:=cS (fC x)) h];rfl
def AQQ (d:aB) (x:aV):aB:=(d.1,d.2.1,j2 dR d.2.2.1 (cQ x),d.2.2.2)
def MF (x:aB×aV):Option T:=match wY x.1&&gC (cQ x.2) with
 | true=>some (Sh.enc [(true,aD)] (AQQ x.1 x.2))
 | false=>none
def BMD:Env:=Env.of [(108,.pure iY),(106,.dup 18 208),(285,.grow 18 uU)]
def BMZ:FuncId->Hint:=b8 185 [(2,.inv [.val 8 false (.int .i64)])] (λ_=>bA)
def BAQ:aU Tryz.prog BMD:=.cons wH (aU.cons (x:=.dup 18 208) E3 (.cons ALK (.nil _)))
def BRA(y0:a8):List T:=[pPQ y0.1,pPP y0.2.1, pPP y0.2.2.1, pPQ y0.2.2.2.1, pPQ y0.2.2.2.2.1, pPP y0.2.2.2.2.2.1, T.sl false (List.map aA.enc y0.2.2.2.2.2.2.1.1), T.sl false (List.map aA.li.enc y0.2.2.2.2.2.2.1.2), pPQ y0.2.2.2.2.2.2.2.1, pPP y0.2.2.2.2.2.2.2.2.1, pPP y0.2.2.2.2.2.2.2.2.2.1, pPP y0.2.2.2.2.2.2.2.2.2.2.1.1, pPP y0.2.2.2.2.2.2.2.2.2.2.1.2.1, pPP y0.2.2.2.2.2.2.2.2.2.2.1.2.2, pPP y0.2.2.2.2.2.2.2.2.2.2.2.1.1, pPP y0.2.2.2.2.2.2.2.2.2.2.2.1.2.1, pPP y0.2.2.2.2.2.2.2.2.2.2.2.1.2.2, pPP y0.2.2.2.2.2.2.2.2.2.2.2.2]
def BRX(a0:aB)(y0:a8)(R:T->Prop):Prop:=bL (((BRC a0).all λ(r:List T)=>decide (r.length=18)) && decide ((BRC a0).length*208<=140737488355328) && decide ((BRC a0).length<=140737488355328)) (bW aN (uU (BRC a0) [pPP (↑(BRC a0).length:Int), T.sl true [(BRA y0)]]) λ(y4:List a8)=>R (BRR a0 y4))
def A0G(a0:aB)(a1:aV)(R:T->Prop):Prop:=aJ [(true,aN)] (iY [aG true aN a1.2.2.2.2.1]) λ(y0:a8)=>bB (Int×PUnit) (λX1 s2=>aC (decide (s2.1<(↑(BRC a0).length:Int))) (aR aN (BRC a0) s2.1 λ(y3:a8)=>aC (!(cK y3.1 y0.1||decide (y3.1=y0.1))) (aC (decide (s2.1<0)) (BRX a0 y0 R) (bL (((BRC a0).all λ(r:List T)=>decide (r.length=18)) && decide ((BRC a0).length*208<=140737488355328) && decide ((BRC a0).length<=140737488355328)) (bW aN (uU (BRC a0) [pPP s2.1, T.sl true [(BRA y0)]]) λ(y5:List a8)=>R (BRR a0 y5)))) (BQ9 X1 s2)) (BRX a0 y0 R)) (0,())
abbrev A8U:Sh:=[(true,aD),(true,aM)]
def WG:List T->Option T:=gS A8U MF
def A43 {a0 a1}:WG [aG true aD a0,aG true aM a1]=MF (a0,a1):=bH (s:=A8U) rfl (a0,a1) rfl
def BKF:qU Tryz.prog 169 WG MF (cG A8U) A0G:=gV (a1:=(true,aD)) (a2:=(true,aM)) (sp:=MF) (F:=A0G) (Hs:=BMZ) (f:=169) (k:=8) BAQ aY a6 (aO rfl) ⟨_,_,Tryz.func169,rfl⟩ rfl λ_ _ _=>by kernel_rfl
def BIC:aP Tryz.prog 169 WG:=BKF λd x r h hb=>by
 clear hb;have hq:(wY d&&gC (cQ x))=true:=by
  unfold MF at h;split at h
  ·assumption
  ·cases h
 have e:Sh.enc [(true,aD)] (AQQ d x)=r:=by
  unfold MF at h;rw[show (wY (d,x).1&&gC (cQ (d,x).2))=true from hq] at h;exact Option.some.inj h
 subst e;clear h;rw[ac] at hq;obtain ⟨hp,ho⟩:=hq;have c:=eN hp;have hd:=yM (r:=aN) (l:=d.2.2.1) (z:=18) (b:=208) rfl (dU c.p (by decide));unfold A0G BRX BRR BRH BRD BRC BRA BQ8 BQ9 BRF;refine aF (s:=[(true,aN)]) (y:=cQ x) ((wJ ..).trans (by unfold jU;rw[ho])) ?_;refine cY (r:=aN) (λy=>dR y (cQ x)) (pU c.p) (λX k y hk hy hp hn=>?_) (λh _=>?_)
 ·dsimp only;rw[rA];refine sX (λh=>?_) λh=>hn h;obtain ⟨hi,_⟩:=hp h;refine cA (λh=>by omega) λ_=>⟨hd,?_⟩
  refine eK (r:=aN) (l:=d.2.2.1.take k++cQ x::d.2.2.1.drop k) (tX (r:=aN) (x:=cQ x) rfl (by omega) c.p (by decide)) _ ?_;unfold AQQ j2;rw[hi];rfl
 ·refine ⟨hd,?_⟩;rw[show (((List.map (aN).enc d.2.2.1).length:Nat):Int)=(((d.2.2.1).length:Nat):Int) by rw[ae]];refine eK (r:=aN) (l:=d.2.2.1.take (d.2.2.1).length++cQ x::d.2.2.1.drop (d.2.2.1).length) (tX (r:=aN) (x:=cQ x) rfl (al _) c.p (by decide)) _ ?_;unfold AQQ j2;rw[h];rfl
def AQU (d:aB) (x:aV):aB:=(d.1,d.2.1,d.2.2.1,d.2.2.2.1,j2 dR d.2.2.2.2.1 (iN x),d.2.2.2.2.2)
def MJ (x:aB×aV):Option T:=match wY x.1&&fF (iN x.2) with
 | true=>some (Sh.enc [(true,aD)] (AQU x.1 x.2))
 | false=>none
def BMH:Env:=Env.of [(109,.pure oL),(107,.dup 5 88),(292,.grow 5 nP)]
def BM3:FuncId->Hint:=b8 277 [(2,.inv [.val 8 false (.int .i64)])] (λ_=>bA)
def BAU:aU Tryz.prog BMH:=.cons RJ (aU.cons (x:=.dup 5 88) oX (.cons U0 (.nil _)))
def BRU(y0:aQ):List T:=[pPQ y0.1,pPQ y0.2.1, T.sl false (BSA y0), pPP y0.2.2.2.1, T.sl false (BR0 y0)]
def BSG(a0:aB)(y0:aQ)(R:T->Prop):Prop:=bW aH (nP (BQ8 a0) [pPP (↑(BQ8 a0).length:Int), T.sl true [(BRU y0)]]) λ(y4:List aQ)=>R (BRS a0 y4)
def A0K(a0:aB)(a1:aV)(R:T->Prop):Prop:=aJ [(true,aH)] (oL [aG true aH a1.2.2.2.2.2.2.1]) λ(y0:aQ)=>bB (Int×PUnit) (λX1 s2=>aC (decide (s2.1<(↑(BQ8 a0).length:Int))) (aR aH (BQ8 a0) s2.1 λ(y3:aQ)=>aC (!(cK y3.1 y0.1||decide (y3.1=y0.1))) (aC (decide (s2.1<0)) (bL (((BQ8 a0).all λ(r:List T)=>decide (r.length=5)) && decide ((BQ8 a0).length*88<=140737488355328) && decide ((BQ8 a0).length<=140737488355328)) (BSG a0 y0 R)) (bL (((BQ8 a0).all λ(r:List T)=>decide (r.length=5)) && decide ((BQ8 a0).length*88<=140737488355328) && decide ((BQ8 a0).length<=140737488355328)) (bW aH (nP (BQ8 a0) [pPP s2.1, T.sl true [(BRU y0)]]) λ(y5:List aQ)=>R (BRS a0 y5)))) (BQ9 X1 s2)) (bL (((BQ8 a0).all λ(r:List T)=>decide (r.length=5)) && decide ((BQ8 a0).length*88<=140737488355328) && decide ((BQ8 a0).length<=140737488355328)) (BSG a0 y0 R))) (0,())
abbrev A8Y:Sh:=[(true,aD),(true,aM)]
def WK:List T->Option T:=gS A8Y MJ
def A47 {a0 a1}:WK [aG true aD a0,aG true aM a1]=MJ (a0,a1):=bH (s:=A8Y) rfl (a0,a1) rfl
def BKJ:qU Tryz.prog 218 WK MJ (cG A8Y) A0K:=gV (a1:=(true,aD)) (a2:=(true,aM)) (sp:=MJ) (F:=A0K) (Hs:=BM3) (f:=218) (k:=8) BAU aY a6 (aO rfl) ⟨_,_,Tryz.func218,rfl⟩ rfl λ_ _ _=>by kernel_rfl
def BIG:aP Tryz.prog 218 WK:=BKJ λd x r h hb=>by
 clear hb;have hq:(wY d&&fF (iN x))=true:=by
  unfold MJ at h;split at h
  ·assumption
  ·cases h
 have e:Sh.enc [(true,aD)] (AQU d x)=r:=by
  unfold MJ at h;rw[show (wY (d,x).1&&fF (iN (d,x).2))=true from hq] at h;exact Option.some.inj h
 subst e;clear h;rw[ac] at hq;obtain ⟨hp,ho⟩:=hq;have c:=eN hp;have hd:=yM (r:=aH) (l:=d.2.2.2.2.1) (z:=5) (b:=88) rfl (dU c.k (by decide));unfold A0K BSG BRU BRS BR0 BRH BSA BRD BRC BQ8 BQ9 BRF;refine aF (s:=[(true,aH)]) (y:=iN x) ((G5 ..).trans (by unfold kU;rw[ho])) ?_;refine cY (r:=aH) (λy=>dR y (iN x)) (pU c.k) (λX k y hk hy hp hn=>?_) (λh _=>?_)
 ·dsimp only;rw[rA];refine sX (λh=>?_) λh=>hn h;obtain ⟨hi,_⟩:=hp h;refine cA (λh=>by omega) λ_=>⟨hd,?_⟩
  refine eK (r:=aH) (l:=d.2.2.2.2.1.take k++iN x::d.2.2.2.2.1.drop k) (tX (r:=aH) (x:=iN x) rfl (by omega) c.k (by decide)) _ ?_;unfold AQU j2;rw[hi];rfl
 ·refine ⟨hd,?_⟩;rw[show (((List.map (aH).enc d.2.2.2.2.1).length:Nat):Int)=(((d.2.2.2.2.1).length:Nat):Int) by rw[ae]];refine eK (r:=aH) (l:=d.2.2.2.2.1.take (d.2.2.2.2.1).length++iN x::d.2.2.2.2.1.drop (d.2.2.2.2.1).length) (tX (r:=aH) (x:=iN x) rfl (al _) c.k (by decide)) _ ?_;unfold AQU j2;rw[h];rfl
def R1:List T->Option T:=fY
def APL:P9 Tryz.prog 69 2 R1 :=
 A7V (E:=AIJ) (Hs:=AKB) AC0 aY a6 (aO rfl) 8 ⟨_,_,Tryz.func69,rfl⟩ (s:=TC) rfl λd r h hb=>by
  have hp:wY d=true:=by
   unfold tH at h;split at h
   ·assumption
   ·cases h
  have e:Sh.enc [(true,aD)] d=r:=by
   unfold tH at h;rw[hp] at h;exact Option.some.inj h
  subst e;rw[show ACN cD Tryz.prog AIJ AKB 8 2 69 (Sh.mP TC d) (λy=>y=Sh.enc [(true,aD)] d)=PC d (λy=>y=Sh.enc [(true,aD)] d) from by kernel_rfl];exact A25 hp
def ACF (x:aV):Option T:=some (Sh.enc [(true,aM)] ((x.1,oQ,oQ,iS,cQ x,iT,noPack,qF):aV))
def BMN:Env:=Env.of []
def BM9:FuncId->Hint:=λ_=>bA
def BA5:aU Tryz.prog BMN:=.nil _
def A00(a0:aV)(R:T->Prop):Prop:=R (BRB a0)
abbrev A84:Sh:=[(true,aM)]
def WW:List T->Option T:=gS A84 ACF
def A5H {a0}:WW [aG true aM a0]=ACF (a0):=bH (s:=A84) rfl (a0) rfl
def BKU:xX Tryz.prog 181 WW ACF (cG A84) A00:=kC (a1:=(true,aM)) (sp:=ACF) (F:=A00) (Hs:=BM9) (f:=181) (k:=8) BA5 aY a6 (aO rfl) ⟨_,_,Tryz.func181,rfl⟩ rfl λ_ _=>by kernel_rfl
def BIT:aP Tryz.prog 181 WW:=BKU λx r h hb=>by
 cases h;unfold A00 BRB;rfl
def ACG (x:aV):Option T:=some (Sh.enc [(true,aM)] ((x.1,fC x,eTo x,iS,eJ,iT,noPack,qF):aV))
def BMO:Env:=Env.of []
def BNA:FuncId->Hint:=λ_=>bA
def BA6:aU Tryz.prog BMO:=.nil _
def A01(a0:aV)(R:T->Prop):Prop:=R (T.agg [pPP a0.1,pPQ a0.2.1, pPQ a0.2.2.1,pPQ ({data:=#[]}), pPP 0,pPQ ({data:=#[]}), pPQ ({data:=#[]}),pPP 0, pPP 0,pPQ ({data:=#[]}), pPQ ({data:=#[]}),pPP 0,T.sl false [], T.sl false [],pPQ ({data:=#[]}),pPP 0, pPP 0,pPP 0, pPP 0,pPP 0, pPP 0,pPP 0, pPP 0,pPP 0, pPQ ({data:=#[]}),pPQ ({data:=#[]}), pPQ ({data:=#[]}),pPP 0, pPP 0,pPP 0, pPQ ({data:=#[]}),pPQ ({data:=#[]}),T.sl false [], pPP 0,T.sl false [],pPP 0, pPQ ({data:=#[]}),pPQ ({data:=#[]})])
abbrev A85:Sh:=[(true,aM)]
def WX:List T->Option T:=gS A85 ACG
def A5I {a0}:WX [aG true aM a0]=ACG (a0):=bH (s:=A85) rfl (a0) rfl
def BKV:xX Tryz.prog 189 WX ACG (cG A85) A01:=kC (a1:=(true,aM)) (sp:=ACG) (F:=A01) (Hs:=BNA) (f:=189) (k:=8) BA6 aY a6 (aO rfl) ⟨_,_,Tryz.func189,rfl⟩ rfl λ_ _=>by kernel_rfl
def BIU:aP Tryz.prog 189 WX:=BKV λx r h hb=>by
 cases h;unfold A01;rfl
end
end Go.Pv
