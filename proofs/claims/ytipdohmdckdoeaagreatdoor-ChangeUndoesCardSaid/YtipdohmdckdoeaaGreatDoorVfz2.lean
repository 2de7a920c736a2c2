/-
  poly.Where; region: edges, within, apart, Check, Area2.
  region: Check, Area2.
  vec.Valid; material: Check, Grade, Rolled.
  And what these ask for.
-/
import Derived.Test.YtipdohmdckdoeaaGreatDoorVfz1
import Derived.Sort.Walk0
import Derived.Test.YtipdohmdckdoeaaGreatDoorVfkp
set_option linter.defProp false
set_option linter.unusedSimpArgs false
set_option linter.unusedVariables false
set_option maxRecDepth 100000
noncomputable section
namespace Go.Pv
open Go Go.Proofs IntKind
def AMS (p:List Pt) (q:Pt):Bool:=(List.range p.length).any λi=>WE (pt p i) (nx p i) q
def jA (p:List Pt) (q:Pt):Int:=if ¬ eC q\/¬ lB p=0 then -1 else if AMS p q=true then 0 else if BBB p q=true then 1 else -1
def yX {n:Nat} {f:Nat->Bool}:(List.range n).any f=true↔∃ i,i<n/\f i=true:=by simp[List.any_eq_true,List.mem_range]
def AGV {n:Nat} {f:Nat->Bool} (h:∀ i,i<n->f i=false):(List.range n).any f=false:=by
 rw[Bool.eq_false_iff];intro ha;obtain ⟨i,hi,h2⟩:=yX.1 ha;rw[h i hi] at h2;cases h2
def A24 {a b q:Pt} (ho:WE a b q=false):hit a b q=(!(decide (q.2<a.2) == decide (q.2<b.2))&&(decide (0<eP a b q) == decide (a.2<b.2))):=by
 rcases Int.lt_or_le q.2 a.2 with h1|h1
 ·rcases Int.lt_or_le q.2 b.2 with h2|h2
  ·unfold hit;simp[show ¬ a.2<=q.2 by omega,show ¬ b.2<=q.2 by omega,h1,h2]
  ·have hz:eP a b q≠0:=λh=>by
    have:=BCN (a:=b) (b:=a) (q:=q) (by rw[NC a b q,h];rfl) (by omega) h2 (by omega);rw[BCM] at this;rw[this] at ho;cases ho
   have h3:decide (0<eP a b q) = !decide (eP a b q<0):=by
    rcases Int.lt_or_le (eP a b q) 0 with h|h
    ·rw[ai h,aj (by omega)];rfl
    ·rw[aj (show ¬ eP a b q<0 by omega),ai (by omega)];rfl
   unfold hit;rw[h3];simp[show ¬ a.2<=q.2 by omega,h1,h2,show ¬ q.2<b.2 by omega,show ¬ a.2<b.2 by omega]
 ·rcases Int.lt_or_le q.2 b.2 with h2|h2
  ·unfold hit;simp[h1,show ¬ q.2<a.2 by omega,h2,show ¬ b.2<=q.2 by omega,show a.2<b.2 by omega]
  ·unfold hit;simp[show ¬ q.2<a.2 by omega,show ¬ q.2<b.2 by omega]
def AU6:Env:=Env.of [(310,.pure iG),(340,.pure CK),(361,.pure xS),(356,.pure gW)]
def AYV:FuncId->Hint:=cF 346 [(5,.inv [.val 5 false .bool,.val 19 false (.int .i64)])] (λ_=>a6)
def AFH:aR Tryz.prog AU6:=.cons CG (.cons AL1 (.cons A0T (.cons zJ (.nil _))))
def BPG:Sh:=[(false,Sy.int IntKind.i64)]
def BPI:Sh:=[(false,Sy.bool)]
def BPJ:T:=pPP 0
def BPP:T:=pPP (-1)
def BPU:T:=pPP 1
def BQK(a0:List aU):List (List T):=List.map aC.enc a0
def L6(a0:List aU)(a1:aU)(R:T->Prop):Prop:=aM BPI (CK [aF true aC a1]) λ(y0:Bool)=>aD y0 (R BPP) (aM BPG (iG [T.sl false (BQK a0)]) λ(y1:Int)=>aD (!decide (y1=0)) (R BPP) (a8 (Bool×Int×PUnit) (λX2 s3=>aD (decide (s3.2.1<(↑(BQK a0).length:Int))) (aX aC (BQK a0) s3.2.1 λ(y4:aU)=>b7 (!decide ((↑(BQK a0).length:Int)=0)) (aX aC (BQK a0) ((i64.wrap (s3.2.1+1)).tmod (↑(BQK a0).length:Int)) λ(y5:aU)=>aM BPI (xS [aF true aC y4,aF true aC y5, aF true aC a1]) λ(y6:Bool)=>aD y6 (R BPJ) (aD (decide (decide (a1.2<y4.2)=decide (a1.2<y5.2))) (X2 (s3.1,i64.wrap (s3.2.1+1),())) (aM BPG (gW [aF true aC y4,aF true aC y5, aF true aC a1]) λ(y7:Int)=>aD (decide (decide (0<y7)=decide (y4.2<y5.2))) (X2 (!s3.1,i64.wrap (s3.2.1+1),())) (X2 (s3.1,i64.wrap (s3.2.1+1),())))))) (aD s3.1 (R BPU) (R BPP))) (false,0,())))
abbrev PQ:Sh:=[(false,aC.li),(true,aC)]
def AK (x:List aU×aU):Option T:=some (T.v (Value.int .i64 (jA x.1 x.2)))
def nA:List T->Option T:=gS PQ AK
def ABZ {a0 a1}:nA [T.sl false (List.map aC.enc a0),aF true aC a1]=AK (a0,a1):=bH (s:=PQ) rfl (a0,a1) rfl
def AS1:tG Tryz.prog 346 nA AK (cQ PQ) L6:=iR (a1:=(false,aC.li)) (a2:=(true,aC)) (Hs:=AYV) (k:=8) AFH aV aY (aN rfl) ⟨_,_,Tryz.func346,rfl⟩ rfl λ_ _ _=>by kernel_rfl
def xB (p q:List Pt):Bool:=(List.range p.length).any λi=>(List.range q.length).any λk=>nD (pt p i) (nx p i) (pt q k) (nx q k)
def mN (a0:List aU) (a1:List aU):List T:=[T.sl false (List.map aC.enc a0),T.sl false (List.map aC.enc a1),T.fn 344 [] []]
def LO:Env:=Env.of [(344,.pure xW)]
def ZN:FuncId->Hint:=cF 343 [(2,.inv [.val 13 false (.int .i64)]),(5,.inv [.val 20 false (.int .i64)])] (λ_=>a6)
def AFN:aR Tryz.prog LO:=.cons AQ7 (.nil _)
def BPE:T:=pPR false
def BPL:T:=pPR true
def BP4(X3:Int×PUnit->Prop)(s4:Int×PUnit):Prop:=X3 (i64.wrap (s4.1+1),())
def MC(a0:List aU)(a1:List aU)(R:T->Prop):Prop:=a8 (Int×PUnit) (λX0 s1=>aD (decide (s1.1<(↑(BQK a0).length:Int))) (aX aC (BQK a0) s1.1 λ(y2:aU)=>a8 (Int×PUnit) (λX3 s4=>aD (decide (s4.1<(↑(BQK a1).length:Int))) (aX aC (BQK a1) s4.1 λ(y5:aU)=>b7 (!decide ((↑(BQK a0).length:Int)=0)) (aX aC (BQK a0) ((i64.wrap (s1.1+1)).tmod (↑(BQK a0).length:Int)) λ(y6:aU)=>b7 (!decide ((↑(BQK a1).length:Int)=0)) (aX aC (BQK a1) ((i64.wrap (s4.1+1)).tmod (↑(BQK a1).length:Int)) λ(y7:aU)=>aM BPI (xW [aF true aC y2,aF true aC y6, aF true aC y5,aF true aC y7]) λ(y8:Bool)=>aD y8 (R BPL) (BP4 X3 s4)))) (BP4 X0 s1)) (0,())) (R BPE)) (0,())
def ZD ( a0 a1 R):dM bX Tryz.prog LO ZN 8 343 (mN a0 a1) R=MC a0 a1 R:=by kernel_rfl
variable {α:Type}
def O4 (p q:List Pt) (r:α):Option α:=match Q5 p&&Q5 q with
 | true=>some r
 | false=>none
def O5 {p q:List Pt} {t r:α} (h:O4 p q t=some r):p.length<=1000/\kY p/\q.length<=1000/\kY q/\r=t:=by
 unfold O4 at h;split at h
 ·rename_i hc;simp only[Q5,ac,ah,n7] at hc;cases h;exact ⟨hc.1.1,hc.1.2,hc.2.1,hc.2.2,rfl⟩
 ·cases h
def O6 {p q:List Pt} (t:α) (h:p.length<=1000) (h2:kY p) (h3:q.length<=1000) (h4:kY q):O4 p q t=some t:=by
 unfold O4;rw[show (Q5 p&&Q5 q)=true by simp only[Q5,ac,ah,n7];exact ⟨⟨h,h2⟩,h3,h4⟩]
def IY (x:List aU×List aU):Option T:=O4 x.1 x.2 (pPR (xB x.1 x.2))
def T2 (x y:List aU×List aU) (h:mN x.1 x.2=mN y.1 y.2):x=y:=by
 unfold mN at h;obtain ⟨h1,h2⟩:=List.cons.inj h;have h2:=(List.cons.inj h2).1;exact Prod.ext (map_inj (Sy.eU aC) (T.sl.inj h1).2) (map_inj (Sy.eU aC) (T.sl.inj h2).2)
def oN:List T->Option (T):=gA (λ(x:List aU×List aU)=>mN x.1 x.2) IY
def AB7 (a0:List aU) (a1:List aU):oN (mN a0 a1)=IY (a0,a1):=dY (A:=(λ(x:List aU×List aU)=>mN x.1 x.2)) T2 (a0,a1)
def AS7 (h:∀ (a0:List aU) (a1:List aU) (r:T),IY (a0,a1)=some r->(∀ t∈mN a0 a1,Bd t)->MC a0 a1 (λy=>y=r)):aO Tryz.prog 343 oN :=
 cE (E:=LO) (Hs:=ZN) AFN aV aY (aN rfl) 8 ⟨_,_,Tryz.func343,rfl⟩ λx r h1 h2=>by
  rw[ZD];exact h x.1 x.2 r h1 h2
def SC:aO Tryz.prog 343 oN:=AS7 λp q r h hb=>by
 obtain ⟨hl,hn,hl2,hn2,rfl⟩:=O5 h;replace hl:p.length<=1000:=hl;replace hl2:q.length<=1000:=hl2;clear h;unfold MC BQK BP4 BPL BPI BPE;refine bN p.length (λk s=>s=((k:Int),())/\∀ i,i<k->i<p.length->((List.range q.length).any λk=>nD (pt p i) (nx p i) (pt q k) (nx q k))=false) ⟨rfl,λi h=>by omega⟩ ?_;rintro X k s hk ⟨rfl,hJ⟩ hX;dsimp only;refine cO (λhlt=>?_) λhge=>jQ (Eq.symm (AGV λi hi=>hJ i (by rw[ae] at hge;omega) hi));rw[ae] at hlt;have hlt:k<p.length:=by omega
 have hne:(!decide (((List.map aC.enc p).length:Int)=0))=true:=by rw[ae,aj (by omega)];rfl
 have hm1:(k+1) % p.length<p.length:=Nat.mod_lt _ (by omega);have i1:(i64.wrap ((k:Int)+1)).tmod ((List.map aC.enc p).length:Int)=(((k+1) % p.length:Nat):Int):=by rw[ae];exact vJ (c:=1) hl (by omega) (by omega)
 rw[fY hlt];refine bN q.length (λj s=>s=((j:Int),())/\∀ i,i<j->i<q.length->nD (pt p k) (nx p k) (pt q i) (nx q i)=false) ⟨rfl,λi h=>by omega⟩ ?_;rintro Y j s hj ⟨rfl,hI⟩ hY;dsimp only;refine cO (λhlj=>?_) λhgj=>hX _ hlt ⟨by rw[show i64.wrap ((k:Int)+1)=((k+1:Nat):Int) from bB _ (by omega) (by omega)],λi h1 h2=>by
  rcases Nat.lt_or_ge i k with h3|h3
  ·exact hJ i h3 h2
  ·have:i=k:=by omega
   subst this;exact AGV λm hm=>hI m (by rw[ae] at hgj;omega) hm⟩
 rw[ae] at hlj;have hlj:j<q.length:=by omega
 have hne2:(!decide (((List.map aC.enc q).length:Int)=0))=true:=by rw[ae,aj (by omega)];rfl
 have hm2:(j+1) % q.length<q.length:=Nat.mod_lt _ (by omega);have i2:(i64.wrap ((j:Int)+1)).tmod ((List.map aC.enc q).length:Int)=(((j+1) % q.length:Nat):Int):=by rw[ae];exact vJ (c:=1) hl2 (by omega) (by omega)
 rw[fY hlj,i1];refine ⟨hne,?_⟩;rw[fY hm1,i2];refine ⟨hne2,?_⟩;rw[fY hm2];refine aK (s:=[(false,.bool)]) ((ACD ..).trans (AC8 _ (hn.pt _) (hn.pt _) (hn2.pt _) (hn2.pt _))) ?_;refine DQ (λh=>jQ (Eq.symm (yX.2 ⟨k,hlt,yX.2 ⟨j,hlj,h⟩⟩))) λh=>hY _ hlj ⟨by rw[show i64.wrap ((j:Int)+1)=((j+1:Nat):Int) from bB _ (by omega) (by omega)],λi h1 h2=>by
  rcases Nat.lt_or_ge i j with h3|h3
  ·exact hI i h3 h2
  ·have:i=j:=by omega
   subst this;exact h⟩
def JE {p q:List Pt} (h:p.length<=1000) (h2:kY p) (h3:q.length<=1000) (h4:kY q):oN (mN p q)=some (Sh.enc [(false,.bool)] (xB p q)):=(AB7 ..).trans (O6 _ h h2 h3 h4)
def SA:aO Tryz.prog 346 nA:=AS1 λp q r h hb=>by
 cases h;have is:∀ {n:Int},jA p q=n->pPP n=pPP (jA p q):=λh=>by rw[h]
 unfold L6 BQK BPU BPP BPJ BPI BPG;refine aK (s:=[(false,.bool)]) (y:=!decide (eC q)) (SK ..) ?_;refine lK (λh=>is (by unfold jA;rw[if_pos (.inl h)])) λhq=>?_;refine aK (s:=[(false,.int .i64)]) (pO p) ?_;refine lK (λh=>is (by unfold jA;rw[if_pos (.inr h)])) λhp=>?_;obtain ⟨hl3,hl32,hn,_⟩:=uP hp;have w:jA p q=if AMS p q=true then 0 else if BBB p q=true then 1 else -1:=by
  unfold jA;rw[if_neg];rintro (h|h)
  ·exact h hq
  ·exact h hp
 refine bN p.length (λk s=>s=(A68 k (λi=>hit (pt p i) (nx p i) q),(k:Int),())/\∀ i,i<k->i<p.length->WE (pt p i) (nx p i) q=false) ⟨rfl,λi h=>by omega⟩ ?_;rintro X k s hk ⟨rfl,hJ⟩ hX;dsimp only;refine cO (λhlt=>?_) λhge=>?_
 ·rw[ae] at hlt;have hlt:k<p.length:=by omega
  have hne:(!decide (((List.map aC.enc p).length:Int)=0))=true:=by rw[ae,aj (by omega)];rfl
  have hm1:(k+1) % p.length<p.length:=Nat.mod_lt _ (by omega);have i1:(i64.wrap ((k:Int)+1)).tmod ((List.map aC.enc p).length:Int)=(((k+1) % p.length:Nat):Int):=by rw[ae];exact vJ (c:=1) (by omega) (by omega) (by omega)
  rw[fY hlt,i1];refine ⟨hne,?_⟩;rw[fY hm1];refine aK (s:=[(false,.bool)]) (xT (hn.pt _) (hn.pt _) hq) ?_;refine DQ (λh=>is (by rw[w,if_pos (show AMS p q=true from yX.2 ⟨k,hlt,h⟩)])) λho=>?_;have ho:WE (pt p k) (nx p k) q=false:=ho;have hw:i64.wrap ((k:Int)+1)=((k+1:Nat):Int):=bB _ (by omega) (by omega);have hh:=A24 ho;have hJ':∀ i,i<k+1->i<p.length->WE (pt p i) (nx p i) q=false:=λi h1 h2=>by
   rcases Nat.lt_or_ge i k with h3|h3
   ·exact hJ i h3 h2
   ·have:i=k:=by omega
    subst this;exact ho
  have step:∀ c,hit (pt p k) (nx p k) q=c->X ((A68 k (λi=>hit (pt p i) (nx p i) q) ^^ c),i64.wrap ((k:Int)+1),()):=λc hc=>hX _ hlt ⟨by rw[hw,A68,hc],hJ'⟩;refine cO (λh=>?_) λh=>?_
  ·have e:hit (pt p k) (nx p k) q=false:=by
    rw[hh,show decide (q.2<(pt p k).2)=decide (q.2<(nx p k).2) from h];simp
   have:=step false e;rwa[Bool.xor_false] at this
  ·refine aK (s:=[(false,.int .i64)]) (kF (hn.pt _) (hn.pt _) hq) ?_;have e0:hit (pt p k) (nx p k) q=(decide (0<eP (pt p k) (nx p k) q) == decide ((pt p k).2<(nx p k).2)):=by
    rw[hh,show (decide (q.2<(pt p k).2) == decide (q.2<(nx p k).2))=false from beq_eq_false_iff_ne.2 h];rfl
   refine cO (λh2=>?_) λh2=>?_
   ·have:=step true (by rw[e0];exact beq_iff_eq.2 h2);rwa[Bool.xor_true] at this
   ·have:=step false (by rw[e0];exact beq_eq_false_iff_ne.2 h2);rwa[Bool.xor_false] at this
 ·rw[ae] at hge;have:k=p.length:=by omega
  subst this;have hna:AMS p q=false:=AGV λi hi=>hJ i hi hi;refine DQ (λh=>is ?_) λh=>is ?_
  ·rw[w,hna,if_neg (by simp),if_pos (show BBB p q=true from h)]
  ·rw[w,hna,if_neg (by simp),if_neg (by rw[show BBB p q=false from h];simp)]
def xU (p:List Pt) (q:Pt):nA [T.sl false (List.map aC.enc p),aF true aC q]=some (Sh.enc [(false,.int .i64)] (jA p q)):=ABZ ..
def sL (p o:List Pt):Bool:=!xB p o&&p.all λc=>decide (jA o c=1)
def uZ (p q:List Pt):Bool:=!xB p q&&(decide (jA p (pt q 0)<0)&&decide (jA q (pt p 0)<0))
def AOO:Env:=Env.of [(346,.pure nA),(343,.pure oN)]
def APQ:FuncId->Hint:=cF 355 [(2,.inv [.val 8 false (.int .i64)])] (λ_=>a6)
def Y4:aR Tryz.prog AOO:=.cons SA (.cons SC (.nil _))
def GI(a0:List aU)(a1:List aU)(R:T->Prop):Prop:=aM BPI (oN [T.sl false (BQK a0),T.sl false (BQK a1), T.fn 344 [] []]) λ(y0:Bool)=>aD (!y0) (a8 (Int×PUnit) (λX1 s2=>aD (decide (s2.1<(↑(BQK a0).length:Int))) (aX aC (BQK a0) s2.1 λ(y3:aU)=>aM BPG (nA [T.sl false (BQK a1),aF true aC y3]) λ(y4:Int)=>aD (!decide (y4=1)) (R (pPR (!decide (0<=s2.1)))) (BP4 X1 s2)) (R BPL)) (0,())) (R BPE)
abbrev ID:Sh:=[(false,aC.li),(false,aC.li)]
def v7 (x:List aU×List aU):Option T:=O4 x.1 x.2 (pPR (sL x.1 x.2))
def qE:List T->Option T:=gS ID v7
def VR {a0 a1}:qE [T.sl false (List.map aC.enc a0),T.sl false (List.map aC.enc a1)]=v7 (a0,a1):=bH (s:=ID) rfl (a0,a1) rfl
def AJB:tG Tryz.prog 312 qE v7 (cQ ID) GI:=iR (a1:=(false,aC.li)) (a2:=(false,aC.li)) (Hs:=APQ) (k:=8) Y4 aV aY (aN rfl) ⟨_,_,Tryz.func312,rfl⟩ rfl λ_ _ _=>by kernel_rfl
def AHT:aO Tryz.prog 312 qE:=AJB λp o r h hb=>by
 obtain ⟨hl,hn,hl2,hn2,rfl⟩:=O5 h;replace hl:p.length<=1000:=hl;clear h;unfold GI BQK BP4 BPL BPI BPG BPE;refine aK (s:=[(false,.bool)]) (JE hl hn hl2 hn2) ?_;refine lD (λhe=>?_) λhe=>jQ (by unfold sL;rw[show xB p o=true from he];rfl);have w:sL p o=p.all λc=>decide (jA o c=1):=by unfold sL;rw[show xB p o=false from he];rfl
 refine bN p.length (λk s=>s=((k:Int),())/\p.all (λc=>decide (jA o c=1))=(p.drop k).all λc=>decide (jA o c=1)) ⟨rfl,by rw[List.drop_zero]⟩ ?_;rintro X k s hk ⟨rfl,hJ⟩ hX;dsimp only;refine cO (λhlt=>?_) λhge=>jQ ?_
 ·rw[ae] at hlt;have hlt:k<p.length:=by omega
  rw[List.drop_eq_getElem_cons hlt,List.all_cons] at hJ;rw[bG (r:=aC) hlt];refine aK (s:=[(false,.int .i64)]) (xU o p[k]) ?_;refine lK (λh=>jQ ?_) λh=>hX _ hlt ⟨by rw[show i64.wrap ((k:Int)+1)=((k+1:Nat):Int) from bB _ (by omega) (by omega)],by rw[hJ,ai (show jA o p[k]=1 from h),Bool.true_and]⟩;rw[w,hJ,aj (show ¬ jA o p[k]=1 from h),ai (show 0<=(k:Int) by omega)];rfl
 ·rw[ae] at hge;have:k=p.length:=by omega
  subst this;rw[w,hJ,List.drop_length];rfl
def VS {p q:List Pt} (h:p.length<=1000) (h2:kY p) (h3:q.length<=1000) (h4:kY q):qE [T.sl false (List.map aC.enc p),T.sl false (List.map aC.enc q)]=some (Sh.enc [(false,.bool)] (sL p q)):=(VR ..).trans (O6 _ h h2 h3 h4)
def AJF (p q:List Pt) (t:T):Option T:=match p,q with
 | _::_,_::_=>O4 p q t
 | _,_=>none
def AU7:Env:=Env.of [(346,.pure nA),(343,.pure oN)]
def AYW:FuncId->Hint:=λ_=>a6
def AFI:aR Tryz.prog AU7:=.cons SA (.cons SC (.nil _))
def L7(a0:List aU)(a1:List aU)(R:T->Prop):Prop:=aM BPI (oN [T.sl false (BQK a0),T.sl false (BQK a1), T.fn 344 [] []]) λ(y0:Bool)=>aD (!y0) (aX aC (BQK a1) 0 λ(y1:aU)=>aM BPG (nA [T.sl false (BQK a0),aF true aC y1]) λ(y2:Int)=>aD (decide (y2<0)) (aX aC (BQK a0) 0 λ(y3:aU)=>aM BPG (nA [T.sl false (BQK a1),aF true aC y3]) λ(y4:Int)=>R (pPR (decide (y4<0)))) (R BPE)) (R BPE)
abbrev PR:Sh:=[(false,aC.li),(false,aC.li)]
def qK (x:List aU×List aU):Option T:=AJF x.1 x.2 (pPR (uZ x.1 x.2))
def uD:List T->Option T:=gS PR qK
def AB0 {a0 a1}:uD [T.sl false (List.map aC.enc a0),T.sl false (List.map aC.enc a1)]=qK (a0,a1):=bH (s:=PR) rfl (a0,a1) rfl
def AS2:tG Tryz.prog 313 uD qK (cQ PR) L7:=iR (a1:=(false,aC.li)) (a2:=(false,aC.li)) (Hs:=AYW) (k:=8) AFI aV aY (aN rfl) ⟨_,_,Tryz.func313,rfl⟩ rfl λ_ _ _=>by kernel_rfl
def AQ3:aO Tryz.prog 313 uD:=AS2 λp q r h hb=>by
 unfold qK AJF at h;split at h
 ·rename_i e1 e2;obtain ⟨hl,hn,hl2,hn2,rfl⟩:=O5 h;have k1:0<p.length:=by rw[show p=_ from e1];simp
  have k2:0<q.length:=by rw[show q=_ from e2];simp
  clear h;unfold L7 BQK BPI BPG BPE;refine aK (s:=[(false,.bool)]) (JE hl hn hl2 hn2) ?_;refine lD (λhe=>?_) λhe=>jQ (by unfold uZ;rw[show xB p q=true from he];rfl);have w:uZ p q=(decide (jA p (pt q 0)<0)&&decide (jA q (pt p 0)<0)):=by unfold uZ;rw[show xB p q=false from he];rfl
  rw[show (0:Int)=((0:Nat):Int) from rfl,fY k2];refine aK (s:=[(false,.int .i64)]) (xU p (pt q 0)) ?_;refine cO (λh=>?_) λh=>jQ (by rw[w,aj (show ¬ jA p (pt q 0)<0 from h)];rfl);rw[fY k1];refine aK (s:=[(false,.int .i64)]) (xU q (pt p 0)) ?_;exact jQ (by rw[w,ai (show jA p (pt q 0)<0 from h)];rfl)
 ·cases h
def AB1 {p q:List Pt} (k1:0<p.length) (k2:0<q.length) (h:p.length<=1000) (h2:kY p) (h3:q.length<=1000) (h4:kY q):uD [T.sl false (List.map aC.enc p),T.sl false (List.map aC.enc q)]=some (Sh.enc [(false,.bool)] (uZ p q)):=by
 refine (AB0 ..).trans ?_;unfold qK AJF;cases p with
 | nil=>simp at k1
 | cons a p=>cases q with
  | nil=>simp at k2
  | cons b q=>exact O6 _ h h2 h3 h4
def r4 {r:Sy} {l:List r.den} (f:Nat->Int) (hl:l.length<=1000000) {Body:(Int×PUnit->Prop)->Int×PUnit->r.den->Prop} {Exit:Prop}
  (hbody:∀ (X:Int×PUnit->Prop) (k:Nat) (hk:k<l.length),(∀ j,j<k->f j=0)->(f k=0->X (((k+1:Nat):Int),()))->(f k≠0->b6 f (List.range l.length)=f k)->Body X ((k:Int),()) l[k]) (hexit:b6 f (List.range l.length)=0->Exit) :
  a8 (Int×PUnit) (λ(X:Int×PUnit->Prop) (s:Int×PUnit)=>aD (decide (s.1<((List.map r.enc l).length:Int))) (aX r (List.map r.enc l) s.1 λy=>Body X s y) Exit) (0,()):=by
 refine bN l.length (λk s=>s=((k:Int),())/\b6 f (List.range l.length)=b6 f (List.range' k (l.length-k))/\∀ j,j<k->f j=0) ⟨rfl,by rw[List.range_eq_range'];rfl,λj h=>by omega⟩ ?_;rintro X k s hk ⟨rfl,he,hp⟩ hX;dsimp only;refine cO (λhlt=>?_) λhge=>?_
 ·rw[ae] at hlt;have hlt:k<l.length:=by omega
  rw[bG hlt];obtain ⟨m,hm⟩:∃ m,l.length-k=m+1:=⟨l.length-k-1,by omega⟩
  rw[hm,List.range'_succ,b6] at he;refine hbody X k hlt hp (λh0=>?_) λh0=>by rw[he,if_neg h0]
  rw[if_pos h0] at he;exact hX _ hlt ⟨rfl,by rw[he];congr 2;omega,λj hj=>by
   rcases Nat.lt_or_ge j k with h|h
   ·exact hp j h
   ·have:j=k:=by omega
    subst this;exact h0⟩
 ·rw[ae] at hge;have:l.length-k=0:=by omega
  rw[this] at he;exact hexit he
def JJ (s:j0) (i:Nat):Int:=if ¬ lB (s.2.getD i [])=0 then lB (s.2.getD i []) else if 0<=rW (s.2.getD i [])\/sL (s.2.getD i []) s.1=false then 17 else if ((List.range i).all λk=>uZ (s.2.getD i []) (s.2.getD k []))=false then 17 else 0
def yI (s:j0):Int:=if 8<s.2.length then 12 else if ¬ lB s.1=0 then lB s.1 else if rW s.1<=0 then 17 else b6 (JJ s) (List.range s.2.length)
def mE {α:Type} {f:α->Int}:∀ {l:List α},b6 f l=0->∀ a∈l,f a=0
 | a::l,h,b,hb=>by
  unfold b6 at h;by_cases ha:f a=0
  ·rw[if_pos ha] at h;rcases List.mem_cons.1 hb with rfl|hb
   ·exact ha
   ·exact mE h b hb
  ·rw[if_neg ha] at h;exact absurd h ha
 | [],_,b,hb=>by cases hb
def ATE (l:List (List aU)):HU 1 (List.map aC.li.enc l)=true:=by cases l<;>rfl
def AU9:Env:=Env.of [(310,.pure iG),(311,.pure mY),(312,.pure qE),(313,.pure uD)]
def AYY:FuncId->Hint:=cF 266 [(9,.inv [.val 26 false (.int .i64)]),(17,.inv [.val 51 false (.int .i64)])] (λ_=>a6)
def AFK:aR Tryz.prog AU9:=.cons CG (.cons R9 (.cons AHT (.cons AQ3 (.nil _))))
def BPV:T:=pPP 17
def BQX(y0:Int):T:=pPP y0
def BQW(a0:j0):List (List T):=List.map aC.li.enc a0.2
def BRR(a0:j0):List T:=[T.sl false (List.map aC.enc a0.1)]
def L9(a0:j0)(R:T->Prop):Prop:=aD (decide (8<(↑(BQW a0).length:Int))) (R (pPP 12)) (aM BPG (iG (BRR a0)) λ(y0:Int)=>aD (!decide (y0=0)) (R (BQX y0)) (aM BPG (mY (BRR a0)) λ(y1:Int)=>aD (decide (y1<=0)) (R BPV) (a8 (Int×PUnit) (λX2 s3=>aD (decide (s3.1<(↑(BQW a0).length:Int))) (aX aC.li (BQW a0) s3.1 λ(y4:List aU)=>aM BPG (iG [T.sl false (BQK y4)]) λ(y5:Int)=>aD (!decide (y5=0)) (R (BQX y5)) (aM BPG (mY [T.sl false (BQK y4)]) λ(y6:Int)=>aD (decide (0<=y6)) (R BPV) (aM BPI (qE [T.sl false (BQK y4), T.sl false (List.map aC.enc a0.1)]) λ(y7:Bool)=>aD (!y7) (R BPV) (b7 (HU 1 (BQW a0) && (decide (0<=s3.1) && decide (Int.toNat s3.1<=(BQW a0).length)) && true) (a8 (Int×PUnit) (λX8 s9=>aD (decide (s9.1 < (↑(List.drop 0 (List.take (Int.toNat s3.1) (BQW a0))).length : Int))) (aX aC.li (List.drop 0 (List.take (Int.toNat s3.1) (BQW a0))) s9.1 λ(y10:List aU)=>aM BPI (uD [T.sl false (BQK y4), T.sl false (BQK y10)]) λ(y11:Bool)=>aD (!y11) (R BPV) (BP4 X8 s9)) (BP4 X2 s3)) (0,())))))) (R BPJ)) (0,()))))
abbrev PT:Sh:=[(true,e8)]
def AM (s:j0):Option T:=some (T.v (Value.int .i64 (yI s)))
def jS:List T->Option T:=gS PT AM
def AB4 {a0}:jS [aF true e8 a0]=AM (a0):=bH (s:=PT) rfl (a0) rfl
def AS4:yW Tryz.prog 266 jS AM (cQ PT) L9:=kW (a1:=(true,e8)) (Hs:=AYY) (k:=8) AFK aV aY (aN rfl) ⟨_,_,Tryz.func266,rfl⟩ rfl λ_ _=>by kernel_rfl
def SB:aO Tryz.prog 266 jS:=AS4 λs r h hb=>by
 cases h;have is:∀ {n:Int},yI s=n->pPP n=pPP (yI s):=λh=>by rw[h]
 unfold L9 BRR BQW BQK BP4 BQX BPV BPJ BPI BPG;refine cO (λh=>is (by rw[ae] at h;unfold yI;rw[if_pos (by omega)])) λh1=>?_;rw[ae] at h1;refine aK (s:=[(false,.int .i64)]) (pO s.1) ?_;refine lK (λh=>is (by unfold yI;rw[if_neg (by omega),if_pos h])) λh2=>?_;refine aK (s:=[(false,.int .i64)]) (xR s.1) ?_;refine cO (λh=>is (by unfold yI;rw[if_neg (by omega),if_neg (by simpa using h2),if_pos h])) λh3=>?_;have w:yI s=b6 (JJ s) (List.range s.2.length):=by unfold yI;rw[if_neg (by omega),if_neg (by simpa using h2),if_neg h3]
 obtain ⟨ho3,ho32,hoN,_⟩:=uP h2;refine r4 (r:=aC.li) (JJ s) (by show s.2.length<=1000000;omega) (λX k hk hprev hok hbad=>?_) λh0=>is (w.trans h0);have hk:k<s.2.length:=hk;have hg:s.2.getD k []=s.2[k]:=by rw[List.getD_eq_getElem?_getD,List.getElem?_eq_getElem hk];rfl
 have bad:∀ {n:Int},n≠0->JJ s k=n->pPP n=pPP (yI s):=λhn h=>is (w.trans ((hbad (by rw[h];exact hn)).trans h));have hE:JJ s k=if ¬ lB s.2[k]=0 then lB s.2[k] else if 0<=rW s.2[k]\/sL s.2[k] s.1=false then 17 else if ((List.range k).all λj=>uZ s.2[k] (s.2.getD j []))=false then 17 else 0:=by unfold JJ;rw[hg]
 show aM [(false,Sy.int IntKind.i64)] (iG [T.sl false (List.map aC.enc s.2[k])]) _;refine aK (s:=[(false,.int .i64)]) (pO s.2[k]) ?_;refine lK (λh=>bad h (by rw[hE,if_pos h])) λp1=>?_;refine aK (s:=[(false,.int .i64)]) (xR s.2[k]) ?_;refine cO (λh=>bad (by decide) (by rw[hE,if_neg (by simpa using p1),if_pos (.inl h)])) λp2=>?_;obtain ⟨hp3,hp32,hpN,_⟩:=uP p1;refine aK (s:=[(false,.bool)]) (VS (by omega) hpN (by omega) hoN) ?_;refine lD (λh=>bad (by decide) (by rw[hE,if_neg (by simpa using p1),if_pos (.inr h)])) λp3=>?_;have hE2:JJ s k=if ((List.range k).all λj=>uZ s.2[k] (s.2.getD j []))=false then 17 else 0:=by
  rw[hE,if_neg (by simpa using p1),if_neg];rintro (h|h)
  ·exact p2 h
  ·rw[show sL s.2[k] s.1=true from p3] at h;cases h
 refine ⟨by rw[ATE,ae];simp;omega,?_⟩;have htk:List.drop 0 (List.take (Int.toNat (k:Int)) (List.map aC.li.enc s.2))=List.map aC.li.enc (s.2.take k):=by rw[List.drop_zero,Int.toNat_natCast,List.map_take]
 dsimp only;rw[htk];have ht:(s.2.take k).length=k:=by rw[List.length_take];omega
 refine bN k (λj s'=>s'=((j:Int),())/\∀ i,i<j->uZ s.2[k] (s.2.getD i [])=true) ⟨rfl,λi h=>by omega⟩ ?_;rintro Y j s' hj ⟨rfl,hJ⟩ hY;dsimp only;refine cO (λhlt=>?_) λhge=>?_
 ·rw[ae,ht] at hlt;have hlt:j<k:=by omega
  rw[bG (r:=aC.li) (show j<(s.2.take k).length by omega)];have hgj:s.2.getD j []=s.2[j]:=by rw[List.getD_eq_getElem?_getD,List.getElem?_eq_getElem (by omega)];rfl
  have hgt:(s.2.take k)[j]'(by omega)=s.2[j]:=by simp
  rw[hgt];have hj0:lB s.2[j]=0:=by
   have h0:=hprev j hlt;unfold JJ at h0;rw[hgj] at h0;refine Classical.byContradiction λhc=>?_;rw[if_pos hc] at h0;exact hc h0
  obtain ⟨hq3,hq32,hqN,_⟩:=uP hj0;refine aK (s:=[(false,.bool)]) (AB1 (by omega) (by omega) (by omega) hpN (by omega) hqN) ?_;refine lD (λh=>bad (by decide) ?_) λh=>hY _ hlt ⟨by rw[show i64.wrap ((j:Int)+1)=((j+1:Nat):Int) from bB _ (by omega) (by omega)],λi hi=>by
   rcases Nat.lt_or_ge i j with h3|h3
   ·exact hJ i h3
   ·have:i=j:=by omega
    subst this;rw[hgj];exact h⟩
  rw[hE2,if_pos (UU hlt (by rw[hgj];exact h))]
 ·rw[ae,ht] at hge;have:j=k:=by omega
  subst this;rw[show i64.wrap ((j:Int)+1)=((j+1:Nat):Int) from bB _ (by omega) (by omega)];refine hok ?_;rw[hE2,if_neg];rw[pX.2 hJ];simp
def JD (s:j0):jS [aF true e8 s]=some (Sh.enc [(false,.int .i64)] (yI s)):=AB4 ..
def AVA:Env:=Env.of []
def AYZ:FuncId->Hint:=λ_=>a6
def AFL:aR Tryz.prog AVA:=.nil _
def MA(a0:j0)(R:T->Prop):Prop:=aD (BQW a0).isEmpty (R (T.sl false [(BRR a0)])) (b7 (iB 1 (BQW a0) && decide ((1+(BQW a0).length)*24<=140737488355328) && decide (1+(BQW a0).length<=140737488355328)) (R (T.sl false ((BRR a0) :: (BQW a0)))))
abbrev PU:Sh:=[(true,e8)]
abbrev A5B:Sh:=[(false,aC.li.li)]
def qL (s:j0):Option T:=match decide (s.2.length<=1000) with
 | true=>some (Sh.enc A5B (s.1::s.2))
 | false=>none
def xV:List T->Option T:=gS PU qL
def AB5 {a0}:xV [aF true e8 a0]=qL (a0):=bH (s:=PU) rfl (a0) rfl
def AS5:yW Tryz.prog 321 xV qL (cQ PU) MA:=kW (a1:=(true,e8)) (Hs:=AYZ) (k:=8) AFL aV aY (aN rfl) ⟨_,_,Tryz.func321,rfl⟩ rfl λ_ _=>by kernel_rfl
def AQ5:aO Tryz.prog 321 xV:=AS5 λs r h hb=>by
 unfold qL at h;split at h
 ·rename_i hc;have hc:s.2.length<=1000:=of_decide_eq_true hc;cases h;obtain ⟨o,hs⟩:=s;unfold MA BRR BQW;cases hs with
  | nil=>exact (rfl:T.sl false [[T.sl false (List.map aC.enc o)]]=_)
  | cons a l =>
   show b7 _ _;refine ⟨?_,rfl⟩;simp only[ac,ah,ae];have hc:(a::l).length<=1000:=hc;exact ⟨⟨tL (.li aC) (a::l),by omega⟩,by omega⟩
 ·cases h
def BNZ (l:List (List Pt)):Int:=A5 l.length λi=>rW (l.getD i [])
def ADT (s:j0):Int:=if yI s=0 then BNZ (s.1::s.2) else 0
def ZY (p:List Pt):-68719476736<=rW p/\rW p<=68719476736:=by
 unfold rW;by_cases h:lB p=0
 ·rw[if_pos h];obtain ⟨_,h2,h3,_⟩:=uP h;have:=KE h3 p.length;unfold MY;omega
 ·rw[if_neg h];omega
def ANA (l:List (List Pt)):∀ n:Nat,-(68719476736*(n:Int))<=A5 n (λi=>rW (l.getD i []))/\A5 n (λi=>rW (l.getD i []))<=68719476736*(n:Int)
 | 0=>by simp[A5]
 | n+1=>by
  have ih:=ANA l n;have hb:=ZY (l.getD n []);unfold A5;constructor<;>push_cast<;>omega
def AU8:Env:=Env.of [(266,.pure jS),(321,.pure xV),(311,.pure mY)]
def AYX:FuncId->Hint:=cF 271 [(5,.inv [.val 3 false (.int .i64),.val 12 false (.int .i64)])] (λ_=>a6)
def AFJ:aR Tryz.prog AU8:=.cons SB (.cons AQ5 (.cons R9 (.nil _)))
def L8(a0:j0)(R:T->Prop):Prop:=aM BPG (jS [aF true e8 a0]) λ(y0:Int)=>aD (!decide (y0=0)) (R BPJ) (aM [(false,aC.li.li)] (xV [aF true e8 a0]) λ(y1:List (List aU))=>a8 (Int×Int×PUnit) (λX2 s3=>aD (decide (s3.2.1<(↑(List.map aC.li.enc y1).length:Int))) (aX aC.li (List.map aC.li.enc y1) s3.2.1 λ(y4:List aU)=>aM BPG (mY [T.sl false (BQK y4)]) λ(y5:Int)=>X2 (i64.wrap (s3.1+y5),i64.wrap (s3.2.1+1),())) (R (pPP s3.1))) (0,0,()))
abbrev PS:Sh:=[(true,e8)]
def AL (s:j0):Option T:=some (T.v (Value.int .i64 (ADT s)))
def uE:List T->Option T:=gS PS AL
def AB2 {a0}:uE [aF true e8 a0]=AL (a0):=bH (s:=PS) rfl (a0) rfl
def AS3:yW Tryz.prog 271 uE AL (cQ PS) L8:=kW (a1:=(true,e8)) (Hs:=AYX) (k:=8) AFJ aV aY (aN rfl) ⟨_,_,Tryz.func271,rfl⟩ rfl λ_ _=>by kernel_rfl
def AQ4:aO Tryz.prog 271 uE:=AS3 λs r h hb=>by
 cases h;have is:∀ {n:Int},ADT s=n->pPP n=pPP (ADT s):=λh=>by rw[h]
 unfold L8 BQK BPJ BPG;refine aK (s:=[(false,.int .i64)]) (JD s) ?_;refine lK (λh=>is (by unfold ADT;rw[if_neg h])) λh=>?_;have h8:s.2.length<=8:=by
  refine Classical.byContradiction λhc=>?_;unfold yI at h;rw[if_pos (by omega)] at h;cases h
 refine aK (s:=[(false,.li (.li aC))]) (y:=(s.1::s.2:List (List aU))) ((AB5 ..).trans (by unfold qL;rw[ai (by omega)])) ?_;have w:ADT s=BNZ (s.1::s.2):=by unfold ADT;rw[if_pos h]
 have hlen:(s.1::s.2).length<=9:=by simp;omega
 generalize s.1::s.2=l at w hlen;refine bN l.length (λk t=>t=(A5 k (λi=>rW (l.getD i [])),(k:Int),())) rfl ?_;rintro X k t hk rfl hX;dsimp only;refine cO (λhlt=>?_) λhge=>is (by rw[ae] at hge;rw[w,show k=l.length by omega];rfl);rw[ae] at hlt;have hlt:k<l.length:=by omega
 rw[bG (r:=aC.li) hlt];have hg:l.getD k []=l[k]:=by rw[List.getD_eq_getElem?_getD,List.getElem?_eq_getElem hlt];rfl
 refine aK (s:=[(false,.int .i64)]) (xR l[k]) ?_;refine hX _ hlt ?_;have b1:=ANA l k;have b2:=ZY l[k];rw[show i64.wrap ((k:Int)+1)=((k+1:Nat):Int) from bB _ (by omega) (by omega),bB _ (by omega) (by omega),A5,hg]
def AB3 (s:j0):uE [aF true e8 s]=some (Sh.enc [(false,.int .i64)] (ADT s)):=AB2 ..
def AOR:Env:=Env.of []
def APT:FuncId->Hint:=cF 314 [(2,.AK9 4)] (λ_=>a6)
def Y7:aR Tryz.prog AOR:=.nil _
def GL(a0:APU)(a1:Int)(R:T->Prop):Prop:=aD (decide (a0.1<i64.wrap (0-a1))) (R BPE) (aD (decide (a1<a0.1)) (R BPE) (aD (decide (a0.2.1<i64.wrap (0-a1))) (R BPE) (aD (decide (a1<a0.2.1)) (R BPE) (aD (decide (a0.2.2<i64.wrap (0-a1))) (R BPE) (aD (decide (a1<a0.2.2)) (R BPE) (R BPL))))))
abbrev IG:Sh:=[(true,AT5),(false,(Sy.int IntKind.i64))]
def BL (v:APU):Bool:=decide (-524288<=v.1)&&decide (v.1<=524288)&&(decide (-524288<=v.2.1)&&decide (v.2.1<=524288))&&(decide (-524288<=v.2.2)&&decide (v.2.2<=524288))
def rH (x:APU×Int):Option T:=match decide (x.2=524288) with
 | true=>some (pPR (BL x.1))
 | false=>none
def uI:List T->Option T:=gS IG rH
def VV {a0 a1}:uI [aF true AT5 a0,pPP a1]=rH (a0,a1):=bH (s:=IG) rfl (a0,a1) rfl
def AJE:tG Tryz.prog 314 uI rH (cQ IG) GL:=iR (a1:=(true,AT5)) (a2:=(false,(Sy.int IntKind.i64))) (Hs:=APT) (k:=8) Y7 aV aY (aN rfl) ⟨_,_,Tryz.func314,rfl⟩ rfl λ_ _ _=>by kernel_rfl
def AHV:aO Tryz.prog 314 uI:=AJE λv n r h hb=>by
 unfold rH at h;split at h
 ·rename_i hn;have hn:n=524288:=of_decide_eq_true hn;subst hn;cases h;unfold GL BPL BPE;rw[show i64.wrap (0-524288) = -524288 from rfl];have no:∀ {P:Prop},(¬ (-524288<=v.1/\v.1<=524288∧-524288<=v.2.1/\v.2.1<=524288∧-524288<=v.2.2/\v.2.2<=524288))->pPR false=pPR (BL v):=λh=>jQ (Eq.symm (by
   rw[Bool.eq_false_iff];intro h2;simp only[BL,ac,ah] at h2;omega))
  refine cO (λh=>no (P:=True) (by omega)) λh1=>cO (λh=>no (P:=True) (by omega)) λh2=>cO (λh=>no (P:=True) (by omega)) λh3=>cO (λh=>no (P:=True) (by omega)) λh4=>cO (λh=>no (P:=True) (by omega)) λh5=>cO (λh=>no (P:=True) (by omega)) λh6=>jQ ?_;simp only[BL];rw[ai (by omega),ai (by omega),ai (by omega),ai (by omega),ai (by omega),ai (by omega)];rfl
 ·cases h
def AI1 (t:Int):Int:=if t<0\/24<=t then 0 else t
def AOQ:Env:=Env.of []
def APS:FuncId->Hint:=λ_=>a6
def Y6:aR Tryz.prog AOQ:=.nil _
def GK(a0:Int)(R:T->Prop):Prop:=aD (decide (a0<0)) (R BPJ) (aD (decide (24<=a0)) (R BPJ) (R (BQX a0)))
abbrev IF:Sh:=[(false,(Sy.int IntKind.i64))]
def v8 (t:Int):Option T:=some (T.v (Value.int .i64 (AI1 t)))
def uH:List T->Option T:=gS IF v8
def VU {a0}:uH [pPP a0]=v8 (a0):=bH (s:=IF) rfl (a0) rfl
def AJD:yW Tryz.prog 315 uH v8 (cQ IF) GK:=kW (a1:=(false,(Sy.int IntKind.i64))) (Hs:=APS) (k:=8) Y6 aV aY (aN rfl) ⟨_,_,Tryz.func315,rfl⟩ rfl λ_ _=>by kernel_rfl
def AHU:aO Tryz.prog 315 uH:=AJD λt r h hb=>by
 cases h;unfold GK BQX BPJ;exact cO (λh=>J0 (by unfold AI1;rw[if_pos (.inl h)])) λh1=>cO (λh=>J0 (by unfold AI1;rw[if_pos (.inr h)])) λh2=>J0 (by unfold AI1;rw[if_neg (by omega)])
def tC (p:B0):Bool:=BL p.1&&decide (p.2=AI1 p.2)
def AVL:Env:=Env.of [(314,.pure uI),(315,.pure uH)]
def AY6:FuncId->Hint:=λ_=>a6
def AFT:aR Tryz.prog AVL:=.cons AHV (.cons AHU (.nil _))
def MI(a0:B0)(R:T->Prop):Prop:=aM BPI (uI [aF true AT5 a0.1,pPP 524288]) λ(y0:Bool)=>aD y0 (aM BPG (uH [pPP a0.2]) λ(y1:Int)=>R (pPR (decide (a0.2=y1)))) (R BPE)
abbrev P0:Sh:=[(true,fO)]
def AQ (p:B0):Option T:=some (pPR (tC p))
def cT:List T->Option T:=gS P0 AQ
def JH {a0}:cT [aF true fO a0]=AQ (a0):=bH (s:=P0) rfl (a0) rfl
def ATD:yW Tryz.prog 268 cT AQ (cQ P0) MI:=kW (a1:=(true,fO)) (Hs:=AY6) (k:=8) AFT aV aY (aN rfl) ⟨_,_,Tryz.func268,rfl⟩ rfl λ_ _=>by kernel_rfl
def ARD:aO Tryz.prog 268 cT:=ATD λp r h hb=>by
 cases h;unfold MI BPI BPG BPE;refine aK (s:=[(false,.bool)]) (y:=BL p.1) (VV ..) ?_;refine DQ (λh=>?_) λh=>jQ (by unfold tC;rw[h];rfl);refine aK (s:=[(false,.int .i64)]) (y:=AI1 p.2) (VU ..) ?_;exact jQ (by unfold tC;rw[h];rfl)
def HH (l:List Int) (i:Nat):Int:=if ¬ (1<=l.getD i 0/\l.getD i 0<=120) then 9 else if 0<i/\l.getD i 0<=l.getD (i-1) 0 then 11 else 0
def j1 (g:gN):Int:=if isName g.1=false then 6 else if ¬ (1000<=g.2.1/\g.2.1<=20000/\100<=g.2.2.1/\g.2.2.1<=1500) then 9 else if g.2.2.2.length=0 then 3 else if 16<g.2.2.2.length then 4 else b6 (HH g.2.2.2) (List.range g.2.2.2.length)
def J7 (s:cW):Int:=if isName s.1=false then 6 else if ¬ (1<=s.2.1/\s.2.1<=1000000/\1<=s.2.2.1/\s.2.2.1<=2000/\100<=s.2.2.2/\s.2.2.2<=32768) then 9 else 0
def JK (s:iII) (K:Bool->Prop):aM [(false,Sy.bool)] (iU [pPQ s]) K=K (isName s):=by
 rw[show iU [pPQ s]=uT s from xN];exact Q7 _ K
def AUZ:Env:=Env.of [(85,.pure iU)]
def AYP:FuncId->Hint:=cF 116 [(10,.inv [.val 34 false (.int .i64)])] (λ_=>a6)
def AFB:aR Tryz.prog AUZ:=.cons zI (.nil _)
def BPH:T:=pPP 9
def BPM:Sy:=Sy.int IntKind.i64
def BPS:T:=pPP 6
def BPT:T:=pPP 11
def BRM(a0:gN):List (List T):=List.map BPM.enc a0.2.2.2
def L0(a0:gN)(R:T->Prop):Prop:=aM BPI (iU [pPQ a0.1]) λ(y0:Bool)=>aD (!y0) (R BPS) (aD (decide (1000<=a0.2.1)) (aD (!decide (a0.2.1<=20000)) (R BPH) (aD (decide (100<=a0.2.2.1)) (aD (!decide (a0.2.2.1<=1500)) (R BPH) (aD (decide ((↑(BRM a0).length:Int)=0)) (R (pPP 3)) (aD (decide (16<(↑(BRM a0).length:Int))) (R (pPP 4)) (a8 (Int×PUnit) (λX1 s2=>aD (decide (s2.1<(↑(BRM a0).length:Int))) (aX BPM (BRM a0) s2.1 λ(y3:Int)=>aD (decide (1<=y3)) (aD (!decide (y3<=120)) (R BPH) (aD (decide (0<s2.1)) (aX BPM (BRM a0) (i64.wrap (s2.1-1)) λ(y4:Int)=>aD (decide (y3<=y4)) (R BPT) (BP4 X1 s2)) (BP4 X1 s2))) (R BPH)) (R BPJ)) (0,()))))) (R BPH))) (R BPH))
abbrev PJ:Sh:=[(true,dX)]
def AD (g:gN):Option T:=some (T.v (Value.int .i64 (j1 g)))
def xQ:List T->Option T:=gS PJ AD
def ABK {a0}:xQ [aF true dX a0]=AD (a0):=bH (s:=PJ) rfl (a0) rfl
def ASV:yW Tryz.prog 116 xQ AD (cQ PJ) L0:=kW (a1:=(true,dX)) (Hs:=AYP) (k:=8) AFB aV aY (aN rfl) ⟨_,_,Tryz.func116,rfl⟩ rfl λ_ _=>by kernel_rfl
def vI {l:List α} {i:Nat} {d:α} (h:i<l.length):l.getD i d=l[i]:=by rw[List.getD_eq_getElem?_getD,List.getElem?_eq_getElem h];rfl
def WI {r:Sy} {l:List r.den} {k:Nat} (hk:k<l.length) (h0:0<k) (hl:l.length<=1000000) (K:r.den->Prop):aX r (List.map r.enc l) (i64.wrap ((k:Int)-1)) K=K (l[k-1]'(by omega)):=by
 rw[show i64.wrap ((k:Int)-1)=((k-1:Nat):Int) by rw[bB _ (by omega) (by omega)];omega];exact bG (by omega) K
def OY {k:Nat} (h:k<1000000):i64.wrap ((k:Int)+1)=((k+1:Nat):Int):=bB _ (by omega) (by omega)
def AQZ:aO Tryz.prog 116 xQ:=ASV λg r h hb=>by
 cases h;have is:∀ {n:Int},j1 g=n->pPP n=pPP (j1 g):=λh=>by rw[h]
 unfold L0 BRM BP4 BPT BPS BPM BPJ BPI BPH;rw[JK];refine lD (λh=>is (by unfold j1;rw[if_pos h])) λhn=>?_;have hn':¬ isName g.1=false:=by rw[hn];simp
 have r9:¬ (1000<=g.2.1/\g.2.1<=20000/\100<=g.2.2.1/\g.2.2.1<=1500)->pPP 9=pPP (j1 g):=λh=>is (by unfold j1;rw[if_neg hn',if_pos h]);refine cO (λh1=>lK (λh=>r9 (by omega)) λh2=>cO (λh3=>lK (λh=>r9 (by omega)) λh4=>?_) λh=>r9 (by omega)) λh=>r9 (by omega);have hr:¬ ¬ (1000<=g.2.1/\g.2.1<=20000/\100<=g.2.2.1/\g.2.2.1<=1500):=by omega
 refine cO (λh=>is (by rw[ae] at h;unfold j1;rw[if_neg hn',if_neg hr,if_pos (by omega)])) λh5=>?_;refine cO (λh=>is (by rw[ae] at h h5;unfold j1;rw[if_neg hn',if_neg hr,if_neg (by omega),if_pos (by omega)])) λh6=>?_;rw[ae] at h5 h6;have w:j1 g=b6 (HH g.2.2.2) (List.range g.2.2.2.length):=by unfold j1;rw[if_neg hn',if_neg hr,if_neg (by omega),if_neg (by omega)]
 refine r4 (r:=.int .i64) (HH g.2.2.2) (by omega) (λX k hk hprev hok hbad=>?_) λh0=>is (w.trans h0);have hk:k<g.2.2.2.length:=hk;have bad:∀ {n:Int},n≠0->HH g.2.2.2 k=n->pPP n=pPP (j1 g):=λhn h=>is (w.trans ((hbad (by rw[h];exact hn)).trans h));have hE:HH g.2.2.2 k=if ¬ (1<=g.2.2.2[k]/\g.2.2.2[k]<=120) then 9 else if 0<k/\g.2.2.2[k]<=g.2.2.2.getD (k-1) 0 then 11 else 0:=by unfold HH;rw[vI hk]
 dsimp only;rw[OY (by omega)];refine cO (λp1=>lK (λh=>bad (by decide) (by rw[hE,if_pos (by omega)])) λp2=>?_) λh=>bad (by decide) (by rw[hE,if_pos (by omega)]);refine cO (λp3=>?_) λp3=>hok (by rw[hE,if_neg (by omega),if_neg (by omega)]);have k0:0<k:=by omega
 rw[WI (r:=.int .i64) hk k0 (by omega)];have hg1:g.2.2.2.getD (k-1) 0=g.2.2.2[k-1]'(by omega):=vI (by omega);exact cO (λh=>bad (by decide) (by rw[hE,if_neg (by omega),hg1,if_pos ⟨k0,h⟩])) λh=>hok (by rw[hE,if_neg (by omega),hg1,if_neg (λhc=>h hc.2)])
def AEY:Env:=Env.of [(85,.pure iU)]
def AGL:FuncId->Hint:=λ_=>a6
def T7:aR Tryz.prog AEY:=.cons zI (.nil _)
def BV(a0:cW)(R:T->Prop):Prop:=aM BPI (iU [pPQ a0.1]) λ(y0:Bool)=>aD (!y0) (R BPS) (aD (decide (1<=a0.2.1)) (aD (!decide (a0.2.1<=1000000)) (R BPH) (aD (decide (1<=a0.2.2.1)) (aD (!decide (a0.2.2.1<=2000)) (R BPH) (aD (decide (100<=a0.2.2.2)) (aD (!decide (a0.2.2.2<=32768)) (R BPH) (R BPJ)) (R BPH))) (R BPH))) (R BPH))
abbrev DI:Sh:=[(true,b9)]
def sF (s:cW):Option T:=some (T.v (Value.int .i64 (J7 s)))
def qW:List T->Option T:=gS DI sF
def QW {a0}:qW [aF true b9 a0]=sF (a0):=bH (s:=DI) rfl (a0) rfl
def ADE:yW Tryz.prog 117 qW sF (cQ DI) BV:=kW (a1:=(true,b9)) (Hs:=AGL) (k:=8) T7 aV aY (aN rfl) ⟨_,_,Tryz.func117,rfl⟩ rfl λ_ _=>by kernel_rfl
def AAR:aO Tryz.prog 117 qW:=ADE λs r h hb=>by
 cases h;have is:∀ {n:Int},J7 s=n->pPP n=pPP (J7 s):=λh=>by rw[h]
 unfold BV BPS BPJ BPI BPH;rw[JK];refine lD (λh=>is (by unfold J7;rw[if_pos h])) λhn=>?_;have hn':¬ isName s.1=false:=by rw[hn];simp
 have r9:¬ (1<=s.2.1/\s.2.1<=1000000/\1<=s.2.2.1/\s.2.2.1<=2000/\100<=s.2.2.2/\s.2.2.2<=32768)->pPP 9=pPP (J7 s):=λh=>is (by unfold J7;rw[if_neg hn',if_pos h]);refine cO (λh1=>lK (λh=>r9 (by omega)) λh2=>cO (λh3=>lK (λh=>r9 (by omega)) λh4=>cO (λh5=>lK (λh=>r9 (by omega)) λh6=>is ?_) λh=>r9 (by omega)) λh=>r9 (by omega)) λh=>r9 (by omega);unfold J7;rw[if_neg hn',if_neg (by omega)]
def kV:gN:=(⟨#[]⟩,0,0,[])
def S9 (a b:iII):Bool:=cY a b||decide (a=b)
def x7 (m:aE) (i:Nat):Int:=if ¬ j1 (m.1.getD i kV)=0 then j1 (m.1.getD i kV) else if 0<i/\S9 (m.1.getD i kV).1 (m.1.getD (i-1) kV).1=true then 11 else 0
def ATX (m:aE) (i:Nat):Int:=if ¬ J7 (m.2.getD i BH)=0 then J7 (m.2.getD i BH) else if 0<i/\S9 (m.2.getD i BH).1 (m.2.getD (i-1) BH).1=true then 11 else 0
def AZ (m:aE):Int:=if 16<m.1.length\/32<m.2.length then 4 else if ¬ b6 (x7 m) (List.range m.1.length)=0 then b6 (x7 m) (List.range m.1.length) else b6 (ATX m) (List.range m.2.length)
def AUY:Env:=Env.of [(116,.pure xQ),(117,.pure qW)]
def AYO:FuncId->Hint:=cF 84 [(4,.inv [.val 22 false (.int .i64)]),(13,.inv [.val 50 false (.int .i64)])] (λ_=>a6)
def AFA:aR Tryz.prog AUY:=.cons AQZ (.cons AAR (.nil _))
def BRS(a0:aE):List (List T):=List.map dX.enc a0.1
def LZ(a0:aE)(R:T->Prop):Prop:=aD (decide (16<(↑(BRS a0).length:Int))) (R (pPP 4)) (aD (decide (32<(↑(List.map b9.enc a0.2).length:Int))) (R (pPP 4)) (a8 (Int×PUnit) (λX0 s1=>aD (decide (s1.1<(↑(BRS a0).length:Int))) (aX dX (BRS a0) s1.1 λ(y2:gN)=>aM BPG (xQ [aF true dX y2]) λ(y3:Int)=>aD (!decide (y3=0)) (R (BQX y3)) (aD (decide (0<s1.1)) (aX dX (BRS a0) (i64.wrap (s1.1-1)) λ(y4:gN)=>aD (cY y2.1 y4.1||decide (y2.1=y4.1)) (R BPT) (BP4 X0 s1)) (BP4 X0 s1))) (a8 (Int×PUnit) (λX5 s6=>aD (decide (s6.1<(↑(List.map b9.enc a0.2).length:Int))) (aX b9 (List.map b9.enc a0.2) s6.1 λ(y7:cW)=>aM BPG (qW [aF true b9 y7]) λ(y8:Int)=>aD (!decide (y8=0)) (R (BQX y8)) (aD (decide (0<s6.1)) (aX b9 (List.map b9.enc a0.2) (i64.wrap (s6.1-1)) λ(y9:cW)=>aD (cY y7.1 y9.1||decide (y7.1=y9.1)) (R BPT) (BP4 X5 s6)) (BP4 X5 s6))) (R BPJ)) (0,()))) (0,())))
abbrev PI:Sh:=[(true,aI)]
def AB (m:aE):Option T:=some (T.v (Value.int .i64 (AZ m)))
def xP:List T->Option T:=gS PI AB
def ABJ {a0}:xP [aF true aI a0]=AB (a0):=bH (s:=PI) rfl (a0) rfl
def ASU:yW Tryz.prog 84 xP AB (cQ PI) LZ:=kW (a1:=(true,aI)) (Hs:=AYO) (k:=8) AFA aV aY (aN rfl) ⟨_,_,Tryz.func84,rfl⟩ rfl λ_ _=>by kernel_rfl
def AQY:aO Tryz.prog 84 xP:=ASU λm r h hb=>by
 cases h;have is:∀ {n:Int},AZ m=n->pPP n=pPP (AZ m):=λh=>by rw[h]
 unfold LZ BRS BP4 BQX BPT BPJ BPG;refine cO (λh=>is (by rw[ae] at h;unfold AZ;rw[if_pos (by omega)])) λh1=>?_;refine cO (λh=>is (by rw[ae] at h;unfold AZ;rw[if_pos (by omega)])) λh2=>?_;rw[ae] at h1 h2;refine r4 (r:=dX) (x7 m) (by show m.1.length<=1000000;omega) (λX k hk hprev hok hbad=>?_) λh0=>?_
 ·have hk:k<m.1.length:=hk;have bad:∀ {n:Int},n≠0->x7 m k=n->pPP n=pPP (AZ m):=λhn h=>is (by
   have hb:=(hbad (by rw[h];exact hn)).trans h;unfold AZ;rw[if_neg (by omega),if_pos (by rw[hb];exact hn),hb])
  have hE:x7 m k=if ¬ j1 m.1[k]=0 then j1 m.1[k] else if 0<k/\S9 m.1[k].1 (m.1.getD (k-1) kV).1=true then 11 else 0:=by unfold x7;rw[vI hk]
  dsimp only;rw[OY (by omega)];refine aK (s:=[(false,.int .i64)]) (y:=j1 m.1[k]) (ABK ..) ?_;refine lK (λh=>bad h (by rw[hE,if_pos h])) λp1=>?_;refine cO (λp3=>?_) λp3=>hok (by rw[hE,if_neg (λh=>h p1),if_neg (by omega)]);have k0:0<k:=by omega
  rw[WI (r:=dX) hk k0 (by show m.1.length<=1000000;omega)];have hg1:m.1.getD (k-1) kV=m.1[k-1]'(by omega):=vI (by omega);exact DQ (λh=>bad (by decide) (by rw[hE,if_neg (λh=>h p1),hg1,if_pos ⟨k0,h⟩])) λh=>hok (by rw[hE,if_neg (λh=>h p1),hg1,if_neg (λhc=>by rw[show S9 m.1[k].1 (m.1[k-1]'(by omega)).1=false from h] at hc;cases hc.2)])
 ·have w:AZ m=b6 (ATX m) (List.range m.2.length):=by unfold AZ;rw[if_neg (by omega),if_neg (λh=>h h0)]
  refine r4 (r:=b9) (ATX m) (by show m.2.length<=1000000;omega) (λX k hk hprev hok hbad=>?_) λh0=>is (w.trans h0);have hk:k<m.2.length:=hk;have bad:∀ {n:Int},n≠0->ATX m k=n->pPP n=pPP (AZ m):=λhn h=>is (w.trans ((hbad (by rw[h];exact hn)).trans h));have hE:ATX m k=if ¬ J7 m.2[k]=0 then J7 m.2[k] else if 0<k/\S9 m.2[k].1 (m.2.getD (k-1) BH).1=true then 11 else 0:=by unfold ATX;rw[vI hk]
  dsimp only;rw[OY (by omega)];refine aK (s:=[(false,.int .i64)]) (y:=J7 m.2[k]) (QW ..) ?_;refine lK (λh=>bad h (by rw[hE,if_pos h])) λp1=>?_;refine cO (λp3=>?_) λp3=>hok (by rw[hE,if_neg (λh=>h p1),if_neg (by omega)]);have k0:0<k:=by omega
  rw[WI (r:=b9) hk k0 (by show m.2.length<=1000000;omega)];have hg1:m.2.getD (k-1) BH=m.2[k-1]'(by omega):=vI (by omega);exact DQ (λh=>bad (by decide) (by rw[hE,if_neg (λh=>h p1),hg1,if_pos ⟨k0,h⟩])) λh=>hok (by rw[hE,if_neg (λh=>h p1),hg1,if_neg (λhc=>by rw[show S9 m.2[k].1 (m.2[k-1]'(by omega)).1=false from h] at hc;cases hc.2)])
def iA (m:aE) (n:iII):Option gN:=m.1.find? λg=>decide (g.1=n)
def okM (m:aE):Bool:=decide (m.1.length<=1000)&&decide (m.2.length<=1000)&&m.1.all λg=>decide (g.2.2.2.length<=1000)
def FD (m:aE) (r:α):Option α:=match okM m with
 | true=>some r
 | false=>none
variable {m:aE}
def yD {t r:α} (h:FD m t=some r):okM m=true/\r=t:=by
 unfold FD at h;split at h
 ·rename_i hc;cases h;exact ⟨hc,rfl⟩
 ·cases h
def yE (t:α) (h:okM m=true):FD m t=some t:=by unfold FD;rw[h]
def AP6:T4 Tryz.prog 318 1 8:=⟨λR=>by kernel_rfl,λfl R=>by kernel_rfl,λfl a rows R=>by kernel_rfl⟩
def EI:List T->Option T:=gS [(false,.li (.int .i64))] (fM (.int .i64) 8)
def AA2 {u0}:EI [T.sl false (List.map (Sy.enc (.int .i64)) u0)]=fM (.int .i64) 8 u0:=bH (s:=[(false,.li (.int .i64))]) rfl u0 rfl
def AQU:aO Tryz.prog 318 EI:=GV aV aY ⟨_,_,Tryz.func318,rfl⟩ AP6
def AUX:Env:=Env.of [(318,.pure EI)]
def AYN:FuncId->Hint:=cF 316 [(2,.inv [.val 8 false (.int .i64)])] (λ_=>a6)
def AE9:aR Tryz.prog AUX:=.cons AQU (.nil _)
def BPQ:List T:=[T.agg [pPQ ({data:=#[]}),pPP 0, pPP 0,T.sl false []], pPR false]
def LY(a0:aE)(a1:iII)(R:T->Prop):Prop:=a8 (Int×PUnit) (λX0 s1=>aD (decide (s1.1<(↑(BRS a0).length:Int))) (aX dX (BRS a0) s1.1 λ(y2:gN)=>aD (decide (y2.1=a1)) (aD (decide (s1.1<0)) (R (T.bY BPQ)) (aX dX (BRS a0) s1.1 λ(y3:gN)=>aM [(false,BPM.li)] (EI [T.sl false (BRM y3)]) λ(y4:List Int)=>R (T.bY [T.agg [pPQ y3.1,pPP y3.2.1, pPP y3.2.2.1, T.sl false (List.map BPM.enc y4)], pPR true]))) (BP4 X0 s1)) (R (T.bY BPQ))) (0,())
abbrev PH:Sh:=[(true,aI),(false,Sy.str)]
def AA (x:aE×iII):Option T:=FD x.1 (Sh.enc [(true,dX),(false,.bool)] (found kV (iA x.1 x.2)))
def gV:List T->Option T:=gS PH AA
def ABI {a0 a1}:gV [aF true aI a0,pPQ a1]=AA (a0,a1):=bH (s:=PH) rfl (a0,a1) rfl
def AST:tG Tryz.prog 269 gV AA (cQ PH) LY:=iR (a1:=(true,aI)) (a2:=(false,Sy.str)) (Hs:=AYN) (k:=8) AE9 aV aY (aN rfl) ⟨_,_,Tryz.func269,rfl⟩ rfl λ_ _ _=>by kernel_rfl
def G3:aO Tryz.prog 269 gV:=AST λm n r h hb=>by
 obtain ⟨hok,rfl⟩:=yD h;clear h;simp only[okM,ac,ah] at hok;unfold LY BRS BRM BP4 BPQ BPM;refine bN m.1.length (λk s=>s=((k:Int),())/\(m.1.drop k).find? (λs=>decide (s.1=n))=iA m n) ⟨rfl,rfl⟩ ?_;rintro X k s hk ⟨rfl,hf⟩ hX;dsimp only;refine cO (λhlt=>?_) λhge=>?_
 ·rw[ae] at hlt;have hlt:k<m.1.length:=by omega
  rw[p9 hlt] at hf;rw[bG (r:=dX) hlt];refine cO (λhc=>?_) λhc=>?_
  ·rw[if_pos (ai hc)] at hf;refine cO (λh=>by omega) λ_=>?_;rw[bG (r:=dX) hlt];have hg:m.1[k].2.2.2.length<=1000:=by
    have:=List.all_eq_true.1 hok.2 _ (ak hlt);exact of_decide_eq_true this
   refine aK (s:=[(false,.li (.int .i64))]) (y:=m.1[k].2.2.2) ?_ ?_
   ·rw[AA2];unfold fM pU;rw[show (decide (m.1[k].2.2.2.length*8<=140737488355328)&&decide (m.1[k].2.2.2.length<=140737488355328))=true by simp only[ac,ah];omega];rfl
   ·show _=Sh.enc [(true,dX),(false,.bool)] (found kV (iA m n));rw[<-hf];rfl
  ·rw[if_neg (by simpa using hc)] at hf;exact hX _ hlt ⟨by rw[OY (by omega)],hf⟩
 ·rw[ae] at hge;have:k=m.1.length:=by omega
  subst this;rw[List.drop_length] at hf;show _=Sh.enc [(true,dX),(false,.bool)] (found kV (iA m n));rw[<-hf];rfl
def vU (m:aE) (n:iII) (t:Int):Bool:=match iA m n with
 | some g=>g.2.2.2.any λx=>decide (t=x)
 | none=>false
def AOI:Env:=Env.of [(269,.pure gV)]
def APK:FuncId->Hint:=cF 354 [(2,.inv [.val 8 false (.int .i64)])] (λ_=>a6)
def YY:aR Tryz.prog AOI:=.cons G3 (.nil _)
def BPO:Sh:=[(true,dX),(false,Sy.bool)]
def BQY(s2:Int×PUnit):T:=pPR (decide (0<=s2.1))
def GB(a0:aE)(a1:iII)(a2:Int)(R:T->Prop):Prop:=aM BPO (gV [aF true aI a0,pPQ a1]) λ(y0:gN×Bool)=>aD y0.2 (a8 (Int×PUnit) (λX1 s2=>aD (decide (s2.1<(↑(List.map BPM.enc y0.1.2.2.2).length:Int))) (aX BPM (List.map BPM.enc y0.1.2.2.2) s2.1 λ(y3:Int)=>aD (decide (a2=y3)) (R (BQY s2)) (BP4 X1 s2)) (R BPE)) (0,())) (R BPE)
abbrev H7:Sh:=[(true,aI),(false,Sy.str),(false,(Sy.int IntKind.i64))]
def vV (x:aE×iII×Int):Option T:=FD x.1 (pPR (vU x.1 x.2.1 x.2.2))
def kU:List T->Option T:=gS H7 vV
def VL {a0 a1 a2}:kU [aF true aI a0,pPQ a1,pPP a2]=vV (a0,a1,a2):=bH (s:=H7) rfl (a0,a1,a2) rfl
def AI5:Of3 Tryz.prog 309 kU vV (cQ H7) GB:=J4 (a1:=(true,aI)) (a2:=(false,Sy.str)) (a3:=(false,(Sy.int IntKind.i64))) (Hs:=APK) (k:=8) YY aV aY (aN rfl) ⟨_,_,Tryz.func309,rfl⟩ rfl λ_ _ _ _=>by kernel_rfl
def xO (h:okM m=true) (n:iII):gV [aF true aI m,pPQ n]=some (Sh.enc [(true,dX),(false,.bool)] (found kV (iA m n))):=(ABI ..).trans (yE _ h)
def AHP:aO Tryz.prog 309 kU:=AI5 λm n t r h hb=>by
 obtain ⟨hok,rfl⟩:=yD h;clear h;unfold GB BQY BP4 BPO BPM BPE;refine aK (s:=[(true,dX),(false,.bool)]) (xO hok n) ?_;cases hg:iA m n with
 | none =>
  show aD false _ _;rw[pA];exact jQ (by unfold vU;rw[hg])
 | some g =>
  show aD true _ _;rw[kH];dsimp only[found];have hlen:g.2.2.2.length<=1000:=by
   simp only[okM,ac,ah] at hok;exact of_decide_eq_true (List.all_eq_true.1 hok.2 _ (List.mem_of_find?_eq_some hg))
  have w:vU m n t=g.2.2.2.any λx=>decide (t=x):=by unfold vU;rw[hg]
  refine bN g.2.2.2.length (λk s=>s=((k:Int),())/\g.2.2.2.any (λx=>decide (t=x))=(g.2.2.2.drop k).any λx=>decide (t=x)) ⟨rfl,by rw[List.drop_zero]⟩ ?_;rintro X k s hk ⟨rfl,hf⟩ hX;dsimp only;refine cO (λhlt=>?_) λhge=>jQ ?_
  ·rw[ae] at hlt;have hlt:k<g.2.2.2.length:=by omega
   rw[List.drop_eq_getElem_cons hlt,List.any_cons] at hf;rw[bG (r:=.int .i64) hlt];refine cO (λhc=>jQ ?_) λhc=>hX _ hlt ⟨by rw[OY (by omega)],by rw[hf,aj hc,Bool.false_or]⟩;rw[w,hf,ai hc,ai (show 0<=(k:Int) by omega)];rfl
  ·rw[ae] at hge;have:k=g.2.2.2.length:=by omega
   subst this;rw[w,hf,List.drop_length];rfl
abbrev gO (p:bD):Int:=p.2.2.1
abbrev fV (p:bD):iII:=p.2.2.2.1
abbrev iM (p:bD):iII:=p.2.2.2.2.1
abbrev o7 (p:bD):Int:=p.2.2.2.2.2.1
abbrev lW (p:bD):j0:=p.2.2.2.2.2.2.1
abbrev ZP (p:bD):iII:=p.2.2.2.2.2.2.2.1
abbrev AGQ (p:bD):Int:=p.2.2.2.2.2.2.2.2.1
abbrev I4 (p:bD):Int:=p.2.2.2.2.2.2.2.2.2.1
abbrev JW (p:bD):APU:=p.2.2.2.2.2.2.2.2.2.2.1
abbrev aAt (p:bD):B0:=p.2.2.2.2.2.2.2.2.2.2.2
def XG (p:bD):Bool:=!decide (o7 p=0)||decide (0<(lW p).1.length+(lW p).2.length)
def BBF (p:bD):Bool:=!decide (ZP p = { data:=#[] }) || !decide (AGQ p=0)
def BD9 (p:bD):Bool:=!decide (I4 p=0) || !(decide ((JW p).1=0)&&(decide ((JW p).2.1=0)&&decide ((JW p).2.2=0)))
def oE (p:bD):Bool:=if gO p=1 then BBF p||BD9 p else if gO p=2\/gO p=3 then XG p||BD9 p else !decide (iM p = { data:=#[] })||(XG p||BBF p)
def AU4:Env:=Env.of []
def AYT:FuncId->Hint:=λf=>match f == 264 with|true=>⟨λ_=>.none,λi j=>match i == 1&&j == 1 with|true=>some [.val 3 false .bool]|false=>match i == 2&&j == 2 with|true=>some [.val 4 false .bool]|false=>match i == 3&&j == 3 with|true=>some [.val 5 false .bool]|false=>none,λ_=>none⟩|false=>a6
def AFF:aR Tryz.prog AU4:=.nil _
def BRU(s3:Bool×PUnit)(R:T->Prop)(s5:Bool×PUnit):Prop:=aD s3.1 (R BPL) (R (pPR s5.1))
def L4(a0:bD)(R:T->Prop):Prop:=sA (Bool×PUnit) (λ(X0:Bool×PUnit->Prop)=>aD (!decide (a0.2.2.2.2.2.1=0)) (X0 (true,())) (X0 (decide (0 < i64.wrap ((↑(List.map aC.enc a0.2.2.2.2.2.2.1.1).length:Int) + (↑(List.map aC.li.enc a0.2.2.2.2.2.2.1.2).length:Int))), ()))) λ(s1:Bool×PUnit)=>sA (Bool×PUnit) (λ(X2:Bool×PUnit->Prop)=>aD (!decide (a0.2.2.2.2.2.2.2.1 = {data:=#[]})) (X2 (true,())) (X2 (!decide (a0.2.2.2.2.2.2.2.2.1=0),()))) λ(s3:Bool×PUnit)=>sA (Bool×PUnit) (λ(X4:Bool×PUnit->Prop)=>aD (!decide (a0.2.2.2.2.2.2.2.2.2.1=0)) (X4 (true,())) (X4 (!(decide (a0.2.2.2.2.2.2.2.2.2.2.1.1=0) && (decide (a0.2.2.2.2.2.2.2.2.2.2.1.2.1=0) && (decide (a0.2.2.2.2.2.2.2.2.2.2.1.2.2=0)&&true))), ()))) λ(s5:Bool×PUnit)=>aD (decide (a0.2.2.1=1)) (BRU s3 R s5) (aD (decide (a0.2.2.1=2)) (BRU s1 R s5) (aD (decide (a0.2.2.1=3)) (BRU s1 R s5) (aD (decide (a0.2.2.1=4)) (aD (!decide (a0.2.2.2.2.1 = {data:=#[]})) (R BPL) (BRU s1 R s3)) (aD (!decide (a0.2.2.2.2.1 = {data:=#[]})) (R BPL) (BRU s1 R s3)))))
abbrev PN:Sh:=[(true,aP)]
def AI (p:bD):Option T:=some (pPR (oE p))
def mZ:List T->Option T:=gS PN AI
def ABW {a0}:mZ [aF true aP a0]=AI (a0):=bH (s:=PN) rfl (a0) rfl
def ASZ:yW Tryz.prog 264 mZ AI (cQ PN) L4:=kW (a1:=(true,aP)) (Hs:=AYT) (k:=8) AFF aV aY (aN rfl) ⟨_,_,Tryz.func264,rfl⟩ rfl λ_ _=>by kernel_rfl
def V4 {a b:Bool} {n:Bool} (h:n=(a||b)):aD a (pPR true=pPR n) (pPR b=pPR n):=by
 subst h;cases a<;>rfl
def AQ1:aO Tryz.prog 264 mZ:=ASZ λp r h hb=>by
 have b1:(lW p).1.length<=2 ^ 47:=hb.2.2.2.2.2.2.1.1.1;have b2:(lW p).2.length<=2 ^ 47:=hb.2.2.2.2.2.2.1.2.1;cases h;unfold L4 BRU BPL;have j:∀ {a b:Bool} {K:Bool×PUnit->Prop},K (a||b,())->sA (Bool×PUnit) (λ(X:Bool×PUnit->Prop)=>aD a (X (true,())) (X (b,()))) K:=λ{a b K} hK=>by
  rw[zQ];cases a<;>exact hK
 have e1:decide (0<i64.wrap (((List.map aC.enc (lW p).1).length:Int)+((List.map aC.li.enc (lW p).2).length:Int)))=decide (0<(lW p).1.length+(lW p).2.length):=by
  rw[ae,ae,bB _ (by omega) (by omega)];exact decide_eq_decide.2 (by omega)
 refine j ?_;refine j ?_;refine j ?_;dsimp only;rw[e1,Bool.and_true];refine cO (λh=>V4 (by unfold oE;rw[if_pos h];rfl)) λk1=>?_;refine cO (λh=>V4 (by unfold oE;rw[if_neg k1,if_pos (.inl h)];rfl)) λk2=>?_;refine cO (λh=>V4 (by unfold oE;rw[if_neg k1,if_pos (.inr h)];rfl)) λk3=>?_;have w:oE p=(!decide (iM p = { data:=#[] })||(XG p||BBF p)):=by
  unfold oE;rw[if_neg k1,if_neg];rintro (h|h)
  ·exact k2 h
  ·exact k3 h
 have fin:aD (!decide (iM p = { data:=#[] })) (pPR true=pPR (oE p)) (aD (XG p) (pPR true=pPR (oE p)) (pPR (BBF p)=pPR (oE p))):=by
  rw[w];cases (!decide (iM p = { data:=#[] })) with
  | true=>rfl
  | false=>exact V4 rfl
 exact cO (λ_=>fin) λ_=>fin
def AM6 (m:aE) (n:iII):Bool:=match P4 m n with
 | some s=>decide (1<=s.2.1)&&decide (s.2.1<=1000000)&&(decide (1<=s.2.2.1)&&decide (s.2.2.1<=2000))
 | none=>false
def iK (p:bD) (m:aE):Bool:=if gO p=4 then true else match iA m (iM p) with
 | none=>false
 | some g=>decide (1000<=g.2.1)&&decide (g.2.1<=20000)&&(if gO p=1 then decide (1<=o7 p)&&decide (o7 p<=120)&&vU m (iM p) (o7 p) else AM6 m (ZP p))
def A7H:Env:=Env.of [(269,.pure gV),(270,.pure dC),(309,.pure kU)]
def A88:FuncId->Hint:=λ_=>a6
def AOZ:aR Tryz.prog A7H:=.cons G3 (.cons N2 (.cons AHP (.nil _)))
def BPK:Sh:=[(true,b9),(false,Sy.bool)]
def BQ0(y2:cW×Bool)(R:T->Prop):Prop:=aD y2.2 (aD (decide (1<=y2.1.2.1)) (aD (decide (y2.1.2.1<=1000000)) (aD (decide (1<=y2.1.2.2.1)) (R (pPR (decide (y2.1.2.2.1<=2000)))) (R BPE)) (R BPE)) (R BPE)) (R BPE)
def BPZ(a1:aE)(a0:bD)(R:T->Prop):Prop:=aM BPK (dC [aF true aI a1, pPQ a0.2.2.2.2.2.2.2.1]) λ(y3:cW×Bool)=>BQ0 y3 R
def BQZ(a0:bD)(a1:aE)(R:T->Prop):Prop:=aD (decide (1<=a0.2.2.2.2.2.1)) (aD (decide (a0.2.2.2.2.2.1<=120)) (aM BPI (kU [aF true aI a1,pPQ a0.2.2.2.2.1, pPP a0.2.2.2.2.2.1]) λ(y1:Bool)=>R (pPR y1)) (R BPE)) (R BPE)
def BRW(a0:bD)(a1:aE)(R:T->Prop):Prop:=aD (decide (a0.2.2.1=3)) (BPZ a1 a0 R) (aD (decide (a0.2.2.1=4)) (BPZ a1 a0 R) (BPZ a1 a0 R))
def BRX(a1:aE)(a0:bD):List T:=[aF true aI a1,pPQ a0.2.2.2.2.1]
def BP7(a1:aE)(a0:bD)(R:T->Prop):Prop:=aM BPO (gV (BRX a1 a0)) λ(y6:gN×Bool)=>aD (!y6.2) (R BPE) (aD (decide (1000<=y6.1.2.1)) (aD (!decide (y6.1.2.1<=20000)) (R BPE) (aD (decide (a0.2.2.1=1)) (BQZ a0 a1 R) (aD (decide (a0.2.2.1=2)) (BPZ a1 a0 R) (BRW a0 a1 R)))) (R BPE))
def UI(a0:bD)(a1:aE)(R:T->Prop):Prop:=aD (decide (a0.2.2.1=1)) (aM BPO (gV (BRX a1 a0)) λ(y0:gN×Bool)=>aD (!y0.2) (R BPE) (aD (decide (1000<=y0.1.2.1)) (aD (!decide (y0.1.2.1<=20000)) (R BPE) (aD (decide (a0.2.2.1=1)) (BQZ a0 a1 R) (aD (decide (a0.2.2.1=2)) (aM BPK (dC [aF true aI a1,pPQ a0.2.2.2.2.2.2.2.1]) λ(y2:cW×Bool)=>BQ0 y2 R) (BRW a0 a1 R)))) (R BPE))) (aD (decide (a0.2.2.1=2)) (BP7 a1 a0 R) (aD (decide (a0.2.2.1=3)) (BP7 a1 a0 R) (aD (decide (a0.2.2.1=4)) (R BPL) (BP7 a1 a0 R))))
abbrev WZ:Sh:=[(true,aP),(true,aI)]
def FV (x:bD×aE):Option T:=FD x.2 (pPR (iK x.1 x.2))
def pP:List T->Option T:=gS WZ FV
def AIB {a0 a1}:pP [aF true aP a0,aF true aI a1]=FV (a0,a1):=bH (s:=WZ) rfl (a0,a1) rfl
def A4O:tG Tryz.prog 265 pP FV (cQ WZ) UI:=iR (a1:=(true,aP)) (a2:=(true,aI)) (Hs:=A88) (k:=8) AOZ aV aY (aN rfl) ⟨_,_,Tryz.func265,rfl⟩ rfl λ_ _ _=>by kernel_rfl
def EO (m:aE) (n:iII):dC [aF true aI m,pPQ n]=some (Sh.enc [(true,b9),(false,.bool)] (found BH (P4 m n))):=VT ..
def A0R:aO Tryz.prog 265 pP:=A4O λp m r h hb=>by
 obtain ⟨hok,rfl⟩:=yD h;replace hok:okM m=true:=hok;clear h;have is:∀ {n:Bool},iK p m=n->pPR n=pPR (iK p m):=λh=>by rw[h]
 unfold UI BP7 BRX BRW BQZ BPZ BQ0 BPO BPL BPK BPI BPE;have sec:∀ {g:gN},iA m (iM p)=some g->¬ gO p=4->¬ gO p=1->1000<=g.2.1->g.2.1<=20000 ->
   aM [(true,b9),(false,Sy.bool)] (dC [aF true aI m,pPQ (ZP p)])
    λ(y2:cW×Bool) =>
    aD y2.2
     (aD (decide (1<=y2.1.2.1))
      (aD (decide (y2.1.2.1<=1000000))
       (aD (decide (1<=y2.1.2.2.1))
        (pPR (decide (y2.1.2.2.1<=2000))=pPR (iK p m))
        (pPR false=pPR (iK p m)))
       (pPR false=pPR (iK p m)))
      (pPR false=pPR (iK p m)))
     (pPR false=pPR (iK p m)):=by
  intro g hg k4 k1 d1 d2;have w:iK p m=AM6 m (ZP p):=by
   unfold iK;rw[if_neg k4,hg];dsimp only;rw[ai d1,ai d2,if_neg k1];rfl
  refine aK (s:=[(true,b9),(false,.bool)]) (EO m _) ?_;cases hs:P4 m (ZP p) with
  | none =>
   show aD false _ _;rw[pA];exact is (by rw[w];unfold AM6;rw[hs])
  | some s =>
   show aD true _ _;rw[kH];dsimp only[found];have w2:iK p m=(decide (1<=s.2.1)&&decide (s.2.1<=1000000)&&(decide (1<=s.2.2.1)&&decide (s.2.2.1<=2000))):=by rw[w];unfold AM6;rw[hs]
   refine cO (λh1=>cO (λh2=>cO (λh3=>is ?_) λh3=>is ?_) λh2=>is ?_) λh1=>is ?_
   ·rw[w2,ai h1,ai h2,ai h3];rfl
   ·rw[w2,ai h1,ai h2,aj h3];rfl
   ·rw[w2,ai h1,aj h2];rfl
   ·rw[w2,aj h1];rfl
 have plate:∀ {g:gN},iA m (iM p)=some g->gO p=1->1000<=g.2.1->g.2.1<=20000 ->
   aD (decide (1<=o7 p)) (aD (decide (o7 p<=120)) (aM [(false,Sy.bool)] (kU [aF true aI m,pPQ (iM p),pPP (o7 p)]) λ(y1:Bool)=>pPR y1=pPR (iK p m)) (pPR false=pPR (iK p m))) (pPR false=pPR (iK p m)):=by
  intro g hg k1 d1 d2;have w:iK p m=(decide (1<=o7 p)&&decide (o7 p<=120)&&vU m (iM p) (o7 p)):=by
   unfold iK;rw[if_neg (by omega),hg];dsimp only;rw[ai d1,ai d2,if_pos k1];rfl
  refine cO (λh1=>cO (λh2=>?_) λh2=>is ?_) λh1=>is ?_
  ·refine aK (s:=[(false,.bool)]) (y:=vU m (iM p) (o7 p)) ((VL ..).trans (yE _ hok)) (is ?_);rw[w,ai h1,ai h2];rfl
  ·rw[w,ai h1,aj h2];rfl
  ·rw[w,aj h1];rfl
 by_cases k4:p.2.2.1=4
 ·have w:iK p m=true:=by unfold iK;rw[if_pos k4]
  repeat' first
   | (exfalso;omega)
   | exact is w
   | refine cO (λh=>?_) (λh=>?_)
 ·have hnone:iA m (iM p)=none->iK p m=false:=λh=>by unfold iK;rw[if_neg k4,h]
  have dens:∀ {g:gN},iA m (iM p)=some g->¬ (1000<=g.2.1/\g.2.1<=20000)->iK p m=false:=λ{g} hg h=>by
   unfold iK;rw[if_neg k4,hg];dsimp only;by_cases h1:1000<=g.2.1
   ·rw[aj (show ¬ g.2.1<=20000 by omega),Bool.and_false,Bool.false_and]
   ·rw[aj h1,Bool.false_and,Bool.false_and]
  have call:∀ {K:gN×Bool->Prop},(iA m (iM p)=none->K (kV,false))->(∀ g,iA m (iM p)=some g->K (g,true))->aM [(true,dX),(false,Sy.bool)] (gV [aF true aI m,pPQ p.2.2.2.2.1]) K:=λ{K} h1 h2=>by
   refine aK (s:=[(true,dX),(false,.bool)]) (xO hok _) ?_;cases hg:iA m (iM p) with
   | none=>exact h1 hg
   | some g=>exact h2 g hg
  have body:∀ {K:gN×Bool->Prop},(∀ g,iA m (iM p)=some g->1000<=g.2.1->g.2.1<=20000->K (g,true))->aM [(true,dX),(false,Sy.bool)] (gV [aF true aI m,pPQ p.2.2.2.2.1]) λ(y0:gN×Bool)=>aD (!y0.2) (pPR false=pPR (iK p m)) (aD (decide (1000<=y0.1.2.1)) (aD (!decide (y0.1.2.1<=20000)) (pPR false=pPR (iK p m)) (K y0)) (pPR false=pPR (iK p m))):=λ{K} hK=>by
   refine call (λhn=>?_) λg hg=>?_
   ·show aD true _ _;rw[kH];exact is (hnone hn)
   ·show aD false _ _;rw[pA];exact cO (λd1=>lK (λd2=>is (dens hg (λh=>d2 h.2))) λd2=>hK g hg d1 d2) λd1=>is (dens hg (λh=>d1 h.1))
  refine cO (λh=>body λg hg d1 d2=>?_) λh1=>cO (λh=>body λg hg d1 d2=>?_) λh2=>cO (λh=>body λg hg d1 d2=>?_) λh3=>cO (λh=>absurd h k4) λ_=>body λg hg d1 d2=>?_
  all_goals
   repeat' first
    | (exfalso;omega)
    | exact plate hg (by assumption) d1 d2
    | exact sec hg k4 (by assumption) d1 d2
    | exact sec hg k4 (by intro h';have h'':p.2.2.1=1:=h';omega) d1 d2
    | refine cO (λh=>?_) (λh=>?_)
def nR (p:bD) (m:aE):Int:=if oS p.1=false\/oS (fV p)=false then 6 else if ¬ (1<=p.2.1/\p.2.1<=1000) then 9 else if ¬ (gO p=1\/gO p=2\/gO p=3\/gO p=4) then 10 else if oE p=true then 2 else if iK p m=false then 23 else
 if gO p=1/\¬ yI (lW p)=0 then yI (lW p) else if (gO p=2\/gO p=3)/\¬ (1<=AGQ p/\AGQ p<=32768) then 9 else if gO p=4/\¬ (1<=I4 p/\I4 p<=1099511627776/\BL (JW p)=true) then 9 else if tC (aAt p)=false then 9 else 0
def AOM:Env:=Env.of [(64,.pure eW),(264,.pure mZ),(265,.pure pP),(266,.pure jS),(268,.pure cT)]
def APO:FuncId->Hint:=λ_=>a6
def Y2:aR Tryz.prog AOM:=.cons zH (.cons AQ1 (.cons A0R (.cons SB (.cons ARD (.nil _)))))
def BPN:T:=pPP 2
def BPW:T:=pPP 23
def BQO(a0:bD)(R:T->Prop):Prop:=aM BPI (cT [aF true fO a0.2.2.2.2.2.2.2.2.2.2.2]) λ(y5:Bool)=>aD (!y5) (R BPH) (R BPJ)
def BRO(a0:bD)(R:T->Prop):Prop:=aD (decide (1<=a0.2.2.2.2.2.2.2.2.1)) (aD (!decide (a0.2.2.2.2.2.2.2.2.1<=32768)) (R BPH) (BQO a0 R)) (R BPH)
def BPY(a0:bD)(R:T->Prop)(a1:aE):Prop:=aM BPI (mZ [aF true aP a0]) λ(y2:Bool)=>aD y2 (R BPN) (aM BPI (pP [aF true aP a0,aF true aI a1]) λ(y3:Bool)=>aD (!y3) (R BPW) (aD (decide (a0.2.2.1=1)) (aM BPG (jS [aF true e8 a0.2.2.2.2.2.2.1]) λ(y4:Int)=>aD (!decide (y4=0)) (R (BQX y4)) (BQO a0 R)) (aD (decide (a0.2.2.1=2)) (BRO a0 R) (aD (decide (a0.2.2.1=3)) (BRO a0 R) (aD (decide (a0.2.2.1=4)) (aD (decide (1<=a0.2.2.2.2.2.2.2.2.2.1)) (aD (!decide (a0.2.2.2.2.2.2.2.2.2.1<=1099511627776)) (R BPH) (aM BPI (cT [T.agg [pPP a0.2.2.2.2.2.2.2.2.2.2.1.1, pPP a0.2.2.2.2.2.2.2.2.2.2.1.2.1, pPP a0.2.2.2.2.2.2.2.2.2.2.1.2.2, pPP 0]]) λ(y8:Bool)=>aD (!y8) (R BPH) (BQO a0 R))) (R BPH)) (BQO a0 R))))))
def GG(a0:bD)(a1:aE)(R:T->Prop):Prop:=aM BPI (eW [pPQ a0.1]) λ(y0:Bool)=>aD (!y0) (R BPS) (aM BPI (eW [pPQ a0.2.2.2.1]) λ(y1:Bool)=>aD (!y1) (R BPS) (aD (decide (1<=a0.2.1)) (aD (!decide (a0.2.1<=1000)) (R BPH) (aD (decide (a0.2.2.1=1)) (BPY a0 R a1) (aD (decide (a0.2.2.1=2)) (BPY a0 R a1) (aD (decide (a0.2.2.1=3)) (BPY a0 R a1) (aD (decide (a0.2.2.1=4)) (BPY a0 R a1) (R (pPP 10))))))) (R BPH)))
abbrev IB:Sh:=[(true,aP),(true,aI)]
def vY (x:bD×aE):Option T:=FD x.2 (T.v (Value.int .i64 (nR x.1 x.2)))
def mH:List T->Option T:=gS IB vY
def VP {a0 a1}:mH [aF true aP a0,aF true aI a1]=vY (a0,a1):=bH (s:=IB) rfl (a0,a1) rfl
def AI9:tG Tryz.prog 129 mH vY (cQ IB) GG:=iR (a1:=(true,aP)) (a2:=(true,aI)) (Hs:=APO) (k:=8) Y2 aV aY (aN rfl) ⟨_,_,Tryz.func129,rfl⟩ rfl λ_ _ _=>by kernel_rfl
def N1:aO Tryz.prog 129 mH:=AI9 λp m r h hb=>by
 obtain ⟨hok,rfl⟩:=yD h;replace hok:okM m=true:=hok;clear h hb;have is:∀ {n:Int},nR p m=n->pPP n=pPP (nR p m):=λh=>by rw[h]
 unfold GG BPY BRO BQX BQO BPW BPS BPN BPJ BPI BPH BPG;rw[nY];refine lD (λh=>is (by unfold nR;rw[if_pos (.inl h)])) λi1=>?_;rw[nY];refine lD (λh=>is (by unfold nR;rw[if_pos (.inr h)])) λi2=>?_;have n1:¬ (oS p.1=false\/oS (fV p)=false):=by
  rintro (h|h)
  ·rw[i1] at h;cases h
  ·rw[show oS (fV p)=true from i2] at h;cases h
 have r9:¬ (1<=p.2.1/\p.2.1<=1000)->pPP 9=pPP (nR p m):=λh=>is (by unfold nR;rw[if_neg n1,if_pos h]);refine cO (λv1=>lK (λh=>r9 (λh2=>h h2.2)) λv2=>?_) λh=>r9 (λh2=>h h2.1);have n2:¬ ¬ (1<=p.2.1/\p.2.1<=1000):=λh=>h ⟨v1,v2⟩;have w1:nR p m=if ¬ (gO p=1\/gO p=2\/gO p=3\/gO p=4) then 10 else if oE p=true then 2 else if iK p m=false then 23 else if gO p=1/\¬ yI (lW p)=0 then yI (lW p) else if (gO p=2\/gO p=3)/\¬ (1<=AGQ p/\AGQ p<=32768) then 9 else if gO p=4/\¬ (1<=I4 p/\I4 p<=1099511627776/\BL (JW p)=true) then 9 else if tC (aAt p)=false then 9 else 0:=by
  unfold nR;rw[if_neg n1,if_neg n2]
 have spare:∀ {K:Bool->Prop},K (oE p)->aM [(false,Sy.bool)] (mZ [aF true aP p]) K:=λh=>aK (s:=[(false,.bool)]) (y:=oE p) (ABW ..) h;have made:∀ {K:Bool->Prop},K (iK p m)->aM [(false,Sy.bool)] (pP [aF true aP p,aF true aI m]) K:=λh=>aK (s:=[(false,.bool)]) (y:=iK p m) ((AIB ..).trans (yE _ hok)) h;have place:∀ {K:Bool->Prop},K (tC (aAt p))->aM [(false,Sy.bool)] (cT [aF true fO (aAt p)]) K:=λh=>aK (s:=[(false,.bool)]) (y:=tC (aAt p)) (JH ..) h;have near:∀ {K:Bool->Prop},K (BL (JW p))->aM [(false,Sy.bool)] (cT [aF true fO (JW p,0)]) K:=λ{K} h=>aK (s:=[(false,.bool)]) (y:=tC (JW p,0)) (JH ..) (by
  rw[show tC (JW p,0)=BL (JW p) by unfold tC;rw[show decide (((JW p,(0:Int)):B0).2=AI1 ((JW p,(0:Int)):B0).2)=true from rfl,Bool.and_true]];exact h)
 have reg:∀ {K:Int->Prop},K (yI (lW p))->aM [(false,Sy.int IntKind.i64)] (jS [aF true e8 (lW p)]) K:=λh=>aK (s:=[(false,.int .i64)]) (JD _) h
 repeat' first
  | (exfalso;omega)
  | refine spare ?_
  | refine made ?_
  | refine reg ?_
  | refine place ?_
  | refine near ?_
  | refine lK (λh=>?_) (λh=>?_)
  | refine cO (λh=>?_) (λh=>?_)
  | refine lD (λh=>?_) (λh=>?_)
  | refine DQ (λh=>?_) (λh=>?_)
 all_goals (refine is ?_;clear spare made place near reg is r9;rw[w1];clear w1 n1 n2 i1 i2;simp_all;try (intros;exfalso;simp only[AGQ,I4] at *;omega))
def EN (h:okM m=true) (p:bD):mH [aF true aP p,aF true aI m]=some (Sh.enc [(false,.int .i64)] (nR p m)):=(VP ..).trans (yE _ h)
def AIM (m:aE) (n:iII):gN:=(iA m n).getD kV
def BNW (m:aE) (n:iII):cW:=(P4 m n).getD BH
def AL3 {no:α} {o:Option α}:(found no o).1=o.getD no:=by cases o<;>rfl
def S2 (p:bD) (m:aE):Int:=if gO p=1 then i64.wrap ((i64.wrap (i64.wrap (ADT (lW p)*o7 p)*(AIM m (iM p)).2.1)).tdiv 2000000) else if gO p=2\/gO p=3 then i64.wrap ((i64.wrap (i64.wrap ((BNW m (ZP p)).2.1*AGQ p)*(AIM m (iM p)).2.1)).tdiv 1000000) else I4 p
def uN (p:bD) (m:aE):Int×Int:=if nR p m=0 then (S2 p m,0) else (0,nR p m)
def AU5:Env:=Env.of [(129,.pure mH),(269,.pure gV),(270,.pure dC),(271,.pure uE)]
def AYU:FuncId->Hint:=λ_=>a6
def AFG:aR Tryz.prog AU5:=.cons N1 (.cons G3 (.cons N2 (.cons AQ4 (.nil _))))
def BRF(R:T->Prop)(y2:cW×Bool)(a0:bD)(y1:gN×Bool):Prop:=b7 true (R (T.bY [pPP (i64.wrap ((i64.wrap (i64.wrap (y2.1.2.1*a0.2.2.2.2.2.2.2.2.1) * y1.1.2.1)).tdiv 1000000)), pPP 0]))
def BRZ(a0:bD):List T:=[pPP a0.2.2.2.2.2.2.2.2.2.1, pPP 0]
def L5(a0:bD)(a1:aE)(R:T->Prop):Prop:=aM BPG (mH [aF true aP a0,aF true aI a1]) λ(y0:Int)=>aD (!decide (y0=0)) (R (T.bY [pPP 0,pPP y0])) (aM BPO (gV (BRX a1 a0)) λ(y1:gN×Bool)=>aM BPK (dC [aF true aI a1,pPQ a0.2.2.2.2.2.2.2.1]) λ(y2:cW×Bool)=>aD (decide (a0.2.2.1=1)) (aM BPG (uE [aF true e8 a0.2.2.2.2.2.2.1]) λ(y3:Int)=>b7 true (R (T.bY [pPP (i64.wrap ((i64.wrap (i64.wrap (y3*a0.2.2.2.2.2.1)*y1.1.2.1)).tdiv 2000000)), pPP 0]))) (aD (decide (a0.2.2.1=2)) (BRF R y2 a0 y1) (aD (decide (a0.2.2.1=3)) (BRF R y2 a0 y1) (aD (decide (a0.2.2.1=4)) (R (T.bY (BRZ a0))) (R (T.bY (BRZ a0)))))))
abbrev PO:Sh:=[(true,aP),(true,aI)]
abbrev ADR:Sh:=[(false,Sy.int IntKind.i64),(false,Sy.int IntKind.i64)]
def AJ (x:bD×aE):Option T:=FD x.2 (Sh.enc ADR (uN x.1 x.2))
def uB:List T->Option T:=gS PO AJ
def ABX {a0 a1}:uB [aF true aP a0,aF true aI a1]=AJ (a0,a1):=bH (s:=PO) rfl (a0,a1) rfl
def AS0:tG Tryz.prog 130 uB AJ (cQ PO) L5:=iR (a1:=(true,aP)) (a2:=(true,aI)) (Hs:=AYU) (k:=8) AFG aV aY (aN rfl) ⟨_,_,Tryz.func130,rfl⟩ rfl λ_ _ _=>by kernel_rfl
def AQ2:aO Tryz.prog 130 uB:=AS0 λp m r h hb=>by
 obtain ⟨hok,rfl⟩:=yD h;replace hok:okM m=true:=hok;clear h hb;have is:∀ {a b:Int},uN p m=(a,b)->T.bY [pPP a,pPP b]=Sh.enc ADR (uN p m):=λh=>by rw[h];rfl
 unfold L5 BRZ BRF BRX BPO BPK BPG;refine aK (s:=[(false,.int .i64)]) (EN hok p) ?_;refine lK (λh=>is (by unfold uN;rw[if_neg h])) λh=>?_;refine aK (s:=[(true,dX),(false,.bool)]) (xO hok _) ?_;refine aK (s:=[(true,b9),(false,.bool)]) (EO m _) ?_;have w:uN p m=(S2 p m,0):=by unfold uN;rw[if_pos h]
 have eg:(found kV (iA m (iM p))).1=AIM m (iM p):=AL3;have es:(found BH (P4 m (ZP p))).1=BNW m (ZP p):=AL3;refine cO (λk1=>?_) λk1=>?_
 ·refine aK (s:=[(false,.int .i64)]) (AB3 _) ?_;refine ⟨rfl,is ?_⟩;rw[w];unfold S2;rw[if_pos k1,<-eg]
 refine cO (λk2=>⟨rfl,is ?_⟩) λk2=>?_
 ·rw[w];unfold S2;rw[if_neg k1,if_pos (.inl k2),<-eg,<-es]
 refine cO (λk3=>⟨rfl,is ?_⟩) λk3=>?_
 ·rw[w];unfold S2;rw[if_neg k1,if_pos (.inr k3),<-eg,<-es]
 have fin:uN p m=(I4 p,0):=by
  rw[w];unfold S2;rw[if_neg k1,if_neg];rintro (h|h)
  ·exact k2 h
  ·exact k3 h
 exact cO (λ_=>is fin) λ_=>is fin
def ABY (h:okM m=true) (p:bD):uB [aF true aP p,aF true aI m]=some (Sh.enc [(false,.int .i64),(false,.int .i64)] (uN p m)):=(ABX ..).trans (yE _ h)
def oK (a0:aA) (m1:List aG) (m2:List aG) (m3:List aG) (m4:List aG) (a5:aE):List T:=[QH a0 m1 m2 m3 m4,T.agg (aI.enc a5)]
def LN:Env:=Env.of [(129,.pure mH),(130,.pure uB)]
def ZK:FuncId->Hint:=cF 89 [(2,.inv [.val 23 false (.int .i64)]),(13,.inv [.val 10 false (.int .i64),.val 54 false (.int .i64)])] (λ_=>a6)
def AE7:aR Tryz.prog LN:=.cons N1 (.cons AQ2 (.nil _))
def BPX:T:=pPP 8
def BP5(a0:aA):List (List T):=List.map aP.enc a0.2.2.1
def LW(a0:aA)(m1:List aG)(m2:List aG)(m3:List aG)(m4:List aG)(a5:aE)(R:T->Prop):Prop:=a8 (Int×PUnit) (λX0 s1=>aD (decide (s1.1<(↑(BP5 a0).length:Int))) (aX aP (BP5 a0) s1.1 λ(y2:bD)=>aM BPG (mH [aF true aP y2,aF true aI a5]) λ(y3:Int)=>aD (!decide (y3=0)) (R (BQX y3)) (iI TypeDesc.string (Value.string y2.2.2.2.1) (rK (bP m1)) false BPM (R BPX) λ(i4:Nat) (y5:Int)=>X0 (i64.wrap (s1.1+1),()))) (a8 (Int×Int×PUnit) (λX6 s7=>aD (decide (s7.2.1<(↑(BP5 a0).length:Int))) (aX aP (BP5 a0) s7.2.1 λ(y8:bD)=>aM [(false,Sy.int IntKind.i64),(false,Sy.int IntKind.i64)] (uB [aF true aP y8,aF true aI a5]) λ(y9:aU)=>aD (decide (1099511627776<i64.wrap (s7.1+y9.1))) (R (pPP 13)) (X6 (i64.wrap (s7.1+y9.1),i64.wrap (s7.2.1+1),()))) (R BPJ)) (0,0,()))) (0,())
def ZC ( a0 m1 m2 m3 m4 a5 R):dM bX Tryz.prog LN ZK 8 89 (oK a0 m1 m2 m3 m4 a5) R=LW a0 m1 m2 m3 m4 a5 R:=by kernel_rfl
def T1 (x y:aA×MP×MP×MP×MP×aE) (h:oK x.1 x.2.1 x.2.2.1 x.2.2.2.1 x.2.2.2.2.1 x.2.2.2.2.2=oK y.1 y.2.1 y.2.2.1 y.2.2.2.1 y.2.2.2.2.1 y.2.2.2.2.2):x=y:=by
 obtain ⟨h1,h2⟩:=List.cons.inj h;have:=rJ (x:=(x.1,x.2.1,x.2.2.1,x.2.2.2.1,x.2.2.2.2.1)) (y:=(y.1,y.2.1,y.2.2.1,y.2.2.2.1,y.2.2.2.2.1)) h1;have h2:=Sy.eU aI _ _ (T.agg.inj (List.cons.inj h2).1);simp only[Prod.mk.injEq] at this;obtain ⟨e1,e2,e3,e4,e5⟩:=this;exact Prod.ext e1 (Prod.ext e2 (Prod.ext e3 (Prod.ext e4 (Prod.ext e5 h2))))
def fC (d:aA) (m:aE) (p:bD):Int:=if nR p m=0 then (if (dR d (fV p)).isNone=true then 8 else 0) else nR p m
def rI (m:aE):List bD->Int->Int
 | [],_=>0
 | p::l,s=>if 1099511627776<i64.wrap (s+(uN p m).1) then 13 else rI m l (i64.wrap (s+(uN p m).1))
def j2 (d:aA) (m:aE):Int:=if b6 (fC d m) d.2.2.1=0 then rI m d.2.2.1 0 else b6 (fC d m) d.2.2.1
def uS (x:aA×MP×MP×MP×MP×aE):Option T:=match okM x.2.2.2.2.2 with
 | true=>wH (x.1,x.2.1,x.2.2.1,x.2.2.2.1,x.2.2.2.2.1) (T.v (Value.int .i64 (j2 x.1 x.2.2.2.2.2)))
 | false=>none
def tY:List T->Option (T):=gA (λ(x:aA×List aG×List aG×List aG×List aG×aE)=>oK x.1 x.2.1 x.2.2.1 x.2.2.2.1 x.2.2.2.2.1 x.2.2.2.2.2) uS
def AA4 (a0:aA) (m1:List aG) (m2:List aG) (m3:List aG) (m4:List aG) (a5:aE):tY (oK a0 m1 m2 m3 m4 a5)=uS (a0,m1,m2,m3,m4,a5):=dY (A:=(λ(x:aA×List aG×List aG×List aG×List aG×aE)=>oK x.1 x.2.1 x.2.2.1 x.2.2.2.1 x.2.2.2.2.1 x.2.2.2.2.2)) T1 (a0,m1,m2,m3,m4,a5)
def ASR (h:∀ (a0:aA) (m1:List aG) (m2:List aG) (m3:List aG) (m4:List aG) (a5:aE) (r:T),uS (a0,m1,m2,m3,m4,a5)=some r->(∀ t∈oK a0 m1 m2 m3 m4 a5,Bd t)->LW a0 m1 m2 m3 m4 a5 (λy=>y=r)):aO Tryz.prog 89 tY :=
 cE (E:=LN) (Hs:=ZK) AE7 aV aY (aN rfl) 8 ⟨_,_,Tryz.func89,rfl⟩ λx r h1 h2=>by
  rw[ZC];exact h x.1 x.2.1 x.2.2.1 x.2.2.2.1 x.2.2.2.2.1 x.2.2.2.2.2 r h1 h2
def AQW:aO Tryz.prog 89 tY:=ASR λd m1 m2 m3 m4 m r h hb=>by
 unfold uS at h;split at h
 case h_2=>cases h
 rename_i hok;replace hok:okM m=true:=hok;obtain ⟨hx,hs,rfl⟩:=oV h;simp only[Prod.mk.injEq,true_and] at hx;obtain ⟨rfl,rfl,rfl,rfl⟩:=hx;replace hs:nT d:=hs;clear h hb;have is:∀ {n:Int},j2 d m=n->pPP n=pPP (j2 d m):=λh=>by rw[h]
 unfold LW BP5 BQX BPX BPM BPJ BPG;refine qU (r:=aP) (fC d m) hs.p (λX s y hy hgo hbad=>?_) λh0=>?_
 ·have bad:∀ {n:Int},n≠0->fC d m y=n->pPP n=pPP (j2 d m):=λhn h=>by
   have h1:=hbad (by rw[h];exact hn);refine is ?_;unfold j2;rw[if_neg (by rw[h1,h];exact hn),h1,h]
  refine aK (s:=[(false,.int .i64)]) (EN hok y) ?_;refine lK (λh=>bad h (by unfold fC;rw[if_neg h])) λh=>?_;refine ixK (λhn=>bad (by decide) ?_) λi j hj hn=>hgo ?_
  ·have hn:dR d (fV y)=none:=hn;unfold fC;rw[if_pos h,hn];rfl
  ·have hn:dR d (fV y)=some d.2.1[j]:=hn;unfold fC;rw[if_pos h,hn];rfl
 ·have w:j2 d m=rI m d.2.2.1 0:=by unfold j2;rw[if_pos h0]
  clear h0;have hl:=hs.p;generalize d.2.2.1=l at w hl ⊢;refine bN l.length (λk s=>s.2.1=(k:Int)/\rI m (l.drop k) s.1=j2 d m) ⟨rfl,by rw[w];rfl⟩ ?_;rintro X k ⟨s,i,u⟩ hk ⟨rfl,he⟩ hX;dsimp only at he ⊢;refine cO (λhlt=>?_) λhge=>?_
  ·rw[ae] at hlt;have hlt:k<l.length:=by omega
   rw[bG (r:=aP) hlt];rw[List.drop_eq_getElem_cons hlt,rI] at he;refine aK (s:=[(false,.int .i64),(false,.int .i64)]) (ABY hok _) ?_;refine cO (λh=>is (by rw[<-he,if_pos h])) λh=>?_;rw[if_neg h] at he;refine hX _ hlt ⟨?_,he⟩;show i64.wrap ((k:Int)+1)=_;rw[bB]<;>omega
  ·rw[ae] at hge;have:k=l.length:=by omega
   subst this;rw[List.drop_length,rI] at he;exact is he.symm
def oJ (a0:aA) (m1:List aG) (m2:List aG) (m3:List aG) (m4:List aG):List T:=[QH a0 m1 m2 m3 m4]
def LM:Env:=Env.of [(64,.pure eW),(123,.pure wM),(132,.pure HF),(131,.pure iJ),(128,.pure lJ),(133,.new EL)]
def ZJ:FuncId->Hint:=cF 91 [(4,.inv [.own 3 2 (.pr (.int .i64) (.int .i64)),.map 0 .str false .bool,.val 29 false (.int .i64)]),(15,.inv [.val 76 false (.int .i64),.map 0 .str false .bool]),(31,.inv [.own 3 2 (.pr (.int .i64) (.int .i64)),.val 147 false (.int .i64)])] (λ_=>a6)
def AE6:aR Tryz.prog LM:=.cons zH (.cons BD7 (.cons BA5 (.cons AAQ (.cons SD (.cons A0Q (.nil _))))))
def BP2(a0:aA):List (List T):=List.map a7.enc a0.2.2.2.2.2
def BP3(a0:aA):List (List T):=List.map aH.enc a0.2.2.2.2.1
def BP8(a0:aA):List (List T):=List.map bI.enc a0.2.2.2.1
def BQ8(y3:bA):List (List T):=List.map Sy.str.enc y3.2.2.1
def BQB(a0:aA):List (List T):=List.map bC.enc a0.2.1
def BQD(a0:aA):List T:=[pPQ a0.1, T.sl false (BQB a0), T.sl false (BP5 a0), T.sl false (BP8 a0), T.sl false (BP3 a0), T.sl false (BP2 a0)]
def BQV(y3:bA):List (List T):=List.map Sy.str.enc y3.2.2.2.2
def BQG(y13:iII)(s12:Int×List (iII×Bool)×PUnit)(X11:Int×List (iII×Bool)×PUnit->Prop):Prop:=lP (Option (Nat×D)) (findD TypeDesc.string (Value.string y13) (List.map (cG Sy.str false Sy.bool) s12.2.1) 0) λ(y24:Option (Nat×D))=>dK Sy.str false Sy.bool (e7 (List.map (cG Sy.str false Sy.bool) s12.2.1) y24 (Value.string y13) (D.p BPL)) λ(y25:List (iII×Bool))=>X11 (i64.wrap (s12.1+1),y25,())
def BQ6(a0:aA)(m1:List aG)(m2:List aG)(m3:List aG)(m4:List aG):List T:=[T.ref (BQD a0), T.mp (bP m1),T.mp (bP m2), T.mp (bP m3),T.mp (bP m4)]
def BRD(a0:aA):List T:=[pPQ a0.1,T.sl false (BQB a0), T.sl false (BP5 a0), T.sl false (BP8 a0), T.sl false (BP3 a0), T.sl false (BP2 a0)]
def BRV(y18:List iII×Bool):List (List T):=List.map Sy.str.enc y18.1
def LV(a0:aA)(m1:List aG)(m2:List aG)(m3:List aG)(m4:List aG)(R:T->Prop):Prop:=dK Sy.str false Sy.bool [] λ(y0:List (iII×Bool))=>a8 (List aU×List (iII×Bool)×Int×PUnit) (λX1 s2=>aD (decide (s2.2.2.1<(↑(BP3 a0).length:Int))) (aX aH (BP3 a0) s2.2.2.1 λ(y3:bA)=>aM BPI (eW [pPQ y3.1]) λ(y4:Bool)=>aD (!y4) (R BPS) (aM BPI (iJ [T.ref [T.ref (BRD a0), T.mp (bP m1),T.mp (bP m2),T.mp (bP m3), T.mp (bP m4)], pPQ y3.2.1]) λ(y5:Bool)=>aD (!y5) (R BPX) (aD (decide (y3.2.2.2.1<1)) (R BPH) (aD (decide (10000<y3.2.2.2.1)) (R BPH) (aM [(false,Sy.any)] (HF [T.sl false (BQ8 y3)]) λ(y6:T)=>aM BPI (wM [pPP (↑(BQ8 y3).length:Int), y6]) λ(y7:Bool)=>aD (!y7) (R BPT) (aM [(false,Sy.any)] (HF [T.sl false (BQV y3)]) λ(y8:T)=>aM BPI (wM [pPP (↑(BQV y3).length:Int), y8]) λ(y9:Bool)=>aD (!y9) (R BPT) (dK Sy.str false Sy.bool (List.map (cG Sy.str false Sy.bool) s2.2.1) λ(y10:List (iII×Bool))=>a8 (Int×List (iII×Bool)×PUnit) (λX11 s12=>aD (decide (s12.1<(↑(BQ8 y3).length:Int))) (aX Sy.str (BQ8 y3) s12.1 λ(y13:iII)=>iI TypeDesc.string (Value.string y13) (rK (bP m2)) false BPM (R BPX) λ(i14:Nat) (y15:Int)=>aX aP (BP5 a0) y15 λ(y16:bD)=>aD (!decide (y16.2.2.1=4)) (aD (!decide (y16.2.2.1=3)) (R (pPP 10)) (aX aP (BP5 a0) y15 λ(y17:bD)=>aM [(false,Sy.str.li),(false,Sy.bool)] (lJ [T.ref (BQ6 a0 m1 m2 m3 m4), pPQ y17.2.2.2.1]) λ(y18:List iII×Bool)=>aD (decide ((↑(BRV y18).length:Int)=0)) (R BPN) (aX Sy.str (BRV y18) (i64.wrap ((↑(BRV y18).length:Int)-1)) λ(y19:iII)=>aD (!decide (y19=y3.2.1)) (R BPN) (iI TypeDesc.string (Value.string y13) (List.map (cG Sy.str false Sy.bool) s12.2.1) false Sy.bool (BQG y13 s12 X11) λ(i20:Nat) (y21:Bool)=>aD y21 (R (pPP 7)) (lP (Option (Nat×D)) (findD TypeDesc.string (Value.string y13) (List.map (cG Sy.str false Sy.bool) s12.2.1) 0) λ(y22:Option (Nat×D))=>dK Sy.str false Sy.bool (e7 (List.map (cG Sy.str false Sy.bool) s12.2.1) y22 (Value.string y13) (D.p BPL)) λ(y23:List (iII×Bool))=>X11 (i64.wrap (s12.1+1),y23, ())))))) (aX aP (BP5 a0) y15 λ(y26:bD)=>aM [(false,Sy.str.li),(false,Sy.bool)] (lJ [T.ref (BQ6 a0 m1 m2 m3 m4), pPQ y26.2.2.2.1]) λ(y27:List iII×Bool)=>aD (decide ((↑(BRV y27).length:Int)=0)) (R BPN) (aX Sy.str (BRV y27) (i64.wrap ((↑(BRV y27).length:Int)-1)) λ(y28:iII)=>aD (!decide (y28=y3.2.1)) (R BPN) (iI TypeDesc.string (Value.string y13) (List.map (cG Sy.str false Sy.bool) s12.2.1) false Sy.bool (BQG y13 s12 X11) λ(i29:Nat) (y30:Bool)=>aD y30 (R (pPP 7)) (BQG y13 s12 X11))))) (iT aC (List.map aC.enc s2.1) λ(y35:List aU)=>a8 (List aU×Int×PUnit) (λX36 s37=>aD (decide (s37.2.1 < (↑(BQV y3).length:Int))) (aX Sy.str (BQV y3) s37.2.1 λ(y38:iII)=>aD (decide (y38=y3.1)) (R BPN) (iI TypeDesc.string (Value.string y38) (rK (bP m4)) false BPM (R BPX) λ(i39:Nat) (y40:Int)=>b7 (decide (((List.map aC.enc s37.1).length+1)*16 <= 140737488355328) && decide ((List.map aC.enc s37.1).length+1 <= 140737488355328)) (iT aC (List.map aC.enc s37.1 ++ [[pPP y40, pPP s2.2.2.1]]) λ(y41:List aU)=>X36 (y41,i64.wrap (s37.2.1+1),())))) (iT aC (List.map aC.enc s37.1) λ(y42:List aU)=>dK Sy.str false Sy.bool (List.map (cG Sy.str false Sy.bool) s12.2.1) λ(y43:List (iII×Bool))=>X1 (y42,y43,i64.wrap (s2.2.2.1+1),()))) (y35,0,()))) (0,y10,())))))))) (aM [(false,BPM.li),(false,Sy.int IntKind.i64)] (EL [pPP (↑(BP3 a0).length:Int), T.sl false (List.map aC.enc s2.1)]) λ(y44:List Int×Int)=>aD (!decide (y44.2=0)) (R (pPP 20)) (R BPJ))) ([],y0,0,())
def ZB ( a0 m1 m2 m3 m4 R):dM bX Tryz.prog LM ZJ 8 91 (oJ a0 m1 m2 m3 m4) R=LV a0 m1 m2 m3 m4 R:=by kernel_rfl
def T0 (x y:aA×MP×MP×MP×MP) (h:oJ x.1 x.2.1 x.2.2.1 x.2.2.2.1 x.2.2.2.2=oJ y.1 y.2.1 y.2.2.1 y.2.2.2.1 y.2.2.2.2):x=y:=rJ (List.cons.inj h).1
abbrev jJ (k:bA):List iII:=k.2.2.1
abbrev gC (k:bA):List iII:=k.2.2.2.2
abbrev V5 (k:bA):Int:=k.2.2.2.1
def uJ (d:aA) (k:bA):Int:=if oS k.1=false then 6 else if oR d k.2.1=false then 8 else if V5 k<1\/10000<V5 k then 9 else if pY (jJ k)=false\/pY (gC k)=false then 11 else 0
def instE (d:aA) (b:iII):List iII->List iII->Int×List iII
 | [],S=>(0,S)
 | id::l,S=>match partOf d id with
  | none=>(8,S)
  | some p=>if ¬ gO p=4/\¬ gO p=3 then (10,S) else if (up d (fV p)).1.getLast? = some b then (if V8 S id=true then (7,S) else instE d b l (id::S)) else (2,S)
def B1 (d:aA) (k:iII) (i:Int):List iII->List aU->Int×List aU
 | [],E=>(0,E)
 | id::l,E=>if id=k then (2,E) else match fH (jC (ids d.2.2.2.2.1)) id with
  | none=>(8,E)
  | some j=>B1 d k i l (E++[(j,i)])
def gF (d:aA):List bA->Int->List aU->List iII->Int×List aU
 | [],_,E,_=>(0,E)
 | k::l,i,E,S=>if ¬ uJ d k=0 then (uJ d k,E) else if ¬ (instE d k.2.1 (jJ k) S).1=0 then ((instE d k.2.1 (jJ k) S).1,E) else if ¬ (B1 d k.1 i (gC k) E).1=0 then ((B1 d k.1 i (gC k) E).1,E) else
  gF d l (i+1) (B1 d k.1 i (gC k) E).2 (instE d k.2.1 (jJ k) S).2
def gZ (d:aA):Int:=if (gF d d.2.2.2.2.1 0 [] []).1=0 then (if (l9 d.2.2.2.2.1.length (gF d d.2.2.2.2.1 0 [] []).2).2=0 then 0 else 20) else (gF d d.2.2.2.2.1 0 [] []).1
def zU (d:aA):Bool:=d.2.2.2.2.1.all (λk=>decide ((jJ k).length<=140737488355328)&&decide ((gC k).length<=140737488355328))&&decide (d.2.2.2.2.1.length<=64)
def nF (a b:iII):cY a b=true↔a.data.toList<b.data.toList:=by
 unfold cY;rw[bytesLess_eq,decide_eq_true_iff]
def ALL {a b:iII} (h:(!(cY b a||decide (b=a)))=true):a.data.toList<b.data.toList:=by
 simp only[Bool.not_eq_true',Bool.or_eq_false_iff,decide_eq_false_iff_not] at h;refine Classical.byContradiction λhc=>h.2 ?_;have h1:¬ b.data.toList<a.data.toList:=λh'=>by rw[(nF b a).2 h'] at h;exact absurd h.1 (by decide)
 have e:b.data.toList=a.data.toList:=List.le_antisymm (List.not_lt.1 hc) (List.not_lt.1 h1);exact ByteArray.ext (Array.ext' e)
def M1:∀ {l:List iII},pY l=true->l.Pairwise λa b=>a.data.toList<b.data.toList
 | [],_=>List.Pairwise.nil
 | [a],_=>by simp
 | a::b::l,h=>by
  rw[pY,ac] at h;have h1:=ALL h.1;have ih:=M1 h.2;refine List.pairwise_cons.2 ⟨λx hx=>?_,ih⟩;rcases List.mem_cons.1 hx with rfl|hx
  ·exact h1
  ·exact List.lt_trans h1 ((List.pairwise_cons.1 ih).1 x hx)
def RI {l:List iII} (h:pY l=true):l.Nodup:=by
 refine (M1 h).imp λ{a b} hab e=>?_;subst e;exact List.lt_irrefl _ hab
def AMD:∀ {l m:List iII},l.Nodup->(∀ x∈l,x∈m)->l.length<=m.length
 | [],_,_,_=>Nat.zero_le _
 | a::l,m,h,hm=>by
  obtain ⟨h1,h2⟩:=List.pairwise_cons.1 h;have h3:l.length<=(m.filter λx=>decide (x≠a)).length:=AMD h2 λx hx=>List.mem_filter.2 ⟨hm x (List.mem_cons_of_mem _ hx),ai λe=>h1 x hx e.symm⟩;have h4:(m.filter λx=>decide (x≠a)).length<m.length:=List.length_filter_lt_length_iff_exists.2 ⟨a,hm a am,by simp⟩;rw[List.length_cons];omega
def uR (x:aA×MP×MP×MP×MP):Option T:=match zU x.1 with
 | true=>wH x (T.v (Value.int .i64 (gZ x.1)))
 | false=>none
def tX:List T->Option (T):=gA (λ(x:aA×List aG×List aG×List aG×List aG)=>oJ x.1 x.2.1 x.2.2.1 x.2.2.2.1 x.2.2.2.2) uR
def AA3 (a0:aA) (m1:List aG) (m2:List aG) (m3:List aG) (m4:List aG):tX (oJ a0 m1 m2 m3 m4)=uR (a0,m1,m2,m3,m4):=dY (A:=(λ(x:aA×List aG×List aG×List aG×List aG)=>oJ x.1 x.2.1 x.2.2.1 x.2.2.2.1 x.2.2.2.2)) T0 (a0,m1,m2,m3,m4)
def ASQ (h:∀ (a0:aA) (m1:List aG) (m2:List aG) (m3:List aG) (m4:List aG) (r:T),uR (a0,m1,m2,m3,m4)=some r->(∀ t∈oJ a0 m1 m2 m3 m4,Bd t)->LV a0 m1 m2 m3 m4 (λy=>y=r)):aO Tryz.prog 91 tX :=
 cE (E:=LM) (Hs:=ZJ) AE6 aV aY (aN rfl) 8 ⟨_,_,Tryz.func91,rfl⟩ λx r h1 h2=>by
  rw[ZB];exact h x.1 x.2.1 x.2.2.1 x.2.2.2.1 x.2.2.2.2 r h1 h2
variable {A:Prop}
def BM7 {id:iII} {l:List (iII×α)} {B:Nat->Int->Prop} (hA:fH (jC (ids l)) id=none->l.find? (λs=>decide (s.1=id))=none->A) (hB:∀ i k (h:k<l.length),fH (jC (ids l)) id=some (k:Int)->l.find? (λs=>decide (s.1=id))=some l[k]->B i (k:Int)) :
  iI TypeDesc.string (Value.string id) (rK (bP (jC (ids l)))) false (Sy.int IntKind.i64) A B:=by
 rw[AC4];refine zD (r:=.int .i64) (λh=>?_) λi v h=>?_
 ·rcases x6 id l with ⟨h1,h2⟩|⟨k,hk,h1,_⟩
  ·exact hA h1 h2
  ·rw[h] at h1;cases h1
 ·rcases x6 id l with ⟨h1,_⟩|⟨k,hk,h1,h2⟩
  ·rw[h] at h1;cases h1
  ·rw[h] at h1;cases h1;exact hB i k hk h h2
def BM8 {l:List iII} {b:iII} (hl:l.length<=140737488355328) (hyes:l.getLast? = some b->A) (hno:¬ l.getLast? = some b->A) {R2:Prop} (hR2:¬ l.getLast? = some b->R2) {K:Prop} (hK:l.getLast? = some b->K) :
  aD (decide (((List.map Sy.str.enc l).length:Int)=0)) R2 (aX Sy.str (List.map Sy.str.enc l) (i64.wrap (((List.map Sy.str.enc l).length:Int)-1)) λ(y:iII)=>aD (!decide (y=b)) R2 K):=by
 rw[ae];refine cO (λh=>hR2 ?_) λh=>?_
 ·have:l=[]:=List.length_eq_zero_iff.1 (by omega);rw[this];simp
 ·have h1:l.length-1<l.length:=by omega
  rw[bB _ (by omega) (by omega),show ((l.length:Int)-1)=((l.length-1:Nat):Int) by omega,bG (r:=.str) h1];have e:l.getLast? = some l[l.length-1]:=by rw[List.getLast?_eq_getElem?,List.getElem?_eq_getElem h1]
  refine lK (λh=>hR2 ?_) λh=>hK ?_
  ·rw[e];intro h';exact h (Option.some.inj h')
  ·rw[e];exact congrArg some h
def BNX {es:List (iII×Bool)} {S:List iII} {id:iII} {R7:Prop} {K:List (iII×Bool)->Prop} (hS:Seen es (λx=>x∈S)) (h7:id∈S->R7) (hK:∀ es',id∉S->Seen es' (λx=>x∈id::S)->K es') :
  iI TypeDesc.string (Value.string id) (List.map (cG Sy.str false Sy.bool) es) false Sy.bool
   (lP (Option (Nat×D)) (findD TypeDesc.string (Value.string id) (List.map (cG Sy.str false Sy.bool) es) 0) λ(y24:Option (Nat×D)) =>
    dK Sy.str false Sy.bool (e7 (List.map (cG Sy.str false Sy.bool) es) y24 (Value.string id) (D.p (T.v (.bool true)))) λ(y25:List (iII×Bool))=>K y25)
   λ(i20:Nat) (y21:Bool)=>aD y21 R7
    (lP (Option (Nat×D)) (findD TypeDesc.string (Value.string id) (List.map (cG Sy.str false Sy.bool) es) 0) λ(y22:Option (Nat×D)) =>
     dK Sy.str false Sy.bool (e7 (List.map (cG Sy.str false Sy.bool) es) y22 (Value.string id) (D.p (T.v (.bool true)))) λ(y23:List (iII×Bool))=>K y23):=by
 refine zD (r:=.bool) (λhno=>?_) λj b hb=>?_
 ·refine AL9 (r:=.bool) rfl (es:=es) (k:=id) (v:=true) (hK _ (λh=>?_) ((hS.ins id).congr λx=>?_))
  ·have:=(hS.2 id).2 h;rw[hno] at this;cases this
  ·rw[List.mem_cons];exact ⟨λh=>h.symm.imp_left Eq.symm,λh=>h.symm.imp_right Eq.symm⟩
 ·have:=hS.1 _ _ hb;subst this;rw[kH];exact h7 ((hS.2 _).1 hb)
def AQV:aO Tryz.prog 91 tX:=ASQ λd m1 m2 m3 m4 r h hb=>by
 unfold uR at h;split at h
 case h_2=>cases h
 rename_i hok;replace hok:zU d=true:=hok;obtain ⟨hx,hs,rfl⟩:=oV h;simp only[Prod.mk.injEq,true_and] at hx;obtain ⟨rfl,rfl,rfl,rfl⟩:=hx;replace hs:nT d:=hs;clear h hb;simp only[zU,ac,ah,List.all_eq_true] at hok;obtain ⟨hkp,hka⟩:=hok;have hkq:=λk hk=>(hkp k hk).2;replace hkp:=λk hk=>(hkp k hk).1;have hlk:=hs.k;have is:∀ {n:Int},gZ d=n->T.v (.int .i64 n)=T.v (.int .i64 (gZ d)):=λh=>by rw[h]
 unfold LV BRV BRD BQ6 BQG BQV BQD BQB BQ8 BP8 BP5 BP3 BP2 BPX BPT BPS BPN BPM BPL BPJ BPI BPH;refine kD (r:=.bool) rfl [] _ ?_;refine bN d.2.2.2.2.1.length (λk s=>∃ S,s.2.2.1=(k:Int)/\Seen s.2.1 (λx=>x∈S)/\s.1.length<=64*k/\gF d (d.2.2.2.2.1.drop k) k s.1 S=gF d d.2.2.2.2.1 0 [] []) ⟨[],rfl,Seen.nil.congr (by simp),by simp,rfl⟩ ?_;rintro X k ⟨E,es,i,u⟩ hk ⟨S,rfl,hseen,hlen,hr⟩ hX;dsimp only at hseen hlen hr ⊢;refine cO (λhlt=>?_) λhge=>?_
 ·rw[ae] at hlt;have hlt:k<d.2.2.2.2.1.length:=by omega
  rw[bG (r:=aH) hlt];rw[List.drop_eq_getElem_cons hlt] at hr;have hmem:=ak hlt;have hp1:=hkp _ hmem;have hp2:=hkq _ hmem;generalize hy:d.2.2.2.2.1[k]=y at hr hp1 hp2 ⊢;rw[gF] at hr;have bad:∀ {n:Int},n≠0->(gF d d.2.2.2.2.1 0 [] []).1=n->T.v (.int .i64 n)=T.v (.int .i64 (gZ d)):=λhn h=>by
   refine is ?_;unfold gZ;rw[if_neg (by rw[h];exact hn),h]
  have badH:∀ {n:Int},n≠0->uJ d y=n->T.v (.int .i64 n)=T.v (.int .i64 (gZ d)):=λhn h=>by
   refine bad hn ?_;rw[if_pos (by rw[h];exact hn)] at hr;rw[<-hr];exact h
  rw[nY];refine lD (λh=>badH (by decide) (by unfold uJ;rw[if_pos h])) λi1=>?_;refine aK (s:=[(false,.bool)]) (OG hs _) ?_;refine lD (λh=>badH (by decide) (by unfold uJ;rw[if_neg (by rw[i1];decide),if_pos h])) λi2=>?_;have n1:¬ oS y.1=false:=by rw[i1];decide
  have n2:¬ oR d y.2.1=false:=by rw[i2];decide
  refine cO (λh=>badH (by decide) (by unfold uJ;rw[if_neg n1,if_neg n2,if_pos (.inl h)])) λh3=>?_;refine cO (λh=>badH (by decide) (by unfold uJ;rw[if_neg n1,if_neg n2,if_pos (.inr h)])) λh4=>?_;have n3:¬ (V5 y<1\/10000<V5 y):=by rintro (h|h);exact h3 h;exact h4 h
  refine aK (s:=[(false,.any)]) (SO (a0:=jJ y)) ?_;refine KK (b:=pY (jJ y)) (by rw[ae];exact A21 hp1) _ ?_;refine lD (λh=>badH (by decide) (by unfold uJ;rw[if_neg n1,if_neg n2,if_neg n3,if_pos (.inl h)])) λh5=>?_;refine aK (s:=[(false,.any)]) (SO (a0:=gC y)) ?_;refine KK (b:=pY (gC y)) (by rw[ae];exact A21 (l:=gC y) hp2) _ ?_;refine lD (λh=>badH (by decide) (by unfold uJ;rw[if_neg n1,if_neg n2,if_neg n3,if_pos (.inr h)])) λh6=>?_;have hh:uJ d y=0:=by unfold uJ;rw[if_neg n1,if_neg n2,if_neg n3,if_neg];rintro (h|h);(rw[h5] at h;cases h);(rw[h6] at h;cases h)
  have hnd:=RI h6;clear badH n1 n2 n3 h3 h4 h5 h6 i1 i2;rw[if_neg (λh=>h hh)] at hr;refine kD (r:=.bool) rfl es _ ?_;refine bN (jJ y).length (λj s=>∃ S',s.1=(j:Int)/\Seen s.2.1 (λx=>x∈S')/\instE d y.2.1 ((jJ y).drop j) S'=instE d y.2.1 (jJ y) S) ⟨S,rfl,hseen,rfl⟩ ?_;rintro Y j ⟨i,es',u⟩ hj ⟨S',rfl,hseen',hi⟩ hY;dsimp only at hseen' hi ⊢;refine cO (λhjl=>?_) λhjl=>?_
  ·rw[ae] at hjl;replace hjl:(j:Int)<((jJ y).length:Int):=hjl;have hjl:j<(jJ y).length:=by omega
   rw[bG (r:=.str) hjl];rw[List.drop_eq_getElem_cons hjl,instE] at hi;have badI:∀ {n:Int},n≠0->(instE d y.2.1 (jJ y) S).1=n->T.v (.int .i64 n)=T.v (.int .i64 (gZ d)):=λhn h=>by
    refine bad hn ?_;rw[if_pos (by rw[h];exact hn)] at hr;rw[<-hr];exact h
   have hw:i64.wrap ((j:Int)+1)=((j+1:Nat):Int):=bB _ (by omega) (by omega);generalize (jJ y)[j]=id at hi ⊢;refine BM7 (λ_ hn=>badI (by decide) ?_) λi q hq _ hn=>?_
   ·have hn:partOf d id=none:=hn;rw[hn] at hi;rw[<-hi]
   ·have hn:partOf d id=some d.2.2.1[q]:=hn;rw[hn] at hi;rw[bG (r:=aP) hq];obtain ⟨p,hp⟩:∃ p,p=d.2.2.1[q]:=⟨_,rfl⟩
    rw[<-hp] at hi hn ⊢;dsimp only at hi;have fin:¬ (¬ gO p=4/\¬ gO p=3)->aM [(false,Sy.str.li),(false,Sy.bool)]
      (lJ (mO d (jC (ids d.2.1)) (jC (ids d.2.2.1)) (jC (ids d.2.2.2.1)) (jC (ids d.2.2.2.2.1)) (fV p))) λ(y18:List iII×Bool) =>
      aD (decide (((List.map Sy.str.enc y18.1).length:Int)=0)) (T.v (.int .i64 2)=T.v (.int .i64 (gZ d)))
       (aX Sy.str (List.map Sy.str.enc y18.1) (i64.wrap (((List.map Sy.str.enc y18.1).length:Int)-1)) λ(y19:iII) =>
        aD (!decide (y19=y.2.1)) (T.v (.int .i64 2)=T.v (.int .i64 (gZ d)))
        (iI TypeDesc.string (Value.string id) (List.map (cG Sy.str false Sy.bool) es') false Sy.bool
         (lP (Option (Nat×D)) (findD TypeDesc.string (Value.string id) (List.map (cG Sy.str false Sy.bool) es') 0) λ(y24:Option (Nat×D)) =>
          dK Sy.str false Sy.bool (e7 (List.map (cG Sy.str false Sy.bool) es') y24 (Value.string id) (D.p (T.v (.bool true)))) λ(y25:List (iII×Bool))=>Y (i64.wrap ((j:Int)+1),y25,()))
         λ(i20:Nat) (y21:Bool)=>aD y21 (T.v (.int .i64 7)=T.v (.int .i64 (gZ d)))
          (lP (Option (Nat×D)) (findD TypeDesc.string (Value.string id) (List.map (cG Sy.str false Sy.bool) es') 0) λ(y22:Option (Nat×D)) =>
           dK Sy.str false Sy.bool (e7 (List.map (cG Sy.str false Sy.bool) es') y22 (Value.string id) (D.p (T.v (.bool true)))) λ(y23:List (iII×Bool))=>Y (i64.wrap ((j:Int)+1),y23,())))):=by
     intro hk;rw[if_neg hk] at hi;refine aK (s:=[(false,.li .str),(false,.bool)]) (JF hs _) ?_;have hul:=BKN d (fV p);refine BM8 (A:=True) (b:=y.2.1) (by omega) (λ_=>trivial) (λ_=>trivial) (λh=>badI (by decide) ?_) λh=>?_
     ·rw[if_neg h] at hi;rw[<-hi]
     ·rw[if_pos h] at hi;refine BNX (K:=λes=>Y (i64.wrap ((j:Int)+1),es,())) hseen' (λh7=>badI (by decide) ?_) λes2 h7 hs2=>?_
      ·rw[if_pos (E9.2 h7)] at hi;rw[<-hi]
      ·rw[if_neg (λh=>h7 (E9.1 h))] at hi;rw[hw];exact hY _ hjl ⟨id::S',rfl,hs2,hi⟩
    refine lK (λk4=>?_) λk4=>?_
    ·refine lK (λk3=>badI (by decide) ?_) λk3=>?_
     ·rw[if_pos ⟨k4,k3⟩] at hi;rw[<-hi]
     ·rw[bG (r:=aP) hq,<-hp];exact fin λh=>h.2 k3
    ·rw[bG (r:=aP) hq,<-hp];exact fin λh=>h.1 k4
  ·rw[ae] at hjl;replace hjl:¬ (j:Int)<((jJ y).length:Int):=hjl;have hjl:j=(jJ y).length:=by omega
   subst hjl;rw[List.drop_length,instE] at hi;rw[<-hi,if_neg (by simp)] at hr;dsimp only at hr;clear hY hi hj;rw[eX rfl];refine bN (gC y).length (λj s=>s.2.1=(j:Int)/\s.1.length=E.length+j/\(∀ x∈(gC y).take j,x∈ids d.2.2.2.2.1)/\B1 d y.1 k ((gC y).drop j) s.1=B1 d y.1 k (gC y) E) ⟨rfl,by simp,by simp,rfl⟩ ?_;rintro Y j ⟨E',i,u⟩ hj ⟨rfl,hEl,hin,hi⟩ hY;dsimp only at hEl hin hi ⊢;have hjk:j<=64:=by
    have h1:=AMD (hnd.sublist (List.take_sublist j _)) hin;have h2:(ids d.2.2.2.2.1).length=d.2.2.2.2.1.length:=by simp[ids]
    rw[List.length_take] at h1;omega
   refine cO (λhjl=>?_) λhjl=>?_
   ·rw[ae] at hjl;replace hjl:(j:Int)<((gC y).length:Int):=hjl;have hjl:j<(gC y).length:=by omega
    rw[bG (r:=.str) hjl];rw[List.drop_eq_getElem_cons hjl,B1] at hi;have badA:∀ {n:Int},n≠0->(B1 d y.1 k (gC y) E).1=n->T.v (.int .i64 n)=T.v (.int .i64 (gZ d)):=λhn h=>by
     refine bad hn ?_;rw[if_pos (by rw[h];exact hn)] at hr;rw[<-hr];exact h
    have hw:i64.wrap ((j:Int)+1)=((j+1:Nat):Int):=bB _ (by omega) (by omega);have hts:(gC y).take (j+1)=(gC y).take j++[(gC y)[j]]:=List.take_succ_eq_append_getElem hjl;generalize (gC y)[j]=id at hi hts ⊢;refine cO (λh=>badA (by decide) ?_) λh=>?_
    ·rw[if_pos h] at hi;rw[<-hi]
    rw[if_neg h] at hi;refine BM7 (λhg _=>badA (by decide) ?_) λi q hq hg hfi=>?_
    ·rw[hg] at hi;rw[<-hi]
    ·rw[hg] at hi;dsimp only at hi;refine ⟨by simp;omega,?_⟩;rw[GW (r:=aC) rfl E' [T.v (.int .i64 (q:Int)),T.v (.int .i64 (k:Int))] ((q:Int),(k:Int)) rfl,hw];refine hY _ hjl ⟨rfl,by simp only[List.length_append,List.length_cons,List.length_nil];omega,λx hx=>?_,hi⟩;rw[hts] at hx;rcases List.mem_append.1 hx with hx|hx
     ·exact hin x hx
     ·have hx:x=id:=by simpa using hx
      subst hx;have h9:=List.find?_some hfi;exact List.mem_map.2 ⟨_,ak hq,of_decide_eq_true h9⟩
   ·rw[ae] at hjl;replace hjl:¬ (j:Int)<((gC y).length:Int):=hjl;have hjl:j=(gC y).length:=by omega
    subst hjl;rw[List.drop_length,B1] at hi;rw[<-hi,if_neg (by simp)] at hr;dsimp only at hr;rw[eX rfl];refine kD (r:=.bool) rfl es' _ ?_;refine hX _ hlt ⟨S',?_,hseen',?_,?_⟩
    ·show i64.wrap ((k:Int)+1)=_;rw[bB]<;>omega
    ·show E'.length<=_;omega
    ·rw[<-hr];rfl
 ·rw[ae] at hge;have hkl:k=d.2.2.2.2.1.length:=by omega
  subst hkl;rw[List.drop_length,gF] at hr;have w:gZ d=if (l9 d.2.2.2.2.1.length E).2=0 then 0 else 20:=by
   unfold gZ;rw[<-hr,if_pos rfl]
  refine aK (s:=[(false,.li (.int .i64)),(false,.int .i64)]) (y:=l9 d.2.2.2.2.1.length E) (by rw[ae];exact (AH9 ..).trans (kK (l:=E) _ (by omega))) ?_;exact lK (λh=>is (by rw[w,if_neg h])) λh=>is (by rw[w,if_pos h])
def KH {a:Option MP} {es:MP} {K:MP->Prop} (h:a=some es) (hk:K es):lP (List (iII×Int)) a K:=⟨es,h,hk⟩
def SI:List T->Option (List (iII×Int)):=ART
def BG1:kZ Tryz.prog 118 (sR SI):=BMY
def BEP:Env:=Env.of [(84,.pure xP),(85,.pure iU),(118,.AQQ SI),(87,.pure OF),(88,.pure xK),(89,.pure tY),(90,.pure xL),(91,.pure tX),(92,.pure xJ)]
def BE5:FuncId->Hint:=λ_=>a6
def AVQ:aR Tryz.prog BEP:=.cons AQY (.cons zI (.cons BG1 (.cons BAQ (.cons AQS (.cons AQW (.cons AQT (.cons AQV (.cons AQR (.nil _)))))))))
def BQJ(a0:aA):List T:=[T.ref [T.ref [T.sl false (BP2 a0), T.sl false (BP3 a0), T.sl false (BP8 a0), T.sl false (BP5 a0), T.sl false (BQB a0), pPQ a0.1].reverse].reverse]
def AFY(a0:aA)(a1:aE)(R:T->Prop):Prop:=aM BPG (xP [aF true aI a1]) λ(y0:Int)=>aD (!decide (y0=0)) (R (BQX y0)) (aM BPI (iU [pPQ a0.1]) λ(y1:Bool)=>aD (!y1) (R BPS) (lP (List aG) (SI [T.fn 119 [].reverse (BQJ a0).reverse, pPP (↑(BQB a0).length:Int)].reverse) λ(y2:List aG)=>lP (List aG) (SI [T.fn 120 [].reverse (BQJ a0).reverse, pPP (↑(BP5 a0).length:Int)].reverse) λ(y3:List aG)=>lP (List aG) (SI [T.fn 121 [].reverse (BQJ a0).reverse, pPP (↑(BP8 a0).length:Int)].reverse) λ(y4:List aG)=>lP (List aG) (SI [T.fn 122 [].reverse (BQJ a0).reverse, pPP (↑(BP3 a0).length:Int)].reverse) λ(y5:List aG)=>aM BPG (OF [T.ref [T.ref (BRD a0), T.mp (bP y2),T.mp (bP y3),T.mp (bP y4), T.mp (bP y5)]]) λ(y6:Int)=>aD (!decide (y6=0)) (R (BQX y6)) (aM BPG (xK [T.ref [T.ref (BQD a0), T.mp (bP y2),T.mp (bP y3),T.mp (bP y4), T.mp (bP y5)]]) λ(y7:Int)=>aD (!decide (y7=0)) (R (BQX y7)) (aM BPG (tY [T.ref [T.ref (BQD a0), T.mp (bP y2),T.mp (bP y3),T.mp (bP y4), T.mp (bP y5)], aF true aI a1]) λ(y8:Int)=>aD (!decide (y8=0)) (R (BQX y8)) (aM BPG (xL [T.ref (BQ6 a0 y2 y3 y4 y5)]) λ(y9:Int)=>aD (!decide (y9=0)) (R (BQX y9)) (aM BPG (tX [T.ref (BQ6 a0 y2 y3 y4 y5)]) λ(y10:Int)=>aD (!decide (y10=0)) (R (BQX y10)) (aM BPG (xJ [T.ref (BQ6 a0 y2 y3 y4 y5)]) λ(y11:Int)=>R (BQX y11))))))))
abbrev AJQ:Sh:=[(true,aB),(true,aI)]
def fX (d:aA) (m:aE):Int:=if ¬ AZ m=0 then AZ m else if isName d.1=false then 6 else if ¬ mF d=0 then mF d else if ¬ iV d=0 then iV d else if ¬ j2 d m=0 then j2 d m else if ¬ b6 (nS d) d.2.2.2.1=0 then b6 (nS d) d.2.2.2.1 else if ¬ gZ d=0 then gZ d else b6 (rD d) d.2.2.2.2.2
def KO (x:aA×aE):Option T:=some (T.v (Value.int .i64 (fX x.1 x.2)))
def cV:List T->Option T:=gS AJQ KO
def nV {a0 a1}:cV [aF true aB a0,aF true aI a1]=KO (a0,a1):=bH (s:=AJQ) rfl (a0,a1) rfl
def BB0:tG Tryz.prog 65 cV KO (cQ AJQ) AFY:=iR (a1:=(true,aB)) (a2:=(true,aI)) (Hs:=BE5) (k:=8) AVQ aV aY (aN rfl) ⟨_,_,Tryz.func65,rfl⟩ rfl λ_ _ _=>by kernel_rfl
def BBK (h:AZ m=0):okM m=true:=by
 unfold AZ at h;split at h
 ·cases h
 rename_i h1;split at h
 ·rename_i h2;exact absurd h h2
 rename_i h2;have h2:b6 (x7 m) (List.range m.1.length)=0:=Classical.byContradiction h2;simp only[okM,ac,ah,List.all_eq_true];refine ⟨⟨by omega,by omega⟩,λg hg=>?_⟩;obtain ⟨i,hi,rfl⟩:=List.mem_iff_getElem.1 hg;have h3:=mE h2 i (List.mem_range.2 hi);unfold x7 at h3;rw[vI hi] at h3;have h4:j1 m.1[i]=0:=by
  refine Classical.byContradiction λhc=>?_;rw[if_pos hc] at h3;exact hc h3
 unfold j1 at h4;split at h4
 ·cases h4
 split at h4
 ·cases h4
 split at h4
 ·cases h4
 split at h4
 ·cases h4
 ·omega
def A9W {d:aA} (hs:nT d) (hm:okM m=true):tY (oK d (jC (ids d.2.1)) (jC (ids d.2.2.1)) (jC (ids d.2.2.2.1)) (jC (ids d.2.2.2.2.1)) m)=some (T.v (Value.int .i64 (j2 d m))):=by
 rw[AA4];unfold uS;dsimp only;rw[hm];exact oW hs _
def A9V {d:aA} (hs:nT d) (hk:zU d=true):tX (oJ d (jC (ids d.2.1)) (jC (ids d.2.2.1)) (jC (ids d.2.2.2.1)) (jC (ids d.2.2.2.2.1)))=some (T.v (Value.int .i64 (gZ d))):=by
 rw[AA3];unfold uR;dsimp only;rw[hk];exact oW hs _
def j7:aO Tryz.prog 65 cV:=BB0 λd m r h hb=>by
 cases h;have hd:BdS aB d:=hb.1;have hs:nT d:=⟨hd.2.1.1,hd.2.2.1.1,hd.2.2.2.1.1,hd.2.2.2.2.1.1,hd.2.2.2.2.2.1⟩
 have hkl:∀ k∈d.2.2.2.2.1,(jJ k).length<=140737488355328/\(gC k).length<=140737488355328:=λk hk=>by
  have h:=hd.2.2.2.2.1.2 k hk;exact ⟨h.2.2.1.1,h.2.2.2.2.1⟩
 clear hd;have is:∀ {n:Int},fX d m=n->pPP n=pPP (fX d m):=λh=>by rw[h]
 unfold AFY BRD BQ6 BQJ BQD BQB BP8 BP5 BP3 BP2 BQX BPS BPI BPG;refine aK (s:=[(false,.int .i64)]) (y:=AZ m) (ABJ ..) ?_;refine lK (λh=>is (by unfold fX;rw[if_pos h])) λh0=>?_;have hm:=BBK h0;refine aK (s:=[(false,.bool)]) (y:=isName d.1) xN ?_;have n0:¬ ¬ AZ m=0:=λh=>h h0;refine lD (λh=>is (by unfold fX;rw[if_neg n0,if_pos h])) λhn=>?_;have n1:¬ isName d.1=false:=by rw[hn];decide
 refine KH (es:=jC (ids d.2.1)) (by rw[ae];exact BHN hs.n) ?_;refine KH (es:=jC (ids d.2.2.1)) (by rw[ae];exact BHO hs.p) ?_;refine KH (es:=jC (ids d.2.2.2.1)) (by rw[ae];exact BHP hs.s) ?_;refine KH (es:=jC (ids d.2.2.2.2.1)) (by rw[ae];exact BHQ hs.k) ?_;refine aK (s:=[(false,.int .i64)]) (y:=mF d) ((ARP ..).trans (oW hs _)) ?_;refine lK (λh=>is (by unfold fX;rw[if_neg n0,if_neg n1,if_pos h])) λh1=>?_;have n2:¬ ¬ mF d=0:=λh=>h h1;have hk:zU d=true:=by
  simp only[zU,ac,ah,List.all_eq_true];refine ⟨hkl,?_⟩;have hlong:lV d=false:=by
   rw[Bool.eq_false_iff];intro h;unfold mF at h1;rw[if_pos h] at h1;cases h1
  simp only[lV,Bool.or_eq_false_iff,decide_eq_false_iff_not] at hlong;omega
 refine aK (s:=[(false,.int .i64)]) (y:=iV d) ((AA0 ..).trans (oW hs _)) ?_;refine lK (λh=>is (by unfold fX;rw[if_neg n0,if_neg n1,if_neg n2,if_pos h])) λh2=>?_;have n3:¬ ¬ iV d=0:=λh=>h h2;refine aK (s:=[(false,.int .i64)]) (y:=j2 d m) (A9W hs hm) ?_;refine lK (λh=>is (by unfold fX;rw[if_neg n0,if_neg n1,if_neg n2,if_neg n3,if_pos h])) λh3=>?_;have n4:¬ ¬ j2 d m=0:=λh=>h h3;refine aK (s:=[(false,.int .i64)]) (y:=b6 (nS d) d.2.2.2.1) ((AA1 ..).trans (oW hs _)) ?_;refine lK (λh=>is (by unfold fX;rw[if_neg n0,if_neg n1,if_neg n2,if_neg n3,if_neg n4,if_pos h])) λh4=>?_;have n5:¬ ¬ b6 (nS d) d.2.2.2.1=0:=λh=>h h4;refine aK (s:=[(false,.int .i64)]) (y:=gZ d) (A9V hs hk) ?_;refine lK (λh=>is (by unfold fX;rw[if_neg n0,if_neg n1,if_neg n2,if_neg n3,if_neg n4,if_neg n5,if_pos h])) λh5=>?_;have n6:¬ ¬ gZ d=0:=λh=>h h5;refine aK (s:=[(false,.int .i64)]) (y:=b6 (rD d) d.2.2.2.2.2) ((AAZ ..).trans (oW hs _)) ?_;exact is (by unfold fX;rw[if_neg n0,if_neg n1,if_neg n2,if_neg n3,if_neg n4,if_neg n5,if_neg n6])
def eM (after:α->α->Bool) (l:List α) (x:α):List α:=l.take (l.findIdx λy=>after y x)++x::l.drop (l.findIdx λy=>after y x)
def eJ (is:α->Bool) (l:List α):List α:=l.take (l.findIdx is)++l.drop (l.findIdx is+1)
variable {after:α->α->Bool}{y:α}
def jT {l:List α} {x:α}:y∈eM after l x↔y=x\/y∈l:=by
 unfold eM;rw[List.mem_append,List.mem_cons];constructor
 ·rintro (h|h|h)
  ·exact .inr (List.mem_of_mem_take h)
  ·exact .inl h
  ·exact .inr (List.mem_of_mem_drop h)
 ·rintro (h|h)
  ·exact .inr (.inl h)
  ·rw[<-List.take_append_drop (l.findIdx λy=>after y x) l,List.mem_append] at h;rcases h with h|h
   ·exact .inl h
   ·exact .inr (.inr h)
variable {is:α->Bool}
def D2 {l:List α} (h:y∈eJ is l):y∈l:=by
 unfold eJ at h;rcases List.mem_append.1 h with h|h
 ·exact List.mem_of_mem_take h
 ·exact List.mem_of_mem_drop h
def A28 {l:List α} {x:α}:(eM after l x).length=l.length+1:=by
 unfold eM;have:l.findIdx (λy=>after y x)<=l.length:=List.findIdx_le_length;rw[List.length_append,List.length_cons,List.length_take,List.length_drop];omega
def AAF {l:List α}:(eJ is l).length<=l.length:=by
 unfold eJ;rw[List.length_append,List.length_take,List.length_drop];omega
def RV {β:Type} {f:α->β} {l:List α} (hn:(l.map f).Nodup) (his:∀ x y,is x=true->is y=true->f x=f y):∀ y∈eJ is l,is y=false:=by
 induction l with
 | nil=>intro y h;simp[eJ] at h
 | cons a l ih =>
  obtain ⟨h1,h2⟩:=List.pairwise_cons.1 (show (f a::l.map f).Nodup from hn);intro y hy;unfold eJ at hy;rw[List.findIdx_cons] at hy;cases ha:is a with
  | true =>
   rw[ha] at hy;simp only[cond_true,List.take_zero,List.nil_append,Nat.zero_add,List.drop_succ_cons,List.drop_zero] at hy;cases hb:is y with
   | false=>rfl
   | true=>exact absurd (his a y ha hb) (h1 _ (List.mem_map.2 ⟨y,hy,rfl⟩))
  | false =>
   rw[ha] at hy;simp only[cond_false,List.take_succ_cons,List.drop_succ_cons,List.cons_append,List.mem_cons] at hy;rcases hy with rfl|hy
   ·exact ha
   ·exact ih h2 y hy
abbrev bV:Type:=iII×iII×fQ×bD×iH×bA×cM
abbrev fR:Type:=aA×aE×bV
abbrev dW (x:aQ):iII:=x.2.1
abbrev eTo (x:aQ):iII:=x.2.2.1
abbrev j6 (x:aQ):fQ:=x.2.2.2.1
abbrev bW (x:aQ):bD:=x.2.2.2.2.1
abbrev mS (x:aQ):iH:=x.2.2.2.2.2.1
abbrev eF (x:aQ):bA:=x.2.2.2.2.2.2.1
abbrev dI (x:aQ):cM:=x.2.2.2.2.2.2.2
def bJ:iII:=⟨#[]⟩
def cK:cM:=(0,⟨#[]⟩,⟨#[]⟩)
def iP:aA:=(⟨#[]⟩,[],[],[],[],[])
def dE (x:aQ):aQ :=
 if x.1=1 then (x.1,bJ,bJ,j6 x,bL,bS,noPack,cK)
 else if x.1=3\/x.1=5 then (x.1,bJ,bJ,bR,bW x,bS,noPack,cK)
 else if x.1=6 then (x.1,dW x,eTo x,bR,bL,bS,noPack,cK)
 else if x.1=7 then (x.1,bJ,bJ,bR,bL,mS x,noPack,cK)
 else if x.1=9 then (x.1,bJ,bJ,bR,bL,bS,eF x,cK)
 else if x.1=11\/x.1=12 then (x.1,bJ,bJ,bR,bL,bS,noPack,dI x)
 else (x.1,dW x,bJ,bR,bL,bS,noPack,cK)
def cN (d:aA) (x:aQ):Bool :=
 if x.1=1 then (dR d (j6 x).1).isSome
 else if x.1=2 then (dR d (dW x)).isSome
 else if x.1=3\/x.1=5 then (partOf d (bW x).1).isSome
 else if x.1=4\/x.1=6 then (partOf d (dW x)).isSome
 else if x.1=7 then (oB d (mS x).1).isSome
 else if x.1=8 then (oB d (dW x)).isSome
 else if x.1=9 then (eK d (eF x).1).isSome
 else if x.1=10 then (eK d (dW x)).isSome
 else d.2.2.2.2.2.any λn=>decide (n=dI x)
def fW (x:aQ):Bool:=decide (x.1=1)||decide (x.1=3)||decide (x.1=7)||decide (x.1=9)||decide (x.1=11)
def gtS (a b:iII):Bool:=cY b a
def cJ (a b:iII×α):Bool:=gtS a.1 b.1
def o8 (a b:cM):Bool:=ltN b a
def qI (a:iII):cY a a=false:=by
 rw[Bool.eq_false_iff];intro h;exact List.lt_irrefl _ ((nF a a).1 h)
def XH {a b c:iII} (h1:cY a b=true) (h2:cY b c=true):cY a c=true:=(nF a c).2 (List.lt_trans ((nF a b).1 h1) ((nF b c).1 h2))
def AMF (a:cM):ltN a a=false:=by
 unfold ltN;rw[qI,qI,aj (Int.lt_irrefl _)];simp
def S0 {a b c:cM} (h1:ltN a b=true) (h2:ltN b c=true):ltN a c=true:=by
 unfold ltN at *;simp only[Bool.or_eq_true,ac,ah] at *;rcases h1 with h1|⟨e1,h1⟩
 ·rcases h2 with h2|⟨e2,h2⟩
  ·exact .inl (Int.lt_trans h1 h2)
  ·exact .inl (by omega)
 ·rcases h2 with h2|⟨e2,h2⟩
  ·exact .inl (by omega)
  ·refine .inr ⟨e1.trans e2,?_⟩;rcases h1 with h1|⟨f1,h1⟩
   ·rcases h2 with h2|⟨f2,h2⟩
    ·exact .inl (XH h1 h2)
    ·exact .inl (by rw[<-f2];exact h1)
   ·rcases h2 with h2|⟨f2,h2⟩
    ·exact .inl (by rw[f1];exact h2)
    ·exact .inr ⟨f1.trans f2,XH h1 h2⟩
def bZ (id:iII) (a:iII×α):Bool:=decide (a.1=id)
def VW (l:List iII) (x:iII):Bool:=l.any λy=>decide (y=x)
def iL (d:aA) (id:iII):Bool:=(d.2.2.1.any λp=>decide (fV p=id))||((d.2.1.any λn=>decide (n.2.2=id))||((d.2.2.2.2.1.any λk=>decide (k.2.1=id))||(d.2.2.2.2.2.any λn=>decide (n.2.1=id)||(decide (n.2.2=id) && !decide (n.1=3)))))
def nH (d:aA) (id:iII):Bool:=(d.2.2.2.1.any λs=>decide (s.2.1=id)||decide (s.2.2.1=id))||(d.2.2.2.2.1.any λk=>VW k.2.2.1 id)
def o4 (d:aA) (id:iII):Bool:=((eJ (bZ id) d.2.2.2.2.1).any λk=>VW k.2.2.2.2 id)||(d.2.2.2.2.2.any λn=>decide (n.1=3)&&decide (n.2.2=id))
def jY (d:aA) (x:aQ):Bool:=if x.1=2 then iL d (dW x) else if x.1=4 then nH d (dW x) else if x.1=10 then o4 d (dW x) else false
def Q8 (p old:bD):bD:=(p.1,i64.wrap (old.2.1+1),p.2.2)
def DC (p:bD) (id:iII):bD:=(p.1,p.2.1,p.2.2.1,id,p.2.2.2.2)
def yY (is:α->Bool) (f:α->α) (l:List α):List α:=l.modify (l.findIdx is) f
def eQ (d:aA) (x:aQ):aA :=
 if x.1=1 then (d.1,eM cJ d.2.1 (j6 x),d.2.2)
 else if x.1=2 then (d.1,eJ (bZ (dW x)) d.2.1,d.2.2)
 else if x.1=3 then (d.1,d.2.1,eM cJ d.2.2.1 (bW x),d.2.2.2)
 else if x.1=4 then (d.1,d.2.1,eJ (bZ (dW x)) d.2.2.1,d.2.2.2)
 else if x.1=5 then (d.1,d.2.1,yY (bZ (bW x).1) (Q8 (bW x)) d.2.2.1,d.2.2.2)
 else if x.1=6 then (d.1,d.2.1,yY (bZ (dW x)) (λp=>DC p (eTo x)) d.2.2.1,d.2.2.2)
 else if x.1=7 then (d.1,d.2.1,d.2.2.1,eM cJ d.2.2.2.1 (mS x),d.2.2.2.2)
 else if x.1=8 then (d.1,d.2.1,d.2.2.1,eJ (bZ (dW x)) d.2.2.2.1,d.2.2.2.2)
 else if x.1=9 then (d.1,d.2.1,d.2.2.1,d.2.2.2.1,eM cJ d.2.2.2.2.1 (eF x),d.2.2.2.2.2)
 else if x.1=10 then (d.1,d.2.1,d.2.2.1,d.2.2.2.1,eJ (bZ (dW x)) d.2.2.2.2.1,d.2.2.2.2.2)
 else if x.1=11 then (d.1,d.2.1,d.2.2.1,d.2.2.2.1,d.2.2.2.2.1,eM o8 d.2.2.2.2.2 (dI x))
 else (d.1,d.2.1,d.2.2.1,d.2.2.2.1,d.2.2.2.2.1,eJ (λn=>decide (n=dI x)) d.2.2.2.2.2)
def bO (d:aA) (m:aE) (x:aQ):aA×Int :=
 if ¬ (1<=x.1/\x.1<=12) then (iP,10)
 else if pE x (dE x)=false\/(x.1=5/\¬ (bW x).2.1=0) then (iP,2)
 else if fW x=true/\cN d x=true then (iP,7)
 else if fW x=false/\cN d x=false then (iP,8)
 else if x.1=5/\¬ fV (found bL (partOf d (bW x).1)).1=fV (bW x) then (iP,2)
 else if jY d x=true then (iP,34)
 else if fX (eQ d x) m=0 then (eQ d x,0) else (iP,fX (eQ d x) m)
structure sN (d:aA) (m:aE) (x:aQ):Prop where
 kind:1<=x.1/\x.1<=12
 plain:x=dE x
 rev:x.1=5->(bW x).2.1=0
 there:cN d x = !fW x
 node:x.1=5->fV (found bL (partOf d (bW x).1)).1=fV (bW x)
 free:jY d x=false
 chk:fX (eQ d x) m=0
 eq:bO d m x=(eQ d x,0)
def D3 {d:aA} {x:aQ} (h:(bO d m x).2=0):sN d m x:=by
 have h0:=h;unfold bO at h;split at h
 ·cases h
 rename_i h1;split at h
 ·cases h
 rename_i h2;split at h
 ·cases h
 rename_i h3;split at h
 ·cases h
 rename_i h4;split at h
 ·cases h
 rename_i h5;split at h
 ·cases h
 rename_i h6;split at h
 ·rename_i h7;have h1:1<=x.1/\x.1<=12:=Classical.byContradiction h1;refine ⟨h1,Classical.byContradiction λhc=>h2 (.inl (xC hc)),λhk=>Classical.byContradiction λhc=>h2 (.inr ⟨hk,hc⟩),?_,λhk=>Classical.byContradiction λhc=>h5 ⟨hk,hc⟩,by simpa using h6,h7,?_⟩
  ·cases ha:fW x<;>cases ht:cN d x
   ·exact absurd ⟨ha,ht⟩ h4
   ·rfl
   ·rfl
   ·exact absurd ⟨ha,ht⟩ h3
  ·unfold bO;rw[if_neg (λh=>h h1),if_neg h2,if_neg h3,if_neg h4,if_neg h5,if_neg h6,if_pos h7]
 ·rename_i h7;exact absurd h h7
def EA {l:List (iII×α)} {a:iII×α}:((eM cJ l a).find? λs=>decide (s.1=a.1)).isSome=true :=
 List.find?_isSome.2 ⟨a,jT.2 (.inl rfl),ai rfl⟩
def A0K {l:List (iII×α)} (hn:(ids l).Nodup) {id:iII}:((eJ (bZ id) l).find? λs=>decide (s.1=id)).isSome=false:=by
 cases hf:(eJ (bZ id) l).find? λs=>decide (s.1=id) with
 | none=>rfl
 | some a =>
  have h1:=List.mem_of_find?_eq_some hf;have h2:=RV (f:=λs:iII×α=>s.1) (is:=bZ id) hn (λx y hx hy=>(of_decide_eq_true hx).trans (of_decide_eq_true hy).symm) a h1;have h3:=List.find?_some hf;unfold bZ at h2;rw[h3] at h2;cases h2
def GP:∀ {l:List cM},M0 l=true->l.Pairwise λa b=>ltN a b=true
 | [],_=>List.Pairwise.nil
 | [a],_=>by simp
 | a::b::l,h=>by
  rw[M0,ac] at h;have ih:=GP h.2;refine List.pairwise_cons.2 ⟨λy hy=>?_,ih⟩;rcases List.mem_cons.1 hy with rfl|hy
  ·exact h.1
  ·exact S0 h.1 ((List.pairwise_cons.1 ih).1 y hy)
def AGX {l:List cM} (h:M0 l=true):l.Nodup:=by
 refine (GP h).imp λ{a b} hab e=>?_;subst e;rw[AMF] at hab;cases hab
def okS (s:iII):Bool:=decide (s.size<=1099511627776)
end Go.Pv
namespace Go.Pv
open Go Go.Proofs IntKind
structure BOE (d:aA):Prop where
 few:few d 1000=true
 n:d.2.1.length<=1000
 p:d.2.2.1.length<=1000
 s:d.2.2.2.1.length<=1000
 k:d.2.2.2.2.1.length<=1000
 r:d.2.2.2.2.2.length<=1000
 kl:∀ k∈d.2.2.2.2.1,(jJ k).length<=1000/\(gC k).length<=1000
 A0:A0 d=true
 zT:zT d=true
structure UOk (d:aA):Prop extends BOE d where
 nI:∀ n∈d.2.1,okS n.1=true
 pI:∀ p∈d.2.2.1,okS p.1=true/\okS (fV p)=true
 sI:∀ s∈d.2.2.2.1,okS s.1=true/\okS s.2.1=true/\okS s.2.2.1=true
 kI:∀ k∈d.2.2.2.2.1,okS k.1=true
def qJ (a b:iII):(!(cY b a||decide (b=a)))=cY a b:=by
 rw[Bool.eq_iff_iff];refine ⟨λh=>(nF a b).2 (ALL h),λh=>?_⟩;have h1:=(nF a b).1 h;have h2:cY b a=false:=by
  rw[Bool.eq_false_iff];intro h3;exact List.lt_irrefl _ (List.lt_trans h1 ((nF b a).1 h3))
 have h3:¬ b=a:=λe=>by rw[e] at h1;exact List.lt_irrefl _ h1
 rw[h2,aj h3];rfl
def dD {r:Sy} {l:List r.den} (p:r.den->Bool) {Body:(Int×PUnit->Prop)->Int×PUnit->r.den->Prop} {Fin:Prop} (hl:l.length<=140737488355328)
  (hB:∀ (X:Int×PUnit->Prop) (k:Nat) (y:r.den) (h:k<l.length),l[k]=y->(p y=true->l.findIdx p=k/\l.any p=true)->(p y=false->X (i64.wrap ((k:Int)+1),()))->Body X ((k:Int),()) y)
  (hF:l.findIdx p=l.length->l.any p=false->Fin) :
  a8 (Int×PUnit) (λX s=>aD (decide (s.1<((List.map r.enc l).length:Int))) (aX r (List.map r.enc l) s.1 λy=>Body X s y) Fin) (0,()):=by
 refine bN l.length (λk s=>s=((k:Int),())/\∀ i,(h:i<l.length)->i<k->p l[i]=false) ⟨rfl,λi _ h=>by omega⟩ ?_;rintro X k s hk ⟨rfl,he⟩ hX;dsimp only;refine cO (λhlt=>?_) λhge=>?_
 ·rw[ae] at hlt;have hlt:k<l.length:=by omega
  rw[bG (r:=r) hlt];refine hB X k _ hlt rfl (λhp=>⟨?_,List.any_eq_true.2 ⟨_,ak hlt,hp⟩⟩) λhp=>hX _ hlt ⟨?_,λi hi hik=>?_⟩
  ·exact (List.findIdx_eq hlt).2 ⟨hp,λj hj=>he j (by omega) hj⟩
  ·rw[show i64.wrap ((k:Int)+1)=((k+1:Nat):Int) by rw[bB]<;>omega]
  ·rcases Nat.lt_or_ge i k with h|h
   ·exact he i hi h
   ·have:i=k:=by omega
    subst this;exact hp
 ·rw[ae] at hge;have hall:∀ y∈l,p y=false:=λy hy=>by
   obtain ⟨i,hi,rfl⟩:=List.mem_iff_getElem.1 hy;exact he i hi (by omega)
  exact hF (List.findIdx_eq_length_of_false λy hy=>by simpa using hall y hy) (List.any_eq_false.2 λy hy=>by simp[hall y hy])
def pC {n:Nat} (h:n<=1000):n<=140737488355328:=by omega
variable {α:Type}{is:α->Bool}
def w5 {l:List α} (h:l.findIdx is=l.length):eJ is l=l:=by
 unfold eJ;rw[h,List.take_length,List.drop_eq_nil_of_le (by omega),List.append_nil]
def sX {r:Sy} {z b k:Nat} {f:Bool} {l:List r.den} {x:r.den} (hz:r.w=z) (hk:k<=l.length) (hl:l.length<=1000) (hb:b<=1000):VK z b (List.map r.enc l) [.v (.int .i64 (k:Int)),.sl f [r.enc x]]=some (List.map r.enc (l.take k++x::l.drop k)):=by
 unfold VK;have hm:(l.length+1)*b<=1001*1000:=Nat.mul_le_mul (by omega) hb;have hc:(decide (0<=(k:Int))&&decide ((k:Int).toNat<=(List.map r.enc l).length)&&decide ((r.enc x).length=z)&&iB z (List.map r.enc l)&&decide (((List.map r.enc l).length+1)*b<=140737488355328)&&decide ((List.map r.enc l).length+1<=140737488355328))=true:=by
  subst hz;simp only[ae,Int.toNat_natCast,Sy.cP,tL,ac,ah,and_true];omega
 dsimp only;rw[hc];simp
def GX {r:Sy} {z k:Nat} {l:List r.den} (hz:r.w=z) (hk:k<l.length) (hl:l.length<=1000):VJ z (List.map r.enc l) [.v (.int .i64 (k:Int)),.v (.int .i64 (i64.wrap ((k:Int)+1)))]=some (List.map r.enc (l.take k++l.drop (k+1))):=by
 unfold VJ;have hw:i64.wrap ((k:Int)+1)=(k:Int)+1:=by rw[bB]<;>omega
 have hc:(decide (0<=(k:Int))&&decide (i64.wrap ((k:Int)+1)=(k:Int)+1)&&decide ((k:Int).toNat<(List.map r.enc l).length)&&iB z (List.map r.enc l))=true:=by
  subst hz;rw[hw];simp only[ae,Int.toNat_natCast,tL,ac,ah,and_true];omega
 dsimp only;rw[hc];simp
def XS (x:aQ):Option T:=some (Sh.enc [(true,aJ)] ((x.1,bJ,bJ,j6 x,bL,bS,noPack,cK):aQ))
def BLF:Env:=Env.of []
def BL2:FuncId->Hint:=λ_=>a6
def A8N:aR Tryz.prog BLF:=.nil _
def AXU(a0:aQ)(R:T->Prop):Prop:=R ((aF true aJ (a0.1,bJ,bJ,a0.2.2.2.1,bL,bS,noPack,cK)))
abbrev A58:Sh:=[(true,aJ)]
def ABP:List T->Option T:=gS A58 XS
def A2M {a0}:ABP [aF true aJ a0]=XS (a0):=bH (s:=A58) rfl (a0) rfl
def BJG:yW Tryz.prog 147 ABP XS (cQ A58) AXU:=kW (a1:=(true,aJ)) (Hs:=BL2) (k:=8) A8N aV aY (aN rfl) ⟨_,_,Tryz.func147,rfl⟩ rfl λ_ _=>by kernel_rfl
def BG3:aO Tryz.prog 147 ABP:=BJG λx r h hb=>by
 cases h;unfold AXU;rfl
def XT (x:aQ):Option T:=some (Sh.enc [(true,aJ)] ((x.1,dW x,bJ,bR,bL,bS,noPack,cK):aQ))
def BLG:Env:=Env.of []
def BL3:FuncId->Hint:=λ_=>a6
def A8O:aR Tryz.prog BLG:=.nil _
def BQ9(a0:aQ):T:=aF true aJ (a0.1,a0.2.1,bJ,bR,bL,bS,noPack,cK)
def AXV(a0:aQ)(R:T->Prop):Prop:=R ((BQ9 a0))
abbrev A59:Sh:=[(true,aJ)]
def ABQ:List T->Option T:=gS A59 XT
def A2N {a0}:ABQ [aF true aJ a0]=XT (a0):=bH (s:=A59) rfl (a0) rfl
def BJH:yW Tryz.prog 155 ABQ XT (cQ A59) AXV:=kW (a1:=(true,aJ)) (Hs:=BL3) (k:=8) A8O aV aY (aN rfl) ⟨_,_,Tryz.func155,rfl⟩ rfl λ_ _=>by kernel_rfl
def BG4:aO Tryz.prog 155 ABQ:=BJH λx r h hb=>by
 cases h;unfold AXV BQ9;rfl
def XU (x:aQ):Option T:=some (Sh.enc [(true,aJ)] ((x.1,bJ,bJ,bR,bW x,bS,noPack,cK):aQ))
def BLH:Env:=Env.of []
def BL4:FuncId->Hint:=λ_=>a6
def A8P:aR Tryz.prog BLH:=.nil _
def AXW(a0:aQ)(R:T->Prop):Prop:=R ((aF true aJ (a0.1,bJ,bJ,bR,a0.2.2.2.2.1,bS,noPack,cK)))
abbrev A6A:Sh:=[(true,aJ)]
def ABR:List T->Option T:=gS A6A XU
def A2O {a0}:ABR [aF true aJ a0]=XU (a0):=bH (s:=A6A) rfl (a0) rfl
def BJI:yW Tryz.prog 167 ABR XU (cQ A6A) AXW:=kW (a1:=(true,aJ)) (Hs:=BL4) (k:=8) A8P aV aY (aN rfl) ⟨_,_,Tryz.func167,rfl⟩ rfl λ_ _=>by kernel_rfl
def BG5:aO Tryz.prog 167 ABR:=BJI λx r h hb=>by
 cases h;unfold AXW;rfl
def XV (x:aQ):Option T:=some (Sh.enc [(true,aJ)] ((x.1,dW x,bJ,bR,bL,bS,noPack,cK):aQ))
def BLI:Env:=Env.of []
def BL5:FuncId->Hint:=λ_=>a6
def A8Q:aR Tryz.prog BLI:=.nil _
def AXX(a0:aQ)(R:T->Prop):Prop:=R ((BQ9 a0))
abbrev A6B:Sh:=[(true,aJ)]
def ABS:List T->Option T:=gS A6B XV
def A2P {a0}:ABS [aF true aJ a0]=XV (a0):=bH (s:=A6B) rfl (a0) rfl
def BJJ:yW Tryz.prog 174 ABS XV (cQ A6B) AXX:=kW (a1:=(true,aJ)) (Hs:=BL5) (k:=8) A8Q aV aY (aN rfl) ⟨_,_,Tryz.func174,rfl⟩ rfl λ_ _=>by kernel_rfl
def BG6:aO Tryz.prog 174 ABS:=BJJ λx r h hb=>by
 cases h;unfold AXX BQ9;rfl
def XY (x:aQ):Option T:=some (Sh.enc [(true,aJ)] ((x.1,bJ,bJ,bR,bL,mS x,noPack,cK):aQ))
def BLL:Env:=Env.of []
def BL8:FuncId->Hint:=λ_=>a6
def A8T:aR Tryz.prog BLL:=.nil _
def AX0(a0:aQ)(R:T->Prop):Prop:=R ((aF true aJ (a0.1,bJ,bJ,bR,bL,a0.2.2.2.2.2.1,noPack,cK)))
abbrev A6E:Sh:=[(true,aJ)]
def ABT:List T->Option T:=gS A6E XY
def A2S {a0}:ABT [aF true aJ a0]=XY (a0):=bH (s:=A6E) rfl (a0) rfl
def BJM:yW Tryz.prog 195 ABT XY (cQ A6E) AX0:=kW (a1:=(true,aJ)) (Hs:=BL8) (k:=8) A8T aV aY (aN rfl) ⟨_,_,Tryz.func195,rfl⟩ rfl λ_ _=>by kernel_rfl
def BG9:aO Tryz.prog 195 ABT:=BJM λx r h hb=>by
 cases h;unfold AX0;rfl
def XZ (x:aQ):Option T:=some (Sh.enc [(true,aJ)] ((x.1,dW x,bJ,bR,bL,bS,noPack,cK):aQ))
def BLM:Env:=Env.of []
def BL9:FuncId->Hint:=λ_=>a6
def A8U:aR Tryz.prog BLM:=.nil _
def AX1(a0:aQ)(R:T->Prop):Prop:=R ((BQ9 a0))
abbrev A6F:Sh:=[(true,aJ)]
def ABU:List T->Option T:=gS A6F XZ
def A2T {a0}:ABU [aF true aJ a0]=XZ (a0):=bH (s:=A6F) rfl (a0) rfl
def BJN:yW Tryz.prog 203 ABU XZ (cQ A6F) AX1:=kW (a1:=(true,aJ)) (Hs:=BL9) (k:=8) A8U aV aY (aN rfl) ⟨_,_,Tryz.func203,rfl⟩ rfl λ_ _=>by kernel_rfl
def BHA:aO Tryz.prog 203 ABU:=BJN λx r h hb=>by
 cases h;unfold AX1 BQ9;rfl
def YA (x:aQ):Option T:=some (Sh.enc [(true,aJ)] ((x.1,bJ,bJ,bR,bL,bS,eF x,cK):aQ))
def BLN:Env:=Env.of []
def BMA:FuncId->Hint:=λ_=>a6
def A8V:aR Tryz.prog BLN:=.nil _
def AX2(a0:aQ)(R:T->Prop):Prop:=R ((aF true aJ (a0.1,bJ,bJ,bR,bL,bS,a0.2.2.2.2.2.2.1,cK)))
abbrev A6G:Sh:=[(true,aJ)]
def ABV:List T->Option T:=gS A6G YA
def A2U {a0}:ABV [aF true aJ a0]=YA (a0):=bH (s:=A6G) rfl (a0) rfl
def BJO:yW Tryz.prog 215 ABV YA (cQ A6G) AX2:=kW (a1:=(true,aJ)) (Hs:=BMA) (k:=8) A8V aV aY (aN rfl) ⟨_,_,Tryz.func215,rfl⟩ rfl λ_ _=>by kernel_rfl
def BHB:aO Tryz.prog 215 ABV:=BJO λx r h hb=>by
 cases h;unfold AX2;rfl
def KT (x:aQ):Option T:=some (Sh.enc [(true,aJ)] ((x.1,dW x,bJ,bR,bL,bS,noPack,cK):aQ))
def BE0:Env:=Env.of []
def BFG:FuncId->Hint:=λ_=>a6
def AV5:aR Tryz.prog BE0:=.nil _
def AGF(a0:aQ)(R:T->Prop):Prop:=R ((BQ9 a0))
abbrev AJ1:Sh:=[(true,aJ)]
def OI:List T->Option T:=gS AJ1 KT
def ARU {a0}:OI [aF true aJ a0]=KT (a0):=bH (s:=AJ1) rfl (a0) rfl
def BCG:yW Tryz.prog 224 OI KT (cQ AJ1) AGF:=kW (a1:=(true,aJ)) (Hs:=BFG) (k:=8) AV5 aV aY (aN rfl) ⟨_,_,Tryz.func224,rfl⟩ rfl λ_ _=>by kernel_rfl
def BA3:aO Tryz.prog 224 OI:=BCG λx r h hb=>by
 cases h;unfold AGF BQ9;rfl
def KU (x:aQ):Option T:=some (Sh.enc [(true,aJ)] ((x.1,bJ,bJ,bR,bL,bS,noPack,dI x):aQ))
def BE1:Env:=Env.of []
def BFH:FuncId->Hint:=λ_=>a6
def AV6:aR Tryz.prog BE1:=.nil _
def AGG(a0:aQ)(R:T->Prop):Prop:=R ((aF true aJ (a0.1,bJ,bJ,bR,bL,bS,noPack,a0.2.2.2.2.2.2.2)))
abbrev AJ2:Sh:=[(true,aJ)]
def vF:List T->Option T:=gS AJ2 KU
def SL {a0}:vF [aF true aJ a0]=KU (a0):=bH (s:=AJ2) rfl (a0) rfl
def BCH:yW Tryz.prog 230 vF KU (cQ AJ2) AGG:=kW (a1:=(true,aJ)) (Hs:=BFH) (k:=8) AV6 aV aY (aN rfl) ⟨_,_,Tryz.func230,rfl⟩ rfl λ_ _=>by kernel_rfl
def AL2:aO Tryz.prog 230 vF:=BCH λx r h hb=>by
 cases h;unfold AGG;rfl
def AP (x:aA×aQ):Option T:=some (pPR false)
def AVK:Env:=Env.of []
def AY5:FuncId->Hint:=λ_=>a6
def AFS:aR Tryz.prog AVK:=.nil _
def MH(a0:aA)(a1:aQ)(R:T->Prop):Prop:=R BPE
abbrev PZ:Sh:=[(true,aB),(true,aJ)]
def kG:List T->Option T:=gS PZ AP
def JG {a0 a1}:kG [aF true aB a0,aF true aJ a1]=AP (a0,a1):=bH (s:=PZ) rfl (a0,a1) rfl
def ATC:tG Tryz.prog 183 kG AP (cQ PZ) MH:=iR (a1:=(true,aB)) (a2:=(true,aJ)) (Hs:=AY5) (k:=8) AFS aV aY (aN rfl) ⟨_,_,Tryz.func183,rfl⟩ rfl λ_ _ _=>by kernel_rfl
def tW:aO Tryz.prog 183 kG:=ATC λd x r h hb=>by
 cases h;unfold MH BPE;rfl
def l8 {c:Bool} {a r:T} (h:(match c with|true=>some a|false=>none)=some r):c=true/\a=r:=by
 cases c with
 | true=>exact ⟨rfl,Option.some.inj h⟩
 | false=>cases h
def F3 (x:aA×aQ):Option T:=match o5 x.1 with
 | true=>some (pPR (nH x.1 (dW x.2)))
 | false=>none
def A7P:Env:=Env.of []
def A9G:FuncId->Hint:=cF 277 [(2,.inv [.val 8 false (.int .i64)])] (cF 282 [(2,.inv [.val 8 false (.int .i64)])] (cF 283 [(2,.inv [.val 8 false (.int .i64)])] (λ_=>a6)))
def AO7:aR Tryz.prog A7P:=.nil _
def BQA(a0:aA)(a1:aQ)(R:T->Prop):Prop:=a8 (Int×PUnit) (λX3 s4=>aD (decide (s4.1<(↑(BP3 a0).length:Int))) (aX aH (BP3 a0) s4.1 λ(y5:bA)=>a8 (Int×PUnit) (λX6 s7=>aD (decide (s7.1<(↑(BQ8 y5).length:Int))) (aX Sy.str (BQ8 y5) s7.1 λ(y8:iII)=>aD (decide (a1.2.1=y8)) (aD (decide (0<=s7.1)) (R (BQY s4)) (BP4 X3 s4)) (BP4 X6 s7)) (BP4 X3 s4)) (0,())) (R BPE)) (0,())
def UQ(a0:aA)(a1:aQ)(R:T->Prop):Prop:=a8 (Int×PUnit) (λX0 s1=>aD (decide (s1.1<(↑(BP8 a0).length:Int))) (aX bI (BP8 a0) s1.1 λ(y2:iH)=>aD (decide (y2.2.1=a1.2.1)) (aD (decide (0<=s1.1)) (R BPL) (BQA a0 a1 R)) (aD (decide (y2.2.2.1=a1.2.1)) (aD (decide (0<=s1.1)) (R BPL) (BQA a0 a1 R)) (BP4 X0 s1))) (BQA a0 a1 R)) (0,())
abbrev XD:Sh:=[(true,aB),(true,aJ)]
def ET:List T->Option T:=gS XD F3
def AIL {a0 a1}:ET [aF true aB a0,aF true aJ a1]=F3 (a0,a1):=bH (s:=XD) rfl (a0,a1) rfl
def A4W:tG Tryz.prog 162 ET F3 (cQ XD) UQ:=iR (a1:=(true,aB)) (a2:=(true,aJ)) (Hs:=A9G) (k:=8) AO7 aV aY (aN rfl) ⟨_,_,Tryz.func162,rfl⟩ rfl λ_ _ _=>by kernel_rfl
def A00:aO Tryz.prog 162 ET:=A4W λd x r h hb=>by
 clear hb;obtain ⟨hp,rfl⟩:=l8 h;clear h;have c:=eV hp;have hk:∀ k∈d.2.2.2.2.1,k.2.2.1.length<=140737488355328/\k.2.2.2.2.length<=140737488355328:=λk hk=>by
  have:=List.all_eq_true.1 c.zT k hk;simp only[dL,lO,ac,ah] at this;exact ⟨this.1.2,this.2.2⟩
 have is:∀ {b:Bool},nH d (dW x)=b->pPR b=pPR (nH d (dW x)):=λh=>by rw[h]
 have pos:∀ {k:Nat},¬ (0<=(k:Int))->False:=λh=>h (by omega);unfold UQ BQA BQ8 BP8 BP3 BQY BP4 BPL BPE;refine dD (r:=bI) (λs=>decide (s.2.1=dW x)||decide (s.2.2.1=dW x)) (pC c.s) (λX k y hlt hy hp hn=>?_) (λ_ h1=>?_)
 ·dsimp only;have yes:(decide (y.2.1=dW x)||decide (y.2.2.1=dW x))=true->nH d (dW x)=true:=λh=>by unfold nH;rw[(hp h).2];rfl
  refine cO (λh=>cO (λ_=>is (yes (by rw[ai h];rfl))) λh=>(pos h).elim) λh=>?_;refine cO (λh2=>cO (λ_=>is (yes (by rw[ai h2,Bool.or_true]))) λh=>(pos h).elim) λh2=>hn ?_;rw[aj h,aj h2];rfl
 ·refine dD (r:=aH) (λk=>VW k.2.2.1 (dW x)) (pC c.k) (λX k y hlt hy hp hn=>?_) (λ_ h2=>is ?_)
  ·dsimp only;refine dD (r:=.str) (λz=>decide (z=dW x)) (hk y (by rw[<-hy];exact ak hlt)).1 (λY j z hj hz hp2 hn2=>?_) (λ_ h3=>hn h3);dsimp only;refine cO (λh=>cO (λ_=>is ?_) λh=>(pos h).elim) λh=>hn2 (aj λe=>h e.symm);have:=(hp (hp2 (ai h.symm)).2).2;rw[show decide ((0:Int)<=(k:Int))=true from ai (by omega)];unfold nH;rw[this,Bool.or_true]
  ·unfold nH;rw[h1,h2];rfl
def F1 (x:aA×aQ):Option T:=match o5 x.1 with
 | true=>some (pPR (iL x.1 (dW x.2)))
 | false=>none
def A7N:Env:=Env.of []
def A9E:FuncId->Hint:=cF 185 [(2,.inv [.val 8 false (.int .i64)])] (cF 276 [(2,.inv [.val 8 false (.int .i64)])] (cF 277 [(2,.inv [.val 8 false (.int .i64)])] (cF 278 [(2,.inv [.val 8 false (.int .i64)])] (λ_=>a6))))
def AO5:aR Tryz.prog A7N:=.nil _
def BRN(a0:aA)(s10:Int×PUnit)(a1:aQ)(R:T->Prop)(X9:Int×PUnit->Prop):Prop:=aX a7 (BP2 a0) s10.1 λ(y11:cM)=>aD (decide (y11.2.1=a1.2.1)) (R (BQY s10)) (aD (decide (y11.2.2=a1.2.1)) (aD (!decide (y11.1=3)) (R (BQY s10)) (BP4 X9 s10)) (BP4 X9 s10))
def BP0(a0:aA)(a1:aQ)(R:T->Prop):Prop:=a8 (Int×PUnit) (λX12 s13=>aD (decide (s13.1<(↑(BP2 a0).length:Int))) (BRN a0 s13 a1 R X12) (R BPE)) (0,())
def BQI(a0:aA)(a1:aQ)(R:T->Prop):Prop:=a8 (Int×PUnit) (λ(X15:Int×PUnit->Prop) (J6:Int×PUnit)=>aD (decide (J6.1<(↑(BP3 a0).length:Int))) (aX aH (BP3 a0) J6.1 λ(y17:bA)=>aD (decide (y17.2.1=a1.2.1)) (aD (decide (0<=J6.1)) (R BPL) (BP0 a0 a1 R)) (BP4 X15 J6)) (BP0 a0 a1 R)) (0,())
def UO(a0:aA)(a1:aQ)(R:T->Prop):Prop:=a8 (Int×PUnit) (λX0 s1=>aD (decide (s1.1<(↑(BP5 a0).length:Int))) (aX aP (BP5 a0) s1.1 λ(y2:bD)=>aD (decide (y2.2.2.2.1=a1.2.1)) (aD (decide (0<=s1.1)) (R BPL) (a8 (Int×PUnit) (λX3 s4=>aD (decide (s4.1<(↑(BQB a0).length:Int))) (aX bC (BQB a0) s4.1 λ(y5:fQ)=>aD (decide (y5.2.2=a1.2.1)) (aD (decide (0<=s4.1)) (R BPL) (a8 (Int×PUnit) (λX6 s7=>aD (decide (s7.1<(↑(BP3 a0).length:Int))) (aX aH (BP3 a0) s7.1 λ(y8:bA)=>aD (decide (y8.2.1=a1.2.1)) (aD (decide (0<=s7.1)) (R BPL) (a8 (Int×PUnit) (λX9 s10=>aD (decide (s10.1 < (↑(BP2 a0).length:Int))) (BRN a0 s10 a1 R X9) (R BPE)) (0,()))) (BP4 X6 s7)) (BP0 a0 a1 R)) (0,()))) (BP4 X3 s4)) (BQI a0 a1 R)) (0,()))) (BP4 X0 s1)) (a8 (Int×PUnit) (λX24 s25=>aD (decide (s25.1<(↑(BQB a0).length:Int))) (aX bC (BQB a0) s25.1 λ(y26:fQ)=>aD (decide (y26.2.2=a1.2.1)) (aD (decide (0<=s25.1)) (R BPL) (BQI a0 a1 R)) (BP4 X24 s25)) (BQI a0 a1 R)) (0,()))) (0,())
abbrev XB:Sh:=[(true,aB),(true,aJ)]
def ER:List T->Option T:=gS XB F1
def AIJ {a0 a1}:ER [aF true aB a0,aF true aJ a1]=F1 (a0,a1):=bH (s:=XB) rfl (a0,a1) rfl
def A4U:tG Tryz.prog 138 ER F1 (cQ XB) UO:=iR (a1:=(true,aB)) (a2:=(true,aJ)) (Hs:=A9E) (k:=8) AO5 aV aY (aN rfl) ⟨_,_,Tryz.func138,rfl⟩ rfl λ_ _ _=>by kernel_rfl
def A0Y:aO Tryz.prog 138 ER:=A4U λd x r h hb=>by
 clear hb;obtain ⟨hp,rfl⟩:=l8 h;clear h;have c:=eV hp;have is:∀ {b:Bool},iL d (dW x)=b->pPR b=pPR (iL d (dW x)):=λh=>by rw[h]
 have pos:∀ {k:Nat},¬ (0<=(k:Int))->False:=λh=>h (by omega);have d0:∀ {k:Nat},decide ((0:Int)<=(k:Int))=true:=ai (by omega);unfold UO BQI BQB BP5 BP3 BP0 BRN BQY BP4 BP2 BPL BPE;refine dD (r:=aP) (λp=>decide (fV p=dW x)) (pC c.p) (λX k y hlt hy hp hn=>?_) (λ_ h1=>?_)
 ·dsimp only;exact cO (λh=>cO (λ_=>is (by unfold iL;rw[(hp (ai h)).2];rfl)) λh=>(pos h).elim) λh=>hn (aj h)
 refine dD (r:=bC) (λn=>decide (n.2.2=dW x)) (pC c.n) (λX k y hlt hy hp hn=>?_) (λ_ h2=>?_)
 ·dsimp only;exact cO (λh=>cO (λ_=>is (by unfold iL;rw[h1,(hp (ai h)).2];rfl)) λh=>(pos h).elim) λh=>hn (aj h)
 refine dD (r:=aH) (λk=>decide (k.2.1=dW x)) (pC c.k) (λX k y hlt hy hp hn=>?_) (λ_ h3=>?_)
 ·dsimp only;exact cO (λh=>cO (λ_=>is (by unfold iL;rw[h1,h2,(hp (ai h)).2];rfl)) λh=>(pos h).elim) λh=>hn (aj h)
 refine dD (r:=a7) (λn=>decide (n.2.1=dW x)||(decide (n.2.2=dW x) && !decide (n.1=3))) (pC c.r) (λX k y hlt hy hp hn=>?_) (λ_ h4=>is (by unfold iL;rw[h1,h2,h3,h4];rfl));dsimp only;have yes:(decide (y.2.1=dW x)||(decide (y.2.2=dW x) && !decide (y.1=3)))=true->iL d (dW x)=decide ((0:Int)<=(k:Int)):=λh=>by rw[d0];unfold iL;rw[h1,h2,h3,(hp h).2];rfl
 refine cO (λh=>is (yes (by rw[ai h];rfl))) λa1=>?_;refine cO (λa2=>?_) λa2=>hn (by rw[aj a1,aj a2];rfl);refine lK (λa3=>is (yes (by rw[ai a2,aj a3];simp))) λa3=>hn (by rw[aj a1,ai a3,Bool.not_true,Bool.and_false];rfl)
def F2 (x:aA×aQ):Option T:=match o5 x.1 with
 | true=>some (pPR (o4 x.1 (dW x.2)))
 | false=>none
def A7O:Env:=Env.of [(107,.dup 5 88),(290,.grow 5 mW)]
def A9F:FuncId->Hint:=cF 277 [(2,.inv [.val 8 false (.int .i64)])] (cF 278 [(2,.inv [.val 8 false (.int .i64)])] (cF 283 [(2,.inv [.val 8 false (.int .i64)])] (λ_=>a6)))
def AO6:aR Tryz.prog A7O:=aR.cons (x:=.dup 5 88) oF (.cons BC (.nil _))
def BQC(a0:aA)(a1:aQ)(R:T->Prop):Prop:=a8 (Int×PUnit) (λX13 s14=>aD (decide (s14.1<(↑(BP2 a0).length:Int))) (aX a7 (BP2 a0) s14.1 λ(y15:cM)=>aD (decide (y15.1=3)) (aD (decide (y15.2.2=a1.2.1)) (R (BQY s14)) (BP4 X13 s14)) (BP4 X13 s14)) (R BPE)) (0,())
def BQF(y6:bA)(a1:aQ)(s4:Int×PUnit)(R:T->Prop)(a0:aA)(X3:Int×PUnit->Prop):Prop:=a8 (Int×PUnit) (λX7 s8=>aD (decide (s8.1<(↑(BQV y6).length:Int))) (aX Sy.str (BQV y6) s8.1 λ(y9:iII)=>aD (decide (a1.2.1=y9)) (aD (decide (0<=s8.1)) (aD (decide (0<=s4.1)) (R BPL) (a8 (Int×PUnit) (λX10 s11=>aD (decide (s11.1 < (↑(BP2 a0).length:Int))) (aX a7 (BP2 a0) s11.1 λ(y12:cM)=>aD (decide (y12.1=3)) (aD (decide (y12.2.2=a1.2.1)) (R (BQY s11)) (BP4 X10 s11)) (BP4 X10 s11)) (R BPE)) (0,()))) (BP4 X3 s4)) (BP4 X7 s8)) (BP4 X3 s4)) (0,())
def BQR(s1:Int×PUnit):List T:=[pPP s1.1, pPP (i64.wrap (s1.1+1))]
def UP(a0:aA)(a1:aQ)(R:T->Prop):Prop:=a8 (Int×PUnit) (λX0 s1=>aD (decide (s1.1<(↑(BP3 a0).length:Int))) (aX aH (BP3 a0) s1.1 λ(y2:bA)=>aD (decide (y2.1=a1.2.1)) (aD (decide (s1.1<0)) (b7 (((BP3 a0).all λ(r:List T)=>decide (r.length=5)) && decide ((BP3 a0).length*88<=140737488355328) && decide ((BP3 a0).length<=140737488355328)) (a8 (Int×PUnit) (λX3 s4=>aD (decide (s4.1<(↑(BP3 a0).length:Int))) (aX aH (BP3 a0) s4.1 λ(y5:bA)=>jD aH (BP3 a0) (Int.toNat s4.1) 0 λ(y6:bA)=>BQF y6 a1 s4 R a0 X3) (BQC a0 a1 R)) (0,()))) (b7 (((BP3 a0).all λ(r:List T)=>decide (r.length=5)) && decide ((BP3 a0).length*88<=140737488355328) && decide ((BP3 a0).length<=140737488355328)) (fB aH (mW (BP3 a0) (BQR s1)) λ(y16:List bA)=>a8 (Int×PUnit) (λX17 s18=>aD (decide (s18.1<(↑(List.map aH.enc y16).length:Int))) (aX aH (List.map aH.enc y16) s18.1 λ(y19:bA)=>jD aH (List.map aH.enc y16) (Int.toNat s18.1) 0 λ(y20:bA)=>BQF y20 a1 s18 R a0 X17) (BQC a0 a1 R)) (0,())))) (BP4 X0 s1)) (b7 (((BP3 a0).all λ(r:List T)=>decide (r.length=5)) && decide ((BP3 a0).length*88<=140737488355328) && decide ((BP3 a0).length<=140737488355328)) (a8 (Int×PUnit) (λX30 s31=>aD (decide (s31.1<(↑(BP3 a0).length:Int))) (aX aH (BP3 a0) s31.1 λ(y32:bA)=>jD aH (BP3 a0) (Int.toNat s31.1) 0 λ(y33:bA)=>a8 (Int×PUnit) (λX34 s35=>aD (decide (s35.1<(↑(BQV y33).length:Int))) (aX Sy.str (BQV y33) s35.1 λ(y36:iII)=>aD (decide (a1.2.1=y36)) (aD (decide (0<=s35.1)) (aD (decide (0<=s31.1)) (R BPL) (BQC a0 a1 R)) (BP4 X30 s31)) (BP4 X34 s35)) (BP4 X30 s31)) (0,())) (BQC a0 a1 R)) (0,())))) (0,())
abbrev XC:Sh:=[(true,aB),(true,aJ)]
def ES:List T->Option T:=gS XC F2
def AIK {a0 a1}:ES [aF true aB a0,aF true aJ a1]=F2 (a0,a1):=bH (s:=XC) rfl (a0,a1) rfl
def A4V:tG Tryz.prog 210 ES F2 (cQ XC) UP:=iR (a1:=(true,aB)) (a2:=(true,aJ)) (Hs:=A9F) (k:=8) AO6 aV aY (aN rfl) ⟨_,_,Tryz.func210,rfl⟩ rfl λ_ _ _=>by kernel_rfl
def A0Z:aO Tryz.prog 210 ES:=A4V λd x r h hb=>by
 clear hb;obtain ⟨hp,rfl⟩:=l8 h;clear h;have c:=eV hp;have hk:∀ k∈d.2.2.2.2.1,k.2.2.1.length<=140737488355328/\k.2.2.2.2.length<=140737488355328:=λk hk=>by
  have:=List.all_eq_true.1 c.zT k hk;simp only[dL,lO,ac,ah] at this;exact ⟨this.1.2,this.2.2⟩
 have is:∀ {b:Bool},o4 d (dW x)=b->pPR b=pPR (o4 d (dW x)):=λh=>by rw[h]
 have pos:∀ {k:Nat},¬ (0<=(k:Int))->False:=λh=>h (by omega);have d0:∀ {k:Nat},decide ((0:Int)<=(k:Int))=true:=ai (by omega);have hd:=w9 (r:=aH) (l:=d.2.2.2.2.1) (z:=5) (b:=88) rfl (eE c.k (by decide));unfold UP BQR BQF BQV BQC BP3 BQY BP4 BP2 BPL BPE;refine dD (r:=aH) (λy=>bZ (dW x) y) (pC c.k) (λX k y hlt hy hp hn=>?_) (λh0 _=>?_)
 ·dsimp only;refine cO (λh=>?_) λh=>hn (aj h);obtain ⟨hi,_⟩:=hp (ai h);refine cO (λh=>by omega) λ_=>⟨hd,?_⟩
  have eL:eJ (bZ (dW x)) d.2.2.2.2.1=d.2.2.2.2.1.take k++d.2.2.2.2.1.drop (k+1):=by
   unfold eJ;rw[show List.findIdx (bZ (dW x)) d.2.2.2.2.1=k from hi]
  refine eR (r:=aH) (l:=eJ (bZ (dW x)) d.2.2.2.2.1) (by rw[eL];exact GX (r:=aH) rfl hlt c.k) _ ?_;have hL:(eJ (bZ (dW x)) d.2.2.2.2.1).length<=1000:=Nat.le_trans AAF c.k;have hkL:∀ k∈eJ (bZ (dW x)) d.2.2.2.2.1,k.2.2.2.2.length<=140737488355328:=λk h=>(hk k (D2 h)).2;have hV:o4 d (dW x)=(((eJ (bZ (dW x)) d.2.2.2.2.1).any λk=>VW k.2.2.2.2 (dW x))||(d.2.2.2.2.2.any λn=>decide (n.1=3)&&decide (n.2.2=dW x))):=rfl;clear hp hn eL;generalize eJ (bZ (dW x)) d.2.2.2.2.1=L at *;refine dD (r:=aH) (λk=>VW k.2.2.2.2 (dW x)) (pC hL) (λX k y hlt hy hp hn=>?_) (λ_ h2=>?_)
  ·dsimp only;rw[show Int.toNat (k:Int)=k from rfl,jU (r:=aH) hlt,hy];refine dD (r:=.str) (λz=>decide (z=dW x)) (hkL y (by rw[<-hy];exact ak hlt)) (λY j z hj hz hp2 hn2=>?_) (λ_ h3=>hn h3);dsimp only;refine cO (λh=>cO (λ_=>cO (λ_=>is ?_) λh=>(pos h).elim) λh=>(pos h).elim) λh=>hn2 (aj λe=>h e.symm);rw[hV,(hp (hp2 (ai h.symm)).2).2];rfl
  ·refine dD (r:=a7) (λn=>decide (n.1=3)&&decide (n.2.2=dW x)) (pC c.r) (λX k y hlt hy hp hn=>?_) (λ_ h4=>is (by rw[hV,h2,h4];rfl));dsimp only;refine cO (λa1=>?_) λa1=>hn (by rw[aj a1];rfl);refine cO (λa2=>is ?_) λa2=>hn (by rw[aj a2,Bool.and_false]);rw[d0,hV,(hp (by rw[ai a1,ai a2];rfl)).2,Bool.or_true]
 ·refine ⟨hd,?_⟩;have hV:o4 d (dW x)=((d.2.2.2.2.1.any λk=>VW k.2.2.2.2 (dW x))||(d.2.2.2.2.2.any λn=>decide (n.1=3)&&decide (n.2.2=dW x))):=by unfold o4;rw[w5 (is:=bZ (dW x)) h0]
  have hL:=c.k;have hkL:∀ k∈d.2.2.2.2.1,k.2.2.2.2.length<=140737488355328:=λk h=>(hk k h).2;refine dD (r:=aH) (λk=>VW k.2.2.2.2 (dW x)) (pC hL) (λX k y hlt hy hp hn=>?_) (λ_ h2=>?_)
  ·dsimp only;rw[show Int.toNat (k:Int)=k from rfl,jU (r:=aH) hlt,hy];refine dD (r:=.str) (λz=>decide (z=dW x)) (hkL y (by rw[<-hy];exact ak hlt)) (λY j z hj hz hp2 hn2=>?_) (λ_ h3=>hn h3);dsimp only;refine cO (λh=>cO (λ_=>cO (λ_=>is ?_) λh=>(pos h).elim) λh=>(pos h).elim) λh=>hn2 (aj λe=>h e.symm);rw[hV,(hp (hp2 (ai h.symm)).2).2];rfl
  ·refine dD (r:=a7) (λn=>decide (n.1=3)&&decide (n.2.2=dW x)) (pC c.r) (λX k y hlt hy hp hn=>?_) (λ_ h4=>is (by rw[hV,h2,h4];rfl));dsimp only;refine cO (λa1=>?_) λa1=>hn (by rw[aj a1];rfl);refine cO (λa2=>is ?_) λa2=>hn (by rw[aj a2,Bool.and_false]);rw[d0,hV,(hp (by rw[ai a1,ai a2];rfl)).2,Bool.or_true]
def tO (lt gt:Bool):Int:=match lt,gt with
 | true,_=>-1
 | false,true=>1
 | false,false=>0
def KP (x:Int×Int):Option T:=some (T.v (Value.int .i64 (tO (decide (x.1<x.2)) (decide (x.2<x.1)))))
def KQ (x:iII×iII):Option T:=some (T.v (Value.int .i64 (tO (cY x.1 x.2) (cY x.2 x.1))))
def orE:List Int->Int
 | []=>0
 | a::l=>if a=0 then orE l else a
def AKW (l:List Int):Option T:=some (T.v (Value.int .i64 (orE l)))
def BEQ:Env:=Env.of []
def BE6:FuncId->Hint:=λ_=>a6
def AVR:aR Tryz.prog BEQ:=.nil _
def AFZ(a0:Int)(a1:Int)(R:T->Prop):Prop:=aD (!decide (a0=a0)) (aD (!decide (a1=a1)) (R BPJ) (R BPP)) (aD (!decide (a1=a1)) (R BPU) (aD (decide (a0<a1)) (R BPP) (aD (decide (a1<a0)) (R BPU) (R BPJ))))
abbrev AJR:Sh:=[(false,(Sy.int IntKind.i64)),(false,(Sy.int IntKind.i64))]
def N9:List T->Option T:=gS AJR KP
def ARK {a0 a1}:N9 [pPP a0,pPP a1]=KP (a0,a1):=bH (s:=AJR) rfl (a0,a1) rfl
def BB1:tG Tryz.prog 236 N9 KP (cQ AJR) AFZ:=iR (a1:=(false,(Sy.int IntKind.i64))) (a2:=(false,(Sy.int IntKind.i64))) (Hs:=BE6) (k:=8) AVR aV aY (aN rfl) ⟨_,_,Tryz.func236,rfl⟩ rfl λ_ _ _=>by kernel_rfl
def BAJ:aO Tryz.prog 236 N9:=BB1 λa b r h hb=>by
 cases h;unfold AFZ BPU BPP BPJ;refine lK (λh=>absurd rfl h) λ_=>lK (λh=>absurd rfl h) λ_=>?_;refine cO (λh=>by unfold tO;rw[ai h]) λh=>?_;refine cO (λh2=>by unfold tO;rw[aj h,ai h2]) λh2=>by unfold tO;rw[aj h,aj h2]
def BER:Env:=Env.of []
def BE7:FuncId->Hint:=λ_=>a6
def AVS:aR Tryz.prog BER:=.nil _
def AF0(a0:iII)(a1:iII)(R:T->Prop):Prop:=aD (!decide (a0=a0)) (aD (!decide (a1=a1)) (R BPJ) (R BPP)) (aD (!decide (a1=a1)) (R BPU) (aD (cY a0 a1) (R BPP) (aD (!(cY a0 a1||decide (a0=a1))) (R BPU) (R BPJ))))
abbrev AJS:Sh:=[(false,Sy.str),(false,Sy.str)]
def G6:List T->Option T:=gS AJS KQ
def SH {a0 a1}:G6 [pPQ a0,pPQ a1]=KQ (a0,a1):=bH (s:=AJS) rfl (a0,a1) rfl
def BB2:tG Tryz.prog 237 G6 KQ (cQ AJS) AF0:=iR (a1:=(false,Sy.str)) (a2:=(false,Sy.str)) (Hs:=BE7) (k:=8) AVS aV aY (aN rfl) ⟨_,_,Tryz.func237,rfl⟩ rfl λ_ _ _=>by kernel_rfl
def BAK:aO Tryz.prog 237 G6:=BB2 λa b r h hb=>by
 cases h;unfold AF0 BPU BPP BPJ;refine lK (λh=>absurd rfl h) λ_=>lK (λh=>absurd rfl h) λ_=>?_;rw[qJ];refine DQ (λh=>by unfold tO;rw[h]) λh=>?_;refine DQ (λh2=>by unfold tO;rw[h,h2]) λh2=>by unfold tO;rw[h,h2]
def I3 (a0:List Int):List T:=[T.sl true (List.map (Sy.int .i64).enc a0)]
def AU1:Env:=Env.of []
def BDV:FuncId->Hint:=cF 235 [(3,.inv [.val 8 false (.int .i64)])] (λ_=>a6)
def A8M:aR Tryz.prog AU1:=.nil _
def AXS(a0:List Int)(R:T->Prop):Prop:=a8 (Int×PUnit) (λX0 s1=>aD (decide (s1.1<(↑(List.map BPM.enc a0).length:Int))) (aX BPM (List.map BPM.enc a0) s1.1 λ(y2:Int)=>aD (!decide (y2=0)) (R (BQX y2)) (BP4 X0 s1)) (R BPJ)) (0,())
def AXT ( a0 R):dM bX Tryz.prog AU1 BDV 8 235 (I3 a0) R=AXS a0 R:=by kernel_rfl
def AN9 (x y:List Int) (h:I3 x=I3 y):x=y:=by
 simp only[I3,List.cons.injEq,T.sl.injEq,true_and,and_true] at h;exact map_inj (Sy.eU (.int .i64)) h
def ABM:List T->Option (T):=gA (λ(x:List Int)=>I3 x) AKW
def A2L (a0:List Int):ABM (I3 a0)=AKW a0:=dY (A:=(λ(x:List Int)=>I3 x)) AN9 a0
def BJF (h:∀ (a0:List Int) (r:T),AKW a0=some r->(∀ t∈I3 a0,Bd t)->AXS a0 (λy=>y=r)):aO Tryz.prog 235 ABM :=
 cE (E:=AU1) (Hs:=BDV) A8M aV aY (aN rfl) 8 ⟨_,_,Tryz.func235,rfl⟩ λx r h1 h2=>by
  rw[AXT];exact h x r h1 h2
def BG2:aO Tryz.prog 235 ABM:=BJF λl r h hb=>by
 have hl:l.length<=2 ^ 47:=by
  have:=((BC7 _ _).1 (hb _ am)).1;simpa using this
 cases h;have is:∀ {n:Int},orE l=n->pPP n=pPP (orE l):=λh=>by rw[h]
 unfold AXS BP4 BQX BPM BPJ;refine bN l.length (λk s=>s=((k:Int),())/\orE (l.drop k)=orE l) ⟨rfl,rfl⟩ ?_;rintro X k s hk ⟨rfl,he⟩ hX;dsimp only;refine cO (λhlt=>?_) λhge=>?_
 ·rw[ae] at hlt;have hlt:k<l.length:=by omega
  rw[bG (r:=.int .i64) hlt];rw[List.drop_eq_getElem_cons hlt,orE] at he;refine lK (λh=>is ?_) λh=>hX _ hlt ⟨?_,?_⟩
  ·rw[if_neg h] at he;exact he.symm
  ·rw[show i64.wrap ((k:Int)+1)=((k+1:Nat):Int) by rw[bB]<;>omega]
  ·rw[if_pos h] at he;exact he
 ·rw[ae] at hge;rw[List.drop_eq_nil_of_le (by omega)] at he;exact is he.symm
def AE (x:cM×cM):Option T:=some (pPR (o8 x.1 x.2))
def AU0:Env:=Env.of [(236,.pure N9),(237,.pure G6),(235,.pure ABM)]
def AYQ:FuncId->Hint:=λ_=>a6
def AFC:aR Tryz.prog AU0:=.cons BAJ (.cons BAK (.cons BG2 (.nil _)))
def L1(a0:cM)(a1:cM)(R:T->Prop):Prop:=aM BPG (N9 [pPP a0.1,pPP a1.1]) λ(y0:Int)=>aM BPG (G6 [pPQ a0.2.1,pPQ a1.2.1]) λ(y1:Int)=>aM BPG (G6 [pPQ a0.2.2,pPQ a1.2.2]) λ(y2:Int)=>aM BPG (ABM [T.sl true [[pPP y0],[pPP y1], [pPP y2]]]) λ(y3:Int)=>R (pPR (decide (0<y3)))
abbrev PK:Sh:=[(true,a7),(true,a7)]
def qX:List T->Option T:=gS PK AE
def ABL {a0 a1}:qX [aF true a7 a0,aF true a7 a1]=AE (a0,a1):=bH (s:=PK) rfl (a0,a1) rfl
def ASW:tG Tryz.prog 234 qX AE (cQ PK) L1:=iR (a1:=(true,a7)) (a2:=(true,a7)) (Hs:=AYQ) (k:=8) AFC aV aY (aN rfl) ⟨_,_,Tryz.func234,rfl⟩ rfl λ_ _ _=>by kernel_rfl
def R8:aO Tryz.prog 234 qX:=ASW λa b r h hb=>by
 cases h;unfold L1 BPG;refine aK (s:=[(false,.int .i64)]) (ARK ..) ?_;refine aK (s:=[(false,.int .i64)]) (SH ..) ?_;refine aK (s:=[(false,.int .i64)]) (SH ..) ?_;refine aK (s:=[(false,.int .i64)]) (y:=orE [tO (decide (a.1<b.1)) (decide (b.1<a.1)),tO (cY a.2.1 b.2.1) (cY b.2.1 a.2.1),tO (cY a.2.2 b.2.2) (cY b.2.2 a.2.2)]) (A2L [tO (decide (a.1<b.1)) (decide (b.1<a.1)),tO (cY a.2.1 b.2.1) (cY b.2.1 a.2.1),tO (cY a.2.2 b.2.2) (cY b.2.2 a.2.2)]) ?_;refine jQ ?_;unfold o8 ltN;have tot:∀ {s t:iII},cY s t=true->cY t s=false/\decide (t=s)=false:=λ{s t} h=>by
  refine ⟨?_,aj λe=>?_⟩
  ·rw[Bool.eq_false_iff];intro h2;have:=XH h h2;rw[qI] at this;cases this
  ·rw[e,qI] at h;cases h
 have eqS:∀ {s t:iII},cY s t=false->cY t s=false->decide (t=s)=true:=λ{s t} h1 h2=>by
  have h3:=qJ s t;rw[h1,h2] at h3;simpa using h3
 rcases Int.lt_trichotomy a.1 b.1 with h|h|h
 ·rw[ai h,aj (show ¬ b.1<a.1 by omega),aj (show ¬ b.1=a.1 by omega)];simp[tO,orE]
 ·rw[aj (show ¬ a.1<b.1 by omega),aj (show ¬ b.1<a.1 by omega),ai h.symm];cases h1:cY a.2.1 b.2.1 with
  | true=>rw[(tot h1).1,(tot h1).2];simp[tO,orE]
  | false =>
   cases h2:cY b.2.1 a.2.1 with
   | true=>simp[tO,orE]
   | false =>
    rw[eqS h1 h2];cases h3:cY a.2.2 b.2.2 with
    | true=>rw[(tot h3).1];simp[tO,orE]
    | false=>cases h4:cY b.2.2 a.2.2<;>simp[tO,orE]
 ·rw[aj (show ¬ a.1<b.1 by omega),ai h];simp[tO,orE]
def AMW (d:aA) (x:aQ):aA:=(d.1,eM cJ d.2.1 (j6 x),d.2.2)
def IQ (x:aA×aQ):Option T:=match o5 x.1 with
 | true=>some (Sh.enc [(true,aB)] (AMW x.1 x.2))
 | false=>none
def BK6:Env:=Env.of [(103,.dup 3 40),(280,.grow 3 kT)]
def BLT:FuncId->Hint:=cF 276 [(2,.inv [.val 8 false (.int .i64)])] (λ_=>a6)
def A70:aR Tryz.prog BK6:=aR.cons (x:=.dup 3 40) CC (.cons CF (.nil _))
def BRH(a0:aA)(y4:List fQ):T:=aF true aB (a0.1,y4,a0.2.2.1,a0.2.2.2.1,a0.2.2.2.2.1,a0.2.2.2.2.2)
def BRT(a1:aQ):List T:=[pPQ a1.2.2.2.1.1, pPP a1.2.2.2.1.2.1, pPQ a1.2.2.2.1.2.2]
def BQL(a0:aA)(a1:aQ)(R:T->Prop):Prop:=b7 (((BQB a0).all λ(r:List T)=>decide (r.length=3)) && decide ((BQB a0).length*40<=140737488355328) && decide ((BQB a0).length<=140737488355328)) (fB bC (kT (BQB a0) [pPP (↑(BQB a0).length:Int), T.sl true [(BRT a1)]]) λ(y3:List fQ)=>R ((BRH a0 y3)))
def AWT(a0:aA)(a1:aQ)(R:T->Prop):Prop:=a8 (Int×PUnit) (λX0 s1=>aD (decide (s1.1<(↑(BQB a0).length:Int))) (aX bC (BQB a0) s1.1 λ(y2:fQ)=>aD (!(cY y2.1 a1.2.2.2.1.1||decide (y2.1=a1.2.2.2.1.1))) (aD (decide (s1.1<0)) (BQL a0 a1 R) (b7 (((BQB a0).all λ(r:List T)=>decide (r.length=3)) && decide ((BQB a0).length*40<=140737488355328) && decide ((BQB a0).length<=140737488355328)) (fB bC (kT (BQB a0) [pPP s1.1, T.sl true [(BRT a1)]]) λ(y4:List fQ)=>R ((BRH a0 y4))))) (BP4 X0 s1)) (BQL a0 a1 R)) (0,())
abbrev A5Z:Sh:=[(true,aB),(true,aJ)]
def AA5:List T->Option T:=gS A5Z IQ
def A1O {a0 a1}:AA5 [aF true aB a0,aF true aJ a1]=IQ (a0,a1):=bH (s:=A5Z) rfl (a0,a1) rfl
def BIT:tG Tryz.prog 150 AA5 IQ (cQ A5Z) AWT:=iR (a1:=(true,aB)) (a2:=(true,aJ)) (Hs:=BLT) (k:=8) A70 aV aY (aN rfl) ⟨_,_,Tryz.func150,rfl⟩ rfl λ_ _ _=>by kernel_rfl
def BGD:aO Tryz.prog 150 AA5:=BIT λd x r h hb=>by
 clear hb;have hp:o5 d=true:=by
  unfold IQ at h;split at h
  ·assumption
  ·cases h
 have e:Sh.enc [(true,aB)] (AMW d x)=r:=by
  unfold IQ at h;rw[show o5 (d,x).1=true from hp] at h;exact Option.some.inj h
 subst e;clear h;have c:=eV hp;have hd:=w9 (r:=bC) (l:=d.2.1) (z:=3) (b:=40) rfl (eE c.n (by decide));unfold AWT BQL BRT BRH BQB BP4;refine dD (r:=bC) (λy=>cJ y (j6 x)) (pC c.n) (λX k y hk hy hp hn=>?_) (λh _=>?_)
 ·dsimp only;rw[qJ];refine DQ (λh=>?_) λh=>hn h;obtain ⟨hi,_⟩:=hp h;refine cO (λh=>by omega) λ_=>⟨hd,?_⟩
  refine eR (r:=bC) (l:=d.2.1.take k++j6 x::d.2.1.drop k) (sX (r:=bC) (x:=j6 x) rfl (by omega) c.n (by decide)) _ ?_;unfold AMW eM;rw[hi];rfl
 ·refine ⟨hd,?_⟩;rw[show (((List.map (bC).enc d.2.1).length:Nat):Int)=(((d.2.1).length:Nat):Int) by rw[ae]];refine eR (r:=bC) (l:=d.2.1.take (d.2.1).length++j6 x::d.2.1.drop (d.2.1).length) (sX (r:=bC) (x:=j6 x) rfl (al _) c.n (by decide)) _ ?_;unfold AMW eM;rw[h];rfl
def AM0 (d:aA) (x:aQ):aA:=(d.1,d.2.1,d.2.2.1,eM cJ d.2.2.2.1 (mS x),d.2.2.2.2)
def IV (x:aA×aQ):Option T:=match o5 x.1 with
 | true=>some (Sh.enc [(true,aB)] (AM0 x.1 x.2))
 | false=>none
def BLA:Env:=Env.of [(104,.dup 6 72),(288,.grow 6 uA)]
def BLX:FuncId->Hint:=cF 282 [(2,.inv [.val 8 false (.int .i64)])] (λ_=>a6)
def A74:aR Tryz.prog BLA:=aR.cons (x:=.dup 6 72) CE (.cons AHN (.nil _))
def BQT(a1:aQ):List T:=[pPQ a1.2.2.2.2.2.1.1, pPQ a1.2.2.2.2.2.1.2.1, pPQ a1.2.2.2.2.2.1.2.2.1, pPP a1.2.2.2.2.2.1.2.2.2.1, pPP a1.2.2.2.2.2.1.2.2.2.2.1, pPP a1.2.2.2.2.2.1.2.2.2.2.2]
def BRJ(a0:aA)(y4:List iH):T:=aF true aB (a0.1,a0.2.1,a0.2.2.1,y4,a0.2.2.2.2.1,a0.2.2.2.2.2)
def BQH(a0:aA)(a1:aQ)(R:T->Prop):Prop:=b7 (((BP8 a0).all λ(r:List T)=>decide (r.length=6)) && decide ((BP8 a0).length*72<=140737488355328) && decide ((BP8 a0).length<=140737488355328)) (fB bI (uA (BP8 a0) [pPP (↑(BP8 a0).length:Int), T.sl true [(BQT a1)]]) λ(y3:List iH)=>R ((BRJ a0 y3)))
def AWX(a0:aA)(a1:aQ)(R:T->Prop):Prop:=a8 (Int×PUnit) (λX0 s1=>aD (decide (s1.1<(↑(BP8 a0).length:Int))) (aX bI (BP8 a0) s1.1 λ(y2:iH)=>aD (!(cY y2.1 a1.2.2.2.2.2.1.1||decide (y2.1=a1.2.2.2.2.2.1.1))) (aD (decide (s1.1<0)) (BQH a0 a1 R) (b7 (((BP8 a0).all λ(r:List T)=>decide (r.length=6)) && decide ((BP8 a0).length*72<=140737488355328) && decide ((BP8 a0).length<=140737488355328)) (fB bI (uA (BP8 a0) [pPP s1.1, T.sl true [(BQT a1)]]) λ(y4:List iH)=>R ((BRJ a0 y4))))) (BP4 X0 s1)) (BQH a0 a1 R)) (0,())
abbrev A53:Sh:=[(true,aB),(true,aJ)]
def AA9:List T->Option T:=gS A53 IV
def A1S {a0 a1}:AA9 [aF true aB a0,aF true aJ a1]=IV (a0,a1):=bH (s:=A53) rfl (a0,a1) rfl
def BIX:tG Tryz.prog 198 AA9 IV (cQ A53) AWX:=iR (a1:=(true,aB)) (a2:=(true,aJ)) (Hs:=BLX) (k:=8) A74 aV aY (aN rfl) ⟨_,_,Tryz.func198,rfl⟩ rfl λ_ _ _=>by kernel_rfl
def BGH:aO Tryz.prog 198 AA9:=BIX λd x r h hb=>by
 clear hb;have hp:o5 d=true:=by
  unfold IV at h;split at h
  ·assumption
  ·cases h
 have e:Sh.enc [(true,aB)] (AM0 d x)=r:=by
  unfold IV at h;rw[show o5 (d,x).1=true from hp] at h;exact Option.some.inj h
 subst e;clear h;have c:=eV hp;have hd:=w9 (r:=bI) (l:=d.2.2.2.1) (z:=6) (b:=72) rfl (eE c.s (by decide));unfold AWX BQH BRJ BQT BP8 BP4;refine dD (r:=bI) (λy=>cJ y (mS x)) (pC c.s) (λX k y hk hy hp hn=>?_) (λh _=>?_)
 ·dsimp only;rw[qJ];refine DQ (λh=>?_) λh=>hn h;obtain ⟨hi,_⟩:=hp h;refine cO (λh=>by omega) λ_=>⟨hd,?_⟩
  refine eR (r:=bI) (l:=d.2.2.2.1.take k++mS x::d.2.2.2.1.drop k) (sX (r:=bI) (x:=mS x) rfl (by omega) c.s (by decide)) _ ?_;unfold AM0 eM;rw[hi];rfl
 ·refine ⟨hd,?_⟩;rw[show (((List.map (bI).enc d.2.2.2.1).length:Nat):Int)=(((d.2.2.2.1).length:Nat):Int) by rw[ae]];refine eR (r:=bI) (l:=d.2.2.2.1.take (d.2.2.2.1).length++mS x::d.2.2.2.1.drop (d.2.2.2.1).length) (sX (r:=bI) (x:=mS x) rfl (al _) c.s (by decide)) _ ?_;unfold AM0 eM;rw[h];rfl
def AMX (d:aA) (x:aQ):aA:=(d.1,eJ (bZ (dW x)) d.2.1,d.2.2)
def IS (x:aA×aQ):Option T:=match o5 x.1 with
 | true=>some (Sh.enc [(true,aB)] (AMX x.1 x.2))
 | false=>none
def BK7:Env:=Env.of [(103,.dup 3 40),(281,.grow 3 G7)]
def BLU:FuncId->Hint:=cF 276 [(2,.inv [.val 8 false (.int .i64)])] (λ_=>a6)
def A71:aR Tryz.prog BK7:=aR.cons (x:=.dup 3 40) CC (.cons AHJ (.nil _))
def BQ2(a0:aA)(R:T->Prop):Prop:=b7 (((BQB a0).all λ(r:List T)=>decide (r.length=3)) && decide ((BQB a0).length*40<=140737488355328) && decide ((BQB a0).length<=140737488355328)) (R (aF true aB a0))
def AWU(a0:aA)(a1:aQ)(R:T->Prop):Prop:=a8 (Int×PUnit) (λX0 s1=>aD (decide (s1.1<(↑(BQB a0).length:Int))) (aX bC (BQB a0) s1.1 λ(y2:fQ)=>aD (decide (y2.1=a1.2.1)) (aD (decide (s1.1<0)) (BQ2 a0 R) (b7 (((BQB a0).all λ(r:List T)=>decide (r.length=3)) && decide ((BQB a0).length*40<=140737488355328) && decide ((BQB a0).length<=140737488355328)) (fB bC (G7 (BQB a0) (BQR s1)) λ(y3:List fQ)=>R ((BRH a0 y3))))) (BP4 X0 s1)) (BQ2 a0 R)) (0,())
abbrev A50:Sh:=[(true,aB),(true,aJ)]
def AA6:List T->Option T:=gS A50 IS
def A1P {a0 a1}:AA6 [aF true aB a0,aF true aJ a1]=IS (a0,a1):=bH (s:=A50) rfl (a0,a1) rfl
def BIU:tG Tryz.prog 157 AA6 IS (cQ A50) AWU:=iR (a1:=(true,aB)) (a2:=(true,aJ)) (Hs:=BLU) (k:=8) A71 aV aY (aN rfl) ⟨_,_,Tryz.func157,rfl⟩ rfl λ_ _ _=>by kernel_rfl
def BGE:aO Tryz.prog 157 AA6:=BIU λd x r h hb=>by
 clear hb;have hp:o5 d=true:=by
  unfold IS at h;split at h
  ·assumption
  ·cases h
 have e:Sh.enc [(true,aB)] (AMX d x)=r:=by
  unfold IS at h;rw[show o5 (d,x).1=true from hp] at h;exact Option.some.inj h
 subst e;clear h;have c:=eV hp;have hd:=w9 (r:=bC) (l:=d.2.1) (z:=3) (b:=40) rfl (eE c.n (by decide));unfold AWU BQ2 BQR BRH BQB BP4;refine dD (r:=bC) (λy=>bZ (dW x) y) (pC c.n) (λX k y hk hy hp hn=>?_) (λh _=>?_)
 ·dsimp only;refine cO (λh=>?_) λh=>hn (aj h);obtain ⟨hi,_⟩:=hp (ai h);refine cO (λh=>by omega) λ_=>⟨hd,?_⟩
  refine eR (r:=bC) (l:=d.2.1.take k++d.2.1.drop (k+1)) (GX (r:=bC) rfl hk c.n) _ ?_;unfold AMX eJ;rw[show List.findIdx (bZ (dW x)) d.2.1=k from hi];rfl
 ·refine ⟨hd,?_⟩;unfold AMX;rw[w5 (is:=bZ (dW x)) h];rfl
def AMZ (d:aA) (x:aQ):aA:=(d.1,d.2.1,eJ (bZ (dW x)) d.2.2.1,d.2.2.2)
def IU (x:aA×aQ):Option T:=match o5 x.1 with
 | true=>some (Sh.enc [(true,aB)] (AMZ x.1 x.2))
 | false=>none
def BK9:Env:=Env.of [(106,.dup 18 208),(286,.grow 18 G8)]
def BLW:FuncId->Hint:=cF 185 [(2,.inv [.val 8 false (.int .i64)])] (λ_=>a6)
def A73:aR Tryz.prog BK9:=aR.cons (x:=.dup 18 208) CD (.cons AHK (.nil _))
def BRI(a0:aA)(y3:List bD):T:=aF true aB (a0.1,a0.2.1,y3,a0.2.2.2.1,a0.2.2.2.2.1,a0.2.2.2.2.2)
def BQ1(a0:aA)(R:T->Prop):Prop:=b7 (((BP5 a0).all λ(r:List T)=>decide (r.length=18)) && decide ((BP5 a0).length*208<=140737488355328) && decide ((BP5 a0).length<=140737488355328)) (R (aF true aB a0))
def AWW(a0:aA)(a1:aQ)(R:T->Prop):Prop:=a8 (Int×PUnit) (λX0 s1=>aD (decide (s1.1<(↑(BP5 a0).length:Int))) (aX aP (BP5 a0) s1.1 λ(y2:bD)=>aD (decide (y2.1=a1.2.1)) (aD (decide (s1.1<0)) (BQ1 a0 R) (b7 (((BP5 a0).all λ(r:List T)=>decide (r.length=18)) && decide ((BP5 a0).length*208<=140737488355328) && decide ((BP5 a0).length<=140737488355328)) (fB aP (G8 (BP5 a0) (BQR s1)) λ(y3:List bD)=>R ((BRI a0 y3))))) (BP4 X0 s1)) (BQ1 a0 R)) (0,())
abbrev A52:Sh:=[(true,aB),(true,aJ)]
def AA8:List T->Option T:=gS A52 IU
def A1R {a0 a1}:AA8 [aF true aB a0,aF true aJ a1]=IU (a0,a1):=bH (s:=A52) rfl (a0,a1) rfl
def BIW:tG Tryz.prog 176 AA8 IU (cQ A52) AWW:=iR (a1:=(true,aB)) (a2:=(true,aJ)) (Hs:=BLW) (k:=8) A73 aV aY (aN rfl) ⟨_,_,Tryz.func176,rfl⟩ rfl λ_ _ _=>by kernel_rfl
def BGG:aO Tryz.prog 176 AA8:=BIW λd x r h hb=>by
 clear hb;have hp:o5 d=true:=by
  unfold IU at h;split at h
  ·assumption
  ·cases h
 have e:Sh.enc [(true,aB)] (AMZ d x)=r:=by
  unfold IU at h;rw[show o5 (d,x).1=true from hp] at h;exact Option.some.inj h
 subst e;clear h;have c:=eV hp;have hd:=w9 (r:=aP) (l:=d.2.2.1) (z:=18) (b:=208) rfl (eE c.p (by decide));unfold AWW BQ1 BQR BRI BP5 BP4;refine dD (r:=aP) (λy=>bZ (dW x) y) (pC c.p) (λX k y hk hy hp hn=>?_) (λh _=>?_)
 ·dsimp only;refine cO (λh=>?_) λh=>hn (aj h);obtain ⟨hi,_⟩:=hp (ai h);refine cO (λh=>by omega) λ_=>⟨hd,?_⟩
  refine eR (r:=aP) (l:=d.2.2.1.take k++d.2.2.1.drop (k+1)) (GX (r:=aP) rfl hk c.p) _ ?_;unfold AMZ eJ;rw[show List.findIdx (bZ (dW x)) d.2.2.1=k from hi];rfl
 ·refine ⟨hd,?_⟩;unfold AMZ;rw[w5 (is:=bZ (dW x)) h];rfl
def AM1 (d:aA) (x:aQ):aA:=(d.1,d.2.1,d.2.2.1,eJ (bZ (dW x)) d.2.2.2.1,d.2.2.2.2)
def IW (x:aA×aQ):Option T:=match o5 x.1 with
 | true=>some (Sh.enc [(true,aB)] (AM1 x.1 x.2))
 | false=>none
def BLB:Env:=Env.of [(104,.dup 6 72),(289,.grow 6 G9)]
def BLY:FuncId->Hint:=cF 282 [(2,.inv [.val 8 false (.int .i64)])] (λ_=>a6)
def A75:aR Tryz.prog BLB:=aR.cons (x:=.dup 6 72) CE (.cons AHL (.nil _))
def BQ3(a0:aA)(R:T->Prop):Prop:=b7 (((BP8 a0).all λ(r:List T)=>decide (r.length=6)) && decide ((BP8 a0).length*72<=140737488355328) && decide ((BP8 a0).length<=140737488355328)) (R (aF true aB a0))
def AWY(a0:aA)(a1:aQ)(R:T->Prop):Prop:=a8 (Int×PUnit) (λX0 s1=>aD (decide (s1.1<(↑(BP8 a0).length:Int))) (aX bI (BP8 a0) s1.1 λ(y2:iH)=>aD (decide (y2.1=a1.2.1)) (aD (decide (s1.1<0)) (BQ3 a0 R) (b7 (((BP8 a0).all λ(r:List T)=>decide (r.length=6)) && decide ((BP8 a0).length*72<=140737488355328) && decide ((BP8 a0).length<=140737488355328)) (fB bI (G9 (BP8 a0) (BQR s1)) λ(y3:List iH)=>R ((BRJ a0 y3))))) (BP4 X0 s1)) (BQ3 a0 R)) (0,())
abbrev A54:Sh:=[(true,aB),(true,aJ)]
def ABA:List T->Option T:=gS A54 IW
def A1T {a0 a1}:ABA [aF true aB a0,aF true aJ a1]=IW (a0,a1):=bH (s:=A54) rfl (a0,a1) rfl
def BIY:tG Tryz.prog 205 ABA IW (cQ A54) AWY:=iR (a1:=(true,aB)) (a2:=(true,aJ)) (Hs:=BLY) (k:=8) A75 aV aY (aN rfl) ⟨_,_,Tryz.func205,rfl⟩ rfl λ_ _ _=>by kernel_rfl
def BGI:aO Tryz.prog 205 ABA:=BIY λd x r h hb=>by
 clear hb;have hp:o5 d=true:=by
  unfold IW at h;split at h
  ·assumption
  ·cases h
 have e:Sh.enc [(true,aB)] (AM1 d x)=r:=by
  unfold IW at h;rw[show o5 (d,x).1=true from hp] at h;exact Option.some.inj h
 subst e;clear h;have c:=eV hp;have hd:=w9 (r:=bI) (l:=d.2.2.2.1) (z:=6) (b:=72) rfl (eE c.s (by decide));unfold AWY BQ3 BQR BRJ BP8 BP4;refine dD (r:=bI) (λy=>bZ (dW x) y) (pC c.s) (λX k y hk hy hp hn=>?_) (λh _=>?_)
 ·dsimp only;refine cO (λh=>?_) λh=>hn (aj h);obtain ⟨hi,_⟩:=hp (ai h);refine cO (λh=>by omega) λ_=>⟨hd,?_⟩
  refine eR (r:=bI) (l:=d.2.2.2.1.take k++d.2.2.2.1.drop (k+1)) (GX (r:=bI) rfl hk c.s) _ ?_;unfold AM1 eJ;rw[show List.findIdx (bZ (dW x)) d.2.2.2.1=k from hi];rfl
 ·refine ⟨hd,?_⟩;unfold AM1;rw[w5 (is:=bZ (dW x)) h];rfl
def WL (d:aA) (x:aQ):aA:=(d.1,d.2.1,d.2.2.1,d.2.2.2.1,eJ (bZ (dW x)) d.2.2.2.2.1,d.2.2.2.2.2)
def z8 (x:aA×aQ):Option T:=match o5 x.1 with
 | true=>some (Sh.enc [(true,aB)] (WL x.1 x.2))
 | false=>none
def BEU:Env:=Env.of [(107,.dup 5 88),(290,.grow 5 mW)]
def BFA:FuncId->Hint:=cF 277 [(2,.inv [.val 8 false (.int .i64)])] (λ_=>a6)
def AVV:aR Tryz.prog BEU:=aR.cons (x:=.dup 5 88) oF (.cons BC (.nil _))
def BQ5(a0:aA)(y3:List bA):T:=aF true aB (a0.1,a0.2.1,a0.2.2.1,a0.2.2.2.1,y3,a0.2.2.2.2.2)
def AF3(a0:aA)(a1:aQ)(R:T->Prop):Prop:=a8 (Int×PUnit) (λX0 s1=>aD (decide (s1.1<(↑(BP3 a0).length:Int))) (aX aH (BP3 a0) s1.1 λ(y2:bA)=>aD (decide (y2.1=a1.2.1)) (aD (decide (s1.1<0)) (b7 (((BP3 a0).all λ(r:List T)=>decide (r.length=5)) && decide ((BP3 a0).length*88<=140737488355328) && decide ((BP3 a0).length<=140737488355328)) (R (aF true aB a0))) (b7 (((BP3 a0).all λ(r:List T)=>decide (r.length=5)) && decide ((BP3 a0).length*88<=140737488355328) && decide ((BP3 a0).length<=140737488355328)) (fB aH (mW (BP3 a0) (BQR s1)) λ(y3:List bA)=>R ((BQ5 a0 y3))))) (BP4 X0 s1)) (b7 (((BP3 a0).all λ(r:List T)=>decide (r.length=5)) && decide ((BP3 a0).length*88<=140737488355328) && decide ((BP3 a0).length<=140737488355328)) (R (aF true aB a0)))) (0,())
abbrev AJV:Sh:=[(true,aB),(true,aJ)]
def OD:List T->Option T:=gS AJV z8
def ARN {a0 a1}:OD [aF true aB a0,aF true aJ a1]=z8 (a0,a1):=bH (s:=AJV) rfl (a0,a1) rfl
def BB6:tG Tryz.prog 226 OD z8 (cQ AJV) AF3:=iR (a1:=(true,aB)) (a2:=(true,aJ)) (Hs:=BFA) (k:=8) AVV aV aY (aN rfl) ⟨_,_,Tryz.func226,rfl⟩ rfl λ_ _ _=>by kernel_rfl
def BAN:aO Tryz.prog 226 OD:=BB6 λd x r h hb=>by
 clear hb;have hp:o5 d=true:=by
  unfold z8 at h;split at h
  ·assumption
  ·cases h
 have e:Sh.enc [(true,aB)] (WL d x)=r:=by
  unfold z8 at h;rw[show o5 (d,x).1=true from hp] at h;exact Option.some.inj h
 subst e;clear h;have c:=eV hp;have hd:=w9 (r:=aH) (l:=d.2.2.2.2.1) (z:=5) (b:=88) rfl (eE c.k (by decide));unfold AF3 BQ5 BQR BP3 BP4;refine dD (r:=aH) (λy=>bZ (dW x) y) (pC c.k) (λX k y hk hy hp hn=>?_) (λh _=>?_)
 ·dsimp only;refine cO (λh=>?_) λh=>hn (aj h);obtain ⟨hi,_⟩:=hp (ai h);refine cO (λh=>by omega) λ_=>⟨hd,?_⟩
  refine eR (r:=aH) (l:=d.2.2.2.2.1.take k++d.2.2.2.2.1.drop (k+1)) (GX (r:=aH) rfl hk c.k) _ ?_;unfold WL eJ;rw[show List.findIdx (bZ (dW x)) d.2.2.2.2.1=k from hi];rfl
 ·refine ⟨hd,?_⟩;unfold WL;rw[w5 (is:=bZ (dW x)) h];rfl
def AMY (d:aA) (x:aQ):aA:=(d.1,d.2.1,eM cJ d.2.2.1 (bW x),d.2.2.2)
def IT (x:aA×aQ):Option T:=match o5 x.1&&dU (bW x.2) with
 | true=>some (Sh.enc [(true,aB)] (AMY x.1 x.2))
 | false=>none
def BK8:Env:=Env.of [(108,.pure e6),(106,.dup 18 208),(285,.grow 18 tZ)]
def BLV:FuncId->Hint:=cF 185 [(2,.inv [.val 8 false (.int .i64)])] (λ_=>a6)
def A72:aR Tryz.prog BK8:=.cons nU (aR.cons (x:=.dup 18 208) CD (.cons AHM (.nil _)))
def BQP(a0:aA)(y0:bD)(R:T->Prop):Prop:=b7 (((BP5 a0).all λ(r:List T)=>decide (r.length=18)) && decide ((BP5 a0).length*208<=140737488355328) && decide ((BP5 a0).length<=140737488355328)) (fB aP (tZ (BP5 a0) [pPP (↑(BP5 a0).length:Int), T.sl true [(aP.enc y0)]]) λ(y4:List bD)=>R ((BRI a0 y4)))
def AWV(a0:aA)(a1:aQ)(R:T->Prop):Prop:=aM [(true,aP)] (e6 [aF true aP a1.2.2.2.2.1]) λ(y0:bD)=>a8 (Int×PUnit) (λX1 s2=>aD (decide (s2.1<(↑(BP5 a0).length:Int))) (aX aP (BP5 a0) s2.1 λ(y3:bD)=>aD (!(cY y3.1 y0.1||decide (y3.1=y0.1))) (aD (decide (s2.1<0)) (BQP a0 y0 R) (b7 (((BP5 a0).all λ(r:List T)=>decide (r.length=18)) && decide ((BP5 a0).length*208<=140737488355328) && decide ((BP5 a0).length<=140737488355328)) (fB aP (tZ (BP5 a0) [pPP s2.1, T.sl true [(aP.enc y0)]]) λ(y5:List bD)=>R ((BRI a0 y5))))) (BP4 X1 s2)) (BQP a0 y0 R)) (0,())
abbrev A51:Sh:=[(true,aB),(true,aJ)]
def AA7:List T->Option T:=gS A51 IT
def A1Q {a0 a1}:AA7 [aF true aB a0,aF true aJ a1]=IT (a0,a1):=bH (s:=A51) rfl (a0,a1) rfl
def BIV:tG Tryz.prog 169 AA7 IT (cQ A51) AWV:=iR (a1:=(true,aB)) (a2:=(true,aJ)) (Hs:=BLV) (k:=8) A72 aV aY (aN rfl) ⟨_,_,Tryz.func169,rfl⟩ rfl λ_ _ _=>by kernel_rfl
def BGF:aO Tryz.prog 169 AA7:=BIV λd x r h hb=>by
 clear hb;have hq:(o5 d&&dU (bW x))=true:=by
  unfold IT at h;split at h
  ·assumption
  ·cases h
 have e:Sh.enc [(true,aB)] (AMY d x)=r:=by
  unfold IT at h;rw[show (o5 (d,x).1&&dU (bW (d,x).2))=true from hq] at h;exact Option.some.inj h
 subst e;clear h;rw[ac] at hq;obtain ⟨hp,ho⟩:=hq;have c:=eV hp;have hd:=w9 (r:=aP) (l:=d.2.2.1) (z:=18) (b:=208) rfl (eE c.p (by decide));unfold AWV BQP BRI BP5 BP4;refine aK (s:=[(true,aP)]) (y:=bW x) ((pM ..).trans (by unfold iO;rw[ho])) ?_;refine dD (r:=aP) (λy=>cJ y (bW x)) (pC c.p) (λX k y hk hy hp hn=>?_) (λh _=>?_)
 ·dsimp only;rw[qJ];refine DQ (λh=>?_) λh=>hn h;obtain ⟨hi,_⟩:=hp h;refine cO (λh=>by omega) λ_=>⟨hd,?_⟩
  refine eR (r:=aP) (l:=d.2.2.1.take k++bW x::d.2.2.1.drop k) (sX (r:=aP) (x:=bW x) rfl (by omega) c.p (by decide)) _ ?_;unfold AMY eM;rw[hi];rfl
 ·refine ⟨hd,?_⟩;rw[show (((List.map (aP).enc d.2.2.1).length:Nat):Int)=(((d.2.2.1).length:Nat):Int) by rw[ae]];refine eR (r:=aP) (l:=d.2.2.1.take (d.2.2.1).length++bW x::d.2.2.1.drop (d.2.2.1).length) (sX (r:=aP) (x:=bW x) rfl (al _) c.p (by decide)) _ ?_;unfold AMY eM;rw[h];rfl
def AM2 (d:aA) (x:aQ):aA:=(d.1,d.2.1,d.2.2.1,d.2.2.2.1,eM cJ d.2.2.2.2.1 (eF x),d.2.2.2.2.2)
def IX (x:aA×aQ):Option T:=match o5 x.1&&dL (eF x.2) with
 | true=>some (Sh.enc [(true,aB)] (AM2 x.1 x.2))
 | false=>none
def BLC:Env:=Env.of [(109,.pure jZ),(107,.dup 5 88),(292,.grow 5 mX)]
def BLZ:FuncId->Hint:=cF 277 [(2,.inv [.val 8 false (.int .i64)])] (λ_=>a6)
def A76:aR Tryz.prog BLC:=.cons CA (aR.cons (x:=.dup 5 88) oF (.cons QU (.nil _)))
def BQQ(y0:bA):List T:=[pPQ y0.1,pPQ y0.2.1, T.sl false (BQ8 y0), pPP y0.2.2.2.1, T.sl false (BQV y0)]
def BRP(a0:aA)(y0:bA)(R:T->Prop):Prop:=fB aH (mX (BP3 a0) [pPP (↑(BP3 a0).length:Int), T.sl true [(BQQ y0)]]) λ(y4:List bA)=>R ((BQ5 a0 y4))
def AWZ(a0:aA)(a1:aQ)(R:T->Prop):Prop:=aM [(true,aH)] (jZ [aF true aH a1.2.2.2.2.2.2.1]) λ(y0:bA)=>a8 (Int×PUnit) (λX1 s2=>aD (decide (s2.1<(↑(BP3 a0).length:Int))) (aX aH (BP3 a0) s2.1 λ(y3:bA)=>aD (!(cY y3.1 y0.1||decide (y3.1=y0.1))) (aD (decide (s2.1<0)) (b7 (((BP3 a0).all λ(r:List T)=>decide (r.length=5)) && decide ((BP3 a0).length*88<=140737488355328) && decide ((BP3 a0).length<=140737488355328)) (BRP a0 y0 R)) (b7 (((BP3 a0).all λ(r:List T)=>decide (r.length=5)) && decide ((BP3 a0).length*88<=140737488355328) && decide ((BP3 a0).length<=140737488355328)) (fB aH (mX (BP3 a0) [pPP s2.1, T.sl true [(BQQ y0)]]) λ(y5:List bA)=>R ((BQ5 a0 y5))))) (BP4 X1 s2)) (b7 (((BP3 a0).all λ(r:List T)=>decide (r.length=5)) && decide ((BP3 a0).length*88<=140737488355328) && decide ((BP3 a0).length<=140737488355328)) (BRP a0 y0 R))) (0,())
abbrev A55:Sh:=[(true,aB),(true,aJ)]
def ABB:List T->Option T:=gS A55 IX
def A1U {a0 a1}:ABB [aF true aB a0,aF true aJ a1]=IX (a0,a1):=bH (s:=A55) rfl (a0,a1) rfl
def BIZ:tG Tryz.prog 218 ABB IX (cQ A55) AWZ:=iR (a1:=(true,aB)) (a2:=(true,aJ)) (Hs:=BLZ) (k:=8) A76 aV aY (aN rfl) ⟨_,_,Tryz.func218,rfl⟩ rfl λ_ _ _=>by kernel_rfl
def BGJ:aO Tryz.prog 218 ABB:=BIZ λd x r h hb=>by
 clear hb;have hq:(o5 d&&dL (eF x))=true:=by
  unfold IX at h;split at h
  ·assumption
  ·cases h
 have e:Sh.enc [(true,aB)] (AM2 d x)=r:=by
  unfold IX at h;rw[show (o5 (d,x).1&&dL (eF (d,x).2))=true from hq] at h;exact Option.some.inj h
 subst e;clear h;rw[ac] at hq;obtain ⟨hp,ho⟩:=hq;have c:=eV hp;have hd:=w9 (r:=aH) (l:=d.2.2.2.2.1) (z:=5) (b:=88) rfl (eE c.k (by decide));unfold AWZ BRP BQ5 BQQ BQV BQ8 BP3 BP4;refine aK (s:=[(true,aH)]) (y:=eF x) ((vE ..).trans (by unfold jM;rw[ho])) ?_;refine dD (r:=aH) (λy=>cJ y (eF x)) (pC c.k) (λX k y hk hy hp hn=>?_) (λh _=>?_)
 ·dsimp only;rw[qJ];refine DQ (λh=>?_) λh=>hn h;obtain ⟨hi,_⟩:=hp h;refine cO (λh=>by omega) λ_=>⟨hd,?_⟩
  refine eR (r:=aH) (l:=d.2.2.2.2.1.take k++eF x::d.2.2.2.2.1.drop k) (sX (r:=aH) (x:=eF x) rfl (by omega) c.k (by decide)) _ ?_;unfold AM2 eM;rw[hi];rfl
 ·refine ⟨hd,?_⟩;rw[show (((List.map (aH).enc d.2.2.2.2.1).length:Nat):Int)=(((d.2.2.2.2.1).length:Nat):Int) by rw[ae]];refine eR (r:=aH) (l:=d.2.2.2.2.1.take (d.2.2.2.2.1).length++eF x::d.2.2.2.2.1.drop (d.2.2.2.2.1).length) (sX (r:=aH) (x:=eF x) rfl (al _) c.k (by decide)) _ ?_;unfold AM2 eM;rw[h];rfl
def OA:List T->Option T:=cI
def ALZ:MJ Tryz.prog 69 2 OA :=
 A46 (E:=AET) (Hs:=AGK) YU aV aY (aN rfl) 8 ⟨_,_,Tryz.func69,rfl⟩ (s:=PF) rfl λd r h hb=>by
  have hp:o5 d=true:=by
   unfold sE at h;split at h
   ·assumption
   ·cases h
  have e:Sh.enc [(true,aB)] d=r:=by
   unfold sE at h;rw[hp] at h;exact Option.some.inj h
  subst e;rw[show YD bX Tryz.prog AET AGK 8 2 69 (Sh.l6 PF d) (λy=>y=Sh.enc [(true,aB)] d)=LU d (λy=>y=Sh.enc [(true,aB)] d) from by kernel_rfl];exact AZX hp
def XW (x:aQ):Option T:=some (Sh.enc [(true,aJ)] ((x.1,bJ,bJ,bR,bW x,bS,noPack,cK):aQ))
def BLJ:Env:=Env.of []
def BL6:FuncId->Hint:=λ_=>a6
def A8R:aR Tryz.prog BLJ:=.nil _
def AXY(a0:aQ)(R:T->Prop):Prop:=R (T.agg [pPP a0.1,pPQ ({data:=#[]}), pPQ ({data:=#[]}),pPQ ({data:=#[]}), pPP 0,pPQ ({data:=#[]}), pPQ a0.2.2.2.2.1.1, pPP a0.2.2.2.2.1.2.1, pPP a0.2.2.2.2.1.2.2.1, pPQ a0.2.2.2.2.1.2.2.2.1, pPQ a0.2.2.2.2.1.2.2.2.2.1, pPP a0.2.2.2.2.1.2.2.2.2.2.1, T.sl false (List.map aC.enc a0.2.2.2.2.1.2.2.2.2.2.2.1.1), T.sl false (List.map aC.li.enc a0.2.2.2.2.1.2.2.2.2.2.2.1.2), pPQ a0.2.2.2.2.1.2.2.2.2.2.2.2.1, pPP a0.2.2.2.2.1.2.2.2.2.2.2.2.2.1, pPP a0.2.2.2.2.1.2.2.2.2.2.2.2.2.2.1, pPP a0.2.2.2.2.1.2.2.2.2.2.2.2.2.2.2.1.1, pPP a0.2.2.2.2.1.2.2.2.2.2.2.2.2.2.2.1.2.1, pPP a0.2.2.2.2.1.2.2.2.2.2.2.2.2.2.2.1.2.2, pPP a0.2.2.2.2.1.2.2.2.2.2.2.2.2.2.2.2.1.1, pPP a0.2.2.2.2.1.2.2.2.2.2.2.2.2.2.2.2.1.2.1, pPP a0.2.2.2.2.1.2.2.2.2.2.2.2.2.2.2.2.1.2.2, pPP a0.2.2.2.2.1.2.2.2.2.2.2.2.2.2.2.2.2, pPQ ({data:=#[]}),pPQ ({data:=#[]}), pPQ ({data:=#[]}),pPP 0, pPP 0,pPP 0, pPQ ({data:=#[]}),pPQ ({data:=#[]}),T.sl false [], pPP 0,T.sl false [],pPP 0, pPQ ({data:=#[]}),pPQ ({data:=#[]})])
abbrev A6C:Sh:=[(true,aJ)]
def SM:List T->Option T:=gS A6C XW
def A2Q {a0}:SM [aF true aJ a0]=XW (a0):=bH (s:=A6C) rfl (a0) rfl
def BJK:yW Tryz.prog 181 SM XW (cQ A6C) AXY:=kW (a1:=(true,aJ)) (Hs:=BL6) (k:=8) A8R aV aY (aN rfl) ⟨_,_,Tryz.func181,rfl⟩ rfl λ_ _=>by kernel_rfl
def BG7:aO Tryz.prog 181 SM:=BJK λx r h hb=>by
 cases h;unfold AXY;rfl
def XX (x:aQ):Option T:=some (Sh.enc [(true,aJ)] ((x.1,dW x,eTo x,bR,bL,bS,noPack,cK):aQ))
def BLK:Env:=Env.of []
def BL7:FuncId->Hint:=λ_=>a6
def A8S:aR Tryz.prog BLK:=.nil _
def AXZ(a0:aQ)(R:T->Prop):Prop:=R (T.agg [pPP a0.1,pPQ a0.2.1, pPQ a0.2.2.1,pPQ ({data:=#[]}), pPP 0,pPQ ({data:=#[]}), pPQ ({data:=#[]}),pPP 0, pPP 0,pPQ ({data:=#[]}), pPQ ({data:=#[]}),pPP 0,T.sl false [], T.sl false [],pPQ ({data:=#[]}),pPP 0, pPP 0,pPP 0, pPP 0,pPP 0, pPP 0,pPP 0, pPP 0,pPP 0, pPQ ({data:=#[]}),pPQ ({data:=#[]}), pPQ ({data:=#[]}),pPP 0, pPP 0,pPP 0, pPQ ({data:=#[]}),pPQ ({data:=#[]}),T.sl false [], pPP 0,T.sl false [],pPP 0, pPQ ({data:=#[]}),pPQ ({data:=#[]})])
abbrev A6D:Sh:=[(true,aJ)]
def SN:List T->Option T:=gS A6D XX
def A2R {a0}:SN [aF true aJ a0]=XX (a0):=bH (s:=A6D) rfl (a0) rfl
def BJL:yW Tryz.prog 189 SN XX (cQ A6D) AXZ:=kW (a1:=(true,aJ)) (Hs:=BL7) (k:=8) A8S aV aY (aN rfl) ⟨_,_,Tryz.func189,rfl⟩ rfl λ_ _=>by kernel_rfl
def BG8:aO Tryz.prog 189 SN:=BJL λx r h hb=>by
 cases h;unfold AXZ;rfl
def okX (d:aA) (x:aQ):Bool:=o5 d&&(dU (bW x)&&dL (eF x))
def vP {d:aA} {x:aQ} (h:okX d x=true):o5 d=true/\dU (bW x)=true/\dL (eF x)=true:=by
 unfold okX at h;rw[ac,ac] at h;exact h
def eT (k:Int) (x y:fR) (h:([aF true aB x.1,aF true aI x.2.1,aF true aJ (k,x.2.2)]:List T)=[aF true aB y.1,aF true aI y.2.1,aF true aJ (k,y.2.2)]):x=y:=by
 simp only[List.cons.injEq,and_true] at h;obtain ⟨h1,h2,h3⟩:=h;exact Prod.ext (mT (r:=aB) rfl h1) (Prod.ext (mT (r:=aI) rfl h2) (Prod.mk.inj (mT (r:=aJ) rfl h3)).2)
def fF {c:Bool} {a:T}:c=true->(match c with|true=>some a|false=>none)=some a:=λh=>by rw[h]
def qA (no:α) (o:Option α):(found no o).2=o.isSome:=by cases o<;>rfl
variable {m:aE}
def DW {d:aA} {x:aQ} (hk:1<=x.1/\x.1<=12) (h:pE x (dE x)=false):bO d m x=(iP,2):=by
 unfold bO;rw[if_neg (λh=>h hk),if_pos (.inl h)]
def RH {d:aA} {x:aQ} (hk:1<=x.1/\x.1<=12) (h5:¬ x.1=5) (h:pE x (dE x)=true) (ha:fW x=true) (ht:cN d x=true):bO d m x=(iP,7):=by
 unfold bO;rw[if_neg (λh=>h hk),if_neg (λe=>e.elim (λe=>by rw[h] at e;cases e) λe=>h5 e.1),if_pos ⟨ha,ht⟩]
def MS {d:aA} {x:aQ} (hk:1<=x.1/\x.1<=12) (h5:¬ x.1=5) (h:pE x (dE x)=true) (ha:fW x=false) (ht:cN d x=false):bO d m x=(iP,8):=by
 unfold bO;rw[if_neg (λh=>h hk),if_neg (λe=>e.elim (λe=>by rw[h] at e;cases e) λe=>h5 e.1),if_neg (λe=>by rw[ha] at e;cases e.1),if_pos ⟨ha,ht⟩]
def AZF {d:aA} {x:aQ} (hk:1<=x.1/\x.1<=12) (h5:¬ x.1=5) (h:pE x (dE x)=true) (ha:cN d x = !fW x) (hu:jY d x=true):bO d m x=(iP,34):=by
 unfold bO;rw[if_neg (λh=>h hk),if_neg (λe=>e.elim (λe=>by rw[h] at e;cases e) λe=>h5 e.1),if_neg (λe=>by rw[ha,e.1] at e;cases e.2),if_neg (λe=>by rw[ha,e.1] at e;cases e.2),if_neg (λe=>h5 e.1),if_pos hu]
def u5 {d:aA} {x:aQ} (hk:1<=x.1/\x.1<=12) (h5:¬ x.1=5) (h:pE x (dE x)=true) (ha:cN d x = !fW x) (hu:jY d x=false):bO d m x=if fX (eQ d x) m=0 then (eQ d x,0) else (iP,fX (eQ d x) m):=by
 unfold bO;rw[if_neg (λh=>h hk),if_neg (λe=>e.elim (λe=>by rw[h] at e;cases e) λe=>h5 e.1),if_neg (λe=>by rw[ha,e.1] at e;cases e.2),if_neg (λe=>by rw[ha,e.1] at e;cases e.2),if_neg (λe=>h5 e.1),if_neg (by rw[hu];decide)]
def spAp (k:Int) (x:fR):Option T:=match okX x.1 (k,x.2.2) with
 | true=>some (Sh.enc [(true,aB),(false,.int .i64)] (bO x.1 x.2.1 (k,x.2.2)))
 | false=>none
section
variable {k : Int} {d : aA} {m : aE} {x : bV} {r : T}
variable {gd:List T->Option T}
def ap_end (hre:r=Sh.enc [(true,aB),(false,.int .i64)] (bO d m (k,x))) (hk:1<=k/\k<=12) (h5:¬ k=5) (hE:pE (k,x) (dE (k,x))=true) (hth:cN d (k,x) = !fW (k,x)) (hus:jY d (k,x)=false) (hc:o5 d=true)
  (zd:gd [aF true aB d,aF true aJ (k,x)]=some (Sh.enc [(true,aB)] (eQ d (k,x)))) :
  aM [(true,aB)] (cI [aF true aB d]) λ(y3:aA)=>aM [(true,aB)] (gd [aF true aB y3,aF true aJ (k,x)]) λ(y4:aA)=>aM [(false,.int .i64)] (cV [aF true aB y4,aF true aI m]) λ(y5:Int) =>
   aD (!decide (y5=0)) (T.bY [aF true aB iP,T.v (Value.int .i64 y5)]=r) (T.bY [aF true aB y4,T.v (Value.int .i64 0)]=r):=by
 subst hre;refine aK (s:=[(true,aB)]) (y:=d) ((qC ..).trans (fF hc)) ?_;refine aK (s:=[(true,aB)]) (y:=eQ d (k,x)) zd ?_;refine aK (s:=[(false,.int .i64)]) (y:=fX (eQ d (k,x)) m) (nV ..) ?_;exact lK (λh=>by rw[(u5 hk h5 hE hth hus).trans (if_neg h)];rfl) λh=>by rw[(u5 hk h5 hE hth hus).trans (if_pos h)];rfl
variable {g:List T->Option T}
def ap_start (h:spAp k (d,m,x)=some r) (hk:1<=k/\k<=12) (z1:g [aF true aJ (k,x)]=some (Sh.enc [(true,aJ)] (dE (k,x)))) {REST:Prop}
  (hr:o5 d=true->dU (bW (k,x))=true->dL (eF (k,x))=true->r=Sh.enc [(true,aB),(false,.int .i64)] (bO d m (k,x))->pE (k,x) (dE (k,x))=true->REST) :
  aM [(true,aJ)] (g [aF true aJ (k,x)]) λ(y0:aQ)=>aM [(false,Sy.bool)] (dB [aF true aJ (k,x),aF true aJ y0]) λ(y1:Bool)=>aD (!y1) (T.bY [aF true aB iP,T.v (Value.int .i64 2)]=r) REST:=by
 obtain ⟨hp,hre⟩:=l8 h;obtain ⟨hc,ho1,ho2⟩:=vP hp;refine aK (s:=[(true,aJ)]) (y:=dE (k,x)) z1 ?_;refine aK (s:=qF) (y:=pE (k,x) (dE (k,x))) (qZ ..) ?_;exact lD (λh=>by rw[<-hre,show bO d m (k,x)=_ from DW hk h];rfl) λhE=>hr hc ho1 ho2 hre.symm hE
variable {r0:Sy}{gx:Option T}
def ap_add (h:spAp k (d,m,x)=some r) (hk:1<=k/\k<=12) (h5:¬ k=5) (ha:fW (k,x)=true) (hus:jY d (k,x)=false) (z1:g [aF true aJ (k,x)]=some (Sh.enc [(true,aJ)] (dE (k,x)))) {no:r0.den} {o:Option r0.den}
  (zx:o5 d=true->gx=some (Sh.enc [(true,r0),(false,.bool)] (found no o))) (ht:cN d (k,x)=o.isSome)
  (zd:o5 d=true->dU (bW (k,x))=true->dL (eF (k,x))=true->gd [aF true aB d,aF true aJ (k,x)]=some (Sh.enc [(true,aB)] (eQ d (k,x)))) :
  aM [(true,aJ)] (g [aF true aJ (k,x)]) λ(y0:aQ)=>aM [(false,Sy.bool)] (dB [aF true aJ (k,x),aF true aJ y0]) λ(y1:Bool)=>aD (!y1) (T.bY [aF true aB iP,T.v (Value.int .i64 2)]=r)
   (aM [(true,r0),(false,.bool)] gx λ(y2:r0.den×Bool)=>aD y2.2 (T.bY [aF true aB iP,T.v (Value.int .i64 7)]=r)
    (aM [(true,aB)] (cI [aF true aB d]) λ(y3:aA)=>aM [(true,aB)] (gd [aF true aB y3,aF true aJ (k,x)]) λ(y4:aA)=>aM [(false,.int .i64)] (cV [aF true aB y4,aF true aI m]) λ(y5:Int) =>
     aD (!decide (y5=0)) (T.bY [aF true aB iP,T.v (Value.int .i64 y5)]=r) (T.bY [aF true aB y4,T.v (Value.int .i64 0)]=r))) :=
 ap_start h hk z1 λhc ho1 ho2 hre hE=>by
  refine aK (s:=[(true,r0),(false,.bool)]) (y:=found no o) (zx hc) ?_;have ht:=ht.trans (qA no o).symm;refine DQ (λh=>by rw[hre,show bO d m (k,x)=_ from RH hk h5 hE ha (ht.trans h)];rfl) λh=>?_;exact ap_end hre hk h5 hE (by rw[ha,ht,h];rfl) hus hc (zd hc ho1 ho2)
def ap_rem (h:spAp k (d,m,x)=some r) (hk:1<=k/\k<=12) (h5:¬ k=5) (ha:fW (k,x)=false) {gu:List T->Option T} (z1:g [aF true aJ (k,x)]=some (Sh.enc [(true,aJ)] (dE (k,x)))) {no:r0.den} {o:Option r0.den}
  (zx:o5 d=true->gx=some (Sh.enc [(true,r0),(false,.bool)] (found no o))) (ht:cN d (k,x)=o.isSome) (zu:o5 d=true->gu [aF true aB d,aF true aJ (k,x)]=some (Sh.enc qF (jY d (k,x))))
  (zd:o5 d=true->gd [aF true aB d,aF true aJ (k,x)]=some (Sh.enc [(true,aB)] (eQ d (k,x)))) :
  aM [(true,aJ)] (g [aF true aJ (k,x)]) λ(y0:aQ)=>aM [(false,Sy.bool)] (dB [aF true aJ (k,x),aF true aJ y0]) λ(y1:Bool)=>aD (!y1) (T.bY [aF true aB iP,T.v (Value.int .i64 2)]=r)
   (aM [(true,r0),(false,.bool)] gx λ(y2:r0.den×Bool)=>aD (!y2.2) (T.bY [aF true aB iP,T.v (Value.int .i64 8)]=r)
    (aM [(false,Sy.bool)] (gu [aF true aB d,aF true aJ (k,x)]) λ(u:Bool)=>aD u (T.bY [aF true aB iP,T.v (Value.int .i64 34)]=r)
    (aM [(true,aB)] (cI [aF true aB d]) λ(y3:aA)=>aM [(true,aB)] (gd [aF true aB y3,aF true aJ (k,x)]) λ(y4:aA)=>aM [(false,.int .i64)] (cV [aF true aB y4,aF true aI m]) λ(y5:Int) =>
     aD (!decide (y5=0)) (T.bY [aF true aB iP,T.v (Value.int .i64 y5)]=r) (T.bY [aF true aB y4,T.v (Value.int .i64 0)]=r)))) :=
 ap_start h hk z1 λhc ho1 ho2 hre hE=>by
  refine aK (s:=[(true,r0),(false,.bool)]) (y:=found no o) (zx hc) ?_;have ht:=ht.trans (qA no o).symm;refine lD (λh=>by rw[hre,show bO d m (k,x)=_ from MS hk h5 hE ha (ht.trans h)];rfl) λh=>?_;have hth:cN d (k,x) = !fW (k,x):=by rw[ha,ht,h];rfl
  refine aK (s:=qF) (y:=jY d (k,x)) (zu hc) ?_;refine DQ (λh=>by rw[hre,show bO d m (k,x)=_ from AZF hk h5 hE hth h];rfl) λhus=>?_;exact ap_end hre hk h5 hE hth hus hc (zd hc)
end
def KW (a0:aA) (a1:aE) (a2:bV):List T:=[aF true aB a0,aF true aI a1,aF true aJ (1,a2)]
def AUA:Env:=Env.of [(93,.pure dB),(147,.pure ABP),(149,.pure sU),(69,.pure cI),(150,.pure AA5),(65,.pure cV)]
def BC9:FuncId->Hint:=λ_=>a6
def A7R:aR Tryz.prog AUA:=.cons jR (.cons BG3 (.cons VF (.cons e9 (.cons BGD (.cons j7 (.nil _))))))
def BPF:T:=aF true aB (bJ,[],[],[],[],[])
def BQ4(R:T->Prop)(y10:Int):Prop:=R (T.bY [BPF, pPP y10])
def BP9(y4:aA)(a1:aE)(R:T->Prop):Prop:=aM BPG (cV [aF true aB y4,aF true aI a1]) λ(y5:Int)=>aD (!decide (y5=0)) (BQ4 R y5) (R (T.bY [aF true aB y4,pPP 0]))
def BQM(R:T->Prop):Prop:=R (T.bY [BPF, pPP 2])
def BRE(R:T->Prop):Prop:=R (T.bY [BPF, pPP 7])
def AWB(a0:aA)(a1:aE)(a2:bV)(R:T->Prop):Prop:=aM [(true,aJ)] (ABP [(aF true aJ (1,a2))]) λ(y0:aQ)=>aM BPI (dB [(aF true aJ (1,a2)), aF true aJ y0]) λ(y1:Bool)=>aD (!y1) (BQM R) (aM [(true,bC),(false,Sy.bool)] (sU [aF true aB a0,pPQ a2.2.2.1.1]) λ(y2:fQ×Bool)=>aD y2.2 (BRE R) (aM [(true,aB)] (cI [aF true aB a0]) λ(y3:aA)=>aM [(true,aB)] (AA5 [aF true aB y3, (aF true aJ (1,a2))]) λ(y4:aA)=>BP9 y4 a1 R))
def AWC ( a0 a1 a2 R):dM bX Tryz.prog AUA BC9 8 66 (KW a0 a1 a2) R=AWB a0 a1 a2 R:=by kernel_rfl
def AJ9:fR->Option T:=spAp 1
def ANN (x y:fR) (h:KW x.1 x.2.1 x.2.2=KW y.1 y.2.1 y.2.2):x=y:=eT 1 x y h
def A06:List T->Option (T):=gA (λ(x:aA×aE×bV)=>KW x.1 x.2.1 x.2.2) AJ9
def A07 (a0:aA) (a1:aE) (a2:bV):A06 (KW a0 a1 a2)=AJ9 (a0,a1,a2):=dY (A:=(λ(x:aA×aE×bV)=>KW x.1 x.2.1 x.2.2)) ANN (a0,a1,a2)
def BIK (h:∀ (a0:aA) (a1:aE) (a2:bV) (r:T),AJ9 (a0,a1,a2)=some r->(∀ t∈KW a0 a1 a2,Bd t)->AWB a0 a1 a2 (λy=>y=r)):aO Tryz.prog 66 A06 :=
 cE (E:=AUA) (Hs:=BC9) A7R aV aY (aN rfl) 8 ⟨_,_,Tryz.func66,rfl⟩ λx r h1 h2=>by
  rw[AWC];exact h x.1 x.2.1 x.2.2 r h1 h2
def A0L:aO Tryz.prog 66 A06:=BIK λd m x r h hb=>by
 unfold AWB BRE BQM BP9 BQ4 BPI BPG BPF;exact ap_add h (by decide) (by decide) rfl rfl ((A2M ..).trans rfl) (no:=bR) (λ_=>HB ..) rfl (λhc _ _=>(A1O ..).trans (fF hc))
def KY (a0:aA) (a1:aE) (a2:bV):List T:=[aF true aB a0,aF true aI a1,aF true aJ (3,a2)]
def AUC:Env:=Env.of [(93,.pure dB),(167,.pure ABR),(94,.pure fZ),(69,.pure cI),(169,.pure AA7),(65,.pure cV)]
def BDB:FuncId->Hint:=λ_=>a6
def A7T:aR Tryz.prog AUC:=.cons jR (.cons BG5 (.cons qV (.cons e9 (.cons BGF (.cons j7 (.nil _))))))
def BPR:Sh:=[(true,aP),(false,Sy.bool)]
def BRY(a0:aA)(a2:bV):List T:=[aF true aB a0,pPQ a2.2.2.2.1.1]
def AWF(a0:aA)(a1:aE)(a2:bV)(R:T->Prop):Prop:=aM [(true,aJ)] (ABR [(aF true aJ (3,a2))]) λ(y0:aQ)=>aM BPI (dB [(aF true aJ (3,a2)), aF true aJ y0]) λ(y1:Bool)=>aD (!y1) (BQM R) (aM BPR (fZ (BRY a0 a2)) λ(y2:bD×Bool)=>aD y2.2 (BRE R) (aM [(true,aB)] (cI [aF true aB a0]) λ(y3:aA)=>aM [(true,aB)] (AA7 [aF true aB y3, (aF true aJ (3,a2))]) λ(y4:aA)=>BP9 y4 a1 R))
def AWG ( a0 a1 a2 R):dM bX Tryz.prog AUC BDB 8 66 (KY a0 a1 a2) R=AWF a0 a1 a2 R:=by kernel_rfl
def AKB:fR->Option T:=spAp 3
def ANP (x y:fR) (h:KY x.1 x.2.1 x.2.2=KY y.1 y.2.1 y.2.2):x=y:=eT 3 x y h
def A1A:List T->Option (T):=gA (λ(x:aA×aE×bV)=>KY x.1 x.2.1 x.2.2) AKB
def A1B (a0:aA) (a1:aE) (a2:bV):A1A (KY a0 a1 a2)=AKB (a0,a1,a2):=dY (A:=(λ(x:aA×aE×bV)=>KY x.1 x.2.1 x.2.2)) ANP (a0,a1,a2)
def BIM (h:∀ (a0:aA) (a1:aE) (a2:bV) (r:T),AKB (a0,a1,a2)=some r->(∀ t∈KY a0 a1 a2,Bd t)->AWF a0 a1 a2 (λy=>y=r)):aO Tryz.prog 66 A1A :=
 cE (E:=AUC) (Hs:=BDB) A7T aV aY (aN rfl) 8 ⟨_,_,Tryz.func66,rfl⟩ λx r h1 h2=>by
  rw[AWG];exact h x.1 x.2.1 x.2.2 r h1 h2
def BF6:aO Tryz.prog 66 A1A:=BIM λd m x r h hb=>by
 unfold AWF BRY BRE BQM BP9 BQ4 BPR BPI BPG BPF;exact ap_add h (by decide) (by decide) rfl rfl ((A2O ..).trans rfl) (no:=bL) (λhc=>(nW ..).trans (by unfold kN;dsimp only;rw[(eV hc).A0];rfl)) rfl (λhc h1 _=>(A1Q ..).trans (fF (by rw[hc,h1];rfl)))
def K2 (a0:aA) (a1:aE) (a2:bV):List T:=[aF true aB a0,aF true aI a1,aF true aJ (7,a2)]
def AUG:Env:=Env.of [(93,.pure dB),(195,.pure ABT),(197,.pure sW),(69,.pure cI),(198,.pure AA9),(65,.pure cV)]
def BDF:FuncId->Hint:=λ_=>a6
def A7X:aR Tryz.prog AUG:=.cons jR (.cons BG9 (.cons VH (.cons e9 (.cons BGH (.cons j7 (.nil _))))))
def AWN(a0:aA)(a1:aE)(a2:bV)(R:T->Prop):Prop:=aM [(true,aJ)] (ABT [(aF true aJ (7,a2))]) λ(y0:aQ)=>aM BPI (dB [(aF true aJ (7,a2)), aF true aJ y0]) λ(y1:Bool)=>aD (!y1) (BQM R) (aM [(true,bI),(false,Sy.bool)] (sW [aF true aB a0,pPQ a2.2.2.2.2.1.1]) λ(y2:iH×Bool)=>aD y2.2 (BRE R) (aM [(true,aB)] (cI [aF true aB a0]) λ(y3:aA)=>aM [(true,aB)] (AA9 [aF true aB y3, (aF true aJ (7,a2))]) λ(y4:aA)=>BP9 y4 a1 R))
def AWO ( a0 a1 a2 R):dM bX Tryz.prog AUG BDF 8 66 (K2 a0 a1 a2) R=AWN a0 a1 a2 R:=by kernel_rfl
def AKF:fR->Option T:=spAp 7
def ANT (x y:fR) (h:K2 x.1 x.2.1 x.2.2=K2 y.1 y.2.1 y.2.2):x=y:=eT 7 x y h
def A1I:List T->Option (T):=gA (λ(x:aA×aE×bV)=>K2 x.1 x.2.1 x.2.2) AKF
def A1J (a0:aA) (a1:aE) (a2:bV):A1I (K2 a0 a1 a2)=AKF (a0,a1,a2):=dY (A:=(λ(x:aA×aE×bV)=>K2 x.1 x.2.1 x.2.2)) ANT (a0,a1,a2)
def BIQ (h:∀ (a0:aA) (a1:aE) (a2:bV) (r:T),AKF (a0,a1,a2)=some r->(∀ t∈K2 a0 a1 a2,Bd t)->AWN a0 a1 a2 (λy=>y=r)):aO Tryz.prog 66 A1I :=
 cE (E:=AUG) (Hs:=BDF) A7X aV aY (aN rfl) 8 ⟨_,_,Tryz.func66,rfl⟩ λx r h1 h2=>by
  rw[AWO];exact h x.1 x.2.1 x.2.2 r h1 h2
def BGA:aO Tryz.prog 66 A1I:=BIQ λd m x r h hb=>by
 unfold AWN BRE BQM BP9 BQ4 BPI BPG BPF;exact ap_add h (by decide) (by decide) rfl rfl ((A2S ..).trans rfl) (no:=bS) (λ_=>HD ..) rfl (λhc _ _=>(A1S ..).trans (fF hc))
def K4 (a0:aA) (a1:aE) (a2:bV):List T:=[aF true aB a0,aF true aI a1,aF true aJ (9,a2)]
def AUI:Env:=Env.of [(93,.pure dB),(215,.pure ABV),(217,.pure sV),(69,.pure cI),(218,.pure ABB),(65,.pure cV)]
def BDH:FuncId->Hint:=λ_=>a6
def A7Z:aR Tryz.prog AUI:=.cons jR (.cons BHB (.cons VG (.cons e9 (.cons BGJ (.cons j7 (.nil _))))))
def AWR(a0:aA)(a1:aE)(a2:bV)(R:T->Prop):Prop:=aM [(true,aJ)] (ABV [(aF true aJ (9,a2))]) λ(y0:aQ)=>aM BPI (dB [(aF true aJ (9,a2)), aF true aJ y0]) λ(y1:Bool)=>aD (!y1) (BQM R) (aM [(true,aH),(false,Sy.bool)] (sV [aF true aB a0,pPQ a2.2.2.2.2.2.1.1]) λ(y2:bA×Bool)=>aD y2.2 (BRE R) (aM [(true,aB)] (cI [aF true aB a0]) λ(y3:aA)=>aM [(true,aB)] (ABB [aF true aB y3, (aF true aJ (9,a2))]) λ(y4:aA)=>BP9 y4 a1 R))
def AWS ( a0 a1 a2 R):dM bX Tryz.prog AUI BDH 8 66 (K4 a0 a1 a2) R=AWR a0 a1 a2 R:=by kernel_rfl
def AKH:fR->Option T:=spAp 9
def ANV (x y:fR) (h:K4 x.1 x.2.1 x.2.2=K4 y.1 y.2.1 y.2.2):x=y:=eT 9 x y h
def A1M:List T->Option (T):=gA (λ(x:aA×aE×bV)=>K4 x.1 x.2.1 x.2.2) AKH
def A1N (a0:aA) (a1:aE) (a2:bV):A1M (K4 a0 a1 a2)=AKH (a0,a1,a2):=dY (A:=(λ(x:aA×aE×bV)=>K4 x.1 x.2.1 x.2.2)) ANV (a0,a1,a2)
def BIS (h:∀ (a0:aA) (a1:aE) (a2:bV) (r:T),AKH (a0,a1,a2)=some r->(∀ t∈K4 a0 a1 a2,Bd t)->AWR a0 a1 a2 (λy=>y=r)):aO Tryz.prog 66 A1M :=
 cE (E:=AUI) (Hs:=BDH) A7Z aV aY (aN rfl) 8 ⟨_,_,Tryz.func66,rfl⟩ λx r h1 h2=>by
  rw[AWS];exact h x.1 x.2.1 x.2.2 r h1 h2
def BGC:aO Tryz.prog 66 A1M:=BIS λd m x r h hb=>by
 unfold AWR BRE BQM BP9 BQ4 BPI BPG BPF;exact ap_add h (by decide) (by decide) rfl rfl ((A2U ..).trans rfl) (no:=noPack) (o:=eK d (eF (9,x)).1) (λhc=>(HC ..).trans (by unfold AF;exact O7 _ (eV hc).zT)) rfl (λhc _ h2=>(A1U ..).trans (fF (by rw[hc,h2];rfl)))
def KX (a0:aA) (a1:aE) (a2:bV):List T:=[aF true aB a0,aF true aI a1,aF true aJ (2,a2)]
def AUB:Env:=Env.of [(93,.pure dB),(155,.pure ABQ),(149,.pure sU),(138,.pure ER),(69,.pure cI),(157,.pure AA6),(65,.pure cV)]
def BDA:FuncId->Hint:=λ_=>a6
def A7S:aR Tryz.prog AUB:=.cons jR (.cons BG4 (.cons VF (.cons A0Y (.cons e9 (.cons BGE (.cons j7 (.nil _)))))))
def BQU(R:T->Prop):Prop:=R (T.bY [BPF, pPP 8])
def BRC(R:T->Prop):Prop:=R (T.bY [BPF, pPP 34])
def BRQ(a0:aA)(a2:bV):List T:=[aF true aB a0,pPQ a2.1]
def AWD(a0:aA)(a1:aE)(a2:bV)(R:T->Prop):Prop:=aM [(true,aJ)] (ABQ [(aF true aJ (2,a2))]) λ(y0:aQ)=>aM BPI (dB [(aF true aJ (2,a2)), aF true aJ y0]) λ(y1:Bool)=>aD (!y1) (BQM R) (aM [(true,bC),(false,Sy.bool)] (sU (BRQ a0 a2)) λ(y2:fQ×Bool)=>aD (!y2.2) (BQU R) (aM BPI (ER [aF true aB a0, (aF true aJ (2,a2))]) λ(y3:Bool)=>aD y3 (BRC R) (aM [(true,aB)] (cI [aF true aB a0]) λ(y4:aA)=>aM [(true,aB)] (AA6 [aF true aB y4, (aF true aJ (2,a2))]) λ(y5:aA)=>BP9 y5 a1 R)))
def AWE ( a0 a1 a2 R):dM bX Tryz.prog AUB BDA 8 66 (KX a0 a1 a2) R=AWD a0 a1 a2 R:=by kernel_rfl
def AKA:fR->Option T:=spAp 2
def ANO (x y:fR) (h:KX x.1 x.2.1 x.2.2=KX y.1 y.2.1 y.2.2):x=y:=eT 2 x y h
def A08:List T->Option (T):=gA (λ(x:aA×aE×bV)=>KX x.1 x.2.1 x.2.2) AKA
def A09 (a0:aA) (a1:aE) (a2:bV):A08 (KX a0 a1 a2)=AKA (a0,a1,a2):=dY (A:=(λ(x:aA×aE×bV)=>KX x.1 x.2.1 x.2.2)) ANO (a0,a1,a2)
def BIL (h:∀ (a0:aA) (a1:aE) (a2:bV) (r:T),AKA (a0,a1,a2)=some r->(∀ t∈KX a0 a1 a2,Bd t)->AWD a0 a1 a2 (λy=>y=r)):aO Tryz.prog 66 A08 :=
 cE (E:=AUB) (Hs:=BDA) A7S aV aY (aN rfl) 8 ⟨_,_,Tryz.func66,rfl⟩ λx r h1 h2=>by
  rw[AWE];exact h x.1 x.2.1 x.2.2 r h1 h2
def BF5:aO Tryz.prog 66 A08:=BIL λd m x r h hb=>by
 unfold AWD BRQ BRC BQU BQM BP9 BQ4 BPI BPG BPF;exact ap_rem h (by decide) (by decide) rfl ((A2N ..).trans rfl) (no:=bR) (λ_=>HB ..) rfl (λhc=>(AIJ ..).trans (fF hc)) (λhc=>(A1P ..).trans (fF hc))
def KZ (a0:aA) (a1:aE) (a2:bV):List T:=[aF true aB a0,aF true aI a1,aF true aJ (4,a2)]
def AUD:Env:=Env.of [(93,.pure dB),(174,.pure ABS),(94,.pure fZ),(162,.pure ET),(69,.pure cI),(176,.pure AA8),(65,.pure cV)]
def BDC:FuncId->Hint:=λ_=>a6
def A7U:aR Tryz.prog AUD:=.cons jR (.cons BG6 (.cons qV (.cons A00 (.cons e9 (.cons BGG (.cons j7 (.nil _)))))))
def AWH(a0:aA)(a1:aE)(a2:bV)(R:T->Prop):Prop:=aM [(true,aJ)] (ABS [(aF true aJ (4,a2))]) λ(y0:aQ)=>aM BPI (dB [(aF true aJ (4,a2)), aF true aJ y0]) λ(y1:Bool)=>aD (!y1) (BQM R) (aM BPR (fZ (BRQ a0 a2)) λ(y2:bD×Bool)=>aD (!y2.2) (BQU R) (aM BPI (ET [aF true aB a0, (aF true aJ (4,a2))]) λ(y3:Bool)=>aD y3 (BRC R) (aM [(true,aB)] (cI [aF true aB a0]) λ(y4:aA)=>aM [(true,aB)] (AA8 [aF true aB y4, (aF true aJ (4,a2))]) λ(y5:aA)=>BP9 y5 a1 R)))
def AWI ( a0 a1 a2 R):dM bX Tryz.prog AUD BDC 8 66 (KZ a0 a1 a2) R=AWH a0 a1 a2 R:=by kernel_rfl
def AKC:fR->Option T:=spAp 4
def ANQ (x y:fR) (h:KZ x.1 x.2.1 x.2.2=KZ y.1 y.2.1 y.2.2):x=y:=eT 4 x y h
def A1C:List T->Option (T):=gA (λ(x:aA×aE×bV)=>KZ x.1 x.2.1 x.2.2) AKC
def A1D (a0:aA) (a1:aE) (a2:bV):A1C (KZ a0 a1 a2)=AKC (a0,a1,a2):=dY (A:=(λ(x:aA×aE×bV)=>KZ x.1 x.2.1 x.2.2)) ANQ (a0,a1,a2)
def BIN (h:∀ (a0:aA) (a1:aE) (a2:bV) (r:T),AKC (a0,a1,a2)=some r->(∀ t∈KZ a0 a1 a2,Bd t)->AWH a0 a1 a2 (λy=>y=r)):aO Tryz.prog 66 A1C :=
 cE (E:=AUD) (Hs:=BDC) A7U aV aY (aN rfl) 8 ⟨_,_,Tryz.func66,rfl⟩ λx r h1 h2=>by
  rw[AWI];exact h x.1 x.2.1 x.2.2 r h1 h2
def BF7:aO Tryz.prog 66 A1C:=BIN λd m x r h hb=>by
 unfold AWH BRQ BRC BQU BQM BP9 BQ4 BPR BPI BPG BPF;exact ap_rem h (by decide) (by decide) rfl ((A2P ..).trans rfl) (no:=bL) (λhc=>(nW ..).trans (by unfold kN;dsimp only;rw[(eV hc).A0];rfl)) rfl (λhc=>(AIL ..).trans (fF hc)) (λhc=>(A1R ..).trans (fF hc))
def K3 (a0:aA) (a1:aE) (a2:bV):List T:=[aF true aB a0,aF true aI a1,aF true aJ (8,a2)]
def AUH:Env:=Env.of [(93,.pure dB),(203,.pure ABU),(197,.pure sW),(183,.pure kG),(69,.pure cI),(205,.pure ABA),(65,.pure cV)]
def BDG:FuncId->Hint:=λ_=>a6
def A7Y:aR Tryz.prog AUH:=.cons jR (.cons BHA (.cons VH (.cons tW (.cons e9 (.cons BGI (.cons j7 (.nil _)))))))
def AWP(a0:aA)(a1:aE)(a2:bV)(R:T->Prop):Prop:=aM [(true,aJ)] (ABU [(aF true aJ (8,a2))]) λ(y0:aQ)=>aM BPI (dB [(aF true aJ (8,a2)), aF true aJ y0]) λ(y1:Bool)=>aD (!y1) (BQM R) (aM [(true,bI),(false,Sy.bool)] (sW (BRQ a0 a2)) λ(y2:iH×Bool)=>aD (!y2.2) (BQU R) (aM BPI (kG [aF true aB a0, (aF true aJ (8,a2))]) λ(y3:Bool)=>aD y3 (BRC R) (aM [(true,aB)] (cI [aF true aB a0]) λ(y4:aA)=>aM [(true,aB)] (ABA [aF true aB y4, (aF true aJ (8,a2))]) λ(y5:aA)=>BP9 y5 a1 R)))
def AWQ ( a0 a1 a2 R):dM bX Tryz.prog AUH BDG 8 66 (K3 a0 a1 a2) R=AWP a0 a1 a2 R:=by kernel_rfl
def AKG:fR->Option T:=spAp 8
def ANU (x y:fR) (h:K3 x.1 x.2.1 x.2.2=K3 y.1 y.2.1 y.2.2):x=y:=eT 8 x y h
def A1K:List T->Option (T):=gA (λ(x:aA×aE×bV)=>K3 x.1 x.2.1 x.2.2) AKG
def A1L (a0:aA) (a1:aE) (a2:bV):A1K (K3 a0 a1 a2)=AKG (a0,a1,a2):=dY (A:=(λ(x:aA×aE×bV)=>K3 x.1 x.2.1 x.2.2)) ANU (a0,a1,a2)
def BIR (h:∀ (a0:aA) (a1:aE) (a2:bV) (r:T),AKG (a0,a1,a2)=some r->(∀ t∈K3 a0 a1 a2,Bd t)->AWP a0 a1 a2 (λy=>y=r)):aO Tryz.prog 66 A1K :=
 cE (E:=AUH) (Hs:=BDG) A7Y aV aY (aN rfl) 8 ⟨_,_,Tryz.func66,rfl⟩ λx r h1 h2=>by
  rw[AWQ];exact h x.1 x.2.1 x.2.2 r h1 h2
def BGB:aO Tryz.prog 66 A1K:=BIR λd m x r h hb=>by
 unfold AWP BRQ BRC BQU BQM BP9 BQ4 BPI BPG BPF;exact ap_rem h (by decide) (by decide) rfl ((A2T ..).trans rfl) (no:=bS) (λ_=>HD ..) rfl (λ_=>(JG ..).trans rfl) (λhc=>(A1T ..).trans (fF hc))
def BN (a0:aA) (a1:aE) (a2:bV):List T:=[aF true aB a0,aF true aI a1,aF true aJ (10,a2)]
def AEQ:Env:=Env.of [(93,.pure dB),(224,.pure OI),(217,.pure sV),(210,.pure ES),(69,.pure cI),(226,.pure OD),(65,.pure cV)]
def AYF:FuncId->Hint:=λ_=>a6
def AVM:aR Tryz.prog AEQ:=.cons jR (.cons BA3 (.cons VG (.cons A0Z (.cons e9 (.cons BAN (.cons j7 (.nil _)))))))
def AFU(a0:aA)(a1:aE)(a2:bV)(R:T->Prop):Prop:=aM [(true,aJ)] (OI [(aF true aJ (10,a2))]) λ(y0:aQ)=>aM BPI (dB [(aF true aJ (10,a2)), aF true aJ y0]) λ(y1:Bool)=>aD (!y1) (BQM R) (aM [(true,aH),(false,Sy.bool)] (sV (BRQ a0 a2)) λ(y2:bA×Bool)=>aD (!y2.2) (BQU R) (aM BPI (ES [aF true aB a0, (aF true aJ (10,a2))]) λ(y3:Bool)=>aD y3 (BRC R) (aM [(true,aB)] (cI [aF true aB a0]) λ(y4:aA)=>aM [(true,aB)] (OD [aF true aB y4, (aF true aJ (10,a2))]) λ(y5:aA)=>BP9 y5 a1 R)))
def AO8 ( a0 a1 a2 R):dM bX Tryz.prog AEQ AYF 8 66 (BN a0 a1 a2) R=AFU a0 a1 a2 R:=by kernel_rfl
def XI:fR->Option T:=spAp 10
def AEG (x y:fR) (h:BN x.1 x.2.1 x.2.2=BN y.1 y.2.1 y.2.2):x=y:=eT 10 x y h
def AHX:List T->Option (T):=gA (λ(x:aA×aE×bV)=>BN x.1 x.2.1 x.2.2) XI
def ARG (a0:aA) (a1:aE) (a2:bV):AHX (BN a0 a1 a2)=XI (a0,a1,a2):=dY (A:=(λ(x:aA×aE×bV)=>BN x.1 x.2.1 x.2.2)) AEG (a0,a1,a2)
def BBW (h:∀ (a0:aA) (a1:aE) (a2:bV) (r:T),XI (a0,a1,a2)=some r->(∀ t∈BN a0 a1 a2,Bd t)->AFU a0 a1 a2 (λy=>y=r)):aO Tryz.prog 66 AHX :=
 cE (E:=AEQ) (Hs:=AYF) AVM aV aY (aN rfl) 8 ⟨_,_,Tryz.func66,rfl⟩ λx r h1 h2=>by
  rw[AO8];exact h x.1 x.2.1 x.2.2 r h1 h2
def BAF:aO Tryz.prog 66 AHX:=BBW λd m x r h hb=>by
 unfold AFU BRQ BRC BQU BQM BP9 BQ4 BPI BPG BPF;exact ap_rem h (by decide) (by decide) rfl ((ARU ..).trans rfl) (no:=noPack) (o:=eK d (dW (10,x))) (λhc=>(HC ..).trans (by unfold AF;exact O7 _ (eV hc).zT)) rfl (λhc=>(AIK ..).trans (fF hc)) (λhc=>(ARN ..).trans (fF hc))
variable {A:Prop}
def ifC {p q s:Prop} {i:Decidable p} {j:Decidable q} {k:Decidable s} {B:Prop} (h1:p/\q/\s->A) (h2:¬ (p/\q/\s)->B):aD (@decide p i&&(@decide q j&&(@decide s k&&true))) A B:=by
 by_cases h:p/\q/\s
 ·rw[ai h.1,ai h.2.1,ai h.2.2];exact h1 h
 ·have:(@decide p i&&(@decide q j&&(@decide s k&&true)))=false:=by
   rw[Bool.eq_false_iff];intro e;simp only[ac,ah,and_true] at e;exact h e
  rw[this];exact h2 h
def zS {a b:cM}:(a.1=b.1/\a.2.1=b.2.1/\a.2.2=b.2.2)↔a=b:=by
 simp only[Prod.ext_iff]
def BO (a0:aA) (a1:aE) (a2:bV):List T:=[aF true aB a0,aF true aI a1,aF true aJ (11,a2)]
def AER:Env:=Env.of [(93,.pure dB),(230,.pure vF),(183,.pure kG),(69,.pure cI),(234,.pure qX),(105,.dup 3 40),(298,.grow 3 kS),(299,.grow 3 zM),(65,.pure cV)]
def AYG:FuncId->Hint:=cF 278 [(2,.inv [.val 8 false (.int .i64)])] (cF 294 [(2,.inv [.val 8 false (.int .i64)])] (λ_=>a6))
def AVN:aR Tryz.prog AER:=.cons jR (.cons AL2 (.cons tW (.cons e9 (.cons R8 (aR.cons (x:=.dup 3 40) CB (.cons N0 (.cons NZ (.cons j7 (.nil _)))))))))
def BP6(y5:aA)(y10:List cM)(a1:aE)(R:T->Prop):Prop:=aM BPG (cV [(aF true aB (y5.1,y5.2.1,y5.2.2.1,y5.2.2.2.1,y5.2.2.2.2.1,y10)), aF true aI a1]) λ(y11:Int)=>aD (!decide (y11=0)) (BQ4 R y11) (R (T.bY [(aF true aB (y5.1,y5.2.1,y5.2.2.1,y5.2.2.2.1,y5.2.2.2.2.1,y10)), pPP 0]))
def BRK(a2:bV):List T:=[pPP a2.2.2.2.2.2.2.1, pPQ a2.2.2.2.2.2.2.2.1, pPQ a2.2.2.2.2.2.2.2.2]
def BQN(y5:aA)(a2:bV)(a1:aE)(R:T->Prop):Prop:=fB a7 (kS (BP2 y5) [pPP (↑(BP2 y5).length:Int), T.sl true [(BRK a2)]]) λ(y14:List cM)=>BP6 y5 y14 a1 R
def BQE(s7:Int×PUnit)(y5:aA)(a2:bV)(a1:aE)(R:T->Prop):Prop:=aD (decide (s7.1<0)) (b7 (((BP2 y5).all λ(r:List T)=>decide (r.length=3)) && decide ((BP2 y5).length*40 <= 140737488355328) && decide ((BP2 y5).length<=140737488355328)) (BQN y5 a2 a1 R)) (b7 (((BP2 y5).all λ(r:List T)=>decide (r.length=3)) && decide ((BP2 y5).length*40 <= 140737488355328) && decide ((BP2 y5).length<=140737488355328)) (fB a7 (kS (BP2 y5) [pPP s7.1, T.sl true [(BRK a2)]]) λ(y12:List cM)=>BP6 y5 y12 a1 R))
def BRA(y5:aA)(a2:bV)(a1:aE)(R:T->Prop):Prop:=b7 (((BP2 y5).all λ(r:List T)=>decide (r.length=3)) && decide ((BP2 y5).length*40<=140737488355328) && decide ((BP2 y5).length<=140737488355328)) (BQN y5 a2 a1 R)
def AFV(a0:aA)(a1:aE)(a2:bV)(R:T->Prop):Prop:=aM [(true,aJ)] (vF [(aF true aJ (11,a2))]) λ(y0:aQ)=>aM BPI (dB [(aF true aJ (11,a2)), aF true aJ y0]) λ(y1:Bool)=>aD (!y1) (BQM R) (a8 (Int×PUnit) (λX2 s3=>aD (decide (s3.1<(↑(BP2 a0).length:Int))) (aX a7 (BP2 a0) s3.1 λ(y4:cM)=>aD (decide (a2.2.2.2.2.2.2.1=y4.1) && (decide (a2.2.2.2.2.2.2.2.1=y4.2.1) && (decide (a2.2.2.2.2.2.2.2.2=y4.2.2)&&true))) (aD (decide (0<=s3.1)) (BRE R) (aM [(true,aB)] (cI [aF true aB a0]) λ(y5:aA)=>a8 (Int×PUnit) (λX6 s7=>aD (decide (s7.1<(↑(BP2 y5).length:Int))) (aX a7 (BP2 y5) s7.1 λ(y8:cM)=>aM BPI (qX [aF true a7 y8, aF true a7 a2.2.2.2.2.2.2]) λ(y9:Bool)=>aD y9 (BQE s7 y5 a2 a1 R) (BP4 X6 s7)) (BRA y5 a2 a1 R)) (0,()))) (BP4 X2 s3)) (aM [(true,aB)] (cI [aF true aB a0]) λ(y16:aA)=>a8 (Int×PUnit) (λX17 s18=>aD (decide (s18.1<(↑(BP2 y16).length:Int))) (aX a7 (BP2 y16) s18.1 λ(y19:cM)=>aM BPI (qX [aF true a7 y19,aF true a7 a2.2.2.2.2.2.2]) λ(y20:Bool)=>aD y20 (BQE s18 y16 a2 a1 R) (BP4 X17 s18)) (BRA y16 a2 a1 R)) (0,()))) (0,()))
def AO9 ( a0 a1 a2 R):dM bX Tryz.prog AER AYG 8 66 (BO a0 a1 a2) R=AFV a0 a1 a2 R:=by kernel_rfl
def XJ:fR->Option T:=spAp 11
def AEH (x y:fR) (h:BO x.1 x.2.1 x.2.2=BO y.1 y.2.1 y.2.2):x=y:=eT 11 x y h
def AHY:List T->Option (T):=gA (λ(x:aA×aE×bV)=>BO x.1 x.2.1 x.2.2) XJ
def ARH (a0:aA) (a1:aE) (a2:bV):AHY (BO a0 a1 a2)=XJ (a0,a1,a2):=dY (A:=(λ(x:aA×aE×bV)=>BO x.1 x.2.1 x.2.2)) AEH (a0,a1,a2)
def BBX (h:∀ (a0:aA) (a1:aE) (a2:bV) (r:T),XJ (a0,a1,a2)=some r->(∀ t∈BO a0 a1 a2,Bd t)->AFV a0 a1 a2 (λy=>y=r)):aO Tryz.prog 66 AHY :=
 cE (E:=AER) (Hs:=AYG) AVN aV aY (aN rfl) 8 ⟨_,_,Tryz.func66,rfl⟩ λx r h1 h2=>by
  rw[AO9];exact h x.1 x.2.1 x.2.2 r h1 h2
def BAG:aO Tryz.prog 66 AHY:=BBX λd m x r h hb=>by
 clear hb;obtain ⟨hp,rfl⟩:=l8 h;clear h;obtain ⟨hc,ho1,ho2⟩:=vP hp;have c:=eV hc;have is:∀ {a:aA×Int},bO d m (11,x)=a->Sh.enc [(true,aB),(false,.int .i64)] a=Sh.enc [(true,aB),(false,.int .i64)] (bO d m (11,x)):=λh=>by rw[h]
 have hk:(1:Int)<=((11,x):aQ).1/\((11,x):aQ).1<=12:=by dsimp only;omega
 have h5:¬ ((11,x):aQ).1=5:=by dsimp only;omega
 have lift:∀ {a:aA×Int},bO d m (11,x)=a->∀ v,v=Sh.enc [(true,aB),(false,.int .i64)] a->v=Sh.enc [(true,aB),(false,.int .i64)] (bO d m (11,x)):=λh v hv=>by rw[h];exact hv
 unfold AFV BRE BRA BQM BQE BQN BRK BP6 BQ4 BP4 BP2 BPI BPG BPF;have z1:vF [aF true aJ (11,x)]=some (Sh.enc [(true,aJ)] (dE (11,x))):=(SL ..).trans rfl;refine aK (s:=[(true,aJ)]) (y:=dE (11,x)) z1 ?_;have z2:dB [aF true aJ (11,x),aF true aJ (dE (11,x))]=some (Sh.enc qF (pE (11,x) (dE (11,x)))):=qZ ..;refine aK (s:=qF) (y:=pE (11,x) (dE (11,x))) z2 ?_;refine lD (λh=>lift (DW hk h) _ rfl) λhE=>?_;have hd:=w9 (r:=a7) (l:=d.2.2.2.2.2) (z:=3) (b:=40) rfl (eE c.r (by decide));have pos:∀ {k:Nat},¬ (0<=(k:Int))->False:=λh=>h (by omega);have hus:jY d (11,x)=false:=rfl;have tail:∀ (hth:cN d (11,x) = !fW (11,x)) (l:List cM) (hl:l=eM o8 d.2.2.2.2.2 (dI (11,x))),aM [(false,Sy.int IntKind.i64)] (cV [aF true aB (d.1,d.2.1,d.2.2.1,d.2.2.2.1,d.2.2.2.2.1,l),aF true aI m]) λ(y:Int) =>
   aD (!decide (y=0)) (Sh.enc [(true,aB),(false,.int .i64)] (iP,y)=Sh.enc [(true,aB),(false,.int .i64)] (bO d m (11,x))) (Sh.enc [(true,aB),(false,.int .i64)] ((d.1,d.2.1,d.2.2.1,d.2.2.2.1,d.2.2.2.2.1,l),0)=Sh.enc [(true,aB),(false,.int .i64)] (bO d m (11,x))):=λhth l hl=>by
  subst hl;refine aK (s:=[(false,.int .i64)]) (y:=fX (eQ d (11,x)) m) (nV ..) ?_;exact lK (λh=>is ((u5 hk h5 hE hth hus).trans (if_neg h))) λh=>is ((u5 hk h5 hE hth hus).trans (if_pos h))
 refine dD (r:=a7) (λn=>decide (n=dI (11,x))) (pC c.r) (λX k y hlt hy hp hn=>?_) (λ_ h0=>?_)
 ·dsimp only;refine ifC (λh=>?_) λh=>hn (aj λe=>h (zS.2 e.symm));obtain ⟨_,h2⟩:=hp (ai (zS.1 h).symm);exact cO (λ_=>lift (RH hk h5 hE rfl h2) _ rfl) λh=>(pos h).elim
 ·have hth:cN d (11,x) = !fW (11,x):=h0;refine aK (s:=[(true,aB)]) (y:=d) ((qC ..).trans (fF hc)) ?_;refine dD (r:=a7) (λy=>o8 y (dI (11,x))) (pC c.r) (λX k y hk' hy hp hn=>?_) (λh _=>?_)
  ·dsimp only;refine aK (s:=qF) (y:=o8 y (dI (11,x))) (ABL ..) ?_;refine DQ (λh=>?_) λh=>hn h;obtain ⟨hi,_⟩:=hp h;refine cO (λh=>by omega) λ_=>⟨hd,?_⟩
   refine eR (r:=a7) (l:=d.2.2.2.2.2.take k++dI (11,x)::d.2.2.2.2.2.drop k) (sX (r:=a7) (x:=dI (11,x)) rfl (by omega) c.r (by decide)) _ ?_;exact tail hth _ (by unfold eM;rw[hi])
  ·refine ⟨hd,?_⟩;rw[show (((List.map a7.enc d.2.2.2.2.2).length:Nat):Int)=((d.2.2.2.2.2.length:Nat):Int) by rw[ae]];refine eR (r:=a7) (l:=d.2.2.2.2.2.take d.2.2.2.2.2.length++dI (11,x)::d.2.2.2.2.2.drop d.2.2.2.2.2.length) (sX (r:=a7) (x:=dI (11,x)) rfl (al _) c.r (by decide)) _ ?_;exact tail hth _ (by unfold eM;rw[h])
def BP (a0:aA) (a1:aE) (a2:bV):List T:=[aF true aB a0,aF true aI a1,aF true aJ (12,a2)]
def AES:Env:=Env.of [(93,.pure dB),(230,.pure vF),(183,.pure kG),(69,.pure cI),(234,.pure qX),(105,.dup 3 40),(298,.grow 3 kS),(299,.grow 3 zM),(65,.pure cV)]
def AYH:FuncId->Hint:=cF 278 [(2,.inv [.val 8 false (.int .i64)])] (cF 294 [(2,.inv [.val 8 false (.int .i64)])] (λ_=>a6))
def AVO:aR Tryz.prog AES:=.cons jR (.cons AL2 (.cons tW (.cons e9 (.cons R8 (aR.cons (x:=.dup 3 40) CB (.cons N0 (.cons NZ (.cons j7 (.nil _)))))))))
def BQS(y6:aA)(a1:aE)(R:T->Prop):Prop:=b7 (((BP2 y6).all λ(r:List T)=>decide (r.length=3)) && decide ((BP2 y6).length*40 <= 140737488355328) && decide ((BP2 y6).length<=140737488355328)) (aM BPG (cV [aF true aB y6,aF true aI a1]) λ(y10:Int)=>aD (!decide (y10=0)) (BQ4 R y10) (R (T.bY [aF true aB y6, pPP 0])))
def AFW(a0:aA)(a1:aE)(a2:bV)(R:T->Prop):Prop:=aM [(true,aJ)] (vF [(aF true aJ (12,a2))]) λ(y0:aQ)=>aM BPI (dB [(aF true aJ (12,a2)), aF true aJ y0]) λ(y1:Bool)=>aD (!y1) (BQM R) (a8 (Int×PUnit) (λX2 s3=>aD (decide (s3.1<(↑(BP2 a0).length:Int))) (aX a7 (BP2 a0) s3.1 λ(y4:cM)=>aD (decide (a2.2.2.2.2.2.2.1=y4.1) && (decide (a2.2.2.2.2.2.2.2.1=y4.2.1) && (decide (a2.2.2.2.2.2.2.2.2=y4.2.2)&&true))) (aD (!decide (0<=s3.1)) (BQU R) (aM BPI (kG [aF true aB a0, (aF true aJ (12,a2))]) λ(y5:Bool)=>aD y5 (BRC R) (aM [(true,aB)] (cI [aF true aB a0]) λ(y6:aA)=>a8 (Int×PUnit) (λX7 s8=>aD (decide (s8.1<(↑(BP2 y6).length:Int))) (aX a7 (BP2 y6) s8.1 λ(y9:cM)=>aD (decide (y9.1=a2.2.2.2.2.2.2.1) && (decide (y9.2.1=a2.2.2.2.2.2.2.2.1) && (decide (y9.2.2=a2.2.2.2.2.2.2.2.2)&&true))) (aD (decide (s8.1<0)) (BQS y6 a1 R) (b7 (((BP2 y6).all λ(r:List T)=>decide (r.length=3)) && decide ((BP2 y6).length*40 <= 140737488355328) && decide ((BP2 y6).length<=140737488355328)) (fB a7 (zM (BP2 y6) (BQR s8)) λ(y11:List cM)=>BP6 y6 y11 a1 R))) (BP4 X7 s8)) (BQS y6 a1 R)) (0,())))) (BP4 X2 s3)) (BQU R)) (0,()))
def APA ( a0 a1 a2 R):dM bX Tryz.prog AES AYH 8 66 (BP a0 a1 a2) R=AFW a0 a1 a2 R:=by kernel_rfl
def XK:fR->Option T:=spAp 12
def AEI (x y:fR) (h:BP x.1 x.2.1 x.2.2=BP y.1 y.2.1 y.2.2):x=y:=eT 12 x y h
def AHZ:List T->Option (T):=gA (λ(x:aA×aE×bV)=>BP x.1 x.2.1 x.2.2) XK
def ARI (a0:aA) (a1:aE) (a2:bV):AHZ (BP a0 a1 a2)=XK (a0,a1,a2):=dY (A:=(λ(x:aA×aE×bV)=>BP x.1 x.2.1 x.2.2)) AEI (a0,a1,a2)
def BBY (h:∀ (a0:aA) (a1:aE) (a2:bV) (r:T),XK (a0,a1,a2)=some r->(∀ t∈BP a0 a1 a2,Bd t)->AFW a0 a1 a2 (λy=>y=r)):aO Tryz.prog 66 AHZ :=
 cE (E:=AES) (Hs:=AYH) AVO aV aY (aN rfl) 8 ⟨_,_,Tryz.func66,rfl⟩ λx r h1 h2=>by
  rw[APA];exact h x.1 x.2.1 x.2.2 r h1 h2
def BAH:aO Tryz.prog 66 AHZ:=BBY λd m x r h hb=>by
 clear hb;obtain ⟨hp,rfl⟩:=l8 h;clear h;obtain ⟨hc,ho1,ho2⟩:=vP hp;have c:=eV hc;have is:∀ {a:aA×Int},bO d m (12,x)=a->Sh.enc [(true,aB),(false,.int .i64)] a=Sh.enc [(true,aB),(false,.int .i64)] (bO d m (12,x)):=λh=>by rw[h]
 have hk:(1:Int)<=((12,x):aQ).1/\((12,x):aQ).1<=12:=by dsimp only;omega
 have h5:¬ ((12,x):aQ).1=5:=by dsimp only;omega
 have lift:∀ {a:aA×Int},bO d m (12,x)=a->∀ v,v=Sh.enc [(true,aB),(false,.int .i64)] a->v=Sh.enc [(true,aB),(false,.int .i64)] (bO d m (12,x)):=λh v hv=>by rw[h];exact hv
 unfold AFW BRC BQU BQS BQR BQM BP6 BQ4 BP4 BP2 BPI BPG BPF;have z1:vF [aF true aJ (12,x)]=some (Sh.enc [(true,aJ)] (dE (12,x))):=(SL ..).trans rfl;refine aK (s:=[(true,aJ)]) (y:=dE (12,x)) z1 ?_;have z2:dB [aF true aJ (12,x),aF true aJ (dE (12,x))]=some (Sh.enc qF (pE (12,x) (dE (12,x)))):=qZ ..;refine aK (s:=qF) (y:=pE (12,x) (dE (12,x))) z2 ?_;refine lD (λh=>lift (DW hk h) _ rfl) λhE=>?_;have hd:=w9 (r:=a7) (l:=d.2.2.2.2.2) (z:=3) (b:=40) rfl (eE c.r (by decide));have pos:∀ {k:Nat},¬ (0<=(k:Int))->False:=λh=>h (by omega);have hus:jY d (12,x)=false:=rfl;refine dD (r:=a7) (λn=>decide (n=dI (12,x))) (pC c.r) (λX k y hlt hy hp hn=>?_) (λ_ h0=>lift (MS hk h5 hE rfl h0) _ rfl);dsimp only;refine ifC (λh=>?_) λh=>hn (aj λe=>h (zS.2 e.symm));obtain ⟨_,h2⟩:=hp (ai (zS.1 h).symm);have hth:cN d (12,x) = !fW (12,x):=h2;refine lD (λh=>(pos (of_decide_eq_false h)).elim) λ_=>?_;have z4:kG [aF true aB d,aF true aJ (12,x)]=some (Sh.enc qF (jY d (12,x))):=(JG ..).trans rfl;refine aK (s:=qF) (y:=jY d (12,x)) z4 ?_;refine DQ (λh=>absurd h (by rw[hus];decide)) λ_=>?_;refine aK (s:=[(true,aB)]) (y:=d) ((qC ..).trans (fF hc)) ?_;clear hp hn;refine dD (r:=a7) (λn=>decide (n=dI (12,x))) (pC c.r) (λX k y hk' hy hp hn=>?_) (λh h3=>?_)
 ·dsimp only;refine ifC (λh=>?_) λh=>hn (aj λe=>h (zS.2 e));obtain ⟨hi,_⟩:=hp (ai (zS.1 h));refine cO (λh=>by omega) λ_=>⟨hd,?_⟩
  have eD:eQ d (12,x)=(d.1,d.2.1,d.2.2.1,d.2.2.2.1,d.2.2.2.2.1,d.2.2.2.2.2.take k++d.2.2.2.2.2.drop (k+1)):=by
   show (d.1,d.2.1,d.2.2.1,d.2.2.2.1,d.2.2.2.2.1,eJ (λn=>decide (n=dI (12,x))) d.2.2.2.2.2)=_;unfold eJ;rw[hi]
  refine eR (r:=a7) (l:=d.2.2.2.2.2.take k++d.2.2.2.2.2.drop (k+1)) (GX (r:=a7) rfl hk' c.r) _ ?_;have z5:cV [aF true aB (d.1,d.2.1,d.2.2.1,d.2.2.2.1,d.2.2.2.2.1,d.2.2.2.2.2.take k++d.2.2.2.2.2.drop (k+1)),aF true aI m]=some (Sh.enc [(false,Sy.int .i64)] (fX (d.1,d.2.1,d.2.2.1,d.2.2.2.1,d.2.2.2.2.1,d.2.2.2.2.2.take k++d.2.2.2.2.2.drop (k+1)) m)):=nV ..;refine aK (s:=[(false,.int .i64)]) (y:=fX (eQ d (12,x)) m) (by rw[eD];exact z5) ?_;exact lK (λh=>lift ((u5 hk h5 hE hth hus).trans (if_neg h)) _ rfl) λh=>lift ((u5 hk h5 hE hth hus).trans (if_pos h)) _ (by rw[eD];rfl)
 ·exfalso;have:=h2.symm.trans h3;cases this
end Go.Pv
namespace Go.Pv
open Go Go.Proofs IntKind
variable {α:Type}{is:α->Bool}
def ALM {f:α->α} {l:List α} {k:Nat} (hk:k<l.length) (h:l.findIdx is=k):yY is f l=l.set k (f l[k]):=by
 unfold yY;rw[h];refine List.ext_getElem (by simp) λi h1 h2=>?_;rw[List.getElem_modify,List.getElem_set];by_cases e:k=i
 ·subst e;simp
 ·simp[e]
def AM7 {r:Sy} {l:List r.den} {k:Nat} {y:r.den} {row:List T} (h:row=r.enc y):(List.map r.enc l).set k row=List.map r.enc (l.set k y):=by rw[h,List.map_set]
def TR {α:Type}:∀ (s pre r:List α),r.length=s.length->bU (pre++r) pre.length s=pre++s
 | [],pre,[],_=>rfl
 | [],_,_::_,h=>by cases h
 | _::_,_,[],h=>by cases h
 | x::s,pre,a::r,h=>by
  unfold bU;rw[show (pre++a::r).set pre.length x=(pre++[x])++r by simp,show pre.length+1=(pre++[x]).length by simp,TR s (pre++[x]) r (by simpa using h)];simp
def QB (r s:List α) (h:r.length=s.length):bU r 0 s=s:=TR s [] r h
def ADO {d:aA} {id:iII} (h:(partOf d id).isSome=true):d.2.2.1≠[]:=by
 intro e;unfold partOf at h;rw[e] at h;cases h
def ADN {d:aA} {id:iII} (h:(partOf d id).isSome=true):d.2.2.1.any (λp=>bZ id p)=true:=by
 unfold partOf at h;rw[List.find?_isSome] at h;obtain ⟨p,hp,h⟩:=h;exact List.any_eq_true.2 ⟨p,hp,h⟩
def TJ {d:aA} {n:Nat} (h:d.2.2.1≠[]) (hn:n=aP.w):(!(List.map aP.enc d.2.2.1).isEmpty&&iB n (List.map aP.enc d.2.2.1))=true:=by
 subst hn;rw[ac];refine ⟨?_,tL ..⟩;cases hl:d.2.2.1 with
 | nil=>exact absurd hl h
 | cons a l=>rfl
def K1 (a0:aA) (a1:aE) (a2:bV):List T:=[aF true aB a0,aF true aI a1,aF true aJ (6,a2)]
def AUF:Env:=Env.of [(93,.pure dB),(189,.pure SN),(94,.pure fZ),(183,.pure kG),(108,.pure e6),(69,.part 2 OA),(65,.pure cV)]
def BDE:FuncId->Hint:=cF 185 [(2,.inv [.val 8 false (.int .i64)])] (λ_=>a6)
def A7W:aR Tryz.prog AUF:=.cons jR (.cons BG8 (.cons qV (.cons tW (.cons nU (.cons ALZ (.cons j7 (.nil _)))))))
def BQ7(y3:aA)(y12:List T)(a2:bV):List T:=[pPQ y3.1, T.sl false (BQB y3), T.sl false ((BP5 y3).set (-1).toNat (bU y12 3 [pPQ a2.2.1])), T.sl false (BP8 y3), T.sl false (BP3 y3), T.sl false (BP2 y3)]
def BRB(y3:aA)(s5:Int×PUnit)(y9:List T)(a2:bV):List T:=[pPQ y3.1, T.sl false (BQB y3), T.sl false ((BP5 y3).set (Int.toNat s5.1) (bU y9 3 [pPQ a2.2.1])), T.sl false (BP8 y3), T.sl false (BP3 y3), T.sl false (BP2 y3)]
def AWL(a0:aA)(a1:aE)(a2:bV)(R:T->Prop):Prop:=aM [(true,aJ)] (SN [(aF true aJ (6,a2))]) λ(y0:aQ)=>aM BPI (dB [(aF true aJ (6,a2)), aF true aJ y0]) λ(y1:Bool)=>aD (!y1) (BQM R) (aM BPR (fZ (BRQ a0 a2)) λ(y2:bD×Bool)=>aD (!y2.2) (BQU R) (aM [(true,aB)] (OA [aF true aB a0]) λ(y3:aA)=>b7 (!(BP5 y3).isEmpty && iB (1+(1+(1+(1+(1+(1+(1+1+(1+(1+(1+(1+(1+1)+(1+(1+1)+1)))))))))))) (BP5 y3)) (a8 (Int×PUnit) (λX4 s5=>aD (decide (s5.1<(↑(BP5 y3).length:Int))) (aX aP (BP5 y3) s5.1 λ(y6:bD)=>jD aP (BP5 y3) (Int.toNat s5.1) 0 λ(y7:bD)=>aD (decide (y7.1=a2.1)) (aX aP (BP5 y3) s5.1 λ(y8:bD)=>wP (BP5 y3) (Int.toNat s5.1) λ(y9:List T)=>b7 (decide (4<=y9.length)) (aM BPG (cV [T.agg (BRB y3 s5 y9 a2), aF true aI a1]) λ(y10:Int)=>aD (!decide (y10=0)) (BQ4 R y10) (R (T.bY [T.agg (BRB y3 s5 y9 a2), pPP 0])))) (BP4 X4 s5)) (aX aP (BP5 y3) (-1) λ(y11:bD)=>wP (BP5 y3) (-1).toNat λ(y12:List T)=>b7 (decide (4<=y12.length)) (aM BPG (cV [T.agg (BQ7 y3 y12 a2), aF true aI a1]) λ(y13:Int)=>aD (!decide (y13=0)) (BQ4 R y13) (R (T.bY [T.agg (BQ7 y3 y12 a2), pPP 0]))))) (0,()))))
def AWM ( a0 a1 a2 R):dM bX Tryz.prog AUF BDE 8 66 (K1 a0 a1 a2) R=AWL a0 a1 a2 R:=by kernel_rfl
def AKE:fR->Option T:=spAp 6
def ANS (x y:fR) (h:K1 x.1 x.2.1 x.2.2=K1 y.1 y.2.1 y.2.2):x=y:=eT 6 x y h
def A1G:List T->Option (T):=gA (λ(x:aA×aE×bV)=>K1 x.1 x.2.1 x.2.2) AKE
def A1H (a0:aA) (a1:aE) (a2:bV):A1G (K1 a0 a1 a2)=AKE (a0,a1,a2):=dY (A:=(λ(x:aA×aE×bV)=>K1 x.1 x.2.1 x.2.2)) ANS (a0,a1,a2)
def BIP (h:∀ (a0:aA) (a1:aE) (a2:bV) (r:T),AKE (a0,a1,a2)=some r->(∀ t∈K1 a0 a1 a2,Bd t)->AWL a0 a1 a2 (λy=>y=r)):aO Tryz.prog 66 A1G :=
 cE (E:=AUF) (Hs:=BDE) A7W aV aY (aN rfl) 8 ⟨_,_,Tryz.func66,rfl⟩ λx r h1 h2=>by
  rw[AWM];exact h x.1 x.2.1 x.2.2 r h1 h2
def BF9:aO Tryz.prog 66 A1G:=BIP λd m x r h hb=>by
 clear hb;obtain ⟨hp,rfl⟩:=l8 h;clear h;obtain ⟨hc,ho1,ho2⟩:=vP hp;have c:=eV hc;have hk:(1:Int)<=((6,x):aQ).1/\((6,x):aQ).1<=12:=by dsimp only;omega
 have lift:∀ {a:aA×Int},bO d m (6,x)=a->∀ v,v=Sh.enc [(true,aB),(false,.int .i64)] a->v=Sh.enc [(true,aB),(false,.int .i64)] (bO d m (6,x)):=λh v hv=>by rw[h];exact hv
 unfold AWL BRQ BRB BQ7 BQU BQM BQB BP8 BQ4 BP5 BP3 BP4 BP2 BPR BPI BPG BPF;have z1:SN [aF true aJ (6,x)]=some (Sh.enc [(true,aJ)] (dE (6,x))):=(A2R ..).trans rfl;refine aK (s:=[(true,aJ)]) (y:=dE (6,x)) z1 ?_;have z2:dB [aF true aJ (6,x),aF true aJ (dE (6,x))]=some (Sh.enc qF (pE (6,x) (dE (6,x)))):=qZ ..;refine aK (s:=qF) (y:=pE (6,x) (dE (6,x))) z2 ?_;refine lD (λh=>lift (DW hk h) _ rfl) λhE=>?_;have h5:¬ ((6,x):aQ).1=5:=by dsimp only;omega
 refine aK (s:=[(true,aP),(false,.bool)]) (y:=found bL (partOf d (dW (6,x)))) ((nW ..).trans (by unfold kN;dsimp only;rw[c.A0];rfl)) ?_;have ht:cN d (6,x)=(found bL (partOf d (dW (6,x)))).2:=(qA ..).symm;refine lD (λh=>lift (MS hk h5 hE rfl (ht.trans h)) _ rfl) λh=>?_;have hth:cN d (6,x) = !fW (6,x):=ht.trans h;have hus:jY d (6,x)=false:=rfl;have hso:(partOf d (dW (6,x))).isSome=true:=(qA ..).symm.trans h;refine aK (s:=[(true,aB)]) (y:=d) ((qC ..).trans (fF hc)) ⟨TJ (ADO hso) rfl,?_⟩;refine dD (r:=aP) (λp=>bZ (dW (6,x)) p) (pC c.p) (λX k y hlt hy hp hn=>?_) (λh0 ha=>absurd (ADN hso) (by rw[ha];exact Bool.false_ne_true));rw[show Int.toNat (k:Int)=k from rfl,jU (r:=aP) hlt];refine cO (λhe=>?_) λhe=>hn (by subst hy;exact aj he);obtain ⟨hidx,_⟩:=hp (by subst hy;exact ai he);rw[bG (r:=aP) hlt,pT (r:=aP) hlt];refine ⟨by rw[Sy.cP];rfl,?_⟩;have hD:eQ d (6,x)=(d.1,d.2.1,d.2.2.1.set k (DC d.2.2.1[k] (eTo (6,x))),d.2.2.2):=by
  have e:eQ d (6,x)=(d.1,d.2.1,yY (bZ (dW (6,x))) (λp=>DC p (eTo (6,x))) d.2.2.1,d.2.2.2):=rfl;rw[e,ALM hlt hidx]
 have hs:(List.map aP.enc d.2.2.1).set k (bU (aP.enc d.2.2.1[k]) 3 [pPQ x.2.1])=List.map aP.enc (d.2.2.1.set k (DC d.2.2.1[k] (eTo (6,x)))):=AM7 (r:=aP) rfl;rw[hs];have z3:=nV (a0:=eQ d (6,x)) (a1:=m);have hchk:=u5 (m:=m) hk h5 hE hth hus;rw[hD] at z3 hchk;refine aK (s:=[(false,.int .i64)]) z3 ?_;exact lK (λh=>lift (hchk.trans (if_neg h)) _ rfl) λh=>lift (hchk.trans (if_pos h)) _ rfl
def K0 (a0:aA) (a1:aE) (a2:bV):List T:=[aF true aB a0,aF true aI a1,aF true aJ (5,a2)]
def AUE:Env:=Env.of [(93,.pure dB),(181,.pure SM),(94,.pure fZ),(183,.pure kG),(108,.pure e6),(69,.part 2 OA),(65,.pure cV)]
def BDD:FuncId->Hint:=cF 185 [(2,.inv [.val 8 false (.int .i64)])] (λ_=>a6)
def A7V:aR Tryz.prog AUE:=.cons jR (.cons BG7 (.cons qV (.cons tW (.cons nU (.cons ALZ (.cons j7 (.nil _)))))))
def BP1(y9:bD)(y11:Int):List T:=[pPQ y9.1, pPP (i64.wrap (y11+1)), pPP y9.2.2.1, pPQ y9.2.2.2.1, pPQ y9.2.2.2.2.1, pPP y9.2.2.2.2.2.1, T.sl false (List.map aC.enc y9.2.2.2.2.2.2.1.1), T.sl false (List.map aC.li.enc y9.2.2.2.2.2.2.1.2), pPQ y9.2.2.2.2.2.2.2.1, pPP y9.2.2.2.2.2.2.2.2.1, pPP y9.2.2.2.2.2.2.2.2.2.1, pPP y9.2.2.2.2.2.2.2.2.2.2.1.1, pPP y9.2.2.2.2.2.2.2.2.2.2.1.2.1, pPP y9.2.2.2.2.2.2.2.2.2.2.1.2.2, pPP y9.2.2.2.2.2.2.2.2.2.2.2.1.1, pPP y9.2.2.2.2.2.2.2.2.2.2.2.1.2.1, pPP y9.2.2.2.2.2.2.2.2.2.2.2.1.2.2, pPP y9.2.2.2.2.2.2.2.2.2.2.2.2]
def BRG(y4:aA)(y19:List T)(y15:bD)(y17:Int):List T:=[pPQ y4.1, T.sl false (BQB y4), T.sl false ((BP5 y4).set (-1).toNat (bU y19 0 (BP1 y15 y17))), T.sl false (BP8 y4), T.sl false (BP3 y4), T.sl false (BP2 y4)]
def BRL(y4:aA)(s6:Int×PUnit)(y13:List T)(y9:bD)(y11:Int):List T:=[pPQ y4.1, T.sl false (BQB y4), T.sl false ((BP5 y4).set (Int.toNat s6.1) (bU y13 0 (BP1 y9 y11))), T.sl false (BP8 y4), T.sl false (BP3 y4), T.sl false (BP2 y4)]
def AWJ(a0:aA)(a1:aE)(a2:bV)(R:T->Prop):Prop:=aM [(true,aJ)] (SM [(aF true aJ (5,a2))]) λ(y0:aQ)=>aM BPI (dB [(aF true aJ (5,a2)), aF true aJ y0]) λ(y1:Bool)=>aD (!y1) (BQM R) (aD (!decide (a2.2.2.2.1.2.1=0)) (BQM R) (aM BPR (fZ (BRY a0 a2)) λ(y2:bD×Bool)=>aD (!y2.2) (BQU R) (aM BPR (fZ (BRY a0 a2)) λ(y3:bD×Bool)=>aD (!decide (y3.1.2.2.2.1=a2.2.2.2.1.2.2.2.1)) (BQM R) (aM [(true,aB)] (OA [aF true aB a0]) λ(y4:aA)=>b7 (!(BP5 y4).isEmpty && iB (1 + (1+(1+(1+(1+(1+(1+1+(1+(1+(1+(1+(1+1)+(1+(1+1)+1)))))))))))) (BP5 y4)) (a8 (Int×PUnit) (λX5 s6=>aD (decide (s6.1<(↑(BP5 y4).length:Int))) (aX aP (BP5 y4) s6.1 λ(y7:bD)=>jD aP (BP5 y4) (Int.toNat s6.1) 0 λ(y8:bD)=>aD (decide (y8.1=a2.2.2.2.1.1)) (aM [(true,aP)] (e6 [aF true aP a2.2.2.2.1]) λ(y9:bD)=>aX aP (BP5 y4) s6.1 λ(y10:bD)=>jD BPM (BP5 y4) (Int.toNat s6.1) 1 λ(y11:Int)=>aX aP (BP5 y4) s6.1 λ(y12:bD)=>wP (BP5 y4) (Int.toNat s6.1) λ(y13:List T)=>b7 (decide (18<=y13.length)) (aM BPG (cV [T.agg (BRL y4 s6 y13 y9 y11), aF true aI a1]) λ(y14:Int)=>aD (!decide (y14=0)) (BQ4 R y14) (R (T.bY [T.agg (BRL y4 s6 y13 y9 y11), pPP 0])))) (BP4 X5 s6)) (aM [(true,aP)] (e6 [aF true aP a2.2.2.2.1]) λ(y15:bD)=>aX aP (BP5 y4) (-1) λ(y16:bD)=>jD BPM (BP5 y4) (-1).toNat 1 λ(y17:Int)=>aX aP (BP5 y4) (-1) λ(y18:bD)=>wP (BP5 y4) (-1).toNat λ(y19:List T)=>b7 (decide (18<=y19.length)) (aM BPG (cV [T.agg (BRG y4 y19 y15 y17), aF true aI a1]) λ(y20:Int)=>aD (!decide (y20=0)) (BQ4 R y20) (R (T.bY [T.agg (BRG y4 y19 y15 y17), pPP 0]))))) (0,()))))))
def AWK ( a0 a1 a2 R):dM bX Tryz.prog AUE BDD 8 66 (K0 a0 a1 a2) R=AWJ a0 a1 a2 R:=by kernel_rfl
def AKD:fR->Option T:=spAp 5
def ANR (x y:fR) (h:K0 x.1 x.2.1 x.2.2=K0 y.1 y.2.1 y.2.2):x=y:=eT 5 x y h
def A1E:List T->Option (T):=gA (λ(x:aA×aE×bV)=>K0 x.1 x.2.1 x.2.2) AKD
def A1F (a0:aA) (a1:aE) (a2:bV):A1E (K0 a0 a1 a2)=AKD (a0,a1,a2):=dY (A:=(λ(x:aA×aE×bV)=>K0 x.1 x.2.1 x.2.2)) ANR (a0,a1,a2)
def BIO (h:∀ (a0:aA) (a1:aE) (a2:bV) (r:T),AKD (a0,a1,a2)=some r->(∀ t∈K0 a0 a1 a2,Bd t)->AWJ a0 a1 a2 (λy=>y=r)):aO Tryz.prog 66 A1E :=
 cE (E:=AUE) (Hs:=BDD) A7V aV aY (aN rfl) 8 ⟨_,_,Tryz.func66,rfl⟩ λx r h1 h2=>by
  rw[AWK];exact h x.1 x.2.1 x.2.2 r h1 h2
def BF8:aO Tryz.prog 66 A1E:=BIO λd m x r h hb=>by
 clear hb;obtain ⟨hp,rfl⟩:=l8 h;clear h;obtain ⟨hc,ho1,ho2⟩:=vP hp;have c:=eV hc;have hk:(1:Int)<=((5,x):aQ).1/\((5,x):aQ).1<=12:=by dsimp only;omega
 have lift:∀ {a:aA×Int},bO d m (5,x)=a->∀ v,v=Sh.enc [(true,aB),(false,.int .i64)] a->v=Sh.enc [(true,aB),(false,.int .i64)] (bO d m (5,x)):=λh v hv=>by rw[h];exact hv
 unfold AWJ BRY BRL BRG BQU BQM BQB BP8 BQ4 BP5 BP3 BP1 BP4 BP2 BPR BPM BPI BPG BPF;have z1:SM [aF true aJ (5,x)]=some (Sh.enc [(true,aJ)] (dE (5,x))):=(A2Q ..).trans rfl;refine aK (s:=[(true,aJ)]) (y:=dE (5,x)) z1 ?_;have z2:dB [aF true aJ (5,x),aF true aJ (dE (5,x))]=some (Sh.enc qF (pE (5,x) (dE (5,x)))):=qZ ..;refine aK (s:=qF) (y:=pE (5,x) (dE (5,x))) z2 ?_;refine lD (λh=>lift (DW hk h) _ rfl) λhE=>?_;have hr:¬ (¬ (1<=((5,x):aQ).1/\((5,x):aQ).1<=12)):=λh=>h hk;refine lK (λh=>lift (by unfold bO;rw[if_neg hr,if_pos (.inr ⟨rfl,h⟩)]) _ rfl) λhrev=>?_;have hpl:¬ (pE (5,x) (dE (5,x))=false\/(((5,x):aQ).1=5/\¬ (bW (5,x)).2.1=0)):=λh=>h.elim (λe=>by rw[hE] at e;cases e) λe=>e.2 hrev;refine aK (s:=[(true,aP),(false,.bool)]) (y:=found bL (partOf d (bW (5,x)).1)) ((nW ..).trans (by unfold kN;dsimp only;rw[c.A0];rfl)) ?_;have ht:cN d (5,x)=(found bL (partOf d (bW (5,x)).1)).2:=(qA ..).symm;have had:¬ (fW (5,x)=true/\cN d (5,x)=true):=λh=>by cases h.1
 refine lD (λh=>lift (by unfold bO;rw[if_neg hr,if_neg hpl,if_neg had,if_pos ⟨rfl,ht.trans h⟩]) _ rfl) λh=>?_;have hno:¬ (fW (5,x)=false/\cN d (5,x)=false):=λe=>by rw[ht,h] at e;cases e.2
 have hso:(partOf d (bW (5,x)).1).isSome=true:=(qA ..).symm.trans h;refine aK (s:=[(true,aP),(false,.bool)]) (y:=found bL (partOf d (bW (5,x)).1)) ((nW ..).trans (by unfold kN;dsimp only;rw[c.A0];rfl)) ?_;refine lK (λh=>lift (by unfold bO;rw[if_neg hr,if_neg hpl,if_neg had,if_neg hno,if_pos ⟨rfl,h⟩]) _ rfl) λhnode=>?_;have hnd:¬ (((5,x):aQ).1=5/\¬ fV (found bL (partOf d (bW (5,x)).1)).1=fV (bW (5,x))):=λe=>e.2 hnode;have hchk:bO d m (5,x)=if fX (eQ d (5,x)) m=0 then (eQ d (5,x),0) else (iP,fX (eQ d (5,x)) m):=by
  have hu:¬ jY d (5,x)=true:=λh=>by cases h
  unfold bO;rw[if_neg hr,if_neg hpl,if_neg had,if_neg hno,if_neg hnd,if_neg hu]
 refine aK (s:=[(true,aB)]) (y:=d) ((qC ..).trans (fF hc)) ⟨TJ (ADO hso) rfl,?_⟩;refine dD (r:=aP) (λp=>bZ (bW (5,x)).1 p) (pC c.p) (λX k y hlt hy hp hn=>?_) (λh0 ha=>absurd (ADN hso) (by rw[ha];exact Bool.false_ne_true));rw[show Int.toNat (k:Int)=k from rfl,jU (r:=aP) hlt];refine cO (λhe=>?_) λhe=>hn (by subst hy;exact aj he);obtain ⟨hidx,_⟩:=hp (by subst hy;exact ai he);refine aK (s:=[(true,aP)]) (y:=bW (5,x)) ((pM ..).trans (by unfold iO;rw[ho1])) ?_;rw[bG (r:=aP) hlt];refine ⟨aP.enc d.2.2.1[k],(d.2.2.1[k]).2.1,rZ.2 (List.getElem?_eq_getElem hlt),by rw[Sy.cP];decide,rfl,?_⟩;dsimp only;rw[bG (r:=aP) hlt,pT (r:=aP) hlt];refine ⟨by rw[Sy.cP];rfl,?_⟩;have hD:eQ d (5,x)=(d.1,d.2.1,d.2.2.1.set k (Q8 (bW (5,x)) d.2.2.1[k]),d.2.2.2):=by
  have e:eQ d (5,x)=(d.1,d.2.1,yY (bZ (bW (5,x)).1) (Q8 (bW (5,x))) d.2.2.1,d.2.2.2):=rfl;rw[e,ALM hlt hidx]
 generalize hrow:bU (aP.enc d.2.2.1[k]) 0 _=row;have hs:(List.map aP.enc d.2.2.1).set k row=List.map aP.enc (d.2.2.1.set k (Q8 (bW (5,x)) d.2.2.1[k])):=AM7 (r:=aP) (by rw[<-hrow,QB _ _ (by rw[Sy.cP];rfl)];rfl);rw[hs];have z3:=nV (a0:=eQ d (5,x)) (a1:=m);rw[hD] at z3 hchk;refine aK (s:=[(false,.int .i64)]) z3 ?_;exact lK (λh=>lift (hchk.trans (if_neg h)) _ rfl) λh=>lift (hchk.trans (if_pos h)) _ rfl
end Go.Pv
end
