/-
  poly.Where; region: edges, within, apart, Check, Area2.
  region: Check, Area2.
  vec.Valid; material: Check, Grade, Rolled.
  part: Check, Mass.
  Chapter 17: the tree's parts and packages in full.
  Chapter 17: the tree's packages in full.
  Chapter 17: Check where the parts and packages are empty ones; StructureLong, walked.
  Chapter 17: structure.Check in full.
  StructureFinds: Part, Node, Seam and Package answer as the reference does.
  StructureSames: Same answers as the reference does.
  What an edit does to a design, in plain words.
  Edits of different elements do not touch each other (plain).
  Two accepted edits that name nothing in common lead to one design in both sequences (plain).
  slices.Clone, Insert, Delete at the design's lists.
  edit.same; copies of parts, packages, designs.
  The reference's material.Check.
  R17.Has.
  The form of a design, as the reference looks at it.
-/
import Derived.Test.YtepoplfbgaoggaaGreatDoorOnez1
import Derived.Sort.Walk0
import Derived.Test.YtepoplfbgaoggaaGreatDoorOnekp
import Derived.Test.YtepoplfbgaoggaaGreatDoorOnekj
import Derived.Test.YtepoplfbgaoggaaGreatDoorOnein
import Derived.KernelRfl
set_option linter.defProp false
set_option linter.unusedSimpArgs false
set_option linter.unusedVariables false
set_option maxRecDepth 100000
noncomputable section
namespace Go.Pv
open Go Go.Proofs IntKind
def AAB (p:List Pt) (q:Pt):Bool:=(List.range p.length).any λi=>tC (pt p i) (nx p i) q
def iI (p:List Pt) (q:Pt):Int:=if ¬ dQ q\/¬ iS p=0 then -1 else if AAB p q=true then 0 else if jQ p q=true then 1 else -1
def mU {n:Nat} {f:Nat->Bool}:(List.range n).any f=true↔∃ i,i<n/\f i=true:=by simp[List.any_eq_true,List.mem_range]
def ACI {n:Nat} {f:Nat->Bool} (h:∀ i,i<n->f i=false):(List.range n).any f=false:=by
 rw[Bool.eq_false_iff];intro ha;obtain ⟨i,hi,h2⟩:=mU.1 ha;rw[h i hi] at h2;cases h2
def BA4 {a b q:Pt} (ho:tC a b q=false):hit a b q=(!(decide (q.2<a.2) == decide (q.2<b.2))&&(decide (0<aR a b q) == decide (a.2<b.2))):=by
 rcases Int.lt_or_le q.2 a.2 with h1|h1
 ·rcases Int.lt_or_le q.2 b.2 with h2|h2
  ·unfold hit;simp[show ¬ a.2<=q.2 by omega,show ¬ b.2<=q.2 by omega,h1,h2]
  ·have hz:aR a b q≠0:=λh=>by
    have:=n8 (a:=b) (b:=a) (q:=q) (by rw[iX a b q,h];rfl) (by omega) h2 (by omega);rw[QR] at this;rw[this] at ho;cases ho
   have h3:decide (0<aR a b q) = !decide (aR a b q<0):=by
    rcases Int.lt_or_le (aR a b q) 0 with h|h
    ·rw[ai h,aj (by omega)];rfl
    ·rw[aj (show ¬ aR a b q<0 by omega),ai (by omega)];rfl
   unfold hit;rw[h3];simp[show ¬ a.2<=q.2 by omega,h1,h2,show ¬ q.2<b.2 by omega,show ¬ a.2<b.2 by omega]
 ·rcases Int.lt_or_le q.2 b.2 with h2|h2
  ·unfold hit;simp[h1,show ¬ q.2<a.2 by omega,h2,show ¬ b.2<=q.2 by omega,show a.2<b.2 by omega]
  ·unfold hit;simp[show ¬ q.2<a.2 by omega,show ¬ q.2<b.2 by omega]
def A4P:Env:=Env.of [(319,.pure iK),(357,.pure FN),(384,.pure A8),(379,.pure hO)]
def A69:FuncId->Hint:=bP 363 [(5,.inv [.val 5 false .bool,.val 19 false (.int .i64)])] (λ_=>bH)
def AOG:bB Tryz.prog A4P:=.cons FI (.cons AU2 (.cons A9A (.cons CW (.nil _))))
def BT9:Sh:=[(false,Sy.bool)]
def BUA:Sh:=[(false,Sy.int IntKind.i64)]
def BUB:T:=pPP 0
def BUP:T:=pPP (-1)
def BUW(a0:List aN):List (List T):=List.map aC.enc a0
def BVQ(a0:List aN):List T:=[T.sl false (BUW a0)]
def SE(a0:List aN)(a1:aN)(R:T->Prop):Prop:=aJ BT9 (FN [aH true aC a1]) λ(y0:Bool)=>aE y0 (R BUP) (aJ BUA (iK (BVQ a0)) λ(y1:Int)=>aE (!decide (y1=0)) (R BUP) (a7 (Bool×Int×PUnit) (λX2 s3=>aE (decide (s3.2.1<(↑(BUW a0).length:Int))) (aU aC (BUW a0) s3.2.1 λ(y4:aN)=>bO (!decide ((↑(BUW a0).length:Int)=0)) (aU aC (BUW a0) ((i64.wrap (s3.2.1+1)).tmod (↑(BUW a0).length:Int)) λ(y5:aN)=>aJ BT9 (A8 [aH true aC y4,aH true aC y5, aH true aC a1]) λ(y6:Bool)=>aE y6 (R BUB) (aE (decide (decide (a1.2<y4.2)=decide (a1.2<y5.2))) (X2 (s3.1,i64.wrap (s3.2.1+1),())) (aJ BUA (hO [aH true aC y4,aH true aC y5, aH true aC a1]) λ(y7:Int)=>aE (decide (decide (0<y7)=decide (y4.2<y5.2))) (X2 (!s3.1,i64.wrap (s3.2.1+1),())) (X2 (s3.1,i64.wrap (s3.2.1+1),())))))) (aE s3.1 (R (pPP 1)) (R BUP))) (false,0,())))
abbrev WR:Sh:=[(false,aC.li),(true,aC)]
def DO (x:List aN×aN):Option T:=some (T.v (Value.int .i64 (iI x.1 x.2)))
def nW:List T->Option T:=gS WR DO
def AKL {a0 a1}:nW [T.sl false (List.map aC.enc a0),aH true aC a1]=DO (a0,a1):=a8 (s:=WR) rfl (a0,a1) rfl
def A2V:nJ Tryz.prog 363 nW DO (bR WR) SE:=eV (a1:=(false,aC.li)) (a2:=(true,aC)) (Hs:=A69) (k:=8) AOG aV aY (aQ rfl) ⟨_,_,Tryz.func363,rfl⟩ rfl λ_ _ _=>by kernel_rfl
def nO (p q:List Pt):Bool:=(List.range p.length).any λi=>(List.range q.length).any λk=>dM (pt p i) (nx p i) (pt q k) (nx q k)
def nK (a0:List aN) (a1:List aN):List T:=[T.sl false (List.map aC.enc a0),T.sl false (List.map aC.enc a1),T.fn 361 [] []]
def RO:Env:=Env.of [(361,.pure BC)]
def AHY:FuncId->Hint:=bP 360 [(2,.inv [.val 13 false (.int .i64)]),(5,.inv [.val 20 false (.int .i64)])] (λ_=>bH)
def AOK:bB Tryz.prog RO:=.cons A0U (.nil _)
def BT7:T:=pPR false
def BUD:T:=pPR true
def BUV(X3:Int×PUnit->Prop)(s4:Int×PUnit):Prop:=X3 (i64.wrap (s4.1+1),())
def SK(a0:List aN)(a1:List aN)(R:T->Prop):Prop:=a7 (Int×PUnit) (λX0 s1=>aE (decide (s1.1<(↑(BUW a0).length:Int))) (aU aC (BUW a0) s1.1 λ(y2:aN)=>a7 (Int×PUnit) (λX3 s4=>aE (decide (s4.1<(↑(BUW a1).length:Int))) (aU aC (BUW a1) s4.1 λ(y5:aN)=>bO (!decide ((↑(BUW a0).length:Int)=0)) (aU aC (BUW a0) ((i64.wrap (s1.1+1)).tmod (↑(BUW a0).length:Int)) λ(y6:aN)=>bO (!decide ((↑(BUW a1).length:Int)=0)) (aU aC (BUW a1) ((i64.wrap (s4.1+1)).tmod (↑(BUW a1).length:Int)) λ(y7:aN)=>aJ BT9 (BC [aH true aC y2,aH true aC y6, aH true aC y5,aH true aC y7]) λ(y8:Bool)=>aE y8 (R BUD) (BUV X3 s4)))) (BUV X0 s1)) (0,())) (R BT7)) (0,())
def AHQ ( a0 a1 R):fE cA Tryz.prog RO AHY 8 360 (nK a0 a1) R=SK a0 a1 R:=by kernel_rfl
variable {α:Type}
def VP (p q:List Pt) (r:α):Option α:=match YQ p&&YQ q with
 | true=>some r
 | false=>none
def VQ {p q:List Pt} {t r:α} (h:VP p q t=some r):p.length<=1000/\lP p/\q.length<=1000/\lP q/\r=t:=by
 unfold VP at h;split at h
 ·rename_i hc;simp only[YQ,ac,ah,oS] at hc;cases h;exact ⟨hc.1.1,hc.1.2,hc.2.1,hc.2.2,rfl⟩
 ·cases h
def VR {p q:List Pt} (t:α) (h:p.length<=1000) (h2:lP p) (h3:q.length<=1000) (h4:lP q):VP p q t=some t:=by
 unfold VP;rw[show (YQ p&&YQ q)=true by simp only[YQ,ac,ah,oS];exact ⟨⟨h,h2⟩,h3,h4⟩]
def OA (x:List aN×List aN):Option T:=VP x.1 x.2 (pPR (nO x.1 x.2))
def ABF (x y:List aN×List aN) (h:nK x.1 x.2=nK y.1 y.2):x=y:=by
 unfold nK at h;obtain ⟨h1,h2⟩:=List.cons.inj h;have h2:=(List.cons.inj h2).1;exact Prod.ext (map_inj (Sy.eU aC) (T.sl.inj h1).2) (map_inj (Sy.eU aC) (T.sl.inj h2).2)
def pQ:List T->Option (T):=gA (λ(x:List aN×List aN)=>nK x.1 x.2) OA
def AKT (a0:List aN) (a1:List aN):pQ (nK a0 a1)=OA (a0,a1):=gF (A:=(λ(x:List aN×List aN)=>nK x.1 x.2)) ABF (a0,a1)
def A21 (h:∀ (a0:List aN) (a1:List aN) (r:T),OA (a0,a1)=some r->(∀ t∈nK a0 a1,Bd t)->SK a0 a1 (λy=>y=r)):aT Tryz.prog 360 pQ :=
 dA (E:=RO) (Hs:=AHY) AOK aV aY (aQ rfl) 8 ⟨_,_,Tryz.func360,rfl⟩ λx r h1 h2=>by
  rw[AHQ];exact h x.1 x.2 r h1 h2
def ZF:aT Tryz.prog 360 pQ:=A21 λp q r h hb=>by
 obtain ⟨hl,hn,hl2,hn2,rfl⟩:=VQ h;replace hl:p.length<=1000:=hl;replace hl2:q.length<=1000:=hl2;clear h;unfold SK BUW BUV BUD BT9 BT7;refine bJ p.length (λk s=>s=((k:Int),())/\∀ i,i<k->i<p.length->((List.range q.length).any λk=>dM (pt p i) (nx p i) (pt q k) (nx q k))=false) ⟨rfl,λi h=>by omega⟩ ?_;rintro X k s hk ⟨rfl,hJ⟩ hX;dsimp only;refine b8 (λhlt=>?_) λhge=>iG (Eq.symm (ACI λi hi=>hJ i (by rw[ae] at hge;omega) hi));rw[ae] at hlt;have hlt:k<p.length:=by omega
 have hne:(!decide (((List.map aC.enc p).length:Int)=0))=true:=by rw[ae,aj (by omega)];rfl
 have hm1:(k+1) % p.length<p.length:=Nat.mod_lt _ (by omega);have i1:(i64.wrap ((k:Int)+1)).tmod ((List.map aC.enc p).length:Int)=(((k+1) % p.length:Nat):Int):=by rw[ae];exact yD (c:=1) hl (by omega) (by omega)
 rw[gJ hlt];refine bJ q.length (λj s=>s=((j:Int),())/\∀ i,i<j->i<q.length->dM (pt p k) (nx p k) (pt q i) (nx q i)=false) ⟨rfl,λi h=>by omega⟩ ?_;rintro Y j s hj ⟨rfl,hI⟩ hY;dsimp only;refine b8 (λhlj=>?_) λhgj=>hX _ hlt ⟨by rw[show i64.wrap ((k:Int)+1)=((k+1:Nat):Int) from aZ _ (by omega) (by omega)],λi h1 h2=>by
  rcases Nat.lt_or_ge i k with h3|h3
  ·exact hJ i h3 h2
  ·have:i=k:=by omega
   subst this;exact ACI λm hm=>hI m (by rw[ae] at hgj;omega) hm⟩
 rw[ae] at hlj;have hlj:j<q.length:=by omega
 have hne2:(!decide (((List.map aC.enc q).length:Int)=0))=true:=by rw[ae,aj (by omega)];rfl
 have hm2:(j+1) % q.length<q.length:=Nat.mod_lt _ (by omega);have i2:(i64.wrap ((j:Int)+1)).tmod ((List.map aC.enc q).length:Int)=(((j+1) % q.length:Nat):Int):=by rw[ae];exact yD (c:=1) hl2 (by omega) (by omega)
 rw[gJ hlj,i1];refine ⟨hne,?_⟩;rw[gJ hm1,i2];refine ⟨hne2,?_⟩;rw[gJ hm2];refine aM (s:=[(false,.bool)]) ((AKZ ..).trans (ALN _ (hn.pt _) (hn.pt _) (hn2.pt _) (hn2.pt _))) ?_;refine zQ (λh=>iG (Eq.symm (mU.2 ⟨k,hlt,mU.2 ⟨j,hlj,h⟩⟩))) λh=>hY _ hlj ⟨by rw[show i64.wrap ((j:Int)+1)=((j+1:Nat):Int) from aZ _ (by omega) (by omega)],λi h1 h2=>by
  rcases Nat.lt_or_ge i j with h3|h3
  ·exact hI i h3 h2
  ·have:i=j:=by omega
   subst this;exact h⟩
def O0 {p q:List Pt} (h:p.length<=1000) (h2:lP p) (h3:q.length<=1000) (h4:lP q):pQ (nK p q)=some (Sh.enc [(false,.bool)] (nO p q)):=(AKT ..).trans (VR _ h h2 h3 h4)
def ZD:aT Tryz.prog 363 nW:=A2V λp q r h hb=>by
 cases h;have is:∀ {n:Int},iI p q=n->pPP n=pPP (iI p q):=λh=>by rw[h]
 unfold SE BVQ BUW BUP BUB BUA BT9;refine aM (s:=[(false,.bool)]) (y:=!decide (dQ q)) (ZP ..) ?_;refine kD (λh=>is (by unfold iI;rw[if_pos (.inl h)])) λhq=>?_;refine aM (s:=[(false,.int .i64)]) (q0 p) ?_;refine kD (λh=>is (by unfold iI;rw[if_pos (.inr h)])) λhp=>?_;obtain ⟨hl3,hl32,hn,_⟩:=iT hp;have w:iI p q=if AAB p q=true then 0 else if jQ p q=true then 1 else -1:=by
  unfold iI;rw[if_neg];rintro (h|h)
  ·exact h hq
  ·exact h hp
 refine bJ p.length (λk s=>s=(jB k (λi=>hit (pt p i) (nx p i) q),(k:Int),())/\∀ i,i<k->i<p.length->tC (pt p i) (nx p i) q=false) ⟨rfl,λi h=>by omega⟩ ?_;rintro X k s hk ⟨rfl,hJ⟩ hX;dsimp only;refine b8 (λhlt=>?_) λhge=>?_
 ·rw[ae] at hlt;have hlt:k<p.length:=by omega
  have hne:(!decide (((List.map aC.enc p).length:Int)=0))=true:=by rw[ae,aj (by omega)];rfl
  have hm1:(k+1) % p.length<p.length:=Nat.mod_lt _ (by omega);have i1:(i64.wrap ((k:Int)+1)).tmod ((List.map aC.enc p).length:Int)=(((k+1) % p.length:Nat):Int):=by rw[ae];exact yD (c:=1) (by omega) (by omega) (by omega)
  rw[gJ hlt,i1];refine ⟨hne,?_⟩;rw[gJ hm1];refine aM (s:=[(false,.bool)]) (A9 (hn.pt _) (hn.pt _) hq) ?_;refine zQ (λh=>is (by rw[w,if_pos (show AAB p q=true from mU.2 ⟨k,hlt,h⟩)])) λho=>?_;have ho:tC (pt p k) (nx p k) q=false:=ho;have hw:i64.wrap ((k:Int)+1)=((k+1:Nat):Int):=aZ _ (by omega) (by omega);have hh:=BA4 ho;have hJ':∀ i,i<k+1->i<p.length->tC (pt p i) (nx p i) q=false:=λi h1 h2=>by
   rcases Nat.lt_or_ge i k with h3|h3
   ·exact hJ i h3 h2
   ·have:i=k:=by omega
    subst this;exact ho
  have step:∀ c,hit (pt p k) (nx p k) q=c->X ((jB k (λi=>hit (pt p i) (nx p i) q) ^^ c),i64.wrap ((k:Int)+1),()):=λc hc=>hX _ hlt ⟨by rw[hw,jB,hc],hJ'⟩;refine b8 (λh=>?_) λh=>?_
  ·have e:hit (pt p k) (nx p k) q=false:=by
    rw[hh,show decide (q.2<(pt p k).2)=decide (q.2<(nx p k).2) from h];simp
   have:=step false e;rwa[Bool.xor_false] at this
  ·refine aM (s:=[(false,.int .i64)]) (kO (hn.pt _) (hn.pt _) hq) ?_;have e0:hit (pt p k) (nx p k) q=(decide (0<aR (pt p k) (nx p k) q) == decide ((pt p k).2<(nx p k).2)):=by
    rw[hh,show (decide (q.2<(pt p k).2) == decide (q.2<(nx p k).2))=false from beq_eq_false_iff_ne.2 h];rfl
   refine b8 (λh2=>?_) λh2=>?_
   ·have:=step true (by rw[e0];exact beq_iff_eq.2 h2);rwa[Bool.xor_true] at this
   ·have:=step false (by rw[e0];exact beq_eq_false_iff_ne.2 h2);rwa[Bool.xor_false] at this
 ·rw[ae] at hge;have:k=p.length:=by omega
  subst this;have hna:AAB p q=false:=ACI λi hi=>hJ i hi hi;refine zQ (λh=>is ?_) λh=>is ?_
  ·rw[w,hna,if_neg (by simp),if_pos (show jQ p q=true from h)]
  ·rw[w,hna,if_neg (by simp),if_neg (by rw[show jQ p q=false from h];simp)]
def BA (p:List Pt) (q:Pt):nW [T.sl false (List.map aC.enc p),aH true aC q]=some (Sh.enc [(false,.int .i64)] (iI p q)):=AKL ..
def lO (p o:List Pt):Bool:=!nO p o&&p.all λc=>decide (iI o c=1)
def oK (p q:List Pt):Bool:=!nO p q&&(decide (iI p (pt q 0)<0)&&decide (iI q (pt p 0)<0))
def AX0:Env:=Env.of [(363,.pure nW),(360,.pure pQ)]
def AY5:FuncId->Hint:=bP 378 [(2,.inv [.val 8 false (.int .i64)])] (λ_=>bH)
def AHH:bB Tryz.prog AX0:=.cons ZD (.cons ZF (.nil _))
def K3(a0:List aN)(a1:List aN)(R:T->Prop):Prop:=aJ BT9 (pQ [T.sl false (BUW a0),T.sl false (BUW a1), T.fn 361 [] []]) λ(y0:Bool)=>aE (!y0) (a7 (Int×PUnit) (λX1 s2=>aE (decide (s2.1<(↑(BUW a0).length:Int))) (aU aC (BUW a0) s2.1 λ(y3:aN)=>aJ BUA (nW [T.sl false (BUW a1),aH true aC y3]) λ(y4:Int)=>aE (!decide (y4=1)) (R (pPR (!decide (0<=s2.1)))) (BUV X1 s2)) (R BUD)) (0,())) (R BT7)
abbrev NN:Sh:=[(false,aC.li),(false,aC.li)]
def yZ (x:List aN×List aN):Option T:=VP x.1 x.2 (pPR (lO x.1 x.2))
def rM:List T->Option T:=gS NN yZ
def ADV {a0 a1}:rM [T.sl false (List.map aC.enc a0),T.sl false (List.map aC.enc a1)]=yZ (a0,a1):=a8 (s:=NN) rfl (a0,a1) rfl
def ASN:nJ Tryz.prog 321 rM yZ (bR NN) K3:=eV (a1:=(false,aC.li)) (a2:=(false,aC.li)) (Hs:=AY5) (k:=8) AHH aV aY (aQ rfl) ⟨_,_,Tryz.func321,rfl⟩ rfl λ_ _ _=>by kernel_rfl
def AQL:aT Tryz.prog 321 rM:=ASN λp o r h hb=>by
 obtain ⟨hl,hn,hl2,hn2,rfl⟩:=VQ h;replace hl:p.length<=1000:=hl;clear h;unfold K3 BUW BUV BUD BUA BT9 BT7;refine aM (s:=[(false,.bool)]) (O0 hl hn hl2 hn2) ?_;refine eQ (λhe=>?_) λhe=>iG (by unfold lO;rw[show nO p o=true from he];rfl);have w:lO p o=p.all λc=>decide (iI o c=1):=by unfold lO;rw[show nO p o=false from he];rfl
 refine bJ p.length (λk s=>s=((k:Int),())/\p.all (λc=>decide (iI o c=1))=(p.drop k).all λc=>decide (iI o c=1)) ⟨rfl,by rw[List.drop_zero]⟩ ?_;rintro X k s hk ⟨rfl,hJ⟩ hX;dsimp only;refine b8 (λhlt=>?_) λhge=>iG ?_
 ·rw[ae] at hlt;have hlt:k<p.length:=by omega
  rw[List.drop_eq_getElem_cons hlt,List.all_cons] at hJ;rw[bA (r:=aC) hlt];refine aM (s:=[(false,.int .i64)]) (BA o p[k]) ?_;refine kD (λh=>iG ?_) λh=>hX _ hlt ⟨by rw[show i64.wrap ((k:Int)+1)=((k+1:Nat):Int) from aZ _ (by omega) (by omega)],by rw[hJ,ai (show iI o p[k]=1 from h),Bool.true_and]⟩;rw[w,hJ,aj (show ¬ iI o p[k]=1 from h),ai (show 0<=(k:Int) by omega)];rfl
 ·rw[ae] at hge;have:k=p.length:=by omega
  subst this;rw[w,hJ,List.drop_length];rfl
def ADW {p q:List Pt} (h:p.length<=1000) (h2:lP p) (h3:q.length<=1000) (h4:lP q):rM [T.sl false (List.map aC.enc p),T.sl false (List.map aC.enc q)]=some (Sh.enc [(false,.bool)] (lO p q)):=(ADV ..).trans (VR _ h h2 h3 h4)
def ASU (p q:List Pt) (t:T):Option T:=match p,q with
 | _::_,_::_=>VP p q t
 | _,_=>none
def A4Q:Env:=Env.of [(363,.pure nW),(360,.pure pQ)]
def AOH:bB Tryz.prog A4Q:=.cons ZD (.cons ZF (.nil _))
def SF(a0:List aN)(a1:List aN)(R:T->Prop):Prop:=aJ BT9 (pQ [T.sl false (BUW a0),T.sl false (BUW a1), T.fn 361 [] []]) λ(y0:Bool)=>aE (!y0) (aU aC (BUW a1) 0 λ(y1:aN)=>aJ BUA (nW [T.sl false (BUW a0),aH true aC y1]) λ(y2:Int)=>aE (decide (y2<0)) (aU aC (BUW a0) 0 λ(y3:aN)=>aJ BUA (nW [T.sl false (BUW a1),aH true aC y3]) λ(y4:Int)=>R (pPR (decide (y4<0)))) (R BT7)) (R BT7)
abbrev WS:Sh:=[(false,aC.li),(false,aC.li)]
def rQ (x:List aN×List aN):Option T:=ASU x.1 x.2 (pPR (oK x.1 x.2))
def v8:List T->Option T:=gS WS rQ
def AKM {a0 a1}:v8 [T.sl false (List.map aC.enc a0),T.sl false (List.map aC.enc a1)]=rQ (a0,a1):=a8 (s:=WS) rfl (a0,a1) rfl
def A2W:nJ Tryz.prog 322 v8 rQ (bR WS) SF:=eV (a1:=(false,aC.li)) (a2:=(false,aC.li)) (Hs:=c0) (k:=8) AOH aV aY (aQ rfl) ⟨_,_,Tryz.func322,rfl⟩ rfl λ_ _ _=>by kernel_rfl
def A0Q:aT Tryz.prog 322 v8:=A2W λp q r h hb=>by
 unfold rQ ASU at h;split at h
 ·rename_i e1 e2;obtain ⟨hl,hn,hl2,hn2,rfl⟩:=VQ h;have k1:0<p.length:=by rw[show p=_ from e1];simp
  have k2:0<q.length:=by rw[show q=_ from e2];simp
  clear h;unfold SF BUW BUA BT9 BT7;refine aM (s:=[(false,.bool)]) (O0 hl hn hl2 hn2) ?_;refine eQ (λhe=>?_) λhe=>iG (by unfold oK;rw[show nO p q=true from he];rfl);have w:oK p q=(decide (iI p (pt q 0)<0)&&decide (iI q (pt p 0)<0)):=by unfold oK;rw[show nO p q=false from he];rfl
  rw[show (0:Int)=((0:Nat):Int) from rfl,gJ k2];refine aM (s:=[(false,.int .i64)]) (BA p (pt q 0)) ?_;refine b8 (λh=>?_) λh=>iG (by rw[w,aj (show ¬ iI p (pt q 0)<0 from h)];rfl);rw[gJ k1];refine aM (s:=[(false,.int .i64)]) (BA q (pt p 0)) ?_;exact iG (by rw[w,ai (show iI p (pt q 0)<0 from h)];rfl)
 ·cases h
def AKN {p q:List Pt} (k1:0<p.length) (k2:0<q.length) (h:p.length<=1000) (h2:lP p) (h3:q.length<=1000) (h4:lP q):v8 [T.sl false (List.map aC.enc p),T.sl false (List.map aC.enc q)]=some (Sh.enc [(false,.bool)] (oK p q)):=by
 refine (AKM ..).trans ?_;unfold rQ ASU;cases p with
 | nil=>simp at k1
 | cons a p=>cases q with
  | nil=>simp at k2
  | cons b q=>exact VR _ h h2 h3 h4
variable {Exit:Prop}
def tN {r:Sy} {l:List r.den} (f:Nat->Int) (hl:l.length<=1000000) {Body:(Int×PUnit->Prop)->Int×PUnit->r.den->Prop}
  (hbody:∀ (X:Int×PUnit->Prop) (k:Nat) (hk:k<l.length),(∀ j,j<k->f j=0)->(f k=0->X (((k+1:Nat):Int),()))->(f k≠0->bT f (List.range l.length)=f k)->Body X ((k:Int),()) l[k]) (hexit:bT f (List.range l.length)=0->Exit) :
  a7 (Int×PUnit) (λ(X:Int×PUnit->Prop) (s:Int×PUnit)=>aE (decide (s.1<((List.map r.enc l).length:Int))) (aU r (List.map r.enc l) s.1 λy=>Body X s y) Exit) (0,()):=by
 refine bJ l.length (λk s=>s=((k:Int),())/\bT f (List.range l.length)=bT f (List.range' k (l.length-k))/\∀ j,j<k->f j=0) ⟨rfl,by rw[List.range_eq_range'];rfl,λj h=>by omega⟩ ?_;rintro X k s hk ⟨rfl,he,hp⟩ hX;dsimp only;refine b8 (λhlt=>?_) λhge=>?_
 ·rw[ae] at hlt;have hlt:k<l.length:=by omega
  rw[bA hlt];obtain ⟨m,hm⟩:∃ m,l.length-k=m+1:=⟨l.length-k-1,by omega⟩
  rw[hm,List.range'_succ,bT] at he;refine hbody X k hlt hp (λh0=>?_) λh0=>by rw[he,if_neg h0]
  rw[if_pos h0] at he;exact hX _ hlt ⟨rfl,by rw[he];congr 2;omega,λj hj=>by
   rcases Nat.lt_or_ge j k with h|h
   ·exact hp j h
   ·have:j=k:=by omega
    subst this;exact h0⟩
 ·rw[ae] at hge;have:l.length-k=0:=by omega
  rw[this] at he;exact hexit he
def BK (s:eM) (i:Nat):Int:=if ¬ iS (s.2.getD i [])=0 then iS (s.2.getD i []) else if 0<=lX (s.2.getD i [])\/lO (s.2.getD i []) s.1=false then 17 else if ((List.range i).all λk=>oK (s.2.getD i []) (s.2.getD k []))=false then 17 else 0
def sQ (s:eM):Int:=if 8<s.2.length then 12 else if ¬ iS s.1=0 then iS s.1 else if lX s.1<=0 then 17 else bT (BK s) (List.range s.2.length)
def kM {α:Type} {f:α->Int}:∀ {l:List α},bT f l=0->∀ a∈l,f a=0
 | a::l,h,b,hb=>by
  unfold bT at h;by_cases ha:f a=0
  ·rw[if_pos ha] at h;rcases List.mem_cons.1 hb with rfl|hb
   ·exact ha
   ·exact kM h b hb
  ·rw[if_neg ha] at h;exact absurd h ha
 | [],_,b,hb=>by cases hb
def A3C (l:List (List aN)):MR 1 (List.map aC.li.enc l)=true:=by cases l<;>rfl
def A4S:Env:=Env.of [(319,.pure iK),(320,.pure nU),(321,.pure rM),(322,.pure v8)]
def A7B:FuncId->Hint:=bP 264 [(9,.inv [.val 26 false (.int .i64)]),(17,.inv [.val 51 false (.int .i64)])] (λ_=>bH)
def AOJ:bB Tryz.prog A4S:=.cons FI (.cons ZC (.cons AQL (.cons A0Q (.nil _))))
def BUM:T:=pPP 17
def BU7(y0:Int):T:=pPP y0
def BU5(a0:eM):List (List T):=List.map aC.li.enc a0.2
def BVI(a0:eM):List T:=[T.sl false (List.map aC.enc a0.1)]
def SH(a0:eM)(R:T->Prop):Prop:=aE (decide (8<(↑(BU5 a0).length:Int))) (R (pPP 12)) (aJ BUA (iK (BVI a0)) λ(y0:Int)=>aE (!decide (y0=0)) (R (BU7 y0)) (aJ BUA (nU (BVI a0)) λ(y1:Int)=>aE (decide (y1<=0)) (R BUM) (a7 (Int×PUnit) (λX2 s3=>aE (decide (s3.1<(↑(BU5 a0).length:Int))) (aU aC.li (BU5 a0) s3.1 λ(y4:List aN)=>aJ BUA (iK (BVQ y4)) λ(y5:Int)=>aE (!decide (y5=0)) (R (BU7 y5)) (aJ BUA (nU (BVQ y4)) λ(y6:Int)=>aE (decide (0<=y6)) (R BUM) (aJ BT9 (rM [T.sl false (BUW y4), T.sl false (List.map aC.enc a0.1)]) λ(y7:Bool)=>aE (!y7) (R BUM) (bO (MR 1 (BU5 a0) && (decide (0<=s3.1) && decide (Int.toNat s3.1<=(BU5 a0).length)) && true) (a7 (Int×PUnit) (λX8 s9=>aE (decide (s9.1 < (↑(List.drop 0 (List.take (Int.toNat s3.1) (BU5 a0))).length : Int))) (aU aC.li (List.drop 0 (List.take (Int.toNat s3.1) (BU5 a0))) s9.1 λ(y10:List aN)=>aJ BT9 (v8 [T.sl false (BUW y4), T.sl false (BUW y10)]) λ(y11:Bool)=>aE (!y11) (R BUM) (BUV X8 s9)) (BUV X2 s3)) (0,())))))) (R BUB)) (0,()))))
abbrev WU:Sh:=[(true,dG)]
def DQ (s:eM):Option T:=some (T.v (Value.int .i64 (sQ s)))
def j3:List T->Option T:=gS WU DQ
def AKQ {a0}:j3 [aH true dG a0]=DQ (a0):=a8 (s:=WU) rfl (a0) rfl
def A2Y:lW Tryz.prog 264 j3 DQ (bR WU) SH:=eN (a1:=(true,dG)) (Hs:=A7B) (k:=8) AOJ aV aY (aQ rfl) ⟨_,_,Tryz.func264,rfl⟩ rfl λ_ _=>by kernel_rfl
def ZE:aT Tryz.prog 264 j3:=A2Y λs r h hb=>by
 cases h;have is:∀ {n:Int},sQ s=n->pPP n=pPP (sQ s):=λh=>by rw[h]
 unfold SH BVQ BVI BU5 BUW BUV BU7 BUM BUB BUA BT9;refine b8 (λh=>is (by rw[ae] at h;unfold sQ;rw[if_pos (by omega)])) λh1=>?_;rw[ae] at h1;refine aM (s:=[(false,.int .i64)]) (q0 s.1) ?_;refine kD (λh=>is (by unfold sQ;rw[if_neg (by omega),if_pos h])) λh2=>?_;refine aM (s:=[(false,.int .i64)]) (A6 s.1) ?_;refine b8 (λh=>is (by unfold sQ;rw[if_neg (by omega),if_neg (by simpa using h2),if_pos h])) λh3=>?_;have w:sQ s=bT (BK s) (List.range s.2.length):=by unfold sQ;rw[if_neg (by omega),if_neg (by simpa using h2),if_neg h3]
 obtain ⟨ho3,ho32,hoN,_⟩:=iT h2;refine tN (r:=aC.li) (BK s) (by show s.2.length<=1000000;omega) (λX k hk hprev hok hbad=>?_) λh0=>is (w.trans h0);have hk:k<s.2.length:=hk;have hg:s.2.getD k []=s.2[k]:=by rw[List.getD_eq_getElem?_getD,List.getElem?_eq_getElem hk];rfl
 have bad:∀ {n:Int},n≠0->BK s k=n->pPP n=pPP (sQ s):=λhn h=>is (w.trans ((hbad (by rw[h];exact hn)).trans h));have hE:BK s k=if ¬ iS s.2[k]=0 then iS s.2[k] else if 0<=lX s.2[k]\/lO s.2[k] s.1=false then 17 else if ((List.range k).all λj=>oK s.2[k] (s.2.getD j []))=false then 17 else 0:=by unfold BK;rw[hg]
 show aJ [(false,Sy.int IntKind.i64)] (iK [T.sl false (List.map aC.enc s.2[k])]) _;refine aM (s:=[(false,.int .i64)]) (q0 s.2[k]) ?_;refine kD (λh=>bad h (by rw[hE,if_pos h])) λp1=>?_;refine aM (s:=[(false,.int .i64)]) (A6 s.2[k]) ?_;refine b8 (λh=>bad (by decide) (by rw[hE,if_neg (by simpa using p1),if_pos (.inl h)])) λp2=>?_;obtain ⟨hp3,hp32,hpN,_⟩:=iT p1;refine aM (s:=[(false,.bool)]) (ADW (by omega) hpN (by omega) hoN) ?_;refine eQ (λh=>bad (by decide) (by rw[hE,if_neg (by simpa using p1),if_pos (.inr h)])) λp3=>?_;have hE2:BK s k=if ((List.range k).all λj=>oK s.2[k] (s.2.getD j []))=false then 17 else 0:=by
  rw[hE,if_neg (by simpa using p1),if_neg];rintro (h|h)
  ·exact p2 h
  ·rw[show lO s.2[k] s.1=true from p3] at h;cases h
 refine ⟨by rw[A3C,ae];simp;omega,?_⟩;have htk:List.drop 0 (List.take (Int.toNat (k:Int)) (List.map aC.li.enc s.2))=List.map aC.li.enc (s.2.take k):=by rw[List.drop_zero,Int.toNat_natCast,List.map_take]
 dsimp only;rw[htk];have ht:(s.2.take k).length=k:=by rw[List.length_take];omega
 refine bJ k (λj s'=>s'=((j:Int),())/\∀ i,i<j->oK s.2[k] (s.2.getD i [])=true) ⟨rfl,λi h=>by omega⟩ ?_;rintro Y j s' hj ⟨rfl,hJ⟩ hY;dsimp only;refine b8 (λhlt=>?_) λhge=>?_
 ·rw[ae,ht] at hlt;have hlt:j<k:=by omega
  rw[bA (r:=aC.li) (show j<(s.2.take k).length by omega)];have hgj:s.2.getD j []=s.2[j]:=by rw[List.getD_eq_getElem?_getD,List.getElem?_eq_getElem (by omega)];rfl
  have hgt:(s.2.take k)[j]'(by omega)=s.2[j]:=by simp
  rw[hgt];have hj0:iS s.2[j]=0:=by
   have h0:=hprev j hlt;unfold BK at h0;rw[hgj] at h0;refine Classical.byContradiction λhc=>?_;rw[if_pos hc] at h0;exact hc h0
  obtain ⟨hq3,hq32,hqN,_⟩:=iT hj0;refine aM (s:=[(false,.bool)]) (AKN (by omega) (by omega) (by omega) hpN (by omega) hqN) ?_;refine eQ (λh=>bad (by decide) ?_) λh=>hY _ hlt ⟨by rw[show i64.wrap ((j:Int)+1)=((j+1:Nat):Int) from aZ _ (by omega) (by omega)],λi hi=>by
   rcases Nat.lt_or_ge i j with h3|h3
   ·exact hJ i h3
   ·have:i=j:=by omega
    subst this;rw[hgj];exact h⟩
  rw[hE2,if_pos (ACG hlt (by rw[hgj];exact h))]
 ·rw[ae,ht] at hge;have:j=k:=by omega
  subst this;rw[show i64.wrap ((j:Int)+1)=((j+1:Nat):Int) from aZ _ (by omega) (by omega)];refine hok ?_;rw[hE2,if_neg];rw[lB.2 hJ];simp
def OZ (s:eM):j3 [aH true dG s]=some (Sh.enc [(false,.int .i64)] (sQ s)):=AKQ ..
def SI(a0:eM)(R:T->Prop):Prop:=aE (BU5 a0).isEmpty (R (T.sl false [(BVI a0)])) (bO (iD 1 (BU5 a0) && decide ((1+(BU5 a0).length)*24<=140737488355328) && decide (1+(BU5 a0).length<=140737488355328)) (R (T.sl false ((BVI a0) :: (BU5 a0)))))
abbrev WV:Sh:=[(true,dG)]
abbrev BDO:Sh:=[(false,aC.li.li)]
def rR (s:eM):Option T:=match decide (s.2.length<=1000) with
 | true=>some (Sh.enc BDO (s.1::s.2))
 | false=>none
def BB:List T->Option T:=gS WV rR
def AKR {a0}:BB [aH true dG a0]=rR (a0):=a8 (s:=WV) rfl (a0) rfl
def A2Z:lW Tryz.prog 330 BB rR (bR WV) SI:=eN (a1:=(true,dG)) (Hs:=c0) (k:=8) (bM _) aV aY (aQ rfl) ⟨_,_,Tryz.func330,rfl⟩ rfl λ_ _=>by kernel_rfl
def A0S:aT Tryz.prog 330 BB:=A2Z λs r h hb=>by
 unfold rR at h;split at h
 ·rename_i hc;have hc:s.2.length<=1000:=of_decide_eq_true hc;cases h;obtain ⟨o,hs⟩:=s;unfold SI BVI BU5;cases hs with
  | nil=>exact (rfl:T.sl false [[T.sl false (List.map aC.enc o)]]=_)
  | cons a l =>
   show bO _ _;refine ⟨?_,rfl⟩;simp only[ac,ah,ae];have hc:(a::l).length<=1000:=hc;exact ⟨⟨pH (.li aC) (a::l),by omega⟩,by omega⟩
 ·cases h
def BE6 (l:List (List Pt)):Int:=eJ l.length λi=>lX (l.getD i [])
def D5 (s:eM):Int:=if sQ s=0 then BE6 (s.1::s.2) else 0
def AH8 (p:List Pt):-68719476736<=lX p/\lX p<=68719476736:=by
 unfold lX;by_cases h:iS p=0
 ·rw[if_pos h];obtain ⟨_,h2,h3,_⟩:=iT h;have:=QF h3 p.length;unfold iL;omega
 ·rw[if_neg h];omega
def AGJ (l:List (List Pt)):∀ n:Nat,-(68719476736*(n:Int))<=eJ n (λi=>lX (l.getD i []))/\eJ n (λi=>lX (l.getD i []))<=68719476736*(n:Int)
 | 0=>by simp[eJ]
 | n+1=>by
  have ih:=AGJ l n;have hb:=AH8 (l.getD n []);unfold eJ;constructor<;>push_cast<;>omega
def A4R:Env:=Env.of [(264,.pure j3),(330,.pure BB),(320,.pure nU)]
def A7A:FuncId->Hint:=bP 269 [(5,.inv [.val 3 false (.int .i64),.val 12 false (.int .i64)])] (λ_=>bH)
def AOI:bB Tryz.prog A4R:=.cons ZE (.cons A0S (.cons ZC (.nil _)))
def SG(a0:eM)(R:T->Prop):Prop:=aJ BUA (j3 [aH true dG a0]) λ(y0:Int)=>aE (!decide (y0=0)) (R BUB) (aJ [(false,aC.li.li)] (BB [aH true dG a0]) λ(y1:List (List aN))=>a7 (Int×Int×PUnit) (λX2 s3=>aE (decide (s3.2.1<(↑(List.map aC.li.enc y1).length:Int))) (aU aC.li (List.map aC.li.enc y1) s3.2.1 λ(y4:List aN)=>aJ BUA (nU (BVQ y4)) λ(y5:Int)=>X2 (i64.wrap (s3.1+y5),i64.wrap (s3.2.1+1),())) (R (pPP s3.1))) (0,0,()))
abbrev WT:Sh:=[(true,dG)]
def DP (s:eM):Option T:=some (T.v (Value.int .i64 (D5 s)))
def wA:List T->Option T:=gS WT DP
def AKO {a0}:wA [aH true dG a0]=DP (a0):=a8 (s:=WT) rfl (a0) rfl
def A2X:lW Tryz.prog 269 wA DP (bR WT) SG:=eN (a1:=(true,dG)) (Hs:=A7A) (k:=8) AOI aV aY (aQ rfl) ⟨_,_,Tryz.func269,rfl⟩ rfl λ_ _=>by kernel_rfl
def A0R:aT Tryz.prog 269 wA:=A2X λs r h hb=>by
 cases h;have is:∀ {n:Int},D5 s=n->pPP n=pPP (D5 s):=λh=>by rw[h]
 unfold SG BVQ BUW BUB BUA;refine aM (s:=[(false,.int .i64)]) (OZ s) ?_;refine kD (λh=>is (by unfold D5;rw[if_neg h])) λh=>?_;have h8:s.2.length<=8:=by
  refine Classical.byContradiction λhc=>?_;unfold sQ at h;rw[if_pos (by omega)] at h;cases h
 refine aM (s:=[(false,.li (.li aC))]) (y:=(s.1::s.2:List (List aN))) ((AKR ..).trans (by unfold rR;rw[ai (by omega)])) ?_;have w:D5 s=BE6 (s.1::s.2):=by unfold D5;rw[if_pos h]
 have hlen:(s.1::s.2).length<=9:=by simp;omega
 generalize s.1::s.2=l at w hlen;refine bJ l.length (λk t=>t=(eJ k (λi=>lX (l.getD i [])),(k:Int),())) rfl ?_;rintro X k t hk rfl hX;dsimp only;refine b8 (λhlt=>?_) λhge=>is (by rw[ae] at hge;rw[w,show k=l.length by omega];rfl);rw[ae] at hlt;have hlt:k<l.length:=by omega
 rw[bA (r:=aC.li) hlt];have hg:l.getD k []=l[k]:=by rw[List.getD_eq_getElem?_getD,List.getElem?_eq_getElem hlt];rfl
 refine aM (s:=[(false,.int .i64)]) (A6 l[k]) ?_;refine hX _ hlt ?_;have b1:=AGJ l k;have b2:=AH8 l[k];rw[show i64.wrap ((k:Int)+1)=((k+1:Nat):Int) from aZ _ (by omega) (by omega),aZ _ (by omega) (by omega),eJ,hg]
def AKP (s:eM):wA [aH true dG s]=some (Sh.enc [(false,.int .i64)] (D5 s)):=AKO ..
def BJ4 (s:eM):-618475290624<=D5 s/\D5 s<=618475290624:=by
 unfold D5;by_cases h:sQ s=0
 ·rw[if_pos h];have h8:s.2.length<=8:=by
   refine Classical.byContradiction λhc=>?_;unfold sQ at h;rw[if_pos (by omega)] at h;cases h
  have:=AGJ (s.1::s.2) (s.1::s.2).length;unfold BE6;simp only[List.length_cons] at this ⊢;omega
 ·rw[if_neg h];omega
def AY9:FuncId->Hint:=bP 323 [(2,.OD 4)] (λ_=>bH)
def K8(a0:ACE)(a1:Int)(R:T->Prop):Prop:=aE (decide (a0.1<i64.wrap (0-a1))) (R BT7) (aE (decide (a1<a0.1)) (R BT7) (aE (decide (a0.2.1<i64.wrap (0-a1))) (R BT7) (aE (decide (a1<a0.2.1)) (R BT7) (aE (decide (a0.2.2<i64.wrap (0-a1))) (R BT7) (aE (decide (a1<a0.2.2)) (R BT7) (R BUD))))))
abbrev NT:Sh:=[(true,YV),(false,(Sy.int IntKind.i64))]
def zN (v:ACE):Bool:=decide (-524288<=v.1)&&decide (v.1<=524288)&&(decide (-524288<=v.2.1)&&decide (v.2.1<=524288))&&(decide (-524288<=v.2.2)&&decide (v.2.2<=524288))
def sX (x:ACE×Int):Option T:=match decide (x.2=524288) with
 | true=>some (pPR (zN x.1))
 | false=>none
def wG:List T->Option T:=gS NT sX
def AD3 {a0 a1}:wG [aH true YV a0,pPP a1]=sX (a0,a1):=a8 (s:=NT) rfl (a0,a1) rfl
def AST:nJ Tryz.prog 323 wG sX (bR NT) K8:=eV (a1:=(true,YV)) (a2:=(false,(Sy.int IntKind.i64))) (Hs:=AY9) (k:=8) (bM _) aV aY (aQ rfl) ⟨_,_,Tryz.func323,rfl⟩ rfl λ_ _ _=>by kernel_rfl
def AQQ:aT Tryz.prog 323 wG:=AST λv n r h hb=>by
 unfold sX at h;split at h
 ·rename_i hn;have hn:n=524288:=of_decide_eq_true hn;subst hn;cases h;unfold K8 BUD BT7;rw[show i64.wrap (0-524288) = -524288 from rfl];have no:∀ {P:Prop},(¬ (-524288<=v.1/\v.1<=524288∧-524288<=v.2.1/\v.2.1<=524288∧-524288<=v.2.2/\v.2.2<=524288))->pPR false=pPR (zN v):=λh=>iG (Eq.symm (by
   rw[Bool.eq_false_iff];intro h2;simp only[zN,ac,ah] at h2;omega))
  refine b8 (λh=>no (P:=True) (by omega)) λh1=>b8 (λh=>no (P:=True) (by omega)) λh2=>b8 (λh=>no (P:=True) (by omega)) λh3=>b8 (λh=>no (P:=True) (by omega)) λh4=>b8 (λh=>no (P:=True) (by omega)) λh5=>b8 (λh=>no (P:=True) (by omega)) λh6=>iG ?_;simp only[zN];rw[ai (by omega),ai (by omega),ai (by omega),ai (by omega),ai (by omega),ai (by omega)];rfl
 ·cases h
def AR3 (t:Int):Int:=if t<0\/24<=t then 0 else t
def K7(a0:Int)(R:T->Prop):Prop:=aE (decide (a0<0)) (R BUB) (aE (decide (24<=a0)) (R BUB) (R (BU7 a0)))
abbrev NS:Sh:=[(false,(Sy.int IntKind.i64))]
def zB (t:Int):Option T:=some (T.v (Value.int .i64 (AR3 t)))
def wF:List T->Option T:=gS NS zB
def AD2 {a0}:wF [pPP a0]=zB (a0):=a8 (s:=NS) rfl (a0) rfl
def ASS:lW Tryz.prog 324 wF zB (bR NS) K7:=eN (a1:=(false,(Sy.int IntKind.i64))) (Hs:=c0) (k:=8) (bM _) aV aY (aQ rfl) ⟨_,_,Tryz.func324,rfl⟩ rfl λ_ _=>by kernel_rfl
def AQP:aT Tryz.prog 324 wF:=ASS λt r h hb=>by
 cases h;unfold K7 BU7 BUB;exact b8 (λh=>PT (by unfold AR3;rw[if_pos (.inl h)])) λh1=>b8 (λh=>PT (by unfold AR3;rw[if_pos (.inr h)])) λh2=>PT (by unfold AR3;rw[if_neg (by omega)])
def uS (p:uN):Bool:=zN p.1&&decide (p.2=AR3 p.2)
def A4V:Env:=Env.of [(323,.pure wG),(324,.pure wF)]
def AON:bB Tryz.prog A4V:=.cons AQQ (.cons AQP (.nil _))
def SR(a0:uN)(R:T->Prop):Prop:=aJ BT9 (wG [aH true YV a0.1,pPP 524288]) λ(y0:Bool)=>aE y0 (aJ BUA (wF [pPP a0.2]) λ(y1:Int)=>R (pPR (decide (a0.2=y1)))) (R BT7)
abbrev W5:Sh:=[(true,eO)]
def DV (p:uN):Option T:=some (pPR (uS p))
def cQ:List T->Option T:=gS W5 DV
def O3 {a0}:cQ [aH true eO a0]=DV (a0):=a8 (s:=W5) rfl (a0) rfl
def A3A:lW Tryz.prog 266 cQ DV (bR W5) SR:=eN (a1:=(true,eO)) (Hs:=c0) (k:=8) AON aV aY (aQ rfl) ⟨_,_,Tryz.func266,rfl⟩ rfl λ_ _=>by kernel_rfl
def A01:aT Tryz.prog 266 cQ:=A3A λp r h hb=>by
 cases h;unfold SR BUA BT9 BT7;refine aM (s:=[(false,.bool)]) (y:=zN p.1) (AD3 ..) ?_;refine zQ (λh=>?_) λh=>iG (by unfold uS;rw[h];rfl);refine aM (s:=[(false,.int .i64)]) (y:=AR3 p.2) (AD2 ..) ?_;exact iG (by unfold uS;rw[h];rfl)
def L3 (l:List Int) (i:Nat):Int:=if ¬ (1<=l.getD i 0/\l.getD i 0<=120) then 9 else if 0<i/\l.getD i 0<=l.getD (i-1) 0 then 11 else 0
def j7 (g:dH):Int:=if isName g.1=false then 6 else if ¬ (1000<=g.2.1/\g.2.1<=20000/\100<=g.2.2.1/\g.2.2.1<=1500) then 9 else if g.2.2.2.length=0 then 3 else if 16<g.2.2.2.length then 4 else bT (L3 g.2.2.2) (List.range g.2.2.2.length)
def PX (s:cH):Int:=if isName s.1=false then 6 else if ¬ (1<=s.2.1/\s.2.1<=1000000/\1<=s.2.2.1/\s.2.2.1<=2000/\100<=s.2.2.2/\s.2.2.2<=32768) then 9 else 0
def O6 (s:iII) (K:Bool->Prop):aJ [(false,Sy.bool)] (jK [pPQ s]) K=K (isName s):=by
 rw[show jK [pPQ s]=w3 s from AV];exact YR _ K
def A4K:Env:=Env.of [(40,.pure jK)]
def A63:FuncId->Hint:=bP 100 [(10,.inv [.val 34 false (.int .i64)])] (λ_=>bH)
def AOB:bB Tryz.prog A4K:=.cons CU (.nil _)
def BT8:T:=pPP 9
def BUE:Sy:=Sy.int IntKind.i64
def BUF:T:=pPP 11
def BUI:T:=pPP 4
def BUL:T:=pPP 6
def BVG(a0:dH):List (List T):=List.map BUE.enc a0.2.2.2
def R4(a0:dH)(R:T->Prop):Prop:=aJ BT9 (jK [pPQ a0.1]) λ(y0:Bool)=>aE (!y0) (R BUL) (aE (decide (1000<=a0.2.1)) (aE (!decide (a0.2.1<=20000)) (R BT8) (aE (decide (100<=a0.2.2.1)) (aE (!decide (a0.2.2.1<=1500)) (R BT8) (aE (decide ((↑(BVG a0).length:Int)=0)) (R (pPP 3)) (aE (decide (16<(↑(BVG a0).length:Int))) (R BUI) (a7 (Int×PUnit) (λX1 s2=>aE (decide (s2.1<(↑(BVG a0).length:Int))) (aU BUE (BVG a0) s2.1 λ(y3:Int)=>aE (decide (1<=y3)) (aE (!decide (y3<=120)) (R BT8) (aE (decide (0<s2.1)) (aU BUE (BVG a0) (i64.wrap (s2.1-1)) λ(y4:Int)=>aE (decide (y3<=y4)) (R BUF) (BUV X1 s2)) (BUV X1 s2))) (R BT8)) (R BUB)) (0,()))))) (R BT8))) (R BT8))
abbrev WG:Sh:=[(true,bX)]
def DH (g:dH):Option T:=some (T.v (Value.int .i64 (j7 g)))
def A0:List T->Option T:=gS WG DH
def AJ5 {a0}:A0 [aH true bX a0]=DH (a0):=a8 (s:=WG) rfl (a0) rfl
def A2L:lW Tryz.prog 100 A0 DH (bR WG) R4:=eN (a1:=(true,bX)) (Hs:=A63) (k:=8) AOB aV aY (aQ rfl) ⟨_,_,Tryz.func100,rfl⟩ rfl λ_ _=>by kernel_rfl
def o9 {l:List α} {i:Nat} {d:α} (h:i<l.length):l.getD i d=l[i]:=by rw[List.getD_eq_getElem?_getD,List.getElem?_eq_getElem h];rfl
def AEN {r:Sy} {l:List r.den} {k:Nat} (hk:k<l.length) (h0:0<k) (hl:l.length<=1000000) (K:r.den->Prop):aU r (List.map r.enc l) (i64.wrap ((k:Int)-1)) K=K (l[k-1]'(by omega)):=by
 rw[show i64.wrap ((k:Int)-1)=((k-1:Nat):Int) by rw[aZ _ (by omega) (by omega)];omega];exact bA (by omega) K
def VI {k:Nat} (h:k<1000000):i64.wrap ((k:Int)+1)=((k+1:Nat):Int):=aZ _ (by omega) (by omega)
def A0L:aT Tryz.prog 100 A0:=A2L λg r h hb=>by
 cases h;have is:∀ {n:Int},j7 g=n->pPP n=pPP (j7 g):=λh=>by rw[h]
 unfold R4 BVG BUV BUL BUI BUF BUE BUB BT9 BT8;rw[O6];refine eQ (λh=>is (by unfold j7;rw[if_pos h])) λhn=>?_;have hn':¬ isName g.1=false:=by rw[hn];simp
 have r9:¬ (1000<=g.2.1/\g.2.1<=20000/\100<=g.2.2.1/\g.2.2.1<=1500)->pPP 9=pPP (j7 g):=λh=>is (by unfold j7;rw[if_neg hn',if_pos h]);refine b8 (λh1=>kD (λh=>r9 (by omega)) λh2=>b8 (λh3=>kD (λh=>r9 (by omega)) λh4=>?_) λh=>r9 (by omega)) λh=>r9 (by omega);have hr:¬ ¬ (1000<=g.2.1/\g.2.1<=20000/\100<=g.2.2.1/\g.2.2.1<=1500):=by omega
 refine b8 (λh=>is (by rw[ae] at h;unfold j7;rw[if_neg hn',if_neg hr,if_pos (by omega)])) λh5=>?_;refine b8 (λh=>is (by rw[ae] at h h5;unfold j7;rw[if_neg hn',if_neg hr,if_neg (by omega),if_pos (by omega)])) λh6=>?_;rw[ae] at h5 h6;have w:j7 g=bT (L3 g.2.2.2) (List.range g.2.2.2.length):=by unfold j7;rw[if_neg hn',if_neg hr,if_neg (by omega),if_neg (by omega)]
 refine tN (r:=.int .i64) (L3 g.2.2.2) (by omega) (λX k hk hprev hok hbad=>?_) λh0=>is (w.trans h0);have hk:k<g.2.2.2.length:=hk;have bad:∀ {n:Int},n≠0->L3 g.2.2.2 k=n->pPP n=pPP (j7 g):=λhn h=>is (w.trans ((hbad (by rw[h];exact hn)).trans h));have hE:L3 g.2.2.2 k=if ¬ (1<=g.2.2.2[k]/\g.2.2.2[k]<=120) then 9 else if 0<k/\g.2.2.2[k]<=g.2.2.2.getD (k-1) 0 then 11 else 0:=by unfold L3;rw[o9 hk]
 dsimp only;rw[VI (by omega)];refine b8 (λp1=>kD (λh=>bad (by decide) (by rw[hE,if_pos (by omega)])) λp2=>?_) λh=>bad (by decide) (by rw[hE,if_pos (by omega)]);refine b8 (λp3=>?_) λp3=>hok (by rw[hE,if_neg (by omega),if_neg (by omega)]);have k0:0<k:=by omega
 rw[AEN (r:=.int .i64) hk k0 (by omega)];have hg1:g.2.2.2.getD (k-1) 0=g.2.2.2[k-1]'(by omega):=o9 (by omega);exact b8 (λh=>bad (by decide) (by rw[hE,if_neg (by omega),hg1,if_pos ⟨k0,h⟩])) λh=>hok (by rw[hE,if_neg (by omega),hg1,if_neg (λhc=>h hc.2)])
def ANV:Env:=Env.of [(40,.pure jK)]
def ABM:bB Tryz.prog ANV:=.cons CU (.nil _)
def EZ(a0:cH)(R:T->Prop):Prop:=aJ BT9 (jK [pPQ a0.1]) λ(y0:Bool)=>aE (!y0) (R BUL) (aE (decide (1<=a0.2.1)) (aE (!decide (a0.2.1<=1000000)) (R BT8) (aE (decide (1<=a0.2.2.1)) (aE (!decide (a0.2.2.1<=2000)) (R BT8) (aE (decide (100<=a0.2.2.2)) (aE (!decide (a0.2.2.2<=32768)) (R BT8) (R BUB)) (R BT8))) (R BT8))) (R BT8))
abbrev F1:Sh:=[(true,bN)]
def uG (s:cH):Option T:=some (T.v (Value.int .i64 (PX s)))
def sA:List T->Option T:=gS F1 uG
def YK {a0}:sA [aH true bN a0]=uG (a0):=a8 (s:=F1) rfl (a0) rfl
def ALY:lW Tryz.prog 101 sA uG (bR F1) EZ:=eN (a1:=(true,bN)) (Hs:=c0) (k:=8) ABM aV aY (aQ rfl) ⟨_,_,Tryz.func101,rfl⟩ rfl λ_ _=>by kernel_rfl
def AI4:aT Tryz.prog 101 sA:=ALY λs r h hb=>by
 cases h;have is:∀ {n:Int},PX s=n->pPP n=pPP (PX s):=λh=>by rw[h]
 unfold EZ BUL BUB BT9 BT8;rw[O6];refine eQ (λh=>is (by unfold PX;rw[if_pos h])) λhn=>?_;have hn':¬ isName s.1=false:=by rw[hn];simp
 have r9:¬ (1<=s.2.1/\s.2.1<=1000000/\1<=s.2.2.1/\s.2.2.1<=2000/\100<=s.2.2.2/\s.2.2.2<=32768)->pPP 9=pPP (PX s):=λh=>is (by unfold PX;rw[if_neg hn',if_pos h]);refine b8 (λh1=>kD (λh=>r9 (by omega)) λh2=>b8 (λh3=>kD (λh=>r9 (by omega)) λh4=>b8 (λh5=>kD (λh=>r9 (by omega)) λh6=>is ?_) λh=>r9 (by omega)) λh=>r9 (by omega)) λh=>r9 (by omega);unfold PX;rw[if_neg hn',if_neg (by omega)]
def lJ:dH:=(⟨#[]⟩,0,0,[])
def Z8 (a b:iII):Bool:=cK a b||decide (a=b)
def BI (m:aL) (i:Nat):Int:=if ¬ j7 (m.1.getD i lJ)=0 then j7 (m.1.getD i lJ) else if 0<i/\Z8 (m.1.getD i lJ).1 (m.1.getD (i-1) lJ).1=true then 11 else 0
def A3Q (m:aL) (i:Nat):Int:=if ¬ PX (m.2.getD i EJ)=0 then PX (m.2.getD i EJ) else if 0<i/\Z8 (m.2.getD i EJ).1 (m.2.getD (i-1) EJ).1=true then 11 else 0
def BN (m:aL):Int:=if 16<m.1.length\/32<m.2.length then 4 else if ¬ bT (BI m) (List.range m.1.length)=0 then bT (BI m) (List.range m.1.length) else bT (A3Q m) (List.range m.2.length)
def A4J:Env:=Env.of [(100,.pure A0),(101,.pure sA)]
def A62:FuncId->Hint:=bP 39 [(4,.inv [.val 22 false (.int .i64)]),(13,.inv [.val 50 false (.int .i64)])] (λ_=>bH)
def AOA:bB Tryz.prog A4J:=.cons A0L (.cons AI4 (.nil _))
def BVJ(a0:aL):List (List T):=List.map bX.enc a0.1
def R3(a0:aL)(R:T->Prop):Prop:=aE (decide (16<(↑(BVJ a0).length:Int))) (R BUI) (aE (decide (32<(↑(List.map bN.enc a0.2).length:Int))) (R BUI) (a7 (Int×PUnit) (λX0 s1=>aE (decide (s1.1<(↑(BVJ a0).length:Int))) (aU bX (BVJ a0) s1.1 λ(y2:dH)=>aJ BUA (A0 [aH true bX y2]) λ(y3:Int)=>aE (!decide (y3=0)) (R (BU7 y3)) (aE (decide (0<s1.1)) (aU bX (BVJ a0) (i64.wrap (s1.1-1)) λ(y4:dH)=>aE (cK y2.1 y4.1||decide (y2.1=y4.1)) (R BUF) (BUV X0 s1)) (BUV X0 s1))) (a7 (Int×PUnit) (λX5 s6=>aE (decide (s6.1<(↑(List.map bN.enc a0.2).length:Int))) (aU bN (List.map bN.enc a0.2) s6.1 λ(y7:cH)=>aJ BUA (sA [aH true bN y7]) λ(y8:Int)=>aE (!decide (y8=0)) (R (BU7 y8)) (aE (decide (0<s6.1)) (aU bN (List.map bN.enc a0.2) (i64.wrap (s6.1-1)) λ(y9:cH)=>aE (cK y7.1 y9.1||decide (y7.1=y9.1)) (R BUF) (BUV X5 s6)) (BUV X5 s6))) (R BUB)) (0,()))) (0,())))
abbrev WE:Sh:=[(true,aO)]
def DG (m:aL):Option T:=some (T.v (Value.int .i64 (BN m)))
def AZ:List T->Option T:=gS WE DG
def AJ4 {a0}:AZ [aH true aO a0]=DG (a0):=a8 (s:=WE) rfl (a0) rfl
def A2K:lW Tryz.prog 39 AZ DG (bR WE) R3:=eN (a1:=(true,aO)) (Hs:=A62) (k:=8) AOA aV aY (aQ rfl) ⟨_,_,Tryz.func39,rfl⟩ rfl λ_ _=>by kernel_rfl
def A0K:aT Tryz.prog 39 AZ:=A2K λm r h hb=>by
 cases h;have is:∀ {n:Int},BN m=n->pPP n=pPP (BN m):=λh=>by rw[h]
 unfold R3 BVJ BUV BU7 BUI BUF BUB BUA;refine b8 (λh=>is (by rw[ae] at h;unfold BN;rw[if_pos (by omega)])) λh1=>?_;refine b8 (λh=>is (by rw[ae] at h;unfold BN;rw[if_pos (by omega)])) λh2=>?_;rw[ae] at h1 h2;refine tN (r:=bX) (BI m) (by show m.1.length<=1000000;omega) (λX k hk hprev hok hbad=>?_) λh0=>?_
 ·have hk:k<m.1.length:=hk;have bad:∀ {n:Int},n≠0->BI m k=n->pPP n=pPP (BN m):=λhn h=>is (by
   have hb:=(hbad (by rw[h];exact hn)).trans h;unfold BN;rw[if_neg (by omega),if_pos (by rw[hb];exact hn),hb])
  have hE:BI m k=if ¬ j7 m.1[k]=0 then j7 m.1[k] else if 0<k/\Z8 m.1[k].1 (m.1.getD (k-1) lJ).1=true then 11 else 0:=by unfold BI;rw[o9 hk]
  dsimp only;rw[VI (by omega)];refine aM (s:=[(false,.int .i64)]) (y:=j7 m.1[k]) (AJ5 ..) ?_;refine kD (λh=>bad h (by rw[hE,if_pos h])) λp1=>?_;refine b8 (λp3=>?_) λp3=>hok (by rw[hE,if_neg (λh=>h p1),if_neg (by omega)]);have k0:0<k:=by omega
  rw[AEN (r:=bX) hk k0 (by show m.1.length<=1000000;omega)];have hg1:m.1.getD (k-1) lJ=m.1[k-1]'(by omega):=o9 (by omega);exact zQ (λh=>bad (by decide) (by rw[hE,if_neg (λh=>h p1),hg1,if_pos ⟨k0,h⟩])) λh=>hok (by rw[hE,if_neg (λh=>h p1),hg1,if_neg (λhc=>by rw[show Z8 m.1[k].1 (m.1[k-1]'(by omega)).1=false from h] at hc;cases hc.2)])
 ·have w:BN m=bT (A3Q m) (List.range m.2.length):=by unfold BN;rw[if_neg (by omega),if_neg (λh=>h h0)]
  refine tN (r:=bN) (A3Q m) (by show m.2.length<=1000000;omega) (λX k hk hprev hok hbad=>?_) λh0=>is (w.trans h0);have hk:k<m.2.length:=hk;have bad:∀ {n:Int},n≠0->A3Q m k=n->pPP n=pPP (BN m):=λhn h=>is (w.trans ((hbad (by rw[h];exact hn)).trans h));have hE:A3Q m k=if ¬ PX m.2[k]=0 then PX m.2[k] else if 0<k/\Z8 m.2[k].1 (m.2.getD (k-1) EJ).1=true then 11 else 0:=by unfold A3Q;rw[o9 hk]
  dsimp only;rw[VI (by omega)];refine aM (s:=[(false,.int .i64)]) (y:=PX m.2[k]) (YK ..) ?_;refine kD (λh=>bad h (by rw[hE,if_pos h])) λp1=>?_;refine b8 (λp3=>?_) λp3=>hok (by rw[hE,if_neg (λh=>h p1),if_neg (by omega)]);have k0:0<k:=by omega
  rw[AEN (r:=bN) hk k0 (by show m.2.length<=1000000;omega)];have hg1:m.2.getD (k-1) EJ=m.2[k-1]'(by omega):=o9 (by omega);exact zQ (λh=>bad (by decide) (by rw[hE,if_neg (λh=>h p1),hg1,if_pos ⟨k0,h⟩])) λh=>hok (by rw[hE,if_neg (λh=>h p1),hg1,if_neg (λhc=>by rw[show Z8 m.2[k].1 (m.2[k-1]'(by omega)).1=false from h] at hc;cases hc.2)])
def gM (m:aL) (n:iII):Option dH:=m.1.find? λg=>decide (g.1=n)
def okM (m:aL):Bool:=decide (m.1.length<=1000)&&decide (m.2.length<=1000)&&m.1.all λg=>decide (g.2.2.2.length<=1000)
def JF (m:aL) (r:α):Option α:=match okM m with
 | true=>some r
 | false=>none
variable {m:aL}
def BP {t r:α} (h:JF m t=some r):okM m=true/\r=t:=by
 unfold JF at h;split at h
 ·rename_i hc;cases h;exact ⟨hc,rfl⟩
 ·cases h
def BQ (t:α) (h:okM m=true):JF m t=some t:=by unfold JF;rw[h]
def AZL:ABH Tryz.prog 327 1 8:=⟨λR=>by kernel_rfl,λfl R=>by kernel_rfl,λfl a rows R=>by kernel_rfl⟩
def HM:List T->Option T:=gS [(false,.li (.int .i64))] (fU (.int .i64) 8)
def AJK {u0}:HM [T.sl false (List.map (Sy.enc (.int .i64)) u0)]=fU (.int .i64) 8 u0:=a8 (s:=[(false,.li (.int .i64))]) rfl u0 rfl
def A0A:aT Tryz.prog 327 HM:=LI aV aY ⟨_,_,Tryz.func327,rfl⟩ AZL
def A4I:Env:=Env.of [(327,.pure HM)]
def A61:FuncId->Hint:=bP 325 [(2,.inv [.val 8 false (.int .i64)])] (λ_=>bH)
def AN9:bB Tryz.prog A4I:=.cons A0A (.nil _)
def BUK:List T:=[T.agg [pPQ ({data:=#[]}),pPP 0, pPP 0,T.sl false []], pPR false]
def R1(a0:aL)(a1:iII)(R:T->Prop):Prop:=a7 (Int×PUnit) (λX0 s1=>aE (decide (s1.1<(↑(BVJ a0).length:Int))) (aU bX (BVJ a0) s1.1 λ(y2:dH)=>aE (decide (y2.1=a1)) (aE (decide (s1.1<0)) (R (T.cB BUK)) (aU bX (BVJ a0) s1.1 λ(y3:dH)=>aJ [(false,BUE.li)] (HM [T.sl false (BVG y3)]) λ(y4:List Int)=>R (T.cB [T.agg [pPQ y3.1,pPP y3.2.1, pPP y3.2.2.1, T.sl false (List.map BUE.enc y4)], pPR true]))) (BUV X0 s1)) (R (T.cB BUK))) (0,())
abbrev WD:Sh:=[(true,aO),(false,Sy.str)]
def DF (x:aL×iII):Option T:=JF x.1 (Sh.enc [(true,bX),(false,.bool)] (found lJ (gM x.1 x.2)))
def gZ:List T->Option T:=gS WD DF
def AJ3 {a0 a1}:gZ [aH true aO a0,pPQ a1]=DF (a0,a1):=a8 (s:=WD) rfl (a0,a1) rfl
def A2J:nJ Tryz.prog 267 gZ DF (bR WD) R1:=eV (a1:=(true,aO)) (a2:=(false,Sy.str)) (Hs:=A61) (k:=8) AN9 aV aY (aQ rfl) ⟨_,_,Tryz.func267,rfl⟩ rfl λ_ _ _=>by kernel_rfl
def LR:aT Tryz.prog 267 gZ:=A2J λm n r h hb=>by
 obtain ⟨hok,rfl⟩:=BP h;clear h;simp only[okM,ac,ah] at hok;unfold R1 BVJ BVG BUV BUK BUE;refine bJ m.1.length (λk s=>s=((k:Int),())/\(m.1.drop k).find? (λs=>decide (s.1=n))=gM m n) ⟨rfl,rfl⟩ ?_;rintro X k s hk ⟨rfl,hf⟩ hX;dsimp only;refine b8 (λhlt=>?_) λhge=>?_
 ·rw[ae] at hlt;have hlt:k<m.1.length:=by omega
  rw[lEE hlt] at hf;rw[bA (r:=bX) hlt];refine b8 (λhc=>?_) λhc=>?_
  ·rw[if_pos (ai hc)] at hf;refine b8 (λh=>by omega) λ_=>?_;rw[bA (r:=bX) hlt];have hg:m.1[k].2.2.2.length<=1000:=by
    have:=List.all_eq_true.1 hok.2 _ (ak hlt);exact of_decide_eq_true this
   refine aM (s:=[(false,.li (.int .i64))]) (y:=m.1[k].2.2.2) ?_ ?_
   ·rw[AJK];unfold fU rC;rw[show (decide (m.1[k].2.2.2.length*8<=140737488355328)&&decide (m.1[k].2.2.2.length<=140737488355328))=true by simp only[ac,ah];omega];rfl
   ·show _=Sh.enc [(true,bX),(false,.bool)] (found lJ (gM m n));rw[<-hf];rfl
  ·rw[if_neg (by simpa using hc)] at hf;exact hX _ hlt ⟨by rw[VI (by omega)],hf⟩
 ·rw[ae] at hge;have:k=m.1.length:=by omega
  subst this;rw[List.drop_length] at hf;show _=Sh.enc [(true,bX),(false,.bool)] (found lJ (gM m n));rw[<-hf];rfl
def yM (m:aL) (n:iII) (t:Int):Bool:=match gM m n with
 | some g=>g.2.2.2.any λx=>decide (t=x)
 | none=>false
def AXS:Env:=Env.of [(267,.pure gZ)]
def AYY:FuncId->Hint:=bP 377 [(2,.inv [.val 8 false (.int .i64)])] (λ_=>bH)
def AG8:bB Tryz.prog AXS:=.cons LR (.nil _)
def BUH:Sh:=[(true,bX),(false,Sy.bool)]
def KT(a0:aL)(a1:iII)(a2:Int)(R:T->Prop):Prop:=aJ BUH (gZ [aH true aO a0,pPQ a1]) λ(y0:dH×Bool)=>aE y0.2 (a7 (Int×PUnit) (λX1 s2=>aE (decide (s2.1<(↑(List.map BUE.enc y0.1.2.2.2).length:Int))) (aU BUE (List.map BUE.enc y0.1.2.2.2) s2.1 λ(y3:Int)=>aE (decide (a2=y3)) (R (pPR (decide (0<=s2.1)))) (BUV X1 s2)) (R BT7)) (0,())) (R BT7)
abbrev ND:Sh:=[(true,aO),(false,Sy.str),(false,(Sy.int IntKind.i64))]
def yR (x:aL×iII×Int):Option T:=JF x.1 (pPR (yM x.1 x.2.1 x.2.2))
def lI:List T->Option T:=gS ND yR
def ADK {a0 a1 a2}:lI [aH true aO a0,pPQ a1,pPP a2]=yR (a0,a1,a2):=a8 (s:=ND) rfl (a0,a1,a2) rfl
def ASD:Of3 Tryz.prog 318 lI yR (bR ND) KT:=MQ (a1:=(true,aO)) (a2:=(false,Sy.str)) (a3:=(false,(Sy.int IntKind.i64))) (Hs:=AYY) (k:=8) AG8 aV aY (aQ rfl) ⟨_,_,Tryz.func318,rfl⟩ rfl λ_ _ _ _=>by kernel_rfl
def AY (h:okM m=true) (n:iII):gZ [aH true aO m,pPQ n]=some (Sh.enc [(true,bX),(false,.bool)] (found lJ (gM m n))):=(AJ3 ..).trans (BQ _ h)
def AQC:aT Tryz.prog 318 lI:=ASD λm n t r h hb=>by
 obtain ⟨hok,rfl⟩:=BP h;clear h;unfold KT BUV BUH BUE BT7;refine aM (s:=[(true,bX),(false,.bool)]) (AY hok n) ?_;cases hg:gM m n with
 | none =>
  show aE false _ _;rw[hU];exact iG (by unfold yM;rw[hg])
 | some g =>
  show aE true _ _;rw[fL];dsimp only[found];have hlen:g.2.2.2.length<=1000:=by
   simp only[okM,ac,ah] at hok;exact of_decide_eq_true (List.all_eq_true.1 hok.2 _ (List.mem_of_find?_eq_some hg))
  have w:yM m n t=g.2.2.2.any λx=>decide (t=x):=by unfold yM;rw[hg]
  refine bJ g.2.2.2.length (λk s=>s=((k:Int),())/\g.2.2.2.any (λx=>decide (t=x))=(g.2.2.2.drop k).any λx=>decide (t=x)) ⟨rfl,by rw[List.drop_zero]⟩ ?_;rintro X k s hk ⟨rfl,hf⟩ hX;dsimp only;refine b8 (λhlt=>?_) λhge=>iG ?_
  ·rw[ae] at hlt;have hlt:k<g.2.2.2.length:=by omega
   rw[List.drop_eq_getElem_cons hlt,List.any_cons] at hf;rw[bA (r:=.int .i64) hlt];refine b8 (λhc=>iG ?_) λhc=>hX _ hlt ⟨by rw[VI (by omega)],by rw[hf,aj hc,Bool.false_or]⟩;rw[w,hf,ai hc,ai (show 0<=(k:Int) by omega)];rfl
  ·rw[ae] at hge;have:k=g.2.2.2.length:=by omega
   subst this;rw[w,hf,List.drop_length];rfl
abbrev cY (p:bG):Int:=p.2.2.1
abbrev fV (p:bG):iII:=p.2.2.2.1
abbrev gU (p:bG):iII:=p.2.2.2.2.1
abbrev kL (p:bG):Int:=p.2.2.2.2.2.1
abbrev iW (p:bG):eM:=p.2.2.2.2.2.2.1
abbrev YD (p:bG):iII:=p.2.2.2.2.2.2.2.1
abbrev D0 (p:bG):Int:=p.2.2.2.2.2.2.2.2.1
abbrev zE (p:bG):Int:=p.2.2.2.2.2.2.2.2.2.1
abbrev GU (p:bG):ACE:=p.2.2.2.2.2.2.2.2.2.2.1
abbrev aAt (p:bG):uN:=p.2.2.2.2.2.2.2.2.2.2.2
def AF1 (p:bG):Bool:=!decide (kL p=0)||decide (0<(iW p).1.length+(iW p).2.length)
def BIM (p:bG):Bool:=!decide (YD p = { data:=#[] }) || !decide (D0 p=0)
def BLI (p:bG):Bool:=!decide (zE p=0) || !(decide ((GU p).1=0)&&(decide ((GU p).2.1=0)&&decide ((GU p).2.2=0)))
def oC (p:bG):Bool:=if cY p=1 then BIM p||BLI p else if cY p=2\/cY p=3 then AF1 p||BLI p else !decide (gU p = { data:=#[] })||(AF1 p||BIM p)
def A68:FuncId->Hint:=λf=>match f == 262 with|true=>⟨λ_=>.none,λi j=>match i == 1&&j == 1 with|true=>some [.val 3 false .bool]|false=>match i == 2&&j == 2 with|true=>some [.val 4 false .bool]|false=>match i == 3&&j == 3 with|true=>some [.val 5 false .bool]|false=>none,λ_=>none⟩|false=>bH
def BU1(a0:bG):List (List T):=List.map aC.li.enc a0.2.2.2.2.2.2.1.2
def BVL(a0:bG):List (List T):=List.map aC.enc a0.2.2.2.2.2.2.1.1
def BVM(s3:Bool×PUnit)(R:T->Prop)(s5:Bool×PUnit):Prop:=aE s3.1 (R BUD) (R (pPR s5.1))
def SC(a0:bG)(R:T->Prop):Prop:=tW (Bool×PUnit) (λ(X0:Bool×PUnit->Prop)=>aE (!decide (a0.2.2.2.2.2.1=0)) (X0 (true,())) (X0 (decide (0 < i64.wrap ((↑(BVL a0).length:Int) + (↑(BU1 a0).length:Int))), ()))) λ(s1:Bool×PUnit)=>tW (Bool×PUnit) (λ(X2:Bool×PUnit->Prop)=>aE (!decide (a0.2.2.2.2.2.2.2.1 = {data:=#[]})) (X2 (true,())) (X2 (!decide (a0.2.2.2.2.2.2.2.2.1=0),()))) λ(s3:Bool×PUnit)=>tW (Bool×PUnit) (λ(X4:Bool×PUnit->Prop)=>aE (!decide (a0.2.2.2.2.2.2.2.2.2.1=0)) (X4 (true,())) (X4 (!(decide (a0.2.2.2.2.2.2.2.2.2.2.1.1=0) && (decide (a0.2.2.2.2.2.2.2.2.2.2.1.2.1=0) && (decide (a0.2.2.2.2.2.2.2.2.2.2.1.2.2=0)&&true))), ()))) λ(s5:Bool×PUnit)=>aE (decide (a0.2.2.1=1)) (BVM s3 R s5) (aE (decide (a0.2.2.1=2)) (BVM s1 R s5) (aE (decide (a0.2.2.1=3)) (BVM s1 R s5) (aE (decide (a0.2.2.1=4)) (aE (!decide (a0.2.2.2.2.1 = {data:=#[]})) (R BUD) (BVM s1 R s3)) (aE (!decide (a0.2.2.2.2.1 = {data:=#[]})) (R BUD) (BVM s1 R s3)))))
abbrev WO:Sh:=[(true,aS)]
def DM (p:bG):Option T:=some (pPR (oC p))
def nV:List T->Option T:=gS WO DM
def AKI {a0}:nV [aH true aS a0]=DM (a0):=a8 (s:=WO) rfl (a0) rfl
def A2T:lW Tryz.prog 262 nV DM (bR WO) SC:=eN (a1:=(true,aS)) (Hs:=A68) (k:=8) (bM _) aV aY (aQ rfl) ⟨_,_,Tryz.func262,rfl⟩ rfl λ_ _=>by kernel_rfl
def AEC {a b:Bool} {n:Bool} (h:n=(a||b)):aE a (pPR true=pPR n) (pPR b=pPR n):=by
 subst h;cases a<;>rfl
def A0O:aT Tryz.prog 262 nV:=A2T λp r h hb=>by
 have b1:(iW p).1.length<=2 ^ 47:=hb.2.2.2.2.2.2.1.1.1;have b2:(iW p).2.length<=2 ^ 47:=hb.2.2.2.2.2.2.1.2.1;cases h;unfold SC BVM BVL BU1 BUD;have j:∀ {a b:Bool} {K:Bool×PUnit->Prop},K (a||b,())->tW (Bool×PUnit) (λ(X:Bool×PUnit->Prop)=>aE a (X (true,())) (X (b,()))) K:=λ{a b K} hK=>by
  rw[C0];cases a<;>exact hK
 have e1:decide (0<i64.wrap (((List.map aC.enc (iW p).1).length:Int)+((List.map aC.li.enc (iW p).2).length:Int)))=decide (0<(iW p).1.length+(iW p).2.length):=by
  rw[ae,ae,aZ _ (by omega) (by omega)];exact decide_eq_decide.2 (by omega)
 refine j ?_;refine j ?_;refine j ?_;dsimp only;rw[e1,Bool.and_true];refine b8 (λh=>AEC (by unfold oC;rw[if_pos h];rfl)) λk1=>?_;refine b8 (λh=>AEC (by unfold oC;rw[if_neg k1,if_pos (.inl h)];rfl)) λk2=>?_;refine b8 (λh=>AEC (by unfold oC;rw[if_neg k1,if_pos (.inr h)];rfl)) λk3=>?_;have w:oC p=(!decide (gU p = { data:=#[] })||(AF1 p||BIM p)):=by
  unfold oC;rw[if_neg k1,if_neg];rintro (h|h)
  ·exact k2 h
  ·exact k3 h
 have fin:aE (!decide (gU p = { data:=#[] })) (pPR true=pPR (oC p)) (aE (AF1 p) (pPR true=pPR (oC p)) (pPR (BIM p)=pPR (oC p))):=by
  rw[w];cases (!decide (gU p = { data:=#[] })) with
  | true=>rfl
  | false=>exact AEC rfl
 exact b8 (λ_=>fin) λ_=>fin
def AMY (m:aL) (n:iII):Bool:=match PF m n with
 | some s=>decide (1<=s.2.1)&&decide (s.2.1<=1000000)&&(decide (1<=s.2.2.1)&&decide (s.2.2.1<=2000))
 | none=>false
def gH (p:bG) (m:aL):Bool:=if cY p=4 then true else match gM m (gU p) with
 | none=>false
 | some g=>decide (1000<=g.2.1)&&decide (g.2.1<=20000)&&(if cY p=1 then decide (1<=kL p)&&decide (kL p<=120)&&yM m (gU p) (kL p) else AMY m (YD p))
def BF6:Env:=Env.of [(267,.pure gZ),(268,.pure cX),(318,.pure lI)]
def AYG:bB Tryz.prog BF6:=.cons LR (.cons T7 (.cons AQC (.nil _)))
def BUC:Sh:=[(true,bN),(false,Sy.bool)]
def BU8(y2:cH×Bool)(R:T->Prop):Prop:=aE y2.2 (aE (decide (1<=y2.1.2.1)) (aE (decide (y2.1.2.1<=1000000)) (aE (decide (1<=y2.1.2.2.1)) (R (pPR (decide (y2.1.2.2.1<=2000)))) (R BT7)) (R BT7)) (R BT7)) (R BT7)
def BUR(a1:aL)(a0:bG)(R:T->Prop):Prop:=aJ BUC (cX [aH true aO a1, pPQ a0.2.2.2.2.2.2.2.1]) λ(y3:cH×Bool)=>BU8 y3 R
def BU6(a0:bG)(a1:aL)(R:T->Prop):Prop:=aE (decide (1<=a0.2.2.2.2.2.1)) (aE (decide (a0.2.2.2.2.2.1<=120)) (aJ BT9 (lI [aH true aO a1,pPQ a0.2.2.2.2.1, pPP a0.2.2.2.2.2.1]) λ(y1:Bool)=>R (pPR y1)) (R BT7)) (R BT7)
def BVR(a0:bG)(a1:aL)(R:T->Prop):Prop:=aE (decide (a0.2.2.1=3)) (BUR a1 a0 R) (aE (decide (a0.2.2.1=4)) (BUR a1 a0 R) (BUR a1 a0 R))
def BVS(a1:aL)(a0:bG):List T:=[aH true aO a1,pPQ a0.2.2.2.2.1]
def BUT(a1:aL)(a0:bG)(R:T->Prop):Prop:=aJ BUH (gZ (BVS a1 a0)) λ(y6:dH×Bool)=>aE (!y6.2) (R BT7) (aE (decide (1000<=y6.1.2.1)) (aE (!decide (y6.1.2.1<=20000)) (R BT7) (aE (decide (a0.2.2.1=1)) (BU6 a0 a1 R) (aE (decide (a0.2.2.1=2)) (BUR a1 a0 R) (BVR a0 a1 R)))) (R BT7))
def AB4(a0:bG)(a1:aL)(R:T->Prop):Prop:=aE (decide (a0.2.2.1=1)) (aJ BUH (gZ (BVS a1 a0)) λ(y0:dH×Bool)=>aE (!y0.2) (R BT7) (aE (decide (1000<=y0.1.2.1)) (aE (!decide (y0.1.2.1<=20000)) (R BT7) (aE (decide (a0.2.2.1=1)) (BU6 a0 a1 R) (aE (decide (a0.2.2.1=2)) (aJ BUC (cX [aH true aO a1,pPQ a0.2.2.2.2.2.2.2.1]) λ(y2:cH×Bool)=>BU8 y2 R) (BVR a0 a1 R)))) (R BT7))) (aE (decide (a0.2.2.1=2)) (BUT a1 a0 R) (aE (decide (a0.2.2.1=3)) (BUT a1 a0 R) (aE (decide (a0.2.2.1=4)) (R BUD) (BUT a1 a0 R))))
abbrev AFK:Sh:=[(true,aS),(true,aO)]
def J2 (x:bG×aL):Option T:=JF x.2 (pPR (gH x.1 x.2))
def q7:List T->Option T:=gS AFK J2
def ARB {a0 a1}:q7 [aH true aS a0,aH true aO a1]=J2 (a0,a1):=a8 (s:=AFK) rfl (a0,a1) rfl
def BCV:nJ Tryz.prog 263 q7 J2 (bR AFK) AB4:=eV (a1:=(true,aS)) (a2:=(true,aO)) (Hs:=c0) (k:=8) AYG aV aY (aQ rfl) ⟨_,_,Tryz.func263,rfl⟩ rfl λ_ _ _=>by kernel_rfl
def H4 (m:aL) (n:iII):cX [aH true aO m,pPQ n]=some (Sh.enc [(true,bN),(false,.bool)] (found EJ (PF m n))):=ADZ ..
def A88:aT Tryz.prog 263 q7:=BCV λp m r h hb=>by
 obtain ⟨hok,rfl⟩:=BP h;replace hok:okM m=true:=hok;clear h;have is:∀ {n:Bool},gH p m=n->pPR n=pPR (gH p m):=λh=>by rw[h]
 unfold AB4 BUT BVS BVR BU6 BUR BU8 BUH BUD BUC BT9 BT7;have sec:∀ {g:dH},gM m (gU p)=some g->¬ cY p=4->¬ cY p=1->1000<=g.2.1->g.2.1<=20000 ->
   aJ [(true,bN),(false,Sy.bool)] (cX [aH true aO m,pPQ (YD p)])
    λ(y2:cH×Bool) =>
    aE y2.2
     (aE (decide (1<=y2.1.2.1))
      (aE (decide (y2.1.2.1<=1000000))
       (aE (decide (1<=y2.1.2.2.1))
        (pPR (decide (y2.1.2.2.1<=2000))=pPR (gH p m))
        (pPR false=pPR (gH p m)))
       (pPR false=pPR (gH p m)))
      (pPR false=pPR (gH p m)))
     (pPR false=pPR (gH p m)):=by
  intro g hg k4 k1 d1 d2;have w:gH p m=AMY m (YD p):=by
   unfold gH;rw[if_neg k4,hg];dsimp only;rw[ai d1,ai d2,if_neg k1];rfl
  refine aM (s:=[(true,bN),(false,.bool)]) (H4 m _) ?_;cases hs:PF m (YD p) with
  | none =>
   show aE false _ _;rw[hU];exact is (by rw[w];unfold AMY;rw[hs])
  | some s =>
   show aE true _ _;rw[fL];dsimp only[found];have w2:gH p m=(decide (1<=s.2.1)&&decide (s.2.1<=1000000)&&(decide (1<=s.2.2.1)&&decide (s.2.2.1<=2000))):=by rw[w];unfold AMY;rw[hs]
   refine b8 (λh1=>b8 (λh2=>b8 (λh3=>is ?_) λh3=>is ?_) λh2=>is ?_) λh1=>is ?_
   ·rw[w2,ai h1,ai h2,ai h3];rfl
   ·rw[w2,ai h1,ai h2,aj h3];rfl
   ·rw[w2,ai h1,aj h2];rfl
   ·rw[w2,aj h1];rfl
 have plate:∀ {g:dH},gM m (gU p)=some g->cY p=1->1000<=g.2.1->g.2.1<=20000 ->
   aE (decide (1<=kL p)) (aE (decide (kL p<=120)) (aJ [(false,Sy.bool)] (lI [aH true aO m,pPQ (gU p),pPP (kL p)]) λ(y1:Bool)=>pPR y1=pPR (gH p m)) (pPR false=pPR (gH p m))) (pPR false=pPR (gH p m)):=by
  intro g hg k1 d1 d2;have w:gH p m=(decide (1<=kL p)&&decide (kL p<=120)&&yM m (gU p) (kL p)):=by
   unfold gH;rw[if_neg (by omega),hg];dsimp only;rw[ai d1,ai d2,if_pos k1];rfl
  refine b8 (λh1=>b8 (λh2=>?_) λh2=>is ?_) λh1=>is ?_
  ·refine aM (s:=[(false,.bool)]) (y:=yM m (gU p) (kL p)) ((ADK ..).trans (BQ _ hok)) (is ?_);rw[w,ai h1,ai h2];rfl
  ·rw[w,ai h1,aj h2];rfl
  ·rw[w,aj h1];rfl
 by_cases k4:p.2.2.1=4
 ·have w:gH p m=true:=by unfold gH;rw[if_pos k4]
  repeat' first
   | (exfalso;omega)
   | exact is w
   | refine b8 (λh=>?_) (λh=>?_)
 ·have hnone:gM m (gU p)=none->gH p m=false:=λh=>by unfold gH;rw[if_neg k4,h]
  have dens:∀ {g:dH},gM m (gU p)=some g->¬ (1000<=g.2.1/\g.2.1<=20000)->gH p m=false:=λ{g} hg h=>by
   unfold gH;rw[if_neg k4,hg];dsimp only;by_cases h1:1000<=g.2.1
   ·rw[aj (show ¬ g.2.1<=20000 by omega),Bool.and_false,Bool.false_and]
   ·rw[aj h1,Bool.false_and,Bool.false_and]
  have call:∀ {K:dH×Bool->Prop},(gM m (gU p)=none->K (lJ,false))->(∀ g,gM m (gU p)=some g->K (g,true))->aJ [(true,bX),(false,Sy.bool)] (gZ [aH true aO m,pPQ p.2.2.2.2.1]) K:=λ{K} h1 h2=>by
   refine aM (s:=[(true,bX),(false,.bool)]) (AY hok _) ?_;cases hg:gM m (gU p) with
   | none=>exact h1 hg
   | some g=>exact h2 g hg
  have body:∀ {K:dH×Bool->Prop},(∀ g,gM m (gU p)=some g->1000<=g.2.1->g.2.1<=20000->K (g,true))->aJ [(true,bX),(false,Sy.bool)] (gZ [aH true aO m,pPQ p.2.2.2.2.1]) λ(y0:dH×Bool)=>aE (!y0.2) (pPR false=pPR (gH p m)) (aE (decide (1000<=y0.1.2.1)) (aE (!decide (y0.1.2.1<=20000)) (pPR false=pPR (gH p m)) (K y0)) (pPR false=pPR (gH p m))):=λ{K} hK=>by
   refine call (λhn=>?_) λg hg=>?_
   ·show aE true _ _;rw[fL];exact is (hnone hn)
   ·show aE false _ _;rw[hU];exact b8 (λd1=>kD (λd2=>is (dens hg (λh=>d2 h.2))) λd2=>hK g hg d1 d2) λd1=>is (dens hg (λh=>d1 h.1))
  refine b8 (λh=>body λg hg d1 d2=>?_) λh1=>b8 (λh=>body λg hg d1 d2=>?_) λh2=>b8 (λh=>body λg hg d1 d2=>?_) λh3=>b8 (λh=>absurd h k4) λ_=>body λg hg d1 d2=>?_
  all_goals
   repeat' first
    | (exfalso;omega)
    | exact plate hg (by assumption) d1 d2
    | exact sec hg k4 (by assumption) d1 d2
    | exact sec hg k4 (by intro h';have h'':p.2.2.1=1:=h';omega) d1 d2
    | refine b8 (λh=>?_) (λh=>?_)
def nD (p:bG) (m:aL):Int:=if kH p.1=false\/kH (fV p)=false then 6 else if ¬ (1<=p.2.1/\p.2.1<=1000) then 9 else if ¬ (cY p=1\/cY p=2\/cY p=3\/cY p=4) then 10 else if oC p=true then 2 else if gH p m=false then 23 else
 if cY p=1/\¬ sQ (iW p)=0 then sQ (iW p) else if (cY p=2\/cY p=3)/\¬ (1<=D0 p/\D0 p<=32768) then 9 else if cY p=4/\¬ (1<=zE p/\zE p<=1099511627776/\zN (GU p)=true) then 9 else if uS (aAt p)=false then 9 else 0
def AXZ:Env:=Env.of [(112,.pure fP),(262,.pure nV),(263,.pure q7),(264,.pure j3),(266,.pure cQ)]
def AHG:bB Tryz.prog AXZ:=.cons QL (.cons A0O (.cons A88 (.cons ZE (.cons A01 (.nil _)))))
def BUG:T:=pPP 2
def BUN:T:=pPP 23
def BU0(a0:bG)(R:T->Prop):Prop:=aJ BT9 (cQ [aH true eO a0.2.2.2.2.2.2.2.2.2.2.2]) λ(y5:Bool)=>aE (!y5) (R BT8) (R BUB)
def BVH(a0:bG)(R:T->Prop):Prop:=aE (decide (1<=a0.2.2.2.2.2.2.2.2.1)) (aE (!decide (a0.2.2.2.2.2.2.2.2.1<=32768)) (R BT8) (BU0 a0 R)) (R BT8)
def BUQ(a0:bG)(R:T->Prop)(a1:aL):Prop:=aJ BT9 (nV [aH true aS a0]) λ(y2:Bool)=>aE y2 (R BUG) (aJ BT9 (q7 [aH true aS a0,aH true aO a1]) λ(y3:Bool)=>aE (!y3) (R BUN) (aE (decide (a0.2.2.1=1)) (aJ BUA (j3 [aH true dG a0.2.2.2.2.2.2.1]) λ(y4:Int)=>aE (!decide (y4=0)) (R (BU7 y4)) (BU0 a0 R)) (aE (decide (a0.2.2.1=2)) (BVH a0 R) (aE (decide (a0.2.2.1=3)) (BVH a0 R) (aE (decide (a0.2.2.1=4)) (aE (decide (1<=a0.2.2.2.2.2.2.2.2.2.1)) (aE (!decide (a0.2.2.2.2.2.2.2.2.2.1<=1099511627776)) (R BT8) (aJ BT9 (cQ [T.agg [pPP a0.2.2.2.2.2.2.2.2.2.2.1.1, pPP a0.2.2.2.2.2.2.2.2.2.2.1.2.1, pPP a0.2.2.2.2.2.2.2.2.2.2.1.2.2, pPP 0]]) λ(y8:Bool)=>aE (!y8) (R BT8) (BU0 a0 R))) (R BT8)) (BU0 a0 R))))))
def K1(a0:bG)(a1:aL)(R:T->Prop):Prop:=aJ BT9 (fP [pPQ a0.1]) λ(y0:Bool)=>aE (!y0) (R BUL) (aJ BT9 (fP [pPQ a0.2.2.2.1]) λ(y1:Bool)=>aE (!y1) (R BUL) (aE (decide (1<=a0.2.1)) (aE (!decide (a0.2.1<=1000)) (R BT8) (aE (decide (a0.2.2.1=1)) (BUQ a0 R a1) (aE (decide (a0.2.2.1=2)) (BUQ a0 R a1) (aE (decide (a0.2.2.1=3)) (BUQ a0 R a1) (aE (decide (a0.2.2.1=4)) (BUQ a0 R a1) (R (pPP 10))))))) (R BT8)))
abbrev NL:Sh:=[(true,aS),(true,aO)]
def yX (x:bG×aL):Option T:=JF x.2 (T.v (Value.int .i64 (nD x.1 x.2)))
def nA:List T->Option T:=gS NL yX
def ADT {a0 a1}:nA [aH true aS a0,aH true aO a1]=yX (a0,a1):=a8 (s:=NL) rfl (a0,a1) rfl
def ASL:nJ Tryz.prog 114 nA yX (bR NL) K1:=eV (a1:=(true,aS)) (a2:=(true,aO)) (Hs:=c0) (k:=8) AHG aV aY (aQ rfl) ⟨_,_,Tryz.func114,rfl⟩ rfl λ_ _ _=>by kernel_rfl
def T6:aT Tryz.prog 114 nA:=ASL λp m r h hb=>by
 obtain ⟨hok,rfl⟩:=BP h;replace hok:okM m=true:=hok;clear h hb;have is:∀ {n:Int},nD p m=n->pPP n=pPP (nD p m):=λh=>by rw[h]
 unfold K1 BUQ BVH BU7 BU0 BUN BUL BUG BUB BUA BT9 BT8;rw[oQ];refine eQ (λh=>is (by unfold nD;rw[if_pos (.inl h)])) λi1=>?_;rw[oQ];refine eQ (λh=>is (by unfold nD;rw[if_pos (.inr h)])) λi2=>?_;have n1:¬ (kH p.1=false\/kH (fV p)=false):=by
  rintro (h|h)
  ·rw[i1] at h;cases h
  ·rw[show kH (fV p)=true from i2] at h;cases h
 have r9:¬ (1<=p.2.1/\p.2.1<=1000)->pPP 9=pPP (nD p m):=λh=>is (by unfold nD;rw[if_neg n1,if_pos h]);refine b8 (λv1=>kD (λh=>r9 (λh2=>h h2.2)) λv2=>?_) λh=>r9 (λh2=>h h2.1);have n2:¬ ¬ (1<=p.2.1/\p.2.1<=1000):=λh=>h ⟨v1,v2⟩;have w1:nD p m=if ¬ (cY p=1\/cY p=2\/cY p=3\/cY p=4) then 10 else if oC p=true then 2 else if gH p m=false then 23 else if cY p=1/\¬ sQ (iW p)=0 then sQ (iW p) else if (cY p=2\/cY p=3)/\¬ (1<=D0 p/\D0 p<=32768) then 9 else if cY p=4/\¬ (1<=zE p/\zE p<=1099511627776/\zN (GU p)=true) then 9 else if uS (aAt p)=false then 9 else 0:=by
  unfold nD;rw[if_neg n1,if_neg n2]
 have spare:∀ {K:Bool->Prop},K (oC p)->aJ [(false,Sy.bool)] (nV [aH true aS p]) K:=λh=>aM (s:=[(false,.bool)]) (y:=oC p) (AKI ..) h;have made:∀ {K:Bool->Prop},K (gH p m)->aJ [(false,Sy.bool)] (q7 [aH true aS p,aH true aO m]) K:=λh=>aM (s:=[(false,.bool)]) (y:=gH p m) ((ARB ..).trans (BQ _ hok)) h;have place:∀ {K:Bool->Prop},K (uS (aAt p))->aJ [(false,Sy.bool)] (cQ [aH true eO (aAt p)]) K:=λh=>aM (s:=[(false,.bool)]) (y:=uS (aAt p)) (O3 ..) h;have near:∀ {K:Bool->Prop},K (zN (GU p))->aJ [(false,Sy.bool)] (cQ [aH true eO (GU p,0)]) K:=λ{K} h=>aM (s:=[(false,.bool)]) (y:=uS (GU p,0)) (O3 ..) (by
  rw[show uS (GU p,0)=zN (GU p) by unfold uS;rw[show decide (((GU p,(0:Int)):uN).2=AR3 ((GU p,(0:Int)):uN).2)=true from rfl,Bool.and_true]];exact h)
 have reg:∀ {K:Int->Prop},K (sQ (iW p))->aJ [(false,Sy.int IntKind.i64)] (j3 [aH true dG (iW p)]) K:=λh=>aM (s:=[(false,.int .i64)]) (OZ _) h
 repeat' first
  | (exfalso;omega)
  | refine spare ?_
  | refine made ?_
  | refine reg ?_
  | refine place ?_
  | refine near ?_
  | refine kD (λh=>?_) (λh=>?_)
  | refine b8 (λh=>?_) (λh=>?_)
  | refine eQ (λh=>?_) (λh=>?_)
  | refine zQ (λh=>?_) (λh=>?_)
 all_goals (refine is ?_;clear spare made place near reg is r9;rw[w1];clear w1 n1 n2 i1 i2;simp_all;try (intros;exfalso;simp only[D0,zE] at *;omega))
def H0 (h:okM m=true) (p:bG):nA [aH true aS p,aH true aO m]=some (Sh.enc [(false,.int .i64)] (nD p m)):=(ADT ..).trans (BQ _ h)
def UZ (m:aL) (n:iII):dH:=(gM m n).getD lJ
def BKA (m:aL) (n:iII):cH:=(PF m n).getD EJ
def AU6 {no:α} {o:Option α}:(found no o).1=o.getD no:=by cases o<;>rfl
def tZ (p:bG) (m:aL):Int:=if cY p=1 then i64.wrap ((i64.wrap (i64.wrap (D5 (iW p)*kL p)*(UZ m (gU p)).2.1)).tdiv 2000000) else if cY p=2\/cY p=3 then i64.wrap ((i64.wrap (i64.wrap ((BKA m (YD p)).2.1*D0 p)*(UZ m (gU p)).2.1)).tdiv 1000000) else zE p
def tY (p:bG) (m:aL):Int×Int:=if nD p m=0 then (tZ p m,0) else (0,nD p m)
def A4O:Env:=Env.of [(114,.pure nA),(267,.pure gZ),(268,.pure cX),(269,.pure wA)]
def AOF:bB Tryz.prog A4O:=.cons T6 (.cons LR (.cons T7 (.cons A0R (.nil _))))
def BVE(R:T->Prop)(y2:cH×Bool)(a0:bG)(y1:dH×Bool):Prop:=bO true (R (T.cB [pPP (i64.wrap ((i64.wrap (i64.wrap (y2.1.2.1*a0.2.2.2.2.2.2.2.2.1) * y1.1.2.1)).tdiv 1000000)), pPP 0]))
def BVU(a0:bG):List T:=[pPP a0.2.2.2.2.2.2.2.2.2.1, pPP 0]
def SD(a0:bG)(a1:aL)(R:T->Prop):Prop:=aJ BUA (nA [aH true aS a0,aH true aO a1]) λ(y0:Int)=>aE (!decide (y0=0)) (R (T.cB [pPP 0,pPP y0])) (aJ BUH (gZ (BVS a1 a0)) λ(y1:dH×Bool)=>aJ BUC (cX [aH true aO a1,pPQ a0.2.2.2.2.2.2.2.1]) λ(y2:cH×Bool)=>aE (decide (a0.2.2.1=1)) (aJ BUA (wA [aH true dG a0.2.2.2.2.2.2.1]) λ(y3:Int)=>bO true (R (T.cB [pPP (i64.wrap ((i64.wrap (i64.wrap (y3*a0.2.2.2.2.2.1)*y1.1.2.1)).tdiv 2000000)), pPP 0]))) (aE (decide (a0.2.2.1=2)) (BVE R y2 a0 y1) (aE (decide (a0.2.2.1=3)) (BVE R y2 a0 y1) (aE (decide (a0.2.2.1=4)) (R (T.cB (BVU a0))) (R (T.cB (BVU a0)))))))
abbrev WQ:Sh:=[(true,aS),(true,aO)]
abbrev AMJ:Sh:=[(false,Sy.int IntKind.i64),(false,Sy.int IntKind.i64)]
def DN (x:bG×aL):Option T:=JF x.2 (Sh.enc AMJ (tY x.1 x.2))
def vZ:List T->Option T:=gS WQ DN
def AKJ {a0 a1}:vZ [aH true aS a0,aH true aO a1]=DN (a0,a1):=a8 (s:=WQ) rfl (a0,a1) rfl
def A2U:nJ Tryz.prog 115 vZ DN (bR WQ) SD:=eV (a1:=(true,aS)) (a2:=(true,aO)) (Hs:=c0) (k:=8) AOF aV aY (aQ rfl) ⟨_,_,Tryz.func115,rfl⟩ rfl λ_ _ _=>by kernel_rfl
def A0P:aT Tryz.prog 115 vZ:=A2U λp m r h hb=>by
 obtain ⟨hok,rfl⟩:=BP h;replace hok:okM m=true:=hok;clear h hb;have is:∀ {a b:Int},tY p m=(a,b)->T.cB [pPP a,pPP b]=Sh.enc AMJ (tY p m):=λh=>by rw[h];rfl
 unfold SD BVU BVE BVS BUH BUC BUA;refine aM (s:=[(false,.int .i64)]) (H0 hok p) ?_;refine kD (λh=>is (by unfold tY;rw[if_neg h])) λh=>?_;refine aM (s:=[(true,bX),(false,.bool)]) (AY hok _) ?_;refine aM (s:=[(true,bN),(false,.bool)]) (H4 m _) ?_;have w:tY p m=(tZ p m,0):=by unfold tY;rw[if_pos h]
 have eg:(found lJ (gM m (gU p))).1=UZ m (gU p):=AU6;have es:(found EJ (PF m (YD p))).1=BKA m (YD p):=AU6;refine b8 (λk1=>?_) λk1=>?_
 ·refine aM (s:=[(false,.int .i64)]) (AKP _) ?_;refine ⟨rfl,is ?_⟩;rw[w];unfold tZ;rw[if_pos k1,<-eg]
 refine b8 (λk2=>⟨rfl,is ?_⟩) λk2=>?_
 ·rw[w];unfold tZ;rw[if_neg k1,if_pos (.inl k2),<-eg,<-es]
 refine b8 (λk3=>⟨rfl,is ?_⟩) λk3=>?_
 ·rw[w];unfold tZ;rw[if_neg k1,if_pos (.inr k3),<-eg,<-es]
 have fin:tY p m=(zE p,0):=by
  rw[w];unfold tZ;rw[if_neg k1,if_neg];rintro (h|h)
  ·exact k2 h
  ·exact k3 h
 exact b8 (λ_=>is fin) λ_=>is fin
def AKK (h:okM m=true) (p:bG):vZ [aH true aS p,aH true aO m]=some (Sh.enc [(false,.int .i64),(false,.int .i64)] (tY p m)):=(AKJ ..).trans (BQ _ h)
def pF (a0:aG) (m1:List aI) (m2:List aI) (m3:List aI) (m4:List aI) (a5:aL):List T:=[XQ a0 m1 m2 m3 m4,T.agg (aO.enc a5)]
def RN:Env:=Env.of [(114,.pure nA),(115,.pure vZ)]
def AHW:FuncId->Hint:=bP 44 [(2,.inv [.val 23 false (.int .i64)]),(13,.inv [.val 10 false (.int .i64),.val 54 false (.int .i64)])] (λ_=>bH)
def AN5:bB Tryz.prog RN:=.cons T6 (.cons A0P (.nil _))
def BUO:T:=pPP 8
def BUZ(a0:aG):List (List T):=List.map aS.enc a0.2.2.1
def RW(a0:aG)(m1:List aI)(m2:List aI)(m3:List aI)(m4:List aI)(a5:aL)(R:T->Prop):Prop:=a7 (Int×PUnit) (λX0 s1=>aE (decide (s1.1<(↑(BUZ a0).length:Int))) (aU aS (BUZ a0) s1.1 λ(y2:bG)=>aJ BUA (nA [aH true aS y2,aH true aO a5]) λ(y3:Int)=>aE (!decide (y3=0)) (R (BU7 y3)) (jC TypeDesc.string (Value.string y2.2.2.2.1) (s0 (bQ m1)) false BUE (R BUO) λ(i4:Nat) (y5:Int)=>X0 (i64.wrap (s1.1+1),()))) (a7 (Int×Int×PUnit) (λX6 s7=>aE (decide (s7.2.1<(↑(BUZ a0).length:Int))) (aU aS (BUZ a0) s7.2.1 λ(y8:bG)=>aJ [(false,Sy.int IntKind.i64),(false,Sy.int IntKind.i64)] (vZ [aH true aS y8,aH true aO a5]) λ(y9:aN)=>aE (decide (1099511627776<i64.wrap (s7.1+y9.1))) (R (pPP 13)) (X6 (i64.wrap (s7.1+y9.1),i64.wrap (s7.2.1+1),()))) (R BUB)) (0,0,()))) (0,())
def AHP ( a0 m1 m2 m3 m4 a5 R):fE cA Tryz.prog RN AHW 8 44 (pF a0 m1 m2 m3 m4 a5) R=RW a0 m1 m2 m3 m4 a5 R:=by kernel_rfl
def ABE (x y:aG×MP×MP×MP×MP×aL) (h:pF x.1 x.2.1 x.2.2.1 x.2.2.2.1 x.2.2.2.2.1 x.2.2.2.2.2=pF y.1 y.2.1 y.2.2.1 y.2.2.2.1 y.2.2.2.2.1 y.2.2.2.2.2):x=y:=by
 obtain ⟨h1,h2⟩:=List.cons.inj h;have:=sY (x:=(x.1,x.2.1,x.2.2.1,x.2.2.2.1,x.2.2.2.2.1)) (y:=(y.1,y.2.1,y.2.2.1,y.2.2.2.1,y.2.2.2.2.1)) h1;have h2:=Sy.eU aO _ _ (T.agg.inj (List.cons.inj h2).1);simp only[Prod.mk.injEq] at this;obtain ⟨e1,e2,e3,e4,e5⟩:=this;exact Prod.ext e1 (Prod.ext e2 (Prod.ext e3 (Prod.ext e4 (Prod.ext e5 h2))))
def jM (d:aG) (m:aL) (p:bG):Int:=if nD p m=0 then (if (cG d (fV p)).isNone=true then 8 else 0) else nD p m
def mS (m:aL):List bG->Int->Int
 | [],_=>0
 | p::l,s=>if 1099511627776<i64.wrap (s+(tY p m).1) then 13 else mS m l (i64.wrap (s+(tY p m).1))
def j8 (d:aG) (m:aL):Int:=if bT (jM d m) d.2.2.1=0 then mS m d.2.2.1 0 else bT (jM d m) d.2.2.1
def wY (x:aG×MP×MP×MP×MP×aL):Option T:=match okM x.2.2.2.2.2 with
 | true=>zJ (x.1,x.2.1,x.2.2.1,x.2.2.2.1,x.2.2.2.2.1) (T.v (Value.int .i64 (j8 x.1 x.2.2.2.2.2)))
 | false=>none
def vL:List T->Option (T):=gA (λ(x:aG×List aI×List aI×List aI×List aI×aL)=>pF x.1 x.2.1 x.2.2.1 x.2.2.2.1 x.2.2.2.2.1 x.2.2.2.2.2) wY
def AJO (a0:aG) (m1:List aI) (m2:List aI) (m3:List aI) (m4:List aI) (a5:aL):vL (pF a0 m1 m2 m3 m4 a5)=wY (a0,m1,m2,m3,m4,a5):=gF (A:=(λ(x:aG×List aI×List aI×List aI×List aI×aL)=>pF x.1 x.2.1 x.2.2.1 x.2.2.2.1 x.2.2.2.2.1 x.2.2.2.2.2)) ABE (a0,m1,m2,m3,m4,a5)
def A2C (h:∀ (a0:aG) (m1:List aI) (m2:List aI) (m3:List aI) (m4:List aI) (a5:aL) (r:T),wY (a0,m1,m2,m3,m4,a5)=some r->(∀ t∈pF a0 m1 m2 m3 m4 a5,Bd t)->RW a0 m1 m2 m3 m4 a5 (λy=>y=r)):aT Tryz.prog 44 vL :=
 dA (E:=RN) (Hs:=AHW) AN5 aV aY (aQ rfl) 8 ⟨_,_,Tryz.func44,rfl⟩ λx r h1 h2=>by
  rw[AHP];exact h x.1 x.2.1 x.2.2.1 x.2.2.2.1 x.2.2.2.2.1 x.2.2.2.2.2 r h1 h2
def A0F:aT Tryz.prog 44 vL:=A2C λd m1 m2 m3 m4 m r h hb=>by
 unfold wY at h;split at h
 case h_2=>cases h
 rename_i hok;replace hok:okM m=true:=hok;obtain ⟨hx,hs,rfl⟩:=pY h;simp only[Prod.mk.injEq,true_and] at hx;obtain ⟨rfl,rfl,rfl,rfl⟩:=hx;replace hs:oJ d:=hs;clear h hb;have is:∀ {n:Int},j8 d m=n->pPP n=pPP (j8 d m):=λh=>by rw[h]
 unfold RW BUZ BU7 BUO BUE BUB BUA;refine gX (r:=aS) (jM d m) hs.p (λX s y hy hgo hbad=>?_) λh0=>?_
 ·have bad:∀ {n:Int},n≠0->jM d m y=n->pPP n=pPP (j8 d m):=λhn h=>by
   have h1:=hbad (by rw[h];exact hn);refine is ?_;unfold j8;rw[if_neg (by rw[h1,h];exact hn),h1,h]
  refine aM (s:=[(false,.int .i64)]) (H0 hok y) ?_;refine kD (λh=>bad h (by unfold jM;rw[if_neg h])) λh=>?_;refine ixK (λhn=>bad (by decide) ?_) λi j hj hn=>hgo ?_
  ·have hn:cG d (fV y)=none:=hn;unfold jM;rw[if_pos h,hn];rfl
  ·have hn:cG d (fV y)=some d.2.1[j]:=hn;unfold jM;rw[if_pos h,hn];rfl
 ·have w:j8 d m=mS m d.2.2.1 0:=by unfold j8;rw[if_pos h0]
  clear h0;have hl:=hs.p;generalize d.2.2.1=l at w hl ⊢;refine bJ l.length (λk s=>s.2.1=(k:Int)/\mS m (l.drop k) s.1=j8 d m) ⟨rfl,by rw[w];rfl⟩ ?_;rintro X k ⟨s,i,u⟩ hk ⟨rfl,he⟩ hX;dsimp only at he ⊢;refine b8 (λhlt=>?_) λhge=>?_
  ·rw[ae] at hlt;have hlt:k<l.length:=by omega
   rw[bA (r:=aS) hlt];rw[List.drop_eq_getElem_cons hlt,mS] at he;refine aM (s:=[(false,.int .i64),(false,.int .i64)]) (AKK hok _) ?_;refine b8 (λh=>is (by rw[<-he,if_pos h])) λh=>?_;rw[if_neg h] at he;refine hX _ hlt ⟨?_,he⟩;show i64.wrap ((k:Int)+1)=_;rw[aZ]<;>omega
  ·rw[ae] at hge;have:k=l.length:=by omega
   subst this;rw[List.drop_length,mS] at he;exact is he.symm
def pE (a0:aG) (m1:List aI) (m2:List aI) (m3:List aI) (m4:List aI):List T:=[XQ a0 m1 m2 m3 m4]
def RM:Env:=Env.of [(112,.pure fP),(107,.pure zP),(117,.pure L2),(116,.pure iQ),(113,.pure l6),(118,.new HY)]
def AHV:FuncId->Hint:=bP 46 [(4,.inv [.own 3 2 (.pr (.int .i64) (.int .i64)),.map 0 .str false .bool,.val 29 false (.int .i64)]),(15,.inv [.val 76 false (.int .i64),.map 0 .str false .bool]),(31,.inv [.own 3 2 (.pr (.int .i64) (.int .i64)),.val 147 false (.int .i64)])] (λ_=>bH)
def AN4:bB Tryz.prog RM:=.cons QL (.cons BLF (.cons BIB (.cons AI2 (.cons ZG (.cons A86 (.nil _))))))
def BUJ:T:=pPP 7
def BUY(a0:aG):List (List T):=List.map aK.enc a0.2.2.2.2.1
def BU2(a0:aG):List (List T):=List.map a6.enc a0.2.2.2.2.2
def BU3(a0:aG):List (List T):=List.map bI.enc a0.2.2.2.1
def BU4(a0:aG):List (List T):=List.map bC.enc a0.2.1
def BUS(a0:aG):List T:=[pPQ a0.1, T.sl false (BU4 a0), T.sl false (BUZ a0), T.sl false (BU3 a0), T.sl false (BUY a0), T.sl false (BU2 a0)]
def BUX(y13:iII)(s12:Int×List (iII×Bool)×PUnit)(X11:Int×List (iII×Bool)×PUnit->Prop):Prop:=qQ (Option (Nat×D)) (findD TypeDesc.string (Value.string y13) (List.map (dC Sy.str false Sy.bool) s12.2.1) 0) λ(y24:Option (Nat×D))=>fA Sy.str false Sy.bool (gB (List.map (dC Sy.str false Sy.bool) s12.2.1) y24 (Value.string y13) (D.p BUD)) λ(y25:List (iII×Bool))=>X11 (i64.wrap (s12.1+1),y25,())
def BVA(a0:aG)(m1:List aI)(m2:List aI)(m3:List aI)(m4:List aI):List T:=[T.ref (BUS a0), T.mp (bQ m1),T.mp (bQ m2), T.mp (bQ m3),T.mp (bQ m4)]
def BVC(y3:bE):List (List T):=List.map Sy.str.enc y3.2.2.2.2
def BVD(a0:aG):List T:=[pPQ a0.1,T.sl false (BU4 a0), T.sl false (BUZ a0), T.sl false (BU3 a0), T.sl false (BUY a0), T.sl false (BU2 a0)]
def BVF(y3:bE):List (List T):=List.map Sy.str.enc y3.2.2.1
def BVP(y18:List iII×Bool):List (List T):=List.map Sy.str.enc y18.1
def RV(a0:aG)(m1:List aI)(m2:List aI)(m3:List aI)(m4:List aI)(R:T->Prop):Prop:=fA Sy.str false Sy.bool [] λ(y0:List (iII×Bool))=>a7 (List aN×List (iII×Bool)×Int×PUnit) (λX1 s2=>aE (decide (s2.2.2.1<(↑(BUY a0).length:Int))) (aU aK (BUY a0) s2.2.2.1 λ(y3:bE)=>aJ BT9 (fP [pPQ y3.1]) λ(y4:Bool)=>aE (!y4) (R BUL) (aJ BT9 (iQ [T.ref [T.ref (BVD a0), T.mp (bQ m1),T.mp (bQ m2),T.mp (bQ m3), T.mp (bQ m4)], pPQ y3.2.1]) λ(y5:Bool)=>aE (!y5) (R BUO) (aE (decide (y3.2.2.2.1<1)) (R BT8) (aE (decide (10000<y3.2.2.2.1)) (R BT8) (aJ [(false,Sy.any)] (L2 [T.sl false (BVF y3)]) λ(y6:T)=>aJ BT9 (zP [pPP (↑(BVF y3).length:Int), y6]) λ(y7:Bool)=>aE (!y7) (R BUF) (aJ [(false,Sy.any)] (L2 [T.sl false (BVC y3)]) λ(y8:T)=>aJ BT9 (zP [pPP (↑(BVC y3).length:Int), y8]) λ(y9:Bool)=>aE (!y9) (R BUF) (fA Sy.str false Sy.bool (List.map (dC Sy.str false Sy.bool) s2.2.1) λ(y10:List (iII×Bool))=>a7 (Int×List (iII×Bool)×PUnit) (λX11 s12=>aE (decide (s12.1<(↑(BVF y3).length:Int))) (aU Sy.str (BVF y3) s12.1 λ(y13:iII)=>jC TypeDesc.string (Value.string y13) (s0 (bQ m2)) false BUE (R BUO) λ(i14:Nat) (y15:Int)=>aU aS (BUZ a0) y15 λ(y16:bG)=>aE (!decide (y16.2.2.1=4)) (aE (!decide (y16.2.2.1=3)) (R (pPP 10)) (aU aS (BUZ a0) y15 λ(y17:bG)=>aJ [(false,Sy.str.li),(false,Sy.bool)] (l6 [T.ref (BVA a0 m1 m2 m3 m4), pPQ y17.2.2.2.1]) λ(y18:List iII×Bool)=>aE (decide ((↑(BVP y18).length:Int)=0)) (R BUG) (aU Sy.str (BVP y18) (i64.wrap ((↑(BVP y18).length:Int)-1)) λ(y19:iII)=>aE (!decide (y19=y3.2.1)) (R BUG) (jC TypeDesc.string (Value.string y13) (List.map (dC Sy.str false Sy.bool) s12.2.1) false Sy.bool (BUX y13 s12 X11) λ(i20:Nat) (y21:Bool)=>aE y21 (R BUJ) (qQ (Option (Nat×D)) (findD TypeDesc.string (Value.string y13) (List.map (dC Sy.str false Sy.bool) s12.2.1) 0) λ(y22:Option (Nat×D))=>fA Sy.str false Sy.bool (gB (List.map (dC Sy.str false Sy.bool) s12.2.1) y22 (Value.string y13) (D.p BUD)) λ(y23:List (iII×Bool))=>X11 (i64.wrap (s12.1+1),y23, ())))))) (aU aS (BUZ a0) y15 λ(y26:bG)=>aJ [(false,Sy.str.li),(false,Sy.bool)] (l6 [T.ref (BVA a0 m1 m2 m3 m4), pPQ y26.2.2.2.1]) λ(y27:List iII×Bool)=>aE (decide ((↑(BVP y27).length:Int)=0)) (R BUG) (aU Sy.str (BVP y27) (i64.wrap ((↑(BVP y27).length:Int)-1)) λ(y28:iII)=>aE (!decide (y28=y3.2.1)) (R BUG) (jC TypeDesc.string (Value.string y13) (List.map (dC Sy.str false Sy.bool) s12.2.1) false Sy.bool (BUX y13 s12 X11) λ(i29:Nat) (y30:Bool)=>aE y30 (R BUJ) (BUX y13 s12 X11))))) (cD aC (List.map aC.enc s2.1) λ(y35:List aN)=>a7 (List aN×Int×PUnit) (λX36 s37=>aE (decide (s37.2.1 < (↑(BVC y3).length:Int))) (aU Sy.str (BVC y3) s37.2.1 λ(y38:iII)=>aE (decide (y38=y3.1)) (R BUG) (jC TypeDesc.string (Value.string y38) (s0 (bQ m4)) false BUE (R BUO) λ(i39:Nat) (y40:Int)=>bO (decide (((List.map aC.enc s37.1).length+1)*16 <= 140737488355328) && decide ((List.map aC.enc s37.1).length+1 <= 140737488355328)) (cD aC (List.map aC.enc s37.1 ++ [[pPP y40, pPP s2.2.2.1]]) λ(y41:List aN)=>X36 (y41,i64.wrap (s37.2.1+1),())))) (cD aC (List.map aC.enc s37.1) λ(y42:List aN)=>fA Sy.str false Sy.bool (List.map (dC Sy.str false Sy.bool) s12.2.1) λ(y43:List (iII×Bool))=>X1 (y42,y43,i64.wrap (s2.2.2.1+1),()))) (y35,0,()))) (0,y10,())))))))) (aJ [(false,BUE.li),(false,Sy.int IntKind.i64)] (HY [pPP (↑(BUY a0).length:Int), T.sl false (List.map aC.enc s2.1)]) λ(y44:List Int×Int)=>aE (!decide (y44.2=0)) (R (pPP 20)) (R BUB))) ([],y0,0,())
def AHO ( a0 m1 m2 m3 m4 R):fE cA Tryz.prog RM AHV 8 46 (pE a0 m1 m2 m3 m4) R=RV a0 m1 m2 m3 m4 R:=by kernel_rfl
def ABD (x y:aG×MP×MP×MP×MP) (h:pE x.1 x.2.1 x.2.2.1 x.2.2.2.1 x.2.2.2.2=pE y.1 y.2.1 y.2.2.1 y.2.2.2.1 y.2.2.2.2):x=y:=sY (List.cons.inj h).1
abbrev eF (k:bE):List iII:=k.2.2.1
abbrev dB (k:bE):List iII:=k.2.2.2.2
abbrev MK (k:bE):Int:=k.2.2.2.1
def lR (d:aG) (k:bE):Int:=if kH k.1=false then 6 else if lS d k.2.1=false then 8 else if MK k<1\/10000<MK k then 9 else if oG (eF k)=false\/oG (dB k)=false then 11 else 0
def instE (d:aG) (b:iII):List iII->List iII->Int×List iII
 | [],S=>(0,S)
 | id::l,S=>match partOf d id with
  | none=>(8,S)
  | some p=>if ¬ cY p=4/\¬ cY p=3 then (10,S) else if (up d (fV p)).1.getLast? = some b then (if oR S id=true then (7,S) else instE d b l (id::S)) else (2,S)
def zZ (d:aG) (k:iII) (i:Int):List iII->List aN->Int×List aN
 | [],E=>(0,E)
 | id::l,E=>if id=k then (2,E) else match kG (jR (ids d.2.2.2.2.1)) id with
  | none=>(8,E)
  | some j=>zZ d k i l (E++[(j,i)])
def iC (d:aG):List bE->Int->List aN->List iII->Int×List aN
 | [],_,E,_=>(0,E)
 | k::l,i,E,S=>if ¬ lR d k=0 then (lR d k,E) else if ¬ (instE d k.2.1 (eF k) S).1=0 then ((instE d k.2.1 (eF k) S).1,E) else if ¬ (zZ d k.1 i (dB k) E).1=0 then ((zZ d k.1 i (dB k) E).1,E) else
  iC d l (i+1) (zZ d k.1 i (dB k) E).2 (instE d k.2.1 (eF k) S).2
def eY (d:aG):Int:=if (iC d d.2.2.2.2.1 0 [] []).1=0 then (if (eR d.2.2.2.2.1.length (iC d d.2.2.2.2.1 0 [] []).2).2=0 then 0 else 20) else (iC d d.2.2.2.2.1 0 [] []).1
def C5 (d:aG):Bool:=d.2.2.2.2.1.all (λk=>decide ((eF k).length<=140737488355328)&&decide ((dB k).length<=140737488355328))&&decide (d.2.2.2.2.1.length<=64)
def mC (a b:iII):cK a b=true↔a.data.toList<b.data.toList:=by
 unfold cK;rw[bytesLess_eq,decide_eq_true_iff]
def AUP {a b:iII} (h:(!(cK b a||decide (b=a)))=true):a.data.toList<b.data.toList:=by
 simp only[Bool.not_eq_true',Bool.or_eq_false_iff,decide_eq_false_iff_not] at h;refine Classical.byContradiction λhc=>h.2 ?_;have h1:¬ b.data.toList<a.data.toList:=λh'=>by rw[(mC b a).2 h'] at h;exact absurd h.1 (by decide)
 have e:b.data.toList=a.data.toList:=List.le_antisymm (List.not_lt.1 hc) (List.not_lt.1 h1);exact ByteArray.ext (Array.ext' e)
def S3:∀ {l:List iII},oG l=true->l.Pairwise λa b=>a.data.toList<b.data.toList
 | [],_=>List.Pairwise.nil
 | [a],_=>by simp
 | a::b::l,h=>by
  rw[oG,ac] at h;have h1:=AUP h.1;have ih:=S3 h.2;refine List.pairwise_cons.2 ⟨λx hx=>?_,ih⟩;rcases List.mem_cons.1 hx with rfl|hx
  ·exact h1
  ·exact List.lt_trans h1 ((List.pairwise_cons.1 ih).1 x hx)
def LC {l:List iII} (h:oG l=true):l.Nodup:=by
 refine (S3 h).imp λ{a b} hab e=>?_;subst e;exact List.lt_irrefl _ hab
def AVD:∀ {l m:List iII},l.Nodup->(∀ x∈l,x∈m)->l.length<=m.length
 | [],_,_,_=>Nat.zero_le _
 | a::l,m,h,hm=>by
  obtain ⟨h1,h2⟩:=List.pairwise_cons.1 h;have h3:l.length<=(m.filter λx=>decide (x≠a)).length:=AVD h2 λx hx=>List.mem_filter.2 ⟨hm x (List.mem_cons_of_mem _ hx),ai λe=>h1 x hx e.symm⟩;have h4:(m.filter λx=>decide (x≠a)).length<m.length:=List.length_filter_lt_length_iff_exists.2 ⟨a,hm a am,by simp⟩;rw[List.length_cons];omega
def wX (x:aG×MP×MP×MP×MP):Option T:=match C5 x.1 with
 | true=>zJ x (T.v (Value.int .i64 (eY x.1)))
 | false=>none
def vK:List T->Option (T):=gA (λ(x:aG×List aI×List aI×List aI×List aI)=>pE x.1 x.2.1 x.2.2.1 x.2.2.2.1 x.2.2.2.2) wX
def AJN (a0:aG) (m1:List aI) (m2:List aI) (m3:List aI) (m4:List aI):vK (pE a0 m1 m2 m3 m4)=wX (a0,m1,m2,m3,m4):=gF (A:=(λ(x:aG×List aI×List aI×List aI×List aI)=>pE x.1 x.2.1 x.2.2.1 x.2.2.2.1 x.2.2.2.2)) ABD (a0,m1,m2,m3,m4)
def A2B (h:∀ (a0:aG) (m1:List aI) (m2:List aI) (m3:List aI) (m4:List aI) (r:T),wX (a0,m1,m2,m3,m4)=some r->(∀ t∈pE a0 m1 m2 m3 m4,Bd t)->RV a0 m1 m2 m3 m4 (λy=>y=r)):aT Tryz.prog 46 vK :=
 dA (E:=RM) (Hs:=AHV) AN4 aV aY (aQ rfl) 8 ⟨_,_,Tryz.func46,rfl⟩ λx r h1 h2=>by
  rw[AHO];exact h x.1 x.2.1 x.2.2.1 x.2.2.2.1 x.2.2.2.2 r h1 h2
variable {l:List (iII×α)}{A:Prop}
def BR9 {id:iII} {B:Nat->Int->Prop} (hA:kG (jR (ids l)) id=none->l.find? (λs=>decide (s.1=id))=none->A) (hB:∀ i k (h:k<l.length),kG (jR (ids l)) id=some (k:Int)->l.find? (λs=>decide (s.1=id))=some l[k]->B i (k:Int)) :
  jC TypeDesc.string (Value.string id) (s0 (bQ (jR (ids l)))) false (Sy.int IntKind.i64) A B:=by
 rw[ALL];refine HC (r:=.int .i64) (λh=>?_) λi v h=>?_
 ·rcases wH id l with ⟨h1,h2⟩|⟨k,hk,h1,_⟩
  ·exact hA h1 h2
  ·rw[h] at h1;cases h1
 ·rcases wH id l with ⟨h1,_⟩|⟨k,hk,h1,h2⟩
  ·rw[h] at h1;cases h1
  ·rw[h] at h1;cases h1;exact hB i k hk h h2
def BSB {l:List iII} {b:iII} (hl:l.length<=140737488355328) (hyes:l.getLast? = some b->A) (hno:¬ l.getLast? = some b->A) {R2:Prop} (hR2:¬ l.getLast? = some b->R2) {K:Prop} (hK:l.getLast? = some b->K) :
  aE (decide (((List.map Sy.str.enc l).length:Int)=0)) R2 (aU Sy.str (List.map Sy.str.enc l) (i64.wrap (((List.map Sy.str.enc l).length:Int)-1)) λ(y:iII)=>aE (!decide (y=b)) R2 K):=by
 rw[ae];refine b8 (λh=>hR2 ?_) λh=>?_
 ·have:l=[]:=List.length_eq_zero_iff.1 (by omega);rw[this];simp
 ·have h1:l.length-1<l.length:=by omega
  rw[aZ _ (by omega) (by omega),show ((l.length:Int)-1)=((l.length-1:Nat):Int) by omega,bA (r:=.str) h1];have e:l.getLast? = some l[l.length-1]:=by rw[List.getLast?_eq_getElem?,List.getElem?_eq_getElem h1]
  refine kD (λh=>hR2 ?_) λh=>hK ?_
  ·rw[e];intro h';exact h (Option.some.inj h')
  ·rw[e];exact congrArg some h
variable {R7:Prop}
def BSU {es:List (iII×Bool)} {S:List iII} {id:iII} {K:List (iII×Bool)->Prop} (hS:Seen es (λx=>x∈S)) (h7:id∈S->R7) (hK:∀ es',id∉S->Seen es' (λx=>x∈id::S)->K es') :
  jC TypeDesc.string (Value.string id) (List.map (dC Sy.str false Sy.bool) es) false Sy.bool
   (qQ (Option (Nat×D)) (findD TypeDesc.string (Value.string id) (List.map (dC Sy.str false Sy.bool) es) 0) λ(y24:Option (Nat×D)) =>
    fA Sy.str false Sy.bool (gB (List.map (dC Sy.str false Sy.bool) es) y24 (Value.string id) (D.p (T.v (.bool true)))) λ(y25:List (iII×Bool))=>K y25)
   λ(i20:Nat) (y21:Bool)=>aE y21 R7
    (qQ (Option (Nat×D)) (findD TypeDesc.string (Value.string id) (List.map (dC Sy.str false Sy.bool) es) 0) λ(y22:Option (Nat×D)) =>
     fA Sy.str false Sy.bool (gB (List.map (dC Sy.str false Sy.bool) es) y22 (Value.string id) (D.p (T.v (.bool true)))) λ(y23:List (iII×Bool))=>K y23):=by
 refine HC (r:=.bool) (λhno=>?_) λj b hb=>?_
 ·refine BBG (r:=.bool) rfl (es:=es) (k:=id) (v:=true) (hK _ (λh=>?_) ((hS.ins id).congr λx=>?_))
  ·have:=(hS.2 id).2 h;rw[hno] at this;cases this
  ·rw[List.mem_cons];exact ⟨λh=>h.symm.imp_left Eq.symm,λh=>h.symm.imp_right Eq.symm⟩
 ·have:=hS.1 _ _ hb;subst this;rw[fL];exact h7 ((hS.2 _).1 hb)
def A0E:aT Tryz.prog 46 vK:=A2B λd m1 m2 m3 m4 r h hb=>by
 unfold wX at h;split at h
 case h_2=>cases h
 rename_i hok;replace hok:C5 d=true:=hok;obtain ⟨hx,hs,rfl⟩:=pY h;simp only[Prod.mk.injEq,true_and] at hx;obtain ⟨rfl,rfl,rfl,rfl⟩:=hx;replace hs:oJ d:=hs;clear h hb;simp only[C5,ac,ah,List.all_eq_true] at hok;obtain ⟨hkp,hka⟩:=hok;have hkq:=λk hk=>(hkp k hk).2;replace hkp:=λk hk=>(hkp k hk).1;have hlk:=hs.k;have is:∀ {n:Int},eY d=n->T.v (.int .i64 n)=T.v (.int .i64 (eY d)):=λh=>by rw[h]
 unfold RV BVP BVF BVD BVC BVA BUX BUS BU4 BU3 BU2 BUZ BUY BUO BUL BUJ BUG BUF BUE BUD BUB BT9 BT8;refine pK (r:=.bool) rfl [] _ ?_;refine bJ d.2.2.2.2.1.length (λk s=>∃ S,s.2.2.1=(k:Int)/\Seen s.2.1 (λx=>x∈S)/\s.1.length<=64*k/\iC d (d.2.2.2.2.1.drop k) k s.1 S=iC d d.2.2.2.2.1 0 [] []) ⟨[],rfl,Seen.nil.congr (by simp),by simp,rfl⟩ ?_;rintro X k ⟨E,es,i,u⟩ hk ⟨S,rfl,hseen,hlen,hr⟩ hX;dsimp only at hseen hlen hr ⊢;refine b8 (λhlt=>?_) λhge=>?_
 ·rw[ae] at hlt;have hlt:k<d.2.2.2.2.1.length:=by omega
  rw[bA (r:=aK) hlt];rw[List.drop_eq_getElem_cons hlt] at hr;have hmem:=ak hlt;have hp1:=hkp _ hmem;have hp2:=hkq _ hmem;generalize hy:d.2.2.2.2.1[k]=y at hr hp1 hp2 ⊢;rw[iC] at hr;have bad:∀ {n:Int},n≠0->(iC d d.2.2.2.2.1 0 [] []).1=n->T.v (.int .i64 n)=T.v (.int .i64 (eY d)):=λhn h=>by
   refine is ?_;unfold eY;rw[if_neg (by rw[h];exact hn),h]
  have badH:∀ {n:Int},n≠0->lR d y=n->T.v (.int .i64 n)=T.v (.int .i64 (eY d)):=λhn h=>by
   refine bad hn ?_;rw[if_pos (by rw[h];exact hn)] at hr;rw[<-hr];exact h
  rw[oQ];refine eQ (λh=>badH (by decide) (by unfold lR;rw[if_pos h])) λi1=>?_;refine aM (s:=[(false,.bool)]) (UO hs _) ?_;refine eQ (λh=>badH (by decide) (by unfold lR;rw[if_neg (by rw[i1];decide),if_pos h])) λi2=>?_;have n1:¬ kH y.1=false:=by rw[i1];decide
  have n2:¬ lS d y.2.1=false:=by rw[i2];decide
  refine b8 (λh=>badH (by decide) (by unfold lR;rw[if_neg n1,if_neg n2,if_pos (.inl h)])) λh3=>?_;refine b8 (λh=>badH (by decide) (by unfold lR;rw[if_neg n1,if_neg n2,if_pos (.inr h)])) λh4=>?_;have n3:¬ (MK y<1\/10000<MK y):=by rintro (h|h);exact h3 h;exact h4 h
  refine aM (s:=[(false,.any)]) (ZV (a0:=eF y)) ?_;refine QU (b:=oG (eF y)) (by rw[ae];exact BAZ hp1) _ ?_;refine eQ (λh=>badH (by decide) (by unfold lR;rw[if_neg n1,if_neg n2,if_neg n3,if_pos (.inl h)])) λh5=>?_;refine aM (s:=[(false,.any)]) (ZV (a0:=dB y)) ?_;refine QU (b:=oG (dB y)) (by rw[ae];exact BAZ (l:=dB y) hp2) _ ?_;refine eQ (λh=>badH (by decide) (by unfold lR;rw[if_neg n1,if_neg n2,if_neg n3,if_pos (.inr h)])) λh6=>?_;have hh:lR d y=0:=by unfold lR;rw[if_neg n1,if_neg n2,if_neg n3,if_neg];rintro (h|h);(rw[h5] at h;cases h);(rw[h6] at h;cases h)
  have hnd:=LC h6;clear badH n1 n2 n3 h3 h4 h5 h6 i1 i2;rw[if_neg (λh=>h hh)] at hr;refine pK (r:=.bool) rfl es _ ?_;refine bJ (eF y).length (λj s=>∃ S',s.1=(j:Int)/\Seen s.2.1 (λx=>x∈S')/\instE d y.2.1 ((eF y).drop j) S'=instE d y.2.1 (eF y) S) ⟨S,rfl,hseen,rfl⟩ ?_;rintro Y j ⟨i,es',u⟩ hj ⟨S',rfl,hseen',hi⟩ hY;dsimp only at hseen' hi ⊢;refine b8 (λhjl=>?_) λhjl=>?_
  ·rw[ae] at hjl;replace hjl:(j:Int)<((eF y).length:Int):=hjl;have hjl:j<(eF y).length:=by omega
   rw[bA (r:=.str) hjl];rw[List.drop_eq_getElem_cons hjl,instE] at hi;have badI:∀ {n:Int},n≠0->(instE d y.2.1 (eF y) S).1=n->T.v (.int .i64 n)=T.v (.int .i64 (eY d)):=λhn h=>by
    refine bad hn ?_;rw[if_pos (by rw[h];exact hn)] at hr;rw[<-hr];exact h
   have hw:i64.wrap ((j:Int)+1)=((j+1:Nat):Int):=aZ _ (by omega) (by omega);generalize (eF y)[j]=id at hi ⊢;refine BR9 (λ_ hn=>badI (by decide) ?_) λi q hq _ hn=>?_
   ·have hn:partOf d id=none:=hn;rw[hn] at hi;rw[<-hi]
   ·have hn:partOf d id=some d.2.2.1[q]:=hn;rw[hn] at hi;rw[bA (r:=aS) hq];obtain ⟨p,hp⟩:∃ p,p=d.2.2.1[q]:=⟨_,rfl⟩
    rw[<-hp] at hi hn ⊢;dsimp only at hi;have fin:¬ (¬ cY p=4/\¬ cY p=3)->aJ [(false,Sy.str.li),(false,Sy.bool)]
      (l6 (nL d (jR (ids d.2.1)) (jR (ids d.2.2.1)) (jR (ids d.2.2.2.1)) (jR (ids d.2.2.2.2.1)) (fV p))) λ(y18:List iII×Bool) =>
      aE (decide (((List.map Sy.str.enc y18.1).length:Int)=0)) (T.v (.int .i64 2)=T.v (.int .i64 (eY d)))
       (aU Sy.str (List.map Sy.str.enc y18.1) (i64.wrap (((List.map Sy.str.enc y18.1).length:Int)-1)) λ(y19:iII) =>
        aE (!decide (y19=y.2.1)) (T.v (.int .i64 2)=T.v (.int .i64 (eY d)))
        (jC TypeDesc.string (Value.string id) (List.map (dC Sy.str false Sy.bool) es') false Sy.bool
         (qQ (Option (Nat×D)) (findD TypeDesc.string (Value.string id) (List.map (dC Sy.str false Sy.bool) es') 0) λ(y24:Option (Nat×D)) =>
          fA Sy.str false Sy.bool (gB (List.map (dC Sy.str false Sy.bool) es') y24 (Value.string id) (D.p (T.v (.bool true)))) λ(y25:List (iII×Bool))=>Y (i64.wrap ((j:Int)+1),y25,()))
         λ(i20:Nat) (y21:Bool)=>aE y21 (T.v (.int .i64 7)=T.v (.int .i64 (eY d)))
          (qQ (Option (Nat×D)) (findD TypeDesc.string (Value.string id) (List.map (dC Sy.str false Sy.bool) es') 0) λ(y22:Option (Nat×D)) =>
           fA Sy.str false Sy.bool (gB (List.map (dC Sy.str false Sy.bool) es') y22 (Value.string id) (D.p (T.v (.bool true)))) λ(y23:List (iII×Bool))=>Y (i64.wrap ((j:Int)+1),y23,())))):=by
     intro hk;rw[if_neg hk] at hi;refine aM (s:=[(false,.li .str),(false,.bool)]) (O1 hs _) ?_;have hul:=AGN d (fV p);refine BSB (A:=True) (b:=y.2.1) (by omega) (λ_=>trivial) (λ_=>trivial) (λh=>badI (by decide) ?_) λh=>?_
     ·rw[if_neg h] at hi;rw[<-hi]
     ·rw[if_pos h] at hi;refine BSU (K:=λes=>Y (i64.wrap ((j:Int)+1),es,())) hseen' (λh7=>badI (by decide) ?_) λes2 h7 hs2=>?_
      ·rw[if_pos (l8.2 h7)] at hi;rw[<-hi]
      ·rw[if_neg (λh=>h7 (l8.1 h))] at hi;rw[hw];exact hY _ hjl ⟨id::S',rfl,hs2,hi⟩
    refine kD (λk4=>?_) λk4=>?_
    ·refine kD (λk3=>badI (by decide) ?_) λk3=>?_
     ·rw[if_pos ⟨k4,k3⟩] at hi;rw[<-hi]
     ·rw[bA (r:=aS) hq,<-hp];exact fin λh=>h.2 k3
    ·rw[bA (r:=aS) hq,<-hp];exact fin λh=>h.1 k4
  ·rw[ae] at hjl;replace hjl:¬ (j:Int)<((eF y).length:Int):=hjl;have hjl:j=(eF y).length:=by omega
   subst hjl;rw[List.drop_length,instE] at hi;rw[<-hi,if_neg (by simp)] at hr;dsimp only at hr;clear hY hi hj;rw[dJ rfl];refine bJ (dB y).length (λj s=>s.2.1=(j:Int)/\s.1.length=E.length+j/\(∀ x∈(dB y).take j,x∈ids d.2.2.2.2.1)/\zZ d y.1 k ((dB y).drop j) s.1=zZ d y.1 k (dB y) E) ⟨rfl,by simp,by simp,rfl⟩ ?_;rintro Y j ⟨E',i,u⟩ hj ⟨rfl,hEl,hin,hi⟩ hY;dsimp only at hEl hin hi ⊢;have hjk:j<=64:=by
    have h1:=AVD (hnd.sublist (List.take_sublist j _)) hin;have h2:(ids d.2.2.2.2.1).length=d.2.2.2.2.1.length:=by simp[ids]
    rw[List.length_take] at h1;omega
   refine b8 (λhjl=>?_) λhjl=>?_
   ·rw[ae] at hjl;replace hjl:(j:Int)<((dB y).length:Int):=hjl;have hjl:j<(dB y).length:=by omega
    rw[bA (r:=.str) hjl];rw[List.drop_eq_getElem_cons hjl,zZ] at hi;have badA:∀ {n:Int},n≠0->(zZ d y.1 k (dB y) E).1=n->T.v (.int .i64 n)=T.v (.int .i64 (eY d)):=λhn h=>by
     refine bad hn ?_;rw[if_pos (by rw[h];exact hn)] at hr;rw[<-hr];exact h
    have hw:i64.wrap ((j:Int)+1)=((j+1:Nat):Int):=aZ _ (by omega) (by omega);have hts:(dB y).take (j+1)=(dB y).take j++[(dB y)[j]]:=List.take_succ_eq_append_getElem hjl;generalize (dB y)[j]=id at hi hts ⊢;refine b8 (λh=>badA (by decide) ?_) λh=>?_
    ·rw[if_pos h] at hi;rw[<-hi]
    rw[if_neg h] at hi;refine BR9 (λhg _=>badA (by decide) ?_) λi q hq hg hfi=>?_
    ·rw[hg] at hi;rw[<-hi]
    ·rw[hg] at hi;dsimp only at hi;refine ⟨by simp;omega,?_⟩;rw[vC (r:=aC) rfl E' [T.v (.int .i64 (q:Int)),T.v (.int .i64 (k:Int))] ((q:Int),(k:Int)) rfl,hw];refine hY _ hjl ⟨rfl,by simp only[List.length_append,List.length_cons,List.length_nil];omega,λx hx=>?_,hi⟩;rw[hts] at hx;rcases List.mem_append.1 hx with hx|hx
     ·exact hin x hx
     ·have hx:x=id:=by simpa using hx
      subst hx;have h9:=List.find?_some hfi;exact List.mem_map.2 ⟨_,ak hq,of_decide_eq_true h9⟩
   ·rw[ae] at hjl;replace hjl:¬ (j:Int)<((dB y).length:Int):=hjl;have hjl:j=(dB y).length:=by omega
    subst hjl;rw[List.drop_length,zZ] at hi;rw[<-hi,if_neg (by simp)] at hr;dsimp only at hr;rw[dJ rfl];refine pK (r:=.bool) rfl es' _ ?_;refine hX _ hlt ⟨S',?_,hseen',?_,?_⟩
    ·show i64.wrap ((k:Int)+1)=_;rw[aZ]<;>omega
    ·show E'.length<=_;omega
    ·rw[<-hr];rfl
 ·rw[ae] at hge;have hkl:k=d.2.2.2.2.1.length:=by omega
  subst hkl;rw[List.drop_length,iC] at hr;have w:eY d=if (eR d.2.2.2.2.1.length E).2=0 then 0 else 20:=by
   unfold eY;rw[<-hr,if_pos rfl]
  refine aM (s:=[(false,.li (.int .i64)),(false,.int .i64)]) (y:=eR d.2.2.2.2.1.length E) (by rw[ae];exact (AQ8 ..).trans (fH (l:=E) _ (by omega))) ?_;exact kD (λh=>is (by rw[w,if_neg h])) λh=>is (by rw[w,if_pos h])
def QN {a:Option MP} {es:MP} {K:MP->Prop} (h:a=some es) (hk:K es):qQ (List (iII×Int)) a K:=⟨es,h,hk⟩
def ZM:List T->Option (List (iII×Int)):=A1F
def BNI:j9 Tryz.prog 102 (uO ZM):=BRY
def BLY:Env:=Env.of [(39,.pure AZ),(40,.pure jK),(102,.AZ1 ZM),(42,.pure UN),(43,.pure AM),(44,.pure vL),(45,.pure AN),(46,.pure vK),(47,.pure AL)]
def A40:bB Tryz.prog BLY:=.cons A0K (.cons CU (.cons BNI (.cons BH6 (.cons AZ3 (.cons A0F (.cons AZ4 (.cons A0E (.cons AZ2 (.nil _)))))))))
def BUU(a0:aG):List T:=[T.ref [T.ref [T.sl false (BU2 a0), T.sl false (BUY a0), T.sl false (BU3 a0), T.sl false (BUZ a0), T.sl false (BU4 a0), pPQ a0.1].reverse].reverse]
def AOS(a0:aG)(a1:aL)(R:T->Prop):Prop:=aJ BUA (AZ [aH true aO a1]) λ(y0:Int)=>aE (!decide (y0=0)) (R (BU7 y0)) (aJ BT9 (jK [pPQ a0.1]) λ(y1:Bool)=>aE (!y1) (R BUL) (qQ (List aI) (ZM [T.fn 103 [].reverse (BUU a0).reverse, pPP (↑(BU4 a0).length:Int)].reverse) λ(y2:List aI)=>qQ (List aI) (ZM [T.fn 104 [].reverse (BUU a0).reverse, pPP (↑(BUZ a0).length:Int)].reverse) λ(y3:List aI)=>qQ (List aI) (ZM [T.fn 105 [].reverse (BUU a0).reverse, pPP (↑(BU3 a0).length:Int)].reverse) λ(y4:List aI)=>qQ (List aI) (ZM [T.fn 106 [].reverse (BUU a0).reverse, pPP (↑(BUY a0).length:Int)].reverse) λ(y5:List aI)=>aJ BUA (UN [T.ref [T.ref (BVD a0), T.mp (bQ y2),T.mp (bQ y3),T.mp (bQ y4), T.mp (bQ y5)]]) λ(y6:Int)=>aE (!decide (y6=0)) (R (BU7 y6)) (aJ BUA (AM [T.ref [T.ref (BUS a0), T.mp (bQ y2),T.mp (bQ y3),T.mp (bQ y4), T.mp (bQ y5)]]) λ(y7:Int)=>aE (!decide (y7=0)) (R (BU7 y7)) (aJ BUA (vL [T.ref [T.ref (BUS a0), T.mp (bQ y2),T.mp (bQ y3),T.mp (bQ y4), T.mp (bQ y5)], aH true aO a1]) λ(y8:Int)=>aE (!decide (y8=0)) (R (BU7 y8)) (aJ BUA (AN [T.ref (BVA a0 y2 y3 y4 y5)]) λ(y9:Int)=>aE (!decide (y9=0)) (R (BU7 y9)) (aJ BUA (vK [T.ref (BVA a0 y2 y3 y4 y5)]) λ(y10:Int)=>aE (!decide (y10=0)) (R (BU7 y10)) (aJ BUA (AL [T.ref (BVA a0 y2 y3 y4 y5)]) λ(y11:Int)=>R (BU7 y11))))))))
abbrev AS2:Sh:=[(true,aF),(true,aO)]
def oM (d:aG) (m:aL):Int:=if ¬ BN m=0 then BN m else if isName d.1=false then 6 else if ¬ fW d=0 then fW d else if ¬ fD d=0 then fD d else if ¬ j8 d m=0 then j8 d m else if ¬ bT (kW d) d.2.2.2.1=0 then bT (kW d) d.2.2.2.1 else if ¬ eY d=0 then eY d else bT (kS d) d.2.2.2.2.2
def QX (x:aG×aL):Option T:=some (T.v (Value.int .i64 (oM x.1 x.2)))
def cT:List T->Option T:=gS AS2 QX
def rK {a0 a1}:cT [aH true aF a0,aH true aO a1]=QX (a0,a1):=a8 (s:=AS2) rfl (a0,a1) rfl
def BI9:nJ Tryz.prog 15 cT QX (bR AS2) AOS:=eV (a1:=(true,aF)) (a2:=(true,aO)) (Hs:=c0) (k:=8) A40 aV aY (aQ rfl) ⟨_,_,Tryz.func15,rfl⟩ rfl λ_ _ _=>by kernel_rfl
def BIR (h:BN m=0):okM m=true:=by
 unfold BN at h;split at h
 ·cases h
 rename_i h1;split at h
 ·rename_i h2;exact absurd h h2
 rename_i h2;have h2:bT (BI m) (List.range m.1.length)=0:=Classical.byContradiction h2;simp only[okM,ac,ah,List.all_eq_true];refine ⟨⟨by omega,by omega⟩,λg hg=>?_⟩;obtain ⟨i,hi,rfl⟩:=List.mem_iff_getElem.1 hg;have h3:=kM h2 i (List.mem_range.2 hi);unfold BI at h3;rw[o9 hi] at h3;have h4:j7 m.1[i]=0:=by
  refine Classical.byContradiction λhc=>?_;rw[if_pos hc] at h3;exact hc h3
 unfold j7 at h4;split at h4
 ·cases h4
 split at h4
 ·cases h4
 split at h4
 ·cases h4
 split at h4
 ·cases h4
 ·omega
def BHJ {d:aG} (hs:oJ d) (hm:okM m=true):vL (pF d (jR (ids d.2.1)) (jR (ids d.2.2.1)) (jR (ids d.2.2.2.1)) (jR (ids d.2.2.2.2.1)) m)=some (T.v (Value.int .i64 (j8 d m))):=by
 rw[AJO];unfold wY;dsimp only;rw[hm];exact pZ hs _
def BHI {d:aG} (hs:oJ d) (hk:C5 d=true):vK (pE d (jR (ids d.2.1)) (jR (ids d.2.2.1)) (jR (ids d.2.2.2.1)) (jR (ids d.2.2.2.2.1)))=some (T.v (Value.int .i64 (eY d))):=by
 rw[AJN];unfold wX;dsimp only;rw[hk];exact pZ hs _
def lF:aT Tryz.prog 15 cT:=BI9 λd m r h hb=>by
 cases h;have hd:BdS aF d:=hb.1;have hs:oJ d:=⟨hd.2.1.1,hd.2.2.1.1,hd.2.2.2.1.1,hd.2.2.2.2.1.1,hd.2.2.2.2.2.1⟩
 have hkl:∀ k∈d.2.2.2.2.1,(eF k).length<=140737488355328/\(dB k).length<=140737488355328:=λk hk=>by
  have h:=hd.2.2.2.2.1.2 k hk;exact ⟨h.2.2.1.1,h.2.2.2.2.1⟩
 clear hd;have is:∀ {n:Int},oM d m=n->pPP n=pPP (oM d m):=λh=>by rw[h]
 unfold AOS BVD BVA BUU BUS BU4 BU3 BU2 BUZ BUY BU7 BUL BUA BT9;refine aM (s:=[(false,.int .i64)]) (y:=BN m) (AJ4 ..) ?_;refine kD (λh=>is (by unfold oM;rw[if_pos h])) λh0=>?_;have hm:=BIR h0;refine aM (s:=[(false,.bool)]) (y:=isName d.1) AV ?_;have n0:¬ ¬ BN m=0:=λh=>h h0;refine eQ (λh=>is (by unfold oM;rw[if_neg n0,if_pos h])) λhn=>?_;have n1:¬ isName d.1=false:=by rw[hn];decide
 refine QN (es:=jR (ids d.2.1)) (by rw[ae];exact BN2 hs.n) ?_;refine QN (es:=jR (ids d.2.2.1)) (by rw[ae];exact BN3 hs.p) ?_;refine QN (es:=jR (ids d.2.2.2.1)) (by rw[ae];exact BN4 hs.s) ?_;refine QN (es:=jR (ids d.2.2.2.2.1)) (by rw[ae];exact BN5 hs.k) ?_;refine aM (s:=[(false,.int .i64)]) (y:=fW d) ((A1D ..).trans (pZ hs _)) ?_;refine kD (λh=>is (by unfold oM;rw[if_neg n0,if_neg n1,if_pos h])) λh1=>?_;have n2:¬ ¬ fW d=0:=λh=>h h1;have hk:C5 d=true:=by
  simp only[C5,ac,ah,List.all_eq_true];refine ⟨hkl,?_⟩;have hlong:fO d=false:=by
   rw[Bool.eq_false_iff];intro h;unfold fW at h1;rw[if_pos h] at h1;cases h1
  simp only[fO,Bool.or_eq_false_iff,decide_eq_false_iff_not] at hlong;omega
 refine aM (s:=[(false,.int .i64)]) (y:=fD d) ((AJI ..).trans (pZ hs _)) ?_;refine kD (λh=>is (by unfold oM;rw[if_neg n0,if_neg n1,if_neg n2,if_pos h])) λh2=>?_;have n3:¬ ¬ fD d=0:=λh=>h h2;refine aM (s:=[(false,.int .i64)]) (y:=j8 d m) (BHJ hs hm) ?_;refine kD (λh=>is (by unfold oM;rw[if_neg n0,if_neg n1,if_neg n2,if_neg n3,if_pos h])) λh3=>?_;have n4:¬ ¬ j8 d m=0:=λh=>h h3;refine aM (s:=[(false,.int .i64)]) (y:=bT (kW d) d.2.2.2.1) ((AJJ ..).trans (pZ hs _)) ?_;refine kD (λh=>is (by unfold oM;rw[if_neg n0,if_neg n1,if_neg n2,if_neg n3,if_neg n4,if_pos h])) λh4=>?_;have n5:¬ ¬ bT (kW d) d.2.2.2.1=0:=λh=>h h4;refine aM (s:=[(false,.int .i64)]) (y:=eY d) (BHI hs hk) ?_;refine kD (λh=>is (by unfold oM;rw[if_neg n0,if_neg n1,if_neg n2,if_neg n3,if_neg n4,if_neg n5,if_pos h])) λh5=>?_;have n6:¬ ¬ eY d=0:=λh=>h h5;refine aM (s:=[(false,.int .i64)]) (y:=bT (kS d) d.2.2.2.2.2) ((AJH ..).trans (pZ hs _)) ?_;exact is (by unfold oM;rw[if_neg n0,if_neg n1,if_neg n2,if_neg n3,if_neg n4,if_neg n5,if_neg n6])
def QJ (d:aG) (n:Int):Bool:=decide ((d.2.1.length:Int)<=n)&&decide ((d.2.2.1.length:Int)<=n)&&decide ((d.2.2.2.1.length:Int)<=n)&&decide ((d.2.2.2.2.1.length:Int)<=n)&&decide ((d.2.2.2.2.2.length:Int)<=n)&&d.2.2.2.2.1.all λk=>decide ((k.2.2.1.length:Int)<=n)&&decide ((k.2.2.2.2.length:Int)<=n)
def AF5 (x:aG×Int):Option T:=some (Sh.enc p0 (QJ x.1 x.2))
def BRH:FuncId->Hint:=bP 18 [(4,.inv [.val 5 false (.int .i64)])] (λ_=>bH)
def A5W(a0:aG)(a1:Int)(R:T->Prop):Prop:=aE (decide (a1<(↑(BU4 a0).length:Int))) (R BT7) (aE (decide (a1<(↑(BUZ a0).length:Int))) (R BT7) (aE (decide (a1<(↑(BU3 a0).length:Int))) (R BT7) (aE (decide (a1<(↑(BUY a0).length:Int))) (R BT7) (aE (decide (a1<(↑(BU2 a0).length:Int))) (R BT7) (a7 (Int×PUnit) (λX0 s1=>aE (decide (s1.1<(↑(BUY a0).length:Int))) (aU aK (BUY a0) s1.1 λ(y2:bE)=>aE (decide (a1<(↑(BVF y2).length:Int))) (R BT7) (aU aK (BUY a0) s1.1 λ(y3:bE)=>aE (decide (a1<(↑(BVC y3).length:Int))) (R BT7) (BUV X0 s1))) (R BUD)) (0,()))))))
abbrev BEF:Sh:=[(true,aF),(false,(Sy.int IntKind.i64))]
def AJW:List T->Option T:=gS BEF AF5
def BAD {a0 a1}:AJW [aH true aF a0,pPP a1]=AF5 (a0,a1):=a8 (s:=BEF) rfl (a0,a1) rfl
def BPB:nJ Tryz.prog 18 AJW AF5 (bR BEF) A5W:=eV (a1:=(true,aF)) (a2:=(false,(Sy.int IntKind.i64))) (Hs:=BRH) (k:=8) (bM _) aV aY (aQ rfl) ⟨_,_,Tryz.func18,rfl⟩ rfl λ_ _ _=>by kernel_rfl
variable {B:Prop}
def gN {n:Int} {m:Nat} (h1:¬ (m:Int)<=n->A) (h2:(m:Int)<=n->B):aE (decide (n<(m:Int))) A B:=by
 by_cases h:(m:Int)<=n
 ·exact eB (by omega) (h2 h)
 ·exact dD (by omega) (h1 h)
def SW {p:α->Bool} {l:List α} {k:Nat} (h:k<l.length):(l.drop k).all p=(p l[k]&&(l.drop (k+1)).all p):=by rw[List.drop_eq_getElem_cons h,List.all_cons]
def BND:aT Tryz.prog 18 AJW:=BPB λd n r h hb=>by
 cases h;have hl:d.2.2.2.2.1.length<=2 ^ 47:=hb.1.2.2.2.2.1.1;have no:QJ d n=false->pPR false=Sh.enc p0 (QJ d n):=λh=>by rw[h];rfl
 unfold A5W BVF BVC BUV BU4 BU3 BU2 BUZ BUY BUD BT7;simp only[ae];refine gN (λh=>no (by simp[QJ,h])) λg1=>?_;refine gN (λh=>no (by simp[QJ,h])) λg2=>?_;refine gN (λh=>no (by simp[QJ,h])) λg3=>?_;refine gN (λh=>no (by simp[QJ,h])) λg4=>?_;refine gN (λh=>no (by simp[QJ,h])) λg5=>?_;refine bJ d.2.2.2.2.1.length (λk s=>s=((k:Int),())/\QJ d n=(d.2.2.2.2.1.drop k).all λk=>decide ((k.2.2.1.length:Int)<=n)&&decide ((k.2.2.2.2.length:Int)<=n)) ⟨rfl,by simp only[QJ,g1,g2,g3,g4,g5,decide_true,Bool.true_and,List.drop_zero]⟩ ?_;rintro X k s hk ⟨rfl,he⟩ hX;dsimp only;by_cases hlt:k<d.2.2.2.2.1.length
 ·rw[SW hlt] at he;refine dD (by simp[hlt]) ?_;rw[bA (r:=aK) hlt]
  try simp only[ae]
  refine gN (λh=>no (by rw[he];simp[h])) λg6=>?_
  try rw[bA (r:=aK) hlt]
  try simp only[ae]
  refine gN (λh=>no (by rw[he];simp[h])) λg7=>?_;refine hX _ hlt ⟨by rw[show i64.wrap ((k:Int)+1)=((k+1:Nat):Int) from aZ _ (by omega) (by omega)],?_⟩;rw[he];simp only[g6,g7,decide_true,Bool.true_and]
 ·have:k=d.2.2.2.2.1.length:=by omega
  subst this;refine eB (by simp) ?_;rw[he];simp only[List.drop_length,List.all_nil];rfl
def BP0 {d:aG} (h:InS aF d):KK d=true:=by
 refine List.all_eq_true.2 λp hp=>?_;obtain ⟨_,_,⟨_,_,h3⟩,_⟩:=h;have h4:=h3 p hp;obtain ⟨_,_,_,_,_,_,⟨⟨h5,h6,_⟩,h7,h8,h9⟩,_⟩:=h4;unfold iA JC mB;simp only[ac,ah,List.all_eq_true];refine ⟨⟨⟨?_,?_⟩,?_,?_⟩,λq hq=>?_⟩
 ·exact h5
 ·exact h6
 ·exact h7
 ·exact h8
 ·obtain ⟨g1,g2,_⟩:=h9 q hq;exact ⟨g1,g2⟩
def BP1 {d:aG} (h:InS aF d):PD d=true:=by
 refine List.all_eq_true.2 λp hp=>?_;obtain ⟨_,_,_,_,⟨_,_,h3⟩,_⟩:=h;obtain ⟨_,_,⟨h5,h6,_⟩,_,⟨h7,h8,_⟩⟩:=h3 p hp;unfold fZ mB;simp only[ac,ah];exact ⟨⟨h5,h6⟩,h7,h8⟩
def sK {c:Bool} (h1:c=true->A) (h2:c=false->B):aE c A B:=by cases c with
 | true=>exact h1 rfl
 | false=>exact h2 rfl
def fX {c:Bool} (h1:c=false->A) (h2:c=true->B):aE (!c) A B:=by cases c with
 | true=>exact h2 rfl
 | false=>exact h1 rfl
def J9 (x:List aN×List aN):Option T:=some (Sh.enc p0 (qM x.1 x.2))
def uI (x:bG×bG):Option T:=some (Sh.enc p0 (qM x.1 x.2))
def XE (x:aG×aG):Option T:=some (Sh.enc p0 (qM x.1 x.2))
def oB:=XE
def BME:FuncId->Hint:=bP 251 [(4,.inv [.val 13 false (.int .i64)])] (λ_=>bH)
def AO7(a0:List aN)(a1:List aN)(R:T->Prop):Prop:=aE (!decide ((↑(BUW a0).length:Int)=(↑(BUW a1).length:Int))) (R BT7) (a7 (Int×PUnit) (λX0 s1=>aE (decide (s1.1<(↑(BUW a0).length:Int))) (aU aC (BUW a0) s1.1 λ(y2:aN)=>aU aC (BUW a1) s1.1 λ(y3:aN)=>aE (!(decide (y2.1=y3.1)&&(decide (y2.2=y3.2)&&true))) (R BT7) (BUV X0 s1)) (R BUD)) (0,()))
abbrev ATH:Sh:=[(false,aC.li),(false,aC.li)]
def L1:List T->Option T:=gS ATH J9
def A1H {a0 a1}:L1 [T.sl false (List.map aC.enc a0),T.sl false (List.map aC.enc a1)]=J9 (a0,a1):=a8 (s:=ATH) rfl (a0,a1) rfl
def BJQ:nJ Tryz.prog 251 L1 J9 (bR ATH) AO7:=eV (a1:=(false,aC.li)) (a2:=(false,aC.li)) (Hs:=BME) (k:=8) (bM _) aV aY (aQ rfl) ⟨_,_,Tryz.func251,rfl⟩ rfl λ_ _ _=>by kernel_rfl
def BIA:aT Tryz.prog 251 L1:=BJQ λa b r h hb=>by
 cases h;unfold AO7 BUW BUV BUD BT7;refine JQ (r:=aC) (R:=λy=>y=Sh.enc p0 (qM a b)) hb.1.1 _ (λx y=>?_) rfl;simp only[Bool.and_true,ac,ah,Prod.ext_iff]
variable {N Y:Prop}
def vB {r:Sy} {l m:List r.den} (hlen:l.length=m.length) (hl:l.length<=2 ^ 47) (test:r.den->r.den->Bool) (ht:∀ x y,test x y=true↔x=y) (hY:l=m->Y) (hN:¬ l=m->N) :
  a7 (Int×PUnit) (λ(X:Int×PUnit->Prop) (s:Int×PUnit)=>aE (decide (s.1<(↑(List.map r.enc l).length:Int))) (aU r (List.map r.enc l) s.1 λy=>aU r (List.map r.enc m) s.1 λz=>aE (!(test y z)) N (X (i64.wrap (s.1+1),()))) Y) (0,()):=by
 refine bJ l.length (λk s=>s=((k:Int),())/\(l=m↔l.drop k=m.drop k)) ⟨rfl,by simp⟩ ?_;rintro X k s hk ⟨rfl,he⟩ hX;dsimp only;by_cases hlt:k<l.length
 ·have hlt2:k<m.length:=by omega
  refine dD (by simp[hlt]) ?_;rw[bA hlt,bA hlt2];rw[List.drop_eq_getElem_cons hlt,List.drop_eq_getElem_cons hlt2,List.cons.injEq] at he;refine fX (λh=>hN λe=>?_) λh=>?_
  ·rw[(ht _ _).2 (he.1 e).1] at h;cases h
  ·have h1:=(ht _ _).1 h;refine hX _ hlt ⟨by rw[show i64.wrap ((k:Int)+1)=((k+1:Nat):Int) from aZ _ (by omega) (by omega)],?_⟩;rw[he];exact ⟨λh=>h.2,λh=>⟨h1,h⟩⟩
 ·have:k=l.length:=by omega
  subst this;refine eB (by simp) ?_;exact hY (he.2 (by rw[List.drop_length,hlen,List.drop_length]))
def MM {β:Type} {f:α->β} {l m:List α} (h:decide ((↑(List.map f l).length:Int)=(↑(List.map f m).length:Int))=true):l.length=m.length:=by simp at h;omega
def ACY {r:Sy} {l m:List r.den} (hl:l.length<=2 ^ 47) (test:r.den->r.den->Bool) (ht:∀ x y,test x y=true↔x=y) (hY:l=m->Y) (hN:¬ l=m->N) :
  aE (!decide ((↑(List.map r.enc l).length:Int)=(↑(List.map r.enc m).length:Int))) N (a7 (Int×PUnit) (λ(X:Int×PUnit->Prop) (s:Int×PUnit)=>aE (decide (s.1<(↑(List.map r.enc l).length:Int))) (aU r (List.map r.enc l) s.1 λy=>aU r (List.map r.enc m) s.1 λz=>aE (!(test y z)) N (X (i64.wrap (s.1+1),()))) Y) (0,())) :=
 fX (λh=>hN λe=>by simp[e] at h) λh=>vB (MM h) hl test ht hY hN
def ANW:Env:=Env.of [(251,.pure L1)]
def APC:FuncId->Hint:=bP 252 [(4,.inv [.val 17 false (.int .i64)])] (λ_=>bH)
def ABN:bB Tryz.prog ANW:=.cons BIA (.nil _)
def E0(a0:bG)(a1:bG)(R:T->Prop):Prop:=aE (!decide (a0.1=a1.1)) (R BT7) (aE (!decide (a0.2.1=a1.2.1)) (R BT7) (aE (!decide (a0.2.2.1=a1.2.2.1)) (R BT7) (aE (!decide (a0.2.2.2.1=a1.2.2.2.1)) (R BT7) (aE (!decide (a0.2.2.2.2.1=a1.2.2.2.2.1)) (R BT7) (aE (!decide (a0.2.2.2.2.2.1=a1.2.2.2.2.2.1)) (R BT7) (aE (!decide (a0.2.2.2.2.2.2.2.1=a1.2.2.2.2.2.2.2.1)) (R BT7) (aE (!decide (a0.2.2.2.2.2.2.2.2.1=a1.2.2.2.2.2.2.2.2.1)) (R BT7) (aE (!decide (a0.2.2.2.2.2.2.2.2.2.1=a1.2.2.2.2.2.2.2.2.2.1)) (R BT7) (aE (!(decide (a0.2.2.2.2.2.2.2.2.2.2.1.1 = a1.2.2.2.2.2.2.2.2.2.2.1.1) && (decide (a0.2.2.2.2.2.2.2.2.2.2.1.2.1 = a1.2.2.2.2.2.2.2.2.2.2.1.2.1) && (decide (a0.2.2.2.2.2.2.2.2.2.2.1.2.2 = a1.2.2.2.2.2.2.2.2.2.2.1.2.2) && true)))) (R BT7) (aE (!(decide (a0.2.2.2.2.2.2.2.2.2.2.2.1.1 = a1.2.2.2.2.2.2.2.2.2.2.2.1.1) && (decide (a0.2.2.2.2.2.2.2.2.2.2.2.1.2.1 = a1.2.2.2.2.2.2.2.2.2.2.2.1.2.1) && (decide (a0.2.2.2.2.2.2.2.2.2.2.2.1.2.2 = a1.2.2.2.2.2.2.2.2.2.2.2.1.2.2) && true)) && (decide (a0.2.2.2.2.2.2.2.2.2.2.2.2 = a1.2.2.2.2.2.2.2.2.2.2.2.2) && true))) (R BT7) (aJ BT9 (L1 [T.sl false (BVL a0), T.sl false (BVL a1)]) λ(y0:Bool)=>aE y0 (aE (!decide ((↑(BU1 a0).length:Int) = (↑(BU1 a1).length:Int))) (R BT7) (a7 (Int×PUnit) (λX1 s2=>aE (decide (s2.1 < (↑(BU1 a0).length : Int))) (aU aC.li (BU1 a0) s2.1 λ(y3:List aN)=>aU aC.li (BU1 a1) s2.1 λ(y4:List aN)=>aJ BT9 (L1 [T.sl false (BUW y3), T.sl false (BUW y4)]) λ(y5:Bool)=>aE (!y5) (R BT7) (BUV X1 s2)) (R BUD)) (0,()))) (R BT7))))))))))))
abbrev F2:Sh:=[(true,aS),(true,aS)]
def sD:List T->Option T:=gS F2 uI
def YL {a0 a1}:sD [aH true aS a0,aH true aS a1]=uI (a0,a1):=a8 (s:=F2) rfl (a0,a1) rfl
def ALZ:nJ Tryz.prog 88 sD uI (bR F2) E0:=eV (a1:=(true,aS)) (a2:=(true,aS)) (Hs:=APC) (k:=8) ABN aV aY (aQ rfl) ⟨_,_,Tryz.func88,rfl⟩ rfl λ_ _ _=>by kernel_rfl
def AI7:aT Tryz.prog 88 sD:=ALZ λa b r h hb=>by
 cases h;have no:¬ a=b->pPR false=Sh.enc p0 (qM a b):=λh=>by rw[xL h];rfl
 have yes:a=b->pPR true=Sh.enc p0 (qM a b):=λh=>by rw[eP.2 h];rfl
 have hl:a.2.2.2.2.2.2.1.2.length<=2 ^ 47:=hb.1.2.2.2.2.2.2.1.2.1;unfold E0 BVL BU1 BUW BUV BUD BT9 BT7;have u:=@A1H;simp only[u,J9,BS];refine fX (λh=>no λe=>by simp[e] at h) λh1=>?_;refine fX (λh=>no λe=>by simp[e] at h) λh2=>?_;refine fX (λh=>no λe=>by simp[e] at h) λh3=>?_;refine fX (λh=>no λe=>by simp[e] at h) λh4=>?_;refine fX (λh=>no λe=>by simp[e] at h) λh5=>?_;refine fX (λh=>no λe=>by simp[e] at h) λh6=>?_;refine fX (λh=>no λe=>by simp[e] at h) λh7=>?_;refine fX (λh=>no λe=>by simp[e] at h) λh8=>?_;refine fX (λh=>no λe=>by simp[e] at h) λh9=>?_;refine fX (λh=>no λe=>by simp[e] at h) λh10=>?_;refine fX (λh=>no λe=>by simp[e] at h) λh11=>?_;refine sK (λh12=>?_) (λh=>no λe=>by simp[e] at h);refine ACY (r:=.li aC) hl _ (λx y=>eP) (λh13=>yes ?_) (λh=>no λe=>h (by rw[e]));simp only[Bool.and_true,ac,ah,eP] at h1 h2 h3 h4 h5 h6 h7 h8 h9 h10 h11 h12;simp only[Prod.ext_iff];exact ⟨h1,h2,h3,h4,h5,h6,⟨h12,h13⟩,h7,h8,h9,h10,h11⟩
def AG0:Env:=Env.of [(37,.pure mO),(38,.pure sF)]
def AHX:FuncId->Hint:=bP 12 [(4,.inv [.val 5 false (.int .i64)]),(9,.inv [.val 6 false (.int .i64)]),(14,.inv [.val 7 false (.int .i64)]),(19,.inv [.val 8 false (.int .i64)]),(24,.inv [.val 9 false (.int .i64)])] (λ_=>bH)
def YA:bB Tryz.prog AG0:=.cons OT (.cons AJA (.nil _))
def zW(a0:aG)(a1:aG)(R:T->Prop):Prop:=aE (!decide (a0.1=a1.1)) (R BT7) (aE (!decide ((↑(BU4 a0).length:Int)=(↑(BU4 a1).length:Int))) (R BT7) (aE (!decide ((↑(BUZ a0).length:Int) = (↑(BUZ a1).length:Int))) (R BT7) (aE (!decide ((↑(BU3 a0).length:Int) = (↑(BU3 a1).length:Int))) (R BT7) (aE (!decide ((↑(BUY a0).length:Int) = (↑(BUY a1).length:Int))) (R BT7) (aE (!decide ((↑(BU2 a0).length:Int) = (↑(BU2 a1).length:Int))) (R BT7) (a7 (Int×PUnit) (λX0 s1=>aE (decide (s1.1<(↑(BU4 a0).length:Int))) (aU bC (BU4 a0) s1.1 λ(y2:eH)=>aU bC (BU4 a1) s1.1 λ(y3:eH)=>aE (!(decide (y2.1=y3.1) && (decide (y2.2.1=y3.2.1)&&(decide (y2.2.2=y3.2.2)&&true)))) (R BT7) (BUV X0 s1)) (a7 (Int×PUnit) (λX4 s5=>aE (decide (s5.1<(↑(BUZ a0).length:Int))) (aU aS (BUZ a0) s5.1 λ(y6:bG)=>aU aS (BUZ a1) s5.1 λ(y7:bG)=>aJ BT9 (mO [aH true aS y6,aH true aS y7]) λ(y8:Bool)=>aE (!y8) (R BT7) (BUV X4 s5)) (a7 (Int×PUnit) (λX9 s10=>aE (decide (s10.1<(↑(BU3 a0).length:Int))) (aU bI (BU3 a0) s10.1 λ(y11:gE)=>aU bI (BU3 a1) s10.1 λ(y12:gE)=>aE (!(decide (y11.1=y12.1) && (decide (y11.2.1=y12.2.1) && (decide (y11.2.2.1=y12.2.2.1) && (decide (y11.2.2.2.1=y12.2.2.2.1) && (decide (y11.2.2.2.2.1=y12.2.2.2.2.1) && (decide (y11.2.2.2.2.2=y12.2.2.2.2.2) && true))))))) (R BT7) (BUV X9 s10)) (a7 (Int×PUnit) (λX13 s14=>aE (decide (s14.1<(↑(BUY a0).length:Int))) (aU aK (BUY a0) s14.1 λ(y15:bE)=>aU aK (BUY a1) s14.1 λ(y16:bE)=>aJ BT9 (sF [aH true aK y15,aH true aK y16]) λ(y17:Bool)=>aE (!y17) (R BT7) (BUV X13 s14)) (a7 (Int×PUnit) (λX18 s19=>aE (decide (s19.1 < (↑(BU2 a0).length:Int))) (aU a6 (BU2 a0) s19.1 λ(y20:cP)=>aU a6 (BU2 a1) s19.1 λ(y21:cP)=>aE (!(decide (y20.1=y21.1) && (decide (y20.2.1=y21.2.1) && (decide (y20.2.2=y21.2.2)&&true)))) (R BT7) (BUV X18 s19)) (R BUD)) (0,()))) (0,()))) (0,()))) (0,()))) (0,())))))))
abbrev BV:Sh:=[(true,aF),(true,aF)]
def iP:List T->Option T:=gS BV oB
def AQ {a0 a1}:iP [aH true aF a0,aH true aF a1]=oB (a0,a1):=a8 (s:=BV) rfl (a0,a1) rfl
def AEI:nJ Tryz.prog 12 iP oB (bR BV) zW:=eV (a1:=(true,aF)) (a2:=(true,aF)) (Hs:=AHX) (k:=8) YA aV aY (aQ rfl) ⟨_,_,Tryz.func12,rfl⟩ rfl λ_ _ _=>by kernel_rfl
def HF:aT Tryz.prog 12 iP:=AEI λa b r h hb=>by
 cases h;have no:¬ a=b->pPR false=Sh.enc p0 (qM a b):=λh=>by rw[xL h];rfl
 have yes:a=b->pPR true=Sh.enc p0 (qM a b):=λh=>by rw[eP.2 h];rfl
 obtain ⟨⟨_,⟨b1,_⟩,⟨b2,_⟩,⟨b3,_⟩,⟨b4,_⟩,⟨b5,_⟩⟩,_⟩:=hb;unfold zW BUV BU4 BU3 BU2 BUZ BUY BUD BT9 BT7;simp only[EG,qE,YM,qD,BS];refine fX (λh=>no λe=>by simp[e] at h) λh1=>?_;refine fX (λh=>no λe=>by simp[e] at h) λg1=>?_;refine fX (λh=>no λe=>by simp[e] at h) λg2=>?_;refine fX (λh=>no λe=>by simp[e] at h) λg3=>?_;refine fX (λh=>no λe=>by simp[e] at h) λg4=>?_;refine fX (λh=>no λe=>by simp[e] at h) λg5=>?_;refine vB (r:=bC) (MM g1) b1 _ (λx y=>?_) (λh2=>?_) (λh=>no λe=>h (by rw[e]))
 ·simp only[Bool.and_true,ac,ah,Prod.ext_iff]
 refine vB (r:=aS) (MM g2) b2 _ (λx y=>eP) (λh3=>?_) (λh=>no λe=>h (by rw[e]));refine vB (r:=bI) (MM g3) b3 _ (λx y=>?_) (λh4=>?_) (λh=>no λe=>h (by rw[e]))
 ·simp only[Bool.and_true,ac,ah,Prod.ext_iff]
 refine vB (r:=aK) (MM g4) b4 _ (λx y=>eP) (λh5=>?_) (λh=>no λe=>h (by rw[e]));refine vB (r:=a6) (MM g5) b5 _ (λx y=>?_) (λh6=>yes ?_) (λh=>no λe=>h (by rw[e]))
 ·simp only[Bool.and_true,ac,ah,Prod.ext_iff]
 exact Prod.ext (by simpa using h1) (Prod.ext h2 (Prod.ext h3 (Prod.ext h4 (Prod.ext h5 h6))))
def iF (after:α->α->Bool) (l:List α) (x:α):List α:=l.take (l.findIdx λy=>after y x)++x::l.drop (l.findIdx λy=>after y x)
def jP (is:α->Bool) (l:List α):List α:=l.take (l.findIdx is)++l.drop (l.findIdx is+1)
variable {after:α->α->Bool}{y:α}
def sJ {l:List α} {x:α}:y∈iF after l x↔y=x\/y∈l:=by
 unfold iF;rw[List.mem_append,List.mem_cons];constructor
 ·rintro (h|h|h)
  ·exact .inr (List.mem_of_mem_take h)
  ·exact .inl h
  ·exact .inr (List.mem_of_mem_drop h)
 ·rintro (h|h)
  ·exact .inr (.inl h)
  ·rw[<-List.take_append_drop (l.findIdx λy=>after y x) l,List.mem_append] at h;rcases h with h|h
   ·exact .inl h
   ·exact .inr (.inr h)
variable {is:α->Bool}
def TI {l:List α} (h:y∈jP is l):y∈l:=by
 unfold jP at h;rcases List.mem_append.1 h with h|h
 ·exact List.mem_of_mem_take h
 ·exact List.mem_of_mem_drop h
def wL {l:List α} {x:α}:(iF after l x).length=l.length+1:=by
 unfold iF;have:l.findIdx (λy=>after y x)<=l.length:=List.findIdx_le_length;rw[List.length_append,List.length_cons,List.length_take,List.length_drop];omega
def AIQ {l:List α}:(jP is l).length<=l.length:=by
 unfold jP;rw[List.length_append,List.length_take,List.length_drop];omega
abbrev dP:Type:=iII×iII×eH×bG×gE×bE×cP
abbrev pG:Type:=aG×aL×dP
abbrev fM (x:bD):iII:=x.2.1
abbrev eTo (x:bD):iII:=x.2.2.1
abbrev mX (x:bD):eH:=x.2.2.2.1
abbrev cR (x:bD):bG:=x.2.2.2.2.1
abbrev rZ (x:bD):gE:=x.2.2.2.2.2.1
abbrev gW (x:bD):bE:=x.2.2.2.2.2.2.1
abbrev iO (x:bD):cP:=x.2.2.2.2.2.2.2
def cC:iII:=⟨#[]⟩
def jO:cP:=(0,⟨#[]⟩,⟨#[]⟩)
def o2:aG:=(⟨#[]⟩,[],[],[],[],[])
def dE (x:bD):bD :=
 if x.1=1 then (x.1,cC,cC,mX x,cO,dS,noPack,jO)
 else if x.1=3\/x.1=5 then (x.1,cC,cC,dI,cR x,dS,noPack,jO)
 else if x.1=6 then (x.1,fM x,eTo x,dI,cO,dS,noPack,jO)
 else if x.1=7 then (x.1,cC,cC,dI,cO,rZ x,noPack,jO)
 else if x.1=9 then (x.1,cC,cC,dI,cO,dS,gW x,jO)
 else if x.1=11\/x.1=12 then (x.1,cC,cC,dI,cO,dS,noPack,iO x)
 else (x.1,fM x,cC,dI,cO,dS,noPack,jO)
def cV (d:aG) (x:bD):Bool :=
 if x.1=1 then (cG d (mX x).1).isSome
 else if x.1=2 then (cG d (fM x)).isSome
 else if x.1=3\/x.1=5 then (partOf d (cR x).1).isSome
 else if x.1=4\/x.1=6 then (partOf d (fM x)).isSome
 else if x.1=7 then (F5 d (rZ x).1).isSome
 else if x.1=8 then (F5 d (fM x)).isSome
 else if x.1=9 then (eX d (gW x).1).isSome
 else if x.1=10 then (eX d (fM x)).isSome
 else d.2.2.2.2.2.any λn=>decide (n=iO x)
def e9 (x:bD):Bool:=decide (x.1=1)||decide (x.1=3)||decide (x.1=7)||decide (x.1=9)||decide (x.1=11)
def gtS (a b:iII):Bool:=cK b a
def eA (a b:iII×α):Bool:=gtS a.1 b.1
def z6 (a b:cP):Bool:=ltN b a
def NY (a:iII):cK a a=false:=by
 rw[Bool.eq_false_iff];intro h;exact List.lt_irrefl _ ((mC a a).1 h)
def BQE {a b c:iII} (h1:cK a b=true) (h2:cK b c=true):cK a c=true:=(mC a c).2 (List.lt_trans ((mC a b).1 h1) ((mC b c).1 h2))
def dX (id:iII) (a:iII×α):Bool:=decide (a.1=id)
def AD4 (l:List iII) (x:iII):Bool:=l.any λy=>decide (y=x)
def kZ (d:aG) (id:iII):Bool:=(d.2.2.1.any λp=>decide (fV p=id))||((d.2.1.any λn=>decide (n.2.2=id))||((d.2.2.2.2.1.any λk=>decide (k.2.1=id))||(d.2.2.2.2.2.any λn=>decide (n.2.1=id)||(decide (n.2.2=id) && !decide (n.1=3)))))
def oF (d:aG) (id:iII):Bool:=(d.2.2.2.1.any λs=>decide (s.2.1=id)||decide (s.2.2.1=id))||(d.2.2.2.2.1.any λk=>AD4 k.2.2.1 id)
def qH (d:aG) (id:iII):Bool:=((jP (dX id) d.2.2.2.2.1).any λk=>AD4 k.2.2.2.2 id)||(d.2.2.2.2.2.any λn=>decide (n.1=3)&&decide (n.2.2=id))
def nH (d:aG) (x:bD):Bool:=if x.1=2 then kZ d (fM x) else if x.1=4 then oF d (fM x) else if x.1=10 then qH d (fM x) else false
def A3N (p old:bG):bG:=(p.1,i64.wrap (old.2.1+1),p.2.2)
def A10 (p:bG) (id:iII):bG:=(p.1,p.2.1,p.2.2.1,id,p.2.2.2.2)
def PM (is:α->Bool) (f:α->α) (l:List α):List α:=l.modify (l.findIdx is) f
def iE (d:aG) (x:bD):aG :=
 if x.1=1 then (d.1,iF eA d.2.1 (mX x),d.2.2)
 else if x.1=2 then (d.1,jP (dX (fM x)) d.2.1,d.2.2)
 else if x.1=3 then (d.1,d.2.1,iF eA d.2.2.1 (cR x),d.2.2.2)
 else if x.1=4 then (d.1,d.2.1,jP (dX (fM x)) d.2.2.1,d.2.2.2)
 else if x.1=5 then (d.1,d.2.1,PM (dX (cR x).1) (A3N (cR x)) d.2.2.1,d.2.2.2)
 else if x.1=6 then (d.1,d.2.1,PM (dX (fM x)) (λp=>A10 p (eTo x)) d.2.2.1,d.2.2.2)
 else if x.1=7 then (d.1,d.2.1,d.2.2.1,iF eA d.2.2.2.1 (rZ x),d.2.2.2.2)
 else if x.1=8 then (d.1,d.2.1,d.2.2.1,jP (dX (fM x)) d.2.2.2.1,d.2.2.2.2)
 else if x.1=9 then (d.1,d.2.1,d.2.2.1,d.2.2.2.1,iF eA d.2.2.2.2.1 (gW x),d.2.2.2.2.2)
 else if x.1=10 then (d.1,d.2.1,d.2.2.1,d.2.2.2.1,jP (dX (fM x)) d.2.2.2.2.1,d.2.2.2.2.2)
 else if x.1=11 then (d.1,d.2.1,d.2.2.1,d.2.2.2.1,d.2.2.2.2.1,iF z6 d.2.2.2.2.2 (iO x))
 else (d.1,d.2.1,d.2.2.1,d.2.2.2.1,d.2.2.2.2.1,jP (λn=>decide (n=iO x)) d.2.2.2.2.2)
def cE (d:aG) (m:aL) (x:bD):aG×Int :=
 if ¬ (1<=x.1/\x.1<=12) then (o2,10)
 else if qM x (dE x)=false\/(x.1=5/\¬ (cR x).2.1=0) then (o2,2)
 else if e9 x=true/\cV d x=true then (o2,7)
 else if e9 x=false/\cV d x=false then (o2,8)
 else if x.1=5/\¬ fV (found cO (partOf d (cR x).1)).1=fV (cR x) then (o2,2)
 else if nH d x=true then (o2,34)
 else if oM (iE d x) m=0 then (iE d x,0) else (o2,oM (iE d x) m)
structure XZ (d:aG) (m:aL) (x:bD):Prop where
 kind:1<=x.1/\x.1<=12
 plain:x=dE x
 rev:x.1=5->(cR x).2.1=0
 there:cV d x = !e9 x
 node:x.1=5->fV (found cO (partOf d (cR x).1)).1=fV (cR x)
 free:nH d x=false
 chk:oM (iE d x) m=0
 eq:cE d m x=(iE d x,0)
def BHP {d:aG} {x:bD} (h:(cE d m x).2=0):XZ d m x:=by
 have h0:=h;unfold cE at h;split at h
 ·cases h
 rename_i h1;split at h
 ·cases h
 rename_i h2;split at h
 ·cases h
 rename_i h3;split at h
 ·cases h
 rename_i h4;split at h
 ·cases h
 rename_i h5;split at h
 ·cases h
 rename_i h6;split at h
 ·rename_i h7;have h1:1<=x.1/\x.1<=12:=Classical.byContradiction h1;refine ⟨h1,Classical.byContradiction λhc=>h2 (.inl (xL hc)),λhk=>Classical.byContradiction λhc=>h2 (.inr ⟨hk,hc⟩),?_,λhk=>Classical.byContradiction λhc=>h5 ⟨hk,hc⟩,by simpa using h6,h7,?_⟩
  ·cases ha:e9 x<;>cases ht:cV d x
   ·exact absurd ⟨ha,ht⟩ h4
   ·rfl
   ·rfl
   ·exact absurd ⟨ha,ht⟩ h3
  ·unfold cE;rw[if_neg (λh=>h h1),if_neg h2,if_neg h3,if_neg h4,if_neg h5,if_neg h6,if_pos h7]
 ·rename_i h7;exact absurd h h7
def HD {a:iII×α}:((iF eA l a).find? λs=>decide (s.1=a.1)).isSome=true :=
 List.find?_isSome.2 ⟨a,sJ.2 (.inl rfl),ai rfl⟩
section
variable {α : Type} {af : α -> α -> Bool} {p q : α -> Bool} {f g : α -> α} {l : List α} {x y z : α}
def BBA:iF af [] x=[x]:=rfl
def BBB (h:af z x=true):iF af (z::l) x=x::z::l:=by
 unfold iF;rw[List.findIdx_cons,h];rfl
def BA9 (h:af z x=false):iF af (z::l) x=z::iF af l x:=by
 unfold iF;rw[List.findIdx_cons,h];rfl
def AC1 (h:p z=true):jP p (z::l)=l:=by
 unfold jP;rw[List.findIdx_cons,h];rfl
def APW (h:p z=false):jP p (z::l)=z::jP p l:=by
 unfold jP;rw[List.findIdx_cons,h];rfl
def BRP (h:p z=true):PM p f (z::l)=f z::l:=by
 unfold PM;rw[List.findIdx_cons,h];rfl
def BRO (h:p z=false):PM p f (z::l)=z::PM p f l:=by
 unfold PM;rw[List.findIdx_cons,h];rfl
structure Ord (af:α->α->Bool):Prop where
 trans:∀ {a b c},af c b=true->af b a=true->af c a=true
 irr:∀ a,af a a=false
end
end Go.Pv
namespace Go.Pv
open Go Go.Proofs IntKind
variable {α:Type}{l:List (iII×α)}
def AZC (h:oG (ids l)=true):l.Pairwise (λa b=>eA b a=true):=by
 have:=S3 h;unfold ids at this;rw[List.pairwise_map] at this;exact this.imp λh=>(mC ..).2 h
def AZZ {id:iII} (h:(l.find? λs=>decide (s.1=id)).isSome=false) {a:iII×α} (ha:a∈l):a.1≠id:=by
 intro e;have:(l.find? λs=>decide (s.1=id)).isSome=true:=List.find?_isSome.2 ⟨a,ha,ai e⟩;rw[this] at h;cases h
section
variable {α : Type} {l : List (iII × α)}
end
structure BTK (d:aG) (m:aL) (x y:bD):Prop where
 a:XZ d m x
 b:XZ d m y
 c:XZ (iE d x) m y
 e:XZ (iE d y) m x
section
variable {d : aG} {m : aL} {x y : bD}
def AWN (h:x.1=1):cV d x=(cG d (mX x).1).isSome:=by unfold cV;simp only[h];rfl
def AWO (h:x.1=2):cV d x=(cG d (fM x)).isSome:=by unfold cV;simp only[h];rfl
def AWP (h:x.1=3):cV d x=(partOf d (cR x).1).isSome:=by unfold cV;simp only[h];rfl
def AWQ (h:x.1=4):cV d x=(partOf d (fM x)).isSome:=by unfold cV;simp only[h];rfl
def BKD (h:x.1=5):cV d x=(partOf d (cR x).1).isSome:=by unfold cV;simp only[h];rfl
def BKE (h:x.1=7):cV d x=(F5 d (rZ x).1).isSome:=by unfold cV;simp only[h];rfl
def AWR (h:x.1=8):cV d x=(F5 d (fM x)).isSome:=by unfold cV;simp only[h];rfl
def AWS (h:x.1=9):cV d x=(eX d (gW x).1).isSome:=by unfold cV;simp only[h];rfl
def AM6 (h:x.1=10):cV d x=(eX d (fM x)).isSome:=by unfold cV;simp only[h];rfl
def BFB (h:x.1=11):cV d x=d.2.2.2.2.2.any λn=>decide (n=iO x):=by unfold cV;simp only[h];rfl
def AM7 (h:x.1=12):cV d x=d.2.2.2.2.2.any λn=>decide (n=iO x):=by unfold cV;simp only[h];rfl
def BHH {l:List cP} {n:cP} (h:(l.any λk=>decide (k=n))=false) {a:cP} (ha:a∈l):a≠n:=by
 intro e;have:(l.any λk=>decide (k=n))=true:=List.any_eq_true.2 ⟨a,ha,ai e⟩;rw[this] at h;cases h
def turns (x:bD):Prop:=x.1=5\/x.1=6
end
end Go.Pv
namespace Go.Pv
open Go Go.Proofs IntKind
def qR {P:Program} {t:TypeId} {zv:Value} {z b:Nat} (h:(P.info? t).map (λi=>(i.zero,i.size,i.bytes))=some (some zv,z,b)):∃ i,P.info? t=some i/\i.zero=some zv/\i.size=z/\i.bytes=b:=by
 simp only[aa,Prod.mk.injEq] at h;obtain ⟨i,h1,h2,h3,h4⟩:=h;exact ⟨i,h1,h2,h3,h4⟩
def AGT:Value:=.agg #[.string ⟨#[]⟩,.int .i64 0,.string ⟨#[]⟩]
def AGS:Value:=.agg #[.int .i64 0,.string ⟨#[]⟩,.string ⟨#[]⟩]
def AGV:Value:=.agg #[.string ⟨#[]⟩,.string ⟨#[]⟩,.string ⟨#[]⟩,.int .i64 0,.int .i64 0,.int .i64 0]
def DY:Value:=.agg #[.string ⟨#[]⟩,.string ⟨#[]⟩,.slice none 0 0,.int .i64 0,.slice none 0 0]
def AGU:Value:=.agg #[.string ⟨#[]⟩,.int .i64 0,.int .i64 0,.string ⟨#[]⟩,.string ⟨#[]⟩,.int .i64 0,.slice none 0 0,.slice none 0 0,.string ⟨#[]⟩,.int .i64 0,.int .i64 0,.int .i64 0,.int .i64 0,.int .i64 0,.int .i64 0,.int .i64 0,.int .i64 0,.int .i64 0]
def BDW:Go.Shelf.Ren:=⟨λ|22=>297|29=>342|30=>343|n=>n,λ|9=>34|24=>22|n=>n,λ|n=>n⟩
def BBD:YB Tryz.prog BDW 3 40 AGT:={
 mixed:=aV
 f22:=Exists.intro ("slices.Insert[[]shipyard/api.Node,shipyard/api.Node]") ⟨by decide,Tryz.func297.trans (congrArg some (by kernel_rfl))⟩
 ov:=λargs w=>run_callFunc_extern (P:=Tryz.prog) (f:=342) (e:=Extern.SlicesOverlaps.overlaps #[22,22] #[4]) Tryz.func342 (by kernel_rfl) (by kernel_rfl) (by kernel_rfl) (by kernel_rfl) args w
 t0:=by kernel_rfl
 a0:=λ_=>by kernel_rfl
 z0:=λ_=>by kernel_rfl
 v0:=λ_=>by kernel_rfl
 t3:=by kernel_rfl
 a3:=λ_=>by kernel_rfl
 z3:=λ_=>by kernel_rfl
 v3:=λ_=>by kernel_rfl
 t4:=by kernel_rfl
 a4:=λ_=>by kernel_rfl
 z4:=λ_=>by kernel_rfl
 v4:=λ_=>by kernel_rfl
 z9:=λ_=>by kernel_rfl
 t24:=by kernel_rfl
 a24:=λ_=>by kernel_rfl
 z24:=λ_=>by kernel_rfl
 v24:=λ_=>by kernel_rfl
 i9:=qR (by kernel_rfl) }
def vP:List (List T)->List T->Option (List (List T)):=ADC 3 40
def AP9:fI Tryz.prog 297 (oH 3 vP) :=
 pS BBD (by decide) rfl (by decide) ⟨_,Tryz.func297,rfl,rfl⟩
def BDS:Go.Shelf.Ren:=⟨λ|45=>298|n=>n,λ|23=>34|22=>22|n=>n,λ|n=>n⟩
def A78:ANM Tryz.prog BDS 3 AGT:={
 mixed:=aV
 f45:=Exists.intro ("slices.Delete[[]shipyard/api.Node,shipyard/api.Node]") ⟨by decide,Tryz.func298.trans (congrArg some (by kernel_rfl))⟩
 t0:=by kernel_rfl
 a0:=λ_=>by kernel_rfl
 z0:=λ_=>by kernel_rfl
 v0:=λ_=>by kernel_rfl
 t3:=by kernel_rfl
 a3:=λ_=>by kernel_rfl
 z3:=λ_=>by kernel_rfl
 v3:=λ_=>by kernel_rfl
 t4:=by kernel_rfl
 a4:=λ_=>by kernel_rfl
 z4:=λ_=>by kernel_rfl
 v4:=λ_=>by kernel_rfl
 t22:=by kernel_rfl
 a22:=λ_=>by kernel_rfl
 z22:=λ_=>by kernel_rfl
 v22:=λ_=>by kernel_rfl
 z23:=λ_=>by kernel_rfl
 v23:=λ_=>by kernel_rfl
 i23:=by
  obtain ⟨i,h1,_,h2,_⟩:=qR (P:=Tryz.prog) (t:=34) (zv:=AGT) (z:=3) (b:=40) (by kernel_rfl);exact ⟨i,h1,h2⟩ }
def LY:List (List T)->List T->Option (List (List T)):=ADB 3
def AP3:fI Tryz.prog 298 (oH 3 LY) :=
 pR A78 rfl (by decide) ⟨_,Tryz.func298,rfl,rfl⟩
def AMP:Go.Shelf.Ren:=⟨λ|41=>92|n=>n,λ|23=>34|22=>22|n=>n,λ|n=>n⟩
def A7X:SlLaysE0.n41 Tryz.prog AMP:={
 mixed:=aV
 f41:=Exists.intro ("slices.Clone[[]shipyard/api.Node,shipyard/api.Node]") ⟨by decide,Tryz.func92.trans (congrArg some (by kernel_rfl))⟩
 t4:=by kernel_rfl
 a4:=λ_=>by kernel_rfl
 z4:=λ_=>by kernel_rfl
 v4:=λ_=>by kernel_rfl
 t22:=by kernel_rfl
 a22:=λ_=>by kernel_rfl
 z22:=λ_=>by kernel_rfl
 v22:=λ_=>by kernel_rfl }
def A1N:∃ i0,(Tryz.prog).info? (AMP.t 23)=some i0/\i0.zero=some AGT/\i0.size=3/\i0.bytes=40:=qR (by kernel_rfl)
def FE:fI Tryz.prog 92 (HK 3 40) :=
 rF A7X A1N (λ_=>by kernel_rfl) (by decide) rfl (by decide) ⟨_,Tryz.func92,rfl,rfl⟩
def BDV:Go.Shelf.Ren:=⟨λ|22=>315|29=>350|30=>351|n=>n,λ|9=>51|24=>26|n=>n,λ|n=>n⟩
def BBC:YB Tryz.prog BDV 3 40 AGS:={
 mixed:=aV
 f22:=Exists.intro ("slices.Insert[[]shipyard/api.Need,shipyard/api.Need]") ⟨by decide,Tryz.func315.trans (congrArg some (by kernel_rfl))⟩
 ov:=λargs w=>run_callFunc_extern (P:=Tryz.prog) (f:=350) (e:=Extern.SlicesOverlaps.overlaps #[26,26] #[4]) Tryz.func350 (by kernel_rfl) (by kernel_rfl) (by kernel_rfl) (by kernel_rfl) args w
 t0:=by kernel_rfl
 a0:=λ_=>by kernel_rfl
 z0:=λ_=>by kernel_rfl
 v0:=λ_=>by kernel_rfl
 t3:=by kernel_rfl
 a3:=λ_=>by kernel_rfl
 z3:=λ_=>by kernel_rfl
 v3:=λ_=>by kernel_rfl
 t4:=by kernel_rfl
 a4:=λ_=>by kernel_rfl
 z4:=λ_=>by kernel_rfl
 v4:=λ_=>by kernel_rfl
 z9:=λ_=>by kernel_rfl
 t24:=by kernel_rfl
 a24:=λ_=>by kernel_rfl
 z24:=λ_=>by kernel_rfl
 v24:=λ_=>by kernel_rfl
 i9:=qR (by kernel_rfl) }
def lH:List (List T)->List T->Option (List (List T)):=ADC 3 40
def T2:fI Tryz.prog 315 (oH 3 lH) :=
 pS BBC (by decide) rfl (by decide) ⟨_,Tryz.func315,rfl,rfl⟩
def BDR:Go.Shelf.Ren:=⟨λ|45=>316|n=>n,λ|23=>51|22=>26|n=>n,λ|n=>n⟩
def A77:ANM Tryz.prog BDR 3 AGS:={
 mixed:=aV
 f45:=Exists.intro ("slices.Delete[[]shipyard/api.Need,shipyard/api.Need]") ⟨by decide,Tryz.func316.trans (congrArg some (by kernel_rfl))⟩
 t0:=by kernel_rfl
 a0:=λ_=>by kernel_rfl
 z0:=λ_=>by kernel_rfl
 v0:=λ_=>by kernel_rfl
 t3:=by kernel_rfl
 a3:=λ_=>by kernel_rfl
 z3:=λ_=>by kernel_rfl
 v3:=λ_=>by kernel_rfl
 t4:=by kernel_rfl
 a4:=λ_=>by kernel_rfl
 z4:=λ_=>by kernel_rfl
 v4:=λ_=>by kernel_rfl
 t22:=by kernel_rfl
 a22:=λ_=>by kernel_rfl
 z22:=λ_=>by kernel_rfl
 v22:=λ_=>by kernel_rfl
 z23:=λ_=>by kernel_rfl
 v23:=λ_=>by kernel_rfl
 i23:=by
  obtain ⟨i,h1,_,h2,_⟩:=qR (P:=Tryz.prog) (t:=51) (zv:=AGS) (z:=3) (b:=40) (by kernel_rfl);exact ⟨i,h1,h2⟩ }
def CY:List (List T)->List T->Option (List (List T)):=ADB 3
def T0:fI Tryz.prog 316 (oH 3 CY) :=
 pR A77 rfl (by decide) ⟨_,Tryz.func316,rfl,rfl⟩
def AMO:Go.Shelf.Ren:=⟨λ|41=>94|n=>n,λ|23=>51|22=>26|n=>n,λ|n=>n⟩
def A7W:SlLaysE0.n41 Tryz.prog AMO:={
 mixed:=aV
 f41:=Exists.intro ("slices.Clone[[]shipyard/api.Need,shipyard/api.Need]") ⟨by decide,Tryz.func94.trans (congrArg some (by kernel_rfl))⟩
 t4:=by kernel_rfl
 a4:=λ_=>by kernel_rfl
 z4:=λ_=>by kernel_rfl
 v4:=λ_=>by kernel_rfl
 t22:=by kernel_rfl
 a22:=λ_=>by kernel_rfl
 z22:=λ_=>by kernel_rfl
 v22:=λ_=>by kernel_rfl }
def A1M:∃ i0,(Tryz.prog).info? (AMO.t 23)=some i0/\i0.zero=some AGS/\i0.size=3/\i0.bytes=40:=qR (by kernel_rfl)
def FD:fI Tryz.prog 94 (HK 3 40) :=
 rF A7W A1M (λ_=>by kernel_rfl) (by decide) rfl (by decide) ⟨_,Tryz.func94,rfl,rfl⟩
def BDY:Go.Shelf.Ren:=⟨λ|22=>305|29=>346|30=>347|n=>n,λ|9=>46|24=>24|n=>n,λ|n=>n⟩
def BBF:YB Tryz.prog BDY 6 72 AGV:={
 mixed:=aV
 f22:=Exists.intro ("slices.Insert[[]shipyard/api.Seam,shipyard/api.Seam]") ⟨by decide,Tryz.func305.trans (congrArg some (by kernel_rfl))⟩
 ov:=λargs w=>run_callFunc_extern (P:=Tryz.prog) (f:=346) (e:=Extern.SlicesOverlaps.overlaps #[24,24] #[4]) Tryz.func346 (by kernel_rfl) (by kernel_rfl) (by kernel_rfl) (by kernel_rfl) args w
 t0:=by kernel_rfl
 a0:=λ_=>by kernel_rfl
 z0:=λ_=>by kernel_rfl
 v0:=λ_=>by kernel_rfl
 t3:=by kernel_rfl
 a3:=λ_=>by kernel_rfl
 z3:=λ_=>by kernel_rfl
 v3:=λ_=>by kernel_rfl
 t4:=by kernel_rfl
 a4:=λ_=>by kernel_rfl
 z4:=λ_=>by kernel_rfl
 v4:=λ_=>by kernel_rfl
 z9:=λ_=>by kernel_rfl
 t24:=by kernel_rfl
 a24:=λ_=>by kernel_rfl
 z24:=λ_=>by kernel_rfl
 v24:=λ_=>by kernel_rfl
 i9:=qR (by kernel_rfl) }
def vR:List (List T)->List T->Option (List (List T)):=ADC 6 72
def AQB:fI Tryz.prog 305 (oH 6 vR) :=
 pS BBF (by decide) rfl (by decide) ⟨_,Tryz.func305,rfl,rfl⟩
def BDU:Go.Shelf.Ren:=⟨λ|45=>306|n=>n,λ|23=>46|22=>24|n=>n,λ|n=>n⟩
def A8A:ANM Tryz.prog BDU 6 AGV:={
 mixed:=aV
 f45:=Exists.intro ("slices.Delete[[]shipyard/api.Seam,shipyard/api.Seam]") ⟨by decide,Tryz.func306.trans (congrArg some (by kernel_rfl))⟩
 t0:=by kernel_rfl
 a0:=λ_=>by kernel_rfl
 z0:=λ_=>by kernel_rfl
 v0:=λ_=>by kernel_rfl
 t3:=by kernel_rfl
 a3:=λ_=>by kernel_rfl
 z3:=λ_=>by kernel_rfl
 v3:=λ_=>by kernel_rfl
 t4:=by kernel_rfl
 a4:=λ_=>by kernel_rfl
 z4:=λ_=>by kernel_rfl
 v4:=λ_=>by kernel_rfl
 t22:=by kernel_rfl
 a22:=λ_=>by kernel_rfl
 z22:=λ_=>by kernel_rfl
 v22:=λ_=>by kernel_rfl
 z23:=λ_=>by kernel_rfl
 v23:=λ_=>by kernel_rfl
 i23:=by
  obtain ⟨i,h1,_,h2,_⟩:=qR (P:=Tryz.prog) (t:=46) (zv:=AGV) (z:=6) (b:=72) (by kernel_rfl);exact ⟨i,h1,h2⟩ }
def L0:List (List T)->List T->Option (List (List T)):=ADB 6
def AP5:fI Tryz.prog 306 (oH 6 L0) :=
 pR A8A rfl (by decide) ⟨_,Tryz.func306,rfl,rfl⟩
def AMR:Go.Shelf.Ren:=⟨λ|41=>93|n=>n,λ|23=>46|22=>24|n=>n,λ|n=>n⟩
def A7Z:SlLaysE0.n41 Tryz.prog AMR:={
 mixed:=aV
 f41:=Exists.intro ("slices.Clone[[]shipyard/api.Seam,shipyard/api.Seam]") ⟨by decide,Tryz.func93.trans (congrArg some (by kernel_rfl))⟩
 t4:=by kernel_rfl
 a4:=λ_=>by kernel_rfl
 z4:=λ_=>by kernel_rfl
 v4:=λ_=>by kernel_rfl
 t22:=by kernel_rfl
 a22:=λ_=>by kernel_rfl
 z22:=λ_=>by kernel_rfl
 v22:=λ_=>by kernel_rfl }
def A1P:∃ i0,(Tryz.prog).info? (AMR.t 23)=some i0/\i0.zero=some AGV/\i0.size=6/\i0.bytes=72:=qR (by kernel_rfl)
def FH:fI Tryz.prog 93 (HK 6 72) :=
 rF A7Z A1P (λ_=>by kernel_rfl) (by decide) rfl (by decide) ⟨_,Tryz.func93,rfl,rfl⟩
def AMT:Go.Shelf.Ren:=⟨λ|22=>309|29=>348|30=>349|n=>n,λ|9=>49|24=>25|n=>n,λ|n=>n⟩
def AK9:YB Tryz.prog AMT 5 88 DY:={
 mixed:=aV
 f22:=Exists.intro ("slices.Insert[[]shipyard/api.Package,shipyard/api.Package]") ⟨by decide,Tryz.func309.trans (congrArg some (by kernel_rfl))⟩
 ov:=λargs w=>run_callFunc_extern (P:=Tryz.prog) (f:=348) (e:=Extern.SlicesOverlaps.overlaps #[25,25] #[4]) Tryz.func348 (by kernel_rfl) (by kernel_rfl) (by kernel_rfl) (by kernel_rfl) args w
 t0:=by kernel_rfl
 a0:=λ_=>by kernel_rfl
 z0:=λ_=>by kernel_rfl
 v0:=λ_=>by kernel_rfl
 t3:=by kernel_rfl
 a3:=λ_=>by kernel_rfl
 z3:=λ_=>by kernel_rfl
 v3:=λ_=>by kernel_rfl
 t4:=by kernel_rfl
 a4:=λ_=>by kernel_rfl
 z4:=λ_=>by kernel_rfl
 v4:=λ_=>by kernel_rfl
 z9:=λ_=>by kernel_rfl
 t24:=by kernel_rfl
 a24:=λ_=>by kernel_rfl
 z24:=λ_=>by kernel_rfl
 v24:=λ_=>by kernel_rfl
 i9:=qR (by kernel_rfl) }
def nT:List (List T)->List T->Option (List (List T)):=ADC 5 88
def YH:fI Tryz.prog 309 (oH 5 nT) :=
 pS AK9 (by decide) rfl (by decide) ⟨_,Tryz.func309,rfl,rfl⟩
def AMS:Go.Shelf.Ren:=⟨λ|45=>307|n=>n,λ|23=>49|22=>25|n=>n,λ|n=>n⟩
def AIR:ANM Tryz.prog AMS 5 DY:={
 mixed:=aV
 f45:=Exists.intro ("slices.Delete[[]shipyard/api.Package,shipyard/api.Package]") ⟨by decide,Tryz.func307.trans (congrArg some (by kernel_rfl))⟩
 t0:=by kernel_rfl
 a0:=λ_=>by kernel_rfl
 z0:=λ_=>by kernel_rfl
 v0:=λ_=>by kernel_rfl
 t3:=by kernel_rfl
 a3:=λ_=>by kernel_rfl
 z3:=λ_=>by kernel_rfl
 v3:=λ_=>by kernel_rfl
 t4:=by kernel_rfl
 a4:=λ_=>by kernel_rfl
 z4:=λ_=>by kernel_rfl
 v4:=λ_=>by kernel_rfl
 t22:=by kernel_rfl
 a22:=λ_=>by kernel_rfl
 z22:=λ_=>by kernel_rfl
 v22:=λ_=>by kernel_rfl
 z23:=λ_=>by kernel_rfl
 v23:=λ_=>by kernel_rfl
 i23:=by
  obtain ⟨i,h1,_,h2,_⟩:=qR (P:=Tryz.prog) (t:=49) (zv:=DY) (z:=5) (b:=88) (by kernel_rfl);exact ⟨i,h1,h2⟩ }
def nR:List (List T)->List T->Option (List (List T)):=ADB 5
def ED:fI Tryz.prog 307 (oH 5 nR) :=
 pR AIR rfl (by decide) ⟨_,Tryz.func307,rfl,rfl⟩
def PE:Go.Shelf.Ren:=⟨λ|41=>96|n=>n,λ|23=>49|22=>25|n=>n,λ|n=>n⟩
def AIK:SlLaysE0.n41 Tryz.prog PE:={
 mixed:=aV
 f41:=Exists.intro ("slices.Clone[[]shipyard/api.Package,shipyard/api.Package]") ⟨by decide,Tryz.func96.trans (congrArg some (by kernel_rfl))⟩
 t4:=by kernel_rfl
 a4:=λ_=>by kernel_rfl
 z4:=λ_=>by kernel_rfl
 v4:=λ_=>by kernel_rfl
 t22:=by kernel_rfl
 a22:=λ_=>by kernel_rfl
 z22:=λ_=>by kernel_rfl
 v22:=λ_=>by kernel_rfl }
def AD7:∃ i0,(Tryz.prog).info? (PE.t 23)=some i0/\i0.zero=some DY/\i0.size=5/\i0.bytes=88:=qR (by kernel_rfl)
def o4:fI Tryz.prog 96 (HK 5 88) :=
 rF AIK AD7 (λ_=>by kernel_rfl) (by decide) rfl (by decide) ⟨_,Tryz.func96,rfl,rfl⟩
def BDX:Go.Shelf.Ren:=⟨λ|22=>302|29=>344|30=>345|n=>n,λ|9=>44|24=>23|n=>n,λ|n=>n⟩
def BBE:YB Tryz.prog BDX 18 208 AGU:={
 mixed:=aV
 f22:=Exists.intro ("slices.Insert[[]shipyard/api.Part,shipyard/api.Part]") ⟨by decide,Tryz.func302.trans (congrArg some (by kernel_rfl))⟩
 ov:=λargs w=>run_callFunc_extern (P:=Tryz.prog) (f:=344) (e:=Extern.SlicesOverlaps.overlaps #[23,23] #[4]) Tryz.func344 (by kernel_rfl) (by kernel_rfl) (by kernel_rfl) (by kernel_rfl) args w
 t0:=by kernel_rfl
 a0:=λ_=>by kernel_rfl
 z0:=λ_=>by kernel_rfl
 v0:=λ_=>by kernel_rfl
 t3:=by kernel_rfl
 a3:=λ_=>by kernel_rfl
 z3:=λ_=>by kernel_rfl
 v3:=λ_=>by kernel_rfl
 t4:=by kernel_rfl
 a4:=λ_=>by kernel_rfl
 z4:=λ_=>by kernel_rfl
 v4:=λ_=>by kernel_rfl
 z9:=λ_=>by kernel_rfl
 t24:=by kernel_rfl
 a24:=λ_=>by kernel_rfl
 z24:=λ_=>by kernel_rfl
 v24:=λ_=>by kernel_rfl
 i9:=qR (by kernel_rfl) }
def vQ:List (List T)->List T->Option (List (List T)):=ADC 18 208
def AQA:fI Tryz.prog 302 (oH 18 vQ) :=
 pS BBE (by decide) rfl (by decide) ⟨_,Tryz.func302,rfl,rfl⟩
def BDT:Go.Shelf.Ren:=⟨λ|45=>303|n=>n,λ|23=>44|22=>23|n=>n,λ|n=>n⟩
def A79:ANM Tryz.prog BDT 18 AGU:={
 mixed:=aV
 f45:=Exists.intro ("slices.Delete[[]shipyard/api.Part,shipyard/api.Part]") ⟨by decide,Tryz.func303.trans (congrArg some (by kernel_rfl))⟩
 t0:=by kernel_rfl
 a0:=λ_=>by kernel_rfl
 z0:=λ_=>by kernel_rfl
 v0:=λ_=>by kernel_rfl
 t3:=by kernel_rfl
 a3:=λ_=>by kernel_rfl
 z3:=λ_=>by kernel_rfl
 v3:=λ_=>by kernel_rfl
 t4:=by kernel_rfl
 a4:=λ_=>by kernel_rfl
 z4:=λ_=>by kernel_rfl
 v4:=λ_=>by kernel_rfl
 t22:=by kernel_rfl
 a22:=λ_=>by kernel_rfl
 z22:=λ_=>by kernel_rfl
 v22:=λ_=>by kernel_rfl
 z23:=λ_=>by kernel_rfl
 v23:=λ_=>by kernel_rfl
 i23:=by
  obtain ⟨i,h1,_,h2,_⟩:=qR (P:=Tryz.prog) (t:=44) (zv:=AGU) (z:=18) (b:=208) (by kernel_rfl);exact ⟨i,h1,h2⟩ }
def LZ:List (List T)->List T->Option (List (List T)):=ADB 18
def AP4:fI Tryz.prog 303 (oH 18 LZ) :=
 pR A79 rfl (by decide) ⟨_,Tryz.func303,rfl,rfl⟩
def AMQ:Go.Shelf.Ren:=⟨λ|41=>95|n=>n,λ|23=>44|22=>23|n=>n,λ|n=>n⟩
def A7Y:SlLaysE0.n41 Tryz.prog AMQ:={
 mixed:=aV
 f41:=Exists.intro ("slices.Clone[[]shipyard/api.Part,shipyard/api.Part]") ⟨by decide,Tryz.func95.trans (congrArg some (by kernel_rfl))⟩
 t4:=by kernel_rfl
 a4:=λ_=>by kernel_rfl
 z4:=λ_=>by kernel_rfl
 v4:=λ_=>by kernel_rfl
 t22:=by kernel_rfl
 a22:=λ_=>by kernel_rfl
 z22:=λ_=>by kernel_rfl
 v22:=λ_=>by kernel_rfl }
def A1O:∃ i0,(Tryz.prog).info? (AMQ.t 23)=some i0/\i0.zero=some AGU/\i0.size=18/\i0.bytes=208:=qR (by kernel_rfl)
def FF:fI Tryz.prog 95 (HK 18 208) :=
 rF A7Y A1O (λ_=>by kernel_rfl) (by decide) rfl (by decide) ⟨_,Tryz.func95,rfl,rfl⟩
def BS2:Value:=.slice none 0 0
def AWD:Go.Shelf.Ren:=⟨λ|41=>91|n=>n,λ|23=>35|22=>36|n=>n,λ|n=>n⟩
def BHN:SlLaysE0.n41 Tryz.prog AWD:={
 mixed:=aV
 f41:=Exists.intro ("slices.Clone[[][]shipyard/api.Point,[]shipyard/api.Point]") ⟨by decide,Tryz.func91.trans (congrArg some (by kernel_rfl))⟩
 t4:=by kernel_rfl
 a4:=λ_=>by kernel_rfl
 z4:=λ_=>by kernel_rfl
 v4:=λ_=>by kernel_rfl
 t22:=by kernel_rfl
 a22:=λ_=>by kernel_rfl
 z22:=λ_=>by kernel_rfl
 v22:=λ_=>by kernel_rfl }
def BA8:∃ i0,(Tryz.prog).info? (AWD.t 23)=some i0/\i0.zero=some BS2/\i0.size=1/\i0.bytes=24:=qR (by kernel_rfl)
def A0G:fI Tryz.prog 91 (HK 1 24) :=
 rF BHN BA8 (λ_=>by kernel_rfl) (by decide) rfl (by decide) ⟨_,Tryz.func91,rfl,rfl⟩
def OK {r:Sy} (hr:r.pure=true) {l:List r.den} {rows:List (List T)} {K:List r.den->Prop} (e:rows=List.map r.enc l) (h:K l):cD r rows K:=by subst e;rw[dJ hr];exact h
def AG {r:Sy} {l:List r.den} {z b:Nat} (hz:r.w=z) (h:mB b l.length=true):(((List.map r.enc l).all λq=>decide (q.length=z))&&decide ((List.map r.enc l).length*b<=140737488355328)&&decide ((List.map r.enc l).length<=140737488355328))=true:=by
 unfold mB at h;rw[ac] at h;rw[ae,h.1,h.2,Bool.and_true,Bool.and_true];subst hz;refine List.all_eq_true.2 λq hq=>?_;obtain ⟨x,_,rfl⟩:=List.mem_map.1 hq;exact ai (Sy.dV r x)
def jZ (p:bG):Option T:=match iA p with
 | true=>some (Sh.enc [(true,aS)] p)
 | false=>none
def AXO:Env:=Env.of [(90,.pure lG),(91,.dup 1 24)]
def AYT:FuncId->Hint:=bP 97 [(4,.inv [.val 21 false (.int .i64),.arr 3 1 (.li aC)])] (λ_=>bH)
def AG4:bB Tryz.prog AXO:=.cons TY (bB.cons (x:=.dup 1 24) A0G (.nil _))
def BVO(s3:Int×List (List aN)×PUnit):List (List T):=List.map aC.li.enc s3.2.1
def KQ(a0:bG)(R:T->Prop):Prop:=aJ [(false,aC.li)] (lG [T.sl false (BVL a0)]) λ(y0:List aN)=>bO (((BU1 a0).all λ(r:List T)=>decide (r.length=1)) && decide ((BU1 a0).length*24<=140737488355328) && decide ((BU1 a0).length<=140737488355328)) (cD aC.li (BU1 a0) λ(y1:List (List aN))=>a7 (Int×List (List aN)×PUnit) (λX2 s3=>aE (decide (s3.1<(↑(BU1 a0).length:Int))) (aU aC.li (BVO s3) s3.1 λ(y4:List aN)=>kU aC.li (BVO s3) (Int.toNat s3.1) 0 λ(y5:List aN)=>aJ [(false,aC.li)] (lG (BVQ y5)) λ(y6:List aN)=>aU aC.li (BVO s3) s3.1 λ(y7:List aN)=>D6 (BVO s3) (Int.toNat s3.1) λ(y8:List T)=>bO (decide (1<=y8.length)) (cD aC.li ((BVO s3).set (Int.toNat s3.1) (b6 y8 0 (BVQ y6))) λ(y9:List (List aN))=>X2 (i64.wrap (s3.1+1),y9,()))) (R (T.agg [pPQ a0.1,pPP a0.2.1, pPP a0.2.2.1, pPQ a0.2.2.2.1,pPQ a0.2.2.2.2.1, pPP a0.2.2.2.2.2.1, T.sl false (BUW y0), T.sl false (BVO s3), pPQ a0.2.2.2.2.2.2.2.1, pPP a0.2.2.2.2.2.2.2.2.1, pPP a0.2.2.2.2.2.2.2.2.2.1, pPP a0.2.2.2.2.2.2.2.2.2.2.1.1, pPP a0.2.2.2.2.2.2.2.2.2.2.1.2.1, pPP a0.2.2.2.2.2.2.2.2.2.2.1.2.2, pPP a0.2.2.2.2.2.2.2.2.2.2.2.1.1, pPP a0.2.2.2.2.2.2.2.2.2.2.2.1.2.1, pPP a0.2.2.2.2.2.2.2.2.2.2.2.1.2.2, pPP a0.2.2.2.2.2.2.2.2.2.2.2.2]))) (0,y1,()))
abbrev M7:Sh:=[(true,aS)]
def jJ:List T->Option T:=gS M7 jZ
def xV {a0}:jJ [aH true aS a0]=jZ (a0):=a8 (s:=M7) rfl (a0) rfl
def AR7:lW Tryz.prog 97 jJ jZ (bR M7) KQ:=eN (a1:=(true,aS)) (Hs:=AYT) (k:=8) AG4 aV aY (aQ rfl) ⟨_,_,Tryz.func97,rfl⟩ rfl λ_ _=>by kernel_rfl
def xQ:aT Tryz.prog 97 jJ:=AR7 λp r h hb=>by
 clear hb;have hp:iA p=true:=by
  unfold jZ at h;split at h
  ·assumption
  ·cases h
 have e:Sh.enc [(true,aS)] p=r:=by
  unfold jZ at h;rw[hp] at h;exact Option.some.inj h
 subst e;clear h;unfold iA JC at hp;simp only[ac] at hp;obtain ⟨⟨hp1,hp2⟩,hp3⟩:=hp;have hb47:p.2.2.2.2.2.2.1.2.length<=140737488355328:=by
  simp only[mB,ac,ah] at hp2;exact hp2.2
 unfold KQ BVQ BVO BVL BU1 BUW;refine aM (s:=[(false,aC.li)]) (y:=p.2.2.2.2.2.2.1.1) (by rw[qY,fU,jY hp1];rfl) ?_;refine ⟨AG (r:=.li aC) rfl hp2,?_⟩;obtain ⟨p1,p2,p3,p4,p5,p6,⟨o,hh⟩,p7⟩:=p;dsimp only at hp1 hp2 hp3 hb47 ⊢;rw[dJ (r:=.li aC) rfl];refine bJ hh.length (λk s=>s=((k:Int),hh,())) rfl ?_;rintro X k s hk rfl hX;dsimp only;refine b8 (λhlt=>?_) λhge=>rfl;rw[ae] at hlt;have hlt:k<hh.length:=by omega
 have hok:mB 16 hh[k].length=true:=List.all_eq_true.1 hp3 _ (ak hlt);rw[bA (r:=.li aC) hlt,show Int.toNat (k:Int)=k from rfl,gI (r:=.li aC) hlt];refine aM (s:=[(false,aC.li)]) (y:=hh[k]) (by rw[qY,fU,jY hok];rfl) ?_;rw[bA (r:=.li aC) hlt,n9 (r:=.li aC) hlt];refine ⟨rfl,?_⟩;have e:b6 (Sy.enc (.li aC) hh[k]) 0 [T.sl false (List.map aC.enc hh[k])]=Sy.enc (.li aC) hh[k]:=rfl;rw[e,JR (r:=.li aC) hlt,dJ (r:=.li aC) rfl];refine hX _ hlt ?_;simp only[Prod.mk.injEq,and_true];exact aZ _ (by omega) (by omega)
def kX (p:bE):Option T:=match fZ p with
 | true=>some (Sh.enc [(true,aK)] p)
 | false=>none
def AXN:Env:=Env.of [(253,.pure kN)]
def AG3:bB Tryz.prog AXN:=.cons OS (.nil _)
def BVK(y0:List iII):List (List T):=List.map Sy.str.enc y0
def KP(a0:bE)(R:T->Prop):Prop:=aJ [(false,Sy.str.li)] (kN [T.sl false (BVF a0)]) λ(y0:List iII)=>aJ [(false,Sy.str.li)] (kN [T.sl false (BVC a0)]) λ(y1:List iII)=>R (T.agg [pPQ a0.1,pPQ a0.2.1, T.sl false (BVK y0),pPP a0.2.2.2.1, T.sl false (BVK y1)])
abbrev M6:Sh:=[(true,aK)]
def oN:List T->Option T:=gS M6 kX
def HN {a0}:oN [aH true aK a0]=kX (a0):=a8 (s:=M6) rfl (a0) rfl
def AR6:lW Tryz.prog 98 oN kX (bR M6) KP:=eN (a1:=(true,aK)) (Hs:=c0) (k:=8) AG3 aV aY (aQ rfl) ⟨_,_,Tryz.func98,rfl⟩ rfl λ_ _=>by kernel_rfl
def TZ:aT Tryz.prog 98 oN:=AR6 λp r h hb=>by
 clear hb;have hp:fZ p=true:=by
  unfold kX at h;split at h
  ·assumption
  ·cases h
 have e:Sh.enc [(true,aK)] p=r:=by
  unfold kX at h;rw[hp] at h;exact Option.some.inj h
 subst e;clear h;unfold fZ at hp;rw[ac] at hp;unfold KP BVK BVF BVC;refine aM (s:=[(false,.li .str)]) (y:=p.2.2.1) (by rw[o5,fU,jY hp.1];rfl) ?_;refine aM (s:=[(false,.li .str)]) (y:=p.2.2.2.2) (by rw[o5,fU,jY hp.2];rfl) ?_;rfl
def AAZ {α:Type}:∀ (xs pre:List α),b6 (pre++xs) pre.length xs=pre++xs
 | [],pre=>rfl
 | x::xs,pre=>by
  unfold b6;rw[show (pre++x::xs).set pre.length x=(pre++[x])++xs by simp,show pre.length+1=(pre++[x]).length by simp,AAZ xs (pre++[x])];simp
variable {α:Type}
def PH (r:List α):b6 r 0 r=r:=AAZ r []
def rB (d:aG):Bool:=(KK d&&PD d)&&((decide (d.2.1.length<=1000)&&decide (d.2.2.1.length<=1000))&&(decide (d.2.2.2.1.length<=1000)&&(decide (d.2.2.2.2.1.length<=1000)&&decide (d.2.2.2.2.2.length<=1000))))
structure OkC (d:aG):Prop where
 KK:KK d=true
 PD:PD d=true
 n:d.2.1.length<=1000
 p:d.2.2.1.length<=1000
 s:d.2.2.2.1.length<=1000
 k:d.2.2.2.2.1.length<=1000
 r:d.2.2.2.2.2.length<=1000
def fY {d:aG} (h:rB d=true):OkC d:=by
 simp only[rB,ac,ah] at h;exact ⟨h.1.1,h.1.2,h.2.1.1,h.2.1.2,h.2.2.1,h.2.2.2.1,h.2.2.2.2⟩
def eG {b n:Nat} (hn:n<=1000) (hb:b<=1000):mB b n=true:=by
 have:=Nat.mul_le_mul hn hb;unfold mB;rw[ai (by omega),ai (by omega)];rfl
def rD (d:aG):Option T:=match rB d with
 | true=>some (Sh.enc [(true,aF)] d)
 | false=>none
def ANQ:Env:=Env.of [(92,.dup 3 40),(93,.dup 6 72),(94,.dup 3 40),(95,.dup 18 208),(96,.dup 5 88),(97,.pure jJ),(98,.pure oN)]
def AO9:FuncId->Hint:=bP 36 [(4,.inv [.val 28 false (.int .i64),.arr 30 18 aS]),(9,.inv [.val 45 false (.int .i64),.arr 31 5 aK])] (λ_=>bH)
def AG2:bB Tryz.prog ANQ:=bB.cons (x:=.dup 3 40) FE (bB.cons (x:=.dup 6 72) FH (bB.cons (x:=.dup 3 40) FD (bB.cons (x:=.dup 18 208) FF (bB.cons (x:=.dup 5 88) o4 (.cons xQ (.cons TZ (.nil _)))))))
def RU (a0:aG) (R:T->Prop):Prop :=
 bO
 (((List.map bC.enc a0.2.1).all λ(r:List T)=>decide (r.length=3)) &&
 decide ((List.map bC.enc a0.2.1).length*40<=140737488355328) &&
 decide ((List.map bC.enc a0.2.1).length<=140737488355328))
 (bO
 (((List.map bI.enc a0.2.2.2.1).all λ(r:List T)=>decide (r.length=6)) &&
 decide ((List.map bI.enc a0.2.2.2.1).length*72<=140737488355328) &&
 decide ((List.map bI.enc a0.2.2.2.1).length<=140737488355328))
 (bO
 (((List.map a6.enc a0.2.2.2.2.2).all λ(r:List T)=>decide (r.length=3)) &&
 decide ((List.map a6.enc a0.2.2.2.2.2).length*40<=140737488355328) &&
 decide ((List.map a6.enc a0.2.2.2.2.2).length<=140737488355328))
 (bO
 (((List.map aS.enc a0.2.2.1).all λ(r:List T)=>decide (r.length=18)) &&
 decide ((List.map aS.enc a0.2.2.1).length*208<=140737488355328) &&
 decide ((List.map aS.enc a0.2.2.1).length<=140737488355328))
 (bO
 (((List.map aK.enc a0.2.2.2.2.1).all λ(r:List T)=>decide (r.length=5)) &&
 decide ((List.map aK.enc a0.2.2.2.2.1).length*88<=140737488355328) &&
 decide ((List.map aK.enc a0.2.2.2.2.1).length<=140737488355328))
 (cD aS (List.map aS.enc a0.2.2.1) λ(y0:List bG) =>
 a7 (Int×List bG×PUnit)
 (λ(X1:Int×List bG×PUnit->Prop) (s2:Int×List bG×PUnit) =>
 aE (decide (s2.1<(↑(List.map aS.enc a0.2.2.1).length:Int)))
 (aU aS (List.map aS.enc s2.2.1) s2.1 λ(y3:bG) =>
 kU aS (List.map aS.enc s2.2.1) (Int.toNat s2.1) 0
 λ(y4:bG) =>
 aJ [(true,aS)] (jJ [aH true aS y4])
 λ(y5:bG) =>
 aU aS (List.map aS.enc s2.2.1) s2.1 λ(y6:bG) =>
 D6 (List.map aS.enc s2.2.1) (Int.toNat s2.1) λ(y7:List T) =>
 bO (decide (18<=y7.length))
 (cD aS
 ((List.map aS.enc s2.2.1).set (Int.toNat s2.1)
 (b6 y7 0
 (aS.enc y5)))
 λ(y8:List bG)=>X1 (i64.wrap (s2.1+1),y8,())))
 (cD aK (List.map aK.enc a0.2.2.2.2.1)
 λ(y9:List bE) =>
 a7 (Int×List bE×PUnit)
 (λ(X10:Int×List bE×PUnit->Prop) (s11:Int×List bE×PUnit) =>
 aE
 (decide (s11.1<(↑(List.map aK.enc a0.2.2.2.2.1).length:Int)))
 (aU aK (List.map aK.enc s11.2.1) s11.1
 λ(y12:bE) =>
 kU aK (List.map aK.enc s11.2.1) (Int.toNat s11.1) 0
 λ(y13:bE) =>
 aJ [(true,aK)]
 (oN [aH true aK y13]) λ(y14:bE) =>
 aU aK (List.map aK.enc s11.2.1) s11.1
 λ(y15:bE) =>
 D6 (List.map aK.enc s11.2.1) (Int.toNat s11.1)
 λ(y16:List T) =>
 bO (decide (5<=y16.length))
 (cD aK
 ((List.map aK.enc s11.2.1).set (Int.toNat s11.1)
 (b6 y16 0
 [pPQ y14.1,
 pPQ y14.2.1,
 T.sl false (List.map Sy.str.enc y14.2.2.1),
 pPP y14.2.2.2.1,
 T.sl false (List.map Sy.str.enc y14.2.2.2.2)]))
 λ(y17:List bE) =>
 X10 (i64.wrap (s11.1+1),y17,())))
 (R
 ((aH true aF (a0.1,a0.2.1,s2.2.1,a0.2.2.2.1,s11.2.1,a0.2.2.2.2.2)))))
 (0,y9,())))
 (0,y0,()))))))
abbrev V5:Sh:=[(true,aF)]
def fG:List T->Option T:=gS V5 rD
def rL {a0}:fG [aH true aF a0]=rD (a0):=a8 (s:=V5) rfl (a0) rfl
def BJD:lW Tryz.prog 36 fG rD (bR V5) RU:=eN (a1:=(true,aF)) (Hs:=AO9) (k:=8) AG2 aV aY (aQ rfl) ⟨_,_,Tryz.func36,rfl⟩ rfl λ_ _=>by kernel_rfl
def A74 {d:aG} (hp:rB d=true):RU d (λy=>y=Sh.enc [(true,aF)] d):=by
 have c:=fY hp;unfold RU;refine ⟨AG (r:=bC) rfl (eG c.n (by decide)),⟨AG (r:=bI) rfl (eG c.s (by decide)),⟨AG (r:=a6) rfl (eG c.r (by decide)),⟨AG (r:=aS) rfl (eG c.p (by decide)),⟨AG (r:=aK) rfl (eG c.k (by decide)),?_⟩⟩⟩⟩⟩;rw[dJ (r:=aS) rfl];have hpn:=c.p;have hkn:=c.k;refine bJ d.2.2.1.length (λk s=>s=((k:Int),d.2.2.1,())) rfl ?_;rintro X k s hk rfl hX;dsimp only;refine b8 (λhlt=>?_) λhge=>?_
 ·rw[ae] at hlt;have hlt:k<d.2.2.1.length:=by omega
  have hok:iA d.2.2.1[k]=true:=List.all_eq_true.1 c.KK _ (ak hlt);rw[bA (r:=aS) hlt,show Int.toNat (k:Int)=k from rfl,gI (r:=aS) hlt];refine aM (s:=[(true,aS)]) (y:=d.2.2.1[k]) ((xV ..).trans (by unfold jZ;rw[hok])) ?_;rw[bA (r:=aS) hlt,n9 (r:=aS) hlt];refine ⟨by rw[Sy.dV];rfl,?_⟩;have h1:(List.map aS.enc d.2.2.1).set k (b6 (Sy.enc aS d.2.2.1[k]) 0 (Sy.enc aS d.2.2.1[k]))=List.map aS.enc d.2.2.1:=by rw[PH];exact JR (r:=aS) hlt
  refine (OK (r:=aS) rfl h1 ?_);refine hX _ hlt ?_;simp only[Prod.mk.injEq,and_true];exact aZ _ (by omega) (by omega)
 ·rw[dJ (r:=aK) rfl];refine bJ d.2.2.2.2.1.length (λk s=>s=((k:Int),d.2.2.2.2.1,())) rfl ?_;rintro Y j s hj rfl hY;dsimp only;refine b8 (λhlt=>?_) λhge=>rfl;rw[ae] at hlt;have hlt:j<d.2.2.2.2.1.length:=by omega
  have hok:fZ d.2.2.2.2.1[j]=true:=List.all_eq_true.1 c.PD _ (ak hlt);rw[bA (r:=aK) hlt,show Int.toNat (j:Int)=j from rfl,gI (r:=aK) hlt];refine aM (s:=[(true,aK)]) (y:=d.2.2.2.2.1[j]) ((HN ..).trans (by unfold kX;rw[hok])) ?_;rw[bA (r:=aK) hlt,n9 (r:=aK) hlt];refine ⟨by rw[Sy.dV];rfl,?_⟩;have h1:(List.map aK.enc d.2.2.2.2.1).set j (b6 (Sy.enc aK d.2.2.2.2.1[j]) 0 (Sy.enc aK d.2.2.2.2.1[j]))=List.map aK.enc d.2.2.2.2.1:=by rw[PH];exact JR (r:=aK) hlt
  refine (OK (r:=aK) rfl h1 ?_);refine hY _ hlt ?_;simp only[Prod.mk.injEq,and_true];exact aZ _ (by omega) (by omega)
def o3:aT Tryz.prog 36 fG:=BJD λd r h hb=>by
 clear hb;have hp:rB d=true:=by
  unfold rD at h;split at h
  ·assumption
  ·cases h
 have e:Sh.enc [(true,aF)] d=r:=by
  unfold rD at h;rw[hp] at h;exact Option.some.inj h
 subst e;exact A74 hp
def J7 (x:bD×bD):Option T:=some (Sh.enc p0 (qM x.1 x.2))
def BGA:Env:=Env.of [(88,.pure sD)]
def BG9:FuncId->Hint:=bP 89 [(4,.inv [.val 13 false (.int .i64)])] (λ_=>bH)
def AYK:bB Tryz.prog BGA:=.cons AI7 (.nil _)
def BU9(a0:bD):List (List T):=List.map Sy.str.enc a0.2.2.2.2.2.2.1.2.2.2.2
def BVB(a0:bD):List (List T):=List.map Sy.str.enc a0.2.2.2.2.2.2.1.2.2.1
def AB8(a0:bD)(a1:bD)(R:T->Prop):Prop:=aE (decide (a0.1=a1.1)) (aE (decide (a0.2.1=a1.2.1)) (aE (decide (a0.2.2.1=a1.2.2.1)) (aE (decide (a0.2.2.2.1.1=a1.2.2.2.1.1) && (decide (a0.2.2.2.1.2.1=a1.2.2.2.1.2.1) && (decide (a0.2.2.2.1.2.2=a1.2.2.2.1.2.2)&&true))) (aJ BT9 (sD [aH true aS a0.2.2.2.2.1,aH true aS a1.2.2.2.2.1]) λ(y0:Bool)=>aE y0 (aE (decide (a0.2.2.2.2.2.1.1=a1.2.2.2.2.2.1.1) && (decide (a0.2.2.2.2.2.1.2.1=a1.2.2.2.2.2.1.2.1) && (decide (a0.2.2.2.2.2.1.2.2.1=a1.2.2.2.2.2.1.2.2.1) && (decide (a0.2.2.2.2.2.1.2.2.2.1=a1.2.2.2.2.2.1.2.2.2.1) && (decide (a0.2.2.2.2.2.1.2.2.2.2.1 = a1.2.2.2.2.2.1.2.2.2.2.1) && (decide (a0.2.2.2.2.2.1.2.2.2.2.2 = a1.2.2.2.2.2.1.2.2.2.2.2) && true)))))) (aE (decide (a0.2.2.2.2.2.2.2.1=a1.2.2.2.2.2.2.2.1) && (decide (a0.2.2.2.2.2.2.2.2.1=a1.2.2.2.2.2.2.2.2.1) && (decide (a0.2.2.2.2.2.2.2.2.2=a1.2.2.2.2.2.2.2.2.2)&&true))) (aE (decide (a0.2.2.2.2.2.2.1.1=a1.2.2.2.2.2.2.1.1)) (aE (decide (a0.2.2.2.2.2.2.1.2.1=a1.2.2.2.2.2.2.1.2.1)) (aE (decide (a0.2.2.2.2.2.2.1.2.2.2.1 = a1.2.2.2.2.2.2.1.2.2.2.1)) (aE (!decide ((↑(BVB a0).length:Int) = (↑(BVB a1).length:Int))) (R BT7) (a7 (Int×PUnit) (λX1 s2=>aE (decide (s2.1 < (↑(BVB a0).length : Int))) (aU Sy.str (BVB a0) s2.1 λ(y3:iII)=>aU Sy.str (BVB a1) s2.1 λ(y4:iII)=>aE (!decide (y3=y4)) (R BT7) (BUV X1 s2)) (aE (!decide ((↑(BU9 a0).length : Int) = (↑(BU9 a1).length : Int))) (R BT7) (a7 (Int×PUnit) (λX5 s6=>aE (decide (s6.1 < (↑(BU9 a0).length : Int))) (aU Sy.str (BU9 a0) s6.1 λ(y7:iII)=>aU Sy.str (BU9 a1) s6.1 λ(y8:iII)=>aE (!decide (y7=y8)) (R BT7) (BUV X5 s6)) (R BUD)) (0,())))) (0,()))) (R BT7)) (R BT7)) (R BT7)) (R BT7)) (R BT7)) (R BT7)) (R BT7)) (R BT7)) (R BT7)) (R BT7)
abbrev AFR:Sh:=[(true,aW),(true,aW)]
def cW:List T->Option T:=gS AFR J7
def sE {a0 a1}:cW [aH true aW a0,aH true aW a1]=J7 (a0,a1):=a8 (s:=AFR) rfl (a0,a1) rfl
def BC2:nJ Tryz.prog 34 cW J7 (bR AFR) AB8:=eV (a1:=(true,aW)) (a2:=(true,aW)) (Hs:=BG9) (k:=8) AYK aV aY (aQ rfl) ⟨_,_,Tryz.func34,rfl⟩ rfl λ_ _ _=>by kernel_rfl
def j2:aT Tryz.prog 34 cW:=BC2 λa b r h hb=>by
 cases h;have no:¬ a=b->pPR false=Sh.enc p0 (qM a b):=λh=>by rw[xL h];rfl
 have yes:a=b->pPR true=Sh.enc p0 (qM a b):=λh=>by rw[eP.2 h];rfl
 have hl1:a.2.2.2.2.2.2.1.2.2.1.length<=2 ^ 47:=hb.1.2.2.2.2.2.2.1.2.2.1.1;have hl2:a.2.2.2.2.2.2.1.2.2.2.2.length<=2 ^ 47:=hb.1.2.2.2.2.2.2.1.2.2.2.2.1;clear hb;unfold AB8 BVB BU9 BUV BUD BT9 BT7;refine sK (λh1=>?_) (λh=>no λe=>by simp[e] at h);refine sK (λh2=>?_) (λh=>no λe=>by simp[e] at h);refine sK (λh3=>?_) (λh=>no λe=>by simp[e] at h);refine sK (λh4=>?_) (λh=>no λe=>by simp[e] at h);refine aM (s:=p0) (y:=qM (a.2.2.2.2.1) (b.2.2.2.2.1)) (YL ..) ?_;refine sK (λh5=>?_) (λh=>no λe=>by simp[e] at h);refine sK (λh6=>?_) (λh=>no λe=>by simp[e] at h);refine sK (λh7=>?_) (λh=>no λe=>by simp[e] at h);refine sK (λh8=>?_) (λh=>no λe=>by simp[e] at h);refine sK (λh9=>?_) (λh=>no λe=>by simp[e] at h);refine sK (λh10=>?_) (λh=>no λe=>by simp[e] at h);refine ACY (r:=.str) hl1 (λy z=>decide (y=z)) (λx y=>decide_eq_true_iff) (λh11=>?_) (λh=>no λe=>h (by rw[e]));refine ACY (r:=.str) hl2 (λy z=>decide (y=z)) (λx y=>decide_eq_true_iff) (λh12=>yes ?_) (λh=>no λe=>h (by rw[e]));simp only[Bool.and_true,ac,ah,eP] at h1 h2 h3 h4 h5 h6 h7 h8 h9 h10;simp only[Prod.ext_iff];exact ⟨h1,h2,h3,h4,by simpa only [Prod.ext_iff] using h5,h6,⟨h8,h9,h11,h10,h12⟩,h7⟩
def Z9 (s:iII):Bool:=decide (s.size<=1099511627776)
def BR2 (l:List iII) (x:iII):Bool:=l.any λy=>decide (y=x)
def JZ (x:List iII×iII):Option T:=some (Sh.enc p0 (BR2 x.1 x.2))
def BG1:FuncId->Hint:=bP 56 [(2,.inv [.val 5 false (.int .i64)])] (λ_=>bH)
def ABW(a0:List iII)(a1:iII)(R:T->Prop):Prop:=a7 (Int×PUnit) (λX0 s1=>aE (decide (s1.1<(↑(BVK a0).length:Int))) (aU Sy.str (BVK a0) s1.1 λ(y2:iII)=>aE (decide (y2=a1)) (R BUD) (BUV X0 s1)) (R BT7)) (0,())
abbrev AE8:Sh:=[(false,Sy.str.li),(false,Sy.str)]
def iB:List T->Option T:=gS AE8 JZ
def FK {a0 a1}:iB [T.sl false (List.map Sy.str.enc a0),pPQ a1]=JZ (a0,a1):=a8 (s:=AE8) rfl (a0,a1) rfl
def BCH:nJ Tryz.prog 56 iB JZ (bR AE8) ABW:=eV (a1:=(false,Sy.str.li)) (a2:=(false,Sy.str)) (Hs:=BG1) (k:=8) (bM _) aV aY (aQ rfl) ⟨_,_,Tryz.func56,rfl⟩ rfl λ_ _ _=>by kernel_rfl
def APJ {p:α->Bool} {l:List α} {k:Nat} (h:k<l.length):(l.drop k).any p=(p l[k]||(l.drop (k+1)).any p):=by rw[List.drop_eq_getElem_cons h,List.any_cons]
def T1:aT Tryz.prog 56 iB:=BCH λl x r h hb=>by
 cases h;have hl:l.length<=2 ^ 47:=hb.1.1;unfold ABW BVK BUV BUD BT7;refine bJ l.length (λk s=>s=((k:Int),())/\BR2 l x=(l.drop k).any λy=>decide (y=x)) ⟨rfl,rfl⟩ ?_;rintro X k s hk ⟨rfl,he⟩ hX;dsimp only;by_cases hlt:k<l.length
 ·rw[APJ hlt] at he;refine dD (by simp[hlt]) ?_;rw[bA (r:=.str) hlt];by_cases h1:l[k]=x
  ·refine dD h1 ?_;rw[he,ai h1];rfl
  ·refine eB h1 (hX _ hlt ⟨by rw[show i64.wrap ((k:Int)+1)=((k+1:Nat):Int) from aZ _ (by omega) (by omega)],?_⟩);rw[he,aj h1,Bool.false_or]
 ·have:k=l.length:=by omega
  subst this;refine eB (by simp) ?_;rw[he,List.drop_length];rfl
def okI (d:aG):Bool:=d.2.1.all (λn=>Z9 n.1)&&d.2.2.1.all (λp=>Z9 p.1&&Z9 (fV p))&&d.2.2.2.1.all (λs=>Z9 s.1&&(Z9 s.2.1&&Z9 s.2.2.1))&&d.2.2.2.2.1.all (λk=>Z9 k.1)
def okU (d:aG):Bool:=QJ d 1000&&(KK d&&(PD d&&okI d))
def AL3 (d:aG):Bool:=QJ d 1000&&(KK d&&PD d)
def MU (d:aG) (t:T):Option T:=match AL3 d with
 | true=>some t
 | false=>none
def AAE {d:aG} {t r:T} (h:MU d t=some r):AL3 d=true/\r=t:=by
 unfold MU at h;split at h
 ·rename_i hc;cases h;exact ⟨hc,rfl⟩
 ·cases h
def AAF {d:aG} (t:T) (h:AL3 d=true):MU d t=some t:=by unfold MU;rw[h]
def BDB {d:aG} (h:okU d=true):AL3 d=true:=by
 simp only[okU,AL3,ac] at h ⊢;exact ⟨h.1,h.2.1,h.2.2.1⟩
def JG (d:aG) (t:T):Option T:=match okU d with
 | true=>some t
 | false=>none
def JH {d:aG} {t r:T} (h:JG d t=some r):okU d=true/\r=t:=by
 unfold JG at h;split at h
 ·rename_i hc;cases h;exact ⟨hc,rfl⟩
 ·cases h
def JI {d:aG} (t:T) (h:okU d=true):JG d t=some t:=by unfold JG;rw[h]
structure BRK (d:aG):Prop where
 QJ:QJ d 1000=true
 n:d.2.1.length<=1000
 p:d.2.2.1.length<=1000
 s:d.2.2.2.1.length<=1000
 k:d.2.2.2.2.1.length<=1000
 r:d.2.2.2.2.2.length<=1000
 kl:∀ k∈d.2.2.2.2.1,(eF k).length<=1000/\(dB k).length<=1000
 KK:KK d=true
 PD:PD d=true
structure UOk (d:aG):Prop extends BRK d where
 nI:∀ n∈d.2.1,Z9 n.1=true
 pI:∀ p∈d.2.2.1,Z9 p.1=true/\Z9 (fV p)=true
 sI:∀ s∈d.2.2.2.1,Z9 s.1=true/\Z9 s.2.1=true/\Z9 s.2.2.1=true
 kI:∀ k∈d.2.2.2.2.1,Z9 k.1=true
def VN {d:aG} (h:AL3 d=true):BRK d:=by
 simp only[AL3,ac] at h;obtain ⟨h1,h2,h3⟩:=h;have h0:=h1;simp only[QJ,ac,List.all_eq_true,ah] at h1;obtain ⟨⟨⟨⟨⟨a,b⟩,c⟩,e⟩,f⟩,g⟩:=h1;exact ⟨h0,by omega,by omega,by omega,by omega,by omega,λk hk=>by have:=g k hk;unfold eF dB;omega,h2,h3⟩
def C6 {d:aG} (h:okU d=true):UOk d:=by
 have h0:=VN (BDB h);simp only[okU,okI,ac,List.all_eq_true] at h;obtain ⟨_,_,_,⟨⟨i1,i2⟩,i3⟩,i4⟩:=h;exact ⟨h0,i1,i2,λs hs=>i3 s hs,i4⟩
def oX (a b:iII):(!(cK b a||decide (b=a)))=cK a b:=by
 rw[Bool.eq_iff_iff];refine ⟨λh=>(mC a b).2 (AUP h),λh=>?_⟩;have h1:=(mC a b).1 h;have h2:cK b a=false:=by
  rw[Bool.eq_false_iff];intro h3;exact List.lt_irrefl _ (List.lt_trans h1 ((mC b a).1 h3))
 have h3:¬ b=a:=λe=>by rw[e] at h1;exact List.lt_irrefl _ h1
 rw[h2,aj h3];rfl
def dk {l:List iII} {rows:List (List T)} {K:List iII->Prop} (e:rows=List.map Sy.str.enc l) (h:K l):cD Sy.str rows K:=by
 subst e;rw[dJ (r:=.str) rfl];exact h
variable {l:List (iII×α)}
def H9 {k:Nat} (h:k<l.length):ids (l.take (k+1))=ids (l.take k)++[l[k].1]:=by
 unfold ids;rw[List.take_succ_eq_append_getElem h,List.map_append];rfl
def QM {k:Nat}:(ids (l.take k)).length<=k:=by
 unfold ids;rw[ae,List.length_take];omega
def BGY:FuncId->Hint:=bP 54 [(2,.inv [.val 3 false (.int .i64)])] (λ_=>bH)
def ABQ(a0:List iII)(R:T->Prop):Prop:=a7 (Int×PUnit) (λX0 s1=>aE (decide (s1.1<(↑(BVK a0).length:Int))) (aU Sy.str (BVK a0) (i64.wrap (s1.1-1)) λ(y2:iII)=>aU Sy.str (BVK a0) s1.1 λ(y3:iII)=>aE (!cK y2 y3) (R BT7) (BUV X0 s1)) (R BUD)) (1,())
abbrev AE4:Sh:=[(false,Sy.str.li)]
def JT (l:List iII):Option T:=oI l (pPR (oG l))
def mH:List T->Option T:=gS AE4 JT
def r7 {a0}:mH [T.sl false (List.map Sy.str.enc a0)]=JT (a0):=a8 (s:=AE4) rfl (a0) rfl
def BCD:lW Tryz.prog 54 mH JT (bR AE4) ABQ:=eN (a1:=(false,Sy.str.li)) (Hs:=BGY) (k:=8) (bM _) aV aY (aQ rfl) ⟨_,_,Tryz.func54,rfl⟩ rfl λ_ _=>by kernel_rfl
def AIY:aT Tryz.prog 54 mH:=BCD λl r h hb=>by
 obtain ⟨hl,rfl⟩:=iR h;clear h hb;unfold ABQ BVK BUV BUD BT7;refine bJ l.length (λk s=>s=(((k+1:Nat):Int),())/\oG l=oG (l.drop k)) ⟨rfl,by rw[List.drop_zero]⟩ ?_;rintro X k s hk ⟨rfl,he⟩ hX;dsimp only;have hw:i64.wrap (((k+1:Nat):Int)+1)=((k+1+1:Nat):Int):=aZ _ (by omega) (by omega);have hw1:i64.wrap (((k+1:Nat):Int)-1)=((k:Nat):Int):=by rw[aZ _ (by omega) (by omega)];omega
 refine b8 (λhlt=>?_) λhge=>?_
 ·rw[ae] at hlt;have hlt:k+1<l.length:=by omega
  rw[hw1,bA (r:=.str) (show k<l.length by omega),bA (r:=.str) hlt,hw];rw[AIB hlt,oX] at he;refine eQ (λh=>iG ?_) λh=>hX _ (by omega) ⟨rfl,?_⟩
  ·rw[he,h];rfl
  ·rw[he,h];rfl
 ·rw[ae] at hge;refine iG ?_;rw[he,AUO (by omega)]
def EV(a0:cP)(a1:cP)(R:T->Prop):Prop:=aE (!decide (a0.1=a1.1)) (R (pPR (decide (a0.1<a1.1)))) (aE (!decide (a0.2.1=a1.2.1)) (R (pPR (cK a0.2.1 a1.2.1))) (R (pPR (cK a0.2.2 a1.2.2))))
abbrev FY:Sh:=[(true,a6),(true,a6)]
def uE (x:cP×cP):Option T:=some (pPR (ltN x.1 x.2))
def r8:List T->Option T:=gS FY uE
def YI {a0 a1}:r8 [aH true a6 a0,aH true a6 a1]=uE (a0,a1):=a8 (s:=FY) rfl (a0,a1) rfl
def ALU:nJ Tryz.prog 55 r8 uE (bR FY) EV:=eV (a1:=(true,a6)) (a2:=(true,a6)) (Hs:=c0) (k:=8) (bM _) aV aY (aQ rfl) ⟨_,_,Tryz.func55,rfl⟩ rfl λ_ _ _=>by kernel_rfl
def AIZ:aT Tryz.prog 55 r8:=ALU λa b r h hb=>by
 cases h;unfold EV;refine kD (λh=>iG ?_) λh=>kD (λh2=>iG ?_) λh2=>iG ?_
 ·unfold ltN;rw[aj h];simp
 ·unfold ltN;rw[ai h,aj h2];simp[h]
 ·unfold ltN;rw[ai h,ai h2,h2,show cK b.2.1 b.2.1=false by rw[Bool.eq_false_iff];exact λh=>List.lt_irrefl _ ((mC _ _).1 h)];simp[h]
def AYX:FuncId->Hint:=bP 53 [(3,.inv [.val 4 false (.int .i64),.box 2 (.pr (.li .str) (.pr (.li .str) (.pr (.li .str) (.li .str)))),.xJ 2 0 1 .str,.xJ 2 1 1 .str,.xJ 2 2 1 .str,.xJ 2 3 1 .str]),(7,.inv [.val 5 false (.int .i64),.box 2 (.pr (.li .str) (.pr (.li .str) (.pr (.li .str) (.li .str)))),.xJ 2 0 1 .str,.xJ 2 1 1 .str,.xJ 2 2 1 .str,.xJ 2 3 1 .str]),(11,.inv [.val 6 false (.int .i64),.box 2 (.pr (.li .str) (.pr (.li .str) (.pr (.li .str) (.li .str)))),.xJ 2 0 1 .str,.xJ 2 1 1 .str,.xJ 2 2 1 .str,.xJ 2 3 1 .str]),(15,.inv [.val 7 false (.int .i64),.box 2 (.pr (.li .str) (.pr (.li .str) (.pr (.li .str) (.li .str)))),.xJ 2 0 1 .str,.xJ 2 1 1 .str,.xJ 2 2 1 .str,.xJ 2 3 1 .str])] (λ_=>bH)
def KS(a0:aG)(R:T->Prop):Prop:=cD Sy.str [] λ(y0:List iII)=>cD Sy.str [] λ(y1:List iII)=>cD Sy.str [] λ(y2:List iII)=>cD Sy.str [] λ(y3:List iII)=>a7 (Int × (List iII×List iII×List iII×List iII) × List iII×List iII×List iII×List iII×PUnit) (λ(X4 : Int × (List iII×List iII×List iII×List iII) × List iII×List iII×List iII×List iII×PUnit -> Prop) (s5 : Int × (List iII×List iII×List iII×List iII) × List iII×List iII×List iII×List iII×PUnit)=>aE (decide (s5.1<(↑(BU4 a0).length:Int))) (aU bC (BU4 a0) s5.1 λ(y6:eH)=>bO (decide (((List.map Sy.str.enc s5.2.2.1).length+1)*16<=140737488355328) && decide ((List.map Sy.str.enc s5.2.2.1).length+1<=140737488355328)) (cD Sy.str [] λ(y7:List iII)=>cD Sy.str [] λ(y8:List iII)=>cD Sy.str [] λ(y9:List iII)=>cD Sy.str [] λ(y10:List iII)=>cD Sy.str (List.map Sy.str.enc s5.2.2.1++[[pPQ y6.1]]) λ(y11:List iII)=>cD Sy.str (List.map Sy.str.enc s5.2.2.2.1) λ(y12:List iII)=>cD Sy.str (List.map Sy.str.enc s5.2.2.2.2.1) λ(y13:List iII)=>cD Sy.str (List.map Sy.str.enc s5.2.2.2.2.2.1) λ(y14:List iII)=>X4 (i64.wrap (s5.1+1),(y7,y8,y9,y10),y11,y12,y13,y14,()))) (cD Sy.str [] λ(y15:List iII)=>cD Sy.str [] λ(y16:List iII)=>cD Sy.str [] λ(y17:List iII)=>cD Sy.str [] λ(y18:List iII)=>cD Sy.str (List.map Sy.str.enc s5.2.2.1) λ(y19:List iII)=>cD Sy.str (List.map Sy.str.enc s5.2.2.2.1) λ(y20:List iII)=>cD Sy.str (List.map Sy.str.enc s5.2.2.2.2.1) λ(y21:List iII)=>cD Sy.str (List.map Sy.str.enc s5.2.2.2.2.2.1) λ(y22:List iII)=>a7 (Int × (List iII×List iII×List iII×List iII) × List iII×List iII×List iII×List iII×PUnit) (λ(X23 : Int × (List iII×List iII×List iII×List iII) × List iII×List iII×List iII×List iII×PUnit -> Prop) (s24 : Int × (List iII×List iII×List iII×List iII) × List iII×List iII×List iII×List iII×PUnit)=>aE (decide (s24.1<(↑(BUZ a0).length:Int))) (aU aS (BUZ a0) s24.1 λ(y25:bG)=>bO (decide (((List.map Sy.str.enc s24.2.2.2.1).length+1)*16 <= 140737488355328) && decide ((List.map Sy.str.enc s24.2.2.2.1).length+1 <= 140737488355328)) (cD Sy.str [] λ(y26:List iII)=>cD Sy.str [] λ(y27:List iII)=>cD Sy.str [] λ(y28:List iII)=>cD Sy.str [] λ(y29:List iII)=>cD Sy.str (List.map Sy.str.enc s24.2.2.1) λ(y30:List iII)=>cD Sy.str (List.map Sy.str.enc s24.2.2.2.1 ++ [[pPQ y25.1]]) λ(y31:List iII)=>cD Sy.str (List.map Sy.str.enc s24.2.2.2.2.1) λ(y32:List iII)=>cD Sy.str (List.map Sy.str.enc s24.2.2.2.2.2.1) λ(y33:List iII)=>X23 (i64.wrap (s24.1+1),(y26,y27,y28,y29),y30, y31,y32,y33,()))) (cD Sy.str [] λ(y34:List iII)=>cD Sy.str [] λ(y35:List iII)=>cD Sy.str [] λ(y36:List iII)=>cD Sy.str [] λ(y37:List iII)=>cD Sy.str (List.map Sy.str.enc s24.2.2.1) λ(y38:List iII)=>cD Sy.str (List.map Sy.str.enc s24.2.2.2.1) λ(y39:List iII)=>cD Sy.str (List.map Sy.str.enc s24.2.2.2.2.1) λ(y40:List iII)=>cD Sy.str (List.map Sy.str.enc s24.2.2.2.2.2.1) λ(y41:List iII)=>a7 (Int × (List iII × List iII×List iII×List iII) × List iII × List iII×List iII×List iII×PUnit) (λ(X42 : Int × (List iII × List iII×List iII×List iII) × List iII × List iII × List iII×List iII×PUnit -> Prop) (s43 : Int × (List iII × List iII×List iII×List iII) × List iII × List iII × List iII×List iII×PUnit)=>aE (decide (s43.1 < (↑(BU3 a0).length : Int))) (aU bI (BU3 a0) s43.1 λ(y44:gE)=>bO (decide (((List.map Sy.str.enc s43.2.2.2.2.1).length + 1) * 16 <= 140737488355328) && decide ((List.map Sy.str.enc s43.2.2.2.2.1).length + 1 <= 140737488355328)) (cD Sy.str [] λ(y45:List iII)=>cD Sy.str [] λ(y46:List iII)=>cD Sy.str [] λ(y47:List iII)=>cD Sy.str [] λ(y48:List iII)=>cD Sy.str (List.map Sy.str.enc s43.2.2.1) λ(y49:List iII)=>cD Sy.str (List.map Sy.str.enc s43.2.2.2.1) λ(y50:List iII)=>cD Sy.str (List.map Sy.str.enc s43.2.2.2.2.1 ++ [[pPQ y44.1]]) λ(y51:List iII)=>cD Sy.str (List.map Sy.str.enc s43.2.2.2.2.2.1) λ(y52:List iII)=>X42 (i64.wrap (s43.1+1), (y45,y46,y47,y48),y49,y50,y51, y52,()))) (cD Sy.str [] λ(y53:List iII)=>cD Sy.str [] λ(y54:List iII)=>cD Sy.str [] λ(y55:List iII)=>cD Sy.str [] λ(y56:List iII)=>cD Sy.str (List.map Sy.str.enc s43.2.2.1) λ(y57:List iII)=>cD Sy.str (List.map Sy.str.enc s43.2.2.2.1) λ(y58:List iII)=>cD Sy.str (List.map Sy.str.enc s43.2.2.2.2.1) λ(y59:List iII)=>cD Sy.str (List.map Sy.str.enc s43.2.2.2.2.2.1) λ(y60:List iII)=>a7 (Int × (List iII × List iII × List iII×List iII) × List iII × List iII × List iII × List iII×PUnit) (λ(X61 : Int × (List iII × List iII × List iII × List iII) × List iII × List iII × List iII × List iII×PUnit -> Prop) (s62 : Int × (List iII × List iII × List iII × List iII) × List iII × List iII × List iII × List iII×PUnit)=>aE (decide (s62.1 < (↑(BUY a0).length : Int))) (aU aK (BUY a0) s62.1 λ(y63:bE)=>bO (decide (((List.map Sy.str.enc s62.2.2.2.2.2.1).length + 1) * 16 <= 140737488355328) && decide ((List.map Sy.str.enc s62.2.2.2.2.2.1).length + 1 <= 140737488355328)) (cD Sy.str [] λ(y64:List iII)=>cD Sy.str [] λ(y65:List iII)=>cD Sy.str [] λ(y66:List iII)=>cD Sy.str [] λ(y67:List iII)=>cD Sy.str (List.map Sy.str.enc s62.2.2.1) λ(y68 : List iII)=>cD Sy.str (List.map Sy.str.enc s62.2.2.2.1) λ(y69 : List iII)=>cD Sy.str (List.map Sy.str.enc s62.2.2.2.2.1) λ(y70 : List iII)=>cD Sy.str (List.map Sy.str.enc s62.2.2.2.2.2.1 ++ [[pPQ y63.1]]) λ(y71 : List iII)=>X61 (i64.wrap (s62.1+1), (y64,y65,y66, y67), y68,y69,y70, y71,()))) (R (T.agg [T.sl false (List.map Sy.str.enc s62.2.2.1), T.sl false (List.map Sy.str.enc s62.2.2.2.1), T.sl false (List.map Sy.str.enc s62.2.2.2.2.1), T.sl false (List.map Sy.str.enc s62.2.2.2.2.2.1)]))) (0,(y53,y54,y55,y56),y57,y58,y59, y60,()))) (0,(y34,y35,y36,y37),y38,y39,y40,y41,()))) (0,(y15,y16,y17,y18),y19,y20,y21,y22,()))) (0,(y0,y1,y2,y3),[],[],[],[],())
abbrev NC:Sh:=[(true,aF)]
abbrev L4:=List iII×List iII×List iII×List iII
def ART (d:aG):L4:=(ids d.2.1,ids d.2.2.1,ids d.2.2.2.1,ids d.2.2.2.2.1)
def BTE (x:L4):T:=T.agg [T.sl false (List.map Sy.str.enc x.1),T.sl false (List.map Sy.str.enc x.2.1),T.sl false (List.map Sy.str.enc x.2.2.1),T.sl false (List.map Sy.str.enc x.2.2.2)]
def yQ (d:aG):Option T:=MU d (BTE (ART d))
def mZ:List T->Option T:=gS NC yQ
def ADJ {a0}:mZ [aH true aF a0]=yQ (a0):=a8 (s:=NC) rfl (a0) rfl
def ASC:lW Tryz.prog 53 mZ yQ (bR NC) KS:=eN (a1:=(true,aF)) (Hs:=AYX) (k:=8) (bM _) aV aY (aQ rfl) ⟨_,_,Tryz.func53,rfl⟩ rfl λ_ _=>by kernel_rfl
def T4:aT Tryz.prog 53 mZ:=ASC λd r h hb=>by
 obtain ⟨hu,rfl⟩:=AAE h;have u:=VN hu;clear h hb;unfold KS BU4 BU3 BUZ BUY;refine dk (l:=[]) rfl (dk (l:=[]) rfl (dk (l:=[]) rfl (dk (l:=[]) rfl ?_)));refine bJ d.2.1.length (λk s=>s=((k:Int),([],[],[],[]),ids (d.2.1.take k),[],[],[],())) rfl ?_;rintro X k s hk rfl hX;dsimp only;refine b8 (λhlt=>?_) λhge=>?_
 ·rw[ae] at hlt;have hlt:k<d.2.1.length:=by omega
  have hl:=u.n;have ht:=QM (l:=d.2.1) (k:=k);rw[bA (r:=bC) hlt,E4 (by omega)];refine dk (l:=[]) rfl (dk (l:=[]) rfl (dk (l:=[]) rfl (dk (l:=[]) rfl ?_)));refine dk (l:=ids (d.2.1.take k)++[d.2.1[k].1]) (by rw[List.map_append];rfl) (dk (l:=[]) rfl (dk (l:=[]) rfl (dk (l:=[]) rfl ?_)));refine hX _ hlt ?_;rw[H9 hlt,show i64.wrap ((k:Int)+1)=((k+1:Nat):Int) from aZ _ (by omega) (by omega)]
 have:k=d.2.1.length:=by rw[ae] at hge;omega
 subst this;rw[List.take_length];clear hge hX hk X;refine dk (l:=[]) rfl (dk (l:=[]) rfl (dk (l:=[]) rfl (dk (l:=[]) rfl ?_)));refine dk (l:=ids d.2.1) rfl (dk (l:=[]) rfl (dk (l:=[]) rfl (dk (l:=[]) rfl ?_)));refine bJ d.2.2.1.length (λk s=>s=((k:Int),([],[],[],[]),ids d.2.1,ids (d.2.2.1.take k),[],[],())) rfl ?_;rintro X k s hk rfl hX;dsimp only;refine b8 (λhlt=>?_) λhge=>?_
 ·rw[ae] at hlt;have hlt:k<d.2.2.1.length:=by omega
  have hl:=u.p;have ht:=QM (l:=d.2.2.1) (k:=k);rw[bA (r:=aS) hlt,E4 (by omega)];refine dk (l:=[]) rfl (dk (l:=[]) rfl (dk (l:=[]) rfl (dk (l:=[]) rfl ?_)));refine dk (l:=ids d.2.1) rfl (dk (l:=ids (d.2.2.1.take k)++[d.2.2.1[k].1]) (by rw[List.map_append];rfl) (dk (l:=[]) rfl (dk (l:=[]) rfl ?_)));refine hX _ hlt ?_;rw[H9 hlt,show i64.wrap ((k:Int)+1)=((k+1:Nat):Int) from aZ _ (by omega) (by omega)]
 have:k=d.2.2.1.length:=by rw[ae] at hge;omega
 subst this;rw[List.take_length];clear hge hX hk X;refine dk (l:=[]) rfl (dk (l:=[]) rfl (dk (l:=[]) rfl (dk (l:=[]) rfl ?_)));refine dk (l:=ids d.2.1) rfl (dk (l:=ids d.2.2.1) rfl (dk (l:=[]) rfl (dk (l:=[]) rfl ?_)));refine bJ d.2.2.2.1.length (λk s=>s=((k:Int),([],[],[],[]),ids d.2.1,ids d.2.2.1,ids (d.2.2.2.1.take k),[],())) rfl ?_;rintro X k s hk rfl hX;dsimp only;refine b8 (λhlt=>?_) λhge=>?_
 ·rw[ae] at hlt;have hlt:k<d.2.2.2.1.length:=by omega
  have hl:=u.s;have ht:=QM (l:=d.2.2.2.1) (k:=k);rw[bA (r:=bI) hlt,E4 (by omega)];refine dk (l:=[]) rfl (dk (l:=[]) rfl (dk (l:=[]) rfl (dk (l:=[]) rfl ?_)));refine dk (l:=ids d.2.1) rfl (dk (l:=ids d.2.2.1) rfl (dk (l:=ids (d.2.2.2.1.take k)++[d.2.2.2.1[k].1]) (by rw[List.map_append];rfl) (dk (l:=[]) rfl ?_)));refine hX _ hlt ?_;rw[H9 hlt,show i64.wrap ((k:Int)+1)=((k+1:Nat):Int) from aZ _ (by omega) (by omega)]
 have:k=d.2.2.2.1.length:=by rw[ae] at hge;omega
 subst this;rw[List.take_length];clear hge hX hk X;refine dk (l:=[]) rfl (dk (l:=[]) rfl (dk (l:=[]) rfl (dk (l:=[]) rfl ?_)));refine dk (l:=ids d.2.1) rfl (dk (l:=ids d.2.2.1) rfl (dk (l:=ids d.2.2.2.1) rfl (dk (l:=[]) rfl ?_)));refine bJ d.2.2.2.2.1.length (λk s=>s=((k:Int),([],[],[],[]),ids d.2.1,ids d.2.2.1,ids d.2.2.2.1,ids (d.2.2.2.2.1.take k),())) rfl ?_;rintro X k s hk rfl hX;dsimp only;refine b8 (λhlt=>?_) λhge=>?_
 ·rw[ae] at hlt;have hlt:k<d.2.2.2.2.1.length:=by omega
  have hl:=u.k;have ht:=QM (l:=d.2.2.2.2.1) (k:=k);rw[bA (r:=aK) hlt,E4 (by omega)];refine dk (l:=[]) rfl (dk (l:=[]) rfl (dk (l:=[]) rfl (dk (l:=[]) rfl ?_)));refine dk (l:=ids d.2.1) rfl (dk (l:=ids d.2.2.1) rfl (dk (l:=ids d.2.2.2.1) rfl (dk (l:=ids (d.2.2.2.2.1.take k)++[d.2.2.2.2.1[k].1]) (by rw[List.map_append];rfl) ?_)));refine hX _ hlt ?_;rw[H9 hlt,show i64.wrap ((k:Int)+1)=((k+1:Nat):Int) from aZ _ (by omega) (by omega)]
 have:k=d.2.2.2.2.1.length:=by rw[ae] at hge;omega
 subst this;rw[List.take_length];clear hge hX hk X;rfl
abbrev q4:Sh:=[(true,Sy.str.li.pr (Sy.str.li.pr (Sy.str.li.pr Sy.str.li)))]
def HR {d:aG} (h:AL3 d=true):mZ [aH true aF d]=some (Sh.enc q4 (ART d)):=(ADJ ..).trans (AAF _ h)
variable {R7 Exit:Prop}
def wJ {m l:List iII} (hl:l.length<=140737488355328) (h7:l.any (oR m)=true->R7) (hx:l.any (oR m)=false->Exit) :
 a7 (Int×PUnit) (λ(X:Int×PUnit->Prop) (s:Int×PUnit)=>aE (decide (s.1<((List.map Sy.str.enc l).length:Int))) (aU Sy.str (List.map Sy.str.enc l) s.1 λy=>aJ [(false,Sy.bool)] (iB [T.sl false (List.map Sy.str.enc m),pPQ y]) λ(b:Bool)=>aE b R7 (X (i64.wrap (s.1+1),()))) Exit) (0,()):=by
 refine gX (r:=.str) (λy=>if oR m y=true then 1 else 0) hl (λX s y hy hok hbad=>?_) λh0=>hx ?_
 ·refine aM (s:=D4) (y:=oR m y) (FK ..) ?_;refine zQ (λh=>h7 (List.any_eq_true.2 ⟨y,hy,h⟩)) λh=>hok (by rw[h];rfl)
 ·rw[Bool.eq_false_iff];intro h;obtain ⟨y,hy,h⟩:=List.any_eq_true.1 h;have this:(if oR m y=true then (1:Int) else 0)=0:=r5 h0 y hy;rw[if_pos h] at this;cases this
def A4F:Env:=Env.of [(51,.pure gY),(53,.pure mZ),(54,.pure mH),(55,.pure r8),(56,.pure iB)]
def A6X:FuncId->Hint:=bP 21 [(7,.OD 5),(12,.inv [.val 5 false (.int .i64)]),(17,.OD 5),(20,.OD 5),(23,.inv [.val 8 false (.int .i64)])] (λ_=>bH)
def AN6:bB Tryz.prog A4F:=.cons tO (.cons T4 (.cons AIY (.cons AIZ (.cons T1 (.nil _)))))
def BVN(y1:List iII×List iII×List iII×List iII):List (List T):=List.map Sy.str.enc y1.2.2.2
def BVT(y1:List iII×List iII×List iII×List iII)(y13:iII)(R:T->Prop)(X11:Int×PUnit->Prop)(s12:Int×PUnit):Prop:=aJ BT9 (iB [T.sl false (List.map Sy.str.enc y1.1), pPQ y13]) λ(y14:Bool)=>aE y14 (R BUJ) (BUV X11 s12)
def RX(a0:aG)(R:T->Prop):Prop:=aJ BT9 (gY [pPQ a0.1]) λ(y0:Bool)=>aE (!y0) (R BUL) (aE (decide (64<(↑(BU4 a0).length:Int))) (R BUI) (aE (decide (256<(↑(BUZ a0).length:Int))) (R BUI) (aE (decide (256<(↑(BU3 a0).length:Int))) (R BUI) (aE (decide (64<(↑(BUY a0).length:Int))) (R BUI) (aE (decide (256<(↑(BU2 a0).length:Int))) (R BUI) (aJ [(true,Sy.str.li.pr (Sy.str.li.pr (Sy.str.li.pr Sy.str.li)))] (mZ [aH true aF a0]) λ(y1:List iII×List iII×List iII×List iII)=>aJ BT9 (mH [T.sl false (List.map Sy.str.enc y1.1)]) λ(y2:Bool)=>aE (!y2) (R BUF) (aJ BT9 (mH [T.sl false (List.map Sy.str.enc y1.2.1)]) λ(y3:Bool)=>aE (!y3) (R BUF) (aJ BT9 (mH [T.sl false (List.map Sy.str.enc y1.2.2.1)]) λ(y4:Bool)=>aE (!y4) (R BUF) (aJ BT9 (mH [T.sl false (BVN y1)]) λ(y5:Bool)=>aE (!y5) (R BUF) (a7 (Int×PUnit) (λX6 s7=>aE (decide (s7.1<(↑(BU2 a0).length:Int))) (aU a6 (BU2 a0) (i64.wrap (s7.1-1)) λ(y8:cP)=>aU a6 (BU2 a0) s7.1 λ(y9:cP)=>aJ BT9 (r8 [aH true a6 y8,aH true a6 y9]) λ(y10:Bool)=>aE (!y10) (R BUF) (BUV X6 s7)) (a7 (Int×PUnit) (λX11 s12=>aE (decide (s12.1<(↑(List.map Sy.str.enc y1.2.1).length:Int))) (aU Sy.str (List.map Sy.str.enc y1.2.1) s12.1 λ(y13:iII)=>BVT y1 y13 R X11 s12) (a7 (Int×PUnit) (λX15 s16=>aE (decide (s16.1 < (↑(List.map Sy.str.enc y1.2.2.1).length:Int))) (aU Sy.str (List.map Sy.str.enc y1.2.2.1) s16.1 λ(y17:iII)=>BVT y1 y17 R X15 s16) (a7 (Int×PUnit) (λX19 s20=>aE (decide (s20.1 < (↑(List.map Sy.str.enc y1.2.2.1).length:Int))) (aU Sy.str (List.map Sy.str.enc y1.2.2.1) s20.1 λ(y21:iII)=>aJ BT9 (iB [T.sl false (List.map Sy.str.enc y1.2.1), pPQ y21]) λ(y22:Bool)=>aE y22 (R BUJ) (BUV X19 s20)) (a7 (Int×PUnit) (λX23 s24=>aE (decide (s24.1 < (↑(BVN y1).length : Int))) (aU Sy.str (BVN y1) s24.1 λ(y25:iII)=>BVT y1 y25 R X23 s24) (a7 (Int×PUnit) (λX27 s28=>aE (decide (s28.1 < (↑(BVN y1).length : Int))) (aU Sy.str (BVN y1) s28.1 λ(y29:iII)=>aJ BT9 (iB [T.sl false (List.map Sy.str.enc y1.2.1), pPQ y29]) λ(y30:Bool)=>aE y30 (R BUJ) (BUV X27 s28)) (a7 (Int×PUnit) (λX31 s32=>aE (decide (s32.1 < (↑(BVN y1).length : Int))) (aU Sy.str (BVN y1) s32.1 λ(y33:iII)=>aJ BT9 (iB [T.sl false (List.map Sy.str.enc y1.2.2.1), pPQ y33]) λ(y34:Bool)=>aE y34 (R BUJ) (X31 (i64.wrap (s32.1+1), ()))) (R BUB)) (0,()))) (0,()))) (0,()))) (0,()))) (0,()))) (0,()))) (1,())))))))))))
abbrev V7:Sh:=[(true,aF)]
def DD (d:aG):Option T:=MU d (T.v (Value.int .i64 (if isName d.1=false then 6 else fW d)))
def AR:List T->Option T:=gS V7 DD
def AJX {a0}:AR [aH true aF a0]=DD (a0):=a8 (s:=V7) rfl (a0) rfl
def A2D:lW Tryz.prog 21 AR DD (bR V7) RX:=eN (a1:=(true,aF)) (Hs:=A6X) (k:=8) AN6 aV aY (aQ rfl) ⟨_,_,Tryz.func21,rfl⟩ rfl λ_ _=>by kernel_rfl
def E8 {d:aG} {m l:List iII} (hc:(m=ids d.2.1/\l=ids d.2.2.1)\/(m=ids d.2.1/\l=ids d.2.2.2.1)\/(m=ids d.2.2.1/\l=ids d.2.2.2.1)\/(m=ids d.2.1/\l=ids d.2.2.2.2.1)\/(m=ids d.2.2.1/\l=ids d.2.2.2.2.1)\/(m=ids d.2.2.2.1/\l=ids d.2.2.2.2.1)) (h:l.any (oR m)=true):LL d=true:=by
 obtain ⟨x,hx,hm⟩:=List.any_eq_true.1 h;simp only[LL,A8E,Bool.or_eq_true,List.any_eq_true];rcases hc with ⟨rfl,rfl⟩|⟨rfl,rfl⟩|⟨rfl,rfl⟩|⟨rfl,rfl⟩|⟨rfl,rfl⟩|⟨rfl,rfl⟩
 ·exact .inl (.inl ⟨x,hx,hm⟩)
 ·exact .inl (.inr ⟨x,hx,.inl hm⟩)
 ·exact .inl (.inr ⟨x,hx,.inr hm⟩)
 ·exact .inr ⟨x,hx,.inl (.inl hm)⟩
 ·exact .inr ⟨x,hx,.inl (.inr hm)⟩
 ·exact .inr ⟨x,hx,.inr hm⟩
def A0H:aT Tryz.prog 21 AR:=A2D λd r h hb=>by
 obtain ⟨hu,rfl⟩:=AAE h;have u:=VN hu;have un:=u.n;have up:=u.p;have us:=u.s;have uk:=u.k;have ur:=u.r;clear h hb;have is0:∀ {n:Int},(if isName d.1=false then 6 else fW d)=n->pPP n=pPP (if isName d.1=false then 6 else fW d):=λh=>by rw[h]
 unfold RX BVT BVN BUV BU4 BU3 BU2 BUZ BUY BUL BUJ BUI BUF BUB BT9;refine aM (s:=D4) (y:=isName d.1) o6 ?_;refine eQ (λh=>is0 (by rw[if_pos h])) λhn=>?_;have is:∀ {n:Int},fW d=n->pPP n=pPP (if isName d.1=false then 6 else fW d):=λh=>is0 (by rw[if_neg (by rw[show isName d.1=true from hn];exact Bool.noConfusion)];exact h);clear is0;have long:fO d=true->fW d=4:=λh=>by unfold fW;rw[if_pos h]
 refine b8 (λh=>is (long (by rw[ae] at h;simp only[fO,Bool.or_eq_true,ah];omega))) λl1=>?_;refine b8 (λh=>is (long (by rw[ae] at h;simp only[fO,Bool.or_eq_true,ah];omega))) λl2=>?_;refine b8 (λh=>is (long (by rw[ae] at h;simp only[fO,Bool.or_eq_true,ah];omega))) λl3=>?_;refine b8 (λh=>is (long (by rw[ae] at h;simp only[fO,Bool.or_eq_true,ah];omega))) λl4=>?_;refine b8 (λh=>is (long (by rw[ae] at h;simp only[fO,Bool.or_eq_true,ah];omega))) λl5=>?_;rw[ae] at l1 l2 l3 l4 l5;have notLong:fO d=false:=by simp only[fO,Bool.or_eq_false_iff,decide_eq_false_iff_not];omega
 have b11:jX d=false->pPP 11=pPP (if isName d.1=false then 6 else fW d):=λh=>is (by unfold fW;rw[notLong,if_neg (by simp),if_pos h]);refine aM (s:=q4) (HR hu) ?_;have il:∀ {α:Type} {l:List (iII×α)},l.length<=1000->(ids l).length<=140737488355328:=λh=>by unfold ids;rw[ae];omega
 refine aM (s:=D4) (y:=oG (ids d.2.1)) ((r7 ..).trans (fH _ (il un))) ?_;refine eQ (λh=>b11 (by unfold jX;rw[h];rfl)) λa1=>?_;refine aM (s:=D4) (y:=oG (ids d.2.2.1)) ((r7 ..).trans (fH _ (il up))) ?_;refine eQ (λh=>b11 (by unfold jX;rw[h];simp)) λa2=>?_;refine aM (s:=D4) (y:=oG (ids d.2.2.2.1)) ((r7 ..).trans (fH _ (il us))) ?_;refine eQ (λh=>b11 (by unfold jX;rw[h];simp)) λa3=>?_;refine aM (s:=D4) (y:=oG (ids d.2.2.2.2.1)) ((r7 ..).trans (fH _ (il uk))) ?_;refine eQ (λh=>b11 (by unfold jX;rw[h];simp)) λa4=>?_;refine bJ d.2.2.2.2.2.length (λk s=>s=(((k+1:Nat):Int),())/\ACO d.2.2.2.2.2=ACO (d.2.2.2.2.2.drop k)) ⟨rfl,by rw[List.drop_zero]⟩ ?_;rintro X k s hk ⟨rfl,he⟩ hX;dsimp only;have hw:i64.wrap (((k+1:Nat):Int)+1)=((k+1+1:Nat):Int):=aZ _ (by omega) (by omega);have hw1:i64.wrap (((k+1:Nat):Int)-1)=((k:Nat):Int):=by rw[aZ _ (by omega) (by omega)];omega
 refine b8 (λhlt=>?_) λhge=>?_
 ·have hlt:k+1<d.2.2.2.2.2.length:=by rw[ae] at hlt;omega
  rw[hw1,bA (r:=a6) (show k<d.2.2.2.2.2.length by omega),bA (r:=a6) hlt,hw];rw[Y3 hlt] at he;refine aM (s:=D4) (y:=ltN d.2.2.2.2.2[k] d.2.2.2.2.2[k+1]) (YI ..) ?_;refine eQ (λh=>b11 ?_) λh=>hX _ (by omega) ⟨rfl,?_⟩
  ·unfold jX;rw[he,h];simp
  ·rw[he,h];rfl
 rw[ae] at hge;rw[AIA (by omega)] at he;clear hX hk hw hw1 hge;have io:¬ jX d=false:=by unfold jX;rw[a1,a2,a3,a4,he];decide
 have b7:LL d=true->pPP 7=pPP (if isName d.1=false then 6 else fW d):=λh=>is (by unfold fW;rw[notLong,if_neg (by simp),if_neg io,if_pos h]);refine wJ (m:=ids d.2.1) (l:=ids d.2.2.1) (il up) (λh=>b7 (E8 (.inl ⟨rfl,rfl⟩) h)) λc1=>?_;refine wJ (m:=ids d.2.1) (l:=ids d.2.2.2.1) (il us) (λh=>b7 (E8 (.inr (.inl ⟨rfl,rfl⟩)) h)) λc2=>?_;refine wJ (m:=ids d.2.2.1) (l:=ids d.2.2.2.1) (il us) (λh=>b7 (E8 (.inr (.inr (.inl ⟨rfl,rfl⟩))) h)) λc3=>?_;refine wJ (m:=ids d.2.1) (l:=ids d.2.2.2.2.1) (il uk) (λh=>b7 (E8 (.inr (.inr (.inr (.inl ⟨rfl,rfl⟩)))) h)) λc4=>?_;refine wJ (m:=ids d.2.2.1) (l:=ids d.2.2.2.2.1) (il uk) (λh=>b7 (E8 (.inr (.inr (.inr (.inr (.inl ⟨rfl,rfl⟩))))) h)) λc5=>?_;refine wJ (m:=ids d.2.2.2.1) (l:=ids d.2.2.2.2.1) (il uk) (λh=>b7 (E8 (.inr (.inr (.inr (.inr (.inr ⟨rfl,rfl⟩))))) h)) λc6=>is ?_;have na:∀ {l:List iII} {p:iII->Bool} {x:iII},l.any p=false->x∈l->p x=false:=λh hx=>by
  rw[Bool.eq_false_iff] at h ⊢;exact λh2=>h (List.any_eq_true.2 ⟨_,hx,h2⟩)
 have nd:¬ LL d=true:=by
  intro h;simp only[LL,A8E,Bool.or_eq_true,List.any_eq_true] at h;rcases h with (⟨x,hx,h⟩|⟨x,hx,h|h⟩)|⟨x,hx,(h|h)|h⟩
  ·rw[na c1 hx] at h;cases h
  ·rw[na c2 hx] at h;cases h
  ·rw[na c3 hx] at h;cases h
  ·rw[na c4 hx] at h;cases h
  ·rw[na c5 hx] at h;cases h
  ·rw[na c6 hx] at h;cases h
 unfold fW;rw[notLong,if_neg (by simp),if_neg io,if_neg nd]
end Go.Pv
end
