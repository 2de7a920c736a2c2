/-
  poly.Where; region: edges, within, apart, Check, Area2.
  region: Check, Area2.
  vec.Valid; material: Check, Grade, Rolled.
  part: Check, Mass.
  Chapter 17: the tree's parts and packages in full.
  Chapter 17: the tree's packages in full.
  Chapter 17: Check where the parts and packages are empty ones; StructureLong, walked.
  Chapter 17: structure.Check in full.
  What an edit does to a design, in plain words.
  The reference's material.Check.
  R17.Has.
  The form of a design, as the reference looks at it.
  The closures of edit.kinds: what they come to.
  edit.Apply, the kinds 5 and 6 (the copied parts are turned in place).
  edit.Apply, kind by kind.
-/
import Derived.Test.YtcnfagefgkblkaaGreatDoorVrz1
import Derived.Sort.Walk0
import Derived.Test.YtcnfagefgkblkaaGreatDoorVrkp
set_option linter.defProp false
set_option linter.unusedSimpArgs false
set_option linter.unusedVariables false
set_option maxRecDepth 100000
namespace Go.Pv
open Go Go.Proofs IntKind
open List (range drop_zero drop_eq_getElem_cons drop_length mem_cons getElem?_eq_getElem length_take all_eq_true not_lt pairwise_cons lt_trans lt_irrefl length_cons mem_append)
noncomputable section
def APY (p:List Pt) (q:Pt):Bool:=(range p.length).any λi=>YY (pt p i) (nx p i) q
def iQ (p:List Pt) (q:Pt):Int:=if ¬ dQ q\/¬ kU p=0 then -1 else if APY p q=true then 0 else if BED p q=true then 1 else -1
def AL {n:Nat} {f:Nat->Bool}:(range n).any f=true↔∃ i,i<n/\f i=true:=by simp[List.any_eq_true,List.mem_range]
def AJI {n:Nat} {f:Nat->Bool} (h:∀ i,i<n->f i=false):(range n).any f=false:=by
 rw[Bool.eq_false_iff];intro ha;obtain ⟨i,hi,h2⟩:=AL.1 ha;rw[h i hi] at h2;cases h2
def A6C {a b q:Pt} (ho:YY a b q=false):hit a b q=(!(decide (q.2<a.2) == decide (q.2<b.2))&&(decide (0<eB a b q) == decide (a.2<b.2))):=by
 rcases Int.lt_or_le q.2 a.2 with h1|h1
 ·rcases Int.lt_or_le q.2 b.2 with h2|h2
  ·unfold hit;simp[show ¬ a.2<=q.2 by omega,show ¬ b.2<=q.2 by omega,h1,h2]
  ·have hz:eB a b q≠0:=λh=>by
    have:=BFY (a:=b) (b:=a) (q:=q) (by rw[OU a b q,h];rfl) (by omega) h2 (by omega);rw[BFX] at this;rw[this] at ho;cases ho
   have h3:decide (0<eB a b q) = !decide (eB a b q<0):=by
    rcases Int.lt_or_le (eB a b q) 0 with h|h
    ·rw[ah h,ai (by omega)];rfl
    ·rw[ai (show ¬ eB a b q<0 by omega),ah (by omega)];rfl
   unfold hit;rw[h3];simp[show ¬ a.2<=q.2 by omega,h1,h2,show ¬ q.2<b.2 by omega,show ¬ a.2<b.2 by omega]
 ·rcases Int.lt_or_le q.2 b.2 with h2|h2
  ·unfold hit;simp[h1,show ¬ q.2<a.2 by omega,h2,show ¬ b.2<=q.2 by omega,show a.2<b.2 by omega]
  ·unfold hit;simp[show ¬ q.2<a.2 by omega,show ¬ q.2<b.2 by omega]
def AYL:Env:=Env.of [(170,.pure gU),(292,.pure DX),(333,.pure yB),(328,.pure gH)]
def A16:FuncId->Hint:=bT 298 [(5,.inv [.val 5 false .bool,.val 19 false (.int .i64)])] (λ_=>aX)
def AHY:aQ Tryz.prog AYL:=.cons DR (.cons AO5 (.cons A4G (.cons AU (.nil _))))
def BRK:Sh:=[(false,Sy.int IntKind.i64)]
def BRM:Sh:=[(false,Sy.bool)]
def BRN:T:=pPP 0
def BRT:T:=pPP (-1)
def BRX:T:=pPP 1
def BSM(a0:List aO):List (List T):=List.map aA.enc a0
def NQ(a0:List aO)(a1:aO)(R:T->Prop):Prop:=aI BRM (DX [aF true aA a1]) λ(y0:Bool)=>aD y0 (R BRT) (aI BRK (gU [T.sl false (BSM a0)]) λ(y1:Int)=>aD (!decide (y1=0)) (R BRT) (a7 (Bool×Int×PUnit) (λX2 s3=>aD (decide (s3.2.1<(↑(BSM a0).length:Int))) (aP aA (BSM a0) s3.2.1 λ(y4:aO)=>bH (!decide ((↑(BSM a0).length:Int)=0)) (aP aA (BSM a0) ((i64.wrap (s3.2.1+1)).tmod (↑(BSM a0).length:Int)) λ(y5:aO)=>aI BRM (yB [aF true aA y4,aF true aA y5, aF true aA a1]) λ(y6:Bool)=>aD y6 (R BRN) (aD (decide (decide (a1.2<y4.2)=decide (a1.2<y5.2))) (X2 (s3.1,i64.wrap (s3.2.1+1),())) (aI BRK (gH [aF true aA y4,aF true aA y5, aF true aA a1]) λ(y7:Int)=>aD (decide (decide (0<y7)=decide (y4.2<y5.2))) (X2 (!s3.1,i64.wrap (s3.2.1+1),())) (X2 (s3.1,i64.wrap (s3.2.1+1),())))))) (aD s3.1 (R BRX) (R BRT))) (false,0,())))
abbrev RC:Sh:=[(false,aA.li),(true,aA)]
def BV (x:List aO×aO):Option T:=some (T.v (Value.int .i64 (iQ x.1 x.2)))
def mY:List T->Option T:=gS RC BV
def AEI {a0 a1}:mY [T.sl false (List.map aA.enc a0),aF true aA a1]=BV (a0,a1):=bA (s:=RC) rfl (a0,a1) rfl
def AWK:qN Tryz.prog 298 mY BV (bY RC) NQ:=gL (a1:=(false,aA.li)) (a2:=(true,aA)) (Hs:=A16) (k:=8) AHY aR aU (aL rfl) ⟨_,_,Tryz.func298,rfl⟩ rfl λ_ _ _=>by kernel_rfl
def xO (p q:List Pt):Bool:=(range p.length).any λi=>(range q.length).any λk=>nC (pt p i) (nx p i) (pt q k) (nx q k)
def mM (a0:List aO) (a1:List aO):List T:=[T.sl false (List.map aA.enc a0),T.sl false (List.map aA.enc a1),T.fn 296 [] []]
def M4:Env:=Env.of [(296,.pure yF)]
def ABR:FuncId->Hint:=bT 295 [(2,.inv [.val 13 false (.int .i64)]),(5,.inv [.val 20 false (.int .i64)])] (λ_=>aX)
def AH4:aQ Tryz.prog M4:=.cons AUI (.nil _)
def BRI:T:=pPR false
def BRO:T:=pPR true
def BR4(X3:Int×PUnit->Prop)(s4:Int×PUnit):Prop:=X3 (i64.wrap (s4.1+1),())
def NW(a0:List aO)(a1:List aO)(R:T->Prop):Prop:=a7 (Int×PUnit) (λX0 s1=>aD (decide (s1.1<(↑(BSM a0).length:Int))) (aP aA (BSM a0) s1.1 λ(y2:aO)=>a7 (Int×PUnit) (λX3 s4=>aD (decide (s4.1<(↑(BSM a1).length:Int))) (aP aA (BSM a1) s4.1 λ(y5:aO)=>bH (!decide ((↑(BSM a0).length:Int)=0)) (aP aA (BSM a0) ((i64.wrap (s1.1+1)).tmod (↑(BSM a0).length:Int)) λ(y6:aO)=>bH (!decide ((↑(BSM a1).length:Int)=0)) (aP aA (BSM a1) ((i64.wrap (s4.1+1)).tmod (↑(BSM a1).length:Int)) λ(y7:aO)=>aI BRM (yF [aF true aA y2,aF true aA y6, aF true aA y5,aF true aA y7]) λ(y8:Bool)=>aD y8 (R BRO) (BR4 X3 s4)))) (BR4 X0 s1)) (0,())) (R BRI)) (0,())
def ABI ( a0 a1 R):dV bS Tryz.prog M4 ABR 8 295 (mM a0 a1) R=NW a0 a1 R:=by kernel_rfl
variable {α:Type}
def QO (p q:List Pt) (r:α):Option α:=match S3 p&&S3 q with
 | true=>some r
 | false=>none
def QP {p q:List Pt} {t r:α} (h:QO p q t=some r):p.length<=1000/\kQ p/\q.length<=1000/\kQ q/\r=t:=by
 unfold QO at h;split at h
 ·rename_i hc;simp only[S3,ac,ae,nY] at hc;cases h;exact ⟨hc.1.1,hc.1.2,hc.2.1,hc.2.2,rfl⟩
 ·cases h
def QQ {p q:List Pt} (t:α) (h:p.length<=1000) (h2:kQ p) (h3:q.length<=1000) (h4:kQ q):QO p q t=some t:=by
 unfold QO;rw[show (S3 p&&S3 q)=true by simp only[S3,ac,ae,nY];exact ⟨⟨h,h2⟩,h3,h4⟩]
def J6 (x:List aO×List aO):Option T:=QO x.1 x.2 (pPR (xO x.1 x.2))
def VY (x y:List aO×List aO) (h:mM x.1 x.2=mM y.1 y.2):x=y:=by
 unfold mM at h;obtain ⟨h1,h2⟩:=List.cons.inj h;have h2:=(List.cons.inj h2).1;exact Prod.ext (map_inj (Sy.c0 aA) (T.sl.inj h1).2) (map_inj (Sy.c0 aA) (T.sl.inj h2).2)
def oN:List T->Option (T):=gA (λ(x:List aO×List aO)=>mM x.1 x.2) J6
def AEQ (a0:List aO) (a1:List aO):oN (mM a0 a1)=J6 (a0,a1):=eR (A:=(λ(x:List aO×List aO)=>mM x.1 x.2)) VY (a0,a1)
def AWQ (h:∀ (a0:List aO) (a1:List aO) (r:T),J6 (a0,a1)=some r->(∀ t∈mM a0 a1,Bd t)->NW a0 a1 (λy=>y=r)):aM Tryz.prog 295 oN :=
 cG (E:=M4) (Hs:=ABR) AH4 aR aU (aL rfl) 8 ⟨_,_,Tryz.func295,rfl⟩ λx r h1 h2=>by
  rw[ABI];exact h x.1 x.2 r h1 h2
def T6:aM Tryz.prog 295 oN:=AWQ λp q r h hb=>by
 obtain ⟨hl,hn,hl2,hn2,rfl⟩:=QP h;replace hl:p.length<=1000:=hl;replace hl2:q.length<=1000:=hl2;clear h;unfold NW BSM BR4 BRO BRM BRI;refine bI p.length (λk s=>s=((k:Int),())/\∀ i,i<k->i<p.length->((range q.length).any λk=>nC (pt p i) (nx p i) (pt q k) (nx q k))=false) ⟨rfl,λi h=>by omega⟩ ?_;rintro X k s hk ⟨rfl,hJ⟩ hX;dsimp only;refine bV (λhlt=>?_) λhge=>jE (Eq.symm (AJI λi hi=>hJ i (by rw[ad] at hge;omega) hi));rw[ad] at hlt;have hlt:k<p.length:=by omega
 have hne:(!decide (((List.map aA.enc p).length:Int)=0))=true:=by rw[ad,ai (by omega)];rfl
 have hm1:(k+1) % p.length<p.length:=Nat.mod_lt _ (by omega);have i1:(i64.wrap ((k:Int)+1)).tmod ((List.map aA.enc p).length:Int)=(((k+1) % p.length:Nat):Int):=by rw[ad];exact wA (c:=1) hl (by omega) (by omega)
 rw[fR hlt];refine bI q.length (λj s=>s=((j:Int),())/\∀ i,i<j->i<q.length->nC (pt p k) (nx p k) (pt q i) (nx q i)=false) ⟨rfl,λi h=>by omega⟩ ?_;rintro Y j s hj ⟨rfl,hI⟩ hY;dsimp only;refine bV (λhlj=>?_) λhgj=>hX _ hlt ⟨by rw[show i64.wrap ((k:Int)+1)=((k+1:Nat):Int) from bD _ (by omega) (by omega)],λi h1 h2=>by
  rcases Nat.lt_or_ge i k with h3|h3
  ·exact hJ i h3 h2
  ·have:i=k:=by omega
   subst this;exact AJI λm hm=>hI m (by rw[ad] at hgj;omega) hm⟩
 rw[ad] at hlj;have hlj:j<q.length:=by omega
 have hne2:(!decide (((List.map aA.enc q).length:Int)=0))=true:=by rw[ad,ai (by omega)];rfl
 have hm2:(j+1) % q.length<q.length:=Nat.mod_lt _ (by omega);have i2:(i64.wrap ((j:Int)+1)).tmod ((List.map aA.enc q).length:Int)=(((j+1) % q.length:Nat):Int):=by rw[ad];exact wA (c:=1) hl2 (by omega) (by omega)
 rw[fR hlj,i1];refine ⟨hne,?_⟩;rw[fR hm1,i2];refine ⟨hne2,?_⟩;rw[fR hm2];refine aH (s:=[(false,.bool)]) ((AEW ..).trans (AFO _ (hn.pt _) (hn.pt _) (hn2.pt _) (hn2.pt _))) ?_;refine IU (λh=>jE (Eq.symm (AL.2 ⟨k,hlt,AL.2 ⟨j,hlj,h⟩⟩))) λh=>hY _ hlj ⟨by rw[show i64.wrap ((j:Int)+1)=((j+1:Nat):Int) from bD _ (by omega) (by omega)],λi h1 h2=>by
  rcases Nat.lt_or_ge i j with h3|h3
  ·exact hI i h3 h2
  ·have:i=j:=by omega
   subst this;exact h⟩
def KT {p q:List Pt} (h:p.length<=1000) (h2:kQ p) (h3:q.length<=1000) (h4:kQ q):oN (mM p q)=some (Sh.enc [(false,.bool)] (xO p q)):=(AEQ ..).trans (QQ _ h h2 h3 h4)
def T4:aM Tryz.prog 298 mY:=AWK λp q r h hb=>by
 cases h;have is:∀ {n:Int},iQ p q=n->pPP n=pPP (iQ p q):=λh=>by rw[h]
 unfold NQ BSM BRX BRT BRN BRM BRK;refine aH (s:=[(false,.bool)]) (y:=!decide (dQ q)) (UI ..) ?_;refine lA (λh=>is (by unfold iQ;rw[if_pos (.inl h)])) λhq=>?_;refine aH (s:=[(false,.int .i64)]) (pN p) ?_;refine lA (λh=>is (by unfold iQ;rw[if_pos (.inr h)])) λhp=>?_;obtain ⟨hl3,hl32,hn,_⟩:=uV hp;have w:iQ p q=if APY p q=true then 0 else if BED p q=true then 1 else -1:=by
  unfold iQ;rw[if_neg];rintro (h|h)
  ·exact h hq
  ·exact h hp
 refine bI p.length (λk s=>s=(A97 k (λi=>hit (pt p i) (nx p i) q),(k:Int),())/\∀ i,i<k->i<p.length->YY (pt p i) (nx p i) q=false) ⟨rfl,λi h=>by omega⟩ ?_;rintro X k s hk ⟨rfl,hJ⟩ hX;dsimp only;refine bV (λhlt=>?_) λhge=>?_
 ·rw[ad] at hlt;have hlt:k<p.length:=by omega
  have hne:(!decide (((List.map aA.enc p).length:Int)=0))=true:=by rw[ad,ai (by omega)];rfl
  have hm1:(k+1) % p.length<p.length:=Nat.mod_lt _ (by omega);have i1:(i64.wrap ((k:Int)+1)).tmod ((List.map aA.enc p).length:Int)=(((k+1) % p.length:Nat):Int):=by rw[ad];exact wA (c:=1) (by omega) (by omega) (by omega)
  rw[fR hlt,i1];refine ⟨hne,?_⟩;rw[fR hm1];refine aH (s:=[(false,.bool)]) (yC (hn.pt _) (hn.pt _) hq) ?_;refine IU (λh=>is (by rw[w,if_pos (show APY p q=true from AL.2 ⟨k,hlt,h⟩)])) λho=>?_;have ho:YY (pt p k) (nx p k) q=false:=ho;have hw:i64.wrap ((k:Int)+1)=((k+1:Nat):Int):=bD _ (by omega) (by omega);have hh:=A6C ho;have hJ':∀ i,i<k+1->i<p.length->YY (pt p i) (nx p i) q=false:=λi h1 h2=>by
   rcases Nat.lt_or_ge i k with h3|h3
   ·exact hJ i h3 h2
   ·have:i=k:=by omega
    subst this;exact ho
  have step:∀ c,hit (pt p k) (nx p k) q=c->X ((A97 k (λi=>hit (pt p i) (nx p i) q) ^^ c),i64.wrap ((k:Int)+1),()):=λc hc=>hX _ hlt ⟨by rw[hw,A97,hc],hJ'⟩;refine bV (λh=>?_) λh=>?_
  ·have e:hit (pt p k) (nx p k) q=false:=by
    rw[hh,show decide (q.2<(pt p k).2)=decide (q.2<(nx p k).2) from h];simp
   have:=step false e;rwa[Bool.xor_false] at this
  ·refine aH (s:=[(false,.int .i64)]) (j7 (hn.pt _) (hn.pt _) hq) ?_;have e0:hit (pt p k) (nx p k) q=(decide (0<eB (pt p k) (nx p k) q) == decide ((pt p k).2<(nx p k).2)):=by
    rw[hh,show (decide (q.2<(pt p k).2) == decide (q.2<(nx p k).2))=false from beq_eq_false_iff_ne.2 h];rfl
   refine bV (λh2=>?_) λh2=>?_
   ·have:=step true (by rw[e0];exact beq_iff_eq.2 h2);rwa[Bool.xor_true] at this
   ·have:=step false (by rw[e0];exact beq_eq_false_iff_ne.2 h2);rwa[Bool.xor_false] at this
 ·rw[ad] at hge;have:k=p.length:=by omega
  subst this;have hna:APY p q=false:=AJI λi hi=>hJ i hi hi;refine IU (λh=>is ?_) λh=>is ?_
  ·rw[w,hna,if_neg (by simp),if_pos (show BED p q=true from h)]
  ·rw[w,hna,if_neg (by simp),if_neg (by rw[show BED p q=false from h];simp)]
def yD (p:List Pt) (q:Pt):mY [T.sl false (List.map aA.enc p),aF true aA q]=some (Sh.enc [(false,.int .i64)] (iQ p q)):=AEI ..
def sU (p o:List Pt):Bool:=!xO p o&&p.all λc=>decide (iQ o c=1)
def vF (p q:List Pt):Bool:=!xO p q&&(decide (iQ p (pt q 0)<0)&&decide (iQ q (pt p 0)<0))
def ARK:Env:=Env.of [(298,.pure mY),(295,.pure oN)]
def ASS:FuncId->Hint:=bT 327 [(2,.inv [.val 8 false (.int .i64)])] (λ_=>aX)
def AA9:aQ Tryz.prog ARK:=.cons T4 (.cons T6 (.nil _))
def HR(a0:List aO)(a1:List aO)(R:T->Prop):Prop:=aI BRM (oN [T.sl false (BSM a0),T.sl false (BSM a1), T.fn 296 [] []]) λ(y0:Bool)=>aD (!y0) (a7 (Int×PUnit) (λX1 s2=>aD (decide (s2.1<(↑(BSM a0).length:Int))) (aP aA (BSM a0) s2.1 λ(y3:aO)=>aI BRK (mY [T.sl false (BSM a1),aF true aA y3]) λ(y4:Int)=>aD (!decide (y4=1)) (R (pPR (!decide (0<=s2.1)))) (BR4 X1 s2)) (R BRO)) (0,())) (R BRI)
abbrev JN:Sh:=[(false,aA.li),(false,aA.li)]
def wP (x:List aO×List aO):Option T:=QO x.1 x.2 (pPR (sU x.1 x.2))
def qC:List T->Option T:=gS JN wP
def YD {a0 a1}:qC [T.sl false (List.map aA.enc a0),T.sl false (List.map aA.enc a1)]=wP (a0,a1):=bA (s:=JN) rfl (a0,a1) rfl
def AMD:qN Tryz.prog 172 qC wP (bY JN) HR:=gL (a1:=(false,aA.li)) (a2:=(false,aA.li)) (Hs:=ASS) (k:=8) AA9 aR aU (aL rfl) ⟨_,_,Tryz.func172,rfl⟩ rfl λ_ _ _=>by kernel_rfl
def AKK:aM Tryz.prog 172 qC:=AMD λp o r h hb=>by
 obtain ⟨hl,hn,hl2,hn2,rfl⟩:=QP h;replace hl:p.length<=1000:=hl;clear h;unfold HR BSM BR4 BRO BRM BRK BRI;refine aH (s:=[(false,.bool)]) (KT hl hn hl2 hn2) ?_;refine jI (λhe=>?_) λhe=>jE (by unfold sU;rw[show xO p o=true from he];rfl);have w:sU p o=p.all λc=>decide (iQ o c=1):=by unfold sU;rw[show xO p o=false from he];rfl
 refine bI p.length (λk s=>s=((k:Int),())/\p.all (λc=>decide (iQ o c=1))=(p.drop k).all λc=>decide (iQ o c=1)) ⟨rfl,by rw[drop_zero]⟩ ?_;rintro X k s hk ⟨rfl,hJ⟩ hX;dsimp only;refine bV (λhlt=>?_) λhge=>jE ?_
 ·rw[ad] at hlt;have hlt:k<p.length:=by omega
  rw[drop_eq_getElem_cons hlt,List.all_cons] at hJ;rw[bC (r:=aA) hlt];refine aH (s:=[(false,.int .i64)]) (yD o p[k]) ?_;refine lA (λh=>jE ?_) λh=>hX _ hlt ⟨by rw[show i64.wrap ((k:Int)+1)=((k+1:Nat):Int) from bD _ (by omega) (by omega)],by rw[hJ,ah (show iQ o p[k]=1 from h),Bool.true_and]⟩;rw[w,hJ,ai (show ¬ iQ o p[k]=1 from h),ah (show 0<=(k:Int) by omega)];rfl
 ·rw[ad] at hge;have:k=p.length:=by omega
  subst this;rw[w,hJ,drop_length];rfl
def YE {p q:List Pt} (h:p.length<=1000) (h2:kQ p) (h3:q.length<=1000) (h4:kQ q):qC [T.sl false (List.map aA.enc p),T.sl false (List.map aA.enc q)]=some (Sh.enc [(false,.bool)] (sU p q)):=(YD ..).trans (QQ _ h h2 h3 h4)
def AMI (p q:List Pt) (t:T):Option T:=match p,q with
 | _::_,_::_=>QO p q t
 | _,_=>none
def AYM:Env:=Env.of [(298,.pure mY),(295,.pure oN)]
def A17:FuncId->Hint:=λ_=>aX
def AHZ:aQ Tryz.prog AYM:=.cons T4 (.cons T6 (.nil _))
def NR(a0:List aO)(a1:List aO)(R:T->Prop):Prop:=aI BRM (oN [T.sl false (BSM a0),T.sl false (BSM a1), T.fn 296 [] []]) λ(y0:Bool)=>aD (!y0) (aP aA (BSM a1) 0 λ(y1:aO)=>aI BRK (mY [T.sl false (BSM a0),aF true aA y1]) λ(y2:Int)=>aD (decide (y2<0)) (aP aA (BSM a0) 0 λ(y3:aO)=>aI BRK (mY [T.sl false (BSM a1),aF true aA y3]) λ(y4:Int)=>R (pPR (decide (y4<0)))) (R BRI)) (R BRI)
abbrev RD:Sh:=[(false,aA.li),(false,aA.li)]
def qG (x:List aO×List aO):Option T:=AMI x.1 x.2 (pPR (vF x.1 x.2))
def uM:List T->Option T:=gS RD qG
def AEJ {a0 a1}:uM [T.sl false (List.map aA.enc a0),T.sl false (List.map aA.enc a1)]=qG (a0,a1):=bA (s:=RD) rfl (a0,a1) rfl
def AWL:qN Tryz.prog 173 uM qG (bY RD) NR:=gL (a1:=(false,aA.li)) (a2:=(false,aA.li)) (Hs:=A17) (k:=8) AHZ aR aU (aL rfl) ⟨_,_,Tryz.func173,rfl⟩ rfl λ_ _ _=>by kernel_rfl
def AUE:aM Tryz.prog 173 uM:=AWL λp q r h hb=>by
 unfold qG AMI at h;split at h
 ·rename_i e1 e2;obtain ⟨hl,hn,hl2,hn2,rfl⟩:=QP h;have k1:0<p.length:=by rw[show p=_ from e1];simp
  have k2:0<q.length:=by rw[show q=_ from e2];simp
  clear h;unfold NR BSM BRM BRK BRI;refine aH (s:=[(false,.bool)]) (KT hl hn hl2 hn2) ?_;refine jI (λhe=>?_) λhe=>jE (by unfold vF;rw[show xO p q=true from he];rfl);have w:vF p q=(decide (iQ p (pt q 0)<0)&&decide (iQ q (pt p 0)<0)):=by unfold vF;rw[show xO p q=false from he];rfl
  rw[show (0:Int)=((0:Nat):Int) from rfl,fR k2];refine aH (s:=[(false,.int .i64)]) (yD p (pt q 0)) ?_;refine bV (λh=>?_) λh=>jE (by rw[w,ai (show ¬ iQ p (pt q 0)<0 from h)];rfl);rw[fR k1];refine aH (s:=[(false,.int .i64)]) (yD q (pt p 0)) ?_;exact jE (by rw[w,ah (show iQ p (pt q 0)<0 from h)];rfl)
 ·cases h
def AEK {p q:List Pt} (k1:0<p.length) (k2:0<q.length) (h:p.length<=1000) (h2:kQ p) (h3:q.length<=1000) (h4:kQ q):uM [T.sl false (List.map aA.enc p),T.sl false (List.map aA.enc q)]=some (Sh.enc [(false,.bool)] (vF p q)):=by
 refine (AEJ ..).trans ?_;unfold qG AMI;cases p with
 | nil=>simp at k1
 | cons a p=>cases q with
  | nil=>simp at k2
  | cons b q=>exact QQ _ h h2 h3 h4
def r7 {r:Sy} {l:List r.den} (f:Nat->Int) (hl:l.length<=1000000) {Body:(Int×PUnit->Prop)->Int×PUnit->r.den->Prop} {Exit:Prop}
  (hbody:∀ (X:Int×PUnit->Prop) (k:Nat) (hk:k<l.length),(∀ j,j<k->f j=0)->(f k=0->X (((k+1:Nat):Int),()))->(f k≠0->cF f (range l.length)=f k)->Body X ((k:Int),()) l[k]) (hexit:cF f (range l.length)=0->Exit) :
  a7 (Int×PUnit) (λ(X:Int×PUnit->Prop) (s:Int×PUnit)=>aD (decide (s.1<((List.map r.enc l).length:Int))) (aP r (List.map r.enc l) s.1 λy=>Body X s y) Exit) (0,()):=by
 refine bI l.length (λk s=>s=((k:Int),())/\cF f (range l.length)=cF f (List.range' k (l.length-k))/\∀ j,j<k->f j=0) ⟨rfl,by rw[List.range_eq_range'];rfl,λj h=>by omega⟩ ?_;rintro X k s hk ⟨rfl,he,hp⟩ hX;dsimp only;refine bV (λhlt=>?_) λhge=>?_
 ·rw[ad] at hlt;have hlt:k<l.length:=by omega
  rw[bC hlt];obtain ⟨m,hm⟩:∃ m,l.length-k=m+1:=⟨l.length-k-1,by omega⟩
  rw[hm,List.range'_succ,cF] at he;refine hbody X k hlt hp (λh0=>?_) λh0=>by rw[he,if_neg h0]
  rw[if_pos h0] at he;exact hX _ hlt ⟨rfl,by rw[he];congr 2;omega,λj hj=>by
   rcases Nat.lt_or_ge j k with h|h
   ·exact hp j h
   ·have:j=k:=by omega
    subst this;exact h0⟩
 ·rw[ad] at hge;have:l.length-k=0:=by omega
  rw[this] at he;exact hexit he
def KZ (s:jP) (i:Nat):Int:=if ¬ kU (s.2.getD i [])=0 then kU (s.2.getD i []) else if 0<=rX (s.2.getD i [])\/sU (s.2.getD i []) s.1=false then 17 else if ((range i).all λk=>vF (s.2.getD i []) (s.2.getD k []))=false then 17 else 0
def zW (s:jP):Int:=if 8<s.2.length then 12 else if ¬ kU s.1=0 then kU s.1 else if rX s.1<=0 then 17 else cF (KZ s) (range s.2.length)
def j4 {α:Type} {f:α->Int}:∀ {l:List α},cF f l=0->∀ a∈l,f a=0
 | a::l,h,b,hb=>by
  unfold cF at h;by_cases ha:f a=0
  ·rw[if_pos ha] at h;rcases mem_cons.1 hb with rfl|hb
   ·exact ha
   ·exact j4 h b hb
  ·rw[if_neg ha] at h;exact absurd h ha
 | [],_,b,hb=>by cases hb
def AWY (l:List (List aO)):I6 1 (List.map aA.li.enc l)=true:=by cases l<;>rfl
def AYO:Env:=Env.of [(170,.pure gU),(171,.pure mW),(172,.pure qC),(173,.pure uM)]
def A19:FuncId->Hint:=bT 141 [(9,.inv [.val 26 false (.int .i64)]),(17,.inv [.val 51 false (.int .i64)])] (λ_=>aX)
def AH1:aQ Tryz.prog AYO:=.cons DR (.cons T3 (.cons AKK (.cons AUE (.nil _))))
def BRY:T:=pPP 17
def BSY(y0:Int):T:=pPP y0
def BSX(a0:jP):List (List T):=List.map aA.li.enc a0.2
def BTN(a0:jP):List T:=[T.sl false (List.map aA.enc a0.1)]
def NT(a0:jP)(R:T->Prop):Prop:=aD (decide (8<(↑(BSX a0).length:Int))) (R (pPP 12)) (aI BRK (gU (BTN a0)) λ(y0:Int)=>aD (!decide (y0=0)) (R (BSY y0)) (aI BRK (mW (BTN a0)) λ(y1:Int)=>aD (decide (y1<=0)) (R BRY) (a7 (Int×PUnit) (λX2 s3=>aD (decide (s3.1<(↑(BSX a0).length:Int))) (aP aA.li (BSX a0) s3.1 λ(y4:List aO)=>aI BRK (gU [T.sl false (BSM y4)]) λ(y5:Int)=>aD (!decide (y5=0)) (R (BSY y5)) (aI BRK (mW [T.sl false (BSM y4)]) λ(y6:Int)=>aD (decide (0<=y6)) (R BRY) (aI BRM (qC [T.sl false (BSM y4), T.sl false (List.map aA.enc a0.1)]) λ(y7:Bool)=>aD (!y7) (R BRY) (bH (I6 1 (BSX a0) && (decide (0<=s3.1) && decide (Int.toNat s3.1<=(BSX a0).length)) && true) (a7 (Int×PUnit) (λX8 s9=>aD (decide (s9.1 < (↑(List.drop 0 (List.take (Int.toNat s3.1) (BSX a0))).length : Int))) (aP aA.li (List.drop 0 (List.take (Int.toNat s3.1) (BSX a0))) s9.1 λ(y10:List aO)=>aI BRM (uM [T.sl false (BSM y4), T.sl false (BSM y10)]) λ(y11:Bool)=>aD (!y11) (R BRY) (BR4 X8 s9)) (BR4 X2 s3)) (0,())))))) (R BRN)) (0,()))))
abbrev RF:Sh:=[(true,eW)]
def BX (s:jP):Option T:=some (T.v (Value.int .i64 (zW s)))
def jH:List T->Option T:=gS RF BX
def AEN {a0}:jH [aF true eW a0]=BX (a0):=bA (s:=RF) rfl (a0) rfl
def AWN:qM Tryz.prog 141 jH BX (bY RF) NT:=gK (a1:=(true,eW)) (Hs:=A19) (k:=8) AH1 aR aU (aL rfl) ⟨_,_,Tryz.func141,rfl⟩ rfl λ_ _=>by kernel_rfl
def T5:aM Tryz.prog 141 jH:=AWN λs r h hb=>by
 cases h;have is:∀ {n:Int},zW s=n->pPP n=pPP (zW s):=λh=>by rw[h]
 unfold NT BTN BSX BSM BR4 BSY BRY BRN BRM BRK;refine bV (λh=>is (by rw[ad] at h;unfold zW;rw[if_pos (by omega)])) λh1=>?_;rw[ad] at h1;refine aH (s:=[(false,.int .i64)]) (pN s.1) ?_;refine lA (λh=>is (by unfold zW;rw[if_neg (by omega),if_pos h])) λh2=>?_;refine aH (s:=[(false,.int .i64)]) (yA s.1) ?_;refine bV (λh=>is (by unfold zW;rw[if_neg (by omega),if_neg (by simpa using h2),if_pos h])) λh3=>?_;have w:zW s=cF (KZ s) (range s.2.length):=by unfold zW;rw[if_neg (by omega),if_neg (by simpa using h2),if_neg h3]
 obtain ⟨ho3,ho32,hoN,_⟩:=uV h2;refine r7 (r:=aA.li) (KZ s) (by show s.2.length<=1000000;omega) (λX k hk hprev hok hbad=>?_) λh0=>is (w.trans h0);have hk:k<s.2.length:=hk;have hg:s.2.getD k []=s.2[k]:=by rw[List.getD_eq_getElem?_getD,getElem?_eq_getElem hk];rfl
 have bad:∀ {n:Int},n≠0->KZ s k=n->pPP n=pPP (zW s):=λhn h=>is (w.trans ((hbad (by rw[h];exact hn)).trans h));have hE:KZ s k=if ¬ kU s.2[k]=0 then kU s.2[k] else if 0<=rX s.2[k]\/sU s.2[k] s.1=false then 17 else if ((range k).all λj=>vF s.2[k] (s.2.getD j []))=false then 17 else 0:=by unfold KZ;rw[hg]
 show aI [(false,Sy.int IntKind.i64)] (gU [T.sl false (List.map aA.enc s.2[k])]) _;refine aH (s:=[(false,.int .i64)]) (pN s.2[k]) ?_;refine lA (λh=>bad h (by rw[hE,if_pos h])) λp1=>?_;refine aH (s:=[(false,.int .i64)]) (yA s.2[k]) ?_;refine bV (λh=>bad (by decide) (by rw[hE,if_neg (by simpa using p1),if_pos (.inl h)])) λp2=>?_;obtain ⟨hp3,hp32,hpN,_⟩:=uV p1;refine aH (s:=[(false,.bool)]) (YE (by omega) hpN (by omega) hoN) ?_;refine jI (λh=>bad (by decide) (by rw[hE,if_neg (by simpa using p1),if_pos (.inr h)])) λp3=>?_;have hE2:KZ s k=if ((range k).all λj=>vF s.2[k] (s.2.getD j []))=false then 17 else 0:=by
  rw[hE,if_neg (by simpa using p1),if_neg];rintro (h|h)
  ·exact p2 h
  ·rw[show sU s.2[k] s.1=true from p3] at h;cases h
 refine ⟨by rw[AWY,ad];simp;omega,?_⟩;have htk:List.drop 0 (List.take (Int.toNat (k:Int)) (List.map aA.li.enc s.2))=List.map aA.li.enc (s.2.take k):=by rw[drop_zero,Int.toNat_natCast,List.map_take]
 dsimp only;rw[htk];have ht:(s.2.take k).length=k:=by rw[length_take];omega
 refine bI k (λj s'=>s'=((j:Int),())/\∀ i,i<j->vF s.2[k] (s.2.getD i [])=true) ⟨rfl,λi h=>by omega⟩ ?_;rintro Y j s' hj ⟨rfl,hJ⟩ hY;dsimp only;refine bV (λhlt=>?_) λhge=>?_
 ·rw[ad,ht] at hlt;have hlt:j<k:=by omega
  rw[bC (r:=aA.li) (show j<(s.2.take k).length by omega)];have hgj:s.2.getD j []=s.2[j]:=by rw[List.getD_eq_getElem?_getD,getElem?_eq_getElem (by omega)];rfl
  have hgt:(s.2.take k)[j]'(by omega)=s.2[j]:=by simp
  rw[hgt];have hj0:kU s.2[j]=0:=by
   have h0:=hprev j hlt;unfold KZ at h0;rw[hgj] at h0;refine Classical.byContradiction λhc=>?_;rw[if_pos hc] at h0;exact hc h0
  obtain ⟨hq3,hq32,hqN,_⟩:=uV hj0;refine aH (s:=[(false,.bool)]) (AEK (by omega) (by omega) (by omega) hpN (by omega) hqN) ?_;refine jI (λh=>bad (by decide) ?_) λh=>hY _ hlt ⟨by rw[show i64.wrap ((j:Int)+1)=((j+1:Nat):Int) from bD _ (by omega) (by omega)],λi hi=>by
   rcases Nat.lt_or_ge i j with h3|h3
   ·exact hJ i h3
   ·have:i=j:=by omega
    subst this;rw[hgj];exact h⟩
  rw[hE2,if_pos (W4 hlt (by rw[hgj];exact h))]
 ·rw[ad,ht] at hge;have:j=k:=by omega
  subst this;rw[show i64.wrap ((j:Int)+1)=((j+1:Nat):Int) from bD _ (by omega) (by omega)];refine hok ?_;rw[hE2,if_neg];rw[pY.2 hJ];simp
def KS (s:jP):jH [aF true eW s]=some (Sh.enc [(false,.int .i64)] (zW s)):=AEN ..
def AYP:Env:=Env.of []
def A2A:FuncId->Hint:=λ_=>aX
def AH2:aQ Tryz.prog AYP:=.nil _
def NU(a0:jP)(R:T->Prop):Prop:=aD (BSX a0).isEmpty (R (T.sl false [(BTN a0)])) (bH (eP 1 (BSX a0) && decide ((1+(BSX a0).length)*24<=140737488355328) && decide (1+(BSX a0).length<=140737488355328)) (R (T.sl false ((BTN a0) :: (BSX a0)))))
abbrev RG:Sh:=[(true,eW)]
abbrev A8L:Sh:=[(false,aA.li.li)]
def qH (s:jP):Option T:=match decide (s.2.length<=1000) with
 | true=>some (Sh.enc A8L (s.1::s.2))
 | false=>none
def yE:List T->Option T:=gS RG qH
def AEO {a0}:yE [aF true eW a0]=qH (a0):=bA (s:=RG) rfl (a0) rfl
def AWO:qM Tryz.prog 180 yE qH (bY RG) NU:=gK (a1:=(true,eW)) (Hs:=A2A) (k:=8) AH2 aR aU (aL rfl) ⟨_,_,Tryz.func180,rfl⟩ rfl λ_ _=>by kernel_rfl
def AUG:aM Tryz.prog 180 yE:=AWO λs r h hb=>by
 unfold qH at h;split at h
 ·rename_i hc;have hc:s.2.length<=1000:=of_decide_eq_true hc;cases h;obtain ⟨o,hs⟩:=s;unfold NU BTN BSX;cases hs with
  | nil=>exact (rfl:T.sl false [[T.sl false (List.map aA.enc o)]]=_)
  | cons a l =>
   show bH _ _;refine ⟨?_,rfl⟩;simp only[ac,ae,ad];have hc:(a::l).length<=1000:=hc;exact ⟨⟨tQ (.li aA) (a::l),by omega⟩,by omega⟩
 ·cases h
def BP6 (l:List (List Pt)):Int:=CG l.length λi=>rX (l.getD i [])
def AGC (s:jP):Int:=if zW s=0 then BP6 (s.1::s.2) else 0
def AB3 (p:List Pt):-68719476736<=rX p/\rX p<=68719476736:=by
 unfold rX;by_cases h:kU p=0
 ·rw[if_pos h];obtain ⟨_,h2,h3,_⟩:=uV h;have:=LW h3 p.length;unfold OH;omega
 ·rw[if_neg h];omega
def AQM (l:List (List Pt)):∀ n:Nat,-(68719476736*(n:Int))<=CG n (λi=>rX (l.getD i []))/\CG n (λi=>rX (l.getD i []))<=68719476736*(n:Int)
 | 0=>by simp[CG]
 | n+1=>by
  have ih:=AQM l n;have hb:=AB3 (l.getD n []);unfold CG;constructor<;>push_cast<;>omega
def AYN:Env:=Env.of [(141,.pure jH),(180,.pure yE),(171,.pure mW)]
def A18:FuncId->Hint:=bT 146 [(5,.inv [.val 3 false (.int .i64),.val 12 false (.int .i64)])] (λ_=>aX)
def AH0:aQ Tryz.prog AYN:=.cons T5 (.cons AUG (.cons T3 (.nil _)))
def NS(a0:jP)(R:T->Prop):Prop:=aI BRK (jH [aF true eW a0]) λ(y0:Int)=>aD (!decide (y0=0)) (R BRN) (aI [(false,aA.li.li)] (yE [aF true eW a0]) λ(y1:List (List aO))=>a7 (Int×Int×PUnit) (λX2 s3=>aD (decide (s3.2.1<(↑(List.map aA.li.enc y1).length:Int))) (aP aA.li (List.map aA.li.enc y1) s3.2.1 λ(y4:List aO)=>aI BRK (mW [T.sl false (BSM y4)]) λ(y5:Int)=>X2 (i64.wrap (s3.1+y5),i64.wrap (s3.2.1+1),())) (R (pPP s3.1))) (0,0,()))
abbrev RE:Sh:=[(true,eW)]
def BW (s:jP):Option T:=some (T.v (Value.int .i64 (AGC s)))
def uN:List T->Option T:=gS RE BW
def AEL {a0}:uN [aF true eW a0]=BW (a0):=bA (s:=RE) rfl (a0) rfl
def AWM:qM Tryz.prog 146 uN BW (bY RE) NS:=gK (a1:=(true,eW)) (Hs:=A18) (k:=8) AH0 aR aU (aL rfl) ⟨_,_,Tryz.func146,rfl⟩ rfl λ_ _=>by kernel_rfl
def AUF:aM Tryz.prog 146 uN:=AWM λs r h hb=>by
 cases h;have is:∀ {n:Int},AGC s=n->pPP n=pPP (AGC s):=λh=>by rw[h]
 unfold NS BSM BRN BRK;refine aH (s:=[(false,.int .i64)]) (KS s) ?_;refine lA (λh=>is (by unfold AGC;rw[if_neg h])) λh=>?_;have h8:s.2.length<=8:=by
  refine Classical.byContradiction λhc=>?_;unfold zW at h;rw[if_pos (by omega)] at h;cases h
 refine aH (s:=[(false,.li (.li aA))]) (y:=(s.1::s.2:List (List aO))) ((AEO ..).trans (by unfold qH;rw[ah (by omega)])) ?_;have w:AGC s=BP6 (s.1::s.2):=by unfold AGC;rw[if_pos h]
 have hlen:(s.1::s.2).length<=9:=by simp;omega
 generalize s.1::s.2=l at w hlen;refine bI l.length (λk t=>t=(CG k (λi=>rX (l.getD i [])),(k:Int),())) rfl ?_;rintro X k t hk rfl hX;dsimp only;refine bV (λhlt=>?_) λhge=>is (by rw[ad] at hge;rw[w,show k=l.length by omega];rfl);rw[ad] at hlt;have hlt:k<l.length:=by omega
 rw[bC (r:=aA.li) hlt];have hg:l.getD k []=l[k]:=by rw[List.getD_eq_getElem?_getD,getElem?_eq_getElem hlt];rfl
 refine aH (s:=[(false,.int .i64)]) (yA l[k]) ?_;refine hX _ hlt ?_;have b1:=AQM l k;have b2:=AB3 l[k];rw[show i64.wrap ((k:Int)+1)=((k+1:Nat):Int) from bD _ (by omega) (by omega),bD _ (by omega) (by omega),CG,hg]
def AEM (s:jP):uN [aF true eW s]=some (Sh.enc [(false,.int .i64)] (AGC s)):=AEL ..
def ARN:Env:=Env.of []
def ASV:FuncId->Hint:=bT 174 [(2,.SA 4)] (λ_=>aX)
def ABC:aQ Tryz.prog ARN:=.nil _
def HU(a0:ASW)(a1:Int)(R:T->Prop):Prop:=aD (decide (a0.1<i64.wrap (0-a1))) (R BRI) (aD (decide (a1<a0.1)) (R BRI) (aD (decide (a0.2.1<i64.wrap (0-a1))) (R BRI) (aD (decide (a1<a0.2.1)) (R BRI) (aD (decide (a0.2.2<i64.wrap (0-a1))) (R BRI) (aD (decide (a1<a0.2.2)) (R BRI) (R BRO))))))
abbrev JQ:Sh:=[(true,AXO),(false,(Sy.int IntKind.i64))]
def CZ (v:ASW):Bool:=decide (-524288<=v.1)&&decide (v.1<=524288)&&(decide (-524288<=v.2.1)&&decide (v.2.1<=524288))&&(decide (-524288<=v.2.2)&&decide (v.2.2<=524288))
def rF (x:ASW×Int):Option T:=match decide (x.2=524288) with
 | true=>some (pPR (CZ x.1))
 | false=>none
def uR:List T->Option T:=gS JQ rF
def YH {a0 a1}:uR [aF true AXO a0,pPP a1]=rF (a0,a1):=bA (s:=JQ) rfl (a0,a1) rfl
def AMG:qN Tryz.prog 174 uR rF (bY JQ) HU:=gL (a1:=(true,AXO)) (a2:=(false,(Sy.int IntKind.i64))) (Hs:=ASV) (k:=8) ABC aR aU (aL rfl) ⟨_,_,Tryz.func174,rfl⟩ rfl λ_ _ _=>by kernel_rfl
def AKM:aM Tryz.prog 174 uR:=AMG λv n r h hb=>by
 unfold rF at h;split at h
 ·rename_i hn;have hn:n=524288:=of_decide_eq_true hn;subst hn;cases h;unfold HU BRO BRI;rw[show i64.wrap (0-524288) = -524288 from rfl];have no:∀ {P:Prop},(¬ (-524288<=v.1/\v.1<=524288∧-524288<=v.2.1/\v.2.1<=524288∧-524288<=v.2.2/\v.2.2<=524288))->pPR false=pPR (CZ v):=λh=>jE (Eq.symm (by
   rw[Bool.eq_false_iff];intro h2;simp only[CZ,ac,ae] at h2;omega))
  refine bV (λh=>no (P:=True) (by omega)) λh1=>bV (λh=>no (P:=True) (by omega)) λh2=>bV (λh=>no (P:=True) (by omega)) λh3=>bV (λh=>no (P:=True) (by omega)) λh4=>bV (λh=>no (P:=True) (by omega)) λh5=>bV (λh=>no (P:=True) (by omega)) λh6=>jE ?_;simp only[CZ];rw[ah (by omega),ah (by omega),ah (by omega),ah (by omega),ah (by omega),ah (by omega)];rfl
 ·cases h
def AL0 (t:Int):Int:=if t<0\/24<=t then 0 else t
def ARM:Env:=Env.of []
def ASU:FuncId->Hint:=λ_=>aX
def ABB:aQ Tryz.prog ARM:=.nil _
def HT(a0:Int)(R:T->Prop):Prop:=aD (decide (a0<0)) (R BRN) (aD (decide (24<=a0)) (R BRN) (R (BSY a0)))
abbrev JP:Sh:=[(false,(Sy.int IntKind.i64))]
def wQ (t:Int):Option T:=some (T.v (Value.int .i64 (AL0 t)))
def uQ:List T->Option T:=gS JP wQ
def YG {a0}:uQ [pPP a0]=wQ (a0):=bA (s:=JP) rfl (a0) rfl
def AMF:qM Tryz.prog 175 uQ wQ (bY JP) HT:=gK (a1:=(false,(Sy.int IntKind.i64))) (Hs:=ASU) (k:=8) ABB aR aU (aL rfl) ⟨_,_,Tryz.func175,rfl⟩ rfl λ_ _=>by kernel_rfl
def AKL:aM Tryz.prog 175 uQ:=AMF λt r h hb=>by
 cases h;unfold HT BSY BRN;exact bV (λh=>LI (by unfold AL0;rw[if_pos (.inl h)])) λh1=>bV (λh=>LI (by unfold AL0;rw[if_pos (.inr h)])) λh2=>LI (by unfold AL0;rw[if_neg (by omega)])
def tH (p:DC):Bool:=CZ p.1&&decide (p.2=AL0 p.2)
def AY1:Env:=Env.of [(174,.pure uR),(175,.pure uQ)]
def A2I:FuncId->Hint:=λ_=>aX
def AIB:aQ Tryz.prog AY1:=.cons AKM (.cons AKL (.nil _))
def N3(a0:DC)(R:T->Prop):Prop:=aI BRM (uR [aF true AXO a0.1,pPP 524288]) λ(y0:Bool)=>aD y0 (aI BRK (uQ [pPP a0.2]) λ(y1:Int)=>R (pPR (decide (a0.2=y1)))) (R BRI)
abbrev RO:Sh:=[(true,fM)]
def B1 (p:DC):Option T:=some (pPR (tH p))
def cL:List T->Option T:=gS RO B1
def KW {a0}:cL [aF true fM a0]=B1 (a0):=bA (s:=RO) rfl (a0) rfl
def AWX:qM Tryz.prog 143 cL B1 (bY RO) N3:=gK (a1:=(true,fM)) (Hs:=A2I) (k:=8) AIB aR aU (aL rfl) ⟨_,_,Tryz.func143,rfl⟩ rfl λ_ _=>by kernel_rfl
def AUN:aM Tryz.prog 143 cL:=AWX λp r h hb=>by
 cases h;unfold N3 BRM BRK BRI;refine aH (s:=[(false,.bool)]) (y:=CZ p.1) (YH ..) ?_;refine IU (λh=>?_) λh=>jE (by unfold tH;rw[h];rfl);refine aH (s:=[(false,.int .i64)]) (y:=AL0 p.2) (YG ..) ?_;exact jE (by unfold tH;rw[h];rfl)
def IS (l:List Int) (i:Nat):Int:=if ¬ (1<=l.getD i 0/\l.getD i 0<=120) then 9 else if 0<i/\l.getD i 0<=l.getD (i-1) 0 then 11 else 0
def jQ (g:cT):Int:=if isName g.1=false then 6 else if ¬ (1000<=g.2.1/\g.2.1<=20000/\100<=g.2.2.1/\g.2.2.1<=1500) then 9 else if g.2.2.2.length=0 then 3 else if 16<g.2.2.2.length then 4 else cF (IS g.2.2.2) (range g.2.2.2.length)
def LN (s:cA):Int:=if isName s.1=false then 6 else if ¬ (1<=s.2.1/\s.2.1<=1000000/\1<=s.2.2.1/\s.2.2.1<=2000/\100<=s.2.2.2/\s.2.2.2<=32768) then 9 else 0
def K0 (s:iII) (K:Bool->Prop):aI [(false,Sy.bool)] (iJ [pPQ s]) K=K (isName s):=by
 rw[show iJ [pPQ s]=u6 s from x6];exact S5 _ K
def AYE:Env:=Env.of [(57,.pure iJ)]
def A10:FuncId->Hint:=bT 93 [(10,.inv [.val 34 false (.int .i64)])] (λ_=>aX)
def AHS:aQ Tryz.prog AYE:=.cons AS (.nil _)
def BRL:T:=pPP 9
def BRQ:Sy:=Sy.int IntKind.i64
def BRV:T:=pPP 6
def BRW:T:=pPP 11
def BTI(a0:cT):List (List T):=List.map BRQ.enc a0.2.2.2
def NK(a0:cT)(R:T->Prop):Prop:=aI BRM (iJ [pPQ a0.1]) λ(y0:Bool)=>aD (!y0) (R BRV) (aD (decide (1000<=a0.2.1)) (aD (!decide (a0.2.1<=20000)) (R BRL) (aD (decide (100<=a0.2.2.1)) (aD (!decide (a0.2.2.1<=1500)) (R BRL) (aD (decide ((↑(BTI a0).length:Int)=0)) (R (pPP 3)) (aD (decide (16<(↑(BTI a0).length:Int))) (R (pPP 4)) (a7 (Int×PUnit) (λX1 s2=>aD (decide (s2.1<(↑(BTI a0).length:Int))) (aP BRQ (BTI a0) s2.1 λ(y3:Int)=>aD (decide (1<=y3)) (aD (!decide (y3<=120)) (R BRL) (aD (decide (0<s2.1)) (aP BRQ (BTI a0) (i64.wrap (s2.1-1)) λ(y4:Int)=>aD (decide (y3<=y4)) (R BRW) (BR4 X1 s2)) (BR4 X1 s2))) (R BRL)) (R BRN)) (0,()))))) (R BRL))) (R BRL))
abbrev Q6:Sh:=[(true,bM)]
def BO (g:cT):Option T:=some (T.v (Value.int .i64 (jQ g)))
def x9:List T->Option T:=gS Q6 BO
def AD3 {a0}:x9 [aF true bM a0]=BO (a0):=bA (s:=Q6) rfl (a0) rfl
def AWE:qM Tryz.prog 93 x9 BO (bY Q6) NK:=gK (a1:=(true,bM)) (Hs:=A10) (k:=8) AHS aR aU (aL rfl) ⟨_,_,Tryz.func93,rfl⟩ rfl λ_ _=>by kernel_rfl
def v8 {l:List α} {i:Nat} {d:α} (h:i<l.length):l.getD i d=l[i]:=by rw[List.getD_eq_getElem?_getD,getElem?_eq_getElem h];rfl
def Y0 {r:Sy} {l:List r.den} {k:Nat} (hk:k<l.length) (h0:0<k) (hl:l.length<=1000000) (K:r.den->Prop):aP r (List.map r.enc l) (i64.wrap ((k:Int)-1)) K=K (l[k-1]'(by omega)):=by
 rw[show i64.wrap ((k:Int)-1)=((k-1:Nat):Int) by rw[bD _ (by omega) (by omega)];omega];exact bC (by omega) K
def QK {k:Nat} (h:k<1000000):i64.wrap ((k:Int)+1)=((k+1:Nat):Int):=bD _ (by omega) (by omega)
def AUA:aM Tryz.prog 93 x9:=AWE λg r h hb=>by
 cases h;have is:∀ {n:Int},jQ g=n->pPP n=pPP (jQ g):=λh=>by rw[h]
 unfold NK BTI BR4 BRW BRV BRQ BRN BRM BRL;rw[K0];refine jI (λh=>is (by unfold jQ;rw[if_pos h])) λhn=>?_;have hn':¬ isName g.1=false:=by rw[hn];simp
 have r9:¬ (1000<=g.2.1/\g.2.1<=20000/\100<=g.2.2.1/\g.2.2.1<=1500)->pPP 9=pPP (jQ g):=λh=>is (by unfold jQ;rw[if_neg hn',if_pos h]);refine bV (λh1=>lA (λh=>r9 (by omega)) λh2=>bV (λh3=>lA (λh=>r9 (by omega)) λh4=>?_) λh=>r9 (by omega)) λh=>r9 (by omega);have hr:¬ ¬ (1000<=g.2.1/\g.2.1<=20000/\100<=g.2.2.1/\g.2.2.1<=1500):=by omega
 refine bV (λh=>is (by rw[ad] at h;unfold jQ;rw[if_neg hn',if_neg hr,if_pos (by omega)])) λh5=>?_;refine bV (λh=>is (by rw[ad] at h h5;unfold jQ;rw[if_neg hn',if_neg hr,if_neg (by omega),if_pos (by omega)])) λh6=>?_;rw[ad] at h5 h6;have w:jQ g=cF (IS g.2.2.2) (range g.2.2.2.length):=by unfold jQ;rw[if_neg hn',if_neg hr,if_neg (by omega),if_neg (by omega)]
 refine r7 (r:=.int .i64) (IS g.2.2.2) (by omega) (λX k hk hprev hok hbad=>?_) λh0=>is (w.trans h0);have hk:k<g.2.2.2.length:=hk;have bad:∀ {n:Int},n≠0->IS g.2.2.2 k=n->pPP n=pPP (jQ g):=λhn h=>is (w.trans ((hbad (by rw[h];exact hn)).trans h));have hE:IS g.2.2.2 k=if ¬ (1<=g.2.2.2[k]/\g.2.2.2[k]<=120) then 9 else if 0<k/\g.2.2.2[k]<=g.2.2.2.getD (k-1) 0 then 11 else 0:=by unfold IS;rw[v8 hk]
 dsimp only;rw[QK (by omega)];refine bV (λp1=>lA (λh=>bad (by decide) (by rw[hE,if_pos (by omega)])) λp2=>?_) λh=>bad (by decide) (by rw[hE,if_pos (by omega)]);refine bV (λp3=>?_) λp3=>hok (by rw[hE,if_neg (by omega),if_neg (by omega)]);have k0:0<k:=by omega
 rw[Y0 (r:=.int .i64) hk k0 (by omega)];have hg1:g.2.2.2.getD (k-1) 0=g.2.2.2[k-1]'(by omega):=v8 (by omega);exact bV (λh=>bad (by decide) (by rw[hE,if_neg (by omega),hg1,if_pos ⟨k0,h⟩])) λh=>hok (by rw[hE,if_neg (by omega),hg1,if_neg (λhc=>h hc.2)])
def AHB:Env:=Env.of [(57,.pure iJ)]
def AI8:FuncId->Hint:=λ_=>aX
def V5:aQ Tryz.prog AHB:=.cons AS (.nil _)
def C7(a0:cA)(R:T->Prop):Prop:=aI BRM (iJ [pPQ a0.1]) λ(y0:Bool)=>aD (!y0) (R BRV) (aD (decide (1<=a0.2.1)) (aD (!decide (a0.2.1<=1000000)) (R BRL) (aD (decide (1<=a0.2.2.1)) (aD (!decide (a0.2.2.1<=2000)) (R BRL) (aD (decide (100<=a0.2.2.2)) (aD (!decide (a0.2.2.2<=32768)) (R BRL) (R BRN)) (R BRL))) (R BRL))) (R BRL))
abbrev D7:Sh:=[(true,bG)]
def sN (s:cA):Option T:=some (T.v (Value.int .i64 (LN s)))
def qV:List T->Option T:=gS D7 sN
def SW {a0}:qV [aF true bG a0]=sN (a0):=bA (s:=D7) rfl (a0) rfl
def AFU:qM Tryz.prog 94 qV sN (bY D7) C7:=gK (a1:=(true,bG)) (Hs:=AI8) (k:=8) V5 aR aU (aL rfl) ⟨_,_,Tryz.func94,rfl⟩ rfl λ_ _=>by kernel_rfl
def AC3:aM Tryz.prog 94 qV:=AFU λs r h hb=>by
 cases h;have is:∀ {n:Int},LN s=n->pPP n=pPP (LN s):=λh=>by rw[h]
 unfold C7 BRV BRN BRM BRL;rw[K0];refine jI (λh=>is (by unfold LN;rw[if_pos h])) λhn=>?_;have hn':¬ isName s.1=false:=by rw[hn];simp
 have r9:¬ (1<=s.2.1/\s.2.1<=1000000/\1<=s.2.2.1/\s.2.2.1<=2000/\100<=s.2.2.2/\s.2.2.2<=32768)->pPP 9=pPP (LN s):=λh=>is (by unfold LN;rw[if_neg hn',if_pos h]);refine bV (λh1=>lA (λh=>r9 (by omega)) λh2=>bV (λh3=>lA (λh=>r9 (by omega)) λh4=>bV (λh5=>lA (λh=>r9 (by omega)) λh6=>is ?_) λh=>r9 (by omega)) λh=>r9 (by omega)) λh=>r9 (by omega);unfold LN;rw[if_neg hn',if_neg (by omega)]
def kO:cT:=(⟨#[]⟩,0,0,[])
def U4 (a b:iII):Bool:=cY a b||decide (a=b)
def yM (m:aG) (i:Nat):Int:=if ¬ jQ (m.1.getD i kO)=0 then jQ (m.1.getD i kO) else if 0<i/\U4 (m.1.getD i kO).1 (m.1.getD (i-1) kO).1=true then 11 else 0
def AXE (m:aG) (i:Nat):Int:=if ¬ LN (m.2.getD i CW)=0 then LN (m.2.getD i CW) else if 0<i/\U4 (m.2.getD i CW).1 (m.2.getD (i-1) CW).1=true then 11 else 0
def CE (m:aG):Int:=if 16<m.1.length\/32<m.2.length then 4 else if ¬ cF (yM m) (range m.1.length)=0 then cF (yM m) (range m.1.length) else cF (AXE m) (range m.2.length)
def AYD:Env:=Env.of [(93,.pure x9),(94,.pure qV)]
def A1Z:FuncId->Hint:=bT 56 [(4,.inv [.val 22 false (.int .i64)]),(13,.inv [.val 50 false (.int .i64)])] (λ_=>aX)
def AHR:aQ Tryz.prog AYD:=.cons AUA (.cons AC3 (.nil _))
def BTO(a0:aG):List (List T):=List.map bM.enc a0.1
def NJ(a0:aG)(R:T->Prop):Prop:=aD (decide (16<(↑(BTO a0).length:Int))) (R (pPP 4)) (aD (decide (32<(↑(List.map bG.enc a0.2).length:Int))) (R (pPP 4)) (a7 (Int×PUnit) (λX0 s1=>aD (decide (s1.1<(↑(BTO a0).length:Int))) (aP bM (BTO a0) s1.1 λ(y2:cT)=>aI BRK (x9 [aF true bM y2]) λ(y3:Int)=>aD (!decide (y3=0)) (R (BSY y3)) (aD (decide (0<s1.1)) (aP bM (BTO a0) (i64.wrap (s1.1-1)) λ(y4:cT)=>aD (cY y2.1 y4.1||decide (y2.1=y4.1)) (R BRW) (BR4 X0 s1)) (BR4 X0 s1))) (a7 (Int×PUnit) (λX5 s6=>aD (decide (s6.1<(↑(List.map bG.enc a0.2).length:Int))) (aP bG (List.map bG.enc a0.2) s6.1 λ(y7:cA)=>aI BRK (qV [aF true bG y7]) λ(y8:Int)=>aD (!decide (y8=0)) (R (BSY y8)) (aD (decide (0<s6.1)) (aP bG (List.map bG.enc a0.2) (i64.wrap (s6.1-1)) λ(y9:cA)=>aD (cY y7.1 y9.1||decide (y7.1=y9.1)) (R BRW) (BR4 X5 s6)) (BR4 X5 s6))) (R BRN)) (0,()))) (0,())))
abbrev Q5:Sh:=[(true,aK)]
def BN (m:aG):Option T:=some (T.v (Value.int .i64 (CE m)))
def x8:List T->Option T:=gS Q5 BN
def AD2 {a0}:x8 [aF true aK a0]=BN (a0):=bA (s:=Q5) rfl (a0) rfl
def AWD:qM Tryz.prog 56 x8 BN (bY Q5) NJ:=gK (a1:=(true,aK)) (Hs:=A1Z) (k:=8) AHR aR aU (aL rfl) ⟨_,_,Tryz.func56,rfl⟩ rfl λ_ _=>by kernel_rfl
def AT9:aM Tryz.prog 56 x8:=AWD λm r h hb=>by
 cases h;have is:∀ {n:Int},CE m=n->pPP n=pPP (CE m):=λh=>by rw[h]
 unfold NJ BTO BR4 BSY BRW BRN BRK;refine bV (λh=>is (by rw[ad] at h;unfold CE;rw[if_pos (by omega)])) λh1=>?_;refine bV (λh=>is (by rw[ad] at h;unfold CE;rw[if_pos (by omega)])) λh2=>?_;rw[ad] at h1 h2;refine r7 (r:=bM) (yM m) (by show m.1.length<=1000000;omega) (λX k hk hprev hok hbad=>?_) λh0=>?_
 ·have hk:k<m.1.length:=hk;have bad:∀ {n:Int},n≠0->yM m k=n->pPP n=pPP (CE m):=λhn h=>is (by
   have hb:=(hbad (by rw[h];exact hn)).trans h;unfold CE;rw[if_neg (by omega),if_pos (by rw[hb];exact hn),hb])
  have hE:yM m k=if ¬ jQ m.1[k]=0 then jQ m.1[k] else if 0<k/\U4 m.1[k].1 (m.1.getD (k-1) kO).1=true then 11 else 0:=by unfold yM;rw[v8 hk]
  dsimp only;rw[QK (by omega)];refine aH (s:=[(false,.int .i64)]) (y:=jQ m.1[k]) (AD3 ..) ?_;refine lA (λh=>bad h (by rw[hE,if_pos h])) λp1=>?_;refine bV (λp3=>?_) λp3=>hok (by rw[hE,if_neg (λh=>h p1),if_neg (by omega)]);have k0:0<k:=by omega
  rw[Y0 (r:=bM) hk k0 (by show m.1.length<=1000000;omega)];have hg1:m.1.getD (k-1) kO=m.1[k-1]'(by omega):=v8 (by omega);exact IU (λh=>bad (by decide) (by rw[hE,if_neg (λh=>h p1),hg1,if_pos ⟨k0,h⟩])) λh=>hok (by rw[hE,if_neg (λh=>h p1),hg1,if_neg (λhc=>by rw[show U4 m.1[k].1 (m.1[k-1]'(by omega)).1=false from h] at hc;cases hc.2)])
 ·have w:CE m=cF (AXE m) (range m.2.length):=by unfold CE;rw[if_neg (by omega),if_neg (λh=>h h0)]
  refine r7 (r:=bG) (AXE m) (by show m.2.length<=1000000;omega) (λX k hk hprev hok hbad=>?_) λh0=>is (w.trans h0);have hk:k<m.2.length:=hk;have bad:∀ {n:Int},n≠0->AXE m k=n->pPP n=pPP (CE m):=λhn h=>is (w.trans ((hbad (by rw[h];exact hn)).trans h));have hE:AXE m k=if ¬ LN m.2[k]=0 then LN m.2[k] else if 0<k/\U4 m.2[k].1 (m.2.getD (k-1) CW).1=true then 11 else 0:=by unfold AXE;rw[v8 hk]
  dsimp only;rw[QK (by omega)];refine aH (s:=[(false,.int .i64)]) (y:=LN m.2[k]) (SW ..) ?_;refine lA (λh=>bad h (by rw[hE,if_pos h])) λp1=>?_;refine bV (λp3=>?_) λp3=>hok (by rw[hE,if_neg (λh=>h p1),if_neg (by omega)]);have k0:0<k:=by omega
  rw[Y0 (r:=bG) hk k0 (by show m.2.length<=1000000;omega)];have hg1:m.2.getD (k-1) CW=m.2[k-1]'(by omega):=v8 (by omega);exact IU (λh=>bad (by decide) (by rw[hE,if_neg (λh=>h p1),hg1,if_pos ⟨k0,h⟩])) λh=>hok (by rw[hE,if_neg (λh=>h p1),hg1,if_neg (λhc=>by rw[show U4 m.2[k].1 (m.2[k-1]'(by omega)).1=false from h] at hc;cases hc.2)])
def gO (m:aG) (n:iII):Option cT:=m.1.find? λg=>decide (g.1=n)
def okM (m:aG):Bool:=decide (m.1.length<=1000)&&decide (m.2.length<=1000)&&m.1.all λg=>decide (g.2.2.2.length<=1000)
def GG (m:aG) (r:α):Option α:=match okM m with
 | true=>some r
 | false=>none
variable {m:aG}
def zT {t r:α} (h:GG m t=some r):okM m=true/\r=t:=by
 unfold GG at h;split at h
 ·rename_i hc;cases h;exact ⟨hc,rfl⟩
 ·cases h
def zU (t:α) (h:okM m=true):GG m t=some t:=by unfold GG;rw[h]
def AS7:xF Tryz.prog 68 1 8:=⟨λR=>by kernel_rfl,λfl R=>by kernel_rfl,λfl a rows R=>by kernel_rfl⟩
def uA:List T->Option T:=gS [(false,.li (.int .i64))] (cZ (.int .i64) 8)
def KR {u0}:uA [T.sl false (List.map (Sy.enc (.int .i64)) u0)]=cZ (.int .i64) 8 u0:=bA (s:=[(false,.li (.int .i64))]) rfl u0 rfl
def TZ:aM Tryz.prog 68 uA:=nR aR aU ⟨_,_,Tryz.func68,rfl⟩ AS7
def AYC:Env:=Env.of [(68,.pure uA)]
def A1Y:FuncId->Hint:=bT 176 [(2,.inv [.val 8 false (.int .i64)])] (λ_=>aX)
def AHQ:aQ Tryz.prog AYC:=.cons TZ (.nil _)
def BRU:List T:=[T.agg [pPQ ({data:=#[]}),pPP 0, pPP 0,T.sl false []], pPR false]
def NI(a0:aG)(a1:iII)(R:T->Prop):Prop:=a7 (Int×PUnit) (λX0 s1=>aD (decide (s1.1<(↑(BTO a0).length:Int))) (aP bM (BTO a0) s1.1 λ(y2:cT)=>aD (decide (y2.1=a1)) (aD (decide (s1.1<0)) (R (T.bX BRU)) (aP bM (BTO a0) s1.1 λ(y3:cT)=>aI [(false,BRQ.li)] (uA [T.sl false (BTI y3)]) λ(y4:List Int)=>R (T.bX [T.agg [pPQ y3.1,pPP y3.2.1, pPP y3.2.2.1, T.sl false (List.map BRQ.enc y4)], pPR true]))) (BR4 X0 s1)) (R (T.bX BRU))) (0,())
abbrev Q4:Sh:=[(true,aK),(false,Sy.str)]
def BM (x:aG×iII):Option T:=GG x.1 (Sh.enc [(true,bM),(false,.bool)] (found kO (gO x.1 x.2)))
def gG:List T->Option T:=gS Q4 BM
def AD1 {a0 a1}:gG [aF true aK a0,pPQ a1]=BM (a0,a1):=bA (s:=Q4) rfl (a0,a1) rfl
def AWC:qN Tryz.prog 144 gG BM (bY Q4) NI:=gL (a1:=(true,aK)) (a2:=(false,Sy.str)) (Hs:=A1Y) (k:=8) AHQ aR aU (aL rfl) ⟨_,_,Tryz.func144,rfl⟩ rfl λ_ _ _=>by kernel_rfl
def IB:aM Tryz.prog 144 gG:=AWC λm n r h hb=>by
 obtain ⟨hok,rfl⟩:=zT h;clear h;simp only[okM,ac,ae] at hok;unfold NI BTO BTI BR4 BRU BRQ;refine bI m.1.length (λk s=>s=((k:Int),())/\(m.1.drop k).find? (λs=>decide (s.1=n))=gO m n) ⟨rfl,rfl⟩ ?_;rintro X k s hk ⟨rfl,hf⟩ hX;dsimp only;refine bV (λhlt=>?_) λhge=>?_
 ·rw[ad] at hlt;have hlt:k<m.1.length:=by omega
  rw[p9 hlt] at hf;rw[bC (r:=bM) hlt];refine bV (λhc=>?_) λhc=>?_
  ·rw[if_pos (ah hc)] at hf;refine bV (λh=>by omega) λ_=>?_;rw[bC (r:=bM) hlt];have hg:m.1[k].2.2.2.length<=1000:=by
    have:=all_eq_true.1 hok.2 _ (aj hlt);exact of_decide_eq_true this
   refine aH (s:=[(false,.li (.int .i64))]) (y:=m.1[k].2.2.2) ?_ ?_
   ·rw[KR];unfold cZ pW;rw[show (decide (m.1[k].2.2.2.length*8<=140737488355328)&&decide (m.1[k].2.2.2.length<=140737488355328))=true by simp only[ac,ae];omega];rfl
   ·show _=Sh.enc [(true,bM),(false,.bool)] (found kO (gO m n));rw[<-hf];rfl
  ·rw[if_neg (by simpa using hc)] at hf;exact hX _ hlt ⟨by rw[QK (by omega)],hf⟩
 ·rw[ad] at hge;have:k=m.1.length:=by omega
  subst this;rw[drop_length] at hf;show _=Sh.enc [(true,bM),(false,.bool)] (found kO (gO m n));rw[<-hf];rfl
def wG (m:aG) (n:iII) (t:Int):Bool:=match gO m n with
 | some g=>g.2.2.2.any λx=>decide (t=x)
 | none=>false
def ARF:Env:=Env.of [(144,.pure gG)]
def ASN:FuncId->Hint:=bT 326 [(2,.inv [.val 8 false (.int .i64)])] (λ_=>aX)
def AA4:aQ Tryz.prog ARF:=.cons IB (.nil _)
def BRS:Sh:=[(true,bM),(false,Sy.bool)]
def BSZ(s2:Int×PUnit):T:=pPR (decide (0<=s2.1))
def HM(a0:aG)(a1:iII)(a2:Int)(R:T->Prop):Prop:=aI BRS (gG [aF true aK a0,pPQ a1]) λ(y0:cT×Bool)=>aD y0.2 (a7 (Int×PUnit) (λX1 s2=>aD (decide (s2.1<(↑(List.map BRQ.enc y0.1.2.2.2).length:Int))) (aP BRQ (List.map BRQ.enc y0.1.2.2.2) s2.1 λ(y3:Int)=>aD (decide (a2=y3)) (R (BSZ s2)) (BR4 X1 s2)) (R BRI)) (0,())) (R BRI)
abbrev JI:Sh:=[(true,aK),(false,Sy.str),(false,(Sy.int IntKind.i64))]
def wK (x:aG×iII×Int):Option T:=GG x.1 (pPR (wG x.1 x.2.1 x.2.2))
def kN:List T->Option T:=gS JI wK
def XX {a0 a1 a2}:kN [aF true aK a0,pPQ a1,pPP a2]=wK (a0,a1,a2):=bA (s:=JI) rfl (a0,a1,a2) rfl
def AL8:Of3 Tryz.prog 169 kN wK (bY JI) HM:=S2 (a1:=(true,aK)) (a2:=(false,Sy.str)) (a3:=(false,(Sy.int IntKind.i64))) (Hs:=ASN) (k:=8) AA4 aR aU (aL rfl) ⟨_,_,Tryz.func169,rfl⟩ rfl λ_ _ _ _=>by kernel_rfl
def x7 (h:okM m=true) (n:iII):gG [aF true aK m,pPQ n]=some (Sh.enc [(true,bM),(false,.bool)] (found kO (gO m n))):=(AD1 ..).trans (zU _ h)
def AKH:aM Tryz.prog 169 kN:=AL8 λm n t r h hb=>by
 obtain ⟨hok,rfl⟩:=zT h;clear h;unfold HM BSZ BR4 BRS BRQ BRI;refine aH (s:=[(true,bM),(false,.bool)]) (x7 hok n) ?_;cases hg:gO m n with
 | none =>
  show aD false _ _;rw[nW];exact jE (by unfold wG;rw[hg])
 | some g =>
  show aD true _ _;rw[kC];dsimp only[found];have hlen:g.2.2.2.length<=1000:=by
   simp only[okM,ac,ae] at hok;exact of_decide_eq_true (all_eq_true.1 hok.2 _ (List.mem_of_find?_eq_some hg))
  have w:wG m n t=g.2.2.2.any λx=>decide (t=x):=by unfold wG;rw[hg]
  refine bI g.2.2.2.length (λk s=>s=((k:Int),())/\g.2.2.2.any (λx=>decide (t=x))=(g.2.2.2.drop k).any λx=>decide (t=x)) ⟨rfl,by rw[drop_zero]⟩ ?_;rintro X k s hk ⟨rfl,hf⟩ hX;dsimp only;refine bV (λhlt=>?_) λhge=>jE ?_
  ·rw[ad] at hlt;have hlt:k<g.2.2.2.length:=by omega
   rw[drop_eq_getElem_cons hlt,List.any_cons] at hf;rw[bC (r:=.int .i64) hlt];refine bV (λhc=>jE ?_) λhc=>hX _ hlt ⟨by rw[QK (by omega)],by rw[hf,ai hc,Bool.false_or]⟩;rw[w,hf,ah hc,ah (show 0<=(k:Int) by omega)];rfl
  ·rw[ad] at hge;have:k=g.2.2.2.length:=by omega
   subst this;rw[w,hf,drop_length];rfl
abbrev gB (p:bB):Int:=p.2.2.1
abbrev mO (p:bB):iII:=p.2.2.2.1
abbrev hU (p:bB):iII:=p.2.2.2.2.1
abbrev o5 (p:bB):Int:=p.2.2.2.2.2.1
abbrev lT (p:bB):jP:=p.2.2.2.2.2.2.1
abbrev ABU (p:bB):iII:=p.2.2.2.2.2.2.2.1
abbrev AJD (p:bB):Int:=p.2.2.2.2.2.2.2.2.1
abbrev KC (p:bB):Int:=p.2.2.2.2.2.2.2.2.2.1
abbrev LC (p:bB):ASW:=p.2.2.2.2.2.2.2.2.2.2.1
abbrev aAt (p:bB):DC:=p.2.2.2.2.2.2.2.2.2.2.2
def ZW (p:bB):Bool:=!decide (o5 p=0)||decide (0<(lT p).1.length+(lT p).2.length)
def BEG (p:bB):Bool:=!decide (ABU p = { data:=#[] }) || !decide (AJD p=0)
def BHC (p:bB):Bool:=!decide (KC p=0) || !(decide ((LC p).1=0)&&(decide ((LC p).2.1=0)&&decide ((LC p).2.2=0)))
def oC (p:bB):Bool:=if gB p=1 then BEG p||BHC p else if gB p=2\/gB p=3 then ZW p||BHC p else !decide (hU p = { data:=#[] })||(ZW p||BEG p)
def AYJ:Env:=Env.of []
def A14:FuncId->Hint:=λf=>match f == 139 with|true=>⟨λ_=>.none,λi j=>match i == 1&&j == 1 with|true=>some [.val 3 false .bool]|false=>match i == 2&&j == 2 with|true=>some [.val 4 false .bool]|false=>match i == 3&&j == 3 with|true=>some [.val 5 false .bool]|false=>none,λ_=>none⟩|false=>aX
def AHW:aQ Tryz.prog AYJ:=.nil _
def BTQ(s3:Bool×PUnit)(R:T->Prop)(s5:Bool×PUnit):Prop:=aD s3.1 (R BRO) (R (pPR s5.1))
def NO(a0:bB)(R:T->Prop):Prop:=sD (Bool×PUnit) (λ(X0:Bool×PUnit->Prop)=>aD (!decide (a0.2.2.2.2.2.1=0)) (X0 (true,())) (X0 (decide (0 < i64.wrap ((↑(List.map aA.enc a0.2.2.2.2.2.2.1.1).length:Int) + (↑(List.map aA.li.enc a0.2.2.2.2.2.2.1.2).length:Int))), ()))) λ(s1:Bool×PUnit)=>sD (Bool×PUnit) (λ(X2:Bool×PUnit->Prop)=>aD (!decide (a0.2.2.2.2.2.2.2.1 = {data:=#[]})) (X2 (true,())) (X2 (!decide (a0.2.2.2.2.2.2.2.2.1=0),()))) λ(s3:Bool×PUnit)=>sD (Bool×PUnit) (λ(X4:Bool×PUnit->Prop)=>aD (!decide (a0.2.2.2.2.2.2.2.2.2.1=0)) (X4 (true,())) (X4 (!(decide (a0.2.2.2.2.2.2.2.2.2.2.1.1=0) && (decide (a0.2.2.2.2.2.2.2.2.2.2.1.2.1=0) && (decide (a0.2.2.2.2.2.2.2.2.2.2.1.2.2=0)&&true))), ()))) λ(s5:Bool×PUnit)=>aD (decide (a0.2.2.1=1)) (BTQ s3 R s5) (aD (decide (a0.2.2.1=2)) (BTQ s1 R s5) (aD (decide (a0.2.2.1=3)) (BTQ s1 R s5) (aD (decide (a0.2.2.1=4)) (aD (!decide (a0.2.2.2.2.1 = {data:=#[]})) (R BRO) (BTQ s1 R s3)) (aD (!decide (a0.2.2.2.2.1 = {data:=#[]})) (R BRO) (BTQ s1 R s3)))))
abbrev RA:Sh:=[(true,aJ)]
def BT (p:bB):Option T:=some (pPR (oC p))
def mX:List T->Option T:=gS RA BT
def AEF {a0}:mX [aF true aJ a0]=BT (a0):=bA (s:=RA) rfl (a0) rfl
def AWI:qM Tryz.prog 139 mX BT (bY RA) NO:=gK (a1:=(true,aJ)) (Hs:=A14) (k:=8) AHW aR aU (aL rfl) ⟨_,_,Tryz.func139,rfl⟩ rfl λ_ _=>by kernel_rfl
def YP {a b:Bool} {n:Bool} (h:n=(a||b)):aD a (pPR true=pPR n) (pPR b=pPR n):=by
 subst h;cases a<;>rfl
def AUC:aM Tryz.prog 139 mX:=AWI λp r h hb=>by
 have b1:(lT p).1.length<=2 ^ 47:=hb.2.2.2.2.2.2.1.1.1;have b2:(lT p).2.length<=2 ^ 47:=hb.2.2.2.2.2.2.1.2.1;cases h;unfold NO BTQ BRO;have j:∀ {a b:Bool} {K:Bool×PUnit->Prop},K (a||b,())->sD (Bool×PUnit) (λ(X:Bool×PUnit->Prop)=>aD a (X (true,())) (X (b,()))) K:=λ{a b K} hK=>by
  rw[A6];cases a<;>exact hK
 have e1:decide (0<i64.wrap (((List.map aA.enc (lT p).1).length:Int)+((List.map aA.li.enc (lT p).2).length:Int)))=decide (0<(lT p).1.length+(lT p).2.length):=by
  rw[ad,ad,bD _ (by omega) (by omega)];exact decide_eq_decide.2 (by omega)
 refine j ?_;refine j ?_;refine j ?_;dsimp only;rw[e1,Bool.and_true];refine bV (λh=>YP (by unfold oC;rw[if_pos h];rfl)) λk1=>?_;refine bV (λh=>YP (by unfold oC;rw[if_neg k1,if_pos (.inl h)];rfl)) λk2=>?_;refine bV (λh=>YP (by unfold oC;rw[if_neg k1,if_pos (.inr h)];rfl)) λk3=>?_;have w:oC p=(!decide (hU p = { data:=#[] })||(ZW p||BEG p)):=by
  unfold oC;rw[if_neg k1,if_neg];rintro (h|h)
  ·exact k2 h
  ·exact k3 h
 have fin:aD (!decide (hU p = { data:=#[] })) (pPR true=pPR (oC p)) (aD (ZW p) (pPR true=pPR (oC p)) (pPR (BEG p)=pPR (oC p))):=by
  rw[w];cases (!decide (hU p = { data:=#[] })) with
  | true=>rfl
  | false=>exact YP rfl
 exact bV (λ_=>fin) λ_=>fin
def AQG (m:aG) (n:iII):Bool:=match RQ m n with
 | some s=>decide (1<=s.2.1)&&decide (s.2.1<=1000000)&&(decide (1<=s.2.2.1)&&decide (s.2.2.1<=2000))
 | none=>false
def gX (p:bB) (m:aG):Bool:=if gB p=4 then true else match gO m (hU p) with
 | none=>false
 | some g=>decide (1000<=g.2.1)&&decide (g.2.1<=20000)&&(if gB p=1 then decide (1<=o5 p)&&decide (o5 p<=120)&&wG m (hU p) (o5 p) else AQG m (ABU p))
def BAK:Env:=Env.of [(144,.pure gG),(145,.pure cW),(169,.pure kN)]
def BB7:FuncId->Hint:=λ_=>aX
def AR1:aQ Tryz.prog BAK:=.cons IB (.cons PJ (.cons AKH (.nil _)))
def BRP:Sh:=[(true,bG),(false,Sy.bool)]
def BS1(y2:cA×Bool)(R:T->Prop):Prop:=aD y2.2 (aD (decide (1<=y2.1.2.1)) (aD (decide (y2.1.2.1<=1000000)) (aD (decide (1<=y2.1.2.2.1)) (R (pPR (decide (y2.1.2.2.1<=2000)))) (R BRI)) (R BRI)) (R BRI)) (R BRI)
def BR2(a1:aG)(a0:bB)(R:T->Prop):Prop:=aI BRP (cW [aF true aK a1, pPQ a0.2.2.2.2.2.2.2.1]) λ(y3:cA×Bool)=>BS1 y3 R
def BS0(a0:bB)(a1:aG)(R:T->Prop):Prop:=aD (decide (1<=a0.2.2.2.2.2.1)) (aD (decide (a0.2.2.2.2.2.1<=120)) (aI BRM (kN [aF true aK a1,pPQ a0.2.2.2.2.1, pPP a0.2.2.2.2.2.1]) λ(y1:Bool)=>R (pPR y1)) (R BRI)) (R BRI)
def BTT(a0:bB)(a1:aG)(R:T->Prop):Prop:=aD (decide (a0.2.2.1=3)) (BR2 a1 a0 R) (aD (decide (a0.2.2.1=4)) (BR2 a1 a0 R) (BR2 a1 a0 R))
def BTU(a1:aG)(a0:bB):List T:=[aF true aK a1,pPQ a0.2.2.2.2.1]
def BR8(a1:aG)(a0:bB)(R:T->Prop):Prop:=aI BRS (gG (BTU a1 a0)) λ(y6:cT×Bool)=>aD (!y6.2) (R BRI) (aD (decide (1000<=y6.1.2.1)) (aD (!decide (y6.1.2.1<=20000)) (R BRI) (aD (decide (a0.2.2.1=1)) (BS0 a0 a1 R) (aD (decide (a0.2.2.1=2)) (BR2 a1 a0 R) (BTT a0 a1 R)))) (R BRI))
def WO(a0:bB)(a1:aG)(R:T->Prop):Prop:=aD (decide (a0.2.2.1=1)) (aI BRS (gG (BTU a1 a0)) λ(y0:cT×Bool)=>aD (!y0.2) (R BRI) (aD (decide (1000<=y0.1.2.1)) (aD (!decide (y0.1.2.1<=20000)) (R BRI) (aD (decide (a0.2.2.1=1)) (BS0 a0 a1 R) (aD (decide (a0.2.2.1=2)) (aI BRP (cW [aF true aK a1,pPQ a0.2.2.2.2.2.2.2.1]) λ(y2:cA×Bool)=>BS1 y2 R) (BTT a0 a1 R)))) (R BRI))) (aD (decide (a0.2.2.1=2)) (BR8 a1 a0 R) (aD (decide (a0.2.2.1=3)) (BR8 a1 a0 R) (aD (decide (a0.2.2.1=4)) (R BRO) (BR8 a1 a0 R))))
abbrev ZK:Sh:=[(true,aJ),(true,aK)]
def G2 (x:bB×aG):Option T:=GG x.2 (pPR (gX x.1 x.2))
def pO:List T->Option T:=gS ZK G2
def AK5 {a0 a1}:pO [aF true aJ a0,aF true aK a1]=G2 (a0,a1):=bA (s:=ZK) rfl (a0,a1) rfl
def A7V:qN Tryz.prog 140 pO G2 (bY ZK) WO:=gL (a1:=(true,aJ)) (a2:=(true,aK)) (Hs:=BB7) (k:=8) AR1 aR aU (aL rfl) ⟨_,_,Tryz.func140,rfl⟩ rfl λ_ _ _=>by kernel_rfl
def FU (m:aG) (n:iII):cW [aF true aK m,pPQ n]=some (Sh.enc [(true,bG),(false,.bool)] (found CW (RQ m n))):=YF ..
def A4E:aM Tryz.prog 140 pO:=A7V λp m r h hb=>by
 obtain ⟨hok,rfl⟩:=zT h;replace hok:okM m=true:=hok;clear h;have is:∀ {n:Bool},gX p m=n->pPR n=pPR (gX p m):=λh=>by rw[h]
 unfold WO BR8 BTU BTT BS0 BR2 BS1 BRS BRP BRO BRM BRI;have sec:∀ {g:cT},gO m (hU p)=some g->¬ gB p=4->¬ gB p=1->1000<=g.2.1->g.2.1<=20000 ->
   aI [(true,bG),(false,Sy.bool)] (cW [aF true aK m,pPQ (ABU p)])
    λ(y2:cA×Bool) =>
    aD y2.2
     (aD (decide (1<=y2.1.2.1))
      (aD (decide (y2.1.2.1<=1000000))
       (aD (decide (1<=y2.1.2.2.1))
        (pPR (decide (y2.1.2.2.1<=2000))=pPR (gX p m))
        (pPR false=pPR (gX p m)))
       (pPR false=pPR (gX p m)))
      (pPR false=pPR (gX p m)))
     (pPR false=pPR (gX p m)):=by
  intro g hg k4 k1 d1 d2;have w:gX p m=AQG m (ABU p):=by
   unfold gX;rw[if_neg k4,hg];dsimp only;rw[ah d1,ah d2,if_neg k1];rfl
  refine aH (s:=[(true,bG),(false,.bool)]) (FU m _) ?_;cases hs:RQ m (ABU p) with
  | none =>
   show aD false _ _;rw[nW];exact is (by rw[w];unfold AQG;rw[hs])
  | some s =>
   show aD true _ _;rw[kC];dsimp only[found];have w2:gX p m=(decide (1<=s.2.1)&&decide (s.2.1<=1000000)&&(decide (1<=s.2.2.1)&&decide (s.2.2.1<=2000))):=by rw[w];unfold AQG;rw[hs]
   refine bV (λh1=>bV (λh2=>bV (λh3=>is ?_) λh3=>is ?_) λh2=>is ?_) λh1=>is ?_
   ·rw[w2,ah h1,ah h2,ah h3];rfl
   ·rw[w2,ah h1,ah h2,ai h3];rfl
   ·rw[w2,ah h1,ai h2];rfl
   ·rw[w2,ai h1];rfl
 have plate:∀ {g:cT},gO m (hU p)=some g->gB p=1->1000<=g.2.1->g.2.1<=20000 ->
   aD (decide (1<=o5 p)) (aD (decide (o5 p<=120)) (aI [(false,Sy.bool)] (kN [aF true aK m,pPQ (hU p),pPP (o5 p)]) λ(y1:Bool)=>pPR y1=pPR (gX p m)) (pPR false=pPR (gX p m))) (pPR false=pPR (gX p m)):=by
  intro g hg k1 d1 d2;have w:gX p m=(decide (1<=o5 p)&&decide (o5 p<=120)&&wG m (hU p) (o5 p)):=by
   unfold gX;rw[if_neg (by omega),hg];dsimp only;rw[ah d1,ah d2,if_pos k1];rfl
  refine bV (λh1=>bV (λh2=>?_) λh2=>is ?_) λh1=>is ?_
  ·refine aH (s:=[(false,.bool)]) (y:=wG m (hU p) (o5 p)) ((XX ..).trans (zU _ hok)) (is ?_);rw[w,ah h1,ah h2];rfl
  ·rw[w,ah h1,ai h2];rfl
  ·rw[w,ai h1];rfl
 by_cases k4:p.2.2.1=4
 ·have w:gX p m=true:=by unfold gX;rw[if_pos k4]
  repeat' first
   | (exfalso;omega)
   | exact is w
   | refine bV (λh=>?_) (λh=>?_)
 ·have hnone:gO m (hU p)=none->gX p m=false:=λh=>by unfold gX;rw[if_neg k4,h]
  have dens:∀ {g:cT},gO m (hU p)=some g->¬ (1000<=g.2.1/\g.2.1<=20000)->gX p m=false:=λ{g} hg h=>by
   unfold gX;rw[if_neg k4,hg];dsimp only;by_cases h1:1000<=g.2.1
   ·rw[ai (show ¬ g.2.1<=20000 by omega),Bool.and_false,Bool.false_and]
   ·rw[ai h1,Bool.false_and,Bool.false_and]
  have call:∀ {K:cT×Bool->Prop},(gO m (hU p)=none->K (kO,false))->(∀ g,gO m (hU p)=some g->K (g,true))->aI [(true,bM),(false,Sy.bool)] (gG [aF true aK m,pPQ p.2.2.2.2.1]) K:=λ{K} h1 h2=>by
   refine aH (s:=[(true,bM),(false,.bool)]) (x7 hok _) ?_;cases hg:gO m (hU p) with
   | none=>exact h1 hg
   | some g=>exact h2 g hg
  have body:∀ {K:cT×Bool->Prop},(∀ g,gO m (hU p)=some g->1000<=g.2.1->g.2.1<=20000->K (g,true))->aI [(true,bM),(false,Sy.bool)] (gG [aF true aK m,pPQ p.2.2.2.2.1]) λ(y0:cT×Bool)=>aD (!y0.2) (pPR false=pPR (gX p m)) (aD (decide (1000<=y0.1.2.1)) (aD (!decide (y0.1.2.1<=20000)) (pPR false=pPR (gX p m)) (K y0)) (pPR false=pPR (gX p m))):=λ{K} hK=>by
   refine call (λhn=>?_) λg hg=>?_
   ·show aD true _ _;rw[kC];exact is (hnone hn)
   ·show aD false _ _;rw[nW];exact bV (λd1=>lA (λd2=>is (dens hg (λh=>d2 h.2))) λd2=>hK g hg d1 d2) λd1=>is (dens hg (λh=>d1 h.1))
  refine bV (λh=>body λg hg d1 d2=>?_) λh1=>bV (λh=>body λg hg d1 d2=>?_) λh2=>bV (λh=>body λg hg d1 d2=>?_) λh3=>bV (λh=>absurd h k4) λ_=>body λg hg d1 d2=>?_
  all_goals
   repeat' first
    | (exfalso;omega)
    | exact plate hg (by assumption) d1 d2
    | exact sec hg k4 (by assumption) d1 d2
    | exact sec hg k4 (by intro h';have h'':p.2.2.1=1:=h';omega) d1 d2
    | refine bV (λh=>?_) (λh=>?_)
def pH (p:bB) (m:aG):Int:=if pT p.1=false\/pT (mO p)=false then 6 else if ¬ (1<=p.2.1/\p.2.1<=1000) then 9 else if ¬ (gB p=1\/gB p=2\/gB p=3\/gB p=4) then 10 else if oC p=true then 2 else if gX p m=false then 23 else
 if gB p=1/\¬ zW (lT p)=0 then zW (lT p) else if (gB p=2\/gB p=3)/\¬ (1<=AJD p/\AJD p<=32768) then 9 else if gB p=4/\¬ (1<=KC p/\KC p<=1099511627776/\CZ (LC p)=true) then 9 else if tH (aAt p)=false then 9 else 0
def ARI:Env:=Env.of [(82,.pure eU),(139,.pure mX),(140,.pure pO),(141,.pure jH),(143,.pure cL)]
def ASQ:FuncId->Hint:=λ_=>aX
def AA7:aQ Tryz.prog ARI:=.cons E7 (.cons AUC (.cons A4E (.cons T5 (.cons AUN (.nil _)))))
def BRR:T:=pPP 2
def BRZ:T:=pPP 23
def BSP(a0:bB)(R:T->Prop):Prop:=aI BRM (cL [aF true fM a0.2.2.2.2.2.2.2.2.2.2.2]) λ(y5:Bool)=>aD (!y5) (R BRL) (R BRN)
def BTK(a0:bB)(R:T->Prop):Prop:=aD (decide (1<=a0.2.2.2.2.2.2.2.2.1)) (aD (!decide (a0.2.2.2.2.2.2.2.2.1<=32768)) (R BRL) (BSP a0 R)) (R BRL)
def BR1(a0:bB)(R:T->Prop)(a1:aG):Prop:=aI BRM (mX [aF true aJ a0]) λ(y2:Bool)=>aD y2 (R BRR) (aI BRM (pO [aF true aJ a0,aF true aK a1]) λ(y3:Bool)=>aD (!y3) (R BRZ) (aD (decide (a0.2.2.1=1)) (aI BRK (jH [aF true eW a0.2.2.2.2.2.2.1]) λ(y4:Int)=>aD (!decide (y4=0)) (R (BSY y4)) (BSP a0 R)) (aD (decide (a0.2.2.1=2)) (BTK a0 R) (aD (decide (a0.2.2.1=3)) (BTK a0 R) (aD (decide (a0.2.2.1=4)) (aD (decide (1<=a0.2.2.2.2.2.2.2.2.2.1)) (aD (!decide (a0.2.2.2.2.2.2.2.2.2.1<=1099511627776)) (R BRL) (aI BRM (cL [T.agg [pPP a0.2.2.2.2.2.2.2.2.2.2.1.1, pPP a0.2.2.2.2.2.2.2.2.2.2.1.2.1, pPP a0.2.2.2.2.2.2.2.2.2.2.1.2.2, pPP 0]]) λ(y8:Bool)=>aD (!y8) (R BRL) (BSP a0 R))) (R BRL)) (BSP a0 R))))))
def HP(a0:bB)(a1:aG)(R:T->Prop):Prop:=aI BRM (eU [pPQ a0.1]) λ(y0:Bool)=>aD (!y0) (R BRV) (aI BRM (eU [pPQ a0.2.2.2.1]) λ(y1:Bool)=>aD (!y1) (R BRV) (aD (decide (1<=a0.2.1)) (aD (!decide (a0.2.1<=1000)) (R BRL) (aD (decide (a0.2.2.1=1)) (BR1 a0 R a1) (aD (decide (a0.2.2.1=2)) (BR1 a0 R a1) (aD (decide (a0.2.2.1=3)) (BR1 a0 R a1) (aD (decide (a0.2.2.1=4)) (BR1 a0 R a1) (R (pPP 10))))))) (R BRL)))
abbrev JL:Sh:=[(true,aJ),(true,aK)]
def wN (x:bB×aG):Option T:=GG x.2 (T.v (Value.int .i64 (pH x.1 x.2)))
def mF:List T->Option T:=gS JL wN
def YB {a0 a1}:mF [aF true aJ a0,aF true aK a1]=wN (a0,a1):=bA (s:=JL) rfl (a0,a1) rfl
def AMB:qN Tryz.prog 106 mF wN (bY JL) HP:=gL (a1:=(true,aJ)) (a2:=(true,aK)) (Hs:=ASQ) (k:=8) AA7 aR aU (aL rfl) ⟨_,_,Tryz.func106,rfl⟩ rfl λ_ _ _=>by kernel_rfl
def PI:aM Tryz.prog 106 mF:=AMB λp m r h hb=>by
 obtain ⟨hok,rfl⟩:=zT h;replace hok:okM m=true:=hok;clear h hb;have is:∀ {n:Int},pH p m=n->pPP n=pPP (pH p m):=λh=>by rw[h]
 unfold HP BR1 BTK BSY BSP BRZ BRV BRR BRN BRM BRL BRK;rw[nV];refine jI (λh=>is (by unfold pH;rw[if_pos (.inl h)])) λi1=>?_;rw[nV];refine jI (λh=>is (by unfold pH;rw[if_pos (.inr h)])) λi2=>?_;have n1:¬ (pT p.1=false\/pT (mO p)=false):=by
  rintro (h|h)
  ·rw[i1] at h;cases h
  ·rw[show pT (mO p)=true from i2] at h;cases h
 have r9:¬ (1<=p.2.1/\p.2.1<=1000)->pPP 9=pPP (pH p m):=λh=>is (by unfold pH;rw[if_neg n1,if_pos h]);refine bV (λv1=>lA (λh=>r9 (λh2=>h h2.2)) λv2=>?_) λh=>r9 (λh2=>h h2.1);have n2:¬ ¬ (1<=p.2.1/\p.2.1<=1000):=λh=>h ⟨v1,v2⟩;have w1:pH p m=if ¬ (gB p=1\/gB p=2\/gB p=3\/gB p=4) then 10 else if oC p=true then 2 else if gX p m=false then 23 else if gB p=1/\¬ zW (lT p)=0 then zW (lT p) else if (gB p=2\/gB p=3)/\¬ (1<=AJD p/\AJD p<=32768) then 9 else if gB p=4/\¬ (1<=KC p/\KC p<=1099511627776/\CZ (LC p)=true) then 9 else if tH (aAt p)=false then 9 else 0:=by
  unfold pH;rw[if_neg n1,if_neg n2]
 have spare:∀ {K:Bool->Prop},K (oC p)->aI [(false,Sy.bool)] (mX [aF true aJ p]) K:=λh=>aH (s:=[(false,.bool)]) (y:=oC p) (AEF ..) h;have made:∀ {K:Bool->Prop},K (gX p m)->aI [(false,Sy.bool)] (pO [aF true aJ p,aF true aK m]) K:=λh=>aH (s:=[(false,.bool)]) (y:=gX p m) ((AK5 ..).trans (zU _ hok)) h;have place:∀ {K:Bool->Prop},K (tH (aAt p))->aI [(false,Sy.bool)] (cL [aF true fM (aAt p)]) K:=λh=>aH (s:=[(false,.bool)]) (y:=tH (aAt p)) (KW ..) h;have near:∀ {K:Bool->Prop},K (CZ (LC p))->aI [(false,Sy.bool)] (cL [aF true fM (LC p,0)]) K:=λ{K} h=>aH (s:=[(false,.bool)]) (y:=tH (LC p,0)) (KW ..) (by
  rw[show tH (LC p,0)=CZ (LC p) by unfold tH;rw[show decide (((LC p,(0:Int)):DC).2=AL0 ((LC p,(0:Int)):DC).2)=true from rfl,Bool.and_true]];exact h)
 have reg:∀ {K:Int->Prop},K (zW (lT p))->aI [(false,Sy.int IntKind.i64)] (jH [aF true eW (lT p)]) K:=λh=>aH (s:=[(false,.int .i64)]) (KS _) h
 repeat' first
  | (exfalso;omega)
  | refine spare ?_
  | refine made ?_
  | refine reg ?_
  | refine place ?_
  | refine near ?_
  | refine lA (λh=>?_) (λh=>?_)
  | refine bV (λh=>?_) (λh=>?_)
  | refine jI (λh=>?_) (λh=>?_)
  | refine IU (λh=>?_) (λh=>?_)
 all_goals (refine is ?_;clear spare made place near reg is r9;rw[w1];clear w1 n1 n2 i1 i2;simp_all;try (intros;exfalso;simp only[AJD,KC] at *;omega))
def FT (h:okM m=true) (p:bB):mF [aF true aJ p,aF true aK m]=some (Sh.enc [(false,.int .i64)] (pH p m)):=(YB ..).trans (zU _ h)
def ALI (m:aG) (n:iII):cT:=(gO m n).getD kO
def BP1 (m:aG) (n:iII):cA:=(RQ m n).getD CW
def AO9 {no:α} {o:Option α}:(found no o).1=o.getD no:=by cases o<;>rfl
def UY (p:bB) (m:aG):Int:=if gB p=1 then i64.wrap ((i64.wrap (i64.wrap (AGC (lT p)*o5 p)*(ALI m (hU p)).2.1)).tdiv 2000000) else if gB p=2\/gB p=3 then i64.wrap ((i64.wrap (i64.wrap ((BP1 m (ABU p)).2.1*AJD p)*(ALI m (hU p)).2.1)).tdiv 1000000) else KC p
def CU (p:bB) (m:aG):Int×Int:=if pH p m=0 then (UY p m,0) else (0,pH p m)
def AYK:Env:=Env.of [(106,.pure mF),(144,.pure gG),(145,.pure cW),(146,.pure uN)]
def A15:FuncId->Hint:=λ_=>aX
def AHX:aQ Tryz.prog AYK:=.cons PI (.cons IB (.cons PJ (.cons AUF (.nil _))))
def BTD(R:T->Prop)(y2:cA×Bool)(a0:bB)(y1:cT×Bool):Prop:=bH true (R (T.bX [pPP (i64.wrap ((i64.wrap (i64.wrap (y2.1.2.1*a0.2.2.2.2.2.2.2.2.1) * y1.1.2.1)).tdiv 1000000)), pPP 0]))
def BTV(a0:bB):List T:=[pPP a0.2.2.2.2.2.2.2.2.2.1, pPP 0]
def NP(a0:bB)(a1:aG)(R:T->Prop):Prop:=aI BRK (mF [aF true aJ a0,aF true aK a1]) λ(y0:Int)=>aD (!decide (y0=0)) (R (T.bX [pPP 0,pPP y0])) (aI BRS (gG (BTU a1 a0)) λ(y1:cT×Bool)=>aI BRP (cW [aF true aK a1,pPQ a0.2.2.2.2.2.2.2.1]) λ(y2:cA×Bool)=>aD (decide (a0.2.2.1=1)) (aI BRK (uN [aF true eW a0.2.2.2.2.2.2.1]) λ(y3:Int)=>bH true (R (T.bX [pPP (i64.wrap ((i64.wrap (i64.wrap (y3*a0.2.2.2.2.2.1)*y1.1.2.1)).tdiv 2000000)), pPP 0]))) (aD (decide (a0.2.2.1=2)) (BTD R y2 a0 y1) (aD (decide (a0.2.2.1=3)) (BTD R y2 a0 y1) (aD (decide (a0.2.2.1=4)) (R (T.bX (BTV a0))) (R (T.bX (BTV a0)))))))
abbrev RB:Sh:=[(true,aJ),(true,aK)]
abbrev AGA:Sh:=[(false,Sy.int IntKind.i64),(false,Sy.int IntKind.i64)]
def BU (x:bB×aG):Option T:=GG x.2 (Sh.enc AGA (CU x.1 x.2))
def uK:List T->Option T:=gS RB BU
def AEG {a0 a1}:uK [aF true aJ a0,aF true aK a1]=BU (a0,a1):=bA (s:=RB) rfl (a0,a1) rfl
def AWJ:qN Tryz.prog 107 uK BU (bY RB) NP:=gL (a1:=(true,aJ)) (a2:=(true,aK)) (Hs:=A15) (k:=8) AHX aR aU (aL rfl) ⟨_,_,Tryz.func107,rfl⟩ rfl λ_ _ _=>by kernel_rfl
def AUD:aM Tryz.prog 107 uK:=AWJ λp m r h hb=>by
 obtain ⟨hok,rfl⟩:=zT h;replace hok:okM m=true:=hok;clear h hb;have is:∀ {a b:Int},CU p m=(a,b)->T.bX [pPP a,pPP b]=Sh.enc AGA (CU p m):=λh=>by rw[h];rfl
 unfold NP BTV BTD BTU BRS BRP BRK;refine aH (s:=[(false,.int .i64)]) (FT hok p) ?_;refine lA (λh=>is (by unfold CU;rw[if_neg h])) λh=>?_;refine aH (s:=[(true,bM),(false,.bool)]) (x7 hok _) ?_;refine aH (s:=[(true,bG),(false,.bool)]) (FU m _) ?_;have w:CU p m=(UY p m,0):=by unfold CU;rw[if_pos h]
 have eg:(found kO (gO m (hU p))).1=ALI m (hU p):=AO9;have es:(found CW (RQ m (ABU p))).1=BP1 m (ABU p):=AO9;refine bV (λk1=>?_) λk1=>?_
 ·refine aH (s:=[(false,.int .i64)]) (AEM _) ?_;refine ⟨rfl,is ?_⟩;rw[w];unfold UY;rw[if_pos k1,<-eg]
 refine bV (λk2=>⟨rfl,is ?_⟩) λk2=>?_
 ·rw[w];unfold UY;rw[if_neg k1,if_pos (.inl k2),<-eg,<-es]
 refine bV (λk3=>⟨rfl,is ?_⟩) λk3=>?_
 ·rw[w];unfold UY;rw[if_neg k1,if_pos (.inr k3),<-eg,<-es]
 have fin:CU p m=(KC p,0):=by
  rw[w];unfold UY;rw[if_neg k1,if_neg];rintro (h|h)
  ·exact k2 h
  ·exact k3 h
 exact bV (λ_=>is fin) λ_=>is fin
def AEH (h:okM m=true) (p:bB):uK [aF true aJ p,aF true aK m]=some (Sh.enc [(false,.int .i64),(false,.int .i64)] (CU p m)):=(AEG ..).trans (zU _ h)
def oH (a0:aB) (m1:List (iII×Int)) (m2:List (iII×Int)) (m3:List (iII×Int)) (m4:List (iII×Int)) (a5:aG):List T:=[R8 a0 m1 m2 m3 m4,T.agg (aK.enc a5)]
def M3:Env:=Env.of [(106,.pure mF),(107,.pure uK)]
def ABP:FuncId->Hint:=bT 61 [(2,.inv [.val 23 false (.int .i64)]),(13,.inv [.val 10 false (.int .i64),.val 54 false (.int .i64)])] (λ_=>aX)
def AHN:aQ Tryz.prog M3:=.cons PI (.cons AUD (.nil _))
def BR0:T:=pPP 8
def BSC(a0:aB):List (List T):=List.map aJ.enc a0.2.2.1
def NF(a0:aB)(m1:List (iII×Int))(m2:List (iII×Int))(m3:List (iII×Int))(m4:List (iII×Int))(a5:aG)(R:T->Prop):Prop:=a7 (Int×PUnit) (λX0 s1=>aD (decide (s1.1<(↑(BSC a0).length:Int))) (aP aJ (BSC a0) s1.1 λ(y2:bB)=>aI BRK (mF [aF true aJ y2,aF true aK a5]) λ(y3:Int)=>aD (!decide (y3=0)) (R (BSY y3)) (dJ TypeDesc.string (Value.string y2.2.2.2.1) (rI (bN m1)) false BRQ (R BR0) λ(i4:Nat) (y5:Int)=>X0 (i64.wrap (s1.1+1),()))) (a7 (Int×Int×PUnit) (λX6 s7=>aD (decide (s7.2.1<(↑(BSC a0).length:Int))) (aP aJ (BSC a0) s7.2.1 λ(y8:bB)=>aI [(false,Sy.int IntKind.i64),(false,Sy.int IntKind.i64)] (uK [aF true aJ y8,aF true aK a5]) λ(y9:aO)=>aD (decide (1099511627776<i64.wrap (s7.1+y9.1))) (R (pPP 13)) (X6 (i64.wrap (s7.1+y9.1),i64.wrap (s7.2.1+1),()))) (R BRN)) (0,0,()))) (0,())
def ABH ( a0 m1 m2 m3 m4 a5 R):dV bS Tryz.prog M3 ABP 8 61 (oH a0 m1 m2 m3 m4 a5) R=NF a0 m1 m2 m3 m4 a5 R:=by kernel_rfl
def VX (x y:aB×MP×MP×MP×MP×aG) (h:oH x.1 x.2.1 x.2.2.1 x.2.2.2.1 x.2.2.2.2.1 x.2.2.2.2.2=oH y.1 y.2.1 y.2.2.1 y.2.2.2.1 y.2.2.2.2.1 y.2.2.2.2.2):x=y:=by
 obtain ⟨h1,h2⟩:=List.cons.inj h;have:=rG (x:=(x.1,x.2.1,x.2.2.1,x.2.2.2.1,x.2.2.2.2.1)) (y:=(y.1,y.2.1,y.2.2.1,y.2.2.2.1,y.2.2.2.2.1)) h1;have h2:=Sy.c0 aK _ _ (T.agg.inj (List.cons.inj h2).1);simp only[Prod.mk.injEq] at this;obtain ⟨e1,e2,e3,e4,e5⟩:=this;exact Prod.ext e1 (Prod.ext e2 (Prod.ext e3 (Prod.ext e4 (Prod.ext e5 h2))))
def iM (d:aB) (m:aG) (p:bB):Int:=if pH p m=0 then (if (eV d (mO p)).isNone=true then 8 else 0) else pH p m
def KA (m:aG):List bB->Int->Int
 | [],_=>0
 | p::l,s=>if 1099511627776<i64.wrap (s+(CU p m).1) then 13 else KA m l (i64.wrap (s+(CU p m).1))
def kG (d:aB) (m:aG):Int:=if cF (iM d m) d.2.2.1=0 then KA m d.2.2.1 0 else cF (iM d m) d.2.2.1
def u5 (x:aB×MP×MP×MP×MP×aG):Option T:=match okM x.2.2.2.2.2 with
 | true=>w4 (x.1,x.2.1,x.2.2.1,x.2.2.2.1,x.2.2.2.2.1) (T.v (Value.int .i64 (kG x.1 x.2.2.2.2.2)))
 | false=>none
def uG:List T->Option (T):=gA (λ(x:aB×(List (iII×Int))×(List (iII×Int))×(List (iII×Int))×(List (iII×Int))×aG)=>oH x.1 x.2.1 x.2.2.1 x.2.2.2.1 x.2.2.2.2.1 x.2.2.2.2.2) u5
def ADN (a0:aB) (m1:List (iII×Int)) (m2:List (iII×Int)) (m3:List (iII×Int)) (m4:List (iII×Int)) (a5:aG):uG (oH a0 m1 m2 m3 m4 a5)=u5 (a0,m1,m2,m3,m4,a5):=eR (A:=(λ(x:aB×(List (iII×Int))×(List (iII×Int))×(List (iII×Int))×(List (iII×Int))×aG)=>oH x.1 x.2.1 x.2.2.1 x.2.2.2.1 x.2.2.2.2.1 x.2.2.2.2.2)) VX (a0,m1,m2,m3,m4,a5)
def AV9 (h:∀ (a0:aB) (m1:List (iII×Int)) (m2:List (iII×Int)) (m3:List (iII×Int)) (m4:List (iII×Int)) (a5:aG) (r:T),u5 (a0,m1,m2,m3,m4,a5)=some r->(∀ t∈oH a0 m1 m2 m3 m4 a5,Bd t)->NF a0 m1 m2 m3 m4 a5 (λy=>y=r)):aM Tryz.prog 61 uG :=
 cG (E:=M3) (Hs:=ABP) AHN aR aU (aL rfl) 8 ⟨_,_,Tryz.func61,rfl⟩ λx r h1 h2=>by
  rw[ABH];exact h x.1 x.2.1 x.2.2.1 x.2.2.2.1 x.2.2.2.2.1 x.2.2.2.2.2 r h1 h2
def AT6:aM Tryz.prog 61 uG:=AV9 λd m1 m2 m3 m4 m r h hb=>by
 unfold u5 at h;split at h
 case h_2=>cases h
 rename_i hok;replace hok:okM m=true:=hok;obtain ⟨hx,hs,rfl⟩:=oR h;simp only[Prod.mk.injEq,true_and] at hx;obtain ⟨rfl,rfl,rfl,rfl⟩:=hx;replace hs:nQ d:=hs;clear h hb;have is:∀ {n:Int},kG d m=n->pPP n=pPP (kG d m):=λh=>by rw[h]
 unfold NF BSC BSY BR0 BRQ BRN BRK;refine qT (r:=aJ) (iM d m) hs.p (λX s y hy hgo hbad=>?_) λh0=>?_
 ·have bad:∀ {n:Int},n≠0->iM d m y=n->pPP n=pPP (kG d m):=λhn h=>by
   have h1:=hbad (by rw[h];exact hn);refine is ?_;unfold kG;rw[if_neg (by rw[h1,h];exact hn),h1,h]
  refine aH (s:=[(false,.int .i64)]) (FT hok y) ?_;refine lA (λh=>bad h (by unfold iM;rw[if_neg h])) λh=>?_;refine ixK (λhn=>bad (by decide) ?_) λi j hj hn=>hgo ?_
  ·have hn:eV d (mO y)=none:=hn;unfold iM;rw[if_pos h,hn];rfl
  ·have hn:eV d (mO y)=some d.2.1[j]:=hn;unfold iM;rw[if_pos h,hn];rfl
 ·have w:kG d m=KA m d.2.2.1 0:=by unfold kG;rw[if_pos h0]
  clear h0;have hl:=hs.p;generalize d.2.2.1=l at w hl ⊢;refine bI l.length (λk s=>s.2.1=(k:Int)/\KA m (l.drop k) s.1=kG d m) ⟨rfl,by rw[w];rfl⟩ ?_;rintro X k ⟨s,i,u⟩ hk ⟨rfl,he⟩ hX;dsimp only at he ⊢;refine bV (λhlt=>?_) λhge=>?_
  ·rw[ad] at hlt;have hlt:k<l.length:=by omega
   rw[bC (r:=aJ) hlt];rw[drop_eq_getElem_cons hlt,KA] at he;refine aH (s:=[(false,.int .i64),(false,.int .i64)]) (AEH hok _) ?_;refine bV (λh=>is (by rw[<-he,if_pos h])) λh=>?_;rw[if_neg h] at he;refine hX _ hlt ⟨?_,he⟩;show i64.wrap ((k:Int)+1)=_;rw[bD]<;>omega
  ·rw[ad] at hge;have:k=l.length:=by omega
   subst this;rw[drop_length,KA] at he;exact is he.symm
def oG (a0:aB) (m1:List (iII×Int)) (m2:List (iII×Int)) (m3:List (iII×Int)) (m4:List (iII×Int)):List T:=[R8 a0 m1 m2 m3 m4]
def M1:Env:=Env.of [(82,.pure eU),(100,.pure w9),(109,.pure IL),(108,.pure gV),(105,.pure lE),(110,.new FR)]
def ABO:FuncId->Hint:=bT 63 [(4,.inv [.own 3 2 (.pr (.int .i64) (.int .i64)),.map 0 .str false .bool,.val 29 false (.int .i64)]),(15,.inv [.val 76 false (.int .i64),.map 0 .str false .bool]),(31,.inv [.own 3 2 (.pr (.int .i64) (.int .i64)),.val 147 false (.int .i64)])] (λ_=>aX)
def AHM:aQ Tryz.prog M1:=.cons E7 (.cons BG8 (.cons BDV (.cons AC2 (.cons T7 (.cons A4D (.nil _))))))
def BR5(a0:aB):List (List T):=List.map aW.enc a0.2.2.2.2.2
def BR6(a0:aB):List (List T):=List.map aE.enc a0.2.2.2.2.1
def BSE(a0:aB):List (List T):=List.map aV.enc a0.2.2.2.1
def BSG(a0:aB):List (List T):=List.map aS.enc a0.2.1
def BR9(a0:aB):List T:=[pPQ a0.1, T.sl false (BSG a0), T.sl false (BSC a0), T.sl false (BSE a0), T.sl false (BR6 a0), T.sl false (BR5 a0)]
def BS7(y3:aT):List (List T):=List.map Sy.str.enc y3.2.2.1
def BSW(y3:aT):List (List T):=List.map Sy.str.enc y3.2.2.2.2
def BSI(y13:iII)(s12:Int×List (iII×Bool)×PUnit)(X11:Int×List (iII×Bool)×PUnit->Prop):Prop:=dS (Option (Nat×D)) (findD TypeDesc.string (Value.string y13) (List.map (a8 Sy.str false Sy.bool) s12.2.1) 0) λ(y24:Option (Nat×D))=>b7 Sy.str false Sy.bool (dB (List.map (a8 Sy.str false Sy.bool) s12.2.1) y24 (Value.string y13) (D.p BRO)) λ(y25:List (iII×Bool))=>X11 (i64.wrap (s12.1+1),y25,())
def BTB(a0:aB):List T:=[pPQ a0.1,T.sl false (BSG a0), T.sl false (BSC a0), T.sl false (BSE a0), T.sl false (BR6 a0), T.sl false (BR5 a0)]
def BTL(a0:aB)(m1:List (iII×Int))(m2:List (iII×Int))(m3:List (iII×Int))(m4:List (iII×Int)):List T:=[T.ref (BR9 a0), T.mp (bN m1),T.mp (bN m2), T.mp (bN m3),T.mp (bN m4)]
def BTR(y18:List iII×Bool):List (List T):=List.map Sy.str.enc y18.1
def ND(a0:aB)(m1:List (iII×Int))(m2:List (iII×Int))(m3:List (iII×Int))(m4:List (iII×Int))(R:T->Prop):Prop:=b7 Sy.str false Sy.bool [] λ(y0:List (iII×Bool))=>a7 (List aO×List (iII×Bool)×Int×PUnit) (λX1 s2=>aD (decide (s2.2.2.1<(↑(BR6 a0).length:Int))) (aP aE (BR6 a0) s2.2.2.1 λ(y3:aT)=>aI BRM (eU [pPQ y3.1]) λ(y4:Bool)=>aD (!y4) (R BRV) (aI BRM (gV [T.ref [T.ref (BTB a0), T.mp (bN m1),T.mp (bN m2),T.mp (bN m3), T.mp (bN m4)], pPQ y3.2.1]) λ(y5:Bool)=>aD (!y5) (R BR0) (aD (decide (y3.2.2.2.1<1)) (R BRL) (aD (decide (10000<y3.2.2.2.1)) (R BRL) (aI [(false,Sy.any)] (IL [T.sl false (BS7 y3)]) λ(y6:T)=>aI BRM (w9 [pPP (↑(BS7 y3).length:Int), y6]) λ(y7:Bool)=>aD (!y7) (R BRW) (aI [(false,Sy.any)] (IL [T.sl false (BSW y3)]) λ(y8:T)=>aI BRM (w9 [pPP (↑(BSW y3).length:Int), y8]) λ(y9:Bool)=>aD (!y9) (R BRW) (b7 Sy.str false Sy.bool (List.map (a8 Sy.str false Sy.bool) s2.2.1) λ(y10:List (iII×Bool))=>a7 (Int×List (iII×Bool)×PUnit) (λX11 s12=>aD (decide (s12.1<(↑(BS7 y3).length:Int))) (aP Sy.str (BS7 y3) s12.1 λ(y13:iII)=>dJ TypeDesc.string (Value.string y13) (rI (bN m2)) false BRQ (R BR0) λ(i14:Nat) (y15:Int)=>aP aJ (BSC a0) y15 λ(y16:bB)=>aD (!decide (y16.2.2.1=4)) (aD (!decide (y16.2.2.1=3)) (R (pPP 10)) (aP aJ (BSC a0) y15 λ(y17:bB)=>aI [(false,Sy.str.li),(false,Sy.bool)] (lE [T.ref (BTL a0 m1 m2 m3 m4), pPQ y17.2.2.2.1]) λ(y18:List iII×Bool)=>aD (decide ((↑(BTR y18).length:Int)=0)) (R BRR) (aP Sy.str (BTR y18) (i64.wrap ((↑(BTR y18).length:Int)-1)) λ(y19:iII)=>aD (!decide (y19=y3.2.1)) (R BRR) (dJ TypeDesc.string (Value.string y13) (List.map (a8 Sy.str false Sy.bool) s12.2.1) false Sy.bool (BSI y13 s12 X11) λ(i20:Nat) (y21:Bool)=>aD y21 (R (pPP 7)) (dS (Option (Nat×D)) (findD TypeDesc.string (Value.string y13) (List.map (a8 Sy.str false Sy.bool) s12.2.1) 0) λ(y22:Option (Nat×D))=>b7 Sy.str false Sy.bool (dB (List.map (a8 Sy.str false Sy.bool) s12.2.1) y22 (Value.string y13) (D.p BRO)) λ(y23:List (iII×Bool))=>X11 (i64.wrap (s12.1+1),y23, ())))))) (aP aJ (BSC a0) y15 λ(y26:bB)=>aI [(false,Sy.str.li),(false,Sy.bool)] (lE [T.ref (BTL a0 m1 m2 m3 m4), pPQ y26.2.2.2.1]) λ(y27:List iII×Bool)=>aD (decide ((↑(BTR y27).length:Int)=0)) (R BRR) (aP Sy.str (BTR y27) (i64.wrap ((↑(BTR y27).length:Int)-1)) λ(y28:iII)=>aD (!decide (y28=y3.2.1)) (R BRR) (dJ TypeDesc.string (Value.string y13) (List.map (a8 Sy.str false Sy.bool) s12.2.1) false Sy.bool (BSI y13 s12 X11) λ(i29:Nat) (y30:Bool)=>aD y30 (R (pPP 7)) (BSI y13 s12 X11))))) (bZ aA (List.map aA.enc s2.1) λ(y35:List aO)=>a7 (List aO×Int×PUnit) (λX36 s37=>aD (decide (s37.2.1 < (↑(BSW y3).length:Int))) (aP Sy.str (BSW y3) s37.2.1 λ(y38:iII)=>aD (decide (y38=y3.1)) (R BRR) (dJ TypeDesc.string (Value.string y38) (rI (bN m4)) false BRQ (R BR0) λ(i39:Nat) (y40:Int)=>bH (decide (((List.map aA.enc s37.1).length+1)*16 <= 140737488355328) && decide ((List.map aA.enc s37.1).length+1 <= 140737488355328)) (bZ aA (List.map aA.enc s37.1 ++ [[pPP y40, pPP s2.2.2.1]]) λ(y41:List aO)=>X36 (y41,i64.wrap (s37.2.1+1),())))) (bZ aA (List.map aA.enc s37.1) λ(y42:List aO)=>b7 Sy.str false Sy.bool (List.map (a8 Sy.str false Sy.bool) s12.2.1) λ(y43:List (iII×Bool))=>X1 (y42,y43,i64.wrap (s2.2.2.1+1),()))) (y35,0,()))) (0,y10,())))))))) (aI [(false,BRQ.li),(false,Sy.int IntKind.i64)] (FR [pPP (↑(BR6 a0).length:Int), T.sl false (List.map aA.enc s2.1)]) λ(y44:List Int×Int)=>aD (!decide (y44.2=0)) (R (pPP 20)) (R BRN))) ([],y0,0,())
def ABG ( a0 m1 m2 m3 m4 R):dV bS Tryz.prog M1 ABO 8 63 (oG a0 m1 m2 m3 m4) R=ND a0 m1 m2 m3 m4 R:=by kernel_rfl
def VW (x y:aB×MP×MP×MP×MP) (h:oG x.1 x.2.1 x.2.2.1 x.2.2.2.1 x.2.2.2.2=oG y.1 y.2.1 y.2.2.1 y.2.2.2.1 y.2.2.2.2):x=y:=rG (List.cons.inj h).1
abbrev jR (k:aT):List iII:=k.2.2.1
abbrev gJ (k:aT):List iII:=k.2.2.2.2
abbrev YQ (k:aT):Int:=k.2.2.2.1
def uS (d:aB) (k:aT):Int:=if pT k.1=false then 6 else if yP d k.2.1=false then 8 else if YQ k<1\/10000<YQ k then 9 else if pZ (jR k)=false\/pZ (gJ k)=false then 11 else 0
def instE (d:aB) (b:iII):List iII->List iII->Int×List iII
 | [],S=>(0,S)
 | id::l,S=>match partOf d id with
  | none=>(8,S)
  | some p=>if ¬ gB p=4/\¬ gB p=3 then (10,S) else if (up d (mO p)).1.getLast? = some b then (if YT S id=true then (7,S) else instE d b l (id::S)) else (2,S)
def W0 (d:aB) (k:iII) (i:Int):List iII->List aO->Int×List aO
 | [],E=>(0,E)
 | id::l,E=>if id=k then (2,E) else match eC (iT (ids d.2.2.2.2.1)) id with
  | none=>(8,E)
  | some j=>W0 d k i l (E++[(j,i)])
def kP (d:aB):List aT->Int->List aO->List iII->Int×List aO
 | [],_,E,_=>(0,E)
 | k::l,i,E,S=>if ¬ uS d k=0 then (uS d k,E) else if ¬ (instE d k.2.1 (jR k) S).1=0 then ((instE d k.2.1 (jR k) S).1,E) else if ¬ (W0 d k.1 i (gJ k) E).1=0 then ((W0 d k.1 i (gJ k) E).1,E) else
  kP d l (i+1) (W0 d k.1 i (gJ k) E).2 (instE d k.2.1 (jR k) S).2
def iL (d:aB):Int:=if (kP d d.2.2.2.2.1 0 [] []).1=0 then (if (lZ d.2.2.2.2.1.length (kP d d.2.2.2.2.1 0 [] []).2).2=0 then 0 else 20) else (kP d d.2.2.2.2.1 0 [] []).1
def BB (d:aB):Bool:=d.2.2.2.2.1.all (λk=>decide ((jR k).length<=140737488355328)&&decide ((gJ k).length<=140737488355328))&&decide (d.2.2.2.2.1.length<=64)
def nE (a b:iII):cY a b=true↔a.data.toList<b.data.toList:=by
 unfold cY;rw[bytesLess_eq,decide_eq_true_iff]
def AOL {a b:iII} (h:(!(cY b a||decide (b=a)))=true):a.data.toList<b.data.toList:=by
 simp only[Bool.not_eq_true',Bool.or_eq_false_iff,decide_eq_false_iff_not] at h;refine Classical.byContradiction λhc=>h.2 ?_;have h1:¬ b.data.toList<a.data.toList:=λh'=>by rw[(nE b a).2 h'] at h;exact absurd h.1 (by decide)
 have e:b.data.toList=a.data.toList:=List.le_antisymm (not_lt.1 hc) (not_lt.1 h1);exact ByteArray.ext (Array.ext' e)
def OK:∀ {l:List iII},pZ l=true->l.Pairwise λa b=>a.data.toList<b.data.toList
 | [],_=>List.Pairwise.nil
 | [a],_=>by simp
 | a::b::l,h=>by
  rw[pZ,ac] at h;have h1:=AOL h.1;have ih:=OK h.2;refine pairwise_cons.2 ⟨λx hx=>?_,ih⟩;rcases mem_cons.1 hx with rfl|hx
  ·exact h1
  ·exact lt_trans h1 ((pairwise_cons.1 ih).1 x hx)
def TK {l:List iII} (h:pZ l=true):l.Nodup:=by
 refine (OK h).imp λ{a b} hab e=>?_;subst e;exact lt_irrefl _ hab
def APJ:∀ {l m:List iII},l.Nodup->(∀ x∈l,x∈m)->l.length<=m.length
 | [],_,_,_=>Nat.zero_le _
 | a::l,m,h,hm=>by
  obtain ⟨h1,h2⟩:=pairwise_cons.1 h;have h3:l.length<=(m.filter λx=>decide (x≠a)).length:=APJ h2 λx hx=>List.mem_filter.2 ⟨hm x (List.mem_cons_of_mem _ hx),ah λe=>h1 x hx e.symm⟩;have h4:(m.filter λx=>decide (x≠a)).length<m.length:=List.length_filter_lt_length_iff_exists.2 ⟨a,hm a al,by simp⟩;rw[length_cons];omega
def uZ (x:aB×MP×MP×MP×MP):Option T:=match BB x.1 with
 | true=>w4 x (T.v (Value.int .i64 (iL x.1)))
 | false=>none
def uF:List T->Option (T):=gA (λ(x:aB×(List (iII×Int))×(List (iII×Int))×(List (iII×Int))×List (iII×Int))=>oG x.1 x.2.1 x.2.2.1 x.2.2.2.1 x.2.2.2.2) uZ
def ADM (a0:aB) (m1:List (iII×Int)) (m2:List (iII×Int)) (m3:List (iII×Int)) (m4:List (iII×Int)):uF (oG a0 m1 m2 m3 m4)=uZ (a0,m1,m2,m3,m4):=eR (A:=(λ(x:aB×(List (iII×Int))×(List (iII×Int))×(List (iII×Int))×List (iII×Int))=>oG x.1 x.2.1 x.2.2.1 x.2.2.2.1 x.2.2.2.2)) VW (a0,m1,m2,m3,m4)
def AV8 (h:∀ (a0:aB) (m1:List (iII×Int)) (m2:List (iII×Int)) (m3:List (iII×Int)) (m4:List (iII×Int)) (r:T),uZ (a0,m1,m2,m3,m4)=some r->(∀ t∈oG a0 m1 m2 m3 m4,Bd t)->ND a0 m1 m2 m3 m4 (λy=>y=r)):aM Tryz.prog 63 uF :=
 cG (E:=M1) (Hs:=ABO) AHM aR aU (aL rfl) 8 ⟨_,_,Tryz.func63,rfl⟩ λx r h1 h2=>by
  rw[ABG];exact h x.1 x.2.1 x.2.2.1 x.2.2.2.1 x.2.2.2.2 r h1 h2
variable {A:Prop}
def BPD {id:iII} {l:List (iII×α)} {B:Nat->Int->Prop} (hA:eC (iT (ids l)) id=none->l.find? (λs=>decide (s.1=id))=none->A) (hB:∀ i k (h:k<l.length),eC (iT (ids l)) id=some (k:Int)->l.find? (λs=>decide (s.1=id))=some l[k]->B i (k:Int)) :
  dJ TypeDesc.string (Value.string id) (rI (bN (iT (ids l)))) false (Sy.int IntKind.i64) A B:=by
 rw[AFK];refine E4 (r:=.int .i64) (λh=>?_) λi v h=>?_
 ·rcases F0 id l with ⟨h1,h2⟩|⟨k,hk,h1,_⟩
  ·exact hA h1 h2
  ·rw[h] at h1;cases h1
 ·rcases F0 id l with ⟨h1,_⟩|⟨k,hk,h1,h2⟩
  ·rw[h] at h1;cases h1
  ·rw[h] at h1;cases h1;exact hB i k hk h h2
def BPE {l:List iII} {b:iII} (hl:l.length<=140737488355328) (hyes:l.getLast? = some b->A) (hno:¬ l.getLast? = some b->A) {R2:Prop} (hR2:¬ l.getLast? = some b->R2) {K:Prop} (hK:l.getLast? = some b->K) :
  aD (decide (((List.map Sy.str.enc l).length:Int)=0)) R2 (aP Sy.str (List.map Sy.str.enc l) (i64.wrap (((List.map Sy.str.enc l).length:Int)-1)) λ(y:iII)=>aD (!decide (y=b)) R2 K):=by
 rw[ad];refine bV (λh=>hR2 ?_) λh=>?_
 ·have:l=[]:=List.length_eq_zero_iff.1 (by omega);rw[this];simp
 ·have h1:l.length-1<l.length:=by omega
  rw[bD _ (by omega) (by omega),show ((l.length:Int)-1)=((l.length-1:Nat):Int) by omega,bC (r:=.str) h1];have e:l.getLast? = some l[l.length-1]:=by rw[List.getLast?_eq_getElem?,getElem?_eq_getElem h1]
  refine lA (λh=>hR2 ?_) λh=>hK ?_
  ·rw[e];intro h';exact h (Option.some.inj h')
  ·rw[e];exact congrArg some h
def BP2 {es:List (iII×Bool)} {S:List iII} {id:iII} {R7:Prop} {K:List (iII×Bool)->Prop} (hS:Seen es (λx=>x∈S)) (h7:id∈S->R7) (hK:∀ es',id∉S->Seen es' (λx=>x∈id::S)->K es') :
  dJ TypeDesc.string (Value.string id) (List.map (a8 Sy.str false Sy.bool) es) false Sy.bool
   (dS (Option (Nat×D)) (findD TypeDesc.string (Value.string id) (List.map (a8 Sy.str false Sy.bool) es) 0) λ(y24:Option (Nat×D)) =>
    b7 Sy.str false Sy.bool (dB (List.map (a8 Sy.str false Sy.bool) es) y24 (Value.string id) (D.p (T.v (.bool true)))) λ(y25:List (iII×Bool))=>K y25)
   λ(i20:Nat) (y21:Bool)=>aD y21 R7
    (dS (Option (Nat×D)) (findD TypeDesc.string (Value.string id) (List.map (a8 Sy.str false Sy.bool) es) 0) λ(y22:Option (Nat×D)) =>
     b7 Sy.str false Sy.bool (dB (List.map (a8 Sy.str false Sy.bool) es) y22 (Value.string id) (D.p (T.v (.bool true)))) λ(y23:List (iII×Bool))=>K y23):=by
 refine E4 (r:=.bool) (λhno=>?_) λj b hb=>?_
 ·refine APE (r:=.bool) rfl (es:=es) (k:=id) (v:=true) (hK _ (λh=>?_) ((hS.ins id).congr λx=>?_))
  ·have:=(hS.2 id).2 h;rw[hno] at this;cases this
  ·rw[mem_cons];exact ⟨λh=>h.symm.imp_left Eq.symm,λh=>h.symm.imp_right Eq.symm⟩
 ·have:=hS.1 _ _ hb;subst this;rw[kC];exact h7 ((hS.2 _).1 hb)
def AT5:aM Tryz.prog 63 uF:=AV8 λd m1 m2 m3 m4 r h hb=>by
 unfold uZ at h;split at h
 case h_2=>cases h
 rename_i hok;replace hok:BB d=true:=hok;obtain ⟨hx,hs,rfl⟩:=oR h;simp only[Prod.mk.injEq,true_and] at hx;obtain ⟨rfl,rfl,rfl,rfl⟩:=hx;replace hs:nQ d:=hs;clear h hb;simp only[BB,ac,ae,all_eq_true] at hok;obtain ⟨hkp,hka⟩:=hok;have hkq:=λk hk=>(hkp k hk).2;replace hkp:=λk hk=>(hkp k hk).1;have hlk:=hs.k;have is:∀ {n:Int},iL d=n->T.v (.int .i64 n)=T.v (.int .i64 (iL d)):=λh=>by rw[h]
 unfold ND BTR BTL BTB BSI BSW BS7 BR9 BSG BSE BSC BR6 BR5 BR0 BRW BRV BRR BRQ BRO BRN BRM BRL;refine j2 (r:=.bool) rfl [] _ ?_;refine bI d.2.2.2.2.1.length (λk s=>∃ S,s.2.2.1=(k:Int)/\Seen s.2.1 (λx=>x∈S)/\s.1.length<=64*k/\kP d (d.2.2.2.2.1.drop k) k s.1 S=kP d d.2.2.2.2.1 0 [] []) ⟨[],rfl,Seen.nil.congr (by simp),by simp,rfl⟩ ?_;rintro X k ⟨E,es,i,u⟩ hk ⟨S,rfl,hseen,hlen,hr⟩ hX;dsimp only at hseen hlen hr ⊢;refine bV (λhlt=>?_) λhge=>?_
 ·rw[ad] at hlt;have hlt:k<d.2.2.2.2.1.length:=by omega
  rw[bC (r:=aE) hlt];rw[drop_eq_getElem_cons hlt] at hr;have hmem:=aj hlt;have hp1:=hkp _ hmem;have hp2:=hkq _ hmem;generalize hy:d.2.2.2.2.1[k]=y at hr hp1 hp2 ⊢;rw[kP] at hr;have bad:∀ {n:Int},n≠0->(kP d d.2.2.2.2.1 0 [] []).1=n->T.v (.int .i64 n)=T.v (.int .i64 (iL d)):=λhn h=>by
   refine is ?_;unfold iL;rw[if_neg (by rw[h];exact hn),h]
  have badH:∀ {n:Int},n≠0->uS d y=n->T.v (.int .i64 n)=T.v (.int .i64 (iL d)):=λhn h=>by
   refine bad hn ?_;rw[if_pos (by rw[h];exact hn)] at hr;rw[<-hr];exact h
  rw[nV];refine jI (λh=>badH (by decide) (by unfold uS;rw[if_pos h])) λi1=>?_;refine aH (s:=[(false,.bool)]) (PX hs _) ?_;refine jI (λh=>badH (by decide) (by unfold uS;rw[if_neg (by rw[i1];decide),if_pos h])) λi2=>?_;have n1:¬ pT y.1=false:=by rw[i1];decide
  have n2:¬ yP d y.2.1=false:=by rw[i2];decide
  refine bV (λh=>badH (by decide) (by unfold uS;rw[if_neg n1,if_neg n2,if_pos (.inl h)])) λh3=>?_;refine bV (λh=>badH (by decide) (by unfold uS;rw[if_neg n1,if_neg n2,if_pos (.inr h)])) λh4=>?_;have n3:¬ (YQ y<1\/10000<YQ y):=by rintro (h|h);exact h3 h;exact h4 h
  refine aH (s:=[(false,.any)]) (UN (a0:=jR y)) ?_;refine L5 (b:=pZ (jR y)) (by rw[ad];exact A54 hp1) _ ?_;refine jI (λh=>badH (by decide) (by unfold uS;rw[if_neg n1,if_neg n2,if_neg n3,if_pos (.inl h)])) λh5=>?_;refine aH (s:=[(false,.any)]) (UN (a0:=gJ y)) ?_;refine L5 (b:=pZ (gJ y)) (by rw[ad];exact A54 (l:=gJ y) hp2) _ ?_;refine jI (λh=>badH (by decide) (by unfold uS;rw[if_neg n1,if_neg n2,if_neg n3,if_pos (.inr h)])) λh6=>?_;have hh:uS d y=0:=by unfold uS;rw[if_neg n1,if_neg n2,if_neg n3,if_neg];rintro (h|h);(rw[h5] at h;cases h);(rw[h6] at h;cases h)
  have hnd:=TK h6;clear badH n1 n2 n3 h3 h4 h5 h6 i1 i2;rw[if_neg (λh=>h hh)] at hr;refine j2 (r:=.bool) rfl es _ ?_;refine bI (jR y).length (λj s=>∃ S',s.1=(j:Int)/\Seen s.2.1 (λx=>x∈S')/\instE d y.2.1 ((jR y).drop j) S'=instE d y.2.1 (jR y) S) ⟨S,rfl,hseen,rfl⟩ ?_;rintro Y j ⟨i,es',u⟩ hj ⟨S',rfl,hseen',hi⟩ hY;dsimp only at hseen' hi ⊢;refine bV (λhjl=>?_) λhjl=>?_
  ·rw[ad] at hjl;replace hjl:(j:Int)<((jR y).length:Int):=hjl;have hjl:j<(jR y).length:=by omega
   rw[bC (r:=.str) hjl];rw[drop_eq_getElem_cons hjl,instE] at hi;have badI:∀ {n:Int},n≠0->(instE d y.2.1 (jR y) S).1=n->T.v (.int .i64 n)=T.v (.int .i64 (iL d)):=λhn h=>by
    refine bad hn ?_;rw[if_pos (by rw[h];exact hn)] at hr;rw[<-hr];exact h
   have hw:i64.wrap ((j:Int)+1)=((j+1:Nat):Int):=bD _ (by omega) (by omega);generalize (jR y)[j]=id at hi ⊢;refine BPD (λ_ hn=>badI (by decide) ?_) λi q hq _ hn=>?_
   ·have hn:partOf d id=none:=hn;rw[hn] at hi;rw[<-hi]
   ·have hn:partOf d id=some d.2.2.1[q]:=hn;rw[hn] at hi;rw[bC (r:=aJ) hq];obtain ⟨p,hp⟩:∃ p,p=d.2.2.1[q]:=⟨_,rfl⟩
    rw[<-hp] at hi hn ⊢;dsimp only at hi;have fin:¬ (¬ gB p=4/\¬ gB p=3)->aI [(false,Sy.str.li),(false,Sy.bool)]
      (lE (mN d (iT (ids d.2.1)) (iT (ids d.2.2.1)) (iT (ids d.2.2.2.1)) (iT (ids d.2.2.2.2.1)) (mO p))) λ(y18:List iII×Bool) =>
      aD (decide (((List.map Sy.str.enc y18.1).length:Int)=0)) (T.v (.int .i64 2)=T.v (.int .i64 (iL d)))
       (aP Sy.str (List.map Sy.str.enc y18.1) (i64.wrap (((List.map Sy.str.enc y18.1).length:Int)-1)) λ(y19:iII) =>
        aD (!decide (y19=y.2.1)) (T.v (.int .i64 2)=T.v (.int .i64 (iL d)))
        (dJ TypeDesc.string (Value.string id) (List.map (a8 Sy.str false Sy.bool) es') false Sy.bool
         (dS (Option (Nat×D)) (findD TypeDesc.string (Value.string id) (List.map (a8 Sy.str false Sy.bool) es') 0) λ(y24:Option (Nat×D)) =>
          b7 Sy.str false Sy.bool (dB (List.map (a8 Sy.str false Sy.bool) es') y24 (Value.string id) (D.p (T.v (.bool true)))) λ(y25:List (iII×Bool))=>Y (i64.wrap ((j:Int)+1),y25,()))
         λ(i20:Nat) (y21:Bool)=>aD y21 (T.v (.int .i64 7)=T.v (.int .i64 (iL d)))
          (dS (Option (Nat×D)) (findD TypeDesc.string (Value.string id) (List.map (a8 Sy.str false Sy.bool) es') 0) λ(y22:Option (Nat×D)) =>
           b7 Sy.str false Sy.bool (dB (List.map (a8 Sy.str false Sy.bool) es') y22 (Value.string id) (D.p (T.v (.bool true)))) λ(y23:List (iII×Bool))=>Y (i64.wrap ((j:Int)+1),y23,())))):=by
     intro hk;rw[if_neg hk] at hi;refine aH (s:=[(false,.li .str),(false,.bool)]) (KU hs _) ?_;have hul:=BM5 d (mO p);refine BPE (A:=True) (b:=y.2.1) (by omega) (λ_=>trivial) (λ_=>trivial) (λh=>badI (by decide) ?_) λh=>?_
     ·rw[if_neg h] at hi;rw[<-hi]
     ·rw[if_pos h] at hi;refine BP2 (K:=λes=>Y (i64.wrap ((j:Int)+1),es,())) hseen' (λh7=>badI (by decide) ?_) λes2 h7 hs2=>?_
      ·rw[if_pos (F9.2 h7)] at hi;rw[<-hi]
      ·rw[if_neg (λh=>h7 (F9.1 h))] at hi;rw[hw];exact hY _ hjl ⟨id::S',rfl,hs2,hi⟩
    refine lA (λk4=>?_) λk4=>?_
    ·refine lA (λk3=>badI (by decide) ?_) λk3=>?_
     ·rw[if_pos ⟨k4,k3⟩] at hi;rw[<-hi]
     ·rw[bC (r:=aJ) hq,<-hp];exact fin λh=>h.2 k3
    ·rw[bC (r:=aJ) hq,<-hp];exact fin λh=>h.1 k4
  ·rw[ad] at hjl;replace hjl:¬ (j:Int)<((jR y).length:Int):=hjl;have hjl:j=(jR y).length:=by omega
   subst hjl;rw[drop_length,instE] at hi;rw[<-hi,if_neg (by simp)] at hr;dsimp only at hr;clear hY hi hj;rw[dW rfl];refine bI (gJ y).length (λj s=>s.2.1=(j:Int)/\s.1.length=E.length+j/\(∀ x∈(gJ y).take j,x∈ids d.2.2.2.2.1)/\W0 d y.1 k ((gJ y).drop j) s.1=W0 d y.1 k (gJ y) E) ⟨rfl,by simp,by simp,rfl⟩ ?_;rintro Y j ⟨E',i,u⟩ hj ⟨rfl,hEl,hin,hi⟩ hY;dsimp only at hEl hin hi ⊢;have hjk:j<=64:=by
    have h1:=APJ (hnd.sublist (List.take_sublist j _)) hin;have h2:(ids d.2.2.2.2.1).length=d.2.2.2.2.1.length:=by simp[ids]
    rw[length_take] at h1;omega
   refine bV (λhjl=>?_) λhjl=>?_
   ·rw[ad] at hjl;replace hjl:(j:Int)<((gJ y).length:Int):=hjl;have hjl:j<(gJ y).length:=by omega
    rw[bC (r:=.str) hjl];rw[drop_eq_getElem_cons hjl,W0] at hi;have badA:∀ {n:Int},n≠0->(W0 d y.1 k (gJ y) E).1=n->T.v (.int .i64 n)=T.v (.int .i64 (iL d)):=λhn h=>by
     refine bad hn ?_;rw[if_pos (by rw[h];exact hn)] at hr;rw[<-hr];exact h
    have hw:i64.wrap ((j:Int)+1)=((j+1:Nat):Int):=bD _ (by omega) (by omega);have hts:(gJ y).take (j+1)=(gJ y).take j++[(gJ y)[j]]:=List.take_succ_eq_append_getElem hjl;generalize (gJ y)[j]=id at hi hts ⊢;refine bV (λh=>badA (by decide) ?_) λh=>?_
    ·rw[if_pos h] at hi;rw[<-hi]
    rw[if_neg h] at hi;refine BPD (λhg _=>badA (by decide) ?_) λi q hq hg hfi=>?_
    ·rw[hg] at hi;rw[<-hi]
    ·rw[hg] at hi;dsimp only at hi;refine ⟨by simp;omega,?_⟩;rw[AP (r:=aA) rfl E' [T.v (.int .i64 (q:Int)),T.v (.int .i64 (k:Int))] ((q:Int),(k:Int)) rfl,hw];refine hY _ hjl ⟨rfl,by simp only[List.length_append,length_cons,List.length_nil];omega,λx hx=>?_,hi⟩;rw[hts] at hx;rcases mem_append.1 hx with hx|hx
     ·exact hin x hx
     ·have hx:x=id:=by simpa using hx
      subst hx;have h9:=List.find?_some hfi;exact List.mem_map.2 ⟨_,aj hq,of_decide_eq_true h9⟩
   ·rw[ad] at hjl;replace hjl:¬ (j:Int)<((gJ y).length:Int):=hjl;have hjl:j=(gJ y).length:=by omega
    subst hjl;rw[drop_length,W0] at hi;rw[<-hi,if_neg (by simp)] at hr;dsimp only at hr;rw[dW rfl];refine j2 (r:=.bool) rfl es' _ ?_;refine hX _ hlt ⟨S',?_,hseen',?_,?_⟩
    ·show i64.wrap ((k:Int)+1)=_;rw[bD]<;>omega
    ·show E'.length<=_;omega
    ·rw[<-hr];rfl
 ·rw[ad] at hge;have hkl:k=d.2.2.2.2.1.length:=by omega
  subst hkl;rw[drop_length,kP] at hr;have w:iL d=if (lZ d.2.2.2.2.1.length E).2=0 then 0 else 20:=by
   unfold iL;rw[<-hr,if_pos rfl]
  refine aH (s:=[(false,.li (.int .i64)),(false,.int .i64)]) (y:=lZ d.2.2.2.2.1.length E) (by rw[ad];exact (AK3 ..).trans (kF (l:=E) _ (by omega))) ?_;exact lA (λh=>is (by rw[w,if_neg h])) λh=>is (by rw[w,if_pos h])
def L0 {a:Option MP} {es:MP} {K:MP->Prop} (h:a=some es) (hk:K es):dS (List (iII×Int)) a K:=⟨es,h,hk⟩
def UF:List T->Option (List (iII×Int)):=AU0
def BJ7:kR Tryz.prog 95 (sX UF):=BO6
def BHW:Env:=Env.of [(56,.pure x8),(57,.pure iJ),(95,.ATX UF),(59,.pure PW),(60,.pure xX),(61,.pure uG),(62,.pure xY),(63,.pure uF),(64,.pure xW)]
def BII:FuncId->Hint:=λ_=>aX
def AY6:aQ Tryz.prog BHW:=.cons AT9 (.cons AS (.cons BJ7 (.cons BDP (.cons ATZ (.cons AT6 (.cons AT0 (.cons AT5 (.cons ATY (.nil _)))))))))
def BSL(a0:aB):List T:=[T.ref [T.ref [T.sl false (BR5 a0), T.sl false (BR6 a0), T.sl false (BSE a0), T.sl false (BSC a0), T.sl false (BSG a0), pPQ a0.1].reverse].reverse]
def AIH(a0:aB)(a1:aG)(R:T->Prop):Prop:=aI BRK (x8 [aF true aK a1]) λ(y0:Int)=>aD (!decide (y0=0)) (R (BSY y0)) (aI BRM (iJ [pPQ a0.1]) λ(y1:Bool)=>aD (!y1) (R BRV) (dS (List (iII×Int)) (UF [T.fn 96 [].reverse (BSL a0).reverse, pPP (↑(BSG a0).length:Int)].reverse) λ(y2:List (iII×Int))=>dS (List (iII×Int)) (UF [T.fn 97 [].reverse (BSL a0).reverse, pPP (↑(BSC a0).length:Int)].reverse) λ(y3:List (iII×Int))=>dS (List (iII×Int)) (UF [T.fn 98 [].reverse (BSL a0).reverse, pPP (↑(BSE a0).length:Int)].reverse) λ(y4:List (iII×Int))=>dS (List (iII×Int)) (UF [T.fn 99 [].reverse (BSL a0).reverse, pPP (↑(BR6 a0).length:Int)].reverse) λ(y5:List (iII×Int))=>aI BRK (PW [T.ref [T.ref (BTB a0), T.mp (bN y2),T.mp (bN y3),T.mp (bN y4), T.mp (bN y5)]]) λ(y6:Int)=>aD (!decide (y6=0)) (R (BSY y6)) (aI BRK (xX [T.ref [T.ref (BR9 a0), T.mp (bN y2),T.mp (bN y3),T.mp (bN y4), T.mp (bN y5)]]) λ(y7:Int)=>aD (!decide (y7=0)) (R (BSY y7)) (aI BRK (uG [T.ref [T.ref (BR9 a0), T.mp (bN y2),T.mp (bN y3),T.mp (bN y4), T.mp (bN y5)], aF true aK a1]) λ(y8:Int)=>aD (!decide (y8=0)) (R (BSY y8)) (aI BRK (xY [T.ref (BTL a0 y2 y3 y4 y5)]) λ(y9:Int)=>aD (!decide (y9=0)) (R (BSY y9)) (aI BRK (uF [T.ref (BTL a0 y2 y3 y4 y5)]) λ(y10:Int)=>aD (!decide (y10=0)) (R (BSY y10)) (aI BRK (xW [T.ref (BTL a0 y2 y3 y4 y5)]) λ(y11:Int)=>R (BSY y11))))))))
abbrev AMR:Sh:=[(true,aC),(true,aK)]
def iF (d:aB) (m:aG):Int:=if ¬ CE m=0 then CE m else if isName d.1=false then 6 else if ¬ oK d=0 then oK d else if ¬ kD d=0 then kD d else if ¬ kG d m=0 then kG d m else if ¬ cF (rE d) d.2.2.2.1=0 then cF (rE d) d.2.2.2.1 else if ¬ iL d=0 then iL d else cF (zQ d) d.2.2.2.2.2
def L7 (x:aB×aG):Option T:=some (T.v (Value.int .i64 (iF x.1 x.2)))
def cM:List T->Option T:=gS AMR L7
def nS {a0 a1}:cM [aF true aC a0,aF true aK a1]=L7 (a0,a1):=bA (s:=AMR) rfl (a0,a1) rfl
def BE5:qN Tryz.prog 26 cM L7 (bY AMR) AIH:=gL (a1:=(true,aC)) (a2:=(true,aK)) (Hs:=BII) (k:=8) AY6 aR aU (aL rfl) ⟨_,_,Tryz.func26,rfl⟩ rfl λ_ _ _=>by kernel_rfl
def BEL (h:CE m=0):okM m=true:=by
 unfold CE at h;split at h
 ·cases h
 rename_i h1;split at h
 ·rename_i h2;exact absurd h h2
 rename_i h2;have h2:cF (yM m) (range m.1.length)=0:=Classical.byContradiction h2;simp only[okM,ac,ae,all_eq_true];refine ⟨⟨by omega,by omega⟩,λg hg=>?_⟩;obtain ⟨i,hi,rfl⟩:=List.mem_iff_getElem.1 hg;have h3:=j4 h2 i (List.mem_range.2 hi);unfold yM at h3;rw[v8 hi] at h3;have h4:jQ m.1[i]=0:=by
  refine Classical.byContradiction λhc=>?_;rw[if_pos hc] at h3;exact hc h3
 unfold jQ at h4;split at h4
 ·cases h4
 split at h4
 ·cases h4
 split at h4
 ·cases h4
 split at h4
 ·cases h4
 ·omega
def BCW {d:aB} (hs:nQ d) (hm:okM m=true):uG (oH d (iT (ids d.2.1)) (iT (ids d.2.2.1)) (iT (ids d.2.2.2.1)) (iT (ids d.2.2.2.2.1)) m)=some (T.v (Value.int .i64 (kG d m))):=by
 rw[ADN];unfold u5;dsimp only;rw[hm];exact oS hs _
def BCV {d:aB} (hs:nQ d) (hk:BB d=true):uF (oG d (iT (ids d.2.1)) (iT (ids d.2.2.1)) (iT (ids d.2.2.2.1)) (iT (ids d.2.2.2.2.1)))=some (T.v (Value.int .i64 (iL d))):=by
 rw[ADM];unfold uZ;dsimp only;rw[hk];exact oS hs _
def jU:aM Tryz.prog 26 cM:=BE5 λd m r h hb=>by
 cases h;have hd:BdS aC d:=hb.1;have hs:nQ d:=⟨hd.2.1.1,hd.2.2.1.1,hd.2.2.2.1.1,hd.2.2.2.2.1.1,hd.2.2.2.2.2.1⟩
 have hkl:∀ k∈d.2.2.2.2.1,(jR k).length<=140737488355328/\(gJ k).length<=140737488355328:=λk hk=>by
  have h:=hd.2.2.2.2.1.2 k hk;exact ⟨h.2.2.1.1,h.2.2.2.2.1⟩
 clear hd;have is:∀ {n:Int},iF d m=n->pPP n=pPP (iF d m):=λh=>by rw[h]
 unfold AIH BTL BTB BSL BR9 BSG BSE BSC BR6 BR5 BSY BRV BRM BRK;refine aH (s:=[(false,.int .i64)]) (y:=CE m) (AD2 ..) ?_;refine lA (λh=>is (by unfold iF;rw[if_pos h])) λh0=>?_;have hm:=BEL h0;refine aH (s:=[(false,.bool)]) (y:=isName d.1) x6 ?_;have n0:¬ ¬ CE m=0:=λh=>h h0;refine jI (λh=>is (by unfold iF;rw[if_neg n0,if_pos h])) λhn=>?_;have n1:¬ isName d.1=false:=by rw[hn];decide
 refine L0 (es:=iT (ids d.2.1)) (by rw[ad];exact BKO hs.n) ?_;refine L0 (es:=iT (ids d.2.2.1)) (by rw[ad];exact BKP hs.p) ?_;refine L0 (es:=iT (ids d.2.2.2.1)) (by rw[ad];exact BKQ hs.s) ?_;refine L0 (es:=iT (ids d.2.2.2.2.1)) (by rw[ad];exact BKR hs.k) ?_;refine aH (s:=[(false,.int .i64)]) (y:=oK d) ((AUX ..).trans (oS hs _)) ?_;refine lA (λh=>is (by unfold iF;rw[if_neg n0,if_neg n1,if_pos h])) λh1=>?_;have n2:¬ ¬ oK d=0:=λh=>h h1;have hk:BB d=true:=by
  simp only[BB,ac,ae,all_eq_true];refine ⟨hkl,?_⟩;have hlong:nH d=false:=by
   rw[Bool.eq_false_iff];intro h;unfold oK at h1;rw[if_pos h] at h1;cases h1
  simp only[nH,Bool.or_eq_false_iff,decide_eq_false_iff_not] at hlong;omega
 refine aH (s:=[(false,.int .i64)]) (y:=kD d) ((ADE ..).trans (oS hs _)) ?_;refine lA (λh=>is (by unfold iF;rw[if_neg n0,if_neg n1,if_neg n2,if_pos h])) λh2=>?_;have n3:¬ ¬ kD d=0:=λh=>h h2;refine aH (s:=[(false,.int .i64)]) (y:=kG d m) (BCW hs hm) ?_;refine lA (λh=>is (by unfold iF;rw[if_neg n0,if_neg n1,if_neg n2,if_neg n3,if_pos h])) λh3=>?_;have n4:¬ ¬ kG d m=0:=λh=>h h3;refine aH (s:=[(false,.int .i64)]) (y:=cF (rE d) d.2.2.2.1) ((ADF ..).trans (oS hs _)) ?_;refine lA (λh=>is (by unfold iF;rw[if_neg n0,if_neg n1,if_neg n2,if_neg n3,if_neg n4,if_pos h])) λh4=>?_;have n5:¬ ¬ cF (rE d) d.2.2.2.1=0:=λh=>h h4;refine aH (s:=[(false,.int .i64)]) (y:=iL d) (BCV hs hk) ?_;refine lA (λh=>is (by unfold iF;rw[if_neg n0,if_neg n1,if_neg n2,if_neg n3,if_neg n4,if_neg n5,if_pos h])) λh5=>?_;have n6:¬ ¬ iL d=0:=λh=>h h5;refine aH (s:=[(false,.int .i64)]) (y:=cF (zQ d) d.2.2.2.2.2) ((ADD ..).trans (oS hs _)) ?_;exact is (by unfold iF;rw[if_neg n0,if_neg n1,if_neg n2,if_neg n3,if_neg n4,if_neg n5,if_neg n6])
def j9 (after:α->α->Bool) (l:List α) (x:α):List α:=l.take (l.findIdx λy=>after y x)++x::l.drop (l.findIdx λy=>after y x)
def gE (is:α->Bool) (l:List α):List α:=l.take (l.findIdx is)++l.drop (l.findIdx is+1)
variable {after:α->α->Bool}{y:α}
def P6 {l:List α} {x:α}:y∈j9 after l x↔y=x\/y∈l:=by
 unfold j9;rw[mem_append,mem_cons];constructor
 ·rintro (h|h|h)
  ·exact .inr (List.mem_of_mem_take h)
  ·exact .inl h
  ·exact .inr (List.mem_of_mem_drop h)
 ·rintro (h|h)
  ·exact .inr (.inl h)
  ·rw[<-List.take_append_drop (l.findIdx λy=>after y x) l,mem_append] at h;rcases h with h|h
   ·exact .inl h
   ·exact .inr (.inr h)
variable {is:α->Bool}
def OX {l:List α} (h:y∈gE is l):y∈l:=by
 unfold gE at h;rcases mem_append.1 h with h|h
 ·exact List.mem_of_mem_take h
 ·exact List.mem_of_mem_drop h
def A6F {l:List α} {x:α}:(j9 after l x).length=l.length+1:=by
 unfold j9;have:l.findIdx (λy=>after y x)<=l.length:=List.findIdx_le_length;rw[List.length_append,length_cons,length_take,List.length_drop];omega
def ACL {l:List α}:(gE is l).length<=l.length:=by
 unfold gE;rw[List.length_append,length_take,List.length_drop];omega
def ATF {β:Type} {f:α->β} {l:List α} (hn:(l.map f).Nodup) (his:∀ x y,is x=true->is y=true->f x=f y):∀ y∈gE is l,is y=false:=by
 induction l with
 | nil=>intro y h;simp[gE] at h
 | cons a l ih =>
  obtain ⟨h1,h2⟩:=pairwise_cons.1 (show (f a::l.map f).Nodup from hn);intro y hy;unfold gE at hy;rw[List.findIdx_cons] at hy;cases ha:is a with
  | true =>
   rw[ha] at hy;simp only[cond_true,List.take_zero,List.nil_append,Nat.zero_add,List.drop_succ_cons,drop_zero] at hy;cases hb:is y with
   | false=>rfl
   | true=>exact absurd (his a y ha hb) (h1 _ (List.mem_map.2 ⟨y,hy,rfl⟩))
  | false =>
   rw[ha] at hy;simp only[cond_false,List.take_succ_cons,List.drop_succ_cons,List.cons_append,mem_cons] at hy;rcases hy with rfl|hy
   ·exact ha
   ·exact ih h2 y hy
abbrev dG:Type:=iII×iII×cH×bB×cJ×aT×cQ
abbrev oI:Type:=aB×aG×dG
abbrev fT (x:aZ):iII:=x.2.1
abbrev eTo (x:aZ):iII:=x.2.2.1
abbrev r5 (x:aZ):cH:=x.2.2.2.1
abbrev cN (x:aZ):bB:=x.2.2.2.2.1
abbrev r6 (x:aZ):cJ:=x.2.2.2.2.2.1
abbrev fF (x:aZ):aT:=x.2.2.2.2.2.2.1
abbrev nN (x:aZ):cQ:=x.2.2.2.2.2.2.2
def cC:iII:=⟨#[]⟩
def jY:cQ:=(0,⟨#[]⟩,⟨#[]⟩)
def iR:aB:=(⟨#[]⟩,[],[],[],[],[])
def dN (x:aZ):aZ :=
 if x.1=1 then (x.1,cC,cC,r5 x,dO,fB,noPack,jY)
 else if x.1=3\/x.1=5 then (x.1,cC,cC,fA,cN x,fB,noPack,jY)
 else if x.1=6 then (x.1,fT x,eTo x,fA,dO,fB,noPack,jY)
 else if x.1=7 then (x.1,cC,cC,fA,dO,r6 x,noPack,jY)
 else if x.1=9 then (x.1,cC,cC,fA,dO,fB,fF x,jY)
 else if x.1=11\/x.1=12 then (x.1,cC,cC,fA,dO,fB,noPack,nN x)
 else (x.1,fT x,cC,fA,dO,fB,noPack,jY)
def iP (d:aB) (x:aZ):Bool :=
 if x.1=1 then (eV d (r5 x).1).isSome
 else if x.1=2 then (eV d (fT x)).isSome
 else if x.1=3\/x.1=5 then (partOf d (cN x).1).isSome
 else if x.1=4\/x.1=6 then (partOf d (fT x)).isSome
 else if x.1=7 then (oA d (r6 x).1).isSome
 else if x.1=8 then (oA d (fT x)).isSome
 else if x.1=9 then (iB d (fF x).1).isSome
 else if x.1=10 then (iB d (fT x)).isSome
 else d.2.2.2.2.2.any λn=>decide (n=nN x)
def nM (x:aZ):Bool:=decide (x.1=1)||decide (x.1=3)||decide (x.1=7)||decide (x.1=9)||decide (x.1=11)
def gtS (a b:iII):Bool:=cY b a
def eX (a b:iII×α):Bool:=gtS a.1 b.1
def DD (a b:cQ):Bool:=ltN b a
def JT (a:iII):cY a a=false:=by
 rw[Bool.eq_false_iff];intro h;exact lt_irrefl _ ((nE a a).1 h)
def BM0 {a b c:iII} (h1:cY a b=true) (h2:cY b c=true):cY a c=true:=(nE a c).2 (lt_trans ((nE a b).1 h1) ((nE b c).1 h2))
def cR (id:iII) (a:iII×α):Bool:=decide (a.1=id)
def ALJ (l:List iII) (x:iII):Bool:=l.any λy=>decide (y=x)
def lL (d:aB) (id:iII):Bool:=(d.2.2.1.any λp=>decide (mO p=id))||((d.2.1.any λn=>decide (n.2.2=id))||((d.2.2.2.2.1.any λk=>decide (k.2.1=id))||(d.2.2.2.2.2.any λn=>decide (n.2.1=id)||(decide (n.2.2=id) && !decide (n.1=3)))))
def oX (d:aB) (id:iII):Bool:=(d.2.2.2.1.any λs=>decide (s.2.1=id)||decide (s.2.2.1=id))||(d.2.2.2.2.1.any λk=>ALJ k.2.2.1 id)
def rH (d:aB) (id:iII):Bool:=((gE (cR id) d.2.2.2.2.1).any λk=>ALJ k.2.2.2.2 id)||(d.2.2.2.2.2.any λn=>decide (n.1=3)&&decide (n.2.2=id))
def sS (d:aB) (x:aZ):Bool:=if x.1=2 then lL d (fT x) else if x.1=4 then oX d (fT x) else if x.1=10 then rH d (fT x) else false
def AMP (p old:bB):bB:=(p.1,i64.wrap (old.2.1+1),p.2.2)
def ALW (p:bB) (id:iII):bB:=(p.1,p.2.1,p.2.2.1,id,p.2.2.2.2)
def OL (is:α->Bool) (f:α->α) (l:List α):List α:=l.modify (l.findIdx is) f
def r4 (d:aB) (x:aZ):aB :=
 if x.1=1 then (d.1,j9 eX d.2.1 (r5 x),d.2.2)
 else if x.1=2 then (d.1,gE (cR (fT x)) d.2.1,d.2.2)
 else if x.1=3 then (d.1,d.2.1,j9 eX d.2.2.1 (cN x),d.2.2.2)
 else if x.1=4 then (d.1,d.2.1,gE (cR (fT x)) d.2.2.1,d.2.2.2)
 else if x.1=5 then (d.1,d.2.1,OL (cR (cN x).1) (AMP (cN x)) d.2.2.1,d.2.2.2)
 else if x.1=6 then (d.1,d.2.1,OL (cR (fT x)) (λp=>ALW p (eTo x)) d.2.2.1,d.2.2.2)
 else if x.1=7 then (d.1,d.2.1,d.2.2.1,j9 eX d.2.2.2.1 (r6 x),d.2.2.2.2)
 else if x.1=8 then (d.1,d.2.1,d.2.2.1,gE (cR (fT x)) d.2.2.2.1,d.2.2.2.2)
 else if x.1=9 then (d.1,d.2.1,d.2.2.1,d.2.2.2.1,j9 eX d.2.2.2.2.1 (fF x),d.2.2.2.2.2)
 else if x.1=10 then (d.1,d.2.1,d.2.2.1,d.2.2.2.1,gE (cR (fT x)) d.2.2.2.2.1,d.2.2.2.2.2)
 else if x.1=11 then (d.1,d.2.1,d.2.2.1,d.2.2.2.1,d.2.2.2.2.1,j9 DD d.2.2.2.2.2 (nN x))
 else (d.1,d.2.1,d.2.2.1,d.2.2.2.1,d.2.2.2.2.1,gE (λn=>decide (n=nN x)) d.2.2.2.2.2)
def b6 (d:aB) (m:aG) (x:aZ):aB×Int :=
 if ¬ (1<=x.1/\x.1<=12) then (iR,10)
 else if mB x (dN x)=false\/(x.1=5/\¬ (cN x).2.1=0) then (iR,2)
 else if nM x=true/\iP d x=true then (iR,7)
 else if nM x=false/\iP d x=false then (iR,8)
 else if x.1=5/\¬ mO (found dO (partOf d (cN x).1)).1=mO (cN x) then (iR,2)
 else if sS d x=true then (iR,34)
 else if iF (r4 d x) m=0 then (r4 d x,0) else (iR,iF (r4 d x) m)
structure EK (d:aB) (m:aG) (x:aZ):Prop where
 kind:1<=x.1/\x.1<=12
 plain:x=dN x
 rev:x.1=5->(cN x).2.1=0
 there:iP d x = !nM x
 node:x.1=5->mO (found dO (partOf d (cN x).1)).1=mO (cN x)
 free:sS d x=false
 chk:iF (r4 d x) m=0
 eq:b6 d m x=(r4 d x,0)
def XJ {d:aB} {x:aZ} (h:(b6 d m x).2=0):EK d m x:=by
 have h0:=h;unfold b6 at h;split at h
 ·cases h
 rename_i h1;split at h
 ·cases h
 rename_i h2;split at h
 ·cases h
 rename_i h3;split at h
 ·cases h
 rename_i h4;split at h
 ·cases h
 rename_i h5;split at h
 ·cases h
 rename_i h6;split at h
 ·rename_i h7;have h1:1<=x.1/\x.1<=12:=Classical.byContradiction h1;refine ⟨h1,Classical.byContradiction λhc=>h2 (.inl (xP hc)),λhk=>Classical.byContradiction λhc=>h2 (.inr ⟨hk,hc⟩),?_,λhk=>Classical.byContradiction λhc=>h5 ⟨hk,hc⟩,by simpa using h6,h7,?_⟩
  ·cases ha:nM x<;>cases ht:iP d x
   ·exact absurd ⟨ha,ht⟩ h4
   ·rfl
   ·rfl
   ·exact absurd ⟨ha,ht⟩ h3
  ·unfold b6;rw[if_neg (λh=>h h1),if_neg h2,if_neg h3,if_neg h4,if_neg h5,if_neg h6,if_pos h7]
 ·rename_i h7;exact absurd h h7
def A30 {l:List (iII×α)} (hn:(ids l).Nodup) {id:iII}:((gE (cR id) l).find? λs=>decide (s.1=id)).isSome=false:=by
 cases hf:(gE (cR id) l).find? λs=>decide (s.1=id) with
 | none=>rfl
 | some a =>
  have h1:=List.mem_of_find?_eq_some hf;have h2:=ATF (f:=λs:iII×α=>s.1) (is:=cR id) hn (λx y hx hy=>(of_decide_eq_true hx).trans (of_decide_eq_true hy).symm) a h1;have h3:=List.find?_some hf;unfold cR at h2;rw[h3] at h2;cases h2
def okS (s:iII):Bool:=decide (s.size<=1099511627776)
def A59 (l:List iII) (x:iII):Bool:=l.any λy=>decide (y=x)
def AD (x:List iII×iII):Option T:=some (Sh.enc pC (A59 x.1 x.2))
def BAG:Env:=Env.of []
def BB3:FuncId->Hint:=bT 21 [(2,.inv [.val 5 false (.int .i64)])] (λ_=>aX)
def ARV:aQ Tryz.prog BAG:=.nil _
def WI(a0:List iII)(a1:iII)(R:T->Prop):Prop:=a7 (Int×PUnit) (λX0 s1=>aD (decide (s1.1<(↑(List.map Sy.str.enc a0).length:Int))) (aP Sy.str (List.map Sy.str.enc a0) s1.1 λ(y2:iII)=>aD (decide (y2=a1)) (R BRO) (BR4 X0 s1)) (R BRI)) (0,())
abbrev ZG:Sh:=[(false,Sy.str.li),(false,Sy.str)]
def FP:List T->Option T:=gS ZG AD
def AK0 {a0 a1}:FP [T.sl false (List.map Sy.str.enc a0),pPQ a1]=AD (a0,a1):=bA (s:=ZG) rfl (a0,a1) rfl
def A7P:qN Tryz.prog 21 FP AD (bY ZG) WI:=gL (a1:=(false,Sy.str.li)) (a2:=(false,Sy.str)) (Hs:=BB3) (k:=8) ARV aR aU (aL rfl) ⟨_,_,Tryz.func21,rfl⟩ rfl λ_ _ _=>by kernel_rfl
def AJH {p:α->Bool} {l:List α} {k:Nat} (h:k<l.length):(l.drop k).any p=(p l[k]||(l.drop (k+1)).any p):=by rw[drop_eq_getElem_cons h,List.any_cons]
def A4B:aM Tryz.prog 21 FP:=A7P λl x r h hb=>by
 cases h;have hl:l.length<=2 ^ 47:=hb.1.1;unfold WI BR4 BRO BRI;refine bI l.length (λk s=>s=((k:Int),())/\A59 l x=(l.drop k).any λy=>decide (y=x)) ⟨rfl,rfl⟩ ?_;rintro X k s hk ⟨rfl,he⟩ hX;dsimp only;by_cases hlt:k<l.length
 ·rw[AJH hlt] at he;refine fG (by simp[hlt]) ?_;rw[bC (r:=.str) hlt];by_cases h1:l[k]=x
  ·refine fG h1 ?_;rw[he,ah h1];rfl
  ·refine gW h1 (hX _ hlt ⟨by rw[show i64.wrap ((k:Int)+1)=((k+1:Nat):Int) from bD _ (by omega) (by omega)],?_⟩);rw[he,ai h1,Bool.false_or]
 ·have:k=l.length:=by omega
  subst this;refine gW (by simp) ?_;rw[he,drop_length];rfl
def okI (d:aB):Bool:=d.2.1.all (λn=>okS n.1)&&d.2.2.1.all (λp=>okS p.1&&okS (mO p))&&d.2.2.2.1.all (λs=>okS s.1&&(okS s.2.1&&okS s.2.2.1))&&d.2.2.2.2.1.all (λk=>okS k.1)
structure BQL (d:aB):Prop where
 few:few d 1000=true
 n:d.2.1.length<=1000
 p:d.2.2.1.length<=1000
 s:d.2.2.2.1.length<=1000
 k:d.2.2.2.2.1.length<=1000
 r:d.2.2.2.2.2.length<=1000
 kl:∀ k∈d.2.2.2.2.1,(jR k).length<=1000/\(gJ k).length<=1000
 BA:BA d=true
 zR:zR d=true
structure UOk (d:aB):Prop extends BQL d where
 nI:∀ n∈d.2.1,okS n.1=true
 pI:∀ p∈d.2.2.1,okS p.1=true/\okS (mO p)=true
 sI:∀ s∈d.2.2.2.1,okS s.1=true/\okS s.2.1=true/\okS s.2.2.1=true
 kI:∀ k∈d.2.2.2.2.1,okS k.1=true
def qF (a b:iII):(!(cY b a||decide (b=a)))=cY a b:=by
 rw[Bool.eq_iff_iff];refine ⟨λh=>(nE a b).2 (AOL h),λh=>?_⟩;have h1:=(nE a b).1 h;have h2:cY b a=false:=by
  rw[Bool.eq_false_iff];intro h3;exact lt_irrefl _ (lt_trans h1 ((nE b a).1 h3))
 have h3:¬ b=a:=λe=>by rw[e] at h1;exact lt_irrefl _ h1
 rw[h2,ai h3];rfl
def dk {l:List iII} {rows:List (List T)} {K:List iII->Prop} (e:rows=List.map Sy.str.enc l) (h:K l):bZ Sy.str rows K:=by
 subst e;rw[dW (r:=.str) rfl];exact h
def cX {r:Sy} {l:List r.den} (p:r.den->Bool) {Body:(Int×PUnit->Prop)->Int×PUnit->r.den->Prop} {Fin:Prop} (hl:l.length<=140737488355328)
  (hB:∀ (X:Int×PUnit->Prop) (k:Nat) (y:r.den) (h:k<l.length),l[k]=y->(p y=true->l.findIdx p=k/\l.any p=true)->(p y=false->X (i64.wrap ((k:Int)+1),()))->Body X ((k:Int),()) y)
  (hF:l.findIdx p=l.length->l.any p=false->Fin) :
  a7 (Int×PUnit) (λX s=>aD (decide (s.1<((List.map r.enc l).length:Int))) (aP r (List.map r.enc l) s.1 λy=>Body X s y) Fin) (0,()):=by
 refine bI l.length (λk s=>s=((k:Int),())/\∀ i,(h:i<l.length)->i<k->p l[i]=false) ⟨rfl,λi _ h=>by omega⟩ ?_;rintro X k s hk ⟨rfl,he⟩ hX;dsimp only;refine bV (λhlt=>?_) λhge=>?_
 ·rw[ad] at hlt;have hlt:k<l.length:=by omega
  rw[bC (r:=r) hlt];refine hB X k _ hlt rfl (λhp=>⟨?_,List.any_eq_true.2 ⟨_,aj hlt,hp⟩⟩) λhp=>hX _ hlt ⟨?_,λi hi hik=>?_⟩
  ·exact (List.findIdx_eq hlt).2 ⟨hp,λj hj=>he j (by omega) hj⟩
  ·rw[show i64.wrap ((k:Int)+1)=((k+1:Nat):Int) by rw[bD]<;>omega]
  ·rcases Nat.lt_or_ge i k with h|h
   ·exact he i hi h
   ·have:i=k:=by omega
    subst this;exact hp
 ·rw[ad] at hge;have hall:∀ y∈l,p y=false:=λy hy=>by
   obtain ⟨i,hi,rfl⟩:=List.mem_iff_getElem.1 hy;exact he i hi (by omega)
  exact hF (List.findIdx_eq_length_of_false λy hy=>by simpa using hall y hy) (List.any_eq_false.2 λy hy=>by simp[hall y hy])
def pB {n:Nat} (h:n<=1000):n<=140737488355328:=by omega
def xM {l:List α} (h:l.findIdx is=l.length):gE is l=l:=by
 unfold gE;rw[h,List.take_length,List.drop_eq_nil_of_le (by omega),List.append_nil]
def sZ {r:Sy} {z b k:Nat} {f:Bool} {l:List r.den} {x:r.den} (hz:r.w=z) (hk:k<=l.length) (hl:l.length<=1000) (hb:b<=1000):XT z b (List.map r.enc l) [.v (.int .i64 (k:Int)),.sl f [r.enc x]]=some (List.map r.enc (l.take k++x::l.drop k)):=by
 unfold XT;have hm:(l.length+1)*b<=1001*1000:=Nat.mul_le_mul (by omega) hb;have hc:(decide (0<=(k:Int))&&decide ((k:Int).toNat<=(List.map r.enc l).length)&&decide ((r.enc x).length=z)&&eP z (List.map r.enc l)&&decide (((List.map r.enc l).length+1)*b<=140737488355328)&&decide ((List.map r.enc l).length+1<=140737488355328))=true:=by
  subst hz;simp only[ad,Int.toNat_natCast,Sy.dA,tQ,ac,ae,and_true];omega
 dsimp only;rw[hc];simp
def H5 {r:Sy} {z k:Nat} {l:List r.den} (hz:r.w=z) (hk:k<l.length) (hl:l.length<=1000):XS z (List.map r.enc l) [.v (.int .i64 (k:Int)),.v (.int .i64 (i64.wrap ((k:Int)+1)))]=some (List.map r.enc (l.take k++l.drop (k+1))):=by
 unfold XS;have hw:i64.wrap ((k:Int)+1)=(k:Int)+1:=by rw[bD]<;>omega
 have hc:(decide (0<=(k:Int))&&decide (i64.wrap ((k:Int)+1)=(k:Int)+1)&&decide ((k:Int).toNat<(List.map r.enc l).length)&&eP z (List.map r.enc l))=true:=by
  subst hz;rw[hw];simp only[ad,Int.toNat_natCast,tQ,ac,ae,and_true];omega
 dsimp only;rw[hc];simp
def Z5 (x:aZ):Option T:=some (Sh.enc [(true,aN)] ((x.1,cC,cC,r5 x,dO,fB,noPack,jY):aZ))
def BNU:Env:=Env.of []
def BOF:FuncId->Hint:=λ_=>aX
def BBI:aQ Tryz.prog BNU:=.nil _
def A0Y(a0:aZ)(R:T->Prop):Prop:=R ((aF true aN (a0.1,cC,cC,a0.2.2.2.1,dO,fB,noPack,jY)))
abbrev A9F:Sh:=[(true,aN)]
def AD8:List T->Option T:=gS A9F Z5
def A5P {a0}:AD8 [aF true aN a0]=Z5 (a0):=bA (s:=A9F) rfl (a0) rfl
def BL5:qM Tryz.prog 193 AD8 Z5 (bY A9F) A0Y:=gK (a1:=(true,aN)) (Hs:=BOF) (k:=8) BBI aR aU (aL rfl) ⟨_,_,Tryz.func193,rfl⟩ rfl λ_ _=>by kernel_rfl
def BJ9:aM Tryz.prog 193 AD8:=BL5 λx r h hb=>by
 cases h;unfold A0Y;rfl
def Z6 (x:aZ):Option T:=some (Sh.enc [(true,aN)] ((x.1,fT x,cC,fA,dO,fB,noPack,jY):aZ))
def BNV:Env:=Env.of []
def BOG:FuncId->Hint:=λ_=>aX
def BBJ:aQ Tryz.prog BNV:=.nil _
def BS8(a0:aZ):T:=aF true aN (a0.1,a0.2.1,cC,fA,dO,fB,noPack,jY)
def A0Z(a0:aZ)(R:T->Prop):Prop:=R ((BS8 a0))
abbrev A9G:Sh:=[(true,aN)]
def AD9:List T->Option T:=gS A9G Z6
def A5Q {a0}:AD9 [aF true aN a0]=Z6 (a0):=bA (s:=A9G) rfl (a0) rfl
def BL6:qM Tryz.prog 201 AD9 Z6 (bY A9G) A0Z:=gK (a1:=(true,aN)) (Hs:=BOG) (k:=8) BBJ aR aU (aL rfl) ⟨_,_,Tryz.func201,rfl⟩ rfl λ_ _=>by kernel_rfl
def BKA:aM Tryz.prog 201 AD9:=BL6 λx r h hb=>by
 cases h;unfold A0Z BS8;rfl
def Z7 (x:aZ):Option T:=some (Sh.enc [(true,aN)] ((x.1,cC,cC,fA,cN x,fB,noPack,jY):aZ))
def BNW:Env:=Env.of []
def BOH:FuncId->Hint:=λ_=>aX
def BBK:aQ Tryz.prog BNW:=.nil _
def A00(a0:aZ)(R:T->Prop):Prop:=R ((aF true aN (a0.1,cC,cC,fA,a0.2.2.2.2.1,fB,noPack,jY)))
abbrev A9H:Sh:=[(true,aN)]
def AEA:List T->Option T:=gS A9H Z7
def A5R {a0}:AEA [aF true aN a0]=Z7 (a0):=bA (s:=A9H) rfl (a0) rfl
def BL7:qM Tryz.prog 213 AEA Z7 (bY A9H) A00:=gK (a1:=(true,aN)) (Hs:=BOH) (k:=8) BBK aR aU (aL rfl) ⟨_,_,Tryz.func213,rfl⟩ rfl λ_ _=>by kernel_rfl
def BKB:aM Tryz.prog 213 AEA:=BL7 λx r h hb=>by
 cases h;unfold A00;rfl
def Z8 (x:aZ):Option T:=some (Sh.enc [(true,aN)] ((x.1,fT x,cC,fA,dO,fB,noPack,jY):aZ))
def BNX:Env:=Env.of []
def BOI:FuncId->Hint:=λ_=>aX
def BBL:aQ Tryz.prog BNX:=.nil _
def A01(a0:aZ)(R:T->Prop):Prop:=R ((BS8 a0))
abbrev A9I:Sh:=[(true,aN)]
def AEB:List T->Option T:=gS A9I Z8
def A5S {a0}:AEB [aF true aN a0]=Z8 (a0):=bA (s:=A9I) rfl (a0) rfl
def BL8:qM Tryz.prog 220 AEB Z8 (bY A9I) A01:=gK (a1:=(true,aN)) (Hs:=BOI) (k:=8) BBL aR aU (aL rfl) ⟨_,_,Tryz.func220,rfl⟩ rfl λ_ _=>by kernel_rfl
def BKC:aM Tryz.prog 220 AEB:=BL8 λx r h hb=>by
 cases h;unfold A01 BS8;rfl
def AAB (x:aZ):Option T:=some (Sh.enc [(true,aN)] ((x.1,cC,cC,fA,dO,r6 x,noPack,jY):aZ))
def BN0:Env:=Env.of []
def BOL:FuncId->Hint:=λ_=>aX
def BBO:aQ Tryz.prog BN0:=.nil _
def A04(a0:aZ)(R:T->Prop):Prop:=R ((aF true aN (a0.1,cC,cC,fA,dO,a0.2.2.2.2.2.1,noPack,jY)))
abbrev A9L:Sh:=[(true,aN)]
def AEC:List T->Option T:=gS A9L AAB
def A5V {a0}:AEC [aF true aN a0]=AAB (a0):=bA (s:=A9L) rfl (a0) rfl
def BMB:qM Tryz.prog 241 AEC AAB (bY A9L) A04:=gK (a1:=(true,aN)) (Hs:=BOL) (k:=8) BBO aR aU (aL rfl) ⟨_,_,Tryz.func241,rfl⟩ rfl λ_ _=>by kernel_rfl
def BKF:aM Tryz.prog 241 AEC:=BMB λx r h hb=>by
 cases h;unfold A04;rfl
def AAC (x:aZ):Option T:=some (Sh.enc [(true,aN)] ((x.1,fT x,cC,fA,dO,fB,noPack,jY):aZ))
def BN1:Env:=Env.of []
def BOM:FuncId->Hint:=λ_=>aX
def BBP:aQ Tryz.prog BN1:=.nil _
def A05(a0:aZ)(R:T->Prop):Prop:=R ((BS8 a0))
abbrev A9M:Sh:=[(true,aN)]
def AED:List T->Option T:=gS A9M AAC
def A5W {a0}:AED [aF true aN a0]=AAC (a0):=bA (s:=A9M) rfl (a0) rfl
def BMC:qM Tryz.prog 249 AED AAC (bY A9M) A05:=gK (a1:=(true,aN)) (Hs:=BOM) (k:=8) BBP aR aU (aL rfl) ⟨_,_,Tryz.func249,rfl⟩ rfl λ_ _=>by kernel_rfl
def BKG:aM Tryz.prog 249 AED:=BMC λx r h hb=>by
 cases h;unfold A05 BS8;rfl
def AAD (x:aZ):Option T:=some (Sh.enc [(true,aN)] ((x.1,cC,cC,fA,dO,fB,fF x,jY):aZ))
def BN2:Env:=Env.of []
def BON:FuncId->Hint:=λ_=>aX
def BBQ:aQ Tryz.prog BN2:=.nil _
def A06(a0:aZ)(R:T->Prop):Prop:=R ((aF true aN (a0.1,cC,cC,fA,dO,fB,a0.2.2.2.2.2.2.1,jY)))
abbrev A9N:Sh:=[(true,aN)]
def AEE:List T->Option T:=gS A9N AAD
def A5X {a0}:AEE [aF true aN a0]=AAD (a0):=bA (s:=A9N) rfl (a0) rfl
def BMD:qM Tryz.prog 261 AEE AAD (bY A9N) A06:=gK (a1:=(true,aN)) (Hs:=BON) (k:=8) BBQ aR aU (aL rfl) ⟨_,_,Tryz.func261,rfl⟩ rfl λ_ _=>by kernel_rfl
def BKH:aM Tryz.prog 261 AEE:=BMD λx r h hb=>by
 cases h;unfold A06;rfl
def MC (x:aZ):Option T:=some (Sh.enc [(true,aN)] ((x.1,fT x,cC,fA,dO,fB,noPack,jY):aZ))
def BH5:Env:=Env.of []
def BIR:FuncId->Hint:=λ_=>aX
def AZI:aQ Tryz.prog BH5:=.nil _
def AIX(a0:aZ)(R:T->Prop):Prop:=R ((BS8 a0))
abbrev AM0:Sh:=[(true,aN)]
def PZ:List T->Option T:=gS AM0 MC
def AU1 {a0}:PZ [aF true aN a0]=MC (a0):=bA (s:=AM0) rfl (a0) rfl
def BFI:qM Tryz.prog 270 PZ MC (bY AM0) AIX:=gK (a1:=(true,aN)) (Hs:=BIR) (k:=8) AZI aR aU (aL rfl) ⟨_,_,Tryz.func270,rfl⟩ rfl λ_ _=>by kernel_rfl
def BDT:aM Tryz.prog 270 PZ:=BFI λx r h hb=>by
 cases h;unfold AIX BS8;rfl
def MD (x:aZ):Option T:=some (Sh.enc [(true,aN)] ((x.1,cC,cC,fA,dO,fB,noPack,nN x):aZ))
def BH6:Env:=Env.of []
def BIS:FuncId->Hint:=λ_=>aX
def AZJ:aQ Tryz.prog BH6:=.nil _
def AIY(a0:aZ)(R:T->Prop):Prop:=R ((aF true aN (a0.1,cC,cC,fA,dO,fB,noPack,a0.2.2.2.2.2.2.2)))
abbrev AM1:Sh:=[(true,aN)]
def vU:List T->Option T:=gS AM1 MD
def UJ {a0}:vU [aF true aN a0]=MD (a0):=bA (s:=AM1) rfl (a0) rfl
def BFJ:qM Tryz.prog 276 vU MD (bY AM1) AIY:=gK (a1:=(true,aN)) (Hs:=BIS) (k:=8) AZJ aR aU (aL rfl) ⟨_,_,Tryz.func276,rfl⟩ rfl λ_ _=>by kernel_rfl
def AO6:aM Tryz.prog 276 vU:=BFJ λx r h hb=>by
 cases h;unfold AIY;rfl
def B0 (x:aB×aZ):Option T:=some (pPR false)
def AY0:Env:=Env.of []
def A2H:FuncId->Hint:=λ_=>aX
def AIA:aQ Tryz.prog AY0:=.nil _
def N2(a0:aB)(a1:aZ)(R:T->Prop):Prop:=R BRI
abbrev RN:Sh:=[(true,aC),(true,aN)]
def j8:List T->Option T:=gS RN B0
def KV {a0 a1}:j8 [aF true aC a0,aF true aN a1]=B0 (a0,a1):=bA (s:=RN) rfl (a0,a1) rfl
def AWW:qN Tryz.prog 229 j8 B0 (bY RN) N2:=gL (a1:=(true,aC)) (a2:=(true,aN)) (Hs:=A2H) (k:=8) AIA aR aU (aL rfl) ⟨_,_,Tryz.func229,rfl⟩ rfl λ_ _ _=>by kernel_rfl
def tZ:aM Tryz.prog 229 j8:=AWW λd x r h hb=>by
 cases h;unfold N2 BRI;rfl
def tE {c:Bool} {a r:T} (h:(match c with|true=>some a|false=>none)=some r):c=true/\a=r:=by
 cases c with
 | true=>exact ⟨rfl,Option.some.inj h⟩
 | false=>cases h
def HA (x:aB×aZ):Option T:=match rJ x.1 with
 | true=>some (pPR (oX x.1 (fT x.2)))
 | false=>none
def BAT:Env:=Env.of []
def BCG:FuncId->Hint:=bT 304 [(2,.inv [.val 8 false (.int .i64)])] (bT 309 [(2,.inv [.val 8 false (.int .i64)])] (bT 310 [(2,.inv [.val 8 false (.int .i64)])] (λ_=>aX)))
def ASA:aQ Tryz.prog BAT:=.nil _
def BSB(a0:aB)(a1:aZ)(R:T->Prop):Prop:=a7 (Int×PUnit) (λX3 s4=>aD (decide (s4.1<(↑(BR6 a0).length:Int))) (aP aE (BR6 a0) s4.1 λ(y5:aT)=>a7 (Int×PUnit) (λX6 s7=>aD (decide (s7.1<(↑(BS7 y5).length:Int))) (aP Sy.str (BS7 y5) s7.1 λ(y8:iII)=>aD (decide (a1.2.1=y8)) (aD (decide (0<=s7.1)) (R (BSZ s4)) (BR4 X3 s4)) (BR4 X6 s7)) (BR4 X3 s4)) (0,())) (R BRI)) (0,())
def WY(a0:aB)(a1:aZ)(R:T->Prop):Prop:=a7 (Int×PUnit) (λX0 s1=>aD (decide (s1.1<(↑(BSE a0).length:Int))) (aP aV (BSE a0) s1.1 λ(y2:cJ)=>aD (decide (y2.2.1=a1.2.1)) (aD (decide (0<=s1.1)) (R BRO) (BSB a0 a1 R)) (aD (decide (y2.2.2.1=a1.2.1)) (aD (decide (0<=s1.1)) (R BRO) (BSB a0 a1 R)) (BR4 X0 s1))) (BSB a0 a1 R)) (0,())
abbrev ZU:Sh:=[(true,aC),(true,aN)]
def FZ:List T->Option T:=gS ZU HA
def ALH {a0 a1}:FZ [aF true aC a0,aF true aN a1]=HA (a0,a1):=bA (s:=ZU) rfl (a0,a1) rfl
def A74:qN Tryz.prog 208 FZ HA (bY ZU) WY:=gL (a1:=(true,aC)) (a2:=(true,aN)) (Hs:=BCG) (k:=8) ASA aR aU (aL rfl) ⟨_,_,Tryz.func208,rfl⟩ rfl λ_ _ _=>by kernel_rfl
def A4Q:aM Tryz.prog 208 FZ:=A74 λd x r h hb=>by
 clear hb;obtain ⟨hp,rfl⟩:=tE h;clear h;have c:=fO hp;have hk:∀ k∈d.2.2.2.2.1,k.2.2.1.length<=140737488355328/\k.2.2.2.2.length<=140737488355328:=λk hk=>by
  have:=all_eq_true.1 c.zR k hk;simp only[dI,dX,ac,ae] at this;exact ⟨this.1.2,this.2.2⟩
 have is:∀ {b:Bool},oX d (fT x)=b->pPR b=pPR (oX d (fT x)):=λh=>by rw[h]
 have pos:∀ {k:Nat},¬ (0<=(k:Int))->False:=λh=>h (by omega);unfold WY BSB BS7 BSE BR6 BSZ BR4 BRO BRI;refine cX (r:=aV) (λs=>decide (s.2.1=fT x)||decide (s.2.2.1=fT x)) (pB c.s) (λX k y hlt hy hp hn=>?_) (λ_ h1=>?_)
 ·dsimp only;have yes:(decide (y.2.1=fT x)||decide (y.2.2.1=fT x))=true->oX d (fT x)=true:=λh=>by unfold oX;rw[(hp h).2];rfl
  refine bV (λh=>bV (λ_=>is (yes (by rw[ah h];rfl))) λh=>(pos h).elim) λh=>?_;refine bV (λh2=>bV (λ_=>is (yes (by rw[ah h2,Bool.or_true]))) λh=>(pos h).elim) λh2=>hn ?_;rw[ai h,ai h2];rfl
 ·refine cX (r:=aE) (λk=>ALJ k.2.2.1 (fT x)) (pB c.k) (λX k y hlt hy hp hn=>?_) (λ_ h2=>is ?_)
  ·dsimp only;refine cX (r:=.str) (λz=>decide (z=fT x)) (hk y (by rw[<-hy];exact aj hlt)).1 (λY j z hj hz hp2 hn2=>?_) (λ_ h3=>hn h3);dsimp only;refine bV (λh=>bV (λ_=>is ?_) λh=>(pos h).elim) λh=>hn2 (ai λe=>h e.symm);have:=(hp (hp2 (ah h.symm)).2).2;rw[show decide ((0:Int)<=(k:Int))=true from ah (by omega)];unfold oX;rw[this,Bool.or_true]
  ·unfold oX;rw[h1,h2];rfl
def G8 (x:aB×aZ):Option T:=match rJ x.1 with
 | true=>some (pPR (lL x.1 (fT x.2)))
 | false=>none
def BAR:Env:=Env.of []
def BCE:FuncId->Hint:=bT 231 [(2,.inv [.val 8 false (.int .i64)])] (bT 303 [(2,.inv [.val 8 false (.int .i64)])] (bT 304 [(2,.inv [.val 8 false (.int .i64)])] (bT 305 [(2,.inv [.val 8 false (.int .i64)])] (λ_=>aX))))
def AR8:aQ Tryz.prog BAR:=.nil _
def BTJ(a0:aB)(s10:Int×PUnit)(a1:aZ)(R:T->Prop)(X9:Int×PUnit->Prop):Prop:=aP aW (BR5 a0) s10.1 λ(y11:cQ)=>aD (decide (y11.2.1=a1.2.1)) (R (BSZ s10)) (aD (decide (y11.2.2=a1.2.1)) (aD (!decide (y11.1=3)) (R (BSZ s10)) (BR4 X9 s10)) (BR4 X9 s10))
def BR3(a0:aB)(a1:aZ)(R:T->Prop):Prop:=a7 (Int×PUnit) (λX12 s13=>aD (decide (s13.1<(↑(BR5 a0).length:Int))) (BTJ a0 s13 a1 R X12) (R BRI)) (0,())
def BSK(a0:aB)(a1:aZ)(R:T->Prop):Prop:=a7 (Int×PUnit) (λX15 s16=>aD (decide (s16.1<(↑(BR6 a0).length:Int))) (aP aE (BR6 a0) s16.1 λ(y17:aT)=>aD (decide (y17.2.1=a1.2.1)) (aD (decide (0<=s16.1)) (R BRO) (BR3 a0 a1 R)) (BR4 X15 s16)) (BR3 a0 a1 R)) (0,())
def WW(a0:aB)(a1:aZ)(R:T->Prop):Prop:=a7 (Int×PUnit) (λX0 s1=>aD (decide (s1.1<(↑(BSC a0).length:Int))) (aP aJ (BSC a0) s1.1 λ(y2:bB)=>aD (decide (y2.2.2.2.1=a1.2.1)) (aD (decide (0<=s1.1)) (R BRO) (a7 (Int×PUnit) (λX3 s4=>aD (decide (s4.1<(↑(BSG a0).length:Int))) (aP aS (BSG a0) s4.1 λ(y5:cH)=>aD (decide (y5.2.2=a1.2.1)) (aD (decide (0<=s4.1)) (R BRO) (a7 (Int×PUnit) (λX6 s7=>aD (decide (s7.1<(↑(BR6 a0).length:Int))) (aP aE (BR6 a0) s7.1 λ(y8:aT)=>aD (decide (y8.2.1=a1.2.1)) (aD (decide (0<=s7.1)) (R BRO) (a7 (Int×PUnit) (λX9 s10=>aD (decide (s10.1 < (↑(BR5 a0).length:Int))) (BTJ a0 s10 a1 R X9) (R BRI)) (0,()))) (BR4 X6 s7)) (BR3 a0 a1 R)) (0,()))) (BR4 X3 s4)) (BSK a0 a1 R)) (0,()))) (BR4 X0 s1)) (a7 (Int×PUnit) (λX24 s25=>aD (decide (s25.1<(↑(BSG a0).length:Int))) (aP aS (BSG a0) s25.1 λ(y26:cH)=>aD (decide (y26.2.2=a1.2.1)) (aD (decide (0<=s25.1)) (R BRO) (BSK a0 a1 R)) (BR4 X24 s25)) (BSK a0 a1 R)) (0,()))) (0,())
abbrev ZS:Sh:=[(true,aC),(true,aN)]
def FX:List T->Option T:=gS ZS G8
def ALF {a0 a1}:FX [aF true aC a0,aF true aN a1]=G8 (a0,a1):=bA (s:=ZS) rfl (a0,a1) rfl
def A72:qN Tryz.prog 184 FX G8 (bY ZS) WW:=gL (a1:=(true,aC)) (a2:=(true,aN)) (Hs:=BCE) (k:=8) AR8 aR aU (aL rfl) ⟨_,_,Tryz.func184,rfl⟩ rfl λ_ _ _=>by kernel_rfl
def A4O:aM Tryz.prog 184 FX:=A72 λd x r h hb=>by
 clear hb;obtain ⟨hp,rfl⟩:=tE h;clear h;have c:=fO hp;have is:∀ {b:Bool},lL d (fT x)=b->pPR b=pPR (lL d (fT x)):=λh=>by rw[h]
 have pos:∀ {k:Nat},¬ (0<=(k:Int))->False:=λh=>h (by omega);have d0:∀ {k:Nat},decide ((0:Int)<=(k:Int))=true:=ah (by omega);unfold WW BSK BSG BSC BR6 BR3 BTJ BSZ BR4 BR5 BRO BRI;refine cX (r:=aJ) (λp=>decide (mO p=fT x)) (pB c.p) (λX k y hlt hy hp hn=>?_) (λ_ h1=>?_)
 ·dsimp only;exact bV (λh=>bV (λ_=>is (by unfold lL;rw[(hp (ah h)).2];rfl)) λh=>(pos h).elim) λh=>hn (ai h)
 refine cX (r:=aS) (λn=>decide (n.2.2=fT x)) (pB c.n) (λX k y hlt hy hp hn=>?_) (λ_ h2=>?_)
 ·dsimp only;exact bV (λh=>bV (λ_=>is (by unfold lL;rw[h1,(hp (ah h)).2];rfl)) λh=>(pos h).elim) λh=>hn (ai h)
 refine cX (r:=aE) (λk=>decide (k.2.1=fT x)) (pB c.k) (λX k y hlt hy hp hn=>?_) (λ_ h3=>?_)
 ·dsimp only;exact bV (λh=>bV (λ_=>is (by unfold lL;rw[h1,h2,(hp (ah h)).2];rfl)) λh=>(pos h).elim) λh=>hn (ai h)
 refine cX (r:=aW) (λn=>decide (n.2.1=fT x)||(decide (n.2.2=fT x) && !decide (n.1=3))) (pB c.r) (λX k y hlt hy hp hn=>?_) (λ_ h4=>is (by unfold lL;rw[h1,h2,h3,h4];rfl));dsimp only;have yes:(decide (y.2.1=fT x)||(decide (y.2.2=fT x) && !decide (y.1=3)))=true->lL d (fT x)=decide ((0:Int)<=(k:Int)):=λh=>by rw[d0];unfold lL;rw[h1,h2,h3,(hp h).2];rfl
 refine bV (λh=>is (yes (by rw[ah h];rfl))) λa1=>?_;refine bV (λa2=>?_) λa2=>hn (by rw[ai a1,ai a2];rfl);refine lA (λa3=>is (yes (by rw[ah a2,ai a3];simp))) λa3=>hn (by rw[ai a1,ah a3,Bool.not_true,Bool.and_false];rfl)
def G9 (x:aB×aZ):Option T:=match rJ x.1 with
 | true=>some (pPR (rH x.1 (fT x.2)))
 | false=>none
def BAS:Env:=Env.of [(159,.dup 5 88),(317,.grow 5 mU)]
def BCF:FuncId->Hint:=bT 304 [(2,.inv [.val 8 false (.int .i64)])] (bT 305 [(2,.inv [.val 8 false (.int .i64)])] (bT 310 [(2,.inv [.val 8 false (.int .i64)])] (λ_=>aX)))
def AR9:aQ Tryz.prog BAS:=aQ.cons (x:=.dup 5 88) oE (.cons CN (.nil _))
def BSD(a0:aB)(a1:aZ)(R:T->Prop):Prop:=a7 (Int×PUnit) (λX13 s14=>aD (decide (s14.1<(↑(BR5 a0).length:Int))) (aP aW (BR5 a0) s14.1 λ(y15:cQ)=>aD (decide (y15.1=3)) (aD (decide (y15.2.2=a1.2.1)) (R (BSZ s14)) (BR4 X13 s14)) (BR4 X13 s14)) (R BRI)) (0,())
def BSH(y6:aT)(a1:aZ)(s4:Int×PUnit)(R:T->Prop)(a0:aB)(X3:Int×PUnit->Prop):Prop:=a7 (Int×PUnit) (λX7 s8=>aD (decide (s8.1<(↑(BSW y6).length:Int))) (aP Sy.str (BSW y6) s8.1 λ(y9:iII)=>aD (decide (a1.2.1=y9)) (aD (decide (0<=s8.1)) (aD (decide (0<=s4.1)) (R BRO) (a7 (Int×PUnit) (λX10 s11=>aD (decide (s11.1 < (↑(BR5 a0).length:Int))) (aP aW (BR5 a0) s11.1 λ(y12:cQ)=>aD (decide (y12.1=3)) (aD (decide (y12.2.2=a1.2.1)) (R (BSZ s11)) (BR4 X10 s11)) (BR4 X10 s11)) (R BRI)) (0,()))) (BR4 X3 s4)) (BR4 X7 s8)) (BR4 X3 s4)) (0,())
def BSS(s1:Int×PUnit):List T:=[pPP s1.1, pPP (i64.wrap (s1.1+1))]
def WX(a0:aB)(a1:aZ)(R:T->Prop):Prop:=a7 (Int×PUnit) (λX0 s1=>aD (decide (s1.1<(↑(BR6 a0).length:Int))) (aP aE (BR6 a0) s1.1 λ(y2:aT)=>aD (decide (y2.1=a1.2.1)) (aD (decide (s1.1<0)) (bH (((BR6 a0).all λ(r:List T)=>decide (r.length=5)) && decide ((BR6 a0).length*88<=140737488355328) && decide ((BR6 a0).length<=140737488355328)) (a7 (Int×PUnit) (λX3 s4=>aD (decide (s4.1<(↑(BR6 a0).length:Int))) (aP aE (BR6 a0) s4.1 λ(y5:aT)=>eK aE (BR6 a0) (Int.toNat s4.1) 0 λ(y6:aT)=>BSH y6 a1 s4 R a0 X3) (BSD a0 a1 R)) (0,()))) (bH (((BR6 a0).all λ(r:List T)=>decide (r.length=5)) && decide ((BR6 a0).length*88<=140737488355328) && decide ((BR6 a0).length<=140737488355328)) (bP aE (mU (BR6 a0) (BSS s1)) λ(y16:List aT)=>a7 (Int×PUnit) (λX17 s18=>aD (decide (s18.1<(↑(List.map aE.enc y16).length:Int))) (aP aE (List.map aE.enc y16) s18.1 λ(y19:aT)=>eK aE (List.map aE.enc y16) (Int.toNat s18.1) 0 λ(y20:aT)=>BSH y20 a1 s18 R a0 X17) (BSD a0 a1 R)) (0,())))) (BR4 X0 s1)) (bH (((BR6 a0).all λ(r:List T)=>decide (r.length=5)) && decide ((BR6 a0).length*88<=140737488355328) && decide ((BR6 a0).length<=140737488355328)) (a7 (Int×PUnit) (λX30 s31=>aD (decide (s31.1<(↑(BR6 a0).length:Int))) (aP aE (BR6 a0) s31.1 λ(y32:aT)=>eK aE (BR6 a0) (Int.toNat s31.1) 0 λ(y33:aT)=>a7 (Int×PUnit) (λX34 s35=>aD (decide (s35.1<(↑(BSW y33).length:Int))) (aP Sy.str (BSW y33) s35.1 λ(y36:iII)=>aD (decide (a1.2.1=y36)) (aD (decide (0<=s35.1)) (aD (decide (0<=s31.1)) (R BRO) (BSD a0 a1 R)) (BR4 X30 s31)) (BR4 X34 s35)) (BR4 X30 s31)) (0,())) (BSD a0 a1 R)) (0,())))) (0,())
abbrev ZT:Sh:=[(true,aC),(true,aN)]
def FY:List T->Option T:=gS ZT G9
def ALG {a0 a1}:FY [aF true aC a0,aF true aN a1]=G9 (a0,a1):=bA (s:=ZT) rfl (a0,a1) rfl
def A73:qN Tryz.prog 256 FY G9 (bY ZT) WX:=gL (a1:=(true,aC)) (a2:=(true,aN)) (Hs:=BCF) (k:=8) AR9 aR aU (aL rfl) ⟨_,_,Tryz.func256,rfl⟩ rfl λ_ _ _=>by kernel_rfl
def A4P:aM Tryz.prog 256 FY:=A73 λd x r h hb=>by
 clear hb;obtain ⟨hp,rfl⟩:=tE h;clear h;have c:=fO hp;have hk:∀ k∈d.2.2.2.2.1,k.2.2.1.length<=140737488355328/\k.2.2.2.2.length<=140737488355328:=λk hk=>by
  have:=all_eq_true.1 c.zR k hk;simp only[dI,dX,ac,ae] at this;exact ⟨this.1.2,this.2.2⟩
 have is:∀ {b:Bool},rH d (fT x)=b->pPR b=pPR (rH d (fT x)):=λh=>by rw[h]
 have pos:∀ {k:Nat},¬ (0<=(k:Int))->False:=λh=>h (by omega);have d0:∀ {k:Nat},decide ((0:Int)<=(k:Int))=true:=ah (by omega);have hd:=xN (r:=aE) (l:=d.2.2.2.2.1) (z:=5) (b:=88) rfl (dR c.k (by decide));unfold WX BSS BSH BSW BSD BR6 BSZ BR4 BR5 BRO BRI;refine cX (r:=aE) (λy=>cR (fT x) y) (pB c.k) (λX k y hlt hy hp hn=>?_) (λh0 _=>?_)
 ·dsimp only;refine bV (λh=>?_) λh=>hn (ai h);obtain ⟨hi,_⟩:=hp (ah h);refine bV (λh=>by omega) λ_=>⟨hd,?_⟩
  have eL:gE (cR (fT x)) d.2.2.2.2.1=d.2.2.2.2.1.take k++d.2.2.2.2.1.drop (k+1):=by
   unfold gE;rw[show List.findIdx (cR (fT x)) d.2.2.2.2.1=k from hi]
  refine eE (r:=aE) (l:=gE (cR (fT x)) d.2.2.2.2.1) (by rw[eL];exact H5 (r:=aE) rfl hlt c.k) _ ?_;have hL:(gE (cR (fT x)) d.2.2.2.2.1).length<=1000:=Nat.le_trans ACL c.k;have hkL:∀ k∈gE (cR (fT x)) d.2.2.2.2.1,k.2.2.2.2.length<=140737488355328:=λk h=>(hk k (OX h)).2;have hV:rH d (fT x)=(((gE (cR (fT x)) d.2.2.2.2.1).any λk=>ALJ k.2.2.2.2 (fT x))||(d.2.2.2.2.2.any λn=>decide (n.1=3)&&decide (n.2.2=fT x))):=rfl;clear hp hn eL;generalize gE (cR (fT x)) d.2.2.2.2.1=L at *;refine cX (r:=aE) (λk=>ALJ k.2.2.2.2 (fT x)) (pB hL) (λX k y hlt hy hp hn=>?_) (λ_ h2=>?_)
  ·dsimp only;rw[show Int.toNat (k:Int)=k from rfl,jJ (r:=aE) hlt,hy];refine cX (r:=.str) (λz=>decide (z=fT x)) (hkL y (by rw[<-hy];exact aj hlt)) (λY j z hj hz hp2 hn2=>?_) (λ_ h3=>hn h3);dsimp only;refine bV (λh=>bV (λ_=>bV (λ_=>is ?_) λh=>(pos h).elim) λh=>(pos h).elim) λh=>hn2 (ai λe=>h e.symm);rw[hV,(hp (hp2 (ah h.symm)).2).2];rfl
  ·refine cX (r:=aW) (λn=>decide (n.1=3)&&decide (n.2.2=fT x)) (pB c.r) (λX k y hlt hy hp hn=>?_) (λ_ h4=>is (by rw[hV,h2,h4];rfl));dsimp only;refine bV (λa1=>?_) λa1=>hn (by rw[ai a1];rfl);refine bV (λa2=>is ?_) λa2=>hn (by rw[ai a2,Bool.and_false]);rw[d0,hV,(hp (by rw[ah a1,ah a2];rfl)).2,Bool.or_true]
 ·refine ⟨hd,?_⟩;have hV:rH d (fT x)=((d.2.2.2.2.1.any λk=>ALJ k.2.2.2.2 (fT x))||(d.2.2.2.2.2.any λn=>decide (n.1=3)&&decide (n.2.2=fT x))):=by unfold rH;rw[xM (is:=cR (fT x)) h0]
  have hL:=c.k;have hkL:∀ k∈d.2.2.2.2.1,k.2.2.2.2.length<=140737488355328:=λk h=>(hk k h).2;refine cX (r:=aE) (λk=>ALJ k.2.2.2.2 (fT x)) (pB hL) (λX k y hlt hy hp hn=>?_) (λ_ h2=>?_)
  ·dsimp only;rw[show Int.toNat (k:Int)=k from rfl,jJ (r:=aE) hlt,hy];refine cX (r:=.str) (λz=>decide (z=fT x)) (hkL y (by rw[<-hy];exact aj hlt)) (λY j z hj hz hp2 hn2=>?_) (λ_ h3=>hn h3);dsimp only;refine bV (λh=>bV (λ_=>bV (λ_=>is ?_) λh=>(pos h).elim) λh=>(pos h).elim) λh=>hn2 (ai λe=>h e.symm);rw[hV,(hp (hp2 (ah h.symm)).2).2];rfl
  ·refine cX (r:=aW) (λn=>decide (n.1=3)&&decide (n.2.2=fT x)) (pB c.r) (λX k y hlt hy hp hn=>?_) (λ_ h4=>is (by rw[hV,h2,h4];rfl));dsimp only;refine bV (λa1=>?_) λa1=>hn (by rw[ai a1];rfl);refine bV (λa2=>is ?_) λa2=>hn (by rw[ai a2,Bool.and_false]);rw[d0,hV,(hp (by rw[ah a1,ah a2];rfl)).2,Bool.or_true]
def tU (lt gt:Bool):Int:=match lt,gt with
 | true,_=>-1
 | false,true=>1
 | false,false=>0
def L8 (x:Int×Int):Option T:=some (T.v (Value.int .i64 (tU (decide (x.1<x.2)) (decide (x.2<x.1)))))
def L9 (x:iII×iII):Option T:=some (T.v (Value.int .i64 (tU (cY x.1 x.2) (cY x.2 x.1))))
def orE:List Int->Int
 | []=>0
 | a::l=>if a=0 then orE l else a
def ANT (l:List Int):Option T:=some (T.v (Value.int .i64 (orE l)))
def BHX:Env:=Env.of []
def BIJ:FuncId->Hint:=λ_=>aX
def AY7:aQ Tryz.prog BHX:=.nil _
def AII(a0:Int)(a1:Int)(R:T->Prop):Prop:=aD (!decide (a0=a0)) (aD (!decide (a1=a1)) (R BRN) (R BRT)) (aD (!decide (a1=a1)) (R BRX) (aD (decide (a0<a1)) (R BRT) (aD (decide (a1<a0)) (R BRX) (R BRN))))
abbrev AMS:Sh:=[(false,(Sy.int IntKind.i64)),(false,(Sy.int IntKind.i64))]
def PR:List T->Option T:=gS AMS L8
def AUT {a0 a1}:PR [pPP a0,pPP a1]=L8 (a0,a1):=bA (s:=AMS) rfl (a0,a1) rfl
def BE6:qN Tryz.prog 282 PR L8 (bY AMS) AII:=gL (a1:=(false,(Sy.int IntKind.i64))) (a2:=(false,(Sy.int IntKind.i64))) (Hs:=BIJ) (k:=8) AY7 aR aU (aL rfl) ⟨_,_,Tryz.func282,rfl⟩ rfl λ_ _ _=>by kernel_rfl
def BDK:aM Tryz.prog 282 PR:=BE6 λa b r h hb=>by
 cases h;unfold AII BRX BRT BRN;refine lA (λh=>absurd rfl h) λ_=>lA (λh=>absurd rfl h) λ_=>?_;refine bV (λh=>by unfold tU;rw[ah h]) λh=>?_;refine bV (λh2=>by unfold tU;rw[ai h,ah h2]) λh2=>by unfold tU;rw[ai h,ai h2]
def BHY:Env:=Env.of []
def BIK:FuncId->Hint:=λ_=>aX
def AY8:aQ Tryz.prog BHY:=.nil _
def AIJ(a0:iII)(a1:iII)(R:T->Prop):Prop:=aD (!decide (a0=a0)) (aD (!decide (a1=a1)) (R BRN) (R BRT)) (aD (!decide (a1=a1)) (R BRX) (aD (cY a0 a1) (R BRT) (aD (!(cY a0 a1||decide (a0=a1))) (R BRX) (R BRN))))
abbrev AMT:Sh:=[(false,Sy.str),(false,Sy.str)]
def IF:List T->Option T:=gS AMT L9
def UC {a0 a1}:IF [pPQ a0,pPQ a1]=L9 (a0,a1):=bA (s:=AMT) rfl (a0,a1) rfl
def BE7:qN Tryz.prog 283 IF L9 (bY AMT) AIJ:=gL (a1:=(false,Sy.str)) (a2:=(false,Sy.str)) (Hs:=BIK) (k:=8) AY8 aR aU (aL rfl) ⟨_,_,Tryz.func283,rfl⟩ rfl λ_ _ _=>by kernel_rfl
def BDL:aM Tryz.prog 283 IF:=BE7 λa b r h hb=>by
 cases h;unfold AIJ BRX BRT BRN;refine lA (λh=>absurd rfl h) λ_=>lA (λh=>absurd rfl h) λ_=>?_;rw[qF];refine IU (λh=>by unfold tU;rw[h]) λh=>?_;refine IU (λh2=>by unfold tU;rw[h,h2]) λh2=>by unfold tU;rw[h,h2]
def KB (a0:List Int):List T:=[T.sl true (List.map (Sy.int .i64).enc a0)]
def AYG:Env:=Env.of []
def BGU:FuncId->Hint:=bT 281 [(3,.inv [.val 8 false (.int .i64)])] (λ_=>aX)
def BBH:aQ Tryz.prog AYG:=.nil _
def A0W(a0:List Int)(R:T->Prop):Prop:=a7 (Int×PUnit) (λX0 s1=>aD (decide (s1.1<(↑(List.map BRQ.enc a0).length:Int))) (aP BRQ (List.map BRQ.enc a0) s1.1 λ(y2:Int)=>aD (!decide (y2=0)) (R (BSY y2)) (BR4 X0 s1)) (R BRN)) (0,())
def A0X ( a0 R):dV bS Tryz.prog AYG BGU 8 281 (KB a0) R=A0W a0 R:=by kernel_rfl
def AQ5 (x y:List Int) (h:KB x=KB y):x=y:=by
 simp only[KB,List.cons.injEq,T.sl.injEq,true_and,and_true] at h;exact map_inj (Sy.c0 (.int .i64)) h
def AD5:List T->Option (T):=gA (λ(x:List Int)=>KB x) ANT
def A5O (a0:List Int):AD5 (KB a0)=ANT a0:=eR (A:=(λ(x:List Int)=>KB x)) AQ5 a0
def BL4 (h:∀ (a0:List Int) (r:T),ANT a0=some r->(∀ t∈KB a0,Bd t)->A0W a0 (λy=>y=r)):aM Tryz.prog 281 AD5 :=
 cG (E:=AYG) (Hs:=BGU) BBH aR aU (aL rfl) 8 ⟨_,_,Tryz.func281,rfl⟩ λx r h1 h2=>by
  rw[A0X];exact h x r h1 h2
def BJ8:aM Tryz.prog 281 AD5:=BL4 λl r h hb=>by
 have hl:l.length<=2 ^ 47:=by
  have:=((BGE _ _).1 (hb _ al)).1;simpa using this
 cases h;have is:∀ {n:Int},orE l=n->pPP n=pPP (orE l):=λh=>by rw[h]
 unfold A0W BR4 BSY BRQ BRN;refine bI l.length (λk s=>s=((k:Int),())/\orE (l.drop k)=orE l) ⟨rfl,rfl⟩ ?_;rintro X k s hk ⟨rfl,he⟩ hX;dsimp only;refine bV (λhlt=>?_) λhge=>?_
 ·rw[ad] at hlt;have hlt:k<l.length:=by omega
  rw[bC (r:=.int .i64) hlt];rw[drop_eq_getElem_cons hlt,orE] at he;refine lA (λh=>is ?_) λh=>hX _ hlt ⟨?_,?_⟩
  ·rw[if_neg h] at he;exact he.symm
  ·rw[show i64.wrap ((k:Int)+1)=((k+1:Nat):Int) by rw[bD]<;>omega]
  ·rw[if_pos h] at he;exact he
 ·rw[ad] at hge;rw[List.drop_eq_nil_of_le (by omega)] at he;exact is he.symm
def BP (x:cQ×cQ):Option T:=some (pPR (DD x.1 x.2))
def AYF:Env:=Env.of [(282,.pure PR),(283,.pure IF),(281,.pure AD5)]
def A11:FuncId->Hint:=λ_=>aX
def AHT:aQ Tryz.prog AYF:=.cons BDK (.cons BDL (.cons BJ8 (.nil _)))
def NL(a0:cQ)(a1:cQ)(R:T->Prop):Prop:=aI BRK (PR [pPP a0.1,pPP a1.1]) λ(y0:Int)=>aI BRK (IF [pPQ a0.2.1,pPQ a1.2.1]) λ(y1:Int)=>aI BRK (IF [pPQ a0.2.2,pPQ a1.2.2]) λ(y2:Int)=>aI BRK (AD5 [T.sl true [[pPP y0],[pPP y1], [pPP y2]]]) λ(y3:Int)=>R (pPR (decide (0<y3)))
abbrev Q7:Sh:=[(true,aW),(true,aW)]
def qW:List T->Option T:=gS Q7 BP
def AD4 {a0 a1}:qW [aF true aW a0,aF true aW a1]=BP (a0,a1):=bA (s:=Q7) rfl (a0,a1) rfl
def AWF:qN Tryz.prog 280 qW BP (bY Q7) NL:=gL (a1:=(true,aW)) (a2:=(true,aW)) (Hs:=A11) (k:=8) AHT aR aU (aL rfl) ⟨_,_,Tryz.func280,rfl⟩ rfl λ_ _ _=>by kernel_rfl
def T2:aM Tryz.prog 280 qW:=AWF λa b r h hb=>by
 cases h;unfold NL BRK;refine aH (s:=[(false,.int .i64)]) (AUT ..) ?_;refine aH (s:=[(false,.int .i64)]) (UC ..) ?_;refine aH (s:=[(false,.int .i64)]) (UC ..) ?_;refine aH (s:=[(false,.int .i64)]) (y:=orE [tU (decide (a.1<b.1)) (decide (b.1<a.1)),tU (cY a.2.1 b.2.1) (cY b.2.1 a.2.1),tU (cY a.2.2 b.2.2) (cY b.2.2 a.2.2)]) (A5O [tU (decide (a.1<b.1)) (decide (b.1<a.1)),tU (cY a.2.1 b.2.1) (cY b.2.1 a.2.1),tU (cY a.2.2 b.2.2) (cY b.2.2 a.2.2)]) ?_;refine jE ?_;unfold DD ltN;have tot:∀ {s t:iII},cY s t=true->cY t s=false/\decide (t=s)=false:=λ{s t} h=>by
  refine ⟨?_,ai λe=>?_⟩
  ·rw[Bool.eq_false_iff];intro h2;have:=BM0 h h2;rw[JT] at this;cases this
  ·rw[e,JT] at h;cases h
 have eqS:∀ {s t:iII},cY s t=false->cY t s=false->decide (t=s)=true:=λ{s t} h1 h2=>by
  have h3:=qF s t;rw[h1,h2] at h3;simpa using h3
 rcases Int.lt_trichotomy a.1 b.1 with h|h|h
 ·rw[ah h,ai (show ¬ b.1<a.1 by omega),ai (show ¬ b.1=a.1 by omega)];simp[tU,orE]
 ·rw[ai (show ¬ a.1<b.1 by omega),ai (show ¬ b.1<a.1 by omega),ah h.symm];cases h1:cY a.2.1 b.2.1 with
  | true=>rw[(tot h1).1,(tot h1).2];simp[tU,orE]
  | false =>
   cases h2:cY b.2.1 a.2.1 with
   | true=>simp[tU,orE]
   | false =>
    rw[eqS h1 h2];cases h3:cY a.2.2 b.2.2 with
    | true=>rw[(tot h3).1];simp[tU,orE]
    | false=>cases h4:cY b.2.2 a.2.2<;>simp[tU,orE]
 ·rw[ai (show ¬ a.1<b.1 by omega),ah h];simp[tU,orE]
def AP0 (d:aB) (x:aZ):aB:=(d.1,j9 eX d.2.1 (r5 x),d.2.2)
def JY (x:aB×aZ):Option T:=match rJ x.1 with
 | true=>some (Sh.enc [(true,aC)] (AP0 x.1 x.2))
 | false=>none
def BNM:Env:=Env.of [(69,.dup 3 40),(307,.grow 3 uH)]
def BN7:FuncId->Hint:=bT 303 [(2,.inv [.val 8 false (.int .i64)])] (λ_=>aX)
def BA4:aQ Tryz.prog BNM:=aQ.cons (x:=.dup 3 40) DO (.cons AKE (.nil _))
def BTE(a0:aB)(y4:List cH):T:=aF true aC (a0.1,y4,a0.2.2.1,a0.2.2.2.1,a0.2.2.2.2.1,a0.2.2.2.2.2)
def BTP(a1:aZ):List T:=[pPQ a1.2.2.2.1.1, pPP a1.2.2.2.1.2.1, pPQ a1.2.2.2.1.2.2]
def BSN(a0:aB)(a1:aZ)(R:T->Prop):Prop:=bH (((BSG a0).all λ(r:List T)=>decide (r.length=3)) && decide ((BSG a0).length*40<=140737488355328) && decide ((BSG a0).length<=140737488355328)) (bP aS (uH (BSG a0) [pPP (↑(BSG a0).length:Int), T.sl true [(BTP a1)]]) λ(y3:List cH)=>R ((BTE a0 y3)))
def A0E(a0:aB)(a1:aZ)(R:T->Prop):Prop:=a7 (Int×PUnit) (λX0 s1=>aD (decide (s1.1<(↑(BSG a0).length:Int))) (aP aS (BSG a0) s1.1 λ(y2:cH)=>aD (!(cY y2.1 a1.2.2.2.1.1||decide (y2.1=a1.2.2.2.1.1))) (aD (decide (s1.1<0)) (BSN a0 a1 R) (bH (((BSG a0).all λ(r:List T)=>decide (r.length=3)) && decide ((BSG a0).length*40<=140737488355328) && decide ((BSG a0).length<=140737488355328)) (bP aS (uH (BSG a0) [pPP s1.1, T.sl true [(BTP a1)]]) λ(y4:List cH)=>R ((BTE a0 y4))))) (BR4 X0 s1)) (BSN a0 a1 R)) (0,())
abbrev A87:Sh:=[(true,aC),(true,aN)]
def ADO:List T->Option T:=gS A87 JY
def A5B {a0 a1}:ADO [aF true aC a0,aF true aN a1]=JY (a0,a1):=bA (s:=A87) rfl (a0,a1) rfl
def BLR:qN Tryz.prog 196 ADO JY (bY A87) A0E:=gL (a1:=(true,aC)) (a2:=(true,aN)) (Hs:=BN7) (k:=8) BA4 aR aU (aL rfl) ⟨_,_,Tryz.func196,rfl⟩ rfl λ_ _ _=>by kernel_rfl
def BJS:aM Tryz.prog 196 ADO:=BLR λd x r h hb=>by
 clear hb;have hp:rJ d=true:=by
  unfold JY at h;split at h
  ·assumption
  ·cases h
 have e:Sh.enc [(true,aC)] (AP0 d x)=r:=by
  unfold JY at h;rw[show rJ (d,x).1=true from hp] at h;exact Option.some.inj h
 subst e;clear h;have c:=fO hp;have hd:=xN (r:=aS) (l:=d.2.1) (z:=3) (b:=40) rfl (dR c.n (by decide));unfold A0E BSN BTP BTE BSG BR4;refine cX (r:=aS) (λy=>eX y (r5 x)) (pB c.n) (λX k y hk hy hp hn=>?_) (λh _=>?_)
 ·dsimp only;rw[qF];refine IU (λh=>?_) λh=>hn h;obtain ⟨hi,_⟩:=hp h;refine bV (λh=>by omega) λ_=>⟨hd,?_⟩
  refine eE (r:=aS) (l:=d.2.1.take k++r5 x::d.2.1.drop k) (sZ (r:=aS) (x:=r5 x) rfl (by omega) c.n (by decide)) _ ?_;unfold AP0 j9;rw[hi];rfl
 ·refine ⟨hd,?_⟩;rw[show (((List.map (aS).enc d.2.1).length:Nat):Int)=(((d.2.1).length:Nat):Int) by rw[ad]];refine eE (r:=aS) (l:=d.2.1.take (d.2.1).length++r5 x::d.2.1.drop (d.2.1).length) (sZ (r:=aS) (x:=r5 x) rfl (ak _) c.n (by decide)) _ ?_;unfold AP0 j9;rw[h];rfl
def AP4 (d:aB) (x:aZ):aB:=(d.1,d.2.1,d.2.2.1,j9 eX d.2.2.2.1 (r6 x),d.2.2.2.2)
def J2 (x:aB×aZ):Option T:=match rJ x.1 with
 | true=>some (Sh.enc [(true,aC)] (AP4 x.1 x.2))
 | false=>none
def BNQ:Env:=Env.of [(70,.dup 6 72),(315,.grow 6 uJ)]
def BOB:FuncId->Hint:=bT 309 [(2,.inv [.val 8 false (.int .i64)])] (λ_=>aX)
def BA8:aQ Tryz.prog BNQ:=aQ.cons (x:=.dup 6 72) DQ (.cons AKG (.nil _))
def BSV(a1:aZ):List T:=[pPQ a1.2.2.2.2.2.1.1, pPQ a1.2.2.2.2.2.1.2.1, pPQ a1.2.2.2.2.2.1.2.2.1, pPP a1.2.2.2.2.2.1.2.2.2.1, pPP a1.2.2.2.2.2.1.2.2.2.2.1, pPP a1.2.2.2.2.2.1.2.2.2.2.2]
def BTG(a0:aB)(y4:List cJ):T:=aF true aC (a0.1,a0.2.1,a0.2.2.1,y4,a0.2.2.2.2.1,a0.2.2.2.2.2)
def BSJ(a0:aB)(a1:aZ)(R:T->Prop):Prop:=bH (((BSE a0).all λ(r:List T)=>decide (r.length=6)) && decide ((BSE a0).length*72<=140737488355328) && decide ((BSE a0).length<=140737488355328)) (bP aV (uJ (BSE a0) [pPP (↑(BSE a0).length:Int), T.sl true [(BSV a1)]]) λ(y3:List cJ)=>R ((BTG a0 y3)))
def A0I(a0:aB)(a1:aZ)(R:T->Prop):Prop:=a7 (Int×PUnit) (λX0 s1=>aD (decide (s1.1<(↑(BSE a0).length:Int))) (aP aV (BSE a0) s1.1 λ(y2:cJ)=>aD (!(cY y2.1 a1.2.2.2.2.2.1.1||decide (y2.1=a1.2.2.2.2.2.1.1))) (aD (decide (s1.1<0)) (BSJ a0 a1 R) (bH (((BSE a0).all λ(r:List T)=>decide (r.length=6)) && decide ((BSE a0).length*72<=140737488355328) && decide ((BSE a0).length<=140737488355328)) (bP aV (uJ (BSE a0) [pPP s1.1, T.sl true [(BSV a1)]]) λ(y4:List cJ)=>R ((BTG a0 y4))))) (BR4 X0 s1)) (BSJ a0 a1 R)) (0,())
abbrev A9B:Sh:=[(true,aC),(true,aN)]
def ADS:List T->Option T:=gS A9B J2
def A5F {a0 a1}:ADS [aF true aC a0,aF true aN a1]=J2 (a0,a1):=bA (s:=A9B) rfl (a0,a1) rfl
def BLV:qN Tryz.prog 244 ADS J2 (bY A9B) A0I:=gL (a1:=(true,aC)) (a2:=(true,aN)) (Hs:=BOB) (k:=8) BA8 aR aU (aL rfl) ⟨_,_,Tryz.func244,rfl⟩ rfl λ_ _ _=>by kernel_rfl
def BJW:aM Tryz.prog 244 ADS:=BLV λd x r h hb=>by
 clear hb;have hp:rJ d=true:=by
  unfold J2 at h;split at h
  ·assumption
  ·cases h
 have e:Sh.enc [(true,aC)] (AP4 d x)=r:=by
  unfold J2 at h;rw[show rJ (d,x).1=true from hp] at h;exact Option.some.inj h
 subst e;clear h;have c:=fO hp;have hd:=xN (r:=aV) (l:=d.2.2.2.1) (z:=6) (b:=72) rfl (dR c.s (by decide));unfold A0I BSJ BTG BSV BSE BR4;refine cX (r:=aV) (λy=>eX y (r6 x)) (pB c.s) (λX k y hk hy hp hn=>?_) (λh _=>?_)
 ·dsimp only;rw[qF];refine IU (λh=>?_) λh=>hn h;obtain ⟨hi,_⟩:=hp h;refine bV (λh=>by omega) λ_=>⟨hd,?_⟩
  refine eE (r:=aV) (l:=d.2.2.2.1.take k++r6 x::d.2.2.2.1.drop k) (sZ (r:=aV) (x:=r6 x) rfl (by omega) c.s (by decide)) _ ?_;unfold AP4 j9;rw[hi];rfl
 ·refine ⟨hd,?_⟩;rw[show (((List.map (aV).enc d.2.2.2.1).length:Nat):Int)=(((d.2.2.2.1).length:Nat):Int) by rw[ad]];refine eE (r:=aV) (l:=d.2.2.2.1.take (d.2.2.2.1).length++r6 x::d.2.2.2.1.drop (d.2.2.2.1).length) (sZ (r:=aV) (x:=r6 x) rfl (ak _) c.s (by decide)) _ ?_;unfold AP4 j9;rw[h];rfl
def AP1 (d:aB) (x:aZ):aB:=(d.1,gE (cR (fT x)) d.2.1,d.2.2)
def JZ (x:aB×aZ):Option T:=match rJ x.1 with
 | true=>some (Sh.enc [(true,aC)] (AP1 x.1 x.2))
 | false=>none
def BNN:Env:=Env.of [(69,.dup 3 40),(308,.grow 3 IG)]
def BN8:FuncId->Hint:=bT 303 [(2,.inv [.val 8 false (.int .i64)])] (λ_=>aX)
def BA5:aQ Tryz.prog BNN:=aQ.cons (x:=.dup 3 40) DO (.cons AKB (.nil _))
def BS3(a0:aB)(R:T->Prop):Prop:=bH (((BSG a0).all λ(r:List T)=>decide (r.length=3)) && decide ((BSG a0).length*40<=140737488355328) && decide ((BSG a0).length<=140737488355328)) (R (aF true aC a0))
def A0F(a0:aB)(a1:aZ)(R:T->Prop):Prop:=a7 (Int×PUnit) (λX0 s1=>aD (decide (s1.1<(↑(BSG a0).length:Int))) (aP aS (BSG a0) s1.1 λ(y2:cH)=>aD (decide (y2.1=a1.2.1)) (aD (decide (s1.1<0)) (BS3 a0 R) (bH (((BSG a0).all λ(r:List T)=>decide (r.length=3)) && decide ((BSG a0).length*40<=140737488355328) && decide ((BSG a0).length<=140737488355328)) (bP aS (IG (BSG a0) (BSS s1)) λ(y3:List cH)=>R ((BTE a0 y3))))) (BR4 X0 s1)) (BS3 a0 R)) (0,())
abbrev A88:Sh:=[(true,aC),(true,aN)]
def ADP:List T->Option T:=gS A88 JZ
def A5C {a0 a1}:ADP [aF true aC a0,aF true aN a1]=JZ (a0,a1):=bA (s:=A88) rfl (a0,a1) rfl
def BLS:qN Tryz.prog 203 ADP JZ (bY A88) A0F:=gL (a1:=(true,aC)) (a2:=(true,aN)) (Hs:=BN8) (k:=8) BA5 aR aU (aL rfl) ⟨_,_,Tryz.func203,rfl⟩ rfl λ_ _ _=>by kernel_rfl
def BJT:aM Tryz.prog 203 ADP:=BLS λd x r h hb=>by
 clear hb;have hp:rJ d=true:=by
  unfold JZ at h;split at h
  ·assumption
  ·cases h
 have e:Sh.enc [(true,aC)] (AP1 d x)=r:=by
  unfold JZ at h;rw[show rJ (d,x).1=true from hp] at h;exact Option.some.inj h
 subst e;clear h;have c:=fO hp;have hd:=xN (r:=aS) (l:=d.2.1) (z:=3) (b:=40) rfl (dR c.n (by decide));unfold A0F BS3 BSS BTE BSG BR4;refine cX (r:=aS) (λy=>cR (fT x) y) (pB c.n) (λX k y hk hy hp hn=>?_) (λh _=>?_)
 ·dsimp only;refine bV (λh=>?_) λh=>hn (ai h);obtain ⟨hi,_⟩:=hp (ah h);refine bV (λh=>by omega) λ_=>⟨hd,?_⟩
  refine eE (r:=aS) (l:=d.2.1.take k++d.2.1.drop (k+1)) (H5 (r:=aS) rfl hk c.n) _ ?_;unfold AP1 gE;rw[show List.findIdx (cR (fT x)) d.2.1=k from hi];rfl
 ·refine ⟨hd,?_⟩;unfold AP1;rw[xM (is:=cR (fT x)) h];rfl
def AP3 (d:aB) (x:aZ):aB:=(d.1,d.2.1,gE (cR (fT x)) d.2.2.1,d.2.2.2)
def J1 (x:aB×aZ):Option T:=match rJ x.1 with
 | true=>some (Sh.enc [(true,aC)] (AP3 x.1 x.2))
 | false=>none
def BNP:Env:=Env.of [(158,.dup 18 208),(313,.grow 18 IH)]
def BOA:FuncId->Hint:=bT 231 [(2,.inv [.val 8 false (.int .i64)])] (λ_=>aX)
def BA7:aQ Tryz.prog BNP:=aQ.cons (x:=.dup 18 208) DP (.cons AKC (.nil _))
def BTF(a0:aB)(y3:List bB):T:=aF true aC (a0.1,a0.2.1,y3,a0.2.2.2.1,a0.2.2.2.2.1,a0.2.2.2.2.2)
def BS2(a0:aB)(R:T->Prop):Prop:=bH (((BSC a0).all λ(r:List T)=>decide (r.length=18)) && decide ((BSC a0).length*208<=140737488355328) && decide ((BSC a0).length<=140737488355328)) (R (aF true aC a0))
def A0H(a0:aB)(a1:aZ)(R:T->Prop):Prop:=a7 (Int×PUnit) (λX0 s1=>aD (decide (s1.1<(↑(BSC a0).length:Int))) (aP aJ (BSC a0) s1.1 λ(y2:bB)=>aD (decide (y2.1=a1.2.1)) (aD (decide (s1.1<0)) (BS2 a0 R) (bH (((BSC a0).all λ(r:List T)=>decide (r.length=18)) && decide ((BSC a0).length*208<=140737488355328) && decide ((BSC a0).length<=140737488355328)) (bP aJ (IH (BSC a0) (BSS s1)) λ(y3:List bB)=>R ((BTF a0 y3))))) (BR4 X0 s1)) (BS2 a0 R)) (0,())
abbrev A9A:Sh:=[(true,aC),(true,aN)]
def ADR:List T->Option T:=gS A9A J1
def A5E {a0 a1}:ADR [aF true aC a0,aF true aN a1]=J1 (a0,a1):=bA (s:=A9A) rfl (a0,a1) rfl
def BLU:qN Tryz.prog 222 ADR J1 (bY A9A) A0H:=gL (a1:=(true,aC)) (a2:=(true,aN)) (Hs:=BOA) (k:=8) BA7 aR aU (aL rfl) ⟨_,_,Tryz.func222,rfl⟩ rfl λ_ _ _=>by kernel_rfl
def BJV:aM Tryz.prog 222 ADR:=BLU λd x r h hb=>by
 clear hb;have hp:rJ d=true:=by
  unfold J1 at h;split at h
  ·assumption
  ·cases h
 have e:Sh.enc [(true,aC)] (AP3 d x)=r:=by
  unfold J1 at h;rw[show rJ (d,x).1=true from hp] at h;exact Option.some.inj h
 subst e;clear h;have c:=fO hp;have hd:=xN (r:=aJ) (l:=d.2.2.1) (z:=18) (b:=208) rfl (dR c.p (by decide));unfold A0H BS2 BSS BTF BSC BR4;refine cX (r:=aJ) (λy=>cR (fT x) y) (pB c.p) (λX k y hk hy hp hn=>?_) (λh _=>?_)
 ·dsimp only;refine bV (λh=>?_) λh=>hn (ai h);obtain ⟨hi,_⟩:=hp (ah h);refine bV (λh=>by omega) λ_=>⟨hd,?_⟩
  refine eE (r:=aJ) (l:=d.2.2.1.take k++d.2.2.1.drop (k+1)) (H5 (r:=aJ) rfl hk c.p) _ ?_;unfold AP3 gE;rw[show List.findIdx (cR (fT x)) d.2.2.1=k from hi];rfl
 ·refine ⟨hd,?_⟩;unfold AP3;rw[xM (is:=cR (fT x)) h];rfl
def AP5 (d:aB) (x:aZ):aB:=(d.1,d.2.1,d.2.2.1,gE (cR (fT x)) d.2.2.2.1,d.2.2.2.2)
def J3 (x:aB×aZ):Option T:=match rJ x.1 with
 | true=>some (Sh.enc [(true,aC)] (AP5 x.1 x.2))
 | false=>none
def BNR:Env:=Env.of [(70,.dup 6 72),(316,.grow 6 II)]
def BOC:FuncId->Hint:=bT 309 [(2,.inv [.val 8 false (.int .i64)])] (λ_=>aX)
def BA9:aQ Tryz.prog BNR:=aQ.cons (x:=.dup 6 72) DQ (.cons AKD (.nil _))
def BS4(a0:aB)(R:T->Prop):Prop:=bH (((BSE a0).all λ(r:List T)=>decide (r.length=6)) && decide ((BSE a0).length*72<=140737488355328) && decide ((BSE a0).length<=140737488355328)) (R (aF true aC a0))
def A0J(a0:aB)(a1:aZ)(R:T->Prop):Prop:=a7 (Int×PUnit) (λX0 s1=>aD (decide (s1.1<(↑(BSE a0).length:Int))) (aP aV (BSE a0) s1.1 λ(y2:cJ)=>aD (decide (y2.1=a1.2.1)) (aD (decide (s1.1<0)) (BS4 a0 R) (bH (((BSE a0).all λ(r:List T)=>decide (r.length=6)) && decide ((BSE a0).length*72<=140737488355328) && decide ((BSE a0).length<=140737488355328)) (bP aV (II (BSE a0) (BSS s1)) λ(y3:List cJ)=>R ((BTG a0 y3))))) (BR4 X0 s1)) (BS4 a0 R)) (0,())
abbrev A9C:Sh:=[(true,aC),(true,aN)]
def ADT:List T->Option T:=gS A9C J3
def A5G {a0 a1}:ADT [aF true aC a0,aF true aN a1]=J3 (a0,a1):=bA (s:=A9C) rfl (a0,a1) rfl
def BLW:qN Tryz.prog 251 ADT J3 (bY A9C) A0J:=gL (a1:=(true,aC)) (a2:=(true,aN)) (Hs:=BOC) (k:=8) BA9 aR aU (aL rfl) ⟨_,_,Tryz.func251,rfl⟩ rfl λ_ _ _=>by kernel_rfl
def BJX:aM Tryz.prog 251 ADT:=BLW λd x r h hb=>by
 clear hb;have hp:rJ d=true:=by
  unfold J3 at h;split at h
  ·assumption
  ·cases h
 have e:Sh.enc [(true,aC)] (AP5 d x)=r:=by
  unfold J3 at h;rw[show rJ (d,x).1=true from hp] at h;exact Option.some.inj h
 subst e;clear h;have c:=fO hp;have hd:=xN (r:=aV) (l:=d.2.2.2.1) (z:=6) (b:=72) rfl (dR c.s (by decide));unfold A0J BS4 BSS BTG BSE BR4;refine cX (r:=aV) (λy=>cR (fT x) y) (pB c.s) (λX k y hk hy hp hn=>?_) (λh _=>?_)
 ·dsimp only;refine bV (λh=>?_) λh=>hn (ai h);obtain ⟨hi,_⟩:=hp (ah h);refine bV (λh=>by omega) λ_=>⟨hd,?_⟩
  refine eE (r:=aV) (l:=d.2.2.2.1.take k++d.2.2.2.1.drop (k+1)) (H5 (r:=aV) rfl hk c.s) _ ?_;unfold AP5 gE;rw[show List.findIdx (cR (fT x)) d.2.2.2.1=k from hi];rfl
 ·refine ⟨hd,?_⟩;unfold AP5;rw[xM (is:=cR (fT x)) h];rfl
def Y3 (d:aB) (x:aZ):aB:=(d.1,d.2.1,d.2.2.1,d.2.2.2.1,gE (cR (fT x)) d.2.2.2.2.1,d.2.2.2.2.2)
def BK (x:aB×aZ):Option T:=match rJ x.1 with
 | true=>some (Sh.enc [(true,aC)] (Y3 x.1 x.2))
 | false=>none
def BHZ:Env:=Env.of [(159,.dup 5 88),(317,.grow 5 mU)]
def BIL:FuncId->Hint:=bT 304 [(2,.inv [.val 8 false (.int .i64)])] (λ_=>aX)
def AY9:aQ Tryz.prog BHZ:=aQ.cons (x:=.dup 5 88) oE (.cons CN (.nil _))
def BS5(a0:aB)(y3:List aT):T:=aF true aC (a0.1,a0.2.1,a0.2.2.1,a0.2.2.2.1,y3,a0.2.2.2.2.2)
def AIM(a0:aB)(a1:aZ)(R:T->Prop):Prop:=a7 (Int×PUnit) (λX0 s1=>aD (decide (s1.1<(↑(BR6 a0).length:Int))) (aP aE (BR6 a0) s1.1 λ(y2:aT)=>aD (decide (y2.1=a1.2.1)) (aD (decide (s1.1<0)) (bH (((BR6 a0).all λ(r:List T)=>decide (r.length=5)) && decide ((BR6 a0).length*88<=140737488355328) && decide ((BR6 a0).length<=140737488355328)) (R (aF true aC a0))) (bH (((BR6 a0).all λ(r:List T)=>decide (r.length=5)) && decide ((BR6 a0).length*88<=140737488355328) && decide ((BR6 a0).length<=140737488355328)) (bP aE (mU (BR6 a0) (BSS s1)) λ(y3:List aT)=>R ((BS5 a0 y3))))) (BR4 X0 s1)) (bH (((BR6 a0).all λ(r:List T)=>decide (r.length=5)) && decide ((BR6 a0).length*88<=140737488355328) && decide ((BR6 a0).length<=140737488355328)) (R (aF true aC a0)))) (0,())
abbrev AMU:Sh:=[(true,aC),(true,aN)]
def PU:List T->Option T:=gS AMU BK
def AUV {a0 a1}:PU [aF true aC a0,aF true aN a1]=BK (a0,a1):=bA (s:=AMU) rfl (a0,a1) rfl
def BE9:qN Tryz.prog 272 PU BK (bY AMU) AIM:=gL (a1:=(true,aC)) (a2:=(true,aN)) (Hs:=BIL) (k:=8) AY9 aR aU (aL rfl) ⟨_,_,Tryz.func272,rfl⟩ rfl λ_ _ _=>by kernel_rfl
def BDN:aM Tryz.prog 272 PU:=BE9 λd x r h hb=>by
 clear hb;have hp:rJ d=true:=by
  unfold BK at h;split at h
  ·assumption
  ·cases h
 have e:Sh.enc [(true,aC)] (Y3 d x)=r:=by
  unfold BK at h;rw[show rJ (d,x).1=true from hp] at h;exact Option.some.inj h
 subst e;clear h;have c:=fO hp;have hd:=xN (r:=aE) (l:=d.2.2.2.2.1) (z:=5) (b:=88) rfl (dR c.k (by decide));unfold AIM BS5 BSS BR6 BR4;refine cX (r:=aE) (λy=>cR (fT x) y) (pB c.k) (λX k y hk hy hp hn=>?_) (λh _=>?_)
 ·dsimp only;refine bV (λh=>?_) λh=>hn (ai h);obtain ⟨hi,_⟩:=hp (ah h);refine bV (λh=>by omega) λ_=>⟨hd,?_⟩
  refine eE (r:=aE) (l:=d.2.2.2.2.1.take k++d.2.2.2.2.1.drop (k+1)) (H5 (r:=aE) rfl hk c.k) _ ?_;unfold Y3 gE;rw[show List.findIdx (cR (fT x)) d.2.2.2.2.1=k from hi];rfl
 ·refine ⟨hd,?_⟩;unfold Y3;rw[xM (is:=cR (fT x)) h];rfl
def AP2 (d:aB) (x:aZ):aB:=(d.1,d.2.1,j9 eX d.2.2.1 (cN x),d.2.2.2)
def J0 (x:aB×aZ):Option T:=match rJ x.1&&dP (cN x.2) with
 | true=>some (Sh.enc [(true,aC)] (AP2 x.1 x.2))
 | false=>none
def BNO:Env:=Env.of [(160,.pure iI),(158,.dup 18 208),(312,.grow 18 uI)]
def BN9:FuncId->Hint:=bT 231 [(2,.inv [.val 8 false (.int .i64)])] (λ_=>aX)
def BA6:aQ Tryz.prog BNO:=.cons vQ (aQ.cons (x:=.dup 18 208) DP (.cons AKF (.nil _)))
def BSQ(a0:aB)(y0:bB)(R:T->Prop):Prop:=bH (((BSC a0).all λ(r:List T)=>decide (r.length=18)) && decide ((BSC a0).length*208<=140737488355328) && decide ((BSC a0).length<=140737488355328)) (bP aJ (uI (BSC a0) [pPP (↑(BSC a0).length:Int), T.sl true [(aJ.enc y0)]]) λ(y4:List bB)=>R ((BTF a0 y4)))
def A0G(a0:aB)(a1:aZ)(R:T->Prop):Prop:=aI [(true,aJ)] (iI [aF true aJ a1.2.2.2.2.1]) λ(y0:bB)=>a7 (Int×PUnit) (λX1 s2=>aD (decide (s2.1<(↑(BSC a0).length:Int))) (aP aJ (BSC a0) s2.1 λ(y3:bB)=>aD (!(cY y3.1 y0.1||decide (y3.1=y0.1))) (aD (decide (s2.1<0)) (BSQ a0 y0 R) (bH (((BSC a0).all λ(r:List T)=>decide (r.length=18)) && decide ((BSC a0).length*208<=140737488355328) && decide ((BSC a0).length<=140737488355328)) (bP aJ (uI (BSC a0) [pPP s2.1, T.sl true [(aJ.enc y0)]]) λ(y5:List bB)=>R ((BTF a0 y5))))) (BR4 X1 s2)) (BSQ a0 y0 R)) (0,())
abbrev A89:Sh:=[(true,aC),(true,aN)]
def ADQ:List T->Option T:=gS A89 J0
def A5D {a0 a1}:ADQ [aF true aC a0,aF true aN a1]=J0 (a0,a1):=bA (s:=A89) rfl (a0,a1) rfl
def BLT:qN Tryz.prog 215 ADQ J0 (bY A89) A0G:=gL (a1:=(true,aC)) (a2:=(true,aN)) (Hs:=BN9) (k:=8) BA6 aR aU (aL rfl) ⟨_,_,Tryz.func215,rfl⟩ rfl λ_ _ _=>by kernel_rfl
def BJU:aM Tryz.prog 215 ADQ:=BLT λd x r h hb=>by
 clear hb;have hq:(rJ d&&dP (cN x))=true:=by
  unfold J0 at h;split at h
  ·assumption
  ·cases h
 have e:Sh.enc [(true,aC)] (AP2 d x)=r:=by
  unfold J0 at h;rw[show (rJ (d,x).1&&dP (cN (d,x).2))=true from hq] at h;exact Option.some.inj h
 subst e;clear h;rw[ac] at hq;obtain ⟨hp,ho⟩:=hq;have c:=fO hp;have hd:=xN (r:=aJ) (l:=d.2.2.1) (z:=18) (b:=208) rfl (dR c.p (by decide));unfold A0G BSQ BTF BSC BR4;refine aH (s:=[(true,aJ)]) (y:=cN x) ((vT ..).trans (by unfold jA;rw[ho])) ?_;refine cX (r:=aJ) (λy=>eX y (cN x)) (pB c.p) (λX k y hk hy hp hn=>?_) (λh _=>?_)
 ·dsimp only;rw[qF];refine IU (λh=>?_) λh=>hn h;obtain ⟨hi,_⟩:=hp h;refine bV (λh=>by omega) λ_=>⟨hd,?_⟩
  refine eE (r:=aJ) (l:=d.2.2.1.take k++cN x::d.2.2.1.drop k) (sZ (r:=aJ) (x:=cN x) rfl (by omega) c.p (by decide)) _ ?_;unfold AP2 j9;rw[hi];rfl
 ·refine ⟨hd,?_⟩;rw[show (((List.map (aJ).enc d.2.2.1).length:Nat):Int)=(((d.2.2.1).length:Nat):Int) by rw[ad]];refine eE (r:=aJ) (l:=d.2.2.1.take (d.2.2.1).length++cN x::d.2.2.1.drop (d.2.2.1).length) (sZ (r:=aJ) (x:=cN x) rfl (ak _) c.p (by decide)) _ ?_;unfold AP2 j9;rw[h];rfl
def AP6 (d:aB) (x:aZ):aB:=(d.1,d.2.1,d.2.2.1,d.2.2.2.1,j9 eX d.2.2.2.2.1 (fF x),d.2.2.2.2.2)
def J4 (x:aB×aZ):Option T:=match rJ x.1&&dI (fF x.2) with
 | true=>some (Sh.enc [(true,aC)] (AP6 x.1 x.2))
 | false=>none
def BNS:Env:=Env.of [(161,.pure nT),(159,.dup 5 88),(319,.grow 5 mV)]
def BOD:FuncId->Hint:=bT 304 [(2,.inv [.val 8 false (.int .i64)])] (λ_=>aX)
def BBA:aQ Tryz.prog BNS:=.cons PD (aQ.cons (x:=.dup 5 88) oE (.cons SS (.nil _)))
def BSR(y0:aT):List T:=[pPQ y0.1,pPQ y0.2.1, T.sl false (BS7 y0), pPP y0.2.2.2.1, T.sl false (BSW y0)]
def BTM(a0:aB)(y0:aT)(R:T->Prop):Prop:=bP aE (mV (BR6 a0) [pPP (↑(BR6 a0).length:Int), T.sl true [(BSR y0)]]) λ(y4:List aT)=>R ((BS5 a0 y4))
def A0K(a0:aB)(a1:aZ)(R:T->Prop):Prop:=aI [(true,aE)] (nT [aF true aE a1.2.2.2.2.2.2.1]) λ(y0:aT)=>a7 (Int×PUnit) (λX1 s2=>aD (decide (s2.1<(↑(BR6 a0).length:Int))) (aP aE (BR6 a0) s2.1 λ(y3:aT)=>aD (!(cY y3.1 y0.1||decide (y3.1=y0.1))) (aD (decide (s2.1<0)) (bH (((BR6 a0).all λ(r:List T)=>decide (r.length=5)) && decide ((BR6 a0).length*88<=140737488355328) && decide ((BR6 a0).length<=140737488355328)) (BTM a0 y0 R)) (bH (((BR6 a0).all λ(r:List T)=>decide (r.length=5)) && decide ((BR6 a0).length*88<=140737488355328) && decide ((BR6 a0).length<=140737488355328)) (bP aE (mV (BR6 a0) [pPP s2.1, T.sl true [(BSR y0)]]) λ(y5:List aT)=>R ((BS5 a0 y5))))) (BR4 X1 s2)) (bH (((BR6 a0).all λ(r:List T)=>decide (r.length=5)) && decide ((BR6 a0).length*88<=140737488355328) && decide ((BR6 a0).length<=140737488355328)) (BTM a0 y0 R))) (0,())
abbrev A9D:Sh:=[(true,aC),(true,aN)]
def ADU:List T->Option T:=gS A9D J4
def A5H {a0 a1}:ADU [aF true aC a0,aF true aN a1]=J4 (a0,a1):=bA (s:=A9D) rfl (a0,a1) rfl
def BLX:qN Tryz.prog 264 ADU J4 (bY A9D) A0K:=gL (a1:=(true,aC)) (a2:=(true,aN)) (Hs:=BOD) (k:=8) BBA aR aU (aL rfl) ⟨_,_,Tryz.func264,rfl⟩ rfl λ_ _ _=>by kernel_rfl
def BJY:aM Tryz.prog 264 ADU:=BLX λd x r h hb=>by
 clear hb;have hq:(rJ d&&dI (fF x))=true:=by
  unfold J4 at h;split at h
  ·assumption
  ·cases h
 have e:Sh.enc [(true,aC)] (AP6 d x)=r:=by
  unfold J4 at h;rw[show (rJ (d,x).1&&dI (fF (d,x).2))=true from hq] at h;exact Option.some.inj h
 subst e;clear h;rw[ac] at hq;obtain ⟨hp,ho⟩:=hq;have c:=fO hp;have hd:=xN (r:=aE) (l:=d.2.2.2.2.1) (z:=5) (b:=88) rfl (dR c.k (by decide));unfold A0K BTM BS5 BSR BSW BS7 BR6 BR4;refine aH (s:=[(true,aE)]) (y:=fF x) ((FD ..).trans (by unfold kJ;rw[ho])) ?_;refine cX (r:=aE) (λy=>eX y (fF x)) (pB c.k) (λX k y hk hy hp hn=>?_) (λh _=>?_)
 ·dsimp only;rw[qF];refine IU (λh=>?_) λh=>hn h;obtain ⟨hi,_⟩:=hp h;refine bV (λh=>by omega) λ_=>⟨hd,?_⟩
  refine eE (r:=aE) (l:=d.2.2.2.2.1.take k++fF x::d.2.2.2.2.1.drop k) (sZ (r:=aE) (x:=fF x) rfl (by omega) c.k (by decide)) _ ?_;unfold AP6 j9;rw[hi];rfl
 ·refine ⟨hd,?_⟩;rw[show (((List.map (aE).enc d.2.2.2.2.1).length:Nat):Int)=(((d.2.2.2.2.1).length:Nat):Int) by rw[ad]];refine eE (r:=aE) (l:=d.2.2.2.2.1.take (d.2.2.2.2.1).length++fF x::d.2.2.2.2.1.drop (d.2.2.2.2.1).length) (sZ (r:=aE) (x:=fF x) rfl (ak _) c.k (by decide)) _ ?_;unfold AP6 j9;rw[h];rfl
def PS:List T->Option T:=eT
def AO1:N4 Tryz.prog 120 2 PS :=
 A8D (E:=AG7) (Hs:=AI7) AAW aR aU (aL rfl) 8 ⟨_,_,Tryz.func120,rfl⟩ (s:=QZ) rfl λd r h hb=>by
  have hp:rJ d=true:=by
   unfold sM at h;split at h
   ·assumption
   ·cases h
  have e:Sh.enc [(true,aC)] d=r:=by
   unfold sM at h;rw[hp] at h;exact Option.some.inj h
  subst e;rw[show AAH bS Tryz.prog AG7 AI7 8 2 120 (Sh.iS QZ d) (λy=>y=Sh.enc [(true,aC)] d)=M9 d (λy=>y=Sh.enc [(true,aC)] d) from by kernel_rfl];exact A28 hp
def Z9 (x:aZ):Option T:=some (Sh.enc [(true,aN)] ((x.1,cC,cC,fA,cN x,fB,noPack,jY):aZ))
def BNY:Env:=Env.of []
def BOJ:FuncId->Hint:=λ_=>aX
def BBM:aQ Tryz.prog BNY:=.nil _
def A02(a0:aZ)(R:T->Prop):Prop:=R (T.agg [pPP a0.1,pPQ ({data:=#[]}), pPQ ({data:=#[]}),pPQ ({data:=#[]}), pPP 0,pPQ ({data:=#[]}), pPQ a0.2.2.2.2.1.1, pPP a0.2.2.2.2.1.2.1, pPP a0.2.2.2.2.1.2.2.1, pPQ a0.2.2.2.2.1.2.2.2.1, pPQ a0.2.2.2.2.1.2.2.2.2.1, pPP a0.2.2.2.2.1.2.2.2.2.2.1, T.sl false (List.map aA.enc a0.2.2.2.2.1.2.2.2.2.2.2.1.1), T.sl false (List.map aA.li.enc a0.2.2.2.2.1.2.2.2.2.2.2.1.2), pPQ a0.2.2.2.2.1.2.2.2.2.2.2.2.1, pPP a0.2.2.2.2.1.2.2.2.2.2.2.2.2.1, pPP a0.2.2.2.2.1.2.2.2.2.2.2.2.2.2.1, pPP a0.2.2.2.2.1.2.2.2.2.2.2.2.2.2.2.1.1, pPP a0.2.2.2.2.1.2.2.2.2.2.2.2.2.2.2.1.2.1, pPP a0.2.2.2.2.1.2.2.2.2.2.2.2.2.2.2.1.2.2, pPP a0.2.2.2.2.1.2.2.2.2.2.2.2.2.2.2.2.1.1, pPP a0.2.2.2.2.1.2.2.2.2.2.2.2.2.2.2.2.1.2.1, pPP a0.2.2.2.2.1.2.2.2.2.2.2.2.2.2.2.2.1.2.2, pPP a0.2.2.2.2.1.2.2.2.2.2.2.2.2.2.2.2.2, pPQ ({data:=#[]}),pPQ ({data:=#[]}), pPQ ({data:=#[]}),pPP 0, pPP 0,pPP 0, pPQ ({data:=#[]}),pPQ ({data:=#[]}),T.sl false [], pPP 0,T.sl false [],pPP 0, pPQ ({data:=#[]}),pPQ ({data:=#[]})])
abbrev A9J:Sh:=[(true,aN)]
def UK:List T->Option T:=gS A9J Z9
def A5T {a0}:UK [aF true aN a0]=Z9 (a0):=bA (s:=A9J) rfl (a0) rfl
def BL9:qM Tryz.prog 227 UK Z9 (bY A9J) A02:=gK (a1:=(true,aN)) (Hs:=BOJ) (k:=8) BBM aR aU (aL rfl) ⟨_,_,Tryz.func227,rfl⟩ rfl λ_ _=>by kernel_rfl
def BKD:aM Tryz.prog 227 UK:=BL9 λx r h hb=>by
 cases h;unfold A02;rfl
def AAA (x:aZ):Option T:=some (Sh.enc [(true,aN)] ((x.1,fT x,eTo x,fA,dO,fB,noPack,jY):aZ))
def BNZ:Env:=Env.of []
def BOK:FuncId->Hint:=λ_=>aX
def BBN:aQ Tryz.prog BNZ:=.nil _
def A03(a0:aZ)(R:T->Prop):Prop:=R (T.agg [pPP a0.1,pPQ a0.2.1, pPQ a0.2.2.1,pPQ ({data:=#[]}), pPP 0,pPQ ({data:=#[]}), pPQ ({data:=#[]}),pPP 0, pPP 0,pPQ ({data:=#[]}), pPQ ({data:=#[]}),pPP 0,T.sl false [], T.sl false [],pPQ ({data:=#[]}),pPP 0, pPP 0,pPP 0, pPP 0,pPP 0, pPP 0,pPP 0, pPP 0,pPP 0, pPQ ({data:=#[]}),pPQ ({data:=#[]}), pPQ ({data:=#[]}),pPP 0, pPP 0,pPP 0, pPQ ({data:=#[]}),pPQ ({data:=#[]}),T.sl false [], pPP 0,T.sl false [],pPP 0, pPQ ({data:=#[]}),pPQ ({data:=#[]})])
abbrev A9K:Sh:=[(true,aN)]
def UL:List T->Option T:=gS A9K AAA
def A5U {a0}:UL [aF true aN a0]=AAA (a0):=bA (s:=A9K) rfl (a0) rfl
def BMA:qM Tryz.prog 235 UL AAA (bY A9K) A03:=gK (a1:=(true,aN)) (Hs:=BOK) (k:=8) BBN aR aU (aL rfl) ⟨_,_,Tryz.func235,rfl⟩ rfl λ_ _=>by kernel_rfl
def BKE:aM Tryz.prog 235 UL:=BMA λx r h hb=>by
 cases h;unfold A03;rfl
def okX (d:aB) (x:aZ):Bool:=rJ d&&(dP (cN x)&&dI (fF x))
def GC {d:aB} {x:aZ} (h:okX d x=true):rJ d=true/\dP (cN x)=true/\dI (fF x)=true:=by
 unfold okX at h;rw[ac,ac] at h;exact h
def lM (k:Int) (x y:oI) (h:([aF true aC x.1,aF true aK x.2.1,aF true aN (k,x.2.2)]:List T)=[aF true aC y.1,aF true aK y.2.1,aF true aN (k,y.2.2)]):x=y:=by
 simp only[List.cons.injEq,and_true] at h;obtain ⟨h1,h2,h3⟩:=h;exact Prod.ext (mR (r:=aC) rfl h1) (Prod.ext (mR (r:=aK) rfl h2) (Prod.mk.inj (mR (r:=aN) rfl h3)).2)
def eY {c:Bool} {a:T}:c=true->(match c with|true=>some a|false=>none)=some a:=λh=>by rw[h]
def qA (no:α) (o:Option α):(found no o).2=o.isSome:=by cases o<;>rfl
def EO {d:aB} {x:aZ} (hk:1<=x.1/\x.1<=12) (h:mB x (dN x)=false):b6 d m x=(iR,2):=by
 unfold b6;rw[if_neg (λh=>h hk),if_pos (.inl h)]
def TJ {d:aB} {x:aZ} (hk:1<=x.1/\x.1<=12) (h5:¬ x.1=5) (h:mB x (dN x)=true) (ha:nM x=true) (ht:iP d x=true):b6 d m x=(iR,7):=by
 unfold b6;rw[if_neg (λh=>h hk),if_neg (λe=>e.elim (λe=>by rw[h] at e;cases e) λe=>h5 e.1),if_pos ⟨ha,ht⟩]
def OE {d:aB} {x:aZ} (hk:1<=x.1/\x.1<=12) (h5:¬ x.1=5) (h:mB x (dN x)=true) (ha:nM x=false) (ht:iP d x=false):b6 d m x=(iR,8):=by
 unfold b6;rw[if_neg (λh=>h hk),if_neg (λe=>e.elim (λe=>by rw[h] at e;cases e) λe=>h5 e.1),if_neg (λe=>by rw[ha] at e;cases e.1),if_pos ⟨ha,ht⟩]
def A2Q {d:aB} {x:aZ} (hk:1<=x.1/\x.1<=12) (h5:¬ x.1=5) (h:mB x (dN x)=true) (ha:iP d x = !nM x) (hu:sS d x=true):b6 d m x=(iR,34):=by
 unfold b6;rw[if_neg (λh=>h hk),if_neg (λe=>e.elim (λe=>by rw[h] at e;cases e) λe=>h5 e.1),if_neg (λe=>by rw[ha,e.1] at e;cases e.2),if_neg (λe=>by rw[ha,e.1] at e;cases e.2),if_neg (λe=>h5 e.1),if_pos hu]
def vG {d:aB} {x:aZ} (hk:1<=x.1/\x.1<=12) (h5:¬ x.1=5) (h:mB x (dN x)=true) (ha:iP d x = !nM x) (hu:sS d x=false):b6 d m x=if iF (r4 d x) m=0 then (r4 d x,0) else (iR,iF (r4 d x) m):=by
 unfold b6;rw[if_neg (λh=>h hk),if_neg (λe=>e.elim (λe=>by rw[h] at e;cases e) λe=>h5 e.1),if_neg (λe=>by rw[ha,e.1] at e;cases e.2),if_neg (λe=>by rw[ha,e.1] at e;cases e.2),if_neg (λe=>h5 e.1),if_neg (by rw[hu];decide)]
def EC (k:Int) (x:oI):Option T:=match okX x.1 (k,x.2.2) with
 | true=>some (Sh.enc [(true,aC),(false,.int .i64)] (b6 x.1 x.2.1 (k,x.2.2)))
 | false=>none
section
variable {k : Int} {d : aB} {m : aG} {x : dG} {r : T}
variable {gd:List T->Option T}
def A2O (hre:r=Sh.enc [(true,aC),(false,.int .i64)] (b6 d m (k,x))) (hk:1<=k/\k<=12) (h5:¬ k=5) (hE:mB (k,x) (dN (k,x))=true) (hth:iP d (k,x) = !nM (k,x)) (hus:sS d (k,x)=false) (hc:rJ d=true)
  (zd:gd [aF true aC d,aF true aN (k,x)]=some (Sh.enc [(true,aC)] (r4 d (k,x)))) :
  aI [(true,aC)] (eT [aF true aC d]) λ(y3:aB)=>aI [(true,aC)] (gd [aF true aC y3,aF true aN (k,x)]) λ(y4:aB)=>aI [(false,.int .i64)] (cM [aF true aC y4,aF true aK m]) λ(y5:Int) =>
   aD (!decide (y5=0)) (T.bX [aF true aC iR,T.v (Value.int .i64 y5)]=r) (T.bX [aF true aC y4,T.v (Value.int .i64 0)]=r):=by
 subst hre;refine aH (s:=[(true,aC)]) (y:=d) ((uB ..).trans (eY hc)) ?_;refine aH (s:=[(true,aC)]) (y:=r4 d (k,x)) zd ?_;refine aH (s:=[(false,.int .i64)]) (y:=iF (r4 d (k,x)) m) (nS ..) ?_;exact lA (λh=>by rw[(vG hk h5 hE hth hus).trans (if_neg h)];rfl) λh=>by rw[(vG hk h5 hE hth hus).trans (if_pos h)];rfl
variable {g:List T->Option T}
def AB0 (h:EC k (d,m,x)=some r) (hk:1<=k/\k<=12) (z1:g [aF true aN (k,x)]=some (Sh.enc [(true,aN)] (dN (k,x)))) {REST:Prop}
  (hr:rJ d=true->dP (cN (k,x))=true->dI (fF (k,x))=true->r=Sh.enc [(true,aC),(false,.int .i64)] (b6 d m (k,x))->mB (k,x) (dN (k,x))=true->REST) :
  aI [(true,aN)] (g [aF true aN (k,x)]) λ(y0:aZ)=>aI [(false,Sy.bool)] (cV [aF true aN (k,x),aF true aN y0]) λ(y1:Bool)=>aD (!y1) (T.bX [aF true aC iR,T.v (Value.int .i64 2)]=r) REST:=by
 obtain ⟨hp,hre⟩:=tE h;obtain ⟨hc,ho1,ho2⟩:=GC hp;refine aH (s:=[(true,aN)]) (y:=dN (k,x)) z1 ?_;refine aH (s:=pC) (y:=mB (k,x) (dN (k,x))) (qY ..) ?_;exact jI (λh=>by rw[<-hre,show b6 d m (k,x)=_ from EO hk h];rfl) λhE=>hr hc ho1 ho2 hre.symm hE
variable {r0:Sy}{gx:Option T}
def W6 (h:EC k (d,m,x)=some r) (hk:1<=k/\k<=12) (h5:¬ k=5) (ha:nM (k,x)=true) (hus:sS d (k,x)=false) (z1:g [aF true aN (k,x)]=some (Sh.enc [(true,aN)] (dN (k,x)))) {no:r0.den} {o:Option r0.den}
  (zx:rJ d=true->gx=some (Sh.enc [(true,r0),(false,.bool)] (found no o))) (ht:iP d (k,x)=o.isSome)
  (zd:rJ d=true->dP (cN (k,x))=true->dI (fF (k,x))=true->gd [aF true aC d,aF true aN (k,x)]=some (Sh.enc [(true,aC)] (r4 d (k,x)))) :
  aI [(true,aN)] (g [aF true aN (k,x)]) λ(y0:aZ)=>aI [(false,Sy.bool)] (cV [aF true aN (k,x),aF true aN y0]) λ(y1:Bool)=>aD (!y1) (T.bX [aF true aC iR,T.v (Value.int .i64 2)]=r)
   (aI [(true,r0),(false,.bool)] gx λ(y2:r0.den×Bool)=>aD y2.2 (T.bX [aF true aC iR,T.v (Value.int .i64 7)]=r)
    (aI [(true,aC)] (eT [aF true aC d]) λ(y3:aB)=>aI [(true,aC)] (gd [aF true aC y3,aF true aN (k,x)]) λ(y4:aB)=>aI [(false,.int .i64)] (cM [aF true aC y4,aF true aK m]) λ(y5:Int) =>
     aD (!decide (y5=0)) (T.bX [aF true aC iR,T.v (Value.int .i64 y5)]=r) (T.bX [aF true aC y4,T.v (Value.int .i64 0)]=r))) :=
 AB0 h hk z1 λhc ho1 ho2 hre hE=>by
  refine aH (s:=[(true,r0),(false,.bool)]) (y:=found no o) (zx hc) ?_;have ht:=ht.trans (qA no o).symm;refine IU (λh=>by rw[hre,show b6 d m (k,x)=_ from TJ hk h5 hE ha (ht.trans h)];rfl) λh=>?_;exact A2O hre hk h5 hE (by rw[ha,ht,h];rfl) hus hc (zd hc ho1 ho2)
def W7 (h:EC k (d,m,x)=some r) (hk:1<=k/\k<=12) (h5:¬ k=5) (ha:nM (k,x)=false) {gu:List T->Option T} (z1:g [aF true aN (k,x)]=some (Sh.enc [(true,aN)] (dN (k,x)))) {no:r0.den} {o:Option r0.den}
  (zx:rJ d=true->gx=some (Sh.enc [(true,r0),(false,.bool)] (found no o))) (ht:iP d (k,x)=o.isSome) (zu:rJ d=true->gu [aF true aC d,aF true aN (k,x)]=some (Sh.enc pC (sS d (k,x))))
  (zd:rJ d=true->gd [aF true aC d,aF true aN (k,x)]=some (Sh.enc [(true,aC)] (r4 d (k,x)))) :
  aI [(true,aN)] (g [aF true aN (k,x)]) λ(y0:aZ)=>aI [(false,Sy.bool)] (cV [aF true aN (k,x),aF true aN y0]) λ(y1:Bool)=>aD (!y1) (T.bX [aF true aC iR,T.v (Value.int .i64 2)]=r)
   (aI [(true,r0),(false,.bool)] gx λ(y2:r0.den×Bool)=>aD (!y2.2) (T.bX [aF true aC iR,T.v (Value.int .i64 8)]=r)
    (aI [(false,Sy.bool)] (gu [aF true aC d,aF true aN (k,x)]) λ(u:Bool)=>aD u (T.bX [aF true aC iR,T.v (Value.int .i64 34)]=r)
    (aI [(true,aC)] (eT [aF true aC d]) λ(y3:aB)=>aI [(true,aC)] (gd [aF true aC y3,aF true aN (k,x)]) λ(y4:aB)=>aI [(false,.int .i64)] (cM [aF true aC y4,aF true aK m]) λ(y5:Int) =>
     aD (!decide (y5=0)) (T.bX [aF true aC iR,T.v (Value.int .i64 y5)]=r) (T.bX [aF true aC y4,T.v (Value.int .i64 0)]=r)))) :=
 AB0 h hk z1 λhc ho1 ho2 hre hE=>by
  refine aH (s:=[(true,r0),(false,.bool)]) (y:=found no o) (zx hc) ?_;have ht:=ht.trans (qA no o).symm;refine jI (λh=>by rw[hre,show b6 d m (k,x)=_ from OE hk h5 hE ha (ht.trans h)];rfl) λh=>?_;have hth:iP d (k,x) = !nM (k,x):=by rw[ha,ht,h];rfl
  refine aH (s:=pC) (y:=sS d (k,x)) (zu hc) ?_;refine IU (λh=>by rw[hre,show b6 d m (k,x)=_ from A2Q hk h5 hE hth h];rfl) λhus=>?_;exact A2O hre hk h5 hE hth hus hc (zd hc)
end
def MN (a0:aB) (a1:aG) (a2:dG):List T:=[aF true aC a0,aF true aK a1,aF true aN (1,a2)]
def AXT:Env:=Env.of [(118,.pure cV),(193,.pure AD8),(195,.pure DV),(120,.pure eT),(196,.pure ADO),(26,.pure cM)]
def BGG:FuncId->Hint:=λ_=>aX
def BAV:aQ Tryz.prog AXT:=.cons jF (.cons BJ9 (.cons AO3 (.cons oD (.cons BJS (.cons jU (.nil _))))))
def BRJ:T:=aF true aC (cC,[],[],[],[],[])
def BSA(y4:aB)(a1:aG)(R:T->Prop):Prop:=aI BRK (cM [aF true aC y4,aF true aK a1]) λ(y5:Int)=>aD (!decide (y5=0)) (R (T.bX [BRJ, pPP y5])) (R (T.bX [aF true aC y4,pPP 0]))
def BSU(R:T->Prop):Prop:=R (T.bX [BRJ, pPP 2])
def BTC(R:T->Prop):Prop:=R (T.bX [BRJ, pPP 7])
def AZW(a0:aB)(a1:aG)(a2:dG)(R:T->Prop):Prop:=aI [(true,aN)] (AD8 [(aF true aN (1,a2))]) λ(y0:aZ)=>aI BRM (cV [(aF true aN (1,a2)), aF true aN y0]) λ(y1:Bool)=>aD (!y1) (BSU R) (aI [(true,aS),(false,Sy.bool)] (DV [aF true aC a0,pPQ a2.2.2.1.1]) λ(y2:cH×Bool)=>aD y2.2 (BTC R) (aI [(true,aC)] (eT [aF true aC a0]) λ(y3:aB)=>aI [(true,aC)] (ADO [aF true aC y3, (aF true aN (1,a2))]) λ(y4:aB)=>BSA y4 a1 R))
def AZX ( a0 a1 a2 R):dV bS Tryz.prog AXT BGG 8 83 (MN a0 a1 a2) R=AZW a0 a1 a2 R:=by kernel_rfl
def ANG:oI->Option T:=EC 1
def AQS (x y:oI) (h:MN x.1 x.2.1 x.2.2=MN y.1 y.2.1 y.2.2):x=y:=lM 1 x y h
def A4T:List T->Option (T):=gA (λ(x:aB×aG×dG)=>MN x.1 x.2.1 x.2.2) ANG
def A4U (a0:aB) (a1:aG) (a2:dG):A4T (MN a0 a1 a2)=ANG (a0,a1,a2):=eR (A:=(λ(x:aB×aG×dG)=>MN x.1 x.2.1 x.2.2)) AQS (a0,a1,a2)
def BLI (h:∀ (a0:aB) (a1:aG) (a2:dG) (r:T),ANG (a0,a1,a2)=some r->(∀ t∈MN a0 a1 a2,Bd t)->AZW a0 a1 a2 (λy=>y=r)):aM Tryz.prog 83 A4T :=
 cG (E:=AXT) (Hs:=BGG) BAV aR aU (aL rfl) 8 ⟨_,_,Tryz.func83,rfl⟩ λx r h1 h2=>by
  rw[AZX];exact h x.1 x.2.1 x.2.2 r h1 h2
def A31:aM Tryz.prog 83 A4T:=BLI λd m x r h hb=>by
 unfold AZW BTC BSU BSA BRM BRK BRJ;exact W6 h (by decide) (by decide) rfl rfl ((A5P ..).trans rfl) (no:=fA) (λ_=>UG ..) rfl (λhc _ _=>(A5B ..).trans (eY hc))
def MQ (a0:aB) (a1:aG) (a2:dG):List T:=[aF true aC a0,aF true aK a1,aF true aN (3,a2)]
def AXV:Env:=Env.of [(118,.pure cV),(213,.pure AEA),(119,.pure lO),(120,.pure eT),(215,.pure ADQ),(26,.pure cM)]
def BGI:FuncId->Hint:=λ_=>aX
def BAX:aQ Tryz.prog AXV:=.cons jF (.cons BKB (.cons E8 (.cons oD (.cons BJU (.cons jU (.nil _))))))
def AZ0(a0:aB)(a1:aG)(a2:dG)(R:T->Prop):Prop:=aI [(true,aN)] (AEA [(aF true aN (3,a2))]) λ(y0:aZ)=>aI BRM (cV [(aF true aN (3,a2)), aF true aN y0]) λ(y1:Bool)=>aD (!y1) (BSU R) (aI [(true,aJ),(false,Sy.bool)] (lO [aF true aC a0,pPQ a2.2.2.2.1.1]) λ(y2:bB×Bool)=>aD y2.2 (BTC R) (aI [(true,aC)] (eT [aF true aC a0]) λ(y3:aB)=>aI [(true,aC)] (ADQ [aF true aC y3, (aF true aN (3,a2))]) λ(y4:aB)=>BSA y4 a1 R))
def AZ1 ( a0 a1 a2 R):dV bS Tryz.prog AXV BGI 8 83 (MQ a0 a1 a2) R=AZ0 a0 a1 a2 R:=by kernel_rfl
def ANI:oI->Option T:=EC 3
def AQU (x y:oI) (h:MQ x.1 x.2.1 x.2.2=MQ y.1 y.2.1 y.2.2):x=y:=lM 3 x y h
def A4X:List T->Option (T):=gA (λ(x:aB×aG×dG)=>MQ x.1 x.2.1 x.2.2) ANI
def A4Y (a0:aB) (a1:aG) (a2:dG):A4X (MQ a0 a1 a2)=ANI (a0,a1,a2):=eR (A:=(λ(x:aB×aG×dG)=>MQ x.1 x.2.1 x.2.2)) AQU (a0,a1,a2)
def BLK (h:∀ (a0:aB) (a1:aG) (a2:dG) (r:T),ANI (a0,a1,a2)=some r->(∀ t∈MQ a0 a1 a2,Bd t)->AZ0 a0 a1 a2 (λy=>y=r)):aM Tryz.prog 83 A4X :=
 cG (E:=AXV) (Hs:=BGI) BAX aR aU (aL rfl) 8 ⟨_,_,Tryz.func83,rfl⟩ λx r h1 h2=>by
  rw[AZ1];exact h x.1 x.2.1 x.2.2 r h1 h2
def BJL:aM Tryz.prog 83 A4X:=BLK λd m x r h hb=>by
 unfold AZ0 BTC BSU BSA BRM BRK BRJ;exact W6 h (by decide) (by decide) rfl rfl ((A5R ..).trans rfl) (no:=dO) (λhc=>(qX ..).trans (by unfold lJ;dsimp only;rw[(fO hc).BA];rfl)) rfl (λhc h1 _=>(A5D ..).trans (eY (by rw[hc,h1];rfl)))
def MU (a0:aB) (a1:aG) (a2:dG):List T:=[aF true aC a0,aF true aK a1,aF true aN (7,a2)]
def AXZ:Env:=Env.of [(118,.pure cV),(241,.pure AEC),(243,.pure DY),(120,.pure eT),(244,.pure ADS),(26,.pure cM)]
def BGM:FuncId->Hint:=λ_=>aX
def BA1:aQ Tryz.prog AXZ:=.cons jF (.cons BKF (.cons AO7 (.cons oD (.cons BJW (.cons jU (.nil _))))))
def AZ8(a0:aB)(a1:aG)(a2:dG)(R:T->Prop):Prop:=aI [(true,aN)] (AEC [(aF true aN (7,a2))]) λ(y0:aZ)=>aI BRM (cV [(aF true aN (7,a2)), aF true aN y0]) λ(y1:Bool)=>aD (!y1) (BSU R) (aI [(true,aV),(false,Sy.bool)] (DY [aF true aC a0,pPQ a2.2.2.2.2.1.1]) λ(y2:cJ×Bool)=>aD y2.2 (BTC R) (aI [(true,aC)] (eT [aF true aC a0]) λ(y3:aB)=>aI [(true,aC)] (ADS [aF true aC y3, (aF true aN (7,a2))]) λ(y4:aB)=>BSA y4 a1 R))
def AZ9 ( a0 a1 a2 R):dV bS Tryz.prog AXZ BGM 8 83 (MU a0 a1 a2) R=AZ8 a0 a1 a2 R:=by kernel_rfl
def ANM:oI->Option T:=EC 7
def AQY (x y:oI) (h:MU x.1 x.2.1 x.2.2=MU y.1 y.2.1 y.2.2):x=y:=lM 7 x y h
def A45:List T->Option (T):=gA (λ(x:aB×aG×dG)=>MU x.1 x.2.1 x.2.2) ANM
def A46 (a0:aB) (a1:aG) (a2:dG):A45 (MU a0 a1 a2)=ANM (a0,a1,a2):=eR (A:=(λ(x:aB×aG×dG)=>MU x.1 x.2.1 x.2.2)) AQY (a0,a1,a2)
def BLO (h:∀ (a0:aB) (a1:aG) (a2:dG) (r:T),ANM (a0,a1,a2)=some r->(∀ t∈MU a0 a1 a2,Bd t)->AZ8 a0 a1 a2 (λy=>y=r)):aM Tryz.prog 83 A45 :=
 cG (E:=AXZ) (Hs:=BGM) BA1 aR aU (aL rfl) 8 ⟨_,_,Tryz.func83,rfl⟩ λx r h1 h2=>by
  rw[AZ9];exact h x.1 x.2.1 x.2.2 r h1 h2
def BJP:aM Tryz.prog 83 A45:=BLO λd m x r h hb=>by
 unfold AZ8 BTC BSU BSA BRM BRK BRJ;exact W6 h (by decide) (by decide) rfl rfl ((A5V ..).trans rfl) (no:=fB) (λ_=>UM ..) rfl (λhc _ _=>(A5F ..).trans (eY hc))
def MW (a0:aB) (a1:aG) (a2:dG):List T:=[aF true aC a0,aF true aK a1,aF true aN (9,a2)]
def AX1:Env:=Env.of [(118,.pure cV),(261,.pure AEE),(263,.pure DW),(120,.pure eT),(264,.pure ADU),(26,.pure cM)]
def BGO:FuncId->Hint:=λ_=>aX
def BA3:aQ Tryz.prog AX1:=.cons jF (.cons BKH (.cons AO4 (.cons oD (.cons BJY (.cons jU (.nil _))))))
def A0C(a0:aB)(a1:aG)(a2:dG)(R:T->Prop):Prop:=aI [(true,aN)] (AEE [(aF true aN (9,a2))]) λ(y0:aZ)=>aI BRM (cV [(aF true aN (9,a2)), aF true aN y0]) λ(y1:Bool)=>aD (!y1) (BSU R) (aI [(true,aE),(false,Sy.bool)] (DW [aF true aC a0,pPQ a2.2.2.2.2.2.1.1]) λ(y2:aT×Bool)=>aD y2.2 (BTC R) (aI [(true,aC)] (eT [aF true aC a0]) λ(y3:aB)=>aI [(true,aC)] (ADU [aF true aC y3, (aF true aN (9,a2))]) λ(y4:aB)=>BSA y4 a1 R))
def A0D ( a0 a1 a2 R):dV bS Tryz.prog AX1 BGO 8 83 (MW a0 a1 a2) R=A0C a0 a1 a2 R:=by kernel_rfl
def ANO:oI->Option T:=EC 9
def AQ0 (x y:oI) (h:MW x.1 x.2.1 x.2.2=MW y.1 y.2.1 y.2.2):x=y:=lM 9 x y h
def A49:List T->Option (T):=gA (λ(x:aB×aG×dG)=>MW x.1 x.2.1 x.2.2) ANO
def A5A (a0:aB) (a1:aG) (a2:dG):A49 (MW a0 a1 a2)=ANO (a0,a1,a2):=eR (A:=(λ(x:aB×aG×dG)=>MW x.1 x.2.1 x.2.2)) AQ0 (a0,a1,a2)
def BLQ (h:∀ (a0:aB) (a1:aG) (a2:dG) (r:T),ANO (a0,a1,a2)=some r->(∀ t∈MW a0 a1 a2,Bd t)->A0C a0 a1 a2 (λy=>y=r)):aM Tryz.prog 83 A49 :=
 cG (E:=AX1) (Hs:=BGO) BA3 aR aU (aL rfl) 8 ⟨_,_,Tryz.func83,rfl⟩ λx r h1 h2=>by
  rw[A0D];exact h x.1 x.2.1 x.2.2 r h1 h2
def BJR:aM Tryz.prog 83 A49:=BLQ λd m x r h hb=>by
 unfold A0C BTC BSU BSA BRM BRK BRJ;exact W6 h (by decide) (by decide) rfl rfl ((A5X ..).trans rfl) (no:=noPack) (o:=iB d (fF (9,x)).1) (λhc=>(UH ..).trans (by unfold BQ;exact AF4 _ (fO hc).zR)) rfl (λhc _ h2=>(A5H ..).trans (eY (by rw[hc,h2];rfl)))
def MO (a0:aB) (a1:aG) (a2:dG):List T:=[aF true aC a0,aF true aK a1,aF true aN (2,a2)]
def AXU:Env:=Env.of [(118,.pure cV),(201,.pure AD9),(195,.pure DV),(184,.pure FX),(120,.pure eT),(203,.pure ADP),(26,.pure cM)]
def BGH:FuncId->Hint:=λ_=>aX
def BAW:aQ Tryz.prog AXU:=.cons jF (.cons BKA (.cons AO3 (.cons A4O (.cons oD (.cons BJT (.cons jU (.nil _)))))))
def BS6(R:T->Prop):Prop:=R (T.bX [BRJ, pPP 8])
def BTA(R:T->Prop):Prop:=R (T.bX [BRJ, pPP 34])
def BTS(a0:aB)(a2:dG):List T:=[aF true aC a0,pPQ a2.1]
def AZY(a0:aB)(a1:aG)(a2:dG)(R:T->Prop):Prop:=aI [(true,aN)] (AD9 [(aF true aN (2,a2))]) λ(y0:aZ)=>aI BRM (cV [(aF true aN (2,a2)), aF true aN y0]) λ(y1:Bool)=>aD (!y1) (BSU R) (aI [(true,aS),(false,Sy.bool)] (DV (BTS a0 a2)) λ(y2:cH×Bool)=>aD (!y2.2) (BS6 R) (aI BRM (FX [aF true aC a0, (aF true aN (2,a2))]) λ(y3:Bool)=>aD y3 (BTA R) (aI [(true,aC)] (eT [aF true aC a0]) λ(y4:aB)=>aI [(true,aC)] (ADP [aF true aC y4, (aF true aN (2,a2))]) λ(y5:aB)=>BSA y5 a1 R)))
def AZZ ( a0 a1 a2 R):dV bS Tryz.prog AXU BGH 8 83 (MO a0 a1 a2) R=AZY a0 a1 a2 R:=by kernel_rfl
def ANH:oI->Option T:=EC 2
def AQT (x y:oI) (h:MO x.1 x.2.1 x.2.2=MO y.1 y.2.1 y.2.2):x=y:=lM 2 x y h
def A4V:List T->Option (T):=gA (λ(x:aB×aG×dG)=>MO x.1 x.2.1 x.2.2) ANH
def A4W (a0:aB) (a1:aG) (a2:dG):A4V (MO a0 a1 a2)=ANH (a0,a1,a2):=eR (A:=(λ(x:aB×aG×dG)=>MO x.1 x.2.1 x.2.2)) AQT (a0,a1,a2)
def BLJ (h:∀ (a0:aB) (a1:aG) (a2:dG) (r:T),ANH (a0,a1,a2)=some r->(∀ t∈MO a0 a1 a2,Bd t)->AZY a0 a1 a2 (λy=>y=r)):aM Tryz.prog 83 A4V :=
 cG (E:=AXU) (Hs:=BGH) BAW aR aU (aL rfl) 8 ⟨_,_,Tryz.func83,rfl⟩ λx r h1 h2=>by
  rw[AZZ];exact h x.1 x.2.1 x.2.2 r h1 h2
def BJK:aM Tryz.prog 83 A4V:=BLJ λd m x r h hb=>by
 unfold AZY BTS BTA BS6 BSU BSA BRM BRK BRJ;exact W7 h (by decide) (by decide) rfl ((A5Q ..).trans rfl) (no:=fA) (λ_=>UG ..) rfl (λhc=>(ALF ..).trans (eY hc)) (λhc=>(A5C ..).trans (eY hc))
def MR (a0:aB) (a1:aG) (a2:dG):List T:=[aF true aC a0,aF true aK a1,aF true aN (4,a2)]
def AXW:Env:=Env.of [(118,.pure cV),(220,.pure AEB),(119,.pure lO),(208,.pure FZ),(120,.pure eT),(222,.pure ADR),(26,.pure cM)]
def BGJ:FuncId->Hint:=λ_=>aX
def BAY:aQ Tryz.prog AXW:=.cons jF (.cons BKC (.cons E8 (.cons A4Q (.cons oD (.cons BJV (.cons jU (.nil _)))))))
def AZ2(a0:aB)(a1:aG)(a2:dG)(R:T->Prop):Prop:=aI [(true,aN)] (AEB [(aF true aN (4,a2))]) λ(y0:aZ)=>aI BRM (cV [(aF true aN (4,a2)), aF true aN y0]) λ(y1:Bool)=>aD (!y1) (BSU R) (aI [(true,aJ),(false,Sy.bool)] (lO (BTS a0 a2)) λ(y2:bB×Bool)=>aD (!y2.2) (BS6 R) (aI BRM (FZ [aF true aC a0, (aF true aN (4,a2))]) λ(y3:Bool)=>aD y3 (BTA R) (aI [(true,aC)] (eT [aF true aC a0]) λ(y4:aB)=>aI [(true,aC)] (ADR [aF true aC y4, (aF true aN (4,a2))]) λ(y5:aB)=>BSA y5 a1 R)))
def AZ3 ( a0 a1 a2 R):dV bS Tryz.prog AXW BGJ 8 83 (MR a0 a1 a2) R=AZ2 a0 a1 a2 R:=by kernel_rfl
def ANJ:oI->Option T:=EC 4
def AQV (x y:oI) (h:MR x.1 x.2.1 x.2.2=MR y.1 y.2.1 y.2.2):x=y:=lM 4 x y h
def A4Z:List T->Option (T):=gA (λ(x:aB×aG×dG)=>MR x.1 x.2.1 x.2.2) ANJ
def A40 (a0:aB) (a1:aG) (a2:dG):A4Z (MR a0 a1 a2)=ANJ (a0,a1,a2):=eR (A:=(λ(x:aB×aG×dG)=>MR x.1 x.2.1 x.2.2)) AQV (a0,a1,a2)
def BLL (h:∀ (a0:aB) (a1:aG) (a2:dG) (r:T),ANJ (a0,a1,a2)=some r->(∀ t∈MR a0 a1 a2,Bd t)->AZ2 a0 a1 a2 (λy=>y=r)):aM Tryz.prog 83 A4Z :=
 cG (E:=AXW) (Hs:=BGJ) BAY aR aU (aL rfl) 8 ⟨_,_,Tryz.func83,rfl⟩ λx r h1 h2=>by
  rw[AZ3];exact h x.1 x.2.1 x.2.2 r h1 h2
def BJM:aM Tryz.prog 83 A4Z:=BLL λd m x r h hb=>by
 unfold AZ2 BTS BTA BS6 BSU BSA BRM BRK BRJ;exact W7 h (by decide) (by decide) rfl ((A5S ..).trans rfl) (no:=dO) (λhc=>(qX ..).trans (by unfold lJ;dsimp only;rw[(fO hc).BA];rfl)) rfl (λhc=>(ALH ..).trans (eY hc)) (λhc=>(A5E ..).trans (eY hc))
def MV (a0:aB) (a1:aG) (a2:dG):List T:=[aF true aC a0,aF true aK a1,aF true aN (8,a2)]
def AX0:Env:=Env.of [(118,.pure cV),(249,.pure AED),(243,.pure DY),(229,.pure j8),(120,.pure eT),(251,.pure ADT),(26,.pure cM)]
def BGN:FuncId->Hint:=λ_=>aX
def BA2:aQ Tryz.prog AX0:=.cons jF (.cons BKG (.cons AO7 (.cons tZ (.cons oD (.cons BJX (.cons jU (.nil _)))))))
def A0A(a0:aB)(a1:aG)(a2:dG)(R:T->Prop):Prop:=aI [(true,aN)] (AED [(aF true aN (8,a2))]) λ(y0:aZ)=>aI BRM (cV [(aF true aN (8,a2)), aF true aN y0]) λ(y1:Bool)=>aD (!y1) (BSU R) (aI [(true,aV),(false,Sy.bool)] (DY (BTS a0 a2)) λ(y2:cJ×Bool)=>aD (!y2.2) (BS6 R) (aI BRM (j8 [aF true aC a0, (aF true aN (8,a2))]) λ(y3:Bool)=>aD y3 (BTA R) (aI [(true,aC)] (eT [aF true aC a0]) λ(y4:aB)=>aI [(true,aC)] (ADT [aF true aC y4, (aF true aN (8,a2))]) λ(y5:aB)=>BSA y5 a1 R)))
def A0B ( a0 a1 a2 R):dV bS Tryz.prog AX0 BGN 8 83 (MV a0 a1 a2) R=A0A a0 a1 a2 R:=by kernel_rfl
def ANN:oI->Option T:=EC 8
def AQZ (x y:oI) (h:MV x.1 x.2.1 x.2.2=MV y.1 y.2.1 y.2.2):x=y:=lM 8 x y h
def A47:List T->Option (T):=gA (λ(x:aB×aG×dG)=>MV x.1 x.2.1 x.2.2) ANN
def A48 (a0:aB) (a1:aG) (a2:dG):A47 (MV a0 a1 a2)=ANN (a0,a1,a2):=eR (A:=(λ(x:aB×aG×dG)=>MV x.1 x.2.1 x.2.2)) AQZ (a0,a1,a2)
def BLP (h:∀ (a0:aB) (a1:aG) (a2:dG) (r:T),ANN (a0,a1,a2)=some r->(∀ t∈MV a0 a1 a2,Bd t)->A0A a0 a1 a2 (λy=>y=r)):aM Tryz.prog 83 A47 :=
 cG (E:=AX0) (Hs:=BGN) BA2 aR aU (aL rfl) 8 ⟨_,_,Tryz.func83,rfl⟩ λx r h1 h2=>by
  rw[A0B];exact h x.1 x.2.1 x.2.2 r h1 h2
def BJQ:aM Tryz.prog 83 A47:=BLP λd m x r h hb=>by
 unfold A0A BTS BTA BS6 BSU BSA BRM BRK BRJ;exact W7 h (by decide) (by decide) rfl ((A5W ..).trans rfl) (no:=fB) (λ_=>UM ..) rfl (λ_=>(KV ..).trans rfl) (λhc=>(A5G ..).trans (eY hc))
def C1 (a0:aB) (a1:aG) (a2:dG):List T:=[aF true aC a0,aF true aK a1,aF true aN (10,a2)]
def AG3:Env:=Env.of [(118,.pure cV),(270,.pure PZ),(263,.pure DW),(256,.pure FY),(120,.pure eT),(272,.pure PU),(26,.pure cM)]
def A1N:FuncId->Hint:=λ_=>aX
def AY2:aQ Tryz.prog AG3:=.cons jF (.cons BDT (.cons AO4 (.cons A4P (.cons oD (.cons BDN (.cons jU (.nil _)))))))
def AIC(a0:aB)(a1:aG)(a2:dG)(R:T->Prop):Prop:=aI [(true,aN)] (PZ [(aF true aN (10,a2))]) λ(y0:aZ)=>aI BRM (cV [(aF true aN (10,a2)), aF true aN y0]) λ(y1:Bool)=>aD (!y1) (BSU R) (aI [(true,aE),(false,Sy.bool)] (DW (BTS a0 a2)) λ(y2:aT×Bool)=>aD (!y2.2) (BS6 R) (aI BRM (FY [aF true aC a0, (aF true aN (10,a2))]) λ(y3:Bool)=>aD y3 (BTA R) (aI [(true,aC)] (eT [aF true aC a0]) λ(y4:aB)=>aI [(true,aC)] (PU [aF true aC y4, (aF true aN (10,a2))]) λ(y5:aB)=>BSA y5 a1 R)))
def ASB ( a0 a1 a2 R):dV bS Tryz.prog AG3 A1N 8 83 (C1 a0 a1 a2) R=AIC a0 a1 a2 R:=by kernel_rfl
def ZX:oI->Option T:=EC 10
def AGW (x y:oI) (h:C1 x.1 x.2.1 x.2.2=C1 y.1 y.2.1 y.2.2):x=y:=lM 10 x y h
def AKO:List T->Option (T):=gA (λ(x:aB×aG×dG)=>C1 x.1 x.2.1 x.2.2) ZX
def AUP (a0:aB) (a1:aG) (a2:dG):AKO (C1 a0 a1 a2)=ZX (a0,a1,a2):=eR (A:=(λ(x:aB×aG×dG)=>C1 x.1 x.2.1 x.2.2)) AGW (a0,a1,a2)
def BE1 (h:∀ (a0:aB) (a1:aG) (a2:dG) (r:T),ZX (a0,a1,a2)=some r->(∀ t∈C1 a0 a1 a2,Bd t)->AIC a0 a1 a2 (λy=>y=r)):aM Tryz.prog 83 AKO :=
 cG (E:=AG3) (Hs:=A1N) AY2 aR aU (aL rfl) 8 ⟨_,_,Tryz.func83,rfl⟩ λx r h1 h2=>by
  rw[ASB];exact h x.1 x.2.1 x.2.2 r h1 h2
def BDH:aM Tryz.prog 83 AKO:=BE1 λd m x r h hb=>by
 unfold AIC BTS BTA BS6 BSU BSA BRM BRK BRJ;exact W7 h (by decide) (by decide) rfl ((AU1 ..).trans rfl) (no:=noPack) (o:=iB d (fT (10,x))) (λhc=>(UH ..).trans (by unfold BQ;exact AF4 _ (fO hc).zR)) rfl (λhc=>(ALG ..).trans (eY hc)) (λhc=>(AUV ..).trans (eY hc))
def ifC {p q s:Prop} {i:Decidable p} {j:Decidable q} {k:Decidable s} {B:Prop} (h1:p/\q/\s->A) (h2:¬ (p/\q/\s)->B):aD (@decide p i&&(@decide q j&&(@decide s k&&true))) A B:=by
 by_cases h:p/\q/\s
 ·rw[ah h.1,ah h.2.1,ah h.2.2];exact h1 h
 ·have:(@decide p i&&(@decide q j&&(@decide s k&&true)))=false:=by
   rw[Bool.eq_false_iff];intro e;simp only[ac,ae,and_true] at e;exact h e
  rw[this];exact h2 h
def A9 {a b:cQ}:(a.1=b.1/\a.2.1=b.2.1/\a.2.2=b.2.2)↔a=b:=by
 simp only[Prod.ext_iff]
def C2 (a0:aB) (a1:aG) (a2:dG):List T:=[aF true aC a0,aF true aK a1,aF true aN (11,a2)]
def AG4:Env:=Env.of [(118,.pure cV),(276,.pure vU),(229,.pure j8),(120,.pure eT),(280,.pure qW),(71,.dup 3 40),(324,.grow 3 kM),(325,.grow 3 AY),(26,.pure cM)]
def A1O:FuncId->Hint:=bT 305 [(2,.inv [.val 8 false (.int .i64)])] (bT 321 [(2,.inv [.val 8 false (.int .i64)])] (λ_=>aX))
def AY3:aQ Tryz.prog AG4:=.cons jF (.cons AO6 (.cons tZ (.cons oD (.cons T2 (aQ.cons (x:=.dup 3 40) DN (.cons PH (.cons PG (.cons jU (.nil _)))))))))
def BR7(y5:aB)(y10:List cQ)(a1:aG)(R:T->Prop):Prop:=aI BRK (cM [(aF true aC (y5.1,y5.2.1,y5.2.2.1,y5.2.2.2.1,y5.2.2.2.2.1,y10)), aF true aK a1]) λ(y11:Int)=>aD (!decide (y11=0)) (R (T.bX [BRJ, pPP y11])) (R (T.bX [(aF true aC (y5.1,y5.2.1,y5.2.2.1,y5.2.2.2.1,y5.2.2.2.2.1,y10)), pPP 0]))
def BTH(a2:dG):List T:=[pPP a2.2.2.2.2.2.2.1, pPQ a2.2.2.2.2.2.2.2.1, pPQ a2.2.2.2.2.2.2.2.2]
def BSO(y5:aB)(a2:dG)(a1:aG)(R:T->Prop):Prop:=bP aW (kM (BR5 y5) [pPP (↑(BR5 y5).length:Int), T.sl true [(BTH a2)]]) λ(y14:List cQ)=>BR7 y5 y14 a1 R
def BSF(s7:Int×PUnit)(y5:aB)(a2:dG)(a1:aG)(R:T->Prop):Prop:=aD (decide (s7.1<0)) (bH (((BR5 y5).all λ(r:List T)=>decide (r.length=3)) && decide ((BR5 y5).length*40 <= 140737488355328) && decide ((BR5 y5).length<=140737488355328)) (BSO y5 a2 a1 R)) (bH (((BR5 y5).all λ(r:List T)=>decide (r.length=3)) && decide ((BR5 y5).length*40 <= 140737488355328) && decide ((BR5 y5).length<=140737488355328)) (bP aW (kM (BR5 y5) [pPP s7.1, T.sl true [(BTH a2)]]) λ(y12:List cQ)=>BR7 y5 y12 a1 R))
def BS9(y5:aB)(a2:dG)(a1:aG)(R:T->Prop):Prop:=bH (((BR5 y5).all λ(r:List T)=>decide (r.length=3)) && decide ((BR5 y5).length*40<=140737488355328) && decide ((BR5 y5).length<=140737488355328)) (BSO y5 a2 a1 R)
def AID(a0:aB)(a1:aG)(a2:dG)(R:T->Prop):Prop:=aI [(true,aN)] (vU [(aF true aN (11,a2))]) λ(y0:aZ)=>aI BRM (cV [(aF true aN (11,a2)), aF true aN y0]) λ(y1:Bool)=>aD (!y1) (BSU R) (a7 (Int×PUnit) (λX2 s3=>aD (decide (s3.1<(↑(BR5 a0).length:Int))) (aP aW (BR5 a0) s3.1 λ(y4:cQ)=>aD (decide (a2.2.2.2.2.2.2.1=y4.1) && (decide (a2.2.2.2.2.2.2.2.1=y4.2.1) && (decide (a2.2.2.2.2.2.2.2.2=y4.2.2)&&true))) (aD (decide (0<=s3.1)) (BTC R) (aI [(true,aC)] (eT [aF true aC a0]) λ(y5:aB)=>a7 (Int×PUnit) (λX6 s7=>aD (decide (s7.1<(↑(BR5 y5).length:Int))) (aP aW (BR5 y5) s7.1 λ(y8:cQ)=>aI BRM (qW [aF true aW y8, aF true aW a2.2.2.2.2.2.2]) λ(y9:Bool)=>aD y9 (BSF s7 y5 a2 a1 R) (BR4 X6 s7)) (BS9 y5 a2 a1 R)) (0,()))) (BR4 X2 s3)) (aI [(true,aC)] (eT [aF true aC a0]) λ(y16:aB)=>a7 (Int×PUnit) (λX17 s18=>aD (decide (s18.1<(↑(BR5 y16).length:Int))) (aP aW (BR5 y16) s18.1 λ(y19:cQ)=>aI BRM (qW [aF true aW y19,aF true aW a2.2.2.2.2.2.2]) λ(y20:Bool)=>aD y20 (BSF s18 y16 a2 a1 R) (BR4 X17 s18)) (BS9 y16 a2 a1 R)) (0,()))) (0,()))
def ASC ( a0 a1 a2 R):dV bS Tryz.prog AG4 A1O 8 83 (C2 a0 a1 a2) R=AID a0 a1 a2 R:=by kernel_rfl
def ZY:oI->Option T:=EC 11
def AGX (x y:oI) (h:C2 x.1 x.2.1 x.2.2=C2 y.1 y.2.1 y.2.2):x=y:=lM 11 x y h
def AKP:List T->Option (T):=gA (λ(x:aB×aG×dG)=>C2 x.1 x.2.1 x.2.2) ZY
def AUQ (a0:aB) (a1:aG) (a2:dG):AKP (C2 a0 a1 a2)=ZY (a0,a1,a2):=eR (A:=(λ(x:aB×aG×dG)=>C2 x.1 x.2.1 x.2.2)) AGX (a0,a1,a2)
def BE2 (h:∀ (a0:aB) (a1:aG) (a2:dG) (r:T),ZY (a0,a1,a2)=some r->(∀ t∈C2 a0 a1 a2,Bd t)->AID a0 a1 a2 (λy=>y=r)):aM Tryz.prog 83 AKP :=
 cG (E:=AG4) (Hs:=A1O) AY3 aR aU (aL rfl) 8 ⟨_,_,Tryz.func83,rfl⟩ λx r h1 h2=>by
  rw[ASC];exact h x.1 x.2.1 x.2.2 r h1 h2
def BDI:aM Tryz.prog 83 AKP:=BE2 λd m x r h hb=>by
 clear hb;obtain ⟨hp,rfl⟩:=tE h;clear h;obtain ⟨hc,ho1,ho2⟩:=GC hp;have c:=fO hc;have is:∀ {a:aB×Int},b6 d m (11,x)=a->Sh.enc [(true,aC),(false,.int .i64)] a=Sh.enc [(true,aC),(false,.int .i64)] (b6 d m (11,x)):=λh=>by rw[h]
 have hk:(1:Int)<=((11,x):aZ).1/\((11,x):aZ).1<=12:=by dsimp only;omega
 have h5:¬ ((11,x):aZ).1=5:=by dsimp only;omega
 have lift:∀ {a:aB×Int},b6 d m (11,x)=a->∀ v,v=Sh.enc [(true,aC),(false,.int .i64)] a->v=Sh.enc [(true,aC),(false,.int .i64)] (b6 d m (11,x)):=λh v hv=>by rw[h];exact hv
 unfold AID BTC BS9 BSU BSF BSO BTH BR7 BR4 BR5 BRM BRK BRJ;have z1:vU [aF true aN (11,x)]=some (Sh.enc [(true,aN)] (dN (11,x))):=(UJ ..).trans rfl;refine aH (s:=[(true,aN)]) (y:=dN (11,x)) z1 ?_;have z2:cV [aF true aN (11,x),aF true aN (dN (11,x))]=some (Sh.enc pC (mB (11,x) (dN (11,x)))):=qY ..;refine aH (s:=pC) (y:=mB (11,x) (dN (11,x))) z2 ?_;refine jI (λh=>lift (EO hk h) _ rfl) λhE=>?_;have hd:=xN (r:=aW) (l:=d.2.2.2.2.2) (z:=3) (b:=40) rfl (dR c.r (by decide));have pos:∀ {k:Nat},¬ (0<=(k:Int))->False:=λh=>h (by omega);have hus:sS d (11,x)=false:=rfl;have tail:∀ (hth:iP d (11,x) = !nM (11,x)) (l:List cQ) (hl:l=j9 DD d.2.2.2.2.2 (nN (11,x))),aI [(false,Sy.int IntKind.i64)] (cM [aF true aC (d.1,d.2.1,d.2.2.1,d.2.2.2.1,d.2.2.2.2.1,l),aF true aK m]) λ(y:Int) =>
   aD (!decide (y=0)) (Sh.enc [(true,aC),(false,.int .i64)] (iR,y)=Sh.enc [(true,aC),(false,.int .i64)] (b6 d m (11,x))) (Sh.enc [(true,aC),(false,.int .i64)] ((d.1,d.2.1,d.2.2.1,d.2.2.2.1,d.2.2.2.2.1,l),0)=Sh.enc [(true,aC),(false,.int .i64)] (b6 d m (11,x))):=λhth l hl=>by
  subst hl;refine aH (s:=[(false,.int .i64)]) (y:=iF (r4 d (11,x)) m) (nS ..) ?_;exact lA (λh=>is ((vG hk h5 hE hth hus).trans (if_neg h))) λh=>is ((vG hk h5 hE hth hus).trans (if_pos h))
 refine cX (r:=aW) (λn=>decide (n=nN (11,x))) (pB c.r) (λX k y hlt hy hp hn=>?_) (λ_ h0=>?_)
 ·dsimp only;refine ifC (λh=>?_) λh=>hn (ai λe=>h (A9.2 e.symm));obtain ⟨_,h2⟩:=hp (ah (A9.1 h).symm);exact bV (λ_=>lift (TJ hk h5 hE rfl h2) _ rfl) λh=>(pos h).elim
 ·have hth:iP d (11,x) = !nM (11,x):=h0;refine aH (s:=[(true,aC)]) (y:=d) ((uB ..).trans (eY hc)) ?_;refine cX (r:=aW) (λy=>DD y (nN (11,x))) (pB c.r) (λX k y hk' hy hp hn=>?_) (λh _=>?_)
  ·dsimp only;refine aH (s:=pC) (y:=DD y (nN (11,x))) (AD4 ..) ?_;refine IU (λh=>?_) λh=>hn h;obtain ⟨hi,_⟩:=hp h;refine bV (λh=>by omega) λ_=>⟨hd,?_⟩
   refine eE (r:=aW) (l:=d.2.2.2.2.2.take k++nN (11,x)::d.2.2.2.2.2.drop k) (sZ (r:=aW) (x:=nN (11,x)) rfl (by omega) c.r (by decide)) _ ?_;exact tail hth _ (by unfold j9;rw[hi])
  ·refine ⟨hd,?_⟩;rw[show (((List.map aW.enc d.2.2.2.2.2).length:Nat):Int)=((d.2.2.2.2.2.length:Nat):Int) by rw[ad]];refine eE (r:=aW) (l:=d.2.2.2.2.2.take d.2.2.2.2.2.length++nN (11,x)::d.2.2.2.2.2.drop d.2.2.2.2.2.length) (sZ (r:=aW) (x:=nN (11,x)) rfl (ak _) c.r (by decide)) _ ?_;exact tail hth _ (by unfold j9;rw[h])
def C3 (a0:aB) (a1:aG) (a2:dG):List T:=[aF true aC a0,aF true aK a1,aF true aN (12,a2)]
def AG5:Env:=Env.of [(118,.pure cV),(276,.pure vU),(229,.pure j8),(120,.pure eT),(280,.pure qW),(71,.dup 3 40),(324,.grow 3 kM),(325,.grow 3 AY),(26,.pure cM)]
def A1P:FuncId->Hint:=bT 305 [(2,.inv [.val 8 false (.int .i64)])] (bT 321 [(2,.inv [.val 8 false (.int .i64)])] (λ_=>aX))
def AY4:aQ Tryz.prog AG5:=.cons jF (.cons AO6 (.cons tZ (.cons oD (.cons T2 (aQ.cons (x:=.dup 3 40) DN (.cons PH (.cons PG (.cons jU (.nil _)))))))))
def BST(y6:aB)(a1:aG)(R:T->Prop):Prop:=bH (((BR5 y6).all λ(r:List T)=>decide (r.length=3)) && decide ((BR5 y6).length*40 <= 140737488355328) && decide ((BR5 y6).length<=140737488355328)) (aI BRK (cM [aF true aC y6,aF true aK a1]) λ(y10:Int)=>aD (!decide (y10=0)) (R (T.bX [BRJ, pPP y10])) (R (T.bX [aF true aC y6, pPP 0])))
def AIE(a0:aB)(a1:aG)(a2:dG)(R:T->Prop):Prop:=aI [(true,aN)] (vU [(aF true aN (12,a2))]) λ(y0:aZ)=>aI BRM (cV [(aF true aN (12,a2)), aF true aN y0]) λ(y1:Bool)=>aD (!y1) (BSU R) (a7 (Int×PUnit) (λX2 s3=>aD (decide (s3.1<(↑(BR5 a0).length:Int))) (aP aW (BR5 a0) s3.1 λ(y4:cQ)=>aD (decide (a2.2.2.2.2.2.2.1=y4.1) && (decide (a2.2.2.2.2.2.2.2.1=y4.2.1) && (decide (a2.2.2.2.2.2.2.2.2=y4.2.2)&&true))) (aD (!decide (0<=s3.1)) (BS6 R) (aI BRM (j8 [aF true aC a0, (aF true aN (12,a2))]) λ(y5:Bool)=>aD y5 (BTA R) (aI [(true,aC)] (eT [aF true aC a0]) λ(y6:aB)=>a7 (Int×PUnit) (λX7 s8=>aD (decide (s8.1<(↑(BR5 y6).length:Int))) (aP aW (BR5 y6) s8.1 λ(y9:cQ)=>aD (decide (y9.1=a2.2.2.2.2.2.2.1) && (decide (y9.2.1=a2.2.2.2.2.2.2.2.1) && (decide (y9.2.2=a2.2.2.2.2.2.2.2.2)&&true))) (aD (decide (s8.1<0)) (BST y6 a1 R) (bH (((BR5 y6).all λ(r:List T)=>decide (r.length=3)) && decide ((BR5 y6).length*40 <= 140737488355328) && decide ((BR5 y6).length<=140737488355328)) (bP aW (AY (BR5 y6) (BSS s8)) λ(y11:List cQ)=>BR7 y6 y11 a1 R))) (BR4 X7 s8)) (BST y6 a1 R)) (0,())))) (BR4 X2 s3)) (BS6 R)) (0,()))
def ASD ( a0 a1 a2 R):dV bS Tryz.prog AG5 A1P 8 83 (C3 a0 a1 a2) R=AIE a0 a1 a2 R:=by kernel_rfl
def ZZ:oI->Option T:=EC 12
def AGY (x y:oI) (h:C3 x.1 x.2.1 x.2.2=C3 y.1 y.2.1 y.2.2):x=y:=lM 12 x y h
def AKQ:List T->Option (T):=gA (λ(x:aB×aG×dG)=>C3 x.1 x.2.1 x.2.2) ZZ
def AUR (a0:aB) (a1:aG) (a2:dG):AKQ (C3 a0 a1 a2)=ZZ (a0,a1,a2):=eR (A:=(λ(x:aB×aG×dG)=>C3 x.1 x.2.1 x.2.2)) AGY (a0,a1,a2)
def BE3 (h:∀ (a0:aB) (a1:aG) (a2:dG) (r:T),ZZ (a0,a1,a2)=some r->(∀ t∈C3 a0 a1 a2,Bd t)->AIE a0 a1 a2 (λy=>y=r)):aM Tryz.prog 83 AKQ :=
 cG (E:=AG5) (Hs:=A1P) AY4 aR aU (aL rfl) 8 ⟨_,_,Tryz.func83,rfl⟩ λx r h1 h2=>by
  rw[ASD];exact h x.1 x.2.1 x.2.2 r h1 h2
def BDJ:aM Tryz.prog 83 AKQ:=BE3 λd m x r h hb=>by
 clear hb;obtain ⟨hp,rfl⟩:=tE h;clear h;obtain ⟨hc,ho1,ho2⟩:=GC hp;have c:=fO hc;have is:∀ {a:aB×Int},b6 d m (12,x)=a->Sh.enc [(true,aC),(false,.int .i64)] a=Sh.enc [(true,aC),(false,.int .i64)] (b6 d m (12,x)):=λh=>by rw[h]
 have hk:(1:Int)<=((12,x):aZ).1/\((12,x):aZ).1<=12:=by dsimp only;omega
 have h5:¬ ((12,x):aZ).1=5:=by dsimp only;omega
 have lift:∀ {a:aB×Int},b6 d m (12,x)=a->∀ v,v=Sh.enc [(true,aC),(false,.int .i64)] a->v=Sh.enc [(true,aC),(false,.int .i64)] (b6 d m (12,x)):=λh v hv=>by rw[h];exact hv
 unfold AIE BTA BS6 BSU BST BSS BR7 BR4 BR5 BRM BRK BRJ;have z1:vU [aF true aN (12,x)]=some (Sh.enc [(true,aN)] (dN (12,x))):=(UJ ..).trans rfl;refine aH (s:=[(true,aN)]) (y:=dN (12,x)) z1 ?_;have z2:cV [aF true aN (12,x),aF true aN (dN (12,x))]=some (Sh.enc pC (mB (12,x) (dN (12,x)))):=qY ..;refine aH (s:=pC) (y:=mB (12,x) (dN (12,x))) z2 ?_;refine jI (λh=>lift (EO hk h) _ rfl) λhE=>?_;have hd:=xN (r:=aW) (l:=d.2.2.2.2.2) (z:=3) (b:=40) rfl (dR c.r (by decide));have pos:∀ {k:Nat},¬ (0<=(k:Int))->False:=λh=>h (by omega);have hus:sS d (12,x)=false:=rfl;refine cX (r:=aW) (λn=>decide (n=nN (12,x))) (pB c.r) (λX k y hlt hy hp hn=>?_) (λ_ h0=>lift (OE hk h5 hE rfl h0) _ rfl);dsimp only;refine ifC (λh=>?_) λh=>hn (ai λe=>h (A9.2 e.symm));obtain ⟨_,h2⟩:=hp (ah (A9.1 h).symm);have hth:iP d (12,x) = !nM (12,x):=h2;refine jI (λh=>(pos (of_decide_eq_false h)).elim) λ_=>?_;have z4:j8 [aF true aC d,aF true aN (12,x)]=some (Sh.enc pC (sS d (12,x))):=(KV ..).trans rfl;refine aH (s:=pC) (y:=sS d (12,x)) z4 ?_;refine IU (λh=>absurd h (by rw[hus];decide)) λ_=>?_;refine aH (s:=[(true,aC)]) (y:=d) ((uB ..).trans (eY hc)) ?_;clear hp hn;refine cX (r:=aW) (λn=>decide (n=nN (12,x))) (pB c.r) (λX k y hk' hy hp hn=>?_) (λh h3=>?_)
 ·dsimp only;refine ifC (λh=>?_) λh=>hn (ai λe=>h (A9.2 e));obtain ⟨hi,_⟩:=hp (ah (A9.1 h));refine bV (λh=>by omega) λ_=>⟨hd,?_⟩
  have eD:r4 d (12,x)=(d.1,d.2.1,d.2.2.1,d.2.2.2.1,d.2.2.2.2.1,d.2.2.2.2.2.take k++d.2.2.2.2.2.drop (k+1)):=by
   show (d.1,d.2.1,d.2.2.1,d.2.2.2.1,d.2.2.2.2.1,gE (λn=>decide (n=nN (12,x))) d.2.2.2.2.2)=_;unfold gE;rw[hi]
  refine eE (r:=aW) (l:=d.2.2.2.2.2.take k++d.2.2.2.2.2.drop (k+1)) (H5 (r:=aW) rfl hk' c.r) _ ?_;have z5:cM [aF true aC (d.1,d.2.1,d.2.2.1,d.2.2.2.1,d.2.2.2.2.1,d.2.2.2.2.2.take k++d.2.2.2.2.2.drop (k+1)),aF true aK m]=some (Sh.enc [(false,Sy.int .i64)] (iF (d.1,d.2.1,d.2.2.1,d.2.2.2.1,d.2.2.2.2.1,d.2.2.2.2.2.take k++d.2.2.2.2.2.drop (k+1)) m)):=nS ..;refine aH (s:=[(false,.int .i64)]) (y:=iF (r4 d (12,x)) m) (by rw[eD];exact z5) ?_;exact lA (λh=>lift ((vG hk h5 hE hth hus).trans (if_neg h)) _ rfl) λh=>lift ((vG hk h5 hE hth hus).trans (if_pos h)) _ (by rw[eD];rfl)
 ·exfalso;have:=h2.symm.trans h3;cases this
end
end Go.Pv
