/-
  The reference's dag.Order, packages and Check of chapter 17.
  The tree of a valid design, in plain words: ways up, paths, what two paths share.
  The reference's packages and Check of chapter 17.
  Functions of which only this is wanted: that they come to some value.
  The reference's shapes: each function comes to some value.
  The reference's material and parts: each function comes to some value.
  The reference's Check of chapter 17: what a design is known by that passes it. (Of its parts' own checks nothing is asked.)
  EditOne (plain): what was added to a valid design can be removed from it again, and that leads back; how many elements there are behind an edit, and how many differ.
  The reference's Check of chapter 17, whole.
  StructureChecks: structure.Check answers as the reference's Check does.
  The examples of chapter 19, run by the kernel.
  The calls of edit.Apply in the examples of chapter 19, by its contract.
  The examples of chapter 19, run by the kernel.
  EditOne: what the law comes to.
-/
import Derived.Test.YtepoplfbgaoggaaGreatDoorOnez3
import Derived.Test.YtepoplfbgaoggaaGreatDoorOnez2
import Derived.Test.YtepoplfbgaoggaaGreatDoorOnekh
import Derived.Test.YtepoplfbgaoggaaGreatDoorOnez1
import Derived.Test.YtepoplfbgaoggaaGreatDoorOnekj
import Derived.Test.YtepoplfbgaoggaaGreatDoorOnecb
import Derived.Test.YtepoplfbgaoggaaGreatDoorOnegs
import Derived.Test.YtepoplfbgaoggaaGreatDoorOnekp
set_option linter.defProp false
set_option linter.unusedSimpArgs false
set_option linter.unusedVariables false
set_option maxRecDepth 100000
noncomputable section
namespace Go.Pv
open Go Go.Proofs IntKind
def AYS:FuncId->Hint:=bP 132 [(2,.inv [.val 5 false (.int .i64)])] (λ_=>bH)
def BYH:T:=pPP 9
def BYK:T:=pPP 2
def BYV(a1:List aN):List (List T):=List.map aC.enc a1
def KO(a0:Int)(a1:List aN)(R:T->Prop):Prop:=a7 (Int×PUnit) (λX0 s1=>aE (decide (s1.1<(↑(BYV a1).length:Int))) (aU aC (BYV a1) s1.1 λ(y2:aN)=>aU aC (BYV a1) s1.1 λ(y3:aN)=>aE (decide (y2.1<0)) (R BYH) (aE (decide (a0<=y2.1)) (R BYH) (aE (decide (y3.2<0)) (R BYH) (aE (decide (a0<=y3.2)) (R BYH) (aE (decide (y2.1=y3.2)) (R BYK) (X0 (i64.wrap (s1.1+1),()))))))) (R (pPP 0))) (0,())
abbrev M5:Sh:=[(false,(Sy.int IntKind.i64)),(false,aC.li)]
def yO (x:Int×List aN):Option T:=oI x.2 (T.v (Value.int .i64 (bT (pN x.1) x.2)))
def vI:List T->Option T:=gS M5 yO
def ADE {a0 a1}:vI [pPP a0,T.sl false (List.map aC.enc a1)]=yO (a0,a1):=a8 (s:=M5) rfl (a0,a1) rfl
def AR5:nJ Tryz.prog 132 vI yO (bR M5) KO:=eV (a1:=(false,(Sy.int IntKind.i64))) (a2:=(false,aC.li)) (Hs:=AYS) (k:=8) (bM _) aV aY (aQ rfl) ⟨_,_,Tryz.func132,rfl⟩ rfl λ_ _ _=>by kernel_rfl
def AP2:aT Tryz.prog 132 vI:=AR5 λn l r h hb=>by
 obtain ⟨hl,rfl⟩:=iR h;have hl:l.length<=140737488355328:=hl;clear h hb;unfold KO BYV BYK BYH;refine OR (r:=aC) (pN n) hl (λX k hk hok hbad=>?_) λh0=>?_
 ·have bad:∀ {m:Int},m≠0->pN n l[k]=m->pPP m=pPP (bT (pN n) l):=λhn h=>by
   rw[hbad (by rw[h];exact hn),h]
  dsimp only;rw[bA (r:=aC) hk,bA (r:=aC) hk];clear hbad;generalize l[k]=y at hok bad
  repeat' first
   | refine kD (λh=>?_) (λh=>?_)
   | refine b8 (λh=>?_) (λh=>?_)
  all_goals first
   | (exfalso;omega)
   | (refine bad (by decide) ?_;clear bad hok;unfold pN;first|(rw[if_pos (by omega)];done)|(rw[if_neg (by omega),if_pos (by omega)];done))
   | (refine hok ?_;clear bad hok;unfold pN;rw[if_neg (by omega),if_neg (by omega)];done)
 ·show _=pPP (bT (pN n) l);rw[h0]
def KL:Env:=Env.of [(132,.pure vI)]
def YX:FuncId->Hint:=bP 66 [(8,.inv [.own 7 1 (.int .i64),.arr 0 1 .bool]),(11,.inv [.arr 2 1 .bool,.val 10 false (.int .i64)]),(17,.inv [.val 11 false (.int .i64),.val 12 false (.int .i64)])] (λ_=>bH)
def AHB:bB Tryz.prog KL:=.cons AP2 (.nil _)
def BYE:Sh:=[(false,Sy.int IntKind.i64)]
def BYG:Sy:=Sy.int IntKind.i64
def BYQ(s3:List Int×List Bool×PUnit):List (List T):=List.map Sy.bool.enc s3.2.1
def BYU(s6:List Bool×Int×PUnit):List (List T):=List.map Sy.bool.enc s6.1
def KW(a0:Int)(a1:List aN)(R:T->Prop):Prop:=aE (decide (a0<0)) (bO BYH.flat (R (T.cB [T.sl false [],pPP 9]))) (aE (decide (256<a0)) (bO BYH.flat (R (T.cB [T.sl false [],pPP 9]))) (aJ BYE (vI [pPP a0,T.sl false (BYV a1)]) λ(y0:Int)=>aE (!decide (y0=0)) (bO (pPP y0).flat (R (T.cB [T.sl false [],pPP y0]))) (bO ((decide (a0=a0)||decide (a0=0))&&decide (0<=a0)&&decide (a0*(↑1:Int)<=140737488355328) && decide (a0<=140737488355328)) (cD Sy.bool (List.replicate (Int.toNat a0) [pPR false]) λ(y1:List Bool)=>a7 (List Int×List Bool×PUnit) (λX2 s3=>aE (decide ((↑(List.map BYG.enc s3.1).length:Int)<a0)) (bO ((decide (a0=a0)||decide (a0=0))&&decide (0<=a0) && decide (a0*(↑1:Int)<=140737488355328) && decide (a0<=140737488355328)) (cD Sy.bool (List.replicate (Int.toNat a0) [pPR false]) λ(y4:List Bool)=>a7 (List Bool×Int×PUnit) (λX5 s6=>aE (decide (s6.2.1<(↑(BYV a1).length:Int))) (aU aC (BYV a1) s6.2.1 λ(y7:aN)=>aU Sy.bool (BYQ s3) y7.1 λ(y8:Bool)=>kU Sy.bool (BYQ s3) (Int.toNat y7.1) 0 λ(y9:Bool)=>aE (!y9) (aU aC (BYV a1) s6.2.1 λ(y10:aN)=>aU Sy.bool (BYU s6) y10.2 λ(y11:Bool)=>D6 (BYU s6) (Int.toNat y10.2) λ(y12:List T)=>bO (decide (1<=y12.length)) (cD Sy.bool ((BYU s6).set (Int.toNat y10.2) (b6 y12 0 [pPR true])) λ(y13:List Bool)=>X5 (y13,i64.wrap (s6.2.1+1),()))) (cD Sy.bool (BYU s6) λ(y14:List Bool)=>X5 (y14,i64.wrap (s6.2.1+1),()))) (a7 (Int×Int×PUnit) (λX15 s16=>aE (decide (0<=s16.2.1)) (aU Sy.bool (BYQ s3) s16.2.1 λ(y17:Bool)=>kU Sy.bool (BYQ s3) (Int.toNat s16.2.1) 0 λ(y18:Bool)=>aE (!y18) (aU Sy.bool (BYU s6) s16.2.1 λ(y19:Bool)=>kU Sy.bool (BYU s6) (Int.toNat s16.2.1) 0 λ(y20:Bool)=>aE (!y20) (X15 (s16.2.1,i64.wrap (s16.2.1-1),())) (X15 (s16.1,i64.wrap (s16.2.1-1),()))) (X15 (s16.1,i64.wrap (s16.2.1-1),()))) (aE (decide (s16.1<0)) (bO (pPP 20).flat (R (T.cB [T.sl false [],pPP 20]))) (aU Sy.bool (BYQ s3) s16.1 λ(y21:Bool)=>D6 (BYQ s3) (Int.toNat s16.1) λ(y22:List T)=>bO (decide (1<=y22.length)) (bO (decide (((List.map BYG.enc s3.1).length+1)*8 <= 140737488355328) && decide ((List.map BYG.enc s3.1).length+1 <= 140737488355328)) (cD BYG (List.map BYG.enc s3.1 ++ [[pPP s16.1]]) λ(y23:List Int)=>cD Sy.bool ((BYQ s3).set (Int.toNat s16.1) (b6 y22 0 [pPR true])) λ(y24:List Bool)=>X2 (y23,y24,())))))) (-1,i64.wrap (a0-1),()))) (y4,0,()))) (bO ((List.map BYG.enc s3.1).all λ(r:List T)=>r.all T.flat) (bO (pPP 0).flat (R (T.cB [T.sl false (List.map BYG.enc s3.1), pPP 0]))))) ([],y1,())))))
def AB0 ( a0 a1 R):uU cA Tryz.prog KL YX 8 66 [aH false (Sy.int IntKind.i64) a0,aH false aC.li a1] R=KW a0 a1 R:=by kernel_rfl
abbrev C8:Sh:=[(false,(Sy.int IntKind.i64)),(false,aC.li)]
abbrev oW:Sh:=[(false,(Sy.int IntKind.i64).li),(false,Sy.int IntKind.i64)]
def F7 (x:Int×List aN):Option T:=oI x.2 (Sh.enc oW (eR x.1 x.2))
def vW:List T->Option (T):=gS C8 F7
def ADN {a0 a1}:vW [pPP a0,T.sl false (List.map aC.enc a1)]=F7 (a0,a1):=a8 (s:=C8) rfl (a0,a1) rfl
def ASG (h:∀ a0 a1 r,F7 (a0,a1)=some r->bR C8 (a0,a1)->KW a0 a1 (λy=>y=r)):j9 Tryz.prog 66 vW :=
 AVJ (E:=KL) (Hs:=YX) AHB aV aY (aQ rfl) 8 ⟨_,_,Tryz.func66,rfl⟩ rfl λx r h1 h2=>by
  obtain ⟨a0,a1⟩:=x;rw[show Sh.lD C8 (a0,a1)=[aH false (Sy.int IntKind.i64) a0,aH false aC.li a1] from rfl,AB0];exact h a0 a1 r h1 h2
def AQG:j9 Tryz.prog 66 vW:=ASG λn l r h hb=>by
 obtain ⟨hl,rfl⟩:=iR h;clear h;have hl:l.length<=140737488355328:=hl;unfold KW BYV BYU BYQ BYH BYG BYE;refine b8 (λh=>?_) λhn0=>?_
 ·refine ⟨rfl,?_⟩;show _=Sh.enc oW (eR n l);rw[eR,if_pos (Or.inl h)];rfl
 refine b8 (λh=>?_) λhn1=>?_
 ·refine ⟨rfl,?_⟩;show _=Sh.enc oW (eR n l);rw[eR,if_pos (Or.inr h)];rfl
 refine aM (s:=[(false,.int .i64)]) (y:=bT (pN n) l) (by rw[ADE];exact fH _ hl) ?_;refine kD (λh0=>?_) (λh0=>?_)
 ·refine ⟨rfl,?_⟩;show _=Sh.enc oW (eR n l);rw[eR,if_neg (by omega),if_neg h0];rfl
 have hv:eR n l=sP l n.toNat n.toNat [] (List.replicate n.toNat false):=VU hl (by omega) (by omega) h0;have hend:∀ e∈l,0<=e.1/\e.1<n/\0<=e.2/\e.2<n:=λe he=>by
  have:=r5 h0 e he;unfold pN at this;split at this
  ·exact absurd this (by decide)
  ·omega
 clear h0 hb;obtain ⟨N,rfl⟩:∃ N:Nat,n=(N:Int):=⟨n.toNat,by omega⟩
 rw[Int.toNat_natCast] at hv ⊢;refine ⟨by simp;omega,?_⟩;rw[AMU,dJ rfl];refine bJ N (λk s=>s.1.length=k/\s.2.1.length=N/\sP l N (N-k) s.1 s.2.1=eR N l) ⟨rfl,by simp,by rw[hv];rfl⟩ ?_;clear hv;rintro X k ⟨o,t,u⟩ hk ⟨hol,htl,hr⟩ hX;dsimp only at hol htl hr ⊢;refine b8 (λhlt=>?_) λhge=>?_
 ·rw[ae,hol] at hlt;have hlt:k<N:=by omega
  obtain ⟨m,hm⟩:∃ m,N-k=m+1:=⟨N-k-1,by omega⟩
  rw[hm,sP] at hr;refine ⟨by simp;omega,?_⟩;rw[dJ rfl];refine bJ l.length (λj s=>s.2.1=(j:Int)/\s.1.length=N/\∀ v,s.1.getD v false=PJ (l.take j) t v) ⟨rfl,by simp,λv=>?_⟩ ?_
  ·show (List.replicate N false).getD v false=PJ [] t v;rw[List.getD_eq_getElem?_getD,List.getElem?_replicate];split<;>rfl
  rintro Y j ⟨w,i,u⟩ hj ⟨rfl,hwl,hw⟩ hY;dsimp only at hwl hw ⊢;refine b8 (λhjl=>?_) λhjl=>?_
  ·rw[ae] at hjl;have hjl:j<l.length:=by omega
   rw[bA hjl];obtain ⟨e0,e1,f0,f1⟩:=hend _ (ak hjl);have ht:(l[j].1).toNat<t.length:=by omega
   have hwj:(l[j].2).toNat<w.length:=by omega
   rw[rN e0 ht,gI ht];have step:∀ v,PJ (l.take (j+1)) t v=(PJ (l.take j) t v||EO t v l[j]):=λv=>by
    unfold PJ;rw[List.take_succ_eq_append_getElem hjl,List.any_append];simp
   have hwr:i64.wrap ((j:Int)+1)=((j+1:Nat):Int):=by rw[aZ]<;>omega
   refine eQ (λhf=>?_) λhf=>?_
   ·rw[bA hjl,rN f0 hwj,n9 hwj];refine ⟨rfl,?_⟩;rw[XB hwj,dJ rfl];refine hY _ hjl ⟨hwr,?_,λv=>?_⟩
    ·show (List.set _ _ _).length=N;rw[List.length_set];exact hwl
    show (w.set (l[j].2).toNat true).getD v false=_;rw[H8 hwj,step,<-hw];unfold EO;rw[pA (l:=t) false ht,hf];by_cases hc:v=l[j].2.toNat
    ·rw[if_pos hc,ai (show l[j].2=(v:Int) by omega)];simp
    ·rw[if_neg hc,aj (show ¬ l[j].2=(v:Int) by omega)];simp
   ·rw[dJ rfl];refine hY _ hjl ⟨hwr,hwl,λv=>?_⟩;show w.getD v false=_;rw[step,<-hw];unfold EO;rw[pA (l:=t) false ht,hf];simp
  rw[ae] at hjl;have:j=l.length:=by omega
  subst this;rw[List.take_length] at hw;clear hY hjl hj;refine bJ N (λq s=>s.2.1=(N:Int)-1-(q:Int)/\s.1=match (List.range' (N-q) q).find? (r6 l t) with
   | none=>-1
   | some v=>(v:Int)) ⟨?_,rfl⟩ ?_
  ·show i64.wrap ((N:Int)-1)=(N:Int)-1-0;rw[aZ]<;>omega
  rintro Z q ⟨x,i,u⟩ hq ⟨rfl,hx⟩ hZ;dsimp only at hx ⊢;refine b8 (λhqn=>?_) λhqn=>?_
  ·have hqn:q<N:=by omega
   obtain ⟨v,hv⟩:∃ v:Nat,(N:Int)-1-(q:Int)=(v:Int):=⟨N-1-q,by omega⟩
   rw[hv];have hvt:v<t.length:=by omega
   have hvw:v<w.length:=by omega
   rw[bA hvt,Int.toNat_natCast,gI hvt];have hfind:(List.range' (N-(q+1)) (q+1)).find? (r6 l t)=if r6 l t v=true then some v else (List.range' (N-q) q).find? (r6 l t):=by
    have e:N-(q+1)=v:=by omega
    have e2:N-q=v+1:=by omega
    rw[e,e2,List.range'_succ,List.find?_cons];cases r6 l t v<;>rfl
   have fw:r6 l t v=(!t[v] && !w[v]):=by unfold r6;rw[<-hw,pA (l:=t) false hvt,pA (l:=w) false hvw]
   have nx:i64.wrap ((v:Int)-1)=(N:Int)-1-((q+1:Nat):Int):=by rw[aZ]<;>omega
   refine eQ (λh1=>?_) λh1=>?_
   ·rw[bA hvw,gI hvw];refine eQ (λh2=>?_) λh2=>?_
    ·refine hZ _ hqn ⟨nx,?_⟩;show (v:Int)=_;rw[hfind,fw,h1,h2];rfl
    ·refine hZ _ hqn ⟨nx,?_⟩;show x=_;rw[hfind,fw,h1,h2];exact hx
   ·refine hZ _ hqn ⟨nx,?_⟩;show x=_;rw[hfind,fw,h1];exact hx
  have hqN:q=N:=by omega
  rw[hqN,Nat.sub_self,<-List.range_eq_range'] at hx;clear hZ hqn hq;cases hf:(List.range N).find? (r6 l t) with
  | none =>
   rw[hf] at hx hr;have hx:x = -1:=hx;refine b8 (λ_=>⟨rfl,?_⟩) λh=>?_
   ·show _=Sh.enc oW (eR (N:Int) l);rw[<-hr];rfl
   ·exfalso;omega
  | some v =>
   rw[hf] at hx hr;have hx:x=(v:Int):=hx;subst hx;have hvn:v<N:=List.mem_range.1 (List.mem_of_find?_eq_some hf);refine b8 (λh=>by exfalso;omega) λ_=>?_;have hvt:v<t.length:=by omega
   rw[bA hvt,Int.toNat_natCast,n9 hvt];refine ⟨rfl,⟨by simp;omega,?_⟩⟩;rw[vC (r:=.int .i64) rfl o [pPP (v:Int)] (v:Int) rfl,XB hvt,dJ rfl];refine hX _ hlt ⟨by simp[hol],by simp[htl],?_⟩;rw[show N-(k+1)=m by omega];exact hr
 ·rw[ae,hol] at hge;have hkN:k=N:=by omega
  subst hkN;rw[Nat.sub_self,sP] at hr;refine ⟨Y9 o,rfl,?_⟩;show _=Sh.enc oW (eR (k:Int) l);rw[<-hr];rfl
end Go.Pv
namespace Go.Pv
open Go Go.Proofs IntKind
end Go.Pv
namespace Go.Pv
open Go Go.Proofs IntKind
def AQR {d:aG} (h:fW d=0):fO d=false/\(oG (ids d.2.1)=true/\oG (ids d.2.2.1)=true/\oG (ids d.2.2.2.1)=true/\oG (ids d.2.2.2.2.1)=true)/\LL d=false:=by
 unfold fW at h;split at h
 ·cases h
 split at h
 ·cases h
 split at h
 ·cases h
 rename_i h1 h2 h3;have h2:jX d=true:=by simpa using h2
 simp only[jX,ac] at h2;exact ⟨by simpa using h1,⟨h2.1.1.1.1,h2.1.1.1.2,h2.1.1.2,h2.1.2⟩,by simpa using h3⟩
variable {α:Type}{l:List (iII×α)}
def xN {id:iII} {a:iII×α} (h:l.find? (λs=>decide (s.1=id))=some a):a∈l/\a.1=id :=
 ⟨List.mem_of_find?_eq_some h,by have:=List.find?_some h;simpa using this⟩
def BFE {d:aG}:∀ {n:Nat} {id:iII} {l:List iII},(upF d n id l).2=true->(upF d n id l).1≠[]
 | 0,_,_,h=>by cases h
 | n+1,id,l,h=>by
  unfold upF at h ⊢;cases hn:cG d id with
  | none=>rw[hn] at h;cases h
  | some x =>
   rw[hn] at h;dsimp only at h ⊢;by_cases h1:x.2.1=1
   ·rw[if_pos h1];simp
   ·rw[if_neg h1] at h ⊢;exact BFE h
structure VOk (d:aG):Prop where
 u:UOk d
 long:d.2.2.2.2.1.length<=64
 BTC:oG (ids d.2.2.2.2.1)=true
 none:∀ p∈d.2.2.1,cG d p.1=none
 up:∀ p∈d.2.2.1,(up d (fV p)).2=true
def okV (d:aG):Bool:=okU d&&(decide (fW d=0)&&(decide (fD d=0)&&d.2.2.1.all λp=>(cG d (fV p)).isSome))
def BJT {d:aG} (h:okV d=true):VOk d:=by
 simp only[okV,ac,ah,List.all_eq_true] at h;obtain ⟨h0,h1,h2,h3⟩:=h;obtain ⟨f1,⟨-,-,-,f4⟩,f5⟩:=AQR h1;refine ⟨C6 h0,?_,f4,λp hp=>?_,λp hp=>?_⟩
 ·simp only[fO,Bool.or_eq_false_iff,decide_eq_false_iff_not] at f1;omega
 ·cases hn:cG d p.1 with
  | none=>rfl
  | some n =>
   exfalso;obtain ⟨m1,m2⟩:=xN hn;have:LL d=true:=E8 (m:=ids d.2.1) (l:=ids d.2.2.1) (.inl ⟨rfl,rfl⟩) (List.any_eq_true.2 ⟨p.1,List.mem_map.2 ⟨p,hp,rfl⟩,l8.2 (m2 ▸ List.mem_map.2 ⟨n,m1,rfl⟩)⟩);rw[f5] at this;cases this
 ·have h4:=h3 p hp;obtain ⟨n,hn⟩:=Option.isSome_iff_exists.1 h4;obtain ⟨m1,m2⟩:=xN hn;have hup:PV d=false:=by
   unfold fD at h2;split at h2
   ·split at h2
    ·cases h2
    ·rename_i h;simpa using h
   ·rename_i h;exact absurd h2 h
  unfold PV at hup;rw[<-m2];cases hc:(up d n.1).2 with
  | true=>rfl
  | false =>
   exfalso;rw[Bool.eq_false_iff] at hup;exact hup (List.any_eq_true.2 ⟨n,m1,by rw[hc];rfl⟩)
def AZG {d:aG} (v:VOk d) {p:bG} {id b:iII} (hp:partOf d id=some p):p.1=id/\((iM d p.1).1=b↔(up d (fV p)).1.getLast? = some b):=by
 obtain ⟨m1,m2⟩:=xN hp;refine ⟨m2,?_⟩;have hu:=v.up p m1;have e:iM d p.1=(U7 (up d (fV p)).1,true):=by
  unfold iM;rw[v.none p m1,m2,hp];show AA8 d (fV p)=_;unfold AA8;rw[if_pos hu]
 rw[e];have hne:(up d (fV p)).1≠[]:=BFE hu;show U7 _=b↔_;unfold U7;rw[List.getLastD_eq_getLast?];cases hl:(up d (fV p)).1.getLast? with
 | none=>exact absurd (List.getLast?_eq_none_iff.1 hl) hne
 | some x=>exact ⟨λh=>congrArg some h,λh=>Option.some.inj h⟩
def A4D:Env:=Env.of [(11,.pure jL),(131,.pure mY),(56,.pure iB)]
def A6U:FuncId->Hint:=bP 65 [(3,.inv [.val 6 false (.int .i64)]),(14,.inv [.val 11 false (.int .i64)])] (λ_=>bH)
def AN2:bB Tryz.prog A4D:=.cons CV (.cons AP1 (.cons T1 (.nil _)))
def BYD:Sh:=[(false,Sy.bool)]
def BYN(a0:aG):List (List T):=List.map aK.enc a0.2.2.2.2.1
def BYW(y0:bE):List (List T):=List.map Sy.str.enc y0.2.2.1
def BYL(a0:aG)(y4:bG×Bool)(y0:bE)(R:T->Prop)(a1:Int)(X1:Int×PUnit->Prop)(s2:Int×PUnit):Prop:=aJ [(false,Sy.str),(false,Sy.bool)] (mY [aH true aF a0,pPQ y4.1.1]) λ(y5:iII×Bool)=>aE (!decide (y5.1=y0.2.1)) (R BYK) (a7 (Int×PUnit) (λX6 s7=>aE (decide (s7.1<a1)) (aU aK (BYN a0) s7.1 λ(y8:bE)=>aJ BYD (iB [T.sl false (BYW y8), pPQ y4.1.1]) λ(y9:Bool)=>aE y9 (R (pPP 7)) (X6 (i64.wrap (s7.1+1),()))) (X1 (i64.wrap (s2.1+1),()))) (0,()))
def RT(a0:aG)(a1:Int)(R:T->Prop):Prop:=aU aK (BYN a0) a1 λ(y0:bE)=>a7 (Int×PUnit) (λX1 s2=>aE (decide (s2.1<(↑(BYW y0).length:Int))) (aU Sy.str (BYW y0) s2.1 λ(y3:iII)=>aJ [(true,aS),(false,Sy.bool)] (jL [aH true aF a0,pPQ y3]) λ(y4:bG×Bool)=>aE (!y4.2) (R (pPP 8)) (aE (!decide (y4.1.2.2.1=4)) (aE (!decide (y4.1.2.2.1=3)) (R (pPP 10)) (BYL a0 y4 y0 R a1 X1 s2)) (BYL a0 y4 y0 R a1 X1 s2))) (R (pPP 0))) (0,())
abbrev V3:Sh:=[(true,aF),(false,(Sy.int IntKind.i64))]
def G1 (d:aG) (k:Nat) (b:iII) (id:iII):Int:=match partOf d id with
 | none=>8
 | some p=>if ¬ cY p=4/\¬ cY p=3 then 10 else if ¬ (iM d p.1).1=b then 2 else if ((d.2.2.2.2.1.take k).any λq=>oR (eF q) p.1)=true then 7 else 0
def OJ (d:aG) (k:Nat) (x:bE):Int:=bT (G1 d k x.2.1) (eF x)
def rO (x:aG×Int):Option T:=match decide (0<=x.2),x.1.2.2.2.2.1[x.2.toNat]? with
 | true,some k=>JG x.1 (T.v (Value.int .i64 (OJ x.1 x.2.toNat k)))
 | _,_=>none
def AO:List T->Option T:=gS V3 rO
def AJL {a0 a1}:AO [aH true aF a0,pPP a1]=rO (a0,a1):=a8 (s:=V3) rfl (a0,a1) rfl
def A18:nJ Tryz.prog 65 AO rO (bR V3) RT:=eV (a1:=(true,aF)) (a2:=(false,(Sy.int IntKind.i64))) (Hs:=A6U) (k:=8) AN2 aV aY (aQ rfl) ⟨_,_,Tryz.func65,rfl⟩ rfl λ_ _ _=>by kernel_rfl
def ACU {d:aG} (u:UOk d) {id:iII} {K:iII×Bool->Prop} (h:K (iM d id)):aJ [(false,Sy.str),(false,Sy.bool)] (mY [aH true aF d,pPQ id]) K:=aM (s:=AEW) ((ADD ..).trans (BDF _ u.KK u.PD (A3U u.QJ (by omega)))) h
def A0B:aT Tryz.prog 65 AO:=A18 λd i r h hb=>by
 unfold rO at h;split at h
 case h_2=>cases h
 rename_i y h0 hy;have h0:0<=i:=of_decide_eq_true h0;obtain ⟨k,rfl⟩:∃ k:Nat,i=(k:Int):=⟨i.toNat,by omega⟩
 obtain ⟨hu,rfl⟩:=JH h;have u:UOk d:=C6 hu;clear h hb h0;have hy:d.2.2.2.2.1[k]? = some y:=hy;obtain ⟨hk,hy⟩:=List.getElem?_eq_some_iff.1 hy;have hl:=u.kl y (hy ▸ ak hk);have hkl:=u.k;unfold RT BYL BYW BYN BYK BYD;dsimp only;rw[bA (r:=aK) hk,hy];show _;refine gX (r:=.str) (G1 d k y.2.1) (show (eF y).length<=_ by omega) (λX s id hid hok hbad=>?_) λh0=>?_
 ·have bad:∀ {n:Int},n≠0->G1 d k y.2.1 id=n->pPP n=pPP (OJ d k y):=λhn h=>by
   unfold OJ;rw[hbad (by rw[h];exact hn),h]
  clear hbad;refine BR ?_;cases hp:partOf d id with
  | none=>exact eQ (λ_=>bad (by decide) (by unfold G1;rw[hp])) λh=>Bool.noConfusion h
  | some p =>
   refine eQ (λh=>Bool.noConfusion h) λ_=>?_;dsimp only[found];have w:G1 d k y.2.1 id=if ¬ cY p=4/\¬ cY p=3 then 10 else if ¬ (iM d p.1).1=y.2.1 then 2 else if ((d.2.2.2.2.1.take k).any λq=>oR (eF q) p.1)=true then 7 else 0:=by unfold G1;rw[hp]
   have tail:¬ (¬ cY p=4/\¬ cY p=3)->aJ [(false,Sy.str),(false,Sy.bool)] (mY [aH true aF d,pPQ p.1])
     (λ(y5:iII×Bool)=>aE (!decide (y5.1=y.2.1)) (pPP 2=pPP (OJ d k y))
      (a7 (Int×PUnit) (λ(X6:Int×PUnit->Prop) (s7:Int×PUnit)=>aE (decide (s7.1<(k:Int)))
       (aU aK (List.map aK.enc d.2.2.2.2.1) s7.1 λ(y8:bE)=>aJ [(false,Sy.bool)] (iB [T.sl false (List.map Sy.str.enc y8.2.2.1),pPQ p.1]) λ(y9:Bool) =>
        aE y9 (pPP 7=pPP (OJ d k y)) (X6 (i64.wrap (s7.1+1),())))
       (X (i64.wrap (s.1+1),()))) (0,()))):=by
    intro hkind;rw[if_neg hkind] at w;refine ACU u ?_;refine kD (λh=>bad (by decide) (by rw[w,if_pos h])) λh=>?_;rw[if_neg (λh2=>h2 h)] at w;refine bJ k (λj s=>s=((j:Int),())/\∀ q∈d.2.2.2.2.1.take j,oR (eF q) p.1=false) ⟨rfl,by simp⟩ ?_;rintro Z j _ hj ⟨rfl,hall⟩ hZ;dsimp only;refine b8 (λhlt=>?_) λhge=>?_
    ·have hlt:j<k:=by omega
     have hjl:j<d.2.2.2.2.1.length:=by omega
     have ht:d.2.2.2.2.1.take (j+1)=d.2.2.2.2.1.take j++[d.2.2.2.2.1[j]]:=List.take_succ_eq_append_getElem hjl;rw[bA (r:=aK) hjl];refine aM (s:=D4) (y:=oR (eF d.2.2.2.2.1[j]) p.1) (FK ..) ?_;refine zQ (λh=>bad (by decide) ?_) λh=>hZ _ hlt ⟨?_,λq hq=>?_⟩
     ·rw[w,if_pos];refine List.any_eq_true.2 ⟨d.2.2.2.2.1[j],?_,h⟩;exact List.mem_take_iff_getElem.2 ⟨j,by omega,rfl⟩
     ·rw[show i64.wrap ((j:Int)+1)=((j+1:Nat):Int) from aZ _ (by omega) (by omega)]
     ·rw[ht] at hq;rcases List.mem_append.1 hq with hq|hq
      ·exact hall q hq
      ·rw[List.mem_singleton.1 hq];exact h
    ·have hjk:j=k:=by omega
     subst hjk;refine hok ?_;rw[w,if_neg];intro h;obtain ⟨q,hq,h⟩:=List.any_eq_true.1 h;rw[hall q hq] at h;cases h
   refine kD (λh4=>kD (λh3=>bad (by decide) ?_) λh3=>tail λh=>h.2 h3) λh4=>tail λh=>h.1 h4;rw[w,if_pos ⟨h4,h3⟩]
 ·show _=pPP (OJ d k y);unfold OJ;rw[h0]
def inst_eq {d:aG} (v:VOk d) {k:Nat} {b:iII}:∀ {l S:List iII},l.Nodup->(∀ id∈l,id∈S↔((d.2.2.2.2.1.take k).any λq=>oR (eF q) id)=true)->(instE d b l S).1=bT (G1 d k b) l/\((instE d b l S).1=0->∀ id,id∈(instE d b l S).2↔id∈S\/id∈l)
 | [],S,_,_=>⟨rfl,λ_ id=>by simp[instE]⟩
 | a::l,S,hn,hS=>by
  obtain ⟨n1,n2⟩:=List.pairwise_cons.1 hn;have hc:G1 d k b a=match partOf d a with
   | none=>8
   | some p=>if ¬ cY p=4/\¬ cY p=3 then 10 else if ¬ (iM d p.1).1=b then 2 else if ((d.2.2.2.2.1.take k).any λq=>oR (eF q) p.1)=true then 7 else 0:=rfl
  rw[instE,bT];cases hp:partOf d a with
  | none =>
   rw[hp] at hc;have hc:G1 d k b a=8:=hc;rw[hc];exact ⟨by show (8:Int)=_;rw[if_neg (by decide)],λh=>by cases h⟩
  | some p =>
   rw[hp] at hc;obtain ⟨e1,e2⟩:=AZG v (b:=b) hp;dsimp only at hc ⊢;by_cases c1:¬ cY p=4/\¬ cY p=3
   ·rw[if_pos c1] at hc ⊢;rw[hc];exact ⟨by rw[if_neg (by decide)],λh=>by cases h⟩
   rw[if_neg c1] at hc ⊢;by_cases c2:(up d (fV p)).1.getLast? = some b
   ·rw[if_neg (λh=>h (e2.2 c2))] at hc;rw[if_pos c2];rw[e1] at hc;have hm:=hS a (by simp);by_cases c3:oR S a=true
    ·rw[if_pos (hm.1 (l8.1 c3))] at hc;rw[if_pos c3,hc];exact ⟨by rw[if_neg (by decide)],λh=>by cases h⟩
    ·rw[if_neg (λh=>c3 (l8.2 (hm.2 h)))] at hc;rw[if_neg c3,hc,if_pos rfl];obtain ⟨r1,r2⟩:=inst_eq v (k:=k) (b:=b) (l:=l) (S:=a::S) n2 λid hid=>by
      rw[<-hS id (List.mem_cons_of_mem _ hid)];exact ⟨λh=>(List.mem_cons.1 h).resolve_left λe=>n1 id hid e.symm,λh=>List.mem_cons_of_mem _ h⟩
     refine ⟨r1,λh id=>?_⟩;rw[r2 h id];simp only[List.mem_cons];exact ⟨λh=>h.elim (λh=>h.elim (λh=>.inr (.inl h)) .inl) λh=>.inr (.inr h),λh=>h.elim (λh=>.inl (.inr h)) λh=>h.elim (λh=>.inl (.inl h)) .inr⟩
   ·rw[if_pos (λh=>c2 (e2.1 h))] at hc;rw[if_neg c2,hc];exact ⟨by rw[if_neg (by decide)],λh=>by cases h⟩
def V1 {l:List aN} {n:Nat}:∀ {f:Nat} {o:List Int} {t:List Bool},(sP l n f o t).2=0\/(sP l n f o t).2=20
 | 0,o,t=>.inl rfl
 | f+1,o,t=>by
  rw[sP];cases (List.range n).find? (r6 l t) with
  | none=>exact .inr rfl
  | some v=>exact V1 (f:=f)
def FC {α:Type} {f:α->Int}:∀ {l:List α},(∀ a∈l,f a=0)->bT f l=0
 | [],_=>rfl
 | a::l,h=>by rw[bT,if_pos (h a (by simp))];exact FC λb hb=>h b (by simp[hb])
def BMF {d:aG} {k id:iII} {i j:Nat} (hi:i<d.2.2.2.2.1.length) (hj:j<d.2.2.2.2.1.length) (hk:d.2.2.2.2.1[i].1=k) (h:d.2.2.2.2.1[j].1=id) (hne:¬ id=k):j≠i:=by
 intro e;subst e;exact hne (h.symm.trans hk)
def BII {n:Nat} (h:n<(ids l).length):(ids l)[n]=(l[n]'(by unfold ids at h;rw[ae] at h;exact h)).1:=by simp only[ids,List.getElem_map]
def BIJ (hn:(ids l).Nodup) {i j:Nat} (hi:i<l.length) (hj:j<l.length) (h:l[i].1=l[j].1):i=j:=by
 have li:∀ {m:Nat},m<l.length->m<(ids l).length:=λh=>by unfold ids;rw[ae];exact h
 have h2:(ids l)[i]'(li hi)=(ids l)[j]'(li hj):=by simp only[ids,List.getElem_map];exact h
 have hp:=List.pairwise_iff_getElem.1 hn;rcases Nat.lt_trichotomy i j with h3|h3|h3
 ·exact absurd h2 (hp i j (li hi) (li hj) h3)
 ·exact h3
 ·exact absurd h2.symm (hp j i (li hj) (li hi) h3)
def AXV:Env:=Env.of [(58,.pure gG),(64,.pure dK),(54,.pure mH),(65,.pure AO),(56,.pure iB),(53,.pure mZ),(66,.new vW)]
def AY1:FuncId->Hint:=bP 25 [(4,.inv [.own 4 2 (.pr (.int .i64) (.int .i64)),.val 5 false (.int .i64)]),(19,.inv [.own 4 2 (.pr (.int .i64) (.int .i64)),.val 8 false (.int .i64)]),(26,.inv [.own 4 2 (.pr (.int .i64) (.int .i64)),.val 9 false (.int .i64)])] (λ_=>bH)
def AHC:bB Tryz.prog AXV:=.cons CT (.cons T3 (.cons AIY (.cons A0B (.cons T1 (.cons T4 (.cons AQG (.nil _)))))))
def BYR(y3:bE):List (List T):=List.map Sy.str.enc y3.2.2.2.2
def BYT(s2:List aN×Int×PUnit):List (List T):=List.map aC.enc s2.1
def KX(a0:aG)(R:T->Prop):Prop:=aJ [(true,Sy.str.li.pr (Sy.str.li.pr (Sy.str.li.pr Sy.str.li)))] (mZ [aH true aF a0]) λ(y0:List iII×List iII×List iII×List iII)=>a7 (List aN×Int×PUnit) (λX1 s2=>aE (decide (s2.2.1<(↑(BYN a0).length:Int))) (aU aK (BYN a0) s2.2.1 λ(y3:bE)=>aJ BYD (gG [pPQ y3.1]) λ(y4:Bool)=>aE (!y4) (R (pPP 6)) (aJ BYD (dK [aH true aF a0,pPQ y3.2.1]) λ(y5:Bool)=>aE (!y5) (R (pPP 8)) (aE (decide (y3.2.2.2.1<1)) (R BYH) (aE (decide (10000<y3.2.2.2.1)) (R BYH) (aJ BYD (mH [T.sl false (BYW y3)]) λ(y6:Bool)=>aE (!y6) (R (pPP 11)) (aJ BYD (mH [T.sl false (BYR y3)]) λ(y7:Bool)=>aE (!y7) (R (pPP 11)) (aJ BYE (AO [aH true aF a0, pPP s2.2.1]) λ(y8:Int)=>aE (!decide (y8=0)) (R (pPP y8)) (cD aC (BYT s2) λ(y9:List aN)=>a7 (List aN×Int×PUnit) (λX10 s11=>aE (decide (s11.2.1 < (↑(BYR y3).length:Int))) (aU Sy.str (BYR y3) s11.2.1 λ(y12:iII)=>aE (decide (y12=y3.1)) (R BYK) (aU Sy.str (BYR y3) s11.2.1 λ(y13:iII)=>aJ BYD (iB [T.sl false (List.map Sy.str.enc y0.2.2.2), pPQ y13]) λ(y14:Bool)=>aE (!y14) (R (pPP 8)) (cD aC (BYT s11) λ(y15:List aN)=>a7 (List aN×Int×PUnit) (λX16 s17=>aE (decide (s17.2.1 < (↑(List.map Sy.str.enc y0.2.2.2).length : Int))) (aU Sy.str (List.map Sy.str.enc y0.2.2.2) s17.2.1 λ(y18:iII)=>aU Sy.str (BYR y3) s11.2.1 λ(y19:iII)=>aE (decide (y18=y19)) (bO (decide (((BYT s17).length + 1) * 16 <= 140737488355328) && decide ((BYT s17).length + 1 <= 140737488355328)) (cD aC (List.map aC.enc s17.1 ++ [[pPP s17.2.1, pPP s2.2.1]]) λ(y20:List aN)=>X16 (y20,i64.wrap (s17.2.1+1), ()))) (cD aC (BYT s17) λ(y21:List aN)=>X16 (y21,i64.wrap (s17.2.1+1),()))) (cD aC (BYT s17) λ(y22:List aN)=>X10 (y22,i64.wrap (s11.2.1+1),()))) (y15,0,())))) (cD aC (BYT s11) λ(y23:List aN)=>X1 (y23,i64.wrap (s2.2.1+1),()))) (y9,0,()))))))))) (aJ [(false,BYG.li),(false,Sy.int IntKind.i64)] (vW [pPP (↑(BYN a0).length:Int), T.sl false (BYT s2)]) λ(y24:List Int×Int)=>R (pPP y24.2))) ([],0,())
abbrev NH:Sh:=[(true,aF)]
def oY (d:aG):Option T:=match okV d with
 | true=>some (T.v (Value.int .i64 (eY d)))
 | false=>none
def vX:List T->Option T:=gS NH oY
def ADO {a0}:vX [aH true aF a0]=oY (a0):=a8 (s:=NH) rfl (a0) rfl
def ASH:lW Tryz.prog 25 vX oY (bR NH) KX:=eN (a1:=(true,aF)) (Hs:=AY1) (k:=8) AHC aV aY (aQ rfl) ⟨_,_,Tryz.func25,rfl⟩ rfl λ_ _=>by kernel_rfl
variable {K:Bool->Prop}
def ARN {l:List iII} {x:iII} (h:K (oR l x)):aJ [(false,Sy.bool)] (iB [T.sl false (List.map Sy.str.enc l),pPQ x]) K:=aM (s:=D4) (y:=oR l x) (FK ..) h
def S2 {l:List iII} (hl:l.length<=1000) (h:K (oG l)):aJ [(false,Sy.bool)] (mH [T.sl false (List.map Sy.str.enc l)]) K:=aM (s:=D4) (y:=oG l) ((r7 ..).trans (fH _ (by omega))) h
def dkp {l:List aN} {rows:List (List T)} {K:List aN->Prop} (e:rows=List.map aC.enc l) (h:K l):cD aC rows K:=by
 subst e;rw[dJ (r:=aC) rfl];exact h
def AQH:aT Tryz.prog 25 vX:=ASH λd r h hb=>by
 unfold oY at h;split at h
 case h_2=>cases h
 rename_i hv;cases h;have v:=BJT hv;have u:=v.u;have hu:okU d=true:=by simp only[okV,ac] at hv;exact hv.1
 have hlong:=v.long;have hnd:=LC v.BTC;clear hb hv;have is:∀ {n:Int},eY d=n->pPP n=pPP (eY d):=λh=>by rw[h]
 unfold KX BYT BYR BYW BYN BYK BYH BYG BYE BYD;refine aM (s:=q4) (HR (BDB hu)) ?_;refine bJ d.2.2.2.2.1.length (λk s=>s.2.1=(k:Int)/\s.1.length<=k*1000/\(∀ e∈s.1,pN d.2.2.2.2.1.length e=0)/\∃ S,(∀ id,id∈S↔((d.2.2.2.2.1.take k).any λq=>oR (eF q) id)=true)/\iC d (d.2.2.2.2.1.drop k) k s.1 S=iC d d.2.2.2.2.1 0 [] []) ⟨rfl,by simp,by simp,[],by simp,rfl⟩ ?_;rintro X k ⟨E,i,w⟩ hk ⟨rfl,hEl,hE,S,hS,hr⟩ hX;dsimp only at hEl hE hr ⊢;refine b8 (λhlt=>?_) λhge=>?_
 ·rw[ae] at hlt;have hlt:k<d.2.2.2.2.1.length:=by omega
  rw[bA (r:=aK) hlt];have hd:d.2.2.2.2.1.drop k=d.2.2.2.2.1[k]::d.2.2.2.2.1.drop (k+1):=List.drop_eq_getElem_cons hlt;have ht:d.2.2.2.2.1.take (k+1)=d.2.2.2.2.1.take k++[d.2.2.2.2.1[k]]:=List.take_succ_eq_append_getElem hlt;have hkl:=u.kl _ (ak hlt);have hki:=u.kI _ (ak hlt);have hget:d.2.2.2.2.1[k]? = some d.2.2.2.2.1[k]:=List.getElem?_eq_getElem hlt;generalize hy:d.2.2.2.2.1[k]=y at hd ht hkl hki hget;rw[hd,iC] at hr;have bad:∀ {n:Int},n≠0->(iC d d.2.2.2.2.1 0 [] []).1=n->pPP n=pPP (eY d):=λhn h=>is (by unfold eY;rw[if_neg (by rw[h];exact hn),h]);have badH:∀ {n:Int},n≠0->lR d y=n->pPP n=pPP (eY d):=λhn h=>bad hn (by rw[<-hr,if_pos (by rw[h];exact hn),h]);refine pT hki ?_;refine eQ (λh=>badH (by decide) (by unfold lR;rw[if_pos h])) λi1=>?_;have n1:¬ kH y.1=false:=by rw[show kH y.1=true from i1];exact Bool.noConfusion
  refine U3 ?_;refine eQ (λh=>badH (by decide) (by unfold lR;rw[if_neg n1,if_pos h])) λi2=>?_;have n2:¬ lS d y.2.1=false:=by rw[show lS d y.2.1=true from i2];exact Bool.noConfusion
  refine b8 (λh=>badH (by decide) (by unfold lR;rw[if_neg n1,if_neg n2,if_pos (.inl h)])) λh1=>?_;refine b8 (λh=>badH (by decide) (by unfold lR;rw[if_neg n1,if_neg n2,if_pos (.inr h)])) λh2=>?_;have n3:¬ (MK y<1\/10000<MK y):=λh=>h.elim h1 h2;refine S2 hkl.1 ?_;refine eQ (λh=>badH (by decide) (by unfold lR;rw[if_neg n1,if_neg n2,if_neg n3,if_pos (.inl h)])) λa1=>?_;refine S2 hkl.2 ?_;refine eQ (λh=>badH (by decide) (by unfold lR;rw[if_neg n1,if_neg n2,if_neg n3,if_pos (.inr h)])) λa2=>?_;have h0:lR d y=0:=by
   unfold lR;rw[if_neg n1,if_neg n2,if_neg n3,if_neg];rw[show oG (eF y)=true from a1,show oG (dB y)=true from a2];decide
  clear badH n1 n2 n3 i1 i2 h1 h2;rw[if_neg (λh=>h h0)] at hr;obtain ⟨q1,q2⟩:=inst_eq v (k:=k) (b:=y.2.1) (l:=eF y) (S:=S) (LC a1) λid _=>hS id;refine aM (s:=[(false,.int .i64)]) (y:=OJ d k y) ((AJL ..).trans ?_) ?_
  ·unfold rO;dsimp only;rw[ai (show (0:Int)<=(k:Int) by omega),Int.toNat_natCast,hget];exact JI _ hu
  refine kD (λh=>bad h (by rw[<-hr,if_pos (by rw[q1];exact h),q1];rfl)) λhc=>?_;have hc:(instE d y.2.1 (eF y) S).1=0:=q1.trans hc;rw[if_neg (λh=>h hc)] at hr;refine dkp (l:=E) rfl ?_;refine bJ (dB y).length (λj s=>s.2.1=(j:Int)/\s.1.length<=k*1000+j/\(∀ e∈s.1,pN d.2.2.2.2.1.length e=0)/\zZ d y.1 k ((dB y).drop j) s.1=zZ d y.1 k (dB y) E) ⟨rfl,by simpa using hEl,hE,rfl⟩ ?_;rintro Y j ⟨F,i,w⟩ hj ⟨rfl,hFl,hF,ha⟩ hY;dsimp only at hFl hF ha ⊢;refine b8 (λhlj=>?_) λhgj=>?_
  ·rw[ae] at hlj;have hlj:j<(dB y).length:=by
    have:(j:Int)<((dB y).length:Int):=hlj;omega
   rw[bA (r:=.str) (l:=dB y) hlj];have hdj:(dB y).drop j=(dB y)[j]::(dB y).drop (j+1):=List.drop_eq_getElem_cons hlj;rw[hdj,zZ] at ha;generalize hid:(dB y)[j]=id at ha;have badA:∀ {n:Int},n≠0->(zZ d y.1 k (dB y) E).1=n->pPP n=pPP (eY d):=λhn h=>bad hn (by rw[<-hr,if_pos (by rw[h];exact hn),h]);refine b8 (λh=>badA (by decide) (by rw[<-ha,if_pos h])) λhne=>?_;rw[if_neg hne] at ha;rw[bA (r:=.str) (l:=dB y) hlj,hid];refine ARN ?_;rcases wH id d.2.2.2.2.1 with ⟨g1,g2⟩|⟨m,hm,g1,g2⟩
   ·rw[g1] at ha;have hno:oR (ids d.2.2.2.2.1) id=false:=by
     rw[Bool.eq_false_iff];intro h;obtain ⟨q,hq,e⟩:=List.mem_map.1 (l8.1 h);have:=List.find?_eq_none.1 g2 q hq;simp[e] at this
    exact eQ (λ_=>badA (by decide) (by rw[<-ha])) λh=>absurd (hno.symm.trans h) Bool.noConfusion
   ·rw[g1] at ha;dsimp only at ha;have hm1:d.2.2.2.2.1[m].1=id:=(xN g2).2;have hyes:oR (ids d.2.2.2.2.1) id=true:=l8.2 (hm1 ▸ List.mem_map.2 ⟨_,ak hm,rfl⟩);refine eQ (λh=>absurd (hyes.symm.trans h) Bool.noConfusion) λ_=>?_;refine dkp (l:=F) rfl ?_;have hli:(ids d.2.2.2.2.1).length=d.2.2.2.2.1.length:=by unfold ids;rw[ae]
    refine bJ (ids d.2.2.2.2.1).length (λn s=>s=(F++(if m<n then [((m:Int),(k:Int))] else []),(n:Int),())) (by simp) ?_;rintro Z n _ hn rfl hZ;dsimp only;have hFn:(F++(if m<n then [((m:Int),(k:Int))] else [])).length<=100000:=by
     have:(if m<n then [((m:Int),(k:Int))] else []).length<=1:=by split<;>simp
     rw[List.length_append];omega
    refine b8 (λhln=>?_) λhgn=>?_
    ·rw[ae] at hln;have hln:n<(ids d.2.2.2.2.1).length:=by
      have:(n:Int)<((ids d.2.2.2.2.1).length:Int):=hln;omega
     have hwn:i64.wrap ((n:Int)+1)=((n+1:Nat):Int):=aZ _ (by omega) (by omega);rw[bA (r:=.str) (l:=(ART d).2.2.2) hln,bA (r:=.str) (l:=dB y) hlj,hid];have hnn:(ids d.2.2.2.2.1)[n]=d.2.2.2.2.1[n].1:=BII hln;refine b8 (λhe=>?_) λhe=>?_
     ·have hnm:n=m:=BIJ hnd (by omega) hm (hnn.symm.trans (he.trans hm1.symm));subst hnm;refine ⟨by simp only[ae,ac,ah];omega,?_⟩;refine dkp (l:=F++[((n:Int),(k:Int))]) ?_ (hZ _ hln ?_)
      ·rw[if_neg (by omega),List.append_nil,List.map_append];rfl
      ·rw[if_pos (by omega),hwn]
     ·have hnm:n≠m:=λe=>he (by subst e;exact hnn.trans hm1);refine dkp rfl (hZ _ hln ?_);rw[hwn];by_cases hc:m<n
      ·rw[if_pos hc,if_pos (by omega)]
      ·rw[if_neg hc,if_neg (by omega)]
    ·rw[ae] at hgn;have hgn:n=d.2.2.2.2.1.length:=by
      have:¬ (n:Int)<((ids d.2.2.2.2.1).length:Int):=hgn;omega
     refine dkp rfl (hY _ hlj ⟨?_,?_,λe he=>?_,?_⟩)
     ·show i64.wrap ((j:Int)+1)=_;rw[aZ]<;>omega
     ·show (F++(if m<n then [((m:Int),(k:Int))] else [])).length<=_;rw[if_pos (by omega),List.length_append];simp only[List.length_cons,List.length_nil];omega
     ·have he:e∈F++(if m<n then [((m:Int),(k:Int))] else []):=he;rw[if_pos (by omega)] at he;rcases List.mem_append.1 he with he|he
      ·exact hF e he
      ·rw[List.mem_singleton.1 he];have hmk:m≠k:=BMF (i:=k) (j:=m) hlt hm (by rw[hy]) hm1 hne;unfold pN;rw[if_neg (by dsimp only;omega),if_neg (by dsimp only;omega)]
     ·show zZ d y.1 k ((dB y).drop (j+1)) (F++(if m<n then [((m:Int),(k:Int))] else []))=_;rw[if_pos (by omega)];exact ha
  ·rw[ae] at hgj;have hgj:j=(dB y).length:=by
    have:¬ (j:Int)<((dB y).length:Int):=hgj;omega
   subst hgj;rw[List.drop_length,zZ] at ha;rw[<-ha,if_neg (λh=>h rfl)] at hr;refine dkp rfl (hX _ hlt ⟨?_,?_,hF,(instE d y.2.1 (eF y) S).2,λid=>?_,?_⟩)
   ·show i64.wrap ((k:Int)+1)=_;rw[aZ]<;>omega
   ·show F.length<=_;omega
   ·rw[q2 hc id,hS id,ht,List.any_append];simp only[List.any_cons,List.any_nil,Bool.or_false,Bool.or_eq_true,l8]
   ·rw[<-hr];rfl
 ·rw[ae] at hge;have hkl:k=d.2.2.2.2.1.length:=by omega
  subst hkl;rw[List.drop_length,iC] at hr;have h0:bT (pN d.2.2.2.2.1.length) E=0:=FC hE;have hEb:E.length<=140737488355328:=by omega
  rw[ae];refine aM (s:=oW) (y:=eR d.2.2.2.2.1.length E) ((ADN ..).trans (fH _ hEb)) (is ?_);unfold eY;rw[<-hr,if_pos rfl];rcases (show (eR d.2.2.2.2.1.length E).2=0\/(eR d.2.2.2.2.1.length E).2=20 by
   rw[VU hEb (by omega) (by omega) h0];exact V1) with h|h
  ·rw[if_pos h,h]
  ·rw[if_neg (by rw[h];decide),h]
end Go.Pv
namespace Go.Pv
open Go IntKind
def Ex {D C:Type} (P G:D->C->Prop):Prop:=∃ y,∀ c,P y c->G y c
section
variable {D C : Type} {P : D -> C -> Prop}
def bW {b:Bool} {A B:D->C->Prop} (h1:b=true->Ex P A) (h2:b=false->Ex P B):Ex P λy c=>aE b (A y c) (B y c):=by
 cases b
 ·exact h2 rfl
 ·exact h1 rfl
def r4 {b:Bool} {A:D->C->Prop} (h:b=true) (h2:Ex P A):Ex P λy c=>bO b (A y c):=h2.imp λ_ g c p=>⟨h,g c p⟩
def bS {s:Sh} {Q:s.den->Prop} {a b:Option T} {K:D->C->s.den->Prop} (e:a=b) (h:∃ v,Q v/\b=some (s.enc v)) (h2:∀ v,Q v->Ex P λy c=>K y c v):Ex P λy c=>aJ s a (K y c) :=
 let ⟨v,q,h⟩:=h
 (h2 v q).imp λ_ g c p=>⟨v,e.trans h,g c p⟩
def eE {r:Sy} {l:List r.den} {i:Int} {K:D->C->r.den->Prop} (hi:0<=i/\i<(l.map r.enc).length) (h:∀ v∈l,Ex P λy c=>K y c v):Ex P λy c=>aU r (l.map r.enc) i (K y c):=by
 have hl:i.toNat<l.length:=by simp at hi;omega
 exact (h l[i.toNat] (ak hl)).imp λ_ g c p=>⟨l[i.toNat],hi.1,by simp[hl],g c p⟩
def CS {r:Sy} {l:List r.den} {k:Nat} {K:D->C->r.den->Prop} (hk:k<l.length) (h:Ex P λy c=>K y c l[k]):Ex P λy c=>aU r (l.map r.enc) (k:Int) (K y c):=h.imp λ_ g c p=>⟨l[k],Int.natCast_nonneg k,by simp[hk],g c p⟩
variable {S:Type}
def inL (P:D->C->Prop) (F:D->C->(S->Prop)->S->Prop):D->C×(S->Prop)->Prop:=λy c=>P y c.1/\∀ s,F y c.1 c.2 s->c.2 s
def BLE {S:Type} {F:D->C->(S->Prop)->S->Prop} (I:Nat->Prop) (p:S->Int) (n:Nat) (h:∀ (k:Nat) s,p s=k->I k->(∀ t,k<n->p t=k+1->I (k+1)->Ex (inL P F) λy c=>c.2 t)->Ex (inL P F) λy c=>F y c.1 c.2 s) (k:Nat) {s:S} (h0:p s=k) (hI:I k):Ex P λy c=>a7 S (F y c) s :=
 (h k s h0 hI λt hk ht hI'=>(BLE I p n h (k+1) (s:=t) ht hI').imp λ_ g c q=>g c.1 q.1 c.2 q.2).imp λ_ g c q X hX=>hX s (g (c,X) ⟨q,hX⟩)
termination_by n-k
def xM {A B:D->C->(S->Prop)->S->Prop} (p:S->Int) {n:Nat} (I:Nat->Prop) (k:Nat) {s:S} (h0:p s=k) (hI:I k)
  (h:∀ (Q:D->C×(S->Prop)->Prop),(∀ {G:D->C->Prop},Ex P G->Ex Q λy c=>G y c.1)->(∀ (k:Nat) s,p s=k->n<=k->I k->Ex Q λy c=>B y c.1 c.2 s)/\∀ (k:Nat) s,p s=k->k<n->I k->(∀ t,p t=k+1->I (k+1)->Ex Q λy c=>c.2 t)->Ex Q λy c=>A y c.1 c.2 s) :
  Ex P λy c=>a7 S (λX s=>aE (decide (p s<(n:Int))) (A y c X s) (B y c X s)) s:=by
 refine BLE I p n (λk s hs hI hX=>?_) k h0 hI;obtain ⟨hB,hA⟩:=h _ λ{G} (g:Ex P G)=>show Ex (inL P _) λy c=>G y c.1 from g.imp λ_ g c p=>g c.1 p.1
 refine bW (λhl=>?_) λhl=>hB k s hs (by have:=of_decide_eq_false hl;omega) hI;have hl:k<n:=by have:=of_decide_eq_true hl;omega
 exact hA k s hs hl hI λt ht hI=>hX t hl ht hI
def qN {A B:D->C->(Int×Unit->Prop)->Int×Unit->Prop} {n:Nat} (hn:n<=2 ^ 62) {i:Int} (k:Nat) (h0:i=k)
  (h:∀ (Q:D->C×(Int×Unit->Prop)->Prop),(∀ {G:D->C->Prop},Ex P G->Ex Q λy c=>G y c.1)->(∀ s,Ex Q λy c=>B y c.1 c.2 s)/\∀ k:Nat,k<n->(Ex Q λy c=>c.2 (i64.wrap (k+1),()))->Ex Q λy c=>A y c.1 c.2 ((k:Int),())) :
  Ex P λy c=>a7 (Int×Unit) (λX s=>aE (decide (s.1<(n:Int))) (A y c X s) (B y c X s)) (i,()):=by
 refine xM (λs:Int×Unit=>s.1) (λ_=>True) k h0 trivial λQ up=>⟨λ_ s _ _ _=>(h Q up).1 s,?_⟩
 rintro k ⟨_,_⟩ rfl hk _ hX;exact (h Q up).2 k hk (hX _ (aZ _ (by omega) (by omega)) trivial)
def dR {s:Sh} {Q:s.den->Prop} {P:{y // Q y}->C->Prop} (v:s.den) (q:Q v):Ex P λy c=>s.enc v=s.enc y.1:=⟨⟨v,q⟩,λ_ _=>rfl⟩
end
variable {α:Type}
abbrev qT:α->Prop:=λ_=>True
open Classical in
def fT (s:Sh) (Q:s.den->Prop) (F:(T->Prop)->Prop):Option T:=if h:∃ y:{y // Q y},F (λz=>z=s.enc y.1) then some (s.enc (Classical.choose h).1) else none
variable {F:(T->Prop)->Prop}
def cL {s:Sh} {Q:s.den->Prop} {r:T} (h:fT s Q F=some r):F (λz=>z=r):=by
 unfold fT at h;split at h
 ·rename_i g;cases h;exact Classical.choose_spec g
 ·cases h
def cM {s:Sh} {Q:s.den->Prop} (h:Ex (C:=Unit) (λ_ _=>True) λ(y:{y // Q y}) _=>F (λz=>z=s.enc y.1)):∃ v,Q v/\fT s Q F=some (s.enc v):=by
 have g:∃ y:{y // Q y},F (λz=>z=s.enc y.1):=h.imp λ_ g=>g () trivial;exact ⟨_,(Classical.choose g).2,by unfold fT;rw[dif_pos g]⟩
def AM8 {k n:Nat} {c:Int} (hk:k<n) (hn:n<=2 ^ 47) (h0:0<=c) (hc:c<=2):0<=(i64.wrap ((k:Int)+c)).tmod (n:Int)/\(i64.wrap ((k:Int)+c)).tmod (n:Int)<n:=by
 rw[aZ _ (by omega) (by omega)];exact ⟨Int.tmod_nonneg _ (by omega),Int.tmod_lt_of_pos _ (by omega)⟩
end Go.Pv
namespace Go.Pv
open Go Go.Proofs IntKind
def QE (a0:aN) (a1:aN) (a2:aN) (R:T->Prop):Prop :=
 R
 (pPP (i64.wrap
 (i64.wrap (i64.wrap (a1.1-a0.1)*i64.wrap (a2.2-a0.2)) -
 i64.wrap (i64.wrap (a1.2-a0.2)*i64.wrap (a2.1-a0.1)))))
abbrev AFV:Sh:=[(true,aC),(true,aC),(true,aC)]
abbrev AWB:Sh:=[(false,Sy.int IntKind.i64)]
def CE (x:aN×aN×aN):Option T:=fT AWB qT (QE x.1 x.2.1 x.2.2)
def jW:List T->Option T:=gS AFV CE
def FQ {a0 a1 a2}:jW [aH true aC a0,aH true aC a1,aH true aC a2]=CE (a0,a1,a2):=a8 (s:=AFV) rfl (a0,a1,a2) rfl
def BC6:Of3 Tryz.prog 336 jW CE (bR AFV) QE:=MQ (a1:=(true,aC)) (a2:=(true,aC)) (a3:=(true,aC)) (Hs:=c0) (k:=8) (bM _) aV aY (aQ rfl) ⟨_,_,Tryz.func336,rfl⟩ rfl λ_ _ _ _=>by kernel_rfl
def T9:aT Tryz.prog 336 jW:=BC6 λ_ _ _ r h _=>cL h
def AGP {x:aN×aN×aN}:∃ v,qT v/\CE x=some (Sh.enc AWB v):=cM (by
 unfold QE
 repeat' first
  | exact dR _ trivial
  | refine bW (λ_=>?_) λ_=>?_)
def QC (a0:Int) (R:T->Prop):Prop :=
 aE (decide (a0<0)) (R (pPP (-1)))
 (aE (decide (0<a0)) (R (pPP 1))
 (R (pPP 0)))
abbrev AFT:Sh:=[(false,(Sy.int IntKind.i64))]
abbrev AV9:Sh:=[(false,Sy.int IntKind.i64)]
def CB (x:Int):Option T:=fT AV9 qT (QC x)
def tU:List T->Option T:=gS AFT CB
def UW {a0}:tU [pPP a0]=CB (a0):=a8 (s:=AFT) rfl (a0) rfl
def BC4:lW Tryz.prog 385 tU CB (bR AFT) QC:=eN (a1:=(false,(Sy.int IntKind.i64))) (Hs:=c0) (k:=8) (bM _) aV aY (aQ rfl) ⟨_,_,Tryz.func385,rfl⟩ rfl λ_ _=>by kernel_rfl
def A9G:aT Tryz.prog 385 tU:=BC4 λ_ r h _=>cL h
def AWY {x:Int}:∃ v,qT v/\CB x=some (Sh.enc AV9 v):=cM (by
 unfold QC
 repeat' first
  | exact dR _ trivial
  | refine bW (λ_=>?_) λ_=>?_)
def QD (a0:aN) (a1:aN) (a2:aN) (R:T->Prop):Prop :=
 aE
 (decide
 (0 <
 i64.wrap
 (i64.wrap (i64.wrap (a1.1-a0.1)*i64.wrap (a2.2-a0.2)) -
 i64.wrap (i64.wrap (a1.2-a0.2)*i64.wrap (a2.1-a0.1)))))
 (R (pPP 1))
 (aE
 (decide
 (i64.wrap
 (i64.wrap (i64.wrap (a1.1-a0.1)*i64.wrap (a2.2-a0.2)) -
 i64.wrap (i64.wrap (a1.2-a0.2)*i64.wrap (a2.1-a0.1))) <
 0))
 (R (pPP (-1))) (R (pPP 0)))
abbrev AFU:Sh:=[(true,aC),(true,aC),(true,aC)]
abbrev AWA:Sh:=[(false,Sy.int IntKind.i64)]
def CD (x:aN×aN×aN):Option T:=fT AWA qT (QD x.1 x.2.1 x.2.2)
def o8:List T->Option T:=gS AFU CD
def UX {a0 a1 a2}:o8 [aH true aC a0,aH true aC a1,aH true aC a2]=CD (a0,a1,a2):=a8 (s:=AFU) rfl (a0,a1,a2) rfl
def BC5:Of3 Tryz.prog 366 o8 CD (bR AFU) QD:=MQ (a1:=(true,aC)) (a2:=(true,aC)) (a3:=(true,aC)) (Hs:=c0) (k:=8) (bM _) aV aY (aQ rfl) ⟨_,_,Tryz.func366,rfl⟩ rfl λ_ _ _ _=>by kernel_rfl
def AJB:aT Tryz.prog 366 o8:=BC5 λ_ _ _ r h _=>cL h
def AWZ {x:aN×aN×aN}:∃ v,qT v/\CD x=some (Sh.enc AWA v):=cM (by
 unfold QD
 repeat' first
  | exact dR _ trivial
  | refine bW (λ_=>?_) λ_=>?_)
def P6 (a0:aN) (R:T->Prop):Prop :=
 aE (decide (-32768<=a0.1))
 (aE (decide (a0.1<=32768))
 (aE (decide (-32768<=a0.2)) (R (pPR (decide (a0.2<=32768))))
 (R (pPR false)))
 (R (pPR false)))
 (R (pPR false))
abbrev AFE:Sh:=[(true,aC)]
abbrev AV4:Sh:=[(false,Sy.bool)]
def B5 (x:aN):Option T:=fT AV4 qT (P6 x)
def xW:List T->Option T:=gS AFE B5
def UQ {a0}:xW [aH true aC a0]=B5 (a0):=a8 (s:=AFE) rfl (a0) rfl
def BCO:lW Tryz.prog 334 xW B5 (bR AFE) P6:=eN (a1:=(true,aC)) (Hs:=c0) (k:=8) (bM _) aV aY (aQ rfl) ⟨_,_,Tryz.func334,rfl⟩ rfl λ_ _=>by kernel_rfl
def AI5:aT Tryz.prog 334 xW:=BCO λ_ r h _=>cL h
def AWU {x:aN}:∃ v,qT v/\B5 x=some (Sh.enc AV4 v):=cM (by
 unfold P6
 repeat' first
  | exact dR _ trivial
  | refine bW (λ_=>?_) λ_=>?_)
def BQ6:Env:=Env.of [(336,.pure jW)]
def BGT:bB Tryz.prog BQ6:=.cons T9 (.nil _)
def AUF (a0:aN) (a1:aN) (a2:aN) (R:T->Prop):Prop :=
 aJ [(false,Sy.int IntKind.i64)]
 (jW [aH true aC a1,aH true aC a2,aH true aC a0])
 λ(y0:Int) =>
 aE (decide (y0=0))
 (aE (decide ((if a2.1<a1.1 then a2.1 else a1.1)<=a0.1))
 (aE (decide (a0.1<=if a1.1<a2.1 then a2.1 else a1.1))
 (aE (decide ((if a2.2<a1.2 then a2.2 else a1.2)<=a0.2))
 (R (pPR (decide (a0.2<=if a1.2<a2.2 then a2.2 else a1.2))))
 (R (pPR false)))
 (R (pPR false)))
 (R (pPR false)))
 (R (pPR false))
abbrev BEH:Sh:=[(true,aC),(true,aC),(true,aC)]
abbrev BLR:Sh:=[(false,Sy.bool)]
def XH (x:aN×aN×aN):Option T:=fT BLR qT (AUF x.1 x.2.1 x.2.2)
def vV:List T->Option T:=gS BEH XH
def HX {a0 a1 a2}:vV [aH true aC a0,aH true aC a1,aH true aC a2]=XH (a0,a1,a2):=a8 (s:=BEH) rfl (a0,a1,a2) rfl
def BPH:Of3 Tryz.prog 335 vV XH (bR BEH) AUF:=MQ (a1:=(true,aC)) (a2:=(true,aC)) (a3:=(true,aC)) (Hs:=c0) (k:=8) BGT aV aY (aQ rfl) ⟨_,_,Tryz.func335,rfl⟩ rfl λ_ _ _ _=>by kernel_rfl
def AQF:aT Tryz.prog 335 vV:=BPH λ_ _ _ r h _=>cL h
def AWV {x:aN×aN×aN}:∃ v,qT v/\XH x=some (Sh.enc BLR v):=cM (by
 unfold AUF
 repeat' first
  | exact dR _ trivial
  | refine bW (λ_=>?_) λ_=>?_
  | refine bS (FQ ..) AGP λ_ _=>?_)
def BQ5:Env:=Env.of [(366,.pure o8)]
def BGS:bB Tryz.prog BQ5:=.cons AJB (.nil _)
def AUE (a0:aN) (a1:aN) (a2:aN) (R:T->Prop):Prop :=
 aJ [(false,Sy.int IntKind.i64)]
 (o8 [aH true aC a0,aH true aC a1,aH true aC a2])
 λ(y0:Int) =>
 aE (decide (y0=0))
 (aE (decide ((if a1.1<a0.1 then a1.1 else a0.1)<=a2.1))
 (aE (decide (a2.1<=if a0.1<a1.1 then a1.1 else a0.1))
 (aE (decide ((if a1.2<a0.2 then a1.2 else a0.2)<=a2.2))
 (R (pPR (decide (a2.2<=if a0.2<a1.2 then a1.2 else a0.2))))
 (R (pPR false)))
 (R (pPR false)))
 (R (pPR false)))
 (R (pPR false))
abbrev BEG:Sh:=[(true,aC),(true,aC),(true,aC)]
abbrev BLQ:Sh:=[(false,Sy.bool)]
def XG (x:aN×aN×aN):Option T:=fT BLQ qT (AUE x.1 x.2.1 x.2.2)
def OX:List T->Option T:=gS BEG XG
def BAI {a0 a1 a2}:OX [aH true aC a0,aH true aC a1,aH true aC a2]=XG (a0,a1,a2):=a8 (s:=BEG) rfl (a0,a1,a2) rfl
def BPG:Of3 Tryz.prog 365 OX XG (bR BEG) AUE:=MQ (a1:=(true,aC)) (a2:=(true,aC)) (a3:=(true,aC)) (Hs:=c0) (k:=8) BGS aV aY (aQ rfl) ⟨_,_,Tryz.func365,rfl⟩ rfl λ_ _ _ _=>by kernel_rfl
def BNJ:aT Tryz.prog 365 OX:=BPG λ_ _ _ r h _=>cL h
def BS0 {x:aN×aN×aN}:∃ v,qT v/\XG x=some (Sh.enc BLQ v):=cM (by
 unfold AUE
 repeat' first
  | exact dR _ trivial
  | refine bW (λ_=>?_) λ_=>?_
  | refine bS (UX ..) AWZ λ_ _=>?_)
def BF1:Env:=Env.of [(336,.pure jW),(335,.pure vV),(385,.pure tU)]
def AYA:bB Tryz.prog BF1:=.cons T9 (.cons AQF (.cons A9G (.nil _)))
def P5 (a0:aN) (a1:aN) (a2:aN) (a3:aN) (R:T->Prop):Prop :=
 aJ [(false,Sy.bool)]
 (vV [aH true aC a0,aH true aC a2,aH true aC a3])
 λ(y0:Bool) =>
 aE y0 (R (pPR true))
 (aJ [(false,Sy.bool)]
 (vV [aH true aC a1,aH true aC a2,aH true aC a3])
 λ(y1:Bool) =>
 aE y1 (R (pPR true))
 (aJ [(false,Sy.bool)]
 (vV
 [aH true aC a2,aH true aC a0,aH true aC a1])
 λ(y2:Bool) =>
 aE y2 (R (pPR true))
 (aJ [(false,Sy.bool)]
 (vV
 [aH true aC a3,aH true aC a0,aH true aC a1])
 λ(y3:Bool) =>
 aE y3 (R (pPR true))
 (aJ [(false,Sy.int IntKind.i64)]
 (jW
 [aH true aC a0,aH true aC a1,aH true aC a2])
 λ(y4:Int) =>
 aJ [(false,Sy.int IntKind.i64)]
 (tU [pPP y4]) λ(y5:Int) =>
 aJ [(false,Sy.int IntKind.i64)]
 (jW
 [aH true aC a0,aH true aC a1,
 aH true aC a3])
 λ(y6:Int) =>
 aJ [(false,Sy.int IntKind.i64)]
 (tU [pPP y6]) λ(y7:Int) =>
 aE (decide (i64.wrap (y5*y7)<0))
 (aJ [(false,Sy.int IntKind.i64)]
 (jW
 [aH true aC a2,aH true aC a3,
 aH true aC a0])
 λ(y8:Int) =>
 aJ [(false,Sy.int IntKind.i64)]
 (tU [pPP y8]) λ(y9:Int) =>
 aJ [(false,Sy.int IntKind.i64)]
 (jW
 [aH true aC a2,aH true aC a3,
 aH true aC a1])
 λ(y10:Int) =>
 aJ [(false,Sy.int IntKind.i64)]
 (tU [pPP y10]) λ(y11:Int) =>
 R (pPR (decide (i64.wrap (y9*y11)<0))))
 (R (pPR false))))))
abbrev AFC:Sh:=[(true,aC),(true,aC),(true,aC),(true,aC)]
abbrev AV3:Sh:=[(false,Sy.bool)]
def B4 (x:aN×aN×aN×aN):Option T:=fT AV3 qT (P5 x.1 x.2.1 x.2.2.1 x.2.2.2)
def HV:List T->Option T:=gS AFC B4
def AQ6 {a0 a1 a2 a3}:HV [aH true aC a0,aH true aC a1,aH true aC a2,
 aH true aC a3]=B4 (a0,a1,a2,a3):=a8 (s:=AFC) rfl (a0,a1,a2,a3) rfl
def BCM:Of4 Tryz.prog 364 HV B4 (bR AFC) P5:=BI5 (a1:=(true,aC)) (a2:=(true,aC)) (a3:=(true,aC)) (a4:=(true,aC)) (Hs:=c0) (k:=8) AYA aV aY (aQ rfl) ⟨_,_,Tryz.func364,rfl⟩ rfl λ_ _ _ _ _=>by kernel_rfl
def A84:aT Tryz.prog 364 HV:=BCM λ_ _ _ _ r h _=>cL h
def BKM {x:aN×aN×aN×aN}:∃ v,qT v/\B4 x=some (Sh.enc AV3 v):=cM (by
 unfold P5
 repeat' first
  | exact dR _ trivial
  | refine bW (λ_=>?_) λ_=>?_
  | refine bS (FQ ..) AGP λ_ _=>?_
  | refine bS (HX ..) AWV λ_ _=>?_
  | refine bS (UW ..) AWY λ_ _=>?_)
def BF0:Env:=Env.of [(366,.pure o8),(365,.pure OX)]
def AX9:bB Tryz.prog BF0:=.cons AJB (.cons BNJ (.nil _))
def P4 (a0:aN) (a1:aN) (a2:aN) (a3:aN) (R:T->Prop):Prop :=
 aJ [(false,Sy.bool)]
 (OX [aH true aC a0,aH true aC a1,aH true aC a2])
 λ(y0:Bool) =>
 aE y0 (R (pPR true))
 (aJ [(false,Sy.bool)]
 (OX [aH true aC a0,aH true aC a1,aH true aC a3])
 λ(y1:Bool) =>
 aE y1 (R (pPR true))
 (aJ [(false,Sy.bool)]
 (OX
 [aH true aC a2,aH true aC a3,aH true aC a0])
 λ(y2:Bool) =>
 aE y2 (R (pPR true))
 (aJ [(false,Sy.bool)]
 (OX
 [aH true aC a2,aH true aC a3,aH true aC a1])
 λ(y3:Bool) =>
 aE y3 (R (pPR true))
 (aJ [(false,Sy.int IntKind.i64)]
 (o8
 [aH true aC a0,aH true aC a1,aH true aC a2])
 λ(y4:Int) =>
 aJ [(false,Sy.int IntKind.i64)]
 (o8
 [aH true aC a0,aH true aC a1,
 aH true aC a3])
 λ(y5:Int) =>
 aE (decide (i64.wrap (y4*y5)<0))
 (aJ [(false,Sy.int IntKind.i64)]
 (o8
 [aH true aC a2,aH true aC a3,
 aH true aC a0])
 λ(y6:Int) =>
 aJ [(false,Sy.int IntKind.i64)]
 (o8
 [aH true aC a2,aH true aC a3,
 aH true aC a1])
 λ(y7:Int)=>R (pPR (decide (i64.wrap (y6*y7)<0))))
 (R (pPR false))))))
abbrev AFB:Sh:=[(true,aC),(true,aC),(true,aC),(true,aC)]
abbrev AV2:Sh:=[(false,Sy.bool)]
def B3 (x:aN×aN×aN×aN):Option T:=fT AV2 qT (P4 x.1 x.2.1 x.2.2.1 x.2.2.2)
def HU:List T->Option T:=gS AFB B3
def AQ5 {a0 a1 a2 a3}:HU [aH true aC a0,aH true aC a1,aH true aC a2,
 aH true aC a3]=B3 (a0,a1,a2,a3):=a8 (s:=AFB) rfl (a0,a1,a2,a3) rfl
def BCL:Of4 Tryz.prog 333 HU B3 (bR AFB) P4:=BI5 (a1:=(true,aC)) (a2:=(true,aC)) (a3:=(true,aC)) (a4:=(true,aC)) (Hs:=c0) (k:=8) AX9 aV aY (aQ rfl) ⟨_,_,Tryz.func333,rfl⟩ rfl λ_ _ _ _ _=>by kernel_rfl
def A83:aT Tryz.prog 333 HU:=BCL λ_ _ _ _ r h _=>cL h
def BKL {x:aN×aN×aN×aN}:∃ v,qT v/\B3 x=some (Sh.enc AV2 v):=cM (by
 unfold P4
 repeat' first
  | exact dR _ trivial
  | refine bW (λ_=>?_) λ_=>?_
  | refine bS (UX ..) AWZ λ_ _=>?_
  | refine bS (BAI ..) BS0 λ_ _=>?_
  | refine bS (UW ..) AWY λ_ _=>?_)
def A4M:Env:=Env.of [(334,.pure xW)]
def A64:FuncId->Hint:=bP 331 [(2,.inv [.val 3 false (.int .i64)])] (λ_=>bH)
def AOD:bB Tryz.prog A4M:=.cons AI5 (.nil _)
def GM (a0:List aN) (R:T->Prop):Prop :=
 a7 (Int×PUnit)
 (λ(X0:Int×PUnit->Prop) (s1:Int×PUnit) =>
 aE (decide (s1.1<(↑(List.map aC.enc a0).length:Int)))
 (aU aC (List.map aC.enc a0) s1.1 λ(y2:aN) =>
 aJ [(false,Sy.bool)] (xW [aH true aC y2]) λ(y3:Bool) =>
 aE (!y3) (R (pPR false)) (X0 (i64.wrap (s1.1+1),())))
 (R (pPR true)))
 (0,())
abbrev WI:Sh:=[(false,aC.li)]
abbrev AMI:Sh:=[(false,Sy.bool)]
def w6 (p:List aN):Option T:=fT AMI qT (GM p)
def A5:List T->Option T:=gS WI w6
def AJ7 {a0}:A5 [T.sl false (List.map aC.enc a0)]=w6 (a0):=a8 (s:=WI) rfl (a0) rfl
def A2N:lW Tryz.prog 331 A5 w6 (bR WI) GM:=eN (a1:=(false,aC.li)) (Hs:=A64) (k:=8) AOD aV aY (aQ rfl) ⟨_,_,Tryz.func331,rfl⟩ rfl λ_ _=>by kernel_rfl
def A0M:aT Tryz.prog 331 A5:=A2N λ_ r h _=>cL h
def BFK {p:List aN} (hp:p.length<=2 ^ 40):∃ v,qT v/\w6 p=some (Sh.enc AMI v):=cM (by
 unfold GM;refine qN (by simp;omega) 0 rfl λQ up=>⟨λ_=>dR _ trivial,λk hk hX=>?_⟩
 refine eE (by omega) λv _=>?_;exact bS (UQ ..) AWU λ_ _=>bW (λ_=>dR _ trivial) λ_=>hX)
def AX3:Env:=Env.of [(335,.pure vV),(364,.pure HV)]
def AY8:FuncId->Hint:=bP 332 [(3,.inv [.val 4 false (.int .i64)]),(6,.inv [.val 5 false (.int .i64)]),(11,.inv [.val 6 false (.int .i64)]),(17,.inv [.val 10 false (.int .i64)])] (λ_=>bH)
def AHK:bB Tryz.prog AX3:=.cons AQF (.cons A84 (.nil _))
def CN (a0:List aN) (R:T->Prop):Prop :=
 a7 (Int×PUnit)
 (λ(X0:Int×PUnit->Prop) (s1:Int×PUnit) =>
 aE (decide (s1.1<(↑(List.map aC.enc a0).length:Int)))
 (a7 (Int×PUnit)
 (λ(X2:Int×PUnit->Prop) (s3:Int×PUnit) =>
 aE (decide (s3.1<s1.1))
 (aU aC (List.map aC.enc a0) s1.1 λ(y4:aN) =>
 aU aC (List.map aC.enc a0) s3.1 λ(y5:aN) =>
 aE (decide (y4.1=y5.1)&&(decide (y4.2=y5.2)&&true))
 (R (pPR false)) (X2 (i64.wrap (s3.1+1),())))
 (X0 (i64.wrap (s1.1+1),())))
 (0,()))
 (a7 (Int×PUnit)
 (λ(X6:Int×PUnit->Prop) (s7:Int×PUnit) =>
 aE (decide (s7.1<(↑(List.map aC.enc a0).length:Int)))
 (aU aC (List.map aC.enc a0) s7.1 λ(y8:aN) =>
 bO (!decide ((↑(List.map aC.enc a0).length:Int)=0))
 (aU aC (List.map aC.enc a0)
 ((i64.wrap (s7.1+1)).tmod (↑(List.map aC.enc a0).length:Int))
 λ(y9:aN) =>
 bO (!decide ((↑(List.map aC.enc a0).length:Int)=0))
 (aU aC (List.map aC.enc a0)
 ((i64.wrap (s7.1+2)).tmod (↑(List.map aC.enc a0).length:Int))
 λ(y10:aN) =>
 aJ [(false,Sy.bool)]
 (vV
 [aH true aC y8,aH true aC y9,
 aH true aC y10])
 λ(y11:Bool) =>
 aE y11 (R (pPR false))
 (aJ [(false,Sy.bool)]
 (vV
 [aH true aC y10,aH true aC y8,
 aH true aC y9])
 λ(y12:Bool) =>
 aE y12 (R (pPR false))
 (a7 (Int×PUnit)
 (λ(X13:Int×PUnit->Prop) (s14:Int×PUnit) =>
 aE (decide (s14.1<(↑(List.map aC.enc a0).length:Int)))
 (bO (!decide ((↑(List.map aC.enc a0).length:Int)=0))
 (aE
 (!decide
 ((i64.wrap (s14.1+1)).tmod
 (↑(List.map aC.enc a0).length:Int) =
 s7.1))
 (aU aC (List.map aC.enc a0) s14.1
 λ(y15:aN) =>
 bO (!decide ((↑(List.map aC.enc a0).length:Int)=0))
 (aU aC (List.map aC.enc a0)
 ((i64.wrap (s14.1+1)).tmod
 (↑(List.map aC.enc a0).length:Int))
 λ(y16:aN) =>
 aJ [(false,Sy.bool)]
 (HV
 [aH true aC y8,aH true aC y9,
 aH true aC y15,aH true aC y16])
 λ(y17:Bool) =>
 aE y17 (R (pPR false))
 (X13 (i64.wrap (s14.1+1),()))))
 (X13 (i64.wrap (s14.1+1),()))))
 (X6 (i64.wrap (s7.1+1),())))
 (i64.wrap (s7.1+2),()))))))
 (R (pPR true)))
 (0,())))
 (0,())
abbrev NR:Sh:=[(false,aC.li)]
abbrev AAO:Sh:=[(false,Sy.bool)]
def sW (p:List aN):Option T:=fT AAO qT (CN p)
def wE:List T->Option T:=gS NR sW
def AD0 {a0}:wE [T.sl false (List.map aC.enc a0)]=sW (a0):=a8 (s:=NR) rfl (a0) rfl
def ASR:lW Tryz.prog 332 wE sW (bR NR) CN:=eN (a1:=(false,aC.li)) (Hs:=AY8) (k:=8) AHK aV aY (aQ rfl) ⟨_,_,Tryz.func332,rfl⟩ rfl λ_ _=>by kernel_rfl
def AQO:aT Tryz.prog 332 wE:=ASR λ_ r h _=>cL h
def A31 {p:List aN} (hp:p.length<=2 ^ 40):∃ v,qT v/\sW p=some (Sh.enc AAO v):=cM (by
 unfold CN;have hl:(List.map aC.enc p).length<=2 ^ 40:=by simpa using hp
 generalize hm:(List.map aC.enc p).length=n at hl ⊢;refine qN (by omega) 0 rfl λQ up=>⟨λ_=>?_,λk hk hX=>?_⟩
 rotate_left
 ·refine qN (by omega) 0 rfl λQ up=>⟨λ_=>up hX,λj hj hY=>?_⟩
  refine eE (by omega) λ_ _=>eE (by omega) λ_ _=>?_;exact bW (λ_=>dR _ trivial) λ_=>hY
 refine qN (by omega) 0 rfl λQ up=>⟨λ_=>dR _ trivial,λk hk hX=>?_⟩
 have hn:(!decide ((n:Int)=0))=true:=by simp;omega
 have ix:∀ {c:Int} {k:Nat},k<n->0<=c->c<=2->0<=(i64.wrap ((k:Int)+c)).tmod (n:Int)/\(i64.wrap ((k:Int)+c)).tmod (n:Int)<(List.map aC.enc p).length:=λh h0 h2=>by rw[hm];exact AM8 h (by omega) h0 h2
 refine eE (by omega) λ_ _=>r4 hn (eE (ix hk (by decide) (by decide)) λ_ _=>r4 hn (eE (ix hk (by decide) (by decide)) λ_ _=>?_));refine bS (HX ..) AWV λ_ _=>bW (λ_=>dR _ trivial) λ_=>?_;refine bS (HX ..) AWV λ_ _=>bW (λ_=>dR _ trivial) λ_=>?_;refine qN (by omega) (k+2) (aZ _ (by omega) (by omega)) λQ up=>⟨λ_=>up hX,λj hj hY=>?_⟩
 refine r4 hn (bW (λ_=>?_) λ_=>hY);refine eE (by omega) λ_ _=>r4 hn (eE (ix hj (by decide) (by decide)) λ_ _=>?_);exact bS (AQ6 ..) BKM λ_ _=>bW (λ_=>dR _ trivial) λ_=>hY)
def BF5:Env:=Env.of [(331,.pure A5),(332,.pure wE)]
def AYF:bB Tryz.prog BF5:=.cons A0M (.cons AQO (.nil _))
def P8 (a0:List aN) (R:T->Prop):Prop :=
 aE (decide ((↑(List.map aC.enc a0).length:Int)<3)) (R (pPP 3))
 (aE (decide (32<(↑(List.map aC.enc a0).length:Int)))
 (R (pPP 4))
 (aJ [(false,Sy.bool)] (A5 [T.sl false (List.map aC.enc a0)])
 λ(y0:Bool) =>
 aE (!y0) (R (pPP 9))
 (aJ [(false,Sy.bool)] (wE [T.sl false (List.map aC.enc a0)])
 λ(y1:Bool) =>
 aE (!y1) (R (pPP 17))
 (R (pPP 0)))))
abbrev AFJ:Sh:=[(false,aC.li)]
abbrev AEV:Sh:=[(false,Sy.int IntKind.i64)]
def B7 (p:List aN):Option T:=fT AEV (λv:Int=>v=0->3<=p.length) (P8 p)
def o7:List T->Option T:=gS AFJ B7
def xY {a0}:o7 [T.sl false (List.map aC.enc a0)]=B7 (a0):=a8 (s:=AFJ) rfl (a0) rfl
def BCU:lW Tryz.prog 274 o7 B7 (bR AFJ) P8:=eN (a1:=(false,aC.li)) (Hs:=c0) (k:=8) AYF aV aY (aQ rfl) ⟨_,_,Tryz.func274,rfl⟩ rfl λ_ _=>by kernel_rfl
def T5:aT Tryz.prog 274 o7:=BCU λ_ r h _=>cL h
def Q7 {p:List aN} (hp:p.length<=2 ^ 40):∃ v:Int,(v=0->3<=p.length)/\B7 p=some (Sh.enc AEV v):=cM (s:=AEV) (Q:=λv:Int=>v=0->3<=p.length) (by
 unfold P8;refine bW (λ_=>dR _ (λh=>by cases h)) λh=>?_;have h:3<=p.length:=by simp at h;omega
 refine bW (λ_=>dR _ λ_=>h) λ_=>bS (AJ7 ..) (BFK hp) λ_ _=>bW (λ_=>dR _ λ_=>h) λ_=>?_;exact bS (AD0 ..) (A31 hp) λ_ _=>bW (λ_=>dR _ λ_=>h) λ_=>dR _ λ_=>h)
def BFW:Env:=Env.of [(274,.pure o7)]
def BGX:FuncId->Hint:=bP 275 [(5,.inv [.val 3 false (.int .i64),.val 4 false (.int .i64)])] (λ_=>bH)
def AX5:bB Tryz.prog BFW:=.cons T5 (.nil _)
def P1 (a0:List aN) (R:T->Prop):Prop :=
 aJ [(false,Sy.int IntKind.i64)] (o7 [T.sl false (List.map aC.enc a0)])
 λ(y0:Int) =>
 aE (!decide (y0=0)) (R (pPP 0))
 (a7 (Int×Int×PUnit)
 (λ(X1:Int×Int×PUnit->Prop) (s2:Int×Int×PUnit) =>
 aE (decide (s2.2.1<(↑(List.map aC.enc a0).length:Int)))
 (aU aC (List.map aC.enc a0) s2.2.1 λ(y3:aN) =>
 bO (!decide ((↑(List.map aC.enc a0).length:Int)=0))
 (aU aC (List.map aC.enc a0)
 ((i64.wrap (s2.2.1+1)).tmod (↑(List.map aC.enc a0).length:Int))
 λ(y4:aN) =>
 X1
 (i64.wrap
 (i64.wrap (s2.1+i64.wrap (y3.1*y4.2)) -
 i64.wrap (y3.2*y4.1)),
 i64.wrap (s2.2.1+1),())))
 (R (pPP s2.1)))
 (0,0,()))
abbrev AE3:Sh:=[(false,aC.li)]
abbrev AV0:Sh:=[(false,Sy.int IntKind.i64)]
def B0 (p:List aN):Option T:=fT AV0 qT (P1 p)
def tP:List T->Option T:=gS AE3 B0
def FJ {a0}:tP [T.sl false (List.map aC.enc a0)]=B0 (a0):=a8 (s:=AE3) rfl (a0) rfl
def BCC:lW Tryz.prog 275 tP B0 (bR AE3) P1:=eN (a1:=(false,aC.li)) (Hs:=BGX) (k:=8) AX5 aV aY (aQ rfl) ⟨_,_,Tryz.func275,rfl⟩ rfl λ_ _=>by kernel_rfl
def AIX:aT Tryz.prog 275 tP:=BCC λ_ r h _=>cL h
def AGO {p:List aN} (hp:p.length<=2 ^ 40):∃ v,qT v/\B0 p=some (Sh.enc AV0 v):=cM (by
 unfold P1;have hl:(List.map aC.enc p).length<=2 ^ 40:=by simpa using hp
 generalize hm:(List.map aC.enc p).length=n at hl ⊢;refine bS (xY ..) (Q7 hp) λ_ _=>bW (λ_=>dR _ trivial) λ_=>?_;refine xM (λs:Int×Int×Unit=>s.2.1) qT 0 rfl trivial λQ up=>⟨λ_ _ _ _ _=>dR _ trivial,?_⟩
 rintro k ⟨a,_,_⟩ rfl hk _ hX;dsimp only;have hn:(!decide ((n:Int)=0))=true:=by simp;omega
 exact eE (by omega) λ_ _=>r4 hn (eE (by rw[hm];exact AM8 hk (by omega) (by decide) (by decide)) λ_ _=>hX _ (aZ _ (by omega) (by omega)) trivial))
def A4W:Env:=Env.of [(274,.pure o7),(334,.pure xW),(335,.pure vV),(336,.pure jW)]
def A7E:FuncId->Hint:=bP 277 [(5,.inv [.val 5 false .bool,.val 6 false (.int .i64)])] (λ_=>bH)
def AOO:bB Tryz.prog A4W:=.cons T5 (.cons AI5 (.cons AQF (.cons T9 (.nil _))))
def GP (a0:List aN) (a1:aN) (R:T->Prop):Prop :=
 aJ [(false,Sy.int IntKind.i64)] (o7 [T.sl false (List.map aC.enc a0)])
 λ(y0:Int) =>
 aE (!decide (y0=0)) (R (pPP (-1)))
 (aJ [(false,Sy.bool)] (xW [aH true aC a1]) λ(y1:Bool) =>
 aE (!y1) (R (pPP (-1)))
 (a7 (Bool×Int×PUnit)
 (λ(X2:Bool×Int×PUnit->Prop) (s3:Bool×Int×PUnit) =>
 aE (decide (s3.2.1<(↑(List.map aC.enc a0).length:Int)))
 (aU aC (List.map aC.enc a0) s3.2.1 λ(y4:aN) =>
 bO (!decide ((↑(List.map aC.enc a0).length:Int)=0))
 (aU aC (List.map aC.enc a0)
 ((i64.wrap (s3.2.1+1)).tmod (↑(List.map aC.enc a0).length:Int))
 λ(y5:aN) =>
 aJ [(false,Sy.bool)]
 (vV
 [aH true aC a1,aH true aC y4,
 aH true aC y5])
 λ(y6:Bool) =>
 aE y6 (R (pPP 0))
 (aE (decide (y4.2<=a1.2))
 (aE (decide (a1.2<y5.2))
 (aJ [(false,Sy.int IntKind.i64)]
 (jW
 [aH true aC y4,aH true aC y5,
 aH true aC a1])
 λ(y7:Int) =>
 aE (decide (y5.2<=a1.2))
 (aE (decide (a1.2<y4.2))
 (aJ [(false,Sy.int IntKind.i64)]
 (jW
 [aH true aC y4,aH true aC y5,
 aH true aC a1])
 λ(y8:Int) =>
 aE (decide (0<y7))
 (X2 (!s3.1,i64.wrap (s3.2.1+1),()))
 (aE (decide (y8<0))
 (X2 (!s3.1,i64.wrap (s3.2.1+1),()))
 (X2 (s3.1,i64.wrap (s3.2.1+1),()))))
 (aE (decide (0<y7)) (X2 (!s3.1,i64.wrap (s3.2.1+1),()))
 (X2 (s3.1,i64.wrap (s3.2.1+1),()))))
 (aE (decide (0<y7)) (X2 (!s3.1,i64.wrap (s3.2.1+1),()))
 (X2 (s3.1,i64.wrap (s3.2.1+1),()))))
 (aE (decide (y5.2<=a1.2))
 (aE (decide (a1.2<y4.2))
 (aJ [(false,Sy.int IntKind.i64)]
 (jW
 [aH true aC y4,aH true aC y5,
 aH true aC a1])
 λ(y9:Int) =>
 aE (decide (y9<0)) (X2 (!s3.1,i64.wrap (s3.2.1+1),()))
 (X2 (s3.1,i64.wrap (s3.2.1+1),())))
 (X2 (s3.1,i64.wrap (s3.2.1+1),())))
 (X2 (s3.1,i64.wrap (s3.2.1+1),()))))
 (aE (decide (y5.2<=a1.2))
 (aE (decide (a1.2<y4.2))
 (aJ [(false,Sy.int IntKind.i64)]
 (jW
 [aH true aC y4,aH true aC y5,
 aH true aC a1])
 λ(y10:Int) =>
 aE (decide (y10<0)) (X2 (!s3.1,i64.wrap (s3.2.1+1),()))
 (X2 (s3.1,i64.wrap (s3.2.1+1),())))
 (X2 (s3.1,i64.wrap (s3.2.1+1),())))
 (X2 (s3.1,i64.wrap (s3.2.1+1),()))))))
 (aE s3.1 (R (pPP 1))
 (R (pPP (-1)))))
 (false,0,())))
abbrev W6:Sh:=[(false,aC.li),(true,aC)]
abbrev AMM:Sh:=[(false,Sy.int IntKind.i64)]
def xC (x:List aN×aN):Option T:=fT AMM qT (GP x.1 x.2)
def sH:List T->Option T:=gS W6 xC
def BG {a0 a1}:sH [T.sl false (List.map aC.enc a0),aH true aC a1]=xC (a0,a1):=a8 (s:=W6) rfl (a0,a1) rfl
def A3B:nJ Tryz.prog 277 sH xC (bR W6) GP:=eV (a1:=(false,aC.li)) (a2:=(true,aC)) (Hs:=A7E) (k:=8) AOO aV aY (aQ rfl) ⟨_,_,Tryz.func277,rfl⟩ rfl λ_ _ _=>by kernel_rfl
def A02:aT Tryz.prog 277 sH:=A3B λ_ _ r h _=>cL h
def XS {p:List aN} {q:aN} (hp:p.length<=2 ^ 40):∃ v,qT v/\xC (p,q)=some (Sh.enc AMM v):=cM (by
 unfold GP;have hl:(List.map aC.enc p).length<=2 ^ 40:=by simpa using hp
 generalize hm:(List.map aC.enc p).length=n at hl ⊢;refine bS (xY ..) (Q7 hp) λ_ _=>bW (λ_=>dR _ trivial) λ_=>?_;refine bS (UQ ..) AWU λ_ _=>bW (λ_=>dR _ trivial) λ_=>?_;refine xM (λs:Bool×Int×Unit=>s.2.1) qT 0 rfl trivial λQ up=>⟨λ_ _ _ _ _=>bW (λ_=>dR _ trivial) λ_=>dR _ trivial,?_⟩
 rintro k ⟨a,_,_⟩ rfl hk _ hX;dsimp only;have hX:∀ a,Ex Q λy c=>c.2 (a,i64.wrap ((k:Int)+1),()):=λa=>hX _ (aZ _ (by omega) (by omega)) trivial;have hn:(!decide ((n:Int)=0))=true:=by simp;omega
 refine eE (by omega) λ_ _=>r4 hn (eE (by rw[hm];exact AM8 hk (by omega) (by decide) (by decide)) λ_ _=>?_)
 repeat' first
  | exact hX _
  | exact dR _ trivial
  | refine bW (λ_=>?_) λ_=>?_
  | refine bS (HX ..) AWV λ_ _=>?_
  | refine bS (FQ ..) AGP λ_ _=>?_)
def A4E:Env:=Env.of [(333,.pure HU)]
def A6V:FuncId->Hint:=bP 276 [(2,.inv [.val 5 false (.int .i64)]),(5,.inv [.val 6 false (.int .i64)])] (λ_=>bH)
def AN3:bB Tryz.prog A4E:=.cons A83 (.nil _)
def GJ (a0:List aN) (a1:List aN) (R:T->Prop):Prop :=
 a7 (Int×PUnit)
 (λ(X0:Int×PUnit->Prop) (s1:Int×PUnit) =>
 aE (decide (s1.1<(↑(List.map aC.enc a0).length:Int)))
 (a7 (Int×PUnit)
 (λ(X2:Int×PUnit->Prop) (s3:Int×PUnit) =>
 aE (decide (s3.1<(↑(List.map aC.enc a1).length:Int)))
 (aU aC (List.map aC.enc a0) s1.1 λ(y4:aN) =>
 bO (!decide ((↑(List.map aC.enc a0).length:Int)=0))
 (aU aC (List.map aC.enc a0)
 ((i64.wrap (s1.1+1)).tmod (↑(List.map aC.enc a0).length:Int))
 λ(y5:aN) =>
 aU aC (List.map aC.enc a1) s3.1 λ(y6:aN) =>
 bO (!decide ((↑(List.map aC.enc a1).length:Int)=0))
 (aU aC (List.map aC.enc a1)
 ((i64.wrap (s3.1+1)).tmod (↑(List.map aC.enc a1).length:Int))
 λ(y7:aN) =>
 aJ [(false,Sy.bool)]
 (HU
 [aH true aC y4,aH true aC y5,
 aH true aC y6,aH true aC y7])
 λ(y8:Bool) =>
 aE y8 (R (pPR true))
 (X2 (i64.wrap (s3.1+1),())))))
 (X0 (i64.wrap (s1.1+1),())))
 (0,()))
 (R (pPR false)))
 (0,())
abbrev V6:Sh:=[(false,aC.li),(false,aC.li)]
abbrev AMF:Sh:=[(false,Sy.bool)]
def wW (x:List aN×List aN):Option T:=fT AMF qT (GJ x.1 x.2)
def vJ:List T->Option T:=gS V6 wW
def OV {a0 a1}:vJ [T.sl false (List.map aC.enc a0),T.sl false (List.map aC.enc a1)]=wW (a0,a1):=a8 (s:=V6) rfl (a0,a1) rfl
def A2A:nJ Tryz.prog 276 vJ wW (bR V6) GJ:=eV (a1:=(false,aC.li)) (a2:=(false,aC.li)) (Hs:=A6V) (k:=8) AN3 aV aY (aQ rfl) ⟨_,_,Tryz.func276,rfl⟩ rfl λ_ _ _=>by kernel_rfl
def A0D:aT Tryz.prog 276 vJ:=A2A λ_ _ r h _=>cL h
def ANB {p q:List aN} (hp:p.length<=2 ^ 40) (hq:q.length<=2 ^ 40):∃ v,qT v/\wW (p,q)=some (Sh.enc AMF v):=cM (by
 unfold GJ;dsimp only;have hl:(List.map aC.enc p).length<=2 ^ 40:=by simpa using hp
 have hl2:(List.map aC.enc q).length<=2 ^ 40:=by simpa using hq
 generalize hm:(List.map aC.enc p).length=n at hl ⊢;generalize hm2:(List.map aC.enc q).length=n2 at hl2 ⊢;refine qN (by omega) 0 rfl λQ up=>⟨λ_=>dR _ trivial,λk hk hX=>?_⟩
 refine qN (by omega) 0 rfl λQ up=>⟨λ_=>up hX,λj hj hY=>?_⟩
 have hn:(!decide ((n:Int)=0))=true:=by simp;omega
 have hn2:(!decide ((n2:Int)=0))=true:=by simp;omega
 refine eE (by omega) λ_ _=>r4 hn (eE (by rw[hm];exact AM8 hk (by omega) (by decide) (by decide)) λ_ _=>?_);refine eE (by omega) λ_ _=>r4 hn2 (eE (by rw[hm2];exact AM8 hj (by omega) (by decide) (by decide)) λ_ _=>?_);exact bS (AQ5 ..) BKL λ_ _=>bW (λ_=>dR _ trivial) λ_=>hY)
def BF8:Env:=Env.of [(274,.pure o7),(275,.pure tP),(276,.pure vJ),(277,.pure sH)]
def BG7:FuncId->Hint:=bP 125 [(9,.inv [.val 4 false (.int .i64)]),(18,.inv [.val 7 false (.int .i64)])] (λ_=>bH)
def AYI:bB Tryz.prog BF8:=.cons T5 (.cons AIX (.cons A0D (.cons A02 (.nil _))))
def P9 (a0:eM) (R:T->Prop):Prop :=
 aE (decide (8<(↑(List.map aC.li.enc a0.2).length:Int)))
 (R (pPP 12))
 (aJ [(false,Sy.int IntKind.i64)]
 (o7 [T.sl false (List.map aC.enc a0.1)]) λ(y0:Int) =>
 aE (!decide (y0=0)) (R (pPP y0))
 (aJ [(false,Sy.int IntKind.i64)]
 (tP [T.sl false (List.map aC.enc a0.1)]) λ(y1:Int) =>
 aE (decide (y1<=0)) (R (pPP 17))
 (a7 (Int×PUnit)
 (λ(X2:Int×PUnit->Prop) (s3:Int×PUnit) =>
 aE (decide (s3.1<(↑(List.map aC.li.enc a0.2).length:Int)))
 (aU aC.li (List.map aC.li.enc a0.2) s3.1
 λ(y4:List aN) =>
 aJ [(false,Sy.int IntKind.i64)]
 (o7 [T.sl false (List.map aC.enc y4)]) λ(y5:Int) =>
 aE (!decide (y5=0)) (R (pPP y5))
 (aJ [(false,Sy.int IntKind.i64)]
 (tP [T.sl false (List.map aC.enc y4)]) λ(y6:Int) =>
 aE (decide (0<=y6)) (R (pPP 17))
 (aJ [(false,Sy.bool)]
 (vJ
 [T.sl false (List.map aC.enc a0.1),
 T.sl false (List.map aC.enc y4)])
 λ(y7:Bool) =>
 aE y7 (R (pPP 17))
 (aU aC (List.map aC.enc y4) 0 λ(y8:aN) =>
 aJ [(false,Sy.int IntKind.i64)]
 (sH
 [T.sl false (List.map aC.enc a0.1),
 aH true aC y8])
 λ(y9:Int) =>
 aE (!decide (y9=1)) (R (pPP 17))
 (a7 (Int×PUnit)
 (λ(X10:Int×PUnit->Prop) (s11:Int×PUnit) =>
 aE (decide (s11.1<s3.1))
 (aU aC.li (List.map aC.li.enc a0.2) s11.1
 λ(y12:List aN) =>
 aJ [(false,Sy.bool)]
 (vJ
 [T.sl false (List.map aC.enc y4),
 T.sl false (List.map aC.enc y12)])
 λ(y13:Bool) =>
 aE y13 (R (pPP 17))
 (aU aC.li (List.map aC.li.enc a0.2)
 s11.1 λ(y14:List aN) =>
 aU aC (List.map aC.enc y14) 0
 λ(y15:aN) =>
 aJ [(false,Sy.int IntKind.i64)]
 (sH
 [T.sl false (List.map aC.enc y4),
 aH true aC y15])
 λ(y16:Int) =>
 aE (!decide (y16 = -1))
 (R (pPP 17))
 (aU aC.li
 (List.map aC.li.enc a0.2) s11.1
 λ(y17:List aN) =>
 aU aC (List.map aC.enc y4) 0
 λ(y18:aN) =>
 aJ [(false,Sy.int IntKind.i64)]
 (sH
 [T.sl false (List.map aC.enc y17),
 aH true aC y18])
 λ(y19:Int) =>
 aE (!decide (y19 = -1))
 (R (pPP 17))
 (X10 (i64.wrap (s11.1+1),())))))
 (X2 (i64.wrap (s3.1+1),())))
 (0,()))))))
 (R (pPP 0)))
 (0,()))))
abbrev AFN:Sh:=[(true,dG)]
abbrev AV6:Sh:=[(false,Sy.int IntKind.i64)]
def B8 (s:eM):Option T:=fT AV6 qT (P9 s)
def x7:List T->Option T:=gS AFN B8
def UU {a0}:x7 [aH true dG a0]=B8 (a0):=a8 (s:=AFN) rfl (a0) rfl
def BCY:lW Tryz.prog 125 x7 B8 (bR AFN) P9:=eN (a1:=(true,dG)) (Hs:=BG7) (k:=8) AYI aV aY (aQ rfl) ⟨_,_,Tryz.func125,rfl⟩ rfl λ_ _=>by kernel_rfl
def AI9:aT Tryz.prog 125 x7:=BCY λ_ r h _=>cL h
def AUD (s:eM):Prop:=s.1.length<=2 ^ 40/\s.2.length<=2 ^ 40/\∀ h∈s.2,List.length (α:=aN) h<=2 ^ 40
def AWX {s:eM} (hs:AUD s):∃ v,qT v/\B8 s=some (Sh.enc AV6 v):=cM (by
 obtain ⟨h1,h2,h3⟩:=hs;unfold P9;refine bW (λ_=>dR _ trivial) λ_=>bS (xY ..) (Q7 h1) λ_ _=>bW (λ_=>dR _ trivial) λ_=>?_;refine bS (FJ ..) (AGO h1) λ_ _=>bW (λ_=>dR _ trivial) λ_=>?_;refine xM (λs:Int×Unit=>s.1) (λk=>∀ i (hi:i<s.2.length),i<k->3<=List.length (α:=aN) s.2[i]) 0 rfl (λi hi h=>by omega) λQ up=>⟨λ_ _ _ _ _=>dR _ trivial,?_⟩
 rintro k ⟨_,_⟩ rfl hk hJ hX;dsimp only;have hk':k<s.2.length:=by simpa using hk
 have b:=h3 _ (ak hk');refine CS hk' (bS (xY ..) (Q7 b) λv hv=>bW (λ_=>dR _ trivial) λh0=>?_);have p3:3<=List.length (α:=aN) s.2[k]:=hv (by simpa using h0);refine bS (FJ ..) (AGO b) λ_ _=>bW (λ_=>dR _ trivial) λ_=>?_;refine bS (OV ..) (ANB h1 b) λ_ _=>bW (λ_=>dR _ trivial) λ_=>?_;refine eE ⟨by decide,by rw[ae];omega⟩ λ_ _=>bS (BG ..) (XS h1) λ_ _=>bW (λ_=>dR _ trivial) λ_=>?_;refine qN (by omega) 0 rfl λQ up=>⟨λ_=>up (hX _ (aZ _ (by omega) (by omega)) λi hi h=>?_),λj hj hY=>?_⟩
 ·rcases Nat.lt_or_ge i k with h'|h'
  ·exact hJ i hi h'
  ·obtain rfl:i=k:=by omega
   exact p3
 have hj':j<s.2.length:=by omega
 have bj:=h3 _ (ak hj');have q3:=hJ j hj' hj;refine CS hj' (bS (OV ..) (ANB b bj) λ_ _=>bW (λ_=>dR _ trivial) λ_=>CS hj' (eE ⟨by decide,by rw[ae];omega⟩ λ_ _=>?_));refine bS (BG ..) (XS b) λ_ _=>bW (λ_=>dR _ trivial) λ_=>CS hj' (eE ⟨by decide,by rw[ae];omega⟩ λ_ _=>?_);exact bS (BG ..) (XS bj) λ_ _=>bW (λ_=>dR _ trivial) λ_=>hY)
def GI (a0:eM) (R:T->Prop):Prop :=
 aE (List.map aC.li.enc a0.2).isEmpty
 (R (T.sl false [[T.sl false (List.map aC.enc a0.1)]]))
 (bO
 (iD 1 (List.map aC.li.enc a0.2) &&
 decide ((1+(List.map aC.li.enc a0.2).length)*24<=140737488355328) &&
 decide (1+(List.map aC.li.enc a0.2).length<=140737488355328))
 (R
 (T.sl false
 ([T.sl false (List.map aC.enc a0.1)] ::
 (List.map aC.li.enc a0.2)))))
abbrev V4:Sh:=[(true,dG)]
abbrev VZ:Sh:=[(false,aC.li.li)]
def wV (s:eM):Option T:=fT VZ (λv:List (List aN)=>v=s.1::s.2) (GI s)
def AP:List T->Option T:=gS V4 wV
def AJM {a0}:AP [aH true dG a0]=wV (a0):=a8 (s:=V4) rfl (a0) rfl
def A19:lW Tryz.prog 278 AP wV (bR V4) GI:=eN (a1:=(true,dG)) (Hs:=c0) (k:=8) (bM _) aV aY (aQ rfl) ⟨_,_,Tryz.func278,rfl⟩ rfl λ_ _=>by kernel_rfl
def A0C:aT Tryz.prog 278 AP:=A19 λ_ r h _=>cL h
def BFI {s:eM} (hs:AUD s):∃ v,v=s.1::s.2/\wV s=some (Sh.enc VZ v):=cM (s:=VZ) (Q:=λv:List (List aN)=>v=s.1::s.2) (by
 have h2:=hs.2.1;obtain ⟨o,l⟩:=s;replace h2:l.length<=2 ^ 40:=h2;unfold GI;refine bW (λh=>?_) λ_=>r4 ?_ ⟨⟨o::l,rfl⟩,λ_ _=>rfl⟩
 ·obtain rfl:l=[]:=by simpa using h
  exact ⟨⟨[o],rfl⟩,λ_ _=>rfl⟩
 ·simp only[ac,ah,ae];exact ⟨⟨pH (.li aC) l,by omega⟩,by omega⟩)
def BFV:Env:=Env.of [(125,.pure x7),(278,.pure AP),(275,.pure tP)]
def BGW:FuncId->Hint:=bP 130 [(6,.inv [.val 3 false (.int .i64),.val 5 false (.int .i64)])] (λ_=>bH)
def AX4:bB Tryz.prog BFV:=.cons AI9 (.cons A0C (.cons AIX (.nil _)))
def P0 (a0:eM) (R:T->Prop):Prop :=
 aJ [(false,Sy.int IntKind.i64)] (x7 [aH true dG a0]) λ(y0:Int) =>
 aE (!decide (y0=0)) (R (pPP 0))
 (aJ [(false,aC.li.li)] (AP [aH true dG a0])
 λ(y1:List (List aN)) =>
 a7 (Int×Int×PUnit)
 (λ(X2:Int×Int×PUnit->Prop) (s3:Int×Int×PUnit) =>
 aE (decide (s3.2.1<(↑(List.map aC.li.enc y1).length:Int)))
 (aU aC.li (List.map aC.li.enc y1) s3.2.1 λ(y4:List aN) =>
 aJ [(false,Sy.int IntKind.i64)]
 (tP [T.sl false (List.map aC.enc y4)]) λ(y5:Int) =>
 X2 (i64.wrap (s3.1+y5),i64.wrap (s3.2.1+1),()))
 (R (pPP s3.1)))
 (0,0,()))
abbrev AE2:Sh:=[(true,dG)]
abbrev AVZ:Sh:=[(false,Sy.int IntKind.i64)]
def BZ (s:eM):Option T:=fT AVZ qT (P0 s)
def HL:List T->Option T:=gS AE2 BZ
def AQY {a0}:HL [aH true dG a0]=BZ (a0):=a8 (s:=AE2) rfl (a0) rfl
def BCB:lW Tryz.prog 130 HL BZ (bR AE2) P0:=eN (a1:=(true,dG)) (Hs:=BGW) (k:=8) AX4 aV aY (aQ rfl) ⟨_,_,Tryz.func130,rfl⟩ rfl λ_ _=>by kernel_rfl
def A8U:aT Tryz.prog 130 HL:=BCB λ_ r h _=>cL h
def BKI {s:eM} (hs:AUD s):∃ v,qT v/\BZ s=some (Sh.enc AVZ v):=cM (by
 unfold P0;refine bS (UU ..) (AWX hs) λ_ _=>bW (λ_=>dR _ trivial) λ_=>bS (AJM ..) (BFI hs) λv hv=>?_;obtain ⟨h1,h2,h3⟩:=hs;have hb:∀ h∈v,List.length (α:=aN) h<=2 ^ 40:=λh hh=>by
  rw[hv] at hh;rcases List.mem_cons.1 hh with rfl|hh
  ·exact h1
  ·exact h3 h hh
 have hl:(List.map aC.li.enc v).length<=2 ^ 41:=by rw[hv,ae,List.length_cons];omega
 refine xM (λs:Int×Int×Unit=>s.2.1) qT 0 rfl trivial λQ up=>⟨λ_ _ _ _ _=>dR _ trivial,?_⟩
 rintro k ⟨a,_,_⟩ rfl hk _ hX;dsimp only;exact eE (by omega) λw hw=>bS (FJ ..) (AGO (hb w hw)) λ_ _=>hX _ (aZ _ (by omega) (by omega)) trivial)
end Go.Pv
namespace Go.Pv
open Go Go.Proofs IntKind
def GO (a0:uN) (R:T->Prop):Prop :=
 aE (decide (-524288<=a0.1.1))
 (aE (decide (a0.1.1<=524288))
 (aE (decide (-524288<=a0.1.2.1))
 (aE (decide (a0.1.2.1<=524288))
 (aE (decide (-524288<=a0.1.2.2))
 (aE (decide (a0.1.2.2<=524288))
 (aE (decide (0<=a0.2)) (R (pPR (decide (a0.2<=23))))
 (R (pPR false)))
 (R (pPR false)))
 (R (pPR false)))
 (R (pPR false)))
 (R (pPR false)))
 (R (pPR false)))
 (R (pPR false))
abbrev W4:Sh:=[(true,eO)]
abbrev AML:Sh:=[(false,Sy.bool)]
def xB (x:uN):Option T:=fT AML qT (GO x)
def sG:List T->Option T:=gS W4 xB
def AK6 {a0}:sG [aH true eO a0]=xB (a0):=a8 (s:=W4) rfl (a0) rfl
def A29:lW Tryz.prog 127 sG xB (bR W4) GO:=eN (a1:=(true,eO)) (Hs:=c0) (k:=8) (bM _) aV aY (aQ rfl) ⟨_,_,Tryz.func127,rfl⟩ rfl λ_ _=>by kernel_rfl
def A00:aT Tryz.prog 127 sG:=A29 λ_ r h _=>cL h
def BFN {x:uN}:∃ v,qT v/\xB x=some (Sh.enc AML v):=cM (by
 unfold GO
 repeat' first
  | exact dR _ trivial
  | refine bW (λ_=>?_) λ_=>?_)
def ABT (a0:ACE) (R:T->Prop):Prop :=
 aE (decide (a0.1 < -524288)) (R (pPR true))
 (aE (decide (524288<a0.1)) (R (pPR true))
 (aE (decide (a0.2.1 < -524288)) (R (pPR true))
 (aE (decide (524288<a0.2.1)) (R (pPR true))
 (aE (decide (a0.2.2 < -524288)) (R (pPR true))
 (R (pPR (decide (524288<a0.2.2))))))))
abbrev AS8:Sh:=[(true,YV)]
abbrev BDN:Sh:=[(false,Sy.bool)]
def JW (x:ACE):Option T:=fT BDN qT (ABT x)
def UM:List T->Option T:=gS AS8 JW
def A1C {a0}:UM [aH true YV a0]=JW (a0):=a8 (s:=AS8) rfl (a0) rfl
def BJG:lW Tryz.prog 126 UM JW (bR AS8) ABT:=eN (a1:=(true,YV)) (Hs:=c0) (k:=8) (bM _) aV aY (aQ rfl) ⟨_,_,Tryz.func126,rfl⟩ rfl λ_ _=>by kernel_rfl
def BH5:aT Tryz.prog 126 UM:=BJG λ_ r h _=>cL h
def BQJ {x:ACE}:∃ v,qT v/\JW x=some (Sh.enc BDN v):=cM (by
 unfold ABT
 repeat' first
  | exact dR _ trivial
  | refine bW (λ_=>?_) λ_=>?_)
def GN (a0:bG) (R:T->Prop):Prop :=
 aE (!decide (a0.2.2.2.2.2.1=0))
 (aE (!decide (a0.2.2.2.2.2.2.2.1 = { data:=#[] }))
 (aE (!decide (a0.2.2.2.2.2.2.2.2.2.1=0))
 (aE (decide (a0.2.2.1=1)) (R (pPR true))
 (aE (decide (a0.2.2.1=4)) (R (pPR true))
 (R (pPR true))))
 (aE (decide (a0.2.2.1=1)) (R (pPR true))
 (aE (decide (a0.2.2.1=4)) (R (pPR true))
 (R (pPR true)))))
 (aE (!decide (a0.2.2.2.2.2.2.2.2.2.1=0))
 (aE (decide (a0.2.2.1=1))
 (aE (!decide (a0.2.2.2.2.2.2.2.2.1=0)) (R (pPR true))
 (R (pPR true)))
 (aE (decide (a0.2.2.1=4)) (R (pPR true))
 (R (pPR true))))
 (aE (decide (a0.2.2.1=1))
 (aE (!decide (a0.2.2.2.2.2.2.2.2.1=0)) (R (pPR true))
 (R
 (pPR (!(decide (a0.2.2.2.2.2.2.2.2.2.2.1.1=0) &&
 (decide (a0.2.2.2.2.2.2.2.2.2.2.1.2.1=0) &&
 (decide (a0.2.2.2.2.2.2.2.2.2.2.1.2.2=0)&&true)))))))
 (aE (decide (a0.2.2.1=4)) (R (pPR true))
 (R (pPR true))))))
 (aE (decide ((↑(List.map aC.enc a0.2.2.2.2.2.2.1.1).length:Int)=0))
 (aE (!decide (a0.2.2.2.2.2.2.2.1 = { data:=#[] }))
 (aE (!decide (a0.2.2.2.2.2.2.2.2.2.1=0))
 (aE (decide (a0.2.2.1=1)) (R (pPR true))
 (aE (decide (a0.2.2.1=4))
 (aE
 (!decide ((↑(List.map aC.li.enc a0.2.2.2.2.2.2.1.2).length:Int)=0))
 (R (pPR true)) (R (pPR true)))
 (aE
 (!decide ((↑(List.map aC.li.enc a0.2.2.2.2.2.2.1.2).length:Int)=0))
 (R (pPR true)) (R (pPR true)))))
 (aE (decide (a0.2.2.1=1)) (R (pPR true))
 (aE (decide (a0.2.2.1=4))
 (aE
 (!decide ((↑(List.map aC.li.enc a0.2.2.2.2.2.2.1.2).length:Int)=0))
 (R (pPR true)) (R (pPR true)))
 (aE
 (!decide ((↑(List.map aC.li.enc a0.2.2.2.2.2.2.1.2).length:Int)=0))
 (R (pPR true))
 (R
 (pPR (!(decide (a0.2.2.2.2.2.2.2.2.2.2.1.1=0) &&
 (decide (a0.2.2.2.2.2.2.2.2.2.2.1.2.1=0) &&
 (decide (a0.2.2.2.2.2.2.2.2.2.2.1.2.2=0)&&true))))))))))
 (aE (!decide (a0.2.2.2.2.2.2.2.2.2.1=0))
 (aE (decide (a0.2.2.1=1))
 (aE (!decide (a0.2.2.2.2.2.2.2.2.1=0)) (R (pPR true))
 (R (pPR true)))
 (aE (decide (a0.2.2.1=4))
 (aE
 (!decide ((↑(List.map aC.li.enc a0.2.2.2.2.2.2.1.2).length:Int)=0))
 (R (pPR true))
 (aE (!decide (a0.2.2.2.2.2.2.2.2.1=0)) (R (pPR true))
 (R (pPR (!decide (a0.2.2.2.2.1 = { data:=#[] }))))))
 (aE
 (!decide ((↑(List.map aC.li.enc a0.2.2.2.2.2.2.1.2).length:Int)=0))
 (R (pPR true)) (R (pPR true)))))
 (aE (decide (a0.2.2.1=1))
 (aE (!decide (a0.2.2.2.2.2.2.2.2.1=0)) (R (pPR true))
 (R
 (pPR (!(decide (a0.2.2.2.2.2.2.2.2.2.2.1.1=0) &&
 (decide (a0.2.2.2.2.2.2.2.2.2.2.1.2.1=0) &&
 (decide (a0.2.2.2.2.2.2.2.2.2.2.1.2.2=0)&&true)))))))
 (aE (decide (a0.2.2.1=4))
 (aE
 (!decide ((↑(List.map aC.li.enc a0.2.2.2.2.2.2.1.2).length:Int)=0))
 (R (pPR true))
 (aE (!decide (a0.2.2.2.2.2.2.2.2.1=0)) (R (pPR true))
 (R (pPR (!decide (a0.2.2.2.2.1 = { data:=#[] }))))))
 (aE
 (!decide ((↑(List.map aC.li.enc a0.2.2.2.2.2.2.1.2).length:Int)=0))
 (R (pPR true))
 (R
 (pPR (!(decide (a0.2.2.2.2.2.2.2.2.2.2.1.1=0) &&
 (decide (a0.2.2.2.2.2.2.2.2.2.2.1.2.1=0) &&
 (decide (a0.2.2.2.2.2.2.2.2.2.2.1.2.2=0)&&true)))))))))))
 (aE (!decide (a0.2.2.2.2.2.2.2.1 = { data:=#[] }))
 (aE (!decide (a0.2.2.2.2.2.2.2.2.2.1=0))
 (aE (decide (a0.2.2.1=1)) (R (pPR true))
 (aE (decide (a0.2.2.1=4)) (R (pPR true))
 (R (pPR true))))
 (aE (decide (a0.2.2.1=1)) (R (pPR true))
 (aE (decide (a0.2.2.1=4)) (R (pPR true))
 (R (pPR true)))))
 (aE (!decide (a0.2.2.2.2.2.2.2.2.2.1=0))
 (aE (decide (a0.2.2.1=1))
 (aE (!decide (a0.2.2.2.2.2.2.2.2.1=0)) (R (pPR true))
 (R (pPR true)))
 (aE (decide (a0.2.2.1=4)) (R (pPR true))
 (R (pPR true))))
 (aE (decide (a0.2.2.1=1))
 (aE (!decide (a0.2.2.2.2.2.2.2.2.1=0)) (R (pPR true))
 (R
 (pPR (!(decide (a0.2.2.2.2.2.2.2.2.2.2.1.1=0) &&
 (decide (a0.2.2.2.2.2.2.2.2.2.2.1.2.1=0) &&
 (decide (a0.2.2.2.2.2.2.2.2.2.2.1.2.2=0)&&true)))))))
 (aE (decide (a0.2.2.1=4)) (R (pPR true))
 (R (pPR true)))))))
abbrev W2:Sh:=[(true,aS)]
abbrev AMK:Sh:=[(false,Sy.bool)]
def xA (x:bG):Option T:=fT AMK qT (GN x)
def BE:List T->Option T:=gS W2 xA
def AK3 {a0}:BE [aH true aS a0]=xA (a0):=a8 (s:=W2) rfl (a0) rfl
def A26:lW Tryz.prog 123 BE xA (bR W2) GN:=eN (a1:=(true,aS)) (Hs:=c0) (k:=8) (bM _) aV aY (aQ rfl) ⟨_,_,Tryz.func123,rfl⟩ rfl λ_ _=>by kernel_rfl
def A0Y:aT Tryz.prog 123 BE:=A26 λ_ r h _=>cL h
def BFM {x:bG}:∃ v,qT v/\xA x=some (Sh.enc AMK v):=cM (by
 unfold GN
 repeat' first
  | exact dR _ trivial
  | refine bW (λ_=>?_) λ_=>?_)
def D8 (m:aL):Prop:=m.1.length<=2 ^ 40/\m.2.length<=2 ^ 40/\∀ g∈m.1,g.2.2.2.length<=2 ^ 40
def BMD:FuncId->Hint:=bP 129 [(2,.inv [.val 6 false (.int .i64),.fix 1])] (λ_=>bH)
def ACA (a0:aL) (a1:iII) (R:T->Prop):Prop :=
 eZ
 (bL.rows false
 [[D.p (pPQ ({ data:=#[] })),D.p (pPP 0),
 D.p (pPP 0),D.p (pPP 0)]])
 (bL.rows false
 [[D.p (pPQ ({ data:=#[] })),D.p (pPP 0),
 D.p (pPP 0),D.p (pPP 0)]])
 (a7 (Int×PUnit×PUnit)
 (λ(X0:Int×PUnit×PUnit->Prop) (s1:Int×PUnit×PUnit) =>
 aE (decide (s1.1<(↑(List.map bN.enc a0.2).length:Int)))
 (aU bN (List.map bN.enc a0.2) s1.1 λ(y2:cH) =>
 aE (decide (y2.1=a1))
 (aU bN (List.map bN.enc a0.2) s1.1 λ(y3:cH) =>
 R (T.cB [aH true bN y3,pPR true]))
 (eZ
 (bL.rows false
 [[D.p (pPQ ({ data:=#[] })),
 D.p (pPP 0),
 D.p (pPP 0),
 D.p (pPP 0)]])
 (bL.rows false
 [[D.p (pPQ ({ data:=#[] })),
 D.p (pPP 0),
 D.p (pPP 0),
 D.p (pPP 0)]])
 (X0 (i64.wrap (s1.1+1),(),()))))
 (R
 (T.cB
 [T.agg
 [pPQ ({ data:=#[] }),pPP 0,
 pPP 0,pPP 0],
 pPR false])))
 (0,(),()))
abbrev ATG:Sh:=[(true,aO),(false,Sy.str)]
abbrev ASY:Sh:=[(true,bN),(false,Sy.bool)]
def J8 (x:aL×iII):Option T:=fT ASY qT (ACA x.1 x.2)
def FP:List T->Option T:=gS ATG J8
def ZU {a0 a1}:FP [aH true aO a0,pPQ a1]=J8 (a0,a1):=a8 (s:=ATG) rfl (a0,a1) rfl
def BJP:nJ Tryz.prog 129 FP J8 (bR ATG) ACA:=eV (a1:=(true,aO)) (a2:=(false,Sy.str)) (Hs:=BMD) (k:=8) (bM _) aV aY (aQ rfl) ⟨_,_,Tryz.func129,rfl⟩ rfl λ_ _ _=>by kernel_rfl
def AU5:aT Tryz.prog 129 FP:=BJP λ_ _ r h _=>cL h
variable {m:aL}
def BFL {n:iII} (hm:D8 m):∃ v,qT v/\J8 (m,n)=some (Sh.enc ASY v):=cM (s:=ASY) (by
 unfold ACA;simp only[cI];have hl:(List.map bN.enc m.2).length<=2 ^ 40:=by rw[ae];exact hm.2.1
 refine xM (λs:Int×Unit×Unit=>s.1) qT 0 rfl trivial λQ up=>⟨λ_ _ _ _ _=>⟨⟨((⟨#[]⟩,0,0,0),false),trivial⟩,λ_ _=>rfl⟩,?_⟩
 rintro k ⟨_,_⟩ rfl hk _ hX;exact eE (by omega) λ_ _=>bW (λ_=>eE (by omega) λz _=>⟨⟨(z,true),trivial⟩,λ_ _=>rfl⟩) λ_=>hX _ (aZ _ (by omega) (by omega)) trivial)
def A6Y:FuncId->Hint:=bP 128 [(2,.inv [.val 6 false (.int .i64),.fix 1])] (λ_=>bH)
def GK (a0:aL) (a1:iII) (R:T->Prop):Prop :=
 eZ
 (bL.rows false
 [[D.p (pPQ ({ data:=#[] })),D.p (pPP 0),
 D.p (pPP 0),D.p (T.v (Value.slice none 0 0))]])
 (bL.rows false
 [[D.p (pPQ ({ data:=#[] })),D.p (pPP 0),
 D.p (pPP 0),D.p (T.v (Value.slice none 0 0))]])
 (a7 (Int×PUnit×PUnit)
 (λ(X0:Int×PUnit×PUnit->Prop) (s1:Int×PUnit×PUnit) =>
 aE (decide (s1.1<(↑(List.map bX.enc a0.1).length:Int)))
 (aU bX (List.map bX.enc a0.1) s1.1 λ(y2:dH) =>
 aE (decide (y2.1=a1))
 (aU bX (List.map bX.enc a0.1) s1.1 λ(y3:dH) =>
 bO
 (iD 1 (List.map (Sy.int IntKind.i64).enc y3.2.2.2)&&true &&
 decide ((List.map (Sy.int IntKind.i64).enc y3.2.2.2).length*8<=140737488355328) &&
 decide ((List.map (Sy.int IntKind.i64).enc y3.2.2.2).length<=140737488355328))
 (R (T.cB [aH true bX y3,pPR true])))
 (eZ
 (bL.rows false
 [[D.p (pPQ ({ data:=#[] })),
 D.p (pPP 0),
 D.p (pPP 0),
 D.p (T.v (Value.slice none 0 0))]])
 (bL.rows false
 [[D.p (pPQ ({ data:=#[] })),
 D.p (pPP 0),
 D.p (pPP 0),
 D.p (T.v (Value.slice none 0 0))]])
 (X0 (i64.wrap (s1.1+1),(),()))))
 (R
 (T.cB
 [T.agg
 [pPQ ({ data:=#[] }),pPP 0,
 pPP 0,T.sl false []],
 pPR false])))
 (0,(),()))
abbrev V8:Sh:=[(true,aO),(false,Sy.str)]
abbrev V0:Sh:=[(true,bX),(false,Sy.bool)]
def wZ (x:aL×iII):Option T:=fT V0 (λv:dH×Bool=>v.1.2.2.2.length<=2 ^ 40) (GK x.1 x.2)
def nS:List T->Option T:=gS V8 wZ
def AS {a0 a1}:nS [aH true aO a0,pPQ a1]=wZ (a0,a1):=a8 (s:=V8) rfl (a0,a1) rfl
def A2E:nJ Tryz.prog 128 nS wZ (bR V8) GK:=eV (a1:=(true,aO)) (a2:=(false,Sy.str)) (Hs:=A6Y) (k:=8) (bM _) aV aY (aQ rfl) ⟨_,_,Tryz.func128,rfl⟩ rfl λ_ _ _=>by kernel_rfl
def LQ:aT Tryz.prog 128 nS:=A2E λ_ _ r h _=>cL h
def XR {n:iII} (hm:D8 m):∃ v:dH×Bool,v.1.2.2.2.length<=2 ^ 40/\wZ (m,n)=some (Sh.enc V0 v):=cM (s:=V0) (Q:=λv:dH×Bool=>v.1.2.2.2.length<=2 ^ 40) (by
 unfold GK;simp only[cI];have hl:(List.map bX.enc m.1).length<=2 ^ 40:=by rw[ae];exact hm.1
 refine xM (λs:Int×Unit×Unit=>s.1) qT 0 rfl trivial λQ up=>⟨λ_ _ _ _ _=>⟨⟨((⟨#[]⟩,0,0,[]),false),Nat.zero_le _⟩,λ_ _=>rfl⟩,?_⟩
 rintro k ⟨_,_⟩ rfl hk _ hX;refine eE (by omega) λ_ _=>bW (λ_=>eE (by omega) λz hz=>r4 ?_ ⟨⟨(z,true),hm.2.2 z hz⟩,λ_ _=>rfl⟩) λ_=>hX _ (aZ _ (by omega) (by omega)) trivial;have:=hm.2.2 z hz;simp only[ac,ah,ae];exact ⟨⟨⟨pH (.int .i64) _,trivial⟩,by omega⟩,by omega⟩)
def BF9:Env:=Env.of [(128,.pure nS)]
def BG8:FuncId->Hint:=bP 273 [(3,.inv [.val 9 false (.int .i64)])] (λ_=>bH)
def AYJ:bB Tryz.prog BF9:=.cons LQ (.nil _)
def QB (a0:aL) (a1:iII) (a2:Int) (R:T->Prop):Prop :=
 aJ [(true,bX),(false,Sy.bool)]
 (nS [aH true aO a0,pPQ a1])
 λ(y0:dH×Bool) =>
 a7 (Int×PUnit)
 (λ(X1:Int×PUnit->Prop) (s2:Int×PUnit) =>
 aE (decide (s2.1<(↑(List.map (Sy.int IntKind.i64).enc y0.1.2.2.2).length:Int)))
 (aU (Sy.int IntKind.i64) (List.map (Sy.int IntKind.i64).enc y0.1.2.2.2)
 s2.1 λ(y3:Int) =>
 aE (decide (y3=a2)) (R (pPR true))
 (X1 (i64.wrap (s2.1+1),())))
 (R (pPR false)))
 (0,())
abbrev AFP:Sh:=[(true,aO),(false,Sy.str),(false,(Sy.int IntKind.i64))]
abbrev AV7:Sh:=[(false,Sy.bool)]
def B9 (x:aL×iII×Int):Option T:=fT AV7 qT (QB x.1 x.2.1 x.2.2)
def H3:List T->Option T:=gS AFP B9
def ARG {a0 a1 a2}:H3 [aH true aO a0,pPQ a1,pPP a2]=B9 (a0,a1,a2):=a8 (s:=AFP) rfl (a0,a1,a2) rfl
def BC0:Of3 Tryz.prog 273 H3 B9 (bR AFP) QB:=MQ (a1:=(true,aO)) (a2:=(false,Sy.str)) (a3:=(false,(Sy.int IntKind.i64))) (Hs:=BG8) (k:=8) AYJ aV aY (aQ rfl) ⟨_,_,Tryz.func273,rfl⟩ rfl λ_ _ _ _=>by kernel_rfl
def A9D:aT Tryz.prog 273 H3:=BC0 λ_ _ _ r h _=>cL h
def BKN {n:iII} {t:Int} (hm:D8 m):∃ v,qT v/\B9 (m,n,t)=some (Sh.enc AV7 v):=cM (by
 unfold QB;refine bS (AS ..) (XR hm) λv hv=>?_;refine qN (by rw[ae];omega) 0 rfl λQ up=>⟨λ_=>dR _ trivial,λk hk hX=>?_⟩
 exact eE (by omega) λ_ _=>bW (λ_=>dR _ trivial) λ_=>hX)
def AYV:FuncId->Hint:=bP 119 [(6,.inv [.val 3 false (.int .i64)])] (λ_=>bH)
def CL (a0:List Int) (R:T->Prop):Prop :=
 aE (decide ((↑(List.map (Sy.int IntKind.i64).enc a0).length:Int)=0))
 (R (pPP 3))
 (aE (decide (16<(↑(List.map (Sy.int IntKind.i64).enc a0).length:Int)))
 (R (pPP 4))
 (a7 (Int×PUnit)
 (λ(X0:Int×PUnit->Prop) (s1:Int×PUnit) =>
 aE (decide (s1.1<(↑(List.map (Sy.int IntKind.i64).enc a0).length:Int)))
 (aU (Sy.int IntKind.i64) (List.map (Sy.int IntKind.i64).enc a0) s1.1
 λ(y2:Int) =>
 aE (decide (1<=y2))
 (aE (!decide (y2<=120)) (R (pPP 9))
 (aE (decide (0<s1.1))
 (aU (Sy.int IntKind.i64) (List.map (Sy.int IntKind.i64).enc a0) s1.1
 λ(y3:Int) =>
 aU (Sy.int IntKind.i64) (List.map (Sy.int IntKind.i64).enc a0)
 (i64.wrap (s1.1-1)) λ(y4:Int) =>
 aE (decide (y3<=y4)) (R (pPP 11))
 (X0 (i64.wrap (s1.1+1),())))
 (X0 (i64.wrap (s1.1+1),()))))
 (R (pPP 9)))
 (R (pPP 0)))
 (0,())))
abbrev M9:Sh:=[(false,(Sy.int IntKind.i64).li)]
abbrev AAM:Sh:=[(false,Sy.int IntKind.i64)]
def sU (l:List Int):Option T:=fT AAM qT (CL l)
def vN:List T->Option T:=gS M9 sU
def ADG {a0}:vN [T.sl false (List.map (Sy.int IntKind.i64).enc a0)]=sU (a0):=a8 (s:=M9) rfl (a0) rfl
def AR9:lW Tryz.prog 119 vN sU (bR M9) CL:=eN (a1:=(false,(Sy.int IntKind.i64).li)) (Hs:=AYV) (k:=8) (bM _) aV aY (aQ rfl) ⟨_,_,Tryz.func119,rfl⟩ rfl λ_ _=>by kernel_rfl
def AP7:aT Tryz.prog 119 vN:=AR9 λ_ r h _=>cL h
def A3Z {l:List Int} (hl:l.length<=2 ^ 40):∃ v,qT v/\sU l=some (Sh.enc AAM v):=cM (by
 unfold CL;refine bW (λ_=>dR _ trivial) λ_=>bW (λ_=>dR _ trivial) λ_=>?_;refine qN (by rw[ae];omega) 0 rfl λQ up=>⟨λ_=>dR _ trivial,λk hk hX=>?_⟩
 have hl:(List.map (Sy.int IntKind.i64).enc l).length<=2 ^ 40:=by rw[ae];exact hl
 refine eE (by omega) λ_ _=>bW (λ_=>bW (λ_=>dR _ trivial) λ_=>bW (λh=>?_) λ_=>hX) λ_=>dR _ trivial;have h:=of_decide_eq_true h;exact eE (by omega) λ_ _=>eE (by rw[aZ _ (by omega) (by omega)];omega) λ_ _=>bW (λ_=>dR _ trivial) λ_=>hX)
def AXQ:Env:=Env.of [(51,.pure gY),(119,.pure vN)]
def AYW:FuncId->Hint:=bP 50 [(2,.inv [.val 3 false (.int .i64)])] (λ_=>bH)
def AG6:bB Tryz.prog AXQ:=.cons tO (.cons AP7 (.nil _))
def CM (a0:List dH) (R:T->Prop):Prop :=
 a7 (Int×PUnit)
 (λ(X0:Int×PUnit->Prop) (s1:Int×PUnit) =>
 aE (decide (s1.1<(↑(List.map bX.enc a0).length:Int)))
 (aU bX (List.map bX.enc a0) s1.1 λ(y2:dH) =>
 aJ [(false,Sy.bool)] (gY [pPQ y2.1]) λ(y3:Bool) =>
 aE (!y3) (R (pPP 6))
 (aU bX (List.map bX.enc a0) s1.1 λ(y4:dH) =>
 aE (decide (1000<=y4.2.1))
 (aE (!decide (y4.2.1<=20000)) (R (pPP 9))
 (aU bX (List.map bX.enc a0) s1.1 λ(y5:dH) =>
 aE (decide (100<=y5.2.2.1))
 (aE (!decide (y5.2.2.1<=1500)) (R (pPP 9))
 (aU bX (List.map bX.enc a0) s1.1 λ(y6:dH) =>
 aJ [(false,Sy.int IntKind.i64)]
 (vN
 [T.sl false (List.map (Sy.int IntKind.i64).enc y6.2.2.2)])
 λ(y7:Int) =>
 aE (!decide (y7=0)) (R (pPP y7))
 (aE (decide (0<s1.1))
 (aU bX (List.map bX.enc a0) s1.1
 λ(y8:dH) =>
 aU bX (List.map bX.enc a0)
 (i64.wrap (s1.1-1)) λ(y9:dH) =>
 aE (cK y8.1 y9.1||decide (y8.1=y9.1))
 (R (pPP 11))
 (X0 (i64.wrap (s1.1+1),())))
 (X0 (i64.wrap (s1.1+1),())))))
 (R (pPP 9))))
 (R (pPP 9))))
 (R (pPP 0)))
 (0,())
abbrev NA:Sh:=[(false,bX.li)]
abbrev AAN:Sh:=[(false,Sy.int IntKind.i64)]
def sV (l:List dH):Option T:=fT AAN qT (CM l)
def vO:List T->Option T:=gS NA sV
def ADH {a0}:vO [T.sl false (List.map bX.enc a0)]=sV (a0):=a8 (s:=NA) rfl (a0) rfl
def ASA:lW Tryz.prog 50 vO sV (bR NA) CM:=eN (a1:=(false,bX.li)) (Hs:=AYW) (k:=8) AG6 aV aY (aQ rfl) ⟨_,_,Tryz.func50,rfl⟩ rfl λ_ _=>by kernel_rfl
def AP8:aT Tryz.prog 50 vO:=ASA λ_ r h _=>cL h
def A30 {l:List dH} (hl:l.length<=2 ^ 40) (hg:∀ g∈l,g.2.2.2.length<=2 ^ 40):∃ v,qT v/\sV l=some (Sh.enc AAN v):=cM (by
 unfold CM;refine qN (by rw[ae];omega) 0 rfl λQ up=>⟨λ_=>dR _ trivial,λk hk hX=>?_⟩
 have hl:(List.map bX.enc l).length<=2 ^ 40:=by rw[ae];exact hl
 repeat' first
  | exact hX
  | exact dR _ trivial
  | refine bS (Q:=qT) o6 ⟨_,trivial,rfl⟩ λ_ _=>?_
  | refine bS (ADG ..) (A3Z (hg _ (by assumption))) λ_ _=>?_
  | refine eE (by omega) λ_ _=>?_
  | refine eE (by rw[aZ _ (by omega) (by omega)];simp_all;omega) λ_ _=>?_
  | refine bW (λ_=>?_) λ_=>?_)
def BFZ:Env:=Env.of [(51,.pure gY),(50,.pure vO)]
def BG2:FuncId->Hint:=bP 20 [(7,.inv [.val 4 false (.int .i64)])] (λ_=>bH)
def AX8:bB Tryz.prog BFZ:=.cons tO (.cons AP8 (.nil _))
def P3 (a0:aL) (R:T->Prop):Prop :=
 aE (decide (16<(↑(List.map bX.enc a0.1).length:Int)))
 (R (pPP 4))
 (aE (decide (32<(↑(List.map bN.enc a0.2).length:Int)))
 (R (pPP 4))
 (aJ [(false,Sy.int IntKind.i64)]
 (vO [T.sl false (List.map bX.enc a0.1)]) λ(y0:Int) =>
 aE (!decide (y0=0)) (R (pPP y0))
 (a7 (Int×PUnit)
 (λ(X1:Int×PUnit->Prop) (s2:Int×PUnit) =>
 aE (decide (s2.1<(↑(List.map bN.enc a0.2).length:Int)))
 (aU bN (List.map bN.enc a0.2) s2.1 λ(y3:cH) =>
 aJ [(false,Sy.bool)] (gY [pPQ y3.1])
 λ(y4:Bool) =>
 aE (!y4) (R (pPP 6))
 (aE (decide (1<=y3.2.1))
 (aE (!decide (y3.2.1<=1000000)) (R (pPP 9))
 (aE (decide (1<=y3.2.2.1))
 (aE (!decide (y3.2.2.1<=2000)) (R (pPP 9))
 (aE (decide (100<=y3.2.2.2))
 (aE (!decide (y3.2.2.2<=32768))
 (R (pPP 9))
 (aE (decide (0<s2.1))
 (aU bN (List.map bN.enc a0.2)
 (i64.wrap (s2.1-1)) λ(y5:cH) =>
 aE (cK y3.1 y5.1||decide (y3.1=y5.1))
 (R (pPP 11))
 (X1 (i64.wrap (s2.1+1),())))
 (X1 (i64.wrap (s2.1+1),()))))
 (R (pPP 9))))
 (R (pPP 9))))
 (R (pPP 9))))
 (R (pPP 0)))
 (0,()))))
abbrev AFA:Sh:=[(true,aO)]
abbrev AV1:Sh:=[(false,Sy.int IntKind.i64)]
def B2 (m:aL):Option T:=fT AV1 qT (P3 m)
def HT:List T->Option T:=gS AFA B2
def AQ4 {a0}:HT [aH true aO a0]=B2 (a0):=a8 (s:=AFA) rfl (a0) rfl
def BCK:lW Tryz.prog 20 HT B2 (bR AFA) P3:=eN (a1:=(true,aO)) (Hs:=BG2) (k:=8) AX8 aV aY (aQ rfl) ⟨_,_,Tryz.func20,rfl⟩ rfl λ_ _=>by kernel_rfl
def A82:aT Tryz.prog 20 HT:=BCK λ_ r h _=>cL h
def BKK (hm:D8 m):∃ v,qT v/\B2 m=some (Sh.enc AV1 v):=cM (by
 unfold P3;refine bW (λ_=>dR _ trivial) λ_=>bW (λ_=>dR _ trivial) λ_=>bS (ADH ..) (A30 hm.1 hm.2.2) λ_ _=>bW (λ_=>dR _ trivial) λ_=>?_;have hl:(List.map bN.enc m.2).length<=2 ^ 40:=by rw[ae];exact hm.2.1
 refine qN (by omega) 0 rfl λQ up=>⟨λ_=>dR _ trivial,λk hk hX=>?_⟩
 repeat' first
  | exact hX
  | exact dR _ trivial
  | refine bS (Q:=qT) o6 ⟨_,trivial,rfl⟩ λ_ _=>?_
  | refine eE (by omega) λ_ _=>?_
  | refine eE (by rw[aZ _ (by omega) (by omega)];simp_all;omega) λ_ _=>?_
  | refine bW (λ_=>?_) λ_=>?_)
def A4H:Env:=Env.of [(128,.pure nS),(129,.pure FP),(273,.pure H3)]
def AN8:bB Tryz.prog A4H:=.cons LQ (.cons AU5 (.cons A9D (.nil _)))
def GL (a0:bG) (a1:aL) (R:T->Prop):Prop :=
 aE (decide (a0.2.2.1=4)) (R (pPR true))
 (aJ [(true,bX),(false,Sy.bool)]
 (nS [aH true aO a1,pPQ a0.2.2.2.2.1])
 λ(y0:dH×Bool) =>
 aE (!y0.2) (R (pPR false))
 (aE (decide (y0.1.2.1<1000)) (R (pPR false))
 (aE (decide (20000<y0.1.2.1)) (R (pPR false))
 (aE (decide (a0.2.2.1=1))
 (aE (decide (1<=a0.2.2.2.2.2.1))
 (aE (decide (a0.2.2.2.2.2.1<=120))
 (aJ [(false,Sy.bool)]
 (H3
 [aH true aO a1,pPQ a0.2.2.2.2.1,
 pPP a0.2.2.2.2.2.1])
 λ(y1:Bool)=>R (pPR y1))
 (R (pPR false)))
 (R (pPR false)))
 (aJ [(true,bN),(false,Sy.bool)]
 (FP
 [aH true aO a1,pPQ a0.2.2.2.2.2.2.2.1])
 λ(y2:cH×Bool) =>
 aE y2.2
 (aE (decide (1<=y2.1.2.1))
 (aE (decide (y2.1.2.1<=1000000))
 (aE (decide (1<=y2.1.2.2.1))
 (R (pPR (decide (y2.1.2.2.1<=2000))))
 (R (pPR false)))
 (R (pPR false)))
 (R (pPR false)))
 (R (pPR false)))))))
abbrev WB:Sh:=[(true,aS),(true,aO)]
abbrev AMH:Sh:=[(false,Sy.bool)]
def w4 (x:bG×aL):Option T:=fT AMH qT (GL x.1 x.2)
def AX:List T->Option T:=gS WB w4
def AJ2 {a0 a1}:AX [aH true aS a0,aH true aO a1]=w4 (a0,a1):=a8 (s:=WB) rfl (a0,a1) rfl
def A2H:nJ Tryz.prog 124 AX w4 (bR WB) GL:=eV (a1:=(true,aS)) (a2:=(true,aO)) (Hs:=c0) (k:=8) AN8 aV aY (aQ rfl) ⟨_,_,Tryz.func124,rfl⟩ rfl λ_ _ _=>by kernel_rfl
def A0I:aT Tryz.prog 124 AX:=A2H λ_ _ r h _=>cL h
def BFJ {p:bG} (hm:D8 m):∃ v,qT v/\w4 (p,m)=some (Sh.enc AMH v):=cM (by
 unfold GL
 repeat' first
  | exact dR _ trivial
  | refine bS (AS ..) (XR hm) λ_ _=>?_
  | refine bS (ZU ..) (BFL hm) λ_ _=>?_
  | refine bS (ARG ..) (BKN hm) λ_ _=>?_
  | refine bW (λ_=>?_) λ_=>?_)
def BF4:Env:=Env.of [(58,.pure gG),(123,.pure BE),(124,.pure AX),(125,.pure x7),(126,.pure UM),(127,.pure sG)]
def AYE:bB Tryz.prog BF4:=.cons CT (.cons A0Y (.cons A0I (.cons AI9 (.cons BH5 (.cons A00 (.nil _))))))
def P7 (a0:bG) (a1:aL) (R:T->Prop):Prop :=
 aJ [(false,Sy.bool)] (gG [pPQ a0.1]) λ(y0:Bool) =>
 aE (!y0) (R (pPP 6))
 (aJ [(false,Sy.bool)] (gG [pPQ a0.2.2.2.1])
 λ(y1:Bool) =>
 aE (!y1) (R (pPP 6))
 (aE (decide (a0.2.1<1)) (R (pPP 9))
 (aE (decide (1000<a0.2.1)) (R (pPP 9))
 (aE (decide (a0.2.2.1<1)) (R (pPP 10))
 (aE (decide (4<a0.2.2.1)) (R (pPP 10))
 (aJ [(false,Sy.bool)] (BE [aH true aS a0])
 λ(y2:Bool) =>
 aE y2 (R (pPP 2))
 (aJ [(false,Sy.bool)]
 (AX [aH true aS a0,aH true aO a1])
 λ(y3:Bool) =>
 aE (!y3) (R (pPP 23))
 (aE (decide (a0.2.2.1=1))
 (aJ [(false,Sy.int IntKind.i64)]
 (x7 [aH true dG a0.2.2.2.2.2.2.1])
 λ(y4:Int) =>
 aE (!decide (y4=0)) (R (pPP y4))
 (aJ [(false,Sy.bool)]
 (sG
 [aH true eO a0.2.2.2.2.2.2.2.2.2.2.2])
 λ(y5:Bool) =>
 aE (!y5) (R (pPP 9))
 (R (pPP 0))))
 (aE (decide (a0.2.2.1=4))
 (aE (decide (a0.2.2.2.2.2.2.2.2.2.1<1))
 (R (pPP 9))
 (aE (decide (1099511627776<a0.2.2.2.2.2.2.2.2.2.1))
 (R (pPP 9))
 (aJ [(false,Sy.bool)]
 (UM
 [aH true YV a0.2.2.2.2.2.2.2.2.2.2.1])
 λ(y6:Bool) =>
 aE y6 (R (pPP 9))
 (aJ [(false,Sy.bool)]
 (sG
 [aH true eO a0.2.2.2.2.2.2.2.2.2.2.2])
 λ(y7:Bool) =>
 aE (!y7) (R (pPP 9))
 (R (pPP 0))))))
 (aE (decide (a0.2.2.2.2.2.2.2.2.1<1))
 (R (pPP 9))
 (aE (decide (32768<a0.2.2.2.2.2.2.2.2.1))
 (R (pPP 9))
 (aJ [(false,Sy.bool)]
 (sG
 [aH true eO a0.2.2.2.2.2.2.2.2.2.2.2])
 λ(y8:Bool) =>
 aE (!y8) (R (pPP 9))
 (R (pPP 0))))))))))))))
abbrev AFI:Sh:=[(true,aS),(true,aO)]
abbrev AV5:Sh:=[(false,Sy.int IntKind.i64)]
def B6 (x:bG×aL):Option T:=fT AV5 qT (P7 x.1 x.2)
def xX:List T->Option T:=gS AFI B6
def US {a0 a1}:xX [aH true aS a0,aH true aO a1]=B6 (a0,a1):=a8 (s:=AFI) rfl (a0,a1) rfl
def BCT:nJ Tryz.prog 61 xX B6 (bR AFI) P7:=eV (a1:=(true,aS)) (a2:=(true,aO)) (Hs:=c0) (k:=8) AYE aV aY (aQ rfl) ⟨_,_,Tryz.func61,rfl⟩ rfl λ_ _ _=>by kernel_rfl
def AI8:aT Tryz.prog 61 xX:=BCT λ_ _ r h _=>cL h
def AXL (p:bG):Prop:=p.1.size<=2 ^ 40/\p.2.2.2.1.size<=2 ^ 40/\AUD p.2.2.2.2.2.2.1
def ALA {s:iII} (h:s.size<=2 ^ 40):∃ v,qT v/\nE s=some (Sh.enc D4 v):=⟨kH s,trivial,by unfold nE;rw[show decide (s.size<=1099511627776)=true from ai h]⟩
def AWW {p:bG} (hp:AXL p) (hm:D8 m):∃ v,qT v/\B6 (p,m)=some (Sh.enc AV5 v):=cM (by
 unfold P7
 repeat' first
  | exact dR _ trivial
  | refine bS (AU ..) (ALA hp.1) λ_ _=>?_
  | refine bS (AU ..) (ALA hp.2.1) λ_ _=>?_
  | refine bS (AK3 ..) BFM λ_ _=>?_
  | refine bS (AJ2 ..) (BFJ hm) λ_ _=>?_
  | refine bS (UU ..) (AWX hp.2.2) λ_ _=>?_
  | refine bS (A1C ..) BQJ λ_ _=>?_
  | refine bS (AK6 ..) BFN λ_ _=>?_
  | refine bW (λ_=>?_) λ_=>?_)
def BFY:Env:=Env.of [(61,.pure xX),(128,.pure nS),(129,.pure FP),(130,.pure HL)]
def AX7:bB Tryz.prog BFY:=.cons AI8 (.cons LQ (.cons AU5 (.cons A8U (.nil _))))
def P2 (a0:bG) (a1:aL) (R:T->Prop):Prop :=
 aJ [(false,Sy.int IntKind.i64)]
 (xX [aH true aS a0,aH true aO a1]) λ(y0:Int) =>
 aE (!decide (y0=0))
 (R (T.cB [pPP 0,pPP y0]))
 (aJ [(true,bX),(false,Sy.bool)]
 (nS [aH true aO a1,pPQ a0.2.2.2.2.1])
 λ(y1:dH×Bool) =>
 aJ [(true,bN),(false,Sy.bool)]
 (FP
 [aH true aO a1,pPQ a0.2.2.2.2.2.2.2.1])
 λ(y2:cH×Bool) =>
 aE (decide (a0.2.2.1=1))
 (aJ [(false,Sy.int IntKind.i64)]
 (HL [aH true dG a0.2.2.2.2.2.2.1]) λ(y3:Int) =>
 bO true
 (R
 (T.cB
 [pPP (i64.wrap
 ((i64.wrap
 (i64.wrap (y3*a0.2.2.2.2.2.1)*y1.1.2.1)).tdiv
 2000000)),
 pPP 0])))
 (aE (decide (a0.2.2.1=4))
 (R
 (T.cB
 [pPP a0.2.2.2.2.2.2.2.2.2.1,
 pPP 0]))
 (bO true
 (R
 (T.cB
 [pPP (i64.wrap
 ((i64.wrap
 (i64.wrap (y2.1.2.1*a0.2.2.2.2.2.2.2.2.1) *
 y1.1.2.1)).tdiv
 1000000)),
 pPP 0])))))
abbrev AE9:Sh:=[(true,aS),(true,aO)]
abbrev AEU:Sh:=[(false,Sy.int IntKind.i64),(false,Sy.int IntKind.i64)]
def B1 (x:bG×aL):Option T:=fT AEU qT (P2 x.1 x.2)
def HS:List T->Option T:=gS AE9 B1
def AQ3 {a0 a1}:HS [aH true aS a0,aH true aO a1]=B1 (a0,a1):=a8 (s:=AE9) rfl (a0,a1) rfl
def BCJ:nJ Tryz.prog 62 HS B1 (bR AE9) P2:=eV (a1:=(true,aS)) (a2:=(true,aO)) (Hs:=c0) (k:=8) AX7 aV aY (aQ rfl) ⟨_,_,Tryz.func62,rfl⟩ rfl λ_ _ _=>by kernel_rfl
def A81:aT Tryz.prog 62 HS:=BCJ λ_ _ r h _=>cL h
def BKJ {p:bG} (hp:AXL p) (hm:D8 m):∃ v,qT v/\B1 (p,m)=some (Sh.enc AEU v):=cM (s:=AEU) (by
 unfold P2
 repeat' first
  | exact ⟨⟨(_,_),trivial⟩,λ_ _=>rfl⟩
  | refine r4 rfl ?_
  | refine bS (US ..) (AWW hp hm) λ_ _=>?_
  | refine bS (AS ..) (XR hm) λ_ _=>?_
  | refine bS (ZU ..) (BFL hm) λ_ _=>?_
  | refine bS (AQY ..) (BKI hp.2.2) λ_ _=>?_
  | refine bW (λ_=>?_) λ_=>?_)
end Go.Pv
namespace Go.Pv
open Go Go.Proofs IntKind
def AXP:Env:=Env.of [(61,.pure xX),(57,.pure fQ),(62,.pure HS)]
def AYU:FuncId->Hint:=bP 23 [(2,.inv [.val 5 false (.int .i64)]),(12,.inv [.val 9 false (.int .i64),.val 10 false (.int .i64)])] (λ_=>bH)
def AG5:bB Tryz.prog AXP:=.cons AI8 (.cons rI (.cons A81 (.nil _)))
def CK (a0:aG) (a1:aL) (R:T->Prop):Prop :=
 a7 (Int×PUnit)
 (λ(X0:Int×PUnit->Prop) (s1:Int×PUnit) =>
 aE (decide (s1.1<(↑(List.map aS.enc a0.2.2.1).length:Int)))
 (aU aS (List.map aS.enc a0.2.2.1) s1.1 λ(y2:bG) =>
 aJ [(false,Sy.int IntKind.i64)]
 (xX [aH true aS y2,aH true aO a1]) λ(y3:Int) =>
 aE (!decide (y3=0)) (R (pPP y3))
 (aU aS (List.map aS.enc a0.2.2.1) s1.1 λ(y4:bG) =>
 aJ [(true,bC),(false,Sy.bool)]
 (fQ [aH true aF a0,pPQ y4.2.2.2.1])
 λ(y5:eH×Bool) =>
 aE (!y5.2) (R (pPP 8))
 (X0 (i64.wrap (s1.1+1),()))))
 (a7 (Int×Int×PUnit)
 (λ(X6:Int×Int×PUnit->Prop) (s7:Int×Int×PUnit) =>
 aE (decide (s7.2.1<(↑(List.map aS.enc a0.2.2.1).length:Int)))
 (aU aS (List.map aS.enc a0.2.2.1) s7.2.1 λ(y8:bG) =>
 aJ [(false,Sy.int IntKind.i64),(false,Sy.int IntKind.i64)]
 (HS [aH true aS y8,aH true aO a1])
 λ(y9:aN) =>
 X6 (i64.wrap (s7.1+y9.1),i64.wrap (s7.2.1+1),()))
 (aE (decide (1099511627776<s7.1)) (R (pPP 13))
 (R (pPP 0))))
 (0,0,())))
 (0,())
abbrev M8:Sh:=[(true,aF),(true,aO)]
abbrev MX:Sh:=[(false,Sy.int IntKind.i64)]
def CO (d:aG):Prop:=∀ p∈d.2.2.1,(cG d (fV p)).isSome=true
def sS (x:aG×aL):Option T:=fT MX (λv:Int=>v=0->CO x.1) (CK x.1 x.2)
def vM:List T->Option T:=gS M8 sS
def ADF {a0 a1}:vM [aH true aF a0,aH true aO a1]=sS (a0,a1):=a8 (s:=M8) rfl (a0,a1) rfl
def AR8:nJ Tryz.prog 23 vM sS (bR M8) CK:=eV (a1:=(true,aF)) (a2:=(true,aO)) (Hs:=AYU) (k:=8) AG5 aV aY (aQ rfl) ⟨_,_,Tryz.func23,rfl⟩ rfl λ_ _ _=>by kernel_rfl
def AP6:aT Tryz.prog 23 vM:=AR8 λ_ _ r h _=>cL h
variable {m:aL}
def A3Y {d:aG} (hl:d.2.2.1.length<=2 ^ 40) (hp:∀ p∈d.2.2.1,AXL p) (hm:D8 m):∃ v:Int,(v=0->CO d)/\sS (d,m)=some (Sh.enc MX v):=cM (s:=MX) (Q:=λv:Int=>v=0->CO d) (by
 unfold CK;dsimp only;have hl:(List.map aS.enc d.2.2.1).length<=2 ^ 40:=by rw[ae];exact hl
 refine xM (λs:Int×Unit=>s.1) (λk=>∀ i (hi:i<d.2.2.1.length),i<k->(cG d (fV d.2.2.1[i])).isSome=true) 0 rfl (λi hi h=>by omega) λQ up=>⟨λk s _ hk hJ=>?_,?_⟩
 ·have ha:CO d:=λp hp=>by
   obtain ⟨i,hi,rfl⟩:=List.mem_iff_getElem.1 hp;exact hJ i hi (by rw[ae] at hk;omega)
  refine xM (λs:Int×Int×Unit=>s.2.1) qT 0 rfl trivial λQ up=>⟨λ_ _ _ _ _=>bW (λ_=>dR _ λ_=>ha) λ_=>dR _ λ_=>ha,?_⟩
  rintro k ⟨a,_,_⟩ rfl hk _ hX;dsimp only;exact eE (by omega) λp h=>bS (AQ3 ..) (BKJ (hp p h) hm) λ_ _=>hX _ (aZ _ (by omega) (by omega)) trivial
 ·rintro k ⟨_,_⟩ rfl hk hJ hX;dsimp only;have hk':k<d.2.2.1.length:=by simpa using hk
  refine CS hk' (bS (US ..) (AWW (hp _ (ak hk')) hm) λv _=>bW (λh=>dR v λh0=>by simp[h0] at h) λ_=>CS hk' ?_);refine bS (Q:=λv=>v=found dI (cG d (fV d.2.2.1[k]))) (pO ..) ⟨_,rfl,rfl⟩ λv hv=>bW (λ_=>dR _ λh=>by cases h) λh=>hX _ (aZ _ (by omega) (by omega)) λi hi hik=>?_;rcases Nat.lt_or_ge i k with h'|h'
  ·exact hJ i hi h'
  ·obtain rfl:i=k:=by omega
   rw[<-HI (no:=dI),<-hv];simpa using h)
def BLZ:Env:=Env.of [(20,.pure HT),(21,.pure AR),(22,.pure vU),(23,.pure vM),(24,.pure wD),(25,.pure vX),(26,.pure vT)]
def A41:bB Tryz.prog BLZ:=.cons A82 (.cons A0H (.cons AQE (.cons AP6 (.cons AQN (.cons AQH (.cons AQD (.nil _)))))))
def ABR (a0:aG) (a1:aL) (R:T->Prop):Prop :=
 aJ [(false,Sy.int IntKind.i64)] (HT [aH true aO a1])
 λ(y0:Int) =>
 aE (!decide (y0=0)) (R (pPP y0))
 (aJ [(false,Sy.int IntKind.i64)] (AR [aH true aF a0])
 λ(y1:Int) =>
 aE (!decide (y1=0)) (R (pPP y1))
 (aJ [(false,Sy.int IntKind.i64)] (vU [aH true aF a0])
 λ(y2:Int) =>
 aE (!decide (y2=0)) (R (pPP y2))
 (aJ [(false,Sy.int IntKind.i64)]
 (vM [aH true aF a0,aH true aO a1])
 λ(y3:Int) =>
 aE (!decide (y3=0)) (R (pPP y3))
 (aJ [(false,Sy.int IntKind.i64)] (wD [aH true aF a0])
 λ(y4:Int) =>
 aE (!decide (y4=0)) (R (pPP y4))
 (aJ [(false,Sy.int IntKind.i64)]
 (vX [aH true aF a0]) λ(y5:Int) =>
 aE (!decide (y5=0)) (R (pPP y5))
 (aJ [(false,Sy.int IntKind.i64)]
 (vT [aH true aF a0]) λ(y6:Int) =>
 R (pPP y6)))))))
abbrev AS3:Sh:=[(true,aF),(true,aO)]
abbrev AES:Sh:=[(false,Sy.int IntKind.i64)]
structure GR (d:aG):Prop where
 form:fW d=0
 nodes:fD d=0
 parts:CO d
 AWF:bT (kW d) d.2.2.2.1=0
 AAJ:eY d=0
 ALO:bT (kS d) d.2.2.2.2.2=0
def JU (x:aG×aL):Option T:=fT AES (λv:Int=>v=0->GR x.1) (ABR x.1 x.2)
def UH:List T->Option T:=gS AS3 JU
def A08 {a0 a1}:UH [aH true aF a0,aH true aO a1]=JU (a0,a1):=a8 (s:=AS3) rfl (a0,a1) rfl
def BJA:nJ Tryz.prog 6 UH JU (bR AS3) ABR:=eV (a1:=(true,aF)) (a2:=(true,aO)) (Hs:=c0) (k:=8) A41 aV aY (aQ rfl) ⟨_,_,Tryz.func6,rfl⟩ rfl λ_ _ _=>by kernel_rfl
def BHZ:aT Tryz.prog 6 UH:=BJA λ_ _ r h _=>cL h
def BQI {d:aG} (hu:okU d=true) (hp:∀ p∈d.2.2.1,AXL p) (hm:D8 m):∃ v:Int,(v=0->GR d)/\JU (d,m)=some (Sh.enc AES v):=cM (s:=AES) (Q:=λv:Int=>v=0->GR d) (by
 unfold ABR;have no:∀ {v:Int},(!decide (v=0))=true->v=0->GR d:=λh h0=>by simp[h0] at h
 have yes:∀ {v:Int},(!decide (v=0))=false->v=0:=λh=>by simpa using h
 refine bS (AQ4 ..) (BKK hm) λv _=>bW (λh=>dR v (no h)) λ_=>?_;refine bS (Q:=λv=>v=if isName d.1=false then 6 else fW d) (AJX ..) ⟨_,rfl,AAF _ (BDB hu)⟩ λv hv=>bW (λh=>dR v (no h)) λh=>?_;have h1:fW d=0:=by
  have h:=yes h;rw[hv] at h;split at h
  ·cases h
  ·exact h
 refine bS (Q:=λv=>v=fD d) (ADM ..) ⟨_,rfl,JI _ hu⟩ λv hv=>bW (λh=>dR v (no h)) λh=>?_;have h2:fD d=0:=hv ▸ yes h;refine bS (ADF ..) (A3Y (show d.2.2.1.length<=2 ^ 40 by have:=(C6 hu).p;omega) hp hm) λv hv=>bW (λh=>dR v (no h)) λh=>?_;have h3:=hv (yes h);refine bS (Q:=λv=>v=bT (kW d) d.2.2.2.1) (ADY ..) ⟨_,rfl,JI _ hu⟩ λv hv=>bW (λh=>dR v (no h)) λh=>?_;have h4:bT (kW d) d.2.2.2.1=0:=hv ▸ yes h;have hV:okV d=true:=by
  simp only[okV,ac,ah,List.all_eq_true];exact ⟨hu,h1,h2,h3⟩
 refine bS (Q:=λv=>v=eY d) (ADO ..) ⟨_,rfl,by unfold oY;rw[hV];rfl⟩ λv hv=>bW (λh=>dR v (no h)) λh=>?_;have h5:eY d=0:=hv ▸ yes h;exact bS (Q:=λv=>v=bT (kS d) d.2.2.2.2.2) (ADL ..) ⟨_,rfl,JI _ hu⟩ λv hv=>dR v λh=>⟨h1,h2,h3,h4,h5,hv ▸ h⟩)
end Go.Pv
namespace Go.Pv
open Go Go.Proofs IntKind
structure Val (d:aG):Prop where
 order:jX d=true
 nodes:∀ n∈d.2.1,mA d n=0
 up:PV d=false
 parts:CO d
 AWF:∀ s∈d.2.2.2.1,kW d s=0
 AAJ:(iC d d.2.2.2.2.1 0 [] []).1=0
 ALO:∀ n∈d.2.2.2.2.2,kS d n=0
variable {m:aL}
def A3I {d:aG} {p:bG} (h:jM d m p=0):(cG d (fV p)).isSome=true:=by
 unfold jM at h;split at h
 ·split at h
  ·cases h
  ·rename_i g;cases hn:cG d (fV p) with
   | none=>rw[hn] at g;exact absurd rfl g
   | some _=>rfl
 ·rename_i g;exact absurd h g
def AWC {d:aG} (hc:oM d m=0):GR d/\BN m=0/\isName d.1=true/\(∀ p∈d.2.2.1,nD p m=0)/\mS m d.2.2.1 0=0:=by
 unfold oM at hc;split at hc
 ·exact absurd hc ‹_›
 rename_i h1;split at hc
 ·cases hc
 rename_i h2;split at hc
 ·exact absurd hc ‹_›
 rename_i h3;split at hc
 ·exact absurd hc ‹_›
 rename_i h4;split at hc
 ·exact absurd hc ‹_›
 rename_i h5;split at hc
 ·exact absurd hc ‹_›
 rename_i h6;split at hc
 ·exact absurd hc ‹_›
 rename_i h7;have h5:j8 d m=0:=Classical.byContradiction h5;unfold j8 at h5;split at h5
 ·rename_i g;have g:=kM g;refine ⟨⟨Classical.byContradiction h3,Classical.byContradiction h4,λp hp=>A3I (g p hp),Classical.byContradiction h6,Classical.byContradiction h7,hc⟩,Classical.byContradiction h1,by simpa using h2,λp hp=>?_,h5⟩;have:=g p hp;unfold jM at this;split at this
  ·assumption
  ·exact absurd this ‹_›
 ·exact absurd h5 ‹_›
def BFF {d:aG} (hc:GR d):Val d:=by
 have n1:bT (mA d) d.2.1=0/\PV d=false:=by
  have h4:=hc.nodes;unfold fD at h4;split at h4
  ·rename_i g;refine ⟨g,?_⟩;split at h4
   ·cases h4
   ·rename_i g2;simpa using g2
  ·rename_i g;exact absurd h4 g
 have k1:(iC d d.2.2.2.2.1 0 [] []).1=0:=by
  have h7:=hc.AAJ;unfold eY at h7;split at h7
  ·assumption
  ·exact h7
 have ho:jX d=true:=by
  have h:=hc.form;unfold fW at h;split at h
  ·cases h
  split at h
  ·cases h
  ·rename_i g;simpa using g
 exact ⟨ho,kM n1.1,n1.2,hc.parts,kM hc.AWF,k1,kM hc.ALO⟩
def BE9 {m:aL}:∀ {l:List bG} {s s':Int},(∀ p∈l,nD p m=0)->0<=s'->s'<=s->s<=1099511627776->mS m l s=0->mS m l s'=0
 | [],_,_,_,_,_,_,_=>rfl
 | p::l,s,s',h,h0,h1,h2,hs=>by
  have b:=AEE (h p am);rw[mS,aZ _ (by omega) (by omega)] at hs ⊢;split at hs
  ·cases hs
  rw[if_neg (by omega)];exact BE9 (λq hq=>h q (List.mem_cons_of_mem _ hq)) (by omega) (by omega) (by omega) hs
def AWL {m:aL} {x:bG}:∀ {l:List bG} {s:Int},(∀ p∈iF eA l x,nD p m=0)->0<=s->s<=1099511627776->mS m (iF eA l x) s=0->mS m l s=0
 | [],_,_,_,_,_=>rfl
 | z::l,s,h,h0,h1,hs=>by
  cases hz:eA z x with
  | true =>
   rw[BBB hz] at h hs;have b:=AEE (h x am);rw[mS,aZ _ (by omega) (by omega)] at hs;split at hs
   ·cases hs
   exact BE9 (λq hq=>h q (List.mem_cons_of_mem _ hq)) h0 (by omega) (by omega) hs
  | false =>
   rw[BA9 hz] at h hs;have b:=AEE (h z am);rw[mS,aZ _ (by omega) (by omega)] at hs ⊢;split at hs
   ·cases hs
   rw[if_neg (by assumption)];exact AWL (λq hq=>h q (List.mem_cons_of_mem _ hq)) (by omega) (by omega) hs
def AEH {d:aG} {n:eH} (h:mA d n=0):kH n.1=true/\((n.2.1=1/\n.2.2=⟨#[]⟩)\/(¬ n.2.1=1/\(cG d n.2.2).isSome=true)):=by
 unfold mA at h;split at h
 ·cases h
 rename_i h1;split at h
 ·cases h
 rename_i h2;split at h
 ·cases h
 rename_i h3;split at h
 ·cases h
 rename_i h4;refine ⟨by simpa using h1,?_⟩;by_cases hk:n.2.1=1
 ·exact .inl ⟨hk,Classical.byContradiction λg=>h3 ⟨hk,g⟩⟩
 ·have hk2:n.2.1=2:=Classical.byContradiction λg=>h2 ⟨hk,g⟩;refine .inr ⟨hk,?_⟩;cases hn:cG d n.2.2 with
  | none=>exact absurd ⟨hk2,by rw[hn];rfl⟩ h4
  | some _=>rfl
def ATI {d:aG} {s:gE} (h:kW d s=0):(partOf d s.2.1).isSome=true/\(partOf d s.2.2.1).isSome=true:=by
 unfold kW at h;split at h
 ·cases h
 split at h
 ·cases h
 split at h
 ·cases h
 split at h
 ·cases h
 split at h
 ·cases h
 rename_i h5;simp only[not_or] at h5;refine ⟨?_,?_⟩
 ·cases h:partOf d s.2.1 with
  | none=>rw[h] at h5;exact absurd rfl h5.1
  | some _=>rfl
 ·cases h:partOf d s.2.2.1 with
  | none=>rw[h] at h5;exact absurd rfl h5.2
  | some _=>rfl
def S6 {d:aG} {id:iII} (h:lS d id=true):(cG d id).isSome=true:=by
 unfold lS at h;cases hn:cG d id with
 | none=>rw[hn] at h;cases h
 | some _=>rfl
def Z6 {d:aG} {n:cP} (h:kS d n=0):lS d n.2.1=true/\(n.1=3->(eX d n.2.2).isSome=true)/\(¬ n.1=3->n.2.2=⟨#[]⟩\/lS d n.2.2=true):=by
 unfold kS at h;split at h
 ·cases h
 rename_i h1;split at h
 ·cases h
 split at h
 ·cases h
 rename_i h3;split at h
 ·cases h
 rename_i h4;rw[not_or,not_or] at h4;refine ⟨by simpa using h3,λhk=>?_,λhk=>?_⟩
 ·cases hn:eX d n.2.2 with
  | none=>exact absurd ⟨hk,by rw[hn];rfl⟩ h4.2.2
  | some _=>rfl
 ·cases hb:lS d n.2.2 with
  | true=>exact .inr rfl
  | false =>
   have:n.1=1\/n.1=2:=by omega
   rcases this with g|g
   ·exact .inl (Classical.byContradiction λe=>h4.1 ⟨g,e,hb⟩)
   ·exact absurd ⟨g,hb⟩ h4.2.1
def inst_all {d:aG} {b:iII}:∀ {l S:List iII},(instE d b l S).1=0->∀ x∈l,(partOf d x).isSome=true
 | [],_,_,x,hx=>by cases hx
 | id::l,S,h,x,hx=>by
  unfold instE at h;cases hp:partOf d id with
  | none=>rw[hp] at h;cases h
  | some p =>
   rw[hp] at h;dsimp only at h;split at h
   ·cases h
   split at h
   ·split at h
    ·cases h
    ·rcases List.mem_cons.1 hx with rfl|hx
     ·rw[hp];rfl
     ·exact inst_all h x hx
   ·cases h
def AUI {d:aG} {k:iII} {i:Int}:∀ {l:List iII} {E:List aN},(zZ d k i l E).1=0->∀ x∈l,(eX d x).isSome=true
 | [],_,_,x,hx=>by cases hx
 | id::l,E,h,x,hx=>by
  unfold zZ at h;split at h
  ·cases h
  rcases wH id d.2.2.2.2.1 with ⟨g,_⟩|⟨j,hj,g,g2⟩
  ·rw[g] at h;cases h
  ·rw[g] at h;rcases List.mem_cons.1 hx with rfl|hx
   ·unfold eX;rw[g2];rfl
   ·exact AUI h x hx
def QV {d:aG}:∀ {l:List bE} {i:Int} {E:List aN} {S:List iII},(iC d l i E S).1=0->∀ k∈l,lS d k.2.1=true/\(∀ x∈eF k,(partOf d x).isSome=true)/\∀ x∈dB k,(eX d x).isSome=true
 | [],_,_,_,_,k,hk=>by cases hk
 | a::l,i,E,S,h,k,hk=>by
  unfold iC at h;split at h
  ·rename_i g;exact absurd h g
  rename_i g1;split at h
  ·rename_i g;exact absurd h g
  rename_i g2;split at h
  ·rename_i g;exact absurd h g
  rename_i g3;rcases List.mem_cons.1 hk with rfl|hk
  ·refine ⟨?_,inst_all (Classical.byContradiction g2),AUI (Classical.byContradiction g3)⟩;have g1:lR d k=0:=Classical.byContradiction g1;unfold lR at g1;split at g1
   ·cases g1
   split at g1
   ·cases g1
   ·rename_i g;simpa using g
  ·exact QV h k hk
def BI2 {d:aG} (hu:PV d=false) {n:eH} (hn:n∈d.2.1) (hf:cG d n.1=some n) (hk:¬ n.2.1=1):n.2.2≠n.1:=by
 intro e;have go:∀ k l,(upF d k n.1 l).2=false:=λk=>by
  induction k with
  | zero=>intro l;rfl
  | succ k ih =>
   intro l;unfold upF;rw[hf];dsimp only;rw[if_neg hk,e];exact ih _
 unfold PV at hu;rw[List.any_eq_false] at hu;have:=hu n hn;unfold up at this;rw[go] at this;exact this rfl
def AC2 {α:Type} {af:α->α->Bool} {p:α->Bool} {x:α} (hp:p x=true):∀ {l:List α},(∀ a∈l,p a=false)->jP p (iF af l x)=l
 | [],_=>by rw[BBA,AC1 hp]
 | z::l,h=>by
  cases hz:af z x with
  | true=>rw[BBB hz,AC1 hp]
  | false=>rw[BA9 hz,APW (h z am),AC2 hp λa ha=>h a (List.mem_cons_of_mem _ ha)]
variable {α:Type}{l:List (iII×α)}
def vD {a:iII×α} (hn:(l.find? λs=>decide (s.1=a.1)).isSome=false):jP (dX a.1) (iF eA l a)=l:=AC2 (p:=dX a.1) (ai rfl) λ_ hb=>aj (AZZ hn hb)
def A8B {l:List cP} {n:cP} (hn:(l.any λk=>decide (k=n))=false):jP (λk=>decide (k=n)) (iF z6 l n)=l:=AC2 (p:=λk=>decide (k=n)) (ai rfl) λ_ hb=>aj (BHH hn hb)
def lL (x:bD):bD:=(if e9 x=true then x.1+1 else x.1,if x.1=1 then (mX x).1 else if x.1=3 then (cR x).1 else if x.1=7 then (rZ x).1 else if x.1=9 then (gW x).1 else fM x,cC,dI,cO,dS,noPack,iO x)
def BDQ {x:bD} (hp:x=dE x) (hk:x.1=2\/x.1=4\/x.1=8\/x.1=10\/x.1=12):lL x=x:=by
 have ha:e9 x=false:=by
  simp only[e9,Bool.or_eq_false_iff,decide_eq_false_iff_not];omega
 have e:lL x=(x.1,fM x,cC,dI,cO,dS,noPack,iO x):=by
  unfold lL;rw[if_neg (by rw[ha];decide),if_neg (by omega),if_neg (by omega),if_neg (by omega),if_neg (by omega)]
 rw[e];unfold dE at hp;rw[if_neg (by omega),if_neg (by omega),if_neg (by omega),if_neg (by omega),if_neg (by omega)] at hp;by_cases h12:x.1=12
 ·rw[if_pos (.inr h12)] at hp;have e1:fM x=cC:=congrArg (λz:bD=>z.2.1) hp;rw[e1];exact hp.symm
 ·rw[if_neg (by omega)] at hp;have e1:iO x=jO:=congrArg (λz:bD=>z.2.2.2.2.2.2.2) hp;rw[e1];exact hp.symm
section
variable {d : aG} {m : aL} {x : bD}
def BA6 {s:iII} (h:kH s=true):s≠⟨#[]⟩:=λe=>by rw[e] at h;exact absurd h (by decide)
def gone {id:iII} (h:(l.find? λs=>decide (s.1=id)).isSome=false) {y:iII} (hy:(l.find? λs=>decide (s.1=y)).isSome=true):y≠id:=λe=>by rw[e,h] at hy;cases hy
def AR2 (ho:oG (ids l)=true) {a:iII×α} (ha:a∈l):l.find? (λs=>decide (s.1=a.1))=some a:=by
 have hpw:=AZC ho;cases hf:l.find? λs=>decide (s.1=a.1) with
 | none=>exact absurd (ai rfl) (List.find?_eq_none.1 hf a ha)
 | some b =>
  have hb:=List.mem_of_find?_eq_some hf;have he:b.1=a.1:=by simpa using List.find?_some hf
  refine congrArg some ?_;obtain ⟨i,hi,rfl⟩:=List.mem_iff_getElem.1 ha;obtain ⟨j,hj,rfl⟩:=List.mem_iff_getElem.1 hb;have hs:∀ p q (hp:p<l.length) (hq:q<l.length),p<q->l[p].1≠l[q].1:=λp q hp hq hpq e=>by
   have h1:=List.pairwise_iff_getElem.1 hpw p q hp hq hpq;unfold eA gtS at h1;rw[e,NY] at h1;cases h1
  rcases Nat.lt_trichotomy i j with g|g|g
  ·exact absurd he.symm (hs i j hi hj g)
  ·subst g;rfl
  ·exact absurd he (hs j i hj hi g)
def AU8:(iE d x).1=d.1:=by
 unfold iE;simp only[apply_ite Prod.fst,ite_self]
def A9L (hv:GR d) (hd:XZ d m x) (ha:e9 x=true):nH (iE d x) (lL x)=false:=by
 have V:=BFF hv;have W:=BFF (AWC hd.chk).1;have ht:=hd.there;rw[ha] at ht;have ha':=ha;simp only[e9,Bool.or_eq_true,ah] at ha';have nf:∀ {b:Bool},(b=true->False)->b=false:=λh=>by
  rename_i b;cases b with
  | false=>rfl
  | true=>exact (h rfl).elim
 have e0:(lL x).1=x.1+1:=if_pos ha;rcases ha' with (((h|h)|h)|h)|h
 ·
  have e1:fM (lL x)=(mX x).1:=if_pos h;have ed:iE d x=(d.1,iF eA d.2.1 (mX x),d.2.2):=by unfold iE;rw[if_pos h]
  have hn:(cG d (mX x).1).isSome=false:=by
   have:=AWN (d:=d) h;rw[<-this];exact ht
  have ne:∀ {y:iII},(cG d y).isSome=true->y≠(mX x).1:=λhy=>gone hn hy;have hin:mX x∈(iE d x).2.1:=by rw[ed];exact sJ.2 (.inl rfl)
  have hi:=(AEH (W.nodes _ hin)).1;unfold nH;rw[if_pos (by rw[e0,h];rfl),e1];refine nf λhu=>?_;unfold kZ at hu;rw[ed] at hu;simp only[Bool.or_eq_true,List.any_eq_true,ah,ac,Bool.not_eq_true',decide_eq_false_iff_not] at hu;rcases hu with ⟨p,hp,e⟩|⟨n,hm,e⟩|⟨k,hk,e⟩|⟨n,hm,e⟩
  ·exact ne (V.parts p hp) e
  ·rcases sJ.1 hm with rfl|hm
   ·rcases (AEH (W.nodes _ hin)).2 with ⟨_,g⟩|⟨g1,_⟩
    ·rw[g] at e;exact BA6 hi e.symm
    ·have ho:=W.order;unfold jX at ho;simp only[ac] at ho;exact BI2 W.up hin (AR2 ho.1.1.1.1 hin) g1 e
   ·rcases (AEH (V.nodes n hm)).2 with ⟨_,g⟩|⟨_,g⟩
    ·rw[g] at e;exact BA6 hi e.symm
    ·exact ne g e
  ·exact ne (S6 (QV V.AAJ k hk).1) e
  ·obtain ⟨r1,r2,r3⟩:=Z6 (V.ALO n hm);rcases e with e|⟨e,e3⟩
   ·exact ne (S6 r1) e
   ·rcases r3 e3 with g|g
    ·rw[g] at e;exact BA6 hi e.symm
    ·exact ne (S6 g) e
 ·
  have e1:fM (lL x)=(cR x).1:=by
   show (if _ then _ else if _ then _ else _)=_;rw[if_neg (by omega),if_pos h]
  have ed:iE d x=(d.1,d.2.1,iF eA d.2.2.1 (cR x),d.2.2.2):=by unfold iE;rw[if_neg (by omega),if_neg (by omega),if_pos h]
  have hn:(partOf d (cR x).1).isSome=false:=by
   have:=AWP (d:=d) h;rw[<-this];exact ht
  have ne:∀ {y:iII},(partOf d y).isSome=true->y≠(cR x).1:=λhy=>gone hn hy;unfold nH;rw[if_neg (by omega),if_pos (by rw[e0,h];rfl),e1];refine nf λhu=>?_;unfold oF AD4 at hu;rw[ed] at hu;simp only[Bool.or_eq_true,List.any_eq_true,ah] at hu;rcases hu with ⟨s,hs,e⟩|⟨k,hk,y,hy,e⟩
  ·obtain ⟨r1,r2⟩:=ATI (V.AWF s hs);rcases e with e|e
   ·exact ne r1 e
   ·exact ne r2 e
  ·exact ne ((QV V.AAJ k hk).2.1 y hy) e
 ·unfold nH;rw[if_neg (by omega),if_neg (by omega),if_neg (by omega)]
 ·
  have e1:fM (lL x)=(gW x).1:=by
   show (if _ then _ else if _ then _ else if _ then _ else if _ then _ else _)=_;rw[if_neg (by omega),if_neg (by omega),if_neg (by omega),if_pos h]
  have ed:iE d x=(d.1,d.2.1,d.2.2.1,d.2.2.2.1,iF eA d.2.2.2.2.1 (gW x),d.2.2.2.2.2):=by
   unfold iE;rw[if_neg (by omega),if_neg (by omega),if_neg (by omega),if_neg (by omega),if_neg (by omega),if_neg (by omega),if_neg (by omega),if_neg (by omega),if_pos h]
  have hn:(eX d (gW x).1).isSome=false:=by
   have:=AWS (d:=d) h;rw[<-this];exact ht
  have ne:∀ {y:iII},(eX d y).isSome=true->y≠(gW x).1:=λhy=>gone hn hy;unfold nH;rw[if_neg (by omega),if_neg (by omega),if_pos (by rw[e0,h];rfl),e1];refine nf λhu=>?_;unfold qH AD4 at hu;rw[ed] at hu;dsimp only at hu;rw[vD hn] at hu;simp only[Bool.or_eq_true,List.any_eq_true,ah,ac] at hu;rcases hu with ⟨k,hk,y,hy,e⟩|⟨n,hm,e3,e⟩
  ·exact ne ((QV V.AAJ k hk).2.2 y hy) e
  ·exact ne ((Z6 (V.ALO n hm)).2.1 e3) e
 ·unfold nH;rw[if_neg (by omega),if_neg (by omega),if_neg (by omega)]
def A7V (hv:GR d) (hd:XZ d m x) (ha:e9 x=true):oM d m=0:=by
 obtain ⟨R,h1,h2,h3,h4⟩:=AWC hd.chk;have ha':=ha;simp only[e9,Bool.or_eq_true,ah] at ha';have hn:(iE d x).1=d.1:=AU8;have hP:(iE d x).2.2.1=d.2.2.1\/(iE d x).2.2.1=iF eA d.2.2.1 (cR x):=by
  unfold iE;rcases ha' with (((h|h)|h)|h)|h<;>simp[h]
 have hp:(∀ p∈d.2.2.1,nD p m=0)/\mS m d.2.2.1 0=0:=by
  rcases hP with e|e<;>rw[e] at h3 h4
  ·exact ⟨h3,h4⟩
  ·exact ⟨λp hp=>h3 p (sJ.2 (.inr hp)),AWL h3 (by omega) (by omega) h4⟩
 have hf:j8 d m=0:=by
  unfold j8;rw[if_pos (FC λp h=>?_)]
  ·exact hp.2
  ·unfold jM;rw[if_pos (hp.1 p h),if_neg];have:=hv.parts p h;cases hc:cG d (fV p) with
   | none=>rw[hc] at this;cases this
   | some _=>exact Bool.noConfusion
 unfold oM;rw[<-hn,if_neg (λh=>h h1),if_neg (by rw[h2];exact Bool.noConfusion),if_neg (λh=>h hv.form),if_neg (λh=>h hv.nodes),if_neg (λh=>h hf),if_neg (λh=>h hv.AWF),if_neg (λh=>h hv.AAJ)];exact hv.ALO
def BJ7 (hv:GR d) (hd:XZ d m x) (ha:e9 x=true):cE (iE d x) m (lL x)=(d,0):=by
 have ht:=hd.there;rw[ha] at ht;have hf:=A9L hv hd ha;have ha':=ha;simp only[e9,Bool.or_eq_true,ah] at ha';have e0:(lL x).1=x.1+1:=if_pos ha;have hp:=hd.plain;have er:lL x=(x.1+1,fM (lL x),cC,dI,cO,dS,noPack,iO x):=Prod.ext e0 rfl;have pl:lL x=dE (lL x):=by
  rw[er];unfold dE;dsimp only;rw[if_neg (by omega),if_neg (by omega),if_neg (by omega),if_neg (by omega),if_neg (by omega)];by_cases h11:x.1=11
  ·rw[if_pos (by omega)];have e1:fM (lL x)=fM x:=by
    show (if _ then _ else if _ then _ else if _ then _ else if _ then _ else _)=_;rw[if_neg (by omega),if_neg (by omega),if_neg (by omega),if_neg (by omega)]
   have e2:fM x=cC:=by
    unfold dE at hp;rw[if_neg (by omega),if_neg (by omega),if_neg (by omega),if_neg (by omega),if_neg (by omega),if_pos (.inl h11)] at hp;exact congrArg (λz:bD=>z.2.1) hp
   rw[e1,e2]
  ·rw[if_neg (by omega)];have e2:iO x=jO:=by
    unfold dE at hp;rcases ha' with (((h|h)|h)|h)|h
    ·rw[if_pos h] at hp;exact congrArg (λz:bD=>z.2.2.2.2.2.2.2) hp
    ·rw[if_neg (by omega),if_pos (.inl h)] at hp;exact congrArg (λz:bD=>z.2.2.2.2.2.2.2) hp
    ·rw[if_neg (by omega),if_neg (by omega),if_neg (by omega),if_pos h] at hp;exact congrArg (λz:bD=>z.2.2.2.2.2.2.2) hp
    ·rw[if_neg (by omega),if_neg (by omega),if_neg (by omega),if_neg (by omega),if_pos h] at hp;exact congrArg (λz:bD=>z.2.2.2.2.2.2.2) hp
    ·exact absurd h h11
   rw[e2]
 have na:e9 (lL x)=false:=by
  simp only[e9,Bool.or_eq_false_iff,decide_eq_false_iff_not];omega
 have both:cV (iE d x) (lL x)=true/\iE (iE d x) (lL x)=d:=by
  rcases ha' with (((h|h)|h)|h)|h
  ·have e1:fM (lL x)=(mX x).1:=if_pos h;have ed:iE d x=(d.1,iF eA d.2.1 (mX x),d.2.2):=by unfold iE;rw[if_pos h]
   have hn:(cG d (mX x).1).isSome=false:=by
    have:=AWN (d:=d) h;rw[<-this];exact ht
   refine ⟨?_,?_⟩
   ·rw[AWO (by omega),e1,ed];exact HD
   ·unfold iE;rw[if_neg (by omega),if_pos (by omega),if_pos h,e1];dsimp only;rw[vD hn]
  ·have e1:fM (lL x)=(cR x).1:=by
    show (if _ then _ else if _ then _ else _)=_;rw[if_neg (by omega),if_pos h]
   have ed:iE d x=(d.1,d.2.1,iF eA d.2.2.1 (cR x),d.2.2.2):=by unfold iE;rw[if_neg (by omega),if_neg (by omega),if_pos h]
   have hn:(partOf d (cR x).1).isSome=false:=by
    have:=AWP (d:=d) h;rw[<-this];exact ht
   refine ⟨?_,?_⟩
   ·rw[AWQ (by omega),e1,ed];exact HD
   ·rw[ed];unfold iE;rw[if_neg (by omega),if_neg (by omega),if_neg (by omega),if_pos (by omega),e1];dsimp only;rw[vD hn]
  ·have e1:fM (lL x)=(rZ x).1:=by
    show (if _ then _ else if _ then _ else if _ then _ else _)=_;rw[if_neg (by omega),if_neg (by omega),if_pos h]
   have ed:iE d x=(d.1,d.2.1,d.2.2.1,iF eA d.2.2.2.1 (rZ x),d.2.2.2.2):=by
    unfold iE;rw[if_neg (by omega),if_neg (by omega),if_neg (by omega),if_neg (by omega),if_neg (by omega),if_neg (by omega),if_pos h]
   have hn:(F5 d (rZ x).1).isSome=false:=by
    have:=BKE (d:=d) h;rw[<-this];exact ht
   refine ⟨?_,?_⟩
   ·rw[AWR (by omega),e1,ed];exact HD
   ·rw[ed];unfold iE;rw[if_neg (by omega),if_neg (by omega),if_neg (by omega),if_neg (by omega),if_neg (by omega),if_neg (by omega),if_neg (by omega),if_pos (by omega),e1];dsimp only;rw[vD hn]
  ·have e1:fM (lL x)=(gW x).1:=by
    show (if _ then _ else if _ then _ else if _ then _ else if _ then _ else _)=_;rw[if_neg (by omega),if_neg (by omega),if_neg (by omega),if_pos h]
   have ed:iE d x=(d.1,d.2.1,d.2.2.1,d.2.2.2.1,iF eA d.2.2.2.2.1 (gW x),d.2.2.2.2.2):=by
    unfold iE;rw[if_neg (by omega),if_neg (by omega),if_neg (by omega),if_neg (by omega),if_neg (by omega),if_neg (by omega),if_neg (by omega),if_neg (by omega),if_pos h]
   have hn:(eX d (gW x).1).isSome=false:=by
    have:=AWS (d:=d) h;rw[<-this];exact ht
   refine ⟨?_,?_⟩
   ·rw[AM6 (by omega),e1,ed];exact HD
   ·rw[ed];unfold iE;rw[if_neg (by omega),if_neg (by omega),if_neg (by omega),if_neg (by omega),if_neg (by omega),if_neg (by omega),if_neg (by omega),if_neg (by omega),if_neg (by omega),if_pos (by omega),e1];dsimp only;rw[vD hn]
  ·have e1:iO (lL x)=iO x:=rfl;have ed:iE d x=(d.1,d.2.1,d.2.2.1,d.2.2.2.1,d.2.2.2.2.1,iF z6 d.2.2.2.2.2 (iO x)):=by
    unfold iE;rw[if_neg (by omega),if_neg (by omega),if_neg (by omega),if_neg (by omega),if_neg (by omega),if_neg (by omega),if_neg (by omega),if_neg (by omega),if_neg (by omega),if_neg (by omega),if_pos h]
   have hn:(d.2.2.2.2.2.any λn=>decide (n=iO x))=false:=by
    have:=BFB (d:=d) h;rw[<-this];exact ht
   refine ⟨?_,?_⟩
   ·rw[AM7 (by omega),e1,ed];exact List.any_eq_true.2 ⟨iO x,sJ.2 (.inl rfl),ai rfl⟩
   ·rw[ed];unfold iE;rw[if_neg (by omega),if_neg (by omega),if_neg (by omega),if_neg (by omega),if_neg (by omega),if_neg (by omega),if_neg (by omega),if_neg (by omega),if_neg (by omega),if_neg (by omega),if_neg (by omega),e1];dsimp only;rw[A8B hn]
 unfold cE;rw[if_neg (by omega),if_neg,if_neg,if_neg,if_neg (by omega),if_neg (by rw[hf];decide),both.2,if_pos (A7V hv hd ha)]
 ·rw[na,both.1];exact λh=>by cases h.2
 ·rw[na];exact λh=>by cases h.1
 ·rintro (h|⟨h,_⟩)
  ·rw[eP.2 pl] at h;cases h
  ·omega
end
open Classical in
def E7:List bG->List bG->Nat
 | p::l,q::m=>(if p=q then 0 else 1)+E7 l m
 | _,_=>0
def LJ:∀ (l:List bG),E7 l l=0
 | []=>rfl
 | p::l=>by rw[E7,if_pos rfl,LJ l]
def ACZ {is:bG->Bool} {f:bG->bG}:∀ (l:List bG),(∃ z∈l,l.find? is=some z/\(f z=z/\E7 (PM is f l) l=0\/¬ f z=z/\E7 (PM is f l) l=1))\/(l.find? is=none/\E7 (PM is f l) l=0)
 | []=>.inr ⟨rfl,rfl⟩
 | z::l=>by
  cases hz:is z with
  | true =>
   rw[BRP hz,List.find?_cons_of_pos hz];refine .inl ⟨z,am,rfl,?_⟩;by_cases e:f z=z
   ·exact .inl ⟨e,by rw[E7,if_pos e,LJ]⟩
   ·exact .inr ⟨e,by rw[E7,if_neg e,LJ]⟩
  | false =>
   have h0:¬ is z=true:=by rw[hz];decide
   rw[BRO hz,List.find?_cons_of_neg h0,E7,if_pos rfl,Nat.zero_add];rcases ACZ (is:=is) (f:=f) l with ⟨y,hy,h1,h2⟩|h
   ·exact .inl ⟨y,List.mem_cons_of_mem _ hy,h1,h2⟩
   ·exact .inr h
open Classical in
def TJ (a b:aG):Int:=if a.2.1.length=b.2.1.length/\a.2.2.1.length=b.2.2.1.length/\a.2.2.2.1.length=b.2.2.2.1.length/\a.2.2.2.2.1.length=b.2.2.2.2.1.length/\a.2.2.2.2.2.length=b.2.2.2.2.2.length
 then (if (a.1,a.2.1,b.2.2.1,a.2.2.2)=b then (E7 a.2.2.1 b.2.2.1:Int) else -1) else -1
def jD (d:aG):Nat:=d.2.1.length+d.2.2.1.length+d.2.2.2.1.length+d.2.2.2.2.1.length+d.2.2.2.2.2.length
def AF {α:Type} {p:α->Bool}:∀ {l:List α},(l.find? p).isSome=true->(jP p l).length+1=l.length
 | [],h=>by cases h
 | z::l,h=>by
  cases hz:p z with
  | true=>rw[AC1 hz];rfl
  | false =>
   have h0:¬ p z=true:=by rw[hz];decide
   rw[List.find?_cons_of_neg h0] at h;rw[APW hz,List.length_cons,AF h,List.length_cons]
def AUV {α:Type} {p:α->Bool}:∀ {l:List α},l.any p=true->(jP p l).length+1=l.length
 | [],h=>by cases h
 | z::l,h=>by
  cases hz:p z with
  | true=>rw[AC1 hz];rfl
  | false =>
   rw[List.any_cons,hz,Bool.false_or] at h;rw[APW hz,List.length_cons,AUV h,List.length_cons]
section
variable {d : aG} {m : aL} {x : bD}
def BKB (hd:XZ d m x):(x.1 % 2=1/\¬ x.1=5->jD (iE d x)=jD d+1)/\(x.1 % 2=0/\¬ x.1=6->jD (iE d x)+1=jD d)/\(x.1=5\/x.1=6->jD (iE d x)=jD d):=by
 obtain ⟨k1,k2⟩:=hd.kind;have ht:=hd.there;have h:x.1=1\/x.1=2\/x.1=3\/x.1=4\/x.1=5\/x.1=6\/x.1=7\/x.1=8\/x.1=9\/x.1=10\/x.1=11\/x.1=12:=by omega
 have ad:e9 x=(decide (x.1=1)||decide (x.1=3)||decide (x.1=7)||decide (x.1=9)||decide (x.1=11)):=rfl;rcases h with h|h|h|h|h|h|h|h|h|h|h|h<;>rw[ad] at ht<;>simp only[h] at ht
 ·refine ⟨λ_=>?_,λg=>by omega,λg=>by omega⟩;unfold iE jD;simp only[h];simp[wL];omega
 ·rw[AWO h] at ht;have:=AF (p:=dX (fM x)) (l:=d.2.1) (by exact ht);refine ⟨λg=>by omega,λ_=>?_,λg=>by omega⟩;unfold iE jD;simp only[h];simp;omega
 ·refine ⟨λ_=>?_,λg=>by omega,λg=>by omega⟩;unfold iE jD;simp only[h];simp[wL];omega
 ·rw[AWQ h] at ht;have:=AF (p:=dX (fM x)) (l:=d.2.2.1) (by exact ht);refine ⟨λg=>by omega,λ_=>?_,λg=>by omega⟩;unfold iE jD;simp only[h];simp;omega
 ·refine ⟨λg=>absurd h g.2,λg=>by omega,λ_=>?_⟩;unfold iE jD;simp only[h];simp[QG]
 ·refine ⟨λg=>by omega,λg=>absurd h g.2,λ_=>?_⟩;unfold iE jD;simp only[h];simp[QG]
 ·refine ⟨λ_=>?_,λg=>by omega,λg=>by omega⟩;unfold iE jD;simp only[h];simp[wL];omega
 ·rw[AWR h] at ht;have:=AF (p:=dX (fM x)) (l:=d.2.2.2.1) (by exact ht);refine ⟨λg=>by omega,λ_=>?_,λg=>by omega⟩;unfold iE jD;simp only[h];simp;omega
 ·refine ⟨λ_=>?_,λg=>by omega,λg=>by omega⟩;unfold iE jD;simp only[h];simp[wL];omega
 ·rw[AM6 h] at ht;have:=AF (p:=dX (fM x)) (l:=d.2.2.2.2.1) (by exact ht);refine ⟨λg=>by omega,λ_=>?_,λg=>by omega⟩;unfold iE jD;simp only[h];simp;omega
 ·refine ⟨λ_=>?_,λg=>by omega,λg=>by omega⟩;unfold iE jD;simp only[h];simp[wL];omega
 ·rw[AM7 h] at ht;have:=AUV (p:=λn=>decide (n=iO x)) (l:=d.2.2.2.2.2) (by exact ht);refine ⟨λg=>by omega,λ_=>?_,λg=>by omega⟩;unfold iE jD;simp only[h];simp;omega
def A8C (hd:XZ d m x) (hk:x.1=5\/x.1=6):TJ (iE d x) d=1\/(TJ (iE d x) d=0/\x.1=6):=by
 have dif:∀ {is:bG->Bool} {f:bG->bG},TJ (d.1,d.2.1,PM is f d.2.2.1,d.2.2.2) d=(E7 (PM is f d.2.2.1) d.2.2.1:Int):=λ{is f}=>by
  unfold TJ;rw[if_pos ⟨rfl,QG,rfl,rfl,rfl⟩,if_pos rfl]
 rcases hk with h|h
 ·have ed:iE d x=(d.1,d.2.1,PM (dX (cR x).1) (A3N (cR x)) d.2.2.1,d.2.2.2):=by unfold iE;simp only[h];rfl
  have ht:=hd.there;rw[BKD h,show e9 x=false by unfold e9;rw[h];rfl] at ht;rw[ed,dif];rcases ACZ (is:=dX (cR x).1) (f:=A3N (cR x)) d.2.2.1 with ⟨z,hz,h1,h2⟩|⟨h1,_⟩
  ·rcases h2 with ⟨e,_⟩|⟨_,h2⟩
   ·have e2:i64.wrap (z.2.1+1)=z.2.1:=congrArg (λp:bG=>p.2.1) e;simp only[IntKind.wrap,IntKind.signed,IntKind.bits,Bool.true_and,ah] at e2;split at e2<;>omega
   ·exact .inl (by rw[h2];rfl)
  ·have ht:(partOf d (cR x).1).isSome=true:=ht;have h1:partOf d (cR x).1=none:=h1;rw[h1] at ht;cases ht
 ·have ed:iE d x=(d.1,d.2.1,PM (dX (fM x)) (λp=>A10 p (eTo x)) d.2.2.1,d.2.2.2):=by unfold iE;simp only[h];rfl
  rw[ed,dif];rcases ACZ (is:=dX (fM x)) (f:=λp=>A10 p (eTo x)) d.2.2.1 with ⟨z,hz,h1,⟨_,h2⟩|⟨_,h2⟩⟩|⟨_,h2⟩
  ·exact .inr ⟨by rw[h2];rfl,h⟩
  ·exact .inl (by rw[h2];rfl)
  ·exact .inr ⟨by rw[h2];rfl,h⟩
end
end Go.Pv
namespace Go.Pv
open Go Go.Proofs IntKind
end Go.Pv
namespace Go.Pv
open Go Go.Proofs IntKind
def A8S {d:aG} {a b:Int} (hab:a<=b) (h:QJ d a=true):QJ d b=true:=by
 simp only[QJ,ac,List.all_eq_true,ah] at h ⊢;obtain ⟨⟨⟨⟨⟨h1,h2⟩,h3⟩,h4⟩,h5⟩,h6⟩:=h;exact ⟨⟨⟨⟨⟨by omega,by omega⟩,by omega⟩,by omega⟩,by omega⟩,λk hk=>by have:=h6 k hk;omega⟩
def BJS {d:aG} (h:qK (2 ^ 40) aF d):okI d=true:=by
 obtain ⟨_,⟨_,_,hn⟩,⟨_,_,hp⟩,⟨_,_,hs⟩,⟨_,_,hk⟩,_⟩:=h;simp only[okI,Z9,ac,ah,List.all_eq_true];refine ⟨⟨⟨λn hm=>?_,λp hm=>?_⟩,λs hm=>?_⟩,λk hm=>?_⟩
 ·obtain ⟨a,_⟩:=hn n hm;exact a
 ·obtain ⟨a,_,_,b,_⟩:=hp p hm;exact ⟨a,b⟩
 ·obtain ⟨a,b,c,_⟩:=hs s hm;exact ⟨a,b,c⟩
 ·obtain ⟨a,_⟩:=hk k hm;exact a
end Go.Pv
namespace Go.Pv
open Go Go.Proofs IntKind
def AZ6:gL Tryz.prog 92 (LU 3 40):=mW aV aY ⟨_,_,Tryz.func92,rfl⟩ ⟨λR=>by kernel_rfl,λfl R=>by kernel_rfl,λfl a rows R=>by kernel_rfl⟩
def AZ9:gL Tryz.prog 93 (LU 6 72):=mW aV aY ⟨_,_,Tryz.func93,rfl⟩ ⟨λR=>by kernel_rfl,λfl R=>by kernel_rfl,λfl a rows R=>by kernel_rfl⟩
def AZ5:gL Tryz.prog 94 (LU 3 40):=mW aV aY ⟨_,_,Tryz.func94,rfl⟩ ⟨λR=>by kernel_rfl,λfl R=>by kernel_rfl,λfl a rows R=>by kernel_rfl⟩
def BH0:gL Tryz.prog 90 (LU 2 16):=mW aV aY ⟨_,_,Tryz.func90,rfl⟩ ⟨λR=>by kernel_rfl,λfl R=>by kernel_rfl,λfl a rows R=>by kernel_rfl⟩
def A8V:gL Tryz.prog 91 (LU 1 24):=mW aV aY ⟨_,_,Tryz.func91,rfl⟩ ⟨λR=>by kernel_rfl,λfl R=>by kernel_rfl,λfl a rows R=>by kernel_rfl⟩
def AZ8:gL Tryz.prog 95 (LU 18 208):=mW aV aY ⟨_,_,Tryz.func95,rfl⟩ ⟨λR=>by kernel_rfl,λfl R=>by kernel_rfl,λfl a rows R=>by kernel_rfl⟩
def AZ7:gL Tryz.prog 96 (LU 5 88):=mW aV aY ⟨_,_,Tryz.func96,rfl⟩ ⟨λR=>by kernel_rfl,λfl R=>by kernel_rfl,λfl a rows R=>by kernel_rfl⟩
def A8W:gL Tryz.prog 253 (LU 1 16):=mW aV aY ⟨_,_,Tryz.func253,rfl⟩ ⟨λR=>by kernel_rfl,λfl R=>by kernel_rfl,λfl a rows R=>by kernel_rfl⟩
end Go.Pv
namespace Go.Pv
open Go Go.Proofs IntKind
def BEU:Value->Value->Bool
 | .int k a,.int j b=>decide (k=j)&&decide (a=b)
 | .string a,.string b=>decide (a=b)
 | .bool a,.bool b=>a == b
 | .slice none a b,.slice none c d=>a == c&&b == d
 | _,_=>false
def APF {α:Type} (f:α->α->Bool):List α->List α->Bool
 | [],[]=>true
 | a::l,b::m=>f a b&&APF f l m
 | _,_=>false
def AAV:Nat->T->T->Bool
 | n+1,.v a,.v b=>BEU a b
 | n+1,.agg l,.agg m=>APF (AAV n) l m
 | n+1,.sl f l,.sl g m=>(f == g)&&APF (APF (AAV n)) l m
 | _,_,_=>false
def AQT:List (List T×T)->List T->Option T
 | [],_=>none
 | (A,r)::l,args=>match APF (AAV 20) args A with
  | true=>some r
  | false=>AQT l args
def BEV {a b:Value} (h:BEU a b=true):a=b:=by
 unfold BEU at h;split at h
 ·simp only[ac,ah] at h;rw[h.1,h.2]
 ·rw[of_decide_eq_true h]
 ·rw[eq_of_beq h]
 ·simp only[ac,beq_iff_eq] at h;rw[h.1,h.2]
 ·cases h
def GW {α:Type} {f:α->α->Bool} (hf:∀ a b,f a b=true->a=b):∀ l m,APF f l m=true->l=m
 | [],[],_=>rfl
 | [],_::_,h=>by cases h
 | _::_,[],h=>by cases h
 | a::l,b::m,h=>by
  simp only[APF,ac] at h;rw[hf a b h.1,GW hf l m h.2]
def W7:∀ (n:Nat) (a b:T),AAV n a b=true->a=b
 | 0,_,_,h=>by simp[AAV] at h
 | n+1,a,b,h=>by
  unfold AAV at h;split at h
  ·rename_i e;rw[BEV h]
  ·rename_i e;cases e;rw[GW (W7 n) _ _ h]
  ·rename_i e;cases e;simp only[ac,beq_iff_eq] at h;rw[h.1,GW (GW (W7 n)) _ _ h.2]
  ·cases h
def LW:∀ {l:List (List T×T)} {args:List T} {r:T},AQT l args=some r->(args,r)∈l
 | [],_,_,h=>by cases h
 | (A,q)::l,args,r,h=>by
  unfold AQT at h;split at h
  ·rename_i e;cases h;rw[GW (W7 20) _ _ e];exact am
  ·exact List.mem_cons_of_mem _ (LW h)
def A04 {P:Program} {f:FuncId} {g:List T->Option T} (hg:aT P f g) {l:List (List T×T)} (h:∀ x∈l,g x.1=some x.2):aT P f (AQT l):=⟨hg.entry,λw own args vs r hG ho ha hr=>hg.calls w own args vs r hG ho ha (h _ (LW hr))⟩
def aA:iII:=⟨#[65]⟩
def aB:iII:=⟨#[66]⟩
def aP (r m:Int) (n:iII):bG:=(⟨#[80]⟩,r,4,n,cC,0,([],[]),cC,0,m,(0,0,0),(0,0,0),0)
def aD (p:bG):aG:=(⟨#[72]⟩,[(aA,2,aB),(aB,1,cC)],[p],[],[],[])
def aX (k:Int) (i n:iII) (p:bG):bD:=(k,i,n,dI,p,dS,noPack,jO)
def BRL:List (aG×bD×aG×Int):=[(aD (aP 1 7 aA),aX 5 cC cC (aP 0 9 aA),aD (aP 2 9 aA),0),(aD (aP 2 9 aA),aX 5 cC cC (aP 0 7 aA),aD (aP 3 7 aA),0),(aD (aP 1 7 aA),aX 2 aA cC cO,o2,34),(aD (aP 1 7 aA),aX 12 aA cC cO,o2,2),(aD (aP 1 7 aA),aX 6 ⟨#[80]⟩ aB cO,aD (aP 1 7 aB),0)]
def BLB:List (List T×T):=BRL.map λa=>([aH true aF a.1,aH true aO ([],[]),aH true aW a.2.1],Sh.enc [(true,aF),(false,.int .i64)] a.2.2)
variable {α:Type}
def OM {β:Type} (g:DecidableEq α) (h:DecidableEq β):DecidableEq (α×β):=@instDecidableEqProd _ _ g h
def OL [h:DecidableEq α]:DecidableEq α:=h
def dqL (h:DecidableEq α):DecidableEq (List α):=@instDecidableEqList _ h
def BLA:DecidableEq bG:=OM OL (OM OL (OM OL (OM OL (OM OL (OM OL (OM OL (OM OL (OM OL (OM OL OL)))))))))
def BK9:DecidableEq bE:=OM OL (OM OL (OM OL OL))
instance BTH:DecidableEq bD:=OM OL (OM OL (OM OL (OM OL (OM BLA (OM OL (OM BK9 OL))))))
instance BTL:DecidableEq (aG×Int):=OM (OM OL (OM OL (OM (dqL BLA) (OM (dqL OL) (OM (dqL BK9) OL))))) OL
def BHE:∀ a∈BRL,cE a.1 ([],[]) a.2.1=a.2.2:=by
 have e:∀ x y:bD,qM x y=decide (x=y):=λx y=>(BHT _).symm;simp only[cE,e]
 decide +kernel
def BH8:aT Tryz.prog 8 (gD (AQT BLB)):=(A04 AIW λx hx=>by
 obtain ⟨a,ha,rfl⟩:=List.mem_map.1 hx;clear hx;refine (GZ ?_ ?_ ?_).trans (by rw[BHE a ha])<;>revert a<;>decide +kernel).deep
def BN0:List T->Option T:=gD (AQT [([aH true aF (aD (aP 1 7 aA))],aH true aF (aD (aP 1 7 aA)))])
def BH7:LA Tryz.prog 36 2 BN0:=⟨QK.entry,λw own args vs r hG ho ha hr=>QK.calls w own (args.map (T.deep 4)) vs r hG ho ⟨by simpa using ha.1,λi hi=>by
 have:=(ha.2 i (by simpa using hi)).deep 4;simpa using this⟩ (by
 have h:=LW hr;simp only[List.mem_singleton,Prod.mk.injEq] at h;rw[h.1,h.2];exact (rL ..).trans (by unfold rD;rw[show rB (aD (aP 1 7 aA))=true by decide +kernel];rfl))⟩
end Go.Pv
namespace Go.Pv
open Go Go.Proofs IntKind
def BOA:FuncId->Bool:=λf=>[139,258,41,113,36,192,199,29,279,280,133,281,134,137,72,28,69,71,68,70,135,136,138,77,143,282,79,78].contains f
def BN1:List T->Option T:=gD (AQT BLB)
def A80:aT Tryz.prog 8 BN1:=BH8
def AVC:Env:=Env.of [(257,.pure LV),(8,.pure BN1),(36,.part 2 BN0),(92,.fresh (LU 3 40)),(93,.fresh (LU 6 72)),(94,.fresh (LU 3 40)),(90,.fresh (LU 2 16)),(91,.fresh (LU 1 24)),(95,.fresh (LU 18 208)),(96,.fresh (LU 5 88)),(253,.fresh (LU 1 16)),(5000000000+28,.mark),(7000000000+188,.mark)]
def ARS:bB Tryz.prog AVC:=bB.cons (x:=.pure LV) T8 (bB.cons (x:=.pure BN1) A80 (bB.cons (x:=.part 2 BN0) BH7 (bB.cons (x:=.fresh (LU 3 40)) AZ6 (bB.cons (x:=.fresh (LU 6 72)) AZ9 (bB.cons (x:=.fresh (LU 3 40)) AZ5 (bB.cons (x:=.fresh (LU 2 16)) BH0 (bB.cons (x:=.fresh (LU 1 24)) A8V (bB.cons (x:=.fresh (LU 18 208)) AZ8 (bB.cons (x:=.fresh (LU 5 88)) AZ7 (bB.cons (x:=.fresh (LU 1 16)) A8W (bB.cons (x:=.mark) trivial (bB.cons (x:=.mark) trivial (bB.nil _)))))))))))))
def BR0:List T->Option T:=λargs=>match args with | []=>some (.v (.bool true))|_=>none
def gT:List T->Option T:=BR0
def AP0:aT Tryz.prog 7 gT :=
 A0N aV aY 400 BOA (B:=AVC) ARS 40 (by kernel_rfl)
end Go.Pv
namespace Go.Pv
open Go Go.Proofs IntKind
def BYS(a0:aG):List (List T):=List.map aS.enc a0.2.2.1
def SO(a0:aG)(R:T->Prop):Prop:=R (pPP (i64.wrap (i64.wrap (i64.wrap (i64.wrap ((↑(List.map bC.enc a0.2.1).length:Int) + (↑(BYS a0).length:Int)) + (↑(List.map bI.enc a0.2.2.2.1).length:Int)) + (↑(BYN a0).length:Int)) + (↑(List.map a6.enc a0.2.2.2.2.2).length:Int))))
abbrev W0:Sh:=[(true,aF)]
def DT (x:aG):Option T:=match decide (jD x<=100000) with
 | true=>some (T.v (Value.int .i64 (jD x:Int)))
 | false=>none
def kP:List T->Option T:=gS W0 DT
def AK2 {a0}:kP [aH true aF a0]=DT (a0):=a8 (s:=W0) rfl (a0) rfl
def A25:lW Tryz.prog 14 kP DT (bR W0) SO:=eN (a1:=(true,aF)) (Hs:=c0) (k:=8) (bM _) aV aY (aQ rfl) ⟨_,_,Tryz.func14,rfl⟩ rfl λ_ _=>by kernel_rfl
def A0X:aT Tryz.prog 14 kP:=A25 λd r h hb=>by
 clear hb;obtain ⟨hs,rfl⟩:=uR h;have hs:jD d<=100000:=of_decide_eq_true hs;unfold SO BYS BYN;unfold jD at hs ⊢;simp only[ae];rw[aZ ((d.2.1.length:Int)+(d.2.2.1.length:Int)) (by omega) (by omega),aZ ((d.2.1.length:Int)+(d.2.2.1.length:Int)+(d.2.2.2.1.length:Int)) (by omega) (by omega),
  aZ ((d.2.1.length:Int)+(d.2.2.1.length:Int)+(d.2.2.2.1.length:Int)+(d.2.2.2.2.1.length:Int)) (by omega) (by omega),aZ ((d.2.1.length:Int)+(d.2.2.1.length:Int)+(d.2.2.2.1.length:Int)+(d.2.2.2.2.1.length:Int)+(d.2.2.2.2.2.length:Int)) (by omega) (by omega)]
 exact congrArg (λz:Int=>T.v (Value.int .i64 z)) (by omega)
def NX {d:aG} {K:Int->Prop} (h:jD d<=100000) (hk:K (jD d:Int)):aJ [(false,Sy.int IntKind.i64)] (kP [aH true aF d]) K:=aM (s:=[(false,.int .i64)]) (y:=(jD d:Int)) ((AK2 ..).trans (gO (ai h))) hk
def QA (a0:bD) (R:T->Prop):Prop :=
 bO true
 (aE (decide (a0.1=1))
 (R
 ((aH true aW ((i64.wrap (a0.1+Int.tmod a0.1 2)),a0.2.2.2.1.1,cC,dI,cO,dS,noPack,a0.2.2.2.2.2.2.2))))
 (aE (decide (a0.1=3))
 (R
 ((aH true aW ((i64.wrap (a0.1+Int.tmod a0.1 2)),a0.2.2.2.2.1.1,cC,dI,cO,dS,noPack,a0.2.2.2.2.2.2.2))))
 (aE (decide (a0.1=7))
 (R
 ((aH true aW ((i64.wrap (a0.1+Int.tmod a0.1 2)),a0.2.2.2.2.2.1.1,cC,dI,cO,dS,noPack,a0.2.2.2.2.2.2.2))))
 (aE (decide (a0.1=9))
 (R
 ((aH true aW ((i64.wrap (a0.1+Int.tmod a0.1 2)),a0.2.2.2.2.2.2.1.1,cC,dI,cO,dS,noPack,a0.2.2.2.2.2.2.2))))
 (R
 ((aH true aW ((i64.wrap (a0.1+Int.tmod a0.1 2)),a0.2.1,cC,dI,cO,dS,noPack,a0.2.2.2.2.2.2.2))))))))
abbrev AFO:Sh:=[(true,aW)]
def J5 (x:bD):Option T:=match decide ((1<=x.1/\x.1<=12)/\¬ x.1=5) with
 | true=>some (aH true aW (lL x))
 | false=>none
def x8:List T->Option T:=gS AFO J5
def ARF {a0}:x8 [aH true aW a0]=J5 (a0):=a8 (s:=AFO) rfl (a0) rfl
def BCZ:lW Tryz.prog 17 x8 J5 (bR AFO) QA:=eN (a1:=(true,aW)) (Hs:=c0) (k:=8) (bM _) aV aY (aQ rfl) ⟨_,_,Tryz.func17,rfl⟩ rfl λ_ _=>by kernel_rfl
def A9C:aT Tryz.prog 17 x8:=BCZ λx r h hb=>by
 clear hb;obtain ⟨hc,rfl⟩:=uR h;obtain ⟨⟨k1,k2⟩,k5⟩:(1<=x.1/\x.1<=12)/\¬ x.1=5:=of_decide_eq_true hc;show QA x (λy=>y=aH true aW (lL x));unfold QA;refine ⟨rfl,?_⟩;refine b8 (λh=>?_) λh1=>?_
 ·refine congrArg (aH true aW) ?_;unfold lL e9;simp only[h];rfl
 refine b8 (λh=>?_) λh3=>?_
 ·refine congrArg (aH true aW) ?_;unfold lL e9;simp only[h];rfl
 refine b8 (λh=>?_) λh7=>?_
 ·refine congrArg (aH true aW) ?_;unfold lL e9;simp only[h];rfl
 refine b8 (λh=>?_) λh9=>?_
 ·refine congrArg (aH true aW) ?_;unfold lL e9;simp only[h];rfl
 refine congrArg (aH true aW) ?_;have h:x.1=2\/x.1=4\/x.1=6\/x.1=8\/x.1=10\/x.1=11\/x.1=12:=by omega
 rcases h with h|h|h|h|h|h|h<;>unfold lL e9<;>simp only[h]<;>rfl
def ANR:Env:=Env.of [(37,.pure mO),(12,.pure iP)]
def APA:FuncId->Hint:=bP 16 [(5,.inv [.val 5 false (.int .i64),.val 6 false (.int .i64)])] (λ_=>bH)
def ABJ:bB Tryz.prog ANR:=.cons OT (.cons HF (.nil _))
def BYI:T:=pPP (-1)
def EW(a0:aG)(a1:aG)(R:T->Prop):Prop:=aE (!decide ((↑(List.map bC.enc a0.2.1).length:Int)=(↑(List.map bC.enc a1.2.1).length:Int))) (R BYI) (aE (!decide ((↑(BYS a0).length:Int) = (↑(BYS a1).length:Int))) (R BYI) (aE (!decide ((↑(List.map bI.enc a0.2.2.2.1).length:Int) = (↑(List.map bI.enc a1.2.2.2.1).length:Int))) (R BYI) (aE (!decide ((↑(BYN a0).length:Int) = (↑(BYN a1).length:Int))) (R BYI) (aE (!decide ((↑(List.map a6.enc a0.2.2.2.2.2).length:Int) = (↑(List.map a6.enc a1.2.2.2.2.2).length:Int))) (R BYI) (a7 (Int×Int×PUnit) (λX0 s1=>aE (decide (s1.2.1<(↑(BYS a0).length:Int))) (aU aS (BYS a0) s1.2.1 λ(y2:bG)=>aU aS (BYS a1) s1.2.1 λ(y3:bG)=>aJ BYD (mO [aH true aS y2,aH true aS y3]) λ(y4:Bool)=>aE (!y4) (X0 (i64.wrap (s1.1+1),i64.wrap (s1.2.1+1),())) (X0 (s1.1,i64.wrap (s1.2.1+1),()))) (aJ BYD (iP [(aH true aF (a0.1,a0.2.1,a1.2.2.1,a0.2.2.2.1,a0.2.2.2.2.1,a0.2.2.2.2.2)), aH true aF a1]) λ(y5:Bool)=>aE (!y5) (R BYI) (R (pPP s1.1)))) (0,0,()))))))
abbrev FZ:Sh:=[(true,aF),(true,aF)]
def uF (x:aG×aG):Option T:=some (T.v (Value.int .i64 (TJ x.1 x.2)))
def oO:List T->Option T:=gS FZ uF
def EF {a0 a1}:oO [aH true aF a0,aH true aF a1]=uF (a0,a1):=a8 (s:=FZ) rfl (a0,a1) rfl
def ALV:nJ Tryz.prog 16 oO uF (bR FZ) EW:=eV (a1:=(true,aF)) (a2:=(true,aF)) (Hs:=APA) (k:=8) ABJ aV aY (aQ rfl) ⟨_,_,Tryz.func16,rfl⟩ rfl λ_ _ _=>by kernel_rfl
def AI1:aT Tryz.prog 16 oO:=ALV λa b r h hb=>by
 cases h;obtain ⟨⟨_,_,⟨b2,_⟩,_⟩,_⟩:=hb;have b2:a.2.2.1.length<=2 ^ 47:=b2;have neg:¬ (a.2.1.length=b.2.1.length/\a.2.2.1.length=b.2.2.1.length/\a.2.2.2.1.length=b.2.2.2.1.length/\a.2.2.2.2.1.length=b.2.2.2.2.1.length/\a.2.2.2.2.2.length=b.2.2.2.2.2.length)->pPP (-1)=T.v (Value.int .i64 (TJ a b)):=λh=>by unfold TJ;rw[if_neg h]
 unfold EW BYS BYN BYI BYD;simp only[ae];refine kD (λh=>neg λg=>by omega) λg1=>?_;refine kD (λh=>neg λg=>by omega) λg2=>?_;refine kD (λh=>neg λg=>by omega) λg3=>?_;refine kD (λh=>neg λg=>by omega) λg4=>?_;refine kD (λh=>neg λg=>by omega) λg5=>?_;refine bJ a.2.2.1.length (λk s=>∃ c:Nat,s=((c:Int),(k:Int),())/\c+E7 (a.2.2.1.drop k) (b.2.2.1.drop k)=E7 a.2.2.1 b.2.2.1/\c<=k) ⟨0,rfl,by rw[List.drop_zero,List.drop_zero,Nat.zero_add],al _⟩ ?_;rintro X k s hk ⟨c,rfl,he,hck⟩ hX;dsimp only;refine b8 (λhlt=>?_) λhge=>?_
 ·have hlt:k<a.2.2.1.length:=by omega
  have hlt2:k<b.2.2.1.length:=by omega
  rw[bA (r:=aS) hlt,bA (r:=aS) hlt2];rw[List.drop_eq_getElem_cons hlt,List.drop_eq_getElem_cons hlt2,E7] at he;refine aM (s:=p0) (y:=qM a.2.2.1[k] b.2.2.1[k]) (EG ..) ?_;refine eQ (λh=>hX _ hlt ⟨c+1,?_,?_,by omega⟩) λh=>hX _ hlt ⟨c,?_,?_,by omega⟩
  ·rw[aZ _ (by omega) (by omega),aZ _ (by omega) (by omega)];rfl
  ·rw[if_neg (λe=>by rw[eP.2 e] at h;cases h)] at he;omega
  ·rw[aZ _ (by omega) (by omega)];rfl
  ·rw[if_pos (eP.1 h)] at he;omega
 ·have hkl:k=a.2.2.1.length:=by omega
  rw[List.drop_eq_nil_of_le (by omega),List.drop_eq_nil_of_le (by omega),show E7 [] []=0 from rfl] at he;refine aM (s:=p0) (y:=qM (a.1,a.2.1,b.2.2.1,a.2.2.2) b) (AQ ..) ?_;refine eQ (λh=>?_) λh=>?_
  ·unfold TJ;rw[if_pos ⟨by omega,by omega,by omega,by omega,by omega⟩,if_neg (λe=>by rw[eP.2 e] at h;cases h)]
  ·unfold TJ;rw[if_pos ⟨by omega,by omega,by omega,by omega,by omega⟩,if_pos (eP.1 h)];exact congrArg (λz:Int=>T.v (Value.int .i64 z)) (by omega)
def ANU:Env:=Env.of [(18,.pure AJW),(19,.pure HQ),(6,.pure UH),(8,.pure xT),(14,.pure kP),(15,.pure cT),(16,.pure oO),(17,.pure x8),(12,.pure iP),(7,.pure gT)]
def ABL:bB Tryz.prog ANU:=.cons BND (.cons A8Z (.cons BHZ (.cons AIW (.cons A0X (.cons lF (.cons AI1 (.cons A9C (.cons HF (.cons AP0 (.nil _))))))))))
def BYF:T:=pPR false
def BYJ:Sh:=[(true,aF),(false,Sy.int IntKind.i64)]
def BYM(R:T->Prop):Prop:=aJ BYD (gT []) λ(y4:Bool)=>R (pPR y4)
def BYO(R:T->Prop):Prop:=aJ BYD (gT []) λ(y2:Bool)=>R (pPR y2)
def BYP(y5:aG×Int)(a0:aG)(R:T->Prop)(a2:bD):Prop:=aJ BYE (oO [aH true aF y5.1,aH true aF a0]) λ(y10:Int)=>aE (decide (y10=1)) (BYM R) (aE (decide (y10=0)) (aE (decide (a2.1=6)) (BYM R) (R BYF)) (R BYF))
def EY(a0:aG)(a1:aL)(a2:bD)(R:T->Prop):Prop:=aJ BYD (AJW [aH true aF a0,pPP 40]) λ(y0:Bool)=>aE y0 (aJ BYD (HQ [aH true aW a2]) λ(y1:Bool)=>aE (!y1) (BYO R) (aJ BYE (UH [aH true aF a0,aH true aO a1]) λ(y3:Int)=>aE (!decide (y3=0)) (BYM R) (aJ BYJ (xT [aH true aF a0,aH true aO a1,aH true aW a2]) λ(y5:aG×Int)=>aE (!decide (y5.2=0)) (aJ BYE (kP [aH true aF y5.1]) λ(y6:Int)=>aE (decide (y6=0)) (BYM R) (R BYF)) (aJ BYE (cT [aH true aF y5.1,aH true aO a1]) λ(y8:Int)=>aE (!decide (y8=0)) (R BYF) (aE (!decide (y5.1.1=a0.1)) (R BYF) (aJ BYE (kP [aH true aF y5.1]) λ(y9:Int)=>aE (decide (201<y9)) (R BYF) (aE (decide (a2.1=5)) (BYP y5 a0 R a2) (aE (decide (a2.1=6)) (BYP y5 a0 R a2) (bO true (aE (decide (Int.tmod a2.1 2=0)) (aJ [(true,aW)] (x8 [aH true aW a2]) λ(y16:bD)=>aJ BYJ (xT [aH true aF a0,aH true aO a1, aH true aW y16]) λ(y17:aG×Int)=>aJ BYE (kP [aH true aF y5.1]) λ(y18:Int)=>aJ BYE (kP [aH true aF a0]) λ(y19:Int)=>aE (decide (y18=i64.wrap (y19 + -1))) (aE (decide (y17.2=0)) (aJ BYD (iP [aH true aF y17.1, aH true aF y5.1]) λ(y20:Bool)=>aE y20 (BYO R) (R BYF)) (R BYF)) (R BYF)) (aJ [(true,aW)] (x8 [aH true aW a2]) λ(y22:bD)=>aJ BYJ (xT [aH true aF y5.1,aH true aO a1, aH true aW y22]) λ(y23:aG×Int)=>aJ BYE (kP [aH true aF y5.1]) λ(y24:Int)=>aJ BYE (kP [aH true aF a0]) λ(y25:Int)=>aE (decide (y24=i64.wrap (y25+1))) (aE (decide (y23.2=0)) (aJ BYD (iP [aH true aF y23.1, aH true aF a0]) λ(y26:Bool)=>aE y26 (BYO R) (R BYF)) (R BYF)) (R BYF)))))))))))) (BYO R)
abbrev sR:Sh:=[(true,aF),(true,aO),(true,aW)]
open Classical in
def nF (x:aG×aL×bD):Option T:=if YY (2 ^ 40) sR x then some (pPR true) else none
def UP:List T->Option T:=gS sR nF
def ALX:Of3 Tryz.prog 4 UP nF (bR sR) EY:=MQ (a1:=(true,aF)) (a2:=(true,aO)) (a3:=(true,aW)) (Hs:=c0) (k:=8) ABL aV aY (aQ rfl) ⟨_,_,Tryz.func4,rfl⟩ rfl λ_ _ _ _=>by kernel_rfl
def BDA {d:aG} {x:bD} (hw:okW d x=true) (hl:BKQ d):rB d=true/\rB (iE d x)=true:=by
 simp only[okW,ac] at hw;obtain ⟨⟨hD,hK⟩,hp,hk⟩:=hw;exact ⟨AVO hD hK hl (by omega),AVO (BMS hD hp) (BMT hK hk) (BMR hl) (by omega)⟩
variable {m:aL}
def AZA {d:aG} {x:bD} (h:¬ (cE d m x).2=0):(cE d m x).1=o2:=by
 unfold cE at h ⊢
 repeat' split
 all_goals first|rfl|skip
 all_goals simp_all
variable {K:Bool->Prop}
def ACQ (h:K true):aJ [(false,Sy.bool)] (gT []) K:=aM (s:=[(false,.bool)]) (y:=true) rfl h
def BET {d:aG} (h:K true):aJ [(false,Sy.bool)] (iP [aH true aF d,aH true aF d]) K:=aM (s:=p0) (y:=true) ((AQ ..).trans (by
 unfold oB XE;rw[A8J])) h
def qK.up {B C:Nat} (hBC:B<=C):∀ (r:Sy) {x:r.den},qK B r x->qK C r x
 | .int _,_,h=>h
 | .bool,_,h=>h
 | .str,_,h=>Nat.le_trans h hBC
 | .any,_,h=>h
 | .pr a b,_,h=>⟨qK.up hBC a h.1,qK.up hBC b h.2⟩
 | .li r,_,h=>⟨Nat.le_trans h.1 hBC,Nat.le_trans h.2.1 hBC,λy hy=>qK.up hBC r (h.2.2 y hy)⟩
def BP4 {d:aG} {x:bD} (hd:qK (2 ^ 40) aF d) (hx:qK (2 ^ 40) aW x):(okW d x&&okI d)=true:=by
 have hB:(2:Nat) ^ 40<=2 ^ 47:=Nat.pow_le_pow_right (by decide) (by decide);have h1:InS aF d:=qK.up hB _ hd;have h3:InS aW x:=qK.up hB _ hx;rw[BJS hd,Bool.and_true];unfold okW;rw[BP0 h1,BP1 h1,A3E h3.2.2.2.2.1,A3D h3.2.2.2.2.2.2.1];rfl
def BRQ (h:qK (2 ^ 40) aO m):D8 m:=⟨h.1.2.1,h.2.2.1,λg hg=>(h.1.2.2 g hg).2.2.2.2.1⟩
def BTD {p:bG} (h:qK (2 ^ 40) aS p):AXL p:=⟨h.1,h.2.2.2.1,h.2.2.2.2.2.2.1.1.2.1,h.2.2.2.2.2.2.1.2.2.1,λa ha=>(h.2.2.2.2.2.2.1.2.2.2 a ha).2.1⟩
def AI3:aT Tryz.prog 4 UP:=ALX λd m x r h hb=>by
 clear hb;unfold nF at h;split at h
 case isFalse=>cases h
 rename_i hin;cases h;obtain ⟨i1,i2,i3⟩:=hin;have hm:=BRQ i2;have hb:∀ p∈d.2.2.1,AXL p:=λp hp=>BTD (i1.2.2.1.2.2 p hp);have hw:=BP4 i1 i3;rw[ac] at hw;obtain ⟨hw,hI⟩:=hw;unfold EY BYP BYO BYM BYJ BYF BYE BYD;refine aM (s:=p0) (y:=QJ d 40) (BAD ..) ?_;refine zQ (λhf=>?_) λ_=>ACQ rfl;refine aM (s:=p0) (y:=vG x) (AQ1 ..) ?_;refine eQ (λ_=>ACQ rfl) λ_=>?_;have hF:=A8R hf;obtain ⟨hc,hc2⟩:=BDA hw hF;have hw2:=hw;simp only[okW,ac] at hw2;obtain ⟨⟨hD,hK⟩,hp,hk⟩:=hw2;have hu:okU d=true:=by unfold okU;rw[A8S (by decide) hf,hD,hK,hI];rfl
 obtain ⟨v,hv,hc17⟩:=BQI hu hb hm;refine aM (s:=AES) (y:=v) ((A08 ..).trans hc17) ?_;refine kD (λ_=>ACQ rfl) λh0=>?_;replace h0:=hv h0;refine aM (s:=[(true,aF),(false,.int .i64)]) (y:=cE d m x) (GZ hc hp hk) ?_;have hS:jD d<=200:=by
  obtain ⟨a1,a2,a3,a4,a5⟩:=hF;unfold jD;omega
 refine kD (λhb=>?_) λhe=>?_
 ·rw[AZA hb];exact NX (by decide) (b8 (λ_=>ACQ rfl) λh=>absurd rfl h)
 have dn:=BHP he;rw[dn.eq];dsimp only;obtain ⟨s1,s2,s3⟩:=BKB dn;obtain ⟨k1,k2⟩:=dn.kind;have hS2:jD (iE d x)<=201:=by omega
 refine aM (s:=[(false,.int .i64)]) (y:=oM (iE d x) m) (rK ..) ?_;refine kD (λh=>absurd dn.chk h) λ_=>?_;refine kD (λh=>absurd AU8 h) λ_=>?_;refine NX (by omega) (b8 (λh=>absurd h (by omega)) λ_=>?_);refine b8 (λh5=>?_) λh5=>?_
 ·refine aM (s:=[(false,.int .i64)]) (y:=TJ (iE d x) d) (EF ..) ?_;rcases A8C dn (.inl h5) with e|⟨e,h6⟩
  ·rw[e];exact b8 (λ_=>ACQ rfl) λh=>absurd rfl h
  ·omega
 refine b8 (λh6=>?_) λh6=>?_
 ·refine aM (s:=[(false,.int .i64)]) (y:=TJ (iE d x) d) (EF ..) ?_;rcases A8C dn (.inr h6) with e|⟨e,_⟩
  ·rw[e];exact b8 (λ_=>ACQ rfl) λh=>absurd rfl h
  ·rw[e];exact b8 (λh=>by cases h) λ_=>b8 (λ_=>b8 (λ_=>ACQ rfl) λh=>absurd h6 h) λh=>absurd rfl h
 refine ⟨rfl,?_⟩;rw[Int.tmod_eq_emod_of_nonneg (by omega)];have hr:x8 [aH true aW x]=some (aH true aW (lL x)):=(ARF ..).trans (gO (ai ⟨⟨k1,k2⟩,h5⟩));refine b8 (λho=>?_) λho=>?_
 ·have e2:lL x=x:=BDQ dn.plain (by omega);refine aM (s:=[(true,aW)]) (y:=x) (hr.trans (by rw[e2];rfl)) ?_;refine aM (s:=[(true,aF),(false,.int .i64)]) (y:=cE d m x) (GZ hc hp hk) ?_;rw[dn.eq];have:=s2 ⟨ho,h6⟩;refine NX (by omega) (NX (by omega) ?_);rw[aZ _ (by omega) (by omega)];refine b8 (λ_=>?_) λh=>absurd (by omega) h;refine b8 (λ_=>?_) λh=>absurd rfl h;exact BET (zQ (λ_=>ACQ rfl) λh=>by cases h)
 ·have ha:e9 x=true:=by
   have:x.1=1\/x.1=3\/x.1=7\/x.1=9\/x.1=11:=by omega
   unfold e9;rcases this with h|h|h|h|h<;>rw[h]<;>rfl
  refine aM (s:=[(true,aW)]) (y:=lL x) hr ?_;refine aM (s:=[(true,aF),(false,.int .i64)]) (y:=cE (iE d x) m (lL x)) (GZ hc2 rfl rfl) ?_;rw[BJ7 h0 dn ha];have:=s1 ⟨by omega,h5⟩;refine NX (by omega) (NX (by omega) ?_);rw[aZ _ (by omega) (by omega)];refine b8 (λ_=>?_) λh=>absurd (by omega) h;refine b8 (λ_=>?_) λh=>absurd rfl h;exact BET (zQ (λ_=>ACQ rfl) λh=>by cases h)
def AME:∀ x:aG×aL×bD,YY (2 ^ 40) sR x->nF x=some (.v (.bool true)):=λx h=>if_pos h
end Go.Pv
end
