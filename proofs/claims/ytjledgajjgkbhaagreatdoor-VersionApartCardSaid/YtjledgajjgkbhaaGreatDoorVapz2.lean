/-
  poly.Where; region: edges, within, apart, Check, Area2.
  region: Check, Area2.
  vec.Valid; material: Check, Grade, Rolled.
  part: Check, Mass.
  Chapter 17: the tree's parts and packages in full.
  Chapter 17: the tree's packages in full.
  Chapter 17: Check where the parts and packages are empty ones; StructureLong, walked.
  Chapter 17: structure.Check in full.
  What an edit does to a design, in plain words.
  The reference's material.Check.
  R17.Has.
  The form of a design, as the reference looks at it.
  The closures of edit.kinds: what they come to.
  edit.Apply, the kinds 5 and 6 (the copied parts are turned in place).
  edit.Apply, kind by kind.
  edit.Apply, the kinds 5 and 6 (the copied parts are turned in place).
  shipyardref16.Few, shipyardref19.Few.
  edit.Apply with a kind that there is not; edit.Apply.
-/
import Derived.Test.YtjledgajjgkbhaaGreatDoorVapz1
import Derived.Sort.Walk0
import Derived.Test.YtjledgajjgkbhaaGreatDoorVapkp
set_option linter.defProp false
set_option linter.unusedSimpArgs false
set_option linter.unusedVariables false
set_option maxRecDepth 100000
namespace Go.Pv
open Go Go.Proofs
def AMN (p:List Pt) (q:Pt):Bool:=(List.range p.length).any fun i=>WZ (pt p i) (nx p i) q
def iU (p:List Pt) (q:Pt):Int:=if ¬ dS q∨¬ kS p=0 then -1 else if AMN p q=true then 0 else if A5S p q=true then 1 else -1
theorem yV {n:Nat} {f:Nat→Bool}:(List.range n).any f=true↔∃ i,i<n∧f i=true:=by simp[List.any_eq_true,List.mem_range]
theorem AGU {n:Nat} {f:Nat→Bool} (h:∀ i,i<n→f i=false):(List.range n).any f=false:=by
 rw[Bool.eq_false_iff];intro ha
 obtain ⟨i,hi,h2⟩:=yV.1 ha
 rw[h i hi] at h2;cases h2
theorem AZL {a b q:Pt} (ho:WZ a b q=false):hit a b q=(!(decide (q.2<a.2) == decide (q.2<b.2))&&(decide (0<dZ a b q) == decide (a.2<b.2))):=by
 rcases Int.lt_or_le q.2 a.2 with h1|h1
 ·rcases Int.lt_or_le q.2 b.2 with h2|h2
  ·unfold hit;simp[show ¬ a.2≤q.2 by omega,show ¬ b.2≤q.2 by omega,h1,h2]
  ·have hz:dZ a b q≠0:=fun h=>by
    have:=A62 (a:=b) (b:=a) (q:=q) (by rw[NK a b q,h];rfl) (by omega) h2 (by omega)
    rw[A61] at this;rw[this] at ho;cases ho
   have h3:decide (0<dZ a b q) = !decide (dZ a b q<0):=by
    rcases Int.lt_or_le (dZ a b q) 0 with h|h
    ·rw[decide_eq_true h,decide_eq_false (by omega)];rfl
    ·rw[decide_eq_false (show ¬ dZ a b q<0 by omega),decide_eq_true (by omega)];rfl
   unfold hit
   rw[h3]
   simp[show ¬ a.2≤q.2 by omega,h1,h2,show ¬ q.2<b.2 by omega,show ¬ a.2<b.2 by omega]
 ·rcases Int.lt_or_le q.2 b.2 with h2|h2
  ·unfold hit;simp[h1,show ¬ q.2<a.2 by omega,h2,show ¬ b.2≤q.2 by omega,show a.2<b.2 by omega]
  ·unfold hit;simp[show ¬ q.2<a.2 by omega,show ¬ q.2<b.2 by omega]
noncomputable def ATJ:Env:=Env.of [(146,.pure gQ),(175,.pure CK),(298,.pure xS),(293,.pure gG)]
def AVY:FuncId→Hint:=bX 181 [(5,.inv [.val 5 false .bool,.val 19 false (.int .i64)])] (fun _=>bI)
theorem AFP:aT Tryz.prog ATJ:=.cons CD (.cons ALV (.cons AXV (.cons zD (.nil _))))
def BGG:Sh:=[(false,Sy.int IntKind.i64)]
def BGI:Sh:=[(false,Sy.bool)]
def BGJ:T:=T.v (.int .i64 0)
def BGP:T:=T.v (.int .i64 (-1))
def BGU:T:=T.v (.int .i64 1)
def BHK(a0:List aO):List (List T):=List.map aA.enc a0
def MI(a0:List aO)(a1:aO)(R:T→Prop):Prop:=aI BGI (CK [aF true aA a1]) fun (y0:Bool)=>aD y0 (R BGP) (aI BGG (gQ [T.sl false (BHK a0)]) fun (y1:Int)=>aD (!decide (y1=0)) (R BGP) (aZ (Bool×Int×PUnit) (fun X2 s3=>aD (decide (s3.2.1<(↑(BHK a0).length:Int))) (aP aA (BHK a0) s3.2.1 fun (y4:aO)=>bQ (!decide ((↑(BHK a0).length:Int)=0)) (aP aA (BHK a0) ((IntKind.i64.wrap (s3.2.1+1)).tmod (↑(BHK a0).length:Int)) fun (y5:aO)=>aI BGI (xS [aF true aA y4,aF true aA y5, aF true aA a1]) fun (y6:Bool)=>aD y6 (R BGJ) (aD (decide (decide (a1.2<y4.2)=decide (a1.2<y5.2))) (X2 (s3.1,IntKind.i64.wrap (s3.2.1+1),())) (aI BGG (gG [aF true aA y4,aF true aA y5, aF true aA a1]) fun (y7:Int)=>aD (decide (decide (0<y7)=decide (y4.2<y5.2))) (X2 (!s3.1,IntKind.i64.wrap (s3.2.1+1),())) (X2 (s3.1,IntKind.i64.wrap (s3.2.1+1),())))))) (aD s3.1 (R BGU) (R BGP))) (false,0,())))
abbrev PX:Sh:=[(false,aA.li),(true,aA)]
def AG (x:List aO×aO):Option T:=some (T.v (Value.int .i64 (iU x.1 x.2)))
noncomputable def mV:List T→Option T:=gS PX AG
theorem ACN {a0 a1}:mV [T.sl false (List.map aA.enc a0),aF true aA a1]=AG (a0,a1):=bE (s:=PX) rfl (a0,a1) rfl
theorem AR0:r8 Tryz.prog 181 mV AG (cC PX) MI:=iB (a1:=(false,aA.li)) (a2:=(true,aA)) (sp:=AG) (F:=MI) (Hs:=AVY) (f:=181) (k:=8) AFP aQ aS (aL rfl) ⟨_,_,Tryz.func181,rfl⟩ rfl fun _ _ _=>by kernel_rfl
def xB (p q:List Pt):Bool:=(List.range p.length).any fun i=>(List.range q.length).any fun k=>mY (pt p i) (nx p i) (pt q k) (nx q k)
def mH (a0:List aO) (a1:List aO):List T:=[T.sl false (List.map aA.enc a0),T.sl false (List.map aA.enc a1),T.fn 179 [] []]
noncomputable def LY:Env:=Env.of [(179,.pure xW)]
def Z3:FuncId→Hint:=bX 178 [(2,.inv [.val 13 false (.int .i64)]),(5,.inv [.val 20 false (.int .i64)])] (fun _=>bI)
theorem AFT:aT Tryz.prog LY:=.cons AQF (.nil _)
def BGE:T:=T.v (.bool false)
def BGL:T:=T.v (.bool true)
def BG4(X3:Int×PUnit→Prop)(s4:Int×PUnit):Prop:=X3 (IntKind.i64.wrap (s4.1+1),())
def MO(a0:List aO)(a1:List aO)(R:T→Prop):Prop:=aZ (Int×PUnit) (fun X0 s1=>aD (decide (s1.1<(↑(BHK a0).length:Int))) (aP aA (BHK a0) s1.1 fun (y2:aO)=>aZ (Int×PUnit) (fun X3 s4=>aD (decide (s4.1<(↑(BHK a1).length:Int))) (aP aA (BHK a1) s4.1 fun (y5:aO)=>bQ (!decide ((↑(BHK a0).length:Int)=0)) (aP aA (BHK a0) ((IntKind.i64.wrap (s1.1+1)).tmod (↑(BHK a0).length:Int)) fun (y6:aO)=>bQ (!decide ((↑(BHK a1).length:Int)=0)) (aP aA (BHK a1) ((IntKind.i64.wrap (s4.1+1)).tmod (↑(BHK a1).length:Int)) fun (y7:aO)=>aI BGI (xW [aF true aA y2,aF true aA y6, aF true aA y5,aF true aA y7]) fun (y8:Bool)=>aD y8 (R BGL) (BG4 X3 s4)))) (BG4 X0 s1)) (0,())) (R BGE)) (0,())
theorem ZT ( a0 a1 R):dY bR Tryz.prog LY Z3 8 178 (mH a0 a1) R=MO a0 a1 R:=by kernel_rfl
def O8 {α:Type} (p q:List Pt) (r:α):Option α:=match RF p&&RF q with
 | true=>some r
 | false=>none
theorem O9 {α:Type} {p q:List Pt} {t r:α} (h:O8 p q t=some r):p.length≤1000∧kO p∧q.length≤1000∧kO q∧r=t:=by
 unfold O8 at h;split at h
 ·rename_i hc
  simp only[RF,Bool.and_eq_true,decide_eq_true_eq,nW] at hc
  cases h;exact ⟨hc.1.1,hc.1.2,hc.2.1,hc.2.2,rfl⟩
 ·cases h
theorem PA {α:Type} {p q:List Pt} (t:α) (h:p.length≤1000) (h2:kO p) (h3:q.length≤1000) (h4:kO q):O8 p q t=some t:=by
 unfold O8;rw[show (RF p&&RF q)=true by simp only[RF,Bool.and_eq_true,decide_eq_true_eq,nW];exact ⟨⟨h,h2⟩,h3,h4⟩]
def I7 (x:List aO×List aO):Option T:=O8 x.1 x.2 (T.v (.bool (xB x.1 x.2)))
theorem UE (x y:List aO×List aO) (h:mH x.1 x.2=mH y.1 y.2):x=y:=by
 unfold mH at h
 obtain ⟨h1,h2⟩:=List.cons.inj h
 have h2:=(List.cons.inj h2).1
 exact Prod.ext (map_inj (Sy.dH aA) (T.sl.inj h1).2) (map_inj (Sy.dH aA) (T.sl.inj h2).2)
noncomputable def oH:List T→Option (T):=gA (fun (x:List aO×List aO)=>mH x.1 x.2) I7
theorem ACV (a0:List aO) (a1:List aO):oH (mH a0 a1)=I7 (a0,a1):=eN (A:=(fun (x:List aO×List aO)=>mH x.1 x.2)) UE (a0,a1)
theorem AR6 (h:∀ (a0:List aO) (a1:List aO) (r:T),I7 (a0,a1)=some r→(∀ t∈mH a0 a1,Bd t)→MO a0 a1 (fun y=>y=r)):aN Tryz.prog 178 oH :=
 cK (E:=LY) (Hs:=Z3) AFT aQ aS (aL rfl) 8 ⟨_,_,Tryz.func178,rfl⟩ fun x r h1 h2=>by
  rw[ZT]
  exact h x.1 x.2 r h1 h2
theorem SL:aN Tryz.prog 178 oH:=AR6 fun p q r h hb=>by
 obtain ⟨hl,hn,hl2,hn2,rfl⟩:=O9 h
 replace hl:p.length≤1000:=hl
 replace hl2:q.length≤1000:=hl2
 clear h
 unfold MO BHK BG4 BGL BGI BGE
 refine bM p.length (fun k s=>s=((k:Int),())∧∀ i,i<k→i<p.length→((List.range q.length).any fun k=>mY (pt p i) (nx p i) (pt q k) (nx q k))=false) ⟨rfl,fun i h=>by omega⟩ ?_
 rintro X k s hk ⟨rfl,hJ⟩ hX
 dsimp only
 refine cF (fun hlt=>?_) fun hge=>jI (Eq.symm (AGU fun i hi=>hJ i (by rw[List.length_map] at hge;omega) hi))
 rw[List.length_map] at hlt
 have hlt:k<p.length:=by omega
 have hne:(!decide (((List.map aA.enc p).length:Int)=0))=true:=by rw[List.length_map,decide_eq_false (by omega)];rfl
 have hm1:(k+1) % p.length<p.length:=Nat.mod_lt _ (by omega)
 have i1:(IntKind.i64.wrap ((k:Int)+1)).tmod ((List.map aA.enc p).length:Int)=(((k+1) % p.length:Nat):Int):=by rw[List.length_map];exact vF (c:=1) hl (by omega) (by omega)
 rw[fO hlt]
 refine bM q.length (fun j s=>s=((j:Int),())∧∀ i,i<j→i<q.length→mY (pt p k) (nx p k) (pt q i) (nx q i)=false) ⟨rfl,fun i h=>by omega⟩ ?_
 rintro Y j s hj ⟨rfl,hI⟩ hY
 dsimp only
 refine cF (fun hlj=>?_) fun hgj=>hX _ hlt ⟨by rw[show IntKind.i64.wrap ((k:Int)+1)=((k+1:Nat):Int) from bH _ (by omega) (by omega)],fun i h1 h2=>by
  rcases Nat.lt_or_ge i k with h3|h3
  ·exact hJ i h3 h2
  ·have:i=k:=by omega
   subst this;exact AGU fun m hm=>hI m (by rw[List.length_map] at hgj;omega) hm⟩
 rw[List.length_map] at hlj
 have hlj:j<q.length:=by omega
 have hne2:(!decide (((List.map aA.enc q).length:Int)=0))=true:=by rw[List.length_map,decide_eq_false (by omega)];rfl
 have hm2:(j+1) % q.length<q.length:=Nat.mod_lt _ (by omega)
 have i2:(IntKind.i64.wrap ((j:Int)+1)).tmod ((List.map aA.enc q).length:Int)=(((j+1) % q.length:Nat):Int):=by rw[List.length_map];exact vF (c:=1) hl2 (by omega) (by omega)
 rw[fO hlj,i1]
 refine ⟨hne,?_⟩
 rw[fO hm1,i2]
 refine ⟨hne2,?_⟩
 rw[fO hm2]
 refine aG (s:=[(false,.bool)]) ((AC1 ..).trans (ADN _ (hn.pt _) (hn.pt _) (hn2.pt _) (hn2.pt _))) ?_
 refine BH (fun h=>jI (Eq.symm (yV.2 ⟨k,hlt,yV.2 ⟨j,hlj,h⟩⟩))) fun h=>hY _ hlj ⟨by rw[show IntKind.i64.wrap ((j:Int)+1)=((j+1:Nat):Int) from bH _ (by omega) (by omega)],fun i h1 h2=>by
  rcases Nat.lt_or_ge i j with h3|h3
  ·exact hI i h3 h2
  ·have:i=j:=by omega
   subst this;exact h⟩
theorem JR {p q:List Pt} (h:p.length≤1000) (h2:kO p) (h3:q.length≤1000) (h4:kO q):oH (mH p q)=some (Sh.enc [(false,.bool)] (xB p q)):=(ACV ..).trans (PA _ h h2 h3 h4)
theorem SJ:aN Tryz.prog 181 mV:=AR0 fun p q r h hb=>by
 cases h
 have is:∀ {n:Int},iU p q=n→T.v (.int .i64 n)=T.v (.int .i64 (iU p q)):=fun h=>by rw[h]
 unfold MI BHK BGU BGP BGJ BGI BGG
 refine aG (s:=[(false,.bool)]) (y:=!decide (dS q)) (SX ..) ?_
 refine mA (fun h=>is (by unfold iU;rw[if_pos (.inl h)])) fun hq=>?_
 refine aG (s:=[(false,.int .i64)]) (pB p) ?_
 refine mA (fun h=>is (by unfold iU;rw[if_pos (.inr h)])) fun hp=>?_
 obtain ⟨hl3,hl32,hn,_⟩:=tX hp
 have w:iU p q=if AMN p q=true then 0 else if A5S p q=true then 1 else -1:=by
  unfold iU;rw[if_neg];rintro (h|h)
  ·exact h hq
  ·exact h hp
 refine bM p.length (fun k s=>s=(A21 k (fun i=>hit (pt p i) (nx p i) q),(k:Int),())∧∀ i,i<k→i<p.length→WZ (pt p i) (nx p i) q=false) ⟨rfl,fun i h=>by omega⟩ ?_
 rintro X k s hk ⟨rfl,hJ⟩ hX
 dsimp only
 refine cF (fun hlt=>?_) fun hge=>?_
 ·rw[List.length_map] at hlt
  have hlt:k<p.length:=by omega
  have hne:(!decide (((List.map aA.enc p).length:Int)=0))=true:=by rw[List.length_map,decide_eq_false (by omega)];rfl
  have hm1:(k+1) % p.length<p.length:=Nat.mod_lt _ (by omega)
  have i1:(IntKind.i64.wrap ((k:Int)+1)).tmod ((List.map aA.enc p).length:Int)=(((k+1) % p.length:Nat):Int):=by rw[List.length_map];exact vF (c:=1) (by omega) (by omega) (by omega)
  rw[fO hlt,i1]
  refine ⟨hne,?_⟩
  rw[fO hm1]
  refine aG (s:=[(false,.bool)]) (xT (hn.pt _) (hn.pt _) hq) ?_
  refine BH (fun h=>is (by rw[w,if_pos (show AMN p q=true from yV.2 ⟨k,hlt,h⟩)])) fun ho=>?_
  have ho:WZ (pt p k) (nx p k) q=false:=ho
  have hw:IntKind.i64.wrap ((k:Int)+1)=((k+1:Nat):Int):=bH _ (by omega) (by omega)
  have hh:=AZL ho
  have hJ':∀ i,i<k+1→i<p.length→WZ (pt p i) (nx p i) q=false:=fun i h1 h2=>by
   rcases Nat.lt_or_ge i k with h3|h3
   ·exact hJ i h3 h2
   ·have:i=k:=by omega
    subst this;exact ho
  have step:∀ c,hit (pt p k) (nx p k) q=c→X ((A21 k (fun i=>hit (pt p i) (nx p i) q) ^^ c),IntKind.i64.wrap ((k:Int)+1),()):=fun c hc=>hX _ hlt ⟨by rw[hw,A21,hc],hJ'⟩
  refine cF (fun h=>?_) fun h=>?_
  ·have e:hit (pt p k) (nx p k) q=false:=by
    rw[hh,show decide (q.2<(pt p k).2)=decide (q.2<(nx p k).2) from h];simp
   have:=step false e
   rwa[Bool.xor_false] at this
  ·refine aG (s:=[(false,.int .i64)]) (j3 (hn.pt _) (hn.pt _) hq) ?_
   have e0:hit (pt p k) (nx p k) q=(decide (0<dZ (pt p k) (nx p k) q) == decide ((pt p k).2<(nx p k).2)):=by
    rw[hh,show (decide (q.2<(pt p k).2) == decide (q.2<(nx p k).2))=false from beq_eq_false_iff_ne.2 h];rfl
   refine cF (fun h2=>?_) fun h2=>?_
   ·have:=step true (by rw[e0];exact beq_iff_eq.2 h2)
    rwa[Bool.xor_true] at this
   ·have:=step false (by rw[e0];exact beq_eq_false_iff_ne.2 h2)
    rwa[Bool.xor_false] at this
 ·rw[List.length_map] at hge
  have:k=p.length:=by omega
  subst this
  have hna:AMN p q=false:=AGU fun i hi=>hJ i hi hi
  refine BH (fun h=>is ?_) fun h=>is ?_
  ·rw[w,hna,if_neg (by simp),if_pos (show A5S p q=true from h)]
  ·rw[w,hna,if_neg (by simp),if_neg (by rw[show A5S p q=false from h];simp)]
theorem xU (p:List Pt) (q:Pt):mV [T.sl false (List.map aA.enc p),aF true aA q]=some (Sh.enc [(false,.int .i64)] (iU p q)):=ACN ..
def r7 (p o:List Pt):Bool:=!xB p o&&p.all fun c=>decide (iU o c=1)
def uJ (p q:List Pt):Bool:=!xB p q&&(decide (iU p (pt q 0)<0)&&decide (iU q (pt p 0)<0))
noncomputable def AN6:Env:=Env.of [(181,.pure mV),(178,.pure oH)]
def AO0:FuncId→Hint:=bX 292 [(2,.inv [.val 8 false (.int .i64)])] (fun _=>bI)
theorem ZK:aT Tryz.prog AN6:=.cons SJ (.cons SL (.nil _))
def GZ(a0:List aO)(a1:List aO)(R:T→Prop):Prop:=aI BGI (oH [T.sl false (BHK a0),T.sl false (BHK a1), T.fn 179 [] []]) fun (y0:Bool)=>aD (!y0) (aZ (Int×PUnit) (fun X1 s2=>aD (decide (s2.1<(↑(BHK a0).length:Int))) (aP aA (BHK a0) s2.1 fun (y3:aO)=>aI BGG (mV [T.sl false (BHK a1),aF true aA y3]) fun (y4:Int)=>aD (!decide (y4=1)) (R (T.v (.bool !decide (0≤s2.1)))) (BG4 X1 s2)) (R BGL)) (0,())) (R BGE)
abbrev IL:Sh:=[(false,aA.li),(false,aA.li)]
def v7 (x:List aO×List aO):Option T:=O8 x.1 x.2 (T.v (.bool (r7 x.1 x.2)))
noncomputable def pQ:List T→Option T:=gS IL v7
theorem WE {a0 a1}:pQ [T.sl false (List.map aA.enc a0),T.sl false (List.map aA.enc a1)]=v7 (a0,a1):=bE (s:=IL) rfl (a0,a1) rfl
theorem AJF:r8 Tryz.prog 148 pQ v7 (cC IL) GZ:=iB (a1:=(false,aA.li)) (a2:=(false,aA.li)) (sp:=v7) (F:=GZ) (Hs:=AO0) (f:=148) (k:=8) ZK aQ aS (aL rfl) ⟨_,_,Tryz.func148,rfl⟩ rfl fun _ _ _=>by kernel_rfl
theorem AHR:aN Tryz.prog 148 pQ:=AJF fun p o r h hb=>by
 obtain ⟨hl,hn,hl2,hn2,rfl⟩:=O9 h
 replace hl:p.length≤1000:=hl
 clear h
 unfold GZ BHK BG4 BGL BGI BGG BGE
 refine aG (s:=[(false,.bool)]) (JR hl hn hl2 hn2) ?_
 refine jS (fun he=>?_) fun he=>jI (by unfold r7;rw[show xB p o=true from he];rfl)
 have w:r7 p o=p.all fun c=>decide (iU o c=1):=by unfold r7;rw[show xB p o=false from he];rfl
 refine bM p.length (fun k s=>s=((k:Int),())∧p.all (fun c=>decide (iU o c=1))=(p.drop k).all fun c=>decide (iU o c=1)) ⟨rfl,by rw[List.drop_zero]⟩ ?_
 rintro X k s hk ⟨rfl,hJ⟩ hX
 dsimp only
 refine cF (fun hlt=>?_) fun hge=>jI ?_
 ·rw[List.length_map] at hlt
  have hlt:k<p.length:=by omega
  rw[List.drop_eq_getElem_cons hlt,List.all_cons] at hJ
  rw[bG (r:=aA) hlt]
  refine aG (s:=[(false,.int .i64)]) (xU o p[k]) ?_
  refine mA (fun h=>jI ?_) fun h=>hX _ hlt ⟨by rw[show IntKind.i64.wrap ((k:Int)+1)=((k+1:Nat):Int) from bH _ (by omega) (by omega)],by rw[hJ,decide_eq_true (show iU o p[k]=1 from h),Bool.true_and]⟩
  rw[w,hJ,decide_eq_false (show ¬ iU o p[k]=1 from h),decide_eq_true (show 0≤(k:Int) by omega)];rfl
 ·rw[List.length_map] at hge
  have:k=p.length:=by omega
  subst this
  rw[w,hJ,List.drop_length];rfl
theorem WG {p q:List Pt} (h:p.length≤1000) (h2:kO p) (h3:q.length≤1000) (h4:kO q):pQ [T.sl false (List.map aA.enc p),T.sl false (List.map aA.enc q)]=some (Sh.enc [(false,.bool)] (r7 p q)):=(WE ..).trans (PA _ h h2 h3 h4)
def AJL (p q:List Pt) (t:T):Option T:=match p,q with
 | _::_,_::_=>O8 p q t
 | _,_=>none
noncomputable def ATK:Env:=Env.of [(181,.pure mV),(178,.pure oH)]
theorem AFQ:aT Tryz.prog ATK:=.cons SJ (.cons SL (.nil _))
def MJ(a0:List aO)(a1:List aO)(R:T→Prop):Prop:=aI BGI (oH [T.sl false (BHK a0),T.sl false (BHK a1), T.fn 179 [] []]) fun (y0:Bool)=>aD (!y0) (aP aA (BHK a1) 0 fun (y1:aO)=>aI BGG (mV [T.sl false (BHK a0),aF true aA y1]) fun (y2:Int)=>aD (decide (y2<0)) (aP aA (BHK a0) 0 fun (y3:aO)=>aI BGG (mV [T.sl false (BHK a1),aF true aA y3]) fun (y4:Int)=>R (T.v (.bool (decide (y4<0))))) (R BGE)) (R BGE)
abbrev PY:Sh:=[(false,aA.li),(false,aA.li)]
def pU (x:List aO×List aO):Option T:=AJL x.1 x.2 (T.v (.bool (uJ x.1 x.2)))
noncomputable def tM:List T→Option T:=gS PY pU
theorem ACO {a0 a1}:tM [T.sl false (List.map aA.enc a0),T.sl false (List.map aA.enc a1)]=pU (a0,a1):=bE (s:=PY) rfl (a0,a1) rfl
theorem AR1:r8 Tryz.prog 149 tM pU (cC PY) MJ:=iB (a1:=(false,aA.li)) (a2:=(false,aA.li)) (sp:=pU) (F:=MJ) (Hs:=dI) (f:=149) (k:=8) AFQ aQ aS (aL rfl) ⟨_,_,Tryz.func149,rfl⟩ rfl fun _ _ _=>by kernel_rfl
theorem AQB:aN Tryz.prog 149 tM:=AR1 fun p q r h hb=>by
 unfold pU AJL at h
 split at h
 ·rename_i e1 e2
  obtain ⟨hl,hn,hl2,hn2,rfl⟩:=O9 h
  have k1:0<p.length:=by rw[show p=_ from e1];simp
  have k2:0<q.length:=by rw[show q=_ from e2];simp
  clear h
  unfold MJ BHK BGI BGG BGE
  refine aG (s:=[(false,.bool)]) (JR hl hn hl2 hn2) ?_
  refine jS (fun he=>?_) fun he=>jI (by unfold uJ;rw[show xB p q=true from he];rfl)
  have w:uJ p q=(decide (iU p (pt q 0)<0)&&decide (iU q (pt p 0)<0)):=by unfold uJ;rw[show xB p q=false from he];rfl
  rw[show (0:Int)=((0:Nat):Int) from rfl,fO k2]
  refine aG (s:=[(false,.int .i64)]) (xU p (pt q 0)) ?_
  refine cF (fun h=>?_) fun h=>jI (by rw[w,decide_eq_false (show ¬ iU p (pt q 0)<0 from h)];rfl)
  rw[fO k1]
  refine aG (s:=[(false,.int .i64)]) (xU q (pt p 0)) ?_
  exact jI (by rw[w,decide_eq_true (show iU p (pt q 0)<0 from h)];rfl)
 ·cases h
theorem ACP {p q:List Pt} (k1:0<p.length) (k2:0<q.length) (h:p.length≤1000) (h2:kO p) (h3:q.length≤1000) (h4:kO q):tM [T.sl false (List.map aA.enc p),T.sl false (List.map aA.enc q)]=some (Sh.enc [(false,.bool)] (uJ p q)):=by
 refine (ACO ..).trans ?_
 unfold pU AJL
 cases p with
 | nil=>simp at k1
 | cons a p=>cases q with
  | nil=>simp at k2
  | cons b q=>exact PA _ h h2 h3 h4
end Go.Pv
namespace Go.Pv
open Go Go.Proofs
theorem rM {r:Sy} {l:List r.den} (f:Nat→Int) (hl:l.length≤1000000) {Body:(Int×PUnit→Prop)→Int×PUnit→r.den→Prop} {Exit:Prop}
  (hbody:∀ (X:Int×PUnit→Prop) (k:Nat) (hk:k<l.length),(∀ j,j<k→f j=0)→(f k=0→X (((k+1:Nat):Int),()))→(f k≠0→cI f (List.range l.length)=f k)→Body X ((k:Int),()) l[k]) (hexit:cI f (List.range l.length)=0→Exit) :
  aZ (Int×PUnit) (fun (X:Int×PUnit→Prop) (s:Int×PUnit)=>aD (decide (s.1<((List.map r.enc l).length:Int))) (aP r (List.map r.enc l) s.1 fun y=>Body X s y) Exit) (0,()):=by
 refine bM l.length (fun k s=>s=((k:Int),())∧cI f (List.range l.length)=cI f (List.range' k (l.length-k))∧∀ j,j<k→f j=0) ⟨rfl,by rw[List.range_eq_range'];rfl,fun j h=>by omega⟩ ?_
 rintro X k s hk ⟨rfl,he,hp⟩ hX
 dsimp only
 refine cF (fun hlt=>?_) fun hge=>?_
 ·rw[List.length_map] at hlt
  have hlt:k<l.length:=by omega
  rw[bG hlt]
  obtain ⟨m,hm⟩:∃ m,l.length-k=m+1:=⟨l.length-k-1,by omega⟩
  rw[hm,List.range'_succ,cI] at he
  refine hbody X k hlt hp (fun h0=>?_) fun h0=>by rw[he,if_neg h0]
  rw[if_pos h0] at he
  exact hX _ hlt ⟨rfl,by rw[he];congr 2;omega,fun j hj=>by
   rcases Nat.lt_or_ge j k with h|h
   ·exact hp j h
   ·have:j=k:=by omega
    subst this;exact h0⟩
 ·rw[List.length_map] at hge
  have:l.length-k=0:=by omega
  rw[this] at he
  exact hexit he
def JV (s:jQ) (i:Nat):Int:=if ¬ kS (s.2.getD i [])=0 then kS (s.2.getD i []) else if 0≤rJ (s.2.getD i [])∨r7 (s.2.getD i []) s.1=false then 17 else if ((List.range i).all fun k=>uJ (s.2.getD i []) (s.2.getD k []))=false then 17 else 0
def yI (s:jQ):Int:=if 8<s.2.length then 12 else if ¬ kS s.1=0 then kS s.1 else if rJ s.1≤0 then 17 else cI (JV s) (List.range s.2.length)
theorem JK {α:Type} {f:α→Int}:∀ {l:List α},cI f l=0→∀ a∈l,f a=0
 | a::l,h,b,hb=>by
  unfold cI at h
  by_cases ha:f a=0
  ·rw[if_pos ha] at h
   rcases List.mem_cons.1 hb with rfl|hb
   ·exact ha
   ·exact JK h b hb
  ·rw[if_neg ha] at h;exact absurd h ha
 | [],_,b,hb=>by cases hb
theorem ASD (l:List (List aO)):H6 1 (List.map aA.li.enc l)=true:=by cases l<;>rfl
noncomputable def ATM:Env:=Env.of [(146,.pure gQ),(147,.pure mT),(148,.pure pQ),(149,.pure tM)]
def AV0:FuncId→Hint:=bX 126 [(9,.inv [.val 26 false (.int .i64)]),(17,.inv [.val 51 false (.int .i64)])] (fun _=>bI)
theorem AFS:aT Tryz.prog ATM:=.cons CD (.cons SI (.cons AHR (.cons AQB (.nil _))))
def BGV:T:=T.v (.int .i64 17)
def BHX(y0:Int):T:=T.v (.int .i64 y0)
def BHW(a0:jQ):List (List T):=List.map aA.li.enc a0.2
def BIR(a0:jQ):List T:=[T.sl false (List.map aA.enc a0.1)]
def ML(a0:jQ)(R:T→Prop):Prop:=aD (decide (8<(↑(BHW a0).length:Int))) (R (T.v (.int .i64 12))) (aI BGG (gQ (BIR a0)) fun (y0:Int)=>aD (!decide (y0=0)) (R (BHX y0)) (aI BGG (mT (BIR a0)) fun (y1:Int)=>aD (decide (y1≤0)) (R BGV) (aZ (Int×PUnit) (fun X2 s3=>aD (decide (s3.1<(↑(BHW a0).length:Int))) (aP aA.li (BHW a0) s3.1 fun (y4:List aO)=>aI BGG (gQ [T.sl false (BHK y4)]) fun (y5:Int)=>aD (!decide (y5=0)) (R (BHX y5)) (aI BGG (mT [T.sl false (BHK y4)]) fun (y6:Int)=>aD (decide (0≤y6)) (R BGV) (aI BGI (pQ [T.sl false (BHK y4), T.sl false (List.map aA.enc a0.1)]) fun (y7:Bool)=>aD (!y7) (R BGV) (bQ (H6 1 (BHW a0) && (decide (0≤s3.1) && decide (Int.toNat s3.1≤(BHW a0).length)) && true) (aZ (Int×PUnit) (fun X8 s9=>aD (decide (s9.1 < (↑(List.drop 0 (List.take (Int.toNat s3.1) (BHW a0))).length : Int))) (aP aA.li (List.drop 0 (List.take (Int.toNat s3.1) (BHW a0))) s9.1 fun (y10:List aO)=>aI BGI (tM [T.sl false (BHK y4), T.sl false (BHK y10)]) fun (y11:Bool)=>aD (!y11) (R BGV) (BG4 X8 s9)) (BG4 X2 s3)) (0,())))))) (R BGJ)) (0,()))))
abbrev P0:Sh:=[(true,eR)]
def AI (s:jQ):Option T:=some (T.v (Value.int .i64 (yI s)))
noncomputable def jK:List T→Option T:=gS P0 AI
theorem ACS {a0}:jK [aF true eR a0]=AI (a0):=bE (s:=P0) rfl (a0) rfl
theorem AR3:uH Tryz.prog 126 jK AI (cC P0) ML:=iW (a1:=(true,eR)) (sp:=AI) (F:=ML) (Hs:=AV0) (f:=126) (k:=8) AFS aQ aS (aL rfl) ⟨_,_,Tryz.func126,rfl⟩ rfl fun _ _=>by kernel_rfl
theorem SK:aN Tryz.prog 126 jK:=AR3 fun s r h hb=>by
 cases h
 have is:∀ {n:Int},yI s=n→T.v (.int .i64 n)=T.v (.int .i64 (yI s)):=fun h=>by rw[h]
 unfold ML BIR BHW BHK BG4 BHX BGV BGJ BGI BGG
 refine cF (fun h=>is (by rw[List.length_map] at h;unfold yI;rw[if_pos (by omega)])) fun h1=>?_
 rw[List.length_map] at h1
 refine aG (s:=[(false,.int .i64)]) (pB s.1) ?_
 refine mA (fun h=>is (by unfold yI;rw[if_neg (by omega),if_pos h])) fun h2=>?_
 refine aG (s:=[(false,.int .i64)]) (xR s.1) ?_
 refine cF (fun h=>is (by unfold yI;rw[if_neg (by omega),if_neg (by simpa using h2),if_pos h])) fun h3=>?_
 have w:yI s=cI (JV s) (List.range s.2.length):=by unfold yI;rw[if_neg (by omega),if_neg (by simpa using h2),if_neg h3]
 obtain ⟨ho3,ho32,hoN,_⟩:=tX h2
 refine rM (r:=aA.li) (JV s) (by show s.2.length≤1000000;omega) (fun X k hk hprev hok hbad=>?_) fun h0=>is (w.trans h0)
 have hk:k<s.2.length:=hk
 have hg:s.2.getD k []=s.2[k]:=by rw[List.getD_eq_getElem?_getD,List.getElem?_eq_getElem hk];rfl
 have bad:∀ {n:Int},n≠0→JV s k=n→T.v (.int .i64 n)=T.v (.int .i64 (yI s)):=fun hn h=>is (w.trans ((hbad (by rw[h];exact hn)).trans h))
 have hE:JV s k=if ¬ kS s.2[k]=0 then kS s.2[k] else if 0≤rJ s.2[k]∨r7 s.2[k] s.1=false then 17 else if ((List.range k).all fun j=>uJ s.2[k] (s.2.getD j []))=false then 17 else 0:=by unfold JV;rw[hg]
 show aI [(false,Sy.int IntKind.i64)] (gQ [T.sl false (List.map aA.enc s.2[k])]) _
 refine aG (s:=[(false,.int .i64)]) (pB s.2[k]) ?_
 refine mA (fun h=>bad h (by rw[hE,if_pos h])) fun p1=>?_
 refine aG (s:=[(false,.int .i64)]) (xR s.2[k]) ?_
 refine cF (fun h=>bad (by decide) (by rw[hE,if_neg (by simpa using p1),if_pos (.inl h)])) fun p2=>?_
 obtain ⟨hp3,hp32,hpN,_⟩:=tX p1
 refine aG (s:=[(false,.bool)]) (WG (by omega) hpN (by omega) hoN) ?_
 refine jS (fun h=>bad (by decide) (by rw[hE,if_neg (by simpa using p1),if_pos (.inr h)])) fun p3=>?_
 have hE2:JV s k=if ((List.range k).all fun j=>uJ s.2[k] (s.2.getD j []))=false then 17 else 0:=by
  rw[hE,if_neg (by simpa using p1),if_neg]
  rintro (h|h)
  ·exact p2 h
  ·rw[show r7 s.2[k] s.1=true from p3] at h;cases h
 refine ⟨by rw[ASD,List.length_map];simp;omega,?_⟩
 have htk:List.drop 0 (List.take (Int.toNat (k:Int)) (List.map aA.li.enc s.2))=List.map aA.li.enc (s.2.take k):=by rw[List.drop_zero,Int.toNat_natCast,List.map_take]
 dsimp only
 rw[htk]
 have ht:(s.2.take k).length=k:=by rw[List.length_take];omega
 refine bM k (fun j s'=>s'=((j:Int),())∧∀ i,i<j→uJ s.2[k] (s.2.getD i [])=true) ⟨rfl,fun i h=>by omega⟩ ?_
 rintro Y j s' hj ⟨rfl,hJ⟩ hY
 dsimp only
 refine cF (fun hlt=>?_) fun hge=>?_
 ·rw[List.length_map,ht] at hlt
  have hlt:j<k:=by omega
  rw[bG (r:=aA.li) (show j<(s.2.take k).length by omega)]
  have hgj:s.2.getD j []=s.2[j]:=by rw[List.getD_eq_getElem?_getD,List.getElem?_eq_getElem (by omega)];rfl
  have hgt:(s.2.take k)[j]'(by omega)=s.2[j]:=by simp
  rw[hgt]
  have hj0:kS s.2[j]=0:=by
   have h0:=hprev j hlt
   unfold JV at h0
   rw[hgj] at h0
   refine Classical.byContradiction fun hc=>?_
   rw[if_pos hc] at h0
   exact hc h0
  obtain ⟨hq3,hq32,hqN,_⟩:=tX hj0
  refine aG (s:=[(false,.bool)]) (ACP (by omega) (by omega) (by omega) hpN (by omega) hqN) ?_
  refine jS (fun h=>bad (by decide) ?_) fun h=>hY _ hlt ⟨by rw[show IntKind.i64.wrap ((j:Int)+1)=((j+1:Nat):Int) from bH _ (by omega) (by omega)],fun i hi=>by
   rcases Nat.lt_or_ge i j with h3|h3
   ·exact hJ i h3
   ·have:i=j:=by omega
    subst this;rw[hgj];exact h⟩
  rw[hE2,if_pos (VJ hlt (by rw[hgj];exact h))]
 ·rw[List.length_map,ht] at hge
  have:j=k:=by omega
  subst this
  rw[show IntKind.i64.wrap ((j:Int)+1)=((j+1:Nat):Int) from bH _ (by omega) (by omega)]
  refine hok ?_
  rw[hE2,if_neg]
  rw[pK.2 hJ];simp
theorem JQ (s:jQ):jK [aF true eR s]=some (Sh.enc [(false,.int .i64)] (yI s)):=ACS ..
def MM(a0:jQ)(R:T→Prop):Prop:=aD (BHW a0).isEmpty (R (T.sl false [(BIR a0)])) (bQ (fE 1 (BHW a0) && decide ((1+(BHW a0).length)*24≤140737488355328) && decide (1+(BHW a0).length≤140737488355328)) (R (T.sl false ((BIR a0) :: (BHW a0)))))
abbrev P1:Sh:=[(true,eR)]
abbrev A1L:Sh:=[(false,aA.li.li)]
def pV (s:jQ):Option T:=match decide (s.2.length≤1000) with
 | true=>some (Sh.enc A1L (s.1::s.2))
 | false=>none
noncomputable def xV:List T→Option T:=gS P1 pV
theorem ACT {a0}:xV [aF true eR a0]=pV (a0):=bE (s:=P1) rfl (a0) rfl
theorem AR4:uH Tryz.prog 156 xV pV (cC P1) MM:=iW (a1:=(true,eR)) (sp:=pV) (F:=MM) (Hs:=dI) (f:=156) (k:=8) (bW _) aQ aS (aL rfl) ⟨_,_,Tryz.func156,rfl⟩ rfl fun _ _=>by kernel_rfl
theorem AQD:aN Tryz.prog 156 xV:=AR4 fun s r h hb=>by
 unfold pV at h
 split at h
 ·rename_i hc
  have hc:s.2.length≤1000:=of_decide_eq_true hc
  cases h
  obtain ⟨o,hs⟩:=s
  unfold MM BIR BHW
  cases hs with
  | nil=>exact (rfl:T.sl false [[T.sl false (List.map aA.enc o)]]=_)
  | cons a l =>
   show bQ _ _
   refine ⟨?_,rfl⟩
   simp only[Bool.and_eq_true,decide_eq_true_eq,List.length_map]
   have hc:(a::l).length≤1000:=hc
   exact ⟨⟨sS (.li aA) (a::l),by omega⟩,by omega⟩
 ·cases h
def BE9 (l:List (List Pt)):Int:=AU l.length fun i=>rJ (l.getD i [])
def AD9 (s:jQ):Int:=if yI s=0 then BE9 (s.1::s.2) else 0
theorem AAF (p:List Pt):-68719476736≤rJ p∧rJ p≤68719476736:=by
 unfold rJ
 by_cases h:kS p=0
 ·rw[if_pos h]
  obtain ⟨_,h2,h3,_⟩:=tX h
  have:=KU h3 p.length
  unfold M9
  omega
 ·rw[if_neg h];omega
theorem AM7 (l:List (List Pt)):∀ n:Nat,-(68719476736*(n:Int))≤AU n (fun i=>rJ (l.getD i []))∧AU n (fun i=>rJ (l.getD i []))≤68719476736*(n:Int)
 | 0=>by simp[AU]
 | n+1=>by
  have ih:=AM7 l n
  have hb:=AAF (l.getD n [])
  unfold AU
  constructor<;>push_cast<;>omega
noncomputable def ATL:Env:=Env.of [(126,.pure jK),(156,.pure xV),(147,.pure mT)]
def AVZ:FuncId→Hint:=bX 131 [(5,.inv [.val 3 false (.int .i64),.val 12 false (.int .i64)])] (fun _=>bI)
theorem AFR:aT Tryz.prog ATL:=.cons SK (.cons AQD (.cons SI (.nil _)))
def MK(a0:jQ)(R:T→Prop):Prop:=aI BGG (jK [aF true eR a0]) fun (y0:Int)=>aD (!decide (y0=0)) (R BGJ) (aI [(false,aA.li.li)] (xV [aF true eR a0]) fun (y1:List (List aO))=>aZ (Int×Int×PUnit) (fun X2 s3=>aD (decide (s3.2.1<(↑(List.map aA.li.enc y1).length:Int))) (aP aA.li (List.map aA.li.enc y1) s3.2.1 fun (y4:List aO)=>aI BGG (mT [T.sl false (BHK y4)]) fun (y5:Int)=>X2 (IntKind.i64.wrap (s3.1+y5),IntKind.i64.wrap (s3.2.1+1),())) (R (T.v (.int .i64 s3.1)))) (0,0,()))
abbrev PZ:Sh:=[(true,eR)]
def AH (s:jQ):Option T:=some (T.v (Value.int .i64 (AD9 s)))
noncomputable def tN:List T→Option T:=gS PZ AH
theorem ACQ {a0}:tN [aF true eR a0]=AH (a0):=bE (s:=PZ) rfl (a0) rfl
theorem AR2:uH Tryz.prog 131 tN AH (cC PZ) MK:=iW (a1:=(true,eR)) (sp:=AH) (F:=MK) (Hs:=AVZ) (f:=131) (k:=8) AFR aQ aS (aL rfl) ⟨_,_,Tryz.func131,rfl⟩ rfl fun _ _=>by kernel_rfl
theorem AQC:aN Tryz.prog 131 tN:=AR2 fun s r h hb=>by
 cases h
 have is:∀ {n:Int},AD9 s=n→T.v (.int .i64 n)=T.v (.int .i64 (AD9 s)):=fun h=>by rw[h]
 unfold MK BHK BGJ BGG
 refine aG (s:=[(false,.int .i64)]) (JQ s) ?_
 refine mA (fun h=>is (by unfold AD9;rw[if_neg h])) fun h=>?_
 have h8:s.2.length≤8:=by
  refine Classical.byContradiction fun hc=>?_
  unfold yI at h
  rw[if_pos (by omega)] at h;cases h
 refine aG (s:=[(false,.li (.li aA))]) (y:=(s.1::s.2:List (List aO))) ((ACT ..).trans (by unfold pV;rw[decide_eq_true (by omega)])) ?_
 have w:AD9 s=BE9 (s.1::s.2):=by unfold AD9;rw[if_pos h]
 have hlen:(s.1::s.2).length≤9:=by simp;omega
 generalize s.1::s.2=l at w hlen
 refine bM l.length (fun k t=>t=(AU k (fun i=>rJ (l.getD i [])),(k:Int),())) rfl ?_
 rintro X k t hk rfl hX
 dsimp only
 refine cF (fun hlt=>?_) fun hge=>is (by rw[List.length_map] at hge;rw[w,show k=l.length by omega];rfl)
 rw[List.length_map] at hlt
 have hlt:k<l.length:=by omega
 rw[bG (r:=aA.li) hlt]
 have hg:l.getD k []=l[k]:=by rw[List.getD_eq_getElem?_getD,List.getElem?_eq_getElem hlt];rfl
 refine aG (s:=[(false,.int .i64)]) (xR l[k]) ?_
 refine hX _ hlt ?_
 have b1:=AM7 l k
 have b2:=AAF l[k]
 rw[show IntKind.i64.wrap ((k:Int)+1)=((k+1:Nat):Int) from bH _ (by omega) (by omega),bH _ (by omega) (by omega),AU,hg]
theorem ACR (s:jQ):tN [aF true eR s]=some (Sh.enc [(false,.int .i64)] (AD9 s)):=ACQ ..
end Go.Pv
namespace Go.Pv
open Go Go.Proofs
def AO3:FuncId→Hint:=bX 150 [(2,.YU 4)] (fun _=>bI)
def G4(a0:AO4)(a1:Int)(R:T→Prop):Prop:=aD (decide (a0.1<IntKind.i64.wrap (0-a1))) (R BGE) (aD (decide (a1<a0.1)) (R BGE) (aD (decide (a0.2.1<IntKind.i64.wrap (0-a1))) (R BGE) (aD (decide (a1<a0.2.1)) (R BGE) (aD (decide (a0.2.2<IntKind.i64.wrap (0-a1))) (R BGE) (aD (decide (a1<a0.2.2)) (R BGE) (R BGL))))))
abbrev IT:Sh:=[(true,ASY),(false,(Sy.int IntKind.i64))]
def BP (v:AO4):Bool:=decide (-524288≤v.1)&&decide (v.1≤524288)&&(decide (-524288≤v.2.1)&&decide (v.2.1≤524288))&&(decide (-524288≤v.2.2)&&decide (v.2.2≤524288))
def qT (x:AO4×Int):Option T:=match decide (x.2=524288) with
 | true=>some (T.v (.bool (BP x.1)))
 | false=>none
noncomputable def tT:List T→Option T:=gS IT qT
theorem WL {a0 a1}:tT [aF true ASY a0,T.v (.int .i64 a1)]=qT (a0,a1):=bE (s:=IT) rfl (a0,a1) rfl
theorem AJK:r8 Tryz.prog 150 tT qT (cC IT) G4:=iB (a1:=(true,ASY)) (a2:=(false,(Sy.int IntKind.i64))) (sp:=qT) (F:=G4) (Hs:=AO3) (f:=150) (k:=8) (bW _) aQ aS (aL rfl) ⟨_,_,Tryz.func150,rfl⟩ rfl fun _ _ _=>by kernel_rfl
theorem AHV:aN Tryz.prog 150 tT:=AJK fun v n r h hb=>by
 unfold qT at h
 split at h
 ·rename_i hn
  have hn:n=524288:=of_decide_eq_true hn
  subst hn
  cases h
  unfold G4 BGL BGE
  rw[show IntKind.i64.wrap (0-524288) = -524288 from rfl]
  have no:∀ {P:Prop},(¬ (-524288≤v.1∧v.1≤524288∧-524288≤v.2.1∧v.2.1≤524288∧-524288≤v.2.2∧v.2.2≤524288))→T.v (.bool false)=T.v (.bool (BP v)):=fun h=>jI (Eq.symm (by
   rw[Bool.eq_false_iff];intro h2;simp only[BP,Bool.and_eq_true,decide_eq_true_eq] at h2;omega))
  refine cF (fun h=>no (P:=True) (by omega)) fun h1=>cF (fun h=>no (P:=True) (by omega)) fun h2=>cF (fun h=>no (P:=True) (by omega)) fun h3=>cF (fun h=>no (P:=True) (by omega)) fun h4=>cF (fun h=>no (P:=True) (by omega)) fun h5=>cF (fun h=>no (P:=True) (by omega)) fun h6=>jI ?_
  simp only[BP]
  rw[decide_eq_true (by omega),decide_eq_true (by omega),decide_eq_true (by omega),decide_eq_true (by omega),decide_eq_true (by omega),decide_eq_true (by omega)];rfl
 ·cases h
def AI1 (t:Int):Int:=if t<0∨24≤t then 0 else t
def G3(a0:Int)(R:T→Prop):Prop:=aD (decide (a0<0)) (R BGJ) (aD (decide (24≤a0)) (R BGJ) (R (BHX a0)))
abbrev IS:Sh:=[(false,(Sy.int IntKind.i64))]
def wA (t:Int):Option T:=some (T.v (Value.int .i64 (AI1 t)))
noncomputable def tQ:List T→Option T:=gS IS wA
theorem WK {a0}:tQ [T.v (.int .i64 a0)]=wA (a0):=bE (s:=IS) rfl (a0) rfl
theorem AJJ:uH Tryz.prog 151 tQ wA (cC IS) G3:=iW (a1:=(false,(Sy.int IntKind.i64))) (sp:=wA) (F:=G3) (Hs:=dI) (f:=151) (k:=8) (bW _) aQ aS (aL rfl) ⟨_,_,Tryz.func151,rfl⟩ rfl fun _ _=>by kernel_rfl
theorem AHU:aN Tryz.prog 151 tQ:=AJJ fun t r h hb=>by
 cases h
 unfold G3 BHX BGJ
 exact cF (fun h=>KH (by unfold AI1;rw[if_pos (.inl h)])) fun h1=>cF (fun h=>KH (by unfold AI1;rw[if_pos (.inr h)])) fun h2=>KH (by unfold AI1;rw[if_neg (by omega)])
def sH (p:B2):Bool:=BP p.1&&decide (p.2=AI1 p.2)
noncomputable def ATP:Env:=Env.of [(150,.pure tT),(151,.pure tQ)]
theorem AFW:aT Tryz.prog ATP:=.cons AHV (.cons AHU (.nil _))
def MV(a0:B2)(R:T→Prop):Prop:=aI BGI (tT [aF true ASY a0.1,T.v (.int .i64 524288)]) fun (y0:Bool)=>aD y0 (aI BGG (tQ [T.v (.int .i64 a0.2)]) fun (y1:Int)=>R (T.v (.bool (decide (a0.2=y1))))) (R BGE)
abbrev P7:Sh:=[(true,fD)]
def AM (p:B2):Option T:=some (T.v (.bool (sH p)))
noncomputable def cL:List T→Option T:=gS P7 AM
theorem JU {a0}:cL [aF true fD a0]=AM (a0):=bE (s:=P7) rfl (a0) rfl
theorem ASC:uH Tryz.prog 128 cL AM (cC P7) MV:=iW (a1:=(true,fD)) (sp:=AM) (F:=MV) (Hs:=dI) (f:=128) (k:=8) AFW aQ aS (aL rfl) ⟨_,_,Tryz.func128,rfl⟩ rfl fun _ _=>by kernel_rfl
theorem AQJ:aN Tryz.prog 128 cL:=ASC fun p r h hb=>by
 cases h
 unfold MV BGI BGG BGE
 refine aG (s:=[(false,.bool)]) (y:=BP p.1) (WL ..) ?_
 refine BH (fun h=>?_) fun h=>jI (by unfold sH;rw[h];rfl)
 refine aG (s:=[(false,.int .i64)]) (y:=AI1 p.2) (WK ..) ?_
 exact jI (by unfold sH;rw[h];rfl)
def HV (l:List Int) (i:Nat):Int:=if ¬ (1≤l.getD i 0∧l.getD i 0≤120) then 9 else if 0<i∧l.getD i 0≤l.getD (i-1) 0 then 11 else 0
def jR (g:cR):Int:=if isName g.1=false then 6 else if ¬ (1000≤g.2.1∧g.2.1≤20000∧100≤g.2.2.1∧g.2.2.1≤1500) then 9 else if g.2.2.2.length=0 then 3 else if 16<g.2.2.2.length then 4 else cI (HV g.2.2.2) (List.range g.2.2.2.length)
def KM (s:cG):Int:=if isName s.1=false then 6 else if ¬ (1≤s.2.1∧s.2.1≤1000000∧1≤s.2.2.1∧s.2.2.1≤2000∧100≤s.2.2.2∧s.2.2.2≤32768) then 9 else 0
theorem JW (s:ByteArray) (K:Bool→Prop):aI [(false,Sy.bool)] (iO [T.v (.string s)]) K=K (isName s):=by
 rw[show iO [T.v (.string s)]=uD s from xN]
 exact RH _ K
noncomputable def ATF:Env:=Env.of [(48,.pure iO)]
def AVW:FuncId→Hint:=bX 82 [(10,.inv [.val 34 false (.int .i64)])] (fun _=>bI)
theorem AFL:aT Tryz.prog ATF:=.cons zC (.nil _)
def BGH:T:=T.v (.int .i64 9)
def BGM:Sy:=Sy.int IntKind.i64
def BGS:T:=T.v (.int .i64 6)
def BGT:T:=T.v (.int .i64 11)
def BIL(a0:cR):List (List T):=List.map BGM.enc a0.2.2.2
def MC(a0:cR)(R:T→Prop):Prop:=aI BGI (iO [T.v (.string a0.1)]) fun (y0:Bool)=>aD (!y0) (R BGS) (aD (decide (1000≤a0.2.1)) (aD (!decide (a0.2.1≤20000)) (R BGH) (aD (decide (100≤a0.2.2.1)) (aD (!decide (a0.2.2.1≤1500)) (R BGH) (aD (decide ((↑(BIL a0).length:Int)=0)) (R (T.v (.int .i64 3))) (aD (decide (16<(↑(BIL a0).length:Int))) (R (T.v (.int .i64 4))) (aZ (Int×PUnit) (fun X1 s2=>aD (decide (s2.1<(↑(BIL a0).length:Int))) (aP BGM (BIL a0) s2.1 fun (y3:Int)=>aD (decide (1≤y3)) (aD (!decide (y3≤120)) (R BGH) (aD (decide (0<s2.1)) (aP BGM (BIL a0) (IntKind.i64.wrap (s2.1-1)) fun (y4:Int)=>aD (decide (y3≤y4)) (R BGT) (BG4 X1 s2)) (BG4 X1 s2))) (R BGH)) (R BGJ)) (0,()))))) (R BGH))) (R BGH))
abbrev PR:Sh:=[(true,bN)]
def z7 (g:cR):Option T:=some (T.v (Value.int .i64 (jR g)))
noncomputable def xQ:List T→Option T:=gS PR z7
theorem AB7 {a0}:xQ [aF true bN a0]=z7 (a0):=bE (s:=PR) rfl (a0) rfl
theorem ARU:uH Tryz.prog 82 xQ z7 (cC PR) MC:=iW (a1:=(true,bN)) (sp:=z7) (F:=MC) (Hs:=AVW) (f:=82) (k:=8) AFL aQ aS (aL rfl) ⟨_,_,Tryz.func82,rfl⟩ rfl fun _ _=>by kernel_rfl
theorem vD {α:Type} {l:List α} {i:Nat} {d:α} (h:i<l.length):l.getD i d=l[i]:=by rw[List.getD_eq_getElem?_getD,List.getElem?_eq_getElem h];rfl
theorem W2 {r:Sy} {l:List r.den} {k:Nat} (hk:k<l.length) (h0:0<k) (hl:l.length≤1000000) (K:r.den→Prop):aP r (List.map r.enc l) (IntKind.i64.wrap ((k:Int)-1)) K=K (l[k-1]'(by omega)):=by
 rw[show IntKind.i64.wrap ((k:Int)-1)=((k-1:Nat):Int) by rw[bH _ (by omega) (by omega)];omega]
 exact bG (by omega) K
theorem O1 {k:Nat} (h:k<1000000):IntKind.i64.wrap ((k:Int)+1)=((k+1:Nat):Int):=bH _ (by omega) (by omega)
theorem AP7:aN Tryz.prog 82 xQ:=ARU fun g r h hb=>by
 cases h
 have is:∀ {n:Int},jR g=n→T.v (.int .i64 n)=T.v (.int .i64 (jR g)):=fun h=>by rw[h]
 unfold MC BIL BG4 BGT BGS BGM BGJ BGI BGH
 rw[JW]
 refine jS (fun h=>is (by unfold jR;rw[if_pos h])) fun hn=>?_
 have hn':¬ isName g.1=false:=by rw[hn];simp
 have r9:¬ (1000≤g.2.1∧g.2.1≤20000∧100≤g.2.2.1∧g.2.2.1≤1500)→T.v (.int .i64 9)=T.v (.int .i64 (jR g)):=fun h=>is (by unfold jR;rw[if_neg hn',if_pos h])
 refine cF (fun h1=>mA (fun h=>r9 (by omega)) fun h2=>cF (fun h3=>mA (fun h=>r9 (by omega)) fun h4=>?_) fun h=>r9 (by omega)) fun h=>r9 (by omega)
 have hr:¬ ¬ (1000≤g.2.1∧g.2.1≤20000∧100≤g.2.2.1∧g.2.2.1≤1500):=by omega
 refine cF (fun h=>is (by rw[List.length_map] at h;unfold jR;rw[if_neg hn',if_neg hr,if_pos (by omega)])) fun h5=>?_
 refine cF (fun h=>is (by rw[List.length_map] at h h5;unfold jR;rw[if_neg hn',if_neg hr,if_neg (by omega),if_pos (by omega)])) fun h6=>?_
 rw[List.length_map] at h5 h6
 have w:jR g=cI (HV g.2.2.2) (List.range g.2.2.2.length):=by unfold jR;rw[if_neg hn',if_neg hr,if_neg (by omega),if_neg (by omega)]
 refine rM (r:=.int .i64) (HV g.2.2.2) (by omega) (fun X k hk hprev hok hbad=>?_) fun h0=>is (w.trans h0)
 have hk:k<g.2.2.2.length:=hk
 have bad:∀ {n:Int},n≠0→HV g.2.2.2 k=n→T.v (.int .i64 n)=T.v (.int .i64 (jR g)):=fun hn h=>is (w.trans ((hbad (by rw[h];exact hn)).trans h))
 have hE:HV g.2.2.2 k=if ¬ (1≤g.2.2.2[k]∧g.2.2.2[k]≤120) then 9 else if 0<k∧g.2.2.2[k]≤g.2.2.2.getD (k-1) 0 then 11 else 0:=by unfold HV;rw[vD hk]
 dsimp only
 rw[O1 (by omega)]
 refine cF (fun p1=>mA (fun h=>bad (by decide) (by rw[hE,if_pos (by omega)])) fun p2=>?_) fun h=>bad (by decide) (by rw[hE,if_pos (by omega)])
 refine cF (fun p3=>?_) fun p3=>hok (by rw[hE,if_neg (by omega),if_neg (by omega)])
 have k0:0<k:=by omega
 rw[W2 (r:=.int .i64) hk k0 (by omega)]
 have hg1:g.2.2.2.getD (k-1) 0=g.2.2.2[k-1]'(by omega):=vD (by omega)
 exact cF (fun h=>bad (by decide) (by rw[hE,if_neg (by omega),hg1,if_pos ⟨k0,h⟩])) fun h=>hok (by rw[hE,if_neg (by omega),hg1,if_neg (fun hc=>h hc.2)])
noncomputable def AE8:Env:=Env.of [(48,.pure iO)]
theorem UM:aT Tryz.prog AE8:=.cons zC (.nil _)
def BY(a0:cG)(R:T→Prop):Prop:=aI BGI (iO [T.v (.string a0.1)]) fun (y0:Bool)=>aD (!y0) (R BGS) (aD (decide (1≤a0.2.1)) (aD (!decide (a0.2.1≤1000000)) (R BGH) (aD (decide (1≤a0.2.2.1)) (aD (!decide (a0.2.2.1≤2000)) (R BGH) (aD (decide (100≤a0.2.2.2)) (aD (!decide (a0.2.2.2≤32768)) (R BGH) (R BGJ)) (R BGH))) (R BGH))) (R BGH))
abbrev DJ:Sh:=[(true,bD)]
def rX (s:cG):Option T:=some (T.v (Value.int .i64 (KM s)))
noncomputable def qJ:List T→Option T:=gS DJ rX
theorem Q9 {a0}:qJ [aF true bD a0]=rX (a0):=bE (s:=DJ) rfl (a0) rfl
theorem ADT:uH Tryz.prog 83 qJ rX (cC DJ) BY:=iW (a1:=(true,bD)) (sp:=rX) (F:=BY) (Hs:=dI) (f:=83) (k:=8) UM aQ aS (aL rfl) ⟨_,_,Tryz.func83,rfl⟩ rfl fun _ _=>by kernel_rfl
theorem ABB:aN Tryz.prog 83 qJ:=ADT fun s r h hb=>by
 cases h
 have is:∀ {n:Int},KM s=n→T.v (.int .i64 n)=T.v (.int .i64 (KM s)):=fun h=>by rw[h]
 unfold BY BGS BGJ BGI BGH
 rw[JW]
 refine jS (fun h=>is (by unfold KM;rw[if_pos h])) fun hn=>?_
 have hn':¬ isName s.1=false:=by rw[hn];simp
 have r9:¬ (1≤s.2.1∧s.2.1≤1000000∧1≤s.2.2.1∧s.2.2.1≤2000∧100≤s.2.2.2∧s.2.2.2≤32768)→T.v (.int .i64 9)=T.v (.int .i64 (KM s)):=fun h=>is (by unfold KM;rw[if_neg hn',if_pos h])
 refine cF (fun h1=>mA (fun h=>r9 (by omega)) fun h2=>cF (fun h3=>mA (fun h=>r9 (by omega)) fun h4=>cF (fun h5=>mA (fun h=>r9 (by omega)) fun h6=>is ?_) fun h=>r9 (by omega)) fun h=>r9 (by omega)) fun h=>r9 (by omega)
 unfold KM;rw[if_neg hn',if_neg (by omega)]
def kN:cR:=(⟨#[]⟩,0,0,[])
def TK (a b:ByteArray):Bool:=cV a b||decide (a=b)
def x6 (m:aH) (i:Nat):Int:=if ¬ jR (m.1.getD i kN)=0 then jR (m.1.getD i kN) else if 0<i∧TK (m.1.getD i kN).1 (m.1.getD (i-1) kN).1=true then 11 else 0
def ASQ (m:aH) (i:Nat):Int:=if ¬ KM (m.2.getD i BL)=0 then KM (m.2.getD i BL) else if 0<i∧TK (m.2.getD i BL).1 (m.2.getD (i-1) BL).1=true then 11 else 0
def AR (m:aH):Int:=if 16<m.1.length∨32<m.2.length then 4 else if ¬ cI (x6 m) (List.range m.1.length)=0 then cI (x6 m) (List.range m.1.length) else cI (ASQ m) (List.range m.2.length)
noncomputable def ATE:Env:=Env.of [(82,.pure xQ),(83,.pure qJ)]
def AVV:FuncId→Hint:=bX 47 [(4,.inv [.val 22 false (.int .i64)]),(13,.inv [.val 50 false (.int .i64)])] (fun _=>bI)
theorem AFK:aT Tryz.prog ATE:=.cons AP7 (.cons ABB (.nil _))
def BIS(a0:aH):List (List T):=List.map bN.enc a0.1
def MB(a0:aH)(R:T→Prop):Prop:=aD (decide (16<(↑(BIS a0).length:Int))) (R (T.v (.int .i64 4))) (aD (decide (32<(↑(List.map bD.enc a0.2).length:Int))) (R (T.v (.int .i64 4))) (aZ (Int×PUnit) (fun X0 s1=>aD (decide (s1.1<(↑(BIS a0).length:Int))) (aP bN (BIS a0) s1.1 fun (y2:cR)=>aI BGG (xQ [aF true bN y2]) fun (y3:Int)=>aD (!decide (y3=0)) (R (BHX y3)) (aD (decide (0<s1.1)) (aP bN (BIS a0) (IntKind.i64.wrap (s1.1-1)) fun (y4:cR)=>aD (cV y2.1 y4.1||decide (y2.1=y4.1)) (R BGT) (BG4 X0 s1)) (BG4 X0 s1))) (aZ (Int×PUnit) (fun X5 s6=>aD (decide (s6.1<(↑(List.map bD.enc a0.2).length:Int))) (aP bD (List.map bD.enc a0.2) s6.1 fun (y7:cG)=>aI BGG (qJ [aF true bD y7]) fun (y8:Int)=>aD (!decide (y8=0)) (R (BHX y8)) (aD (decide (0<s6.1)) (aP bD (List.map bD.enc a0.2) (IntKind.i64.wrap (s6.1-1)) fun (y9:cG)=>aD (cV y7.1 y9.1||decide (y7.1=y9.1)) (R BGT) (BG4 X5 s6)) (BG4 X5 s6))) (R BGJ)) (0,()))) (0,())))
abbrev PQ:Sh:=[(true,aK)]
def z6 (m:aH):Option T:=some (T.v (Value.int .i64 (AR m)))
noncomputable def xP:List T→Option T:=gS PQ z6
theorem AB6 {a0}:xP [aF true aK a0]=z6 (a0):=bE (s:=PQ) rfl (a0) rfl
theorem ART:uH Tryz.prog 47 xP z6 (cC PQ) MB:=iW (a1:=(true,aK)) (sp:=z6) (F:=MB) (Hs:=AVV) (f:=47) (k:=8) AFK aQ aS (aL rfl) ⟨_,_,Tryz.func47,rfl⟩ rfl fun _ _=>by kernel_rfl
theorem AP6:aN Tryz.prog 47 xP:=ART fun m r h hb=>by
 cases h
 have is:∀ {n:Int},AR m=n→T.v (.int .i64 n)=T.v (.int .i64 (AR m)):=fun h=>by rw[h]
 unfold MB BIS BG4 BHX BGT BGJ BGG
 refine cF (fun h=>is (by rw[List.length_map] at h;unfold AR;rw[if_pos (by omega)])) fun h1=>?_
 refine cF (fun h=>is (by rw[List.length_map] at h;unfold AR;rw[if_pos (by omega)])) fun h2=>?_
 rw[List.length_map] at h1 h2
 refine rM (r:=bN) (x6 m) (by show m.1.length≤1000000;omega) (fun X k hk hprev hok hbad=>?_) fun h0=>?_
 ·have hk:k<m.1.length:=hk
  have bad:∀ {n:Int},n≠0→x6 m k=n→T.v (.int .i64 n)=T.v (.int .i64 (AR m)):=fun hn h=>is (by
   have hb:=(hbad (by rw[h];exact hn)).trans h
   unfold AR;rw[if_neg (by omega),if_pos (by rw[hb];exact hn),hb])
  have hE:x6 m k=if ¬ jR m.1[k]=0 then jR m.1[k] else if 0<k∧TK m.1[k].1 (m.1.getD (k-1) kN).1=true then 11 else 0:=by unfold x6;rw[vD hk]
  dsimp only
  rw[O1 (by omega)]
  refine aG (s:=[(false,.int .i64)]) (y:=jR m.1[k]) (AB7 ..) ?_
  refine mA (fun h=>bad h (by rw[hE,if_pos h])) fun p1=>?_
  refine cF (fun p3=>?_) fun p3=>hok (by rw[hE,if_neg (fun h=>h p1),if_neg (by omega)])
  have k0:0<k:=by omega
  rw[W2 (r:=bN) hk k0 (by show m.1.length≤1000000;omega)]
  have hg1:m.1.getD (k-1) kN=m.1[k-1]'(by omega):=vD (by omega)
  exact BH (fun h=>bad (by decide) (by rw[hE,if_neg (fun h=>h p1),hg1,if_pos ⟨k0,h⟩])) fun h=>hok (by rw[hE,if_neg (fun h=>h p1),hg1,if_neg (fun hc=>by rw[show TK m.1[k].1 (m.1[k-1]'(by omega)).1=false from h] at hc;cases hc.2)])
 ·have w:AR m=cI (ASQ m) (List.range m.2.length):=by unfold AR;rw[if_neg (by omega),if_neg (fun h=>h h0)]
  refine rM (r:=bD) (ASQ m) (by show m.2.length≤1000000;omega) (fun X k hk hprev hok hbad=>?_) fun h0=>is (w.trans h0)
  have hk:k<m.2.length:=hk
  have bad:∀ {n:Int},n≠0→ASQ m k=n→T.v (.int .i64 n)=T.v (.int .i64 (AR m)):=fun hn h=>is (w.trans ((hbad (by rw[h];exact hn)).trans h))
  have hE:ASQ m k=if ¬ KM m.2[k]=0 then KM m.2[k] else if 0<k∧TK m.2[k].1 (m.2.getD (k-1) BL).1=true then 11 else 0:=by unfold ASQ;rw[vD hk]
  dsimp only
  rw[O1 (by omega)]
  refine aG (s:=[(false,.int .i64)]) (y:=KM m.2[k]) (Q9 ..) ?_
  refine mA (fun h=>bad h (by rw[hE,if_pos h])) fun p1=>?_
  refine cF (fun p3=>?_) fun p3=>hok (by rw[hE,if_neg (fun h=>h p1),if_neg (by omega)])
  have k0:0<k:=by omega
  rw[W2 (r:=bD) hk k0 (by show m.2.length≤1000000;omega)]
  have hg1:m.2.getD (k-1) BL=m.2[k-1]'(by omega):=vD (by omega)
  exact BH (fun h=>bad (by decide) (by rw[hE,if_neg (fun h=>h p1),hg1,if_pos ⟨k0,h⟩])) fun h=>hok (by rw[hE,if_neg (fun h=>h p1),hg1,if_neg (fun hc=>by rw[show TK m.2[k].1 (m.2[k-1]'(by omega)).1=false from h] at hc;cases hc.2)])
def gL (m:aH) (n:ByteArray):Option cR:=m.1.find? fun g=>decide (g.1=n)
def okM (m:aH):Bool:=decide (m.1.length≤1000)&&decide (m.2.length≤1000)&&m.1.all fun g=>decide (g.2.2.2.length≤1000)
def FK {α:Type} (m:aH) (r:α):Option α:=match okM m with
 | true=>some r
 | false=>none
theorem yF {α:Type} {m:aH} {t r:α} (h:FK m t=some r):okM m=true∧r=t:=by
 unfold FK at h;split at h
 ·rename_i hc;cases h;exact ⟨hc,rfl⟩
 ·cases h
theorem yG {α:Type} {m:aH} (t:α) (h:okM m=true):FK m t=some t:=by unfold FK;rw[h]
theorem APG:LR Tryz.prog 59 1 8:=⟨fun R=>by kernel_rfl,fun fl R=>by kernel_rfl,fun fl a rows R=>by kernel_rfl⟩
noncomputable def sZ:List T→Option T:=gS [(false,.li (.int .i64))] (dW (.int .i64) 8)
theorem JP {u0}:sZ [T.sl false (List.map (Sy.enc (.int .i64)) u0)]=dW (.int .i64) 8 u0:=bE (s:=[(false,.li (.int .i64))]) rfl u0 rfl
theorem SG:aN Tryz.prog 59 sZ:=yY aQ aS ⟨_,_,Tryz.func59,rfl⟩ APG
noncomputable def ATD:Env:=Env.of [(59,.pure sZ)]
def AVU:FuncId→Hint:=bX 152 [(2,.inv [.val 8 false (.int .i64)])] (fun _=>bI)
theorem AFJ:aT Tryz.prog ATD:=.cons SG (.nil _)
def BGQ:List T:=[T.agg [T.v (.string {data:=#[]}),T.v (.int .i64 0), T.v (.int .i64 0),T.sl false []], T.v (.bool false)]
def MA(a0:aH)(a1:ByteArray)(R:T→Prop):Prop:=aZ (Int×PUnit) (fun X0 s1=>aD (decide (s1.1<(↑(BIS a0).length:Int))) (aP bN (BIS a0) s1.1 fun (y2:cR)=>aD (decide (y2.1=a1)) (aD (decide (s1.1<0)) (R (T.bZ BGQ)) (aP bN (BIS a0) s1.1 fun (y3:cR)=>aI [(false,BGM.li)] (sZ [T.sl false (BIL y3)]) fun (y4:List Int)=>R (T.bZ [T.agg [T.v (.string y3.1),T.v (.int .i64 y3.2.1), T.v (.int .i64 y3.2.2.1), T.sl false (List.map BGM.enc y4)], T.v (.bool true)]))) (BG4 X0 s1)) (R (T.bZ BGQ))) (0,())
abbrev PO:Sh:=[(true,aK),(false,Sy.str)]
def zZ (x:aH×ByteArray):Option T:=FK x.1 (Sh.enc [(true,bN),(false,.bool)] (found kN (gL x.1 x.2)))
noncomputable def gF:List T→Option T:=gS PO zZ
theorem AB5 {a0 a1}:gF [aF true aK a0,T.v (.string a1)]=zZ (a0,a1):=bE (s:=PO) rfl (a0,a1) rfl
theorem ARS:r8 Tryz.prog 129 gF zZ (cC PO) MA:=iB (a1:=(true,aK)) (a2:=(false,Sy.str)) (sp:=zZ) (F:=MA) (Hs:=AVU) (f:=129) (k:=8) AFJ aQ aS (aL rfl) ⟨_,_,Tryz.func129,rfl⟩ rfl fun _ _ _=>by kernel_rfl
theorem HL:aN Tryz.prog 129 gF:=ARS fun m n r h hb=>by
 obtain ⟨hok,rfl⟩:=yF h
 clear h
 simp only[okM,Bool.and_eq_true,decide_eq_true_eq] at hok
 unfold MA BIS BIL BG4 BGQ BGM
 refine bM m.1.length (fun k s=>s=((k:Int),())∧(m.1.drop k).find? (fun s=>decide (s.1=n))=gL m n) ⟨rfl,rfl⟩ ?_
 rintro X k s hk ⟨rfl,hf⟩ hX
 dsimp only
 refine cF (fun hlt=>?_) fun hge=>?_
 ·rw[List.length_map] at hlt
  have hlt:k<m.1.length:=by omega
  rw[pO hlt] at hf
  rw[bG (r:=bN) hlt]
  refine cF (fun hc=>?_) fun hc=>?_
  ·rw[if_pos (decide_eq_true hc)] at hf
   refine cF (fun h=>by omega) fun _=>?_
   rw[bG (r:=bN) hlt]
   have hg:m.1[k].2.2.2.length≤1000:=by
    have:=List.all_eq_true.1 hok.2 _ (List.getElem_mem hlt)
    exact of_decide_eq_true this
   refine aG (s:=[(false,.li (.int .i64))]) (y:=m.1[k].2.2.2) ?_ ?_
   ·rw[JP]
    unfold dW pH
    rw[show (decide (m.1[k].2.2.2.length*8≤140737488355328)&&decide (m.1[k].2.2.2.length≤140737488355328))=true by simp only[Bool.and_eq_true,decide_eq_true_eq];omega]
    rfl
   ·show _=Sh.enc [(true,bN),(false,.bool)] (found kN (gL m n))
    rw[←hf];rfl
  ·rw[if_neg (by simpa using hc)] at hf
   exact hX _ hlt ⟨by rw[O1 (by omega)],hf⟩
 ·rw[List.length_map] at hge
  have:k=m.1.length:=by omega
  subst this
  rw[List.drop_length] at hf
  show _=Sh.enc [(true,bN),(false,.bool)] (found kN (gL m n))
  rw[←hf];rfl
def vQ (m:aH) (n:ByteArray) (t:Int):Bool:=match gL m n with
 | some g=>g.2.2.2.any fun x=>decide (t=x)
 | none=>false
noncomputable def AN2:Env:=Env.of [(129,.pure gF)]
def AOX:FuncId→Hint:=bX 291 [(2,.inv [.val 8 false (.int .i64)])] (fun _=>bI)
theorem ZG:aT Tryz.prog AN2:=.cons HL (.nil _)
def BGO:Sh:=[(true,bN),(false,Sy.bool)]
def BHY(s2:Int×PUnit):T:=T.v (.bool (decide (0≤s2.1)))
def GU(a0:aH)(a1:ByteArray)(a2:Int)(R:T→Prop):Prop:=aI BGO (gF [aF true aK a0,T.v (.string a1)]) fun (y0:cR×Bool)=>aD y0.2 (aZ (Int×PUnit) (fun X1 s2=>aD (decide (s2.1<(↑(List.map BGM.enc y0.1.2.2.2).length:Int))) (aP BGM (List.map BGM.enc y0.1.2.2.2) s2.1 fun (y3:Int)=>aD (decide (a2=y3)) (R (BHY s2)) (BG4 X1 s2)) (R BGE)) (0,())) (R BGE)
abbrev IG:Sh:=[(true,aK),(false,Sy.str),(false,(Sy.int IntKind.i64))]
def vV (x:aH×ByteArray×Int):Option T:=FK x.1 (T.v (.bool (vQ x.1 x.2.1 x.2.2)))
noncomputable def kL:List T→Option T:=gS IG vV
theorem V8 {a0 a1 a2}:kL [aF true aK a0,T.v (.string a1),T.v (.int .i64 a2)]=vV (a0,a1,a2):=bE (s:=IG) rfl (a0,a1,a2) rfl
theorem AJA:Of3 Tryz.prog 145 kL vV (cC IG) GU:=RE (a1:=(true,aK)) (a2:=(false,Sy.str)) (a3:=(false,(Sy.int IntKind.i64))) (sp:=vV) (F:=GU) (Hs:=AOX) (f:=145) (k:=8) ZG aQ aS (aL rfl) ⟨_,_,Tryz.func145,rfl⟩ rfl fun _ _ _ _=>by kernel_rfl
theorem xO {m:aH} (h:okM m=true) (n:ByteArray):gF [aF true aK m,T.v (.string n)]=some (Sh.enc [(true,bN),(false,.bool)] (found kN (gL m n))):=(AB5 ..).trans (yG _ h)
theorem AHO:aN Tryz.prog 145 kL:=AJA fun m n t r h hb=>by
 obtain ⟨hok,rfl⟩:=yF h
 clear h
 unfold GU BHY BG4 BGO BGM BGE
 refine aG (s:=[(true,bN),(false,.bool)]) (xO hok n) ?_
 cases hg:gL m n with
 | none =>
  show aD false _ _
  rw[mX]
  exact jI (by unfold vQ;rw[hg])
 | some g =>
  show aD true _ _
  rw[jT]
  dsimp only[found]
  have hlen:g.2.2.2.length≤1000:=by
   simp only[okM,Bool.and_eq_true,decide_eq_true_eq] at hok
   exact of_decide_eq_true (List.all_eq_true.1 hok.2 _ (List.mem_of_find?_eq_some hg))
  have w:vQ m n t=g.2.2.2.any fun x=>decide (t=x):=by unfold vQ;rw[hg]
  refine bM g.2.2.2.length (fun k s=>s=((k:Int),())∧g.2.2.2.any (fun x=>decide (t=x))=(g.2.2.2.drop k).any fun x=>decide (t=x)) ⟨rfl,by rw[List.drop_zero]⟩ ?_
  rintro X k s hk ⟨rfl,hf⟩ hX
  dsimp only
  refine cF (fun hlt=>?_) fun hge=>jI ?_
  ·rw[List.length_map] at hlt
   have hlt:k<g.2.2.2.length:=by omega
   rw[List.drop_eq_getElem_cons hlt,List.any_cons] at hf
   rw[bG (r:=.int .i64) hlt]
   refine cF (fun hc=>jI ?_) fun hc=>hX _ hlt ⟨by rw[O1 (by omega)],by rw[hf,decide_eq_false hc,Bool.false_or]⟩
   rw[w,hf,decide_eq_true hc,decide_eq_true (show 0≤(k:Int) by omega)];rfl
  ·rw[List.length_map] at hge
   have:k=g.2.2.2.length:=by omega
   subst this
   rw[w,hf,List.drop_length];rfl
end Go.Pv
namespace Go.Pv
open Go Go.Proofs
abbrev fX (p:bC):Int:=p.2.2.1
abbrev nK (p:bC):ByteArray:=p.2.2.2.1
abbrev gX (p:bC):ByteArray:=p.2.2.2.2.1
abbrev oU (p:bC):Int:=p.2.2.2.2.2.1
abbrev lO (p:bC):jQ:=p.2.2.2.2.2.2.1
abbrev Z5 (p:bC):ByteArray:=p.2.2.2.2.2.2.2.1
abbrev AGQ (p:bC):Int:=p.2.2.2.2.2.2.2.2.1
abbrev JE (p:bC):Int:=p.2.2.2.2.2.2.2.2.2.1
abbrev J8 (p:bC):AO4:=p.2.2.2.2.2.2.2.2.2.2.1
abbrev aAt (p:bC):B2:=p.2.2.2.2.2.2.2.2.2.2.2
def XW (p:bC):Bool:=!decide (oU p=0)||decide (0<(lO p).1.length+(lO p).2.length)
def A5V (p:bC):Bool:=!decide (Z5 p = { data:=#[] }) || !decide (AGQ p=0)
def A8B (p:bC):Bool:=!decide (JE p=0) || !(decide ((J8 p).1=0)&&(decide ((J8 p).2.1=0)&&decide ((J8 p).2.2=0)))
def n7 (p:bC):Bool:=if fX p=1 then A5V p||A8B p else if fX p=2∨fX p=3 then XW p||A8B p else !decide (gX p = { data:=#[] })||(XW p||A5V p)
def AVX:FuncId→Hint:=fun f=>match f == 124 with|true=>⟨fun _=>.none,fun i j=>match i == 1&&j == 1 with|true=>some [.val 3 false .bool]|false=>match i == 2&&j == 2 with|true=>some [.val 4 false .bool]|false=>match i == 3&&j == 3 with|true=>some [.val 5 false .bool]|false=>none,fun _=>none⟩|false=>bI
def BIU(s3:Bool×PUnit)(R:T→Prop)(s5:Bool×PUnit):Prop:=aD s3.1 (R BGL) (R (T.v (.bool s5.1)))
def MG(a0:bC)(R:T→Prop):Prop:=oK (Bool×PUnit) (fun (X0:Bool×PUnit→Prop)=>aD (!decide (a0.2.2.2.2.2.1=0)) (X0 (true,())) (X0 (decide (0 < IntKind.i64.wrap ((↑(List.map aA.enc a0.2.2.2.2.2.2.1.1).length:Int) + (↑(List.map aA.li.enc a0.2.2.2.2.2.2.1.2).length:Int))), ()))) fun (s1:Bool×PUnit)=>oK (Bool×PUnit) (fun (X2:Bool×PUnit→Prop)=>aD (!decide (a0.2.2.2.2.2.2.2.1 = {data:=#[]})) (X2 (true,())) (X2 (!decide (a0.2.2.2.2.2.2.2.2.1=0),()))) fun (s3:Bool×PUnit)=>oK (Bool×PUnit) (fun (X4:Bool×PUnit→Prop)=>aD (!decide (a0.2.2.2.2.2.2.2.2.2.1=0)) (X4 (true,())) (X4 (!(decide (a0.2.2.2.2.2.2.2.2.2.2.1.1=0) && (decide (a0.2.2.2.2.2.2.2.2.2.2.1.2.1=0) && (decide (a0.2.2.2.2.2.2.2.2.2.2.1.2.2=0)&&true))), ()))) fun (s5:Bool×PUnit)=>aD (decide (a0.2.2.1=1)) (BIU s3 R s5) (aD (decide (a0.2.2.1=2)) (BIU s1 R s5) (aD (decide (a0.2.2.1=3)) (BIU s1 R s5) (aD (decide (a0.2.2.1=4)) (aD (!decide (a0.2.2.2.2.1 = {data:=#[]})) (R BGL) (BIU s1 R s3)) (aD (!decide (a0.2.2.2.2.1 = {data:=#[]})) (R BGL) (BIU s1 R s3)))))
abbrev PV:Sh:=[(true,aJ)]
def AE (p:bC):Option T:=some (T.v (.bool (n7 p)))
noncomputable def mU:List T→Option T:=gS PV AE
theorem ACJ {a0}:mU [aF true aJ a0]=AE (a0):=bE (s:=PV) rfl (a0) rfl
theorem ARY:uH Tryz.prog 124 mU AE (cC PV) MG:=iW (a1:=(true,aJ)) (sp:=AE) (F:=MG) (Hs:=AVX) (f:=124) (k:=8) (bW _) aQ aS (aL rfl) ⟨_,_,Tryz.func124,rfl⟩ rfl fun _ _=>by kernel_rfl
theorem WS {a b:Bool} {n:Bool} (h:n=(a||b)):aD a (T.v (.bool true)=T.v (.bool n)) (T.v (.bool b)=T.v (.bool n)):=by
 subst h;cases a<;>rfl
theorem AP9:aN Tryz.prog 124 mU:=ARY fun p r h hb=>by
 have b1:(lO p).1.length≤2 ^ 47:=hb.2.2.2.2.2.2.1.1.1
 have b2:(lO p).2.length≤2 ^ 47:=hb.2.2.2.2.2.2.1.2.1
 cases h
 unfold MG BIU BGL
 have j:∀ {a b:Bool} {K:Bool×PUnit→Prop},K (a||b,())→oK (Bool×PUnit) (fun (X:Bool×PUnit→Prop)=>aD a (X (true,())) (X (b,()))) K:=fun {a b K} hK=>by
  rw[zJ];cases a<;>exact hK
 have e1:decide (0<IntKind.i64.wrap (((List.map aA.enc (lO p).1).length:Int)+((List.map aA.li.enc (lO p).2).length:Int)))=decide (0<(lO p).1.length+(lO p).2.length):=by
  rw[List.length_map,List.length_map,bH _ (by omega) (by omega)]
  exact decide_eq_decide.2 (by omega)
 refine j ?_
 refine j ?_
 refine j ?_
 dsimp only
 rw[e1,Bool.and_true]
 refine cF (fun h=>WS (by unfold n7;rw[if_pos h];rfl)) fun k1=>?_
 refine cF (fun h=>WS (by unfold n7;rw[if_neg k1,if_pos (.inl h)];rfl)) fun k2=>?_
 refine cF (fun h=>WS (by unfold n7;rw[if_neg k1,if_pos (.inr h)];rfl)) fun k3=>?_
 have w:n7 p=(!decide (gX p = { data:=#[] })||(XW p||A5V p)):=by
  unfold n7;rw[if_neg k1,if_neg];rintro (h|h)
  ·exact k2 h
  ·exact k3 h
 have fin:aD (!decide (gX p = { data:=#[] })) (T.v (.bool true)=T.v (.bool (n7 p))) (aD (XW p) (T.v (.bool true)=T.v (.bool (n7 p))) (T.v (.bool (A5V p))=T.v (.bool (n7 p)))):=by
  rw[w]
  cases (!decide (gX p = { data:=#[] })) with
  | true=>rfl
  | false=>exact WS rfl
 exact cF (fun _=>fin) fun _=>fin
def AM2 (m:aH) (n:ByteArray):Bool:=match QA m n with
 | some s=>decide (1≤s.2.1)&&decide (s.2.1≤1000000)&&(decide (1≤s.2.2.1)&&decide (s.2.2.1≤2000))
 | none=>false
def gU (p:bC) (m:aH):Bool:=if fX p=4 then true else match gL m (gX p) with
 | none=>false
 | some g=>decide (1000≤g.2.1)&&decide (g.2.1≤20000)&&(if fX p=1 then decide (1≤oU p)&&decide (oU p≤120)&&vQ m (gX p) (oU p) else AM2 m (Z5 p))
noncomputable def A3B:Env:=Env.of [(129,.pure gF),(130,.pure cT),(145,.pure kL)]
theorem AOJ:aT Tryz.prog A3B:=.cons HL (.cons N6 (.cons AHO (.nil _)))
def BGK:Sh:=[(true,bD),(false,Sy.bool)]
def BH0(y2:cG×Bool)(R:T→Prop):Prop:=aD y2.2 (aD (decide (1≤y2.1.2.1)) (aD (decide (y2.1.2.1≤1000000)) (aD (decide (1≤y2.1.2.2.1)) (R (T.v (.bool (decide (y2.1.2.2.1≤2000))))) (R BGE)) (R BGE)) (R BGE)) (R BGE)
def BGZ(a1:aH)(a0:bC)(R:T→Prop):Prop:=aI BGK (cT [aF true aK a1, T.v (.string a0.2.2.2.2.2.2.2.1)]) fun (y3:cG×Bool)=>BH0 y3 R
def BHZ(a0:bC)(a1:aH)(R:T→Prop):Prop:=aD (decide (1≤a0.2.2.2.2.2.1)) (aD (decide (a0.2.2.2.2.2.1≤120)) (aI BGI (kL [aF true aK a1,T.v (.string a0.2.2.2.2.1), T.v (.int .i64 a0.2.2.2.2.2.1)]) fun (y1:Bool)=>R (T.v (.bool y1))) (R BGE)) (R BGE)
def BIW(a0:bC)(a1:aH)(R:T→Prop):Prop:=aD (decide (a0.2.2.1=3)) (BGZ a1 a0 R) (aD (decide (a0.2.2.1=4)) (BGZ a1 a0 R) (BGZ a1 a0 R))
def BIX(a1:aH)(a0:bC):List T:=[aF true aK a1,T.v (.string a0.2.2.2.2.1)]
def BG7(a1:aH)(a0:bC)(R:T→Prop):Prop:=aI BGO (gF (BIX a1 a0)) fun (y6:cR×Bool)=>aD (!y6.2) (R BGE) (aD (decide (1000≤y6.1.2.1)) (aD (!decide (y6.1.2.1≤20000)) (R BGE) (aD (decide (a0.2.2.1=1)) (BHZ a0 a1 R) (aD (decide (a0.2.2.1=2)) (BGZ a1 a0 R) (BIW a0 a1 R)))) (R BGE))
def U6(a0:bC)(a1:aH)(R:T→Prop):Prop:=aD (decide (a0.2.2.1=1)) (aI BGO (gF (BIX a1 a0)) fun (y0:cR×Bool)=>aD (!y0.2) (R BGE) (aD (decide (1000≤y0.1.2.1)) (aD (!decide (y0.1.2.1≤20000)) (R BGE) (aD (decide (a0.2.2.1=1)) (BHZ a0 a1 R) (aD (decide (a0.2.2.1=2)) (aI BGK (cT [aF true aK a1,T.v (.string a0.2.2.2.2.2.2.2.1)]) fun (y2:cG×Bool)=>BH0 y2 R) (BIW a0 a1 R)))) (R BGE))) (aD (decide (a0.2.2.1=2)) (BG7 a1 a0 R) (aD (decide (a0.2.2.1=3)) (BG7 a1 a0 R) (aD (decide (a0.2.2.1=4)) (R BGL) (BG7 a1 a0 R))))
abbrev XL:Sh:=[(true,aJ),(true,aK)]
def F6 (x:bC×aH):Option T:=FK x.2 (T.v (.bool (gU x.1 x.2)))
noncomputable def pC:List T→Option T:=gS XL F6
theorem AIC {a0 a1}:pC [aF true aJ a0,aF true aK a1]=F6 (a0,a1):=bE (s:=XL) rfl (a0,a1) rfl
theorem A01:r8 Tryz.prog 125 pC F6 (cC XL) U6:=iB (a1:=(true,aJ)) (a2:=(true,aK)) (sp:=F6) (F:=U6) (Hs:=dI) (f:=125) (k:=8) AOJ aQ aS (aL rfl) ⟨_,_,Tryz.func125,rfl⟩ rfl fun _ _ _=>by kernel_rfl
theorem EU (m:aH) (n:ByteArray):cT [aF true aK m,T.v (.string n)]=some (Sh.enc [(true,bD),(false,.bool)] (found BL (QA m n))):=WJ ..
theorem AXT:aN Tryz.prog 125 pC:=A01 fun p m r h hb=>by
 obtain ⟨hok,rfl⟩:=yF h
 replace hok:okM m=true:=hok
 clear h
 have is:∀ {n:Bool},gU p m=n→T.v (.bool n)=T.v (.bool (gU p m)):=fun h=>by rw[h]
 unfold U6 BG7 BIX BIW BHZ BGZ BH0 BGO BGL BGK BGI BGE
 have sec:∀ {g:cR},gL m (gX p)=some g→¬ fX p=4→¬ fX p=1→1000≤g.2.1→g.2.1≤20000 →
   aI [(true,bD),(false,Sy.bool)] (cT [aF true aK m,T.v (.string (Z5 p))])
    fun (y2:cG×Bool) =>
    aD y2.2
     (aD (decide (1≤y2.1.2.1))
      (aD (decide (y2.1.2.1≤1000000))
       (aD (decide (1≤y2.1.2.2.1))
        (T.v (.bool (decide (y2.1.2.2.1≤2000)))=T.v (.bool (gU p m)))
        (T.v (.bool false)=T.v (.bool (gU p m))))
       (T.v (.bool false)=T.v (.bool (gU p m))))
      (T.v (.bool false)=T.v (.bool (gU p m))))
     (T.v (.bool false)=T.v (.bool (gU p m))):=by
  intro g hg k4 k1 d1 d2
  have w:gU p m=AM2 m (Z5 p):=by
   unfold gU;rw[if_neg k4,hg];dsimp only;rw[decide_eq_true d1,decide_eq_true d2,if_neg k1];rfl
  refine aG (s:=[(true,bD),(false,.bool)]) (EU m _) ?_
  cases hs:QA m (Z5 p) with
  | none =>
   show aD false _ _
   rw[mX];exact is (by rw[w];unfold AM2;rw[hs])
  | some s =>
   show aD true _ _
   rw[jT]
   dsimp only[found]
   have w2:gU p m=(decide (1≤s.2.1)&&decide (s.2.1≤1000000)&&(decide (1≤s.2.2.1)&&decide (s.2.2.1≤2000))):=by rw[w];unfold AM2;rw[hs]
   refine cF (fun h1=>cF (fun h2=>cF (fun h3=>is ?_) fun h3=>is ?_) fun h2=>is ?_) fun h1=>is ?_
   ·rw[w2,decide_eq_true h1,decide_eq_true h2,decide_eq_true h3];rfl
   ·rw[w2,decide_eq_true h1,decide_eq_true h2,decide_eq_false h3];rfl
   ·rw[w2,decide_eq_true h1,decide_eq_false h2];rfl
   ·rw[w2,decide_eq_false h1];rfl
 have plate:∀ {g:cR},gL m (gX p)=some g→fX p=1→1000≤g.2.1→g.2.1≤20000 →
   aD (decide (1≤oU p)) (aD (decide (oU p≤120)) (aI [(false,Sy.bool)] (kL [aF true aK m,T.v (.string (gX p)),T.v (.int .i64 (oU p))]) fun (y1:Bool)=>T.v (.bool y1)=T.v (.bool (gU p m))) (T.v (.bool false)=T.v (.bool (gU p m)))) (T.v (.bool false)=T.v (.bool (gU p m))):=by
  intro g hg k1 d1 d2
  have w:gU p m=(decide (1≤oU p)&&decide (oU p≤120)&&vQ m (gX p) (oU p)):=by
   unfold gU;rw[if_neg (by omega),hg];dsimp only;rw[decide_eq_true d1,decide_eq_true d2,if_pos k1];rfl
  refine cF (fun h1=>cF (fun h2=>?_) fun h2=>is ?_) fun h1=>is ?_
  ·refine aG (s:=[(false,.bool)]) (y:=vQ m (gX p) (oU p)) ((V8 ..).trans (yG _ hok)) (is ?_)
   rw[w,decide_eq_true h1,decide_eq_true h2];rfl
  ·rw[w,decide_eq_true h1,decide_eq_false h2];rfl
  ·rw[w,decide_eq_false h1];rfl
 by_cases k4:p.2.2.1=4
 ·have w:gU p m=true:=by unfold gU;rw[if_pos k4]
  repeat' first
   | (exfalso;omega)
   | exact is w
   | refine cF (fun h=>?_) (fun h=>?_)
 ·have hnone:gL m (gX p)=none→gU p m=false:=fun h=>by unfold gU;rw[if_neg k4,h]
  have dens:∀ {g:cR},gL m (gX p)=some g→¬ (1000≤g.2.1∧g.2.1≤20000)→gU p m=false:=fun {g} hg h=>by
   unfold gU;rw[if_neg k4,hg];dsimp only
   by_cases h1:1000≤g.2.1
   ·rw[decide_eq_false (show ¬ g.2.1≤20000 by omega),Bool.and_false,Bool.false_and]
   ·rw[decide_eq_false h1,Bool.false_and,Bool.false_and]
  have call:∀ {K:cR×Bool→Prop},(gL m (gX p)=none→K (kN,false))→(∀ g,gL m (gX p)=some g→K (g,true))→aI [(true,bN),(false,Sy.bool)] (gF [aF true aK m,T.v (.string p.2.2.2.2.1)]) K:=fun {K} h1 h2=>by
   refine aG (s:=[(true,bN),(false,.bool)]) (xO hok _) ?_
   cases hg:gL m (gX p) with
   | none=>exact h1 hg
   | some g=>exact h2 g hg
  have body:∀ {K:cR×Bool→Prop},(∀ g,gL m (gX p)=some g→1000≤g.2.1→g.2.1≤20000→K (g,true))→aI [(true,bN),(false,Sy.bool)] (gF [aF true aK m,T.v (.string p.2.2.2.2.1)]) fun (y0:cR×Bool)=>aD (!y0.2) (T.v (.bool false)=T.v (.bool (gU p m))) (aD (decide (1000≤y0.1.2.1)) (aD (!decide (y0.1.2.1≤20000)) (T.v (.bool false)=T.v (.bool (gU p m))) (K y0)) (T.v (.bool false)=T.v (.bool (gU p m)))):=fun {K} hK=>by
   refine call (fun hn=>?_) fun g hg=>?_
   ·show aD true _ _
    rw[jT];exact is (hnone hn)
   ·show aD false _ _
    rw[mX]
    exact cF (fun d1=>mA (fun d2=>is (dens hg (fun h=>d2 h.2))) fun d2=>hK g hg d1 d2) fun d1=>is (dens hg (fun h=>d1 h.1))
  refine cF (fun h=>body fun g hg d1 d2=>?_) fun h1=>cF (fun h=>body fun g hg d1 d2=>?_) fun h2=>cF (fun h=>body fun g hg d1 d2=>?_) fun h3=>cF (fun h=>absurd h k4) fun _=>body fun g hg d1 d2=>?_
  all_goals
   repeat' first
    | (exfalso;omega)
    | exact plate hg (by assumption) d1 d2
    | exact sec hg k4 (by assumption) d1 d2
    | exact sec hg k4 (by intro h';have h'':p.2.2.1=1:=h';omega) d1 d2
    | refine cF (fun h=>?_) (fun h=>?_)
def rT (p:bC) (m:aH):Int:=if vG p.1=false∨vG (nK p)=false then 6 else if ¬ (1≤p.2.1∧p.2.1≤1000) then 9 else if ¬ (fX p=1∨fX p=2∨fX p=3∨fX p=4) then 10 else if n7 p=true then 2 else if gU p m=false then 23 else
 if fX p=1∧¬ yI (lO p)=0 then yI (lO p) else if (fX p=2∨fX p=3)∧¬ (1≤AGQ p∧AGQ p≤32768) then 9 else if fX p=4∧¬ (1≤JE p∧JE p≤1099511627776∧BP (J8 p)=true) then 9 else if sH (aAt p)=false then 9 else 0
noncomputable def AN5:Env:=Env.of [(94,.pure eQ),(124,.pure mU),(125,.pure pC),(126,.pure jK),(128,.pure cL)]
theorem ZJ:aT Tryz.prog AN5:=.cons EB (.cons AP9 (.cons AXT (.cons SK (.cons AQJ (.nil _)))))
def BGN:T:=T.v (.int .i64 2)
def BGW:T:=T.v (.int .i64 23)
def BHO(a0:bC)(R:T→Prop):Prop:=aI BGI (cL [aF true fD a0.2.2.2.2.2.2.2.2.2.2.2]) fun (y5:Bool)=>aD (!y5) (R BGH) (R BGJ)
def BIN(a0:bC)(R:T→Prop):Prop:=aD (decide (1≤a0.2.2.2.2.2.2.2.2.1)) (aD (!decide (a0.2.2.2.2.2.2.2.2.1≤32768)) (R BGH) (BHO a0 R)) (R BGH)
def BGY(a0:bC)(R:T→Prop)(a1:aH):Prop:=aI BGI (mU [aF true aJ a0]) fun (y2:Bool)=>aD y2 (R BGN) (aI BGI (pC [aF true aJ a0,aF true aK a1]) fun (y3:Bool)=>aD (!y3) (R BGW) (aD (decide (a0.2.2.1=1)) (aI BGG (jK [aF true eR a0.2.2.2.2.2.2.1]) fun (y4:Int)=>aD (!decide (y4=0)) (R (BHX y4)) (BHO a0 R)) (aD (decide (a0.2.2.1=2)) (BIN a0 R) (aD (decide (a0.2.2.1=3)) (BIN a0 R) (aD (decide (a0.2.2.1=4)) (aD (decide (1≤a0.2.2.2.2.2.2.2.2.2.1)) (aD (!decide (a0.2.2.2.2.2.2.2.2.2.1≤1099511627776)) (R BGH) (aI BGI (cL [T.agg [T.v (.int .i64 a0.2.2.2.2.2.2.2.2.2.2.1.1), T.v (.int .i64 a0.2.2.2.2.2.2.2.2.2.2.1.2.1), T.v (.int .i64 a0.2.2.2.2.2.2.2.2.2.2.1.2.2), T.v (.int .i64 0)]]) fun (y8:Bool)=>aD (!y8) (R BGH) (BHO a0 R))) (R BGH)) (BHO a0 R))))))
def GX(a0:bC)(a1:aH)(R:T→Prop):Prop:=aI BGI (eQ [T.v (.string a0.1)]) fun (y0:Bool)=>aD (!y0) (R BGS) (aI BGI (eQ [T.v (.string a0.2.2.2.1)]) fun (y1:Bool)=>aD (!y1) (R BGS) (aD (decide (1≤a0.2.1)) (aD (!decide (a0.2.1≤1000)) (R BGH) (aD (decide (a0.2.2.1=1)) (BGY a0 R a1) (aD (decide (a0.2.2.1=2)) (BGY a0 R a1) (aD (decide (a0.2.2.1=3)) (BGY a0 R a1) (aD (decide (a0.2.2.1=4)) (BGY a0 R a1) (R (T.v (.int .i64 10)))))))) (R BGH)))
abbrev IJ:Sh:=[(true,aJ),(true,aK)]
def vY (x:bC×aH):Option T:=FK x.2 (T.v (Value.int .i64 (rT x.1 x.2)))
noncomputable def l8:List T→Option T:=gS IJ vY
theorem WC {a0 a1}:l8 [aF true aJ a0,aF true aK a1]=vY (a0,a1):=bE (s:=IJ) rfl (a0,a1) rfl
theorem AJD:r8 Tryz.prog 96 l8 vY (cC IJ) GX:=iB (a1:=(true,aJ)) (a2:=(true,aK)) (sp:=vY) (F:=GX) (Hs:=dI) (f:=96) (k:=8) ZJ aQ aS (aL rfl) ⟨_,_,Tryz.func96,rfl⟩ rfl fun _ _ _=>by kernel_rfl
theorem N5:aN Tryz.prog 96 l8:=AJD fun p m r h hb=>by
 obtain ⟨hok,rfl⟩:=yF h
 replace hok:okM m=true:=hok
 clear h hb
 have is:∀ {n:Int},rT p m=n→T.v (.int .i64 n)=T.v (.int .i64 (rT p m)):=fun h=>by rw[h]
 unfold GX BGY BIN BHX BHO BGW BGS BGN BGJ BGI BGH BGG
 rw[nU]
 refine jS (fun h=>is (by unfold rT;rw[if_pos (.inl h)])) fun i1=>?_
 rw[nU]
 refine jS (fun h=>is (by unfold rT;rw[if_pos (.inr h)])) fun i2=>?_
 have n1:¬ (vG p.1=false∨vG (nK p)=false):=by
  rintro (h|h)
  ·rw[i1] at h;cases h
  ·rw[show vG (nK p)=true from i2] at h;cases h
 have r9:¬ (1≤p.2.1∧p.2.1≤1000)→T.v (.int .i64 9)=T.v (.int .i64 (rT p m)):=fun h=>is (by unfold rT;rw[if_neg n1,if_pos h])
 refine cF (fun v1=>mA (fun h=>r9 (fun h2=>h h2.2)) fun v2=>?_) fun h=>r9 (fun h2=>h h2.1)
 have n2:¬ ¬ (1≤p.2.1∧p.2.1≤1000):=fun h=>h ⟨v1,v2⟩
 have w1:rT p m=if ¬ (fX p=1∨fX p=2∨fX p=3∨fX p=4) then 10 else if n7 p=true then 2 else if gU p m=false then 23 else if fX p=1∧¬ yI (lO p)=0 then yI (lO p) else if (fX p=2∨fX p=3)∧¬ (1≤AGQ p∧AGQ p≤32768) then 9 else if fX p=4∧¬ (1≤JE p∧JE p≤1099511627776∧BP (J8 p)=true) then 9 else if sH (aAt p)=false then 9 else 0:=by
  unfold rT;rw[if_neg n1,if_neg n2]
 have spare:∀ {K:Bool→Prop},K (n7 p)→aI [(false,Sy.bool)] (mU [aF true aJ p]) K:=fun h=>aG (s:=[(false,.bool)]) (y:=n7 p) (ACJ ..) h
 have made:∀ {K:Bool→Prop},K (gU p m)→aI [(false,Sy.bool)] (pC [aF true aJ p,aF true aK m]) K:=fun h=>aG (s:=[(false,.bool)]) (y:=gU p m) ((AIC ..).trans (yG _ hok)) h
 have place:∀ {K:Bool→Prop},K (sH (aAt p))→aI [(false,Sy.bool)] (cL [aF true fD (aAt p)]) K:=fun h=>aG (s:=[(false,.bool)]) (y:=sH (aAt p)) (JU ..) h
 have near:∀ {K:Bool→Prop},K (BP (J8 p))→aI [(false,Sy.bool)] (cL [aF true fD (J8 p,0)]) K:=fun {K} h=>aG (s:=[(false,.bool)]) (y:=sH (J8 p,0)) (JU ..) (by
  rw[show sH (J8 p,0)=BP (J8 p) by unfold sH;rw[show decide (((J8 p,(0:Int)):B2).2=AI1 ((J8 p,(0:Int)):B2).2)=true from rfl,Bool.and_true]];exact h)
 have reg:∀ {K:Int→Prop},K (yI (lO p))→aI [(false,Sy.int IntKind.i64)] (jK [aF true eR (lO p)]) K:=fun h=>aG (s:=[(false,.int .i64)]) (JQ _) h
 repeat' first
  | (exfalso;omega)
  | refine spare ?_
  | refine made ?_
  | refine reg ?_
  | refine place ?_
  | refine near ?_
  | refine mA (fun h=>?_) (fun h=>?_)
  | refine cF (fun h=>?_) (fun h=>?_)
  | refine jS (fun h=>?_) (fun h=>?_)
  | refine BH (fun h=>?_) (fun h=>?_)
 all_goals (refine is ?_;clear spare made place near reg is r9;rw[w1];clear w1 n1 n2 i1 i2;simp_all;try (intros;exfalso;simp only[AGQ,JE] at *;omega))
theorem ET {m:aH} (h:okM m=true) (p:bC):l8 [aF true aJ p,aF true aK m]=some (Sh.enc [(false,.int .i64)] (rT p m)):=(WC ..).trans (yG _ h)
def AIM (m:aH) (n:ByteArray):cR:=(gL m n).getD kN
def BE5 (m:aH) (n:ByteArray):cG:=(QA m n).getD BL
theorem ALY {α:Type} {no:α} {o:Option α}:(found no o).1=o.getD no:=by cases o<;>rfl
def TD (p:bC) (m:aH):Int:=if fX p=1 then IntKind.i64.wrap ((IntKind.i64.wrap (IntKind.i64.wrap (AD9 (lO p)*oU p)*(AIM m (gX p)).2.1)).tdiv 2000000) else if fX p=2∨fX p=3 then IntKind.i64.wrap ((IntKind.i64.wrap (IntKind.i64.wrap ((BE5 m (Z5 p)).2.1*AGQ p)*(AIM m (gX p)).2.1)).tdiv 1000000) else JE p
def BI (p:bC) (m:aH):Int×Int:=if rT p m=0 then (TD p m,0) else (0,rT p m)
noncomputable def ATI:Env:=Env.of [(96,.pure l8),(129,.pure gF),(130,.pure cT),(131,.pure tN)]
theorem AFO:aT Tryz.prog ATI:=.cons N5 (.cons HL (.cons N6 (.cons AQC (.nil _))))
def BIE(R:T→Prop)(y2:cG×Bool)(a0:bC)(y1:cR×Bool):Prop:=bQ true (R (T.bZ [T.v (.int .i64 (IntKind.i64.wrap ((IntKind.i64.wrap (IntKind.i64.wrap (y2.1.2.1*a0.2.2.2.2.2.2.2.2.1) * y1.1.2.1)).tdiv 1000000))), T.v (.int .i64 0)]))
def BIZ(a0:bC):List T:=[T.v (.int .i64 a0.2.2.2.2.2.2.2.2.2.1), T.v (.int .i64 0)]
def MH(a0:bC)(a1:aH)(R:T→Prop):Prop:=aI BGG (l8 [aF true aJ a0,aF true aK a1]) fun (y0:Int)=>aD (!decide (y0=0)) (R (T.bZ [T.v (.int .i64 0),T.v (.int .i64 y0)])) (aI BGO (gF (BIX a1 a0)) fun (y1:cR×Bool)=>aI BGK (cT [aF true aK a1,T.v (.string a0.2.2.2.2.2.2.2.1)]) fun (y2:cG×Bool)=>aD (decide (a0.2.2.1=1)) (aI BGG (tN [aF true eR a0.2.2.2.2.2.2.1]) fun (y3:Int)=>bQ true (R (T.bZ [T.v (.int .i64 (IntKind.i64.wrap ((IntKind.i64.wrap (IntKind.i64.wrap (y3*a0.2.2.2.2.2.1)*y1.1.2.1)).tdiv 2000000))), T.v (.int .i64 0)]))) (aD (decide (a0.2.2.1=2)) (BIE R y2 a0 y1) (aD (decide (a0.2.2.1=3)) (BIE R y2 a0 y1) (aD (decide (a0.2.2.1=4)) (R (T.bZ (BIZ a0))) (R (T.bZ (BIZ a0)))))))
abbrev PW:Sh:=[(true,aJ),(true,aK)]
abbrev AD7:Sh:=[(false,Sy.int IntKind.i64),(false,Sy.int IntKind.i64)]
def AF (x:bC×aH):Option T:=FK x.2 (Sh.enc AD7 (BI x.1 x.2))
noncomputable def tK:List T→Option T:=gS PW AF
theorem ACK {a0 a1}:tK [aF true aJ a0,aF true aK a1]=AF (a0,a1):=bE (s:=PW) rfl (a0,a1) rfl
theorem ARZ:r8 Tryz.prog 97 tK AF (cC PW) MH:=iB (a1:=(true,aJ)) (a2:=(true,aK)) (sp:=AF) (F:=MH) (Hs:=dI) (f:=97) (k:=8) AFO aQ aS (aL rfl) ⟨_,_,Tryz.func97,rfl⟩ rfl fun _ _ _=>by kernel_rfl
theorem AQA:aN Tryz.prog 97 tK:=ARZ fun p m r h hb=>by
 obtain ⟨hok,rfl⟩:=yF h
 replace hok:okM m=true:=hok
 clear h hb
 have is:∀ {a b:Int},BI p m=(a,b)→T.bZ [T.v (.int .i64 a),T.v (.int .i64 b)]=Sh.enc AD7 (BI p m):=fun h=>by rw[h];rfl
 unfold MH BIZ BIE BIX BGO BGK BGG
 refine aG (s:=[(false,.int .i64)]) (ET hok p) ?_
 refine mA (fun h=>is (by unfold BI;rw[if_neg h])) fun h=>?_
 refine aG (s:=[(true,bN),(false,.bool)]) (xO hok _) ?_
 refine aG (s:=[(true,bD),(false,.bool)]) (EU m _) ?_
 have w:BI p m=(TD p m,0):=by unfold BI;rw[if_pos h]
 have eg:(found kN (gL m (gX p))).1=AIM m (gX p):=ALY
 have es:(found BL (QA m (Z5 p))).1=BE5 m (Z5 p):=ALY
 refine cF (fun k1=>?_) fun k1=>?_
 ·refine aG (s:=[(false,.int .i64)]) (ACR _) ?_
  refine ⟨rfl,is ?_⟩
  rw[w];unfold TD;rw[if_pos k1,←eg]
 refine cF (fun k2=>⟨rfl,is ?_⟩) fun k2=>?_
 ·rw[w];unfold TD;rw[if_neg k1,if_pos (.inl k2),←eg,←es]
 refine cF (fun k3=>⟨rfl,is ?_⟩) fun k3=>?_
 ·rw[w];unfold TD;rw[if_neg k1,if_pos (.inr k3),←eg,←es]
 have fin:BI p m=(JE p,0):=by
  rw[w];unfold TD;rw[if_neg k1,if_neg];rintro (h|h)
  ·exact k2 h
  ·exact k3 h
 exact cF (fun _=>is fin) fun _=>is fin
theorem ACL {m:aH} (h:okM m=true) (p:bC):tK [aF true aJ p,aF true aK m]=some (Sh.enc [(false,.int .i64),(false,.int .i64)] (BI p m)):=(ACK ..).trans (yG _ h)
end Go.Pv
namespace Go.Pv
open Go Go.Proofs
def oB (a0:aC) (m1:List (ByteArray×Int)) (m2:List (ByteArray×Int)) (m3:List (ByteArray×Int)) (m4:List (ByteArray×Int)) (a5:aH):List T:=[QP a0 m1 m2 m3 m4,T.agg (aK.enc a5)]
noncomputable def LX:Env:=Env.of [(96,.pure l8),(97,.pure tK)]
def Z0:FuncId→Hint:=bX 52 [(2,.inv [.val 23 false (.int .i64)]),(13,.inv [.val 10 false (.int .i64),.val 54 false (.int .i64)])] (fun _=>bI)
theorem AFI:aT Tryz.prog LX:=.cons N5 (.cons AQA (.nil _))
def BGX:T:=T.v (.int .i64 8)
def BG5(a0:aC):List (List T):=List.map aJ.enc a0.2.2.1
def L8(a0:aC)(m1:List (ByteArray×Int))(m2:List (ByteArray×Int))(m3:List (ByteArray×Int))(m4:List (ByteArray×Int))(a5:aH)(R:T→Prop):Prop:=aZ (Int×PUnit) (fun X0 s1=>aD (decide (s1.1<(↑(BG5 a0).length:Int))) (aP aJ (BG5 a0) s1.1 fun (y2:bC)=>aI BGG (l8 [aF true aJ y2,aF true aK a5]) fun (y3:Int)=>aD (!decide (y3=0)) (R (BHX y3)) (iF TypeDesc.string (Value.string y2.2.2.2.1) (qX (bS m1)) false BGM (R BGX) fun (i4:Nat) (y5:Int)=>X0 (IntKind.i64.wrap (s1.1+1),()))) (aZ (Int×Int×PUnit) (fun X6 s7=>aD (decide (s7.2.1<(↑(BG5 a0).length:Int))) (aP aJ (BG5 a0) s7.2.1 fun (y8:bC)=>aI [(false,Sy.int IntKind.i64),(false,Sy.int IntKind.i64)] (tK [aF true aJ y8,aF true aK a5]) fun (y9:aO)=>aD (decide (1099511627776<IntKind.i64.wrap (s7.1+y9.1))) (R (T.v (.int .i64 13))) (X6 (IntKind.i64.wrap (s7.1+y9.1),IntKind.i64.wrap (s7.2.1+1),()))) (R BGJ)) (0,0,()))) (0,())
theorem ZS ( a0 m1 m2 m3 m4 a5 R):dY bR Tryz.prog LX Z0 8 52 (oB a0 m1 m2 m3 m4 a5) R=L8 a0 m1 m2 m3 m4 a5 R:=by kernel_rfl
theorem UD (x y:aC×MP×MP×MP×MP×aH) (h:oB x.1 x.2.1 x.2.2.1 x.2.2.2.1 x.2.2.2.2.1 x.2.2.2.2.2=oB y.1 y.2.1 y.2.2.1 y.2.2.2.1 y.2.2.2.2.1 y.2.2.2.2.2):x=y:=by
 obtain ⟨h1,h2⟩:=List.cons.inj h
 have:=qV (x:=(x.1,x.2.1,x.2.2.1,x.2.2.2.1,x.2.2.2.2.1)) (y:=(y.1,y.2.1,y.2.2.1,y.2.2.2.1,y.2.2.2.2.1)) h1
 have h2:=Sy.dH aK _ _ (T.agg.inj (List.cons.inj h2).1)
 simp only[Prod.mk.injEq] at this
 obtain ⟨e1,e2,e3,e4,e5⟩:=this
 exact Prod.ext e1 (Prod.ext e2 (Prod.ext e3 (Prod.ext e4 (Prod.ext e5 h2))))
def nX (d:aC) (m:aH) (p:bC):Int:=if rT p m=0 then (if (j6 d (nK p)).isNone=true then 8 else 0) else rT p m
def JB (m:aH):List bC→Int→Int
 | [],_=>0
 | p::l,s=>if 1099511627776<IntKind.i64.wrap (s+(BI p m).1) then 13 else JB m l (IntKind.i64.wrap (s+(BI p m).1))
def nY (d:aC) (m:aH):Int:=if cI (nX d m) d.2.2.1=0 then JB m d.2.2.1 0 else cI (nX d m) d.2.2.1
def uC (x:aC×MP×MP×MP×MP×aH):Option T:=match okM x.2.2.2.2.2 with
 | true=>wK (x.1,x.2.1,x.2.2.1,x.2.2.2.1,x.2.2.2.2.1) (T.v (Value.int .i64 (nY x.1 x.2.2.2.2.2)))
 | false=>none
noncomputable def tG:List T→Option (T):=gA (fun (x:aC×(List (ByteArray×Int))×(List (ByteArray×Int))×(List (ByteArray×Int))×(List (ByteArray×Int))×aH)=>oB x.1 x.2.1 x.2.2.1 x.2.2.2.1 x.2.2.2.2.1 x.2.2.2.2.2) uC
theorem ABS (a0:aC) (m1:List (ByteArray×Int)) (m2:List (ByteArray×Int)) (m3:List (ByteArray×Int)) (m4:List (ByteArray×Int)) (a5:aH):tG (oB a0 m1 m2 m3 m4 a5)=uC (a0,m1,m2,m3,m4,a5):=eN (A:=(fun (x:aC×(List (ByteArray×Int))×(List (ByteArray×Int))×(List (ByteArray×Int))×(List (ByteArray×Int))×aH)=>oB x.1 x.2.1 x.2.2.1 x.2.2.2.1 x.2.2.2.2.1 x.2.2.2.2.2)) UD (a0,m1,m2,m3,m4,a5)
theorem ARQ (h:∀ (a0:aC) (m1:List (ByteArray×Int)) (m2:List (ByteArray×Int)) (m3:List (ByteArray×Int)) (m4:List (ByteArray×Int)) (a5:aH) (r:T),uC (a0,m1,m2,m3,m4,a5)=some r→(∀ t∈oB a0 m1 m2 m3 m4 a5,Bd t)→L8 a0 m1 m2 m3 m4 a5 (fun y=>y=r)):aN Tryz.prog 52 tG :=
 cK (E:=LX) (Hs:=Z0) AFI aQ aS (aL rfl) 8 ⟨_,_,Tryz.func52,rfl⟩ fun x r h1 h2=>by
  rw[ZS]
  exact h x.1 x.2.1 x.2.2.1 x.2.2.2.1 x.2.2.2.2.1 x.2.2.2.2.2 r h1 h2
theorem AP3:aN Tryz.prog 52 tG:=ARQ fun d m1 m2 m3 m4 m r h hb=>by
 unfold uC at h
 split at h
 case h_2=>cases h
 rename_i hok
 replace hok:okM m=true:=hok
 obtain ⟨hx,hs,rfl⟩:=oM h
 simp only[Prod.mk.injEq,true_and] at hx
 obtain ⟨rfl,rfl,rfl,rfl⟩:=hx
 replace hs:nN d:=hs
 clear h hb
 have is:∀ {n:Int},nY d m=n→T.v (.int .i64 n)=T.v (.int .i64 (nY d m)):=fun h=>by rw[h]
 unfold L8 BG5 BHX BGX BGM BGJ BGG
 refine lR (r:=aJ) (nX d m) hs.p (fun X s y hy hgo hbad=>?_) fun h0=>?_
 ·have bad:∀ {n:Int},n≠0→nX d m y=n→T.v (.int .i64 n)=T.v (.int .i64 (nY d m)):=fun hn h=>by
   have h1:=hbad (by rw[h];exact hn)
   refine is ?_
   unfold nY
   rw[if_neg (by rw[h1,h];exact hn),h1,h]
  refine aG (s:=[(false,.int .i64)]) (ET hok y) ?_
  refine mA (fun h=>bad h (by unfold nX;rw[if_neg h])) fun h=>?_
  refine ixK (fun hn=>bad (by decide) ?_) fun i j hj hn=>hgo ?_
  ·have hn:j6 d (nK y)=none:=hn
   unfold nX;rw[if_pos h,hn];rfl
  ·have hn:j6 d (nK y)=some d.2.1[j]:=hn
   unfold nX;rw[if_pos h,hn];rfl
 ·have w:nY d m=JB m d.2.2.1 0:=by unfold nY;rw[if_pos h0]
  clear h0
  have hl:=hs.p
  generalize d.2.2.1=l at w hl ⊢
  refine bM l.length (fun k s=>s.2.1=(k:Int)∧JB m (l.drop k) s.1=nY d m) ⟨rfl,by rw[w];rfl⟩ ?_
  rintro X k ⟨s,i,u⟩ hk ⟨rfl,he⟩ hX
  dsimp only at he ⊢
  refine cF (fun hlt=>?_) fun hge=>?_
  ·rw[List.length_map] at hlt
   have hlt:k<l.length:=by omega
   rw[bG (r:=aJ) hlt]
   rw[List.drop_eq_getElem_cons hlt,JB] at he
   refine aG (s:=[(false,.int .i64),(false,.int .i64)]) (ACL hok _) ?_
   refine cF (fun h=>is (by rw[←he,if_pos h])) fun h=>?_
   rw[if_neg h] at he
   refine hX _ hlt ⟨?_,he⟩
   show IntKind.i64.wrap ((k:Int)+1)=_
   rw[bH]<;>omega
  ·rw[List.length_map] at hge
   have:k=l.length:=by omega
   subst this
   rw[List.drop_length,JB] at he
   exact is he.symm
end Go.Pv
namespace Go.Pv
open Go Go.Proofs
def oA (a0:aC) (m1:List (ByteArray×Int)) (m2:List (ByteArray×Int)) (m3:List (ByteArray×Int)) (m4:List (ByteArray×Int)):List T:=[QP a0 m1 m2 m3 m4]
noncomputable def LW:Env:=Env.of [(94,.pure eQ),(89,.pure wO),(99,.pure HU),(98,.pure gT),(95,.pure kZ),(100,.new ES)]
def ZZ:FuncId→Hint:=bX 54 [(4,.inv [.own 3 2 (.pr (.int .i64) (.int .i64)),.map 0 .str false .bool,.val 29 false (.int .i64)]),(15,.inv [.val 76 false (.int .i64),.map 0 .str false .bool]),(31,.inv [.own 3 2 (.pr (.int .i64) (.int .i64)),.val 147 false (.int .i64)])] (fun _=>bI)
theorem AFH:aT Tryz.prog LW:=.cons EB (.cons A76 (.cons A5K (.cons ABA (.cons SM (.cons AXS (.nil _))))))
def BG2(a0:aC):List (List T):=List.map aR.enc a0.2.2.2.2.2
def BG3(a0:aC):List (List T):=List.map aE.enc a0.2.2.2.2.1
def BG8(a0:aC):List (List T):=List.map aY.enc a0.2.2.2.1
def BH7(y3:aV):List (List T):=List.map Sy.str.enc y3.2.2.1
def BHB(a0:aC):List (List T):=List.map aW.enc a0.2.1
def BHD(a0:aC):List T:=[T.v (.string a0.1), T.sl false (BHB a0), T.sl false (BG5 a0), T.sl false (BG8 a0), T.sl false (BG3 a0), T.sl false (BG2 a0)]
def BHV(y3:aV):List (List T):=List.map Sy.str.enc y3.2.2.2.2
def BHG(y13:ByteArray)(s12:Int×List (ByteArray×Bool)×PUnit)(X11:Int×List (ByteArray×Bool)×PUnit→Prop):Prop:=oZ (Option (Nat×D)) (findD TypeDesc.string (Value.string y13) (List.map (cW Sy.str false Sy.bool) s12.2.1) 0) fun (y24:Option (Nat×D))=>eJ Sy.str false Sy.bool (fN (List.map (cW Sy.str false Sy.bool) s12.2.1) y24 (Value.string y13) (D.p BGL)) fun (y25:List (ByteArray×Bool))=>X11 (IntKind.i64.wrap (s12.1+1),y25,())
def BIC(a0:aC):List T:=[T.v (.string a0.1),T.sl false (BHB a0), T.sl false (BG5 a0), T.sl false (BG8 a0), T.sl false (BG3 a0), T.sl false (BG2 a0)]
def BIO(a0:aC)(m1:List (ByteArray×Int))(m2:List (ByteArray×Int))(m3:List (ByteArray×Int))(m4:List (ByteArray×Int)):List T:=[T.ref (BHD a0), T.mp (bS m1),T.mp (bS m2), T.mp (bS m3),T.mp (bS m4)]
def BIV(y18:List ByteArray×Bool):List (List T):=List.map Sy.str.enc y18.1
def L7(a0:aC)(m1:List (ByteArray×Int))(m2:List (ByteArray×Int))(m3:List (ByteArray×Int))(m4:List (ByteArray×Int))(R:T→Prop):Prop:=eJ Sy.str false Sy.bool [] fun (y0:List (ByteArray×Bool))=>aZ (List aO×List (ByteArray×Bool)×Int×PUnit) (fun X1 s2=>aD (decide (s2.2.2.1<(↑(BG3 a0).length:Int))) (aP aE (BG3 a0) s2.2.2.1 fun (y3:aV)=>aI BGI (eQ [T.v (.string y3.1)]) fun (y4:Bool)=>aD (!y4) (R BGS) (aI BGI (gT [T.ref [T.ref (BIC a0), T.mp (bS m1),T.mp (bS m2),T.mp (bS m3), T.mp (bS m4)], T.v (.string y3.2.1)]) fun (y5:Bool)=>aD (!y5) (R BGX) (aD (decide (y3.2.2.2.1<1)) (R BGH) (aD (decide (10000<y3.2.2.2.1)) (R BGH) (aI [(false,Sy.any)] (HU [T.sl false (BH7 y3)]) fun (y6:T)=>aI BGI (wO [T.v (.int .i64 (↑(BH7 y3).length:Int)), y6]) fun (y7:Bool)=>aD (!y7) (R BGT) (aI [(false,Sy.any)] (HU [T.sl false (BHV y3)]) fun (y8:T)=>aI BGI (wO [T.v (.int .i64 (↑(BHV y3).length:Int)), y8]) fun (y9:Bool)=>aD (!y9) (R BGT) (eJ Sy.str false Sy.bool (List.map (cW Sy.str false Sy.bool) s2.2.1) fun (y10:List (ByteArray×Bool))=>aZ (Int×List (ByteArray×Bool)×PUnit) (fun X11 s12=>aD (decide (s12.1<(↑(BH7 y3).length:Int))) (aP Sy.str (BH7 y3) s12.1 fun (y13:ByteArray)=>iF TypeDesc.string (Value.string y13) (qX (bS m2)) false BGM (R BGX) fun (i14:Nat) (y15:Int)=>aP aJ (BG5 a0) y15 fun (y16:bC)=>aD (!decide (y16.2.2.1=4)) (aD (!decide (y16.2.2.1=3)) (R (T.v (.int .i64 10))) (aP aJ (BG5 a0) y15 fun (y17:bC)=>aI [(false,Sy.str.li),(false,Sy.bool)] (kZ [T.ref (BIO a0 m1 m2 m3 m4), T.v (.string y17.2.2.2.1)]) fun (y18:List ByteArray×Bool)=>aD (decide ((↑(BIV y18).length:Int)=0)) (R BGN) (aP Sy.str (BIV y18) (IntKind.i64.wrap ((↑(BIV y18).length:Int)-1)) fun (y19:ByteArray)=>aD (!decide (y19=y3.2.1)) (R BGN) (iF TypeDesc.string (Value.string y13) (List.map (cW Sy.str false Sy.bool) s12.2.1) false Sy.bool (BHG y13 s12 X11) fun (i20:Nat) (y21:Bool)=>aD y21 (R (T.v (.int .i64 7))) (oZ (Option (Nat×D)) (findD TypeDesc.string (Value.string y13) (List.map (cW Sy.str false Sy.bool) s12.2.1) 0) fun (y22:Option (Nat×D))=>eJ Sy.str false Sy.bool (fN (List.map (cW Sy.str false Sy.bool) s12.2.1) y22 (Value.string y13) (D.p BGL)) fun (y23:List (ByteArray×Bool))=>X11 (IntKind.i64.wrap (s12.1+1),y23, ())))))) (aP aJ (BG5 a0) y15 fun (y26:bC)=>aI [(false,Sy.str.li),(false,Sy.bool)] (kZ [T.ref (BIO a0 m1 m2 m3 m4), T.v (.string y26.2.2.2.1)]) fun (y27:List ByteArray×Bool)=>aD (decide ((↑(BIV y27).length:Int)=0)) (R BGN) (aP Sy.str (BIV y27) (IntKind.i64.wrap ((↑(BIV y27).length:Int)-1)) fun (y28:ByteArray)=>aD (!decide (y28=y3.2.1)) (R BGN) (iF TypeDesc.string (Value.string y13) (List.map (cW Sy.str false Sy.bool) s12.2.1) false Sy.bool (BHG y13 s12 X11) fun (i29:Nat) (y30:Bool)=>aD y30 (R (T.v (.int .i64 7))) (BHG y13 s12 X11))))) (cH aA (List.map aA.enc s2.1) fun (y35:List aO)=>aZ (List aO×Int×PUnit) (fun X36 s37=>aD (decide (s37.2.1 < (↑(BHV y3).length:Int))) (aP Sy.str (BHV y3) s37.2.1 fun (y38:ByteArray)=>aD (decide (y38=y3.1)) (R BGN) (iF TypeDesc.string (Value.string y38) (qX (bS m4)) false BGM (R BGX) fun (i39:Nat) (y40:Int)=>bQ (decide (((List.map aA.enc s37.1).length+1)*16 ≤ 140737488355328) && decide ((List.map aA.enc s37.1).length+1 ≤ 140737488355328)) (cH aA (List.map aA.enc s37.1 ++ [[T.v (.int .i64 y40), T.v (.int .i64 s2.2.2.1)]]) fun (y41:List aO)=>X36 (y41,IntKind.i64.wrap (s37.2.1+1),())))) (cH aA (List.map aA.enc s37.1) fun (y42:List aO)=>eJ Sy.str false Sy.bool (List.map (cW Sy.str false Sy.bool) s12.2.1) fun (y43:List (ByteArray×Bool))=>X1 (y42,y43,IntKind.i64.wrap (s2.2.2.1+1),()))) (y35,0,()))) (0,y10,())))))))) (aI [(false,BGM.li),(false,Sy.int IntKind.i64)] (ES [T.v (.int .i64 (↑(BG3 a0).length:Int)), T.sl false (List.map aA.enc s2.1)]) fun (y44:List Int×Int)=>aD (!decide (y44.2=0)) (R (T.v (.int .i64 20))) (R BGJ))) ([],y0,0,())
theorem ZR ( a0 m1 m2 m3 m4 R):dY bR Tryz.prog LW ZZ 8 54 (oA a0 m1 m2 m3 m4) R=L7 a0 m1 m2 m3 m4 R:=by kernel_rfl
theorem UC (x y:aC×MP×MP×MP×MP) (h:oA x.1 x.2.1 x.2.2.1 x.2.2.2.1 x.2.2.2.2=oA y.1 y.2.1 y.2.2.1 y.2.2.2.1 y.2.2.2.2):x=y:=qV (List.cons.inj h).1
abbrev jU (k:aV):List ByteArray:=k.2.2.1
abbrev gI (k:aV):List ByteArray:=k.2.2.2.2
abbrev WT (k:aV):Int:=k.2.2.2.1
def x8 (d:aC) (k:aV):Int:=if vG k.1=false then 6 else if x9 d k.2.1=false then 8 else if WT k<1∨10000<WT k then 9 else if uM (jU k)=false∨uM (gI k)=false then 11 else 0
def instE (d:aC) (b:ByteArray):List ByteArray→List ByteArray→Int×List ByteArray
 | [],S=>(0,S)
 | id::l,S=>match partOf d id with
  | none=>(8,S)
  | some p=>if ¬ fX p=4∧¬ fX p=3 then (10,S) else if (up d (nK p)).1.getLast? = some b then (if WV S id=true then (7,S) else instE d b l (id::S)) else (2,S)
def VG (d:aC) (k:ByteArray) (i:Int):List ByteArray→List aO→Int×List aO
 | [],E=>(0,E)
 | id::l,E=>if id=k then (2,E) else match j1 (iX (ids d.2.2.2.2.1)) id with
  | none=>(8,E)
  | some j=>VG d k i l (E++[(j,i)])
def pG (d:aC):List aV→Int→List aO→List ByteArray→Int×List aO
 | [],_,E,_=>(0,E)
 | k::l,i,E,S=>if ¬ x8 d k=0 then (x8 d k,E) else if ¬ (instE d k.2.1 (jU k) S).1=0 then ((instE d k.2.1 (jU k) S).1,E) else if ¬ (VG d k.1 i (gI k) E).1=0 then ((VG d k.1 i (gI k) E).1,E) else
  pG d l (i+1) (VG d k.1 i (gI k) E).2 (instE d k.2.1 (jU k) S).2
def jV (d:aC):Int:=if (pG d d.2.2.2.2.1 0 [] []).1=0 then (if (lY d.2.2.2.2.1.length (pG d d.2.2.2.2.1 0 [] []).2).2=0 then 0 else 20) else (pG d d.2.2.2.2.1 0 [] []).1
def zM (d:aC):Bool:=d.2.2.2.2.1.all (fun k=>decide ((jU k).length≤140737488355328)&&decide ((gI k).length≤140737488355328))&&decide (d.2.2.2.2.1.length≤64)
theorem oO (a b:ByteArray):cV a b=true↔a.data.toList<b.data.toList:=by
 unfold cV;rw[bytesLess_eq,decide_eq_true_iff]
theorem ALE {a b:ByteArray} (h:(!(cV b a||decide (b=a)))=true):a.data.toList<b.data.toList:=by
 simp only[Bool.not_eq_true',Bool.or_eq_false_iff,decide_eq_false_iff_not] at h
 refine Classical.byContradiction fun hc=>h.2 ?_
 have h1:¬ b.data.toList<a.data.toList:=fun h'=>by rw[(oO b a).2 h'] at h;exact absurd h.1 (by decide)
 have e:b.data.toList=a.data.toList:=List.le_antisymm (List.not_lt.1 hc) (List.not_lt.1 h1)
 exact ByteArray.ext (Array.ext' e)
theorem AAH:∀ {l:List ByteArray},uM l=true→l.Pairwise fun a b=>a.data.toList<b.data.toList
 | [],_=>List.Pairwise.nil
 | [a],_=>by simp
 | a::b::l,h=>by
  rw[uM,Bool.and_eq_true] at h
  have h1:=ALE h.1
  have ih:=AAH h.2
  refine List.pairwise_cons.2 ⟨fun x hx=>?_,ih⟩
  rcases List.mem_cons.1 hx with rfl|hx
  ·exact h1
  ·exact List.lt_trans h1 ((List.pairwise_cons.1 ih).1 x hx)
theorem AO9 {l:List ByteArray} (h:uM l=true):l.Nodup:=by
 refine (AAH h).imp fun {a b} hab e=>?_
 subst e
 exact List.lt_irrefl _ hab
theorem AL8:∀ {l m:List ByteArray},l.Nodup→(∀ x∈l,x∈m)→l.length≤m.length
 | [],_,_,_=>Nat.zero_le _
 | a::l,m,h,hm=>by
  obtain ⟨h1,h2⟩:=List.pairwise_cons.1 h
  have h3:l.length≤(m.filter fun x=>decide (x≠a)).length:=AL8 h2 fun x hx=>List.mem_filter.2 ⟨hm x (List.mem_cons_of_mem _ hx),decide_eq_true fun e=>h1 x hx e.symm⟩
  have h4:(m.filter fun x=>decide (x≠a)).length<m.length:=List.length_filter_lt_length_iff_exists.2 ⟨a,hm a List.mem_cons_self,by simp⟩
  rw[List.length_cons];omega
def uB (x:aC×MP×MP×MP×MP):Option T:=match zM x.1 with
 | true=>wK x (T.v (Value.int .i64 (jV x.1)))
 | false=>none
noncomputable def tF:List T→Option (T):=gA (fun (x:aC×(List (ByteArray×Int))×(List (ByteArray×Int))×(List (ByteArray×Int))×List (ByteArray×Int))=>oA x.1 x.2.1 x.2.2.1 x.2.2.2.1 x.2.2.2.2) uB
theorem ABR (a0:aC) (m1:List (ByteArray×Int)) (m2:List (ByteArray×Int)) (m3:List (ByteArray×Int)) (m4:List (ByteArray×Int)):tF (oA a0 m1 m2 m3 m4)=uB (a0,m1,m2,m3,m4):=eN (A:=(fun (x:aC×(List (ByteArray×Int))×(List (ByteArray×Int))×(List (ByteArray×Int))×List (ByteArray×Int))=>oA x.1 x.2.1 x.2.2.1 x.2.2.2.1 x.2.2.2.2)) UC (a0,m1,m2,m3,m4)
theorem ARP (h:∀ (a0:aC) (m1:List (ByteArray×Int)) (m2:List (ByteArray×Int)) (m3:List (ByteArray×Int)) (m4:List (ByteArray×Int)) (r:T),uB (a0,m1,m2,m3,m4)=some r→(∀ t∈oA a0 m1 m2 m3 m4,Bd t)→L7 a0 m1 m2 m3 m4 (fun y=>y=r)):aN Tryz.prog 54 tF :=
 cK (E:=LW) (Hs:=ZZ) AFH aQ aS (aL rfl) 8 ⟨_,_,Tryz.func54,rfl⟩ fun x r h1 h2=>by
  rw[ZR]
  exact h x.1 x.2.1 x.2.2.1 x.2.2.2.1 x.2.2.2.2 r h1 h2
theorem BEL {α:Type} {id:ByteArray} {l:List (ByteArray×α)} {A:Prop} {B:Nat→Int→Prop} (hA:j1 (iX (ids l)) id=none→l.find? (fun s=>decide (s.1=id))=none→A) (hB:∀ i k (h:k<l.length),j1 (iX (ids l)) id=some (k:Int)→l.find? (fun s=>decide (s.1=id))=some l[k]→B i (k:Int)) :
  iF TypeDesc.string (Value.string id) (qX (bS (iX (ids l)))) false (Sy.int IntKind.i64) A B:=by
 rw[ADJ]
 refine D9 (r:=.int .i64) (fun h=>?_) fun i v h=>?_
 ·rcases EY id l with ⟨h1,h2⟩|⟨k,hk,h1,_⟩
  ·exact hA h1 h2
  ·rw[h] at h1;cases h1
 ·rcases EY id l with ⟨h1,_⟩|⟨k,hk,h1,h2⟩
  ·rw[h] at h1;cases h1
  ·rw[h] at h1;cases h1;exact hB i k hk h h2
theorem BEM {l:List ByteArray} {b:ByteArray} {A:Prop} (hl:l.length≤140737488355328) (hyes:l.getLast? = some b→A) (hno:¬ l.getLast? = some b→A) {R2:Prop} (hR2:¬ l.getLast? = some b→R2) {K:Prop} (hK:l.getLast? = some b→K) :
  aD (decide (((List.map Sy.str.enc l).length:Int)=0)) R2 (aP Sy.str (List.map Sy.str.enc l) (IntKind.i64.wrap (((List.map Sy.str.enc l).length:Int)-1)) fun (y:ByteArray)=>aD (!decide (y=b)) R2 K):=by
 rw[List.length_map]
 refine cF (fun h=>hR2 ?_) fun h=>?_
 ·have:l=[]:=List.length_eq_zero_iff.1 (by omega)
  rw[this];simp
 ·have h1:l.length-1<l.length:=by omega
  rw[bH _ (by omega) (by omega),show ((l.length:Int)-1)=((l.length-1:Nat):Int) by omega,bG (r:=.str) h1]
  have e:l.getLast? = some l[l.length-1]:=by rw[List.getLast?_eq_getElem?,List.getElem?_eq_getElem h1]
  refine mA (fun h=>hR2 ?_) fun h=>hK ?_
  ·rw[e];intro h';exact h (Option.some.inj h')
  ·rw[e];exact congrArg some h
theorem BE6 {es:List (ByteArray×Bool)} {S:List ByteArray} {id:ByteArray} {R7:Prop} {K:List (ByteArray×Bool)→Prop} (hS:Seen es (fun x=>x∈S)) (h7:id∈S→R7) (hK:∀ es',id∉S→Seen es' (fun x=>x∈id::S)→K es') :
  iF TypeDesc.string (Value.string id) (List.map (cW Sy.str false Sy.bool) es) false Sy.bool
   (oZ (Option (Nat×D)) (findD TypeDesc.string (Value.string id) (List.map (cW Sy.str false Sy.bool) es) 0) fun (y24:Option (Nat×D)) =>
    eJ Sy.str false Sy.bool (fN (List.map (cW Sy.str false Sy.bool) es) y24 (Value.string id) (D.p (T.v (.bool true)))) fun (y25:List (ByteArray×Bool))=>K y25)
   fun (i20:Nat) (y21:Bool)=>aD y21 R7
    (oZ (Option (Nat×D)) (findD TypeDesc.string (Value.string id) (List.map (cW Sy.str false Sy.bool) es) 0) fun (y22:Option (Nat×D)) =>
     eJ Sy.str false Sy.bool (fN (List.map (cW Sy.str false Sy.bool) es) y22 (Value.string id) (D.p (T.v (.bool true)))) fun (y23:List (ByteArray×Bool))=>K y23):=by
 refine D9 (r:=.bool) (fun hno=>?_) fun j b hb=>?_
 ·refine AZT (r:=.bool) rfl (es:=es) (k:=id) (v:=true) (hK _ (fun h=>?_) ((hS.ins id).congr fun x=>?_))
  ·have:=(hS.2 id).2 h
   rw[hno] at this;cases this
  ·rw[List.mem_cons];exact ⟨fun h=>h.symm.imp_left Eq.symm,fun h=>h.symm.imp_right Eq.symm⟩
 ·have:=hS.1 _ _ hb
  subst this
  rw[jT]
  exact h7 ((hS.2 _).1 hb)
theorem AP2:aN Tryz.prog 54 tF:=ARP fun d m1 m2 m3 m4 r h hb=>by
 unfold uB at h
 split at h
 case h_2=>cases h
 rename_i hok
 replace hok:zM d=true:=hok
 obtain ⟨hx,hs,rfl⟩:=oM h
 simp only[Prod.mk.injEq,true_and] at hx
 obtain ⟨rfl,rfl,rfl,rfl⟩:=hx
 replace hs:nN d:=hs
 clear h hb
 simp only[zM,Bool.and_eq_true,decide_eq_true_eq,List.all_eq_true] at hok
 obtain ⟨hkp,hka⟩:=hok
 have hkq:=fun k hk=>(hkp k hk).2
 replace hkp:=fun k hk=>(hkp k hk).1
 have hlk:=hs.k
 have is:∀ {n:Int},jV d=n→T.v (.int .i64 n)=T.v (.int .i64 (jV d)):=fun h=>by rw[h]
 unfold L7 BIV BIO BIC BHG BHV BHD BHB BH7 BG8 BG5 BG3 BG2 BGX BGT BGS BGN BGM BGL BGJ BGI BGH
 refine oF (r:=.bool) rfl [] _ ?_
 refine bM d.2.2.2.2.1.length (fun k s=>∃ S,s.2.2.1=(k:Int)∧Seen s.2.1 (fun x=>x∈S)∧s.1.length≤64*k∧pG d (d.2.2.2.2.1.drop k) k s.1 S=pG d d.2.2.2.2.1 0 [] []) ⟨[],rfl,Seen.nil.congr (by simp),by simp,rfl⟩ ?_
 rintro X k ⟨E,es,i,u⟩ hk ⟨S,rfl,hseen,hlen,hr⟩ hX
 dsimp only at hseen hlen hr ⊢
 refine cF (fun hlt=>?_) fun hge=>?_
 ·rw[List.length_map] at hlt
  have hlt:k<d.2.2.2.2.1.length:=by omega
  rw[bG (r:=aE) hlt]
  rw[List.drop_eq_getElem_cons hlt] at hr
  have hmem:=List.getElem_mem hlt
  have hp1:=hkp _ hmem
  have hp2:=hkq _ hmem
  generalize hy:d.2.2.2.2.1[k]=y at hr hp1 hp2 ⊢
  rw[pG] at hr
  have bad:∀ {n:Int},n≠0→(pG d d.2.2.2.2.1 0 [] []).1=n→T.v (.int .i64 n)=T.v (.int .i64 (jV d)):=fun hn h=>by
   refine is ?_
   unfold jV
   rw[if_neg (by rw[h];exact hn),h]
  have badH:∀ {n:Int},n≠0→x8 d y=n→T.v (.int .i64 n)=T.v (.int .i64 (jV d)):=fun hn h=>by
   refine bad hn ?_
   rw[if_pos (by rw[h];exact hn)] at hr
   rw[←hr];exact h
  rw[nU]
  refine jS (fun h=>badH (by decide) (by unfold x8;rw[if_pos h])) fun i1=>?_
  refine aG (s:=[(false,.bool)]) (OK hs _) ?_
  refine jS (fun h=>badH (by decide) (by unfold x8;rw[if_neg (by rw[i1];decide),if_pos h])) fun i2=>?_
  have n1:¬ vG y.1=false:=by rw[i1];decide
  have n2:¬ x9 d y.2.1=false:=by rw[i2];decide
  refine cF (fun h=>badH (by decide) (by unfold x8;rw[if_neg n1,if_neg n2,if_pos (.inl h)])) fun h3=>?_
  refine cF (fun h=>badH (by decide) (by unfold x8;rw[if_neg n1,if_neg n2,if_pos (.inr h)])) fun h4=>?_
  have n3:¬ (WT y<1∨10000<WT y):=by rintro (h|h);exact h3 h;exact h4 h
  refine aG (s:=[(false,.any)]) (S2 (a0:=jU y)) ?_
  refine K1 (b:=uM (jU y)) (by rw[List.length_map];exact AZG hp1) _ ?_
  refine jS (fun h=>badH (by decide) (by unfold x8;rw[if_neg n1,if_neg n2,if_neg n3,if_pos (.inl h)])) fun h5=>?_
  refine aG (s:=[(false,.any)]) (S2 (a0:=gI y)) ?_
  refine K1 (b:=uM (gI y)) (by rw[List.length_map];exact AZG (l:=gI y) hp2) _ ?_
  refine jS (fun h=>badH (by decide) (by unfold x8;rw[if_neg n1,if_neg n2,if_neg n3,if_pos (.inr h)])) fun h6=>?_
  have hh:x8 d y=0:=by unfold x8;rw[if_neg n1,if_neg n2,if_neg n3,if_neg];rintro (h|h);(rw[h5] at h;cases h);(rw[h6] at h;cases h)
  have hnd:=AO9 h6
  clear badH n1 n2 n3 h3 h4 h5 h6 i1 i2
  rw[if_neg (fun h=>h hh)] at hr
  refine oF (r:=.bool) rfl es _ ?_
  refine bM (jU y).length (fun j s=>∃ S',s.1=(j:Int)∧Seen s.2.1 (fun x=>x∈S')∧instE d y.2.1 ((jU y).drop j) S'=instE d y.2.1 (jU y) S) ⟨S,rfl,hseen,rfl⟩ ?_
  rintro Y j ⟨i,es',u⟩ hj ⟨S',rfl,hseen',hi⟩ hY
  dsimp only at hseen' hi ⊢
  refine cF (fun hjl=>?_) fun hjl=>?_
  ·rw[List.length_map] at hjl
   replace hjl:(j:Int)<((jU y).length:Int):=hjl
   have hjl:j<(jU y).length:=by omega
   rw[bG (r:=.str) hjl]
   rw[List.drop_eq_getElem_cons hjl,instE] at hi
   have badI:∀ {n:Int},n≠0→(instE d y.2.1 (jU y) S).1=n→T.v (.int .i64 n)=T.v (.int .i64 (jV d)):=fun hn h=>by
    refine bad hn ?_
    rw[if_pos (by rw[h];exact hn)] at hr
    rw[←hr];exact h
   have hw:IntKind.i64.wrap ((j:Int)+1)=((j+1:Nat):Int):=bH _ (by omega) (by omega)
   generalize (jU y)[j]=id at hi ⊢
   refine BEL (fun _ hn=>badI (by decide) ?_) fun i q hq _ hn=>?_
   ·have hn:partOf d id=none:=hn
    rw[hn] at hi;rw[←hi]
   ·have hn:partOf d id=some d.2.2.1[q]:=hn
    rw[hn] at hi
    rw[bG (r:=aJ) hq]
    obtain ⟨p,hp⟩:∃ p,p=d.2.2.1[q]:=⟨_,rfl⟩
    rw[←hp] at hi hn ⊢
    dsimp only at hi
    have fin:¬ (¬ fX p=4∧¬ fX p=3)→aI [(false,Sy.str.li),(false,Sy.bool)]
      (kZ (mI d (iX (ids d.2.1)) (iX (ids d.2.2.1)) (iX (ids d.2.2.2.1)) (iX (ids d.2.2.2.2.1)) (nK p))) fun (y18:List ByteArray×Bool) =>
      aD (decide (((List.map Sy.str.enc y18.1).length:Int)=0)) (T.v (.int .i64 2)=T.v (.int .i64 (jV d)))
       (aP Sy.str (List.map Sy.str.enc y18.1) (IntKind.i64.wrap (((List.map Sy.str.enc y18.1).length:Int)-1)) fun (y19:ByteArray) =>
        aD (!decide (y19=y.2.1)) (T.v (.int .i64 2)=T.v (.int .i64 (jV d)))
        (iF TypeDesc.string (Value.string id) (List.map (cW Sy.str false Sy.bool) es') false Sy.bool
         (oZ (Option (Nat×D)) (findD TypeDesc.string (Value.string id) (List.map (cW Sy.str false Sy.bool) es') 0) fun (y24:Option (Nat×D)) =>
          eJ Sy.str false Sy.bool (fN (List.map (cW Sy.str false Sy.bool) es') y24 (Value.string id) (D.p (T.v (.bool true)))) fun (y25:List (ByteArray×Bool))=>Y (IntKind.i64.wrap ((j:Int)+1),y25,()))
         fun (i20:Nat) (y21:Bool)=>aD y21 (T.v (.int .i64 7)=T.v (.int .i64 (jV d)))
          (oZ (Option (Nat×D)) (findD TypeDesc.string (Value.string id) (List.map (cW Sy.str false Sy.bool) es') 0) fun (y22:Option (Nat×D)) =>
           eJ Sy.str false Sy.bool (fN (List.map (cW Sy.str false Sy.bool) es') y22 (Value.string id) (D.p (T.v (.bool true)))) fun (y23:List (ByteArray×Bool))=>Y (IntKind.i64.wrap ((j:Int)+1),y23,())))):=by
     intro hk
     rw[if_neg hk] at hi
     refine aG (s:=[(false,.li .str),(false,.bool)]) (JS hs _) ?_
     have hul:=BC4 d (nK p)
     refine BEM (A:=True) (b:=y.2.1) (by omega) (fun _=>trivial) (fun _=>trivial) (fun h=>badI (by decide) ?_) fun h=>?_
     ·rw[if_neg h] at hi;rw[←hi]
     ·rw[if_pos h] at hi
      refine BE6 (K:=fun es=>Y (IntKind.i64.wrap ((j:Int)+1),es,())) hseen' (fun h7=>badI (by decide) ?_) fun es2 h7 hs2=>?_
      ·rw[if_pos (FE.2 h7)] at hi;rw[←hi]
      ·rw[if_neg (fun h=>h7 (FE.1 h))] at hi
       rw[hw]
       exact hY _ hjl ⟨id::S',rfl,hs2,hi⟩
    refine mA (fun k4=>?_) fun k4=>?_
    ·refine mA (fun k3=>badI (by decide) ?_) fun k3=>?_
     ·rw[if_pos ⟨k4,k3⟩] at hi;rw[←hi]
     ·rw[bG (r:=aJ) hq,←hp]
      exact fin fun h=>h.2 k3
    ·rw[bG (r:=aJ) hq,←hp]
     exact fin fun h=>h.1 k4
  ·rw[List.length_map] at hjl
   replace hjl:¬ (j:Int)<((jU y).length:Int):=hjl
   have hjl:j=(jU y).length:=by omega
   subst hjl
   rw[List.drop_length,instE] at hi
   rw[←hi,if_neg (by simp)] at hr
   dsimp only at hr
   clear hY hi hj
   rw[eT rfl]
   refine bM (gI y).length (fun j s=>s.2.1=(j:Int)∧s.1.length=E.length+j∧(∀ x∈(gI y).take j,x∈ids d.2.2.2.2.1)∧VG d y.1 k ((gI y).drop j) s.1=VG d y.1 k (gI y) E) ⟨rfl,by simp,by simp,rfl⟩ ?_
   rintro Y j ⟨E',i,u⟩ hj ⟨rfl,hEl,hin,hi⟩ hY
   dsimp only at hEl hin hi ⊢
   have hjk:j≤64:=by
    have h1:=AL8 (hnd.sublist (List.take_sublist j _)) hin
    have h2:(ids d.2.2.2.2.1).length=d.2.2.2.2.1.length:=by simp[ids]
    rw[List.length_take] at h1
    omega
   refine cF (fun hjl=>?_) fun hjl=>?_
   ·rw[List.length_map] at hjl
    replace hjl:(j:Int)<((gI y).length:Int):=hjl
    have hjl:j<(gI y).length:=by omega
    rw[bG (r:=.str) hjl]
    rw[List.drop_eq_getElem_cons hjl,VG] at hi
    have badA:∀ {n:Int},n≠0→(VG d y.1 k (gI y) E).1=n→T.v (.int .i64 n)=T.v (.int .i64 (jV d)):=fun hn h=>by
     refine bad hn ?_
     rw[if_pos (by rw[h];exact hn)] at hr
     rw[←hr];exact h
    have hw:IntKind.i64.wrap ((j:Int)+1)=((j+1:Nat):Int):=bH _ (by omega) (by omega)
    have hts:(gI y).take (j+1)=(gI y).take j++[(gI y)[j]]:=List.take_succ_eq_append_getElem hjl
    generalize (gI y)[j]=id at hi hts ⊢
    refine cF (fun h=>badA (by decide) ?_) fun h=>?_
    ·rw[if_pos h] at hi;rw[←hi]
    rw[if_neg h] at hi
    refine BEL (fun hg _=>badA (by decide) ?_) fun i q hq hg hfi=>?_
    ·rw[hg] at hi;rw[←hi]
    ·rw[hg] at hi
     dsimp only at hi
     refine ⟨by simp;omega,?_⟩
     rw[sV (r:=aA) rfl E' [T.v (.int .i64 (q:Int)),T.v (.int .i64 (k:Int))] ((q:Int),(k:Int)) rfl,hw]
     refine hY _ hjl ⟨rfl,by simp only[List.length_append,List.length_cons,List.length_nil];omega,fun x hx=>?_,hi⟩
     rw[hts] at hx
     rcases List.mem_append.1 hx with hx|hx
     ·exact hin x hx
     ·have hx:x=id:=by simpa using hx
      subst hx
      have h9:=List.find?_some hfi
      exact List.mem_map.2 ⟨_,List.getElem_mem hq,of_decide_eq_true h9⟩
   ·rw[List.length_map] at hjl
    replace hjl:¬ (j:Int)<((gI y).length:Int):=hjl
    have hjl:j=(gI y).length:=by omega
    subst hjl
    rw[List.drop_length,VG] at hi
    rw[←hi,if_neg (by simp)] at hr
    dsimp only at hr
    rw[eT rfl]
    refine oF (r:=.bool) rfl es' _ ?_
    refine hX _ hlt ⟨S',?_,hseen',?_,?_⟩
    ·show IntKind.i64.wrap ((k:Int)+1)=_
     rw[bH]<;>omega
    ·show E'.length≤_
     omega
    ·rw[←hr];rfl
 ·rw[List.length_map] at hge
  have hkl:k=d.2.2.2.2.1.length:=by omega
  subst hkl
  rw[List.drop_length,pG] at hr
  have w:jV d=if (lY d.2.2.2.2.1.length E).2=0 then 0 else 20:=by
   unfold jV;rw[←hr,if_pos rfl]
  refine aG (s:=[(false,.li (.int .i64)),(false,.int .i64)]) (y:=lY d.2.2.2.2.1.length E) (by rw[List.length_map];exact (AIA ..).trans (j8 (l:=E) _ (by omega))) ?_
  exact mA (fun h=>is (by rw[w,if_neg h])) fun h=>is (by rw[w,if_pos h])
end Go.Pv
namespace Go.Pv
open Go Go.Proofs
theorem KW {a:Option MP} {es:MP} {K:MP→Prop} (h:a=some es) (hk:K es):oZ (List (ByteArray×Int)) a K:=⟨es,h,hk⟩
end Go.Pv
namespace Go.Pv
open Go Go.Proofs
noncomputable def SU:List T→Option (List (ByteArray×Int)):=AQV
theorem A98:kP Tryz.prog 84 (sB SU):=BEH
noncomputable def A8V:Env:=Env.of [(47,.pure xP),(48,.pure iO),(84,.APW SU),(50,.pure OJ),(51,.pure xJ),(52,.pure tG),(53,.pure xK),(54,.pure tF),(55,.pure xI)]
theorem ATU:aT Tryz.prog A8V:=.cons AP6 (.cons zC (.cons A98 (.cons A5G (.cons APY (.cons AP3 (.cons APZ (.cons AP2 (.cons APX (.nil _)))))))))
def BHJ(a0:aC):List T:=[T.ref [T.ref [T.sl false (BG2 a0), T.sl false (BG3 a0), T.sl false (BG8 a0), T.sl false (BG5 a0), T.sl false (BHB a0), T.v (.string a0.1)].reverse].reverse]
def AF1(a0:aC)(a1:aH)(R:T→Prop):Prop:=aI BGG (xP [aF true aK a1]) fun (y0:Int)=>aD (!decide (y0=0)) (R (BHX y0)) (aI BGI (iO [T.v (.string a0.1)]) fun (y1:Bool)=>aD (!y1) (R BGS) (oZ (List (ByteArray×Int)) (SU [T.fn 85 [].reverse (BHJ a0).reverse, T.v (.int .i64 (↑(BHB a0).length:Int))].reverse) fun (y2:List (ByteArray×Int))=>oZ (List (ByteArray×Int)) (SU [T.fn 86 [].reverse (BHJ a0).reverse, T.v (.int .i64 (↑(BG5 a0).length:Int))].reverse) fun (y3:List (ByteArray×Int))=>oZ (List (ByteArray×Int)) (SU [T.fn 87 [].reverse (BHJ a0).reverse, T.v (.int .i64 (↑(BG8 a0).length:Int))].reverse) fun (y4:List (ByteArray×Int))=>oZ (List (ByteArray×Int)) (SU [T.fn 88 [].reverse (BHJ a0).reverse, T.v (.int .i64 (↑(BG3 a0).length:Int))].reverse) fun (y5:List (ByteArray×Int))=>aI BGG (OJ [T.ref [T.ref (BIC a0), T.mp (bS y2),T.mp (bS y3),T.mp (bS y4), T.mp (bS y5)]]) fun (y6:Int)=>aD (!decide (y6=0)) (R (BHX y6)) (aI BGG (xJ [T.ref [T.ref (BHD a0), T.mp (bS y2),T.mp (bS y3),T.mp (bS y4), T.mp (bS y5)]]) fun (y7:Int)=>aD (!decide (y7=0)) (R (BHX y7)) (aI BGG (tG [T.ref [T.ref (BHD a0), T.mp (bS y2),T.mp (bS y3),T.mp (bS y4), T.mp (bS y5)], aF true aK a1]) fun (y8:Int)=>aD (!decide (y8=0)) (R (BHX y8)) (aI BGG (xK [T.ref (BIO a0 y2 y3 y4 y5)]) fun (y9:Int)=>aD (!decide (y9=0)) (R (BHX y9)) (aI BGG (tF [T.ref (BIO a0 y2 y3 y4 y5)]) fun (y10:Int)=>aD (!decide (y10=0)) (R (BHX y10)) (aI BGG (xI [T.ref (BIO a0 y2 y3 y4 y5)]) fun (y11:Int)=>R (BHX y11))))))))
abbrev AJU:Sh:=[(true,aB),(true,aK)]
def mL (d:aC) (m:aH):Int:=if ¬ AR m=0 then AR m else if isName d.1=false then 6 else if ¬ qH d=0 then qH d else if ¬ lX d=0 then lX d else if ¬ nY d m=0 then nY d m else if ¬ cI (yO d) d.2.2.2.1=0 then cI (yO d) d.2.2.2.1 else if ¬ jV d=0 then jV d else cI (BJ d) d.2.2.2.2.2
def K4 (x:aC×aH):Option T:=some (T.v (Value.int .i64 (mL x.1 x.2)))
noncomputable def cM:List T→Option T:=gS AJU K4
theorem nP {a0 a1}:cM [aF true aB a0,aF true aK a1]=K4 (a0,a1):=bE (s:=AJU) rfl (a0,a1) rfl
theorem A6F:r8 Tryz.prog 20 cM K4 (cC AJU) AF1:=iB (a1:=(true,aB)) (a2:=(true,aK)) (sp:=K4) (F:=AF1) (Hs:=dI) (f:=20) (k:=8) ATU aQ aS (aL rfl) ⟨_,_,Tryz.func20,rfl⟩ rfl fun _ _ _=>by kernel_rfl
theorem A50 {m:aH} (h:AR m=0):okM m=true:=by
 unfold AR at h
 split at h
 ·cases h
 rename_i h1
 split at h
 ·rename_i h2;exact absurd h h2
 rename_i h2
 have h2:cI (x6 m) (List.range m.1.length)=0:=Classical.byContradiction h2
 simp only[okM,Bool.and_eq_true,decide_eq_true_eq,List.all_eq_true]
 refine ⟨⟨by omega,by omega⟩,fun g hg=>?_⟩
 obtain ⟨i,hi,rfl⟩:=List.mem_iff_getElem.1 hg
 have h3:=JK h2 i (List.mem_range.2 hi)
 unfold x6 at h3
 rw[vD hi] at h3
 have h4:jR m.1[i]=0:=by
  refine Classical.byContradiction fun hc=>?_
  rw[if_pos hc] at h3
  exact hc h3
 unfold jR at h4
 split at h4
 ·cases h4
 split at h4
 ·cases h4
 split at h4
 ·cases h4
 split at h4
 ·cases h4
 ·omega
theorem A4L {d:aC} {m:aH} (hs:nN d) (hm:okM m=true):tG (oB d (iX (ids d.2.1)) (iX (ids d.2.2.1)) (iX (ids d.2.2.2.1)) (iX (ids d.2.2.2.2.1)) m)=some (T.v (Value.int .i64 (nY d m))):=by
 rw[ABS];unfold uC;dsimp only;rw[hm];exact oN hs _
theorem A4K {d:aC} (hs:nN d) (hk:zM d=true):tF (oA d (iX (ids d.2.1)) (iX (ids d.2.2.1)) (iX (ids d.2.2.2.1)) (iX (ids d.2.2.2.2.1)))=some (T.v (Value.int .i64 (jV d))):=by
 rw[ABR];unfold uB;dsimp only;rw[hk];exact oN hs _
theorem jX:aN Tryz.prog 20 cM:=A6F fun d m r h hb=>by
 cases h
 have hd:BdS aB d:=hb.1
 have hs:nN d:=⟨hd.2.1.1,hd.2.2.1.1,hd.2.2.2.1.1,hd.2.2.2.2.1.1,hd.2.2.2.2.2.1⟩
 have hkl:∀ k∈d.2.2.2.2.1,(jU k).length≤140737488355328∧(gI k).length≤140737488355328:=fun k hk=>by
  have h:=hd.2.2.2.2.1.2 k hk
  exact ⟨h.2.2.1.1,h.2.2.2.2.1⟩
 clear hd
 have is:∀ {n:Int},mL d m=n→T.v (.int .i64 n)=T.v (.int .i64 (mL d m)):=fun h=>by rw[h]
 unfold AF1 BIO BIC BHJ BHD BHB BG8 BG5 BG3 BG2 BHX BGS BGI BGG
 refine aG (s:=[(false,.int .i64)]) (y:=AR m) (AB6 ..) ?_
 refine mA (fun h=>is (by unfold mL;rw[if_pos h])) fun h0=>?_
 have hm:=A50 h0
 refine aG (s:=[(false,.bool)]) (y:=isName d.1) xN ?_
 have n0:¬ ¬ AR m=0:=fun h=>h h0
 refine jS (fun h=>is (by unfold mL;rw[if_neg n0,if_pos h])) fun hn=>?_
 have n1:¬ isName d.1=false:=by rw[hn];decide
 refine KW (es:=iX (ids d.2.1)) (by rw[List.length_map];exact BAP hs.n) ?_
 refine KW (es:=iX (ids d.2.2.1)) (by rw[List.length_map];exact BAQ hs.p) ?_
 refine KW (es:=iX (ids d.2.2.2.1)) (by rw[List.length_map];exact BAR hs.s) ?_
 refine KW (es:=iX (ids d.2.2.2.2.1)) (by rw[List.length_map];exact BAS hs.k) ?_
 refine aG (s:=[(false,.int .i64)]) (y:=qH d) ((AQT ..).trans (oN hs _)) ?_
 refine mA (fun h=>is (by unfold mL;rw[if_neg n0,if_neg n1,if_pos h])) fun h1=>?_
 have n2:¬ ¬ qH d=0:=fun h=>h h1
 have hk:zM d=true:=by
  simp only[zM,Bool.and_eq_true,decide_eq_true_eq,List.all_eq_true]
  refine ⟨hkl,?_⟩
  have hlong:nG d=false:=by
   rw[Bool.eq_false_iff]
   intro h
   unfold qH at h1
   rw[if_pos h] at h1
   cases h1
  simp only[nG,Bool.or_eq_false_iff,decide_eq_false_iff_not] at hlong
  omega
 refine aG (s:=[(false,.int .i64)]) (y:=lX d) ((ABN ..).trans (oN hs _)) ?_
 refine mA (fun h=>is (by unfold mL;rw[if_neg n0,if_neg n1,if_neg n2,if_pos h])) fun h2=>?_
 have n3:¬ ¬ lX d=0:=fun h=>h h2
 refine aG (s:=[(false,.int .i64)]) (y:=nY d m) (A4L hs hm) ?_
 refine mA (fun h=>is (by unfold mL;rw[if_neg n0,if_neg n1,if_neg n2,if_neg n3,if_pos h])) fun h3=>?_
 have n4:¬ ¬ nY d m=0:=fun h=>h h3
 refine aG (s:=[(false,.int .i64)]) (y:=cI (yO d) d.2.2.2.1) ((ABO ..).trans (oN hs _)) ?_
 refine mA (fun h=>is (by unfold mL;rw[if_neg n0,if_neg n1,if_neg n2,if_neg n3,if_neg n4,if_pos h])) fun h4=>?_
 have n5:¬ ¬ cI (yO d) d.2.2.2.1=0:=fun h=>h h4
 refine aG (s:=[(false,.int .i64)]) (y:=jV d) (A4K hs hk) ?_
 refine mA (fun h=>is (by unfold mL;rw[if_neg n0,if_neg n1,if_neg n2,if_neg n3,if_neg n4,if_neg n5,if_pos h])) fun h5=>?_
 have n6:¬ ¬ jV d=0:=fun h=>h h5
 refine aG (s:=[(false,.int .i64)]) (y:=cI (BJ d) d.2.2.2.2.2) ((ABM ..).trans (oN hs _)) ?_
 exact is (by unfold mL;rw[if_neg n0,if_neg n1,if_neg n2,if_neg n3,if_neg n4,if_neg n5,if_neg n6])
end Go.Pv
namespace Go.Pv
open Go Go.Proofs
def oX {α:Type} (after:α→α→Bool) (l:List α) (x:α):List α:=l.take (l.findIdx fun y=>after y x)++x::l.drop (l.findIdx fun y=>after y x)
def mE {α:Type} (is:α→Bool) (l:List α):List α:=l.take (l.findIdx is)++l.drop (l.findIdx is+1)
theorem AC7 {α:Type} {after:α→α→Bool} {l:List α} {x y:α}:y∈oX after l x↔y=x∨y∈l:=by
 unfold oX
 rw[List.mem_append,List.mem_cons]
 constructor
 ·rintro (h|h|h)
  ·exact .inr (List.mem_of_mem_take h)
  ·exact .inl h
  ·exact .inr (List.mem_of_mem_drop h)
 ·rintro (h|h)
  ·exact .inr (.inl h)
  ·rw[←List.take_append_drop (l.findIdx fun y=>after y x) l,List.mem_append] at h
   rcases h with h|h
   ·exact .inl h
   ·exact .inr (.inr h)
theorem NL {α:Type} {is:α→Bool} {l:List α} {y:α} (h:y∈mE is l):y∈l:=by
 unfold mE at h
 rcases List.mem_append.1 h with h|h
 ·exact List.mem_of_mem_take h
 ·exact List.mem_of_mem_drop h
theorem AZO {α:Type} {after:α→α→Bool} {l:List α} {x:α}:(oX after l x).length=l.length+1:=by
 unfold oX
 have:l.findIdx (fun y=>after y x)≤l.length:=List.findIdx_le_length
 rw[List.length_append,List.length_cons,List.length_take,List.length_drop];omega
theorem AAW {α:Type} {is:α→Bool} {l:List α}:(mE is l).length≤l.length:=by
 unfold mE
 rw[List.length_append,List.length_take,List.length_drop];omega
abbrev dG:Type:=ByteArray×ByteArray×dL×bC×eB×aV×cX
abbrev oD:Type:=aC×aH×dG
abbrev iE (x:aX):ByteArray:=x.2.1
abbrev eTo (x:aX):ByteArray:=x.2.2.1
abbrev A5 (x:aX):dL:=x.2.2.2.1
abbrev dC (x:aX):bC:=x.2.2.2.2.1
abbrev A6 (x:aX):eB:=x.2.2.2.2.2.1
abbrev gC (x:aX):aV:=x.2.2.2.2.2.2.1
abbrev o2 (x:aX):cX:=x.2.2.2.2.2.2.2
def cJ:ByteArray:=⟨#[]⟩
def j0:cX:=(0,⟨#[]⟩,⟨#[]⟩)
def kX:aC:=(⟨#[]⟩,[],[],[],[],[])
def dO (x:aX):aX :=
 if x.1=1 then (x.1,cJ,cJ,A5 x,dQ,eX,noPack,j0)
 else if x.1=3∨x.1=5 then (x.1,cJ,cJ,eW,dC x,eX,noPack,j0)
 else if x.1=6 then (x.1,iE x,eTo x,eW,dQ,eX,noPack,j0)
 else if x.1=7 then (x.1,cJ,cJ,eW,dQ,A6 x,noPack,j0)
 else if x.1=9 then (x.1,cJ,cJ,eW,dQ,eX,gC x,j0)
 else if x.1=11∨x.1=12 then (x.1,cJ,cJ,eW,dQ,eX,noPack,o2 x)
 else (x.1,iE x,cJ,eW,dQ,eX,noPack,j0)
def iT (d:aC) (x:aX):Bool :=
 if x.1=1 then (j6 d (A5 x).1).isSome
 else if x.1=2 then (j6 d (iE x)).isSome
 else if x.1=3∨x.1=5 then (partOf d (dC x).1).isSome
 else if x.1=4∨x.1=6 then (partOf d (iE x)).isSome
 else if x.1=7 then (XV d (A6 x).1).isSome
 else if x.1=8 then (XV d (iE x)).isSome
 else if x.1=9 then (o0 d (gC x).1).isSome
 else if x.1=10 then (o0 d (iE x)).isSome
 else d.2.2.2.2.2.any fun n=>decide (n=o2 x)
def nL (x:aX):Bool:=decide (x.1=1)||decide (x.1=3)||decide (x.1=7)||decide (x.1=9)||decide (x.1=11)
def gtS (a b:ByteArray):Bool:=cV b a
def lH {α:Type} (a b:ByteArray×α):Bool:=gtS a.1 b.1
def G7 (a b:cX):Bool:=ltN b a
theorem T0 (a:ByteArray):cV a a=false:=by
 rw[Bool.eq_false_iff]
 intro h
 exact List.lt_irrefl _ ((oO a a).1 h)
theorem BCZ {a b c:ByteArray} (h1:cV a b=true) (h2:cV b c=true):cV a c=true:=(oO a c).2 (List.lt_trans ((oO a b).1 h1) ((oO b c).1 h2))
def eU {α:Type} (id:ByteArray) (a:ByteArray×α):Bool:=decide (a.1=id)
def AIN (l:List ByteArray) (x:ByteArray):Bool:=l.any fun y=>decide (y=x)
def lG (d:aC) (id:ByteArray):Bool:=(d.2.2.1.any fun p=>decide (nK p=id))||((d.2.1.any fun n=>decide (n.2.2=id))||((d.2.2.2.2.1.any fun k=>decide (k.2.1=id))||(d.2.2.2.2.2.any fun n=>decide (n.2.1=id)||(decide (n.2.2=id) && !decide (n.1=3)))))
def oT (d:aC) (id:ByteArray):Bool:=(d.2.2.2.1.any fun s=>decide (s.2.1=id)||decide (s.2.2.1=id))||(d.2.2.2.2.1.any fun k=>AIN k.2.2.1 id)
def qW (d:aC) (id:ByteArray):Bool:=((mE (eU id) d.2.2.2.2.1).any fun k=>AIN k.2.2.2.2 id)||(d.2.2.2.2.2.any fun n=>decide (n.1=3)&&decide (n.2.2=id))
def r6 (d:aC) (x:aX):Bool:=if x.1=2 then lG d (iE x) else if x.1=4 then oT d (iE x) else if x.1=10 then qW d (iE x) else false
def A7A (p old:bC):bC:=(p.1,IntKind.i64.wrap (old.2.1+1),p.2.2)
def A55 (p:bC) (id:ByteArray):bC:=(p.1,p.2.1,p.2.2.1,id,p.2.2.2.2)
def atI {α:Type} (is:α→Bool) (f:α→α) (l:List α):List α:=l.modify (l.findIdx is) f
def A0 (d:aC) (x:aX):aC :=
 if x.1=1 then (d.1,oX lH d.2.1 (A5 x),d.2.2)
 else if x.1=2 then (d.1,mE (eU (iE x)) d.2.1,d.2.2)
 else if x.1=3 then (d.1,d.2.1,oX lH d.2.2.1 (dC x),d.2.2.2)
 else if x.1=4 then (d.1,d.2.1,mE (eU (iE x)) d.2.2.1,d.2.2.2)
 else if x.1=5 then (d.1,d.2.1,atI (eU (dC x).1) (A7A (dC x)) d.2.2.1,d.2.2.2)
 else if x.1=6 then (d.1,d.2.1,atI (eU (iE x)) (fun p=>A55 p (eTo x)) d.2.2.1,d.2.2.2)
 else if x.1=7 then (d.1,d.2.1,d.2.2.1,oX lH d.2.2.2.1 (A6 x),d.2.2.2.2)
 else if x.1=8 then (d.1,d.2.1,d.2.2.1,mE (eU (iE x)) d.2.2.2.1,d.2.2.2.2)
 else if x.1=9 then (d.1,d.2.1,d.2.2.1,d.2.2.2.1,oX lH d.2.2.2.2.1 (gC x),d.2.2.2.2.2)
 else if x.1=10 then (d.1,d.2.1,d.2.2.1,d.2.2.2.1,mE (eU (iE x)) d.2.2.2.2.1,d.2.2.2.2.2)
 else if x.1=11 then (d.1,d.2.1,d.2.2.1,d.2.2.2.1,d.2.2.2.2.1,oX G7 d.2.2.2.2.2 (o2 x))
 else (d.1,d.2.1,d.2.2.1,d.2.2.2.1,d.2.2.2.2.1,mE (fun n=>decide (n=o2 x)) d.2.2.2.2.2)
noncomputable def cA (d:aC) (m:aH) (x:aX):aC×Int :=
 if ¬ (1≤x.1∧x.1≤12) then (kX,10)
 else if nH x (dO x)=false∨(x.1=5∧¬ (dC x).2.1=0) then (kX,2)
 else if nL x=true∧iT d x=true then (kX,7)
 else if nL x=false∧iT d x=false then (kX,8)
 else if x.1=5∧¬ nK (found dQ (partOf d (dC x).1)).1=nK (dC x) then (kX,2)
 else if r6 d x=true then (kX,34)
 else if mL (A0 d x) m=0 then (A0 d x,0) else (kX,mL (A0 d x) m)
structure BDK (d:aC) (m:aH) (x:aX):Prop where
 kind:1≤x.1∧x.1≤12
 plain:x=dO x
 rev:x.1=5→(dC x).2.1=0
 there:iT d x = !nL x
 node:x.1=5→nK (found dQ (partOf d (dC x).1)).1=nK (dC x)
 free:r6 d x=false
 chk:mL (A0 d x) m=0
 eq:cA d m x=(A0 d x,0)
theorem ALK {d:aC} {m:aH} {x:aX} (h:(cA d m x).2=0):BDK d m x:=by
 have h0:=h
 unfold cA at h
 split at h
 ·cases h
 rename_i h1
 split at h
 ·cases h
 rename_i h2
 split at h
 ·cases h
 rename_i h3
 split at h
 ·cases h
 rename_i h4
 split at h
 ·cases h
 rename_i h5
 split at h
 ·cases h
 rename_i h6
 split at h
 ·rename_i h7
  have h1:1≤x.1∧x.1≤12:=Classical.byContradiction h1
  refine ⟨h1,Classical.byContradiction fun hc=>h2 (.inl (uR hc)),fun hk=>Classical.byContradiction fun hc=>h2 (.inr ⟨hk,hc⟩),?_,fun hk=>Classical.byContradiction fun hc=>h5 ⟨hk,hc⟩,by simpa using h6,h7,?_⟩
  ·cases ha:nL x<;>cases ht:iT d x
   ·exact absurd ⟨ha,ht⟩ h4
   ·rfl
   ·rfl
   ·exact absurd ⟨ha,ht⟩ h3
  ·unfold cA
   rw[if_neg (fun h=>h h1),if_neg h2,if_neg h3,if_neg h4,if_neg h5,if_neg h6,if_pos h7]
 ·rename_i h7;exact absurd h h7
end Go.Pv
namespace Go.Pv
open Go Go.Proofs
def okS (s:ByteArray):Bool:=decide (s.size≤1099511627776)
end Go.Pv
namespace Go.Pv
open Go Go.Proofs
end Go.Pv
namespace Go.Pv
open Go Go.Proofs
structure BFN (d:aC):Prop where
 few:few d 1000=true
 n:d.2.1.length≤1000
 p:d.2.2.1.length≤1000
 s:d.2.2.2.1.length≤1000
 k:d.2.2.2.2.1.length≤1000
 r:d.2.2.2.2.2.length≤1000
 kl:∀ k∈d.2.2.2.2.1,(jU k).length≤1000∧(gI k).length≤1000
 DF:DF d=true
 BM:BM d=true
structure UOk (d:aC):Prop extends BFN d where
 nI:∀ n∈d.2.1,okS n.1=true
 pI:∀ p∈d.2.2.1,okS p.1=true∧okS (nK p)=true
 sI:∀ s∈d.2.2.2.1,okS s.1=true∧okS s.2.1=true∧okS s.2.2.1=true
 kI:∀ k∈d.2.2.2.2.1,okS k.1=true
theorem pT (a b:ByteArray):(!(cV b a||decide (b=a)))=cV a b:=by
 rw[Bool.eq_iff_iff]
 refine ⟨fun h=>(oO a b).2 (ALE h),fun h=>?_⟩
 have h1:=(oO a b).1 h
 have h2:cV b a=false:=by
  rw[Bool.eq_false_iff]
  intro h3
  exact List.lt_irrefl _ (List.lt_trans h1 ((oO b a).1 h3))
 have h3:¬ b=a:=fun e=>by rw[e] at h1;exact List.lt_irrefl _ h1
 rw[h2,decide_eq_false h3];rfl
end Go.Pv
namespace Go.Pv
open Go Go.Proofs
theorem cU {r:Sy} {l:List r.den} (p:r.den→Bool) {Body:(Int×PUnit→Prop)→Int×PUnit→r.den→Prop} {Fin:Prop} (hl:l.length≤140737488355328)
  (hB:∀ (X:Int×PUnit→Prop) (k:Nat) (y:r.den) (h:k<l.length),l[k]=y→(p y=true→l.findIdx p=k∧l.any p=true)→(p y=false→X (IntKind.i64.wrap ((k:Int)+1),()))→Body X ((k:Int),()) y)
  (hF:l.findIdx p=l.length→l.any p=false→Fin) :
  aZ (Int×PUnit) (fun X s=>aD (decide (s.1<((List.map r.enc l).length:Int))) (aP r (List.map r.enc l) s.1 fun y=>Body X s y) Fin) (0,()):=by
 refine bM l.length (fun k s=>s=((k:Int),())∧∀ i,(h:i<l.length)→i<k→p l[i]=false) ⟨rfl,fun i _ h=>by omega⟩ ?_
 rintro X k s hk ⟨rfl,he⟩ hX
 dsimp only
 refine cF (fun hlt=>?_) fun hge=>?_
 ·rw[List.length_map] at hlt
  have hlt:k<l.length:=by omega
  rw[bG (r:=r) hlt]
  refine hB X k _ hlt rfl (fun hp=>⟨?_,List.any_eq_true.2 ⟨_,List.getElem_mem hlt,hp⟩⟩) fun hp=>hX _ hlt ⟨?_,fun i hi hik=>?_⟩
  ·exact (List.findIdx_eq hlt).2 ⟨hp,fun j hj=>he j (by omega) hj⟩
  ·rw[show IntKind.i64.wrap ((k:Int)+1)=((k+1:Nat):Int) by rw[bH]<;>omega]
  ·rcases Nat.lt_or_ge i k with h|h
   ·exact he i hi h
   ·have:i=k:=by omega
    subst this;exact hp
 ·rw[List.length_map] at hge
  have hall:∀ y∈l,p y=false:=fun y hy=>by
   obtain ⟨i,hi,rfl⟩:=List.mem_iff_getElem.1 hy
   exact he i hi (by omega)
  exact hF (List.findIdx_eq_length_of_false fun y hy=>by simpa using hall y hy) (List.any_eq_false.2 fun y hy=>by simp[hall y hy])
theorem oY {n:Nat} (h:n≤1000):n≤140737488355328:=by omega
theorem w7 {α:Type} {is:α→Bool} {l:List α} (h:l.findIdx is=l.length):mE is l=l:=by
 unfold mE
 rw[h,List.take_length,List.drop_eq_nil_of_le (by omega),List.append_nil]
theorem sD {r:Sy} {z b k:Nat} {f:Bool} {l:List r.den} {x:r.den} (hz:r.w=z) (hk:k≤l.length) (hl:l.length≤1000) (hb:b≤1000):V5 z b (List.map r.enc l) [.v (.int .i64 (k:Int)),.sl f [r.enc x]]=some (List.map r.enc (l.take k++x::l.drop k)):=by
 unfold V5
 have hm:(l.length+1)*b≤1001*1000:=Nat.mul_le_mul (by omega) hb
 have hc:(decide (0≤(k:Int))&&decide ((k:Int).toNat≤(List.map r.enc l).length)&&decide ((r.enc x).length=z)&&fE z (List.map r.enc l)&&decide (((List.map r.enc l).length+1)*b≤140737488355328)&&decide ((List.map r.enc l).length+1≤140737488355328))=true:=by
  subst hz
  simp only[List.length_map,Int.toNat_natCast,Sy.cP,sS,Bool.and_eq_true,decide_eq_true_eq,and_true]
  omega
 dsimp only
 rw[hc]
 simp
theorem HF {r:Sy} {z k:Nat} {l:List r.den} (hz:r.w=z) (hk:k<l.length) (hl:l.length≤1000):V4 z (List.map r.enc l) [.v (.int .i64 (k:Int)),.v (.int .i64 (IntKind.i64.wrap ((k:Int)+1)))]=some (List.map r.enc (l.take k++l.drop (k+1))):=by
 unfold V4
 have hw:IntKind.i64.wrap ((k:Int)+1)=(k:Int)+1:=by rw[bH]<;>omega
 have hc:(decide (0≤(k:Int))&&decide (IntKind.i64.wrap ((k:Int)+1)=(k:Int)+1)&&decide ((k:Int).toNat<(List.map r.enc l).length)&&fE z (List.map r.enc l))=true:=by
  subst hz
  rw[hw]
  simp only[List.length_map,Int.toNat_natCast,sS,Bool.and_eq_true,decide_eq_true_eq,and_true]
  omega
 dsimp only
 rw[hc]
 simp
def YE (x:aX):Option T:=some (Sh.enc [(true,aM)] ((x.1,cJ,cJ,A5 x,dQ,eX,noPack,j0):aX))
def AU4(a0:aX)(R:T→Prop):Prop:=R ((aF true aM (a0.1,cJ,cJ,a0.2.2.2.1,dQ,eX,noPack,j0)))
abbrev A2D:Sh:=[(true,aM)]
noncomputable def ACC:List T→Option T:=gS A2D YE
theorem AY1 {a0}:ACC [aF true aM a0]=YE (a0):=bE (s:=A2D) rfl (a0) rfl
theorem BB5:uH Tryz.prog 191 ACC YE (cC A2D) AU4:=iW (a1:=(true,aM)) (sp:=YE) (F:=AU4) (Hs:=dI) (f:=191) (k:=8) (bW _) aQ aS (aL rfl) ⟨_,_,Tryz.func191,rfl⟩ rfl fun _ _=>by kernel_rfl
theorem BAA:aN Tryz.prog 191 ACC:=BB5 fun x r h hb=>by
 cases h
 unfold AU4
 rfl
def YF (x:aX):Option T:=some (Sh.enc [(true,aM)] ((x.1,iE x,cJ,eW,dQ,eX,noPack,j0):aX))
def BH8(a0:aX):T:=aF true aM (a0.1,a0.2.1,cJ,eW,dQ,eX,noPack,j0)
def AU5(a0:aX)(R:T→Prop):Prop:=R ((BH8 a0))
abbrev A2E:Sh:=[(true,aM)]
noncomputable def ACD:List T→Option T:=gS A2E YF
theorem AY2 {a0}:ACD [aF true aM a0]=YF (a0):=bE (s:=A2E) rfl (a0) rfl
theorem BB6:uH Tryz.prog 199 ACD YF (cC A2E) AU5:=iW (a1:=(true,aM)) (sp:=YF) (F:=AU5) (Hs:=dI) (f:=199) (k:=8) (bW _) aQ aS (aL rfl) ⟨_,_,Tryz.func199,rfl⟩ rfl fun _ _=>by kernel_rfl
theorem BAB:aN Tryz.prog 199 ACD:=BB6 fun x r h hb=>by
 cases h
 unfold AU5 BH8
 rfl
def YG (x:aX):Option T:=some (Sh.enc [(true,aM)] ((x.1,cJ,cJ,eW,dC x,eX,noPack,j0):aX))
def AU6(a0:aX)(R:T→Prop):Prop:=R ((aF true aM (a0.1,cJ,cJ,eW,a0.2.2.2.2.1,eX,noPack,j0)))
abbrev A2F:Sh:=[(true,aM)]
noncomputable def ACE:List T→Option T:=gS A2F YG
theorem AY3 {a0}:ACE [aF true aM a0]=YG (a0):=bE (s:=A2F) rfl (a0) rfl
theorem BB7:uH Tryz.prog 211 ACE YG (cC A2F) AU6:=iW (a1:=(true,aM)) (sp:=YG) (F:=AU6) (Hs:=dI) (f:=211) (k:=8) (bW _) aQ aS (aL rfl) ⟨_,_,Tryz.func211,rfl⟩ rfl fun _ _=>by kernel_rfl
theorem BAC:aN Tryz.prog 211 ACE:=BB7 fun x r h hb=>by
 cases h
 unfold AU6
 rfl
def YH (x:aX):Option T:=some (Sh.enc [(true,aM)] ((x.1,iE x,cJ,eW,dQ,eX,noPack,j0):aX))
def AU7(a0:aX)(R:T→Prop):Prop:=R ((BH8 a0))
abbrev A2G:Sh:=[(true,aM)]
noncomputable def ACF:List T→Option T:=gS A2G YH
theorem AY4 {a0}:ACF [aF true aM a0]=YH (a0):=bE (s:=A2G) rfl (a0) rfl
theorem BB8:uH Tryz.prog 218 ACF YH (cC A2G) AU7:=iW (a1:=(true,aM)) (sp:=YH) (F:=AU7) (Hs:=dI) (f:=218) (k:=8) (bW _) aQ aS (aL rfl) ⟨_,_,Tryz.func218,rfl⟩ rfl fun _ _=>by kernel_rfl
theorem BAD:aN Tryz.prog 218 ACF:=BB8 fun x r h hb=>by
 cases h
 unfold AU7 BH8
 rfl
def YK (x:aX):Option T:=some (Sh.enc [(true,aM)] ((x.1,cJ,cJ,eW,dQ,A6 x,noPack,j0):aX))
def AVA(a0:aX)(R:T→Prop):Prop:=R ((aF true aM (a0.1,cJ,cJ,eW,dQ,a0.2.2.2.2.2.1,noPack,j0)))
abbrev A2J:Sh:=[(true,aM)]
noncomputable def ACG:List T→Option T:=gS A2J YK
theorem AY7 {a0}:ACG [aF true aM a0]=YK (a0):=bE (s:=A2J) rfl (a0) rfl
theorem BCB:uH Tryz.prog 239 ACG YK (cC A2J) AVA:=iW (a1:=(true,aM)) (sp:=YK) (F:=AVA) (Hs:=dI) (f:=239) (k:=8) (bW _) aQ aS (aL rfl) ⟨_,_,Tryz.func239,rfl⟩ rfl fun _ _=>by kernel_rfl
theorem BAG:aN Tryz.prog 239 ACG:=BCB fun x r h hb=>by
 cases h
 unfold AVA
 rfl
def YL (x:aX):Option T:=some (Sh.enc [(true,aM)] ((x.1,iE x,cJ,eW,dQ,eX,noPack,j0):aX))
def AVB(a0:aX)(R:T→Prop):Prop:=R ((BH8 a0))
abbrev A2K:Sh:=[(true,aM)]
noncomputable def ACH:List T→Option T:=gS A2K YL
theorem AY8 {a0}:ACH [aF true aM a0]=YL (a0):=bE (s:=A2K) rfl (a0) rfl
theorem BCC:uH Tryz.prog 247 ACH YL (cC A2K) AVB:=iW (a1:=(true,aM)) (sp:=YL) (F:=AVB) (Hs:=dI) (f:=247) (k:=8) (bW _) aQ aS (aL rfl) ⟨_,_,Tryz.func247,rfl⟩ rfl fun _ _=>by kernel_rfl
theorem BAH:aN Tryz.prog 247 ACH:=BCC fun x r h hb=>by
 cases h
 unfold AVB BH8
 rfl
def YM (x:aX):Option T:=some (Sh.enc [(true,aM)] ((x.1,cJ,cJ,eW,dQ,eX,gC x,j0):aX))
def AVC(a0:aX)(R:T→Prop):Prop:=R ((aF true aM (a0.1,cJ,cJ,eW,dQ,eX,a0.2.2.2.2.2.2.1,j0)))
abbrev A2L:Sh:=[(true,aM)]
noncomputable def ACI:List T→Option T:=gS A2L YM
theorem AY9 {a0}:ACI [aF true aM a0]=YM (a0):=bE (s:=A2L) rfl (a0) rfl
theorem BCD:uH Tryz.prog 259 ACI YM (cC A2L) AVC:=iW (a1:=(true,aM)) (sp:=YM) (F:=AVC) (Hs:=dI) (f:=259) (k:=8) (bW _) aQ aS (aL rfl) ⟨_,_,Tryz.func259,rfl⟩ rfl fun _ _=>by kernel_rfl
theorem BAI:aN Tryz.prog 259 ACI:=BCD fun x r h hb=>by
 cases h
 unfold AVC
 rfl
def LA (x:aX):Option T:=some (Sh.enc [(true,aM)] ((x.1,iE x,cJ,eW,dQ,eX,noPack,j0):aX))
def AGH(a0:aX)(R:T→Prop):Prop:=R ((BH8 a0))
abbrev AJ3:Sh:=[(true,aM)]
noncomputable def OM:List T→Option T:=gS AJ3 LA
theorem AQW {a0}:OM [aF true aM a0]=LA (a0):=bE (s:=AJ3) rfl (a0) rfl
theorem A6T:uH Tryz.prog 268 OM LA (cC AJ3) AGH:=iW (a1:=(true,aM)) (sp:=LA) (F:=AGH) (Hs:=dI) (f:=268) (k:=8) (bW _) aQ aS (aL rfl) ⟨_,_,Tryz.func268,rfl⟩ rfl fun _ _=>by kernel_rfl
theorem A5I:aN Tryz.prog 268 OM:=A6T fun x r h hb=>by
 cases h
 unfold AGH BH8
 rfl
def LB (x:aX):Option T:=some (Sh.enc [(true,aM)] ((x.1,cJ,cJ,eW,dQ,eX,noPack,o2 x):aX))
def AGI(a0:aX)(R:T→Prop):Prop:=R ((aF true aM (a0.1,cJ,cJ,eW,dQ,eX,noPack,a0.2.2.2.2.2.2.2)))
abbrev AJ4:Sh:=[(true,aM)]
noncomputable def vA:List T→Option T:=gS AJ4 LB
theorem SY {a0}:vA [aF true aM a0]=LB (a0):=bE (s:=AJ4) rfl (a0) rfl
theorem A6U:uH Tryz.prog 274 vA LB (cC AJ4) AGI:=iW (a1:=(true,aM)) (sp:=LB) (F:=AGI) (Hs:=dI) (f:=274) (k:=8) (bW _) aQ aS (aL rfl) ⟨_,_,Tryz.func274,rfl⟩ rfl fun _ _=>by kernel_rfl
theorem ALW:aN Tryz.prog 274 vA:=A6U fun x r h hb=>by
 cases h
 unfold AGI
 rfl
def AL (x:aC×aX):Option T:=some (T.v (.bool false))
def MU(a0:aC)(a1:aX)(R:T→Prop):Prop:=R BGE
abbrev P6:Sh:=[(true,aB),(true,aM)]
noncomputable def j4:List T→Option T:=gS P6 AL
theorem JT {a0 a1}:j4 [aF true aB a0,aF true aM a1]=AL (a0,a1):=bE (s:=P6) rfl (a0,a1) rfl
theorem ASB:r8 Tryz.prog 227 j4 AL (cC P6) MU:=iB (a1:=(true,aB)) (a2:=(true,aM)) (sp:=AL) (F:=MU) (Hs:=dI) (f:=227) (k:=8) (bW _) aQ aS (aL rfl) ⟨_,_,Tryz.func227,rfl⟩ rfl fun _ _ _=>by kernel_rfl
theorem sY:aN Tryz.prog 227 j4:=ASB fun d x r h hb=>by
 cases h
 unfold MU BGE
 rfl
theorem sF {c:Bool} {a r:T} (h:(match c with|true=>some a|false=>none)=some r):c=true∧a=r:=by
 cases c with
 | true=>exact ⟨rfl,Option.some.inj h⟩
 | false=>cases h
def GF (x:aC×aX):Option T:=match qY x.1 with
 | true=>some (T.v (.bool (oT x.1 (iE x.2))))
 | false=>none
def A37:FuncId→Hint:=bX 300 [(2,.inv [.val 8 false (.int .i64)])] (bX 305 [(2,.inv [.val 8 false (.int .i64)])] (bX 306 [(2,.inv [.val 8 false (.int .i64)])] (fun _=>bI)))
def BHA(a0:aC)(a1:aX)(R:T→Prop):Prop:=aZ (Int×PUnit) (fun X3 s4=>aD (decide (s4.1<(↑(BG3 a0).length:Int))) (aP aE (BG3 a0) s4.1 fun (y5:aV)=>aZ (Int×PUnit) (fun X6 s7=>aD (decide (s7.1<(↑(BH7 y5).length:Int))) (aP Sy.str (BH7 y5) s7.1 fun (y8:ByteArray)=>aD (decide (a1.2.1=y8)) (aD (decide (0≤s7.1)) (R (BHY s4)) (BG4 X3 s4)) (BG4 X6 s7)) (BG4 X3 s4)) (0,())) (R BGE)) (0,())
def VE(a0:aC)(a1:aX)(R:T→Prop):Prop:=aZ (Int×PUnit) (fun X0 s1=>aD (decide (s1.1<(↑(BG8 a0).length:Int))) (aP aY (BG8 a0) s1.1 fun (y2:eB)=>aD (decide (y2.2.1=a1.2.1)) (aD (decide (0≤s1.1)) (R BGL) (BHA a0 a1 R)) (aD (decide (y2.2.2.1=a1.2.1)) (aD (decide (0≤s1.1)) (R BGL) (BHA a0 a1 R)) (BG4 X0 s1))) (BHA a0 a1 R)) (0,())
abbrev XT:Sh:=[(true,aB),(true,aM)]
noncomputable def EX:List T→Option T:=gS XT GF
theorem AIL {a0 a1}:EX [aF true aB a0,aF true aM a1]=GF (a0,a1):=bE (s:=XT) rfl (a0,a1) rfl
theorem A09:r8 Tryz.prog 206 EX GF (cC XT) VE:=iB (a1:=(true,aB)) (a2:=(true,aM)) (sp:=GF) (F:=VE) (Hs:=A37) (f:=206) (k:=8) (bW _) aQ aS (aL rfl) ⟨_,_,Tryz.func206,rfl⟩ rfl fun _ _ _=>by kernel_rfl
theorem AX1:aN Tryz.prog 206 EX:=A09 fun d x r h hb=>by
 clear hb
 obtain ⟨hp,rfl⟩:=sF h
 clear h
 have c:=fI hp
 have hk:∀ k∈d.2.2.2.2.1,k.2.2.1.length≤140737488355328∧k.2.2.2.2.length≤140737488355328:=fun k hk=>by
  have:=List.all_eq_true.1 c.BM k hk
  simp only[dJ,dB,Bool.and_eq_true,decide_eq_true_eq] at this
  exact ⟨this.1.2,this.2.2⟩
 have is:∀ {b:Bool},oT d (iE x)=b→T.v (.bool b)=T.v (.bool (oT d (iE x))):=fun h=>by rw[h]
 have pos:∀ {k:Nat},¬ (0≤(k:Int))→False:=fun h=>h (by omega)
 unfold VE BHA BH7 BG8 BG3 BHY BG4 BGL BGE
 refine cU (r:=aY) (fun s=>decide (s.2.1=iE x)||decide (s.2.2.1=iE x)) (oY c.s) (fun X k y hlt hy hp hn=>?_) (fun _ h1=>?_)
 ·dsimp only
  have yes:(decide (y.2.1=iE x)||decide (y.2.2.1=iE x))=true→oT d (iE x)=true:=fun h=>by unfold oT;rw[(hp h).2];rfl
  refine cF (fun h=>cF (fun _=>is (yes (by rw[decide_eq_true h];rfl))) fun h=>(pos h).elim) fun h=>?_
  refine cF (fun h2=>cF (fun _=>is (yes (by rw[decide_eq_true h2,Bool.or_true]))) fun h=>(pos h).elim) fun h2=>hn ?_
  rw[decide_eq_false h,decide_eq_false h2];rfl
 ·refine cU (r:=aE) (fun k=>AIN k.2.2.1 (iE x)) (oY c.k) (fun X k y hlt hy hp hn=>?_) (fun _ h2=>is ?_)
  ·dsimp only
   refine cU (r:=.str) (fun z=>decide (z=iE x)) (hk y (by rw[←hy];exact List.getElem_mem hlt)).1 (fun Y j z hj hz hp2 hn2=>?_) (fun _ h3=>hn h3)
   dsimp only
   refine cF (fun h=>cF (fun _=>is ?_) fun h=>(pos h).elim) fun h=>hn2 (decide_eq_false fun e=>h e.symm)
   have:=(hp (hp2 (decide_eq_true h.symm)).2).2
   rw[show decide ((0:Int)≤(k:Int))=true from decide_eq_true (by omega)]
   unfold oT;rw[this,Bool.or_true]
  ·unfold oT;rw[h1,h2];rfl
def GC (x:aC×aX):Option T:=match qY x.1 with
 | true=>some (T.v (.bool (lG x.1 (iE x.2))))
 | false=>none
def A35:FuncId→Hint:=bX 229 [(2,.inv [.val 8 false (.int .i64)])] (bX 299 [(2,.inv [.val 8 false (.int .i64)])] (bX 300 [(2,.inv [.val 8 false (.int .i64)])] (bX 301 [(2,.inv [.val 8 false (.int .i64)])] (fun _=>bI))))
def BIM(a0:aC)(s10:Int×PUnit)(a1:aX)(R:T→Prop)(X9:Int×PUnit→Prop):Prop:=aP aR (BG2 a0) s10.1 fun (y11:cX)=>aD (decide (y11.2.1=a1.2.1)) (R (BHY s10)) (aD (decide (y11.2.2=a1.2.1)) (aD (!decide (y11.1=3)) (R (BHY s10)) (BG4 X9 s10)) (BG4 X9 s10))
def BG0(a0:aC)(a1:aX)(R:T→Prop):Prop:=aZ (Int×PUnit) (fun X12 s13=>aD (decide (s13.1<(↑(BG2 a0).length:Int))) (BIM a0 s13 a1 R X12) (R BGE)) (0,())
def BHI(a0:aC)(a1:aX)(R:T→Prop):Prop:=aZ (Int×PUnit) (fun X15 s16=>aD (decide (s16.1<(↑(BG3 a0).length:Int))) (aP aE (BG3 a0) s16.1 fun (y17:aV)=>aD (decide (y17.2.1=a1.2.1)) (aD (decide (0≤s16.1)) (R BGL) (BG0 a0 a1 R)) (BG4 X15 s16)) (BG0 a0 a1 R)) (0,())
def VC(a0:aC)(a1:aX)(R:T→Prop):Prop:=aZ (Int×PUnit) (fun X0 s1=>aD (decide (s1.1<(↑(BG5 a0).length:Int))) (aP aJ (BG5 a0) s1.1 fun (y2:bC)=>aD (decide (y2.2.2.2.1=a1.2.1)) (aD (decide (0≤s1.1)) (R BGL) (aZ (Int×PUnit) (fun X3 s4=>aD (decide (s4.1<(↑(BHB a0).length:Int))) (aP aW (BHB a0) s4.1 fun (y5:dL)=>aD (decide (y5.2.2=a1.2.1)) (aD (decide (0≤s4.1)) (R BGL) (aZ (Int×PUnit) (fun X6 s7=>aD (decide (s7.1<(↑(BG3 a0).length:Int))) (aP aE (BG3 a0) s7.1 fun (y8:aV)=>aD (decide (y8.2.1=a1.2.1)) (aD (decide (0≤s7.1)) (R BGL) (aZ (Int×PUnit) (fun X9 s10=>aD (decide (s10.1 < (↑(BG2 a0).length:Int))) (BIM a0 s10 a1 R X9) (R BGE)) (0,()))) (BG4 X6 s7)) (BG0 a0 a1 R)) (0,()))) (BG4 X3 s4)) (BHI a0 a1 R)) (0,()))) (BG4 X0 s1)) (aZ (Int×PUnit) (fun X24 s25=>aD (decide (s25.1<(↑(BHB a0).length:Int))) (aP aW (BHB a0) s25.1 fun (y26:dL)=>aD (decide (y26.2.2=a1.2.1)) (aD (decide (0≤s25.1)) (R BGL) (BHI a0 a1 R)) (BG4 X24 s25)) (BHI a0 a1 R)) (0,()))) (0,())
abbrev XR:Sh:=[(true,aB),(true,aM)]
noncomputable def EV:List T→Option T:=gS XR GC
theorem AIJ {a0 a1}:EV [aF true aB a0,aF true aM a1]=GC (a0,a1):=bE (s:=XR) rfl (a0,a1) rfl
theorem A07:r8 Tryz.prog 182 EV GC (cC XR) VC:=iB (a1:=(true,aB)) (a2:=(true,aM)) (sp:=GC) (F:=VC) (Hs:=A35) (f:=182) (k:=8) (bW _) aQ aS (aL rfl) ⟨_,_,Tryz.func182,rfl⟩ rfl fun _ _ _=>by kernel_rfl
theorem AXZ:aN Tryz.prog 182 EV:=A07 fun d x r h hb=>by
 clear hb
 obtain ⟨hp,rfl⟩:=sF h
 clear h
 have c:=fI hp
 have is:∀ {b:Bool},lG d (iE x)=b→T.v (.bool b)=T.v (.bool (lG d (iE x))):=fun h=>by rw[h]
 have pos:∀ {k:Nat},¬ (0≤(k:Int))→False:=fun h=>h (by omega)
 have d0:∀ {k:Nat},decide ((0:Int)≤(k:Int))=true:=decide_eq_true (by omega)
 unfold VC BHI BHB BG5 BG3 BG0 BIM BHY BG4 BG2 BGL BGE
 refine cU (r:=aJ) (fun p=>decide (nK p=iE x)) (oY c.p) (fun X k y hlt hy hp hn=>?_) (fun _ h1=>?_)
 ·dsimp only
  exact cF (fun h=>cF (fun _=>is (by unfold lG;rw[(hp (decide_eq_true h)).2];rfl)) fun h=>(pos h).elim) fun h=>hn (decide_eq_false h)
 refine cU (r:=aW) (fun n=>decide (n.2.2=iE x)) (oY c.n) (fun X k y hlt hy hp hn=>?_) (fun _ h2=>?_)
 ·dsimp only
  exact cF (fun h=>cF (fun _=>is (by unfold lG;rw[h1,(hp (decide_eq_true h)).2];rfl)) fun h=>(pos h).elim) fun h=>hn (decide_eq_false h)
 refine cU (r:=aE) (fun k=>decide (k.2.1=iE x)) (oY c.k) (fun X k y hlt hy hp hn=>?_) (fun _ h3=>?_)
 ·dsimp only
  exact cF (fun h=>cF (fun _=>is (by unfold lG;rw[h1,h2,(hp (decide_eq_true h)).2];rfl)) fun h=>(pos h).elim) fun h=>hn (decide_eq_false h)
 refine cU (r:=aR) (fun n=>decide (n.2.1=iE x)||(decide (n.2.2=iE x) && !decide (n.1=3))) (oY c.r) (fun X k y hlt hy hp hn=>?_) (fun _ h4=>is (by unfold lG;rw[h1,h2,h3,h4];rfl))
 dsimp only
 have yes:(decide (y.2.1=iE x)||(decide (y.2.2=iE x) && !decide (y.1=3)))=true→lG d (iE x)=decide ((0:Int)≤(k:Int)):=fun h=>by rw[d0];unfold lG;rw[h1,h2,h3,(hp h).2];rfl
 refine cF (fun h=>is (yes (by rw[decide_eq_true h];rfl))) fun a1=>?_
 refine cF (fun a2=>?_) fun a2=>hn (by rw[decide_eq_false a1,decide_eq_false a2];rfl)
 refine mA (fun a3=>is (yes (by rw[decide_eq_true a2,decide_eq_false a3];simp))) fun a3=>hn (by rw[decide_eq_false a1,decide_eq_true a3,Bool.not_true,Bool.and_false];rfl)
def GD (x:aC×aX):Option T:=match qY x.1 with
 | true=>some (T.v (.bool (qW x.1 (iE x.2))))
 | false=>none
noncomputable def A3E:Env:=Env.of [(166,.dup 5 88),(313,.grow 5 mR)]
def A36:FuncId→Hint:=bX 300 [(2,.inv [.val 8 false (.int .i64)])] (bX 301 [(2,.inv [.val 8 false (.int .i64)])] (bX 306 [(2,.inv [.val 8 false (.int .i64)])] (fun _=>bI)))
theorem AOM:aT Tryz.prog A3E:=aT.cons (x:=.dup 5 88) n9 (.cons BA (.nil _))
def BHC(a0:aC)(a1:aX)(R:T→Prop):Prop:=aZ (Int×PUnit) (fun X13 s14=>aD (decide (s14.1<(↑(BG2 a0).length:Int))) (aP aR (BG2 a0) s14.1 fun (y15:cX)=>aD (decide (y15.1=3)) (aD (decide (y15.2.2=a1.2.1)) (R (BHY s14)) (BG4 X13 s14)) (BG4 X13 s14)) (R BGE)) (0,())
def BHF(y6:aV)(a1:aX)(s4:Int×PUnit)(R:T→Prop)(a0:aC)(X3:Int×PUnit→Prop):Prop:=aZ (Int×PUnit) (fun X7 s8=>aD (decide (s8.1<(↑(BHV y6).length:Int))) (aP Sy.str (BHV y6) s8.1 fun (y9:ByteArray)=>aD (decide (a1.2.1=y9)) (aD (decide (0≤s8.1)) (aD (decide (0≤s4.1)) (R BGL) (aZ (Int×PUnit) (fun X10 s11=>aD (decide (s11.1 < (↑(BG2 a0).length:Int))) (aP aR (BG2 a0) s11.1 fun (y12:cX)=>aD (decide (y12.1=3)) (aD (decide (y12.2.2=a1.2.1)) (R (BHY s11)) (BG4 X10 s11)) (BG4 X10 s11)) (R BGE)) (0,()))) (BG4 X3 s4)) (BG4 X7 s8)) (BG4 X3 s4)) (0,())
def BHR(s1:Int×PUnit):List T:=[T.v (.int .i64 s1.1), T.v (.int .i64 (IntKind.i64.wrap (s1.1+1)))]
def VD(a0:aC)(a1:aX)(R:T→Prop):Prop:=aZ (Int×PUnit) (fun X0 s1=>aD (decide (s1.1<(↑(BG3 a0).length:Int))) (aP aE (BG3 a0) s1.1 fun (y2:aV)=>aD (decide (y2.1=a1.2.1)) (aD (decide (s1.1<0)) (bQ (((BG3 a0).all fun (r:List T)=>decide (r.length=5)) && decide ((BG3 a0).length*88≤140737488355328) && decide ((BG3 a0).length≤140737488355328)) (aZ (Int×PUnit) (fun X3 s4=>aD (decide (s4.1<(↑(BG3 a0).length:Int))) (aP aE (BG3 a0) s4.1 fun (y5:aV)=>fR aE (BG3 a0) (Int.toNat s4.1) 0 fun (y6:aV)=>BHF y6 a1 s4 R a0 X3) (BHC a0 a1 R)) (0,()))) (bQ (((BG3 a0).all fun (r:List T)=>decide (r.length=5)) && decide ((BG3 a0).length*88≤140737488355328) && decide ((BG3 a0).length≤140737488355328)) (eV aE (mR (BG3 a0) (BHR s1)) fun (y16:List aV)=>aZ (Int×PUnit) (fun X17 s18=>aD (decide (s18.1<(↑(List.map aE.enc y16).length:Int))) (aP aE (List.map aE.enc y16) s18.1 fun (y19:aV)=>fR aE (List.map aE.enc y16) (Int.toNat s18.1) 0 fun (y20:aV)=>BHF y20 a1 s18 R a0 X17) (BHC a0 a1 R)) (0,())))) (BG4 X0 s1)) (bQ (((BG3 a0).all fun (r:List T)=>decide (r.length=5)) && decide ((BG3 a0).length*88≤140737488355328) && decide ((BG3 a0).length≤140737488355328)) (aZ (Int×PUnit) (fun X30 s31=>aD (decide (s31.1<(↑(BG3 a0).length:Int))) (aP aE (BG3 a0) s31.1 fun (y32:aV)=>fR aE (BG3 a0) (Int.toNat s31.1) 0 fun (y33:aV)=>aZ (Int×PUnit) (fun X34 s35=>aD (decide (s35.1<(↑(BHV y33).length:Int))) (aP Sy.str (BHV y33) s35.1 fun (y36:ByteArray)=>aD (decide (a1.2.1=y36)) (aD (decide (0≤s35.1)) (aD (decide (0≤s31.1)) (R BGL) (BHC a0 a1 R)) (BG4 X30 s31)) (BG4 X34 s35)) (BG4 X30 s31)) (0,())) (BHC a0 a1 R)) (0,())))) (0,())
abbrev XS:Sh:=[(true,aB),(true,aM)]
noncomputable def EW:List T→Option T:=gS XS GD
theorem AIK {a0 a1}:EW [aF true aB a0,aF true aM a1]=GD (a0,a1):=bE (s:=XS) rfl (a0,a1) rfl
theorem A08:r8 Tryz.prog 254 EW GD (cC XS) VD:=iB (a1:=(true,aB)) (a2:=(true,aM)) (sp:=GD) (F:=VD) (Hs:=A36) (f:=254) (k:=8) AOM aQ aS (aL rfl) ⟨_,_,Tryz.func254,rfl⟩ rfl fun _ _ _=>by kernel_rfl
theorem AX0:aN Tryz.prog 254 EW:=A08 fun d x r h hb=>by
 clear hb
 obtain ⟨hp,rfl⟩:=sF h
 clear h
 have c:=fI hp
 have hk:∀ k∈d.2.2.2.2.1,k.2.2.1.length≤140737488355328∧k.2.2.2.2.length≤140737488355328:=fun k hk=>by
  have:=List.all_eq_true.1 c.BM k hk
  simp only[dJ,dB,Bool.and_eq_true,decide_eq_true_eq] at this
  exact ⟨this.1.2,this.2.2⟩
 have is:∀ {b:Bool},qW d (iE x)=b→T.v (.bool b)=T.v (.bool (qW d (iE x))):=fun h=>by rw[h]
 have pos:∀ {k:Nat},¬ (0≤(k:Int))→False:=fun h=>h (by omega)
 have d0:∀ {k:Nat},decide ((0:Int)≤(k:Int))=true:=decide_eq_true (by omega)
 have hd:=w8 (r:=aE) (l:=d.2.2.2.2.1) (z:=5) (b:=88) rfl (dU c.k (by decide))
 unfold VD BHR BHF BHV BHC BG3 BHY BG4 BG2 BGL BGE
 refine cU (r:=aE) (fun y=>eU (iE x) y) (oY c.k) (fun X k y hlt hy hp hn=>?_) (fun h0 _=>?_)
 ·dsimp only
  refine cF (fun h=>?_) fun h=>hn (decide_eq_false h)
  obtain ⟨hi,_⟩:=hp (decide_eq_true h)
  refine cF (fun h=>by omega) fun _=>⟨hd,?_⟩
  have eL:mE (eU (iE x)) d.2.2.2.2.1=d.2.2.2.2.1.take k++d.2.2.2.2.1.drop (k+1):=by
   unfold mE
   rw[show List.findIdx (eU (iE x)) d.2.2.2.2.1=k from hi]
  refine eE (r:=aE) (l:=mE (eU (iE x)) d.2.2.2.2.1) (by rw[eL];exact HF (r:=aE) rfl hlt c.k) _ ?_
  have hL:(mE (eU (iE x)) d.2.2.2.2.1).length≤1000:=Nat.le_trans AAW c.k
  have hkL:∀ k∈mE (eU (iE x)) d.2.2.2.2.1,k.2.2.2.2.length≤140737488355328:=fun k h=>(hk k (NL h)).2
  have hV:qW d (iE x)=(((mE (eU (iE x)) d.2.2.2.2.1).any fun k=>AIN k.2.2.2.2 (iE x))||(d.2.2.2.2.2.any fun n=>decide (n.1=3)&&decide (n.2.2=iE x))):=rfl
  clear hp hn eL
  generalize mE (eU (iE x)) d.2.2.2.2.1=L at *
  refine cU (r:=aE) (fun k=>AIN k.2.2.2.2 (iE x)) (oY hL) (fun X k y hlt hy hp hn=>?_) (fun _ h2=>?_)
  ·dsimp only
   rw[show Int.toNat (k:Int)=k from rfl,iQ (r:=aE) hlt,hy]
   refine cU (r:=.str) (fun z=>decide (z=iE x)) (hkL y (by rw[←hy];exact List.getElem_mem hlt)) (fun Y j z hj hz hp2 hn2=>?_) (fun _ h3=>hn h3)
   dsimp only
   refine cF (fun h=>cF (fun _=>cF (fun _=>is ?_) fun h=>(pos h).elim) fun h=>(pos h).elim) fun h=>hn2 (decide_eq_false fun e=>h e.symm)
   rw[hV,(hp (hp2 (decide_eq_true h.symm)).2).2];rfl
  ·refine cU (r:=aR) (fun n=>decide (n.1=3)&&decide (n.2.2=iE x)) (oY c.r) (fun X k y hlt hy hp hn=>?_) (fun _ h4=>is (by rw[hV,h2,h4];rfl))
   dsimp only
   refine cF (fun a1=>?_) fun a1=>hn (by rw[decide_eq_false a1];rfl)
   refine cF (fun a2=>is ?_) fun a2=>hn (by rw[decide_eq_false a2,Bool.and_false])
   rw[d0,hV,(hp (by rw[decide_eq_true a1,decide_eq_true a2];rfl)).2,Bool.or_true]
 ·refine ⟨hd,?_⟩
  have hV:qW d (iE x)=((d.2.2.2.2.1.any fun k=>AIN k.2.2.2.2 (iE x))||(d.2.2.2.2.2.any fun n=>decide (n.1=3)&&decide (n.2.2=iE x))):=by unfold qW;rw[w7 (is:=eU (iE x)) h0]
  have hL:=c.k
  have hkL:∀ k∈d.2.2.2.2.1,k.2.2.2.2.length≤140737488355328:=fun k h=>(hk k h).2
  refine cU (r:=aE) (fun k=>AIN k.2.2.2.2 (iE x)) (oY hL) (fun X k y hlt hy hp hn=>?_) (fun _ h2=>?_)
  ·dsimp only
   rw[show Int.toNat (k:Int)=k from rfl,iQ (r:=aE) hlt,hy]
   refine cU (r:=.str) (fun z=>decide (z=iE x)) (hkL y (by rw[←hy];exact List.getElem_mem hlt)) (fun Y j z hj hz hp2 hn2=>?_) (fun _ h3=>hn h3)
   dsimp only
   refine cF (fun h=>cF (fun _=>cF (fun _=>is ?_) fun h=>(pos h).elim) fun h=>(pos h).elim) fun h=>hn2 (decide_eq_false fun e=>h e.symm)
   rw[hV,(hp (hp2 (decide_eq_true h.symm)).2).2];rfl
  ·refine cU (r:=aR) (fun n=>decide (n.1=3)&&decide (n.2.2=iE x)) (oY c.r) (fun X k y hlt hy hp hn=>?_) (fun _ h4=>is (by rw[hV,h2,h4];rfl))
   dsimp only
   refine cF (fun a1=>?_) fun a1=>hn (by rw[decide_eq_false a1];rfl)
   refine cF (fun a2=>is ?_) fun a2=>hn (by rw[decide_eq_false a2,Bool.and_false])
   rw[d0,hV,(hp (by rw[decide_eq_true a1,decide_eq_true a2];rfl)).2,Bool.or_true]
def sU (lt gt:Bool):Int:=match lt,gt with
 | true,_=>-1
 | false,true=>1
 | false,false=>0
def K5 (x:Int×Int):Option T:=some (T.v (Value.int .i64 (sU (decide (x.1<x.2)) (decide (x.2<x.1)))))
def K6 (x:ByteArray×ByteArray):Option T:=some (T.v (Value.int .i64 (sU (cV x.1 x.2) (cV x.2 x.1))))
def orE:List Int→Int
 | []=>0
 | a::l=>if a=0 then orE l else a
def AKN (l:List Int):Option T:=some (T.v (Value.int .i64 (orE l)))
def AF2(a0:Int)(a1:Int)(R:T→Prop):Prop:=aD (!decide (a0=a0)) (aD (!decide (a1=a1)) (R BGJ) (R BGP)) (aD (!decide (a1=a1)) (R BGU) (aD (decide (a0<a1)) (R BGP) (aD (decide (a1<a0)) (R BGU) (R BGJ))))
abbrev AJV:Sh:=[(false,(Sy.int IntKind.i64)),(false,(Sy.int IntKind.i64))]
noncomputable def OD:List T→Option T:=gS AJV K5
theorem AQQ {a0 a1}:OD [T.v (.int .i64 a0),T.v (.int .i64 a1)]=K5 (a0,a1):=bE (s:=AJV) rfl (a0,a1) rfl
theorem A6G:r8 Tryz.prog 280 OD K5 (cC AJV) AF2:=iB (a1:=(false,(Sy.int IntKind.i64))) (a2:=(false,(Sy.int IntKind.i64))) (sp:=K5) (F:=AF2) (Hs:=dI) (f:=280) (k:=8) (bW _) aQ aS (aL rfl) ⟨_,_,Tryz.func280,rfl⟩ rfl fun _ _ _=>by kernel_rfl
theorem A5A:aN Tryz.prog 280 OD:=A6G fun a b r h hb=>by
 cases h
 unfold AF2 BGU BGP BGJ
 refine mA (fun h=>absurd rfl h) fun _=>mA (fun h=>absurd rfl h) fun _=>?_
 refine cF (fun h=>by unfold sU;rw[decide_eq_true h]) fun h=>?_
 refine cF (fun h2=>by unfold sU;rw[decide_eq_false h,decide_eq_true h2]) fun h2=>by unfold sU;rw[decide_eq_false h,decide_eq_false h2]
def AF3(a0:ByteArray)(a1:ByteArray)(R:T→Prop):Prop:=aD (!decide (a0=a0)) (aD (!decide (a1=a1)) (R BGJ) (R BGP)) (aD (!decide (a1=a1)) (R BGU) (aD (cV a0 a1) (R BGP) (aD (!(cV a0 a1||decide (a0=a1))) (R BGU) (R BGJ))))
abbrev AJW:Sh:=[(false,Sy.str),(false,Sy.str)]
noncomputable def HO:List T→Option T:=gS AJW K6
theorem SQ {a0 a1}:HO [T.v (.string a0),T.v (.string a1)]=K6 (a0,a1):=bE (s:=AJW) rfl (a0,a1) rfl
theorem A6H:r8 Tryz.prog 281 HO K6 (cC AJW) AF3:=iB (a1:=(false,Sy.str)) (a2:=(false,Sy.str)) (sp:=K6) (F:=AF3) (Hs:=dI) (f:=281) (k:=8) (bW _) aQ aS (aL rfl) ⟨_,_,Tryz.func281,rfl⟩ rfl fun _ _ _=>by kernel_rfl
theorem A5B:aN Tryz.prog 281 HO:=A6H fun a b r h hb=>by
 cases h
 unfold AF3 BGU BGP BGJ
 refine mA (fun h=>absurd rfl h) fun _=>mA (fun h=>absurd rfl h) fun _=>?_
 rw[pT]
 refine BH (fun h=>by unfold sU;rw[h]) fun h=>?_
 refine BH (fun h2=>by unfold sU;rw[h,h2]) fun h2=>by unfold sU;rw[h,h2]
def JC (a0:List Int):List T:=[T.sl true (List.map (Sy.int .i64).enc a0)]
def A7U:FuncId→Hint:=bX 279 [(3,.inv [.val 8 false (.int .i64)])] (fun _=>bI)
def AU2(a0:List Int)(R:T→Prop):Prop:=aZ (Int×PUnit) (fun X0 s1=>aD (decide (s1.1<(↑(List.map BGM.enc a0).length:Int))) (aP BGM (List.map BGM.enc a0) s1.1 fun (y2:Int)=>aD (!decide (y2=0)) (R (BHX y2)) (BG4 X0 s1)) (R BGJ)) (0,())
theorem AU3 ( a0 R):dY bR Tryz.prog mF A7U 8 279 (JC a0) R=AU2 a0 R:=by kernel_rfl
theorem ANS (x y:List Int) (h:JC x=JC y):x=y:=by
 simp only[JC,List.cons.injEq,T.sl.injEq,true_and,and_true] at h
 exact map_inj (Sy.dH (.int .i64)) h
noncomputable def AB9:List T→Option (T):=gA (fun (x:List Int)=>JC x) AKN
theorem AY0 (a0:List Int):AB9 (JC a0)=AKN a0:=eN (A:=(fun (x:List Int)=>JC x)) ANS a0
theorem BB4 (h:∀ (a0:List Int) (r:T),AKN a0=some r→(∀ t∈JC a0,Bd t)→AU2 a0 (fun y=>y=r)):aN Tryz.prog 279 AB9 :=
 cK (E:=mF) (Hs:=A7U) (bW _) aQ aS (aL rfl) 8 ⟨_,_,Tryz.func279,rfl⟩ fun x r h1 h2=>by
  rw[AU3]
  exact h x r h1 h2
theorem A99:aN Tryz.prog 279 AB9:=BB4 fun l r h hb=>by
 have hl:l.length≤2 ^ 47:=by
  have:=((A7M _ _).1 (hb _ List.mem_cons_self)).1
  simpa using this
 cases h
 have is:∀ {n:Int},orE l=n→T.v (.int .i64 n)=T.v (.int .i64 (orE l)):=fun h=>by rw[h]
 unfold AU2 BG4 BHX BGM BGJ
 refine bM l.length (fun k s=>s=((k:Int),())∧orE (l.drop k)=orE l) ⟨rfl,rfl⟩ ?_
 rintro X k s hk ⟨rfl,he⟩ hX
 dsimp only
 refine cF (fun hlt=>?_) fun hge=>?_
 ·rw[List.length_map] at hlt
  have hlt:k<l.length:=by omega
  rw[bG (r:=.int .i64) hlt]
  rw[List.drop_eq_getElem_cons hlt,orE] at he
  refine mA (fun h=>is ?_) fun h=>hX _ hlt ⟨?_,?_⟩
  ·rw[if_neg h] at he;exact he.symm
  ·rw[show IntKind.i64.wrap ((k:Int)+1)=((k+1:Nat):Int) by rw[bH]<;>omega]
  ·rw[if_pos h] at he;exact he
 ·rw[List.length_map] at hge
  rw[List.drop_eq_nil_of_le (by omega)] at he
  exact is he.symm
def z8 (x:cX×cX):Option T:=some (T.v (.bool (G7 x.1 x.2)))
noncomputable def ATG:Env:=Env.of [(280,.pure OD),(281,.pure HO),(279,.pure AB9)]
theorem AFM:aT Tryz.prog ATG:=.cons A5A (.cons A5B (.cons A99 (.nil _)))
def MD(a0:cX)(a1:cX)(R:T→Prop):Prop:=aI BGG (OD [T.v (.int .i64 a0.1),T.v (.int .i64 a1.1)]) fun (y0:Int)=>aI BGG (HO [T.v (.string a0.2.1),T.v (.string a1.2.1)]) fun (y1:Int)=>aI BGG (HO [T.v (.string a0.2.2),T.v (.string a1.2.2)]) fun (y2:Int)=>aI BGG (AB9 [T.sl true [[T.v (.int .i64 y0)],[T.v (.int .i64 y1)], [T.v (.int .i64 y2)]]]) fun (y3:Int)=>R (T.v (.bool (decide (0<y3))))
abbrev PS:Sh:=[(true,aR),(true,aR)]
noncomputable def qK:List T→Option T:=gS PS z8
theorem AB8 {a0 a1}:qK [aF true aR a0,aF true aR a1]=z8 (a0,a1):=bE (s:=PS) rfl (a0,a1) rfl
theorem ARV:r8 Tryz.prog 278 qK z8 (cC PS) MD:=iB (a1:=(true,aR)) (a2:=(true,aR)) (sp:=z8) (F:=MD) (Hs:=dI) (f:=278) (k:=8) AFM aQ aS (aL rfl) ⟨_,_,Tryz.func278,rfl⟩ rfl fun _ _ _=>by kernel_rfl
theorem SH:aN Tryz.prog 278 qK:=ARV fun a b r h hb=>by
 cases h
 unfold MD BGG
 refine aG (s:=[(false,.int .i64)]) (AQQ ..) ?_
 refine aG (s:=[(false,.int .i64)]) (SQ ..) ?_
 refine aG (s:=[(false,.int .i64)]) (SQ ..) ?_
 refine aG (s:=[(false,.int .i64)]) (y:=orE [sU (decide (a.1<b.1)) (decide (b.1<a.1)),sU (cV a.2.1 b.2.1) (cV b.2.1 a.2.1),sU (cV a.2.2 b.2.2) (cV b.2.2 a.2.2)]) (AY0 [sU (decide (a.1<b.1)) (decide (b.1<a.1)),sU (cV a.2.1 b.2.1) (cV b.2.1 a.2.1),sU (cV a.2.2 b.2.2) (cV b.2.2 a.2.2)]) ?_
 refine jI ?_
 unfold G7 ltN
 have tot:∀ {s t:ByteArray},cV s t=true→cV t s=false∧decide (t=s)=false:=fun {s t} h=>by
  refine ⟨?_,decide_eq_false fun e=>?_⟩
  ·rw[Bool.eq_false_iff];intro h2;have:=BCZ h h2;rw[T0] at this;cases this
  ·rw[e,T0] at h;cases h
 have eqS:∀ {s t:ByteArray},cV s t=false→cV t s=false→decide (t=s)=true:=fun {s t} h1 h2=>by
  have h3:=pT s t
  rw[h1,h2] at h3
  simpa using h3
 rcases Int.lt_trichotomy a.1 b.1 with h|h|h
 ·rw[decide_eq_true h,decide_eq_false (show ¬ b.1<a.1 by omega),decide_eq_false (show ¬ b.1=a.1 by omega)]
  simp[sU,orE]
 ·rw[decide_eq_false (show ¬ a.1<b.1 by omega),decide_eq_false (show ¬ b.1<a.1 by omega),decide_eq_true h.symm]
  cases h1:cV a.2.1 b.2.1 with
  | true=>rw[(tot h1).1,(tot h1).2];simp[sU,orE]
  | false =>
   cases h2:cV b.2.1 a.2.1 with
   | true=>simp[sU,orE]
   | false =>
    rw[eqS h1 h2]
    cases h3:cV a.2.2 b.2.2 with
    | true=>rw[(tot h3).1];simp[sU,orE]
    | false=>cases h4:cV b.2.2 a.2.2<;>simp[sU,orE]
 ·rw[decide_eq_false (show ¬ a.1<b.1 by omega),decide_eq_true h]
  simp[sU,orE]
def AMP (d:aC) (x:aX):aC:=(d.1,oX lH d.2.1 (A5 x),d.2.2)
def I0 (x:aC×aX):Option T:=match qY x.1 with
 | true=>some (Sh.enc [(true,aB)] (AMP x.1 x.2))
 | false=>none
noncomputable def BDL:Env:=Env.of [(60,.dup 3 40),(303,.grow 3 tH)]
def BDU:FuncId→Hint:=bX 299 [(2,.inv [.val 8 false (.int .i64)])] (fun _=>bI)
theorem A3O:aT Tryz.prog BDL:=aT.cons (x:=.dup 3 40) qF (.cons AHL (.nil _))
def BIG(a0:aC)(y4:List dL):T:=aF true aB (a0.1,y4,a0.2.2.1,a0.2.2.2.1,a0.2.2.2.2.1,a0.2.2.2.2.2)
def BIT(a1:aX):List T:=[T.v (.string a1.2.2.2.1.1), T.v (.int .i64 a1.2.2.2.1.2.1), T.v (.string a1.2.2.2.1.2.2)]
def BHL(a0:aC)(a1:aX)(R:T→Prop):Prop:=bQ (((BHB a0).all fun (r:List T)=>decide (r.length=3)) && decide ((BHB a0).length*40≤140737488355328) && decide ((BHB a0).length≤140737488355328)) (eV aW (tH (BHB a0) [T.v (.int .i64 (↑(BHB a0).length:Int)), T.sl true [(BIT a1)]]) fun (y3:List dL)=>R ((BIG a0 y3)))
def AUM(a0:aC)(a1:aX)(R:T→Prop):Prop:=aZ (Int×PUnit) (fun X0 s1=>aD (decide (s1.1<(↑(BHB a0).length:Int))) (aP aW (BHB a0) s1.1 fun (y2:dL)=>aD (!(cV y2.1 a1.2.2.2.1.1||decide (y2.1=a1.2.2.2.1.1))) (aD (decide (s1.1<0)) (BHL a0 a1 R) (bQ (((BHB a0).all fun (r:List T)=>decide (r.length=3)) && decide ((BHB a0).length*40≤140737488355328) && decide ((BHB a0).length≤140737488355328)) (eV aW (tH (BHB a0) [T.v (.int .i64 s1.1), T.sl true [(BIT a1)]]) fun (y4:List dL)=>R ((BIG a0 y4))))) (BG4 X0 s1)) (BHL a0 a1 R)) (0,())
abbrev A15:Sh:=[(true,aB),(true,aM)]
noncomputable def ABT:List T→Option T:=gS A15 I0
theorem AYO {a0 a1}:ABT [aF true aB a0,aF true aM a1]=I0 (a0,a1):=bE (s:=A15) rfl (a0,a1) rfl
theorem BBS:r8 Tryz.prog 194 ABT I0 (cC A15) AUM:=iB (a1:=(true,aB)) (a2:=(true,aM)) (sp:=I0) (F:=AUM) (Hs:=BDU) (f:=194) (k:=8) A3O aQ aS (aL rfl) ⟨_,_,Tryz.func194,rfl⟩ rfl fun _ _ _=>by kernel_rfl
theorem A9U:aN Tryz.prog 194 ABT:=BBS fun d x r h hb=>by
 clear hb
 have hp:qY d=true:=by
  unfold I0 at h
  split at h
  ·assumption
  ·cases h
 have e:Sh.enc [(true,aB)] (AMP d x)=r:=by
  unfold I0 at h
  rw[show qY (d,x).1=true from hp] at h
  exact Option.some.inj h
 subst e
 clear h
 have c:=fI hp
 have hd:=w8 (r:=aW) (l:=d.2.1) (z:=3) (b:=40) rfl (dU c.n (by decide))
 unfold AUM BHL BIT BIG BHB BG4
 refine cU (r:=aW) (fun y=>lH y (A5 x)) (oY c.n) (fun X k y hk hy hp hn=>?_) (fun h _=>?_)
 ·dsimp only
  rw[pT]
  refine BH (fun h=>?_) fun h=>hn h
  obtain ⟨hi,_⟩:=hp h
  refine cF (fun h=>by omega) fun _=>⟨hd,?_⟩
  refine eE (r:=aW) (l:=d.2.1.take k++A5 x::d.2.1.drop k) (sD (r:=aW) (x:=A5 x) rfl (by omega) c.n (by decide)) _ ?_
  unfold AMP oX
  rw[hi];rfl
 ·refine ⟨hd,?_⟩
  rw[show (((List.map (aW).enc d.2.1).length:Nat):Int)=(((d.2.1).length:Nat):Int) by rw[List.length_map]]
  refine eE (r:=aW) (l:=d.2.1.take (d.2.1).length++A5 x::d.2.1.drop (d.2.1).length) (sD (r:=aW) (x:=A5 x) rfl (Nat.le_refl _) c.n (by decide)) _ ?_
  unfold AMP oX
  rw[h];rfl
def AMT (d:aC) (x:aX):aC:=(d.1,d.2.1,d.2.2.1,oX lH d.2.2.2.1 (A6 x),d.2.2.2.2)
def I4 (x:aC×aX):Option T:=match qY x.1 with
 | true=>some (Sh.enc [(true,aB)] (AMT x.1 x.2))
 | false=>none
noncomputable def BDP:Env:=Env.of [(61,.dup 6 72),(311,.grow 6 tJ)]
def BDY:FuncId→Hint:=bX 305 [(2,.inv [.val 8 false (.int .i64)])] (fun _=>bI)
theorem A3S:aT Tryz.prog BDP:=aT.cons (x:=.dup 6 72) qG (.cons AHN (.nil _))
def BHT(a1:aX):List T:=[T.v (.string a1.2.2.2.2.2.1.1), T.v (.string a1.2.2.2.2.2.1.2.1), T.v (.string a1.2.2.2.2.2.1.2.2.1), T.v (.int .i64 a1.2.2.2.2.2.1.2.2.2.1), T.v (.int .i64 a1.2.2.2.2.2.1.2.2.2.2.1), T.v (.int .i64 a1.2.2.2.2.2.1.2.2.2.2.2)]
def BII(a0:aC)(y4:List eB):T:=aF true aB (a0.1,a0.2.1,a0.2.2.1,y4,a0.2.2.2.2.1,a0.2.2.2.2.2)
def BHH(a0:aC)(a1:aX)(R:T→Prop):Prop:=bQ (((BG8 a0).all fun (r:List T)=>decide (r.length=6)) && decide ((BG8 a0).length*72≤140737488355328) && decide ((BG8 a0).length≤140737488355328)) (eV aY (tJ (BG8 a0) [T.v (.int .i64 (↑(BG8 a0).length:Int)), T.sl true [(BHT a1)]]) fun (y3:List eB)=>R ((BII a0 y3)))
def AUQ(a0:aC)(a1:aX)(R:T→Prop):Prop:=aZ (Int×PUnit) (fun X0 s1=>aD (decide (s1.1<(↑(BG8 a0).length:Int))) (aP aY (BG8 a0) s1.1 fun (y2:eB)=>aD (!(cV y2.1 a1.2.2.2.2.2.1.1||decide (y2.1=a1.2.2.2.2.2.1.1))) (aD (decide (s1.1<0)) (BHH a0 a1 R) (bQ (((BG8 a0).all fun (r:List T)=>decide (r.length=6)) && decide ((BG8 a0).length*72≤140737488355328) && decide ((BG8 a0).length≤140737488355328)) (eV aY (tJ (BG8 a0) [T.v (.int .i64 s1.1), T.sl true [(BHT a1)]]) fun (y4:List eB)=>R ((BII a0 y4))))) (BG4 X0 s1)) (BHH a0 a1 R)) (0,())
abbrev A19:Sh:=[(true,aB),(true,aM)]
noncomputable def ABX:List T→Option T:=gS A19 I4
theorem AYS {a0 a1}:ABX [aF true aB a0,aF true aM a1]=I4 (a0,a1):=bE (s:=A19) rfl (a0,a1) rfl
theorem BBW:r8 Tryz.prog 242 ABX I4 (cC A19) AUQ:=iB (a1:=(true,aB)) (a2:=(true,aM)) (sp:=I4) (F:=AUQ) (Hs:=BDY) (f:=242) (k:=8) A3S aQ aS (aL rfl) ⟨_,_,Tryz.func242,rfl⟩ rfl fun _ _ _=>by kernel_rfl
theorem A9Y:aN Tryz.prog 242 ABX:=BBW fun d x r h hb=>by
 clear hb
 have hp:qY d=true:=by
  unfold I4 at h
  split at h
  ·assumption
  ·cases h
 have e:Sh.enc [(true,aB)] (AMT d x)=r:=by
  unfold I4 at h
  rw[show qY (d,x).1=true from hp] at h
  exact Option.some.inj h
 subst e
 clear h
 have c:=fI hp
 have hd:=w8 (r:=aY) (l:=d.2.2.2.1) (z:=6) (b:=72) rfl (dU c.s (by decide))
 unfold AUQ BHH BII BHT BG8 BG4
 refine cU (r:=aY) (fun y=>lH y (A6 x)) (oY c.s) (fun X k y hk hy hp hn=>?_) (fun h _=>?_)
 ·dsimp only
  rw[pT]
  refine BH (fun h=>?_) fun h=>hn h
  obtain ⟨hi,_⟩:=hp h
  refine cF (fun h=>by omega) fun _=>⟨hd,?_⟩
  refine eE (r:=aY) (l:=d.2.2.2.1.take k++A6 x::d.2.2.2.1.drop k) (sD (r:=aY) (x:=A6 x) rfl (by omega) c.s (by decide)) _ ?_
  unfold AMT oX
  rw[hi];rfl
 ·refine ⟨hd,?_⟩
  rw[show (((List.map (aY).enc d.2.2.2.1).length:Nat):Int)=(((d.2.2.2.1).length:Nat):Int) by rw[List.length_map]]
  refine eE (r:=aY) (l:=d.2.2.2.1.take (d.2.2.2.1).length++A6 x::d.2.2.2.1.drop (d.2.2.2.1).length) (sD (r:=aY) (x:=A6 x) rfl (Nat.le_refl _) c.s (by decide)) _ ?_
  unfold AMT oX
  rw[h];rfl
def AMQ (d:aC) (x:aX):aC:=(d.1,mE (eU (iE x)) d.2.1,d.2.2)
def I1 (x:aC×aX):Option T:=match qY x.1 with
 | true=>some (Sh.enc [(true,aB)] (AMQ x.1 x.2))
 | false=>none
noncomputable def BDM:Env:=Env.of [(60,.dup 3 40),(304,.grow 3 HQ)]
def BDV:FuncId→Hint:=bX 299 [(2,.inv [.val 8 false (.int .i64)])] (fun _=>bI)
theorem A3P:aT Tryz.prog BDM:=aT.cons (x:=.dup 3 40) qF (.cons AHI (.nil _))
def BH2(a0:aC)(R:T→Prop):Prop:=bQ (((BHB a0).all fun (r:List T)=>decide (r.length=3)) && decide ((BHB a0).length*40≤140737488355328) && decide ((BHB a0).length≤140737488355328)) (R (aF true aB a0))
def AUN(a0:aC)(a1:aX)(R:T→Prop):Prop:=aZ (Int×PUnit) (fun X0 s1=>aD (decide (s1.1<(↑(BHB a0).length:Int))) (aP aW (BHB a0) s1.1 fun (y2:dL)=>aD (decide (y2.1=a1.2.1)) (aD (decide (s1.1<0)) (BH2 a0 R) (bQ (((BHB a0).all fun (r:List T)=>decide (r.length=3)) && decide ((BHB a0).length*40≤140737488355328) && decide ((BHB a0).length≤140737488355328)) (eV aW (HQ (BHB a0) (BHR s1)) fun (y3:List dL)=>R ((BIG a0 y3))))) (BG4 X0 s1)) (BH2 a0 R)) (0,())
abbrev A16:Sh:=[(true,aB),(true,aM)]
noncomputable def ABU:List T→Option T:=gS A16 I1
theorem AYP {a0 a1}:ABU [aF true aB a0,aF true aM a1]=I1 (a0,a1):=bE (s:=A16) rfl (a0,a1) rfl
theorem BBT:r8 Tryz.prog 201 ABU I1 (cC A16) AUN:=iB (a1:=(true,aB)) (a2:=(true,aM)) (sp:=I1) (F:=AUN) (Hs:=BDV) (f:=201) (k:=8) A3P aQ aS (aL rfl) ⟨_,_,Tryz.func201,rfl⟩ rfl fun _ _ _=>by kernel_rfl
theorem A9V:aN Tryz.prog 201 ABU:=BBT fun d x r h hb=>by
 clear hb
 have hp:qY d=true:=by
  unfold I1 at h
  split at h
  ·assumption
  ·cases h
 have e:Sh.enc [(true,aB)] (AMQ d x)=r:=by
  unfold I1 at h
  rw[show qY (d,x).1=true from hp] at h
  exact Option.some.inj h
 subst e
 clear h
 have c:=fI hp
 have hd:=w8 (r:=aW) (l:=d.2.1) (z:=3) (b:=40) rfl (dU c.n (by decide))
 unfold AUN BH2 BHR BIG BHB BG4
 refine cU (r:=aW) (fun y=>eU (iE x) y) (oY c.n) (fun X k y hk hy hp hn=>?_) (fun h _=>?_)
 ·dsimp only
  refine cF (fun h=>?_) fun h=>hn (decide_eq_false h)
  obtain ⟨hi,_⟩:=hp (decide_eq_true h)
  refine cF (fun h=>by omega) fun _=>⟨hd,?_⟩
  refine eE (r:=aW) (l:=d.2.1.take k++d.2.1.drop (k+1)) (HF (r:=aW) rfl hk c.n) _ ?_
  unfold AMQ mE
  rw[show List.findIdx (eU (iE x)) d.2.1=k from hi];rfl
 ·refine ⟨hd,?_⟩
  unfold AMQ
  rw[w7 (is:=eU (iE x)) h];rfl
def AMS (d:aC) (x:aX):aC:=(d.1,d.2.1,mE (eU (iE x)) d.2.2.1,d.2.2.2)
def I3 (x:aC×aX):Option T:=match qY x.1 with
 | true=>some (Sh.enc [(true,aB)] (AMS x.1 x.2))
 | false=>none
noncomputable def BDO:Env:=Env.of [(165,.dup 18 208),(309,.grow 18 HR)]
def BDX:FuncId→Hint:=bX 229 [(2,.inv [.val 8 false (.int .i64)])] (fun _=>bI)
theorem A3R:aT Tryz.prog BDO:=aT.cons (x:=.dup 18 208) CC (.cons AHJ (.nil _))
def BIH(a0:aC)(y3:List bC):T:=aF true aB (a0.1,a0.2.1,y3,a0.2.2.2.1,a0.2.2.2.2.1,a0.2.2.2.2.2)
def BH1(a0:aC)(R:T→Prop):Prop:=bQ (((BG5 a0).all fun (r:List T)=>decide (r.length=18)) && decide ((BG5 a0).length*208≤140737488355328) && decide ((BG5 a0).length≤140737488355328)) (R (aF true aB a0))
def AUP(a0:aC)(a1:aX)(R:T→Prop):Prop:=aZ (Int×PUnit) (fun X0 s1=>aD (decide (s1.1<(↑(BG5 a0).length:Int))) (aP aJ (BG5 a0) s1.1 fun (y2:bC)=>aD (decide (y2.1=a1.2.1)) (aD (decide (s1.1<0)) (BH1 a0 R) (bQ (((BG5 a0).all fun (r:List T)=>decide (r.length=18)) && decide ((BG5 a0).length*208≤140737488355328) && decide ((BG5 a0).length≤140737488355328)) (eV aJ (HR (BG5 a0) (BHR s1)) fun (y3:List bC)=>R ((BIH a0 y3))))) (BG4 X0 s1)) (BH1 a0 R)) (0,())
abbrev A18:Sh:=[(true,aB),(true,aM)]
noncomputable def ABW:List T→Option T:=gS A18 I3
theorem AYR {a0 a1}:ABW [aF true aB a0,aF true aM a1]=I3 (a0,a1):=bE (s:=A18) rfl (a0,a1) rfl
theorem BBV:r8 Tryz.prog 220 ABW I3 (cC A18) AUP:=iB (a1:=(true,aB)) (a2:=(true,aM)) (sp:=I3) (F:=AUP) (Hs:=BDX) (f:=220) (k:=8) A3R aQ aS (aL rfl) ⟨_,_,Tryz.func220,rfl⟩ rfl fun _ _ _=>by kernel_rfl
theorem A9X:aN Tryz.prog 220 ABW:=BBV fun d x r h hb=>by
 clear hb
 have hp:qY d=true:=by
  unfold I3 at h
  split at h
  ·assumption
  ·cases h
 have e:Sh.enc [(true,aB)] (AMS d x)=r:=by
  unfold I3 at h
  rw[show qY (d,x).1=true from hp] at h
  exact Option.some.inj h
 subst e
 clear h
 have c:=fI hp
 have hd:=w8 (r:=aJ) (l:=d.2.2.1) (z:=18) (b:=208) rfl (dU c.p (by decide))
 unfold AUP BH1 BHR BIH BG5 BG4
 refine cU (r:=aJ) (fun y=>eU (iE x) y) (oY c.p) (fun X k y hk hy hp hn=>?_) (fun h _=>?_)
 ·dsimp only
  refine cF (fun h=>?_) fun h=>hn (decide_eq_false h)
  obtain ⟨hi,_⟩:=hp (decide_eq_true h)
  refine cF (fun h=>by omega) fun _=>⟨hd,?_⟩
  refine eE (r:=aJ) (l:=d.2.2.1.take k++d.2.2.1.drop (k+1)) (HF (r:=aJ) rfl hk c.p) _ ?_
  unfold AMS mE
  rw[show List.findIdx (eU (iE x)) d.2.2.1=k from hi];rfl
 ·refine ⟨hd,?_⟩
  unfold AMS
  rw[w7 (is:=eU (iE x)) h];rfl
def AMU (d:aC) (x:aX):aC:=(d.1,d.2.1,d.2.2.1,mE (eU (iE x)) d.2.2.2.1,d.2.2.2.2)
def I5 (x:aC×aX):Option T:=match qY x.1 with
 | true=>some (Sh.enc [(true,aB)] (AMU x.1 x.2))
 | false=>none
noncomputable def BDQ:Env:=Env.of [(61,.dup 6 72),(312,.grow 6 HS)]
def BDZ:FuncId→Hint:=bX 305 [(2,.inv [.val 8 false (.int .i64)])] (fun _=>bI)
theorem A3T:aT Tryz.prog BDQ:=aT.cons (x:=.dup 6 72) qG (.cons AHK (.nil _))
def BH3(a0:aC)(R:T→Prop):Prop:=bQ (((BG8 a0).all fun (r:List T)=>decide (r.length=6)) && decide ((BG8 a0).length*72≤140737488355328) && decide ((BG8 a0).length≤140737488355328)) (R (aF true aB a0))
def AUR(a0:aC)(a1:aX)(R:T→Prop):Prop:=aZ (Int×PUnit) (fun X0 s1=>aD (decide (s1.1<(↑(BG8 a0).length:Int))) (aP aY (BG8 a0) s1.1 fun (y2:eB)=>aD (decide (y2.1=a1.2.1)) (aD (decide (s1.1<0)) (BH3 a0 R) (bQ (((BG8 a0).all fun (r:List T)=>decide (r.length=6)) && decide ((BG8 a0).length*72≤140737488355328) && decide ((BG8 a0).length≤140737488355328)) (eV aY (HS (BG8 a0) (BHR s1)) fun (y3:List eB)=>R ((BII a0 y3))))) (BG4 X0 s1)) (BH3 a0 R)) (0,())
abbrev A2A:Sh:=[(true,aB),(true,aM)]
noncomputable def ABY:List T→Option T:=gS A2A I5
theorem AYT {a0 a1}:ABY [aF true aB a0,aF true aM a1]=I5 (a0,a1):=bE (s:=A2A) rfl (a0,a1) rfl
theorem BBX:r8 Tryz.prog 249 ABY I5 (cC A2A) AUR:=iB (a1:=(true,aB)) (a2:=(true,aM)) (sp:=I5) (F:=AUR) (Hs:=BDZ) (f:=249) (k:=8) A3T aQ aS (aL rfl) ⟨_,_,Tryz.func249,rfl⟩ rfl fun _ _ _=>by kernel_rfl
theorem A9Z:aN Tryz.prog 249 ABY:=BBX fun d x r h hb=>by
 clear hb
 have hp:qY d=true:=by
  unfold I5 at h
  split at h
  ·assumption
  ·cases h
 have e:Sh.enc [(true,aB)] (AMU d x)=r:=by
  unfold I5 at h
  rw[show qY (d,x).1=true from hp] at h
  exact Option.some.inj h
 subst e
 clear h
 have c:=fI hp
 have hd:=w8 (r:=aY) (l:=d.2.2.2.1) (z:=6) (b:=72) rfl (dU c.s (by decide))
 unfold AUR BH3 BHR BII BG8 BG4
 refine cU (r:=aY) (fun y=>eU (iE x) y) (oY c.s) (fun X k y hk hy hp hn=>?_) (fun h _=>?_)
 ·dsimp only
  refine cF (fun h=>?_) fun h=>hn (decide_eq_false h)
  obtain ⟨hi,_⟩:=hp (decide_eq_true h)
  refine cF (fun h=>by omega) fun _=>⟨hd,?_⟩
  refine eE (r:=aY) (l:=d.2.2.2.1.take k++d.2.2.2.1.drop (k+1)) (HF (r:=aY) rfl hk c.s) _ ?_
  unfold AMU mE
  rw[show List.findIdx (eU (iE x)) d.2.2.2.1=k from hi];rfl
 ·refine ⟨hd,?_⟩
  unfold AMU
  rw[w7 (is:=eU (iE x)) h];rfl
def W5 (d:aC) (x:aX):aC:=(d.1,d.2.1,d.2.2.1,d.2.2.2.1,mE (eU (iE x)) d.2.2.2.2.1,d.2.2.2.2.2)
def zX (x:aC×aX):Option T:=match qY x.1 with
 | true=>some (Sh.enc [(true,aB)] (W5 x.1 x.2))
 | false=>none
noncomputable def A8W:Env:=Env.of [(166,.dup 5 88),(313,.grow 5 mR)]
def A80:FuncId→Hint:=bX 300 [(2,.inv [.val 8 false (.int .i64)])] (fun _=>bI)
theorem ATW:aT Tryz.prog A8W:=aT.cons (x:=.dup 5 88) n9 (.cons BA (.nil _))
def BH5(a0:aC)(y3:List aV):T:=aF true aB (a0.1,a0.2.1,a0.2.2.1,a0.2.2.2.1,y3,a0.2.2.2.2.2)
def AF7(a0:aC)(a1:aX)(R:T→Prop):Prop:=aZ (Int×PUnit) (fun X0 s1=>aD (decide (s1.1<(↑(BG3 a0).length:Int))) (aP aE (BG3 a0) s1.1 fun (y2:aV)=>aD (decide (y2.1=a1.2.1)) (aD (decide (s1.1<0)) (bQ (((BG3 a0).all fun (r:List T)=>decide (r.length=5)) && decide ((BG3 a0).length*88≤140737488355328) && decide ((BG3 a0).length≤140737488355328)) (R (aF true aB a0))) (bQ (((BG3 a0).all fun (r:List T)=>decide (r.length=5)) && decide ((BG3 a0).length*88≤140737488355328) && decide ((BG3 a0).length≤140737488355328)) (eV aE (mR (BG3 a0) (BHR s1)) fun (y3:List aV)=>R ((BH5 a0 y3))))) (BG4 X0 s1)) (bQ (((BG3 a0).all fun (r:List T)=>decide (r.length=5)) && decide ((BG3 a0).length*88≤140737488355328) && decide ((BG3 a0).length≤140737488355328)) (R (aF true aB a0)))) (0,())
abbrev AJX:Sh:=[(true,aB),(true,aM)]
noncomputable def OH:List T→Option T:=gS AJX zX
theorem AQR {a0 a1}:OH [aF true aB a0,aF true aM a1]=zX (a0,a1):=bE (s:=AJX) rfl (a0,a1) rfl
theorem A6L:r8 Tryz.prog 270 OH zX (cC AJX) AF7:=iB (a1:=(true,aB)) (a2:=(true,aM)) (sp:=zX) (F:=AF7) (Hs:=A80) (f:=270) (k:=8) ATW aQ aS (aL rfl) ⟨_,_,Tryz.func270,rfl⟩ rfl fun _ _ _=>by kernel_rfl
theorem A5E:aN Tryz.prog 270 OH:=A6L fun d x r h hb=>by
 clear hb
 have hp:qY d=true:=by
  unfold zX at h
  split at h
  ·assumption
  ·cases h
 have e:Sh.enc [(true,aB)] (W5 d x)=r:=by
  unfold zX at h
  rw[show qY (d,x).1=true from hp] at h
  exact Option.some.inj h
 subst e
 clear h
 have c:=fI hp
 have hd:=w8 (r:=aE) (l:=d.2.2.2.2.1) (z:=5) (b:=88) rfl (dU c.k (by decide))
 unfold AF7 BH5 BHR BG3 BG4
 refine cU (r:=aE) (fun y=>eU (iE x) y) (oY c.k) (fun X k y hk hy hp hn=>?_) (fun h _=>?_)
 ·dsimp only
  refine cF (fun h=>?_) fun h=>hn (decide_eq_false h)
  obtain ⟨hi,_⟩:=hp (decide_eq_true h)
  refine cF (fun h=>by omega) fun _=>⟨hd,?_⟩
  refine eE (r:=aE) (l:=d.2.2.2.2.1.take k++d.2.2.2.2.1.drop (k+1)) (HF (r:=aE) rfl hk c.k) _ ?_
  unfold W5 mE
  rw[show List.findIdx (eU (iE x)) d.2.2.2.2.1=k from hi];rfl
 ·refine ⟨hd,?_⟩
  unfold W5
  rw[w7 (is:=eU (iE x)) h];rfl
def AMR (d:aC) (x:aX):aC:=(d.1,d.2.1,oX lH d.2.2.1 (dC x),d.2.2.2)
def I2 (x:aC×aX):Option T:=match qY x.1&&dR (dC x.2) with
 | true=>some (Sh.enc [(true,aB)] (AMR x.1 x.2))
 | false=>none
noncomputable def BDN:Env:=Env.of [(167,.pure iL),(165,.dup 18 208),(308,.grow 18 tI)]
def BDW:FuncId→Hint:=bX 229 [(2,.inv [.val 8 false (.int .i64)])] (fun _=>bI)
theorem A3Q:aT Tryz.prog BDN:=.cons uX (aT.cons (x:=.dup 18 208) CC (.cons AHM (.nil _)))
def BHP(a0:aC)(y0:bC)(R:T→Prop):Prop:=bQ (((BG5 a0).all fun (r:List T)=>decide (r.length=18)) && decide ((BG5 a0).length*208≤140737488355328) && decide ((BG5 a0).length≤140737488355328)) (eV aJ (tI (BG5 a0) [T.v (.int .i64 (↑(BG5 a0).length:Int)), T.sl true [(aJ.enc y0)]]) fun (y4:List bC)=>R ((BIH a0 y4)))
def AUO(a0:aC)(a1:aX)(R:T→Prop):Prop:=aI [(true,aJ)] (iL [aF true aJ a1.2.2.2.2.1]) fun (y0:bC)=>aZ (Int×PUnit) (fun X1 s2=>aD (decide (s2.1<(↑(BG5 a0).length:Int))) (aP aJ (BG5 a0) s2.1 fun (y3:bC)=>aD (!(cV y3.1 y0.1||decide (y3.1=y0.1))) (aD (decide (s2.1<0)) (BHP a0 y0 R) (bQ (((BG5 a0).all fun (r:List T)=>decide (r.length=18)) && decide ((BG5 a0).length*208≤140737488355328) && decide ((BG5 a0).length≤140737488355328)) (eV aJ (tI (BG5 a0) [T.v (.int .i64 s2.1), T.sl true [(aJ.enc y0)]]) fun (y5:List bC)=>R ((BIH a0 y5))))) (BG4 X1 s2)) (BHP a0 y0 R)) (0,())
abbrev A17:Sh:=[(true,aB),(true,aM)]
noncomputable def ABV:List T→Option T:=gS A17 I2
theorem AYQ {a0 a1}:ABV [aF true aB a0,aF true aM a1]=I2 (a0,a1):=bE (s:=A17) rfl (a0,a1) rfl
theorem BBU:r8 Tryz.prog 213 ABV I2 (cC A17) AUO:=iB (a1:=(true,aB)) (a2:=(true,aM)) (sp:=I2) (F:=AUO) (Hs:=BDW) (f:=213) (k:=8) A3Q aQ aS (aL rfl) ⟨_,_,Tryz.func213,rfl⟩ rfl fun _ _ _=>by kernel_rfl
theorem A9W:aN Tryz.prog 213 ABV:=BBU fun d x r h hb=>by
 clear hb
 have hq:(qY d&&dR (dC x))=true:=by
  unfold I2 at h
  split at h
  ·assumption
  ·cases h
 have e:Sh.enc [(true,aB)] (AMR d x)=r:=by
  unfold I2 at h
  rw[show (qY (d,x).1&&dR (dC (d,x).2))=true from hq] at h
  exact Option.some.inj h
 subst e
 clear h
 rw[Bool.and_eq_true] at hq
 obtain ⟨hp,ho⟩:=hq
 have c:=fI hp
 have hd:=w8 (r:=aJ) (l:=d.2.2.1) (z:=18) (b:=208) rfl (dU c.p (by decide))
 unfold AUO BHP BIH BG5 BG4
 refine aG (s:=[(true,aJ)]) (y:=dC x) ((u5 ..).trans (by unfold jE;rw[ho])) ?_
 refine cU (r:=aJ) (fun y=>lH y (dC x)) (oY c.p) (fun X k y hk hy hp hn=>?_) (fun h _=>?_)
 ·dsimp only
  rw[pT]
  refine BH (fun h=>?_) fun h=>hn h
  obtain ⟨hi,_⟩:=hp h
  refine cF (fun h=>by omega) fun _=>⟨hd,?_⟩
  refine eE (r:=aJ) (l:=d.2.2.1.take k++dC x::d.2.2.1.drop k) (sD (r:=aJ) (x:=dC x) rfl (by omega) c.p (by decide)) _ ?_
  unfold AMR oX
  rw[hi];rfl
 ·refine ⟨hd,?_⟩
  rw[show (((List.map (aJ).enc d.2.2.1).length:Nat):Int)=(((d.2.2.1).length:Nat):Int) by rw[List.length_map]]
  refine eE (r:=aJ) (l:=d.2.2.1.take (d.2.2.1).length++dC x::d.2.2.1.drop (d.2.2.1).length) (sD (r:=aJ) (x:=dC x) rfl (Nat.le_refl _) c.p (by decide)) _ ?_
  unfold AMR oX
  rw[h];rfl
def AMV (d:aC) (x:aX):aC:=(d.1,d.2.1,d.2.2.1,d.2.2.2.1,oX lH d.2.2.2.2.1 (gC x),d.2.2.2.2.2)
def I6 (x:aC×aX):Option T:=match qY x.1&&dJ (gC x.2) with
 | true=>some (Sh.enc [(true,aB)] (AMV x.1 x.2))
 | false=>none
noncomputable def BDR:Env:=Env.of [(168,.pure nQ),(166,.dup 5 88),(315,.grow 5 mS)]
def BD0:FuncId→Hint:=bX 300 [(2,.inv [.val 8 false (.int .i64)])] (fun _=>bI)
theorem A3U:aT Tryz.prog BDR:=.cons N0 (aT.cons (x:=.dup 5 88) n9 (.cons Q7 (.nil _)))
def BHQ(y0:aV):List T:=[T.v (.string y0.1),T.v (.string y0.2.1), T.sl false (BH7 y0), T.v (.int .i64 y0.2.2.2.1), T.sl false (BHV y0)]
def BIP(a0:aC)(y0:aV)(R:T→Prop):Prop:=eV aE (mS (BG3 a0) [T.v (.int .i64 (↑(BG3 a0).length:Int)), T.sl true [(BHQ y0)]]) fun (y4:List aV)=>R ((BH5 a0 y4))
def AUS(a0:aC)(a1:aX)(R:T→Prop):Prop:=aI [(true,aE)] (nQ [aF true aE a1.2.2.2.2.2.2.1]) fun (y0:aV)=>aZ (Int×PUnit) (fun X1 s2=>aD (decide (s2.1<(↑(BG3 a0).length:Int))) (aP aE (BG3 a0) s2.1 fun (y3:aV)=>aD (!(cV y3.1 y0.1||decide (y3.1=y0.1))) (aD (decide (s2.1<0)) (bQ (((BG3 a0).all fun (r:List T)=>decide (r.length=5)) && decide ((BG3 a0).length*88≤140737488355328) && decide ((BG3 a0).length≤140737488355328)) (BIP a0 y0 R)) (bQ (((BG3 a0).all fun (r:List T)=>decide (r.length=5)) && decide ((BG3 a0).length*88≤140737488355328) && decide ((BG3 a0).length≤140737488355328)) (eV aE (mS (BG3 a0) [T.v (.int .i64 s2.1), T.sl true [(BHQ y0)]]) fun (y5:List aV)=>R ((BH5 a0 y5))))) (BG4 X1 s2)) (bQ (((BG3 a0).all fun (r:List T)=>decide (r.length=5)) && decide ((BG3 a0).length*88≤140737488355328) && decide ((BG3 a0).length≤140737488355328)) (BIP a0 y0 R))) (0,())
abbrev A2B:Sh:=[(true,aB),(true,aM)]
noncomputable def ABZ:List T→Option T:=gS A2B I6
theorem AYU {a0 a1}:ABZ [aF true aB a0,aF true aM a1]=I6 (a0,a1):=bE (s:=A2B) rfl (a0,a1) rfl
theorem BBY:r8 Tryz.prog 262 ABZ I6 (cC A2B) AUS:=iB (a1:=(true,aB)) (a2:=(true,aM)) (sp:=I6) (F:=AUS) (Hs:=BD0) (f:=262) (k:=8) A3U aQ aS (aL rfl) ⟨_,_,Tryz.func262,rfl⟩ rfl fun _ _ _=>by kernel_rfl
theorem A90:aN Tryz.prog 262 ABZ:=BBY fun d x r h hb=>by
 clear hb
 have hq:(qY d&&dJ (gC x))=true:=by
  unfold I6 at h
  split at h
  ·assumption
  ·cases h
 have e:Sh.enc [(true,aB)] (AMV d x)=r:=by
  unfold I6 at h
  rw[show (qY (d,x).1&&dJ (gC (d,x).2))=true from hq] at h
  exact Option.some.inj h
 subst e
 clear h
 rw[Bool.and_eq_true] at hq
 obtain ⟨hp,ho⟩:=hq
 have c:=fI hp
 have hd:=w8 (r:=aE) (l:=d.2.2.2.2.1) (z:=5) (b:=88) rfl (dU c.k (by decide))
 unfold AUS BIP BH5 BHQ BHV BH7 BG3 BG4
 refine aG (s:=[(true,aE)]) (y:=gC x) ((EH ..).trans (by unfold kE;rw[ho])) ?_
 refine cU (r:=aE) (fun y=>lH y (gC x)) (oY c.k) (fun X k y hk hy hp hn=>?_) (fun h _=>?_)
 ·dsimp only
  rw[pT]
  refine BH (fun h=>?_) fun h=>hn h
  obtain ⟨hi,_⟩:=hp h
  refine cF (fun h=>by omega) fun _=>⟨hd,?_⟩
  refine eE (r:=aE) (l:=d.2.2.2.2.1.take k++gC x::d.2.2.2.2.1.drop k) (sD (r:=aE) (x:=gC x) rfl (by omega) c.k (by decide)) _ ?_
  unfold AMV oX
  rw[hi];rfl
 ·refine ⟨hd,?_⟩
  rw[show (((List.map (aE).enc d.2.2.2.2.1).length:Nat):Int)=(((d.2.2.2.2.1).length:Nat):Int) by rw[List.length_map]]
  refine eE (r:=aE) (l:=d.2.2.2.2.1.take (d.2.2.2.2.1).length++gC x::d.2.2.2.2.1.drop (d.2.2.2.2.1).length) (sD (r:=aE) (x:=gC x) rfl (Nat.le_refl _) c.k (by decide)) _ ?_
  unfold AMV oX
  rw[h];rfl
end Go.Pv
namespace Go.Pv
open Go Go.Proofs
noncomputable def OE:List T→Option T:=eP
theorem ALS:MY Tryz.prog 137 2 OE :=
 A1E (E:=AE4) (Hs:=AGM) Y7 aQ aS (aL rfl) 8 ⟨_,_,Tryz.func137,rfl⟩ (s:=PK) rfl fun d r h hb=>by
  have hp:qY d=true:=by
   unfold rW at h
   split at h
   ·assumption
   ·cases h
  have e:Sh.enc [(true,aB)] d=r:=by
   unfold rW at h
   rw[hp] at h
   exact Option.some.inj h
  subst e
  rw[show YP bR Tryz.prog AE4 AGM 8 2 137 (Sh.iH PK d) (fun y=>y=Sh.enc [(true,aB)] d)=L2 d (fun y=>y=Sh.enc [(true,aB)] d) from by kernel_rfl]
  exact AWS hp
def YI (x:aX):Option T:=some (Sh.enc [(true,aM)] ((x.1,cJ,cJ,eW,dC x,eX,noPack,j0):aX))
def AU8(a0:aX)(R:T→Prop):Prop:=R (T.agg [T.v (.int .i64 a0.1),T.v (.string {data:=#[]}), T.v (.string {data:=#[]}),T.v (.string {data:=#[]}), T.v (.int .i64 0),T.v (.string {data:=#[]}), T.v (.string a0.2.2.2.2.1.1), T.v (.int .i64 a0.2.2.2.2.1.2.1), T.v (.int .i64 a0.2.2.2.2.1.2.2.1), T.v (.string a0.2.2.2.2.1.2.2.2.1), T.v (.string a0.2.2.2.2.1.2.2.2.2.1), T.v (.int .i64 a0.2.2.2.2.1.2.2.2.2.2.1), T.sl false (List.map aA.enc a0.2.2.2.2.1.2.2.2.2.2.2.1.1), T.sl false (List.map aA.li.enc a0.2.2.2.2.1.2.2.2.2.2.2.1.2), T.v (.string a0.2.2.2.2.1.2.2.2.2.2.2.2.1), T.v (.int .i64 a0.2.2.2.2.1.2.2.2.2.2.2.2.2.1), T.v (.int .i64 a0.2.2.2.2.1.2.2.2.2.2.2.2.2.2.1), T.v (.int .i64 a0.2.2.2.2.1.2.2.2.2.2.2.2.2.2.2.1.1), T.v (.int .i64 a0.2.2.2.2.1.2.2.2.2.2.2.2.2.2.2.1.2.1), T.v (.int .i64 a0.2.2.2.2.1.2.2.2.2.2.2.2.2.2.2.1.2.2), T.v (.int .i64 a0.2.2.2.2.1.2.2.2.2.2.2.2.2.2.2.2.1.1), T.v (.int .i64 a0.2.2.2.2.1.2.2.2.2.2.2.2.2.2.2.2.1.2.1), T.v (.int .i64 a0.2.2.2.2.1.2.2.2.2.2.2.2.2.2.2.2.1.2.2), T.v (.int .i64 a0.2.2.2.2.1.2.2.2.2.2.2.2.2.2.2.2.2), T.v (.string {data:=#[]}),T.v (.string {data:=#[]}), T.v (.string {data:=#[]}),T.v (.int .i64 0), T.v (.int .i64 0),T.v (.int .i64 0), T.v (.string {data:=#[]}),T.v (.string {data:=#[]}),T.sl false [], T.v (.int .i64 0),T.sl false [],T.v (.int .i64 0), T.v (.string {data:=#[]}),T.v (.string {data:=#[]})])
abbrev A2H:Sh:=[(true,aM)]
noncomputable def SZ:List T→Option T:=gS A2H YI
theorem AY5 {a0}:SZ [aF true aM a0]=YI (a0):=bE (s:=A2H) rfl (a0) rfl
theorem BB9:uH Tryz.prog 225 SZ YI (cC A2H) AU8:=iW (a1:=(true,aM)) (sp:=YI) (F:=AU8) (Hs:=dI) (f:=225) (k:=8) (bW _) aQ aS (aL rfl) ⟨_,_,Tryz.func225,rfl⟩ rfl fun _ _=>by kernel_rfl
theorem BAE:aN Tryz.prog 225 SZ:=BB9 fun x r h hb=>by
 cases h
 unfold AU8
 rfl
def YJ (x:aX):Option T:=some (Sh.enc [(true,aM)] ((x.1,iE x,eTo x,eW,dQ,eX,noPack,j0):aX))
def AU9(a0:aX)(R:T→Prop):Prop:=R (T.agg [T.v (.int .i64 a0.1),T.v (.string a0.2.1), T.v (.string a0.2.2.1),T.v (.string {data:=#[]}), T.v (.int .i64 0),T.v (.string {data:=#[]}), T.v (.string {data:=#[]}),T.v (.int .i64 0), T.v (.int .i64 0),T.v (.string {data:=#[]}), T.v (.string {data:=#[]}),T.v (.int .i64 0),T.sl false [], T.sl false [],T.v (.string {data:=#[]}),T.v (.int .i64 0), T.v (.int .i64 0),T.v (.int .i64 0), T.v (.int .i64 0),T.v (.int .i64 0), T.v (.int .i64 0),T.v (.int .i64 0), T.v (.int .i64 0),T.v (.int .i64 0), T.v (.string {data:=#[]}),T.v (.string {data:=#[]}), T.v (.string {data:=#[]}),T.v (.int .i64 0), T.v (.int .i64 0),T.v (.int .i64 0), T.v (.string {data:=#[]}),T.v (.string {data:=#[]}),T.sl false [], T.v (.int .i64 0),T.sl false [],T.v (.int .i64 0), T.v (.string {data:=#[]}),T.v (.string {data:=#[]})])
abbrev A2I:Sh:=[(true,aM)]
noncomputable def S0:List T→Option T:=gS A2I YJ
theorem AY6 {a0}:S0 [aF true aM a0]=YJ (a0):=bE (s:=A2I) rfl (a0) rfl
theorem BCA:uH Tryz.prog 233 S0 YJ (cC A2I) AU9:=iW (a1:=(true,aM)) (sp:=YJ) (F:=AU9) (Hs:=dI) (f:=233) (k:=8) (bW _) aQ aS (aL rfl) ⟨_,_,Tryz.func233,rfl⟩ rfl fun _ _=>by kernel_rfl
theorem BAF:aN Tryz.prog 233 S0:=BCA fun x r h hb=>by
 cases h
 unfold AU9
 rfl
end Go.Pv
namespace Go.Pv
open Go Go.Proofs
def okX (d:aC) (x:aX):Bool:=qY d&&(dR (dC x)&&dJ (gC x))
theorem FI {d:aC} {x:aX} (h:okX d x=true):qY d=true∧dR (dC x)=true∧dJ (gC x)=true:=by
 unfold okX at h
 rw[Bool.and_eq_true,Bool.and_eq_true] at h
 exact h
theorem lI (k:Int) (x y:oD) (h:([aF true aB x.1,aF true aK x.2.1,aF true aM (k,x.2.2)]:List T)=[aF true aB y.1,aF true aK y.2.1,aF true aM (k,y.2.2)]):x=y:=by
 simp only[List.cons.injEq,and_true] at h
 obtain ⟨h1,h2,h3⟩:=h
 exact Prod.ext (mN (r:=aB) rfl h1) (Prod.ext (mN (r:=aK) rfl h2) (Prod.mk.inj (mN (r:=aM) rfl h3)).2)
theorem fJ {c:Bool} {a:T}:c=true→(match c with|true=>some a|false=>none)=some a:=fun h=>by rw[h]
theorem pP {α:Type} (no:α) (o:Option α):(found no o).2=o.isSome:=by cases o<;>rfl
theorem DZ {d:aC} {m:aH} {x:aX} (hk:1≤x.1∧x.1≤12) (h:nH x (dO x)=false):cA d m x=(kX,2):=by
 unfold cA;rw[if_neg (fun h=>h hk),if_pos (.inl h)]
theorem RZ {d:aC} {m:aH} {x:aX} (hk:1≤x.1∧x.1≤12) (h5:¬ x.1=5) (h:nH x (dO x)=true) (ha:nL x=true) (ht:iT d x=true):cA d m x=(kX,7):=by
 unfold cA;rw[if_neg (fun h=>h hk),if_neg (fun e=>e.elim (fun e=>by rw[h] at e;cases e) fun e=>h5 e.1),if_pos ⟨ha,ht⟩]
theorem M7 {d:aC} {m:aH} {x:aX} (hk:1≤x.1∧x.1≤12) (h5:¬ x.1=5) (h:nH x (dO x)=true) (ha:nL x=false) (ht:iT d x=false):cA d m x=(kX,8):=by
 unfold cA;rw[if_neg (fun h=>h hk),if_neg (fun e=>e.elim (fun e=>by rw[h] at e;cases e) fun e=>h5 e.1),if_neg (fun e=>by rw[ha] at e;cases e.1),if_pos ⟨ha,ht⟩]
theorem AWA {d:aC} {m:aH} {x:aX} (hk:1≤x.1∧x.1≤12) (h5:¬ x.1=5) (h:nH x (dO x)=true) (ha:iT d x = !nL x) (hu:r6 d x=true):cA d m x=(kX,34):=by
 unfold cA
 rw[if_neg (fun h=>h hk),if_neg (fun e=>e.elim (fun e=>by rw[h] at e;cases e) fun e=>h5 e.1),if_neg (fun e=>by rw[ha,e.1] at e;cases e.2),if_neg (fun e=>by rw[ha,e.1] at e;cases e.2),if_neg (fun e=>h5 e.1),if_pos hu]
theorem uK {d:aC} {m:aH} {x:aX} (hk:1≤x.1∧x.1≤12) (h5:¬ x.1=5) (h:nH x (dO x)=true) (ha:iT d x = !nL x) (hu:r6 d x=false):cA d m x=if mL (A0 d x) m=0 then (A0 d x,0) else (kX,mL (A0 d x) m):=by
 unfold cA
 rw[if_neg (fun h=>h hk),if_neg (fun e=>e.elim (fun e=>by rw[h] at e;cases e) fun e=>h5 e.1),if_neg (fun e=>by rw[ha,e.1] at e;cases e.2),if_neg (fun e=>by rw[ha,e.1] at e;cases e.2),if_neg (fun e=>h5 e.1),if_neg (by rw[hu];decide)]
noncomputable def DN (k:Int) (x:oD):Option T:=match okX x.1 (k,x.2.2) with
 | true=>some (Sh.enc [(true,aB),(false,.int .i64)] (cA x.1 x.2.1 (k,x.2.2)))
 | false=>none
section
variable {k : Int} {d : aC} {m : aH} {x : dG} {r : T}
theorem AV8 (hre:r=Sh.enc [(true,aB),(false,.int .i64)] (cA d m (k,x))) (hk:1≤k∧k≤12) (h5:¬ k=5) (hE:nH (k,x) (dO (k,x))=true) (hth:iT d (k,x) = !nL (k,x)) (hus:r6 d (k,x)=false) (hc:qY d=true) {gd:List T→Option T}
  (zd:gd [aF true aB d,aF true aM (k,x)]=some (Sh.enc [(true,aB)] (A0 d (k,x)))) :
  aI [(true,aB)] (eP [aF true aB d]) fun (y3:aC)=>aI [(true,aB)] (gd [aF true aB y3,aF true aM (k,x)]) fun (y4:aC)=>aI [(false,.int .i64)] (cM [aF true aB y4,aF true aK m]) fun (y5:Int) =>
   aD (!decide (y5=0)) (T.bZ [aF true aB kX,T.v (Value.int .i64 y5)]=r) (T.bZ [aF true aB y4,T.v (Value.int .i64 0)]=r):=by
 subst hre
 refine aG (s:=[(true,aB)]) (y:=d) ((tC ..).trans (fJ hc)) ?_
 refine aG (s:=[(true,aB)]) (y:=A0 d (k,x)) zd ?_
 refine aG (s:=[(false,.int .i64)]) (y:=mL (A0 d (k,x)) m) (nP ..) ?_
 exact mA (fun h=>by rw[(uK hk h5 hE hth hus).trans (if_neg h)];rfl) fun h=>by rw[(uK hk h5 hE hth hus).trans (if_pos h)];rfl
theorem AAB (h:DN k (d,m,x)=some r) (hk:1≤k∧k≤12) {g:List T→Option T} (z1:g [aF true aM (k,x)]=some (Sh.enc [(true,aM)] (dO (k,x)))) {REST:Prop}
  (hr:qY d=true→dR (dC (k,x))=true→dJ (gC (k,x))=true→r=Sh.enc [(true,aB),(false,.int .i64)] (cA d m (k,x))→nH (k,x) (dO (k,x))=true→REST) :
  aI [(true,aM)] (g [aF true aM (k,x)]) fun (y0:aX)=>aI [(false,Sy.bool)] (cS [aF true aM (k,x),aF true aM y0]) fun (y1:Bool)=>aD (!y1) (T.bZ [aF true aB kX,T.v (Value.int .i64 2)]=r) REST:=by
 obtain ⟨hp,hre⟩:=sF h
 obtain ⟨hc,ho1,ho2⟩:=FI hp
 refine aG (s:=[(true,aM)]) (y:=dO (k,x)) z1 ?_
 refine aG (s:=o5) (y:=nH (k,x) (dO (k,x))) (qN ..) ?_
 exact jS (fun h=>by rw[←hre,show cA d m (k,x)=_ from DZ hk h];rfl) fun hE=>hr hc ho1 ho2 hre.symm hE
theorem VL (h:DN k (d,m,x)=some r) (hk:1≤k∧k≤12) (h5:¬ k=5) (ha:nL (k,x)=true) (hus:r6 d (k,x)=false) {g gd:List T→Option T} (z1:g [aF true aM (k,x)]=some (Sh.enc [(true,aM)] (dO (k,x)))) {r0:Sy} {no:r0.den} {o:Option r0.den} {gx:Option T}
  (zx:qY d=true→gx=some (Sh.enc [(true,r0),(false,.bool)] (found no o))) (ht:iT d (k,x)=o.isSome)
  (zd:qY d=true→dR (dC (k,x))=true→dJ (gC (k,x))=true→gd [aF true aB d,aF true aM (k,x)]=some (Sh.enc [(true,aB)] (A0 d (k,x)))) :
  aI [(true,aM)] (g [aF true aM (k,x)]) fun (y0:aX)=>aI [(false,Sy.bool)] (cS [aF true aM (k,x),aF true aM y0]) fun (y1:Bool)=>aD (!y1) (T.bZ [aF true aB kX,T.v (Value.int .i64 2)]=r)
   (aI [(true,r0),(false,.bool)] gx fun (y2:r0.den×Bool)=>aD y2.2 (T.bZ [aF true aB kX,T.v (Value.int .i64 7)]=r)
    (aI [(true,aB)] (eP [aF true aB d]) fun (y3:aC)=>aI [(true,aB)] (gd [aF true aB y3,aF true aM (k,x)]) fun (y4:aC)=>aI [(false,.int .i64)] (cM [aF true aB y4,aF true aK m]) fun (y5:Int) =>
     aD (!decide (y5=0)) (T.bZ [aF true aB kX,T.v (Value.int .i64 y5)]=r) (T.bZ [aF true aB y4,T.v (Value.int .i64 0)]=r))) :=
 AAB h hk z1 fun hc ho1 ho2 hre hE=>by
  refine aG (s:=[(true,r0),(false,.bool)]) (y:=found no o) (zx hc) ?_
  have ht:=ht.trans (pP no o).symm
  refine BH (fun h=>by rw[hre,show cA d m (k,x)=_ from RZ hk h5 hE ha (ht.trans h)];rfl) fun h=>?_
  exact AV8 hre hk h5 hE (by rw[ha,ht,h];rfl) hus hc (zd hc ho1 ho2)
theorem VM (h:DN k (d,m,x)=some r) (hk:1≤k∧k≤12) (h5:¬ k=5) (ha:nL (k,x)=false) {g gd gu:List T→Option T} (z1:g [aF true aM (k,x)]=some (Sh.enc [(true,aM)] (dO (k,x)))) {r0:Sy} {no:r0.den} {o:Option r0.den} {gx:Option T}
  (zx:qY d=true→gx=some (Sh.enc [(true,r0),(false,.bool)] (found no o))) (ht:iT d (k,x)=o.isSome) (zu:qY d=true→gu [aF true aB d,aF true aM (k,x)]=some (Sh.enc o5 (r6 d (k,x))))
  (zd:qY d=true→gd [aF true aB d,aF true aM (k,x)]=some (Sh.enc [(true,aB)] (A0 d (k,x)))) :
  aI [(true,aM)] (g [aF true aM (k,x)]) fun (y0:aX)=>aI [(false,Sy.bool)] (cS [aF true aM (k,x),aF true aM y0]) fun (y1:Bool)=>aD (!y1) (T.bZ [aF true aB kX,T.v (Value.int .i64 2)]=r)
   (aI [(true,r0),(false,.bool)] gx fun (y2:r0.den×Bool)=>aD (!y2.2) (T.bZ [aF true aB kX,T.v (Value.int .i64 8)]=r)
    (aI [(false,Sy.bool)] (gu [aF true aB d,aF true aM (k,x)]) fun (u:Bool)=>aD u (T.bZ [aF true aB kX,T.v (Value.int .i64 34)]=r)
    (aI [(true,aB)] (eP [aF true aB d]) fun (y3:aC)=>aI [(true,aB)] (gd [aF true aB y3,aF true aM (k,x)]) fun (y4:aC)=>aI [(false,.int .i64)] (cM [aF true aB y4,aF true aK m]) fun (y5:Int) =>
     aD (!decide (y5=0)) (T.bZ [aF true aB kX,T.v (Value.int .i64 y5)]=r) (T.bZ [aF true aB y4,T.v (Value.int .i64 0)]=r)))) :=
 AAB h hk z1 fun hc ho1 ho2 hre hE=>by
  refine aG (s:=[(true,r0),(false,.bool)]) (y:=found no o) (zx hc) ?_
  have ht:=ht.trans (pP no o).symm
  refine jS (fun h=>by rw[hre,show cA d m (k,x)=_ from M7 hk h5 hE ha (ht.trans h)];rfl) fun h=>?_
  have hth:iT d (k,x) = !nL (k,x):=by rw[ha,ht,h];rfl
  refine aG (s:=o5) (y:=r6 d (k,x)) (zu hc) ?_
  refine BH (fun h=>by rw[hre,show cA d m (k,x)=_ from AWA hk h5 hE hth h];rfl) fun hus=>?_
  exact AV8 hre hk h5 hE hth hus hc (zd hc)
end
def LF (a0:aC) (a1:aH) (a2:dG):List T:=[aF true aB a0,aF true aK a1,aF true aM (1,a2)]
noncomputable def AS2:Env:=Env.of [(135,.pure cS),(191,.pure ACC),(193,.pure CI),(137,.pure eP),(194,.pure ABT),(20,.pure cM)]
theorem A3F:aT Tryz.prog AS2:=.cons jJ (.cons BAA (.cons ALT (.cons n8 (.cons A9U (.cons jX (.nil _))))))
def BGF:T:=aF true aB (cJ,[],[],[],[],[])
def BH4(R:T→Prop)(y10:Int):Prop:=R (T.bZ [BGF, T.v (.int .i64 y10)])
def BG9(y4:aC)(a1:aH)(R:T→Prop):Prop:=aI BGG (cM [aF true aB y4,aF true aK a1]) fun (y5:Int)=>aD (!decide (y5=0)) (BH4 R y5) (R (T.bZ [aF true aB y4,T.v (.int .i64 0)]))
def BHM(R:T→Prop):Prop:=R (T.bZ [BGF, T.v (.int .i64 2)])
def BID(R:T→Prop):Prop:=R (T.bZ [BGF, T.v (.int .i64 7)])
def AT2(a0:aC)(a1:aH)(a2:dG)(R:T→Prop):Prop:=aI [(true,aM)] (ACC [(aF true aM (1,a2))]) fun (y0:aX)=>aI BGI (cS [(aF true aM (1,a2)), aF true aM y0]) fun (y1:Bool)=>aD (!y1) (BHM R) (aI [(true,aW),(false,Sy.bool)] (CI [aF true aB a0,T.v (.string a2.2.2.1.1)]) fun (y2:dL×Bool)=>aD y2.2 (BID R) (aI [(true,aB)] (eP [aF true aB a0]) fun (y3:aC)=>aI [(true,aB)] (ABT [aF true aB y3, (aF true aM (1,a2))]) fun (y4:aC)=>BG9 y4 a1 R))
theorem AT3 ( a0 a1 a2 R):dY bR Tryz.prog AS2 dI 8 104 (LF a0 a1 a2) R=AT2 a0 a1 a2 R:=by kernel_rfl
noncomputable def AKA:oD→Option T:=DN 1
theorem ANF (x y:oD) (h:LF x.1 x.2.1 x.2.2=LF y.1 y.2.1 y.2.2):x=y:=lI 1 x y h
noncomputable def AX6:List T→Option (T):=gA (fun (x:aC×aH×dG)=>LF x.1 x.2.1 x.2.2) AKA
theorem AX7 (a0:aC) (a1:aH) (a2:dG):AX6 (LF a0 a1 a2)=AKA (a0,a1,a2):=eN (A:=(fun (x:aC×aH×dG)=>LF x.1 x.2.1 x.2.2)) ANF (a0,a1,a2)
theorem BBJ (h:∀ (a0:aC) (a1:aH) (a2:dG) (r:T),AKA (a0,a1,a2)=some r→(∀ t∈LF a0 a1 a2,Bd t)→AT2 a0 a1 a2 (fun y=>y=r)):aN Tryz.prog 104 AX6 :=
 cK (E:=AS2) (Hs:=dI) A3F aQ aS (aL rfl) 8 ⟨_,_,Tryz.func104,rfl⟩ fun x r h1 h2=>by
  rw[AT3]
  exact h x.1 x.2.1 x.2.2 r h1 h2
theorem AXH:aN Tryz.prog 104 AX6:=BBJ fun d m x r h hb=>by
 unfold AT2 BID BHM BG9 BH4 BGI BGG BGF
 exact VL h (by decide) (by decide) rfl rfl ((AY1 ..).trans rfl) (no:=eW) (fun _=>SV ..) rfl (fun hc _ _=>(AYO ..).trans (fJ hc))
def LI (a0:aC) (a1:aH) (a2:dG):List T:=[aF true aB a0,aF true aK a1,aF true aM (3,a2)]
noncomputable def AS4:Env:=Env.of [(135,.pure cS),(211,.pure ACE),(136,.pure lJ),(137,.pure eP),(213,.pure ABV),(20,.pure cM)]
theorem A3H:aT Tryz.prog AS4:=.cons jJ (.cons BAC (.cons EC (.cons n8 (.cons A9W (.cons jX (.nil _))))))
def BGR:Sh:=[(true,aJ),(false,Sy.bool)]
def BIY(a0:aC)(a2:dG):List T:=[aF true aB a0,T.v (.string a2.2.2.2.1.1)]
def AT6(a0:aC)(a1:aH)(a2:dG)(R:T→Prop):Prop:=aI [(true,aM)] (ACE [(aF true aM (3,a2))]) fun (y0:aX)=>aI BGI (cS [(aF true aM (3,a2)), aF true aM y0]) fun (y1:Bool)=>aD (!y1) (BHM R) (aI BGR (lJ (BIY a0 a2)) fun (y2:bC×Bool)=>aD y2.2 (BID R) (aI [(true,aB)] (eP [aF true aB a0]) fun (y3:aC)=>aI [(true,aB)] (ABV [aF true aB y3, (aF true aM (3,a2))]) fun (y4:aC)=>BG9 y4 a1 R))
theorem AT7 ( a0 a1 a2 R):dY bR Tryz.prog AS4 dI 8 104 (LI a0 a1 a2) R=AT6 a0 a1 a2 R:=by kernel_rfl
noncomputable def AKC:oD→Option T:=DN 3
theorem ANH (x y:oD) (h:LI x.1 x.2.1 x.2.2=LI y.1 y.2.1 y.2.2):x=y:=lI 3 x y h
noncomputable def AYA:List T→Option (T):=gA (fun (x:aC×aH×dG)=>LI x.1 x.2.1 x.2.2) AKC
theorem AYB (a0:aC) (a1:aH) (a2:dG):AYA (LI a0 a1 a2)=AKC (a0,a1,a2):=eN (A:=(fun (x:aC×aH×dG)=>LI x.1 x.2.1 x.2.2)) ANH (a0,a1,a2)
theorem BBL (h:∀ (a0:aC) (a1:aH) (a2:dG) (r:T),AKC (a0,a1,a2)=some r→(∀ t∈LI a0 a1 a2,Bd t)→AT6 a0 a1 a2 (fun y=>y=r)):aN Tryz.prog 104 AYA :=
 cK (E:=AS4) (Hs:=dI) A3H aQ aS (aL rfl) 8 ⟨_,_,Tryz.func104,rfl⟩ fun x r h1 h2=>by
  rw[AT7]
  exact h x.1 x.2.1 x.2.2 r h1 h2
theorem A9N:aN Tryz.prog 104 AYA:=BBL fun d m x r h hb=>by
 unfold AT6 BIY BID BHM BG9 BH4 BGR BGI BGG BGF
 exact VL h (by decide) (by decide) rfl rfl ((AY3 ..).trans rfl) (no:=dQ) (fun hc=>(qL ..).trans (by unfold lE;dsimp only;rw[(fI hc).DF];rfl)) rfl (fun hc h1 _=>(AYQ ..).trans (fJ (by rw[hc,h1];rfl)))
def LM (a0:aC) (a1:aH) (a2:dG):List T:=[aF true aB a0,aF true aK a1,aF true aM (7,a2)]
noncomputable def AS8:Env:=Env.of [(135,.pure cS),(239,.pure ACG),(241,.pure CL),(137,.pure eP),(242,.pure ABX),(20,.pure cM)]
theorem A3L:aT Tryz.prog AS8:=.cons jJ (.cons BAG (.cons ALX (.cons n8 (.cons A9Y (.cons jX (.nil _))))))
def AUE(a0:aC)(a1:aH)(a2:dG)(R:T→Prop):Prop:=aI [(true,aM)] (ACG [(aF true aM (7,a2))]) fun (y0:aX)=>aI BGI (cS [(aF true aM (7,a2)), aF true aM y0]) fun (y1:Bool)=>aD (!y1) (BHM R) (aI [(true,aY),(false,Sy.bool)] (CL [aF true aB a0,T.v (.string a2.2.2.2.2.1.1)]) fun (y2:eB×Bool)=>aD y2.2 (BID R) (aI [(true,aB)] (eP [aF true aB a0]) fun (y3:aC)=>aI [(true,aB)] (ABX [aF true aB y3, (aF true aM (7,a2))]) fun (y4:aC)=>BG9 y4 a1 R))
theorem AUF ( a0 a1 a2 R):dY bR Tryz.prog AS8 dI 8 104 (LM a0 a1 a2) R=AUE a0 a1 a2 R:=by kernel_rfl
noncomputable def AKG:oD→Option T:=DN 7
theorem ANL (x y:oD) (h:LM x.1 x.2.1 x.2.2=LM y.1 y.2.1 y.2.2):x=y:=lI 7 x y h
noncomputable def AYI:List T→Option (T):=gA (fun (x:aC×aH×dG)=>LM x.1 x.2.1 x.2.2) AKG
theorem AYJ (a0:aC) (a1:aH) (a2:dG):AYI (LM a0 a1 a2)=AKG (a0,a1,a2):=eN (A:=(fun (x:aC×aH×dG)=>LM x.1 x.2.1 x.2.2)) ANL (a0,a1,a2)
theorem BBP (h:∀ (a0:aC) (a1:aH) (a2:dG) (r:T),AKG (a0,a1,a2)=some r→(∀ t∈LM a0 a1 a2,Bd t)→AUE a0 a1 a2 (fun y=>y=r)):aN Tryz.prog 104 AYI :=
 cK (E:=AS8) (Hs:=dI) A3L aQ aS (aL rfl) 8 ⟨_,_,Tryz.func104,rfl⟩ fun x r h1 h2=>by
  rw[AUF]
  exact h x.1 x.2.1 x.2.2 r h1 h2
theorem A9R:aN Tryz.prog 104 AYI:=BBP fun d m x r h hb=>by
 unfold AUE BID BHM BG9 BH4 BGI BGG BGF
 exact VL h (by decide) (by decide) rfl rfl ((AY7 ..).trans rfl) (no:=eX) (fun _=>S1 ..) rfl (fun hc _ _=>(AYS ..).trans (fJ hc))
def LO (a0:aC) (a1:aH) (a2:dG):List T:=[aF true aB a0,aF true aK a1,aF true aM (9,a2)]
noncomputable def ATA:Env:=Env.of [(135,.pure cS),(259,.pure ACI),(261,.pure CJ),(137,.pure eP),(262,.pure ABZ),(20,.pure cM)]
theorem A3N:aT Tryz.prog ATA:=.cons jJ (.cons BAI (.cons ALU (.cons n8 (.cons A90 (.cons jX (.nil _))))))
def AUI(a0:aC)(a1:aH)(a2:dG)(R:T→Prop):Prop:=aI [(true,aM)] (ACI [(aF true aM (9,a2))]) fun (y0:aX)=>aI BGI (cS [(aF true aM (9,a2)), aF true aM y0]) fun (y1:Bool)=>aD (!y1) (BHM R) (aI [(true,aE),(false,Sy.bool)] (CJ [aF true aB a0,T.v (.string a2.2.2.2.2.2.1.1)]) fun (y2:aV×Bool)=>aD y2.2 (BID R) (aI [(true,aB)] (eP [aF true aB a0]) fun (y3:aC)=>aI [(true,aB)] (ABZ [aF true aB y3, (aF true aM (9,a2))]) fun (y4:aC)=>BG9 y4 a1 R))
theorem AUJ ( a0 a1 a2 R):dY bR Tryz.prog ATA dI 8 104 (LO a0 a1 a2) R=AUI a0 a1 a2 R:=by kernel_rfl
noncomputable def AKI:oD→Option T:=DN 9
theorem ANN (x y:oD) (h:LO x.1 x.2.1 x.2.2=LO y.1 y.2.1 y.2.2):x=y:=lI 9 x y h
noncomputable def AYM:List T→Option (T):=gA (fun (x:aC×aH×dG)=>LO x.1 x.2.1 x.2.2) AKI
theorem AYN (a0:aC) (a1:aH) (a2:dG):AYM (LO a0 a1 a2)=AKI (a0,a1,a2):=eN (A:=(fun (x:aC×aH×dG)=>LO x.1 x.2.1 x.2.2)) ANN (a0,a1,a2)
theorem BBR (h:∀ (a0:aC) (a1:aH) (a2:dG) (r:T),AKI (a0,a1,a2)=some r→(∀ t∈LO a0 a1 a2,Bd t)→AUI a0 a1 a2 (fun y=>y=r)):aN Tryz.prog 104 AYM :=
 cK (E:=ATA) (Hs:=dI) A3N aQ aS (aL rfl) 8 ⟨_,_,Tryz.func104,rfl⟩ fun x r h1 h2=>by
  rw[AUJ]
  exact h x.1 x.2.1 x.2.2 r h1 h2
theorem A9T:aN Tryz.prog 104 AYM:=BBR fun d m x r h hb=>by
 unfold AUI BID BHM BG9 BH4 BGI BGG BGF
 exact VL h (by decide) (by decide) rfl rfl ((AY9 ..).trans rfl) (no:=noPack) (o:=o0 d (gC (9,x)).1) (fun hc=>(SW ..).trans (by unfold AA;exact AD0 _ (fI hc).BM)) rfl (fun hc _ h2=>(AYU ..).trans (fJ (by rw[hc,h2];rfl)))
def LG (a0:aC) (a1:aH) (a2:dG):List T:=[aF true aB a0,aF true aK a1,aF true aM (2,a2)]
noncomputable def AS3:Env:=Env.of [(135,.pure cS),(199,.pure ACD),(193,.pure CI),(182,.pure EV),(137,.pure eP),(201,.pure ABU),(20,.pure cM)]
theorem A3G:aT Tryz.prog AS3:=.cons jJ (.cons BAB (.cons ALT (.cons AXZ (.cons n8 (.cons A9V (.cons jX (.nil _)))))))
def BHU(R:T→Prop):Prop:=R (T.bZ [BGF, T.v (.int .i64 8)])
def BIB(R:T→Prop):Prop:=R (T.bZ [BGF, T.v (.int .i64 34)])
def BIQ(a0:aC)(a2:dG):List T:=[aF true aB a0,T.v (.string a2.1)]
def AT4(a0:aC)(a1:aH)(a2:dG)(R:T→Prop):Prop:=aI [(true,aM)] (ACD [(aF true aM (2,a2))]) fun (y0:aX)=>aI BGI (cS [(aF true aM (2,a2)), aF true aM y0]) fun (y1:Bool)=>aD (!y1) (BHM R) (aI [(true,aW),(false,Sy.bool)] (CI (BIQ a0 a2)) fun (y2:dL×Bool)=>aD (!y2.2) (BHU R) (aI BGI (EV [aF true aB a0, (aF true aM (2,a2))]) fun (y3:Bool)=>aD y3 (BIB R) (aI [(true,aB)] (eP [aF true aB a0]) fun (y4:aC)=>aI [(true,aB)] (ABU [aF true aB y4, (aF true aM (2,a2))]) fun (y5:aC)=>BG9 y5 a1 R)))
theorem AT5 ( a0 a1 a2 R):dY bR Tryz.prog AS3 dI 8 104 (LG a0 a1 a2) R=AT4 a0 a1 a2 R:=by kernel_rfl
noncomputable def AKB:oD→Option T:=DN 2
theorem ANG (x y:oD) (h:LG x.1 x.2.1 x.2.2=LG y.1 y.2.1 y.2.2):x=y:=lI 2 x y h
noncomputable def AX8:List T→Option (T):=gA (fun (x:aC×aH×dG)=>LG x.1 x.2.1 x.2.2) AKB
theorem AX9 (a0:aC) (a1:aH) (a2:dG):AX8 (LG a0 a1 a2)=AKB (a0,a1,a2):=eN (A:=(fun (x:aC×aH×dG)=>LG x.1 x.2.1 x.2.2)) ANG (a0,a1,a2)
theorem BBK (h:∀ (a0:aC) (a1:aH) (a2:dG) (r:T),AKB (a0,a1,a2)=some r→(∀ t∈LG a0 a1 a2,Bd t)→AT4 a0 a1 a2 (fun y=>y=r)):aN Tryz.prog 104 AX8 :=
 cK (E:=AS3) (Hs:=dI) A3G aQ aS (aL rfl) 8 ⟨_,_,Tryz.func104,rfl⟩ fun x r h1 h2=>by
  rw[AT5]
  exact h x.1 x.2.1 x.2.2 r h1 h2
theorem A9M:aN Tryz.prog 104 AX8:=BBK fun d m x r h hb=>by
 unfold AT4 BIQ BIB BHU BHM BG9 BH4 BGI BGG BGF
 exact VM h (by decide) (by decide) rfl ((AY2 ..).trans rfl) (no:=eW) (fun _=>SV ..) rfl (fun hc=>(AIJ ..).trans (fJ hc)) (fun hc=>(AYP ..).trans (fJ hc))
def LJ (a0:aC) (a1:aH) (a2:dG):List T:=[aF true aB a0,aF true aK a1,aF true aM (4,a2)]
noncomputable def AS5:Env:=Env.of [(135,.pure cS),(218,.pure ACF),(136,.pure lJ),(206,.pure EX),(137,.pure eP),(220,.pure ABW),(20,.pure cM)]
theorem A3I:aT Tryz.prog AS5:=.cons jJ (.cons BAD (.cons EC (.cons AX1 (.cons n8 (.cons A9X (.cons jX (.nil _)))))))
def AT8(a0:aC)(a1:aH)(a2:dG)(R:T→Prop):Prop:=aI [(true,aM)] (ACF [(aF true aM (4,a2))]) fun (y0:aX)=>aI BGI (cS [(aF true aM (4,a2)), aF true aM y0]) fun (y1:Bool)=>aD (!y1) (BHM R) (aI BGR (lJ (BIQ a0 a2)) fun (y2:bC×Bool)=>aD (!y2.2) (BHU R) (aI BGI (EX [aF true aB a0, (aF true aM (4,a2))]) fun (y3:Bool)=>aD y3 (BIB R) (aI [(true,aB)] (eP [aF true aB a0]) fun (y4:aC)=>aI [(true,aB)] (ABW [aF true aB y4, (aF true aM (4,a2))]) fun (y5:aC)=>BG9 y5 a1 R)))
theorem AT9 ( a0 a1 a2 R):dY bR Tryz.prog AS5 dI 8 104 (LJ a0 a1 a2) R=AT8 a0 a1 a2 R:=by kernel_rfl
noncomputable def AKD:oD→Option T:=DN 4
theorem ANI (x y:oD) (h:LJ x.1 x.2.1 x.2.2=LJ y.1 y.2.1 y.2.2):x=y:=lI 4 x y h
noncomputable def AYC:List T→Option (T):=gA (fun (x:aC×aH×dG)=>LJ x.1 x.2.1 x.2.2) AKD
theorem AYD (a0:aC) (a1:aH) (a2:dG):AYC (LJ a0 a1 a2)=AKD (a0,a1,a2):=eN (A:=(fun (x:aC×aH×dG)=>LJ x.1 x.2.1 x.2.2)) ANI (a0,a1,a2)
theorem BBM (h:∀ (a0:aC) (a1:aH) (a2:dG) (r:T),AKD (a0,a1,a2)=some r→(∀ t∈LJ a0 a1 a2,Bd t)→AT8 a0 a1 a2 (fun y=>y=r)):aN Tryz.prog 104 AYC :=
 cK (E:=AS5) (Hs:=dI) A3I aQ aS (aL rfl) 8 ⟨_,_,Tryz.func104,rfl⟩ fun x r h1 h2=>by
  rw[AT9]
  exact h x.1 x.2.1 x.2.2 r h1 h2
theorem A9O:aN Tryz.prog 104 AYC:=BBM fun d m x r h hb=>by
 unfold AT8 BIQ BIB BHU BHM BG9 BH4 BGR BGI BGG BGF
 exact VM h (by decide) (by decide) rfl ((AY4 ..).trans rfl) (no:=dQ) (fun hc=>(qL ..).trans (by unfold lE;dsimp only;rw[(fI hc).DF];rfl)) rfl (fun hc=>(AIL ..).trans (fJ hc)) (fun hc=>(AYR ..).trans (fJ hc))
def LN (a0:aC) (a1:aH) (a2:dG):List T:=[aF true aB a0,aF true aK a1,aF true aM (8,a2)]
noncomputable def AS9:Env:=Env.of [(135,.pure cS),(247,.pure ACH),(241,.pure CL),(227,.pure j4),(137,.pure eP),(249,.pure ABY),(20,.pure cM)]
theorem A3M:aT Tryz.prog AS9:=.cons jJ (.cons BAH (.cons ALX (.cons sY (.cons n8 (.cons A9Z (.cons jX (.nil _)))))))
def AUG(a0:aC)(a1:aH)(a2:dG)(R:T→Prop):Prop:=aI [(true,aM)] (ACH [(aF true aM (8,a2))]) fun (y0:aX)=>aI BGI (cS [(aF true aM (8,a2)), aF true aM y0]) fun (y1:Bool)=>aD (!y1) (BHM R) (aI [(true,aY),(false,Sy.bool)] (CL (BIQ a0 a2)) fun (y2:eB×Bool)=>aD (!y2.2) (BHU R) (aI BGI (j4 [aF true aB a0, (aF true aM (8,a2))]) fun (y3:Bool)=>aD y3 (BIB R) (aI [(true,aB)] (eP [aF true aB a0]) fun (y4:aC)=>aI [(true,aB)] (ABY [aF true aB y4, (aF true aM (8,a2))]) fun (y5:aC)=>BG9 y5 a1 R)))
theorem AUH ( a0 a1 a2 R):dY bR Tryz.prog AS9 dI 8 104 (LN a0 a1 a2) R=AUG a0 a1 a2 R:=by kernel_rfl
noncomputable def AKH:oD→Option T:=DN 8
theorem ANM (x y:oD) (h:LN x.1 x.2.1 x.2.2=LN y.1 y.2.1 y.2.2):x=y:=lI 8 x y h
noncomputable def AYK:List T→Option (T):=gA (fun (x:aC×aH×dG)=>LN x.1 x.2.1 x.2.2) AKH
theorem AYL (a0:aC) (a1:aH) (a2:dG):AYK (LN a0 a1 a2)=AKH (a0,a1,a2):=eN (A:=(fun (x:aC×aH×dG)=>LN x.1 x.2.1 x.2.2)) ANM (a0,a1,a2)
theorem BBQ (h:∀ (a0:aC) (a1:aH) (a2:dG) (r:T),AKH (a0,a1,a2)=some r→(∀ t∈LN a0 a1 a2,Bd t)→AUG a0 a1 a2 (fun y=>y=r)):aN Tryz.prog 104 AYK :=
 cK (E:=AS9) (Hs:=dI) A3M aQ aS (aL rfl) 8 ⟨_,_,Tryz.func104,rfl⟩ fun x r h1 h2=>by
  rw[AUH]
  exact h x.1 x.2.1 x.2.2 r h1 h2
theorem A9S:aN Tryz.prog 104 AYK:=BBQ fun d m x r h hb=>by
 unfold AUG BIQ BIB BHU BHM BG9 BH4 BGI BGG BGF
 exact VM h (by decide) (by decide) rfl ((AY8 ..).trans rfl) (no:=eX) (fun _=>S1 ..) rfl (fun _=>(JT ..).trans rfl) (fun hc=>(AYT ..).trans (fJ hc))
def BR (a0:aC) (a1:aH) (a2:dG):List T:=[aF true aB a0,aF true aK a1,aF true aM (10,a2)]
noncomputable def AE1:Env:=Env.of [(135,.pure cS),(268,.pure OM),(261,.pure CJ),(254,.pure EW),(137,.pure eP),(270,.pure OH),(20,.pure cM)]
theorem ATQ:aT Tryz.prog AE1:=.cons jJ (.cons A5I (.cons ALU (.cons AX0 (.cons n8 (.cons A5E (.cons jX (.nil _)))))))
def AFX(a0:aC)(a1:aH)(a2:dG)(R:T→Prop):Prop:=aI [(true,aM)] (OM [(aF true aM (10,a2))]) fun (y0:aX)=>aI BGI (cS [(aF true aM (10,a2)), aF true aM y0]) fun (y1:Bool)=>aD (!y1) (BHM R) (aI [(true,aE),(false,Sy.bool)] (CJ (BIQ a0 a2)) fun (y2:aV×Bool)=>aD (!y2.2) (BHU R) (aI BGI (EW [aF true aB a0, (aF true aM (10,a2))]) fun (y3:Bool)=>aD y3 (BIB R) (aI [(true,aB)] (eP [aF true aB a0]) fun (y4:aC)=>aI [(true,aB)] (OH [aF true aB y4, (aF true aM (10,a2))]) fun (y5:aC)=>BG9 y5 a1 R)))
theorem AON ( a0 a1 a2 R):dY bR Tryz.prog AE1 dI 8 104 (BR a0 a1 a2) R=AFX a0 a1 a2 R:=by kernel_rfl
noncomputable def XX:oD→Option T:=DN 10
theorem AES (x y:oD) (h:BR x.1 x.2.1 x.2.2=BR y.1 y.2.1 y.2.2):x=y:=lI 10 x y h
noncomputable def AHX:List T→Option (T):=gA (fun (x:aC×aH×dG)=>BR x.1 x.2.1 x.2.2) XX
theorem AQM (a0:aC) (a1:aH) (a2:dG):AHX (BR a0 a1 a2)=XX (a0,a1,a2):=eN (A:=(fun (x:aC×aH×dG)=>BR x.1 x.2.1 x.2.2)) AES (a0,a1,a2)
theorem A6B (h:∀ (a0:aC) (a1:aH) (a2:dG) (r:T),XX (a0,a1,a2)=some r→(∀ t∈BR a0 a1 a2,Bd t)→AFX a0 a1 a2 (fun y=>y=r)):aN Tryz.prog 104 AHX :=
 cK (E:=AE1) (Hs:=dI) ATQ aQ aS (aL rfl) 8 ⟨_,_,Tryz.func104,rfl⟩ fun x r h1 h2=>by
  rw[AON]
  exact h x.1 x.2.1 x.2.2 r h1 h2
theorem A46:aN Tryz.prog 104 AHX:=A6B fun d m x r h hb=>by
 unfold AFX BIQ BIB BHU BHM BG9 BH4 BGI BGG BGF
 exact VM h (by decide) (by decide) rfl ((AQW ..).trans rfl) (no:=noPack) (o:=o0 d (iE (10,x))) (fun hc=>(SW ..).trans (by unfold AA;exact AD0 _ (fI hc).BM)) rfl (fun hc=>(AIK ..).trans (fJ hc)) (fun hc=>(AQR ..).trans (fJ hc))
theorem ifC {p q s:Prop} {i:Decidable p} {j:Decidable q} {k:Decidable s} {A B:Prop} (h1:p∧q∧s→A) (h2:¬ (p∧q∧s)→B):aD (@decide p i&&(@decide q j&&(@decide s k&&true))) A B:=by
 by_cases h:p∧q∧s
 ·rw[decide_eq_true h.1,decide_eq_true h.2.1,decide_eq_true h.2.2];exact h1 h
 ·have:(@decide p i&&(@decide q j&&(@decide s k&&true)))=false:=by
   rw[Bool.eq_false_iff]
   intro e
   simp only[Bool.and_eq_true,decide_eq_true_eq,and_true] at e
   exact h e
  rw[this];exact h2 h
theorem zL {a b:cX}:(a.1=b.1∧a.2.1=b.2.1∧a.2.2=b.2.2)↔a=b:=by
 simp only[Prod.ext_iff]
def BS (a0:aC) (a1:aH) (a2:dG):List T:=[aF true aB a0,aF true aK a1,aF true aM (11,a2)]
noncomputable def AE2:Env:=Env.of [(135,.pure cS),(274,.pure vA),(227,.pure j4),(137,.pure eP),(278,.pure qK),(62,.dup 3 40),(320,.grow 3 kK),(321,.grow 3 zG),(20,.pure cM)]
def AVP:FuncId→Hint:=bX 301 [(2,.inv [.val 8 false (.int .i64)])] (bX 317 [(2,.inv [.val 8 false (.int .i64)])] (fun _=>bI))
theorem ATR:aT Tryz.prog AE2:=.cons jJ (.cons ALW (.cons sY (.cons n8 (.cons SH (aT.cons (x:=.dup 3 40) qE (.cons N4 (.cons N3 (.cons jX (.nil _)))))))))
def BG6(y5:aC)(y10:List cX)(a1:aH)(R:T→Prop):Prop:=aI BGG (cM [(aF true aB (y5.1,y5.2.1,y5.2.2.1,y5.2.2.2.1,y5.2.2.2.2.1,y10)), aF true aK a1]) fun (y11:Int)=>aD (!decide (y11=0)) (BH4 R y11) (R (T.bZ [(aF true aB (y5.1,y5.2.1,y5.2.2.1,y5.2.2.2.1,y5.2.2.2.2.1,y10)), T.v (.int .i64 0)]))
def BIJ(a2:dG):List T:=[T.v (.int .i64 a2.2.2.2.2.2.2.1), T.v (.string a2.2.2.2.2.2.2.2.1), T.v (.string a2.2.2.2.2.2.2.2.2)]
def BHN(y5:aC)(a2:dG)(a1:aH)(R:T→Prop):Prop:=eV aR (kK (BG2 y5) [T.v (.int .i64 (↑(BG2 y5).length:Int)), T.sl true [(BIJ a2)]]) fun (y14:List cX)=>BG6 y5 y14 a1 R
def BHE(s7:Int×PUnit)(y5:aC)(a2:dG)(a1:aH)(R:T→Prop):Prop:=aD (decide (s7.1<0)) (bQ (((BG2 y5).all fun (r:List T)=>decide (r.length=3)) && decide ((BG2 y5).length*40 ≤ 140737488355328) && decide ((BG2 y5).length≤140737488355328)) (BHN y5 a2 a1 R)) (bQ (((BG2 y5).all fun (r:List T)=>decide (r.length=3)) && decide ((BG2 y5).length*40 ≤ 140737488355328) && decide ((BG2 y5).length≤140737488355328)) (eV aR (kK (BG2 y5) [T.v (.int .i64 s7.1), T.sl true [(BIJ a2)]]) fun (y12:List cX)=>BG6 y5 y12 a1 R))
def BH9(y5:aC)(a2:dG)(a1:aH)(R:T→Prop):Prop:=bQ (((BG2 y5).all fun (r:List T)=>decide (r.length=3)) && decide ((BG2 y5).length*40≤140737488355328) && decide ((BG2 y5).length≤140737488355328)) (BHN y5 a2 a1 R)
def AFY(a0:aC)(a1:aH)(a2:dG)(R:T→Prop):Prop:=aI [(true,aM)] (vA [(aF true aM (11,a2))]) fun (y0:aX)=>aI BGI (cS [(aF true aM (11,a2)), aF true aM y0]) fun (y1:Bool)=>aD (!y1) (BHM R) (aZ (Int×PUnit) (fun X2 s3=>aD (decide (s3.1<(↑(BG2 a0).length:Int))) (aP aR (BG2 a0) s3.1 fun (y4:cX)=>aD (decide (a2.2.2.2.2.2.2.1=y4.1) && (decide (a2.2.2.2.2.2.2.2.1=y4.2.1) && (decide (a2.2.2.2.2.2.2.2.2=y4.2.2)&&true))) (aD (decide (0≤s3.1)) (BID R) (aI [(true,aB)] (eP [aF true aB a0]) fun (y5:aC)=>aZ (Int×PUnit) (fun X6 s7=>aD (decide (s7.1<(↑(BG2 y5).length:Int))) (aP aR (BG2 y5) s7.1 fun (y8:cX)=>aI BGI (qK [aF true aR y8, aF true aR a2.2.2.2.2.2.2]) fun (y9:Bool)=>aD y9 (BHE s7 y5 a2 a1 R) (BG4 X6 s7)) (BH9 y5 a2 a1 R)) (0,()))) (BG4 X2 s3)) (aI [(true,aB)] (eP [aF true aB a0]) fun (y16:aC)=>aZ (Int×PUnit) (fun X17 s18=>aD (decide (s18.1<(↑(BG2 y16).length:Int))) (aP aR (BG2 y16) s18.1 fun (y19:cX)=>aI BGI (qK [aF true aR y19,aF true aR a2.2.2.2.2.2.2]) fun (y20:Bool)=>aD y20 (BHE s18 y16 a2 a1 R) (BG4 X17 s18)) (BH9 y16 a2 a1 R)) (0,()))) (0,()))
theorem AOO ( a0 a1 a2 R):dY bR Tryz.prog AE2 AVP 8 104 (BS a0 a1 a2) R=AFY a0 a1 a2 R:=by kernel_rfl
noncomputable def XY:oD→Option T:=DN 11
theorem AET (x y:oD) (h:BS x.1 x.2.1 x.2.2=BS y.1 y.2.1 y.2.2):x=y:=lI 11 x y h
noncomputable def AHY:List T→Option (T):=gA (fun (x:aC×aH×dG)=>BS x.1 x.2.1 x.2.2) XY
theorem AQN (a0:aC) (a1:aH) (a2:dG):AHY (BS a0 a1 a2)=XY (a0,a1,a2):=eN (A:=(fun (x:aC×aH×dG)=>BS x.1 x.2.1 x.2.2)) AET (a0,a1,a2)
theorem A6C (h:∀ (a0:aC) (a1:aH) (a2:dG) (r:T),XY (a0,a1,a2)=some r→(∀ t∈BS a0 a1 a2,Bd t)→AFY a0 a1 a2 (fun y=>y=r)):aN Tryz.prog 104 AHY :=
 cK (E:=AE2) (Hs:=AVP) ATR aQ aS (aL rfl) 8 ⟨_,_,Tryz.func104,rfl⟩ fun x r h1 h2=>by
  rw[AOO]
  exact h x.1 x.2.1 x.2.2 r h1 h2
theorem A47:aN Tryz.prog 104 AHY:=A6C fun d m x r h hb=>by
 clear hb
 obtain ⟨hp,rfl⟩:=sF h
 clear h
 obtain ⟨hc,ho1,ho2⟩:=FI hp
 have c:=fI hc
 have is:∀ {a:aC×Int},cA d m (11,x)=a→Sh.enc [(true,aB),(false,.int .i64)] a=Sh.enc [(true,aB),(false,.int .i64)] (cA d m (11,x)):=fun h=>by rw[h]
 have hk:(1:Int)≤((11,x):aX).1∧((11,x):aX).1≤12:=by dsimp only;omega
 have h5:¬ ((11,x):aX).1=5:=by dsimp only;omega
 have lift:∀ {a:aC×Int},cA d m (11,x)=a→∀ v,v=Sh.enc [(true,aB),(false,.int .i64)] a→v=Sh.enc [(true,aB),(false,.int .i64)] (cA d m (11,x)):=fun h v hv=>by rw[h];exact hv
 unfold AFY BID BH9 BHM BHE BHN BIJ BG6 BH4 BG4 BG2 BGI BGG BGF
 have z1:vA [aF true aM (11,x)]=some (Sh.enc [(true,aM)] (dO (11,x))):=(SY ..).trans rfl
 refine aG (s:=[(true,aM)]) (y:=dO (11,x)) z1 ?_
 have z2:cS [aF true aM (11,x),aF true aM (dO (11,x))]=some (Sh.enc o5 (nH (11,x) (dO (11,x)))):=qN ..
 refine aG (s:=o5) (y:=nH (11,x) (dO (11,x))) z2 ?_
 refine jS (fun h=>lift (DZ hk h) _ rfl) fun hE=>?_
 have hd:=w8 (r:=aR) (l:=d.2.2.2.2.2) (z:=3) (b:=40) rfl (dU c.r (by decide))
 have pos:∀ {k:Nat},¬ (0≤(k:Int))→False:=fun h=>h (by omega)
 have hus:r6 d (11,x)=false:=rfl
 have tail:∀ (hth:iT d (11,x) = !nL (11,x)) (l:List cX) (hl:l=oX G7 d.2.2.2.2.2 (o2 (11,x))),aI [(false,Sy.int IntKind.i64)] (cM [aF true aB (d.1,d.2.1,d.2.2.1,d.2.2.2.1,d.2.2.2.2.1,l),aF true aK m]) fun (y:Int) =>
   aD (!decide (y=0)) (Sh.enc [(true,aB),(false,.int .i64)] (kX,y)=Sh.enc [(true,aB),(false,.int .i64)] (cA d m (11,x))) (Sh.enc [(true,aB),(false,.int .i64)] ((d.1,d.2.1,d.2.2.1,d.2.2.2.1,d.2.2.2.2.1,l),0)=Sh.enc [(true,aB),(false,.int .i64)] (cA d m (11,x))):=fun hth l hl=>by
  subst hl
  refine aG (s:=[(false,.int .i64)]) (y:=mL (A0 d (11,x)) m) (nP ..) ?_
  exact mA (fun h=>is ((uK hk h5 hE hth hus).trans (if_neg h))) fun h=>is ((uK hk h5 hE hth hus).trans (if_pos h))
 refine cU (r:=aR) (fun n=>decide (n=o2 (11,x))) (oY c.r) (fun X k y hlt hy hp hn=>?_) (fun _ h0=>?_)
 ·dsimp only
  refine ifC (fun h=>?_) fun h=>hn (decide_eq_false fun e=>h (zL.2 e.symm))
  obtain ⟨_,h2⟩:=hp (decide_eq_true (zL.1 h).symm)
  exact cF (fun _=>lift (RZ hk h5 hE rfl h2) _ rfl) fun h=>(pos h).elim
 ·have hth:iT d (11,x) = !nL (11,x):=h0
  refine aG (s:=[(true,aB)]) (y:=d) ((tC ..).trans (fJ hc)) ?_
  refine cU (r:=aR) (fun y=>G7 y (o2 (11,x))) (oY c.r) (fun X k y hk' hy hp hn=>?_) (fun h _=>?_)
  ·dsimp only
   refine aG (s:=o5) (y:=G7 y (o2 (11,x))) (AB8 ..) ?_
   refine BH (fun h=>?_) fun h=>hn h
   obtain ⟨hi,_⟩:=hp h
   refine cF (fun h=>by omega) fun _=>⟨hd,?_⟩
   refine eE (r:=aR) (l:=d.2.2.2.2.2.take k++o2 (11,x)::d.2.2.2.2.2.drop k) (sD (r:=aR) (x:=o2 (11,x)) rfl (by omega) c.r (by decide)) _ ?_
   exact tail hth _ (by unfold oX;rw[hi])
  ·refine ⟨hd,?_⟩
   rw[show (((List.map aR.enc d.2.2.2.2.2).length:Nat):Int)=((d.2.2.2.2.2.length:Nat):Int) by rw[List.length_map]]
   refine eE (r:=aR) (l:=d.2.2.2.2.2.take d.2.2.2.2.2.length++o2 (11,x)::d.2.2.2.2.2.drop d.2.2.2.2.2.length) (sD (r:=aR) (x:=o2 (11,x)) rfl (Nat.le_refl _) c.r (by decide)) _ ?_
   exact tail hth _ (by unfold oX;rw[h])
def BT (a0:aC) (a1:aH) (a2:dG):List T:=[aF true aB a0,aF true aK a1,aF true aM (12,a2)]
noncomputable def AE3:Env:=Env.of [(135,.pure cS),(274,.pure vA),(227,.pure j4),(137,.pure eP),(278,.pure qK),(62,.dup 3 40),(320,.grow 3 kK),(321,.grow 3 zG),(20,.pure cM)]
def AVQ:FuncId→Hint:=bX 301 [(2,.inv [.val 8 false (.int .i64)])] (bX 317 [(2,.inv [.val 8 false (.int .i64)])] (fun _=>bI))
theorem ATS:aT Tryz.prog AE3:=.cons jJ (.cons ALW (.cons sY (.cons n8 (.cons SH (aT.cons (x:=.dup 3 40) qE (.cons N4 (.cons N3 (.cons jX (.nil _)))))))))
def BHS(y6:aC)(a1:aH)(R:T→Prop):Prop:=bQ (((BG2 y6).all fun (r:List T)=>decide (r.length=3)) && decide ((BG2 y6).length*40 ≤ 140737488355328) && decide ((BG2 y6).length≤140737488355328)) (aI BGG (cM [aF true aB y6,aF true aK a1]) fun (y10:Int)=>aD (!decide (y10=0)) (BH4 R y10) (R (T.bZ [aF true aB y6, T.v (.int .i64 0)])))
def AFZ(a0:aC)(a1:aH)(a2:dG)(R:T→Prop):Prop:=aI [(true,aM)] (vA [(aF true aM (12,a2))]) fun (y0:aX)=>aI BGI (cS [(aF true aM (12,a2)), aF true aM y0]) fun (y1:Bool)=>aD (!y1) (BHM R) (aZ (Int×PUnit) (fun X2 s3=>aD (decide (s3.1<(↑(BG2 a0).length:Int))) (aP aR (BG2 a0) s3.1 fun (y4:cX)=>aD (decide (a2.2.2.2.2.2.2.1=y4.1) && (decide (a2.2.2.2.2.2.2.2.1=y4.2.1) && (decide (a2.2.2.2.2.2.2.2.2=y4.2.2)&&true))) (aD (!decide (0≤s3.1)) (BHU R) (aI BGI (j4 [aF true aB a0, (aF true aM (12,a2))]) fun (y5:Bool)=>aD y5 (BIB R) (aI [(true,aB)] (eP [aF true aB a0]) fun (y6:aC)=>aZ (Int×PUnit) (fun X7 s8=>aD (decide (s8.1<(↑(BG2 y6).length:Int))) (aP aR (BG2 y6) s8.1 fun (y9:cX)=>aD (decide (y9.1=a2.2.2.2.2.2.2.1) && (decide (y9.2.1=a2.2.2.2.2.2.2.2.1) && (decide (y9.2.2=a2.2.2.2.2.2.2.2.2)&&true))) (aD (decide (s8.1<0)) (BHS y6 a1 R) (bQ (((BG2 y6).all fun (r:List T)=>decide (r.length=3)) && decide ((BG2 y6).length*40 ≤ 140737488355328) && decide ((BG2 y6).length≤140737488355328)) (eV aR (zG (BG2 y6) (BHR s8)) fun (y11:List cX)=>BG6 y6 y11 a1 R))) (BG4 X7 s8)) (BHS y6 a1 R)) (0,())))) (BG4 X2 s3)) (BHU R)) (0,()))
theorem AOP ( a0 a1 a2 R):dY bR Tryz.prog AE3 AVQ 8 104 (BT a0 a1 a2) R=AFZ a0 a1 a2 R:=by kernel_rfl
noncomputable def XZ:oD→Option T:=DN 12
theorem AEU (x y:oD) (h:BT x.1 x.2.1 x.2.2=BT y.1 y.2.1 y.2.2):x=y:=lI 12 x y h
noncomputable def AHZ:List T→Option (T):=gA (fun (x:aC×aH×dG)=>BT x.1 x.2.1 x.2.2) XZ
theorem AQO (a0:aC) (a1:aH) (a2:dG):AHZ (BT a0 a1 a2)=XZ (a0,a1,a2):=eN (A:=(fun (x:aC×aH×dG)=>BT x.1 x.2.1 x.2.2)) AEU (a0,a1,a2)
theorem A6D (h:∀ (a0:aC) (a1:aH) (a2:dG) (r:T),XZ (a0,a1,a2)=some r→(∀ t∈BT a0 a1 a2,Bd t)→AFZ a0 a1 a2 (fun y=>y=r)):aN Tryz.prog 104 AHZ :=
 cK (E:=AE3) (Hs:=AVQ) ATS aQ aS (aL rfl) 8 ⟨_,_,Tryz.func104,rfl⟩ fun x r h1 h2=>by
  rw[AOP]
  exact h x.1 x.2.1 x.2.2 r h1 h2
theorem A48:aN Tryz.prog 104 AHZ:=A6D fun d m x r h hb=>by
 clear hb
 obtain ⟨hp,rfl⟩:=sF h
 clear h
 obtain ⟨hc,ho1,ho2⟩:=FI hp
 have c:=fI hc
 have is:∀ {a:aC×Int},cA d m (12,x)=a→Sh.enc [(true,aB),(false,.int .i64)] a=Sh.enc [(true,aB),(false,.int .i64)] (cA d m (12,x)):=fun h=>by rw[h]
 have hk:(1:Int)≤((12,x):aX).1∧((12,x):aX).1≤12:=by dsimp only;omega
 have h5:¬ ((12,x):aX).1=5:=by dsimp only;omega
 have lift:∀ {a:aC×Int},cA d m (12,x)=a→∀ v,v=Sh.enc [(true,aB),(false,.int .i64)] a→v=Sh.enc [(true,aB),(false,.int .i64)] (cA d m (12,x)):=fun h v hv=>by rw[h];exact hv
 unfold AFZ BIB BHU BHS BHR BHM BG6 BH4 BG4 BG2 BGI BGG BGF
 have z1:vA [aF true aM (12,x)]=some (Sh.enc [(true,aM)] (dO (12,x))):=(SY ..).trans rfl
 refine aG (s:=[(true,aM)]) (y:=dO (12,x)) z1 ?_
 have z2:cS [aF true aM (12,x),aF true aM (dO (12,x))]=some (Sh.enc o5 (nH (12,x) (dO (12,x)))):=qN ..
 refine aG (s:=o5) (y:=nH (12,x) (dO (12,x))) z2 ?_
 refine jS (fun h=>lift (DZ hk h) _ rfl) fun hE=>?_
 have hd:=w8 (r:=aR) (l:=d.2.2.2.2.2) (z:=3) (b:=40) rfl (dU c.r (by decide))
 have pos:∀ {k:Nat},¬ (0≤(k:Int))→False:=fun h=>h (by omega)
 have hus:r6 d (12,x)=false:=rfl
 refine cU (r:=aR) (fun n=>decide (n=o2 (12,x))) (oY c.r) (fun X k y hlt hy hp hn=>?_) (fun _ h0=>lift (M7 hk h5 hE rfl h0) _ rfl)
 dsimp only
 refine ifC (fun h=>?_) fun h=>hn (decide_eq_false fun e=>h (zL.2 e.symm))
 obtain ⟨_,h2⟩:=hp (decide_eq_true (zL.1 h).symm)
 have hth:iT d (12,x) = !nL (12,x):=h2
 refine jS (fun h=>(pos (of_decide_eq_false h)).elim) fun _=>?_
 have z4:j4 [aF true aB d,aF true aM (12,x)]=some (Sh.enc o5 (r6 d (12,x))):=(JT ..).trans rfl
 refine aG (s:=o5) (y:=r6 d (12,x)) z4 ?_
 refine BH (fun h=>absurd h (by rw[hus];decide)) fun _=>?_
 refine aG (s:=[(true,aB)]) (y:=d) ((tC ..).trans (fJ hc)) ?_
 clear hp hn
 refine cU (r:=aR) (fun n=>decide (n=o2 (12,x))) (oY c.r) (fun X k y hk' hy hp hn=>?_) (fun h h3=>?_)
 ·dsimp only
  refine ifC (fun h=>?_) fun h=>hn (decide_eq_false fun e=>h (zL.2 e))
  obtain ⟨hi,_⟩:=hp (decide_eq_true (zL.1 h))
  refine cF (fun h=>by omega) fun _=>⟨hd,?_⟩
  have eD:A0 d (12,x)=(d.1,d.2.1,d.2.2.1,d.2.2.2.1,d.2.2.2.2.1,d.2.2.2.2.2.take k++d.2.2.2.2.2.drop (k+1)):=by
   show (d.1,d.2.1,d.2.2.1,d.2.2.2.1,d.2.2.2.2.1,mE (fun n=>decide (n=o2 (12,x))) d.2.2.2.2.2)=_
   unfold mE;rw[hi]
  refine eE (r:=aR) (l:=d.2.2.2.2.2.take k++d.2.2.2.2.2.drop (k+1)) (HF (r:=aR) rfl hk' c.r) _ ?_
  have z5:cM [aF true aB (d.1,d.2.1,d.2.2.1,d.2.2.2.1,d.2.2.2.2.1,d.2.2.2.2.2.take k++d.2.2.2.2.2.drop (k+1)),aF true aK m]=some (Sh.enc [(false,Sy.int .i64)] (mL (d.1,d.2.1,d.2.2.1,d.2.2.2.1,d.2.2.2.2.1,d.2.2.2.2.2.take k++d.2.2.2.2.2.drop (k+1)) m)):=nP ..
  refine aG (s:=[(false,.int .i64)]) (y:=mL (A0 d (12,x)) m) (by rw[eD];exact z5) ?_
  exact mA (fun h=>lift ((uK hk h5 hE hth hus).trans (if_neg h)) _ rfl) fun h=>lift ((uK hk h5 hE hth hus).trans (if_pos h)) _ (by rw[eD];rfl)
 ·exfalso
  have:=h2.symm.trans h3
  cases this
end Go.Pv
namespace Go.Pv
open Go Go.Proofs
theorem ALF {α:Type} {is:α→Bool} {f:α→α} {l:List α} {k:Nat} (hk:k<l.length) (h:l.findIdx is=k):atI is f l=l.set k (f l[k]):=by
 unfold atI
 rw[h]
 refine List.ext_getElem (by simp) fun i h1 h2=>?_
 rw[List.getElem_modify,List.getElem_set]
 by_cases e:k=i
 ·subst e;simp
 ·simp[e]
theorem AM4 {r:Sy} {l:List r.den} {k:Nat} {y:r.den} {row:List T} (h:row=r.enc y):(List.map r.enc l).set k row=List.map r.enc (l.set k y):=by rw[h,List.map_set]
theorem T3 {α:Type}:∀ (s pre r:List α),r.length=s.length→bP (pre++r) pre.length s=pre++s
 | [],pre,[],_=>rfl
 | [],_,_::_,h=>by cases h
 | _::_,_,[],h=>by cases h
 | x::s,pre,a::r,h=>by
  unfold bP
  rw[show (pre++a::r).set pre.length x=(pre++[x])++r by simp,show pre.length+1=(pre++[x]).length by simp,T3 s (pre++[x]) r (by simpa using h)]
  simp
theorem AKT {α:Type} (r s:List α) (h:r.length=s.length):bP r 0 s=s:=T3 s [] r h
theorem AD5 {d:aC} {id:ByteArray} (h:(partOf d id).isSome=true):d.2.2.1≠[]:=by
 intro e
 unfold partOf at h
 rw[e] at h
 cases h
theorem AD4 {d:aC} {id:ByteArray} (h:(partOf d id).isSome=true):d.2.2.1.any (fun p=>eU id p)=true:=by
 unfold partOf at h
 rw[List.find?_isSome] at h
 obtain ⟨p,hp,h⟩:=h
 exact List.any_eq_true.2 ⟨p,hp,h⟩
theorem TT {d:aC} {n:Nat} (h:d.2.2.1≠[]) (hn:n=aJ.w):(!(List.map aJ.enc d.2.2.1).isEmpty&&fE n (List.map aJ.enc d.2.2.1))=true:=by
 subst hn
 rw[Bool.and_eq_true]
 refine ⟨?_,sS ..⟩
 cases hl:d.2.2.1 with
 | nil=>exact absurd hl h
 | cons a l=>rfl
def LL (a0:aC) (a1:aH) (a2:dG):List T:=[aF true aB a0,aF true aK a1,aF true aM (6,a2)]
noncomputable def AS7:Env:=Env.of [(135,.pure cS),(233,.pure S0),(136,.pure lJ),(227,.pure j4),(167,.pure iL),(137,.part 2 OE),(20,.pure cM)]
def A7P:FuncId→Hint:=bX 229 [(2,.inv [.val 8 false (.int .i64)])] (fun _=>bI)
theorem A3K:aT Tryz.prog AS7:=.cons jJ (.cons BAF (.cons EC (.cons sY (.cons uX (.cons ALS (.cons jX (.nil _)))))))
def BH6(y3:aC)(y12:List T)(a2:dG):List T:=[T.v (.string y3.1), T.sl false (BHB y3), T.sl false ((BG5 y3).set (-1).toNat (bP y12 3 [T.v (.string a2.2.1)])), T.sl false (BG8 y3), T.sl false (BG3 y3), T.sl false (BG2 y3)]
def BIA(y3:aC)(s5:Int×PUnit)(y9:List T)(a2:dG):List T:=[T.v (.string y3.1), T.sl false (BHB y3), T.sl false ((BG5 y3).set (Int.toNat s5.1) (bP y9 3 [T.v (.string a2.2.1)])), T.sl false (BG8 y3), T.sl false (BG3 y3), T.sl false (BG2 y3)]
def AUC(a0:aC)(a1:aH)(a2:dG)(R:T→Prop):Prop:=aI [(true,aM)] (S0 [(aF true aM (6,a2))]) fun (y0:aX)=>aI BGI (cS [(aF true aM (6,a2)), aF true aM y0]) fun (y1:Bool)=>aD (!y1) (BHM R) (aI BGR (lJ (BIQ a0 a2)) fun (y2:bC×Bool)=>aD (!y2.2) (BHU R) (aI [(true,aB)] (OE [aF true aB a0]) fun (y3:aC)=>bQ (!(BG5 y3).isEmpty && fE (1+(1+(1+(1+(1+(1+(1+1+(1+(1+(1+(1+(1+1)+(1+(1+1)+1)))))))))))) (BG5 y3)) (aZ (Int×PUnit) (fun X4 s5=>aD (decide (s5.1<(↑(BG5 y3).length:Int))) (aP aJ (BG5 y3) s5.1 fun (y6:bC)=>fR aJ (BG5 y3) (Int.toNat s5.1) 0 fun (y7:bC)=>aD (decide (y7.1=a2.1)) (aP aJ (BG5 y3) s5.1 fun (y8:bC)=>sJ (BG5 y3) (Int.toNat s5.1) fun (y9:List T)=>bQ (decide (4≤y9.length)) (aI BGG (cM [T.agg (BIA y3 s5 y9 a2), aF true aK a1]) fun (y10:Int)=>aD (!decide (y10=0)) (BH4 R y10) (R (T.bZ [T.agg (BIA y3 s5 y9 a2), T.v (.int .i64 0)])))) (BG4 X4 s5)) (aP aJ (BG5 y3) (-1) fun (y11:bC)=>sJ (BG5 y3) (-1).toNat fun (y12:List T)=>bQ (decide (4≤y12.length)) (aI BGG (cM [T.agg (BH6 y3 y12 a2), aF true aK a1]) fun (y13:Int)=>aD (!decide (y13=0)) (BH4 R y13) (R (T.bZ [T.agg (BH6 y3 y12 a2), T.v (.int .i64 0)]))))) (0,()))))
theorem AUD ( a0 a1 a2 R):dY bR Tryz.prog AS7 A7P 8 104 (LL a0 a1 a2) R=AUC a0 a1 a2 R:=by kernel_rfl
noncomputable def AKF:oD→Option T:=DN 6
theorem ANK (x y:oD) (h:LL x.1 x.2.1 x.2.2=LL y.1 y.2.1 y.2.2):x=y:=lI 6 x y h
noncomputable def AYG:List T→Option (T):=gA (fun (x:aC×aH×dG)=>LL x.1 x.2.1 x.2.2) AKF
theorem AYH (a0:aC) (a1:aH) (a2:dG):AYG (LL a0 a1 a2)=AKF (a0,a1,a2):=eN (A:=(fun (x:aC×aH×dG)=>LL x.1 x.2.1 x.2.2)) ANK (a0,a1,a2)
theorem BBO (h:∀ (a0:aC) (a1:aH) (a2:dG) (r:T),AKF (a0,a1,a2)=some r→(∀ t∈LL a0 a1 a2,Bd t)→AUC a0 a1 a2 (fun y=>y=r)):aN Tryz.prog 104 AYG :=
 cK (E:=AS7) (Hs:=A7P) A3K aQ aS (aL rfl) 8 ⟨_,_,Tryz.func104,rfl⟩ fun x r h1 h2=>by
  rw[AUD]
  exact h x.1 x.2.1 x.2.2 r h1 h2
theorem A9Q:aN Tryz.prog 104 AYG:=BBO fun d m x r h hb=>by
 clear hb
 obtain ⟨hp,rfl⟩:=sF h
 clear h
 obtain ⟨hc,ho1,ho2⟩:=FI hp
 have c:=fI hc
 have hk:(1:Int)≤((6,x):aX).1∧((6,x):aX).1≤12:=by dsimp only;omega
 have lift:∀ {a:aC×Int},cA d m (6,x)=a→∀ v,v=Sh.enc [(true,aB),(false,.int .i64)] a→v=Sh.enc [(true,aB),(false,.int .i64)] (cA d m (6,x)):=fun h v hv=>by rw[h];exact hv
 unfold AUC BIQ BIA BH6 BHU BHM BHB BG8 BH4 BG5 BG3 BG4 BG2 BGR BGI BGG BGF
 have z1:S0 [aF true aM (6,x)]=some (Sh.enc [(true,aM)] (dO (6,x))):=(AY6 ..).trans rfl
 refine aG (s:=[(true,aM)]) (y:=dO (6,x)) z1 ?_
 have z2:cS [aF true aM (6,x),aF true aM (dO (6,x))]=some (Sh.enc o5 (nH (6,x) (dO (6,x)))):=qN ..
 refine aG (s:=o5) (y:=nH (6,x) (dO (6,x))) z2 ?_
 refine jS (fun h=>lift (DZ hk h) _ rfl) fun hE=>?_
 have h5:¬ ((6,x):aX).1=5:=by dsimp only;omega
 refine aG (s:=[(true,aJ),(false,.bool)]) (y:=found dQ (partOf d (iE (6,x)))) ((qL ..).trans (by unfold lE;dsimp only;rw[c.DF];rfl)) ?_
 have ht:iT d (6,x)=(found dQ (partOf d (iE (6,x)))).2:=(pP ..).symm
 refine jS (fun h=>lift (M7 hk h5 hE rfl (ht.trans h)) _ rfl) fun h=>?_
 have hth:iT d (6,x) = !nL (6,x):=ht.trans h
 have hus:r6 d (6,x)=false:=rfl
 have hso:(partOf d (iE (6,x))).isSome=true:=(pP ..).symm.trans h
 refine aG (s:=[(true,aB)]) (y:=d) ((tC ..).trans (fJ hc)) ⟨TT (AD5 hso) rfl,?_⟩
 refine cU (r:=aJ) (fun p=>eU (iE (6,x)) p) (oY c.p) (fun X k y hlt hy hp hn=>?_) (fun h0 ha=>absurd (AD4 hso) (by rw[ha];exact Bool.false_ne_true))
 rw[show Int.toNat (k:Int)=k from rfl,iQ (r:=aJ) hlt]
 refine cF (fun he=>?_) fun he=>hn (by subst hy;exact decide_eq_false he)
 obtain ⟨hidx,_⟩:=hp (by subst hy;exact decide_eq_true he)
 rw[bG (r:=aJ) hlt,nC (r:=aJ) hlt]
 refine ⟨by rw[Sy.cP];rfl,?_⟩
 have hD:A0 d (6,x)=(d.1,d.2.1,d.2.2.1.set k (A55 d.2.2.1[k] (eTo (6,x))),d.2.2.2):=by
  have e:A0 d (6,x)=(d.1,d.2.1,atI (eU (iE (6,x))) (fun p=>A55 p (eTo (6,x))) d.2.2.1,d.2.2.2):=rfl
  rw[e,ALF hlt hidx]
 have hs:(List.map aJ.enc d.2.2.1).set k (bP (aJ.enc d.2.2.1[k]) 3 [T.v (.string x.2.1)])=List.map aJ.enc (d.2.2.1.set k (A55 d.2.2.1[k] (eTo (6,x)))):=AM4 (r:=aJ) rfl
 rw[hs]
 have z3:=nP (a0:=A0 d (6,x)) (a1:=m)
 have hchk:=uK (m:=m) hk h5 hE hth hus
 rw[hD] at z3 hchk
 refine aG (s:=[(false,.int .i64)]) z3 ?_
 exact mA (fun h=>lift (hchk.trans (if_neg h)) _ rfl) fun h=>lift (hchk.trans (if_pos h)) _ rfl
def LK (a0:aC) (a1:aH) (a2:dG):List T:=[aF true aB a0,aF true aK a1,aF true aM (5,a2)]
noncomputable def AS6:Env:=Env.of [(135,.pure cS),(225,.pure SZ),(136,.pure lJ),(227,.pure j4),(167,.pure iL),(137,.part 2 OE),(20,.pure cM)]
def A7O:FuncId→Hint:=bX 229 [(2,.inv [.val 8 false (.int .i64)])] (fun _=>bI)
theorem A3J:aT Tryz.prog AS6:=.cons jJ (.cons BAE (.cons EC (.cons sY (.cons uX (.cons ALS (.cons jX (.nil _)))))))
def BG1(y9:bC)(y11:Int):List T:=[T.v (.string y9.1), T.v (.int .i64 (IntKind.i64.wrap (y11+1))), T.v (.int .i64 y9.2.2.1), T.v (.string y9.2.2.2.1), T.v (.string y9.2.2.2.2.1), T.v (.int .i64 y9.2.2.2.2.2.1), T.sl false (List.map aA.enc y9.2.2.2.2.2.2.1.1), T.sl false (List.map aA.li.enc y9.2.2.2.2.2.2.1.2), T.v (.string y9.2.2.2.2.2.2.2.1), T.v (.int .i64 y9.2.2.2.2.2.2.2.2.1), T.v (.int .i64 y9.2.2.2.2.2.2.2.2.2.1), T.v (.int .i64 y9.2.2.2.2.2.2.2.2.2.2.1.1), T.v (.int .i64 y9.2.2.2.2.2.2.2.2.2.2.1.2.1), T.v (.int .i64 y9.2.2.2.2.2.2.2.2.2.2.1.2.2), T.v (.int .i64 y9.2.2.2.2.2.2.2.2.2.2.2.1.1), T.v (.int .i64 y9.2.2.2.2.2.2.2.2.2.2.2.1.2.1), T.v (.int .i64 y9.2.2.2.2.2.2.2.2.2.2.2.1.2.2), T.v (.int .i64 y9.2.2.2.2.2.2.2.2.2.2.2.2)]
def BIF(y4:aC)(y19:List T)(y15:bC)(y17:Int):List T:=[T.v (.string y4.1), T.sl false (BHB y4), T.sl false ((BG5 y4).set (-1).toNat (bP y19 0 (BG1 y15 y17))), T.sl false (BG8 y4), T.sl false (BG3 y4), T.sl false (BG2 y4)]
def BIK(y4:aC)(s6:Int×PUnit)(y13:List T)(y9:bC)(y11:Int):List T:=[T.v (.string y4.1), T.sl false (BHB y4), T.sl false ((BG5 y4).set (Int.toNat s6.1) (bP y13 0 (BG1 y9 y11))), T.sl false (BG8 y4), T.sl false (BG3 y4), T.sl false (BG2 y4)]
def AUA(a0:aC)(a1:aH)(a2:dG)(R:T→Prop):Prop:=aI [(true,aM)] (SZ [(aF true aM (5,a2))]) fun (y0:aX)=>aI BGI (cS [(aF true aM (5,a2)), aF true aM y0]) fun (y1:Bool)=>aD (!y1) (BHM R) (aD (!decide (a2.2.2.2.1.2.1=0)) (BHM R) (aI BGR (lJ (BIY a0 a2)) fun (y2:bC×Bool)=>aD (!y2.2) (BHU R) (aI BGR (lJ (BIY a0 a2)) fun (y3:bC×Bool)=>aD (!decide (y3.1.2.2.2.1=a2.2.2.2.1.2.2.2.1)) (BHM R) (aI [(true,aB)] (OE [aF true aB a0]) fun (y4:aC)=>bQ (!(BG5 y4).isEmpty && fE (1 + (1+(1+(1+(1+(1+(1+1+(1+(1+(1+(1+(1+1)+(1+(1+1)+1)))))))))))) (BG5 y4)) (aZ (Int×PUnit) (fun X5 s6=>aD (decide (s6.1<(↑(BG5 y4).length:Int))) (aP aJ (BG5 y4) s6.1 fun (y7:bC)=>fR aJ (BG5 y4) (Int.toNat s6.1) 0 fun (y8:bC)=>aD (decide (y8.1=a2.2.2.2.1.1)) (aI [(true,aJ)] (iL [aF true aJ a2.2.2.2.1]) fun (y9:bC)=>aP aJ (BG5 y4) s6.1 fun (y10:bC)=>fR BGM (BG5 y4) (Int.toNat s6.1) 1 fun (y11:Int)=>aP aJ (BG5 y4) s6.1 fun (y12:bC)=>sJ (BG5 y4) (Int.toNat s6.1) fun (y13:List T)=>bQ (decide (18≤y13.length)) (aI BGG (cM [T.agg (BIK y4 s6 y13 y9 y11), aF true aK a1]) fun (y14:Int)=>aD (!decide (y14=0)) (BH4 R y14) (R (T.bZ [T.agg (BIK y4 s6 y13 y9 y11), T.v (.int .i64 0)])))) (BG4 X5 s6)) (aI [(true,aJ)] (iL [aF true aJ a2.2.2.2.1]) fun (y15:bC)=>aP aJ (BG5 y4) (-1) fun (y16:bC)=>fR BGM (BG5 y4) (-1).toNat 1 fun (y17:Int)=>aP aJ (BG5 y4) (-1) fun (y18:bC)=>sJ (BG5 y4) (-1).toNat fun (y19:List T)=>bQ (decide (18≤y19.length)) (aI BGG (cM [T.agg (BIF y4 y19 y15 y17), aF true aK a1]) fun (y20:Int)=>aD (!decide (y20=0)) (BH4 R y20) (R (T.bZ [T.agg (BIF y4 y19 y15 y17), T.v (.int .i64 0)]))))) (0,()))))))
theorem AUB ( a0 a1 a2 R):dY bR Tryz.prog AS6 A7O 8 104 (LK a0 a1 a2) R=AUA a0 a1 a2 R:=by kernel_rfl
noncomputable def AKE:oD→Option T:=DN 5
theorem ANJ (x y:oD) (h:LK x.1 x.2.1 x.2.2=LK y.1 y.2.1 y.2.2):x=y:=lI 5 x y h
noncomputable def AYE:List T→Option (T):=gA (fun (x:aC×aH×dG)=>LK x.1 x.2.1 x.2.2) AKE
theorem AYF (a0:aC) (a1:aH) (a2:dG):AYE (LK a0 a1 a2)=AKE (a0,a1,a2):=eN (A:=(fun (x:aC×aH×dG)=>LK x.1 x.2.1 x.2.2)) ANJ (a0,a1,a2)
theorem BBN (h:∀ (a0:aC) (a1:aH) (a2:dG) (r:T),AKE (a0,a1,a2)=some r→(∀ t∈LK a0 a1 a2,Bd t)→AUA a0 a1 a2 (fun y=>y=r)):aN Tryz.prog 104 AYE :=
 cK (E:=AS6) (Hs:=A7O) A3J aQ aS (aL rfl) 8 ⟨_,_,Tryz.func104,rfl⟩ fun x r h1 h2=>by
  rw[AUB]
  exact h x.1 x.2.1 x.2.2 r h1 h2
theorem A9P:aN Tryz.prog 104 AYE:=BBN fun d m x r h hb=>by
 clear hb
 obtain ⟨hp,rfl⟩:=sF h
 clear h
 obtain ⟨hc,ho1,ho2⟩:=FI hp
 have c:=fI hc
 have hk:(1:Int)≤((5,x):aX).1∧((5,x):aX).1≤12:=by dsimp only;omega
 have lift:∀ {a:aC×Int},cA d m (5,x)=a→∀ v,v=Sh.enc [(true,aB),(false,.int .i64)] a→v=Sh.enc [(true,aB),(false,.int .i64)] (cA d m (5,x)):=fun h v hv=>by rw[h];exact hv
 unfold AUA BIY BIK BIF BHU BHM BHB BG8 BH4 BG5 BG3 BG1 BG4 BG2 BGR BGM BGI BGG BGF
 have z1:SZ [aF true aM (5,x)]=some (Sh.enc [(true,aM)] (dO (5,x))):=(AY5 ..).trans rfl
 refine aG (s:=[(true,aM)]) (y:=dO (5,x)) z1 ?_
 have z2:cS [aF true aM (5,x),aF true aM (dO (5,x))]=some (Sh.enc o5 (nH (5,x) (dO (5,x)))):=qN ..
 refine aG (s:=o5) (y:=nH (5,x) (dO (5,x))) z2 ?_
 refine jS (fun h=>lift (DZ hk h) _ rfl) fun hE=>?_
 have hr:¬ (¬ (1≤((5,x):aX).1∧((5,x):aX).1≤12)):=fun h=>h hk
 refine mA (fun h=>lift (by unfold cA;rw[if_neg hr,if_pos (.inr ⟨rfl,h⟩)]) _ rfl) fun hrev=>?_
 have hpl:¬ (nH (5,x) (dO (5,x))=false∨(((5,x):aX).1=5∧¬ (dC (5,x)).2.1=0)):=fun h=>h.elim (fun e=>by rw[hE] at e;cases e) fun e=>e.2 hrev
 refine aG (s:=[(true,aJ),(false,.bool)]) (y:=found dQ (partOf d (dC (5,x)).1)) ((qL ..).trans (by unfold lE;dsimp only;rw[c.DF];rfl)) ?_
 have ht:iT d (5,x)=(found dQ (partOf d (dC (5,x)).1)).2:=(pP ..).symm
 have had:¬ (nL (5,x)=true∧iT d (5,x)=true):=fun h=>by cases h.1
 refine jS (fun h=>lift (by unfold cA;rw[if_neg hr,if_neg hpl,if_neg had,if_pos ⟨rfl,ht.trans h⟩]) _ rfl) fun h=>?_
 have hno:¬ (nL (5,x)=false∧iT d (5,x)=false):=fun e=>by rw[ht,h] at e;cases e.2
 have hso:(partOf d (dC (5,x)).1).isSome=true:=(pP ..).symm.trans h
 refine aG (s:=[(true,aJ),(false,.bool)]) (y:=found dQ (partOf d (dC (5,x)).1)) ((qL ..).trans (by unfold lE;dsimp only;rw[c.DF];rfl)) ?_
 refine mA (fun h=>lift (by unfold cA;rw[if_neg hr,if_neg hpl,if_neg had,if_neg hno,if_pos ⟨rfl,h⟩]) _ rfl) fun hnode=>?_
 have hnd:¬ (((5,x):aX).1=5∧¬ nK (found dQ (partOf d (dC (5,x)).1)).1=nK (dC (5,x))):=fun e=>e.2 hnode
 have hchk:cA d m (5,x)=if mL (A0 d (5,x)) m=0 then (A0 d (5,x),0) else (kX,mL (A0 d (5,x)) m):=by
  have hu:¬ r6 d (5,x)=true:=fun h=>by cases h
  unfold cA
  rw[if_neg hr,if_neg hpl,if_neg had,if_neg hno,if_neg hnd,if_neg hu]
 refine aG (s:=[(true,aB)]) (y:=d) ((tC ..).trans (fJ hc)) ⟨TT (AD5 hso) rfl,?_⟩
 refine cU (r:=aJ) (fun p=>eU (dC (5,x)).1 p) (oY c.p) (fun X k y hlt hy hp hn=>?_) (fun h0 ha=>absurd (AD4 hso) (by rw[ha];exact Bool.false_ne_true))
 rw[show Int.toNat (k:Int)=k from rfl,iQ (r:=aJ) hlt]
 refine cF (fun he=>?_) fun he=>hn (by subst hy;exact decide_eq_false he)
 obtain ⟨hidx,_⟩:=hp (by subst hy;exact decide_eq_true he)
 refine aG (s:=[(true,aJ)]) (y:=dC (5,x)) ((u5 ..).trans (by unfold jE;rw[ho1])) ?_
 rw[bG (r:=aJ) hlt]
 refine ⟨aJ.enc d.2.2.1[k],(d.2.2.1[k]).2.1,uQ.2 (List.getElem?_eq_getElem hlt),by rw[Sy.cP];decide,rfl,?_⟩
 dsimp only
 rw[bG (r:=aJ) hlt,nC (r:=aJ) hlt]
 refine ⟨by rw[Sy.cP];rfl,?_⟩
 have hD:A0 d (5,x)=(d.1,d.2.1,d.2.2.1.set k (A7A (dC (5,x)) d.2.2.1[k]),d.2.2.2):=by
  have e:A0 d (5,x)=(d.1,d.2.1,atI (eU (dC (5,x)).1) (A7A (dC (5,x))) d.2.2.1,d.2.2.2):=rfl
  rw[e,ALF hlt hidx]
 generalize hrow:bP (aJ.enc d.2.2.1[k]) 0 _=row
 have hs:(List.map aJ.enc d.2.2.1).set k row=List.map aJ.enc (d.2.2.1.set k (A7A (dC (5,x)) d.2.2.1[k])):=AM4 (r:=aJ) (by rw[←hrow,AKT _ _ (by rw[Sy.cP];rfl)];rfl)
 rw[hs]
 have z3:=nP (a0:=A0 d (5,x)) (a1:=m)
 rw[hD] at z3 hchk
 refine aG (s:=[(false,.int .i64)]) z3 ?_
 exact mA (fun h=>lift (hchk.trans (if_neg h)) _ rfl) fun h=>lift (hchk.trans (if_pos h)) _ rfl
end Go.Pv
namespace Go.Pv
open Go Go.Proofs
end Go.Pv
namespace Go.Pv
open Go Go.Proofs
def AT1(a0:aC)(a1:aH)(a2:aX)(R:T→Prop):Prop:=aD (decide (a2.1=1)) (aD (decide (a2.1=1)) (q0 72) (q0 72)) (aD (decide (a2.1=2)) (aD (decide (a2.1=1)) (q0 72) (q0 72)) (aD (decide (a2.1=3)) (aD (decide (a2.1=3)) (q0 72) (q0 72)) (aD (decide (a2.1=4)) (aD (decide (a2.1=3)) (q0 72) (q0 72)) (aD (decide (a2.1=5)) (q0 72) (aD (decide (a2.1=6)) (q0 72) (aD (decide (a2.1=7)) (aD (decide (a2.1=7)) (q0 72) (q0 72)) (aD (decide (a2.1=8)) (aD (decide (a2.1=7)) (q0 72) (q0 72)) (aD (decide (a2.1=9)) (aD (decide (a2.1=9)) (q0 72) (q0 72)) (aD (decide (a2.1=10)) (aD (decide (a2.1=9)) (q0 72) (q0 72)) (aD (decide (a2.1=11)) (q0 72) (aD (decide (a2.1=12)) (q0 72) (R (T.bZ [T.agg [T.v (.string {data:=#[]}),T.sl false [],T.sl false [], T.sl false [],T.sl false [],T.sl false []], T.v (.int .i64 10)])))))))))))))
abbrev A14:Sh:=[(true,aB),(true,aK),(true,aM)]
def IW (x:aC×aH×aX):Option T:=if 1≤x.2.2.1∧x.2.2.1≤12 then none else some (Sh.enc [(true,aB),(false,.int .i64)] (kX,10))
noncomputable def AX4:List T→Option T:=gS A14 IW
theorem AX5 {a0 a1 a2}:AX4 [aF true aB a0,aF true aK a1,aF true aM a2]=IW (a0,a1,a2):=bE (s:=A14) rfl (a0,a1,a2) rfl
theorem BBI:Of3 Tryz.prog 104 AX4 IW (cC A14) AT1:=RE (a1:=(true,aB)) (a2:=(true,aK)) (a3:=(true,aM)) (sp:=IW) (F:=AT1) (Hs:=dI) (f:=104) (k:=2) (bW _) aQ aS (aL rfl) ⟨_,_,Tryz.func104,rfl⟩ rfl fun _ _ _ _=>by kernel_rfl
theorem A9L:aN Tryz.prog 104 AX4:=BBI fun d m x r h hb=>by
 clear hb
 unfold IW at h
 split at h
 ·cases h
 rename_i hk
 cases h
 have hk:¬ (1≤x.1∧x.1≤12):=hk
 unfold AT1
 refine cF (fun h=>absurd (by omega) hk) fun _=>?_
 refine cF (fun h=>absurd (by omega) hk) fun _=>?_
 refine cF (fun h=>absurd (by omega) hk) fun _=>?_
 refine cF (fun h=>absurd (by omega) hk) fun _=>?_
 refine cF (fun h=>absurd (by omega) hk) fun _=>?_
 refine cF (fun h=>absurd (by omega) hk) fun _=>?_
 refine cF (fun h=>absurd (by omega) hk) fun _=>?_
 refine cF (fun h=>absurd (by omega) hk) fun _=>?_
 refine cF (fun h=>absurd (by omega) hk) fun _=>?_
 refine cF (fun h=>absurd (by omega) hk) fun _=>?_
 refine cF (fun h=>absurd (by omega) hk) fun _=>?_
 refine cF (fun h=>absurd (by omega) hk) fun _=>?_
 rfl
def KR (x:aC×aH×aX):List T:=[aF true aB x.1,aF true aK x.2.1,aF true aM x.2.2]
noncomputable def FX (x:aC×aH×aX):Option T:=match okX x.1 x.2.2 with
 | true=>some (Sh.enc [(true,aB),(false,.int .i64)] (cA x.1 x.2.1 x.2.2))
 | false=>none
noncomputable def EG:List T→Option T:=gA KR FX
theorem Y2 (x y:aC×aH×aX) (h:KR x=KR y):x=y:=by
 simp only[KR,List.cons.injEq,and_true] at h
 obtain ⟨h1,h2,h3⟩:=h
 exact Prod.ext (mN (r:=aB) rfl h1) (Prod.ext (mN (r:=aK) rfl h2) (mN (r:=aM) rfl h3))
theorem AH0 (d:aC) (m:aH) (x:aX):EG [aF true aB d,aF true aK m,aF true aM x]=FX (d,m,x):=eN Y2 (d,m,x)
theorem AXI:aN Tryz.prog 104 EG:=⟨AXH.entry,fun w own args vs r hG ho ha hg=>by
 obtain ⟨⟨d,m,k,x⟩,rfl,h⟩:=uY hg
 unfold FX at h
 dsimp only at h
 clear hg
 by_cases c1:k=1
 ·subst c1;exact AXH.calls w own _ vs r hG ho ha ((AX7 d m x).trans h)
 by_cases c2:k=2
 ·subst c2;exact A9M.calls w own _ vs r hG ho ha ((AX9 d m x).trans h)
 by_cases c3:k=3
 ·subst c3;exact A9N.calls w own _ vs r hG ho ha ((AYB d m x).trans h)
 by_cases c4:k=4
 ·subst c4;exact A9O.calls w own _ vs r hG ho ha ((AYD d m x).trans h)
 by_cases c5:k=5
 ·subst c5;exact A9P.calls w own _ vs r hG ho ha ((AYF d m x).trans h)
 by_cases c6:k=6
 ·subst c6;exact A9Q.calls w own _ vs r hG ho ha ((AYH d m x).trans h)
 by_cases c7:k=7
 ·subst c7;exact A9R.calls w own _ vs r hG ho ha ((AYJ d m x).trans h)
 by_cases c8:k=8
 ·subst c8;exact A9S.calls w own _ vs r hG ho ha ((AYL d m x).trans h)
 by_cases c9:k=9
 ·subst c9;exact A9T.calls w own _ vs r hG ho ha ((AYN d m x).trans h)
 by_cases c10:k=10
 ·subst c10;exact A46.calls w own _ vs r hG ho ha ((AQM d m x).trans h)
 by_cases c11:k=11
 ·subst c11;exact A47.calls w own _ vs r hG ho ha ((AQN d m x).trans h)
 by_cases c12:k=12
 ·subst c12;exact A48.calls w own _ vs r hG ho ha ((AQO d m x).trans h)
 have hn:¬ (1≤k∧k≤12):=by omega
 have hr:some (Sh.enc [(true,aB),(false,.int .i64)] (cA d m (k,x)))=some r:=by
  split at h
  ·exact h
  ·cases h
 refine A9L.calls w own _ vs r hG ho ha ((AX5 (a0:=d) (a1:=m) (a2:=(k,x))).trans ?_)
 rw[←hr]
 unfold IW cA
 rw[if_neg hn,if_pos hn]⟩
end Go.Pv
