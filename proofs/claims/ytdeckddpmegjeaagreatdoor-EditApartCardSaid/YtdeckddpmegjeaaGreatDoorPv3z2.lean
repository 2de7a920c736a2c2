/-
  poly.Where; region: edges, within, apart, Check, Area2.
  region: Check, Area2.
  vec.Valid; material: Check, Grade, Rolled.
  part: Check, Mass.
  Chapter 17: the tree's parts and packages in full.
  Chapter 17: the tree's packages in full.
  Chapter 17: Check where the parts and packages are empty ones; StructureLong, walked.
  Chapter 17: structure.Check in full.
  What an edit does to a design, in plain words.
  The reference's material.Check.
  R17.Has.
  The form of a design, as the reference looks at it.
  The closures of edit.kinds: what they come to.
  edit.Apply, the kinds 5 and 6 (the copied parts are turned in place).
-/
import Derived.Test.YtdeckddpmegjeaaGreatDoorPv3z1
import Derived.Sort.Walk0
import Derived.Test.YtdeckddpmegjeaaGreatDoorPv3kp
set_option linter.defProp false
set_option linter.unusedSimpArgs false
set_option linter.unusedVariables false
set_option maxRecDepth 100000
namespace Go.Pv
open Go Go.Proofs
def AIS (p:List Pt) (q:Pt):Bool:=(List.range p.length).any fun i=>T7 (pt p i) (nx p i) q
def iF (p:List Pt) (q:Pt):Int:=if ¬ dF q∨¬ j9 p=0 then -1 else if AIS p q=true then 0 else if A3I p q=true then 1 else -1
theorem xI {n:Nat} {f:Nat→Bool}:(List.range n).any f=true↔∃ i,i<n∧f i=true:=by simp[List.any_eq_true,List.mem_range]
theorem ADH {n:Nat} {f:Nat→Bool} (h:∀ i,i<n→f i=false):(List.range n).any f=false:=by
 rw[Bool.eq_false_iff];intro ha
 obtain ⟨i,hi,h2⟩:=xI.1 ha
 rw[h i hi] at h2;cases h2
theorem AWH {a b q:Pt} (ho:T7 a b q=false):hit a b q=(!(decide (q.2<a.2) == decide (q.2<b.2))&&(decide (0<dL a b q) == decide (a.2<b.2))):=by
 rcases Int.lt_or_le q.2 a.2 with h1|h1
 ·rcases Int.lt_or_le q.2 b.2 with h2|h2
  ·unfold hit;simp[show ¬ a.2≤q.2 by omega,show ¬ b.2≤q.2 by omega,h1,h2]
  ·have hz:dL a b q≠0:=fun h=>by
    have:=A4M (a:=b) (b:=a) (q:=q) (by rw[KT a b q,h];rfl) (by omega) h2 (by omega)
    rw[A4L] at this;rw[this] at ho;cases ho
   have h3:decide (0<dL a b q) = !decide (dL a b q<0):=by
    rcases Int.lt_or_le (dL a b q) 0 with h|h
    ·rw[decide_eq_true h,decide_eq_false (by omega)];rfl
    ·rw[decide_eq_false (show ¬ dL a b q<0 by omega),decide_eq_true (by omega)];rfl
   unfold hit
   rw[h3]
   simp[show ¬ a.2≤q.2 by omega,h1,h2,show ¬ q.2<b.2 by omega,show ¬ a.2<b.2 by omega]
 ·rcases Int.lt_or_le q.2 b.2 with h2|h2
  ·unfold hit;simp[h1,show ¬ q.2<a.2 by omega,h2,show ¬ b.2≤q.2 by omega,show a.2<b.2 by omega]
  ·unfold hit;simp[show ¬ q.2<a.2 by omega,show ¬ q.2<b.2 by omega]
noncomputable def AP3:Env:=Env.of [(301,.pure gJ),(323,.pure AZ),(346,.pure wH),(341,.pure fQ)]
def AS1:FuncId→Hint:=bX 329 [(5,.inv [.val 5 false .bool,.val 19 false (.int .i64)])] (fun _=>aZ)
theorem AB5:aT Tryz.prog AP3:=.cons AS (.cons AH3 (.cons AUU (.cons xS (.nil _))))
def BFF:Sh:=[(false,Sy.int IntKind.i64)]
def BFG:Sh:=[(false,Sy.bool)]
def BFH:T:=T.v (.int .i64 0)
def BFN:T:=T.v (.int .i64 (-1))
def BFR:T:=T.v (.int .i64 1)
def BGH(a0:List aP):List (List T):=List.map aA.enc a0
def JS(a0:List aP)(a1:aP)(R:T→Prop):Prop:=aJ BFG (AZ [aI true aA a1]) fun (y0:Bool)=>aC y0 (R BFN) (aJ BFF (gJ [T.sl false (BGH a0)]) fun (y1:Int)=>aC (!decide (y1=0)) (R BFN) (bA (Bool×Int×PUnit) (fun X2 s3=>aC (decide (s3.2.1<(↑(BGH a0).length:Int))) (aR aA (BGH a0) s3.2.1 fun (y4:aP)=>bN (!decide ((↑(BGH a0).length:Int)=0)) (aR aA (BGH a0) ((IntKind.i64.wrap (s3.2.1+1)).tmod (↑(BGH a0).length:Int)) fun (y5:aP)=>aJ BFG (wH [aI true aA y4,aI true aA y5, aI true aA a1]) fun (y6:Bool)=>aC y6 (R BFH) (aC (decide (decide (a1.2<y4.2)=decide (a1.2<y5.2))) (X2 (s3.1,IntKind.i64.wrap (s3.2.1+1),())) (aJ BFF (fQ [aI true aA y4,aI true aA y5, aI true aA a1]) fun (y7:Int)=>aC (decide (decide (0<y7)=decide (y4.2<y5.2))) (X2 (!s3.1,IntKind.i64.wrap (s3.2.1+1),())) (X2 (s3.1,IntKind.i64.wrap (s3.2.1+1),())))))) (aC s3.1 (R BFR) (R BFN))) (false,0,())))
abbrev M8:Sh:=[(false,aA.li),(true,aA)]
def yO (x:List aP×aP):Option T:=some (T.v (Value.int .i64 (iF x.1 x.2)))
noncomputable def mB:List T→Option T:=gS M8 yO
theorem YW {a0 a1}:mB [T.sl false (List.map aA.enc a0),aI true aA a1]=yO (a0,a1):=bG (s:=M8) rfl (a0,a1) rfl
theorem AOB:rQ Tryz.prog 329 mB yO (cD M8) JS:=gZ (a1:=(false,aA.li)) (a2:=(true,aA)) (sp:=yO) (F:=JS) (Hs:=AS1) (f:=329) (k:=8) AB5 aU aY (aN rfl) ⟨_,_,Tryz.func329,rfl⟩ rfl fun _ _ _=>by kernel_rfl
def vT (p q:List Pt):Bool:=(List.range p.length).any fun i=>(List.range q.length).any fun k=>mE (pt p i) (nx p i) (pt q k) (nx q k)
def lV (a0:List aP) (a1:List aP):List T:=[T.sl false (List.map aA.enc a0),T.sl false (List.map aA.enc a1),T.fn 327 [] []]
noncomputable def JB:Env:=Env.of [(327,.pure wL)]
def WO:FuncId→Hint:=bX 326 [(2,.inv [.val 13 false (.int .i64)]),(5,.inv [.val 20 false (.int .i64)])] (fun _=>aZ)
theorem ACB:aT Tryz.prog JB:=.cons AML (.nil _)
def BFD:T:=T.v (.bool false)
def BFI:T:=T.v (.bool true)
def BF0(X3:Int×PUnit→Prop)(s4:Int×PUnit):Prop:=X3 (IntKind.i64.wrap (s4.1+1),())
def JY(a0:List aP)(a1:List aP)(R:T→Prop):Prop:=bA (Int×PUnit) (fun X0 s1=>aC (decide (s1.1<(↑(BGH a0).length:Int))) (aR aA (BGH a0) s1.1 fun (y2:aP)=>bA (Int×PUnit) (fun X3 s4=>aC (decide (s4.1<(↑(BGH a1).length:Int))) (aR aA (BGH a1) s4.1 fun (y5:aP)=>bN (!decide ((↑(BGH a0).length:Int)=0)) (aR aA (BGH a0) ((IntKind.i64.wrap (s1.1+1)).tmod (↑(BGH a0).length:Int)) fun (y6:aP)=>bN (!decide ((↑(BGH a1).length:Int)=0)) (aR aA (BGH a1) ((IntKind.i64.wrap (s4.1+1)).tmod (↑(BGH a1).length:Int)) fun (y7:aP)=>aJ BFG (wL [aI true aA y2,aI true aA y6, aI true aA y5,aI true aA y7]) fun (y8:Bool)=>aC y8 (R BFI) (BF0 X3 s4)))) (BF0 X0 s1)) (0,())) (R BFD)) (0,())
theorem WE ( a0 a1 R):dW bW Tryz.prog JB WO 8 326 (lV a0 a1) R=JY a0 a1 R:=by kernel_rfl
def MN {α:Type} (p q:List Pt) (r:α):Option α:=match OP p&&OP q with
 | true=>some r
 | false=>none
theorem MO {α:Type} {p q:List Pt} {t r:α} (h:MN p q t=some r):p.length≤1000∧j4 p∧q.length≤1000∧j4 q∧r=t:=by
 unfold MN at h;split at h
 ·rename_i hc
  simp only[OP,Bool.and_eq_true,decide_eq_true_eq,mW] at hc
  cases h;exact ⟨hc.1.1,hc.1.2,hc.2.1,hc.2.2,rfl⟩
 ·cases h
theorem MQ {α:Type} {p q:List Pt} (t:α) (h:p.length≤1000) (h2:j4 p) (h3:q.length≤1000) (h4:j4 q):MN p q t=some t:=by
 unfold MN;rw[show (OP p&&OP q)=true by simp only[OP,Bool.and_eq_true,decide_eq_true_eq,mW];exact ⟨⟨h,h2⟩,h3,h4⟩]
def F1 (x:List aP×List aP):Option T:=MN x.1 x.2 (T.v (.bool (vT x.1 x.2)))
theorem RO (x y:List aP×List aP) (h:lV x.1 x.2=lV y.1 y.2):x=y:=by
 unfold lV at h
 obtain ⟨h1,h2⟩:=List.cons.inj h
 have h2:=(List.cons.inj h2).1
 exact Prod.ext (map_inj (Sy.dH aA) (T.sl.inj h1).2) (map_inj (Sy.dH aA) (T.sl.inj h2).2)
noncomputable def nO:List T→Option (T):=gA (fun (x:List aP×List aP)=>lV x.1 x.2) F1
theorem Y4 (a0:List aP) (a1:List aP):nO (lV a0 a1)=F1 (a0,a1):=fA (A:=(fun (x:List aP×List aP)=>lV x.1 x.2)) RO (a0,a1)
theorem AOH (h:∀ (a0:List aP) (a1:List aP) (r:T),F1 (a0,a1)=some r→(∀ t∈lV a0 a1,Bd t)→JY a0 a1 (fun y=>y=r)):aO Tryz.prog 326 nO :=
 cP (E:=JB) (Hs:=WO) ACB aU aY (aN rfl) 8 ⟨_,_,Tryz.func326,rfl⟩ fun x r h1 h2=>by
  rw[WE]
  exact h x.1 x.2 r h1 h2
theorem PG:aO Tryz.prog 326 nO:=AOH fun p q r h hb=>by
 obtain ⟨hl,hn,hl2,hn2,rfl⟩:=MO h
 replace hl:p.length≤1000:=hl
 replace hl2:q.length≤1000:=hl2
 clear h
 unfold JY BGH BF0 BFI BFG BFD
 refine bM p.length (fun k s=>s=((k:Int),())∧∀ i,i<k→i<p.length→((List.range q.length).any fun k=>mE (pt p i) (nx p i) (pt q k) (nx q k))=false) ⟨rfl,fun i h=>by omega⟩ ?_
 rintro X k s hk ⟨rfl,hJ⟩ hX
 dsimp only
 refine b8 (fun hlt=>?_) fun hge=>iT (Eq.symm (ADH fun i hi=>hJ i (by rw[List.length_map] at hge;omega) hi))
 rw[List.length_map] at hlt
 have hlt:k<p.length:=by omega
 have hne:(!decide (((List.map aA.enc p).length:Int)=0))=true:=by rw[List.length_map,decide_eq_false (by omega)];rfl
 have hm1:(k+1) % p.length<p.length:=Nat.mod_lt _ (by omega)
 have i1:(IntKind.i64.wrap ((k:Int)+1)).tmod ((List.map aA.enc p).length:Int)=(((k+1) % p.length:Nat):Int):=by rw[List.length_map];exact uA (c:=1) hl (by omega) (by omega)
 rw[fC hlt]
 refine bM q.length (fun j s=>s=((j:Int),())∧∀ i,i<j→i<q.length→mE (pt p k) (nx p k) (pt q i) (nx q i)=false) ⟨rfl,fun i h=>by omega⟩ ?_
 rintro Y j s hj ⟨rfl,hI⟩ hY
 dsimp only
 refine b8 (fun hlj=>?_) fun hgj=>hX _ hlt ⟨by rw[show IntKind.i64.wrap ((k:Int)+1)=((k+1:Nat):Int) from bD _ (by omega) (by omega)],fun i h1 h2=>by
  rcases Nat.lt_or_ge i k with h3|h3
  ·exact hJ i h3 h2
  ·have:i=k:=by omega
   subst this;exact ADH fun m hm=>hI m (by rw[List.length_map] at hgj;omega) hm⟩
 rw[List.length_map] at hlj
 have hlj:j<q.length:=by omega
 have hne2:(!decide (((List.map aA.enc q).length:Int)=0))=true:=by rw[List.length_map,decide_eq_false (by omega)];rfl
 have hm2:(j+1) % q.length<q.length:=Nat.mod_lt _ (by omega)
 have i2:(IntKind.i64.wrap ((j:Int)+1)).tmod ((List.map aA.enc q).length:Int)=(((j+1) % q.length:Nat):Int):=by rw[List.length_map];exact uA (c:=1) hl2 (by omega) (by omega)
 rw[fC hlj,i1]
 refine ⟨hne,?_⟩
 rw[fC hm1,i2]
 refine ⟨hne2,?_⟩
 rw[fC hm2]
 refine aG (s:=[(false,.bool)]) ((ZA ..).trans (Z1 _ (hn.pt _) (hn.pt _) (hn2.pt _) (hn2.pt _))) ?_
 refine uV (fun h=>iT (Eq.symm (xI.2 ⟨k,hlt,xI.2 ⟨j,hlj,h⟩⟩))) fun h=>hY _ hlj ⟨by rw[show IntKind.i64.wrap ((j:Int)+1)=((j+1:Nat):Int) from bD _ (by omega) (by omega)],fun i h1 h2=>by
  rcases Nat.lt_or_ge i j with h3|h3
  ·exact hI i h3 h2
  ·have:i=j:=by omega
   subst this;exact h⟩
theorem GR {p q:List Pt} (h:p.length≤1000) (h2:j4 p) (h3:q.length≤1000) (h4:j4 q):nO (lV p q)=some (Sh.enc [(false,.bool)] (vT p q)):=(Y4 ..).trans (MQ _ h h2 h3 h4)
theorem PE:aO Tryz.prog 329 mB:=AOB fun p q r h hb=>by
 cases h
 have is:∀ {n:Int},iF p q=n→T.v (.int .i64 n)=T.v (.int .i64 (iF p q)):=fun h=>by rw[h]
 unfold JS BGH BFR BFN BFH BFG BFF
 refine aG (s:=[(false,.bool)]) (y:=!decide (dF q)) (PY ..) ?_
 refine lA (fun h=>is (by unfold iF;rw[if_pos (.inl h)])) fun hq=>?_
 refine aG (s:=[(false,.int .i64)]) (oQ p) ?_
 refine lA (fun h=>is (by unfold iF;rw[if_pos (.inr h)])) fun hp=>?_
 obtain ⟨hl3,hl32,hn,_⟩:=sR hp
 have w:iF p q=if AIS p q=true then 0 else if A3I p q=true then 1 else -1:=by
  unfold iF;rw[if_neg];rintro (h|h)
  ·exact h hq
  ·exact h hp
 refine bM p.length (fun k s=>s=(AZW k (fun i=>hit (pt p i) (nx p i) q),(k:Int),())∧∀ i,i<k→i<p.length→T7 (pt p i) (nx p i) q=false) ⟨rfl,fun i h=>by omega⟩ ?_
 rintro X k s hk ⟨rfl,hJ⟩ hX
 dsimp only
 refine b8 (fun hlt=>?_) fun hge=>?_
 ·rw[List.length_map] at hlt
  have hlt:k<p.length:=by omega
  have hne:(!decide (((List.map aA.enc p).length:Int)=0))=true:=by rw[List.length_map,decide_eq_false (by omega)];rfl
  have hm1:(k+1) % p.length<p.length:=Nat.mod_lt _ (by omega)
  have i1:(IntKind.i64.wrap ((k:Int)+1)).tmod ((List.map aA.enc p).length:Int)=(((k+1) % p.length:Nat):Int):=by rw[List.length_map];exact uA (c:=1) (by omega) (by omega) (by omega)
  rw[fC hlt,i1]
  refine ⟨hne,?_⟩
  rw[fC hm1]
  refine aG (s:=[(false,.bool)]) (wI (hn.pt _) (hn.pt _) hq) ?_
  refine uV (fun h=>is (by rw[w,if_pos (show AIS p q=true from xI.2 ⟨k,hlt,h⟩)])) fun ho=>?_
  have ho:T7 (pt p k) (nx p k) q=false:=ho
  have hw:IntKind.i64.wrap ((k:Int)+1)=((k+1:Nat):Int):=bD _ (by omega) (by omega)
  have hh:=AWH ho
  have hJ':∀ i,i<k+1→i<p.length→T7 (pt p i) (nx p i) q=false:=fun i h1 h2=>by
   rcases Nat.lt_or_ge i k with h3|h3
   ·exact hJ i h3 h2
   ·have:i=k:=by omega
    subst this;exact ho
  have step:∀ c,hit (pt p k) (nx p k) q=c→X ((AZW k (fun i=>hit (pt p i) (nx p i) q) ^^ c),IntKind.i64.wrap ((k:Int)+1),()):=fun c hc=>hX _ hlt ⟨by rw[hw,AZW,hc],hJ'⟩
  refine b8 (fun h=>?_) fun h=>?_
  ·have e:hit (pt p k) (nx p k) q=false:=by
    rw[hh,show decide (q.2<(pt p k).2)=decide (q.2<(nx p k).2) from h];simp
   have:=step false e
   rwa[Bool.xor_false] at this
  ·refine aG (s:=[(false,.int .i64)]) (jN (hn.pt _) (hn.pt _) hq) ?_
   have e0:hit (pt p k) (nx p k) q=(decide (0<dL (pt p k) (nx p k) q) == decide ((pt p k).2<(nx p k).2)):=by
    rw[hh,show (decide (q.2<(pt p k).2) == decide (q.2<(nx p k).2))=false from beq_eq_false_iff_ne.2 h];rfl
   refine b8 (fun h2=>?_) fun h2=>?_
   ·have:=step true (by rw[e0];exact beq_iff_eq.2 h2)
    rwa[Bool.xor_true] at this
   ·have:=step false (by rw[e0];exact beq_eq_false_iff_ne.2 h2)
    rwa[Bool.xor_false] at this
 ·rw[List.length_map] at hge
  have:k=p.length:=by omega
  subst this
  have hna:AIS p q=false:=ADH fun i hi=>hJ i hi hi
  refine uV (fun h=>is ?_) fun h=>is ?_
  ·rw[w,hna,if_neg (by simp),if_pos (show A3I p q=true from h)]
  ·rw[w,hna,if_neg (by simp),if_neg (by rw[show A3I p q=false from h];simp)]
theorem wJ (p:List Pt) (q:Pt):mB [T.sl false (List.map aA.enc p),aI true aA q]=some (Sh.enc [(false,.int .i64)] (iF p q)):=YW ..
def rC (p o:List Pt):Bool:=!vT p o&&p.all fun c=>decide (iF o c=1)
def tG (p q:List Pt):Bool:=!vT p q&&(decide (iF p (pt q 0)<0)&&decide (iF q (pt p 0)<0))
noncomputable def AJ9:Env:=Env.of [(329,.pure mB),(326,.pure nO)]
def AK7:FuncId→Hint:=bX 340 [(2,.inv [.val 8 false (.int .i64)])] (fun _=>aZ)
theorem V5:aT Tryz.prog AJ9:=.cons PE (.cons PG (.nil _))
def DW(a0:List aP)(a1:List aP)(R:T→Prop):Prop:=aJ BFG (nO [T.sl false (BGH a0),T.sl false (BGH a1), T.fn 327 [] []]) fun (y0:Bool)=>aC (!y0) (bA (Int×PUnit) (fun X1 s2=>aC (decide (s2.1<(↑(BGH a0).length:Int))) (aR aA (BGH a0) s2.1 fun (y3:aP)=>aJ BFF (mB [T.sl false (BGH a1),aI true aA y3]) fun (y4:Int)=>aC (!decide (y4=1)) (R (T.v (.bool !decide (0≤s2.1)))) (BF0 X1 s2)) (R BFI)) (0,())) (R BFD)
abbrev FJ:Sh:=[(false,aA.li),(false,aA.li)]
def uP (x:List aP×List aP):Option T:=MN x.1 x.2 (T.v (.bool (rC x.1 x.2)))
noncomputable def o6:List T→Option T:=gS FJ uP
theorem TJ {a0 a1}:o6 [T.sl false (List.map aA.enc a0),T.sl false (List.map aA.enc a1)]=uP (a0,a1):=bG (s:=FJ) rfl (a0,a1) rfl
theorem AFQ:rQ Tryz.prog 303 o6 uP (cD FJ) DW:=gZ (a1:=(false,aA.li)) (a2:=(false,aA.li)) (sp:=uP) (F:=DW) (Hs:=AK7) (f:=303) (k:=8) V5 aU aY (aN rfl) ⟨_,_,Tryz.func303,rfl⟩ rfl fun _ _ _=>by kernel_rfl
theorem AED:aO Tryz.prog 303 o6:=AFQ fun p o r h hb=>by
 obtain ⟨hl,hn,hl2,hn2,rfl⟩:=MO h
 replace hl:p.length≤1000:=hl
 clear h
 unfold DW BGH BF0 BFI BFG BFF BFD
 refine aG (s:=[(false,.bool)]) (GR hl hn hl2 hn2) ?_
 refine gQ (fun he=>?_) fun he=>iT (by unfold rC;rw[show vT p o=true from he];rfl)
 have w:rC p o=p.all fun c=>decide (iF o c=1):=by unfold rC;rw[show vT p o=false from he];rfl
 refine bM p.length (fun k s=>s=((k:Int),())∧p.all (fun c=>decide (iF o c=1))=(p.drop k).all fun c=>decide (iF o c=1)) ⟨rfl,by rw[List.drop_zero]⟩ ?_
 rintro X k s hk ⟨rfl,hJ⟩ hX
 dsimp only
 refine b8 (fun hlt=>?_) fun hge=>iT ?_
 ·rw[List.length_map] at hlt
  have hlt:k<p.length:=by omega
  rw[List.drop_eq_getElem_cons hlt,List.all_cons] at hJ
  rw[bH (r:=aA) hlt]
  refine aG (s:=[(false,.int .i64)]) (wJ o p[k]) ?_
  refine lA (fun h=>iT ?_) fun h=>hX _ hlt ⟨by rw[show IntKind.i64.wrap ((k:Int)+1)=((k+1:Nat):Int) from bD _ (by omega) (by omega)],by rw[hJ,decide_eq_true (show iF o p[k]=1 from h),Bool.true_and]⟩
  rw[w,hJ,decide_eq_false (show ¬ iF o p[k]=1 from h),decide_eq_true (show 0≤(k:Int) by omega)];rfl
 ·rw[List.length_map] at hge
  have:k=p.length:=by omega
  subst this
  rw[w,hJ,List.drop_length];rfl
theorem TK {p q:List Pt} (h:p.length≤1000) (h2:j4 p) (h3:q.length≤1000) (h4:j4 q):o6 [T.sl false (List.map aA.enc p),T.sl false (List.map aA.enc q)]=some (Sh.enc [(false,.bool)] (rC p q)):=(TJ ..).trans (MQ _ h h2 h3 h4)
def AFV (p q:List Pt) (t:T):Option T:=match p,q with
 | _::_,_::_=>MN p q t
 | _,_=>none
noncomputable def AP4:Env:=Env.of [(329,.pure mB),(326,.pure nO)]
def AS2:FuncId→Hint:=fun _=>aZ
theorem AB6:aT Tryz.prog AP4:=.cons PE (.cons PG (.nil _))
def JT(a0:List aP)(a1:List aP)(R:T→Prop):Prop:=aJ BFG (nO [T.sl false (BGH a0),T.sl false (BGH a1), T.fn 327 [] []]) fun (y0:Bool)=>aC (!y0) (aR aA (BGH a1) 0 fun (y1:aP)=>aJ BFF (mB [T.sl false (BGH a0),aI true aA y1]) fun (y2:Int)=>aC (decide (y2<0)) (aR aA (BGH a0) 0 fun (y3:aP)=>aJ BFF (mB [T.sl false (BGH a1),aI true aA y3]) fun (y4:Int)=>R (T.v (.bool (decide (y4<0))))) (R BFD)) (R BFD)
abbrev M9:Sh:=[(false,aA.li),(false,aA.li)]
def pA (x:List aP×List aP):Option T:=AFV x.1 x.2 (T.v (.bool (tG x.1 x.2)))
noncomputable def sH:List T→Option T:=gS M9 pA
theorem YX {a0 a1}:sH [T.sl false (List.map aA.enc a0),T.sl false (List.map aA.enc a1)]=pA (a0,a1):=bG (s:=M9) rfl (a0,a1) rfl
theorem AOC:rQ Tryz.prog 304 sH pA (cD M9) JT:=gZ (a1:=(false,aA.li)) (a2:=(false,aA.li)) (sp:=pA) (F:=JT) (Hs:=AS2) (f:=304) (k:=8) AB6 aU aY (aN rfl) ⟨_,_,Tryz.func304,rfl⟩ rfl fun _ _ _=>by kernel_rfl
theorem AMH:aO Tryz.prog 304 sH:=AOC fun p q r h hb=>by
 unfold pA AFV at h
 split at h
 ·rename_i e1 e2
  obtain ⟨hl,hn,hl2,hn2,rfl⟩:=MO h
  have k1:0<p.length:=by rw[show p=_ from e1];simp
  have k2:0<q.length:=by rw[show q=_ from e2];simp
  clear h
  unfold JT BGH BFG BFF BFD
  refine aG (s:=[(false,.bool)]) (GR hl hn hl2 hn2) ?_
  refine gQ (fun he=>?_) fun he=>iT (by unfold tG;rw[show vT p q=true from he];rfl)
  have w:tG p q=(decide (iF p (pt q 0)<0)&&decide (iF q (pt p 0)<0)):=by unfold tG;rw[show vT p q=false from he];rfl
  rw[show (0:Int)=((0:Nat):Int) from rfl,fC k2]
  refine aG (s:=[(false,.int .i64)]) (wJ p (pt q 0)) ?_
  refine b8 (fun h=>?_) fun h=>iT (by rw[w,decide_eq_false (show ¬ iF p (pt q 0)<0 from h)];rfl)
  rw[fC k1]
  refine aG (s:=[(false,.int .i64)]) (wJ q (pt p 0)) ?_
  exact iT (by rw[w,decide_eq_true (show iF p (pt q 0)<0 from h)];rfl)
 ·cases h
theorem YY {p q:List Pt} (k1:0<p.length) (k2:0<q.length) (h:p.length≤1000) (h2:j4 p) (h3:q.length≤1000) (h4:j4 q):sH [T.sl false (List.map aA.enc p),T.sl false (List.map aA.enc q)]=some (Sh.enc [(false,.bool)] (tG p q)):=by
 refine (YX ..).trans ?_
 unfold pA AFV
 cases p with
 | nil=>simp at k1
 | cons a p=>cases q with
  | nil=>simp at k2
  | cons b q=>exact MQ _ h h2 h3 h4
end Go.Pv
namespace Go.Pv
open Go Go.Proofs
theorem qO {r:Sy} {l:List r.den} (f:Nat→Int) (hl:l.length≤1000000) {Body:(Int×PUnit→Prop)→Int×PUnit→r.den→Prop} {Exit:Prop}
  (hbody:∀ (X:Int×PUnit→Prop) (k:Nat) (hk:k<l.length),(∀ j,j<k→f j=0)→(f k=0→X (((k+1:Nat):Int),()))→(f k≠0→cE f (List.range l.length)=f k)→Body X ((k:Int),()) l[k]) (hexit:cE f (List.range l.length)=0→Exit) :
  bA (Int×PUnit) (fun (X:Int×PUnit→Prop) (s:Int×PUnit)=>aC (decide (s.1<((List.map r.enc l).length:Int))) (aR r (List.map r.enc l) s.1 fun y=>Body X s y) Exit) (0,()):=by
 refine bM l.length (fun k s=>s=((k:Int),())∧cE f (List.range l.length)=cE f (List.range' k (l.length-k))∧∀ j,j<k→f j=0) ⟨rfl,by rw[List.range_eq_range'];rfl,fun j h=>by omega⟩ ?_
 rintro X k s hk ⟨rfl,he,hp⟩ hX
 dsimp only
 refine b8 (fun hlt=>?_) fun hge=>?_
 ·rw[List.length_map] at hlt
  have hlt:k<l.length:=by omega
  rw[bH hlt]
  obtain ⟨m,hm⟩:∃ m,l.length-k=m+1:=⟨l.length-k-1,by omega⟩
  rw[hm,List.range'_succ,cE] at he
  refine hbody X k hlt hp (fun h0=>?_) fun h0=>by rw[he,if_neg h0]
  rw[if_pos h0] at he
  exact hX _ hlt ⟨rfl,by rw[he];congr 2;omega,fun j hj=>by
   rcases Nat.lt_or_ge j k with h|h
   ·exact hp j h
   ·have:j=k:=by omega
    subst this;exact h0⟩
 ·rw[List.length_map] at hge
  have:l.length-k=0:=by omega
  rw[this] at he
  exact hexit he
def GY (s:jA) (i:Nat):Int:=if ¬ j9 (s.2.getD i [])=0 then j9 (s.2.getD i []) else if 0≤qL (s.2.getD i [])∨rC (s.2.getD i []) s.1=false then 17 else if ((List.range i).all fun k=>tG (s.2.getD i []) (s.2.getD k []))=false then 17 else 0
def w5 (s:jA):Int:=if 8<s.2.length then 12 else if ¬ j9 s.1=0 then j9 s.1 else if qL s.1≤0 then 17 else cE (GY s) (List.range s.2.length)
theorem vX {α:Type} {f:α→Int}:∀ {l:List α},cE f l=0→∀ a∈l,f a=0
 | a::l,h,b,hb=>by
  unfold cE at h
  by_cases ha:f a=0
  ·rw[if_pos ha] at h
   rcases List.mem_cons.1 hb with rfl|hb
   ·exact ha
   ·exact vX h b hb
  ·rw[if_neg ha] at h;exact absurd h ha
 | [],_,b,hb=>by cases hb
theorem AOP (l:List (List aP)):E4 1 (List.map aA.li.enc l)=true:=by cases l<;>rfl
noncomputable def AP6:Env:=Env.of [(301,.pure gJ),(302,.pure l9),(303,.pure o6),(304,.pure sH)]
def AS4:FuncId→Hint:=bX 280 [(9,.inv [.val 26 false (.int .i64)]),(17,.inv [.val 51 false (.int .i64)])] (fun _=>aZ)
theorem AB8:aT Tryz.prog AP6:=.cons AS (.cons PD (.cons AED (.cons AMH (.nil _))))
def BFS:T:=T.v (.int .i64 17)
def BGT(y0:Int):T:=T.v (.int .i64 y0)
def BGS(a0:jA):List (List T):=List.map aA.li.enc a0.2
def BG8(a0:jA):List T:=[T.sl false (List.map aA.enc a0.1)]
def JV(a0:jA)(R:T→Prop):Prop:=aC (decide (8<(↑(BGS a0).length:Int))) (R (T.v (.int .i64 12))) (aJ BFF (gJ (BG8 a0)) fun (y0:Int)=>aC (!decide (y0=0)) (R (BGT y0)) (aJ BFF (l9 (BG8 a0)) fun (y1:Int)=>aC (decide (y1≤0)) (R BFS) (bA (Int×PUnit) (fun X2 s3=>aC (decide (s3.1<(↑(BGS a0).length:Int))) (aR aA.li (BGS a0) s3.1 fun (y4:List aP)=>aJ BFF (gJ [T.sl false (BGH y4)]) fun (y5:Int)=>aC (!decide (y5=0)) (R (BGT y5)) (aJ BFF (l9 [T.sl false (BGH y4)]) fun (y6:Int)=>aC (decide (0≤y6)) (R BFS) (aJ BFG (o6 [T.sl false (BGH y4), T.sl false (List.map aA.enc a0.1)]) fun (y7:Bool)=>aC (!y7) (R BFS) (bN (E4 1 (BGS a0) && (decide (0≤s3.1) && decide (Int.toNat s3.1≤(BGS a0).length)) && true) (bA (Int×PUnit) (fun X8 s9=>aC (decide (s9.1 < (↑(List.drop 0 (List.take (Int.toNat s3.1) (BGS a0))).length : Int))) (aR aA.li (List.drop 0 (List.take (Int.toNat s3.1) (BGS a0))) s9.1 fun (y10:List aP)=>aJ BFG (sH [T.sl false (BGH y4), T.sl false (BGH y10)]) fun (y11:Bool)=>aC (!y11) (R BFS) (BF0 X8 s9)) (BF0 X2 s3)) (0,())))))) (R BFH)) (0,()))))
abbrev NB:Sh:=[(true,dZ)]
def yQ (s:jA):Option T:=some (T.v (Value.int .i64 (w5 s)))
noncomputable def iV:List T→Option T:=gS NB yQ
theorem Y1 {a0}:iV [aI true dZ a0]=yQ (a0):=bG (s:=NB) rfl (a0) rfl
theorem AOE:vF Tryz.prog 280 iV yQ (cD NB) JV:=jJ (a1:=(true,dZ)) (sp:=yQ) (F:=JV) (Hs:=AS4) (f:=280) (k:=8) AB8 aU aY (aN rfl) ⟨_,_,Tryz.func280,rfl⟩ rfl fun _ _=>by kernel_rfl
theorem PF:aO Tryz.prog 280 iV:=AOE fun s r h hb=>by
 cases h
 have is:∀ {n:Int},w5 s=n→T.v (.int .i64 n)=T.v (.int .i64 (w5 s)):=fun h=>by rw[h]
 unfold JV BG8 BGS BGH BF0 BGT BFS BFH BFG BFF
 refine b8 (fun h=>is (by rw[List.length_map] at h;unfold w5;rw[if_pos (by omega)])) fun h1=>?_
 rw[List.length_map] at h1
 refine aG (s:=[(false,.int .i64)]) (oQ s.1) ?_
 refine lA (fun h=>is (by unfold w5;rw[if_neg (by omega),if_pos h])) fun h2=>?_
 refine aG (s:=[(false,.int .i64)]) (wG s.1) ?_
 refine b8 (fun h=>is (by unfold w5;rw[if_neg (by omega),if_neg (by simpa using h2),if_pos h])) fun h3=>?_
 have w:w5 s=cE (GY s) (List.range s.2.length):=by unfold w5;rw[if_neg (by omega),if_neg (by simpa using h2),if_neg h3]
 obtain ⟨ho3,ho32,hoN,_⟩:=sR h2
 refine qO (r:=aA.li) (GY s) (by show s.2.length≤1000000;omega) (fun X k hk hprev hok hbad=>?_) fun h0=>is (w.trans h0)
 have hk:k<s.2.length:=hk
 have hg:s.2.getD k []=s.2[k]:=by rw[List.getD_eq_getElem?_getD,List.getElem?_eq_getElem hk];rfl
 have bad:∀ {n:Int},n≠0→GY s k=n→T.v (.int .i64 n)=T.v (.int .i64 (w5 s)):=fun hn h=>is (w.trans ((hbad (by rw[h];exact hn)).trans h))
 have hE:GY s k=if ¬ j9 s.2[k]=0 then j9 s.2[k] else if 0≤qL s.2[k]∨rC s.2[k] s.1=false then 17 else if ((List.range k).all fun j=>tG s.2[k] (s.2.getD j []))=false then 17 else 0:=by unfold GY;rw[hg]
 show aJ [(false,Sy.int IntKind.i64)] (gJ [T.sl false (List.map aA.enc s.2[k])]) _
 refine aG (s:=[(false,.int .i64)]) (oQ s.2[k]) ?_
 refine lA (fun h=>bad h (by rw[hE,if_pos h])) fun p1=>?_
 refine aG (s:=[(false,.int .i64)]) (wG s.2[k]) ?_
 refine b8 (fun h=>bad (by decide) (by rw[hE,if_neg (by simpa using p1),if_pos (.inl h)])) fun p2=>?_
 obtain ⟨hp3,hp32,hpN,_⟩:=sR p1
 refine aG (s:=[(false,.bool)]) (TK (by omega) hpN (by omega) hoN) ?_
 refine gQ (fun h=>bad (by decide) (by rw[hE,if_neg (by simpa using p1),if_pos (.inr h)])) fun p3=>?_
 have hE2:GY s k=if ((List.range k).all fun j=>tG s.2[k] (s.2.getD j []))=false then 17 else 0:=by
  rw[hE,if_neg (by simpa using p1),if_neg]
  rintro (h|h)
  ·exact p2 h
  ·rw[show rC s.2[k] s.1=true from p3] at h;cases h
 refine ⟨by rw[AOP,List.length_map];simp;omega,?_⟩
 have htk:List.drop 0 (List.take (Int.toNat (k:Int)) (List.map aA.li.enc s.2))=List.map aA.li.enc (s.2.take k):=by rw[List.drop_zero,Int.toNat_natCast,List.map_take]
 dsimp only
 rw[htk]
 have ht:(s.2.take k).length=k:=by rw[List.length_take];omega
 refine bM k (fun j s'=>s'=((j:Int),())∧∀ i,i<j→tG s.2[k] (s.2.getD i [])=true) ⟨rfl,fun i h=>by omega⟩ ?_
 rintro Y j s' hj ⟨rfl,hJ⟩ hY
 dsimp only
 refine b8 (fun hlt=>?_) fun hge=>?_
 ·rw[List.length_map,ht] at hlt
  have hlt:j<k:=by omega
  rw[bH (r:=aA.li) (show j<(s.2.take k).length by omega)]
  have hgj:s.2.getD j []=s.2[j]:=by rw[List.getD_eq_getElem?_getD,List.getElem?_eq_getElem (by omega)];rfl
  have hgt:(s.2.take k)[j]'(by omega)=s.2[j]:=by simp
  rw[hgt]
  have hj0:j9 s.2[j]=0:=by
   have h0:=hprev j hlt
   unfold GY at h0
   rw[hgj] at h0
   refine Classical.byContradiction fun hc=>?_
   rw[if_pos hc] at h0
   exact hc h0
  obtain ⟨hq3,hq32,hqN,_⟩:=sR hj0
  refine aG (s:=[(false,.bool)]) (YY (by omega) (by omega) (by omega) hpN (by omega) hqN) ?_
  refine gQ (fun h=>bad (by decide) ?_) fun h=>hY _ hlt ⟨by rw[show IntKind.i64.wrap ((j:Int)+1)=((j+1:Nat):Int) from bD _ (by omega) (by omega)],fun i hi=>by
   rcases Nat.lt_or_ge i j with h3|h3
   ·exact hJ i h3
   ·have:i=j:=by omega
    subst this;rw[hgj];exact h⟩
  rw[hE2,if_pos (SN hlt (by rw[hgj];exact h))]
 ·rw[List.length_map,ht] at hge
  have:j=k:=by omega
  subst this
  rw[show IntKind.i64.wrap ((j:Int)+1)=((j+1:Nat):Int) from bD _ (by omega) (by omega)]
  refine hok ?_
  rw[hE2,if_neg]
  rw[o2.2 hJ];simp
theorem GQ (s:jA):iV [aI true dZ s]=some (Sh.enc [(false,.int .i64)] (w5 s)):=Y1 ..
noncomputable def AP7:Env:=Env.of []
def AS5:FuncId→Hint:=fun _=>aZ
theorem AB9:aT Tryz.prog AP7:=.nil _
def JW(a0:jA)(R:T→Prop):Prop:=aC (BGS a0).isEmpty (R (T.sl false [(BG8 a0)])) (bN (eE 1 (BGS a0) && decide ((1+(BGS a0).length)*24≤140737488355328) && decide (1+(BGS a0).length≤140737488355328)) (R (T.sl false ((BG8 a0) :: (BGS a0)))))
abbrev NC:Sh:=[(true,dZ)]
abbrev AYB:Sh:=[(false,aA.li.li)]
def pB (s:jA):Option T:=match decide (s.2.length≤1000) with
 | true=>some (Sh.enc AYB (s.1::s.2))
 | false=>none
noncomputable def wK:List T→Option T:=gS NC pB
theorem Y2 {a0}:wK [aI true dZ a0]=pB (a0):=bG (s:=NC) rfl (a0) rfl
theorem AOF:vF Tryz.prog 312 wK pB (cD NC) JW:=jJ (a1:=(true,dZ)) (sp:=pB) (F:=JW) (Hs:=AS5) (f:=312) (k:=8) AB9 aU aY (aN rfl) ⟨_,_,Tryz.func312,rfl⟩ rfl fun _ _=>by kernel_rfl
theorem AMJ:aO Tryz.prog 312 wK:=AOF fun s r h hb=>by
 unfold pB at h
 split at h
 ·rename_i hc
  have hc:s.2.length≤1000:=of_decide_eq_true hc
  cases h
  obtain ⟨o,hs⟩:=s
  unfold JW BG8 BGS
  cases hs with
  | nil=>exact (rfl:T.sl false [[T.sl false (List.map aA.enc o)]]=_)
  | cons a l =>
   show bN _ _
   refine ⟨?_,rfl⟩
   simp only[Bool.and_eq_true,decide_eq_true_eq,List.length_map]
   have hc:(a::l).length≤1000:=hc
   exact ⟨⟨pG (.li aA) (a::l),by omega⟩,by omega⟩
 ·cases h
def BD4 (l:List (List Pt)):Int:=zB l.length fun i=>qL (l.getD i [])
def AAP (s:jA):Int:=if w5 s=0 then BD4 (s.1::s.2) else 0
theorem W0 (p:List Pt):-68719476736≤qL p∧qL p≤68719476736:=by
 unfold qL
 by_cases h:j9 p=0
 ·rw[if_pos h]
  obtain ⟨_,h2,h3,_⟩:=sR h
  have:=IK h3 p.length
  unfold KH
  omega
 ·rw[if_neg h];omega
theorem AI9 (l:List (List Pt)):∀ n:Nat,-(68719476736*(n:Int))≤zB n (fun i=>qL (l.getD i []))∧zB n (fun i=>qL (l.getD i []))≤68719476736*(n:Int)
 | 0=>by simp[zB]
 | n+1=>by
  have ih:=AI9 l n
  have hb:=W0 (l.getD n [])
  unfold zB
  constructor<;>push_cast<;>omega
noncomputable def AP5:Env:=Env.of [(280,.pure iV),(312,.pure wK),(302,.pure l9)]
def AS3:FuncId→Hint:=bX 285 [(5,.inv [.val 3 false (.int .i64),.val 12 false (.int .i64)])] (fun _=>aZ)
theorem AB7:aT Tryz.prog AP5:=.cons PF (.cons AMJ (.cons PD (.nil _)))
def JU(a0:jA)(R:T→Prop):Prop:=aJ BFF (iV [aI true dZ a0]) fun (y0:Int)=>aC (!decide (y0=0)) (R BFH) (aJ [(false,aA.li.li)] (wK [aI true dZ a0]) fun (y1:List (List aP))=>bA (Int×Int×PUnit) (fun X2 s3=>aC (decide (s3.2.1<(↑(List.map aA.li.enc y1).length:Int))) (aR aA.li (List.map aA.li.enc y1) s3.2.1 fun (y4:List aP)=>aJ BFF (l9 [T.sl false (BGH y4)]) fun (y5:Int)=>X2 (IntKind.i64.wrap (s3.1+y5),IntKind.i64.wrap (s3.2.1+1),())) (R (T.v (.int .i64 s3.1)))) (0,0,()))
abbrev NA:Sh:=[(true,dZ)]
def yP (s:jA):Option T:=some (T.v (Value.int .i64 (AAP s)))
noncomputable def sJ:List T→Option T:=gS NA yP
theorem YZ {a0}:sJ [aI true dZ a0]=yP (a0):=bG (s:=NA) rfl (a0) rfl
theorem AOD:vF Tryz.prog 285 sJ yP (cD NA) JU:=jJ (a1:=(true,dZ)) (sp:=yP) (F:=JU) (Hs:=AS3) (f:=285) (k:=8) AB7 aU aY (aN rfl) ⟨_,_,Tryz.func285,rfl⟩ rfl fun _ _=>by kernel_rfl
theorem AMI:aO Tryz.prog 285 sJ:=AOD fun s r h hb=>by
 cases h
 have is:∀ {n:Int},AAP s=n→T.v (.int .i64 n)=T.v (.int .i64 (AAP s)):=fun h=>by rw[h]
 unfold JU BGH BFH BFF
 refine aG (s:=[(false,.int .i64)]) (GQ s) ?_
 refine lA (fun h=>is (by unfold AAP;rw[if_neg h])) fun h=>?_
 have h8:s.2.length≤8:=by
  refine Classical.byContradiction fun hc=>?_
  unfold w5 at h
  rw[if_pos (by omega)] at h;cases h
 refine aG (s:=[(false,.li (.li aA))]) (y:=(s.1::s.2:List (List aP))) ((Y2 ..).trans (by unfold pB;rw[decide_eq_true (by omega)])) ?_
 have w:AAP s=BD4 (s.1::s.2):=by unfold AAP;rw[if_pos h]
 have hlen:(s.1::s.2).length≤9:=by simp;omega
 generalize s.1::s.2=l at w hlen
 refine bM l.length (fun k t=>t=(zB k (fun i=>qL (l.getD i [])),(k:Int),())) rfl ?_
 rintro X k t hk rfl hX
 dsimp only
 refine b8 (fun hlt=>?_) fun hge=>is (by rw[List.length_map] at hge;rw[w,show k=l.length by omega];rfl)
 rw[List.length_map] at hlt
 have hlt:k<l.length:=by omega
 rw[bH (r:=aA.li) hlt]
 have hg:l.getD k []=l[k]:=by rw[List.getD_eq_getElem?_getD,List.getElem?_eq_getElem hlt];rfl
 refine aG (s:=[(false,.int .i64)]) (wG l[k]) ?_
 refine hX _ hlt ?_
 have b1:=AI9 l k
 have b2:=W0 l[k]
 rw[show IntKind.i64.wrap ((k:Int)+1)=((k+1:Nat):Int) from bD _ (by omega) (by omega),bD _ (by omega) (by omega),zB,hg]
theorem Y0 (s:jA):sJ [aI true dZ s]=some (Sh.enc [(false,.int .i64)] (AAP s)):=YZ ..
end Go.Pv
namespace Go.Pv
open Go Go.Proofs
noncomputable def AKC:Env:=Env.of []
def ALA:FuncId→Hint:=bX 305 [(2,.N2 4)] (fun _=>aZ)
theorem V8:aT Tryz.prog AKC:=.nil _
def DZ(a0:ALB)(a1:Int)(R:T→Prop):Prop:=aC (decide (a0.1<IntKind.i64.wrap (0-a1))) (R BFD) (aC (decide (a1<a0.1)) (R BFD) (aC (decide (a0.2.1<IntKind.i64.wrap (0-a1))) (R BFD) (aC (decide (a1<a0.2.1)) (R BFD) (aC (decide (a0.2.2<IntKind.i64.wrap (0-a1))) (R BFD) (aC (decide (a1<a0.2.2)) (R BFD) (R BFI))))))
abbrev FM:Sh:=[(true,APC),(false,(Sy.int IntKind.i64))]
def zV (v:ALB):Bool:=decide (-524288≤v.1)&&decide (v.1≤524288)&&(decide (-524288≤v.2.1)&&decide (v.2.1≤524288))&&(decide (-524288≤v.2.2)&&decide (v.2.2≤524288))
def p0 (x:ALB×Int):Option T:=match decide (x.2=524288) with
 | true=>some (T.v (.bool (zV x.1)))
 | false=>none
noncomputable def sM:List T→Option T:=gS FM p0
theorem TN {a0 a1}:sM [aI true APC a0,T.v (.int .i64 a1)]=p0 (a0,a1):=bG (s:=FM) rfl (a0,a1) rfl
theorem AFT:rQ Tryz.prog 305 sM p0 (cD FM) DZ:=gZ (a1:=(true,APC)) (a2:=(false,(Sy.int IntKind.i64))) (sp:=p0) (F:=DZ) (Hs:=ALA) (f:=305) (k:=8) V8 aU aY (aN rfl) ⟨_,_,Tryz.func305,rfl⟩ rfl fun _ _ _=>by kernel_rfl
theorem AEF:aO Tryz.prog 305 sM:=AFT fun v n r h hb=>by
 unfold p0 at h
 split at h
 ·rename_i hn
  have hn:n=524288:=of_decide_eq_true hn
  subst hn
  cases h
  unfold DZ BFI BFD
  rw[show IntKind.i64.wrap (0-524288) = -524288 from rfl]
  have no:∀ {P:Prop},(¬ (-524288≤v.1∧v.1≤524288∧-524288≤v.2.1∧v.2.1≤524288∧-524288≤v.2.2∧v.2.2≤524288))→T.v (.bool false)=T.v (.bool (zV v)):=fun h=>iT (Eq.symm (by
   rw[Bool.eq_false_iff];intro h2;simp only[zV,Bool.and_eq_true,decide_eq_true_eq] at h2;omega))
  refine b8 (fun h=>no (P:=True) (by omega)) fun h1=>b8 (fun h=>no (P:=True) (by omega)) fun h2=>b8 (fun h=>no (P:=True) (by omega)) fun h3=>b8 (fun h=>no (P:=True) (by omega)) fun h4=>b8 (fun h=>no (P:=True) (by omega)) fun h5=>b8 (fun h=>no (P:=True) (by omega)) fun h6=>iT ?_
  simp only[zV]
  rw[decide_eq_true (by omega),decide_eq_true (by omega),decide_eq_true (by omega),decide_eq_true (by omega),decide_eq_true (by omega),decide_eq_true (by omega)];rfl
 ·cases h
def AFH (t:Int):Int:=if t<0∨24≤t then 0 else t
noncomputable def AKB:Env:=Env.of []
def AK9:FuncId→Hint:=fun _=>aZ
theorem V7:aT Tryz.prog AKB:=.nil _
def DY(a0:Int)(R:T→Prop):Prop:=aC (decide (a0<0)) (R BFH) (aC (decide (24≤a0)) (R BFH) (R (BGT a0)))
abbrev FL:Sh:=[(false,(Sy.int IntKind.i64))]
def uQ (t:Int):Option T:=some (T.v (Value.int .i64 (AFH t)))
noncomputable def sL:List T→Option T:=gS FL uQ
theorem TM {a0}:sL [T.v (.int .i64 a0)]=uQ (a0):=bG (s:=FL) rfl (a0) rfl
theorem AFS:vF Tryz.prog 306 sL uQ (cD FL) DY:=jJ (a1:=(false,(Sy.int IntKind.i64))) (sp:=uQ) (F:=DY) (Hs:=AK9) (f:=306) (k:=8) V7 aU aY (aN rfl) ⟨_,_,Tryz.func306,rfl⟩ rfl fun _ _=>by kernel_rfl
theorem AEE:aO Tryz.prog 306 sL:=AFS fun t r h hb=>by
 cases h
 unfold DY BGT BFH
 exact b8 (fun h=>HK (by unfold AFH;rw[if_pos (.inl h)])) fun h1=>b8 (fun h=>HK (by unfold AFH;rw[if_pos (.inr h)])) fun h2=>HK (by unfold AFH;rw[if_neg (by omega)])
def rM (p:AD):Bool:=zV p.1&&decide (p.2=AFH p.2)
noncomputable def AQJ:Env:=Env.of [(305,.pure sM),(306,.pure sL)]
def ATD:FuncId→Hint:=fun _=>aZ
theorem ACI:aT Tryz.prog AQJ:=.cons AEF (.cons AEE (.nil _))
def J5(a0:AD)(R:T→Prop):Prop:=aJ BFG (sM [aI true APC a0.1,T.v (.int .i64 524288)]) fun (y0:Bool)=>aC y0 (aJ BFF (sL [T.v (.int .i64 a0.2)]) fun (y1:Int)=>R (T.v (.bool (decide (a0.2=y1))))) (R BFD)
abbrev NK:Sh:=[(true,eQ)]
def yU (p:AD):Option T:=some (T.v (.bool (rM p)))
noncomputable def cF:List T→Option T:=gS NK yU
theorem GV {a0}:cF [aI true eQ a0]=yU (a0):=bG (s:=NK) rfl (a0) rfl
theorem AOO:vF Tryz.prog 282 cF yU (cD NK) J5:=jJ (a1:=(true,eQ)) (sp:=yU) (F:=J5) (Hs:=ATD) (f:=282) (k:=8) ACI aU aY (aN rfl) ⟨_,_,Tryz.func282,rfl⟩ rfl fun _ _=>by kernel_rfl
theorem AMR:aO Tryz.prog 282 cF:=AOO fun p r h hb=>by
 cases h
 unfold J5 BFG BFF BFD
 refine aG (s:=[(false,.bool)]) (y:=zV p.1) (TN ..) ?_
 refine uV (fun h=>?_) fun h=>iT (by unfold rM;rw[h];rfl)
 refine aG (s:=[(false,.int .i64)]) (y:=AFH p.2) (TM ..) ?_
 exact iT (by unfold rM;rw[h];rfl)
def ET (l:List Int) (i:Nat):Int:=if ¬ (1≤l.getD i 0∧l.getD i 0≤120) then 9 else if 0<i∧l.getD i 0≤l.getD (i-1) 0 then 11 else 0
def jB (g:fM):Int:=if isName g.1=false then 6 else if ¬ (1000≤g.2.1∧g.2.1≤20000∧100≤g.2.2.1∧g.2.2.1≤1500) then 9 else if g.2.2.2.length=0 then 3 else if 16<g.2.2.2.length then 4 else cE (ET g.2.2.2) (List.range g.2.2.2.length)
def ID (s:cJ):Int:=if isName s.1=false then 6 else if ¬ (1≤s.2.1∧s.2.1≤1000000∧1≤s.2.2.1∧s.2.2.1≤2000∧100≤s.2.2.2∧s.2.2.2≤32768) then 9 else 0
theorem GZ (s:ByteArray) (K:Bool→Prop):aJ [(false,Sy.bool)] (iA [T.v (.string s)]) K=K (isName s):=by
 rw[show iA [T.v (.string s)]=sX s from wC]
 exact OR _ K
noncomputable def APW:Env:=Env.of [(78,.pure iA)]
def ASV:FuncId→Hint:=bX 220 [(10,.inv [.val 34 false (.int .i64)])] (fun _=>aZ)
theorem ABZ:aT Tryz.prog APW:=.cons xR (.nil _)
def BFE:T:=T.v (.int .i64 9)
def BFK:Sy:=Sy.int IntKind.i64
def BFP:T:=T.v (.int .i64 6)
def BFQ:T:=T.v (.int .i64 11)
def BG4(a0:fM):List (List T):=List.map BFK.enc a0.2.2.2
def JM(a0:fM)(R:T→Prop):Prop:=aJ BFG (iA [T.v (.string a0.1)]) fun (y0:Bool)=>aC (!y0) (R BFP) (aC (decide (1000≤a0.2.1)) (aC (!decide (a0.2.1≤20000)) (R BFE) (aC (decide (100≤a0.2.2.1)) (aC (!decide (a0.2.2.1≤1500)) (R BFE) (aC (decide ((↑(BG4 a0).length:Int)=0)) (R (T.v (.int .i64 3))) (aC (decide (16<(↑(BG4 a0).length:Int))) (R (T.v (.int .i64 4))) (bA (Int×PUnit) (fun X1 s2=>aC (decide (s2.1<(↑(BG4 a0).length:Int))) (aR BFK (BG4 a0) s2.1 fun (y3:Int)=>aC (decide (1≤y3)) (aC (!decide (y3≤120)) (R BFE) (aC (decide (0<s2.1)) (aR BFK (BG4 a0) (IntKind.i64.wrap (s2.1-1)) fun (y4:Int)=>aC (decide (y3≤y4)) (R BFQ) (BF0 X1 s2)) (BF0 X1 s2))) (R BFE)) (R BFH)) (0,()))))) (R BFE))) (R BFE))
abbrev M1:Sh:=[(true,dD)]
def yI (g:fM):Option T:=some (T.v (Value.int .i64 (jB g)))
noncomputable def wF:List T→Option T:=gS M1 yI
theorem YO {a0}:wF [aI true dD a0]=yI (a0):=bG (s:=M1) rfl (a0) rfl
theorem AN5:vF Tryz.prog 220 wF yI (cD M1) JM:=jJ (a1:=(true,dD)) (sp:=yI) (F:=JM) (Hs:=ASV) (f:=220) (k:=8) ABZ aU aY (aN rfl) ⟨_,_,Tryz.func220,rfl⟩ rfl fun _ _=>by kernel_rfl
theorem tY {α:Type} {l:List α} {i:Nat} {d:α} (h:i<l.length):l.getD i d=l[i]:=by rw[List.getD_eq_getElem?_getD,List.getElem?_eq_getElem h];rfl
theorem T9 {r:Sy} {l:List r.den} {k:Nat} (hk:k<l.length) (h0:0<k) (hl:l.length≤1000000) (K:r.den→Prop):aR r (List.map r.enc l) (IntKind.i64.wrap ((k:Int)-1)) K=K (l[k-1]'(by omega)):=by
 rw[show IntKind.i64.wrap ((k:Int)-1)=((k-1:Nat):Int) by rw[bD _ (by omega) (by omega)];omega]
 exact bH (by omega) K
theorem MJ {k:Nat} (h:k<1000000):IntKind.i64.wrap ((k:Int)+1)=((k+1:Nat):Int):=bD _ (by omega) (by omega)
theorem AMD:aO Tryz.prog 220 wF:=AN5 fun g r h hb=>by
 cases h
 have is:∀ {n:Int},jB g=n→T.v (.int .i64 n)=T.v (.int .i64 (jB g)):=fun h=>by rw[h]
 unfold JM BG4 BF0 BFQ BFP BFK BFH BFG BFE
 rw[GZ]
 refine gQ (fun h=>is (by unfold jB;rw[if_pos h])) fun hn=>?_
 have hn':¬ isName g.1=false:=by rw[hn];simp
 have r9:¬ (1000≤g.2.1∧g.2.1≤20000∧100≤g.2.2.1∧g.2.2.1≤1500)→T.v (.int .i64 9)=T.v (.int .i64 (jB g)):=fun h=>is (by unfold jB;rw[if_neg hn',if_pos h])
 refine b8 (fun h1=>lA (fun h=>r9 (by omega)) fun h2=>b8 (fun h3=>lA (fun h=>r9 (by omega)) fun h4=>?_) fun h=>r9 (by omega)) fun h=>r9 (by omega)
 have hr:¬ ¬ (1000≤g.2.1∧g.2.1≤20000∧100≤g.2.2.1∧g.2.2.1≤1500):=by omega
 refine b8 (fun h=>is (by rw[List.length_map] at h;unfold jB;rw[if_neg hn',if_neg hr,if_pos (by omega)])) fun h5=>?_
 refine b8 (fun h=>is (by rw[List.length_map] at h h5;unfold jB;rw[if_neg hn',if_neg hr,if_neg (by omega),if_pos (by omega)])) fun h6=>?_
 rw[List.length_map] at h5 h6
 have w:jB g=cE (ET g.2.2.2) (List.range g.2.2.2.length):=by unfold jB;rw[if_neg hn',if_neg hr,if_neg (by omega),if_neg (by omega)]
 refine qO (r:=.int .i64) (ET g.2.2.2) (by omega) (fun X k hk hprev hok hbad=>?_) fun h0=>is (w.trans h0)
 have hk:k<g.2.2.2.length:=hk
 have bad:∀ {n:Int},n≠0→ET g.2.2.2 k=n→T.v (.int .i64 n)=T.v (.int .i64 (jB g)):=fun hn h=>is (w.trans ((hbad (by rw[h];exact hn)).trans h))
 have hE:ET g.2.2.2 k=if ¬ (1≤g.2.2.2[k]∧g.2.2.2[k]≤120) then 9 else if 0<k∧g.2.2.2[k]≤g.2.2.2.getD (k-1) 0 then 11 else 0:=by unfold ET;rw[tY hk]
 dsimp only
 rw[MJ (by omega)]
 refine b8 (fun p1=>lA (fun h=>bad (by decide) (by rw[hE,if_pos (by omega)])) fun p2=>?_) fun h=>bad (by decide) (by rw[hE,if_pos (by omega)])
 refine b8 (fun p3=>?_) fun p3=>hok (by rw[hE,if_neg (by omega),if_neg (by omega)])
 have k0:0<k:=by omega
 rw[T9 (r:=.int .i64) hk k0 (by omega)]
 have hg1:g.2.2.2.getD (k-1) 0=g.2.2.2[k-1]'(by omega):=tY (by omega)
 exact b8 (fun h=>bad (by decide) (by rw[hE,if_neg (by omega),hg1,if_pos ⟨k0,h⟩])) fun h=>hok (by rw[hE,if_neg (by omega),hg1,if_neg (fun hc=>h hc.2)])
noncomputable def ABM:Env:=Env.of [(78,.pure iA)]
def AC6:FuncId→Hint:=fun _=>aZ
theorem RV:aT Tryz.prog ABM:=.cons xR (.nil _)
def z6(a0:cJ)(R:T→Prop):Prop:=aJ BFG (iA [T.v (.string a0.1)]) fun (y0:Bool)=>aC (!y0) (R BFP) (aC (decide (1≤a0.2.1)) (aC (!decide (a0.2.1≤1000000)) (R BFE) (aC (decide (1≤a0.2.2.1)) (aC (!decide (a0.2.2.1≤2000)) (R BFE) (aC (decide (100≤a0.2.2.2)) (aC (!decide (a0.2.2.2≤32768)) (R BFE) (R BFH)) (R BFE))) (R BFE))) (R BFE))
abbrev BC:Sh:=[(true,bT)]
def q7 (s:cJ):Option T:=some (T.v (Value.int .i64 (ID s)))
noncomputable def pN:List T→Option T:=gS BC q7
theorem OI {a0}:pN [aI true bT a0]=q7 (a0):=bG (s:=BC) rfl (a0) rfl
theorem Z9:vF Tryz.prog 221 pN q7 (cD BC) z6:=jJ (a1:=(true,bT)) (sp:=q7) (F:=z6) (Hs:=AC6) (f:=221) (k:=8) RV aU aY (aN rfl) ⟨_,_,Tryz.func221,rfl⟩ rfl fun _ _=>by kernel_rfl
theorem XS:aO Tryz.prog 221 pN:=Z9 fun s r h hb=>by
 cases h
 have is:∀ {n:Int},ID s=n→T.v (.int .i64 n)=T.v (.int .i64 (ID s)):=fun h=>by rw[h]
 unfold z6 BFP BFH BFG BFE
 rw[GZ]
 refine gQ (fun h=>is (by unfold ID;rw[if_pos h])) fun hn=>?_
 have hn':¬ isName s.1=false:=by rw[hn];simp
 have r9:¬ (1≤s.2.1∧s.2.1≤1000000∧1≤s.2.2.1∧s.2.2.1≤2000∧100≤s.2.2.2∧s.2.2.2≤32768)→T.v (.int .i64 9)=T.v (.int .i64 (ID s)):=fun h=>is (by unfold ID;rw[if_neg hn',if_pos h])
 refine b8 (fun h1=>lA (fun h=>r9 (by omega)) fun h2=>b8 (fun h3=>lA (fun h=>r9 (by omega)) fun h4=>b8 (fun h5=>lA (fun h=>r9 (by omega)) fun h6=>is ?_) fun h=>r9 (by omega)) fun h=>r9 (by omega)) fun h=>r9 (by omega)
 unfold ID;rw[if_neg hn',if_neg (by omega)]
def j1:fM:=(⟨#[]⟩,0,0,[])
def QQ (a b:ByteArray):Bool:=cK a b||decide (a=b)
def wQ (m:aH) (i:Nat):Int:=if ¬ jB (m.1.getD i j1)=0 then jB (m.1.getD i j1) else if 0<i∧QQ (m.1.getD i j1).1 (m.1.getD (i-1) j1).1=true then 11 else 0
def AO3 (m:aH) (i:Nat):Int:=if ¬ ID (m.2.getD i zR)=0 then ID (m.2.getD i zR) else if 0<i∧QQ (m.2.getD i zR).1 (m.2.getD (i-1) zR).1=true then 11 else 0
def yZ (m:aH):Int:=if 16<m.1.length∨32<m.2.length then 4 else if ¬ cE (wQ m) (List.range m.1.length)=0 then cE (wQ m) (List.range m.1.length) else cE (AO3 m) (List.range m.2.length)
noncomputable def APV:Env:=Env.of [(220,.pure wF),(221,.pure pN)]
def ASU:FuncId→Hint:=bX 77 [(4,.inv [.val 22 false (.int .i64)]),(13,.inv [.val 50 false (.int .i64)])] (fun _=>aZ)
theorem ABY:aT Tryz.prog APV:=.cons AMD (.cons XS (.nil _))
def BG9(a0:aH):List (List T):=List.map dD.enc a0.1
def JL(a0:aH)(R:T→Prop):Prop:=aC (decide (16<(↑(BG9 a0).length:Int))) (R (T.v (.int .i64 4))) (aC (decide (32<(↑(List.map bT.enc a0.2).length:Int))) (R (T.v (.int .i64 4))) (bA (Int×PUnit) (fun X0 s1=>aC (decide (s1.1<(↑(BG9 a0).length:Int))) (aR dD (BG9 a0) s1.1 fun (y2:fM)=>aJ BFF (wF [aI true dD y2]) fun (y3:Int)=>aC (!decide (y3=0)) (R (BGT y3)) (aC (decide (0<s1.1)) (aR dD (BG9 a0) (IntKind.i64.wrap (s1.1-1)) fun (y4:fM)=>aC (cK y2.1 y4.1||decide (y2.1=y4.1)) (R BFQ) (BF0 X0 s1)) (BF0 X0 s1))) (bA (Int×PUnit) (fun X5 s6=>aC (decide (s6.1<(↑(List.map bT.enc a0.2).length:Int))) (aR bT (List.map bT.enc a0.2) s6.1 fun (y7:cJ)=>aJ BFF (pN [aI true bT y7]) fun (y8:Int)=>aC (!decide (y8=0)) (R (BGT y8)) (aC (decide (0<s6.1)) (aR bT (List.map bT.enc a0.2) (IntKind.i64.wrap (s6.1-1)) fun (y9:cJ)=>aC (cK y7.1 y9.1||decide (y7.1=y9.1)) (R BFQ) (BF0 X5 s6)) (BF0 X5 s6))) (R BFH)) (0,()))) (0,())))
abbrev M0:Sh:=[(true,aK)]
def yH (m:aH):Option T:=some (T.v (Value.int .i64 (yZ m)))
noncomputable def wE:List T→Option T:=gS M0 yH
theorem YN {a0}:wE [aI true aK a0]=yH (a0):=bG (s:=M0) rfl (a0) rfl
theorem AN4:vF Tryz.prog 77 wE yH (cD M0) JL:=jJ (a1:=(true,aK)) (sp:=yH) (F:=JL) (Hs:=ASU) (f:=77) (k:=8) ABY aU aY (aN rfl) ⟨_,_,Tryz.func77,rfl⟩ rfl fun _ _=>by kernel_rfl
theorem AMC:aO Tryz.prog 77 wE:=AN4 fun m r h hb=>by
 cases h
 have is:∀ {n:Int},yZ m=n→T.v (.int .i64 n)=T.v (.int .i64 (yZ m)):=fun h=>by rw[h]
 unfold JL BG9 BF0 BGT BFQ BFH BFF
 refine b8 (fun h=>is (by rw[List.length_map] at h;unfold yZ;rw[if_pos (by omega)])) fun h1=>?_
 refine b8 (fun h=>is (by rw[List.length_map] at h;unfold yZ;rw[if_pos (by omega)])) fun h2=>?_
 rw[List.length_map] at h1 h2
 refine qO (r:=dD) (wQ m) (by show m.1.length≤1000000;omega) (fun X k hk hprev hok hbad=>?_) fun h0=>?_
 ·have hk:k<m.1.length:=hk
  have bad:∀ {n:Int},n≠0→wQ m k=n→T.v (.int .i64 n)=T.v (.int .i64 (yZ m)):=fun hn h=>is (by
   have hb:=(hbad (by rw[h];exact hn)).trans h
   unfold yZ;rw[if_neg (by omega),if_pos (by rw[hb];exact hn),hb])
  have hE:wQ m k=if ¬ jB m.1[k]=0 then jB m.1[k] else if 0<k∧QQ m.1[k].1 (m.1.getD (k-1) j1).1=true then 11 else 0:=by unfold wQ;rw[tY hk]
  dsimp only
  rw[MJ (by omega)]
  refine aG (s:=[(false,.int .i64)]) (y:=jB m.1[k]) (YO ..) ?_
  refine lA (fun h=>bad h (by rw[hE,if_pos h])) fun p1=>?_
  refine b8 (fun p3=>?_) fun p3=>hok (by rw[hE,if_neg (fun h=>h p1),if_neg (by omega)])
  have k0:0<k:=by omega
  rw[T9 (r:=dD) hk k0 (by show m.1.length≤1000000;omega)]
  have hg1:m.1.getD (k-1) j1=m.1[k-1]'(by omega):=tY (by omega)
  exact uV (fun h=>bad (by decide) (by rw[hE,if_neg (fun h=>h p1),hg1,if_pos ⟨k0,h⟩])) fun h=>hok (by rw[hE,if_neg (fun h=>h p1),hg1,if_neg (fun hc=>by rw[show QQ m.1[k].1 (m.1[k-1]'(by omega)).1=false from h] at hc;cases hc.2)])
 ·have w:yZ m=cE (AO3 m) (List.range m.2.length):=by unfold yZ;rw[if_neg (by omega),if_neg (fun h=>h h0)]
  refine qO (r:=bT) (AO3 m) (by show m.2.length≤1000000;omega) (fun X k hk hprev hok hbad=>?_) fun h0=>is (w.trans h0)
  have hk:k<m.2.length:=hk
  have bad:∀ {n:Int},n≠0→AO3 m k=n→T.v (.int .i64 n)=T.v (.int .i64 (yZ m)):=fun hn h=>is (w.trans ((hbad (by rw[h];exact hn)).trans h))
  have hE:AO3 m k=if ¬ ID m.2[k]=0 then ID m.2[k] else if 0<k∧QQ m.2[k].1 (m.2.getD (k-1) zR).1=true then 11 else 0:=by unfold AO3;rw[tY hk]
  dsimp only
  rw[MJ (by omega)]
  refine aG (s:=[(false,.int .i64)]) (y:=ID m.2[k]) (OI ..) ?_
  refine lA (fun h=>bad h (by rw[hE,if_pos h])) fun p1=>?_
  refine b8 (fun p3=>?_) fun p3=>hok (by rw[hE,if_neg (fun h=>h p1),if_neg (by omega)])
  have k0:0<k:=by omega
  rw[T9 (r:=bT) hk k0 (by show m.2.length≤1000000;omega)]
  have hg1:m.2.getD (k-1) zR=m.2[k-1]'(by omega):=tY (by omega)
  exact uV (fun h=>bad (by decide) (by rw[hE,if_neg (fun h=>h p1),hg1,if_pos ⟨k0,h⟩])) fun h=>hok (by rw[hE,if_neg (fun h=>h p1),hg1,if_neg (fun hc=>by rw[show QQ m.2[k].1 (m.2[k-1]'(by omega)).1=false from h] at hc;cases hc.2)])
def fV (m:aH) (n:ByteArray):Option fM:=m.1.find? fun g=>decide (g.1=n)
def okM (m:aH):Bool:=decide (m.1.length≤1000)&&decide (m.2.length≤1000)&&m.1.all fun g=>decide (g.2.2.2.length≤1000)
def CW {α:Type} (m:aH) (r:α):Option α:=match okM m with
 | true=>some r
 | false=>none
theorem wY {α:Type} {m:aH} {t r:α} (h:CW m t=some r):okM m=true∧r=t:=by
 unfold CW at h;split at h
 ·rename_i hc;cases h;exact ⟨hc,rfl⟩
 ·cases h
theorem wZ {α:Type} {m:aH} (t:α) (h:okM m=true):CW m t=some t:=by unfold CW;rw[h]
theorem ALN:RQ Tryz.prog 309 1 8:=⟨fun R=>by kernel_rfl,fun fl R=>by kernel_rfl,fun fl a rows R=>by kernel_rfl⟩
noncomputable def CA:List T→Option T:=gS [(false,.li (.int .i64))] (eP (.int .i64) 8)
theorem YE {u0}:CA [T.sl false (List.map (Sy.enc (.int .i64)) u0)]=eP (.int .i64) 8 u0:=bG (s:=[(false,.li (.int .i64))]) rfl u0 rfl
theorem AL8:aO Tryz.prog 309 CA:=D7 aU aY ⟨_,_,Tryz.func309,rfl⟩ ALN
noncomputable def APU:Env:=Env.of [(309,.pure CA)]
def AST:FuncId→Hint:=bX 307 [(2,.inv [.val 8 false (.int .i64)])] (fun _=>aZ)
theorem ABX:aT Tryz.prog APU:=.cons AL8 (.nil _)
def BFO:List T:=[T.agg [T.v (.string {data:=#[]}),T.v (.int .i64 0), T.v (.int .i64 0),T.sl false []], T.v (.bool false)]
def JK(a0:aH)(a1:ByteArray)(R:T→Prop):Prop:=bA (Int×PUnit) (fun X0 s1=>aC (decide (s1.1<(↑(BG9 a0).length:Int))) (aR dD (BG9 a0) s1.1 fun (y2:fM)=>aC (decide (y2.1=a1)) (aC (decide (s1.1<0)) (R (T.cA BFO)) (aR dD (BG9 a0) s1.1 fun (y3:fM)=>aJ [(false,BFK.li)] (CA [T.sl false (BG4 y3)]) fun (y4:List Int)=>R (T.cA [T.agg [T.v (.string y3.1),T.v (.int .i64 y3.2.1), T.v (.int .i64 y3.2.2.1), T.sl false (List.map BFK.enc y4)], T.v (.bool true)]))) (BF0 X0 s1)) (R (T.cA BFO))) (0,())
abbrev MZ:Sh:=[(true,aK),(false,Sy.str)]
def yG (x:aH×ByteArray):Option T:=CW x.1 (Sh.enc [(true,dD),(false,.bool)] (found j1 (fV x.1 x.2)))
noncomputable def fP:List T→Option T:=gS MZ yG
theorem YM {a0 a1}:fP [aI true aK a0,T.v (.string a1)]=yG (a0,a1):=bG (s:=MZ) rfl (a0,a1) rfl
theorem AN3:rQ Tryz.prog 283 fP yG (cD MZ) JK:=gZ (a1:=(true,aK)) (a2:=(false,Sy.str)) (sp:=yG) (F:=JK) (Hs:=AST) (f:=283) (k:=8) ABX aU aY (aN rfl) ⟨_,_,Tryz.func283,rfl⟩ rfl fun _ _ _=>by kernel_rfl
theorem EG:aO Tryz.prog 283 fP:=AN3 fun m n r h hb=>by
 obtain ⟨hok,rfl⟩:=wY h
 clear h
 simp only[okM,Bool.and_eq_true,decide_eq_true_eq] at hok
 unfold JK BG9 BG4 BF0 BFO BFK
 refine bM m.1.length (fun k s=>s=((k:Int),())∧(m.1.drop k).find? (fun s=>decide (s.1=n))=fV m n) ⟨rfl,rfl⟩ ?_
 rintro X k s hk ⟨rfl,hf⟩ hX
 dsimp only
 refine b8 (fun hlt=>?_) fun hge=>?_
 ·rw[List.length_map] at hlt
  have hlt:k<m.1.length:=by omega
  rw[o5 hlt] at hf
  rw[bH (r:=dD) hlt]
  refine b8 (fun hc=>?_) fun hc=>?_
  ·rw[if_pos (decide_eq_true hc)] at hf
   refine b8 (fun h=>by omega) fun _=>?_
   rw[bH (r:=dD) hlt]
   have hg:m.1[k].2.2.2.length≤1000:=by
    have:=List.all_eq_true.1 hok.2 _ (List.getElem_mem hlt)
    exact of_decide_eq_true this
   refine aG (s:=[(false,.li (.int .i64))]) (y:=m.1[k].2.2.2) ?_ ?_
   ·rw[YE]
    unfold eP oZ
    rw[show (decide (m.1[k].2.2.2.length*8≤140737488355328)&&decide (m.1[k].2.2.2.length≤140737488355328))=true by simp only[Bool.and_eq_true,decide_eq_true_eq];omega]
    rfl
   ·show _=Sh.enc [(true,dD),(false,.bool)] (found j1 (fV m n))
    rw[←hf];rfl
  ·rw[if_neg (by simpa using hc)] at hf
   exact hX _ hlt ⟨by rw[MJ (by omega)],hf⟩
 ·rw[List.length_map] at hge
  have:k=m.1.length:=by omega
  subst this
  rw[List.drop_length] at hf
  show _=Sh.enc [(true,dD),(false,.bool)] (found j1 (fV m n))
  rw[←hf];rfl
def uI (m:aH) (n:ByteArray) (t:Int):Bool:=match fV m n with
 | some g=>g.2.2.2.any fun x=>decide (t=x)
 | none=>false
noncomputable def AJ4:Env:=Env.of [(283,.pure fP)]
def AK2:FuncId→Hint:=bX 339 [(2,.inv [.val 8 false (.int .i64)])] (fun _=>aZ)
theorem V0:aT Tryz.prog AJ4:=.cons EG (.nil _)
def BFM:Sh:=[(true,dD),(false,Sy.bool)]
def BGU(s2:Int×PUnit):T:=T.v (.bool (decide (0≤s2.1)))
def DR(a0:aH)(a1:ByteArray)(a2:Int)(R:T→Prop):Prop:=aJ BFM (fP [aI true aK a0,T.v (.string a1)]) fun (y0:fM×Bool)=>aC y0.2 (bA (Int×PUnit) (fun X1 s2=>aC (decide (s2.1<(↑(List.map BFK.enc y0.1.2.2.2).length:Int))) (aR BFK (List.map BFK.enc y0.1.2.2.2) s2.1 fun (y3:Int)=>aC (decide (a2=y3)) (R (BGU s2)) (BF0 X1 s2)) (R BFD)) (0,())) (R BFD)
abbrev FD:Sh:=[(true,aK),(false,Sy.str),(false,(Sy.int IntKind.i64))]
def uK (x:aH×ByteArray×Int):Option T:=CW x.1 (T.v (.bool (uI x.1 x.2.1 x.2.2)))
noncomputable def j0:List T→Option T:=gS FD uK
theorem TD {a0 a1 a2}:j0 [aI true aK a0,T.v (.string a1),T.v (.int .i64 a2)]=uK (a0,a1,a2):=bG (s:=FD) rfl (a0,a1,a2) rfl
theorem AFL:Of3 Tryz.prog 300 j0 uK (cD FD) DR:=AFI (a1:=(true,aK)) (a2:=(false,Sy.str)) (a3:=(false,(Sy.int IntKind.i64))) (sp:=uK) (F:=DR) (Hs:=AK2) (f:=300) (k:=8) V0 aU aY (aN rfl) ⟨_,_,Tryz.func300,rfl⟩ rfl fun _ _ _ _=>by kernel_rfl
theorem wD {m:aH} (h:okM m=true) (n:ByteArray):fP [aI true aK m,T.v (.string n)]=some (Sh.enc [(true,dD),(false,.bool)] (found j1 (fV m n))):=(YM ..).trans (wZ _ h)
theorem AEA:aO Tryz.prog 300 j0:=AFL fun m n t r h hb=>by
 obtain ⟨hok,rfl⟩:=wY h
 clear h
 unfold DR BGU BF0 BFM BFK BFD
 refine aG (s:=[(true,dD),(false,.bool)]) (wD hok n) ?_
 cases hg:fV m n with
 | none =>
  show aC false _ _
  rw[oE]
  exact iT (by unfold uI;rw[hg])
 | some g =>
  show aC true _ _
  rw[kH]
  dsimp only[found]
  have hlen:g.2.2.2.length≤1000:=by
   simp only[okM,Bool.and_eq_true,decide_eq_true_eq] at hok
   exact of_decide_eq_true (List.all_eq_true.1 hok.2 _ (List.mem_of_find?_eq_some hg))
  have w:uI m n t=g.2.2.2.any fun x=>decide (t=x):=by unfold uI;rw[hg]
  refine bM g.2.2.2.length (fun k s=>s=((k:Int),())∧g.2.2.2.any (fun x=>decide (t=x))=(g.2.2.2.drop k).any fun x=>decide (t=x)) ⟨rfl,by rw[List.drop_zero]⟩ ?_
  rintro X k s hk ⟨rfl,hf⟩ hX
  dsimp only
  refine b8 (fun hlt=>?_) fun hge=>iT ?_
  ·rw[List.length_map] at hlt
   have hlt:k<g.2.2.2.length:=by omega
   rw[List.drop_eq_getElem_cons hlt,List.any_cons] at hf
   rw[bH (r:=.int .i64) hlt]
   refine b8 (fun hc=>iT ?_) fun hc=>hX _ hlt ⟨by rw[MJ (by omega)],by rw[hf,decide_eq_false hc,Bool.false_or]⟩
   rw[w,hf,decide_eq_true hc,decide_eq_true (show 0≤(k:Int) by omega)];rfl
  ·rw[List.length_map] at hge
   have:k=g.2.2.2.length:=by omega
   subst this
   rw[w,hf,List.drop_length];rfl
end Go.Pv
namespace Go.Pv
open Go Go.Proofs
abbrev fN (p:aV):Int:=p.2.2.1
abbrev mN (p:aV):ByteArray:=p.2.2.2.1
abbrev gP (p:aV):ByteArray:=p.2.2.2.2.1
abbrev oC (p:aV):Int:=p.2.2.2.2.2.1
abbrev lE (p:aV):jA:=p.2.2.2.2.2.2.1
abbrev WR (p:aV):ByteArray:=p.2.2.2.2.2.2.2.1
abbrev ADB (p:aV):Int:=p.2.2.2.2.2.2.2.2.1
abbrev GF (p:aV):Int:=p.2.2.2.2.2.2.2.2.2.1
abbrev HF (p:aV):ALB:=p.2.2.2.2.2.2.2.2.2.2.1
abbrev aAt (p:aV):AD:=p.2.2.2.2.2.2.2.2.2.2.2
def U0 (p:aV):Bool:=!decide (oC p=0)||decide (0<(lE p).1.length+(lE p).2.length)
def A3L (p:aV):Bool:=!decide (WR p = { data:=#[] }) || !decide (ADB p=0)
def A50 (p:aV):Bool:=!decide (GF p=0) || !(decide ((HF p).1=0)&&(decide ((HF p).2.1=0)&&decide ((HF p).2.2=0)))
def mZ (p:aV):Bool:=if fN p=1 then A3L p||A50 p else if fN p=2∨fN p=3 then U0 p||A50 p else !decide (gP p = { data:=#[] })||(U0 p||A3L p)
noncomputable def AP1:Env:=Env.of []
def ASZ:FuncId→Hint:=fun f=>match f == 278 with|true=>⟨fun _=>.none,fun i j=>match i == 1&&j == 1 with|true=>some [.val 3 false .bool]|false=>match i == 2&&j == 2 with|true=>some [.val 4 false .bool]|false=>match i == 3&&j == 3 with|true=>some [.val 5 false .bool]|false=>none,fun _=>none⟩|false=>aZ
theorem AB3:aT Tryz.prog AP1:=.nil _
def BHB(s3:Bool×PUnit)(R:T→Prop)(s5:Bool×PUnit):Prop:=aC s3.1 (R BFI) (R (T.v (.bool s5.1)))
def JQ(a0:aV)(R:T→Prop):Prop:=qU (Bool×PUnit) (fun (X0:Bool×PUnit→Prop)=>aC (!decide (a0.2.2.2.2.2.1=0)) (X0 (true,())) (X0 (decide (0 < IntKind.i64.wrap ((↑(List.map aA.enc a0.2.2.2.2.2.2.1.1).length:Int) + (↑(List.map aA.li.enc a0.2.2.2.2.2.2.1.2).length:Int))), ()))) fun (s1:Bool×PUnit)=>qU (Bool×PUnit) (fun (X2:Bool×PUnit→Prop)=>aC (!decide (a0.2.2.2.2.2.2.2.1 = {data:=#[]})) (X2 (true,())) (X2 (!decide (a0.2.2.2.2.2.2.2.2.1=0),()))) fun (s3:Bool×PUnit)=>qU (Bool×PUnit) (fun (X4:Bool×PUnit→Prop)=>aC (!decide (a0.2.2.2.2.2.2.2.2.2.1=0)) (X4 (true,())) (X4 (!(decide (a0.2.2.2.2.2.2.2.2.2.2.1.1=0) && (decide (a0.2.2.2.2.2.2.2.2.2.2.1.2.1=0) && (decide (a0.2.2.2.2.2.2.2.2.2.2.1.2.2=0)&&true))), ()))) fun (s5:Bool×PUnit)=>aC (decide (a0.2.2.1=1)) (BHB s3 R s5) (aC (decide (a0.2.2.1=2)) (BHB s1 R s5) (aC (decide (a0.2.2.1=3)) (BHB s1 R s5) (aC (decide (a0.2.2.1=4)) (aC (!decide (a0.2.2.2.2.1 = {data:=#[]})) (R BFI) (BHB s1 R s3)) (aC (!decide (a0.2.2.2.2.1 = {data:=#[]})) (R BFI) (BHB s1 R s3)))))
abbrev M6:Sh:=[(true,aM)]
def yM (p:aV):Option T:=some (T.v (.bool (mZ p)))
noncomputable def mA:List T→Option T:=gS M6 yM
theorem YT {a0}:mA [aI true aM a0]=yM (a0):=bG (s:=M6) rfl (a0) rfl
theorem AN9:vF Tryz.prog 278 mA yM (cD M6) JQ:=jJ (a1:=(true,aM)) (sp:=yM) (F:=JQ) (Hs:=ASZ) (f:=278) (k:=8) AB3 aU aY (aN rfl) ⟨_,_,Tryz.func278,rfl⟩ rfl fun _ _=>by kernel_rfl
theorem TW {a b:Bool} {n:Bool} (h:n=(a||b)):aC a (T.v (.bool true)=T.v (.bool n)) (T.v (.bool b)=T.v (.bool n)):=by
 subst h;cases a<;>rfl
theorem AMF:aO Tryz.prog 278 mA:=AN9 fun p r h hb=>by
 have b1:(lE p).1.length≤2 ^ 47:=hb.2.2.2.2.2.2.1.1.1
 have b2:(lE p).2.length≤2 ^ 47:=hb.2.2.2.2.2.2.1.2.1
 cases h
 unfold JQ BHB BFI
 have j:∀ {a b:Bool} {K:Bool×PUnit→Prop},K (a||b,())→qU (Bool×PUnit) (fun (X:Bool×PUnit→Prop)=>aC a (X (true,())) (X (b,()))) K:=fun {a b K} hK=>by
  rw[x6];cases a<;>exact hK
 have e1:decide (0<IntKind.i64.wrap (((List.map aA.enc (lE p).1).length:Int)+((List.map aA.li.enc (lE p).2).length:Int)))=decide (0<(lE p).1.length+(lE p).2.length):=by
  rw[List.length_map,List.length_map,bD _ (by omega) (by omega)]
  exact decide_eq_decide.2 (by omega)
 refine j ?_
 refine j ?_
 refine j ?_
 dsimp only
 rw[e1,Bool.and_true]
 refine b8 (fun h=>TW (by unfold mZ;rw[if_pos h];rfl)) fun k1=>?_
 refine b8 (fun h=>TW (by unfold mZ;rw[if_neg k1,if_pos (.inl h)];rfl)) fun k2=>?_
 refine b8 (fun h=>TW (by unfold mZ;rw[if_neg k1,if_pos (.inr h)];rfl)) fun k3=>?_
 have w:mZ p=(!decide (gP p = { data:=#[] })||(U0 p||A3L p)):=by
  unfold mZ;rw[if_neg k1,if_neg];rintro (h|h)
  ·exact k2 h
  ·exact k3 h
 have fin:aC (!decide (gP p = { data:=#[] })) (T.v (.bool true)=T.v (.bool (mZ p))) (aC (U0 p) (T.v (.bool true)=T.v (.bool (mZ p))) (T.v (.bool (A3L p))=T.v (.bool (mZ p)))):=by
  rw[w]
  cases (!decide (gP p = { data:=#[] })) with
  | true=>rfl
  | false=>exact TW rfl
 exact b8 (fun _=>fin) fun _=>fin
def AI5 (m:aH) (n:ByteArray):Bool:=match NO m n with
 | some s=>decide (1≤s.2.1)&&decide (s.2.1≤1000000)&&(decide (1≤s.2.2.1)&&decide (s.2.2.1≤2000))
 | none=>false
def gM (p:aV) (m:aH):Bool:=if fN p=4 then true else match fV m (gP p) with
 | none=>false
 | some g=>decide (1000≤g.2.1)&&decide (g.2.1≤20000)&&(if fN p=1 then decide (1≤oC p)&&decide (oC p≤120)&&uI m (gP p) (oC p) else AI5 m (WR p))
noncomputable def AZ6:Env:=Env.of [(283,.pure fP),(284,.pure cN),(300,.pure j0)]
def A1P:FuncId→Hint:=fun _=>aZ
theorem AKL:aT Tryz.prog AZ6:=.cons EG (.cons LF (.cons AEA (.nil _)))
def BFJ:Sh:=[(true,bT),(false,Sy.bool)]
def BGW(y2:cJ×Bool)(R:T→Prop):Prop:=aC y2.2 (aC (decide (1≤y2.1.2.1)) (aC (decide (y2.1.2.1≤1000000)) (aC (decide (1≤y2.1.2.2.1)) (R (T.v (.bool (decide (y2.1.2.2.1≤2000))))) (R BFD)) (R BFD)) (R BFD)) (R BFD)
def BFW(a1:aH)(a0:aV)(R:T→Prop):Prop:=aJ BFJ (cN [aI true aK a1, T.v (.string a0.2.2.2.2.2.2.2.1)]) fun (y3:cJ×Bool)=>BGW y3 R
def BGV(a0:aV)(a1:aH)(R:T→Prop):Prop:=aC (decide (1≤a0.2.2.2.2.2.1)) (aC (decide (a0.2.2.2.2.2.1≤120)) (aJ BFG (j0 [aI true aK a1,T.v (.string a0.2.2.2.2.1), T.v (.int .i64 a0.2.2.2.2.2.1)]) fun (y1:Bool)=>R (T.v (.bool y1))) (R BFD)) (R BFD)
def BHD(a0:aV)(a1:aH)(R:T→Prop):Prop:=aC (decide (a0.2.2.1=3)) (BFW a1 a0 R) (aC (decide (a0.2.2.1=4)) (BFW a1 a0 R) (BFW a1 a0 R))
def BHE(a1:aH)(a0:aV):List T:=[aI true aK a1,T.v (.string a0.2.2.2.2.1)]
def BF5(a1:aH)(a0:aV)(R:T→Prop):Prop:=aJ BFM (fP (BHE a1 a0)) fun (y6:fM×Bool)=>aC (!y6.2) (R BFD) (aC (decide (1000≤y6.1.2.1)) (aC (!decide (y6.1.2.1≤20000)) (R BFD) (aC (decide (a0.2.2.1=1)) (BGV a0 a1 R) (aC (decide (a0.2.2.1=2)) (BFW a1 a0 R) (BHD a0 a1 R)))) (R BFD))
def R9(a0:aV)(a1:aH)(R:T→Prop):Prop:=aC (decide (a0.2.2.1=1)) (aJ BFM (fP (BHE a1 a0)) fun (y0:fM×Bool)=>aC (!y0.2) (R BFD) (aC (decide (1000≤y0.1.2.1)) (aC (!decide (y0.1.2.1≤20000)) (R BFD) (aC (decide (a0.2.2.1=1)) (BGV a0 a1 R) (aC (decide (a0.2.2.1=2)) (aJ BFJ (cN [aI true aK a1,T.v (.string a0.2.2.2.2.2.2.2.1)]) fun (y2:cJ×Bool)=>BGW y2 R) (BHD a0 a1 R)))) (R BFD))) (aC (decide (a0.2.2.1=2)) (BF5 a1 a0 R) (aC (decide (a0.2.2.1=3)) (BF5 a1 a0 R) (aC (decide (a0.2.2.1=4)) (R BFI) (BF5 a1 a0 R))))
abbrev UP:Sh:=[(true,aM),(true,aK)]
def DD (x:aV×aH):Option T:=CW x.2 (T.v (.bool (gM x.1 x.2)))
noncomputable def oR:List T→Option T:=gS UP DD
theorem AER {a0 a1}:oR [aI true aM a0,aI true aK a1]=DD (a0,a1):=bG (s:=UP) rfl (a0,a1) rfl
theorem AXU:rQ Tryz.prog 279 oR DD (cD UP) R9:=gZ (a1:=(true,aM)) (a2:=(true,aK)) (sp:=DD) (F:=R9) (Hs:=A1P) (f:=279) (k:=8) AKL aU aY (aN rfl) ⟨_,_,Tryz.func279,rfl⟩ rfl fun _ _ _=>by kernel_rfl
theorem CH (m:aH) (n:ByteArray):cN [aI true aK m,T.v (.string n)]=some (Sh.enc [(true,bT),(false,.bool)] (found zR (NO m n))):=TL ..
theorem AUS:aO Tryz.prog 279 oR:=AXU fun p m r h hb=>by
 obtain ⟨hok,rfl⟩:=wY h
 replace hok:okM m=true:=hok
 clear h
 have is:∀ {n:Bool},gM p m=n→T.v (.bool n)=T.v (.bool (gM p m)):=fun h=>by rw[h]
 unfold R9 BF5 BHE BHD BGV BFW BGW BFM BFJ BFI BFG BFD
 have sec:∀ {g:fM},fV m (gP p)=some g→¬ fN p=4→¬ fN p=1→1000≤g.2.1→g.2.1≤20000 →
   aJ [(true,bT),(false,Sy.bool)] (cN [aI true aK m,T.v (.string (WR p))])
    fun (y2:cJ×Bool) =>
    aC y2.2
     (aC (decide (1≤y2.1.2.1))
      (aC (decide (y2.1.2.1≤1000000))
       (aC (decide (1≤y2.1.2.2.1))
        (T.v (.bool (decide (y2.1.2.2.1≤2000)))=T.v (.bool (gM p m)))
        (T.v (.bool false)=T.v (.bool (gM p m))))
       (T.v (.bool false)=T.v (.bool (gM p m))))
      (T.v (.bool false)=T.v (.bool (gM p m))))
     (T.v (.bool false)=T.v (.bool (gM p m))):=by
  intro g hg k4 k1 d1 d2
  have w:gM p m=AI5 m (WR p):=by
   unfold gM;rw[if_neg k4,hg];dsimp only;rw[decide_eq_true d1,decide_eq_true d2,if_neg k1];rfl
  refine aG (s:=[(true,bT),(false,.bool)]) (CH m _) ?_
  cases hs:NO m (WR p) with
  | none =>
   show aC false _ _
   rw[oE];exact is (by rw[w];unfold AI5;rw[hs])
  | some s =>
   show aC true _ _
   rw[kH]
   dsimp only[found]
   have w2:gM p m=(decide (1≤s.2.1)&&decide (s.2.1≤1000000)&&(decide (1≤s.2.2.1)&&decide (s.2.2.1≤2000))):=by rw[w];unfold AI5;rw[hs]
   refine b8 (fun h1=>b8 (fun h2=>b8 (fun h3=>is ?_) fun h3=>is ?_) fun h2=>is ?_) fun h1=>is ?_
   ·rw[w2,decide_eq_true h1,decide_eq_true h2,decide_eq_true h3];rfl
   ·rw[w2,decide_eq_true h1,decide_eq_true h2,decide_eq_false h3];rfl
   ·rw[w2,decide_eq_true h1,decide_eq_false h2];rfl
   ·rw[w2,decide_eq_false h1];rfl
 have plate:∀ {g:fM},fV m (gP p)=some g→fN p=1→1000≤g.2.1→g.2.1≤20000 →
   aC (decide (1≤oC p)) (aC (decide (oC p≤120)) (aJ [(false,Sy.bool)] (j0 [aI true aK m,T.v (.string (gP p)),T.v (.int .i64 (oC p))]) fun (y1:Bool)=>T.v (.bool y1)=T.v (.bool (gM p m))) (T.v (.bool false)=T.v (.bool (gM p m)))) (T.v (.bool false)=T.v (.bool (gM p m))):=by
  intro g hg k1 d1 d2
  have w:gM p m=(decide (1≤oC p)&&decide (oC p≤120)&&uI m (gP p) (oC p)):=by
   unfold gM;rw[if_neg (by omega),hg];dsimp only;rw[decide_eq_true d1,decide_eq_true d2,if_pos k1];rfl
  refine b8 (fun h1=>b8 (fun h2=>?_) fun h2=>is ?_) fun h1=>is ?_
  ·refine aG (s:=[(false,.bool)]) (y:=uI m (gP p) (oC p)) ((TD ..).trans (wZ _ hok)) (is ?_)
   rw[w,decide_eq_true h1,decide_eq_true h2];rfl
  ·rw[w,decide_eq_true h1,decide_eq_false h2];rfl
  ·rw[w,decide_eq_false h1];rfl
 by_cases k4:p.2.2.1=4
 ·have w:gM p m=true:=by unfold gM;rw[if_pos k4]
  repeat' first
   | (exfalso;omega)
   | exact is w
   | refine b8 (fun h=>?_) (fun h=>?_)
 ·have hnone:fV m (gP p)=none→gM p m=false:=fun h=>by unfold gM;rw[if_neg k4,h]
  have dens:∀ {g:fM},fV m (gP p)=some g→¬ (1000≤g.2.1∧g.2.1≤20000)→gM p m=false:=fun {g} hg h=>by
   unfold gM;rw[if_neg k4,hg];dsimp only
   by_cases h1:1000≤g.2.1
   ·rw[decide_eq_false (show ¬ g.2.1≤20000 by omega),Bool.and_false,Bool.false_and]
   ·rw[decide_eq_false h1,Bool.false_and,Bool.false_and]
  have call:∀ {K:fM×Bool→Prop},(fV m (gP p)=none→K (j1,false))→(∀ g,fV m (gP p)=some g→K (g,true))→aJ [(true,dD),(false,Sy.bool)] (fP [aI true aK m,T.v (.string p.2.2.2.2.1)]) K:=fun {K} h1 h2=>by
   refine aG (s:=[(true,dD),(false,.bool)]) (wD hok _) ?_
   cases hg:fV m (gP p) with
   | none=>exact h1 hg
   | some g=>exact h2 g hg
  have body:∀ {K:fM×Bool→Prop},(∀ g,fV m (gP p)=some g→1000≤g.2.1→g.2.1≤20000→K (g,true))→aJ [(true,dD),(false,Sy.bool)] (fP [aI true aK m,T.v (.string p.2.2.2.2.1)]) fun (y0:fM×Bool)=>aC (!y0.2) (T.v (.bool false)=T.v (.bool (gM p m))) (aC (decide (1000≤y0.1.2.1)) (aC (!decide (y0.1.2.1≤20000)) (T.v (.bool false)=T.v (.bool (gM p m))) (K y0)) (T.v (.bool false)=T.v (.bool (gM p m)))):=fun {K} hK=>by
   refine call (fun hn=>?_) fun g hg=>?_
   ·show aC true _ _
    rw[kH];exact is (hnone hn)
   ·show aC false _ _
    rw[oE]
    exact b8 (fun d1=>lA (fun d2=>is (dens hg (fun h=>d2 h.2))) fun d2=>hK g hg d1 d2) fun d1=>is (dens hg (fun h=>d1 h.1))
  refine b8 (fun h=>body fun g hg d1 d2=>?_) fun h1=>b8 (fun h=>body fun g hg d1 d2=>?_) fun h2=>b8 (fun h=>body fun g hg d1 d2=>?_) fun h3=>b8 (fun h=>absurd h k4) fun _=>body fun g hg d1 d2=>?_
  all_goals
   repeat' first
    | (exfalso;omega)
    | exact plate hg (by assumption) d1 d2
    | exact sec hg k4 (by assumption) d1 d2
    | exact sec hg k4 (by intro h';have h'':p.2.2.1=1:=h';omega) d1 d2
    | refine b8 (fun h=>?_) (fun h=>?_)
def oK (p:aV) (m:aH):Int:=if wV p.1=false∨wV (mN p)=false then 6 else if ¬ (1≤p.2.1∧p.2.1≤1000) then 9 else if ¬ (fN p=1∨fN p=2∨fN p=3∨fN p=4) then 10 else if mZ p=true then 2 else if gM p m=false then 23 else
 if fN p=1∧¬ w5 (lE p)=0 then w5 (lE p) else if (fN p=2∨fN p=3)∧¬ (1≤ADB p∧ADB p≤32768) then 9 else if fN p=4∧¬ (1≤GF p∧GF p≤1099511627776∧zV (HF p)=true) then 9 else if rM (aAt p)=false then 9 else 0
noncomputable def AJ7:Env:=Env.of [(232,.pure eM),(278,.pure mA),(279,.pure oR),(280,.pure iV),(282,.pure cF)]
def AK5:FuncId→Hint:=fun _=>aZ
theorem V3:aT Tryz.prog AJ7:=.cons IM (.cons AMF (.cons AUS (.cons PF (.cons AMR (.nil _)))))
def BFL:T:=T.v (.int .i64 2)
def BFT:T:=T.v (.int .i64 23)
def BGK(a0:aV)(R:T→Prop):Prop:=aJ BFG (cF [aI true eQ a0.2.2.2.2.2.2.2.2.2.2.2]) fun (y5:Bool)=>aC (!y5) (R BFE) (R BFH)
def BG6(a0:aV)(R:T→Prop):Prop:=aC (decide (1≤a0.2.2.2.2.2.2.2.2.1)) (aC (!decide (a0.2.2.2.2.2.2.2.2.1≤32768)) (R BFE) (BGK a0 R)) (R BFE)
def BFV(a0:aV)(R:T→Prop)(a1:aH):Prop:=aJ BFG (mA [aI true aM a0]) fun (y2:Bool)=>aC y2 (R BFL) (aJ BFG (oR [aI true aM a0,aI true aK a1]) fun (y3:Bool)=>aC (!y3) (R BFT) (aC (decide (a0.2.2.1=1)) (aJ BFF (iV [aI true dZ a0.2.2.2.2.2.2.1]) fun (y4:Int)=>aC (!decide (y4=0)) (R (BGT y4)) (BGK a0 R)) (aC (decide (a0.2.2.1=2)) (BG6 a0 R) (aC (decide (a0.2.2.1=3)) (BG6 a0 R) (aC (decide (a0.2.2.1=4)) (aC (decide (1≤a0.2.2.2.2.2.2.2.2.2.1)) (aC (!decide (a0.2.2.2.2.2.2.2.2.2.1≤1099511627776)) (R BFE) (aJ BFG (cF [T.agg [T.v (.int .i64 a0.2.2.2.2.2.2.2.2.2.2.1.1), T.v (.int .i64 a0.2.2.2.2.2.2.2.2.2.2.1.2.1), T.v (.int .i64 a0.2.2.2.2.2.2.2.2.2.2.1.2.2), T.v (.int .i64 0)]]) fun (y8:Bool)=>aC (!y8) (R BFE) (BGK a0 R))) (R BFE)) (BGK a0 R))))))
def DU(a0:aV)(a1:aH)(R:T→Prop):Prop:=aJ BFG (eM [T.v (.string a0.1)]) fun (y0:Bool)=>aC (!y0) (R BFP) (aJ BFG (eM [T.v (.string a0.2.2.2.1)]) fun (y1:Bool)=>aC (!y1) (R BFP) (aC (decide (1≤a0.2.1)) (aC (!decide (a0.2.1≤1000)) (R BFE) (aC (decide (a0.2.2.1=1)) (BFV a0 R a1) (aC (decide (a0.2.2.1=2)) (BFV a0 R a1) (aC (decide (a0.2.2.1=3)) (BFV a0 R a1) (aC (decide (a0.2.2.1=4)) (BFV a0 R a1) (R (T.v (.int .i64 10)))))))) (R BFE)))
abbrev FH:Sh:=[(true,aM),(true,aK)]
def uN (x:aV×aH):Option T:=CW x.2 (T.v (Value.int .i64 (oK x.1 x.2)))
noncomputable def lP:List T→Option T:=gS FH uN
theorem TH {a0 a1}:lP [aI true aM a0,aI true aK a1]=uN (a0,a1):=bG (s:=FH) rfl (a0,a1) rfl
theorem AFO:rQ Tryz.prog 234 lP uN (cD FH) DU:=gZ (a1:=(true,aM)) (a2:=(true,aK)) (sp:=uN) (F:=DU) (Hs:=AK5) (f:=234) (k:=8) V3 aU aY (aN rfl) ⟨_,_,Tryz.func234,rfl⟩ rfl fun _ _ _=>by kernel_rfl
theorem LD:aO Tryz.prog 234 lP:=AFO fun p m r h hb=>by
 obtain ⟨hok,rfl⟩:=wY h
 replace hok:okM m=true:=hok
 clear h hb
 have is:∀ {n:Int},oK p m=n→T.v (.int .i64 n)=T.v (.int .i64 (oK p m)):=fun h=>by rw[h]
 unfold DU BFV BG6 BGT BGK BFT BFP BFL BFH BFG BFF BFE
 rw[mU]
 refine gQ (fun h=>is (by unfold oK;rw[if_pos (.inl h)])) fun i1=>?_
 rw[mU]
 refine gQ (fun h=>is (by unfold oK;rw[if_pos (.inr h)])) fun i2=>?_
 have n1:¬ (wV p.1=false∨wV (mN p)=false):=by
  rintro (h|h)
  ·rw[i1] at h;cases h
  ·rw[show wV (mN p)=true from i2] at h;cases h
 have r9:¬ (1≤p.2.1∧p.2.1≤1000)→T.v (.int .i64 9)=T.v (.int .i64 (oK p m)):=fun h=>is (by unfold oK;rw[if_neg n1,if_pos h])
 refine b8 (fun v1=>lA (fun h=>r9 (fun h2=>h h2.2)) fun v2=>?_) fun h=>r9 (fun h2=>h h2.1)
 have n2:¬ ¬ (1≤p.2.1∧p.2.1≤1000):=fun h=>h ⟨v1,v2⟩
 have w1:oK p m=if ¬ (fN p=1∨fN p=2∨fN p=3∨fN p=4) then 10 else if mZ p=true then 2 else if gM p m=false then 23 else if fN p=1∧¬ w5 (lE p)=0 then w5 (lE p) else if (fN p=2∨fN p=3)∧¬ (1≤ADB p∧ADB p≤32768) then 9 else if fN p=4∧¬ (1≤GF p∧GF p≤1099511627776∧zV (HF p)=true) then 9 else if rM (aAt p)=false then 9 else 0:=by
  unfold oK;rw[if_neg n1,if_neg n2]
 have spare:∀ {K:Bool→Prop},K (mZ p)→aJ [(false,Sy.bool)] (mA [aI true aM p]) K:=fun h=>aG (s:=[(false,.bool)]) (y:=mZ p) (YT ..) h
 have made:∀ {K:Bool→Prop},K (gM p m)→aJ [(false,Sy.bool)] (oR [aI true aM p,aI true aK m]) K:=fun h=>aG (s:=[(false,.bool)]) (y:=gM p m) ((AER ..).trans (wZ _ hok)) h
 have place:∀ {K:Bool→Prop},K (rM (aAt p))→aJ [(false,Sy.bool)] (cF [aI true eQ (aAt p)]) K:=fun h=>aG (s:=[(false,.bool)]) (y:=rM (aAt p)) (GV ..) h
 have near:∀ {K:Bool→Prop},K (zV (HF p))→aJ [(false,Sy.bool)] (cF [aI true eQ (HF p,0)]) K:=fun {K} h=>aG (s:=[(false,.bool)]) (y:=rM (HF p,0)) (GV ..) (by
  rw[show rM (HF p,0)=zV (HF p) by unfold rM;rw[show decide (((HF p,(0:Int)):AD).2=AFH ((HF p,(0:Int)):AD).2)=true from rfl,Bool.and_true]];exact h)
 have reg:∀ {K:Int→Prop},K (w5 (lE p))→aJ [(false,Sy.int IntKind.i64)] (iV [aI true dZ (lE p)]) K:=fun h=>aG (s:=[(false,.int .i64)]) (GQ _) h
 repeat' first
  | (exfalso;omega)
  | refine spare ?_
  | refine made ?_
  | refine reg ?_
  | refine place ?_
  | refine near ?_
  | refine lA (fun h=>?_) (fun h=>?_)
  | refine b8 (fun h=>?_) (fun h=>?_)
  | refine gQ (fun h=>?_) (fun h=>?_)
  | refine uV (fun h=>?_) (fun h=>?_)
 all_goals (refine is ?_;clear spare made place near reg is r9;rw[w1];clear w1 n1 n2 i1 i2;simp_all;try (intros;exfalso;simp only[ADB,GF] at *;omega))
theorem CG {m:aH} (h:okM m=true) (p:aV):lP [aI true aM p,aI true aK m]=some (Sh.enc [(false,.int .i64)] (oK p m)):=(TH ..).trans (wZ _ h)
def AE1 (m:aH) (n:ByteArray):fM:=(fV m n).getD j1
def BD1 (m:aH) (n:ByteArray):cJ:=(NO m n).getD zR
theorem AH6 {α:Type} {no:α} {o:Option α}:(found no o).1=o.getD no:=by cases o<;>rfl
def QJ (p:aV) (m:aH):Int:=if fN p=1 then IntKind.i64.wrap ((IntKind.i64.wrap (IntKind.i64.wrap (AAP (lE p)*oC p)*(AE1 m (gP p)).2.1)).tdiv 2000000) else if fN p=2∨fN p=3 then IntKind.i64.wrap ((IntKind.i64.wrap (IntKind.i64.wrap ((BD1 m (WR p)).2.1*ADB p)*(AE1 m (gP p)).2.1)).tdiv 1000000) else GF p
def zO (p:aV) (m:aH):Int×Int:=if oK p m=0 then (QJ p m,0) else (0,oK p m)
noncomputable def AP2:Env:=Env.of [(234,.pure lP),(283,.pure fP),(284,.pure cN),(285,.pure sJ)]
def AS0:FuncId→Hint:=fun _=>aZ
theorem AB4:aT Tryz.prog AP2:=.cons LD (.cons EG (.cons LF (.cons AMI (.nil _))))
def BG3(R:T→Prop)(y2:cJ×Bool)(a0:aV)(y1:fM×Bool):Prop:=bN true (R (T.cA [T.v (.int .i64 (IntKind.i64.wrap ((IntKind.i64.wrap (IntKind.i64.wrap (y2.1.2.1*a0.2.2.2.2.2.2.2.2.1) * y1.1.2.1)).tdiv 1000000))), T.v (.int .i64 0)]))
def BHF(a0:aV):List T:=[T.v (.int .i64 a0.2.2.2.2.2.2.2.2.2.1), T.v (.int .i64 0)]
def JR(a0:aV)(a1:aH)(R:T→Prop):Prop:=aJ BFF (lP [aI true aM a0,aI true aK a1]) fun (y0:Int)=>aC (!decide (y0=0)) (R (T.cA [T.v (.int .i64 0),T.v (.int .i64 y0)])) (aJ BFM (fP (BHE a1 a0)) fun (y1:fM×Bool)=>aJ BFJ (cN [aI true aK a1,T.v (.string a0.2.2.2.2.2.2.2.1)]) fun (y2:cJ×Bool)=>aC (decide (a0.2.2.1=1)) (aJ BFF (sJ [aI true dZ a0.2.2.2.2.2.2.1]) fun (y3:Int)=>bN true (R (T.cA [T.v (.int .i64 (IntKind.i64.wrap ((IntKind.i64.wrap (IntKind.i64.wrap (y3*a0.2.2.2.2.2.1)*y1.1.2.1)).tdiv 2000000))), T.v (.int .i64 0)]))) (aC (decide (a0.2.2.1=2)) (BG3 R y2 a0 y1) (aC (decide (a0.2.2.1=3)) (BG3 R y2 a0 y1) (aC (decide (a0.2.2.1=4)) (R (T.cA (BHF a0))) (R (T.cA (BHF a0)))))))
abbrev M7:Sh:=[(true,aM),(true,aK)]
abbrev AAN:Sh:=[(false,Sy.int IntKind.i64),(false,Sy.int IntKind.i64)]
def yN (x:aV×aH):Option T:=CW x.2 (Sh.enc AAN (zO x.1 x.2))
noncomputable def sF:List T→Option T:=gS M7 yN
theorem YU {a0 a1}:sF [aI true aM a0,aI true aK a1]=yN (a0,a1):=bG (s:=M7) rfl (a0,a1) rfl
theorem AOA:rQ Tryz.prog 235 sF yN (cD M7) JR:=gZ (a1:=(true,aM)) (a2:=(true,aK)) (sp:=yN) (F:=JR) (Hs:=AS0) (f:=235) (k:=8) AB4 aU aY (aN rfl) ⟨_,_,Tryz.func235,rfl⟩ rfl fun _ _ _=>by kernel_rfl
theorem AMG:aO Tryz.prog 235 sF:=AOA fun p m r h hb=>by
 obtain ⟨hok,rfl⟩:=wY h
 replace hok:okM m=true:=hok
 clear h hb
 have is:∀ {a b:Int},zO p m=(a,b)→T.cA [T.v (.int .i64 a),T.v (.int .i64 b)]=Sh.enc AAN (zO p m):=fun h=>by rw[h];rfl
 unfold JR BHF BG3 BHE BFM BFJ BFF
 refine aG (s:=[(false,.int .i64)]) (CG hok p) ?_
 refine lA (fun h=>is (by unfold zO;rw[if_neg h])) fun h=>?_
 refine aG (s:=[(true,dD),(false,.bool)]) (wD hok _) ?_
 refine aG (s:=[(true,bT),(false,.bool)]) (CH m _) ?_
 have w:zO p m=(QJ p m,0):=by unfold zO;rw[if_pos h]
 have eg:(found j1 (fV m (gP p))).1=AE1 m (gP p):=AH6
 have es:(found zR (NO m (WR p))).1=BD1 m (WR p):=AH6
 refine b8 (fun k1=>?_) fun k1=>?_
 ·refine aG (s:=[(false,.int .i64)]) (Y0 _) ?_
  refine ⟨rfl,is ?_⟩
  rw[w];unfold QJ;rw[if_pos k1,←eg]
 refine b8 (fun k2=>⟨rfl,is ?_⟩) fun k2=>?_
 ·rw[w];unfold QJ;rw[if_neg k1,if_pos (.inl k2),←eg,←es]
 refine b8 (fun k3=>⟨rfl,is ?_⟩) fun k3=>?_
 ·rw[w];unfold QJ;rw[if_neg k1,if_pos (.inr k3),←eg,←es]
 have fin:zO p m=(GF p,0):=by
  rw[w];unfold QJ;rw[if_neg k1,if_neg];rintro (h|h)
  ·exact k2 h
  ·exact k3 h
 exact b8 (fun _=>is fin) fun _=>is fin
theorem YV {m:aH} (h:okM m=true) (p:aV):sF [aI true aM p,aI true aK m]=some (Sh.enc [(false,.int .i64),(false,.int .i64)] (zO p m)):=(YU ..).trans (wZ _ h)
end Go.Pv
namespace Go.Pv
open Go Go.Proofs
def nG (a0:aB) (m1:List aD) (m2:List aD) (m3:List aD) (m4:List aD) (a5:aH):List T:=[N0 a0 m1 m2 m3 m4,T.agg (aK.enc a5)]
noncomputable def JA:Env:=Env.of [(234,.pure lP),(235,.pure sF)]
def WM:FuncId→Hint:=bX 82 [(2,.inv [.val 23 false (.int .i64)]),(13,.inv [.val 10 false (.int .i64),.val 54 false (.int .i64)])] (fun _=>aZ)
theorem ABV:aT Tryz.prog JA:=.cons LD (.cons AMG (.nil _))
def BFU:T:=T.v (.int .i64 8)
def BF3(a0:aB):List (List T):=List.map aM.enc a0.2.2.1
def JI(a0:aB)(m1:List aD)(m2:List aD)(m3:List aD)(m4:List aD)(a5:aH)(R:T→Prop):Prop:=bA (Int×PUnit) (fun X0 s1=>aC (decide (s1.1<(↑(BF3 a0).length:Int))) (aR aM (BF3 a0) s1.1 fun (y2:aV)=>aJ BFF (lP [aI true aM y2,aI true aK a5]) fun (y3:Int)=>aC (!decide (y3=0)) (R (BGT y3)) (gX TypeDesc.string (Value.string y2.2.2.2.1) (qB (bL m1)) false BFK (R BFU) fun (i4:Nat) (y5:Int)=>X0 (IntKind.i64.wrap (s1.1+1),()))) (bA (Int×Int×PUnit) (fun X6 s7=>aC (decide (s7.2.1<(↑(BF3 a0).length:Int))) (aR aM (BF3 a0) s7.2.1 fun (y8:aV)=>aJ [(false,Sy.int IntKind.i64),(false,Sy.int IntKind.i64)] (sF [aI true aM y8,aI true aK a5]) fun (y9:aP)=>aC (decide (1099511627776<IntKind.i64.wrap (s7.1+y9.1))) (R (T.v (.int .i64 13))) (X6 (IntKind.i64.wrap (s7.1+y9.1),IntKind.i64.wrap (s7.2.1+1),()))) (R BFH)) (0,0,()))) (0,())
theorem WD ( a0 m1 m2 m3 m4 a5 R):dW bW Tryz.prog JA WM 8 82 (nG a0 m1 m2 m3 m4 a5) R=JI a0 m1 m2 m3 m4 a5 R:=by kernel_rfl
theorem RN (x y:aB×MP×MP×MP×MP×aH) (h:nG x.1 x.2.1 x.2.2.1 x.2.2.2.1 x.2.2.2.2.1 x.2.2.2.2.2=nG y.1 y.2.1 y.2.2.1 y.2.2.2.1 y.2.2.2.2.1 y.2.2.2.2.2):x=y:=by
 obtain ⟨h1,h2⟩:=List.cons.inj h
 have:=p8 (x:=(x.1,x.2.1,x.2.2.1,x.2.2.2.1,x.2.2.2.2.1)) (y:=(y.1,y.2.1,y.2.2.1,y.2.2.2.1,y.2.2.2.2.1)) h1
 have h2:=Sy.dH aK _ _ (T.agg.inj (List.cons.inj h2).1)
 simp only[Prod.mk.injEq] at this
 obtain ⟨e1,e2,e3,e4,e5⟩:=this
 exact Prod.ext e1 (Prod.ext e2 (Prod.ext e3 (Prod.ext e4 (Prod.ext e5 h2))))
def j2 (d:aB) (m:aH) (p:aV):Int:=if oK p m=0 then (if (fG d (mN p)).isNone=true then 8 else 0) else oK p m
def F3 (m:aH):List aV→Int→Int
 | [],_=>0
 | p::l,s=>if 1099511627776<IntKind.i64.wrap (s+(zO p m).1) then 13 else F3 m l (IntKind.i64.wrap (s+(zO p m).1))
def lL (d:aB) (m:aH):Int:=if cE (j2 d m) d.2.2.1=0 then F3 m d.2.2.1 0 else cE (j2 d m) d.2.2.1
def sW (x:aB×MP×MP×MP×MP×aH):Option T:=match okM x.2.2.2.2.2 with
 | true=>u5 (x.1,x.2.1,x.2.2.1,x.2.2.2.1,x.2.2.2.2.1) (T.v (Value.int .i64 (lL x.1 x.2.2.2.2.2)))
 | false=>none
noncomputable def sB:List T→Option (T):=gA (fun (x:aB×List aD×List aD×List aD×List aD×aH)=>nG x.1 x.2.1 x.2.2.1 x.2.2.2.1 x.2.2.2.2.1 x.2.2.2.2.2) sW
theorem YG (a0:aB) (m1:List aD) (m2:List aD) (m3:List aD) (m4:List aD) (a5:aH):sB (nG a0 m1 m2 m3 m4 a5)=sW (a0,m1,m2,m3,m4,a5):=fA (A:=(fun (x:aB×List aD×List aD×List aD×List aD×aH)=>nG x.1 x.2.1 x.2.2.1 x.2.2.2.1 x.2.2.2.2.1 x.2.2.2.2.2)) RN (a0,m1,m2,m3,m4,a5)
theorem AN1 (h:∀ (a0:aB) (m1:List aD) (m2:List aD) (m3:List aD) (m4:List aD) (a5:aH) (r:T),sW (a0,m1,m2,m3,m4,a5)=some r→(∀ t∈nG a0 m1 m2 m3 m4 a5,Bd t)→JI a0 m1 m2 m3 m4 a5 (fun y=>y=r)):aO Tryz.prog 82 sB :=
 cP (E:=JA) (Hs:=WM) ABV aU aY (aN rfl) 8 ⟨_,_,Tryz.func82,rfl⟩ fun x r h1 h2=>by
  rw[WD]
  exact h x.1 x.2.1 x.2.2.1 x.2.2.2.1 x.2.2.2.2.1 x.2.2.2.2.2 r h1 h2
theorem AMA:aO Tryz.prog 82 sB:=AN1 fun d m1 m2 m3 m4 m r h hb=>by
 unfold sW at h
 split at h
 case h_2=>cases h
 rename_i hok
 replace hok:okM m=true:=hok
 obtain ⟨hx,hs,rfl⟩:=nU h
 simp only[Prod.mk.injEq,true_and] at hx
 obtain ⟨rfl,rfl,rfl,rfl⟩:=hx
 replace hs:mR d:=hs
 clear h hb
 have is:∀ {n:Int},lL d m=n→T.v (.int .i64 n)=T.v (.int .i64 (lL d m)):=fun h=>by rw[h]
 unfold JI BF3 BGT BFU BFK BFH BFF
 refine pM (r:=aM) (j2 d m) hs.p (fun X s y hy hgo hbad=>?_) fun h0=>?_
 ·have bad:∀ {n:Int},n≠0→j2 d m y=n→T.v (.int .i64 n)=T.v (.int .i64 (lL d m)):=fun hn h=>by
   have h1:=hbad (by rw[h];exact hn)
   refine is ?_
   unfold lL
   rw[if_neg (by rw[h1,h];exact hn),h1,h]
  refine aG (s:=[(false,.int .i64)]) (CG hok y) ?_
  refine lA (fun h=>bad h (by unfold j2;rw[if_neg h])) fun h=>?_
  refine ixK (fun hn=>bad (by decide) ?_) fun i j hj hn=>hgo ?_
  ·have hn:fG d (mN y)=none:=hn
   unfold j2;rw[if_pos h,hn];rfl
  ·have hn:fG d (mN y)=some d.2.1[j]:=hn
   unfold j2;rw[if_pos h,hn];rfl
 ·have w:lL d m=F3 m d.2.2.1 0:=by unfold lL;rw[if_pos h0]
  clear h0
  have hl:=hs.p
  generalize d.2.2.1=l at w hl ⊢
  refine bM l.length (fun k s=>s.2.1=(k:Int)∧F3 m (l.drop k) s.1=lL d m) ⟨rfl,by rw[w];rfl⟩ ?_
  rintro X k ⟨s,i,u⟩ hk ⟨rfl,he⟩ hX
  dsimp only at he ⊢
  refine b8 (fun hlt=>?_) fun hge=>?_
  ·rw[List.length_map] at hlt
   have hlt:k<l.length:=by omega
   rw[bH (r:=aM) hlt]
   rw[List.drop_eq_getElem_cons hlt,F3] at he
   refine aG (s:=[(false,.int .i64),(false,.int .i64)]) (YV hok _) ?_
   refine b8 (fun h=>is (by rw[←he,if_pos h])) fun h=>?_
   rw[if_neg h] at he
   refine hX _ hlt ⟨?_,he⟩
   show IntKind.i64.wrap ((k:Int)+1)=_
   rw[bD]<;>omega
  ·rw[List.length_map] at hge
   have:k=l.length:=by omega
   subst this
   rw[List.drop_length,F3] at he
   exact is he.symm
end Go.Pv
namespace Go.Pv
open Go Go.Proofs
def nF (a0:aB) (m1:List aD) (m2:List aD) (m3:List aD) (m4:List aD):List T:=[N0 a0 m1 m2 m3 m4]
noncomputable def I9:Env:=Env.of [(232,.pure eM),(227,.pure vA),(237,.pure ES),(236,.pure gL),(233,.pure kO),(238,.new CF)]
def WL:FuncId→Hint:=bX 84 [(4,.inv [.own 3 2 (.pr (.int .i64) (.int .i64)),.map 0 .str false .bool,.val 29 false (.int .i64)]),(15,.inv [.val 76 false (.int .i64),.map 0 .str false .bool]),(31,.inv [.own 3 2 (.pr (.int .i64) (.int .i64)),.val 147 false (.int .i64)])] (fun _=>aZ)
theorem ABU:aT Tryz.prog I9:=.cons IM (.cons A5W (.cons A3B (.cons XQ (.cons PH (.cons AUR (.nil _))))))
def BF6(a0:aB):List (List T):=List.map aS.enc a0.2.2.2.2.2
def BFZ(a0:aB):List (List T):=List.map aF.enc a0.2.2.2.2.1
def BF4(a0:aB):List (List T):=List.map a7.enc a0.2.2.2.1
def BG1(y3:aL):List (List T):=List.map Sy.str.enc y3.2.2.1
def BF8(a0:aB):List (List T):=List.map a6.enc a0.2.1
def BGA(a0:aB):List T:=[T.v (.string a0.1), T.sl false (BF8 a0), T.sl false (BF3 a0), T.sl false (BF4 a0), T.sl false (BFZ a0), T.sl false (BF6 a0)]
def BGR(y3:aL):List (List T):=List.map Sy.str.enc y3.2.2.2.2
def BGD(y13:ByteArray)(s12:Int×List (ByteArray×Bool)×PUnit)(X11:Int×List (ByteArray×Bool)×PUnit→Prop):Prop:=fH (Option (Nat×D)) (findD TypeDesc.string (Value.string y13) (List.map (cQ Sy.str false Sy.bool) s12.2.1) 0) fun (y24:Option (Nat×D))=>dS Sy.str false Sy.bool (e8 (List.map (cQ Sy.str false Sy.bool) s12.2.1) y24 (Value.string y13) (D.p BFI)) fun (y25:List (ByteArray×Bool))=>X11 (IntKind.i64.wrap (s12.1+1),y25,())
def BG0(a0:aB)(m1:List aD)(m2:List aD)(m3:List aD)(m4:List aD):List T:=[T.ref (BGA a0), T.mp (bL m1),T.mp (bL m2), T.mp (bL m3),T.mp (bL m4)]
def BG2(a0:aB):List T:=[T.v (.string a0.1),T.sl false (BF8 a0), T.sl false (BF3 a0), T.sl false (BF4 a0), T.sl false (BFZ a0), T.sl false (BF6 a0)]
def BHC(y18:List ByteArray×Bool):List (List T):=List.map Sy.str.enc y18.1
def JH(a0:aB)(m1:List aD)(m2:List aD)(m3:List aD)(m4:List aD)(R:T→Prop):Prop:=dS Sy.str false Sy.bool [] fun (y0:List (ByteArray×Bool))=>bA (List aP×List (ByteArray×Bool)×Int×PUnit) (fun X1 s2=>aC (decide (s2.2.2.1<(↑(BFZ a0).length:Int))) (aR aF (BFZ a0) s2.2.2.1 fun (y3:aL)=>aJ BFG (eM [T.v (.string y3.1)]) fun (y4:Bool)=>aC (!y4) (R BFP) (aJ BFG (gL [T.ref [T.ref (BG2 a0), T.mp (bL m1),T.mp (bL m2),T.mp (bL m3), T.mp (bL m4)], T.v (.string y3.2.1)]) fun (y5:Bool)=>aC (!y5) (R BFU) (aC (decide (y3.2.2.2.1<1)) (R BFE) (aC (decide (10000<y3.2.2.2.1)) (R BFE) (aJ [(false,Sy.any)] (ES [T.sl false (BG1 y3)]) fun (y6:T)=>aJ BFG (vA [T.v (.int .i64 (↑(BG1 y3).length:Int)), y6]) fun (y7:Bool)=>aC (!y7) (R BFQ) (aJ [(false,Sy.any)] (ES [T.sl false (BGR y3)]) fun (y8:T)=>aJ BFG (vA [T.v (.int .i64 (↑(BGR y3).length:Int)), y8]) fun (y9:Bool)=>aC (!y9) (R BFQ) (dS Sy.str false Sy.bool (List.map (cQ Sy.str false Sy.bool) s2.2.1) fun (y10:List (ByteArray×Bool))=>bA (Int×List (ByteArray×Bool)×PUnit) (fun X11 s12=>aC (decide (s12.1<(↑(BG1 y3).length:Int))) (aR Sy.str (BG1 y3) s12.1 fun (y13:ByteArray)=>gX TypeDesc.string (Value.string y13) (qB (bL m2)) false BFK (R BFU) fun (i14:Nat) (y15:Int)=>aR aM (BF3 a0) y15 fun (y16:aV)=>aC (!decide (y16.2.2.1=4)) (aC (!decide (y16.2.2.1=3)) (R (T.v (.int .i64 10))) (aR aM (BF3 a0) y15 fun (y17:aV)=>aJ [(false,Sy.str.li),(false,Sy.bool)] (kO [T.ref (BG0 a0 m1 m2 m3 m4), T.v (.string y17.2.2.2.1)]) fun (y18:List ByteArray×Bool)=>aC (decide ((↑(BHC y18).length:Int)=0)) (R BFL) (aR Sy.str (BHC y18) (IntKind.i64.wrap ((↑(BHC y18).length:Int)-1)) fun (y19:ByteArray)=>aC (!decide (y19=y3.2.1)) (R BFL) (gX TypeDesc.string (Value.string y13) (List.map (cQ Sy.str false Sy.bool) s12.2.1) false Sy.bool (BGD y13 s12 X11) fun (i20:Nat) (y21:Bool)=>aC y21 (R (T.v (.int .i64 7))) (fH (Option (Nat×D)) (findD TypeDesc.string (Value.string y13) (List.map (cQ Sy.str false Sy.bool) s12.2.1) 0) fun (y22:Option (Nat×D))=>dS Sy.str false Sy.bool (e8 (List.map (cQ Sy.str false Sy.bool) s12.2.1) y22 (Value.string y13) (D.p BFI)) fun (y23:List (ByteArray×Bool))=>X11 (IntKind.i64.wrap (s12.1+1),y23, ())))))) (aR aM (BF3 a0) y15 fun (y26:aV)=>aJ [(false,Sy.str.li),(false,Sy.bool)] (kO [T.ref (BG0 a0 m1 m2 m3 m4), T.v (.string y26.2.2.2.1)]) fun (y27:List ByteArray×Bool)=>aC (decide ((↑(BHC y27).length:Int)=0)) (R BFL) (aR Sy.str (BHC y27) (IntKind.i64.wrap ((↑(BHC y27).length:Int)-1)) fun (y28:ByteArray)=>aC (!decide (y28=y3.2.1)) (R BFL) (gX TypeDesc.string (Value.string y13) (List.map (cQ Sy.str false Sy.bool) s12.2.1) false Sy.bool (BGD y13 s12 X11) fun (i29:Nat) (y30:Bool)=>aC y30 (R (T.v (.int .i64 7))) (BGD y13 s12 X11))))) (lT aA (List.map aA.enc s2.1) fun (y35:List aP)=>bA (List aP×Int×PUnit) (fun X36 s37=>aC (decide (s37.2.1 < (↑(BGR y3).length:Int))) (aR Sy.str (BGR y3) s37.2.1 fun (y38:ByteArray)=>aC (decide (y38=y3.1)) (R BFL) (gX TypeDesc.string (Value.string y38) (qB (bL m4)) false BFK (R BFU) fun (i39:Nat) (y40:Int)=>bN (decide (((List.map aA.enc s37.1).length+1)*16 ≤ 140737488355328) && decide ((List.map aA.enc s37.1).length+1 ≤ 140737488355328)) (lT aA (List.map aA.enc s37.1 ++ [[T.v (.int .i64 y40), T.v (.int .i64 s2.2.2.1)]]) fun (y41:List aP)=>X36 (y41,IntKind.i64.wrap (s37.2.1+1),())))) (lT aA (List.map aA.enc s37.1) fun (y42:List aP)=>dS Sy.str false Sy.bool (List.map (cQ Sy.str false Sy.bool) s12.2.1) fun (y43:List (ByteArray×Bool))=>X1 (y42,y43,IntKind.i64.wrap (s2.2.2.1+1),()))) (y35,0,()))) (0,y10,())))))))) (aJ [(false,BFK.li),(false,Sy.int IntKind.i64)] (CF [T.v (.int .i64 (↑(BFZ a0).length:Int)), T.sl false (List.map aA.enc s2.1)]) fun (y44:List Int×Int)=>aC (!decide (y44.2=0)) (R (T.v (.int .i64 20))) (R BFH))) ([],y0,0,())
theorem WC ( a0 m1 m2 m3 m4 R):dW bW Tryz.prog I9 WL 8 84 (nF a0 m1 m2 m3 m4) R=JH a0 m1 m2 m3 m4 R:=by kernel_rfl
theorem RM (x y:aB×MP×MP×MP×MP) (h:nF x.1 x.2.1 x.2.2.1 x.2.2.2.1 x.2.2.2.2=nF y.1 y.2.1 y.2.2.1 y.2.2.2.1 y.2.2.2.2):x=y:=p8 (List.cons.inj h).1
abbrev jC (k:aL):List ByteArray:=k.2.2.1
abbrev fR (k:aL):List ByteArray:=k.2.2.2.2
abbrev TY (k:aL):Int:=k.2.2.2.1
def wS (d:aB) (k:aL):Int:=if wV k.1=false then 6 else if wU d k.2.1=false then 8 else if TY k<1∨10000<TY k then 9 else if rR (jC k)=false∨rR (fR k)=false then 11 else 0
def instE (d:aB) (b:ByteArray):List ByteArray→List ByteArray→Int×List ByteArray
 | [],S=>(0,S)
 | id::l,S=>match partOf d id with
  | none=>(8,S)
  | some p=>if ¬ fN p=4∧¬ fN p=3 then (10,S) else if (up d (mN p)).1.getLast? = some b then (if T0 S id=true then (7,S) else instE d b l (id::S)) else (2,S)
def SJ (d:aB) (k:ByteArray) (i:Int):List ByteArray→List aP→Int×List aP
 | [],E=>(0,E)
 | id::l,E=>if id=k then (2,E) else match jI (iJ (ids d.2.2.2.2.1)) id with
  | none=>(8,E)
  | some j=>SJ d k i l (E++[(j,i)])
def oX (d:aB):List aL→Int→List aP→List ByteArray→Int×List aP
 | [],_,E,_=>(0,E)
 | k::l,i,E,S=>if ¬ wS d k=0 then (wS d k,E) else if ¬ (instE d k.2.1 (jC k) S).1=0 then ((instE d k.2.1 (jC k) S).1,E) else if ¬ (SJ d k.1 i (fR k) E).1=0 then ((SJ d k.1 i (fR k) E).1,E) else
  oX d l (i+1) (SJ d k.1 i (fR k) E).2 (instE d k.2.1 (jC k) S).2
def jD (d:aB):Int:=if (oX d d.2.2.2.2.1 0 [] []).1=0 then (if (lK d.2.2.2.2.1.length (oX d d.2.2.2.2.1 0 [] []).2).2=0 then 0 else 20) else (oX d d.2.2.2.2.1 0 [] []).1
def x9 (d:aB):Bool:=d.2.2.2.2.1.all (fun k=>decide ((jC k).length≤140737488355328)&&decide ((fR k).length≤140737488355328))&&decide (d.2.2.2.2.1.length≤64)
theorem jS (a b:ByteArray):cK a b=true↔a.data.toList<b.data.toList:=by
 unfold cK;rw[bytesLess_eq,decide_eq_true_iff]
theorem AHJ {a b:ByteArray} (h:(!(cK b a||decide (b=a)))=true):a.data.toList<b.data.toList:=by
 simp only[Bool.not_eq_true',Bool.or_eq_false_iff,decide_eq_false_iff_not] at h
 refine Classical.byContradiction fun hc=>h.2 ?_
 have h1:¬ b.data.toList<a.data.toList:=fun h'=>by rw[(jS b a).2 h'] at h;exact absurd h.1 (by decide)
 have e:b.data.toList=a.data.toList:=List.le_antisymm (List.not_lt.1 hc) (List.not_lt.1 h1)
 exact ByteArray.ext (Array.ext' e)
theorem KJ:∀ {l:List ByteArray},rR l=true→l.Pairwise fun a b=>a.data.toList<b.data.toList
 | [],_=>List.Pairwise.nil
 | [a],_=>by simp
 | a::b::l,h=>by
  rw[rR,Bool.and_eq_true] at h
  have h1:=AHJ h.1
  have ih:=KJ h.2
  refine List.pairwise_cons.2 ⟨fun x hx=>?_,ih⟩
  rcases List.mem_cons.1 hx with rfl|hx
  ·exact h1
  ·exact List.lt_trans h1 ((List.pairwise_cons.1 ih).1 x hx)
theorem O0 {l:List ByteArray} (h:rR l=true):l.Nodup:=by
 refine (KJ h).imp fun {a b} hab e=>?_
 subst e
 exact List.lt_irrefl _ hab
theorem AID:∀ {l m:List ByteArray},l.Nodup→(∀ x∈l,x∈m)→l.length≤m.length
 | [],_,_,_=>Nat.zero_le _
 | a::l,m,h,hm=>by
  obtain ⟨h1,h2⟩:=List.pairwise_cons.1 h
  have h3:l.length≤(m.filter fun x=>decide (x≠a)).length:=AID h2 fun x hx=>List.mem_filter.2 ⟨hm x (List.mem_cons_of_mem _ hx),decide_eq_true fun e=>h1 x hx e.symm⟩
  have h4:(m.filter fun x=>decide (x≠a)).length<m.length:=List.length_filter_lt_length_iff_exists.2 ⟨a,hm a List.mem_cons_self,by simp⟩
  rw[List.length_cons];omega
def sV (x:aB×MP×MP×MP×MP):Option T:=match x9 x.1 with
 | true=>u5 x (T.v (Value.int .i64 (jD x.1)))
 | false=>none
noncomputable def sA:List T→Option (T):=gA (fun (x:aB×List aD×List aD×List aD×List aD)=>nF x.1 x.2.1 x.2.2.1 x.2.2.2.1 x.2.2.2.2) sV
theorem YF (a0:aB) (m1:List aD) (m2:List aD) (m3:List aD) (m4:List aD):sA (nF a0 m1 m2 m3 m4)=sV (a0,m1,m2,m3,m4):=fA (A:=(fun (x:aB×List aD×List aD×List aD×List aD)=>nF x.1 x.2.1 x.2.2.1 x.2.2.2.1 x.2.2.2.2)) RM (a0,m1,m2,m3,m4)
theorem AN0 (h:∀ (a0:aB) (m1:List aD) (m2:List aD) (m3:List aD) (m4:List aD) (r:T),sV (a0,m1,m2,m3,m4)=some r→(∀ t∈nF a0 m1 m2 m3 m4,Bd t)→JH a0 m1 m2 m3 m4 (fun y=>y=r)):aO Tryz.prog 84 sA :=
 cP (E:=I9) (Hs:=WL) ABU aU aY (aN rfl) 8 ⟨_,_,Tryz.func84,rfl⟩ fun x r h1 h2=>by
  rw[WC]
  exact h x.1 x.2.1 x.2.2.1 x.2.2.2.1 x.2.2.2.2 r h1 h2
theorem BDH {α:Type} {id:ByteArray} {l:List (ByteArray×α)} {A:Prop} {B:Nat→Int→Prop} (hA:jI (iJ (ids l)) id=none→l.find? (fun s=>decide (s.1=id))=none→A) (hB:∀ i k (h:k<l.length),jI (iJ (ids l)) id=some (k:Int)→l.find? (fun s=>decide (s.1=id))=some l[k]→B i (k:Int)) :
  gX TypeDesc.string (Value.string id) (qB (bL (iJ (ids l)))) false (Sy.int IntKind.i64) A B:=by
 rw[ZX]
 refine B2 (r:=.int .i64) (fun h=>?_) fun i v h=>?_
 ·rcases CI id l with ⟨h1,h2⟩|⟨k,hk,h1,_⟩
  ·exact hA h1 h2
  ·rw[h] at h1;cases h1
 ·rcases CI id l with ⟨h1,_⟩|⟨k,hk,h1,h2⟩
  ·rw[h] at h1;cases h1
  ·rw[h] at h1;cases h1;exact hB i k hk h h2
theorem BDI {l:List ByteArray} {b:ByteArray} {A:Prop} (hl:l.length≤140737488355328) (hyes:l.getLast? = some b→A) (hno:¬ l.getLast? = some b→A) {R2:Prop} (hR2:¬ l.getLast? = some b→R2) {K:Prop} (hK:l.getLast? = some b→K) :
  aC (decide (((List.map Sy.str.enc l).length:Int)=0)) R2 (aR Sy.str (List.map Sy.str.enc l) (IntKind.i64.wrap (((List.map Sy.str.enc l).length:Int)-1)) fun (y:ByteArray)=>aC (!decide (y=b)) R2 K):=by
 rw[List.length_map]
 refine b8 (fun h=>hR2 ?_) fun h=>?_
 ·have:l=[]:=List.length_eq_zero_iff.1 (by omega)
  rw[this];simp
 ·have h1:l.length-1<l.length:=by omega
  rw[bD _ (by omega) (by omega),show ((l.length:Int)-1)=((l.length-1:Nat):Int) by omega,bH (r:=.str) h1]
  have e:l.getLast? = some l[l.length-1]:=by rw[List.getLast?_eq_getElem?,List.getElem?_eq_getElem h1]
  refine lA (fun h=>hR2 ?_) fun h=>hK ?_
  ·rw[e];intro h';exact h (Option.some.inj h')
  ·rw[e];exact congrArg some h
theorem BD2 {es:List (ByteArray×Bool)} {S:List ByteArray} {id:ByteArray} {R7:Prop} {K:List (ByteArray×Bool)→Prop} (hS:Seen es (fun x=>x∈S)) (h7:id∈S→R7) (hK:∀ es',id∉S→Seen es' (fun x=>x∈id::S)→K es') :
  gX TypeDesc.string (Value.string id) (List.map (cQ Sy.str false Sy.bool) es) false Sy.bool
   (fH (Option (Nat×D)) (findD TypeDesc.string (Value.string id) (List.map (cQ Sy.str false Sy.bool) es) 0) fun (y24:Option (Nat×D)) =>
    dS Sy.str false Sy.bool (e8 (List.map (cQ Sy.str false Sy.bool) es) y24 (Value.string id) (D.p (T.v (.bool true)))) fun (y25:List (ByteArray×Bool))=>K y25)
   fun (i20:Nat) (y21:Bool)=>aC y21 R7
    (fH (Option (Nat×D)) (findD TypeDesc.string (Value.string id) (List.map (cQ Sy.str false Sy.bool) es) 0) fun (y22:Option (Nat×D)) =>
     dS Sy.str false Sy.bool (e8 (List.map (cQ Sy.str false Sy.bool) es) y22 (Value.string id) (D.p (T.v (.bool true)))) fun (y23:List (ByteArray×Bool))=>K y23):=by
 refine B2 (r:=.bool) (fun hno=>?_) fun j b hb=>?_
 ·refine AWP (r:=.bool) rfl (es:=es) (k:=id) (v:=true) (hK _ (fun h=>?_) ((hS.ins id).congr fun x=>?_))
  ·have:=(hS.2 id).2 h
   rw[hno] at this;cases this
  ·rw[List.mem_cons];exact ⟨fun h=>h.symm.imp_left Eq.symm,fun h=>h.symm.imp_right Eq.symm⟩
 ·have:=hS.1 _ _ hb
  subst this
  rw[kH]
  exact h7 ((hS.2 _).1 hb)
theorem AL9:aO Tryz.prog 84 sA:=AN0 fun d m1 m2 m3 m4 r h hb=>by
 unfold sV at h
 split at h
 case h_2=>cases h
 rename_i hok
 replace hok:x9 d=true:=hok
 obtain ⟨hx,hs,rfl⟩:=nU h
 simp only[Prod.mk.injEq,true_and] at hx
 obtain ⟨rfl,rfl,rfl,rfl⟩:=hx
 replace hs:mR d:=hs
 clear h hb
 simp only[x9,Bool.and_eq_true,decide_eq_true_eq,List.all_eq_true] at hok
 obtain ⟨hkp,hka⟩:=hok
 have hkq:=fun k hk=>(hkp k hk).2
 replace hkp:=fun k hk=>(hkp k hk).1
 have hlk:=hs.k
 have is:∀ {n:Int},jD d=n→T.v (.int .i64 n)=T.v (.int .i64 (jD d)):=fun h=>by rw[h]
 unfold JH BHC BG2 BG0 BGD BGR BGA BF8 BG1 BF4 BF3 BFZ BF6 BFU BFQ BFP BFL BFK BFI BFH BFG BFE
 refine nJ (r:=.bool) rfl [] _ ?_
 refine bM d.2.2.2.2.1.length (fun k s=>∃ S,s.2.2.1=(k:Int)∧Seen s.2.1 (fun x=>x∈S)∧s.1.length≤64*k∧oX d (d.2.2.2.2.1.drop k) k s.1 S=oX d d.2.2.2.2.1 0 [] []) ⟨[],rfl,Seen.nil.congr (by simp),by simp,rfl⟩ ?_
 rintro X k ⟨E,es,i,u⟩ hk ⟨S,rfl,hseen,hlen,hr⟩ hX
 dsimp only at hseen hlen hr ⊢
 refine b8 (fun hlt=>?_) fun hge=>?_
 ·rw[List.length_map] at hlt
  have hlt:k<d.2.2.2.2.1.length:=by omega
  rw[bH (r:=aF) hlt]
  rw[List.drop_eq_getElem_cons hlt] at hr
  have hmem:=List.getElem_mem hlt
  have hp1:=hkp _ hmem
  have hp2:=hkq _ hmem
  generalize hy:d.2.2.2.2.1[k]=y at hr hp1 hp2 ⊢
  rw[oX] at hr
  have bad:∀ {n:Int},n≠0→(oX d d.2.2.2.2.1 0 [] []).1=n→T.v (.int .i64 n)=T.v (.int .i64 (jD d)):=fun hn h=>by
   refine is ?_
   unfold jD
   rw[if_neg (by rw[h];exact hn),h]
  have badH:∀ {n:Int},n≠0→wS d y=n→T.v (.int .i64 n)=T.v (.int .i64 (jD d)):=fun hn h=>by
   refine bad hn ?_
   rw[if_pos (by rw[h];exact hn)] at hr
   rw[←hr];exact h
  rw[mU]
  refine gQ (fun h=>badH (by decide) (by unfold wS;rw[if_pos h])) fun i1=>?_
  refine aG (s:=[(false,.bool)]) (LR hs _) ?_
  refine gQ (fun h=>badH (by decide) (by unfold wS;rw[if_neg (by rw[i1];decide),if_pos h])) fun i2=>?_
  have n1:¬ wV y.1=false:=by rw[i1];decide
  have n2:¬ wU d y.2.1=false:=by rw[i2];decide
  refine b8 (fun h=>badH (by decide) (by unfold wS;rw[if_neg n1,if_neg n2,if_pos (.inl h)])) fun h3=>?_
  refine b8 (fun h=>badH (by decide) (by unfold wS;rw[if_neg n1,if_neg n2,if_pos (.inr h)])) fun h4=>?_
  have n3:¬ (TY y<1∨10000<TY y):=by rintro (h|h);exact h3 h;exact h4 h
  refine aG (s:=[(false,.any)]) (QA (a0:=jC y)) ?_
  refine IT (b:=rR (jC y)) (by rw[List.length_map];exact AWE hp1) _ ?_
  refine gQ (fun h=>badH (by decide) (by unfold wS;rw[if_neg n1,if_neg n2,if_neg n3,if_pos (.inl h)])) fun h5=>?_
  refine aG (s:=[(false,.any)]) (QA (a0:=fR y)) ?_
  refine IT (b:=rR (fR y)) (by rw[List.length_map];exact AWE (l:=fR y) hp2) _ ?_
  refine gQ (fun h=>badH (by decide) (by unfold wS;rw[if_neg n1,if_neg n2,if_neg n3,if_pos (.inr h)])) fun h6=>?_
  have hh:wS d y=0:=by unfold wS;rw[if_neg n1,if_neg n2,if_neg n3,if_neg];rintro (h|h);(rw[h5] at h;cases h);(rw[h6] at h;cases h)
  have hnd:=O0 h6
  clear badH n1 n2 n3 h3 h4 h5 h6 i1 i2
  rw[if_neg (fun h=>h hh)] at hr
  refine nJ (r:=.bool) rfl es _ ?_
  refine bM (jC y).length (fun j s=>∃ S',s.1=(j:Int)∧Seen s.2.1 (fun x=>x∈S')∧instE d y.2.1 ((jC y).drop j) S'=instE d y.2.1 (jC y) S) ⟨S,rfl,hseen,rfl⟩ ?_
  rintro Y j ⟨i,es',u⟩ hj ⟨S',rfl,hseen',hi⟩ hY
  dsimp only at hseen' hi ⊢
  refine b8 (fun hjl=>?_) fun hjl=>?_
  ·rw[List.length_map] at hjl
   replace hjl:(j:Int)<((jC y).length:Int):=hjl
   have hjl:j<(jC y).length:=by omega
   rw[bH (r:=.str) hjl]
   rw[List.drop_eq_getElem_cons hjl,instE] at hi
   have badI:∀ {n:Int},n≠0→(instE d y.2.1 (jC y) S).1=n→T.v (.int .i64 n)=T.v (.int .i64 (jD d)):=fun hn h=>by
    refine bad hn ?_
    rw[if_pos (by rw[h];exact hn)] at hr
    rw[←hr];exact h
   have hw:IntKind.i64.wrap ((j:Int)+1)=((j+1:Nat):Int):=bD _ (by omega) (by omega)
   generalize (jC y)[j]=id at hi ⊢
   refine BDH (fun _ hn=>badI (by decide) ?_) fun i q hq _ hn=>?_
   ·have hn:partOf d id=none:=hn
    rw[hn] at hi;rw[←hi]
   ·have hn:partOf d id=some d.2.2.1[q]:=hn
    rw[hn] at hi
    rw[bH (r:=aM) hq]
    obtain ⟨p,hp⟩:∃ p,p=d.2.2.1[q]:=⟨_,rfl⟩
    rw[←hp] at hi hn ⊢
    dsimp only at hi
    have fin:¬ (¬ fN p=4∧¬ fN p=3)→aJ [(false,Sy.str.li),(false,Sy.bool)]
      (kO (lW d (iJ (ids d.2.1)) (iJ (ids d.2.2.1)) (iJ (ids d.2.2.2.1)) (iJ (ids d.2.2.2.2.1)) (mN p))) fun (y18:List ByteArray×Bool) =>
      aC (decide (((List.map Sy.str.enc y18.1).length:Int)=0)) (T.v (.int .i64 2)=T.v (.int .i64 (jD d)))
       (aR Sy.str (List.map Sy.str.enc y18.1) (IntKind.i64.wrap (((List.map Sy.str.enc y18.1).length:Int)-1)) fun (y19:ByteArray) =>
        aC (!decide (y19=y.2.1)) (T.v (.int .i64 2)=T.v (.int .i64 (jD d)))
        (gX TypeDesc.string (Value.string id) (List.map (cQ Sy.str false Sy.bool) es') false Sy.bool
         (fH (Option (Nat×D)) (findD TypeDesc.string (Value.string id) (List.map (cQ Sy.str false Sy.bool) es') 0) fun (y24:Option (Nat×D)) =>
          dS Sy.str false Sy.bool (e8 (List.map (cQ Sy.str false Sy.bool) es') y24 (Value.string id) (D.p (T.v (.bool true)))) fun (y25:List (ByteArray×Bool))=>Y (IntKind.i64.wrap ((j:Int)+1),y25,()))
         fun (i20:Nat) (y21:Bool)=>aC y21 (T.v (.int .i64 7)=T.v (.int .i64 (jD d)))
          (fH (Option (Nat×D)) (findD TypeDesc.string (Value.string id) (List.map (cQ Sy.str false Sy.bool) es') 0) fun (y22:Option (Nat×D)) =>
           dS Sy.str false Sy.bool (e8 (List.map (cQ Sy.str false Sy.bool) es') y22 (Value.string id) (D.p (T.v (.bool true)))) fun (y23:List (ByteArray×Bool))=>Y (IntKind.i64.wrap ((j:Int)+1),y23,())))):=by
     intro hk
     rw[if_neg hk] at hi
     refine aG (s:=[(false,.li .str),(false,.bool)]) (GS hs _) ?_
     have hul:=BA3 d (mN p)
     refine BDI (A:=True) (b:=y.2.1) (by omega) (fun _=>trivial) (fun _=>trivial) (fun h=>badI (by decide) ?_) fun h=>?_
     ·rw[if_neg h] at hi;rw[←hi]
     ·rw[if_pos h] at hi
      refine BD2 (K:=fun es=>Y (IntKind.i64.wrap ((j:Int)+1),es,())) hseen' (fun h7=>badI (by decide) ?_) fun es2 h7 hs2=>?_
      ·rw[if_pos (CQ.2 h7)] at hi;rw[←hi]
      ·rw[if_neg (fun h=>h7 (CQ.1 h))] at hi
       rw[hw]
       exact hY _ hjl ⟨id::S',rfl,hs2,hi⟩
    refine lA (fun k4=>?_) fun k4=>?_
    ·refine lA (fun k3=>badI (by decide) ?_) fun k3=>?_
     ·rw[if_pos ⟨k4,k3⟩] at hi;rw[←hi]
     ·rw[bH (r:=aM) hq,←hp]
      exact fin fun h=>h.2 k3
    ·rw[bH (r:=aM) hq,←hp]
     exact fin fun h=>h.1 k4
  ·rw[List.length_map] at hjl
   replace hjl:¬ (j:Int)<((jC y).length:Int):=hjl
   have hjl:j=(jC y).length:=by omega
   subst hjl
   rw[List.drop_length,instE] at hi
   rw[←hi,if_neg (by simp)] at hr
   dsimp only at hr
   clear hY hi hj
   rw[dR rfl]
   refine bM (fR y).length (fun j s=>s.2.1=(j:Int)∧s.1.length=E.length+j∧(∀ x∈(fR y).take j,x∈ids d.2.2.2.2.1)∧SJ d y.1 k ((fR y).drop j) s.1=SJ d y.1 k (fR y) E) ⟨rfl,by simp,by simp,rfl⟩ ?_
   rintro Y j ⟨E',i,u⟩ hj ⟨rfl,hEl,hin,hi⟩ hY
   dsimp only at hEl hin hi ⊢
   have hjk:j≤64:=by
    have h1:=AID (hnd.sublist (List.take_sublist j _)) hin
    have h2:(ids d.2.2.2.2.1).length=d.2.2.2.2.1.length:=by simp[ids]
    rw[List.length_take] at h1
    omega
   refine b8 (fun hjl=>?_) fun hjl=>?_
   ·rw[List.length_map] at hjl
    replace hjl:(j:Int)<((fR y).length:Int):=hjl
    have hjl:j<(fR y).length:=by omega
    rw[bH (r:=.str) hjl]
    rw[List.drop_eq_getElem_cons hjl,SJ] at hi
    have badA:∀ {n:Int},n≠0→(SJ d y.1 k (fR y) E).1=n→T.v (.int .i64 n)=T.v (.int .i64 (jD d)):=fun hn h=>by
     refine bad hn ?_
     rw[if_pos (by rw[h];exact hn)] at hr
     rw[←hr];exact h
    have hw:IntKind.i64.wrap ((j:Int)+1)=((j+1:Nat):Int):=bD _ (by omega) (by omega)
    have hts:(fR y).take (j+1)=(fR y).take j++[(fR y)[j]]:=List.take_succ_eq_append_getElem hjl
    generalize (fR y)[j]=id at hi hts ⊢
    refine b8 (fun h=>badA (by decide) ?_) fun h=>?_
    ·rw[if_pos h] at hi;rw[←hi]
    rw[if_neg h] at hi
    refine BDH (fun hg _=>badA (by decide) ?_) fun i q hq hg hfi=>?_
    ·rw[hg] at hi;rw[←hi]
    ·rw[hg] at hi
     dsimp only at hi
     refine ⟨by simp;omega,?_⟩
     rw[D8 (r:=aA) rfl E' [T.v (.int .i64 (q:Int)),T.v (.int .i64 (k:Int))] ((q:Int),(k:Int)) rfl,hw]
     refine hY _ hjl ⟨rfl,by simp only[List.length_append,List.length_cons,List.length_nil];omega,fun x hx=>?_,hi⟩
     rw[hts] at hx
     rcases List.mem_append.1 hx with hx|hx
     ·exact hin x hx
     ·have hx:x=id:=by simpa using hx
      subst hx
      have h9:=List.find?_some hfi
      exact List.mem_map.2 ⟨_,List.getElem_mem hq,of_decide_eq_true h9⟩
   ·rw[List.length_map] at hjl
    replace hjl:¬ (j:Int)<((fR y).length:Int):=hjl
    have hjl:j=(fR y).length:=by omega
    subst hjl
    rw[List.drop_length,SJ] at hi
    rw[←hi,if_neg (by simp)] at hr
    dsimp only at hr
    rw[dR rfl]
    refine nJ (r:=.bool) rfl es' _ ?_
    refine hX _ hlt ⟨S',?_,hseen',?_,?_⟩
    ·show IntKind.i64.wrap ((k:Int)+1)=_
     rw[bD]<;>omega
    ·show E'.length≤_
     omega
    ·rw[←hr];rfl
 ·rw[List.length_map] at hge
  have hkl:k=d.2.2.2.2.1.length:=by omega
  subst hkl
  rw[List.drop_length,oX] at hr
  have w:jD d=if (lK d.2.2.2.2.1.length E).2=0 then 0 else 20:=by
   unfold jD;rw[←hr,if_pos rfl]
  refine aG (s:=[(false,.li (.int .i64)),(false,.int .i64)]) (y:=lK d.2.2.2.2.1.length E) (by rw[List.length_map];exact (AEP ..).trans (jP (l:=E) _ (by omega))) ?_
  exact lA (fun h=>is (by rw[w,if_neg h])) fun h=>is (by rw[w,if_pos h])
end Go.Pv
namespace Go.Pv
open Go Go.Proofs
theorem IP {a:Option MP} {es:MP} {K:MP→Prop} (h:a=some es) (hk:K es):fH (List (ByteArray×Int)) a K:=⟨es,h,hk⟩
end Go.Pv
namespace Go.Pv
open Go Go.Proofs
noncomputable def PV:List T→Option (List (ByteArray×Int)):=AM5
theorem A8B:j5 Tryz.prog 222 (rH PV):=BDB
noncomputable def A6E:Env:=Env.of [(77,.pure wE),(78,.pure iA),(222,.AL4 PV),(80,.pure LQ),(81,.pure wA),(82,.pure sB),(83,.pure wB),(84,.pure sA),(85,.pure v8)]
def A6R:FuncId→Hint:=fun _=>aZ
theorem AQN:aT Tryz.prog A6E:=.cons AMC (.cons xR (.cons A8B (.cons A26 (.cons AL6 (.cons AMA (.cons AL7 (.cons AL9 (.cons AL5 (.nil _)))))))))
def BGG(a0:aB):List T:=[T.ref [T.ref [T.sl false (BF6 a0), T.sl false (BFZ a0), T.sl false (BF4 a0), T.sl false (BF3 a0), T.sl false (BF8 a0), T.v (.string a0.1)].reverse].reverse]
def ACN(a0:aB)(a1:aH)(R:T→Prop):Prop:=aJ BFF (wE [aI true aK a1]) fun (y0:Int)=>aC (!decide (y0=0)) (R (BGT y0)) (aJ BFG (iA [T.v (.string a0.1)]) fun (y1:Bool)=>aC (!y1) (R BFP) (fH (List aD) (PV [T.fn 223 [].reverse (BGG a0).reverse, T.v (.int .i64 (↑(BF8 a0).length:Int))].reverse) fun (y2:List aD)=>fH (List aD) (PV [T.fn 224 [].reverse (BGG a0).reverse, T.v (.int .i64 (↑(BF3 a0).length:Int))].reverse) fun (y3:List aD)=>fH (List aD) (PV [T.fn 225 [].reverse (BGG a0).reverse, T.v (.int .i64 (↑(BF4 a0).length:Int))].reverse) fun (y4:List aD)=>fH (List aD) (PV [T.fn 226 [].reverse (BGG a0).reverse, T.v (.int .i64 (↑(BFZ a0).length:Int))].reverse) fun (y5:List aD)=>aJ BFF (LQ [T.ref [T.ref (BG2 a0), T.mp (bL y2),T.mp (bL y3),T.mp (bL y4), T.mp (bL y5)]]) fun (y6:Int)=>aC (!decide (y6=0)) (R (BGT y6)) (aJ BFF (wA [T.ref [T.ref (BGA a0), T.mp (bL y2),T.mp (bL y3),T.mp (bL y4), T.mp (bL y5)]]) fun (y7:Int)=>aC (!decide (y7=0)) (R (BGT y7)) (aJ BFF (sB [T.ref [T.ref (BGA a0), T.mp (bL y2),T.mp (bL y3),T.mp (bL y4), T.mp (bL y5)], aI true aK a1]) fun (y8:Int)=>aC (!decide (y8=0)) (R (BGT y8)) (aJ BFF (wB [T.ref (BG0 a0 y2 y3 y4 y5)]) fun (y9:Int)=>aC (!decide (y9=0)) (R (BGT y9)) (aJ BFF (sA [T.ref (BG0 a0 y2 y3 y4 y5)]) fun (y10:Int)=>aC (!decide (y10=0)) (R (BGT y10)) (aJ BFF (v8 [T.ref (BG0 a0 y2 y3 y4 y5)]) fun (y11:Int)=>R (BGT y11))))))))
abbrev AF3:Sh:=[(true,aE),(true,aK)]
def kE (d:aB) (m:aH):Int:=if ¬ yZ m=0 then yZ m else if isName d.1=false then 6 else if ¬ nM d=0 then nM d else if ¬ lJ d=0 then lJ d else if ¬ lL d m=0 then lL d m else if ¬ cE (w9 d) d.2.2.2.1=0 then cE (w9 d) d.2.2.2.1 else if ¬ jD d=0 then jD d else cE (zP d) d.2.2.2.2.2
def IV (x:aB×aH):Option T:=some (T.v (Value.int .i64 (kE x.1 x.2)))
noncomputable def cU:List T→Option T:=gS AF3 IV
theorem gH {a0 a1}:cU [aI true aE a0,aI true aK a1]=IV (a0,a1):=bG (s:=AF3) rfl (a0,a1) rfl
theorem A34:rQ Tryz.prog 37 cU IV (cD AF3) ACN:=gZ (a1:=(true,aE)) (a2:=(true,aK)) (sp:=IV) (F:=ACN) (Hs:=A6R) (f:=37) (k:=8) AQN aU aY (aN rfl) ⟨_,_,Tryz.func37,rfl⟩ rfl fun _ _ _=>by kernel_rfl
theorem A3R {m:aH} (h:yZ m=0):okM m=true:=by
 unfold yZ at h
 split at h
 ·cases h
 rename_i h1
 split at h
 ·rename_i h2;exact absurd h h2
 rename_i h2
 have h2:cE (wQ m) (List.range m.1.length)=0:=Classical.byContradiction h2
 simp only[okM,Bool.and_eq_true,decide_eq_true_eq,List.all_eq_true]
 refine ⟨⟨by omega,by omega⟩,fun g hg=>?_⟩
 obtain ⟨i,hi,rfl⟩:=List.mem_iff_getElem.1 hg
 have h3:=vX h2 i (List.mem_range.2 hi)
 unfold wQ at h3
 rw[tY hi] at h3
 have h4:jB m.1[i]=0:=by
  refine Classical.byContradiction fun hc=>?_
  rw[if_pos hc] at h3
  exact hc h3
 unfold jB at h4
 split at h4
 ·cases h4
 split at h4
 ·cases h4
 split at h4
 ·cases h4
 split at h4
 ·cases h4
 ·omega
theorem A2D {d:aB} {m:aH} (hs:mR d) (hm:okM m=true):sB (nG d (iJ (ids d.2.1)) (iJ (ids d.2.2.1)) (iJ (ids d.2.2.2.1)) (iJ (ids d.2.2.2.2.1)) m)=some (T.v (Value.int .i64 (lL d m))):=by
 rw[YG];unfold sW;dsimp only;rw[hm];exact nV hs _
theorem A2C {d:aB} (hs:mR d) (hk:x9 d=true):sA (nF d (iJ (ids d.2.1)) (iJ (ids d.2.2.1)) (iJ (ids d.2.2.2.1)) (iJ (ids d.2.2.2.2.1)))=some (T.v (Value.int .i64 (jD d))):=by
 rw[YF];unfold sV;dsimp only;rw[hk];exact nV hs _
theorem kY:aO Tryz.prog 37 cU:=A34 fun d m r h hb=>by
 cases h
 have hd:BdS aE d:=hb.1
 have hs:mR d:=⟨hd.2.1.1,hd.2.2.1.1,hd.2.2.2.1.1,hd.2.2.2.2.1.1,hd.2.2.2.2.2.1⟩
 have hkl:∀ k∈d.2.2.2.2.1,(jC k).length≤140737488355328∧(fR k).length≤140737488355328:=fun k hk=>by
  have h:=hd.2.2.2.2.1.2 k hk
  exact ⟨h.2.2.1.1,h.2.2.2.2.1⟩
 clear hd
 have is:∀ {n:Int},kE d m=n→T.v (.int .i64 n)=T.v (.int .i64 (kE d m)):=fun h=>by rw[h]
 unfold ACN BG2 BG0 BGG BGA BF8 BF4 BF3 BFZ BF6 BGT BFP BFG BFF
 refine aG (s:=[(false,.int .i64)]) (y:=yZ m) (YN ..) ?_
 refine lA (fun h=>is (by unfold kE;rw[if_pos h])) fun h0=>?_
 have hm:=A3R h0
 refine aG (s:=[(false,.bool)]) (y:=isName d.1) wC ?_
 have n0:¬ ¬ yZ m=0:=fun h=>h h0
 refine gQ (fun h=>is (by unfold kE;rw[if_neg n0,if_pos h])) fun hn=>?_
 have n1:¬ isName d.1=false:=by rw[hn];decide
 refine IP (es:=iJ (ids d.2.1)) (by rw[List.length_map];exact A8T hs.n) ?_
 refine IP (es:=iJ (ids d.2.2.1)) (by rw[List.length_map];exact A8U hs.p) ?_
 refine IP (es:=iJ (ids d.2.2.2.1)) (by rw[List.length_map];exact A8V hs.s) ?_
 refine IP (es:=iJ (ids d.2.2.2.2.1)) (by rw[List.length_map];exact A8W hs.k) ?_
 refine aG (s:=[(false,.int .i64)]) (y:=nM d) ((AM3 ..).trans (nV hs _)) ?_
 refine lA (fun h=>is (by unfold kE;rw[if_neg n0,if_neg n1,if_pos h])) fun h1=>?_
 have n2:¬ ¬ nM d=0:=fun h=>h h1
 have hk:x9 d=true:=by
  simp only[x9,Bool.and_eq_true,decide_eq_true_eq,List.all_eq_true]
  refine ⟨hkl,?_⟩
  have hlong:mJ d=false:=by
   rw[Bool.eq_false_iff]
   intro h
   unfold nM at h1
   rw[if_pos h] at h1
   cases h1
  simp only[mJ,Bool.or_eq_false_iff,decide_eq_false_iff_not] at hlong
  omega
 refine aG (s:=[(false,.int .i64)]) (y:=lJ d) ((YC ..).trans (nV hs _)) ?_
 refine lA (fun h=>is (by unfold kE;rw[if_neg n0,if_neg n1,if_neg n2,if_pos h])) fun h2=>?_
 have n3:¬ ¬ lJ d=0:=fun h=>h h2
 refine aG (s:=[(false,.int .i64)]) (y:=lL d m) (A2D hs hm) ?_
 refine lA (fun h=>is (by unfold kE;rw[if_neg n0,if_neg n1,if_neg n2,if_neg n3,if_pos h])) fun h3=>?_
 have n4:¬ ¬ lL d m=0:=fun h=>h h3
 refine aG (s:=[(false,.int .i64)]) (y:=cE (w9 d) d.2.2.2.1) ((YD ..).trans (nV hs _)) ?_
 refine lA (fun h=>is (by unfold kE;rw[if_neg n0,if_neg n1,if_neg n2,if_neg n3,if_neg n4,if_pos h])) fun h4=>?_
 have n5:¬ ¬ cE (w9 d) d.2.2.2.1=0:=fun h=>h h4
 refine aG (s:=[(false,.int .i64)]) (y:=jD d) (A2C hs hk) ?_
 refine lA (fun h=>is (by unfold kE;rw[if_neg n0,if_neg n1,if_neg n2,if_neg n3,if_neg n4,if_neg n5,if_pos h])) fun h5=>?_
 have n6:¬ ¬ jD d=0:=fun h=>h h5
 refine aG (s:=[(false,.int .i64)]) (y:=cE (zP d) d.2.2.2.2.2) ((YB ..).trans (nV hs _)) ?_
 exact is (by unfold kE;rw[if_neg n0,if_neg n1,if_neg n2,if_neg n3,if_neg n4,if_neg n5,if_neg n6])
end Go.Pv
namespace Go.Pv
open Go Go.Proofs
def dE {α:Type} (after:α→α→Bool) (l:List α) (x:α):List α:=l.take (l.findIdx fun y=>after y x)++x::l.drop (l.findIdx fun y=>after y x)
def c0 {α:Type} (is:α→Bool) (l:List α):List α:=l.take (l.findIdx is)++l.drop (l.findIdx is+1)
theorem CK {α:Type} {after:α→α→Bool} {l:List α} {x y:α}:y∈dE after l x↔y=x∨y∈l:=by
 unfold dE
 rw[List.mem_append,List.mem_cons]
 constructor
 ·rintro (h|h|h)
  ·exact .inr (List.mem_of_mem_take h)
  ·exact .inl h
  ·exact .inr (List.mem_of_mem_drop h)
 ·rintro (h|h)
  ·exact .inr (.inl h)
  ·rw[←List.take_append_drop (l.findIdx fun y=>after y x) l,List.mem_append] at h
   rcases h with h|h
   ·exact .inl h
   ·exact .inr (.inr h)
theorem KU {α:Type} {is:α→Bool} {l:List α} {y:α} (h:y∈c0 is l):y∈l:=by
 unfold c0 at h
 rcases List.mem_append.1 h with h|h
 ·exact List.mem_of_mem_take h
 ·exact List.mem_of_mem_drop h
theorem AWK {α:Type} {after:α→α→Bool} {l:List α} {x:α}:(dE after l x).length=l.length+1:=by
 unfold dE
 have:l.findIdx (fun y=>after y x)≤l.length:=List.findIdx_le_length
 rw[List.length_append,List.length_cons,List.length_take,List.length_drop];omega
theorem XG {α:Type} {is:α→Bool} {l:List α}:(c0 is l).length≤l.length:=by
 unfold c0
 rw[List.length_append,List.length_take,List.length_drop];omega
theorem ALR {α β:Type} {f:α→β} {is:α→Bool} {l:List α} (hn:(l.map f).Nodup) (his:∀ x y,is x=true→is y=true→f x=f y):∀ y∈c0 is l,is y=false:=by
 induction l with
 | nil=>intro y h;simp[c0] at h
 | cons a l ih =>
  obtain ⟨h1,h2⟩:=List.pairwise_cons.1 (show (f a::l.map f).Nodup from hn)
  intro y hy
  unfold c0 at hy
  rw[List.findIdx_cons] at hy
  cases ha:is a with
  | true =>
   rw[ha] at hy
   simp only[cond_true,List.take_zero,List.nil_append,Nat.zero_add,List.drop_succ_cons,List.drop_zero] at hy
   cases hb:is y with
   | false=>rfl
   | true=>exact absurd (his a y ha hb) (h1 _ (List.mem_map.2 ⟨y,hy,rfl⟩))
  | false =>
   rw[ha] at hy
   simp only[cond_false,List.take_succ_cons,List.drop_succ_cons,List.cons_append,List.mem_cons] at hy
   rcases hy with rfl|hy
   ·exact ha
   ·exact ih h2 y hy
abbrev dQ (x:aX):ByteArray:=x.2.1
abbrev eTo (x:aX):ByteArray:=x.2.2.1
abbrev nK (x:aX):bE:=x.2.2.2.1
abbrev cH (x:aX):aV:=x.2.2.2.2.1
abbrev nL (x:aX):bI:=x.2.2.2.2.2.1
abbrev iH (x:aX):aL:=x.2.2.2.2.2.2.1
abbrev fX (x:aX):a8:=x.2.2.2.2.2.2.2
def mX:ByteArray:=⟨#[]⟩
def oL:a8:=(0,⟨#[]⟩,⟨#[]⟩)
def BK:aB:=(⟨#[]⟩,[],[],[],[],[])
def bQ (x:aX):aX :=
 if x.1=1 then (x.1,mX,mX,nK x,dY,gU,noPack,oL)
 else if x.1=3∨x.1=5 then (x.1,mX,mX,gT,cH x,gU,noPack,oL)
 else if x.1=6 then (x.1,dQ x,eTo x,gT,dY,gU,noPack,oL)
 else if x.1=7 then (x.1,mX,mX,gT,dY,nL x,noPack,oL)
 else if x.1=9 then (x.1,mX,mX,gT,dY,gU,iH x,oL)
 else if x.1=11∨x.1=12 then (x.1,mX,mX,gT,dY,gU,noPack,fX x)
 else (x.1,dQ x,mX,gT,dY,gU,noPack,oL)
def bY (d:aB) (x:aX):Bool :=
 if x.1=1 then (fG d (nK x).1).isSome
 else if x.1=2 then (fG d (dQ x)).isSome
 else if x.1=3∨x.1=5 then (partOf d (cH x).1).isSome
 else if x.1=4∨x.1=6 then (partOf d (dQ x)).isSome
 else if x.1=7 then (pZ d (nL x).1).isSome
 else if x.1=8 then (pZ d (dQ x)).isSome
 else if x.1=9 then (jQ d (iH x).1).isSome
 else if x.1=10 then (jQ d (dQ x)).isSome
 else d.2.2.2.2.2.any fun n=>decide (n=fX x)
def iG (x:aX):Bool:=decide (x.1=1)||decide (x.1=3)||decide (x.1=7)||decide (x.1=9)||decide (x.1=11)
def gtS (a b:ByteArray):Bool:=cK b a
def cB {α:Type} (a b:ByteArray×α):Bool:=gtS a.1 b.1
def lX (a b:a8):Bool:=ltN b a
theorem sU (a:ByteArray):cK a a=false:=by
 rw[Bool.eq_false_iff]
 intro h
 exact List.lt_irrefl _ ((jS a a).1 h)
theorem U1 {a b c:ByteArray} (h1:cK a b=true) (h2:cK b c=true):cK a c=true:=(jS a c).2 (List.lt_trans ((jS a b).1 h1) ((jS b c).1 h2))
theorem A3Q (a:a8):ltN a a=false:=by
 unfold ltN
 rw[sU,sU,decide_eq_false (Int.lt_irrefl _)]
 simp
theorem QH {a b c:a8} (h1:ltN a b=true) (h2:ltN b c=true):ltN a c=true:=by
 unfold ltN at *
 simp only[Bool.or_eq_true,Bool.and_eq_true,decide_eq_true_eq] at *
 rcases h1 with h1|⟨e1,h1⟩
 ·rcases h2 with h2|⟨e2,h2⟩
  ·exact .inl (Int.lt_trans h1 h2)
  ·exact .inl (by omega)
 ·rcases h2 with h2|⟨e2,h2⟩
  ·exact .inl (by omega)
  ·refine .inr ⟨e1.trans e2,?_⟩
   rcases h1 with h1|⟨f1,h1⟩
   ·rcases h2 with h2|⟨f2,h2⟩
    ·exact .inl (U1 h1 h2)
    ·exact .inl (by rw[←f2];exact h1)
   ·rcases h2 with h2|⟨f2,h2⟩
    ·exact .inl (by rw[f1];exact h2)
    ·exact .inr ⟨f1.trans f2,U1 h1 h2⟩
def b7 {α:Type} (id:ByteArray) (a:ByteArray×α):Bool:=decide (a.1=id)
def AE2 (l:List ByteArray) (x:ByteArray):Bool:=l.any fun y=>decide (y=x)
def kW (d:aB) (id:ByteArray):Bool:=(d.2.2.1.any fun p=>decide (mN p=id))||((d.2.1.any fun n=>decide (n.2.2=id))||((d.2.2.2.2.1.any fun k=>decide (k.2.1=id))||(d.2.2.2.2.2.any fun n=>decide (n.2.1=id)||(decide (n.2.2=id) && !decide (n.1=3)))))
def oB (d:aB) (id:ByteArray):Bool:=(d.2.2.2.1.any fun s=>decide (s.2.1=id)||decide (s.2.2.1=id))||(d.2.2.2.2.1.any fun k=>AE2 k.2.2.1 id)
def p9 (d:aB) (id:ByteArray):Bool:=((c0 (b7 id) d.2.2.2.2.1).any fun k=>AE2 k.2.2.2.2 id)||(d.2.2.2.2.2.any fun n=>decide (n.1=3)&&decide (n.2.2=id))
def kD (d:aB) (x:aX):Bool:=if x.1=2 then kW d (dQ x) else if x.1=4 then oB d (dQ x) else if x.1=10 then p9 d (dQ x) else false
def AF2 (p old:aV):aV:=(p.1,IntKind.i64.wrap (old.2.1+1),p.2.2)
def AFF (p:aV) (id:ByteArray):aV:=(p.1,p.2.1,p.2.2.1,id,p.2.2.2.2)
def AF {α:Type} (is:α→Bool) (f:α→α) (l:List α):List α:=l.modify (l.findIdx is) f
def j6 (d:aB) (x:aX):aB :=
 if x.1=1 then (d.1,dE cB d.2.1 (nK x),d.2.2)
 else if x.1=2 then (d.1,c0 (b7 (dQ x)) d.2.1,d.2.2)
 else if x.1=3 then (d.1,d.2.1,dE cB d.2.2.1 (cH x),d.2.2.2)
 else if x.1=4 then (d.1,d.2.1,c0 (b7 (dQ x)) d.2.2.1,d.2.2.2)
 else if x.1=5 then (d.1,d.2.1,AF (b7 (cH x).1) (AF2 (cH x)) d.2.2.1,d.2.2.2)
 else if x.1=6 then (d.1,d.2.1,AF (b7 (dQ x)) (fun p=>AFF p (eTo x)) d.2.2.1,d.2.2.2)
 else if x.1=7 then (d.1,d.2.1,d.2.2.1,dE cB d.2.2.2.1 (nL x),d.2.2.2.2)
 else if x.1=8 then (d.1,d.2.1,d.2.2.1,c0 (b7 (dQ x)) d.2.2.2.1,d.2.2.2.2)
 else if x.1=9 then (d.1,d.2.1,d.2.2.1,d.2.2.2.1,dE cB d.2.2.2.2.1 (iH x),d.2.2.2.2.2)
 else if x.1=10 then (d.1,d.2.1,d.2.2.1,d.2.2.2.1,c0 (b7 (dQ x)) d.2.2.2.2.1,d.2.2.2.2.2)
 else if x.1=11 then (d.1,d.2.1,d.2.2.1,d.2.2.2.1,d.2.2.2.2.1,dE lX d.2.2.2.2.2 (fX x))
 else (d.1,d.2.1,d.2.2.1,d.2.2.2.1,d.2.2.2.2.1,c0 (fun n=>decide (n=fX x)) d.2.2.2.2.2)
noncomputable def bB (d:aB) (m:aH) (x:aX):aB×Int :=
 if ¬ (1≤x.1∧x.1≤12) then (BK,10)
 else if lU x (bQ x)=false∨(x.1=5∧¬ (cH x).2.1=0) then (BK,2)
 else if iG x=true∧bY d x=true then (BK,7)
 else if iG x=false∧bY d x=false then (BK,8)
 else if x.1=5∧¬ mN (found dY (partOf d (cH x).1)).1=mN (cH x) then (BK,2)
 else if kD d x=true then (BK,34)
 else if kE (j6 d x) m=0 then (j6 d x,0) else (BK,kE (j6 d x) m)
structure HD (d:aB) (m:aH) (x:aX):Prop where
 kind:1≤x.1∧x.1≤12
 plain:x=bQ x
 rev:x.1=5→(cH x).2.1=0
 there:bY d x = !iG x
 node:x.1=5→mN (found dY (partOf d (cH x).1)).1=mN (cH x)
 free:kD d x=false
 chk:kE (j6 d x) m=0
 eq:bB d m x=(j6 d x,0)
theorem xM {d:aB} {m:aH} {x:aX} (h:(bB d m x).2=0):HD d m x:=by
 have h0:=h
 unfold bB at h
 split at h
 ·cases h
 rename_i h1
 split at h
 ·cases h
 rename_i h2
 split at h
 ·cases h
 rename_i h3
 split at h
 ·cases h
 rename_i h4
 split at h
 ·cases h
 rename_i h5
 split at h
 ·cases h
 rename_i h6
 split at h
 ·rename_i h7
  have h1:1≤x.1∧x.1≤12:=Classical.byContradiction h1
  refine ⟨h1,Classical.byContradiction fun hc=>h2 (.inl (vU hc)),fun hk=>Classical.byContradiction fun hc=>h2 (.inr ⟨hk,hc⟩),?_,fun hk=>Classical.byContradiction fun hc=>h5 ⟨hk,hc⟩,by simpa using h6,h7,?_⟩
  ·cases ha:iG x<;>cases ht:bY d x
   ·exact absurd ⟨ha,ht⟩ h4
   ·rfl
   ·rfl
   ·exact absurd ⟨ha,ht⟩ h3
  ·unfold bB
   rw[if_neg (fun h=>h h1),if_neg h2,if_neg h3,if_neg h4,if_neg h5,if_neg h6,if_pos h7]
 ·rename_i h7;exact absurd h h7
theorem OZ:∀ {l:List a8},SR l=true→l.Pairwise fun a b=>ltN a b=true
 | [],_=>List.Pairwise.nil
 | [a],_=>by simp
 | a::b::l,h=>by
  rw[SR,Bool.and_eq_true] at h
  have ih:=OZ h.2
  refine List.pairwise_cons.2 ⟨fun y hy=>?_,ih⟩
  rcases List.mem_cons.1 hy with rfl|hy
  ·exact h.1
  ·exact QH h.1 ((List.pairwise_cons.1 ih).1 y hy)
end Go.Pv
namespace Go.Pv
open Go Go.Proofs
def okS (s:ByteArray):Bool:=decide (s.size≤1099511627776)
end Go.Pv
namespace Go.Pv
open Go Go.Proofs
def A3G (l:List ByteArray) (x:ByteArray):Bool:=l.any fun y=>decide (y=x)
def DA (x:List ByteArray×ByteArray):Option T:=some (Sh.enc jG (A3G x.1 x.2))
noncomputable def AZ2:Env:=Env.of []
def A1L:FuncId→Hint:=bX 9 [(2,.inv [.val 5 false (.int .i64)])] (fun _=>aZ)
theorem AKF:aT Tryz.prog AZ2:=.nil _
def R1(a0:List ByteArray)(a1:ByteArray)(R:T→Prop):Prop:=bA (Int×PUnit) (fun X0 s1=>aC (decide (s1.1<(↑(List.map Sy.str.enc a0).length:Int))) (aR Sy.str (List.map Sy.str.enc a0) s1.1 fun (y2:ByteArray)=>aC (decide (y2=a1)) (R BFI) (BF0 X0 s1)) (R BFD)) (0,())
abbrev UL:Sh:=[(false,Sy.str.li),(false,Sy.str)]
noncomputable def CD:List T→Option T:=gS UL DA
theorem AEM {a0 a1}:CD [T.sl false (List.map Sy.str.enc a0),T.v (.string a1)]=DA (a0,a1):=bG (s:=UL) rfl (a0,a1) rfl
theorem AXO:rQ Tryz.prog 9 CD DA (cD UL) R1:=gZ (a1:=(false,Sy.str.li)) (a2:=(false,Sy.str)) (sp:=DA) (F:=R1) (Hs:=A1L) (f:=9) (k:=8) AKF aU aY (aN rfl) ⟨_,_,Tryz.func9,rfl⟩ rfl fun _ _ _=>by kernel_rfl
theorem ADG {α:Type} {p:α→Bool} {l:List α} {k:Nat} (h:k<l.length):(l.drop k).any p=(p l[k]||(l.drop (k+1)).any p):=by rw[List.drop_eq_getElem_cons h,List.any_cons]
theorem AUP:aO Tryz.prog 9 CD:=AXO fun l x r h hb=>by
 cases h
 have hl:l.length≤2 ^ 47:=hb.1.1
 unfold R1 BF0 BFI BFD
 refine bM l.length (fun k s=>s=((k:Int),())∧A3G l x=(l.drop k).any fun y=>decide (y=x)) ⟨rfl,rfl⟩ ?_
 rintro X k s hk ⟨rfl,he⟩ hX
 dsimp only
 by_cases hlt:k<l.length
 ·rw[ADG hlt] at he
  refine eB (by simp[hlt]) ?_
  rw[bH (r:=.str) hlt]
  by_cases h1:l[k]=x
  ·refine eB h1 ?_
   rw[he,decide_eq_true h1];rfl
  ·refine fW h1 (hX _ hlt ⟨by rw[show IntKind.i64.wrap ((k:Int)+1)=((k+1:Nat):Int) from bD _ (by omega) (by omega)],?_⟩)
   rw[he,decide_eq_false h1,Bool.false_or]
 ·have:k=l.length:=by omega
  subst this
  refine fW (by simp) ?_
  rw[he,List.drop_length];rfl
end Go.Pv
namespace Go.Pv
open Go Go.Proofs
structure BEJ (d:aB):Prop where
 few:few d 1000=true
 n:d.2.1.length≤1000
 p:d.2.2.1.length≤1000
 s:d.2.2.2.1.length≤1000
 k:d.2.2.2.2.1.length≤1000
 r:d.2.2.2.2.2.length≤1000
 kl:∀ k∈d.2.2.2.2.1,(jC k).length≤1000∧(fR k).length≤1000
 T6:T6 d=true
 QR:QR d=true
structure UOk (d:aB):Prop extends BEJ d where
 nI:∀ n∈d.2.1,okS n.1=true
 pI:∀ p∈d.2.2.1,okS p.1=true∧okS (mN p)=true
 sI:∀ s∈d.2.2.2.1,okS s.1=true∧okS s.2.1=true∧okS s.2.2.1=true
 kI:∀ k∈d.2.2.2.2.1,okS k.1=true
theorem o9 (a b:ByteArray):(!(cK b a||decide (b=a)))=cK a b:=by
 rw[Bool.eq_iff_iff]
 refine ⟨fun h=>(jS a b).2 (AHJ h),fun h=>?_⟩
 have h1:=(jS a b).1 h
 have h2:cK b a=false:=by
  rw[Bool.eq_false_iff]
  intro h3
  exact List.lt_irrefl _ (List.lt_trans h1 ((jS b a).1 h3))
 have h3:¬ b=a:=fun e=>by rw[e] at h1;exact List.lt_irrefl _ h1
 rw[h2,decide_eq_false h3];rfl
theorem dk {l:List ByteArray} {rows:List (List T)} {K:List ByteArray→Prop} (e:rows=List.map Sy.str.enc l) (h:K l):lT Sy.str rows K:=by
 subst e;rw[dR (r:=.str) rfl];exact h
end Go.Pv
namespace Go.Pv
open Go Go.Proofs
theorem cO {r:Sy} {l:List r.den} (p:r.den→Bool) {Body:(Int×PUnit→Prop)→Int×PUnit→r.den→Prop} {Fin:Prop} (hl:l.length≤140737488355328)
  (hB:∀ (X:Int×PUnit→Prop) (k:Nat) (y:r.den) (h:k<l.length),l[k]=y→(p y=true→l.findIdx p=k∧l.any p=true)→(p y=false→X (IntKind.i64.wrap ((k:Int)+1),()))→Body X ((k:Int),()) y)
  (hF:l.findIdx p=l.length→l.any p=false→Fin) :
  bA (Int×PUnit) (fun X s=>aC (decide (s.1<((List.map r.enc l).length:Int))) (aR r (List.map r.enc l) s.1 fun y=>Body X s y) Fin) (0,()):=by
 refine bM l.length (fun k s=>s=((k:Int),())∧∀ i,(h:i<l.length)→i<k→p l[i]=false) ⟨rfl,fun i _ h=>by omega⟩ ?_
 rintro X k s hk ⟨rfl,he⟩ hX
 dsimp only
 refine b8 (fun hlt=>?_) fun hge=>?_
 ·rw[List.length_map] at hlt
  have hlt:k<l.length:=by omega
  rw[bH (r:=r) hlt]
  refine hB X k _ hlt rfl (fun hp=>⟨?_,List.any_eq_true.2 ⟨_,List.getElem_mem hlt,hp⟩⟩) fun hp=>hX _ hlt ⟨?_,fun i hi hik=>?_⟩
  ·exact (List.findIdx_eq hlt).2 ⟨hp,fun j hj=>he j (by omega) hj⟩
  ·rw[show IntKind.i64.wrap ((k:Int)+1)=((k+1:Nat):Int) by rw[bD]<;>omega]
  ·rcases Nat.lt_or_ge i k with h|h
   ·exact he i hi h
   ·have:i=k:=by omega
    subst this;exact hp
 ·rw[List.length_map] at hge
  have hall:∀ y∈l,p y=false:=fun y hy=>by
   obtain ⟨i,hi,rfl⟩:=List.mem_iff_getElem.1 hy
   exact he i hi (by omega)
  exact hF (List.findIdx_eq_length_of_false fun y hy=>by simpa using hall y hy) (List.any_eq_false.2 fun y hy=>by simp[hall y hy])
theorem oF {n:Nat} (h:n≤1000):n≤140737488355328:=by omega
theorem vQ {α:Type} {is:α→Bool} {l:List α} (h:l.findIdx is=l.length):c0 is l=l:=by
 unfold c0
 rw[h,List.take_length,List.drop_eq_nil_of_le (by omega),List.append_nil]
theorem rI {r:Sy} {z b k:Nat} {f:Bool} {l:List r.den} {x:r.den} (hz:r.w=z) (hk:k≤l.length) (hl:l.length≤1000) (hb:b≤1000):TC z b (List.map r.enc l) [.v (.int .i64 (k:Int)),.sl f [r.enc x]]=some (List.map r.enc (l.take k++x::l.drop k)):=by
 unfold TC
 have hm:(l.length+1)*b≤1001*1000:=Nat.mul_le_mul (by omega) hb
 have hc:(decide (0≤(k:Int))&&decide ((k:Int).toNat≤(List.map r.enc l).length)&&decide ((r.enc x).length=z)&&eE z (List.map r.enc l)&&decide (((List.map r.enc l).length+1)*b≤140737488355328)&&decide ((List.map r.enc l).length+1≤140737488355328))=true:=by
  subst hz
  simp only[List.length_map,Int.toNat_natCast,Sy.cV,pG,Bool.and_eq_true,decide_eq_true_eq,and_true]
  omega
 dsimp only
 rw[hc]
 simp
theorem D9 {r:Sy} {z k:Nat} {l:List r.den} (hz:r.w=z) (hk:k<l.length) (hl:l.length≤1000):TB z (List.map r.enc l) [.v (.int .i64 (k:Int)),.v (.int .i64 (IntKind.i64.wrap ((k:Int)+1)))]=some (List.map r.enc (l.take k++l.drop (k+1))):=by
 unfold TB
 have hw:IntKind.i64.wrap ((k:Int)+1)=(k:Int)+1:=by rw[bD]<;>omega
 have hc:(decide (0≤(k:Int))&&decide (IntKind.i64.wrap ((k:Int)+1)=(k:Int)+1)&&decide ((k:Int).toNat<(List.map r.enc l).length)&&eE z (List.map r.enc l))=true:=by
  subst hz
  rw[hw]
  simp only[List.length_map,Int.toNat_natCast,pG,Bool.and_eq_true,decide_eq_true_eq,and_true]
  omega
 dsimp only
 rw[hc]
 simp
def U8 (x:aX):Option T:=some (Sh.enc [(true,aQ)] ((x.1,mX,mX,nK x,dY,gU,noPack,oL):aX))
noncomputable def BBR:Env:=Env.of []
def BCC:FuncId→Hint:=fun _=>aZ
theorem A02:aT Tryz.prog BBR:=.nil _
def AR3(a0:aX)(R:T→Prop):Prop:=R (T.agg [T.v (.int .i64 a0.1),T.v (.string {data:=#[]}), T.v (.string {data:=#[]}),T.v (.string a0.2.2.2.1.1), T.v (.int .i64 a0.2.2.2.1.2.1), T.v (.string a0.2.2.2.1.2.2),T.v (.string {data:=#[]}), T.v (.int .i64 0),T.v (.int .i64 0), T.v (.string {data:=#[]}),T.v (.string {data:=#[]}), T.v (.int .i64 0),T.sl false [],T.sl false [], T.v (.string {data:=#[]}),T.v (.int .i64 0), T.v (.int .i64 0),T.v (.int .i64 0), T.v (.int .i64 0),T.v (.int .i64 0), T.v (.int .i64 0),T.v (.int .i64 0), T.v (.int .i64 0),T.v (.int .i64 0), T.v (.string {data:=#[]}),T.v (.string {data:=#[]}), T.v (.string {data:=#[]}),T.v (.int .i64 0), T.v (.int .i64 0),T.v (.int .i64 0), T.v (.string {data:=#[]}),T.v (.string {data:=#[]}),T.sl false [], T.v (.int .i64 0),T.sl false [],T.v (.int .i64 0), T.v (.string {data:=#[]}),T.v (.string {data:=#[]})])
abbrev AY4:Sh:=[(true,aQ)]
noncomputable def PZ:List T→Option T:=gS AY4 U8
theorem AVZ {a0}:PZ [aI true aQ a0]=U8 (a0):=bG (s:=AY4) rfl (a0) rfl
theorem A96:vF Tryz.prog 110 PZ U8 (cD AY4) AR3:=jJ (a1:=(true,aQ)) (sp:=U8) (F:=AR3) (Hs:=BCC) (f:=110) (k:=8) A02 aU aY (aN rfl) ⟨_,_,Tryz.func110,rfl⟩ rfl fun _ _=>by kernel_rfl
theorem A8D:aO Tryz.prog 110 PZ:=A96 fun x r h hb=>by
 cases h
 unfold AR3
 rfl
def U9 (x:aX):Option T:=some (Sh.enc [(true,aQ)] ((x.1,dQ x,mX,gT,dY,gU,noPack,oL):aX))
noncomputable def BBS:Env:=Env.of []
def BCD:FuncId→Hint:=fun _=>aZ
theorem A03:aT Tryz.prog BBS:=.nil _
def BFY(a0:aX):T:=T.agg [T.v (.int .i64 a0.1),T.v (.string a0.2.1), T.v (.string {data:=#[]}),T.v (.string {data:=#[]}), T.v (.int .i64 0),T.v (.string {data:=#[]}), T.v (.string {data:=#[]}),T.v (.int .i64 0), T.v (.int .i64 0),T.v (.string {data:=#[]}), T.v (.string {data:=#[]}),T.v (.int .i64 0),T.sl false [], T.sl false [],T.v (.string {data:=#[]}),T.v (.int .i64 0), T.v (.int .i64 0),T.v (.int .i64 0), T.v (.int .i64 0),T.v (.int .i64 0), T.v (.int .i64 0),T.v (.int .i64 0), T.v (.int .i64 0),T.v (.int .i64 0), T.v (.string {data:=#[]}),T.v (.string {data:=#[]}), T.v (.string {data:=#[]}),T.v (.int .i64 0), T.v (.int .i64 0),T.v (.int .i64 0), T.v (.string {data:=#[]}),T.v (.string {data:=#[]}),T.sl false [], T.v (.int .i64 0),T.sl false [],T.v (.int .i64 0), T.v (.string {data:=#[]}),T.v (.string {data:=#[]})]
def AR4(a0:aX)(R:T→Prop):Prop:=R (BFY a0)
abbrev AY5:Sh:=[(true,aQ)]
noncomputable def P1:List T→Option T:=gS AY5 U9
theorem AV0 {a0}:P1 [aI true aQ a0]=U9 (a0):=bG (s:=AY5) rfl (a0) rfl
theorem A97:vF Tryz.prog 118 P1 U9 (cD AY5) AR4:=jJ (a1:=(true,aQ)) (sp:=U9) (F:=AR4) (Hs:=BCD) (f:=118) (k:=8) A03 aU aY (aN rfl) ⟨_,_,Tryz.func118,rfl⟩ rfl fun _ _=>by kernel_rfl
theorem A8E:aO Tryz.prog 118 P1:=A97 fun x r h hb=>by
 cases h
 unfold AR4 BFY
 rfl
def VA (x:aX):Option T:=some (Sh.enc [(true,aQ)] ((x.1,mX,mX,gT,cH x,gU,noPack,oL):aX))
noncomputable def BBT:Env:=Env.of []
def BCE:FuncId→Hint:=fun _=>aZ
theorem A04:aT Tryz.prog BBT:=.nil _
def BF2(a0:aX):T:=T.agg [T.v (.int .i64 a0.1),T.v (.string {data:=#[]}), T.v (.string {data:=#[]}),T.v (.string {data:=#[]}), T.v (.int .i64 0),T.v (.string {data:=#[]}), T.v (.string a0.2.2.2.2.1.1), T.v (.int .i64 a0.2.2.2.2.1.2.1), T.v (.int .i64 a0.2.2.2.2.1.2.2.1), T.v (.string a0.2.2.2.2.1.2.2.2.1), T.v (.string a0.2.2.2.2.1.2.2.2.2.1), T.v (.int .i64 a0.2.2.2.2.1.2.2.2.2.2.1), T.sl false (List.map aA.enc a0.2.2.2.2.1.2.2.2.2.2.2.1.1), T.sl false (List.map aA.li.enc a0.2.2.2.2.1.2.2.2.2.2.2.1.2), T.v (.string a0.2.2.2.2.1.2.2.2.2.2.2.2.1), T.v (.int .i64 a0.2.2.2.2.1.2.2.2.2.2.2.2.2.1), T.v (.int .i64 a0.2.2.2.2.1.2.2.2.2.2.2.2.2.2.1), T.v (.int .i64 a0.2.2.2.2.1.2.2.2.2.2.2.2.2.2.2.1.1), T.v (.int .i64 a0.2.2.2.2.1.2.2.2.2.2.2.2.2.2.2.1.2.1), T.v (.int .i64 a0.2.2.2.2.1.2.2.2.2.2.2.2.2.2.2.1.2.2), T.v (.int .i64 a0.2.2.2.2.1.2.2.2.2.2.2.2.2.2.2.2.1.1), T.v (.int .i64 a0.2.2.2.2.1.2.2.2.2.2.2.2.2.2.2.2.1.2.1), T.v (.int .i64 a0.2.2.2.2.1.2.2.2.2.2.2.2.2.2.2.2.1.2.2), T.v (.int .i64 a0.2.2.2.2.1.2.2.2.2.2.2.2.2.2.2.2.2), T.v (.string {data:=#[]}),T.v (.string {data:=#[]}), T.v (.string {data:=#[]}),T.v (.int .i64 0), T.v (.int .i64 0),T.v (.int .i64 0), T.v (.string {data:=#[]}),T.v (.string {data:=#[]}),T.sl false [], T.v (.int .i64 0),T.sl false [],T.v (.int .i64 0), T.v (.string {data:=#[]}),T.v (.string {data:=#[]})]
def AR5(a0:aX)(R:T→Prop):Prop:=R (BF2 a0)
abbrev AY6:Sh:=[(true,aQ)]
noncomputable def P2:List T→Option T:=gS AY6 VA
theorem AV1 {a0}:P2 [aI true aQ a0]=VA (a0):=bG (s:=AY6) rfl (a0) rfl
theorem A98:vF Tryz.prog 130 P2 VA (cD AY6) AR5:=jJ (a1:=(true,aQ)) (sp:=VA) (F:=AR5) (Hs:=BCE) (f:=130) (k:=8) A04 aU aY (aN rfl) ⟨_,_,Tryz.func130,rfl⟩ rfl fun _ _=>by kernel_rfl
theorem A8F:aO Tryz.prog 130 P2:=A98 fun x r h hb=>by
 cases h
 unfold AR5 BF2
 rfl
def VB (x:aX):Option T:=some (Sh.enc [(true,aQ)] ((x.1,dQ x,mX,gT,dY,gU,noPack,oL):aX))
noncomputable def BBU:Env:=Env.of []
def BCF:FuncId→Hint:=fun _=>aZ
theorem A05:aT Tryz.prog BBU:=.nil _
def AR6(a0:aX)(R:T→Prop):Prop:=R (BFY a0)
abbrev AY7:Sh:=[(true,aQ)]
noncomputable def P3:List T→Option T:=gS AY7 VB
theorem AV2 {a0}:P3 [aI true aQ a0]=VB (a0):=bG (s:=AY7) rfl (a0) rfl
theorem A99:vF Tryz.prog 137 P3 VB (cD AY7) AR6:=jJ (a1:=(true,aQ)) (sp:=VB) (F:=AR6) (Hs:=BCF) (f:=137) (k:=8) A05 aU aY (aN rfl) ⟨_,_,Tryz.func137,rfl⟩ rfl fun _ _=>by kernel_rfl
theorem A8G:aO Tryz.prog 137 P3:=A99 fun x r h hb=>by
 cases h
 unfold AR6 BFY
 rfl
def VE (x:aX):Option T:=some (Sh.enc [(true,aQ)] ((x.1,mX,mX,gT,dY,nL x,noPack,oL):aX))
noncomputable def BBX:Env:=Env.of []
def BCI:FuncId→Hint:=fun _=>aZ
theorem A08:aT Tryz.prog BBX:=.nil _
def AR9(a0:aX)(R:T→Prop):Prop:=R (T.agg [T.v (.int .i64 a0.1),T.v (.string {data:=#[]}), T.v (.string {data:=#[]}),T.v (.string {data:=#[]}), T.v (.int .i64 0),T.v (.string {data:=#[]}), T.v (.string {data:=#[]}),T.v (.int .i64 0), T.v (.int .i64 0),T.v (.string {data:=#[]}), T.v (.string {data:=#[]}),T.v (.int .i64 0),T.sl false [], T.sl false [],T.v (.string {data:=#[]}),T.v (.int .i64 0), T.v (.int .i64 0),T.v (.int .i64 0), T.v (.int .i64 0),T.v (.int .i64 0), T.v (.int .i64 0),T.v (.int .i64 0), T.v (.int .i64 0),T.v (.int .i64 0), T.v (.string a0.2.2.2.2.2.1.1), T.v (.string a0.2.2.2.2.2.1.2.1), T.v (.string a0.2.2.2.2.2.1.2.2.1), T.v (.int .i64 a0.2.2.2.2.2.1.2.2.2.1), T.v (.int .i64 a0.2.2.2.2.2.1.2.2.2.2.1), T.v (.int .i64 a0.2.2.2.2.2.1.2.2.2.2.2), T.v (.string {data:=#[]}),T.v (.string {data:=#[]}),T.sl false [], T.v (.int .i64 0),T.sl false [],T.v (.int .i64 0), T.v (.string {data:=#[]}),T.v (.string {data:=#[]})])
abbrev AZA:Sh:=[(true,aQ)]
noncomputable def P6:List T→Option T:=gS AZA VE
theorem AV5 {a0}:P6 [aI true aQ a0]=VE (a0):=bG (s:=AZA) rfl (a0) rfl
theorem BAC:vF Tryz.prog 158 P6 VE (cD AZA) AR9:=jJ (a1:=(true,aQ)) (sp:=VE) (F:=AR9) (Hs:=BCI) (f:=158) (k:=8) A08 aU aY (aN rfl) ⟨_,_,Tryz.func158,rfl⟩ rfl fun _ _=>by kernel_rfl
theorem A8J:aO Tryz.prog 158 P6:=BAC fun x r h hb=>by
 cases h
 unfold AR9
 rfl
def VF (x:aX):Option T:=some (Sh.enc [(true,aQ)] ((x.1,dQ x,mX,gT,dY,gU,noPack,oL):aX))
noncomputable def BBY:Env:=Env.of []
def BCJ:FuncId→Hint:=fun _=>aZ
theorem A09:aT Tryz.prog BBY:=.nil _
def ASA(a0:aX)(R:T→Prop):Prop:=R (BFY a0)
abbrev AZB:Sh:=[(true,aQ)]
noncomputable def P7:List T→Option T:=gS AZB VF
theorem AV6 {a0}:P7 [aI true aQ a0]=VF (a0):=bG (s:=AZB) rfl (a0) rfl
theorem BAD:vF Tryz.prog 166 P7 VF (cD AZB) ASA:=jJ (a1:=(true,aQ)) (sp:=VF) (F:=ASA) (Hs:=BCJ) (f:=166) (k:=8) A09 aU aY (aN rfl) ⟨_,_,Tryz.func166,rfl⟩ rfl fun _ _=>by kernel_rfl
theorem A8K:aO Tryz.prog 166 P7:=BAD fun x r h hb=>by
 cases h
 unfold ASA BFY
 rfl
def VG (x:aX):Option T:=some (Sh.enc [(true,aQ)] ((x.1,mX,mX,gT,dY,gU,iH x,oL):aX))
noncomputable def BBZ:Env:=Env.of []
def BCK:FuncId→Hint:=fun _=>aZ
theorem A1A:aT Tryz.prog BBZ:=.nil _
def ASB(a0:aX)(R:T→Prop):Prop:=R (T.agg [T.v (.int .i64 a0.1),T.v (.string {data:=#[]}), T.v (.string {data:=#[]}),T.v (.string {data:=#[]}), T.v (.int .i64 0),T.v (.string {data:=#[]}), T.v (.string {data:=#[]}),T.v (.int .i64 0), T.v (.int .i64 0),T.v (.string {data:=#[]}), T.v (.string {data:=#[]}),T.v (.int .i64 0),T.sl false [], T.sl false [],T.v (.string {data:=#[]}),T.v (.int .i64 0), T.v (.int .i64 0),T.v (.int .i64 0), T.v (.int .i64 0),T.v (.int .i64 0), T.v (.int .i64 0),T.v (.int .i64 0), T.v (.int .i64 0),T.v (.int .i64 0), T.v (.string {data:=#[]}),T.v (.string {data:=#[]}), T.v (.string {data:=#[]}),T.v (.int .i64 0), T.v (.int .i64 0),T.v (.int .i64 0), T.v (.string a0.2.2.2.2.2.2.1.1), T.v (.string a0.2.2.2.2.2.2.1.2.1), T.sl false (List.map Sy.str.enc a0.2.2.2.2.2.2.1.2.2.1), T.v (.int .i64 a0.2.2.2.2.2.2.1.2.2.2.1), T.sl false (List.map Sy.str.enc a0.2.2.2.2.2.2.1.2.2.2.2), T.v (.int .i64 0),T.v (.string {data:=#[]}), T.v (.string {data:=#[]})])
abbrev AZC:Sh:=[(true,aQ)]
noncomputable def P8:List T→Option T:=gS AZC VG
theorem AV7 {a0}:P8 [aI true aQ a0]=VG (a0):=bG (s:=AZC) rfl (a0) rfl
theorem BAE:vF Tryz.prog 178 P8 VG (cD AZC) ASB:=jJ (a1:=(true,aQ)) (sp:=VG) (F:=ASB) (Hs:=BCK) (f:=178) (k:=8) A1A aU aY (aN rfl) ⟨_,_,Tryz.func178,rfl⟩ rfl fun _ _=>by kernel_rfl
theorem A8L:aO Tryz.prog 178 P8:=BAE fun x r h hb=>by
 cases h
 unfold ASB
 rfl
def I1 (x:aX):Option T:=some (Sh.enc [(true,aQ)] ((x.1,dQ x,mX,gT,dY,gU,noPack,oL):aX))
noncomputable def A6N:Env:=Env.of []
def A60:FuncId→Hint:=fun _=>aZ
theorem AQX:aT Tryz.prog A6N:=.nil _
def ACZ(a0:aX)(R:T→Prop):Prop:=R (BFY a0)
abbrev AGC:Sh:=[(true,aQ)]
noncomputable def EP:List T→Option T:=gS AGC I1
theorem AM6 {a0}:EP [aI true aQ a0]=I1 (a0):=bG (s:=AGC) rfl (a0) rfl
theorem A4F:vF Tryz.prog 187 EP I1 (cD AGC) ACZ:=jJ (a1:=(true,aQ)) (sp:=I1) (F:=ACZ) (Hs:=A60) (f:=187) (k:=8) AQX aU aY (aN rfl) ⟨_,_,Tryz.func187,rfl⟩ rfl fun _ _=>by kernel_rfl
theorem A29:aO Tryz.prog 187 EP:=A4F fun x r h hb=>by
 cases h
 unfold ACZ BFY
 rfl
def I2 (x:aX):Option T:=some (Sh.enc [(true,aQ)] ((x.1,mX,mX,gT,dY,gU,noPack,fX x):aX))
noncomputable def A6O:Env:=Env.of []
def A61:FuncId→Hint:=fun _=>aZ
theorem AQY:aT Tryz.prog A6O:=.nil _
def AC0(a0:aX)(R:T→Prop):Prop:=R (T.agg [T.v (.int .i64 a0.1),T.v (.string {data:=#[]}), T.v (.string {data:=#[]}),T.v (.string {data:=#[]}), T.v (.int .i64 0),T.v (.string {data:=#[]}), T.v (.string {data:=#[]}),T.v (.int .i64 0), T.v (.int .i64 0),T.v (.string {data:=#[]}), T.v (.string {data:=#[]}),T.v (.int .i64 0),T.sl false [], T.sl false [],T.v (.string {data:=#[]}),T.v (.int .i64 0), T.v (.int .i64 0),T.v (.int .i64 0), T.v (.int .i64 0),T.v (.int .i64 0), T.v (.int .i64 0),T.v (.int .i64 0), T.v (.int .i64 0),T.v (.int .i64 0), T.v (.string {data:=#[]}),T.v (.string {data:=#[]}), T.v (.string {data:=#[]}),T.v (.int .i64 0), T.v (.int .i64 0),T.v (.int .i64 0), T.v (.string {data:=#[]}),T.v (.string {data:=#[]}),T.sl false [], T.v (.int .i64 0),T.sl false [], T.v (.int .i64 a0.2.2.2.2.2.2.2.1), T.v (.string a0.2.2.2.2.2.2.2.2.1), T.v (.string a0.2.2.2.2.2.2.2.2.2)])
abbrev AGD:Sh:=[(true,aQ)]
noncomputable def tV:List T→Option T:=gS AGD I2
theorem P0 {a0}:tV [aI true aQ a0]=I2 (a0):=bG (s:=AGD) rfl (a0) rfl
theorem A4G:vF Tryz.prog 193 tV I2 (cD AGD) AC0:=jJ (a1:=(true,aQ)) (sp:=I2) (F:=AC0) (Hs:=A61) (f:=193) (k:=8) AQY aU aY (aN rfl) ⟨_,_,Tryz.func193,rfl⟩ rfl fun _ _=>by kernel_rfl
theorem AH4:aO Tryz.prog 193 tV:=A4G fun x r h hb=>by
 cases h
 unfold AC0
 rfl
def yT (x:aB×aX):Option T:=some (T.v (.bool false))
noncomputable def AQI:Env:=Env.of []
def ATC:FuncId→Hint:=fun _=>aZ
theorem ACH:aT Tryz.prog AQI:=.nil _
def J4(a0:aB)(a1:aX)(R:T→Prop):Prop:=R BFD
abbrev NJ:Sh:=[(true,aE),(true,aQ)]
noncomputable def iW:List T→Option T:=gS NJ yT
theorem GU {a0 a1}:iW [aI true aE a0,aI true aQ a1]=yT (a0,a1):=bG (s:=NJ) rfl (a0,a1) rfl
theorem AON:rQ Tryz.prog 146 iW yT (cD NJ) J4:=gZ (a1:=(true,aE)) (a2:=(true,aQ)) (sp:=yT) (F:=J4) (Hs:=ATC) (f:=146) (k:=8) ACH aU aY (aN rfl) ⟨_,_,Tryz.func146,rfl⟩ rfl fun _ _ _=>by kernel_rfl
theorem r8:aO Tryz.prog 146 iW:=AON fun d x r h hb=>by
 cases h
 unfold J4 BFD
 rfl
theorem kK {c:Bool} {a r:T} (h:(match c with|true=>some a|false=>none)=some r):c=true∧a=r:=by
 cases c with
 | true=>exact ⟨rfl,Option.some.inj h⟩
 | false=>cases h
def DL (x:aB×aX):Option T:=match sP x.1 with
 | true=>some (T.v (.bool (oB x.1 (dQ x.2))))
 | false=>none
noncomputable def A0E:Env:=Env.of []
def A1X:FuncId→Hint:=bX 243 [(2,.inv [.val 8 false (.int .i64)])] (bX 248 [(2,.inv [.val 8 false (.int .i64)])] (bX 249 [(2,.inv [.val 8 false (.int .i64)])] (fun _=>aZ)))
theorem AKT:aT Tryz.prog A0E:=.nil _
def BF7(a0:aB)(a1:aX)(R:T→Prop):Prop:=bA (Int×PUnit) (fun X3 s4=>aC (decide (s4.1<(↑(BFZ a0).length:Int))) (aR aF (BFZ a0) s4.1 fun (y5:aL)=>bA (Int×PUnit) (fun X6 s7=>aC (decide (s7.1<(↑(BG1 y5).length:Int))) (aR Sy.str (BG1 y5) s7.1 fun (y8:ByteArray)=>aC (decide (a1.2.1=y8)) (aC (decide (0≤s7.1)) (R (BGU s4)) (BF0 X3 s4)) (BF0 X6 s7)) (BF0 X3 s4)) (0,())) (R BFD)) (0,())
def SH(a0:aB)(a1:aX)(R:T→Prop):Prop:=bA (Int×PUnit) (fun X0 s1=>aC (decide (s1.1<(↑(BF4 a0).length:Int))) (aR a7 (BF4 a0) s1.1 fun (y2:bI)=>aC (decide (y2.2.1=a1.2.1)) (aC (decide (0≤s1.1)) (R BFI) (BF7 a0 a1 R)) (aC (decide (y2.2.2.1=a1.2.1)) (aC (decide (0≤s1.1)) (R BFI) (BF7 a0 a1 R)) (BF0 X0 s1))) (BF7 a0 a1 R)) (0,())
abbrev UY:Sh:=[(true,aE),(true,aQ)]
noncomputable def xZ:List T→Option T:=gS UY DL
theorem AE0 {a0 a1}:xZ [aI true aE a0,aI true aQ a1]=DL (a0,a1):=bG (s:=UY) rfl (a0,a1) rfl
theorem AX2:rQ Tryz.prog 125 xZ DL (cD UY) SH:=gZ (a1:=(true,aE)) (a2:=(true,aQ)) (sp:=DL) (F:=SH) (Hs:=A1X) (f:=125) (k:=8) AKT aU aY (aN rfl) ⟨_,_,Tryz.func125,rfl⟩ rfl fun _ _ _=>by kernel_rfl
theorem AU1:aO Tryz.prog 125 xZ:=AX2 fun d x r h hb=>by
 clear hb
 obtain ⟨hp,rfl⟩:=kK h
 clear h
 have c:=dP hp
 have hk:∀ k∈d.2.2.2.2.1,k.2.2.1.length≤140737488355328∧k.2.2.2.2.length≤140737488355328:=fun k hk=>by
  have:=List.all_eq_true.1 c.QR k hk
  simp only[fT,kR,Bool.and_eq_true,decide_eq_true_eq] at this
  exact ⟨this.1.2,this.2.2⟩
 have is:∀ {b:Bool},oB d (dQ x)=b→T.v (.bool b)=T.v (.bool (oB d (dQ x))):=fun h=>by rw[h]
 have pos:∀ {k:Nat},¬ (0≤(k:Int))→False:=fun h=>h (by omega)
 unfold SH BF7 BG1 BF4 BFZ BGU BF0 BFI BFD
 refine cO (r:=a7) (fun s=>decide (s.2.1=dQ x)||decide (s.2.2.1=dQ x)) (oF c.s) (fun X k y hlt hy hp hn=>?_) (fun _ h1=>?_)
 ·dsimp only
  have yes:(decide (y.2.1=dQ x)||decide (y.2.2.1=dQ x))=true→oB d (dQ x)=true:=fun h=>by unfold oB;rw[(hp h).2];rfl
  refine b8 (fun h=>b8 (fun _=>is (yes (by rw[decide_eq_true h];rfl))) fun h=>(pos h).elim) fun h=>?_
  refine b8 (fun h2=>b8 (fun _=>is (yes (by rw[decide_eq_true h2,Bool.or_true]))) fun h=>(pos h).elim) fun h2=>hn ?_
  rw[decide_eq_false h,decide_eq_false h2];rfl
 ·refine cO (r:=aF) (fun k=>AE2 k.2.2.1 (dQ x)) (oF c.k) (fun X k y hlt hy hp hn=>?_) (fun _ h2=>is ?_)
  ·dsimp only
   refine cO (r:=.str) (fun z=>decide (z=dQ x)) (hk y (by rw[←hy];exact List.getElem_mem hlt)).1 (fun Y j z hj hz hp2 hn2=>?_) (fun _ h3=>hn h3)
   dsimp only
   refine b8 (fun h=>b8 (fun _=>is ?_) fun h=>(pos h).elim) fun h=>hn2 (decide_eq_false fun e=>h e.symm)
   have:=(hp (hp2 (decide_eq_true h.symm)).2).2
   rw[show decide ((0:Int)≤(k:Int))=true from decide_eq_true (by omega)]
   unfold oB;rw[this,Bool.or_true]
  ·unfold oB;rw[h1,h2];rfl
def DJ (x:aB×aX):Option T:=match sP x.1 with
 | true=>some (T.v (.bool (kW x.1 (dQ x.2))))
 | false=>none
noncomputable def A0C:Env:=Env.of []
def A1V:FuncId→Hint:=bX 148 [(2,.inv [.val 8 false (.int .i64)])] (bX 242 [(2,.inv [.val 8 false (.int .i64)])] (bX 243 [(2,.inv [.val 8 false (.int .i64)])] (bX 244 [(2,.inv [.val 8 false (.int .i64)])] (fun _=>aZ))))
theorem AKR:aT Tryz.prog A0C:=.nil _
def BG5(a0:aB)(s10:Int×PUnit)(a1:aX)(R:T→Prop)(X9:Int×PUnit→Prop):Prop:=aR aS (BF6 a0) s10.1 fun (y11:a8)=>aC (decide (y11.2.1=a1.2.1)) (R (BGU s10)) (aC (decide (y11.2.2=a1.2.1)) (aC (!decide (y11.1=3)) (R (BGU s10)) (BF0 X9 s10)) (BF0 X9 s10))
def BFX(a0:aB)(a1:aX)(R:T→Prop):Prop:=bA (Int×PUnit) (fun X12 s13=>aC (decide (s13.1<(↑(BF6 a0).length:Int))) (BG5 a0 s13 a1 R X12) (R BFD)) (0,())
def BGE(a0:aB)(a1:aX)(R:T→Prop):Prop:=bA (Int×PUnit) (fun X15 s16=>aC (decide (s16.1<(↑(BFZ a0).length:Int))) (aR aF (BFZ a0) s16.1 fun (y17:aL)=>aC (decide (y17.2.1=a1.2.1)) (aC (decide (0≤s16.1)) (R BFI) (BFX a0 a1 R)) (BF0 X15 s16)) (BFX a0 a1 R)) (0,())
def SF(a0:aB)(a1:aX)(R:T→Prop):Prop:=bA (Int×PUnit) (fun X0 s1=>aC (decide (s1.1<(↑(BF3 a0).length:Int))) (aR aM (BF3 a0) s1.1 fun (y2:aV)=>aC (decide (y2.2.2.2.1=a1.2.1)) (aC (decide (0≤s1.1)) (R BFI) (bA (Int×PUnit) (fun X3 s4=>aC (decide (s4.1<(↑(BF8 a0).length:Int))) (aR a6 (BF8 a0) s4.1 fun (y5:bE)=>aC (decide (y5.2.2=a1.2.1)) (aC (decide (0≤s4.1)) (R BFI) (bA (Int×PUnit) (fun X6 s7=>aC (decide (s7.1<(↑(BFZ a0).length:Int))) (aR aF (BFZ a0) s7.1 fun (y8:aL)=>aC (decide (y8.2.1=a1.2.1)) (aC (decide (0≤s7.1)) (R BFI) (bA (Int×PUnit) (fun X9 s10=>aC (decide (s10.1 < (↑(BF6 a0).length:Int))) (BG5 a0 s10 a1 R X9) (R BFD)) (0,()))) (BF0 X6 s7)) (BFX a0 a1 R)) (0,()))) (BF0 X3 s4)) (BGE a0 a1 R)) (0,()))) (BF0 X0 s1)) (bA (Int×PUnit) (fun X24 s25=>aC (decide (s25.1<(↑(BF8 a0).length:Int))) (aR a6 (BF8 a0) s25.1 fun (y26:bE)=>aC (decide (y26.2.2=a1.2.1)) (aC (decide (0≤s25.1)) (R BFI) (BGE a0 a1 R)) (BF0 X24 s25)) (BGE a0 a1 R)) (0,()))) (0,())
abbrev UW:Sh:=[(true,aE),(true,aQ)]
noncomputable def xX:List T→Option T:=gS UW DJ
theorem AEY {a0 a1}:xX [aI true aE a0,aI true aQ a1]=DJ (a0,a1):=bG (s:=UW) rfl (a0,a1) rfl
theorem AX0:rQ Tryz.prog 101 xX DJ (cD UW) SF:=gZ (a1:=(true,aE)) (a2:=(true,aQ)) (sp:=DJ) (F:=SF) (Hs:=A1V) (f:=101) (k:=8) AKR aU aY (aN rfl) ⟨_,_,Tryz.func101,rfl⟩ rfl fun _ _ _=>by kernel_rfl
theorem AUZ:aO Tryz.prog 101 xX:=AX0 fun d x r h hb=>by
 clear hb
 obtain ⟨hp,rfl⟩:=kK h
 clear h
 have c:=dP hp
 have is:∀ {b:Bool},kW d (dQ x)=b→T.v (.bool b)=T.v (.bool (kW d (dQ x))):=fun h=>by rw[h]
 have pos:∀ {k:Nat},¬ (0≤(k:Int))→False:=fun h=>h (by omega)
 have d0:∀ {k:Nat},decide ((0:Int)≤(k:Int))=true:=decide_eq_true (by omega)
 unfold SF BGE BF8 BF3 BFZ BFX BG5 BGU BF0 BF6 BFI BFD
 refine cO (r:=aM) (fun p=>decide (mN p=dQ x)) (oF c.p) (fun X k y hlt hy hp hn=>?_) (fun _ h1=>?_)
 ·dsimp only
  exact b8 (fun h=>b8 (fun _=>is (by unfold kW;rw[(hp (decide_eq_true h)).2];rfl)) fun h=>(pos h).elim) fun h=>hn (decide_eq_false h)
 refine cO (r:=a6) (fun n=>decide (n.2.2=dQ x)) (oF c.n) (fun X k y hlt hy hp hn=>?_) (fun _ h2=>?_)
 ·dsimp only
  exact b8 (fun h=>b8 (fun _=>is (by unfold kW;rw[h1,(hp (decide_eq_true h)).2];rfl)) fun h=>(pos h).elim) fun h=>hn (decide_eq_false h)
 refine cO (r:=aF) (fun k=>decide (k.2.1=dQ x)) (oF c.k) (fun X k y hlt hy hp hn=>?_) (fun _ h3=>?_)
 ·dsimp only
  exact b8 (fun h=>b8 (fun _=>is (by unfold kW;rw[h1,h2,(hp (decide_eq_true h)).2];rfl)) fun h=>(pos h).elim) fun h=>hn (decide_eq_false h)
 refine cO (r:=aS) (fun n=>decide (n.2.1=dQ x)||(decide (n.2.2=dQ x) && !decide (n.1=3))) (oF c.r) (fun X k y hlt hy hp hn=>?_) (fun _ h4=>is (by unfold kW;rw[h1,h2,h3,h4];rfl))
 dsimp only
 have yes:(decide (y.2.1=dQ x)||(decide (y.2.2=dQ x) && !decide (y.1=3)))=true→kW d (dQ x)=decide ((0:Int)≤(k:Int)):=fun h=>by rw[d0];unfold kW;rw[h1,h2,h3,(hp h).2];rfl
 refine b8 (fun h=>is (yes (by rw[decide_eq_true h];rfl))) fun a1=>?_
 refine b8 (fun a2=>?_) fun a2=>hn (by rw[decide_eq_false a1,decide_eq_false a2];rfl)
 refine lA (fun a3=>is (yes (by rw[decide_eq_true a2,decide_eq_false a3];simp))) fun a3=>hn (by rw[decide_eq_false a1,decide_eq_true a3,Bool.not_true,Bool.and_false];rfl)
def DK (x:aB×aX):Option T:=match sP x.1 with
 | true=>some (T.v (.bool (p9 x.1 (dQ x.2))))
 | false=>none
noncomputable def A0D:Env:=Env.of [(74,.dup 5 88),(256,.grow 5 l7)]
def A1W:FuncId→Hint:=bX 243 [(2,.inv [.val 8 false (.int .i64)])] (bX 244 [(2,.inv [.val 8 false (.int .i64)])] (bX 249 [(2,.inv [.val 8 false (.int .i64)])] (fun _=>aZ)))
theorem AKS:aT Tryz.prog A0D:=aT.cons (x:=.dup 5 88) nC (.cons zK (.nil _))
def BF9(a0:aB)(a1:aX)(R:T→Prop):Prop:=bA (Int×PUnit) (fun X13 s14=>aC (decide (s14.1<(↑(BF6 a0).length:Int))) (aR aS (BF6 a0) s14.1 fun (y15:a8)=>aC (decide (y15.1=3)) (aC (decide (y15.2.2=a1.2.1)) (R (BGU s14)) (BF0 X13 s14)) (BF0 X13 s14)) (R BFD)) (0,())
def BGC(y6:aL)(a1:aX)(s4:Int×PUnit)(R:T→Prop)(a0:aB)(X3:Int×PUnit→Prop):Prop:=bA (Int×PUnit) (fun X7 s8=>aC (decide (s8.1<(↑(BGR y6).length:Int))) (aR Sy.str (BGR y6) s8.1 fun (y9:ByteArray)=>aC (decide (a1.2.1=y9)) (aC (decide (0≤s8.1)) (aC (decide (0≤s4.1)) (R BFI) (bA (Int×PUnit) (fun X10 s11=>aC (decide (s11.1 < (↑(BF6 a0).length:Int))) (aR aS (BF6 a0) s11.1 fun (y12:a8)=>aC (decide (y12.1=3)) (aC (decide (y12.2.2=a1.2.1)) (R (BGU s11)) (BF0 X10 s11)) (BF0 X10 s11)) (R BFD)) (0,()))) (BF0 X3 s4)) (BF0 X7 s8)) (BF0 X3 s4)) (0,())
def BGP(s1:Int×PUnit):List T:=[T.v (.int .i64 s1.1), T.v (.int .i64 (IntKind.i64.wrap (s1.1+1)))]
def SG(a0:aB)(a1:aX)(R:T→Prop):Prop:=bA (Int×PUnit) (fun X0 s1=>aC (decide (s1.1<(↑(BFZ a0).length:Int))) (aR aF (BFZ a0) s1.1 fun (y2:aL)=>aC (decide (y2.1=a1.2.1)) (aC (decide (s1.1<0)) (bN (((BFZ a0).all fun (r:List T)=>decide (r.length=5)) && decide ((BFZ a0).length*88≤140737488355328) && decide ((BFZ a0).length≤140737488355328)) (bA (Int×PUnit) (fun X3 s4=>aC (decide (s4.1<(↑(BFZ a0).length:Int))) (aR aF (BFZ a0) s4.1 fun (y5:aL)=>eU aF (BFZ a0) (Int.toNat s4.1) 0 fun (y6:aL)=>BGC y6 a1 s4 R a0 X3) (BF9 a0 a1 R)) (0,()))) (bN (((BFZ a0).all fun (r:List T)=>decide (r.length=5)) && decide ((BFZ a0).length*88≤140737488355328) && decide ((BFZ a0).length≤140737488355328)) (bP aF (l7 (BFZ a0) (BGP s1)) fun (y16:List aL)=>bA (Int×PUnit) (fun X17 s18=>aC (decide (s18.1<(↑(List.map aF.enc y16).length:Int))) (aR aF (List.map aF.enc y16) s18.1 fun (y19:aL)=>eU aF (List.map aF.enc y16) (Int.toNat s18.1) 0 fun (y20:aL)=>BGC y20 a1 s18 R a0 X17) (BF9 a0 a1 R)) (0,())))) (BF0 X0 s1)) (bN (((BFZ a0).all fun (r:List T)=>decide (r.length=5)) && decide ((BFZ a0).length*88≤140737488355328) && decide ((BFZ a0).length≤140737488355328)) (bA (Int×PUnit) (fun X30 s31=>aC (decide (s31.1<(↑(BFZ a0).length:Int))) (aR aF (BFZ a0) s31.1 fun (y32:aL)=>eU aF (BFZ a0) (Int.toNat s31.1) 0 fun (y33:aL)=>bA (Int×PUnit) (fun X34 s35=>aC (decide (s35.1<(↑(BGR y33).length:Int))) (aR Sy.str (BGR y33) s35.1 fun (y36:ByteArray)=>aC (decide (a1.2.1=y36)) (aC (decide (0≤s35.1)) (aC (decide (0≤s31.1)) (R BFI) (BF9 a0 a1 R)) (BF0 X30 s31)) (BF0 X34 s35)) (BF0 X30 s31)) (0,())) (BF9 a0 a1 R)) (0,())))) (0,())
abbrev UX:Sh:=[(true,aE),(true,aQ)]
noncomputable def xY:List T→Option T:=gS UX DK
theorem AEZ {a0 a1}:xY [aI true aE a0,aI true aQ a1]=DK (a0,a1):=bG (s:=UX) rfl (a0,a1) rfl
theorem AX1:rQ Tryz.prog 173 xY DK (cD UX) SG:=gZ (a1:=(true,aE)) (a2:=(true,aQ)) (sp:=DK) (F:=SG) (Hs:=A1W) (f:=173) (k:=8) AKS aU aY (aN rfl) ⟨_,_,Tryz.func173,rfl⟩ rfl fun _ _ _=>by kernel_rfl
theorem AU0:aO Tryz.prog 173 xY:=AX1 fun d x r h hb=>by
 clear hb
 obtain ⟨hp,rfl⟩:=kK h
 clear h
 have c:=dP hp
 have hk:∀ k∈d.2.2.2.2.1,k.2.2.1.length≤140737488355328∧k.2.2.2.2.length≤140737488355328:=fun k hk=>by
  have:=List.all_eq_true.1 c.QR k hk
  simp only[fT,kR,Bool.and_eq_true,decide_eq_true_eq] at this
  exact ⟨this.1.2,this.2.2⟩
 have is:∀ {b:Bool},p9 d (dQ x)=b→T.v (.bool b)=T.v (.bool (p9 d (dQ x))):=fun h=>by rw[h]
 have pos:∀ {k:Nat},¬ (0≤(k:Int))→False:=fun h=>h (by omega)
 have d0:∀ {k:Nat},decide ((0:Int)≤(k:Int))=true:=decide_eq_true (by omega)
 have hd:=vR (r:=aF) (l:=d.2.2.2.2.1) (z:=5) (b:=88) rfl (dG c.k (by decide))
 unfold SG BGP BGC BGR BF9 BFZ BGU BF0 BF6 BFI BFD
 refine cO (r:=aF) (fun y=>b7 (dQ x) y) (oF c.k) (fun X k y hlt hy hp hn=>?_) (fun h0 _=>?_)
 ·dsimp only
  refine b8 (fun h=>?_) fun h=>hn (decide_eq_false h)
  obtain ⟨hi,_⟩:=hp (decide_eq_true h)
  refine b8 (fun h=>by omega) fun _=>⟨hd,?_⟩
  have eL:c0 (b7 (dQ x)) d.2.2.2.2.1=d.2.2.2.2.1.take k++d.2.2.2.2.1.drop (k+1):=by
   unfold c0
   rw[show List.findIdx (b7 (dQ x)) d.2.2.2.2.1=k from hi]
  refine dO (r:=aF) (l:=c0 (b7 (dQ x)) d.2.2.2.2.1) (by rw[eL];exact D9 (r:=aF) rfl hlt c.k) _ ?_
  have hL:(c0 (b7 (dQ x)) d.2.2.2.2.1).length≤1000:=Nat.le_trans XG c.k
  have hkL:∀ k∈c0 (b7 (dQ x)) d.2.2.2.2.1,k.2.2.2.2.length≤140737488355328:=fun k h=>(hk k (KU h)).2
  have hV:p9 d (dQ x)=(((c0 (b7 (dQ x)) d.2.2.2.2.1).any fun k=>AE2 k.2.2.2.2 (dQ x))||(d.2.2.2.2.2.any fun n=>decide (n.1=3)&&decide (n.2.2=dQ x))):=rfl
  clear hp hn eL
  generalize c0 (b7 (dQ x)) d.2.2.2.2.1=L at *
  refine cO (r:=aF) (fun k=>AE2 k.2.2.2.2 (dQ x)) (oF hL) (fun X k y hlt hy hp hn=>?_) (fun _ h2=>?_)
  ·dsimp only
   rw[show Int.toNat (k:Int)=k from rfl,iC (r:=aF) hlt,hy]
   refine cO (r:=.str) (fun z=>decide (z=dQ x)) (hkL y (by rw[←hy];exact List.getElem_mem hlt)) (fun Y j z hj hz hp2 hn2=>?_) (fun _ h3=>hn h3)
   dsimp only
   refine b8 (fun h=>b8 (fun _=>b8 (fun _=>is ?_) fun h=>(pos h).elim) fun h=>(pos h).elim) fun h=>hn2 (decide_eq_false fun e=>h e.symm)
   rw[hV,(hp (hp2 (decide_eq_true h.symm)).2).2];rfl
  ·refine cO (r:=aS) (fun n=>decide (n.1=3)&&decide (n.2.2=dQ x)) (oF c.r) (fun X k y hlt hy hp hn=>?_) (fun _ h4=>is (by rw[hV,h2,h4];rfl))
   dsimp only
   refine b8 (fun a1=>?_) fun a1=>hn (by rw[decide_eq_false a1];rfl)
   refine b8 (fun a2=>is ?_) fun a2=>hn (by rw[decide_eq_false a2,Bool.and_false])
   rw[d0,hV,(hp (by rw[decide_eq_true a1,decide_eq_true a2];rfl)).2,Bool.or_true]
 ·refine ⟨hd,?_⟩
  have hV:p9 d (dQ x)=((d.2.2.2.2.1.any fun k=>AE2 k.2.2.2.2 (dQ x))||(d.2.2.2.2.2.any fun n=>decide (n.1=3)&&decide (n.2.2=dQ x))):=by unfold p9;rw[vQ (is:=b7 (dQ x)) h0]
  have hL:=c.k
  have hkL:∀ k∈d.2.2.2.2.1,k.2.2.2.2.length≤140737488355328:=fun k h=>(hk k h).2
  refine cO (r:=aF) (fun k=>AE2 k.2.2.2.2 (dQ x)) (oF hL) (fun X k y hlt hy hp hn=>?_) (fun _ h2=>?_)
  ·dsimp only
   rw[show Int.toNat (k:Int)=k from rfl,iC (r:=aF) hlt,hy]
   refine cO (r:=.str) (fun z=>decide (z=dQ x)) (hkL y (by rw[←hy];exact List.getElem_mem hlt)) (fun Y j z hj hz hp2 hn2=>?_) (fun _ h3=>hn h3)
   dsimp only
   refine b8 (fun h=>b8 (fun _=>b8 (fun _=>is ?_) fun h=>(pos h).elim) fun h=>(pos h).elim) fun h=>hn2 (decide_eq_false fun e=>h e.symm)
   rw[hV,(hp (hp2 (decide_eq_true h.symm)).2).2];rfl
  ·refine cO (r:=aS) (fun n=>decide (n.1=3)&&decide (n.2.2=dQ x)) (oF c.r) (fun X k y hlt hy hp hn=>?_) (fun _ h4=>is (by rw[hV,h2,h4];rfl))
   dsimp only
   refine b8 (fun a1=>?_) fun a1=>hn (by rw[decide_eq_false a1];rfl)
   refine b8 (fun a2=>is ?_) fun a2=>hn (by rw[decide_eq_false a2,Bool.and_false])
   rw[d0,hV,(hp (by rw[decide_eq_true a1,decide_eq_true a2];rfl)).2,Bool.or_true]
def rY (lt gt:Bool):Int:=match lt,gt with
 | true,_=>-1
 | false,true=>1
 | false,false=>0
def IW (x:Int×Int):Option T:=some (T.v (Value.int .i64 (rY (decide (x.1<x.2)) (decide (x.2<x.1)))))
def IX (x:ByteArray×ByteArray):Option T:=some (T.v (Value.int .i64 (rY (cK x.1 x.2) (cK x.2 x.1))))
def orE:List Int→Int
 | []=>0
 | a::l=>if a=0 then orE l else a
def AGY (l:List Int):Option T:=some (T.v (Value.int .i64 (orE l)))
noncomputable def A6F:Env:=Env.of []
def A6S:FuncId→Hint:=fun _=>aZ
theorem AQO:aT Tryz.prog A6F:=.nil _
def ACO(a0:Int)(a1:Int)(R:T→Prop):Prop:=aC (!decide (a0=a0)) (aC (!decide (a1=a1)) (R BFH) (R BFN)) (aC (!decide (a1=a1)) (R BFR) (aC (decide (a0<a1)) (R BFN) (aC (decide (a1<a0)) (R BFR) (R BFH))))
abbrev AF4:Sh:=[(false,(Sy.int IntKind.i64)),(false,(Sy.int IntKind.i64))]
noncomputable def LL:List T→Option T:=gS AF4 IW
theorem AMY {a0 a1}:LL [T.v (.int .i64 a0),T.v (.int .i64 a1)]=IW (a0,a1):=bG (s:=AF4) rfl (a0,a1) rfl
theorem A35:rQ Tryz.prog 199 LL IW (cD AF4) ACO:=gZ (a1:=(false,(Sy.int IntKind.i64))) (a2:=(false,(Sy.int IntKind.i64))) (sp:=IW) (F:=ACO) (Hs:=A6S) (f:=199) (k:=8) AQO aU aY (aN rfl) ⟨_,_,Tryz.func199,rfl⟩ rfl fun _ _ _=>by kernel_rfl
theorem A20:aO Tryz.prog 199 LL:=A35 fun a b r h hb=>by
 cases h
 unfold ACO BFR BFN BFH
 refine lA (fun h=>absurd rfl h) fun _=>lA (fun h=>absurd rfl h) fun _=>?_
 refine b8 (fun h=>by unfold rY;rw[decide_eq_true h]) fun h=>?_
 refine b8 (fun h2=>by unfold rY;rw[decide_eq_false h,decide_eq_true h2]) fun h2=>by unfold rY;rw[decide_eq_false h,decide_eq_false h2]
noncomputable def A6G:Env:=Env.of []
def A6T:FuncId→Hint:=fun _=>aZ
theorem AQP:aT Tryz.prog A6G:=.nil _
def ACP(a0:ByteArray)(a1:ByteArray)(R:T→Prop):Prop:=aC (!decide (a0=a0)) (aC (!decide (a1=a1)) (R BFH) (R BFN)) (aC (!decide (a1=a1)) (R BFR) (aC (cK a0 a1) (R BFN) (aC (!(cK a0 a1||decide (a0=a1))) (R BFR) (R BFH))))
abbrev AF5:Sh:=[(false,Sy.str),(false,Sy.str)]
noncomputable def EK:List T→Option T:=gS AF5 IX
theorem PM {a0 a1}:EK [T.v (.string a0),T.v (.string a1)]=IX (a0,a1):=bG (s:=AF5) rfl (a0,a1) rfl
theorem A36:rQ Tryz.prog 200 EK IX (cD AF5) ACP:=gZ (a1:=(false,Sy.str)) (a2:=(false,Sy.str)) (sp:=IX) (F:=ACP) (Hs:=A6T) (f:=200) (k:=8) AQP aU aY (aN rfl) ⟨_,_,Tryz.func200,rfl⟩ rfl fun _ _ _=>by kernel_rfl
theorem A21:aO Tryz.prog 200 EK:=A36 fun a b r h hb=>by
 cases h
 unfold ACP BFR BFN BFH
 refine lA (fun h=>absurd rfl h) fun _=>lA (fun h=>absurd rfl h) fun _=>?_
 rw[o9]
 refine uV (fun h=>by unfold rY;rw[h]) fun h=>?_
 refine uV (fun h2=>by unfold rY;rw[h,h2]) fun h2=>by unfold rY;rw[h,h2]
def GD (a0:List Int):List T:=[T.sl true (List.map (Sy.int .i64).enc a0)]
noncomputable def APY:Env:=Env.of []
def A5J:FuncId→Hint:=bX 198 [(3,.inv [.val 8 false (.int .i64)])] (fun _=>aZ)
theorem A01:aT Tryz.prog APY:=.nil _
def AR1(a0:List Int)(R:T→Prop):Prop:=bA (Int×PUnit) (fun X0 s1=>aC (decide (s1.1<(↑(List.map BFK.enc a0).length:Int))) (aR BFK (List.map BFK.enc a0) s1.1 fun (y2:Int)=>aC (!decide (y2=0)) (R (BGT y2)) (BF0 X0 s1)) (R BFH)) (0,())
theorem AR2 ( a0 R):dW bW Tryz.prog APY A5J 8 198 (GD a0) R=AR1 a0 R:=by kernel_rfl
theorem AJW (x y:List Int) (h:GD x=GD y):x=y:=by
 simp only[GD,List.cons.injEq,T.sl.injEq,true_and,and_true] at h
 exact map_inj (Sy.dH (.int .i64)) h
noncomputable def YQ:List T→Option (T):=gA (fun (x:List Int)=>GD x) AGY
theorem AVY (a0:List Int):YQ (GD a0)=AGY a0:=fA (A:=(fun (x:List Int)=>GD x)) AJW a0
theorem A95 (h:∀ (a0:List Int) (r:T),AGY a0=some r→(∀ t∈GD a0,Bd t)→AR1 a0 (fun y=>y=r)):aO Tryz.prog 198 YQ :=
 cP (E:=APY) (Hs:=A5J) A01 aU aY (aN rfl) 8 ⟨_,_,Tryz.func198,rfl⟩ fun x r h1 h2=>by
  rw[AR2]
  exact h x r h1 h2
theorem A8C:aO Tryz.prog 198 YQ:=A95 fun l r h hb=>by
 have hl:l.length≤2 ^ 47:=by
  have:=((A43 _ _).1 (hb _ List.mem_cons_self)).1
  simpa using this
 cases h
 have is:∀ {n:Int},orE l=n→T.v (.int .i64 n)=T.v (.int .i64 (orE l)):=fun h=>by rw[h]
 unfold AR1 BF0 BGT BFK BFH
 refine bM l.length (fun k s=>s=((k:Int),())∧orE (l.drop k)=orE l) ⟨rfl,rfl⟩ ?_
 rintro X k s hk ⟨rfl,he⟩ hX
 dsimp only
 refine b8 (fun hlt=>?_) fun hge=>?_
 ·rw[List.length_map] at hlt
  have hlt:k<l.length:=by omega
  rw[bH (r:=.int .i64) hlt]
  rw[List.drop_eq_getElem_cons hlt,orE] at he
  refine lA (fun h=>is ?_) fun h=>hX _ hlt ⟨?_,?_⟩
  ·rw[if_neg h] at he;exact he.symm
  ·rw[show IntKind.i64.wrap ((k:Int)+1)=((k+1:Nat):Int) by rw[bD]<;>omega]
  ·rw[if_pos h] at he;exact he
 ·rw[List.length_map] at hge
  rw[List.drop_eq_nil_of_le (by omega)] at he
  exact is he.symm
def yJ (x:a8×a8):Option T:=some (T.v (.bool (lX x.1 x.2)))
noncomputable def APX:Env:=Env.of [(199,.pure LL),(200,.pure EK),(198,.pure YQ)]
def ASW:FuncId→Hint:=fun _=>aZ
theorem AB0:aT Tryz.prog APX:=.cons A20 (.cons A21 (.cons A8C (.nil _)))
def JN(a0:a8)(a1:a8)(R:T→Prop):Prop:=aJ BFF (LL [T.v (.int .i64 a0.1),T.v (.int .i64 a1.1)]) fun (y0:Int)=>aJ BFF (EK [T.v (.string a0.2.1),T.v (.string a1.2.1)]) fun (y1:Int)=>aJ BFF (EK [T.v (.string a0.2.2),T.v (.string a1.2.2)]) fun (y2:Int)=>aJ BFF (YQ [T.sl true [[T.v (.int .i64 y0)],[T.v (.int .i64 y1)], [T.v (.int .i64 y2)]]]) fun (y3:Int)=>R (T.v (.bool (decide (0<y3))))
abbrev M3:Sh:=[(true,aS),(true,aS)]
noncomputable def pO:List T→Option T:=gS M3 yJ
theorem YP {a0 a1}:pO [aI true aS a0,aI true aS a1]=yJ (a0,a1):=bG (s:=M3) rfl (a0,a1) rfl
theorem AN6:rQ Tryz.prog 197 pO yJ (cD M3) JN:=gZ (a1:=(true,aS)) (a2:=(true,aS)) (sp:=yJ) (F:=JN) (Hs:=ASW) (f:=197) (k:=8) AB0 aU aY (aN rfl) ⟨_,_,Tryz.func197,rfl⟩ rfl fun _ _ _=>by kernel_rfl
theorem PC:aO Tryz.prog 197 pO:=AN6 fun a b r h hb=>by
 cases h
 unfold JN BFF
 refine aG (s:=[(false,.int .i64)]) (AMY ..) ?_
 refine aG (s:=[(false,.int .i64)]) (PM ..) ?_
 refine aG (s:=[(false,.int .i64)]) (PM ..) ?_
 refine aG (s:=[(false,.int .i64)]) (y:=orE [rY (decide (a.1<b.1)) (decide (b.1<a.1)),rY (cK a.2.1 b.2.1) (cK b.2.1 a.2.1),rY (cK a.2.2 b.2.2) (cK b.2.2 a.2.2)]) (AVY [rY (decide (a.1<b.1)) (decide (b.1<a.1)),rY (cK a.2.1 b.2.1) (cK b.2.1 a.2.1),rY (cK a.2.2 b.2.2) (cK b.2.2 a.2.2)]) ?_
 refine iT ?_
 unfold lX ltN
 have tot:∀ {s t:ByteArray},cK s t=true→cK t s=false∧decide (t=s)=false:=fun {s t} h=>by
  refine ⟨?_,decide_eq_false fun e=>?_⟩
  ·rw[Bool.eq_false_iff];intro h2;have:=U1 h h2;rw[sU] at this;cases this
  ·rw[e,sU] at h;cases h
 have eqS:∀ {s t:ByteArray},cK s t=false→cK t s=false→decide (t=s)=true:=fun {s t} h1 h2=>by
  have h3:=o9 s t
  rw[h1,h2] at h3
  simpa using h3
 rcases Int.lt_trichotomy a.1 b.1 with h|h|h
 ·rw[decide_eq_true h,decide_eq_false (show ¬ b.1<a.1 by omega),decide_eq_false (show ¬ b.1=a.1 by omega)]
  simp[rY,orE]
 ·rw[decide_eq_false (show ¬ a.1<b.1 by omega),decide_eq_false (show ¬ b.1<a.1 by omega),decide_eq_true h.symm]
  cases h1:cK a.2.1 b.2.1 with
  | true=>rw[(tot h1).1,(tot h1).2];simp[rY,orE]
  | false =>
   cases h2:cK b.2.1 a.2.1 with
   | true=>simp[rY,orE]
   | false =>
    rw[eqS h1 h2]
    cases h3:cK a.2.2 b.2.2 with
    | true=>rw[(tot h3).1];simp[rY,orE]
    | false=>cases h4:cK b.2.2 a.2.2<;>simp[rY,orE]
 ·rw[decide_eq_false (show ¬ a.1<b.1 by omega),decide_eq_true h]
  simp[rY,orE]
def AIU (d:aB) (x:aX):aB:=(d.1,dE cB d.2.1 (nK x),d.2.2)
def FU (x:aB×aX):Option T:=match sP x.1 with
 | true=>some (Sh.enc [(true,aE)] (AIU x.1 x.2))
 | false=>none
noncomputable def BBJ:Env:=Env.of [(70,.dup 3 40),(246,.grow 3 sC)]
def BB4:FuncId→Hint:=bX 242 [(2,.inv [.val 8 false (.int .i64)])] (fun _=>aZ)
theorem A0P:aT Tryz.prog BBJ:=aT.cons (x:=.dup 3 40) AP (.cons AD7 (.nil _))
def BGM(a0:aB)(y4:List bE):T:=T.agg [T.v (.string a0.1),T.sl false (List.map a6.enc y4), T.sl false (BF3 a0), T.sl false (BF4 a0), T.sl false (BFZ a0), T.sl false (BF6 a0)]
def BHA(a1:aX):List T:=[T.v (.string a1.2.2.2.1.1), T.v (.int .i64 a1.2.2.2.1.2.1), T.v (.string a1.2.2.2.1.2.2)]
def BGF(a0:aB)(a1:aX)(R:T→Prop):Prop:=bN (((BF8 a0).all fun (r:List T)=>decide (r.length=3)) && decide ((BF8 a0).length*40≤140737488355328) && decide ((BF8 a0).length≤140737488355328)) (bP a6 (sC (BF8 a0) [T.v (.int .i64 (↑(BF8 a0).length:Int)), T.sl true [(BHA a1)]]) fun (y3:List bE)=>R (BGM a0 y3))
def ARL(a0:aB)(a1:aX)(R:T→Prop):Prop:=bA (Int×PUnit) (fun X0 s1=>aC (decide (s1.1<(↑(BF8 a0).length:Int))) (aR a6 (BF8 a0) s1.1 fun (y2:bE)=>aC (!(cK y2.1 a1.2.2.2.1.1||decide (y2.1=a1.2.2.2.1.1))) (aC (decide (s1.1<0)) (BGF a0 a1 R) (bN (((BF8 a0).all fun (r:List T)=>decide (r.length=3)) && decide ((BF8 a0).length*40≤140737488355328) && decide ((BF8 a0).length≤140737488355328)) (bP a6 (sC (BF8 a0) [T.v (.int .i64 s1.1), T.sl true [(BHA a1)]]) fun (y4:List bE)=>R (BGM a0 y4)))) (BF0 X0 s1)) (BGF a0 a1 R)) (0,())
abbrev AYW:Sh:=[(true,aE),(true,aQ)]
noncomputable def PN:List T→Option T:=gS AYW FU
theorem AVM {a0 a1}:PN [aI true aE a0,aI true aQ a1]=FU (a0,a1):=bG (s:=AYW) rfl (a0,a1) rfl
theorem A9T:rQ Tryz.prog 113 PN FU (cD AYW) ARL:=gZ (a1:=(true,aE)) (a2:=(true,aQ)) (sp:=FU) (F:=ARL) (Hs:=BB4) (f:=113) (k:=8) A0P aU aY (aN rfl) ⟨_,_,Tryz.func113,rfl⟩ rfl fun _ _ _=>by kernel_rfl
theorem A7Y:aO Tryz.prog 113 PN:=A9T fun d x r h hb=>by
 clear hb
 have hp:sP d=true:=by
  unfold FU at h
  split at h
  ·assumption
  ·cases h
 have e:Sh.enc [(true,aE)] (AIU d x)=r:=by
  unfold FU at h
  rw[show sP (d,x).1=true from hp] at h
  exact Option.some.inj h
 subst e
 clear h
 have c:=dP hp
 have hd:=vR (r:=a6) (l:=d.2.1) (z:=3) (b:=40) rfl (dG c.n (by decide))
 unfold ARL BGF BHA BGM BF8 BF4 BF3 BFZ BF0 BF6
 refine cO (r:=a6) (fun y=>cB y (nK x)) (oF c.n) (fun X k y hk hy hp hn=>?_) (fun h _=>?_)
 ·dsimp only
  rw[o9]
  refine uV (fun h=>?_) fun h=>hn h
  obtain ⟨hi,_⟩:=hp h
  refine b8 (fun h=>by omega) fun _=>⟨hd,?_⟩
  refine dO (r:=a6) (l:=d.2.1.take k++nK x::d.2.1.drop k) (rI (r:=a6) (x:=nK x) rfl (by omega) c.n (by decide)) _ ?_
  unfold AIU dE
  rw[hi];rfl
 ·refine ⟨hd,?_⟩
  rw[show (((List.map (a6).enc d.2.1).length:Nat):Int)=(((d.2.1).length:Nat):Int) by rw[List.length_map]]
  refine dO (r:=a6) (l:=d.2.1.take (d.2.1).length++nK x::d.2.1.drop (d.2.1).length) (rI (r:=a6) (x:=nK x) rfl (Nat.le_refl _) c.n (by decide)) _ ?_
  unfold AIU dE
  rw[h];rfl
def AIY (d:aB) (x:aX):aB:=(d.1,d.2.1,d.2.2.1,dE cB d.2.2.2.1 (nL x),d.2.2.2.2)
def FY (x:aB×aX):Option T:=match sP x.1 with
 | true=>some (Sh.enc [(true,aE)] (AIY x.1 x.2))
 | false=>none
noncomputable def BBN:Env:=Env.of [(71,.dup 6 72),(254,.grow 6 sE)]
def BB8:FuncId→Hint:=bX 248 [(2,.inv [.val 8 false (.int .i64)])] (fun _=>aZ)
theorem A0T:aT Tryz.prog BBN:=aT.cons (x:=.dup 6 72) AR (.cons AD9 (.nil _))
def BGN(a0:aB)(y4:List bI):T:=T.agg [T.v (.string a0.1),T.sl false (BF8 a0), T.sl false (BF3 a0), T.sl false (List.map a7.enc y4), T.sl false (BFZ a0), T.sl false (BF6 a0)]
def BGQ(a1:aX):List T:=[T.v (.string a1.2.2.2.2.2.1.1), T.v (.string a1.2.2.2.2.2.1.2.1), T.v (.string a1.2.2.2.2.2.1.2.2.1), T.v (.int .i64 a1.2.2.2.2.2.1.2.2.2.1), T.v (.int .i64 a1.2.2.2.2.2.1.2.2.2.2.1), T.v (.int .i64 a1.2.2.2.2.2.1.2.2.2.2.2)]
def BGB(a0:aB)(a1:aX)(R:T→Prop):Prop:=bN (((BF4 a0).all fun (r:List T)=>decide (r.length=6)) && decide ((BF4 a0).length*72≤140737488355328) && decide ((BF4 a0).length≤140737488355328)) (bP a7 (sE (BF4 a0) [T.v (.int .i64 (↑(BF4 a0).length:Int)), T.sl true [(BGQ a1)]]) fun (y3:List bI)=>R (BGN a0 y3))
def ARP(a0:aB)(a1:aX)(R:T→Prop):Prop:=bA (Int×PUnit) (fun X0 s1=>aC (decide (s1.1<(↑(BF4 a0).length:Int))) (aR a7 (BF4 a0) s1.1 fun (y2:bI)=>aC (!(cK y2.1 a1.2.2.2.2.2.1.1||decide (y2.1=a1.2.2.2.2.2.1.1))) (aC (decide (s1.1<0)) (BGB a0 a1 R) (bN (((BF4 a0).all fun (r:List T)=>decide (r.length=6)) && decide ((BF4 a0).length*72≤140737488355328) && decide ((BF4 a0).length≤140737488355328)) (bP a7 (sE (BF4 a0) [T.v (.int .i64 s1.1), T.sl true [(BGQ a1)]]) fun (y4:List bI)=>R (BGN a0 y4)))) (BF0 X0 s1)) (BGB a0 a1 R)) (0,())
abbrev AY0:Sh:=[(true,aE),(true,aQ)]
noncomputable def PS:List T→Option T:=gS AY0 FY
theorem AVQ {a0 a1}:PS [aI true aE a0,aI true aQ a1]=FY (a0,a1):=bG (s:=AY0) rfl (a0,a1) rfl
theorem A9X:rQ Tryz.prog 161 PS FY (cD AY0) ARP:=gZ (a1:=(true,aE)) (a2:=(true,aQ)) (sp:=FY) (F:=ARP) (Hs:=BB8) (f:=161) (k:=8) A0T aU aY (aN rfl) ⟨_,_,Tryz.func161,rfl⟩ rfl fun _ _ _=>by kernel_rfl
theorem A72:aO Tryz.prog 161 PS:=A9X fun d x r h hb=>by
 clear hb
 have hp:sP d=true:=by
  unfold FY at h
  split at h
  ·assumption
  ·cases h
 have e:Sh.enc [(true,aE)] (AIY d x)=r:=by
  unfold FY at h
  rw[show sP (d,x).1=true from hp] at h
  exact Option.some.inj h
 subst e
 clear h
 have c:=dP hp
 have hd:=vR (r:=a7) (l:=d.2.2.2.1) (z:=6) (b:=72) rfl (dG c.s (by decide))
 unfold ARP BGB BGQ BGN BF8 BF4 BF3 BFZ BF0 BF6
 refine cO (r:=a7) (fun y=>cB y (nL x)) (oF c.s) (fun X k y hk hy hp hn=>?_) (fun h _=>?_)
 ·dsimp only
  rw[o9]
  refine uV (fun h=>?_) fun h=>hn h
  obtain ⟨hi,_⟩:=hp h
  refine b8 (fun h=>by omega) fun _=>⟨hd,?_⟩
  refine dO (r:=a7) (l:=d.2.2.2.1.take k++nL x::d.2.2.2.1.drop k) (rI (r:=a7) (x:=nL x) rfl (by omega) c.s (by decide)) _ ?_
  unfold AIY dE
  rw[hi];rfl
 ·refine ⟨hd,?_⟩
  rw[show (((List.map (a7).enc d.2.2.2.1).length:Nat):Int)=(((d.2.2.2.1).length:Nat):Int) by rw[List.length_map]]
  refine dO (r:=a7) (l:=d.2.2.2.1.take (d.2.2.2.1).length++nL x::d.2.2.2.1.drop (d.2.2.2.1).length) (rI (r:=a7) (x:=nL x) rfl (Nat.le_refl _) c.s (by decide)) _ ?_
  unfold AIY dE
  rw[h];rfl
def AIV (d:aB) (x:aX):aB:=(d.1,c0 (b7 (dQ x)) d.2.1,d.2.2)
def FV (x:aB×aX):Option T:=match sP x.1 with
 | true=>some (Sh.enc [(true,aE)] (AIV x.1 x.2))
 | false=>none
noncomputable def BBK:Env:=Env.of [(70,.dup 3 40),(247,.grow 3 EL)]
def BB5:FuncId→Hint:=bX 242 [(2,.inv [.val 8 false (.int .i64)])] (fun _=>aZ)
theorem A0Q:aT Tryz.prog BBK:=aT.cons (x:=.dup 3 40) AP (.cons AD4 (.nil _))
def BGY(a0:aB)(R:T→Prop):Prop:=bN (((BF8 a0).all fun (r:List T)=>decide (r.length=3)) && decide ((BF8 a0).length*40≤140737488355328) && decide ((BF8 a0).length≤140737488355328)) (R (aI true aE a0))
def ARM(a0:aB)(a1:aX)(R:T→Prop):Prop:=bA (Int×PUnit) (fun X0 s1=>aC (decide (s1.1<(↑(BF8 a0).length:Int))) (aR a6 (BF8 a0) s1.1 fun (y2:bE)=>aC (decide (y2.1=a1.2.1)) (aC (decide (s1.1<0)) (BGY a0 R) (bN (((BF8 a0).all fun (r:List T)=>decide (r.length=3)) && decide ((BF8 a0).length*40≤140737488355328) && decide ((BF8 a0).length≤140737488355328)) (bP a6 (EL (BF8 a0) (BGP s1)) fun (y3:List bE)=>R (BGM a0 y3)))) (BF0 X0 s1)) (BGY a0 R)) (0,())
abbrev AYX:Sh:=[(true,aE),(true,aQ)]
noncomputable def PO:List T→Option T:=gS AYX FV
theorem AVN {a0 a1}:PO [aI true aE a0,aI true aQ a1]=FV (a0,a1):=bG (s:=AYX) rfl (a0,a1) rfl
theorem A9U:rQ Tryz.prog 120 PO FV (cD AYX) ARM:=gZ (a1:=(true,aE)) (a2:=(true,aQ)) (sp:=FV) (F:=ARM) (Hs:=BB5) (f:=120) (k:=8) A0Q aU aY (aN rfl) ⟨_,_,Tryz.func120,rfl⟩ rfl fun _ _ _=>by kernel_rfl
theorem A7Z:aO Tryz.prog 120 PO:=A9U fun d x r h hb=>by
 clear hb
 have hp:sP d=true:=by
  unfold FV at h
  split at h
  ·assumption
  ·cases h
 have e:Sh.enc [(true,aE)] (AIV d x)=r:=by
  unfold FV at h
  rw[show sP (d,x).1=true from hp] at h
  exact Option.some.inj h
 subst e
 clear h
 have c:=dP hp
 have hd:=vR (r:=a6) (l:=d.2.1) (z:=3) (b:=40) rfl (dG c.n (by decide))
 unfold ARM BGY BGP BGM BF8 BF4 BF3 BFZ BF0 BF6
 refine cO (r:=a6) (fun y=>b7 (dQ x) y) (oF c.n) (fun X k y hk hy hp hn=>?_) (fun h _=>?_)
 ·dsimp only
  refine b8 (fun h=>?_) fun h=>hn (decide_eq_false h)
  obtain ⟨hi,_⟩:=hp (decide_eq_true h)
  refine b8 (fun h=>by omega) fun _=>⟨hd,?_⟩
  refine dO (r:=a6) (l:=d.2.1.take k++d.2.1.drop (k+1)) (D9 (r:=a6) rfl hk c.n) _ ?_
  unfold AIV c0
  rw[show List.findIdx (b7 (dQ x)) d.2.1=k from hi];rfl
 ·refine ⟨hd,?_⟩
  unfold AIV
  rw[vQ (is:=b7 (dQ x)) h];rfl
def AIX (d:aB) (x:aX):aB:=(d.1,d.2.1,c0 (b7 (dQ x)) d.2.2.1,d.2.2.2)
def FX (x:aB×aX):Option T:=match sP x.1 with
 | true=>some (Sh.enc [(true,aE)] (AIX x.1 x.2))
 | false=>none
noncomputable def BBM:Env:=Env.of [(73,.dup 18 208),(252,.grow 18 EM)]
def BB7:FuncId→Hint:=bX 148 [(2,.inv [.val 8 false (.int .i64)])] (fun _=>aZ)
theorem A0S:aT Tryz.prog BBM:=aT.cons (x:=.dup 18 208) AQ (.cons AD5 (.nil _))
def BGI(a0:aB)(y3:List aV):T:=T.agg [T.v (.string a0.1),T.sl false (BF8 a0), T.sl false (List.map aM.enc y3), T.sl false (BF4 a0), T.sl false (BFZ a0), T.sl false (BF6 a0)]
def BGX(a0:aB)(R:T→Prop):Prop:=bN (((BF3 a0).all fun (r:List T)=>decide (r.length=18)) && decide ((BF3 a0).length*208≤140737488355328) && decide ((BF3 a0).length≤140737488355328)) (R (aI true aE a0))
def ARO(a0:aB)(a1:aX)(R:T→Prop):Prop:=bA (Int×PUnit) (fun X0 s1=>aC (decide (s1.1<(↑(BF3 a0).length:Int))) (aR aM (BF3 a0) s1.1 fun (y2:aV)=>aC (decide (y2.1=a1.2.1)) (aC (decide (s1.1<0)) (BGX a0 R) (bN (((BF3 a0).all fun (r:List T)=>decide (r.length=18)) && decide ((BF3 a0).length*208≤140737488355328) && decide ((BF3 a0).length≤140737488355328)) (bP aM (EM (BF3 a0) (BGP s1)) fun (y3:List aV)=>R (BGI a0 y3)))) (BF0 X0 s1)) (BGX a0 R)) (0,())
abbrev AYZ:Sh:=[(true,aE),(true,aQ)]
noncomputable def PR:List T→Option T:=gS AYZ FX
theorem AVP {a0 a1}:PR [aI true aE a0,aI true aQ a1]=FX (a0,a1):=bG (s:=AYZ) rfl (a0,a1) rfl
theorem A9W:rQ Tryz.prog 139 PR FX (cD AYZ) ARO:=gZ (a1:=(true,aE)) (a2:=(true,aQ)) (sp:=FX) (F:=ARO) (Hs:=BB7) (f:=139) (k:=8) A0S aU aY (aN rfl) ⟨_,_,Tryz.func139,rfl⟩ rfl fun _ _ _=>by kernel_rfl
theorem A71:aO Tryz.prog 139 PR:=A9W fun d x r h hb=>by
 clear hb
 have hp:sP d=true:=by
  unfold FX at h
  split at h
  ·assumption
  ·cases h
 have e:Sh.enc [(true,aE)] (AIX d x)=r:=by
  unfold FX at h
  rw[show sP (d,x).1=true from hp] at h
  exact Option.some.inj h
 subst e
 clear h
 have c:=dP hp
 have hd:=vR (r:=aM) (l:=d.2.2.1) (z:=18) (b:=208) rfl (dG c.p (by decide))
 unfold ARO BGX BGP BGI BF8 BF4 BF3 BFZ BF0 BF6
 refine cO (r:=aM) (fun y=>b7 (dQ x) y) (oF c.p) (fun X k y hk hy hp hn=>?_) (fun h _=>?_)
 ·dsimp only
  refine b8 (fun h=>?_) fun h=>hn (decide_eq_false h)
  obtain ⟨hi,_⟩:=hp (decide_eq_true h)
  refine b8 (fun h=>by omega) fun _=>⟨hd,?_⟩
  refine dO (r:=aM) (l:=d.2.2.1.take k++d.2.2.1.drop (k+1)) (D9 (r:=aM) rfl hk c.p) _ ?_
  unfold AIX c0
  rw[show List.findIdx (b7 (dQ x)) d.2.2.1=k from hi];rfl
 ·refine ⟨hd,?_⟩
  unfold AIX
  rw[vQ (is:=b7 (dQ x)) h];rfl
def AIZ (d:aB) (x:aX):aB:=(d.1,d.2.1,d.2.2.1,c0 (b7 (dQ x)) d.2.2.2.1,d.2.2.2.2)
def FZ (x:aB×aX):Option T:=match sP x.1 with
 | true=>some (Sh.enc [(true,aE)] (AIZ x.1 x.2))
 | false=>none
noncomputable def BBO:Env:=Env.of [(71,.dup 6 72),(255,.grow 6 EN)]
def BB9:FuncId→Hint:=bX 248 [(2,.inv [.val 8 false (.int .i64)])] (fun _=>aZ)
theorem A0U:aT Tryz.prog BBO:=aT.cons (x:=.dup 6 72) AR (.cons AD6 (.nil _))
def BGZ(a0:aB)(R:T→Prop):Prop:=bN (((BF4 a0).all fun (r:List T)=>decide (r.length=6)) && decide ((BF4 a0).length*72≤140737488355328) && decide ((BF4 a0).length≤140737488355328)) (R (aI true aE a0))
def ARQ(a0:aB)(a1:aX)(R:T→Prop):Prop:=bA (Int×PUnit) (fun X0 s1=>aC (decide (s1.1<(↑(BF4 a0).length:Int))) (aR a7 (BF4 a0) s1.1 fun (y2:bI)=>aC (decide (y2.1=a1.2.1)) (aC (decide (s1.1<0)) (BGZ a0 R) (bN (((BF4 a0).all fun (r:List T)=>decide (r.length=6)) && decide ((BF4 a0).length*72≤140737488355328) && decide ((BF4 a0).length≤140737488355328)) (bP a7 (EN (BF4 a0) (BGP s1)) fun (y3:List bI)=>R (BGN a0 y3)))) (BF0 X0 s1)) (BGZ a0 R)) (0,())
abbrev AY1:Sh:=[(true,aE),(true,aQ)]
noncomputable def PT:List T→Option T:=gS AY1 FZ
theorem AVR {a0 a1}:PT [aI true aE a0,aI true aQ a1]=FZ (a0,a1):=bG (s:=AY1) rfl (a0,a1) rfl
theorem A9Y:rQ Tryz.prog 168 PT FZ (cD AY1) ARQ:=gZ (a1:=(true,aE)) (a2:=(true,aQ)) (sp:=FZ) (F:=ARQ) (Hs:=BB9) (f:=168) (k:=8) A0U aU aY (aN rfl) ⟨_,_,Tryz.func168,rfl⟩ rfl fun _ _ _=>by kernel_rfl
theorem A73:aO Tryz.prog 168 PT:=A9Y fun d x r h hb=>by
 clear hb
 have hp:sP d=true:=by
  unfold FZ at h
  split at h
  ·assumption
  ·cases h
 have e:Sh.enc [(true,aE)] (AIZ d x)=r:=by
  unfold FZ at h
  rw[show sP (d,x).1=true from hp] at h
  exact Option.some.inj h
 subst e
 clear h
 have c:=dP hp
 have hd:=vR (r:=a7) (l:=d.2.2.2.1) (z:=6) (b:=72) rfl (dG c.s (by decide))
 unfold ARQ BGZ BGP BGN BF8 BF4 BF3 BFZ BF0 BF6
 refine cO (r:=a7) (fun y=>b7 (dQ x) y) (oF c.s) (fun X k y hk hy hp hn=>?_) (fun h _=>?_)
 ·dsimp only
  refine b8 (fun h=>?_) fun h=>hn (decide_eq_false h)
  obtain ⟨hi,_⟩:=hp (decide_eq_true h)
  refine b8 (fun h=>by omega) fun _=>⟨hd,?_⟩
  refine dO (r:=a7) (l:=d.2.2.2.1.take k++d.2.2.2.1.drop (k+1)) (D9 (r:=a7) rfl hk c.s) _ ?_
  unfold AIZ c0
  rw[show List.findIdx (b7 (dQ x)) d.2.2.2.1=k from hi];rfl
 ·refine ⟨hd,?_⟩
  unfold AIZ
  rw[vQ (is:=b7 (dQ x)) h];rfl
def UC (d:aB) (x:aX):aB:=(d.1,d.2.1,d.2.2.1,d.2.2.2.1,c0 (b7 (dQ x)) d.2.2.2.2.1,d.2.2.2.2.2)
def yF (x:aB×aX):Option T:=match sP x.1 with
 | true=>some (Sh.enc [(true,aE)] (UC x.1 x.2))
 | false=>none
noncomputable def A6H:Env:=Env.of [(74,.dup 5 88),(256,.grow 5 l7)]
def A6U:FuncId→Hint:=bX 243 [(2,.inv [.val 8 false (.int .i64)])] (fun _=>aZ)
theorem AQQ:aT Tryz.prog A6H:=aT.cons (x:=.dup 5 88) nC (.cons zK (.nil _))
def BGJ(a0:aB)(y3:List aL):T:=T.agg [T.v (.string a0.1),T.sl false (BF8 a0), T.sl false (BF3 a0), T.sl false (BF4 a0), T.sl false (List.map aF.enc y3), T.sl false (BF6 a0)]
def ACQ(a0:aB)(a1:aX)(R:T→Prop):Prop:=bA (Int×PUnit) (fun X0 s1=>aC (decide (s1.1<(↑(BFZ a0).length:Int))) (aR aF (BFZ a0) s1.1 fun (y2:aL)=>aC (decide (y2.1=a1.2.1)) (aC (decide (s1.1<0)) (bN (((BFZ a0).all fun (r:List T)=>decide (r.length=5)) && decide ((BFZ a0).length*88≤140737488355328) && decide ((BFZ a0).length≤140737488355328)) (R (aI true aE a0))) (bN (((BFZ a0).all fun (r:List T)=>decide (r.length=5)) && decide ((BFZ a0).length*88≤140737488355328) && decide ((BFZ a0).length≤140737488355328)) (bP aF (l7 (BFZ a0) (BGP s1)) fun (y3:List aL)=>R (BGJ a0 y3)))) (BF0 X0 s1)) (bN (((BFZ a0).all fun (r:List T)=>decide (r.length=5)) && decide ((BFZ a0).length*88≤140737488355328) && decide ((BFZ a0).length≤140737488355328)) (R (aI true aE a0)))) (0,())
abbrev AF6:Sh:=[(true,aE),(true,aQ)]
noncomputable def EO:List T→Option T:=gS AF6 yF
theorem AM1 {a0 a1}:EO [aI true aE a0,aI true aQ a1]=yF (a0,a1):=bG (s:=AF6) rfl (a0,a1) rfl
theorem A38:rQ Tryz.prog 189 EO yF (cD AF6) ACQ:=gZ (a1:=(true,aE)) (a2:=(true,aQ)) (sp:=yF) (F:=ACQ) (Hs:=A6U) (f:=189) (k:=8) AQQ aU aY (aN rfl) ⟨_,_,Tryz.func189,rfl⟩ rfl fun _ _ _=>by kernel_rfl
theorem A24:aO Tryz.prog 189 EO:=A38 fun d x r h hb=>by
 clear hb
 have hp:sP d=true:=by
  unfold yF at h
  split at h
  ·assumption
  ·cases h
 have e:Sh.enc [(true,aE)] (UC d x)=r:=by
  unfold yF at h
  rw[show sP (d,x).1=true from hp] at h
  exact Option.some.inj h
 subst e
 clear h
 have c:=dP hp
 have hd:=vR (r:=aF) (l:=d.2.2.2.2.1) (z:=5) (b:=88) rfl (dG c.k (by decide))
 unfold ACQ BGP BGJ BF8 BF4 BF3 BFZ BF0 BF6
 refine cO (r:=aF) (fun y=>b7 (dQ x) y) (oF c.k) (fun X k y hk hy hp hn=>?_) (fun h _=>?_)
 ·dsimp only
  refine b8 (fun h=>?_) fun h=>hn (decide_eq_false h)
  obtain ⟨hi,_⟩:=hp (decide_eq_true h)
  refine b8 (fun h=>by omega) fun _=>⟨hd,?_⟩
  refine dO (r:=aF) (l:=d.2.2.2.2.1.take k++d.2.2.2.2.1.drop (k+1)) (D9 (r:=aF) rfl hk c.k) _ ?_
  unfold UC c0
  rw[show List.findIdx (b7 (dQ x)) d.2.2.2.2.1=k from hi];rfl
 ·refine ⟨hd,?_⟩
  unfold UC
  rw[vQ (is:=b7 (dQ x)) h];rfl
def AIW (d:aB) (x:aX):aB:=(d.1,d.2.1,dE cB d.2.2.1 (cH x),d.2.2.2)
def FW (x:aB×aX):Option T:=match sP x.1&&gV (cH x.2) with
 | true=>some (Sh.enc [(true,aE)] (AIW x.1 x.2))
 | false=>none
noncomputable def BBL:Env:=Env.of [(75,.pure hU),(73,.dup 18 208),(251,.grow 18 sD)]
def BB6:FuncId→Hint:=bX 148 [(2,.inv [.val 8 false (.int .i64)])] (fun _=>aZ)
theorem A0R:aT Tryz.prog BBL:=.cons tQ (aT.cons (x:=.dup 18 208) AQ (.cons AD8 (.nil _)))
def BF1(y0:aV):List T:=[T.v (.string y0.1),T.v (.int .i64 y0.2.1), T.v (.int .i64 y0.2.2.1), T.v (.string y0.2.2.2.1), T.v (.string y0.2.2.2.2.1), T.v (.int .i64 y0.2.2.2.2.2.1), T.sl false (List.map aA.enc y0.2.2.2.2.2.2.1.1), T.sl false (List.map aA.li.enc y0.2.2.2.2.2.2.1.2), T.v (.string y0.2.2.2.2.2.2.2.1), T.v (.int .i64 y0.2.2.2.2.2.2.2.2.1), T.v (.int .i64 y0.2.2.2.2.2.2.2.2.2.1), T.v (.int .i64 y0.2.2.2.2.2.2.2.2.2.2.1.1), T.v (.int .i64 y0.2.2.2.2.2.2.2.2.2.2.1.2.1), T.v (.int .i64 y0.2.2.2.2.2.2.2.2.2.2.1.2.2), T.v (.int .i64 y0.2.2.2.2.2.2.2.2.2.2.2.1.1), T.v (.int .i64 y0.2.2.2.2.2.2.2.2.2.2.2.1.2.1), T.v (.int .i64 y0.2.2.2.2.2.2.2.2.2.2.2.1.2.2), T.v (.int .i64 y0.2.2.2.2.2.2.2.2.2.2.2.2)]
def BGO(a0:aB)(y0:aV)(R:T→Prop):Prop:=bN (((BF3 a0).all fun (r:List T)=>decide (r.length=18)) && decide ((BF3 a0).length*208≤140737488355328) && decide ((BF3 a0).length≤140737488355328)) (bP aM (sD (BF3 a0) [T.v (.int .i64 (↑(BF3 a0).length:Int)), T.sl true [(BF1 y0)]]) fun (y4:List aV)=>R (BGI a0 y4))
def ARN(a0:aB)(a1:aX)(R:T→Prop):Prop:=aJ [(true,aM)] (hU [aI true aM a1.2.2.2.2.1]) fun (y0:aV)=>bA (Int×PUnit) (fun X1 s2=>aC (decide (s2.1<(↑(BF3 a0).length:Int))) (aR aM (BF3 a0) s2.1 fun (y3:aV)=>aC (!(cK y3.1 y0.1||decide (y3.1=y0.1))) (aC (decide (s2.1<0)) (BGO a0 y0 R) (bN (((BF3 a0).all fun (r:List T)=>decide (r.length=18)) && decide ((BF3 a0).length*208≤140737488355328) && decide ((BF3 a0).length≤140737488355328)) (bP aM (sD (BF3 a0) [T.v (.int .i64 s2.1), T.sl true [(BF1 y0)]]) fun (y5:List aV)=>R (BGI a0 y5)))) (BF0 X1 s2)) (BGO a0 y0 R)) (0,())
abbrev AYY:Sh:=[(true,aE),(true,aQ)]
noncomputable def PQ:List T→Option T:=gS AYY FW
theorem AVO {a0 a1}:PQ [aI true aE a0,aI true aQ a1]=FW (a0,a1):=bG (s:=AYY) rfl (a0,a1) rfl
theorem A9V:rQ Tryz.prog 132 PQ FW (cD AYY) ARN:=gZ (a1:=(true,aE)) (a2:=(true,aQ)) (sp:=FW) (F:=ARN) (Hs:=BB6) (f:=132) (k:=8) A0R aU aY (aN rfl) ⟨_,_,Tryz.func132,rfl⟩ rfl fun _ _ _=>by kernel_rfl
theorem A70:aO Tryz.prog 132 PQ:=A9V fun d x r h hb=>by
 clear hb
 have hq:(sP d&&gV (cH x))=true:=by
  unfold FW at h
  split at h
  ·assumption
  ·cases h
 have e:Sh.enc [(true,aE)] (AIW d x)=r:=by
  unfold FW at h
  rw[show (sP (d,x).1&&gV (cH (d,x).2))=true from hq] at h
  exact Option.some.inj h
 subst e
 clear h
 rw[Bool.and_eq_true] at hq
 obtain ⟨hp,ho⟩:=hq
 have c:=dP hp
 have hd:=vR (r:=aM) (l:=d.2.2.1) (z:=18) (b:=208) rfl (dG c.p (by decide))
 unfold ARN BGO BGI BF8 BF4 BF3 BF1 BFZ BF0 BF6
 refine aG (s:=[(true,aM)]) (y:=cH x) ((tU ..).trans (by unfold iQ;rw[ho])) ?_
 refine cO (r:=aM) (fun y=>cB y (cH x)) (oF c.p) (fun X k y hk hy hp hn=>?_) (fun h _=>?_)
 ·dsimp only
  rw[o9]
  refine uV (fun h=>?_) fun h=>hn h
  obtain ⟨hi,_⟩:=hp h
  refine b8 (fun h=>by omega) fun _=>⟨hd,?_⟩
  refine dO (r:=aM) (l:=d.2.2.1.take k++cH x::d.2.2.1.drop k) (rI (r:=aM) (x:=cH x) rfl (by omega) c.p (by decide)) _ ?_
  unfold AIW dE
  rw[hi];rfl
 ·refine ⟨hd,?_⟩
  rw[show (((List.map (aM).enc d.2.2.1).length:Nat):Int)=(((d.2.2.1).length:Nat):Int) by rw[List.length_map]]
  refine dO (r:=aM) (l:=d.2.2.1.take (d.2.2.1).length++cH x::d.2.2.1.drop (d.2.2.1).length) (rI (r:=aM) (x:=cH x) rfl (Nat.le_refl _) c.p (by decide)) _ ?_
  unfold AIW dE
  rw[h];rfl
def AI0 (d:aB) (x:aX):aB:=(d.1,d.2.1,d.2.2.1,d.2.2.2.1,dE cB d.2.2.2.2.1 (iH x),d.2.2.2.2.2)
def F0 (x:aB×aX):Option T:=match sP x.1&&fT (iH x.2) with
 | true=>some (Sh.enc [(true,aE)] (AI0 x.1 x.2))
 | false=>none
noncomputable def BBP:Env:=Env.of [(76,.pure mS),(74,.dup 5 88),(258,.grow 5 l8)]
def BCA:FuncId→Hint:=bX 243 [(2,.inv [.val 8 false (.int .i64)])] (fun _=>aZ)
theorem A0V:aT Tryz.prog BBP:=.cons LA (aT.cons (x:=.dup 5 88) nC (.cons OG (.nil _)))
def BGL(y0:aL):List T:=[T.v (.string y0.1),T.v (.string y0.2.1), T.sl false (BG1 y0), T.v (.int .i64 y0.2.2.2.1), T.sl false (BGR y0)]
def BG7(a0:aB)(y0:aL)(R:T→Prop):Prop:=bP aF (l8 (BFZ a0) [T.v (.int .i64 (↑(BFZ a0).length:Int)), T.sl true [(BGL y0)]]) fun (y4:List aL)=>R (BGJ a0 y4)
def ARR(a0:aB)(a1:aX)(R:T→Prop):Prop:=aJ [(true,aF)] (mS [aI true aF a1.2.2.2.2.2.2.1]) fun (y0:aL)=>bA (Int×PUnit) (fun X1 s2=>aC (decide (s2.1<(↑(BFZ a0).length:Int))) (aR aF (BFZ a0) s2.1 fun (y3:aL)=>aC (!(cK y3.1 y0.1||decide (y3.1=y0.1))) (aC (decide (s2.1<0)) (bN (((BFZ a0).all fun (r:List T)=>decide (r.length=5)) && decide ((BFZ a0).length*88≤140737488355328) && decide ((BFZ a0).length≤140737488355328)) (BG7 a0 y0 R)) (bN (((BFZ a0).all fun (r:List T)=>decide (r.length=5)) && decide ((BFZ a0).length*88≤140737488355328) && decide ((BFZ a0).length≤140737488355328)) (bP aF (l8 (BFZ a0) [T.v (.int .i64 s2.1), T.sl true [(BGL y0)]]) fun (y5:List aL)=>R (BGJ a0 y5)))) (BF0 X1 s2)) (bN (((BFZ a0).all fun (r:List T)=>decide (r.length=5)) && decide ((BFZ a0).length*88≤140737488355328) && decide ((BFZ a0).length≤140737488355328)) (BG7 a0 y0 R))) (0,())
abbrev AY2:Sh:=[(true,aE),(true,aQ)]
noncomputable def PU:List T→Option T:=gS AY2 F0
theorem AVS {a0 a1}:PU [aI true aE a0,aI true aQ a1]=F0 (a0,a1):=bG (s:=AY2) rfl (a0,a1) rfl
theorem A9Z:rQ Tryz.prog 181 PU F0 (cD AY2) ARR:=gZ (a1:=(true,aE)) (a2:=(true,aQ)) (sp:=F0) (F:=ARR) (Hs:=BCA) (f:=181) (k:=8) A0V aU aY (aN rfl) ⟨_,_,Tryz.func181,rfl⟩ rfl fun _ _ _=>by kernel_rfl
theorem A74:aO Tryz.prog 181 PU:=A9Z fun d x r h hb=>by
 clear hb
 have hq:(sP d&&fT (iH x))=true:=by
  unfold F0 at h
  split at h
  ·assumption
  ·cases h
 have e:Sh.enc [(true,aE)] (AI0 d x)=r:=by
  unfold F0 at h
  rw[show (sP (d,x).1&&fT (iH (d,x).2))=true from hq] at h
  exact Option.some.inj h
 subst e
 clear h
 rw[Bool.and_eq_true] at hq
 obtain ⟨hp,ho⟩:=hq
 have c:=dP hp
 have hd:=vR (r:=aF) (l:=d.2.2.2.2.1) (z:=5) (b:=88) rfl (dG c.k (by decide))
 unfold ARR BG7 BGL BGJ BGR BF8 BG1 BF4 BF3 BFZ BF0 BF6
 refine aG (s:=[(true,aF)]) (y:=iH x) ((CB ..).trans (by unfold jT;rw[ho])) ?_
 refine cO (r:=aF) (fun y=>cB y (iH x)) (oF c.k) (fun X k y hk hy hp hn=>?_) (fun h _=>?_)
 ·dsimp only
  rw[o9]
  refine uV (fun h=>?_) fun h=>hn h
  obtain ⟨hi,_⟩:=hp h
  refine b8 (fun h=>by omega) fun _=>⟨hd,?_⟩
  refine dO (r:=aF) (l:=d.2.2.2.2.1.take k++iH x::d.2.2.2.2.1.drop k) (rI (r:=aF) (x:=iH x) rfl (by omega) c.k (by decide)) _ ?_
  unfold AI0 dE
  rw[hi];rfl
 ·refine ⟨hd,?_⟩
  rw[show (((List.map (aF).enc d.2.2.2.2.1).length:Nat):Int)=(((d.2.2.2.2.1).length:Nat):Int) by rw[List.length_map]]
  refine dO (r:=aF) (l:=d.2.2.2.2.1.take (d.2.2.2.2.1).length++iH x::d.2.2.2.2.1.drop (d.2.2.2.2.1).length) (rI (r:=aF) (x:=iH x) rfl (Nat.le_refl _) c.k (by decide)) _ ?_
  unfold AI0 dE
  rw[h];rfl
end Go.Pv
namespace Go.Pv
open Go Go.Proofs
noncomputable def LM:List T→Option T:=eX
theorem AH0:J6 Tryz.prog 36 2 LM :=
 AX6 (E:=ABJ) (Hs:=AC4) VX aU aY (aN rfl) 8 ⟨_,_,Tryz.func36,rfl⟩ (s:=MX) rfl fun d r h hb=>by
  have hp:sP d=true:=by
   unfold q0 at h
   split at h
   ·assumption
   ·cases h
  have e:Sh.enc [(true,aE)] d=r:=by
   unfold q0 at h
   rw[hp] at h
   exact Option.some.inj h
  subst e
  rw[show VJ bW Tryz.prog ABJ AC4 8 2 36 (Sh.lI MX d) (fun y=>y=Sh.enc [(true,aE)] d)=JG d (fun y=>y=Sh.enc [(true,aE)] d) from by kernel_rfl]
  exact ATZ hp
def VC (x:aX):Option T:=some (Sh.enc [(true,aQ)] ((x.1,mX,mX,gT,cH x,gU,noPack,oL):aX))
noncomputable def BBV:Env:=Env.of []
def BCG:FuncId→Hint:=fun _=>aZ
theorem A06:aT Tryz.prog BBV:=.nil _
def AR7(a0:aX)(R:T→Prop):Prop:=R (BF2 a0)
abbrev AY8:Sh:=[(true,aQ)]
noncomputable def P4:List T→Option T:=gS AY8 VC
theorem AV3 {a0}:P4 [aI true aQ a0]=VC (a0):=bG (s:=AY8) rfl (a0) rfl
theorem BAA:vF Tryz.prog 144 P4 VC (cD AY8) AR7:=jJ (a1:=(true,aQ)) (sp:=VC) (F:=AR7) (Hs:=BCG) (f:=144) (k:=8) A06 aU aY (aN rfl) ⟨_,_,Tryz.func144,rfl⟩ rfl fun _ _=>by kernel_rfl
theorem A8H:aO Tryz.prog 144 P4:=BAA fun x r h hb=>by
 cases h
 unfold AR7 BF2
 rfl
def VD (x:aX):Option T:=some (Sh.enc [(true,aQ)] ((x.1,dQ x,eTo x,gT,dY,gU,noPack,oL):aX))
noncomputable def BBW:Env:=Env.of []
def BCH:FuncId→Hint:=fun _=>aZ
theorem A07:aT Tryz.prog BBW:=.nil _
def AR8(a0:aX)(R:T→Prop):Prop:=R (T.agg [T.v (.int .i64 a0.1),T.v (.string a0.2.1), T.v (.string a0.2.2.1),T.v (.string {data:=#[]}), T.v (.int .i64 0),T.v (.string {data:=#[]}), T.v (.string {data:=#[]}),T.v (.int .i64 0), T.v (.int .i64 0),T.v (.string {data:=#[]}), T.v (.string {data:=#[]}),T.v (.int .i64 0),T.sl false [], T.sl false [],T.v (.string {data:=#[]}),T.v (.int .i64 0), T.v (.int .i64 0),T.v (.int .i64 0), T.v (.int .i64 0),T.v (.int .i64 0), T.v (.int .i64 0),T.v (.int .i64 0), T.v (.int .i64 0),T.v (.int .i64 0), T.v (.string {data:=#[]}),T.v (.string {data:=#[]}), T.v (.string {data:=#[]}),T.v (.int .i64 0), T.v (.int .i64 0),T.v (.int .i64 0), T.v (.string {data:=#[]}),T.v (.string {data:=#[]}),T.sl false [], T.v (.int .i64 0),T.sl false [],T.v (.int .i64 0), T.v (.string {data:=#[]}),T.v (.string {data:=#[]})])
abbrev AY9:Sh:=[(true,aQ)]
noncomputable def P5:List T→Option T:=gS AY9 VD
theorem AV4 {a0}:P5 [aI true aQ a0]=VD (a0):=bG (s:=AY9) rfl (a0) rfl
theorem BAB:vF Tryz.prog 152 P5 VD (cD AY9) AR8:=jJ (a1:=(true,aQ)) (sp:=VD) (F:=AR8) (Hs:=BCH) (f:=152) (k:=8) A07 aU aY (aN rfl) ⟨_,_,Tryz.func152,rfl⟩ rfl fun _ _=>by kernel_rfl
theorem A8I:aO Tryz.prog 152 P5:=BAB fun x r h hb=>by
 cases h
 unfold AR8
 rfl
end Go.Pv
