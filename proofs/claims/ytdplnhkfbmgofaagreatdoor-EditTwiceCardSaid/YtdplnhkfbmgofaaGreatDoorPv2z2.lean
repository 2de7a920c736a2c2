/-
  poly.Where; region: edges, within, apart, Check, Area2.
  region: Check, Area2.
  vec.Valid; material: Check, Grade, Rolled.
  part: Check, Mass.
  Chapter 17: the tree's parts and packages in full.
  Chapter 17: the tree's packages in full.
  Chapter 17: Check where the parts and packages are empty ones; StructureLong, walked.
  Chapter 17: structure.Check in full.
  What an edit does to a design, in plain words.
  The reference's material.Check.
  R17.Has.
  The form of a design, as the reference looks at it.
  The closures of edit.kinds: what they come to.
-/
import Derived.Test.YtdplnhkfbmgofaaGreatDoorPv2z1
import Derived.Sort.Walk0
import Derived.Test.YtdplnhkfbmgofaaGreatDoorPv2kp
set_option linter.defProp false
set_option linter.unusedSimpArgs false
set_option linter.unusedVariables false
set_option maxRecDepth 100000
namespace Go.Pv
open Go Go.Proofs
def AGP (p:List Pt) (q:Pt):Bool:=(List.range p.length).any fun i=>SL (pt p i) (nx p i) q
def gN (p:List Pt) (q:Pt):Int:=if ¬ cX q∨¬ jR p=0 then -1 else if AGP p q=true then 0 else if AZY p q=true then 1 else -1
theorem wP {n:Nat} {f:Nat→Bool}:(List.range n).any f=true↔∃ i,i<n∧f i=true:=by simp[List.any_eq_true,List.mem_range]
theorem ABW {n:Nat} {f:Nat→Bool} (h:∀ i,i<n→f i=false):(List.range n).any f=false:=by
 rw[Bool.eq_false_iff];intro ha
 obtain ⟨i,hi,h2⟩:=wP.1 ha
 rw[h i hi] at h2;cases h2
theorem ATN {a b q:Pt} (ho:SL a b q=false):hit a b q=(!(decide (q.2<a.2) == decide (q.2<b.2))&&(decide (0<dE a b q) == decide (a.2<b.2))):=by
 rcases Int.lt_or_le q.2 a.2 with h1|h1
 ·rcases Int.lt_or_le q.2 b.2 with h2|h2
  ·unfold hit;simp[show ¬ a.2≤q.2 by omega,show ¬ b.2≤q.2 by omega,h1,h2]
  ·have hz:dE a b q≠0:=fun h=>by
    have:=A01 (a:=b) (b:=a) (q:=q) (by rw[JQ a b q,h];rfl) (by omega) h2 (by omega)
    rw[A00] at this;rw[this] at ho;cases ho
   have h3:decide (0<dE a b q) = !decide (dE a b q<0):=by
    rcases Int.lt_or_le (dE a b q) 0 with h|h
    ·rw[decide_eq_true h,decide_eq_false (by omega)];rfl
    ·rw[decide_eq_false (show ¬ dE a b q<0 by omega),decide_eq_true (by omega)];rfl
   unfold hit
   rw[h3]
   simp[show ¬ a.2≤q.2 by omega,h1,h2,show ¬ q.2<b.2 by omega,show ¬ a.2<b.2 by omega]
 ·rcases Int.lt_or_le q.2 b.2 with h2|h2
  ·unfold hit;simp[h1,show ¬ q.2<a.2 by omega,h2,show ¬ b.2≤q.2 by omega,show a.2<b.2 by omega]
  ·unfold hit;simp[show ¬ q.2<a.2 by omega,show ¬ q.2<b.2 by omega]
noncomputable def ANL:Env:=Env.of [(341,.pure fK),(369,.pure zS),(395,.pure vO),(390,.pure fA)]
def AQF:FuncId→Hint:=bV 375 [(5,.inv [.val 5 false .bool,.val 19 false (.int .i64)])] (fun _=>aX)
theorem AAL:aR Tryz.prog ANL:=.cons zN (.cons AF4 (.cons AR7 (.cons wU (.nil _))))
def BAQ:T:=T.v (.bool false)
def BAR:T:=T.v (.int .i64 9)
def BAS:Sh:=[(false,Sy.bool)]
def BAT:Sh:=[(false,Sy.int IntKind.i64)]
def BAU:T:=T.v (.int .i64 0)
def BAV:Sy:=Sy.int IntKind.i64
def BAW:T:=T.v (.bool true)
def BAX:Sh:=[(true,bM),(false,Sy.bool)]
def BAY:T:=T.v (.int .i64 11)
def BAZ:T:=T.v (.int .i64 4)
def BA0:T:=T.v (.int .i64 6)
def BA1:T:=T.v (.int .i64 2)
def BA2:Sh:=[(true,bT),(false,Sy.bool)]
def BA3:T:=T.v (.int .i64 (-1))
def BA4:List T:=[T.agg [T.v (.string {data:=#[]}),T.v (.int .i64 0), T.v (.int .i64 0),T.sl false []], T.v (.bool false)]
def BA5:T:=T.v (.int .i64 7)
def BA6:T:=T.v (.int .i64 1)
def BA7:T:=T.v (.int .i64 17)
def BA8:T:=T.v (.int .i64 23)
def BA9:T:=T.v (.int .i64 8)
def BBA(a0:List aP):List (List T):=List.map aA.enc a0
def I0(a0:List aP)(a1:aP)(R:T→Prop):Prop:=aJ BAS (zS [aH true aA a1]) fun (y0:Bool)=>aB y0 (R BA3) (aJ BAT (fK [T.sl false (BBA a0)]) fun (y1:Int)=>aB (!decide (y1=0)) (R BA3) (a6 (Bool×Int×PUnit) (fun X2 s3=>aB (decide (s3.2.1<(↑(BBA a0).length:Int))) (aS aA (BBA a0) s3.2.1 fun (y4:aP)=>bS (!decide ((↑(BBA a0).length:Int)=0)) (aS aA (BBA a0) ((IntKind.i64.wrap (s3.2.1+1)).tmod (↑(BBA a0).length:Int)) fun (y5:aP)=>aJ BAS (vO [aH true aA y4,aH true aA y5, aH true aA a1]) fun (y6:Bool)=>aB y6 (R BAU) (aB (decide (decide (a1.2<y4.2)=decide (a1.2<y5.2))) (X2 (s3.1,IntKind.i64.wrap (s3.2.1+1),())) (aJ BAT (fA [aH true aA y4,aH true aA y5, aH true aA a1]) fun (y7:Int)=>aB (decide (decide (0<y7)=decide (y4.2<y5.2))) (X2 (!s3.1,IntKind.i64.wrap (s3.2.1+1),())) (X2 (s3.1,IntKind.i64.wrap (s3.2.1+1),())))))) (aB s3.1 (R BA6) (R BA3))) (false,0,())))
abbrev MA:Sh:=[(false,aA.li),(true,aA)]
def xR (x:List aP×aP):Option T:=some (T.v (Value.int .i64 (gN x.1 x.2)))
noncomputable def lG:List T→Option T:=gS MA xR
theorem W4 {a0 a1}:lG [T.sl false (List.map aA.enc a0),aH true aA a1]=xR (a0,a1):=bD (s:=MA) rfl (a0,a1) rfl
theorem ALZ:uH Tryz.prog 375 lG xR (cB MA) I0:=iK (a1:=(false,aA.li)) (a2:=(true,aA)) (sp:=xR) (F:=I0) (Hs:=AQF) (f:=375) (k:=8) AAL aT aW (aL rfl) ⟨_,_,Tryz.func375,rfl⟩ rfl fun _ _ _=>by kernel_rfl
def u5 (p q:List Pt):Bool:=(List.range p.length).any fun i=>(List.range q.length).any fun k=>lL (pt p i) (nx p i) (pt q k) (nx q k)
def kU (a0:List aP) (a1:List aP):List T:=[T.sl false (List.map aA.enc a0),T.sl false (List.map aA.enc a1),T.fn 373 [] []]
noncomputable def ID:Env:=Env.of [(373,.pure vS)]
def UZ:FuncId→Hint:=bV 372 [(2,.inv [.val 13 false (.int .i64)]),(5,.inv [.val 20 false (.int .i64)])] (fun _=>aX)
theorem AAR:aR Tryz.prog ID:=.cons AKF (.nil _)
def BBB(a0:List aP):List (List T):=List.map aA.enc a0
def I6(a0:List aP)(a1:List aP)(R:T→Prop):Prop:=a6 (Int×PUnit) (fun X0 s1=>aB (decide (s1.1<(↑(BBB a0).length:Int))) (aS aA (BBB a0) s1.1 fun (y2:aP)=>a6 (Int×PUnit) (fun X3 s4=>aB (decide (s4.1<(↑(BBB a1).length:Int))) (aS aA (BBB a1) s4.1 fun (y5:aP)=>bS (!decide ((↑(BBB a0).length:Int)=0)) (aS aA (BBB a0) ((IntKind.i64.wrap (s1.1+1)).tmod (↑(BBB a0).length:Int)) fun (y6:aP)=>bS (!decide ((↑(BBB a1).length:Int)=0)) (aS aA (BBB a1) ((IntKind.i64.wrap (s4.1+1)).tmod (↑(BBB a1).length:Int)) fun (y7:aP)=>aJ BAS (vS [aH true aA y2,aH true aA y6, aH true aA y5,aH true aA y7]) fun (y8:Bool)=>aB y8 (R BAW) (X3 (IntKind.i64.wrap (s4.1+1),()))))) (X0 (IntKind.i64.wrap (s1.1+1),()))) (0,())) (R BAQ)) (0,())
theorem UQ ( a0 a1 R):dS bZ Tryz.prog ID UZ 8 372 (kU a0 a1) R=I6 a0 a1 R:=by kernel_rfl
def LN {α:Type} (p q:List Pt) (r:α):Option α:=match NM p&&NM q with
 | true=>some r
 | false=>none
theorem LO {α:Type} {p q:List Pt} {t r:α} (h:LN p q t=some r):p.length≤1000∧jM p∧q.length≤1000∧jM q∧r=t:=by
 unfold LN at h;split at h
 ·rename_i hc
  simp only[NM,Bool.and_eq_true,decide_eq_true_eq,l9] at hc
  cases h;exact ⟨hc.1.1,hc.1.2,hc.2.1,hc.2.2,rfl⟩
 ·cases h
theorem LP {α:Type} {p q:List Pt} (t:α) (h:p.length≤1000) (h2:jM p) (h3:q.length≤1000) (h4:jM q):LN p q t=some t:=by
 unfold LN;rw[show (NM p&&NM q)=true by simp only[NM,Bool.and_eq_true,decide_eq_true_eq,l9];exact ⟨⟨h,h2⟩,h3,h4⟩]
def FD (x:List aP×List aP):Option T:=LN x.1 x.2 (T.v (.bool (u5 x.1 x.2)))
theorem P7 (x y:List aP×List aP) (h:kU x.1 x.2=kU y.1 y.2):x=y:=by
 unfold kU at h
 obtain ⟨h1,h2⟩:=List.cons.inj h
 have h2:=(List.cons.inj h2).1
 exact Prod.ext (map_inj (Sy.dI aA) (T.sl.inj h1).2) (map_inj (Sy.dI aA) (T.sl.inj h2).2)
noncomputable def mV:List T→Option (T):=gA (fun (x:List aP×List aP)=>kU x.1 x.2) FD
theorem XC (a0:List aP) (a1:List aP):mV (kU a0 a1)=FD (a0,a1):=e8 (A:=(fun (x:List aP×List aP)=>kU x.1 x.2)) P7 (a0,a1)
theorem AL5 (h:∀ (a0:List aP) (a1:List aP) (r:T),FD (a0,a1)=some r→(∀ t∈kU a0 a1,Bd t)→I6 a0 a1 (fun y=>y=r)):aN Tryz.prog 372 mV :=
 cQ (E:=ID) (Hs:=UZ) AAR aT aW (aL rfl) 8 ⟨_,_,Tryz.func372,rfl⟩ fun x r h1 h2=>by
  rw[UQ]
  exact h x.1 x.2 r h1 h2
theorem OC:aN Tryz.prog 372 mV:=AL5 fun p q r h hb=>by
 obtain ⟨hl,hn,hl2,hn2,rfl⟩:=LO h
 replace hl:p.length≤1000:=hl
 replace hl2:q.length≤1000:=hl2
 clear h
 unfold I6 BBB BAW BAS BAQ
 refine bG p.length (fun k s=>s=((k:Int),())∧∀ i,i<k→i<p.length→((List.range q.length).any fun k=>lL (pt p i) (nx p i) (pt q k) (nx q k))=false) ⟨rfl,fun i h=>by omega⟩ ?_
 rintro X k s hk ⟨rfl,hJ⟩ hX
 dsimp only
 refine b6 (fun hlt=>?_) fun hge=>fS (Eq.symm (ABW fun i hi=>hJ i (by rw[List.length_map] at hge;omega) hi))
 rw[List.length_map] at hlt
 have hlt:k<p.length:=by omega
 have hne:(!decide (((List.map aA.enc p).length:Int)=0))=true:=by rw[List.length_map,decide_eq_false (by omega)];rfl
 have hm1:(k+1) % p.length<p.length:=Nat.mod_lt _ (by omega)
 have i1:(IntKind.i64.wrap ((k:Int)+1)).tmod ((List.map aA.enc p).length:Int)=(((k+1) % p.length:Nat):Int):=by rw[List.length_map];exact sY (c:=1) hl (by omega) (by omega)
 rw[eM hlt]
 refine bG q.length (fun j s=>s=((j:Int),())∧∀ i,i<j→i<q.length→lL (pt p k) (nx p k) (pt q i) (nx q i)=false) ⟨rfl,fun i h=>by omega⟩ ?_
 rintro Y j s hj ⟨rfl,hI⟩ hY
 dsimp only
 refine b6 (fun hlj=>?_) fun hgj=>hX _ hlt ⟨by rw[show IntKind.i64.wrap ((k:Int)+1)=((k+1:Nat):Int) from bB _ (by omega) (by omega)],fun i h1 h2=>by
  rcases Nat.lt_or_ge i k with h3|h3
  ·exact hJ i h3 h2
  ·have:i=k:=by omega
   subst this;exact ABW fun m hm=>hI m (by rw[List.length_map] at hgj;omega) hm⟩
 rw[List.length_map] at hlj
 have hlj:j<q.length:=by omega
 have hne2:(!decide (((List.map aA.enc q).length:Int)=0))=true:=by rw[List.length_map,decide_eq_false (by omega)];rfl
 have hm2:(j+1) % q.length<q.length:=Nat.mod_lt _ (by omega)
 have i2:(IntKind.i64.wrap ((j:Int)+1)).tmod ((List.map aA.enc q).length:Int)=(((j+1) % q.length:Nat):Int):=by rw[List.length_map];exact sY (c:=1) hl2 (by omega) (by omega)
 rw[eM hlj,i1]
 refine ⟨hne,?_⟩
 rw[eM hm1,i2]
 refine ⟨hne2,?_⟩
 rw[eM hm2]
 refine aF (s:=[(false,.bool)]) ((XI ..).trans (XZ _ (hn.pt _) (hn.pt _) (hn2.pt _) (hn2.pt _))) ?_
 refine sZ (fun h=>fS (Eq.symm (wP.2 ⟨k,hlt,wP.2 ⟨j,hlj,h⟩⟩))) fun h=>hY _ hlj ⟨by rw[show IntKind.i64.wrap ((j:Int)+1)=((j+1:Nat):Int) from bB _ (by omega) (by omega)],fun i h1 h2=>by
  rcases Nat.lt_or_ge i j with h3|h3
  ·exact hI i h3 h2
  ·have:i=j:=by omega
   subst this;exact h⟩
theorem F3 {p q:List Pt} (h:p.length≤1000) (h2:jM p) (h3:q.length≤1000) (h4:jM q):mV (kU p q)=some (Sh.enc [(false,.bool)] (u5 p q)):=(XC ..).trans (LP _ h h2 h3 h4)
theorem OA:aN Tryz.prog 375 lG:=ALZ fun p q r h hb=>by
 cases h
 have is:∀ {n:Int},gN p q=n→T.v (.int .i64 n)=T.v (.int .i64 (gN p q)):=fun h=>by rw[h]
 unfold I0 BBA BA6 BA3 BAU BAT BAS
 refine aF (s:=[(false,.bool)]) (y:=!decide (cX q)) (OU ..) ?_
 refine jB (fun h=>is (by unfold gN;rw[if_pos (.inl h)])) fun hq=>?_
 refine aF (s:=[(false,.int .i64)]) (nY p) ?_
 refine jB (fun h=>is (by unfold gN;rw[if_pos (.inr h)])) fun hp=>?_
 obtain ⟨hl3,hl32,hn,_⟩:=sC hp
 have w:gN p q=if AGP p q=true then 0 else if AZY p q=true then 1 else -1:=by
  unfold gN;rw[if_neg];rintro (h|h)
  ·exact h hq
  ·exact h hp
 refine bG p.length (fun k s=>s=(AWT k (fun i=>hit (pt p i) (nx p i) q),(k:Int),())∧∀ i,i<k→i<p.length→SL (pt p i) (nx p i) q=false) ⟨rfl,fun i h=>by omega⟩ ?_
 rintro X k s hk ⟨rfl,hJ⟩ hX
 dsimp only
 refine b6 (fun hlt=>?_) fun hge=>?_
 ·rw[List.length_map] at hlt
  have hlt:k<p.length:=by omega
  have hne:(!decide (((List.map aA.enc p).length:Int)=0))=true:=by rw[List.length_map,decide_eq_false (by omega)];rfl
  have hm1:(k+1) % p.length<p.length:=Nat.mod_lt _ (by omega)
  have i1:(IntKind.i64.wrap ((k:Int)+1)).tmod ((List.map aA.enc p).length:Int)=(((k+1) % p.length:Nat):Int):=by rw[List.length_map];exact sY (c:=1) (by omega) (by omega) (by omega)
  rw[eM hlt,i1]
  refine ⟨hne,?_⟩
  rw[eM hm1]
  refine aF (s:=[(false,.bool)]) (vP (hn.pt _) (hn.pt _) hq) ?_
  refine sZ (fun h=>is (by rw[w,if_pos (show AGP p q=true from wP.2 ⟨k,hlt,h⟩)])) fun ho=>?_
  have ho:SL (pt p k) (nx p k) q=false:=ho
  have hw:IntKind.i64.wrap ((k:Int)+1)=((k+1:Nat):Int):=bB _ (by omega) (by omega)
  have hh:=ATN ho
  have hJ':∀ i,i<k+1→i<p.length→SL (pt p i) (nx p i) q=false:=fun i h1 h2=>by
   rcases Nat.lt_or_ge i k with h3|h3
   ·exact hJ i h3 h2
   ·have:i=k:=by omega
    subst this;exact ho
  have step:∀ c,hit (pt p k) (nx p k) q=c→X ((AWT k (fun i=>hit (pt p i) (nx p i) q) ^^ c),IntKind.i64.wrap ((k:Int)+1),()):=fun c hc=>hX _ hlt ⟨by rw[hw,AWT,hc],hJ'⟩
  refine b6 (fun h=>?_) fun h=>?_
  ·have e:hit (pt p k) (nx p k) q=false:=by
    rw[hh,show decide (q.2<(pt p k).2)=decide (q.2<(nx p k).2) from h];simp
   have:=step false e
   rwa[Bool.xor_false] at this
  ·refine aF (s:=[(false,.int .i64)]) (iT (hn.pt _) (hn.pt _) hq) ?_
   have e0:hit (pt p k) (nx p k) q=(decide (0<dE (pt p k) (nx p k) q) == decide ((pt p k).2<(nx p k).2)):=by
    rw[hh,show (decide (q.2<(pt p k).2) == decide (q.2<(nx p k).2))=false from beq_eq_false_iff_ne.2 h];rfl
   refine b6 (fun h2=>?_) fun h2=>?_
   ·have:=step true (by rw[e0];exact beq_iff_eq.2 h2)
    rwa[Bool.xor_true] at this
   ·have:=step false (by rw[e0];exact beq_eq_false_iff_ne.2 h2)
    rwa[Bool.xor_false] at this
 ·rw[List.length_map] at hge
  have:k=p.length:=by omega
  subst this
  have hna:AGP p q=false:=ABW fun i hi=>hJ i hi hi
  refine sZ (fun h=>is ?_) fun h=>is ?_
  ·rw[w,hna,if_neg (by simp),if_pos (show AZY p q=true from h)]
  ·rw[w,hna,if_neg (by simp),if_neg (by rw[show AZY p q=false from h];simp)]
theorem vQ (p:List Pt) (q:Pt):lG [T.sl false (List.map aA.enc p),aH true aA q]=some (Sh.enc [(false,.int .i64)] (gN p q)):=W4 ..
def qS (p o:List Pt):Bool:=!u5 p o&&p.all fun c=>decide (gN o c=1)
def sK (p q:List Pt):Bool:=!u5 p q&&(decide (gN p (pt q 0)<0)&&decide (gN q (pt p 0)<0))
noncomputable def AH0:Env:=Env.of [(375,.pure lG),(372,.pure mV)]
def AI1:FuncId→Hint:=bV 389 [(2,.inv [.val 8 false (.int .i64)])] (fun _=>aX)
theorem UH:aR Tryz.prog AH0:=.cons OA (.cons OC (.nil _))
def C6(a0:List aP)(a1:List aP)(R:T→Prop):Prop:=aJ BAS (mV [T.sl false (List.map aA.enc a0),T.sl false (List.map aA.enc a1), T.fn 373 [] []]) fun (y0:Bool)=>aB (!y0) (a6 (Int×PUnit) (fun X1 s2=>aB (decide (s2.1<(↑(List.map aA.enc a0).length:Int))) (aS aA (List.map aA.enc a0) s2.1 fun (y3:aP)=>aJ BAT (lG [T.sl false (List.map aA.enc a1),aH true aA y3]) fun (y4:Int)=>aB (!decide (y4=1)) (R (T.v (.bool !decide (0≤s2.1)))) (X1 (IntKind.i64.wrap (s2.1+1),()))) (R BAW)) (0,())) (R BAQ)
abbrev EW:Sh:=[(false,aA.li),(false,aA.li)]
def tU (x:List aP×List aP):Option T:=LN x.1 x.2 (T.v (.bool (qS x.1 x.2)))
noncomputable def oJ:List T→Option T:=gS EW tU
theorem R4 {a0 a1}:oJ [T.sl false (List.map aA.enc a0),T.sl false (List.map aA.enc a1)]=tU (a0,a1):=bD (s:=EW) rfl (a0,a1) rfl
theorem AD4:uH Tryz.prog 343 oJ tU (cB EW) C6:=iK (a1:=(false,aA.li)) (a2:=(false,aA.li)) (sp:=tU) (F:=C6) (Hs:=AI1) (f:=343) (k:=8) UH aT aW (aL rfl) ⟨_,_,Tryz.func343,rfl⟩ rfl fun _ _ _=>by kernel_rfl
theorem ACP:aN Tryz.prog 343 oJ:=AD4 fun p o r h hb=>by
 obtain ⟨hl,hn,hl2,hn2,rfl⟩:=LO h
 replace hl:p.length≤1000:=hl
 clear h
 unfold C6 BAW BAT BAS BAQ
 refine aF (s:=[(false,.bool)]) (F3 hl hn hl2 hn2) ?_
 refine fB (fun he=>?_) fun he=>fS (by unfold qS;rw[show u5 p o=true from he];rfl)
 have w:qS p o=p.all fun c=>decide (gN o c=1):=by unfold qS;rw[show u5 p o=false from he];rfl
 refine bG p.length (fun k s=>s=((k:Int),())∧p.all (fun c=>decide (gN o c=1))=(p.drop k).all fun c=>decide (gN o c=1)) ⟨rfl,by rw[List.drop_zero]⟩ ?_
 rintro X k s hk ⟨rfl,hJ⟩ hX
 dsimp only
 refine b6 (fun hlt=>?_) fun hge=>fS ?_
 ·rw[List.length_map] at hlt
  have hlt:k<p.length:=by omega
  rw[List.drop_eq_getElem_cons hlt,List.all_cons] at hJ
  rw[bA (r:=aA) hlt]
  refine aF (s:=[(false,.int .i64)]) (vQ o p[k]) ?_
  refine jB (fun h=>fS ?_) fun h=>hX _ hlt ⟨by rw[show IntKind.i64.wrap ((k:Int)+1)=((k+1:Nat):Int) from bB _ (by omega) (by omega)],by rw[hJ,decide_eq_true (show gN o p[k]=1 from h),Bool.true_and]⟩
  rw[w,hJ,decide_eq_false (show ¬ gN o p[k]=1 from h),decide_eq_true (show 0≤(k:Int) by omega)];rfl
 ·rw[List.length_map] at hge
  have:k=p.length:=by omega
  subst this
  rw[w,hJ,List.drop_length];rfl
theorem R5 {p q:List Pt} (h:p.length≤1000) (h2:jM p) (h3:q.length≤1000) (h4:jM q):oJ [T.sl false (List.map aA.enc p),T.sl false (List.map aA.enc q)]=some (Sh.enc [(false,.bool)] (qS p q)):=(R4 ..).trans (LP _ h h2 h3 h4)
def AD8 (p q:List Pt) (t:T):Option T:=match p,q with
 | _::_,_::_=>LN p q t
 | _,_=>none
noncomputable def ANM:Env:=Env.of [(375,.pure lG),(372,.pure mV)]
def AQG:FuncId→Hint:=fun _=>aX
theorem AAM:aR Tryz.prog ANM:=.cons OA (.cons OC (.nil _))
def BBC(a0:List aP):List (List T):=List.map aA.enc a0
def I1(a0:List aP)(a1:List aP)(R:T→Prop):Prop:=aJ BAS (mV [T.sl false (BBC a0),T.sl false (BBC a1), T.fn 373 [] []]) fun (y0:Bool)=>aB (!y0) (aS aA (BBC a1) 0 fun (y1:aP)=>aJ BAT (lG [T.sl false (BBC a0),aH true aA y1]) fun (y2:Int)=>aB (decide (y2<0)) (aS aA (BBC a0) 0 fun (y3:aP)=>aJ BAT (lG [T.sl false (BBC a1),aH true aA y3]) fun (y4:Int)=>R (T.v (.bool (decide (y4<0))))) (R BAQ)) (R BAQ)
abbrev MB:Sh:=[(false,aA.li),(false,aA.li)]
def oM (x:List aP×List aP):Option T:=AD8 x.1 x.2 (T.v (.bool (sK x.1 x.2)))
noncomputable def rY:List T→Option T:=gS MB oM
theorem W5 {a0 a1}:rY [T.sl false (List.map aA.enc a0),T.sl false (List.map aA.enc a1)]=oM (a0,a1):=bD (s:=MB) rfl (a0,a1) rfl
theorem AL0:uH Tryz.prog 344 rY oM (cB MB) I1:=iK (a1:=(false,aA.li)) (a2:=(false,aA.li)) (sp:=oM) (F:=I1) (Hs:=AQG) (f:=344) (k:=8) AAM aT aW (aL rfl) ⟨_,_,Tryz.func344,rfl⟩ rfl fun _ _ _=>by kernel_rfl
theorem AKB:aN Tryz.prog 344 rY:=AL0 fun p q r h hb=>by
 unfold oM AD8 at h
 split at h
 ·rename_i e1 e2
  obtain ⟨hl,hn,hl2,hn2,rfl⟩:=LO h
  have k1:0<p.length:=by rw[show p=_ from e1];simp
  have k2:0<q.length:=by rw[show q=_ from e2];simp
  clear h
  unfold I1 BBC BAT BAS BAQ
  refine aF (s:=[(false,.bool)]) (F3 hl hn hl2 hn2) ?_
  refine fB (fun he=>?_) fun he=>fS (by unfold sK;rw[show u5 p q=true from he];rfl)
  have w:sK p q=(decide (gN p (pt q 0)<0)&&decide (gN q (pt p 0)<0)):=by unfold sK;rw[show u5 p q=false from he];rfl
  rw[show (0:Int)=((0:Nat):Int) from rfl,eM k2]
  refine aF (s:=[(false,.int .i64)]) (vQ p (pt q 0)) ?_
  refine b6 (fun h=>?_) fun h=>fS (by rw[w,decide_eq_false (show ¬ gN p (pt q 0)<0 from h)];rfl)
  rw[eM k1]
  refine aF (s:=[(false,.int .i64)]) (vQ q (pt p 0)) ?_
  exact fS (by rw[w,decide_eq_true (show gN p (pt q 0)<0 from h)];rfl)
 ·cases h
theorem W6 {p q:List Pt} (k1:0<p.length) (k2:0<q.length) (h:p.length≤1000) (h2:jM p) (h3:q.length≤1000) (h4:jM q):rY [T.sl false (List.map aA.enc p),T.sl false (List.map aA.enc q)]=some (Sh.enc [(false,.bool)] (sK p q)):=by
 refine (W5 ..).trans ?_
 unfold oM AD8
 cases p with
 | nil=>simp at k1
 | cons a p=>cases q with
  | nil=>simp at k2
  | cons b q=>exact LP _ h h2 h3 h4
end Go.Pv
namespace Go.Pv
open Go Go.Proofs
theorem iR {r:Sy} {l:List r.den} (f:Nat→Int) (hl:l.length≤1000000) {Body:(Int×PUnit→Prop)→Int×PUnit→r.den→Prop} {Exit:Prop}
  (hbody:∀ (X:Int×PUnit→Prop) (k:Nat) (hk:k<l.length),(∀ j,j<k→f j=0)→(f k=0→X (((k+1:Nat):Int),()))→(f k≠0→bY f (List.range l.length)=f k)→Body X ((k:Int),()) l[k]) (hexit:bY f (List.range l.length)=0→Exit) :
  a6 (Int×PUnit) (fun (X:Int×PUnit→Prop) (s:Int×PUnit)=>aB (decide (s.1<((List.map r.enc l).length:Int))) (aS r (List.map r.enc l) s.1 fun y=>Body X s y) Exit) (0,()):=by
 refine bG l.length (fun k s=>s=((k:Int),())∧bY f (List.range l.length)=bY f (List.range' k (l.length-k))∧∀ j,j<k→f j=0) ⟨rfl,by rw[List.range_eq_range'];rfl,fun j h=>by omega⟩ ?_
 rintro X k s hk ⟨rfl,he,hp⟩ hX
 dsimp only
 refine b6 (fun hlt=>?_) fun hge=>?_
 ·rw[List.length_map] at hlt
  have hlt:k<l.length:=by omega
  rw[bA hlt]
  obtain ⟨m,hm⟩:∃ m,l.length-k=m+1:=⟨l.length-k-1,by omega⟩
  rw[hm,List.range'_succ,bY] at he
  refine hbody X k hlt hp (fun h0=>?_) fun h0=>by rw[he,if_neg h0]
  rw[if_pos h0] at he
  exact hX _ hlt ⟨rfl,by rw[he];congr 2;omega,fun j hj=>by
   rcases Nat.lt_or_ge j k with h|h
   ·exact hp j h
   ·have:j=k:=by omega
    subst this;exact h0⟩
 ·rw[List.length_map] at hge
  have:l.length-k=0:=by omega
  rw[this] at he
  exact hexit he
def F7 (s:kW) (i:Nat):Int:=if ¬ jR (s.2.getD i [])=0 then jR (s.2.getD i []) else if 0≤pX (s.2.getD i [])∨qS (s.2.getD i []) s.1=false then 17 else if ((List.range i).all fun k=>sK (s.2.getD i []) (s.2.getD k []))=false then 17 else 0
def wD (s:kW):Int:=if 8<s.2.length then 12 else if ¬ jR s.1=0 then jR s.1 else if pX s.1≤0 then 17 else bY (F7 s) (List.range s.2.length)
theorem FX {α:Type} {f:α→Int}:∀ {l:List α},bY f l=0→∀ a∈l,f a=0
 | a::l,h,b,hb=>by
  unfold bY at h
  by_cases ha:f a=0
  ·rw[if_pos ha] at h
   rcases List.mem_cons.1 hb with rfl|hb
   ·exact ha
   ·exact FX h b hb
  ·rw[if_neg ha] at h;exact absurd h ha
 | [],_,b,hb=>by cases hb
theorem AMA (l:List (List aP)):EF 1 (List.map aA.li.enc l)=true:=by cases l<;>rfl
noncomputable def ANO:Env:=Env.of [(341,.pure fK),(342,.pure lE),(343,.pure oJ),(344,.pure rY)]
def AQI:FuncId→Hint:=bV 313 [(9,.inv [.val 26 false (.int .i64)]),(17,.inv [.val 51 false (.int .i64)])] (fun _=>aX)
theorem AAO:aR Tryz.prog ANO:=.cons zN (.cons N9 (.cons ACP (.cons AKB (.nil _))))
def BBD(a0:kW):List (List T):=List.map aA.li.enc a0.2
def I3(a0:kW)(R:T→Prop):Prop:=aB (decide (8<(↑(BBD a0).length:Int))) (R (T.v (.int .i64 12))) (aJ BAT (fK [T.sl false (List.map aA.enc a0.1)]) fun (y0:Int)=>aB (!decide (y0=0)) (R (T.v (.int .i64 y0))) (aJ BAT (lE [T.sl false (List.map aA.enc a0.1)]) fun (y1:Int)=>aB (decide (y1≤0)) (R BA7) (a6 (Int×PUnit) (fun X2 s3=>aB (decide (s3.1<(↑(BBD a0).length:Int))) (aS aA.li (BBD a0) s3.1 fun (y4:List aP)=>aJ BAT (fK [T.sl false (List.map aA.enc y4)]) fun (y5:Int)=>aB (!decide (y5=0)) (R (T.v (.int .i64 y5))) (aJ BAT (lE [T.sl false (List.map aA.enc y4)]) fun (y6:Int)=>aB (decide (0≤y6)) (R BA7) (aJ BAS (oJ [T.sl false (List.map aA.enc y4), T.sl false (List.map aA.enc a0.1)]) fun (y7:Bool)=>aB (!y7) (R BA7) (bS (EF 1 (BBD a0) && (decide (0≤s3.1) && decide (Int.toNat s3.1≤(BBD a0).length)) && true) (a6 (Int×PUnit) (fun X8 s9=>aB (decide (s9.1 < (↑(List.drop 0 (List.take (Int.toNat s3.1) (BBD a0))).length : Int))) (aS aA.li (List.drop 0 (List.take (Int.toNat s3.1) (BBD a0))) s9.1 fun (y10:List aP)=>aJ BAS (rY [T.sl false (List.map aA.enc y4), T.sl false (List.map aA.enc y10)]) fun (y11:Bool)=>aB (!y11) (R BA7) (X8 (IntKind.i64.wrap (s9.1+1),()))) (X2 (IntKind.i64.wrap (s3.1+1),()))) (0,())))))) (R BAU)) (0,()))))
abbrev MD:Sh:=[(true,gO)]
def xT (s:kW):Option T:=some (T.v (Value.int .i64 (wD s)))
noncomputable def iE:List T→Option T:=gS MD xT
theorem W9 {a0}:iE [aH true gO a0]=xT (a0):=bD (s:=MD) rfl (a0) rfl
theorem AL2:rA Tryz.prog 313 iE xT (cB MD) I3:=gF (a1:=(true,gO)) (sp:=xT) (F:=I3) (Hs:=AQI) (f:=313) (k:=8) AAO aT aW (aL rfl) ⟨_,_,Tryz.func313,rfl⟩ rfl fun _ _=>by kernel_rfl
theorem OB:aN Tryz.prog 313 iE:=AL2 fun s r h hb=>by
 cases h
 have is:∀ {n:Int},wD s=n→T.v (.int .i64 n)=T.v (.int .i64 (wD s)):=fun h=>by rw[h]
 unfold I3 BBD BA7 BAU BAT BAS
 refine b6 (fun h=>is (by rw[List.length_map] at h;unfold wD;rw[if_pos (by omega)])) fun h1=>?_
 rw[List.length_map] at h1
 refine aF (s:=[(false,.int .i64)]) (nY s.1) ?_
 refine jB (fun h=>is (by unfold wD;rw[if_neg (by omega),if_pos h])) fun h2=>?_
 refine aF (s:=[(false,.int .i64)]) (vN s.1) ?_
 refine b6 (fun h=>is (by unfold wD;rw[if_neg (by omega),if_neg (by simpa using h2),if_pos h])) fun h3=>?_
 have w:wD s=bY (F7 s) (List.range s.2.length):=by unfold wD;rw[if_neg (by omega),if_neg (by simpa using h2),if_neg h3]
 obtain ⟨ho3,ho32,hoN,_⟩:=sC h2
 refine iR (r:=aA.li) (F7 s) (by show s.2.length≤1000000;omega) (fun X k hk hprev hok hbad=>?_) fun h0=>is (w.trans h0)
 have hk:k<s.2.length:=hk
 have hg:s.2.getD k []=s.2[k]:=by rw[List.getD_eq_getElem?_getD,List.getElem?_eq_getElem hk];rfl
 have bad:∀ {n:Int},n≠0→F7 s k=n→T.v (.int .i64 n)=T.v (.int .i64 (wD s)):=fun hn h=>is (w.trans ((hbad (by rw[h];exact hn)).trans h))
 have hE:F7 s k=if ¬ jR s.2[k]=0 then jR s.2[k] else if 0≤pX s.2[k]∨qS s.2[k] s.1=false then 17 else if ((List.range k).all fun j=>sK s.2[k] (s.2.getD j []))=false then 17 else 0:=by unfold F7;rw[hg]
 show aJ [(false,Sy.int IntKind.i64)] (fK [T.sl false (List.map aA.enc s.2[k])]) _
 refine aF (s:=[(false,.int .i64)]) (nY s.2[k]) ?_
 refine jB (fun h=>bad h (by rw[hE,if_pos h])) fun p1=>?_
 refine aF (s:=[(false,.int .i64)]) (vN s.2[k]) ?_
 refine b6 (fun h=>bad (by decide) (by rw[hE,if_neg (by simpa using p1),if_pos (.inl h)])) fun p2=>?_
 obtain ⟨hp3,hp32,hpN,_⟩:=sC p1
 refine aF (s:=[(false,.bool)]) (R5 (by omega) hpN (by omega) hoN) ?_
 refine fB (fun h=>bad (by decide) (by rw[hE,if_neg (by simpa using p1),if_pos (.inr h)])) fun p3=>?_
 have hE2:F7 s k=if ((List.range k).all fun j=>sK s.2[k] (s.2.getD j []))=false then 17 else 0:=by
  rw[hE,if_neg (by simpa using p1),if_neg]
  rintro (h|h)
  ·exact p2 h
  ·rw[show qS s.2[k] s.1=true from p3] at h;cases h
 refine ⟨by rw[AMA,List.length_map];simp;omega,?_⟩
 have htk:List.drop 0 (List.take (Int.toNat (k:Int)) (List.map aA.li.enc s.2))=List.map aA.li.enc (s.2.take k):=by rw[List.drop_zero,Int.toNat_natCast,List.map_take]
 dsimp only
 rw[htk]
 have ht:(s.2.take k).length=k:=by rw[List.length_take];omega
 refine bG k (fun j s'=>s'=((j:Int),())∧∀ i,i<j→sK s.2[k] (s.2.getD i [])=true) ⟨rfl,fun i h=>by omega⟩ ?_
 rintro Y j s' hj ⟨rfl,hJ⟩ hY
 dsimp only
 refine b6 (fun hlt=>?_) fun hge=>?_
 ·rw[List.length_map,ht] at hlt
  have hlt:j<k:=by omega
  rw[bA (r:=aA.li) (show j<(s.2.take k).length by omega)]
  have hgj:s.2.getD j []=s.2[j]:=by rw[List.getD_eq_getElem?_getD,List.getElem?_eq_getElem (by omega)];rfl
  have hgt:(s.2.take k)[j]'(by omega)=s.2[j]:=by simp
  rw[hgt]
  have hj0:jR s.2[j]=0:=by
   have h0:=hprev j hlt
   unfold F7 at h0
   rw[hgj] at h0
   refine Classical.byContradiction fun hc=>?_
   rw[if_pos hc] at h0
   exact hc h0
  obtain ⟨hq3,hq32,hqN,_⟩:=sC hj0
  refine aF (s:=[(false,.bool)]) (W6 (by omega) (by omega) (by omega) hpN (by omega) hqN) ?_
  refine fB (fun h=>bad (by decide) ?_) fun h=>hY _ hlt ⟨by rw[show IntKind.i64.wrap ((j:Int)+1)=((j+1:Nat):Int) from bB _ (by omega) (by omega)],fun i hi=>by
   rcases Nat.lt_or_ge i j with h3|h3
   ·exact hJ i h3
   ·have:i=j:=by omega
    subst this;rw[hgj];exact h⟩
  rw[hE2,if_pos (Q5 hlt (by rw[hgj];exact h))]
 ·rw[List.length_map,ht] at hge
  have:j=k:=by omega
  subst this
  rw[show IntKind.i64.wrap ((j:Int)+1)=((j+1:Nat):Int) from bB _ (by omega) (by omega)]
  refine hok ?_
  rw[hE2,if_neg]
  rw[oE.2 hJ];simp
theorem F2 (s:kW):iE [aH true gO s]=some (Sh.enc [(false,.int .i64)] (wD s)):=W9 ..
noncomputable def ANP:Env:=Env.of []
def AQJ:FuncId→Hint:=fun _=>aX
theorem AAP:aR Tryz.prog ANP:=.nil _
def BBE(a0:kW):List (List T):=List.map aA.li.enc a0.2
def I4(a0:kW)(R:T→Prop):Prop:=aB (BBE a0).isEmpty (R (T.sl false [[T.sl false (List.map aA.enc a0.1)]])) (bS (gC 1 (BBE a0) && decide ((1+(BBE a0).length)*24≤140737488355328) && decide (1+(BBE a0).length≤140737488355328)) (R (T.sl false ([T.sl false (List.map aA.enc a0.1)] :: (BBE a0)))))
abbrev ME:Sh:=[(true,gO)]
abbrev AVE:Sh:=[(false,aA.li.li)]
def oN (s:kW):Option T:=match decide (s.2.length≤1000) with
 | true=>some (Sh.enc AVE (s.1::s.2))
 | false=>none
noncomputable def vR:List T→Option T:=gS ME oN
theorem XA {a0}:vR [aH true gO a0]=oN (a0):=bD (s:=ME) rfl (a0) rfl
theorem AL3:rA Tryz.prog 352 vR oN (cB ME) I4:=gF (a1:=(true,gO)) (sp:=oN) (F:=I4) (Hs:=AQJ) (f:=352) (k:=8) AAP aT aW (aL rfl) ⟨_,_,Tryz.func352,rfl⟩ rfl fun _ _=>by kernel_rfl
theorem AKD:aN Tryz.prog 352 vR:=AL3 fun s r h hb=>by
 unfold oN at h
 split at h
 ·rename_i hc
  have hc:s.2.length≤1000:=of_decide_eq_true hc
  cases h
  obtain ⟨o,hs⟩:=s
  unfold I4 BBE
  cases hs with
  | nil=>exact (rfl:T.sl false [[T.sl false (List.map aA.enc o)]]=_)
  | cons a l =>
   show bS _ _
   refine ⟨?_,rfl⟩
   simp only[Bool.and_eq_true,decide_eq_true_eq,List.length_map]
   have hc:(a::l).length≤1000:=hc
   exact ⟨⟨uR (.li aA) (a::l),by omega⟩,by omega⟩
 ·cases h
def A9K (l:List (List Pt)):Int:=x9 l.length fun i=>pX (l.getD i [])
def YZ (s:kW):Int:=if wD s=0 then A9K (s.1::s.2) else 0
theorem VC (p:List Pt):-68719476736≤pX p∧pX p≤68719476736:=by
 unfold pX
 by_cases h:jR p=0
 ·rw[if_pos h]
  obtain ⟨_,h2,h3,_⟩:=sC h
  have:=HL h3 p.length
  unfold JH
  omega
 ·rw[if_neg h];omega
theorem AG6 (l:List (List Pt)):∀ n:Nat,-(68719476736*(n:Int))≤x9 n (fun i=>pX (l.getD i []))∧x9 n (fun i=>pX (l.getD i []))≤68719476736*(n:Int)
 | 0=>by simp[x9]
 | n+1=>by
  have ih:=AG6 l n
  have hb:=VC (l.getD n [])
  unfold x9
  constructor<;>push_cast<;>omega
noncomputable def ANN:Env:=Env.of [(313,.pure iE),(352,.pure vR),(342,.pure lE)]
def AQH:FuncId→Hint:=bV 318 [(5,.inv [.val 3 false (.int .i64),.val 12 false (.int .i64)])] (fun _=>aX)
theorem AAN:aR Tryz.prog ANN:=.cons OB (.cons AKD (.cons N9 (.nil _)))
def I2(a0:kW)(R:T→Prop):Prop:=aJ BAT (iE [aH true gO a0]) fun (y0:Int)=>aB (!decide (y0=0)) (R BAU) (aJ [(false,aA.li.li)] (vR [aH true gO a0]) fun (y1:List (List aP))=>a6 (Int×Int×PUnit) (fun X2 s3=>aB (decide (s3.2.1<(↑(List.map aA.li.enc y1).length:Int))) (aS aA.li (List.map aA.li.enc y1) s3.2.1 fun (y4:List aP)=>aJ BAT (lE [T.sl false (List.map aA.enc y4)]) fun (y5:Int)=>X2 (IntKind.i64.wrap (s3.1+y5),IntKind.i64.wrap (s3.2.1+1),())) (R (T.v (.int .i64 s3.1)))) (0,0,()))
abbrev MC:Sh:=[(true,gO)]
def xS (s:kW):Option T:=some (T.v (Value.int .i64 (YZ s)))
noncomputable def rZ:List T→Option T:=gS MC xS
theorem W7 {a0}:rZ [aH true gO a0]=xS (a0):=bD (s:=MC) rfl (a0) rfl
theorem AL1:rA Tryz.prog 318 rZ xS (cB MC) I2:=gF (a1:=(true,gO)) (sp:=xS) (F:=I2) (Hs:=AQH) (f:=318) (k:=8) AAN aT aW (aL rfl) ⟨_,_,Tryz.func318,rfl⟩ rfl fun _ _=>by kernel_rfl
theorem AKC:aN Tryz.prog 318 rZ:=AL1 fun s r h hb=>by
 cases h
 have is:∀ {n:Int},YZ s=n→T.v (.int .i64 n)=T.v (.int .i64 (YZ s)):=fun h=>by rw[h]
 unfold I2 BAU BAT
 refine aF (s:=[(false,.int .i64)]) (F2 s) ?_
 refine jB (fun h=>is (by unfold YZ;rw[if_neg h])) fun h=>?_
 have h8:s.2.length≤8:=by
  refine Classical.byContradiction fun hc=>?_
  unfold wD at h
  rw[if_pos (by omega)] at h;cases h
 refine aF (s:=[(false,.li (.li aA))]) (y:=(s.1::s.2:List (List aP))) ((XA ..).trans (by unfold oN;rw[decide_eq_true (by omega)])) ?_
 have w:YZ s=A9K (s.1::s.2):=by unfold YZ;rw[if_pos h]
 have hlen:(s.1::s.2).length≤9:=by simp;omega
 generalize s.1::s.2=l at w hlen
 refine bG l.length (fun k t=>t=(x9 k (fun i=>pX (l.getD i [])),(k:Int),())) rfl ?_
 rintro X k t hk rfl hX
 dsimp only
 refine b6 (fun hlt=>?_) fun hge=>is (by rw[List.length_map] at hge;rw[w,show k=l.length by omega];rfl)
 rw[List.length_map] at hlt
 have hlt:k<l.length:=by omega
 rw[bA (r:=aA.li) hlt]
 have hg:l.getD k []=l[k]:=by rw[List.getD_eq_getElem?_getD,List.getElem?_eq_getElem hlt];rfl
 refine aF (s:=[(false,.int .i64)]) (vN l[k]) ?_
 refine hX _ hlt ?_
 have b1:=AG6 l k
 have b2:=VC l[k]
 rw[show IntKind.i64.wrap ((k:Int)+1)=((k+1:Nat):Int) from bB _ (by omega) (by omega),bB _ (by omega) (by omega),x9,hg]
theorem W8 (s:kW):rZ [aH true gO s]=some (Sh.enc [(false,.int .i64)] (YZ s)):=W7 ..
end Go.Pv
namespace Go.Pv
open Go Go.Proofs
noncomputable def AH3:Env:=Env.of []
def AI4:FuncId→Hint:=bV 345 [(2,.FH 4)] (fun _=>aX)
theorem UK:aR Tryz.prog AH3:=.nil _
def C9(a0:AI5)(a1:Int)(R:T→Prop):Prop:=aB (decide (a0.1<IntKind.i64.wrap (0-a1))) (R BAQ) (aB (decide (a1<a0.1)) (R BAQ) (aB (decide (a0.2.1<IntKind.i64.wrap (0-a1))) (R BAQ) (aB (decide (a1<a0.2.1)) (R BAQ) (aB (decide (a0.2.2<IntKind.i64.wrap (0-a1))) (R BAQ) (aB (decide (a1<a0.2.2)) (R BAQ) (R BAW))))))
abbrev EZ:Sh:=[(true,AMS),(false,(Sy.int IntKind.i64))]
def yS (v:AI5):Bool:=decide (-524288≤v.1)&&decide (v.1≤524288)&&(decide (-524288≤v.2.1)&&decide (v.2.1≤524288))&&(decide (-524288≤v.2.2)&&decide (v.2.2≤524288))
def pF (x:AI5×Int):Option T:=match decide (x.2=524288) with
 | true=>some (T.v (.bool (yS x.1)))
 | false=>none
noncomputable def r5:List T→Option T:=gS EZ pF
theorem R9 {a0 a1}:r5 [aH true AMS a0,T.v (.int .i64 a1)]=pF (a0,a1):=bD (s:=EZ) rfl (a0,a1) rfl
theorem AD7:uH Tryz.prog 345 r5 pF (cB EZ) C9:=iK (a1:=(true,AMS)) (a2:=(false,(Sy.int IntKind.i64))) (sp:=pF) (F:=C9) (Hs:=AI4) (f:=345) (k:=8) UK aT aW (aL rfl) ⟨_,_,Tryz.func345,rfl⟩ rfl fun _ _ _=>by kernel_rfl
theorem ACV:aN Tryz.prog 345 r5:=AD7 fun v n r h hb=>by
 unfold pF at h
 split at h
 ·rename_i hn
  have hn:n=524288:=of_decide_eq_true hn
  subst hn
  cases h
  unfold C9 BAW BAQ
  rw[show IntKind.i64.wrap (0-524288) = -524288 from rfl]
  have no:∀ {P:Prop},(¬ (-524288≤v.1∧v.1≤524288∧-524288≤v.2.1∧v.2.1≤524288∧-524288≤v.2.2∧v.2.2≤524288))→T.v (.bool false)=T.v (.bool (yS v)):=fun h=>fS (Eq.symm (by
   rw[Bool.eq_false_iff];intro h2;simp only[yS,Bool.and_eq_true,decide_eq_true_eq] at h2;omega))
  refine b6 (fun h=>no (P:=True) (by omega)) fun h1=>b6 (fun h=>no (P:=True) (by omega)) fun h2=>b6 (fun h=>no (P:=True) (by omega)) fun h3=>b6 (fun h=>no (P:=True) (by omega)) fun h4=>b6 (fun h=>no (P:=True) (by omega)) fun h5=>b6 (fun h=>no (P:=True) (by omega)) fun h6=>fS ?_
  simp only[yS]
  rw[decide_eq_true (by omega),decide_eq_true (by omega),decide_eq_true (by omega),decide_eq_true (by omega),decide_eq_true (by omega),decide_eq_true (by omega)];rfl
 ·cases h
def ADV (t:Int):Int:=if t<0∨24≤t then 0 else t
noncomputable def AH2:Env:=Env.of []
def AI3:FuncId→Hint:=fun _=>aX
theorem UJ:aR Tryz.prog AH2:=.nil _
def C8(a0:Int)(R:T→Prop):Prop:=aB (decide (a0<0)) (R BAU) (aB (decide (24≤a0)) (R BAU) (R (T.v (.int .i64 a0))))
abbrev EY:Sh:=[(false,(Sy.int IntKind.i64))]
def tV (t:Int):Option T:=some (T.v (Value.int .i64 (ADV t)))
noncomputable def r4:List T→Option T:=gS EY tV
theorem R8 {a0}:r4 [T.v (.int .i64 a0)]=tV (a0):=bD (s:=EY) rfl (a0) rfl
theorem AD6:rA Tryz.prog 346 r4 tV (cB EY) C8:=gF (a1:=(false,(Sy.int IntKind.i64))) (sp:=tV) (F:=C8) (Hs:=AI3) (f:=346) (k:=8) UJ aT aW (aL rfl) ⟨_,_,Tryz.func346,rfl⟩ rfl fun _ _=>by kernel_rfl
theorem ACU:aN Tryz.prog 346 r4:=AD6 fun t r h hb=>by
 cases h
 unfold C8 BAU
 exact b6 (fun h=>GP (by unfold ADV;rw[if_pos (.inl h)])) fun h1=>b6 (fun h=>GP (by unfold ADV;rw[if_pos (.inr h)])) fun h2=>GP (by unfold ADV;rw[if_neg (by omega)])
def q7 (p:zD):Bool:=yS p.1&&decide (p.2=ADV p.2)
noncomputable def ANY:Env:=Env.of [(345,.pure r5),(346,.pure r4)]
def AQO:FuncId→Hint:=fun _=>aX
theorem AAV:aR Tryz.prog ANY:=.cons ACV (.cons ACU (.nil _))
def JA(a0:zD)(R:T→Prop):Prop:=aJ BAS (r5 [aH true AMS a0.1,T.v (.int .i64 524288)]) fun (y0:Bool)=>aB y0 (aJ BAT (r4 [T.v (.int .i64 a0.2)]) fun (y1:Int)=>R (T.v (.bool (decide (a0.2=y1))))) (R BAQ)
abbrev MI:Sh:=[(true,eC)]
def xX (p:zD):Option T:=some (T.v (.bool (q7 p)))
noncomputable def cF:List T→Option T:=gS MI xX
theorem F6 {a0}:cF [aH true eC a0]=xX (a0):=bD (s:=MI) rfl (a0) rfl
theorem AL9:rA Tryz.prog 315 cF xX (cB MI) JA:=gF (a1:=(true,eC)) (sp:=xX) (F:=JA) (Hs:=AQO) (f:=315) (k:=8) AAV aT aW (aL rfl) ⟨_,_,Tryz.func315,rfl⟩ rfl fun _ _=>by kernel_rfl
theorem AKH:aN Tryz.prog 315 cF:=AL9 fun p r h hb=>by
 cases h
 unfold JA BAT BAS BAQ
 refine aF (s:=[(false,.bool)]) (y:=yS p.1) (R9 ..) ?_
 refine sZ (fun h=>?_) fun h=>fS (by unfold q7;rw[h];rfl)
 refine aF (s:=[(false,.int .i64)]) (y:=ADV p.2) (R8 ..) ?_
 exact fS (by unfold q7;rw[h];rfl)
def nM (l:List Int) (i:Nat):Int:=if ¬ (1≤l.getD i 0∧l.getD i 0≤120) then 9 else if 0<i∧l.getD i 0≤l.getD (i-1) 0 then 11 else 0
def eP (g:dA):Int:=if isName g.1=false then 6 else if ¬ (1000≤g.2.1∧g.2.1≤20000∧100≤g.2.2.1∧g.2.2.1≤1500) then 9 else if g.2.2.2.length=0 then 3 else if 16<g.2.2.2.length then 4 else bY (nM g.2.2.2) (List.range g.2.2.2.length)
def tL (s:cD):Int:=if isName s.1=false then 6 else if ¬ (1≤s.2.1∧s.2.1≤1000000∧1≤s.2.2.1∧s.2.2.1≤2000∧100≤s.2.2.2∧s.2.2.2≤32768) then 9 else 0
theorem F8 (s:ByteArray) (K:Bool→Prop):aJ [(false,Sy.bool)] (gI [T.v (.string s)]) K=K (isName s):=by
 rw[show gI [T.v (.string s)]=sH s from vI]
 exact NO _ K
noncomputable def ANE:Env:=Env.of [(85,.pure gI)]
def AP9:FuncId→Hint:=bV 238 [(10,.inv [.val 34 false (.int .i64)])] (fun _=>aX)
theorem AAF:aR Tryz.prog ANE:=.cons wT (.nil _)
def BBF(a0:dA):List (List T):=List.map BAV.enc a0.2.2.2
def IU(a0:dA)(R:T→Prop):Prop:=aJ BAS (gI [T.v (.string a0.1)]) fun (y0:Bool)=>aB (!y0) (R BA0) (aB (decide (1000≤a0.2.1)) (aB (!decide (a0.2.1≤20000)) (R BAR) (aB (decide (100≤a0.2.2.1)) (aB (!decide (a0.2.2.1≤1500)) (R BAR) (aB (decide ((↑(BBF a0).length:Int)=0)) (R (T.v (.int .i64 3))) (aB (decide (16<(↑(BBF a0).length:Int))) (R BAZ) (a6 (Int×PUnit) (fun X1 s2=>aB (decide (s2.1<(↑(BBF a0).length:Int))) (aS BAV (BBF a0) s2.1 fun (y3:Int)=>aB (decide (1≤y3)) (aB (!decide (y3≤120)) (R BAR) (aB (decide (0<s2.1)) (aS BAV (BBF a0) (IntKind.i64.wrap (s2.1-1)) fun (y4:Int)=>aB (decide (y3≤y4)) (R BAY) (X1 (IntKind.i64.wrap (s2.1+1),()))) (X1 (IntKind.i64.wrap (s2.1+1),())))) (R BAR)) (R BAU)) (0,()))))) (R BAR))) (R BAR))
abbrev L3:Sh:=[(true,bT)]
def xL (g:dA):Option T:=some (T.v (Value.int .i64 (eP g)))
noncomputable def vM:List T→Option T:=gS L3 xL
theorem WV {a0}:vM [aH true bT a0]=xL (a0):=bD (s:=L3) rfl (a0) rfl
theorem ALT:rA Tryz.prog 238 vM xL (cB L3) IU:=gF (a1:=(true,bT)) (sp:=xL) (F:=IU) (Hs:=AP9) (f:=238) (k:=8) AAF aT aW (aL rfl) ⟨_,_,Tryz.func238,rfl⟩ rfl fun _ _=>by kernel_rfl
theorem jI {α:Type} {l:List α} {i:Nat} {d:α} (h:i<l.length):l.getD i d=l[i]:=by rw[List.getD_eq_getElem?_getD,List.getElem?_eq_getElem h];rfl
theorem w8 {r:Sy} {l:List r.den} {k:Nat} (hk:k<l.length) (h0:0<k) (hl:l.length≤1000000) (K:r.den→Prop):aS r (List.map r.enc l) (IntKind.i64.wrap ((k:Int)-1)) K=K (l[k-1]'(by omega)):=by
 rw[show IntKind.i64.wrap ((k:Int)-1)=((k-1:Nat):Int) by rw[bB _ (by omega) (by omega)];omega]
 exact bA (by omega) K
theorem v7 {k:Nat} (h:k<1000000):IntKind.i64.wrap ((k:Int)+1)=((k+1:Nat):Int):=bB _ (by omega) (by omega)
theorem AJ7:aN Tryz.prog 238 vM:=ALT fun g r h hb=>by
 cases h
 have is:∀ {n:Int},eP g=n→T.v (.int .i64 n)=T.v (.int .i64 (eP g)):=fun h=>by rw[h]
 unfold IU BBF BA0 BAZ BAY BAV BAU BAS BAR
 rw[F8]
 refine fB (fun h=>is (by unfold eP;rw[if_pos h])) fun hn=>?_
 have hn':¬ isName g.1=false:=by rw[hn];simp
 have r9:¬ (1000≤g.2.1∧g.2.1≤20000∧100≤g.2.2.1∧g.2.2.1≤1500)→T.v (.int .i64 9)=T.v (.int .i64 (eP g)):=fun h=>is (by unfold eP;rw[if_neg hn',if_pos h])
 refine b6 (fun h1=>jB (fun h=>r9 (by omega)) fun h2=>b6 (fun h3=>jB (fun h=>r9 (by omega)) fun h4=>?_) fun h=>r9 (by omega)) fun h=>r9 (by omega)
 have hr:¬ ¬ (1000≤g.2.1∧g.2.1≤20000∧100≤g.2.2.1∧g.2.2.1≤1500):=by omega
 refine b6 (fun h=>is (by rw[List.length_map] at h;unfold eP;rw[if_neg hn',if_neg hr,if_pos (by omega)])) fun h5=>?_
 refine b6 (fun h=>is (by rw[List.length_map] at h h5;unfold eP;rw[if_neg hn',if_neg hr,if_neg (by omega),if_pos (by omega)])) fun h6=>?_
 rw[List.length_map] at h5 h6
 have w:eP g=bY (nM g.2.2.2) (List.range g.2.2.2.length):=by unfold eP;rw[if_neg hn',if_neg hr,if_neg (by omega),if_neg (by omega)]
 refine iR (r:=.int .i64) (nM g.2.2.2) (by omega) (fun X k hk hprev hok hbad=>?_) fun h0=>is (w.trans h0)
 have hk:k<g.2.2.2.length:=hk
 have bad:∀ {n:Int},n≠0→nM g.2.2.2 k=n→T.v (.int .i64 n)=T.v (.int .i64 (eP g)):=fun hn h=>is (w.trans ((hbad (by rw[h];exact hn)).trans h))
 have hE:nM g.2.2.2 k=if ¬ (1≤g.2.2.2[k]∧g.2.2.2[k]≤120) then 9 else if 0<k∧g.2.2.2[k]≤g.2.2.2.getD (k-1) 0 then 11 else 0:=by unfold nM;rw[jI hk]
 dsimp only
 rw[v7 (by omega)]
 refine b6 (fun p1=>jB (fun h=>bad (by decide) (by rw[hE,if_pos (by omega)])) fun p2=>?_) fun h=>bad (by decide) (by rw[hE,if_pos (by omega)])
 refine b6 (fun p3=>?_) fun p3=>hok (by rw[hE,if_neg (by omega),if_neg (by omega)])
 have k0:0<k:=by omega
 rw[w8 (r:=.int .i64) hk k0 (by omega)]
 have hg1:g.2.2.2.getD (k-1) 0=g.2.2.2[k-1]'(by omega):=jI (by omega)
 exact b6 (fun h=>bad (by decide) (by rw[hE,if_neg (by omega),hg1,if_pos ⟨k0,h⟩])) fun h=>hok (by rw[hE,if_neg (by omega),hg1,if_neg (fun hc=>h hc.2)])
noncomputable def ZZ:Env:=Env.of [(85,.pure gI)]
def ABM:FuncId→Hint:=fun _=>aX
theorem QH:aR Tryz.prog ZZ:=.cons wT (.nil _)
def zB(a0:cD)(R:T→Prop):Prop:=aJ BAS (gI [T.v (.string a0.1)]) fun (y0:Bool)=>aB (!y0) (R BA0) (aB (decide (1≤a0.2.1)) (aB (!decide (a0.2.1≤1000000)) (R BAR) (aB (decide (1≤a0.2.2.1)) (aB (!decide (a0.2.2.1≤2000)) (R BAR) (aB (decide (100≤a0.2.2.2)) (aB (!decide (a0.2.2.2≤32768)) (R BAR) (R BAU)) (R BAR))) (R BAR))) (R BAR))
abbrev AE:Sh:=[(true,bM)]
def qN (s:cD):Option T:=some (T.v (Value.int .i64 (tL s)))
noncomputable def oZ:List T→Option T:=gS AE qN
theorem NG {a0}:oZ [aH true bM a0]=qN (a0):=bD (s:=AE) rfl (a0) rfl
theorem YK:rA Tryz.prog 239 oZ qN (cB AE) zB:=gF (a1:=(true,bM)) (sp:=qN) (F:=zB) (Hs:=ABM) (f:=239) (k:=8) QH aT aW (aL rfl) ⟨_,_,Tryz.func239,rfl⟩ rfl fun _ _=>by kernel_rfl
theorem V5:aN Tryz.prog 239 oZ:=YK fun s r h hb=>by
 cases h
 have is:∀ {n:Int},tL s=n→T.v (.int .i64 n)=T.v (.int .i64 (tL s)):=fun h=>by rw[h]
 unfold zB BA0 BAU BAS BAR
 rw[F8]
 refine fB (fun h=>is (by unfold tL;rw[if_pos h])) fun hn=>?_
 have hn':¬ isName s.1=false:=by rw[hn];simp
 have r9:¬ (1≤s.2.1∧s.2.1≤1000000∧1≤s.2.2.1∧s.2.2.1≤2000∧100≤s.2.2.2∧s.2.2.2≤32768)→T.v (.int .i64 9)=T.v (.int .i64 (tL s)):=fun h=>is (by unfold tL;rw[if_neg hn',if_pos h])
 refine b6 (fun h1=>jB (fun h=>r9 (by omega)) fun h2=>b6 (fun h3=>jB (fun h=>r9 (by omega)) fun h4=>b6 (fun h5=>jB (fun h=>r9 (by omega)) fun h6=>is ?_) fun h=>r9 (by omega)) fun h=>r9 (by omega)) fun h=>r9 (by omega)
 unfold tL;rw[if_neg hn',if_neg (by omega)]
def gX:dA:=(⟨#[]⟩,0,0,[])
def yO (a b:ByteArray):Bool:=cE a b||decide (a=b)
def iU (m:aI) (i:Nat):Int:=if ¬ eP (m.1.getD i gX)=0 then eP (m.1.getD i gX) else if 0<i∧yO (m.1.getD i gX).1 (m.1.getD (i-1) gX).1=true then 11 else 0
def MM (m:aI) (i:Nat):Int:=if ¬ tL (m.2.getD i uB)=0 then tL (m.2.getD i uB) else if 0<i∧yO (m.2.getD i uB).1 (m.2.getD (i-1) uB).1=true then 11 else 0
def kT (m:aI):Int:=if 16<m.1.length∨32<m.2.length then 4 else if ¬ bY (iU m) (List.range m.1.length)=0 then bY (iU m) (List.range m.1.length) else bY (MM m) (List.range m.2.length)
noncomputable def ANB:Env:=Env.of [(238,.pure vM),(239,.pure oZ)]
def AP7:FuncId→Hint:=bV 84 [(4,.inv [.val 22 false (.int .i64)]),(13,.inv [.val 50 false (.int .i64)])] (fun _=>aX)
theorem AAD:aR Tryz.prog ANB:=.cons AJ7 (.cons V5 (.nil _))
def IS(a0:aI)(R:T→Prop):Prop:=aB (decide (16<(↑(List.map bT.enc a0.1).length:Int))) (R BAZ) (aB (decide (32<(↑(List.map bM.enc a0.2).length:Int))) (R BAZ) (a6 (Int×PUnit) (fun X0 s1=>aB (decide (s1.1<(↑(List.map bT.enc a0.1).length:Int))) (aS bT (List.map bT.enc a0.1) s1.1 fun (y2:dA)=>aJ BAT (vM [aH true bT y2]) fun (y3:Int)=>aB (!decide (y3=0)) (R (T.v (.int .i64 y3))) (aB (decide (0<s1.1)) (aS bT (List.map bT.enc a0.1) (IntKind.i64.wrap (s1.1-1)) fun (y4:dA)=>aB (cE y2.1 y4.1||decide (y2.1=y4.1)) (R BAY) (X0 (IntKind.i64.wrap (s1.1+1),()))) (X0 (IntKind.i64.wrap (s1.1+1),())))) (a6 (Int×PUnit) (fun X5 s6=>aB (decide (s6.1<(↑(List.map bM.enc a0.2).length:Int))) (aS bM (List.map bM.enc a0.2) s6.1 fun (y7:cD)=>aJ BAT (oZ [aH true bM y7]) fun (y8:Int)=>aB (!decide (y8=0)) (R (T.v (.int .i64 y8))) (aB (decide (0<s6.1)) (aS bM (List.map bM.enc a0.2) (IntKind.i64.wrap (s6.1-1)) fun (y9:cD)=>aB (cE y7.1 y9.1||decide (y7.1=y9.1)) (R BAY) (X5 (IntKind.i64.wrap (s6.1+1),()))) (X5 (IntKind.i64.wrap (s6.1+1),())))) (R BAU)) (0,()))) (0,())))
abbrev L1:Sh:=[(true,aK)]
def xJ (m:aI):Option T:=some (T.v (Value.int .i64 (kT m)))
noncomputable def vK:List T→Option T:=gS L1 xJ
theorem WT {a0}:vK [aH true aK a0]=xJ (a0):=bD (s:=L1) rfl (a0) rfl
theorem ALR:rA Tryz.prog 84 vK xJ (cB L1) IS:=gF (a1:=(true,aK)) (sp:=xJ) (F:=IS) (Hs:=AP7) (f:=84) (k:=8) AAD aT aW (aL rfl) ⟨_,_,Tryz.func84,rfl⟩ rfl fun _ _=>by kernel_rfl
theorem AJ5:aN Tryz.prog 84 vK:=ALR fun m r h hb=>by
 cases h
 have is:∀ {n:Int},kT m=n→T.v (.int .i64 n)=T.v (.int .i64 (kT m)):=fun h=>by rw[h]
 unfold IS BAZ BAY BAU BAT
 refine b6 (fun h=>is (by rw[List.length_map] at h;unfold kT;rw[if_pos (by omega)])) fun h1=>?_
 refine b6 (fun h=>is (by rw[List.length_map] at h;unfold kT;rw[if_pos (by omega)])) fun h2=>?_
 rw[List.length_map] at h1 h2
 refine iR (r:=bT) (iU m) (by show m.1.length≤1000000;omega) (fun X k hk hprev hok hbad=>?_) fun h0=>?_
 ·have hk:k<m.1.length:=hk
  have bad:∀ {n:Int},n≠0→iU m k=n→T.v (.int .i64 n)=T.v (.int .i64 (kT m)):=fun hn h=>is (by
   have hb:=(hbad (by rw[h];exact hn)).trans h
   unfold kT;rw[if_neg (by omega),if_pos (by rw[hb];exact hn),hb])
  have hE:iU m k=if ¬ eP m.1[k]=0 then eP m.1[k] else if 0<k∧yO m.1[k].1 (m.1.getD (k-1) gX).1=true then 11 else 0:=by unfold iU;rw[jI hk]
  dsimp only
  rw[v7 (by omega)]
  refine aF (s:=[(false,.int .i64)]) (y:=eP m.1[k]) (WV ..) ?_
  refine jB (fun h=>bad h (by rw[hE,if_pos h])) fun p1=>?_
  refine b6 (fun p3=>?_) fun p3=>hok (by rw[hE,if_neg (fun h=>h p1),if_neg (by omega)])
  have k0:0<k:=by omega
  rw[w8 (r:=bT) hk k0 (by show m.1.length≤1000000;omega)]
  have hg1:m.1.getD (k-1) gX=m.1[k-1]'(by omega):=jI (by omega)
  exact sZ (fun h=>bad (by decide) (by rw[hE,if_neg (fun h=>h p1),hg1,if_pos ⟨k0,h⟩])) fun h=>hok (by rw[hE,if_neg (fun h=>h p1),hg1,if_neg (fun hc=>by rw[show yO m.1[k].1 (m.1[k-1]'(by omega)).1=false from h] at hc;cases hc.2)])
 ·have w:kT m=bY (MM m) (List.range m.2.length):=by unfold kT;rw[if_neg (by omega),if_neg (fun h=>h h0)]
  refine iR (r:=bM) (MM m) (by show m.2.length≤1000000;omega) (fun X k hk hprev hok hbad=>?_) fun h0=>is (w.trans h0)
  have hk:k<m.2.length:=hk
  have bad:∀ {n:Int},n≠0→MM m k=n→T.v (.int .i64 n)=T.v (.int .i64 (kT m)):=fun hn h=>is (w.trans ((hbad (by rw[h];exact hn)).trans h))
  have hE:MM m k=if ¬ tL m.2[k]=0 then tL m.2[k] else if 0<k∧yO m.2[k].1 (m.2.getD (k-1) uB).1=true then 11 else 0:=by unfold MM;rw[jI hk]
  dsimp only
  rw[v7 (by omega)]
  refine aF (s:=[(false,.int .i64)]) (y:=tL m.2[k]) (NG ..) ?_
  refine jB (fun h=>bad h (by rw[hE,if_pos h])) fun p1=>?_
  refine b6 (fun p3=>?_) fun p3=>hok (by rw[hE,if_neg (fun h=>h p1),if_neg (by omega)])
  have k0:0<k:=by omega
  rw[w8 (r:=bM) hk k0 (by show m.2.length≤1000000;omega)]
  have hg1:m.2.getD (k-1) uB=m.2[k-1]'(by omega):=jI (by omega)
  exact sZ (fun h=>bad (by decide) (by rw[hE,if_neg (fun h=>h p1),hg1,if_pos ⟨k0,h⟩])) fun h=>hok (by rw[hE,if_neg (fun h=>h p1),hg1,if_neg (fun hc=>by rw[show yO m.2[k].1 (m.2[k-1]'(by omega)).1=false from h] at hc;cases hc.2)])
def fD (m:aI) (n:ByteArray):Option dA:=m.1.find? fun g=>decide (g.1=n)
def ZG (m:aI):Bool:=decide (m.1.length≤1000)&&decide (m.2.length≤1000)&&m.1.all fun g=>decide (g.2.2.2.length≤1000)
def B3 {α:Type} (m:aI) (r:α):Option α:=match ZG m with
 | true=>some r
 | false=>none
theorem v8 {α:Type} {m:aI} {t r:α} (h:B3 m t=some r):ZG m=true∧r=t:=by
 unfold B3 at h;split at h
 ·rename_i hc;cases h;exact ⟨hc,rfl⟩
 ·cases h
theorem wA {α:Type} {m:aI} (t:α) (h:ZG m=true):B3 m t=some t:=by unfold B3;rw[h]
theorem AJH:P9 Tryz.prog 349 1 8:=⟨fun R=>by kernel_rfl,fun fl R=>by kernel_rfl,fun fl a rows R=>by kernel_rfl⟩
noncomputable def BE:List T→Option T:=gS [(false,.li (.int .i64))] (eB (.int .i64) 8)
theorem WI {u0}:BE [T.sl false (List.map (Sy.enc (.int .i64)) u0)]=eB (.int .i64) 8 u0:=bD (s:=[(false,.li (.int .i64))]) rfl u0 rfl
theorem AJZ:aN Tryz.prog 349 BE:=DI aT aW ⟨_,_,Tryz.func349,rfl⟩ AJH
noncomputable def ANA:Env:=Env.of [(349,.pure BE)]
def AP6:FuncId→Hint:=bV 347 [(2,.inv [.val 8 false (.int .i64)])] (fun _=>aX)
theorem AAC:aR Tryz.prog ANA:=.cons AJZ (.nil _)
def IQ(a0:aI)(a1:ByteArray)(R:T→Prop):Prop:=a6 (Int×PUnit) (fun X0 s1=>aB (decide (s1.1<(↑(List.map bT.enc a0.1).length:Int))) (aS bT (List.map bT.enc a0.1) s1.1 fun (y2:dA)=>aB (decide (y2.1=a1)) (aB (decide (s1.1<0)) (R (T.cC BA4)) (aS bT (List.map bT.enc a0.1) s1.1 fun (y3:dA)=>aJ [(false,BAV.li)] (BE [T.sl false (List.map BAV.enc y3.2.2.2)]) fun (y4:List Int)=>R (T.cC [T.agg [T.v (.string y3.1),T.v (.int .i64 y3.2.1), T.v (.int .i64 y3.2.2.1), T.sl false (List.map BAV.enc y4)], T.v (.bool true)]))) (X0 (IntKind.i64.wrap (s1.1+1),()))) (R (T.cC BA4))) (0,())
abbrev L0:Sh:=[(true,aK),(false,Sy.str)]
def xI (x:aI×ByteArray):Option T:=B3 x.1 (Sh.enc [(true,bT),(false,.bool)] (found gX (fD x.1 x.2)))
noncomputable def e9:List T→Option T:=gS L0 xI
theorem WS {a0 a1}:e9 [aH true aK a0,T.v (.string a1)]=xI (a0,a1):=bD (s:=L0) rfl (a0,a1) rfl
theorem ALQ:uH Tryz.prog 316 e9 xI (cB L0) IQ:=iK (a1:=(true,aK)) (a2:=(false,Sy.str)) (sp:=xI) (F:=IQ) (Hs:=AP6) (f:=316) (k:=8) AAC aT aW (aL rfl) ⟨_,_,Tryz.func316,rfl⟩ rfl fun _ _ _=>by kernel_rfl
theorem DR:aN Tryz.prog 316 e9:=ALQ fun m n r h hb=>by
 obtain ⟨hok,rfl⟩:=v8 h
 clear h
 simp only[ZG,Bool.and_eq_true,decide_eq_true_eq] at hok
 unfold IQ BA4 BAV
 refine bG m.1.length (fun k s=>s=((k:Int),())∧(m.1.drop k).find? (fun s=>decide (s.1=n))=fD m n) ⟨rfl,rfl⟩ ?_
 rintro X k s hk ⟨rfl,hf⟩ hX
 dsimp only
 refine b6 (fun hlt=>?_) fun hge=>?_
 ·rw[List.length_map] at hlt
  have hlt:k<m.1.length:=by omega
  rw[oH hlt] at hf
  rw[bA (r:=bT) hlt]
  refine b6 (fun hc=>?_) fun hc=>?_
  ·rw[if_pos (decide_eq_true hc)] at hf
   refine b6 (fun h=>by omega) fun _=>?_
   rw[bA (r:=bT) hlt]
   have hg:m.1[k].2.2.2.length≤1000:=by
    have:=List.all_eq_true.1 hok.2 _ (List.getElem_mem hlt)
    exact of_decide_eq_true this
   refine aF (s:=[(false,.li (.int .i64))]) (y:=m.1[k].2.2.2) ?_ ?_
   ·rw[WI]
    unfold eB oC
    rw[show (decide (m.1[k].2.2.2.length*8≤140737488355328)&&decide (m.1[k].2.2.2.length≤140737488355328))=true by simp only[Bool.and_eq_true,decide_eq_true_eq];omega]
    rfl
   ·show _=Sh.enc [(true,bT),(false,.bool)] (found gX (fD m n))
    rw[←hf];rfl
  ·rw[if_neg (by simpa using hc)] at hf
   exact hX _ hlt ⟨by rw[v7 (by omega)],hf⟩
 ·rw[List.length_map] at hge
  have:k=m.1.length:=by omega
  subst this
  rw[List.drop_length] at hf
  show _=Sh.enc [(true,bT),(false,.bool)] (found gX (fD m n))
  rw[←hf];rfl
def tI (m:aI) (n:ByteArray) (t:Int):Bool:=match fD m n with
 | some g=>g.2.2.2.any fun x=>decide (t=x)
 | none=>false
noncomputable def AHV:Env:=Env.of [(316,.pure e9)]
def AIW:FuncId→Hint:=bV 388 [(2,.inv [.val 8 false (.int .i64)])] (fun _=>aX)
theorem UC:aR Tryz.prog AHV:=.cons DR (.nil _)
def C1(a0:aI)(a1:ByteArray)(a2:Int)(R:T→Prop):Prop:=aJ BA2 (e9 [aH true aK a0,T.v (.string a1)]) fun (y0:dA×Bool)=>aB y0.2 (a6 (Int×PUnit) (fun X1 s2=>aB (decide (s2.1<(↑(List.map BAV.enc y0.1.2.2.2).length:Int))) (aS BAV (List.map BAV.enc y0.1.2.2.2) s2.1 fun (y3:Int)=>aB (decide (a2=y3)) (R (T.v (.bool (decide (0≤s2.1))))) (X1 (IntKind.i64.wrap (s2.1+1),()))) (R BAQ)) (0,())) (R BAQ)
abbrev ER:Sh:=[(true,aK),(false,Sy.str),(false,(Sy.int IntKind.i64))]
def tN (x:aI×ByteArray×Int):Option T:=B3 x.1 (T.v (.bool (tI x.1 x.2.1 x.2.2)))
noncomputable def jH:List T→Option T:=gS ER tN
theorem RX {a0 a1 a2}:jH [aH true aK a0,T.v (.string a1),T.v (.int .i64 a2)]=tN (a0,a1,a2):=bD (s:=ER) rfl (a0,a1,a2) rfl
theorem ADZ:Of3 Tryz.prog 340 jH tN (cB ER) C1:=YE (a1:=(true,aK)) (a2:=(false,Sy.str)) (a3:=(false,(Sy.int IntKind.i64))) (sp:=tN) (F:=C1) (Hs:=AIW) (f:=340) (k:=8) UC aT aW (aL rfl) ⟨_,_,Tryz.func340,rfl⟩ rfl fun _ _ _ _=>by kernel_rfl
theorem vJ {m:aI} (h:ZG m=true) (n:ByteArray):e9 [aH true aK m,T.v (.string n)]=some (Sh.enc [(true,bT),(false,.bool)] (found gX (fD m n))):=(WS ..).trans (wA _ h)
theorem ACL:aN Tryz.prog 340 jH:=ADZ fun m n t r h hb=>by
 obtain ⟨hok,rfl⟩:=v8 h
 clear h
 unfold C1 BA2 BAV BAQ
 refine aF (s:=[(true,bT),(false,.bool)]) (vJ hok n) ?_
 cases hg:fD m n with
 | none =>
  show aB false _ _
  rw[lK]
  exact fS (by unfold tI;rw[hg])
 | some g =>
  show aB true _ _
  rw[iV]
  dsimp only[found]
  have hlen:g.2.2.2.length≤1000:=by
   simp only[ZG,Bool.and_eq_true,decide_eq_true_eq] at hok
   exact of_decide_eq_true (List.all_eq_true.1 hok.2 _ (List.mem_of_find?_eq_some hg))
  have w:tI m n t=g.2.2.2.any fun x=>decide (t=x):=by unfold tI;rw[hg]
  refine bG g.2.2.2.length (fun k s=>s=((k:Int),())∧g.2.2.2.any (fun x=>decide (t=x))=(g.2.2.2.drop k).any fun x=>decide (t=x)) ⟨rfl,by rw[List.drop_zero]⟩ ?_
  rintro X k s hk ⟨rfl,hf⟩ hX
  dsimp only
  refine b6 (fun hlt=>?_) fun hge=>fS ?_
  ·rw[List.length_map] at hlt
   have hlt:k<g.2.2.2.length:=by omega
   rw[List.drop_eq_getElem_cons hlt,List.any_cons] at hf
   rw[bA (r:=.int .i64) hlt]
   refine b6 (fun hc=>fS ?_) fun hc=>hX _ hlt ⟨by rw[v7 (by omega)],by rw[hf,decide_eq_false hc,Bool.false_or]⟩
   rw[w,hf,decide_eq_true hc,decide_eq_true (show 0≤(k:Int) by omega)];rfl
  ·rw[List.length_map] at hge
   have:k=g.2.2.2.length:=by omega
   subst this
   rw[w,hf,List.drop_length];rfl
end Go.Pv
namespace Go.Pv
open Go Go.Proofs
abbrev eZ (p:aY):Int:=p.2.2.1
abbrev nP (p:aY):ByteArray:=p.2.2.2.1
abbrev fR (p:aY):ByteArray:=p.2.2.2.2.1
abbrev nK (p:aY):Int:=p.2.2.2.2.2.1
abbrev kC (p:aY):kW:=p.2.2.2.2.2.2.1
abbrev U1 (p:aY):ByteArray:=p.2.2.2.2.2.2.2.1
abbrev ABP (p:aY):Int:=p.2.2.2.2.2.2.2.2.1
abbrev FQ (p:aY):Int:=p.2.2.2.2.2.2.2.2.2.1
abbrev GL (p:aY):AI5:=p.2.2.2.2.2.2.2.2.2.2.1
abbrev aAt (p:aY):zD:=p.2.2.2.2.2.2.2.2.2.2.2
def TF (p:aY):Bool:=!decide (nK p=0)||decide (0<(kC p).1.length+(kC p).2.length)
def AZ1 (p:aY):Bool:=!decide (U1 p = { data:=#[] }) || !decide (ABP p=0)
def A14 (p:aY):Bool:=!decide (FQ p=0) || !(decide ((GL p).1=0)&&(decide ((GL p).2.1=0)&&decide ((GL p).2.2=0)))
def mH (p:aY):Bool:=if eZ p=1 then AZ1 p||A14 p else if eZ p=2∨eZ p=3 then TF p||A14 p else !decide (fR p = { data:=#[] })||(TF p||AZ1 p)
noncomputable def ANJ:Env:=Env.of []
def AQD:FuncId→Hint:=fun f=>match f == 311 with|true=>⟨fun _=>.none,fun i j=>match i == 1&&j == 1 with|true=>some [.val 3 false .bool]|false=>match i == 2&&j == 2 with|true=>some [.val 4 false .bool]|false=>match i == 3&&j == 3 with|true=>some [.val 5 false .bool]|false=>none,fun _=>none⟩|false=>aX
theorem AAJ:aR Tryz.prog ANJ:=.nil _
def BBG(s3:Bool×PUnit)(R:T→Prop)(s5:Bool×PUnit):Prop:=aB s3.1 (R BAW) (R (T.v (.bool s5.1)))
def IY(a0:aY)(R:T→Prop):Prop:=qF (Bool×PUnit) (fun (X0:Bool×PUnit→Prop)=>aB (!decide (a0.2.2.2.2.2.1=0)) (X0 (true,())) (X0 (decide (0 < IntKind.i64.wrap ((↑(List.map aA.enc a0.2.2.2.2.2.2.1.1).length:Int) + (↑(List.map aA.li.enc a0.2.2.2.2.2.2.1.2).length:Int))), ()))) fun (s1:Bool×PUnit)=>qF (Bool×PUnit) (fun (X2:Bool×PUnit→Prop)=>aB (!decide (a0.2.2.2.2.2.2.2.1 = {data:=#[]})) (X2 (true,())) (X2 (!decide (a0.2.2.2.2.2.2.2.2.1=0),()))) fun (s3:Bool×PUnit)=>qF (Bool×PUnit) (fun (X4:Bool×PUnit→Prop)=>aB (!decide (a0.2.2.2.2.2.2.2.2.2.1=0)) (X4 (true,())) (X4 (!(decide (a0.2.2.2.2.2.2.2.2.2.2.1.1=0) && (decide (a0.2.2.2.2.2.2.2.2.2.2.1.2.1=0) && (decide (a0.2.2.2.2.2.2.2.2.2.2.1.2.2=0)&&true))), ()))) fun (s5:Bool×PUnit)=>aB (decide (a0.2.2.1=1)) (BBG s3 R s5) (aB (decide (a0.2.2.1=2)) (BBG s1 R s5) (aB (decide (a0.2.2.1=3)) (BBG s1 R s5) (aB (decide (a0.2.2.1=4)) (aB (!decide (a0.2.2.2.2.1 = {data:=#[]})) (R BAW) (BBG s1 R s3)) (aB (!decide (a0.2.2.2.2.1 = {data:=#[]})) (R BAW) (BBG s1 R s3)))))
abbrev L8:Sh:=[(true,aO)]
def xP (p:aY):Option T:=some (T.v (.bool (mH p)))
noncomputable def lF:List T→Option T:=gS L8 xP
theorem W0 {a0}:lF [aH true aO a0]=xP (a0):=bD (s:=L8) rfl (a0) rfl
theorem ALX:rA Tryz.prog 311 lF xP (cB L8) IY:=gF (a1:=(true,aO)) (sp:=xP) (F:=IY) (Hs:=AQD) (f:=311) (k:=8) AAJ aT aW (aL rfl) ⟨_,_,Tryz.func311,rfl⟩ rfl fun _ _=>by kernel_rfl
theorem SF {a b:Bool} {n:Bool} (h:n=(a||b)):aB a (T.v (.bool true)=T.v (.bool n)) (T.v (.bool b)=T.v (.bool n)):=by
 subst h;cases a<;>rfl
theorem AJ9:aN Tryz.prog 311 lF:=ALX fun p r h hb=>by
 have b1:(kC p).1.length≤2 ^ 47:=hb.2.2.2.2.2.2.1.1.1
 have b2:(kC p).2.length≤2 ^ 47:=hb.2.2.2.2.2.2.1.2.1
 cases h
 unfold IY BBG BAW
 have j:∀ {a b:Bool} {K:Bool×PUnit→Prop},K (a||b,())→qF (Bool×PUnit) (fun (X:Bool×PUnit→Prop)=>aB a (X (true,())) (X (b,()))) K:=fun {a b K} hK=>by
  rw[w4];cases a<;>exact hK
 have e1:decide (0<IntKind.i64.wrap (((List.map aA.enc (kC p).1).length:Int)+((List.map aA.li.enc (kC p).2).length:Int)))=decide (0<(kC p).1.length+(kC p).2.length):=by
  rw[List.length_map,List.length_map,bB _ (by omega) (by omega)]
  exact decide_eq_decide.2 (by omega)
 refine j ?_
 refine j ?_
 refine j ?_
 dsimp only
 rw[e1,Bool.and_true]
 refine b6 (fun h=>SF (by unfold mH;rw[if_pos h];rfl)) fun k1=>?_
 refine b6 (fun h=>SF (by unfold mH;rw[if_neg k1,if_pos (.inl h)];rfl)) fun k2=>?_
 refine b6 (fun h=>SF (by unfold mH;rw[if_neg k1,if_pos (.inr h)];rfl)) fun k3=>?_
 have w:mH p=(!decide (fR p = { data:=#[] })||(TF p||AZ1 p)):=by
  unfold mH;rw[if_neg k1,if_neg];rintro (h|h)
  ·exact k2 h
  ·exact k3 h
 have fin:aB (!decide (fR p = { data:=#[] })) (T.v (.bool true)=T.v (.bool (mH p))) (aB (TF p) (T.v (.bool true)=T.v (.bool (mH p))) (T.v (.bool (AZ1 p))=T.v (.bool (mH p)))):=by
  rw[w]
  cases (!decide (fR p = { data:=#[] })) with
  | true=>rfl
  | false=>exact SF rfl
 exact b6 (fun _=>fin) fun _=>fin
def AG3 (m:aI) (n:ByteArray):Bool:=match MN m n with
 | some s=>decide (1≤s.2.1)&&decide (s.2.1≤1000000)&&(decide (1≤s.2.2.1)&&decide (s.2.2.1≤2000))
 | none=>false
def fM (p:aY) (m:aI):Bool:=if eZ p=4 then true else match fD m (fR p) with
 | none=>false
 | some g=>decide (1000≤g.2.1)&&decide (g.2.1≤20000)&&(if eZ p=1 then decide (1≤nK p)&&decide (nK p≤120)&&tI m (fR p) (nK p) else AG3 m (U1 p))
noncomputable def AW5:Env:=Env.of [(316,.pure e9),(317,.pure cJ),(340,.pure jH)]
def AYK:FuncId→Hint:=fun _=>aX
theorem AIE:aR Tryz.prog AW5:=.cons DR (.cons KG (.cons ACL (.nil _)))
def BBK(y2:cD×Bool)(R:T→Prop):Prop:=aB y2.2 (aB (decide (1≤y2.1.2.1)) (aB (decide (y2.1.2.1≤1000000)) (aB (decide (1≤y2.1.2.2.1)) (R (T.v (.bool (decide (y2.1.2.2.1≤2000))))) (R BAQ)) (R BAQ)) (R BAQ)) (R BAQ)
def BBH(a1:aI)(a0:aY)(R:T→Prop):Prop:=aJ BAX (cJ [aH true aK a1, T.v (.string a0.2.2.2.2.2.2.2.1)]) fun (y3:cD×Bool)=>BBK y3 R
def BBJ(a0:aY)(a1:aI)(R:T→Prop):Prop:=aB (decide (1≤a0.2.2.2.2.2.1)) (aB (decide (a0.2.2.2.2.2.1≤120)) (aJ BAS (jH [aH true aK a1,T.v (.string a0.2.2.2.2.1), T.v (.int .i64 a0.2.2.2.2.2.1)]) fun (y1:Bool)=>R (T.v (.bool y1))) (R BAQ)) (R BAQ)
def BBL(a0:aY)(a1:aI)(R:T→Prop):Prop:=aB (decide (a0.2.2.1=3)) (BBH a1 a0 R) (aB (decide (a0.2.2.1=4)) (BBH a1 a0 R) (BBH a1 a0 R))
def BBI(a1:aI)(a0:aY)(R:T→Prop):Prop:=aJ BA2 (e9 [aH true aK a1,T.v (.string a0.2.2.2.2.1)]) fun (y6:dA×Bool)=>aB (!y6.2) (R BAQ) (aB (decide (1000≤y6.1.2.1)) (aB (!decide (y6.1.2.1≤20000)) (R BAQ) (aB (decide (a0.2.2.1=1)) (BBJ a0 a1 R) (aB (decide (a0.2.2.1=2)) (BBH a1 a0 R) (BBL a0 a1 R)))) (R BAQ))
def QT(a0:aY)(a1:aI)(R:T→Prop):Prop:=aB (decide (a0.2.2.1=1)) (aJ BA2 (e9 [aH true aK a1,T.v (.string a0.2.2.2.2.1)]) fun (y0:dA×Bool)=>aB (!y0.2) (R BAQ) (aB (decide (1000≤y0.1.2.1)) (aB (!decide (y0.1.2.1≤20000)) (R BAQ) (aB (decide (a0.2.2.1=1)) (BBJ a0 a1 R) (aB (decide (a0.2.2.1=2)) (aJ BAX (cJ [aH true aK a1,T.v (.string a0.2.2.2.2.2.2.2.1)]) fun (y2:cD×Bool)=>BBK y2 R) (BBL a0 a1 R)))) (R BAQ))) (aB (decide (a0.2.2.1=2)) (BBI a1 a0 R) (aB (decide (a0.2.2.1=3)) (BBI a1 a0 R) (aB (decide (a0.2.2.1=4)) (R BAW) (BBI a1 a0 R))))
abbrev S5:Sh:=[(true,aO),(true,aK)]
def CK (x:aY×aI):Option T:=B3 x.2 (T.v (.bool (fM x.1 x.2)))
noncomputable def nZ:List T→Option T:=gS S5 CK
theorem AC9 {a0 a1}:nZ [aH true aO a0,aH true aK a1]=CK (a0,a1):=bD (s:=S5) rfl (a0,a1) rfl
theorem AUZ:uH Tryz.prog 312 nZ CK (cB S5) QT:=iK (a1:=(true,aO)) (a2:=(true,aK)) (sp:=CK) (F:=QT) (Hs:=AYK) (f:=312) (k:=8) AIE aT aW (aL rfl) ⟨_,_,Tryz.func312,rfl⟩ rfl fun _ _ _=>by kernel_rfl
theorem BN (m:aI) (n:ByteArray):cJ [aH true aK m,T.v (.string n)]=some (Sh.enc [(true,bM),(false,.bool)] (found uB (MN m n))):=R6 ..
theorem AR5:aN Tryz.prog 312 nZ:=AUZ fun p m r h hb=>by
 obtain ⟨hok,rfl⟩:=v8 h
 replace hok:ZG m=true:=hok
 clear h
 have is:∀ {n:Bool},fM p m=n→T.v (.bool n)=T.v (.bool (fM p m)):=fun h=>by rw[h]
 unfold QT BBI BBL BBJ BBH BBK BA2 BAX BAW BAS BAQ
 have sec:∀ {g:dA},fD m (fR p)=some g→¬ eZ p=4→¬ eZ p=1→1000≤g.2.1→g.2.1≤20000 →
   aJ [(true,bM),(false,Sy.bool)] (cJ [aH true aK m,T.v (.string (U1 p))])
    fun (y2:cD×Bool) =>
    aB y2.2
     (aB (decide (1≤y2.1.2.1))
      (aB (decide (y2.1.2.1≤1000000))
       (aB (decide (1≤y2.1.2.2.1))
        (T.v (.bool (decide (y2.1.2.2.1≤2000)))=T.v (.bool (fM p m)))
        (T.v (.bool false)=T.v (.bool (fM p m))))
       (T.v (.bool false)=T.v (.bool (fM p m))))
      (T.v (.bool false)=T.v (.bool (fM p m))))
     (T.v (.bool false)=T.v (.bool (fM p m))):=by
  intro g hg k4 k1 d1 d2
  have w:fM p m=AG3 m (U1 p):=by
   unfold fM;rw[if_neg k4,hg];dsimp only;rw[decide_eq_true d1,decide_eq_true d2,if_neg k1];rfl
  refine aF (s:=[(true,bM),(false,.bool)]) (BN m _) ?_
  cases hs:MN m (U1 p) with
  | none =>
   show aB false _ _
   rw[lK];exact is (by rw[w];unfold AG3;rw[hs])
  | some s =>
   show aB true _ _
   rw[iV]
   dsimp only[found]
   have w2:fM p m=(decide (1≤s.2.1)&&decide (s.2.1≤1000000)&&(decide (1≤s.2.2.1)&&decide (s.2.2.1≤2000))):=by rw[w];unfold AG3;rw[hs]
   refine b6 (fun h1=>b6 (fun h2=>b6 (fun h3=>is ?_) fun h3=>is ?_) fun h2=>is ?_) fun h1=>is ?_
   ·rw[w2,decide_eq_true h1,decide_eq_true h2,decide_eq_true h3];rfl
   ·rw[w2,decide_eq_true h1,decide_eq_true h2,decide_eq_false h3];rfl
   ·rw[w2,decide_eq_true h1,decide_eq_false h2];rfl
   ·rw[w2,decide_eq_false h1];rfl
 have plate:∀ {g:dA},fD m (fR p)=some g→eZ p=1→1000≤g.2.1→g.2.1≤20000 →
   aB (decide (1≤nK p)) (aB (decide (nK p≤120)) (aJ [(false,Sy.bool)] (jH [aH true aK m,T.v (.string (fR p)),T.v (.int .i64 (nK p))]) fun (y1:Bool)=>T.v (.bool y1)=T.v (.bool (fM p m))) (T.v (.bool false)=T.v (.bool (fM p m)))) (T.v (.bool false)=T.v (.bool (fM p m))):=by
  intro g hg k1 d1 d2
  have w:fM p m=(decide (1≤nK p)&&decide (nK p≤120)&&tI m (fR p) (nK p)):=by
   unfold fM;rw[if_neg (by omega),hg];dsimp only;rw[decide_eq_true d1,decide_eq_true d2,if_pos k1];rfl
  refine b6 (fun h1=>b6 (fun h2=>?_) fun h2=>is ?_) fun h1=>is ?_
  ·refine aF (s:=[(false,.bool)]) (y:=tI m (fR p) (nK p)) ((RX ..).trans (wA _ hok)) (is ?_)
   rw[w,decide_eq_true h1,decide_eq_true h2];rfl
  ·rw[w,decide_eq_true h1,decide_eq_false h2];rfl
  ·rw[w,decide_eq_false h1];rfl
 by_cases k4:p.2.2.1=4
 ·have w:fM p m=true:=by unfold fM;rw[if_pos k4]
  repeat' first
   | (exfalso;omega)
   | exact is w
   | refine b6 (fun h=>?_) (fun h=>?_)
 ·have hnone:fD m (fR p)=none→fM p m=false:=fun h=>by unfold fM;rw[if_neg k4,h]
  have dens:∀ {g:dA},fD m (fR p)=some g→¬ (1000≤g.2.1∧g.2.1≤20000)→fM p m=false:=fun {g} hg h=>by
   unfold fM;rw[if_neg k4,hg];dsimp only
   by_cases h1:1000≤g.2.1
   ·rw[decide_eq_false (show ¬ g.2.1≤20000 by omega),Bool.and_false,Bool.false_and]
   ·rw[decide_eq_false h1,Bool.false_and,Bool.false_and]
  have call:∀ {K:dA×Bool→Prop},(fD m (fR p)=none→K (gX,false))→(∀ g,fD m (fR p)=some g→K (g,true))→aJ [(true,bT),(false,Sy.bool)] (e9 [aH true aK m,T.v (.string p.2.2.2.2.1)]) K:=fun {K} h1 h2=>by
   refine aF (s:=[(true,bT),(false,.bool)]) (vJ hok _) ?_
   cases hg:fD m (fR p) with
   | none=>exact h1 hg
   | some g=>exact h2 g hg
  have body:∀ {K:dA×Bool→Prop},(∀ g,fD m (fR p)=some g→1000≤g.2.1→g.2.1≤20000→K (g,true))→aJ [(true,bT),(false,Sy.bool)] (e9 [aH true aK m,T.v (.string p.2.2.2.2.1)]) fun (y0:dA×Bool)=>aB (!y0.2) (T.v (.bool false)=T.v (.bool (fM p m))) (aB (decide (1000≤y0.1.2.1)) (aB (!decide (y0.1.2.1≤20000)) (T.v (.bool false)=T.v (.bool (fM p m))) (K y0)) (T.v (.bool false)=T.v (.bool (fM p m)))):=fun {K} hK=>by
   refine call (fun hn=>?_) fun g hg=>?_
   ·show aB true _ _
    rw[iV];exact is (hnone hn)
   ·show aB false _ _
    rw[lK]
    exact b6 (fun d1=>jB (fun d2=>is (dens hg (fun h=>d2 h.2))) fun d2=>hK g hg d1 d2) fun d1=>is (dens hg (fun h=>d1 h.1))
  refine b6 (fun h=>body fun g hg d1 d2=>?_) fun h1=>b6 (fun h=>body fun g hg d1 d2=>?_) fun h2=>b6 (fun h=>body fun g hg d1 d2=>?_) fun h3=>b6 (fun h=>absurd h k4) fun _=>body fun g hg d1 d2=>?_
  all_goals
   repeat' first
    | (exfalso;omega)
    | exact plate hg (by assumption) d1 d2
    | exact sec hg k4 (by assumption) d1 d2
    | exact sec hg k4 (by intro h';have h'':p.2.2.1=1:=h';omega) d1 d2
    | refine b6 (fun h=>?_) (fun h=>?_)
def qJ (p:aY) (m:aI):Int:=if x7 p.1=false∨x7 (nP p)=false then 6 else if ¬ (1≤p.2.1∧p.2.1≤1000) then 9 else if ¬ (eZ p=1∨eZ p=2∨eZ p=3∨eZ p=4) then 10 else if mH p=true then 2 else if fM p m=false then 23 else
 if eZ p=1∧¬ wD (kC p)=0 then wD (kC p) else if (eZ p=2∨eZ p=3)∧¬ (1≤ABP p∧ABP p≤32768) then 9 else if eZ p=4∧¬ (1≤FQ p∧FQ p≤1099511627776∧yS (GL p)=true) then 9 else if q7 (aAt p)=false then 9 else 0
noncomputable def AHY:Env:=Env.of [(250,.pure dZ),(311,.pure lF),(312,.pure nZ),(313,.pure iE),(315,.pure cF)]
def AIZ:FuncId→Hint:=fun _=>aX
theorem UF:aR Tryz.prog AHY:=.cons HO (.cons AJ9 (.cons AR5 (.cons OB (.cons AKH (.nil _)))))
def BBN(a0:aY)(R:T→Prop):Prop:=aJ BAS (cF [aH true eC a0.2.2.2.2.2.2.2.2.2.2.2]) fun (y5:Bool)=>aB (!y5) (R BAR) (R BAU)
def BBO(a0:aY)(R:T→Prop):Prop:=aB (decide (1≤a0.2.2.2.2.2.2.2.2.1)) (aB (!decide (a0.2.2.2.2.2.2.2.2.1≤32768)) (R BAR) (BBN a0 R)) (R BAR)
def BBM(a0:aY)(R:T→Prop)(a1:aI):Prop:=aJ BAS (lF [aH true aO a0]) fun (y2:Bool)=>aB y2 (R BA1) (aJ BAS (nZ [aH true aO a0,aH true aK a1]) fun (y3:Bool)=>aB (!y3) (R BA8) (aB (decide (a0.2.2.1=1)) (aJ BAT (iE [aH true gO a0.2.2.2.2.2.2.1]) fun (y4:Int)=>aB (!decide (y4=0)) (R (T.v (.int .i64 y4))) (BBN a0 R)) (aB (decide (a0.2.2.1=2)) (BBO a0 R) (aB (decide (a0.2.2.1=3)) (BBO a0 R) (aB (decide (a0.2.2.1=4)) (aB (decide (1≤a0.2.2.2.2.2.2.2.2.2.1)) (aB (!decide (a0.2.2.2.2.2.2.2.2.2.1≤1099511627776)) (R BAR) (aJ BAS (cF [T.agg [T.v (Value.int IntKind.i64 a0.2.2.2.2.2.2.2.2.2.2.1.1), T.v (Value.int IntKind.i64 a0.2.2.2.2.2.2.2.2.2.2.1.2.1), T.v (Value.int IntKind.i64 a0.2.2.2.2.2.2.2.2.2.2.1.2.2), T.v (.int .i64 0)]]) fun (y8:Bool)=>aB (!y8) (R BAR) (BBN a0 R))) (R BAR)) (BBN a0 R))))))
def C4(a0:aY)(a1:aI)(R:T→Prop):Prop:=aJ BAS (dZ [T.v (.string a0.1)]) fun (y0:Bool)=>aB (!y0) (R BA0) (aJ BAS (dZ [T.v (.string a0.2.2.2.1)]) fun (y1:Bool)=>aB (!y1) (R BA0) (aB (decide (1≤a0.2.1)) (aB (!decide (a0.2.1≤1000)) (R BAR) (aB (decide (a0.2.2.1=1)) (BBM a0 R a1) (aB (decide (a0.2.2.1=2)) (BBM a0 R a1) (aB (decide (a0.2.2.1=3)) (BBM a0 R a1) (aB (decide (a0.2.2.1=4)) (BBM a0 R a1) (R (T.v (.int .i64 10)))))))) (R BAR)))
abbrev EU:Sh:=[(true,aO),(true,aK)]
def tQ (x:aY×aI):Option T:=B3 x.2 (T.v (Value.int .i64 (qJ x.1 x.2)))
noncomputable def kO:List T→Option T:=gS EU tQ
theorem R1 {a0 a1}:kO [aH true aO a0,aH true aK a1]=tQ (a0,a1):=bD (s:=EU) rfl (a0,a1) rfl
theorem AD2:uH Tryz.prog 252 kO tQ (cB EU) C4:=iK (a1:=(true,aO)) (a2:=(true,aK)) (sp:=tQ) (F:=C4) (Hs:=AIZ) (f:=252) (k:=8) UF aT aW (aL rfl) ⟨_,_,Tryz.func252,rfl⟩ rfl fun _ _ _=>by kernel_rfl
theorem KF:aN Tryz.prog 252 kO:=AD2 fun p m r h hb=>by
 obtain ⟨hok,rfl⟩:=v8 h
 replace hok:ZG m=true:=hok
 clear h hb
 have is:∀ {n:Int},qJ p m=n→T.v (.int .i64 n)=T.v (.int .i64 (qJ p m)):=fun h=>by rw[h]
 unfold C4 BBM BBO BBN BA8 BA1 BA0 BAU BAT BAS BAR
 rw[l7]
 refine fB (fun h=>is (by unfold qJ;rw[if_pos (.inl h)])) fun i1=>?_
 rw[l7]
 refine fB (fun h=>is (by unfold qJ;rw[if_pos (.inr h)])) fun i2=>?_
 have n1:¬ (x7 p.1=false∨x7 (nP p)=false):=by
  rintro (h|h)
  ·rw[i1] at h;cases h
  ·rw[show x7 (nP p)=true from i2] at h;cases h
 have r9:¬ (1≤p.2.1∧p.2.1≤1000)→T.v (.int .i64 9)=T.v (.int .i64 (qJ p m)):=fun h=>is (by unfold qJ;rw[if_neg n1,if_pos h])
 refine b6 (fun v1=>jB (fun h=>r9 (fun h2=>h h2.2)) fun v2=>?_) fun h=>r9 (fun h2=>h h2.1)
 have n2:¬ ¬ (1≤p.2.1∧p.2.1≤1000):=fun h=>h ⟨v1,v2⟩
 have w1:qJ p m=if ¬ (eZ p=1∨eZ p=2∨eZ p=3∨eZ p=4) then 10 else if mH p=true then 2 else if fM p m=false then 23 else if eZ p=1∧¬ wD (kC p)=0 then wD (kC p) else if (eZ p=2∨eZ p=3)∧¬ (1≤ABP p∧ABP p≤32768) then 9 else if eZ p=4∧¬ (1≤FQ p∧FQ p≤1099511627776∧yS (GL p)=true) then 9 else if q7 (aAt p)=false then 9 else 0:=by
  unfold qJ;rw[if_neg n1,if_neg n2]
 have spare:∀ {K:Bool→Prop},K (mH p)→aJ [(false,Sy.bool)] (lF [aH true aO p]) K:=fun h=>aF (s:=[(false,.bool)]) (y:=mH p) (W0 ..) h
 have made:∀ {K:Bool→Prop},K (fM p m)→aJ [(false,Sy.bool)] (nZ [aH true aO p,aH true aK m]) K:=fun h=>aF (s:=[(false,.bool)]) (y:=fM p m) ((AC9 ..).trans (wA _ hok)) h
 have place:∀ {K:Bool→Prop},K (q7 (aAt p))→aJ [(false,Sy.bool)] (cF [aH true eC (aAt p)]) K:=fun h=>aF (s:=[(false,.bool)]) (y:=q7 (aAt p)) (F6 ..) h
 have near:∀ {K:Bool→Prop},K (yS (GL p))→aJ [(false,Sy.bool)] (cF [aH true eC (GL p,0)]) K:=fun {K} h=>aF (s:=[(false,.bool)]) (y:=q7 (GL p,0)) (F6 ..) (by
  rw[show q7 (GL p,0)=yS (GL p) by unfold q7;rw[show decide (((GL p,(0:Int)):zD).2=ADV ((GL p,(0:Int)):zD).2)=true from rfl,Bool.and_true]];exact h)
 have reg:∀ {K:Int→Prop},K (wD (kC p))→aJ [(false,Sy.int IntKind.i64)] (iE [aH true gO (kC p)]) K:=fun h=>aF (s:=[(false,.int .i64)]) (F2 _) h
 repeat' first
  | (exfalso;omega)
  | refine spare ?_
  | refine made ?_
  | refine reg ?_
  | refine place ?_
  | refine near ?_
  | refine jB (fun h=>?_) (fun h=>?_)
  | refine b6 (fun h=>?_) (fun h=>?_)
  | refine fB (fun h=>?_) (fun h=>?_)
  | refine sZ (fun h=>?_) (fun h=>?_)
 all_goals (refine is ?_;clear spare made place near reg is r9;rw[w1];clear w1 n1 n2 i1 i2;simp_all;try (intros;exfalso;simp only[ABP,FQ] at *;omega))
theorem BM {m:aI} (h:ZG m=true) (p:aY):kO [aH true aO p,aH true aK m]=some (Sh.enc [(false,.int .i64)] (qJ p m)):=(R1 ..).trans (wA _ h)
def ADH (m:aI) (n:ByteArray):dA:=(fD m n).getD gX
def A9H (m:aI) (n:ByteArray):cD:=(MN m n).getD uB
theorem AF7 {α:Type} {no:α} {o:Option α}:(found no o).1=o.getD no:=by cases o<;>rfl
def PD (p:aY) (m:aI):Int:=if eZ p=1 then IntKind.i64.wrap ((IntKind.i64.wrap (IntKind.i64.wrap (YZ (kC p)*nK p)*(ADH m (fR p)).2.1)).tdiv 2000000) else if eZ p=2∨eZ p=3 then IntKind.i64.wrap ((IntKind.i64.wrap (IntKind.i64.wrap ((A9H m (U1 p)).2.1*ABP p)*(ADH m (fR p)).2.1)).tdiv 1000000) else FQ p
def yL (p:aY) (m:aI):Int×Int:=if qJ p m=0 then (PD p m,0) else (0,qJ p m)
noncomputable def ANK:Env:=Env.of [(252,.pure kO),(316,.pure e9),(317,.pure cJ),(318,.pure rZ)]
def AQE:FuncId→Hint:=fun _=>aX
theorem AAK:aR Tryz.prog ANK:=.cons KF (.cons DR (.cons KG (.cons AKC (.nil _))))
def BBP(R:T→Prop)(y2:cD×Bool)(a0:aY)(y1:dA×Bool):Prop:=bS true (R (T.cC [T.v (Value.int IntKind.i64 (IntKind.i64.wrap ((IntKind.i64.wrap (IntKind.i64.wrap (y2.1.2.1*a0.2.2.2.2.2.2.2.2.1) * y1.1.2.1)).tdiv 1000000))), T.v (.int .i64 0)]))
def BBQ(a0:aY):List T:=[T.v (.int .i64 a0.2.2.2.2.2.2.2.2.2.1), T.v (.int .i64 0)]
def IZ(a0:aY)(a1:aI)(R:T→Prop):Prop:=aJ BAT (kO [aH true aO a0,aH true aK a1]) fun (y0:Int)=>aB (!decide (y0=0)) (R (T.cC [T.v (.int .i64 0),T.v (.int .i64 y0)])) (aJ BA2 (e9 [aH true aK a1,T.v (.string a0.2.2.2.2.1)]) fun (y1:dA×Bool)=>aJ BAX (cJ [aH true aK a1,T.v (.string a0.2.2.2.2.2.2.2.1)]) fun (y2:cD×Bool)=>aB (decide (a0.2.2.1=1)) (aJ BAT (rZ [aH true gO a0.2.2.2.2.2.2.1]) fun (y3:Int)=>bS true (R (T.cC [T.v (Value.int IntKind.i64 (IntKind.i64.wrap ((IntKind.i64.wrap (IntKind.i64.wrap (y3*a0.2.2.2.2.2.1)*y1.1.2.1)).tdiv 2000000))), T.v (.int .i64 0)]))) (aB (decide (a0.2.2.1=2)) (BBP R y2 a0 y1) (aB (decide (a0.2.2.1=3)) (BBP R y2 a0 y1) (aB (decide (a0.2.2.1=4)) (R (T.cC (BBQ a0))) (R (T.cC (BBQ a0)))))))
abbrev L9:Sh:=[(true,aO),(true,aK)]
abbrev YX:Sh:=[(false,Sy.int IntKind.i64),(false,Sy.int IntKind.i64)]
def xQ (x:aY×aI):Option T:=B3 x.2 (Sh.enc YX (yL x.1 x.2))
noncomputable def rW:List T→Option T:=gS L9 xQ
theorem W2 {a0 a1}:rW [aH true aO a0,aH true aK a1]=xQ (a0,a1):=bD (s:=L9) rfl (a0,a1) rfl
theorem ALY:uH Tryz.prog 253 rW xQ (cB L9) IZ:=iK (a1:=(true,aO)) (a2:=(true,aK)) (sp:=xQ) (F:=IZ) (Hs:=AQE) (f:=253) (k:=8) AAK aT aW (aL rfl) ⟨_,_,Tryz.func253,rfl⟩ rfl fun _ _ _=>by kernel_rfl
theorem AKA:aN Tryz.prog 253 rW:=ALY fun p m r h hb=>by
 obtain ⟨hok,rfl⟩:=v8 h
 replace hok:ZG m=true:=hok
 clear h hb
 have is:∀ {a b:Int},yL p m=(a,b)→T.cC [T.v (.int .i64 a),T.v (.int .i64 b)]=Sh.enc YX (yL p m):=fun h=>by rw[h];rfl
 unfold IZ BBQ BBP BA2 BAX BAT
 refine aF (s:=[(false,.int .i64)]) (BM hok p) ?_
 refine jB (fun h=>is (by unfold yL;rw[if_neg h])) fun h=>?_
 refine aF (s:=[(true,bT),(false,.bool)]) (vJ hok _) ?_
 refine aF (s:=[(true,bM),(false,.bool)]) (BN m _) ?_
 have w:yL p m=(PD p m,0):=by unfold yL;rw[if_pos h]
 have eg:(found gX (fD m (fR p))).1=ADH m (fR p):=AF7
 have es:(found uB (MN m (U1 p))).1=A9H m (U1 p):=AF7
 refine b6 (fun k1=>?_) fun k1=>?_
 ·refine aF (s:=[(false,.int .i64)]) (W8 _) ?_
  refine ⟨rfl,is ?_⟩
  rw[w];unfold PD;rw[if_pos k1,←eg]
 refine b6 (fun k2=>⟨rfl,is ?_⟩) fun k2=>?_
 ·rw[w];unfold PD;rw[if_neg k1,if_pos (.inl k2),←eg,←es]
 refine b6 (fun k3=>⟨rfl,is ?_⟩) fun k3=>?_
 ·rw[w];unfold PD;rw[if_neg k1,if_pos (.inr k3),←eg,←es]
 have fin:yL p m=(FQ p,0):=by
  rw[w];unfold PD;rw[if_neg k1,if_neg];rintro (h|h)
  ·exact k2 h
  ·exact k3 h
 exact b6 (fun _=>is fin) fun _=>is fin
theorem W3 {m:aI} (h:ZG m=true) (p:aY):rW [aH true aO p,aH true aK m]=some (Sh.enc [(false,.int .i64),(false,.int .i64)] (yL p m)):=(W2 ..).trans (wA _ h)
end Go.Pv
namespace Go.Pv
open Go Go.Proofs
def mR (a0:aC) (m1:List aD) (m2:List aD) (m3:List aD) (m4:List aD) (a5:aI):List T:=[MZ a0 m1 m2 m3 m4,T.agg (aK.enc a5)]
noncomputable def IC:Env:=Env.of [(252,.pure kO),(253,.pure rW)]
def UY:FuncId→Hint:=bV 89 [(2,.inv [.val 23 false (.int .i64)]),(13,.inv [.val 10 false (.int .i64),.val 54 false (.int .i64)])] (fun _=>aX)
theorem Z8:aR Tryz.prog IC:=.cons KF (.cons AKA (.nil _))
def IK(a0:aC)(m1:List aD)(m2:List aD)(m3:List aD)(m4:List aD)(a5:aI)(R:T→Prop):Prop:=a6 (Int×PUnit) (fun X0 s1=>aB (decide (s1.1<(↑(List.map aO.enc a0.2.2.1).length:Int))) (aS aO (List.map aO.enc a0.2.2.1) s1.1 fun (y2:aY)=>aJ BAT (kO [aH true aO y2,aH true aK a5]) fun (y3:Int)=>aB (!decide (y3=0)) (R (T.v (.int .i64 y3))) (fZ TypeDesc.string (Value.string y2.2.2.2.1) (pL (bJ m1)) false BAV (R BA9) fun (i4:Nat) (y5:Int)=>X0 (IntKind.i64.wrap (s1.1+1),()))) (a6 (Int×Int×PUnit) (fun X6 s7=>aB (decide (s7.2.1<(↑(List.map aO.enc a0.2.2.1).length:Int))) (aS aO (List.map aO.enc a0.2.2.1) s7.2.1 fun (y8:aY)=>aJ [(false,Sy.int IntKind.i64),(false,Sy.int IntKind.i64)] (rW [aH true aO y8,aH true aK a5]) fun (y9:aP)=>aB (decide (1099511627776<IntKind.i64.wrap (s7.1+y9.1))) (R (T.v (.int .i64 13))) (X6 (IntKind.i64.wrap (s7.1+y9.1),IntKind.i64.wrap (s7.2.1+1),()))) (R BAU)) (0,0,()))) (0,())
theorem UP ( a0 m1 m2 m3 m4 a5 R):dS bZ Tryz.prog IC UY 8 89 (mR a0 m1 m2 m3 m4 a5) R=IK a0 m1 m2 m3 m4 a5 R:=by kernel_rfl
theorem P6 (x y:aC×MP×MP×MP×MP×aI) (h:mR x.1 x.2.1 x.2.2.1 x.2.2.2.1 x.2.2.2.2.1 x.2.2.2.2.2=mR y.1 y.2.1 y.2.2.1 y.2.2.2.1 y.2.2.2.2.1 y.2.2.2.2.2):x=y:=by
 obtain ⟨h1,h2⟩:=List.cons.inj h
 have:=pG (x:=(x.1,x.2.1,x.2.2.1,x.2.2.2.1,x.2.2.2.2.1)) (y:=(y.1,y.2.1,y.2.2.1,y.2.2.2.1,y.2.2.2.2.1)) h1
 have h2:=Sy.dI aK _ _ (T.agg.inj (List.cons.inj h2).1)
 simp only[Prod.mk.injEq] at this
 obtain ⟨e1,e2,e3,e4,e5⟩:=this
 exact Prod.ext e1 (Prod.ext e2 (Prod.ext e3 (Prod.ext e4 (Prod.ext e5 h2))))
def mB (d:aC) (m:aI) (p:aY):Int:=if qJ p m=0 then (if (fW d (nP p)).isNone=true then 8 else 0) else qJ p m
def FF (m:aI):List aY→Int→Int
 | [],_=>0
 | p::l,s=>if 1099511627776<IntKind.i64.wrap (s+(yL p m).1) then 13 else FF m l (IntKind.i64.wrap (s+(yL p m).1))
def mC (d:aC) (m:aI):Int:=if bY (mB d m) d.2.2.1=0 then FF m d.2.2.1 0 else bY (mB d m) d.2.2.1
def sG (x:aC×MP×MP×MP×MP×aI):Option T:=match ZG x.2.2.2.2.2 with
 | true=>uE (x.1,x.2.1,x.2.2.1,x.2.2.2.1,x.2.2.2.2.1) (T.v (Value.int .i64 (mC x.1 x.2.2.2.2.2)))
 | false=>none
noncomputable def rR:List T→Option (T):=gA (fun (x:aC×List aD×List aD×List aD×List aD×aI)=>mR x.1 x.2.1 x.2.2.1 x.2.2.2.1 x.2.2.2.2.1 x.2.2.2.2.2) sG
theorem WK (a0:aC) (m1:List aD) (m2:List aD) (m3:List aD) (m4:List aD) (a5:aI):rR (mR a0 m1 m2 m3 m4 a5)=sG (a0,m1,m2,m3,m4,a5):=e8 (A:=(fun (x:aC×List aD×List aD×List aD×List aD×aI)=>mR x.1 x.2.1 x.2.2.1 x.2.2.2.1 x.2.2.2.2.1 x.2.2.2.2.2)) P6 (a0,m1,m2,m3,m4,a5)
theorem ALM (h:∀ (a0:aC) (m1:List aD) (m2:List aD) (m3:List aD) (m4:List aD) (a5:aI) (r:T),sG (a0,m1,m2,m3,m4,a5)=some r→(∀ t∈mR a0 m1 m2 m3 m4 a5,Bd t)→IK a0 m1 m2 m3 m4 a5 (fun y=>y=r)):aN Tryz.prog 89 rR :=
 cQ (E:=IC) (Hs:=UY) Z8 aT aW (aL rfl) 8 ⟨_,_,Tryz.func89,rfl⟩ fun x r h1 h2=>by
  rw[UP]
  exact h x.1 x.2.1 x.2.2.1 x.2.2.2.1 x.2.2.2.2.1 x.2.2.2.2.2 r h1 h2
theorem AJ1:aN Tryz.prog 89 rR:=ALM fun d m1 m2 m3 m4 m r h hb=>by
 unfold sG at h
 split at h
 case h_2=>cases h
 rename_i hok
 replace hok:ZG m=true:=hok
 obtain ⟨hx,hs,rfl⟩:=nB h
 simp only[Prod.mk.injEq,true_and] at hx
 obtain ⟨rfl,rfl,rfl,rfl⟩:=hx
 replace hs:lU d:=hs
 clear h hb
 have is:∀ {n:Int},mC d m=n→T.v (.int .i64 n)=T.v (.int .i64 (mC d m)):=fun h=>by rw[h]
 unfold IK BA9 BAV BAU BAT
 refine lX (r:=aO) (mB d m) hs.p (fun X s y hy hgo hbad=>?_) fun h0=>?_
 ·have bad:∀ {n:Int},n≠0→mB d m y=n→T.v (.int .i64 n)=T.v (.int .i64 (mC d m)):=fun hn h=>by
   have h1:=hbad (by rw[h];exact hn)
   refine is ?_
   unfold mC
   rw[if_neg (by rw[h1,h];exact hn),h1,h]
  refine aF (s:=[(false,.int .i64)]) (BM hok y) ?_
  refine jB (fun h=>bad h (by unfold mB;rw[if_neg h])) fun h=>?_
  refine ixK (fun hn=>bad (by decide) ?_) fun i j hj hn=>hgo ?_
  ·have hn:fW d (nP y)=none:=hn
   unfold mB;rw[if_pos h,hn];rfl
  ·have hn:fW d (nP y)=some d.2.1[j]:=hn
   unfold mB;rw[if_pos h,hn];rfl
 ·have w:mC d m=FF m d.2.2.1 0:=by unfold mC;rw[if_pos h0]
  clear h0
  have hl:=hs.p
  generalize d.2.2.1=l at w hl ⊢
  refine bG l.length (fun k s=>s.2.1=(k:Int)∧FF m (l.drop k) s.1=mC d m) ⟨rfl,by rw[w];rfl⟩ ?_
  rintro X k ⟨s,i,u⟩ hk ⟨rfl,he⟩ hX
  dsimp only at he ⊢
  refine b6 (fun hlt=>?_) fun hge=>?_
  ·rw[List.length_map] at hlt
   have hlt:k<l.length:=by omega
   rw[bA (r:=aO) hlt]
   rw[List.drop_eq_getElem_cons hlt,FF] at he
   refine aF (s:=[(false,.int .i64),(false,.int .i64)]) (W3 hok _) ?_
   refine b6 (fun h=>is (by rw[←he,if_pos h])) fun h=>?_
   rw[if_neg h] at he
   refine hX _ hlt ⟨?_,he⟩
   show IntKind.i64.wrap ((k:Int)+1)=_
   rw[bB]<;>omega
  ·rw[List.length_map] at hge
   have:k=l.length:=by omega
   subst this
   rw[List.drop_length,FF] at he
   exact is he.symm
end Go.Pv
namespace Go.Pv
open Go Go.Proofs
def mQ (a0:aC) (m1:List aD) (m2:List aD) (m3:List aD) (m4:List aD):List T:=[MZ a0 m1 m2 m3 m4]
noncomputable def IB:Env:=Env.of [(250,.pure dZ),(245,.pure uI),(255,.pure D1),(254,.pure fL),(251,.pure jZ),(256,.new BL)]
def UX:FuncId→Hint:=bV 91 [(4,.inv [.own 3 2 (.pr (.int .i64) (.int .i64)),.map 0 .str false .bool,.val 29 false (.int .i64)]),(15,.inv [.val 76 false (.int .i64),.map 0 .str false .bool]),(31,.inv [.own 3 2 (.pr (.int .i64) (.int .i64)),.val 147 false (.int .i64)])] (fun _=>aX)
theorem Z7:aR Tryz.prog IB:=.cons HO (.cons A10 (.cons AZT (.cons V3 (.cons OD (.cons AR4 (.nil _))))))
def BBR(y13:ByteArray)(s12:Int×List (ByteArray×Bool)×PUnit)(X11:Int×List (ByteArray×Bool)×PUnit→Prop):Prop:=nO (Option (Nat×D)) (findD TypeDesc.string (Value.string y13) (List.map (cK Sy.str false Sy.bool) s12.2.1) 0) fun (y24:Option (Nat×D))=>dL Sy.str false Sy.bool (eJ (List.map (cK Sy.str false Sy.bool) s12.2.1) y24 (Value.string y13) (D.p BAW)) fun (y25:List (ByteArray×Bool))=>X11 (IntKind.i64.wrap (s12.1+1),y25,())
def BBT(a0:aC):List (List T):=List.map aG.enc a0.2.2.2.2.1
def BBU(a0:aC):List (List T):=List.map aO.enc a0.2.2.1
def BBS(a0:aC)(m1:List aD)(m2:List aD)(m3:List aD)(m4:List aD)(y17:aY):List T:=[T.ref [T.ref [T.v (.string a0.1), T.sl false (List.map aZ.enc a0.2.1), T.sl false (BBU a0), T.sl false (List.map a7.enc a0.2.2.2.1), T.sl false (BBT a0), T.sl false (List.map aQ.enc a0.2.2.2.2.2)], T.mp (bJ m1),T.mp (bJ m2), T.mp (bJ m3),T.mp (bJ m4)], T.v (.string y17.2.2.2.1)]
def BBV(y3:aM):List (List T):=List.map Sy.str.enc y3.2.2.2.2
def BBW(y18:List ByteArray×Bool):List (List T):=List.map Sy.str.enc y18.1
def BBX(y3:aM):List (List T):=List.map Sy.str.enc y3.2.2.1
def IJ(a0:aC)(m1:List aD)(m2:List aD)(m3:List aD)(m4:List aD)(R:T→Prop):Prop:=dL Sy.str false Sy.bool [] fun (y0:List (ByteArray×Bool))=>a6 (List aP×List (ByteArray×Bool)×Int×PUnit) (fun X1 s2=>aB (decide (s2.2.2.1<(↑(BBT a0).length:Int))) (aS aG (BBT a0) s2.2.2.1 fun (y3:aM)=>aJ BAS (dZ [T.v (.string y3.1)]) fun (y4:Bool)=>aB (!y4) (R BA0) (aJ BAS (fL [T.ref [T.ref [T.v (.string a0.1),T.sl false (List.map aZ.enc a0.2.1), T.sl false (BBU a0), T.sl false (List.map a7.enc a0.2.2.2.1), T.sl false (BBT a0), T.sl false (List.map aQ.enc a0.2.2.2.2.2)], T.mp (bJ m1),T.mp (bJ m2),T.mp (bJ m3), T.mp (bJ m4)], T.v (.string y3.2.1)]) fun (y5:Bool)=>aB (!y5) (R BA9) (aB (decide (y3.2.2.2.1<1)) (R BAR) (aB (decide (10000<y3.2.2.2.1)) (R BAR) (aJ [(false,Sy.any)] (D1 [T.sl false (BBX y3)]) fun (y6:T)=>aJ BAS (uI [T.v (Value.int IntKind.i64 (↑(BBX y3).length:Int)), y6]) fun (y7:Bool)=>aB (!y7) (R BAY) (aJ [(false,Sy.any)] (D1 [T.sl false (BBV y3)]) fun (y8:T)=>aJ BAS (uI [T.v (Value.int IntKind.i64 (↑(BBV y3).length:Int)), y8]) fun (y9:Bool)=>aB (!y9) (R BAY) (dL Sy.str false Sy.bool (List.map (cK Sy.str false Sy.bool) s2.2.1) fun (y10:List (ByteArray×Bool))=>a6 (Int×List (ByteArray×Bool)×PUnit) (fun X11 s12=>aB (decide (s12.1<(↑(BBX y3).length:Int))) (aS Sy.str (BBX y3) s12.1 fun (y13:ByteArray)=>fZ TypeDesc.string (Value.string y13) (pL (bJ m2)) false BAV (R BA9) fun (i14:Nat) (y15:Int)=>aS aO (BBU a0) y15 fun (y16:aY)=>aB (!decide (y16.2.2.1=4)) (aB (!decide (y16.2.2.1=3)) (R (T.v (.int .i64 10))) (aS aO (BBU a0) y15 fun (y17:aY)=>aJ [(false,Sy.str.li),(false,Sy.bool)] (jZ (BBS a0 m1 m2 m3 m4 y17)) fun (y18:List ByteArray×Bool)=>aB (decide ((↑(BBW y18).length:Int)=0)) (R BA1) (aS Sy.str (BBW y18) (IntKind.i64.wrap ((↑(BBW y18).length:Int)-1)) fun (y19:ByteArray)=>aB (!decide (y19=y3.2.1)) (R BA1) (fZ TypeDesc.string (Value.string y13) (List.map (cK Sy.str false Sy.bool) s12.2.1) false Sy.bool (BBR y13 s12 X11) fun (i20:Nat) (y21:Bool)=>aB y21 (R BA5) (nO (Option (Nat×D)) (findD TypeDesc.string (Value.string y13) (List.map (cK Sy.str false Sy.bool) s12.2.1) 0) fun (y22:Option (Nat×D))=>dL Sy.str false Sy.bool (eJ (List.map (cK Sy.str false Sy.bool) s12.2.1) y22 (Value.string y13) (D.p BAW)) fun (y23:List (ByteArray×Bool))=>X11 (IntKind.i64.wrap (s12.1+1),y23, ())))))) (aS aO (BBU a0) y15 fun (y26:aY)=>aJ [(false,Sy.str.li),(false,Sy.bool)] (jZ (BBS a0 m1 m2 m3 m4 y26)) fun (y27:List ByteArray×Bool)=>aB (decide ((↑(BBW y27).length:Int)=0)) (R BA1) (aS Sy.str (BBW y27) (IntKind.i64.wrap ((↑(BBW y27).length:Int)-1)) fun (y28:ByteArray)=>aB (!decide (y28=y3.2.1)) (R BA1) (fZ TypeDesc.string (Value.string y13) (List.map (cK Sy.str false Sy.bool) s12.2.1) false Sy.bool (BBR y13 s12 X11) fun (i29:Nat) (y30:Bool)=>aB y30 (R BA5) (BBR y13 s12 X11))))) (cG aA (List.map aA.enc s2.1) fun (y35:List aP)=>a6 (List aP×Int×PUnit) (fun X36 s37=>aB (decide (s37.2.1 < (↑(BBV y3).length:Int))) (aS Sy.str (BBV y3) s37.2.1 fun (y38:ByteArray)=>aB (decide (y38=y3.1)) (R BA1) (fZ TypeDesc.string (Value.string y38) (pL (bJ m4)) false BAV (R BA9) fun (i39:Nat) (y40:Int)=>bS (decide (((List.map aA.enc s37.1).length+1)*16 ≤ 140737488355328) && decide ((List.map aA.enc s37.1).length+1 ≤ 140737488355328)) (cG aA (List.map aA.enc s37.1 ++ [[T.v (.int .i64 y40), T.v (Value.int IntKind.i64 s2.2.2.1)]]) fun (y41:List aP)=>X36 (y41,IntKind.i64.wrap (s37.2.1+1),())))) (cG aA (List.map aA.enc s37.1) fun (y42:List aP)=>dL Sy.str false Sy.bool (List.map (cK Sy.str false Sy.bool) s12.2.1) fun (y43:List (ByteArray×Bool))=>X1 (y42,y43,IntKind.i64.wrap (s2.2.2.1+1),()))) (y35,0,()))) (0,y10,())))))))) (aJ [(false,BAV.li),(false,Sy.int IntKind.i64)] (BL [T.v (Value.int IntKind.i64 (↑(BBT a0).length:Int)), T.sl false (List.map aA.enc s2.1)]) fun (y44:List Int×Int)=>aB (!decide (y44.2=0)) (R (T.v (.int .i64 20))) (R BAU))) ([],y0,0,())
theorem UO ( a0 m1 m2 m3 m4 R):dS bZ Tryz.prog IB UX 8 91 (mQ a0 m1 m2 m3 m4) R=IJ a0 m1 m2 m3 m4 R:=by kernel_rfl
theorem P5 (x y:aC×MP×MP×MP×MP) (h:mQ x.1 x.2.1 x.2.2.1 x.2.2.2.1 x.2.2.2.2=mQ y.1 y.2.1 y.2.2.1 y.2.2.2.1 y.2.2.2.2):x=y:=pG (List.cons.inj h).1
abbrev gW (k:aM):List ByteArray:=k.2.2.1
abbrev eT (k:aM):List ByteArray:=k.2.2.2.2
abbrev SH (k:aM):Int:=k.2.2.2.1
def vW (d:aC) (k:aM):Int:=if x7 k.1=false then 6 else if vX d k.2.1=false then 8 else if SH k<1∨10000<SH k then 9 else if pJ (gW k)=false∨pJ (eT k)=false then 11 else 0
def instE (d:aC) (b:ByteArray):List ByteArray→List ByteArray→Int×List ByteArray
 | [],S=>(0,S)
 | id::l,S=>match partOf d id with
  | none=>(8,S)
  | some p=>if ¬ eZ p=4∧¬ eZ p=3 then (10,S) else if (up d (nP p)).1.getLast? = some b then (if zW S id=true then (7,S) else instE d b l (id::S)) else (2,S)
def Q2 (d:aC) (k:ByteArray) (i:Int):List ByteArray→List aP→Int×List aP
 | [],E=>(0,E)
 | id::l,E=>if id=k then (2,E) else match iO (gQ (ids d.2.2.2.2.1)) id with
  | none=>(8,E)
  | some j=>Q2 d k i l (E++[(j,i)])
def oB (d:aC):List aM→Int→List aP→List ByteArray→Int×List aP
 | [],_,E,_=>(0,E)
 | k::l,i,E,S=>if ¬ vW d k=0 then (vW d k,E) else if ¬ (instE d k.2.1 (gW k) S).1=0 then ((instE d k.2.1 (gW k) S).1,E) else if ¬ (Q2 d k.1 i (eT k) E).1=0 then ((Q2 d k.1 i (eT k) E).1,E) else
  oB d l (i+1) (Q2 d k.1 i (eT k) E).2 (instE d k.2.1 (gW k) S).2
def iL (d:aC):Int:=if (oB d d.2.2.2.2.1 0 [] []).1=0 then (if (kJ d.2.2.2.2.1.length (oB d d.2.2.2.2.1 0 [] []).2).2=0 then 0 else 20) else (oB d d.2.2.2.2.1 0 [] []).1
def w7 (d:aC):Bool:=d.2.2.2.2.1.all (fun k=>decide ((gW k).length≤140737488355328)&&decide ((eT k).length≤140737488355328))&&decide (d.2.2.2.2.1.length≤64)
theorem lQ (a b:ByteArray):cE a b=true↔a.data.toList<b.data.toList:=by
 unfold cE;rw[bytesLess_eq,decide_eq_true_iff]
theorem AFT {a b:ByteArray} (h:(!(cE b a||decide (b=a)))=true):a.data.toList<b.data.toList:=by
 simp only[Bool.not_eq_true',Bool.or_eq_false_iff,decide_eq_false_iff_not] at h
 refine Classical.byContradiction fun hc=>h.2 ?_
 have h1:¬ b.data.toList<a.data.toList:=fun h'=>by rw[(lQ b a).2 h'] at h;exact absurd h.1 (by decide)
 have e:b.data.toList=a.data.toList:=List.le_antisymm (List.not_lt.1 hc) (List.not_lt.1 h1)
 exact ByteArray.ext (Array.ext' e)
theorem VF:∀ {l:List ByteArray},pJ l=true→l.Pairwise fun a b=>a.data.toList<b.data.toList
 | [],_=>List.Pairwise.nil
 | [a],_=>by simp
 | a::b::l,h=>by
  rw[pJ,Bool.and_eq_true] at h
  have h1:=AFT h.1
  have ih:=VF h.2
  refine List.pairwise_cons.2 ⟨fun x hx=>?_,ih⟩
  rcases List.mem_cons.1 hx with rfl|hx
  ·exact h1
  ·exact List.lt_trans h1 ((List.pairwise_cons.1 ih).1 x hx)
theorem rI {l:List ByteArray} (h:pJ l=true):l.Nodup:=by
 refine (VF h).imp fun {a b} hab e=>?_
 subst e
 exact List.lt_irrefl _ hab
theorem AGC:∀ {l m:List ByteArray},l.Nodup→(∀ x∈l,x∈m)→l.length≤m.length
 | [],_,_,_=>Nat.zero_le _
 | a::l,m,h,hm=>by
  obtain ⟨h1,h2⟩:=List.pairwise_cons.1 h
  have h3:l.length≤(m.filter fun x=>decide (x≠a)).length:=AGC h2 fun x hx=>List.mem_filter.2 ⟨hm x (List.mem_cons_of_mem _ hx),decide_eq_true fun e=>h1 x hx e.symm⟩
  have h4:(m.filter fun x=>decide (x≠a)).length<m.length:=List.length_filter_lt_length_iff_exists.2 ⟨a,hm a List.mem_cons_self,by simp⟩
  rw[List.length_cons];omega
def sF (x:aC×MP×MP×MP×MP):Option T:=match w7 x.1 with
 | true=>uE x (T.v (Value.int .i64 (iL x.1)))
 | false=>none
noncomputable def rQ:List T→Option (T):=gA (fun (x:aC×List aD×List aD×List aD×List aD)=>mQ x.1 x.2.1 x.2.2.1 x.2.2.2.1 x.2.2.2.2) sF
theorem WJ (a0:aC) (m1:List aD) (m2:List aD) (m3:List aD) (m4:List aD):rQ (mQ a0 m1 m2 m3 m4)=sF (a0,m1,m2,m3,m4):=e8 (A:=(fun (x:aC×List aD×List aD×List aD×List aD)=>mQ x.1 x.2.1 x.2.2.1 x.2.2.2.1 x.2.2.2.2)) P5 (a0,m1,m2,m3,m4)
theorem ALL (h:∀ (a0:aC) (m1:List aD) (m2:List aD) (m3:List aD) (m4:List aD) (r:T),sF (a0,m1,m2,m3,m4)=some r→(∀ t∈mQ a0 m1 m2 m3 m4,Bd t)→IJ a0 m1 m2 m3 m4 (fun y=>y=r)):aN Tryz.prog 91 rQ :=
 cQ (E:=IB) (Hs:=UX) Z7 aT aW (aL rfl) 8 ⟨_,_,Tryz.func91,rfl⟩ fun x r h1 h2=>by
  rw[UO]
  exact h x.1 x.2.1 x.2.2.1 x.2.2.2.1 x.2.2.2.2 r h1 h2
theorem A8Y {α:Type} {id:ByteArray} {l:List (ByteArray×α)} {A:Prop} {B:Nat→Int→Prop} (hA:iO (gQ (ids l)) id=none→l.find? (fun s=>decide (s.1=id))=none→A) (hB:∀ i k (h:k<l.length),iO (gQ (ids l)) id=some (k:Int)→l.find? (fun s=>decide (s.1=id))=some l[k]→B i (k:Int)) :
  fZ TypeDesc.string (Value.string id) (pL (bJ (gQ (ids l)))) false (Sy.int IntKind.i64) A B:=by
 rw[XW]
 refine A5 (r:=.int .i64) (fun h=>?_) fun i v h=>?_
 ·rcases BO id l with ⟨h1,h2⟩|⟨k,hk,h1,_⟩
  ·exact hA h1 h2
  ·rw[h] at h1;cases h1
 ·rcases BO id l with ⟨h1,_⟩|⟨k,hk,h1,h2⟩
  ·rw[h] at h1;cases h1
  ·rw[h] at h1;cases h1;exact hB i k hk h h2
theorem A8Z {l:List ByteArray} {b:ByteArray} {A:Prop} (hl:l.length≤140737488355328) (hyes:l.getLast? = some b→A) (hno:¬ l.getLast? = some b→A) {R2:Prop} (hR2:¬ l.getLast? = some b→R2) {K:Prop} (hK:l.getLast? = some b→K) :
  aB (decide (((List.map Sy.str.enc l).length:Int)=0)) R2 (aS Sy.str (List.map Sy.str.enc l) (IntKind.i64.wrap (((List.map Sy.str.enc l).length:Int)-1)) fun (y:ByteArray)=>aB (!decide (y=b)) R2 K):=by
 rw[List.length_map]
 refine b6 (fun h=>hR2 ?_) fun h=>?_
 ·have:l=[]:=List.length_eq_zero_iff.1 (by omega)
  rw[this];simp
 ·have h1:l.length-1<l.length:=by omega
  rw[bB _ (by omega) (by omega),show ((l.length:Int)-1)=((l.length-1:Nat):Int) by omega,bA (r:=.str) h1]
  have e:l.getLast? = some l[l.length-1]:=by rw[List.getLast?_eq_getElem?,List.getElem?_eq_getElem h1]
  refine jB (fun h=>hR2 ?_) fun h=>hK ?_
  ·rw[e];intro h';exact h (Option.some.inj h')
  ·rw[e];exact congrArg some h
theorem A9I {es:List (ByteArray×Bool)} {S:List ByteArray} {id:ByteArray} {R7:Prop} {K:List (ByteArray×Bool)→Prop} (hS:Seen es (fun x=>x∈S)) (h7:id∈S→R7) (hK:∀ es',id∉S→Seen es' (fun x=>x∈id::S)→K es') :
  fZ TypeDesc.string (Value.string id) (List.map (cK Sy.str false Sy.bool) es) false Sy.bool
   (nO (Option (Nat×D)) (findD TypeDesc.string (Value.string id) (List.map (cK Sy.str false Sy.bool) es) 0) fun (y24:Option (Nat×D)) =>
    dL Sy.str false Sy.bool (eJ (List.map (cK Sy.str false Sy.bool) es) y24 (Value.string id) (D.p (T.v (.bool true)))) fun (y25:List (ByteArray×Bool))=>K y25)
   fun (i20:Nat) (y21:Bool)=>aB y21 R7
    (nO (Option (Nat×D)) (findD TypeDesc.string (Value.string id) (List.map (cK Sy.str false Sy.bool) es) 0) fun (y22:Option (Nat×D)) =>
     dL Sy.str false Sy.bool (eJ (List.map (cK Sy.str false Sy.bool) es) y22 (Value.string id) (D.p (T.v (.bool true)))) fun (y23:List (ByteArray×Bool))=>K y23):=by
 refine A5 (r:=.bool) (fun hno=>?_) fun j b hb=>?_
 ·refine ATV (r:=.bool) rfl (es:=es) (k:=id) (v:=true) (hK _ (fun h=>?_) ((hS.ins id).congr fun x=>?_))
  ·have:=(hS.2 id).2 h
   rw[hno] at this;cases this
  ·rw[List.mem_cons];exact ⟨fun h=>h.symm.imp_left Eq.symm,fun h=>h.symm.imp_right Eq.symm⟩
 ·have:=hS.1 _ _ hb
  subst this
  rw[iV]
  exact h7 ((hS.2 _).1 hb)
theorem AJ0:aN Tryz.prog 91 rQ:=ALL fun d m1 m2 m3 m4 r h hb=>by
 unfold sF at h
 split at h
 case h_2=>cases h
 rename_i hok
 replace hok:w7 d=true:=hok
 obtain ⟨hx,hs,rfl⟩:=nB h
 simp only[Prod.mk.injEq,true_and] at hx
 obtain ⟨rfl,rfl,rfl,rfl⟩:=hx
 replace hs:lU d:=hs
 clear h hb
 simp only[w7,Bool.and_eq_true,decide_eq_true_eq,List.all_eq_true] at hok
 obtain ⟨hkp,hka⟩:=hok
 have hkq:=fun k hk=>(hkp k hk).2
 replace hkp:=fun k hk=>(hkp k hk).1
 have hlk:=hs.k
 have is:∀ {n:Int},iL d=n→T.v (.int .i64 n)=T.v (.int .i64 (iL d)):=fun h=>by rw[h]
 unfold IJ BBX BBW BBV BBS BBU BBT BBR BA9 BA5 BA1 BA0 BAY BAW BAV BAU BAS BAR
 refine mT (r:=.bool) rfl [] _ ?_
 refine bG d.2.2.2.2.1.length (fun k s=>∃ S,s.2.2.1=(k:Int)∧Seen s.2.1 (fun x=>x∈S)∧s.1.length≤64*k∧oB d (d.2.2.2.2.1.drop k) k s.1 S=oB d d.2.2.2.2.1 0 [] []) ⟨[],rfl,Seen.nil.congr (by simp),by simp,rfl⟩ ?_
 rintro X k ⟨E,es,i,u⟩ hk ⟨S,rfl,hseen,hlen,hr⟩ hX
 dsimp only at hseen hlen hr ⊢
 refine b6 (fun hlt=>?_) fun hge=>?_
 ·rw[List.length_map] at hlt
  have hlt:k<d.2.2.2.2.1.length:=by omega
  rw[bA (r:=aG) hlt]
  rw[List.drop_eq_getElem_cons hlt] at hr
  have hmem:=List.getElem_mem hlt
  have hp1:=hkp _ hmem
  have hp2:=hkq _ hmem
  generalize hy:d.2.2.2.2.1[k]=y at hr hp1 hp2 ⊢
  rw[oB] at hr
  have bad:∀ {n:Int},n≠0→(oB d d.2.2.2.2.1 0 [] []).1=n→T.v (.int .i64 n)=T.v (.int .i64 (iL d)):=fun hn h=>by
   refine is ?_
   unfold iL
   rw[if_neg (by rw[h];exact hn),h]
  have badH:∀ {n:Int},n≠0→vW d y=n→T.v (.int .i64 n)=T.v (.int .i64 (iL d)):=fun hn h=>by
   refine bad hn ?_
   rw[if_pos (by rw[h];exact hn)] at hr
   rw[←hr];exact h
  rw[l7]
  refine fB (fun h=>badH (by decide) (by unfold vW;rw[if_pos h])) fun i1=>?_
  refine aF (s:=[(false,.bool)]) (KR hs _) ?_
  refine fB (fun h=>badH (by decide) (by unfold vW;rw[if_neg (by rw[i1];decide),if_pos h])) fun i2=>?_
  have n1:¬ x7 y.1=false:=by rw[i1];decide
  have n2:¬ vX d y.2.1=false:=by rw[i2];decide
  refine b6 (fun h=>badH (by decide) (by unfold vW;rw[if_neg n1,if_neg n2,if_pos (.inl h)])) fun h3=>?_
  refine b6 (fun h=>badH (by decide) (by unfold vW;rw[if_neg n1,if_neg n2,if_pos (.inr h)])) fun h4=>?_
  have n3:¬ (SH y<1∨10000<SH y):=by rintro (h|h);exact h3 h;exact h4 h
  refine aF (s:=[(false,.any)]) (O4 (a0:=gW y)) ?_
  refine HU (b:=pJ (gW y)) (by rw[List.length_map];exact ATJ hp1) _ ?_
  refine fB (fun h=>badH (by decide) (by unfold vW;rw[if_neg n1,if_neg n2,if_neg n3,if_pos (.inl h)])) fun h5=>?_
  refine aF (s:=[(false,.any)]) (O4 (a0:=eT y)) ?_
  refine HU (b:=pJ (eT y)) (by rw[List.length_map];exact ATJ (l:=eT y) hp2) _ ?_
  refine fB (fun h=>badH (by decide) (by unfold vW;rw[if_neg n1,if_neg n2,if_neg n3,if_pos (.inr h)])) fun h6=>?_
  have hh:vW d y=0:=by unfold vW;rw[if_neg n1,if_neg n2,if_neg n3,if_neg];rintro (h|h);(rw[h5] at h;cases h);(rw[h6] at h;cases h)
  have hnd:=rI h6
  clear badH n1 n2 n3 h3 h4 h5 h6 i1 i2
  rw[if_neg (fun h=>h hh)] at hr
  refine mT (r:=.bool) rfl es _ ?_
  refine bG (gW y).length (fun j s=>∃ S',s.1=(j:Int)∧Seen s.2.1 (fun x=>x∈S')∧instE d y.2.1 ((gW y).drop j) S'=instE d y.2.1 (gW y) S) ⟨S,rfl,hseen,rfl⟩ ?_
  rintro Y j ⟨i,es',u⟩ hj ⟨S',rfl,hseen',hi⟩ hY
  dsimp only at hseen' hi ⊢
  refine b6 (fun hjl=>?_) fun hjl=>?_
  ·rw[List.length_map] at hjl
   replace hjl:(j:Int)<((gW y).length:Int):=hjl
   have hjl:j<(gW y).length:=by omega
   rw[bA (r:=.str) hjl]
   rw[List.drop_eq_getElem_cons hjl,instE] at hi
   have badI:∀ {n:Int},n≠0→(instE d y.2.1 (gW y) S).1=n→T.v (.int .i64 n)=T.v (.int .i64 (iL d)):=fun hn h=>by
    refine bad hn ?_
    rw[if_pos (by rw[h];exact hn)] at hr
    rw[←hr];exact h
   have hw:IntKind.i64.wrap ((j:Int)+1)=((j+1:Nat):Int):=bB _ (by omega) (by omega)
   generalize (gW y)[j]=id at hi ⊢
   refine A8Y (fun _ hn=>badI (by decide) ?_) fun i q hq _ hn=>?_
   ·have hn:partOf d id=none:=hn
    rw[hn] at hi;rw[←hi]
   ·have hn:partOf d id=some d.2.2.1[q]:=hn
    rw[hn] at hi
    rw[bA (r:=aO) hq]
    obtain ⟨p,hp⟩:∃ p,p=d.2.2.1[q]:=⟨_,rfl⟩
    rw[←hp] at hi hn ⊢
    dsimp only at hi
    have fin:¬ (¬ eZ p=4∧¬ eZ p=3)→aJ [(false,Sy.str.li),(false,Sy.bool)]
      (jZ (kV d (gQ (ids d.2.1)) (gQ (ids d.2.2.1)) (gQ (ids d.2.2.2.1)) (gQ (ids d.2.2.2.2.1)) (nP p))) fun (y18:List ByteArray×Bool) =>
      aB (decide (((List.map Sy.str.enc y18.1).length:Int)=0)) (T.v (.int .i64 2)=T.v (.int .i64 (iL d)))
       (aS Sy.str (List.map Sy.str.enc y18.1) (IntKind.i64.wrap (((List.map Sy.str.enc y18.1).length:Int)-1)) fun (y19:ByteArray) =>
        aB (!decide (y19=y.2.1)) (T.v (.int .i64 2)=T.v (.int .i64 (iL d)))
        (fZ TypeDesc.string (Value.string id) (List.map (cK Sy.str false Sy.bool) es') false Sy.bool
         (nO (Option (Nat×D)) (findD TypeDesc.string (Value.string id) (List.map (cK Sy.str false Sy.bool) es') 0) fun (y24:Option (Nat×D)) =>
          dL Sy.str false Sy.bool (eJ (List.map (cK Sy.str false Sy.bool) es') y24 (Value.string id) (D.p (T.v (.bool true)))) fun (y25:List (ByteArray×Bool))=>Y (IntKind.i64.wrap ((j:Int)+1),y25,()))
         fun (i20:Nat) (y21:Bool)=>aB y21 (T.v (.int .i64 7)=T.v (.int .i64 (iL d)))
          (nO (Option (Nat×D)) (findD TypeDesc.string (Value.string id) (List.map (cK Sy.str false Sy.bool) es') 0) fun (y22:Option (Nat×D)) =>
           dL Sy.str false Sy.bool (eJ (List.map (cK Sy.str false Sy.bool) es') y22 (Value.string id) (D.p (T.v (.bool true)))) fun (y23:List (ByteArray×Bool))=>Y (IntKind.i64.wrap ((j:Int)+1),y23,())))):=by
     intro hk
     rw[if_neg hk] at hi
     refine aF (s:=[(false,.li .str),(false,.bool)]) (F4 hs _) ?_
     have hul:=A6O d (nP p)
     refine A8Z (A:=True) (b:=y.2.1) (by omega) (fun _=>trivial) (fun _=>trivial) (fun h=>badI (by decide) ?_) fun h=>?_
     ·rw[if_neg h] at hi;rw[←hi]
     ·rw[if_pos h] at hi
      refine A9I (K:=fun es=>Y (IntKind.i64.wrap ((j:Int)+1),es,())) hseen' (fun h7=>badI (by decide) ?_) fun es2 h7 hs2=>?_
      ·rw[if_pos (BY.2 h7)] at hi;rw[←hi]
      ·rw[if_neg (fun h=>h7 (BY.1 h))] at hi
       rw[hw]
       exact hY _ hjl ⟨id::S',rfl,hs2,hi⟩
    refine jB (fun k4=>?_) fun k4=>?_
    ·refine jB (fun k3=>badI (by decide) ?_) fun k3=>?_
     ·rw[if_pos ⟨k4,k3⟩] at hi;rw[←hi]
     ·rw[bA (r:=aO) hq,←hp]
      exact fin fun h=>h.2 k3
    ·rw[bA (r:=aO) hq,←hp]
     exact fin fun h=>h.1 k4
  ·rw[List.length_map] at hjl
   replace hjl:¬ (j:Int)<((gW y).length:Int):=hjl
   have hjl:j=(gW y).length:=by omega
   subst hjl
   rw[List.drop_length,instE] at hi
   rw[←hi,if_neg (by simp)] at hr
   dsimp only at hr
   clear hY hi hj
   rw[dK rfl]
   refine bG (eT y).length (fun j s=>s.2.1=(j:Int)∧s.1.length=E.length+j∧(∀ x∈(eT y).take j,x∈ids d.2.2.2.2.1)∧Q2 d y.1 k ((eT y).drop j) s.1=Q2 d y.1 k (eT y) E) ⟨rfl,by simp,by simp,rfl⟩ ?_
   rintro Y j ⟨E',i,u⟩ hj ⟨rfl,hEl,hin,hi⟩ hY
   dsimp only at hEl hin hi ⊢
   have hjk:j≤64:=by
    have h1:=AGC (hnd.sublist (List.take_sublist j _)) hin
    have h2:(ids d.2.2.2.2.1).length=d.2.2.2.2.1.length:=by simp[ids]
    rw[List.length_take] at h1
    omega
   refine b6 (fun hjl=>?_) fun hjl=>?_
   ·rw[List.length_map] at hjl
    replace hjl:(j:Int)<((eT y).length:Int):=hjl
    have hjl:j<(eT y).length:=by omega
    rw[bA (r:=.str) hjl]
    rw[List.drop_eq_getElem_cons hjl,Q2] at hi
    have badA:∀ {n:Int},n≠0→(Q2 d y.1 k (eT y) E).1=n→T.v (.int .i64 n)=T.v (.int .i64 (iL d)):=fun hn h=>by
     refine bad hn ?_
     rw[if_pos (by rw[h];exact hn)] at hr
     rw[←hr];exact h
    have hw:IntKind.i64.wrap ((j:Int)+1)=((j+1:Nat):Int):=bB _ (by omega) (by omega)
    have hts:(eT y).take (j+1)=(eT y).take j++[(eT y)[j]]:=List.take_succ_eq_append_getElem hjl
    generalize (eT y)[j]=id at hi hts ⊢
    refine b6 (fun h=>badA (by decide) ?_) fun h=>?_
    ·rw[if_pos h] at hi;rw[←hi]
    rw[if_neg h] at hi
    refine A8Y (fun hg _=>badA (by decide) ?_) fun i q hq hg hfi=>?_
    ·rw[hg] at hi;rw[←hi]
    ·rw[hg] at hi
     dsimp only at hi
     refine ⟨by simp;omega,?_⟩
     rw[DJ (r:=aA) rfl E' [T.v (.int .i64 (q:Int)),T.v (.int .i64 (k:Int))] ((q:Int),(k:Int)) rfl,hw]
     refine hY _ hjl ⟨rfl,by simp only[List.length_append,List.length_cons,List.length_nil];omega,fun x hx=>?_,hi⟩
     rw[hts] at hx
     rcases List.mem_append.1 hx with hx|hx
     ·exact hin x hx
     ·have hx:x=id:=by simpa using hx
      subst hx
      have h9:=List.find?_some hfi
      exact List.mem_map.2 ⟨_,List.getElem_mem hq,of_decide_eq_true h9⟩
   ·rw[List.length_map] at hjl
    replace hjl:¬ (j:Int)<((eT y).length:Int):=hjl
    have hjl:j=(eT y).length:=by omega
    subst hjl
    rw[List.drop_length,Q2] at hi
    rw[←hi,if_neg (by simp)] at hr
    dsimp only at hr
    rw[dK rfl]
    refine mT (r:=.bool) rfl es' _ ?_
    refine hX _ hlt ⟨S',?_,hseen',?_,?_⟩
    ·show IntKind.i64.wrap ((k:Int)+1)=_
     rw[bB]<;>omega
    ·show E'.length≤_
     omega
    ·rw[←hr];rfl
 ·rw[List.length_map] at hge
  have hkl:k=d.2.2.2.2.1.length:=by omega
  subst hkl
  rw[List.drop_length,oB] at hr
  have w:iL d=if (kJ d.2.2.2.2.1.length E).2=0 then 0 else 20:=by
   unfold iL;rw[←hr,if_pos rfl]
  refine aF (s:=[(false,.li (.int .i64)),(false,.int .i64)]) (y:=kJ d.2.2.2.2.1.length E) (by rw[List.length_map];exact (AC7 ..).trans (fC (l:=E) _ (by omega))) ?_
  exact jB (fun h=>is (by rw[w,if_neg h])) fun h=>is (by rw[w,if_pos h])
end Go.Pv
namespace Go.Pv
open Go Go.Proofs
theorem HQ {a:Option MP} {es:MP} {K:MP→Prop} (h:a=some es) (hk:K es):nO (List (ByteArray×Int)) a K:=⟨es,h,hk⟩
end Go.Pv
namespace Go.Pv
open Go Go.Proofs
noncomputable def OR:List T→Option (List (ByteArray×Int)):=AKT
theorem A35:jN Tryz.prog 240 (qW OR):=A8S
noncomputable def A2G:Env:=Env.of [(84,.pure vK),(85,.pure gI),(240,.AJU OR),(87,.pure KQ),(88,.pure vE),(89,.pure rR),(90,.pure vF),(91,.pure rQ),(92,.pure vD)]
def A2U:FuncId→Hint:=fun _=>aX
theorem AN2:aR Tryz.prog A2G:=.cons AJ5 (.cons wT (.cons A35 (.cons AZP (.cons AJW (.cons AJ1 (.cons AJX (.cons AJ0 (.cons AJV (.nil _)))))))))
def BB1(a0:aC):List (List T):=List.map aG.enc a0.2.2.2.2.1
def BB3(a0:aC):List (List T):=List.map a7.enc a0.2.2.2.1
def BBY(a0:aC):List T:=[T.v (.string a0.1), T.sl false (List.map aZ.enc a0.2.1), T.sl false (List.map aO.enc a0.2.2.1), T.sl false (BB3 a0), T.sl false (BB1 a0), T.sl false (List.map aQ.enc a0.2.2.2.2.2)]
def BBZ(a0:aC):List T:=[T.ref [T.ref [T.sl false (List.map aQ.enc a0.2.2.2.2.2), T.sl false (BB1 a0), T.sl false (BB3 a0), T.sl false (List.map aO.enc a0.2.2.1), T.sl false (List.map aZ.enc a0.2.1), T.v (.string a0.1)].reverse].reverse]
def BB0(y0:Int):T:=T.v (.int .i64 y0)
def BB2(a0:aC)(y2:List aD)(y3:List aD)(y4:List aD)(y5:List aD):List T:=[T.ref [T.ref (BBY a0), T.mp (bJ y2),T.mp (bJ y3), T.mp (bJ y4),T.mp (bJ y5)]]
def AAZ(a0:aC)(a1:aI)(R:T→Prop):Prop:=aJ BAT (vK [aH true aK a1]) fun (y0:Int)=>aB (!decide (y0=0)) (R (BB0 y0)) (aJ BAS (gI [T.v (.string a0.1)]) fun (y1:Bool)=>aB (!y1) (R BA0) (nO (List aD) (OR [T.fn 241 [].reverse (BBZ a0).reverse, T.v (.int .i64 (↑(List.map aZ.enc a0.2.1).length:Int))].reverse) fun (y2:List aD)=>nO (List aD) (OR [T.fn 242 [].reverse (BBZ a0).reverse, T.v (Value.int IntKind.i64 (↑(List.map aO.enc a0.2.2.1).length:Int))].reverse) fun (y3:List aD)=>nO (List aD) (OR [T.fn 243 [].reverse (BBZ a0).reverse, T.v (Value.int IntKind.i64 (↑(BB3 a0).length:Int))].reverse) fun (y4:List aD)=>nO (List aD) (OR [T.fn 244 [].reverse (BBZ a0).reverse, T.v (Value.int IntKind.i64 (↑(BB1 a0).length:Int))].reverse) fun (y5:List aD)=>aJ BAT (KQ [T.ref [T.ref [T.v (.string a0.1),T.sl false (List.map aZ.enc a0.2.1), T.sl false (List.map aO.enc a0.2.2.1), T.sl false (BB3 a0), T.sl false (BB1 a0), T.sl false (List.map aQ.enc a0.2.2.2.2.2)], T.mp (bJ y2),T.mp (bJ y3),T.mp (bJ y4), T.mp (bJ y5)]]) fun (y6:Int)=>aB (!decide (y6=0)) (R (BB0 y6)) (aJ BAT (vE [T.ref [T.ref (BBY a0), T.mp (bJ y2),T.mp (bJ y3),T.mp (bJ y4), T.mp (bJ y5)]]) fun (y7:Int)=>aB (!decide (y7=0)) (R (BB0 y7)) (aJ BAT (rR [T.ref [T.ref (BBY a0), T.mp (bJ y2),T.mp (bJ y3),T.mp (bJ y4), T.mp (bJ y5)], aH true aK a1]) fun (y8:Int)=>aB (!decide (y8=0)) (R (BB0 y8)) (aJ BAT (vF (BB2 a0 y2 y3 y4 y5)) fun (y9:Int)=>aB (!decide (y9=0)) (R (BB0 y9)) (aJ BAT (rQ (BB2 a0 y2 y3 y4 y5)) fun (y10:Int)=>aB (!decide (y10=0)) (R (BB0 y10)) (aJ BAT (vD (BB2 a0 y2 y3 y4 y5)) fun (y11:Int)=>R (BB0 y11))))))))
abbrev AEF:Sh:=[(true,aE),(true,aK)]
def lV (d:aC) (m:aI):Int:=if ¬ kT m=0 then kT m else if isName d.1=false then 6 else if ¬ e7 d=0 then e7 d else if ¬ kH d=0 then kH d else if ¬ mC d m=0 then mC d m else if ¬ bY (wG d) d.2.2.2.1=0 then bY (wG d) d.2.2.2.1 else if ¬ iL d=0 then iL d else bY (yM d) d.2.2.2.2.2
def HW (x:aC×aI):Option T:=some (T.v (Value.int .i64 (lV x.1 x.2)))
noncomputable def dB:List T→Option T:=gS AEF HW
theorem iI {a0 a1}:dB [aH true aE a0,aH true aK a1]=HW (a0,a1):=bD (s:=AEF) rfl (a0,a1) rfl
theorem A0K:uH Tryz.prog 39 dB HW (cB AEF) AAZ:=iK (a1:=(true,aE)) (a2:=(true,aK)) (sp:=HW) (F:=AAZ) (Hs:=A2U) (f:=39) (k:=8) AN2 aT aW (aL rfl) ⟨_,_,Tryz.func39,rfl⟩ rfl fun _ _ _=>by kernel_rfl
theorem AZ7 {m:aI} (h:kT m=0):ZG m=true:=by
 unfold kT at h
 split at h
 ·cases h
 rename_i h1
 split at h
 ·rename_i h2;exact absurd h h2
 rename_i h2
 have h2:bY (iU m) (List.range m.1.length)=0:=Classical.byContradiction h2
 simp only[ZG,Bool.and_eq_true,decide_eq_true_eq,List.all_eq_true]
 refine ⟨⟨by omega,by omega⟩,fun g hg=>?_⟩
 obtain ⟨i,hi,rfl⟩:=List.mem_iff_getElem.1 hg
 have h3:=FX h2 i (List.mem_range.2 hi)
 unfold iU at h3
 rw[jI hi] at h3
 have h4:eP m.1[i]=0:=by
  refine Classical.byContradiction fun hc=>?_
  rw[if_pos hc] at h3
  exact hc h3
 unfold eP at h4
 split at h4
 ·cases h4
 split at h4
 ·cases h4
 split at h4
 ·cases h4
 split at h4
 ·cases h4
 ·omega
theorem AY3 {d:aC} {m:aI} (hs:lU d) (hm:ZG m=true):rR (mR d (gQ (ids d.2.1)) (gQ (ids d.2.2.1)) (gQ (ids d.2.2.2.1)) (gQ (ids d.2.2.2.2.1)) m)=some (T.v (Value.int .i64 (mC d m))):=by
 rw[WK];unfold sG;dsimp only;rw[hm];exact nC hs _
theorem AY2 {d:aC} (hs:lU d) (hk:w7 d=true):rQ (mQ d (gQ (ids d.2.1)) (gQ (ids d.2.2.1)) (gQ (ids d.2.2.2.1)) (gQ (ids d.2.2.2.2.1)))=some (T.v (Value.int .i64 (iL d))):=by
 rw[WJ];unfold sF;dsimp only;rw[hk];exact nC hs _
theorem mK:aN Tryz.prog 39 dB:=A0K fun d m r h hb=>by
 cases h
 have hd:BdS aE d:=hb.1
 have hs:lU d:=⟨hd.2.1.1,hd.2.2.1.1,hd.2.2.2.1.1,hd.2.2.2.2.1.1,hd.2.2.2.2.2.1⟩
 have hkl:∀ k∈d.2.2.2.2.1,(gW k).length≤140737488355328∧(eT k).length≤140737488355328:=fun k hk=>by
  have h:=hd.2.2.2.2.1.2 k hk
  exact ⟨h.2.2.1.1,h.2.2.2.2.1⟩
 clear hd
 have is:∀ {n:Int},lV d m=n→T.v (.int .i64 n)=T.v (.int .i64 (lV d m)):=fun h=>by rw[h]
 unfold AAZ BB2 BB0 BBZ BBY BB3 BB1 BA0 BAT BAS
 refine aF (s:=[(false,.int .i64)]) (y:=kT m) (WT ..) ?_
 refine jB (fun h=>is (by unfold lV;rw[if_pos h])) fun h0=>?_
 have hm:=AZ7 h0
 refine aF (s:=[(false,.bool)]) (y:=isName d.1) vI ?_
 have n0:¬ ¬ kT m=0:=fun h=>h h0
 refine fB (fun h=>is (by unfold lV;rw[if_neg n0,if_pos h])) fun hn=>?_
 have n1:¬ isName d.1=false:=by rw[hn];decide
 refine HQ (es:=gQ (ids d.2.1)) (by rw[List.length_map];exact A4L hs.n) ?_
 refine HQ (es:=gQ (ids d.2.2.1)) (by rw[List.length_map];exact A4M hs.p) ?_
 refine HQ (es:=gQ (ids d.2.2.2.1)) (by rw[List.length_map];exact A4N hs.s) ?_
 refine HQ (es:=gQ (ids d.2.2.2.2.1)) (by rw[List.length_map];exact A4O hs.k) ?_
 refine aF (s:=[(false,.int .i64)]) (y:=e7 d) ((AKR ..).trans (nC hs _)) ?_
 refine jB (fun h=>is (by unfold lV;rw[if_neg n0,if_neg n1,if_pos h])) fun h1=>?_
 have n2:¬ ¬ e7 d=0:=fun h=>h h1
 have hk:w7 d=true:=by
  simp only[w7,Bool.and_eq_true,decide_eq_true_eq,List.all_eq_true]
  refine ⟨hkl,?_⟩
  have hlong:eU d=false:=by
   rw[Bool.eq_false_iff]
   intro h
   unfold e7 at h1
   rw[if_pos h] at h1
   cases h1
  simp only[eU,Bool.or_eq_false_iff,decide_eq_false_iff_not] at hlong
  omega
 refine aF (s:=[(false,.int .i64)]) (y:=kH d) ((WE ..).trans (nC hs _)) ?_
 refine jB (fun h=>is (by unfold lV;rw[if_neg n0,if_neg n1,if_neg n2,if_pos h])) fun h2=>?_
 have n3:¬ ¬ kH d=0:=fun h=>h h2
 refine aF (s:=[(false,.int .i64)]) (y:=mC d m) (AY3 hs hm) ?_
 refine jB (fun h=>is (by unfold lV;rw[if_neg n0,if_neg n1,if_neg n2,if_neg n3,if_pos h])) fun h3=>?_
 have n4:¬ ¬ mC d m=0:=fun h=>h h3
 refine aF (s:=[(false,.int .i64)]) (y:=bY (wG d) d.2.2.2.1) ((WG ..).trans (nC hs _)) ?_
 refine jB (fun h=>is (by unfold lV;rw[if_neg n0,if_neg n1,if_neg n2,if_neg n3,if_neg n4,if_pos h])) fun h4=>?_
 have n5:¬ ¬ bY (wG d) d.2.2.2.1=0:=fun h=>h h4
 refine aF (s:=[(false,.int .i64)]) (y:=iL d) (AY2 hs hk) ?_
 refine jB (fun h=>is (by unfold lV;rw[if_neg n0,if_neg n1,if_neg n2,if_neg n3,if_neg n4,if_neg n5,if_pos h])) fun h5=>?_
 have n6:¬ ¬ iL d=0:=fun h=>h h5
 refine aF (s:=[(false,.int .i64)]) (y:=bY (yM d) d.2.2.2.2.2) ((WD ..).trans (nC hs _)) ?_
 exact is (by unfold lV;rw[if_neg n0,if_neg n1,if_neg n2,if_neg n3,if_neg n4,if_neg n5,if_neg n6])
end Go.Pv
namespace Go.Pv
open Go Go.Proofs
def mY {α:Type} (after:α→α→Bool) (l:List α) (x:α):List α:=l.take (l.findIdx fun y=>after y x)++x::l.drop (l.findIdx fun y=>after y x)
def iQ {α:Type} (is:α→Bool) (l:List α):List α:=l.take (l.findIdx is)++l.drop (l.findIdx is+1)
theorem BR {α:Type} {after:α→α→Bool} {l:List α} {x y:α}:y∈mY after l x↔y=x∨y∈l:=by
 unfold mY
 rw[List.mem_append,List.mem_cons]
 constructor
 ·rintro (h|h|h)
  ·exact .inr (List.mem_of_mem_take h)
  ·exact .inl h
  ·exact .inr (List.mem_of_mem_drop h)
 ·rintro (h|h)
  ·exact .inr (.inl h)
  ·rw[←List.take_append_drop (l.findIdx fun y=>after y x) l,List.mem_append] at h
   rcases h with h|h
   ·exact .inl h
   ·exact .inr (.inr h)
theorem JR {α:Type} {is:α→Bool} {l:List α} {y:α} (h:y∈iQ is l):y∈l:=by
 unfold iQ at h
 rcases List.mem_append.1 h with h|h
 ·exact List.mem_of_mem_take h
 ·exact List.mem_of_mem_drop h
theorem ATQ {α:Type} {after:α→α→Bool} {l:List α} {x:α}:(mY after l x).length=l.length+1:=by
 unfold mY
 have:l.findIdx (fun y=>after y x)≤l.length:=List.findIdx_le_length
 rw[List.length_append,List.length_cons,List.length_take,List.length_drop];omega
theorem VR {α:Type} {is:α→Bool} {l:List α}:(iQ is l).length≤l.length:=by
 unfold iQ
 rw[List.length_append,List.length_take,List.length_drop];omega
theorem NZ {α β:Type} {f:α→β} {is:α→Bool} {l:List α} (hn:(l.map f).Nodup) (his:∀ x y,is x=true→is y=true→f x=f y):∀ y∈iQ is l,is y=false:=by
 induction l with
 | nil=>intro y h;simp[iQ] at h
 | cons a l ih =>
  obtain ⟨h1,h2⟩:=List.pairwise_cons.1 (show (f a::l.map f).Nodup from hn)
  intro y hy
  unfold iQ at hy
  rw[List.findIdx_cons] at hy
  cases ha:is a with
  | true =>
   rw[ha] at hy
   simp only[cond_true,List.take_zero,List.nil_append,Nat.zero_add,List.drop_succ_cons,List.drop_zero] at hy
   cases hb:is y with
   | false=>rfl
   | true=>exact absurd (his a y ha hb) (h1 _ (List.mem_map.2 ⟨y,hy,rfl⟩))
  | false =>
   rw[ha] at hy
   simp only[cond_false,List.take_succ_cons,List.drop_succ_cons,List.cons_append,List.mem_cons] at hy
   rcases hy with rfl|hy
   ·exact ha
   ·exact ih h2 y hy
abbrev fQ (x:a8):ByteArray:=x.2.1
abbrev eTo (x:a8):ByteArray:=x.2.2.1
abbrev p9 (x:a8):bI:=x.2.2.2.1
abbrev fE (x:a8):aY:=x.2.2.2.2.1
abbrev oU (x:a8):bK:=x.2.2.2.2.2.1
abbrev jO (x:a8):aM:=x.2.2.2.2.2.2.1
abbrev kL (x:a8):bC:=x.2.2.2.2.2.2.2
def nN:ByteArray:=⟨#[]⟩
def qT:bC:=(0,⟨#[]⟩,⟨#[]⟩)
def CX:aC:=(⟨#[]⟩,[],[],[],[],[])
def bU (x:a8):a8 :=
 if x.1=1 then (x.1,nN,nN,p9 x,fV,gZ,noPack,qT)
 else if x.1=3∨x.1=5 then (x.1,nN,nN,gY,fE x,gZ,noPack,qT)
 else if x.1=6 then (x.1,fQ x,eTo x,gY,fV,gZ,noPack,qT)
 else if x.1=7 then (x.1,nN,nN,gY,fV,oU x,noPack,qT)
 else if x.1=9 then (x.1,nN,nN,gY,fV,gZ,jO x,qT)
 else if x.1=11∨x.1=12 then (x.1,nN,nN,gY,fV,gZ,noPack,kL x)
 else (x.1,fQ x,nN,gY,fV,gZ,noPack,qT)
def dG (d:aC) (x:a8):Bool :=
 if x.1=1 then (fW d (p9 x).1).isSome
 else if x.1=2 then (fW d (fQ x)).isSome
 else if x.1=3∨x.1=5 then (partOf d (fE x).1).isSome
 else if x.1=4∨x.1=6 then (partOf d (fQ x)).isSome
 else if x.1=7 then (wH d (oU x).1).isSome
 else if x.1=8 then (wH d (fQ x)).isSome
 else if x.1=9 then (lP d (jO x).1).isSome
 else if x.1=10 then (lP d (fQ x)).isSome
 else d.2.2.2.2.2.any fun n=>decide (n=kL x)
def gP (x:a8):Bool:=decide (x.1=1)||decide (x.1=3)||decide (x.1=7)||decide (x.1=9)||decide (x.1=11)
def gtS (a b:ByteArray):Bool:=cE b a
def jC {α:Type} (a b:ByteArray×α):Bool:=gtS a.1 b.1
def DC (a b:bC):Bool:=T5 b a
theorem xD (a:ByteArray):cE a a=false:=by
 rw[Bool.eq_false_iff]
 intro h
 exact List.lt_irrefl _ ((lQ a a).1 h)
theorem AEU {a b c:ByteArray} (h1:cE a b=true) (h2:cE b c=true):cE a c=true:=(lQ a c).2 (List.lt_trans ((lQ a b).1 h1) ((lQ b c).1 h2))
theorem AZ6 (a:bC):T5 a a=false:=by
 unfold T5
 rw[xD,xD,decide_eq_false (Int.lt_irrefl _)]
 simp
theorem ALB {a b c:bC} (h1:T5 a b=true) (h2:T5 b c=true):T5 a c=true:=by
 unfold T5 at *
 simp only[Bool.or_eq_true,Bool.and_eq_true,decide_eq_true_eq] at *
 rcases h1 with h1|⟨e1,h1⟩
 ·rcases h2 with h2|⟨e2,h2⟩
  ·exact .inl (Int.lt_trans h1 h2)
  ·exact .inl (by omega)
 ·rcases h2 with h2|⟨e2,h2⟩
  ·exact .inl (by omega)
  ·refine .inr ⟨e1.trans e2,?_⟩
   rcases h1 with h1|⟨f1,h1⟩
   ·rcases h2 with h2|⟨f2,h2⟩
    ·exact .inl (AEU h1 h2)
    ·exact .inl (by rw[←f2];exact h1)
   ·rcases h2 with h2|⟨f2,h2⟩
    ·exact .inl (by rw[f1];exact h2)
    ·exact .inr ⟨f1.trans f2,AEU h1 h2⟩
def dW {α:Type} (id:ByteArray) (a:ByteArray×α):Bool:=decide (a.1=id)
def ADI (l:List ByteArray) (x:ByteArray):Bool:=l.any fun y=>decide (y=x)
def j6 (d:aC) (id:ByteArray):Bool:=(d.2.2.1.any fun p=>decide (nP p=id))||((d.2.1.any fun n=>decide (n.2.2=id))||((d.2.2.2.2.1.any fun k=>decide (k.2.1=id))||(d.2.2.2.2.2.any fun n=>decide (n.2.1=id)||(decide (n.2.2=id) && !decide (n.1=3)))))
def nJ (d:aC) (id:ByteArray):Bool:=(d.2.2.2.1.any fun s=>decide (s.2.1=id)||decide (s.2.2.1=id))||(d.2.2.2.2.1.any fun k=>ADI k.2.2.1 id)
def pH (d:aC) (id:ByteArray):Bool:=((iQ (dW id) d.2.2.2.2.1).any fun k=>ADI k.2.2.2.2 id)||(d.2.2.2.2.2.any fun n=>decide (n.1=3)&&decide (n.2.2=id))
def kS (d:aC) (x:a8):Bool:=if x.1=2 then j6 d (fQ x) else if x.1=4 then nJ d (fQ x) else if x.1=10 then pH d (fQ x) else false
def A96 (p old:aY):aY:=(p.1,IntKind.i64.wrap (old.2.1+1),p.2.2)
def A95 (p:aY) (id:ByteArray):aY:=(p.1,p.2.1,p.2.2.1,id,p.2.2.2.2)
def atI {α:Type} (is:α→Bool) (f:α→α) (l:List α):List α:=l.modify (l.findIdx is) f
def p8 (d:aC) (x:a8):aC :=
 if x.1=1 then (d.1,mY jC d.2.1 (p9 x),d.2.2)
 else if x.1=2 then (d.1,iQ (dW (fQ x)) d.2.1,d.2.2)
 else if x.1=3 then (d.1,d.2.1,mY jC d.2.2.1 (fE x),d.2.2.2)
 else if x.1=4 then (d.1,d.2.1,iQ (dW (fQ x)) d.2.2.1,d.2.2.2)
 else if x.1=5 then (d.1,d.2.1,atI (dW (fE x).1) (A96 (fE x)) d.2.2.1,d.2.2.2)
 else if x.1=6 then (d.1,d.2.1,atI (dW (fQ x)) (fun p=>A95 p (eTo x)) d.2.2.1,d.2.2.2)
 else if x.1=7 then (d.1,d.2.1,d.2.2.1,mY jC d.2.2.2.1 (oU x),d.2.2.2.2)
 else if x.1=8 then (d.1,d.2.1,d.2.2.1,iQ (dW (fQ x)) d.2.2.2.1,d.2.2.2.2)
 else if x.1=9 then (d.1,d.2.1,d.2.2.1,d.2.2.2.1,mY jC d.2.2.2.2.1 (jO x),d.2.2.2.2.2)
 else if x.1=10 then (d.1,d.2.1,d.2.2.1,d.2.2.2.1,iQ (dW (fQ x)) d.2.2.2.2.1,d.2.2.2.2.2)
 else if x.1=11 then (d.1,d.2.1,d.2.2.1,d.2.2.2.1,d.2.2.2.2.1,mY DC d.2.2.2.2.2 (kL x))
 else (d.1,d.2.1,d.2.2.1,d.2.2.2.1,d.2.2.2.2.1,iQ (fun n=>decide (n=kL x)) d.2.2.2.2.2)
noncomputable def bH (d:aC) (m:aI) (x:a8):aC×Int :=
 if ¬ (1≤x.1∧x.1≤12) then (CX,10)
 else if rB x (bU x)=false∨(x.1=5∧¬ (fE x).2.1=0) then (CX,2)
 else if gP x=true∧dG d x=true then (CX,7)
 else if gP x=false∧dG d x=false then (CX,8)
 else if x.1=5∧¬ nP (found fV (partOf d (fE x).1)).1=nP (fE x) then (CX,2)
 else if kS d x=true then (CX,34)
 else if lV (p8 d x) m=0 then (p8 d x,0) else (CX,lV (p8 d x) m)
structure A9W (d:aC) (m:aI) (x:a8):Prop where
 kind:1≤x.1∧x.1≤12
 plain:x=bU x
 rev:x.1=5→(fE x).2.1=0
 there:dG d x = !gP x
 node:x.1=5→nP (found fV (partOf d (fE x).1)).1=nP (fE x)
 free:kS d x=false
 chk:lV (p8 d x) m=0
 eq:bH d m x=(p8 d x,0)
theorem RI {d:aC} {m:aI} {x:a8} (h:(bH d m x).2=0):A9W d m x:=by
 have h0:=h
 unfold bH at h
 split at h
 ·cases h
 rename_i h1
 split at h
 ·cases h
 rename_i h2
 split at h
 ·cases h
 rename_i h3
 split at h
 ·cases h
 rename_i h4
 split at h
 ·cases h
 rename_i h5
 split at h
 ·cases h
 rename_i h6
 split at h
 ·rename_i h7
  have h1:1≤x.1∧x.1≤12:=Classical.byContradiction h1
  refine ⟨h1,Classical.byContradiction fun hc=>h2 (.inl (JZ hc)),fun hk=>Classical.byContradiction fun hc=>h2 (.inr ⟨hk,hc⟩),?_,fun hk=>Classical.byContradiction fun hc=>h5 ⟨hk,hc⟩,by simpa using h6,h7,?_⟩
  ·cases ha:gP x<;>cases ht:dG d x
   ·exact absurd ⟨ha,ht⟩ h4
   ·rfl
   ·rfl
   ·exact absurd ⟨ha,ht⟩ h3
  ·unfold bH
   rw[if_neg (fun h=>h h1),if_neg h2,if_neg h3,if_neg h4,if_neg h5,if_neg h6,if_pos h7]
 ·rename_i h7;exact absurd h h7
theorem A7 {α:Type} {l:List (ByteArray×α)} {a:ByteArray×α}:((mY jC l a).find? fun s=>decide (s.1=a.1)).isSome=true :=
 List.find?_isSome.2 ⟨a,BR.2 (.inl rfl),decide_eq_true rfl⟩
theorem AI9 {d:aC} {x:a8} (ha:gP x=true):dG (p8 d x) x=true:=by
 simp only[gP,Bool.or_eq_true,decide_eq_true_eq] at ha
 unfold dG p8
 rcases ha with (((h|h)|h)|h)|h
 ·simp only[h,if_true];exact A7
 ·simp only[h];exact A7
 ·simp only[h];exact A7
 ·simp only[h];exact A7
 ·simp only[h]
  exact List.any_eq_true.2 ⟨kL x,BR.2 (.inl rfl),decide_eq_true rfl⟩
theorem AMR {d:aC} {m:aI} {x:a8} (h:(bH d m x).2=0) (ha:gP x=true):(bH (bH d m x).1 m x).2=7:=by
 have k:=RI h
 rw[k.eq]
 show (bH (p8 d x) m x).2=7
 unfold bH
 rw[if_neg (fun h=>h k.kind),if_neg (fun h=>h.elim (fun h=>by rw[mJ.2 k.plain] at h;cases h) fun h=>h.2 (k.rev h.1)),if_pos ⟨ha,AI9 ha⟩]
theorem A6 {α:Type} {l:List (ByteArray×α)} (hn:(ids l).Nodup) {id:ByteArray}:((iQ (dW id) l).find? fun s=>decide (s.1=id)).isSome=false:=by
 cases hf:(iQ (dW id) l).find? fun s=>decide (s.1=id) with
 | none=>rfl
 | some a =>
  have h1:=List.mem_of_find?_eq_some hf
  have h2:=NZ (f:=fun s:ByteArray×α=>s.1) (is:=dW id) hn (fun x y hx hy=>(of_decide_eq_true hx).trans (of_decide_eq_true hy).symm) a h1
  have h3:=List.find?_some hf
  unfold dW at h2
  rw[h3] at h2;cases h2
theorem NV:∀ {l:List bC},GM l=true→l.Pairwise fun a b=>T5 a b=true
 | [],_=>List.Pairwise.nil
 | [a],_=>by simp
 | a::b::l,h=>by
  rw[GM,Bool.and_eq_true] at h
  have ih:=NV h.2
  refine List.pairwise_cons.2 ⟨fun y hy=>?_,ih⟩
  rcases List.mem_cons.1 hy with rfl|hy
  ·exact h.1
  ·exact ALB h.1 ((List.pairwise_cons.1 ih).1 y hy)
theorem ABY {l:List bC} (h:GM l=true):l.Nodup:=by
 refine (NV h).imp fun {a b} hab e=>?_
 subst e
 rw[AZ6] at hab;cases hab
theorem AVG {d:aC} {x:a8} (ho:eQ d=true) (hk:x.1=2∨x.1=4∨x.1=8∨x.1=10∨x.1=12):dG (p8 d x) x=false:=by
 simp only[eQ,Bool.and_eq_true] at ho
 obtain ⟨⟨⟨⟨o1,o2⟩,o3⟩,o4⟩,o5⟩:=ho
 unfold dG p8
 rcases hk with h|h|h|h|h
 ·simp only[h];exact A6 (rI o1)
 ·simp only[h];exact A6 (rI o2)
 ·simp only[h];exact A6 (rI o3)
 ·simp only[h];exact A6 (rI o4)
 ·simp only[h]
  rw[Bool.eq_false_iff]
  intro hc
  obtain ⟨n,h1,h2⟩:=List.any_eq_true.1 hc
  have h3:=NZ (f:=id) (is:=fun n=>decide (n=kL x)) (by rw[List.map_id];exact ABY o5) (fun a b ha hb=>(of_decide_eq_true ha).trans (of_decide_eq_true hb).symm) n h1
  rw[h2] at h3;cases h3
end Go.Pv
namespace Go.Pv
open Go Go.Proofs
def okS (s:ByteArray):Bool:=decide (s.size≤1099511627776)
def lI (l:List Int):Int:=if l.length=0 then 3 else if 16<l.length then 4 else bY (nM l) (List.range l.length)
noncomputable def ZV:Env:=Env.of []
def ABI:FuncId→Hint:=bV 257 [(6,.inv [.val 3 false (.int .i64)])] (fun _=>aX)
theorem QD:aR Tryz.prog ZV:=.nil _
def BB4(a0:List Int):List (List T):=List.map BAV.enc a0
def yX(a0:List Int)(R:T→Prop):Prop:=aB (decide ((↑(BB4 a0).length:Int)=0)) (R (T.v (.int .i64 3))) (aB (decide (16<(↑(BB4 a0).length:Int))) (R BAZ) (a6 (Int×PUnit) (fun X0 s1=>aB (decide (s1.1<(↑(BB4 a0).length:Int))) (aS BAV (BB4 a0) s1.1 fun (y2:Int)=>aB (decide (1≤y2)) (aB (!decide (y2≤120)) (R BAR) (aB (decide (0<s1.1)) (aS BAV (BB4 a0) s1.1 fun (y3:Int)=>aS BAV (BB4 a0) (IntKind.i64.wrap (s1.1-1)) fun (y4:Int)=>aB (decide (y3≤y4)) (R BAY) (X0 (IntKind.i64.wrap (s1.1+1),()))) (X0 (IntKind.i64.wrap (s1.1+1),())))) (R BAR)) (R BAU)) (0,())))
abbrev AA:Sh:=[(false,(Sy.int IntKind.i64).li)]
def qM (l:List Int):Option T:=some (T.v (Value.int .i64 (lI l)))
noncomputable def oX:List T→Option T:=gS AA qM
theorem ND {a0}:oX [T.sl false (List.map (Sy.int IntKind.i64).enc a0)]=qM (a0):=bD (s:=AA) rfl (a0) rfl
theorem YG:rA Tryz.prog 257 oX qM (cB AA) yX:=gF (a1:=(false,(Sy.int IntKind.i64).li)) (sp:=qM) (F:=yX) (Hs:=ABI) (f:=257) (k:=8) QD aT aW (aL rfl) ⟨_,_,Tryz.func257,rfl⟩ rfl fun _ _=>by kernel_rfl
theorem V1:aN Tryz.prog 257 oX:=YG fun l r h hb=>by
 cases h
 have is:∀ {n:Int},lI l=n→T.v (.int .i64 n)=T.v (.int .i64 (lI l)):=fun h=>by rw[h]
 unfold yX BB4 BAZ BAY BAV BAU BAR
 refine b6 (fun h=>is (by rw[List.length_map] at h;unfold lI;rw[if_pos (by omega)])) fun h5=>?_
 refine b6 (fun h=>is (by rw[List.length_map] at h h5;unfold lI;rw[if_neg (by omega),if_pos (by omega)])) fun h6=>?_
 rw[List.length_map] at h5 h6
 have w:lI l=bY (nM l) (List.range l.length):=by unfold lI;rw[if_neg (by omega),if_neg (by omega)]
 refine iR (r:=.int .i64) (nM l) (by show l.length≤1000000;omega) (fun X k hk hprev hok hbad=>?_) fun h0=>is (w.trans h0)
 have hk:k<l.length:=hk
 have bad:∀ {n:Int},n≠0→nM l k=n→T.v (.int .i64 n)=T.v (.int .i64 (lI l)):=fun hn h=>is (w.trans ((hbad (by rw[h];exact hn)).trans h))
 have hE:nM l k=if ¬ (1≤l[k]∧l[k]≤120) then 9 else if 0<k∧l[k]≤l.getD (k-1) 0 then 11 else 0:=by unfold nM;rw[jI hk]
 dsimp only
 rw[v7 (by omega)]
 refine b6 (fun p1=>jB (fun h=>bad (by decide) (by rw[hE,if_pos (by omega)])) fun p2=>?_) fun h=>bad (by decide) (by rw[hE,if_pos (by omega)])
 refine b6 (fun p3=>?_) fun p3=>hok (by rw[hE,if_neg (by omega),if_neg (by omega)])
 have k0:0<k:=by omega
 rw[bA (r:=.int .i64) hk,w8 (r:=.int .i64) hk k0 (by show l.length≤1000000;omega)]
 have hg1:l.getD (k-1) 0=l[k-1]'(by omega):=jI (by omega)
 exact b6 (fun h=>bad (by decide) (by rw[hE,if_neg (by omega),hg1,if_pos ⟨k0,h⟩])) fun h=>hok (by rw[hE,if_neg (by omega),hg1,if_neg (fun hc=>h hc.2)])
theorem NI (g:dA):eP g=if isName g.1=false then 6 else if ¬ (1000≤g.2.1∧g.2.1≤20000∧100≤g.2.2.1∧g.2.2.1≤1500) then 9 else lI g.2.2.2:=rfl
noncomputable def ZW:Env:=Env.of [(94,.pure gV),(257,.pure oX)]
def ABJ:FuncId→Hint:=bV 93 [(2,.inv [.val 3 false (.int .i64)])] (fun _=>aX)
theorem QE:aR Tryz.prog ZW:=.cons vB (.cons V1 (.nil _))
def BB5(a0:List dA):List (List T):=List.map bT.enc a0
def yY(a0:List dA)(R:T→Prop):Prop:=a6 (Int×PUnit) (fun X0 s1=>aB (decide (s1.1<(↑(BB5 a0).length:Int))) (aS bT (BB5 a0) s1.1 fun (y2:dA)=>aJ BAS (gV [T.v (.string y2.1)]) fun (y3:Bool)=>aB (!y3) (R BA0) (aS bT (BB5 a0) s1.1 fun (y4:dA)=>aB (decide (1000≤y4.2.1)) (aB (!decide (y4.2.1≤20000)) (R BAR) (aS bT (BB5 a0) s1.1 fun (y5:dA)=>aB (decide (100≤y5.2.2.1)) (aB (!decide (y5.2.2.1≤1500)) (R BAR) (aS bT (BB5 a0) s1.1 fun (y6:dA)=>aJ BAT (oX [T.sl false (List.map BAV.enc y6.2.2.2)]) fun (y7:Int)=>aB (!decide (y7=0)) (R (T.v (.int .i64 y7))) (aB (decide (0<s1.1)) (aS bT (BB5 a0) s1.1 fun (y8:dA)=>aS bT (BB5 a0) (IntKind.i64.wrap (s1.1-1)) fun (y9:dA)=>aB (cE y8.1 y9.1||decide (y8.1=y9.1)) (R BAY) (X0 (IntKind.i64.wrap (s1.1+1),()))) (X0 (IntKind.i64.wrap (s1.1+1),()))))) (R BAR))) (R BAR))) (R BAU)) (0,())
abbrev AB:Sh:=[(false,bT.li)]
def kR (l:List dA):Option T:=match decide (l.length≤1000) with
 | true=>some (T.v (Value.int .i64 (bY (iU (l,[])) (List.range l.length))))
 | false=>none
noncomputable def oY:List T→Option T:=gS AB kR
theorem NF {a0}:oY [T.sl false (List.map bT.enc a0)]=kR (a0):=bD (s:=AB) rfl (a0) rfl
theorem YH:rA Tryz.prog 93 oY kR (cB AB) yY:=gF (a1:=(false,bT.li)) (sp:=kR) (F:=yY) (Hs:=ABJ) (f:=93) (k:=8) QE aT aW (aL rfl) ⟨_,_,Tryz.func93,rfl⟩ rfl fun _ _=>by kernel_rfl
theorem V2:aN Tryz.prog 93 oY:=YH fun l r h hb=>by
 unfold kR at h
 split at h
 case h_2=>cases h
 rename_i hl
 have hl:l.length≤1000:=of_decide_eq_true hl
 cases h
 unfold yY BB5 BA0 BAY BAV BAU BAT BAS BAR
 refine iR (r:=bT) (iU (l,[])) (by show l.length≤1000000;omega) (fun X k hk hprev hok hbad=>?_) fun h0=>by rw[h0]
 have hk:k<l.length:=hk
 have bad:∀ {n:Int},n≠0→iU (l,[]) k=n→T.v (.int .i64 n)=T.v (.int .i64 (bY (iU (l,[])) (List.range l.length))):=fun hn h=>by rw[hbad (by rw[h];exact hn),h]
 have hE:iU (l,[]) k=if ¬ eP l[k]=0 then eP l[k] else if 0<k∧yO l[k].1 (l.getD (k-1) gX).1=true then 11 else 0:=by unfold iU;dsimp only;rw[jI hk]
 have hG:=NI l[k]
 have badG:∀ {n:Int},n≠0→eP l[k]=n→T.v (.int .i64 n)=T.v (.int .i64 (bY (iU (l,[])) (List.range l.length))):=fun hn h=>bad hn (by rw[hE,if_pos (by rw[h];exact hn),h])
 dsimp only
 rw[v7 (by omega)]
 refine aF (s:=[(false,.bool)]) (y:=isName l[k].1) qX ?_
 refine fB (fun h=>badG (by decide) (by rw[hG,if_pos h])) fun hn=>?_
 have hn':¬ isName l[k].1=false:=by rw[hn];simp
 rw[bA (r:=bT) hk]
 have r9:¬ (1000≤l[k].2.1∧l[k].2.1≤20000∧100≤l[k].2.2.1∧l[k].2.2.1≤1500)→T.v (.int .i64 9)=T.v (.int .i64 (bY (iU (l,[])) (List.range l.length))):=fun h=>badG (by decide) (by rw[hG,if_neg hn',if_pos h])
 refine b6 (fun h1=>jB (fun h=>r9 (by omega)) fun h2=>?_) fun h=>r9 (by omega)
 rw[bA (r:=bT) hk]
 refine b6 (fun h3=>jB (fun h=>r9 (by omega)) fun h4=>?_) fun h=>r9 (by omega)
 rw[bA (r:=bT) hk]
 have hG2:eP l[k]=lI l[k].2.2.2:=by rw[hG,if_neg hn',if_neg (by omega)]
 refine aF (s:=[(false,.int .i64)]) (y:=lI l[k].2.2.2) (ND ..) ?_
 refine jB (fun h=>badG h hG2) fun h5=>?_
 have z:eP l[k]=0:=hG2.trans h5
 refine b6 (fun p3=>?_) fun p3=>hok (by rw[hE,if_neg (fun h=>h z),if_neg (by omega)])
 have k0:0<k:=by omega
 rw[bA (r:=bT) hk,w8 (r:=bT) hk k0 (by show l.length≤1000000;omega)]
 have hg1:l.getD (k-1) gX=l[k-1]'(by omega):=jI (by omega)
 exact sZ (fun h=>bad (by decide) (by rw[hE,if_neg (fun h=>h z),hg1,if_pos ⟨k0,h⟩])) fun h=>hok (by rw[hE,if_neg (fun h=>h z),hg1,if_neg (fun hc=>by rw[show yO l[k].1 (l[k-1]'(by omega)).1=false from h] at hc;cases hc.2)])
noncomputable def ANC:Env:=Env.of [(94,.pure gV),(93,.pure oY)]
def AP8:FuncId→Hint:=bV 40 [(7,.inv [.val 4 false (.int .i64)])] (fun _=>aX)
theorem AAE:aR Tryz.prog ANC:=.cons vB (.cons V2 (.nil _))
def IT(a0:aI)(R:T→Prop):Prop:=aB (decide (16<(↑(List.map bT.enc a0.1).length:Int))) (R BAZ) (aB (decide (32<(↑(List.map bM.enc a0.2).length:Int))) (R BAZ) (aJ BAT (oY [T.sl false (List.map bT.enc a0.1)]) fun (y0:Int)=>aB (!decide (y0=0)) (R (T.v (.int .i64 y0))) (a6 (Int×PUnit) (fun X1 s2=>aB (decide (s2.1<(↑(List.map bM.enc a0.2).length:Int))) (aS bM (List.map bM.enc a0.2) s2.1 fun (y3:cD)=>aJ BAS (gV [T.v (.string y3.1)]) fun (y4:Bool)=>aB (!y4) (R BA0) (aB (decide (1≤y3.2.1)) (aB (!decide (y3.2.1≤1000000)) (R BAR) (aB (decide (1≤y3.2.2.1)) (aB (!decide (y3.2.2.1≤2000)) (R BAR) (aB (decide (100≤y3.2.2.2)) (aB (!decide (y3.2.2.2≤32768)) (R BAR) (aB (decide (0<s2.1)) (aS bM (List.map bM.enc a0.2) (IntKind.i64.wrap (s2.1-1)) fun (y5:cD)=>aB (cE y3.1 y5.1||decide (y3.1=y5.1)) (R BAY) (X1 (IntKind.i64.wrap (s2.1+1),()))) (X1 (IntKind.i64.wrap (s2.1+1),())))) (R BAR))) (R BAR))) (R BAR))) (R BAU)) (0,()))))
abbrev L2:Sh:=[(true,aK)]
def xK (m:aI):Option T:=some (T.v (Value.int .i64 (kT m)))
noncomputable def vL:List T→Option T:=gS L2 xK
theorem WU {a0}:vL [aH true aK a0]=xK (a0):=bD (s:=L2) rfl (a0) rfl
theorem ALS:rA Tryz.prog 40 vL xK (cB L2) IT:=gF (a1:=(true,aK)) (sp:=xK) (F:=IT) (Hs:=AP8) (f:=40) (k:=8) AAE aT aW (aL rfl) ⟨_,_,Tryz.func40,rfl⟩ rfl fun _ _=>by kernel_rfl
theorem AJ6:aN Tryz.prog 40 vL:=ALS fun m r h hb=>by
 cases h
 have is:∀ {n:Int},kT m=n→T.v (.int .i64 n)=T.v (.int .i64 (kT m)):=fun h=>by rw[h]
 unfold IT BA0 BAZ BAY BAU BAT BAS BAR
 refine b6 (fun h=>is (by rw[List.length_map] at h;unfold kT;rw[if_pos (by omega)])) fun h1=>?_
 refine b6 (fun h=>is (by rw[List.length_map] at h;unfold kT;rw[if_pos (by omega)])) fun h2=>?_
 rw[List.length_map] at h1 h2
 refine aF (s:=[(false,.int .i64)]) (y:=bY (iU m) (List.range m.1.length)) ((NF ..).trans (by unfold kR;rw[decide_eq_true (by omega)];rfl)) ?_
 refine jB (fun h=>is (by unfold kT;rw[if_neg (by omega),if_pos h])) fun h0=>?_
 have w:kT m=bY (MM m) (List.range m.2.length):=by unfold kT;rw[if_neg (by omega),if_neg (fun h=>h h0)]
 refine iR (r:=bM) (MM m) (by show m.2.length≤1000000;omega) (fun X k hk hprev hok hbad=>?_) fun h0=>is (w.trans h0)
 have hk:k<m.2.length:=hk
 have bad:∀ {n:Int},n≠0→MM m k=n→T.v (.int .i64 n)=T.v (.int .i64 (kT m)):=fun hn h=>is (w.trans ((hbad (by rw[h];exact hn)).trans h))
 have hE:MM m k=if ¬ tL m.2[k]=0 then tL m.2[k] else if 0<k∧yO m.2[k].1 (m.2.getD (k-1) uB).1=true then 11 else 0:=by unfold MM;rw[jI hk]
 have badG:∀ {n:Int},n≠0→tL m.2[k]=n→T.v (.int .i64 n)=T.v (.int .i64 (kT m)):=fun hn h=>bad hn (by rw[hE,if_pos (by rw[h];exact hn),h])
 dsimp only
 rw[v7 (by omega)]
 refine aF (s:=[(false,.bool)]) (y:=isName m.2[k].1) qX ?_
 refine fB (fun h=>badG (by decide) (by unfold tL;rw[if_pos h])) fun hn=>?_
 have hn':¬ isName m.2[k].1=false:=by rw[hn];simp
 have r9:¬ (1≤m.2[k].2.1∧m.2[k].2.1≤1000000∧1≤m.2[k].2.2.1∧m.2[k].2.2.1≤2000∧100≤m.2[k].2.2.2∧m.2[k].2.2.2≤32768)→T.v (.int .i64 9)=T.v (.int .i64 (kT m)):=fun h=>badG (by decide) (by unfold tL;rw[if_neg hn',if_pos h])
 refine b6 (fun h1=>jB (fun h=>r9 (by omega)) fun h2=>b6 (fun h3=>jB (fun h=>r9 (by omega)) fun h4=>b6 (fun h5=>jB (fun h=>r9 (by omega)) fun h6=>?_) fun h=>r9 (by omega)) fun h=>r9 (by omega)) fun h=>r9 (by omega)
 have z:tL m.2[k]=0:=by unfold tL;rw[if_neg hn',if_neg (by omega)]
 refine b6 (fun p3=>?_) fun p3=>hok (by rw[hE,if_neg (fun h=>h z),if_neg (by omega)])
 have k0:0<k:=by omega
 rw[w8 (r:=bM) hk k0 (by show m.2.length≤1000000;omega)]
 have hg1:m.2.getD (k-1) uB=m.2[k-1]'(by omega):=jI (by omega)
 exact sZ (fun h=>bad (by decide) (by rw[hE,if_neg (fun h=>h z),hg1,if_pos ⟨k0,h⟩])) fun h=>hok (by rw[hE,if_neg (fun h=>h z),hg1,if_neg (fun hc=>by rw[show yO m.2[k].1 (m.2[k-1]'(by omega)).1=false from h] at hc;cases hc.2)])
end Go.Pv
namespace Go.Pv
open Go Go.Proofs
def A8W (l:List ByteArray) (x:ByteArray):Bool:=l.any fun y=>decide (y=x)
def CH (x:List ByteArray×ByteArray):Option T:=some (Sh.enc mD (A8W x.1 x.2))
noncomputable def AW1:Env:=Env.of []
def AYG:FuncId→Hint:=bV 57 [(2,.inv [.val 5 false (.int .i64)])] (fun _=>aX)
theorem AH8:aR Tryz.prog AW1:=.nil _
def QN(a0:List ByteArray)(a1:ByteArray)(R:T→Prop):Prop:=a6 (Int×PUnit) (fun X0 s1=>aB (decide (s1.1<(↑(List.map Sy.str.enc a0).length:Int))) (aS Sy.str (List.map Sy.str.enc a0) s1.1 fun (y2:ByteArray)=>aB (decide (y2=a1)) (R BAW) (X0 (IntKind.i64.wrap (s1.1+1),()))) (R BAQ)) (0,())
abbrev S1:Sh:=[(false,Sy.str.li),(false,Sy.str)]
noncomputable def lC:List T→Option T:=gS S1 CH
theorem AC4 {a0 a1}:lC [T.sl false (List.map Sy.str.enc a0),T.v (.string a1)]=CH (a0,a1):=bD (s:=S1) rfl (a0,a1) rfl
theorem AUT:uH Tryz.prog 57 lC CH (cB S1) QN:=iK (a1:=(false,Sy.str.li)) (a2:=(false,Sy.str)) (sp:=CH) (F:=QN) (Hs:=AYG) (f:=57) (k:=8) AH8 aT aW (aL rfl) ⟨_,_,Tryz.func57,rfl⟩ rfl fun _ _ _=>by kernel_rfl
theorem ABV {α:Type} {p:α→Bool} {l:List α} {k:Nat} (h:k<l.length):(l.drop k).any p=(p l[k]||(l.drop (k+1)).any p):=by rw[List.drop_eq_getElem_cons h,List.any_cons]
theorem AR2:aN Tryz.prog 57 lC:=AUT fun l x r h hb=>by
 cases h
 have hl:l.length≤2 ^ 47:=hb.1.1
 unfold QN BAW BAQ
 refine bG l.length (fun k s=>s=((k:Int),())∧A8W l x=(l.drop k).any fun y=>decide (y=x)) ⟨rfl,rfl⟩ ?_
 rintro X k s hk ⟨rfl,he⟩ hX
 dsimp only
 by_cases hlt:k<l.length
 ·rw[ABV hlt] at he
  refine dC (by simp[hlt]) ?_
  rw[bA (r:=.str) hlt]
  by_cases h1:l[k]=x
  ·refine dC h1 ?_
   rw[he,decide_eq_true h1];rfl
  ·refine dY h1 (hX _ hlt ⟨by rw[show IntKind.i64.wrap ((k:Int)+1)=((k+1:Nat):Int) from bB _ (by omega) (by omega)],?_⟩)
   rw[he,decide_eq_false h1,Bool.false_or]
 ·have:k=l.length:=by omega
  subst this
  refine dY (by simp) ?_
  rw[he,List.drop_length];rfl
end Go.Pv
namespace Go.Pv
open Go Go.Proofs
def YO (d:aC):Bool:=N1 d 1000&&(okD d&&YN d)
def wB (d:aC) (t:T):Option T:=match YO d with
 | true=>some t
 | false=>none
theorem EG {d:aC} {t r:T} (h:wB d t=some r):YO d=true∧r=t:=by
 unfold wB at h;split at h
 ·rename_i hc
  cases h;exact ⟨hc,rfl⟩
 ·cases h
theorem EH {d:aC} (t:T) (h:YO d=true):wB d t=some t:=by unfold wB;rw[h]
structure A76 (d:aC):Prop where
 N1:N1 d 1000=true
 n:d.2.1.length≤1000
 p:d.2.2.1.length≤1000
 s:d.2.2.2.1.length≤1000
 k:d.2.2.2.2.1.length≤1000
 r:d.2.2.2.2.2.length≤1000
 kl:∀ k∈d.2.2.2.2.1,(gW k).length≤1000∧(eT k).length≤1000
 okD:okD d=true
 YN:YN d=true
structure UOk (d:aC):Prop extends A76 d where
 nI:∀ n∈d.2.1,okS n.1=true
 pI:∀ p∈d.2.2.1,okS p.1=true∧okS (nP p)=true
 sI:∀ s∈d.2.2.2.1,okS s.1=true∧okS s.2.1=true∧okS s.2.2.1=true
 kI:∀ k∈d.2.2.2.2.1,okS k.1=true
theorem YP {d:aC} (h:YO d=true):A76 d:=by
 simp only[YO,Bool.and_eq_true] at h
 obtain ⟨h1,h2,h3⟩:=h
 have h0:=h1
 simp only[N1,Bool.and_eq_true,List.all_eq_true,decide_eq_true_eq] at h1
 obtain ⟨⟨⟨⟨⟨a,b⟩,c⟩,e⟩,f⟩,g⟩:=h1
 exact ⟨h0,by omega,by omega,by omega,by omega,by omega,fun k hk=>by have:=g k hk;unfold gW eT;omega,h2,h3⟩
theorem mE (a b:ByteArray):(!(cE b a||decide (b=a)))=cE a b:=by
 rw[Bool.eq_iff_iff]
 refine ⟨fun h=>(lQ a b).2 (AFT h),fun h=>?_⟩
 have h1:=(lQ a b).1 h
 have h2:cE b a=false:=by
  rw[Bool.eq_false_iff]
  intro h3
  exact List.lt_irrefl _ (List.lt_trans h1 ((lQ b a).1 h3))
 have h3:¬ b=a:=fun e=>by rw[e] at h1;exact List.lt_irrefl _ h1
 rw[h2,decide_eq_false h3];rfl
noncomputable def AWX:Env:=Env.of []
def AYC:FuncId→Hint:=bV 97 [(2,.inv [.val 3 false (.int .i64)])] (fun _=>aX)
theorem AH4:aR Tryz.prog AWX:=.nil _
def QJ(a0:List ByteArray)(R:T→Prop):Prop:=a6 (Int×PUnit) (fun X0 s1=>aB (decide (s1.1<(↑(List.map Sy.str.enc a0).length:Int))) (aS Sy.str (List.map Sy.str.enc a0) (IntKind.i64.wrap (s1.1-1)) fun (y2:ByteArray)=>aS Sy.str (List.map Sy.str.enc a0) s1.1 fun (y3:ByteArray)=>aB (!cE y2 y3) (R BAQ) (X0 (IntKind.i64.wrap (s1.1+1),()))) (R BAW)) (1,())
abbrev SX:Sh:=[(false,Sy.str.li)]
def CD (l:List ByteArray):Option T:=nR l (T.v (.bool (pJ l)))
noncomputable def qB:List T→Option T:=gS SX CD
theorem sP {a0}:qB [T.sl false (List.map Sy.str.enc a0)]=CD (a0):=bD (s:=SX) rfl (a0) rfl
theorem AUP:rA Tryz.prog 97 qB CD (cB SX) QJ:=gF (a1:=(false,Sy.str.li)) (sp:=CD) (F:=QJ) (Hs:=AYC) (f:=97) (k:=8) AH4 aT aW (aL rfl) ⟨_,_,Tryz.func97,rfl⟩ rfl fun _ _=>by kernel_rfl
theorem ARW:aN Tryz.prog 97 qB:=AUP fun l r h hb=>by
 obtain ⟨hl,rfl⟩:=iF h
 clear h hb
 unfold QJ BAW BAQ
 refine bG l.length (fun k s=>s=(((k+1:Nat):Int),())∧pJ l=pJ (l.drop k)) ⟨rfl,by rw[List.drop_zero]⟩ ?_
 rintro X k s hk ⟨rfl,he⟩ hX
 dsimp only
 have hw:IntKind.i64.wrap (((k+1:Nat):Int)+1)=((k+1+1:Nat):Int):=bB _ (by omega) (by omega)
 have hw1:IntKind.i64.wrap (((k+1:Nat):Int)-1)=((k:Nat):Int):=by rw[bB _ (by omega) (by omega)];omega
 refine b6 (fun hlt=>?_) fun hge=>?_
 ·rw[List.length_map] at hlt
  have hlt:k+1<l.length:=by omega
  rw[hw1,bA (r:=.str) (show k<l.length by omega),bA (r:=.str) hlt,hw]
  rw[VG hlt,mE] at he
  refine fB (fun h=>fS ?_) fun h=>hX _ (by omega) ⟨rfl,?_⟩
  ·rw[he,h];rfl
  ·rw[he,h];rfl
 ·rw[List.length_map] at hge
  refine fS ?_
  rw[he,AFS (by omega)]
noncomputable def ZT:Env:=Env.of []
def ABH:FuncId→Hint:=fun _=>aX
theorem QC:aR Tryz.prog ZT:=.nil _
def yW(a0:bC)(a1:bC)(R:T→Prop):Prop:=aB (!decide (a0.1=a1.1)) (R (T.v (.bool (decide (a0.1<a1.1))))) (aB (!decide (a0.2.1=a1.2.1)) (R (T.v (.bool (cE a0.2.1 a1.2.1)))) (R (T.v (.bool (cE a0.2.2 a1.2.2)))))
abbrev z8:Sh:=[(true,aQ),(true,aQ)]
def qL (x:bC×bC):Option T:=some (T.v (.bool (T5 x.1 x.2)))
noncomputable def oW:List T→Option T:=gS z8 qL
theorem NB {a0 a1}:oW [aH true aQ a0,aH true aQ a1]=qL (a0,a1):=bD (s:=z8) rfl (a0,a1) rfl
theorem YF:uH Tryz.prog 98 oW qL (cB z8) yW:=iK (a1:=(true,aQ)) (a2:=(true,aQ)) (sp:=qL) (F:=yW) (Hs:=ABH) (f:=98) (k:=8) QC aT aW (aL rfl) ⟨_,_,Tryz.func98,rfl⟩ rfl fun _ _ _=>by kernel_rfl
theorem VX:aN Tryz.prog 98 oW:=YF fun a b r h hb=>by
 cases h
 unfold yW
 refine jB (fun h=>fS ?_) fun h=>jB (fun h2=>fS ?_) fun h2=>fS ?_
 ·unfold T5;rw[decide_eq_false h];simp
 ·unfold T5;rw[decide_eq_true h,decide_eq_false h2];simp[h]
 ·unfold T5;rw[decide_eq_true h,decide_eq_true h2,h2,show cE b.2.1 b.2.1=false by rw[Bool.eq_false_iff];exact fun h=>List.lt_irrefl _ ((lQ _ _).1 h)];simp[h]
noncomputable def AHU:Env:=Env.of []
def AIV:FuncId→Hint:=bV 96 [(3,.inv [.val 4 false (.int .i64),.box 2 (.pr (.li .str) (.pr (.li .str) (.pr (.li .str) (.li .str)))),.rJ 2 0 1 .str,.rJ 2 1 1 .str,.rJ 2 2 1 .str,.rJ 2 3 1 .str]),(7,.inv [.val 5 false (.int .i64),.box 2 (.pr (.li .str) (.pr (.li .str) (.pr (.li .str) (.li .str)))),.rJ 2 0 1 .str,.rJ 2 1 1 .str,.rJ 2 2 1 .str,.rJ 2 3 1 .str]),(11,.inv [.val 6 false (.int .i64),.box 2 (.pr (.li .str) (.pr (.li .str) (.pr (.li .str) (.li .str)))),.rJ 2 0 1 .str,.rJ 2 1 1 .str,.rJ 2 2 1 .str,.rJ 2 3 1 .str]),(15,.inv [.val 7 false (.int .i64),.box 2 (.pr (.li .str) (.pr (.li .str) (.pr (.li .str) (.li .str)))),.rJ 2 0 1 .str,.rJ 2 1 1 .str,.rJ 2 2 1 .str,.rJ 2 3 1 .str])] (fun _=>aX)
theorem UB:aR Tryz.prog AHU:=.nil _
def C0(a0:aC)(R:T→Prop):Prop:=cG Sy.str [] fun (y0:List ByteArray)=>cG Sy.str [] fun (y1:List ByteArray)=>cG Sy.str [] fun (y2:List ByteArray)=>cG Sy.str [] fun (y3:List ByteArray)=>a6 (Int × (List ByteArray×List ByteArray×List ByteArray×List ByteArray) × List ByteArray×List ByteArray×List ByteArray×List ByteArray×PUnit) (fun (X4 : Int × (List ByteArray×List ByteArray×List ByteArray×List ByteArray) × List ByteArray×List ByteArray×List ByteArray×List ByteArray×PUnit → Prop) (s5 : Int × (List ByteArray×List ByteArray×List ByteArray×List ByteArray) × List ByteArray×List ByteArray×List ByteArray×List ByteArray×PUnit)=>aB (decide (s5.1<(↑(List.map aZ.enc a0.2.1).length:Int))) (aS aZ (List.map aZ.enc a0.2.1) s5.1 fun (y6:bI)=>bS (decide (((List.map Sy.str.enc s5.2.2.1).length+1)*16≤140737488355328) && decide ((List.map Sy.str.enc s5.2.2.1).length+1≤140737488355328)) (cG Sy.str [] fun (y7:List ByteArray)=>cG Sy.str [] fun (y8:List ByteArray)=>cG Sy.str [] fun (y9:List ByteArray)=>cG Sy.str [] fun (y10:List ByteArray)=>cG Sy.str (List.map Sy.str.enc s5.2.2.1++[[T.v (.string y6.1)]]) fun (y11:List ByteArray)=>cG Sy.str (List.map Sy.str.enc s5.2.2.2.1) fun (y12:List ByteArray)=>cG Sy.str (List.map Sy.str.enc s5.2.2.2.2.1) fun (y13:List ByteArray)=>cG Sy.str (List.map Sy.str.enc s5.2.2.2.2.2.1) fun (y14:List ByteArray)=>X4 (IntKind.i64.wrap (s5.1+1),(y7,y8,y9,y10),y11,y12,y13,y14,()))) (cG Sy.str [] fun (y15:List ByteArray)=>cG Sy.str [] fun (y16:List ByteArray)=>cG Sy.str [] fun (y17:List ByteArray)=>cG Sy.str [] fun (y18:List ByteArray)=>cG Sy.str (List.map Sy.str.enc s5.2.2.1) fun (y19:List ByteArray)=>cG Sy.str (List.map Sy.str.enc s5.2.2.2.1) fun (y20:List ByteArray)=>cG Sy.str (List.map Sy.str.enc s5.2.2.2.2.1) fun (y21:List ByteArray)=>cG Sy.str (List.map Sy.str.enc s5.2.2.2.2.2.1) fun (y22:List ByteArray)=>a6 (Int × (List ByteArray×List ByteArray×List ByteArray×List ByteArray) × List ByteArray×List ByteArray×List ByteArray×List ByteArray×PUnit) (fun (X23 : Int × (List ByteArray×List ByteArray×List ByteArray×List ByteArray) × List ByteArray×List ByteArray×List ByteArray×List ByteArray×PUnit → Prop) (s24 : Int × (List ByteArray×List ByteArray×List ByteArray×List ByteArray) × List ByteArray×List ByteArray×List ByteArray×List ByteArray×PUnit)=>aB (decide (s24.1<(↑(List.map aO.enc a0.2.2.1).length:Int))) (aS aO (List.map aO.enc a0.2.2.1) s24.1 fun (y25:aY)=>bS (decide (((List.map Sy.str.enc s24.2.2.2.1).length+1)*16 ≤ 140737488355328) && decide ((List.map Sy.str.enc s24.2.2.2.1).length+1 ≤ 140737488355328)) (cG Sy.str [] fun (y26:List ByteArray)=>cG Sy.str [] fun (y27:List ByteArray)=>cG Sy.str [] fun (y28:List ByteArray)=>cG Sy.str [] fun (y29:List ByteArray)=>cG Sy.str (List.map Sy.str.enc s24.2.2.1) fun (y30:List ByteArray)=>cG Sy.str (List.map Sy.str.enc s24.2.2.2.1 ++ [[T.v (.string y25.1)]]) fun (y31:List ByteArray)=>cG Sy.str (List.map Sy.str.enc s24.2.2.2.2.1) fun (y32:List ByteArray)=>cG Sy.str (List.map Sy.str.enc s24.2.2.2.2.2.1) fun (y33:List ByteArray)=>X23 (IntKind.i64.wrap (s24.1+1),(y26,y27,y28,y29),y30, y31,y32,y33,()))) (cG Sy.str [] fun (y34:List ByteArray)=>cG Sy.str [] fun (y35:List ByteArray)=>cG Sy.str [] fun (y36:List ByteArray)=>cG Sy.str [] fun (y37:List ByteArray)=>cG Sy.str (List.map Sy.str.enc s24.2.2.1) fun (y38:List ByteArray)=>cG Sy.str (List.map Sy.str.enc s24.2.2.2.1) fun (y39:List ByteArray)=>cG Sy.str (List.map Sy.str.enc s24.2.2.2.2.1) fun (y40:List ByteArray)=>cG Sy.str (List.map Sy.str.enc s24.2.2.2.2.2.1) fun (y41:List ByteArray)=>a6 (Int × (List ByteArray × List ByteArray×List ByteArray×List ByteArray) × List ByteArray × List ByteArray×List ByteArray×List ByteArray×PUnit) (fun (X42 : Int × (List ByteArray × List ByteArray×List ByteArray×List ByteArray) × List ByteArray × List ByteArray × List ByteArray×List ByteArray×PUnit → Prop) (s43 : Int × (List ByteArray × List ByteArray×List ByteArray×List ByteArray) × List ByteArray × List ByteArray × List ByteArray×List ByteArray×PUnit)=>aB (decide (s43.1 < (↑(List.map a7.enc a0.2.2.2.1).length : Int))) (aS a7 (List.map a7.enc a0.2.2.2.1) s43.1 fun (y44:bK)=>bS (decide (((List.map Sy.str.enc s43.2.2.2.2.1).length + 1) * 16 ≤ 140737488355328) && decide ((List.map Sy.str.enc s43.2.2.2.2.1).length + 1 ≤ 140737488355328)) (cG Sy.str [] fun (y45:List ByteArray)=>cG Sy.str [] fun (y46:List ByteArray)=>cG Sy.str [] fun (y47:List ByteArray)=>cG Sy.str [] fun (y48:List ByteArray)=>cG Sy.str (List.map Sy.str.enc s43.2.2.1) fun (y49:List ByteArray)=>cG Sy.str (List.map Sy.str.enc s43.2.2.2.1) fun (y50:List ByteArray)=>cG Sy.str (List.map Sy.str.enc s43.2.2.2.2.1 ++ [[T.v (.string y44.1)]]) fun (y51:List ByteArray)=>cG Sy.str (List.map Sy.str.enc s43.2.2.2.2.2.1) fun (y52:List ByteArray)=>X42 (IntKind.i64.wrap (s43.1+1), (y45,y46,y47,y48),y49,y50,y51, y52,()))) (cG Sy.str [] fun (y53:List ByteArray)=>cG Sy.str [] fun (y54:List ByteArray)=>cG Sy.str [] fun (y55:List ByteArray)=>cG Sy.str [] fun (y56:List ByteArray)=>cG Sy.str (List.map Sy.str.enc s43.2.2.1) fun (y57:List ByteArray)=>cG Sy.str (List.map Sy.str.enc s43.2.2.2.1) fun (y58:List ByteArray)=>cG Sy.str (List.map Sy.str.enc s43.2.2.2.2.1) fun (y59:List ByteArray)=>cG Sy.str (List.map Sy.str.enc s43.2.2.2.2.2.1) fun (y60:List ByteArray)=>a6 (Int × (List ByteArray × List ByteArray × List ByteArray×List ByteArray) × List ByteArray × List ByteArray × List ByteArray × List ByteArray×PUnit) (fun (X61 : Int × (List ByteArray × List ByteArray × List ByteArray × List ByteArray) × List ByteArray × List ByteArray × List ByteArray × List ByteArray×PUnit → Prop) (s62 : Int × (List ByteArray × List ByteArray × List ByteArray × List ByteArray) × List ByteArray × List ByteArray × List ByteArray × List ByteArray×PUnit)=>aB (decide (s62.1 < (↑(List.map aG.enc a0.2.2.2.2.1).length : Int))) (aS aG (List.map aG.enc a0.2.2.2.2.1) s62.1 fun (y63:aM)=>bS (decide (((List.map Sy.str.enc s62.2.2.2.2.2.1).length + 1) * 16 ≤ 140737488355328) && decide ((List.map Sy.str.enc s62.2.2.2.2.2.1).length + 1 ≤ 140737488355328)) (cG Sy.str [] fun (y64:List ByteArray)=>cG Sy.str [] fun (y65:List ByteArray)=>cG Sy.str [] fun (y66:List ByteArray)=>cG Sy.str [] fun (y67:List ByteArray)=>cG Sy.str (List.map Sy.str.enc s62.2.2.1) fun (y68 : List ByteArray)=>cG Sy.str (List.map Sy.str.enc s62.2.2.2.1) fun (y69 : List ByteArray)=>cG Sy.str (List.map Sy.str.enc s62.2.2.2.2.1) fun (y70 : List ByteArray)=>cG Sy.str (List.map Sy.str.enc s62.2.2.2.2.2.1 ++ [[T.v (Value.string y63.1)]]) fun (y71 : List ByteArray)=>X61 (IntKind.i64.wrap (s62.1+1), (y64,y65,y66, y67), y68,y69,y70, y71,()))) (R (T.agg [T.sl false (List.map Sy.str.enc s62.2.2.1), T.sl false (List.map Sy.str.enc s62.2.2.2.1), T.sl false (List.map Sy.str.enc s62.2.2.2.2.1), T.sl false (List.map Sy.str.enc s62.2.2.2.2.2.1)]))) (0,(y53,y54,y55,y56),y57,y58,y59, y60,()))) (0,(y34,y35,y36,y37),y38,y39,y40,y41,()))) (0,(y15,y16,y17,y18),y19,y20,y21,y22,()))) (0,(y0,y1,y2,y3),[],[],[],[],())
abbrev EP:Sh:=[(true,aE)]
abbrev L4:=List ByteArray×List ByteArray×List ByteArray×List ByteArray
def AT2 (d:aC):L4:=(ids d.2.1,ids d.2.2.1,ids d.2.2.2.1,ids d.2.2.2.2.1)
def A93 (x:L4):T:=T.agg [T.sl false (List.map Sy.str.enc x.1),T.sl false (List.map Sy.str.enc x.2.1),T.sl false (List.map Sy.str.enc x.2.2.1),T.sl false (List.map Sy.str.enc x.2.2.2)]
def tM (d:aC):Option T:=wB d (A93 (AT2 d))
noncomputable def oI:List T→Option T:=gS EP tM
theorem RV {a0}:oI [aH true aE a0]=tM (a0):=bD (s:=EP) rfl (a0) rfl
theorem ADY:rA Tryz.prog 96 oI tM (cB EP) C0:=gF (a1:=(true,aE)) (sp:=tM) (F:=C0) (Hs:=AIV) (f:=96) (k:=8) UB aT aW (aL rfl) ⟨_,_,Tryz.func96,rfl⟩ rfl fun _ _=>by kernel_rfl
theorem dk {l:List ByteArray} {rows:List (List T)} {K:List ByteArray→Prop} (e:rows=List.map Sy.str.enc l) (h:K l):cG Sy.str rows K:=by
 subst e;rw[dK (r:=.str) rfl];exact h
theorem BP {α:Type} {l:List (ByteArray×α)} {k:Nat} (h:k<l.length):ids (l.take (k+1))=ids (l.take k)++[l[k].1]:=by
 unfold ids;rw[List.take_succ_eq_append_getElem h,List.map_append];rfl
theorem HP {α:Type} {l:List (ByteArray×α)} {k:Nat}:(ids (l.take k)).length≤k:=by
 unfold ids;rw[List.length_map,List.length_take];omega
theorem ACK:aN Tryz.prog 96 oI:=ADY fun d r h hb=>by
 obtain ⟨hu,rfl⟩:=EG h
 have u:=YP hu
 clear h hb
 unfold C0
 refine dk (l:=[]) rfl (dk (l:=[]) rfl (dk (l:=[]) rfl (dk (l:=[]) rfl ?_)))
 refine bG d.2.1.length (fun k s=>s=((k:Int),([],[],[],[]),ids (d.2.1.take k),[],[],[],())) rfl ?_
 rintro X k s hk rfl hX
 dsimp only
 refine b6 (fun hlt=>?_) fun hge=>?_
 ·rw[List.length_map] at hlt
  have hlt:k<d.2.1.length:=by omega
  have hl:=u.n
  have ht:=HP (l:=d.2.1) (k:=k)
  rw[bA (r:=aZ) hlt,JG (by omega)]
  refine dk (l:=[]) rfl (dk (l:=[]) rfl (dk (l:=[]) rfl (dk (l:=[]) rfl ?_)))
  refine dk (l:=ids (d.2.1.take k)++[d.2.1[k].1]) (by rw[List.map_append];rfl) (dk (l:=[]) rfl (dk (l:=[]) rfl (dk (l:=[]) rfl ?_)))
  refine hX _ hlt ?_
  rw[BP hlt,show IntKind.i64.wrap ((k:Int)+1)=((k+1:Nat):Int) from bB _ (by omega) (by omega)]
 have:k=d.2.1.length:=by rw[List.length_map] at hge;omega
 subst this
 rw[List.take_length]
 clear hge hX hk X
 refine dk (l:=[]) rfl (dk (l:=[]) rfl (dk (l:=[]) rfl (dk (l:=[]) rfl ?_)))
 refine dk (l:=ids d.2.1) rfl (dk (l:=[]) rfl (dk (l:=[]) rfl (dk (l:=[]) rfl ?_)))
 refine bG d.2.2.1.length (fun k s=>s=((k:Int),([],[],[],[]),ids d.2.1,ids (d.2.2.1.take k),[],[],())) rfl ?_
 rintro X k s hk rfl hX
 dsimp only
 refine b6 (fun hlt=>?_) fun hge=>?_
 ·rw[List.length_map] at hlt
  have hlt:k<d.2.2.1.length:=by omega
  have hl:=u.p
  have ht:=HP (l:=d.2.2.1) (k:=k)
  rw[bA (r:=aO) hlt,JG (by omega)]
  refine dk (l:=[]) rfl (dk (l:=[]) rfl (dk (l:=[]) rfl (dk (l:=[]) rfl ?_)))
  refine dk (l:=ids d.2.1) rfl (dk (l:=ids (d.2.2.1.take k)++[d.2.2.1[k].1]) (by rw[List.map_append];rfl) (dk (l:=[]) rfl (dk (l:=[]) rfl ?_)))
  refine hX _ hlt ?_
  rw[BP hlt,show IntKind.i64.wrap ((k:Int)+1)=((k+1:Nat):Int) from bB _ (by omega) (by omega)]
 have:k=d.2.2.1.length:=by rw[List.length_map] at hge;omega
 subst this
 rw[List.take_length]
 clear hge hX hk X
 refine dk (l:=[]) rfl (dk (l:=[]) rfl (dk (l:=[]) rfl (dk (l:=[]) rfl ?_)))
 refine dk (l:=ids d.2.1) rfl (dk (l:=ids d.2.2.1) rfl (dk (l:=[]) rfl (dk (l:=[]) rfl ?_)))
 refine bG d.2.2.2.1.length (fun k s=>s=((k:Int),([],[],[],[]),ids d.2.1,ids d.2.2.1,ids (d.2.2.2.1.take k),[],())) rfl ?_
 rintro X k s hk rfl hX
 dsimp only
 refine b6 (fun hlt=>?_) fun hge=>?_
 ·rw[List.length_map] at hlt
  have hlt:k<d.2.2.2.1.length:=by omega
  have hl:=u.s
  have ht:=HP (l:=d.2.2.2.1) (k:=k)
  rw[bA (r:=a7) hlt,JG (by omega)]
  refine dk (l:=[]) rfl (dk (l:=[]) rfl (dk (l:=[]) rfl (dk (l:=[]) rfl ?_)))
  refine dk (l:=ids d.2.1) rfl (dk (l:=ids d.2.2.1) rfl (dk (l:=ids (d.2.2.2.1.take k)++[d.2.2.2.1[k].1]) (by rw[List.map_append];rfl) (dk (l:=[]) rfl ?_)))
  refine hX _ hlt ?_
  rw[BP hlt,show IntKind.i64.wrap ((k:Int)+1)=((k+1:Nat):Int) from bB _ (by omega) (by omega)]
 have:k=d.2.2.2.1.length:=by rw[List.length_map] at hge;omega
 subst this
 rw[List.take_length]
 clear hge hX hk X
 refine dk (l:=[]) rfl (dk (l:=[]) rfl (dk (l:=[]) rfl (dk (l:=[]) rfl ?_)))
 refine dk (l:=ids d.2.1) rfl (dk (l:=ids d.2.2.1) rfl (dk (l:=ids d.2.2.2.1) rfl (dk (l:=[]) rfl ?_)))
 refine bG d.2.2.2.2.1.length (fun k s=>s=((k:Int),([],[],[],[]),ids d.2.1,ids d.2.2.1,ids d.2.2.2.1,ids (d.2.2.2.2.1.take k),())) rfl ?_
 rintro X k s hk rfl hX
 dsimp only
 refine b6 (fun hlt=>?_) fun hge=>?_
 ·rw[List.length_map] at hlt
  have hlt:k<d.2.2.2.2.1.length:=by omega
  have hl:=u.k
  have ht:=HP (l:=d.2.2.2.2.1) (k:=k)
  rw[bA (r:=aG) hlt,JG (by omega)]
  refine dk (l:=[]) rfl (dk (l:=[]) rfl (dk (l:=[]) rfl (dk (l:=[]) rfl ?_)))
  refine dk (l:=ids d.2.1) rfl (dk (l:=ids d.2.2.1) rfl (dk (l:=ids d.2.2.2.1) rfl (dk (l:=ids (d.2.2.2.2.1.take k)++[d.2.2.2.2.1[k].1]) (by rw[List.map_append];rfl) ?_)))
  refine hX _ hlt ?_
  rw[BP hlt,show IntKind.i64.wrap ((k:Int)+1)=((k+1:Nat):Int) from bB _ (by omega) (by omega)]
 have:k=d.2.2.2.2.1.length:=by rw[List.length_map] at hge;omega
 subst this
 rw[List.take_length]
 clear hge hX hk X
 rfl
abbrev q4:Sh:=[(true,Sy.str.li.pr (Sy.str.li.pr (Sy.str.li.pr Sy.str.li)))]
theorem RW {d:aC} (h:YO d=true):oI [aH true aE d]=some (Sh.enc q4 (AT2 d)):=(RV ..).trans (EH _ h)
theorem r6 {m l:List ByteArray} (hl:l.length≤140737488355328) {R7 Exit:Prop} (h7:l.any (zW m)=true→R7) (hx:l.any (zW m)=false→Exit) :
 a6 (Int×PUnit) (fun (X:Int×PUnit→Prop) (s:Int×PUnit)=>aB (decide (s.1<((List.map Sy.str.enc l).length:Int))) (aS Sy.str (List.map Sy.str.enc l) s.1 fun y=>aJ [(false,Sy.bool)] (lC [T.sl false (List.map Sy.str.enc m),T.v (.string y)]) fun (b:Bool)=>aB b R7 (X (IntKind.i64.wrap (s.1+1),()))) Exit) (0,()):=by
 refine lX (r:=.str) (fun y=>if zW m y=true then 1 else 0) hl (fun X s y hy hok hbad=>?_) fun h0=>hx ?_
 ·refine aF (s:=HS) (y:=zW m y) (AC4 ..) ?_
  refine sZ (fun h=>h7 (List.any_eq_true.2 ⟨y,hy,h⟩)) fun h=>hok (by rw[h];rfl)
 ·rw[Bool.eq_false_iff]
  intro h
  obtain ⟨y,hy,h⟩:=List.any_eq_true.1 h
  have this:(if zW m y=true then (1:Int) else 0)=0:=J8 h0 y hy
  rw[if_pos h] at this
  cases this
noncomputable def AM3:Env:=Env.of [(94,.pure gV),(96,.pure oI),(97,.pure qB),(98,.pure oW),(57,.pure lC)]
def AP3:FuncId→Hint:=bV 41 [(7,.FH 5),(12,.inv [.val 5 false (.int .i64)]),(17,.FH 5),(20,.FH 5),(23,.inv [.val 8 false (.int .i64)])] (fun _=>aX)
theorem Z9:aR Tryz.prog AM3:=.cons vB (.cons ACK (.cons ARW (.cons VX (.cons AR2 (.nil _)))))
def BB6(X6:Int×PUnit→Prop)(s7:Int×PUnit):Prop:=X6 (IntKind.i64.wrap (s7.1+1),())
def BB7(y1:List ByteArray×List ByteArray×List ByteArray×List ByteArray):List (List T):=List.map Sy.str.enc y1.2.2.2
def BB8(a0:aC):List (List T):=List.map aQ.enc a0.2.2.2.2.2
def BB9(y1:List ByteArray×List ByteArray×List ByteArray×List ByteArray)(y13:ByteArray)(R:T→Prop)(X11:Int×PUnit→Prop)(s12:Int×PUnit):Prop:=aJ BAS (lC [T.sl false (List.map Sy.str.enc y1.1), T.v (.string y13)]) fun (y14:Bool)=>aB y14 (R BA5) (BB6 X11 s12)
def IL(a0:aC)(R:T→Prop):Prop:=aJ BAS (gV [T.v (.string a0.1)]) fun (y0:Bool)=>aB (!y0) (R BA0) (aB (decide (64<(↑(List.map aZ.enc a0.2.1).length:Int))) (R BAZ) (aB (decide (256<(↑(List.map aO.enc a0.2.2.1).length:Int))) (R BAZ) (aB (decide (256<(↑(List.map a7.enc a0.2.2.2.1).length:Int))) (R BAZ) (aB (decide (64<(↑(List.map aG.enc a0.2.2.2.2.1).length:Int))) (R BAZ) (aB (decide (256<(↑(BB8 a0).length:Int))) (R BAZ) (aJ [(true,Sy.str.li.pr (Sy.str.li.pr (Sy.str.li.pr Sy.str.li)))] (oI [aH true aE a0]) fun (y1:List ByteArray×List ByteArray×List ByteArray×List ByteArray)=>aJ BAS (qB [T.sl false (List.map Sy.str.enc y1.1)]) fun (y2:Bool)=>aB (!y2) (R BAY) (aJ BAS (qB [T.sl false (List.map Sy.str.enc y1.2.1)]) fun (y3:Bool)=>aB (!y3) (R BAY) (aJ BAS (qB [T.sl false (List.map Sy.str.enc y1.2.2.1)]) fun (y4:Bool)=>aB (!y4) (R BAY) (aJ BAS (qB [T.sl false (BB7 y1)]) fun (y5:Bool)=>aB (!y5) (R BAY) (a6 (Int×PUnit) (fun X6 s7=>aB (decide (s7.1<(↑(BB8 a0).length:Int))) (aS aQ (BB8 a0) (IntKind.i64.wrap (s7.1-1)) fun (y8:bC)=>aS aQ (BB8 a0) s7.1 fun (y9:bC)=>aJ BAS (oW [aH true aQ y8,aH true aQ y9]) fun (y10:Bool)=>aB (!y10) (R BAY) (BB6 X6 s7)) (a6 (Int×PUnit) (fun X11 s12=>aB (decide (s12.1<(↑(List.map Sy.str.enc y1.2.1).length:Int))) (aS Sy.str (List.map Sy.str.enc y1.2.1) s12.1 fun (y13:ByteArray)=>BB9 y1 y13 R X11 s12) (a6 (Int×PUnit) (fun X15 s16=>aB (decide (s16.1 < (↑(List.map Sy.str.enc y1.2.2.1).length:Int))) (aS Sy.str (List.map Sy.str.enc y1.2.2.1) s16.1 fun (y17:ByteArray)=>BB9 y1 y17 R X15 s16) (a6 (Int×PUnit) (fun X19 s20=>aB (decide (s20.1 < (↑(List.map Sy.str.enc y1.2.2.1).length:Int))) (aS Sy.str (List.map Sy.str.enc y1.2.2.1) s20.1 fun (y21:ByteArray)=>aJ BAS (lC [T.sl false (List.map Sy.str.enc y1.2.1), T.v (.string y21)]) fun (y22:Bool)=>aB y22 (R BA5) (BB6 X19 s20)) (a6 (Int×PUnit) (fun X23 s24=>aB (decide (s24.1 < (↑(BB7 y1).length : Int))) (aS Sy.str (BB7 y1) s24.1 fun (y25:ByteArray)=>BB9 y1 y25 R X23 s24) (a6 (Int×PUnit) (fun X27 s28=>aB (decide (s28.1 < (↑(BB7 y1).length : Int))) (aS Sy.str (BB7 y1) s28.1 fun (y29:ByteArray)=>aJ BAS (lC [T.sl false (List.map Sy.str.enc y1.2.1), T.v (.string y29)]) fun (y30:Bool)=>aB y30 (R BA5) (BB6 X27 s28)) (a6 (Int×PUnit) (fun X31 s32=>aB (decide (s32.1 < (↑(BB7 y1).length : Int))) (aS Sy.str (BB7 y1) s32.1 fun (y33:ByteArray)=>aJ BAS (lC [T.sl false (List.map Sy.str.enc y1.2.2.1), T.v (.string y33)]) fun (y34:Bool)=>aB y34 (R (T.v (Value.int IntKind.i64 7))) (X31 (IntKind.i64.wrap (s32.1+1), ()))) (R (T.v (Value.int IntKind.i64 0)))) (0,()))) (0,()))) (0,()))) (0,()))) (0,()))) (0,()))) (1,())))))))))))
abbrev LX:Sh:=[(true,aE)]
def xG (d:aC):Option T:=wB d (T.v (Value.int .i64 (if isName d.1=false then 6 else e7 d)))
noncomputable def vH:List T→Option T:=gS LX xG
theorem WM {a0}:vH [aH true aE a0]=xG (a0):=bD (s:=LX) rfl (a0) rfl
theorem ALN:rA Tryz.prog 41 vH xG (cB LX) IL:=gF (a1:=(true,aE)) (sp:=xG) (F:=IL) (Hs:=AP3) (f:=41) (k:=8) Z9 aT aW (aL rfl) ⟨_,_,Tryz.func41,rfl⟩ rfl fun _ _=>by kernel_rfl
theorem DL {d:aC} {m l:List ByteArray} (hc:(m=ids d.2.1∧l=ids d.2.2.1)∨(m=ids d.2.1∧l=ids d.2.2.2.1)∨(m=ids d.2.2.1∧l=ids d.2.2.2.1)∨(m=ids d.2.1∧l=ids d.2.2.2.2.1)∨(m=ids d.2.2.1∧l=ids d.2.2.2.2.1)∨(m=ids d.2.2.2.1∧l=ids d.2.2.2.2.1)) (h:l.any (zW m)=true):JT d=true:=by
 obtain ⟨x,hx,hm⟩:=List.any_eq_true.1 h
 simp only[JT,ARI,Bool.or_eq_true,List.any_eq_true]
 rcases hc with ⟨rfl,rfl⟩|⟨rfl,rfl⟩|⟨rfl,rfl⟩|⟨rfl,rfl⟩|⟨rfl,rfl⟩|⟨rfl,rfl⟩
 ·exact .inl (.inl ⟨x,hx,hm⟩)
 ·exact .inl (.inr ⟨x,hx,.inl hm⟩)
 ·exact .inl (.inr ⟨x,hx,.inr hm⟩)
 ·exact .inr ⟨x,hx,.inl (.inl hm)⟩
 ·exact .inr ⟨x,hx,.inl (.inr hm)⟩
 ·exact .inr ⟨x,hx,.inr hm⟩
theorem AJ3:aN Tryz.prog 41 vH:=ALN fun d r h hb=>by
 obtain ⟨hu,rfl⟩:=EG h
 have u:=YP hu
 have un:=u.n
 have up:=u.p
 have us:=u.s
 have uk:=u.k
 have ur:=u.r
 clear h hb
 have is0:∀ {n:Int},(if isName d.1=false then 6 else e7 d)=n→T.v (.int .i64 n)=T.v (.int .i64 (if isName d.1=false then 6 else e7 d)):=fun h=>by rw[h]
 unfold IL BB9 BB8 BB7 BB6 BA5 BA0 BAZ BAY BAS
 refine aF (s:=HS) (y:=isName d.1) qX ?_
 refine fB (fun h=>is0 (by rw[if_pos h])) fun hn=>?_
 have is:∀ {n:Int},e7 d=n→T.v (.int .i64 n)=T.v (.int .i64 (if isName d.1=false then 6 else e7 d)):=fun h=>is0 (by rw[if_neg (by rw[show isName d.1=true from hn];exact Bool.noConfusion)];exact h)
 clear is0
 have long:eU d=true→e7 d=4:=fun h=>by unfold e7;rw[if_pos h]
 refine b6 (fun h=>is (long (by rw[List.length_map] at h;simp only[eU,Bool.or_eq_true,decide_eq_true_eq];omega))) fun l1=>?_
 refine b6 (fun h=>is (long (by rw[List.length_map] at h;simp only[eU,Bool.or_eq_true,decide_eq_true_eq];omega))) fun l2=>?_
 refine b6 (fun h=>is (long (by rw[List.length_map] at h;simp only[eU,Bool.or_eq_true,decide_eq_true_eq];omega))) fun l3=>?_
 refine b6 (fun h=>is (long (by rw[List.length_map] at h;simp only[eU,Bool.or_eq_true,decide_eq_true_eq];omega))) fun l4=>?_
 refine b6 (fun h=>is (long (by rw[List.length_map] at h;simp only[eU,Bool.or_eq_true,decide_eq_true_eq];omega))) fun l5=>?_
 rw[List.length_map] at l1 l2 l3 l4 l5
 have notLong:eU d=false:=by simp only[eU,Bool.or_eq_false_iff,decide_eq_false_iff_not];omega
 have b11:eQ d=false→T.v (.int .i64 11)=T.v (.int .i64 (if isName d.1=false then 6 else e7 d)):=fun h=>is (by unfold e7;rw[notLong,if_neg (by simp),if_pos h])
 refine aF (s:=q4) (RW hu) ?_
 have il:∀ {α:Type} {l:List (ByteArray×α)},l.length≤1000→(ids l).length≤140737488355328:=fun h=>by unfold ids;rw[List.length_map];omega
 refine aF (s:=HS) (y:=pJ (ids d.2.1)) ((sP ..).trans (fC _ (il un))) ?_
 refine fB (fun h=>b11 (by unfold eQ;rw[h];rfl)) fun a1=>?_
 refine aF (s:=HS) (y:=pJ (ids d.2.2.1)) ((sP ..).trans (fC _ (il up))) ?_
 refine fB (fun h=>b11 (by unfold eQ;rw[h];simp)) fun a2=>?_
 refine aF (s:=HS) (y:=pJ (ids d.2.2.2.1)) ((sP ..).trans (fC _ (il us))) ?_
 refine fB (fun h=>b11 (by unfold eQ;rw[h];simp)) fun a3=>?_
 refine aF (s:=HS) (y:=pJ (ids d.2.2.2.2.1)) ((sP ..).trans (fC _ (il uk))) ?_
 refine fB (fun h=>b11 (by unfold eQ;rw[h];simp)) fun a4=>?_
 refine bG d.2.2.2.2.2.length (fun k s=>s=(((k+1:Nat):Int),())∧GM d.2.2.2.2.2=GM (d.2.2.2.2.2.drop k)) ⟨rfl,by rw[List.drop_zero]⟩ ?_
 rintro X k s hk ⟨rfl,he⟩ hX
 dsimp only
 have hw:IntKind.i64.wrap (((k+1:Nat):Int)+1)=((k+1+1:Nat):Int):=bB _ (by omega) (by omega)
 have hw1:IntKind.i64.wrap (((k+1:Nat):Int)-1)=((k:Nat):Int):=by rw[bB _ (by omega) (by omega)];omega
 refine b6 (fun hlt=>?_) fun hge=>?_
 ·have hlt:k+1<d.2.2.2.2.2.length:=by rw[List.length_map] at hlt;omega
  rw[hw1,bA (r:=aQ) (show k<d.2.2.2.2.2.length by omega),bA (r:=aQ) hlt,hw]
  rw[NW hlt] at he
  refine aF (s:=HS) (y:=T5 d.2.2.2.2.2[k] d.2.2.2.2.2[k+1]) (NB ..) ?_
  refine fB (fun h=>b11 ?_) fun h=>hX _ (by omega) ⟨rfl,?_⟩
  ·unfold eQ;rw[he,h];simp
  ·rw[he,h];rfl
 rw[List.length_map] at hge
 rw[VE (by omega)] at he
 clear hX hk hw hw1 hge
 have io:¬ eQ d=false:=by unfold eQ;rw[a1,a2,a3,a4,he];decide
 have b7:JT d=true→T.v (.int .i64 7)=T.v (.int .i64 (if isName d.1=false then 6 else e7 d)):=fun h=>is (by unfold e7;rw[notLong,if_neg (by simp),if_neg io,if_pos h])
 refine r6 (m:=ids d.2.1) (l:=ids d.2.2.1) (il up) (fun h=>b7 (DL (.inl ⟨rfl,rfl⟩) h)) fun c1=>?_
 refine r6 (m:=ids d.2.1) (l:=ids d.2.2.2.1) (il us) (fun h=>b7 (DL (.inr (.inl ⟨rfl,rfl⟩)) h)) fun c2=>?_
 refine r6 (m:=ids d.2.2.1) (l:=ids d.2.2.2.1) (il us) (fun h=>b7 (DL (.inr (.inr (.inl ⟨rfl,rfl⟩))) h)) fun c3=>?_
 refine r6 (m:=ids d.2.1) (l:=ids d.2.2.2.2.1) (il uk) (fun h=>b7 (DL (.inr (.inr (.inr (.inl ⟨rfl,rfl⟩)))) h)) fun c4=>?_
 refine r6 (m:=ids d.2.2.1) (l:=ids d.2.2.2.2.1) (il uk) (fun h=>b7 (DL (.inr (.inr (.inr (.inr (.inl ⟨rfl,rfl⟩))))) h)) fun c5=>?_
 refine r6 (m:=ids d.2.2.2.1) (l:=ids d.2.2.2.2.1) (il uk) (fun h=>b7 (DL (.inr (.inr (.inr (.inr (.inr ⟨rfl,rfl⟩))))) h)) fun c6=>is ?_
 have na:∀ {l:List ByteArray} {p:ByteArray→Bool} {x:ByteArray},l.any p=false→x∈l→p x=false:=fun h hx=>by
  rw[Bool.eq_false_iff] at h ⊢
  exact fun h2=>h (List.any_eq_true.2 ⟨_,hx,h2⟩)
 have nd:¬ JT d=true:=by
  intro h
  simp only[JT,ARI,Bool.or_eq_true,List.any_eq_true] at h
  rcases h with (⟨x,hx,h⟩|⟨x,hx,h|h⟩)|⟨x,hx,(h|h)|h⟩
  ·rw[na c1 hx] at h;cases h
  ·rw[na c2 hx] at h;cases h
  ·rw[na c3 hx] at h;cases h
  ·rw[na c4 hx] at h;cases h
  ·rw[na c5 hx] at h;cases h
  ·rw[na c6 hx] at h;cases h
 unfold e7;rw[notLong,if_neg (by simp),if_neg io,if_neg nd]
end Go.Pv
namespace Go.Pv
open Go Go.Proofs
theorem cP {r:Sy} {l:List r.den} (p:r.den→Bool) {Body:(Int×PUnit→Prop)→Int×PUnit→r.den→Prop} {Fin:Prop} (hl:l.length≤140737488355328)
  (hB:∀ (X:Int×PUnit→Prop) (k:Nat) (y:r.den) (h:k<l.length),l[k]=y→(p y=true→l.findIdx p=k∧l.any p=true)→(p y=false→X (IntKind.i64.wrap ((k:Int)+1),()))→Body X ((k:Int),()) y)
  (hF:l.findIdx p=l.length→l.any p=false→Fin) :
  a6 (Int×PUnit) (fun X s=>aB (decide (s.1<((List.map r.enc l).length:Int))) (aS r (List.map r.enc l) s.1 fun y=>Body X s y) Fin) (0,()):=by
 refine bG l.length (fun k s=>s=((k:Int),())∧∀ i,(h:i<l.length)→i<k→p l[i]=false) ⟨rfl,fun i _ h=>by omega⟩ ?_
 rintro X k s hk ⟨rfl,he⟩ hX
 dsimp only
 refine b6 (fun hlt=>?_) fun hge=>?_
 ·rw[List.length_map] at hlt
  have hlt:k<l.length:=by omega
  rw[bA (r:=r) hlt]
  refine hB X k _ hlt rfl (fun hp=>⟨?_,List.any_eq_true.2 ⟨_,List.getElem_mem hlt,hp⟩⟩) fun hp=>hX _ hlt ⟨?_,fun i hi hik=>?_⟩
  ·exact (List.findIdx_eq hlt).2 ⟨hp,fun j hj=>he j (by omega) hj⟩
  ·rw[show IntKind.i64.wrap ((k:Int)+1)=((k+1:Nat):Int) by rw[bB]<;>omega]
  ·rcases Nat.lt_or_ge i k with h|h
   ·exact he i hi h
   ·have:i=k:=by omega
    subst this;exact hp
 ·rw[List.length_map] at hge
  have hall:∀ y∈l,p y=false:=fun y hy=>by
   obtain ⟨i,hi,rfl⟩:=List.mem_iff_getElem.1 hy
   exact he i hi (by omega)
  exact hF (List.findIdx_eq_length_of_false fun y hy=>by simpa using hall y hy) (List.any_eq_false.2 fun y hy=>by simp[hall y hy])
theorem pA {n:Nat} (h:n≤1000):n≤140737488355328:=by omega
theorem uW {α:Type} {is:α→Bool} {l:List α} (h:l.findIdx is=l.length):iQ is l=l:=by
 unfold iQ
 rw[h,List.take_length,List.drop_eq_nil_of_le (by omega),List.append_nil]
theorem qY {r:Sy} {z b k:Nat} {f:Bool} {l:List r.den} {x:r.den} (hz:r.w=z) (hk:k≤l.length) (hl:l.length≤1000) (hb:b≤1000):RU z b (List.map r.enc l) [.v (.int .i64 (k:Int)),.sl f [r.enc x]]=some (List.map r.enc (l.take k++x::l.drop k)):=by
 unfold RU
 have hm:(l.length+1)*b≤1001*1000:=Nat.mul_le_mul (by omega) hb
 have hc:(decide (0≤(k:Int))&&decide ((k:Int).toNat≤(List.map r.enc l).length)&&decide ((r.enc x).length=z)&&gC z (List.map r.enc l)&&decide (((List.map r.enc l).length+1)*b≤140737488355328)&&decide ((List.map r.enc l).length+1≤140737488355328))=true:=by
  subst hz
  simp only[List.length_map,Int.toNat_natCast,Sy.dD,uR,Bool.and_eq_true,decide_eq_true_eq,and_true]
  omega
 dsimp only
 rw[hc]
 simp
theorem DK {r:Sy} {z k:Nat} {l:List r.den} (hz:r.w=z) (hk:k<l.length) (hl:l.length≤1000):RT z (List.map r.enc l) [.v (.int .i64 (k:Int)),.v (.int .i64 (IntKind.i64.wrap ((k:Int)+1)))]=some (List.map r.enc (l.take k++l.drop (k+1))):=by
 unfold RT
 have hw:IntKind.i64.wrap ((k:Int)+1)=(k:Int)+1:=by rw[bB]<;>omega
 have hc:(decide (0≤(k:Int))&&decide (IntKind.i64.wrap ((k:Int)+1)=(k:Int)+1)&&decide ((k:Int).toNat<(List.map r.enc l).length)&&gC z (List.map r.enc l))=true:=by
  subst hz
  rw[hw]
  simp only[List.length_map,Int.toNat_natCast,uR,Bool.and_eq_true,decide_eq_true_eq,and_true]
  omega
 dsimp only
 rw[hc]
 simp
def TM (x:a8):Option T:=some (Sh.enc [(true,aU)] ((x.1,nN,nN,p9 x,fV,gZ,noPack,qT):a8))
noncomputable def A7C:Env:=Env.of []
def A7V:FuncId→Hint:=fun _=>aX
theorem AXY:aR Tryz.prog A7C:=.nil _
def APF(a0:a8)(R:T→Prop):Prop:=R (T.agg [T.v (.int .i64 a0.1),T.v (.string {data:=#[]}), T.v (.string {data:=#[]}),T.v (.string a0.2.2.2.1.1), T.v (.int .i64 a0.2.2.2.1.2.1), T.v (.string a0.2.2.2.1.2.2),T.v (.string {data:=#[]}), T.v (.int .i64 0),T.v (.int .i64 0), T.v (.string {data:=#[]}),T.v (.string {data:=#[]}), T.v (.int .i64 0),T.sl false [],T.sl false [], T.v (.string {data:=#[]}),T.v (.int .i64 0), T.v (.int .i64 0),T.v (.int .i64 0), T.v (.int .i64 0),T.v (.int .i64 0), T.v (.int .i64 0),T.v (.int .i64 0), T.v (.int .i64 0),T.v (.int .i64 0), T.v (.string {data:=#[]}),T.v (.string {data:=#[]}), T.v (.string {data:=#[]}),T.v (.int .i64 0), T.v (.int .i64 0),T.v (.int .i64 0), T.v (.string {data:=#[]}),T.v (.string {data:=#[]}),T.sl false [], T.v (.int .i64 0),T.sl false [],T.v (.int .i64 0), T.v (.string {data:=#[]}),T.v (.string {data:=#[]})])
abbrev AV6:Sh:=[(true,aU)]
noncomputable def OV:List T→Option T:=gS AV6 TM
theorem AS6 {a0}:OV [aH true aU a0]=TM (a0):=bD (s:=AV6) rfl (a0) rfl
theorem A5X:rA Tryz.prog 120 OV TM (cB AV6) APF:=gF (a1:=(true,aU)) (sp:=TM) (F:=APF) (Hs:=A7V) (f:=120) (k:=8) AXY aT aW (aL rfl) ⟨_,_,Tryz.func120,rfl⟩ rfl fun _ _=>by kernel_rfl
theorem A37:aN Tryz.prog 120 OV:=A5X fun x r h hb=>by
 cases h
 unfold APF
 rfl
def TN (x:a8):Option T:=some (Sh.enc [(true,aU)] ((x.1,fQ x,nN,gY,fV,gZ,noPack,qT):a8))
noncomputable def A7D:Env:=Env.of []
def A7W:FuncId→Hint:=fun _=>aX
theorem AXZ:aR Tryz.prog A7D:=.nil _
def APG(a0:a8)(R:T→Prop):Prop:=R (T.agg [T.v (.int .i64 a0.1),T.v (.string a0.2.1), T.v (.string {data:=#[]}),T.v (.string {data:=#[]}), T.v (.int .i64 0),T.v (.string {data:=#[]}), T.v (.string {data:=#[]}),T.v (.int .i64 0), T.v (.int .i64 0),T.v (.string {data:=#[]}), T.v (.string {data:=#[]}),T.v (.int .i64 0),T.sl false [], T.sl false [],T.v (.string {data:=#[]}),T.v (.int .i64 0), T.v (.int .i64 0),T.v (.int .i64 0), T.v (.int .i64 0),T.v (.int .i64 0), T.v (.int .i64 0),T.v (.int .i64 0), T.v (.int .i64 0),T.v (.int .i64 0), T.v (.string {data:=#[]}),T.v (.string {data:=#[]}), T.v (.string {data:=#[]}),T.v (.int .i64 0), T.v (.int .i64 0),T.v (.int .i64 0), T.v (.string {data:=#[]}),T.v (.string {data:=#[]}),T.sl false [], T.v (.int .i64 0),T.sl false [],T.v (.int .i64 0), T.v (.string {data:=#[]}),T.v (.string {data:=#[]})])
abbrev AV7:Sh:=[(true,aU)]
noncomputable def OX:List T→Option T:=gS AV7 TN
theorem AS7 {a0}:OX [aH true aU a0]=TN (a0):=bD (s:=AV7) rfl (a0) rfl
theorem A5Y:rA Tryz.prog 128 OX TN (cB AV7) APG:=gF (a1:=(true,aU)) (sp:=TN) (F:=APG) (Hs:=A7W) (f:=128) (k:=8) AXZ aT aW (aL rfl) ⟨_,_,Tryz.func128,rfl⟩ rfl fun _ _=>by kernel_rfl
theorem A38:aN Tryz.prog 128 OX:=A5Y fun x r h hb=>by
 cases h
 unfold APG
 rfl
def TO (x:a8):Option T:=some (Sh.enc [(true,aU)] ((x.1,nN,nN,gY,fE x,gZ,noPack,qT):a8))
noncomputable def A7E:Env:=Env.of []
def A7X:FuncId→Hint:=fun _=>aX
theorem AX0:aR Tryz.prog A7E:=.nil _
def APH(a0:a8)(R:T→Prop):Prop:=R (T.agg [T.v (.int .i64 a0.1),T.v (.string {data:=#[]}), T.v (.string {data:=#[]}),T.v (.string {data:=#[]}), T.v (.int .i64 0),T.v (.string {data:=#[]}), T.v (.string a0.2.2.2.2.1.1), T.v (.int .i64 a0.2.2.2.2.1.2.1), T.v (.int .i64 a0.2.2.2.2.1.2.2.1), T.v (.string a0.2.2.2.2.1.2.2.2.1), T.v (.string a0.2.2.2.2.1.2.2.2.2.1), T.v (.int .i64 a0.2.2.2.2.1.2.2.2.2.2.1), T.sl false (List.map aA.enc a0.2.2.2.2.1.2.2.2.2.2.2.1.1), T.sl false (List.map aA.li.enc a0.2.2.2.2.1.2.2.2.2.2.2.1.2), T.v (.string a0.2.2.2.2.1.2.2.2.2.2.2.2.1), T.v (.int .i64 a0.2.2.2.2.1.2.2.2.2.2.2.2.2.1), T.v (.int .i64 a0.2.2.2.2.1.2.2.2.2.2.2.2.2.2.1), T.v (.int .i64 a0.2.2.2.2.1.2.2.2.2.2.2.2.2.2.2.1.1), T.v (Value.int IntKind.i64 a0.2.2.2.2.1.2.2.2.2.2.2.2.2.2.2.1.2.1), T.v (Value.int IntKind.i64 a0.2.2.2.2.1.2.2.2.2.2.2.2.2.2.2.1.2.2), T.v (Value.int IntKind.i64 a0.2.2.2.2.1.2.2.2.2.2.2.2.2.2.2.2.1.1), T.v (Value.int IntKind.i64 a0.2.2.2.2.1.2.2.2.2.2.2.2.2.2.2.2.1.2.1), T.v (Value.int IntKind.i64 a0.2.2.2.2.1.2.2.2.2.2.2.2.2.2.2.2.1.2.2), T.v (.int .i64 a0.2.2.2.2.1.2.2.2.2.2.2.2.2.2.2.2.2), T.v (.string {data:=#[]}),T.v (.string {data:=#[]}), T.v (.string {data:=#[]}),T.v (.int .i64 0), T.v (.int .i64 0),T.v (.int .i64 0), T.v (.string {data:=#[]}),T.v (.string {data:=#[]}),T.sl false [], T.v (.int .i64 0),T.sl false [],T.v (.int .i64 0), T.v (.string {data:=#[]}),T.v (.string {data:=#[]})])
abbrev AV8:Sh:=[(true,aU)]
noncomputable def OY:List T→Option T:=gS AV8 TO
theorem AS8 {a0}:OY [aH true aU a0]=TO (a0):=bD (s:=AV8) rfl (a0) rfl
theorem A5Z:rA Tryz.prog 140 OY TO (cB AV8) APH:=gF (a1:=(true,aU)) (sp:=TO) (F:=APH) (Hs:=A7X) (f:=140) (k:=8) AX0 aT aW (aL rfl) ⟨_,_,Tryz.func140,rfl⟩ rfl fun _ _=>by kernel_rfl
theorem A39:aN Tryz.prog 140 OY:=A5Z fun x r h hb=>by
 cases h
 unfold APH
 rfl
def TP (x:a8):Option T:=some (Sh.enc [(true,aU)] ((x.1,fQ x,nN,gY,fV,gZ,noPack,qT):a8))
noncomputable def A7F:Env:=Env.of []
def A7Y:FuncId→Hint:=fun _=>aX
theorem AX1:aR Tryz.prog A7F:=.nil _
def API(a0:a8)(R:T→Prop):Prop:=R (T.agg [T.v (.int .i64 a0.1),T.v (.string a0.2.1), T.v (.string {data:=#[]}),T.v (.string {data:=#[]}), T.v (.int .i64 0),T.v (.string {data:=#[]}), T.v (.string {data:=#[]}),T.v (.int .i64 0), T.v (.int .i64 0),T.v (.string {data:=#[]}), T.v (.string {data:=#[]}),T.v (.int .i64 0),T.sl false [], T.sl false [],T.v (.string {data:=#[]}),T.v (.int .i64 0), T.v (.int .i64 0),T.v (.int .i64 0), T.v (.int .i64 0),T.v (.int .i64 0), T.v (.int .i64 0),T.v (.int .i64 0), T.v (.int .i64 0),T.v (.int .i64 0), T.v (.string {data:=#[]}),T.v (.string {data:=#[]}), T.v (.string {data:=#[]}),T.v (.int .i64 0), T.v (.int .i64 0),T.v (.int .i64 0), T.v (.string {data:=#[]}),T.v (.string {data:=#[]}),T.sl false [], T.v (.int .i64 0),T.sl false [],T.v (.int .i64 0), T.v (.string {data:=#[]}),T.v (.string {data:=#[]})])
abbrev AV9:Sh:=[(true,aU)]
noncomputable def OZ:List T→Option T:=gS AV9 TP
theorem AS9 {a0}:OZ [aH true aU a0]=TP (a0):=bD (s:=AV9) rfl (a0) rfl
theorem A50:rA Tryz.prog 147 OZ TP (cB AV9) API:=gF (a1:=(true,aU)) (sp:=TP) (F:=API) (Hs:=A7Y) (f:=147) (k:=8) AX1 aT aW (aL rfl) ⟨_,_,Tryz.func147,rfl⟩ rfl fun _ _=>by kernel_rfl
theorem A4A:aN Tryz.prog 147 OZ:=A50 fun x r h hb=>by
 cases h
 unfold API
 rfl
def TQ (x:a8):Option T:=some (Sh.enc [(true,aU)] ((x.1,nN,nN,gY,fV,oU x,noPack,qT):a8))
noncomputable def A7G:Env:=Env.of []
def A7Z:FuncId→Hint:=fun _=>aX
theorem AX2:aR Tryz.prog A7G:=.nil _
def APJ(a0:a8)(R:T→Prop):Prop:=R (T.agg [T.v (.int .i64 a0.1),T.v (.string {data:=#[]}), T.v (.string {data:=#[]}),T.v (.string {data:=#[]}), T.v (.int .i64 0),T.v (.string {data:=#[]}), T.v (.string {data:=#[]}),T.v (.int .i64 0), T.v (.int .i64 0),T.v (.string {data:=#[]}), T.v (.string {data:=#[]}),T.v (.int .i64 0),T.sl false [], T.sl false [],T.v (.string {data:=#[]}),T.v (.int .i64 0), T.v (.int .i64 0),T.v (.int .i64 0), T.v (.int .i64 0),T.v (.int .i64 0), T.v (.int .i64 0),T.v (.int .i64 0), T.v (.int .i64 0),T.v (.int .i64 0), T.v (.string a0.2.2.2.2.2.1.1), T.v (.string a0.2.2.2.2.2.1.2.1), T.v (.string a0.2.2.2.2.2.1.2.2.1), T.v (.int .i64 a0.2.2.2.2.2.1.2.2.2.1), T.v (.int .i64 a0.2.2.2.2.2.1.2.2.2.2.1), T.v (.int .i64 a0.2.2.2.2.2.1.2.2.2.2.2), T.v (.string {data:=#[]}),T.v (.string {data:=#[]}),T.sl false [], T.v (.int .i64 0),T.sl false [],T.v (.int .i64 0), T.v (.string {data:=#[]}),T.v (.string {data:=#[]})])
abbrev AWA:Sh:=[(true,aU)]
noncomputable def O0:List T→Option T:=gS AWA TQ
theorem ATA {a0}:O0 [aH true aU a0]=TQ (a0):=bD (s:=AWA) rfl (a0) rfl
theorem A51:rA Tryz.prog 168 O0 TQ (cB AWA) APJ:=gF (a1:=(true,aU)) (sp:=TQ) (F:=APJ) (Hs:=A7Z) (f:=168) (k:=8) AX2 aT aW (aL rfl) ⟨_,_,Tryz.func168,rfl⟩ rfl fun _ _=>by kernel_rfl
theorem A4B:aN Tryz.prog 168 O0:=A51 fun x r h hb=>by
 cases h
 unfold APJ
 rfl
def TR (x:a8):Option T:=some (Sh.enc [(true,aU)] ((x.1,fQ x,nN,gY,fV,gZ,noPack,qT):a8))
noncomputable def A7H:Env:=Env.of []
def A70:FuncId→Hint:=fun _=>aX
theorem AX3:aR Tryz.prog A7H:=.nil _
def APK(a0:a8)(R:T→Prop):Prop:=R (T.agg [T.v (.int .i64 a0.1),T.v (.string a0.2.1), T.v (.string {data:=#[]}),T.v (.string {data:=#[]}), T.v (.int .i64 0),T.v (.string {data:=#[]}), T.v (.string {data:=#[]}),T.v (.int .i64 0), T.v (.int .i64 0),T.v (.string {data:=#[]}), T.v (.string {data:=#[]}),T.v (.int .i64 0),T.sl false [], T.sl false [],T.v (.string {data:=#[]}),T.v (.int .i64 0), T.v (.int .i64 0),T.v (.int .i64 0), T.v (.int .i64 0),T.v (.int .i64 0), T.v (.int .i64 0),T.v (.int .i64 0), T.v (.int .i64 0),T.v (.int .i64 0), T.v (.string {data:=#[]}),T.v (.string {data:=#[]}), T.v (.string {data:=#[]}),T.v (.int .i64 0), T.v (.int .i64 0),T.v (.int .i64 0), T.v (.string {data:=#[]}),T.v (.string {data:=#[]}),T.sl false [], T.v (.int .i64 0),T.sl false [],T.v (.int .i64 0), T.v (.string {data:=#[]}),T.v (.string {data:=#[]})])
abbrev AWB:Sh:=[(true,aU)]
noncomputable def O1:List T→Option T:=gS AWB TR
theorem ATB {a0}:O1 [aH true aU a0]=TR (a0):=bD (s:=AWB) rfl (a0) rfl
theorem A52:rA Tryz.prog 176 O1 TR (cB AWB) APK:=gF (a1:=(true,aU)) (sp:=TR) (F:=APK) (Hs:=A70) (f:=176) (k:=8) AX3 aT aW (aL rfl) ⟨_,_,Tryz.func176,rfl⟩ rfl fun _ _=>by kernel_rfl
theorem A4C:aN Tryz.prog 176 O1:=A52 fun x r h hb=>by
 cases h
 unfold APK
 rfl
def TS (x:a8):Option T:=some (Sh.enc [(true,aU)] ((x.1,nN,nN,gY,fV,gZ,jO x,qT):a8))
noncomputable def A7I:Env:=Env.of []
def A71:FuncId→Hint:=fun _=>aX
theorem AX4:aR Tryz.prog A7I:=.nil _
def APL(a0:a8)(R:T→Prop):Prop:=R (T.agg [T.v (.int .i64 a0.1),T.v (.string {data:=#[]}), T.v (.string {data:=#[]}),T.v (.string {data:=#[]}), T.v (.int .i64 0),T.v (.string {data:=#[]}), T.v (.string {data:=#[]}),T.v (.int .i64 0), T.v (.int .i64 0),T.v (.string {data:=#[]}), T.v (.string {data:=#[]}),T.v (.int .i64 0),T.sl false [], T.sl false [],T.v (.string {data:=#[]}),T.v (.int .i64 0), T.v (.int .i64 0),T.v (.int .i64 0), T.v (.int .i64 0),T.v (.int .i64 0), T.v (.int .i64 0),T.v (.int .i64 0), T.v (.int .i64 0),T.v (.int .i64 0), T.v (.string {data:=#[]}),T.v (.string {data:=#[]}), T.v (.string {data:=#[]}),T.v (.int .i64 0), T.v (.int .i64 0),T.v (.int .i64 0), T.v (.string a0.2.2.2.2.2.2.1.1), T.v (.string a0.2.2.2.2.2.2.1.2.1), T.sl false (List.map Sy.str.enc a0.2.2.2.2.2.2.1.2.2.1), T.v (.int .i64 a0.2.2.2.2.2.2.1.2.2.2.1), T.sl false (List.map Sy.str.enc a0.2.2.2.2.2.2.1.2.2.2.2), T.v (.int .i64 0),T.v (.string {data:=#[]}), T.v (.string {data:=#[]})])
abbrev AWC:Sh:=[(true,aU)]
noncomputable def O2:List T→Option T:=gS AWC TS
theorem ATC {a0}:O2 [aH true aU a0]=TS (a0):=bD (s:=AWC) rfl (a0) rfl
theorem A53:rA Tryz.prog 188 O2 TS (cB AWC) APL:=gF (a1:=(true,aU)) (sp:=TS) (F:=APL) (Hs:=A71) (f:=188) (k:=8) AX4 aT aW (aL rfl) ⟨_,_,Tryz.func188,rfl⟩ rfl fun _ _=>by kernel_rfl
theorem A4D:aN Tryz.prog 188 O2:=A53 fun x r h hb=>by
 cases h
 unfold APL
 rfl
def H4 (x:a8):Option T:=some (Sh.enc [(true,aU)] ((x.1,fQ x,nN,gY,fV,gZ,noPack,qT):a8))
noncomputable def A2Q:Env:=Env.of []
def A24:FuncId→Hint:=fun _=>aX
theorem AOD:aR Tryz.prog A2Q:=.nil _
def ABC(a0:a8)(R:T→Prop):Prop:=R (T.agg [T.v (.int .i64 a0.1),T.v (.string a0.2.1), T.v (.string {data:=#[]}),T.v (.string {data:=#[]}), T.v (.int .i64 0),T.v (.string {data:=#[]}), T.v (.string {data:=#[]}),T.v (.int .i64 0), T.v (.int .i64 0),T.v (.string {data:=#[]}), T.v (.string {data:=#[]}),T.v (.int .i64 0),T.sl false [], T.sl false [],T.v (.string {data:=#[]}),T.v (.int .i64 0), T.v (.int .i64 0),T.v (.int .i64 0), T.v (.int .i64 0),T.v (.int .i64 0), T.v (.int .i64 0),T.v (.int .i64 0), T.v (.int .i64 0),T.v (.int .i64 0), T.v (.string {data:=#[]}),T.v (.string {data:=#[]}), T.v (.string {data:=#[]}),T.v (.int .i64 0), T.v (.int .i64 0),T.v (.int .i64 0), T.v (.string {data:=#[]}),T.v (.string {data:=#[]}),T.sl false [], T.v (.int .i64 0),T.sl false [],T.v (.int .i64 0), T.v (.string {data:=#[]}),T.v (.string {data:=#[]})])
abbrev AEP:Sh:=[(true,aU)]
noncomputable def DZ:List T→Option T:=gS AEP H4
theorem AKU {a0}:DZ [aH true aU a0]=H4 (a0):=bD (s:=AEP) rfl (a0) rfl
theorem A0V:rA Tryz.prog 197 DZ H4 (cB AEP) ABC:=gF (a1:=(true,aU)) (sp:=H4) (F:=ABC) (Hs:=A24) (f:=197) (k:=8) AOD aT aW (aL rfl) ⟨_,_,Tryz.func197,rfl⟩ rfl fun _ _=>by kernel_rfl
theorem AZR:aN Tryz.prog 197 DZ:=A0V fun x r h hb=>by
 cases h
 unfold ABC
 rfl
def H5 (x:a8):Option T:=some (Sh.enc [(true,aU)] ((x.1,nN,nN,gY,fV,gZ,noPack,kL x):a8))
noncomputable def A2R:Env:=Env.of []
def A25:FuncId→Hint:=fun _=>aX
theorem AOE:aR Tryz.prog A2R:=.nil _
def ABD(a0:a8)(R:T→Prop):Prop:=R (T.agg [T.v (.int .i64 a0.1),T.v (.string {data:=#[]}), T.v (.string {data:=#[]}),T.v (.string {data:=#[]}), T.v (.int .i64 0),T.v (.string {data:=#[]}), T.v (.string {data:=#[]}),T.v (.int .i64 0), T.v (.int .i64 0),T.v (.string {data:=#[]}), T.v (.string {data:=#[]}),T.v (.int .i64 0),T.sl false [], T.sl false [],T.v (.string {data:=#[]}),T.v (.int .i64 0), T.v (.int .i64 0),T.v (.int .i64 0), T.v (.int .i64 0),T.v (.int .i64 0), T.v (.int .i64 0),T.v (.int .i64 0), T.v (.int .i64 0),T.v (.int .i64 0), T.v (.string {data:=#[]}),T.v (.string {data:=#[]}), T.v (.string {data:=#[]}),T.v (.int .i64 0), T.v (.int .i64 0),T.v (.int .i64 0), T.v (.string {data:=#[]}),T.v (.string {data:=#[]}),T.sl false [], T.v (.int .i64 0),T.sl false [], T.v (.int .i64 a0.2.2.2.2.2.2.2.1), T.v (.string a0.2.2.2.2.2.2.2.2.1), T.v (.string a0.2.2.2.2.2.2.2.2.2)])
abbrev AEQ:Sh:=[(true,aU)]
noncomputable def sS:List T→Option T:=gS AEQ H5
theorem OW {a0}:sS [aH true aU a0]=H5 (a0):=bD (s:=AEQ) rfl (a0) rfl
theorem A0W:rA Tryz.prog 203 sS H5 (cB AEQ) ABD:=gF (a1:=(true,aU)) (sp:=H5) (F:=ABD) (Hs:=A25) (f:=203) (k:=8) AOE aT aW (aL rfl) ⟨_,_,Tryz.func203,rfl⟩ rfl fun _ _=>by kernel_rfl
theorem AF5:aN Tryz.prog 203 sS:=A0W fun x r h hb=>by
 cases h
 unfold ABD
 rfl
def xW (x:aC×a8):Option T:=some (T.v (.bool false))
noncomputable def ANX:Env:=Env.of []
def AQN:FuncId→Hint:=fun _=>aX
theorem AAU:aR Tryz.prog ANX:=.nil _
def I9(a0:aC)(a1:a8)(R:T→Prop):Prop:=R BAQ
abbrev MH:Sh:=[(true,aE),(true,aU)]
noncomputable def j0:List T→Option T:=gS MH xW
theorem F5 {a0 a1}:j0 [aH true aE a0,aH true aU a1]=xW (a0,a1):=bD (s:=MH) rfl (a0,a1) rfl
theorem AL8:uH Tryz.prog 156 j0 xW (cB MH) I9:=iK (a1:=(true,aE)) (a2:=(true,aU)) (sp:=xW) (F:=I9) (Hs:=AQN) (f:=156) (k:=8) AAU aT aW (aL rfl) ⟨_,_,Tryz.func156,rfl⟩ rfl fun _ _ _=>by kernel_rfl
theorem DS:aN Tryz.prog 156 j0:=AL8 fun d x r h hb=>by
 cases h
 unfold I9 BAQ
 rfl
theorem lO {c:Bool} {a r:T} (h:(match c with|true=>some a|false=>none)=some r):c=true∧a=r:=by
 cases c with
 | true=>exact ⟨rfl,Option.some.inj h⟩
 | false=>cases h
def CS (x:aC×a8):Option T:=match uD x.1 with
 | true=>some (T.v (.bool (nJ x.1 (fQ x.2))))
 | false=>none
noncomputable def AXC:Env:=Env.of []
def AYR:FuncId→Hint:=bV 272 [(2,.inv [.val 8 false (.int .i64)])] (bV 277 [(2,.inv [.val 8 false (.int .i64)])] (bV 278 [(2,.inv [.val 8 false (.int .i64)])] (fun _=>aX)))
theorem AIM:aR Tryz.prog AXC:=.nil _
def BCA(a0:aC)(a1:a8)(R:T→Prop):Prop:=a6 (Int×PUnit) (fun X3 s4=>aB (decide (s4.1<(↑(List.map aG.enc a0.2.2.2.2.1).length:Int))) (aS aG (List.map aG.enc a0.2.2.2.2.1) s4.1 fun (y5:aM)=>a6 (Int×PUnit) (fun X6 s7=>aB (decide (s7.1<(↑(List.map Sy.str.enc y5.2.2.1).length:Int))) (aS Sy.str (List.map Sy.str.enc y5.2.2.1) s7.1 fun (y8:ByteArray)=>aB (decide (a1.2.1=y8)) (aB (decide (0≤s7.1)) (R (T.v (.bool (decide (0≤s4.1))))) (X3 (IntKind.i64.wrap (s4.1+1),()))) (X6 (IntKind.i64.wrap (s7.1+1),()))) (X3 (IntKind.i64.wrap (s4.1+1),()))) (0,())) (R BAQ)) (0,())
def Q0(a0:aC)(a1:a8)(R:T→Prop):Prop:=a6 (Int×PUnit) (fun X0 s1=>aB (decide (s1.1<(↑(List.map a7.enc a0.2.2.2.1).length:Int))) (aS a7 (List.map a7.enc a0.2.2.2.1) s1.1 fun (y2:bK)=>aB (decide (y2.2.1=a1.2.1)) (aB (decide (0≤s1.1)) (R BAW) (BCA a0 a1 R)) (aB (decide (y2.2.2.1=a1.2.1)) (aB (decide (0≤s1.1)) (R BAW) (BCA a0 a1 R)) (X0 (IntKind.i64.wrap (s1.1+1),())))) (BCA a0 a1 R)) (0,())
abbrev TC:Sh:=[(true,aE),(true,aU)]
noncomputable def wZ:List T→Option T:=gS TC CS
theorem ADG {a0 a1}:wZ [aH true aE a0,aH true aU a1]=CS (a0,a1):=bD (s:=TC) rfl (a0,a1) rfl
theorem AU6:uH Tryz.prog 135 wZ CS (cB TC) Q0:=iK (a1:=(true,aE)) (a2:=(true,aU)) (sp:=CS) (F:=Q0) (Hs:=AYR) (f:=135) (k:=8) AIM aT aW (aL rfl) ⟨_,_,Tryz.func135,rfl⟩ rfl fun _ _ _=>by kernel_rfl
theorem ASC:aN Tryz.prog 135 wZ:=AU6 fun d x r h hb=>by
 clear hb
 obtain ⟨hp,rfl⟩:=lO h
 clear h
 have c:=dP hp
 have hk:∀ k∈d.2.2.2.2.1,k.2.2.1.length≤140737488355328∧k.2.2.2.2.length≤140737488355328:=fun k hk=>by
  have:=List.all_eq_true.1 c.YN k hk
  simp only[fX,j3,Bool.and_eq_true,decide_eq_true_eq] at this
  exact ⟨this.1.2,this.2.2⟩
 have is:∀ {b:Bool},nJ d (fQ x)=b→T.v (.bool b)=T.v (.bool (nJ d (fQ x))):=fun h=>by rw[h]
 have pos:∀ {k:Nat},¬ (0≤(k:Int))→False:=fun h=>h (by omega)
 unfold Q0 BCA BAW BAQ
 refine cP (r:=a7) (fun s=>decide (s.2.1=fQ x)||decide (s.2.2.1=fQ x)) (pA c.s) (fun X k y hlt hy hp hn=>?_) (fun _ h1=>?_)
 ·dsimp only
  have yes:(decide (y.2.1=fQ x)||decide (y.2.2.1=fQ x))=true→nJ d (fQ x)=true:=fun h=>by unfold nJ;rw[(hp h).2];rfl
  refine b6 (fun h=>b6 (fun _=>is (yes (by rw[decide_eq_true h];rfl))) fun h=>(pos h).elim) fun h=>?_
  refine b6 (fun h2=>b6 (fun _=>is (yes (by rw[decide_eq_true h2,Bool.or_true]))) fun h=>(pos h).elim) fun h2=>hn ?_
  rw[decide_eq_false h,decide_eq_false h2];rfl
 ·refine cP (r:=aG) (fun k=>ADI k.2.2.1 (fQ x)) (pA c.k) (fun X k y hlt hy hp hn=>?_) (fun _ h2=>is ?_)
  ·dsimp only
   refine cP (r:=.str) (fun z=>decide (z=fQ x)) (hk y (by rw[←hy];exact List.getElem_mem hlt)).1 (fun Y j z hj hz hp2 hn2=>?_) (fun _ h3=>hn h3)
   dsimp only
   refine b6 (fun h=>b6 (fun _=>is ?_) fun h=>(pos h).elim) fun h=>hn2 (decide_eq_false fun e=>h e.symm)
   have:=(hp (hp2 (decide_eq_true h.symm)).2).2
   rw[show decide ((0:Int)≤(k:Int))=true from decide_eq_true (by omega)]
   unfold nJ;rw[this,Bool.or_true]
  ·unfold nJ;rw[h1,h2];rfl
def CQ (x:aC×a8):Option T:=match uD x.1 with
 | true=>some (T.v (.bool (j6 x.1 (fQ x.2))))
 | false=>none
noncomputable def AXA:Env:=Env.of []
def AYP:FuncId→Hint:=bV 158 [(2,.inv [.val 8 false (.int .i64)])] (bV 271 [(2,.inv [.val 8 false (.int .i64)])] (bV 272 [(2,.inv [.val 8 false (.int .i64)])] (bV 273 [(2,.inv [.val 8 false (.int .i64)])] (fun _=>aX))))
theorem AIK:aR Tryz.prog AXA:=.nil _
def BCE(X6:Int×PUnit→Prop)(s7:Int×PUnit):Prop:=X6 (IntKind.i64.wrap (s7.1+1),())
def BCD(a0:aC)(s10:Int×PUnit)(a1:a8)(R:T→Prop)(X9:Int×PUnit→Prop):Prop:=aS aQ (List.map aQ.enc a0.2.2.2.2.2) s10.1 fun (y11:bC)=>aB (decide (y11.2.1=a1.2.1)) (R (T.v (.bool (decide (0≤s10.1))))) (aB (decide (y11.2.2=a1.2.1)) (aB (!decide (y11.1=3)) (R (T.v (.bool (decide (0≤s10.1))))) (BCE X9 s10)) (BCE X9 s10))
def BCB(a0:aC)(a1:a8)(R:T→Prop):Prop:=a6 (Int×PUnit) (fun X12 s13=>aB (decide (s13.1<(↑(List.map aQ.enc a0.2.2.2.2.2).length:Int))) (BCD a0 s13 a1 R X12) (R BAQ)) (0,())
def BCF(a0:aC):List (List T):=List.map aG.enc a0.2.2.2.2.1
def BCC(a0:aC)(a1:a8)(R:T→Prop):Prop:=a6 (Int×PUnit) (fun X15 s16=>aB (decide (s16.1<(↑(BCF a0).length:Int))) (aS aG (BCF a0) s16.1 fun (y17:aM)=>aB (decide (y17.2.1=a1.2.1)) (aB (decide (0≤s16.1)) (R BAW) (BCB a0 a1 R)) (BCE X15 s16)) (BCB a0 a1 R)) (0,())
def QY(a0:aC)(a1:a8)(R:T→Prop):Prop:=a6 (Int×PUnit) (fun X0 s1=>aB (decide (s1.1<(↑(List.map aO.enc a0.2.2.1).length:Int))) (aS aO (List.map aO.enc a0.2.2.1) s1.1 fun (y2:aY)=>aB (decide (y2.2.2.2.1=a1.2.1)) (aB (decide (0≤s1.1)) (R BAW) (a6 (Int×PUnit) (fun X3 s4=>aB (decide (s4.1<(↑(List.map aZ.enc a0.2.1).length:Int))) (aS aZ (List.map aZ.enc a0.2.1) s4.1 fun (y5:bI)=>aB (decide (y5.2.2=a1.2.1)) (aB (decide (0≤s4.1)) (R BAW) (a6 (Int×PUnit) (fun X6 s7=>aB (decide (s7.1<(↑(BCF a0).length:Int))) (aS aG (BCF a0) s7.1 fun (y8:aM)=>aB (decide (y8.2.1=a1.2.1)) (aB (decide (0≤s7.1)) (R BAW) (a6 (Int×PUnit) (fun X9 s10=>aB (decide (s10.1 < (↑(List.map aQ.enc a0.2.2.2.2.2).length:Int))) (BCD a0 s10 a1 R X9) (R BAQ)) (0,()))) (BCE X6 s7)) (BCB a0 a1 R)) (0,()))) (BCE X3 s4)) (BCC a0 a1 R)) (0,()))) (BCE X0 s1)) (a6 (Int×PUnit) (fun X24 s25=>aB (decide (s25.1<(↑(List.map aZ.enc a0.2.1).length:Int))) (aS aZ (List.map aZ.enc a0.2.1) s25.1 fun (y26:bI)=>aB (decide (y26.2.2=a1.2.1)) (aB (decide (0≤s25.1)) (R BAW) (BCC a0 a1 R)) (BCE X24 s25)) (BCC a0 a1 R)) (0,()))) (0,())
abbrev TA:Sh:=[(true,aE),(true,aU)]
noncomputable def wX:List T→Option T:=gS TA CQ
theorem ADE {a0 a1}:wX [aH true aE a0,aH true aU a1]=CQ (a0,a1):=bD (s:=TA) rfl (a0,a1) rfl
theorem AU4:uH Tryz.prog 111 wX CQ (cB TA) QY:=iK (a1:=(true,aE)) (a2:=(true,aU)) (sp:=CQ) (F:=QY) (Hs:=AYP) (f:=111) (k:=8) AIK aT aW (aL rfl) ⟨_,_,Tryz.func111,rfl⟩ rfl fun _ _ _=>by kernel_rfl
theorem ASA:aN Tryz.prog 111 wX:=AU4 fun d x r h hb=>by
 clear hb
 obtain ⟨hp,rfl⟩:=lO h
 clear h
 have c:=dP hp
 have is:∀ {b:Bool},j6 d (fQ x)=b→T.v (.bool b)=T.v (.bool (j6 d (fQ x))):=fun h=>by rw[h]
 have pos:∀ {k:Nat},¬ (0≤(k:Int))→False:=fun h=>h (by omega)
 have d0:∀ {k:Nat},decide ((0:Int)≤(k:Int))=true:=decide_eq_true (by omega)
 unfold QY BCC BCF BCB BCD BCE BAW BAQ
 refine cP (r:=aO) (fun p=>decide (nP p=fQ x)) (pA c.p) (fun X k y hlt hy hp hn=>?_) (fun _ h1=>?_)
 ·dsimp only
  exact b6 (fun h=>b6 (fun _=>is (by unfold j6;rw[(hp (decide_eq_true h)).2];rfl)) fun h=>(pos h).elim) fun h=>hn (decide_eq_false h)
 refine cP (r:=aZ) (fun n=>decide (n.2.2=fQ x)) (pA c.n) (fun X k y hlt hy hp hn=>?_) (fun _ h2=>?_)
 ·dsimp only
  exact b6 (fun h=>b6 (fun _=>is (by unfold j6;rw[h1,(hp (decide_eq_true h)).2];rfl)) fun h=>(pos h).elim) fun h=>hn (decide_eq_false h)
 refine cP (r:=aG) (fun k=>decide (k.2.1=fQ x)) (pA c.k) (fun X k y hlt hy hp hn=>?_) (fun _ h3=>?_)
 ·dsimp only
  exact b6 (fun h=>b6 (fun _=>is (by unfold j6;rw[h1,h2,(hp (decide_eq_true h)).2];rfl)) fun h=>(pos h).elim) fun h=>hn (decide_eq_false h)
 refine cP (r:=aQ) (fun n=>decide (n.2.1=fQ x)||(decide (n.2.2=fQ x) && !decide (n.1=3))) (pA c.r) (fun X k y hlt hy hp hn=>?_) (fun _ h4=>is (by unfold j6;rw[h1,h2,h3,h4];rfl))
 dsimp only
 have yes:(decide (y.2.1=fQ x)||(decide (y.2.2=fQ x) && !decide (y.1=3)))=true→j6 d (fQ x)=decide ((0:Int)≤(k:Int)):=fun h=>by rw[d0];unfold j6;rw[h1,h2,h3,(hp h).2];rfl
 refine b6 (fun h=>is (yes (by rw[decide_eq_true h];rfl))) fun a1=>?_
 refine b6 (fun a2=>?_) fun a2=>hn (by rw[decide_eq_false a1,decide_eq_false a2];rfl)
 refine jB (fun a3=>is (yes (by rw[decide_eq_true a2,decide_eq_false a3];simp))) fun a3=>hn (by rw[decide_eq_false a1,decide_eq_true a3,Bool.not_true,Bool.and_false];rfl)
def CR (x:aC×a8):Option T:=match uD x.1 with
 | true=>some (T.v (.bool (pH x.1 (fQ x.2))))
 | false=>none
noncomputable def AXB:Env:=Env.of [(81,.dup 5 88),(285,.grow 5 lB)]
def AYQ:FuncId→Hint:=bV 272 [(2,.inv [.val 8 false (.int .i64)])] (bV 273 [(2,.inv [.val 8 false (.int .i64)])] (bV 278 [(2,.inv [.val 8 false (.int .i64)])] (fun _=>aX)))
theorem AIL:aR Tryz.prog AXB:=aR.cons (x:=.dup 5 88) mM (.cons yG (.nil _))
def BCJ(X0:Int×PUnit→Prop)(s1:Int×PUnit):Prop:=X0 (IntKind.i64.wrap (s1.1+1),())
def BCK(a0:aC)(s14:Int×PUnit)(a1:a8)(R:T→Prop)(X13:Int×PUnit→Prop):Prop:=aS aQ (List.map aQ.enc a0.2.2.2.2.2) s14.1 fun (y15:bC)=>aB (decide (y15.1=3)) (aB (decide (y15.2.2=a1.2.1)) (R (T.v (.bool (decide (0≤s14.1))))) (BCJ X13 s14)) (BCJ X13 s14)
def BCG(a0:aC)(a1:a8)(R:T→Prop):Prop:=a6 (Int×PUnit) (fun X13 s14=>aB (decide (s14.1<(↑(List.map aQ.enc a0.2.2.2.2.2).length:Int))) (BCK a0 s14 a1 R X13) (R BAQ)) (0,())
def BCL(y33:aM):List (List T):=List.map Sy.str.enc y33.2.2.2.2
def BCH(y6:aM)(a1:a8)(s4:Int×PUnit)(R:T→Prop)(a0:aC)(X3:Int×PUnit→Prop):Prop:=a6 (Int×PUnit) (fun X7 s8=>aB (decide (s8.1<(↑(BCL y6).length:Int))) (aS Sy.str (BCL y6) s8.1 fun (y9:ByteArray)=>aB (decide (a1.2.1=y9)) (aB (decide (0≤s8.1)) (aB (decide (0≤s4.1)) (R BAW) (a6 (Int×PUnit) (fun X10 s11=>aB (decide (s11.1 < (↑(List.map aQ.enc a0.2.2.2.2.2).length:Int))) (BCK a0 s11 a1 R X10) (R BAQ)) (0,()))) (BCJ X3 s4)) (BCJ X7 s8)) (BCJ X3 s4)) (0,())
def BCI(a0:aC):List (List T):=List.map aG.enc a0.2.2.2.2.1
def QZ(a0:aC)(a1:a8)(R:T→Prop):Prop:=a6 (Int×PUnit) (fun X0 s1=>aB (decide (s1.1<(↑(BCI a0).length:Int))) (aS aG (BCI a0) s1.1 fun (y2:aM)=>aB (decide (y2.1=a1.2.1)) (aB (decide (s1.1<0)) (bS (((BCI a0).all fun (r:List T)=>decide (r.length=5)) && decide ((BCI a0).length*88≤140737488355328) && decide ((BCI a0).length≤140737488355328)) (a6 (Int×PUnit) (fun X3 s4=>aB (decide (s4.1<(↑(BCI a0).length:Int))) (aS aG (BCI a0) s4.1 fun (y5:aM)=>nD aG (BCI a0) (Int.toNat s4.1) 0 fun (y6:aM)=>BCH y6 a1 s4 R a0 X3) (BCG a0 a1 R)) (0,()))) (bS (((BCI a0).all fun (r:List T)=>decide (r.length=5)) && decide ((BCI a0).length*88≤140737488355328) && decide ((BCI a0).length≤140737488355328)) (dU aG (lB (BCI a0) [T.v (.int .i64 s1.1), T.v (.int .i64 (IntKind.i64.wrap (s1.1+1)))]) fun (y16:List aM)=>a6 (Int×PUnit) (fun X17 s18=>aB (decide (s18.1<(↑(List.map aG.enc y16).length:Int))) (aS aG (List.map aG.enc y16) s18.1 fun (y19:aM)=>nD aG (List.map aG.enc y16) (Int.toNat s18.1) 0 fun (y20:aM)=>BCH y20 a1 s18 R a0 X17) (BCG a0 a1 R)) (0,())))) (BCJ X0 s1)) (bS (((BCI a0).all fun (r:List T)=>decide (r.length=5)) && decide ((BCI a0).length*88≤140737488355328) && decide ((BCI a0).length≤140737488355328)) (a6 (Int×PUnit) (fun X30 s31=>aB (decide (s31.1<(↑(BCI a0).length:Int))) (aS aG (BCI a0) s31.1 fun (y32:aM)=>nD aG (BCI a0) (Int.toNat s31.1) 0 fun (y33:aM)=>a6 (Int×PUnit) (fun X34 s35=>aB (decide (s35.1<(↑(BCL y33).length:Int))) (aS Sy.str (BCL y33) s35.1 fun (y36:ByteArray)=>aB (decide (a1.2.1=y36)) (aB (decide (0≤s35.1)) (aB (decide (0≤s31.1)) (R BAW) (BCG a0 a1 R)) (BCJ X30 s31)) (BCJ X34 s35)) (BCJ X30 s31)) (0,())) (BCG a0 a1 R)) (0,())))) (0,())
abbrev TB:Sh:=[(true,aE),(true,aU)]
noncomputable def wY:List T→Option T:=gS TB CR
theorem ADF {a0 a1}:wY [aH true aE a0,aH true aU a1]=CR (a0,a1):=bD (s:=TB) rfl (a0,a1) rfl
theorem AU5:uH Tryz.prog 183 wY CR (cB TB) QZ:=iK (a1:=(true,aE)) (a2:=(true,aU)) (sp:=CR) (F:=QZ) (Hs:=AYQ) (f:=183) (k:=8) AIL aT aW (aL rfl) ⟨_,_,Tryz.func183,rfl⟩ rfl fun _ _ _=>by kernel_rfl
theorem ASB:aN Tryz.prog 183 wY:=AU5 fun d x r h hb=>by
 clear hb
 obtain ⟨hp,rfl⟩:=lO h
 clear h
 have c:=dP hp
 have hk:∀ k∈d.2.2.2.2.1,k.2.2.1.length≤140737488355328∧k.2.2.2.2.length≤140737488355328:=fun k hk=>by
  have:=List.all_eq_true.1 c.YN k hk
  simp only[fX,j3,Bool.and_eq_true,decide_eq_true_eq] at this
  exact ⟨this.1.2,this.2.2⟩
 have is:∀ {b:Bool},pH d (fQ x)=b→T.v (.bool b)=T.v (.bool (pH d (fQ x))):=fun h=>by rw[h]
 have pos:∀ {k:Nat},¬ (0≤(k:Int))→False:=fun h=>h (by omega)
 have d0:∀ {k:Nat},decide ((0:Int)≤(k:Int))=true:=decide_eq_true (by omega)
 have hd:=uX (r:=aG) (l:=d.2.2.2.2.1) (z:=5) (b:=88) rfl (cY c.k (by decide))
 unfold QZ BCI BCH BCL BCG BCK BCJ BAW BAQ
 refine cP (r:=aG) (fun y=>dW (fQ x) y) (pA c.k) (fun X k y hlt hy hp hn=>?_) (fun h0 _=>?_)
 ·dsimp only
  refine b6 (fun h=>?_) fun h=>hn (decide_eq_false h)
  obtain ⟨hi,_⟩:=hp (decide_eq_true h)
  refine b6 (fun h=>by omega) fun _=>⟨hd,?_⟩
  have eL:iQ (dW (fQ x)) d.2.2.2.2.1=d.2.2.2.2.1.take k++d.2.2.2.2.1.drop (k+1):=by
   unfold iQ
   rw[show List.findIdx (dW (fQ x)) d.2.2.2.2.1=k from hi]
  refine dH (r:=aG) (l:=iQ (dW (fQ x)) d.2.2.2.2.1) (by rw[eL];exact DK (r:=aG) rfl hlt c.k) _ ?_
  have hL:(iQ (dW (fQ x)) d.2.2.2.2.1).length≤1000:=Nat.le_trans VR c.k
  have hkL:∀ k∈iQ (dW (fQ x)) d.2.2.2.2.1,k.2.2.2.2.length≤140737488355328:=fun k h=>(hk k (JR h)).2
  have hV:pH d (fQ x)=(((iQ (dW (fQ x)) d.2.2.2.2.1).any fun k=>ADI k.2.2.2.2 (fQ x))||(d.2.2.2.2.2.any fun n=>decide (n.1=3)&&decide (n.2.2=fQ x))):=rfl
  clear hp hn eL
  generalize iQ (dW (fQ x)) d.2.2.2.2.1=L at *
  refine cP (r:=aG) (fun k=>ADI k.2.2.2.2 (fQ x)) (pA hL) (fun X k y hlt hy hp hn=>?_) (fun _ h2=>?_)
  ·dsimp only
   rw[show Int.toNat (k:Int)=k from rfl,iW (r:=aG) hlt,hy]
   refine cP (r:=.str) (fun z=>decide (z=fQ x)) (hkL y (by rw[←hy];exact List.getElem_mem hlt)) (fun Y j z hj hz hp2 hn2=>?_) (fun _ h3=>hn h3)
   dsimp only
   refine b6 (fun h=>b6 (fun _=>b6 (fun _=>is ?_) fun h=>(pos h).elim) fun h=>(pos h).elim) fun h=>hn2 (decide_eq_false fun e=>h e.symm)
   rw[hV,(hp (hp2 (decide_eq_true h.symm)).2).2];rfl
  ·refine cP (r:=aQ) (fun n=>decide (n.1=3)&&decide (n.2.2=fQ x)) (pA c.r) (fun X k y hlt hy hp hn=>?_) (fun _ h4=>is (by rw[hV,h2,h4];rfl))
   dsimp only
   refine b6 (fun a1=>?_) fun a1=>hn (by rw[decide_eq_false a1];rfl)
   refine b6 (fun a2=>is ?_) fun a2=>hn (by rw[decide_eq_false a2,Bool.and_false])
   rw[d0,hV,(hp (by rw[decide_eq_true a1,decide_eq_true a2];rfl)).2,Bool.or_true]
 ·refine ⟨hd,?_⟩
  have hV:pH d (fQ x)=((d.2.2.2.2.1.any fun k=>ADI k.2.2.2.2 (fQ x))||(d.2.2.2.2.2.any fun n=>decide (n.1=3)&&decide (n.2.2=fQ x))):=by unfold pH;rw[uW (is:=dW (fQ x)) h0]
  have hL:=c.k
  have hkL:∀ k∈d.2.2.2.2.1,k.2.2.2.2.length≤140737488355328:=fun k h=>(hk k h).2
  refine cP (r:=aG) (fun k=>ADI k.2.2.2.2 (fQ x)) (pA hL) (fun X k y hlt hy hp hn=>?_) (fun _ h2=>?_)
  ·dsimp only
   rw[show Int.toNat (k:Int)=k from rfl,iW (r:=aG) hlt,hy]
   refine cP (r:=.str) (fun z=>decide (z=fQ x)) (hkL y (by rw[←hy];exact List.getElem_mem hlt)) (fun Y j z hj hz hp2 hn2=>?_) (fun _ h3=>hn h3)
   dsimp only
   refine b6 (fun h=>b6 (fun _=>b6 (fun _=>is ?_) fun h=>(pos h).elim) fun h=>(pos h).elim) fun h=>hn2 (decide_eq_false fun e=>h e.symm)
   rw[hV,(hp (hp2 (decide_eq_true h.symm)).2).2];rfl
  ·refine cP (r:=aQ) (fun n=>decide (n.1=3)&&decide (n.2.2=fQ x)) (pA c.r) (fun X k y hlt hy hp hn=>?_) (fun _ h4=>is (by rw[hV,h2,h4];rfl))
   dsimp only
   refine b6 (fun a1=>?_) fun a1=>hn (by rw[decide_eq_false a1];rfl)
   refine b6 (fun a2=>is ?_) fun a2=>hn (by rw[decide_eq_false a2,Bool.and_false])
   rw[d0,hV,(hp (by rw[decide_eq_true a1,decide_eq_true a2];rfl)).2,Bool.or_true]
def rL (lt gt:Bool):Int:=match lt,gt with
 | true,_=>-1
 | false,true=>1
 | false,false=>0
def HX (x:Int×Int):Option T:=some (T.v (Value.int .i64 (rL (decide (x.1<x.2)) (decide (x.2<x.1)))))
def HY (x:ByteArray×ByteArray):Option T:=some (T.v (Value.int .i64 (rL (cE x.1 x.2) (cE x.2 x.1))))
def orE:List Int→Int
 | []=>0
 | a::l=>if a=0 then orE l else a
def AE7 (l:List Int):Option T:=some (T.v (Value.int .i64 (orE l)))
noncomputable def A2H:Env:=Env.of []
def A2V:FuncId→Hint:=fun _=>aX
theorem AN3:aR Tryz.prog A2H:=.nil _
def AA0(a0:Int)(a1:Int)(R:T→Prop):Prop:=aB (!decide (a0=a0)) (aB (!decide (a1=a1)) (R BAU) (R BA3)) (aB (!decide (a1=a1)) (R BA6) (aB (decide (a0<a1)) (R BA3) (aB (decide (a1<a0)) (R BA6) (R BAU))))
abbrev AEG:Sh:=[(false,(Sy.int IntKind.i64)),(false,(Sy.int IntKind.i64))]
noncomputable def KO:List T→Option T:=gS AEG HX
theorem AKO {a0 a1}:KO [T.v (.int .i64 a0),T.v (.int .i64 a1)]=HX (a0,a1):=bD (s:=AEG) rfl (a0,a1) rfl
theorem A0L:uH Tryz.prog 209 KO HX (cB AEG) AA0:=iK (a1:=(false,(Sy.int IntKind.i64))) (a2:=(false,(Sy.int IntKind.i64))) (sp:=HX) (F:=AA0) (Hs:=A2V) (f:=209) (k:=8) AN3 aT aW (aL rfl) ⟨_,_,Tryz.func209,rfl⟩ rfl fun _ _ _=>by kernel_rfl
theorem AZL:aN Tryz.prog 209 KO:=A0L fun a b r h hb=>by
 cases h
 unfold AA0 BA6 BA3 BAU
 refine jB (fun h=>absurd rfl h) fun _=>jB (fun h=>absurd rfl h) fun _=>?_
 refine b6 (fun h=>by unfold rL;rw[decide_eq_true h]) fun h=>?_
 refine b6 (fun h2=>by unfold rL;rw[decide_eq_false h,decide_eq_true h2]) fun h2=>by unfold rL;rw[decide_eq_false h,decide_eq_false h2]
noncomputable def A2I:Env:=Env.of []
def A2W:FuncId→Hint:=fun _=>aX
theorem AN4:aR Tryz.prog A2I:=.nil _
def AA1(a0:ByteArray)(a1:ByteArray)(R:T→Prop):Prop:=aB (!decide (a0=a0)) (aB (!decide (a1=a1)) (R BAU) (R BA3)) (aB (!decide (a1=a1)) (R BA6) (aB (cE a0 a1) (R BA3) (aB (!(cE a0 a1||decide (a0=a1))) (R BA6) (R BAU))))
abbrev AEH:Sh:=[(false,Sy.str),(false,Sy.str)]
noncomputable def DU:List T→Option T:=gS AEH HY
theorem OJ {a0 a1}:DU [T.v (.string a0),T.v (.string a1)]=HY (a0,a1):=bD (s:=AEH) rfl (a0,a1) rfl
theorem A0M:uH Tryz.prog 210 DU HY (cB AEH) AA1:=iK (a1:=(false,Sy.str)) (a2:=(false,Sy.str)) (sp:=HY) (F:=AA1) (Hs:=A2W) (f:=210) (k:=8) AN4 aT aW (aL rfl) ⟨_,_,Tryz.func210,rfl⟩ rfl fun _ _ _=>by kernel_rfl
theorem AZM:aN Tryz.prog 210 DU:=A0M fun a b r h hb=>by
 cases h
 unfold AA1 BA6 BA3 BAU
 refine jB (fun h=>absurd rfl h) fun _=>jB (fun h=>absurd rfl h) fun _=>?_
 rw[mE]
 refine sZ (fun h=>by unfold rL;rw[h]) fun h=>?_
 refine sZ (fun h2=>by unfold rL;rw[h,h2]) fun h2=>by unfold rL;rw[h,h2]
def FP (a0:List Int):List T:=[T.sl true (List.map (Sy.int .i64).enc a0)]
noncomputable def ANG:Env:=Env.of []
def A1P:FuncId→Hint:=bV 208 [(3,.inv [.val 8 false (.int .i64)])] (fun _=>aX)
theorem AXX:aR Tryz.prog ANG:=.nil _
def APD(a0:List Int)(R:T→Prop):Prop:=a6 (Int×PUnit) (fun X0 s1=>aB (decide (s1.1<(↑(List.map BAV.enc a0).length:Int))) (aS BAV (List.map BAV.enc a0) s1.1 fun (y2:Int)=>aB (!decide (y2=0)) (R (T.v (.int .i64 y2))) (X0 (IntKind.i64.wrap (s1.1+1),()))) (R BAU)) (0,())
theorem APE ( a0 R):dS bZ Tryz.prog ANG A1P 8 208 (FP a0) R=APD a0 R:=by kernel_rfl
theorem AHM (x y:List Int) (h:FP x=FP y):x=y:=by
 simp only[FP,List.cons.injEq,T.sl.injEq,true_and,and_true] at h
 exact map_inj (Sy.dI (.int .i64)) h
noncomputable def WX:List T→Option (T):=gA (fun (x:List Int)=>FP x) AE7
theorem AS5 (a0:List Int):WX (FP a0)=AE7 a0:=e8 (A:=(fun (x:List Int)=>FP x)) AHM a0
theorem A5W (h:∀ (a0:List Int) (r:T),AE7 a0=some r→(∀ t∈FP a0,Bd t)→APD a0 (fun y=>y=r)):aN Tryz.prog 208 WX :=
 cQ (E:=ANG) (Hs:=A1P) AXX aT aW (aL rfl) 8 ⟨_,_,Tryz.func208,rfl⟩ fun x r h1 h2=>by
  rw[APE]
  exact h x r h1 h2
theorem A36:aN Tryz.prog 208 WX:=A5W fun l r h hb=>by
 have hl:l.length≤2 ^ 47:=by
  have:=((A1B _ _).1 (hb _ List.mem_cons_self)).1
  simpa using this
 cases h
 have is:∀ {n:Int},orE l=n→T.v (.int .i64 n)=T.v (.int .i64 (orE l)):=fun h=>by rw[h]
 unfold APD BAV BAU
 refine bG l.length (fun k s=>s=((k:Int),())∧orE (l.drop k)=orE l) ⟨rfl,rfl⟩ ?_
 rintro X k s hk ⟨rfl,he⟩ hX
 dsimp only
 refine b6 (fun hlt=>?_) fun hge=>?_
 ·rw[List.length_map] at hlt
  have hlt:k<l.length:=by omega
  rw[bA (r:=.int .i64) hlt]
  rw[List.drop_eq_getElem_cons hlt,orE] at he
  refine jB (fun h=>is ?_) fun h=>hX _ hlt ⟨?_,?_⟩
  ·rw[if_neg h] at he;exact he.symm
  ·rw[show IntKind.i64.wrap ((k:Int)+1)=((k+1:Nat):Int) by rw[bB]<;>omega]
  ·rw[if_pos h] at he;exact he
 ·rw[List.length_map] at hge
  rw[List.drop_eq_nil_of_le (by omega)] at he
  exact is he.symm
def xM (x:bC×bC):Option T:=some (T.v (.bool (DC x.1 x.2)))
noncomputable def ANF:Env:=Env.of [(209,.pure KO),(210,.pure DU),(208,.pure WX)]
def AQA:FuncId→Hint:=fun _=>aX
theorem AAG:aR Tryz.prog ANF:=.cons AZL (.cons AZM (.cons A36 (.nil _)))
def IV(a0:bC)(a1:bC)(R:T→Prop):Prop:=aJ BAT (KO [T.v (.int .i64 a0.1),T.v (.int .i64 a1.1)]) fun (y0:Int)=>aJ BAT (DU [T.v (.string a0.2.1),T.v (.string a1.2.1)]) fun (y1:Int)=>aJ BAT (DU [T.v (.string a0.2.2),T.v (.string a1.2.2)]) fun (y2:Int)=>aJ BAT (WX [T.sl true [[T.v (.int .i64 y0)],[T.v (.int .i64 y1)], [T.v (.int .i64 y2)]]]) fun (y3:Int)=>R (T.v (.bool (decide (0<y3))))
abbrev L5:Sh:=[(true,aQ),(true,aQ)]
noncomputable def o0:List T→Option T:=gS L5 xM
theorem WW {a0 a1}:o0 [aH true aQ a0,aH true aQ a1]=xM (a0,a1):=bD (s:=L5) rfl (a0,a1) rfl
theorem ALU:uH Tryz.prog 207 o0 xM (cB L5) IV:=iK (a1:=(true,aQ)) (a2:=(true,aQ)) (sp:=xM) (F:=IV) (Hs:=AQA) (f:=207) (k:=8) AAG aT aW (aL rfl) ⟨_,_,Tryz.func207,rfl⟩ rfl fun _ _ _=>by kernel_rfl
theorem N8:aN Tryz.prog 207 o0:=ALU fun a b r h hb=>by
 cases h
 unfold IV BAT
 refine aF (s:=[(false,.int .i64)]) (AKO ..) ?_
 refine aF (s:=[(false,.int .i64)]) (OJ ..) ?_
 refine aF (s:=[(false,.int .i64)]) (OJ ..) ?_
 refine aF (s:=[(false,.int .i64)]) (y:=orE [rL (decide (a.1<b.1)) (decide (b.1<a.1)),rL (cE a.2.1 b.2.1) (cE b.2.1 a.2.1),rL (cE a.2.2 b.2.2) (cE b.2.2 a.2.2)]) (AS5 [rL (decide (a.1<b.1)) (decide (b.1<a.1)),rL (cE a.2.1 b.2.1) (cE b.2.1 a.2.1),rL (cE a.2.2 b.2.2) (cE b.2.2 a.2.2)]) ?_
 refine fS ?_
 unfold DC T5
 have tot:∀ {s t:ByteArray},cE s t=true→cE t s=false∧decide (t=s)=false:=fun {s t} h=>by
  refine ⟨?_,decide_eq_false fun e=>?_⟩
  ·rw[Bool.eq_false_iff];intro h2;have:=AEU h h2;rw[xD] at this;cases this
  ·rw[e,xD] at h;cases h
 have eqS:∀ {s t:ByteArray},cE s t=false→cE t s=false→decide (t=s)=true:=fun {s t} h1 h2=>by
  have h3:=mE s t
  rw[h1,h2] at h3
  simpa using h3
 rcases Int.lt_trichotomy a.1 b.1 with h|h|h
 ·rw[decide_eq_true h,decide_eq_false (show ¬ b.1<a.1 by omega),decide_eq_false (show ¬ b.1=a.1 by omega)]
  simp[rL,orE]
 ·rw[decide_eq_false (show ¬ a.1<b.1 by omega),decide_eq_false (show ¬ b.1<a.1 by omega),decide_eq_true h.symm]
  cases h1:cE a.2.1 b.2.1 with
  | true=>rw[(tot h1).1,(tot h1).2];simp[rL,orE]
  | false =>
   cases h2:cE b.2.1 a.2.1 with
   | true=>simp[rL,orE]
   | false =>
    rw[eqS h1 h2]
    cases h3:cE a.2.2 b.2.2 with
    | true=>rw[(tot h3).1];simp[rL,orE]
    | false=>cases h4:cE b.2.2 a.2.2<;>simp[rL,orE]
 ·rw[decide_eq_false (show ¬ a.1<b.1 by omega),decide_eq_true h]
  simp[rL,orE]
def AGS (d:aC) (x:a8):aC:=(d.1,mY jC d.2.1 (p9 x),d.2.2)
def E6 (x:aC×a8):Option T:=match uD x.1 with
 | true=>some (Sh.enc [(true,aE)] (AGS x.1 x.2))
 | false=>none
noncomputable def A64:Env:=Env.of [(77,.dup 3 40),(275,.grow 3 rS)]
def A7N:FuncId→Hint:=bV 271 [(2,.inv [.val 8 false (.int .i64)])] (fun _=>aX)
theorem AXL:aR Tryz.prog A64:=aR.cons (x:=.dup 3 40) zK (.cons ACH (.nil _))
def BCN(a0:aC)(y4:List bI):T:=T.agg [T.v (.string a0.1),T.sl false (List.map aZ.enc y4), T.sl false (List.map aO.enc a0.2.2.1), T.sl false (List.map a7.enc a0.2.2.2.1), T.sl false (List.map aG.enc a0.2.2.2.2.1), T.sl false (List.map aQ.enc a0.2.2.2.2.2)]
def BCO(a0:aC):List (List T):=List.map aZ.enc a0.2.1
def BCP(a1:a8):List T:=[T.v (.string a1.2.2.2.1.1), T.v (.int .i64 a1.2.2.2.1.2.1), T.v (.string a1.2.2.2.1.2.2)]
def BCM(a0:aC)(a1:a8)(R:T→Prop):Prop:=bS (((BCO a0).all fun (r:List T)=>decide (r.length=3)) && decide ((BCO a0).length*40≤140737488355328) && decide ((BCO a0).length≤140737488355328)) (dU aZ (rS (BCO a0) [T.v (.int .i64 (↑(BCO a0).length:Int)), T.sl true [(BCP a1)]]) fun (y3:List bI)=>R (BCN a0 y3))
def AOX(a0:aC)(a1:a8)(R:T→Prop):Prop:=a6 (Int×PUnit) (fun X0 s1=>aB (decide (s1.1<(↑(BCO a0).length:Int))) (aS aZ (BCO a0) s1.1 fun (y2:bI)=>aB (!(cE y2.1 a1.2.2.2.1.1||decide (y2.1=a1.2.2.2.1.1))) (aB (decide (s1.1<0)) (BCM a0 a1 R) (bS (((BCO a0).all fun (r:List T)=>decide (r.length=3)) && decide ((BCO a0).length*40≤140737488355328) && decide ((BCO a0).length≤140737488355328)) (dU aZ (rS (BCO a0) [T.v (.int .i64 s1.1), T.sl true [(BCP a1)]]) fun (y4:List bI)=>R (BCN a0 y4)))) (X0 (IntKind.i64.wrap (s1.1+1),()))) (BCM a0 a1 R)) (0,())
abbrev AVY:Sh:=[(true,aE),(true,aU)]
noncomputable def OK:List T→Option T:=gS AVY E6
theorem AST {a0 a1}:OK [aH true aE a0,aH true aU a1]=E6 (a0,a1):=bD (s:=AVY) rfl (a0,a1) rfl
theorem A5K:uH Tryz.prog 123 OK E6 (cB AVY) AOX:=iK (a1:=(true,aE)) (a2:=(true,aU)) (sp:=E6) (F:=AOX) (Hs:=A7N) (f:=123) (k:=8) AXL aT aW (aL rfl) ⟨_,_,Tryz.func123,rfl⟩ rfl fun _ _ _=>by kernel_rfl
theorem A3S:aN Tryz.prog 123 OK:=A5K fun d x r h hb=>by
 clear hb
 have hp:uD d=true:=by
  unfold E6 at h
  split at h
  ·assumption
  ·cases h
 have e:Sh.enc [(true,aE)] (AGS d x)=r:=by
  unfold E6 at h
  rw[show uD (d,x).1=true from hp] at h
  exact Option.some.inj h
 subst e
 clear h
 have c:=dP hp
 have hd:=uX (r:=aZ) (l:=d.2.1) (z:=3) (b:=40) rfl (cY c.n (by decide))
 unfold AOX BCM BCP BCO BCN
 refine cP (r:=aZ) (fun y=>jC y (p9 x)) (pA c.n) (fun X k y hk hy hp hn=>?_) (fun h _=>?_)
 ·dsimp only
  rw[mE]
  refine sZ (fun h=>?_) fun h=>hn h
  obtain ⟨hi,_⟩:=hp h
  refine b6 (fun h=>by omega) fun _=>⟨hd,?_⟩
  refine dH (r:=aZ) (l:=d.2.1.take k++p9 x::d.2.1.drop k) (qY (r:=aZ) (x:=p9 x) rfl (by omega) c.n (by decide)) _ ?_
  unfold AGS mY
  rw[hi];rfl
 ·refine ⟨hd,?_⟩
  rw[show (((List.map (aZ).enc d.2.1).length:Nat):Int)=(((d.2.1).length:Nat):Int) by rw[List.length_map]]
  refine dH (r:=aZ) (l:=d.2.1.take (d.2.1).length++p9 x::d.2.1.drop (d.2.1).length) (qY (r:=aZ) (x:=p9 x) rfl (Nat.le_refl _) c.n (by decide)) _ ?_
  unfold AGS mY
  rw[h];rfl
def AGW (d:aC) (x:a8):aC:=(d.1,d.2.1,d.2.2.1,mY jC d.2.2.2.1 (oU x),d.2.2.2.2)
def FA (x:aC×a8):Option T:=match uD x.1 with
 | true=>some (Sh.enc [(true,aE)] (AGW x.1 x.2))
 | false=>none
noncomputable def A68:Env:=Env.of [(78,.dup 6 72),(283,.grow 6 rU)]
def A7R:FuncId→Hint:=bV 277 [(2,.inv [.val 8 false (.int .i64)])] (fun _=>aX)
theorem AXP:aR Tryz.prog A68:=aR.cons (x:=.dup 6 72) zM (.cons ACJ (.nil _))
def BCQ(a1:a8):List T:=[T.v (.string a1.2.2.2.2.2.1.1), T.v (.string a1.2.2.2.2.2.1.2.1), T.v (.string a1.2.2.2.2.2.1.2.2.1), T.v (.int .i64 a1.2.2.2.2.2.1.2.2.2.1), T.v (.int .i64 a1.2.2.2.2.2.1.2.2.2.2.1), T.v (.int .i64 a1.2.2.2.2.2.1.2.2.2.2.2)]
def BCR(a0:aC)(y3:List bK):T:=T.agg [T.v (.string a0.1),T.sl false (List.map aZ.enc a0.2.1), T.sl false (List.map aO.enc a0.2.2.1), T.sl false (List.map a7.enc y3), T.sl false (List.map aG.enc a0.2.2.2.2.1), T.sl false (List.map aQ.enc a0.2.2.2.2.2)]
def BCS(a0:aC):List (List T):=List.map a7.enc a0.2.2.2.1
def AO1(a0:aC)(a1:a8)(R:T→Prop):Prop:=a6 (Int×PUnit) (fun X0 s1=>aB (decide (s1.1<(↑(BCS a0).length:Int))) (aS a7 (BCS a0) s1.1 fun (y2:bK)=>aB (!(cE y2.1 a1.2.2.2.2.2.1.1||decide (y2.1=a1.2.2.2.2.2.1.1))) (aB (decide (s1.1<0)) (bS (((BCS a0).all fun (r:List T)=>decide (r.length=6)) && decide ((BCS a0).length*72≤140737488355328) && decide ((BCS a0).length≤140737488355328)) (dU a7 (rU (BCS a0) [T.v (Value.int IntKind.i64 (↑(BCS a0).length:Int)), T.sl true [(BCQ a1)]]) fun (y3:List bK)=>R (BCR a0 y3))) (bS (((BCS a0).all fun (r:List T)=>decide (r.length=6)) && decide ((BCS a0).length*72≤140737488355328) && decide ((BCS a0).length≤140737488355328)) (dU a7 (rU (BCS a0) [T.v (.int .i64 s1.1), T.sl true [(BCQ a1)]]) fun (y4:List bK)=>R (BCR a0 y4)))) (X0 (IntKind.i64.wrap (s1.1+1),()))) (bS (((BCS a0).all fun (r:List T)=>decide (r.length=6)) && decide ((BCS a0).length*72≤140737488355328) && decide ((BCS a0).length≤140737488355328)) (dU a7 (rU (BCS a0) [T.v (.int .i64 (↑(BCS a0).length:Int)), T.sl true [(BCQ a1)]]) fun (y5:List bK)=>R (BCR a0 y5)))) (0,())
abbrev AV2:Sh:=[(true,aE),(true,aU)]
noncomputable def OO:List T→Option T:=gS AV2 FA
theorem ASX {a0 a1}:OO [aH true aE a0,aH true aU a1]=FA (a0,a1):=bD (s:=AV2) rfl (a0,a1) rfl
theorem A5O:uH Tryz.prog 171 OO FA (cB AV2) AO1:=iK (a1:=(true,aE)) (a2:=(true,aU)) (sp:=FA) (F:=AO1) (Hs:=A7R) (f:=171) (k:=8) AXP aT aW (aL rfl) ⟨_,_,Tryz.func171,rfl⟩ rfl fun _ _ _=>by kernel_rfl
theorem A3W:aN Tryz.prog 171 OO:=A5O fun d x r h hb=>by
 clear hb
 have hp:uD d=true:=by
  unfold FA at h
  split at h
  ·assumption
  ·cases h
 have e:Sh.enc [(true,aE)] (AGW d x)=r:=by
  unfold FA at h
  rw[show uD (d,x).1=true from hp] at h
  exact Option.some.inj h
 subst e
 clear h
 have c:=dP hp
 have hd:=uX (r:=a7) (l:=d.2.2.2.1) (z:=6) (b:=72) rfl (cY c.s (by decide))
 unfold AO1 BCS BCR BCQ
 refine cP (r:=a7) (fun y=>jC y (oU x)) (pA c.s) (fun X k y hk hy hp hn=>?_) (fun h _=>?_)
 ·dsimp only
  rw[mE]
  refine sZ (fun h=>?_) fun h=>hn h
  obtain ⟨hi,_⟩:=hp h
  refine b6 (fun h=>by omega) fun _=>⟨hd,?_⟩
  refine dH (r:=a7) (l:=d.2.2.2.1.take k++oU x::d.2.2.2.1.drop k) (qY (r:=a7) (x:=oU x) rfl (by omega) c.s (by decide)) _ ?_
  unfold AGW mY
  rw[hi];rfl
 ·refine ⟨hd,?_⟩
  rw[show (((List.map (a7).enc d.2.2.2.1).length:Nat):Int)=(((d.2.2.2.1).length:Nat):Int) by rw[List.length_map]]
  refine dH (r:=a7) (l:=d.2.2.2.1.take (d.2.2.2.1).length++oU x::d.2.2.2.1.drop (d.2.2.2.1).length) (qY (r:=a7) (x:=oU x) rfl (Nat.le_refl _) c.s (by decide)) _ ?_
  unfold AGW mY
  rw[h];rfl
def AGT (d:aC) (x:a8):aC:=(d.1,iQ (dW (fQ x)) d.2.1,d.2.2)
def E7 (x:aC×a8):Option T:=match uD x.1 with
 | true=>some (Sh.enc [(true,aE)] (AGT x.1 x.2))
 | false=>none
noncomputable def A65:Env:=Env.of [(77,.dup 3 40),(276,.grow 3 DV)]
def A7O:FuncId→Hint:=bV 271 [(2,.inv [.val 8 false (.int .i64)])] (fun _=>aX)
theorem AXM:aR Tryz.prog A65:=aR.cons (x:=.dup 3 40) zK (.cons ACE (.nil _))
def BCU(a0:aC):List (List T):=List.map aZ.enc a0.2.1
def BCT(a0:aC)(R:T→Prop):Prop:=bS (((BCU a0).all fun (r:List T)=>decide (r.length=3)) && decide ((BCU a0).length*40≤140737488355328) && decide ((BCU a0).length≤140737488355328)) (R (aH true aE a0))
def AOY(a0:aC)(a1:a8)(R:T→Prop):Prop:=a6 (Int×PUnit) (fun X0 s1=>aB (decide (s1.1<(↑(BCU a0).length:Int))) (aS aZ (BCU a0) s1.1 fun (y2:bI)=>aB (decide (y2.1=a1.2.1)) (aB (decide (s1.1<0)) (BCT a0 R) (bS (((BCU a0).all fun (r:List T)=>decide (r.length=3)) && decide ((BCU a0).length*40≤140737488355328) && decide ((BCU a0).length≤140737488355328)) (dU aZ (DV (BCU a0) [T.v (.int .i64 s1.1), T.v (.int .i64 (IntKind.i64.wrap (s1.1+1)))]) fun (y3:List bI)=>R (T.agg [T.v (.string a0.1),T.sl false (List.map aZ.enc y3), T.sl false (List.map aO.enc a0.2.2.1), T.sl false (List.map a7.enc a0.2.2.2.1), T.sl false (List.map aG.enc a0.2.2.2.2.1), T.sl false (List.map aQ.enc a0.2.2.2.2.2)])))) (X0 (IntKind.i64.wrap (s1.1+1),()))) (BCT a0 R)) (0,())
abbrev AVZ:Sh:=[(true,aE),(true,aU)]
noncomputable def OL:List T→Option T:=gS AVZ E7
theorem ASU {a0 a1}:OL [aH true aE a0,aH true aU a1]=E7 (a0,a1):=bD (s:=AVZ) rfl (a0,a1) rfl
theorem A5L:uH Tryz.prog 130 OL E7 (cB AVZ) AOY:=iK (a1:=(true,aE)) (a2:=(true,aU)) (sp:=E7) (F:=AOY) (Hs:=A7O) (f:=130) (k:=8) AXM aT aW (aL rfl) ⟨_,_,Tryz.func130,rfl⟩ rfl fun _ _ _=>by kernel_rfl
theorem A3T:aN Tryz.prog 130 OL:=A5L fun d x r h hb=>by
 clear hb
 have hp:uD d=true:=by
  unfold E7 at h
  split at h
  ·assumption
  ·cases h
 have e:Sh.enc [(true,aE)] (AGT d x)=r:=by
  unfold E7 at h
  rw[show uD (d,x).1=true from hp] at h
  exact Option.some.inj h
 subst e
 clear h
 have c:=dP hp
 have hd:=uX (r:=aZ) (l:=d.2.1) (z:=3) (b:=40) rfl (cY c.n (by decide))
 unfold AOY BCT BCU
 refine cP (r:=aZ) (fun y=>dW (fQ x) y) (pA c.n) (fun X k y hk hy hp hn=>?_) (fun h _=>?_)
 ·dsimp only
  refine b6 (fun h=>?_) fun h=>hn (decide_eq_false h)
  obtain ⟨hi,_⟩:=hp (decide_eq_true h)
  refine b6 (fun h=>by omega) fun _=>⟨hd,?_⟩
  refine dH (r:=aZ) (l:=d.2.1.take k++d.2.1.drop (k+1)) (DK (r:=aZ) rfl hk c.n) _ ?_
  unfold AGT iQ
  rw[show List.findIdx (dW (fQ x)) d.2.1=k from hi];rfl
 ·refine ⟨hd,?_⟩
  unfold AGT
  rw[uW (is:=dW (fQ x)) h];rfl
def AGV (d:aC) (x:a8):aC:=(d.1,d.2.1,iQ (dW (fQ x)) d.2.2.1,d.2.2.2)
def E9 (x:aC×a8):Option T:=match uD x.1 with
 | true=>some (Sh.enc [(true,aE)] (AGV x.1 x.2))
 | false=>none
noncomputable def A67:Env:=Env.of [(80,.dup 18 208),(281,.grow 18 DW)]
def A7Q:FuncId→Hint:=bV 158 [(2,.inv [.val 8 false (.int .i64)])] (fun _=>aX)
theorem AXO:aR Tryz.prog A67:=aR.cons (x:=.dup 18 208) zL (.cons ACF (.nil _))
def BCW(a0:aC):List (List T):=List.map aO.enc a0.2.2.1
def BCV(a0:aC)(R:T→Prop):Prop:=bS (((BCW a0).all fun (r:List T)=>decide (r.length=18)) && decide ((BCW a0).length*208≤140737488355328) && decide ((BCW a0).length≤140737488355328)) (R (aH true aE a0))
def AO0(a0:aC)(a1:a8)(R:T→Prop):Prop:=a6 (Int×PUnit) (fun X0 s1=>aB (decide (s1.1<(↑(BCW a0).length:Int))) (aS aO (BCW a0) s1.1 fun (y2:aY)=>aB (decide (y2.1=a1.2.1)) (aB (decide (s1.1<0)) (BCV a0 R) (bS (((BCW a0).all fun (r:List T)=>decide (r.length=18)) && decide ((BCW a0).length*208≤140737488355328) && decide ((BCW a0).length≤140737488355328)) (dU aO (DW (BCW a0) [T.v (.int .i64 s1.1), T.v (.int .i64 (IntKind.i64.wrap (s1.1+1)))]) fun (y3:List aY)=>R (T.agg [T.v (.string a0.1),T.sl false (List.map aZ.enc a0.2.1), T.sl false (List.map aO.enc y3), T.sl false (List.map a7.enc a0.2.2.2.1), T.sl false (List.map aG.enc a0.2.2.2.2.1), T.sl false (List.map aQ.enc a0.2.2.2.2.2)])))) (X0 (IntKind.i64.wrap (s1.1+1),()))) (BCV a0 R)) (0,())
abbrev AV1:Sh:=[(true,aE),(true,aU)]
noncomputable def ON:List T→Option T:=gS AV1 E9
theorem ASW {a0 a1}:ON [aH true aE a0,aH true aU a1]=E9 (a0,a1):=bD (s:=AV1) rfl (a0,a1) rfl
theorem A5N:uH Tryz.prog 149 ON E9 (cB AV1) AO0:=iK (a1:=(true,aE)) (a2:=(true,aU)) (sp:=E9) (F:=AO0) (Hs:=A7Q) (f:=149) (k:=8) AXO aT aW (aL rfl) ⟨_,_,Tryz.func149,rfl⟩ rfl fun _ _ _=>by kernel_rfl
theorem A3V:aN Tryz.prog 149 ON:=A5N fun d x r h hb=>by
 clear hb
 have hp:uD d=true:=by
  unfold E9 at h
  split at h
  ·assumption
  ·cases h
 have e:Sh.enc [(true,aE)] (AGV d x)=r:=by
  unfold E9 at h
  rw[show uD (d,x).1=true from hp] at h
  exact Option.some.inj h
 subst e
 clear h
 have c:=dP hp
 have hd:=uX (r:=aO) (l:=d.2.2.1) (z:=18) (b:=208) rfl (cY c.p (by decide))
 unfold AO0 BCV BCW
 refine cP (r:=aO) (fun y=>dW (fQ x) y) (pA c.p) (fun X k y hk hy hp hn=>?_) (fun h _=>?_)
 ·dsimp only
  refine b6 (fun h=>?_) fun h=>hn (decide_eq_false h)
  obtain ⟨hi,_⟩:=hp (decide_eq_true h)
  refine b6 (fun h=>by omega) fun _=>⟨hd,?_⟩
  refine dH (r:=aO) (l:=d.2.2.1.take k++d.2.2.1.drop (k+1)) (DK (r:=aO) rfl hk c.p) _ ?_
  unfold AGV iQ
  rw[show List.findIdx (dW (fQ x)) d.2.2.1=k from hi];rfl
 ·refine ⟨hd,?_⟩
  unfold AGV
  rw[uW (is:=dW (fQ x)) h];rfl
def AGX (d:aC) (x:a8):aC:=(d.1,d.2.1,d.2.2.1,iQ (dW (fQ x)) d.2.2.2.1,d.2.2.2.2)
def FB (x:aC×a8):Option T:=match uD x.1 with
 | true=>some (Sh.enc [(true,aE)] (AGX x.1 x.2))
 | false=>none
noncomputable def A69:Env:=Env.of [(78,.dup 6 72),(284,.grow 6 DX)]
def A7S:FuncId→Hint:=bV 277 [(2,.inv [.val 8 false (.int .i64)])] (fun _=>aX)
theorem AXQ:aR Tryz.prog A69:=aR.cons (x:=.dup 6 72) zM (.cons ACG (.nil _))
def BCX(a0:aC):List (List T):=List.map a7.enc a0.2.2.2.1
def BCY(a0:aC)(R:T→Prop):Prop:=bS (((BCX a0).all fun (r:List T)=>decide (r.length=6)) && decide ((BCX a0).length*72≤140737488355328) && decide ((BCX a0).length≤140737488355328)) (R (aH true aE a0))
def AO2(a0:aC)(a1:a8)(R:T→Prop):Prop:=a6 (Int×PUnit) (fun X0 s1=>aB (decide (s1.1<(↑(BCX a0).length:Int))) (aS a7 (BCX a0) s1.1 fun (y2:bK)=>aB (decide (y2.1=a1.2.1)) (aB (decide (s1.1<0)) (BCY a0 R) (bS (((BCX a0).all fun (r:List T)=>decide (r.length=6)) && decide ((BCX a0).length*72≤140737488355328) && decide ((BCX a0).length≤140737488355328)) (dU a7 (DX (BCX a0) [T.v (.int .i64 s1.1), T.v (.int .i64 (IntKind.i64.wrap (s1.1+1)))]) fun (y3:List bK)=>R (T.agg [T.v (.string a0.1),T.sl false (List.map aZ.enc a0.2.1), T.sl false (List.map aO.enc a0.2.2.1), T.sl false (List.map a7.enc y3), T.sl false (List.map aG.enc a0.2.2.2.2.1), T.sl false (List.map aQ.enc a0.2.2.2.2.2)])))) (X0 (IntKind.i64.wrap (s1.1+1),()))) (BCY a0 R)) (0,())
abbrev AV3:Sh:=[(true,aE),(true,aU)]
noncomputable def OP:List T→Option T:=gS AV3 FB
theorem ASY {a0 a1}:OP [aH true aE a0,aH true aU a1]=FB (a0,a1):=bD (s:=AV3) rfl (a0,a1) rfl
theorem A5P:uH Tryz.prog 178 OP FB (cB AV3) AO2:=iK (a1:=(true,aE)) (a2:=(true,aU)) (sp:=FB) (F:=AO2) (Hs:=A7S) (f:=178) (k:=8) AXQ aT aW (aL rfl) ⟨_,_,Tryz.func178,rfl⟩ rfl fun _ _ _=>by kernel_rfl
theorem A3X:aN Tryz.prog 178 OP:=A5P fun d x r h hb=>by
 clear hb
 have hp:uD d=true:=by
  unfold FB at h
  split at h
  ·assumption
  ·cases h
 have e:Sh.enc [(true,aE)] (AGX d x)=r:=by
  unfold FB at h
  rw[show uD (d,x).1=true from hp] at h
  exact Option.some.inj h
 subst e
 clear h
 have c:=dP hp
 have hd:=uX (r:=a7) (l:=d.2.2.2.1) (z:=6) (b:=72) rfl (cY c.s (by decide))
 unfold AO2 BCY BCX
 refine cP (r:=a7) (fun y=>dW (fQ x) y) (pA c.s) (fun X k y hk hy hp hn=>?_) (fun h _=>?_)
 ·dsimp only
  refine b6 (fun h=>?_) fun h=>hn (decide_eq_false h)
  obtain ⟨hi,_⟩:=hp (decide_eq_true h)
  refine b6 (fun h=>by omega) fun _=>⟨hd,?_⟩
  refine dH (r:=a7) (l:=d.2.2.2.1.take k++d.2.2.2.1.drop (k+1)) (DK (r:=a7) rfl hk c.s) _ ?_
  unfold AGX iQ
  rw[show List.findIdx (dW (fQ x)) d.2.2.2.1=k from hi];rfl
 ·refine ⟨hd,?_⟩
  unfold AGX
  rw[uW (is:=dW (fQ x)) h];rfl
def SP (d:aC) (x:a8):aC:=(d.1,d.2.1,d.2.2.1,d.2.2.2.1,iQ (dW (fQ x)) d.2.2.2.2.1,d.2.2.2.2.2)
def xF (x:aC×a8):Option T:=match uD x.1 with
 | true=>some (Sh.enc [(true,aE)] (SP x.1 x.2))
 | false=>none
noncomputable def A2K:Env:=Env.of [(81,.dup 5 88),(285,.grow 5 lB)]
def A2Y:FuncId→Hint:=bV 272 [(2,.inv [.val 8 false (.int .i64)])] (fun _=>aX)
theorem AN6:aR Tryz.prog A2K:=aR.cons (x:=.dup 5 88) mM (.cons yG (.nil _))
def BCZ(a0:aC):List (List T):=List.map aG.enc a0.2.2.2.2.1
def AA3(a0:aC)(a1:a8)(R:T→Prop):Prop:=a6 (Int×PUnit) (fun X0 s1=>aB (decide (s1.1<(↑(BCZ a0).length:Int))) (aS aG (BCZ a0) s1.1 fun (y2:aM)=>aB (decide (y2.1=a1.2.1)) (aB (decide (s1.1<0)) (bS (((BCZ a0).all fun (r:List T)=>decide (r.length=5)) && decide ((BCZ a0).length*88≤140737488355328) && decide ((BCZ a0).length≤140737488355328)) (R (aH true aE a0))) (bS (((BCZ a0).all fun (r:List T)=>decide (r.length=5)) && decide ((BCZ a0).length*88≤140737488355328) && decide ((BCZ a0).length≤140737488355328)) (dU aG (lB (BCZ a0) [T.v (.int .i64 s1.1), T.v (.int .i64 (IntKind.i64.wrap (s1.1+1)))]) fun (y3:List aM)=>R (T.agg [T.v (.string a0.1),T.sl false (List.map aZ.enc a0.2.1), T.sl false (List.map aO.enc a0.2.2.1), T.sl false (List.map a7.enc a0.2.2.2.1), T.sl false (List.map aG.enc y3), T.sl false (List.map aQ.enc a0.2.2.2.2.2)])))) (X0 (IntKind.i64.wrap (s1.1+1),()))) (bS (((BCZ a0).all fun (r:List T)=>decide (r.length=5)) && decide ((BCZ a0).length*88≤140737488355328) && decide ((BCZ a0).length≤140737488355328)) (R (aH true aE a0)))) (0,())
abbrev AEJ:Sh:=[(true,aE),(true,aU)]
noncomputable def DY:List T→Option T:=gS AEJ xF
theorem AKP {a0 a1}:DY [aH true aE a0,aH true aU a1]=xF (a0,a1):=bD (s:=AEJ) rfl (a0,a1) rfl
theorem A0O:uH Tryz.prog 199 DY xF (cB AEJ) AA3:=iK (a1:=(true,aE)) (a2:=(true,aU)) (sp:=xF) (F:=AA3) (Hs:=A2Y) (f:=199) (k:=8) AN6 aT aW (aL rfl) ⟨_,_,Tryz.func199,rfl⟩ rfl fun _ _ _=>by kernel_rfl
theorem AZN:aN Tryz.prog 199 DY:=A0O fun d x r h hb=>by
 clear hb
 have hp:uD d=true:=by
  unfold xF at h
  split at h
  ·assumption
  ·cases h
 have e:Sh.enc [(true,aE)] (SP d x)=r:=by
  unfold xF at h
  rw[show uD (d,x).1=true from hp] at h
  exact Option.some.inj h
 subst e
 clear h
 have c:=dP hp
 have hd:=uX (r:=aG) (l:=d.2.2.2.2.1) (z:=5) (b:=88) rfl (cY c.k (by decide))
 unfold AA3 BCZ
 refine cP (r:=aG) (fun y=>dW (fQ x) y) (pA c.k) (fun X k y hk hy hp hn=>?_) (fun h _=>?_)
 ·dsimp only
  refine b6 (fun h=>?_) fun h=>hn (decide_eq_false h)
  obtain ⟨hi,_⟩:=hp (decide_eq_true h)
  refine b6 (fun h=>by omega) fun _=>⟨hd,?_⟩
  refine dH (r:=aG) (l:=d.2.2.2.2.1.take k++d.2.2.2.2.1.drop (k+1)) (DK (r:=aG) rfl hk c.k) _ ?_
  unfold SP iQ
  rw[show List.findIdx (dW (fQ x)) d.2.2.2.2.1=k from hi];rfl
 ·refine ⟨hd,?_⟩
  unfold SP
  rw[uW (is:=dW (fQ x)) h];rfl
def AGU (d:aC) (x:a8):aC:=(d.1,d.2.1,mY jC d.2.2.1 (fE x),d.2.2.2)
def E8 (x:aC×a8):Option T:=match uD x.1&&hO (fE x.2) with
 | true=>some (Sh.enc [(true,aE)] (AGU x.1 x.2))
 | false=>none
noncomputable def A66:Env:=Env.of [(82,.pure lZ),(80,.dup 18 208),(280,.grow 18 rT)]
def A7P:FuncId→Hint:=bV 158 [(2,.inv [.val 8 false (.int .i64)])] (fun _=>aX)
theorem AXN:aR Tryz.prog A66:=.cons KB (aR.cons (x:=.dup 18 208) zL (.cons ACI (.nil _)))
def BC0(y0:aY):List T:=[T.v (.string y0.1),T.v (.int .i64 y0.2.1), T.v (.int .i64 y0.2.2.1), T.v (.string y0.2.2.2.1), T.v (.string y0.2.2.2.2.1), T.v (.int .i64 y0.2.2.2.2.2.1), T.sl false (List.map aA.enc y0.2.2.2.2.2.2.1.1), T.sl false (List.map aA.li.enc y0.2.2.2.2.2.2.1.2), T.v (.string y0.2.2.2.2.2.2.2.1), T.v (.int .i64 y0.2.2.2.2.2.2.2.2.1), T.v (.int .i64 y0.2.2.2.2.2.2.2.2.2.1), T.v (.int .i64 y0.2.2.2.2.2.2.2.2.2.2.1.1), T.v (Value.int IntKind.i64 y0.2.2.2.2.2.2.2.2.2.2.1.2.1), T.v (Value.int IntKind.i64 y0.2.2.2.2.2.2.2.2.2.2.1.2.2), T.v (Value.int IntKind.i64 y0.2.2.2.2.2.2.2.2.2.2.2.1.1), T.v (Value.int IntKind.i64 y0.2.2.2.2.2.2.2.2.2.2.2.1.2.1), T.v (Value.int IntKind.i64 y0.2.2.2.2.2.2.2.2.2.2.2.1.2.2), T.v (Value.int IntKind.i64 y0.2.2.2.2.2.2.2.2.2.2.2.2)]
def BC1(a0:aC)(y4:List aY):T:=T.agg [T.v (.string a0.1),T.sl false (List.map aZ.enc a0.2.1), T.sl false (List.map aO.enc y4), T.sl false (List.map a7.enc a0.2.2.2.1), T.sl false (List.map aG.enc a0.2.2.2.2.1), T.sl false (List.map aQ.enc a0.2.2.2.2.2)]
def BC2(a0:aC):List (List T):=List.map aO.enc a0.2.2.1
def AOZ(a0:aC)(a1:a8)(R:T→Prop):Prop:=aJ [(true,aO)] (lZ [aH true aO a1.2.2.2.2.1]) fun (y0:aY)=>a6 (Int×PUnit) (fun X1 s2=>aB (decide (s2.1<(↑(BC2 a0).length:Int))) (aS aO (BC2 a0) s2.1 fun (y3:aY)=>aB (!(cE y3.1 y0.1||decide (y3.1=y0.1))) (aB (decide (s2.1<0)) (bS (((BC2 a0).all fun (r:List T)=>decide (r.length=18)) && decide ((BC2 a0).length*208≤140737488355328) && decide ((BC2 a0).length≤140737488355328)) (dU aO (rT (BC2 a0) [T.v (.int .i64 (↑(BC2 a0).length:Int)), T.sl true [(BC0 y0)]]) fun (y4:List aY)=>R (BC1 a0 y4))) (bS (((BC2 a0).all fun (r:List T)=>decide (r.length=18)) && decide ((BC2 a0).length*208≤140737488355328) && decide ((BC2 a0).length≤140737488355328)) (dU aO (rT (BC2 a0) [T.v (.int .i64 s2.1), T.sl true [(BC0 y0)]]) fun (y5:List aY)=>R (BC1 a0 y5)))) (X1 (IntKind.i64.wrap (s2.1+1),()))) (bS (((BC2 a0).all fun (r:List T)=>decide (r.length=18)) && decide ((BC2 a0).length*208≤140737488355328) && decide ((BC2 a0).length≤140737488355328)) (dU aO (rT (BC2 a0) [T.v (.int .i64 (↑(BC2 a0).length:Int)), T.sl true [[T.v (.string y0.1),T.v (.int .i64 y0.2.1), T.v (.int .i64 y0.2.2.1), T.v (.string y0.2.2.2.1), T.v (.string y0.2.2.2.2.1), T.v (.int .i64 y0.2.2.2.2.2.1), T.sl false (List.map aA.enc y0.2.2.2.2.2.2.1.1), T.sl false (List.map aA.li.enc y0.2.2.2.2.2.2.1.2), T.v (.string y0.2.2.2.2.2.2.2.1), T.v (.int .i64 y0.2.2.2.2.2.2.2.2.1), T.v (.int .i64 y0.2.2.2.2.2.2.2.2.2.1), T.v (.int .i64 y0.2.2.2.2.2.2.2.2.2.2.1.1), T.v (.int .i64 y0.2.2.2.2.2.2.2.2.2.2.1.2.1), T.v (.int .i64 y0.2.2.2.2.2.2.2.2.2.2.1.2.2), T.v (.int .i64 y0.2.2.2.2.2.2.2.2.2.2.2.1.1), T.v (Value.int IntKind.i64 y0.2.2.2.2.2.2.2.2.2.2.2.1.2.1), T.v (Value.int IntKind.i64 y0.2.2.2.2.2.2.2.2.2.2.2.1.2.2), T.v (.int .i64 y0.2.2.2.2.2.2.2.2.2.2.2.2)]]]) fun (y6:List aY)=>R (BC1 a0 y6)))) (0,())
abbrev AV0:Sh:=[(true,aE),(true,aU)]
noncomputable def OM:List T→Option T:=gS AV0 E8
theorem ASV {a0 a1}:OM [aH true aE a0,aH true aU a1]=E8 (a0,a1):=bD (s:=AV0) rfl (a0,a1) rfl
theorem A5M:uH Tryz.prog 142 OM E8 (cB AV0) AOZ:=iK (a1:=(true,aE)) (a2:=(true,aU)) (sp:=E8) (F:=AOZ) (Hs:=A7P) (f:=142) (k:=8) AXN aT aW (aL rfl) ⟨_,_,Tryz.func142,rfl⟩ rfl fun _ _ _=>by kernel_rfl
theorem A3U:aN Tryz.prog 142 OM:=A5M fun d x r h hb=>by
 clear hb
 have hq:(uD d&&hO (fE x))=true:=by
  unfold E8 at h
  split at h
  ·assumption
  ·cases h
 have e:Sh.enc [(true,aE)] (AGU d x)=r:=by
  unfold E8 at h
  rw[show (uD (d,x).1&&hO (fE (d,x).2))=true from hq] at h
  exact Option.some.inj h
 subst e
 clear h
 rw[Bool.and_eq_true] at hq
 obtain ⟨hp,ho⟩:=hq
 have c:=dP hp
 have hd:=uX (r:=aO) (l:=d.2.2.1) (z:=18) (b:=208) rfl (cY c.p (by decide))
 unfold AOZ BC2 BC1 BC0
 refine aF (s:=[(true,aO)]) (y:=fE x) ((BG ..).trans (by unfold iZ;rw[ho])) ?_
 refine cP (r:=aO) (fun y=>jC y (fE x)) (pA c.p) (fun X k y hk hy hp hn=>?_) (fun h _=>?_)
 ·dsimp only
  rw[mE]
  refine sZ (fun h=>?_) fun h=>hn h
  obtain ⟨hi,_⟩:=hp h
  refine b6 (fun h=>by omega) fun _=>⟨hd,?_⟩
  refine dH (r:=aO) (l:=d.2.2.1.take k++fE x::d.2.2.1.drop k) (qY (r:=aO) (x:=fE x) rfl (by omega) c.p (by decide)) _ ?_
  unfold AGU mY
  rw[hi];rfl
 ·refine ⟨hd,?_⟩
  rw[show (((List.map (aO).enc d.2.2.1).length:Nat):Int)=(((d.2.2.1).length:Nat):Int) by rw[List.length_map]]
  refine dH (r:=aO) (l:=d.2.2.1.take (d.2.2.1).length++fE x::d.2.2.1.drop (d.2.2.1).length) (qY (r:=aO) (x:=fE x) rfl (Nat.le_refl _) c.p (by decide)) _ ?_
  unfold AGU mY
  rw[h];rfl
def AGY (d:aC) (x:a8):aC:=(d.1,d.2.1,d.2.2.1,d.2.2.2.1,mY jC d.2.2.2.2.1 (jO x),d.2.2.2.2.2)
def FC (x:aC×a8):Option T:=match uD x.1&&fX (jO x.2) with
 | true=>some (Sh.enc [(true,aE)] (AGY x.1 x.2))
 | false=>none
noncomputable def A7A:Env:=Env.of [(83,.pure lY),(81,.dup 5 88),(287,.grow 5 lD)]
def A7T:FuncId→Hint:=bV 272 [(2,.inv [.val 8 false (.int .i64)])] (fun _=>aX)
theorem AXR:aR Tryz.prog A7A:=.cons KA (aR.cons (x:=.dup 5 88) mM (.cons M9 (.nil _)))
def BC4(a0:aC):List (List T):=List.map aG.enc a0.2.2.2.2.1
def BC5(a0:aC)(y5:List aM):T:=T.agg [T.v (.string a0.1),T.sl false (List.map aZ.enc a0.2.1), T.sl false (List.map aO.enc a0.2.2.1), T.sl false (List.map a7.enc a0.2.2.2.1), T.sl false (List.map aG.enc y5), T.sl false (List.map aQ.enc a0.2.2.2.2.2)]
def BC6(y0:aM):List T:=[T.v (.string y0.1),T.v (.string y0.2.1), T.sl false (List.map Sy.str.enc y0.2.2.1), T.v (.int .i64 y0.2.2.2.1), T.sl false (List.map Sy.str.enc y0.2.2.2.2)]
def BC3(a0:aC)(y0:aM)(R:T→Prop):Prop:=dU aG (lD (BC4 a0) [T.v (Value.int IntKind.i64 (↑(BC4 a0).length:Int)), T.sl true [(BC6 y0)]]) fun (y4:List aM)=>R (BC5 a0 y4)
def AO3(a0:aC)(a1:a8)(R:T→Prop):Prop:=aJ [(true,aG)] (lY [aH true aG a1.2.2.2.2.2.2.1]) fun (y0:aM)=>a6 (Int×PUnit) (fun X1 s2=>aB (decide (s2.1<(↑(BC4 a0).length:Int))) (aS aG (BC4 a0) s2.1 fun (y3:aM)=>aB (!(cE y3.1 y0.1||decide (y3.1=y0.1))) (aB (decide (s2.1<0)) (bS (((BC4 a0).all fun (r:List T)=>decide (r.length=5)) && decide ((BC4 a0).length*88≤140737488355328) && decide ((BC4 a0).length≤140737488355328)) (BC3 a0 y0 R)) (bS (((BC4 a0).all fun (r:List T)=>decide (r.length=5)) && decide ((BC4 a0).length*88≤140737488355328) && decide ((BC4 a0).length≤140737488355328)) (dU aG (lD (BC4 a0) [T.v (.int .i64 s2.1), T.sl true [(BC6 y0)]]) fun (y5:List aM)=>R (BC5 a0 y5)))) (X1 (IntKind.i64.wrap (s2.1+1),()))) (bS (((BC4 a0).all fun (r:List T)=>decide (r.length=5)) && decide ((BC4 a0).length*88≤140737488355328) && decide ((BC4 a0).length≤140737488355328)) (BC3 a0 y0 R))) (0,())
abbrev AV4:Sh:=[(true,aE),(true,aU)]
noncomputable def OQ:List T→Option T:=gS AV4 FC
theorem ASZ {a0 a1}:OQ [aH true aE a0,aH true aU a1]=FC (a0,a1):=bD (s:=AV4) rfl (a0,a1) rfl
theorem A5Q:uH Tryz.prog 191 OQ FC (cB AV4) AO3:=iK (a1:=(true,aE)) (a2:=(true,aU)) (sp:=FC) (F:=AO3) (Hs:=A7T) (f:=191) (k:=8) AXR aT aW (aL rfl) ⟨_,_,Tryz.func191,rfl⟩ rfl fun _ _ _=>by kernel_rfl
theorem A3Y:aN Tryz.prog 191 OQ:=A5Q fun d x r h hb=>by
 clear hb
 have hq:(uD d&&fX (jO x))=true:=by
  unfold FC at h
  split at h
  ·assumption
  ·cases h
 have e:Sh.enc [(true,aE)] (AGY d x)=r:=by
  unfold FC at h
  rw[show (uD (d,x).1&&fX (jO (d,x).2))=true from hq] at h
  exact Option.some.inj h
 subst e
 clear h
 rw[Bool.and_eq_true] at hq
 obtain ⟨hp,ho⟩:=hq
 have c:=dP hp
 have hd:=uX (r:=aG) (l:=d.2.2.2.2.1) (z:=5) (b:=88) rfl (cY c.k (by decide))
 unfold AO3 BC3 BC6 BC5 BC4
 refine aF (s:=[(true,aG)]) (y:=jO x) ((BF ..).trans (by unfold iY;rw[ho])) ?_
 refine cP (r:=aG) (fun y=>jC y (jO x)) (pA c.k) (fun X k y hk hy hp hn=>?_) (fun h _=>?_)
 ·dsimp only
  rw[mE]
  refine sZ (fun h=>?_) fun h=>hn h
  obtain ⟨hi,_⟩:=hp h
  refine b6 (fun h=>by omega) fun _=>⟨hd,?_⟩
  refine dH (r:=aG) (l:=d.2.2.2.2.1.take k++jO x::d.2.2.2.2.1.drop k) (qY (r:=aG) (x:=jO x) rfl (by omega) c.k (by decide)) _ ?_
  unfold AGY mY
  rw[hi];rfl
 ·refine ⟨hd,?_⟩
  rw[show (((List.map (aG).enc d.2.2.2.2.1).length:Nat):Int)=(((d.2.2.2.2.1).length:Nat):Int) by rw[List.length_map]]
  refine dH (r:=aG) (l:=d.2.2.2.2.1.take (d.2.2.2.2.1).length++jO x::d.2.2.2.2.1.drop (d.2.2.2.2.1).length) (qY (r:=aG) (x:=jO x) rfl (Nat.le_refl _) c.k (by decide)) _ ?_
  unfold AGY mY
  rw[h];rfl
end Go.Pv
