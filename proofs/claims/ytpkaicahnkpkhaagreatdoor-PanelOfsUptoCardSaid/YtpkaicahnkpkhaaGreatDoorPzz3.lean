/-
  The reference's part: Check, Mass.
  R39.Of, walked: it comes to what panel.Of comes to.
  StructureFinds: Part, Node, Seam and Package answer as the reference does.
  The mass of a part that is in order is not negative, and bounded.
  slices.Clone of numbers; a form of it that runs.
  The examples of chapter 39, run by the kernel.
  PanelOfs: the law's function, walked.
-/
import Derived.Test.YtpkaicahnkpkhaaGreatDoorPzz2
import Derived.Test.YtpkaicahnkpkhaaGreatDoorPzkj
import Derived.Test.YtpkaicahnkpkhaaGreatDoorPzz1
import Derived.Test.YtpkaicahnkpkhaaGreatDoorPzlu
import Derived.Shelf.Slices.Clone
import Derived.Test.YtpkaicahnkpkhaaGreatDoorPzgs
import Derived.Test.YtpkaicahnkpkhaaGreatDoorPzge
import Derived.Test.YtpkaicahnkpkhaaGreatDoorProg
import Derived.KernelRfl
set_option linter.unusedSimpArgs false
set_option linter.unusedVariables false
set_option maxRecDepth 100000
namespace Go.Pv
open Go Go.Proofs
def U1 (s:ByteArray):Bool:=decide (s.size≤1099511627776)
theorem AAG {s:ByteArray} (h:U1 s=true):lI [T.v (.string s)]=some (Sh.enc GW (oD s)):=by
 rw[ZB];unfold qB;rw[show decide (s.size≤1099511627776)=true from h]
def AUR (p:bC):Bool:=decide (1≤a6 p)&&decide (a6 p≤4)
def EF {α:Type} (p:bC) (r:α):Option α:=match AUR p with
 | true=>some r
 | false=>none
theorem PV {α:Type} {p:bC} {t r:α} (h:EF p t=some r):(a6 p=1∨a6 p=2∨a6 p=3∨a6 p=4)∧r=t:=by
 unfold EF at h;split at h
 ·rename_i hc
  simp only[AUR,Bool.and_eq_true,decide_eq_true_eq] at hc
  cases h;exact ⟨by omega,rfl⟩
 ·cases h
theorem PW {α:Type} {p:bC} (t:α) (h:a6 p=1∨a6 p=2∨a6 p=3∨a6 p=4):EF p t=some t:=by
 unfold EF;rw[show AUR p=true by simp only[AUR,Bool.and_eq_true,decide_eq_true_eq];omega]
theorem A0C {α β:Type} (a:List α) (b:List β):(0<a.length+b.length)↔(¬ a=[]∨¬ b=[]):=by cases a<;>cases b<;>simp<;>omega
noncomputable def CP:Env:=Env.of []
def OH:FuncId→Hint:=fun _=>aS
theorem VH:aF Tryz.prog CP:=aF.nil _
def C8 (a0:bC) (R:T→Prop):Prop :=
 aC (!decide (a0.2.2.2.2.2.1=0))
 (aC (!decide (a0.2.2.2.2.2.2.2.1 = { data:=#[] }))
 (aC (!decide (a0.2.2.2.2.2.2.2.2.2.1=0))
 (aC (decide (a0.2.2.1=1)) (R (T.v (.bool true)))
 (aC (decide (a0.2.2.1=4)) (R (T.v (.bool true)))
 (R (T.v (.bool true)))))
 (aC (decide (a0.2.2.1=1)) (R (T.v (.bool true)))
 (aC (decide (a0.2.2.1=4)) (R (T.v (.bool true)))
 (R (T.v (.bool true))))))
 (aC (!decide (a0.2.2.2.2.2.2.2.2.2.1=0))
 (aC (decide (a0.2.2.1=1))
 (aC (!decide (a0.2.2.2.2.2.2.2.2.1=0)) (R (T.v (.bool true)))
 (R (T.v (.bool true))))
 (aC (decide (a0.2.2.1=4)) (R (T.v (.bool true)))
 (R (T.v (.bool true)))))
 (aC (decide (a0.2.2.1=1))
 (aC (!decide (a0.2.2.2.2.2.2.2.2.1=0)) (R (T.v (.bool true)))
 (R
 (T.v
 (Value.bool
 !(decide (a0.2.2.2.2.2.2.2.2.2.2.1.1=0) &&
 (decide (a0.2.2.2.2.2.2.2.2.2.2.1.2.1=0) &&
 (decide (a0.2.2.2.2.2.2.2.2.2.2.1.2.2=0)&&true)))))))
 (aC (decide (a0.2.2.1=4)) (R (T.v (.bool true)))
 (R (T.v (.bool true)))))))
 (aC (decide ((↑(List.map aA.enc a0.2.2.2.2.2.2.1.1).length:Int)=0))
 (aC (!decide (a0.2.2.2.2.2.2.2.1 = { data:=#[] }))
 (aC (!decide (a0.2.2.2.2.2.2.2.2.2.1=0))
 (aC (decide (a0.2.2.1=1)) (R (T.v (.bool true)))
 (aC (decide (a0.2.2.1=4))
 (aC
 (!decide ((↑(List.map aA.li.enc a0.2.2.2.2.2.2.1.2).length:Int)=0))
 (R (T.v (.bool true))) (R (T.v (.bool true))))
 (aC
 (!decide ((↑(List.map aA.li.enc a0.2.2.2.2.2.2.1.2).length:Int)=0))
 (R (T.v (.bool true))) (R (T.v (.bool true))))))
 (aC (decide (a0.2.2.1=1)) (R (T.v (.bool true)))
 (aC (decide (a0.2.2.1=4))
 (aC
 (!decide ((↑(List.map aA.li.enc a0.2.2.2.2.2.2.1.2).length:Int)=0))
 (R (T.v (.bool true))) (R (T.v (.bool true))))
 (aC
 (!decide ((↑(List.map aA.li.enc a0.2.2.2.2.2.2.1.2).length:Int)=0))
 (R (T.v (.bool true)))
 (R
 (T.v
 (Value.bool
 !(decide (a0.2.2.2.2.2.2.2.2.2.2.1.1=0) &&
 (decide (a0.2.2.2.2.2.2.2.2.2.2.1.2.1=0) &&
 (decide (a0.2.2.2.2.2.2.2.2.2.2.1.2.2=0)&&true))))))))))
 (aC (!decide (a0.2.2.2.2.2.2.2.2.2.1=0))
 (aC (decide (a0.2.2.1=1))
 (aC (!decide (a0.2.2.2.2.2.2.2.2.1=0)) (R (T.v (.bool true)))
 (R (T.v (.bool true))))
 (aC (decide (a0.2.2.1=4))
 (aC
 (!decide ((↑(List.map aA.li.enc a0.2.2.2.2.2.2.1.2).length:Int)=0))
 (R (T.v (.bool true)))
 (aC (!decide (a0.2.2.2.2.2.2.2.2.1=0)) (R (T.v (.bool true)))
 (R (T.v (.bool !decide (a0.2.2.2.2.1 = { data:=#[] }))))))
 (aC
 (!decide ((↑(List.map aA.li.enc a0.2.2.2.2.2.2.1.2).length:Int)=0))
 (R (T.v (.bool true))) (R (T.v (.bool true))))))
 (aC (decide (a0.2.2.1=1))
 (aC (!decide (a0.2.2.2.2.2.2.2.2.1=0)) (R (T.v (.bool true)))
 (R
 (T.v
 (Value.bool
 !(decide (a0.2.2.2.2.2.2.2.2.2.2.1.1=0) &&
 (decide (a0.2.2.2.2.2.2.2.2.2.2.1.2.1=0) &&
 (decide (a0.2.2.2.2.2.2.2.2.2.2.1.2.2=0)&&true)))))))
 (aC (decide (a0.2.2.1=4))
 (aC
 (!decide ((↑(List.map aA.li.enc a0.2.2.2.2.2.2.1.2).length:Int)=0))
 (R (T.v (.bool true)))
 (aC (!decide (a0.2.2.2.2.2.2.2.2.1=0)) (R (T.v (.bool true)))
 (R (T.v (.bool !decide (a0.2.2.2.2.1 = { data:=#[] }))))))
 (aC
 (!decide ((↑(List.map aA.li.enc a0.2.2.2.2.2.2.1.2).length:Int)=0))
 (R (T.v (.bool true)))
 (R
 (T.v
 (Value.bool
 !(decide (a0.2.2.2.2.2.2.2.2.2.2.1.1=0) &&
 (decide (a0.2.2.2.2.2.2.2.2.2.2.1.2.1=0) &&
 (decide (a0.2.2.2.2.2.2.2.2.2.2.1.2.2=0)&&true)))))))))))
 (aC (!decide (a0.2.2.2.2.2.2.2.1 = { data:=#[] }))
 (aC (!decide (a0.2.2.2.2.2.2.2.2.2.1=0))
 (aC (decide (a0.2.2.1=1)) (R (T.v (.bool true)))
 (aC (decide (a0.2.2.1=4)) (R (T.v (.bool true)))
 (R (T.v (.bool true)))))
 (aC (decide (a0.2.2.1=1)) (R (T.v (.bool true)))
 (aC (decide (a0.2.2.1=4)) (R (T.v (.bool true)))
 (R (T.v (.bool true))))))
 (aC (!decide (a0.2.2.2.2.2.2.2.2.2.1=0))
 (aC (decide (a0.2.2.1=1))
 (aC (!decide (a0.2.2.2.2.2.2.2.2.1=0)) (R (T.v (.bool true)))
 (R (T.v (.bool true))))
 (aC (decide (a0.2.2.1=4)) (R (T.v (.bool true)))
 (R (T.v (.bool true)))))
 (aC (decide (a0.2.2.1=1))
 (aC (!decide (a0.2.2.2.2.2.2.2.2.1=0)) (R (T.v (.bool true)))
 (R
 (T.v
 (Value.bool
 !(decide (a0.2.2.2.2.2.2.2.2.2.2.1.1=0) &&
 (decide (a0.2.2.2.2.2.2.2.2.2.2.1.2.1=0) &&
 (decide (a0.2.2.2.2.2.2.2.2.2.2.1.2.2=0)&&true)))))))
 (aC (decide (a0.2.2.1=4)) (R (T.v (.bool true)))
 (R (T.v (.bool true))))))))
theorem R4 ( a0 R):bD aX Tryz.prog CP OH 8 123 [aB true aP a0] R=C8 a0 R:=by kernel_rfl
abbrev vC:Sh:=[(true,aP)]
def yQ (p:bC):Option T:=EF p (T.v (.bool (fT p)))
noncomputable def kN:List T→Option (T):=gS vC yQ
theorem TF {a0}:kN [aB true aP a0]=yQ (a0):=aT (s:=vC) rfl (a0) rfl
theorem AGI (h:∀ a0 r,yQ (a0)=some r→bU vC (a0)→C8 a0 (fun y=>y=r)):aJ Tryz.prog 123 kN :=
 aN (E:=CP) (Hs:=OH) VH aU aV (aK rfl) 8 ⟨_,_,Tryz.func123,rfl⟩ rfl fun x r h1 h2=>by
  let a0:=x
  rw[show Sh.bI vC (a0)=[aB true aP a0] from rfl,R4]
  exact h a0 r h1 h2
theorem AE3:aJ Tryz.prog 123 kN:=AGI fun p r h hb=>by
 obtain ⟨hk,rfl⟩:=PV h
 clear h hb
 unfold C8
 simp only[List.length_map,Bool.and_true]
 repeat' first
  | refine rX (fun h=>?_) (fun h=>?_)
  | refine bT (fun h=>?_) (fun h=>?_)
 all_goals (refine cM ?_;unfold fT MJ AQK AQU a6 eO cV wW jA fV mV cY)
 all_goals (replace hk:p.2.2.1=1∨p.2.2.1=2∨p.2.2.1=3∨p.2.2.1=4:=hk;rcases hk with k|k|k|k)
 all_goals (try (exfalso;omega))
 all_goals (simp_all[List.length_pos_iff,A0C])
 all_goals (try omega)
noncomputable def CD:Env:=Env.of [(72,.pure dI),(73,.pure iQ),(158,.pure gR)]
def N5:FuncId→Hint:=fun _=>aS
theorem U5:aF Tryz.prog CD:=aF.cons (x:=.pure dI) sK (aF.cons (x:=.pure iQ) O4 (aF.cons (x:=.pure gR) SS (aF.nil _)))
def CW (a0:bC) (a1:aM) (R:T→Prop):Prop :=
 aC (decide (a0.2.2.1=4)) (R (T.v (.bool true)))
 (aH [(true,bK),(false,Sy.bool)]
 (dI [aB true aG a1,T.v (.string a0.2.2.2.2.1)])
 fun (y0:dO×Bool) =>
 aC (!y0.2) (R (T.v (.bool false)))
 (aC (decide (y0.1.2.1<1000)) (R (T.v (.bool false)))
 (aC (decide (20000<y0.1.2.1)) (R (T.v (.bool false)))
 (aC (decide (a0.2.2.1=1))
 (aC (decide (1≤a0.2.2.2.2.2.1))
 (aC (decide (a0.2.2.2.2.2.1≤120))
 (aH [(false,Sy.bool)]
 (gR
 [aB true aG a1,T.v (.string a0.2.2.2.2.1),
 T.v (.int .i64 a0.2.2.2.2.2.1)])
 fun (y1:Bool)=>R (T.v (.bool y1)))
 (R (T.v (.bool false))))
 (R (T.v (.bool false))))
 (aH [(true,aW),(false,Sy.bool)]
 (iQ
 [aB true aG a1,T.v (.string a0.2.2.2.2.2.2.2.1)])
 fun (y2:bQ×Bool) =>
 aC y2.2
 (aC (decide (1≤y2.1.2.1))
 (aC (decide (y2.1.2.1≤1000000))
 (aC (decide (1≤y2.1.2.2.1))
 (R (T.v (.bool (decide (y2.1.2.2.1≤2000)))))
 (R (T.v (.bool false))))
 (R (T.v (.bool false))))
 (R (T.v (.bool false))))
 (R (T.v (.bool false))))))))
theorem RG ( a0 a1 R):bD aX Tryz.prog CD N5 8 124 [aB true aP a0,aB true aG a1] R=CW a0 a1 R:=by kernel_rfl
abbrev uV:Sh:=[(true,aP),(true,aG)]
def n6 (x:bC×aM):Option T:=match CA x.2 with
 | true=>EF x.1 (T.v (.bool (cQ x.1 x.2)))
 | false=>none
noncomputable def kJ:List T→Option (T):=gS uV n6
theorem S0 {a0 a1}:kJ [aB true aP a0,aB true aG a1]=n6 (a0,a1):=aT (s:=uV) rfl (a0,a1) rfl
theorem AF6 (h:∀ a0 a1 r,n6 (a0,a1)=some r→bU uV (a0,a1)→CW a0 a1 (fun y=>y=r)):aJ Tryz.prog 124 kJ :=
 aN (E:=CD) (Hs:=N5) U5 aU aV (aK rfl) 8 ⟨_,_,Tryz.func124,rfl⟩ rfl fun x r h1 h2=>by
  obtain ⟨a0,a1⟩:=x
  rw[show Sh.bI uV (a0,a1)=[aB true aP a0,aB true aG a1] from rfl,RG]
  exact h a0 a1 r h1 h2
theorem AEU:aJ Tryz.prog 124 kJ:=AF6 fun p m r h hb=>by
 unfold n6 at h
 split at h
 case h_2=>cases h
 rename_i hok
 replace hok:CA m=true:=hok
 obtain ⟨hk,rfl⟩:=PV h
 clear h hb
 have is:∀ {n:Bool},cQ p m=n→T.v (.bool n)=T.v (.bool (cQ p m)):=fun h=>by rw[h]
 unfold CW
 refine bT (fun h=>is (by unfold cQ;rw[if_pos h])) fun k4=>?_
 refine aD (s:=[(true,bK),(false,.bool)]) (o6 hok _) ?_
 cases hg:cA m (cY p) with
 | none =>
  show aC true _ _
  rw[cH];exact is (by unfold cQ;rw[if_neg k4,hg])
 | some g =>
  show aC false _ _
  rw[cO]
  dsimp only[found]
  have w0:cQ p m=(decide (1000≤g.2.1)&&decide (g.2.1≤20000)&&(if a6 p=1 then decide (1≤eO p)&&decide (eO p≤120)&&fS m (cY p) (eO p) else GJ m (wW p))):=by unfold cQ;rw[if_neg k4,hg]
  refine bT (fun h=>is (by rw[w0,decide_eq_false (show ¬ 1000≤g.2.1 by omega)];rfl)) fun d1=>?_
  refine bT (fun h=>is (by rw[w0,decide_eq_false (show ¬ g.2.1≤20000 by omega)];simp)) fun d2=>?_
  rw[decide_eq_true (show 1000≤g.2.1 by omega),decide_eq_true (show g.2.1≤20000 by omega)] at w0
  refine bT (fun k1=>?_) fun k1=>?_
  ·rw[if_pos k1] at w0
   refine bT (fun h1=>bT (fun h2=>?_) fun h2=>is ?_) fun h1=>is ?_
   ·refine aD (s:=[(false,.bool)]) (y:=fS m (cY p) (eO p)) (LJ hok _ _) (is ?_)
    rw[w0,decide_eq_true h1,decide_eq_true h2];rfl
   ·rw[w0,decide_eq_true h1,decide_eq_false h2];rfl
   ·rw[w0,decide_eq_false h1];rfl
  ·rw[if_neg k1] at w0
   refine aD (s:=[(true,aW),(false,.bool)]) (F1 m _) ?_
   cases hs:l8 m (wW p) with
   | none =>
    show aC false _ _
    rw[cO];exact is (by rw[w0];unfold GJ;rw[hs];rfl)
   | some s =>
    show aC true _ _
    rw[cH]
    dsimp only[found]
    have w2:cQ p m=(decide (1≤s.2.1)&&decide (s.2.1≤1000000)&&(decide (1≤s.2.2.1)&&decide (s.2.2.1≤2000))):=by rw[w0];unfold GJ;rw[hs];rfl
    refine bT (fun h1=>bT (fun h2=>bT (fun h3=>is ?_) fun h3=>is ?_) fun h2=>is ?_) fun h1=>is ?_
    ·rw[w2,decide_eq_true h1,decide_eq_true h2,decide_eq_true h3];rfl
    ·rw[w2,decide_eq_true h1,decide_eq_true h2,decide_eq_false h3];rfl
    ·rw[w2,decide_eq_true h1,decide_eq_false h2];rfl
    ·rw[w2,decide_eq_false h1];rfl
noncomputable def QR:Env:=Env.of []
def AHB:FuncId→Hint:=fun _=>aS
theorem AI5:aF Tryz.prog QR:=aF.nil _
def RD (a0:XR) (R:T→Prop):Prop :=
 aC (decide (a0.1 < -524288)) (R (T.v (.bool true)))
 (aC (decide (524288<a0.1)) (R (T.v (.bool true)))
 (aC (decide (a0.2.1 < -524288)) (R (T.v (.bool true)))
 (aC (decide (524288<a0.2.1)) (R (T.v (.bool true)))
 (aC (decide (a0.2.2 < -524288)) (R (T.v (.bool true)))
 (R (T.v (.bool (decide (524288<a0.2.2)))))))))
theorem ADD ( a0 R):bD aX Tryz.prog QR AHB 8 126 [aB true FM a0] R=RD a0 R:=by kernel_rfl
abbrev HA:Sh:=[(true,FM)]
def ML (v:XR):Option T:=some (T.v (.bool (!gF v)))
noncomputable def qW:List T→Option (T):=gS HA ML
theorem AFD {a0}:qW [aB true FM a0]=ML (a0):=aT (s:=HA) rfl (a0) rfl
theorem ARA (h:∀ a0 r,ML (a0)=some r→bU HA (a0)→RD a0 (fun y=>y=r)):aJ Tryz.prog 126 qW :=
 aN (E:=QR) (Hs:=AHB) AI5 aU aV (aK rfl) 8 ⟨_,_,Tryz.func126,rfl⟩ rfl fun x r h1 h2=>by
  let a0:=x
  rw[show Sh.bI HA (a0)=[aB true FM a0] from rfl,ADD]
  exact h a0 r h1 h2
theorem APP:aJ Tryz.prog 126 qW:=ARA fun v r h hb=>by
 cases h
 unfold RD
 have pb:gF v=true↔(-524288≤v.1∧v.1≤524288)∧(-524288≤v.2.1∧v.2.1≤524288)∧(-524288≤v.2.2∧v.2.2≤524288):=by
  unfold gF
  simp only[Bool.and_eq_true,decide_eq_true_eq]
  omega
 have no:¬ ((-524288≤v.1∧v.1≤524288)∧(-524288≤v.2.1∧v.2.1≤524288)∧(-524288≤v.2.2∧v.2.2≤524288))→T.v (.bool true)=T.v (.bool (!gF v)):=fun h=>cM (by
  rw[show gF v=false by rw[Bool.eq_false_iff];exact fun h2=>h (pb.1 h2)];rfl)
 refine bT (fun h=>no (by omega)) fun h1=>bT (fun h=>no (by omega)) fun h2=>bT (fun h=>no (by omega)) fun h3=>bT (fun h=>no (by omega)) fun h4=>bT (fun h=>no (by omega)) fun h5=>cM ?_
 rw[Bool.eq_iff_iff,Bool.not_eq_true',←Bool.not_eq_true,pb,decide_eq_true_eq]
 omega
def AXK (p:bC) (m:aM):Bool:=CA m&&(U1 p.1&&U1 (lF p))
def EG {α:Type} (p:bC) (m:aM) (r:α):Option α:=match AXK p m with
 | true=>some r
 | false=>none
theorem PX {α:Type} {p:bC} {m:aM} {t r:α} (h:EG p m t=some r):CA m=true∧U1 p.1=true∧U1 (lF p)=true∧r=t:=by
 unfold EG at h;split at h
 ·rename_i hc
  simp only[AXK,Bool.and_eq_true] at hc
  cases h;exact ⟨hc.1,hc.2.1,hc.2.2,rfl⟩
 ·cases h
theorem PY {α:Type} {p:bC} {m:aM} (t:α) (h:CA m=true) (h1:U1 p.1=true) (h2:U1 (lF p)=true):EG p m t=some t:=by
 unfold EG AXK;rw[h,h1,h2];rfl
noncomputable def IF:Env:=Env.of [(122,.pure lI),(123,.pure kN),(124,.pure kJ),(125,.pure gX),(126,.pure qW),(127,.pure gI)]
def W7:FuncId→Hint:=fun _=>aS
theorem ACT:aF Tryz.prog IF:=aF.cons (x:=.pure lI) AKM (aF.cons (x:=.pure kN) AE3 (aF.cons (x:=.pure kJ) AEU (aF.cons (x:=.pure gX) O8 (aF.cons (x:=.pure qW) APP (aF.cons (x:=.pure gI) AE4 (aF.nil _))))))
def JK (a0:bC) (a1:aM) (R:T→Prop):Prop :=
 aH [(false,Sy.bool)] (lI [T.v (.string a0.1)]) fun (y0:Bool) =>
 aC (!y0) (R (T.v (.int .i64 6)))
 (aH [(false,Sy.bool)] (lI [T.v (.string a0.2.2.2.1)])
 fun (y1:Bool) =>
 aC (!y1) (R (T.v (.int .i64 6)))
 (aC (decide (a0.2.1<1)) (R (T.v (.int .i64 9)))
 (aC (decide (1000<a0.2.1)) (R (T.v (.int .i64 9)))
 (aC (decide (a0.2.2.1<1)) (R (T.v (.int .i64 10)))
 (aC (decide (4<a0.2.2.1)) (R (T.v (.int .i64 10)))
 (aH [(false,Sy.bool)] (kN [aB true aP a0])
 fun (y2:Bool) =>
 aC y2 (R (T.v (.int .i64 2)))
 (aH [(false,Sy.bool)]
 (kJ [aB true aP a0,aB true aG a1])
 fun (y3:Bool) =>
 aC (!y3) (R (T.v (.int .i64 23)))
 (aC (decide (a0.2.2.1=1))
 (aH [(false,Sy.int IntKind.i64)]
 (gX [aB true b6 a0.2.2.2.2.2.2.1])
 fun (y4:Int) =>
 aC (!decide (y4=0)) (R (T.v (.int .i64 y4)))
 (aH [(false,Sy.bool)]
 (gI
 [aB true cI a0.2.2.2.2.2.2.2.2.2.2.2])
 fun (y5:Bool) =>
 aC (!y5) (R (T.v (.int .i64 9)))
 (R (T.v (.int .i64 0)))))
 (aC (decide (a0.2.2.1=4))
 (aC (decide (a0.2.2.2.2.2.2.2.2.2.1<1))
 (R (T.v (.int .i64 9)))
 (aC (decide (1099511627776<a0.2.2.2.2.2.2.2.2.2.1))
 (R (T.v (.int .i64 9)))
 (aH [(false,Sy.bool)]
 (qW
 [aB true FM a0.2.2.2.2.2.2.2.2.2.2.1])
 fun (y6:Bool) =>
 aC y6 (R (T.v (.int .i64 9)))
 (aH [(false,Sy.bool)]
 (gI
 [aB true cI a0.2.2.2.2.2.2.2.2.2.2.2])
 fun (y7:Bool) =>
 aC (!y7) (R (T.v (.int .i64 9)))
 (R (T.v (.int .i64 0)))))))
 (aC (decide (a0.2.2.2.2.2.2.2.2.1<1))
 (R (T.v (.int .i64 9)))
 (aC (decide (32768<a0.2.2.2.2.2.2.2.2.1))
 (R (T.v (.int .i64 9)))
 (aH [(false,Sy.bool)]
 (gI
 [aB true cI a0.2.2.2.2.2.2.2.2.2.2.2])
 fun (y8:Bool) =>
 aC (!y8) (R (T.v (.int .i64 9)))
 (R (T.v (.int .i64 0)))))))))))))))
theorem V4 ( a0 a1 R):bD aX Tryz.prog IF W7 8 71 [aB true aP a0,aB true aG a1] R=JK a0 a1 R:=by kernel_rfl
abbrev BK:Sh:=[(true,aP),(true,aG)]
def E4 (x:bC×aM):Option T:=EG x.1 x.2 (T.v (Value.int .i64 (dX x.1 x.2)))
noncomputable def nI:List T→Option (T):=gS BK E4
theorem ZQ {a0 a1}:nI [aB true aP a0,aB true aG a1]=E4 (a0,a1):=aT (s:=BK) rfl (a0,a1) rfl
theorem AMG (h:∀ a0 a1 r,E4 (a0,a1)=some r→bU BK (a0,a1)→JK a0 a1 (fun y=>y=r)):aJ Tryz.prog 71 nI :=
 aN (E:=IF) (Hs:=W7) ACT aU aV (aK rfl) 8 ⟨_,_,Tryz.func71,rfl⟩ rfl fun x r h1 h2=>by
  obtain ⟨a0,a1⟩:=x
  rw[show Sh.bI BK (a0,a1)=[aB true aP a0,aB true aG a1] from rfl,V4]
  exact h a0 a1 r h1 h2
theorem AKW:aJ Tryz.prog 71 nI:=AMG fun p m r h hb=>by
 obtain ⟨hok,hs1,hs2,rfl⟩:=PX h
 replace hok:CA m=true:=hok
 clear h hb
 have is:∀ {n:Int},dX p m=n→T.v (.int .i64 n)=T.v (.int .i64 (dX p m)):=fun h=>by rw[h]
 unfold JK
 refine aD (s:=GW) (y:=oD p.1) (AAG hs1) ?_
 refine pU (fun h=>is (by unfold dX;rw[if_pos (.inl h)])) fun i1=>?_
 refine aD (s:=GW) (y:=oD (lF p)) (AAG hs2) ?_
 refine pU (fun h=>is (by unfold dX;rw[if_pos (.inr h)])) fun i2=>?_
 have n1:¬ (oD p.1=false∨oD (lF p)=false):=by
  rintro (h|h)
  ·rw[show oD p.1=true from i1] at h;cases h
  ·rw[show oD (lF p)=true from i2] at h;cases h
 have r9:¬ (1≤p.2.1∧p.2.1≤1000)→T.v (.int .i64 9)=T.v (.int .i64 (dX p m)):=fun h=>is (by unfold dX;rw[if_neg n1,if_pos h])
 refine bT (fun h=>r9 (by omega)) fun v1=>bT (fun h=>r9 (by omega)) fun v2=>?_
 have n2:¬ ¬ (1≤p.2.1∧p.2.1≤1000):=fun h=>h (by omega)
 have r10:¬ (a6 p=1∨a6 p=2∨a6 p=3∨a6 p=4)→T.v (.int .i64 10)=T.v (.int .i64 (dX p m)):=fun h=>is (by unfold dX;rw[if_neg n1,if_neg n2,if_pos h])
 refine bT (fun h=>r10 (by unfold a6;omega)) fun k1=>bT (fun h=>r10 (by unfold a6;omega)) fun k2=>?_
 have hk:a6 p=1∨a6 p=2∨a6 p=3∨a6 p=4:=by unfold a6;omega
 have w1:dX p m=if fT p=true then 2 else if cQ p m=false then 23 else if a6 p=1∧¬ fE (cV p)=0 then fE (cV p) else if (a6 p=2∨a6 p=3)∧¬ (1≤jA p∧jA p≤32768) then 9 else if a6 p=4∧¬ (1≤fV p∧fV p≤1099511627776∧gF (mV p)=true) then 9 else if gK (aAt p)=false then 9 else 0:=by
  unfold dX;rw[if_neg n1,if_neg n2,if_neg (fun h=>h hk)]
 have spare:∀ {K:Bool→Prop},K (fT p)→aH [(false,Sy.bool)] (kN [aB true aP p]) K:=fun h=>aD (s:=[(false,.bool)]) (y:=fT p) ((TF ..).trans (PW _ hk)) h
 have made:∀ {K:Bool→Prop},K (cQ p m)→aH [(false,Sy.bool)] (kJ [aB true aP p,aB true aG m]) K:=fun h=>aD (s:=[(false,.bool)]) (y:=cQ p m) ((S0 ..).trans (by unfold n6;rw[hok];exact PW _ hk)) h
 have place:∀ {K:Bool→Prop},K (gK (aAt p))→aH [(false,Sy.bool)] (gI [aB true cI (aAt p)]) K:=fun h=>aD (s:=[(false,.bool)]) (y:=gK (aAt p)) (TG ..) h
 have far:∀ {K:Bool→Prop},K (!gF (mV p))→aH [(false,Sy.bool)] (qW [aB true FM (mV p)]) K:=fun h=>aD (s:=[(false,.bool)]) (y:=!gF (mV p)) (AFD ..) h
 have reg:∀ {K:Int→Prop},K (fE (cV p))→aH [(false,Sy.int IntKind.i64)] (gX [aB true b6 (cV p)]) K:=fun h=>aD (s:=[(false,.int .i64)]) (F3 _) h
 refine spare ?_
 refine vR (fun h=>is (by rw[w1,if_pos h])) fun s0=>?_
 refine made ?_
 refine pU (fun h=>is (by rw[w1,if_neg (by rw[s0];exact Bool.noConfusion),if_pos h])) fun m0=>?_
 have w2:dX p m=if a6 p=1∧¬ fE (cV p)=0 then fE (cV p) else if (a6 p=2∨a6 p=3)∧¬ (1≤jA p∧jA p≤32768) then 9 else if a6 p=4∧¬ (1≤fV p∧fV p≤1099511627776∧gF (mV p)=true) then 9 else if gK (aAt p)=false then 9 else 0:=by
  rw[w1,if_neg (by rw[s0];exact Bool.noConfusion),if_neg (by rw[m0];exact Bool.noConfusion)]
 clear w1 n1 n2 r9 r10
 have fin:¬ (a6 p=1∧¬ fE (cV p)=0)→¬ ((a6 p=2∨a6 p=3)∧¬ (1≤jA p∧jA p≤32768))→¬ (a6 p=4∧¬ (1≤fV p∧fV p≤1099511627776∧gF (mV p)=true))→aH [(false,Sy.bool)] (gI [aB true cI (aAt p)]) (fun y:Bool=>aC (!y) (T.v (.int .i64 9)=T.v (.int .i64 (dX p m))) (T.v (.int .i64 0)=T.v (.int .i64 (dX p m)))):=fun a b c=>place (pU (fun v=>is (by rw[w2,if_neg a,if_neg b,if_neg c,if_pos v])) fun v=>is (by rw[w2,if_neg a,if_neg b,if_neg c,if_neg (by rw[v];exact Bool.noConfusion)]))
 refine bT (fun h1=>reg (rX (fun h=>is (by rw[w2,if_pos ⟨h1,h⟩])) fun h=>fin (fun h2=>h2.2 h) ?_ ?_)) fun h1=>bT (fun h4=>?_) fun h4=>?_
 ·have h1:a6 p=1:=h1
  omega
 ·have h1:a6 p=1:=h1
  omega
 ·have h4:a6 p=4:=h4
  have a:¬ (a6 p=1∧¬ fE (cV p)=0):=fun h=>h1 h.1
  have b:¬ ((a6 p=2∨a6 p=3)∧¬ (1≤jA p∧jA p≤32768)):=fun h=>by omega
  have no:¬ (1≤fV p∧fV p≤1099511627776∧gF (mV p)=true)→T.v (.int .i64 9)=T.v (.int .i64 (dX p m)):=fun h=>is (by rw[w2,if_neg a,if_neg b,if_pos ⟨h4,h⟩])
  refine bT (fun h=>no fun h2=>?_) fun l1=>bT (fun h=>no fun h2=>?_) fun l2=>far (vR (fun h=>no fun h2=>?_) fun h=>fin a b fun h2=>h2.2 ⟨?_,?_,?_⟩)
  ·have h:fV p<1:=h
   omega
  ·have h:1099511627776<fV p:=h
   omega
  ·rw[h2.2.2] at h;cases h
  ·have l1:¬ fV p<1:=l1
   omega
  ·have l2:¬ 1099511627776<fV p:=l2
   omega
  ·cases hv:gF (mV p)
   ·rw[hv] at h;cases h
   ·rfl
 ·have h4:¬ a6 p=4:=h4
  have h1:¬ a6 p=1:=h1
  have k23:a6 p=2∨a6 p=3:=by omega
  have a:¬ (a6 p=1∧¬ fE (cV p)=0):=fun h=>h1 h.1
  have no:¬ (1≤jA p∧jA p≤32768)→T.v (.int .i64 9)=T.v (.int .i64 (dX p m)):=fun h=>is (by rw[w2,if_neg a,if_pos ⟨k23,h⟩])
  refine bT (fun h=>no fun h2=>?_) fun l1=>bT (fun h=>no fun h2=>?_) fun l2=>fin a (fun h2=>h2.2 ⟨?_,?_⟩) fun h2=>h4 h2.1
  ·have h:jA p<1:=h
   omega
  ·have h:32768<jA p:=h
   omega
  ·have l1:¬ jA p<1:=l1
   omega
  ·have l2:¬ 32768<jA p:=l2
   omega
theorem ZR {m:aM} {p:bC} (h:CA m=true) (h1:U1 p.1=true) (h2:U1 (lF p)=true):nI [aB true aP p,aB true aG m]=some (Sh.enc [(false,.int .i64)] (dX p m)):=(ZQ ..).trans (PY _ h h1 h2)
noncomputable def H5:Env:=Env.of [(71,.pure nI),(72,.pure dI),(73,.pure iQ),(74,.pure nB)]
def WX:FuncId→Hint:=fun _=>aS
theorem ACI:aF Tryz.prog H5:=aF.cons (x:=.pure nI) AKW (aF.cons (x:=.pure dI) sK (aF.cons (x:=.pure iQ) O4 (aF.cons (x:=.pure nB) AKJ (aF.nil _))))
def I9 (a0:bC) (a1:aM) (R:T→Prop):Prop :=
 aH [(false,Sy.int IntKind.i64)]
 (nI [aB true aP a0,aB true aG a1]) fun (y0:Int) =>
 aC (!decide (y0=0))
 (R (T.bX [T.v (.int .i64 0),T.v (.int .i64 y0)]))
 (aH [(true,bK),(false,Sy.bool)]
 (dI [aB true aG a1,T.v (.string a0.2.2.2.2.1)])
 fun (y1:dO×Bool) =>
 aH [(true,aW),(false,Sy.bool)]
 (iQ
 [aB true aG a1,T.v (.string a0.2.2.2.2.2.2.2.1)])
 fun (y2:bQ×Bool) =>
 aC (decide (a0.2.2.1=1))
 (aH [(false,Sy.int IntKind.i64)]
 (nB [aB true b6 a0.2.2.2.2.2.2.1]) fun (y3:Int) =>
 bS true
 (R
 (T.bX
 [T.v
 (Value.int IntKind.i64
 (IntKind.i64.wrap
 ((IntKind.i64.wrap
 (IntKind.i64.wrap (y3*a0.2.2.2.2.2.1)*y1.1.2.1)).tdiv
 2000000))),
 T.v (.int .i64 0)])))
 (aC (decide (a0.2.2.1=4))
 (R
 (T.bX
 [T.v (.int .i64 a0.2.2.2.2.2.2.2.2.2.1),
 T.v (.int .i64 0)]))
 (bS true
 (R
 (T.bX
 [T.v
 (Value.int IntKind.i64
 (IntKind.i64.wrap
 ((IntKind.i64.wrap
 (IntKind.i64.wrap (y2.1.2.1*a0.2.2.2.2.2.2.2.2.1) *
 y1.1.2.1)).tdiv
 1000000))),
 T.v (.int .i64 0)])))))
theorem VU ( a0 a1 R):bD aX Tryz.prog H5 WX 8 35 [aB true aP a0,aB true aG a1] R=I9 a0 a1 R:=by kernel_rfl
abbrev BA:Sh:=[(true,aP),(true,aG)]
abbrev ABA:Sh:=[(false,Sy.int IntKind.i64),(false,Sy.int IntKind.i64)]
def EW (x:bC×aM):Option T:=EG x.1 x.2 (Sh.enc ABA (dS x.1 x.2))
noncomputable def nE:List T→Option (T):=gS BA EW
theorem ZF {a0 a1}:nE [aB true aP a0,aB true aG a1]=EW (a0,a1):=aT (s:=BA) rfl (a0,a1) rfl
theorem AL6 (h:∀ a0 a1 r,EW (a0,a1)=some r→bU BA (a0,a1)→I9 a0 a1 (fun y=>y=r)):aJ Tryz.prog 35 nE :=
 aN (E:=H5) (Hs:=WX) ACI aU aV (aK rfl) 8 ⟨_,_,Tryz.func35,rfl⟩ rfl fun x r h1 h2=>by
  obtain ⟨a0,a1⟩:=x
  rw[show Sh.bI BA (a0,a1)=[aB true aP a0,aB true aG a1] from rfl,VU]
  exact h a0 a1 r h1 h2
theorem AKQ:aJ Tryz.prog 35 nE:=AL6 fun p m r h hb=>by
 obtain ⟨hok,hs1,hs2,rfl⟩:=PX h
 replace hok:CA m=true:=hok
 clear h hb
 have is:∀ {a b:Int},dS p m=(a,b)→T.bX [T.v (.int .i64 a),T.v (.int .i64 b)]=Sh.enc ABA (dS p m):=fun h=>by rw[h];rfl
 unfold I9
 refine aD (s:=[(false,.int .i64)]) (ZR hok hs1 hs2) ?_
 refine rX (fun h=>is (by unfold dS;rw[if_neg h])) fun h=>?_
 refine aD (s:=[(true,bK),(false,.bool)]) (o6 hok _) ?_
 refine aD (s:=[(true,aW),(false,.bool)]) (F1 m _) ?_
 have w:dS p m=(kC p m,0):=by unfold dS;rw[if_pos h]
 have hk:a6 p=1∨a6 p=2∨a6 p=3∨a6 p=4:=by
  refine Classical.byContradiction fun hc=>?_
  have h:=h
  unfold dX at h
  by_cases c1:oD p.1=false∨oD (lF p)=false
  ·rw[if_pos c1] at h;cases h
  ·rw[if_neg c1] at h
   by_cases c2:¬ (1≤p.2.1∧p.2.1≤1000)
   ·rw[if_pos c2] at h;cases h
   ·rw[if_neg c2,if_pos hc] at h;cases h
 have eg:(found fG (cA m (cY p))).1=D6 m (cY p):=G2
 have es:(found AK (l8 m (wW p))).1=AR4 m (wW p):=G2
 refine bT (fun k1=>?_) fun k1=>?_
 ·refine aD (s:=[(false,.int .i64)]) (Y7 _) ?_
  refine ⟨rfl,is ?_⟩
  rw[w];unfold kC;rw[if_pos k1,←eg]
 refine bT (fun k4=>is ?_) fun k4=>⟨rfl,is ?_⟩
 ·have k4:a6 p=4:=k4
  rw[w];unfold kC;rw[if_neg k1,if_neg (by omega)]
 ·have k4:¬ a6 p=4:=k4
  have k1:¬ a6 p=1:=k1
  rw[w];unfold kC;rw[if_neg k1,if_pos (by omega),←eg,←es]
theorem ZG {m:aM} {p:bC} (h:CA m=true) (h1:U1 p.1=true) (h2:U1 (lF p)=true):nE [aB true aP p,aB true aG m]=some (Sh.enc [(false,.int .i64),(false,.int .i64)] (dS p m)):=(ZF ..).trans (PY _ h h1 h2)
end Go.Pv
namespace Go.Pv
open Go Go.Proofs
noncomputable def Q2:Env:=Env.of [(32,.pure fY),(33,.pure mM),(34,.pure fK),(35,.pure nE),(36,.pure pQ),(37,.pure nM),(38,.pure mF)]
def AHM:FuncId→Hint:=fun f=>match f == 11 with|true=>⟨fun r=>match r == 10 with|true=>.inv [.own 12 18 aP,.box 5 M7,.val 13 false (.int .i64)]|false=>match r == 23 with|true=>.inv [.own 16 1 (.int .i64),.val 19 false (.int .i64),.fix 2]|false=>match r == 31 with|true=>.inv [.own 17 1 (.int .i64),.own 18 1 (.int .i64),.val 23 false (.int .i64)]|false=>.none,fun _ _=>none,fun _=>none⟩|false=>aS
theorem AJG:aF Tryz.prog Q2:=aF.cons (x:=.pure fY) DV (aF.cons (x:=.pure mM) AEX (aF.cons (x:=.pure fK) DW (aF.cons (x:=.pure nE) AKQ (aF.cons (x:=.pure pQ) AK5 (aF.cons (x:=.pure nM) AK4 (aF.cons (x:=.pure mF) AP2 (aF.nil _)))))))
def R0 (a0:aQ) (a1:aM) (a2:ByteArray) (R:T→Prop):Prop :=
 aH [(true,eZ),(false,Sy.bool)]
 (fY [aB true aL a0,T.v (.string a2)]) fun (y0:mU×Bool) =>
 aC (!y0.2)
 (R
 (T.bX
 [T.agg
 [T.v (.string { data:=#[] }),T.v (.int .i64 0),
 T.v (.int .i64 0),T.v (.int .i64 0),
 T.v (.int .i64 0),T.v (.int .i64 0)],
 T.v (.int .i64 8)]))
 (aC (!decide (y0.1.2.1=2))
 (R
 (T.bX
 [T.agg
 [T.v (.string { data:=#[] }),T.v (.int .i64 0),
 T.v (.int .i64 0),T.v (.int .i64 0),
 T.v (.int .i64 0),T.v (.int .i64 0)],
 T.v (.int .i64 10)]))
 (aH [(false,Sy.str.li)]
 (mM [aB true aL a0,T.v (.string a2)])
 fun (y1:List ByteArray) =>
 bE (List bC×jX×Int×PUnit)
 (fun (X2:List bC×jX×Int×PUnit→Prop)
 (s3:List bC×jX×Int×PUnit) =>
 aC (decide (s3.2.2.1<(↑(List.map Sy.str.enc y1).length:Int)))
 (aZ Sy.str (List.map Sy.str.enc y1) s3.2.2.1 fun (y4:ByteArray) =>
 aH [(true,aP),(false,Sy.bool)]
 (fK [aB true aL a0,T.v (.string y4)])
 fun (y5:bC×Bool) =>
 aC (decide (y5.1.2.2.1=1))
 (bS
 (decide (((List.map aP.enc s3.1).length+1)*208≤140737488355328) &&
 decide ((List.map aP.enc s3.1).length+1≤140737488355328))
 (aC (decide (y5.1.2.2.1=2))
 (bS
 (decide
 (((List.map aP.enc s3.1 ++
 [[T.v
 (Value.int IntKind.i64
 y5.1.2.2.2.2.2.2.2.2.2.2.2.2),
 T.v
 (Value.int IntKind.i64
 y5.1.2.2.2.2.2.2.2.2.2.2.2.1.2.2),
 T.v
 (Value.int IntKind.i64
 y5.1.2.2.2.2.2.2.2.2.2.2.2.1.2.1),
 T.v
 (Value.int IntKind.i64
 y5.1.2.2.2.2.2.2.2.2.2.2.2.1.1),
 T.v
 (Value.int IntKind.i64
 y5.1.2.2.2.2.2.2.2.2.2.2.1.2.2),
 T.v
 (Value.int IntKind.i64
 y5.1.2.2.2.2.2.2.2.2.2.2.1.2.1),
 T.v
 (Value.int IntKind.i64
 y5.1.2.2.2.2.2.2.2.2.2.2.1.1),
 T.v
 (Value.int IntKind.i64
 y5.1.2.2.2.2.2.2.2.2.2.1),
 T.v
 (Value.int IntKind.i64
 y5.1.2.2.2.2.2.2.2.2.1),
 T.v (.string y5.1.2.2.2.2.2.2.2.1),
 T.sl false
 (List.map aA.li.enc y5.1.2.2.2.2.2.2.1.2),
 T.sl false
 (List.map aA.enc y5.1.2.2.2.2.2.2.1.1),
 T.v (.int .i64 y5.1.2.2.2.2.2.1),
 T.v (.string y5.1.2.2.2.2.1),
 T.v (.string y5.1.2.2.2.1),
 T.v (.int .i64 y5.1.2.2.1),
 T.v (.int .i64 y5.1.2.1),
 T.v (.string y5.1.1)].reverse].reverse).length +
 1) *
 208 ≤
 140737488355328) &&
 decide
 ((List.map aP.enc s3.1 ++
 [[T.v
 (Value.int IntKind.i64
 y5.1.2.2.2.2.2.2.2.2.2.2.2.2),
 T.v
 (Value.int IntKind.i64
 y5.1.2.2.2.2.2.2.2.2.2.2.2.1.2.2),
 T.v
 (Value.int IntKind.i64
 y5.1.2.2.2.2.2.2.2.2.2.2.2.1.2.1),
 T.v
 (Value.int IntKind.i64
 y5.1.2.2.2.2.2.2.2.2.2.2.2.1.1),
 T.v
 (Value.int IntKind.i64
 y5.1.2.2.2.2.2.2.2.2.2.2.1.2.2),
 T.v
 (Value.int IntKind.i64
 y5.1.2.2.2.2.2.2.2.2.2.2.1.2.1),
 T.v
 (Value.int IntKind.i64
 y5.1.2.2.2.2.2.2.2.2.2.2.1.1),
 T.v
 (Value.int IntKind.i64
 y5.1.2.2.2.2.2.2.2.2.2.1),
 T.v
 (Value.int IntKind.i64
 y5.1.2.2.2.2.2.2.2.2.1),
 T.v (.string y5.1.2.2.2.2.2.2.2.1),
 T.sl false
 (List.map aA.li.enc y5.1.2.2.2.2.2.2.1.2),
 T.sl false
 (List.map aA.enc y5.1.2.2.2.2.2.2.1.1),
 T.v (.int .i64 y5.1.2.2.2.2.2.1),
 T.v (.string y5.1.2.2.2.2.1),
 T.v (.string y5.1.2.2.2.1),
 T.v (.int .i64 y5.1.2.2.1),
 T.v (.int .i64 y5.1.2.1),
 T.v (.string y5.1.1)].reverse].reverse).length +
 1 ≤
 140737488355328))
 (bA aP
 (List.map aP.enc s3.1 ++
 [[T.v (.string y5.1.1),
 T.v (.int .i64 y5.1.2.1),
 T.v (.int .i64 y5.1.2.2.1),
 T.v (.string y5.1.2.2.2.1),
 T.v (.string y5.1.2.2.2.2.1),
 T.v (.int .i64 y5.1.2.2.2.2.2.1),
 T.sl false (List.map aA.enc y5.1.2.2.2.2.2.2.1.1),
 T.sl false
 (List.map aA.li.enc y5.1.2.2.2.2.2.2.1.2),
 T.v (.string y5.1.2.2.2.2.2.2.2.1),
 T.v (.int .i64 y5.1.2.2.2.2.2.2.2.2.1),
 T.v
 (Value.int IntKind.i64 y5.1.2.2.2.2.2.2.2.2.2.1),
 T.v
 (Value.int IntKind.i64
 y5.1.2.2.2.2.2.2.2.2.2.2.1.1),
 T.v
 (Value.int IntKind.i64
 y5.1.2.2.2.2.2.2.2.2.2.2.1.2.1),
 T.v
 (Value.int IntKind.i64
 y5.1.2.2.2.2.2.2.2.2.2.2.1.2.2),
 T.v
 (Value.int IntKind.i64
 y5.1.2.2.2.2.2.2.2.2.2.2.2.1.1),
 T.v
 (Value.int IntKind.i64
 y5.1.2.2.2.2.2.2.2.2.2.2.2.1.2.1),
 T.v
 (Value.int IntKind.i64
 y5.1.2.2.2.2.2.2.2.2.2.2.2.1.2.2),
 T.v
 (Value.int IntKind.i64
 y5.1.2.2.2.2.2.2.2.2.2.2.2.2)]] ++
 [[T.v (.string y5.1.1),
 T.v (.int .i64 y5.1.2.1),
 T.v (.int .i64 y5.1.2.2.1),
 T.v (.string y5.1.2.2.2.1),
 T.v (.string y5.1.2.2.2.2.1),
 T.v (.int .i64 y5.1.2.2.2.2.2.1),
 T.sl false (List.map aA.enc y5.1.2.2.2.2.2.2.1.1),
 T.sl false
 (List.map aA.li.enc y5.1.2.2.2.2.2.2.1.2),
 T.v (.string y5.1.2.2.2.2.2.2.2.1),
 T.v (.int .i64 y5.1.2.2.2.2.2.2.2.2.1),
 T.v
 (Value.int IntKind.i64 y5.1.2.2.2.2.2.2.2.2.2.1),
 T.v
 (Value.int IntKind.i64
 y5.1.2.2.2.2.2.2.2.2.2.2.1.1),
 T.v
 (Value.int IntKind.i64
 y5.1.2.2.2.2.2.2.2.2.2.2.1.2.1),
 T.v
 (Value.int IntKind.i64
 y5.1.2.2.2.2.2.2.2.2.2.2.1.2.2),
 T.v
 (Value.int IntKind.i64
 y5.1.2.2.2.2.2.2.2.2.2.2.2.1.1),
 T.v
 (Value.int IntKind.i64
 y5.1.2.2.2.2.2.2.2.2.2.2.2.1.2.1),
 T.v
 (Value.int IntKind.i64
 y5.1.2.2.2.2.2.2.2.2.2.2.2.1.2.2),
 T.v
 (Value.int IntKind.i64
 y5.1.2.2.2.2.2.2.2.2.2.2.2.2)]])
 fun (y6:List bC) =>
 X2
 (y6,
 (s3.2.1.1,IntKind.i64.wrap (s3.2.1.2.1+1),
 IntKind.i64.wrap (s3.2.1.2.2.1+1),s3.2.1.2.2.2.1,
 s3.2.1.2.2.2.2.1,s3.2.1.2.2.2.2.2),
 IntKind.i64.wrap (s3.2.2.1+1),())))
 (bA aP
 (List.map aP.enc s3.1 ++
 [[T.v (.string y5.1.1),
 T.v (.int .i64 y5.1.2.1),
 T.v (.int .i64 y5.1.2.2.1),
 T.v (.string y5.1.2.2.2.1),
 T.v (.string y5.1.2.2.2.2.1),
 T.v (.int .i64 y5.1.2.2.2.2.2.1),
 T.sl false (List.map aA.enc y5.1.2.2.2.2.2.2.1.1),
 T.sl false (List.map aA.li.enc y5.1.2.2.2.2.2.2.1.2),
 T.v (.string y5.1.2.2.2.2.2.2.2.1),
 T.v (.int .i64 y5.1.2.2.2.2.2.2.2.2.1),
 T.v (.int .i64 y5.1.2.2.2.2.2.2.2.2.2.1),
 T.v
 (Value.int IntKind.i64 y5.1.2.2.2.2.2.2.2.2.2.2.1.1),
 T.v
 (Value.int IntKind.i64
 y5.1.2.2.2.2.2.2.2.2.2.2.1.2.1),
 T.v
 (Value.int IntKind.i64
 y5.1.2.2.2.2.2.2.2.2.2.2.1.2.2),
 T.v
 (Value.int IntKind.i64
 y5.1.2.2.2.2.2.2.2.2.2.2.2.1.1),
 T.v
 (Value.int IntKind.i64
 y5.1.2.2.2.2.2.2.2.2.2.2.2.1.2.1),
 T.v
 (Value.int IntKind.i64
 y5.1.2.2.2.2.2.2.2.2.2.2.2.1.2.2),
 T.v
 (Value.int IntKind.i64
 y5.1.2.2.2.2.2.2.2.2.2.2.2.2)]])
 fun (y7:List bC) =>
 X2
 (y7,
 (s3.2.1.1,IntKind.i64.wrap (s3.2.1.2.1+1),s3.2.1.2.2.1,
 s3.2.1.2.2.2.1,s3.2.1.2.2.2.2.1,
 s3.2.1.2.2.2.2.2),
 IntKind.i64.wrap (s3.2.2.1+1),()))))
 (aC (decide (y5.1.2.2.1=2))
 (bS
 (decide (((List.map aP.enc s3.1).length+1)*208≤140737488355328) &&
 decide ((List.map aP.enc s3.1).length+1≤140737488355328))
 (bA aP
 (List.map aP.enc s3.1 ++
 [[T.v (.string y5.1.1),
 T.v (.int .i64 y5.1.2.1),
 T.v (.int .i64 y5.1.2.2.1),
 T.v (.string y5.1.2.2.2.1),
 T.v (.string y5.1.2.2.2.2.1),
 T.v (.int .i64 y5.1.2.2.2.2.2.1),
 T.sl false (List.map aA.enc y5.1.2.2.2.2.2.2.1.1),
 T.sl false (List.map aA.li.enc y5.1.2.2.2.2.2.2.1.2),
 T.v (.string y5.1.2.2.2.2.2.2.2.1),
 T.v (.int .i64 y5.1.2.2.2.2.2.2.2.2.1),
 T.v (.int .i64 y5.1.2.2.2.2.2.2.2.2.2.1),
 T.v
 (Value.int IntKind.i64 y5.1.2.2.2.2.2.2.2.2.2.2.1.1),
 T.v
 (Value.int IntKind.i64
 y5.1.2.2.2.2.2.2.2.2.2.2.1.2.1),
 T.v
 (Value.int IntKind.i64
 y5.1.2.2.2.2.2.2.2.2.2.2.1.2.2),
 T.v
 (Value.int IntKind.i64
 y5.1.2.2.2.2.2.2.2.2.2.2.2.1.1),
 T.v
 (Value.int IntKind.i64
 y5.1.2.2.2.2.2.2.2.2.2.2.2.1.2.1),
 T.v
 (Value.int IntKind.i64
 y5.1.2.2.2.2.2.2.2.2.2.2.2.1.2.2),
 T.v
 (Value.int IntKind.i64
 y5.1.2.2.2.2.2.2.2.2.2.2.2.2)]])
 fun (y8:List bC) =>
 X2
 (y8,
 (s3.2.1.1,s3.2.1.2.1,IntKind.i64.wrap (s3.2.1.2.2.1+1),
 s3.2.1.2.2.2.1,s3.2.1.2.2.2.2.1,
 s3.2.1.2.2.2.2.2),
 IntKind.i64.wrap (s3.2.2.1+1),())))
 (bA aP (List.map aP.enc s3.1) fun (y9:List bC) =>
 X2
 (y9,
 (s3.2.1.1,s3.2.1.2.1,s3.2.1.2.2.1,s3.2.1.2.2.2.1,
 s3.2.1.2.2.2.2.1,s3.2.1.2.2.2.2.2),
 IntKind.i64.wrap (s3.2.2.1+1),()))))
 (aC (decide (s3.2.1.2.1=0))
 (R
 (T.bX
 [T.agg
 [T.v (.string { data:=#[] }),T.v (.int .i64 0),
 T.v (.int .i64 0),T.v (.int .i64 0),
 T.v (.int .i64 0),T.v (.int .i64 0)],
 T.v (.int .i64 17)]))
 (dY
 (aY.rows false
 [[D.p (T.v (.string { data:=#[] })),
 D.p (T.v (.int .i64 0)),
 D.p (T.v (.int .i64 0)),
 D.p (T.v (.int .i64 0)),
 D.p (T.v (.int .i64 0)),
 D.p (T.v (.int .i64 0))]])
 (aY.rows false
 [[D.p (T.v (.string { data:=#[] })),
 D.p (T.v (.int .i64 0)),
 D.p (T.v (.int .i64 0)),
 D.p (T.v (.int .i64 0)),
 D.p (T.v (.int .i64 0)),
 D.p (T.v (.int .i64 0))]])
 (bE (List Int×Int×PUnit×PUnit)
 (fun (X10:List Int×Int×PUnit×PUnit→Prop) (s11:List Int×Int×PUnit×PUnit) =>
 aC (decide (s11.2.1<(↑(List.map aP.enc s3.1).length:Int)))
 (aZ aP (List.map aP.enc s3.1) s11.2.1
 fun (y12:bC) =>
 oU aP (List.map aP.enc s3.1) (Int.toNat s11.2.1) 0
 fun (y13:bC) =>
 aH [(false,Sy.int IntKind.i64),(false,Sy.int IntKind.i64)]
 (nE [aB true aP y13,aB true aG a1])
 fun (y14:aI) =>
 aC (!decide (y14.2=0))
 (R
 (T.bX
 [T.agg
 [T.v (.string { data:=#[] }),
 T.v (.int .i64 0),
 T.v (.int .i64 0),
 T.v (.int .i64 0),
 T.v (.int .i64 0),
 T.v (.int .i64 0)],
 T.v (.int .i64 y14.2)]))
 (bS
 (decide
 (((List.map (Sy.int IntKind.i64).enc s11.1).length+1)*8 ≤
 140737488355328) &&
 decide
 ((List.map (Sy.int IntKind.i64).enc s11.1).length+1 ≤
 140737488355328))
 (bA (Sy.int IntKind.i64)
 (List.map (Sy.int IntKind.i64).enc s11.1 ++
 [[T.v (.int .i64 y14.1)]])
 fun (y15:List Int) =>
 dY
 (aY.rows false
 [[D.p (T.v (.string { data:=#[] })),
 D.p (T.v (.int .i64 0)),
 D.p (T.v (.int .i64 0)),
 D.p (T.v (.int .i64 0)),
 D.p (T.v (.int .i64 0)),
 D.p (T.v (.int .i64 0))]])
 (aY.rows false
 [[D.p (T.v (.string { data:=#[] })),
 D.p (T.v (.int .i64 0)),
 D.p (T.v (.int .i64 0)),
 D.p (T.v (.int .i64 0)),
 D.p (T.v (.int .i64 0)),
 D.p (T.v (.int .i64 0))]])
 (X10 (y15,IntKind.i64.wrap (s11.2.1+1),(),())))))
 (aH [(false,Sy.str.li)]
 (pQ [aB true aL a0,T.v (.string a2)])
 fun (y16:List ByteArray) =>
 bE (List Int×List Int×Int×PUnit)
 (fun (X17:List Int×List Int×Int×PUnit→Prop)
 (s18:List Int×List Int×Int×PUnit) =>
 aC (decide (s18.2.2.1<(↑(List.map Sy.str.enc y16).length:Int)))
 (aZ Sy.str (List.map Sy.str.enc y16) s18.2.2.1
 fun (y19:ByteArray) =>
 aH [(true,cR),(false,Sy.bool)]
 (nM [aB true aL a0,T.v (.string y19)])
 fun (y20:b8×Bool) =>
 aC (decide (y20.1.2.2.2.1=1))
 (bS
 (decide
 (((List.map (Sy.int IntKind.i64).enc s18.1).length+1)*8 ≤
 140737488355328) &&
 decide
 ((List.map (Sy.int IntKind.i64).enc s18.1).length+1 ≤
 140737488355328))
 (aC (decide (y20.1.2.2.2.1=2))
 (bS
 (decide
 (((List.map (Sy.int IntKind.i64).enc s18.2.1).length+1) *
 8 ≤
 140737488355328) &&
 decide
 ((List.map (Sy.int IntKind.i64).enc s18.2.1).length+1 ≤
 140737488355328))
 (bA (Sy.int IntKind.i64)
 (List.map (Sy.int IntKind.i64).enc s18.1 ++
 [[T.v (.int .i64 y20.1.2.2.2.2.1)]])
 fun (y21:List Int) =>
 bA (Sy.int IntKind.i64)
 (List.map (Sy.int IntKind.i64).enc s18.2.1 ++
 [[T.v
 (Value.int IntKind.i64 y20.1.2.2.2.2.1)]])
 fun (y22:List Int) =>
 X17 (y21,y22,IntKind.i64.wrap (s18.2.2.1+1),())))
 (bA (Sy.int IntKind.i64)
 (List.map (Sy.int IntKind.i64).enc s18.1 ++
 [[T.v (.int .i64 y20.1.2.2.2.2.1)]])
 fun (y23:List Int) =>
 bA (Sy.int IntKind.i64)
 (List.map (Sy.int IntKind.i64).enc s18.2.1)
 fun (y24:List Int) =>
 X17 (y23,y24,IntKind.i64.wrap (s18.2.2.1+1),()))))
 (aC (decide (y20.1.2.2.2.1=2))
 (bS
 (decide
 (((List.map (Sy.int IntKind.i64).enc s18.2.1).length+1) *
 8 ≤
 140737488355328) &&
 decide
 ((List.map (Sy.int IntKind.i64).enc s18.2.1).length+1 ≤
 140737488355328))
 (bA (Sy.int IntKind.i64)
 (List.map (Sy.int IntKind.i64).enc s18.1) fun (y25:List Int) =>
 bA (Sy.int IntKind.i64)
 (List.map (Sy.int IntKind.i64).enc s18.2.1 ++
 [[T.v (.int .i64 y20.1.2.2.2.2.1)]])
 fun (y26:List Int) =>
 X17 (y25,y26,IntKind.i64.wrap (s18.2.2.1+1),())))
 (bA (Sy.int IntKind.i64)
 (List.map (Sy.int IntKind.i64).enc s18.1) fun (y27:List Int) =>
 bA (Sy.int IntKind.i64)
 (List.map (Sy.int IntKind.i64).enc s18.2.1)
 fun (y28:List Int) =>
 X17 (y27,y28,IntKind.i64.wrap (s18.2.2.1+1),()))))
 (aH
 [(false,Sy.int IntKind.i64),(false,Sy.int IntKind.i64)]
 (mF
 [T.sl false (List.map (Sy.int IntKind.i64).enc s11.1)])
 fun (y29:aI) =>
 aH
 [(false,Sy.int IntKind.i64),(false,Sy.int IntKind.i64)]
 (mF
 [T.sl false (List.map (Sy.int IntKind.i64).enc s18.1)])
 fun (y30:aI) =>
 aH
 [(false,Sy.int IntKind.i64),(false,Sy.int IntKind.i64)]
 (mF
 [T.sl false (List.map (Sy.int IntKind.i64).enc s18.2.1)])
 fun (y31:aI) =>
 aC (!decide (y29.2=0))
 (R
 (T.bX
 [T.agg
 [T.v (.string { data:=#[] }),
 T.v (.int .i64 0),
 T.v (.int .i64 0),
 T.v (.int .i64 0),
 T.v (.int .i64 0),
 T.v (.int .i64 0)],
 T.v (.int .i64 21)]))
 (aC (!decide (y30.2=0))
 (R
 (T.bX
 [T.agg
 [T.v (.string { data:=#[] }),
 T.v (.int .i64 0),
 T.v (.int .i64 0),
 T.v (.int .i64 0),
 T.v (.int .i64 0),
 T.v (.int .i64 0)],
 T.v (.int .i64 21)]))
 (aC (!decide (y31.2=0))
 (R
 (T.bX
 [T.agg
 [T.v (.string { data:=#[] }),
 T.v (.int .i64 0),
 T.v (.int .i64 0),
 T.v (.int .i64 0),
 T.v (.int .i64 0),
 T.v (.int .i64 0)],
 T.v (.int .i64 21)]))
 (R
 (T.bX
 [T.agg
 [T.v (.string s3.2.1.1),
 T.v (.int .i64 s3.2.1.2.1),
 T.v (.int .i64 s3.2.1.2.2.1),
 T.v (.int .i64 y30.1),
 T.v (.int .i64 y31.1),
 T.v (.int .i64 y29.1)],
 T.v (.int .i64 0)]))))))
 ([],[],0,())))
 ([],0,(),())))))
 ([],(a2,0,0,0,0,0),0,())))
theorem ADV ( a0 a1 a2 R):bD aX Tryz.prog Q2 AHM 8 11 [aB true aL a0,aB true aG a1,aB false Sy.str a2] R=R0 a0 a1 a2 R:=by kernel_rfl
abbrev HL:Sh:=[(true,aL),(true,aG),(false,Sy.str)]
def szP (d:aQ):Bool:=d.2.2.1.all fun p=>U1 p.1&&U1 (lF p)
def qG (x:aQ×aM×ByteArray):Option T:=match okG x.1 x.2.1 x.2.2&&szP x.1 with
 | true=>some (Sh.enc NY (B9 x.1 x.2.1 x.2.2))
 | false=>none
noncomputable def uN:List T→Option (T):=gS HL qG
theorem AFO {a0 a1 a2}:uN [aB true aL a0,aB true aG a1,T.v (.string a2)]=qG (a0,a1,a2):=aT (s:=HL) rfl (a0,a1,a2) rfl
theorem ARL (h:∀ a0 a1 a2 r,qG (a0,a1,a2)=some r→bU HL (a0,a1,a2)→R0 a0 a1 a2 (fun y=>y=r)):aJ Tryz.prog 11 uN :=
 aN (E:=Q2) (Hs:=AHM) AJG aU aV (aK rfl) 8 ⟨_,_,Tryz.func11,rfl⟩ rfl fun x r h1 h2=>by
  obtain ⟨a0,a1,a2⟩:=x
  rw[show Sh.bI HL (a0,a1,a2)=[aB true aL a0,aB true aG a1,aB false Sy.str a2] from rfl,ADV]
  exact h a0 a1 a2 r h1 h2
theorem AXY {d:aQ} (h:szP d=true) {id:ByteArray}:U1 (found pB (partOf d id)).1.1=true∧U1 (lF (found pB (partOf d id)).1)=true:=by
 cases hp:partOf d id with
 | none=>exact ⟨rfl,rfl⟩
 | some p =>
  have:=List.all_eq_true.1 h p (List.mem_of_find?_eq_some hp)
  simpa [found] using this
theorem UU {l:List Int} (h:¬ (cC l).2=0):(cC l).2=21:=by
 unfold cC at h ⊢
 split
 ·rename_i hc;rw[if_pos hc] at h;exact absurd rfl h
 ·rfl
theorem APZ:aJ Tryz.prog 11 uN:=ARL fun d m node r h hb=>by
 clear hb
 have ok:(okG d m node&&szP d)=true:=by
  unfold qG at h
  split at h
  ·rename_i hc;exact hc
  ·cases h
 have e:Sh.enc NY (B9 d m node)=r:=by
  unfold qG at h
  rw[show (okG (d,m,node).1 (d,m,node).2.1 (d,m,node).2.2&&szP (d,m,node).1)=true from ok] at h
  exact Option.some.inj h
 subst e
 clear h
 simp only[okG,Bool.and_eq_true,decide_eq_true_eq] at ok
 obtain ⟨⟨⟨⟨hD,hL⟩,hSm⟩,hM,k1,k2,k3⟩,hSz⟩:=ok
 have hl:d.2.1.length≤100∧d.2.2.1.length≤100:=by
  simp only[sY,Bool.and_eq_true,decide_eq_true_eq] at hL;omega
 have is:∀ {p:jX} {b:Int},B9 d m node=(p,b)→T.bX [T.agg [T.v (.string p.1),T.v (.int .i64 p.2.1),T.v (.int .i64 p.2.2.1),T.v (.int .i64 p.2.2.2.1),T.v (.int .i64 p.2.2.2.2.1),T.v (.int .i64 p.2.2.2.2.2)],T.v (.int .i64 b)]=Sh.enc NY (B9 d m node):=fun h=>by rw[h];rfl
 unfold R0
 refine aD (s:=[(true,eZ),(false,.bool)]) (y:=found yA (fA d node)) (sP ..) ?_
 cases hn:fA d node with
 | none=>exact pU (fun _=>is (p:=cW) (by unfold B9;rw[hn])) fun h=>Bool.noConfusion h
 | some n =>
  refine pU (fun h=>Bool.noConfusion h) fun _=>?_
  refine rX (fun h=>is (p:=cW) (by unfold B9;rw[hn];exact if_pos h)) fun hk=>?_
  replace hk:n.2.1=2:=hk
  refine aD (s:=[(false,.li .str)]) (y:=eJ d node) ((S3 ..).trans (AS _ hD hL)) ?_
  have part_call:∀ {id:ByteArray} {K:bC×Bool→Prop},K (found pB (partOf d id))→aH [(true,aP),(false,Sy.bool)] (fK [aB true aL d,T.v (.string id)]) K:=fun h=>aD (s:=[(true,aP),(false,.bool)]) (sR ..) h
  have hpl:(eJ d node).length≤100:=by
   unfold eJ;rw[List.length_map];exact Nat.le_trans (List.length_filter_le ..) hl.2
  have hLl:(a8 d node).length=(eJ d node).length:=List.length_map ..
  refine aR (eJ d node).length (fun k s=>s=(jK ((a8 d node).take k),(node,((fQ 1 ((a8 d node).take k)).length:Int),((fQ 2 ((a8 d node).take k)).length:Int),0,0,0),(k:Int),())) rfl ?_
  rintro X k s hk2 rfl hX
  dsimp only
  refine bT (fun hlt=>?_) fun hge=>?_
  ·rw[List.length_map] at hlt
   have hlt:k<(eJ d node).length:=by omega
   have hlt':k<(a8 d node).length:=by omega
   rw[a7 (r:=.str) hlt]
   refine part_call ?_
   have hq:(a8 d node)[k]=(found pB (partOf d (eJ d node)[k])).1:=List.getElem_map (AIO d)
   have ht:=mS hlt'
   rw[hq] at ht
   generalize found pB (partOf d (eJ d node)[k])=y at ht
   obtain ⟨q,bq⟩:=y
   have h1:=@AB 1 ((a8 d node).take k)
   have h2:=@AB 2 ((a8 d node).take k)
   have h3:=@qJ ((a8 d node).take k)
   rw[List.length_take] at h1 h2 h3
   have hw:∀ {n:Nat},n≤1000→IntKind.i64.wrap ((n:Int)+1)=((n+1:Nat):Int):=fun h=>by rw[aO]<;>omega
   refine bT (fun c1=>?_) fun c1=>?_
   ·replace c1:a6 q=1:=c1
    refine ⟨pE (by omega) (by decide),bT (fun c2=>absurd (c1.symm.trans c2) (by decide)) fun _=>NK (r:=aP) rfl (q:=q) rfl (hX _ hlt ?_)⟩
    have c2:¬ a6 q=2:=by omega
    rw[ht,kW,eT,eT,if_pos (.inl c1),if_pos c1,if_neg c2,hw (by omega),hw (by omega)];rfl
   ·replace c1:¬ a6 q=1:=c1
    refine bT (fun c2=>?_) fun c2=>?_
    ·refine ⟨pE (by omega) (by decide),NK (r:=aP) rfl (q:=q) rfl (hX _ hlt ?_)⟩
     replace c2:a6 q=2:=c2
     rw[ht,kW,eT,eT,if_pos (.inr c2),if_neg c1,if_pos c2,hw (by omega),hw (by omega)];rfl
    ·replace c2:¬ a6 q=2:=c2
     refine DN (r:=aP) rfl (hX _ hlt ?_)
     have c3:¬ (a6 q=1∨a6 q=2):=by omega
     rw[ht,kW,eT,eT,if_neg c3,if_neg c1,if_neg c2,List.append_nil,hw (by omega)];rfl
  ·rw[List.length_map] at hge
   have:k=(eJ d node).length:=by omega
   subst this
   rw[←hLl,List.take_length]
   have hz:∀ {e:Int},B9 d m node=(cW,e)→T.bX [T.agg [T.v (.string ⟨#[]⟩),T.v (.int .i64 0),T.v (.int .i64 0),T.v (.int .i64 0),T.v (.int .i64 0),T.v (.int .i64 0)],T.v (.int .i64 e)]=Sh.enc NY (B9 d m node):=fun h=>is (p:=cW) h
   refine bT (fun h0=>hz (by unfold B9;rw[hn];dsimp only;rw[if_neg (by omega),if_pos h0])) fun h0=>?_
   replace h0:¬ ((fQ 1 (a8 d node)).length:Int)=0:=h0
   have w1:B9 d m node=if ¬ iX m (a8 d node)=0 then (cW,iX m (a8 d node)) else
     if ¬ (cC (dK 1 (bZ d node))).2=0 then (cW,(cC (dK 1 (bZ d node))).2) else if ¬ (cC (dK 2 (bZ d node))).2=0 then (cW,(cC (dK 2 (bZ d node))).2) else if ¬ (cC (gB m (a8 d node))).2=0 then (cW,(cC (gB m (a8 d node))).2) else
     ((node,((fQ 1 (a8 d node)).length:Int),((fQ 2 (a8 d node)).length:Int),(cC (dK 1 (bZ d node))).1,(cC (dK 2 (bZ d node))).1,(cC (gB m (a8 d node))).1),0):=by
    unfold B9;rw[hn];dsimp only;rw[if_neg (by omega),if_neg h0]
   have hsl:=@qJ (a8 d node)
   have hme:iX m (a8 d node)=eF (fun p=>(dS p m).2) (jK (a8 d node)):=rfl
   have hml:gB m (a8 d node)=(jK (a8 d node)).map fun p=>(dS p m).1:=rfl
   have hsz:∀ p∈jK (a8 d node),U1 p.1=true∧U1 (lF p)=true:=fun p hp=>by
    obtain ⟨id,_,rfl⟩:=List.mem_map.1 (show p∈(eJ d node).map (AIO d) from (List.mem_filter.1 hp).1)
    exact AXY hSz
   generalize hS:jK (a8 d node)=S at *
   rw[bY]
   refine aR S.length (fun k s=>s=((S.take k).map (fun p=>(dS p m).1),(k:Int),(),())∧eF (fun p=>(dS p m).2) (S.drop k)=iX m (a8 d node)) ⟨rfl,by rw[List.drop_zero,hme]⟩ ?_
   rintro Y j s hj ⟨rfl,hfe⟩ hY
   dsimp only
   refine bT (fun hlt=>?_) fun hge=>?_
   ·rw[List.length_map] at hlt
    have hlt:j<S.length:=by omega
    rw[a7 (r:=aP) hlt,show Int.toNat (j:Int)=j from rfl,p8 (r:=aP) hlt]
    obtain ⟨z1,z2⟩:=hsz _ (List.getElem_mem hlt)
    refine aD (s:=[(false,.int .i64),(false,.int .i64)]) (ZG hM z1 z2) ?_
    rw[List.drop_eq_getElem_cons hlt,eF] at hfe
    refine rX (fun hb=>hz ?_) fun hb=>?_
    ·rw[if_neg hb] at hfe
     rw[w1,←hfe,if_pos hb]
    ·replace hb:(dS S[j] m).2=0:=hb
     rw[if_pos hb] at hfe
     refine ⟨pE (by rw[List.length_map,List.length_take];omega) (by decide),NK (r:=.int .i64) rfl (q:=(dS S[j] m).1) rfl ?_⟩
     rw[bY]
     refine hY _ hlt ⟨?_,hfe⟩
     rw[mS hlt,List.map_append,show IntKind.i64.wrap ((j:Int)+1)=((j+1:Nat):Int) by rw[aO]<;>omega];rfl
   ·rw[List.length_map] at hge
    have:j=S.length:=by omega
    subst this
    rw[List.drop_length] at hfe
    have hfe:iX m (a8 d node)=0:=hfe.symm
    rw[List.take_length,←hml]
    rw[hfe] at w1
    replace w1:B9 d m node=if ¬ (cC (dK 1 (bZ d node))).2=0 then (cW,(cC (dK 1 (bZ d node))).2) else if ¬ (cC (dK 2 (bZ d node))).2=0 then (cW,(cC (dK 2 (bZ d node))).2) else if ¬ (cC (gB m (a8 d node))).2=0 then (cW,(cC (gB m (a8 d node))).2) else
     ((node,((fQ 1 (a8 d node)).length:Int),((fQ 2 (a8 d node)).length:Int),(cC (dK 1 (bZ d node))).1,(cC (dK 2 (bZ d node))).1,(cC (gB m (a8 d node))).1),0):=by rw[w1];exact if_neg (fun h=>h rfl)
    have err:¬ ((cC (dK 1 (bZ d node))).2=0∧(cC (dK 2 (bZ d node))).2=0∧(cC (gB m (a8 d node))).2=0)→B9 d m node=(cW,21):=fun h=>by
     rw[w1]
     by_cases a1:(cC (dK 1 (bZ d node))).2=0
     ·rw[if_neg (fun h'=>h' a1)]
      by_cases a2:(cC (dK 2 (bZ d node))).2=0
      ·rw[if_neg (fun h'=>h' a2)]
       have a3:¬ (cC (gB m (a8 d node))).2=0:=fun a3=>h ⟨a1,a2,a3⟩
       rw[if_pos a3,UU a3]
      ·rw[if_pos a2,UU a2]
     ·rw[if_pos a1,UU a1]
    refine aD (s:=[(false,.li .str)]) (y:=fN d (fP d node)) ((Z8 ..).trans (AS _ hD hL)) ?_
    have hgl:(bZ d node).length=(fN d (fP d node)).length:=List.length_map ..
    have seam_call:∀ {id:ByteArray} {K:b8×Bool→Prop},K (found tF (lY d id))→aH [(true,cR),(false,Sy.bool)] (nM [aB true aL d,T.v (.string id)]) K:=fun h=>aD (s:=[(true,cR),(false,.bool)]) (Z7 ..) h
    have sum_call:∀ {l:List Int} {K:Int×Int→Prop},nR l=true→K (cC l)→aH [(false,Sy.int IntKind.i64),(false,Sy.int IntKind.i64)] (mF [T.sl false (List.map (Sy.int IntKind.i64).enc l)]) K:=fun {l K} ho h=>aD (s:=AUZ) ((AFQ ..).trans (by unfold qI;rw[ho])) h
    have hgs:(fN d (fP d node)).length≤1000:=by unfold fN;rw[List.length_map];exact Nat.le_trans (List.length_filter_le ..) hSm
    refine aR (fN d (fP d node)).length (fun k s=>s=(dK 1 ((bZ d node).take k),dK 2 ((bZ d node).take k),(k:Int),())) rfl ?_
    rintro Z k s hk3 rfl hZ
    dsimp only
    refine bT (fun hlt=>?_) fun hge=>?_
    ·rw[List.length_map] at hlt
     have hlt:k<(fN d (fP d node)).length:=by omega
     have hlt':k<(bZ d node).length:=by omega
     rw[a7 (r:=.str) hlt]
     refine seam_call ?_
     have hq:(bZ d node)[k]=(found tF (lY d (fN d (fP d node))[k])).1:=List.getElem_map (ABI d)
     have ht:=mS hlt'
     rw[hq] at ht
     generalize found tF (lY d (fN d (fP d node))[k])=y at ht
     obtain ⟨q,bq⟩:=y
     have hw:IntKind.i64.wrap ((k:Int)+1)=((k+1:Nat):Int):=by rw[aO]<;>omega
     have r1:(dK 1 ((bZ d node).take k)).length≤1000:=Nat.le_trans sX (by rw[List.length_take];omega)
     have r2:(dK 2 ((bZ d node).take k)).length≤1000:=Nat.le_trans sX (by rw[List.length_take];omega)
     refine bT (fun c1=>?_) fun c1=>?_
     ·replace c1:q.2.2.2.1=1:=c1
      refine ⟨pE r1 (by decide),bT (fun h=>absurd (c1.symm.trans h) (by decide)) fun _=>?_⟩
      refine NK (r:=.int .i64) rfl (q:=q.2.2.2.2.1) rfl (DN (r:=.int .i64) rfl (hZ _ hlt ?_))
      have c2:¬ q.2.2.2.1=2:=by omega
      rw[ht,fZ,fZ,if_pos c1,if_neg c2,List.append_nil,hw]
     ·replace c1:¬ q.2.2.2.1=1:=c1
      refine bT (fun c2=>?_) fun c2=>?_
      ·replace c2:q.2.2.2.1=2:=c2
       refine ⟨pE r2 (by decide),DN (r:=.int .i64) rfl (NK (r:=.int .i64) rfl (q:=q.2.2.2.2.1) rfl (hZ _ hlt ?_))⟩
       rw[ht,fZ,fZ,if_neg c1,if_pos c2,List.append_nil,hw]
      ·replace c2:¬ q.2.2.2.1=2:=c2
       refine DN (r:=.int .i64) rfl (DN (r:=.int .i64) rfl (hZ _ hlt ?_))
       rw[ht,fZ,fZ,if_neg c1,if_neg c2,List.append_nil,List.append_nil,hw]
    ·rw[List.length_map] at hge
     have:k=(fN d (fP d node)).length:=by omega
     subst this
     rw[←hgl,List.take_length]
     refine sum_call k3 (sum_call k1 (sum_call k2 ?_))
     refine rX (fun h=>hz (err fun h'=>h h'.2.2)) fun h3=>?_
     refine rX (fun h=>hz (err fun h'=>h h'.1)) fun h1=>?_
     refine rX (fun h=>hz (err fun h'=>h h'.2.1)) fun h2=>?_
     exact is (p:=(node,((fQ 1 (a8 d node)).length:Int),((fQ 2 (a8 d node)).length:Int),(cC (dK 1 (bZ d node))).1,(cC (dK 2 (bZ d node))).1,(cC (gB m (a8 d node))).1)) (by rw[w1,if_neg (fun h'=>h' h1),if_neg (fun h'=>h' h2),if_neg (fun h'=>h' h3)])
end Go.Pv
namespace Go.Pv
open Go Go.Proofs
def YR (d:aQ) (n:Int):Bool:=decide ((d.2.1.length:Int)≤n)&&decide ((d.2.2.1.length:Int)≤n)&&decide ((d.2.2.2.1.length:Int)≤n)&&decide ((d.2.2.2.2.1.length:Int)≤n)&&decide ((d.2.2.2.2.2.length:Int)≤n)&&d.2.2.2.2.1.all fun k=>decide ((k.2.2.1.length:Int)≤n)&&decide ((k.2.2.2.2.length:Int)≤n)
def AG0 (x:aQ×Int):Option T:=some (Sh.enc r_b (YR x.1 x.2))
noncomputable def ANP:Env:=Env.of []
def AVE:FuncId→Hint:=fun f=>match f == 7 with|true=>⟨fun r=>match r == 4 with|true=>.inv [.val 5 false (.int .i64)]|false=>.none,fun _ _=>none,fun _=>none⟩|false=>aS
theorem ASP:aF Tryz.prog ANP:=aF.nil _
def AN5 (a0:aQ) (a1:Int) (R:T→Prop):Prop :=
 aC (decide (a1<(↑(List.map eZ.enc a0.2.1).length:Int))) (R (T.v (.bool false)))
 (aC (decide (a1<(↑(List.map aP.enc a0.2.2.1).length:Int)))
 (R (T.v (.bool false)))
 (aC (decide (a1<(↑(List.map cR.enc a0.2.2.2.1).length:Int)))
 (R (T.v (.bool false)))
 (aC (decide (a1<(↑(List.map j9.enc a0.2.2.2.2.1).length:Int)))
 (R (T.v (.bool false)))
 (aC (decide (a1<(↑(List.map AVZ.enc a0.2.2.2.2.2).length:Int)))
 (R (T.v (.bool false)))
 (bE (Int×PUnit)
 (fun (X0:Int×PUnit→Prop) (s1:Int×PUnit) =>
 aC (decide (s1.1<(↑(List.map j9.enc a0.2.2.2.2.1).length:Int)))
 (aZ j9 (List.map j9.enc a0.2.2.2.2.1) s1.1
 fun (y2:KA) =>
 aC (decide (a1<(↑(List.map Sy.str.enc y2.2.2.1).length:Int)))
 (R (T.v (.bool false)))
 (aZ j9 (List.map j9.enc a0.2.2.2.2.1) s1.1
 fun (y3:KA) =>
 aC (decide (a1<(↑(List.map Sy.str.enc y3.2.2.2.2).length:Int)))
 (R (T.v (.bool false))) (X0 (IntKind.i64.wrap (s1.1+1),()))))
 (R (T.v (.bool true))))
 (0,()))))))
theorem AN6 ( a0 a1 R):bD aX Tryz.prog ANP AVE 8 7 [aB true aL a0,aB false (Sy.int IntKind.i64) a1] R=AN5 a0 a1 R:=by kernel_rfl
abbrev AIS:Sh:=[(true,aL),(false,(Sy.int IntKind.i64))]
noncomputable def PD:List T→Option (T):=gS AIS AG0
theorem AP3 {a0 a1}:PD [aB true aL a0,T.v (.int .i64 a1)]=AG0 (a0,a1):=aT (s:=AIS) rfl (a0,a1) rfl
theorem AXG (h:∀ a0 a1 r,AG0 (a0,a1)=some r→bU AIS (a0,a1)→AN5 a0 a1 (fun y=>y=r)):aJ Tryz.prog 7 PD :=
 aN (E:=ANP) (Hs:=AVE) ASP aU aV (aK rfl) 8 ⟨_,_,Tryz.func7,rfl⟩ rfl fun x r h1 h2=>by
  obtain ⟨a0,a1⟩:=x
  rw[show Sh.bI AIS (a0,a1)=[aB true aL a0,aB false (Sy.int IntKind.i64) a1] from rfl,AN6]
  exact h a0 a1 r h1 h2
theorem rA {n:Int} {m:Nat} {A B:Prop} (h1:¬ (m:Int)≤n→A) (h2:(m:Int)≤n→B):aC (decide (n<(m:Int))) A B:=by
 by_cases h:(m:Int)≤n
 ·exact b7 (by omega) (h2 h)
 ·exact bR (by omega) (h1 h)
theorem AOS {α:Type} {p:α→Bool} {l:List α} {k:Nat} (h:k<l.length):(l.drop k).all p=(p l[k]&&(l.drop (k+1)).all p):=by rw[List.drop_eq_getElem_cons h,List.all_cons]
theorem AWS:aJ Tryz.prog 7 PD:=AXG fun d n r h hb=>by
 cases h
 have hl:d.2.2.2.2.1.length≤2 ^ 47:=hb.1.2.2.2.2.1.1
 have no:YR d n=false→T.v (.bool false)=Sh.enc r_b (YR d n):=fun h=>by rw[h];rfl
 unfold AN5
 simp only[List.length_map]
 refine rA (fun h=>no (by simp[YR,h])) fun g1=>?_
 refine rA (fun h=>no (by simp[YR,h])) fun g2=>?_
 refine rA (fun h=>no (by simp[YR,h])) fun g3=>?_
 refine rA (fun h=>no (by simp[YR,h])) fun g4=>?_
 refine rA (fun h=>no (by simp[YR,h])) fun g5=>?_
 refine aR d.2.2.2.2.1.length (fun k s=>s=((k:Int),())∧YR d n=(d.2.2.2.2.1.drop k).all fun k=>decide ((k.2.2.1.length:Int)≤n)&&decide ((k.2.2.2.2.length:Int)≤n)) ⟨rfl,by simp only[YR,g1,g2,g3,g4,g5,decide_true,Bool.true_and,List.drop_zero]⟩ ?_
 rintro X k s hk ⟨rfl,he⟩ hX
 dsimp only
 by_cases hlt:k<d.2.2.2.2.1.length
 ·rw[AOS hlt] at he
  refine bR (by simp[hlt]) ?_
  rw[a7 (r:=j9) hlt]
  try simp only[List.length_map]
  refine rA (fun h=>no (by rw[he];simp[h])) fun g6=>?_
  try rw[a7 (r:=j9) hlt]
  try simp only[List.length_map]
  refine rA (fun h=>no (by rw[he];simp[h])) fun g7=>?_
  refine hX _ hlt ⟨by rw[show IntKind.i64.wrap ((k:Int)+1)=((k+1:Nat):Int) from aO _ (by omega) (by omega)],?_⟩
  rw[he]
  simp only[g6,g7,decide_true,Bool.true_and]
 ·have:k=d.2.2.2.2.1.length:=by omega
  subst this
  refine b7 (by simp) ?_
  rw[he];simp only[List.drop_length,List.all_nil];rfl
end Go.Pv
namespace Go.Pv
open Go Go.Proofs
theorem G4 {a b A B:Int} (h1:0≤a∧a≤A) (h2:0≤b∧b≤B):0≤a*b∧a*b≤A*B:=⟨Int.mul_nonneg h1.1 h2.1,Int.mul_le_mul h1.2 h2.2 h2.1 (Int.le_trans h1.1 h1.2)⟩
theorem AHV {x n B:Int} (hn:0<n) (h:0≤x∧x≤n*B):0≤x.tdiv n∧x.tdiv n≤B:=by
 rw[Int.tdiv_eq_ediv_of_nonneg h.1]
 exact ⟨Int.ediv_nonneg h.1 (Int.le_of_lt hn),Int.ediv_le_of_le_mul hn (by rw[Int.mul_comm];exact h.2)⟩
theorem AT6 {p:bC} {m:aM} (h:dX p m=0):0≤(dS p m).1∧(dS p m).1≤2199023255552:=by
 have w:dS p m=(kC p m,0):=by unfold dS;rw[if_pos h]
 rw[w]
 show 0≤kC p m∧kC p m≤2199023255552
 have e:kC p m=kC p m:=rfl
 unfold dX at h
 by_cases c1:oD p.1=false∨oD (lF p)=false
 ·rw[if_pos c1] at h;cases h
 rw[if_neg c1] at h
 by_cases c2:¬ (1≤p.2.1∧p.2.1≤1000)
 ·rw[if_pos c2] at h;cases h
 rw[if_neg c2] at h
 by_cases c3:¬ (a6 p=1∨a6 p=2∨a6 p=3∨a6 p=4)
 ·rw[if_pos c3] at h;cases h
 rw[if_neg c3] at h
 by_cases c4:fT p=true
 ·rw[if_pos c4] at h;cases h
 rw[if_neg c4] at h
 by_cases c5:cQ p m=false
 ·rw[if_pos c5] at h;cases h
 rw[if_neg c5] at h
 have c5:cQ p m=true:=by cases hc:cQ p m with
  | true=>rfl
  | false=>exact absurd hc c5
 by_cases c6:a6 p=1∧¬ fE (cV p)=0
 ·rw[if_pos c6] at h;exact absurd h c6.2
 rw[if_neg c6] at h
 by_cases c7:(a6 p=2∨a6 p=3)∧¬ (1≤jA p∧jA p≤32768)
 ·rw[if_pos c7] at h;cases h
 rw[if_neg c7] at h
 by_cases c8:a6 p=4∧¬ (1≤fV p∧fV p≤1099511627776∧gF (mV p)=true)
 ·rw[if_pos c8] at h;cases h
 clear h w
 have k:a6 p=1∨a6 p=2∨a6 p=3∨a6 p=4:=Classical.not_not.1 c3
 clear c1 c2 c3 c4
 by_cases k4:a6 p=4
 ·have hb:=Classical.not_and_iff_not_or_not.1 c8
  have hm:1≤fV p∧fV p≤1099511627776∧gF (mV p)=true:=hb.elim (fun h=>absurd k4 h) Classical.not_not.1
  unfold kC
  rw[if_neg (by omega),if_neg (by omega)]
  omega
 unfold cQ at c5
 rw[if_neg k4] at c5
 cases hg:cA m (cY p) with
 | none=>rw[hg] at c5;cases c5
 | some g =>
  rw[hg] at c5
  dsimp only at c5
  simp only[Bool.and_eq_true,decide_eq_true_eq] at c5
  obtain ⟨⟨d1,d2⟩,c5⟩:=c5
  have eg:D6 m (cY p)=g:=by unfold D6;rw[hg];rfl
  by_cases k1:a6 p=1
  ·rw[if_pos k1] at c5
   simp only[Bool.and_eq_true,decide_eq_true_eq] at c5
   have t:=G4 (A:=618475290624) (B:=120) ⟨AU5 (cV p),(AU4 (cV p)).2⟩ (show 0≤eO p∧eO p≤120 by omega)
   have t2:=G4 (B:=20000) t (show 0≤g.2.1∧g.2.1≤20000 by omega)
   unfold kC
   rw[if_pos k1,eg,aO (nY (cV p)*eO p) (by omega) (by omega),aO (nY (cV p)*eO p*g.2.1) (by omega) (by omega)]
   have v:=AHV (x:=nY (cV p)*eO p*g.2.1) (n:=2000000) (B:=742170348749) (by omega) (by omega)
   rw[aO _ (by omega) (by omega)]
   omega
  ·rw[if_neg k1] at c5
   unfold GJ at c5
   cases hs:l8 m (wW p) with
   | none=>rw[hs] at c5;cases c5
   | some s =>
    rw[hs] at c5
    dsimp only at c5
    simp only[Bool.and_eq_true,decide_eq_true_eq] at c5
    have es:AR4 m (wW p)=s:=by unfold AR4;rw[hs];rfl
    have k23:a6 p=2∨a6 p=3:=by omega
    have hl:1≤jA p∧jA p≤32768:=Classical.byContradiction fun hc=>c7 ⟨k23,hc⟩
    have t:=G4 (A:=1000000) (B:=32768) (show 0≤s.2.1∧s.2.1≤1000000 by omega) (show 0≤jA p∧jA p≤32768 by omega)
    have t2:=G4 (B:=20000) t (show 0≤g.2.1∧g.2.1≤20000 by omega)
    unfold kC
    rw[if_neg k1,if_pos k23,eg,es,aO (s.2.1*jA p) (by omega) (by omega),aO (s.2.1*jA p*g.2.1) (by omega) (by omega)]
    have v:=AHV (x:=s.2.1*jA p*g.2.1) (n:=1000000) (B:=655360000) (by omega) (by omega)
    rw[aO _ (by omega) (by omega)]
    omega
end Go.Pv
namespace Go.Pv
open Go Go.Proofs Go.RowKit
theorem AJ7:ABX Tryz.prog 79 1 8:=⟨fun R=>by kernel_rfl,fun fl R=>by kernel_rfl,fun fl a rows R=>by kernel_rfl⟩
noncomputable def LG:List T→Option (List (List T)):=gS [(false,.li (.int .i64))] (iD (.int .i64) 8)
theorem Y9 {u0}:LG [T.sl false (List.map (Sy.enc (.int .i64)) u0)]=iD (.int .i64) 8 u0:=aT (s:=[(false,.li (.int .i64))]) rfl u0 rfl
theorem O3:kY Tryz.prog 79 LG:=OR aU aV ⟨_,_,Tryz.func79,rfl⟩ AJ7
def AS5:List (List T)→Option (List Int)
 | []=>some []
 | [.v (.int .i64 n)]::l=>(AS5 l).map fun u=>n::u
 | _=>none
theorem KR:∀ {rows:List (List T)} {u:List Int},AS5 rows=some u→rows=List.map (Sy.enc (.int .i64)) u
 | [],u,h=>by cases h;rfl
 | r::l,u,h=>by
  unfold AS5 at h
  split at h
  ·rename_i h1;cases h1
  ·rename_i n l' h1
   cases h1
   simp only[Option.map_eq_some_iff] at h
   obtain ⟨u',hu,rfl⟩:=h
   rw[KR hu];rfl
  ·cases h
theorem AXW {w:World} {own:Nat→Prop} {f:Bool} {rows:List (List T)} {v:Value} (h:cG w own (.sl f rows) v):cG w own (.sl false rows) v:=by
 cases h with
 | cK _ a cap h1 h2=>exact .cK false a cap (fun h=>by cases h) h2
 | sl _ rows sz bL off cap f h1 h2 h3 h4 h45 h5 h6 h7 h8=>exact .sl false rows sz bL off cap f h1 h2 (fun h=>by cases h) h4 h45 h5 h6 h7 h8
def ATU:List T→Option (List (List T))
 | [.sl f (r::rows)]=>match AS5 (r::rows) with
  | some u=>iD (.int .i64) 8 u
  | none=>none
 | [.v (.slice none 0 0)]=>some []
 | _=>none
theorem AWR:J3 Tryz.prog 79 ATU:=⟨O3.entry,fun w own args vs rows hG ho ha hg=>by
 unfold ATU at hg
 split at hg
 ·rename_i f r0 rows'
  split at hg
  ·rename_i u hu
   have h1:cL (cG w own) [T.sl false (r0::rows')] vs:=⟨ha.1,fun i hi=>by
    have hi':i=0:=by simpa using hi
    subst hi'
    have:=ha.2 0 (by simp)
    simp only[List.getElem_cons_zero] at this ⊢
    exact AXW this⟩
   have h2:LG [T.sl false (r0::rows')]=some rows:=by
    rw[KR hu,Y9]
    exact hg
   have hne:rows≠[]:=by
    have he:=KR hu
    unfold iD at hg
    split at hg
    ·cases hg
     rw[←he];simp
    ·cases hg
   refine (O3.calls w own _ vs rows hG ho h1 h2).mono ?_
   rintro e w' ⟨v,rfl,h3,_,h5⟩
   exact ⟨v,rfl,h3,fun h=>absurd h hne,h5⟩
  ·cases hg
 ·cases hg
  have hv:vs = #[.slice none 0 0]:=by
   have e0:=ha.2 0 (by simp)
   have hs:vs.size=1:=ha.1
   obtain ⟨l⟩:=vs
   match l,hs with
   | [a],_ =>
    simp at e0
    cases e0;rfl
  subst hv
  refine (Any.slices_Clone_int_nil Tryz.AQI 0 0 w).mono ?_
  rintro e w' ⟨rfl,rfl⟩
  exact ⟨_,rfl,Below.refl _ _,fun _=>.cK true none 0 (fun _=>rfl) (fun _=>rfl),fun h=>absurd rfl h⟩
 ·cases hg⟩
end Go.Pv
namespace Go.Pv
open Go Go.Proofs
def AWW:FuncId→Bool:=fun f=>[118,153,175,53,54,77].contains f
noncomputable def ATZ:Env:=Env.of [(142,.pure D1),(69,.ext D0),(79,.sL ATU),(1000000000+23,.mark),(1000000000+53,.mark),(2000000000,.mark)]
def AY1:List T→Option T:=fun args=>match args with | []=>some (.v (.bool true))|_=>none
def kE:List T→Option T:=AY1
theorem AEQ:aJ Tryz.prog 9 kE :=
 AKU (by kernel_rfl) (by kernel_rfl) 400 AWW (B:=ATZ) (aF.cons (x:=.pure D1) LB (aF.cons (x:=.ext D0) YU (aF.cons (x:=.sL ATU) AWR (aF.cons (x:=.mark) trivial (aF.cons (x:=.mark) trivial (aF.cons (x:=.mark) trivial (aF.nil _))))))) 60 (by kernel_rfl)
end Go.Pv
namespace Go.Pv
open Go Go.Proofs
noncomputable def H0:Env:=Env.of [(7,.pure PD),(8,.pure uH),(10,.pure PE),(11,.pure uN),(9,.pure kE)]
def WU:FuncId→Hint:=fun _=>aS
theorem ACF:aF Tryz.prog H0:=aF.cons (x:=.pure PD) AWS (aF.cons (x:=.pure uH) APQ (aF.cons (x:=.pure PE) AWT (aF.cons (x:=.pure uN) APZ (aF.cons (x:=.pure kE) AEQ (aF.nil _)))))
def I6 (a0:aQ) (a1:aM) (a2:ByteArray) (R:T→Prop):Prop :=
 aH [(false,Sy.bool)]
 (PD [aB true aL a0,T.v (.int .i64 40)]) fun (y0:Bool) =>
 aC (!y0)
 (aH [(false,Sy.bool)] (kE []) fun (y1:Bool)=>R (T.v (.bool y1)))
 (aH [(false,Sy.bool)] (uH [aB true aG a1]) fun (y2:Bool) =>
 aC (!y2)
 (aH [(false,Sy.bool)] (kE []) fun (y3:Bool)=>R (T.v (.bool y3)))
 (aH [(true,M7),(false,Sy.int IntKind.i64)]
 (PE
 [aB true aL a0,aB true aG a1,T.v (.string a2)])
 fun (y4:jX×Int) =>
 aH [(true,M7),(false,Sy.int IntKind.i64)]
 (uN
 [aB true aL a0,aB true aG a1,T.v (.string a2)])
 fun (y5:jX×Int) =>
 aC
 (decide (y4.1.1=y5.1.1) &&
 (decide (y4.1.2.1=y5.1.2.1) &&
 (decide (y4.1.2.2.1=y5.1.2.2.1) &&
 (decide (y4.1.2.2.2.1=y5.1.2.2.2.1) &&
 (decide (y4.1.2.2.2.2.1=y5.1.2.2.2.2.1) &&
 (decide (y4.1.2.2.2.2.2=y5.1.2.2.2.2.2)&&true))))))
 (aC (decide (y4.2=y5.2))
 (aH [(false,Sy.bool)] (kE []) fun (y6:Bool) =>
 R (T.v (.bool y6)))
 (R (T.v (.bool false))))
 (R (T.v (.bool false)))))
theorem VR ( a0 a1 a2 R):bD aX Tryz.prog H0 WU 8 3 [aB true aL a0,aB true aG a1,aB false Sy.str a2] R=I6 a0 a1 a2 R:=by kernel_rfl
abbrev tL:Sh:=[(true,aL),(true,aG),(false,Sy.str)]
def AA3 (d:aQ) (m:aM) (node:ByteArray):Bool:=okG d m node&&szP d
def kT (x:aQ×aM×ByteArray):Option T:=match YR x.1 40&&nA x.2.1 with
 | true=>(match AA3 x.1 x.2.1 x.2.2 with
  | true=>some (.v (.bool true))
  | false=>none)
 | false=>some (.v (.bool true))
noncomputable def ZD:List T→Option (T):=gS tL kT
theorem AL3 (h:∀ a0 a1 a2 r,kT (a0,a1,a2)=some r→bU tL (a0,a1,a2)→I6 a0 a1 a2 (fun y=>y=r)):aJ Tryz.prog 3 ZD :=
 aN (E:=H0) (Hs:=WU) ACF aU aV (aK rfl) 8 ⟨_,_,Tryz.func3,rfl⟩ rfl fun x r h1 h2=>by
  obtain ⟨a0,a1,a2⟩:=x
  rw[show Sh.bI tL (a0,a1,a2)=[aB true aL a0,aB true aG a1,aB false Sy.str a2] from rfl,VR]
  exact h a0 a1 a2 r h1 h2
theorem AGP (p:jX):(decide (p.1=p.1)&&(decide (p.2.1=p.2.1)&&(decide (p.2.2.1=p.2.2.1)&&(decide (p.2.2.2.1=p.2.2.2.1)&&(decide (p.2.2.2.2.1=p.2.2.2.2.1)&&(decide (p.2.2.2.2.2=p.2.2.2.2.2)&&true))))))=true:=by simp
theorem AKO:aJ Tryz.prog 3 ZD:=AL3 fun d m node r h hb=>by
 clear hb
 have alive:∀ {K:Bool→Prop},K true→aH [(false,Sy.bool)] (kE []) K:=fun h=>aD (s:=GW) (y:=true) rfl h
 have hr:r=T.v (.bool true):=by
  unfold kT at h
  split at h
  ·split at h
   ·exact (Option.some.inj h).symm
   ·cases h
  ·exact (Option.some.inj h).symm
 subst hr
 unfold I6
 refine aD (s:=GW) (y:=YR d 40) (AP3 ..) ?_
 refine pU (fun _=>alive rfl) fun hf=>?_
 refine aD (s:=GW) (y:=nA m) (AFE ..) ?_
 refine pU (fun _=>alive rfl) fun hm=>?_
 have ok:AA3 d m node=true:=by
  unfold kT at h
  rw[show (YR (d,m,node).1 40&&nA (d,m,node).2.1)=true by rw[show YR (d,m,node).1 40=true from hf,show nA (d,m,node).2.1=true from hm];rfl] at h
  dsimp only at h
  split at h
  ·assumption
  ·cases h
 clear h
 have ok1:okG d m node=true:=by
  unfold AA3 at ok
  rw[Bool.and_eq_true] at ok
  exact ok.1
 refine aD (s:=NY) (y:=B9 d m node) ((AP4 ..).trans (by unfold E1;rw[show okG (d,m,node).1 (d,m,node).2.1 (d,m,node).2.2=true from ok1])) ?_
 refine aD (s:=NY) (y:=B9 d m node) ((AFO ..).trans (by unfold qG;rw[show (okG (d,m,node).1 (d,m,node).2.1 (d,m,node).2.2&&szP (d,m,node).1)=true from ok])) ?_
 refine vR (fun _=>bT (fun _=>alive rfl) fun h=>absurd rfl h) fun h=>?_
 rw[AGP] at h;cases h
theorem ATY {B:Nat} {n:Int} (h:wU B (.int .i64) n):-9223372036854775808≤n∧n≤9223372036854775807:=by
 have h:(Lit.int .i64 n).wf=true:=h
 have e1:IntKind.i64.min = -9223372036854775808:=by decide
 have e2:IntKind.i64.max=9223372036854775807:=by decide
 simp only[Lit.wf,Bool.and_eq_true,decide_eq_true_eq] at h
 rw[e1,e2] at h
 exact h
theorem AUQ {d:aQ} (h:wU (2 ^ 40) aL d):okD d=true:=by
 refine List.all_eq_true.2 fun p hp=>?_
 obtain ⟨_,_,⟨_,_,h3⟩,_⟩:=h
 have h4:=h3 p hp
 obtain ⟨_,_,_,_,_,_,⟨⟨h5,h6,_⟩,h7,h8,h9⟩,_⟩:=h4
 unfold TV TW GF
 simp only[Bool.and_eq_true,decide_eq_true_eq,List.all_eq_true]
 have up:∀ {n:Nat},n≤2 ^ 40→n≤140737488355328:=fun h=>by omega
 refine ⟨⟨⟨?_,?_⟩,?_,?_⟩,fun q hq=>?_⟩
 ·exact up h5
 ·exact up h6
 ·exact up h7
 ·exact up h8
 ·obtain ⟨g1,g2,_⟩:=h9 q hq
  exact ⟨up g1,up g2⟩
theorem AXZ {d:aQ} (h:wU (2 ^ 40) aL d):szP d=true:=by
 obtain ⟨_,_,⟨_,_,hp⟩,_⟩:=h
 refine List.all_eq_true.2 fun p hm=>?_
 obtain ⟨a,_,_,b,_⟩:=hp p hm
 simp only[U1,Bool.and_eq_true,decide_eq_true_eq]
 exact ⟨a,b⟩
theorem AUS {m:aM} (h:nA m=true):CA m=true:=by
 simp only[nA,Bool.and_eq_true,decide_eq_true_eq] at h
 obtain ⟨h1,_,h3,h4⟩:=h
 rw[List.take_of_length_le (by omega)] at h1
 simp only[CA,Bool.and_eq_true,decide_eq_true_eq,List.all_eq_true]
 refine ⟨⟨by omega,by omega⟩,fun g hg=>?_⟩
 have:=List.all_eq_true.1 h1 g hg
 simp only[vZ,Bool.and_eq_true,decide_eq_true_eq] at this
 omega
theorem AA5 {l:List Int} (hl:l.length≤1000000) (h:∀ a∈l,-9223372036854775808≤a∧a≤9223372036854775807):nR l=true:=by
 unfold nR
 rw[decide_eq_true hl,Bool.true_and]
 refine List.all_eq_true.2 fun a ha=>?_
 have:=h a ha
 unfold AW3
 rw[decide_eq_true this.1,decide_eq_true this.2];rfl
theorem AM6:∀ x,XQ (2 ^ 40) tL x→kT x=some (.v (.bool true)):=by
 rintro ⟨d,m,node⟩ ⟨h,_,_⟩
 have h:wU (2 ^ 40) aL d:=h
 unfold kT
 cases hf:YR (d,m,node).1 40&&nA (d,m,node).2.1 with
 | false=>rfl
 | true =>
  rw[Bool.and_eq_true] at hf
  obtain ⟨hf,hm⟩:=hf
  have hf:YR d 40=true:=hf
  have hm:nA m=true:=hm
  have hl:d.2.1.length≤40∧d.2.2.1.length≤40∧d.2.2.2.1.length≤40:=by
   simp only[YR,Bool.and_eq_true,decide_eq_true_eq] at hf
   omega
  have hshop:(bZ d node).length≤40:=by
   unfold bZ fN
   rw[List.length_map,List.length_map]
   exact Nat.le_trans (List.length_filter_le ..) hl.2.2
  have hpart:(a8 d node).length≤40:=by
   unfold a8 eJ
   rw[List.length_map,List.length_map]
   exact Nat.le_trans (List.length_filter_le ..) hl.2.1
  have hsum:∀ k,nR (dK k (bZ d node))=true:=fun k=>by
   refine AA5 (Nat.le_trans sX (by omega)) fun a ha=>?_
   unfold dK at ha
   obtain ⟨s,hs,rfl⟩:=List.mem_map.1 ha
   obtain ⟨id,_,rfl⟩:=List.mem_map.1 (show s∈(fN d (fP d node)).map (ABI d) from (List.mem_filter.1 hs).1)
   unfold ABI
   cases hq:lY d id with
   | none=>exact ⟨by decide,by decide⟩
   | some s =>
    obtain ⟨_,_,_,⟨_,_,h3⟩,_⟩:=h
    obtain ⟨_,_,_,_,h5,_⟩:=h3 s (List.mem_of_find?_eq_some hq)
    exact ATY h5
  have hms:nR (gB m (a8 d node))=true:=by
   refine AA5 (by unfold gB;rw[List.length_map];exact Nat.le_trans qJ (by omega)) fun a ha=>?_
   unfold gB at ha
   obtain ⟨p,hp,rfl⟩:=List.mem_map.1 ha
   by_cases hz:dX p m=0
   ·have:=AT6 hz
    omega
   ·unfold dS;rw[if_neg hz];exact ⟨show -9223372036854775808≤(0:Int) by decide,show (0:Int)≤9223372036854775807 by decide⟩
  have ok:AA3 d m node=true:=by
   unfold AA3 okG
   rw[AUQ h,AXZ h,AUS hm,hsum 1,hsum 2,hms,decide_eq_true (show d.2.2.2.1.length≤1000 by omega)]
   have hlt:sY d 100=true:=by
    simp only[sY,Bool.and_eq_true,decide_eq_true_eq];omega
   rw[hlt];rfl
  dsimp only
  rw[ok]
end Go.Pv
