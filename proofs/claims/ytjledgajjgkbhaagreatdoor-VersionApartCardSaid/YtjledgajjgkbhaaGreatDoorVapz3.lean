/-
  Designs that an edit makes are not too large.
  Change orders, plain: an order has the effect of its beginning followed by the rest.
  change.Apply: an order, edit by edit.
  version's copies: they are what was copied.
  version's copies of designs, orders, catalogs.
  Histories, plain: what orders one after another make of a design; a history's versions.
  A history's readers: Latest, At, Since; what orders one after another make of a design.
  Catalogs that are not too large (without the rest of Pye).
  The examples of chapter 21, run by the kernel.
  VersionNobody: the law's function.
  What the laws of chapter 21 about histories go through.
  version's copies whose lists are own arrays; the law's copy; reading an order whose edits are an own array.
  VersionApart: a history shares no memory with what it was made of, with orders, or with what it returned.
-/
import Derived.Test.YtjledgajjgkbhaaGreatDoorVapz2
import Derived.Test.YtjledgajjgkbhaaGreatDoorVapz1
import Derived.Test.YtjledgajjgkbhaaGreatDoorVapkp
import Derived.Test.YtjledgajjgkbhaaGreatDoorVapkj
import Derived.Test.YtjledgajjgkbhaaGreatDoorVapky
import Derived.Test.YtjledgajjgkbhaaGreatDoorVapcb
import Derived.Test.YtjledgajjgkbhaaGreatDoorVapgs
import Derived.Test.YtjledgajjgkbhaaGreatDoorVapkz
set_option linter.defProp false
set_option linter.unusedSimpArgs false
set_option linter.unusedVariables false
set_option maxRecDepth 100000
namespace Go.Pv
open Go Go.Proofs
structure sR (b:Nat) (d:aC):Prop where
 n:d.2.1.length≤b
 p:d.2.2.1.length≤b
 s:d.2.2.2.1.length≤b
 k:d.2.2.2.2.1.length≤b
 r:d.2.2.2.2.2.length≤b
theorem BCM {e:aC} (hP:∀ q∈e.2.2.1,dR q=true) (hK:∀ q∈e.2.2.2.2.1,dJ q=true) (n:e.2.1.length≤1000) (p:e.2.2.1.length≤1000) (s:e.2.2.2.1.length≤1000) (k:e.2.2.2.2.1.length≤1000) (r:e.2.2.2.2.2.length≤1000):qY e=true:=by
 unfold qY DF BM
 rw[List.all_eq_true.2 hP,List.all_eq_true.2 hK,decide_eq_true n,decide_eq_true p,decide_eq_true s,decide_eq_true k,decide_eq_true r];rfl
theorem A4I {α:Type} {p:α→Bool} {f:α→α} {l:List α}:(atI p f l).length=l.length:=by unfold atI;exact List.length_modify ..
theorem VP {α:Type} {p:α→Bool} {f:α→α}:∀ {l:List α} {a:α},a∈atI p f l→a∈l∨∃ b∈l,a=f b
 | [],_,h=>by simp[atI] at h
 | z::l,a,h=>by
  unfold atI at h
  rw[List.findIdx_cons] at h
  cases hz:p z with
  | true =>
   rw[hz] at h
   rcases List.mem_cons.1 (show a∈f z::l from h) with e|h
   ·exact .inr ⟨z,List.mem_cons_self,e⟩
   ·exact .inl (List.mem_cons_of_mem _ h)
  | false =>
   rw[hz] at h
   rcases List.mem_cons.1 (show a∈z::atI p f l from h) with e|h
   ·exact .inl (e ▸ List.mem_cons_self)
   ·rcases VP h with h|⟨b,h,e⟩
    ·exact .inl (List.mem_cons_of_mem _ h)
    ·exact .inr ⟨b,List.mem_cons_of_mem _ h,e⟩
theorem AW5 {b:Nat} {d:aC} {x:aX} (h:sR b d):sR (b+1) (A0 d x):=by
 obtain ⟨ln,lp,ls,lk,lr⟩:=h
 have i1:∀ {α:Type} {f:α→α→Bool} {l:List α} {a:α},l.length≤b→(oX f l a).length≤b+1:=fun h=>by rw[AZO];omega
 have i2:∀ {α:Type} {f:α→Bool} {l:List α},l.length≤b→(mE f l).length≤b+1:=fun h=>Nat.le_trans AAW (by omega)
 have i3:∀ {α:Type} {l:List α},l.length≤b→l.length≤b+1:=fun h=>by omega
 have i4:∀ {α:Type} {p:α→Bool} {f:α→α} {l:List α},l.length≤b→(atI p f l).length≤b+1:=fun h=>by rw[A4I];omega
 unfold A0
 by_cases h1:x.1=1
 ·rw[if_pos h1];exact ⟨i1 ln,i3 lp,i3 ls,i3 lk,i3 lr⟩
 rw[if_neg h1]
 by_cases h2:x.1=2
 ·rw[if_pos h2];exact ⟨i2 ln,i3 lp,i3 ls,i3 lk,i3 lr⟩
 rw[if_neg h2]
 by_cases h3:x.1=3
 ·rw[if_pos h3];exact ⟨i3 ln,i1 lp,i3 ls,i3 lk,i3 lr⟩
 rw[if_neg h3]
 by_cases h4:x.1=4
 ·rw[if_pos h4];exact ⟨i3 ln,i2 lp,i3 ls,i3 lk,i3 lr⟩
 rw[if_neg h4]
 by_cases h5:x.1=5
 ·rw[if_pos h5];exact ⟨i3 ln,i4 lp,i3 ls,i3 lk,i3 lr⟩
 rw[if_neg h5]
 by_cases h6:x.1=6
 ·rw[if_pos h6];exact ⟨i3 ln,i4 lp,i3 ls,i3 lk,i3 lr⟩
 rw[if_neg h6]
 by_cases h7:x.1=7
 ·rw[if_pos h7];exact ⟨i3 ln,i3 lp,i1 ls,i3 lk,i3 lr⟩
 rw[if_neg h7]
 by_cases h8:x.1=8
 ·rw[if_pos h8];exact ⟨i3 ln,i3 lp,i2 ls,i3 lk,i3 lr⟩
 rw[if_neg h8]
 by_cases h9:x.1=9
 ·rw[if_pos h9];exact ⟨i3 ln,i3 lp,i3 ls,i1 lk,i3 lr⟩
 rw[if_neg h9]
 by_cases h10:x.1=10
 ·rw[if_pos h10];exact ⟨i3 ln,i3 lp,i3 ls,i2 lk,i3 lr⟩
 rw[if_neg h10]
 by_cases h11:x.1=11
 ·rw[if_pos h11];exact ⟨i3 ln,i3 lp,i3 ls,i3 lk,i1 lr⟩
 rw[if_neg h11]
 exact ⟨i3 ln,i3 lp,i3 ls,i3 lk,i2 lr⟩
theorem AW6 {d:aC} {x:aX} (hD:DF d=true) (hp:dR (dC x)=true):DF (A0 d x)=true:=by
 have a1:∀ q∈d.2.2.1,dR q=true:=fun q hq=>List.all_eq_true.1 hD q hq
 have mk:∀ {e:aC},(∀ q∈e.2.2.1,dR q=true)→DF e=true:=fun h=>List.all_eq_true.2 h
 unfold A0
 by_cases h1:x.1=1
 ·rw[if_pos h1];exact mk a1
 rw[if_neg h1]
 by_cases h2:x.1=2
 ·rw[if_pos h2];exact mk a1
 rw[if_neg h2]
 by_cases h3:x.1=3
 ·rw[if_pos h3];exact mk fun q hq=>(AC7.1 hq).elim (fun e=>by rw[e];exact hp) (a1 q)
 rw[if_neg h3]
 by_cases h4:x.1=4
 ·rw[if_pos h4];exact mk fun q hq=>a1 q (NL hq)
 rw[if_neg h4]
 by_cases h5:x.1=5
 ·rw[if_pos h5];exact mk fun q hq=>(VP hq).elim (a1 q) fun ⟨b,_,e⟩=>by rw[e];exact hp
 rw[if_neg h5]
 by_cases h6:x.1=6
 ·rw[if_pos h6];exact mk fun q hq=>(VP hq).elim (a1 q) fun ⟨b,hb,e⟩=>by rw[e];exact a1 b hb
 rw[if_neg h6]
 by_cases h7:x.1=7
 ·rw[if_pos h7];exact mk a1
 rw[if_neg h7]
 by_cases h8:x.1=8
 ·rw[if_pos h8];exact mk a1
 rw[if_neg h8]
 by_cases h9:x.1=9
 ·rw[if_pos h9];exact mk a1
 rw[if_neg h9]
 by_cases h10:x.1=10
 ·rw[if_pos h10];exact mk a1
 rw[if_neg h10]
 by_cases h11:x.1=11
 ·rw[if_pos h11];exact mk a1
 rw[if_neg h11]
 exact mk a1
theorem AW7 {d:aC} {x:aX} (hK:BM d=true) (hk:dJ (gC x)=true):BM (A0 d x)=true:=by
 have b1:∀ q∈d.2.2.2.2.1,dJ q=true:=fun q hq=>List.all_eq_true.1 hK q hq
 have mk:∀ {e:aC},(∀ q∈e.2.2.2.2.1,dJ q=true)→BM e=true:=fun h=>List.all_eq_true.2 h
 unfold A0
 by_cases h1:x.1=1
 ·rw[if_pos h1];exact mk b1
 rw[if_neg h1]
 by_cases h2:x.1=2
 ·rw[if_pos h2];exact mk b1
 rw[if_neg h2]
 by_cases h3:x.1=3
 ·rw[if_pos h3];exact mk b1
 rw[if_neg h3]
 by_cases h4:x.1=4
 ·rw[if_pos h4];exact mk b1
 rw[if_neg h4]
 by_cases h5:x.1=5
 ·rw[if_pos h5];exact mk b1
 rw[if_neg h5]
 by_cases h6:x.1=6
 ·rw[if_pos h6];exact mk b1
 rw[if_neg h6]
 by_cases h7:x.1=7
 ·rw[if_pos h7];exact mk b1
 rw[if_neg h7]
 by_cases h8:x.1=8
 ·rw[if_pos h8];exact mk b1
 rw[if_neg h8]
 by_cases h9:x.1=9
 ·rw[if_pos h9];exact mk fun q hq=>(AC7.1 hq).elim (fun e=>by rw[e];exact hk) (b1 q)
 rw[if_neg h9]
 by_cases h10:x.1=10
 ·rw[if_pos h10];exact mk fun q hq=>b1 q (NL hq)
 rw[if_neg h10]
 by_cases h11:x.1=11
 ·rw[if_pos h11];exact mk b1
 rw[if_neg h11]
 exact mk b1
theorem A6Z {d:aC} (hD:DF d=true) (hK:BM d=true) {b:Nat} (h:sR b d) (hb:b≤1000):qY d=true:=by
 obtain ⟨ln,lp,ls,lk,lr⟩:=h
 exact BCM (fun q hq=>List.all_eq_true.1 hD q hq) (fun q hq=>List.all_eq_true.1 hK q hq) (by omega) (by omega) (by omega) (by omega) (by omega)
theorem AWB {d:aC} {m:aH} {x:aX} (hc:qY d=true) (hp:dR (dC x)=true) (hk:dJ (gC x)=true):EG [aF true aB d,aF true aK m,aF true aM x]=some (Sh.enc [(true,aB),(false,.int .i64)] (cA d m x)):=by
 rw[AH0]
 unfold FX
 exact fJ (by unfold okX;rw[hc,hp,hk];rfl)
theorem ASF {p:bC} (h4:InS aJ p):dR p=true:=by
 obtain ⟨_,_,_,_,_,_,⟨⟨h5,h6,_⟩,h7,h8,h9⟩,_⟩:=h4
 unfold dR zN dB
 simp only[Bool.and_eq_true,decide_eq_true_eq,List.all_eq_true]
 refine ⟨⟨⟨?_,?_⟩,?_,?_⟩,fun q hq=>?_⟩
 ·exact h5
 ·exact h6
 ·exact h7
 ·exact h8
 ·obtain ⟨g1,g2,_⟩:=h9 q hq
  exact ⟨g1,g2⟩
theorem ASE {k:aV} (h:InS aE k):dJ k=true:=by
 obtain ⟨_,_,⟨h5,h6,_⟩,_,⟨h7,h8,_⟩⟩:=h
 unfold dJ dB
 simp only[Bool.and_eq_true,decide_eq_true_eq]
 exact ⟨⟨h5,h6⟩,h7,h8⟩
end Go.Pv
namespace Go.Pv
open Go Go.Proofs
noncomputable def iK (m:aH):aC→List aX→aC×Int
 | d,[]=>(d,0)
 | d,x::l=>if (cA d m x).2=0 then iK m (cA d m x).1 l else (kX,(cA d m x).2)
noncomputable def wZ (d:aC) (m:aH) (o:bT):aC×Int :=
 if vG o.1=false then (kX,6)
 else if (o.2.length:Int)=0 then (kX,3)
 else if 32<(o.2.length:Int) then (kX,4)
 else if ¬ mL d m=0 then (kX,mL d m)
 else iK m d o.2
theorem AAE {m:aH} {d:aC} {x:aX} {l:List aX} (h:(iK m d (x::l)).2=0):BDK d m x∧iK m d (x::l)=iK m (A0 d x) l:=by
 have e:iK m d (x::l)=if (cA d m x).2=0 then iK m (cA d m x).1 l else (kX,(cA d m x).2):=rfl
 by_cases hx:(cA d m x).2=0
 ·have hd:=ALK hx
  rw[if_pos hx,hd.eq] at e
  exact ⟨hd,e⟩
 ·rw[if_neg hx] at e
  rw[e] at h;exact absurd h hx
theorem ALH {m:aH} {d:aC} {o:bT} (h:(wZ d m o).2=0):mL d m=0∧wZ d m o=iK m d o.2:=by
 unfold wZ at h ⊢
 split at h
 ·cases h
 split at h
 ·cases h
 split at h
 ·cases h
 split at h
 ·rename_i hc;exact absurd h hc
 ·rename_i h1 h2 h3 h4
  exact ⟨Classical.byContradiction h4,by rw[if_neg h1,if_neg h2,if_neg h3,if_neg h4]⟩
theorem B3 {m:aH}:∀ {l:List aX} {b:Nat} {d:aC},sR b d→DF d=true→BM d=true→(∀ x∈l,dR (dC x)=true∧dJ (gC x)=true)→(iK m d l).2=0→sR (b+l.length) (iK m d l).1∧DF (iK m d l).1=true∧BM (iK m d l).1=true
 | [],b,d,h,hD,hK,_,_=>⟨h,hD,hK⟩
 | x::l,b,d,h,hD,hK,hE,h0=>by
  obtain ⟨hd,e⟩:=AAE h0
  rw[e] at h0 ⊢
  obtain ⟨hp,hq⟩:=hE x List.mem_cons_self
  have:=B3 (AW5 h) (AW6 hD hp) (AW7 hK hq) (fun y hy=>hE y (List.mem_cons_of_mem _ hy)) h0
  rw[List.length_cons,show b+(l.length+1)=b+1+l.length by omega]
  exact this
def okA (d:aC) (o:bT):Bool:=(DF d&&BM d)&&((decide (d.2.1.length≤900)&&decide (d.2.2.1.length≤900))&&(decide (d.2.2.2.1.length≤900)&&(decide (d.2.2.2.2.1.length≤900)&&decide (d.2.2.2.2.2.length≤900))))&&o.2.all fun x=>dR (dC x)&&dJ (gC x)
theorem BCL {d:aC} {o:bT} {b:Nat} (h:sR b d) (hb:b≤900) (hD:DF d=true) (hK:BM d=true) (hE:∀ x∈o.2,dR (dC x)=true∧dJ (gC x)=true):okA d o=true:=by
 obtain ⟨a1,a2,a3,a4,a5⟩:=h
 unfold okA
 simp only[Bool.and_eq_true,decide_eq_true_eq,List.all_eq_true]
 exact ⟨⟨⟨hD,hK⟩,⟨by omega,by omega⟩,by omega,by omega,by omega⟩,hE⟩
end Go.Pv
namespace Go.Pv
open Go Go.Proofs
noncomputable def A8U:Env:=Env.of [(1000000131,.mark),(94,.pure eQ),(20,.pure cM),(104,.pure EG)]
def A8Z:FuncId→Hint:=bX 67 [(12,.inv [.own 9 6 aB,.val 40 false (.int .i64)])] (fun _=>bI)
theorem ATT:aT Tryz.prog A8U:=.cons (x:=.mark) trivial (.cons EB (.cons jX (.cons AXI (.nil _))))
def BI1:Sh:=[(false,Sy.bool)]
def BI3:T:=aF true aB (cJ,[],[],[],[],[])
def BI6(a2:bT):List (List T):=List.map aM.enc a2.2
def BJM(s5:List aC×Int×PUnit):List (List T):=List.map aB.enc s5.1
def BJR(R:T→Prop):Prop:=aP aB [] (IntKind.i64.wrap ((↑0:Int)-1)) fun (y2:aC)=>R (T.bZ [aF true aB y2,T.v (.int .i64 0)])
def AF0(a0:aC)(a1:aH)(a2:bT)(R:T→Prop):Prop:=aI BI1 (eQ [T.v (.string a2.1)]) fun (y0:Bool)=>aD (!y0) (R (T.bZ [BI3, T.v (.int .i64 6)])) (aD (decide ((↑(BI6 a2).length:Int)=0)) (R (T.bZ [BI3, T.v (.int .i64 3)])) (aD (decide (32<(↑(BI6 a2).length:Int))) (R (T.bZ [BI3, T.v (.int .i64 4)])) (aI [(false,Sy.int IntKind.i64)] (cM [aF true aB a0,aF true aK a1]) fun (y1:Int)=>aD (!decide (y1=0)) (aD (!decide (y1=0)) (R (T.bZ [BI3, T.v (.int .i64 y1)])) (BJR R)) (cH aB [(aB.enc a0)] fun (y3:List aC)=>aZ (List aC×Int×PUnit) (fun X4 s5=>aD (decide (s5.2.1<(↑(BI6 a2).length:Int))) (aP aM (BI6 a2) s5.2.1 fun (y6:aX)=>aP aB (BJM s5) (IntKind.i64.wrap ((↑(BJM s5).length:Int)-1)) fun (y7:aC)=>fR aB (BJM s5) (IntKind.i64.wrap ((↑(BJM s5).length:Int)-1)).toNat 0 fun (y8:aC)=>aI [(true,aB),(false,Sy.int IntKind.i64)] (EG [aF true aB y8,aF true aK a1, aF true aM y6]) fun (y9:aC×Int)=>aD (!decide (y9.2=0)) (aD (!decide (y9.2=0)) (R (T.bZ [BI3, T.v (.int .i64 y9.2)])) (BJR R)) (bQ (decide (((BJM s5).length+1)*136≤140737488355328) && decide ((BJM s5).length+1≤140737488355328)) (cH aB (List.map aB.enc s5.1 ++ [(aB.enc y9.1)]) fun (y11:List aC)=>X4 (y11,IntKind.i64.wrap (s5.2.1+1),())))) (aP aB (BJM s5) (IntKind.i64.wrap ((↑(BJM s5).length:Int)-1)) fun (y12:aC)=>fR aB (BJM s5) (IntKind.i64.wrap ((↑(BJM s5).length:Int)-1)).toNat 0 fun (y13:aC)=>R (T.bZ [aF true aB y13,T.v (.int .i64 0)]))) (y3,0,())))))
abbrev AJT:Sh:=[(true,aB),(true,aK),(true,bA)]
noncomputable def FY (x:aC×aH×bT):Option T:=match okA x.1 x.2.2 with
 | true=>some (Sh.enc [(true,aB),(false,.int .i64)] (wZ x.1 x.2.1 x.2.2))
 | false=>none
noncomputable def CH:List T→Option T:=gS AJT FY
theorem AQP {a0 a1 a2}:CH [aF true aB a0,aF true aK a1,aF true bA a2]=FY (a0,a1,a2):=bE (s:=AJT) rfl (a0,a1,a2) rfl
theorem A6E:Of3 Tryz.prog 24 CH FY (cC AJT) AF0:=RE (a1:=(true,aB)) (a2:=(true,aK)) (a3:=(true,bA)) (sp:=FY) (F:=AF0) (Hs:=A8Z) (f:=24) (k:=8) ATT aQ aS (aL rfl) ⟨_,_,Tryz.func24,rfl⟩ rfl fun _ _ _ _=>by kernel_rfl
theorem A8N {r:Sy} {l:List r.den} {i:Int} {k:Nat} {y:r.den} {K:r.den→Prop} (hi:i=(k:Int)) (hy:l[k]? = some y) (hk:K y):aP r (List.map r.enc l) i K :=
 ⟨y,by omega,by rw[hi,Int.toNat_natCast];exact uQ.2 hy,hk⟩
theorem A1D {l:List aC} {i k:Nat} {y:aC} {K:aC→Prop} (hi:i=k) (hy:l[k]? = some y) (hk:K y):fR aB (List.map aB.enc l) i 0 K :=
 ⟨_,y,by rw[hi];exact (uQ (r:=aB)).2 hy,Nat.le_refl _,rfl,hk⟩
theorem A49:aN Tryz.prog 24 CH:=A6E fun d m o r h hb=>by
 clear hb
 obtain ⟨hc,rfl⟩:=sF h
 clear h
 unfold okA at hc
 simp only[Bool.and_eq_true,decide_eq_true_eq,List.all_eq_true] at hc
 obtain ⟨⟨⟨hD,hK⟩,⟨l1,l2⟩,l3,l4,l5⟩,hE⟩:=hc
 unfold AF0 BJR BJM BI6 BI3 BI1
 refine aG (s:=[(false,Sy.bool)]) (y:=vG o.1) (SS ..) ?_
 refine jS (fun hi=>?_) fun hi=>?_
 ·unfold wZ;rw[if_pos hi];rfl
 have hi:¬ vG o.1=false:=by rw[hi];decide
 have eO:(List.map aM.enc o.2).length=o.2.length:=List.length_map ..
 rw[eO]
 refine cF (fun h1=>?_) fun h1=>?_
 ·unfold wZ;rw[if_neg hi,if_pos h1];rfl
 refine cF (fun h2=>?_) fun h2=>?_
 ·unfold wZ;rw[if_neg hi,if_neg h1,if_pos h2];rfl
 refine aG (s:=[(false,.int .i64)]) (y:=mL d m) (nP ..) ?_
 have hA:wZ d m o=if ¬ mL d m=0 then (kX,mL d m) else iK m d o.2:=by
  unfold wZ;rw[if_neg hi,if_neg h1,if_neg h2]
 rw[hA]
 refine mA (fun h3=>?_) fun h3=>?_
 ·rw[if_pos h3]
  exact mA (fun _=>rfl) fun h=>absurd h h3
 rw[if_neg (fun h=>h h3)]
 clear hA
 refine cO (r:=aB) rfl (l:=[d]) rfl ?_
 refine bM o.2.length (fun k s=>∃ (L:List aC) (c:aC),s=(L,(k:Int),())∧L.length=k+1∧L[k]? = some c∧iK m d o.2=iK m c (o.2.drop k)∧sR (900+k) c∧DF c=true∧BM c=true) ⟨[d],d,rfl,rfl,rfl,by rw[List.drop_zero],⟨l1,l2,l3,l4,l5⟩,hD,hK⟩ ?_
 rintro X k s hk ⟨L,c,rfl,hL,hLk,hF,hN,hcD,hcK⟩ hX
 dsimp only
 have hw:IntKind.i64.wrap (((List.map aB.enc L).length:Int)-1)=(k:Int):=by
  rw[List.length_map,hL]
  exact (bH _ (by omega) (by omega)).trans (by omega)
 rw[hw]
 refine cF (fun hlt=>?_) fun hge=>?_
 ·have hlt:k<o.2.length:=by omega
  rw[bG (r:=aM) hlt]
  refine A8N (r:=aB) rfl hLk (A1D (Int.toNat_natCast k) hLk ?_)
  obtain ⟨hp,hq⟩:=hE _ (List.getElem_mem hlt)
  refine aG (s:=[(true,aB),(false,.int .i64)]) (y:=cA c m o.2[k]) (AWB (A6Z hcD hcK hN (by omega)) hp hq) ?_
  have hF2:iK m d o.2=if (cA c m o.2[k]).2=0 then iK m (cA c m o.2[k]).1 (o.2.drop (k+1)) else (kX,(cA c m o.2[k]).2):=by
   rw[hF,List.drop_eq_getElem_cons hlt];rfl
  refine mA (fun he=>?_) fun he=>?_
  ·refine mA (fun _=>?_) fun h=>absurd h he
   rw[hF2,if_neg he];rfl
  ·rw[if_pos he] at hF2
   have hd:=ALK he
   refine ⟨by rw[List.length_map,hL,Bool.and_eq_true];exact ⟨decide_eq_true (by omega),decide_eq_true (by omega)⟩,?_⟩
   refine cO (r:=aB) rfl (l:=L++[(cA c m o.2[k]).1]) (by rw[List.map_append];rfl) ?_
   refine hX _ hlt ⟨_,(cA c m o.2[k]).1,by rw[show IntKind.i64.wrap ((k:Int)+1)=((k+1:Nat):Int) from bH _ (by omega) (by omega)],by rw[List.length_append,hL];rfl,?_,hF2,?_,?_,?_⟩
   ·rw[List.getElem?_append_right (by omega),hL];simp
   ·rw[hd.eq];exact AW5 hN
   ·rw[hd.eq];exact AW6 hcD hp
   ·rw[hd.eq];exact AW7 hcK hq
 ·have hk2:o.2.drop k=[]:=List.drop_eq_nil_of_le (by omega)
  refine A8N (r:=aB) rfl hLk (A1D (Int.toNat_natCast k) hLk ?_)
  rw[hF,hk2];rfl
theorem APF {d:aC} {m:aH} {o:bT} (h:okA d o=true):CH [aF true aB d,aF true aK m,aF true bA o]=some (Sh.enc [(true,aB),(false,.int .i64)] (wZ d m o)):=by
 rw[AQP]
 unfold FY
 exact fJ h
end Go.Pv
namespace Go.Pv
open Go Go.Proofs
theorem AWM:LR Tryz.prog 56 4 40:=⟨fun R=>by kernel_rfl,fun fl R=>by kernel_rfl,fun fl a rows R=>by kernel_rfl⟩
noncomputable def KV:List T→Option T:=gS [(false,.li bD)] (dW bD 40)
theorem AH1 {u0}:KV [T.sl false (List.map (Sy.enc bD) u0)]=dW bD 40 u0:=bE (s:=[(false,.li bD)]) rfl u0 rfl
theorem AXJ:aN Tryz.prog 56 KV:=yY aQ aS ⟨_,_,Tryz.func56,rfl⟩ AWM
theorem IV {r:Sy} {b:Nat} {l:List r.den} (h:dB b l.length=true):dW r b l=some (.sl false (List.map r.enc l)):=by
 unfold dW;rw[iC h];rfl
def idK (b:Bool) (t:T):Option T:=match b with
 | true=>some t
 | false=>none
theorem j5 {b:Bool} {t r:T} (h:idK b t=some r):b=true∧r=t:=by
 cases b with
 | true=>cases h;exact ⟨rfl,rfl⟩
 | false=>cases h
theorem fM {b:Bool} (t:T) (h:b=true):idK b t=some t:=by rw[h];rfl
theorem w4 {r:Sy} (hr:r.pure=true) {l:List r.den} {b:Nat} {s:Sh} {G:List T→Option T} {A:r.den→List T} {W:Sh.den s→List (List T)} {Q:List r.den→Prop} {y0:r.den→Sh.den s}
  (hlen:dB b l.length=true) (hC:∀ y∈l,G (A y)=some (Sh.enc s (y0 y))) (hW:∀ y,∃ row,W (y0 y)=[row]∧row.map (T.canon 0)=r.enc y) (hQ:Q l) :
  aZ (Int×List r.den×PUnit) (fun (X:Int×List r.den×PUnit→Prop) (s2:Int×List r.den×PUnit)=>aD (decide (s2.1<((List.map r.enc l).length:Int)))
   (aP r (List.map r.enc l) s2.1 fun y=>aI s (G (A y)) fun z=>bQ (decide (((List.map r.enc s2.2.1).length+1)*b≤140737488355328)&&decide ((List.map r.enc s2.2.1).length+1≤140737488355328))
    (cH r (List.map r.enc s2.2.1++W z) fun q=>X (IntKind.i64.wrap (s2.1+1),q,()))) (Q s2.2.1)) (0,[],()):=by
 unfold dB at hlen
 rw[Bool.and_eq_true,decide_eq_true_eq,decide_eq_true_eq] at hlen
 refine bM l.length (fun k s=>s=((k:Int),l.take k,())) rfl ?_
 rintro X k s2 hk rfl hX
 dsimp only
 rw[List.length_map,List.length_map]
 by_cases hlt:k<l.length
 ·rw[show decide ((k:Int)<(l.length:Int))=true from decide_eq_true (by omega),jT,bG hlt]
  refine aG (y:=y0 l[k]) (hC _ (List.getElem_mem hlt)) ?_
  have h1:(k+1)*b≤l.length*b:=Nat.mul_le_mul_right b (by omega)
  refine ⟨by rw[List.length_take,Nat.min_eq_left (by omega),Bool.and_eq_true,decide_eq_true_eq,decide_eq_true_eq];omega,?_⟩
  obtain ⟨row,e1,e2⟩:=hW l[k]
  rw[e1,sV hr (l.take k) row l[k] e2]
  refine hX _ hlt ?_
  rw[show IntKind.i64.wrap ((k:Int)+1)=((k+1:Nat):Int) from bH _ (by omega) (by omega),List.take_add_one,List.getElem?_eq_getElem hlt];rfl
 ·have:k=l.length:=by omega
  subst this
  rw[show decide ((l.length:Int)<(l.length:Int))=false from decide_eq_false (by omega),mX,List.take_length]
  exact hQ
def rC (a0:List (List aO)):List T:=[T.sl false (List.map aA.li.enc a0),T.fn 101 [] []]
noncomputable def UH:Env:=Env.of [(101,.pure fH)]
def AK8:FuncId→Hint:=bX 102 [(3,.inv [.val 10 false (.int .i64),.own 5 1 (.li aA)])] (fun _=>bI)
theorem AOA:aT Tryz.prog UH:=.cons uW (.nil _)
def AK5(a0:List (List aO))(R:T→Prop):Prop:=aZ (Int×List (List aO)×PUnit) (fun X0 s1=>aD (decide (s1.1<(↑(List.map aA.li.enc a0).length:Int))) (aP aA.li (List.map aA.li.enc a0) s1.1 fun (y2:List aO)=>aI [(false,aA.li)] (fH [T.sl false (List.map aA.enc y2)]) fun (y3:List aO)=>bQ (decide (((List.map aA.li.enc s1.2.1).length+1)*24≤140737488355328) && decide ((List.map aA.li.enc s1.2.1).length+1≤140737488355328)) (cH aA.li (List.map aA.li.enc s1.2.1++[[T.sl false (List.map aA.enc y3)]]) fun (y4:List (List aO))=>X0 (IntKind.i64.wrap (s1.1+1),y4,()))) (R (T.sl false (List.map aA.li.enc s1.2.1)))) (0,[],())
theorem AF5 ( a0 R):dY bR Tryz.prog UH AK8 8 102 (rC a0) R=AK5 a0 R:=by kernel_rfl
def QF (x:List (List aO)):Option T:=idK (dB 24 x.length&&x.all fun h=>dB 16 h.length) (.sl false (List.map aA.li.enc x))
theorem Y4 (x y:List (List aO)) (h:rC x=rC y):x=y:=by
 unfold rC at h
 simp only[List.cons.injEq,T.sl.injEq,and_true,true_and] at h
 exact map_inj (Sy.dH aA.li) h
noncomputable def EL:List T→Option (T):=gA (fun (x:List (List aO))=>rC x) QF
theorem AH3 (a0:List (List aO)):EL (rC a0)=QF a0:=eN (A:=(fun (x:List (List aO))=>rC x)) Y4 a0
theorem A0P (h:∀ (a0:List (List aO)) (r:T),QF a0=some r→(∀ t∈rC a0,Bd t)→AK5 a0 (fun y=>y=r)):aN Tryz.prog 102 EL :=
 cK (E:=UH) (Hs:=AK8) AOA aQ aS (aL rfl) 8 ⟨_,_,Tryz.func102,rfl⟩ fun x r h1 h2=>by
  rw[AF5]
  exact h x r h1 h2
theorem AXL:aN Tryz.prog 102 EL:=A0P fun l r h hb=>by
 obtain ⟨h1,rfl⟩:=j5 h
 rw[Bool.and_eq_true,List.all_eq_true] at h1
 exact w4 (r:=aA.li) rfl (b:=24) (s:=[(false,aA.li)]) (G:=fH) (A:=fun y=>[T.sl false (List.map aA.enc y)]) (W:=fun z=>[aA.li.enc z]) (Q:=fun q=>T.sl false (List.map aA.li.enc q)=T.sl false (List.map aA.li.enc l)) (y0:=fun y=>y)
  h1.1 (fun y hy=>kJ.trans (IV (h1.2 y hy))) (fun y=>⟨_,rfl,gB (r:=aA.li) y rfl⟩) rfl
noncomputable def AN1:Env:=Env.of [(101,.pure fH),(102,.pure EL)]
theorem ZF:aT Tryz.prog AN1:=.cons uW (.cons AXL (.nil _))
def GS(a0:bC)(R:T→Prop):Prop:=aI [(false,aA.li)] (fH [T.sl false (List.map aA.enc a0.2.2.2.2.2.2.1.1)]) fun (y0:List aO)=>aI [(false,aA.li.li)] (EL [T.sl false (List.map aA.li.enc a0.2.2.2.2.2.2.1.2),T.fn 101 [] []]) fun (y1:List (List aO))=>R (T.agg [T.v (.string a0.1),T.v (.int .i64 a0.2.1), T.v (.int .i64 a0.2.2.1),T.v (.string a0.2.2.2.1), T.v (.string a0.2.2.2.2.1), T.v (.int .i64 a0.2.2.2.2.2.1), T.sl false (List.map aA.enc y0),T.sl false (List.map aA.li.enc y1), T.v (.string a0.2.2.2.2.2.2.2.1), T.v (.int .i64 a0.2.2.2.2.2.2.2.2.1), T.v (.int .i64 a0.2.2.2.2.2.2.2.2.2.1), T.v (.int .i64 a0.2.2.2.2.2.2.2.2.2.2.1.1), T.v (.int .i64 a0.2.2.2.2.2.2.2.2.2.2.1.2.1), T.v (.int .i64 a0.2.2.2.2.2.2.2.2.2.2.1.2.2), T.v (.int .i64 a0.2.2.2.2.2.2.2.2.2.2.2.1.1), T.v (.int .i64 a0.2.2.2.2.2.2.2.2.2.2.2.1.2.1), T.v (.int .i64 a0.2.2.2.2.2.2.2.2.2.2.2.1.2.2), T.v (.int .i64 a0.2.2.2.2.2.2.2.2.2.2.2.2)])
abbrev IF:Sh:=[(true,aJ)]
def vU (x:bC):Option T:=idK (dR x) (aF true aJ x)
noncomputable def iN:List T→Option T:=gS IF vU
theorem u9 {a0}:iN [aF true aJ a0]=vU (a0):=bE (s:=IF) rfl (a0) rfl
theorem AI9:uH Tryz.prog 64 iN vU (cC IF) GS:=iW (a1:=(true,aJ)) (sp:=vU) (F:=GS) (Hs:=dI) (f:=64) (k:=8) ZF aQ aS (aL rfl) ⟨_,_,Tryz.func64,rfl⟩ rfl fun _ _=>by kernel_rfl
theorem CB:aN Tryz.prog 64 iN:=AI9 fun p r h hb=>by
 obtain ⟨h1,rfl⟩:=j5 h
 unfold dR zN at h1
 rw[Bool.and_eq_true,Bool.and_eq_true] at h1
 unfold GS
 refine aG (s:=[(false,aA.li)]) (y:=p.2.2.2.2.2.2.1.1) (kJ.trans (IV h1.1.1)) ?_
 refine aG (s:=[(false,aA.li.li)]) (y:=p.2.2.2.2.2.2.1.2) ((AH3 _).trans (fM _ (by rw[h1.1.2,h1.2];rfl))) ?_
 rfl
noncomputable def AN0:Env:=Env.of [(103,.pure gE)]
theorem ZE:aT Tryz.prog AN0:=.cons xF (.nil _)
def GR(a0:aV)(R:T→Prop):Prop:=aI [(false,Sy.str.li)] (gE [T.sl false (List.map Sy.str.enc a0.2.2.1)]) fun (y0:List ByteArray)=>aI [(false,Sy.str.li)] (gE [T.sl false (List.map Sy.str.enc a0.2.2.2.2)]) fun (y1:List ByteArray)=>R (T.agg [T.v (.string a0.1),T.v (.string a0.2.1), T.sl false (List.map Sy.str.enc y0),T.v (.int .i64 a0.2.2.2.1), T.sl false (List.map Sy.str.enc y1)])
abbrev IE:Sh:=[(true,aE)]
def vT (x:aV):Option T:=idK (dJ x) (aF true aE x)
noncomputable def iM:List T→Option T:=gS IE vT
theorem u7 {a0}:iM [aF true aE a0]=vT (a0):=bE (s:=IE) rfl (a0) rfl
theorem AI8:uH Tryz.prog 66 iM vT (cC IE) GR:=iW (a1:=(true,aE)) (sp:=vT) (F:=GR) (Hs:=dI) (f:=66) (k:=8) ZE aQ aS (aL rfl) ⟨_,_,Tryz.func66,rfl⟩ rfl fun _ _=>by kernel_rfl
theorem CA:aN Tryz.prog 66 iM:=AI8 fun p r h hb=>by
 obtain ⟨h1,rfl⟩:=j5 h
 unfold dJ at h1
 rw[Bool.and_eq_true] at h1
 unfold GR
 refine aG (s:=[(false,.li .str)]) (y:=p.2.2.1) (jP.trans (IV h1.1)) ?_
 refine aG (s:=[(false,.li .str)]) (y:=p.2.2.2.2) (jP.trans (IV h1.2)) ?_
 rfl
noncomputable def A25:Env:=Env.of [(64,.pure iN),(66,.pure iM)]
theorem AOB:aT Tryz.prog A25:=.cons CB (.cons CA (.nil _))
def UT(a0:aX)(R:T→Prop):Prop:=aI [(true,aJ)] (iN [aF true aJ a0.2.2.2.2.1]) fun (y0:bC)=>aI [(true,aE)] (iM [aF true aE a0.2.2.2.2.2.2.1]) fun (y1:aV)=>R ((aF true aM (a0.1,a0.2.1,a0.2.2.1,a0.2.2.2.1,y0,a0.2.2.2.2.2.1,y1,a0.2.2.2.2.2.2.2)))
abbrev XC:Sh:=[(true,aM)]
def FZ (x:aX):Option T:=idK (dR (dC x)&&dJ (gC x)) (aF true aM x)
noncomputable def o9:List T→Option T:=gS XC FZ
theorem OF {a0}:o9 [aF true aM a0]=FZ (a0):=bE (s:=XC) rfl (a0) rfl
theorem A0Q:uH Tryz.prog 71 o9 FZ (cC XC) UT:=iW (a1:=(true,aM)) (sp:=FZ) (F:=UT) (Hs:=dI) (f:=71) (k:=8) AOB aQ aS (aL rfl) ⟨_,_,Tryz.func71,rfl⟩ rfl fun _ _=>by kernel_rfl
theorem AA9:aN Tryz.prog 71 o9:=A0Q fun x r h hb=>by
 obtain ⟨h1,rfl⟩:=j5 h
 rw[Bool.and_eq_true] at h1
 unfold UT
 refine aG (s:=[(true,aJ)]) (y:=dC x) ((u9 ..).trans (fM _ h1.1)) ?_
 refine aG (s:=[(true,aE)]) (y:=gC x) ((u7 ..).trans (fM _ h1.2)) ?_
 rfl
noncomputable def A26:Env:=Env.of [(59,.pure sZ)]
theorem AOC:aT Tryz.prog A26:=.cons SG (.nil _)
def BI2:Sy:=Sy.int IntKind.i64
def UU(a0:cR)(R:T→Prop):Prop:=aI [(false,BI2.li)] (sZ [T.sl false (List.map BI2.enc a0.2.2.2)]) fun (y0:List Int)=>R (T.agg [T.v (.string a0.1),T.v (.int .i64 a0.2.1), T.v (.int .i64 a0.2.2.1), T.sl false (List.map BI2.enc y0)])
abbrev XD:Sh:=[(true,bN)]
def F0 (x:cR):Option T:=idK (dB 8 x.2.2.2.length) (aF true bN x)
noncomputable def zE:List T→Option T:=gS XD F0
theorem AH4 {a0}:zE [aF true bN a0]=F0 (a0):=bE (s:=XD) rfl (a0) rfl
theorem A0R:uH Tryz.prog 58 zE F0 (cC XD) UU:=iW (a1:=(true,bN)) (sp:=F0) (F:=UU) (Hs:=dI) (f:=58) (k:=8) AOC aQ aS (aL rfl) ⟨_,_,Tryz.func58,rfl⟩ rfl fun _ _=>by kernel_rfl
theorem AXM:aN Tryz.prog 58 zE:=A0R fun x r h hb=>by
 obtain ⟨h1,rfl⟩:=j5 h
 unfold UU BI2
 refine aG (s:=[(false,.li (.int .i64))]) (y:=x.2.2.2) (JP.trans (IV h1)) ?_
 rfl
def lZ (a0:List aX):List T:=[T.sl false (List.map aM.enc a0),T.fn 71 [] []]
noncomputable def GN:Env:=Env.of [(71,.pure o9)]
def RR:FuncId→Hint:=bX 70 [(3,.inv [.val 10 false (.int .i64),.own 5 38 aM])] (fun _=>bI)
theorem ZC:aT Tryz.prog GN:=.cons AA9 (.nil _)
def BJI(s1:Int×List aX×PUnit):List (List T):=List.map aM.enc s1.2.1
def BJC(y2:aX)(s1:Int×List aX×PUnit)(X0:Int×List aX×PUnit→Prop):Prop:=aI [(true,aM)] (o9 [aF true aM y2]) fun (y3:aX)=>bQ (decide (((BJI s1).length+1)*488≤140737488355328) && decide ((BJI s1).length+1≤140737488355328)) (cH aM (List.map aM.enc s1.2.1 ++ [(aM.enc y3)]) fun (y4:List aX)=>X0 (IntKind.i64.wrap (s1.1+1),y4,()))
def RM(a0:List aX)(R:T→Prop):Prop:=aZ (Int×List aX×PUnit) (fun X0 s1=>aD (decide (s1.1<(↑(List.map aM.enc a0).length:Int))) (aP aM (List.map aM.enc a0) s1.1 fun (y2:aX)=>BJC y2 s1 X0) (R (T.sl false (BJI s1)))) (0,[],())
theorem US ( a0 R):dY bR Tryz.prog GN RR 8 70 (lZ a0) R=RM a0 R:=by kernel_rfl
def DO (x:List aX):Option T:=idK (dB 488 x.length&&x.all fun y=>dR (dC y)&&dJ (gC y)) (.sl false (List.map aM.enc x))
theorem QW (x y:List aX) (h:lZ x=lZ y):x=y:=by
 unfold lZ at h
 simp only[List.cons.injEq,T.sl.injEq,and_true,true_and] at h
 exact map_inj (Sy.dH aM) h
noncomputable def tD:List T→Option (T):=gA (fun (x:List aX)=>lZ x) DO
theorem V6 (a0:List aX):tD (lZ a0)=DO a0:=eN (A:=(fun (x:List aX)=>lZ x)) QW a0
theorem AI6 (h:∀ (a0:List aX) (r:T),DO a0=some r→(∀ t∈lZ a0,Bd t)→RM a0 (fun y=>y=r)):aN Tryz.prog 70 tD :=
 cK (E:=GN) (Hs:=RR) ZC aQ aS (aL rfl) 8 ⟨_,_,Tryz.func70,rfl⟩ fun x r h1 h2=>by
  rw[US]
  exact h x r h1 h2
theorem AHG:aN Tryz.prog 70 tD:=AI6 fun l r h hb=>by
 obtain ⟨h1,rfl⟩:=j5 h
 rw[Bool.and_eq_true,List.all_eq_true] at h1
 exact w4 (r:=aM) rfl (b:=488) (s:=[(true,aM)]) (G:=o9) (A:=fun y=>[aF true aM y]) (W:=fun z=>[Sy.enc aM z]) (Q:=fun q=>T.sl false (List.map aM.enc q)=T.sl false (List.map aM.enc l)) (y0:=fun y=>y)
  h1.1 (fun y hy=>(OF ..).trans (fM _ (h1.2 y hy))) (fun y=>⟨_,rfl,gB (r:=aM) y rfl⟩) rfl
def rB (a0:List cR):List T:=[T.sl false (List.map bN.enc a0),T.fn 58 [] []]
noncomputable def UG:Env:=Env.of [(58,.pure zE)]
def AK7:FuncId→Hint:=bX 57 [(3,.inv [.val 10 false (.int .i64),.own 5 4 bN])] (fun _=>bI)
theorem AN9:aT Tryz.prog UG:=.cons AXM (.nil _)
def AK4(a0:List cR)(R:T→Prop):Prop:=aZ (Int×List cR×PUnit) (fun X0 s1=>aD (decide (s1.1<(↑(List.map bN.enc a0).length:Int))) (aP bN (List.map bN.enc a0) s1.1 fun (y2:cR)=>aI [(true,bN)] (zE [aF true bN y2]) fun (y3:cR)=>bQ (decide (((List.map bN.enc s1.2.1).length+1)*56≤140737488355328) && decide ((List.map bN.enc s1.2.1).length+1≤140737488355328)) (cH bN (List.map bN.enc s1.2.1 ++ [[T.v (.string y3.1),T.v (.int .i64 y3.2.1), T.v (.int .i64 y3.2.2.1), T.sl false (List.map BI2.enc y3.2.2.2)]]) fun (y4:List cR)=>X0 (IntKind.i64.wrap (s1.1+1),y4,()))) (R (T.sl false (List.map bN.enc s1.2.1)))) (0,[],())
theorem AF4 ( a0 R):dY bR Tryz.prog UG AK7 8 57 (rB a0) R=AK4 a0 R:=by kernel_rfl
def QE (x:List cR):Option T:=idK (dB 56 x.length&&x.all fun y=>dB 8 y.2.2.2.length) (.sl false (List.map bN.enc x))
theorem Y3 (x y:List cR) (h:rB x=rB y):x=y:=by
 unfold rB at h
 simp only[List.cons.injEq,T.sl.injEq,and_true,true_and] at h
 exact map_inj (Sy.dH bN) h
noncomputable def EK:List T→Option (T):=gA (fun (x:List cR)=>rB x) QE
theorem AH2 (a0:List cR):EK (rB a0)=QE a0:=eN (A:=(fun (x:List cR)=>rB x)) Y3 a0
theorem A0O (h:∀ (a0:List cR) (r:T),QE a0=some r→(∀ t∈rB a0,Bd t)→AK4 a0 (fun y=>y=r)):aN Tryz.prog 57 EK :=
 cK (E:=UG) (Hs:=AK7) AN9 aQ aS (aL rfl) 8 ⟨_,_,Tryz.func57,rfl⟩ fun x r h1 h2=>by
  rw[AF4]
  exact h x r h1 h2
theorem AXK:aN Tryz.prog 57 EK:=A0O fun l r h hb=>by
 obtain ⟨h1,rfl⟩:=j5 h
 rw[Bool.and_eq_true,List.all_eq_true] at h1
 exact w4 (r:=bN) rfl (b:=56) (s:=[(true,bN)]) (G:=zE) (A:=fun y=>[aF true bN y]) (W:=fun z=>[Sy.enc bN z]) (Q:=fun q=>T.sl false (List.map bN.enc q)=T.sl false (List.map bN.enc l)) (y0:=fun y=>y)
  h1.1 (fun y hy=>(AH4 ..).trans (fM _ (h1.2 y hy))) (fun y=>⟨_,rfl,gB (r:=bN) y rfl⟩) rfl
end Go.Pv
namespace Go.Pv
open Go Go.Proofs
def O3 (d:aC):Bool:=(DF d&&BM d)&&(dB 40 d.2.1.length&&(dB 72 d.2.2.2.1.length&&(dB 40 d.2.2.2.2.2.length&&(dB 208 d.2.2.1.length&&dB 88 d.2.2.2.2.1.length))))
theorem mZ {b n k:Nat} (h:n≤k) (hk:k*b≤140737488355328) (hk2:k≤140737488355328):dB b n=true:=by
 unfold dB
 have:=Nat.mul_le_mul_right b h
 rw[decide_eq_true (by omega),decide_eq_true (by omega)];rfl
theorem ADY {d:aC} {b:Nat} (h:sR b d) (hb:b≤900) (hD:DF d=true) (hK:BM d=true):O3 d=true:=by
 obtain ⟨a1,a2,a3,a4,a5⟩:=h
 unfold O3
 rw[hD,hK,mZ (k:=900) (by omega) (by omega) (by omega),mZ (k:=900) (by omega) (by omega) (by omega),mZ (k:=900) (by omega) (by omega) (by omega),mZ (k:=900) (by omega) (by omega) (by omega),mZ (k:=900) (by omega) (by omega) (by omega)];rfl
def yE (o:bT):Bool:=dB 488 o.2.length&&o.2.all fun y=>dR (dC y)&&dJ (gC y)
noncomputable def ATC:Env:=Env.of [(70,.pure tD)]
theorem AFG:aT Tryz.prog ATC:=.cons AHG (.nil _)
def L6(a0:bT)(R:T→Prop):Prop:=aI [(false,aM.li)] (tD [T.sl false (BI6 a0),T.fn 71 [] []]) fun (y0:List aX)=>R (T.agg [T.v (.string a0.1),T.sl false (List.map aM.enc y0)])
abbrev PM:Sh:=[(true,bA)]
def zW (x:bT):Option T:=idK (yE x) (aF true bA x)
noncomputable def qI:List T→Option T:=gS PM zW
theorem ABQ {a0}:qI [aF true bA a0]=zW (a0):=bE (s:=PM) rfl (a0) rfl
theorem ARO:uH Tryz.prog 27 qI zW (cC PM) L6:=iW (a1:=(true,bA)) (sp:=zW) (F:=L6) (Hs:=dI) (f:=27) (k:=8) AFG aQ aS (aL rfl) ⟨_,_,Tryz.func27,rfl⟩ rfl fun _ _=>by kernel_rfl
theorem AP1:aN Tryz.prog 27 qI:=ARO fun o r h hb=>by
 obtain ⟨h1,rfl⟩:=j5 h
 unfold L6 BI6
 refine aG (s:=[(false,aM.li)]) (y:=o.2) ((V6 _).trans (fM _ h1)) ?_
 rfl
def AMM (m:aH):Bool:=dB 40 m.2.length&&(dB 56 m.1.length&&m.1.all fun y=>dB 8 y.2.2.2.length)
noncomputable def ATB:Env:=Env.of [(56,.pure KV),(57,.pure EK)]
theorem AFF:aT Tryz.prog ATB:=.cons AXJ (.cons AXK (.nil _))
def BJW(a0:aH):List (List T):=List.map bN.enc a0.1
def BJZ(a0:aH):List (List T):=List.map bD.enc a0.2
def L5(a0:aH)(R:T→Prop):Prop:=aI [(false,bD.li)] (KV [T.sl false (BJZ a0)]) fun (y0:List cG)=>aI [(false,bN.li)] (EK [T.sl false (BJW a0),T.fn 58 [] []]) fun (y1:List cR)=>R (T.agg [T.sl false (List.map bN.enc y1),T.sl false (List.map bD.enc y0)])
abbrev PL:Sh:=[(true,aK)]
def zV (x:aH):Option T:=idK (AMM x) (aF true aK x)
noncomputable def xL:List T→Option T:=gS PL zV
theorem ABP {a0}:xL [aF true aK a0]=zV (a0):=bE (s:=PL) rfl (a0) rfl
theorem ARN:uH Tryz.prog 21 xL zV (cC PL) L5:=iW (a1:=(true,aK)) (sp:=zV) (F:=L5) (Hs:=dI) (f:=21) (k:=8) AFF aQ aS (aL rfl) ⟨_,_,Tryz.func21,rfl⟩ rfl fun _ _=>by kernel_rfl
theorem AP0:aN Tryz.prog 21 xL:=ARN fun m r h hb=>by
 obtain ⟨h1,rfl⟩:=j5 h
 unfold AMM at h1
 simp only[Bool.and_eq_true] at h1
 unfold L5 BJZ BJW
 refine aG (s:=[(false,bD.li)]) (y:=m.2) (AH1.trans (IV h1.1)) ?_
 refine aG (s:=[(false,bN.li)]) (y:=m.1) ((AH2 _).trans (fM _ (by rw[h1.2.1,h1.2.2];rfl))) ?_
 rfl
end Go.Pv
namespace Go.Pv
section
variable {D O β : Type} (z : D) (ap : D → O → D × Int)
def goF:D→List O→D×Int
 | d,[]=>(d,0)
 | d,o::l=>if (ap d o).2=0 then goF (ap d o).1 l else (z,(ap d o).2)
structure BFV (D O:Type) where
 base:D
 BFT:List O
 last:D
variable {z ap}
end
end Go.Pv
namespace Go.Pv
open Go Go.Proofs
theorem VY {d:aC} {K:List dL→List bC→List eB→List aV→List cX→Prop} (h:K d.2.1 d.2.2.1 d.2.2.2.1 d.2.2.2.2.1 d.2.2.2.2.2) :
  cH aW (List.map aW.enc d.2.1) fun a=>cH aJ (List.map aJ.enc d.2.2.1) fun b=>cH aY (List.map aY.enc d.2.2.2.1) fun c=>cH aE (List.map aE.enc d.2.2.2.2.1) fun e=>cH aR (List.map aR.enc d.2.2.2.2.2) fun f=>K a b c e f :=
 cO (r:=aW) rfl rfl (cO (r:=aJ) rfl rfl (cO (r:=aY) rfl rfl (cO (r:=aE) rfl rfl (cO (r:=aR) rfl rfl h))))
theorem BE1 {l:List bT} {i k:Nat} {K:bT→Prop} (hi:i=k) (h:k<l.length) (hk:K l[k]):fR bA (List.map bA.enc l) i 0 K :=
 ⟨_,l[k],by rw[hi];exact (uQ (r:=bA)).2 (List.getElem?_eq_getElem h),Nat.le_refl _,rfl,hk⟩
theorem A1A:∀ {l:List bT},l.length≠0→A60 2 (List.map bA.enc l)=true
 | [],h=>absurd rfl h
 | _::_,_=>rfl
noncomputable def apO (m:aH) (d:aC) (o:bT):aC×Int:=wZ d m o
noncomputable def goH (m:aH) (d:aC) (l:List bT):aC×Int:=goF kX (apO m) d l
theorem AAN {m:aH} {d:aC} {o:bT} (h:(wZ d m o).2=0):o.2.length≤32:=by
 unfold wZ at h
 split at h
 ·cases h
 split at h
 ·cases h
 split at h
 ·cases h
 ·omega
theorem O4 {o:bT} (h:yE o=true):∀ x∈o.2,dR (dC x)=true∧dJ (gC x)=true:=fun x hx=>by
 unfold yE at h
 rw[Bool.and_eq_true,List.all_eq_true] at h
 have:=h.2 x hx
 rwa[Bool.and_eq_true] at this
theorem sR.mono {a b:Nat} {d:aC} (h:sR a d) (hab:a≤b):sR b d:=by
 obtain ⟨a1,a2,a3,a4,a5⟩:=h
 exact ⟨by omega,by omega,by omega,by omega,by omega⟩
theorem A79 {m:aH}:∀ {l:List bT} {d:aC} {b:Nat},sR b d→DF d=true→BM d=true→(∀ o∈l,yE o=true)→(goH m d l).2=0→sR (b+32*l.length) (goH m d l).1∧DF (goH m d l).1=true∧BM (goH m d l).1=true
 | [],d,b,h,hD,hK,_,_=>⟨h,hD,hK⟩
 | o::l,d,b,h,hD,hK,hO,h0=>by
  unfold goH at h0 ⊢
  rw[goF] at h0 ⊢
  by_cases ha:(apO m d o).2=0
  ·rw[if_pos ha] at h0 ⊢
   have hl:=AAN ha
   obtain ⟨_,e⟩:=ALH ha
   have ha':(iK m d o.2).2=0:=by rw[←e];exact ha
   obtain ⟨f1,f2,f3⟩:=B3 h hD hK (O4 (hO o List.mem_cons_self)) ha'
   have e2:(apO m d o).1=(iK m d o.2).1:=congrArg Prod.fst e
   rw[e2] at h0 ⊢
   obtain ⟨g1,g2,g3⟩:=A79 (f1.mono (b:=b+32) (by omega)) f2 f3 (fun x hx=>hO x (List.mem_cons_of_mem _ hx)) h0
   refine ⟨sR.mono g1 (by rw[List.length_cons];omega),g2,g3⟩
  ·rw[if_neg ha] at h0;exact absurd h0 ha
structure JD (a:fW):Prop where
 b:∃ b,sR b a.2.1∧b+32*a.2.2.1.length≤868
 D:DF a.2.1=true
 K:BM a.2.1=true
 O:∀ o∈a.2.2.1,yE o=true
theorem JD.len {a:fW} (h:JD a):a.2.2.1.length≤27:=by obtain ⟨b,_,hb⟩:=h.b;omega
theorem JD.step {a:fW} (h:JD a) {t:Nat} (ht:t≤a.2.2.1.length) (h0:(goH a.1 a.2.1 (a.2.2.1.take t)).2=0):sR 868 (goH a.1 a.2.1 (a.2.2.1.take t)).1∧DF (goH a.1 a.2.1 (a.2.2.1.take t)).1=true∧BM (goH a.1 a.2.1 (a.2.2.1.take t)).1=true:=by
 obtain ⟨b,h1,h2⟩:=h.b
 obtain ⟨g1,g2,g3⟩:=A79 h1 h.D h.K (fun o ho=>h.O o (List.mem_of_mem_take ho)) h0
 exact ⟨sR.mono g1 (by rw[List.length_take];omega),g2,g3⟩
def KO (a:fW) (v:Int):List bT×Int:=if v<0∨(a.2.2.1.length:Int)<v then ([],8) else (a.2.2.1.drop v.toNat,0)
open Classical in
noncomputable def AE7:Env:=Env.of [(27,.pure qI)]
def AVS:FuncId→Hint:=bX 30 [(3,.inv [.val 10 false (.int .i64),.own 5 2 bA])] (fun _=>bI)
theorem ATY:aT Tryz.prog AE7:=.cons AP1 (.nil _)
def BJG(a0:fW):List (List T):=List.map bA.enc a0.2.2.1
def BJV(y9:bT):List T:=[T.v (.string y9.1), T.sl false (BI6 y9)]
def BJX(s1:Int×List bT×PUnit):List (List T):=List.map bA.enc s1.2.1
def AGA(a0:fW)(a1:Int)(R:T→Prop):Prop:=aD (decide (a1<0)) (R (T.bZ [T.sl false [],T.v (.int .i64 8)])) (aD (decide ((↑(BJG a0).length:Int)<a1)) (R (T.bZ [T.sl false [],T.v (.int .i64 8)])) (bQ (decide ((BJG a0).length≤(BJG a0).length) && (decide (0≤a1)&&decide (Int.toNat a1≤(BJG a0).length))) (aD (decide ((BJG a0).length=Int.toNat a1)) (aZ (Int×List bT×PUnit) (fun X0 s1=>aD (decide (s1.1<(↑0:Int))) (aP bA [] s1.1 fun (y2:bT)=>aI [(true,bA)] (qI [aF true bA y2]) fun (y3:bT)=>bQ (decide (((BJX s1).length+1)*40≤140737488355328) && decide ((BJX s1).length+1≤140737488355328)) (cH bA (List.map bA.enc s1.2.1 ++ [[T.v (.string y3.1),T.sl false (BI6 y3)]]) fun (y4:List bT)=>X0 (IntKind.i64.wrap (s1.1+1),y4,()))) (R (T.bZ [T.sl false (BJX s1), T.v (.int .i64 0)]))) (0,[],())) (bQ (A60 2 (BJG a0)) (aZ (Int×List bT×PUnit) (fun X5 s6=>aD (decide (s6.1<(↑((BJG a0).length-Int.toNat a1):Int))) (bQ (decide (0≤s6.1) && decide (Int.toNat s6.1<(BJG a0).length-Int.toNat a1)) (aP bA (BJG a0) (↑(Int.toNat a1+Int.toNat s6.1):Int) fun (y7:bT)=>fR bA (BJG a0) (Int.toNat a1+Int.toNat s6.1) 0 fun (y8:bT)=>aI [(true,bA)] (qI [aF true bA y8]) fun (y9:bT)=>bQ (decide (((BJX s6).length+1)*40≤140737488355328) && decide ((BJX s6).length+1≤140737488355328)) (cH bA (List.map bA.enc s6.2.1 ++ [(BJV y9)]) fun (y10:List bT)=>X5 (IntKind.i64.wrap (s6.1+1),y10,())))) (R (T.bZ [T.sl false (BJX s6), T.v (.int .i64 0)]))) (0,[],()))))))
theorem AOT ( a0 a1 R):A2V bR Tryz.prog AE7 AVS 8 11 [aF true gK a0,aF false (Sy.int IntKind.i64) a1] R=AGA a0 a1 R:=by kernel_rfl
abbrev XH:Sh:=[(true,gK),(false,(Sy.int IntKind.i64))]
open Classical in
noncomputable def zY (x:fW×Int):Option T:=if JD x.1 then some (Sh.enc [(false,bA.li),(false,.int .i64)] (KO x.1 x.2)) else none
noncomputable def xM:List T→Option (T):=gS XH zY
theorem AQU {a0 a1}:xM [aF true gK a0,T.v (.int .i64 a1)]=zY (a0,a1):=bE (s:=XH) rfl (a0,a1) rfl
theorem A6O (h:∀ a0 a1 r,zY (a0,a1)=some r→cC XH (a0,a1)→AGA a0 a1 (fun y=>y=r)):AGO Tryz.prog 11 xM :=
 AZJ (E:=AE7) (Hs:=AVS) ATY aQ aS (aL rfl) 8 ⟨_,_,Tryz.func11,rfl⟩ rfl fun x r h1 h2=>by
  obtain ⟨a0,a1⟩:=x
  rw[show Sh.iH XH (a0,a1)=[aF true gK a0,aF false (Sy.int IntKind.i64) a1] from rfl,AOT]
  exact h a0 a1 r h1 h2
theorem A5Q {a:fW} (h:JD a) (v:Int):xM [aF true gK a,.v (.int .i64 v)]=some (Sh.enc [(false,bA.li),(false,.int .i64)] (KO a v)):=by
 have e:xM [aF true gK a,.v (.int .i64 v)]=zY (a,v):=AQU ..
 rw[e];unfold zY;exact if_pos h
theorem A4R {o:bT} (h:yE o=true):qI [aF true bA o]=some (Sh.enc [(true,bA)] o):=(ABQ ..).trans (fM _ h)
theorem A5H:AGO Tryz.prog 11 xM:=A6O fun a v r h hb=>by
 clear hb
 unfold zY at h
 split at h
 case isFalse=>cases h
 rename_i hc
 have hc:JD a:=hc
 cases h
 have hl:=hc.len
 unfold AGA BJX BJV BJG BI6
 rw[List.length_map]
 refine cF (fun h1=>?_) fun h1=>?_
 ·show _=Sh.enc [(false,bA.li),(false,.int .i64)] (KO a v)
  unfold KO;rw[if_pos (.inl h1)];rfl
 refine cF (fun h2=>?_) fun h2=>?_
 ·show _=Sh.enc [(false,bA.li),(false,.int .i64)] (KO a v)
  unfold KO;rw[if_pos (.inr h2)];rfl
 have e:KO a v=(a.2.2.1.drop v.toNat,0):=by unfold KO;rw[if_neg (by omega)]
 refine ⟨by rw[decide_eq_true (Nat.le_refl _),decide_eq_true (by omega),decide_eq_true (by omega)];rfl,?_⟩
 refine cF (fun h0=>?_) fun h0=>?_
 ·intro X hX
  refine hX _ ?_
  dsimp only
  refine cF (fun h=>absurd h (by decide)) fun _=>?_
  show _=Sh.enc [(false,bA.li),(false,.int .i64)] (KO a v)
  rw[e,List.drop_eq_nil_of_le (by omega)];rfl
 ·refine ⟨A1A (by omega),?_⟩
  have hd:(a.2.2.1.drop v.toNat).length=a.2.2.1.length-v.toNat:=List.length_drop ..
  refine bM (a.2.2.1.length-v.toNat) (fun k s=>s=((k:Int),(a.2.2.1.drop v.toNat).take k,())) rfl ?_
  rintro X k s hk rfl hX
  dsimp only
  refine cF (fun h=>?_) fun h=>?_
  ·have hlt:k<a.2.2.1.length-v.toNat:=by omega
   have hO:v.toNat+k<a.2.2.1.length:=by omega
   refine ⟨by rw[decide_eq_true (by omega),decide_eq_true (by omega)];rfl,?_⟩
   rw[Int.toNat_natCast,bG (r:=bA) hO]
   refine BE1 rfl hO ?_
   refine aG (s:=[(true,bA)]) (y:=a.2.2.1[v.toNat+k]) (A4R (hc.O _ (List.getElem_mem hO))) ?_
   have hk2:(List.map bA.enc ((a.2.2.1.drop v.toNat).take k)).length≤27:=by rw[List.length_map,List.length_take];omega
   refine ⟨by rw[decide_eq_true (by omega),decide_eq_true (by omega)];rfl,?_⟩
   refine cO (r:=bA) rfl (l:=(a.2.2.1.drop v.toNat).take k++[a.2.2.1[v.toNat+k]]) (by rw[List.map_append];rfl) ?_
   refine hX _ hlt ?_
   have e3:(a.2.2.1.drop v.toNat).take (k+1)=(a.2.2.1.drop v.toNat).take k++[a.2.2.1[v.toNat+k]]:=by
    rw[List.take_succ_eq_append_getElem (by omega:k<(a.2.2.1.drop v.toNat).length)];simp
   rw[bH _ (by omega) (by omega),e3];rfl
  ·have:k=a.2.2.1.length-v.toNat:=by omega
   subst this
   show _=Sh.enc [(false,bA.li),(false,.int .i64)] (KO a v)
   rw[e,←hd,List.take_length];rfl
end Go.Pv
namespace Go.Pv
open Go Go.Proofs
def BB (g:cR):Bool:=decide ((g.2.2.2.length:Int)≤30)&&decide ((g.1.size:Int)≤40)
def AM0 (s:cG):Bool:=decide ((s.1.size:Int)≤40)
def uT (m:aH):Bool:=(m.1.take 41).all BB&&((m.2.take 41).all AM0&&(decide ((m.1.length:Int)≤40)&&decide ((m.2.length:Int)≤40)))
def F1 (m:aH):Option T:=some (T.v (.bool (uT m)))
def A3W:FuncId→Hint:=bX 14 [(2,.inv [.val 3 false (.int .i64)]),(7,.inv [.val 4 false (.int .i64)])] (fun _=>bI)
def BI0:T:=T.v (.bool false)
def BJJ(a0:aH)(R:T→Prop):Prop:=aD (decide ((↑(BJW a0).length:Int)≤40)) (R (T.v (.bool (decide ((↑(BJZ a0).length:Int)≤40))))) (R BI0)
def BJS(X0:Int×PUnit→Prop)(s1:Int×PUnit):Prop:=X0 (IntKind.i64.wrap (s1.1+1),())
def BI4(a0:aH)(R:T→Prop):Prop:=aZ (Int×PUnit) (fun X4 s5=>aD (decide (s5.1<(↑(BJZ a0).length:Int))) (aD (decide (s5.1<41)) (aP bD (BJZ a0) s5.1 fun (y6:cG)=>aD (decide (40<(↑(ByteArray.size y6.1):Int))) (R BI0) (BJS X4 s5)) (BJJ a0 R)) (BJJ a0 R)) (0,())
def UX(a0:aH)(R:T→Prop):Prop:=aZ (Int×PUnit) (fun X0 s1=>aD (decide (s1.1<(↑(BJW a0).length:Int))) (aD (decide (s1.1<41)) (aP bN (BJW a0) s1.1 fun (y2:cR)=>aD (decide (30<(↑(List.map BI2.enc y2.2.2.2).length:Int))) (R BI0) (aP bN (BJW a0) s1.1 fun (y3:cR)=>aD (decide (40<(↑(ByteArray.size y3.1):Int))) (R BI0) (BJS X0 s1))) (BI4 a0 R)) (BI4 a0 R)) (0,())
abbrev XE:Sh:=[(true,aK)]
noncomputable def EM:List T→Option T:=gS XE F1
theorem AH5 {a0}:EM [aF true aK a0]=F1 (a0):=bE (s:=XE) rfl (a0) rfl
theorem A0S:uH Tryz.prog 14 EM F1 (cC XE) UX:=iW (a1:=(true,aK)) (sp:=F1) (F:=UX) (Hs:=A3W) (f:=14) (k:=8) (bW _) aQ aS (aL rfl) ⟨_,_,Tryz.func14,rfl⟩ rfl fun _ _=>by kernel_rfl
theorem QQ {α:Type} {l:List α} {ok:α→Bool} {k:Nat} (h:k<l.length) (h41:k<41) (hb:ok l[k]=false):(l.take 41).all ok=false:=by
 rw[Bool.eq_false_iff]
 intro hc
 have hk:k<(l.take 41).length:=by rw[List.length_take];omega
 have h1:=List.all_eq_true.1 hc (l.take 41)[k] (List.getElem_mem hk)
 rw[List.getElem_take,hb] at h1
 cases h1
theorem AA2 {r:Sy} {l:List r.den} (ok:r.den→Bool) {Fin:Prop} {Body:(Int×PUnit→Prop)→Int×PUnit→Prop}
  (hbody:∀ X k (h:k<l.length),k<41→(ok l[k]=true→X (IntKind.i64.wrap ((k:Int)+1),()))→Body X ((k:Int),())) (hF:(l.take 41).all ok=true→Fin) :
  aZ (Int×PUnit) (fun X s=>aD (decide (s.1<((List.map r.enc l).length:Int))) (aD (decide (s.1<41)) (Body X s) Fin) Fin) (0,()):=by
 refine bM l.length (fun k s=>s=((k:Int),())∧k≤41∧(l.take k).all ok=true) ⟨rfl,by omega,rfl⟩ ?_
 rintro X k s hk ⟨rfl,h41,he⟩ hX
 dsimp only
 refine cF (fun hlt=>?_) fun hge=>?_
 ·rw[List.length_map] at hlt
  have hlt:k<l.length:=by omega
  refine cF (fun h=>hbody X k hlt (by omega) fun hok=>hX _ hlt ⟨?_,by omega,?_⟩) fun h=>hF ?_
  ·rw[show IntKind.i64.wrap ((k:Int)+1)=((k+1:Nat):Int) by rw[bH]<;>omega]
  ·rw[List.take_add_one,List.getElem?_eq_getElem hlt,List.all_append,he]
   simpa using hok
  ·have:k=41:=by omega
   subst this;exact he
 ·rw[List.length_map] at hge
  have:k=l.length:=by omega
  subst this
  exact hF (by rw[List.take_of_length_le h41];rw[List.take_length] at he;exact he)
theorem AXN:aN Tryz.prog 14 EM:=A0S fun m r h hb=>by
 clear hb
 cases h
 have is:∀ {b:Bool},uT m=b→T.v (.bool b)=T.v (.bool (uT m)):=fun h=>by rw[h]
 unfold UX BI4 BJS BJJ BJZ BJW BI2 BI0
 have fin:(m.1.take 41).all BB=true→(m.2.take 41).all AM0=true→aD (decide ((↑(List.map bN.enc m.1).length:Int)≤40)) (T.v (.bool (decide ((↑(List.map bD.enc m.2).length:Int)≤40)))=T.v (.bool (uT m))) (T.v (.bool false)=T.v (.bool (uT m))):=fun h1 h2=>by
  rw[List.length_map,List.length_map]
  refine cF (fun h=>is ?_) fun h=>is ?_
  ·unfold uT;rw[h1,h2,decide_eq_true h];rfl
  ·unfold uT;rw[h1,h2,decide_eq_false h];rfl
 have sec:(m.1.take 41).all BB=true→aZ (Int×PUnit)
   (fun (X4:Int×PUnit→Prop) (s5:Int×PUnit) =>
   aD (decide (s5.1<(↑(List.map bD.enc m.2).length:Int)))
   (aD (decide (s5.1<41))
    (aP bD (List.map bD.enc m.2) s5.1 fun (y6:cG) =>
    aD (decide (40<(↑(ByteArray.size y6.1):Int))) (T.v (.bool false)=T.v (.bool (uT m)))
    (X4 (IntKind.i64.wrap (s5.1+1),())))
    (aD (decide ((↑(List.map bN.enc m.1).length:Int)≤40))
    (T.v (.bool (decide ((↑(List.map bD.enc m.2).length:Int)≤40)))=T.v (.bool (uT m)))
    (T.v (.bool false)=T.v (.bool (uT m)))))
   (aD (decide ((↑(List.map bN.enc m.1).length:Int)≤40))
    (T.v (.bool (decide ((↑(List.map bD.enc m.2).length:Int)≤40)))=T.v (.bool (uT m)))
    (T.v (.bool false)=T.v (.bool (uT m)))))
   (0,()):=fun h1=>by
  refine AA2 (r:=bD) AM0 (fun X k hk h41 hX=>?_) fun h2=>fin h1 h2
  dsimp only
  rw[bG (r:=bD) hk]
  refine cF (fun hb=>is ?_) fun hb=>hX ?_
  ·unfold uT
   rw[QQ hk h41 (show AM0 m.2[k]=false from decide_eq_false (by omega))]
   simp
  ·exact decide_eq_true (by omega)
 refine AA2 (r:=bN) BB (fun X k hk h41 hX=>?_) fun h1=>sec h1
 dsimp only
 rw[bG (r:=bN) hk,List.length_map]
 refine cF (fun hb=>is ?_) fun hb=>?_
 ·unfold uT
  rw[QQ hk h41 (show BB m.1[k]=false by unfold BB;rw[decide_eq_false (by omega),Bool.false_and])]
  rfl
 rw[bG (r:=bN) hk]
 refine cF (fun hb2=>is ?_) fun hb2=>hX ?_
 ·unfold uT
  rw[QQ hk h41 (show BB m.1[k]=false by unfold BB;rw[decide_eq_false (p:=((m.1[k].1.size:Nat):Int)≤40) (by omega),Bool.and_false])]
  rfl
 ·unfold BB;rw[decide_eq_true (by omega),decide_eq_true (by omega)];rfl
end Go.Pv
namespace Go.Pv
open Go Go.Proofs
theorem AA6:e6 Tryz.prog 56 (oG 4 40):=jO aQ aS ⟨_,_,Tryz.func56,rfl⟩ ⟨fun R=>by kernel_rfl,fun fl R=>by kernel_rfl,fun fl a rows R=>by kernel_rfl⟩
theorem AA4:e6 Tryz.prog 59 (oG 1 8):=jO aQ aS ⟨_,_,Tryz.func59,rfl⟩ ⟨fun R=>by kernel_rfl,fun fl R=>by kernel_rfl,fun fl a rows R=>by kernel_rfl⟩
theorem SC:e6 Tryz.prog 60 (oG 3 40):=jO aQ aS ⟨_,_,Tryz.func60,rfl⟩ ⟨fun R=>by kernel_rfl,fun fl R=>by kernel_rfl,fun fl a rows R=>by kernel_rfl⟩
theorem SF:e6 Tryz.prog 61 (oG 6 72):=jO aQ aS ⟨_,_,Tryz.func61,rfl⟩ ⟨fun R=>by kernel_rfl,fun fl R=>by kernel_rfl,fun fl a rows R=>by kernel_rfl⟩
theorem SB:e6 Tryz.prog 62 (oG 3 40):=jO aQ aS ⟨_,_,Tryz.func62,rfl⟩ ⟨fun R=>by kernel_rfl,fun fl R=>by kernel_rfl,fun fl a rows R=>by kernel_rfl⟩
theorem ALR:e6 Tryz.prog 101 (oG 2 16):=jO aQ aS ⟨_,_,Tryz.func101,rfl⟩ ⟨fun R=>by kernel_rfl,fun fl R=>by kernel_rfl,fun fl a rows R=>by kernel_rfl⟩
theorem AA5:e6 Tryz.prog 164 (oG 1 24):=jO aQ aS ⟨_,_,Tryz.func164,rfl⟩ ⟨fun R=>by kernel_rfl,fun fl R=>by kernel_rfl,fun fl a rows R=>by kernel_rfl⟩
theorem SE:e6 Tryz.prog 165 (oG 18 208):=jO aQ aS ⟨_,_,Tryz.func165,rfl⟩ ⟨fun R=>by kernel_rfl,fun fl R=>by kernel_rfl,fun fl a rows R=>by kernel_rfl⟩
theorem SD:e6 Tryz.prog 166 (oG 5 88):=jO aQ aS ⟨_,_,Tryz.func166,rfl⟩ ⟨fun R=>by kernel_rfl,fun fl R=>by kernel_rfl,fun fl a rows R=>by kernel_rfl⟩
theorem AA7:e6 Tryz.prog 103 (oG 1 16):=jO aQ aS ⟨_,_,Tryz.func103,rfl⟩ ⟨fun R=>by kernel_rfl,fun fl R=>by kernel_rfl,fun fl a rows R=>by kernel_rfl⟩
def AL1:FuncId→Bool:=fun f=>[120,49,95,137,228,235].contains f
noncomputable def AZX:Env:=Env.of [(119,.pure sC),(56,.fresh (oG 4 40)),(59,.fresh (oG 1 8)),(60,.fresh (oG 3 40)),(61,.fresh (oG 6 72)),(62,.fresh (oG 3 40)),(101,.fresh (oG 2 16)),(164,.fresh (oG 1 24)),(165,.fresh (oG 18 208)),(166,.fresh (oG 5 88)),(103,.fresh (oG 1 16)),(5000000000+28,.mark)]
theorem ARB:aT Tryz.prog AZX:=aT.cons (x:=.pure sC) xG (aT.cons (x:=.fresh (oG 4 40)) AA6 (aT.cons (x:=.fresh (oG 1 8)) AA4 (aT.cons (x:=.fresh (oG 3 40)) SC (aT.cons (x:=.fresh (oG 6 72)) SF (aT.cons (x:=.fresh (oG 3 40)) SB (aT.cons (x:=.fresh (oG 2 16)) ALR (aT.cons (x:=.fresh (oG 1 24)) AA5 (aT.cons (x:=.fresh (oG 18 208)) SE (aT.cons (x:=.fresh (oG 5 88)) SD (aT.cons (x:=.fresh (oG 1 16)) AA7 (aT.cons (x:=.mark) trivial (aT.nil _))))))))))))
noncomputable def gEd:List T→Option T:=ASO Tryz.prog 400 AL1 AZX 40 104
theorem A93:aN Tryz.prog 104 gEd:=PE aQ aS 400 AL1 ARB 40 (TY (k:=39) (fn:=_) (c:=_) (by kernel_rfl) Tryz.func104 rfl (by kernel_rfl))
noncomputable def AZW:Env:=Env.of [(119,.pure sC),(104,.pure gEd)]
theorem ARA:aT Tryz.prog AZW:=aT.cons (x:=.pure sC) xG (aT.cons (x:=.pure gEd) A93 (aT.nil _))
noncomputable def gAp:List T→Option T:=ASO Tryz.prog 400 AL1 AZW 40 24
theorem A92:aN Tryz.prog 24 gAp:=PE aQ aS 400 AL1 ARA 40 (TY (k:=39) (fn:=_) (c:=_) (by kernel_rfl) Tryz.func24 rfl (by kernel_rfl))
def BAY:FuncId→Bool:=fun f=>[10,8,366,11,23,7,120,49,95,19,32,35,38,41,45,80,106,46].contains f
noncomputable def AL7:Env:=Env.of [(119,.pure sC),(24,.pure gAp),(56,.fresh (oG 4 40)),(59,.fresh (oG 1 8)),(60,.fresh (oG 3 40)),(61,.fresh (oG 6 72)),(62,.fresh (oG 3 40)),(101,.fresh (oG 2 16)),(164,.fresh (oG 1 24)),(165,.fresh (oG 18 208)),(166,.fresh (oG 5 88)),(103,.fresh (oG 1 16))]
theorem AIR:aT Tryz.prog AL7:=aT.cons (x:=.pure sC) xG (aT.cons (x:=.pure gAp) A92 (aT.cons (x:=.fresh (oG 4 40)) AA6 (aT.cons (x:=.fresh (oG 1 8)) AA4 (aT.cons (x:=.fresh (oG 3 40)) SC (aT.cons (x:=.fresh (oG 6 72)) SF (aT.cons (x:=.fresh (oG 3 40)) SB (aT.cons (x:=.fresh (oG 2 16)) ALR (aT.cons (x:=.fresh (oG 1 24)) AA5 (aT.cons (x:=.fresh (oG 18 208)) SE (aT.cons (x:=.fresh (oG 5 88)) SD (aT.cons (x:=.fresh (oG 1 16)) AA7 (aT.nil _))))))))))))
def BEJ:List T→Option T:=fun args=>match args with | []=>some (.v (.bool true))|_=>none
def nO:List T→Option T:=BEJ
theorem AHF:aN Tryz.prog 5 nO :=
 AP8 aQ aS 400 BAY (B:=AL7) AIR 40 (by kernel_rfl)
end Go.Pv
namespace Go.Pv
open Go Go.Proofs
def A3X:FuncId→Hint:=bX 15 [(4,.inv [.val 5 false (.int .i64)]),(10,.inv [.val 7 false (.int .i64)])] (fun _=>bI)
def BJU(y2:aX):List (List T):=List.map aA.li.enc y2.2.2.2.2.1.2.2.2.2.2.2.1.2
def UY(a0:bT)(a1:Int)(R:T→Prop):Prop:=aD (decide (100<(↑(ByteArray.size a0.1):Int))) (R BI0) (aD (decide (a1<(↑(BI6 a0).length:Int))) (R BI0) (aZ (Int×PUnit) (fun X0 s1=>aD (decide (s1.1<(↑(BI6 a0).length:Int))) (aP aM (BI6 a0) s1.1 fun (y2:aX)=>aD (decide (40<(↑(List.map Sy.str.enc y2.2.2.2.2.2.2.1.2.2.1).length:Int))) (R BI0) (aD (decide (40<(↑(List.map Sy.str.enc y2.2.2.2.2.2.2.1.2.2.2.2).length:Int))) (R BI0) (aD (decide (100 < (↑(List.map aA.enc y2.2.2.2.2.1.2.2.2.2.2.2.1.1).length : Int))) (R BI0) (aD (decide (20 < (↑(BJU y2).length : Int))) (R BI0) (aZ (Int×PUnit) (fun X3 s4=>aD (decide (s4.1 < (↑(BJU y2).length : Int))) (aP aA.li (BJU y2) s4.1 fun (y5:List aO)=>aD (decide (100<(↑(List.map aA.enc y5).length:Int))) (R BI0) (BJS X3 s4)) (BJS X0 s1)) (0,())))))) (R (T.v (.bool true)))) (0,())))
abbrev XF:Sh:=[(true,bA),(false,(Sy.int IntKind.i64))]
def S6 (h:List aO):Int:=if h.length≤100 then 0 else 1
def A7 (x:aX):Int:=if 40<x.2.2.2.2.2.2.1.2.2.1.length then 1 else if 40<x.2.2.2.2.2.2.1.2.2.2.2.length then 1 else if 100<x.2.2.2.2.1.2.2.2.2.2.2.1.1.length then 1 else if 20<x.2.2.2.2.1.2.2.2.2.2.2.1.2.length then 1 else cI S6 x.2.2.2.2.1.2.2.2.2.2.2.1.2
def qD (o:bT) (n:Int):Bool:=decide (o.1.size≤100)&&(decide ((o.2.length:Int)≤n)&&decide (cI A7 o.2=0))
def F2 (x:bT×Int):Option T:=some (T.v (.bool (qD x.1 x.2)))
noncomputable def EN:List T→Option T:=gS XF F2
theorem AH6 {a0 a1}:EN [aF true bA a0,T.v (.int .i64 a1)]=F2 (a0,a1):=bE (s:=XF) rfl (a0,a1) rfl
theorem A0T:r8 Tryz.prog 15 EN F2 (cC XF) UY:=iB (a1:=(true,bA)) (a2:=(false,(Sy.int IntKind.i64))) (sp:=F2) (F:=UY) (Hs:=A3X) (f:=15) (k:=8) (bW _) aQ aS (aL rfl) ⟨_,_,Tryz.func15,rfl⟩ rfl fun _ _ _=>by kernel_rfl
theorem AXO:aN Tryz.prog 15 EN:=A0T fun o n r h hb=>by
 cases h
 have hl:o.2.length≤2 ^ 47:=hb.1.2.1
 have no:qD o n=false→T.v (.bool false)=T.v (.bool (qD o n)):=fun h=>by rw[h]
 unfold UY BJU BI6 BJS BI0
 refine cF (fun h=>no (by unfold qD;rw[decide_eq_false (by omega)];rfl)) fun h1=>?_
 refine cF (fun h=>no (by rw[List.length_map] at h;unfold qD;rw[decide_eq_false (show ¬ (o.2.length:Int)≤n by omega)];simp)) fun h2=>?_
 rw[List.length_map] at h2
 have w:qD o n=decide (cI A7 o.2=0):=by unfold qD;rw[decide_eq_true (by omega),decide_eq_true (by omega)];rfl
 refine lR (r:=aM) A7 hl (fun X s y hy hok hbad=>?_) fun h=>by rw[w,decide_eq_true h]
 have bad:A7 y≠0→T.v (.bool false)=T.v (.bool (qD o n)):=fun h=>no (by rw[w,decide_eq_false (by rw[hbad h];exact h)])
 have hy2:y.2.2.2.2.1.2.2.2.2.2.2.1.2.length≤2 ^ 47:=(hb.1.2.2 y hy).2.2.2.2.1.2.2.2.2.2.2.1.2.1
 clear hb
 refine cF (fun h=>bad (by rw[List.length_map] at h;unfold A7;rw[if_pos (by omega)];decide)) fun h3=>?_
 refine cF (fun h=>bad (by rw[List.length_map] at h h3;unfold A7;rw[if_neg (by omega),if_pos (by omega)];decide)) fun h4=>?_
 refine cF (fun h=>bad (by rw[List.length_map] at h h3 h4;unfold A7;rw[if_neg (by omega),if_neg (by omega),if_pos (by omega)];decide)) fun h5=>?_
 refine cF (fun h=>bad (by rw[List.length_map] at h h3 h4 h5;unfold A7;rw[if_neg (by omega),if_neg (by omega),if_neg (by omega),if_pos (by omega)];decide)) fun h6=>?_
 rw[List.length_map] at h3 h4 h5 h6
 have e:A7 y=cI S6 y.2.2.2.2.1.2.2.2.2.2.2.1.2:=by unfold A7;rw[if_neg (by omega),if_neg (by omega),if_neg (by omega),if_neg (by omega)]
 refine lR (r:=aA.li) S6 hy2 (fun Y t q hq hok2 hbad2=>?_) fun h=>hok (e.trans h)
 refine cF (fun h=>bad ?_) fun h=>hok2 ?_
 ·rw[List.length_map] at h
  have:S6 q=1:=by unfold S6;rw[if_neg (by show ¬ List.length q≤100;omega)]
  rw[e,hbad2 (by rw[this];decide),this];decide
 ·rw[List.length_map] at h
  unfold S6;rw[if_pos (by show List.length q≤100;omega)]
end Go.Pv
namespace Go.Pv
open Go Go.Proofs
def wF (d:aC) (m:aH) (l:List bT):Bool:=few d 24&&(uT m&&(decide (l.length≤6)&&l.all fun o=>qD o 8))
def F3 (x:aC×aH×List bT):Option T:=some (Sh.enc o5 (wF x.1 x.2.1 x.2.2))
noncomputable def A27:Env:=Env.of [(13,.pure AB0),(14,.pure EM),(15,.pure EN)]
def A3Y:FuncId→Hint:=bX 4 [(4,.inv [.val 7 false (.int .i64)])] (fun _=>bI)
theorem AOE:aT Tryz.prog A27:=.cons A91 (.cons AXN (.cons AXO (.nil _)))
def UZ(a0:aC)(a1:aH)(a2:List bT)(R:T→Prop):Prop:=aI BI1 (AB0 [aF true aB a0,T.v (.int .i64 24)]) fun (y0:Bool)=>aD (!y0) (R BI0) (aI BI1 (EM [aF true aK a1]) fun (y1:Bool)=>aD (!y1) (R BI0) (aD (decide (6<(↑(List.map bA.enc a2).length:Int))) (R BI0) (aZ (Int×PUnit) (fun X2 s3=>aD (decide (s3.1<(↑(List.map bA.enc a2).length:Int))) (aP bA (List.map bA.enc a2) s3.1 fun (y4:bT)=>aI BI1 (EN [aF true bA y4,T.v (.int .i64 8)]) fun (y5:Bool)=>aD (!y5) (R BI0) (BJS X2 s3)) (R (T.v (.bool true)))) (0,()))))
abbrev XG:Sh:=[(true,aB),(true,aK),(false,bA.li)]
noncomputable def EO:List T→Option T:=gS XG F3
theorem AH7 {a0 a1 a2}:EO [aF true aB a0,aF true aK a1,T.sl false (List.map bA.enc a2)]=F3 (a0,a1,a2):=bE (s:=XG) rfl (a0,a1,a2) rfl
theorem A0U:Of3 Tryz.prog 4 EO F3 (cC XG) UZ:=RE (a1:=(true,aB)) (a2:=(true,aK)) (a3:=(false,bA.li)) (sp:=F3) (F:=UZ) (Hs:=A3Y) (f:=4) (k:=8) AOE aQ aS (aL rfl) ⟨_,_,Tryz.func4,rfl⟩ rfl fun _ _ _ _=>by kernel_rfl
theorem AXP:aN Tryz.prog 4 EO:=A0U fun d m l r h hb=>by
 clear hb
 cases h
 have no:wF d m l=false→T.v (.bool false)=Sh.enc o5 (wF d m l):=fun h=>by rw[h];rfl
 unfold UZ BJS BI1 BI0
 refine aG (s:=[(false,.bool)]) (y:=few d 24) (AYV ..) ?_
 refine jS (fun h1=>no (by unfold wF;rw[h1];rfl)) fun h1=>?_
 refine aG (s:=[(false,.bool)]) (y:=uT m) (AH5 ..) ?_
 refine jS (fun h2=>no (by unfold wF;rw[h1,h2];rfl)) fun h2=>?_
 rw[List.length_map]
 refine cF (fun h3=>no (by unfold wF;rw[h1,h2,decide_eq_false (by omega)];rfl)) fun h3=>?_
 have e:wF d m l=l.all fun o=>qD o 8:=by unfold wF;rw[h1,h2,decide_eq_true (by omega)];rfl
 refine bM l.length (fun k s=>s=((k:Int),())∧wF d m l=(l.drop k).all fun o=>qD o 8) ⟨rfl,by rw[e];rfl⟩ ?_
 rintro X k s hk ⟨rfl,he⟩ hX
 dsimp only
 refine cF (fun hlt=>?_) fun hge=>?_
 ·have hlt:k<l.length:=by omega
  rw[bG (r:=bA) hlt]
  rw[List.drop_eq_getElem_cons hlt,List.all_cons] at he
  refine aG (s:=[(false,.bool)]) (y:=qD l[k] 8) ((AH6 ..).trans (fJ rfl)) ?_
  refine jS (fun h=>no (by rw[he,h];rfl)) fun h=>hX _ hlt ⟨by rw[bH _ (by omega) (by omega)];rfl,by rw[he,h];rfl⟩
 ·rw[List.drop_eq_nil_of_le (by omega)] at he
  rw[he];rfl
theorem BEG {d:aC} {n:Nat} (h:few d (n:Int)=true):sR n d:=by
 simp only[few,Bool.and_eq_true,decide_eq_true_eq] at h
 obtain ⟨⟨⟨⟨⟨a,b⟩,c⟩,e⟩,f⟩,_⟩:=h
 exact ⟨by omega,by omega,by omega,by omega,by omega⟩
theorem A42 {m:aH} (h:uT m=true):AMM m=true:=by
 unfold uT at h
 simp only[Bool.and_eq_true,decide_eq_true_eq] at h
 obtain ⟨h1,_,h3,h4⟩:=h
 rw[List.take_of_length_le (by omega)] at h1
 unfold AMM
 rw[mZ (k:=40) (by omega) (by omega) (by omega),mZ (k:=40) (by omega) (by omega) (by omega),Bool.true_and,Bool.true_and]
 refine List.all_eq_true.2 fun g hg=>?_
 have:=List.all_eq_true.1 h1 g hg
 unfold BB at this
 rw[Bool.and_eq_true,decide_eq_true_eq] at this
 exact mZ (k:=40) (by omega) (by omega) (by omega)
theorem APS {o:bT} (h:qD o 8=true) (hE:(o.2.all fun x=>dR (dC x)&&dJ (gC x))=true):yE o=true:=by
 unfold qD at h
 rw[Bool.and_eq_true,Bool.and_eq_true,decide_eq_true_eq,decide_eq_true_eq] at h
 unfold yE
 rw[mZ (k:=40) (by omega) (by omega) (by omega),hE];rfl
theorem awV {K:Bool→Prop} (h:K true):aI [(false,Sy.bool)] (nO []) K:=aG (s:=[(false,.bool)]) (y:=true) rfl h
end Go.Pv
namespace Go.Pv
open Go Go.Proofs
theorem PI {r:Sy} {l:List r.den} {b:Nat} (h:dB b l.length=true):(decide ((List.map r.enc l).length*b≤140737488355328)&&decide ((List.map r.enc l).length≤140737488355328))=true:=by
 rw[List.length_map];exact h
theorem zQ {r:Sy} {l:List r.den} {b z:Nat} (hz:r.w=z) (h:dB b l.length=true):(fE z (List.map r.enc l)&&true&&decide ((List.map r.enc l).length*b≤140737488355328)&&decide ((List.map r.enc l).length≤140737488355328))=true:=by
 subst hz
 rw[sS,Bool.and_true,Bool.true_and,PI h]
theorem AJS {r:Sy} {l:List r.den} {b z:Nat} (hz:r.w=z) (h:dB b l.length=true):(((List.map r.enc l).all fun (x:List T)=>decide (x.length=z))&&decide ((List.map r.enc l).length*b≤140737488355328)&&decide ((List.map r.enc l).length≤140737488355328))=true:=by
 rw[Bool.and_assoc,PI h,Bool.and_true,List.all_map]
 exact List.all_eq_true.2 fun x _=>decide_eq_true (by rw[←hz];exact Sy.cP r x)
theorem yD {d:aC} (h:O3 d=true):DF d=true∧BM d=true∧dB 40 d.2.1.length=true∧dB 72 d.2.2.2.1.length=true∧dB 40 d.2.2.2.2.2.length=true∧dB 208 d.2.2.1.length=true∧dB 88 d.2.2.2.2.1.length=true:=by
 unfold O3 at h
 simp only[Bool.and_eq_true] at h
 obtain ⟨⟨hD,hK⟩,h1,h2,h3,h4,h5⟩:=h
 exact ⟨hD,hK,h1,h2,h3,h4,h5⟩
def BI9(a0:aC):List (List T):=List.map aY.enc a0.2.2.2.1
def BJA(a0:aC):List (List T):=List.map aR.enc a0.2.2.2.2.2
def BJF(a0:aC):List (List T):=List.map aJ.enc a0.2.2.1
def BJH(a0:aC):List (List T):=List.map aE.enc a0.2.2.2.2.1
def BJD(a0:aC):List (List T):=List.map aW.enc a0.2.1
def AUK(a0:aC)(R:T→Prop):Prop:=bQ (fE 3 (BJD a0)&&true && decide ((BJD a0).length*40≤140737488355328) && decide ((BJD a0).length≤140737488355328)) (bQ (fE 18 (BJF a0)&&true && decide ((BJF a0).length*208≤140737488355328) && decide ((BJF a0).length≤140737488355328)) (bQ (fE 6 (BI9 a0)&&true && decide ((BI9 a0).length*72≤140737488355328) && decide ((BI9 a0).length≤140737488355328)) (bQ (fE 5 (BJH a0)&&true && decide ((BJH a0).length*88≤140737488355328) && decide ((BJH a0).length≤140737488355328)) (bQ (fE 3 (BJA a0)&&true && decide ((BJA a0).length*40≤140737488355328) && decide ((BJA a0).length≤140737488355328)) (R (aF true aB a0))))))
theorem AOQ ( a0 R):qU none GJ false bR Tryz.prog mF dI 8 6 [aF true aB a0] R=AUK a0 R:=by kernel_rfl
abbrev XB:Sh:=[(true,aB)]
def YA (x:aC):Option T:=idK (O3 x) (aF true aB x)
noncomputable def HP:List T→Option T:=gS XB YA
theorem SR {a0}:HP [aF true aB a0]=YA a0:=bE (s:=XB) rfl a0 rfl
theorem A6J (h:∀ a0 r,YA a0=some r→cC XB a0→AUK a0 (fun y=>y=r))
   : sQ Tryz.prog 6 false none GJ HP :=
 D2 (E':=mF) (Hs':=dI) (k':=8) (E:=mF) (Hs:=dI) (bW _) aQ aS (aL rfl) 8 ⟨_,_,Tryz.func6,rfl⟩ (fun args r hg hb=>by
  obtain ⟨a0,rfl,hx⟩:=mQ hg
  rw[show Sh.iH XB a0=[aF true aB a0] from rfl,AOQ]
  exact h a0 r hx (o6 rfl hb)) (fun e=>by cases e)
theorem A5C:sQ Tryz.prog 6 false none GJ HP:=A6J fun d r h hb=>by
 obtain ⟨h1,rfl⟩:=j5 h
 obtain ⟨_,_,h1,h2,h3,h4,h5⟩:=yD h1
 exact ⟨zQ rfl h1,zQ rfl h4,zQ rfl h2,zQ rfl h5,zQ rfl h3,rfl⟩
theorem HD {r:Sy} (hr:r.pure=true) {l:List r.den} {b:Nat} {s:Sh} {G:List T→Option T} {A:r.den→List T} {W:Sh.den s→List (List T)} {Q:List r.den→Prop} {y0:r.den→Sh.den s}
  (hlen:dB b l.length=true) (hC:∀ y∈l,G (A y)=some (Sh.enc s (y0 y))) (hW:∀ y,∃ row,W (y0 y)=[row]∧row.map (T.canon 0)=r.enc y) (hQ:Q l) :
  aZ (Int×List r.den×PUnit) (fun (X:Int×List r.den×PUnit→Prop) (s2:Int×List r.den×PUnit)=>aD (decide (s2.1<((List.map r.enc l).length:Int)))
   (aP r (List.map r.enc l) s2.1 fun _=>fR r (List.map r.enc l) (Int.toNat s2.1) 0 fun y=>aI s (G (A y)) fun z=>bQ (decide (((List.map r.enc s2.2.1).length+1)*b≤140737488355328)&&decide ((List.map r.enc s2.2.1).length+1≤140737488355328))
    (cH r (List.map r.enc s2.2.1++W z) fun q=>X (IntKind.i64.wrap (s2.1+1),q,()))) (Q s2.2.1)) (0,[],()):=by
 unfold dB at hlen
 rw[Bool.and_eq_true,decide_eq_true_eq,decide_eq_true_eq] at hlen
 refine bM l.length (fun k s=>s=((k:Int),l.take k,())) rfl ?_
 rintro X k s2 hk rfl hX
 dsimp only
 rw[List.length_map,List.length_map]
 by_cases hlt:k<l.length
 ·rw[show decide ((k:Int)<(l.length:Int))=true from decide_eq_true (by omega),jT,bG hlt,Int.toNat_natCast,iQ hlt]
  refine aG (y:=y0 l[k]) (hC _ (List.getElem_mem hlt)) ?_
  have h1:(k+1)*b≤l.length*b:=Nat.mul_le_mul_right b (by omega)
  refine ⟨by rw[List.length_take,Nat.min_eq_left (by omega),Bool.and_eq_true,decide_eq_true_eq,decide_eq_true_eq];omega,?_⟩
  obtain ⟨row,e1,e2⟩:=hW l[k]
  rw[e1,sV hr (l.take k) row l[k] e2]
  refine hX _ hlt ?_
  rw[show IntKind.i64.wrap ((k:Int)+1)=((k+1:Nat):Int) from bH _ (by omega) (by omega),List.take_add_one,List.getElem?_eq_getElem hlt];rfl
 ·have:k=l.length:=by omega
  subst this
  rw[show decide ((l.length:Int)<(l.length:Int))=false from decide_eq_false (by omega),mX,List.take_length]
  exact hQ
def kG (a0:List bC):List T:=[T.sl false (List.map aJ.enc a0),T.fn 64 [] []]
noncomputable def GM:Env:=Env.of [(64,.pure iN)]
def RQ:FuncId→Hint:=bX 63 [(3,.inv [.val 10 false (.int .i64),.own 5 18 aJ])] (fun _=>bI)
theorem ZB:aT Tryz.prog GM:=.cons CB (.nil _)
def BI7(s1:Int×List bC×PUnit):List (List T):=List.map aJ.enc s1.2.1
def BJE(y2:bC)(s1:Int×List bC×PUnit)(X0:Int×List bC×PUnit→Prop):Prop:=aI [(true,aJ)] (iN [aF true aJ y2]) fun (y3:bC)=>bQ (decide (((BI7 s1).length+1)*208≤140737488355328) && decide ((BI7 s1).length+1≤140737488355328)) (cH aJ (List.map aJ.enc s1.2.1 ++ [(aJ.enc y3)]) fun (y4:List bC)=>X0 (IntKind.i64.wrap (s1.1+1),y4,()))
def RL(a0:List bC)(R:T→Prop):Prop:=aZ (Int×List bC×PUnit) (fun X0 s1=>aD (decide (s1.1<(↑(List.map aJ.enc a0).length:Int))) (aP aJ (List.map aJ.enc a0) s1.1 fun (y2:bC)=>BJE y2 s1 X0) (R (T.sl false (BI7 s1)))) (0,[],())
theorem UR ( a0 R):qU (some 64) [(0,18)] false bR Tryz.prog GM RQ 8 63 (kG a0) R=RL a0 R:=by kernel_rfl
def AEW (a0:List bC):List T:=[T.sl false (List.map aJ.enc a0),T.fn 64 [] []]
noncomputable def BW:Env:=Env.of [(64,.pure iN)]
def MX:FuncId→Hint:=bX 63 [(3,.inv [.val 10 false (.int .i64),.own 5 18 aJ])] (fun _=>bI)
theorem UL:aT Tryz.prog BW:=.cons CB (.nil _)
def L4(a0:List bC)(R:T→Prop):Prop:=aZ (Int×List bC×PUnit) (fun X0 s1=>aD (decide (s1.1<(↑(List.map aJ.enc a0).length:Int))) (aP aJ (List.map aJ.enc a0) s1.1 fun (y2:bC)=>fR aJ (List.map aJ.enc a0) (Int.toNat s1.1) 0 fun (y3:bC)=>BJE y3 s1 X0) (R (T.sl false (BI7 s1)))) (0,[],())
theorem QZ ( a0 R):qU (some 64) [(0,18)] true bR Tryz.prog BW MX 8 63 (AEW a0) R=L4 a0 R:=by kernel_rfl
def vS (x:List bC):Option T:=idK (dB 208 x.length&&x.all fun y=>dR y) (.sl false (List.map aJ.enc x))
theorem QV (x y:List bC) (h:kG x=kG y):x=y:=by
 unfold kG at h
 simp only[List.cons.injEq,T.sl.injEq,and_true,true_and] at h
 exact map_inj (Sy.dH aJ) h
noncomputable def nS:List T→Option T:=gA kG vS
theorem EJ (a0:List bC):nS (kG a0)=vS a0:=eN (A:=kG) QV a0
theorem AI5 (h:∀ a0 r,vS a0=some r→(∀ t∈kG a0,Bd t)→RL a0 (fun y=>y=r))
  (h':∀ a0 r,vS a0=some r→(∀ t∈kG a0,Bd t)→L4 a0 (fun y=>y=r)):sQ Tryz.prog 63 true (some 64) [(0,18)] nS :=
 D2 (E':=BW) (Hs':=MX) (k':=8) (E:=GM) (Hs:=RQ) ZB aQ aS (aL rfl) 8 ⟨_,_,Tryz.func63,rfl⟩ (fun args r hg hb=>by
  obtain ⟨a0,rfl,hx⟩:=uY hg
  exact Eq.mpr (UR a0 _) (h a0 r hx hb)) (fun _=>⟨UL,aL rfl,(fun args r hg hb=>by
  obtain ⟨a0,rfl,hx⟩:=uY hg
  exact Eq.mpr (QZ a0 _) (h' a0 r hx hb))⟩)
theorem N2:sQ Tryz.prog 63 true (some 64) [(0,18)] nS:=AI5 (fun l r h hb=>by
 obtain ⟨h1,rfl⟩:=j5 h
 rw[Bool.and_eq_true,List.all_eq_true] at h1
 exact w4 (r:=aJ) rfl (b:=208) (s:=[(true,aJ)]) (G:=iN) (A:=fun y=>[aF true aJ y]) (W:=fun z=>[Sy.enc aJ z]) (Q:=fun q=>T.sl false (List.map aJ.enc q)=T.sl false (List.map aJ.enc l)) (y0:=fun y=>y)
  h1.1 (fun y hy=>(u9 ..).trans (fM _ (h1.2 y hy))) (fun y=>⟨_,rfl,gB (r:=aJ) y rfl⟩) rfl) fun l r h hb=>by
 obtain ⟨h1,rfl⟩:=j5 h
 rw[Bool.and_eq_true,List.all_eq_true] at h1
 exact HD (r:=aJ) rfl (b:=208) (s:=[(true,aJ)]) (G:=iN) (A:=fun y=>[aF true aJ y]) (W:=fun z=>[Sy.enc aJ z]) (Q:=fun q=>T.sl false (List.map aJ.enc q)=T.sl false (List.map aJ.enc l)) (y0:=fun y=>y)
  h1.1 (fun y hy=>(u9 ..).trans (fM _ (h1.2 y hy))) (fun y=>⟨_,rfl,gB (r:=aJ) y rfl⟩) rfl
def kF (a0:List aV):List T:=[T.sl false (List.map aE.enc a0),T.fn 66 [] []]
noncomputable def GL:Env:=Env.of [(66,.pure iM)]
def RP:FuncId→Hint:=bX 65 [(3,.inv [.val 10 false (.int .i64),.own 5 5 aE])] (fun _=>bI)
theorem ZA:aT Tryz.prog GL:=.cons CA (.nil _)
def BI5(y2:aV)(s1:Int×List aV×PUnit)(X0:Int×List aV×PUnit→Prop):Prop:=aI [(true,aE)] (iM [aF true aE y2]) fun (y3:aV)=>bQ (decide (((List.map aE.enc s1.2.1).length+1)*88≤140737488355328) && decide ((List.map aE.enc s1.2.1).length+1≤140737488355328)) (cH aE (List.map aE.enc s1.2.1 ++ [[T.v (.string y3.1),T.v (.string y3.2.1), T.sl false (List.map Sy.str.enc y3.2.2.1), T.v (.int .i64 y3.2.2.2.1), T.sl false (List.map Sy.str.enc y3.2.2.2.2)]]) fun (y4:List aV)=>X0 (IntKind.i64.wrap (s1.1+1),y4,()))
def RJ(a0:List aV)(R:T→Prop):Prop:=aZ (Int×List aV×PUnit) (fun X0 s1=>aD (decide (s1.1<(↑(List.map aE.enc a0).length:Int))) (aP aE (List.map aE.enc a0) s1.1 fun (y2:aV)=>BI5 y2 s1 X0) (R (T.sl false (List.map aE.enc s1.2.1)))) (0,[],())
theorem UQ ( a0 R):qU (some 66) [(0,5)] false bR Tryz.prog GL RP 8 65 (kF a0) R=RJ a0 R:=by kernel_rfl
def AEV (a0:List aV):List T:=[T.sl false (List.map aE.enc a0),T.fn 66 [] []]
noncomputable def BV:Env:=Env.of [(66,.pure iM)]
def MW:FuncId→Hint:=bX 65 [(3,.inv [.val 10 false (.int .i64),.own 5 5 aE])] (fun _=>bI)
theorem UK:aT Tryz.prog BV:=.cons CA (.nil _)
def L3(a0:List aV)(R:T→Prop):Prop:=aZ (Int×List aV×PUnit) (fun X0 s1=>aD (decide (s1.1<(↑(List.map aE.enc a0).length:Int))) (aP aE (List.map aE.enc a0) s1.1 fun (y2:aV)=>fR aE (List.map aE.enc a0) (Int.toNat s1.1) 0 fun (y3:aV)=>BI5 y3 s1 X0) (R (T.sl false (List.map aE.enc s1.2.1)))) (0,[],())
theorem QY ( a0 R):qU (some 66) [(0,5)] true bR Tryz.prog BV MW 8 65 (AEV a0) R=L3 a0 R:=by kernel_rfl
def vR (x:List aV):Option T:=idK (dB 88 x.length&&x.all fun y=>dJ y) (.sl false (List.map aE.enc x))
theorem QU (x y:List aV) (h:kF x=kF y):x=y:=by
 unfold kF at h
 simp only[List.cons.injEq,T.sl.injEq,and_true,true_and] at h
 exact map_inj (Sy.dH aE) h
noncomputable def nR:List T→Option T:=gA kF vR
theorem EI (a0:List aV):nR (kF a0)=vR a0:=eN (A:=kF) QU a0
theorem AI4 (h:∀ a0 r,vR a0=some r→(∀ t∈kF a0,Bd t)→RJ a0 (fun y=>y=r))
  (h':∀ a0 r,vR a0=some r→(∀ t∈kF a0,Bd t)→L3 a0 (fun y=>y=r)):sQ Tryz.prog 65 true (some 66) [(0,5)] nR :=
 D2 (E':=BV) (Hs':=MW) (k':=8) (E:=GL) (Hs:=RP) ZA aQ aS (aL rfl) 8 ⟨_,_,Tryz.func65,rfl⟩ (fun args r hg hb=>by
  obtain ⟨a0,rfl,hx⟩:=uY hg
  exact Eq.mpr (UQ a0 _) (h a0 r hx hb)) (fun _=>⟨UK,aL rfl,(fun args r hg hb=>by
  obtain ⟨a0,rfl,hx⟩:=uY hg
  exact Eq.mpr (QY a0 _) (h' a0 r hx hb))⟩)
theorem N1:sQ Tryz.prog 65 true (some 66) [(0,5)] nR:=AI4 (fun l r h hb=>by
 obtain ⟨h1,rfl⟩:=j5 h
 rw[Bool.and_eq_true,List.all_eq_true] at h1
 exact w4 (r:=aE) rfl (b:=88) (s:=[(true,aE)]) (G:=iM) (A:=fun y=>[aF true aE y]) (W:=fun z=>[Sy.enc aE z]) (Q:=fun q=>T.sl false (List.map aE.enc q)=T.sl false (List.map aE.enc l)) (y0:=fun y=>y)
  h1.1 (fun y hy=>(u7 ..).trans (fM _ (h1.2 y hy))) (fun y=>⟨_,rfl,gB (r:=aE) y rfl⟩) rfl) fun l r h hb=>by
 obtain ⟨h1,rfl⟩:=j5 h
 rw[Bool.and_eq_true,List.all_eq_true] at h1
 exact HD (r:=aE) rfl (b:=88) (s:=[(true,aE)]) (G:=iM) (A:=fun y=>[aF true aE y]) (W:=fun z=>[Sy.enc aE z]) (Q:=fun q=>T.sl false (List.map aE.enc q)=T.sl false (List.map aE.enc l)) (y0:=fun y=>y)
  h1.1 (fun y hy=>(u7 ..).trans (fM _ (h1.2 y hy))) (fun y=>⟨_,rfl,gB (r:=aE) y rfl⟩) rfl
noncomputable def AE5:Env:=Env.of [(60,.dup 3 40),(61,.dup 6 72),(62,.dup 3 40),(63,.cpy true (some 64) [(0,18)] nS),(65,.cpy true (some 66) [(0,5)] nR)]
theorem ATV:aT Tryz.prog AE5:=aT.cons (x:=.dup 3 40) qF (aT.cons (x:=.dup 6 72) qG (aT.cons (x:=.dup 3 40) qE (.cons N2 (.cons N1 (.nil _)))))
def BJB(a0:aC)(R:T→Prop):Prop:=aI [(false,aJ.li)] (nS [T.sl false (BJF a0),T.fn 64 [] []]) fun (y0:List bC)=>aI [(false,aE.li)] (nR [T.sl false (BJH a0),T.fn 66 [] []]) fun (y1:List aV)=>R ((aF true aB (a0.1,a0.2.1,y0,a0.2.2.2.1,y1,a0.2.2.2.2.2)))
def AUL(a0:aC)(R:T→Prop):Prop:=bQ (((BJD a0).all fun (r:List T)=>decide (r.length=3)) && decide ((BJD a0).length*40≤140737488355328) && decide ((BJD a0).length≤140737488355328)) (bQ (((BI9 a0).all fun (r:List T)=>decide (r.length=6)) && decide ((BI9 a0).length*72≤140737488355328) && decide ((BI9 a0).length≤140737488355328)) (bQ (((BJA a0).all fun (r:List T)=>decide (r.length=3)) && decide ((BJA a0).length*40≤140737488355328) && decide ((BJA a0).length≤140737488355328)) (BJB a0 R)))
theorem AOR ( a0 R):qU none GJ false bR Tryz.prog AE5 dI 8 22 [aF true aB a0] R=AUL a0 R:=by kernel_rfl
abbrev ID:Sh:=[(true,aB)]
noncomputable def UI:Env:=Env.of [(60,.dup 3 40),(61,.dup 6 72),(62,.dup 3 40),(63,.cpy true (some 64) [(0,18)] nS),(65,.cpy true (some 66) [(0,5)] nR)]
theorem AOD:aT Tryz.prog UI:=aT.cons (x:=.dup 3 40) qF (aT.cons (x:=.dup 6 72) qG (aT.cons (x:=.dup 3 40) qE (.cons N2 (.cons N1 (.nil _)))))
def AK6(a0:aC)(R:T→Prop):Prop:=bQ (decide ((BJD a0).length*40≤140737488355328) && decide ((BJD a0).length≤140737488355328)) (bQ (decide ((BI9 a0).length*72≤140737488355328) && decide ((BI9 a0).length≤140737488355328)) (bQ (decide ((BJA a0).length*40≤140737488355328) && decide ((BJA a0).length≤140737488355328)) (BJB a0 R)))
theorem AF6 ( a0 R):qU none GJ true bR Tryz.prog UI dI 8 22 [aF true aB a0] R=AK6 a0 R:=by kernel_rfl
def K7 (x:aC):Option T:=idK (O3 x) (aF true aB x)
noncomputable def u6:List T→Option T:=gS ID K7
theorem zF {a0}:u6 [aF true aB a0]=K7 a0:=bE (s:=ID) rfl a0 rfl
theorem A6K (h:∀ a0 r,K7 a0=some r→cC ID a0→AUL a0 (fun y=>y=r))
  (h':∀ a0 r,K7 a0=some r→cC ID a0→AK6 a0 (fun y=>y=r)):sQ Tryz.prog 22 true none GJ u6 :=
 D2 (E':=UI) (Hs':=dI) (k':=8) (E:=AE5) (Hs:=dI) ATV aQ aS (aL rfl) 8 ⟨_,_,Tryz.func22,rfl⟩ (fun args r hg hb=>by
  obtain ⟨a0,rfl,hx⟩:=mQ hg
  rw[show Sh.iH ID a0=[aF true aB a0] from rfl,AOR]
  exact h a0 r hx (o6 rfl hb)) (fun _=>⟨AOD,aL rfl,(fun args r hg hb=>by
  obtain ⟨a0,rfl,hx⟩:=mQ hg
  rw[show Sh.iH ID a0=[aF true aB a0] from rfl,AF6]
  exact h' a0 r hx (o6 rfl hb))⟩)
theorem A5D:sQ Tryz.prog 22 true none GJ u6:=A6K (fun d r h hb=>by
 obtain ⟨h1,rfl⟩:=j5 h
 obtain ⟨hD,hK,h1,h2,h3,h4,h5⟩:=yD h1
 refine ⟨AJS rfl h1,AJS rfl h2,AJS rfl h3,?_⟩
 refine aG (s:=[(false,aJ.li)]) (y:=d.2.2.1) ((EJ _).trans (fM _ (by rw[h4,Bool.true_and];exact hD))) ?_
 exact aG (s:=[(false,aE.li)]) (y:=d.2.2.2.2.1) ((EI _).trans (fM _ (by rw[h5,Bool.true_and];exact hK))) rfl) fun d r h hb=>by
 obtain ⟨h1,rfl⟩:=j5 h
 obtain ⟨hD,hK,h1,h2,h3,h4,h5⟩:=yD h1
 refine ⟨PI h1,PI h2,PI h3,?_⟩
 refine aG (s:=[(false,aJ.li)]) (y:=d.2.2.1) ((EJ _).trans (fM _ (by rw[h4,Bool.true_and];exact hD))) ?_
 exact aG (s:=[(false,aE.li)]) (y:=d.2.2.2.2.1) ((EI _).trans (fM _ (by rw[h5,Bool.true_and];exact hK))) rfl
noncomputable def GO:Env:=Env.of [(71,.pure o9)]
def RT:FuncId→Hint:=bX 70 [(3,.inv [.val 10 false (.int .i64),.own 5 38 aM])] (fun _=>bI)
theorem ZD:aT Tryz.prog GO:=.cons AA9 (.nil _)
def RN(a0:bT)(R:T→Prop):Prop:=aZ (Int×List aX×PUnit) (fun X0 s1=>aD (decide (s1.1<(↑(BI6 a0).length:Int))) (aP aM (BI6 a0) s1.1 fun (y2:aX)=>fR aM (BI6 a0) (Int.toNat s1.1) 0 fun (y3:aX)=>BJC y3 s1 X0) (R (T.agg [T.v (.string a0.1),T.sl false (BJI s1)]))) (0,[],())
theorem UW ( a0 R):AK0 ANC bR Tryz.prog GO RT 8 27 [aF true bA a0] R=RN a0 R:=by kernel_rfl
abbrev zR:Sh:=[(true,bA)]
def DP (x:bT):Option T:=idK (yE x) (aF true bA x)
noncomputable def tE:List T→Option T:=gS zR DP
theorem V7 {a0}:tE [aF true bA a0]=DP a0:=bE (s:=zR) rfl a0 rfl
theorem AI7 (h:∀ a0 r,DP a0=some r→cC zR a0→RN a0 (fun y=>y=r)):lM Tryz.prog 27 (AX3 ANC tE) :=
 A66 (E:=GO) (Hs:=RT) ZD aQ aS (aL rfl) 8 ⟨_,_,Tryz.func27,rfl⟩ fun args r hg hb=>by
  obtain ⟨a0,rfl,hx⟩:=mQ hg
  rw[show Sh.iH zR a0=[aF true bA a0] from rfl,UW]
  exact h a0 r hx (o6 rfl hb)
theorem AHH:lM Tryz.prog 27 (AX3 ANC tE):=AI7 fun o r h hb=>by
 obtain ⟨h1,rfl⟩:=j5 h
 unfold yE at h1
 rw[Bool.and_eq_true,List.all_eq_true] at h1
 exact HD (r:=aM) rfl (b:=488) (s:=[(true,aM)]) (G:=o9) (A:=fun y=>[aF true aM y]) (W:=fun z=>[Sy.enc aM z]) (Q:=fun q=>T.agg [T.v (.string o.1),T.sl false (List.map aM.enc q)]=aF true bA o) (y0:=fun y=>y)
  h1.1 (fun y hy=>(OF ..).trans (fM _ (h1.2 y hy))) (fun y=>⟨_,rfl,gB (r:=aM) y rfl⟩) rfl
end Go.Pv
namespace Go.Pv
open Go Go.Proofs
noncomputable def v8 (x:aX×aX):Option T:=some (Sh.enc o5 (nH x.1 x.2))
noncomputable def AN7:Env:=Env.of [(25,.pure lT),(26,.pure lS)]
theorem ZM:aT Tryz.prog AN7:=.cons JM (.cons JL (.nil _))
def G0(a0:aX)(a1:aX)(R:T→Prop):Prop:=aD (decide (a0.1=a1.1)) (aD (decide (a0.2.1=a1.2.1)) (aD (decide (a0.2.2.1=a1.2.2.1)) (aD (decide (a0.2.2.2.1.1=a1.2.2.2.1.1) && (decide (a0.2.2.2.1.2.1=a1.2.2.2.1.2.1) && (decide (a0.2.2.2.1.2.2=a1.2.2.2.1.2.2)&&true))) (aI BI1 (lT [aF true aJ a0.2.2.2.2.1,aF true aJ a1.2.2.2.2.1]) fun (y0:Bool)=>aD y0 (aD (decide (a0.2.2.2.2.2.1.1=a1.2.2.2.2.2.1.1) && (decide (a0.2.2.2.2.2.1.2.1=a1.2.2.2.2.2.1.2.1) && (decide (a0.2.2.2.2.2.1.2.2.1=a1.2.2.2.2.2.1.2.2.1) && (decide (a0.2.2.2.2.2.1.2.2.2.1=a1.2.2.2.2.2.1.2.2.2.1) && (decide (a0.2.2.2.2.2.1.2.2.2.2.1 = a1.2.2.2.2.2.1.2.2.2.2.1) && (decide (a0.2.2.2.2.2.1.2.2.2.2.2 = a1.2.2.2.2.2.1.2.2.2.2.2) && true)))))) (aI BI1 (lS [aF true aE a0.2.2.2.2.2.2.1, aF true aE a1.2.2.2.2.2.2.1]) fun (y1:Bool)=>aD y1 (R (T.v (.bool (decide (a0.2.2.2.2.2.2.2.1=a1.2.2.2.2.2.2.2.1) && (decide (a0.2.2.2.2.2.2.2.2.1=a1.2.2.2.2.2.2.2.2.1) && (decide (a0.2.2.2.2.2.2.2.2.2=a1.2.2.2.2.2.2.2.2.2) && true)))))) (R BI0)) (R BI0)) (R BI0)) (R BI0)) (R BI0)) (R BI0)) (R BI0)
abbrev IM:Sh:=[(true,aM),(true,aM)]
noncomputable def pR:List T→Option T:=gS IM v8
theorem WH {a0 a1}:pR [aF true aM a0,aF true aM a1]=v8 (a0,a1):=bE (s:=IM) rfl (a0,a1) rfl
theorem AJG:r8 Tryz.prog 31 pR v8 (cC IM) G0:=iB (a1:=(true,aM)) (a2:=(true,aM)) (sp:=v8) (F:=G0) (Hs:=dI) (f:=31) (k:=8) ZM aQ aS (aL rfl) ⟨_,_,Tryz.func31,rfl⟩ rfl fun _ _ _=>by kernel_rfl
theorem AHS:aN Tryz.prog 31 pR:=AJG fun a b r h hb=>by
 cases h
 clear hb
 have no:¬ a=b→T.v (.bool false)=Sh.enc o5 (nH a b):=fun h=>by
  rw[show nH a b=false from Bool.eq_false_iff.2 fun e=>h (dP.1 e)];rfl
 unfold G0 BI1 BI0
 refine cF (fun h1=>?_) fun h=>no fun e=>h (by rw[e])
 refine cF (fun h2=>?_) fun h=>no fun e=>h (by rw[e])
 refine cF (fun h3=>?_) fun h=>no fun e=>h (by rw[e])
 refine BH (fun h4=>?_) fun h=>no fun e=>by rw[e] at h;simp at h
 refine aG (s:=o5) (y:=nH a.2.2.2.2.1 b.2.2.2.2.1) (BD ..) ?_
 refine BH (fun h5=>?_) fun h=>no fun e=>by rw[e,dP.2 rfl] at h;cases h
 refine BH (fun h6=>?_) fun h=>no fun e=>by rw[e] at h;simp at h
 refine aG (s:=o5) (y:=nH a.2.2.2.2.2.2.1 b.2.2.2.2.2.2.1) (BC ..) ?_
 refine BH (fun h7=>?_) fun h=>no fun e=>by rw[e,dP.2 rfl] at h;cases h
 replace h5:=dP.1 h5
 replace h7:=dP.1 h7
 show T.v (.bool _)=T.v (.bool (nH a b))
 congr 2
 rw[Bool.eq_iff_iff,dP]
 obtain ⟨a1,a2,a3,⟨a4,a5,a6⟩,a7,⟨a8,a9,a10,a11,a12,a13⟩,a14,a15,a16,a17⟩:=a
 obtain ⟨b1,b2,b3,⟨b4,b5,b6⟩,b7,⟨b8,b9,b10,b11,b12,b13⟩,b14,b15,b16,b17⟩:=b
 simp only[Bool.and_true,Bool.and_eq_true,decide_eq_true_eq] at h1 h2 h3 h4 h5 h6 h7 ⊢
 obtain ⟨h41,h42,h43⟩:=h4
 obtain ⟨h61,h62,h63,h64,h65,h66⟩:=h6
 subst h1 h2 h3 h41 h42 h43 h5 h61 h62 h63 h64 h65 h66 h7
 simp only[Prod.mk.injEq,true_and]
noncomputable def qS (x:bT×bT):Option T:=some (Sh.enc o5 (nH x.1 x.2))
noncomputable def AN8:Env:=Env.of [(31,.pure pR)]
def AO1:FuncId→Hint:=bX 12 [(4,.inv [.val 5 false (.int .i64)])] (fun _=>bI)
theorem ZN:aT Tryz.prog AN8:=.cons AHS (.nil _)
def G1(a0:bT)(a1:bT)(R:T→Prop):Prop:=aD (!decide (a0.1=a1.1)) (R BI0) (aD (!decide ((↑(BI6 a0).length:Int)=(↑(BI6 a1).length:Int))) (R BI0) (aZ (Int×PUnit) (fun X0 s1=>aD (decide (s1.1<(↑(BI6 a0).length:Int))) (aP aM (BI6 a0) s1.1 fun (y2:aX)=>aP aM (BI6 a1) s1.1 fun (y3:aX)=>aI BI1 (pR [aF true aM y2,aF true aM y3]) fun (y4:Bool)=>aD (!y4) (R BI0) (BJS X0 s1)) (R (T.v (.bool true)))) (0,())))
abbrev IP:Sh:=[(true,bA),(true,bA)]
noncomputable def tP:List T→Option T:=gS IP qS
theorem WI {a0 a1}:tP [aF true bA a0,aF true bA a1]=qS (a0,a1):=bE (s:=IP) rfl (a0,a1) rfl
theorem AJH:r8 Tryz.prog 12 tP qS (cC IP) G1:=iB (a1:=(true,bA)) (a2:=(true,bA)) (sp:=qS) (F:=G1) (Hs:=AO1) (f:=12) (k:=8) ZN aQ aS (aL rfl) ⟨_,_,Tryz.func12,rfl⟩ rfl fun _ _ _=>by kernel_rfl
theorem AHT:aN Tryz.prog 12 tP:=AJH fun a b r h hb=>by
 cases h
 have no:¬ a=b→T.v (.bool false)=Sh.enc o5 (nH a b):=fun h=>by rw[uR h];rfl
 have yes:a=b→T.v (.bool true)=Sh.enc o5 (nH a b):=fun h=>by rw[dP.2 h];rfl
 unfold G1 BI6 BJS BI1 BI0
 refine e7 (fun h=>no fun e=>by simp[e] at h) fun h1=>?_
 refine e7 (fun h=>no fun e=>by simp[e] at h) fun g1=>?_
 simp only[show ∀ x y,pR [aF true aM x,aF true aM y]=some (Sh.enc o5 (nH x y)) from fun x y=>WH,tY]
 exact qA (r:=aM) (DC g1) hb.1.2.1 _ (fun x y=>dP) (fun h2=>yes (Prod.ext (by simpa using h1) h2)) fun h=>no fun e=>h (by rw[e])
noncomputable def EP:List T→Option T:=gD EO
theorem AP5:aN Tryz.prog 4 EP:=AXP.deep
theorem A43 (d:aC) (m:aH) (o:bT):EP [aF true aB d,aF true aK m,T.sl true [[T.v (.string o.1),T.sl false (List.map aM.enc o.2)]]]=some (Sh.enc o5 (wF d m [o])):=by
 show EO [T.deep 4 (aF true aB d),T.deep 4 (aF true aK m),T.deep 4 (aF false (.li bA) [o])]=_
 rw[HE (ag:=true) (r:=aB) 3 d rfl rfl,HE (ag:=true) (r:=aK) 3 m rfl rfl,HE (ag:=false) (r:=.li bA) 3 [o] rfl rfl]
 exact AH7 ..
noncomputable def A28:Env:=Env.of [(4,.pure EP),(6,.cpy false none GJ HP),(20,.pure cM),(21,.pure xL),(22,.cpy true none GJ u6),(27,.read (AX3 ANC tE)),(24,.pure CH),(11,.read (ALZ 8 2 xM)),(9,.pure j2),(12,.pure tP),(5,.pure nO)]
def A3Z:FuncId→Hint:=fun f=>match f == 3 with|true=>⟨fun r=>match r == 8 with|true=>.inv [.val 11 false (.int .i64),.arr 12 18 aJ]|false=>match r == 12 with|true=>.inv [.val 12 false (.int .i64),.arr 11 3 aW]|false=>match r == 19 with|true=>.inv [.val 15 false (.int .i64),.arr 35 18 aJ]|false=>match r == 23 with|true=>.inv [.val 16 false (.int .i64),.arr 36 6 aY]|false=>match r == 29 with|true=>.inv [.val 20 false (.int .i64),.arr 42 38 aM]|false=>.none,fun i j=>match i == 7&&j == 7 with|true=>some [.val 11 false (.int .i64),.drop 23,.drop 24,.drop 25,.drop 26,.drop 27,.box 28 (.pr .any (.pr .any (.pr aB (.pr .any (.pr .any (.pr .any (.pr .any (.pr .any (.pr .any .any))))))))),.HA 28 8 2 bA]|false=>match i == 27&&j == 27 with|true=>some [.val 19 false (.int .i64),.box 28 (.pr .any (.pr .any (.pr aB (.pr .any (.pr .any (.pr .any (.pr .any (.pr .any (.pr .any .any))))))))),.HA 28 8 2 bA]|false=>none,fun _=>none⟩|false=>match f == 8 with|true=>⟨AMA [(6,.YU 1)],fun _ _=>none,fun _=>none⟩|false=>match f == 72 with|true=>⟨AMA [(2,.inv [.val 8 false (.int .i64)])],fun _ _=>none,fun _=>none⟩|false=>bI
theorem AOF:aT Tryz.prog A28:=.cons AP5 (.cons A5C (.cons jX (.cons AP0 (.cons A5D (.cons AHH (.cons A49 (.cons A5H (.cons V2 (.cons AHT (.cons AHF (.nil _)))))))))))
def BI8(s14: Int × PUnit × PUnit × PUnit × PUnit × PUnit × (T×T×aC×T×T×iJ) × List bT×PUnit):List (List T):=List.map bA.enc s14.2.2.2.2.2.2.2.1
def BJK(s14: Int × PUnit × PUnit × PUnit × PUnit × PUnit × (T×T×aC×T×T×iJ) × List bT×PUnit):List (List T):=List.map aE.enc s14.2.2.2.2.2.2.1.2.2.1.2.2.2.2.1
def BJL(s14: Int × PUnit × PUnit × PUnit × PUnit × PUnit × (T×T×aC×T×T×iJ) × List bT×PUnit):List (List T):=List.map aR.enc s14.2.2.2.2.2.2.1.2.2.1.2.2.2.2.2
def BJN(s14: Int × PUnit × PUnit × PUnit × PUnit × PUnit × (T×T×aC×T×T×iJ) × List bT×PUnit):List (List T):=List.map aY.enc s14.2.2.2.2.2.2.1.2.2.1.2.2.2.1
def BJO(y19:Int):List T:=[T.v (.int .i64 (IntKind.i64.wrap (y19+1)))]
def BJP(R:T→Prop):Prop:=aI BI1 (nO []) fun (y5:Bool)=>R (T.v (.bool y5))
def BJQ(s14: Int × PUnit × PUnit × PUnit × PUnit × PUnit × (T×T×aC×T×T×iJ) × List bT×PUnit):List (List T):=List.map aJ.enc s14.2.2.2.2.2.2.1.2.2.1.2.2.1
def BJT(s14: Int × PUnit × PUnit × PUnit × PUnit × PUnit × (T×T×aC×T×T×iJ) × List bT×PUnit):List (List T):=List.map aW.enc s14.2.2.2.2.2.2.1.2.2.1.2.1
def BJY(s41:Int×List eB×PUnit):List (List T):=List.map aY.enc s41.2.1
def U1(a0:aC)(a1:aH)(a2:bT)(R:T→Prop):Prop:=aI BI1 (EP [aF true aB a0,aF true aK a1, T.sl true [[T.v (.string a2.1),T.sl false (BI6 a2)]]]) fun (y0:Bool)=>aD (!y0) (aI BI1 (nO []) fun (y1:Bool)=>R (T.v (.bool y1))) (aI [(true,aB)] (HP [aF true aB a0]) fun (y2:aC)=>aI [(true,aB)] (HP [aF true aB a0]) fun (y3:aC)=>aI [(false,Sy.int IntKind.i64)] (cM [aF true aB y2,aF true aK a1]) fun (y4:Int)=>aD (!decide (y4=0)) (aD (!decide (y4=0)) (BJP R) (R BI0)) (aI [(true,aK)] (xL [aF true aK a1]) fun (y6:aH)=>aI [(true,aB)] (u6 [aF true aB y2]) fun (y7:aC)=>oK (Int × PUnit × PUnit × PUnit × PUnit × PUnit × (T×T×aC×T×T×iJ) × List bT×PUnit) (fun (X8 : Int × PUnit × PUnit × PUnit × PUnit × PUnit × (T×T×aC×T×T×iJ) × List bT×PUnit → Prop)=>cH aW (BJD y7) fun (y9:List dL)=>cH aJ (BJF y7) fun (y10:List bC)=>cH aY (BI9 y7) fun (y11:List eB)=>cH aE (BJH y7) fun (y12:List aV)=>cH aR (BJA y7) fun (y13:List cX)=>X8 (0,(),(),(),(),(), (T.sl false (BJW y6), T.sl false (BJZ y6), (y7.1,y9,y10,y11,y12,y13),T.sl false [], T.v (.string y7.1), T.sl false (BJD y7), T.sl false (BJF y7), T.sl false (BI9 y7), T.sl false (BJH y7), T.sl false (BJA y7)), [],())) fun (s14 : Int × PUnit × PUnit × PUnit × PUnit × PUnit × (T×T×aC×T×T×iJ) × List bT×PUnit)=>cH aJ (BJF y2) fun (y15:List bC)=>aZ (Int×List bC×PUnit) (fun X16 s17=>aD (decide (s17.1<(↑(BI7 s17).length:Int))) (aP aJ (BI7 s17) s17.1 fun (y18:bC)=>fR BI2 (BI7 s17) (Int.toNat s17.1) 10 fun (y19:Int)=>aP aJ (BI7 s17) s17.1 fun (y20:bC)=>sJ (BI7 s17) (Int.toNat s17.1) fun (y21:List T)=>bQ (decide (11≤y21.length)) (cH aJ ((BI7 s17).set (Int.toNat s17.1) (bP y21 10 (BJO y19))) fun (y22:List bC)=>X16 (IntKind.i64.wrap (s17.1+1),y22,()))) (cH aW (BJD y2) fun (y23:List dL)=>aZ (Int×List dL×PUnit) (fun X24 s25=>aD (decide (s25.1<(↑(List.map aW.enc s25.2.1).length:Int))) (aP aW (List.map aW.enc s25.2.1) s25.1 fun (y26:dL)=>sJ (List.map aW.enc s25.2.1) (Int.toNat s25.1) fun (y27:List T)=>bQ (decide (1≤y27.length)) (cH aW ((List.map aW.enc s25.2.1).set (Int.toNat s25.1) (bP y27 0 [T.v (.string {data:=#[120]})])) fun (y28:List dL)=>X24 (IntKind.i64.wrap (s25.1+1),y28,()))) (bQ true (aI [(true,aB)] (u6 [aF true aB s14.2.2.2.2.2.2.1.2.2.1]) fun (y29:aC)=>aI BI1 (j2 [aF true aB y29,aF true aB y3]) fun (y30:Bool)=>aD (!y30) (R BI0) (cH aJ (BJF y29) fun (y31:List bC)=>aZ (Int×List bC×PUnit) (fun X32 s33=>aD (decide (s33.1<(↑(BI7 s33).length:Int))) (aP aJ (BI7 s33) s33.1 fun (y34:bC)=>fR BI2 (BI7 s33) (Int.toNat s33.1) 10 fun (y35:Int)=>aP aJ (BI7 s33) s33.1 fun (y36:bC)=>sJ (BI7 s33) (Int.toNat s33.1) fun (y37:List T)=>bQ (decide (11≤y37.length)) (cH aJ ((BI7 s33).set (Int.toNat s33.1) (bP y37 10 (BJO y35))) fun (y38:List bC)=>X32 (IntKind.i64.wrap (s33.1+1),y38,()))) (cH aY (BI9 y29) fun (y39:List eB)=>aZ (Int×List eB×PUnit) (fun X40 s41=>aD (decide (s41.1 < (↑(BJY s41).length:Int))) (aP aY (BJY s41) s41.1 fun (y42:eB)=>fR BI2 (BJY s41) (Int.toNat s41.1) 4 fun (y43:Int)=>aP aY (BJY s41) s41.1 fun (y44:eB)=>sJ (BJY s41) (Int.toNat s41.1) fun (y45:List T)=>bQ (decide (5≤y45.length)) (cH aY ((BJY s41).set (Int.toNat s41.1) (bP y45 4 (BJO y43))) fun (y46:List eB)=>X40 (IntKind.i64.wrap (s41.1+1),y46,()))) (bQ (fE 38 (BI6 a2)&&true && decide ((BI6 a2).length*488 ≤ 140737488355328) && decide ((BI6 a2).length ≤ 140737488355328)) (oK (Int × (T × T × aC × T×T×iJ) × List bT×PUnit) (fun (X47 : Int × (T × T × aC × T × T×iJ) × List bT×PUnit → Prop)=>aI [(true,bA)] (tE [aF true bA a2]) fun (y48:bT)=>aI [(true,aB), (false,Sy.int IntKind.i64)] (CH [T.agg [s14.2.2.2.2.2.2.1.2.2.2.2.1, s14.2.2.2.2.2.2.1.2.2.2.2.2.1, s14.2.2.2.2.2.2.1.2.2.2.2.2.2.1, s14.2.2.2.2.2.2.1.2.2.2.2.2.2.2.1, s14.2.2.2.2.2.2.1.2.2.2.2.2.2.2.2.1, s14.2.2.2.2.2.2.1.2.2.2.2.2.2.2.2.2], T.agg [s14.2.2.2.2.2.2.1.1, s14.2.2.2.2.2.2.1.2.1], aF true bA y48]) fun (y49:aC×Int)=>aD (!decide (y49.2=0)) (cH aW (BJT s14) fun (y50:List dL)=>cH aJ (BJQ s14) fun (y51:List bC)=>cH aY (BJN s14) fun (y52:List eB)=>cH aE (BJK s14) fun (y53:List aV)=>cH aR (BJL s14) fun (y54:List cX)=>cH bA (BI8 s14) fun (y55:List bT)=>X47 (y49.2, (s14.2.2.2.2.2.2.1.1, s14.2.2.2.2.2.2.1.2.1, (s14.2.2.2.2.2.2.1.2.2.1.1, y50,y51,y52,y53,y54), T.sl false [], s14.2.2.2.2.2.2.1.2.2.2.2.1, s14.2.2.2.2.2.2.1.2.2.2.2.2.1, s14.2.2.2.2.2.2.1.2.2.2.2.2.2.1, s14.2.2.2.2.2.2.1.2.2.2.2.2.2.2.1, s14.2.2.2.2.2.2.1.2.2.2.2.2.2.2.2.1, s14.2.2.2.2.2.2.1.2.2.2.2.2.2.2.2.2), y55,())) (aZ (Int×PUnit) (fun X56 s57=>aD (decide (s57.1 < (↑(BI8 s14).length : Int))) (aP bA (BI8 s14) s57.1 fun (y58:bT)=>fR bA (BI8 s14) (Int.toNat s57.1) 0 fun (y59:bT)=>aD (decide (y59.1=y48.1)) (aD (decide (0≤s57.1)) (cH aW (BJT s14) fun (y60:List dL)=>cH aJ (BJQ s14) fun (y61:List bC)=>cH aY (BJN s14) fun (y62:List eB)=>cH aE (BJK s14) fun (y63 : List aV)=>cH aR (BJL s14) fun (y64 : List cX)=>cH bA (BI8 s14) fun (y65 : List bT)=>X47 (7, (s14.2.2.2.2.2.2.1.1, s14.2.2.2.2.2.2.1.2.1, (s14.2.2.2.2.2.2.1.2.2.1.1, y60,y61,y62, y63,y64), T.sl false [], s14.2.2.2.2.2.2.1.2.2.2.2.1, s14.2.2.2.2.2.2.1.2.2.2.2.2.1, s14.2.2.2.2.2.2.1.2.2.2.2.2.2.1, s14.2.2.2.2.2.2.1.2.2.2.2.2.2.2.1, s14.2.2.2.2.2.2.1.2.2.2.2.2.2.2.2.1, s14.2.2.2.2.2.2.1.2.2.2.2.2.2.2.2.2), y65,())) (aD (decide (64 ≤ (↑(BI8 s14).length : Int))) (cH aW (BJT s14) fun (y66:List dL)=>cH aJ (BJQ s14) fun (y67:List bC)=>cH aY (BJN s14) fun (y68 : List eB)=>cH aE (BJK s14) fun (y69 : List aV)=>cH aR (BJL s14) fun (y70 : List cX)=>cH bA (BI8 s14) fun (y71 : List bT)=>X47 (12, (s14.2.2.2.2.2.2.1.1, s14.2.2.2.2.2.2.1.2.1, (s14.2.2.2.2.2.2.1.2.2.1.1, y66,y67,y68, y69,y70), T.sl false [], s14.2.2.2.2.2.2.1.2.2.2.2.1, s14.2.2.2.2.2.2.1.2.2.2.2.2.1, s14.2.2.2.2.2.2.1.2.2.2.2.2.2.1, s14.2.2.2.2.2.2.1.2.2.2.2.2.2.2.1, s14.2.2.2.2.2.2.1.2.2.2.2.2.2.2.2.1, s14.2.2.2.2.2.2.1.2.2.2.2.2.2.2.2.2), y71,())) (bQ (decide (((BI8 s14).length + 1) * 40 ≤ 140737488355328) && decide ((BI8 s14).length + 1 ≤ 140737488355328)) (aI [(true,aB)] (u6 [aF true aB y49.1]) fun (y72:aC)=>cH aW (BJT s14) fun (y73 : List dL)=>cH aJ (BJQ s14) fun (y74 : List bC)=>cH aY (BJN s14) fun (y75 : List eB)=>cH aE (BJK s14) fun (y76 : List aV)=>cH aR (BJL s14) fun (y77 : List cX)=>cH bA (List.map bA.enc s14.2.2.2.2.2.2.2.1 ++ [(BJV y48)]) fun (y78 : List bT)=>X47 (0, (s14.2.2.2.2.2.2.1.1, s14.2.2.2.2.2.2.1.2.1, (s14.2.2.2.2.2.2.1.2.2.1.1, y73,y74, y75,y76, y77), T.sl false [], T.v (.string y72.1), T.sl false (BJD y72), T.sl false (BJF y72), T.sl false (BI9 y72), T.sl false (BJH y72), T.sl false (BJA y72)), y78,()))))) (X56 (IntKind.i64.wrap (s57.1+1), ()))) (aD (decide (64 ≤ (↑(BI8 s14).length : Int))) (cH aW (BJT s14) fun (y79:List dL)=>cH aJ (BJQ s14) fun (y80:List bC)=>cH aY (BJN s14) fun (y81:List eB)=>cH aE (BJK s14) fun (y82:List aV)=>cH aR (BJL s14) fun (y83:List cX)=>cH bA (BI8 s14) fun (y84:List bT)=>X47 (12, (s14.2.2.2.2.2.2.1.1, s14.2.2.2.2.2.2.1.2.1, (s14.2.2.2.2.2.2.1.2.2.1.1, y79,y80,y81,y82, y83), T.sl false [], s14.2.2.2.2.2.2.1.2.2.2.2.1, s14.2.2.2.2.2.2.1.2.2.2.2.2.1, s14.2.2.2.2.2.2.1.2.2.2.2.2.2.1, s14.2.2.2.2.2.2.1.2.2.2.2.2.2.2.1, s14.2.2.2.2.2.2.1.2.2.2.2.2.2.2.2.1, s14.2.2.2.2.2.2.1.2.2.2.2.2.2.2.2.2), y84,())) (bQ (decide (((BI8 s14).length + 1) * 40 ≤ 140737488355328) && decide ((BI8 s14).length + 1 ≤ 140737488355328)) (aI [(true,aB)] (u6 [aF true aB y49.1]) fun (y85:aC)=>cH aW (BJT s14) fun (y86:List dL)=>cH aJ (BJQ s14) fun (y87:List bC)=>cH aY (BJN s14) fun (y88:List eB)=>cH aE (BJK s14) fun (y89 : List aV)=>cH aR (BJL s14) fun (y90 : List cX)=>cH bA (List.map bA.enc s14.2.2.2.2.2.2.2.1 ++ [(BJV y48)]) fun (y91 : List bT)=>X47 (0, (s14.2.2.2.2.2.2.1.1, s14.2.2.2.2.2.2.1.2.1, (s14.2.2.2.2.2.2.1.2.2.1.1, y86,y87,y88, y89,y90), T.sl false [], T.v (.string y85.1), T.sl false (BJD y85), T.sl false (BJF y85), T.sl false (BI9 y85), T.sl false (BJH y85), T.sl false (BJA y85)), y91,()))))) (0,()))) fun (s92 : Int × (T × T × aC × T×T×iJ) × List bT×PUnit)=>cH aM (BI6 a2) fun (y93:List aX)=>aZ (Int×List aX×PUnit) (fun X94 s95=>aD (decide (s95.1 < (↑(BJI s95).length : Int))) (aP aM (BJI s95) s95.1 fun (y96:aX)=>fR BI2 (BJI s95) (Int.toNat s95.1) 0 fun (y97:Int)=>aP aM (BJI s95) s95.1 fun (y98:aX)=>sJ (BJI s95) (Int.toNat s95.1) fun (y99:List T)=>bQ (decide (1≤y99.length)) (cH aM ((BJI s95).set (Int.toNat s95.1) (bP y99 0 (BJO y97))) fun (y100:List aX)=>X94 (IntKind.i64.wrap (s95.1+1), y100,()))) (bQ true (aI [(true,aB)] (u6 [aF true aB s92.2.1.2.2.1]) fun (y101:aC)=>aI [(false,bA.li), (false,Sy.int IntKind.i64)] (xM [T.agg [s92.2.1.1,s92.2.1.2.1, T.v (.string s92.2.1.2.2.1.1), T.sl false (List.map aW.enc s92.2.1.2.2.1.2.1), T.sl false (List.map aJ.enc s92.2.1.2.2.1.2.2.1), T.sl false (List.map aY.enc s92.2.1.2.2.1.2.2.2.1), T.sl false (List.map aE.enc s92.2.1.2.2.1.2.2.2.2.1), T.sl false (List.map aR.enc s92.2.1.2.2.1.2.2.2.2.2), T.sl false (List.map bA.enc s92.2.2.1), s92.2.1.2.2.2.2.1, s92.2.1.2.2.2.2.2.1, s92.2.1.2.2.2.2.2.2.1, s92.2.1.2.2.2.2.2.2.2.1, s92.2.1.2.2.2.2.2.2.2.2.1, s92.2.1.2.2.2.2.2.2.2.2.2], T.v (.int .i64 0)]) fun (y102:List bT×Int)=>aD (!decide (y102.2=0)) (R BI0) (aI BI1 (j2 [aF true aB y101, aF true aB y3]) fun (y103:Bool)=>aD (!y103) (R BI0) (aD (!decide (s92.1=0)) (aD (decide ((↑(List.map bA.enc y102.1).length : Int) = 0)) (BJP R) (R BI0)) (aD (decide ((↑(List.map bA.enc y102.1).length : Int) = 1)) (aP bA (List.map bA.enc y102.1) 0 fun (y105:bT)=>aI BI1 (tP [aF true bA y105, aF true bA a2]) fun (y106:Bool)=>aD y106 (BJP R) (R BI0)) (R BI0))))))) (0,y93,())))) (0,y39,()))) (0,y31,()))))) (0,y23,()))) (s14.1,y15,())))
abbrev K2:Sh:=[(true,aB),(true,aK),(true,bA)]
def A6Y (d:aC) (o:bT):Bool:=(DF d&&BM d)&&o.2.all fun x=>dR (dC x)&&dJ (gC x)
def yP (x:aC×aH×bT):Option T:=match A6Y x.1 x.2.2 with
 | true=>some (T.v (.bool true))
 | false=>none
noncomputable def AL0:List T→Option T:=gS K2 yP
theorem A0W:Of3 Tryz.prog 3 AL0 yP (cC K2) U1:=RE (a1:=(true,aB)) (a2:=(true,aK)) (a3:=(true,bA)) (sp:=yP) (F:=U1) (Hs:=A3Z) (f:=3) (k:=8) AOF aQ aS (aL rfl) ⟨_,_,Tryz.func3,rfl⟩ rfl fun _ _ _ _=>by kernel_rfl
theorem AL5 {S:Type} {A:(S→Prop)→Prop} {K:S→Prop} (J:S→Prop) (h1:∀ X:S→Prop,(∀ v,J v→X v)→A X) (h2:∀ v,J v→K v):oK S A K:=h1 K h2
theorem LD {r:Sy} (hr:r.pure=true) {l:List r.den} {o o1:Nat} (ho1:o1=o+1) (ho:o+1≤r.w) (hg:∀ x:r.den,∃ i:Int,((r.enc x).drop o).take 1=[T.v (.int .i64 i)]) (hs:∀ (x:r.den) (j:Int),∃ x':r.den,bP (r.enc x) o [T.v (.int .i64 j)]=r.enc x') (hl:l.length≤1000) {Q:Prop} (hQ:Q) :
  aZ (Int×List r.den×PUnit) (fun (X:Int×List r.den×PUnit→Prop) (s:Int×List r.den×PUnit)=>aD (decide (s.1<((List.map r.enc s.2.1).length:Int)))
   (aP r (List.map r.enc s.2.1) s.1 fun _=>fR (.int .i64) (List.map r.enc s.2.1) (Int.toNat s.1) o fun i=>aP r (List.map r.enc s.2.1) s.1 fun _=>sJ (List.map r.enc s.2.1) (Int.toNat s.1) fun row=>bQ (decide (o1≤row.length))
    (cH r ((List.map r.enc s.2.1).set (Int.toNat s.1) (bP row o [T.v (.int .i64 (IntKind.i64.wrap (i+1)))])) fun q=>X (IntKind.i64.wrap (s.1+1),q,()))) Q) (0,l,()):=by
 subst ho1
 refine bM l.length (fun k s=>∃ q:List r.den,s=((k:Int),q,())∧q.length=l.length) ⟨l,rfl,rfl⟩ ?_
 rintro X k s hk ⟨q,rfl,hq⟩ hX
 dsimp only
 rw[List.length_map]
 refine cF (fun hlt=>?_) fun _=>hQ
 have hlt:k<q.length:=by omega
 rw[bG hlt,Int.toNat_natCast]
 obtain ⟨i,hi⟩:=hg q[k]
 refine ⟨_,i,uQ.2 (List.getElem?_eq_getElem hlt),by rw[Sy.cP];exact ho,hi,?_⟩
 dsimp only
 rw[bG hlt,nC hlt]
 refine ⟨decide_eq_true (by rw[Sy.cP];exact ho),?_⟩
 obtain ⟨x',hx⟩:=hs q[k] (IntKind.i64.wrap (i+1))
 refine cO hr (l:=q.set k x') (by rw[hx,List.map_set]) ?_
 exact hX _ (by omega) ⟨_,by rw[bH _ (by omega) (by omega)];rfl,by rw[List.length_set,hq]⟩
theorem A7L {l:List dL} {b:ByteArray} (hl:l.length≤1000) {Q:Prop} (hQ:Q) :
  aZ (Int×List dL×PUnit) (fun (X:Int×List dL×PUnit→Prop) (s:Int×List dL×PUnit)=>aD (decide (s.1<((List.map aW.enc s.2.1).length:Int)))
   (aP aW (List.map aW.enc s.2.1) s.1 fun _=>sJ (List.map aW.enc s.2.1) (Int.toNat s.1) fun row=>bQ (decide (1≤row.length))
    (cH aW ((List.map aW.enc s.2.1).set (Int.toNat s.1) (bP row 0 [T.v (.string b)])) fun q=>X (IntKind.i64.wrap (s.1+1),q,()))) Q) (0,l,()):=by
 refine bM l.length (fun k s=>∃ q:List dL,s=((k:Int),q,())∧q.length=l.length) ⟨l,rfl,rfl⟩ ?_
 rintro X k s hk ⟨q,rfl,hq⟩ hX
 dsimp only
 rw[List.length_map]
 refine cF (fun hlt=>?_) fun _=>hQ
 have hlt:k<q.length:=by omega
 rw[bG (r:=aW) hlt,Int.toNat_natCast,nC (r:=aW) hlt]
 refine ⟨rfl,?_⟩
 refine cO (r:=aW) rfl (l:=q.set k (b,q[k].2)) (by rw[List.map_set];rfl) ?_
 exact hX _ (by omega) ⟨_,by rw[bH _ (by omega) (by omega)];rfl,by rw[List.length_set,hq]⟩
theorem ANB:∀ (x:bC) (j:Int),∃ x':bC,bP (aJ.enc x) 10 [T.v (.int .i64 j)]=aJ.enc x'
 | ⟨a0,a1,a2,a3,a4,a5,a6,a8,a9,_,a11⟩,j=>⟨(a0,a1,a2,a3,a4,a5,a6,a8,a9,j,a11),rfl⟩
theorem A7K:∀ (x:eB) (j:Int),∃ x':eB,bP (aY.enc x) 4 [T.v (.int .i64 j)]=aY.enc x'
 | ⟨a0,a1,a2,a3,_,a5⟩,j=>⟨(a0,a1,a2,a3,j,a5),rfl⟩
theorem A7J:∀ (x:aX) (j:Int),∃ x':aX,bP (aM.enc x) 0 [T.v (.int .i64 j)]=aM.enc x'
 | ⟨_,a1⟩,j=>⟨(j,a1),rfl⟩
def A68 (m:aH) (d L:aC):T×T×aC×T×T×T×T×T×T×T :=
 (T.sl false (List.map bN.enc m.1),T.sl false (List.map bD.enc m.2),d,T.sl false [],T.v (.string L.1),T.sl false (List.map aW.enc L.2.1),T.sl false (List.map aJ.enc L.2.2.1),T.sl false (List.map aY.enc L.2.2.2.1),T.sl false (List.map aE.enc L.2.2.2.2.1),T.sl false (List.map aR.enc L.2.2.2.2.2))
theorem A7D {m:aH} {d:aC} {O:List bT} {L:aC}:KO (m,d,O,L) 0=(O,0):=by
 unfold KO
 rw[if_neg (show ¬ ((0:Int)<0∨(O.length:Int)<0) by omega)]
 rfl
theorem AXQ:aN Tryz.prog 3 AL0:=A0W fun d m o r h hb=>by
 clear hb
 obtain ⟨hc,rfl⟩:=sF h
 clear h
 unfold U1 BJY BJV BJT BJQ BJP BJO BJN BJL BJK BJD BJI BJH BJF BJA BI9 BI8 BI7 BI6 BJZ BJW BI2 BI1 BI0
 refine aG (s:=[(false,.bool)]) (y:=wF d m [o]) (A43 d m o) ?_
 refine jS (fun _=>awV rfl) fun hf=>?_
 unfold A6Y at hc
 unfold wF at hf
 simp only[Bool.and_eq_true,List.all_cons,List.all_nil] at hc hf
 obtain ⟨⟨hD,hK⟩,hE⟩:=hc
 obtain ⟨f1,f2,_,f4,_⟩:=hf
 have hN:sR 24 d:=BEG (n:=24) f1
 have hM:=A42 f2
 have hO:=APS f4 hE
 have hd:=ADY hN (by omega) hD hK
 obtain ⟨n1,n2,n3,n4,n5⟩:=id hN
 have hoL:o.2.length≤1000:=by
  unfold qD at f4
  rw[Bool.and_eq_true,Bool.and_eq_true,decide_eq_true_eq,decide_eq_true_eq] at f4
  have:=f4.2.1
  omega
 clear f1 f2 f4 hE
 refine aG (s:=[(true,aB)]) (y:=d) (SR.trans (fM _ hd)) ?_
 refine aG (s:=[(true,aB)]) (y:=d) (SR.trans (fM _ hd)) ?_
 refine aG (s:=[(false,.int .i64)]) (y:=mL d m) (nP ..) ?_
 refine mA (fun h0=>?_) fun h0=>?_
 ·exact mA (fun _=>awV rfl) fun h=>absurd h h0
 refine aG (s:=[(true,aK)]) (y:=m) ((ABP ..).trans (fM _ hM)) ?_
 refine aG (s:=[(true,aB)]) (y:=d) (zF.trans (fM _ hd)) ?_
 refine AL5 (fun v=>v=(0,(),(),(),(),(),A68 m d d,[],())) (fun X hX=>VY (hX _ rfl)) ?_
 rintro _ rfl
 unfold A68
 dsimp only
 refine cO (r:=aJ) rfl rfl ?_
 refine LD (r:=aJ) rfl (o:=10) rfl (by decide) (fun x=>⟨_,rfl⟩) ANB (Nat.le_trans n2 (by decide)) ?_
 refine cO (r:=aW) rfl rfl ?_
 refine A7L (Nat.le_trans n1 (by decide)) ⟨rfl,?_⟩
 refine aG (s:=[(true,aB)]) (y:=d) (zF.trans (fM _ hd)) ?_
 have same:∀ {K:Bool→Prop},K true→aI [(false,Sy.bool)] (j2 [aF true aB d,aF true aB d]) K:=fun h=>aG (s:=[(false,.bool)]) (y:=true) ((OG ..).trans (by
  unfold nE QG
  rw[AA0])) h
 refine same ?_
 refine jS (fun h=>by cases h) fun _=>?_
 refine cO (r:=aJ) rfl rfl ?_
 refine LD (r:=aJ) rfl (o:=10) rfl (by decide) (fun x=>⟨_,rfl⟩) ANB (Nat.le_trans n2 (by decide)) ?_
 refine cO (r:=aY) rfl rfl ?_
 refine LD (r:=aY) rfl (o:=4) rfl (by decide) (fun x=>⟨_,rfl⟩) A7K (Nat.le_trans n3 (by decide)) ?_
 refine ⟨zQ (r:=aM) rfl (by unfold yE at hO;rw[Bool.and_eq_true] at hO;exact hO.1),?_⟩
 refine AL5 (fun v=>∃ (g:Int) (L:aC) (O:List bT),v=(g,A68 m d L,O,())∧(¬ g=0→O=[])∧(g=0→O=[o])) (fun X hX=>?_) ?_
 ·refine aG (s:=[(true,bA)]) (y:=o) (V7.trans (fM _ hO)) ?_
  refine aG (s:=[(true,aB),(false,.int .i64)]) (y:=wZ d m o) (Eq.trans (b:=CH [aF true aB d,aF true aK m,aF true bA o]) (by kernel_rfl) (APF (BCL hN (by omega) hD hK (O4 hO)))) ?_
  refine mA (fun hbad=>VY (cO (r:=bA) rfl rfl (hX _ ⟨_,d,[],rfl,fun _=>rfl,fun h=>absurd h hbad⟩))) fun hg=>?_
  intro X2 hX2
  refine hX2 _ ?_
  dsimp only
  refine cF (fun h=>absurd h (by decide)) fun _=>?_
  refine cF (fun h=>absurd h (by decide)) fun _=>?_
  refine ⟨rfl,?_⟩
  obtain ⟨_,e⟩:=ALH hg
  have hL:O3 (wZ d m o).1=true:=by
   have hg':(iK m d o.2).2=0:=by rw[←e];exact hg
   obtain ⟨a1,a2,a3⟩:=B3 hN hD hK (O4 hO) hg'
   have:=AAN hg
   rw[e]
   exact ADY (sR.mono a1 (b:=900) (by omega)) (by omega) a2 a3
  refine aG (s:=[(true,aB)]) (y:=(wZ d m o).1) (zF.trans (fM _ hL)) ?_
  refine VY ?_
  refine cO (r:=bA) rfl (l:=[o]) rfl ?_
  exact hX _ ⟨0,(wZ d m o).1,[o],rfl,fun h=>absurd rfl h,fun _=>rfl⟩
 rintro _ ⟨g,L,O,rfl,hg1,hg0⟩
 unfold A68
 dsimp only
 refine cO (r:=aM) rfl rfl ?_
 refine LD (r:=aM) rfl (o:=0) rfl (by decide) (fun x=>⟨_,rfl⟩) A7J hoL ⟨rfl,?_⟩
 refine aG (s:=[(true,aB)]) (y:=d) (zF.trans (fM _ hd)) ?_
 have hOl:O.length≤1∧∀ x∈O,x=o:=by
  by_cases e:g=0
  ·rw[hg0 e];exact ⟨Nat.le_refl _,fun x hx=>List.mem_singleton.1 hx⟩
  ·rw[hg1 e];exact ⟨Nat.zero_le _,fun x hx=>by cases hx⟩
 have hH:JD (m,d,O,L):=⟨⟨24,hN,by have:=hOl.1;show 24+32*O.length≤868;omega⟩,hD,hK,fun x hx=>by rw[hOl.2 x hx];exact hO⟩
 refine aG (s:=[(false,bA.li),(false,.int .i64)]) (y:=(O,(0:Int))) (Eq.trans (b:=xM [aF true gK (m,d,O,L),.v (.int .i64 (0:Int))]) (by kernel_rfl) ((A5Q hH _).trans (by rw[A7D]))) ?_
 refine mA (fun h=>absurd rfl h) fun _=>?_
 refine same ?_
 refine jS (fun h=>by cases h) fun _=>?_
 rw[List.length_map]
 refine mA (fun h=>?_) fun h=>?_
 ·rw[hg1 h]
  exact cF (fun _=>awV rfl) fun h=>absurd rfl h
 ·rw[hg0 h]
  refine cF (fun _=>?_) fun h=>absurd rfl h
  rw[show (0:Int)=((0:Nat):Int) from rfl,bG (r:=bA) (l:=[o]) (k:=0) Nat.zero_lt_one]
  refine aG (s:=[(false,.bool)]) (y:=true) ((WI ..).trans (by
   unfold qS
   rw[show ([o]:List bT)[0]=o from rfl,AA0])) ?_
  exact BH (fun _=>awV rfl) fun h=>by cases h
theorem A1H:∀ x:aC×aH×bT,A86 K2 x→yP x=some (.v (.bool true)):=fun ⟨d,m,o⟩ h=>fJ (c:=A6Y d o) (a:=T.v (.bool true)) (by
 unfold A6Y
 have hd:InS aB d:=h.1
 rw[BCN hd,BCO hd,Bool.true_and,Bool.true_and]
 have ho:InS bA o:=h.2.2
 refine List.all_eq_true.2 fun x hx=>?_
 have h:InS aM x:=ho.2.2.2 x hx
 rw[ASF h.2.2.2.2.1,ASE h.2.2.2.2.2.2.1];rfl)
end Go.Pv
