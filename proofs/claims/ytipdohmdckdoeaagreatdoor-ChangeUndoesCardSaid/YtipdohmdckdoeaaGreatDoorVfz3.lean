/-
  edit.Apply with a kind that there is not; edit.Apply.
  Designs that an edit makes are not too large.
  Change orders, plain: an order has the effect of its beginning followed by the rest.
  And what these ask for.
-/
import Derived.Test.YtipdohmdckdoeaaGreatDoorVfz2
import Derived.Test.YtipdohmdckdoeaaGreatDoorVfz1
import Derived.Test.YtipdohmdckdoeaaGreatDoorVfkn
import Derived.Test.YtipdohmdckdoeaaGreatDoorVfkq
import Derived.Test.YtipdohmdckdoeaaGreatDoorVfkr
import Derived.Test.YtipdohmdckdoeaaGreatDoorVflv
import Derived.KernelRfl
import Derived.Sort.Walk0
import Derived.Test.YtipdohmdckdoeaaGreatDoorVfgs
import Derived.Test.YtipdohmdckdoeaaGreatDoorVfcb
import Derived.Shelf.Strings.Builder1
import Derived.Shelf.Strings.BuilderF
import Derived.Shelf.Strings.MapGrows
import Derived.Test.YtipdohmdckdoeaaGreatDoorVfkh
import Derived.WalkKit
import Derived.BigCall
import Derived.Deep.RegionWith
import Derived.Deep.LoopGhost
import Derived.Laws.BytesArg
import Derived.Test.YtipdohmdckdoeaaGreatDoorVfkp
import Derived.Test.YtipdohmdckdoeaaGreatDoorVfkw
import Derived.Test.YtipdohmdckdoeaaGreatDoorVfkj
set_option linter.defProp false
set_option linter.unusedSimpArgs false
set_option linter.unusedVariables false
set_option maxRecDepth 100000
namespace Go.Pv
open Go Go.Proofs IntKind
noncomputable def BK5:Env:=Env.of []
def BLS:FuncId->Hint:=λ_=>a6
def A7Q:aR Tryz.prog BK5:=.nil _
def AWA(a0:aA)(a1:aE)(a2:aQ)(R:T->Prop):Prop:=aD (decide (a2.1=1)) (aD (decide (a2.1=1)) (cA 72) (cA 72)) (aD (decide (a2.1=2)) (aD (decide (a2.1=1)) (cA 72) (cA 72)) (aD (decide (a2.1=3)) (aD (decide (a2.1=3)) (cA 72) (cA 72)) (aD (decide (a2.1=4)) (aD (decide (a2.1=3)) (cA 72) (cA 72)) (aD (decide (a2.1=5)) (cA 72) (aD (decide (a2.1=6)) (cA 72) (aD (decide (a2.1=7)) (aD (decide (a2.1=7)) (cA 72) (cA 72)) (aD (decide (a2.1=8)) (aD (decide (a2.1=7)) (cA 72) (cA 72)) (aD (decide (a2.1=9)) (aD (decide (a2.1=9)) (cA 72) (cA 72)) (aD (decide (a2.1=10)) (aD (decide (a2.1=9)) (cA 72) (cA 72)) (aD (decide (a2.1=11)) (cA 72) (aD (decide (a2.1=12)) (cA 72) (R (T.bY [T.agg [pPQ ({data:=#[]}),T.sl false [],T.sl false [], T.sl false [],T.sl false [],T.sl false []], pPP 10])))))))))))))
abbrev A5Y:Sh:=[(true,aB),(true,aI),(true,aJ)]
def IK (x:aA×aE×aQ):Option T:=if 1<=x.2.2.1/\x.2.2.1<=12 then none else some (Sh.enc [(true,aB),(false,.int .i64)] (iP,10))
noncomputable def A04:List T->Option T:=gS A5Y IK
def A05 {a0 a1 a2}:A04 [aF true aB a0,aF true aI a1,aF true aJ a2]=IK (a0,a1,a2):=bH (s:=A5Y) rfl (a0,a1,a2) rfl
def BIJ:Of3 Tryz.prog 66 A04 IK (cQ A5Y) AWA:=J4 (a1:=(true,aB)) (a2:=(true,aI)) (a3:=(true,aJ)) (Hs:=BLS) (k:=2) A7Q aV aY (aN rfl) ⟨_,_,Tryz.func66,rfl⟩ rfl λ_ _ _ _=>by kernel_rfl
def BF4:aO Tryz.prog 66 A04:=BIJ λd m x r h hb=>by
 clear hb;unfold IK at h;split at h
 ·cases h
 rename_i hk;cases h;have hk:¬ (1<=x.1/\x.1<=12):=hk;unfold AWA;refine cO (λh=>absurd (by omega) hk) λ_=>?_;refine cO (λh=>absurd (by omega) hk) λ_=>?_;refine cO (λh=>absurd (by omega) hk) λ_=>?_;refine cO (λh=>absurd (by omega) hk) λ_=>?_;refine cO (λh=>absurd (by omega) hk) λ_=>?_;refine cO (λh=>absurd (by omega) hk) λ_=>?_;refine cO (λh=>absurd (by omega) hk) λ_=>?_;refine cO (λh=>absurd (by omega) hk) λ_=>?_;refine cO (λh=>absurd (by omega) hk) λ_=>?_;refine cO (λh=>absurd (by omega) hk) λ_=>?_;refine cO (λh=>absurd (by omega) hk) λ_=>?_;refine cO (λh=>absurd (by omega) hk) λ_=>?_;rfl
def DR (x:aA×aE×aQ):List T:=[aF true aB x.1,aF true aI x.2.1,aF true aJ x.2.2]
noncomputable def FO (x:aA×aE×aQ):Option T:=match okX x.1 x.2.2 with
 | true=>some (Sh.enc [(true,aB),(false,.int .i64)] (bO x.1 x.2.1 x.2.2))
 | false=>none
noncomputable def dA:List T->Option T:=gA DR FO
def I2 (x y:aA×aE×aQ) (h:DR x=DR y):x=y:=by
 simp only[DR,List.cons.injEq,and_true] at h;obtain ⟨h1,h2,h3⟩:=h;exact Prod.ext (mT (r:=aB) rfl h1) (Prod.ext (mT (r:=aI) rfl h2) (mT (r:=aJ) rfl h3))
def AH0 (d:aA) (m:aE) (x:aQ):dA [aF true aB d,aF true aI m,aF true aJ x]=FO (d,m,x):=dY I2 (d,m,x)
def gU:aO Tryz.prog 66 dA:=⟨A0L.entry,λw own args vs r hG ho ha hg=>by
 obtain ⟨⟨d,m,k,x⟩,rfl,h⟩:=KG hg;unfold FO at h;dsimp only at h;clear hg;by_cases c1:k=1
 ·subst c1;exact A0L.calls w own _ vs r hG ho ha ((A07 d m x).trans h)
 by_cases c2:k=2
 ·subst c2;exact BF5.calls w own _ vs r hG ho ha ((A09 d m x).trans h)
 by_cases c3:k=3
 ·subst c3;exact BF6.calls w own _ vs r hG ho ha ((A1B d m x).trans h)
 by_cases c4:k=4
 ·subst c4;exact BF7.calls w own _ vs r hG ho ha ((A1D d m x).trans h)
 by_cases c5:k=5
 ·subst c5;exact BF8.calls w own _ vs r hG ho ha ((A1F d m x).trans h)
 by_cases c6:k=6
 ·subst c6;exact BF9.calls w own _ vs r hG ho ha ((A1H d m x).trans h)
 by_cases c7:k=7
 ·subst c7;exact BGA.calls w own _ vs r hG ho ha ((A1J d m x).trans h)
 by_cases c8:k=8
 ·subst c8;exact BGB.calls w own _ vs r hG ho ha ((A1L d m x).trans h)
 by_cases c9:k=9
 ·subst c9;exact BGC.calls w own _ vs r hG ho ha ((A1N d m x).trans h)
 by_cases c10:k=10
 ·subst c10;exact BAF.calls w own _ vs r hG ho ha ((ARG d m x).trans h)
 by_cases c11:k=11
 ·subst c11;exact BAG.calls w own _ vs r hG ho ha ((ARH d m x).trans h)
 by_cases c12:k=12
 ·subst c12;exact BAH.calls w own _ vs r hG ho ha ((ARI d m x).trans h)
 have hn:¬ (1<=k/\k<=12):=by omega
 have hr:some (Sh.enc [(true,aB),(false,.int .i64)] (bO d m (k,x)))=some r:=by
  split at h
  ·exact h
  ·cases h
 refine BF4.calls w own _ vs r hG ho ha ((A05 (a0:=d) (a1:=m) (a2:=(k,x))).trans ?_);rw[<-hr];unfold IK bO;rw[if_neg hn,if_pos hn]⟩
end Go.Pv
namespace Go.Pv
open Go Go.Proofs IntKind
structure BZ (b:Nat) (d:aA):Prop where
 n:d.2.1.length<=b
 p:d.2.2.1.length<=b
 s:d.2.2.2.1.length<=b
 k:d.2.2.2.2.1.length<=b
 r:d.2.2.2.2.2.length<=b
abbrev BLQ (d:aA):Prop:=BZ 40 d
def A0J {d:aA} (h:few d 40=true):BLQ d:=by
 simp only[few,ac,ah] at h;obtain ⟨⟨⟨⟨⟨a,b⟩,c⟩,e⟩,f⟩,_⟩:=h;exact ⟨by omega,by omega,by omega,by omega,by omega⟩
def BJW {e:aA} (hP:∀ q∈e.2.2.1,dU q=true) (hK:∀ q∈e.2.2.2.2.1,dL q=true) (n:e.2.1.length<=1000) (p:e.2.2.1.length<=1000) (s:e.2.2.2.1.length<=1000) (k:e.2.2.2.2.1.length<=1000) (r:e.2.2.2.2.2.length<=1000):o5 e=true:=by
 unfold o5 A0 zT;rw[List.all_eq_true.2 hP,List.all_eq_true.2 hK,ai n,ai p,ai s,ai k,ai r];rfl
variable {α:Type}
def A9T {p:α->Bool} {f:α->α} {l:List α}:(yY p f l).length=l.length:=by unfold yY;exact List.length_modify ..
def DY {α:Type} {p:α->Bool} {f:α->α}:∀ {l:List α} {a:α},a∈yY p f l->a∈l\/∃ b∈l,a=f b
 | [],_,h=>by simp[yY] at h
 | z::l,a,h=>by
  unfold yY at h;rw[List.findIdx_cons] at h;cases hz:p z with
  | true =>
   rw[hz] at h;rcases List.mem_cons.1 (show a∈f z::l from h) with e|h
   ·exact .inr ⟨z,am,e⟩
   ·exact .inl (List.mem_cons_of_mem _ h)
  | false =>
   rw[hz] at h;rcases List.mem_cons.1 (show a∈z::yY p f l from h) with e|h
   ·exact .inl (e ▸ am)
   ·rcases DY h with h|⟨b,h,e⟩
    ·exact .inl (List.mem_cons_of_mem _ h)
    ·exact .inr ⟨b,List.mem_cons_of_mem _ h,e⟩
def U6 {b:Nat} {d:aA} {x:aQ} (h:BZ b d):BZ (b+1) (eQ d x):=by
 obtain ⟨ln,lp,ls,lk,lr⟩:=h;have i1:∀ {α:Type} {f:α->α->Bool} {l:List α} {a:α},l.length<=b->(eM f l a).length<=b+1:=λh=>by rw[A28];omega
 have i2:∀ {α:Type} {f:α->Bool} {l:List α},l.length<=b->(eJ f l).length<=b+1:=λh=>Nat.le_trans AAF (by omega);have i3:∀ {α:Type} {l:List α},l.length<=b->l.length<=b+1:=λh=>by omega
 have i4:∀ {α:Type} {p:α->Bool} {f:α->α} {l:List α},l.length<=b->(yY p f l).length<=b+1:=λh=>by rw[A9T];omega
 unfold eQ;by_cases h1:x.1=1
 ·rw[if_pos h1];exact ⟨i1 ln,i3 lp,i3 ls,i3 lk,i3 lr⟩
 rw[if_neg h1];by_cases h2:x.1=2
 ·rw[if_pos h2];exact ⟨i2 ln,i3 lp,i3 ls,i3 lk,i3 lr⟩
 rw[if_neg h2];by_cases h3:x.1=3
 ·rw[if_pos h3];exact ⟨i3 ln,i1 lp,i3 ls,i3 lk,i3 lr⟩
 rw[if_neg h3];by_cases h4:x.1=4
 ·rw[if_pos h4];exact ⟨i3 ln,i2 lp,i3 ls,i3 lk,i3 lr⟩
 rw[if_neg h4];by_cases h5:x.1=5
 ·rw[if_pos h5];exact ⟨i3 ln,i4 lp,i3 ls,i3 lk,i3 lr⟩
 rw[if_neg h5];by_cases h6:x.1=6
 ·rw[if_pos h6];exact ⟨i3 ln,i4 lp,i3 ls,i3 lk,i3 lr⟩
 rw[if_neg h6];by_cases h7:x.1=7
 ·rw[if_pos h7];exact ⟨i3 ln,i3 lp,i1 ls,i3 lk,i3 lr⟩
 rw[if_neg h7];by_cases h8:x.1=8
 ·rw[if_pos h8];exact ⟨i3 ln,i3 lp,i2 ls,i3 lk,i3 lr⟩
 rw[if_neg h8];by_cases h9:x.1=9
 ·rw[if_pos h9];exact ⟨i3 ln,i3 lp,i3 ls,i1 lk,i3 lr⟩
 rw[if_neg h9];by_cases h10:x.1=10
 ·rw[if_pos h10];exact ⟨i3 ln,i3 lp,i3 ls,i2 lk,i3 lr⟩
 rw[if_neg h10];by_cases h11:x.1=11
 ·rw[if_pos h11];exact ⟨i3 ln,i3 lp,i3 ls,i3 lk,i1 lr⟩
 rw[if_neg h11];exact ⟨i3 ln,i3 lp,i3 ls,i3 lk,i2 lr⟩
def NH {d:aA} {x:aQ} (hD:A0 d=true) (hp:dU (bW x)=true):A0 (eQ d x)=true:=by
 have a1:∀ q∈d.2.2.1,dU q=true:=λq hq=>List.all_eq_true.1 hD q hq;have mk:∀ {e:aA},(∀ q∈e.2.2.1,dU q=true)->A0 e=true:=λh=>List.all_eq_true.2 h;unfold eQ;by_cases h1:x.1=1
 ·rw[if_pos h1];exact mk a1
 rw[if_neg h1];by_cases h2:x.1=2
 ·rw[if_pos h2];exact mk a1
 rw[if_neg h2];by_cases h3:x.1=3
 ·rw[if_pos h3];exact mk λq hq=>(jT.1 hq).elim (λe=>by rw[e];exact hp) (a1 q)
 rw[if_neg h3];by_cases h4:x.1=4
 ·rw[if_pos h4];exact mk λq hq=>a1 q (D2 hq)
 rw[if_neg h4];by_cases h5:x.1=5
 ·rw[if_pos h5];exact mk λq hq=>(DY hq).elim (a1 q) λ⟨b,_,e⟩=>by rw[e];exact hp
 rw[if_neg h5];by_cases h6:x.1=6
 ·rw[if_pos h6];exact mk λq hq=>(DY hq).elim (a1 q) λ⟨b,hb,e⟩=>by rw[e];exact a1 b hb
 rw[if_neg h6];by_cases h7:x.1=7
 ·rw[if_pos h7];exact mk a1
 rw[if_neg h7];by_cases h8:x.1=8
 ·rw[if_pos h8];exact mk a1
 rw[if_neg h8];by_cases h9:x.1=9
 ·rw[if_pos h9];exact mk a1
 rw[if_neg h9];by_cases h10:x.1=10
 ·rw[if_pos h10];exact mk a1
 rw[if_neg h10];by_cases h11:x.1=11
 ·rw[if_pos h11];exact mk a1
 rw[if_neg h11];exact mk a1
def NI {d:aA} {x:aQ} (hK:zT d=true) (hk:dL (eF x)=true):zT (eQ d x)=true:=by
 have b1:∀ q∈d.2.2.2.2.1,dL q=true:=λq hq=>List.all_eq_true.1 hK q hq;have mk:∀ {e:aA},(∀ q∈e.2.2.2.2.1,dL q=true)->zT e=true:=λh=>List.all_eq_true.2 h;unfold eQ;by_cases h1:x.1=1
 ·rw[if_pos h1];exact mk b1
 rw[if_neg h1];by_cases h2:x.1=2
 ·rw[if_pos h2];exact mk b1
 rw[if_neg h2];by_cases h3:x.1=3
 ·rw[if_pos h3];exact mk b1
 rw[if_neg h3];by_cases h4:x.1=4
 ·rw[if_pos h4];exact mk b1
 rw[if_neg h4];by_cases h5:x.1=5
 ·rw[if_pos h5];exact mk b1
 rw[if_neg h5];by_cases h6:x.1=6
 ·rw[if_pos h6];exact mk b1
 rw[if_neg h6];by_cases h7:x.1=7
 ·rw[if_pos h7];exact mk b1
 rw[if_neg h7];by_cases h8:x.1=8
 ·rw[if_pos h8];exact mk b1
 rw[if_neg h8];by_cases h9:x.1=9
 ·rw[if_pos h9];exact mk λq hq=>(jT.1 hq).elim (λe=>by rw[e];exact hk) (b1 q)
 rw[if_neg h9];by_cases h10:x.1=10
 ·rw[if_pos h10];exact mk λq hq=>b1 q (D2 hq)
 rw[if_neg h10];by_cases h11:x.1=11
 ·rw[if_pos h11];exact mk b1
 rw[if_neg h11];exact mk b1
def WD {d:aA} (hD:A0 d=true) (hK:zT d=true) {b:Nat} (h:BZ b d) (hb:b<=1000):o5 d=true:=by
 obtain ⟨ln,lp,ls,lk,lr⟩:=h;exact BJW (λq hq=>List.all_eq_true.1 hD q hq) (λq hq=>List.all_eq_true.1 hK q hq) (by omega) (by omega) (by omega) (by omega) (by omega)
variable {m:aE}
def DX {d:aA} {x:aQ} (hc:o5 d=true) (hp:dU (bW x)=true) (hk:dL (eF x)=true):dA [aF true aB d,aF true aI m,aF true aJ x]=some (Sh.enc [(true,aB),(false,.int .i64)] (bO d m x)):=by
 rw[AH0];unfold FO;exact fF (by unfold okX;rw[hc,hp,hk];rfl)
def ATH {p:bD} (h4:InS aP p):dU p=true:=by
 obtain ⟨_,_,_,_,_,_,⟨⟨h5,h6,_⟩,h7,h8,h9⟩,_⟩:=h4;unfold dU FB lO;simp only[ac,ah,List.all_eq_true];refine ⟨⟨⟨?_,?_⟩,?_,?_⟩,λq hq=>?_⟩
 ·exact h5
 ·exact h6
 ·exact h7
 ·exact h8
 ·obtain ⟨g1,g2,_⟩:=h9 q hq;exact ⟨g1,g2⟩
def ATG {k:bA} (h:InS aH k):dL k=true:=by
 obtain ⟨_,_,⟨h5,h6,_⟩,_,⟨h7,h8,_⟩⟩:=h;unfold dL lO;simp only[ac,ah];exact ⟨⟨h5,h6⟩,h7,h8⟩
end Go.Pv
namespace Go.Pv
open Go Go.Proofs IntKind
noncomputable def cB (m:aE):aA->List aQ->aA×Int
 | d,[]=>(d,0)
 | d,x::l=>if (bO d m x).2=0 then cB m (bO d m x).1 l else (iP,(bO d m x).2)
noncomputable def gR (d:aA) (m:aE) (o:dG):aA×Int :=
 if oS o.1=false then (iP,6)
 else if (o.2.length:Int)=0 then (iP,3)
 else if 32<(o.2.length:Int) then (iP,4)
 else if ¬ fX d m=0 then (iP,fX d m)
 else cB m d o.2
def MV {m:aE}:∀ {l:List aQ} {d:aA},¬ (cB m d l).2=0->(cB m d l).1=iP
 | [],d,h=>absurd rfl h
 | x::l,d,h=>by
  unfold cB at h ⊢;split
  ·rename_i hx;rw[if_pos hx] at h;exact MV h
  ·rfl
def MU {m:aE}:∀ {a b:List aQ} {d:aA},cB m d (a++b)=if (cB m d a).2=0 then cB m (cB m d a).1 b else cB m d a
 | [],b,d=>by
  rw[if_pos (show (cB m d []).2=0 from rfl)];rfl
 | x::a,b,d=>by
  show (if (bO d m x).2=0 then cB m (bO d m x).1 (a++b) else (iP,(bO d m x).2))=_;rw[show cB m d (x::a)=if (bO d m x).2=0 then cB m (bO d m x).1 a else (iP,(bO d m x).2) from rfl];split
  ·exact MU
  ·rfl
def MW {m:aE}:∀ {l:List aQ} {d:aA},fX d m=0->(cB m d l).2=0->fX (cB m d l).1 m=0
 | [],d,hc,_=>hc
 | x::l,d,hc,h=>by
  unfold cB at h ⊢;split at h
  ·rename_i hx;rw[if_pos hx];have hd:=D3 hx;exact MW (by rw[hd.eq];exact hd.chk) h
  ·rename_i hx;exact absurd h hx
variable {m:aE}
def AZQ {d:aA} {o:dG} (h:¬ (gR d m o).2=0):(gR d m o).1=iP:=by
 unfold gR at h ⊢;split
 ·rfl
 split
 ·rfl
 split
 ·rfl
 split
 ·rfl
 ·rename_i h1 h2 h3 h4;rw[if_neg h1,if_neg h2,if_neg h3,if_neg h4] at h;exact MV h
def rV {d:aA} {x:aQ} {l:List aQ} (h:(cB m d (x::l)).2=0):sN d m x/\cB m d (x::l)=cB m (eQ d x) l:=by
 have e:cB m d (x::l)=if (bO d m x).2=0 then cB m (bO d m x).1 l else (iP,(bO d m x).2):=rfl
 by_cases hx:(bO d m x).2=0
 ·have hd:=D3 hx;rw[if_pos hx,hd.eq] at e;exact ⟨hd,e⟩
 ·rw[if_neg hx] at e;rw[e] at h;exact absurd h hx
def U2 {d:aA} {o:dG} (h:(gR d m o).2=0):fX d m=0/\gR d m o=cB m d o.2:=by
 unfold gR at h ⊢;split at h
 ·cases h
 split at h
 ·cases h
 split at h
 ·cases h
 split at h
 ·rename_i hc;exact absurd h hc
 ·rename_i h1 h2 h3 h4;exact ⟨Classical.byContradiction h4,by rw[if_neg h1,if_neg h2,if_neg h3,if_neg h4]⟩
def MX {m:aE}:∀ {l:List aQ} {b:Nat} {d:aA},BZ b d->A0 d=true->zT d=true->(∀ x∈l,dU (bW x)=true/\dL (eF x)=true)->(cB m d l).2=0->BZ (b+l.length) (cB m d l).1/\A0 (cB m d l).1=true/\zT (cB m d l).1=true
 | [],b,d,h,hD,hK,_,_=>⟨h,hD,hK⟩
 | x::l,b,d,h,hD,hK,hE,h0=>by
  obtain ⟨hd,e⟩:=rV h0;rw[e] at h0 ⊢;obtain ⟨hp,hq⟩:=hE x am;have:=MX (U6 h) (NH hD hp) (NI hK hq) (λy hy=>hE y (List.mem_cons_of_mem _ hy)) h0;rw[List.length_cons,show b+(l.length+1)=b+1+l.length by omega];exact this
def okA (d:aA) (o:dG):Bool:=(A0 d&&zT d)&&((decide (d.2.1.length<=900)&&decide (d.2.2.1.length<=900))&&(decide (d.2.2.2.1.length<=900)&&(decide (d.2.2.2.2.1.length<=900)&&decide (d.2.2.2.2.2.length<=900))))&&o.2.all λx=>dU (bW x)&&dL (eF x)
def A4X {d:aA} {o:dG} {b:Nat} (h:BZ b d) (hb:b<=900) (hD:A0 d=true) (hK:zT d=true) (hE:∀ x∈o.2,dU (bW x)=true/\dL (eF x)=true):okA d o=true:=by
 obtain ⟨a1,a2,a3,a4,a5⟩:=h;unfold okA;simp only[ac,ah,List.all_eq_true];exact ⟨⟨⟨hD,hK⟩,⟨by omega,by omega⟩,by omega,by omega,by omega⟩,hE⟩
def TA (d:aA) (o:dG):Bool:=(A0 d&&zT d)&&o.2.all λx=>dU (bW x)&&dL (eF x)
def A4Y {d:aA} {o:dG} (hd:InS aB d) (ho:InS dN o):TA d o=true:=by
 unfold TA;rw[BJX hd,BJY hd,Bool.true_and,Bool.true_and];refine List.all_eq_true.2 λx hx=>?_;have h:InS aJ x:=ho.2.2.2 x hx;rw[ATH h.2.2.2.2.1,ATG h.2.2.2.2.2.2.1];rfl
end Go.Pv
namespace Go.Pv
open Go Go.Proofs IntKind
noncomputable def BEO:Env:=Env.of [(1000000103,.mark),(64,.pure eW),(65,.pure cV),(66,.pure dA)]
def BE4:FuncId->Hint:=cF 41 [(12,.inv [.own 9 6 aB,.val 40 false (.int .i64)])] (λ_=>a6)
def AVP:aR Tryz.prog BEO:=.cons (x:=.mark) trivial (.cons zH (.cons j7 (.cons gU (.nil _))))
def BR1:Sh:=[(true,aB),(false,Sy.int IntKind.i64)]
def BR4:Sh:=[(false,Sy.bool)]
def BR5:T:=aF true aB (bJ,[],[],[],[],[])
def BR9(a2:dG):List (List T):=List.map aJ.enc a2.2
def BSB(s5:List aA×Int×PUnit):List (List T):=List.map aB.enc s5.1
def BSE(R:T->Prop):Prop:=aX aB [] (i64.wrap ((↑0:Int)-1)) λ(y2:aA)=>R (T.bY [aF true aB y2,pPP 0])
def AFX(a0:aA)(a1:aE)(a2:dG)(R:T->Prop):Prop:=aM BR4 (eW [pPQ a2.1]) λ(y0:Bool)=>aD (!y0) (R (T.bY [BR5, pPP 6])) (aD (decide ((↑(BR9 a2).length:Int)=0)) (R (T.bY [BR5, pPP 3])) (aD (decide (32<(↑(BR9 a2).length:Int))) (R (T.bY [BR5, pPP 4])) (aM [(false,Sy.int IntKind.i64)] (cV [aF true aB a0,aF true aI a1]) λ(y1:Int)=>aD (!decide (y1=0)) (aD (!decide (y1=0)) (R (T.bY [BR5, pPP y1])) (BSE R)) (iT aB [(aB.enc a0)] λ(y3:List aA)=>a8 (List aA×Int×PUnit) (λX4 s5=>aD (decide (s5.2.1<(↑(BR9 a2).length:Int))) (aX aJ (BR9 a2) s5.2.1 λ(y6:aQ)=>aX aB (BSB s5) (i64.wrap ((↑(BSB s5).length:Int)-1)) λ(y7:aA)=>jD aB (BSB s5) (i64.wrap ((↑(BSB s5).length:Int)-1)).toNat 0 λ(y8:aA)=>aM BR1 (dA [aF true aB y8,aF true aI a1, aF true aJ y6]) λ(y9:aA×Int)=>aD (!decide (y9.2=0)) (aD (!decide (y9.2=0)) (R (T.bY [BR5, pPP y9.2])) (BSE R)) (b7 (decide (((BSB s5).length+1)*136<=140737488355328) && decide ((BSB s5).length+1<=140737488355328)) (iT aB (List.map aB.enc s5.1 ++ [(aB.enc y9.1)]) λ(y11:List aA)=>X4 (y11,i64.wrap (s5.2.1+1),())))) (aX aB (BSB s5) (i64.wrap ((↑(BSB s5).length:Int)-1)) λ(y12:aA)=>jD aB (BSB s5) (i64.wrap ((↑(BSB s5).length:Int)-1)).toNat 0 λ(y13:aA)=>R (T.bY [aF true aB y13,pPP 0]))) (y3,0,())))))
abbrev AJP:Sh:=[(true,aB),(true,aI),(true,dN)]
noncomputable def FP (x:aA×aE×dG):Option T:=match okA x.1 x.2.2 with
 | true=>some (Sh.enc [(true,aB),(false,.int .i64)] (gR x.1 x.2.1 x.2.2))
 | false=>none
noncomputable def xM:List T->Option T:=gS AJP FP
def ARJ {a0 a1 a2}:xM [aF true aB a0,aF true aI a1,aF true dN a2]=FP (a0,a1,a2):=bH (s:=AJP) rfl (a0,a1,a2) rfl
def BBZ:Of3 Tryz.prog 14 xM FP (cQ AJP) AFX:=J4 (a1:=(true,aB)) (a2:=(true,aI)) (a3:=(true,dN)) (Hs:=BE4) (k:=8) AVP aV aY (aN rfl) ⟨_,_,Tryz.func14,rfl⟩ rfl λ_ _ _ _=>by kernel_rfl
def BI {r:Sy} {l:List r.den} {i:Int} {k:Nat} {y:r.den} {K:r.den->Prop} (hi:i=(k:Int)) (hy:l[k]? = some y) (hk:K y):aX r (List.map r.enc l) i K :=
 ⟨y,by omega,by rw[hi,Int.toNat_natCast];exact rZ.2 hy,hk⟩
variable {y:aA}
def A45 {l:List aA} {i k:Nat} {K:aA->Prop} (hi:i=k) (hy:l[k]? = some y) (hk:K y):jD aB (List.map aB.enc l) i 0 K :=
 ⟨_,y,by rw[hi];exact (rZ (r:=aB)).2 hy,al _,rfl,hk⟩
def BAI:aO Tryz.prog 14 xM:=BBZ λd m o r h hb=>by
 clear hb;obtain ⟨hc,rfl⟩:=l8 h;clear h;unfold okA at hc;simp only[ac,ah,List.all_eq_true] at hc;obtain ⟨⟨⟨hD,hK⟩,⟨l1,l2⟩,l3,l4,l5⟩,hE⟩:=hc;unfold AFX BSE BSB BR9 BR5 BR4 BR1;refine aK (s:=[(false,Sy.bool)]) (y:=oS o.1) (HA ..) ?_;refine lD (λhi=>?_) λhi=>?_
 ·unfold gR;rw[if_pos hi];rfl
 have hi:¬ oS o.1=false:=by rw[hi];decide
 have eO:(List.map aJ.enc o.2).length=o.2.length:=ae ..;rw[eO];refine cO (λh1=>?_) λh1=>?_
 ·unfold gR;rw[if_neg hi,if_pos h1];rfl
 refine cO (λh2=>?_) λh2=>?_
 ·unfold gR;rw[if_neg hi,if_neg h1,if_pos h2];rfl
 refine aK (s:=[(false,.int .i64)]) (y:=fX d m) (nV ..) ?_;have hA:gR d m o=if ¬ fX d m=0 then (iP,fX d m) else cB m d o.2:=by
  unfold gR;rw[if_neg hi,if_neg h1,if_neg h2]
 rw[hA];refine lK (λh3=>?_) λh3=>?_
 ·rw[if_pos h3];exact lK (λ_=>rfl) λh=>absurd h h3
 rw[if_neg (λh=>h h3)];clear hA;refine fG (r:=aB) rfl (l:=[d]) rfl ?_;refine bN o.2.length (λk s=>∃ (L:List aA) (c:aA),s=(L,(k:Int),())/\L.length=k+1/\L[k]? = some c/\cB m d o.2=cB m c (o.2.drop k)/\BZ (900+k) c/\A0 c=true/\zT c=true) ⟨[d],d,rfl,rfl,rfl,by rw[List.drop_zero],⟨l1,l2,l3,l4,l5⟩,hD,hK⟩ ?_;rintro X k s hk ⟨L,c,rfl,hL,hLk,hF,hN,hcD,hcK⟩ hX;dsimp only;have hw:i64.wrap (((List.map aB.enc L).length:Int)-1)=(k:Int):=by
  rw[ae,hL];exact (bB _ (by omega) (by omega)).trans (by omega)
 rw[hw];refine cO (λhlt=>?_) λhge=>?_
 ·have hlt:k<o.2.length:=by omega
  rw[bG (r:=aJ) hlt];refine BI (r:=aB) rfl hLk (A45 (Int.toNat_natCast k) hLk ?_);obtain ⟨hp,hq⟩:=hE _ (ak hlt);refine aK (s:=[(true,aB),(false,.int .i64)]) (y:=bO c m o.2[k]) (DX (WD hcD hcK hN (by omega)) hp hq) ?_;have hF2:cB m d o.2=if (bO c m o.2[k]).2=0 then cB m (bO c m o.2[k]).1 (o.2.drop (k+1)) else (iP,(bO c m o.2[k]).2):=by
   rw[hF,List.drop_eq_getElem_cons hlt];rfl
  refine lK (λhe=>?_) λhe=>?_
  ·refine lK (λ_=>?_) λh=>absurd h he;rw[hF2,if_neg he];rfl
  ·rw[if_pos he] at hF2;have hd:=D3 he;refine ⟨by rw[ae,hL,ac];exact ⟨ai (by omega),ai (by omega)⟩,?_⟩;refine fG (r:=aB) rfl (l:=L++[(bO c m o.2[k]).1]) (by rw[List.map_append];rfl) ?_;refine hX _ hlt ⟨_,(bO c m o.2[k]).1,by rw[show i64.wrap ((k:Int)+1)=((k+1:Nat):Int) from bB _ (by omega) (by omega)],by rw[List.length_append,hL];rfl,?_,hF2,?_,?_,?_⟩
   ·rw[List.getElem?_append_right (by omega),hL];simp
   ·rw[hd.eq];exact U6 hN
   ·rw[hd.eq];exact NH hcD hp
   ·rw[hd.eq];exact NI hcK hq
 ·have hk2:o.2.drop k=[]:=List.drop_eq_nil_of_le (by omega);refine BI (r:=aB) rfl hLk (A45 (Int.toNat_natCast k) hLk ?_);rw[hF,hk2];rfl
variable {m:aE}
def AP5 {d:aA} {o:dG} (h:okA d o=true):xM [aF true aB d,aF true aI m,aF true dN o]=some (Sh.enc [(true,aB),(false,.int .i64)] (gR d m o)):=by
 rw[ARJ];unfold FP;exact fF h
end Go.Pv
namespace Go.Pv
open Go Go.RowKit IntKind
section
variable {α : Type}
def SQ {k:iII}:∀ {es:List (iII×α)},fH es k=none->k∉es.map λe=>e.1
 | [],_=>by simp
 | e::es,h=>by
  unfold fH at h;split at h
  ·cases h
  ·rename_i hne;have:=SQ h;simp only[List.map_cons,List.mem_cons,not_or];exact ⟨λh'=>hne h'.symm,this⟩
def SR {k s:iII} {x:α}:∀ {es:List (iII×α)},fH (es++[(k,x)]) s=match fH es s with|some y=>some y|none=>if k=s then some x else none
 | []=>by simp[fH]
 | e::es=>by
  simp only[List.cons_append,fH];split
  ·rfl
  ·exact SR
def wS (id:α->iII) (l:List α) (k:Nat) (es:List (iII×α)):Prop :=
 (∀ s,fH es s=(l.take k).find? λx=>decide (id x=s))/\(es.map λe=>e.1).Nodup/\es.length<=k
def wS.zero (id:α->iII) (l:List α):wS id l 0 []:=⟨by simp[fH],by simp,by simp⟩
def wS.no {id:α->iII} {l:List α} {k:Nat} {es:List (iII×α)} (h:wS id l k es) (hk:k<l.length) {y:α} (hy:fH es (id l[k])=some y):wS id l (k+1) es:=by
 refine ⟨λs=>?_,h.2.1,by have:=h.2.2;omega⟩;rw[List.take_succ_eq_append_getElem hk,List.find?_append,<-h.1];cases hs:fH es s with
 | some z=>rfl
 | none =>
  rw[Option.none_or,List.find?_cons];split
  ·rename_i he;rw[of_decide_eq_true he,hs] at hy;cases hy
  ·rfl
def wS.yes {id:α->iII} {l:List α} {k:Nat} {es:List (iII×α)} (h:wS id l k es) (hk:k<l.length) (hy:fH es (id l[k])=none):wS id l (k+1) (es++[(id l[k],l[k])]):=by
 refine ⟨λs=>?_,?_,by have:=h.2.2;simp;omega⟩
 ·rw[List.take_succ_eq_append_getElem hk,List.find?_append,<-h.1,SR];cases hs:fH es s with
  | some z=>rfl
  | none =>
   rw[Option.none_or,List.find?_cons];by_cases he:id l[k]=s
   ·simp[he]
   ·simp[he]
 ·rw[List.map_append,List.nodup_append];refine ⟨h.2.1,by simp,λa ha b hb e=>?_⟩;simp only[List.map_cons,List.map_nil,List.mem_singleton] at hb;subst hb e;exact SQ hy ha
end
section
variable {β : Type} {lt : β -> β -> Prop}
structure A9H (lt:β->β->Prop):Prop where
 irr:∀ a,¬ lt a a
 tr:∀ {a b c},lt a b->lt b c->lt a c
 tot:∀ {a b},¬ lt a b->¬ lt b a->a=b
def JU (lt:β->β->Prop) (begun:Bool) (last s:β):Prop:=begun=false\/lt last s
def o6 (lt:β->β->Prop) (all:List β) (begun:Bool) (last:β) (k:Nat) (nx:β) (sm:Bool):Prop :=
 (sm=false->∀ s∈all.take k,¬ JU lt begun last s)/\(sm=true->nx∈all/\JU lt begun last nx/\∀ s∈all.take k,JU lt begun last s->¬ lt s nx)
def o6.zero (all:List β) (begun:Bool) (last nx:β):o6 lt all begun last 0 nx false:=⟨by simp,by simp⟩
variable {begun sm:Bool}
def o6.take (ho:A9H lt) {all:List β} {last:β} {k:Nat} {nx:β} (h:o6 lt all begun last k nx sm) (hk:k<all.length)
  (he:JU lt begun last all[k]) (hc:sm=false\/lt all[k] nx):o6 lt all begun last (k+1) all[k] true:=by
 refine ⟨by simp,λ_=>⟨ak hk,he,λs hs hes=>?_⟩⟩;rw[List.take_succ_eq_append_getElem hk,List.mem_append] at hs;rcases hs with hs|hs
 ·cases sm with
  | false=>exact absurd hes (h.1 rfl s hs)
  | true =>
   have hlt:=hc.resolve_left (by simp);exact λh'=>(h.2 rfl).2.2 s hs hes (ho.tr h' hlt)
 ·rw[List.mem_singleton.1 hs];exact ho.irr _
def o6.skip {all:List β} {last:β} {k:Nat} {nx:β} (h:o6 lt all begun last k nx sm) (hk:k<all.length)
  (hc:¬ JU lt begun last all[k]\/(sm=true/\¬ lt all[k] nx)):o6 lt all begun last (k+1) nx sm:=by
 refine ⟨λe s hs=>?_,λe=>⟨(h.2 e).1,(h.2 e).2.1,λs hs hes=>?_⟩⟩
 ·rw[List.take_succ_eq_append_getElem hk,List.mem_append] at hs;rcases hs with hs|hs
  ·exact h.1 e s hs
  ·rw[List.mem_singleton.1 hs];rcases hc with hc|⟨hc,_⟩
   ·exact hc
   ·rw[hc] at e;cases e
 ·rw[List.take_succ_eq_append_getElem hk,List.mem_append] at hs;rcases hs with hs|hs
  ·exact (h.2 e).2.2 s hs hes
  ·rw[List.mem_singleton.1 hs] at hes ⊢;rcases hc with hc|⟨_,hc⟩
   ·exact absurd hes hc
   ·exact hc
def sQ (lt:β->β->Prop) (all:List β) (D:β->Prop) (out:List β) (begun:Bool) (last:β):Prop :=
 out.Pairwise lt/\∀ s,s∈out↔s∈all/\D s/\¬ JU lt begun last s
def sQ.zero (all:List β) (D:β->Prop) (last:β):sQ lt all D [] false last:=⟨List.Pairwise.nil,λs=>by simp[JU]⟩
def yB (ho:A9H lt) {all:List β} {last nx:β} (h:o6 lt all begun last all.length nx true) {s:β} (hs:s∈all):¬ JU lt true nx s↔¬ JU lt begun last s\/s=nx:=by
 have h2:=(h.2 rfl).2;rw[List.take_length] at h2;have e1:JU lt true nx s↔lt nx s:=by simp[JU]
 rw[e1];constructor
 ·intro hn;by_cases he:JU lt begun last s
  ·exact .inr (ho.tot (h2.2 s hs he) hn)
  ·exact .inl he
 ·rintro (hn|rfl)
  ·intro hl;refine hn ?_;rcases h2.1 with h3|h3
   ·exact .inl h3
   ·exact .inr (ho.tr h3 hl)
  ·exact ho.irr _
def sQ.skip (ho:A9H lt) {all:List β} {D:β->Prop} {out:List β} {last nx:β} (h:sQ lt all D out begun last) (hl:o6 lt all begun last all.length nx true) (hd:¬ D nx):sQ lt all D out true nx:=by
 refine ⟨h.1,λs=>?_⟩;rw[h.2];constructor
 ·rintro ⟨h1,h2,h3⟩;exact ⟨h1,h2,(yB ho hl h1).2 (.inl h3)⟩
 ·rintro ⟨h1,h2,h3⟩;rcases (yB ho hl h1).1 h3 with h3|rfl
  ·exact ⟨h1,h2,h3⟩
  ·exact absurd h2 hd
def sQ.take (ho:A9H lt) {all:List β} {D:β->Prop} {out:List β} {last nx:β} (h:sQ lt all D out begun last) (hl:o6 lt all begun last all.length nx true) (hd:D nx):sQ lt all D (out++[nx]) true nx:=by
 have hn:=hl.2 rfl;refine ⟨List.pairwise_append.2 ⟨h.1,by simp,λa ha b hb=>?_⟩,λs=>?_⟩
 ·rw[List.mem_singleton.1 hb];have ha':=(h.2 a).1 ha;refine Classical.byContradiction λhlt=>?_;have:¬ lt nx a:=λh'=>ha'.2.2 (by
   rcases hn.2.1 with h3|h3
   ·exact .inl h3
   ·exact .inr (ho.tr h3 h'))
  exact ha'.2.2 (by rw[ho.tot hlt this];exact hn.2.1)
 ·rw[List.mem_append,h.2,List.mem_singleton];constructor
  ·rintro (⟨h1,h2,h3⟩|rfl)
   ·exact ⟨h1,h2,(yB ho hl h1).2 (.inl h3)⟩
   ·exact ⟨hn.1,hd,(yB ho hl hn.1).2 (.inr rfl)⟩
  ·rintro ⟨h1,h2,h3⟩;rcases (yB ho hl h1).1 h3 with h3|rfl
   ·exact .inl ⟨h1,h2,h3⟩
   ·exact .inr rfl
def sQ.done {all:List β} {D:β->Prop} {out:List β} {last nx:β} (h:sQ lt all D out begun last) (hl:o6 lt all begun last all.length nx false):out.Pairwise lt/\∀ s,s∈out↔s∈all/\D s:=by
 refine ⟨h.1,λs=>?_⟩;rw[h.2];have:=hl.1 rfl;rw[List.take_length] at this;exact ⟨λ⟨a,b,_⟩=>⟨a,b⟩,λ⟨a,b⟩=>⟨a,b,this s a⟩⟩
open Classical in
open Classical in
end
end Go.Pv
namespace Go.Pv
open Go Go.Proofs Go.RowKit Go.Sort Go.Shelf IntKind
def toL (b:iII):List UInt8:=b.data.toList
def ofL (a:List UInt8):iII:=⟨a.toArray⟩
def BBV (b:iII):ofL (toL b)=b:=by cases b;simp[ofL,toL]
def J9 (q:List (List UInt8)->List (List UInt8)) (l:List iII):List iII:=(q (l.map toL)).map ofL
def ATV (q:List (List UInt8)->List (List UInt8)) (l:List iII):(q (l.map toL)).map (λa=>[T.v (encStr a)])=List.map Sy.str.enc (J9 q l):=by
 unfold J9;rw[List.map_map];rfl
def tE (l:List (List UInt8)):List (List UInt8):=l.mergeSort λx y=>decide (x<=y)
def xY (rows:List (List T)):Option (List (List T)):=(NF rows).map λl=>(tE l).map λa=>[.v (encStr a)]
def ACG (l:List iII) (K:List (List T)->Prop):lP (List (List T)) (xY (List.map Sy.str.enc l)) K=K (List.map Sy.str.enc (J9 tE l)):=by
 have e:xY (List.map Sy.str.enc l)=some (List.map Sy.str.enc (J9 tE l)):=by
  unfold xY;rw[RT];exact congrArg some (ATV ..)
 rw[e];exact propext ⟨λ⟨y,h1,h2⟩=>by cases h1;exact h2,λh=>⟨_,rfl,h⟩⟩
def ARB:cZ Tryz.prog 71 (EF 1 xY) :=
 ATO (f:=71) encStr (λ_=>rfl) NF NG tE (λl=>by unfold tE;simp) ⟨_,Tryz.func71,rfl,rfl⟩
  (λbM cap zs w hH hb hs=>Any.slices_Sort_string Tryz.AMC bM 0 cap zs w hH hb hs) (λp cap w=>Any.slices_Sort_string_none Tryz.AMC p cap w)
def BFX (x:List UInt8):Bool:=x.isEmpty
def BMO (l:List (List UInt8)):List (List UInt8):=l.filter λx=>!BFX x
end Go.Pv
namespace Go.Pv
open Go Go.Proofs IntKind
def BEE (l:List iII):List iII:=J9 BMO (J9 Lib.compact (J9 tE l))
def A37 (x:aQ):List iII :=
 if x.1=1 then [x.2.2.2.1.1,x.2.2.2.1.2.2]
 else if x.1=2\/x.1=4\/x.1=8\/x.1=10 then [x.2.1]
 else if x.1=3\/x.1=5 then [x.2.2.2.2.1.1,x.2.2.2.2.1.2.2.2.1]
 else if x.1=6 then [x.2.1,x.2.2.1]
 else if x.1=7 then [x.2.2.2.2.2.1.1,x.2.2.2.2.2.1.2.1,x.2.2.2.2.2.1.2.2.1]
 else if x.1=9 then ([x.2.2.2.2.2.2.1.1,x.2.2.2.2.2.2.1.2.1]++x.2.2.2.2.2.2.1.2.2.1)++x.2.2.2.2.2.2.1.2.2.2.2
 else if x.1=11\/x.1=12 then [x.2.2.2.2.2.2.2.2.1,x.2.2.2.2.2.2.2.2.2]
 else []
def BOO (x:aQ):Bool:=decide (x.2.2.2.2.2.2.1.2.2.1.length<=1000000)&&decide (x.2.2.2.2.2.2.1.2.2.2.2.length<=1000000)
def BK3 (x:aQ):Option T:=match BOO x with
 | true=>some (T.sl false (List.map Sy.str.enc (BEE (A37 x))))
 | false=>none
def BCL {c:Bool} {a r:T} (h:(match c with|true=>some a|false=>none)=some r):c=true/\a=r:=by
 cases c with
 | true=>exact ⟨rfl,Option.some.inj h⟩
 | false=>cases h
end Go.Pv
namespace Go.Pv
open Go Go.Proofs Go.Lib IntKind
end Go.Pv
namespace Go.Pv
open Go Go.Proofs IntKind
def BOF (l:List iII):List iII:=J9 Lib.compact (J9 tE l)
end Go.Pv
namespace Go.Pv
open Go Go.Proofs IntKind
end Go.Pv
namespace Go.Pv
open Go Go.Proofs IntKind
end Go.Pv
namespace Go.Pv
open Go Go.Proofs IntKind
def BN3 (l:List aQ):List iII:=BOF (l.flatMap λe=>BEE (A37 e))
def ANL:List iII->iII->List iII
 | [],s=>[s]
 | a::l,s=>if cY a s=true then a::ANL l s else if a=s then a::l else s::a::l
end Go.Pv
namespace Go.Pv
open Go Go.Proofs IntKind
def BK4 (x:List iII×iII):Option T:=match decide (x.1.length<=1000000000) with
 | true=>some (T.sl false (List.map Sy.str.enc (ANL x.1 x.2)))
 | false=>none
noncomputable def A7D:Env:=Env.of []
def A84:FuncId->Hint:=cF 24 [(4,.inv [.val 5 false (.int .i64)]),(10,.inv [.val 7 false (.int .i64)])] (λ_=>a6)
def AOT:aR Tryz.prog A7D:=.nil _
def BR3:T:=pPR false
def BSG(y2:aQ):List (List T):=List.map aC.li.enc y2.2.2.2.2.1.2.2.2.2.2.2.1.2
def UC(a0:dG)(a1:Int)(R:T->Prop):Prop:=aD (decide (100<(↑(ByteArray.size a0.1):Int))) (R BR3) (aD (decide (a1<(↑(BR9 a0).length:Int))) (R BR3) (a8 (Int×PUnit) (λX0 s1=>aD (decide (s1.1<(↑(BR9 a0).length:Int))) (aX aJ (BR9 a0) s1.1 λ(y2:aQ)=>aD (decide (40<(↑(List.map Sy.str.enc y2.2.2.2.2.2.2.1.2.2.1).length:Int))) (R BR3) (aD (decide (40<(↑(List.map Sy.str.enc y2.2.2.2.2.2.2.1.2.2.2.2).length:Int))) (R BR3) (aD (decide (100 < (↑(List.map aC.enc y2.2.2.2.2.1.2.2.2.2.2.2.1.1).length : Int))) (R BR3) (aD (decide (20 < (↑(BSG y2).length : Int))) (R BR3) (a8 (Int×PUnit) (λX3 s4=>aD (decide (s4.1 < (↑(BSG y2).length : Int))) (aX aC.li (BSG y2) s4.1 λ(y5:List aU)=>aD (decide (100<(↑(List.map aC.enc y5).length:Int))) (R BR3) (X3 (i64.wrap (s4.1+1),()))) (X0 (i64.wrap (s1.1+1),()))) (0,())))))) (R (pPR true))) (0,())))
abbrev WV:Sh:=[(true,dN),(false,(Sy.int IntKind.i64))]
def VA (x:aQ):Bool:=decide ((x.2.2.2.2.2.2.1.2.2.1.length:Int)<=40)&&(decide ((x.2.2.2.2.2.2.1.2.2.2.2.length:Int)<=40)&&(decide ((x.2.2.2.2.1.2.2.2.2.2.2.1.1.length:Int)<=100)&&(decide ((x.2.2.2.2.1.2.2.2.2.2.2.1.2.length:Int)<=20)&&x.2.2.2.2.1.2.2.2.2.2.2.1.2.all λh=>decide ((h.length:Int)<=100))))
def xF (o:dG) (n:Int):Bool:=decide ((o.1.size:Int)<=100)&&(decide ((o.2.length:Int)<=n)&&o.2.all VA)
def FR (x:dG×Int):Option T:=match decide (x.2<=1000) with
 | true=>some (Sh.enc qF (xF x.1 x.2))
 | false=>none
noncomputable def EJ:List T->Option T:=gS WV FR
def AH3 {a0 a1}:EJ [aF true dN a0,pPP a1]=FR (a0,a1):=bH (s:=WV) rfl (a0,a1) rfl
def A4I:tG Tryz.prog 24 EJ FR (cQ WV) UC:=iR (a1:=(true,dN)) (a2:=(false,(Sy.int IntKind.i64))) (Hs:=A84) (k:=8) AOT aV aY (aN rfl) ⟨_,_,Tryz.func24,rfl⟩ rfl λ_ _ _=>by kernel_rfl
def A0N:aO Tryz.prog 24 EJ:=A4I λo n r h hb=>by
 clear hb;obtain ⟨hn,rfl⟩:=BCL h;clear h;have hn:n<=1000:=of_decide_eq_true hn;have no:xF o n=false->pPR false=Sh.enc qF (xF o n):=λh=>by rw[h];rfl
 unfold UC BSG BR9 BR3;simp only[ae];refine j9 (λh=>no (by unfold xF;rw[aj h];rfl)) λg1=>?_;refine j9 (λh=>no (by unfold xF;rw[aj h,Bool.false_and,Bool.and_false])) λg2=>?_;refine bN o.2.length (λk s=>s=((k:Int),())/\xF o n=(o.2.drop k).all VA) ⟨rfl,by unfold xF;rw[ai g1,ai g2];rfl⟩ ?_;rintro X k s hk ⟨rfl,he⟩ hX;dsimp only;refine cO (λhlt=>?_) λhge=>?_
 ·have hlt:k<o.2.length:=by omega
  rw[MN hlt] at he;rw[bG (r:=aJ) hlt];generalize o.2[k]=x at he ⊢;unfold VA at he;refine j9 (λh=>no (by rw[he,aj h];rfl)) λk1=>?_;rw[ai k1,Bool.true_and] at he;refine j9 (λh=>no (by rw[he,aj h];rfl)) λk2=>?_;rw[ai k2,Bool.true_and] at he;refine j9 (λh=>no (by rw[he,aj h];rfl)) λk3=>?_;rw[ai k3,Bool.true_and] at he;refine j9 (λh=>no (by rw[he,aj h];rfl)) λk4=>?_;rw[ai k4,Bool.true_and] at he;generalize x.2.2.2.2.1.2.2.2.2.2.2.1.2=H at k4 he ⊢;refine bN H.length (λj q=>q=((j:Int),())/\xF o n=((H.drop j).all (λh=>decide ((h.length:Int)<=100))&&(o.2.drop (k+1)).all VA)) ⟨rfl,by rw[List.drop_zero];exact he⟩ ?_;rintro Y j q hj ⟨rfl,hq⟩ hY;dsimp only;refine cO (λhlt2=>?_) λhge2=>?_
  ·have hlt2:j<H.length:=by omega
   rw[MN hlt2] at hq;rw[bG (r:=.li aC) hlt2];refine j9 (λh=>no (by rw[hq,aj h];rfl)) λk5=>?_;rw[ai k5,Bool.true_and] at hq;exact hY _ hlt2 ⟨by rw[show i64.wrap ((j:Int)+1)=((j+1:Nat):Int) from bB _ (by omega) (by omega)],hq⟩
  ·rw[List.drop_eq_nil_of_le (by omega),List.all_nil,Bool.true_and] at hq;exact hX _ hlt ⟨by rw[show i64.wrap ((k:Int)+1)=((k+1:Nat):Int) from bB _ (by omega) (by omega)],hq⟩
 ·rw[he,List.drop_eq_nil_of_le (by omega)];rfl
end Go.Pv
namespace Go.Pv
open Go Go.Proofs IntKind
def A6J:Value->Value->Bool
 | .int k a,.int j b=>decide (k=j)&&decide (a=b)
 | .string a,.string b=>decide (a=b)
 | .bool a,.bool b=>a == b
 | .slice none a b,.slice none c d=>a == c&&b == d
 | _,_=>false
def AGS {α:Type} (f:α->α->Bool):List α->List α->Bool
 | [],[]=>true
 | a::l,b::m=>f a b&&AGS f l m
 | _,_=>false
def TN:Nat->T->T->Bool
 | n+1,.v a,.v b=>A6J a b
 | n+1,.agg l,.agg m=>AGS (TN n) l m
 | n+1,.sl f l,.sl g m=>(f == g)&&AGS (AGS (TN n)) l m
 | _,_,_=>false
def EG:List (List T×T)->List T->Option T
 | [],_=>none
 | (A,r)::l,args=>match AGS (TN 20) args A with
  | true=>some r
  | false=>EG l args
def A6K {a b:Value} (h:A6J a b=true):a=b:=by
 unfold A6J at h;split at h
 ·simp only[ac,ah] at h;rw[h.1,h.2]
 ·rw[of_decide_eq_true h]
 ·rw[eq_of_beq h]
 ·simp only[ac,beq_iff_eq] at h;rw[h.1,h.2]
 ·cases h
def DV {α:Type} {f:α->α->Bool} (hf:∀ a b,f a b=true->a=b):∀ l m,AGS f l m=true->l=m
 | [],[],_=>rfl
 | [],_::_,h=>by cases h
 | _::_,[],h=>by cases h
 | a::l,b::m,h=>by
  simp only[AGS,ac] at h;rw[hf a b h.1,DV hf l m h.2]
def P1:∀ (n:Nat) (a b:T),TN n a b=true->a=b
 | 0,_,_,h=>by simp[TN] at h
 | n+1,a,b,h=>by
  unfold TN at h;split at h
  ·rename_i e;rw[A6K h]
  ·rename_i e;cases e;rw[DV (P1 n) _ _ h]
  ·rename_i e;cases e;simp only[ac,beq_iff_eq] at h;rw[h.1,DV (DV (P1 n)) _ _ h.2]
  ·cases h
def zL:∀ {l:List (List T×T)} {args:List T} {r:T},EG l args=some r->(args,r)∈l
 | [],_,_,h=>by cases h
 | (A,q)::l,args,r,h=>by
  unfold EG at h;split at h
  ·rename_i e;cases h;rw[DV (P1 20) _ _ e];exact am
  ·exact List.mem_cons_of_mem _ (zL h)
variable {P:Program}{g:List T->Option T}
def G5 {f:FuncId} (hg:aO P f g) {l:List (List T×T)} (h:∀ x∈l,g x.1=some x.2):aO P f (EG l):=⟨hg.entry,λw own args vs r hG ho ha hr=>hg.calls w own args vs r hG ho ha (h _ (zL hr))⟩
end Go.Pv
namespace Go.Pv
open Go Go.Proofs IntKind
def AAM:fP Tryz.prog 318 (qB 1 8):=kP aV aY ⟨_,_,Tryz.func318,rfl⟩ ⟨λR=>by kernel_rfl,λfl R=>by kernel_rfl,λfl a rows R=>by kernel_rfl⟩
def R3:fP Tryz.prog 103 (qB 3 40):=kP aV aY ⟨_,_,Tryz.func103,rfl⟩ ⟨λR=>by kernel_rfl,λfl R=>by kernel_rfl,λfl a rows R=>by kernel_rfl⟩
def R6:fP Tryz.prog 104 (qB 6 72):=kP aV aY ⟨_,_,Tryz.func104,rfl⟩ ⟨λR=>by kernel_rfl,λfl R=>by kernel_rfl,λfl a rows R=>by kernel_rfl⟩
def R1:fP Tryz.prog 105 (qB 3 40):=kP aV aY ⟨_,_,Tryz.func105,rfl⟩ ⟨λR=>by kernel_rfl,λfl R=>by kernel_rfl,λfl a rows R=>by kernel_rfl⟩
def ALY:fP Tryz.prog 136 (qB 2 16):=kP aV aY ⟨_,_,Tryz.func136,rfl⟩ ⟨λR=>by kernel_rfl,λfl R=>by kernel_rfl,λfl a rows R=>by kernel_rfl⟩
def AAN:fP Tryz.prog 137 (qB 1 24):=kP aV aY ⟨_,_,Tryz.func137,rfl⟩ ⟨λR=>by kernel_rfl,λfl R=>by kernel_rfl,λfl a rows R=>by kernel_rfl⟩
def R5:fP Tryz.prog 106 (qB 18 208):=kP aV aY ⟨_,_,Tryz.func106,rfl⟩ ⟨λR=>by kernel_rfl,λfl R=>by kernel_rfl,λfl a rows R=>by kernel_rfl⟩
def R4:fP Tryz.prog 107 (qB 5 88):=kP aV aY ⟨_,_,Tryz.func107,rfl⟩ ⟨λR=>by kernel_rfl,λfl R=>by kernel_rfl,λfl a rows R=>by kernel_rfl⟩
def AAO:fP Tryz.prog 243 (qB 1 16):=kP aV aY ⟨_,_,Tryz.func243,rfl⟩ ⟨λR=>by kernel_rfl,λfl R=>by kernel_rfl,λfl a rows R=>by kernel_rfl⟩
def AL6:FuncId->Bool:=λf=>[260,86,128,69,184,191,150].contains f
noncomputable def A3L:Env:=Env.of [(83,.pure sS),(318,.fresh (qB 1 8)),(103,.fresh (qB 3 40)),(104,.fresh (qB 6 72)),(105,.fresh (qB 3 40)),(136,.fresh (qB 2 16)),(137,.fresh (qB 1 24)),(106,.fresh (qB 18 208)),(107,.fresh (qB 5 88)),(243,.fresh (qB 1 16)),(280,.grow 3 kT),(5000000000+38,.mark)]
def AR8:aR Tryz.prog A3L:=aR.cons (x:=.pure sS) xH (aR.cons (x:=.fresh (qB 1 8)) AAM (aR.cons (x:=.fresh (qB 3 40)) R3 (aR.cons (x:=.fresh (qB 6 72)) R6 (aR.cons (x:=.fresh (qB 3 40)) R1 (aR.cons (x:=.fresh (qB 2 16)) ALY (aR.cons (x:=.fresh (qB 1 24)) AAN (aR.cons (x:=.fresh (qB 18 208)) R5 (aR.cons (x:=.fresh (qB 5 88)) R4 (aR.cons (x:=.fresh (qB 1 16)) AAO (aR.cons (x:=.grow 3 kT) CF (aR.cons (x:=.mark) trivial (aR.nil _))))))))))))
noncomputable def gEd:List T->Option T:=PE Tryz.prog 400 AL6 A3L 40 66
def BGL:aO Tryz.prog 66 gEd:=mA aV aY 400 AL6 AR8 40 (oA (k:=39) (fn:=_) (c:=_) (by kernel_rfl) Tryz.func66 rfl (by kernel_rfl))
def i0:T:=.v (.int .i64 0)
def s0:T:=.v (.string ⟨#[]⟩)
def n0:T:=.v (.slice none 0 0)
def l0:T:=.sl false []
def BMR:List T:=[T.agg [pPQ (⟨#[72,49]⟩),T.sl false [[pPQ (⟨#[65,49]⟩),pPP 2,pPQ (⟨#[66,49]⟩)],[pPQ (⟨#[66,49]⟩),pPP 1,s0]],T.sl false [[pPQ (⟨#[80,49]⟩),pPP 1,pPP 4,pPQ (⟨#[65,49]⟩),s0,i0,n0,n0,s0,i0,pPP 5,i0,i0,i0,i0,i0,i0,i0]],l0,l0,l0],T.agg [n0,n0],T.agg [pPP 1,s0,s0,pPQ (⟨#[65,50]⟩),pPP 2,pPQ (⟨#[66,49]⟩),s0,i0,i0,s0,s0,i0,n0,n0,s0,i0,i0,i0,i0,i0,i0,i0,i0,i0,s0,s0,s0,i0,i0,i0,s0,s0,n0,i0,n0,i0,s0,s0]]
def BMU:T:=T.bY [T.agg [pPQ (⟨#[72,49]⟩),T.sl false [[pPQ (⟨#[65,49]⟩),pPP 2,pPQ (⟨#[66,49]⟩)],[pPQ (⟨#[65,50]⟩),pPP 2,pPQ (⟨#[66,49]⟩)],[pPQ (⟨#[66,49]⟩),pPP 1,s0]],T.sl false [[pPQ (⟨#[80,49]⟩),pPP 1,pPP 4,pPQ (⟨#[65,49]⟩),s0,i0,l0,l0,s0,i0,pPP 5,i0,i0,i0,i0,i0,i0,i0]],l0,l0,l0],i0]
def BOI:gEd BMR=some BMU:=by kernel_rfl
def BMS:List T:=[T.agg [pPQ (⟨#[72,49]⟩),T.sl false [[pPQ (⟨#[65,49]⟩),pPP 2,pPQ (⟨#[66,49]⟩)],[pPQ (⟨#[65,50]⟩),pPP 2,pPQ (⟨#[66,49]⟩)],[pPQ (⟨#[66,49]⟩),pPP 1,s0]],T.sl false [[pPQ (⟨#[80,49]⟩),pPP 1,pPP 4,pPQ (⟨#[65,49]⟩),s0,i0,l0,l0,s0,i0,pPP 5,i0,i0,i0,i0,i0,i0,i0]],l0,l0,l0],T.agg [n0,n0],T.agg [pPP 6,pPQ (⟨#[80,49]⟩),pPQ (⟨#[65,50]⟩),s0,i0,s0,s0,i0,i0,s0,s0,i0,n0,n0,s0,i0,i0,i0,i0,i0,i0,i0,i0,i0,s0,s0,s0,i0,i0,i0,s0,s0,n0,i0,n0,i0,s0,s0]]
def BMV:T:=T.bY [T.agg [pPQ (⟨#[72,49]⟩),T.sl false [[pPQ (⟨#[65,49]⟩),pPP 2,pPQ (⟨#[66,49]⟩)],[pPQ (⟨#[65,50]⟩),pPP 2,pPQ (⟨#[66,49]⟩)],[pPQ (⟨#[66,49]⟩),pPP 1,s0]],T.sl false [[pPQ (⟨#[80,49]⟩),pPP 1,pPP 4,pPQ (⟨#[65,50]⟩),s0,i0,l0,l0,s0,i0,pPP 5,i0,i0,i0,i0,i0,i0,i0]],l0,l0,l0],i0]
def BOJ:gEd BMS=some BMV:=by kernel_rfl
def BMT:List T:=[T.agg [pPQ (⟨#[72,49]⟩),T.sl false [[pPQ (⟨#[65,49]⟩),pPP 2,pPQ (⟨#[66,49]⟩)],[pPQ (⟨#[65,50]⟩),pPP 2,pPQ (⟨#[66,49]⟩)],[pPQ (⟨#[66,49]⟩),pPP 1,s0]],T.sl false [[pPQ (⟨#[80,49]⟩),pPP 1,pPP 4,pPQ (⟨#[65,49]⟩),s0,i0,l0,l0,s0,i0,pPP 5,i0,i0,i0,i0,i0,i0,i0]],l0,l0,l0],T.agg [n0,n0],T.agg [pPP 4,pPQ (⟨#[80,57]⟩),s0,s0,i0,s0,s0,i0,i0,s0,s0,i0,n0,n0,s0,i0,i0,i0,i0,i0,i0,i0,i0,i0,s0,s0,s0,i0,i0,i0,s0,s0,n0,i0,n0,i0,s0,s0]]
def BMW:T:=T.bY [T.agg [s0,l0,l0,l0,l0,l0],pPP 8]
def BOK:gEd BMT=some BMW:=by kernel_rfl
def RX:List (List T×T):=[(BMR,BMU),(BMS,BMV),(BMT,BMW)]
def AL0:aO Tryz.prog 66 (EG RX):=G5 BGL λx hx=>by
 simp only[RX,List.mem_cons,List.not_mem_nil,or_false] at hx;rcases hx with rfl|rfl|rfl
 ·exact BOI
 ·exact BOJ
 ·exact BOK
end Go.Pv
namespace Go.Pv
open Go Go.Proofs Go.RowKit Go.Shelf IntKind
def BJ6:Ren:=⟨λ|166=>35|240=>59|276=>79|169=>39|n=>n,λ|0=>0|3=>3|4=>4|5=>5|9=>9|20=>20|37=>92|70=>91|72=>94|75=>96|80=>101|127=>129|164=>147|n=>n,λ|n=>n⟩
def BNC:Lays.n166 Tryz.prog BJ6:={
 mixed:=aV
 f166:=Tryz.func35.trans (congrArg some (by kernel_rfl))
 f240:=Tryz.func59.trans (congrArg some (by kernel_rfl))
 f276:=Tryz.func79.trans (congrArg some (by kernel_rfl))
 t0:=by kernel_rfl
 a0:=λ_=>by kernel_rfl
 z0:=λ_=>by kernel_rfl
 v0:=λ_=>by kernel_rfl
 t3:=by kernel_rfl
 a3:=λ_=>by kernel_rfl
 z3:=λ_=>by kernel_rfl
 v3:=λ_=>by kernel_rfl
 t4:=by kernel_rfl
 a4:=λ_=>by kernel_rfl
 z4:=λ_=>by kernel_rfl
 v4:=λ_=>by kernel_rfl
 t9:=by kernel_rfl
 a9:=λ_=>by kernel_rfl
 z9:=λ_=>by kernel_rfl
 v9:=λ_=>by kernel_rfl
 t20:=by kernel_rfl
 a20:=λ_=>by kernel_rfl
 z20:=λ_=>by kernel_rfl
 v20:=λ_=>by kernel_rfl
 t37:=by kernel_rfl
 a37:=λ_=>by kernel_rfl
 z37:=λ_=>by kernel_rfl
 v37:=λ_=>by kernel_rfl
 t70:=by kernel_rfl
 a70:=λ_=>by kernel_rfl
 z70:=λ_=>by kernel_rfl
 v70:=λ_=>by kernel_rfl
 t72:=by kernel_rfl
 a72:=λ_=>by kernel_rfl
 z72:=λ_=>by kernel_rfl
 v72:=λ_=>by kernel_rfl
 t75:=by kernel_rfl
 a75:=λ_=>by kernel_rfl
 z75:=λ_=>by kernel_rfl
 v75:=λ_=>by kernel_rfl
 t164:=by kernel_rfl
 a164:=λ_=>by kernel_rfl
 z164:=λ_=>by kernel_rfl
 v164:=λ_=>by kernel_rfl }
def BNB:Lays.n169 Tryz.prog BJ6:={
 mixed:=aV
 f169:=Tryz.func39.trans (congrArg some (by kernel_rfl))
 t0:=by kernel_rfl
 a0:=λ_=>by kernel_rfl
 z0:=λ_=>by kernel_rfl
 v0:=λ_=>by kernel_rfl
 t3:=by kernel_rfl
 a3:=λ_=>by kernel_rfl
 z3:=λ_=>by kernel_rfl
 v3:=λ_=>by kernel_rfl
 t9:=by kernel_rfl
 a9:=λ_=>by kernel_rfl
 z9:=λ_=>by kernel_rfl
 v9:=λ_=>by kernel_rfl
 t37:=by kernel_rfl
 a37:=λ_=>by kernel_rfl
 z37:=λ_=>by kernel_rfl
 v37:=λ_=>by kernel_rfl
 t70:=by kernel_rfl
 a70:=λ_=>by kernel_rfl
 z70:=λ_=>by kernel_rfl
 v70:=λ_=>by kernel_rfl
 t72:=by kernel_rfl
 a72:=λ_=>by kernel_rfl
 z72:=λ_=>by kernel_rfl
 v72:=λ_=>by kernel_rfl
 t127:=by kernel_rfl
 a127:=λ_=>by kernel_rfl
 z127:=λ_=>by kernel_rfl
 v127:=λ_=>by kernel_rfl }
def A0I:Builder.Extra Tryz.prog BJ6 where
 sizeBuilder:=by kernel_rfl
 liesBuilder:=by kernel_rfl
 t5:=by kernel_rfl
 a5:=λ_=>by kernel_rfl
 z5:=λ_=>by kernel_rfl
 v5:=λ_=>by kernel_rfl
 infoByte:=by kernel_rfl
 cellsByte:=by kernel_rfl
 sizeByte:=by kernel_rfl
 neB5:=by decide
def AP0 (B b:Nat) (bs:List Value) (s:iII) (w:World) (h:Lib.IsBuilderF 94 5 B b bs w) (hlen:bs.length+s.size<=140737488355328) (hBw:B<=w.heap.size) :
  Calls Tryz.prog 35 #[.pointer (some ⟨b,0,none⟩),.string s] w λe w'=>e = .returned (.tuple #[.int .i64 s.size,.nilIface])/\(Lib.BuilderAtF 94 5 B b (.pointer (some ⟨b,0,none⟩)) (bs++Lib.strCells s) w'/\Below B w w') :=
 Any.Builder_WriteString_f BNC A0I B b bs s w h hlen hBw
def AGY (B b:Nat) (l:List UInt8) (w:World) (h:Lib.IsBuilderF 94 5 B b (Lib.byteCells l) w) (hBw:B<=w.heap.size) :
  Calls Tryz.prog 39 #[.pointer (some ⟨b,0,none⟩)] w λe w'=>e = .returned (.string ⟨l.toArray⟩)/\(Lib.IsBuilderF 94 5 B b (Lib.byteCells l) w'/\Below B w w') :=
 Any.Builder_String_any_f BNB A0I B b l w h hBw
end Go.Pv
namespace Go.Pv
open Go Go.Proofs Go.RowKit IntKind
variable {P:Program}{ops:Array Oper}{Q:Exit->Act->World->Prop}
def mC {rest:List Nat} {a:Act} {w:World} {i:Nat} {o:Oper} (h:ops[i]? = some o) (hg:o.guard=none) (hh:o.wp P a w (wpOps P ops Q rest) Q):wpOps P ops Q (i::rest) a w:=by
 unfold wpOps;rw[h];have:Region.wanted o (yielded ops a.tmps)=true:=by unfold Region.wanted;rw[hg]
 simp only[this,if_true];exact .inl hh
def AMT {o:Oper} {a:Act} {w:World} {next:Act->World->Prop} {f:FuncId} {c:Call} {vs:Array Value} (ho:o.op = .call c) (hc:c.callee=Callee.value (Operand.func f)) (hv:c.args.map a.eval=vs)
  (hent:∃ fn,P.funcs[f]? = some fn/\(fn.name == "runtime.NumGoroutine")=false/\fn.body.isNone=false) (h:Calls P f vs w (λe w'=>∃ v,e = .returned v/\next (a.put o.dst v) w')):o.wp P a w next Q:=by
 obtain ⟨fn,e1,e2,e3⟩:=hent
 have e2':¬ fn.name = "runtime.NumGoroutine" := by simpa using e2
 have e3':¬ fn.body=none:=by intro h;simp[h] at e3
 have he:(execOp a.eval o).run P w = .ok (.enter f vs) w:=by
  simp only[execOp,ho,resolve,hc];simp[Deferred.ofValue,invoke,callFunc,Act.eval,e1,e2',e3',hv]
 unfold Oper.wp;rw[he];refine h.mono ?_;rintro e w' ⟨v,rfl,h3⟩;exact h3
noncomputable def J6 (rows:List (List T)) (k:Nat):Nat->D:=λt=>if t=16 then .p (.sl false rows) else if t=18 then .p (.v (.int .i64 (k:Int))) else .any
noncomputable def s1 (t:Nat) (d:D):Nat->D:=λi=>if i=t then d else .any
variable {ρ:Nat->Option Loc}
def A5X {w:World} {own:Nat->Prop} {t:Nat} {d:D} {a:Act} (h:Rd w own ρ d (a.tmps.getD t undef)):∀ x,Rd w own ρ (ev (s1 t d) x) (a.eval x):=λx=>by
 cases x with
 | tmp i =>
  show Rd w own ρ (if i=t then d else .any) (a.tmps.getD i undef);by_cases e:i=t
  ·subst e;rw[if_pos rfl];exact h
  ·rw[if_neg e];exact .any _
 | const v=>exact .p _ _ (.v v)
 | global g=>exact .p _ _ (.v _)
 | func f=>exact .p _ _ (.fn f [] [] #[] #[] rfl rfl (λi hi=>by simp at hi) (λi hi=>by simp at hi))
noncomputable def zE:List D:=match tz? Tryz.prog 68 with
 | some z=>z.cells.toList.map λv=>.p (.v v)
 | none=>[]
noncomputable def σA:Nat->Option bE:=cC (λ_=>none) 0 (some (.rows false [zE]))
noncomputable def σB (x:aQ):Nat->Option bE:=cC σA 0 (some (.rows false [(aJ.enc x).map .p]))
def BKO:((tz? Tryz.prog 68).bind λz=>(pD (z.cells.toList.map λv=>.p (.v v))).map λb=>((.ptr 0 0 0:D),cC (λ_=>none) 0 (some b)))=some (.ptr 0 0 0,σA):=by kernel_rfl
def BIA (x:aQ):uM Tryz.prog (λ_=>none) 68 (.p (.ref (aJ.enc x)))=some (.p (.agg (aJ.enc x))):=by kernel_rfl
def BC2 (x:aQ):j4 Tryz.prog σA 68 (.ptr 0 0 0) (.p (.agg (aJ.enc x)))=some (σB x):=by kernel_rfl
def BH9 (x:aQ):uM Tryz.prog (σB x) 68 (.ptr 0 0 0)=some (.p (.agg (aJ.enc x))):=by kernel_rfl
def BBC {rows:List (List T)} {k:Nat} {x:aQ} (hrow:rows[k]? = some (aJ.enc x)):dH Tryz.prog (λ_=>none) 23 (.p (.sl false rows)) (.p (.v (.int .i64 (k:Int))))=some (.p (.ref (aJ.enc x))):=by
 have e1:lI Tryz.prog 23=some 68:=by kernel_rfl
 have e2:tsz? Tryz.prog 68=some 38:=by kernel_rfl
 unfold dH;simp only[e1,e2,fK,Int.toNat_natCast,hrow];rw[if_neg (by omega),if_pos (by rfl)]
def HX {a:Act} {i:Nat} {v:Value} (h:i<a.tmps.size):(a.put (some i) v).tmps.getD i undef=v:=by
 simp[Act.put,Array.getD_eq_getD_getElem?,h]
def AJJ {a:Act} {i j:Nat} {v:Value} (h:i≠j):(a.put (some i) v).tmps.getD j undef=a.tmps.getD j undef:=by
 simp[Act.put,Array.getD_eq_getD_getElem?,Array.getElem?_setIfInBounds,h]
def yF {a:Act} {i:Nat} {v:Value}:(a.put (some i) v).tmps.size=a.tmps.size:=by simp[Act.put]
noncomputable def cxF (w:World):Cx:=ND Tryz.prog (λ_=>False) w
variable {o0 o1 o2:Oper}
def BCW {id:Nat} {o3:Oper} (hops:ops = #[o0,o1,o2,o3]) (g0:o0.guard=none) (g1:o1.guard=none) (g2:o2.guard=none) (g3:o3.guard=none)
  (p0:o0.op = .indexAddr 23 (.tmp 16) (.tmp 18)) (d0:o0.dst=some 20) (p1:o1.op = .load 68 (.tmp 20)) (d1:o1.dst=some 21) (p2:o2.op = .alloc 68) (d2:o2.dst=some 5) (p3:o3.op = .store 68 (.tmp 5) (.tmp 21)) (d3:o3.dst=none) {a:Act} {w:World} (hG:Good Tryz.prog w) (hsz:a.tmps.size=27) {rows:List (List T)} {x:aQ} {k:Nat}
  (h16:cS w (λ_=>False) (.sl false rows) (a.tmps.getD 16 undef)) (h18:a.tmps.getD 18 undef = .int .i64 (k:Int)) (hrow:rows[k]? = some (aJ.enc x))
  (hQ:∀ v20 v21 v5 w' ρ,Inv (cxF w) ρ (σB x) 2 w'->Good Tryz.prog w'->Rd w' (Own (cxF w) ρ (σB x)) ρ (.ptr 0 0 0) v5->Q .normal (((a.put (some 20) v20).put (some 21) v21).put (some 5) v5) w') :
  (Code.region id ops false).wp Tryz.prog Q a w:=by
 subst hops;refine wp_region ?_;show wpOps _ _ _ [0,1,2,3] _ _;have hI:Inv (cxF w) (λ_=>none) (λ_=>none) 0 w:=BH2 Tryz.prog (λ_=>False) w hG (λb h=>h.elim);have own0:∀ b,Own (cxF w) (λ_=>none) (λ_=>none) b->False:=λb hb=>by
  rcases hb with hb|⟨k,l,x,hk,_,_⟩
  ·exact hb
  ·cases hk
 refine mC (o:=o0) rfl g0 ?_;have hs0:∀ y,Rd w (Own (cxF w) (λ_=>none) (λ_=>none)) (λ_=>none) (ev (J6 rows k) y) (a.eval y):=λy=>by
  cases y with
  | tmp i =>
   show Rd _ _ _ (if i=16 then .p (.sl false rows) else if i=18 then .p (.v (.int .i64 (k:Int))) else .any) (a.tmps.getD i undef);by_cases e:i=16
   ·subst e;rw[if_pos rfl];exact .p _ _ (h16.less own0)
   ·rw[if_neg e];by_cases e2:i=18
    ·subst e2;rw[if_pos rfl,h18];exact .p _ _ (.v _)
    ·rw[if_neg e2];exact .any _
  | const v=>exact .p _ _ (.v v)
  | global g=>exact .p _ _ (.v _)
  | func f=>exact .p _ _ (.fn f [] [] #[] #[] rfl rfl (λi hi=>by simp at hi) (λi hi=>by simp at hi))
 refine ADP (cx:=cxF w) (E:=Env.of []) (aR.nil _) hI hG hs0 hs0 (d:=.p (.ref (aJ.enc x))) (by rw[p0];exact BBC hrow) λv20 w1 b1 hv20=>?_;rw[d0];have hI1:=hI.grow b1 (al _);have hG1:=hG.below b1;refine mC (o:=o1) rfl g1 ?_;have hs1:=A5X (t:=20) (a:=a.put (some 20) v20) (by rw[HX (by omega)];exact hv20);refine ADP (cx:=cxF w) (E:=Env.of []) (aR.nil _) hI1 hG1 hs1 hs1 (d:=.p (.agg (aJ.enc x))) (by rw[p1];exact BIA x) λv21 w2 b2 hv21=>?_;rw[d1];have hI2:=hI1.grow b2 (al _);have hG2:=hG1.below b2;refine mC (o:=o2) rfl g2 ?_;have hs2:=A5X (t:=21) (a:=(a.put (some 20) v20).put (some 21) v21) (by rw[HX (by rw[yF];omega)];exact hv21);refine ADD (cx:=cxF w) (E:=Env.of []) (aR.nil _) hI2 hG2 hs2 (d:=.ptr 0 0 0) (σ':=σA) (n':=1) (by
  rw[p2];show one 0 ((tz? Tryz.prog 68).bind λz=>(pD (z.cells.toList.map λv=>.p (.v v))).map λb=>((.ptr 0 0 0:D),cC (λ_=>none) 0 (some b)))=_;rw[BKO];rfl) λv5 w3 ρ3 hI3 hk3 hv5=>?_
 rw[d2];have hG3:=hI2.oO hI3 hk3 hG2;refine mC (o:=o3) rfl g3 ?_;have hv21':=hk3.rd hv21;have hs3:∀ y,Rd w3 (Own (cxF w) ρ3 σA) ρ3 (ev (λi=>if i=5 then .ptr 0 0 0 else if i=21 then .p (.agg (aJ.enc x)) else .any) y) ((((a.put (some 20) v20).put (some 21) v21).put (some 5) v5).eval y):=λy=>by
  cases y with
  | tmp i =>
   show Rd _ _ _ (if i=5 then .ptr 0 0 0 else if i=21 then .p (.agg (aJ.enc x)) else .any) ((((a.put (some 20) v20).put (some 21) v21).put (some 5) v5).tmps.getD i undef);by_cases e:i=5
   ·subst e;rw[if_pos rfl,HX (by rw[yF,yF];omega)];exact hv5
   ·rw[if_neg e];by_cases e2:i=21
    ·subst e2;rw[if_pos rfl,AJJ (by decide),HX (by rw[yF];omega)];exact hv21'
    ·rw[if_neg e2];exact .any _
  | const v=>exact .p _ _ (.v v)
  | global g=>exact .p _ _ (.v _)
  | func f=>exact .p _ _ (.fn f [] [] #[] #[] rfl rfl (λi hi=>by simp at hi) (λi hi=>by simp at hi))
 refine ADD (cx:=cxF w) (E:=Env.of []) (aR.nil _) hI3 hG3 hs3 (d:=.p (.v undef)) (σ':=σB x) (n':=2) (by
  rw[p3];show one 1 ((j4 Tryz.prog σA 68 (.ptr 0 0 0) (.p (.agg (aJ.enc x)))).map λσ'=>((.p (.v undef):D),σ'))=_;rw[BC2];rfl) λv' w4 ρ4 hI4 hk4 _=>?_
 rw[d3];exact hQ v20 v21 v5 w4 ρ4 hI4 (hI3.oO hI4 hk4 hG3) (hk4.rd hv5)
variable {ge:List T->Option T}
def BCX {id:Nat} {c1 c2:Call} (hops:ops = #[o0,o1,o2]) (g0:o0.guard=none) (g1:o1.guard=none) (g2:o2.guard=none)
  (p0:o0.op = .load 68 (.tmp 5)) (d0:o0.dst=some 22) (p1:o1.op = .call c1) (q1:c1.callee=Callee.value (Operand.func 38)) (r1:c1.args = #[.tmp 22]) (d1:o1.dst=some 23)
  (p2:o2.op = .call c2) (q2:c2.callee=Callee.value (Operand.func 35)) (r2:c2.args = #[.tmp 3,.tmp 23]) (d2:o2.dst=some 24) {a:Act} {w w0:World} {x:aQ} (hI:Inv (cxF w0) ρ (σB x) 2 w) (hG:Good Tryz.prog w) (hsz:a.tmps.size=27) (hv5:Rd w (Own (cxF w0) ρ (σB x)) ρ (.ptr 0 0 0) (a.tmps.getD 5 undef)) {eB:iII} (fe:aO Tryz.prog 38 ge) (hge:ge [aF true aJ x]=some (.v (.string eB)))
  {ptr:Value} (h3:a.tmps.getD 3 undef=ptr)
  (hW:∀ v22 v23 w',Below w.heap.size w w'->Calls Tryz.prog 35 #[ptr,.string eB] w' λe w''=>∃ v,e = .returned v/\Q .normal (((a.put (some 22) v22).put (some 23) v23).put (some 24) v) w'') :
  (Code.region id ops false).wp Tryz.prog Q a w:=by
 subst hops;refine wp_region ?_;show wpOps _ _ _ [0,1,2] _ _;refine mC (o:=o0) rfl g0 ?_;have hs0:=A5X (t:=5) (a:=a) hv5;refine ADP (cx:=cxF w0) (E:=Env.of []) (aR.nil _) hI hG hs0 hs0 (d:=.p (.agg (aJ.enc x))) (by rw[p0];exact BH9 x) λv22 w1 b1 hv22=>?_;rw[d0];have hI1:=hI.grow b1 (al _);have hG1:=hG.below b1;have hr:cS w1 (Own (cxF w0) ρ (σB x)) (T.agg (aJ.enc x)) v22:=by
  cases hv22 with
  | p _ _ h=>exact h
 refine mC (o:=o1) rfl g1 ?_;refine AMT (vs:=#[v22]) p1 q1 (by rw[r1];simp only[List.map_toArray,List.map_cons,List.map_nil];exact congrArg (λv=>#[v]) (HX (by omega))) fe.entry ?_;refine (fe.calls w1 _ [aF true aJ x] #[v22] (.v (.string eB)) hG1 (λb hb=>Own.lt hI1 hb) (dJ.one hr) hge).mono ?_;rintro e w2 ⟨v23,rfl,hv23,b2⟩;cases hv23;refine ⟨_,rfl,?_⟩;rw[d1];refine mC (o:=o2) rfl g2 ?_;refine AMT (vs:=#[ptr,.string eB]) p2 q2 ?_ ⟨_,Tryz.func35,rfl,rfl⟩ ?_
 ·rw[r2];simp only[List.map_toArray,List.map_cons,List.map_nil];show #[((a.put (some 22) v22).put (some 23) (.string eB)).tmps.getD 3 undef,((a.put (some 22) v22).put (some 23) (.string eB)).tmps.getD 23 undef]=_;rw[AJJ (by decide),AJJ (by decide),h3,HX (by rw[yF];omega)]
 ·rw[d2];exact hW v22 _ w2 (b1.trans (b2.mono b1.size))
end Go.Pv
namespace Go.Pv
open Go Go.Proofs Go.RowKit IntKind
variable {ge:List T->Option T}
set_option maxHeartbeats 4000000 in
def AQE (id:iII) (ad:Addr)(n cap:Nat) (w:World) (tx ls:iII) (M:Nat) (L:List aQ) (hn:L.length=n) (hn9:n<=1000000000) (St:List UInt8->World->Prop) (P:Nat->List UInt8) (hz:tx.size+ls.size<=M) (hM:M<=1000000000)
  (hP0:P 0=(tx++ls).data.toList) (fe:aO Tryz.prog 38 ge) (eB:aQ->iII) (hPs:∀ k (h:k<L.length),P (k+1)=P k++(eB L[k]).data.toList) (hPM:∀ k (h:k<L.length),(P k).length+(eB L[k]).size<=M) (hok:∀ k (h:k<L.length),ge [aF true aJ L[k]]=some (.v (.string (eB L[k]))))
  (W2:World) (hW2:(w.alloc (.cells #[.string id,.slice (some ad) n cap] 25)).alloc (.cells #[.pointer none,.slice none 0 0] 94)=W2) (h2:St [] W2)
  (hd:∀ l W,St l W->St l W.drew) (hb:∀ l W W',St l W->Below W.heap.size W W'->St l W') (hG:∀ l W,St l W->Good Tryz.prog W)
  (hc0:∀ l W,St l W->W.cell? ⟨w.heap.size,0,none⟩=some (.string id))
  (hc:∀ l W,St l W->W.cell? ⟨w.heap.size,1,none⟩=some (.slice (some ad) n cap))
  (hR:∀ l W,St l W->cS W (λ_=>False) (.sl false (List.map aJ.enc L)) (.slice (some ad) n cap))
  (hT:∀ W,St [] W->Calls Tryz.prog 36 #[.string id] W λe W'=>e = .returned (.string tx)/\St [] W')
  (hL:∀ W,St [] W->Calls Tryz.prog 37 #[.int .i64 (n:Int)] W λe W'=>e = .returned (.string ls)/\St [] W')
  (hW:∀ l s W,St l W->l.length+s.size<=M->Calls Tryz.prog 35 #[.pointer (some ⟨w.heap.size+1,0,none⟩),.string s] W λe W'=>e = .returned (.tuple #[.int .i64 s.size,.nilIface])/\St (l++s.data.toList) W')
  (hS:∀ l W,St l W->Calls Tryz.prog 39 #[.pointer (some ⟨w.heap.size+1,0,none⟩)] W λe W'=>e = .returned (.string ⟨l.toArray⟩)/\Below w.heap.size w W') :
  Calls Tryz.prog 12 #[.agg #[.string id,.slice (some ad) n cap]] w λe w'=>e = .returned (.string ⟨(P n).toArray⟩)/\Below w.heap.size w w':=by
 go_enter Tryz.func12,Tryz.ntmps12
 go_wp2_with fail
 go_cut [] from 6 to 14 (λwx=>St (tx++ls).data.toList wx)
 case first =>
  have k2:=hc _ _ h2;have k3:=hc0 _ _ h2
  go_region_with (first
   | (go_at_call 36;refine (hT _ ?_).mono ?_;(first|assumption|(apply hd;assumption)|(apply hd;apply hd;assumption));rintro e W3 ⟨rfl,h3⟩;have k4:=hc _ _ h3;have k5:=hc0 _ _ h3)
   | (go_at_call 37;refine (hL _ ?_).mono ?_;(first|assumption|(apply hd;assumption)|(apply hd;apply hd;assumption));rintro e W4 ⟨rfl,h4⟩;have k6:=hc _ _ h4;have k7:=hc0 _ _ h4)
   | (go_at_call 35;refine (hW [] _ _ ?_ ?_).mono ?_;(first|assumption|(apply hd;assumption)|(apply hd;apply hd;assumption));(rw[ByteArray.size_append];simpa using hz);rintro e W5 ⟨rfl,h5⟩))
  all_goals (go_wp2_with fail;go_meet;rw[List.nil_append] at h5;exact h5)
 case rest =>
  have k2:=hc _ _ hcut
  go_wp2_with fail
  go_loopg [18] n (λg s18 wx=>∃ k:Nat,s18 = .int .i64 (k:Int)/\k+g=n/\St (P k) wx)
  case atStart=>exact ⟨0,rfl,by omega,by rw[hP0];exact hcut⟩
  case round =>
   obtain ⟨k,rfl,hk,hs⟩:=hrel;cases gk with
   | zero =>
    obtain rfl:k=n:=by omega
    go_wp2_with (go_at_call 39;refine (hS _ _ hs).mono ?_;rintro e W6 ⟨rfl,h6⟩)
    go_ret
    exact ⟨rfl,h6⟩
   | succ g =>
    have hlt:k<n:=by omega
    have hlt':(k:Int)<(n:Int):=by omega
    have hkl:k<L.length:=by omega
    go_upto_region 5 with fail
    rename_i K7 hK7 K5 hK5;refine BCW rfl rfl rfl rfl rfl rfl rfl rfl rfl rfl rfl rfl rfl (x:=L[k]) (k:=k) (hG _ _ hs) rfl (hR _ _ hs) rfl (by rw[List.getElem?_map,List.getElem?_eq_getElem hkl];rfl) ?_;intro v20 v21 v5 w' ρ hI hG5 hv5;have hs5:=hb _ _ _ hs hI.below.toB;refine hK5 _ _ ?_;refine BCX rfl rfl rfl rfl rfl rfl rfl rfl rfl rfl rfl rfl rfl rfl (w0:=wr) (x:=L[k]) hI hG5 rfl hv5 fe (hok k hkl) rfl ?_;intro v22 v23 w'' hb6;refine (hW _ _ _ (hb _ _ _ hs5 hb6) (hPM k hkl)).mono ?_;rintro e w8 ⟨rfl,h8⟩;rw[<-hPs k hkl] at h8;refine ⟨_,rfl,?_⟩;refine hK7 _ _ ?_;simp only[Act.put]
    go_wp2_with fail
    go_roundg g
    case measure=>omega
    case rel=>exact ⟨k+1,rfl,by omega,h8⟩
end Go.Pv
namespace Go.Pv
open Go Go.Proofs IntKind
section
variable {V c d : Int} {k v : Nat}
end
end Go.Pv
namespace Go.Pv
open Go Go.Proofs IntKind
end Go.Pv
namespace Go.Pv
open Go Go.Proofs IntKind
end Go.Pv
namespace Go.Pv
open Go Go.Proofs IntKind
def tN {α:Type} (f:α->iII):List α->iII
 | []=>⟨#[]⟩
 | a::l=>f a++tN f l
def zb (b:iII):(⟨#[]⟩:iII)++b=b:=by
 apply ByteArray.ext;simp[ByteArray.data_append]
def wY {α:Type} (f:α->iII):∀ (a b:List α),tN f (a++b)=tN f a++tN f b
 | [],b=>(zb _).symm
 | x::a,b=>by
  show f x++tN f (a++b)=f x++tN f a++tN f b;rw[wY f a b,ByteArray.append_assoc]
end Go.Pv
namespace Go.Pv
open Go Go.Proofs Go.RowKit IntKind
def J5 (hd:iII) (eB:aQ->iII) (l:List aQ) (k:Nat):List UInt8:=(hd++tN eB (l.take k)).data.toList
variable {hd:iII}{eB:aQ->iII}
def TI {l:List aQ} {k:Nat} (h:k<l.length):J5 hd eB l (k+1)=J5 hd eB l k++(eB l[k]).data.toList:=by
 unfold J5;rw[List.take_succ_eq_append_getElem h,wY,<-ByteArray.append_assoc];show (_++(eB l[k]++tN eB [])).data.toList=_;rw[show eB l[k]++tN eB []=eB l[k] from ByteArray.append_empty];simp[ByteArray.data_append]
def A9Z:∀ (l m:List aQ),l <+: m->(tN eB l).size<=(tN eB m).size
 | l,_,⟨r,rfl⟩=>by rw[wY,ByteArray.size_append];omega
def BCR {l:List aQ} (k:Nat):(J5 hd eB l k).length<=(hd++tN eB l).size:=by
 have h:=A9Z (eB:=eB) (l.take k) l (List.take_prefix ..);have e:(J5 hd eB l k).length=(hd++tN eB (l.take k)).size:=rfl;rw[e,ByteArray.size_append,ByteArray.size_append];omega
variable {ge gt gl:List T->Option T}
set_option maxHeartbeats 400000 in
def AQD (fe:aO Tryz.prog 38 ge) (ft:aO Tryz.prog 36 gt) (fl:aO Tryz.prog 37 gl) (eB:aQ->iII) (tx ls:iII) (o:dG)
  (gT:gt [.v (.string o.1)]=some (.v (.string tx))) (gL':gl [.v (.int .i64 (o.2.length:Int))]=some (.v (.string ls))) (hE:∀ x∈o.2,ge [aF true aJ x]=some (.v (.string (eB x)))) (k4:((tx++ls)++tN eB o.2).size<=1000000000) (k2:o.2.length<=1000000000) (hpos:0<o.2.length)
  (ad:Option Addr) (n cap:Nat) (hn:o.2.length=n) (w:World) (hG:Good Tryz.prog w) (hr:cS w (λ_=>False) (.sl false (List.map aJ.enc o.2)) (.slice ad n cap)) :
  Calls Tryz.prog 12 #[.agg #[.string o.1,.slice ad n cap]] w λe w'=>e = .returned (.string ((tx++ls)++tN eB o.2))/\Below w.heap.size w w':=by
 have gL:gl [.v (.int .i64 (n:Int))]=some (.v (.string ls)):=by rw[<-hn];exact gL'
 have hn9:n<=1000000000:=by omega
 obtain ⟨M,hM⟩:∃ M:Nat,M=1000000000:=⟨_,rfl⟩
 have hM9:M<=1000000000:=Nat.le_of_eq hM;have s1:(w.alloc (.cells #[.string o.1,.slice ad n cap] 25)).heap.size=w.heap.size+1:=Array.size_push ..;have b1:Below w.heap.size w (w.alloc (.cells #[.string o.1,.slice ad n cap] 25)):=(Below.refl _ w).alloc (al _) _;obtain ⟨W2,hW2⟩:∃ W2,(w.alloc (.cells #[.string o.1,.slice ad n cap] 25)).alloc (.cells #[.pointer none,.slice none 0 0] 94)=W2:=⟨_,rfl⟩
 have s2:W2.heap.size=w.heap.size+2:=by rw[<-hW2];show (Array.push _ _).size=_;rw[Array.size_push,s1]
 have b2:Below w.heap.size w W2:=by rw[<-hW2];exact b1.alloc (by rw[s1];omega) _
 have c2:W2.heap[w.heap.size]? = some (.cells #[.string o.1,.slice ad n cap] 25):=by
  rw[<-hW2,Below.heap_alloc _ _ _ (by rw[s1];omega)];exact heap_alloc_new w _
 have h0:Lib.IsBuilderF 94 5 (w.heap.size+1) (w.heap.size+1) [] W2:=by
  have:=Lib.IsBuilderF.of (Lib.fresh_isBuilder 94 5 (w.alloc (.cells #[.string o.1,.slice ad n cap] 25)));rw[s1] at this;rw[<-hW2];exact this
 obtain ⟨St,hSt⟩:∃ St:List UInt8->World->Prop,St=λl W=>Below w.heap.size w W/\W.heap[w.heap.size]? = some (.cells #[.string o.1,.slice ad n cap] 25)/\Lib.IsBuilderF 94 5 (w.heap.size+1) (w.heap.size+1) (Lib.byteCells l) W/\w.heap.size+2<=W.heap.size:=⟨_,rfl⟩
 have hSt':∀ l W,St l W↔Below w.heap.size w W/\W.heap[w.heap.size]? = some (.cells #[.string o.1,.slice ad n cap] 25)/\Lib.IsBuilderF 94 5 (w.heap.size+1) (w.heap.size+1) (Lib.byteCells l) W/\w.heap.size+2<=W.heap.size:=λl W=>by rw[hSt]
 clear hSt;have hb:∀ l W W',St l W->Below W.heap.size W W'->St l W':=λl W W' h hb=>by
  obtain ⟨g1,g2,g3,g4⟩:=(hSt' l W).1 h;refine (hSt' l W').2 ⟨g1.trans (hb.mono (by omega)),?_,g3.below hb,Nat.le_trans g4 hb.size⟩;rw[hb.block _ (by omega)];exact g2
 have hGS:∀ l W,St l W->Good Tryz.prog W:=λl W h=>hG.below ((hSt' l W).1 h).1;have hcell:∀ l W,St l W->W.heap[w.heap.size]? = some (.cells #[.string o.1,.slice ad n cap] 25):=λl W h=>((hSt' l W).1 h).2.1;have hz:tx.size+ls.size<=M:=by
  rw[ByteArray.size_append,ByteArray.size_append] at k4;omega
 have fin:(⟨(J5 (tx++ls) eB o.2 n).toArray⟩:iII)=(tx++ls)++tN eB o.2:=by
  unfold J5;rw[<-hn,List.take_length]
 rw[<-fin];have go:(∀ W,St [] W->Calls Tryz.prog 36 #[.string o.1] W λe W'=>e = .returned (.string tx)/\St [] W') ->
   (∀ W,St [] W->Calls Tryz.prog 37 #[.int .i64 (n:Int)] W λe W'=>e = .returned (.string ls)/\St [] W') ->
   (∀ l s W,St l W->l.length+s.size<=M->Calls Tryz.prog 35 #[.pointer (some ⟨w.heap.size+1,0,none⟩),.string s] W λe W'=>e = .returned (.tuple #[.int .i64 s.size,.nilIface])/\St (l++s.data.toList) W') ->
   (∀ l W,St l W->Calls Tryz.prog 39 #[.pointer (some ⟨w.heap.size+1,0,none⟩)] W λe W'=>e = .returned (.string ⟨l.toArray⟩)/\Below w.heap.size w W') ->
   Calls Tryz.prog 12 #[.agg #[.string o.1,.slice ad n cap]] w λe w'=>e = .returned (.string ⟨(J5 (tx++ls) eB o.2 n).toArray⟩)/\Below w.heap.size w w':=λaT aL aW aS=>by
  have hP0:J5 (tx++ls) eB o.2 0=(tx++ls).data.toList:=by
   unfold J5;rw[List.take_zero];exact congrArg (λb:iII=>b.data.toList) ByteArray.append_empty
  have hPM:∀ k (h:k<o.2.length),(J5 (tx++ls) eB o.2 k).length+(eB o.2[k]).size<=M:=λk h=>by
   have h1:=BCR (hd:=tx++ls) (eB:=eB) (l:=o.2) (k+1);rw[TI h,List.length_append] at h1;have:(eB o.2[k]).data.toList.length=(eB o.2[k]).size:=rfl;omega
  have hd:∀ l W,St l W->St l W.drew:=λl W h=>hb l W _ h ((Below.refl _ W).drew);have c0:∀ l W,St l W->W.cell? ⟨w.heap.size,0,none⟩=some (.string o.1):=λl W h=>by simp[World.cell?,hcell l W h]
  have c1:∀ l W,St l W->W.cell? ⟨w.heap.size,1,none⟩=some (.slice ad n cap):=λl W h=>by simp[World.cell?,hcell l W h]
  have hR:∀ l W,St l W->cS W (λ_=>False) (.sl false (List.map aJ.enc o.2)) (.slice ad n cap):=λl W h=>hr.grow ((hSt' l W).1 h).1;have h20:St [] W2:=(hSt' _ _).2 ⟨b2,c2,h0,by omega⟩;cases ad with
  | none =>
   exfalso;generalize hrows:List.map aJ.enc o.2=rows at hr;have hl:0<rows.length:=by rw[<-hrows,ae];exact hpos
   obtain ⟨v,hv⟩:∃ v,Value.slice none n cap=v:=⟨_,rfl⟩
   rw[hv] at hr;cases hr with
   | cX=>cases hl
   | sl=>cases hv
  | some ad=>exact AQE o.1 ad n cap w tx ls M o.2 hn hn9 St (J5 (tx++ls) eB o.2) hz hM9 hP0 fe eB (λk h=>TI h) hPM (λk h=>hE _ (ak h)) W2 hW2 h20 hd hb hGS c0 c1 hR aT aL aW aS
 refine go (λW h=>?_) (λW h=>?_) (λl s W h hs=>?_) λl W h=>?_
 ·refine (ft.calls W (λ_=>False) _ _ _ (hGS _ _ h) (λ_ h=>h.elim) (dJ.one (.v _)) gT).mono ?_;rintro e W' ⟨v,rfl,h1,h2⟩;cases h1;exact ⟨rfl,hb _ _ _ h h2⟩
 ·refine (fl.calls W (λ_=>False) _ _ _ (hGS _ _ h) (λ_ h=>h.elim) (dJ.one (.v _)) gL).mono ?_;rintro e W' ⟨v,rfl,h1,h2⟩;cases h1;exact ⟨rfl,hb _ _ _ h h2⟩
 ·obtain ⟨g1,g2,g3,g4⟩:=(hSt' l W).1 h;refine (AP0 (w.heap.size+1) (w.heap.size+1) _ s W g3 (by rw[Lib.byteCells_length];omega) (by omega)).mono ?_;rintro e W' ⟨rfl,h1,h2⟩;refine ⟨rfl,(hSt' _ _).2 ⟨g1.trans (h2.mono (by omega)),by rw[h2.block _ (by omega)];exact g2,?_,Nat.le_trans g4 h2.size⟩⟩;rw[Lib.strCells_eq,<-Lib.byteCells_append] at h1;exact Or.inr h1
 ·obtain ⟨g1,g2,g3,g4⟩:=(hSt' l W).1 h;refine (AGY (w.heap.size+1) (w.heap.size+1) l W g3 (by omega)).mono ?_;rintro e W' ⟨rfl,_,h2⟩;exact ⟨rfl,g1.trans (h2.mono (by omega))⟩
variable {g:List T->Option T}
def BAO (fe:aO Tryz.prog 38 ge) (ft:aO Tryz.prog 36 gt) (fl:aO Tryz.prog 37 gl) (eB:aQ->iII) (tx ls:iII) (o:dG)
  (gT:gt [.v (.string o.1)]=some (.v (.string tx))) (gL:gl [.v (.int .i64 (o.2.length:Int))]=some (.v (.string ls))) (hE:∀ x∈o.2,ge [aF true aJ x]=some (.v (.string (eB x)))) (k4:((tx++ls)++tN eB o.2).size<=1000000000) (k2:o.2.length<=1000000000) (hpos:0<o.2.length) (hg:∀ args r,g args=some r->args=[aF true dN o]/\r = .v (.string ((tx++ls)++tN eB o.2))):aO Tryz.prog 12 g where
 entry:=⟨_,Tryz.func12,rfl,rfl⟩
 calls:=λw own args vs r hG ho ha hgr=>by
  obtain ⟨rfl,rfl⟩:=hg _ _ hgr;obtain ⟨hz,hv⟩:=ha;rcases vs with ⟨l⟩
  match l,hz,hv with
  | [v0],_,hv =>
   have h0:cS w own (T.agg [pPQ o.1,T.sl false (List.map aJ.enc o.2)]) v0:=hv 0 Nat.zero_lt_one;cases h0 with
   | agg _ vc g1 g2 =>
    rcases vc with ⟨m⟩
    match m,g1,g2 with
    | [x0,x1],_,g2 =>
     have q0:cS w own (pPQ o.1) x0:=g2 0 (show 0<2 by decide);have q1:cS w own (T.sl false (List.map aJ.enc o.2)) x1:=g2 1 (show 1<2 by decide);obtain ⟨ad,cap,rfl,_⟩:=q1.isSlice;cases q0;refine (AQD fe ft fl eB tx ls o gT gL hE k4 k2 hpos ad _ cap (by rw[ae]) w hG (q1.less λ_ h=>h.elim)).mono ?_;rintro e w' ⟨rfl,h2⟩;exact ⟨_,rfl,.v _,h2⟩
end Go.Pv
namespace Go.Pv
open Go Go.RowKit IntKind
section
variable {ag : Bool} {r : Sy}
def BF0 {es:List (iII×r.den)} {seen:List Nat} {i:Nat} (hi:i<es.length) (K:iII->r.den->Prop) (hk:K es[i].1 es[i].2):B7 .str ag r (List.map (cG .str ag r) es) (seen++[i]) K :=
 ⟨i,es[i].1,es[i].2,by simp,by simp[hi],hk⟩
abbrev AY7:=List iII×(Nat×List Nat×Nat)×PUnit
end
end Go.Pv
namespace Go.Pv
open Go Go.Proofs IntKind
def BCT {ag:Bool} {r:Sy} {es:List (iII×r.den)} {E:List (Value×D)} (hE:E=List.map (cG .str ag r) es) {o:List iII} (P:iII×r.den->Bool)
  {EXIT:AY7->Prop} {BODY:(AY7->Prop)->AY7->Nat->iII->r.den->Prop}
  (hbody:∀ (X:AY7->Prop) (out:List iII) (seen:List Nat) (i:Nat) (hi:i<es.length),out.length<=o.length+seen.length->seen.length<es.length ->
   (P es[i]=true->X (out++[es[i].1],(E.length,seen++[i],E.length),()))->(P es[i]=false->X (out,(E.length,seen++[i],E.length),()))->BODY X (out,(E.length,seen,E.length),()) i es[i].1 es[i].2)
  (hexit:∀ (o2:List iII) (seen:List Nat),(∀ s,s∈o2↔∃ e∈es,e.1=s/\P e=true)->o2.length<=es.length->((es.map λe=>e.1).Nodup->o2.Nodup)->EXIT (o++o2,(E.length,seen,E.length),())) :
  a8 AY7 (λX s=>b7 (decide (E.length<=s.2.1.1)&&decide (s.2.1.1<=s.2.1.2.2)) (tT E.length s.2.1.2.1 (EXIT s) λi=>b7 (decide (E.length=E.length)) (B7 .str ag r E (s.2.1.2.1++[i]) λk v=>BODY X s i k v))) (o,(E.length,[],E.length),()):=by
 have hn:E.length=es.length:=by rw[hE,ae]
 refine ASC (λs=>∃ (seen:List Nat) (o2:List iII),s=(o++o2,(E.length,seen,E.length),())/\seen.Nodup/\(∀ i∈seen,i<es.length)/\(∀ s,s∈o2↔∃ i∈seen,∃ e,es[i]? = some e/\e.1=s/\P e=true)/\o2.length<=seen.length/\((es.map λe=>e.1).Nodup->o2.Nodup)/\seen.length+(cU E.length seen).length<=E.length) (λs=>(cU E.length s.2.1.2.1).length) ⟨[],[],by rw[List.append_nil],by simp,by simp,by simp,by simp,by simp,by rw[yC];simp⟩ ?_;rintro X s ⟨seen,o2,rfl,hnd,hlt,hm,hl,hon,hq⟩ hX;dsimp only;refine ⟨by simp,λhnil=>?_,λi hi=>⟨by simp,?_⟩⟩
 ·refine hexit o2 seen (λs=>?_) (by omega) hon;rw[hm];constructor
  ·rintro ⟨i,_,e,he,h1,h2⟩;exact ⟨e,List.mem_of_getElem? he,h1,h2⟩
  ·rintro ⟨e,he,h1,h2⟩;obtain ⟨i,hi,rfl⟩:=List.mem_iff_getElem.1 he;refine ⟨i,?_,_,List.getElem?_eq_getElem hi,h1,h2⟩;refine Classical.byContradiction λhc=>?_;have:i∈cU E.length seen:=mL.2 ⟨by omega,hc⟩;rw[hnil] at this;cases this
 ·have hi':=mL.1 hi;have hie:i<es.length:=by omega
  have hst:=vO hi;subst hE;have hnd2:(seen++[i]).Nodup:=by
   rw[List.nodup_append];exact ⟨hnd,by simp,λa ha b hb=>by simp at hb;subst hb;exact λe=>hi'.2 (e ▸ ha)⟩
  have hlt2:∀ j∈seen++[i],j<es.length:=λj hj=>by
   rcases List.mem_append.1 hj with h|h
   ·exact hlt j h
   ·simp at h;omega
  have hpos:=List.length_pos_of_mem hi;have hq2:(seen++[i]).length+(cU (List.map (cG .str ag r) es).length (seen++[i])).length<=(List.map (cG .str ag r) es).length:=by simp only[List.length_append,List.length_singleton];omega
  refine BF0 hie _ (hbody X _ seen i hie (by rw[List.length_append];omega) (by omega) (λhP=>?_) λhP=>?_)
  ·refine hX _ ⟨seen++[i],o2++[es[i].1],by rw[List.append_assoc],hnd2,hlt2,λs=>?_,by simp;omega,?_,hq2⟩ hst
   case refine_2 =>
    intro hk;rw[List.nodup_append];refine ⟨hon hk,by simp,λx hx y hy e=>?_⟩;rw[List.mem_singleton.1 hy] at e;obtain ⟨j,hj,e',he',h1,_⟩:=(hm x).1 hx;obtain ⟨hjl,rfl⟩:=List.getElem?_eq_some_iff.1 he';have hne:j≠i:=λh=>hi'.2 (h ▸ hj);have h2:(es.map λe=>e.1)[j]'(by simpa using hjl)=(es.map λe=>e.1)[i]'(by simpa using hie):=by simp[h1,e]
    rcases Nat.lt_or_gt_of_ne hne with h|h
    ·exact List.pairwise_iff_getElem.1 hk _ _ _ _ h h2
    ·exact List.pairwise_iff_getElem.1 hk _ _ _ _ h h2.symm
   rw[List.mem_append,hm,List.mem_singleton];constructor
   ·rintro (⟨j,hj,h⟩|rfl)
    ·exact ⟨j,List.mem_append_left _ hj,h⟩
    ·exact ⟨i,by simp,_,List.getElem?_eq_getElem hie,rfl,hP⟩
   ·rintro ⟨j,hj,e,he,h1,h2⟩;rcases List.mem_append.1 hj with h|h
    ·exact .inl ⟨j,h,e,he,h1,h2⟩
    ·rw[List.mem_singleton.1 h,List.getElem?_eq_getElem hie] at he;cases he;exact .inr h1.symm
  ·refine hX _ ⟨seen++[i],o2,rfl,hnd2,hlt2,λs=>?_,by simp;omega,hon,hq2⟩ hst;rw[hm];constructor
   ·rintro ⟨j,hj,h⟩;exact ⟨j,List.mem_append_left _ hj,h⟩
   ·rintro ⟨j,hj,e,he,h1,h2⟩;rcases List.mem_append.1 hj with h|h
    ·exact ⟨j,h,e,he,h1,h2⟩
    ·rw[List.mem_singleton.1 h,List.getElem?_eq_getElem hie] at he;cases he;rw[hP] at h2;cases h2
def V0 {α:Type} {k:iII} {v:α}:∀ {es:List (iII×α)},k∈es.map (λe=>e.1)->(nM es k v).map (λe=>e.1)=es.map (λe=>e.1)
 | [],h=>by cases h
 | e::es,h=>by
  unfold nM;by_cases h1:e.1=k
  ·simp[h1]
  ·rw[if_neg h1,List.map_cons,V0 ((List.mem_cons.1 h).resolve_left λe'=>h1 e'.symm)];rfl
variable {α:Type}
def ACP {k:iII} {v:α} {es:List (iII×α)} (h:k∉es.map (λe=>e.1)):(nM es k v).map (λe=>e.1)=es.map (λe=>e.1)++[k]:=by
 rw[HK λe he h'=>h (List.mem_map.2 ⟨e,he,h'⟩),List.map_append];rfl
def ACN {k:iII}:∀ {es:List (iII×Bool)},(∀ e∈es,e.2=true)->∀ e∈nM es k true,e.2=true
 | [],_,e,h=>by rw[nM,List.mem_singleton] at h;rw[h]
 | a::es,hp,e,h=>by
  unfold nM at h;split at h
  ·rcases List.mem_cons.1 h with h|h
   ·rw[h]
   ·exact hp e (List.mem_cons_of_mem _ h)
  ·rcases List.mem_cons.1 h with h|h
   ·rw[h];exact hp a am
   ·exact ACN (λe he=>hp e (List.mem_cons_of_mem _ he)) e h
def wU (p:iII->Prop) (n:Nat) (es:List (iII×Bool)):Prop:=(es.map λe=>e.1).Nodup/\(∀ s,s∈es.map (λe=>e.1)↔p s)/\es.length<=n/\∀ e∈es,e.2=true
variable {es:List (iII×Bool)}
def wU.ins {p q:iII->Prop} {n:Nat} {k:iII} (h:wU p n es) (hq:∀ s,q s↔p s\/s=k):wU q (n+1) (nM es k true):=by
 refine ⟨?_,λs=>?_,?_,ACN h.2.2.2⟩
 ·by_cases hm:k∈es.map (λe=>e.1)
  ·rw[V0 hm];exact h.1
  ·rw[ACP hm,List.nodup_append];exact ⟨h.1,by simp,λa ha b hb e=>hm (by rw[List.mem_singleton.1 hb] at e;rw[<-e];exact ha)⟩
 ·rw[hq,<-h.2.1];by_cases hm:k∈es.map (λe=>e.1)
  ·rw[V0 hm];exact ⟨.inl,λh'=>h'.elim (λh=>h) λe=>by rw[e];exact hm⟩
  ·rw[ACP hm,List.mem_append,List.mem_singleton]
 ·have:=ACO (k:=k) (v:=true) (es:=es);have:=h.2.2.1;omega
def wU.mono {p q:iII->Prop} {n m:Nat} (h:wU p n es) (hq:∀ s,q s↔p s) (hm:n<=m):wU q m es:=⟨h.1,λs=>by rw[hq];exact h.2.1 s,Nat.le_trans h.2.2.1 hm,h.2.2.2⟩
def wU.get {p:iII->Prop} {n:Nat} (h:wU p n es) (s:iII):(fH es s=none/\¬ p s)\/(fH es s=some true/\p s):=by
 rcases q9 s es with ⟨h1,h2⟩|⟨j,hj,h1,_,h3⟩
 ·refine .inl ⟨h1,λhp=>?_⟩;obtain ⟨e,he,h⟩:=List.mem_map.1 ((h.2.1 s).2 hp);exact h2 e he h
 ·refine .inr ⟨by rw[h3,h.2.2.2 _ (ak hj)],(h.2.1 s).1 (List.mem_map.2 ⟨_,ak hj,h1⟩)⟩
abbrev A6U (gt:List T->Option T) (l:List aQ) (EXIT:Int×List (iII×Bool)×PUnit->Prop):Prop :=
 dK Sy.str false Sy.bool [] λy0=>a8 (Int×List (iII×Bool)×PUnit) (λX1 s2=>aD (decide (s2.1<(↑(List.map aJ.enc l).length:Int)))
  (aX aJ (List.map aJ.enc l) s2.1 λy3=>aM [(false,Sy.str.li)] (gt [aF true aJ y3]) λ(y4:List iII) =>
   dK Sy.str false Sy.bool (List.map (cG Sy.str false Sy.bool) s2.2.1) λy5 =>
    a8 (Int×List (iII×Bool)×PUnit) (λX6 s7=>aD (decide (s7.1<(↑(List.map Sy.str.enc y4).length:Int)))
     (aX Sy.str (List.map Sy.str.enc y4) s7.1 λy8=>lP (Option (Nat×D)) (findD TypeDesc.string (Value.string y8) (List.map (cG Sy.str false Sy.bool) s7.2.1) 0) λy9 =>
      dK Sy.str false Sy.bool (e7 (List.map (cG Sy.str false Sy.bool) s7.2.1) y9 (Value.string y8) (D.p (pPR true))) λy10=>X6 (i64.wrap (s7.1+1),y10,()))
     (dK Sy.str false Sy.bool (List.map (cG Sy.str false Sy.bool) s7.2.1) λy11=>X1 (i64.wrap (s2.1+1),y11,()))) (0,y5,()))
  (EXIT s2)) (0,y0,())
variable {gt:List T->Option T}
def A6M {tf:aQ->List iII} {M:Nat} {l:List aQ} (hM:M<=3000000) (hNm:∀ e∈l,(tf e).length<=M) (hok:∀ e∈l,gt [aF true aJ e]=some (Sh.enc [(false,Sy.str.li)] (tf e))) (hl:l.length<=100000) {EXIT:Int×List (iII×Bool)×PUnit->Prop}
  (hE:∀ i es,wU (λs=>∃ e∈l,s∈tf e) (l.length*M) es->EXIT (i,es,())):A6U gt l EXIT:=by
 refine kD (r:=.bool) rfl [] _ ?_;refine bN l.length (λk s=>s.1=(k:Int)/\wU (λs=>∃ e∈l.take k,s∈tf e) (k*M) s.2.1) ⟨rfl,List.Pairwise.nil,λs=>Iff.intro (λh=>by cases h) (λh=>by obtain ⟨e,he,_⟩:=h;rw[List.take_zero] at he;cases he),Nat.zero_le _,λe he=>by cases he⟩ ?_;rintro X k ⟨i,es,u⟩ hk ⟨rfl,hs⟩ hX;dsimp only at hs ⊢;rw[ae];refine cO (λhlt=>?_) λhge=>?_
 ·have hlt:k<l.length:=by omega
  rw[bG (r:=aJ) hlt];have hw:∀ {j:Nat},j<=3000000->i64.wrap ((j:Int)+1)=((j+1:Nat):Int):=λh=>bB _ (by omega) (by omega);refine aK (s:=[(false,Sy.str.li)]) (y:=tf l[k]) (hok _ (ak hlt)) ?_;refine kD (r:=.bool) rfl _ _ ?_;have hN:(tf l[k]).length<=M:=hNm _ (ak hlt);generalize hB:tf l[k]=B at hN ⊢;refine bN B.length (λj s=>s.1=(j:Int)/\wU (λs=>(∃ e∈l.take k,s∈tf e)\/s∈B.take j) (k*M+j) s.2.1) ⟨rfl,hs.mono (λs=>by simp) (by omega)⟩ ?_;rintro Y j ⟨i,es2,u⟩ hj ⟨rfl,hs2⟩ hY;dsimp only at hs2 ⊢;rw[ae];refine cO (λhlt2=>?_) λhge2=>?_
  ·have hlt2:j<B.length:=by omega
   rw[bG (r:=.str) hlt2];refine AL9 (r:=.bool) rfl ?_;refine hY _ hlt2 ⟨hw (by omega),hs2.ins λs=>?_⟩;rw[List.take_succ_eq_append_getElem hlt2,List.mem_append,List.mem_singleton,or_assoc]
  ·have:j=B.length:=by omega
   subst this;refine kD (r:=.bool) rfl _ _ ?_;refine hX _ hlt ⟨hw (by omega),hs2.mono (λs=>?_) (by rw[Nat.succ_mul];omega)⟩;show (∃ e,e∈l.take (k+1)/\s∈tf e)↔(∃ e,e∈l.take k/\s∈tf e)\/s∈B.take B.length;rw[List.take_length,List.take_succ_eq_append_getElem hlt];constructor
   ·rintro ⟨e,he,h⟩;rcases List.mem_append.1 he with he|he
    ·exact .inl ⟨e,he,h⟩
    ·rw[List.mem_singleton.1 he,hB] at h;exact .inr h
   ·rintro (⟨e,he,h⟩|h)
    ·exact ⟨e,List.mem_append_left _ he,h⟩
    ·exact ⟨l[k],List.mem_append_right _ (List.mem_singleton.2 rfl),by rw[hB];exact h⟩
 ·have:k=l.length:=by omega
  subst this;rw[List.take_length] at hs;exact hE _ _ hs
end Go.Pv
namespace Go.Pv
open Go Go.Proofs IntKind
def nK (l:List UInt8):iII:=⟨l.toArray⟩
def BOP:bD:=(nK [],0,0,nK [],nK [],0,([],[]),nK [],0,0,(0,0,0),(0,0,0),0)
def BFV (k:Int) (a b:iII):aQ:=(k,a,b,(nK [],0,nK []),BOP,(nK [],nK [],nK [],0,0,0),(nK [],nK [],[],0,[]),(0,nK [],nK []))
def RW (n:Nat):aQ:=match n with
 | 0=>BFV 6 (nK [80,49]) (nK [65,49])
 | 1=>BFV 2 (nK [65,50]) (nK [])
 | _=>BFV 4 (nK [80,49]) (nK [])
def o20:dG:=(nK [67,49],[RW 0,RW 1])
def c20:dG:=(nK [],[RW 2])
def t20:List UInt8:=[64,0,64,64,0,0,64,64,0,128,128,64,0,0,0,0,0,0,0,0,0,64,64,64,0,0,0,64,64,128,0,128,0,64,64]
def b20 (n:Nat):iII:=match n with
 | 0=>nK ([6,66,80,49,66,65,49]++t20)
 | _=>nK ([2,66,65,50,64]++t20)
def JI:FuncId->Bool:=λf=>[60,71,113,245,111,110].contains f
def HP:Env:=Env.of [(7000000000+92,.mark)]
def uL:aR Tryz.prog HP:=aR.cons (x:=.mark) trivial (aR.nil _)
noncomputable def BHL:List T->Option T:=PE Tryz.prog 400 JI HP 40 38
def BAV:aO Tryz.prog 38 BHL:=mA aV aY 400 JI uL 40 (oA (k:=39) (fn:=_) (c:=_) (by kernel_rfl) Tryz.func38 rfl (by kernel_rfl))
noncomputable def BM3:List T->Option T:=PE Tryz.prog 400 JI HP 40 36
def BAX:aO Tryz.prog 36 BM3:=mA aV aY 400 JI uL 40 (oA (k:=39) (fn:=_) (c:=_) (by kernel_rfl) Tryz.func36 rfl (by kernel_rfl))
noncomputable def BM1:List T->Option T:=PE Tryz.prog 400 JI HP 40 37
def BAW:aO Tryz.prog 37 BM1:=mA aV aY 400 JI uL 40 (oA (k:=39) (fn:=_) (c:=_) (by kernel_rfl) Tryz.func37 rfl (by kernel_rfl))
noncomputable def A03:List T->Option T:=PE Tryz.prog 400 JI HP 40 70
def BAY:aO Tryz.prog 70 A03:=mA aV aY 400 JI uL 40 (oA (k:=39) (fn:=_) (c:=_) (by kernel_rfl) Tryz.func70 rfl (by kernel_rfl))
def BFY:BHL [aF true aJ (RW 0)]=some (.v (.string (b20 0))):=by kernel_rfl
def BFZ:BHL [aF true aJ (RW 1)]=some (.v (.string (b20 1))):=by kernel_rfl
def BOQ:BM3 [.v (.string (nK [67,49]))]=some (.v (.string (nK [66,67,49]))):=by kernel_rfl
def BOL:BM1 [.v (.int .i64 2)]=some (.v (.string (nK [130]))):=by kernel_rfl
def BMQ (x:aQ):iII:=if x.1=6 then b20 0 else b20 1
noncomputable def r20:iII:=(nK [66,67,49]++nK [130])++tN BMQ o20.2
def w20:iII:=nK ([66,67,49,130,6,66,80,49,66,65,49]++t20++[2,66,65,50,64]++t20)
def BNU:r20=w20:=by kernel_rfl
noncomputable def BHK:List T->Option T:=gD (EG [([aF true dN o20],.v (.string w20))])
def BAT:aO Tryz.prog 12 BHK:=(BAO BAV BAX BAW BMQ (nK [66,67,49]) (nK [130]) o20 BOQ BOL (λx hx=>by
  simp only[o20,List.mem_cons,List.not_mem_nil,or_false] at hx;rcases hx with rfl|rfl
  ·exact BFY
  ·exact BFZ) (by show r20.size<=_;rw[BNU];decide +kernel) (by decide) (by decide) (g:=EG [([aF true dN o20],.v (.string w20))]) λargs r h=>by
  cases List.mem_singleton.1 (zL h);exact ⟨rfl,by rw[<-BNU];rfl⟩).deep
def AL5:FuncId->Bool:=λf=>[29,73,74,75,52,30,31,57,33,32,54,56,53,55,76,77,78].contains f
noncomputable def BM2:List T->Option T:=A5W Tryz.prog 400 AL5 HP 40 32
def i20:T:=.v (.int .i64 0)
def x20:iII:=nK ([6,66,80,49,66,65,49]++t20++[2,66,65,50,64]++t20)
def BJ4:BM2 [.agg [.v (.string x20),i20]]=some (.bY [.agg [.v (.string (b20 1)),i20],aF true aJ (RW 0)]):=by kernel_rfl
def BJ5:BM2 [.agg [.v (.string (b20 1)),i20]]=some (.bY [.agg [.v (.string (nK [])),i20],aF true aJ (RW 1)]):=by kernel_rfl
noncomputable def BHM:List T->Option T:=EG [([.agg [.v (.string x20),i20]],.bY [.agg [.v (.string (b20 1)),i20],aF true aJ (RW 0)]),([.agg [.v (.string (b20 1)),i20]],.bY [.agg [.v (.string (nK [])),i20],aF true aJ (RW 1)])]
def BAZ:cZ Tryz.prog 32 (wD BHM):=AAX (AIZ aV aY 400 AL5 uL 40 Tryz.func32 rfl) λargs r h=>by
 rcases List.mem_cons.1 (zL h) with h|h
 ·cases h;exact BJ4
 ·cases List.mem_singleton.1 h;exact BJ5
noncomputable def A3K:Env:=Env.of [(32,.ASG BHM)]
def AR7:aR Tryz.prog A3K:=aR.cons (x:=.ASG BHM) BAZ (aR.nil _)
noncomputable def BM0:List T->Option T:=PE Tryz.prog 400 AL5 A3K 40 10
def BAU:aO Tryz.prog 10 BM0:=mA aV aY 400 AL5 AR7 40 (oA (k:=39) (fn:=_) (c:=_) (by kernel_rfl) Tryz.func10 rfl (by kernel_rfl))
def BOH:BM0 [.v (.string w20)]=some (.bY [aF true dN o20,.v (.int .i64 0)]):=by kernel_rfl
noncomputable def BHJ:List T->Option T:=EG [([.v (.string w20)],.bY [aF true dN o20,.v (.int .i64 0)])]
def BAS:aO Tryz.prog 10 BHJ:=G5 BAU λx hx=>by
 cases List.mem_singleton.1 hx;exact BOH
noncomputable def HG:List T->Option T:=A03
def BA6:aO Tryz.prog 70 HG:=BAY
def AK7 (x:aQ):List iII:=if x.1=6 then [nK [65,49],nK [80,49]] else if x.1=2 then [nK [65,50]] else [nK [80,49]]
def BKG:A03 [aF true aJ (RW 0)]=some (Sh.enc [(false,Sy.str.li)] (AK7 (RW 0))):=by kernel_rfl
def BKH:A03 [aF true aJ (RW 1)]=some (Sh.enc [(false,Sy.str.li)] (AK7 (RW 1))):=by kernel_rfl
def BKI:A03 [aF true aJ (RW 2)]=some (Sh.enc [(false,Sy.str.li)] (AK7 (RW 2))):=by kernel_rfl
def EP:List (List T)->Option (List (List T)):=xY
def AII (l:List iII) (K:List (List T)->Prop):lP (List (List T)) (EP (List.map Sy.str.enc l)) K=K (List.map Sy.str.enc (J9 tE l)):=ACG l K
def A0X:cZ Tryz.prog 71 (EF 1 EP):=ARB
noncomputable def BES:Env:=Env.of [(70,.pure HG),(71,.perm 1 EP)]
def BE8:FuncId->Hint:=λf=>match f == 46 with|true=>⟨A3U [(3,.alt [.val 12 false (.int .i64),.map 7 .str false .bool] [.val 12 false (.int .i64),.map 3 .str false .bool]),(6,.alt [.val 19 false (.int .i64),.map 7 .str false .bool] [.val 19 false (.int .i64),.map 3 .str false .bool])],λ_ _=>none,λ_=>none⟩|false=>match f == 47 with|true=>⟨λr=>match r == 3 with|true=>.inv [.own 5 1 .str,.nJ 8 (some 7)]|false=>.none,λ_ _=>none,λr=>match r == 4 with|true=>some (.str,false,.bool)|false=>none⟩|false=>a6
def AVT:aR Tryz.prog BES:=.cons BA6 (.cons A0X (.nil _))
def AF1(a0:dG)(a1:dG)(R:T->Prop):Prop:=dK Sy.str false Sy.bool [] λ(y0:List (iII×Bool))=>a8 (Int×List (iII×Bool)×PUnit) (λX1 s2=>aD (decide (s2.1<(↑(BR9 a1).length:Int))) (aX aJ (BR9 a1) s2.1 λ(y3:aQ)=>aM [(false,Sy.str.li)] (HG [aF true aJ y3]) λ(y4:List iII)=>dK Sy.str false Sy.bool (List.map (cG Sy.str false Sy.bool) s2.2.1) λ(y5:List (iII×Bool))=>a8 (Int×List (iII×Bool)×PUnit) (λX6 s7=>aD (decide (s7.1<(↑(List.map Sy.str.enc y4).length:Int))) (aX Sy.str (List.map Sy.str.enc y4) s7.1 λ(y8:iII)=>lP (Option (Nat×D)) (findD TypeDesc.string (Value.string y8) (List.map (cG Sy.str false Sy.bool) s7.2.1) 0) λ(y9:Option (Nat×D))=>dK Sy.str false Sy.bool (e7 (List.map (cG Sy.str false Sy.bool) s7.2.1) y9 (Value.string y8) (D.p (pPR true))) λ(y10:List (iII×Bool))=>X6 (i64.wrap (s7.1+1),y10,())) (dK Sy.str false Sy.bool (List.map (cG Sy.str false Sy.bool) s7.2.1) λ(y11:List (iII×Bool))=>X1 (i64.wrap (s2.1+1),y11,()))) (0,y5,())) (dK Sy.str false Sy.bool [] λ(y12:List (iII×Bool))=>a8 (Int×List (iII×Bool)×PUnit) (λX13 s14=>aD (decide (s14.1<(↑(BR9 a0).length:Int))) (aX aJ (BR9 a0) s14.1 λ(y15:aQ)=>aM [(false,Sy.str.li)] (HG [aF true aJ y15]) λ(y16:List iII)=>dK Sy.str false Sy.bool (List.map (cG Sy.str false Sy.bool) s14.2.1) λ(y17:List (iII×Bool))=>a8 (Int×List (iII×Bool)×PUnit) (λX18 s19=>aD (decide (s19.1<(↑(List.map Sy.str.enc y16).length:Int))) (aX Sy.str (List.map Sy.str.enc y16) s19.1 λ(y20:iII)=>lP (Option (Nat×D)) (findD TypeDesc.string (Value.string y20) (List.map (cG Sy.str false Sy.bool) s19.2.1) 0) λ(y21:Option (Nat×D))=>dK Sy.str false Sy.bool (e7 (List.map (cG Sy.str false Sy.bool) s19.2.1) y21 (Value.string y20) (D.p (pPR true))) λ(y22:List (iII×Bool))=>X18 (i64.wrap (s19.1+1),y22,())) (dK Sy.str false Sy.bool (List.map (cG Sy.str false Sy.bool) s19.2.1) λ(y23:List (iII×Bool))=>X13 (i64.wrap (s14.1+1),y23,()))) (0,y17,())) (a8 (List iII×(Nat×List Nat×Nat)×PUnit) (λX24 s25=>b7 (decide ((List.map (cG Sy.str false Sy.bool) s14.2.1).length <= s25.2.1.1) && decide (s25.2.1.1<=s25.2.1.2.2)) (tT (List.map (cG Sy.str false Sy.bool) s14.2.1).length s25.2.1.2.1 (lP (List (List T)) (EP (List.map Sy.str.enc s25.1)) λ(y26:List (List T))=>R (T.sl false y26)) λ(i27:Nat)=>b7 (decide ((List.map (cG Sy.str false Sy.bool) s14.2.1).length = (List.map (cG Sy.str false Sy.bool) s14.2.1).length)) (B7 Sy.str false Sy.bool (List.map (cG Sy.str false Sy.bool) s14.2.1) (s25.2.1.2.1++[i27]) λ(k28:iII) (y29:Bool)=>iI TypeDesc.string (Value.string k28) (List.map (cG Sy.str false Sy.bool) s2.2.1) false Sy.bool (iT Sy.str (List.map Sy.str.enc s25.1) λ(y34:List iII)=>X24 (y34, (s25.2.1.1,s25.2.1.2.1++[i27], (List.map (cG Sy.str false Sy.bool) s14.2.1).length), ())) λ(i30:Nat) (y31:Bool)=>aD y31 (b7 (decide (((List.map Sy.str.enc s25.1).length+1)*16<=140737488355328) && decide ((List.map Sy.str.enc s25.1).length+1<=140737488355328)) (iT Sy.str (List.map Sy.str.enc s25.1++[[pPQ k28]]) λ(y32:List iII)=>X24 (y32, (s25.2.1.1,s25.2.1.2.1++[i27], (List.map (cG Sy.str false Sy.bool) s14.2.1).length), ()))) (iT Sy.str (List.map Sy.str.enc s25.1) λ(y33:List iII)=>X24 (y33, (s25.2.1.1,s25.2.1.2.1++[i27], (List.map (cG Sy.str false Sy.bool) s14.2.1).length), ()))))) ([], ((List.map (cG Sy.str false Sy.bool) s14.2.1).length,[], (List.map (cG Sy.str false Sy.bool) s14.2.1).length), ()))) (0,y12,()))) (0,y0,())
abbrev AJT:Sh:=[(true,dN),(true,dN)]
def p20:iII:=nK [80,49]
noncomputable def z7 (x:dG×dG):Option T:=match pE x.1 o20&&pE x.2 c20 with
 | true=>some (T.sl false (List.map Sy.str.enc [p20]))
 | false=>none
noncomputable def AH2:List T->Option T:=gS AJT z7
def ARL {a0 a1}:AH2 [aF true dN a0,aF true dN a1]=z7 (a0,a1):=bH (s:=AJT) rfl (a0,a1) rfl
def BB3:tG Tryz.prog 18 AH2 z7 (cQ AJT) AF1:=iR (a1:=(true,dN)) (a2:=(true,dN)) (Hs:=BE8) (k:=10) AVT aV aY (aN rfl) ⟨_,_,Tryz.func18,rfl⟩ rfl λ_ _ _=>by kernel_rfl
variable {α:Type}
def BCO {a:α}:∀ {l:List α},l.Nodup->(∀ s,s∈l↔s=a)->l=[a]
 | [],_,h=>by have:=(h a).2 rfl;cases this
 | [b],_,h=>by rw[(h b).1 am]
 | b::c::l,hn,h=>by
  have h1:=(h b).1 am;have h2:=(h c).1 (List.mem_cons_of_mem _ am);exact absurd (List.mem_cons.2 (.inl (h1.trans h2.symm))) (List.pairwise_cons.1 hn |>.1 b |> λf hm=>(List.nodup_cons.1 hn).1 hm)
def BAL:aO Tryz.prog 18 AH2:=BB3 λa b r h hb=>by
 clear hb;unfold z7 at h;split at h
 case h_2=>cases h
 rename_i hc;cases h;rw[ac] at hc;obtain rfl:a=o20:=eG.1 hc.1;obtain rfl:b=c20:=eG.1 hc.2;clear hc;unfold AF1 BR9;have oc:∀ e∈c20.2,e=RW 2:=λe he=>List.mem_singleton.1 he;have oo:∀ e∈o20.2,e=RW 0\/e=RW 1:=λe he=>by
  rcases List.mem_cons.1 he with h|h
  ·exact .inl h
  ·exact .inr (List.mem_singleton.1 h)
 refine A6M (gt:=HG) (tf:=AK7) (M:=2) (l:=c20.2) (by omega) (λe he=>by rw[oc e he];decide) (λe he=>by rw[oc e he];exact BKI) (by decide) λ_ eb sb=>?_;refine A6M (gt:=HG) (tf:=AK7) (M:=2) (l:=o20.2) (by omega) (λe he=>by rcases oo e he with h|h<;>rw[h]<;>decide) (λe he=>by
  rcases oo e he with h|h
  ·rw[h];exact BKG
  ·rw[h];exact BKH) (by decide) λ_ es hs=>?_
 have hz:es.length<=4:=hs.2.2.1;have sb1:∀ s,(∃ e∈c20.2,s∈AK7 e)↔s=p20:=λs=>⟨λ⟨e,he,h⟩=>by rw[oc e he] at h;exact List.mem_singleton.1 h,λh=>⟨RW 2,List.mem_singleton.2 rfl,by rw[h];exact List.mem_singleton.2 rfl⟩⟩
 have hs1:∃ e∈o20.2,p20∈AK7 e:=⟨RW 0,am,List.mem_cons_of_mem _ am⟩
 refine BCT (ag:=false) (r:=.bool) rfl (λe=>(fH eb e.1).isSome) (λX out seen i hi h1 h2 hy hn=>?_) λo2 seen hm hl2 hnd=>?_
 ·have h1:out.length<=0+seen.length:=h1;have h2:seen.length<es.length:=h2;dsimp only;refine zD (r:=.bool) (λhg=>?_) λj v hg=>?_
  ·rw[eX (r:=.str) rfl];exact hn (by dsimp only;rw[hg];rfl)
  ·rcases sb.get es[i].1 with ⟨h,_⟩|⟨h,_⟩
   ·rw[h] at hg;cases hg
   ·rw[h] at hg;cases hg;rw[kH,AZD (by omega),AAE];exact hy (by dsimp only;rw[h];rfl)
 ·show lP (List (List T)) (EP (List.map Sy.str.enc ([]++o2))) _;rw[List.nil_append,AII];have e:o2=[p20]:=BCO (hnd hs.1) λs=>by
   rw[hm,<-sb1];constructor
   ·rintro ⟨e,he,rfl,h⟩;rcases sb.get e.1 with ⟨h',_⟩|⟨_,h'⟩
    ·rw[h'] at h;cases h
    ·exact h'
   ·intro h;have hp:=(sb1 s).1 h;obtain ⟨e,he,h1⟩:=List.mem_map.1 ((hs.2.1 s).2 (by rw[hp];exact hs1));refine ⟨e,he,h1,?_⟩;rcases sb.get s with ⟨_,h'⟩|⟨h',_⟩
    ·exact absurd h h'
    ·rw[h1,h'];rfl
  rw[e,show J9 tE [p20]=[p20] by unfold J9 tE;simp[BBV]]
noncomputable def BHI:List T->Option T:=gD (EG [([aF true dN o20,aF true dN c20],.sl false [[.v (.string p20)]])])
def BAR:aO Tryz.prog 18 BHI:=(G5 BAL λx hx=>by
 cases List.mem_singleton.1 hx;rw[ARL];unfold z7;rw[eG.2 rfl,eG.2 rfl];rfl).deep
end Go.Pv
namespace Go.Pv
open Go Go.Proofs IntKind
noncomputable def A3M:Env:=Env.of [(66,.pure (EG RX)),(83,.pure sS),(318,.fresh (qB 1 8)),(103,.fresh (qB 3 40)),(104,.fresh (qB 6 72)),(105,.fresh (qB 3 40)),(136,.fresh (qB 2 16)),(137,.fresh (qB 1 24)),(106,.fresh (qB 18 208)),(107,.fresh (qB 5 88)),(243,.fresh (qB 1 16)),(280,.grow 3 kT),(5000000000+38,.mark)]
def AR9:aR Tryz.prog A3M:=aR.cons (x:=.pure (EG RX)) AL0 (aR.cons (x:=.pure sS) xH (aR.cons (x:=.fresh (qB 1 8)) AAM (aR.cons (x:=.fresh (qB 3 40)) R3 (aR.cons (x:=.fresh (qB 6 72)) R6 (aR.cons (x:=.fresh (qB 3 40)) R1 (aR.cons (x:=.fresh (qB 2 16)) ALY (aR.cons (x:=.fresh (qB 1 24)) AAN (aR.cons (x:=.fresh (qB 18 208)) R5 (aR.cons (x:=.fresh (qB 5 88)) R4 (aR.cons (x:=.fresh (qB 1 16)) AAO (aR.cons (x:=.grow 3 kT) CF (aR.cons (x:=.mark) trivial (aR.nil _)))))))))))))
noncomputable def gIn:List T->Option T:=PE Tryz.prog 400 AL6 A3M 40 44
def BGM:aO Tryz.prog 44 gIn:=mA aV aY 400 AL6 AR9 40 (oA (k:=39) (fn:=_) (c:=_) (by kernel_rfl) Tryz.func44 rfl (by kernel_rfl))
def BHV:FuncId->Bool:=λf=>[260,86,128,45].contains f
noncomputable def AMB:Env:=Env.of [(83,.pure sS),(66,.pure (EG RX)),(44,.pure gIn),(12,.pure BHK),(10,.pure BHJ),(18,.pure BHI),(5000000000+38,.mark)]
def AIR:aR Tryz.prog AMB:=aR.cons (x:=.pure sS) xH (aR.cons (x:=.pure (EG RX)) AL0 (aR.cons (x:=.pure gIn) BGM (aR.cons (x:=.pure BHK) BAT (aR.cons (x:=.pure BHJ) BAS (aR.cons (x:=.pure BHI) BAR (aR.cons (x:=.mark) trivial (aR.nil _)))))))
def BM4:List T->Option T:=λargs=>match args with | []=>some (.v (.bool true))|_=>none
def kQ:List T->Option T:=BM4
def AHI:aO Tryz.prog 9 kQ :=
 AQ0 aV aY 400 BHV (B:=AMB) AIR 40 (by kernel_rfl)
end Go.Pv
namespace Go.Pv
open Go Go.Proofs IntKind
def awD {K:Bool->Prop} (h:K true):aM [(false,Sy.bool)] (kQ []) K:=aK (s:=[(false,.bool)]) (y:=true) rfl h
def AQK {o:dG} {n:Int} (h:xF o n=true):(o.2.length:Int)<=n:=by
 unfold xF at h;rw[ac,ac,ah,ah] at h;exact h.2.1
structure ALG (d:aA) (o:dG):Prop where
 D:A0 d=true
 K:zT d=true
 E:∀ x∈o.2,dU (bW x)=true/\dL (eF x)=true
def BM9 {d:aA} {o:dG} (h:TA d o=true):ALG d o:=by
 unfold TA at h;simp only[ac,List.all_eq_true] at h;exact ⟨h.1.1,h.1.2,h.2⟩
def BF2 {d:aA} (h:few d 40=true):BZ 40 d:=A0J h
variable {m:aE}
def BD2 {d:aA} {o:dG} {b:Nat} (c:ALG d o) (hf:BZ b d) (hb:b<=900):xM [aF true aB d,aF true aI m,aF true dN o]=some (Sh.enc [(true,aB),(false,.int .i64)] (gR d m o)):=AP5 (A4X hf hb c.D c.K c.E)
def AZC {d:aA} {o:dG} {b:Nat} (c:ALG d o) (hf:BZ b d) (h:(gR d m o).2=0):BZ (b+o.2.length) (gR d m o).1/\A0 (gR d m o).1=true/\zT (gR d m o).1=true:=by
 obtain ⟨_,e⟩:=U2 h;rw[e] at h ⊢;exact MX hf c.D c.K c.E h
end Go.Pv
namespace Go.Pv
open Go Go.Proofs IntKind
section
variable {α : Type} {af : α -> α -> Bool} {p q : α -> Bool} {f g : α -> α} {l : List α} {x y z : α}
def A29:eM af [] x=[x]:=rfl
def VZ (h:af z x=true):eM af (z::l) x=x::z::l:=by
 unfold eM;rw[List.findIdx_cons,h];rfl
def OM (h:af z x=false):eM af (z::l) x=z::eM af l x:=by
 unfold eM;rw[List.findIdx_cons,h];rfl
def w6 (h:p z=true):eJ p (z::l)=l:=by
 unfold eJ;rw[List.findIdx_cons,h];rfl
def B5 (h:p z=false):eJ p (z::l)=z::eJ p l:=by
 unfold eJ;rw[List.findIdx_cons,h];rfl
def RL (h:p z=true):yY p f (z::l)=f z::l:=by
 unfold yY;rw[List.findIdx_cons,h];rfl
def RJ (h:p z=false):yY p f (z::l)=z::yY p f l:=by
 unfold yY;rw[List.findIdx_cons,h];rfl
structure Ord (af:α->α->Bool):Prop where
 trans:∀ {a b c},af c b=true->af b a=true->af c a=true
 irr:∀ a,af a a=false
def Ord.asym (o:Ord af) {a b:α} (h:af a b=true):af b a=false:=by
 cases hb:af b a with
 | false=>rfl
 | true=>have:=o.trans h hb;rw[o.irr] at this;cases this
def ACQ (h:∀ w∈l,af w x=true):eM af l x=x::l:=by
 cases l with
 | nil=>rfl
 | cons w l=>exact VZ (h w am)
end
variable {α:Type}
def BJ0:Ord (α:=iII×α) cJ:=⟨λh1 h2=>XH h2 h1,λa=>qI a.1⟩
def BNO:Ord (α:=cM) o8:=⟨λh1 h2=>S0 h2 h1,λa=>AMF a⟩
end Go.Pv
namespace Go.Pv
open Go Go.Proofs IntKind
def opN (x:aQ) (l:List fQ):List fQ:=if x.1=1 then eM cJ l (j6 x) else if x.1=2 then eJ (bZ (dW x)) l else l
def opP (x:aQ) (l:List bD):List bD:=if x.1=3 then eM cJ l (bW x) else if x.1=4 then eJ (bZ (dW x)) l else if x.1=5 then yY (bZ (bW x).1) (Q8 (bW x)) l else if x.1=6 then yY (bZ (dW x)) (λp=>DC p (eTo x)) l else l
def opS (x:aQ) (l:List iH):List iH:=if x.1=7 then eM cJ l (mS x) else if x.1=8 then eJ (bZ (dW x)) l else l
def opK (x:aQ) (l:List bA):List bA:=if x.1=9 then eM cJ l (eF x) else if x.1=10 then eJ (bZ (dW x)) l else l
def opR (x:aQ) (l:List cM):List cM:=if x.1=11 then eM o8 l (dI x) else if x.1=12 then eJ (λn=>decide (n=dI x)) l else l
def w7 {d:aA} {x:aQ} (h:1<=x.1/\x.1<=12):eQ d x=(d.1,opN x d.2.1,opP x d.2.2.1,opS x d.2.2.2.1,opK x d.2.2.2.2.1,opR x d.2.2.2.2.2):=by
 have:x.1=1\/x.1=2\/x.1=3\/x.1=4\/x.1=5\/x.1=6\/x.1=7\/x.1=8\/x.1=9\/x.1=10\/x.1=11\/x.1=12:=by omega
 rcases this with h|h|h|h|h|h|h|h|h|h|h|h<;>simp[eQ,opN,opP,opS,opK,opR,h]
variable {m:aE}
def GU {d:aA} (hc:fX d m=0):j8 d=true:=by
 have hf:mF d=0:=by
  unfold fX at hc;split at hc
  ·exact absurd hc ‹_›
  split at hc
  ·cases hc
  split at hc
  ·exact absurd hc ‹_›
  rename_i h3;exact Classical.byContradiction h3
 unfold mF at hf;split at hf
 ·cases hf
 split at hf
 ·cases hf
 rename_i h2;simpa using h2
variable {α:Type}
def tM {l:List (iII×α)} (h:pY (ids l)=true):l.Pairwise (λa b=>cJ b a=true):=by
 have:=M1 h;unfold ids at this;rw[List.pairwise_map] at this;exact this.imp λh=>(nF ..).2 h
def AQN {l:List (iII×α)} {id:iII} (h:(l.find? λs=>decide (s.1=id)).isSome=false) {a:iII×α} (ha:a∈l):a.1≠id:=by
 intro e;have:(l.find? λs=>decide (s.1=id)).isSome=true:=List.find?_isSome.2 ⟨a,ha,ai e⟩;rw[this] at h;cases h
section
variable {α : Type} {l : List (iII × α)}
end
structure BOU (d:aA) (m:aE) (x y:aQ):Prop where
 a:sN d m x
 b:sN d m y
 c:sN (eQ d x) m y
 e:sN (eQ d y) m x
section
variable {d : aA} {m : aE} {x y : aQ}
def BFN (h:x.1=2\/x.1=4\/x.1=5\/x.1=6\/x.1=8\/x.1=10\/x.1=12):fW x=false:=by
 unfold fW;rcases h with h|h|h|h|h|h|h<;>rw[h]<;>rfl
def YE (h:x.1=1):cN d x=(dR d (j6 x).1).isSome:=by unfold cN;simp only[h];rfl
def ANE (h:x.1=2):cN d x=(dR d (dW x)).isSome:=by unfold cN;simp only[h];rfl
def YF (h:x.1=3):cN d x=(partOf d (bW x).1).isSome:=by unfold cN;simp only[h];rfl
def YG (h:x.1=4):cN d x=(partOf d (dW x)).isSome:=by unfold cN;simp only[h];rfl
def ANF (h:x.1=5):cN d x=(partOf d (bW x).1).isSome:=by unfold cN;simp only[h];rfl
def ANG (h:x.1=6):cN d x=(partOf d (dW x)).isSome:=by unfold cN;simp only[h];rfl
def ANH (h:x.1=7):cN d x=(oB d (mS x).1).isSome:=by unfold cN;simp only[h];rfl
def ANI (h:x.1=8):cN d x=(oB d (dW x)).isSome:=by unfold cN;simp only[h];rfl
def YH (h:x.1=9):cN d x=(eK d (eF x).1).isSome:=by unfold cN;simp only[h];rfl
def AEB (h:x.1=10):cN d x=(eK d (dW x)).isSome:=by unfold cN;simp only[h];rfl
def AEC (h:x.1=11):cN d x=d.2.2.2.2.2.any λn=>decide (n=dI x):=by unfold cN;simp only[h];rfl
def AED (h:x.1=12):cN d x=d.2.2.2.2.2.any λn=>decide (n=dI x):=by unfold cN;simp only[h];rfl
def WG (h:sN d m x):j8 (eQ d x)=true:=GU h.chk
def A9R {l:List cM} {n:cM} (h:(l.any λk=>decide (k=n))=false) {a:cM} (ha:a∈l):a≠n:=by
 intro e;have:(l.any λk=>decide (k=n))=true:=List.any_eq_true.2 ⟨a,ha,ai e⟩;rw[this] at h;cases h
def ALJ {l:List cM} {n:cM} (h:(l.any λk=>decide (k=n))=true):n∈l:=by
 obtain ⟨a,ha,e⟩:=List.any_eq_true.1 h;rw[<-of_decide_eq_true e];exact ha
def tId (x:aQ):iII:=if x.1=5 then (bW x).1 else dW x
def tF (x:aQ) (p:bD):bD:=if x.1=5 then Q8 (bW x) p else DC p (eTo x)
def turns (x:aQ):Prop:=x.1=5\/x.1=6
def A41 (h:turns x) (l:List bD):opP x l=yY (bZ (tId x)) (tF x) l:=by
 rcases h with h|h
 ·have e:tF x=Q8 (bW x):=by funext p;unfold tF;rw[if_pos h]
  unfold opP tId;rw[e,if_neg (by omega),if_neg (by omega),if_pos h,if_pos h]
 ·have e:tF x=λp=>DC p (eTo x):=by funext p;unfold tF;rw[if_neg (by omega)]
  unfold opP tId;rw[e,if_neg (by omega),if_neg (by omega),if_neg (by omega),if_pos h,if_neg (by omega)]
def BEJ {a:bD} (ha:bZ (tId x) a=true):(tF x a).1=a.1:=by
 have ha:a.1=tId x:=of_decide_eq_true ha;unfold tF;unfold tId at ha;split
 ·rename_i h;rw[if_pos h] at ha;exact ha.symm
 ·rfl
def A93 (hd:sN d m x):(eQ d x).2.2.1=opP x d.2.2.1:=by rw[w7 hd.kind]
end
end Go.Pv
namespace Go.Pv
open Go Go.Proofs IntKind
end Go.Pv
namespace Go.Pv
open Go Go.Proofs IntKind
section
variable {α : Type} {l : List (iII × α)} {id j : iII}
def AQM {a:iII×α} (h:a.1≠id):(eM cJ l a).find? (λs=>decide (s.1=id))=l.find? λs=>decide (s.1=id):=by
 unfold eM;rw[List.find?_append,List.find?_cons_of_neg (by simpa using h),<-List.find?_append,List.take_append_drop]
def RZ (h:j≠id):∀ l:List (iII×α),(eJ (bZ j) l).find? (λs=>decide (s.1=id))=l.find? λs=>decide (s.1=id)
 | []=>rfl
 | z::l=>by
  cases hz:bZ j z with
  | true =>
   have e:z.1=j:=of_decide_eq_true hz;rw[w6 hz,List.find?_cons_of_neg (by rw[e];simpa using h)]
  | false =>
   rw[B5 hz,List.find?_cons,List.find?_cons,RZ h l]
def AAK {f:iII×α->iII×α} (hf:∀ a,bZ j a=true->(f a).1=a.1) (h:j≠id):∀ l:List (iII×α),(yY (bZ j) f l).find? (λs=>decide (s.1=id))=l.find? λs=>decide (s.1=id)
 | []=>rfl
 | z::l=>by
  cases hz:bZ j z with
  | true =>
   have e:z.1=j:=of_decide_eq_true hz;rw[RL hz,List.find?_cons_of_neg (by rw[hf z hz,e];simpa using h),List.find?_cons_of_neg (by rw[e];simpa using h)]
  | false =>
   rw[RJ hz,List.find?_cons,List.find?_cons,AAK hf h l]
end
section
variable {d : aA} {m : aE} {x : aQ} {id : iII}
end
variable {m : aE} {id : iII}
end Go.Pv
namespace Go.Pv
open Go Go.Proofs IntKind
structure Val (d:aA) (m:aE):Prop where
 order:j8 d=true
 nodes:∀ n∈d.2.1,nP d n=0
 up:Q4 d=false
 parts:∀ p∈d.2.2.1,fC d m p=0
 BNV:∀ s∈d.2.2.2.1,nS d s=0
 A43:(gF d d.2.2.2.2.1 0 [] []).1=0
 BEC:∀ n∈d.2.2.2.2.2,rD d n=0
variable {m:aE}
def ALA {d:aA} (hc:fX d m=0):Val d m:=by
 have ho:=GU hc;unfold fX at hc;split at hc
 ·exact absurd hc ‹_›
 split at hc
 ·cases hc
 split at hc
 ·exact absurd hc ‹_›
 split at hc
 ·exact absurd hc ‹_›
 rename_i h4;split at hc
 ·exact absurd hc ‹_›
 rename_i h5;split at hc
 ·exact absurd hc ‹_›
 rename_i h6;split at hc
 ·exact absurd hc ‹_›
 rename_i h7;have h4:iV d=0:=Classical.byContradiction h4;have h5:j2 d m=0:=Classical.byContradiction h5;have h6:b6 (nS d) d.2.2.2.1=0:=Classical.byContradiction h6;have h7:gZ d=0:=Classical.byContradiction h7;have n1:b6 (nP d) d.2.1=0/\Q4 d=false:=by
  unfold iV at h4;split at h4
  ·rename_i g;refine ⟨g,?_⟩;split at h4
   ·cases h4
   ·rename_i g2;simpa using g2
  ·rename_i g;exact absurd h4 g
 have p1:b6 (fC d m) d.2.2.1=0:=by
  unfold j2 at h5;split at h5
  ·assumption
  ·exact h5
 have k1:(gF d d.2.2.2.2.1 0 [] []).1=0:=by
  unfold gZ at h7;split at h7
  ·assumption
  ·exact h7
 exact ⟨ho,mE n1.1,n1.2,mE p1,mE h6,k1,mE hc⟩
def ATK {d:aA} {p:bD} (h:fC d m p=0):(dR d (fV p)).isSome=true:=by
 unfold fC at h;split at h
 ·split at h
  ·cases h
  ·rename_i g;cases hn:dR d (fV p) with
   | none=>rw[hn] at g;exact absurd rfl g
   | some _=>rfl
 ·rename_i g;exact absurd h g
def WB {d:aA} {n:fQ} (h:nP d n=0):oS n.1=true/\((n.2.1=1/\n.2.2=⟨#[]⟩)\/(¬ n.2.1=1/\(dR d n.2.2).isSome=true)):=by
 unfold nP at h;split at h
 ·cases h
 rename_i h1;split at h
 ·cases h
 rename_i h2;split at h
 ·cases h
 rename_i h3;split at h
 ·cases h
 rename_i h4;refine ⟨by simpa using h1,?_⟩;by_cases hk:n.2.1=1
 ·exact .inl ⟨hk,Classical.byContradiction λg=>h3 ⟨hk,g⟩⟩
 ·have hk2:n.2.1=2:=Classical.byContradiction λg=>h2 ⟨hk,g⟩;refine .inr ⟨hk,?_⟩;cases hn:dR d n.2.2 with
  | none=>exact absurd ⟨hk2,by rw[hn];rfl⟩ h4
  | some _=>rfl
def AJ5 {d:aA} {s:iH} (h:nS d s=0):(partOf d s.2.1).isSome=true/\(partOf d s.2.2.1).isSome=true:=by
 unfold nS at h;split at h
 ·cases h
 split at h
 ·cases h
 split at h
 ·cases h
 split at h
 ·cases h
 split at h
 ·cases h
 rename_i h5;simp only[not_or] at h5;refine ⟨?_,?_⟩
 ·cases h:partOf d s.2.1 with
  | none=>rw[h] at h5;exact absurd rfl h5.1
  | some _=>rfl
 ·cases h:partOf d s.2.2.1 with
  | none=>rw[h] at h5;exact absurd rfl h5.2
  | some _=>rfl
def M6 {d:aA} {id:iII} (h:oR d id=true):(dR d id).isSome=true:=by
 unfold oR at h;cases hn:dR d id with
 | none=>rw[hn] at h;cases h
 | some _=>rfl
def S6 {d:aA} {n:cM} (h:rD d n=0):oR d n.2.1=true/\(n.1=3->(eK d n.2.2).isSome=true)/\(¬ n.1=3->n.2.2=⟨#[]⟩\/oR d n.2.2=true):=by
 unfold rD at h;split at h
 ·cases h
 rename_i h1;split at h
 ·cases h
 split at h
 ·cases h
 rename_i h3;split at h
 ·cases h
 rename_i h4;rw[not_or,not_or] at h4;refine ⟨by simpa using h3,λhk=>?_,λhk=>?_⟩
 ·cases hn:eK d n.2.2 with
  | none=>exact absurd ⟨hk,by rw[hn];rfl⟩ h4.2.2
  | some _=>rfl
 ·cases hb:oR d n.2.2 with
  | true=>exact .inr rfl
  | false =>
   have:n.1=1\/n.1=2:=by omega
   rcases this with g|g
   ·exact .inl (Classical.byContradiction λe=>h4.1 ⟨g,e,hb⟩)
   ·exact absurd ⟨g,hb⟩ h4.2.1
def inst_all {d:aA} {b:iII}:∀ {l S:List iII},(instE d b l S).1=0->∀ x∈l,(partOf d x).isSome=true
 | [],_,_,x,hx=>by cases hx
 | id::l,S,h,x,hx=>by
  unfold instE at h;cases hp:partOf d id with
  | none=>rw[hp] at h;cases h
  | some p =>
   rw[hp] at h;dsimp only at h;split at h
   ·cases h
   split at h
   ·split at h
    ·cases h
    ·rcases List.mem_cons.1 hx with rfl|hx
     ·rw[hp];rfl
     ·exact inst_all h x hx
   ·cases h
def ALH {d:aA} {k:iII} {i:Int}:∀ {l:List iII} {E:List aU},(B1 d k i l E).1=0->∀ x∈l,(eK d x).isSome=true
 | [],_,_,x,hx=>by cases hx
 | id::l,E,h,x,hx=>by
  unfold B1 at h;split at h
  ·cases h
  rcases x6 id d.2.2.2.2.1 with ⟨g,_⟩|⟨j,hj,g,g2⟩
  ·rw[g] at h;cases h
  ·rw[g] at h;rcases List.mem_cons.1 hx with rfl|hx
   ·unfold eK;rw[g2];rfl
   ·exact ALH h x hx
def KL {d:aA}:∀ {l:List bA} {i:Int} {E:List aU} {S:List iII},(gF d l i E S).1=0->∀ k∈l,oR d k.2.1=true/\(∀ x∈jJ k,(partOf d x).isSome=true)/\∀ x∈gC k,(eK d x).isSome=true
 | [],_,_,_,_,k,hk=>by cases hk
 | a::l,i,E,S,h,k,hk=>by
  unfold gF at h;split at h
  ·rename_i g;exact absurd h g
  rename_i g1;split at h
  ·rename_i g;exact absurd h g
  rename_i g2;split at h
  ·rename_i g;exact absurd h g
  rename_i g3;rcases List.mem_cons.1 hk with rfl|hk
  ·refine ⟨?_,inst_all (Classical.byContradiction g2),ALH (Classical.byContradiction g3)⟩;have g1:uJ d k=0:=Classical.byContradiction g1;unfold uJ at g1;split at g1
   ·cases g1
   split at g1
   ·cases g1
   ·rename_i g;simpa using g
  ·exact KL h k hk
def BBS {d:aA} (hu:Q4 d=false) {n:fQ} (hn:n∈d.2.1) (hf:dR d n.1=some n) (hk:¬ n.2.1=1):n.2.2≠n.1:=by
 intro e;have go:∀ k l,(upF d k n.1 l).2=false:=λk=>by
  induction k with
  | zero=>intro l;rfl
  | succ k ih =>
   intro l;unfold upF;rw[hf];dsimp only;rw[if_neg hk,e];exact ih _
 unfold Q4 at hu;rw[List.any_eq_false] at hu;have:=hu n hn;unfold up at this;rw[go] at this;exact this rfl
def U5 {α:Type} {af:α->α->Bool} {p:α->Bool} {x:α} (hp:p x=true):∀ {l:List α},(∀ a∈l,p a=false)->eJ p (eM af l x)=l
 | [],_=>by rw[A29,w6 hp]
 | z::l,h=>by
  cases hz:af z x with
  | true=>rw[VZ hz,w6 hp]
  | false=>rw[OM hz,B5 (h z am),U5 hp λa ha=>h a (List.mem_cons_of_mem _ ha)]
variable {α:Type}
def tQ {l:List (iII×α)} {a:iII×α} (hn:(l.find? λs=>decide (s.1=a.1)).isSome=false):eJ (bZ a.1) (eM cJ l a)=l:=U5 (p:=bZ a.1) (ai rfl) λ_ hb=>aj (AQN hn hb)
def AZ8 {l:List cM} {n:cM} (hn:(l.any λk=>decide (k=n))=false):eJ (λk=>decide (k=n)) (eM o8 l n)=l:=U5 (p:=λk=>decide (k=n)) (ai rfl) λ_ hb=>aj (A9R hn hb)
def mB (x:aQ):aQ:=(if fW x=true then x.1+1 else x.1,if x.1=1 then (j6 x).1 else if x.1=3 then (bW x).1 else if x.1=7 then (mS x).1 else if x.1=9 then (eF x).1 else dW x,bJ,bR,bL,bS,noPack,dI x)
section
variable {d : aA} {m : aE} {x : aQ}
def A25 {s:iII} (h:oS s=true):s≠⟨#[]⟩:=λe=>by rw[e] at h;exact absurd h (by decide)
def gone {l:List (iII×α)} {id:iII} (h:(l.find? λs=>decide (s.1=id)).isSome=false) {y:iII} (hy:(l.find? λs=>decide (s.1=y)).isSome=true):y≠id:=λe=>by rw[e,h] at hy;cases hy
def OZ {l:List (iII×α)} (ho:pY (ids l)=true) {a:iII×α} (ha:a∈l):l.find? (λs=>decide (s.1=a.1))=some a:=by
 have hpw:=tM ho;cases hf:l.find? λs=>decide (s.1=a.1) with
 | none=>exact absurd (ai rfl) (List.find?_eq_none.1 hf a ha)
 | some b =>
  have hb:=List.mem_of_find?_eq_some hf;have he:b.1=a.1:=by simpa using List.find?_some hf
  refine congrArg some ?_;obtain ⟨i,hi,rfl⟩:=List.mem_iff_getElem.1 ha;obtain ⟨j,hj,rfl⟩:=List.mem_iff_getElem.1 hb;have hs:∀ p q (hp:p<l.length) (hq:q<l.length),p<q->l[p].1≠l[q].1:=λp q hp hq hpq e=>by
   have h1:=List.pairwise_iff_getElem.1 hpw p q hp hq hpq;unfold cJ gtS at h1;rw[e,qI] at h1;cases h1
  rcases Nat.lt_trichotomy i j with g|g|g
  ·exact absurd he.symm (hs i j hi hj g)
  ·subst g;rfl
  ·exact absurd he (hs j i hj hi g)
def A02 (hv:fX d m=0) (hd:sN d m x) (ha:fW x=true):jY (eQ d x) (mB x)=false:=by
 have V:=ALA hv;have W:=ALA hd.chk;have ht:=hd.there;rw[ha] at ht;have ha':=ha;simp only[fW,Bool.or_eq_true,ah] at ha';have nf:∀ {b:Bool},(b=true->False)->b=false:=λh=>by
  rename_i b;cases b with
  | false=>rfl
  | true=>exact (h rfl).elim
 have e0:(mB x).1=x.1+1:=if_pos ha;rcases ha' with (((h|h)|h)|h)|h
 ·
  have e1:dW (mB x)=(j6 x).1:=if_pos h;have ed:eQ d x=(d.1,eM cJ d.2.1 (j6 x),d.2.2):=by unfold eQ;rw[if_pos h]
  have hn:(dR d (j6 x).1).isSome=false:=by
   have:=YE (d:=d) h;rw[<-this];exact ht
  have ne:∀ {y:iII},(dR d y).isSome=true->y≠(j6 x).1:=λhy=>gone hn hy;have hin:j6 x∈(eQ d x).2.1:=by rw[ed];exact jT.2 (.inl rfl)
  have hi:=(WB (W.nodes _ hin)).1;unfold jY;rw[if_pos (by rw[e0,h];rfl),e1];refine nf λhu=>?_;unfold iL at hu;rw[ed] at hu;simp only[Bool.or_eq_true,List.any_eq_true,ah,ac,Bool.not_eq_true',decide_eq_false_iff_not] at hu;rcases hu with ⟨p,hp,e⟩|⟨n,hm,e⟩|⟨k,hk,e⟩|⟨n,hm,e⟩
  ·exact ne (ATK (V.parts p hp)) e
  ·rcases jT.1 hm with rfl|hm
   ·rcases (WB (W.nodes _ hin)).2 with ⟨_,g⟩|⟨g1,_⟩
    ·rw[g] at e;exact A25 hi e.symm
    ·have ho:=W.order;unfold j8 at ho;simp only[ac] at ho;exact BBS W.up hin (OZ ho.1.1.1.1 hin) g1 e
   ·rcases (WB (V.nodes n hm)).2 with ⟨_,g⟩|⟨_,g⟩
    ·rw[g] at e;exact A25 hi e.symm
    ·exact ne g e
  ·exact ne (M6 (KL V.A43 k hk).1) e
  ·obtain ⟨r1,r2,r3⟩:=S6 (V.BEC n hm);rcases e with e|⟨e,e3⟩
   ·exact ne (M6 r1) e
   ·rcases r3 e3 with g|g
    ·rw[g] at e;exact A25 hi e.symm
    ·exact ne (M6 g) e
 ·
  have e1:dW (mB x)=(bW x).1:=by
   show (if _ then _ else if _ then _ else _)=_;rw[if_neg (by omega),if_pos h]
  have ed:eQ d x=(d.1,d.2.1,eM cJ d.2.2.1 (bW x),d.2.2.2):=by unfold eQ;rw[if_neg (by omega),if_neg (by omega),if_pos h]
  have hn:(partOf d (bW x).1).isSome=false:=by
   have:=YF (d:=d) h;rw[<-this];exact ht
  have ne:∀ {y:iII},(partOf d y).isSome=true->y≠(bW x).1:=λhy=>gone hn hy;unfold jY;rw[if_neg (by omega),if_pos (by rw[e0,h];rfl),e1];refine nf λhu=>?_;unfold nH VW at hu;rw[ed] at hu;simp only[Bool.or_eq_true,List.any_eq_true,ah] at hu;rcases hu with ⟨s,hs,e⟩|⟨k,hk,y,hy,e⟩
  ·obtain ⟨r1,r2⟩:=AJ5 (V.BNV s hs);rcases e with e|e
   ·exact ne r1 e
   ·exact ne r2 e
  ·exact ne ((KL V.A43 k hk).2.1 y hy) e
 ·unfold jY;rw[if_neg (by omega),if_neg (by omega),if_neg (by omega)]
 ·
  have e1:dW (mB x)=(eF x).1:=by
   show (if _ then _ else if _ then _ else if _ then _ else if _ then _ else _)=_;rw[if_neg (by omega),if_neg (by omega),if_neg (by omega),if_pos h]
  have ed:eQ d x=(d.1,d.2.1,d.2.2.1,d.2.2.2.1,eM cJ d.2.2.2.2.1 (eF x),d.2.2.2.2.2):=by
   unfold eQ;rw[if_neg (by omega),if_neg (by omega),if_neg (by omega),if_neg (by omega),if_neg (by omega),if_neg (by omega),if_neg (by omega),if_neg (by omega),if_pos h]
  have hn:(eK d (eF x).1).isSome=false:=by
   have:=YH (d:=d) h;rw[<-this];exact ht
  have ne:∀ {y:iII},(eK d y).isSome=true->y≠(eF x).1:=λhy=>gone hn hy;unfold jY;rw[if_neg (by omega),if_neg (by omega),if_pos (by rw[e0,h];rfl),e1];refine nf λhu=>?_;unfold o4 VW at hu;rw[ed] at hu;dsimp only at hu;rw[tQ hn] at hu;simp only[Bool.or_eq_true,List.any_eq_true,ah,ac] at hu;rcases hu with ⟨k,hk,y,hy,e⟩|⟨n,hm,e3,e⟩
  ·exact ne ((KL V.A43 k hk).2.2 y hy) e
  ·exact ne ((S6 (V.BEC n hm)).2.1 e3) e
 ·unfold jY;rw[if_neg (by omega),if_neg (by omega),if_neg (by omega)]
def BCY (hv:fX d m=0) (hd:sN d m x) (ha:fW x=true):bO (eQ d x) m (mB x)=(d,0):=by
 have ht:=hd.there;rw[ha] at ht;have hf:=A02 hv hd ha;have ha':=ha;simp only[fW,Bool.or_eq_true,ah] at ha';have e0:(mB x).1=x.1+1:=if_pos ha;have hp:=hd.plain;have er:mB x=(x.1+1,dW (mB x),bJ,bR,bL,bS,noPack,dI x):=Prod.ext e0 rfl;have pl:mB x=dE (mB x):=by
  rw[er];unfold dE;dsimp only;rw[if_neg (by omega),if_neg (by omega),if_neg (by omega),if_neg (by omega),if_neg (by omega)];by_cases h11:x.1=11
  ·rw[if_pos (by omega)];have e1:dW (mB x)=dW x:=by
    show (if _ then _ else if _ then _ else if _ then _ else if _ then _ else _)=_;rw[if_neg (by omega),if_neg (by omega),if_neg (by omega),if_neg (by omega)]
   have e2:dW x=bJ:=by
    unfold dE at hp;rw[if_neg (by omega),if_neg (by omega),if_neg (by omega),if_neg (by omega),if_neg (by omega),if_pos (.inl h11)] at hp;exact congrArg (λz:aQ=>z.2.1) hp
   rw[e1,e2]
  ·rw[if_neg (by omega)];have e2:dI x=cK:=by
    unfold dE at hp;rcases ha' with (((h|h)|h)|h)|h
    ·rw[if_pos h] at hp;exact congrArg (λz:aQ=>z.2.2.2.2.2.2.2) hp
    ·rw[if_neg (by omega),if_pos (.inl h)] at hp;exact congrArg (λz:aQ=>z.2.2.2.2.2.2.2) hp
    ·rw[if_neg (by omega),if_neg (by omega),if_neg (by omega),if_pos h] at hp;exact congrArg (λz:aQ=>z.2.2.2.2.2.2.2) hp
    ·rw[if_neg (by omega),if_neg (by omega),if_neg (by omega),if_neg (by omega),if_pos h] at hp;exact congrArg (λz:aQ=>z.2.2.2.2.2.2.2) hp
    ·exact absurd h h11
   rw[e2]
 have na:fW (mB x)=false:=by
  simp only[fW,Bool.or_eq_false_iff,decide_eq_false_iff_not];omega
 have both:cN (eQ d x) (mB x)=true/\eQ (eQ d x) (mB x)=d:=by
  rcases ha' with (((h|h)|h)|h)|h
  ·have e1:dW (mB x)=(j6 x).1:=if_pos h;have ed:eQ d x=(d.1,eM cJ d.2.1 (j6 x),d.2.2):=by unfold eQ;rw[if_pos h]
   have hn:(dR d (j6 x).1).isSome=false:=by
    have:=YE (d:=d) h;rw[<-this];exact ht
   refine ⟨?_,?_⟩
   ·rw[ANE (by omega),e1,ed];exact EA
   ·unfold eQ;rw[if_neg (by omega),if_pos (by omega),if_pos h,e1];dsimp only;rw[tQ hn]
  ·have e1:dW (mB x)=(bW x).1:=by
    show (if _ then _ else if _ then _ else _)=_;rw[if_neg (by omega),if_pos h]
   have ed:eQ d x=(d.1,d.2.1,eM cJ d.2.2.1 (bW x),d.2.2.2):=by unfold eQ;rw[if_neg (by omega),if_neg (by omega),if_pos h]
   have hn:(partOf d (bW x).1).isSome=false:=by
    have:=YF (d:=d) h;rw[<-this];exact ht
   refine ⟨?_,?_⟩
   ·rw[YG (by omega),e1,ed];exact EA
   ·rw[ed];unfold eQ;rw[if_neg (by omega),if_neg (by omega),if_neg (by omega),if_pos (by omega),e1];dsimp only;rw[tQ hn]
  ·have e1:dW (mB x)=(mS x).1:=by
    show (if _ then _ else if _ then _ else if _ then _ else _)=_;rw[if_neg (by omega),if_neg (by omega),if_pos h]
   have ed:eQ d x=(d.1,d.2.1,d.2.2.1,eM cJ d.2.2.2.1 (mS x),d.2.2.2.2):=by
    unfold eQ;rw[if_neg (by omega),if_neg (by omega),if_neg (by omega),if_neg (by omega),if_neg (by omega),if_neg (by omega),if_pos h]
   have hn:(oB d (mS x).1).isSome=false:=by
    have:=ANH (d:=d) h;rw[<-this];exact ht
   refine ⟨?_,?_⟩
   ·rw[ANI (by omega),e1,ed];exact EA
   ·rw[ed];unfold eQ;rw[if_neg (by omega),if_neg (by omega),if_neg (by omega),if_neg (by omega),if_neg (by omega),if_neg (by omega),if_neg (by omega),if_pos (by omega),e1];dsimp only;rw[tQ hn]
  ·have e1:dW (mB x)=(eF x).1:=by
    show (if _ then _ else if _ then _ else if _ then _ else if _ then _ else _)=_;rw[if_neg (by omega),if_neg (by omega),if_neg (by omega),if_pos h]
   have ed:eQ d x=(d.1,d.2.1,d.2.2.1,d.2.2.2.1,eM cJ d.2.2.2.2.1 (eF x),d.2.2.2.2.2):=by
    unfold eQ;rw[if_neg (by omega),if_neg (by omega),if_neg (by omega),if_neg (by omega),if_neg (by omega),if_neg (by omega),if_neg (by omega),if_neg (by omega),if_pos h]
   have hn:(eK d (eF x).1).isSome=false:=by
    have:=YH (d:=d) h;rw[<-this];exact ht
   refine ⟨?_,?_⟩
   ·rw[AEB (by omega),e1,ed];exact EA
   ·rw[ed];unfold eQ;rw[if_neg (by omega),if_neg (by omega),if_neg (by omega),if_neg (by omega),if_neg (by omega),if_neg (by omega),if_neg (by omega),if_neg (by omega),if_neg (by omega),if_pos (by omega),e1];dsimp only;rw[tQ hn]
  ·have e1:dI (mB x)=dI x:=rfl;have ed:eQ d x=(d.1,d.2.1,d.2.2.1,d.2.2.2.1,d.2.2.2.2.1,eM o8 d.2.2.2.2.2 (dI x)):=by
    unfold eQ;rw[if_neg (by omega),if_neg (by omega),if_neg (by omega),if_neg (by omega),if_neg (by omega),if_neg (by omega),if_neg (by omega),if_neg (by omega),if_neg (by omega),if_neg (by omega),if_pos h]
   have hn:(d.2.2.2.2.2.any λn=>decide (n=dI x))=false:=by
    have:=AEC (d:=d) h;rw[<-this];exact ht
   refine ⟨?_,?_⟩
   ·rw[AED (by omega),e1,ed];exact List.any_eq_true.2 ⟨dI x,jT.2 (.inl rfl),ai rfl⟩
   ·rw[ed];unfold eQ;rw[if_neg (by omega),if_neg (by omega),if_neg (by omega),if_neg (by omega),if_neg (by omega),if_neg (by omega),if_neg (by omega),if_neg (by omega),if_neg (by omega),if_neg (by omega),if_neg (by omega),e1];dsimp only;rw[AZ8 hn]
 unfold bO;rw[if_neg (by omega),if_neg,if_neg,if_neg,if_neg (by omega),if_neg (by rw[hf];decide),both.2,if_pos hv]
 ·rw[na,both.1];exact λh=>by cases h.2
 ·rw[na];exact λh=>by cases h.1
 ·rintro (h|⟨h,_⟩)
  ·rw[eG.2 pl] at h;cases h
  ·omega
end
end Go.Pv
namespace Go.Pv
open Go Go.Proofs IntKind
section
variable {α : Type}
def BBT {β:Type} {o:Option β} (h:o.isSome=false):o=none:=by
 cases o with
 | none=>rfl
 | some _=>cases h
def ALX {j:iII} {f:iII×α->iII×α} (hf:∀ a,bZ j a=true->(f a).1=a.1):∀ l:List (iII×α),(yY (bZ j) f l).find? (λs=>decide (s.1=j))=(l.find? λs=>decide (s.1=j)).map f
 | []=>rfl
 | z::l=>by
  cases hz:bZ j z with
  | true =>
   have e:z.1=j:=of_decide_eq_true hz;rw[RL hz,List.find?_cons_of_pos (p:=λs:iII×α=>decide (s.1=j)) (by rw[hf z hz,e];exact ai rfl),List.find?_cons_of_pos (p:=λs:iII×α=>decide (s.1=j)) (ai e)];rfl
  | false =>
   have e:¬ z.1=j:=of_decide_eq_false hz;rw[RJ hz,List.find?_cons_of_neg (by simpa using e),List.find?_cons_of_neg (by simpa using e),ALX hf l]
def AC1 {β:Type} {p:β->Bool} {b:β} (h:p b=false):∀ l:List β,b∈eJ p l↔b∈l
 | []=>Iff.rfl
 | z::l=>by
  cases hz:p z with
  | true =>
   rw[w6 hz,List.mem_cons];exact ⟨.inr,λg=>g.resolve_left λe=>by rw[e,hz] at h;cases h⟩
  | false=>rw[B5 hz,List.mem_cons,List.mem_cons,AC1 h l]
def lv (ki kd:Int) (x:aQ) (a:iII×α) (i:iII) (o:Option (iII×α)):Option (iII×α):=if x.1=ki/\a.1=i then some a else if x.1=kd/\dW x=i then none else o
def BM6 {l:List (iII×α)} {a:iII×α} (h:pY (ids (eM cJ l a))=true):(eM cJ l a).find? (λs=>decide (s.1=a.1))=some a:=OZ h (jT.2 (.inl rfl))
def V6 {x:aQ} {ki kd:Int} (hne:ki≠kd) {l op:List (iII×α)} {a:iII×α} {i:iII} (ho:pY (ids l)=true) (ho2:pY (ids op)=true) (he:op=if x.1=ki then eM cJ l a else if x.1=kd then eJ (bZ (dW x)) l else l):op.find? (λs=>decide (s.1=i))=lv ki kd x a i (l.find? λs=>decide (s.1=i)):=by
 unfold lv;by_cases h1:x.1=ki
 ·rw[if_pos h1] at he;subst he;by_cases e:a.1=i
  ·rw[if_pos ⟨h1,e⟩,<-e];exact BM6 ho2
  ·rw[if_neg (λh=>e h.2),if_neg (λh=>hne (h1.symm.trans h.1))];exact AQM e
 rw[if_neg h1] at he;rw[if_neg (λh=>h1 h.1)];by_cases h2:x.1=kd
 ·rw[if_pos h2] at he;subst he;by_cases e:dW x=i
  ·rw[if_pos ⟨h2,e⟩,<-e];exact BBT (A0K (RI ho))
  ·rw[if_neg (λh=>e h.2)];exact RZ e _
 rw[if_neg h2] at he;rw[if_neg (λh=>h2 h.1),he]
end
section
variable {d : aA} {m : aE} {x : aQ} {i : iII}
def oH (h:j8 d=true):pY (ids d.2.1)=true/\pY (ids d.2.2.1)=true/\pY (ids d.2.2.2.1)=true/\pY (ids d.2.2.2.2.1)=true/\M0 d.2.2.2.2.2=true:=by
 simp only[j8,ac] at h;exact ⟨h.1.1.1.1,h.1.1.1.2,h.1.1.2,h.1.2,h.2⟩
def A4E (ho:j8 d=true) (hd:sN d m x):dR (eQ d x) i=lv 1 2 x (j6 x) i (dR d i):=by
 unfold dR;exact V6 (by decide) (oH ho).1 (oH (WG hd)).1 (by rw[w7 hd.kind];rfl)
def A6L (ho:j8 d=true) (hd:sN d m x):oB (eQ d x) i=lv 7 8 x (mS x) i (oB d i):=by
 unfold oB;exact V6 (by decide) (oH ho).2.2.1 (oH (WG hd)).2.2.1 (by rw[w7 hd.kind];rfl)
def A42 (ho:j8 d=true) (hd:sN d m x):eK (eQ d x) i=lv 9 10 x (eF x) i (eK d i):=by
 unfold eK;exact V6 (by decide) (oH ho).2.2.2.1 (oH (WG hd)).2.2.2.1 (by rw[w7 hd.kind];rfl)
def pv (x:aQ) (i:iII) (o:Option bD):Option bD:=if (x.1=5\/x.1=6)/\tId x=i then o.map (tF x) else lv 3 4 x (bW x) i o
def PB (ho:j8 d=true) (hd:sN d m x):partOf (eQ d x) i=pv x i (partOf d i):=by
 unfold partOf pv;by_cases ht:turns x
 ·rw[A93 hd,A41 ht];by_cases e:tId x=i
  ·rw[if_pos ⟨ht,e⟩,<-e];exact ALX (λa ha=>BEJ ha) _
  ·rw[if_neg (λh=>e h.2),AAK (λa ha=>BEJ ha) e];unfold lv;unfold turns at ht;rw[if_neg (λh=>by omega),if_neg (λh=>by omega)]
 ·rw[if_neg (λh=>ht h.1)];unfold turns at ht;refine V6 (by decide) (oH ho).2.1 (oH (WG hd)).2.1 ?_;rw[A93 hd];unfold opP;rw[if_neg (c:=x.1=5) (λh=>ht (.inl h)),if_neg (c:=x.1=6) (λh=>ht (.inr h))]
def AL4 (d:aA) (n:cM):Bool:=d.2.2.2.2.2.any λk=>decide (k=n)
def zP {n:cM}:AL4 d n=true↔n∈d.2.2.2.2.2:=⟨ALJ,λh=>List.any_eq_true.2 ⟨n,h,ai rfl⟩⟩
def ndv (x:aQ) (n:cM) (o:Bool):Bool:=if x.1=11/\dI x=n then true else if x.1=12/\dI x=n then false else o
def A38 {n:cM} (ho:j8 d=true) (hd:sN d m x):AL4 (eQ d x) n=ndv x n (AL4 d n):=by
 rw[Bool.eq_iff_iff,zP,w7 hd.kind];show n∈opR x d.2.2.2.2.2↔_;unfold opR ndv;by_cases h1:x.1=11
 ·rw[if_pos h1,jT];by_cases e:dI x=n
  ·rw[if_pos ⟨h1,e⟩];exact ⟨λ_=>rfl,λ_=>.inl e.symm⟩
  ·rw[if_neg (c:=x.1=11/\dI x=n) (λh=>e h.2),if_neg (c:=x.1=12/\dI x=n) (λh=>by omega),zP];exact ⟨λh=>h.resolve_left λg=>e g.symm,.inr⟩
 rw[if_neg h1,if_neg (c:=x.1=11/\dI x=n) (λh=>h1 h.1)];by_cases h2:x.1=12
 ·rw[if_pos h2];by_cases e:dI x=n
  ·rw[if_pos ⟨h2,e⟩];refine ⟨λh=>?_,λh=>by cases h⟩;have h3:=RV (f:=id) (is:=λk=>decide (k=dI x)) (by rw[List.map_id];exact AGX (oH ho).2.2.2.2) (λa b ha hb=>(of_decide_eq_true ha).trans (of_decide_eq_true hb).symm) n h;exact absurd e.symm (of_decide_eq_false h3)
  ·rw[if_neg (c:=x.1=12/\dI x=n) (λh=>e h.2),zP];exact AC1 (p:=λk=>decide (k=dI x)) (aj λg:n=dI x=>e g.symm) _
 ·rw[if_neg h2,if_neg (c:=x.1=12/\dI x=n) (λh=>h2 h.1),zP]
end
section
variable {m : aE} {a b : List aQ} {d : aA}
structure BOT (m:aE) (d:aA) (a b:List aQ):Prop where
 chk:fX d m=0
 a1:(cB m d a).2=0
 b1:(cB m d b).2=0
 a2:(cB m (cB m d a).1 b).2=0
 b2:(cB m (cB m d b).1 a).2=0
 apart:∀ s,s∈BN3 a->s∉BN3 b
end
end Go.Pv
namespace Go.Pv
open Go Go.Proofs IntKind
def pH (p:bD):bD:=(p.1,1,p.2.2)
def j3 (d:aA):aA:=(d.1,d.2.1,d.2.2.1.map pH,d.2.2.2)
def mP (b:Int) (d:aA):Prop:=∀ p∈d.2.2.1,1<=p.2.1/\p.2.1<=b
section
variable {m : aE} {d : aA}
def ADM {p:bD} (h:1<=p.2.1/\p.2.1<=1000):nR (pH p) m=nR p m:=by
 unfold nR;by_cases hi:oS p.1=false\/oS (fV p)=false
 ·rw[if_pos hi];exact if_pos hi
 rw[if_neg hi];refine (if_neg hi).trans ?_;rw[if_neg (c:=¬ (1<=p.2.1/\p.2.1<=1000)) (λg=>g h)];have k:1<=(pH p).2.1/\(pH p).2.1<=1000:=⟨by show (1:Int)<=1;omega,by show (1:Int)<=1000;omega⟩
 exact if_neg (λg=>g k)
def A31 {p:bD} (h:1<=p.2.1/\p.2.1<=1000):uN (pH p) m=uN p m:=by
 unfold uN;rw[ADM h];rfl
def BHW (l:List bD):ids (l.map pH)=ids l:=by
 unfold ids;rw[List.map_map];rfl
def VD (i:iII):∀ l:List bD,(l.map pH).find? (λs=>decide (s.1=i))=(l.find? λs=>decide (s.1=i)).map pH
 | []=>rfl
 | z::l=>by
  rw[List.map_cons,List.find?_cons,List.find?_cons,VD i l];show (match decide (z.1=i) with|true=>_|false=>_)=_;cases decide (z.1=i)<;>rfl
def zV (i:iII):partOf (j3 d) i=(partOf d i).map pH:=VD i d.2.2.1
def SW (i:iII):(partOf (j3 d) i).isNone=(partOf d i).isNone:=by
 rw[zV];cases partOf d i<;>rfl
def SX (i:iII):(partOf (j3 d) i).isSome=(partOf d i).isSome:=by
 rw[zV];cases partOf d i<;>rfl
def A62:∀ (k:Nat) (i:iII) (l:List iII),upF (j3 d) k i l=upF d k i l
 | 0,_,_=>rfl
 | k+1,i,l=>by
  unfold upF;show (match dR d i with|none=>_|some x=>_)=_;cases dR d i with
  | none=>rfl
  | some x =>
   dsimp only;rw[A62 k]
def A63 (i:iII):up (j3 d) i=up d i:=A62 65 i []
def A01:mF (j3 d)=mF d:=by
 have e:ids (j3 d).2.2.1=ids d.2.2.1:=BHW _;have e2:(j3 d).2.2.1.length=d.2.2.1.length:=ae ..;unfold mF lV j8 AHD;rw[e,e2];rfl
def NX {α β:Type} {f:β->Int} {g:α->Int} {h:α->β}:∀ {l:List α},(∀ a∈l,f (h a)=g a)->b6 f (l.map h)=b6 g l
 | [],_=>rfl
 | a::l,e=>by
  rw[List.map_cons,b6,b6,e a am,NX λb hb=>e b (List.mem_cons_of_mem _ hb)]
def zG {α:Type} {f g:α->Int}:∀ {l:List α},(∀ a∈l,f a=g a)->b6 f l=b6 g l
 | [],_=>rfl
 | a::l,e=>by
  rw[b6,b6,e a am,zG λb hb=>e b (List.mem_cons_of_mem _ hb)]
def ASM:iV (j3 d)=iV d:=by
 have e1:b6 (nP (j3 d)) (j3 d).2.1=b6 (nP d) d.2.1:=zG λa _=>rfl;have e2:Q4 (j3 d)=Q4 d:=by
  unfold Q4;show (d.2.1.any λn=>!(up (j3 d) n.1).2)=_;simp only[A63]
 have e3:RU (j3 d)=RU d:=by
  unfold RU;show (d.2.1.any λn=>decide (8<(up (j3 d) n.1).1.length))=_;simp only[A63]
 unfold iV;rw[e1,e2,e3]
def TV:∀ {l:List bD} {s:Int},(∀ p∈l,1<=p.2.1/\p.2.1<=1000)->rI m (l.map pH) s=rI m l s
 | [],_,_=>rfl
 | p::l,s,h=>by
  rw[List.map_cons,rI,rI,A31 (h p am),TV λq hq=>h q (List.mem_cons_of_mem _ hq)]
def ATL (h:mP 1000 d):j2 (j3 d) m=j2 d m:=by
 have e:b6 (fC (j3 d) m) (j3 d).2.2.1=b6 (fC d m) d.2.2.1:=NX λp hp=>by
  unfold fC;rw[ADM (h p hp)];rfl
 unfold j2;rw[e];show (if _ then rI m (d.2.2.1.map pH) 0 else _)=_;rw[TV h]
def instE_pl {b:iII}:∀ (l S:List iII),instE (j3 d) b l S=instE d b l S
 | [],_=>rfl
 | i::l,S=>by
  rw[instE,instE,zV];cases partOf d i with
  | none=>rfl
  | some p =>
   dsimp only[Option.map];rw[A63,instE_pl l];rfl
def PA:∀ (l:List bA) (i:Int) (E:List aU) (S:List iII),gF (j3 d) l i E S=gF d l i E S
 | [],_,_,_=>rfl
 | k::l,i,E,S=>by
  have e:∀ l E,B1 (j3 d) k.1 i l E=B1 d k.1 i l E:=λl=>by
   induction l with
   | nil=>intro E;rfl
   | cons a l ih =>
    intro E;rw[B1,B1];show (if a=k.1 then _ else match fH (jC (ids d.2.2.2.2.1)) a with|none=>_|some j=>_)=_;split
    ·rfl
    ·cases fH (jC (ids d.2.2.2.2.1)) a with
     | none=>rfl
     | some j=>exact ih _
  rw[gF,gF,instE_pl,e,PA l];rfl
def ALP (h:mP 1000 d):fX (j3 d) m=fX d m:=by
 have e1:b6 (nS (j3 d)) (j3 d).2.2.2.1=b6 (nS d) d.2.2.2.1:=zG λs _=>by
  unfold nS;rw[SW,SW]
 have e2:gZ (j3 d)=gZ d:=by
  unfold gZ;rw[show gF (j3 d) (j3 d).2.2.2.2.1 0 [] []=gF d d.2.2.2.2.1 0 [] [] from PA _ _ _ _];rfl
 have e3:b6 (rD (j3 d)) (j3 d).2.2.2.2.2=b6 (rD d) d.2.2.2.2.2:=zG λn _=>rfl;unfold fX;rw[A01,ASM,ATL h,e1,e2,e3];rfl
def D0 (hc:fX d m=0):mP 1000 d:=λp hp=>by
 have h:=(ALA hc).parts p hp;unfold fC at h;split at h
 ·rename_i g;unfold nR at g;split at g
  ·cases g
  split at g
  ·cases g
  ·rename_i k;exact Classical.byContradiction k
 ·rename_i g;exact absurd h g
variable {y:aA}
def AZR (hs:j3 y=j3 d) (hy:mP 1000 y) (hc:fX d m=0):fX y m=0:=by
 rw[<-ALP hy,hs,ALP (D0 hc)];exact hc
end
structure Rdy (d:aA) (x:aQ):Prop where
 kind:1<=x.1/\x.1<=12
 plain:x=dE x
 rev:x.1=5->(bW x).2.1=0
 there:cN d x = !fW x
 node:x.1=5->fV (found bL (partOf d (bW x).1)).1=fV (bW x)
 free:jY d x=false
variable {m:aE}
def sN.rdy {d:aA} {x:aQ} (h:sN d m x):Rdy d x:=⟨h.kind,h.plain,h.rev,h.there,h.node,h.free⟩
section
variable {d y : aA} {m : aE} {x : aQ}
def Rdy.apply (k:Rdy d x) (hc:fX (eQ d x) m=0):bO d m x=(eQ d x,0):=by
 have kt:=k.there;unfold bO;rw[if_neg (λh=>h k.kind),if_neg,if_neg,if_neg,if_neg (λh=>h.2 (k.node h.1)),if_neg (by rw[k.free];decide),if_pos hc]
 ·rintro ⟨h1,h2⟩;rw[h1,h2] at kt;cases kt
 ·rintro ⟨h1,h2⟩;rw[h1,h2] at kt;cases kt
 ·rintro (h|h)
  ·rw[eG.2 k.plain] at h;cases h
  ·exact h.2 (k.rev h.1)
def AEE:cN (j3 d) x=cN d x:=by
 unfold cN;rw[SX,SX];rfl
def ANK:jY (j3 d) x=jY d x:=by
 unfold jY;have e:iL (j3 d) (dW x)=iL d (dW x):=by
  unfold iL;show ((d.2.2.1.map pH).any _||_)=_;rw[List.any_map];rfl
 rw[e];rfl
def AMQ (i:iII):fV (found bL (partOf (j3 d) i)).1=fV (found bL (partOf d i)).1:=by
 rw[zV];cases partOf d i<;>rfl
def Rdy.sim (h:Rdy d x) (hs:j3 y=j3 d):Rdy y x :=
 ⟨h.kind,h.plain,h.rev,by rw[<-AEE,hs,AEE];exact h.there,λk=>by rw[<-AMQ,hs,AMQ];exact h.node k,by rw[<-ANK,hs,ANK];exact h.free⟩
end
def opQ (x:aQ) (l:List bD):List bD:=if x.1=3 then eM cJ l (pH (bW x)) else if x.1=4 then eJ (bZ (dW x)) l else if x.1=5 then yY (bZ (bW x).1) (λ_=>pH (bW x)) l else if x.1=6 then yY (bZ (dW x)) (λp=>DC p (eTo x)) l else l
def A3E (a:bD):∀ l:List bD,(eM cJ l a).map pH=eM cJ (l.map pH) (pH a)
 | []=>rfl
 | z::l=>by
  cases h:cJ z a with
  | true=>rw[VZ h,List.map_cons,List.map_cons,VZ (z:=pH z) h]
  | false=>rw[OM h,List.map_cons,List.map_cons,OM (z:=pH z) h,A3E a l]
def AZ9 (i:iII):∀ l:List bD,(eJ (bZ i) l).map pH=eJ (bZ i) (l.map pH)
 | []=>rfl
 | z::l=>by
  cases h:bZ i z with
  | true=>rw[w6 h,List.map_cons,w6 (z:=pH z) h]
  | false=>rw[B5 h,List.map_cons,List.map_cons,B5 (z:=pH z) h,AZ9 i l]
def ALN (i:iII) {f g:bD->bD} (hf:∀ p,pH (f p)=g (pH p)):∀ l:List bD,(yY (bZ i) f l).map pH=yY (bZ i) g (l.map pH)
 | []=>rfl
 | z::l=>by
  cases h:bZ i z with
  | true=>rw[RL h,List.map_cons,List.map_cons,RL (z:=pH z) h,hf]
  | false=>rw[RJ h,List.map_cons,List.map_cons,RJ (z:=pH z) h,ALN i hf l]
def A40 (x:aQ) (l:List bD):(opP x l).map pH=opQ x (l.map pH):=by
 unfold opP opQ;by_cases h3:x.1=3
 ·rw[if_pos h3,if_pos h3,A3E]
 rw[if_neg h3,if_neg h3];by_cases h4:x.1=4
 ·rw[if_pos h4,if_pos h4,AZ9]
 rw[if_neg h4,if_neg h4];by_cases h5:x.1=5
 ·rw[if_pos h5,if_pos h5];exact ALN (f:=Q8 (bW x)) (g:=λ_=>pH (bW x)) _ (λp=>rfl) l
 rw[if_neg h5,if_neg h5];by_cases h6:x.1=6
 ·rw[if_pos h6,if_pos h6];exact ALN (f:=λp=>DC p (eTo x)) (g:=λp=>DC p (eTo x)) _ (λp=>rfl) l
 rw[if_neg h6,if_neg h6]
variable {y:aA}
def BKE {d:aA} {x:aQ} (hk:1<=x.1/\x.1<=12) (hs:j3 y=j3 d):j3 (eQ y x)=j3 (eQ d x):=by
 have e:∀ z:aA,j3 (eQ z x)=((j3 z).1,opN x (j3 z).2.1,opQ x (j3 z).2.2.1,opS x (j3 z).2.2.2.1,opK x (j3 z).2.2.2.2.1,opR x (j3 z).2.2.2.2.2):=λz=>by
  rw[w7 hk];show (z.1,opN x z.2.1,(opP x z.2.2.1).map pH,_)=_;rw[A40];rfl
 rw[e,e,hs]
def WR (p:bD):bD:=(p.1,0,p.2.2)
def dQ (d:aA) (x:aQ):aQ :=
 if x.1=1 then (2,(j6 x).1,bJ,bR,bL,bS,noPack,cK)
 else if x.1=2 then (1,bJ,bJ,(found bR (dR d (dW x))).1,bL,bS,noPack,cK)
 else if x.1=3 then (4,(bW x).1,bJ,bR,bL,bS,noPack,cK)
 else if x.1=4 then (3,bJ,bJ,bR,(found bL (partOf d (dW x))).1,bS,noPack,cK)
 else if x.1=5 then (5,bJ,bJ,bR,WR (found bL (partOf d (bW x).1)).1,bS,noPack,cK)
 else if x.1=6 then (6,dW x,fV (found bL (partOf d (dW x))).1,bR,bL,bS,noPack,cK)
 else if x.1=7 then (8,(mS x).1,bJ,bR,bL,bS,noPack,cK)
 else if x.1=8 then (7,bJ,bJ,bR,bL,(found bS (oB d (dW x))).1,noPack,cK)
 else if x.1=9 then (10,(eF x).1,bJ,bR,bL,bS,noPack,cK)
 else if x.1=10 then (9,bJ,bJ,bR,bL,bS,(found noPack (eK d (dW x))).1,cK)
 else if x.1=11 then (12,bJ,bJ,bR,bL,bS,noPack,dI x)
 else (11,bJ,bJ,bR,bL,bS,noPack,dI x)
section
variable {α : Type} {l : List (iII × α)} {i : iII} {a : iII × α}
def x9:∀ {l:List (iII×α)},l.Pairwise (λa b=>cJ b a=true)->l.find? (λs=>decide (s.1=i))=some a->eM cJ (eJ (bZ i) l) a=l
 | [],_,h=>by cases h
 | z::l,hp,h=>by
  obtain ⟨h1,h2⟩:=List.pairwise_cons.1 hp;cases hz:bZ i z with
  | true =>
   have e:z.1=i:=of_decide_eq_true hz;rw[List.find?_cons_of_pos (p:=λs:iII×α=>decide (s.1=i)) (ai e)] at h;cases h;rw[w6 hz];exact ACQ h1
  | false =>
   have e:¬ z.1=i:=of_decide_eq_false hz;rw[List.find?_cons_of_neg (p:=λs:iII×α=>decide (s.1=i)) (by simpa using e)] at h;rw[B5 hz,OM (BJ0.asym (h1 a (List.mem_of_find?_eq_some h))),x9 h2 h]
def UZ {f g:iII×α->iII×α} (hf:(f a).1=i) (hg:g (f a)=a):∀ {l:List (iII×α)},l.find? (λs=>decide (s.1=i))=some a->yY (bZ i) g (yY (bZ i) f l)=l
 | [],h=>by cases h
 | z::l,h=>by
  cases hz:bZ i z with
  | true =>
   have e:z.1=i:=of_decide_eq_true hz;rw[List.find?_cons_of_pos (p:=λs:iII×α=>decide (s.1=i)) (ai e)] at h;cases h;rw[RL hz,RL (p:=bZ i) (ai hf),hg]
  | false =>
   have e:¬ z.1=i:=of_decide_eq_false hz;rw[List.find?_cons_of_neg (p:=λs:iII×α=>decide (s.1=i)) (by simpa using e)] at h;rw[RJ hz,RJ hz,UZ hf hg h]
def CL {o:Option α} (h:o.isSome=true):∃ a,o=some a:=by
 cases o with
 | none=>cases h
 | some a=>exact ⟨a,rfl⟩
def zF (h:l.find? (λs=>decide (s.1=i))=some a):a.1=i:=by simpa using List.find?_some h
end
def SV {n:cM}:∀ {l:List cM},l.Pairwise (λa b=>ltN a b=true)->n∈l->eM o8 (eJ (λk=>decide (k=n)) l) n=l
 | [],_,h=>by cases h
 | z::l,hp,h=>by
  obtain ⟨h1,h2⟩:=List.pairwise_cons.1 hp;by_cases e:z=n
  ·subst e;rw[w6 (p:=λk=>decide (k=z)) (ai rfl)];exact ACQ h1
  ·have h:=(List.mem_cons.1 h).resolve_left λg=>e g.symm;rw[B5 (p:=λk=>decide (k=n)) (aj e),OM (BNO.asym (h1 n h)),SV h2 h]
section
variable {d y : aA} {m : aE} {x : aQ}
def A6X (hd:sN d m x) (ha:fW x=true):dQ d x=mB x:=by
 have hp:=hd.plain;have e0:(mB x).1=x.1+1:=if_pos ha;simp only[fW,Bool.or_eq_true,ah] at ha;have er:mB x=((mB x).1,dW (mB x),bJ,bR,bL,bS,noPack,dI x):=rfl;rw[er,e0];unfold dQ;unfold dE at hp;rcases ha with (((h|h)|h)|h)|h
 ·rw[if_pos h] at hp;have e1:dW (mB x)=(j6 x).1:=if_pos h;have e2:dI x=cK:=congrArg (λz:aQ=>z.2.2.2.2.2.2.2) hp;rw[if_pos h,e1,e2,h];rfl
 ·rw[if_neg (by omega),if_pos (.inl h)] at hp;have e1:dW (mB x)=(bW x).1:=by
   show (if _ then _ else if _ then _ else _)=_;rw[if_neg (by omega),if_pos h]
  have e2:dI x=cK:=congrArg (λz:aQ=>z.2.2.2.2.2.2.2) hp;rw[if_neg (by omega),if_neg (by omega),if_pos h,e1,e2,h];rfl
 ·rw[if_neg (by omega),if_neg (by omega),if_neg (by omega),if_pos h] at hp;have e1:dW (mB x)=(mS x).1:=by
   show (if _ then _ else if _ then _ else if _ then _ else _)=_;rw[if_neg (by omega),if_neg (by omega),if_pos h]
  have e2:dI x=cK:=congrArg (λz:aQ=>z.2.2.2.2.2.2.2) hp;rw[if_neg (by omega),if_neg (by omega),if_neg (by omega),if_neg (by omega),if_neg (by omega),if_neg (by omega),if_pos h,e1,e2,h];rfl
 ·rw[if_neg (by omega),if_neg (by omega),if_neg (by omega),if_neg (by omega),if_pos h] at hp;have e1:dW (mB x)=(eF x).1:=by
   show (if _ then _ else if _ then _ else if _ then _ else if _ then _ else _)=_;rw[if_neg (by omega),if_neg (by omega),if_neg (by omega),if_pos h]
  have e2:dI x=cK:=congrArg (λz:aQ=>z.2.2.2.2.2.2.2) hp;rw[if_neg (by omega),if_neg (by omega),if_neg (by omega),if_neg (by omega),if_neg (by omega),if_neg (by omega),if_neg (by omega),if_neg (by omega),if_pos h,e1,e2,h];rfl
 ·rw[if_neg (by omega),if_neg (by omega),if_neg (by omega),if_neg (by omega),if_neg (by omega),if_pos (.inl h)] at hp;have e1:dW (mB x)=dW x:=by
   show (if _ then _ else if _ then _ else if _ then _ else if _ then _ else _)=_;rw[if_neg (by omega),if_neg (by omega),if_neg (by omega),if_neg (by omega)]
  have e2:dW x=bJ:=congrArg (λz:aQ=>z.2.1) hp;rw[if_neg (by omega),if_neg (by omega),if_neg (by omega),if_neg (by omega),if_neg (by omega),if_neg (by omega),if_neg (by omega),if_neg (by omega),if_neg (by omega),if_neg (by omega),if_pos h,e1,e2,h];rfl
def HY {d:aA} {u:aQ} (k:Int) (hk:u.1=k) (h1:1<=k/\k<=12) (h5:k≠5) (p:u=dE u) (t:cN d u = !fW u) (f:jY d u=false):Rdy d u:=⟨by rw[hk];exact h1,p,λh=>absurd (hk.symm.trans h) h5,t,λh=>absurd (hk.symm.trans h) h5,f⟩
def A61 (hc:fX d m=0) (hd:sN d m x):Rdy (eQ d x) (dQ d x)/\j3 (eQ (eQ d x) (dQ d x))=j3 d:=by
 have ho:=GU hc;have o:=oH ho;have ht:=hd.there;cases ha:fW x with
 | true =>
  have h:=BCY hc hd ha;have h2:=D3 (d:=eQ d x) (m:=m) (x:=mB x) (by rw[h]);rw[A6X hd ha];refine ⟨h2.rdy,?_⟩;have:=h2.eq;rw[h] at this;exact (congrArg (λz:aA×Int=>j3 z.1) this).symm
 | false =>
  rw[ha] at ht;have ht:cN d x=true:=ht;have hk:=hd.kind;have na:x.1=2\/x.1=4\/x.1=5\/x.1=6\/x.1=8\/x.1=10\/x.1=12:=by
   simp only[fW,Bool.or_eq_false_iff,decide_eq_false_iff_not] at ha;omega
  rcases na with h|h|h|h|h|h|h
  ·rw[ANE h] at ht;obtain ⟨n,hn⟩:=CL ht;have e:dQ d x=(1,bJ,bJ,n,bL,bS,noPack,cK):=by
    unfold dQ;rw[if_neg (by omega),if_pos h,hn];rfl
   have ed:eQ d x=(d.1,eJ (bZ (dW x)) d.2.1,d.2.2):=by
    unfold eQ;rw[if_neg (by omega),if_pos h]
   rw[e];refine ⟨HY 1 rfl (by decide) (by decide) rfl ?_ rfl,?_⟩
   ·rw[YE rfl];show (dR (eQ d x) n.1).isSome=_;rw[A4E ho hd,zF hn];unfold lv;rw[if_neg (λk=>by omega),if_pos ⟨h,rfl⟩];rfl
   ·rw[ed];show j3 (d.1,eM cJ (eJ (bZ (dW x)) d.2.1) n,d.2.2)=_;rw[x9 (tM o.1) hn]
  ·rw[YG h] at ht;obtain ⟨n,hn⟩:=CL ht;have e:dQ d x=(3,bJ,bJ,bR,n,bS,noPack,cK):=by
    unfold dQ;rw[if_neg (by omega),if_neg (by omega),if_neg (by omega),if_pos h,hn];rfl
   have ed:eQ d x=(d.1,d.2.1,eJ (bZ (dW x)) d.2.2.1,d.2.2.2):=by
    unfold eQ;rw[if_neg (by omega),if_neg (by omega),if_neg (by omega),if_pos h]
   rw[e];refine ⟨HY 3 rfl (by decide) (by decide) rfl ?_ rfl,?_⟩
   ·rw[YF rfl];show (partOf (eQ d x) n.1).isSome=_;rw[PB ho hd,zF hn];unfold pv lv;rw[if_neg (λk=>by omega),if_neg (λk=>by omega),if_pos ⟨h,rfl⟩];rfl
   ·rw[ed];show j3 (d.1,d.2.1,eM cJ (eJ (bZ (dW x)) d.2.2.1) n,d.2.2.2)=_;rw[x9 (tM o.2.1) hn]
  ·rw[ANF h] at ht;obtain ⟨n,hn⟩:=CL ht;have e:dQ d x=(5,bJ,bJ,bR,WR n,bS,noPack,cK):=by
    unfold dQ;rw[if_neg (by omega),if_neg (by omega),if_neg (by omega),if_neg (by omega),if_pos h,hn];rfl
   have ei:=zF hn;have et:tId x=n.1:=by unfold tId;rw[if_pos h,ei]
   have hp:partOf (eQ d x) n.1=some (tF x n):=by
    rw[PB ho hd];unfold pv;rw[if_pos ⟨.inl h,et⟩];have:partOf d n.1=some n:=by rw[ei];exact hn
    rw[this];rfl
   have hnd:=hd.node h;rw[hn] at hnd;rw[e];refine ⟨⟨⟨by show (1:Int)<=5;omega,by show (5:Int)<=12;omega⟩,rfl,λ_=>rfl,?_,λ_=>?_,rfl⟩,?_⟩
   ·rw[ANF rfl];show (partOf (eQ d x) n.1).isSome=_;rw[hp];rfl
   ·show fV (found bL (partOf (eQ d x) n.1)).1=fV n;rw[hp];show fV (tF x n)=fV n;unfold tF;rw[if_pos h];exact hnd.symm
   ·have e2:∀ z:aA,j3 (eQ z x)=(z.1,z.2.1,opQ x (z.2.2.1.map pH),z.2.2.2):=λz=>by
     rw[<-A40];unfold eQ opP j3;simp only[h];rfl
    have e3:∀ z:aA,j3 (eQ z (5,bJ,bJ,bR,WR n,bS,noPack,cK))=(z.1,z.2.1,yY (bZ n.1) (λ_=>pH (WR n)) (z.2.2.1.map pH),z.2.2.2):=λz=>by
     show (z.1,z.2.1,(yY (bZ n.1) (Q8 (WR n)) z.2.2.1).map pH,z.2.2.2)=_;rw[ALN (f:=Q8 (WR n)) (g:=λ_=>pH (WR n)) n.1 λp=>rfl]
    rw[e3];have e4:(eQ d x).2.2.1.map pH=opQ x (d.2.2.1.map pH):=congrArg (λz:aA=>z.2.2.1) (e2 d);have e5:(eQ d x).1=d.1/\(eQ d x).2.1=d.2.1/\(eQ d x).2.2.2=d.2.2.2:=by
     unfold eQ;simp only[h];exact ⟨rfl,rfl,rfl⟩
    rw[e4,e5.1,e5.2.1,e5.2.2];unfold opQ;rw[if_neg (by omega),if_neg (by omega),if_pos h,ei];have hf:(d.2.2.1.map pH).find? (λs=>decide (s.1=(bW x).1))=some (pH n):=by
     rw[VD];have:d.2.2.1.find? (λs=>decide (s.1=(bW x).1))=some n:=hn;rw[this];rfl
    rw[UZ (i:=(bW x).1) (f:=λ_=>pH (bW x)) (g:=λ_=>pH (WR n)) (a:=pH n) rfl rfl hf];rfl
  ·rw[ANG h] at ht;obtain ⟨n,hn⟩:=CL ht;have e:dQ d x=(6,dW x,fV n,bR,bL,bS,noPack,cK):=by
    unfold dQ;rw[if_neg (by omega),if_neg (by omega),if_neg (by omega),if_neg (by omega),if_neg (by omega),if_pos h,hn];rfl
   have ei:=zF hn;have et:tId x=dW x:=by unfold tId;rw[if_neg (by omega)]
   have ed:eQ d x=(d.1,d.2.1,yY (bZ (dW x)) (λp=>DC p (eTo x)) d.2.2.1,d.2.2.2):=by
    unfold eQ;rw[if_neg (by omega),if_neg (by omega),if_neg (by omega),if_neg (by omega),if_neg (by omega),if_pos h]
   rw[e];refine ⟨HY 6 rfl (by decide) (by decide) rfl ?_ rfl,?_⟩
   ·rw[ANG rfl];show (partOf (eQ d x) (dW x)).isSome=_;rw[PB ho hd,hn];unfold pv;rw[if_pos ⟨.inr h,et⟩];rfl
   ·rw[ed];show j3 (d.1,d.2.1,yY (bZ (dW x)) (λp=>DC p (fV n)) (yY (bZ (dW x)) (λp=>DC p (eTo x)) d.2.2.1),d.2.2.2)=_;rw[UZ (f:=λp=>DC p (eTo x)) (g:=λp=>DC p (fV n)) (a:=n) ei rfl hn]
  ·rw[ANI h] at ht;obtain ⟨n,hn⟩:=CL ht;have e:dQ d x=(7,bJ,bJ,bR,bL,n,noPack,cK):=by
    unfold dQ;rw[if_neg (by omega),if_neg (by omega),if_neg (by omega),if_neg (by omega),if_neg (by omega),if_neg (by omega),if_neg (by omega),if_pos h,hn];rfl
   have ed:eQ d x=(d.1,d.2.1,d.2.2.1,eJ (bZ (dW x)) d.2.2.2.1,d.2.2.2.2):=by
    unfold eQ;rw[if_neg (by omega),if_neg (by omega),if_neg (by omega),if_neg (by omega),if_neg (by omega),if_neg (by omega),if_neg (by omega),if_pos h]
   rw[e];refine ⟨HY 7 rfl (by decide) (by decide) rfl ?_ rfl,?_⟩
   ·rw[ANH rfl];show (oB (eQ d x) n.1).isSome=_;rw[A6L ho hd,zF hn];unfold lv;rw[if_neg (λk=>by omega),if_pos ⟨h,rfl⟩];rfl
   ·rw[ed];show j3 (d.1,d.2.1,d.2.2.1,eM cJ (eJ (bZ (dW x)) d.2.2.2.1) n,d.2.2.2.2)=_;rw[x9 (tM o.2.2.1) hn]
  ·rw[AEB h] at ht;obtain ⟨n,hn⟩:=CL ht;have e:dQ d x=(9,bJ,bJ,bR,bL,bS,n,cK):=by
    unfold dQ;rw[if_neg (by omega),if_neg (by omega),if_neg (by omega),if_neg (by omega),if_neg (by omega),if_neg (by omega),if_neg (by omega),if_neg (by omega),if_neg (by omega),if_pos h,hn];rfl
   have ed:eQ d x=(d.1,d.2.1,d.2.2.1,d.2.2.2.1,eJ (bZ (dW x)) d.2.2.2.2.1,d.2.2.2.2.2):=by
    unfold eQ;rw[if_neg (by omega),if_neg (by omega),if_neg (by omega),if_neg (by omega),if_neg (by omega),if_neg (by omega),if_neg (by omega),if_neg (by omega),if_neg (by omega),if_pos h]
   rw[e];refine ⟨HY 9 rfl (by decide) (by decide) rfl ?_ rfl,?_⟩
   ·rw[YH rfl];show (eK (eQ d x) n.1).isSome=_;rw[A42 ho hd,zF hn];unfold lv;rw[if_neg (λk=>by omega),if_pos ⟨h,rfl⟩];rfl
   ·rw[ed];show j3 (d.1,d.2.1,d.2.2.1,d.2.2.2.1,eM cJ (eJ (bZ (dW x)) d.2.2.2.2.1) n,d.2.2.2.2.2)=_;rw[x9 (tM o.2.2.2.1) hn]
  ·rw[AED h] at ht;have hn:=ALJ ht;have e:dQ d x=(11,bJ,bJ,bR,bL,bS,noPack,dI x):=by
    unfold dQ;rw[if_neg (by omega),if_neg (by omega),if_neg (by omega),if_neg (by omega),if_neg (by omega),if_neg (by omega),if_neg (by omega),if_neg (by omega),if_neg (by omega),if_neg (by omega),if_neg (by omega)]
   have ed:eQ d x=(d.1,d.2.1,d.2.2.1,d.2.2.2.1,d.2.2.2.2.1,eJ (λn=>decide (n=dI x)) d.2.2.2.2.2):=by
    unfold eQ;rw[if_neg (by omega),if_neg (by omega),if_neg (by omega),if_neg (by omega),if_neg (by omega),if_neg (by omega),if_neg (by omega),if_neg (by omega),if_neg (by omega),if_neg (by omega),if_neg (by omega)]
   rw[e];refine ⟨HY 11 rfl (by decide) (by decide) rfl ?_ rfl,?_⟩
   ·rw[AEC rfl];show AL4 (eQ d x) (dI x)=_;rw[A38 ho hd];unfold ndv;rw[if_neg (λk=>by omega),if_pos ⟨h,rfl⟩];rfl
   ·rw[ed];show j3 (d.1,d.2.1,d.2.2.1,d.2.2.2.1,d.2.2.2.2.1,eM o8 (eJ (λn=>decide (n=dI x)) d.2.2.2.2.2) (dI x))=_;rw[SV (GP o.2.2.2.2) hn]
def AJO {b:Int} (hb:b<=1000) (hk:1<=x.1/\x.1<=12) (h:mP b d) (hx:x.1=3->1<=(bW x).2.1/\(bW x).2.1<=b+1):mP (b+1) (eQ d x):=λp hp=>by
 rw[w7 hk] at hp;have hp:p∈opP x d.2.2.1:=hp;unfold opP at hp;have go:p∈d.2.2.1->1<=p.2.1/\p.2.1<=b+1:=λg=>⟨(h p g).1,by have:=(h p g).2;omega⟩
 split at hp
 ·rename_i h3;rcases jT.1 hp with rfl|hp
  ·exact hx h3
  ·exact go hp
 split at hp
 ·exact go (D2 hp)
 split at hp
 ·rcases DY hp with hp|⟨q,hq,rfl⟩
  ·exact go hp
  ·obtain ⟨q1,q2⟩:=h q hq;show 1<=i64.wrap (q.2.1+1)/\i64.wrap (q.2.1+1)<=b+1;rw[bB _ (by omega) (by omega)];omega
 split at hp
 ·rcases DY hp with hp|⟨q,hq,rfl⟩
  ·exact go hp
  ·obtain ⟨q1,q2⟩:=h q hq;show 1<=q.2.1/\q.2.1<=b+1;omega
 ·exact go hp
def BKM (hk:1<=x.1/\x.1<=12) (h3:(dQ d x).1=3):x.1=4:=by
 have:x.1=1\/x.1=2\/x.1=3\/x.1=4\/x.1=5\/x.1=6\/x.1=7\/x.1=8\/x.1=9\/x.1=10\/x.1=11\/x.1=12:=by omega
 revert h3;rcases this with h|h|h|h|h|h|h|h|h|h|h|h<;>simp[dQ,h]
def AT4 {b:Int} (hb:b<1000) (hc:fX d m=0) (hd:sN d m x) (hs:j3 y=j3 (eQ d x)) (hy:mP b y) (hr:mP b d):bO y m (dQ d x)=(eQ y (dQ d x),0)/\j3 (eQ y (dQ d x))=j3 d/\mP (b+1) (eQ y (dQ d x)):=by
 obtain ⟨r,e⟩:=A61 hc hd;have r':=r.sim hs;have e':j3 (eQ y (dQ d x))=j3 d:=(BKE r.kind hs).trans e;have h3:(dQ d x).1=3->1<=(bW (dQ d x)).2.1/\(bW (dQ d x)).2.1<=b+1:=λh3=>by
  have hin:bW (dQ d x)∈(eQ (eQ d x) (dQ d x)).2.2.1:=by
   rw[w7 r.kind];show _∈opP _ _;unfold opP;rw[if_pos h3];exact jT.2 (.inl rfl)
  have h4:x.1=4:=BKM hd.kind h3;have ht:=hd.there;rw[YG h4,BFN (.inr (.inl h4))] at ht;obtain ⟨n,hn⟩:=CL (show (partOf d (dW x)).isSome=true from ht);have e4:bW (dQ d x)=n:=by
   unfold dQ;rw[if_neg (by omega),if_neg (by omega),if_neg (by omega),if_pos h4,hn];rfl
  rw[e4];obtain ⟨q1,q2⟩:=hr n (List.mem_of_find?_eq_some hn);omega
 have hR:mP (b+1) (eQ y (dQ d x)):=AJO (by omega) r.kind hy h3;refine ⟨r'.apply (AZR e' (λp hp=>?_) hc),e',hR⟩;obtain ⟨q1,q2⟩:=hR p hp;omega
end
def iZ:aA->List aQ->List aQ
 | _,[]=>[]
 | d,x::l=>dQ d x::iZ (eQ d x) l
def AR:∀ {l:List aQ} {d:aA},(iZ d l).length=l.length
 | [],_=>rfl
 | x::l,d=>by rw[iZ,List.length_cons,List.length_cons,AR]
section
variable {m : aE}
def BC0 {l:List aQ}:∀ {d:aA} {c:Int},mP c d->(c+l.length<=1000)->(∀ x∈l,(bW x).2.1<=c)->(cB m d l).2=0->mP (c+l.length) (cB m d l).1:=by
 induction l with
 | nil=>intro d c h _ _ _;simpa [cB] using h
 | cons x l ih =>
  intro d c h hl hx h0;rw[List.length_cons] at hl;obtain ⟨hd,e⟩:=rV h0;rw[e] at h0 ⊢;have h1:mP (c+1) (eQ d x):=AJO (by omega) hd.kind h λh3=>by
   have hin:bW x∈(eQ d x).2.2.1:=by
    rw[A93 hd];unfold opP;rw[if_pos h3];exact jT.2 (.inl rfl)
   have:=D0 hd.chk _ hin;have:=hx x am;omega
  have h2:=ih h1 (by omega) (λy hy=>by have:=hx y (List.mem_cons_of_mem _ hy);omega) h0;rw[List.length_cons,show c+((l.length+1:Nat):Int)=c+1+l.length by omega];exact h2
def A6Y {l:List aQ}:∀ {d y:aA} {b c:Int},fX d m=0->(cB m d l).2=0->j3 y=j3 (cB m d l).1->mP b y->mP c d->c+l.length<=b->b+l.length<=1000->(∀ x∈l,(bW x).2.1<=c)->(cB m y (iZ d l).reverse).2=0/\j3 (cB m y (iZ d l).reverse).1=j3 d/\mP (b+l.length) (cB m y (iZ d l).reverse).1:=by
 induction l with
 | nil=>intro d y b c _ _ hs hy _ _ _ _;exact ⟨rfl,hs,by simpa [cB,iZ] using hy⟩
 | cons x l ih =>
  intro d y b c hc h0 hs hy hr h1 h2 hx;rw[List.length_cons] at h1 h2 ⊢;obtain ⟨hd,e⟩:=rV h0;rw[e] at h0 hs;have hr1:mP (c+1) (eQ d x):=AJO (by omega) hd.kind hr λh3=>by
   have hin:bW x∈(eQ d x).2.2.1:=by
    rw[A93 hd];unfold opP;rw[if_pos h3];exact jT.2 (.inl rfl)
   have:=D0 hd.chk _ hin;have:=hx x am;omega
  obtain ⟨k1,k2,k3⟩:=ih (c:=c+1) hd.chk h0 hs hy hr1 (by omega) (by omega) λz hz=>by have:=hx z (List.mem_cons_of_mem _ hz);omega
  have hrb:mP (b+l.length) d:=λp hp=>by
   obtain ⟨q1,q2⟩:=hr p hp;omega
  obtain ⟨g1,g2,g3⟩:=AT4 (b:=b+l.length) (by omega) hc hd k2 k3 hrb;rw[iZ,List.reverse_cons,MU,if_pos k1];have e1:cB m (cB m y (iZ (eQ d x) l).reverse).1 [dQ d x]=(eQ (cB m y (iZ (eQ d x) l).reverse).1 (dQ d x),0):=by
   show (if (bO _ m (dQ d x)).2=0 then cB m (bO _ m (dQ d x)).1 [] else _)=_;rw[g1,if_pos rfl];rfl
  rw[e1];refine ⟨rfl,g2,?_⟩;rw[show b+((l.length+1:Nat):Int)=b+l.length+1 by omega];exact g3
end
def A60 {d:aA} {x:aQ} (hD:A0 d=true) (hK:zT d=true):dU (bW (dQ d x))=true/\dL (eF (dQ d x))=true:=by
 have z1:dU bL=true:=by decide +kernel
 have z2:dL noPack=true:=by decide +kernel
 have f1:∀ i,dU (found bL (partOf d i)).1=true:=λi=>by
  cases h:partOf d i with
  | none=>exact z1
  | some p=>exact List.all_eq_true.1 hD p (List.mem_of_find?_eq_some h)
 have f2:∀ i,dL (found noPack (eK d i)).1=true:=λi=>by
  cases h:eK d i with
  | none=>exact z2
  | some p=>exact List.all_eq_true.1 hK p (List.mem_of_find?_eq_some h)
 unfold dQ;by_cases h1:x.1=1
 ·rw[if_pos h1];exact ⟨z1,z2⟩
 rw[if_neg h1];by_cases h2:x.1=2
 ·rw[if_pos h2];exact ⟨z1,z2⟩
 rw[if_neg h2];by_cases h3:x.1=3
 ·rw[if_pos h3];exact ⟨z1,z2⟩
 rw[if_neg h3];by_cases h4:x.1=4
 ·rw[if_pos h4];exact ⟨f1 _,z2⟩
 rw[if_neg h4];by_cases h5:x.1=5
 ·rw[if_pos h5];exact ⟨f1 _,z2⟩
 rw[if_neg h5];by_cases h6:x.1=6
 ·rw[if_pos h6];exact ⟨z1,z2⟩
 rw[if_neg h6];by_cases h7:x.1=7
 ·rw[if_pos h7];exact ⟨z1,z2⟩
 rw[if_neg h7];by_cases h8:x.1=8
 ·rw[if_pos h8];exact ⟨z1,z2⟩
 rw[if_neg h8];by_cases h9:x.1=9
 ·rw[if_pos h9];exact ⟨z1,z2⟩
 rw[if_neg h9];by_cases h10:x.1=10
 ·rw[if_pos h10];exact ⟨z1,f2 _⟩
 rw[if_neg h10];by_cases h11:x.1=11
 ·rw[if_pos h11];exact ⟨z1,z2⟩
 rw[if_neg h11];exact ⟨z1,z2⟩
def A6W {l:List aQ}:∀ {d:aA},A0 d=true->zT d=true->(∀ x∈l,dU (bW x)=true/\dL (eF x)=true)->∀ u∈iZ d l,dU (bW u)=true/\dL (eF u)=true:=by
 induction l with
 | nil=>intro d _ _ _ u hu;cases hu
 | cons x l ih =>
  intro d hD hK hx u hu;rcases List.mem_cons.1 hu with rfl|hu
  ·exact A60 hD hK
  ·obtain ⟨p,k⟩:=hx x am;exact ih (NH hD p) (NI hK k) (λy hy=>hx y (List.mem_cons_of_mem _ hy)) u hu
end Go.Pv
namespace Go.Pv
open Go Go.Proofs IntKind
def zEd:aQ:=(0,bJ,bJ,bR,bL,bS,noPack,cK)
noncomputable def Q2 (d:aA) (m:aE) (x:aQ):aQ×Int:=if (bO d m x).2=0 then (dQ d x,0) else (zEd,(bO d m x).2)
variable {m:aE}
def A3F {d:aA} {x:aQ} (h:¬ (bO d m x).2=0):Q2 d m x=(zEd,(bO d m x).2):=if_neg h
def A3G {d:aA} {x:aQ} (h:(bO d m x).2=0):Q2 d m x=(dQ d x,0):=if_pos h
def BII {d:aA} {i:iII} {K:fQ×Bool->Prop} (h:K (found bR (dR d i))):aM [(true,bC),(false,.bool)] (sU [aF true aB d,pPQ i]) K:=aK (s:=[(true,bC),(false,.bool)]) (HB ..) h
def BKC {d:aA} {i:iII} {K:iH×Bool->Prop} (h:K (found bS (oB d i))):aM [(true,bI),(false,.bool)] (sW [aF true aB d,pPQ i]) K:=aK (s:=[(true,bI),(false,.bool)]) (HD ..) h
def AJG {d:aA} {i:iII} (c:o5 d=true) {K:bD×Bool->Prop} (h:K (found bL (partOf d i))):aM [(true,aP),(false,.bool)] (fZ [aF true aB d,pPQ i]) K:=aK (s:=[(true,aP),(false,.bool)]) ((nW ..).trans (by unfold kN;dsimp only;rw[(eV c).A0];rfl)) h
def BJ1 {d:aA} {i:iII} (c:o5 d=true) {K:bA×Bool->Prop} (h:K (found noPack (eK d i))):aM [(true,aH),(false,.bool)] (sV [aF true aB d,pPQ i]) K:=aK (s:=[(true,aH),(false,.bool)]) ((HC ..).trans (O7 _ (eV c).zT)) h
def TB {d:aA} (c:o5 d=true) (i:iII):dU (found bL (partOf d i)).1=true:=by
 cases h:partOf d i with
 | none=>rfl
 | some p=>exact List.all_eq_true.1 (eV c).A0 p (List.mem_of_find?_eq_some h)
def ATF {d:aA} (c:o5 d=true) (i:iII):dL (found noPack (eK d i)).1=true:=by
 cases h:eK d i with
 | none=>rfl
 | some p=>exact List.all_eq_true.1 (eV c).zT p (List.mem_of_find?_eq_some h)
def RQ {p:bD} (h:dU p=true) {K:bD->Prop} (hk:K p):aM [(true,aP)] (e6 [aF true aP p]) K:=aK (s:=[(true,aP)]) ((pM ..).trans (by unfold iO;rw[h])) hk
def AQA {p:bA} (h:dL p=true) {K:bA->Prop} (hk:K p):aM [(true,aH)] (jZ [aF true aH p]) K:=aK (s:=[(true,aH)]) ((vE ..).trans (by unfold jM;rw[h])) hk
noncomputable def IJ (k:Int) (x:fR):Option T:=match okX x.1 (k,x.2.2) with
 | true=>some (Sh.enc [(true,aJ),(false,.int .i64)] (Q2 x.1 x.2.1 (k,x.2.2)))
 | false=>none
def pB {k:Int} {d:aA} {x:bV} {r:T} (h:IJ k (d,m,x)=some r) {REST:aA->Prop} (hr:o5 d=true->r=Sh.enc [(true,aJ),(false,.int .i64)] (dQ d (k,x),0)->REST d) :
  aM [(true,aB),(false,.int .i64)] (dA [aF true aB d,aF true aI m,aF true aJ (k,x)]) λ(y0:aA×Int)=>aD (!decide (y0.2=0)) (T.bY [aF true aJ zEd,T.v (Value.int .i64 y0.2)]=r) (aM [(true,aB)] (cI [aF true aB d]) REST):=by
 obtain ⟨hp,rfl⟩:=l8 h;obtain ⟨hc,ho1,ho2⟩:=vP hp;refine aK (s:=[(true,aB),(false,.int .i64)]) (y:=bO d m (k,x)) (DX hc ho1 ho2) ?_;refine lK (λhe=>?_) λhe=>?_
 ·rw[show Q2 d m (k,x)=_ from A3F he];rfl
 ·exact aK (s:=[(true,aB)]) (y:=d) ((qC ..).trans (fF hc)) (hr hc (by rw[show Q2 d m (k,x)=_ from A3G he]))
def K6 (a0:aA) (a1:aE) (a2:bV):List T:=[aF true aB a0,aF true aI a1,aF true aJ (1,a2)]
noncomputable def AUK:Env:=Env.of [(66,.pure dA),(69,.pure cI)]
def BDI:FuncId->Hint:=λ_=>a6
def A79:aR Tryz.prog AUK:=.cons gU (.cons e9 (.nil _))
def BR2:T:=aF true aJ (0,bJ,bJ,bR,bL,bS,noPack,cK)
def BSA(R:T->Prop)(y0:aA×Int):Prop:=R (T.bY [BR2, pPP y0.2])
def AW2(a0:aA)(a1:aE)(a2:bV)(R:T->Prop):Prop:=aM BR1 (dA [aF true aB a0,aF true aI a1, (aF true aJ (1,a2))]) λ(y0:aA×Int)=>aD (!decide (y0.2=0)) (BSA R y0) (aM [(true,aB)] (cI [aF true aB a0]) λ(y1:aA)=>R (T.bY [(aF true aJ (2,a2.2.2.1.1,bJ,bR,bL,bS,noPack,cK)), pPP 0]))
def AW3 ( a0 a1 a2 R):dM bX Tryz.prog AUK BDI 8 44 (K6 a0 a1 a2) R=AW2 a0 a1 a2 R:=by kernel_rfl
noncomputable def AKJ:fR->Option T:=IJ 1
def ANW (x y:fR) (h:K6 x.1 x.2.1 x.2.2=K6 y.1 y.2.1 y.2.2):x=y:=eT 1 x y h
noncomputable def A1Z:List T->Option (T):=gA (λ(x:aA×aE×bV)=>K6 x.1 x.2.1 x.2.2) AKJ
def A10 (a0:aA) (a1:aE) (a2:bV):A1Z (K6 a0 a1 a2)=AKJ (a0,a1,a2):=dY (A:=(λ(x:aA×aE×bV)=>K6 x.1 x.2.1 x.2.2)) ANW (a0,a1,a2)
def BI2 (h:∀ (a0:aA) (a1:aE) (a2:bV) (r:T),AKJ (a0,a1,a2)=some r->(∀ t∈K6 a0 a1 a2,Bd t)->AW2 a0 a1 a2 (λy=>y=r)):aO Tryz.prog 44 A1Z :=
 cE (E:=AUK) (Hs:=BDI) A79 aV aY (aN rfl) 8 ⟨_,_,Tryz.func44,rfl⟩ λx r h1 h2=>by
  rw[AW3];exact h x.1 x.2.1 x.2.2 r h1 h2
def A0O:aO Tryz.prog 44 A1Z:=BI2 λd m x r h hb=>by
 unfold AW2 BSA BR2 BR1;exact pB h λhc hr=>by subst hr;exact rfl
def K8 (a0:aA) (a1:aE) (a2:bV):List T:=[aF true aB a0,aF true aI a1,aF true aJ (2,a2)]
noncomputable def AUL:Env:=Env.of [(149,.pure sU),(66,.pure dA),(69,.pure cI)]
def BDJ:FuncId->Hint:=λ_=>a6
def A8A:aR Tryz.prog AUL:=.cons VF (.cons gU (.cons e9 (.nil _)))
def BSF(y1:aA)(a2:bV):List T:=[aF true aB y1,pPQ a2.1]
def AW4(a0:aA)(a1:aE)(a2:bV)(R:T->Prop):Prop:=aM BR1 (dA [aF true aB a0,aF true aI a1, (aF true aJ (2,a2))]) λ(y0:aA×Int)=>aD (!decide (y0.2=0)) (BSA R y0) (aM [(true,aB)] (cI [aF true aB a0]) λ(y1:aA)=>aM [(true,bC),(false,Sy.bool)] (sU (BSF y1 a2)) λ(y2:fQ×Bool)=>R (T.bY [(aF true aJ (1,bJ,bJ,y2.1,bL,bS,noPack,cK)), pPP 0]))
def AW5 ( a0 a1 a2 R):dM bX Tryz.prog AUL BDJ 8 44 (K8 a0 a1 a2) R=AW4 a0 a1 a2 R:=by kernel_rfl
noncomputable def AKK:fR->Option T:=IJ 2
def ANX (x y:fR) (h:K8 x.1 x.2.1 x.2.2=K8 y.1 y.2.1 y.2.2):x=y:=eT 2 x y h
noncomputable def A11:List T->Option (T):=gA (λ(x:aA×aE×bV)=>K8 x.1 x.2.1 x.2.2) AKK
def A12 (a0:aA) (a1:aE) (a2:bV):A11 (K8 a0 a1 a2)=AKK (a0,a1,a2):=dY (A:=(λ(x:aA×aE×bV)=>K8 x.1 x.2.1 x.2.2)) ANX (a0,a1,a2)
def BI3 (h:∀ (a0:aA) (a1:aE) (a2:bV) (r:T),AKK (a0,a1,a2)=some r->(∀ t∈K8 a0 a1 a2,Bd t)->AW4 a0 a1 a2 (λy=>y=r)):aO Tryz.prog 44 A11 :=
 cE (E:=AUL) (Hs:=BDJ) A8A aV aY (aN rfl) 8 ⟨_,_,Tryz.func44,rfl⟩ λx r h1 h2=>by
  rw[AW5];exact h x.1 x.2.1 x.2.2 r h1 h2
def BGP:aO Tryz.prog 44 A11:=BI3 λd m x r h hb=>by
 unfold AW4 BSF BSA BR2 BR1;exact pB h λhc hr=>by subst hr;exact BII rfl
def K9 (a0:aA) (a1:aE) (a2:bV):List T:=[aF true aB a0,aF true aI a1,aF true aJ (3,a2)]
noncomputable def AUM:Env:=Env.of [(66,.pure dA),(69,.pure cI)]
def BDK:FuncId->Hint:=λ_=>a6
def A8B:aR Tryz.prog AUM:=.cons gU (.cons e9 (.nil _))
def AW6(a0:aA)(a1:aE)(a2:bV)(R:T->Prop):Prop:=aM BR1 (dA [aF true aB a0,aF true aI a1, (aF true aJ (3,a2))]) λ(y0:aA×Int)=>aD (!decide (y0.2=0)) (BSA R y0) (aM [(true,aB)] (cI [aF true aB a0]) λ(y1:aA)=>R (T.bY [(aF true aJ (4,a2.2.2.2.1.1,bJ,bR,bL,bS,noPack,cK)), pPP 0]))
def AW7 ( a0 a1 a2 R):dM bX Tryz.prog AUM BDK 8 44 (K9 a0 a1 a2) R=AW6 a0 a1 a2 R:=by kernel_rfl
noncomputable def AKL:fR->Option T:=IJ 3
def ANY (x y:fR) (h:K9 x.1 x.2.1 x.2.2=K9 y.1 y.2.1 y.2.2):x=y:=eT 3 x y h
noncomputable def A13:List T->Option (T):=gA (λ(x:aA×aE×bV)=>K9 x.1 x.2.1 x.2.2) AKL
def A14 (a0:aA) (a1:aE) (a2:bV):A13 (K9 a0 a1 a2)=AKL (a0,a1,a2):=dY (A:=(λ(x:aA×aE×bV)=>K9 x.1 x.2.1 x.2.2)) ANY (a0,a1,a2)
def BI4 (h:∀ (a0:aA) (a1:aE) (a2:bV) (r:T),AKL (a0,a1,a2)=some r->(∀ t∈K9 a0 a1 a2,Bd t)->AW6 a0 a1 a2 (λy=>y=r)):aO Tryz.prog 44 A13 :=
 cE (E:=AUM) (Hs:=BDK) A8B aV aY (aN rfl) 8 ⟨_,_,Tryz.func44,rfl⟩ λx r h1 h2=>by
  rw[AW7];exact h x.1 x.2.1 x.2.2 r h1 h2
def BGQ:aO Tryz.prog 44 A13:=BI4 λd m x r h hb=>by
 unfold AW6 BSA BR2 BR1;exact pB h λhc hr=>by subst hr;exact rfl
def LA (a0:aA) (a1:aE) (a2:bV):List T:=[aF true aB a0,aF true aI a1,aF true aJ (4,a2)]
noncomputable def AUN:Env:=Env.of [(94,.pure fZ),(108,.pure e6),(66,.pure dA),(69,.pure cI)]
def BDL:FuncId->Hint:=λ_=>a6
def A8C:aR Tryz.prog AUN:=.cons qV (.cons nU (.cons gU (.cons e9 (.nil _))))
def BR8:Sh:=[(true,aP),(false,Sy.bool)]
def AW8(a0:aA)(a1:aE)(a2:bV)(R:T->Prop):Prop:=aM BR1 (dA [aF true aB a0,aF true aI a1, (aF true aJ (4,a2))]) λ(y0:aA×Int)=>aD (!decide (y0.2=0)) (BSA R y0) (aM [(true,aB)] (cI [aF true aB a0]) λ(y1:aA)=>aM BR8 (fZ (BSF y1 a2)) λ(y2:bD×Bool)=>aM [(true,aP)] (e6 [aF true aP y2.1]) λ(y3:bD)=>R (T.bY [(aF true aJ (3,bJ,bJ,bR,y3,bS,noPack,cK)), pPP 0]))
def AW9 ( a0 a1 a2 R):dM bX Tryz.prog AUN BDL 8 44 (LA a0 a1 a2) R=AW8 a0 a1 a2 R:=by kernel_rfl
noncomputable def AKM:fR->Option T:=IJ 4
def ANZ (x y:fR) (h:LA x.1 x.2.1 x.2.2=LA y.1 y.2.1 y.2.2):x=y:=eT 4 x y h
noncomputable def A15:List T->Option (T):=gA (λ(x:aA×aE×bV)=>LA x.1 x.2.1 x.2.2) AKM
def A16 (a0:aA) (a1:aE) (a2:bV):A15 (LA a0 a1 a2)=AKM (a0,a1,a2):=dY (A:=(λ(x:aA×aE×bV)=>LA x.1 x.2.1 x.2.2)) ANZ (a0,a1,a2)
def BI5 (h:∀ (a0:aA) (a1:aE) (a2:bV) (r:T),AKM (a0,a1,a2)=some r->(∀ t∈LA a0 a1 a2,Bd t)->AW8 a0 a1 a2 (λy=>y=r)):aO Tryz.prog 44 A15 :=
 cE (E:=AUN) (Hs:=BDL) A8C aV aY (aN rfl) 8 ⟨_,_,Tryz.func44,rfl⟩ λx r h1 h2=>by
  rw[AW9];exact h x.1 x.2.1 x.2.2 r h1 h2
def BGR:aO Tryz.prog 44 A15:=BI5 λd m x r h hb=>by
 unfold AW8 BSF BSA BR8 BR2 BR1;exact pB h λhc hr=>by subst hr;exact AJG hc (RQ (TB hc _) rfl)
def LB (a0:aA) (a1:aE) (a2:bV):List T:=[aF true aB a0,aF true aI a1,aF true aJ (5,a2)]
noncomputable def AUO:Env:=Env.of [(94,.pure fZ),(108,.pure e6),(66,.pure dA),(69,.pure cI)]
def BDM:FuncId->Hint:=λ_=>a6
def A8D:aR Tryz.prog AUO:=.cons qV (.cons nU (.cons gU (.cons e9 (.nil _))))
def AXA(a0:aA)(a1:aE)(a2:bV)(R:T->Prop):Prop:=aM BR1 (dA [aF true aB a0,aF true aI a1, (aF true aJ (5,a2))]) λ(y0:aA×Int)=>aD (!decide (y0.2=0)) (BSA R y0) (aM [(true,aB)] (cI [aF true aB a0]) λ(y1:aA)=>aM BR8 (fZ [aF true aB y1,pPQ a2.2.2.2.1.1]) λ(y2:bD×Bool)=>aM [(true,aP)] (e6 [T.agg [pPQ y2.1.1,pPP 0, pPP y2.1.2.2.1, pPQ y2.1.2.2.2.1, pPQ y2.1.2.2.2.2.1, pPP y2.1.2.2.2.2.2.1, T.sl false (List.map aC.enc y2.1.2.2.2.2.2.2.1.1), T.sl false (List.map aC.li.enc y2.1.2.2.2.2.2.2.1.2), pPQ y2.1.2.2.2.2.2.2.2.1, pPP y2.1.2.2.2.2.2.2.2.2.1, pPP y2.1.2.2.2.2.2.2.2.2.2.1, pPP y2.1.2.2.2.2.2.2.2.2.2.2.1.1, pPP y2.1.2.2.2.2.2.2.2.2.2.2.1.2.1, pPP y2.1.2.2.2.2.2.2.2.2.2.2.1.2.2, pPP y2.1.2.2.2.2.2.2.2.2.2.2.2.1.1, pPP y2.1.2.2.2.2.2.2.2.2.2.2.2.1.2.1, pPP y2.1.2.2.2.2.2.2.2.2.2.2.2.1.2.2, pPP y2.1.2.2.2.2.2.2.2.2.2.2.2.2]]) λ(y3:bD)=>R (T.bY [(aF true aJ (5,bJ,bJ,bR,y3,bS,noPack,cK)), pPP 0]))
def AXB ( a0 a1 a2 R):dM bX Tryz.prog AUO BDM 8 44 (LB a0 a1 a2) R=AXA a0 a1 a2 R:=by kernel_rfl
noncomputable def AKN:fR->Option T:=IJ 5
def AN0 (x y:fR) (h:LB x.1 x.2.1 x.2.2=LB y.1 y.2.1 y.2.2):x=y:=eT 5 x y h
noncomputable def A17:List T->Option (T):=gA (λ(x:aA×aE×bV)=>LB x.1 x.2.1 x.2.2) AKN
def A18 (a0:aA) (a1:aE) (a2:bV):A17 (LB a0 a1 a2)=AKN (a0,a1,a2):=dY (A:=(λ(x:aA×aE×bV)=>LB x.1 x.2.1 x.2.2)) AN0 (a0,a1,a2)
def BI6 (h:∀ (a0:aA) (a1:aE) (a2:bV) (r:T),AKN (a0,a1,a2)=some r->(∀ t∈LB a0 a1 a2,Bd t)->AXA a0 a1 a2 (λy=>y=r)):aO Tryz.prog 44 A17 :=
 cE (E:=AUO) (Hs:=BDM) A8D aV aY (aN rfl) 8 ⟨_,_,Tryz.func44,rfl⟩ λx r h1 h2=>by
  rw[AXB];exact h x.1 x.2.1 x.2.2 r h1 h2
def BGS:aO Tryz.prog 44 A17:=BI6 λd m x r h hb=>by
 unfold AXA BSA BR8 BR2 BR1;exact pB h λhc hr=>by subst hr;exact AJG hc (RQ (p:=WR _) (TB hc _) rfl)
def LC (a0:aA) (a1:aE) (a2:bV):List T:=[aF true aB a0,aF true aI a1,aF true aJ (6,a2)]
noncomputable def AUP:Env:=Env.of [(94,.pure fZ),(66,.pure dA),(69,.pure cI)]
def BDN:FuncId->Hint:=λ_=>a6
def A8E:aR Tryz.prog AUP:=.cons qV (.cons gU (.cons e9 (.nil _)))
def AXC(a0:aA)(a1:aE)(a2:bV)(R:T->Prop):Prop:=aM BR1 (dA [aF true aB a0,aF true aI a1, (aF true aJ (6,a2))]) λ(y0:aA×Int)=>aD (!decide (y0.2=0)) (BSA R y0) (aM [(true,aB)] (cI [aF true aB a0]) λ(y1:aA)=>aM BR8 (fZ (BSF y1 a2)) λ(y2:bD×Bool)=>R (T.bY [(aF true aJ (6,a2.1,y2.1.2.2.2.1,bR,bL,bS,noPack,cK)), pPP 0]))
def AXD ( a0 a1 a2 R):dM bX Tryz.prog AUP BDN 8 44 (LC a0 a1 a2) R=AXC a0 a1 a2 R:=by kernel_rfl
noncomputable def AKO:fR->Option T:=IJ 6
def AN1 (x y:fR) (h:LC x.1 x.2.1 x.2.2=LC y.1 y.2.1 y.2.2):x=y:=eT 6 x y h
noncomputable def A19:List T->Option (T):=gA (λ(x:aA×aE×bV)=>LC x.1 x.2.1 x.2.2) AKO
def A2A (a0:aA) (a1:aE) (a2:bV):A19 (LC a0 a1 a2)=AKO (a0,a1,a2):=dY (A:=(λ(x:aA×aE×bV)=>LC x.1 x.2.1 x.2.2)) AN1 (a0,a1,a2)
def BI7 (h:∀ (a0:aA) (a1:aE) (a2:bV) (r:T),AKO (a0,a1,a2)=some r->(∀ t∈LC a0 a1 a2,Bd t)->AXC a0 a1 a2 (λy=>y=r)):aO Tryz.prog 44 A19 :=
 cE (E:=AUP) (Hs:=BDN) A8E aV aY (aN rfl) 8 ⟨_,_,Tryz.func44,rfl⟩ λx r h1 h2=>by
  rw[AXD];exact h x.1 x.2.1 x.2.2 r h1 h2
def BGT:aO Tryz.prog 44 A19:=BI7 λd m x r h hb=>by
 unfold AXC BSF BSA BR8 BR2 BR1;exact pB h λhc hr=>by subst hr;exact AJG hc rfl
def LD (a0:aA) (a1:aE) (a2:bV):List T:=[aF true aB a0,aF true aI a1,aF true aJ (7,a2)]
noncomputable def AUQ:Env:=Env.of [(66,.pure dA),(69,.pure cI)]
def BDO:FuncId->Hint:=λ_=>a6
def A8F:aR Tryz.prog AUQ:=.cons gU (.cons e9 (.nil _))
def AXE(a0:aA)(a1:aE)(a2:bV)(R:T->Prop):Prop:=aM BR1 (dA [aF true aB a0,aF true aI a1, (aF true aJ (7,a2))]) λ(y0:aA×Int)=>aD (!decide (y0.2=0)) (BSA R y0) (aM [(true,aB)] (cI [aF true aB a0]) λ(y1:aA)=>R (T.bY [(aF true aJ (8,a2.2.2.2.2.1.1,bJ,bR,bL,bS,noPack,cK)), pPP 0]))
def AXF ( a0 a1 a2 R):dM bX Tryz.prog AUQ BDO 8 44 (LD a0 a1 a2) R=AXE a0 a1 a2 R:=by kernel_rfl
noncomputable def AKP:fR->Option T:=IJ 7
def AN2 (x y:fR) (h:LD x.1 x.2.1 x.2.2=LD y.1 y.2.1 y.2.2):x=y:=eT 7 x y h
noncomputable def A2B:List T->Option (T):=gA (λ(x:aA×aE×bV)=>LD x.1 x.2.1 x.2.2) AKP
def A2C (a0:aA) (a1:aE) (a2:bV):A2B (LD a0 a1 a2)=AKP (a0,a1,a2):=dY (A:=(λ(x:aA×aE×bV)=>LD x.1 x.2.1 x.2.2)) AN2 (a0,a1,a2)
def BI8 (h:∀ (a0:aA) (a1:aE) (a2:bV) (r:T),AKP (a0,a1,a2)=some r->(∀ t∈LD a0 a1 a2,Bd t)->AXE a0 a1 a2 (λy=>y=r)):aO Tryz.prog 44 A2B :=
 cE (E:=AUQ) (Hs:=BDO) A8F aV aY (aN rfl) 8 ⟨_,_,Tryz.func44,rfl⟩ λx r h1 h2=>by
  rw[AXF];exact h x.1 x.2.1 x.2.2 r h1 h2
def BGU:aO Tryz.prog 44 A2B:=BI8 λd m x r h hb=>by
 unfold AXE BSA BR2 BR1;exact pB h λhc hr=>by subst hr;exact rfl
def LF (a0:aA) (a1:aE) (a2:bV):List T:=[aF true aB a0,aF true aI a1,aF true aJ (8,a2)]
noncomputable def AUR:Env:=Env.of [(197,.pure sW),(66,.pure dA),(69,.pure cI)]
def BDP:FuncId->Hint:=λ_=>a6
def A8G:aR Tryz.prog AUR:=.cons VH (.cons gU (.cons e9 (.nil _)))
def AXG(a0:aA)(a1:aE)(a2:bV)(R:T->Prop):Prop:=aM BR1 (dA [aF true aB a0,aF true aI a1, (aF true aJ (8,a2))]) λ(y0:aA×Int)=>aD (!decide (y0.2=0)) (BSA R y0) (aM [(true,aB)] (cI [aF true aB a0]) λ(y1:aA)=>aM [(true,bI),(false,Sy.bool)] (sW (BSF y1 a2)) λ(y2:iH×Bool)=>R (T.bY [(aF true aJ (7,bJ,bJ,bR,bL,y2.1,noPack,cK)), pPP 0]))
def AXH ( a0 a1 a2 R):dM bX Tryz.prog AUR BDP 8 44 (LF a0 a1 a2) R=AXG a0 a1 a2 R:=by kernel_rfl
noncomputable def AKQ:fR->Option T:=IJ 8
def AN3 (x y:fR) (h:LF x.1 x.2.1 x.2.2=LF y.1 y.2.1 y.2.2):x=y:=eT 8 x y h
noncomputable def A2D:List T->Option (T):=gA (λ(x:aA×aE×bV)=>LF x.1 x.2.1 x.2.2) AKQ
def A2E (a0:aA) (a1:aE) (a2:bV):A2D (LF a0 a1 a2)=AKQ (a0,a1,a2):=dY (A:=(λ(x:aA×aE×bV)=>LF x.1 x.2.1 x.2.2)) AN3 (a0,a1,a2)
def BI9 (h:∀ (a0:aA) (a1:aE) (a2:bV) (r:T),AKQ (a0,a1,a2)=some r->(∀ t∈LF a0 a1 a2,Bd t)->AXG a0 a1 a2 (λy=>y=r)):aO Tryz.prog 44 A2D :=
 cE (E:=AUR) (Hs:=BDP) A8G aV aY (aN rfl) 8 ⟨_,_,Tryz.func44,rfl⟩ λx r h1 h2=>by
  rw[AXH];exact h x.1 x.2.1 x.2.2 r h1 h2
def BGV:aO Tryz.prog 44 A2D:=BI9 λd m x r h hb=>by
 unfold AXG BSF BSA BR2 BR1;exact pB h λhc hr=>by subst hr;exact BKC rfl
def LG (a0:aA) (a1:aE) (a2:bV):List T:=[aF true aB a0,aF true aI a1,aF true aJ (9,a2)]
noncomputable def AUS:Env:=Env.of [(66,.pure dA),(69,.pure cI)]
def BDQ:FuncId->Hint:=λ_=>a6
def A8H:aR Tryz.prog AUS:=.cons gU (.cons e9 (.nil _))
def AXI(a0:aA)(a1:aE)(a2:bV)(R:T->Prop):Prop:=aM BR1 (dA [aF true aB a0,aF true aI a1, (aF true aJ (9,a2))]) λ(y0:aA×Int)=>aD (!decide (y0.2=0)) (BSA R y0) (aM [(true,aB)] (cI [aF true aB a0]) λ(y1:aA)=>R (T.bY [(aF true aJ (10,a2.2.2.2.2.2.1.1,bJ,bR,bL,bS,noPack,cK)), pPP 0]))
def AXJ ( a0 a1 a2 R):dM bX Tryz.prog AUS BDQ 8 44 (LG a0 a1 a2) R=AXI a0 a1 a2 R:=by kernel_rfl
noncomputable def AKR:fR->Option T:=IJ 9
def AN4 (x y:fR) (h:LG x.1 x.2.1 x.2.2=LG y.1 y.2.1 y.2.2):x=y:=eT 9 x y h
noncomputable def A2F:List T->Option (T):=gA (λ(x:aA×aE×bV)=>LG x.1 x.2.1 x.2.2) AKR
def A2G (a0:aA) (a1:aE) (a2:bV):A2F (LG a0 a1 a2)=AKR (a0,a1,a2):=dY (A:=(λ(x:aA×aE×bV)=>LG x.1 x.2.1 x.2.2)) AN4 (a0,a1,a2)
def BJA (h:∀ (a0:aA) (a1:aE) (a2:bV) (r:T),AKR (a0,a1,a2)=some r->(∀ t∈LG a0 a1 a2,Bd t)->AXI a0 a1 a2 (λy=>y=r)):aO Tryz.prog 44 A2F :=
 cE (E:=AUS) (Hs:=BDQ) A8H aV aY (aN rfl) 8 ⟨_,_,Tryz.func44,rfl⟩ λx r h1 h2=>by
  rw[AXJ];exact h x.1 x.2.1 x.2.2 r h1 h2
def BGW:aO Tryz.prog 44 A2F:=BJA λd m x r h hb=>by
 unfold AXI BSA BR2 BR1;exact pB h λhc hr=>by subst hr;exact rfl
def BR (a0:aA) (a1:aE) (a2:bV):List T:=[aF true aB a0,aF true aI a1,aF true aJ (10,a2)]
noncomputable def AEV:Env:=Env.of [(217,.pure sV),(109,.pure jZ),(66,.pure dA),(69,.pure cI)]
def AYK:FuncId->Hint:=λ_=>a6
def AVZ:aR Tryz.prog AEV:=.cons VG (.cons CA (.cons gU (.cons e9 (.nil _))))
def AF8(a0:aA)(a1:aE)(a2:bV)(R:T->Prop):Prop:=aM BR1 (dA [aF true aB a0,aF true aI a1, (aF true aJ (10,a2))]) λ(y0:aA×Int)=>aD (!decide (y0.2=0)) (BSA R y0) (aM [(true,aB)] (cI [aF true aB a0]) λ(y1:aA)=>aM [(true,aH),(false,Sy.bool)] (sV (BSF y1 a2)) λ(y2:bA×Bool)=>aM [(true,aH)] (jZ [aF true aH y2.1]) λ(y3:bA)=>R (T.bY [(aF true aJ (9,bJ,bJ,bR,bL,bS,y3,cK)), pPP 0]))
def APC ( a0 a1 a2 R):dM bX Tryz.prog AEV AYK 8 44 (BR a0 a1 a2) R=AF8 a0 a1 a2 R:=by kernel_rfl
noncomputable def XO:fR->Option T:=IJ 10
def AEK (x y:fR) (h:BR x.1 x.2.1 x.2.2=BR y.1 y.2.1 y.2.2):x=y:=eT 10 x y h
noncomputable def AH5:List T->Option (T):=gA (λ(x:aA×aE×bV)=>BR x.1 x.2.1 x.2.2) XO
def ARQ (a0:aA) (a1:aE) (a2:bV):AH5 (BR a0 a1 a2)=XO (a0,a1,a2):=dY (A:=(λ(x:aA×aE×bV)=>BR x.1 x.2.1 x.2.2)) AEK (a0,a1,a2)
def BCA (h:∀ (a0:aA) (a1:aE) (a2:bV) (r:T),XO (a0,a1,a2)=some r->(∀ t∈BR a0 a1 a2,Bd t)->AF8 a0 a1 a2 (λy=>y=r)):aO Tryz.prog 44 AH5 :=
 cE (E:=AEV) (Hs:=AYK) AVZ aV aY (aN rfl) 8 ⟨_,_,Tryz.func44,rfl⟩ λx r h1 h2=>by
  rw[APC];exact h x.1 x.2.1 x.2.2 r h1 h2
def BA0:aO Tryz.prog 44 AH5:=BCA λd m x r h hb=>by
 unfold AF8 BSF BSA BR2 BR1;exact pB h λhc hr=>by subst hr;exact BJ1 hc (AQA (ATF hc _) rfl)
def BS (a0:aA) (a1:aE) (a2:bV):List T:=[aF true aB a0,aF true aI a1,aF true aJ (11,a2)]
noncomputable def AEW:Env:=Env.of [(66,.pure dA),(69,.pure cI)]
def AYL:FuncId->Hint:=λ_=>a6
def AV0:aR Tryz.prog AEW:=.cons gU (.cons e9 (.nil _))
def AF9(a0:aA)(a1:aE)(a2:bV)(R:T->Prop):Prop:=aM BR1 (dA [aF true aB a0,aF true aI a1, (aF true aJ (11,a2))]) λ(y0:aA×Int)=>aD (!decide (y0.2=0)) (BSA R y0) (aM [(true,aB)] (cI [aF true aB a0]) λ(y1:aA)=>R (T.bY [(aF true aJ (12,bJ,bJ,bR,bL,bS,noPack,a2.2.2.2.2.2.2)), pPP 0]))
def APD ( a0 a1 a2 R):dM bX Tryz.prog AEW AYL 8 44 (BS a0 a1 a2) R=AF9 a0 a1 a2 R:=by kernel_rfl
noncomputable def XP:fR->Option T:=IJ 11
def AEL (x y:fR) (h:BS x.1 x.2.1 x.2.2=BS y.1 y.2.1 y.2.2):x=y:=eT 11 x y h
noncomputable def AH6:List T->Option (T):=gA (λ(x:aA×aE×bV)=>BS x.1 x.2.1 x.2.2) XP
def ARR (a0:aA) (a1:aE) (a2:bV):AH6 (BS a0 a1 a2)=XP (a0,a1,a2):=dY (A:=(λ(x:aA×aE×bV)=>BS x.1 x.2.1 x.2.2)) AEL (a0,a1,a2)
def BCB (h:∀ (a0:aA) (a1:aE) (a2:bV) (r:T),XP (a0,a1,a2)=some r->(∀ t∈BS a0 a1 a2,Bd t)->AF9 a0 a1 a2 (λy=>y=r)):aO Tryz.prog 44 AH6 :=
 cE (E:=AEW) (Hs:=AYL) AV0 aV aY (aN rfl) 8 ⟨_,_,Tryz.func44,rfl⟩ λx r h1 h2=>by
  rw[APD];exact h x.1 x.2.1 x.2.2 r h1 h2
def BA1:aO Tryz.prog 44 AH6:=BCB λd m x r h hb=>by
 unfold AF9 BSA BR2 BR1;exact pB h λhc hr=>by subst hr;exact rfl
def BT (a0:aA) (a1:aE) (a2:bV):List T:=[aF true aB a0,aF true aI a1,aF true aJ (12,a2)]
noncomputable def AEX:Env:=Env.of [(66,.pure dA),(69,.pure cI)]
def AYM:FuncId->Hint:=λ_=>a6
def AV1:aR Tryz.prog AEX:=.cons gU (.cons e9 (.nil _))
def AGA(a0:aA)(a1:aE)(a2:bV)(R:T->Prop):Prop:=aM BR1 (dA [aF true aB a0,aF true aI a1, (aF true aJ (12,a2))]) λ(y0:aA×Int)=>aD (!decide (y0.2=0)) (BSA R y0) (aM [(true,aB)] (cI [aF true aB a0]) λ(y1:aA)=>R (T.bY [(aF true aJ (11,bJ,bJ,bR,bL,bS,noPack,a2.2.2.2.2.2.2)), pPP 0]))
def APE ( a0 a1 a2 R):dM bX Tryz.prog AEX AYM 8 44 (BT a0 a1 a2) R=AGA a0 a1 a2 R:=by kernel_rfl
noncomputable def XQ:fR->Option T:=IJ 12
def AEM (x y:fR) (h:BT x.1 x.2.1 x.2.2=BT y.1 y.2.1 y.2.2):x=y:=eT 12 x y h
noncomputable def AH7:List T->Option (T):=gA (λ(x:aA×aE×bV)=>BT x.1 x.2.1 x.2.2) XQ
def ARS (a0:aA) (a1:aE) (a2:bV):AH7 (BT a0 a1 a2)=XQ (a0,a1,a2):=dY (A:=(λ(x:aA×aE×bV)=>BT x.1 x.2.1 x.2.2)) AEM (a0,a1,a2)
def BCC (h:∀ (a0:aA) (a1:aE) (a2:bV) (r:T),XQ (a0,a1,a2)=some r->(∀ t∈BT a0 a1 a2,Bd t)->AGA a0 a1 a2 (λy=>y=r)):aO Tryz.prog 44 AH7 :=
 cE (E:=AEX) (Hs:=AYM) AV1 aV aY (aN rfl) 8 ⟨_,_,Tryz.func44,rfl⟩ λx r h1 h2=>by
  rw[APE];exact h x.1 x.2.1 x.2.2 r h1 h2
def BA2:aO Tryz.prog 44 AH7:=BCC λd m x r h hb=>by
 unfold AGA BSA BR2 BR1;exact pB h λhc hr=>by subst hr;exact rfl
noncomputable def BLE:Env:=Env.of [(66,.pure dA)]
def BL1:FuncId->Hint:=λ_=>a6
def A78:aR Tryz.prog BLE:=.cons gU (.nil _)
def BR0:Prop:=b8 (b8 (cA 151) (cA 151)) (b8 (cA 151) (b8 (cA 151) (cA 151)))
def AW1(a0:aA)(a1:aE)(a2:aQ)(R:T->Prop):Prop:=aM BR1 (dA [aF true aB a0,aF true aI a1,aF true aJ a2]) λ(y0:aA×Int)=>aD (!decide (y0.2=0)) (BSA R y0) (aD (decide (a2.1=1)) (aD (decide (a2.1=1)) BR0 BR0) (aD (decide (a2.1=2)) (aD (decide (a2.1=1)) BR0 BR0) (aD (decide (a2.1=3)) (aD (decide (a2.1=3)) BR0 BR0) (aD (decide (a2.1=4)) (aD (decide (a2.1=3)) BR0 BR0) (aD (decide (a2.1=5)) BR0 (aD (decide (a2.1=6)) BR0 (aD (decide (a2.1=7)) (aD (decide (a2.1=7)) BR0 BR0) (aD (decide (a2.1=8)) (aD (decide (a2.1=7)) BR0 BR0) (aD (decide (a2.1=9)) (aD (decide (a2.1=9)) BR0 BR0) (aD (decide (a2.1=10)) (aD (decide (a2.1=9)) BR0 BR0) (aD (decide (a2.1=11)) BR0 (aD (decide (a2.1=12)) BR0 BR0))))))))))))
abbrev A57:Sh:=[(true,aB),(true,aI),(true,aJ)]
noncomputable def P8 (x:aA×aE×aQ):Option T:=match okX x.1 x.2.2 && !decide ((bO x.1 x.2.1 x.2.2).2=0) with
 | true=>some (Sh.enc [(true,aJ),(false,.int .i64)] (Q2 x.1 x.2.1 x.2.2))
 | false=>none
noncomputable def A1X:List T->Option T:=gS A57 P8
def A1Y {a0 a1 a2}:A1X [aF true aB a0,aF true aI a1,aF true aJ a2]=P8 (a0,a1,a2):=bH (s:=A57) rfl (a0,a1,a2) rfl
def BI1:Of3 Tryz.prog 44 A1X P8 (cQ A57) AW1:=J4 (a1:=(true,aB)) (a2:=(true,aI)) (a3:=(true,aJ)) (Hs:=BL1) (k:=2) A78 aV aY (aN rfl) ⟨_,_,Tryz.func44,rfl⟩ rfl λ_ _ _ _=>by kernel_rfl
def BGO:aO Tryz.prog 44 A1X:=BI1 λd m x r h hb=>by
 clear hb;obtain ⟨hp,rfl⟩:=l8 h;clear h;rw[ac] at hp;obtain ⟨hp,hn⟩:=hp;obtain ⟨hc,ho1,ho2⟩:=vP hp;unfold AW1 BSA BR2 BR1 BR0;refine aK (s:=[(true,aB),(false,.int .i64)]) (y:=bO d m x) (DX hc ho1 ho2) ?_;refine lK (λhe=>?_) λhe=>?_
 ·rw[show Q2 d m x=_ from A3F he];rfl
 ·dsimp only at hn;rw[he] at hn;cases hn
noncomputable def XN (x:aA×aE×aQ):Option T:=match okX x.1 x.2.2 with
 | true=>some (Sh.enc [(true,aJ),(false,.int .i64)] (Q2 x.1 x.2.1 x.2.2))
 | false=>none
noncomputable def ABD:List T->Option T:=gA DR XN
def A1W (d:aA) (m:aE) (x:aQ):ABD [aF true aB d,aF true aI m,aF true aJ x]=XN (d,m,x):=dY I2 (d,m,x)
def BGN:aO Tryz.prog 44 ABD:=⟨A0O.entry,λw own args vs r hG ho ha hg=>by
 obtain ⟨⟨d,m,k,x⟩,rfl,h⟩:=KG hg;unfold XN at h;dsimp only at h;clear hg;by_cases c1:k=1
 ·subst c1;exact A0O.calls w own _ vs r hG ho ha ((A10 d m x).trans h)
 by_cases c2:k=2
 ·subst c2;exact BGP.calls w own _ vs r hG ho ha ((A12 d m x).trans h)
 by_cases c3:k=3
 ·subst c3;exact BGQ.calls w own _ vs r hG ho ha ((A14 d m x).trans h)
 by_cases c4:k=4
 ·subst c4;exact BGR.calls w own _ vs r hG ho ha ((A16 d m x).trans h)
 by_cases c5:k=5
 ·subst c5;exact BGS.calls w own _ vs r hG ho ha ((A18 d m x).trans h)
 by_cases c6:k=6
 ·subst c6;exact BGT.calls w own _ vs r hG ho ha ((A2A d m x).trans h)
 by_cases c7:k=7
 ·subst c7;exact BGU.calls w own _ vs r hG ho ha ((A2C d m x).trans h)
 by_cases c8:k=8
 ·subst c8;exact BGV.calls w own _ vs r hG ho ha ((A2E d m x).trans h)
 by_cases c9:k=9
 ·subst c9;exact BGW.calls w own _ vs r hG ho ha ((A2G d m x).trans h)
 by_cases c10:k=10
 ·subst c10;exact BA0.calls w own _ vs r hG ho ha ((ARQ d m x).trans h)
 by_cases c11:k=11
 ·subst c11;exact BA1.calls w own _ vs r hG ho ha ((ARR d m x).trans h)
 by_cases c12:k=12
 ·subst c12;exact BA2.calls w own _ vs r hG ho ha ((ARS d m x).trans h)
 have hn:¬ (1<=k/\k<=12):=by omega
 have ha0:bO d m (k,x)=(iP,10):=if_pos hn;refine BGO.calls w own _ vs r hG ho ha ((A1Y (a0:=d) (a1:=m) (a2:=(k,x))).trans ?_);rw[<-h];unfold P8;dsimp only;rw[ha0];cases okX d (k,x)<;>rfl⟩
def BH3 {d:aA} {x:aQ} (hc:o5 d=true) (hp:dU (bW x)=true) (hk:dL (eF x)=true):ABD [aF true aB d,aF true aI m,aF true aJ x]=some (Sh.enc [(true,aJ),(false,.int .i64)] (Q2 d m x)):=by
 rw[A1W];unfold XN;exact fF (by unfold okX;rw[hc,hp,hk];rfl)
end Go.Pv
namespace Go.Pv
open Go Go.Proofs IntKind
def AHC:aA->List aQ->List aA
 | d,[]=>[d]
 | d,x::l=>d::AHC (eQ d x) l
variable {m:aE}
def BFT {l:List aQ}:∀ {b:Nat} {d:aA},BZ b d->A0 d=true->zT d=true->(∀ x∈l,dU (bW x)=true/\dL (eF x)=true)->(cB m d l).2=0->∀ k (h:k<l.length),∃ c,(AHC d l)[k]? = some c/\sN c m l[k]/\BZ (b+k) c/\A0 c=true/\zT c=true/\(iZ d l)[k]? = some (dQ c l[k]):=by
 induction l with
 | nil=>intro b d _ _ _ _ _ k h;cases h
 | cons x l ih =>
  intro b d hf hD hK hE h0 k h;obtain ⟨hd,e⟩:=rV h0;rw[e] at h0;obtain ⟨hp,hq⟩:=hE x am;cases k with
  | zero=>exact ⟨d,rfl,hd,hf,hD,hK,rfl⟩
  | succ k =>
   obtain ⟨c,c1,c2,c3,c4,c5,c6⟩:=ih (U6 hf) (NH hD hp) (NI hK hq) (λy hy=>hE y (List.mem_cons_of_mem _ hy)) h0 k (by simpa using h);exact ⟨c,c1,c2,by rw[show b+(k+1)=b+1+k by omega];exact c3,c4,c5,c6⟩
noncomputable def AHB (d:aA) (m:aE) (o:dG):List aA×Int:=if (gR d m o).2=0 then (AHC d o.2,0) else ([],(gR d m o).2)
noncomputable def BET:Env:=Env.of [(1000000103,.mark),(64,.pure eW),(65,.pure cV),(66,.pure dA)]
def BE9:FuncId->Hint:=cF 41 [(12,.inv [.own 9 6 aB,.val 40 false (.int .i64)])] (λ_=>a6)
def AVU:aR Tryz.prog BET:=.cons (x:=.mark) trivial (.cons zH (.cons j7 (.cons gU (.nil _))))
def AF2(a0:aA)(a1:aE)(a2:dG)(R:T->Prop):Prop:=aM BR4 (eW [pPQ a2.1]) λ(y0:Bool)=>aD (!y0) (R (T.bY [T.sl false [],pPP 6])) (aD (decide ((↑(BR9 a2).length:Int)=0)) (R (T.bY [T.sl false [],pPP 3])) (aD (decide (32<(↑(BR9 a2).length:Int))) (R (T.bY [T.sl false [],pPP 4])) (aM [(false,Sy.int IntKind.i64)] (cV [aF true aB a0,aF true aI a1]) λ(y1:Int)=>aD (!decide (y1=0)) (R (T.bY [T.sl false [],pPP y1])) (iT aB [(aB.enc a0)] λ(y2:List aA)=>a8 (List aA×Int×PUnit) (λX3 s4=>aD (decide (s4.2.1<(↑(BR9 a2).length:Int))) (aX aJ (BR9 a2) s4.2.1 λ(y5:aQ)=>aX aB (BSB s4) (i64.wrap ((↑(BSB s4).length:Int)-1)) λ(y6:aA)=>jD aB (BSB s4) (i64.wrap ((↑(BSB s4).length:Int)-1)).toNat 0 λ(y7:aA)=>aM BR1 (dA [aF true aB y7,aF true aI a1, aF true aJ y5]) λ(y8:aA×Int)=>aD (!decide (y8.2=0)) (R (T.bY [T.sl false [],pPP y8.2])) (b7 (decide (((BSB s4).length+1)*136<=140737488355328) && decide ((BSB s4).length+1<=140737488355328)) (iT aB (List.map aB.enc s4.1 ++ [(aB.enc y8.1)]) λ(y9:List aA)=>X3 (y9,i64.wrap (s4.2.1+1),())))) (R (T.bY [T.sl false (BSB s4), pPP 0]))) (y2,0,())))))
abbrev AJU:Sh:=[(true,aB),(true,aI),(true,dN)]
noncomputable def FQ (x:aA×aE×dG):Option T:=match okA x.1 x.2.2 with
 | true=>some (Sh.enc [(false,aB.li),(false,.int .i64)] (AHB x.1 x.2.1 x.2.2))
 | false=>none
noncomputable def OB:List T->Option T:=gS AJU FQ
def ARM {a0 a1 a2}:OB [aF true aB a0,aF true aI a1,aF true dN a2]=FQ (a0,a1,a2):=bH (s:=AJU) rfl (a0,a1,a2) rfl
def BB5:Of3 Tryz.prog 41 OB FQ (cQ AJU) AF2:=J4 (a1:=(true,aB)) (a2:=(true,aI)) (a3:=(true,dN)) (Hs:=BE9) (k:=8) AVU aV aY (aN rfl) ⟨_,_,Tryz.func41,rfl⟩ rfl λ_ _ _ _=>by kernel_rfl
def AMV {r:Sy} {l:List r.den} {i k:Nat} {y:r.den} {K:r.den->Prop} (hi:i=k) (hy:l[k]? = some y) (hk:K y):jD r (List.map r.enc l) i 0 K :=
 ⟨_,y,by rw[hi];exact rZ.2 hy,by rw[Sy.cP];omega,by rw[List.drop_zero,<-Sy.cP r y,List.take_length],hk⟩
def BKA {r:Sy} {l:List r.den} {i k:Nat} {y:r.den} {K:List T->Prop} (hi:i=k) (hy:l[k]? = some y) (hk:K (r.enc y)):wP (List.map r.enc l) i K :=
 ⟨_,by rw[hi];exact rZ.2 hy,hk⟩
def BAM:aO Tryz.prog 41 OB:=BB5 λd m o r h hb=>by
 clear hb;obtain ⟨hc,rfl⟩:=l8 h;clear h;unfold okA at hc;simp only[ac,ah,List.all_eq_true] at hc;obtain ⟨⟨⟨hD,hK⟩,⟨l1,l2⟩,l3,l4,l5⟩,hE⟩:=hc;have bad:∀ {e:Int} {q:aA},gR d m o=(q,e)->e≠0->T.bY [T.sl false [],T.v (Value.int .i64 e)]=Sh.enc [(false,aB.li),(false,.int .i64)] (AHB d m o):=λh he=>by
  unfold AHB;rw[h,if_neg he];rfl
 unfold AF2 BSB BR9 BR4 BR1;refine aK (s:=[(false,Sy.bool)]) (y:=oS o.1) (HA ..) ?_;refine lD (λhi=>bad (e:=6) (if_pos hi) (by decide)) λhi=>?_;have hi:¬ oS o.1=false:=by rw[hi];decide
 have eO:(List.map aJ.enc o.2).length=o.2.length:=ae ..;rw[eO];refine cO (λh1=>bad (e:=3) (by unfold gR;rw[if_neg hi,if_pos h1]) (by decide)) λh1=>?_;refine cO (λh2=>bad (e:=4) (by unfold gR;rw[if_neg hi,if_neg h1,if_pos h2]) (by decide)) λh2=>?_;refine aK (s:=[(false,.int .i64)]) (y:=fX d m) (nV ..) ?_;have hA:gR d m o=if ¬ fX d m=0 then (iP,fX d m) else cB m d o.2:=by
  unfold gR;rw[if_neg hi,if_neg h1,if_neg h2]
 refine lK (λh3=>bad (hA.trans (if_pos h3)) h3) λh3=>?_;rw[if_neg (λh=>h h3)] at hA;refine fG (r:=aB) rfl (l:=[d]) rfl ?_;refine bN o.2.length (λk s=>∃ (L:List aA) (c:aA),s=(L++[c],(k:Int),())/\L.length=k/\cB m d o.2=cB m c (o.2.drop k)/\AHC d o.2=L++AHC c (o.2.drop k)/\BZ (900+k) c/\A0 c=true/\zT c=true) ⟨[],d,rfl,rfl,by rw[List.drop_zero],by rw[List.drop_zero];rfl,⟨l1,l2,l3,l4,l5⟩,hD,hK⟩ ?_;rintro X k s hk ⟨L,c,rfl,hL,hF,hS,hN,hcD,hcK⟩ hX;dsimp only;have hlen:(L++[c]).length=k+1:=by rw[List.length_append,hL];rfl
 have hLk:(L++[c])[k]? = some c:=by rw[List.getElem?_append_right (by omega),hL];simp
 have hw:i64.wrap (((List.map aB.enc (L++[c])).length:Int)-1)=(k:Int):=by
  rw[ae,hlen];exact (bB _ (by omega) (by omega)).trans (by omega)
 rw[hw];refine cO (λhlt=>?_) λhge=>?_
 ·have hlt:k<o.2.length:=by omega
  rw[bG (r:=aJ) hlt];refine BI (r:=aB) rfl hLk (AMV (r:=aB) (Int.toNat_natCast k) hLk ?_);obtain ⟨hp,hq⟩:=hE _ (ak hlt);refine aK (s:=[(true,aB),(false,.int .i64)]) (y:=bO c m o.2[k]) (DX (WD hcD hcK hN (by omega)) hp hq) ?_;have hF2:cB m d o.2=if (bO c m o.2[k]).2=0 then cB m (bO c m o.2[k]).1 (o.2.drop (k+1)) else (iP,(bO c m o.2[k]).2):=by
   rw[hF,List.drop_eq_getElem_cons hlt];rfl
  refine lK (λhe=>bad (hA.trans (hF2.trans (if_neg he))) he) λhe=>?_;rw[if_pos he] at hF2;have hd:=D3 he;refine ⟨by rw[ae,hlen,ac];exact ⟨ai (by omega),ai (by omega)⟩,?_⟩;refine fG (r:=aB) rfl (l:=(L++[c])++[(bO c m o.2[k]).1]) (by rw[List.map_append (l₁:=L++[c])];rfl) ?_;refine hX _ hlt ⟨L++[c],(bO c m o.2[k]).1,by rw[show i64.wrap ((k:Int)+1)=((k+1:Nat):Int) from bB _ (by omega) (by omega)],hlen,hF2,?_,?_,?_,?_⟩
  ·rw[hS,List.drop_eq_getElem_cons hlt,hd.eq,AHC,List.append_assoc];rfl
  ·rw[hd.eq];exact U6 hN
  ·rw[hd.eq];exact NH hcD hp
  ·rw[hd.eq];exact NI hcK hq
 ·have hk2:o.2.drop k=[]:=List.drop_eq_nil_of_le (by omega);rw[hk2] at hS hF;have h0:(gR d m o).2=0:=by rw[hA,hF];rfl
  unfold AHB;rw[if_pos h0,hS];rfl
noncomputable def A3H (d:aA) (m:aE) (o:dG):dG×Int:=if (gR d m o).2=0 then ((o.1,(iZ d o.2).reverse),0) else ((bJ,[]),(gR d m o).2)
def Z6 {d:aA} {o:dG} (h:(gR d m o).2=0):0<o.2.length/\o.2.length<=32:=by
 unfold gR at h;split at h
 ·cases h
 split at h
 ·cases h
 split at h
 ·cases h
 rename_i h1 h2;omega
noncomputable def A7C:Env:=Env.of [(41,.pure OB),(44,.pure ABD)]
def A83:FuncId->Hint:=cF 16 [(7,.inv [.val 36 false (.int .i64),.arr 4 38 aJ,.fix 3])] (cF 45 [(1,.inv [.val 2 false (.int .i64),.val 3 false (.int .i64),.arr 4 38 aJ])] (λ_=>a6))
def AOS:aR Tryz.prog A7C:=.cons BAM (.cons BGN (.nil _))
def BR6:T:=T.v (Value.slice none 0 0)
def BR7:T:=pPQ ({data:=#[]})
def BSC(s13:Int×Int×List aQ×PUnit):List (List T):=List.map aJ.enc s13.2.2.1
def BSH(s3:Int×List aQ×PUnit×PUnit):List (List T):=List.map aJ.enc s3.2.1
def UB(a0:aA)(a1:aE)(a2:dG)(R:T->Prop):Prop:=aM [(false,aB.li),(false,Sy.int IntKind.i64)] (OB [aF true aB a0,aF true aI a1,aF true dN a2]) λ(y0:List aA×Int)=>aD (!decide (y0.2=0)) (R (T.bY [T.agg [pPQ ({data:=#[]}),T.sl false []], pPP y0.2])) (b7 ((decide ((↑(BR9 a2).length:Int) = (↑(BR9 a2).length:Int)) || decide ((↑(BR9 a2).length:Int)=0)) && true && decide ((↑(BR9 a2).length:Int)*(↑488:Int)<=140737488355328) && decide ((↑(BR9 a2).length:Int)<=140737488355328)) (b7 (decide ((BR9 a2).length = (List.replicate (↑(BR9 a2).length:Int).toNat (List.map T.v (Value.agg #[Value.int IntKind.i64 0,Value.string {data:=#[]}, Value.string {data:=#[]},Value.string {data:=#[]}, Value.int IntKind.i64 0,Value.string {data:=#[]}, Value.string {data:=#[]},Value.int IntKind.i64 0, Value.int IntKind.i64 0,Value.string {data:=#[]}, Value.string {data:=#[]},Value.int IntKind.i64 0,Value.slice none 0 0, Value.slice none 0 0,Value.string {data:=#[]},Value.int IntKind.i64 0, Value.int IntKind.i64 0,Value.int IntKind.i64 0, Value.int IntKind.i64 0,Value.int IntKind.i64 0, Value.int IntKind.i64 0,Value.int IntKind.i64 0, Value.int IntKind.i64 0,Value.int IntKind.i64 0, Value.string {data:=#[]},Value.string {data:=#[]}, Value.string {data:=#[]},Value.int IntKind.i64 0, Value.int IntKind.i64 0,Value.int IntKind.i64 0, Value.string {data:=#[]},Value.string {data:=#[]},Value.slice none 0 0, Value.int IntKind.i64 0,Value.slice none 0 0,Value.int IntKind.i64 0, Value.string {data:=#[]}, Value.string {data:=#[]}]).cells.toList)).length) && decide (0<(BR9 a2).length) && iB 38 (BR9 a2)) (iT aJ (BR9 a2) λ(y1:List aQ)=>gH (bE.rows false [[D.p BR7, D.p BR6]]) (bE.rows false [[D.p BR7, D.p BR6]]) (a8 (Int×List aQ×PUnit×PUnit) (λX2 s3=>aD (decide (s3.1<(↑(BR9 a2).length:Int))) (aX aJ (BSH s3) s3.1 λ(y4:aQ)=>jD aJ (BSH s3) (Int.toNat s3.1) 0 λ(y5:aQ)=>aX aB (List.map aB.enc y0.1) s3.1 λ(y6:aA)=>aM [(true,aJ),(false,Sy.int IntKind.i64)] (ABD [aF true aB y6,aF true aI a1, aF true aJ y5]) λ(y7:aQ×Int)=>aD (!decide (y7.2=0)) (R (T.bY [T.agg [pPQ ({data:=#[]}),T.sl false []], pPP y7.2])) (aX aJ (BSH s3) s3.1 λ(y8:aQ)=>wP (BSH s3) (Int.toNat s3.1) λ(y9:List T)=>b7 (decide (38<=y9.length)) (iT aJ ((BSH s3).set (Int.toNat s3.1) (bU y9 0 (aJ.enc y7.1))) λ(y10:List aQ)=>gH (bE.rows false [[D.p BR7, D.p BR6]]) (bE.rows false [[D.p BR7, D.p BR6]]) (X2 (i64.wrap (s3.1+1),y10,(),()))))) (iT aJ (BSH s3) λ(y11:List aQ)=>a8 (Int×Int×List aQ×PUnit) (λX12 s13=>aD (decide (s13.1<s13.2.1)) (aX aJ (BSC s13) s13.2.1 λ(y14:aQ)=>jD aJ (BSC s13) (Int.toNat s13.2.1) 0 λ(y15:aQ)=>aX aJ (BSC s13) s13.1 λ(y16:aQ)=>jD aJ (BSC s13) (Int.toNat s13.1) 0 λ(y17:aQ)=>aX aJ (BSC s13) s13.1 λ(y18:aQ)=>wP (BSC s13) (Int.toNat s13.1) λ(y19:List T)=>b7 (decide (38<=y19.length)) (aX aJ ((BSC s13).set (Int.toNat s13.1) (bU y19 0 (aJ.enc y15))) s13.2.1 λ(y20:aQ)=>wP ((BSC s13).set (Int.toNat s13.1) (bU y19 0 (aJ.enc y15))) (Int.toNat s13.2.1) λ(y21:List T)=>b7 (decide (38<=y21.length)) (iT aJ (((BSC s13).set (Int.toNat s13.1) (bU y19 0 (aJ.enc y15))).set (Int.toNat s13.2.1) (bU y21 0 (aJ.enc y17))) λ(y22:List aQ)=>X12 (i64.wrap (s13.1+1), i64.wrap (s13.2.1-1),y22,())))) (R (T.bY [T.agg [pPQ a2.1, T.sl false (BSC s13)], pPP 0]))) (0,i64.wrap ((↑(BSH s3).length:Int)-1),y11,()))) (0,y1,(),())))))
abbrev WU:Sh:=[(true,aB),(true,aI),(true,dN)]
noncomputable def yP (x:aA×aE×dG):Option T:=match okA x.1 x.2.2 with
 | true=>some (Sh.enc [(true,dN),(false,.int .i64)] (A3H x.1 x.2.1 x.2.2))
 | false=>none
noncomputable def EH:List T->Option T:=gS WU yP
def AH1 {a0 a1 a2}:EH [aF true aB a0,aF true aI a1,aF true dN a2]=yP (a0,a1,a2):=bH (s:=WU) rfl (a0,a1,a2) rfl
def A4H:Of3 Tryz.prog 16 EH yP (cQ WU) UB:=J4 (a1:=(true,aB)) (a2:=(true,aI)) (a3:=(true,dN)) (Hs:=A83) (k:=8) AOS aV aY (aN rfl) ⟨_,_,Tryz.func16,rfl⟩ rfl λ_ _ _ _=>by kernel_rfl
def XF {r:Sy} {l:List r.den} {k:Nat} {row:List T} {y:r.den} (h:row.length=r.w):(List.map r.enc l).set k (bU row 0 (r.enc y))=List.map r.enc (l.set k y):=by
 rw[QB _ _ (by rw[h,Sy.cP]),List.map_set]
def A0M:aO Tryz.prog 16 EH:=A4H λd m o r h hb=>by
 clear hb;obtain ⟨hc,rfl⟩:=l8 h;clear h;unfold UB BSH BSC BR9 BR7 BR6;refine aK (s:=[(false,aB.li),(false,.int .i64)]) (y:=AHB d m o) ((ARM ..).trans (by unfold FQ;rw[hc])) ?_;by_cases h0:(gR d m o).2=0
 case neg =>
  have e:AHB d m o=([],(gR d m o).2):=if_neg h0;rw[e];refine lK (λ_=>?_) λh=>absurd h h0;unfold A3H;rw[if_neg h0];rfl
 have e:AHB d m o=(AHC d o.2,0):=if_pos h0;rw[e];refine lK (λh=>absurd rfl h) λ_=>?_;have eI:A3H d m o=((o.1,(iZ d o.2).reverse),0):=if_pos h0;rw[show A3H (d,m,o).1 (d,m,o).2.1 (d,m,o).2.2=_ from eI];clear e eI;obtain ⟨n0,n1⟩:=Z6 h0;obtain ⟨hck,hA⟩:=U2 h0;rw[hA] at h0;clear hA;unfold okA at hc;simp only[ac,ah,List.all_eq_true] at hc;obtain ⟨⟨⟨hD,hK⟩,⟨l1,l2⟩,l3,l4,l5⟩,hE⟩:=hc;have at_:=BFT (b:=900) ⟨l1,l2,l3,l4,l5⟩ hD hK hE h0;have hU:(iZ d o.2).length=o.2.length:=AR;have eO:(List.map aJ.enc o.2).length=o.2.length:=ae ..;rw[eO];refine ⟨?_,?_,fG (r:=aJ) rfl (l:=o.2) rfl ⟨rfl,?_⟩⟩
 ·simp only[ac,Bool.or_eq_true,ah];exact ⟨⟨⟨.inl trivial,trivial⟩,by omega⟩,by omega⟩
 ·rw[List.length_replicate,Int.toNat_natCast,ac,ac];exact ⟨⟨ai rfl,ai n0⟩,tL (r:=aJ) ..⟩
 generalize hUe:iZ d o.2=U at at_ hU ⊢;refine bN o.2.length (λk s=>∃ B:List aQ,s=((k:Int),B,(),())/\B.length=o.2.length/\B.take k=U.take k/\B.drop k=o.2.drop k) ⟨o.2,rfl,rfl,rfl,rfl⟩ ?_;rintro X k s hk ⟨B,rfl,hB,h1,h2⟩ hX;dsimp only;refine cO (λhlt=>?_) λhge=>?_
 ·have hlt:k<o.2.length:=by omega
  have hBk:B[k]? = some o.2[k]:=by
   have:=congrArg (λl=>l[0]?) h2;simpa [List.getElem?_drop,List.getElem?_eq_getElem hlt] using this
  obtain ⟨c,c1,c2,c3,c4,c5,c6⟩:=at_ k hlt;obtain ⟨hp,hq⟩:=hE _ (ak hlt);refine BI (r:=aJ) rfl hBk (AMV (r:=aJ) (Int.toNat_natCast k) hBk (BI (r:=aB) rfl c1 ?_));refine aK (s:=[(true,aJ),(false,.int .i64)]) (y:=Q2 c m o.2[k]) (BH3 (WD c4 c5 c3 (by omega)) hp hq) ?_;rw[A3G (by rw[c2.eq])];refine lK (λh=>absurd rfl h) λ_=>?_;refine BI (r:=aJ) rfl hBk (BKA (r:=aJ) (Int.toNat_natCast k) hBk ⟨by rw[Sy.cP];decide,?_⟩);refine fG (r:=aJ) rfl (l:=B.set k (dQ c o.2[k])) (by rw[Int.toNat_natCast,XF (r:=aJ) (Sy.cP ..)]) ⟨rfl,?_⟩;refine hX _ hlt ⟨B.set k (dQ c o.2[k]),by rw[show i64.wrap ((k:Int)+1)=((k+1:Nat):Int) from bB _ (by omega) (by omega)],by rw[List.length_set,hB],?_,?_⟩
  ·have e1:(B.set k (dQ c o.2[k])).take (k+1)=B.take k++[dQ c o.2[k]]:=by
    rw[List.take_succ_eq_append_getElem (by rw[List.length_set];omega),List.take_set_of_le (al _)];simp
   have hkU:k<U.length:=by omega
   have e2:U[k]=dQ c o.2[k]:=by rw[List.getElem?_eq_getElem hkU] at c6;exact Option.some.inj c6
   rw[e1,h1,List.take_succ_eq_append_getElem hkU,e2]
  ·rw[List.drop_set_of_lt (by omega)];have:=congrArg (List.drop 1) h2;simpa [List.drop_drop] using this
 ·have hkn:k=o.2.length:=by omega
  subst hkn;have hBU:B=U:=by
   rw[<-hB,List.take_length] at h1;rw[h1,hB,<-hU,List.take_length]
  subst hBU;clear h1 h2 hX at_;refine fG (r:=aJ) rfl (l:=B) rfl ?_;have hw:i64.wrap (((List.map aJ.enc B).length:Int)-1)=((o.2.length:Int)-1):=by
   rw[ae,hB];exact bB _ (by omega) (by omega)
  rw[hw];generalize o.2.length=n at hB n0 n1 ⊢;refine bN n (λi s=>∃ C:List aQ,s=((i:Int),(n:Int)-1-i,C,())/\2*i<=n/\C.length=n/\∀ p,p<n->C[p]? = if p<i\/n-1<p+i then B[n-1-p]? else B[p]?) ⟨B,by simp,by omega,hB,λp hp=>by rw[if_neg (by omega)]⟩ ?_;rintro Y i s hi ⟨C,rfl,h2i,hC,hp⟩ hY;dsimp only;refine cO (λhlt=>?_) λhge=>?_
  ·have hj:((n:Int)-1-i)=((n-1-i:Nat):Int):=by omega
   rw[hj] at hlt ⊢;have hij:i<n-1-i:=by omega
   have bi:i<B.length:=by omega
   have bj:n-1-i<B.length:=by omega
   have ci:C[i]? = some B[i]:=by rw[hp i (by omega),if_neg (by omega),List.getElem?_eq_getElem bi]
   have cj:C[n-1-i]? = some B[n-1-i]:=by rw[hp _ (by omega),if_neg (by omega),List.getElem?_eq_getElem bj]
   have cj2:(C.set i B[n-1-i])[n-1-i]? = some B[n-1-i]:=by rw[List.getElem?_set_ne (by omega),cj]
   refine BI (r:=aJ) rfl cj (AMV (r:=aJ) (Int.toNat_natCast _) cj (BI (r:=aJ) rfl ci (AMV (r:=aJ) (Int.toNat_natCast _) ci (BI (r:=aJ) rfl ci (BKA (r:=aJ) (Int.toNat_natCast _) ci ⟨by rw[Sy.cP];decide,?_⟩)))));rw[Int.toNat_natCast,Int.toNat_natCast,XF (r:=aJ) (Sy.cP ..)];refine BI (r:=aJ) rfl cj2 (BKA (r:=aJ) rfl cj2 ⟨by rw[Sy.cP];decide,?_⟩);refine fG (r:=aJ) rfl (l:=(C.set i B[n-1-i]).set (n-1-i) B[i]) (by rw[XF (r:=aJ) (Sy.cP ..)]) ?_;refine hY _ (by omega) ⟨(C.set i B[n-1-i]).set (n-1-i) B[i],?_,by omega,by rw[List.length_set,List.length_set,hC],λp hpn=>?_⟩
   ·rw[show i64.wrap ((i:Int)+1)=((i+1:Nat):Int) from bB _ (by omega) (by omega),show i64.wrap (((n-1-i:Nat):Int)-1)=(n:Int)-1-((i+1:Nat):Int) from (bB _ (by omega) (by omega)).trans (by omega)]
   ·by_cases e1:p=n-1-i
    ·subst e1;rw[List.getElem?_set_self (by rw[List.length_set];omega),if_pos (by omega),show n-1-(n-1-i)=i by omega,List.getElem?_eq_getElem bi]
    rw[List.getElem?_set_ne (by omega)];by_cases e2:p=i
    ·subst e2;rw[List.getElem?_set_self (by omega),if_pos (by omega),List.getElem?_eq_getElem bj]
    rw[List.getElem?_set_ne (by omega),hp p hpn];by_cases e3:p<i\/n-1<p+i
    ·rw[if_pos e3,if_pos (by omega)]
    ·rw[if_neg e3,if_neg (by omega)]
  ·have hrev:C=B.reverse:=by
    refine List.ext_getElem? λp=>?_;by_cases hpn:p<n
    ·rw[hp p hpn,List.getElem?_reverse (by omega),hB];by_cases e3:p<i\/n-1<p+i
     ·rw[if_pos e3]
     ·rw[if_neg e3,show n-1-p=p by omega]
    ·rw[List.getElem?_eq_none (by omega),List.getElem?_eq_none (by rw[List.length_reverse];omega)]
   rw[hrev];rfl
end Go.Pv
namespace Go.Pv
open Go Go.Proofs IntKind
noncomputable def AOK:Env:=Env.of []
def APM:FuncId->Hint:=cF 17 [(3,.inv [.own 3 18 aP,.val 4 false (.int .i64)])] (λ_=>a6)
def Y0:aR Tryz.prog AOK:=.nil _
def GD(a0:aA)(R:T->Prop):Prop:=a8 (List bD×Int×PUnit) (λX0 s1=>aD (decide (s1.2.1<(↑(List.map aP.enc a0.2.2.1).length:Int))) (aX aP (List.map aP.enc a0.2.2.1) s1.2.1 λ(y2:bD)=>b7 (decide (((List.map aP.enc s1.1).length+1)*208<=140737488355328) && decide ((List.map aP.enc s1.1).length+1<=140737488355328)) (iT aP (List.map aP.enc s1.1 ++ [[pPQ y2.1,pPP 1, pPP y2.2.2.1, pPQ y2.2.2.2.1,pPQ y2.2.2.2.2.1, pPP y2.2.2.2.2.2.1, T.sl false (List.map aC.enc y2.2.2.2.2.2.2.1.1), T.sl false (List.map aC.li.enc y2.2.2.2.2.2.2.1.2), pPQ y2.2.2.2.2.2.2.2.1, pPP y2.2.2.2.2.2.2.2.2.1, pPP y2.2.2.2.2.2.2.2.2.2.1, pPP y2.2.2.2.2.2.2.2.2.2.2.1.1, pPP y2.2.2.2.2.2.2.2.2.2.2.1.2.1, pPP y2.2.2.2.2.2.2.2.2.2.2.1.2.2, pPP y2.2.2.2.2.2.2.2.2.2.2.2.1.1, pPP y2.2.2.2.2.2.2.2.2.2.2.2.1.2.1, pPP y2.2.2.2.2.2.2.2.2.2.2.2.1.2.2, pPP y2.2.2.2.2.2.2.2.2.2.2.2.2]]) λ(y3:List bD)=>X0 (y3,i64.wrap (s1.2.1+1),()))) (R ((aF true aB (a0.1,a0.2.1,s1.1,a0.2.2.2.1,a0.2.2.2.2.1,a0.2.2.2.2.2))))) ([],0,())
abbrev H9:Sh:=[(true,aB)]
noncomputable def oC (d:aA):Option T:=match decide (d.2.2.1.length<=1000) with
 | true=>some (Sh.enc [(true,aB)] (j3 d))
 | false=>none
noncomputable def qD:List T->Option T:=gS H9 oC
def EM {a0}:qD [aF true aB a0]=oC (a0):=bH (s:=H9) rfl (a0) rfl
def AI7:yW Tryz.prog 17 qD oC (cQ H9) GD:=kW (a1:=(true,aB)) (Hs:=APM) (k:=8) Y0 aV aY (aN rfl) ⟨_,_,Tryz.func17,rfl⟩ rfl λ_ _=>by kernel_rfl
def AHQ:aO Tryz.prog 17 qD:=AI7 λd r h hb=>by
 clear hb;obtain ⟨hl,rfl⟩:=l8 h;clear h;have hl:d.2.2.1.length<=1000:=of_decide_eq_true hl;unfold GD;refine bN d.2.2.1.length (λk s=>s=((d.2.2.1.take k).map pH,(k:Int),())) rfl ?_;rintro X k s hk rfl hX;dsimp only;have hz:((d.2.2.1.take k).map pH).length=k:=by rw[ae,List.length_take];omega
 refine cO (λhlt=>?_) λhge=>?_
 ·rw[ae] at hlt;have hlt:k<d.2.2.1.length:=by omega
  rw[bG (r:=aP) hlt];refine ⟨by rw[ae,hz,ac];exact ⟨ai (by omega),ai (by omega)⟩,?_⟩;refine fG (r:=aP) rfl (l:=(d.2.2.1.take k).map pH++[pH d.2.2.1[k]]) (by rw[List.map_append (l₁:=(d.2.2.1.take k).map pH)];rfl) ?_;refine hX _ hlt ?_;rw[List.take_succ_eq_append_getElem hlt,List.map_append,show i64.wrap ((k:Int)+1)=((k+1:Nat):Int) from bB _ (by omega) (by omega)];rfl
 ·rw[ae] at hge;rw[List.take_of_length_le (by omega)];rfl
noncomputable def uG:List T->Option T:=gD oM
def AQ9:aO Tryz.prog 15 uG:=VE.deep
noncomputable def AOH:Env:=Env.of [(40,.pure ABC),(24,.pure EJ),(14,.pure xM),(16,.pure EH),(15,.pure uG),(17,.pure qD),(9,.pure kQ)]
def APJ:FuncId->Hint:=cF 5 [(7,.inv [.val 9 false (.int .i64)]),(12,.inv [.val 10 false (.int .i64)])] (λ_=>a6)
def YX:aR Tryz.prog AOH:=.cons BGK (.cons A0N (.cons BAI (.cons A0M (.cons AQ9 (.cons AHQ (.cons AHI (.nil _)))))))
def BSD(R:T->Prop):Prop:=aM BR4 (kQ []) λ(y5:Bool)=>R (pPR y5)
def GA(a0:aA)(a1:aE)(a2:dG)(R:T->Prop):Prop:=aM BR4 (ABC [aF true aB a0,pPP 40]) λ(y0:Bool)=>aD y0 (aM BR4 (EJ [aF true dN a2,pPP 12]) λ(y1:Bool)=>aD (!y1) (aM BR4 (kQ []) λ(y2:Bool)=>R (pPR y2)) (aM BR1 (xM [aF true aB a0,aF true aI a1,aF true dN a2]) λ(y3:aA×Int)=>aD (!decide (y3.2=0)) (aM BR4 (uG [aF true aB y3.1, T.agg [pPQ ({data:=#[]}),T.v (Value.slice none 0 0), T.v (Value.slice none 0 0),T.v (Value.slice none 0 0), T.v (Value.slice none 0 0),T.v (Value.slice none 0 0)]]) λ(y4:Bool)=>aD y4 (BSD R) (R BR3)) (a8 (Int×PUnit) (λX6 s7=>aD (decide (s7.1<(↑(List.map aP.enc a0.2.2.1).length:Int))) (aX aP (List.map aP.enc a0.2.2.1) s7.1 λ(y8:bD)=>aD (decide (900<y8.2.1)) (BSD R) (X6 (i64.wrap (s7.1+1),()))) (a8 (Int×PUnit) (λX10 s11=>aD (decide (s11.1<(↑(BR9 a2).length:Int))) (aX aJ (BR9 a2) s11.1 λ(y12:aQ)=>aD (decide (900<y12.2.2.2.2.1.2.1)) (BSD R) (X10 (i64.wrap (s11.1+1),()))) (aM [(true,dN),(false,Sy.int IntKind.i64)] (EH [aF true aB a0,aF true aI a1, aF true dN a2]) λ(y14:dG×Int)=>aM BR1 (xM [aF true aB y3.1,aF true aI a1, aF true dN y14.1]) λ(y15:aA×Int)=>aD (decide (y14.2=0)) (aD (decide (y15.2=0)) (aM [(true,aB)] (qD [aF true aB y15.1]) λ(y16:aA)=>aM [(true,aB)] (qD [aF true aB a0]) λ(y17:aA)=>aM BR4 (uG [aF true aB y16,aF true aB y17]) λ(y18:Bool)=>aD y18 (BSD R) (R BR3)) (R BR3)) (R BR3))) (0,()))) (0,())))) (aM BR4 (kQ []) λ(y20:Bool)=>R (pPR y20))
abbrev zY:Sh:=[(true,aB),(true,aI),(true,dN)]
noncomputable def rG (x:aA×aE×dG):Option T:=match TA x.1 x.2.2 with
 | true=>some (pPR true)
 | false=>none
noncomputable def SJ:List T->Option T:=gS zY rG
def AI4:Of3 Tryz.prog 5 SJ rG (cQ zY) GA:=J4 (a1:=(true,aB)) (a2:=(true,aI)) (a3:=(true,dN)) (Hs:=APJ) (k:=8) YX aV aY (aN rfl) ⟨_,_,Tryz.func5,rfl⟩ rfl λ_ _ _ _=>by kernel_rfl
def TM {a b:aA} (h:a=b):uG [aF true aB a,aF true aB b]=some (Sh.enc qF true):=by
 have e:∀ x:aA,T.deep 4 (aF true aB x)=aF true aB x:=λx=>congrArg T.agg (D1 3 (r:=aB) x rfl);show oM [T.deep 4 (aF true aB a),T.deep 4 (aF true aB b)]=_;rw[e,e,OC];show some (Sh.enc qF (pE a b))=_;rw[eG.2 h]
def AD2 {a:aA} (h:a=iP):uG [aF true aB a,T.agg [pPQ ({ data:=#[] }),T.v (Value.slice none 0 0),T.v (Value.slice none 0 0),T.v (Value.slice none 0 0),T.v (Value.slice none 0 0),T.v (Value.slice none 0 0)]]=some (Sh.enc qF true):=by
 subst h;exact TM (a:=iP) (b:=iP) rfl
variable {m:aE}
def A6Z {d:aA} {o:dG} (h0:(gR d m o).2=0) (hl:o.2.length<=12) (hr:∀ p∈d.2.2.1,p.2.1<=900) (hx:∀ x∈o.2,(bW x).2.1<=900) :
  A3H d m o=((o.1,(iZ d o.2).reverse),0)/\(gR (gR d m o).1 m (o.1,(iZ d o.2).reverse)).2=0/\j3 (gR (gR d m o).1 m (o.1,(iZ d o.2).reverse)).1=j3 d:=by
 have hn:=Z6 h0;obtain ⟨hck,hA⟩:=U2 h0;have h1:(cB m d o.2).2=0:=by rw[<-hA];exact h0
 have hR:mP 900 d:=λp hp=>⟨(D0 hck p hp).1,hr p hp⟩
 have hF:=BC0 hR (by omega) hx h1;obtain ⟨k1,k2,_⟩:=A6Y (y:=(cB m d o.2).1) (b:=900+o.2.length) (c:=900) hck h1 rfl hF hR (by omega) (by omega) hx;have hid:¬ oS o.1=false:=λh=>by
  have:gR d m o=(iP,6):=if_pos h;rw[this] at h0;cases h0
 have e:gR (gR d m o).1 m (o.1,(iZ d o.2).reverse)=cB m (cB m d o.2).1 (iZ d o.2).reverse:=by
  rw[hA];have hlen:((iZ d o.2).reverse).length=o.2.length:=by rw[List.length_reverse,AR]
  unfold gR;rw[if_neg hid,if_neg (by dsimp only;omega),if_neg (by dsimp only;omega),if_neg (λh=>h (MW hck h1))]
 exact ⟨if_pos h0,by rw[e];exact k1,by rw[e];exact k2⟩
def AHO:aO Tryz.prog 5 SJ:=AI4 λd m o r h hb=>by
 clear hb;obtain ⟨hc,rfl⟩:=l8 h;clear h;have c:=BM9 hc;clear hc;unfold GA BSD BR9 BR4 BR3 BR1;refine aK (s:=qF) (y:=few d 40) (A1V ..) ?_;refine DQ (λhf=>?_) λ_=>awD rfl;have hf:=BF2 hf;refine aK (s:=qF) (y:=xF o 12) (AH3 ..) ?_;refine lD (λ_=>awD rfl) λh2=>?_;have hl:=AQK h2;refine aK (s:=[(true,aB),(false,.int .i64)]) (y:=gR d m o) (BD2 c hf (by omega)) ?_;refine lK (λh0=>?_) λh0=>?_
 ·refine aK (s:=qF) (y:=true) (AD2 (AZQ h0)) ?_;exact DQ (λ_=>awD rfl) λh=>by cases h
 have hp40:=hf.p;refine bN d.2.2.1.length (λk s=>s=((k:Int),())/\∀ p∈d.2.2.1.take k,p.2.1<=900) ⟨rfl,λp hp=>by cases hp⟩ ?_;rintro X k s hk ⟨rfl,hpr⟩ hX;dsimp only;rw[ae];refine cO (λhlt=>?_) λhge=>?_
 ·have hlt:k<d.2.2.1.length:=by omega
  rw[bG (r:=aP) hlt];refine cO (λ_=>awD rfl) λh9=>hX _ hlt ⟨by rw[show i64.wrap ((k:Int)+1)=((k+1:Nat):Int) from bB _ (by omega) (by omega)],λp hp=>?_⟩;rw[List.take_succ_eq_append_getElem hlt] at hp;rcases List.mem_append.1 hp with hp|hp
  ·exact hpr p hp
  ·rw[List.mem_singleton.1 hp];omega
 rw[List.take_of_length_le (by omega)] at hpr;clear hX X hk hge k;refine bN o.2.length (λk s=>s=((k:Int),())/\∀ x∈o.2.take k,(bW x).2.1<=900) ⟨rfl,λp hp=>by cases hp⟩ ?_;rintro X k s hk ⟨rfl,hxr⟩ hX;dsimp only;rw[ae];refine cO (λhlt=>?_) λhge=>?_
 ·have hlt:k<o.2.length:=by omega
  rw[bG (r:=aJ) hlt];refine cO (λ_=>awD rfl) λh9=>hX _ hlt ⟨by rw[show i64.wrap ((k:Int)+1)=((k+1:Nat):Int) from bB _ (by omega) (by omega)],λp hp=>?_⟩;rw[List.take_succ_eq_append_getElem hlt] at hp;rcases List.mem_append.1 hp with hp|hp
  ·exact hxr p hp
  ·rw[List.mem_singleton.1 hp];exact Int.not_lt.1 h9
 rw[List.take_of_length_le (by omega)] at hxr;clear hX X hk hge k;obtain ⟨u1,u2,u3⟩:=A6Z h0 (by omega) hpr hxr;obtain ⟨q1,q2,q3⟩:=AZC c hf h0;have cu:ALG (gR d m o).1 (o.1,(iZ d o.2).reverse):=⟨q2,q3,λx hx=>A6W c.D c.K c.E x (List.mem_reverse.1 hx)⟩
 obtain ⟨v1,_,_⟩:=AZC cu q1 u2;have hlen:((iZ d o.2).reverse).length=o.2.length:=by rw[List.length_reverse,AR]
 have v2:=v1.p;dsimp only at v2;refine aK (s:=[(true,dN),(false,.int .i64)]) (y:=((o.1,(iZ d o.2).reverse),0)) ((AH1 ..).trans ?_) ?_
 ·unfold yP;rw[<-u1,A4X hf (by omega) c.D c.K c.E]
 refine aK (s:=[(true,aB),(false,.int .i64)]) (y:=gR (gR d m o).1 m (o.1,(iZ d o.2).reverse)) (BD2 cu q1 (by dsimp only;omega)) ?_;refine cO (λ_=>?_) λh=>absurd rfl h;refine cO (λ_=>?_) λh=>absurd u2 h;refine aK (s:=[(true,aB)]) (y:=j3 (gR (gR d m o).1 m (o.1,(iZ d o.2).reverse)).1) ((EM ..).trans (by unfold oC;rw[ai (by omega)])) ?_;refine aK (s:=[(true,aB)]) (y:=j3 d) ((EM ..).trans (by unfold oC;rw[ai (by omega)])) ?_;refine aK (s:=qF) (y:=true) (TM u3) ?_;exact DQ (λ_=>awD rfl) λh=>by cases h
def AJH:∀ x:aA×aE×dG,BFK zY x->rG x=some (.v (.bool true)):=λ⟨d,m,o⟩ h=>fF (c:=TA d o) (a:=pPR true) (A4Y h.1 h.2.2)
end Go.Pv
