/-
  Plane geometry, plain: a simple contour has an area, and the area of a valid shape is not negative.
  The mass of a part that is in order is not negative, and bounded.
  What a valid design is known by, as chapter 39 needs it.
  panel.Of in a valid design, in plain words.
  R17.Has and R15.Few, as chapter 39 needs them.
  slices.Clone of numbers; a form of it that runs.
  The examples of chapter 39, run by the kernel.
  PanelBelow: the law's function, walked.
-/
import Derived.Test.YtpkaicahnkpkhaaGreatDoorPuz2
import Derived.Test.YtpkaicahnkpkhaaGreatDoorPuz1
import Derived.Test.YtpkaicahnkpkhaaGreatDoorPulu
import Derived.Shelf.Slices.Clone
import Derived.Test.YtpkaicahnkpkhaaGreatDoorPugs
import Derived.Test.YtpkaicahnkpkhaaGreatDoorPuge
import Derived.Test.YtpkaicahnkpkhaaGreatDoorProg
import Derived.KernelRfl
import Derived.Test.YtpkaicahnkpkhaaGreatDoorPukj
set_option linter.unusedVariables false
set_option linter.unusedSimpArgs false
namespace Go.Pv.Geo
def E8 (a b c d:Pt):Prop:=∃ s t s' t':Int,0≤s∧0≤t∧0≤s'∧0≤t'∧s+t=s'+t'∧0<s+t∧s*a.1+t*b.1=s'*c.1+t'*d.1∧s*a.2+t*b.2=s'*c.2+t'*d.2
theorem E8.symm {a b c d:Pt} (h:E8 a b c d):E8 c d a b:=by
 obtain ⟨s,t,s',t',h1,h2,h3,h4,h5,h6,h7,h8⟩:=h
 exact ⟨s',t',s,t,h3,h4,h1,h2,h5.symm,by omega,h7.symm,h8.symm⟩
theorem E8.swap {a b c d:Pt} (h:E8 a b c d):E8 b a c d:=by
 obtain ⟨s,t,s',t',h1,h2,h3,h4,h5,h6,h7,h8⟩:=h
 exact ⟨t,s,s',t',h2,h1,h3,h4,by omega,by omega,by omega,by omega⟩
theorem E8.AR0 {a b c d:Pt} (h:E8 a b c d):E8 a b d c:=h.symm.swap.symm
theorem oC {a b:Int} (h:0<a*b) (ha:0<a):0<b:=by
 rcases Int.lt_trichotomy b 0 with hb|hb|hb
 ·have:=Int.mul_neg_of_pos_of_neg ha hb;omega
 ·subst hb;simp at h
 ·exact hb
theorem ANS (x:Int):0≤x*x:=by
 rcases Int.le_total 0 x with h|h
 ·exact Int.mul_nonneg h h
 ·have:=Int.mul_nonneg (show 0≤-x by omega) (show 0≤-x by omega);rwa[Int.neg_mul_neg] at this
theorem cH {s x y:Int} (hs:0≤s) (h:x≤y):s*x≤s*y:=Int.mul_le_mul_of_nonneg_left h hs
def rS (a b u:Pt):Prop:=∃ s t:Int,0≤s∧0≤t∧0<s+t∧(s+t)*u.1=s*a.1+t*b.1∧(s+t)*u.2=s*a.2+t*b.2
theorem rS.left (a b:Pt):rS a b a:=⟨1,0,by omega,by omega,by omega,by omega,by omega⟩
theorem rS.right (a b:Pt):rS a b b:=⟨0,1,by omega,by omega,by omega,by omega,by omega⟩
theorem rS.swap {a b u:Pt} (h:rS a b u):rS b a u:=by
 obtain ⟨s,t,h1,h2,h3,h4,h5⟩:=h
 exact ⟨t,s,h2,h1,by omega,by rw[Int.add_comm t s];omega,by rw[Int.add_comm t s];omega⟩
theorem kP {s x y:Int} (hs:0<s) (h:s*x≤s*y):x≤y:=Int.le_of_mul_le_mul_left h hs
theorem rS.ASC {a b u:Pt} (h:rS a b u):min a.1 b.1≤u.1∧u.1≤max a.1 b.1:=by
 obtain ⟨s,t,h1,h2,h3,h4,_⟩:=h
 constructor
 ·refine kP h3 ?_
  have e1:=cH h1 (Int.min_le_left a.1 b.1)
  have e2:=cH h2 (Int.min_le_right a.1 b.1)
  rw[h4,Int.add_mul];omega
 ·refine kP h3 ?_
  have e1:=cH h1 (Int.le_max_left a.1 b.1)
  have e2:=cH h2 (Int.le_max_right a.1 b.1)
  rw[h4,Int.add_mul];omega
theorem rS.AVD {a b u:Pt} (h:rS a b u):min a.2 b.2≤u.2∧u.2≤max a.2 b.2:=by
 obtain ⟨s,t,h1,h2,h3,h4,h5⟩:=h
 exact rS.ASC (a:=(a.2,a.1)) (b:=(b.2,b.1)) (u:=(u.2,u.1)) ⟨s,t,h1,h2,h3,h5,h4⟩
theorem rS.ARM {a b u:Pt} (h:rS a b u):aE a b u=0:=by
 obtain ⟨s,t,h1,h2,h3,h4,h5⟩:=h
 have e:(s+t)*aE a b u=0:=by
  simp only[aE]
  grind
 rcases Int.mul_eq_zero.1 e with h|h
 ·omega
 ·exact h
theorem rS.on {a b u:Pt} (h:rS a b u):nF a b u=true:=by
 unfold nF Y2
 rw[decide_eq_true h.ARM,decide_eq_true h.ASC.1,decide_eq_true h.ASC.2,decide_eq_true h.AVD.1,decide_eq_true h.AVD.2];rfl
theorem AQQ {a b u:Pt} (h:nF a b u=true):aE a b u=0∧(min a.1 b.1≤u.1∧u.1≤max a.1 b.1)∧min a.2 b.2≤u.2∧u.2≤max a.2 b.2:=by
 unfold nF Y2 at h
 simp only[Bool.and_eq_true,decide_eq_true_eq] at h
 exact ⟨h.1,h.2.1,h.2.2⟩
theorem uF {a b u:Pt} (h:nF a b u=true):rS a b u:=by
 obtain ⟨h0,h1,h2⟩:=AQQ h
 simp only[aE] at h0
 rcases Int.lt_trichotomy a.1 b.1 with hx|hx|hx
 ·exact ⟨b.1-u.1,u.1-a.1,by omega,by omega,by omega,by grind,by grind⟩
 ·rcases Int.lt_trichotomy a.2 b.2 with hy|hy|hy
  ·exact ⟨b.2-u.2,u.2-a.2,by omega,by omega,by omega,by grind,by grind⟩
  ·exact ⟨1,0,by omega,by omega,by omega,by omega,by omega⟩
  ·exact ⟨u.2-b.2,a.2-u.2,by omega,by omega,by omega,by grind,by grind⟩
 ·exact ⟨u.1-b.1,a.1-u.1,by omega,by omega,by omega,by grind,by grind⟩
theorem pX {a b c d:Pt} (h:rS a b c):E8 a b c d:=by
 obtain ⟨s,t,h1,h2,h3,h4,h5⟩:=h
 exact ⟨s,t,s+t,0,h1,h2,by omega,by omega,by omega,h3,by omega,by omega⟩
theorem DP {m n:Int} (h:sQ m*sQ n<0):(m<0∧0<n)∨(0<m∧n<0):=by
 unfold sQ at h
 split at h<;>split at h<;>(try split at h)<;>omega
theorem C3 {a b c d:Pt} (h:b9 a b c d=true):E8 a b c d:=by
 simp only[b9,Bool.or_eq_true,Bool.and_eq_true,decide_eq_true_eq] at h
 rcases h with (((h|h)|h)|h)|⟨h1,h2⟩
 ·exact pX (uF h)
 ·exact (pX (uF h):E8 a b d c).AR0
 ·exact (pX (uF h):E8 c d a b).symm
 ·exact (pX (uF h):E8 c d b a).AR0.symm
 ·have e:=O4 a b c d
  have h1:=DP h1
  have h2:=DP h2
  have k1:aE c d b*a.1-aE c d a*b.1=aE a b c*d.1-aE a b d*c.1:=by simp only[aE];grind
  have k2:aE c d b*a.2-aE c d a*b.2=aE a b c*d.2-aE a b d*c.2:=by simp only[aE];grind
  rcases h2 with ⟨h3,h4⟩|⟨h3,h4⟩
  ·have h5:0<aE a b c∧aE a b d<0:=by rcases h1 with h|h<;>omega
   refine ⟨aE c d b,-aE c d a,-aE a b d,aE a b c,by omega,by omega,by omega,by omega,by omega,by omega,?_,?_⟩
   ·rw[Int.neg_mul,Int.neg_mul];omega
   ·rw[Int.neg_mul,Int.neg_mul];omega
  ·have h5:aE a b c<0∧0<aE a b d:=by rcases h1 with h|h<;>omega
   refine ⟨-aE c d b,aE c d a,aE a b d,-aE a b c,by omega,by omega,by omega,by omega,by omega,by omega,?_,?_⟩
   ·rw[Int.neg_mul,Int.neg_mul];omega
   ·rw[Int.neg_mul,Int.neg_mul];omega
theorem cY {s x:Int} (hs:s≠0) (h:s*x=0):x=0:=by
 rcases Int.mul_eq_zero.1 h with h|h
 ·exact absurd h hs
 ·exact h
theorem ARV {a b u:Pt} (h0:aE a b u=0) (h:(a.2≠b.2∧min a.2 b.2≤u.2∧u.2≤max a.2 b.2)∨(a.2=b.2∧a.1≠b.1∧min a.1 b.1≤u.1∧u.1≤max a.1 b.1)):nF a b u=true:=by
 rcases h with ⟨h1,h2,h3⟩|⟨h1,h2,h3,h4⟩
 ·rcases Int.lt_or_lt_of_ne h1 with h|h
  ·exact j5 h0 h (by omega) (by omega)
  ·rw[←EJ]
   exact j5 (by rw[eX,h0];rfl) h (by omega) (by omega)
 ·have:u.2=a.2:=by
   simp only[aE] at h0
   have h5:(b.1-a.1)*(u.2-a.2)=0:=by rw[h1] at h0 ⊢;grind
   have:=cY (by omega) h5
   omega
  exact PG this.symm (by omega) h3 h4
theorem ovl {a b c d:Int} (q:min a b≤max c d∧min c d≤max a b):(min a b≤c∧c≤max a b)∨(min a b≤d∧d≤max a b)∨(min c d≤a∧a≤max c d)∨(min c d≤b∧b≤max c d):=by omega
theorem AQB {a b c d:Pt} (hab:a≠b) (hcd:c≠d) (n1:nF a b c=false) (n2:nF a b d=false) (n3:nF c d a=false) (n4:nF c d b=false) (r1:aE c d a=0∧aE c d b=0) (r2:aE a b c=0∧aE a b d=0)
  (q1:min a.1 b.1≤max c.1 d.1∧min c.1 d.1≤max a.1 b.1) (q2:min a.2 b.2≤max c.2 d.2∧min c.2 d.2≤max a.2 b.2):False:=by
 have nab:a.2≠b.2∨(a.2=b.2∧a.1≠b.1):=by
  by_cases h:a.2=b.2
  ·exact .inr ⟨h,fun h'=>hab (Prod.ext h' h)⟩
  ·exact .inl h
 have ncd:c.2≠d.2∨(c.2=d.2∧c.1≠d.1):=by
  by_cases h:c.2=d.2
  ·exact .inr ⟨h,fun h'=>hcd (Prod.ext h' h)⟩
  ·exact .inl h
 have f1:∀ {a b u:Pt},aE a b u=0→nF a b u=false→(a.2≠b.2→min a.2 b.2≤u.2→u.2≤max a.2 b.2→False)∧(a.2=b.2→a.1≠b.1→min a.1 b.1≤u.1→u.1≤max a.1 b.1→False):=by
  intro a b u hz hn
  refine ⟨fun x1 x2 x3=>?_,fun x1 x2 x3 x4=>?_⟩
  ·rw[ARV hz (.inl ⟨x1,x2,x3⟩)] at hn;cases hn
  ·rw[ARV hz (.inr ⟨x1,x2,x3,x4⟩)] at hn;cases hn
 obtain ⟨a1,a2⟩:=f1 r2.1 n1
 obtain ⟨b1,b2⟩:=f1 r2.2 n2
 obtain ⟨c1,c2⟩:=f1 r1.1 n3
 obtain ⟨d1,d2⟩:=f1 r1.2 n4
 have flat:a.2=b.2→c.2=a.2∧d.2=a.2:=fun hh=>by
  have x1:a.1≠b.1:=fun h'=>hab (Prod.ext h' hh)
  have y1:=r2.1;have y2:=r2.2
  simp only[aE] at y1 y2
  have z1:(b.1-a.1)*(c.2-a.2)=0:=by rw[hh] at y1 ⊢;grind
  have z2:(b.1-a.1)*(d.2-a.2)=0:=by rw[hh] at y2 ⊢;grind
  have:=cY (by omega) z1
  have:=cY (by omega) z2
  omega
 have flat':c.2=d.2→a.2=c.2∧b.2=c.2:=fun hh=>by
  have x1:c.1≠d.1:=fun h'=>hcd (Prod.ext h' hh)
  have y1:=r1.1;have y2:=r1.2
  simp only[aE] at y1 y2
  have z1:(d.1-c.1)*(a.2-c.2)=0:=by rw[hh] at y1 ⊢;grind
  have z2:(d.1-c.1)*(b.2-c.2)=0:=by rw[hh] at y2 ⊢;grind
  have:=cY (by omega) z1
  have:=cY (by omega) z2
  omega
 by_cases hf:a.2=b.2
 ·obtain ⟨x1,x2⟩:=flat hf
  have x3:a.1≠b.1:=fun h'=>hab (Prod.ext h' hf)
  have x5:c.2=d.2:=x1.trans x2.symm
  have x4:c.1≠d.1:=fun h'=>hcd (Prod.ext h' x5)
  rcases ovl q1 with h|h|h|h
  ·exact a2 hf x3 h.1 h.2
  ·exact b2 hf x3 h.1 h.2
  ·exact c2 x5 x4 h.1 h.2
  ·exact d2 x5 x4 h.1 h.2
 ·have hg:c.2≠d.2:=fun hh=>hf ((flat' hh).1.trans (flat' hh).2.symm)
  rcases ovl q2 with h|h|h|h
  ·exact a1 hf h.1 h.2
  ·exact b1 hf h.1 h.2
  ·exact c1 hg h.1 h.2
  ·exact d1 hg h.1 h.2
theorem DL {a b c d:Pt} (hab:a≠b) (hcd:c≠d) (h:E8 a b c d):b9 a b c d=true:=by
 obtain ⟨s,t,s',t',h1,h2,h3,h4,h5,h6,h7,h8⟩:=h
 have g:s*aE c d a+t*aE c d b=0:=by
  simp only[aE];grind
 have g':s'*aE a b c+t'*aE a b d=0:=by
  simp only[aE];grind
 have e:=O4 a b c d
 refine Classical.byContradiction fun hm=>?_
 have hm:b9 a b c d=false:=by simpa using hm
 obtain ⟨n1,n2,n3,n4⟩:=mX hm
 have ms:=lD hm
 have on3:t=0→False:=fun ht=>by
  subst ht
  have:rS c d a:=⟨s',t',h3,h4,by omega,by rw[←h5,Int.add_zero];omega,by rw[←h5,Int.add_zero];omega⟩
  rw[this.on] at n3;cases n3
 have on4:s=0→False:=fun hs=>by
  subst hs
  have:rS c d b:=⟨s',t',h3,h4,by omega,by rw[←h5,Int.zero_add];omega,by rw[←h5,Int.zero_add];omega⟩
  rw[this.on] at n4;cases n4
 have on1:t'=0→False:=fun ht=>by
  subst ht
  have:rS a b c:=⟨s,t,h1,h2,h6,by rw[h5,Int.add_zero];omega,by rw[h5,Int.add_zero];omega⟩
  rw[this.on] at n1;cases n1
 have on2:s'=0→False:=fun hs=>by
  subst hs
  have:rS a b d:=⟨s,t,h1,h2,h6,by rw[h5,Int.zero_add];omega,by rw[h5,Int.zero_add];omega⟩
  rw[this.on] at n2;cases n2
 have sgns:∀ {s t x y:Int},0<s→0<t→s*x+t*y=0→(x=0∧y=0)∨(0<x∧y<0)∨(x<0∧0<y):=by
  intro s t x y hs ht hh
  rcases Int.lt_trichotomy x 0 with hx|hx|hx
  ·have:s*x<0:=Int.mul_neg_of_pos_of_neg hs hx
   have:0<y:=oC (a:=t) (by omega) ht
   omega
  ·subst hx
   have:=cY (s:=t) (x:=y) (by omega) (by omega)
   omega
  ·have:0<s*x:=Int.mul_pos hs hx
   have hy:0 < -y:=oC (a:=t) (by rw[Int.mul_neg];omega) ht
   omega
 have hs:0<s:=by rcases Int.lt_or_eq_of_le h1 with h|h;exact h;exact (on4 h.symm).elim
 have ht:0<t:=by rcases Int.lt_or_eq_of_le h2 with h|h;exact h;exact (on3 h.symm).elim
 have hs':0<s':=by rcases Int.lt_or_eq_of_le h3 with h|h;exact h;exact (on2 h.symm).elim
 have ht':0<t':=by rcases Int.lt_or_eq_of_le h4 with h|h;exact h;exact (on1 h.symm).elim
 have r1:=sgns hs ht g
 have r2:=sgns hs' ht' g'
 rcases r1 with r1|r1
 ·have r2:aE a b c=0∧aE a b d=0:=by rcases r2 with r2|r2;exact r2;clear on1 on2 on3 on4 sgns;omega
  have q2:min a.2 b.2≤max c.2 d.2∧min c.2 d.2≤max a.2 b.2:=by
   have e1:=cH h1 (Int.min_le_left a.2 b.2);have e2:=cH h2 (Int.min_le_right a.2 b.2)
   have e3:=cH h3 (Int.le_max_left c.2 d.2);have e4:=cH h4 (Int.le_max_right c.2 d.2)
   have e5:=cH h3 (Int.min_le_left c.2 d.2);have e6:=cH h4 (Int.min_le_right c.2 d.2)
   have e7:=cH h1 (Int.le_max_left a.2 b.2);have e8:=cH h2 (Int.le_max_right a.2 b.2)
   constructor
   ·refine kP h6 ?_
    rw[Int.add_mul,h5,Int.add_mul];omega
   ·refine kP (s:=s'+t') (by omega) ?_
    rw[Int.add_mul,←h5,Int.add_mul];omega
  have q1:min a.1 b.1≤max c.1 d.1∧min c.1 d.1≤max a.1 b.1:=by
   have e1:=cH h1 (Int.min_le_left a.1 b.1);have e2:=cH h2 (Int.min_le_right a.1 b.1)
   have e3:=cH h3 (Int.le_max_left c.1 d.1);have e4:=cH h4 (Int.le_max_right c.1 d.1)
   have e5:=cH h3 (Int.min_le_left c.1 d.1);have e6:=cH h4 (Int.min_le_right c.1 d.1)
   have e7:=cH h1 (Int.le_max_left a.1 b.1);have e8:=cH h2 (Int.le_max_right a.1 b.1)
   constructor
   ·refine kP h6 ?_
    rw[Int.add_mul,h5,Int.add_mul];omega
   ·refine kP (s:=s'+t') (by omega) ?_
    rw[Int.add_mul,←h5,Int.add_mul];omega
  exact AQB hab hcd n1 n2 n3 n4 r1 r2 q1 q2
 ·rcases r2 with r2|r2
  ·omega
  ·exact ms ⟨by omega,by omega⟩
theorem E8.sub {a b c d u v:Pt} (hu:rS a b u) (hv:rS a b v) (h:E8 u v c d):E8 a b c d:=by
 obtain ⟨s,t,s',t',h1,h2,h3,h4,h5,h6,h7,h8⟩:=h
 obtain ⟨p,q,k1,k2,k3,k4,k5⟩:=hu
 obtain ⟨p',q',l1,l2,l3,l4,l5⟩:=hv
 have m1:0<(p+q)*(p'+q'):=Int.mul_pos k3 l3
 refine ⟨s*(p'+q')*p+t*(p+q)*p',s*(p'+q')*q+t*(p+q)*q',(p+q)*(p'+q')*s',(p+q)*(p'+q')*t',?_,?_,?_,?_,?_,?_,?_,?_⟩
 ·exact Int.add_nonneg (Int.mul_nonneg (Int.mul_nonneg h1 (by omega)) k1) (Int.mul_nonneg (Int.mul_nonneg h2 (by omega)) l1)
 ·exact Int.add_nonneg (Int.mul_nonneg (Int.mul_nonneg h1 (by omega)) k2) (Int.mul_nonneg (Int.mul_nonneg h2 (by omega)) l2)
 ·exact Int.mul_nonneg (by omega) h3
 ·exact Int.mul_nonneg (by omega) h4
 ·rw[←Int.mul_add,←h5];grind
 ·have:0<(p+q)*(p'+q')*(s+t):=Int.mul_pos m1 h6
  have e:s*(p'+q')*p+t*(p+q)*p'+(s*(p'+q')*q+t*(p+q)*q')=(p+q)*(p'+q')*(s+t):=by grind
  omega
 ·have e1:(s*(p'+q')*p+t*(p+q)*p')*a.1+(s*(p'+q')*q+t*(p+q)*q')*b.1=s*(p'+q')*(p*a.1+q*b.1)+t*(p+q)*(p'*a.1+q'*b.1):=by grind
  have e2:s*(p'+q')*((p+q)*u.1)+t*(p+q)*((p'+q')*v.1)=(p+q)*(p'+q')*(s*u.1+t*v.1):=by grind
  have e3:(p+q)*(p'+q')*(s'*c.1+t'*d.1)=(p+q)*(p'+q')*s'*c.1+(p+q)*(p'+q')*t'*d.1:=by grind
  rw[e1,←k4,←l4,e2,h7,e3]
 ·have e1:(s*(p'+q')*p+t*(p+q)*p')*a.2+(s*(p'+q')*q+t*(p+q)*q')*b.2=s*(p'+q')*(p*a.2+q*b.2)+t*(p+q)*(p'*a.2+q'*b.2):=by grind
  have e2:s*(p'+q')*((p+q)*u.2)+t*(p+q)*((p'+q')*v.2)=(p+q)*(p'+q')*(s*u.2+t*v.2):=by grind
  have e3:(p+q)*(p'+q')*(s'*c.2+t'*d.2)=(p+q)*(p'+q')*s'*c.2+(p+q)*(p'+q')*t'*d.2:=by grind
  rw[e1,←k5,←l5,e2,h8,e3]
theorem sG {a b c d u v:Pt} (hn:¬ E8 a b c d) (hu:rS a b u) (hv:rS a b v):b9 c d u v=false:=by
 rw[Bool.eq_false_iff]
 intro h
 exact hn ((C3 h).symm.sub hu hv)
def DT (a b u:Pt):Prop:=∃ s t:Int,0≤s∧0<t∧(s+t)*u.1=s*a.1+t*b.1∧(s+t)*u.2=s*a.2+t*b.2
theorem DT.seg {a b u:Pt} (h:DT a b u):rS a b u:=by
 obtain ⟨s,t,h1,h2,h3,h4⟩:=h
 exact ⟨s,t,h1,by omega,by omega,h3,h4⟩
theorem U5 {c a b u v:Pt} (hab:a≠b) (hf:¬ (aE c a b=0∧0<lY c a b)) (hu:DT a b u) (hv:DT a b v):b9 c a u v=false:=by
 rw[Bool.eq_false_iff]
 intro h
 obtain ⟨s,t,s',t',h1,h2,h3,h4,h5,h6,h7,h8⟩:=C3 h
 obtain ⟨p,q,k1,k2,k4,k5⟩:=hu
 obtain ⟨p',q',l1,l2,l4,l5⟩:=hv
 have kp:0<p+q:=by omega
 have lp:0<p'+q':=by omega
 have m1:0<(p+q)*(p'+q'):=Int.mul_pos kp lp
 have e1:(p+q)*(p'+q')*s*(c.1-a.1)=(s'*(p'+q')*q+t'*(p+q)*q')*(b.1-a.1):=by
  have e:(p+q)*(p'+q')*(s*c.1+t*a.1)=(p+q)*(p'+q')*(s'*u.1+t'*v.1):=by rw[h7]
  have e':(p+q)*(p'+q')*(s+t)*a.1=(p+q)*(p'+q')*(s'+t')*a.1:=by rw[h5]
  grind
 have e2:(p+q)*(p'+q')*s*(c.2-a.2)=(s'*(p'+q')*q+t'*(p+q)*q')*(b.2-a.2):=by
  have e:(p+q)*(p'+q')*(s*c.2+t*a.2)=(p+q)*(p'+q')*(s'*u.2+t'*v.2):=by rw[h8]
  have e':(p+q)*(p'+q')*(s+t)*a.2=(p+q)*(p'+q')*(s'+t')*a.2:=by rw[h5]
  grind
 have hQ:0<s'*(p'+q')*q+t'*(p+q)*q':=by
  have x1:0≤s'*(p'+q')*q:=Int.mul_nonneg (Int.mul_nonneg h3 (by omega)) (by omega)
  have x2:0≤t'*(p+q)*q':=Int.mul_nonneg (Int.mul_nonneg h4 (by omega)) (by omega)
  rcases Int.lt_or_eq_of_le h3 with x|x
  ·have:=Int.mul_pos (Int.mul_pos x lp) k2;omega
  ·have:0<t':=by omega
   have:=Int.mul_pos (Int.mul_pos this kp) l2;omega
 generalize s'*(p'+q')*q+t'*(p+q)*q'=Q at e1 e2 hQ
 generalize hS:(p+q)*(p'+q')*s=S at e1 e2
 have hS0:0≤S:=by rw[←hS];exact Int.mul_nonneg (by omega) h1
 have hd:0<(b.1-a.1)*(b.1-a.1)+(b.2-a.2)*(b.2-a.2):=by
  have y1:0≤(b.1-a.1)*(b.1-a.1):=ANS _
  have y2:0≤(b.2-a.2)*(b.2-a.2):=ANS _
  by_cases z:b.1-a.1=0
  ·have z2:b.2-a.2≠0:=fun h'=>hab (Prod.ext (by omega) (by omega))
   have:(b.2-a.2)*(b.2-a.2)≠0:=fun h'=>by rcases Int.mul_eq_zero.1 h' with h|h<;>omega
   omega
  ·have:(b.1-a.1)*(b.1-a.1)≠0:=fun h'=>by rcases Int.mul_eq_zero.1 h' with h|h<;>omega
   omega
 have hSpos:0<S:=by
  rcases Int.lt_or_eq_of_le hS0 with x|x
  ·exact x
  ·rw[←x] at e1 e2
   have z1:=cY (s:=Q) (x:=b.1-a.1) (by omega) (by omega)
   have z2:=cY (s:=Q) (x:=b.2-a.2) (by omega) (by omega)
   exact absurd (Prod.ext (by omega) (by omega)) hab
 refine hf ⟨?_,?_⟩
 ·have:S*aE c a b=0:=by
   simp only[aE]
   have:S*((a.1-c.1)*(b.2-c.2)-(a.2-c.2)*(b.1-c.1))=(S*(c.2-a.2))*(b.1-a.1)-(S*(c.1-a.1))*(b.2-a.2):=by grind
   rw[this,e1,e2];grind
  exact cY (by omega) this
 ·have:S*lY c a b=Q*((b.1-a.1)*(b.1-a.1)+(b.2-a.2)*(b.2-a.2)):=by
   simp only[lY]
   have:S*((c.1-a.1)*(b.1-a.1)+(c.2-a.2)*(b.2-a.2))=(S*(c.1-a.1))*(b.1-a.1)+(S*(c.2-a.2))*(b.2-a.2):=by grind
   rw[this,e1,e2];grind
  have:0<S*lY c a b:=by rw[this];exact Int.mul_pos hQ hd
  exact oC this hSpos
def oG (a b u:Pt):Prop:=∃ s t:Int,0<s∧0<t∧(s+t)*u.1=s*a.1+t*b.1∧(s+t)*u.2=s*a.2+t*b.2
theorem oG.r {a b u:Pt} (h:oG a b u):DT a b u:=by
 obtain ⟨s,t,h1,h2,h3,h4⟩:=h
 exact ⟨s,t,by omega,h2,h3,h4⟩
theorem oG.swap {a b u:Pt} (h:oG a b u):oG b a u:=by
 obtain ⟨s,t,h1,h2,h3,h4⟩:=h
 exact ⟨t,s,h2,h1,by rw[Int.add_comm t s];omega,by rw[Int.add_comm t s];omega⟩
theorem oG.seg {a b u:Pt} (h:oG a b u):rS a b u:=h.r.seg
theorem JD (a b:Pt):DT a b b:=⟨0,1,by omega,by omega,by omega,by omega⟩
def sg (a b:Pt):Bool:=decide (b.2<a.2)||(decide (b.2=a.2)&&decide (a.1<b.1))
def C4 (u v w:Pt):Bool:=if u.2≤v.2 then dr u v w else dr v u w
theorem AH {a b u v:Pt} (hm:b9 a b u v=false):(hit a b u ^^ hit a b v)=(C4 u v a ^^ C4 u v b):=by
 unfold C4
 by_cases h:u.2≤v.2
 ·rw[if_pos h,if_pos h];exact G9 h hm
 ·rw[if_neg h,if_neg h,Bool.xor_comm];exact G9 (by omega) (by rw[IJ];exact hm)
theorem lA {u v w:Pt} (h:aE u v w=0):C4 u v w=false:=by
 unfold C4 dr
 split
 ·rw[h];simp
 ·rw[eX u v w,h];simp
structure vJ (x y:Int):Prop where
 p:0<x↔0<y
 n:x<0↔y<0
theorem B8 {k s x y:Int} (hk:0<k) (hs:0<s) (h:k*x=s*y):vJ x y:=by
 constructor
 ·constructor
  ·intro hx;exact oC (a:=s) (by rw[←h];exact Int.mul_pos hk hx) hs
  ·intro hy;exact oC (a:=k) (by rw[h];exact Int.mul_pos hs hy) hk
 ·constructor
  ·intro hx
   have:0 < -y:=oC (a:=s) (by rw[Int.mul_neg,←h];have:=Int.mul_neg_of_pos_of_neg hk hx;omega) hs
   omega
  ·intro hy
   have:0 < -x:=oC (a:=k) (by rw[Int.mul_neg,h];have:=Int.mul_neg_of_pos_of_neg hs hy;omega) hk
   omega
theorem AE1 {a b c u:Pt} (hu:oG a b u):(hit b c u ^^ C4 u b c)=if a.2<b.2 then decide (c.2≤b.2)&&decide (aE a b c<0) else decide (b.2<c.2)&&decide (0<aE a b c):=by
 obtain ⟨s,t,h1,h2,h3,h4⟩:=hu
 have k1:vJ (aE b c u) (aE a b c):=B8 (k:=s+t) (s:=s) (by omega) h1 (by simp only[aE];grind)
 have k2:vJ (aE u b c) (aE a b c):=B8 (k:=s+t) (s:=s) (by omega) h1 (by simp only[aE];grind)
 have k3:vJ (u.2-b.2) (a.2-b.2):=B8 (k:=s+t) (s:=s) (by omega) h1 (by grind)
 obtain ⟨p1,n1⟩:=k1
 obtain ⟨p2,n2⟩:=k2
 obtain ⟨p3,n3⟩:=k3
 have e3:=eX u b c
 unfold hit C4 dr
 rw[e3]
 generalize aE b c u=X at *
 generalize aE u b c=Y at *
 generalize aE a b c=Z at *
 rcases Int.lt_trichotomy Z 0 with hz|hz|hz<;>rcases Int.lt_trichotomy a.2 b.2 with ha|ha|ha<;>rcases Int.lt_trichotomy c.2 b.2 with hc|hc|hc<;>rcases Int.lt_or_le u.2 c.2 with hd|hd<;>grind
theorem AE2 {a b c v:Pt} (hv:oG b c v):(hit a b v ^^ C4 b v a)=if c.2<b.2 then decide (a.2≤b.2)&&decide (0<aE a b c) else decide (b.2<a.2)&&decide (aE a b c<0):=by
 obtain ⟨s,t,h1,h2,h3,h4⟩:=hv
 have k1:vJ (aE a b v) (aE a b c):=B8 (k:=s+t) (s:=t) (by omega) h2 (by simp only[aE];grind)
 have k2:vJ (aE b v a) (aE a b c):=B8 (k:=s+t) (s:=t) (by omega) h2 (by simp only[aE];grind)
 have k3:vJ (v.2-b.2) (c.2-b.2):=B8 (k:=s+t) (s:=t) (by omega) h2 (by grind)
 obtain ⟨p1,n1⟩:=k1
 obtain ⟨p2,n2⟩:=k2
 obtain ⟨p3,n3⟩:=k3
 have e3:=eX b v a
 unfold hit C4 dr
 rw[e3]
 generalize aE a b v=X at *
 generalize aE b v a=Y at *
 generalize aE a b c=Z at *
 rcases Int.lt_trichotomy Z 0 with hz|hz|hz<;>rcases Int.lt_trichotomy a.2 b.2 with ha|ha|ha<;>rcases Int.lt_trichotomy c.2 b.2 with hc|hc|hc<;>rcases Int.lt_or_le v.2 a.2 with hd|hd<;>grind
theorem APQ {a b c:Pt} (hf:¬ (aE a b c=0∧0<lY a b c)) (h:(a.2<b.2∧c.2<b.2)∨(b.2<a.2∧b.2<c.2)):aE a b c≠0:=by
 intro h0
 refine hf ⟨h0,?_⟩
 have hy:0<(a.2-b.2)*(c.2-b.2):=by
  rcases h with ⟨h1,h2⟩|⟨h1,h2⟩
  ·have:=Int.mul_pos (show 0<b.2-a.2 by omega) (show 0<b.2-c.2 by omega)
   have e:(a.2-b.2)*(c.2-b.2)=(b.2-a.2)*(b.2-c.2):=by grind
   omega
  ·exact Int.mul_pos (by omega) (by omega)
 have hx:0≤(a.1-b.1)*(c.1-b.1):=by
  have e:(a.2-b.2)*(c.2-b.2)*((a.1-b.1)*(c.1-b.1))=((a.2-b.2)*(c.1-b.1))*((a.2-b.2)*(c.1-b.1)):=by
   simp only[aE] at h0
   have h1:(a.1-b.1)*(c.2-b.2)=(a.2-b.2)*(c.1-b.1):=by grind
   have:(a.2-b.2)*(c.2-b.2)*((a.1-b.1)*(c.1-b.1))=((a.1-b.1)*(c.2-b.2))*((a.2-b.2)*(c.1-b.1)):=by grind
   rw[this,h1]
  have e2:0≤(a.2-b.2)*(c.2-b.2)*((a.1-b.1)*(c.1-b.1)):=by rw[e];exact ANS _
  rcases Int.lt_or_le ((a.1-b.1)*(c.1-b.1)) 0 with h|h
  ·have:=Int.mul_neg_of_pos_of_neg hy h;omega
  ·exact h
 unfold lY
 omega
theorem ASG {a b c u v:Pt} (hab:a≠b) (hbc:b≠c) (hf:¬ (aE a b c=0∧0<lY a b c)) (hu:oG a b u) (hv:oG b c v) :
  ((hit b c u ^^ C4 u b c) ^^ (hit a b v ^^ C4 b v a))=(sg a b ^^ sg b c):=by
 rw[AE1 hu,AE2 hv]
 have nf:=@APQ a b c hf
 unfold sg
 rcases Int.lt_trichotomy a.2 b.2 with ha|ha|ha
 ·rcases Int.lt_trichotomy c.2 b.2 with hc|hc|hc
  ·have:=nf (.inl ⟨ha,hc⟩)
   rcases Int.lt_or_lt_of_ne this with h|h<;>grind
  ·have hx:b.1≠c.1:=fun h=>hbc (Prod.ext h hc.symm)
   have e:aE a b c = -((b.2-a.2)*(c.1-b.1)):=by simp only[aE];rw[hc];grind
   rcases Int.lt_or_lt_of_ne hx with h|h
   ·have:=Int.mul_pos (show 0<b.2-a.2 by omega) (show 0<c.1-b.1 by omega)
    grind
   ·have:=Int.mul_neg_of_pos_of_neg (show 0<b.2-a.2 by omega) (show c.1-b.1<0 by omega)
    grind
  ·grind
 ·have hx:a.1≠b.1:=fun h=>hab (Prod.ext h ha)
  rcases Int.lt_trichotomy c.2 b.2 with hc|hc|hc
  ·have e:aE a b c=(b.1-a.1)*(c.2-b.2):=by simp only[aE];rw[ha];grind
   rcases Int.lt_or_lt_of_ne hx with h|h
   ·have:=Int.mul_neg_of_pos_of_neg (show 0<b.1-a.1 by omega) (show c.2-b.2<0 by omega)
    grind
   ·have:=Int.mul_pos (show 0<a.1-b.1 by omega) (show 0<b.2-c.2 by omega)
    have e':(a.1-b.1)*(b.2-c.2)=(b.1-a.1)*(c.2-b.2):=by grind
    grind
  ·have hx2:b.1≠c.1:=fun h=>hbc (Prod.ext h hc.symm)
   have e:aE a b c=0:=by simp only[aE];rw[ha,hc];grind
   have hd:¬ 0<lY a b c:=fun h=>hf ⟨e,h⟩
   have ed:lY a b c=(a.1-b.1)*(c.1-b.1):=by simp only[lY];rw[ha,hc];grind
   rcases Int.lt_or_lt_of_ne hx with h|h<;>rcases Int.lt_or_lt_of_ne hx2 with h'|h'
   ·grind
   ·have:=Int.mul_pos (show 0<b.1-a.1 by omega) (show 0<b.1-c.1 by omega)
    have e':(b.1-a.1)*(b.1-c.1)=(a.1-b.1)*(c.1-b.1):=by grind
    omega
   ·have:=Int.mul_pos (show 0<a.1-b.1 by omega) (show 0<c.1-b.1 by omega)
    omega
   ·grind
  ·have e:aE a b c=(b.1-a.1)*(c.2-b.2):=by simp only[aE];rw[ha];grind
   rcases Int.lt_or_lt_of_ne hx with h|h
   ·have:=Int.mul_pos (show 0<b.1-a.1 by omega) (show 0<c.2-b.2 by omega)
    grind
   ·have:=Int.mul_neg_of_pos_of_neg (show 0<c.2-b.2 by omega) (show b.1-a.1<0 by omega)
    have e':(c.2-b.2)*(b.1-a.1)=(b.1-a.1)*(c.2-b.2):=by grind
    grind
 ·rcases Int.lt_trichotomy c.2 b.2 with hc|hc|hc
  ·grind
  ·have hx:b.1≠c.1:=fun h=>hbc (Prod.ext h hc.symm)
   have e:aE a b c=(a.2-b.2)*(c.1-b.1):=by simp only[aE];rw[hc];grind
   rcases Int.lt_or_lt_of_ne hx with h|h
   ·have:=Int.mul_pos (show 0<a.2-b.2 by omega) (show 0<c.1-b.1 by omega)
    grind
   ·have:=Int.mul_neg_of_pos_of_neg (show 0<a.2-b.2 by omega) (show c.1-b.1<0 by omega)
    grind
  ·have:=nf (.inr ⟨ha,hc⟩)
   rcases Int.lt_or_lt_of_ne this with h|h<;>grind
structure fH (p:List Pt):Prop where
 n3:3≤p.length
 ne:∀ i,i<p.length→pt p i≠nx p i
 nf:∀ i,i<p.length→¬ (aE (pt p i) (nx p i) (uO p i)=0∧0<lY (pt p i) (nx p i) (uO p i))
 ap:∀ i k,i<p.length→k<p.length→k≠i→k≠(i+1) % p.length→i≠(k+1) % p.length→¬ E8 (pt p i) (nx p i) (pt p k) (nx p k)
theorem EI (p:List Pt) (i:Nat):nx p ((i+1) % p.length)=uO p i:=by
 unfold nx uO
 rw[Nat.mod_add_mod]
theorem next_ne {n i:Nat} (hn:3≤n) (hi:i<n):(i+1) % n≠i∧i≠((i+1) % n+1) % n:=by
 rw[Nat.mod_add_mod]
 rcases Nat.lt_or_ge (i+1) n with h|h
 ·rw[Nat.mod_eq_of_lt h]
  refine ⟨by omega,?_⟩
  rcases Nat.lt_or_ge (i+1+1) n with h'|h'
  ·rw[Nat.mod_eq_of_lt h'];omega
  ·rw[show i+1+1=n by omega,Nat.mod_self];omega
 ·have e:i+1=n:=by omega
  rw[e,Nat.mod_self,show n+1=1+n by omega,Nat.add_mod_right,Nat.mod_eq_of_lt (by omega)]
  omega
theorem AMD {n i j:Nat} (hi:i<n) (hj:j<n) (h:(i+1) % n=(j+1) % n):i=j:=by
 rcases Nat.lt_or_ge (i+1) n with h1|h1<;>rcases Nat.lt_or_ge (j+1) n with h2|h2
 ·rw[Nat.mod_eq_of_lt h1,Nat.mod_eq_of_lt h2] at h;omega
 ·rw[Nat.mod_eq_of_lt h1,show j+1=n by omega,Nat.mod_self] at h;omega
 ·rw[Nat.mod_eq_of_lt h2,show i+1=n by omega,Nat.mod_self] at h;omega
 ·omega
section
variable {p : List Pt}
theorem fH.right (S:fH p) {i j:Nat} (hi:i<p.length) (hj:j<p.length) (h1:j≠i) (h2:j≠(i+1) % p.length) {u v:Pt} (hu:DT (pt p i) (nx p i) u) (hv:DT (pt p i) (nx p i) v):b9 (pt p j) (nx p j) u v=false:=by
 by_cases h:i=(j+1) % p.length
 ·have e:nx p j=pt p i:=by rw[h];rfl
  have e2:uO p j=nx p i:=by rw[←EI,←h]
  rw[e]
  refine U5 (S.ne i hi) ?_ hu hv
  have:=S.nf j hj
  rw[e,e2] at this
  exact this
 ·exact sG (S.ap i j hi hj h1 h2 h) hu.seg hv.seg
theorem AE3 (a b c:Pt):aE c b a = - aE a b c:=by simp only[aE];grind
theorem AO5 (a b c:Pt):lY c b a=lY a b c:=by simp only[lY];grind
theorem fH.left (S:fH p) {i j:Nat} (hi:i<p.length) (hj:j<p.length) (h1:j≠i) (h2:i≠(j+1) % p.length) {u v:Pt} (hu:DT (nx p i) (pt p i) u) (hv:DT (nx p i) (pt p i) v):b9 (pt p j) (nx p j) u v=false:=by
 by_cases h:j=(i+1) % p.length
 ·have e:pt p j=nx p i:=by rw[h];rfl
  have e2:nx p j=uO p i:=by rw[←EI,←h]
  rw[e,e2,BV]
  refine U5 (fun h'=>S.ne i hi h'.symm) ?_ hu hv
  rw[AE3,AO5]
  rintro ⟨x,y⟩
  exact S.nf i hi ⟨by omega,y⟩
 ·exact sG (S.ap i j hi hj h1 h h2) hu.seg.swap hv.seg.swap
theorem fH.inner (S:fH p) {i j:Nat} (hi:i<p.length) (hj:j<p.length) (h1:j≠i) {u v:Pt} (hu:oG (pt p i) (nx p i) u) (hv:oG (pt p i) (nx p i) v):b9 (pt p j) (nx p j) u v=false:=by
 by_cases h:j=(i+1) % p.length
 ·refine S.left hi hj h1 ?_ hu.swap.r hv.swap.r
  rw[h];exact (next_ne S.n3 hi).2
 ·exact S.right hi hj h1 h hu.r hv.r
end
theorem B9 {a b u v:Pt} (hu:rS a b u) (hv:rS a b v):aE u v a=0∧aE u v b=0:=by
 obtain ⟨s,t,h1,h2,h3,h4,h5⟩:=hu
 obtain ⟨s',t',k1,k2,k3,k4,k5⟩:=hv
 have d1:(s+t)*(s'+t')*(v.1-u.1)=((s+t)*t'-(s'+t')*t)*(b.1-a.1):=by
  have e1:(s+t)*((s'+t')*v.1)=(s+t)*(s'*a.1+t'*b.1):=by rw[k4]
  have e2:(s'+t')*((s+t)*u.1)=(s'+t')*(s*a.1+t*b.1):=by rw[h4]
  grind
 have d2:(s+t)*(s'+t')*(v.2-u.2)=((s+t)*t'-(s'+t')*t)*(b.2-a.2):=by
  have e1:(s+t)*((s'+t')*v.2)=(s+t)*(s'*a.2+t'*b.2):=by rw[k5]
  have e2:(s'+t')*((s+t)*u.2)=(s'+t')*(s*a.2+t*b.2):=by rw[h5]
  grind
 have f1:(s+t)*(a.1-u.1)=(-t)*(b.1-a.1):=by grind
 have f2:(s+t)*(a.2-u.2)=(-t)*(b.2-a.2):=by grind
 have g1:(s+t)*(b.1-u.1)=s*(b.1-a.1):=by grind
 have g2:(s+t)*(b.2-u.2)=s*(b.2-a.2):=by grind
 have m:(s+t)*(s'+t')*(s+t)≠0:=by
  have:=Int.mul_pos (Int.mul_pos h3 k3) h3;omega
 generalize (s+t)*t'-(s'+t')*t=C at d1 d2
 generalize hL:s+t=L at *
 generalize hL':s'+t'=L' at *
 constructor
 ·refine cY m ?_
  have e:L*L'*L*aE u v a=(L*L'*(v.1-u.1))*(L*(a.2-u.2))-(L*L'*(v.2-u.2))*(L*(a.1-u.1)):=by simp only[aE];grind
  rw[e,d1,d2,f1,f2];grind
 ·refine cY m ?_
  have e:L*L'*L*aE u v b=(L*L'*(v.1-u.1))*(L*(b.2-u.2))-(L*L'*(v.2-u.2))*(L*(b.1-u.1)):=by simp only[aE];grind
  rw[e,d1,d2,g1,g2];grind
def H (p:List Pt) (i:Nat) (u:Pt):Bool:=eZ p.length fun j=>!decide (j=i)&&hit (pt p j) (nx p j) u
section
variable {p : List Pt}
theorem q8 {a b:Bool} (h:(a ^^ b)=false):a=b:=by revert h;cases a<;>cases b<;>simp
theorem AR6 (S:fH p) {i:Nat} (hi:i<p.length) {u v:Pt} (hu:oG (pt p i) (nx p i) u) (hv:oG (pt p i) (nx p i) v):H p i u=H p i v:=by
 refine q8 ?_
 unfold H
 rw[←lM,fL (g:=fun j=>C4 u v (pt p j) ^^ C4 u v (pt p ((j+1) % p.length))) fun j hj=>?_]
 ·exact pT (fun j=>C4 u v (pt p j)) p.length
 ·by_cases h:j=i
  ·subst h
   obtain ⟨z1,z2⟩:=B9 hu.seg hv.seg
   rw[decide_eq_true rfl,lA z1,show pt p ((j+1) % p.length)=nx p j from rfl,lA z2];rfl
  ·rw[decide_eq_false h,Bool.not_false,Bool.true_and,Bool.true_and]
   exact AH (S.inner hi hj h hu hv)
theorem WG {n i:Nat} (X:Bool):eZ n (fun j=>decide (j=i)&&X)=(decide (i<n)&&X):=by
 induction n with
 | zero=>simp[eZ]
 | succ n ih =>
  rw[eZ,ih]
  by_cases h1:i<n
  ·rw[decide_eq_true h1,decide_eq_true (show i<n+1 by omega),decide_eq_false (show ¬ n=i by omega)];simp
  ·by_cases h2:n=i
   ·rw[decide_eq_false h1,decide_eq_true h2,decide_eq_true (show i<n+1 by omega)];simp
   ·rw[decide_eq_false h1,decide_eq_false h2,decide_eq_false (show ¬ i<n+1 by omega)];simp
theorem AH1 (A B C D:Nat→Bool) (n:Nat):eZ n (fun j=>A j ^^ (B j ^^ (C j ^^ D j)))=(eZ n A ^^ (eZ n B ^^ (eZ n C ^^ eZ n D))):=by
 rw[lM A fun j=>B j ^^ (C j ^^ D j),lM B fun j=>C j ^^ D j,lM C D]
theorem AR5 (S:fH p) {i:Nat} (hi:i<p.length) {u v:Pt} (hu:oG (pt p i) (nx p i) u) (hv:oG (nx p i) (uO p i) v):(H p i u ^^ H p ((i+1) % p.length) v)=(sg (pt p i) (nx p i) ^^ sg (nx p i) (uO p i)):=by
 obtain ⟨hk1,hk2⟩:=next_ne S.n3 hi
 have hk:(i+1) % p.length<p.length:=Nat.mod_lt _ (by omega)
 have ek:pt p ((i+1) % p.length)=nx p i:=rfl
 have ek2:nx p ((i+1) % p.length)=uO p i:=EI p i
 have hbc:nx p i≠uO p i:=by have:=S.ne _ hk;rwa[ek,ek2] at this
 have c:=ASG (S.ne i hi) hbc (S.nf i hi) hu hv
 rw[←c]
 generalize hkk:(i+1) % p.length=k at *
 have zu:=B9 hu.seg (rS.right (pt p i) (nx p i))
 have zv:=B9 (rS.left (nx p i) (uO p i)) hv.seg
 have e:(H p i u ^^ H p k v)=eZ p.length (fun j=>(C4 u (nx p i) (pt p j) ^^ C4 u (nx p i) (pt p ((j+1) % p.length))) ^^ ((C4 (nx p i) v (pt p j) ^^ C4 (nx p i) v (pt p ((j+1) % p.length))) ^^
   ((decide (j=i)&&(hit (pt p i) (nx p i) v ^^ C4 (nx p i) v (pt p i))) ^^ (decide (j=k)&&(hit (nx p i) (uO p i) u ^^ C4 u (nx p i) (uO p i)))))):=by
  unfold H
  rw[←lM]
  refine fL fun j hj=>?_
  rw[show pt p ((j+1) % p.length)=nx p j from rfl]
  by_cases h1:j=i
  ·subst h1
   rw[decide_eq_true rfl,decide_eq_false (fun h=>hk1 h.symm),lA zu.1,lA zu.2,lA (w:=nx p j) zv.1]
   cases hit (pt p j) (nx p j) v<;>cases C4 (nx p j) v (pt p j)<;>rfl
  ·by_cases h2:j=k
   ·subst h2
    rw[decide_eq_false h1,decide_eq_true rfl,ek,ek2,lA zu.2,lA zv.1,lA zv.2]
    cases hit (nx p i) (uO p i) u<;>cases C4 u (nx p i) (uO p i)<;>rfl
   ·rw[decide_eq_false h1,decide_eq_false h2]
    have q1:=AH (S.right hi hj h1 (by rw[hkk];exact h2) hu.r (JD _ _))
    have hv':DT (nx p k) (pt p k) v:=by rw[ek,ek2];exact hv.swap.r
    have hb':DT (nx p k) (pt p k) (nx p i):=by rw[ek,ek2];exact JD _ _
    have q2:=AH (S.left hk hj h2 (fun h=>h1 (AMD hj hi (by rw[←h,hkk]))) hb' hv')
    rw[←q1,←q2]
    cases hit (pt p j) (nx p j) u<;>cases hit (pt p j) (nx p j) v<;>cases hit (pt p j) (nx p j) (nx p i)<;>rfl
 rw[e,AH1,WG,WG,decide_eq_true hi,decide_eq_true hk,pT (fun j=>C4 u (nx p i) (pt p j)) p.length,pT (fun j=>C4 (nx p i) v (pt p j)) p.length]
 cases hit (pt p i) (nx p i) v<;>cases C4 (nx p i) v (pt p i)<;>cases hit (nx p i) (uO p i) u<;>cases C4 u (nx p i) (uO p i)<;>rfl
theorem AVW (S:fH p) (hm:∀ i,i<p.length→∃ m,oG (pt p i) (nx p i) m):∃ κ:Bool,∀ i,i<p.length→∀ u,oG (pt p i) (nx p i) u→(H p i u ^^ sg (pt p i) (nx p i))=κ:=by
 have h0:0<p.length:=by have:=S.n3;omega
 obtain ⟨m0,hm0⟩:=hm 0 h0
 refine ⟨H p 0 m0 ^^ sg (pt p 0) (nx p 0),fun i=>?_⟩
 induction i with
 | zero=>intro hi u hu;rw[AR6 S hi hu hm0]
 | succ i ih =>
  intro hi u hu
  have hi':i<p.length:=by omega
  obtain ⟨m,hmi⟩:=hm i hi'
  rw[←ih hi' m hmi]
  have e:(i+1) % p.length=i+1:=Nat.mod_eq_of_lt hi
  have en:nx p i=pt p (i+1):=by unfold nx;rw[e]
  have en2:uO p i=nx p (i+1):=by rw[←EI,e]
  have:=AR5 S hi' hmi (v:=u) (by rw[en,en2];exact hu)
  rw[e,en,en2] at this
  rw[en]
  revert this
  cases H p i m<;>cases H p (i+1) u<;>cases sg (pt p i) (pt p (i+1))<;>cases sg (pt p (i+1)) (nx p (i+1))<;>simp
end
def oR (l:List (Int×Bool)) (x:Int):Nat:=(l.filter fun f=>decide (x<f.1)).length
def val:List (Int×Bool)→Int
 | []=>0
 | e::l=>(if e.2 then -e.1 else e.1)+val l
theorem wX:∀ (a b:List (Int×Bool)),val (a++b)=val a+val b
 | [],b=>by simp[val]
 | e::a,b=>by rw[List.cons_append,val,val,wX a b];omega
theorem AN2 {a b:List (Int×Bool)} (h:a.Perm b):val a=val b:=by
 induction h with
 | nil=>rfl
 | cons x _ ih=>rw[val,val,ih]
 | swap x y l=>simp only[val];omega
 | trans _ _ h1 h2=>rw[h1,h2]
theorem AKE {a b:List (Int×Bool)} (h:a.Perm b) (x:Int):oR a x=oR b x:=(h.filter _).length_eq
theorem Y8 (a b:List (Int×Bool)) (x:Int):oR (a++b) x=oR a x+oR b x:=by unfold oR;rw[List.filter_append,List.length_append]
def lQ (n:Nat):Bool:=decide (n % 2=1)
theorem tQ (n:Nat):lQ (n+1) = !lQ n:=by
 unfold lQ
 rcases Nat.mod_two_eq_zero_or_one n with h|h
 ·rw[h,decide_eq_true (show (n+1) % 2=1 by omega)];rfl
 ·rw[h,decide_eq_false (show ¬ (n+1) % 2=1 by omega)];rfl
theorem IV (m n:Nat):lQ (m+n)=(lQ m ^^ lQ n):=by
 induction n with
 | zero=>rw[Nat.add_zero,show lQ 0=false from rfl,Bool.xor_false]
 | succ n ih=>rw[←Nat.add_assoc,tQ,tQ,ih];cases lQ m<;>cases lQ n<;>rfl
theorem AB3:∀ (n:Nat) (l:List (Int×Bool)),l.length=2*n→l.Pairwise (fun a b=>b.1<a.1)→(∀ e∈l,lQ (oR l e.1)=e.2)→0≤val l∧(l≠[]→0<val l)
 | 0,l,hl,_,_=>by
  have:l=[]:=List.eq_nil_of_length_eq_zero (by omega)
  subst this;exact ⟨Int.le_refl 0,fun h=>absurd rfl h⟩
 | n+1,[],hl,_,_=>by (rw[List.length_nil] at hl;omega)
 | n+1,[e],hl,_,_=>by simp at hl;omega
 | n+1,e::f::l,hl,hp,hc=>by
  obtain ⟨p1,hp'⟩:=List.pairwise_cons.1 hp
  obtain ⟨p2,hp''⟩:=List.pairwise_cons.1 hp'
  have hfe:f.1<e.1:=p1 f (by simp)
  have none1:∀ (l:List (Int×Bool)) (x:Int),(∀ g∈l,g.1<x)→oR l x=0:=fun l x h=>by
   unfold oR
   rw[List.length_eq_zero_iff,List.filter_eq_nil_iff]
   intro g hg
   have:=h g hg
   simp;omega
  have c1:oR (e::f::l) e.1=0:=by
   unfold oR
   rw[List.length_eq_zero_iff,List.filter_eq_nil_iff]
   intro g hg
   rcases List.mem_cons.1 hg with rfl|hg
   ·simp
   ·have:=p1 g hg;simp;omega
  have c2:oR (e::f::l) f.1=1:=by
   have:oR (f::l) f.1=0:=by
    unfold oR
    rw[List.length_eq_zero_iff,List.filter_eq_nil_iff]
    intro g hg
    rcases List.mem_cons.1 hg with rfl|hg
    ·simp
    ·have:=p2 g hg;simp;omega
   unfold oR at this ⊢
   rw[List.filter_cons,if_pos (by simpa using hfe),List.length_cons,this]
  have s1:e.2=false:=by rw[←hc e (by simp),c1];rfl
  have s2:f.2=true:=by rw[←hc f (by simp),c2];rfl
  have ih:=AB3 n l (by simp at hl;omega) hp'' fun g hg=>by
   have:=hc g (by simp[hg])
   have h1:g.1<e.1:=p1 g (by simp[hg])
   have h2:g.1<f.1:=p2 g hg
   have:oR (e::f::l) g.1=oR l g.1+1+1:=by
    unfold oR
    rw[List.filter_cons,if_pos (by simpa using h1),List.filter_cons,if_pos (by simpa using h2),List.length_cons,List.length_cons]
   rw[←hc g (by simp[hg]),this,tQ,tQ,Bool.not_not]
  rw[val,val,s1,s2]
  simp only[if_true]
  simp only[Bool.false_eq_true,if_false]
  have ih:=ih.1
  exact ⟨by omega,fun _=>by omega⟩
theorem PS {l:List (Int×Bool)} (he:lQ l.length=false) (hd:l.Pairwise fun a b=>a.1≠b.1) (hc:∀ e∈l,lQ (oR l e.1)=e.2):0≤val l∧(l≠[]→0<val l):=by
 let le:Int×Bool→Int×Bool→Bool:=fun a b=>decide (b.1≤a.1)
 have hperm:=List.mergeSort_perm l le
 have hs:(l.mergeSort le).Pairwise fun a b=>le a b=true:=List.pairwise_mergeSort (fun a b c h1 h2=>by
  simp only[le,decide_eq_true_eq] at *;omega) (fun a b=>by simp only[le,Bool.or_eq_true,decide_eq_true_eq];omega) l
 have hd':(l.mergeSort le).Pairwise fun a b=>a.1≠b.1:=(hperm.symm.pairwise_iff (R:=fun (a b:Int×Bool)=>a.1≠b.1) (fun h=>h.symm)).1 hd
 have hs':(l.mergeSort le).Pairwise fun a b=>b.1<a.1:=by
  refine (hs.and hd').imp fun {a b} h=>?_
  have h1:b.1≤a.1:=by simpa [le] using h.1
  have:=h.2
  omega
 rw[←AN2 hperm]
 have hlen:(l.mergeSort le).length=2*(l.length / 2):=by
  rw[hperm.length_eq]
  unfold lQ at he
  have:=of_decide_eq_false he
  omega
 have hv:=AB3 _ _ hlen hs' fun e hm=>by rw[AKE hperm];exact hc e (hperm.mem_iff.1 hm)
 refine ⟨hv.1,fun hne=>hv.2 fun h=>hne ?_⟩
 have hl:=hperm.length_eq
 rw[h] at hl
 exact List.eq_nil_of_length_eq_zero hl.symm
def flip (l:List (Int×Bool)):List (Int×Bool):=l.map fun e=>(e.1,!e.2)
theorem WD:∀ l:List (Int×Bool),val (flip l) = - val l
 | []=>rfl
 | e::l=>by
  show (if (!e.2) then -e.1 else e.1)+val (flip l) = -((if e.2 then -e.1 else e.1)+val l)
  rw[WD l]
  cases e.2<;>simp<;>omega
theorem AKD (l:List (Int×Bool)) (x:Int):oR (flip l) x=oR l x:=by
 unfold oR flip
 rw[List.filter_map,List.length_map];rfl
theorem ANF {l:List (Int×Bool)} (he:lQ l.length=false) (hd:l.Pairwise fun a b=>a.1≠b.1) (hc:∀ e∈l,(lQ (oR l e.1) ^^ e.2)=true):val l≤0∧(l≠[]→val l<0):=by
 have:=PS (l:=flip l) (by unfold flip;rw[List.length_map];exact he) (by unfold flip;rw[List.pairwise_map];exact hd) fun e hm=>by
  obtain ⟨f,hf,rfl⟩:=List.mem_map.1 hm
  have h:=hc f hf
  dsimp only
  rw[AKD]
  revert h
  cases lQ (oR l f.1)<;>cases f.2<;>simp
 rw[WD] at this
 refine ⟨by have:=this.1;omega,fun hne=>?_⟩
 have:=this.2 (by unfold flip;intro h;exact hne (List.map_eq_nil_iff.1 h))
 omega
def fac:Nat→Nat
 | 0=>1
 | n+1=>fac n*(n+1)
theorem OM:∀ n,0<fac n
 | 0=>by decide
 | n+1=>Nat.mul_pos (OM n) (by omega)
theorem ACA:∀ {n d:Nat},1≤d→d≤n→d ∣ fac n
 | 0,d,h1,h2=>by omega
 | n+1,d,h1,h2=>by
  rcases Nat.lt_or_ge d (n+1) with h|h
  ·exact Nat.dvd_trans (ACA h1 (by omega)) ⟨n+1,rfl⟩
  ·have:d=n+1:=by omega
   subst this
   exact ⟨fac n,Nat.mul_comm _ _⟩
def sc (N:Int) (a:Pt):Pt:=(N*a.1,N*a.2)
def cr (a b:Pt) (k:Int):Bool:=(decide (a.2≤k)&&decide (k<b.2))||(decide (b.2≤k)&&decide (k<a.2))
def rx (M:Int) (a b:Pt) (k:Int):Int:=2*M*a.1+(b.1-a.1)*(M / (b.2-a.2))*(2*(k-a.2)+1)
def ru (M:Int) (a b:Pt) (k:Int):Pt:=(rx M a b k,2*M*k+M)
def Mul (M:Int) (a b:Pt):Prop:=a.2≠b.2→M / (b.2-a.2)*(b.2-a.2)=M
theorem B7 {M:Int} {a b:Pt} {k:Int} (hM:0<M) (hd:Mul M a b) (hc:cr a b k=true):oG (sc (2*M) a) (sc (2*M) b) (ru M a b k):=by
 unfold cr at hc
 simp only[Bool.or_eq_true,Bool.and_eq_true,decide_eq_true_eq] at hc
 have he:=hd (by omega)
 generalize M / (b.2-a.2)=e at he
 have hre:rx M a b k=2*M*a.1+(b.1-a.1)*e*(2*(k-a.2)+1):=by
  unfold rx
  have:M / (b.2-a.2)=e:=by
   rw[←he];exact Int.mul_ediv_cancel _ (by omega)
  rw[this]
 have hw:0<e*(2*(k-a.2)+1)∧e*(2*(k-a.2)+1)<2*M:=by
  rcases hc with ⟨h1,h2⟩|⟨h1,h2⟩
  ·have hep:0<e:=by
    refine oC (a:=b.2-a.2) (by rw[Int.mul_comm,he];exact hM) (by omega)
   refine ⟨Int.mul_pos hep (by omega),?_⟩
   have:e*(2*(k-a.2)+1)<e*(2*(b.2-a.2)):=Int.mul_lt_mul_of_pos_left (by omega) hep
   have e2:e*(2*(b.2-a.2))=2*M:=by rw[←he];grind
   omega
  ·have hep:0 < -e:=by
    refine oC (a:=a.2-b.2) ?_ (by omega)
    have:(a.2-b.2) * -e=M:=by rw[←he];grind
    omega
   have e1:e*(2*(k-a.2)+1)=(-e)*(2*(a.2-k)-1):=by grind
   rw[e1]
   refine ⟨Int.mul_pos hep (by omega),?_⟩
   have:(-e)*(2*(a.2-k)-1)<(-e)*(2*(a.2-b.2)):=Int.mul_lt_mul_of_pos_left (by omega) hep
   have e2:(-e)*(2*(a.2-b.2))=2*M:=by rw[←he];grind
   omega
 refine ⟨2*M-e*(2*(k-a.2)+1),e*(2*(k-a.2)+1),by omega,hw.1,?_,?_⟩
 ·show _*rx M a b k=_*(2*M*a.1)+_*(2*M*b.1)
  rw[hre];grind
 ·show _*(2*M*k+M)=_*(2*M*a.2)+_*(2*M*b.2)
  have:e*(2*(k-a.2)+1)*(b.2-a.2)=M*(2*(k-a.2)+1):=by
   rw[←he];grind
  grind
theorem ACJ {M:Int} {a b c d:Pt} {k:Int} (hM:0<M) (hd:Mul M c d):hit (sc (2*M) c) (sc (2*M) d) (ru M a b k)=(cr c d k&&decide (rx M a b k<rx M c d k)):=by
 have h1:∀ y:Int,(2*M*y≤2*M*k+M↔y≤k):=fun y=>by
  constructor
  ·intro h
   rcases Int.lt_or_le k y with h'|h'
   ·have:=Int.mul_le_mul_of_nonneg_left (show k+1≤y by omega) (show 0≤2*M by omega)
    have e:2*M*(k+1)=2*M*k+2*M:=by grind
    omega
   ·exact h'
  ·intro h
   have:=Int.mul_le_mul_of_nonneg_left h (show 0≤2*M by omega)
   omega
 have h2:∀ y:Int,(2*M*k+M<2*M*y↔k<y):=fun y=>by
  have:=h1 y;omega
 by_cases hc:cr c d k=true
 ·have hs:=(B7 hM hd hc).seg.ARM
  have key:aE (sc (2*M) c) (sc (2*M) d) (ru M a b k)=2*M*(d.2-c.2)*(rx M c d k-rx M a b k):=by
   simp only[aE,sc,ru] at hs ⊢
   grind
  unfold hit
  rw[key]
  unfold cr at hc ⊢
  simp only[Bool.or_eq_true,Bool.and_eq_true,decide_eq_true_eq] at hc
  show (decide (2*M*c.2≤2*M*k+M)&&decide (2*M*k+M<2*M*d.2)&&_||decide (2*M*d.2≤2*M*k+M)&&decide (2*M*k+M<2*M*c.2)&&_)=_
  rw[decide_eq_decide.2 (h1 c.2),decide_eq_decide.2 (h1 d.2),decide_eq_decide.2 (h2 c.2),decide_eq_decide.2 (h2 d.2)]
  rcases hc with ⟨x1,x2⟩|⟨x1,x2⟩
  ·have sgn1:(0<2*M*(d.2-c.2)*(rx M c d k-rx M a b k))↔rx M a b k<rx M c d k:=by
    have hp:0<2*M*(d.2-c.2):=Int.mul_pos (by omega) (by omega)
    constructor
    ·intro h;have:=oC (a:=2*M*(d.2-c.2)) h hp;omega
    ·intro h;exact Int.mul_pos hp (by omega)
   rw[decide_eq_true x1,decide_eq_true x2,decide_eq_false (show ¬ d.2≤k by omega),show decide (0<2*M*(d.2-c.2)*(rx M c d k-rx M a b k))=decide (rx M a b k<rx M c d k) from decide_eq_decide.2 sgn1]
   simp
  ·have sgn1:(2*M*(d.2-c.2)*(rx M c d k-rx M a b k)<0)↔rx M a b k<rx M c d k:=by
    have hp:0<2*M*(c.2-d.2):=Int.mul_pos (by omega) (by omega)
    have e:2*M*(d.2-c.2)*(rx M c d k-rx M a b k) = -(2*M*(c.2-d.2)*(rx M c d k-rx M a b k)):=by grind
    rw[e]
    constructor
    ·intro h;have:=oC (a:=2*M*(c.2-d.2)) (b:=rx M c d k-rx M a b k) (by omega) hp;omega
    ·intro h;have:=Int.mul_pos hp (show 0<rx M c d k-rx M a b k by omega);omega
   rw[decide_eq_true x1,decide_eq_true x2,decide_eq_false (show ¬ c.2≤k by omega),show decide (2*M*(d.2-c.2)*(rx M c d k-rx M a b k)<0)=decide (rx M a b k<rx M c d k) from decide_eq_decide.2 sgn1]
   simp
 ·have hc:cr c d k=false:=by simpa using hc
  rw[hc,Bool.false_and]
  unfold cr at hc
  simp only[Bool.or_eq_false_iff] at hc
  unfold hit
  show (decide (2*M*c.2≤2*M*k+M)&&decide (2*M*k+M<2*M*d.2)&&_||decide (2*M*d.2≤2*M*k+M)&&decide (2*M*k+M<2*M*c.2)&&_)=_
  rw[decide_eq_decide.2 (h1 c.2),decide_eq_decide.2 (h1 d.2),decide_eq_decide.2 (h2 c.2),decide_eq_decide.2 (h2 d.2),hc.1,hc.2]
  rfl
def rN (M:Int) (p:List Pt) (k:Int):List (Int×Bool):=((List.range p.length).filter fun i=>cr (pt p i) (nx p i) k).map fun i=>(rx M (pt p i) (nx p i) k,sg (pt p i) (nx p i))
theorem J2 (f:Nat→Bool):∀ n:Nat,eZ n f=lQ ((List.range n).filter f).length
 | 0=>rfl
 | n+1=>by
  rw[eZ,J2 f n,List.range_succ,List.filter_append,List.length_append,IV]
  congr 1
  cases h:f n
  ·rw[List.filter_cons,if_neg (by rw[h];decide)];rfl
  ·rw[List.filter_cons,if_pos h];rfl
theorem ASH (a b:Pt) (k:Int):cr a b k=(decide (a.2≤k) ^^ decide (b.2≤k)):=by
 unfold cr
 rcases Int.lt_or_le k a.2 with h1|h1<;>rcases Int.lt_or_le k b.2 with h2|h2
 ·rw[decide_eq_false (show ¬ a.2≤k by omega),decide_eq_false (show ¬ b.2≤k by omega)];rfl
 ·rw[decide_eq_false (show ¬ a.2≤k by omega),decide_eq_true h2,decide_eq_true h1];rfl
 ·rw[decide_eq_false (show ¬ b.2≤k by omega),decide_eq_true h2,decide_eq_true h1];rfl
 ·rw[decide_eq_true h1,decide_eq_true h2,decide_eq_false (show ¬ k<b.2 by omega),decide_eq_false (show ¬ k<a.2 by omega)];rfl
theorem B5 (M:Int) (p:List Pt) (k:Int):lQ (rN M p k).length=false:=by
 unfold rN
 rw[List.length_map,←J2,fL (g:=fun i=>decide ((pt p i).2≤k) ^^ decide ((pt p ((i+1) % p.length)).2≤k)) fun i _=>ASH (pt p i) (nx p i) k]
 exact pT (fun i=>decide ((pt p i).2≤k)) p.length
def MI (N:Int) (p:List Pt):List Pt:=p.map (sc N)
theorem iX (N:Int) (p:List Pt):(MI N p).length=p.length:=List.length_map ..
theorem iI (N:Int) (p:List Pt) (i:Nat):pt (MI N p) i=sc N (pt p i):=by
 unfold pt MI
 rw[List.getD_eq_getElem?_getD,List.getD_eq_getElem?_getD,List.getElem?_map]
 cases h:p[i]? with
 | none=>simp[sc]
 | some a=>rfl
theorem j4 (N:Int) (p:List Pt) (i:Nat):nx (MI N p) i=sc N (nx p i):=by unfold nx;rw[iX,iI]
theorem AQC (N:Int) (p:List Pt) (i:Nat):uO (MI N p) i=sc N (uO p i):=by unfold uO;rw[iX,iI]
theorem AUG {N:Int} (hN:0<N) {a b:Pt} (h:sc N a=sc N b):a=b:=by
 have h1:=congrArg Prod.fst h;have h2:=congrArg Prod.snd h
 have h1:N*a.1=N*b.1:=h1
 have h2:N*a.2=N*b.2:=h2
 exact Prod.ext (Int.eq_of_mul_eq_mul_left (by omega) h1) (Int.eq_of_mul_eq_mul_left (by omega) h2)
theorem S4 (N:Int) (a b c:Pt):aE (sc N a) (sc N b) (sc N c)=N*N*aE a b c:=by simp only[aE,sc];grind
theorem ASI (N:Int) (a b c:Pt):lY (sc N a) (sc N b) (sc N c)=N*N*lY a b c:=by simp only[lY,sc];grind
theorem Y9 {N:Int} (hN:0<N) {a b c d:Pt} (h:E8 (sc N a) (sc N b) (sc N c) (sc N d)):E8 a b c d:=by
 obtain ⟨s,t,s',t',h1,h2,h3,h4,h5,h6,h7,h8⟩:=h
 simp only[sc] at h7 h8
 refine ⟨s,t,s',t',h1,h2,h3,h4,h5,h6,?_,?_⟩
 ·refine Int.eq_of_mul_eq_mul_left (a:=N) (by omega) ?_;grind
 ·refine Int.eq_of_mul_eq_mul_left (a:=N) (by omega) ?_;grind
theorem fH.MI {p:List Pt} (S:fH p) {N:Int} (hN:0<N):fH (MI N p):=by
 refine ⟨by rw[iX];exact S.n3,fun i hi=>?_,fun i hi=>?_,fun i k hi hk h1 h2 h3=>?_⟩
 ·rw[iX] at hi
  rw[iI,j4]
  exact fun h=>S.ne i hi (AUG hN h)
 ·rw[iX] at hi
  rw[iI,j4,AQC,S4,ASI]
  have hNN:0<N*N:=Int.mul_pos hN hN
  rintro ⟨h1,h2⟩
  exact S.nf i hi ⟨cY (by omega) h1,oC h2 hNN⟩
 ·rw[iX] at *
  rw[iI,j4,iI,j4]
  exact fun h=>S.ap i k hi hk h1 h2 h3 (Y9 hN h)
def J9 (M:Int) (p:List Pt):Prop:=0<M∧∀ i,Mul M (pt p i) (nx p i)
section
variable {M : Int} {p : List Pt}
theorem AB7 (hM:J9 M p) {c d:Pt} {k:Int}:lQ (oR (rN M p k) (rx M c d k))=fF (MI (2*M) p) (ru M c d k):=by
 unfold fF
 rw[iX,fL (g:=fun i=>cr (pt p i) (nx p i) k&&decide (rx M c d k<rx M (pt p i) (nx p i) k)) fun i _=>by rw[iI,j4,ACJ hM.1 (hM.2 i)],J2]
 unfold oR rN
 rw[List.filter_map,List.length_map,List.filter_filter]
 refine congrArg (fun l=>lQ (List.length l)) (List.filter_congr fun i _=>?_)
 simp[Function.comp,Bool.and_comm]
theorem ATB (hM:J9 M p) {i:Nat} (hi:i<p.length) {k:Int}:fF (MI (2*M) p) (ru M (pt p i) (nx p i) k)=H (MI (2*M) p) i (ru M (pt p i) (nx p i) k):=by
 unfold fF H
 refine fL fun j _=>?_
 by_cases h:j=i
 ·subst h
  rw[decide_eq_true rfl,iI,j4,ACJ hM.1 (hM.2 j),decide_eq_false (show ¬ rx M (pt p j) (nx p j) k<rx M (pt p j) (nx p j) k by omega)]
  simp
 ·rw[decide_eq_false h];rfl
theorem AUH {a b:Pt} {N:Int} (hN:0<N):sg (sc N a) (sc N b)=sg a b:=by
 unfold sg
 have l:∀ {x y:Int},(N*x<N*y↔x<y):=fun {x y}=>by
  constructor
  ·intro h;exact Int.lt_of_mul_lt_mul_left h (by omega)
  ·intro h;exact Int.mul_lt_mul_of_pos_left h hN
 have e:∀ {x y:Int},(N*x=N*y↔x=y):=fun {x y}=>by
  constructor
  ·intro h;exact Int.eq_of_mul_eq_mul_left (by omega) h
  ·intro h;rw[h]
 show (decide (N*b.2<N*a.2)||(decide (N*b.2=N*a.2)&&decide (N*a.1<N*b.1)))=_
 rw[decide_eq_decide.2 l,decide_eq_decide.2 e,decide_eq_decide.2 l]
theorem AP4 {M:Int} (a b:Pt):oG (sc (2*M) a) (sc (2*M) b) (M*(a.1+b.1),M*(a.2+b.2)):=by
 refine ⟨1,1,by omega,by omega,?_,?_⟩
 ·show (1+1)*(M*(a.1+b.1))=1*(2*M*a.1)+1*(2*M*b.1);grind
 ·show (1+1)*(M*(a.2+b.2))=1*(2*M*a.2)+1*(2*M*b.2);grind
theorem AA2 (S:fH p) (hM:J9 M p):∃ κ:Bool,∀ k i,i<p.length→cr (pt p i) (nx p i) k=true→(fF (MI (2*M) p) (ru M (pt p i) (nx p i) k) ^^ sg (pt p i) (nx p i))=κ:=by
 have hN:0<2*M:=by have:=hM.1;omega
 obtain ⟨κ,hκ⟩:=AVW (S.MI hN) (fun i hi=>⟨_,by rw[iI,j4];exact AP4 _ _⟩)
 refine ⟨κ,fun k i hi hc=>?_⟩
 have:=hκ i (by rw[iX];exact hi) (ru M (pt p i) (nx p i) k) (by rw[iI,j4];exact B7 hM.1 (hM.2 i) hc)
 rw[iI,j4,AUH hN] at this
 rw[ATB hM hi]
 exact this
theorem MF {a b c d:Pt} {k:Int} (hM:0<M) (h1:Mul M a b) (h2:Mul M c d) (c1:cr a b k=true) (c2:cr c d k=true) (hm:b9 (sc (2*M) c) (sc (2*M) d) (ru M a b k) (ru M a b k)=false):rx M a b k≠rx M c d k:=by
 intro h
 have e:ru M a b k=ru M c d k:=by unfold ru;rw[h]
 have o:=(B7 hM h2 c2).seg.on
 rw[←e] at o
 rw[(mX hm).1] at o;cases o
theorem wK (S:fH p) (hM:J9 M p) (k:Int):(rN M p k).Pairwise fun a b=>a.1≠b.1:=by
 have hN:0<2*M:=by have:=hM.1;omega
 unfold rN
 rw[List.pairwise_map,List.pairwise_filter]
 refine (List.nodup_range (n:=p.length)).imp_of_mem fun {i j} hi hj hij=>fun c1 c2=>?_
 have hi:=List.mem_range.1 hi
 have hj:=List.mem_range.1 hj
 refine MF hM.1 (hM.2 i) (hM.2 j) c1 c2 ?_
 have s:=B7 hM.1 (hM.2 i) c1
 have:=(S.MI hN).inner (i:=i) (j:=j) (by rw[iX];exact hi) (by rw[iX];exact hj) (fun h=>hij h.symm) (u:=ru M (pt p i) (nx p i) k) (v:=ru M (pt p i) (nx p i) k) (by rw[iI,j4];exact s) (by rw[iI,j4];exact s)
 rwa[iI,j4] at this
theorem xX {e:Int×Bool} {k:Int} (h:e∈rN M p k):∃ i,i<p.length∧cr (pt p i) (nx p i) k=true∧e=(rx M (pt p i) (nx p i) k,sg (pt p i) (nx p i)):=by
 unfold rN at h
 obtain ⟨i,hi,rfl⟩:=List.mem_map.1 h
 obtain ⟨h1,h2⟩:=List.mem_filter.1 hi
 exact ⟨i,List.mem_range.1 h1,h2,rfl⟩
end
theorem eY {f g:Nat→Int}:∀ {n:Nat},(∀ i,i<n→f i=g i)→cL n f=cL n g
 | 0,_=>rfl
 | n+1,h=>by rw[cL,cL,eY fun i hi=>h i (by omega),h n (by omega)]
theorem sZ (f g:Nat→Int):∀ n,cL n (fun i=>f i+g i)=cL n f+cL n g
 | 0=>rfl
 | n+1=>by rw[cL,cL,cL,sZ f g n];omega
theorem zC (c:Int) (f:Nat→Int):∀ n,cL n (fun i=>c*f i)=c*cL n f
 | 0=>by simp[cL]
 | n+1=>by rw[cL,cL,zC c f n,Int.mul_add]
theorem uI:∀ n,cL n (fun _=>0)=0
 | 0=>rfl
 | n+1=>by rw[cL,uI n];rfl
theorem MR (f:Nat→Nat→Int) (m:Nat):∀ n,cL n (fun i=>cL m (fun j=>f i j))=cL m (fun j=>cL n (fun i=>f i j))
 | 0=>(uI m).symm
 | n+1=>by
  rw[cL,MR f m n,←sZ];rfl
theorem wV (f:Nat→Int):∀ n,cL (n+1) f=f 0+cL n (fun i=>f (i+1))
 | 0=>by simp[cL]
 | n+1=>by rw[cL,wV f n,cL];omega
theorem ANW (d:Nat→Int) (n:Nat):cL n (fun i=>d ((i+1) % n))=cL n d:=by
 cases n with
 | zero=>rfl
 | succ m =>
  rw[wV d m,cL,Nat.mod_self]
  rw[eY (g:=fun i=>d (i+1)) fun i hi=>by rw[Nat.mod_eq_of_lt (by omega)]]
  omega
theorem CY (F:Int→Int) (K:Int):∀ n:Nat,cL n (fun j=>F ((j:Int)-K+1)-F ((j:Int)-K))=F ((n:Int)-K)-F (-K)
 | 0=>by simp[cL]
 | n+1=>by
  rw[cL,CY F K n,show ((n+1:Nat):Int)-K=(n:Int)-K+1 by omega]
  omega
theorem E6 {f:Nat→Int}:∀ {n:Nat},(∀ i,i<n→0≤f i)→0≤cL n f
 | 0,_=>Int.le_refl 0
 | n+1,h=>by
  have:=E6 (n:=n) fun i hi=>h i (by omega)
  have:=h n (by omega)
  unfold cL;omega
def ge (M:Int) (a b:Pt) (k:Int):Int:=if cr a b k=true then (if sg a b=true then-rx M a b k else rx M a b k) else 0
theorem AN3 (M:Int) (p:List Pt) (k:Int):val (rN M p k)=cL p.length fun i=>ge M (pt p i) (nx p i) k:=by
 unfold rN
 generalize p.length=n
 induction n with
 | zero=>rfl
 | succ n ih =>
  rw[List.range_succ,List.filter_append,List.map_append,wX,ih,cL]
  congr 1
  unfold ge
  by_cases h:cr (pt p n) (nx p n) k=true
  ·rw[if_pos h,List.filter_cons,if_pos h]
   simp[val]
  ·rw[if_neg h,List.filter_cons,if_neg h]
   rfl
def jK (lo hi k:Int):Int:=if k≤lo then lo else if hi≤k then hi else k
theorem AE4 {M:Int} {a b:Pt} (hM:0<M) (hd:Mul M a b) {K:Int} {n:Nat} (ha:-K≤a.2∧a.2≤(n:Int)-K) (hb:-K≤b.2∧b.2≤(n:Int)-K) :
  cL n (fun j=>ge M a b ((j:Int)-K))=M*((a.1+b.1)*(b.2-a.2)):=by
 by_cases h:a.2=b.2
 ·rw[h,Int.sub_self,Int.mul_zero,Int.mul_zero,eY (g:=fun _=>0) fun i _=>?_,uI]
  unfold ge cr
  rw[if_neg]
  simp only[Bool.or_eq_true,Bool.and_eq_true,decide_eq_true_eq]
  omega
 ·have he:=hd h
  generalize hE:M / (b.2-a.2)=E at he
  have hx:∀ k,rx M a b k=2*M*a.1+(b.1-a.1)*E*(2*(k-a.2)+1):=fun k=>by unfold rx;rw[hE]
  let S:Int→Int:=fun y=>2*M*a.1*y+(b.1-a.1)*E*(y*y)
  have hS:∀ y,S (y+1)-S y=2*M*a.1+(b.1-a.1)*E*(2*y+1):=fun y=>by simp only[S];grind
  have fin:S (b.2-a.2)=M*((a.1+b.1)*(b.2-a.2)):=by
   simp only[S]
   have:(b.1-a.1)*E*((b.2-a.2)*(b.2-a.2))=(b.1-a.1)*(E*(b.2-a.2))*(b.2-a.2):=by grind
   rw[this,he];grind
  rcases Int.lt_or_lt_of_ne h with hlt|hlt
  ·let F:Int→Int:=fun k=>S (jK a.2 b.2 k-a.2)
   rw[eY (g:=fun j=>F ((j:Int)-K+1)-F ((j:Int)-K)) fun j _=>?_,CY F K n]
   ·have e1:F ((n:Int)-K)=S (b.2-a.2):=by
     simp only[F];unfold jK;rw[if_neg (by omega),if_pos (by omega)]
    have e2:F (-K)=0:=by
     simp only[F];unfold jK;rw[if_pos (by omega),Int.sub_self];simp[S]
    rw[e1,e2,fin];omega
   ·generalize (j:Int)-K=k
    have hsg:sg a b=false:=by unfold sg;rw[decide_eq_false (show ¬ b.2<a.2 by omega),decide_eq_false (show ¬ b.2=a.2 by omega)];rfl
    unfold ge
    by_cases hc:cr a b k=true
    ·rw[if_pos hc,hsg]
     simp only[Bool.false_eq_true,if_false]
     unfold cr at hc
     simp only[Bool.or_eq_true,Bool.and_eq_true,decide_eq_true_eq] at hc
     have hk:a.2≤k∧k<b.2:=by omega
     have c1:jK a.2 b.2 k=k:=by unfold jK;split;omega;split<;>omega
     have c2:jK a.2 b.2 (k+1)=k+1:=by unfold jK;split;omega;split<;>omega
     simp only[F]
     rw[c1,c2,hx,←hS,show k+1-a.2=k-a.2+1 by omega]
    ·rw[if_neg hc]
     unfold cr at hc
     simp only[Bool.or_eq_true,Bool.and_eq_true,decide_eq_true_eq] at hc
     have c1:jK a.2 b.2 (k+1)=jK a.2 b.2 k:=by unfold jK;repeat' split<;>omega
     simp only[F]
     rw[c1];omega
  ·let F:Int→Int:=fun k=>-S (jK b.2 a.2 k-a.2)
   rw[eY (g:=fun j=>F ((j:Int)-K+1)-F ((j:Int)-K)) fun j _=>?_,CY F K n]
   ·have e1:F ((n:Int)-K)=0:=by
     simp only[F];unfold jK;rw[if_neg (by omega),if_pos (by omega),Int.sub_self];simp[S]
    have e2:F (-K) = -S (b.2-a.2):=by
     simp only[F];unfold jK;rw[if_pos (by omega)]
    rw[e1,e2,fin];omega
   ·generalize (j:Int)-K=k
    have hsg:sg a b=true:=by unfold sg;rw[decide_eq_true hlt];rfl
    unfold ge
    by_cases hc:cr a b k=true
    ·rw[if_pos hc,hsg]
     simp only[if_true]
     unfold cr at hc
     simp only[Bool.or_eq_true,Bool.and_eq_true,decide_eq_true_eq] at hc
     have hk:b.2≤k∧k<a.2:=by omega
     have c1:jK b.2 a.2 k=k:=by unfold jK;split;omega;split<;>omega
     have c2:jK b.2 a.2 (k+1)=k+1:=by unfold jK;split;omega;split<;>omega
     simp only[F]
     rw[c1,c2,hx,←hS,show k+1-a.2=k-a.2+1 by omega]
     omega
    ·rw[if_neg hc]
     unfold cr at hc
     simp only[Bool.or_eq_true,Bool.and_eq_true,decide_eq_true_eq] at hc
     have c1:jK b.2 a.2 (k+1)=jK b.2 a.2 k:=by unfold jK;repeat' split<;>omega
     simp only[F]
     rw[c1];omega
def w3 (K:Int) (n:Nat) (p:List Pt):Prop:=∀ i,-K≤(pt p i).2∧(pt p i).2≤(n:Int)-K
theorem AEP (p:List Pt):eQ p=cL p.length fun i=>((pt p i).1+(nx p i).1)*((nx p i).2-(pt p i).2):=by
 have h:=ANW (fun i=>(pt p i).1*(pt p i).2) p.length
 have e:cL p.length (fun i=>((pt p i).1+(nx p i).1)*((nx p i).2-(pt p i).2))=cL p.length (fun i=>V3 p i+(pt p ((i+1) % p.length)).1*(pt p ((i+1) % p.length)).2)+cL p.length (fun i=>(-1)*((pt p i).1*(pt p i).2)):=by
  rw[←sZ]
  refine eY fun i _=>?_
  show ((pt p i).1+(nx p i).1)*((nx p i).2-(pt p i).2)=(pt p i).1*(nx p i).2-(nx p i).1*(pt p i).2+(nx p i).1*(nx p i).2+(-1)*((pt p i).1*(pt p i).2)
  grind
 rw[e,sZ,zC,h]
 unfold eQ
 omega
theorem K5 {M:Int} {p:List Pt} (hM:J9 M p) {K:Int} {n:Nat} (hh:w3 K n p):M*eQ p=cL n fun j=>val (rN M p ((j:Int)-K)):=by
 rw[eY (g:=fun j=>cL p.length fun i=>ge M (pt p i) (nx p i) ((j:Int)-K)) fun j _=>AN3 M p _,←MR,AEP,←zC]
 exact (eY fun i _=>AE4 hM.1 (hM.2 i) (hh _) (hh _)).symm
def J0:List Bool→Bool
 | []=>false
 | a::l=>a ^^ J0 l
def kQ:List Int→Int
 | []=>0
 | a::l=>a+kQ l
theorem WC (f:List Pt→List (Int×Bool)):∀ cs:List (List Pt),val (cs.flatMap f)=kQ (cs.map fun p=>val (f p))
 | []=>rfl
 | p::cs=>by rw[List.flatMap_cons,wX,WC f cs];rfl
theorem VH (f:List Pt→List (Int×Bool)):∀ cs:List (List Pt),lQ (cs.flatMap f).length=J0 (cs.map fun p=>lQ (f p).length)
 | []=>rfl
 | p::cs=>by rw[List.flatMap_cons,List.length_append,IV,VH f cs];rfl
theorem S0 (f:List Pt→List (Int×Bool)) (x:Int):∀ cs:List (List Pt),lQ (oR (cs.flatMap f) x)=J0 (cs.map fun p=>lQ (oR (f p) x))
 | []=>rfl
 | p::cs=>by rw[List.flatMap_cons,Y8,IV,S0 f x cs];rfl
theorem q7:∀ {l:List Bool},(∀ a∈l,a=false)→J0 l=false
 | [],_=>rfl
 | a::l,h=>by rw[J0,h a (by simp),q7 fun b hb=>h b (by simp[hb])];rfl
def lO (p q:List Pt):Prop:=∀ i j,i<p.length→j<q.length→¬ E8 (pt p i) (nx p i) (pt q j) (nx q j)
theorem lO.symm {p q:List Pt} (h:lO p q):lO q p:=fun i j hi hj hc=>h j i hj hi hc.symm
section
variable {M : Int} {p q : List Pt}
theorem v7 (hA:lO p q) (hM:J9 M q) {i:Nat} (hi:i<q.length) {k:Int} (hc:cr (pt q i) (nx q i) k=true):fF (MI (2*M) p) (ru M (pt q i) (nx q i) k)=fF (MI (2*M) p) (sc (2*M) (pt q i)):=by
 have hN:0<2*M:=by have:=hM.1;omega
 refine IA fun j hj=>?_
 rw[iX] at hj
 rw[iI,j4]
 exact sG (fun h=>hA j i hj hi (Y9 hN h).symm) (B7 hM.1 (hM.2 i) hc).seg (rS.left _ _)
theorem ATA {N:Int} (hN:0<N) (a b q:Pt):hit (sc N a) (sc N b) (sc N q)=hit a b q:=by
 unfold hit
 rw[S4]
 have l:∀ {x y:Int},(N*x<N*y↔x<y):=fun {x y}=>⟨fun h=>Int.lt_of_mul_lt_mul_left h (by omega),fun h=>Int.mul_lt_mul_of_pos_left h hN⟩
 have m:∀ {x y:Int},(N*x≤N*y↔x≤y):=fun {x y}=>⟨fun h=>Int.le_of_mul_le_mul_left h hN,fun h=>Int.mul_le_mul_of_nonneg_left h (by omega)⟩
 have hNN:0<N*N:=Int.mul_pos hN hN
 have c1:(0<N*N*aE a b q)↔0<aE a b q:=⟨fun h=>oC h hNN,fun h=>Int.mul_pos hNN h⟩
 have c2:(N*N*aE a b q<0)↔aE a b q<0:=by
  constructor
  ·intro h
   have:=oC (a:=N*N) (b:=- aE a b q) (by rw[Int.mul_neg];omega) hNN
   omega
  ·intro h;exact Int.mul_neg_of_pos_of_neg hNN h
 show (decide (N*a.2≤N*q.2)&&decide (N*q.2<N*b.2)&&_||decide (N*b.2≤N*q.2)&&decide (N*q.2<N*a.2)&&_)=_
 rw[decide_eq_decide.2 m,decide_eq_decide.2 l,decide_eq_decide.2 m,decide_eq_decide.2 l,decide_eq_decide.2 c1,decide_eq_decide.2 c2]
theorem O3 {N:Int} (hN:0<N) (p:List Pt) (q:Pt):fF (MI N p) (sc N q)=fF p q:=by
 unfold fF
 rw[iX]
 exact fL fun i _=>by rw[iI,j4,ATA hN]
theorem qE (hA:lO p q) (hp:∀ i,i<p.length→pt p i≠nx p i):∀ i,i<q.length→fF p (pt q i)=fF p (pt q 0)
 | 0,_=>rfl
 | i+1,hi=>by
  rw[←qE hA hp i (by omega)]
  have e:pt q (i+1)=nx q i:=by unfold nx;rw[Nat.mod_eq_of_lt hi]
  rw[e]
  symm
  refine IA fun j hj=>?_
  exact sG (fun h=>hA j i hj (by omega) h.symm) (rS.left _ _) (rS.right _ _)
theorem K6 (S:fH p) (hM:J9 M p) {K:Int} {n:Nat} (hh:w3 K n p):∃ κ:Bool,(∀ k i,i<p.length→cr (pt p i) (nx p i) k=true→(fF (MI (2*M) p) (ru M (pt p i) (nx p i) k) ^^ sg (pt p i) (nx p i))=κ)∧(κ=false→0≤eQ p)∧(κ=true→eQ p≤0):=by
 obtain ⟨κ,hκ⟩:=AA2 S hM
 have har:=K5 hM hh
 have pos:=hM.1
 have key:∀ k e,e∈rN M p k→(lQ (oR (rN M p k) e.1) ^^ e.2)=κ:=fun k e he=>by
  obtain ⟨i,hi,hc,rfl⟩:=xX he
  dsimp only
  rw[AB7 hM]
  exact hκ k i hi hc
 refine ⟨κ,hκ,fun h=>?_,fun h=>?_⟩
 ·have:0≤M*eQ p:=by
   rw[har]
   refine E6 fun j _=>(PS (B5 _ _ _) (wK S hM _) fun e he=>?_).1
   have:=key _ e he
   rw[h] at this
   exact q8 this
  rcases Int.lt_or_le (eQ p) 0 with h'|h'
  ·have:=Int.mul_neg_of_pos_of_neg pos h';omega
  ·exact h'
 ·have:0≤M * -eQ p:=by
   rw[Int.mul_neg,har]
   have e:-(cL n fun j=>val (rN M p ((j:Int)-K)))=cL n fun j=>(-1)*val (rN M p ((j:Int)-K)):=by
    rw[zC];omega
   rw[e]
   refine E6 fun j _=>?_
   have:=(ANF (B5 M p ((j:Int)-K)) (wK S hM _) fun e he=>by rw[key _ e he,h]).1
   omega
  rcases Int.lt_or_le 0 (eQ p) with h'|h'
  ·have:=Int.mul_neg_of_pos_of_neg pos (show -eQ p<0 by omega);omega
  ·exact h'
end
theorem V8 (c:Int):∀ l:List Int,kQ (l.map fun x=>c*x)=c*kQ l
 | []=>by simp[kQ]
 | a::l=>by rw[List.map_cons,kQ,kQ,V8 c l,Int.mul_add]
theorem MQ {α:Type} (f:α→Nat→Int) (n:Nat):∀ l:List α,kQ (l.map fun a=>cL n (f a))=cL n fun j=>kQ (l.map fun a=>f a j)
 | []=>(uI n).symm
 | a::l=>by
  rw[List.map_cons,kQ,MQ f n l,←sZ];rfl
theorem AKT {M:Int} {cs:List (List Pt)} {K:Int} {n:Nat} (hM0:0<M) (hS:∀ p∈cs,fH p) (hM:∀ p∈cs,J9 M p) (hh:∀ p∈cs,w3 K n p) (hap:cs.Pairwise lO)
  (hpar:∀ p∈cs,∀ k i,i<p.length→cr (pt p i) (nx p i) k=true→J0 (cs.map fun q=>fF (MI (2*M) q) (ru M (pt p i) (nx p i) k))=sg (pt p i) (nx p i)):0≤kQ (cs.map eQ):=by
 have hN:0<2*M:=by omega
 have key:0≤M*kQ (cs.map eQ):=by
  have e:M*kQ (cs.map eQ)=cL n fun j=>val (cs.flatMap fun p=>rN M p ((j:Int)-K)):=by
   rw[←V8,List.map_map,eY (g:=fun j=>kQ (cs.map fun p=>val (rN M p ((j:Int)-K)))) fun j _=>WC _ _,←MQ (fun p j=>val (rN M p ((j:Int)-K)))]
   congr 1
   exact List.map_congr_left fun p hp=>K5 (hM p hp) (hh p hp)
  rw[e]
  refine E6 fun j _=>?_
  generalize (j:Int)-K=k
  refine (PS ?_ ?_ fun e he=>?_).1
  ·rw[VH]
   refine q7 fun a ha=>?_
   obtain ⟨p,_,rfl⟩:=List.mem_map.1 ha
   exact B5 _ _ _
  ·rw[List.pairwise_flatMap]
   refine ⟨fun p hp=>wK (hS p hp) (hM p hp) k,hap.imp_of_mem fun {p q} hp hq h x hx y hy=>?_⟩
   obtain ⟨i,hi,c1,rfl⟩:=xX hx
   obtain ⟨j,hj,c2,rfl⟩:=xX hy
   have hs:=(B7 hM0 ((hM p hp).2 i) c1).seg
   exact MF hM0 ((hM p hp).2 i) ((hM q hq).2 j) c1 c2 (sG (fun hc=>h i j hi hj (Y9 hN hc)) hs hs)
  ·obtain ⟨p,hp,hep⟩:=List.mem_flatMap.1 he
   obtain ⟨i,hi,hc,rfl⟩:=xX hep
   rw[S0]
   dsimp only
   rw[←hpar p hp k i hi hc]
   congr 1
   exact List.map_congr_left fun q hq=>AB7 (hM q hq)
 rcases Int.lt_or_le (kQ (cs.map eQ)) 0 with h'|h'
 ·have:=Int.mul_neg_of_pos_of_neg hM0 h';omega
 ·exact h'
theorem AVP {a b q:Pt} (h:hit a b q=true):q.1<max a.1 b.1:=by
 unfold hit at h
 simp only[Bool.or_eq_true,Bool.and_eq_true,decide_eq_true_eq] at h
 refine Classical.byContradiction fun hc=>?_
 have h1:0≤q.1-a.1:=by omega
 have h2:0≤q.1-b.1:=by omega
 rcases h with ⟨⟨x1,x2⟩,x3⟩|⟨⟨x1,x2⟩,x3⟩
 ·have y1:=Int.mul_nonneg h1 (show 0≤b.2-q.2 by omega)
  have y2:=Int.mul_nonneg h2 (show 0≤q.2-a.2 by omega)
  have e:aE a b q = -((q.1-a.1)*(b.2-q.2)+(q.1-b.1)*(q.2-a.2)):=by simp only[aE];grind
  omega
 ·have y1:=Int.mul_nonneg h1 (show 0≤q.2-b.2 by omega)
  have y2:=Int.mul_nonneg h2 (show 0≤a.2-q.2 by omega)
  have e:aE a b q=(q.1-a.1)*(q.2-b.2)+(q.1-b.1)*(a.2-q.2):=by simp only[aE];grind
  omega
theorem WE {f:Nat→Bool}:∀ {n:Nat},eZ n f=true→∃ i,i<n∧f i=true
 | 0,h=>by cases h
 | n+1,h=>by
  rw[eZ] at h
  cases hf:f n with
  | true=>exact ⟨n,by omega,hf⟩
  | false =>
   rw[hf,Bool.xor_false] at h
   obtain ⟨i,hi,hx⟩:=WE h
   exact ⟨i,by omega,hx⟩
theorem ALO {p:List Pt} {q:Pt} (hp:0<p.length) (h:fF p q=true):∃ i,i<p.length∧q.1<(pt p i).1:=by
 obtain ⟨i,hi,hx⟩:=WE h
 have:=AVP hx
 by_cases hc:q.1<(pt p i).1
 ·exact ⟨i,hi,hc⟩
 ·exact ⟨(i+1) % p.length,Nat.mod_lt _ hp,by show q.1<(nx p i).1;omega⟩
theorem II {p:List Pt}:∀ n:Nat,0<n→∃ m,m<n∧∀ i,i<n→(pt p i).1≤(pt p m).1
 | 0,h=>by omega
 | 1,_=>⟨0,by omega,fun i hi=>by rw[show i=0 by omega];exact Int.le_refl _⟩
 | n+2,_=>by
  obtain ⟨m,hm,h⟩:=II (p:=p) (n+1) (by omega)
  rcases Int.lt_or_le (pt p m).1 (pt p (n+1)).1 with hc|hc
  ·exact ⟨n+1,by omega,fun i hi=>by
    rcases Nat.lt_or_ge i (n+1) with h'|h'
    ·have:=h i h';omega
    ·rw[show i=n+1 by omega];exact Int.le_refl _⟩
  ·exact ⟨m,by omega,fun i hi=>by
    rcases Nat.lt_or_ge i (n+1) with h'|h'
    ·exact h i h'
    ·rw[show i=n+1 by omega];exact hc⟩
theorem AHG {o h:List Pt} (ho:0<o.length) (hh:0<h.length) (hin:∀ i,i<h.length→fF o (pt h i)=true) (hA:lO h o) (hne:∀ i,i<h.length→pt h i≠nx h i):∀ i,i<o.length→fF h (pt o i)=false:=by
 obtain ⟨m,hm,hmax⟩:=II (p:=o) o.length ho
 have hlt:∀ i,i<h.length→(pt h i).1<(pt o m).1:=fun i hi=>by
  obtain ⟨j,hj,hx⟩:=ALO ho (hin i hi)
  have:=hmax j hj
  omega
 have h0:fF h (pt o m)=false:=by
  rw[Bool.eq_false_iff]
  intro hc
  obtain ⟨i,hi,hx⟩:=ALO hh hc
  have:=hlt i hi
  omega
 intro i hi
 rw[qE hA hne i hi,←qE hA hne m hm]
 exact h0
theorem ADL {α:Type} {f:α→Bool}:∀ {l:List α} {i:Nat} (hi:i<l.length),(∀ j (hj:j<l.length),j≠i→f l[j]=false)→J0 (l.map f)=f l[i]
 | [],i,hi,_=>by simp at hi
 | a::l,0,hi,h=>by
  rw[List.map_cons,J0,q7,Bool.xor_false];rfl
  intro b hb
  obtain ⟨c,hc,rfl⟩:=List.mem_map.1 hb
  obtain ⟨j,hj,rfl⟩:=List.mem_iff_getElem.1 hc
  exact h (j+1) (by simpa using hj) (by omega)
 | a::l,i+1,hi,h=>by
  have h0:f a=false:=h 0 (by simp) (by omega)
  rw[List.map_cons,J0,h0,Bool.false_xor]
  exact ADL (by simpa using hi) fun j hj hne=>h (j+1) (by simpa using hj) (by omega)
theorem AA3 {o:List Pt} {hs:List (List Pt)} {M K:Int} {n:Nat} (hM0:0<M) (hS:∀ p∈o::hs,fH p) (hM:∀ p∈o::hs,J9 M p) (hh:∀ p∈o::hs,w3 K n p)
  (hao:0<eQ o) (hah:∀ h∈hs,eQ h<0) (hA:∀ h∈hs,lO h o) (hin:∀ h∈hs,∀ i,i<h.length→fF o (pt h i)=true)
  (hAA:∀ i j (hi:i<hs.length) (hj:j<hs.length),i≠j→lO hs[i] hs[j]∧fF hs[i] (pt hs[j] 0)=false):0≤kQ ((o::hs).map eQ):=by
 have hN:0<2*M:=by omega
 have So:=hS o (by simp)
 have Mo:=hM o (by simp)
 refine AKT hM0 hS hM hh ?_ ?_
 ·refine List.pairwise_cons.2 ⟨fun h hm=>(hA h hm).symm,List.pairwise_iff_getElem.2 fun i j hi hj hij=>(hAA i j hi hj (by omega)).1⟩
 ·intro p hp k i hi hc
  rcases List.mem_cons.1 hp with rfl|hp'
  ·
   obtain ⟨κ,h1,h2,h3⟩:=K6 So Mo (hh _ (by simp))
   have hκ:κ=false:=by
    cases κ with
    | false=>rfl
    | true=>have:=h3 rfl;omega
   have:=h1 k i hi hc
   rw[hκ] at this
   rw[List.map_cons,J0,q7 (l:=List.map _ hs),Bool.xor_false]
   ·exact q8 this
   ·intro b hb
    obtain ⟨h,hm,rfl⟩:=List.mem_map.1 hb
    have Sh:=hS h (by simp[hm])
    have n3:=Sh.n3;have n3':=So.n3
    rw[v7 (hA h hm) Mo hi hc,O3 hN]
    exact AHG (by omega) (by omega) (hin h hm) (hA h hm) Sh.ne i hi
  ·obtain ⟨m,hm,rfl⟩:=List.mem_iff_getElem.1 hp'
   have Sp:=hS _ hp
   have Mp:=hM _ hp
   obtain ⟨κ,h1,h2,h3⟩:=K6 Sp Mp (hh _ hp)
   have hneg:=hah _ hp'
   have hκ:κ=true:=by
    cases κ with
    | true=>rfl
    | false=>have:=h2 rfl;omega
   have hown:=h1 k i hi hc
   rw[hκ] at hown
   rw[List.map_cons,J0,v7 (hA _ hp').symm Mp hi hc,O3 hN,hin _ hp' i hi,ADL (f:=fun q=>fF (MI (2*M) q) (ru M (pt hs[m] i) (nx hs[m] i) k)) hm fun j hj hne=>?_]
   ·revert hown
    cases fF (MI (2*M) hs[m]) (ru M (pt hs[m] i) (nx hs[m] i) k)<;>cases sg (pt hs[m] i) (nx hs[m] i)<;>simp
   ·obtain ⟨a1,a2⟩:=hAA j m hj hm hne
    have Sj:=hS hs[j] (by simp)
    rw[v7 a1 Mp hi hc,O3 hN,qE a1 Sj.ne i hi,a2]
theorem AGO:∃ (M K:Int) (n:Nat),0<M∧∀ p:List Pt,(∀ i,cG (pt p i))→J9 M p∧w3 K n p:=by
 obtain ⟨B,hB⟩:∃ B:Nat,B=65536:=⟨_,rfl⟩
 refine ⟨(fac B:Int),32768,65536,by have:=OM B;omega,fun p hp=>⟨⟨by have:=OM B;omega,fun i hne=>?_⟩,fun i=>?_⟩⟩
 ·have h1:=hp i
  have h2:cG (nx p i):=hp _
  unfold cG at h1 h2
  refine Int.ediv_mul_cancel ?_
  have hd:((nx p i).2-(pt p i).2).natAbs ∣ fac B:=ACA (by omega) (by omega)
  exact Int.natAbs_dvd.1 (Int.natCast_dvd_natCast.2 hd)
 ·have h1:=hp i
  unfold cG at h1
  omega
theorem ANM {o:List Pt} {hs:List (List Pt)} (hS:∀ p∈o::hs,fH p) (hN:∀ p∈o::hs,∀ i,cG (pt p i))
  (hao:0<eQ o) (hah:∀ h∈hs,eQ h<0) (hA:∀ h∈hs,lO h o) (hin:∀ h∈hs,∀ i,i<h.length→fF o (pt h i)=true)
  (hAA:∀ i j (hi:i<hs.length) (hj:j<hs.length),i≠j→lO hs[i] hs[j]∧fF hs[i] (pt hs[j] 0)=false):0≤kQ ((o::hs).map eQ):=by
 obtain ⟨M,K,n,h0,h⟩:=AGO
 exact AA3 h0 hS (fun p hp=>(h p (hN p hp)).1) (fun p hp=>(h p (hN p hp)).2) hao hah hA hin hAA
end Go.Pv.Geo
namespace Go.Pv
open Go Go.Proofs Go.Pv.Geo
theorem lI {p:List Pt} (h:pN p=true) {i:Nat} (hi:i<p.length):pt p i≠nx p i∧¬ (aE (pt p i) (nx p i) (uO p i)=0∧0<lY (pt p i) (nx p i) (uO p i))∧∀ k,k<p.length→i+2≤k→B0 p i k=true:=by
 have h:=gV.1 h i hi
 unfold PD at h
 simp only[Bool.and_eq_true,Bool.not_eq_true',decide_eq_false_iff_not] at h
 obtain ⟨h1,h2,h3⟩:=h
 refine ⟨h1,fun ⟨a,b⟩=>?_,fun k hk hik=>?_⟩
 ·rw[decide_eq_true a,decide_eq_true b] at h2;cases h2
 ·have:=gV.1 h3 k hk
  rw[decide_eq_false (by omega),Bool.false_or] at this
  exact this
theorem VL {p:List Pt} {i k:Nat} (h:B0 p i k=true) (hne:(k+1) % p.length≠i):b9 (pt p i) (nx p i) (pt p k) (nx p k)=false:=by
 unfold B0 at h
 rw[decide_eq_false hne] at h
 simpa using h
theorem AHV {p:List Pt} (h:pN p=true) (h3:3≤p.length):fH p:=by
 refine ⟨h3,fun i hi=>(lI h hi).1,fun i hi=>(lI h hi).2.1,fun i k hi hk h1 h2 h4 hc=>?_⟩
 have hm:=DL (lI h hi).1 (lI h hk).1 hc
 rcases Nat.lt_or_ge i k with hl|hl
 ·have:i+2≤k:=by
   rcases Nat.lt_or_ge (i+1) k with h5|h5
   ·omega
   ·have e:k=i+1:=by omega
    rw[Nat.mod_eq_of_lt (by omega)] at h2
    exact absurd e h2
  rw[VL ((lI h hi).2.2 k hk this) (fun e=>h4 e.symm)] at hm
  cases hm
 ·have:k+2≤i:=by
   rcases Nat.lt_or_ge (k+1) i with h5|h5
   ·omega
   ·rcases Nat.lt_or_ge k i with h6|h6
    ·have e:i=k+1:=by omega
     rw[Nat.mod_eq_of_lt (by omega)] at h4
     exact absurd e h4
    ·omega
  rw[qL,VL ((lI h hk).2.2 i hi this) (fun e=>h2 e.symm)] at hm
  cases hm
theorem vP {p q:List Pt} (h:j0 p q=false) {i k:Nat} (hi:i<p.length) (hk:k<q.length):b9 (pt p i) (nx p i) (pt q k) (nx q k)=false:=by
 rw[Bool.eq_false_iff]
 intro hm
 rw[show j0 p q=true from jJ.2 ⟨i,hi,jJ.2 ⟨k,hk,hm⟩⟩] at h
 cases h
theorem GX {p q:List Pt} (hp:pN p=true) (hq:pN q=true) (h:j0 p q=false):lO p q:=fun i j hi hj hc=>by
 have hm:=DL (lI hp hi).1 (lI hq hj).1 hc
 rw[vP h hi hj] at hm
 cases hm
theorem B1 {h o:List Pt} (he:j0 h o=false) {i:Nat} (hi:i<h.length):L7 o (pt h i)=false:=N9 fun k hk=>by
 have:=vP he hi hk
 exact (mX this).2.2.1
theorem JY {o:List Pt} {q:Pt} (hq:cG q) (ho:eU o=0) (hn:L7 o q=false):eM o q=if fF o q=true then 1 else -1:=by
 unfold eM
 rw[if_neg,hn,if_neg (by simp)]
 rintro (h|h)
 ·exact h hq
 ·exact h ho
theorem ANV (l:List (List Pt)) (f:List Pt→Int):Geo.kQ (l.map f)=cL l.length fun i=>f (l.getD i []):=by
 induction l with
 | nil=>rfl
 | cons a l ih =>
  rw[List.map_cons,Geo.kQ,ih,List.length_cons,wV]
  rfl
theorem pE {s:fW} {i:Nat} (hi:i<s.2.length) (h:sB s i=0):eU s.2[i]=0∧iL s.2[i]<0∧hU s.2[i] s.1=true∧∀ k (hk:k<i),kE s.2[i] (s.2[k]'(by omega))=true:=by
 have hg:s.2.getD i []=s.2[i]:=kV hi
 unfold sB at h
 rw[hg] at h
 by_cases h1:eU s.2[i]=0
 ·rw[if_neg (by simpa using h1)] at h
  by_cases h2:0≤iL s.2[i]∨hU s.2[i] s.1=false
  ·rw[if_pos h2] at h;cases h
  rw[if_neg h2] at h
  refine ⟨h1,?_,?_,fun k hk=>?_⟩
  ·rcases Int.lt_or_le (iL s.2[i]) 0 with h3|h3
   ·exact h3
   ·exact absurd (.inl h3) h2
  ·cases h3:hU s.2[i] s.1 with
   | true=>rfl
   | false=>exact absurd (.inr h3) h2
  ·by_cases h3:((List.range i).all fun k=>kE s.2[i] (s.2.getD k []))=false
   ·rw[if_pos h3] at h;cases h
   have h3:((List.range i).all fun k=>kE s.2[i] (s.2.getD k []))=true:=by simpa using h3
   have:=gV.1 h3 k hk
   rwa[kV (by omega)] at this
 ·rw[if_pos (by simpa using h1)] at h
  exact absurd h h1
theorem AQ0 {s:fW} (h:nA s=0):s.2.length≤8∧eU s.1=0∧0<iL s.1∧∀ i,i<s.2.length→sB s i=0:=by
 unfold nA at h
 by_cases h1:8<s.2.length
 ·rw[if_pos h1] at h;cases h
 rw[if_neg h1] at h
 by_cases h2:eU s.1=0
 ·rw[if_neg (by simpa using h2)] at h
  by_cases h3:iL s.1≤0
  ·rw[if_pos h3] at h;cases h
  rw[if_neg h3] at h
  exact ⟨by omega,h2,by omega,fun i hi=>lB h i (List.mem_range.2 hi)⟩
 ·rw[if_pos (by simpa using h2)] at h
  exact absurd h h2
theorem GZ {p:List Pt} (h:eU p=0):iL p=eQ p:=by unfold iL;rw[if_pos h]
theorem AQZ (s:fW):0≤uP s:=by
 unfold uP
 by_cases h:nA s=0
 ·rw[if_pos h]
  obtain ⟨h8,ho,hao,hh⟩:=AQ0 h
  have hp:∀ p∈s.1::s.2,eU p=0:=fun p hp=>by
   rcases List.mem_cons.1 hp with rfl|hp
   ·exact ho
   ·obtain ⟨i,hi,rfl⟩:=List.mem_iff_getElem.1 hp
    exact (pE hi (hh i hi)).1
  have e:ANU (s.1::s.2)=Geo.kQ ((s.1::s.2).map eQ):=by
   rw[ANV]
   unfold ANU
   refine eY fun i hi=>?_
   rw[kV hi]
   exact GZ (hp _ (List.getElem_mem hi))
  rw[e]
  have hsi:∀ p∈s.1::s.2,pN p=true:=fun p hm=>(eV (hp p hm)).2.2.2.1
  refine ANM (fun p hm=>AHV (hsi p hm) (eV (hp p hm)).1) (fun p hm=>(eV (hp p hm)).2.2.1.pt) (by rw[←GZ ho];exact hao) ?_ ?_ ?_ ?_
  ·intro c hm
   obtain ⟨i,hi,rfl⟩:=List.mem_iff_getElem.1 hm
   have:=pE hi (hh i hi)
   rw[←GZ this.1];exact this.2.1
  ·intro c hm
   obtain ⟨i,hi,rfl⟩:=List.mem_iff_getElem.1 hm
   have hw:=(pE hi (hh i hi)).2.2.1
   refine GX (hsi _ (by simp)) (hsi _ (by simp)) ?_
   unfold hU at hw
   simp only[Bool.and_eq_true,Bool.not_eq_true'] at hw
   exact hw.1
  ·intro c hm j hj
   obtain ⟨i,hi,rfl⟩:=List.mem_iff_getElem.1 hm
   have hq:=pE hi (hh i hi)
   have hw:=hq.2.2.1
   have hnear:=(eV hq.1).2.2.1
   unfold hU at hw
   simp only[Bool.and_eq_true,Bool.not_eq_true',List.all_eq_true] at hw
   have h1:=of_decide_eq_true (hw.2 _ (List.getElem_mem hj))
   rw[←I6 hj,JY (hnear.pt j) ho (B1 hw.1 hj)] at h1
   refine Classical.byContradiction fun hc=>?_
   rw[if_neg hc] at h1
   cases h1
  ·have key:∀ i j (hi:i<s.2.length) (hj:j<s.2.length),j<i→j0 s.2[i] s.2[j]=false∧fF s.2[i] (pt s.2[j] 0)=false∧fF s.2[j] (pt s.2[i] 0)=false:=fun i j hi hj hij=>by
    have hq:=pE hi (hh i hi)
    have hq':=pE hj (hh j hj)
    have ha:=hq.2.2.2 j hij
    have hn:=(eV hq.1).2.2.1
    have hn':=(eV hq'.1).2.2.1
    have l1:=(eV hq.1).1
    have l2:=(eV hq'.1).1
    unfold kE at ha
    simp only[Bool.and_eq_true,Bool.not_eq_true',decide_eq_true_eq] at ha
    obtain ⟨e1,e2,e3⟩:=ha
    have e1':j0 s.2[j] s.2[i]=false:=by
     rw[Bool.eq_false_iff]
     intro hc
     obtain ⟨a,ha,hb⟩:=jJ.1 hc
     obtain ⟨b,hb1,hb2⟩:=jJ.1 hb
     rw[qL,vP e1 hb1 ha] at hb2
     cases hb2
    rw[JY (hn'.pt 0) hq.1 (B1 e1' (by omega))] at e2
    rw[JY (hn.pt 0) hq'.1 (B1 e1 (by omega))] at e3
    refine ⟨e1,?_,?_⟩
    ·rw[Bool.eq_false_iff];intro hc;rw[if_pos hc] at e2;omega
    ·rw[Bool.eq_false_iff];intro hc;rw[if_pos hc] at e3;omega
   intro i j hi hj hij
   rcases Nat.lt_or_ge i j with hl|hl
   ·obtain ⟨k1,k2,k3⟩:=key j i hj hi hl
    exact ⟨(GX (hsi _ (by simp)) (hsi _ (by simp)) k1).symm,k3⟩
   ·obtain ⟨k1,k2,k3⟩:=key i j hi hj (by omega)
    exact ⟨GX (hsi _ (by simp)) (hsi _ (by simp)) k1,k2⟩
 ·rw[if_neg h];exact Int.le_refl 0
end Go.Pv
set_option maxRecDepth 100000
namespace Go.Pv
open Go Go.Proofs
theorem EH {a b A B:Int} (h1:0≤a∧a≤A) (h2:0≤b∧b≤B):0≤a*b∧a*b≤A*B:=⟨Int.mul_nonneg h1.1 h2.1,Int.mul_le_mul h1.2 h2.2 h2.1 (Int.le_trans h1.1 h1.2)⟩
theorem AB8 {x n B:Int} (hn:0<n) (h:0≤x∧x≤n*B):0≤x.tdiv n∧x.tdiv n≤B:=by
 rw[Int.tdiv_eq_ediv_of_nonneg h.1]
 exact ⟨Int.ediv_nonneg h.1 (Int.le_of_lt hn),Int.ediv_le_of_le_mul hn (by rw[Int.mul_comm];exact h.2)⟩
theorem ACT {p:bE} {m:aL} (h:iE p m=0):0≤(gM p m).1∧(gM p m).1≤2199023255552:=by
 have w:gM p m=(n8 p m,0):=by unfold gM;rw[if_pos h]
 rw[w]
 show 0≤n8 p m∧n8 p m≤2199023255552
 have e:n8 p m=n8 p m:=rfl
 unfold iE at h
 by_cases c1:oJ p.1=false∨oJ (jI p)=false
 ·rw[if_pos c1] at h;cases h
 rw[if_neg c1] at h
 by_cases c2:¬ (1≤p.2.1∧p.2.1≤1000)
 ·rw[if_pos c2] at h;cases h
 rw[if_neg c2] at h
 by_cases c3:¬ (bS p=1∨bS p=2∨bS p=3∨bS p=4)
 ·rw[if_pos c3] at h;cases h
 rw[if_neg c3] at h
 by_cases c4:j8 p=true
 ·rw[if_pos c4] at h;cases h
 rw[if_neg c4] at h
 by_cases c5:dO p m=false
 ·rw[if_pos c5] at h;cases h
 rw[if_neg c5] at h
 have c5:dO p m=true:=by cases hc:dO p m with
  | true=>rfl
  | false=>exact absurd hc c5
 by_cases c6:bS p=1∧¬ nA (eW p)=0
 ·rw[if_pos c6] at h;exact absurd h c6.2
 rw[if_neg c6] at h
 by_cases c7:(bS p=2∨bS p=3)∧¬ (1≤uJ p∧uJ p≤32768)
 ·rw[if_pos c7] at h;cases h
 rw[if_neg c7] at h
 by_cases c8:bS p=4∧¬ (1≤q9 p∧q9 p≤1099511627776∧rJ (w7 p)=true)
 ·rw[if_pos c8] at h;cases h
 clear h w
 have k:bS p=1∨bS p=2∨bS p=3∨bS p=4:=Classical.not_not.1 c3
 clear c1 c2 c3 c4
 by_cases k4:bS p=4
 ·have hb:=Classical.not_and_iff_not_or_not.1 c8
  have hm:1≤q9 p∧q9 p≤1099511627776∧rJ (w7 p)=true:=hb.elim (fun h=>absurd k4 h) Classical.not_not.1
  unfold n8
  rw[if_neg (by omega),if_neg (by omega)]
  omega
 unfold dO at c5
 rw[if_neg k4] at c5
 cases hg:dS m (dX p) with
 | none=>rw[hg] at c5;cases c5
 | some g =>
  rw[hg] at c5
  dsimp only at c5
  simp only[Bool.and_eq_true,decide_eq_true_eq] at c5
  obtain ⟨⟨d1,d2⟩,c5⟩:=c5
  have eg:H7 m (dX p)=g:=by unfold H7;rw[hg];rfl
  by_cases k1:bS p=1
  ·rw[if_pos k1] at c5
   simp only[Bool.and_eq_true,decide_eq_true_eq] at c5
   have t:=EH (A:=618475290624) (B:=120) ⟨AQZ (eW p),(AQY (eW p)).2⟩ (show 0≤gF p∧gF p≤120 by omega)
   have t2:=EH (B:=20000) t (show 0≤g.2.1∧g.2.1≤20000 by omega)
   unfold n8
   rw[if_pos k1,eg,aO (uP (eW p)*gF p) (by omega) (by omega),aO (uP (eW p)*gF p*g.2.1) (by omega) (by omega)]
   have v:=AB8 (x:=uP (eW p)*gF p*g.2.1) (n:=2000000) (B:=742170348749) (by omega) (by omega)
   rw[aO _ (by omega) (by omega)]
   omega
  ·rw[if_neg k1] at c5
   unfold V1 at c5
   cases hs:yZ m (KA p) with
   | none=>rw[hs] at c5;cases c5
   | some s =>
    rw[hs] at c5
    dsimp only at c5
    simp only[Bool.and_eq_true,decide_eq_true_eq] at c5
    have es:AQ3 m (KA p)=s:=by unfold AQ3;rw[hs];rfl
    have k23:bS p=2∨bS p=3:=by omega
    have hl:1≤uJ p∧uJ p≤32768:=Classical.byContradiction fun hc=>c7 ⟨k23,hc⟩
    have t:=EH (A:=1000000) (B:=32768) (show 0≤s.2.1∧s.2.1≤1000000 by omega) (show 0≤uJ p∧uJ p≤32768 by omega)
    have t2:=EH (B:=20000) t (show 0≤g.2.1∧g.2.1≤20000 by omega)
    unfold n8
    rw[if_neg k1,if_pos k23,eg,es,aO (s.2.1*uJ p) (by omega) (by omega),aO (s.2.1*uJ p*g.2.1) (by omega) (by omega)]
    have v:=AB8 (x:=s.2.1*uJ p*g.2.1) (n:=1000000) (B:=655360000) (by omega) (by omega)
    rw[aO _ (by omega) (by omega)]
    omega
end Go.Pv
namespace Go.Pv
open Go Go.Proofs
structure PV (d:aC) (m:aL):Prop where
 lt:sE d 100=true
 okD:okD d=true
 L6:L6 m=true
 n1:(ids d.2.1).Nodup
 n2:(ids d.2.2.1).Nodup
 n3:(ids d.2.2.2.1).Nodup
 pu:tB d
 pe:∀ p∈d.2.2.1,iE p m=0
 se:∀ s∈d.2.2.2.1,lU d s=0
 small:d.2.1.length≤40∧d.2.2.1.length≤40∧d.2.2.2.1.length≤40
def okP (d:aC) (m:aL):Bool:=few d 40&&(okD d&&decide (vN d m=0))
theorem AAT {d:aC} {m:aL} (h4:fI d=0) (h5:gR d m=0):tB d∧∀ p∈d.2.2.1,iE p m=0:=by
 have h6:bK (gY d m) d.2.2.1=0:=by
  unfold gR at h5
  split at h5
  ·assumption
  ·exact h5
 have hup:AMG d=false:=by
  unfold fI at h4
  split at h4
  ·split at h4
   ·cases h4
   ·rename_i h;simpa using h
  ·rename_i h;exact absurd h4 h
 have key:∀ p∈d.2.2.1,iE p m=0∧(cC d (jI p)).isSome=true:=fun p hp=>by
  have h1:=lB h6 p hp
  unfold gY at h1
  split at h1
  ·rename_i h0
   refine ⟨h0,?_⟩
   split at h1
   ·cases h1
   ·rename_i h2
    cases hn:cC d (jI p) with
    | none=>rw[hn] at h2;exact absurd rfl h2
    | some _=>rfl
  ·rename_i h2;exact absurd h1 h2
 refine ⟨fun p hp=>⟨(key p hp).2,?_⟩,fun p hp=>(key p hp).1⟩
 obtain ⟨n,hn⟩:=Option.isSome_iff_exists.1 (key p hp).2
 obtain ⟨m1,m2⟩:=AKV hn
 rw[←m2]
 cases hc:(up d n.1).2 with
 | true=>rfl
 | false =>
  exfalso
  unfold AMG at hup
  rw[Bool.eq_false_iff] at hup
  exact hup (List.any_eq_true.2 ⟨n,m1,by rw[hc];rfl⟩)
theorem AWB {d:aC} {m:aL} (h:okP d m=true):PV d m:=by
 simp only[okP,Bool.and_eq_true,decide_eq_true_eq] at h
 obtain ⟨h1,h2,h3⟩:=h
 obtain ⟨c1,c2,c3,c4,c5,c6,c7,c8⟩:=AO3 h3
 obtain ⟨_,⟨a1,a2,a3,a4⟩,_⟩:=AK6 c3
 obtain ⟨u1,u2⟩:=AAT c4 c5
 have h0:=h1
 simp only[few,Bool.and_eq_true,decide_eq_true_eq] at h0
 refine ⟨?_,h2,ACU c1,tD a1,tD a2,tD a3,u1,u2,lB c6,by omega⟩
 simp only[sE,Bool.and_eq_true,decide_eq_true_eq];omega
abbrev xZ:jA:=(⟨#[]⟩,0,0,0,0,0)
def WJ (d:aC) (m:aL) (node:ByteArray):jA×Int:=match cC d node with
 | none=>(xZ,8)
 | some n=>if ¬ n.2.1=2 then (xZ,10) else if (eB 1 (zI d node)).length=0 then (xZ,17) else ((node,((eB 1 (zI d node)).length:Int),((eB 2 (zI d node)).length:Int),fZ (fA 1 (oD d node)),fZ (fA 2 (oD d node)),fZ (iD m (zI d node))),0)
theorem UY {k:Int} {S S':List cN} (h:S.Sublist S') (hp:∀ s∈S',0≤s.2.2.2.2.1):fZ (fA k S)≤fZ (fA k S'):=by
 refine V9 (fun a ha=>?_) ((h.filter _).map _)
 unfold fA at ha
 obtain ⟨s,hs,rfl⟩:=List.mem_map.1 ha
 exact hp s (List.mem_filter.1 hs).1
theorem AGK {m:aL} {L L':List bE} (h:L.Sublist L') (hp:∀ p∈L',iE p m=0):fZ (iD m L)≤fZ (iD m L'):=by
 refine V9 (fun a ha=>?_) ((h.filter _).map _)
 unfold iD at ha
 obtain ⟨p,hs,rfl⟩:=List.mem_map.1 ha
 exact (ACT (hp p (List.mem_filter.1 hs).1)).1
theorem eT {d:aC} {m:aL} (v:PV d m) {a b:ByteArray} {p q:jA} (hp:WJ d m a=(p,0)) (hq:WJ d m b=(q,0)) (h:a∈iF d b) :
  1≤q.2.1∧q.2.1≤p.2.1∧q.2.2.1≤p.2.2.1∧q.2.2.2.1≤p.2.2.2.1∧q.2.2.2.2.1≤p.2.2.2.2.1∧q.2.2.2.2.2≤p.2.2.2.2.2:=by
 have get:∀ {c:ByteArray} {r:jA},WJ d m c=(r,0)→¬ (eB 1 (zI d c)).length=0∧r=(c,((eB 1 (zI d c)).length:Int),((eB 2 (zI d c)).length:Int),fZ (fA 1 (oD d c)),fZ (fA 2 (oD d c)),fZ (iD m (zI d c))):=fun {c r} h=>by
  unfold WJ at h
  split at h
  ·cases h
  ·split at h
   ·cases h
   ·split at h
    ·cases h
    ·rename_i h0;exact ⟨h0,(Prod.mk.inj h).1.symm⟩
 obtain ⟨p0,rfl⟩:=get hp
 obtain ⟨q0,rfl⟩:=get hq
 have s1:=ATH v.pu h
 have s2:=ANO v.pu h
 have k1:=(s1.filter fun p=>decide (bS p=1)).length_le
 have k2:=(s1.filter fun p=>decide (bS p=2)).length_le
 have hs:∀ s∈oD d a,0≤s.2.2.2.2.1:=fun s hs=>by
  have:=(V0 (v.se s (List.mem_filter.1 hs).1)).2.2.2.1
  omega
 have hm:∀ p∈zI d a,iE p m=0:=fun p hp=>v.pe p (List.mem_filter.1 hp).1
 refine ⟨?_,?_,?_,UY s2 hs,UY s2 hs,AGK s1 hm⟩
 ·show (1:Int)≤((eB 1 (zI d b)).length:Int);omega
 ·show ((eB 1 (zI d b)).length:Int)≤((eB 1 (zI d a)).length:Int);exact Int.ofNat_le.2 k1
 ·show ((eB 2 (zI d b)).length:Int)≤((eB 2 (zI d a)).length:Int);exact Int.ofNat_le.2 k2
end Go.Pv
namespace Go.Pv
open Go Go.Proofs
theorem AM {α:Type}:∀ {l:List (ByteArray×α)},(ids l).Nodup→∀ {a:ByteArray×α},a∈l→l.find? (fun s=>decide (s.1=a.1))=some a
 | [],_,a,h=>by cases h
 | b::l,hn,a,h=>by
  obtain ⟨h1,h2⟩:=List.pairwise_cons.1 (show (b.1::ids l).Nodup from hn)
  rcases List.mem_cons.1 h with rfl|h
  ·simp
  ·have hne:b.1≠a.1:=h1 _ (List.mem_map.2 ⟨a,h,rfl⟩)
   rw[List.find?_cons_of_neg (by simpa using hne)]
   exact AM h2 h
theorem wD {α:Type} {f:α→α}:∀ {l:List α},(∀ a∈l,f a=a)→l.map f=l
 | [],_=>rfl
 | a::l,h=>by rw[List.map_cons,h a List.mem_cons_self,wD fun b hb=>h b (List.mem_cons_of_mem _ hb)]
theorem AHI {d:aC} {m:aL} (v:PV d m) (node:ByteArray):bX d node=zI d node:=by
 unfold bX lR zI
 rw[List.map_map]
 refine wD (f:=AMZ d∘fun p=>p.1) fun p hp=>?_
 have h:partOf d p.1=some p:=AM v.n2 (List.mem_filter.1 hp).1
 show (found BX (partOf d p.1)).1=p
 rw[h];rfl
theorem ANN {d:aC} {m:aL} (v:PV d m) (node:ByteArray):eD d node=oD d node:=by
 unfold eD oB oD
 rw[List.map_map]
 refine wD (f:=ANG d∘fun p=>p.1) fun p hp=>?_
 have h:qV d p.1=some p:=AM v.n3 (List.mem_filter.1 hp).1
 show (found BY (qV d p.1)).1=p
 rw[h];rfl
theorem ADG {l:List Int} (hl:l.length≤40) (h:∀ a∈l,0≤a∧a≤2199023255552):eL l=(fZ l,0)∧rF l=true:=by
 have:=ADI h
 refine ⟨by unfold eL;rw[if_pos (by omega)],?_⟩
 unfold rF
 rw[decide_eq_true (by omega),Bool.true_and]
 refine List.all_eq_true.2 fun a ha=>?_
 have:=h a ha
 unfold ATG
 rw[decide_eq_true (by omega),decide_eq_true (by omega)];rfl
theorem C7 {α:Type} {f:α→Int}:∀ {l:List α},(∀ a∈l,f a=0)→bK f l=0
 | [],_=>rfl
 | a::l,h=>by rw[bK,if_pos (h a List.mem_cons_self)];exact C7 fun b hb=>h b (List.mem_cons_of_mem _ hb)
theorem ATU {d:aC} {m:aL} (v:PV d m) (node:ByteArray):WI d m node=WJ d m node∧okG d m node=true:=by
 have e1:=AHI v node
 have e2:=ANN v node
 have hin:∀ p∈zI d node,iE p m=0:=fun p hp=>v.pe p (List.mem_filter.1 hp).1
 have hsh:∀ s∈oD d node,0≤s.2.2.2.2.1∧s.2.2.2.2.1≤2199023255552:=fun s hs=>by
  have:=(V0 (v.se s (List.mem_filter.1 hs).1)).2.2.2.1
  omega
 have hl1:(zI d node).length≤40:=Nat.le_trans (List.length_filter_le ..) v.small.2.1
 have hl2:(oD d node).length≤40:=Nat.le_trans (List.length_filter_le ..) v.small.2.2
 have hk:∀ k,eL (fA k (oD d node))=(fZ (fA k (oD d node)),0)∧rF (fA k (oD d node))=true:=fun k=>ADG (Nat.le_trans IE hl2) fun a ha=>by
  unfold fA at ha
  obtain ⟨s,hs,rfl⟩:=List.mem_map.1 ha
  exact hsh s (List.mem_filter.1 hs).1
 have hm:eL (iD m (zI d node))=(fZ (iD m (zI d node)),0)∧rF (iD m (zI d node))=true:=ADG (by unfold iD;rw[List.length_map];exact Nat.le_trans CX hl1) fun a ha=>by
  unfold iD at ha
  obtain ⟨p,hp,rfl⟩:=List.mem_map.1 ha
  exact ACT (hin p (List.mem_filter.1 hp).1)
 have he:n7 m (zI d node)=0:=C7 fun p hp=>by
  have:=hin p (List.mem_filter.1 hp).1
  unfold gM;rw[if_pos this]
 refine ⟨?_,?_⟩
 ·unfold WI WJ
  rw[e1,e2,he,(hk 1).1,(hk 2).1,hm.1]
  cases cC d node with
  | none=>rfl
  | some n =>
   dsimp only
   by_cases h1:n.2.1=2
   ·by_cases h2:(eB 1 (zI d node)).length=0
    ·have h3:((eB 1 (zI d node)).length:Int)=0:=by omega
     simp[h1,h2]
    ·have h3:¬ ((eB 1 (zI d node)).length:Int)=0:=by omega
     simp[h1,h2]
   ·simp[h1]
 ·unfold okG
  rw[e1,e2,v.okD,v.lt,v.L6,(hk 1).2,(hk 2).2,hm.2,decide_eq_true (by have:=v.small;omega)];rfl
end Go.Pv
namespace Go.Pv
open Go Go.Proofs
def JH (x:List ByteArray×ByteArray):Option T:=some (Sh.enc r_b (H8 x.1 x.2))
noncomputable def M4:Env:=Env.of []
def ABQ:FuncId→Hint:=fun f=>match f == 19 with|true=>⟨fun r=>match r == 2 with|true=>.inv [.val 5 false (.int .i64)]|false=>.none,fun _ _=>none,fun _=>none⟩|false=>aU
theorem ADX:aF Tryz.prog M4:=aF.nil _
def NK (a0:List ByteArray) (a1:ByteArray) (R:T→Prop):Prop :=
 bB (Int×PUnit)
 (fun (X0:Int×PUnit→Prop) (s1:Int×PUnit) =>
 aB (decide (s1.1<(↑(List.map Sy.str.enc a0).length:Int)))
 (aP Sy.str (List.map Sy.str.enc a0) s1.1 fun (y2:ByteArray) =>
 aB (decide (y2=a1)) (R (T.v (.bool true))) (X0 (IntKind.i64.wrap (s1.1+1),())))
 (R (T.v (.bool false))))
 (0,())
theorem XV ( a0 a1 R):bJ aV Tryz.prog M4 ABQ 8 19 [aD false Sy.str.li a0,aD false Sy.str a1] R=NK a0 a1 R:=by kernel_rfl
abbrev ES:Sh:=[(false,Sy.str.li),(false,Sy.str)]
noncomputable def tL:List T→Option (T):=gS ES JH
theorem ZV {a0 a1}:tL [T.sl false (List.map Sy.str.enc a0),T.v (.string a1)]=JH (a0,a1):=bH (s:=ES) rfl (a0,a1) rfl
theorem AML (h:∀ a0 a1 r,JH (a0,a1)=some r→cR ES (a0,a1)→NK a0 a1 (fun y=>y=r)):aJ Tryz.prog 19 tL :=
 aX (E:=M4) (Hs:=ABQ) ADX a6 a7 (aM rfl) 8 ⟨_,_,Tryz.func19,rfl⟩ rfl fun x r h1 h2=>by
  obtain ⟨a0,a1⟩:=x
  rw[show Sh.cA ES (a0,a1)=[aD false Sy.str.li a0,aD false Sy.str a1] from rfl,XV]
  exact h a0 a1 r h1 h2
theorem YX {α:Type} {p:α→Bool} {l:List α} {k:Nat} (h:k<l.length):(l.drop k).any p=(p l[k]||(l.drop (k+1)).any p):=by rw[List.drop_eq_getElem_cons h,List.any_cons]
theorem AKX:aJ Tryz.prog 19 tL:=AML fun l x r h hb=>by
 cases h
 have hl:l.length≤2 ^ 47:=hb.1.1
 unfold NK
 refine aY l.length (fun k s=>s=((k:Int),())∧H8 l x=(l.drop k).any fun y=>decide (y=x)) ⟨rfl,rfl⟩ ?_
 rintro X k s hk ⟨rfl,he⟩ hX
 dsimp only
 by_cases hlt:k<l.length
 ·rw[YX hlt] at he
  refine cJ (by simp[hlt]) ?_
  rw[aT (r:=.str) hlt]
  by_cases h1:l[k]=x
  ·refine cJ h1 ?_
   rw[he,decide_eq_true h1];rfl
  ·refine cV h1 (hX _ hlt ⟨by rw[show IntKind.i64.wrap ((k:Int)+1)=((k+1:Nat):Int) from aO _ (by omega) (by omega)],?_⟩)
   rw[he,decide_eq_false h1,Bool.false_or]
 ·have:k=l.length:=by omega
  subst this
  refine cV (by simp) ?_
  rw[he,List.drop_length];rfl
def xK (g:dI):Bool:=decide ((g.2.2.2.length:Int)≤30)&&decide ((g.1.size:Int)≤40)
def AC7 (s:bQ):Bool:=decide ((s.1.size:Int)≤40)
def uN (m:aL):Bool:=(m.1.take 41).all xK&&((m.2.take 41).all AC7&&(decide ((m.1.length:Int)≤40)&&decide ((m.2.length:Int)≤40)))
def JG (m:aL):Option T:=some (T.v (.bool (uN m)))
noncomputable def M3:Env:=Env.of []
def ABP:FuncId→Hint:=fun f=>match f == 8 with|true=>⟨fun r=>match r == 2 with|true=>.inv [.val 3 false (.int .i64)]|false=>match r == 7 with|true=>.inv [.val 4 false (.int .i64)]|false=>.none,fun _ _=>none,fun _=>none⟩|false=>aU
theorem ADW:aF Tryz.prog M3:=aF.nil _
def NJ (a0:aL) (R:T→Prop):Prop :=
 bB (Int×PUnit)
 (fun (X0:Int×PUnit→Prop) (s1:Int×PUnit) =>
 aB (decide (s1.1<(↑(List.map bR.enc a0.1).length:Int)))
 (aB (decide (s1.1<41))
 (aP bR (List.map bR.enc a0.1) s1.1 fun (y2:dI) =>
 aB (decide (30<(↑(List.map (Sy.int IntKind.i64).enc y2.2.2.2).length:Int)))
 (R (T.v (.bool false)))
 (aP bR (List.map bR.enc a0.1) s1.1 fun (y3:dI) =>
 aB (decide (40<(↑(ByteArray.size y3.1):Int))) (R (T.v (.bool false)))
 (X0 (IntKind.i64.wrap (s1.1+1),()))))
 (bB (Int×PUnit)
 (fun (X4:Int×PUnit→Prop) (s5:Int×PUnit) =>
 aB (decide (s5.1<(↑(List.map aR.enc a0.2).length:Int)))
 (aB (decide (s5.1<41))
 (aP aR (List.map aR.enc a0.2) s5.1 fun (y6:bQ) =>
 aB (decide (40<(↑(ByteArray.size y6.1):Int))) (R (T.v (.bool false)))
 (X4 (IntKind.i64.wrap (s5.1+1),())))
 (aB (decide ((↑(List.map bR.enc a0.1).length:Int)≤40))
 (R (T.v (.bool (decide ((↑(List.map aR.enc a0.2).length:Int)≤40)))))
 (R (T.v (.bool false)))))
 (aB (decide ((↑(List.map bR.enc a0.1).length:Int)≤40))
 (R (T.v (.bool (decide ((↑(List.map aR.enc a0.2).length:Int)≤40)))))
 (R (T.v (.bool false)))))
 (0,())))
 (bB (Int×PUnit)
 (fun (X7:Int×PUnit→Prop) (s8:Int×PUnit) =>
 aB (decide (s8.1<(↑(List.map aR.enc a0.2).length:Int)))
 (aB (decide (s8.1<41))
 (aP aR (List.map aR.enc a0.2) s8.1 fun (y9:bQ) =>
 aB (decide (40<(↑(ByteArray.size y9.1):Int))) (R (T.v (.bool false)))
 (X7 (IntKind.i64.wrap (s8.1+1),())))
 (aB (decide ((↑(List.map bR.enc a0.1).length:Int)≤40))
 (R (T.v (.bool (decide ((↑(List.map aR.enc a0.2).length:Int)≤40)))))
 (R (T.v (.bool false)))))
 (aB (decide ((↑(List.map bR.enc a0.1).length:Int)≤40))
 (R (T.v (.bool (decide ((↑(List.map aR.enc a0.2).length:Int)≤40)))))
 (R (T.v (.bool false)))))
 (0,())))
 (0,())
theorem XT ( a0 R):bJ aV Tryz.prog M3 ABP 8 8 [aD true aI a0] R=NJ a0 R:=by kernel_rfl
abbrev ER:Sh:=[(true,aI)]
noncomputable def tK:List T→Option (T):=gS ER JG
theorem ZU {a0}:tK [aD true aI a0]=JG (a0):=bH (s:=ER) rfl (a0) rfl
theorem AMK (h:∀ a0 r,JG (a0)=some r→cR ER (a0)→NJ a0 (fun y=>y=r)):aJ Tryz.prog 8 tK :=
 aX (E:=M3) (Hs:=ABP) ADW a6 a7 (aM rfl) 8 ⟨_,_,Tryz.func8,rfl⟩ rfl fun x r h1 h2=>by
  let a0:=x
  rw[show Sh.cA ER (a0)=[aD true aI a0] from rfl,XT]
  exact h a0 r h1 h2
theorem JV {α:Type} {l:List α} {ok:α→Bool} {k:Nat} (h:k<l.length) (h41:k<41) (hb:ok l[k]=false):(l.take 41).all ok=false:=by
 rw[Bool.eq_false_iff]
 intro hc
 have hk:k<(l.take 41).length:=by rw[List.length_take];omega
 have h1:=List.all_eq_true.1 hc (l.take 41)[k] (List.getElem_mem hk)
 rw[List.getElem_take,hb] at h1
 cases h1
theorem TA {r:Sy} {l:List r.den} (ok:r.den→Bool) {Fin:Prop} {Body:(Int×PUnit→Prop)→Int×PUnit→Prop}
  (hbody:∀ X k (h:k<l.length),k<41→(ok l[k]=true→X (IntKind.i64.wrap ((k:Int)+1),()))→Body X ((k:Int),())) (hF:(l.take 41).all ok=true→Fin) :
  bB (Int×PUnit) (fun X s=>aB (decide (s.1<((List.map r.enc l).length:Int))) (aB (decide (s.1<41)) (Body X s) Fin) Fin) (0,()):=by
 refine aY l.length (fun k s=>s=((k:Int),())∧k≤41∧(l.take k).all ok=true) ⟨rfl,by omega,rfl⟩ ?_
 rintro X k s hk ⟨rfl,h41,he⟩ hX
 dsimp only
 refine bZ (fun hlt=>?_) fun hge=>?_
 ·rw[List.length_map] at hlt
  have hlt:k<l.length:=by omega
  refine bZ (fun h=>hbody X k hlt (by omega) fun hok=>hX _ hlt ⟨?_,by omega,?_⟩) fun h=>hF ?_
  ·rw[show IntKind.i64.wrap ((k:Int)+1)=((k+1:Nat):Int) by rw[aO]<;>omega]
  ·rw[List.take_add_one,List.getElem?_eq_getElem hlt,List.all_append,he]
   simpa using hok
  ·have:k=41:=by omega
   subst this;exact he
 ·rw[List.length_map] at hge
  have:k=l.length:=by omega
  subst this
  exact hF (by rw[List.take_of_length_le h41];rw[List.take_length] at he;exact he)
theorem AKW:aJ Tryz.prog 8 tK:=AMK fun m r h hb=>by
 clear hb
 cases h
 have is:∀ {b:Bool},uN m=b→T.v (.bool b)=T.v (.bool (uN m)):=fun h=>by rw[h]
 unfold NJ
 have fin:(m.1.take 41).all xK=true→(m.2.take 41).all AC7=true→aB (decide ((↑(List.map bR.enc m.1).length:Int)≤40)) (T.v (.bool (decide ((↑(List.map aR.enc m.2).length:Int)≤40)))=T.v (.bool (uN m))) (T.v (.bool false)=T.v (.bool (uN m))):=fun h1 h2=>by
  rw[List.length_map,List.length_map]
  refine bZ (fun h=>is ?_) fun h=>is ?_
  ·unfold uN;rw[h1,h2,decide_eq_true h];rfl
  ·unfold uN;rw[h1,h2,decide_eq_false h];rfl
 have sec:(m.1.take 41).all xK=true→bB (Int×PUnit)
   (fun (X4:Int×PUnit→Prop) (s5:Int×PUnit) =>
   aB (decide (s5.1<(↑(List.map aR.enc m.2).length:Int)))
   (aB (decide (s5.1<41))
    (aP aR (List.map aR.enc m.2) s5.1 fun (y6:bQ) =>
    aB (decide (40<(↑(ByteArray.size y6.1):Int))) (T.v (.bool false)=T.v (.bool (uN m)))
    (X4 (IntKind.i64.wrap (s5.1+1),())))
    (aB (decide ((↑(List.map bR.enc m.1).length:Int)≤40))
    (T.v (.bool (decide ((↑(List.map aR.enc m.2).length:Int)≤40)))=T.v (.bool (uN m)))
    (T.v (.bool false)=T.v (.bool (uN m)))))
   (aB (decide ((↑(List.map bR.enc m.1).length:Int)≤40))
    (T.v (.bool (decide ((↑(List.map aR.enc m.2).length:Int)≤40)))=T.v (.bool (uN m)))
    (T.v (.bool false)=T.v (.bool (uN m)))))
   (0,()):=fun h1=>by
  refine TA (r:=aR) AC7 (fun X k hk h41 hX=>?_) fun h2=>fin h1 h2
  dsimp only
  rw[aT (r:=aR) hk]
  refine bZ (fun hb=>is ?_) fun hb=>hX ?_
  ·unfold uN
   rw[JV hk h41 (show AC7 m.2[k]=false from decide_eq_false (by omega))]
   simp
  ·exact decide_eq_true (by omega)
 refine TA (r:=bR) xK (fun X k hk h41 hX=>?_) fun h1=>sec h1
 dsimp only
 rw[aT (r:=bR) hk,List.length_map]
 refine bZ (fun hb=>is ?_) fun hb=>?_
 ·unfold uN
  rw[JV hk h41 (show xK m.1[k]=false by unfold xK;rw[decide_eq_false (by omega),Bool.false_and])]
  rfl
 rw[aT (r:=bR) hk]
 refine bZ (fun hb2=>is ?_) fun hb2=>hX ?_
 ·unfold uN
  rw[JV hk h41 (show xK m.1[k]=false by unfold xK;rw[decide_eq_false (p:=((m.1[k].1.size:Nat):Int)≤40) (by omega),Bool.and_false])]
  rfl
 ·unfold xK;rw[decide_eq_true (by omega),decide_eq_true (by omega)];rfl
end Go.Pv
namespace Go.Pv
open Go Go.Proofs Go.RowKit
theorem AEZ:WN Tryz.prog 79 1 8:=⟨fun R=>by kernel_rfl,fun fl R=>by kernel_rfl,fun fl a rows R=>by kernel_rfl⟩
noncomputable def HX:List T→Option (List (List T)):=gS [(false,.li (.int .i64))] (gZ (.int .i64) 8)
theorem TT {u0}:HX [T.sl false (List.map (Sy.enc (.int .i64)) u0)]=gZ (.int .i64) 8 u0:=bH (s:=[(false,.li (.int .i64))]) rfl u0 rfl
theorem LG:kR Tryz.prog 79 HX:=K8 a6 a7 ⟨_,_,Tryz.func79,rfl⟩ AEZ
def AO4:List (List T)→Option (List Int)
 | []=>some []
 | [.v (.int .i64 n)]::l=>(AO4 l).map fun u=>n::u
 | _=>none
theorem G7:∀ {rows:List (List T)} {u:List Int},AO4 rows=some u→rows=List.map (Sy.enc (.int .i64)) u
 | [],u,h=>by cases h;rfl
 | r::l,u,h=>by
  unfold AO4 at h
  split at h
  ·rename_i h1;cases h1
  ·rename_i n l' h1
   cases h1
   simp only[Option.map_eq_some_iff] at h
   obtain ⟨u',hu,rfl⟩:=h
   rw[G7 hu];rfl
  ·cases h
theorem AUI {w:World} {own:Nat→Prop} {f:Bool} {rows:List (List T)} {v:Value} (h:b6 w own (.sl f rows) v):b6 w own (.sl false rows) v:=by
 cases h with
 | bY _ a cap h1 h2=>exact .bY false a cap (fun h=>by cases h) h2
 | sl _ rows sz bI off cap f h1 h2 h3 h4 h45 h5 h6 h7 h8=>exact .sl false rows sz bI off cap f h1 h2 (fun h=>by cases h) h4 h45 h5 h6 h7 h8
def APS:List T→Option (List (List T))
 | [.sl f (r::rows)]=>match AO4 (r::rows) with
  | some u=>gZ (.int .i64) 8 u
  | none=>none
 | [.v (.slice none 0 0)]=>some []
 | _=>none
theorem ASN:GP Tryz.prog 79 APS:=⟨LG.entry,fun w own args vs rows hG ho ha hg=>by
 unfold APS at hg
 split at hg
 ·rename_i f r0 rows'
  split at hg
  ·rename_i u hu
   have h1:cB (b6 w own) [T.sl false (r0::rows')] vs:=⟨ha.1,fun i hi=>by
    have hi':i=0:=by simpa using hi
    subst hi'
    have:=ha.2 0 (by simp)
    simp only[List.getElem_cons_zero] at this ⊢
    exact AUI this⟩
   have h2:HX [T.sl false (r0::rows')]=some rows:=by
    rw[G7 hu,TT]
    exact hg
   have hne:rows≠[]:=by
    have he:=G7 hu
    unfold gZ at hg
    split at hg
    ·cases hg
     rw[←he];simp
    ·cases hg
   refine (LG.calls w own _ vs rows hG ho h1 h2).mono ?_
   rintro e w' ⟨v,rfl,h3,_,h5⟩
   exact ⟨v,rfl,h3,fun h=>absurd h hne,h5⟩
  ·cases hg
 ·cases hg
  have hv:vs = #[.slice none 0 0]:=by
   have e0:=ha.2 0 (by simp)
   have hs:vs.size=1:=ha.1
   obtain ⟨l⟩:=vs
   match l,hs with
   | [a],_ =>
    simp at e0
    cases e0;rfl
  subst hv
  refine (Any.slices_Clone_int_nil Tryz.ALU 0 0 w).mono ?_
  rintro e w' ⟨rfl,rfl⟩
  exact ⟨_,rfl,Below.refl _ _,fun _=>.bY true none 0 (fun _=>rfl) (fun _=>rfl),fun h=>absurd rfl h⟩
 ·cases hg⟩
end Go.Pv
namespace Go.Pv
open Go Go.Proofs
def AS9:FuncId→Bool:=fun f=>[118,153,175,53,54,77].contains f
noncomputable def APW:Env:=Env.of [(142,.pure AR),(69,.ext AQ),(79,.rW APS),(1000000000+23,.mark),(1000000000+53,.mark),(2000000000,.mark)]
def AVN:List T→Option T:=fun args=>match args with | []=>some (.v (.bool true))|_=>none
def cP:List T→Option T:=AVN
theorem ZI:aJ Tryz.prog 9 cP :=
 AFN (by kernel_rfl) (by kernel_rfl) 400 AS9 (B:=APW) (aF.cons (x:=.pure AR) HS (aF.cons (x:=.ext AQ) TD (aF.cons (x:=.rW APS) ASN (aF.cons (x:=.mark) trivial (aF.cons (x:=.mark) trivial (aF.cons (x:=.mark) trivial (aF.nil _))))))) 60 (by kernel_rfl)
end Go.Pv
namespace Go.Pv
open Go Go.Proofs
noncomputable def vD:Env:=Env.of [(7,.pure LQ),(8,.pure tK),(18,.pure AS),(10,.pure DB),(19,.pure tL),(20,.pure lZ),(9,.pure cP)]
def GR:FuncId→Hint:=fun _=>aU
theorem NH:aF Tryz.prog vD:=aF.cons (x:=.pure LQ) ASO (aF.cons (x:=.pure tK) AKW (aF.cons (x:=.pure AS) APH (aF.cons (x:=.pure DB) ASU (aF.cons (x:=.pure tL) AKX (aF.cons (x:=.pure lZ) TK (aF.cons (x:=.pure cP) ZI (aF.nil _)))))))
def vH (a0:aC) (a1:aL) (a2:ByteArray×ByteArray) (R:T→Prop):Prop :=
 aH [(false,Sy.bool)]
 (LQ [aD true aN a0,T.v (.int .i64 40)]) fun (y0:Bool) =>
 aB (!y0)
 (aH [(false,Sy.bool)] (cP []) fun (y1:Bool)=>R (T.v (.bool y1)))
 (aH [(false,Sy.bool)] (tK [aD true aI a1]) fun (y2:Bool) =>
 aB (!y2)
 (aH [(false,Sy.bool)] (cP []) fun (y3:Bool)=>R (T.v (.bool y3)))
 (aH [(false,Sy.int IntKind.i64)]
 (AS [aD true aN a0,aD true aI a1]) fun (y4:Int) =>
 aB (!decide (y4=0))
 (aH [(false,Sy.bool)] (cP []) fun (y5:Bool) =>
 R (T.v (.bool y5)))
 (aH [(true,J3),(false,Sy.int IntKind.i64)]
 (DB
 [aD true aN a0,aD true aI a1,
 T.v (.string a2.1)])
 fun (y6:jA×Int) =>
 aH [(true,J3),(false,Sy.int IntKind.i64)]
 (DB
 [aD true aN a0,aD true aI a1,
 T.v (.string a2.2)])
 fun (y7:jA×Int) =>
 aB (!decide (y6.2=0))
 (aB (decide (y6.2=0))
 (aB (decide (y7.2=0))
 (aH [(false,Sy.bool)] (cP []) fun (y8:Bool) =>
 R (T.v (.bool y8)))
 (aB
 (decide (y7.1.1 = { data:=#[] }) &&
 (decide (y7.1.2.1=0) &&
 (decide (y7.1.2.2.1=0) &&
 (decide (y7.1.2.2.2.1=0) &&
 (decide (y7.1.2.2.2.2.1=0) &&
 (decide (y7.1.2.2.2.2.2=0)&&true))))))
 (aH [(false,Sy.bool)] (cP []) fun (y9:Bool) =>
 R (T.v (.bool y9)))
 (R (T.v (.bool false)))))
 (aB
 (decide (y6.1.1 = { data:=#[] }) &&
 (decide (y6.1.2.1=0) &&
 (decide (y6.1.2.2.1=0) &&
 (decide (y6.1.2.2.2.1=0) &&
 (decide (y6.1.2.2.2.2.1=0) &&
 (decide (y6.1.2.2.2.2.2=0)&&true))))))
 (aB (decide (y7.2=0))
 (aH [(false,Sy.bool)] (cP []) fun (y10:Bool) =>
 R (T.v (.bool y10)))
 (aB
 (decide (y7.1.1 = { data:=#[] }) &&
 (decide (y7.1.2.1=0) &&
 (decide (y7.1.2.2.1=0) &&
 (decide (y7.1.2.2.2.1=0) &&
 (decide (y7.1.2.2.2.2.1=0) &&
 (decide (y7.1.2.2.2.2.2=0)&&true))))))
 (aH [(false,Sy.bool)] (cP []) fun (y11:Bool) =>
 R (T.v (.bool y11)))
 (R (T.v (.bool false)))))
 (R (T.v (.bool false)))))
 (aB (!decide (y7.2=0))
 (aB (decide (y6.2=0))
 (aB (decide (y7.2=0))
 (aH [(false,Sy.bool)] (cP []) fun (y12:Bool) =>
 R (T.v (.bool y12)))
 (aB
 (decide (y7.1.1 = { data:=#[] }) &&
 (decide (y7.1.2.1=0) &&
 (decide (y7.1.2.2.1=0) &&
 (decide (y7.1.2.2.2.1=0) &&
 (decide (y7.1.2.2.2.2.1=0) &&
 (decide (y7.1.2.2.2.2.2=0)&&true))))))
 (aH [(false,Sy.bool)] (cP []) fun (y13:Bool) =>
 R (T.v (.bool y13)))
 (R (T.v (.bool false)))))
 (aB
 (decide (y6.1.1 = { data:=#[] }) &&
 (decide (y6.1.2.1=0) &&
 (decide (y6.1.2.2.1=0) &&
 (decide (y6.1.2.2.2.1=0) &&
 (decide (y6.1.2.2.2.2.1=0) &&
 (decide (y6.1.2.2.2.2.2=0)&&true))))))
 (aB (decide (y7.2=0))
 (aH [(false,Sy.bool)] (cP []) fun (y14:Bool) =>
 R (T.v (.bool y14)))
 (aB
 (decide (y7.1.1 = { data:=#[] }) &&
 (decide (y7.1.2.1=0) &&
 (decide (y7.1.2.2.1=0) &&
 (decide (y7.1.2.2.2.1=0) &&
 (decide (y7.1.2.2.2.2.1=0) &&
 (decide (y7.1.2.2.2.2.2=0)&&true))))))
 (aH [(false,Sy.bool)] (cP []) fun (y15:Bool) =>
 R (T.v (.bool y15)))
 (R (T.v (.bool false)))))
 (R (T.v (.bool false)))))
 (aH [(false,Sy.str.li)]
 (lZ [aD true aN a0,T.v (.string a2.2)])
 fun (y16:List ByteArray) =>
 aH [(false,Sy.bool)]
 (tL
 [T.sl false (List.map Sy.str.enc y16),T.v (.string a2.1)])
 fun (y17:Bool) =>
 aB (!y17)
 (aH [(false,Sy.bool)] (cP []) fun (y18:Bool) =>
 R (T.v (.bool y18)))
 (aB (decide (1≤y7.1.2.1))
 (aB (decide (y7.1.2.1≤y6.1.2.1))
 (aB (decide (y7.1.2.2.1≤y6.1.2.2.1))
 (aB (decide (y7.1.2.2.2.1≤y6.1.2.2.2.1))
 (aB (decide (y7.1.2.2.2.2.1≤y6.1.2.2.2.2.1))
 (aB (decide (y7.1.2.2.2.2.2≤y6.1.2.2.2.2.2))
 (aH [(false,Sy.bool)] (cP []) fun (y19:Bool) =>
 R (T.v (.bool y19)))
 (R (T.v (.bool false))))
 (R (T.v (.bool false))))
 (R (T.v (.bool false))))
 (R (T.v (.bool false))))
 (R (T.v (.bool false))))
 (R (T.v (.bool false)))))))))
theorem J7 ( a0 a1 a2 R):bJ aV Tryz.prog vD GR 8 6 [aD true aN a0,aD true aI a1,
 aD true (Sy.str.pr Sy.str) a2] R=vH a0 a1 a2 R:=by kernel_rfl
abbrev qT:Sh:=[(true,aN),(true,aI),(true,(Sy.str.pr Sy.str))]
def sT (x:aC×aL×ByteArray×ByteArray):Option T:=sK x.1 (.v (.bool true))
noncomputable def H0:List T→Option (T):=gS qT sT
theorem VJ (h:∀ a0 a1 a2 r,sT (a0,a1,a2)=some r→cR qT (a0,a1,a2)→vH a0 a1 a2 (fun y=>y=r)):aJ Tryz.prog 6 H0 :=
 aX (E:=vD) (Hs:=GR) NH a6 a7 (aM rfl) 8 ⟨_,_,Tryz.func6,rfl⟩ rfl fun x r h1 h2=>by
  obtain ⟨a0,a1,a2⟩:=x
  rw[show Sh.cA qT (a0,a1,a2)=[aD true aN a0,aD true aI a1,
 aD true (Sy.str.pr Sy.str) a2] from rfl,J7]
  exact h a0 a1 a2 r h1 h2
theorem IW {d:aC} {m:aL} {c:ByteArray} (h:¬ (WJ d m c).2=0):(WJ d m c).1=xZ:=by
 unfold WJ at h ⊢
 split
 ·rfl
 ·rename_i n hn
  rw[hn] at h
  dsimp only at h
  split
  ·rfl
  ·split
   ·rfl
   ·rename_i h1 h2
    rw[if_neg h1,if_neg h2] at h
    exact absurd rfl h
theorem wY {p:jA} (h:p=xZ):(decide (p.1 = { data:=#[] })&&(decide (p.2.1=0)&&(decide (p.2.2.1=0)&&(decide (p.2.2.2.1=0)&&(decide (p.2.2.2.2.1=0)&&(decide (p.2.2.2.2.2=0)&&true))))))=true:=by
 subst h;rfl
theorem TH:aJ Tryz.prog 6 H0:=VJ fun d m ns r h hb=>by
 clear hb
 have hD:okD d=true∧r=T.v (.bool true):=by
  obtain ⟨h1,h2⟩:=x7 h
  exact ⟨h1,h2⟩
 obtain ⟨hD,rfl⟩:=hD
 clear h
 have alive:∀ {K:Bool→Prop},K true→aH [(false,Sy.bool)] (cP []) K:=fun h=>aG (s:=q_b) (y:=true) rfl h
 unfold vH
 refine aG (s:=q_b) (y:=few d 40) (AK7 ..) ?_
 refine lC (fun _=>alive rfl) fun hf=>?_
 refine aG (s:=q_b) (y:=uN m) (ZU ..) ?_
 refine lC (fun _=>alive rfl) fun _=>?_
 refine aG (s:=[(false,.int .i64)]) (y:=vN d m) (AFY ..) ?_
 refine mG (fun _=>alive rfl) fun hc=>?_
 have v:PV d m:=AWB (by unfold okP;rw[hf,hD,decide_eq_true hc];rfl)
 have of_call:∀ {c:ByteArray} {K:jA×Int→Prop},K (WJ d m c)→aH [(true,J3),(false,Sy.int IntKind.i64)] (DB [aD true aN d,aD true aI m,T.v (.string c)]) K:=fun {c K} h=>by
  obtain ⟨e1,e2⟩:=ATU v c
  refine aG (s:=AHO) (y:=WJ d m c) ((ALC ..).trans ?_) h
  unfold CK
  rw[show okG (d,m,c).1 (d,m,c).2.1 (d,m,c).2.2=true from e2]
  show some (Sh.enc AHO (WI d m c))=_
  rw[e1]
 refine of_call (of_call ?_)
 refine mG (fun h1=>?_) fun h1=>?_
 ·refine bZ (fun h=>absurd h h1) fun _=>?_
  refine J5 (fun _=>?_) fun h=>?_
  ·refine bZ (fun _=>alive rfl) fun h2=>?_
   refine J5 (fun _=>alive rfl) fun h=>?_
   rw[wY (IW h2)] at h;cases h
  ·rw[wY (IW h1)] at h;cases h
 ·refine mG (fun h2=>?_) fun h2=>?_
  ·refine bZ (fun _=>?_) fun h=>absurd h1 h
   refine bZ (fun _=>alive rfl) fun _=>?_
   refine J5 (fun _=>alive rfl) fun h=>?_
   rw[wY (IW h2)] at h;cases h
  ·refine aG (s:=rM) (y:=pL d ns.2) ((H4 ..).trans (pI _ hD)) ?_
   refine aG (s:=q_b) (y:=H8 (pL d ns.2) ns.1) (ZV ..) ?_
   refine lC (fun _=>alive rfl) fun hh=>?_
   have hn:∃ n,cC d ns.2=some n:=by
    cases hn:cC d ns.2 with
    | some n=>exact ⟨n,rfl⟩
    | none =>
     exfalso
     have:(WJ d m ns.2).2=8:=by unfold WJ;rw[hn]
     rw[show (WJ d m ns.2).2=0 from h2] at this
     cases this
   obtain ⟨n,hn⟩:=hn
   have hp:ns.1∈iF d ns.2:=by
    have:=UR.1 hh
    unfold pL at this
    rw[hn] at this
    exact this
   have key:=eT v (a:=ns.1) (b:=ns.2) (p:=(WJ d m ns.1).1) (q:=(WJ d m ns.2).1) (Prod.ext rfl h1) (Prod.ext rfl h2) hp
   obtain ⟨k1,k2,k3,k4,k5,k6⟩:=key
   refine bZ (fun _=>?_) fun h=>absurd k1 h
   refine bZ (fun _=>?_) fun h=>absurd k2 h
   refine bZ (fun _=>?_) fun h=>absurd k3 h
   refine bZ (fun _=>?_) fun h=>absurd k4 h
   refine bZ (fun _=>?_) fun h=>absurd k5 h
   refine bZ (fun _=>alive rfl) fun h=>absurd k6 h
end Go.Pv
