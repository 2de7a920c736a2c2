/-
  Facts on the program that every function's file asks for.
  The seam, the part, the section with an identifier.
  Flow shops, plain: the search for the best sequence, and its bound.
  Flow shops, plain: the table of times, the check of a shop, and what flow.Best answers.
  Flow shops, plain: which lists are sequences, Makespan, and PanelBest's law.
  flow's functions: Index, Contains, last, finish.
  flow.finish and the reference's times: the table of times.
  The reference's times: the table of times.
  R37.has, last, length; flow.right.
  The bounds, in the program and in the reference.
  flow.bound.
  The errors of a shop.
  The search, plain: with the state behind a search that has used up its steps.
  flow.Best's search: a closure that calls itself.
  R37's search: a function that calls itself and turns its caller's record.
  flow.Best and R37.Best.
  slices.Clone of numbers; a form of it that runs.
  The examples of chapter 39, run by the kernel.
  PanelMinutes: the functions.
  PanelMinutes: what the functions compute: CheckLine, few, Ints, Ceil.
  PanelMinutes: Ceil, and Minutes as they are walked.
  PanelMinutes: what Minutes computes, in the program and in the reference.
  PanelMinutes: the law's function.
  PanelJobs: the functions, walked.
  PanelMore: the law's function.
  PanelJobs: what Jobs computes.
  PanelJobs: Jobs in the program and in the reference, SameRows, the law.
  Plan in the program and in the reference; PanelPlans' function.
-/
import Derived.Test.YtlongjgklndggaaGreatDoorVaki
import Derived.Test.YtlongjgklndggaaGreatDoorVaty
import Derived.Test.YtlongjgklndggaaGreatDoorProg
import Derived.KernelRfl
import Derived.Test.YtlongjgklndggaaGreatDoorVain
import Derived.Test.YtlongjgklndggaaGreatDoorVakx
import Derived.Test.YtlongjgklndggaaGreatDoorValu
import Derived.Shelf.Slices.Clone
import Derived.Test.YtlongjgklndggaaGreatDoorVags
import Derived.Test.YtlongjgklndggaaGreatDoorVage
import Derived.Test.YtlongjgklndggaaGreatDoorVakj
set_option linter.defProp false
set_option linter.unusedSimpArgs false
set_option linter.unusedVariables false
namespace Go.Pv
open Go Go.Proofs
theorem bJ:Tryz.prog.follows .mixedOrders=true:=by kernel_rfl
theorem bO:a7 Tryz.prog=true:=by kernel_rfl
end Go.Pv
set_option maxRecDepth 100000
namespace Go.Pv
open Go Go.Proofs
def found {α:Type} (no:α) (o:Option α):α×Bool:=match o with
 | some s=>(s,true)
 | none=>(no,false)
end Go.Pv
namespace Go.Pv
open Go Go.Proofs
def c4:Int→List Int→List Int→List Int
 | a,b::bs,n::ns=>(max a b+n)::c4 (max a b+n) bs ns
 | _,_,_=>[]
def aF (p:List (List Int)):List Int→List Int→List Int
 | row,[]=>row
 | row,j::l=>aF p (c4 0 row (p.getD j.toNat [])) l
theorem eV (p:List (List Int)):∀ (l m:List Int) (row:List Int),aF p row (l++m)=aF p (aF p row l) m
 | [],_,_=>rfl
 | j::l,m,row=>eV p l m _
structure bY where
 left:Int
 found:Bool
 span:Int
 order:List Int
section
variable (p : List (List Int)) (cols : Nat) (len : List Int → Int) (bnd : List Int → Nat → Int)
def mE:Nat→List Int→bY→Option bY
 | 0,_,_=>none
 | f+1,pre,s =>
  if pre.length=p.length then some (if s.found=false∨len pre<s.span then { s with found:=true,span:=len pre,order:=pre } else s)
  else if s.found=true∧∃ i,i<cols∧s.span≤bnd pre i then some s
  else if s.left≤0 then none
  else (List.range p.length).foldl (fun (o:Option bY) (j:Nat)=>o.bind fun s=>if (j:Int)∈pre then some s else mE f (pre++[(j:Int)]) s) (some { s with left:=s.left-1 })
end
theorem jT:∀ {l m:List Int},l.Nodup→(∀ x∈l,x∈m)→l.length≤m.length
 | [],_,_,_=>Nat.zero_le _
 | a::l,m,hn,hs=>by
  obtain ⟨h1,h2⟩:=List.nodup_cons.1 hn
  have ha:=hs a List.mem_cons_self
  have:=jT (l:=l) (m:=m.erase a) h2 fun x hx=>(List.mem_erase_of_ne (fun e=>h1 (by rw[←e];exact hx))).2 (hs x (List.mem_cons_of_mem _ hx))
  rw[List.length_erase_of_mem ha] at this
  have:=List.length_pos_of_mem ha
  rw[List.length_cons];omega
def fE (n:Nat):List Int:=(List.range n).map fun j:Nat=>(j:Int)
theorem pK (n:Nat):(fE n).Nodup:=by
 unfold fE List.Nodup
 rw[List.pairwise_map]
 exact (List.nodup_range (n:=n)).imp fun {a b} h e=>h (by omega)
theorem iL {n:Nat} {j:Int}:j∈fE n↔0≤j∧j<n:=by
 unfold fE
 rw[List.mem_map]
 constructor
 ·rintro ⟨i,hi,rfl⟩
  have:=List.mem_range.1 hi
  omega
 ·rintro ⟨h1,h2⟩
  exact ⟨j.toNat,List.mem_range.2 (by omega),by omega⟩
def Diff (n:Nat) (l:List Int):Prop:=l.Nodup∧∀ j∈l,0≤j∧j<n
section
variable {p : List (List Int)} {cols : Nat} {len : List Int → Int} {bnd : List Int → Nat → Int}
structure eZ (p:List (List Int)) (len:List Int→Int) (s s':bY):Prop where
 less:s.found=true→s'.found=true∧s'.span≤s.span
 real:s'.found=true→(s.found=true∧s'.span=s.span∧s'.order=s.order)∨(Diff p.length s'.order∧s'.order.length=p.length∧s'.span=len s'.order)
theorem eZ.refl (s:bY):eZ p len s s:=⟨fun h=>⟨h,Int.le_refl _⟩,fun h=>.inl ⟨h,rfl,rfl⟩⟩
theorem eZ.trans {a b c:bY} (h1:eZ p len a b) (h2:eZ p len b c):eZ p len a c:=by
 refine ⟨fun h=>?_,fun h=>?_⟩
 ·obtain ⟨g1,g2⟩:=h1.less h
  obtain ⟨g3,g4⟩:=h2.less g1
  exact ⟨g3,Int.le_trans g4 g2⟩
 ·rcases h2.real h with ⟨g1,g2,g3⟩|g
  ·rcases h1.real g1 with ⟨k1,k2,k3⟩|⟨k1,k2,k3⟩
   ·exact .inl ⟨k1,g2.trans k2,g3.trans k3⟩
   ·exact .inr ⟨by rw[g3];exact k1,by rw[g3];exact k2,by rw[g2,g3];exact k3⟩
  ·exact .inr g
theorem Diff.snoc {n:Nat} {l:List Int} {j:Nat} (h:Diff n l) (hj:j<n) (hn:(j:Int)∉l):Diff n (l++[(j:Int)]):=by
 refine ⟨?_,fun i hi=>?_⟩
 ·rw[List.nodup_append]
  exact ⟨h.1,by simp,fun a ha b hb e=>hn (by rw[List.mem_singleton.1 hb] at e;exact e ▸ ha)⟩
 ·rcases List.mem_append.1 hi with hi|hi
  ·exact h.2 i hi
  ·rw[List.mem_singleton.1 hi];omega
theorem LU (hb:∀ pre i q,i<cols→Diff p.length (pre++q)→(pre++q).length=p.length→bnd pre i≤len (pre++q)) :
  ∀ (f:Nat) (pre:List Int) (s s':bY),Diff p.length pre→p.length<f+pre.length→mE p cols len bnd f pre s=some s' →
   eZ p len s s'∧s'.found=true∧∀ q,Diff p.length (pre++q)→(pre++q).length=p.length→s'.span≤len (pre++q):=by
 intro f
 induction f with
 | zero=>intro pre s s' _ _ h;cases h
 | succ f ih =>
  intro pre s s' hd hf h
  unfold mE at h
  split at h
  ·rename_i hl
   have hq:∀ q,(pre++q).length=p.length→q=[]:=fun q hq=>by
    rw[List.length_append] at hq
    exact List.eq_nil_of_length_eq_zero (by omega)
   split at h
   ·rename_i hc
    cases h
    refine ⟨⟨fun h=>⟨rfl,?_⟩,fun _=>.inr ⟨hd,hl,rfl⟩⟩,rfl,fun q _ hq'=>?_⟩
    ·rcases hc with hc|hc
     ·rw[h] at hc;cases hc
     ·exact Int.le_of_lt hc
    ·rw[hq q hq',List.append_nil];exact Int.le_refl _
   ·rename_i hc
    cases h
    rw[not_or] at hc
    have hfd:s.found=true:=by simpa using hc.1
    exact ⟨eZ.refl _,hfd,fun q _ hq'=>by rw[hq q hq',List.append_nil];exact Int.not_lt.1 hc.2⟩
  rename_i hl
  split at h
  ·rename_i hc
   cases h
   obtain ⟨hfd,i,hi,hs⟩:=hc
   exact ⟨eZ.refl _,hfd,fun q h1 h2=>Int.le_trans hs (hb pre i q hi h1 h2)⟩
  split at h
  ·cases h
  have hpl:pre.length<p.length∨p.length<pre.length:=by omega
  have key:∀ (js:List Nat) (a b:bY),(∀ j∈js,j<p.length)→js.foldl (fun (o:Option bY) (j:Nat)=>o.bind fun s=>if (j:Int)∈pre then some s else mE p cols len bnd f (pre++[(j:Int)]) s) (some a)=some b →
    eZ p len a b∧∀ j∈js,(j:Int)∉pre→b.found=true∧∀ q,Diff p.length (pre++(j:Int)::q)→(pre++(j:Int)::q).length=p.length→b.span≤len (pre++(j:Int)::q):=by
   intro js
   induction js with
   | nil=>intro a b _ h;cases h;exact ⟨eZ.refl _,fun j hj=>by cases hj⟩
   | cons j js ihj =>
    intro a b hj h
    rw[List.foldl_cons] at h
    have nn:∀ js:List Nat,js.foldl (fun (o:Option bY) (j:Nat)=>o.bind fun s=>if (j:Int)∈pre then some s else mE p cols len bnd f (pre++[(j:Int)]) s) (none:Option bY)=none:=fun js=>by
     induction js with
     | nil=>rfl
     | cons j js ih=>rw[List.foldl_cons];exact ih
    by_cases hm:(j:Int)∈pre
    ·rw[show (some a:Option bY).bind (fun s=>if (j:Int)∈pre then some s else mE p cols len bnd f (pre++[(j:Int)]) s)=some a from if_pos hm] at h
     obtain ⟨k1,k2⟩:=ihj a b (fun i hi=>hj i (List.mem_cons_of_mem _ hi)) h
     exact ⟨k1,fun i hi hn=>by
      rcases List.mem_cons.1 hi with rfl|hi
      ·exact absurd hm hn
      ·exact k2 i hi hn⟩
    ·rw[show (some a:Option bY).bind (fun s=>if (j:Int)∈pre then some s else mE p cols len bnd f (pre++[(j:Int)]) s)=mE p cols len bnd f (pre++[(j:Int)]) a from if_neg hm] at h
     cases hs:mE p cols len bnd f (pre++[(j:Int)]) a with
     | none=>rw[hs,nn] at h;cases h
     | some c =>
      rw[hs] at h
      obtain ⟨g1,g2,g3⟩:=ih (pre++[(j:Int)]) a c (hd.snoc (hj j List.mem_cons_self) hm) (by rw[List.length_append];simp;omega) hs
      obtain ⟨k1,k2⟩:=ihj c b (fun i hi=>hj i (List.mem_cons_of_mem _ hi)) h
      refine ⟨g1.trans k1,fun i hi hn=>?_⟩
      rcases List.mem_cons.1 hi with rfl|hi
      ·obtain ⟨m1,m2⟩:=k1.less g2
       refine ⟨m1,fun q hq1 hq2=>Int.le_trans m2 ?_⟩
       have e:pre++(i:Int)::q=(pre++[(i:Int)])++q:=by simp
       rw[e] at hq1 hq2 ⊢
       exact g3 q hq1 hq2
      ·exact k2 i hi hn
  obtain ⟨k1,k2⟩:=key (List.range p.length) _ _ (fun j hj=>List.mem_range.1 hj) h
  have k0:eZ p len s s':=(⟨fun h=>⟨h,Int.le_refl _⟩,fun h=>.inl ⟨h,rfl,rfl⟩⟩:eZ p len s { s with left:=s.left-1 }).trans k1
  have fresh:∀ q,Diff p.length (pre++q)→(pre++q).length=p.length→∃ j q',j<p.length∧(j:Int)∉pre∧q=(j:Int)::q':=fun q h1 h2=>by
   cases q with
   | nil=>rw[List.append_nil] at h2;exact absurd h2 hl
   | cons j q =>
    obtain ⟨b1,b2⟩:=h1.2 j (List.mem_append_right _ List.mem_cons_self)
    refine ⟨j.toNat,q,by omega,?_,by rw[Int.toNat_of_nonneg b1]⟩
    rw[Int.toNat_of_nonneg b1]
    intro hm
    exact (List.nodup_append.1 h1.1).2.2 j hm j List.mem_cons_self rfl
  have hle:pre.length≤p.length:=by
   have:=jT (m:=fE p.length) hd.1 fun j hj=>iL.2 (hd.2 j hj)
   simpa [fE] using this
  have some_job:∃ j,j<p.length∧(j:Int)∉pre:=by
   refine Classical.byContradiction fun hc=>?_
   have h1:=jT (l:=fE p.length) (m:=pre) (pK _) fun x hx=>by
    obtain ⟨a1,a2⟩:=iL.1 hx
    refine Classical.byContradiction fun hm=>hc ⟨x.toNat,by omega,?_⟩
    rw[Int.toNat_of_nonneg a1];exact hm
   simp[fE] at h1
   omega
  obtain ⟨j,hj,hjn⟩:=some_job
  refine ⟨k0,(k2 j (List.mem_range.2 hj) hjn).1,fun q h1 h2=>?_⟩
  obtain ⟨i,q',hi,hin,rfl⟩:=fresh q h1 h2
  exact (k2 i (List.mem_range.2 hi) hin).2 q' h1 h2
end
def gH (row:List Int) (i:Nat):Int:=(row.drop (i+1)).sum
def oM (p:List (List Int)) (i:Nat) (q:List Int):Int:=(q.map fun j=>(p.getD j.toNat []).getD i 0).sum
def fJ (p:List (List Int)) (pre:List Int) (i:Nat) (a:Int×Int) (j:Nat):Int×Int :=
 if (j:Int)∈pre then a
 else (a.1+(p.getD j []).getD i 0,if a.2<0∨gH (p.getD j []) i<a.2 then gH (p.getD j []) i else a.2)
def gL (p:List (List Int)) (m:Nat) (pre:List Int) (i:Nat):Int :=
 let r:=(List.range p.length).foldl (fJ p pre i) ((aF p (List.replicate m 0) pre).getD i 0,-1)
 r.1+max r.2 0
def dU (p:List (List Int)) (m:Nat) (l:List Int):Int:=(aF p (List.replicate m 0) l).getLastD 0
def w6 (p:List (List Int)) (m:Nat):Prop:=∀ row∈p,row.length=m∧∀ n∈row,(0:Int)≤n
theorem I9:∀ (l m:List Int),(l++m).sum=l.sum+m.sum
 | [],m=>by simp
 | a::l,m=>by rw[List.cons_append,List.sum_cons,List.sum_cons,I9 l m];omega
theorem P3 {l m:List Int} (h:l.Perm m):l.sum=m.sum:=by
 induction h with
 | nil=>rfl
 | cons x _ ih=>rw[List.sum_cons,List.sum_cons,ih]
 | swap x y l=>simp only[List.sum_cons];omega
 | trans _ _ h1 h2=>exact h1.trans h2
theorem iQ:∀ {l:List Int},(∀ n∈l,0≤n)→0≤l.sum
 | [],_=>by simp
 | a::l,h=>by
  rw[List.sum_cons]
  have:=h a List.mem_cons_self
  have:=iQ (l:=l) fun n hn=>h n (List.mem_cons_of_mem _ hn)
  omega
theorem jX:∀ (a:Int) (bs ns:List Int),bs.length=ns.length→(c4 a bs ns).length=ns.length
 | _,[],[],_=>rfl
 | a,b::bs,n::ns,h=>by
  rw[c4,List.length_cons,List.length_cons,jX _ bs ns (by simpa using h)]
 | _,[],_::_,h=>by simp at h
 | _,_::_,[],h=>by simp at h
theorem BM:∀ (a:Int) (bs ns:List Int) (i:Nat),bs.length=ns.length→i<ns.length→bs.getD i 0+ns.getD i 0≤(c4 a bs ns).getD i 0
 | a,b::bs,n::ns,0,_,_=>by
  rw[c4];simp only[List.getD_cons_zero];omega
 | a,b::bs,n::ns,i+1,h,hi=>by
  rw[c4];simp only[List.getD_cons_succ]
  exact BM _ bs ns i (by simpa using h) (by simpa using hi)
 | _,_,[],_,_,hi=>by simp at hi
 | _,[],_::_,_,h,_=>by simp at h
theorem EJ:∀ (a:Int) (bs ns:List Int),bs.length=ns.length→a+ns.sum≤(c4 a bs ns).getLastD a
 | a,[],[],_=>by simp[c4]
 | a,b::bs,n::ns,h=>by
  rw[c4,List.getLastD_cons,List.sum_cons]
  have:=EJ (max a b+n) bs ns (by simpa using h)
  omega
 | _,[],_::_,h=>by simp at h
 | _,_::_,[],h=>by simp at h
theorem rP:∀ (a:Int) (bs ns:List Int) (i:Nat),bs.length=ns.length→i<ns.length→(c4 a bs ns).getD i 0+gH ns i≤(c4 a bs ns).getLastD a
 | a,b::bs,n::ns,0,h,_=>by
  rw[c4,List.getLastD_cons];simp only[List.getD_cons_zero]
  exact EJ (max a b+n) bs ns (by simpa using h)
 | a,b::bs,n::ns,i+1,h,hi=>by
  rw[c4,List.getLastD_cons];simp only[List.getD_cons_succ]
  exact rP _ bs ns i (by simpa using h) (by simpa using hi)
 | _,_,[],_,_,hi=>by simp at hi
 | _,[],_::_,_,h,_=>by simp at h
section
variable {p : List (List Int)} {m : Nat}
theorem w6.row (h:w6 p m) {j:Nat} (hj:j<p.length):(p.getD j []).length=m∧∀ n∈p.getD j [],(0:Int)≤n:=by
 have e:p.getD j []=p[j]:=by simp[List.getD,hj]
 rw[e]
 exact h _ (List.getElem_mem hj)
theorem cH (h:w6 p m):∀ (q:List Int) (r:List Int),(∀ j∈q,0≤j∧j<p.length)→r.length=m→(aF p r q).length=m
 | [],_,_,hr=>hr
 | j::q,r,hq,hr=>by
  have hj:=hq j List.mem_cons_self
  have:=h.row (j:=j.toNat) (by omega)
  exact cH h q _ (fun k hk=>hq k (List.mem_cons_of_mem _ hk)) ((jX _ _ _ (by rw[hr,this.1])).trans this.1)
theorem vP (h:w6 p m) {i:Nat} (hi:i<m):∀ (q:List Int) (r:List Int),(∀ j∈q,0≤j∧j<p.length)→r.length=m→r.getD i 0+oM p i q≤(aF p r q).getD i 0
 | [],r,_,_=>by simp[oM,aF]
 | j::q,r,hq,hr=>by
  have hj:=hq j List.mem_cons_self
  have hw:=h.row (j:=j.toNat) (by omega)
  have h1:=vP h hi q (c4 0 r (p.getD j.toNat [])) (fun k hk=>hq k (List.mem_cons_of_mem _ hk)) ((jX _ _ _ (by rw[hr,hw.1])).trans hw.1)
  have h2:=BM 0 r (p.getD j.toNat []) i (by rw[hr,hw.1]) (by rw[hw.1];exact hi)
  have h3:oM p i (j::q)=(p.getD j.toNat []).getD i 0+oM p i q:=by simp[oM]
  rw[h3]
  show _≤(aF p (c4 0 r (p.getD j.toNat [])) q).getD i 0
  omega
theorem CM (h:w6 p m) (pre:List Int) (i:Nat):∀ (js:List Nat) (a:Int×Int),(∀ j∈js,j<p.length) →
  (js.foldl (fJ p pre i) a).1=a.1+oM p i ((js.map fun j:Nat=>(j:Int)).filter fun j=>decide (j∉pre)) ∧
  ((js.foldl (fJ p pre i) a).2≤a.2∨a.2<0) ∧
  (0≤a.2→0≤(js.foldl (fJ p pre i) a).2) ∧
  ((∀ j∈js,(j:Int)∈pre)→(js.foldl (fJ p pre i) a).2=a.2) ∧
  (∀ j∈js,(j:Int)∉pre→0≤(js.foldl (fJ p pre i) a).2∧(js.foldl (fJ p pre i) a).2≤gH (p.getD j []) i)
 | [],a,_=>⟨by simp[oM],.inl (Int.le_refl _),id,fun _=>rfl,fun j hj=>by cases hj⟩
 | j::js,a,hj=>by
  have hr:0≤gH (p.getD j []) i:=iQ fun n hn=>(h.row (hj j List.mem_cons_self)).2 n (List.mem_of_mem_drop hn)
  obtain ⟨k1,k2,k3,k4,k5⟩:=CM h pre i js (fJ p pre i a j) fun i hi=>hj i (List.mem_cons_of_mem _ hi)
  rw[List.foldl_cons]
  by_cases hm:(j:Int)∈pre
  ·have e:fJ p pre i a j=a:=if_pos hm
   rw[e] at k1 k2 k3 k4 k5 ⊢
   refine ⟨by rw[k1];simp[hm],k2,k3,fun h=>k4 fun i hi=>h i (List.mem_cons_of_mem _ hi),fun i hi hn=>?_⟩
   rcases List.mem_cons.1 hi with rfl|hi
   ·exact absurd hm hn
   ·exact k5 i hi hn
  ·have e:fJ p pre i a j=(a.1+(p.getD j []).getD i 0,if a.2<0∨gH (p.getD j []) i<a.2 then gH (p.getD j []) i else a.2):=if_neg hm
   rw[e] at k1 k2 k3 k4 k5 ⊢
   have hb:∀ b,b=(if a.2<0∨gH (p.getD j []) i<a.2 then gH (p.getD j []) i else a.2)→0≤b∧b≤gH (p.getD j []) i∧(b≤a.2∨a.2<0):=fun b hb=>by
    split at hb<;>(subst hb;omega)
   obtain ⟨b1,b2,b3⟩:=hb _ rfl
   have k3':=k3 b1
   dsimp only at k1 k2 k3'
   refine ⟨?_,?_,fun _=>k3',fun h=>absurd (h j List.mem_cons_self) hm,fun i hi hn=>?_⟩
   ·rw[k1];simp[hm,oM];omega
   ·omega
   ·rcases List.mem_cons.1 hi with rfl|hi
    ·exact ⟨k3',by omega⟩
    ·exact k5 i hi hn
theorem UA (h:w6 p m) {pre q:List Int} {i:Nat} (hi:i<m) (hp:0<p.length) (hd:Diff p.length (pre++q)) (hl:(pre++q).length=p.length) :
  gL p m pre i≤dU p m (pre++q):=by
 have hpre:∀ j∈pre,0≤j∧j<p.length:=fun j hj=>hd.2 j (List.mem_append_left _ hj)
 have hq:∀ j∈q,0≤j∧j<p.length:=fun j hj=>hd.2 j (List.mem_append_right _ hj)
 have hz:(List.replicate m (0:Int)).length=m:=List.length_replicate
 obtain ⟨k1,_,_,k4,k5⟩:=CM h pre i (List.range p.length) ((aF p (List.replicate m 0) pre).getD i 0,-1) fun j hj=>List.mem_range.1 hj
 have hn:=List.nodup_append.1 hd.1
 have hall:∀ j:Int,0≤j∧j<p.length→j∈pre++q:=fun j hj=>Classical.byContradiction fun hc=>by
  have:=jT (l:=j::(pre++q)) (m:=fE p.length) (List.nodup_cons.2 ⟨hc,hd.1⟩) fun x hx=>iL.2 (by
   rcases List.mem_cons.1 hx with rfl|hx
   ·exact hj
   ·exact hd.2 x hx)
  rw[List.length_cons,hl] at this
  simp[fE] at this
  omega
 have hperm:((fE p.length).filter fun j=>decide (j∉pre)).Perm q:=by
  refine (List.perm_ext_iff_of_nodup ((pK _).filter _) hn.2.1).2 fun x=>?_
  rw[List.mem_filter,decide_eq_true_iff,iL]
  constructor
  ·rintro ⟨h1,h2⟩
   rcases List.mem_append.1 (hall x h1) with h|h
   ·exact absurd h h2
   ·exact h
  ·intro hx
   exact ⟨hq x hx,fun hm=>hn.2.2 x hm x hx rfl⟩
 have hs:oM p i ((fE p.length).filter fun j=>decide (j∉pre))=oM p i q:=P3 (hperm.map _)
 have e1:dU p m (pre++q)=(aF p (aF p (List.replicate m 0) pre) q).getLastD 0:=by rw[dU,eV]
 have e0:gL p m pre i=(aF p (List.replicate m 0) pre).getD i 0+oM p i q+max ((List.range p.length).foldl (fJ p pre i) ((aF p (List.replicate m 0) pre).getD i 0,-1)).2 0:=by
  show ((List.range p.length).foldl (fJ p pre i) ((aF p (List.replicate m 0) pre).getD i 0,-1)).1+max _ 0=_
  rw[k1,←hs];rfl
 have hb:(List.replicate m (0:Int)).length=m:=hz
 have hr:=cH h pre _ hpre hz
 rcases List.eq_nil_or_concat q with rfl|⟨q',z,rfl⟩
 ·
  rw[e0]
  have e2:=k4 fun j hj=>by
   have:=hall (j:Int) ⟨by omega,by have:=List.mem_range.1 hj;omega⟩
   rwa[List.append_nil] at this
  rw[e2,List.append_nil]
  rcases List.eq_nil_or_concat pre with rfl|⟨pre',z,rfl⟩
  ·rw[List.append_nil] at hl;simp at hl;omega
  ·have hz2:=hpre z (by simp)
   have hw:=h.row (j:=z.toNat) (by omega)
   have hr':=cH h pre' _ (fun j hj=>hpre j (by simp[hj])) hz
   have e3:∀ r:List Int,aF p r (pre'++[z])=c4 0 (aF p r pre') (p.getD z.toNat []):=fun r=>by rw[eV];rfl
   rw[List.concat_eq_append] at *
   rw[dU,e3]
   have:=rP 0 (aF p (List.replicate m 0) pre') (p.getD z.toNat []) i (by rw[hr',hw.1]) (by rw[hw.1];exact hi)
   have:0≤gH (p.getD z.toNat []) i:=iQ fun n hn=>hw.2 n (List.mem_of_mem_drop hn)
   simp only[oM,List.map_nil,List.sum_nil]
   omega
 ·rw[List.concat_eq_append] at *
  have hz2:=hq z (by simp)
  have hw:=h.row (j:=z.toNat) (by omega)
  have hq':∀ j∈q',0≤j∧j<p.length:=fun j hj=>hq j (by simp[hj])
  have hr':=cH h q' _ hq' hr
  rw[e1,e0,eV]
  show _≤(c4 0 (aF p (aF p (List.replicate m 0) pre) q') (p.getD z.toNat [])).getLastD 0
  have t1:=rP 0 (aF p (aF p (List.replicate m 0) pre) q') (p.getD z.toNat []) i (by rw[hr',hw.1]) (by rw[hw.1];exact hi)
  have t2:=BM 0 (aF p (aF p (List.replicate m 0) pre) q') (p.getD z.toNat []) i (by rw[hr',hw.1]) (by rw[hw.1];exact hi)
  have t3:=vP h hi q' _ hq' hr
  obtain ⟨t4,t5⟩:=k5 z.toNat (List.mem_range.2 (by omega)) fun hm=>hn.2.2 _ hm z (by simp) (by omega)
  have t6:oM p i (q'++[z])=oM p i q'+(p.getD z.toNat []).getD i 0:=by simp[oM]
  rw[t6]
  omega
theorem P2 (h:w6 p m) (hp:0<p.length) {f:Nat} {s s':bY} (hf:p.length<f) (hs:mE p m (dU p m) (gL p m) f [] s=some s') :
  eZ p (dU p m) s s'∧s'.found=true∧∀ q,Diff p.length q→q.length=p.length→s'.span≤dU p m q :=
 LU (fun _ _ _ hi hd hl=>UA h hi hp hd hl) f [] s s' ⟨List.nodup_nil,fun _ h=>by cases h⟩ (by simpa using hf) hs
end
end Go.Pv
namespace Go.Pv
open Go Go.Proofs
def eY (p:List (List Int)):List Int→List Int→List (List Int)
 | _,[]=>[]
 | row,j::l=>c4 0 row (p.getD j.toNat [])::eY p (c4 0 row (p.getD j.toNat [])) l
theorem fI (p:List (List Int)):∀ (l row:List Int),(eY p row l).length=l.length
 | [],_=>rfl
 | _::l,_=>by rw[eY,List.length_cons,List.length_cons,fI p l]
theorem rW (p:List (List Int)) (j:Int):∀ (l row:List Int),eY p row (l++[j])=eY p row l++[c4 0 (aF p row l) (p.getD j.toNat [])]
 | [],_=>rfl
 | i::l,row=>by
  show _::eY p _ (l++[j])=_
  rw[rW p j l];rfl
theorem mJ (p:List (List Int)):∀ (l row:List Int) (k:Nat),k<l.length→(eY p row l)[k]? = some (aF p row (l.take (k+1)))
 | [],_,_,h=>by simp at h
 | j::l,row,0,_=>rfl
 | j::l,row,k+1,h=>by
  show (eY p _ l)[k]? = _
  rw[mJ p l _ k (by simpa using h)];rfl
theorem BL:∀ (a:Int) (bs ns:List Int) (s:Nat),bs.length=ns.length→s<ns.length →
  (c4 a bs ns).getD s 0=max (if s=0 then a else (c4 a bs ns).getD (s-1) 0) (bs.getD s 0)+ns.getD s 0
 | a,b::bs,n::ns,0,_,_=>by rw[c4];simp
 | a,b::bs,n::ns,s+1,h,hs=>by
  rw[c4];simp only[List.getD_cons_succ,Nat.add_sub_cancel,if_neg (Nat.succ_ne_zero s)]
  rw[BL (max a b+n) bs ns s (by simpa using h) (by simpa using hs)]
  cases s with
  | zero=>simp
  | succ s=>simp
 | _,_,[],_,_,hi=>by simp at hi
 | _,[],_::_,_,h,_=>by simp at h
theorem EK:∀ (a:Int) (bs ns:List Int),0≤a→(∀ n∈ns,0≤n)→∀ x∈c4 a bs ns,0≤x
 | _,[],_,_,_,x,hx=>by simp[c4] at hx
 | _,_::_,[],_,_,x,hx=>by simp[c4] at hx
 | a,b::bs,n::ns,ha,hn,x,hx=>by
  rw[c4] at hx
  have h0:=hn n List.mem_cons_self
  rcases List.mem_cons.1 hx with rfl|hx
  ·omega
  ·exact EK _ bs ns (by omega) (fun k hk=>hn k (List.mem_cons_of_mem _ hk)) x hx
theorem I4 {B:Int}:∀ (a:Int) (bs ns:List Int) (c:Int),bs.length=ns.length→a≤c→(∀ i,i<bs.length→bs.getD i 0≤c+B*i)→(∀ n∈ns,n≤B)→0≤B →
  ∀ i,i<ns.length→(c4 a bs ns).getD i 0≤c+B+B*i
 | a,b::bs,n::ns,c,h,ha,hb,hn,hB,0,_=>by
  rw[c4];simp only[List.getD_cons_zero]
  have:=hb 0 (by simp);simp at this
  have:=hn n List.mem_cons_self
  simp;omega
 | a,b::bs,n::ns,c,h,ha,hb,hn,hB,i+1,hi=>by
  rw[c4];simp only[List.getD_cons_succ]
  have h0:=hb 0 (by simp);simp at h0
  have h1:=hn n List.mem_cons_self
  have:=I4 (B:=B) (max a b+n) bs ns (c+B) (by simpa using h) (by omega) (fun k hk=>by
   have:=hb (k+1) (by simpa using hk)
   simp only[List.getD_cons_succ] at this
   have e:B*((k+1:Nat):Int)=B*k+B:=by rw[Int.natCast_add,Int.mul_add];simp
   omega) (fun k hk=>hn k (List.mem_cons_of_mem _ hk)) hB i (by simpa using hi)
  have e:B*((i+1:Nat):Int)=B*i+B:=by rw[Int.natCast_add,Int.mul_add];simp
  omega
 | _,_,[],_,_,_,_,_,_,_,hi=>by simp at hi
 | _,[],_::_,_,h,_,_,_,_,_,_=>by simp at h
section
variable {p : List (List Int)} {m : Nat} {B : Int}
def rX (p:List (List Int)) (m:Nat) (B:Int):Prop:=w6 p m∧∀ row∈p,∀ n∈row,n≤B
theorem rX.row (h:rX p m B) {j:Nat} (hj:j<p.length):(p.getD j []).length=m∧(∀ n∈p.getD j [],(0:Int)≤n)∧∀ n∈p.getD j [],n≤B:=by
 have e:p.getD j []=p[j]:=by simp[List.getD,hj]
 obtain ⟨h1,h2⟩:=h.1.row hj
 refine ⟨h1,h2,?_⟩
 rw[e];exact h.2 _ (List.getElem_mem hj)
theorem vQ (h:rX p m B) (hB:0≤B):∀ (q r:List Int) (c:Int),(∀ j∈q,0≤j∧j<p.length)→r.length=m→0≤c→(∀ i,i<m→r.getD i 0≤c+B*i) →
  ∀ i,i<m→(aF p r q).getD i 0≤c+B*q.length+B*i
 | [],_,c,_,_,_,hr=>fun i hi=>by have:=hr i hi;simpa [aF] using this
 | j::q,r,c,hq,hl,hc,hr=>fun i hi=>by
  have hj:=hq j List.mem_cons_self
  obtain ⟨w1,w2,w3⟩:=h.row (j:=j.toNat) (by omega)
  have:=vQ h hB q (c4 0 r (p.getD j.toNat [])) (c+B) (fun k hk=>hq k (List.mem_cons_of_mem _ hk)) ((jX _ _ _ (by rw[hl,w1])).trans w1) (by omega)
   (fun k hk=>by
    have:=I4 (B:=B) 0 r (p.getD j.toNat []) c (by rw[hl,w1]) hc (fun i hi=>hr i (by rw[←hl];exact hi)) w3 hB k (by rw[w1];exact hk)
    omega) i hi
  have e:B*((j::q).length:Int)=B*q.length+B:=by rw[List.length_cons,Int.natCast_add,Int.mul_add];simp
  show (aF p (c4 0 r (p.getD j.toNat [])) q).getD i 0≤_
  omega
theorem sE (h:w6 p m):∀ (q r:List Int),(∀ j∈q,0≤j∧j<p.length)→(∀ x∈r,0≤x)→∀ x∈aF p r q,0≤x
 | [],_,_,hr=>hr
 | j::q,r,hq,_=>by
  have hj:=hq j List.mem_cons_self
  exact sE h q _ (fun k hk=>hq k (List.mem_cons_of_mem _ hk)) (EK 0 r _ (Int.le_refl _) (h.row (j:=j.toNat) (by omega)).2)
theorem IP (h:w6 p m) {q:List Int} (hq:∀ j∈q,0≤j∧j<p.length):dU p m q=(aF p (List.replicate m 0) q).getD (m-1) 0:=by
 have hl:=cH h q (List.replicate m 0) hq List.length_replicate
 unfold dU
 generalize aF p (List.replicate m 0) q=r at hl ⊢
 subst hl
 rw[List.getLastD_eq_getLast?,List.getLast?_eq_getElem?,List.getD_eq_getElem?_getD]
end
def eX (p:List (List Int)):Int :=
 if 32<p.length∨p.any (fun row=>decide (8<row.length))=true then 4
 else if p.any (fun row=>decide (row.length=0∨¬ row.length=(p.getD 0 []).length))=true then 17
 else if p.any (fun row=>row.any fun n=>decide (n<0∨100000<n))=true then 9
 else 0
theorem EO {p:List (List Int)} (h:eX p=0):p.length≤32∧(p.getD 0 []).length≤8∧(0<p.length→0<(p.getD 0 []).length)∧rX p (p.getD 0 []).length 100000:=by
 unfold eX at h
 split at h
 ·cases h
 rename_i h1
 split at h
 ·cases h
 rename_i h2
 split at h
 ·cases h
 rename_i h3
 simp only[List.any_eq_true,decide_eq_true_eq,not_or,not_exists,not_and] at h1 h2 h3
 have h0:0<p.length→p.getD 0 []∈p:=fun hp=>by
  have e:p.getD 0 []=p[0]:=by simp[List.getD,hp]
  rw[e];exact List.getElem_mem hp
 refine ⟨by omega,?_,fun hp=>Nat.pos_of_ne_zero (h2 _ (h0 hp)).1,fun row hr=>⟨Classical.byContradiction (h2 row hr).2,fun n hn=>?_⟩,fun row hr n hn=>?_⟩
 ·by_cases hp:0<p.length
  ·exact Nat.not_lt.1 (h1.2 _ (h0 hp))
  ·rw[List.eq_nil_of_length_eq_zero (by omega:p.length=0)];simp
 ·have:=h3 row hr n hn;omega
 ·have:=h3 row hr n hn;omega
theorem HS {B:Int}:∀ {l:List Int},(∀ n∈l,n≤B)→l.sum≤B*l.length
 | [],_=>by simp
 | a::l,h=>by
  rw[List.sum_cons]
  have:=h a List.mem_cons_self
  have:=HS (l:=l) fun n hn=>h n (List.mem_cons_of_mem _ hn)
  have e:B*((a::l).length:Int)=B*l.length+B:=by rw[List.length_cons,Int.natCast_add,Int.mul_add];simp
  omega
theorem EW {l:List Int} {k:Nat} (hk:k<l.length):(l.take (k+1)).sum=(l.take k).sum+l[k]:=by
 rw[List.take_succ_eq_append_getElem hk,I9];simp
section
variable {p : List (List Int)} {m : Nat} {B : Int}
theorem PW (h:rX p m B) (hB:0≤B) {j:Nat} (hj:j<p.length) (i:Nat):0≤gH (p.getD j []) i∧gH (p.getD j []) i≤B*m:=by
 obtain ⟨w1,w2,w3⟩:=h.row hj
 refine ⟨iQ fun n hn=>w2 n (List.mem_of_mem_drop hn),Int.le_trans (HS (B:=B) fun n hn=>w3 n (List.mem_of_mem_drop hn)) ?_⟩
 refine Int.mul_le_mul_of_nonneg_left ?_ hB
 rw[List.length_drop,w1];omega
theorem AQ (h:rX p m B) (hB:0≤B) {j:Nat} (hj:j<p.length) (i:Nat):0≤(p.getD j []).getD i 0∧(p.getD j []).getD i 0≤B:=by
 obtain ⟨_,w2,w3⟩:=h.row hj
 generalize p.getD j []=l at w2 w3 ⊢
 by_cases hi:i<l.length
 ·have e:l.getD i 0=l[i]:=by simp[List.getD,hi]
  rw[e];exact ⟨w2 _ (List.getElem_mem hi),w3 _ (List.getElem_mem hi)⟩
 ·have e:l.getD i 0=0:=by
   rw[List.getD_eq_getElem?_getD,List.getElem?_eq_none (by omega)];rfl
  rw[e];exact ⟨Int.le_refl _,hB⟩
theorem CN (h:rX p m B) (hB:0≤B) (pre:List Int) (i:Nat):∀ (js:List Nat) (a:Int×Int),(∀ j∈js,j<p.length)→0≤a.1→-1≤a.2∧a.2≤B*m →
  0≤(js.foldl (fJ p pre i) a).1∧(js.foldl (fJ p pre i) a).1≤a.1+B*js.length∧-1≤(js.foldl (fJ p pre i) a).2∧(js.foldl (fJ p pre i) a).2≤B*m
 | [],a,_,h0,h1=>⟨h0,by simp,h1⟩
 | j::js,a,hj,h0,h1=>by
  have e:B*((j::js).length:Int)=B*js.length+B:=by rw[List.length_cons,Int.natCast_add,Int.mul_add];simp
  rw[List.foldl_cons,e]
  obtain ⟨r1,r2⟩:=PW h hB (hj j List.mem_cons_self) i
  obtain ⟨g1,g2⟩:=AQ h hB (hj j List.mem_cons_self) i
  have hs:0≤(fJ p pre i a j).1∧(fJ p pre i a j).1≤a.1+B∧-1≤(fJ p pre i a j).2∧(fJ p pre i a j).2≤B*m:=by
   unfold fJ
   split
   ·exact ⟨h0,by omega,h1⟩
   ·dsimp only
    refine ⟨by omega,by omega,?_⟩
    split<;>omega
  obtain ⟨k1,k2,k3⟩:=CN h hB pre i js (fJ p pre i a j) (fun k hk=>hj k (List.mem_cons_of_mem _ hk)) hs.1 hs.2.2
  exact ⟨k1,by omega,k3⟩
end
def cZ (p:List (List Int)) (steps:Int):List Int×Int×Int :=
 if ¬ eX p=0 then ([],0,eX p)
 else match mE p (p.getD 0 []).length (dU p (p.getD 0 []).length) (gL p (p.getD 0 []).length) (p.length+1) [] ⟨max (min steps 100000) 0,false,0,[]⟩ with
  | none=>([],0,29)
  | some s=>(s.order,s.span,0)
theorem FY {p:List (List Int)} {steps:Int} (h:(cZ p steps).2.2=0):eX p=0∧Diff p.length (cZ p steps).1∧(cZ p steps).1.length=p.length ∧
  (cZ p steps).2.1=dU p (p.getD 0 []).length (cZ p steps).1∧∀ q,Diff p.length q→q.length=p.length→(cZ p steps).2.1≤dU p (p.getD 0 []).length q:=by
 unfold cZ at h ⊢
 split at h
 ·rename_i h1;exact absurd h h1
 rename_i h1
 have h1:eX p=0:=Classical.byContradiction h1
 rw[if_neg (fun h=>h h1)]
 refine ⟨h1,?_⟩
 obtain ⟨_,_,_,hs⟩:=EO h1
 by_cases hp:0<p.length
 ·revert h
  cases e:mE p (p.getD 0 []).length (dU p (p.getD 0 []).length) (gL p (p.getD 0 []).length) (p.length+1) [] ⟨max (min steps 100000) 0,false,0,[]⟩ with
  | none=>intro h;cases h
  | some s =>
   intro _
   obtain ⟨b1,b2,b3⟩:=P2 hs.1 hp (Nat.lt_succ_self _) e
   rcases b1.real b2 with ⟨k,_⟩|⟨k1,k2,k3⟩
   ·cases k
   ·exact ⟨k1,k2,k3,b3⟩
 ·have e:p=[]:=List.eq_nil_of_length_eq_zero (by omega)
  subst e
  have e:mE ([]:List (List Int)) 0 (dU [] 0) (gL [] 0) 1 [] ⟨max (min steps 100000) 0,false,0,[]⟩=some ⟨max (min steps 100000) 0,true,0,[]⟩:=by
   unfold mE
   rw[if_pos (show ([]:List Int).length=([]:List (List Int)).length from rfl),if_pos (.inl rfl)];rfl
  show Diff 0 _∧_
  rw[show (([]:List (List Int)).getD 0 []).length=0 from rfl,show ([]:List (List Int)).length+1=1 from rfl,e]
  refine ⟨⟨List.nodup_nil,fun _ h=>by cases h⟩,rfl,rfl,fun q _ hq=>?_⟩
  rw[List.eq_nil_of_length_eq_zero hq];exact Int.le_refl _
end Go.Pv
namespace Go.Pv
open Go Go.Proofs
def HC (p:List (List Int)) (l:List Int):Bool:=(List.range l.length).all fun i=>decide (0≤l.getD i 0∧l.getD i 0<p.length∧l.getD i 0∉l.take i)
theorem rO {p:List (List Int)} {l:List Int}:HC p l=true↔Diff p.length l:=by
 have e:∀ i (hi:i<l.length),l.getD i 0=l[i]:=fun i hi=>by simp[List.getD,hi]
 simp only[HC,List.all_eq_true,List.mem_range,decide_eq_true_eq]
 constructor
 ·intro h
  refine ⟨List.pairwise_iff_getElem.2 fun i j hi hj hij he=>?_,fun x hx=>?_⟩
  ·have h1:=(h j hj).2.2
   rw[e j hj,←he] at h1
   exact h1 (List.mem_take_iff_getElem.2 ⟨i,by omega,rfl⟩)
  ·obtain ⟨i,hi,rfl⟩:=List.mem_iff_getElem.1 hx
   have h1:=h i hi
   rw[e i hi] at h1
   exact ⟨h1.1,h1.2.1⟩
 ·rintro ⟨h1,h2⟩ i hi
  rw[e i hi]
  refine ⟨(h2 _ (List.getElem_mem hi)).1,(h2 _ (List.getElem_mem hi)).2,fun hm=>?_⟩
  obtain ⟨k,hk,he⟩:=List.mem_take_iff_getElem.1 hm
  exact List.pairwise_iff_getElem.1 h1 k i (by omega) hi (by omega) he
end Go.Pv
namespace Go.Pv
open Go Go.Proofs
theorem bI {p:Prop} {i:Decidable p} {A B:Prop} (h1:p→A) (h2:¬ p→B):aB (@decide p i) A B:=by
 cases i with
 | isTrue h=>exact h1 h
 | isFalse h=>exact h2 h
theorem sP {p:Prop} {i:Decidable p} {A B:Prop} (h1:¬ p→A) (h2:p→B):aB (!(@decide p i)) A B:=by
 cases i with
 | isTrue h=>exact h2 h
 | isFalse h=>exact h1 h
theorem bH {k n:Nat} (h:k<n) (hn:n≤2 ^ 47):IntKind.i64.wrap ((k:Int)+1)=((k+1:Nat):Int):=bN _ (by omega) (by omega)
def vK:List Int→Int→Int→Int
 | [],_,_=>-1
 | b::l,a,k=>if a=b then k else vK l a (k+1)
theorem II:∀ (l:List Int) (a k:Int),0≤k→(0≤vK l a k↔a∈l)
 | [],a,k,_=>by simp[vK]
 | b::l,a,k,hk=>by
  unfold vK
  by_cases h:a=b
  ·rw[if_pos h];simp[h,hk]
  ·rw[if_neg h,II l a (k+1) (by omega)];simp[h]
noncomputable def L6:Env:=Env.of []
def MR:FuncId→Hint:=fM 62 [(2,.inv [.val 8 false (.int .i64)])] (fun _=>bK)
theorem E9:aM Tryz.prog L6:=.nil _
def tN (a0:List Int) (a1:Int) (R:T→Prop):Prop :=
 bM (Int×PUnit)
 (fun (X0:Int×PUnit→Prop) (s1:Int×PUnit) =>
 aB (decide (s1.1<(↑(List.map (Sy.int IntKind.i64).enc a0).length:Int)))
 (aH (Sy.int IntKind.i64) (List.map (Sy.int IntKind.i64).enc a0) s1.1
 fun (y2:Int) =>
 aB (decide (a1=y2)) (R (T.v (.int .i64 s1.1)))
 (X0 (IntKind.i64.wrap (s1.1+1),())))
 (R (T.v (.int .i64 (-1)))))
 (0,())
abbrev wK:Sh:=[(false,(Sy.int IntKind.i64).li),(false,(Sy.int IntKind.i64))]
abbrev iK:Sh:=[(false,Sy.int IntKind.i64)]
theorem xK (y:Sh.den iK) (K:Sh.den iK→Prop):aN iK (some (Sh.enc iK y)) K=K y:=aZ rfl y K
def j4 (x:List Int×Int):Option T:=some (Sh.enc iK (vK x.1 x.2 0))
noncomputable def lT:List T→Option T:=gS wK j4
theorem DL {a0 a1}:lT [T.sl false (List.map (Sy.int IntKind.i64).enc a0),T.v (.int .i64 a1)]=j4 (a0,a1):=bT (s:=wK) rfl (a0,a1) rfl
theorem LD:E0 Tryz.prog 62 lT j4 (dO wK) tN:=nM (a1:=(false,(Sy.int IntKind.i64).li)) (a2:=(false,(Sy.int IntKind.i64))) (sp:=j4) (F:=tN) (Hs:=MR) (f:=62) (k:=8) E9 bJ bO (aP rfl) ⟨_,_,Tryz.func62,rfl⟩ rfl fun _ _ _=>by kernel_rfl
theorem KH:aU Tryz.prog 62 lT:=LD fun l a r h hb=>by
 cases h
 have hl:l.length≤2 ^ 47:=hb.1.1
 unfold tN
 simp only[List.length_map]
 refine aX l.length (fun k s=>s=((k:Int),())∧vK l a 0=vK (l.drop k) a k) ⟨rfl,rfl⟩ ?_
 rintro X k s hk ⟨rfl,he⟩ hX
 dsimp only
 refine bI (fun hlt=>?_) fun hge=>?_
 ·have hlt:k<l.length:=by omega
  rw[List.drop_eq_getElem_cons hlt,vK] at he
  rw[aC (r:=.int .i64) hlt]
  refine bI (fun h=>?_) fun h=>?_
  ·rw[if_pos h] at he;show _=Sh.enc iK (vK l a 0);rw[he];rfl
  ·rw[if_neg h] at he;exact hX _ hlt ⟨by rw[bH hlt hl],he⟩
 ·have:k=l.length:=by omega
  subst this
  rw[List.drop_length,vK] at he
  show _=Sh.enc iK (vK l a 0);rw[he];rfl
noncomputable def TV:Env:=Env.of [(62,.pure lT)]
def T2:FuncId→Hint:=fun _=>bK
theorem MH:aM Tryz.prog TV:=.cons KH (.nil _)
def FK (a0:List Int) (a1:Int) (R:T→Prop):Prop :=
 aN [(false,Sy.int IntKind.i64)]
 (lT
 [T.sl false (List.map (Sy.int IntKind.i64).enc a0),T.v (.int .i64 a1)])
 fun (y0:Int)=>R (T.v (.bool (decide (0≤y0))))
abbrev HH:Sh:=[(false,(Sy.int IntKind.i64).li),(false,(Sy.int IntKind.i64))]
abbrev wE:Sh:=[(false,Sy.bool)]
theorem sJ (y:Sh.den wE) (K:Sh.den wE→Prop):aN wE (some (Sh.enc wE y)) K=K y:=aZ rfl y K
def nD (x:List Int×Int):Option T:=some (Sh.enc wE (decide (x.2∈x.1)))
noncomputable def oD:List T→Option T:=gS HH nD
theorem yG {a0 a1}:oD [T.sl false (List.map (Sy.int IntKind.i64).enc a0),T.v (.int .i64 a1)]=nD (a0,a1):=bT (s:=HH) rfl (a0,a1) rfl
theorem SK:E0 Tryz.prog 36 oD nD (dO HH) FK:=nM (a1:=(false,(Sy.int IntKind.i64).li)) (a2:=(false,(Sy.int IntKind.i64))) (sp:=nD) (F:=FK) (Hs:=T2) (f:=36) (k:=8) MH bJ bO (aP rfl) ⟨_,_,Tryz.func36,rfl⟩ rfl fun _ _ _=>by kernel_rfl
theorem IH:aU Tryz.prog 36 oD:=SK fun l a r h hb=>by
 cases h
 unfold FK
 rw[DL]
 simp only[j4]
 rw[xK]
 have e:=II l a 0 (Int.le_refl 0)
 show T.v (.bool _)=T.v (.bool _)
 congr 2
 simp[e]
def DU (t:List (List Int)) (s:Int):Option Int:=match t.getLast? with
 | none=>some 0
 | some row=>match decide (0≤s) with
  | true=>row[s.toNat]?
  | false=>none
noncomputable def QJ:Env:=Env.of []
def QV:FuncId→Hint:=fun _=>bK
theorem JG:aM Tryz.prog QJ:=.nil _
def zT (a0:List (List Int)) (a1:Int) (R:T→Prop):Prop :=
 aB (decide ((↑(List.map (Sy.int IntKind.i64).li.enc a0).length:Int)=0))
 (R (T.v (.int .i64 0)))
 (aH (Sy.int IntKind.i64).li (List.map (Sy.int IntKind.i64).li.enc a0)
 (IntKind.i64.wrap ((↑(List.map (Sy.int IntKind.i64).li.enc a0).length:Int)-1))
 fun (y0:List Int) =>
 aH (Sy.int IntKind.i64) (List.map (Sy.int IntKind.i64).enc y0) a1 fun (y1:Int) =>
 R (T.v (.int .i64 y1)))
abbrev BT:Sh:=[(false,(Sy.int IntKind.i64).li.li),(false,(Sy.int IntKind.i64))]
abbrev BE:Sh:=[(false,Sy.int IntKind.i64)]
def iO (x:List (List Int)×Int):Option T:=(DU x.1 x.2).map (Sh.enc BE)
noncomputable def kK:List T→Option T:=gS BT iO
theorem vH {a0 a1}:kK [T.sl false (List.map (Sy.int IntKind.i64).li.enc a0),T.v (.int .i64 a1)]=iO (a0,a1):=bT (s:=BT) rfl (a0,a1) rfl
theorem O7:E0 Tryz.prog 21 kK iO (dO BT) zT:=nM (a1:=(false,(Sy.int IntKind.i64).li.li)) (a2:=(false,(Sy.int IntKind.i64))) (sp:=iO) (F:=zT) (Hs:=QV) (f:=21) (k:=8) JG bJ bO (aP rfl) ⟨_,_,Tryz.func21,rfl⟩ rfl fun _ _ _=>by kernel_rfl
theorem C8:aU Tryz.prog 21 kK:=O7 fun t s r h hb=>by
 have ht:t.length≤2 ^ 47:=hb.1.1
 simp only[iO,Option.map_eq_some_iff] at h
 obtain ⟨n,hn,rfl⟩:=h
 unfold zT
 simp only[List.length_map]
 refine bI (fun h0=>?_) fun h0=>?_
 ·have:t=[]:=List.eq_nil_of_length_eq_zero (by omega)
  subst this
  cases hn
  rfl
 ·unfold DU at hn
  have hlt:t.length-1<t.length:=by omega
  rw[List.getLast?_eq_getElem?,List.getElem?_eq_getElem hlt] at hn
  dsimp only at hn
  split at hn
  case h_2=>cases hn
  rename_i hs
  have e:IntKind.i64.wrap ((t.length:Int)-1)=((t.length-1:Nat):Int):=by rw[bN _ (by omega) (by omega)];omega
  rw[e,aC (r:=(Sy.int .i64).li) hlt,zB (r:=.int .i64)]
  exact ⟨n,of_decide_eq_true hs,hn,rfl⟩
end Go.Pv
namespace Go.Pv
open Go Go.Proofs
theorem lY {S:Type} {A:(S→Prop)→Prop} {K:S→Prop} (v:S) (h1:∀ X:S→Prop,X v→A X) (h2:K v):vN S A K:=h1 K h2
theorem B1 {L:List Int} {k:Nat} {v:Int} (hk:k<L.length) {K:List Int→Prop} (h:K (L.set k v)) :
  aH (.int .i64) (List.map (Sy.int .i64).enc L) (k:Int) (fun _=>EL (List.map (Sy.int .i64).enc L) (Int.toNat (k:Int)) fun y=>cQ (decide (1≤y.length)) (dH (.int .i64) ((List.map (Sy.int .i64).enc L).set (Int.toNat (k:Int)) (aW y 0 [T.v (.int .i64 v)])) K)):=by
 rw[aC (r:=.int .i64) hk,Int.toNat_natCast,SV (r:=.int .i64) hk]
 refine ⟨rfl,?_⟩
 have e:(List.map (Sy.int .i64).enc L).set k (aW ((Sy.int .i64).enc L[k]) 0 [T.v (.int .i64 v)])=List.map (Sy.int .i64).enc (L.set k v):=by rw[List.map_set];rfl
 rw[e,cA rfl];exact h
theorem yK {r:Sy} {L:List r.den} {k:Nat} (hk:k<L.length) {K:r.den→Prop} (h:K L[k]):aH r (List.map r.enc L) (k:Int) (fun _=>nX r (List.map r.enc L) (Int.toNat (k:Int)) 0 K):=by
 rw[aC hk,Int.toNat_natCast,PE hk];exact h
theorem kS {k:Nat} (h:0<k) (hk:k≤2 ^ 47):IntKind.i64.wrap ((k:Int)-1)=((k-1:Nat):Int):=by rw[bN _ (by omega) (by omega)];omega
def fA (R:List Int) (s:Nat):List Int:=R.take s++List.replicate (R.length-s) 0
theorem jO {R:List Int} {s:Nat} (h:s≤R.length):(fA R s).length=R.length:=by unfold fA;simp;omega
theorem x8 (R:List Int):fA R 0=List.replicate R.length 0:=by unfold fA;simp
theorem CZ (R:List Int):fA R R.length=R:=by unfold fA;simp
theorem oT {R:List Int} {s i:Nat} (h:i<s) (hs:s≤R.length) (hl:i<(fA R s).length):(fA R s)[i]=R.getD i 0:=by
 have:(fA R s)[i]? = some (R.getD i 0):=by
  unfold fA
  rw[List.getElem?_append_left (by simp;omega),List.getElem?_take,if_pos h]
  simp[List.getD,show i<R.length by omega]
 rw[List.getElem?_eq_getElem hl] at this
 exact Option.some.inj this
theorem RA {R:List Int} {s:Nat} (hs:s<R.length) (hl:s<(fA R s).length):(fA R s)[s]=0:=by
 have:(fA R s)[s]? = some 0:=by
  unfold fA
  rw[List.getElem?_append_right (by simp;omega)]
  simp[List.getElem?_replicate]
  omega
 rw[List.getElem?_eq_getElem hl] at this
 exact Option.some.inj this
theorem IA {R:List Int} {s i:Nat} (h:s≤i) (hi:i<R.length):(fA R s)[i]? = some 0:=by
 unfold fA
 rw[List.getElem?_append_right (by simp;omega)]
 simp[List.getElem?_replicate]
 omega
theorem C0 {R:List Int} {s:Nat} (hs:s<R.length):(fA R s).set s (R.getD s 0)=fA R (s+1):=by
 apply List.ext_getElem
 ·rw[List.length_set,jO (by omega),jO (by omega)]
 ·intro i h1 h2
  rw[List.length_set,jO (by omega)] at h1
  rw[List.getElem_set]
  by_cases e:s=i
  ·subst e;rw[if_pos rfl,oT (by omega) (by omega)]
  ·rw[if_neg e]
   by_cases h:i<s
   ·rw[oT h (by omega),oT (by omega) (by omega)]
   ·have a1:=IA (R:=R) (s:=s) (i:=i) (by omega) h1
    have a2:=IA (R:=R) (s:=s+1) (i:=i) (by omega) h1
    rw[List.getElem?_eq_getElem h2] at a2
    rw[List.getElem?_eq_getElem (by rw[jO (by omega)];exact h1)] at a1
    exact (Option.some.inj a1).trans (Option.some.inj a2).symm
def D7 (p:List (List Int)) (l:List Int):Bool:=decide (eX p=0)&&HC p l
structure T6 (p:List (List Int)) (l:List Int) (m:Nat):Prop where
 mA:rX p m 100000
 n:p.length≤32
 m8:m≤8
 pos:0<p.length→0<m
 diff:Diff p.length l
 len:l.length≤p.length
theorem Diff.len {n:Nat} {l:List Int} (h:Diff n l):l.length≤n:=by
 have:=jT (m:=fE n) h.1 fun x hx=>iL.2 (h.2 x hx)
 simpa [fE] using this
theorem dQ {p:List (List Int)} {l:List Int} (h:D7 p l=true):T6 p l (p.getD 0 []).length:=by
 unfold D7 at h
 rw[Bool.and_eq_true,decide_eq_true_eq] at h
 obtain ⟨h1,h2,h3,h4⟩:=EO h.1
 have hd:=rO.1 h.2
 exact ⟨h4,h1,h2,h3,hd,hd.len⟩
theorem Diff.pre {n:Nat} {l:List Int} (h:Diff n l) (k:Nat):Diff n (l.take k):=⟨h.1.sublist (List.take_sublist _ _),fun j hj=>h.2 j (List.mem_of_mem_take hj)⟩
theorem T6.small {p:List (List Int)} {l:List Int} {m:Nat} (h:T6 p l m) (k:Nat) {i:Nat} (hi:i<m):0≤(aF p (List.replicate m 0) (l.take k)).getD i 0∧(aF p (List.replicate m 0) (l.take k)).getD i 0≤4000000:=by
 have hd:=(h.diff.pre k).2
 have h1:=vQ h.mA (by omega) (l.take k) (List.replicate m 0) 0 hd List.length_replicate (Int.le_refl 0) (fun i hi=>by simp[List.getD,hi];omega) i hi
 have h2:=sE h.mA.1 (l.take k) (List.replicate m 0) hd (fun x hx=>by rw[(List.mem_replicate.1 hx).2];omega)
 have h3:=cH h.mA.1 (l.take k) (List.replicate m 0) hd List.length_replicate
 have hl:=h.len;have hn:=h.n;have hm:=h.m8
 have hk:(l.take k).length≤32:=by rw[List.length_take];omega
 refine ⟨?_,by omega⟩
 rw[List.getD_eq_getElem?_getD,List.getElem?_eq_getElem (by omega)]
 exact h2 _ (List.getElem_mem _)
theorem nH {α:Type} {l:List α} {k:Nat} (h:k<l.length):l.take (k+1)=l.take k++[l[k]]:=by rw[List.take_add_one,List.getElem?_eq_getElem h];rfl
noncomputable def TU:Env:=Env.of [(1000000037,.mark)]
def T1:FuncId→Hint:=fun f=>match f == 33 with|true=>⟨fun r=>match r == 3 with|true=>.inv [.val 13 false (.int .i64),.own 5 1 (.li (.int .i64))]|false=>match r == 7 with|true=>.inv [.val 29 false (.int .i64),.arr 1 1 (.int .i64)]|false=>.none,fun i j=>match i == 9&&j == 10 with|true=>some [.arr 1 1 (.int .i64)]|false=>match i == 11&&j == 12 with|true=>some [.arr 1 1 (.int .i64)]|false=>none,fun _=>none⟩|false=>bK
theorem MG:aM Tryz.prog TU:=.cons (x:=.mark) trivial (.nil _)
def FJ (a0:List (List Int)) (a1:List Int) (R:T→Prop):Prop :=
 bM (Int×List (List Int)×PUnit)
 (fun (X0:Int×List (List Int)×PUnit→Prop) (s1:Int×List (List Int)×PUnit) =>
 aB (decide (s1.1<(↑(List.map (Sy.int IntKind.i64).enc a1).length:Int)))
 (aH (Sy.int IntKind.i64) (List.map (Sy.int IntKind.i64).enc a1) s1.1
 fun (y2:Int) =>
 aH (Sy.int IntKind.i64).li (List.map (Sy.int IntKind.i64).li.enc a0) y2
 fun (y3:List Int) =>
 cQ
 ((decide
 ((↑(List.map (Sy.int IntKind.i64).enc y3).length:Int) =
 (↑(List.map (Sy.int IntKind.i64).enc y3).length:Int)) ||
 decide ((↑(List.map (Sy.int IntKind.i64).enc y3).length:Int)=0)) &&
 true &&
 decide
 ((↑(List.map (Sy.int IntKind.i64).enc y3).length:Int)*(↑8:Int)≤140737488355328) &&
 decide ((↑(List.map (Sy.int IntKind.i64).enc y3).length:Int)≤140737488355328))
 (aH (Sy.int IntKind.i64).li (List.map (Sy.int IntKind.i64).li.enc a0) y2
 fun (y4:List Int) =>
 dH (Sy.int IntKind.i64)
 (List.replicate (↑(List.map (Sy.int IntKind.i64).enc y3).length:Int).toNat
 [T.v (.int .i64 0)])
 fun (y5:List Int) =>
 bM (Int×List Int×PUnit)
 (fun (X6:Int×List Int×PUnit→Prop) (s7:Int×List Int×PUnit) =>
 aB (decide (s7.1<(↑(List.map (Sy.int IntKind.i64).enc y4).length:Int)))
 (aH (Sy.int IntKind.i64) (List.map (Sy.int IntKind.i64).enc y4) s7.1
 fun (y8:Int) =>
 vN (List Int×PUnit)
 (fun (X9:List Int×PUnit→Prop) =>
 aB (decide (0<s1.1))
 (aH (Sy.int IntKind.i64).li
 (List.map (Sy.int IntKind.i64).li.enc s1.2.1)
 (IntKind.i64.wrap (s1.1-1)) fun (y10:List Int) =>
 nX (Sy.int IntKind.i64).li
 (List.map (Sy.int IntKind.i64).li.enc s1.2.1)
 (IntKind.i64.wrap (s1.1-1)).toNat 0 fun (y11:List Int) =>
 aH (Sy.int IntKind.i64)
 (List.map (Sy.int IntKind.i64).enc y11) s7.1 fun (y12:Int) =>
 aH (Sy.int IntKind.i64)
 (List.map (Sy.int IntKind.i64).enc s7.2.1) s7.1 fun (y13:Int) =>
 EL (List.map (Sy.int IntKind.i64).enc s7.2.1)
 (Int.toNat s7.1) fun (y14:List T) =>
 cQ (decide (1≤y14.length))
 (dH (Sy.int IntKind.i64)
 ((List.map (Sy.int IntKind.i64).enc s7.2.1).set
 (Int.toNat s7.1)
 (aW y14 0 [T.v (.int .i64 y12)]))
 fun (y15:List Int)=>X9 (y15,())))
 (dH (Sy.int IntKind.i64)
 (List.map (Sy.int IntKind.i64).enc s7.2.1) fun (y16:List Int) =>
 X9 (y16,())))
 fun (s17:List Int×PUnit) =>
 vN (List Int×PUnit)
 (fun (X18:List Int×PUnit→Prop) =>
 aB (decide (0<s7.1))
 (aH (Sy.int IntKind.i64)
 (List.map (Sy.int IntKind.i64).enc s17.1) s7.1 fun (y19:Int) =>
 nX (Sy.int IntKind.i64)
 (List.map (Sy.int IntKind.i64).enc s17.1) (Int.toNat s7.1) 0
 fun (y20:Int) =>
 aH (Sy.int IntKind.i64)
 (List.map (Sy.int IntKind.i64).enc s17.1)
 (IntKind.i64.wrap (s7.1-1)) fun (y21:Int) =>
 nX (Sy.int IntKind.i64)
 (List.map (Sy.int IntKind.i64).enc s17.1)
 (IntKind.i64.wrap (s7.1-1)).toNat 0 fun (y22:Int) =>
 aH (Sy.int IntKind.i64)
 (List.map (Sy.int IntKind.i64).enc s17.1) s7.1 fun (y23:Int) =>
 EL (List.map (Sy.int IntKind.i64).enc s17.1)
 (Int.toNat s7.1) fun (y24:List T) =>
 cQ (decide (1≤y24.length))
 (dH (Sy.int IntKind.i64)
 ((List.map (Sy.int IntKind.i64).enc s17.1).set
 (Int.toNat s7.1)
 (aW y24 0
 [T.v (.int .i64 (if y20<y22 then y22 else y20))]))
 fun (y25:List Int)=>X18 (y25,())))
 (dH (Sy.int IntKind.i64)
 (List.map (Sy.int IntKind.i64).enc s17.1) fun (y26:List Int) =>
 X18 (y26,())))
 fun (s27:List Int×PUnit) =>
 aH (Sy.int IntKind.i64)
 (List.map (Sy.int IntKind.i64).enc s27.1) s7.1 fun (y28:Int) =>
 nX (Sy.int IntKind.i64)
 (List.map (Sy.int IntKind.i64).enc s27.1) (Int.toNat s7.1) 0
 fun (y29:Int) =>
 aH (Sy.int IntKind.i64)
 (List.map (Sy.int IntKind.i64).enc s27.1) s7.1 fun (y30:Int) =>
 EL (List.map (Sy.int IntKind.i64).enc s27.1) (Int.toNat s7.1)
 fun (y31:List T) =>
 cQ (decide (1≤y31.length))
 (dH (Sy.int IntKind.i64)
 ((List.map (Sy.int IntKind.i64).enc s27.1).set (Int.toNat s7.1)
 (aW y31 0
 [T.v (.int .i64 (IntKind.i64.wrap (y29+y8)))]))
 fun (y32:List Int)=>X6 (IntKind.i64.wrap (s7.1+1),y32,())))
 (cQ
 (decide
 (((List.map (Sy.int IntKind.i64).li.enc s1.2.1).length+1)*24 ≤
 140737488355328) &&
 decide
 ((List.map (Sy.int IntKind.i64).li.enc s1.2.1).length+1≤140737488355328))
 (dH (Sy.int IntKind.i64).li
 (List.map (Sy.int IntKind.i64).li.enc s1.2.1 ++
 [[T.sl false (List.map (Sy.int IntKind.i64).enc s7.2.1)]])
 fun (y33:List (List Int))=>X0 (IntKind.i64.wrap (s1.1+1),y33,()))))
 (0,y5,())))
 (R (T.sl false (List.map (Sy.int IntKind.i64).li.enc s1.2.1))))
 (0,[],())
abbrev HG:Sh:=[(false,(Sy.int IntKind.i64).li.li),(false,(Sy.int IntKind.i64).li)]
abbrev rM:Sh:=[(false,(Sy.int IntKind.i64).li.li)]
theorem EB (y:Sh.den rM) (K:Sh.den rM→Prop):aN rM (some (Sh.enc rM y)) K=K y:=aZ rfl y K
def nC (x:List (List Int)×List Int):Option T:=match D7 x.1 x.2 with
 | true=>some (Sh.enc rM (eY x.1 (List.replicate (x.1.getD 0 []).length 0) x.2))
 | false=>none
noncomputable def qI:List T→Option T:=gS HG nC
theorem KS {a0 a1}:qI [T.sl false (List.map (Sy.int IntKind.i64).li.enc a0),
 T.sl false (List.map (Sy.int IntKind.i64).enc a1)]=nC (a0,a1):=bT (s:=HG) rfl (a0,a1) rfl
theorem SJ:E0 Tryz.prog 33 qI nC (dO HG) FJ:=nM (a1:=(false,(Sy.int IntKind.i64).li.li)) (a2:=(false,(Sy.int IntKind.i64).li)) (sp:=nC) (F:=FJ) (Hs:=T1) (f:=33) (k:=8) MG bJ bO (aP rfl) ⟨_,_,Tryz.func33,rfl⟩ rfl fun _ _ _=>by kernel_rfl
theorem RR:aU Tryz.prog 33 qI:=SJ fun p l r h hb=>by
 unfold nC at h
 split at h
 case h_2=>cases h
 rename_i hok
 cases h
 have H:=dQ hok
 dsimp only at H ⊢
 generalize (p.getD 0 []).length=m at H ⊢
 have hl:=H.len;have hn:=H.n;have hm:=H.m8
 unfold FJ
 simp only[List.length_map]
 refine aX l.length (fun k s=>s=((k:Int),eY p (List.replicate m 0) (l.take k),())) rfl ?_
 rintro X k s hk rfl hX
 dsimp only
 refine bI (fun hlt=>?_) fun hge=>?_
 ·have hlt:k<l.length:=by omega
  have hj:=H.diff.2 l[k] (List.getElem_mem hlt)
  have hjn:(l[k]).toNat<p.length:=by omega
  have hje:l[k]=((l[k].toNat:Nat):Int):=by omega
  obtain ⟨r1,r2,r3⟩:=H.mA.row hjn
  have hrow:p[l[k].toNat]=p.getD l[k].toNat []:=by simp[List.getD,hjn]
  have hpl:(aF p (List.replicate m 0) (l.take k)).length=m:=cH H.mA.1 _ _ (H.diff.pre k).2 List.length_replicate
  have hnext:aF p (List.replicate m 0) (l.take (k+1))=c4 0 (aF p (List.replicate m 0) (l.take k)) (p.getD l[k].toNat []):=by rw[nH hlt,eV];rfl
  rw[aC (r:=.int .i64) hlt,hje,aC (r:=(Sy.int .i64).li) hjn,hrow,←hje]
  generalize hR:p.getD l[k].toNat []=row at *
  have hRl:(c4 0 (aF p (List.replicate m 0) (l.take k)) row).length=m:=(jX _ _ _ (by omega)).trans r1
  have hat:=BL 0 (aF p (List.replicate m 0) (l.take k)) row
  have hsm:=fun i (hi:i<m)=>H.small (k+1) hi
  have hsp:=fun i (hi:i<m)=>H.small k hi
  rw[hnext] at hsm
  have htab:eY p (List.replicate m 0) (l.take (k+1))=eY p (List.replicate m 0) (l.take k)++[c4 0 (aF p (List.replicate m 0) (l.take k)) row]:=by rw[nH hlt,rW,hR]
  have hprev:0<k→∃ hk1:k-1<(eY p (List.replicate m 0) (l.take k)).length,(eY p (List.replicate m 0) (l.take k))[k-1]=aF p (List.replicate m 0) (l.take k):=fun h0=>by
   have hk1:k-1<(l.take k).length:=by rw[List.length_take];omega
   have:=mJ p (l.take k) (List.replicate m 0) (k-1) hk1
   refine ⟨by rw[fI];exact hk1,?_⟩
   rw[List.getElem?_eq_getElem (by rw[fI];exact hk1)] at this
   rw[Option.some.inj this,List.take_take]
   congr 2
   omega
  have hfirst:k=0→aF p (List.replicate m 0) (l.take k)=List.replicate m 0:=fun h=>by subst h;rfl
  generalize hP:aF p (List.replicate m 0) (l.take k)=prev at *
  generalize eY p (List.replicate m 0) (l.take k)=tab at *
  generalize hRR:c4 0 prev row=R at *
  refine ⟨by rw[r1];simp only[decide_true,Bool.true_or,Bool.true_and,Bool.and_eq_true,decide_eq_true_eq];omega,?_⟩
  have hrep:List.replicate (Int.toNat (row.length:Int)) [T.v (.int .i64 0)]=List.map (Sy.int .i64).enc (List.replicate m 0):=by rw[Int.toNat_natCast,r1,List.map_replicate];rfl
  rw[hje,aC (r:=(Sy.int .i64).li) hjn,hrow]
  rw[hrep,cA rfl]
  refine aX m (fun s st=>st=((s:Int),fA R s,())) (by rw[x8,hRl];rfl) ?_
  rintro Y s st hs rfl hY
  dsimp only
  have hcl:(fA R s).length=m:=by rw[jO (by omega),hRl]
  refine bI (fun hlt2=>?_) fun hge2=>?_
  ·have hs1:s<row.length:=by omega
   have hsR:s<R.length:=by omega
   have hsp':=hsp s (by omega)
   have hsm':=hsm s (by omega)
   have hat':=hat s (by omega) hs1
   have hrs:row[s]=row.getD s 0:=by simp[List.getD,hs1]
   rw[aC (r:=.int .i64) hs1]
   refine lY ((fA R s).set s (prev.getD s 0),()) (fun Z hZ=>?_) ?_
   ·refine bI (fun h0=>?_) fun h0=>?_
    ·have h0:0<k:=by omega
     obtain ⟨t1,t2⟩:=hprev h0
     rw[kS h0 (by omega)]
     refine yK (r:=(Sy.int .i64).li) t1 ?_
     rw[t2,aC (r:=.int .i64) (show s<prev.length by omega)]
     refine B1 (by omega) ?_
     rw[show prev[s]'(by omega)=prev.getD s 0 by simp[List.getD,show s<prev.length by omega]]
     exact hZ
    ·have h0:k=0:=by omega
     rw[cA rfl]
     have:(fA R s).set s (prev.getD s 0)=fA R s:=by
      rw[hfirst h0]
      have h1:(List.replicate m (0:Int)).getD s 0=(fA R s)[s]'(by omega):=by rw[RA hsR (by omega)];simp[List.getD,show s<m by omega]
      rw[h1,List.set_getElem_self]
     rw[this] at hZ
     exact hZ
   refine lY ((fA R s).set s (max (if s=0 then 0 else R.getD (s-1) 0) (prev.getD s 0)),()) (fun Z hZ=>?_) ?_
   ·dsimp only
    refine bI (fun h0=>?_) fun h0=>?_
    ·have h0:0<s:=by omega
     refine yK (r:=.int .i64) (by rw[List.length_set];omega) ?_
     rw[kS h0 (by omega)]
     refine yK (r:=.int .i64) (by rw[List.length_set];omega) ?_
     refine B1 (by rw[List.length_set];omega) ?_
     rw[List.set_set,List.getElem_set_self,List.getElem_set_ne (by omega),oT (by omega) (by omega)]
     rw[if_neg (by omega)] at hZ
     have:(if prev.getD s 0<R.getD (s-1) 0 then R.getD (s-1) 0 else prev.getD s 0)=max (R.getD (s-1) 0) (prev.getD s 0):=by split<;>omega
     rw[this];exact hZ
    ·have h0:s=0:=by omega
     rw[cA rfl]
     subst h0
     rw[if_pos rfl] at hZ
     have:max 0 (prev.getD 0 0)=prev.getD 0 0:=by omega
     rw[this] at hZ
     exact hZ
   dsimp only
   refine yK (r:=.int .i64) (by rw[List.length_set];omega) ?_
   refine B1 (by rw[List.length_set];omega) ?_
   refine hY _ (by omega) ?_
   have hRs:R[s]'hsR=R.getD s 0:=by simp[List.getD,hsR]
   rw[List.set_set,List.getElem_set_self,hrs,←hat',show IntKind.i64.wrap (R.getD s 0)=R.getD s 0 from bN _ (by omega) (by omega),C0 hsR,bH (n:=8) (k:=s) (by omega) (by omega)]
  ·have:s=m:=by omega
   subst this
   have htl:tab.length=k:=by
    have:=congrArg List.length htab
    rw[fI,List.length_append,List.length_take] at this
    simp at this;omega
   refine ⟨by rw[Bool.and_eq_true,decide_eq_true_eq,decide_eq_true_eq,htl];omega,?_⟩
   have hce:fA R s=R:=by rw[←hRl];exact CZ R
   rw[hce,gX (r:=(Sy.int IntKind.i64).li) rfl tab _ R rfl]
   exact hX _ hlt (by rw[bH hlt (by omega),htab])
 ·have:k=l.length:=by omega
  subst this
  rw[List.take_length]
  rfl
end Go.Pv
namespace Go.Pv
open Go Go.Proofs
noncomputable def QN:Env:=Env.of [(1000000037,.mark)]
def QZ:FuncId→Hint:=fun f=>match f == 100 with|true=>⟨fun r=>match r == 3 with|true=>.inv [.val 6 false (.int .i64),.own 5 1 (.li (.int .i64))]|false=>match r == 7 with|true=>.inv [.val 8 false (.int .i64),.arr 1 1 (.int .i64)]|false=>.none,fun i j=>match i == 10&&j == 11 with|true=>some [.val 9 false (.int .i64)]|false=>match i == 12&&j == 13 with|true=>some [.val 9 false (.int .i64)]|false=>none,fun _=>none⟩|false=>bK
theorem JK:aM Tryz.prog QN:=.cons (x:=.mark) trivial (.nil _)
def zX (a0:List (List Int)) (a1:List Int) (R:T→Prop):Prop :=
 bM (Int×List (List Int)×PUnit)
 (fun (X0:Int×List (List Int)×PUnit→Prop) (s1:Int×List (List Int)×PUnit) =>
 aB (decide (s1.1<(↑(List.map (Sy.int IntKind.i64).enc a1).length:Int)))
 (aH (Sy.int IntKind.i64) (List.map (Sy.int IntKind.i64).enc a1) s1.1
 fun (y2:Int) =>
 aH (Sy.int IntKind.i64).li (List.map (Sy.int IntKind.i64).li.enc a0) y2
 fun (y3:List Int) =>
 cQ
 ((decide
 ((↑(List.map (Sy.int IntKind.i64).enc y3).length:Int) =
 (↑(List.map (Sy.int IntKind.i64).enc y3).length:Int)) ||
 decide ((↑(List.map (Sy.int IntKind.i64).enc y3).length:Int)=0)) &&
 true &&
 decide
 ((↑(List.map (Sy.int IntKind.i64).enc y3).length:Int)*(↑8:Int)≤140737488355328) &&
 decide ((↑(List.map (Sy.int IntKind.i64).enc y3).length:Int)≤140737488355328))
 (dH (Sy.int IntKind.i64)
 (List.replicate (↑(List.map (Sy.int IntKind.i64).enc y3).length:Int).toNat
 [T.v (.int .i64 0)])
 fun (y4:List Int) =>
 bM (Int×List Int×PUnit)
 (fun (X5:Int×List Int×PUnit→Prop) (s6:Int×List Int×PUnit) =>
 aB (decide (s6.1<(↑(List.map (Sy.int IntKind.i64).enc s6.2.1).length:Int)))
 (vN (Int×PUnit)
 (fun (X7:Int×PUnit→Prop) =>
 aB (decide (0<s1.1))
 (aH (Sy.int IntKind.i64).li
 (List.map (Sy.int IntKind.i64).li.enc s1.2.1)
 (IntKind.i64.wrap (s1.1-1)) fun (y8:List Int) =>
 nX (Sy.int IntKind.i64).li
 (List.map (Sy.int IntKind.i64).li.enc s1.2.1)
 (IntKind.i64.wrap (s1.1-1)).toNat 0 fun (y9:List Int) =>
 aH (Sy.int IntKind.i64) (List.map (Sy.int IntKind.i64).enc y9)
 s6.1 fun (y10:Int)=>X7 (y10,()))
 (X7 (0,())))
 fun (s11:Int×PUnit) =>
 vN (Int×PUnit)
 (fun (X12:Int×PUnit→Prop) =>
 aB (decide (0<s6.1))
 (aH (Sy.int IntKind.i64)
 (List.map (Sy.int IntKind.i64).enc s6.2.1) (IntKind.i64.wrap (s6.1-1))
 fun (y13:Int) =>
 nX (Sy.int IntKind.i64)
 (List.map (Sy.int IntKind.i64).enc s6.2.1)
 (IntKind.i64.wrap (s6.1-1)).toNat 0 fun (y14:Int) =>
 X12 (if s11.1<y14 then y14 else s11.1,()))
 (X12 (s11.1,())))
 fun (s15:Int×PUnit) =>
 aH (Sy.int IntKind.i64) (List.map (Sy.int IntKind.i64).enc a1) s1.1
 fun (y16:Int) =>
 aH (Sy.int IntKind.i64).li
 (List.map (Sy.int IntKind.i64).li.enc a0) y16 fun (y17:List Int) =>
 aH (Sy.int IntKind.i64) (List.map (Sy.int IntKind.i64).enc y17)
 s6.1 fun (y18:Int) =>
 aH (Sy.int IntKind.i64)
 (List.map (Sy.int IntKind.i64).enc s6.2.1) s6.1 fun (y19:Int) =>
 EL (List.map (Sy.int IntKind.i64).enc s6.2.1) (Int.toNat s6.1)
 fun (y20:List T) =>
 cQ (decide (1≤y20.length))
 (dH (Sy.int IntKind.i64)
 ((List.map (Sy.int IntKind.i64).enc s6.2.1).set (Int.toNat s6.1)
 (aW y20 0
 [T.v (.int .i64 (IntKind.i64.wrap (s15.1+y18)))]))
 fun (y21:List Int)=>X5 (IntKind.i64.wrap (s6.1+1),y21,())))
 (cQ
 (decide
 (((List.map (Sy.int IntKind.i64).li.enc s1.2.1).length+1)*24 ≤
 140737488355328) &&
 decide
 ((List.map (Sy.int IntKind.i64).li.enc s1.2.1).length+1≤140737488355328))
 (dH (Sy.int IntKind.i64).li
 (List.map (Sy.int IntKind.i64).li.enc s1.2.1 ++
 [[T.sl false (List.map (Sy.int IntKind.i64).enc s6.2.1)]])
 fun (y22:List (List Int))=>X0 (IntKind.i64.wrap (s1.1+1),y22,()))))
 (0,y4,())))
 (R (T.sl false (List.map (Sy.int IntKind.i64).li.enc s1.2.1))))
 (0,[],())
abbrev BX:Sh:=[(false,(Sy.int IntKind.i64).li.li),(false,(Sy.int IntKind.i64).li)]
abbrev mX:Sh:=[(false,(Sy.int IntKind.i64).li.li)]
theorem BI (y:Sh.den mX) (K:Sh.den mX→Prop):aN mX (some (Sh.enc mX y)) K=K y:=aZ rfl y K
def j8 (x:List (List Int)×List Int):Option T:=match D7 x.1 x.2 with
 | true=>some (Sh.enc mX (eY x.1 (List.replicate (x.1.getD 0 []).length 0) x.2))
 | false=>none
noncomputable def mR:List T→Option T:=gS BX j8
theorem GQ {a0 a1}:mR [T.sl false (List.map (Sy.int IntKind.i64).li.enc a0),
 T.sl false (List.map (Sy.int IntKind.i64).enc a1)]=j8 (a0,a1):=bT (s:=BX) rfl (a0,a1) rfl
theorem PB:E0 Tryz.prog 100 mR j8 (dO BX) zX:=nM (a1:=(false,(Sy.int IntKind.i64).li.li)) (a2:=(false,(Sy.int IntKind.i64).li)) (sp:=j8) (F:=zX) (Hs:=QZ) (f:=100) (k:=8) JK bJ bO (aP rfl) ⟨_,_,Tryz.func100,rfl⟩ rfl fun _ _ _=>by kernel_rfl
theorem N4:aU Tryz.prog 100 mR:=PB fun p l r h hb=>by
 unfold j8 at h
 split at h
 case h_2=>cases h
 rename_i hok
 cases h
 have H:=dQ hok
 dsimp only at H ⊢
 generalize (p.getD 0 []).length=m at H ⊢
 have hl:=H.len;have hn:=H.n;have hm:=H.m8
 unfold zX
 simp only[List.length_map]
 refine aX l.length (fun k s=>s=((k:Int),eY p (List.replicate m 0) (l.take k),())) rfl ?_
 rintro X k s hk rfl hX
 dsimp only
 refine bI (fun hlt=>?_) fun hge=>?_
 ·have hlt:k<l.length:=by omega
  have hj:=H.diff.2 l[k] (List.getElem_mem hlt)
  have hjn:(l[k]).toNat<p.length:=by omega
  have hje:l[k]=((l[k].toNat:Nat):Int):=by omega
  obtain ⟨r1,r2,r3⟩:=H.mA.row hjn
  have hrow:p[l[k].toNat]=p.getD l[k].toNat []:=by simp[List.getD,hjn]
  have hpl:(aF p (List.replicate m 0) (l.take k)).length=m:=cH H.mA.1 _ _ (H.diff.pre k).2 List.length_replicate
  have hnext:aF p (List.replicate m 0) (l.take (k+1))=c4 0 (aF p (List.replicate m 0) (l.take k)) (p.getD l[k].toNat []):=by rw[nH hlt,eV];rfl
  rw[aC (r:=.int .i64) hlt,hje,aC (r:=(Sy.int .i64).li) hjn,hrow]
  generalize hR:p.getD l[k].toNat []=row at *
  have hRl:(c4 0 (aF p (List.replicate m 0) (l.take k)) row).length=m:=(jX _ _ _ (by omega)).trans r1
  have hat:=BL 0 (aF p (List.replicate m 0) (l.take k)) row
  have hsm:=fun i (hi:i<m)=>H.small (k+1) hi
  have hsp:=fun i (hi:i<m)=>H.small k hi
  rw[hnext] at hsm
  have htab:eY p (List.replicate m 0) (l.take (k+1))=eY p (List.replicate m 0) (l.take k)++[c4 0 (aF p (List.replicate m 0) (l.take k)) row]:=by rw[nH hlt,rW,hR]
  have hprev:0<k→∃ hk1:k-1<(eY p (List.replicate m 0) (l.take k)).length,(eY p (List.replicate m 0) (l.take k))[k-1]=aF p (List.replicate m 0) (l.take k):=fun h0=>by
   have hk1:k-1<(l.take k).length:=by rw[List.length_take];omega
   have:=mJ p (l.take k) (List.replicate m 0) (k-1) hk1
   refine ⟨by rw[fI];exact hk1,?_⟩
   rw[List.getElem?_eq_getElem (by rw[fI];exact hk1)] at this
   rw[Option.some.inj this,List.take_take]
   congr 2
   omega
  have hfirst:k=0→aF p (List.replicate m 0) (l.take k)=List.replicate m 0:=fun h=>by subst h;rfl
  generalize hP:aF p (List.replicate m 0) (l.take k)=prev at *
  generalize eY p (List.replicate m 0) (l.take k)=tab at *
  generalize hRR:c4 0 prev row=R at *
  refine ⟨by rw[r1];simp only[decide_true,Bool.true_or,Bool.true_and,Bool.and_eq_true,decide_eq_true_eq];omega,?_⟩
  have hrep:List.replicate (Int.toNat (row.length:Int)) [T.v (.int .i64 0)]=List.map (Sy.int .i64).enc (List.replicate m 0):=by rw[Int.toNat_natCast,r1,List.map_replicate];rfl
  rw[hrep,cA rfl]
  refine aX m (fun s st=>st=((s:Int),fA R s,())) (by rw[x8,hRl];rfl) ?_
  rintro Y s st hs rfl hY
  dsimp only
  have hcl:(fA R s).length=m:=by rw[jO (by omega),hRl]
  refine bI (fun hlt2=>?_) fun hge2=>?_
  ·have hs1:s<row.length:=by omega
   have hsR:s<R.length:=by omega
   have hsp':=hsp s (by omega)
   have hsm':=hsm s (by omega)
   have hat':=hat s (by omega) hs1
   have hrs:row[s]=row.getD s 0:=by simp[List.getD,hs1]
   refine lY (prev.getD s 0,()) (fun Z hZ=>?_) ?_
   ·refine bI (fun h0=>?_) fun h0=>?_
    ·have h0:0<k:=by omega
     obtain ⟨t1,t2⟩:=hprev h0
     rw[kS h0 (by omega)]
     refine yK (r:=(Sy.int .i64).li) t1 ?_
     rw[t2,aC (r:=.int .i64) (show s<prev.length by omega)]
     rw[show prev[s]'(by omega)=prev.getD s 0 by simp[List.getD,show s<prev.length by omega]]
     exact hZ
    ·have h0:k=0:=by omega
     have:prev.getD s 0=0:=by rw[hfirst h0];simp[List.getD,show s<m by omega]
     rw[this] at hZ
     exact hZ
   refine lY (max (if s=0 then 0 else R.getD (s-1) 0) (prev.getD s 0),()) (fun Z hZ=>?_) ?_
   ·dsimp only
    refine bI (fun h0=>?_) fun h0=>?_
    ·have h0:0<s:=by omega
     rw[kS h0 (by omega)]
     refine yK (r:=.int .i64) (by omega) ?_
     rw[oT (by omega) (by omega)]
     rw[if_neg (by omega)] at hZ
     have:(if prev.getD s 0<R.getD (s-1) 0 then R.getD (s-1) 0 else prev.getD s 0)=max (R.getD (s-1) 0) (prev.getD s 0):=by split<;>omega
     rw[this];exact hZ
    ·have h0:s=0:=by omega
     subst h0
     rw[if_pos rfl] at hZ
     have:max 0 (prev.getD 0 0)=prev.getD 0 0:=by omega
     rw[this] at hZ
     exact hZ
   dsimp only
   rw[aC (r:=.int .i64) hlt,hje,aC (r:=(Sy.int .i64).li) hjn,hrow,aC (r:=.int .i64) hs1]
   refine B1 (by omega) ?_
   refine hY _ (by omega) ?_
   rw[hrs,←hat',show IntKind.i64.wrap (R.getD s 0)=R.getD s 0 from bN _ (by omega) (by omega),C0 hsR,bH (n:=8) (k:=s) (by omega) (by omega)]
  ·have:s=m:=by omega
   subst this
   have htl:tab.length=k:=by
    have:=congrArg List.length htab
    rw[fI,List.length_append,List.length_take] at this
    simp at this;omega
   refine ⟨by rw[Bool.and_eq_true,decide_eq_true_eq,decide_eq_true_eq,htl];omega,?_⟩
   have hce:fA R s=R:=by rw[←hRl];exact CZ R
   rw[hce,gX (r:=(Sy.int IntKind.i64).li) rfl tab _ R rfl]
   exact hX _ hlt (by rw[bH hlt (by omega),htab])
 ·have:k=l.length:=by omega
  subst this
  rw[List.take_length]
  rfl
end Go.Pv
namespace Go.Pv
open Go Go.Proofs
noncomputable def QI:Env:=Env.of []
def QU:FuncId→Hint:=fM 66 [(2,.inv [.val 5 false (.int .i64)])] (fun _=>bK)
theorem JF:aM Tryz.prog QI:=.nil _
def zS (a0:List Int) (a1:Int) (R:T→Prop):Prop :=
 bM (Int×PUnit)
 (fun (X0:Int×PUnit→Prop) (s1:Int×PUnit) =>
 aB (decide (s1.1<(↑(List.map (Sy.int IntKind.i64).enc a0).length:Int)))
 (aH (Sy.int IntKind.i64) (List.map (Sy.int IntKind.i64).enc a0) s1.1
 fun (y2:Int) =>
 aB (decide (y2=a1)) (R (T.v (.bool true))) (X0 (IntKind.i64.wrap (s1.1+1),())))
 (R (T.v (.bool false))))
 (0,())
abbrev BS:Sh:=[(false,(Sy.int IntKind.i64).li),(false,(Sy.int IntKind.i64))]
abbrev mV:Sh:=[(false,Sy.bool)]
theorem pJ (y:Sh.den mV) (K:Sh.den mV→Prop):aN mV (some (Sh.enc mV y)) K=K y:=aZ rfl y K
def j3 (x:List Int×Int):Option T:=some (Sh.enc mV (decide (x.2∈x.1)))
noncomputable def kJ:List T→Option T:=gS BS j3
theorem vF {a0 a1}:kJ [T.sl false (List.map (Sy.int IntKind.i64).enc a0),T.v (.int .i64 a1)]=j3 (a0,a1):=bT (s:=BS) rfl (a0,a1) rfl
theorem O6:E0 Tryz.prog 66 kJ j3 (dO BS) zS:=nM (a1:=(false,(Sy.int IntKind.i64).li)) (a2:=(false,(Sy.int IntKind.i64))) (sp:=j3) (F:=zS) (Hs:=QU) (f:=66) (k:=8) JF bJ bO (aP rfl) ⟨_,_,Tryz.func66,rfl⟩ rfl fun _ _ _=>by kernel_rfl
theorem C7:aU Tryz.prog 66 kJ:=O6 fun l a r h hb=>by
 cases h
 have hl:l.length≤2 ^ 47:=hb.1.1
 have is:∀ {n:Bool},decide (a∈l)=n→T.v (.bool n)=Sh.enc mV (decide (a∈l)):=fun h=>by rw[h];rfl
 unfold zS
 simp only[List.length_map]
 refine aX l.length (fun k s=>s=((k:Int),())∧decide (a∈l)=decide (a∈l.drop k)) ⟨rfl,rfl⟩ ?_
 rintro X k s hk ⟨rfl,he⟩ hX
 dsimp only
 refine bI (fun hlt=>?_) fun hge=>?_
 ·have hlt:k<l.length:=by omega
  rw[List.drop_eq_getElem_cons hlt] at he
  rw[aC (r:=.int .i64) hlt]
  refine bI (fun h=>?_) fun h=>?_
  ·exact is (by rw[he,h];simp)
  ·exact hX _ hlt ⟨by rw[bH hlt hl],by rw[he];simp only[List.mem_cons,decide_eq_decide];exact ⟨fun h'=>h'.resolve_left fun e=>h e.symm,.inr⟩⟩
 ·have:k=l.length:=by omega
  subst this
  exact is (by rw[he];simp)
theorem rG {p:List (List Int)} {l:List Int} {m:Nat} (H:T6 p l m) {s:Int} (h0:0≤s) (hs:s<m):DU (eY p (List.replicate m 0) l) s=some ((aF p (List.replicate m 0) l).getD s.toNat 0):=by
 unfold DU
 cases hl:l with
 | nil=>simp[eY,aF,List.getD,show s.toNat<m by omega]
 | cons a r =>
  have hne:0<l.length:=by rw[hl];simp
  rw[←hl,List.getLast?_eq_getElem?,fI,mJ p l _ _ (by omega),show l.length-1+1=l.length by omega,List.take_length]
  dsimp only
  have h3:=cH H.mA.1 l (List.replicate m 0) H.diff.2 List.length_replicate
  rw[decide_eq_true h0]
  simp[List.getD,show s.toNat<(aF p (List.replicate m 0) l).length by omega]
def QA (p:List (List Int)) (l:List Int) (s:Int):Bool:=D7 p l&&(decide (0≤s)&&decide (s<(p.getD 0 []).length))
theorem vZ {p:List (List Int)} {l:List Int} {s:Int} (h:QA p l s=true):D7 p l=true∧0≤s∧s<(p.getD 0 []).length:=by
 unfold QA at h
 simpa using h
theorem UI {p:List (List Int)} {l:List Int} (h:D7 p l=true):qI [T.sl false (List.map (Sy.int .i64).li.enc p),T.sl false (List.map (Sy.int .i64).enc l)]=some (Sh.enc rM (eY p (List.replicate (p.getD 0 []).length 0) l)):=by
 rw[KS];unfold nC;rw[h]
theorem VH {p:List (List Int)} {l:List Int} (h:D7 p l=true):mR [T.sl false (List.map (Sy.int .i64).li.enc p),T.sl false (List.map (Sy.int .i64).enc l)]=some (Sh.enc mX (eY p (List.replicate (p.getD 0 []).length 0) l)):=by
 rw[GQ];unfold j8;rw[h]
noncomputable def L8:Env:=Env.of [(100,.pure mR)]
def MT:FuncId→Hint:=fun _=>bK
theorem FB:aM Tryz.prog L8:=.cons N4 (.nil _)
def tP (a0:List (List Int)) (a1:List Int) (a2:Int) (R:T→Prop):Prop :=
 aB (decide ((↑(List.map (Sy.int IntKind.i64).enc a1).length:Int)=0))
 (R (T.v (.int .i64 0)))
 (aN [(false,(Sy.int IntKind.i64).li.li)]
 (mR
 [T.sl false (List.map (Sy.int IntKind.i64).li.enc a0),
 T.sl false (List.map (Sy.int IntKind.i64).enc a1)])
 fun (y0:List (List Int)) =>
 aH (Sy.int IntKind.i64).li (List.map (Sy.int IntKind.i64).li.enc y0)
 (IntKind.i64.wrap ((↑(List.map (Sy.int IntKind.i64).li.enc y0).length:Int)-1))
 fun (y1:List Int) =>
 aH (Sy.int IntKind.i64) (List.map (Sy.int IntKind.i64).enc y1) a2 fun (y2:Int) =>
 R (T.v (.int .i64 y2)))
abbrev wM:Sh:=[(false,(Sy.int IntKind.i64).li.li),(false,(Sy.int IntKind.i64).li),(false,(Sy.int IntKind.i64))]
abbrev jV:Sh:=[(false,Sy.int IntKind.i64)]
theorem nY (y:Sh.den jV) (K:Sh.den jV→Prop):aN jV (some (Sh.enc jV y)) K=K y:=aZ rfl y K
def fT (x:List (List Int)×List Int×Int):Option T:=match QA x.1 x.2.1 x.2.2 with
 | true=>some (Sh.enc jV ((aF x.1 (List.replicate (x.1.getD 0 []).length 0) x.2.1).getD x.2.2.toNat 0))
 | false=>none
noncomputable def fY:List T→Option T:=gS wM fT
theorem sB {a0 a1 a2}:fY [T.sl false (List.map (Sy.int IntKind.i64).li.enc a0),
 T.sl false (List.map (Sy.int IntKind.i64).enc a1),T.v (.int .i64 a2)]=fT (a0,a1,a2):=bT (s:=wM) rfl (a0,a1,a2) rfl
theorem LG:V8 Tryz.prog 87 fY fT (dO wM) tP:=O1 (a1:=(false,(Sy.int IntKind.i64).li.li)) (a2:=(false,(Sy.int IntKind.i64).li)) (a3:=(false,(Sy.int IntKind.i64))) (sp:=fT) (F:=tP) (Hs:=MT) (f:=87) (k:=8) FB bJ bO (aP rfl) ⟨_,_,Tryz.func87,rfl⟩ rfl fun _ _ _ _=>by kernel_rfl
theorem yC:aU Tryz.prog 87 fY:=LG fun p l s r h hb=>by
 unfold fT at h
 split at h
 case h_2=>cases h
 rename_i hok
 cases h
 obtain ⟨h1,h2,h3⟩:=vZ hok
 have H:=dQ h1
 dsimp only at H h1 h2 h3 ⊢
 have hl:=H.len;have hn:=H.n
 unfold tP
 rw[VH h1,BI]
 have hg:=rG H h2 h3
 have htl:=fI p l (List.replicate (p.getD 0 []).length 0)
 have hll:=cH H.mA.1 l (List.replicate (p.getD 0 []).length 0) H.diff.2 List.length_replicate
 have hlast:=fun h0:0<l.length=>mJ p l (List.replicate (p.getD 0 []).length 0) (l.length-1) (by omega)
 simp only[List.length_map]
 refine bI (fun h0=>?_) fun h0=>?_
 ·have:l=[]:=List.eq_nil_of_length_eq_zero (by omega)
  subst this
  have hg':=hg
  rw[show DU (eY p (List.replicate (p.getD 0 []).length 0) []) s=some 0 from rfl] at hg'
  rw[←Option.some.inj hg'];rfl
 ·have h0:0<l.length:=by omega
  have hlast:=hlast h0
  rw[htl,kS h0 (by omega),aC (r:=(Sy.int .i64).li) (show l.length-1<(eY p (List.replicate (p.getD 0 []).length 0) l).length by omega)]
  rw[List.getElem?_eq_getElem (by omega)] at hlast
  rw[Option.some.inj hlast,show l.length-1+1=l.length by omega,List.take_length]
  obtain ⟨i,rfl⟩:∃ i:Nat,s=i:=⟨s.toNat,by omega⟩
  have hi:i<(aF p (List.replicate (p.getD 0 []).length 0) l).length:=by omega
  rw[aC (r:=.int .i64) hi,Int.toNat_natCast,show (aF p (List.replicate (p.getD 0 []).length 0) l).getD i 0=(aF p (List.replicate (p.getD 0 []).length 0) l)[i] by rw[List.getD_eq_getElem?_getD,List.getElem?_eq_getElem hi];rfl]
  rfl
noncomputable def QK:Env:=Env.of [(87,.pure fY)]
def QW:FuncId→Hint:=fun _=>bK
theorem JH:aM Tryz.prog QK:=.cons yC (.nil _)
def zU (a0:List (List Int)) (a1:List Int) (R:T→Prop):Prop :=
 aB (decide ((↑(List.map (Sy.int IntKind.i64).enc a1).length:Int)=0))
 (R (T.v (.int .i64 0)))
 (aH (Sy.int IntKind.i64).li (List.map (Sy.int IntKind.i64).li.enc a0) 0
 fun (y0:List Int) =>
 aN [(false,Sy.int IntKind.i64)]
 (fY
 [T.sl false (List.map (Sy.int IntKind.i64).li.enc a0),
 T.sl false (List.map (Sy.int IntKind.i64).enc a1),
 T.v (.int .i64 (IntKind.i64.wrap ((↑(List.map (Sy.int IntKind.i64).enc y0).length:Int)-1)))])
 fun (y1:Int)=>R (T.v (.int .i64 y1)))
abbrev BU:Sh:=[(false,(Sy.int IntKind.i64).li.li),(false,(Sy.int IntKind.i64).li)]
abbrev BF:Sh:=[(false,Sy.int IntKind.i64)]
def j5 (x:List (List Int)×List Int):Option T:=match D7 x.1 x.2 with
 | true=>some (Sh.enc BF (dU x.1 (x.1.getD 0 []).length x.2))
 | false=>none
noncomputable def mP:List T→Option T:=gS BU j5
theorem GN {a0 a1}:mP [T.sl false (List.map (Sy.int IntKind.i64).li.enc a0),
 T.sl false (List.map (Sy.int IntKind.i64).enc a1)]=j5 (a0,a1):=bT (s:=BU) rfl (a0,a1) rfl
theorem O8:E0 Tryz.prog 64 mP j5 (dO BU) zU:=nM (a1:=(false,(Sy.int IntKind.i64).li.li)) (a2:=(false,(Sy.int IntKind.i64).li)) (sp:=j5) (F:=zU) (Hs:=QW) (f:=64) (k:=8) JH bJ bO (aP rfl) ⟨_,_,Tryz.func64,rfl⟩ rfl fun _ _ _=>by kernel_rfl
theorem NZ:aU Tryz.prog 64 mP:=O8 fun p l r h hb=>by
 unfold j5 at h
 split at h
 case h_2=>cases h
 rename_i hok
 cases h
 have H:=dQ hok
 dsimp only at H hok ⊢
 have hl:=H.len;have hn:=H.n;have hm:=H.m8
 unfold zU
 simp only[List.length_map]
 rw[IP H.mA.1 H.diff.2]
 refine bI (fun h0=>?_) fun h0=>?_
 ·have:l=[]:=List.eq_nil_of_length_eq_zero (by omega)
  subst this
  have:(aF p (List.replicate (p.getD 0 []).length 0) []).getD ((p.getD 0 []).length-1) 0=0:=by
   show (List.replicate _ _).getD _ _=_
   simp only[List.getD,List.getElem?_replicate];split<;>rfl
  rw[this];rfl
 ·have h0:0<p.length:=by omega
  have hpos:=H.pos h0
  have e0:p[0]=p.getD 0 []:=by simp[List.getD,h0]
  refine (aC (r:=(Sy.int .i64).li) (k:=0) h0 _).mpr ?_
  rw[e0,kS hpos (by omega),sB]
  unfold fT
  have:QA p l (((p.getD 0 []).length-1:Nat):Int)=true:=by
   unfold QA
   rw[hok,decide_eq_true (by omega),decide_eq_true (by omega)];rfl
  rw[this]
  rw[nY,Int.toNat_natCast]
  rfl
end Go.Pv
namespace Go.Pv
open Go Go.Proofs
def iR (p:List (List Int)) (m:Nat) (l:List Int) (i k:Nat):Int×Int:=(List.range k).foldl (fJ p l i) ((aF p (List.replicate m 0) l).getD i 0,-1)
theorem xX (p:List (List Int)) (m:Nat) (l:List Int) (i k:Nat):iR p m l i (k+1)=fJ p l i (iR p m l i k) k:=by
 unfold iR;rw[List.range_succ,List.foldl_append];rfl
theorem pX {p:List (List Int)} {m:Nat} {l:List Int} (H:T6 p l m) {i k:Nat} (hi:i<m) (hk:k≤p.length) :
  0≤(iR p m l i k).1∧(iR p m l i k).1≤8000000∧-1≤(iR p m l i k).2∧(iR p m l i k).2≤800000:=by
 have h0:=H.small l.length hi
 rw[List.take_length] at h0
 have hm:=H.m8;have hn:=H.n
 have:=CN H.mA (by omega) l i (List.range k) ((aF p (List.replicate m 0) l).getD i 0,-1) (fun j hj=>by have:=List.mem_range.1 hj;omega) h0.1 ⟨by dsimp only;omega,by dsimp only;omega⟩
 rw[List.length_range] at this
 dsimp only at this
 show 0≤(iR p m l i k).1∧_
 unfold iR
 omega
theorem H5 {p:List (List Int)} {m:Nat} {l:List Int} {i:Nat} (H:T6 p l m) (hi:i<m) :
  IntKind.i64.wrap ((iR p m l i p.length).1+if (iR p m l i p.length).2<0 then 0 else (iR p m l i p.length).2)=gL p m l i:=by
 obtain ⟨h1,h2,h3,h4⟩:=pX H hi (Nat.le_refl p.length)
 have e:gL p m l i=(iR p m l i p.length).1+max (iR p m l i p.length).2 0:=rfl
 rw[e]
 split<;>rw[bN _ (by omega) (by omega)]<;>omega
theorem H6 {p:List (List Int)} {l:List Int} {i:Nat} {a:Int×Int} {j:Nat} (h:(j:Int)∈l):fJ p l i a j=a:=by unfold fJ;rw[if_pos h]
theorem CL {p:List (List Int)} {l:List Int} {i:Nat} {a:Int×Int} {j:Nat} (h:(j:Int)∉l):fJ p l i a j=(a.1+(p.getD j []).getD i 0,if a.2<0∨gH (p.getD j []) i<a.2 then gH (p.getD j []) i else a.2):=by unfold fJ;rw[if_neg h]
theorem gU {p:List (List Int)} {k:Nat} (hk:k<p.length):p[k]=p.getD k []:=by simp[List.getD,hk]
theorem wA {p:List (List Int)} {m:Nat} {l:List Int} (H:T6 p l m) {j:Nat} (hj:j<p.length) (i q:Nat):0≤(((p.getD j []).drop i).take q).sum∧(((p.getD j []).drop i).take q).sum≤800000:=by
 obtain ⟨r1,r2,r3⟩:=H.mA.row hj
 have hm:=H.m8
 refine ⟨iQ fun n hn=>r2 n (List.mem_of_mem_drop (List.mem_of_mem_take hn)),?_⟩
 have h1:=HS (B:=100000) (l:=((p.getD j []).drop i).take q) fun n hn=>r3 n (List.mem_of_mem_drop (List.mem_of_mem_take hn))
 have h2:(((p.getD j []).drop i).take q).length≤8:=by rw[List.length_take,List.length_drop];omega
 omega
noncomputable def QF:Env:=Env.of [(66,.pure kJ),(87,.pure fY)]
def QR:FuncId→Hint:=fM 65 [(3,.inv [.val 7 false (.int .i64),.val 8 false (.int .i64),.val 9 false (.int .i64)]),(9,.inv [.val 10 false (.int .i64),.val 11 false (.int .i64)])] (fun _=>bK)
theorem JC:aM Tryz.prog QF:=.cons C7 (.cons yC (.nil _))
def zP (a0:List (List Int)) (a1:List Int) (a2:Int) (R:T→Prop):Prop :=
 aN [(false,Sy.int IntKind.i64)]
 (fY
 [T.sl false (List.map (Sy.int IntKind.i64).li.enc a0),
 T.sl false (List.map (Sy.int IntKind.i64).enc a1),T.v (.int .i64 a2)])
 fun (y0:Int) =>
 bM (Int×Int×Int×PUnit)
 (fun (X1:Int×Int×Int×PUnit→Prop) (s2:Int×Int×Int×PUnit) =>
 aB (decide (s2.2.2.1<(↑(List.map (Sy.int IntKind.i64).li.enc a0).length:Int)))
 (aN [(false,Sy.bool)]
 (kJ
 [T.sl false (List.map (Sy.int IntKind.i64).enc a1),
 T.v (.int .i64 s2.2.2.1)])
 fun (y3:Bool) =>
 aB y3 (X1 (s2.1,s2.2.1,IntKind.i64.wrap (s2.2.2.1+1),()))
 (aH (Sy.int IntKind.i64).li (List.map (Sy.int IntKind.i64).li.enc a0)
 s2.2.2.1 fun (y4:List Int) =>
 aH (Sy.int IntKind.i64) (List.map (Sy.int IntKind.i64).enc y4) a2
 fun (y5:Int) =>
 bM (Int×Int×PUnit)
 (fun (X6:Int×Int×PUnit→Prop) (s7:Int×Int×PUnit) =>
 aH (Sy.int IntKind.i64).li (List.map (Sy.int IntKind.i64).li.enc a0)
 s2.2.2.1 fun (y8:List Int) =>
 aB (decide (s7.2.1<(↑(List.map (Sy.int IntKind.i64).enc y8).length:Int)))
 (aH (Sy.int IntKind.i64).li (List.map (Sy.int IntKind.i64).li.enc a0)
 s2.2.2.1 fun (y9:List Int) =>
 aH (Sy.int IntKind.i64) (List.map (Sy.int IntKind.i64).enc y9)
 s7.2.1 fun (y10:Int) =>
 X6 (IntKind.i64.wrap (s7.1+y10),IntKind.i64.wrap (s7.2.1+1),()))
 (aB (decide (s2.2.1<0))
 (X1 (IntKind.i64.wrap (s2.1+y5),s7.1,IntKind.i64.wrap (s2.2.2.1+1),()))
 (aB (decide (s7.1<s2.2.1))
 (X1
 (IntKind.i64.wrap (s2.1+y5),s7.1,IntKind.i64.wrap (s2.2.2.1+1),()))
 (X1
 (IntKind.i64.wrap (s2.1+y5),s2.2.1,IntKind.i64.wrap (s2.2.2.1+1),
 ())))))
 (0,IntKind.i64.wrap (a2+1),())))
 (R
 (T.v (.int .i64 (IntKind.i64.wrap (s2.1+if s2.2.1<0 then 0 else s2.2.1))))))
 (y0,-1,0,())
abbrev BP:Sh:=[(false,(Sy.int IntKind.i64).li.li),(false,(Sy.int IntKind.i64).li),(false,(Sy.int IntKind.i64))]
abbrev BC:Sh:=[(false,Sy.int IntKind.i64)]
def j1 (x:List (List Int)×List Int×Int):Option T:=match QA x.1 x.2.1 x.2.2 with
 | true=>some (Sh.enc BC (gL x.1 (x.1.getD 0 []).length x.2.1 x.2.2.toNat))
 | false=>none
noncomputable def mO:List T→Option T:=gS BP j1
theorem GL {a0 a1 a2}:mO [T.sl false (List.map (Sy.int IntKind.i64).li.enc a0),
 T.sl false (List.map (Sy.int IntKind.i64).enc a1),T.v (.int .i64 a2)]=j1 (a0,a1,a2):=bT (s:=BP) rfl (a0,a1,a2) rfl
theorem O3:V8 Tryz.prog 65 mO j1 (dO BP) zP:=O1 (a1:=(false,(Sy.int IntKind.i64).li.li)) (a2:=(false,(Sy.int IntKind.i64).li)) (a3:=(false,(Sy.int IntKind.i64))) (sp:=j1) (F:=zP) (Hs:=QR) (f:=65) (k:=8) JC bJ bO (aP rfl) ⟨_,_,Tryz.func65,rfl⟩ rfl fun _ _ _ _=>by kernel_rfl
theorem K0 {p:List (List Int)} {l:List Int} {s:Int} (h:QA p l s=true):fY [T.sl false (List.map (Sy.int .i64).li.enc p),T.sl false (List.map (Sy.int .i64).enc l),T.v (.int .i64 s)]=some (Sh.enc jV ((aF p (List.replicate (p.getD 0 []).length 0) l).getD s.toNat 0)):=by
 rw[sB];unfold fT;rw[h]
theorem NV:aU Tryz.prog 65 mO:=O3 fun p l s r h hb=>by
 unfold j1 at h
 split at h
 case h_2=>cases h
 rename_i hok
 cases h
 obtain ⟨h1,h2,h3⟩:=vZ hok
 have H:=dQ h1
 dsimp only at H h1 h2 h3 hok ⊢
 unfold zP
 rw[K0 hok,nY]
 simp only[List.length_map]
 obtain ⟨i,rfl⟩:∃ i:Nat,s=i:=⟨s.toNat,by omega⟩
 rw[Int.toNat_natCast]
 generalize (p.getD 0 []).length=m at *
 have hi:i<m:=by omega
 have hn:=H.n;have hm:=H.m8
 refine aX p.length (fun k s=>s=((iR p m l i k).1,(iR p m l i k).2,(k:Int),())) rfl ?_
 rintro X k s hk rfl hX
 dsimp only
 refine bI (fun hlt=>?_) fun hge=>?_
 ·have hlt:k<p.length:=by omega
  obtain ⟨r1,r2,r3⟩:=H.mA.row hlt
  have hbs:=xX p m l i k
  obtain ⟨z1,z2,z3,z4⟩:=pX H hi (show k≤p.length by omega)
  rw[vF]
  simp only[j3]
  rw[pJ,bH hlt (by omega)]
  refine bI (fun h=>?_) fun h=>?_
  ·rw[H6 h] at hbs
   exact hX _ hlt (by rw[hbs])
  ·rw[CL h] at hbs
   have hir:i<(p.getD k []).length:=by omega
   rw[aC (r:=(Sy.int .i64).li) hlt,gU hlt,aC (r:=.int .i64) hir]
   have hg:(p.getD k []).getD i 0=(p.getD k [])[i]:=by rw[List.getD_eq_getElem?_getD,List.getElem?_eq_getElem hir];rfl
   have hgs:=AQ H.mA (by omega) hlt i
   rw[hg] at hgs hbs
   have hps:=fun q=>wA H hlt (i+1) q
   have hrest:gH (p.getD k []) i=((p.getD k []).drop (i+1)).sum:=rfl
   rw[hrest] at hbs
   generalize hrow:p.getD k []=row at *
   rw[bH (n:=8) (k:=i) (by omega) (by omega),show IntKind.i64.wrap ((iR p m l i k).1+row[i])=(iR p m l i k).1+row[i] from bN _ (by omega) (by omega)]
   refine aX (m-(i+1)) (fun q st=>st=(((row.drop (i+1)).take q).sum,((i+1+q:Nat):Int),())) (by simp) ?_
   rintro Y q st hq rfl hY
   dsimp only
   rw[aC (r:=(Sy.int .i64).li) hlt,gU hlt,hrow]
   refine bI (fun hlt2=>?_) fun hge2=>?_
   ·have hq1:i+1+q<row.length:=by omega
    rw[aC (r:=(Sy.int .i64).li) hlt,gU hlt,hrow,aC (r:=.int .i64) hq1]
    have hq2:q<(row.drop (i+1)).length:=by rw[List.length_drop];omega
    have hs:=EW hq2
    rw[List.getElem_drop] at hs
    have h5:=hps (q+1)
    refine hY _ (by omega) ?_
    rw[←hs,bN _ (by omega) (by omega),bH (n:=9) (k:=i+1+q) (by omega) (by omega)]
    rfl
   ·have:q=m-(i+1):=by omega
    subst this
    have hall:(row.drop (i+1)).take (m-(i+1))=row.drop (i+1):=List.take_of_length_le (by rw[List.length_drop];omega)
    rw[hall]
    refine bI (fun h5=>?_) fun h5=>?_
    ·rw[if_pos (.inl h5)] at hbs
     exact hX _ hlt (by rw[hbs])
    ·refine bI (fun h6=>?_) fun h6=>?_
     ·rw[if_pos (.inr h6)] at hbs
      exact hX _ hlt (by rw[hbs])
     ·rw[if_neg (by omega)] at hbs
      exact hX _ hlt (by rw[hbs])
 ·have:k=p.length:=by omega
  subst this
  rw[H5 H hi];rfl
end Go.Pv
namespace Go.Pv
open Go Go.Proofs
noncomputable def TR:Env:=Env.of [(36,.pure oD),(21,.pure kK)]
def TY:FuncId→Hint:=fM 35 [(3,.inv [.val 21 false (.int .i64),.val 9 false (.int .i64),.val 10 false (.int .i64)]),(9,.inv [.val 40 false (.int .i64),.val 13 false (.int .i64)])] (fun _=>bK)
theorem MC:aM Tryz.prog TR:=.cons IH (.cons C8 (.nil _))
def FF (a0:List (List Int)) (a1:List Int) (a2:List (List Int)) (a3:Int) (R:T→Prop):Prop :=
 aN [(false,Sy.int IntKind.i64)]
 (kK
 [T.sl false (List.map (Sy.int IntKind.i64).li.enc a2),T.v (.int .i64 a3)])
 fun (y0:Int) =>
 bM (Int×Int×Int×PUnit)
 (fun (X1:Int×Int×Int×PUnit→Prop) (s2:Int×Int×Int×PUnit) =>
 aB (decide (s2.1<(↑(List.map (Sy.int IntKind.i64).li.enc a0).length:Int)))
 (aH (Sy.int IntKind.i64).li (List.map (Sy.int IntKind.i64).li.enc a0) s2.1
 fun (y3:List Int) =>
 aN [(false,Sy.bool)]
 (oD
 [T.sl false (List.map (Sy.int IntKind.i64).enc a1),
 T.v (.int .i64 s2.1)])
 fun (y4:Bool) =>
 aB y4 (X1 (IntKind.i64.wrap (s2.1+1),s2.2.1,s2.2.2.1,()))
 (aH (Sy.int IntKind.i64) (List.map (Sy.int IntKind.i64).enc y3) a3
 fun (y5:Int) =>
 cQ
 (rJ 1 (List.map (Sy.int IntKind.i64).enc y3) &&
 decide
 ((List.map (Sy.int IntKind.i64).enc y3).length ≤
 (List.map (Sy.int IntKind.i64).enc y3).length) &&
 (decide (0≤IntKind.i64.wrap (a3+1)) &&
 decide
 ((IntKind.i64.wrap (a3+1)).toNat ≤
 (List.map (Sy.int IntKind.i64).enc y3).length)))
 (bM (Int×Int×PUnit)
 (fun (X6:Int×Int×PUnit→Prop) (s7:Int×Int×PUnit) =>
 aB
 (decide
 (s7.1 <
 (↑(List.drop (IntKind.i64.wrap (a3+1)).toNat
 (List.take (List.map (Sy.int IntKind.i64).enc y3).length
 (List.map (Sy.int IntKind.i64).enc y3))).length :
 Int)))
 (aH (Sy.int IntKind.i64)
 (List.drop (IntKind.i64.wrap (a3+1)).toNat
 (List.take (List.map (Sy.int IntKind.i64).enc y3).length
 (List.map (Sy.int IntKind.i64).enc y3)))
 s7.1 fun (y8:Int) =>
 X6 (IntKind.i64.wrap (s7.1+1),IntKind.i64.wrap (s7.2.1+y8),()))
 (aB (decide (s2.2.2.1<0))
 (X1 (IntKind.i64.wrap (s2.1+1),IntKind.i64.wrap (s2.2.1+y5),s7.2.1,()))
 (aB (decide (s7.2.1<s2.2.2.1))
 (X1
 (IntKind.i64.wrap (s2.1+1),IntKind.i64.wrap (s2.2.1+y5),s7.2.1,()))
 (X1
 (IntKind.i64.wrap (s2.1+1),IntKind.i64.wrap (s2.2.1+y5),s2.2.2.1,
 ())))))
 (0,0,()))))
 (R
 (T.v (.int .i64 (IntKind.i64.wrap (s2.2.1+if s2.2.2.1<0 then 0 else s2.2.2.1))))))
 (0,y0,-1,())
abbrev HD:Sh:=[(false,(Sy.int IntKind.i64).li.li),(false,(Sy.int IntKind.i64).li),(false,(Sy.int IntKind.i64).li.li),(false,(Sy.int IntKind.i64))]
abbrev G8:Sh:=[(false,Sy.int IntKind.i64)]
def nB (x:List (List Int)×List Int×List (List Int)×Int):Option T:=match QA x.1 x.2.1 x.2.2.2&&decide (x.2.2.1=eY x.1 (List.replicate (x.1.getD 0 []).length 0) x.2.1) with
 | true=>some (Sh.enc G8 (gL x.1 (x.1.getD 0 []).length x.2.1 x.2.2.2.toNat))
 | false=>none
noncomputable def qH:List T→Option T:=gS HD nB
theorem KP {a0 a1 a2 a3}:qH [T.sl false (List.map (Sy.int IntKind.i64).li.enc a0),
 T.sl false (List.map (Sy.int IntKind.i64).enc a1),
 T.sl false (List.map (Sy.int IntKind.i64).li.enc a2),T.v (.int .i64 a3)]=nB (a0,a1,a2,a3):=bT (s:=HD) rfl (a0,a1,a2,a3) rfl
theorem SG:YM Tryz.prog 35 qH nB (dO HD) FF:=YC (a1:=(false,(Sy.int IntKind.i64).li.li)) (a2:=(false,(Sy.int IntKind.i64).li)) (a3:=(false,(Sy.int IntKind.i64).li.li)) (a4:=(false,(Sy.int IntKind.i64))) (sp:=nB) (F:=FF) (Hs:=TY) (f:=35) (k:=8) MC bJ bO (aP rfl) ⟨_,_,Tryz.func35,rfl⟩ rfl fun _ _ _ _ _=>by kernel_rfl
theorem G5 (l:List Int):rJ 1 (List.map (Sy.int .i64).enc l)=true:=by cases l<;>rfl
theorem RN:aU Tryz.prog 35 qH:=SG fun p l t s r h hb=>by
 unfold nB at h
 split at h
 case h_2=>cases h
 rename_i hok
 cases h
 rw[Bool.and_eq_true,decide_eq_true_eq] at hok
 obtain ⟨hok,ht⟩:=hok
 dsimp only at ht
 obtain ⟨h1,h2,h3⟩:=vZ hok
 have H:=dQ h1
 dsimp only at H h1 h2 h3 hok ⊢
 subst ht
 unfold FF
 have hg:=rG H h2 h3
 rw[vH]
 unfold iO
 dsimp only
 rw[hg]
 refine dA (s:=BE) (y:=(aF p (List.replicate (p.getD 0 []).length 0) l).getD s.toNat 0) rfl ?_
 simp only[List.length_map]
 obtain ⟨i,rfl⟩:∃ i:Nat,s=i:=⟨s.toNat,by omega⟩
 rw[Int.toNat_natCast]
 clear hg
 generalize (p.getD 0 []).length=m at *
 have hi:i<m:=by omega
 have hn:=H.n;have hm:=H.m8
 refine aX p.length (fun k s=>s=((k:Int),(iR p m l i k).1,(iR p m l i k).2,())) rfl ?_
 rintro X k s hk rfl hX
 dsimp only
 refine bI (fun hlt=>?_) fun hge=>?_
 ·have hlt:k<p.length:=by omega
  obtain ⟨r1,r2,r3⟩:=H.mA.row hlt
  have hbs:=xX p m l i k
  obtain ⟨z1,z2,z3,z4⟩:=pX H hi (show k≤p.length by omega)
  rw[aC (r:=(Sy.int .i64).li) hlt,gU hlt,yG]
  simp only[nD]
  rw[sJ,bH hlt (by omega)]
  refine bI (fun h=>?_) fun h=>?_
  ·rw[H6 h] at hbs
   exact hX _ hlt (by rw[hbs])
  ·rw[CL h] at hbs
   have hir:i<(p.getD k []).length:=by omega
   rw[aC (r:=.int .i64) hir]
   have hg:(p.getD k []).getD i 0=(p.getD k [])[i]:=by rw[List.getD_eq_getElem?_getD,List.getElem?_eq_getElem hir];rfl
   have hgs:=AQ H.mA (by omega) hlt i
   rw[hg] at hgs hbs
   have hps:=fun q=>wA H hlt (i+1) q
   have hrest:gH (p.getD k []) i=((p.getD k []).drop (i+1)).sum:=rfl
   rw[hrest] at hbs
   generalize hrow:p.getD k []=row at *
   rw[bH (n:=8) (k:=i) (by omega) (by omega),show IntKind.i64.wrap ((iR p m l i k).1+row[i])=(iR p m l i k).1+row[i] from bN _ (by omega) (by omega),Int.toNat_natCast,G5]
   refine ⟨by
    rw[decide_eq_true (Nat.le_refl _),decide_eq_true (show (0:Int)≤((i+1:Nat):Int) by omega),decide_eq_true (show i+1≤row.length by omega)];rfl,?_⟩
   have hdl:(row.drop (i+1)).length=m-(i+1):=by rw[List.length_drop];omega
   have hdr:List.drop (i+1) (List.take row.length (List.map (Sy.int .i64).enc row))=List.map (Sy.int .i64).enc (row.drop (i+1)):=by
    rw[List.take_of_length_le (by simp),List.map_drop]
   refine aX (m-(i+1)) (fun q st=>st=((q:Int),((row.drop (i+1)).take q).sum,())) (by simp) ?_
   rintro Y q st hq rfl hY
   dsimp only
   rw[hdr,List.length_map]
   refine bI (fun hlt2=>?_) fun hge2=>?_
   ·have hq2:q<(row.drop (i+1)).length:=by omega
    rw[aC (r:=.int .i64) hq2]
    have hs:=EW hq2
    have h5:=hps (q+1)
    refine hY _ (by omega) ?_
    rw[←hs,show IntKind.i64.wrap ((row.drop (i+1)).take (q+1)).sum=((row.drop (i+1)).take (q+1)).sum from bN _ (by omega) (by omega),bH (n:=9) (k:=q) (by omega) (by omega)]
   ·have:q=m-(i+1):=by omega
    subst this
    have hall:(row.drop (i+1)).take (m-(i+1))=row.drop (i+1):=List.take_of_length_le (by rw[List.length_drop];omega)
    rw[hall]
    refine bI (fun h5=>?_) fun h5=>?_
    ·rw[if_pos (.inl h5)] at hbs
     exact hX _ hlt (by rw[hbs])
    ·refine bI (fun h6=>?_) fun h6=>?_
     ·rw[if_pos (.inr h6)] at hbs
      exact hX _ hlt (by rw[hbs])
     ·rw[if_neg (by omega)] at hbs
      exact hX _ hlt (by rw[hbs])
 ·have:k=p.length:=by omega
  subst this
  rw[H5 H hi];rfl
end Go.Pv
namespace Go.Pv
open Go Go.Proofs
theorem nQ {α:Type} {l:List α} {f:α→Bool} {k:Nat} (hk:k<l.length) (h:f l[k]=true):l.any f=true:=List.any_eq_true.2 ⟨_,List.getElem_mem hk,h⟩
theorem rY {α:Type} {l:List α} {f:α→Bool} (h:∀ k (hk:k<l.length),f l[k]=false):l.any f=false:=by
 rw[List.any_eq_false]
 intro x hx
 obtain ⟨i,hi,rfl⟩:=List.mem_iff_getElem.1 hx
 rw[h i hi];simp
def FX (row:List Int):Bool:=decide (8<row.length)
def M6 (p:List (List Int)) (row:List Int):Bool:=decide (row.length=0∨¬ row.length=(p.getD 0 []).length)
def M7 (row:List Int):Bool:=row.any fun n=>decide (n<0∨100000<n)
theorem EN (p:List (List Int)):eX p=if 32<p.length∨p.any FX=true then 4 else if p.any (M6 p)=true then 17 else if p.any M7=true then 9 else 0:=rfl
theorem EY {α:Type} {l:List α} {f:α→Bool} {k:Nat} (hk:k<l.length) (h1:∀ j (hj:j<l.length),j<k→f l[j]=false) (h2:f l[k]=false):∀ j (hj:j<l.length),j<k+1→f l[j]=false:=fun j hj hjk=>by
 by_cases e:j<k
 ·exact h1 j hj e
 ·have:j=k:=by omega
  subst this;exact h2
noncomputable def TT:Env:=Env.of []
def T0:FuncId→Hint:=fM 31 [(4,.inv [.val 16 false (.int .i64)]),(10,.inv [.val 35 false (.int .i64)])] (fM 85 [(2,.inv [.val 8 false (.int .i64)])] (fM 84 [(2,.inv [.val 8 false (.int .i64)])] (fun _=>bK)))
theorem ME:aM Tryz.prog TT:=.nil _
def FI (a0:List (List Int)) (R:T→Prop):Prop :=
 aB (decide (32<(↑(List.map (Sy.int IntKind.i64).li.enc a0).length:Int)))
 (R (T.v (.int .i64 4)))
 (bM (Int×PUnit)
 (fun (X0:Int×PUnit→Prop) (s1:Int×PUnit) =>
 aB (decide (s1.1<(↑(List.map (Sy.int IntKind.i64).li.enc a0).length:Int)))
 (aH (Sy.int IntKind.i64).li (List.map (Sy.int IntKind.i64).li.enc a0) s1.1
 fun (y2:List Int) =>
 aB (decide (8<(↑(List.map (Sy.int IntKind.i64).enc y2).length:Int)))
 (aB (decide (0≤s1.1)) (R (T.v (.int .i64 4)))
 (bM (Int×PUnit)
 (fun (X3:Int×PUnit→Prop) (s4:Int×PUnit) =>
 aB (decide (s4.1<(↑(List.map (Sy.int IntKind.i64).li.enc a0).length:Int)))
 (aH (Sy.int IntKind.i64).li (List.map (Sy.int IntKind.i64).li.enc a0)
 s4.1 fun (y5:List Int) =>
 aB (decide ((↑(List.map (Sy.int IntKind.i64).enc y5).length:Int)=0))
 (R (T.v (.int .i64 17)))
 (aH (Sy.int IntKind.i64).li (List.map (Sy.int IntKind.i64).li.enc a0)
 0 fun (y6:List Int) =>
 aB
 (!decide
 ((↑(List.map (Sy.int IntKind.i64).enc y5).length:Int) =
 (↑(List.map (Sy.int IntKind.i64).enc y6).length:Int)))
 (R (T.v (.int .i64 17)))
 (X3 (IntKind.i64.wrap (s4.1+1),()))))
 (bM (Int×PUnit)
 (fun (X7:Int×PUnit→Prop) (s8:Int×PUnit) =>
 aB
 (decide (s8.1<(↑(List.map (Sy.int IntKind.i64).li.enc a0).length:Int)))
 (aH (Sy.int IntKind.i64).li
 (List.map (Sy.int IntKind.i64).li.enc a0) s8.1 fun (y9:List Int) =>
 bM (Int×PUnit)
 (fun (X10:Int×PUnit→Prop) (s11:Int×PUnit) =>
 aB
 (decide (s11.1<(↑(List.map (Sy.int IntKind.i64).enc y9).length:Int)))
 (aH (Sy.int IntKind.i64)
 (List.map (Sy.int IntKind.i64).enc y9) s11.1 fun (y12:Int) =>
 aB (decide (y12<0))
 (aB (decide (0≤s11.1)) (R (T.v (.int .i64 9)))
 (X7 (IntKind.i64.wrap (s8.1+1),())))
 (aB (decide (100000<y12))
 (aB (decide (0≤s11.1))
 (R (T.v (.int .i64 9)))
 (X7 (IntKind.i64.wrap (s8.1+1),())))
 (X10 (IntKind.i64.wrap (s11.1+1),()))))
 (X7 (IntKind.i64.wrap (s8.1+1),())))
 (0,()))
 (R (T.v (.int .i64 0))))
 (0,())))
 (0,())))
 (X0 (IntKind.i64.wrap (s1.1+1),())))
 (bM (Int×PUnit)
 (fun (X13:Int×PUnit→Prop) (s14:Int×PUnit) =>
 aB (decide (s14.1<(↑(List.map (Sy.int IntKind.i64).li.enc a0).length:Int)))
 (aH (Sy.int IntKind.i64).li (List.map (Sy.int IntKind.i64).li.enc a0) s14.1
 fun (y15:List Int) =>
 aB (decide ((↑(List.map (Sy.int IntKind.i64).enc y15).length:Int)=0))
 (R (T.v (.int .i64 17)))
 (aH (Sy.int IntKind.i64).li (List.map (Sy.int IntKind.i64).li.enc a0) 0
 fun (y16:List Int) =>
 aB
 (!decide
 ((↑(List.map (Sy.int IntKind.i64).enc y15).length:Int) =
 (↑(List.map (Sy.int IntKind.i64).enc y16).length:Int)))
 (R (T.v (.int .i64 17))) (X13 (IntKind.i64.wrap (s14.1+1),()))))
 (bM (Int×PUnit)
 (fun (X17:Int×PUnit→Prop) (s18:Int×PUnit) =>
 aB (decide (s18.1<(↑(List.map (Sy.int IntKind.i64).li.enc a0).length:Int)))
 (aH (Sy.int IntKind.i64).li (List.map (Sy.int IntKind.i64).li.enc a0)
 s18.1 fun (y19:List Int) =>
 bM (Int×PUnit)
 (fun (X20:Int×PUnit→Prop) (s21:Int×PUnit) =>
 aB
 (decide (s21.1<(↑(List.map (Sy.int IntKind.i64).enc y19).length:Int)))
 (aH (Sy.int IntKind.i64) (List.map (Sy.int IntKind.i64).enc y19)
 s21.1 fun (y22:Int) =>
 aB (decide (y22<0))
 (aB (decide (0≤s21.1)) (R (T.v (.int .i64 9)))
 (X17 (IntKind.i64.wrap (s18.1+1),())))
 (aB (decide (100000<y22))
 (aB (decide (0≤s21.1)) (R (T.v (.int .i64 9)))
 (X17 (IntKind.i64.wrap (s18.1+1),())))
 (X20 (IntKind.i64.wrap (s21.1+1),()))))
 (X17 (IntKind.i64.wrap (s18.1+1),())))
 (0,()))
 (R (T.v (.int .i64 0))))
 (0,())))
 (0,())))
 (0,()))
abbrev HF:Sh:=[(false,(Sy.int IntKind.i64).li.li)]
abbrev rL:Sh:=[(false,Sy.int IntKind.i64)]
theorem EA (y:Sh.den rL) (K:Sh.den rL→Prop):aN rL (some (Sh.enc rL y)) K=K y:=aZ rfl y K
def pO (x:List (List Int)):Option T:=some (Sh.enc rL (eX x))
noncomputable def vD:List T→Option T:=gS HF pO
theorem KR {a0}:vD [T.sl false (List.map (Sy.int IntKind.i64).li.enc a0)]=pO (a0):=bT (s:=HF) rfl (a0) rfl
theorem SI:V7 Tryz.prog 31 vD pO (dO HF) FI:=O0 (a1:=(false,(Sy.int IntKind.i64).li.li)) (sp:=pO) (F:=FI) (Hs:=T0) (f:=31) (k:=8) ME bJ bO (aP rfl) ⟨_,_,Tryz.func31,rfl⟩ rfl fun _ _=>by kernel_rfl
theorem RP:aU Tryz.prog 31 vD:=SI fun p r h hb=>by
 cases h
 have is:∀ {n:Int},eX p=n→T.v (Value.int .i64 n)=Sh.enc rL (eX p):=fun h=>by rw[h];rfl
 have e:=EN p
 unfold FI
 simp only[List.length_map]
 refine bI (fun h=>is (by rw[e,if_pos (.inl (by omega))])) fun h32=>?_
 have hn:p.length≤32:=by omega
 refine aX p.length (fun k s=>s=((k:Int),())∧∀ j (hj:j<p.length),j<k→FX p[j]=false) ⟨rfl,fun j _ h=>by omega⟩ ?_
 rintro X k s hk ⟨rfl,he⟩ hX
 dsimp only
 refine bI (fun hlt=>?_) fun hge=>?_
 ·have hlt:k<p.length:=by omega
  rw[aC (r:=(Sy.int .i64).li) hlt]
  refine bI (fun h8=>bI (fun _=>is ?_) fun h=>absurd (Int.natCast_nonneg k) h) fun h8=>?_
  ·rw[e,if_pos (.inr (nQ hlt (decide_eq_true (by omega))))]
  ·exact hX _ hlt ⟨by rw[bH hlt (by omega)],EY hlt he (decide_eq_false (by omega))⟩
 have:k=p.length:=by omega
 subst this
 have hA:p.any FX=false:=rY fun j hj=>he j hj hj
 rw[hA,if_neg (by simp;omega)] at e
 clear he hX hge hk
 refine aX p.length (fun k s=>s=((k:Int),())∧∀ j (hj:j<p.length),j<k→M6 p p[j]=false) ⟨rfl,fun j _ h=>by omega⟩ ?_
 rintro X k s hk ⟨rfl,he⟩ hX
 dsimp only
 refine bI (fun hlt=>?_) fun hge=>?_
 ·have hlt:k<p.length:=by omega
  have h0:0<p.length:=by omega
  rw[aC (r:=(Sy.int .i64).li) hlt]
  refine bI (fun h8=>is ?_) fun h8=>(aC (r:=(Sy.int .i64).li) (k:=0) h0 _).mpr ?_
  ·rw[e,if_pos (nQ hlt (decide_eq_true (by omega)))]
  ·rw[gU h0]
   refine sP (fun h9=>is ?_) fun h9=>?_
   ·rw[e,if_pos (nQ hlt (decide_eq_true (by omega)))]
   ·exact hX _ hlt ⟨by rw[bH hlt (by omega)],EY hlt he (decide_eq_false (by omega))⟩
 have:k=p.length:=by omega
 subst this
 have hB:p.any (M6 p)=false:=rY fun j hj=>he j hj hj
 rw[hB,if_neg (by simp)] at e
 clear he hX hge hk
 refine aX p.length (fun k s=>s=((k:Int),())∧∀ j (hj:j<p.length),j<k→M7 p[j]=false) ⟨rfl,fun j _ h=>by omega⟩ ?_
 rintro X k s hk ⟨rfl,he⟩ hX
 dsimp only
 refine bI (fun hlt=>?_) fun hge=>?_
 ·have hlt:k<p.length:=by omega
  have h8:p[k].length≤8:=by
   have:=List.any_eq_false.1 hA p[k] (List.getElem_mem hlt)
   simp[FX] at this
   exact this
  rw[aC (r:=(Sy.int .i64).li) hlt]
  refine aX p[k].length (fun i s=>s=((i:Int),())∧∀ j (hj:j<p[k].length),j<i→decide (p[k][j]<0∨100000<p[k][j])=false) ⟨rfl,fun j _ h=>by omega⟩ ?_
  rintro Y i s hi ⟨rfl,hei⟩ hY
  dsimp only
  refine bI (fun hlti=>?_) fun hgei=>?_
  ·have hlti:i<p[k].length:=by omega
   rw[aC (r:=.int .i64) hlti]
   have bad:(p[k][i]<0∨100000<p[k][i])→eX p=9:=fun h=>by rw[e,if_pos (nQ hlt (nQ (f:=fun n=>decide (n<0∨100000<n)) hlti (decide_eq_true h)))]
   refine bI (fun h=>bI (fun _=>is (bad (.inl h))) fun h=>absurd (Int.natCast_nonneg i) h) fun h1=>?_
   refine bI (fun h=>bI (fun _=>is (bad (.inr h))) fun h=>absurd (Int.natCast_nonneg i) h) fun h2=>?_
   exact hY _ hlti ⟨by rw[bH hlti (by omega)],EY (f:=fun n=>decide (n<0∨100000<n)) hlti hei (decide_eq_false (by omega))⟩
  ·refine hX _ hlt ⟨by rw[bH hlt (by omega)],EY hlt he (rY fun j hj=>hei j hj (by omega))⟩
 have:k=p.length:=by omega
 subst this
 have hC:p.any M7=false:=rY fun j hj=>he j hj hj
 rw[hC,if_neg (by simp)] at e
 exact is e
noncomputable def QM:Env:=Env.of []
def QY:FuncId→Hint:=fM 39 [(4,.inv [.val 3 false (.int .i64)]),(9,.inv [.val 4 false (.int .i64)]),(14,.inv [.val 5 false (.int .i64)]),(17,.inv [.val 6 false (.int .i64)])] (fun _=>bK)
theorem JJ:aM Tryz.prog QM:=.nil _
def zW (a0:List (List Int)) (R:T→Prop):Prop :=
 aB (decide (32<(↑(List.map (Sy.int IntKind.i64).li.enc a0).length:Int)))
 (R (T.v (.int .i64 4)))
 (bM (Int×PUnit)
 (fun (X0:Int×PUnit→Prop) (s1:Int×PUnit) =>
 aB (decide (s1.1<(↑(List.map (Sy.int IntKind.i64).li.enc a0).length:Int)))
 (aH (Sy.int IntKind.i64).li (List.map (Sy.int IntKind.i64).li.enc a0) s1.1
 fun (y2:List Int) =>
 aB (decide (8<(↑(List.map (Sy.int IntKind.i64).enc y2).length:Int)))
 (R (T.v (.int .i64 4))) (X0 (IntKind.i64.wrap (s1.1+1),())))
 (bM (Int×PUnit)
 (fun (X3:Int×PUnit→Prop) (s4:Int×PUnit) =>
 aB (decide (s4.1<(↑(List.map (Sy.int IntKind.i64).li.enc a0).length:Int)))
 (aH (Sy.int IntKind.i64).li (List.map (Sy.int IntKind.i64).li.enc a0) s4.1
 fun (y5:List Int) =>
 aB (decide ((↑(List.map (Sy.int IntKind.i64).enc y5).length:Int)=0))
 (R (T.v (.int .i64 17)))
 (aH (Sy.int IntKind.i64).li (List.map (Sy.int IntKind.i64).li.enc a0)
 s4.1 fun (y6:List Int) =>
 aH (Sy.int IntKind.i64).li (List.map (Sy.int IntKind.i64).li.enc a0) 0
 fun (y7:List Int) =>
 aB
 (!decide
 ((↑(List.map (Sy.int IntKind.i64).enc y6).length:Int) =
 (↑(List.map (Sy.int IntKind.i64).enc y7).length:Int)))
 (R (T.v (.int .i64 17))) (X3 (IntKind.i64.wrap (s4.1+1),()))))
 (bM (Int×PUnit)
 (fun (X8:Int×PUnit→Prop) (s9:Int×PUnit) =>
 aB (decide (s9.1<(↑(List.map (Sy.int IntKind.i64).li.enc a0).length:Int)))
 (bM (Int×PUnit)
 (fun (X10:Int×PUnit→Prop) (s11:Int×PUnit) =>
 aH (Sy.int IntKind.i64).li (List.map (Sy.int IntKind.i64).li.enc a0)
 s9.1 fun (y12:List Int) =>
 aB
 (decide (s11.1<(↑(List.map (Sy.int IntKind.i64).enc y12).length:Int)))
 (aH (Sy.int IntKind.i64).li
 (List.map (Sy.int IntKind.i64).li.enc a0) s9.1 fun (y13:List Int) =>
 aH (Sy.int IntKind.i64) (List.map (Sy.int IntKind.i64).enc y13)
 s11.1 fun (y14:Int) =>
 aB (decide (y14<0)) (R (T.v (.int .i64 9)))
 (aH (Sy.int IntKind.i64).li
 (List.map (Sy.int IntKind.i64).li.enc a0) s9.1 fun (y15:List Int) =>
 aH (Sy.int IntKind.i64)
 (List.map (Sy.int IntKind.i64).enc y15) s11.1 fun (y16:Int) =>
 aB (decide (100000<y16)) (R (T.v (.int .i64 9)))
 (X10 (IntKind.i64.wrap (s11.1+1),()))))
 (X8 (IntKind.i64.wrap (s9.1+1),())))
 (0,()))
 (R (T.v (.int .i64 0))))
 (0,())))
 (0,())))
 (0,()))
abbrev BW:Sh:=[(false,(Sy.int IntKind.i64).li.li)]
abbrev mW:Sh:=[(false,Sy.int IntKind.i64)]
theorem BH (y:Sh.den mW) (K:Sh.den mW→Prop):aN mW (some (Sh.enc mW y)) K=K y:=aZ rfl y K
def mD (x:List (List Int)):Option T:=some (Sh.enc mW (eX x))
noncomputable def o6:List T→Option T:=gS BW mD
theorem GP {a0}:o6 [T.sl false (List.map (Sy.int IntKind.i64).li.enc a0)]=mD (a0):=bT (s:=BW) rfl (a0) rfl
theorem PA:V7 Tryz.prog 39 o6 mD (dO BW) zW:=O0 (a1:=(false,(Sy.int IntKind.i64).li.li)) (sp:=mD) (F:=zW) (Hs:=QY) (f:=39) (k:=8) JJ bJ bO (aP rfl) ⟨_,_,Tryz.func39,rfl⟩ rfl fun _ _=>by kernel_rfl
theorem N1:aU Tryz.prog 39 o6:=PA fun p r h hb=>by
 cases h
 have is:∀ {n:Int},eX p=n→T.v (Value.int .i64 n)=Sh.enc mW (eX p):=fun h=>by rw[h];rfl
 have e:=EN p
 unfold zW
 simp only[List.length_map]
 refine bI (fun h=>is (by rw[e,if_pos (.inl (by omega))])) fun h32=>?_
 have hn:p.length≤32:=by omega
 refine aX p.length (fun k s=>s=((k:Int),())∧∀ j (hj:j<p.length),j<k→FX p[j]=false) ⟨rfl,fun j _ h=>by omega⟩ ?_
 rintro X k s hk ⟨rfl,he⟩ hX
 dsimp only
 refine bI (fun hlt=>?_) fun hge=>?_
 ·have hlt:k<p.length:=by omega
  rw[aC (r:=(Sy.int .i64).li) hlt]
  refine bI (fun h8=>is ?_) fun h8=>?_
  ·rw[e,if_pos (.inr (nQ hlt (decide_eq_true (by omega))))]
  ·exact hX _ hlt ⟨by rw[bH hlt (by omega)],EY hlt he (decide_eq_false (by omega))⟩
 have:k=p.length:=by omega
 subst this
 have hA:p.any FX=false:=rY fun j hj=>he j hj hj
 rw[hA,if_neg (by simp;omega)] at e
 clear he hX hge hk
 refine aX p.length (fun k s=>s=((k:Int),())∧∀ j (hj:j<p.length),j<k→M6 p p[j]=false) ⟨rfl,fun j _ h=>by omega⟩ ?_
 rintro X k s hk ⟨rfl,he⟩ hX
 dsimp only
 refine bI (fun hlt=>?_) fun hge=>?_
 ·have hlt:k<p.length:=by omega
  have h0:0<p.length:=by omega
  rw[aC (r:=(Sy.int .i64).li) hlt]
  refine bI (fun h8=>is ?_) fun h8=>?_
  ·rw[e,if_pos (nQ hlt (decide_eq_true (by omega)))]
  ·rw[aC (r:=(Sy.int .i64).li) hlt]
   refine (aC (r:=(Sy.int .i64).li) (k:=0) h0 _).mpr ?_
   rw[gU h0]
   refine sP (fun h9=>is ?_) fun h9=>?_
   ·rw[e,if_pos (nQ hlt (decide_eq_true (by omega)))]
   ·exact hX _ hlt ⟨by rw[bH hlt (by omega)],EY hlt he (decide_eq_false (by omega))⟩
 have:k=p.length:=by omega
 subst this
 have hB:p.any (M6 p)=false:=rY fun j hj=>he j hj hj
 rw[hB,if_neg (by simp)] at e
 clear he hX hge hk
 refine aX p.length (fun k s=>s=((k:Int),())∧∀ j (hj:j<p.length),j<k→M7 p[j]=false) ⟨rfl,fun j _ h=>by omega⟩ ?_
 rintro X k s hk ⟨rfl,he⟩ hX
 dsimp only
 refine bI (fun hlt=>?_) fun hge=>?_
 ·have hlt:k<p.length:=by omega
  have h8:p[k].length≤8:=by
   have:=List.any_eq_false.1 hA p[k] (List.getElem_mem hlt)
   simp[FX] at this
   exact this
  refine aX p[k].length (fun i s=>s=((i:Int),())∧∀ j (hj:j<p[k].length),j<i→decide (p[k][j]<0∨100000<p[k][j])=false) ⟨rfl,fun j _ h=>by omega⟩ ?_
  rintro Y i s hi ⟨rfl,hei⟩ hY
  dsimp only
  rw[aC (r:=(Sy.int .i64).li) hlt]
  refine bI (fun hlti=>?_) fun hgei=>?_
  ·have hlti:i<p[k].length:=by omega
   rw[aC (r:=(Sy.int .i64).li) hlt,aC (r:=.int .i64) hlti]
   have bad:(p[k][i]<0∨100000<p[k][i])→eX p=9:=fun h=>by rw[e,if_pos (nQ hlt (nQ (f:=fun n=>decide (n<0∨100000<n)) hlti (decide_eq_true h)))]
   refine bI (fun h=>is (bad (.inl h))) fun h1=>?_
   rw[aC (r:=(Sy.int .i64).li) hlt,aC (r:=.int .i64) hlti]
   refine bI (fun h=>is (bad (.inr h))) fun h2=>?_
   exact hY _ hlti ⟨by rw[bH hlti (by omega)],EY (f:=fun n=>decide (n<0∨100000<n)) hlti hei (decide_eq_false (by omega))⟩
  ·refine hX _ hlt ⟨by rw[bH hlt (by omega)],EY hlt he (rY fun j hj=>hei j hj (by omega))⟩
 have:k=p.length:=by omega
 subst this
 have hC:p.any M7=false:=rY fun j hj=>he j hj hj
 rw[hC,if_neg (by simp)] at e
 exact is e
end Go.Pv
namespace Go.Pv
open Go Go.Proofs
section
variable (p : List (List Int)) (cols : Nat) (len : List Int → Int) (bnd : List Int → Nat → Int) (c : Int)
def iT (pre:List Int) (F:List Int→bY→Bool×bY) (o:Bool×bY) (j:Nat):Bool×bY:=if o.1=true then (if (j:Int)∈pre then o else F (pre++[(j:Int)]) o.2) else o
def j9:Nat→List Int→bY→Bool×bY
 | 0,_,s=>(false,s)
 | f+1,pre,s =>
  if pre.length=p.length then (true,if s.found=false∨len pre<s.span then { s with found:=true,span:=len pre,order:=pre } else s)
  else if s.found=true∧∃ i,i<cols∧s.span≤bnd pre i then (true,s)
  else if s.left≤0 then (false,{ s with left:=s.left-c })
  else (List.range p.length).foldl (iT pre (j9 f)) (true,{ s with left:=s.left-1 })
end
section
variable {p : List (List Int)} {cols : Nat} {len : List Int → Int} {bnd : List Int → Nat → Int} {c : Int}
theorem vM (pre:List Int) (F:List Int→bY→Bool×bY):∀ (l:List Nat) (o:Bool×bY),o.1=false→l.foldl (iT pre F) o=o
 | [],_,_=>rfl
 | j::l,o,h=>by
  have e:iT pre F o j=o:=by unfold iT;rw[if_neg (by rw[h];simp)]
  rw[List.foldl_cons,e,vM pre F l o h]
theorem DS (pre:List Int) (F:List Int→bY→Bool×bY) (F':List Int→bY→Option bY) (hF:∀ q s,F' q s=if (F q s).1=true then some (F q s).2 else none):∀ (l:List Nat) (o:Bool×bY),
  l.foldl (fun (o:Option bY) (j:Nat)=>o.bind fun s=>if (j:Int)∈pre then some s else F' (pre++[(j:Int)]) s) (if o.1=true then some o.2 else none)=if (l.foldl (iT pre F) o).1=true then some (l.foldl (iT pre F) o).2 else none
 | [],o=>rfl
 | j::l,o=>by
  rw[List.foldl_cons,List.foldl_cons,←DS pre F F' hF l (iT pre F o j)]
  congr 1
  unfold iT
  by_cases h:o.1=true
  ·rw[if_pos h,if_pos h]
   by_cases hj:(j:Int)∈pre
   ·rw[if_pos hj,if_pos h]
    show (if (j:Int)∈pre then _ else _)=_
    rw[if_pos hj]
   ·rw[if_neg hj]
    show (if (j:Int)∈pre then _ else _)=_
    rw[if_neg hj,hF]
  ·rw[if_neg h,if_neg h,if_neg h];rfl
theorem ET:∀ (f:Nat) (pre:List Int) (s:bY),mE p cols len bnd f pre s=if (j9 p cols len bnd c f pre s).1=true then some (j9 p cols len bnd c f pre s).2 else none
 | 0,pre,s=>rfl
 | f+1,pre,s=>by
  unfold mE j9
  split
  ·rfl
  split
  ·rfl
  split
  ·rfl
  ·exact DS pre (j9 p cols len bnd c f) (mE p cols len bnd f) (ET f) (List.range p.length) (true,{ s with left:=s.left-1 })
theorem yI {pre:List Int} {F:List Int→bY→Bool×bY} (hF:∀ q s,0≤s.left→(F q s).1=true→0≤(F q s).2.left∧(F q s).2.left≤s.left):∀ (l:List Nat) (o:Bool×bY),0≤o.2.left→(l.foldl (iT pre F) o).1=true→0≤(l.foldl (iT pre F) o).2.left∧(l.foldl (iT pre F) o).2.left≤o.2.left
 | [],o,h,_=>⟨h,Int.le_refl _⟩
 | j::l,o,h,ht=>by
  rw[List.foldl_cons] at ht ⊢
  have h1:(iT pre F o j).1=true:=by
   cases hb:(iT pre F o j).1 with
   | true=>rfl
   | false=>rw[vM pre F l _ hb,hb] at ht;cases ht
  have h2:0≤(iT pre F o j).2.left∧(iT pre F o j).2.left≤o.2.left:=by
   unfold iT at h1 ⊢
   split
   ·rename_i ho
    rw[if_pos ho] at h1
    split
    ·exact ⟨h,Int.le_refl _⟩
    ·rename_i hj
     rw[if_neg hj] at h1
     exact hF _ _ h h1
   ·exact ⟨h,Int.le_refl _⟩
  have:=yI hF l (iT pre F o j) h2.1 ht
  omega
theorem rV:∀ (f:Nat) (pre:List Int) (s:bY),0≤s.left→(j9 p cols len bnd c f pre s).1=true→0≤(j9 p cols len bnd c f pre s).2.left∧(j9 p cols len bnd c f pre s).2.left≤s.left
 | 0,pre,s,h,ht=>by cases ht
 | f+1,pre,s,h,ht=>by
  unfold j9 at ht ⊢
  split
  ·dsimp only;split<;>exact ⟨h,Int.le_refl _⟩
  rename_i h1
  rw[if_neg h1] at ht
  split
  ·exact ⟨h,Int.le_refl _⟩
  rename_i h2
  rw[if_neg h2] at ht
  split
  ·rename_i h3;rw[if_pos h3] at ht;cases ht
  rename_i h3
  rw[if_neg h3] at ht
  have:=yI (fun q s h ht=>rV f q s h ht) (List.range p.length) (true,{ s with left:=s.left-1 }) (by dsimp only;omega) ht
  dsimp only at this ⊢
  omega
def n2 (p:List (List Int)) (pre:List Int) (F:List Int→bY→Bool×bY) (o:Bool×bY) (k:Nat):Bool×bY:=(List.range k).foldl (iT pre F) o
theorem oN (pre:List Int) (F:List Int→bY→Bool×bY) (o:Bool×bY) (k:Nat):n2 p pre F o (k+1)=iT pre F (n2 p pre F o k) k:=by
 unfold n2;rw[List.range_succ,List.foldl_append];rfl
theorem wZ (pre:List Int) (F:List Int→bY→Bool×bY) (o:Bool×bY) {k n:Nat} (hk:k≤n) (h:(n2 p pre F o k).1=false):n2 p pre F o n=n2 p pre F o k:=by
 obtain ⟨d,rfl⟩:∃ d,n=k+d:=⟨n-k,by omega⟩
 induction d with
 | zero=>rfl
 | succ d ih =>
  have ih:=ih (by omega)
  rw[show k+(d+1)=(k+d)+1 by omega,oN,ih]
  unfold iT;rw[if_neg (by rw[h];simp)]
end
end Go.Pv
namespace Go.Pv
open Go Go.Proofs
theorem XI {P:Program} {t:TypeId} {zv:Value} {z b:Nat} (h:(P.info? t).map (fun i=>(i.zero,i.size,i.bytes))=some (some zv,z,b)):∃ i,P.info? t=some i∧i.zero=some zv∧i.size=z∧i.bytes=b:=by
 simp only[Option.map_eq_some_iff,Prod.mk.injEq] at h
 obtain ⟨i,h1,h2,h3,h4⟩:=h
 exact ⟨i,h1,h2,h3,h4⟩
def TJ:Go.Shelf.Ren:=⟨fun|41=>34|n=>n,fun|23=>3|22=>23|n=>n,fun|n=>n⟩
theorem WL:SlLaysE0.n41 Tryz.prog TJ:={
 mixed:=bJ
 f41:=Exists.intro ("slices.Clone[[]int,int]") ⟨by decide,Tryz.func34.trans (congrArg some (by kernel_rfl))⟩
 t4:=by kernel_rfl
 a4:=fun _=>by kernel_rfl
 z4:=fun _=>by kernel_rfl
 v4:=fun _=>by kernel_rfl
 t22:=by kernel_rfl
 a22:=fun _=>by kernel_rfl
 z22:=fun _=>by kernel_rfl
 v22:=fun _=>by kernel_rfl }
theorem US:∃ i0,(Tryz.prog).info? (TJ.t 23)=some i0∧i0.zero=some (.int .i64 0)∧i0.size=1∧i0.bytes=8:=XI (by kernel_rfl)
theorem RQ:bX Tryz.prog 34 (xE 1 8) :=
 J4 WL US (fun _=>by kernel_rfl) (by decide) rfl (by decide) ⟨_,Tryz.func34,rfl,rfl⟩
def hM (a0:List Int) (a1:List (List Int)) (a2:Bool) (a3:Int) (a4:List Int) (a5:Int):List T:=[.aQ [T.sl false (List.map (Sy.int .i64).enc a0)],.aQ [],.agg [T.sl false (List.map (Sy.int .i64).li.enc a1)],.agg [.v (.bool a2)],.agg [.v (.int .i64 a3)],.agg [T.sl false (List.map (Sy.int .i64).enc a4)],.agg [.v (.int .i64 a5)]]
noncomputable def E6 (g_srchK:List T→Option T):Env:=Env.of [(5000000023,.mark),(33,.pure qI),(21,.pure kK),(35,.pure qH),(36,.pure oD),(34,.dup 1 8),(32,.CT [37,4,3,23,3] g_srchK)]
def FP:FuncId→Hint:=fun f=>match f == 32 with|true=>⟨fun r=>match r == 10 with|true=>.inv [.val 45 false (.int .i64)]|false=>match r == 19 with|true=>.inv [.val 65 false (.int .i64),.box 0 (.li (.li (.int .i64))),.box 1 .bool,.box 2 (.int .i64),.box 3 (.li (.int .i64)),.box 4 (.int .i64)]|false=>.none,fun i j=>match i == 4&&j == 5 with|true=>some [.val 10 false (.int .i64)]|false=>none,fun _=>none⟩|false=>bK
theorem MK (g_srchK:List T→Option T) (fn_srchK:QP Tryz.prog 32 (.CT [37,4,3,23,3] g_srchK)):aM Tryz.prog (E6 g_srchK):=.cons (x:=.mark) trivial (.cons RR (.cons C8 (.cons RN (.cons IH (aM.cons (x:=.dup 1 8) RQ (aM.cons (x:=.CT [37,4,3,23,3] g_srchK) fn_srchK (.nil _)))))))
def MO (g_srchK:List T→Option T) (a0:List Int) (a1:List (List Int)) (a2:Bool) (a3:Int) (a4:List Int) (a5:Int) (R:T→Prop):Prop :=
 aN [(false,(Sy.int IntKind.i64).li.li)]
 (qI
 [T.sl false (List.map (Sy.int IntKind.i64).li.enc a1),
 T.sl false (List.map (Sy.int IntKind.i64).enc a0)])
 fun (y0:List (List Int)) =>
 aB
 (decide
 ((↑(List.map (Sy.int IntKind.i64).enc a0).length:Int) =
 (↑(List.map (Sy.int IntKind.i64).li.enc a1).length:Int)))
 (vN (Int×PUnit)
 (fun (X1:Int×PUnit→Prop) =>
 aB (decide (0<(↑(List.map (Sy.int IntKind.i64).li.enc a1).length:Int)))
 (aH (Sy.int IntKind.i64).li (List.map (Sy.int IntKind.i64).li.enc a1) 0
 fun (y2:List Int) =>
 aN [(false,Sy.int IntKind.i64)]
 (kK
 [T.sl false (List.map (Sy.int IntKind.i64).li.enc y0),
 T.v (.int .i64 (IntKind.i64.wrap ((↑(List.map (Sy.int IntKind.i64).enc y2).length:Int)-1)))])
 fun (y3:Int)=>X1 (y3,()))
 (X1 (0,())))
 fun (s4:Int×PUnit) =>
 aB (!a2)
 (cQ
 (((List.map (Sy.int IntKind.i64).enc a0).all fun (r:List T)=>decide (r.length=1)) &&
 decide ((List.map (Sy.int IntKind.i64).enc a0).length*8≤140737488355328) &&
 decide ((List.map (Sy.int IntKind.i64).enc a0).length≤140737488355328))
 (R
 (T.aQ
 [T.agg [T.sl false (List.map (Sy.int IntKind.i64).li.enc a1)],
 T.agg [T.v (.bool true)],
 T.agg [T.v (.int .i64 s4.1)],
 T.agg [T.sl false (List.map (Sy.int IntKind.i64).enc a0)],
 T.agg [T.v (.int .i64 a5)],T.v (.bool true)])))
 (aB (decide (s4.1<a3))
 (cQ
 (((List.map (Sy.int IntKind.i64).enc a0).all fun (r:List T)=>decide (r.length=1)) &&
 decide ((List.map (Sy.int IntKind.i64).enc a0).length*8≤140737488355328) &&
 decide ((List.map (Sy.int IntKind.i64).enc a0).length≤140737488355328))
 (R
 (T.aQ
 [T.agg [T.sl false (List.map (Sy.int IntKind.i64).li.enc a1)],
 T.agg [T.v (.bool true)],
 T.agg [T.v (.int .i64 s4.1)],
 T.agg [T.sl false (List.map (Sy.int IntKind.i64).enc a0)],
 T.agg [T.v (.int .i64 a5)],T.v (.bool true)])))
 (R
 (T.aQ
 [T.agg [T.sl false (List.map (Sy.int IntKind.i64).li.enc a1)],
 T.agg [T.v (.bool a2)],T.agg [T.v (.int .i64 a3)],
 T.agg [T.sl false (List.map (Sy.int IntKind.i64).enc a4)],
 T.agg [T.v (.int .i64 a5)],T.v (.bool true)]))))
 (aH (Sy.int IntKind.i64).li (List.map (Sy.int IntKind.i64).li.enc a1) 0
 fun (y5:List Int) =>
 bM (Int×PUnit)
 (fun (X6:Int×PUnit→Prop) (s7:Int×PUnit) =>
 aB (decide (s7.1<(↑(List.map (Sy.int IntKind.i64).enc y5).length:Int)))
 (aB a2
 (aN [(false,Sy.int IntKind.i64)]
 (qH
 [T.sl false (List.map (Sy.int IntKind.i64).li.enc a1),
 T.sl false (List.map (Sy.int IntKind.i64).enc a0),
 T.sl false (List.map (Sy.int IntKind.i64).li.enc y0),
 T.v (.int .i64 s7.1)])
 fun (y8:Int) =>
 aB (decide (a3≤y8))
 (R
 (T.aQ
 [T.agg [T.sl false (List.map (Sy.int IntKind.i64).li.enc a1)],
 T.agg [T.v (.bool a2)],
 T.agg [T.v (.int .i64 a3)],
 T.agg [T.sl false (List.map (Sy.int IntKind.i64).enc a4)],
 T.agg [T.v (.int .i64 a5)],T.v (.bool true)]))
 (X6 (IntKind.i64.wrap (s7.1+1),())))
 (X6 (IntKind.i64.wrap (s7.1+1),())))
 (aB (decide (IntKind.i64.wrap (a5-1)<0))
 (R
 (T.aQ
 [T.agg [T.sl false (List.map (Sy.int IntKind.i64).li.enc a1)],
 T.agg [T.v (.bool a2)],
 T.agg [T.v (.int .i64 a3)],
 T.agg [T.sl false (List.map (Sy.int IntKind.i64).enc a4)],
 T.agg [T.v (.int .i64 (IntKind.i64.wrap (a5-1)))],
 T.v (.bool false)]))
 (dH (Sy.int IntKind.i64).li (List.map (Sy.int IntKind.i64).li.enc a1)
 fun (y9:List (List Int)) =>
 dH (Sy.int IntKind.i64) (List.map (Sy.int IntKind.i64).enc a4)
 fun (y10:List Int) =>
 bM (Int×List (List Int)×Bool×Int×List Int×Int×PUnit)
 (fun (X11:Int×List (List Int)×Bool×Int×List Int×Int×PUnit→Prop)
 (s12:Int×List (List Int)×Bool×Int×List Int×Int×PUnit) =>
 aB (decide (s12.1<(↑(List.map (Sy.int IntKind.i64).li.enc a1).length:Int)))
 (aN [(false,Sy.bool)]
 (oD
 [T.sl false (List.map (Sy.int IntKind.i64).enc a0),
 T.v (.int .i64 s12.1)])
 fun (y13:Bool) =>
 aB (!y13)
 (cQ
 (((List.map (Sy.int IntKind.i64).enc a0).all fun (r:List T) =>
 decide (r.length=1)) &&
 decide
 ((List.map (Sy.int IntKind.i64).enc a0).length*8≤140737488355328) &&
 decide ((List.map (Sy.int IntKind.i64).enc a0).length≤140737488355328))
 (cQ
 (decide
 (((List.map (Sy.int IntKind.i64).enc a0).length+1)*8 ≤
 140737488355328) &&
 decide ((List.map (Sy.int IntKind.i64).enc a0).length+1≤140737488355328))
 (aN
 [(true,(Sy.int IntKind.i64).li.li),(true,Sy.bool),
 (true,Sy.int IntKind.i64),(true,(Sy.int IntKind.i64).li),
 (true,Sy.int IntKind.i64),(false,Sy.bool)]
 (g_srchK
 [T.aQ
 [T.sl false
 (List.map (Sy.int IntKind.i64).enc a0 ++
 [[T.v (.int .i64 s12.1)]])],
 T.aQ [],
 T.agg
 [T.sl false (List.map (Sy.int IntKind.i64).li.enc s12.2.1)],
 T.agg [T.v (.bool s12.2.2.1)],
 T.agg [T.v (.int .i64 s12.2.2.2.1)],
 T.agg
 [T.sl false
 (List.map (Sy.int IntKind.i64).enc s12.2.2.2.2.1)],
 T.agg
 [T.v (.int .i64 s12.2.2.2.2.2.1)]])
 fun (y14:List (List Int)×Bool×Int×List Int×Int×Bool) =>
 aB (!y14.2.2.2.2.2)
 (R
 (T.aQ
 [T.agg
 [T.sl false (List.map (Sy.int IntKind.i64).li.enc y14.1)],
 T.agg [T.v (.bool y14.2.1)],
 T.agg [T.v (.int .i64 y14.2.2.1)],
 T.agg
 [T.sl false
 (List.map (Sy.int IntKind.i64).enc y14.2.2.2.1)],
 T.agg [T.v (.int .i64 y14.2.2.2.2.1)],
 T.v (.bool false)]))
 (dH (Sy.int IntKind.i64).li
 (List.map (Sy.int IntKind.i64).li.enc y14.1)
 fun (y15:List (List Int)) =>
 dH (Sy.int IntKind.i64)
 (List.map (Sy.int IntKind.i64).enc y14.2.2.2.1)
 fun (y16:List Int) =>
 X11
 (IntKind.i64.wrap (s12.1+1),y15,y14.2.1,y14.2.2.1,y16,
 y14.2.2.2.2.1,())))))
 (dH (Sy.int IntKind.i64).li
 (List.map (Sy.int IntKind.i64).li.enc s12.2.1) fun (y17:List (List Int)) =>
 dH (Sy.int IntKind.i64)
 (List.map (Sy.int IntKind.i64).enc s12.2.2.2.2.1)
 fun (y18:List Int) =>
 X11
 (IntKind.i64.wrap (s12.1+1),y17,s12.2.2.1,s12.2.2.2.1,y18,
 s12.2.2.2.2.2.1,())))
 (R
 (T.aQ
 [T.agg [T.sl false (List.map (Sy.int IntKind.i64).li.enc s12.2.1)],
 T.agg [T.v (.bool s12.2.2.1)],
 T.agg [T.v (.int .i64 s12.2.2.2.1)],
 T.agg
 [T.sl false (List.map (Sy.int IntKind.i64).enc s12.2.2.2.2.1)],
 T.agg [T.v (.int .i64 s12.2.2.2.2.2.1)],
 T.v (.bool true)])))
 (0,y9,a2,a3,y10,IntKind.i64.wrap (a5-1),()))))
 (0,()))
theorem JM (g_srchK:List T→Option T) (a0:List Int) (a1:List (List Int)) (a2:Bool) (a3:Int) (a4:List Int) (a5:Int) (R):B2 bP Tryz.prog (E6 g_srchK) FP 8 32 (hM a0 a1 a2 a3 a4 a5) R=MO g_srchK a0 a1 a2 a3 a4 a5 R:=by kernel_rfl
def NL (p:List (List Int)) (r:Bool×bY):T:=.aQ [.agg [T.sl false (List.map (Sy.int .i64).li.enc p)],.agg [.v (.bool r.2.found)],.agg [.v (.int .i64 r.2.span)],.agg [T.sl false (List.map (Sy.int .i64).enc r.2.order)],.agg [.v (.int .i64 r.2.left)],.v (.bool r.1)]
noncomputable def eH (c:Int) (p:List (List Int)) (pre:List Int) (s:bY):Bool×bY:=j9 p (p.getD 0 []).length (dU p (p.getD 0 []).length) (gL p (p.getD 0 []).length) c (p.length+1-pre.length) pre s
def QB (k:Nat) (p:List (List Int)) (pre:List Int) (left:Int):Bool:=D7 p pre&&(decide (0≤left)&&decide (left≤100000))&&decide (p.length<pre.length+k)
theorem pE {k:Nat} {p:List (List Int)} {pre:List Int} {left:Int} (h:QB k p pre left=true):D7 p pre=true∧0≤left∧left≤100000∧p.length<pre.length+k:=by
 unfold QB at h
 simp only[Bool.and_eq_true,decide_eq_true_eq] at h
 exact ⟨h.1.1,h.1.2.1,h.1.2.2,h.2⟩
noncomputable def j7 (k:Nat) (x:List Int×List (List Int)×Bool×Int×List Int×Int):Option T:=match QB k x.2.1 x.1 x.2.2.2.2.2 with
 | true=>some (NL x.2.1 (eH 1 x.2.1 x.1 ⟨x.2.2.2.2.2,x.2.2.1,x.2.2.2.1,x.2.2.2.2.1⟩))
 | false=>none
noncomputable def jA (k:Nat):List T→Option T:=gA (fun (x:List Int×List (List Int)×Bool×Int×List Int×Int)=>hM x.1 x.2.1 x.2.2.1 x.2.2.2.1 x.2.2.2.2.1 x.2.2.2.2.2) (j7 k)
theorem E3 (x y:List Int×List (List Int)×Bool×Int×List Int×Int) (h:hM x.1 x.2.1 x.2.2.1 x.2.2.2.1 x.2.2.2.2.1 x.2.2.2.2.2=hM y.1 y.2.1 y.2.2.1 y.2.2.2.1 y.2.2.2.2.1 y.2.2.2.2.2):x=y:=by
 obtain ⟨a0,a1,a2,a3,a4,a5⟩:=x
 obtain ⟨b0,b1,b2,b3,b4,b5⟩:=y
 unfold hM at h
 simp only[List.cons.injEq,T.aQ.injEq,T.agg.injEq,T.sl.injEq,T.v.injEq,Value.bool.injEq,Value.int.injEq,and_true,true_and] at h
 obtain ⟨h0,h1,h2,h3,h4,h5⟩:=h
 have h0:=map_inj (Sy.eJ (.int .i64)) h0
 have h1:=map_inj (Sy.eJ (Sy.int .i64).li) h1
 have h4:=map_inj (Sy.eJ (.int .i64)) h4
 subst h0 h1 h2 h3 h4 h5
 rfl
theorem vJ (k:Nat) (pre:List Int) (p:List (List Int)) (fd:Bool) (sp:Int) (o:List Int) (lf:Int):jA k (hM pre p fd sp o lf)=j7 k (pre,p,fd,sp,o,lf) :=
 WU (A:=fun (x:List Int×List (List Int)×Bool×Int×List Int×Int)=>hM x.1 x.2.1 x.2.2.1 x.2.2.2.1 x.2.2.2.2.1 x.2.2.2.2.2) E3 (pre,p,fd,sp,o,lf)
theorem IK {l:List Int} (h:l.length≤32):(((List.map (Sy.int .i64).enc l).all fun (r:List T)=>decide (r.length=1))&&decide (l.length*8≤140737488355328)&&decide (l.length≤140737488355328))=true:=by
 rw[decide_eq_true (by omega),decide_eq_true (by omega),Bool.and_true,Bool.and_true,List.all_eq_true]
 intro r hr
 obtain ⟨n,_,rfl⟩:=List.mem_map.1 hr
 rfl
theorem LV (k:Nat) (hK:pR Tryz.prog 32 (jA k)):pR Tryz.prog 32 (jA (k+1)) :=
 CU (E:=E6 (jA k)) (Hs:=FP) (MK _ hK) bJ bO (aP rfl) 8 ⟨_,_,Tryz.func32,rfl⟩ fun x r h=>by
  obtain ⟨pre,p,fd,span,ord,left⟩:=x
  unfold j7 at h
  split at h
  case h_2=>cases h
  rename_i hok
  cases h
  dsimp only at hok ⊢
  rw[JM]
  obtain ⟨hokL,hl0,hl1,hkk⟩:=pE hok
  have H:=dQ hokL
  have hl:=H.len;have hn:=H.n;have hm8:=H.m8
  unfold MO
  rw[UI hokL,EB]
  simp only[List.length_map]
  have is:∀ {q:Bool×bY},eH 1 p pre ⟨left,fd,span,ord⟩=q→NL p q=NL p (eH 1 p pre ⟨left,fd,span,ord⟩):=fun h=>by rw[h]
  refine bI (fun hfull=>?_) fun hfull=>?_
  ·have hfull:pre.length=p.length:=by omega
   have e:eH 1 p pre ⟨left,fd,span,ord⟩=(true,if fd=false∨dU p (p.getD 0 []).length pre<span then ⟨left,true,dU p (p.getD 0 []).length pre,pre⟩ else ⟨left,fd,span,ord⟩):=by
    unfold eH
    rw[show p.length+1-pre.length=0+1 by omega,j9,if_pos hfull]
   refine lY (dU p (p.getD 0 []).length pre,()) (fun Z hZ=>?_) ?_
   ·refine bI (fun h0=>(aC (r:=(Sy.int .i64).li) (k:=0) (by omega) _).mpr ?_) fun h0=>?_
    ·have h0:0<p.length:=by omega
     have hpos:=H.pos h0
     rw[gU h0,kS hpos (by omega),vH]
     unfold iO
     dsimp only
     rw[rG H (by omega) (by omega),Int.toNat_natCast,←IP H.mA.1 H.diff.2]
     exact dA (s:=BE) (y:=dU p (p.getD 0 []).length pre) rfl hZ
    ·have h0:p=[]:=List.eq_nil_of_length_eq_zero (by omega)
     have h1:pre=[]:=List.eq_nil_of_length_eq_zero (by omega)
     subst h0 h1
     exact hZ
   dsimp only
   have hreq:=IK (l:=pre) (by omega)
   cases hfd:fd with
   | false=>rw[hfd] at is;exact ⟨hreq,is (q:=(true,⟨left,true,dU p (p.getD 0 []).length pre,pre⟩)) (by rw[hfd] at e;rw[e,if_pos (.inl rfl)])⟩
   | true =>
    rw[hfd] at is e
    refine bI (fun h=>⟨hreq,is (q:=(true,⟨left,true,dU p (p.getD 0 []).length pre,pre⟩)) (by rw[e,if_pos (.inr h)])⟩) fun h=>is (q:=(true,⟨left,true,span,ord⟩)) (by rw[e,if_neg (by simpa using h)])
  have hfull:¬ pre.length=p.length:=by omega
  obtain ⟨f,hf⟩:∃ f,p.length+1-pre.length=f+1:=⟨p.length-pre.length,by omega⟩
  have hff:f=p.length-pre.length:=by omega
  have hp0:0<p.length:=by omega
  have e:eH 1 p pre ⟨left,fd,span,ord⟩=if fd=true∧∃ i,i<(p.getD 0 []).length∧span≤gL p (p.getD 0 []).length pre i then (true,⟨left,fd,span,ord⟩)
    else if left≤0 then (false,⟨left-1,fd,span,ord⟩)
    else n2 p pre (j9 p (p.getD 0 []).length (dU p (p.getD 0 []).length) (gL p (p.getD 0 []).length) 1 f) (true,⟨left-1,fd,span,ord⟩) p.length:=by
   unfold eH
   rw[hf,j9,if_neg hfull];rfl
  have hrec:∀ (j:Nat) (s:bY),j9 p (p.getD 0 []).length (dU p (p.getD 0 []).length) (gL p (p.getD 0 []).length) 1 f (pre++[(j:Int)]) s=eH 1 p (pre++[(j:Int)]) s:=fun j s=>by
   unfold eH
   rw[show p.length+1-(pre++[(j:Int)]).length=f by rw[List.length_append,List.length_singleton];omega]
  generalize j9 p (p.getD 0 []).length (dU p (p.getD 0 []).length) (gL p (p.getD 0 []).length) 1 f=F at *
  refine (aC (r:=(Sy.int .i64).li) (k:=0) hp0 _).mpr ?_
  rw[gU hp0]
  refine aX (p.getD 0 []).length (fun q s=>s=((q:Int),())∧(fd=true→∀ i,i<q→¬ span≤gL p (p.getD 0 []).length pre i)) ⟨rfl,fun _ i h=>by omega⟩ ?_
  rintro X q s hq ⟨rfl,hno⟩ hX
  dsimp only
  refine bI (fun hlt=>?_) fun hge=>?_
  ·have hlt:q<(p.getD 0 []).length:=by omega
   rw[bH hlt (by omega)]
   cases hfd:fd with
   | false=>exact hX _ hlt ⟨rfl,fun h=>by rw[hfd] at h;cases h⟩
   | true =>
    rw[hfd] at is e hno
    have hb:qH [T.sl false (List.map (Sy.int .i64).li.enc p),T.sl false (List.map (Sy.int .i64).enc pre),T.sl false (List.map (Sy.int .i64).li.enc (eY p (List.replicate (p.getD 0 []).length 0) pre)),T.v (.int .i64 (q:Int))]=some (Sh.enc G8 (gL p (p.getD 0 []).length pre q)):=by
     rw[KP]
     unfold nB QA
     dsimp only
     rw[hokL,decide_eq_true (show (0:Int)≤q by omega),decide_eq_true (show (q:Int)<(p.getD 0 []).length by omega),decide_eq_true rfl,Int.toNat_natCast];rfl
    refine dA (s:=G8) (y:=gL p (p.getD 0 []).length pre q) hb ?_
    refine bI (fun h=>is (q:=(true,⟨left,true,span,ord⟩)) (by rw[e,if_pos ⟨rfl,q,hlt,h⟩])) fun h=>hX _ hlt ⟨rfl,fun _ i hi=>?_⟩
    by_cases hiq:i<q
    ·exact hno rfl i hiq
    ·have:i=q:=by omega
     subst this;exact h
  have:q=(p.getD 0 []).length:=by omega
  subst this
  rw[if_neg (fun h=>by
   obtain ⟨h1,i,hi,h2⟩:=h
   exact hno h1 i hi h2)] at e
  clear hX hno
  have hw:IntKind.i64.wrap (left-1)=left-1:=bN _ (by omega) (by omega)
  rw[hw]
  refine bI (fun h=>is (q:=(false,⟨left-1,fd,span,ord⟩)) (by rw[e,if_pos (by omega)])) fun h=>?_
  rw[if_neg (by omega)] at e
  rw[cA rfl,cA rfl]
  refine aX p.length (fun j s=>∃ t:bY,n2 p pre F (true,⟨left-1,fd,span,ord⟩) j=(true,t)∧0≤t.left∧t.left≤100000∧s=((j:Int),p,t.found,t.span,t.order,t.left,())) ⟨_,rfl,by dsimp only;omega,by dsimp only;omega,rfl⟩ ?_
  rintro X j s hj ⟨t,ht,t0,t1,rfl⟩ hX
  dsimp only
  refine bI (fun hlt=>?_) fun hge=>?_
  ·have hlt:j<p.length:=by omega
   have hnx:=oN (p:=p) pre F (true,⟨left-1,fd,span,ord⟩) j
   rw[ht] at hnx
   unfold iT at hnx
   rw[if_pos rfl] at hnx
   rw[yG]
   simp only[nD]
   rw[sJ,bH hlt (by omega)]
   refine sP (fun hnm=>?_) fun hm=>?_
   ·rw[if_neg hnm,hrec] at hnx
    refine ⟨IK (by omega),by rw[Bool.and_eq_true,decide_eq_true_eq,decide_eq_true_eq];omega,?_⟩
    have hd2:Diff p.length (pre++[(j:Int)]):=H.diff.snoc hlt hnm
    have hokR:QB k p (pre++[(j:Int)]) t.left=true:=by
     have h1:D7 p (pre++[(j:Int)])=true:=by
      unfold D7 at hokL ⊢
      rw[Bool.and_eq_true] at hokL ⊢
      exact ⟨hokL.1,rO.2 hd2⟩
     unfold QB
     rw[h1,decide_eq_true t0,decide_eq_true t1,decide_eq_true (by rw[List.length_append,List.length_singleton];omega)];rfl
    have hcall:jA k (hM (pre++[(j:Int)]) p t.found t.span t.order t.left)=some (NL p (eH 1 p (pre++[(j:Int)]) t)):=by
     rw[vJ]
     unfold j7
     dsimp only
     rw[hokR]
    have hA:hM (pre++[(j:Int)]) p t.found t.span t.order t.left=[T.aQ [T.sl false (List.map (Sy.int .i64).enc pre++[[T.v (.int .i64 (j:Int))]])],T.aQ [],T.agg [T.sl false (List.map (Sy.int .i64).li.enc p)],T.agg [T.v (.bool t.found)],T.agg [T.v (Value.int .i64 t.span)],T.agg [T.sl false (List.map (Sy.int .i64).enc t.order)],T.agg [T.v (Value.int .i64 t.left)]]:=by
     unfold hM;rw[List.map_append];rfl
    rw[hA] at hcall
    generalize hq':eH 1 p (pre++[(j:Int)]) t=q at hcall hnx
    refine dA (s:=[(true,(Sy.int .i64).li.li),(true,.bool),(true,.int .i64),(true,(Sy.int .i64).li),(true,.int .i64),(false,.bool)]) (y:=(p,q.2.found,q.2.span,q.2.order,q.2.left,q.1)) hcall ?_
    dsimp only
    cases hb:q.1 with
    | false =>
     rw[show (T.v (.bool false))=T.v (.bool q.1) by rw[hb]]
     refine is (q:=q) ?_
     rw[e,wZ pre F _ (show j+1≤p.length by omega) (by rw[hnx,hb]),hnx]
    | true =>
     show dH _ _ _
     rw[cA rfl,cA rfl]
     have hlf:0≤q.2.left∧q.2.left≤t.left:=by
      rw[←hq']
      exact rV _ _ _ t0 (by show (eH 1 p (pre++[(j:Int)]) t).1=true;rw[hq',hb])
     exact hX _ hlt ⟨q.2,by rw[hnx,←hb],hlf.1,by omega,rfl⟩
   ·rw[if_pos hm] at hnx
    rw[cA rfl,cA rfl]
    exact hX _ hlt ⟨t,hnx,t0,t1,rfl⟩
  ·have:j=p.length:=by omega
   subst this
   exact is (q:=(true,t)) (by rw[e,ht])
theorem DA:∀ k:Nat,pR Tryz.prog 32 (jA k)
 | 0=>CU (E:=Env.of []) (Hs:=FP) (.nil _) bJ bO (aP rfl) 8 ⟨_,_,Tryz.func32,rfl⟩ fun x r h=>by
  unfold j7 at h
  split at h
  case h_2=>cases h
  rename_i hok
  obtain ⟨h1,_,_,h2⟩:=pE hok
  have:=(dQ h1).len
  omega
 | k+1=>LV k (DA k)
end Go.Pv
namespace Go.Pv
open Go Go.Proofs
noncomputable def E4 (g_explK:List T→Option T):Env:=Env.of [(64,.pure mP),(65,.pure mO),(66,.pure kJ),(40,.HB g_explK)]
def FN:FuncId→Hint:=fM 40 [(9,.inv [.val 6 false (.int .i64)]),(17,.inv [.val 7 false (.int .i64),.box 0 aE])] (fun _=>bK)
theorem MF (g_explK:List T→Option T) (fn_explK:QP Tryz.prog 40 (.HB g_explK)):aM Tryz.prog (E4 g_explK):=.cons NZ (.cons NV (.cons C7 (aM.cons (x:=.HB g_explK) fn_explK (.nil _))))
def MN (g_explK:List T→Option T) (a0:a6) (a1:List Int) (R:T→Prop):Prop :=
 aB
 (decide
 ((↑(List.map (Sy.int IntKind.i64).enc a1).length:Int) =
 (↑(List.map (Sy.int IntKind.i64).li.enc a0.1).length:Int)))
 (aN [(false,Sy.int IntKind.i64)]
 (mP
 [T.sl false (List.map (Sy.int IntKind.i64).li.enc a0.1),
 T.sl false (List.map (Sy.int IntKind.i64).enc a1)])
 fun (y0:Int) =>
 aB (!a0.2.2.2.2)
 (cQ
 (dM 1 (List.map (Sy.int IntKind.i64).enc a1)&&true &&
 decide ((List.map (Sy.int IntKind.i64).enc a1).length*8≤140737488355328) &&
 decide ((List.map (Sy.int IntKind.i64).enc a1).length≤140737488355328))
 (R
 (T.aQ
 [T.agg
 [T.sl false (List.map (Sy.int IntKind.i64).li.enc a0.1),
 T.v (.int .i64 a0.2.1),
 T.sl false (List.map (Sy.int IntKind.i64).enc a1),
 T.v (.int .i64 y0),T.v (.bool true)],
 T.v (.bool true)])))
 (aB (decide (y0<a0.2.2.2.1))
 (cQ
 (dM 1 (List.map (Sy.int IntKind.i64).enc a1)&&true &&
 decide ((List.map (Sy.int IntKind.i64).enc a1).length*8≤140737488355328) &&
 decide ((List.map (Sy.int IntKind.i64).enc a1).length≤140737488355328))
 (R
 (T.aQ
 [T.agg
 [T.sl false (List.map (Sy.int IntKind.i64).li.enc a0.1),
 T.v (.int .i64 a0.2.1),
 T.sl false (List.map (Sy.int IntKind.i64).enc a1),
 T.v (.int .i64 y0),T.v (.bool true)],
 T.v (.bool true)])))
 (R (T.aQ [a8 true aE a0,T.v (.bool true)]))))
 (bM (Int×PUnit)
 (fun (X1:Int×PUnit→Prop) (s2:Int×PUnit) =>
 aH (Sy.int IntKind.i64).li (List.map (Sy.int IntKind.i64).li.enc a0.1) 0
 fun (y3:List Int) =>
 aB (decide (s2.1<(↑(List.map (Sy.int IntKind.i64).enc y3).length:Int)))
 (aB a0.2.2.2.2
 (aN [(false,Sy.int IntKind.i64)]
 (mO
 [T.sl false (List.map (Sy.int IntKind.i64).li.enc a0.1),
 T.sl false (List.map (Sy.int IntKind.i64).enc a1),
 T.v (.int .i64 s2.1)])
 fun (y4:Int) =>
 aB (decide (a0.2.2.2.1≤y4))
 (R (T.aQ [a8 true aE a0,T.v (.bool true)]))
 (X1 (IntKind.i64.wrap (s2.1+1),())))
 (X1 (IntKind.i64.wrap (s2.1+1),())))
 (aB (decide (a0.2.1=0))
 (R (T.aQ [a8 true aE a0,T.v (.bool false)]))
 (dH (Sy.int IntKind.i64).li (List.map (Sy.int IntKind.i64).li.enc a0.1)
 fun (y5:List (List Int)) =>
 dH (Sy.int IntKind.i64) (List.map (Sy.int IntKind.i64).enc a0.2.2.1)
 fun (y6:List Int) =>
 bM (Int×a6×PUnit)
 (fun (X7:Int×a6×PUnit→Prop)
 (s8:Int×a6×PUnit) =>
 aB
 (decide (s8.1<(↑(List.map (Sy.int IntKind.i64).li.enc s8.2.1.1).length:Int)))
 (aN [(false,Sy.bool)]
 (kJ
 [T.sl false (List.map (Sy.int IntKind.i64).enc a1),
 T.v (.int .i64 s8.1)])
 fun (y9:Bool) =>
 aB (!y9)
 (cQ
 (dM 1 (List.map (Sy.int IntKind.i64).enc a1)&&true &&
 decide ((List.map (Sy.int IntKind.i64).enc a1).length*8≤140737488355328) &&
 decide ((List.map (Sy.int IntKind.i64).enc a1).length≤140737488355328))
 (cQ
 (decide
 (((List.map (Sy.int IntKind.i64).enc a1).length+1)*8 ≤
 140737488355328) &&
 decide ((List.map (Sy.int IntKind.i64).enc a1).length+1≤140737488355328))
 (aN [(true,aE),(false,Sy.bool)]
 (g_explK
 [a8 true aE s8.2.1,
 T.sl false
 (List.map (Sy.int IntKind.i64).enc a1 ++
 [[T.v (.int .i64 s8.1)]])])
 fun (y10:a6×Bool) =>
 aB (!y10.2)
 (R
 (T.aQ
 [a8 true aE y10.1,
 T.v (.bool false)]))
 (dH (Sy.int IntKind.i64).li
 (List.map (Sy.int IntKind.i64).li.enc y10.1.1)
 fun (y11:List (List Int)) =>
 dH (Sy.int IntKind.i64)
 (List.map (Sy.int IntKind.i64).enc y10.1.2.2.1)
 fun (y12:List Int) =>
 X7
 (IntKind.i64.wrap (s8.1+1),
 (y11,y10.1.2.1,y12,y10.1.2.2.2.1,y10.1.2.2.2.2),
 ())))))
 (dH (Sy.int IntKind.i64).li
 (List.map (Sy.int IntKind.i64).li.enc s8.2.1.1)
 fun (y13:List (List Int)) =>
 dH (Sy.int IntKind.i64)
 (List.map (Sy.int IntKind.i64).enc s8.2.1.2.2.1)
 fun (y14:List Int) =>
 X7
 (IntKind.i64.wrap (s8.1+1),
 (y13,s8.2.1.2.1,y14,s8.2.1.2.2.2.1,
 s8.2.1.2.2.2.2),
 ())))
 (R
 (T.aQ
 [a8 true aE s8.2.1,T.v (.bool true)])))
 (0,(y5,IntKind.i64.wrap (a0.2.1-1),y6,a0.2.2.2.1,a0.2.2.2.2),()))))
 (0,()))
theorem JL (g_explK:List T→Option T) (a0:a6) (a1:List Int) (R):B3 bP Tryz.prog (E4 g_explK) FN 8 40 [a8 true aE a0,a8 false (Sy.int IntKind.i64).li a1] R=MN g_explK a0 a1 R:=by kernel_rfl
abbrev rR:Sh:=[(true,aE),(false,(Sy.int IntKind.i64).li)]
abbrev PJ:Sh:=[(true,aE),(false,Sy.bool)]
def NM (p:List (List Int)) (r:Bool×bY):T:=.aQ [a8 true aE (p,r.2.left,r.2.order,r.2.span,r.2.found),.v (.bool r.1)]
noncomputable def iN (k:Nat) (x:a6×List Int):Option T:=match QB k x.1.1 x.2 x.1.2.1 with
 | true=>some (NM x.1.1 (eH 0 x.1.1 x.2 ⟨x.1.2.1,x.1.2.2.2.2,x.1.2.2.2.1,x.1.2.2.1⟩))
 | false=>none
noncomputable def gQ (k:Nat):List T→Option T:=gS rR (iN k)
theorem DR {l:List Int} (h:l.length≤32):(dM 1 (List.map (Sy.int .i64).enc l)&&true&&decide (l.length*8≤140737488355328)&&decide (l.length≤140737488355328))=true:=by
 rw[decide_eq_true (by omega),decide_eq_true (by omega),Bool.and_true,Bool.and_true,Bool.and_true]
 exact CC (.int .i64) l
theorem KB (k:Nat) (hK:B9 Tryz.prog 40 (gQ k)):B9 Tryz.prog 40 (gQ (k+1)) :=
 I3 (s:=rR) (E:=E4 (gQ k)) (Hs:=FN) (MF _ hK) bJ bO (aP rfl) 8 ⟨_,_,Tryz.func40,rfl⟩ rfl fun x r h _=>by
  obtain ⟨⟨(p:List (List Int)),(left:Int),(ord:List Int),(span:Int),(fd:Bool)⟩,(pre:List Int)⟩:=x
  unfold iN at h
  split at h
  case h_2=>cases h
  rename_i hok
  cases h
  dsimp only at hok ⊢
  rw[show Sh.dS rR ((p,left,ord,span,fd),pre)=[a8 true aE (p,left,ord,span,fd),a8 false (Sy.int .i64).li pre] from rfl,JL]
  obtain ⟨hokL,hl0,hl1,hkk⟩:=pE hok
  have H:=dQ hokL
  have hl:=H.len;have hn:=H.n;have hm8:=H.m8
  unfold MN
  dsimp only
  simp only[List.length_map]
  have is:∀ {q:Bool×bY},eH 0 p pre ⟨left,fd,span,ord⟩=q→NM p q=NM p (eH 0 p pre ⟨left,fd,span,ord⟩):=fun h=>by rw[h]
  refine bI (fun hfull=>?_) fun hfull=>?_
  ·have hfull:pre.length=p.length:=by omega
   have e:eH 0 p pre ⟨left,fd,span,ord⟩=(true,if fd=false∨dU p (p.getD 0 []).length pre<span then ⟨left,true,dU p (p.getD 0 []).length pre,pre⟩ else ⟨left,fd,span,ord⟩):=by
    unfold eH
    rw[show p.length+1-pre.length=0+1 by omega,j9,if_pos hfull]
   have hlen:mP [T.sl false (List.map (Sy.int .i64).li.enc p),T.sl false (List.map (Sy.int .i64).enc pre)]=some (Sh.enc BF (dU p (p.getD 0 []).length pre)):=by
    rw[GN];unfold j5;dsimp only;rw[hokL]
   refine dA (s:=BF) (y:=dU p (p.getD 0 []).length pre) hlen ?_
   have hreq:=DR (l:=pre) (by omega)
   cases hfd:fd with
   | false=>rw[hfd] at is;exact ⟨hreq,is (q:=(true,⟨left,true,dU p (p.getD 0 []).length pre,pre⟩)) (by rw[hfd] at e;rw[e,if_pos (.inl rfl)])⟩
   | true =>
    rw[hfd] at is e
    refine bI (fun h=>⟨hreq,is (q:=(true,⟨left,true,dU p (p.getD 0 []).length pre,pre⟩)) (by rw[e,if_pos (.inr h)])⟩) fun h=>is (q:=(true,⟨left,true,span,ord⟩)) (by rw[e,if_neg (by simpa using h)])
  have hfull:¬ pre.length=p.length:=by omega
  obtain ⟨f,hf⟩:∃ f,p.length+1-pre.length=f+1:=⟨p.length-pre.length,by omega⟩
  have hff:f=p.length-pre.length:=by omega
  have hp0:0<p.length:=by omega
  have e:eH 0 p pre ⟨left,fd,span,ord⟩=if fd=true∧∃ i,i<(p.getD 0 []).length∧span≤gL p (p.getD 0 []).length pre i then (true,⟨left,fd,span,ord⟩)
    else if left≤0 then (false,⟨left,fd,span,ord⟩)
    else n2 p pre (j9 p (p.getD 0 []).length (dU p (p.getD 0 []).length) (gL p (p.getD 0 []).length) 0 f) (true,⟨left-1,fd,span,ord⟩) p.length:=by
   unfold eH
   rw[hf,j9,if_neg hfull,Int.sub_zero];rfl
  have hrec:∀ (j:Nat) (s:bY),j9 p (p.getD 0 []).length (dU p (p.getD 0 []).length) (gL p (p.getD 0 []).length) 0 f (pre++[(j:Int)]) s=eH 0 p (pre++[(j:Int)]) s:=fun j s=>by
   unfold eH
   rw[show p.length+1-(pre++[(j:Int)]).length=f by rw[List.length_append,List.length_singleton];omega]
  generalize j9 p (p.getD 0 []).length (dU p (p.getD 0 []).length) (gL p (p.getD 0 []).length) 0 f=F at *
  refine aX (p.getD 0 []).length (fun q s=>s=((q:Int),())∧(fd=true→∀ i,i<q→¬ span≤gL p (p.getD 0 []).length pre i)) ⟨rfl,fun _ i h=>by omega⟩ ?_
  rintro X q s hq ⟨rfl,hno⟩ hX
  dsimp only
  refine (aC (r:=(Sy.int .i64).li) (k:=0) hp0 _).mpr ?_
  rw[gU hp0]
  refine bI (fun hlt=>?_) fun hge=>?_
  ·have hlt:q<(p.getD 0 []).length:=by omega
   rw[bH hlt (by omega)]
   cases hfd:fd with
   | false=>exact hX _ hlt ⟨rfl,fun h=>by rw[hfd] at h;cases h⟩
   | true =>
    rw[hfd] at is e hno
    have hb:mO [T.sl false (List.map (Sy.int .i64).li.enc p),T.sl false (List.map (Sy.int .i64).enc pre),T.v (.int .i64 (q:Int))]=some (Sh.enc BC (gL p (p.getD 0 []).length pre q)):=by
     rw[GL]
     unfold j1 QA
     dsimp only
     rw[hokL,decide_eq_true (show (0:Int)≤q by omega),decide_eq_true (show (q:Int)<(p.getD 0 []).length by omega),Int.toNat_natCast];rfl
    refine dA (s:=BC) (y:=gL p (p.getD 0 []).length pre q) hb ?_
    refine bI (fun h=>is (q:=(true,⟨left,true,span,ord⟩)) (by rw[e,if_pos ⟨rfl,q,hlt,h⟩])) fun h=>hX _ hlt ⟨rfl,fun _ i hi=>?_⟩
    by_cases hiq:i<q
    ·exact hno rfl i hiq
    ·have:i=q:=by omega
     subst this;exact h
  have:q=(p.getD 0 []).length:=by omega
  subst this
  rw[if_neg (fun h=>by
   obtain ⟨h1,i,hi,h2⟩:=h
   exact hno h1 i hi h2)] at e
  clear hX hno
  have hw:IntKind.i64.wrap (left-1)=left-1:=bN _ (by omega) (by omega)
  rw[hw]
  refine bI (fun h=>is (q:=(false,⟨left,fd,span,ord⟩)) (by
   have h:left=0:=h
   rw[e,if_pos (by omega)])) fun h=>?_
  have h:¬ left=0:=h
  rw[if_neg (by omega)] at e
  rw[cA rfl,cA rfl]
  refine aX p.length (fun j s=>∃ t:bY,n2 p pre F (true,⟨left-1,fd,span,ord⟩) j=(true,t)∧0≤t.left∧t.left≤100000∧s=((j:Int),(p,t.left,t.order,t.span,t.found),())) ⟨_,rfl,by dsimp only;omega,by dsimp only;omega,rfl⟩ ?_
  rintro X j s hj ⟨t,ht,t0,t1,rfl⟩ hX
  dsimp only
  refine bI (fun hlt=>?_) fun hge=>?_
  ·have hlt:j<p.length:=by omega
   have hnx:=oN (p:=p) pre F (true,⟨left-1,fd,span,ord⟩) j
   rw[ht] at hnx
   unfold iT at hnx
   rw[if_pos rfl] at hnx
   rw[vF]
   simp only[j3]
   rw[pJ,bH hlt (by omega)]
   refine sP (fun hnm=>?_) fun hm=>?_
   ·rw[if_neg hnm,hrec] at hnx
    refine ⟨DR (by omega),by rw[Bool.and_eq_true,decide_eq_true_eq,decide_eq_true_eq];omega,?_⟩
    have hd2:Diff p.length (pre++[(j:Int)]):=H.diff.snoc hlt hnm
    have hokR:QB k p (pre++[(j:Int)]) t.left=true:=by
     have h1:D7 p (pre++[(j:Int)])=true:=by
      unfold D7 at hokL ⊢
      rw[Bool.and_eq_true] at hokL ⊢
      exact ⟨hokL.1,rO.2 hd2⟩
     unfold QB
     rw[h1,decide_eq_true t0,decide_eq_true t1,decide_eq_true (by rw[List.length_append,List.length_singleton];omega)];rfl
    have hcall:gQ k [a8 true aE (p,t.left,t.order,t.span,t.found),T.sl false (List.map (Sy.int .i64).enc pre++[[T.v (.int .i64 (j:Int))]])]=some (NM p (eH 0 p (pre++[(j:Int)]) t)):=by
     have hA:gQ k [a8 true aE (p,t.left,t.order,t.span,t.found),T.sl false (List.map (Sy.int .i64).enc (pre++[(j:Int)]))]=iN k ((p,t.left,t.order,t.span,t.found),pre++[(j:Int)]):=bT (s:=rR) rfl ((p,t.left,t.order,t.span,t.found),pre++[(j:Int)]) rfl
     rw[List.map_append] at hA
     refine hA.trans ?_
     unfold iN
     dsimp only
     rw[hokR]
    generalize hq':eH 0 p (pre++[(j:Int)]) t=q at hcall hnx
    refine dA (s:=PJ) (y:=((p,q.2.left,q.2.order,q.2.span,q.2.found),q.1)) hcall ?_
    dsimp only
    cases hb:q.1 with
    | false =>
     rw[show (T.v (.bool false))=T.v (.bool q.1) by rw[hb]]
     refine is (q:=q) ?_
     rw[e,wZ pre F _ (show j+1≤p.length by omega) (by rw[hnx,hb]),hnx]
    | true =>
     show dH _ _ _
     rw[cA rfl,cA rfl]
     have hlf:0≤q.2.left∧q.2.left≤t.left:=by
      rw[←hq']
      exact rV _ _ _ t0 (by show (eH 0 p (pre++[(j:Int)]) t).1=true;rw[hq',hb])
     exact hX _ hlt ⟨q.2,by rw[hnx,←hb],hlf.1,by omega,rfl⟩
   ·rw[if_pos hm] at hnx
    rw[cA rfl,cA rfl]
    exact hX _ hlt ⟨t,hnx,t0,t1,rfl⟩
  ·have:j=p.length:=by omega
   subst this
   exact is (q:=(true,t)) (by rw[e,ht])
theorem C6:∀ k:Nat,B9 Tryz.prog 40 (gQ k)
 | 0=>I3 (s:=rR) (E:=Env.of []) (Hs:=FN) (.nil _) bJ bO (aP rfl) 8 ⟨_,_,Tryz.func40,rfl⟩ rfl fun x r h _=>by
  unfold iN at h
  split at h
  case h_2=>cases h
  rename_i hok
  obtain ⟨h1,_,_,h2⟩:=pE hok
  have:=(dQ h1).len
  omega
 | k+1=>KB k (C6 k)
end Go.Pv
namespace Go.Pv
open Go Go.Proofs
noncomputable def tH:List T→Option T:=jA 33
theorem N3:pR Tryz.prog 32 tH:=DA 33
noncomputable def AP:List T→Option T:=gQ 33
theorem NX:B9 Tryz.prog 40 AP:=C6 33
noncomputable def QE:Env:=Env.of [(5000000023,.mark),(10000000000,.mark),(31,.pure vD),(32,.CT [37,4,3,23,3] tH)]
def QQ:FuncId→Hint:=fun _=>bK
theorem JB:aM Tryz.prog QE:=.cons (x:=.mark) trivial (.cons (x:=.mark) trivial (.cons RP (aM.cons (x:=.CT [37,4,3,23,3] tH) N3 (.nil _))))
def zO (a0:List (List Int)) (a1:Int) (R:T→Prop):Prop :=
 aN [(false,Sy.int IntKind.i64)]
 (vD [T.sl false (List.map (Sy.int IntKind.i64).li.enc a0)]) fun (y0:Int) =>
 aB (!decide (y0=0))
 (R
 (T.aQ
 [T.sl false [],T.v (.int .i64 0),T.v (.int .i64 y0)]))
 (aN
 [(true,(Sy.int IntKind.i64).li.li),(true,Sy.bool),(true,Sy.int IntKind.i64),
 (true,(Sy.int IntKind.i64).li),(true,Sy.int IntKind.i64),(false,Sy.bool)]
 (tH
 [T.aQ [T.sl false []],T.aQ [],
 T.agg [T.sl false (List.map (Sy.int IntKind.i64).li.enc a0)],
 T.agg [T.v (.bool false)],T.agg [T.v (.int .i64 0)],
 T.agg [T.sl false []],
 T.agg
 [T.v (.int .i64 (if (if 100000<a1 then 100000 else a1)<0 then 0 else if 100000<a1 then 100000 else a1))]])
 fun (y1:List (List Int)×Bool×Int×List Int×Int×Bool) =>
 aB (!y1.2.2.2.2.2)
 (R
 (T.aQ
 [T.sl false [],T.v (.int .i64 0),
 T.v (.int .i64 29)]))
 (NA
 (NA
 (R
 (T.aQ
 [T.sl false (List.map (Sy.int IntKind.i64).enc y1.2.2.2.1),
 T.v (.int .i64 y1.2.2.1),T.v (.int .i64 0)]))
 (R
 (T.aQ
 [T.sl false (List.map (Sy.int IntKind.i64).enc y1.2.2.2.1),
 T.v (.int .i64 y1.2.2.1),T.v (.int .i64 0)])))
 (R
 (T.aQ
 [T.sl false (List.map (Sy.int IntKind.i64).enc y1.2.2.2.1),
 T.v (.int .i64 y1.2.2.1),T.v (.int .i64 0)]))))
abbrev BO:Sh:=[(false,(Sy.int IntKind.i64).li.li),(false,(Sy.int IntKind.i64))]
abbrev kU:Sh:=[(false,(Sy.int IntKind.i64).li),(false,Sy.int IntKind.i64),(false,Sy.int IntKind.i64)]
theorem BB (y:Sh.den kU) (K:Sh.den kU→Prop):aN kU (some (Sh.enc kU y)) K=K y:=aZ rfl y K
noncomputable def L4:Env:=Env.of [(39,.pure o6),(40,.HB AP)]
def MP:FuncId→Hint:=fun _=>bK
theorem E7:aM Tryz.prog L4:=.cons N1 (.cons NX (.nil _))
def tL (a0:List (List Int)) (a1:Int) (R:T→Prop):Prop :=
 aN [(false,Sy.int IntKind.i64)]
 (o6 [T.sl false (List.map (Sy.int IntKind.i64).li.enc a0)]) fun (y0:Int) =>
 aB (!decide (y0=0))
 (R
 (T.aQ
 [T.sl false [],T.v (.int .i64 0),T.v (.int .i64 y0)]))
 (aN [(true,aE),(false,Sy.bool)]
 (AP
 [T.agg
 [T.sl false (List.map (Sy.int IntKind.i64).li.enc a0),
 T.v (.int .i64 (if 0<if 100000<a1 then 100000 else a1 then if 100000<a1 then 100000 else a1 else 0)),
 T.sl false [],T.v (.int .i64 0),T.v (.bool false)],
 T.sl false []])
 fun (y1:a6×Bool) =>
 aB (!y1.2)
 (R
 (T.aQ
 [T.sl false [],T.v (.int .i64 0),
 T.v (.int .i64 29)]))
 (R
 (T.aQ
 [T.sl false (List.map (Sy.int IntKind.i64).enc y1.1.2.2.1),
 T.v (.int .i64 y1.1.2.2.2.1),
 T.v (.int .i64 0)])))
abbrev wI:Sh:=[(false,(Sy.int IntKind.i64).li.li),(false,(Sy.int IntKind.i64))]
abbrev iI:Sh:=[(false,(Sy.int IntKind.i64).li),(false,Sy.int IntKind.i64),(false,Sy.int IntKind.i64)]
theorem xI (y:Sh.den iI) (K:Sh.den iI→Prop):aN iI (some (Sh.enc iI y)) K=K y:=aZ rfl y K
noncomputable def mB (x:List (List Int)×Int):Option T:=some (Sh.enc kU (cZ x.1 x.2))
noncomputable def o4:List T→Option T:=gS BO mB
theorem GK {a0 a1}:o4 [T.sl false (List.map (Sy.int IntKind.i64).li.enc a0),T.v (.int .i64 a1)]=mB (a0,a1):=bT (s:=BO) rfl (a0,a1) rfl
theorem O2:E0 Tryz.prog 17 o4 mB (dO BO) zO:=nM (a1:=(false,(Sy.int IntKind.i64).li.li)) (a2:=(false,(Sy.int IntKind.i64))) (sp:=mB) (F:=zO) (Hs:=QQ) (f:=17) (k:=8) JB bJ bO (aP rfl) ⟨_,_,Tryz.func17,rfl⟩ rfl fun _ _ _=>by kernel_rfl
noncomputable def j0 (x:List (List Int)×Int):Option T:=some (Sh.enc iI (cZ x.1 x.2))
noncomputable def lR:List T→Option T:=gS wI j0
theorem DH {a0 a1}:lR [T.sl false (List.map (Sy.int IntKind.i64).li.enc a0),T.v (.int .i64 a1)]=j0 (a0,a1):=bT (s:=wI) rfl (a0,a1) rfl
theorem LB:E0 Tryz.prog 19 lR j0 (dO wI) tL:=nM (a1:=(false,(Sy.int IntKind.i64).li.li)) (a2:=(false,(Sy.int IntKind.i64))) (sp:=j0) (F:=tL) (Hs:=MP) (f:=19) (k:=8) E7 bJ bO (aP rfl) ⟨_,_,Tryz.func19,rfl⟩ rfl fun _ _ _=>by kernel_rfl
noncomputable def eP (steps:Int):bY:=⟨max (min steps 100000) 0,false,0,[]⟩
theorem uF (c:Int) {p:List (List Int)} {steps:Int} (h:eX p=0):cZ p steps=if (eH c p [] (eP steps)).1=true then ((eH c p [] (eP steps)).2.order,(eH c p [] (eP steps)).2.span,0) else ([],0,29):=by
 unfold cZ
 rw[if_neg (by rw[h];simp),ET (c:=c)]
 unfold eH eP
 rw[show p.length+1-([]:List Int).length=p.length+1 by simp]
 split
 ·rename_i h1
  split at h1
  ·cases h1
  ·rename_i h2;rw[if_neg h2]
 ·rename_i s h1
  split at h1
  ·rename_i h2;cases h1;rw[if_pos h2]
  ·cases h1
theorem yT {p:List (List Int)} {steps:Int} (h:eX p=0):QB 33 p [] (eP steps).left=true:=by
 have h1:D7 p []=true:=by unfold D7;rw[decide_eq_true h];rfl
 have:=(dQ h1).n
 unfold QB eP
 dsimp only
 rw[h1,decide_eq_true (by omega),decide_eq_true (by omega),decide_eq_true (by simp;omega)];rfl
theorem NU:aU Tryz.prog 17 o4:=O2 fun p steps r h hb=>by
 cases h
 have is:∀ {q:List Int×Int×Int},cZ p steps=q→Sh.enc kU q=Sh.enc kU (cZ p steps):=fun h=>by rw[h]
 unfold zO
 rw[KR]
 simp only[pO]
 rw[EA]
 refine sP (fun h=>is (q:=([],0,eX p)) (by unfold cZ;rw[if_pos h])) fun h=>?_
 have e:=uF 1 (steps:=steps) h
 have hleft:(if (if 100000<steps then 100000 else steps)<0 then 0 else if 100000<steps then 100000 else steps)=max (min steps 100000) 0:=by split<;>split<;>omega
 rw[hleft]
 have hcall:jA 33 (hM [] p false 0 [] (eP steps).left)=some (NL p (eH 1 p [] (eP steps))):=by
  rw[vJ]
  unfold j7
  dsimp only
  rw[yT h];rfl
 generalize eH 1 p [] (eP steps)=q at hcall e
 refine dA (s:=[(true,(Sy.int .i64).li.li),(true,.bool),(true,.int .i64),(true,(Sy.int .i64).li),(true,.int .i64),(false,.bool)]) (y:=(p,q.2.found,q.2.span,q.2.order,q.2.left,q.1)) hcall ?_
 dsimp only
 cases hq:q.1 with
 | false=>exact is (q:=([],0,29)) (by rw[e,if_neg (by rw[hq];simp)])
 | true =>
  have:=is (q:=(q.2.order,q.2.span,0)) (by rw[e,if_pos hq])
  exact ⟨⟨this,this⟩,this⟩
theorem KF:aU Tryz.prog 19 lR:=LB fun p steps r h hb=>by
 cases h
 have is:∀ {q:List Int×Int×Int},cZ p steps=q→Sh.enc iI q=Sh.enc iI (cZ p steps):=fun h=>by rw[h]
 unfold tL
 rw[GP]
 simp only[mD]
 rw[BH]
 refine sP (fun h=>is (q:=([],0,eX p)) (by unfold cZ;rw[if_pos h])) fun h=>?_
 have e:=uF 0 (steps:=steps) h
 have hleft:(if 0<(if 100000<steps then 100000 else steps) then (if 100000<steps then 100000 else steps) else 0)=max (min steps 100000) 0:=by split<;>split<;>omega
 rw[hleft]
 have hcall:gQ 33 [a8 true aE (p,(eP steps).left,[],0,false),T.sl false []]=some (NM p (eH 0 p [] (eP steps))):=by
  have hA:gQ 33 [a8 true aE (p,(eP steps).left,[],0,false),T.sl false []]=iN 33 ((p,(eP steps).left,[],0,false),[]):=bT (s:=rR) rfl ((p,(eP steps).left,[],0,false),[]) rfl
  refine hA.trans ?_
  unfold iN
  dsimp only
  rw[yT h];rfl
 generalize eH 0 p [] (eP steps)=q at hcall e
 refine dA (s:=PJ) (y:=((p,q.2.left,q.2.order,q.2.span,q.2.found),q.1)) hcall ?_
 dsimp only
 cases hq:q.1 with
 | false=>exact is (q:=([],0,29)) (by rw[e,if_neg (by rw[hq];simp)])
 | true=>exact is (q:=(q.2.order,q.2.span,0)) (by rw[e,if_pos hq])
end Go.Pv
namespace Go.Pv
open Go Go.Proofs Go.RowKit
theorem JX:L3 Tryz.prog 34 1 8:=⟨fun R=>by kernel_rfl,fun fl R=>by kernel_rfl,fun fl a rows R=>by kernel_rfl⟩
noncomputable def vE:List T→Option (List (List T)):=gS [(false,.li (.int .i64))] (kV (.int .i64) 8)
theorem DK {u0}:vE [T.sl false (List.map (Sy.enc (.int .i64)) u0)]=kV (.int .i64) 8 u0:=bT (s:=[(false,.li (.int .i64))]) rfl u0 rfl
theorem yB:gN Tryz.prog 34 vE:=JY bJ bO ⟨_,_,Tryz.func34,rfl⟩ JX
def RB:List (List T)→Option (List Int)
 | []=>some []
 | [.v (.int .i64 n)]::l=>(RB l).map fun u=>n::u
 | _=>none
theorem uO:∀ {rows:List (List T)} {u:List Int},RB rows=some u→rows=List.map (Sy.enc (.int .i64)) u
 | [],u,h=>by cases h;rfl
 | r::l,u,h=>by
  unfold RB at h
  split at h
  ·rename_i h1;cases h1
  ·rename_i n l' h1
   cases h1
   simp only[Option.map_eq_some_iff] at h
   obtain ⟨u',hu,rfl⟩:=h
   rw[uO hu];rfl
  ·cases h
theorem VD {w:World} {own:Nat→Prop} {f:Bool} {rows:List (List T)} {v:Value} (h:aY w own (.sl f rows) v):aY w own (.sl false rows) v:=by
 cases h with
 | bB _ a cap h1 h2=>exact .bB false a cap (fun h=>by cases h) h2
 | sl _ rows sz aL off cap f h1 h2 h3 h4 h45 h5 h6 h7 h8=>exact .sl false rows sz aL off cap f h1 h2 (fun h=>by cases h) h4 h45 h5 h6 h7 h8
def RX:List T→Option (List (List T))
 | [.sl f (r::rows)]=>match RB (r::rows) with
  | some u=>kV (.int .i64) 8 u
  | none=>none
 | [.v (.slice none 0 0)]=>some []
 | _=>none
theorem UK:tT Tryz.prog 34 RX:=⟨yB.entry,fun w own args vs rows hG ho ha hg=>by
 unfold RX at hg
 split at hg
 ·rename_i f r0 rows'
  split at hg
  ·rename_i u hu
   have h1:bC (aY w own) [T.sl false (r0::rows')] vs:=⟨ha.1,fun i hi=>by
    have hi':i=0:=by simpa using hi
    subst hi'
    have:=ha.2 0 (by simp)
    simp only[List.getElem_cons_zero] at this ⊢
    exact VD this⟩
   have h2:vE [T.sl false (r0::rows')]=some rows:=by
    rw[uO hu,DK]
    exact hg
   have hne:rows≠[]:=by
    have he:=uO hu
    unfold kV at hg
    split at hg
    ·cases hg
     rw[←he];simp
    ·cases hg
   refine (yB.calls w own _ vs rows hG ho h1 h2).mono ?_
   rintro e w' ⟨v,rfl,h3,_,h5⟩
   exact ⟨v,rfl,h3,fun h=>absurd h hne,h5⟩
  ·cases hg
 ·cases hg
  have hv:vs = #[.slice none 0 0]:=by
   have e0:=ha.2 0 (by simp)
   have hs:vs.size=1:=ha.1
   obtain ⟨l⟩:=vs
   match l,hs with
   | [a],_ =>
    simp at e0
    cases e0;rfl
  subst hv
  refine (Any.slices_Clone_int_nil Tryz.OC 0 0 w).mono ?_
  rintro e w' ⟨rfl,rfl⟩
  exact ⟨_,rfl,Below.refl _ _,fun _=>.bB true none 0 (fun _=>rfl) (fun _=>rfl),fun h=>absurd rfl h⟩
 ·cases hg⟩
end Go.Pv
namespace Go.Pv
open Go Go.Proofs
def UN:FuncId→Bool:=fun f=>[81,97,110,43,42,32].contains f
noncomputable def R1:Env:=Env.of [(89,.pure AO),(56,.ext AM),(34,.oB RX),(1000000000+61,.mark),(1000000000+37,.mark),(2000000000,.mark)]
def WV:List T→Option T:=fun args=>match args with | []=>some (.v (.bool true))|_=>none
def dT:List T→Option T:=WV
theorem GG:aU Tryz.prog 6 dT :=
 KK (by kernel_rfl) (by kernel_rfl) 400 UN (B:=R1) (aM.cons (x:=.pure AO) N2 (aM.cons (x:=.ext AM) NT (aM.cons (x:=.oB RX) UK (aM.cons (x:=.mark) trivial (aM.cons (x:=.mark) trivial (aM.cons (x:=.mark) trivial (aM.nil _))))))) 60 (by kernel_rfl)
end Go.Pv
namespace Go.Pv
open Go Go.Proofs
def jB (n:Int):Bool:=decide (0≤n)&&decide (n≤1000)
def LX (x:bQ):Bool:=x.1.all jB&&x.2.1.all jB&&x.2.2.1.all jB&&x.2.2.2.all jB
def pZ (x:bQ):Int :=
 if x.2.1.length=x.1.length∧x.2.2.1.length=x.1.length∧x.2.2.2.length=x.1.length then
  if x.1.length=0 then 3 else if 8<x.1.length then 4 else if LX x=true then 0 else 9
 else 17
def GD (x:bQ):Bool:=decide ((x.1.length:Int)≤12)&&decide ((x.2.1.length:Int)≤12)&&decide ((x.2.2.1.length:Int)≤12)&&decide ((x.2.2.2.length:Int)≤12)
def xY (x:Int×Int):Option (Int×Int):=match decide (0≤x.1)&&decide (x.1≤9007199254740992)&&decide (x.2=1000) with
 | true=>some ((x.1+999) / 1000,0)
 | false=>none
noncomputable def TS:Env:=Env.of []
def TZ:FuncId→Hint:=fun _=>bK
theorem MD:aM Tryz.prog TS:=.nil _
def FH (a0:Int) (a1:Int) (R:T→Prop):Prop :=
 aB (decide (a1=0))
 (R (T.aQ [T.v (.int .i64 0),T.v (.int .i64 22)]))
 (aB (decide (a0 = -9223372036854775808))
 (aB (decide (a1 = -1))
 (R (T.aQ [T.v (.int .i64 0),T.v (.int .i64 21)]))
 (cQ (!decide (a1=0))
 (cQ (!decide (a1=0))
 (aB (!decide (Int.tmod a0 a1=0))
 (aB (decide (decide (Int.tmod a0 a1<0)=decide (a1<0)))
 (R
 (T.aQ
 [T.v (.int .i64 (IntKind.i64.wrap (IntKind.i64.wrap (Int.tdiv a0 a1)+1))),
 T.v (.int .i64 0)]))
 (R
 (T.aQ
 [T.v (.int .i64 (IntKind.i64.wrap (Int.tdiv a0 a1))),
 T.v (.int .i64 0)])))
 (R
 (T.aQ
 [T.v (.int .i64 (IntKind.i64.wrap (Int.tdiv a0 a1))),
 T.v (.int .i64 0)]))))))
 (cQ (!decide (a1=0))
 (cQ (!decide (a1=0))
 (aB (!decide (Int.tmod a0 a1=0))
 (aB (decide (decide (Int.tmod a0 a1<0)=decide (a1<0)))
 (R
 (T.aQ
 [T.v (.int .i64 (IntKind.i64.wrap (IntKind.i64.wrap (Int.tdiv a0 a1)+1))),
 T.v (.int .i64 0)]))
 (R
 (T.aQ
 [T.v (.int .i64 (IntKind.i64.wrap (Int.tdiv a0 a1))),
 T.v (.int .i64 0)])))
 (R
 (T.aQ
 [T.v (.int .i64 (IntKind.i64.wrap (Int.tdiv a0 a1))),
 T.v (.int .i64 0)]))))))
abbrev HE:Sh:=[(false,(Sy.int IntKind.i64)),(false,(Sy.int IntKind.i64))]
abbrev oJ:Sh:=[(false,Sy.int IntKind.i64),(false,Sy.int IntKind.i64)]
theorem D9 (y:Sh.den oJ) (K:Sh.den oJ→Prop):aN oJ (some (Sh.enc oJ y)) K=K y:=aZ rfl y K
noncomputable def L5:Env:=Env.of []
def MQ:FuncId→Hint:=fun _=>bK
theorem E8:aM Tryz.prog L5:=.nil _
def tM (a0:Int) (a1:Int) (R:T→Prop):Prop :=
 aB (decide (a1=0))
 (R (T.aQ [T.v (.int .i64 0),T.v (.int .i64 22)]))
 (aB (decide (a0 = -9223372036854775808))
 (aB (decide (a1 = -1))
 (R (T.aQ [T.v (.int .i64 0),T.v (.int .i64 21)]))
 (cQ (!decide (a1=0))
 (cQ (!decide (a1=0))
 (aB (!decide (Int.tmod a0 a1=0))
 (aB (!decide (decide (a0<0)=decide (a1<0)))
 (cQ (!decide (a1=0))
 (aB (!decide (Int.tmod a0 a1=0))
 (R
 (T.aQ
 [T.v (.int .i64 (IntKind.i64.wrap (IntKind.i64.wrap (IntKind.i64.wrap (Int.tdiv a0 a1)-1)+1))),
 T.v (.int .i64 0)]))
 (R
 (T.aQ
 [T.v (.int .i64 (IntKind.i64.wrap (IntKind.i64.wrap (Int.tdiv a0 a1)-1))),
 T.v (.int .i64 0)]))))
 (cQ (!decide (a1=0))
 (aB (!decide (Int.tmod a0 a1=0))
 (R
 (T.aQ
 [T.v (.int .i64 (IntKind.i64.wrap (IntKind.i64.wrap (Int.tdiv a0 a1)+1))),
 T.v (.int .i64 0)]))
 (R
 (T.aQ
 [T.v (.int .i64 (IntKind.i64.wrap (Int.tdiv a0 a1))),
 T.v (.int .i64 0)])))))
 (cQ (!decide (a1=0))
 (aB (!decide (Int.tmod a0 a1=0))
 (R
 (T.aQ
 [T.v (.int .i64 (IntKind.i64.wrap (IntKind.i64.wrap (Int.tdiv a0 a1)+1))),
 T.v (.int .i64 0)]))
 (R
 (T.aQ
 [T.v (.int .i64 (IntKind.i64.wrap (Int.tdiv a0 a1))),
 T.v (.int .i64 0)]))))))))
 (cQ (!decide (a1=0))
 (cQ (!decide (a1=0))
 (aB (!decide (Int.tmod a0 a1=0))
 (aB (!decide (decide (a0<0)=decide (a1<0)))
 (cQ (!decide (a1=0))
 (aB (!decide (Int.tmod a0 a1=0))
 (R
 (T.aQ
 [T.v (.int .i64 (IntKind.i64.wrap (IntKind.i64.wrap (IntKind.i64.wrap (Int.tdiv a0 a1)-1)+1))),
 T.v (.int .i64 0)]))
 (R
 (T.aQ
 [T.v (.int .i64 (IntKind.i64.wrap (IntKind.i64.wrap (Int.tdiv a0 a1)-1))),
 T.v (.int .i64 0)]))))
 (cQ (!decide (a1=0))
 (aB (!decide (Int.tmod a0 a1=0))
 (R
 (T.aQ
 [T.v (.int .i64 (IntKind.i64.wrap (IntKind.i64.wrap (Int.tdiv a0 a1)+1))),
 T.v (.int .i64 0)]))
 (R
 (T.aQ
 [T.v (.int .i64 (IntKind.i64.wrap (Int.tdiv a0 a1))),
 T.v (.int .i64 0)])))))
 (cQ (!decide (a1=0))
 (aB (!decide (Int.tmod a0 a1=0))
 (R
 (T.aQ
 [T.v (.int .i64 (IntKind.i64.wrap (IntKind.i64.wrap (Int.tdiv a0 a1)+1))),
 T.v (.int .i64 0)]))
 (R
 (T.aQ
 [T.v (.int .i64 (IntKind.i64.wrap (Int.tdiv a0 a1))),
 T.v (.int .i64 0)]))))))))
abbrev wJ:Sh:=[(false,(Sy.int IntKind.i64)),(false,(Sy.int IntKind.i64))]
abbrev iJ:Sh:=[(false,Sy.int IntKind.i64),(false,Sy.int IntKind.i64)]
theorem xJ (y:Sh.den iJ) (K:Sh.den iJ→Prop):aN iJ (some (Sh.enc iJ y)) K=K y:=aZ rfl y K
noncomputable def QH:Env:=Env.of []
def QT:FuncId→Hint:=fun _=>bK
theorem JE:aM Tryz.prog QH:=.nil _
def zR (a0:bQ) (R:T→Prop):Prop :=
 aB (decide ((↑(List.map (Sy.int IntKind.i64).enc a0.1).length:Int)≤12))
 (aB (decide ((↑(List.map (Sy.int IntKind.i64).enc a0.2.1).length:Int)≤12))
 (aB (decide ((↑(List.map (Sy.int IntKind.i64).enc a0.2.2.1).length:Int)≤12))
 (R
 (T.v (.bool (decide ((↑(List.map (Sy.int IntKind.i64).enc a0.2.2.2).length:Int)≤12)))))
 (R (T.v (.bool false))))
 (R (T.v (.bool false))))
 (R (T.v (.bool false)))
abbrev BR:Sh:=[(true,bG)]
abbrev mU:Sh:=[(false,Sy.bool)]
theorem BD (y:Sh.den mU) (K:Sh.den mU→Prop):aN mU (some (Sh.enc mU y)) K=K y:=aZ rfl y K
noncomputable def V2:Env:=Env.of []
def V4:FuncId→Hint:=fM 16 [(3,.HV 5),(13,.HV 5),(16,.inv [.val 44 false (.int .i64)])] (fun _=>bK)
theorem QO:aM Tryz.prog V2:=.nil _
def MM (a0:bQ) (R:T→Prop):Prop :=
 aB
 (!decide
 ((↑(List.map (Sy.int IntKind.i64).enc a0.1).length:Int) =
 (↑(List.map (Sy.int IntKind.i64).enc a0.1).length:Int)))
 (R (T.v (.int .i64 17)))
 (aB
 (!decide
 ((↑(List.map (Sy.int IntKind.i64).enc a0.2.1).length:Int) =
 (↑(List.map (Sy.int IntKind.i64).enc a0.1).length:Int)))
 (R (T.v (.int .i64 17)))
 (aB
 (!decide
 ((↑(List.map (Sy.int IntKind.i64).enc a0.2.2.1).length:Int) =
 (↑(List.map (Sy.int IntKind.i64).enc a0.1).length:Int)))
 (R (T.v (.int .i64 17)))
 (aB
 (!decide
 ((↑(List.map (Sy.int IntKind.i64).enc a0.2.2.2).length:Int) =
 (↑(List.map (Sy.int IntKind.i64).enc a0.1).length:Int)))
 (R (T.v (.int .i64 17)))
 (aB (decide ((↑(List.map (Sy.int IntKind.i64).enc a0.1).length:Int)=0))
 (R (T.v (.int .i64 3)))
 (aB (decide (8<(↑(List.map (Sy.int IntKind.i64).enc a0.1).length:Int)))
 (R (T.v (.int .i64 4)))
 (bM (Int×PUnit)
 (fun (X0:Int×PUnit→Prop) (s1:Int×PUnit) =>
 aB (decide (s1.1<(↑(List.map (Sy.int IntKind.i64).enc a0.1).length:Int)))
 (aH (Sy.int IntKind.i64) (List.map (Sy.int IntKind.i64).enc a0.1) s1.1
 fun (y2:Int) =>
 aB (decide (0≤y2))
 (aB (!decide (y2≤1000)) (R (T.v (.int .i64 9)))
 (X0 (IntKind.i64.wrap (s1.1+1),())))
 (R (T.v (.int .i64 9))))
 (bM (Int×PUnit)
 (fun (X3:Int×PUnit→Prop) (s4:Int×PUnit) =>
 aB
 (decide (s4.1<(↑(List.map (Sy.int IntKind.i64).enc a0.2.1).length:Int)))
 (aH (Sy.int IntKind.i64)
 (List.map (Sy.int IntKind.i64).enc a0.2.1) s4.1 fun (y5:Int) =>
 aB (decide (0≤y5))
 (aB (!decide (y5≤1000)) (R (T.v (.int .i64 9)))
 (X3 (IntKind.i64.wrap (s4.1+1),())))
 (R (T.v (.int .i64 9))))
 (bM (Int×PUnit)
 (fun (X6:Int×PUnit→Prop) (s7:Int×PUnit) =>
 aB
 (decide
 (s7.1<(↑(List.map (Sy.int IntKind.i64).enc a0.2.2.1).length:Int)))
 (aH (Sy.int IntKind.i64)
 (List.map (Sy.int IntKind.i64).enc a0.2.2.1) s7.1 fun (y8:Int) =>
 aB (decide (0≤y8))
 (aB (!decide (y8≤1000)) (R (T.v (.int .i64 9)))
 (X6 (IntKind.i64.wrap (s7.1+1),())))
 (R (T.v (.int .i64 9))))
 (bM (Int×PUnit)
 (fun (X9:Int×PUnit→Prop) (s10:Int×PUnit) =>
 aB
 (decide
 (s10.1 <
 (↑(List.map (Sy.int IntKind.i64).enc a0.2.2.2).length:Int)))
 (aH (Sy.int IntKind.i64)
 (List.map (Sy.int IntKind.i64).enc a0.2.2.2) s10.1
 fun (y11:Int) =>
 aB (decide (0≤y11))
 (aB (!decide (y11≤1000))
 (R (T.v (.int .i64 9)))
 (X9 (IntKind.i64.wrap (s10.1+1),())))
 (R (T.v (.int .i64 9))))
 (R (T.v (.int .i64 0))))
 (0,())))
 (0,())))
 (0,())))
 (0,())))))))
abbrev PX:Sh:=[(true,bG)]
abbrev yX:Sh:=[(false,Sy.int IntKind.i64)]
theorem wD (y:Sh.den yX) (K:Sh.den yX→Prop):aN yX (some (Sh.enc yX y)) K=K y:=aZ rfl y K
noncomputable def QG:Env:=Env.of []
def QS:FuncId→Hint:=fM 37 [(9,.inv [.val 4 false (.int .i64)])] (fun _=>bK)
theorem JD:aM Tryz.prog QG:=.nil _
def zQ (a0:bQ) (R:T→Prop):Prop :=
 aB
 (!decide
 ((↑(List.map (Sy.int IntKind.i64).enc a0.2.1).length:Int) =
 (↑(List.map (Sy.int IntKind.i64).enc a0.1).length:Int)))
 (R (T.v (.int .i64 17)))
 (aB
 (!decide
 ((↑(List.map (Sy.int IntKind.i64).enc a0.2.2.1).length:Int) =
 (↑(List.map (Sy.int IntKind.i64).enc a0.1).length:Int)))
 (R (T.v (.int .i64 17)))
 (aB
 (!decide
 ((↑(List.map (Sy.int IntKind.i64).enc a0.2.2.2).length:Int) =
 (↑(List.map (Sy.int IntKind.i64).enc a0.1).length:Int)))
 (R (T.v (.int .i64 17)))
 (aB (decide ((↑(List.map (Sy.int IntKind.i64).enc a0.1).length:Int)=0))
 (R (T.v (.int .i64 3)))
 (aB (decide (8<(↑(List.map (Sy.int IntKind.i64).enc a0.1).length:Int)))
 (R (T.v (.int .i64 4)))
 (bM (Int×PUnit)
 (fun (X0:Int×PUnit→Prop) (s1:Int×PUnit) =>
 aB (decide (s1.1<(↑(List.map (Sy.int IntKind.i64).enc a0.1).length:Int)))
 (aH (Sy.int IntKind.i64) (List.map (Sy.int IntKind.i64).enc a0.1) s1.1
 fun (y2:Int) =>
 aH (Sy.int IntKind.i64) (List.map (Sy.int IntKind.i64).enc a0.2.1)
 s1.1 fun (y3:Int) =>
 aH (Sy.int IntKind.i64)
 (List.map (Sy.int IntKind.i64).enc a0.2.2.1) s1.1 fun (y4:Int) =>
 aH (Sy.int IntKind.i64)
 (List.map (Sy.int IntKind.i64).enc a0.2.2.2) s1.1 fun (y5:Int) =>
 aB
 (decide
 ((if y5<if y4<if y3<y2 then y3 else y2 then y4 else if y3<y2 then y3 else y2 then y5
 else if y4<if y3<y2 then y3 else y2 then y4 else if y3<y2 then y3 else y2) <
 0))
 (R (T.v (.int .i64 9)))
 (aH (Sy.int IntKind.i64) (List.map (Sy.int IntKind.i64).enc a0.1)
 s1.1 fun (y6:Int) =>
 aH (Sy.int IntKind.i64)
 (List.map (Sy.int IntKind.i64).enc a0.2.1) s1.1 fun (y7:Int) =>
 aH (Sy.int IntKind.i64)
 (List.map (Sy.int IntKind.i64).enc a0.2.2.1) s1.1 fun (y8:Int) =>
 aH (Sy.int IntKind.i64)
 (List.map (Sy.int IntKind.i64).enc a0.2.2.2) s1.1 fun (y9:Int) =>
 aB
 (decide
 (1000 <
 if
 (if (if y6<y7 then y7 else y6)<y8 then y8
 else if y6<y7 then y7 else y6) <
 y9 then
 y9
 else
 if (if y6<y7 then y7 else y6)<y8 then y8 else if y6<y7 then y7 else y6))
 (R (T.v (.int .i64 9)))
 (X0 (IntKind.i64.wrap (s1.1+1),()))))
 (R (T.v (.int .i64 0))))
 (0,()))))))
abbrev BQ:Sh:=[(true,bG)]
abbrev mT:Sh:=[(false,Sy.int IntKind.i64)]
theorem pI (y:Sh.den mT) (K:Sh.den mT→Prop):aN mT (some (Sh.enc mT y)) K=K y:=aZ rfl y K
def kW (x:Int×Int):Option T:=(xY x).map (Sh.enc oJ)
def fS (x:Int×Int):Option T:=(xY x).map (Sh.enc iJ)
def mC (x:bQ):Option T:=some (Sh.enc mU (GD x))
def rT (x:bQ):Option T:=some (Sh.enc yX (pZ x))
def j2 (x:bQ):Option T:=some (Sh.enc mT (pZ x))
noncomputable def lS:List T→Option T:=gS HE kW
theorem KQ {a0 a1}:lS [T.v (.int .i64 a0),T.v (.int .i64 a1)]=kW (a0,a1):=bT (s:=HE) rfl (a0,a1) rfl
theorem SH:E0 Tryz.prog 30 lS kW (dO HE) FH:=nM (a1:=(false,(Sy.int IntKind.i64))) (a2:=(false,(Sy.int IntKind.i64))) (sp:=kW) (F:=FH) (Hs:=TZ) (f:=30) (k:=8) MD bJ bO (aP rfl) ⟨_,_,Tryz.func30,rfl⟩ rfl fun _ _ _=>by kernel_rfl
noncomputable def fX:List T→Option T:=gS wJ fS
theorem DI {a0 a1}:fX [T.v (.int .i64 a0),T.v (.int .i64 a1)]=fS (a0,a1):=bT (s:=wJ) rfl (a0,a1) rfl
theorem LC:E0 Tryz.prog 63 fX fS (dO wJ) tM:=nM (a1:=(false,(Sy.int IntKind.i64))) (a2:=(false,(Sy.int IntKind.i64))) (sp:=fS) (F:=tM) (Hs:=MQ) (f:=63) (k:=8) E8 bJ bO (aP rfl) ⟨_,_,Tryz.func63,rfl⟩ rfl fun _ _ _=>by kernel_rfl
noncomputable def o5:List T→Option T:=gS BR mC
theorem GM {a0}:o5 [a8 true bG a0]=mC (a0):=bT (s:=BR) rfl (a0) rfl
theorem O5:V7 Tryz.prog 5 o5 mC (dO BR) zR:=O0 (a1:=(true,bG)) (sp:=mC) (F:=zR) (Hs:=QT) (f:=5) (k:=8) JE bJ bO (aP rfl) ⟨_,_,Tryz.func5,rfl⟩ rfl fun _ _=>by kernel_rfl
noncomputable def vB:List T→Option T:=gS PX rT
theorem DJ {a0}:vB [a8 true bG a0]=rT (a0):=bT (s:=PX) rfl (a0) rfl
theorem U6:V7 Tryz.prog 16 vB rT (dO PX) MM:=O0 (a1:=(true,bG)) (sp:=rT) (F:=MM) (Hs:=V4) (f:=16) (k:=8) QO bJ bO (aP rfl) ⟨_,_,Tryz.func16,rfl⟩ rfl fun _ _=>by kernel_rfl
noncomputable def kI:List T→Option T:=gS BQ j2
theorem vC {a0}:kI [a8 true bG a0]=j2 (a0):=bT (s:=BQ) rfl (a0) rfl
theorem O4:V7 Tryz.prog 37 kI j2 (dO BQ) zQ:=O0 (a1:=(true,bG)) (sp:=j2) (F:=zQ) (Hs:=QS) (f:=37) (k:=8) JD bJ bO (aP rfl) ⟨_,_,Tryz.func37,rfl⟩ rfl fun _ _=>by kernel_rfl
end Go.Pv
namespace Go.Pv
open Go Go.Proofs
theorem sC {p:Prop} {i:Decidable p} {A B:Prop} (h1:p→A) (h2:¬ p→B):aB (@decide p i) A B:=by
 by_cases h:p
 ·rw[decide_eq_true h];exact h1 h
 ·rw[decide_eq_false h];exact h2 h
theorem vL {p:Prop} {i:Decidable p} {A B:Prop} (h1:¬ p→A) (h2:p→B):aB (!(@decide p i)) A B:=by
 by_cases h:p
 ·rw[decide_eq_true h];exact h2 h
 ·rw[decide_eq_false h];exact h1 h
theorem gW {α:Type} {p:α→Bool} {l:List α} {k:Nat} (h:k<l.length):(l.drop k).all p=(p l[k]&&(l.drop (k+1)).all p):=by rw[List.drop_eq_getElem_cons h,List.all_cons]
theorem oQ {l:List Int} (hl:l.length≤8) {B C:Prop} (hbad:l.all jB=false→B) (hgood:l.all jB=true→C) :
  bM (Int×PUnit) (fun (X0:Int×PUnit→Prop) (s1:Int×PUnit) =>
   aB (decide (s1.1<((List.map (Sy.int IntKind.i64).enc l).length:Int)))
    (aH (Sy.int IntKind.i64) (List.map (Sy.int IntKind.i64).enc l) s1.1 fun (y2:Int) =>
     aB (decide (0≤y2)) (aB (!decide (y2≤1000)) B (X0 (IntKind.i64.wrap (s1.1+1),()))) B) C) (0,()):=by
 simp only[List.length_map]
 refine aX l.length (fun k s=>s=((k:Int),())∧l.all jB=(l.drop k).all jB) ⟨rfl,by rw[List.drop_zero]⟩ ?_
 rintro X k s hk ⟨rfl,he⟩ hX
 dsimp only
 refine sC (fun hlt=>?_) (fun hge=>?_)
 ·have hlt:k<l.length:=by omega
  rw[gW hlt] at he
  rw[aC (r:=.int .i64) hlt]
  have e:IntKind.i64.wrap ((k:Int)+1)=((k+1:Nat):Int):=bN _ (by omega) (by omega)
  refine sC (fun h1=>vL (fun h2=>hbad ?_) fun h2=>hX _ hlt ⟨by rw[e],?_⟩) (fun h1=>hbad ?_)
  ·rw[he];simp[jB,h2]
  ·rw[he];simp[jB,h1,h2]
  ·rw[he];simp[jB,h1]
 ·have:k=l.length:=by omega
  subst this
  exact hgood (by rw[he];simp)
theorem NW:aU Tryz.prog 16 vB:=U6 fun x r h hb=>by
 cases h
 obtain ⟨a,b,c,d⟩:=x
 have is:∀ {n:Int},pZ (a,b,c,d)=n→T.v (.int .i64 n)=Sh.enc yX (pZ (a,b,c,d)):=fun h=>by rw[h];rfl
 unfold MM
 simp only[]
 refine vL (fun h=>(h trivial).elim) fun _=>?_
 refine vL (fun h=>is ?_) fun h1=>?_
 ·simp only[List.length_map] at h
  unfold pZ;rw[if_neg (fun e=>h (by have:=e.1;simp only at this;omega))]
 refine vL (fun h=>is ?_) fun h2=>?_
 ·simp only[List.length_map] at h
  unfold pZ;rw[if_neg (fun e=>h (by have:=e.2.1;simp only at this;omega))]
 refine vL (fun h=>is ?_) fun h3=>?_
 ·simp only[List.length_map] at h
  unfold pZ;rw[if_neg (fun e=>h (by have:=e.2.2;simp only at this;omega))]
 simp only[List.length_map] at h1 h2 h3
 have h1:b.length=a.length:=by omega
 have h2:c.length=a.length:=by omega
 have h3:d.length=a.length:=by omega
 have hc:pZ (a,b,c,d)=if a.length=0 then 3 else if 8<a.length then 4 else if LX (a,b,c,d)=true then 0 else 9:=by
  unfold pZ;rw[if_pos ⟨h1,h2,h3⟩]
 refine sC (fun h=>is ?_) fun h4=>?_
 ·simp only[List.length_map] at h
  rw[hc,if_pos (by omega)]
 refine sC (fun h=>is ?_) fun h5=>?_
 ·simp only[List.length_map] at h h4
  rw[hc,if_neg (by omega),if_pos (by omega)]
 simp only[List.length_map] at h4 h5
 rw[if_neg (by omega),if_neg (by omega)] at hc
 refine oQ (by omega) (fun h=>is ?_) fun g1=>?_
 ·rw[hc,if_neg (by simp[LX,h])]
 refine oQ (by omega) (fun h=>is ?_) fun g2=>?_
 ·rw[hc,if_neg (by simp[LX,h])]
 refine oQ (by omega) (fun h=>is ?_) fun g3=>?_
 ·rw[hc,if_neg (by simp[LX,h])]
 refine oQ (by omega) (fun h=>is ?_) fun g4=>is ?_
 ·rw[hc,if_neg (by simp[LX,h])]
 ·rw[hc,if_pos (by simp only[LX,g1,g2,g3,g4,Bool.and_self])]
theorem F5 {a b c d:List Int} (h1:b.length=a.length) (h2:c.length=a.length) (h3:d.length=a.length) {k:Nat} (hk:k<a.length):((a.drop k).all jB&&(b.drop k).all jB&&(c.drop k).all jB&&(d.drop k).all jB) =
  ((jB a[k]&&jB b[k]&&jB c[k]&&jB d[k])&&((a.drop (k+1)).all jB&&(b.drop (k+1)).all jB&&(c.drop (k+1)).all jB&&(d.drop (k+1)).all jB)):=by
 rw[gW hk,gW (show k<b.length by omega),gW (show k<c.length by omega),gW (show k<d.length by omega)]
 cases jB a[k]<;>cases jB b[k]<;>cases jB c[k]<;>cases jB d[k]<;>simp
theorem C5:aU Tryz.prog 37 kI:=O4 fun x r h hb=>by
 cases h
 obtain ⟨a,b,c,d⟩:=x
 have is:∀ {n:Int},pZ (a,b,c,d)=n→T.v (.int .i64 n)=Sh.enc mT (pZ (a,b,c,d)):=fun h=>by rw[h];rfl
 unfold zQ
 dsimp only
 simp only[List.length_map]
 refine vL (fun h=>is ?_) fun h1=>?_
 ·unfold pZ;rw[if_neg (fun e=>h (by have:=e.1;simp only at this;omega))]
 refine vL (fun h=>is ?_) fun h2=>?_
 ·unfold pZ;rw[if_neg (fun e=>h (by have:=e.2.1;simp only at this;omega))]
 refine vL (fun h=>is ?_) fun h3=>?_
 ·unfold pZ;rw[if_neg (fun e=>h (by have:=e.2.2;simp only at this;omega))]
 have h1:b.length=a.length:=by omega
 have h2:c.length=a.length:=by omega
 have h3:d.length=a.length:=by omega
 have hc:pZ (a,b,c,d)=if a.length=0 then 3 else if 8<a.length then 4 else if LX (a,b,c,d)=true then 0 else 9:=by
  unfold pZ;rw[if_pos ⟨h1,h2,h3⟩]
 refine sC (fun h=>is ?_) fun h4=>?_
 ·rw[hc,if_pos (by omega)]
 refine sC (fun h=>is ?_) fun h5=>?_
 ·rw[hc,if_neg (by omega),if_pos (by omega)]
 rw[if_neg (by omega),if_neg (by omega)] at hc
 refine aX a.length (fun k s=>s=((k:Int),())∧LX (a,b,c,d)=((a.drop k).all jB&&(b.drop k).all jB&&(c.drop k).all jB&&(d.drop k).all jB)) ⟨rfl,by simp only[List.drop_zero];rfl⟩ ?_
 rintro X k s hk ⟨rfl,he⟩ hX
 dsimp only
 refine sC (fun hlt=>?_) (fun hge=>?_)
 ·have hlt:k<a.length:=by omega
  have e:IntKind.i64.wrap ((k:Int)+1)=((k+1:Nat):Int):=bN _ (by omega) (by omega)
  rw[F5 h1 h2 h3 hlt] at he
  rw[aC (r:=.int .i64) hlt,aC (r:=.int .i64) (show k<b.length by omega),aC (r:=.int .i64) (show k<c.length by omega),aC (r:=.int .i64) (show k<d.length by omega)]
  have hkb:k<b.length:=by omega
  have hkc:k<c.length:=by omega
  have hkd:k<d.length:=by omega
  have bad:(jB a[k]&&jB b[k]&&jB c[k]&&jB d[k])=false→pZ (a,b,c,d)=9:=fun h=>by
   rw[hc,he,h,Bool.false_and];rfl
  refine sC (fun h=>is (bad ?_)) fun h6=>?_
  ·rw[Bool.eq_false_iff];intro h7;simp only[jB,Bool.and_eq_true,decide_eq_true_eq] at h7;omega
  rw[aC (r:=.int .i64) hlt,aC (r:=.int .i64) hkb,aC (r:=.int .i64) hkc,aC (r:=.int .i64) hkd]
  refine sC (fun h=>is (bad ?_)) fun h8=>?_
  ·rw[Bool.eq_false_iff];intro h7;simp only[jB,Bool.and_eq_true,decide_eq_true_eq] at h7;omega
  refine hX _ hlt ⟨by rw[e],?_⟩
  have:(jB a[k]&&jB b[k]&&jB c[k]&&jB d[k])=true:=by
   simp only[jB,Bool.and_eq_true,decide_eq_true_eq]
   omega
  rw[he,this,Bool.true_and]
 ·have:k=a.length:=by omega
  subst this
  exact is (by rw[hc,he];simp[List.drop_eq_nil_of_le,h1,h2,h3])
theorem NY:aU Tryz.prog 5 o5:=O5 fun x r h hb=>by
 cases h
 obtain ⟨a,b,c,d⟩:=x
 unfold zR
 simp only[List.length_map]
 have is:∀ {n:Bool},GD (a,b,c,d)=n→T.v (.bool n)=Sh.enc mU (GD (a,b,c,d)):=fun h=>by rw[h];rfl
 refine sC (fun h1=>sC (fun h2=>sC (fun h3=>is ?_) fun h=>is ?_) fun h=>is ?_) fun h=>is ?_
 ·simp[GD,h1,h2,h3]
 ·simp[GD,h]
 ·simp[GD,h]
 ·simp[GD,h]
end Go.Pv
namespace Go.Pv
open Go Go.Proofs
theorem uK {x y:Int×Int} (h:xY x=some y):0≤x.1∧x.1≤9007199254740992∧x.2=1000∧y=((x.1+999) / 1000,0):=by
 unfold xY at h
 split at h
 ·rename_i hc
  simp only[Bool.and_eq_true,decide_eq_true_eq] at hc
  cases h
  exact ⟨hc.1.1,hc.1.2,hc.2,rfl⟩
 ·cases h
theorem H8 {a:Int} (h0:0≤a) (h1:a≤9007199254740992) (hm:¬ Int.tmod a 1000=0):IntKind.i64.wrap (IntKind.i64.wrap (Int.tdiv a 1000)+1)=(a+999) / 1000:=by
 rw[Int.tmod_eq_emod_of_nonneg h0] at hm
 rw[Int.tdiv_eq_ediv_of_nonneg h0,bN (a / 1000) (by omega) (by omega),bN _ (by omega) (by omega)]
 omega
theorem H7 {a:Int} (h0:0≤a) (h1:a≤9007199254740992) (hm:Int.tmod a 1000=0):IntKind.i64.wrap (Int.tdiv a 1000)=(a+999) / 1000:=by
 rw[Int.tmod_eq_emod_of_nonneg h0] at hm
 rw[Int.tdiv_eq_ediv_of_nonneg h0,bN (a / 1000) (by omega) (by omega)]
 omega
theorem RO:aU Tryz.prog 30 lS:=SH fun a b r h hb=>by
 simp only[kW,Option.map_eq_some_iff] at h
 obtain ⟨y,hy,rfl⟩:=h
 obtain ⟨h0,h1,h2,rfl⟩:=uK hy
 simp only at h0 h1 h2 ⊢
 subst h2
 have is:∀ {n:Int},n=(a+999) / 1000→T.aQ [T.v (.int .i64 n),T.v (.int .i64 0)]=Sh.enc oJ ((a+999) / 1000,0):=fun h=>by rw[h];rfl
 have hnn:¬ Int.tmod a 1000<0:=by rw[Int.tmod_eq_emod_of_nonneg h0];omega
 unfold FH
 refine sC (fun h=>by omega) fun _=>?_
 refine sC (fun h=>by omega) fun _=>?_
 rw[gF,gF]
 refine ⟨rfl,rfl,?_⟩
 refine vL (fun h=>?_) fun h=>is (H7 h0 h1 h)
 refine sC (fun _=>is (H8 h0 h1 h)) fun h3=>absurd (show decide (Int.tmod a 1000<0)=decide ((1000:Int)<0) by rw[decide_eq_false hnn];rfl) h3
theorem KG:aU Tryz.prog 63 fX:=LC fun a b r h hb=>by
 simp only[fS,Option.map_eq_some_iff] at h
 obtain ⟨y,hy,rfl⟩:=h
 obtain ⟨h0,h1,h2,rfl⟩:=uK hy
 simp only at h0 h1 h2 ⊢
 subst h2
 have is:∀ {n:Int},n=(a+999) / 1000→T.aQ [T.v (.int .i64 n),T.v (.int .i64 0)]=Sh.enc iJ ((a+999) / 1000,0):=fun h=>by rw[h];rfl
 have hnn:¬ Int.tmod a 1000<0:=by rw[Int.tmod_eq_emod_of_nonneg h0];omega
 unfold tM
 refine sC (fun h=>by omega) fun _=>?_
 refine sC (fun h=>by omega) fun _=>?_
 rw[gF,gF]
 refine ⟨rfl,rfl,?_⟩
 refine vL (fun h=>?_) fun h=>?_
 ·refine vL (fun h3=>absurd (show decide (a<0)=decide ((1000:Int)<0) by rw[decide_eq_false (by omega)];rfl) h3) fun _=>?_
  rw[gF]
  exact ⟨rfl,vL (fun _=>is (H8 h0 h1 h)) fun h4=>absurd h4 h⟩
 ·rw[gF]
  exact ⟨rfl,vL (fun h4=>absurd h h4) fun _=>is (H7 h0 h1 h)⟩
def A6 (p:aV):Bool:=decide (0≤p.2.1)&&decide (p.2.1≤256)&&(decide (0≤p.2.2.1)&&decide (p.2.2.1≤256))&&(decide (0≤p.2.2.2.1)&&decide (p.2.2.2.1≤8388608))&&(decide (0≤p.2.2.2.2.1)&&decide (p.2.2.2.2.1≤8388608))
def D1 (p:aV) (a b c d:Int):Int:=p.2.1*a+p.2.2.1*b+(p.2.2.2.1*c+999) / 1000+(p.2.2.2.2.1*d+999) / 1000
def vU (p:aV):List Int→List Int→List Int→List Int→List Int
 | a::A,b::B,c::C,d::D=>D1 p a b c d::vU p A B C D
 | _,_,_,_=>[]
def kQ (x:aV×bQ):List Int×Int:=if pZ x.2=0 then (if A6 x.1=true then (vU x.1 x.2.1 x.2.2.1 x.2.2.2.1 x.2.2.2.2,0) else ([],9)) else ([],pZ x.2)
noncomputable def TX:Env:=Env.of [(30,.pure lS),(16,.pure vB)]
def T4:FuncId→Hint:=fM 13 [(8,.inv [.val 43 false (.int .i64),.own 7 1 (.int .i64)])] (fun _=>bK)
theorem MJ:aM Tryz.prog TX:=.cons RO (.cons NW (.nil _))
def FM (a0:aV) (a1:bQ) (R:T→Prop):Prop :=
 aN [(false,Sy.int IntKind.i64)] (vB [a8 true bG a1]) fun (y0:Int) =>
 aB (!decide (y0=0)) (R (T.aQ [T.sl false [],T.v (.int .i64 y0)]))
 (aB (decide (0≤a0.2.1))
 (aB (!decide (a0.2.1≤256))
 (R (T.aQ [T.sl false [],T.v (.int .i64 9)]))
 (aB (decide (0≤a0.2.2.1))
 (aB (!decide (a0.2.2.1≤256))
 (R (T.aQ [T.sl false [],T.v (.int .i64 9)]))
 (aB (decide (0≤a0.2.2.2.1))
 (aB (!decide (a0.2.2.2.1≤8388608))
 (R (T.aQ [T.sl false [],T.v (.int .i64 9)]))
 (aB (decide (0≤a0.2.2.2.2.1))
 (aB (!decide (a0.2.2.2.2.1≤8388608))
 (R (T.aQ [T.sl false [],T.v (.int .i64 9)]))
 (bM (Int×List Int×PUnit)
 (fun (X1:Int×List Int×PUnit→Prop) (s2:Int×List Int×PUnit) =>
 aB
 (decide (s2.1<(↑(List.map (Sy.int IntKind.i64).enc a1.1).length:Int)))
 (aH (Sy.int IntKind.i64)
 (List.map (Sy.int IntKind.i64).enc a1.2.2.1) s2.1 fun (y3:Int) =>
 aN [(false,Sy.int IntKind.i64),(false,Sy.int IntKind.i64)]
 (lS
 [T.v (.int .i64 (IntKind.i64.wrap (a0.2.2.2.1*y3))),
 T.v (.int .i64 1000)])
 fun (y4:jJ) =>
 aH (Sy.int IntKind.i64)
 (List.map (Sy.int IntKind.i64).enc a1.2.2.2) s2.1 fun (y5:Int) =>
 aN [(false,Sy.int IntKind.i64),(false,Sy.int IntKind.i64)]
 (lS
 [T.v (.int .i64 (IntKind.i64.wrap (a0.2.2.2.2.1*y5))),
 T.v (.int .i64 1000)])
 fun (y6:jJ) =>
 aH (Sy.int IntKind.i64)
 (List.map (Sy.int IntKind.i64).enc a1.1) s2.1 fun (y7:Int) =>
 aH (Sy.int IntKind.i64)
 (List.map (Sy.int IntKind.i64).enc a1.2.1) s2.1 fun (y8:Int) =>
 cQ
 (decide
 (((List.map (Sy.int IntKind.i64).enc s2.2.1).length+1)*8 ≤
 140737488355328) &&
 decide
 ((List.map (Sy.int IntKind.i64).enc s2.2.1).length+1 ≤
 140737488355328))
 (dH (Sy.int IntKind.i64)
 (List.map (Sy.int IntKind.i64).enc s2.2.1 ++
 [[T.v (.int .i64 (IntKind.i64.wrap
 (IntKind.i64.wrap
 (IntKind.i64.wrap
 (IntKind.i64.wrap (a0.2.1*y7) +
 IntKind.i64.wrap (a0.2.2.1*y8)) +
 y4.1) +
 y6.1)))]])
 fun (y9:List Int)=>X1 (IntKind.i64.wrap (s2.1+1),y9,())))
 (R
 (T.aQ
 [T.sl false (List.map (Sy.int IntKind.i64).enc s2.2.1),
 T.v (.int .i64 0)])))
 (0,[],())))
 (R (T.aQ [T.sl false [],T.v (.int .i64 9)]))))
 (R (T.aQ [T.sl false [],T.v (.int .i64 9)]))))
 (R (T.aQ [T.sl false [],T.v (.int .i64 9)]))))
 (R (T.aQ [T.sl false [],T.v (.int .i64 9)])))
abbrev HJ:Sh:=[(true,aR),(true,bG)]
abbrev l5:Sh:=[(false,(Sy.int IntKind.i64).li),(false,Sy.int IntKind.i64)]
theorem ED (y:Sh.den l5) (K:Sh.den l5→Prop):aN l5 (some (Sh.enc l5 y)) K=K y:=aZ rfl y K
noncomputable def L9:Env:=Env.of [(63,.pure fX),(37,.pure kI)]
def MU:FuncId→Hint:=fM 38 [(8,.inv [.val 8 false (.int .i64),.own 7 1 (.int .i64)])] (fun _=>bK)
theorem FC:aM Tryz.prog L9:=.cons KG (.cons C5 (.nil _))
def tQ (a0:aV) (a1:bQ) (R:T→Prop):Prop :=
 aN [(false,Sy.int IntKind.i64)] (kI [a8 true bG a1]) fun (y0:Int) =>
 aB (!decide (y0=0)) (R (T.aQ [T.sl false [],T.v (.int .i64 y0)]))
 (aB
 (decide
 ((if
 a0.2.2.2.2.1 <
 if a0.2.2.2.1<if a0.2.2.1<a0.2.1 then a0.2.2.1 else a0.2.1 then
 a0.2.2.2.1
 else if a0.2.2.1<a0.2.1 then a0.2.2.1 else a0.2.1 then
 a0.2.2.2.2.1
 else
 if a0.2.2.2.1<if a0.2.2.1<a0.2.1 then a0.2.2.1 else a0.2.1 then
 a0.2.2.2.1
 else if a0.2.2.1<a0.2.1 then a0.2.2.1 else a0.2.1) <
 0))
 (R (T.aQ [T.sl false [],T.v (.int .i64 9)]))
 (aB (decide (256<if a0.2.1<a0.2.2.1 then a0.2.2.1 else a0.2.1))
 (R (T.aQ [T.sl false [],T.v (.int .i64 9)]))
 (aB
 (decide
 (8388608 <
 if a0.2.2.2.1<a0.2.2.2.2.1 then a0.2.2.2.2.1 else a0.2.2.2.1))
 (R (T.aQ [T.sl false [],T.v (.int .i64 9)]))
 (bM (Int×List Int×PUnit)
 (fun (X1:Int×List Int×PUnit→Prop) (s2:Int×List Int×PUnit) =>
 aB (decide (s2.1<(↑(List.map (Sy.int IntKind.i64).enc a1.1).length:Int)))
 (aH (Sy.int IntKind.i64) (List.map (Sy.int IntKind.i64).enc a1.2.2.1)
 s2.1 fun (y3:Int) =>
 aN [(false,Sy.int IntKind.i64),(false,Sy.int IntKind.i64)]
 (fX
 [T.v (.int .i64 (IntKind.i64.wrap (a0.2.2.2.1*y3))),
 T.v (.int .i64 1000)])
 fun (y4:jJ) =>
 aH (Sy.int IntKind.i64)
 (List.map (Sy.int IntKind.i64).enc a1.2.2.2) s2.1 fun (y5:Int) =>
 aN [(false,Sy.int IntKind.i64),(false,Sy.int IntKind.i64)]
 (fX
 [T.v (.int .i64 (IntKind.i64.wrap (a0.2.2.2.2.1*y5))),
 T.v (.int .i64 1000)])
 fun (y6:jJ) =>
 aH (Sy.int IntKind.i64) (List.map (Sy.int IntKind.i64).enc a1.1)
 s2.1 fun (y7:Int) =>
 aH (Sy.int IntKind.i64)
 (List.map (Sy.int IntKind.i64).enc a1.2.1) s2.1 fun (y8:Int) =>
 cQ
 (decide
 (((List.map (Sy.int IntKind.i64).enc s2.2.1).length+1)*8 ≤
 140737488355328) &&
 decide
 ((List.map (Sy.int IntKind.i64).enc s2.2.1).length+1 ≤
 140737488355328))
 (dH (Sy.int IntKind.i64)
 (List.map (Sy.int IntKind.i64).enc s2.2.1 ++
 [[T.v (.int .i64 (IntKind.i64.wrap
 (IntKind.i64.wrap
 (IntKind.i64.wrap
 (IntKind.i64.wrap (a0.2.1*y7) +
 IntKind.i64.wrap (a0.2.2.1*y8)) +
 y4.1) +
 y6.1)))]])
 fun (y9:List Int)=>X1 (IntKind.i64.wrap (s2.1+1),y9,())))
 (R
 (T.aQ
 [T.sl false (List.map (Sy.int IntKind.i64).enc s2.2.1),
 T.v (.int .i64 0)])))
 (0,[],())))))
abbrev wN:Sh:=[(true,aR),(true,bG)]
abbrev gE:Sh:=[(false,(Sy.int IntKind.i64).li),(false,Sy.int IntKind.i64)]
theorem xM (y:Sh.den gE) (K:Sh.den gE→Prop):aN gE (some (Sh.enc gE y)) K=K y:=aZ rfl y K
def tJ (x:aV×bQ):Option T:=some (Sh.enc l5 (kQ x))
def nF (x:aV×bQ):Option T:=some (Sh.enc gE (kQ x))
noncomputable def oE:List T→Option T:=gS HJ tJ
theorem KU {a0 a1}:oE [a8 true aR a0,a8 true bG a1]=tJ (a0,a1):=bT (s:=HJ) rfl (a0,a1) rfl
theorem SM:E0 Tryz.prog 13 oE tJ (dO HJ) FM:=nM (a1:=(true,aR)) (a2:=(true,bG)) (sp:=tJ) (F:=FM) (Hs:=T4) (f:=13) (k:=8) MJ bJ bO (aP rfl) ⟨_,_,Tryz.func13,rfl⟩ rfl fun _ _ _=>by kernel_rfl
noncomputable def iE:List T→Option T:=gS wN nF
theorem DN {a0 a1}:iE [a8 true aR a0,a8 true bG a1]=nF (a0,a1):=bT (s:=wN) rfl (a0,a1) rfl
theorem LI:E0 Tryz.prog 38 iE nF (dO wN) tQ:=nM (a1:=(true,aR)) (a2:=(true,bG)) (sp:=nF) (F:=tQ) (Hs:=MU) (f:=38) (k:=8) FC bJ bO (aP rfl) ⟨_,_,Tryz.func38,rfl⟩ rfl fun _ _ _=>by kernel_rfl
end Go.Pv
namespace Go.Pv
open Go Go.Proofs
theorem AY {m n M N:Int} (h1:0≤m) (h2:m≤M) (h3:0≤n) (h4:n≤N):0≤m*n∧m*n≤M*N :=
 ⟨Int.mul_nonneg h1 h3,Int.mul_le_mul h2 h4 h3 (Int.le_trans h1 h2)⟩
theorem AR {l:List Int} (h:l.all jB=true) {k:Nat} (hk:k<l.length):0≤l[k]∧l[k]≤1000:=by
 have:=List.all_eq_true.1 h l[k] (List.getElem_mem hk)
 simpa [jB] using this
theorem R9 {p:aV} {a b c d:List Int} {k:Nat} (ha:k<a.length) (hb:k<b.length) (hc:k<c.length) (hd:k<d.length) :
  vU p (a.drop k) (b.drop k) (c.drop k) (d.drop k)=D1 p a[k] b[k] c[k] d[k]::vU p (a.drop (k+1)) (b.drop (k+1)) (c.drop (k+1)) (d.drop (k+1)):=by
 rw[List.drop_eq_getElem_cons ha,List.drop_eq_getElem_cons hb,List.drop_eq_getElem_cons hc,List.drop_eq_getElem_cons hd]
 rfl
theorem dI {p:aV} (h:A6 p=true):(0≤p.2.1∧p.2.1≤256)∧(0≤p.2.2.1∧p.2.2.1≤256)∧(0≤p.2.2.2.1∧p.2.2.2.1≤8388608)∧0≤p.2.2.2.2.1∧p.2.2.2.2.1≤8388608:=by
 simp only[A6,Bool.and_eq_true,decide_eq_true_eq] at h
 exact ⟨h.1.1.1,h.1.1.2,h.1.2,h.2⟩
theorem yN {p:aV} {x:bQ} {G:List T→Option T} {R:T→Prop} (hp:A6 p=true) (hi:LX x=true) (h1:x.2.1.length=x.1.length) (h2:x.2.2.1.length=x.1.length) (h3:x.2.2.2.length=x.1.length) (h8:x.1.length≤8)
  (hG:∀ {n:Int},0≤n→n≤9007199254740992→∀ K:Int×Int→Prop,aN [(false,Sy.int IntKind.i64),(false,Sy.int IntKind.i64)] (G [T.v (.int .i64 n),T.v (.int .i64 1000)]) K=K ((n+999) / 1000,0))
  (hR:R (T.aQ [T.sl false (List.map (Sy.int IntKind.i64).enc (vU p x.1 x.2.1 x.2.2.1 x.2.2.2)),T.v (.int .i64 0)])) :
  bM (Int×List Int×PUnit)
   (fun (X1:Int×List Int×PUnit→Prop) (s2:Int×List Int×PUnit) =>
    aB (decide (s2.1<((List.map (Sy.int IntKind.i64).enc x.1).length:Int)))
     (aH (Sy.int IntKind.i64) (List.map (Sy.int IntKind.i64).enc x.2.2.1) s2.1 fun (y3:Int) =>
      aN [(false,Sy.int IntKind.i64),(false,Sy.int IntKind.i64)]
       (G [T.v (.int .i64 (IntKind.i64.wrap (p.2.2.2.1*y3))),T.v (.int .i64 1000)])
       fun (y4:Int×Int) =>
       aH (Sy.int IntKind.i64) (List.map (Sy.int IntKind.i64).enc x.2.2.2) s2.1 fun (y5:Int) =>
        aN [(false,Sy.int IntKind.i64),(false,Sy.int IntKind.i64)]
         (G [T.v (.int .i64 (IntKind.i64.wrap (p.2.2.2.2.1*y5))),T.v (.int .i64 1000)])
         fun (y6:Int×Int) =>
         aH (Sy.int IntKind.i64) (List.map (Sy.int IntKind.i64).enc x.1) s2.1 fun (y7:Int) =>
          aH (Sy.int IntKind.i64) (List.map (Sy.int IntKind.i64).enc x.2.1) s2.1 fun (y8:Int) =>
           cQ (decide (((List.map (Sy.int IntKind.i64).enc s2.2.1).length+1)*8≤140737488355328)&&decide ((List.map (Sy.int IntKind.i64).enc s2.2.1).length+1≤140737488355328))
            (dH (Sy.int IntKind.i64)
             (List.map (Sy.int IntKind.i64).enc s2.2.1 ++
              [[T.v (.int .i64 (IntKind.i64.wrap (IntKind.i64.wrap (IntKind.i64.wrap (IntKind.i64.wrap (p.2.1*y7)+IntKind.i64.wrap (p.2.2.1*y8))+y4.1)+y6.1)))]])
             fun (y9:List Int)=>X1 (IntKind.i64.wrap (s2.1+1),y9,())))
     (R (T.aQ [T.sl false (List.map (Sy.int IntKind.i64).enc s2.2.1),T.v (.int .i64 0)])))
   (0,[],()):=by
 obtain ⟨⟨p1,p2⟩,⟨p3,p4⟩,⟨p5,p6⟩,p7,p8⟩:=dI hp
 simp only[LX,Bool.and_eq_true] at hi
 refine aX x.1.length (fun k s=>∃ acc:List Int,s=((k:Int),acc,())∧acc.length=k∧vU p x.1 x.2.1 x.2.2.1 x.2.2.2=acc++vU p (x.1.drop k) (x.2.1.drop k) (x.2.2.1.drop k) (x.2.2.2.drop k)) ⟨[],rfl,rfl,by simp only[List.drop_zero,List.nil_append]⟩ ?_
 rintro X k s hk ⟨acc,rfl,hl,he⟩ hX
 dsimp only
 rw[List.length_map]
 refine sC (fun hlt=>?_) fun hge=>?_
 ·have hka:k<x.1.length:=by omega
  have hkb:k<x.2.1.length:=by omega
  have hkc:k<x.2.2.1.length:=by omega
  have hkd:k<x.2.2.2.length:=by omega
  have ra:=AR hi.1.1.1 hka
  have rb:=AR hi.1.1.2 hkb
  have rc:=AR hi.1.2 hkc
  have rd:=AR hi.2 hkd
  have ma:=AY p1 p2 ra.1 ra.2
  have mb:=AY p3 p4 rb.1 rb.2
  have mc:=AY p5 p6 rc.1 rc.2
  have md:=AY p7 p8 rd.1 rd.2
  have e:IntKind.i64.wrap ((k:Int)+1)=((k+1:Nat):Int):=bN _ (by omega) (by omega)
  rw[aC (r:=.int .i64) hkc,bN _ (by omega) (by omega),hG mc.1 (by omega)]
  rw[aC (r:=.int .i64) hkd,bN _ (by omega) (by omega),hG md.1 (by omega)]
  rw[aC (r:=.int .i64) hka,aC (r:=.int .i64) hkb,gF]
  refine ⟨by simp only[List.length_map,Bool.and_eq_true,decide_eq_true_eq];omega,?_⟩
  rw[gX (r:=.int .i64) rfl acc _ (D1 p x.1[k] x.2.1[k] x.2.2.1[k] x.2.2.2[k]) ?_]
  ·refine hX _ hka ⟨_,by rw[e],by simp[hl],?_⟩
   rw[he,R9 hka hkb hkc hkd]
   simp
  ·have hs:IntKind.i64.wrap (IntKind.i64.wrap (IntKind.i64.wrap (IntKind.i64.wrap (p.2.1*x.1[k])+IntKind.i64.wrap (p.2.2.1*x.2.1[k]))+(p.2.2.2.1*x.2.2.1[k]+999) / 1000)+(p.2.2.2.2.1*x.2.2.2[k]+999) / 1000)=D1 p x.1[k] x.2.1[k] x.2.2.1[k] x.2.2.2[k]:=by
    unfold D1
    generalize p.2.1*x.1[k]=u1 at *
    generalize p.2.2.1*x.2.1[k]=u2 at *
    generalize p.2.2.2.1*x.2.2.1[k]=u3 at *
    generalize p.2.2.2.2.1*x.2.2.2[k]=u4 at *
    rw[bN u1 (by omega) (by omega),bN u2 (by omega) (by omega),bN (u1+u2) (by omega) (by omega),bN (u1+u2+_) (by omega) (by omega),bN _ (by omega) (by omega)]
   rw[hs];rfl
 ·have:k=x.1.length:=by omega
  subst this
  have hn:vU p (x.1.drop x.1.length) (x.2.1.drop x.1.length) (x.2.2.1.drop x.1.length) (x.2.2.2.drop x.1.length)=[]:=by
   rw[List.drop_length];rfl
  rw[hn,List.append_nil] at he
  rw[←he];exact hR
end Go.Pv
namespace Go.Pv
open Go Go.Proofs
theorem NG {x:bQ} (h:pZ x=0):x.2.1.length=x.1.length∧x.2.2.1.length=x.1.length∧x.2.2.2.length=x.1.length∧x.1.length≤8∧LX x=true:=by
 unfold pZ at h
 split at h
 ·rename_i hl
  split at h
  ·cases h
  ·split at h
   ·cases h
   ·split at h
    ·rename_i hi
     exact ⟨hl.1,hl.2.1,hl.2.2,by omega,hi⟩
    ·cases h
 ·cases h
theorem JV {n:Int} (h0:0≤n) (h1:n≤9007199254740992) (K:Int×Int→Prop):aN [(false,Sy.int IntKind.i64),(false,Sy.int IntKind.i64)] (lS [T.v (.int .i64 n),T.v (.int .i64 1000)]) K=K ((n+999) / 1000,0):=by
 rw[KQ,show kW (n,1000)=some (Sh.enc oJ ((n+999) / 1000,0)) by simp[kW,xY,h0,h1]]
 exact D9 _ K
theorem CS {n:Int} (h0:0≤n) (h1:n≤9007199254740992) (K:Int×Int→Prop):aN [(false,Sy.int IntKind.i64),(false,Sy.int IntKind.i64)] (fX [T.v (.int .i64 n),T.v (.int .i64 1000)]) K=K ((n+999) / 1000,0):=by
 rw[DI,show fS (n,1000)=some (Sh.enc iJ ((n+999) / 1000,0)) by simp[fS,xY,h0,h1]]
 exact xJ _ K
theorem vV {p:aV} {x:bQ} (hc:pZ x=0) (h:A6 p=false):kQ (p,x)=([],9):=by
 unfold kQ;rw[if_pos hc,if_neg (by simp[h])]
theorem rI {p:aV} {x:bQ} (hc:pZ x=0) (h:A6 p=true):kQ (p,x)=(vU p x.1 x.2.1 x.2.2.1 x.2.2.2,0):=by
 unfold kQ;rw[if_pos hc,if_pos h]
theorem RT:aU Tryz.prog 13 oE:=SM fun p x r h hb=>by
 cases h
 have is:∀ {l:List Int} {n:Int},kQ (p,x)=(l,n)→T.aQ [T.sl false (List.map (Sy.int IntKind.i64).enc l),T.v (.int .i64 n)]=Sh.enc l5 (kQ (p,x)):=fun h=>by rw[h];rfl
 unfold FM
 rw[DJ]
 simp only[rT]
 rw[wD]
 refine vL (fun h=>is (l:=[]) (by unfold kQ;rw[if_neg h])) fun hc=>?_
 have bad:¬ A6 p=true→T.aQ [T.sl false [],T.v (.int .i64 9)]=Sh.enc l5 (kQ (p,x)):=fun h=>is (l:=[]) (vV hc (by simpa using h))
 obtain ⟨h1,h2,h3,h8,hi⟩:=NG hc
 refine sC (fun b1=>vL (fun b=>bad fun h=>b (dI h).1.2) fun b2=>?_) fun b=>bad fun h=>b (dI h).1.1
 refine sC (fun b3=>vL (fun b=>bad fun h=>b (dI h).2.1.2) fun b4=>?_) fun b=>bad fun h=>b (dI h).2.1.1
 refine sC (fun b5=>vL (fun b=>bad fun h=>b (dI h).2.2.1.2) fun b6=>?_) fun b=>bad fun h=>b (dI h).2.2.1.1
 refine sC (fun b7=>vL (fun b=>bad fun h=>b (dI h).2.2.2.2) fun b8=>?_) fun b=>bad fun h=>b (dI h).2.2.2.1
 have hp:A6 p=true:=by simp only[A6,b1,b2,b3,b4,b5,b6,b7,b8,decide_true,Bool.and_self]
 exact yN (G:=lS) (R:=fun y=>y=Sh.enc l5 (kQ (p,x))) hp hi h1 h2 h3 h8 JV (is (rI hc hp))
theorem KJ:aU Tryz.prog 38 iE:=LI fun p x r h hb=>by
 cases h
 have is:∀ {l:List Int} {n:Int},kQ (p,x)=(l,n)→T.aQ [T.sl false (List.map (Sy.int IntKind.i64).enc l),T.v (.int .i64 n)]=Sh.enc gE (kQ (p,x)):=fun h=>by rw[h];rfl
 unfold tQ
 rw[vC]
 simp only[j2]
 rw[pI]
 refine vL (fun h=>is (l:=[]) (by unfold kQ;rw[if_neg h])) fun hc=>?_
 have bad:¬ A6 p=true→T.aQ [T.sl false [],T.v (.int .i64 9)]=Sh.enc gE (kQ (p,x)):=fun h=>is (l:=[]) (vV hc (by simpa using h))
 obtain ⟨h1,h2,h3,h8,hi⟩:=NG hc
 refine sC (fun b=>bad fun h=>?_) fun b1=>?_
 ·have:=dI h;omega
 refine sC (fun b=>bad fun h=>?_) fun b2=>?_
 ·have:=dI h;omega
 refine sC (fun b=>bad fun h=>?_) fun b3=>?_
 ·have:=dI h;omega
 have hp:A6 p=true:=by
  simp only[A6,Bool.and_eq_true,decide_eq_true_eq]
  omega
 exact yN (G:=fX) (R:=fun y=>y=Sh.enc gE (kQ (p,x))) hp hi h1 h2 h3 h8 CS (is (rI hc hp))
theorem fB (K:Bool→Prop):aN [(false,Sy.bool)] (dT []) K=K true:=aZ (s:=[(false,Sy.bool)]) rfl true K
end Go.Pv
namespace Go.Pv
open Go Go.Proofs
def eC (x:List aV×bQ):List (List Int)×Int:=if pZ x.2=0 then (if x.1.all A6=true then (x.1.map fun p=>vU p x.2.1 x.2.2.1 x.2.2.2.1 x.2.2.2.2,0) else ([],9)) else ([],pZ x.2)
noncomputable def TW:Env:=Env.of [(13,.pure oE),(16,.pure vB)]
def T3:FuncId→Hint:=fM 10 [(6,.inv [.val 19 false (.int .i64),.own 7 1 (.li (.int .i64))])] (fun _=>bK)
theorem MI:aM Tryz.prog TW:=.cons RT (.cons NW (.nil _))
def FL (a0:List aV) (a1:bQ) (R:T→Prop):Prop :=
 aN [(false,Sy.int IntKind.i64)] (vB [a8 true bG a1]) fun (y0:Int) =>
 aB (!decide (y0=0)) (R (T.aQ [T.sl false [],T.v (.int .i64 y0)]))
 (bM (Int×List (List Int)×PUnit)
 (fun (X1:Int×List (List Int)×PUnit→Prop) (s2:Int×List (List Int)×PUnit) =>
 aB (decide (s2.1<(↑(List.map aR.enc a0).length:Int)))
 (aH aR (List.map aR.enc a0) s2.1 fun (y3:aV) =>
 aN [(false,(Sy.int IntKind.i64).li),(false,Sy.int IntKind.i64)]
 (oE [a8 true aR y3,a8 true bG a1])
 fun (y4:List Int×Int) =>
 aB (!decide (y4.2=0))
 (R (T.aQ [T.sl false [],T.v (.int .i64 y4.2)]))
 (cQ
 (decide
 (((List.map (Sy.int IntKind.i64).li.enc s2.2.1).length+1)*24 ≤
 140737488355328) &&
 decide ((List.map (Sy.int IntKind.i64).li.enc s2.2.1).length+1≤140737488355328))
 (dH (Sy.int IntKind.i64).li
 (List.map (Sy.int IntKind.i64).li.enc s2.2.1 ++
 [[T.sl false (List.map (Sy.int IntKind.i64).enc y4.1)]])
 fun (y5:List (List Int))=>X1 (IntKind.i64.wrap (s2.1+1),y5,()))))
 (R
 (T.aQ
 [T.sl false (List.map (Sy.int IntKind.i64).li.enc s2.2.1),
 T.v (.int .i64 0)])))
 (0,[],()))
abbrev HI:Sh:=[(false,aR.li),(true,bG)]
abbrev l4:Sh:=[(false,(Sy.int IntKind.i64).li.li),(false,Sy.int IntKind.i64)]
theorem EC (y:Sh.den l4) (K:Sh.den l4→Prop):aN l4 (some (Sh.enc l4 y)) K=K y:=aZ rfl y K
noncomputable def L7:Env:=Env.of [(38,.pure iE),(37,.pure kI)]
def MS:FuncId→Hint:=fM 18 [(6,.inv [.val 8 false (.int .i64),.own 7 1 (.li (.int .i64))])] (fun _=>bK)
theorem FA:aM Tryz.prog L7:=.cons KJ (.cons C5 (.nil _))
def tO (a0:List aV) (a1:bQ) (R:T→Prop):Prop :=
 aN [(false,Sy.int IntKind.i64)] (kI [a8 true bG a1]) fun (y0:Int) =>
 aB (!decide (y0=0)) (R (T.aQ [T.sl false [],T.v (.int .i64 y0)]))
 (bM (Int×List (List Int)×PUnit)
 (fun (X1:Int×List (List Int)×PUnit→Prop) (s2:Int×List (List Int)×PUnit) =>
 aB (decide (s2.1<(↑(List.map aR.enc a0).length:Int)))
 (aH aR (List.map aR.enc a0) s2.1 fun (y3:aV) =>
 aN [(false,(Sy.int IntKind.i64).li),(false,Sy.int IntKind.i64)]
 (iE [a8 true aR y3,a8 true bG a1])
 fun (y4:List Int×Int) =>
 aB (!decide (y4.2=0))
 (R (T.aQ [T.sl false [],T.v (.int .i64 y4.2)]))
 (cQ
 (decide
 (((List.map (Sy.int IntKind.i64).li.enc s2.2.1).length+1)*24 ≤
 140737488355328) &&
 decide ((List.map (Sy.int IntKind.i64).li.enc s2.2.1).length+1≤140737488355328))
 (dH (Sy.int IntKind.i64).li
 (List.map (Sy.int IntKind.i64).li.enc s2.2.1 ++
 [[T.sl false (List.map (Sy.int IntKind.i64).enc y4.1)]])
 fun (y5:List (List Int))=>X1 (IntKind.i64.wrap (s2.1+1),y5,()))))
 (R
 (T.aQ
 [T.sl false (List.map (Sy.int IntKind.i64).li.enc s2.2.1),
 T.v (.int .i64 0)])))
 (0,[],()))
abbrev wL:Sh:=[(false,aR.li),(true,bG)]
abbrev gD:Sh:=[(false,(Sy.int IntKind.i64).li.li),(false,Sy.int IntKind.i64)]
theorem xL (y:Sh.den gD) (K:Sh.den gD→Prop):aN gD (some (Sh.enc gD y)) K=K y:=aZ rfl y K
def nE (x:List aV×bQ):Option T:=match decide (x.1.length≤40) with
 | true=>some (Sh.enc l4 (eC x))
 | false=>none
def hJ (x:List aV×bQ):Option T:=match decide (x.1.length≤40) with
 | true=>some (Sh.enc gD (eC x))
 | false=>none
noncomputable def vG:List T→Option T:=gS HI nE
theorem KT {a0 a1}:vG [T.sl false (List.map aR.enc a0),a8 true bG a1]=nE (a0,a1):=bT (s:=HI) rfl (a0,a1) rfl
theorem SL:E0 Tryz.prog 10 vG nE (dO HI) FL:=nM (a1:=(false,aR.li)) (a2:=(true,bG)) (sp:=nE) (F:=FL) (Hs:=T3) (f:=10) (k:=8) MI bJ bO (aP rfl) ⟨_,_,Tryz.func10,rfl⟩ rfl fun _ _ _=>by kernel_rfl
noncomputable def lU:List T→Option T:=gS wL hJ
theorem DM {a0 a1}:lU [T.sl false (List.map aR.enc a0),a8 true bG a1]=hJ (a0,a1):=bT (s:=wL) rfl (a0,a1) rfl
theorem LF:E0 Tryz.prog 18 lU hJ (dO wL) tO:=nM (a1:=(false,aR.li)) (a2:=(true,bG)) (sp:=hJ) (F:=tO) (Hs:=MS) (f:=18) (k:=8) FA bJ bO (aP rfl) ⟨_,_,Tryz.func18,rfl⟩ rfl fun _ _ _=>by kernel_rfl
end Go.Pv
namespace Go.Pv
open Go Go.Proofs
theorem K6 (p:aV) (x:bQ) (K:List Int×Int→Prop):aN [(false,(Sy.int IntKind.i64).li),(false,Sy.int IntKind.i64)] (oE [a8 true aR p,a8 true bG x]) K=K (kQ (p,x)):=by
 rw[KU]
 exact ED _ K
end Go.Pv
namespace Go.Pv
open Go Go.Proofs
theorem D2 (p:aV) (x:bQ) (K:List Int×Int→Prop):aN [(false,(Sy.int IntKind.i64).li),(false,Sy.int IntKind.i64)] (iE [a8 true aR p,a8 true bG x]) K=K (kQ (p,x)):=by
 rw[DN]
 exact xM _ K
def rowOf (x:bQ) (p:aV):List Int:=vU p x.1 x.2.1 x.2.2.1 x.2.2.2
theorem yJ {l:List aV} {x:bQ} {G:List T→Option T} {R:T→Prop} (hl:l.length≤40) (hc:pZ x=0)
  (hG:∀ (p:aV) (K:List Int×Int→Prop),aN [(false,(Sy.int IntKind.i64).li),(false,Sy.int IntKind.i64)] (G [a8 true aR p,a8 true bG x]) K=K (kQ (p,x)))
  (hbad:l.all A6=false→R (T.aQ [T.sl false [],T.v (.int .i64 9)]))
  (hgood:l.all A6=true→R (T.aQ [T.sl false (List.map (Sy.int IntKind.i64).li.enc (l.map (rowOf x))),T.v (.int .i64 0)])) :
  bM (Int×List (List Int)×PUnit)
   (fun (X1:Int×List (List Int)×PUnit→Prop) (s2:Int×List (List Int)×PUnit) =>
    aB (decide (s2.1<((List.map aR.enc l).length:Int)))
     (aH aR (List.map aR.enc l) s2.1 fun (y3:aV) =>
      aN [(false,(Sy.int IntKind.i64).li),(false,Sy.int IntKind.i64)]
       (G [a8 true aR y3,a8 true bG x])
       fun (y4:List Int×Int) =>
       aB (!decide (y4.2=0))
        (R (T.aQ [T.sl false [],T.v (.int .i64 y4.2)]))
        (cQ
         (decide (((List.map (Sy.int IntKind.i64).li.enc s2.2.1).length+1)*24≤140737488355328) &&
          decide ((List.map (Sy.int IntKind.i64).li.enc s2.2.1).length+1≤140737488355328))
         (dH (Sy.int IntKind.i64).li
          (List.map (Sy.int IntKind.i64).li.enc s2.2.1++[[T.sl false (List.map (Sy.int IntKind.i64).enc y4.1)]])
          fun (y5:List (List Int))=>X1 (IntKind.i64.wrap (s2.1+1),y5,()))))
     (R (T.aQ [T.sl false (List.map (Sy.int IntKind.i64).li.enc s2.2.1),T.v (.int .i64 0)])))
   (0,[],()):=by
 refine aX l.length (fun k s=>s=((k:Int),(l.take k).map (rowOf x),())∧l.all A6=(l.drop k).all A6) ⟨rfl,by rw[List.drop_zero]⟩ ?_
 rintro X k s hk ⟨rfl,he⟩ hX
 dsimp only
 rw[List.length_map]
 refine sC (fun hlt=>?_) fun hge=>?_
 ·have hlt:k<l.length:=by omega
  have e:IntKind.i64.wrap ((k:Int)+1)=((k+1:Nat):Int):=bN _ (by omega) (by omega)
  rw[gW hlt] at he
  rw[aC (r:=aR) hlt,hG]
  cases hp:A6 l[k] with
  | false =>
   rw[vV hc hp]
   refine vL (fun _=>hbad (by rw[he,hp,Bool.false_and])) fun h=>absurd h (by decide)
  | true =>
   rw[rI hc hp]
   dsimp only
   refine vL (fun h=>absurd (by first|rfl|trivial) h) fun _=>?_
   rw[gF]
   refine ⟨by simp only[List.length_map,List.length_take,Bool.and_eq_true,decide_eq_true_eq];omega,?_⟩
   rw[gX (r:=(Sy.int IntKind.i64).li) rfl ((l.take k).map (rowOf x)) _ (rowOf x l[k]) rfl]
   refine hX _ hlt ⟨?_,by rw[he,hp,Bool.true_and]⟩
   rw[e,List.take_add_one,List.getElem?_eq_getElem hlt,List.map_append]
   rfl
 ·have:k=l.length:=by omega
  subst this
  rw[List.take_length]
  exact hgood (by rw[he];simp)
end Go.Pv
namespace Go.Pv
open Go Go.Proofs
theorem IL {l:List aV} {x:bQ} {t r:T} (h:(match decide (l.length≤40) with|true=>some t|false=>none)=some r):l.length≤40∧r=t:=by
 split at h
 ·rename_i hd;cases h;exact ⟨of_decide_eq_true hd,rfl⟩
 ·cases h
theorem RS:aU Tryz.prog 10 vG:=SL fun l x r h hb=>by
 obtain ⟨hl,rfl⟩:=IL (l:=l) (x:=x) h
 have is:∀ {q:List (List Int)} {n:Int},eC (l,x)=(q,n)→T.aQ [T.sl false (List.map (Sy.int IntKind.i64).li.enc q),T.v (.int .i64 n)]=Sh.enc l4 (eC (l,x)):=fun h=>by rw[h];rfl
 unfold FL
 rw[DJ]
 simp only[rT]
 rw[wD]
 refine vL (fun h=>is (q:=[]) (by unfold eC;rw[if_neg h])) fun hc=>?_
 exact yJ (G:=oE) (R:=fun y=>y=Sh.enc l4 (eC (l,x))) hl hc (fun p K=>K6 p x K) (fun h=>is (q:=[]) (by unfold eC;rw[if_pos hc,if_neg (by simp[h])])) (fun h=>is (by unfold eC;rw[if_pos hc,if_pos h];rfl))
theorem KI:aU Tryz.prog 18 lU:=LF fun l x r h hb=>by
 obtain ⟨hl,rfl⟩:=IL (l:=l) (x:=x) h
 have is:∀ {q:List (List Int)} {n:Int},eC (l,x)=(q,n)→T.aQ [T.sl false (List.map (Sy.int IntKind.i64).li.enc q),T.v (.int .i64 n)]=Sh.enc gD (eC (l,x)):=fun h=>by rw[h];rfl
 unfold tO
 rw[vC]
 simp only[j2]
 rw[pI]
 refine vL (fun h=>is (q:=[]) (by unfold eC;rw[if_neg h])) fun hc=>?_
 exact yJ (G:=iE) (R:=fun y=>y=Sh.enc gD (eC (l,x))) hl hc (fun p K=>D2 p x K) (fun h=>is (q:=[]) (by unfold eC;rw[if_pos hc,if_neg (by simp[h])])) (fun h=>is (by unfold eC;rw[if_pos hc,if_pos h];rfl))
theorem HN {l:List aV} {x:bQ} (h:l.length≤40):nE (l,x)=some (Sh.enc l4 (eC (l,x))):=by
 unfold nE;rw[decide_eq_true h]
theorem BZ {l:List aV} {x:bQ} (h:l.length≤40):hJ (l,x)=some (Sh.enc gD (eC (l,x))):=by
 unfold hJ;rw[decide_eq_true h]
end Go.Pv
namespace Go.Pv
open Go Go.Proofs
def A5:aV:=(⟨#[]⟩,0,0,0,0,0)
def dB (l:List aV) (o:List Int):List ByteArray:=o.map fun j=>(l.getD j.toNat A5).1
def gM (x:List aV×bQ×Int):List ByteArray×Int×Int :=
 if ¬ (eC (x.1,x.2.1)).2=0 then ([],0,(eC (x.1,x.2.1)).2)
 else if ¬ (cZ (eC (x.1,x.2.1)).1 x.2.2).2.2=0 then ([],0,(cZ (eC (x.1,x.2.1)).1 x.2.2).2.2)
 else (dB x.1 (cZ (eC (x.1,x.2.1)).1 x.2.2).1,(cZ (eC (x.1,x.2.1)).1 x.2.2).2.1,0)
theorem N8 {l:List aV} {x:bQ} (h:(eC (l,x)).2=0):(eC (l,x)).1.length=l.length:=by
 unfold eC at h ⊢
 dsimp only at h ⊢
 by_cases hc:pZ x=0
 ·rw[if_pos hc] at h ⊢
  by_cases hp:l.all A6=true
  ·rw[if_pos hp];simp
  ·rw[if_neg hp] at h;cases h
 ·rw[if_neg hc] at h;exact absurd h hc
theorem G2 {l:List aV} {o:List Int} {R:T→Prop} {E:List ByteArray→T} (hl:l.length≤40) (ho:∀ j∈o,0≤j∧j<(l.length:Int)) (ho2:o.length≤40) (hR:R (E (dB l o))) :
  bM (Int×List ByteArray×PUnit) (fun (X2:Int×List ByteArray×PUnit→Prop) (s3:Int×List ByteArray×PUnit) =>
   aB (decide (s3.1<((List.map (Sy.int IntKind.i64).enc o).length:Int)))
    (aH (Sy.int IntKind.i64) (List.map (Sy.int IntKind.i64).enc o) s3.1 fun (y4:Int)=>aH aR (List.map aR.enc l) y4 fun (y5:aV) =>
     cQ (decide (((List.map Sy.str.enc s3.2.1).length+1)*16≤140737488355328)&&decide ((List.map Sy.str.enc s3.2.1).length+1≤140737488355328))
      (dH Sy.str (List.map Sy.str.enc s3.2.1++[[T.v (.string y5.1)]]) fun (y6:List ByteArray)=>X2 (IntKind.i64.wrap (s3.1+1),y6,())))
    (R (E s3.2.1))) (0,[],()):=by
 refine aX o.length (fun k s=>s=((k:Int),dB l (o.take k),())) rfl ?_
 rintro X k s hk rfl hX
 dsimp only
 rw[List.length_map]
 refine bI (fun hlt=>?_) fun hge=>?_
 ·have hlt:k<o.length:=by omega
  have hj:=ho o[k] (List.getElem_mem hlt)
  have hjn:o[k].toNat<l.length:=by omega
  have hje:o[k]=((o[k].toNat:Nat):Int):=by omega
  rw[aC (r:=.int .i64) hlt,hje,aC (r:=aR) hjn,List.length_map]
  have hnl:(dB l (o.take k)).length=k:=by unfold dB;rw[List.length_map,List.length_take];omega
  refine ⟨by rw[hnl,Bool.and_eq_true,decide_eq_true_eq,decide_eq_true_eq];omega,?_⟩
  rw[gX (r:=.str) rfl (dB l (o.take k)) _ l[o[k].toNat].1 rfl]
  refine hX _ hlt ?_
  rw[bH hlt (by omega),nH hlt]
  unfold dB
  rw[List.map_append,List.map_singleton,show l.getD o[k].toNat A5=l[o[k].toNat] by simp[List.getD,hjn]]
 ·have:k=o.length:=by omega
  subst this
  rw[List.take_length];exact hR
theorem AZ {l:List aV} {o:List Int} {R:T→Prop} {E:List ByteArray→T} (hl:l.length≤40) (ho:∀ j∈o,0≤j∧j<(l.length:Int)) (ho2:o.length≤40) (hR:R (E (dB l o))) :
  bM (List ByteArray×Int×PUnit) (fun (X2:List ByteArray×Int×PUnit→Prop) (s3:List ByteArray×Int×PUnit) =>
   aB (decide (s3.2.1<((List.map (Sy.int IntKind.i64).enc o).length:Int)))
    (aH (Sy.int IntKind.i64) (List.map (Sy.int IntKind.i64).enc o) s3.2.1 fun (y4:Int)=>aH aR (List.map aR.enc l) y4 fun (y5:aV) =>
     cQ (decide (((List.map Sy.str.enc s3.1).length+1)*16≤140737488355328)&&decide ((List.map Sy.str.enc s3.1).length+1≤140737488355328))
      (dH Sy.str (List.map Sy.str.enc s3.1++[[T.v (.string y5.1)]]) fun (y6:List ByteArray)=>X2 (y6,IntKind.i64.wrap (s3.2.1+1),())))
    (R (E s3.1))) ([],0,()):=by
 refine aX o.length (fun k s=>s=(dB l (o.take k),(k:Int),())) rfl ?_
 rintro X k s hk rfl hX
 dsimp only
 rw[List.length_map]
 refine bI (fun hlt=>?_) fun hge=>?_
 ·have hlt:k<o.length:=by omega
  have hj:=ho o[k] (List.getElem_mem hlt)
  have hjn:o[k].toNat<l.length:=by omega
  have hje:o[k]=((o[k].toNat:Nat):Int):=by omega
  rw[aC (r:=.int .i64) hlt,hje,aC (r:=aR) hjn,List.length_map]
  have hnl:(dB l (o.take k)).length=k:=by unfold dB;rw[List.length_map,List.length_take];omega
  refine ⟨by rw[hnl,Bool.and_eq_true,decide_eq_true_eq,decide_eq_true_eq];omega,?_⟩
  rw[gX (r:=.str) rfl (dB l (o.take k)) _ l[o[k].toNat].1 rfl]
  refine hX _ hlt ?_
  rw[bH hlt (by omega),nH hlt]
  unfold dB
  rw[List.map_append,List.map_singleton,show l.getD o[k].toNat A5=l[o[k].toNat] by simp[List.getD,hjn]]
 ·have:k=o.length:=by omega
  subst this
  rw[List.take_length];exact hR
theorem H4 {l:List aV} {x:bQ} {steps:Int} (h1:(eC (l,x)).2=0) (h2:(cZ (eC (l,x)).1 steps).2.2=0) (hl:l.length≤40) :
  (∀ j∈(cZ (eC (l,x)).1 steps).1,0≤j∧j<(l.length:Int))∧(cZ (eC (l,x)).1 steps).1.length≤40:=by
 obtain ⟨_,g1,g2,_⟩:=FY h2
 rw[N8 h1] at g1 g2
 exact ⟨g1.2,by omega⟩
noncomputable def QL:Env:=Env.of [(10,.pure vG),(17,.pure o4)]
def QX:FuncId→Hint:=fM 7 [(9,.inv [.val 37 false (.int .i64),.own 13 1 .str])] (fun _=>bK)
theorem JI:aM Tryz.prog QL:=.cons RS (.cons NU (.nil _))
def zV (a0:List aV) (a1:bQ) (a2:Int) (R:T→Prop):Prop :=
 aN [(false,(Sy.int IntKind.i64).li.li),(false,Sy.int IntKind.i64)]
 (vG [T.sl false (List.map aR.enc a0),a8 true bG a1])
 fun (y0:List (List Int)×Int) =>
 aB (!decide (y0.2=0))
 (R
 (T.aQ
 [T.sl false [],T.v (.int .i64 0),
 T.v (.int .i64 y0.2)]))
 (aN
 [(false,(Sy.int IntKind.i64).li),(false,Sy.int IntKind.i64),
 (false,Sy.int IntKind.i64)]
 (o4
 [T.sl false (List.map (Sy.int IntKind.i64).li.enc y0.1),
 T.v (.int .i64 a2)])
 fun (y1:List Int×jJ) =>
 aB (!decide (y1.2.2=0))
 (R
 (T.aQ
 [T.sl false [],T.v (.int .i64 0),
 T.v (.int .i64 y1.2.2)]))
 (bM (Int×List ByteArray×PUnit)
 (fun (X2:Int×List ByteArray×PUnit→Prop) (s3:Int×List ByteArray×PUnit) =>
 aB (decide (s3.1<(↑(List.map (Sy.int IntKind.i64).enc y1.1).length:Int)))
 (aH (Sy.int IntKind.i64) (List.map (Sy.int IntKind.i64).enc y1.1) s3.1
 fun (y4:Int) =>
 aH aR (List.map aR.enc a0) y4 fun (y5:aV) =>
 cQ
 (decide (((List.map Sy.str.enc s3.2.1).length+1)*16≤140737488355328) &&
 decide ((List.map Sy.str.enc s3.2.1).length+1≤140737488355328))
 (dH Sy.str
 (List.map Sy.str.enc s3.2.1++[[T.v (.string y5.1)]])
 fun (y6:List ByteArray)=>X2 (IntKind.i64.wrap (s3.1+1),y6,())))
 (R
 (T.aQ
 [T.sl false (List.map Sy.str.enc s3.2.1),
 T.v (.int .i64 y1.2.1),T.v (.int .i64 0)])))
 (0,[],())))
abbrev BV:Sh:=[(false,aR.li),(true,bG),(false,(Sy.int IntKind.i64))]
abbrev gT:Sh:=[(false,Sy.str.li),(false,Sy.int IntKind.i64),(false,Sy.int IntKind.i64)]
theorem BG (y:Sh.den gT) (K:Sh.den gT→Prop):aN gT (some (Sh.enc gT y)) K=K y:=aZ rfl y K
def iP (x:List aV×bQ×Int):Option T:=match decide (x.1.length≤40) with
 | true=>some (Sh.enc gT (gM x))
 | false=>none
noncomputable def mQ:List T→Option T:=gS BV iP
theorem GO {a0 a1 a2}:mQ [T.sl false (List.map aR.enc a0),a8 true bG a1,
 T.v (.int .i64 a2)]=iP (a0,a1,a2):=bT (s:=BV) rfl (a0,a1,a2) rfl
theorem O9:V8 Tryz.prog 7 mQ iP (dO BV) zV:=O1 (a1:=(false,aR.li)) (a2:=(true,bG)) (a3:=(false,(Sy.int IntKind.i64))) (sp:=iP) (F:=zV) (Hs:=QX) (f:=7) (k:=8) JI bJ bO (aP rfl) ⟨_,_,Tryz.func7,rfl⟩ rfl fun _ _ _ _=>by kernel_rfl
theorem N0:aU Tryz.prog 7 mQ:=O9 fun l x steps r h hb=>by
 unfold iP at h
 split at h
 case h_2=>cases h
 rename_i hd
 cases h
 have hl:l.length≤40:=of_decide_eq_true hd
 have is:∀ {q:List ByteArray×Int×Int},gM (l,x,steps)=q→Sh.enc gT q=Sh.enc gT (gM (l,x,steps)):=fun h=>by rw[h]
 unfold zV
 rw[KT,HN hl,EC]
 refine sP (fun h=>is (q:=([],0,_)) (by unfold gM;rw[if_pos h])) fun h1=>?_
 rw[GK]
 simp only[mB]
 rw[BB]
 refine sP (fun h=>is (q:=([],0,_)) (by unfold gM;rw[if_neg (fun g=>g h1),if_pos h])) fun h2=>?_
 obtain ⟨g1,g2⟩:=H4 h1 h2 hl
 exact G2 (R:=fun y=>y=Sh.enc gT (gM (l,x,steps))) (E:=fun q=>T.aQ [T.sl false (List.map Sy.str.enc q),T.v (.int .i64 (cZ (eC (l,x)).1 steps).2.1),T.v (.int .i64 0)]) hl g1 g2
  (is (q:=(dB l (cZ (eC (l,x)).1 steps).1,_,0)) (by unfold gM;rw[if_neg (fun g=>g h1),if_neg (fun g=>g h2)]))
noncomputable def MA:Env:=Env.of [(18,.pure lU),(19,.pure lR)]
def MV:FuncId→Hint:=fM 8 [(9,.inv [.own 14 1 .str,.val 15 false (.int .i64)])] (fun _=>bK)
theorem FD:aM Tryz.prog MA:=.cons KI (.cons KF (.nil _))
def tR (a0:List aV) (a1:bQ) (a2:Int) (R:T→Prop):Prop :=
 aN [(false,(Sy.int IntKind.i64).li.li),(false,Sy.int IntKind.i64)]
 (lU [T.sl false (List.map aR.enc a0),a8 true bG a1])
 fun (y0:List (List Int)×Int) =>
 aB (!decide (y0.2=0))
 (R
 (T.aQ
 [T.sl false [],T.v (.int .i64 0),
 T.v (.int .i64 y0.2)]))
 (aN
 [(false,(Sy.int IntKind.i64).li),(false,Sy.int IntKind.i64),
 (false,Sy.int IntKind.i64)]
 (lR
 [T.sl false (List.map (Sy.int IntKind.i64).li.enc y0.1),
 T.v (.int .i64 a2)])
 fun (y1:List Int×jJ) =>
 aB (!decide (y1.2.2=0))
 (R
 (T.aQ
 [T.sl false [],T.v (.int .i64 0),
 T.v (.int .i64 y1.2.2)]))
 (bM (List ByteArray×Int×PUnit)
 (fun (X2:List ByteArray×Int×PUnit→Prop) (s3:List ByteArray×Int×PUnit) =>
 aB (decide (s3.2.1<(↑(List.map (Sy.int IntKind.i64).enc y1.1).length:Int)))
 (aH (Sy.int IntKind.i64) (List.map (Sy.int IntKind.i64).enc y1.1) s3.2.1
 fun (y4:Int) =>
 aH aR (List.map aR.enc a0) y4 fun (y5:aV) =>
 cQ
 (decide (((List.map Sy.str.enc s3.1).length+1)*16≤140737488355328) &&
 decide ((List.map Sy.str.enc s3.1).length+1≤140737488355328))
 (dH Sy.str
 (List.map Sy.str.enc s3.1++[[T.v (.string y5.1)]])
 fun (y6:List ByteArray)=>X2 (y6,IntKind.i64.wrap (s3.2.1+1),())))
 (R
 (T.aQ
 [T.sl false (List.map Sy.str.enc s3.1),
 T.v (.int .i64 y1.2.1),T.v (.int .i64 0)])))
 ([],0,())))
abbrev wO:Sh:=[(false,aR.li),(true,bG),(false,(Sy.int IntKind.i64))]
abbrev fD:Sh:=[(false,Sy.str.li),(false,Sy.int IntKind.i64),(false,Sy.int IntKind.i64)]
theorem xN (y:Sh.den fD) (K:Sh.den fD→Prop):aN fD (some (Sh.enc fD y)) K=K y:=aZ rfl y K
def fU (x:List aV×bQ×Int):Option T:=match decide (x.1.length≤40) with
 | true=>some (Sh.enc fD (gM x))
 | false=>none
noncomputable def jR:List T→Option T:=gS wO fU
theorem DO {a0 a1 a2}:jR [T.sl false (List.map aR.enc a0),a8 true bG a1,
 T.v (.int .i64 a2)]=fU (a0,a1,a2):=bT (s:=wO) rfl (a0,a1,a2) rfl
theorem LJ:V8 Tryz.prog 8 jR fU (dO wO) tR:=O1 (a1:=(false,aR.li)) (a2:=(true,bG)) (a3:=(false,(Sy.int IntKind.i64))) (sp:=fU) (F:=tR) (Hs:=MV) (f:=8) (k:=8) FD bJ bO (aP rfl) ⟨_,_,Tryz.func8,rfl⟩ rfl fun _ _ _ _=>by kernel_rfl
theorem KL:aU Tryz.prog 8 jR:=LJ fun l x steps r h hb=>by
 unfold fU at h
 split at h
 case h_2=>cases h
 rename_i hd
 cases h
 have hl:l.length≤40:=of_decide_eq_true hd
 have is:∀ {q:List ByteArray×Int×Int},gM (l,x,steps)=q→Sh.enc fD q=Sh.enc fD (gM (l,x,steps)):=fun h=>by rw[h]
 unfold tR
 rw[DM,BZ hl,xL]
 refine sP (fun h=>is (q:=([],0,_)) (by unfold gM;rw[if_pos h])) fun h1=>?_
 rw[DH]
 simp only[j0]
 rw[xI]
 refine sP (fun h=>is (q:=([],0,_)) (by unfold gM;rw[if_neg (fun g=>g h1),if_pos h])) fun h2=>?_
 obtain ⟨g1,g2⟩:=H4 h1 h2 hl
 exact AZ (R:=fun y=>y=Sh.enc fD (gM (l,x,steps))) (E:=fun q=>T.aQ [T.sl false (List.map Sy.str.enc q),T.v (.int .i64 (cZ (eC (l,x)).1 steps).2.1),T.v (.int .i64 0)]) hl g1 g2
  (is (q:=(dB l (cZ (eC (l,x)).1 steps).1,_,0)) (by unfold gM;rw[if_neg (fun g=>g h1),if_neg (fun g=>g h2)]))
noncomputable def MB:Env:=Env.of []
def MW:FuncId→Hint:=fM 9 [(4,.inv [.val 5 false (.int .i64)])] (fun _=>bK)
theorem FE:aM Tryz.prog MB:=.nil _
def tS (a0:List ByteArray) (a1:List ByteArray) (R:T→Prop):Prop :=
 aB (!decide ((↑(List.map Sy.str.enc a0).length:Int)=(↑(List.map Sy.str.enc a1).length:Int)))
 (R (T.v (.bool false)))
 (bM (Int×PUnit)
 (fun (X0:Int×PUnit→Prop) (s1:Int×PUnit) =>
 aB (decide (s1.1<(↑(List.map Sy.str.enc a0).length:Int)))
 (aH Sy.str (List.map Sy.str.enc a0) s1.1 fun (y2:ByteArray) =>
 aH Sy.str (List.map Sy.str.enc a1) s1.1 fun (y3:ByteArray) =>
 aB (!decide (y2=y3)) (R (T.v (.bool false)))
 (X0 (IntKind.i64.wrap (s1.1+1),())))
 (R (T.v (.bool true))))
 (0,()))
abbrev wP:Sh:=[(false,Sy.str.li),(false,Sy.str.li)]
abbrev jW:Sh:=[(false,Sy.bool)]
theorem xO (y:Sh.den jW) (K:Sh.den jW→Prop):aN jW (some (Sh.enc jW y)) K=K y:=aZ rfl y K
def j6 (x:List ByteArray×List ByteArray):Option T:=some (Sh.enc jW (decide (x.1=x.2)))
noncomputable def jS:List T→Option T:=gS wP j6
theorem DP {a0 a1}:jS [T.sl false (List.map Sy.str.enc a0),T.sl false (List.map Sy.str.enc a1)]=j6 (a0,a1):=bT (s:=wP) rfl (a0,a1) rfl
theorem LK:E0 Tryz.prog 9 jS j6 (dO wP) tS:=nM (a1:=(false,Sy.str.li)) (a2:=(false,Sy.str.li)) (sp:=j6) (F:=tS) (Hs:=MW) (f:=9) (k:=8) FE bJ bO (aP rfl) ⟨_,_,Tryz.func9,rfl⟩ rfl fun _ _ _=>by kernel_rfl
theorem KM:aU Tryz.prog 9 jS:=LK fun a b r h hb=>by
 cases h
 have hl:a.length≤2 ^ 47:=hb.1.1
 have is:∀ {n:Bool},decide (a=b)=n→T.v (.bool n)=Sh.enc jW (decide (a=b)):=fun h=>by rw[h];rfl
 unfold tS
 simp only[List.length_map]
 refine sP (fun h=>is (by rw[decide_eq_false];rintro rfl;exact h rfl)) fun h1=>?_
 have h1:a.length=b.length:=by omega
 refine aX a.length (fun k s=>s=((k:Int),())∧decide (a=b)=decide (a.drop k=b.drop k)) ⟨rfl,by simp only[List.drop_zero]⟩ ?_
 rintro X k s hk ⟨rfl,he⟩ hX
 dsimp only
 refine bI (fun hlt=>?_) (fun hge=>?_)
 ·have hlt:k<a.length:=by omega
  rw[List.drop_eq_getElem_cons hlt,List.drop_eq_getElem_cons (show k<b.length by omega)] at he
  rw[aC (r:=.str) hlt,aC (r:=.str) (show k<b.length by omega)]
  refine sP (fun h=>is ?_) fun h=>hX _ hlt ⟨by rw[bH hlt hl],?_⟩
  ·rw[he];exact decide_eq_false fun e=>h (List.cons.inj e).1
  ·rw[he];exact decide_eq_decide.2 ⟨fun e=>(List.cons.inj e).2,fun e=>by rw[h,e]⟩
 ·have:k=a.length:=by omega
  subst this
  exact is (by rw[he];simp[h1])
def jF (x:List aV×bQ×Int):Option T:=some (.v (.bool true))
noncomputable def E5:Env:=Env.of [(5,.pure o5),(7,.pure mQ),(8,.pure jR),(9,.pure jS),(6,.pure dT)]
def FO:FuncId→Hint:=fun _=>bK
theorem zN:aM Tryz.prog E5:=.cons NY (.cons N0 (.cons KL (.cons KM (.cons GG (.nil _)))))
def n5 (a0:List aV) (a1:bQ) (a2:Int) (R:T→Prop):Prop :=
 aN [(false,Sy.bool)] (o5 [a8 true bG a1]) fun (y0:Bool) =>
 aB (!y0)
 (aN [(false,Sy.bool)] (dT []) fun (y1:Bool)=>R (T.v (.bool y1)))
 (aB (decide (40<(↑(List.map aR.enc a0).length:Int)))
 (aN [(false,Sy.bool)] (dT []) fun (y2:Bool)=>R (T.v (.bool y2)))
 (aB (decide (5<(↑(List.map aR.enc a0).length:Int)))
 (aB (decide (60<a2))
 (aN [(false,Sy.bool)] (dT []) fun (y3:Bool) =>
 R (T.v (.bool y3)))
 (aN
 [(false,Sy.str.li),(false,Sy.int IntKind.i64),(false,Sy.int IntKind.i64)]
 (mQ
 [T.sl false (List.map aR.enc a0),a8 true bG a1,
 T.v (.int .i64 a2)])
 fun (y4:List ByteArray×jJ) =>
 aN
 [(false,Sy.str.li),(false,Sy.int IntKind.i64),(false,Sy.int IntKind.i64)]
 (jR
 [T.sl false (List.map aR.enc a0),a8 true bG a1,
 T.v (.int .i64 a2)])
 fun (y5:List ByteArray×jJ) =>
 aN [(false,Sy.bool)]
 (jS
 [T.sl false (List.map Sy.str.enc y4.1),
 T.sl false (List.map Sy.str.enc y5.1)])
 fun (y6:Bool) =>
 aB y6
 (aB (decide (y4.2.1=y5.2.1))
 (aB (decide (y4.2.2=y5.2.2))
 (aN [(false,Sy.bool)] (dT []) fun (y7:Bool) =>
 R (T.v (.bool y7)))
 (R (T.v (.bool false))))
 (R (T.v (.bool false))))
 (R (T.v (.bool false)))))
 (aN
 [(false,Sy.str.li),(false,Sy.int IntKind.i64),(false,Sy.int IntKind.i64)]
 (mQ
 [T.sl false (List.map aR.enc a0),a8 true bG a1,
 T.v (.int .i64 a2)])
 fun (y8:List ByteArray×jJ) =>
 aN
 [(false,Sy.str.li),(false,Sy.int IntKind.i64),(false,Sy.int IntKind.i64)]
 (jR
 [T.sl false (List.map aR.enc a0),a8 true bG a1,
 T.v (.int .i64 a2)])
 fun (y9:List ByteArray×jJ) =>
 aN [(false,Sy.bool)]
 (jS
 [T.sl false (List.map Sy.str.enc y8.1),
 T.sl false (List.map Sy.str.enc y9.1)])
 fun (y10:Bool) =>
 aB y10
 (aB (decide (y8.2.1=y9.2.1))
 (aB (decide (y8.2.2=y9.2.2))
 (aN [(false,Sy.bool)] (dT []) fun (y11:Bool) =>
 R (T.v (.bool y11)))
 (R (T.v (.bool false))))
 (R (T.v (.bool false))))
 (R (T.v (.bool false))))))
abbrev oL:Sh:=[(false,aR.li),(true,bG),(false,(Sy.int IntKind.i64))]
noncomputable def vI:List T→Option T:=gS oL jF
theorem D6:V8 Tryz.prog 3 vI jF (dO oL) n5:=O1 (a1:=(false,aR.li)) (a2:=(true,bG)) (a3:=(false,(Sy.int IntKind.i64))) (sp:=jF) (F:=n5) (Hs:=FO) (f:=3) (k:=8) zN bJ bO (aP rfl) ⟨_,_,Tryz.func3,rfl⟩ rfl fun _ _ _ _=>by kernel_rfl
theorem ES {l:List aV} {x:bQ} {steps:Int} (h:l.length≤40):iP (l,x,steps)=some (Sh.enc gT (gM (l,x,steps))):=by
 unfold iP;rw[decide_eq_true h]
theorem B0 {l:List aV} {x:bQ} {steps:Int} (h:l.length≤40):fU (l,x,steps)=some (Sh.enc fD (gM (l,x,steps))):=by
 unfold fU;rw[decide_eq_true h]
theorem C9:aU Tryz.prog 3 vI:=D6 fun l x steps r h hb=>by
 cases h
 unfold n5
 rw[GM]
 simp only[mC]
 rw[BD]
 refine gB.2 ⟨fun _=>by rw[fB],fun _=>?_⟩
 refine bI (fun _=>by rw[fB]) fun hl=>?_
 have hl:l.length≤40:=by simp only[List.length_map] at hl;omega
 rw[GO,ES hl,BG,DO,B0 hl,xN,DP]
 simp only[j6]
 rw[xO]
 have fin:∀ {p q s:Prop} {i1:Decidable p} {i2:Decidable q} {i3:Decidable s},p→q→s→aB (@decide p i1) (aB (@decide q i2) (aB (@decide s i3)
   (aN [(false,Sy.bool)] (dT []) fun (y7:Bool)=>T.v (.bool y7)=T.v (.bool true)) (T.v (.bool false)=T.v (.bool true))) (T.v (.bool false)=T.v (.bool true))) (T.v (.bool false)=T.v (.bool true)):=fun hp hq hs=>by
  refine bI (fun _=>?_) fun h=>absurd hp h
  refine bI (fun _=>?_) fun h=>absurd hq h
  refine bI (fun _=>?_) fun h=>absurd hs h
  rw[fB]
 exact bI (fun _=>bI (fun _=>by rw[fB]) fun _=>fin (by trivial) (by trivial) (by trivial)) fun _=>fin (by trivial) (by trivial) (by trivial)
end Go.Pv
