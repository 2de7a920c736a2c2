/-
  Facts on the program that every function's file asks for.
  The seam, the part, the section with an identifier.
  Flow shops, plain: the search for the best sequence, and its bound.
  Flow shops, plain: the table of times, the check of a shop, and what flow.Best answers.
  Flow shops, plain: which lists are sequences, Makespan, and PanelBest's law.
  flow's functions: Index, Contains, last, finish.
  flow.finish and the reference's times: the table of times.
  The reference's times: the table of times.
  R37.has, last, length; flow.right.
  The bounds, in the program and in the reference.
  flow.bound.
  The errors of a shop.
  The search, plain: with the state behind a search that has used up its steps.
  flow.Best's search: a closure that calls itself.
  R37's search: a function that calls itself and turns its caller's record.
  flow.Best and R37.Best.
  slices.Clone of numbers; a form of it that runs.
  The examples of chapter 39, run by the kernel.
  PanelMinutes: the functions.
  PanelMinutes: what the functions compute: CheckLine, few, Ints, Ceil.
  PanelMinutes: Ceil, and Minutes as they are walked.
  PanelMinutes: what Minutes computes, in the program and in the reference.
  PanelMinutes: the law's function.
  PanelJobs: the functions, walked.
  PanelMore: the law's function.
  PanelJobs: what Jobs computes.
  PanelJobs: Jobs in the program and in the reference, SameRows, the law.
  Plan in the program and in the reference; PanelPlans' function.
  Finish, Makespan; PanelBest's function.
  PanelBest's function.
-/
import Derived.Test.YtlongjgklndggaaGreatDoorVbki
import Derived.Test.YtlongjgklndggaaGreatDoorVbty
import Derived.Test.YtlongjgklndggaaGreatDoorProg
import Derived.KernelRfl
import Derived.Test.YtlongjgklndggaaGreatDoorVbin
import Derived.Test.YtlongjgklndggaaGreatDoorVbkx
import Derived.Test.YtlongjgklndggaaGreatDoorVblu
import Derived.Shelf.Slices.Clone
import Derived.Test.YtlongjgklndggaaGreatDoorVbgs
import Derived.Test.YtlongjgklndggaaGreatDoorVbge
import Derived.Test.YtlongjgklndggaaGreatDoorVbkj
set_option linter.defProp false
set_option linter.unusedSimpArgs false
set_option linter.unusedVariables false
namespace Go.Pv
open Go Go.Proofs
theorem cT:Tryz.prog.follows .mixedOrders=true:=by kernel_rfl
theorem cX:a6 Tryz.prog=true:=by kernel_rfl
end Go.Pv
set_option maxRecDepth 100000
namespace Go.Pv
open Go Go.Proofs
def found {α:Type} (no:α) (o:Option α):α×Bool:=match o with
 | some s=>(s,true)
 | none=>(no,false)
end Go.Pv
namespace Go.Pv
open Go Go.Proofs
def dC:Int→List Int→List Int→List Int
 | a,b::bs,n::ns=>(max a b+n)::dC (max a b+n) bs ns
 | _,_,_=>[]
def aJ (p:List (List Int)):List Int→List Int→List Int
 | row,[]=>row
 | row,j::l=>aJ p (dC 0 row (p.getD j.toNat [])) l
theorem fL (p:List (List Int)):∀ (l m:List Int) (row:List Int),aJ p row (l++m)=aJ p (aJ p row l) m
 | [],_,_=>rfl
 | j::l,m,row=>fL p l m _
structure bU where
 left:Int
 found:Bool
 span:Int
 order:List Int
section
variable (p : List (List Int)) (cols : Nat) (len : List Int → Int) (bnd : List Int → Nat → Int)
def lI:Nat→List Int→bU→Option bU
 | 0,_,_=>none
 | f+1,pre,s =>
  if pre.length=p.length then some (if s.found=false∨len pre<s.span then { s with found:=true,span:=len pre,order:=pre } else s)
  else if s.found=true∧∃ i,i<cols∧s.span≤bnd pre i then some s
  else if s.left≤0 then none
  else (List.range p.length).foldl (fun (o:Option bU) (j:Nat)=>o.bind fun s=>if (j:Int)∈pre then some s else lI f (pre++[(j:Int)]) s) (some { s with left:=s.left-1 })
end
theorem iT:∀ {l m:List Int},l.Nodup→(∀ x∈l,x∈m)→l.length≤m.length
 | [],_,_,_=>Nat.zero_le _
 | a::l,m,hn,hs=>by
  obtain ⟨h1,h2⟩:=List.nodup_cons.1 hn
  have ha:=hs a List.mem_cons_self
  have:=iT (l:=l) (m:=m.erase a) h2 fun x hx=>(List.mem_erase_of_ne (fun e=>h1 (by rw[←e];exact hx))).2 (hs x (List.mem_cons_of_mem _ hx))
  rw[List.length_erase_of_mem ha] at this
  have:=List.length_pos_of_mem ha
  rw[List.length_cons];omega
def eX (n:Nat):List Int:=(List.range n).map fun j:Nat=>(j:Int)
theorem oA (n:Nat):(eX n).Nodup:=by
 unfold eX List.Nodup
 rw[List.pairwise_map]
 exact (List.nodup_range (n:=n)).imp fun {a b} h e=>h (by omega)
theorem gT {n:Nat} {j:Int}:j∈eX n↔0≤j∧j<n:=by
 unfold eX
 rw[List.mem_map]
 constructor
 ·rintro ⟨i,hi,rfl⟩
  have:=List.mem_range.1 hi
  omega
 ·rintro ⟨h1,h2⟩
  exact ⟨j.toNat,List.mem_range.2 (by omega),by omega⟩
def Diff (n:Nat) (l:List Int):Prop:=l.Nodup∧∀ j∈l,0≤j∧j<n
section
variable {p : List (List Int)} {cols : Nat} {len : List Int → Int} {bnd : List Int → Nat → Int}
structure eR (p:List (List Int)) (len:List Int→Int) (s s':bU):Prop where
 less:s.found=true→s'.found=true∧s'.span≤s.span
 real:s'.found=true→(s.found=true∧s'.span=s.span∧s'.order=s.order)∨(Diff p.length s'.order∧s'.order.length=p.length∧s'.span=len s'.order)
theorem eR.refl (s:bU):eR p len s s:=⟨fun h=>⟨h,Int.le_refl _⟩,fun h=>.inl ⟨h,rfl,rfl⟩⟩
theorem eR.trans {a b c:bU} (h1:eR p len a b) (h2:eR p len b c):eR p len a c:=by
 refine ⟨fun h=>?_,fun h=>?_⟩
 ·obtain ⟨g1,g2⟩:=h1.less h
  obtain ⟨g3,g4⟩:=h2.less g1
  exact ⟨g3,Int.le_trans g4 g2⟩
 ·rcases h2.real h with ⟨g1,g2,g3⟩|g
  ·rcases h1.real g1 with ⟨k1,k2,k3⟩|⟨k1,k2,k3⟩
   ·exact .inl ⟨k1,g2.trans k2,g3.trans k3⟩
   ·exact .inr ⟨by rw[g3];exact k1,by rw[g3];exact k2,by rw[g2,g3];exact k3⟩
  ·exact .inr g
theorem Diff.snoc {n:Nat} {l:List Int} {j:Nat} (h:Diff n l) (hj:j<n) (hn:(j:Int)∉l):Diff n (l++[(j:Int)]):=by
 refine ⟨?_,fun i hi=>?_⟩
 ·rw[List.nodup_append]
  exact ⟨h.1,by simp,fun a ha b hb e=>hn (by rw[List.mem_singleton.1 hb] at e;exact e ▸ ha)⟩
 ·rcases List.mem_append.1 hi with hi|hi
  ·exact h.2 i hi
  ·rw[List.mem_singleton.1 hi];omega
theorem IM (hb:∀ pre i q,i<cols→Diff p.length (pre++q)→(pre++q).length=p.length→bnd pre i≤len (pre++q)) :
  ∀ (f:Nat) (pre:List Int) (s s':bU),Diff p.length pre→p.length<f+pre.length→lI p cols len bnd f pre s=some s' →
   eR p len s s'∧s'.found=true∧∀ q,Diff p.length (pre++q)→(pre++q).length=p.length→s'.span≤len (pre++q):=by
 intro f
 induction f with
 | zero=>intro pre s s' _ _ h;cases h
 | succ f ih =>
  intro pre s s' hd hf h
  unfold lI at h
  split at h
  ·rename_i hl
   have hq:∀ q,(pre++q).length=p.length→q=[]:=fun q hq=>by
    rw[List.length_append] at hq
    exact List.eq_nil_of_length_eq_zero (by omega)
   split at h
   ·rename_i hc
    cases h
    refine ⟨⟨fun h=>⟨rfl,?_⟩,fun _=>.inr ⟨hd,hl,rfl⟩⟩,rfl,fun q _ hq'=>?_⟩
    ·rcases hc with hc|hc
     ·rw[h] at hc;cases hc
     ·exact Int.le_of_lt hc
    ·rw[hq q hq',List.append_nil];exact Int.le_refl _
   ·rename_i hc
    cases h
    rw[not_or] at hc
    have hfd:s.found=true:=by simpa using hc.1
    exact ⟨eR.refl _,hfd,fun q _ hq'=>by rw[hq q hq',List.append_nil];exact Int.not_lt.1 hc.2⟩
  rename_i hl
  split at h
  ·rename_i hc
   cases h
   obtain ⟨hfd,i,hi,hs⟩:=hc
   exact ⟨eR.refl _,hfd,fun q h1 h2=>Int.le_trans hs (hb pre i q hi h1 h2)⟩
  split at h
  ·cases h
  have hpl:pre.length<p.length∨p.length<pre.length:=by omega
  have key:∀ (js:List Nat) (a b:bU),(∀ j∈js,j<p.length)→js.foldl (fun (o:Option bU) (j:Nat)=>o.bind fun s=>if (j:Int)∈pre then some s else lI p cols len bnd f (pre++[(j:Int)]) s) (some a)=some b →
    eR p len a b∧∀ j∈js,(j:Int)∉pre→b.found=true∧∀ q,Diff p.length (pre++(j:Int)::q)→(pre++(j:Int)::q).length=p.length→b.span≤len (pre++(j:Int)::q):=by
   intro js
   induction js with
   | nil=>intro a b _ h;cases h;exact ⟨eR.refl _,fun j hj=>by cases hj⟩
   | cons j js ihj =>
    intro a b hj h
    rw[List.foldl_cons] at h
    have nn:∀ js:List Nat,js.foldl (fun (o:Option bU) (j:Nat)=>o.bind fun s=>if (j:Int)∈pre then some s else lI p cols len bnd f (pre++[(j:Int)]) s) (none:Option bU)=none:=fun js=>by
     induction js with
     | nil=>rfl
     | cons j js ih=>rw[List.foldl_cons];exact ih
    by_cases hm:(j:Int)∈pre
    ·rw[show (some a:Option bU).bind (fun s=>if (j:Int)∈pre then some s else lI p cols len bnd f (pre++[(j:Int)]) s)=some a from if_pos hm] at h
     obtain ⟨k1,k2⟩:=ihj a b (fun i hi=>hj i (List.mem_cons_of_mem _ hi)) h
     exact ⟨k1,fun i hi hn=>by
      rcases List.mem_cons.1 hi with rfl|hi
      ·exact absurd hm hn
      ·exact k2 i hi hn⟩
    ·rw[show (some a:Option bU).bind (fun s=>if (j:Int)∈pre then some s else lI p cols len bnd f (pre++[(j:Int)]) s)=lI p cols len bnd f (pre++[(j:Int)]) a from if_neg hm] at h
     cases hs:lI p cols len bnd f (pre++[(j:Int)]) a with
     | none=>rw[hs,nn] at h;cases h
     | some c =>
      rw[hs] at h
      obtain ⟨g1,g2,g3⟩:=ih (pre++[(j:Int)]) a c (hd.snoc (hj j List.mem_cons_self) hm) (by rw[List.length_append];simp;omega) hs
      obtain ⟨k1,k2⟩:=ihj c b (fun i hi=>hj i (List.mem_cons_of_mem _ hi)) h
      refine ⟨g1.trans k1,fun i hi hn=>?_⟩
      rcases List.mem_cons.1 hi with rfl|hi
      ·obtain ⟨m1,m2⟩:=k1.less g2
       refine ⟨m1,fun q hq1 hq2=>Int.le_trans m2 ?_⟩
       have e:pre++(i:Int)::q=(pre++[(i:Int)])++q:=by simp
       rw[e] at hq1 hq2 ⊢
       exact g3 q hq1 hq2
      ·exact k2 i hi hn
  obtain ⟨k1,k2⟩:=key (List.range p.length) _ _ (fun j hj=>List.mem_range.1 hj) h
  have k0:eR p len s s':=(⟨fun h=>⟨h,Int.le_refl _⟩,fun h=>.inl ⟨h,rfl,rfl⟩⟩:eR p len s { s with left:=s.left-1 }).trans k1
  have fresh:∀ q,Diff p.length (pre++q)→(pre++q).length=p.length→∃ j q',j<p.length∧(j:Int)∉pre∧q=(j:Int)::q':=fun q h1 h2=>by
   cases q with
   | nil=>rw[List.append_nil] at h2;exact absurd h2 hl
   | cons j q =>
    obtain ⟨b1,b2⟩:=h1.2 j (List.mem_append_right _ List.mem_cons_self)
    refine ⟨j.toNat,q,by omega,?_,by rw[Int.toNat_of_nonneg b1]⟩
    rw[Int.toNat_of_nonneg b1]
    intro hm
    exact (List.nodup_append.1 h1.1).2.2 j hm j List.mem_cons_self rfl
  have hle:pre.length≤p.length:=by
   have:=iT (m:=eX p.length) hd.1 fun j hj=>gT.2 (hd.2 j hj)
   simpa [eX] using this
  have some_job:∃ j,j<p.length∧(j:Int)∉pre:=by
   refine Classical.byContradiction fun hc=>?_
   have h1:=iT (l:=eX p.length) (m:=pre) (oA _) fun x hx=>by
    obtain ⟨a1,a2⟩:=gT.1 hx
    refine Classical.byContradiction fun hm=>hc ⟨x.toNat,by omega,?_⟩
    rw[Int.toNat_of_nonneg a1];exact hm
   simp[eX] at h1
   omega
  obtain ⟨j,hj,hjn⟩:=some_job
  refine ⟨k0,(k2 j (List.mem_range.2 hj) hjn).1,fun q h1 h2=>?_⟩
  obtain ⟨i,q',hi,hin,rfl⟩:=fresh q h1 h2
  exact (k2 i (List.mem_range.2 hi) hin).2 q' h1 h2
end
def fT (row:List Int) (i:Nat):Int:=(row.drop (i+1)).sum
def nI (p:List (List Int)) (i:Nat) (q:List Int):Int:=(q.map fun j=>(p.getD j.toNat []).getD i 0).sum
def e8 (p:List (List Int)) (pre:List Int) (i:Nat) (a:Int×Int) (j:Nat):Int×Int :=
 if (j:Int)∈pre then a
 else (a.1+(p.getD j []).getD i 0,if a.2<0∨fT (p.getD j []) i<a.2 then fT (p.getD j []) i else a.2)
def kF (p:List (List Int)) (m:Nat) (pre:List Int) (i:Nat):Int :=
 let r:=(List.range p.length).foldl (e8 p pre i) ((aJ p (List.replicate m 0) pre).getD i 0,-1)
 r.1+max r.2 0
def e9 (p:List (List Int)) (m:Nat) (l:List Int):Int:=(aJ p (List.replicate m 0) l).getLastD 0
def vA (p:List (List Int)) (m:Nat):Prop:=∀ row∈p,row.length=m∧∀ n∈row,(0:Int)≤n
theorem F8:∀ (l m:List Int),(l++m).sum=l.sum+m.sum
 | [],m=>by simp
 | a::l,m=>by rw[List.cons_append,List.sum_cons,List.sum_cons,F8 l m];omega
theorem MB {l m:List Int} (h:l.Perm m):l.sum=m.sum:=by
 induction h with
 | nil=>rfl
 | cons x _ ih=>rw[List.sum_cons,List.sum_cons,ih]
 | swap x y l=>simp only[List.sum_cons];omega
 | trans _ _ h1 h2=>exact h1.trans h2
theorem gV:∀ {l:List Int},(∀ n∈l,0≤n)→0≤l.sum
 | [],_=>by simp
 | a::l,h=>by
  rw[List.sum_cons]
  have:=h a List.mem_cons_self
  have:=gV (l:=l) fun n hn=>h n (List.mem_cons_of_mem _ hn)
  omega
theorem lC:∀ (a:Int) (bs ns:List Int),bs.length=ns.length→(dC a bs ns).length=ns.length
 | _,[],[],_=>rfl
 | a,b::bs,n::ns,h=>by
  rw[dC,List.length_cons,List.length_cons,lC _ bs ns (by simpa using h)]
 | _,[],_::_,h=>by simp at h
 | _,_::_,[],h=>by simp at h
theorem yW:∀ (a:Int) (bs ns:List Int) (i:Nat),bs.length=ns.length→i<ns.length→bs.getD i 0+ns.getD i 0≤(dC a bs ns).getD i 0
 | a,b::bs,n::ns,0,_,_=>by
  rw[dC];simp only[List.getD_cons_zero];omega
 | a,b::bs,n::ns,i+1,h,hi=>by
  rw[dC];simp only[List.getD_cons_succ]
  exact yW _ bs ns i (by simpa using h) (by simpa using hi)
 | _,_,[],_,_,hi=>by simp at hi
 | _,[],_::_,_,h,_=>by simp at h
theorem BW:∀ (a:Int) (bs ns:List Int),bs.length=ns.length→a+ns.sum≤(dC a bs ns).getLastD a
 | a,[],[],_=>by simp[dC]
 | a,b::bs,n::ns,h=>by
  rw[dC,List.getLastD_cons,List.sum_cons]
  have:=BW (max a b+n) bs ns (by simpa using h)
  omega
 | _,[],_::_,h=>by simp at h
 | _,_::_,[],h=>by simp at h
theorem pG:∀ (a:Int) (bs ns:List Int) (i:Nat),bs.length=ns.length→i<ns.length→(dC a bs ns).getD i 0+fT ns i≤(dC a bs ns).getLastD a
 | a,b::bs,n::ns,0,h,_=>by
  rw[dC,List.getLastD_cons];simp only[List.getD_cons_zero]
  exact BW (max a b+n) bs ns (by simpa using h)
 | a,b::bs,n::ns,i+1,h,hi=>by
  rw[dC,List.getLastD_cons];simp only[List.getD_cons_succ]
  exact pG _ bs ns i (by simpa using h) (by simpa using hi)
 | _,_,[],_,_,hi=>by simp at hi
 | _,[],_::_,_,h,_=>by simp at h
section
variable {p : List (List Int)} {m : Nat}
theorem vA.row (h:vA p m) {j:Nat} (hj:j<p.length):(p.getD j []).length=m∧∀ n∈p.getD j [],(0:Int)≤n:=by
 have e:p.getD j []=p[j]:=by simp[List.getD,hj]
 rw[e]
 exact h _ (List.getElem_mem hj)
theorem c5 (h:vA p m):∀ (q:List Int) (r:List Int),(∀ j∈q,0≤j∧j<p.length)→r.length=m→(aJ p r q).length=m
 | [],_,_,hr=>hr
 | j::q,r,hq,hr=>by
  have hj:=hq j List.mem_cons_self
  have:=h.row (j:=j.toNat) (by omega)
  exact c5 h q _ (fun k hk=>hq k (List.mem_cons_of_mem _ hk)) ((lC _ _ _ (by rw[hr,this.1])).trans this.1)
theorem tT (h:vA p m) {i:Nat} (hi:i<m):∀ (q:List Int) (r:List Int),(∀ j∈q,0≤j∧j<p.length)→r.length=m→r.getD i 0+nI p i q≤(aJ p r q).getD i 0
 | [],r,_,_=>by simp[nI,aJ]
 | j::q,r,hq,hr=>by
  have hj:=hq j List.mem_cons_self
  have hw:=h.row (j:=j.toNat) (by omega)
  have h1:=tT h hi q (dC 0 r (p.getD j.toNat [])) (fun k hk=>hq k (List.mem_cons_of_mem _ hk)) ((lC _ _ _ (by rw[hr,hw.1])).trans hw.1)
  have h2:=yW 0 r (p.getD j.toNat []) i (by rw[hr,hw.1]) (by rw[hw.1];exact hi)
  have h3:nI p i (j::q)=(p.getD j.toNat []).getD i 0+nI p i q:=by simp[nI]
  rw[h3]
  show _≤(aJ p (dC 0 r (p.getD j.toNat [])) q).getD i 0
  omega
theorem zY (h:vA p m) (pre:List Int) (i:Nat):∀ (js:List Nat) (a:Int×Int),(∀ j∈js,j<p.length) →
  (js.foldl (e8 p pre i) a).1=a.1+nI p i ((js.map fun j:Nat=>(j:Int)).filter fun j=>decide (j∉pre)) ∧
  ((js.foldl (e8 p pre i) a).2≤a.2∨a.2<0) ∧
  (0≤a.2→0≤(js.foldl (e8 p pre i) a).2) ∧
  ((∀ j∈js,(j:Int)∈pre)→(js.foldl (e8 p pre i) a).2=a.2) ∧
  (∀ j∈js,(j:Int)∉pre→0≤(js.foldl (e8 p pre i) a).2∧(js.foldl (e8 p pre i) a).2≤fT (p.getD j []) i)
 | [],a,_=>⟨by simp[nI],.inl (Int.le_refl _),id,fun _=>rfl,fun j hj=>by cases hj⟩
 | j::js,a,hj=>by
  have hr:0≤fT (p.getD j []) i:=gV fun n hn=>(h.row (hj j List.mem_cons_self)).2 n (List.mem_of_mem_drop hn)
  obtain ⟨k1,k2,k3,k4,k5⟩:=zY h pre i js (e8 p pre i a j) fun i hi=>hj i (List.mem_cons_of_mem _ hi)
  rw[List.foldl_cons]
  by_cases hm:(j:Int)∈pre
  ·have e:e8 p pre i a j=a:=if_pos hm
   rw[e] at k1 k2 k3 k4 k5 ⊢
   refine ⟨by rw[k1];simp[hm],k2,k3,fun h=>k4 fun i hi=>h i (List.mem_cons_of_mem _ hi),fun i hi hn=>?_⟩
   rcases List.mem_cons.1 hi with rfl|hi
   ·exact absurd hm hn
   ·exact k5 i hi hn
  ·have e:e8 p pre i a j=(a.1+(p.getD j []).getD i 0,if a.2<0∨fT (p.getD j []) i<a.2 then fT (p.getD j []) i else a.2):=if_neg hm
   rw[e] at k1 k2 k3 k4 k5 ⊢
   have hb:∀ b,b=(if a.2<0∨fT (p.getD j []) i<a.2 then fT (p.getD j []) i else a.2)→0≤b∧b≤fT (p.getD j []) i∧(b≤a.2∨a.2<0):=fun b hb=>by
    split at hb<;>(subst hb;omega)
   obtain ⟨b1,b2,b3⟩:=hb _ rfl
   have k3':=k3 b1
   dsimp only at k1 k2 k3'
   refine ⟨?_,?_,fun _=>k3',fun h=>absurd (h j List.mem_cons_self) hm,fun i hi hn=>?_⟩
   ·rw[k1];simp[hm,nI];omega
   ·omega
   ·rcases List.mem_cons.1 hi with rfl|hi
    ·exact ⟨k3',by omega⟩
    ·exact k5 i hi hn
theorem QK (h:vA p m) {pre q:List Int} {i:Nat} (hi:i<m) (hp:0<p.length) (hd:Diff p.length (pre++q)) (hl:(pre++q).length=p.length) :
  kF p m pre i≤e9 p m (pre++q):=by
 have hpre:∀ j∈pre,0≤j∧j<p.length:=fun j hj=>hd.2 j (List.mem_append_left _ hj)
 have hq:∀ j∈q,0≤j∧j<p.length:=fun j hj=>hd.2 j (List.mem_append_right _ hj)
 have hz:(List.replicate m (0:Int)).length=m:=List.length_replicate
 obtain ⟨k1,_,_,k4,k5⟩:=zY h pre i (List.range p.length) ((aJ p (List.replicate m 0) pre).getD i 0,-1) fun j hj=>List.mem_range.1 hj
 have hn:=List.nodup_append.1 hd.1
 have hall:∀ j:Int,0≤j∧j<p.length→j∈pre++q:=fun j hj=>Classical.byContradiction fun hc=>by
  have:=iT (l:=j::(pre++q)) (m:=eX p.length) (List.nodup_cons.2 ⟨hc,hd.1⟩) fun x hx=>gT.2 (by
   rcases List.mem_cons.1 hx with rfl|hx
   ·exact hj
   ·exact hd.2 x hx)
  rw[List.length_cons,hl] at this
  simp[eX] at this
  omega
 have hperm:((eX p.length).filter fun j=>decide (j∉pre)).Perm q:=by
  refine (List.perm_ext_iff_of_nodup ((oA _).filter _) hn.2.1).2 fun x=>?_
  rw[List.mem_filter,decide_eq_true_iff,gT]
  constructor
  ·rintro ⟨h1,h2⟩
   rcases List.mem_append.1 (hall x h1) with h|h
   ·exact absurd h h2
   ·exact h
  ·intro hx
   exact ⟨hq x hx,fun hm=>hn.2.2 x hm x hx rfl⟩
 have hs:nI p i ((eX p.length).filter fun j=>decide (j∉pre))=nI p i q:=MB (hperm.map _)
 have e1:e9 p m (pre++q)=(aJ p (aJ p (List.replicate m 0) pre) q).getLastD 0:=by rw[e9,fL]
 have e0:kF p m pre i=(aJ p (List.replicate m 0) pre).getD i 0+nI p i q+max ((List.range p.length).foldl (e8 p pre i) ((aJ p (List.replicate m 0) pre).getD i 0,-1)).2 0:=by
  show ((List.range p.length).foldl (e8 p pre i) ((aJ p (List.replicate m 0) pre).getD i 0,-1)).1+max _ 0=_
  rw[k1,←hs];rfl
 have hb:(List.replicate m (0:Int)).length=m:=hz
 have hr:=c5 h pre _ hpre hz
 rcases List.eq_nil_or_concat q with rfl|⟨q',z,rfl⟩
 ·
  rw[e0]
  have e2:=k4 fun j hj=>by
   have:=hall (j:Int) ⟨by omega,by have:=List.mem_range.1 hj;omega⟩
   rwa[List.append_nil] at this
  rw[e2,List.append_nil]
  rcases List.eq_nil_or_concat pre with rfl|⟨pre',z,rfl⟩
  ·rw[List.append_nil] at hl;simp at hl;omega
  ·have hz2:=hpre z (by simp)
   have hw:=h.row (j:=z.toNat) (by omega)
   have hr':=c5 h pre' _ (fun j hj=>hpre j (by simp[hj])) hz
   have e3:∀ r:List Int,aJ p r (pre'++[z])=dC 0 (aJ p r pre') (p.getD z.toNat []):=fun r=>by rw[fL];rfl
   rw[List.concat_eq_append] at *
   rw[e9,e3]
   have:=pG 0 (aJ p (List.replicate m 0) pre') (p.getD z.toNat []) i (by rw[hr',hw.1]) (by rw[hw.1];exact hi)
   have:0≤fT (p.getD z.toNat []) i:=gV fun n hn=>hw.2 n (List.mem_of_mem_drop hn)
   simp only[nI,List.map_nil,List.sum_nil]
   omega
 ·rw[List.concat_eq_append] at *
  have hz2:=hq z (by simp)
  have hw:=h.row (j:=z.toNat) (by omega)
  have hq':∀ j∈q',0≤j∧j<p.length:=fun j hj=>hq j (by simp[hj])
  have hr':=c5 h q' _ hq' hr
  rw[e1,e0,fL]
  show _≤(dC 0 (aJ p (aJ p (List.replicate m 0) pre) q') (p.getD z.toNat [])).getLastD 0
  have t1:=pG 0 (aJ p (aJ p (List.replicate m 0) pre) q') (p.getD z.toNat []) i (by rw[hr',hw.1]) (by rw[hw.1];exact hi)
  have t2:=yW 0 (aJ p (aJ p (List.replicate m 0) pre) q') (p.getD z.toNat []) i (by rw[hr',hw.1]) (by rw[hw.1];exact hi)
  have t3:=tT h hi q' _ hq' hr
  obtain ⟨t4,t5⟩:=k5 z.toNat (List.mem_range.2 (by omega)) fun hm=>hn.2.2 _ hm z (by simp) (by omega)
  have t6:nI p i (q'++[z])=nI p i q'+(p.getD z.toNat []).getD i 0:=by simp[nI]
  rw[t6]
  omega
theorem MA (h:vA p m) (hp:0<p.length) {f:Nat} {s s':bU} (hf:p.length<f) (hs:lI p m (e9 p m) (kF p m) f [] s=some s') :
  eR p (e9 p m) s s'∧s'.found=true∧∀ q,Diff p.length q→q.length=p.length→s'.span≤e9 p m q :=
 IM (fun _ _ _ hi hd hl=>QK h hi hp hd hl) f [] s s' ⟨List.nodup_nil,fun _ h=>by cases h⟩ (by simpa using hf) hs
end
end Go.Pv
namespace Go.Pv
open Go Go.Proofs
def iO (p:List (List Int)):List Int→List Int→List (List Int)
 | _,[]=>[]
 | row,j::l=>dC 0 row (p.getD j.toNat [])::iO p (dC 0 row (p.getD j.toNat [])) l
theorem gW (p:List (List Int)):∀ (l row:List Int),(iO p row l).length=l.length
 | [],_=>rfl
 | _::l,_=>by rw[iO,List.length_cons,List.length_cons,gW p l]
theorem xE (p:List (List Int)) (j:Int):∀ (l row:List Int),iO p row (l++[j])=iO p row l++[dC 0 (aJ p row l) (p.getD j.toNat [])]
 | [],_=>rfl
 | i::l,row=>by
  show _::iO p _ (l++[j])=_
  rw[xE p j l];rfl
theorem u6 (p:List (List Int)):∀ (l row:List Int) (k:Nat),k<l.length→(iO p row l)[k]? = some (aJ p row (l.take (k+1)))
 | [],_,_,h=>by simp at h
 | j::l,row,0,_=>rfl
 | j::l,row,k+1,h=>by
  show (iO p _ l)[k]? = _
  rw[u6 p l _ k (by simpa using h)];rfl
theorem F2:∀ (a:Int) (bs ns:List Int) (s:Nat),bs.length=ns.length→s<ns.length →
  (dC a bs ns).getD s 0=max (if s=0 then a else (dC a bs ns).getD (s-1) 0) (bs.getD s 0)+ns.getD s 0
 | a,b::bs,n::ns,0,_,_=>by rw[dC];simp
 | a,b::bs,n::ns,s+1,h,hs=>by
  rw[dC];simp only[List.getD_cons_succ,Nat.add_sub_cancel,if_neg (Nat.succ_ne_zero s)]
  rw[F2 (max a b+n) bs ns s (by simpa using h) (by simpa using hs)]
  cases s with
  | zero=>simp
  | succ s=>simp
 | _,_,[],_,_,hi=>by simp at hi
 | _,[],_::_,_,h,_=>by simp at h
theorem BX:∀ (a:Int) (bs ns:List Int),0≤a→(∀ n∈ns,0≤n)→∀ x∈dC a bs ns,0≤x
 | _,[],_,_,_,x,hx=>by simp[dC] at hx
 | _,_::_,[],_,_,x,hx=>by simp[dC] at hx
 | a,b::bs,n::ns,ha,hn,x,hx=>by
  rw[dC] at hx
  have h0:=hn n List.mem_cons_self
  rcases List.mem_cons.1 hx with rfl|hx
  ·omega
  ·exact BX _ bs ns (by omega) (fun k hk=>hn k (List.mem_cons_of_mem _ hk)) x hx
theorem F3 {B:Int}:∀ (a:Int) (bs ns:List Int) (c:Int),bs.length=ns.length→a≤c→(∀ i,i<bs.length→bs.getD i 0≤c+B*i)→(∀ n∈ns,n≤B)→0≤B →
  ∀ i,i<ns.length→(dC a bs ns).getD i 0≤c+B+B*i
 | a,b::bs,n::ns,c,h,ha,hb,hn,hB,0,_=>by
  rw[dC];simp only[List.getD_cons_zero]
  have:=hb 0 (by simp);simp at this
  have:=hn n List.mem_cons_self
  simp;omega
 | a,b::bs,n::ns,c,h,ha,hb,hn,hB,i+1,hi=>by
  rw[dC];simp only[List.getD_cons_succ]
  have h0:=hb 0 (by simp);simp at h0
  have h1:=hn n List.mem_cons_self
  have:=F3 (B:=B) (max a b+n) bs ns (c+B) (by simpa using h) (by omega) (fun k hk=>by
   have:=hb (k+1) (by simpa using hk)
   simp only[List.getD_cons_succ] at this
   have e:B*((k+1:Nat):Int)=B*k+B:=by rw[Int.natCast_add,Int.mul_add];simp
   omega) (fun k hk=>hn k (List.mem_cons_of_mem _ hk)) hB i (by simpa using hi)
  have e:B*((i+1:Nat):Int)=B*i+B:=by rw[Int.natCast_add,Int.mul_add];simp
  omega
 | _,_,[],_,_,_,_,_,_,_,hi=>by simp at hi
 | _,[],_::_,_,h,_,_,_,_,_,_=>by simp at h
section
variable {p : List (List Int)} {m : Nat} {B : Int}
def pM (p:List (List Int)) (m:Nat) (B:Int):Prop:=vA p m∧∀ row∈p,∀ n∈row,n≤B
theorem pM.row (h:pM p m B) {j:Nat} (hj:j<p.length):(p.getD j []).length=m∧(∀ n∈p.getD j [],(0:Int)≤n)∧∀ n∈p.getD j [],n≤B:=by
 have e:p.getD j []=p[j]:=by simp[List.getD,hj]
 obtain ⟨h1,h2⟩:=h.1.row hj
 refine ⟨h1,h2,?_⟩
 rw[e];exact h.2 _ (List.getElem_mem hj)
theorem tU (h:pM p m B) (hB:0≤B):∀ (q r:List Int) (c:Int),(∀ j∈q,0≤j∧j<p.length)→r.length=m→0≤c→(∀ i,i<m→r.getD i 0≤c+B*i) →
  ∀ i,i<m→(aJ p r q).getD i 0≤c+B*q.length+B*i
 | [],_,c,_,_,_,hr=>fun i hi=>by have:=hr i hi;simpa [aJ] using this
 | j::q,r,c,hq,hl,hc,hr=>fun i hi=>by
  have hj:=hq j List.mem_cons_self
  obtain ⟨w1,w2,w3⟩:=h.row (j:=j.toNat) (by omega)
  have:=tU h hB q (dC 0 r (p.getD j.toNat [])) (c+B) (fun k hk=>hq k (List.mem_cons_of_mem _ hk)) ((lC _ _ _ (by rw[hl,w1])).trans w1) (by omega)
   (fun k hk=>by
    have:=F3 (B:=B) 0 r (p.getD j.toNat []) c (by rw[hl,w1]) hc (fun i hi=>hr i (by rw[←hl];exact hi)) w3 hB k (by rw[w1];exact hk)
    omega) i hi
  have e:B*((j::q).length:Int)=B*q.length+B:=by rw[List.length_cons,Int.natCast_add,Int.mul_add];simp
  show (aJ p (dC 0 r (p.getD j.toNat [])) q).getD i 0≤_
  omega
theorem pW (h:vA p m):∀ (q r:List Int),(∀ j∈q,0≤j∧j<p.length)→(∀ x∈r,0≤x)→∀ x∈aJ p r q,0≤x
 | [],_,_,hr=>hr
 | j::q,r,hq,_=>by
  have hj:=hq j List.mem_cons_self
  exact pW h q _ (fun k hk=>hq k (List.mem_cons_of_mem _ hk)) (BX 0 r _ (Int.le_refl _) (h.row (j:=j.toNat) (by omega)).2)
theorem FL (h:vA p m) {q:List Int} (hq:∀ j∈q,0≤j∧j<p.length):e9 p m q=(aJ p (List.replicate m 0) q).getD (m-1) 0:=by
 have hl:=c5 h q (List.replicate m 0) hq List.length_replicate
 unfold e9
 generalize aJ p (List.replicate m 0) q=r at hl ⊢
 subst hl
 rw[List.getLastD_eq_getLast?,List.getLast?_eq_getElem?,List.getD_eq_getElem?_getD]
end
def dT (p:List (List Int)):Int :=
 if 32<p.length∨p.any (fun row=>decide (8<row.length))=true then 4
 else if p.any (fun row=>decide (row.length=0∨¬ row.length=(p.getD 0 []).length))=true then 17
 else if p.any (fun row=>row.any fun n=>decide (n<0∨100000<n))=true then 9
 else 0
theorem B0 {p:List (List Int)} (h:dT p=0):p.length≤32∧(p.getD 0 []).length≤8∧(0<p.length→0<(p.getD 0 []).length)∧pM p (p.getD 0 []).length 100000:=by
 unfold dT at h
 split at h
 ·cases h
 rename_i h1
 split at h
 ·cases h
 rename_i h2
 split at h
 ·cases h
 rename_i h3
 simp only[List.any_eq_true,decide_eq_true_eq,not_or,not_exists,not_and] at h1 h2 h3
 have h0:0<p.length→p.getD 0 []∈p:=fun hp=>by
  have e:p.getD 0 []=p[0]:=by simp[List.getD,hp]
  rw[e];exact List.getElem_mem hp
 refine ⟨by omega,?_,fun hp=>Nat.pos_of_ne_zero (h2 _ (h0 hp)).1,fun row hr=>⟨Classical.byContradiction (h2 row hr).2,fun n hn=>?_⟩,fun row hr n hn=>?_⟩
 ·by_cases hp:0<p.length
  ·exact Nat.not_lt.1 (h1.2 _ (h0 hp))
  ·rw[List.eq_nil_of_length_eq_zero (by omega:p.length=0)];simp
 ·have:=h3 row hr n hn;omega
 ·have:=h3 row hr n hn;omega
theorem EM {B:Int}:∀ {l:List Int},(∀ n∈l,n≤B)→l.sum≤B*l.length
 | [],_=>by simp
 | a::l,h=>by
  rw[List.sum_cons]
  have:=h a List.mem_cons_self
  have:=EM (l:=l) fun n hn=>h n (List.mem_cons_of_mem _ hn)
  have e:B*((a::l).length:Int)=B*l.length+B:=by rw[List.length_cons,Int.natCast_add,Int.mul_add];simp
  omega
theorem MC {l:List Int} {k:Nat} (hk:k<l.length):(l.take (k+1)).sum=(l.take k).sum+l[k]:=by
 rw[List.take_succ_eq_append_getElem hk,F8];simp
section
variable {p : List (List Int)} {m : Nat} {B : Int}
theorem L2 (h:pM p m B) (hB:0≤B) {j:Nat} (hj:j<p.length) (i:Nat):0≤fT (p.getD j []) i∧fT (p.getD j []) i≤B*m:=by
 obtain ⟨w1,w2,w3⟩:=h.row hj
 refine ⟨gV fun n hn=>w2 n (List.mem_of_mem_drop hn),Int.le_trans (EM (B:=B) fun n hn=>w3 n (List.mem_of_mem_drop hn)) ?_⟩
 refine Int.mul_le_mul_of_nonneg_left ?_ hB
 rw[List.length_drop,w1];omega
theorem FD (h:pM p m B) (hB:0≤B) {j:Nat} (hj:j<p.length) (i:Nat):0≤(p.getD j []).getD i 0∧(p.getD j []).getD i 0≤B:=by
 obtain ⟨_,w2,w3⟩:=h.row hj
 generalize p.getD j []=l at w2 w3 ⊢
 by_cases hi:i<l.length
 ·have e:l.getD i 0=l[i]:=by simp[List.getD,hi]
  rw[e];exact ⟨w2 _ (List.getElem_mem hi),w3 _ (List.getElem_mem hi)⟩
 ·have e:l.getD i 0=0:=by
   rw[List.getD_eq_getElem?_getD,List.getElem?_eq_none (by omega)];rfl
  rw[e];exact ⟨Int.le_refl _,hB⟩
theorem zZ (h:pM p m B) (hB:0≤B) (pre:List Int) (i:Nat):∀ (js:List Nat) (a:Int×Int),(∀ j∈js,j<p.length)→0≤a.1→-1≤a.2∧a.2≤B*m →
  0≤(js.foldl (e8 p pre i) a).1∧(js.foldl (e8 p pre i) a).1≤a.1+B*js.length∧-1≤(js.foldl (e8 p pre i) a).2∧(js.foldl (e8 p pre i) a).2≤B*m
 | [],a,_,h0,h1=>⟨h0,by simp,h1⟩
 | j::js,a,hj,h0,h1=>by
  have e:B*((j::js).length:Int)=B*js.length+B:=by rw[List.length_cons,Int.natCast_add,Int.mul_add];simp
  rw[List.foldl_cons,e]
  obtain ⟨r1,r2⟩:=L2 h hB (hj j List.mem_cons_self) i
  obtain ⟨g1,g2⟩:=FD h hB (hj j List.mem_cons_self) i
  have hs:0≤(e8 p pre i a j).1∧(e8 p pre i a j).1≤a.1+B∧-1≤(e8 p pre i a j).2∧(e8 p pre i a j).2≤B*m:=by
   unfold e8
   split
   ·exact ⟨h0,by omega,h1⟩
   ·dsimp only
    refine ⟨by omega,by omega,?_⟩
    split<;>omega
  obtain ⟨k1,k2,k3⟩:=zZ h hB pre i js (e8 p pre i a j) (fun k hk=>hj k (List.mem_cons_of_mem _ hk)) hs.1 hs.2.2
  exact ⟨k1,by omega,k3⟩
end
def bJ (p:List (List Int)) (steps:Int):List Int×Int×Int :=
 if ¬ dT p=0 then ([],0,dT p)
 else match lI p (p.getD 0 []).length (e9 p (p.getD 0 []).length) (kF p (p.getD 0 []).length) (p.length+1) [] ⟨max (min steps 100000) 0,false,0,[]⟩ with
  | none=>([],0,29)
  | some s=>(s.order,s.span,0)
theorem sE {p:List (List Int)} {steps:Int} (h:(bJ p steps).2.2=0):dT p=0∧Diff p.length (bJ p steps).1∧(bJ p steps).1.length=p.length ∧
  (bJ p steps).2.1=e9 p (p.getD 0 []).length (bJ p steps).1∧∀ q,Diff p.length q→q.length=p.length→(bJ p steps).2.1≤e9 p (p.getD 0 []).length q:=by
 unfold bJ at h ⊢
 split at h
 ·rename_i h1;exact absurd h h1
 rename_i h1
 have h1:dT p=0:=Classical.byContradiction h1
 rw[if_neg (fun h=>h h1)]
 refine ⟨h1,?_⟩
 obtain ⟨_,_,_,hs⟩:=B0 h1
 by_cases hp:0<p.length
 ·revert h
  cases e:lI p (p.getD 0 []).length (e9 p (p.getD 0 []).length) (kF p (p.getD 0 []).length) (p.length+1) [] ⟨max (min steps 100000) 0,false,0,[]⟩ with
  | none=>intro h;cases h
  | some s =>
   intro _
   obtain ⟨b1,b2,b3⟩:=MA hs.1 hp (Nat.lt_succ_self _) e
   rcases b1.real b2 with ⟨k,_⟩|⟨k1,k2,k3⟩
   ·cases k
   ·exact ⟨k1,k2,k3,b3⟩
 ·have e:p=[]:=List.eq_nil_of_length_eq_zero (by omega)
  subst e
  have e:lI ([]:List (List Int)) 0 (e9 [] 0) (kF [] 0) 1 [] ⟨max (min steps 100000) 0,false,0,[]⟩=some ⟨max (min steps 100000) 0,true,0,[]⟩:=by
   unfold lI
   rw[if_pos (show ([]:List Int).length=([]:List (List Int)).length from rfl),if_pos (.inl rfl)];rfl
  show Diff 0 _∧_
  rw[show (([]:List (List Int)).getD 0 []).length=0 from rfl,show ([]:List (List Int)).length+1=1 from rfl,e]
  refine ⟨⟨List.nodup_nil,fun _ h=>by cases h⟩,rfl,rfl,fun q _ hq=>?_⟩
  rw[List.eq_nil_of_length_eq_zero hq];exact Int.le_refl _
end Go.Pv
namespace Go.Pv
open Go Go.Proofs
def dO (p:List (List Int)) (l:List Int):Bool:=(List.range l.length).all fun i=>decide (0≤l.getD i 0∧l.getD i 0<p.length∧l.getD i 0∉l.take i)
theorem lU {p:List (List Int)} {l:List Int}:dO p l=true↔Diff p.length l:=by
 have e:∀ i (hi:i<l.length),l.getD i 0=l[i]:=fun i hi=>by simp[List.getD,hi]
 simp only[dO,List.all_eq_true,List.mem_range,decide_eq_true_eq]
 constructor
 ·intro h
  refine ⟨List.pairwise_iff_getElem.2 fun i j hi hj hij he=>?_,fun x hx=>?_⟩
  ·have h1:=(h j hj).2.2
   rw[e j hj,←he] at h1
   exact h1 (List.mem_take_iff_getElem.2 ⟨i,by omega,rfl⟩)
  ·obtain ⟨i,hi,rfl⟩:=List.mem_iff_getElem.1 hx
   have h1:=h i hi
   rw[e i hi] at h1
   exact ⟨h1.1,h1.2.1⟩
 ·rintro ⟨h1,h2⟩ i hi
  rw[e i hi]
  refine ⟨(h2 _ (List.getElem_mem hi)).1,(h2 _ (List.getElem_mem hi)).2,fun hm=>?_⟩
  obtain ⟨k,hk,he⟩:=List.mem_take_iff_getElem.1 hm
  exact List.pairwise_iff_getElem.1 h1 k i (by omega) hi (by omega) he
def H7 (p:List (List Int)) (l:List Int):Int×Int :=
 if ¬ dT p=0 then (0,dT p) else if ¬ l.length=p.length∨dO p l=false then (0,2) else (e9 p (p.getD 0 []).length l,0)
def zJ (i:Nat):ByteArray:=⟨#[(97+i).toUInt8]⟩
theorem OG:∀ (n:Fin 6) (j:Fin 5),j.val<n.val→(List.range n.val).filter (fun k=>decide (zJ k=zJ j.val))=[j.val]:=by decide +kernel
theorem uB {n:Nat} (hn:n≤5):∀ {l:List Int},(∀ j∈l,0≤j∧j<(n:Int)) →
  ((l.map fun j=>zJ j.toNat).flatMap fun s=>((List.range n).filter fun k=>decide (zJ k=s)).map fun k:Nat=>(k:Int))=l
 | [],_=>rfl
 | j::l,h=>by
  obtain ⟨h1,h2⟩:=h j List.mem_cons_self
  rw[List.map_cons,List.flatMap_cons,uB hn (fun k hk=>h k (List.mem_cons_of_mem _ hk)),OG ⟨n,by omega⟩ ⟨j.toNat,by omega⟩ (by show j.toNat<n;omega)]
  show ((j.toNat:Nat):Int)::l=j::l
  rw[Int.toNat_of_nonneg h1]
theorem JL {p:List (List Int)} {steps:Int} (h:(bJ p steps).2.2=0) (q:List Int) :
  H7 p (bJ p steps).1=((bJ p steps).2.1,0)∧(bJ p steps).1.length=p.length∧(∀ j∈(bJ p steps).1,0≤j∧j<(p.length:Int)) ∧
  (¬ (H7 p q).2=0∨(bJ p steps).2.1≤(H7 p q).1):=by
 obtain ⟨h1,h2,h3,h4,h5⟩:=sE h
 refine ⟨?_,h3,h2.2,?_⟩
 ·unfold H7
  rw[if_neg (fun k=>k h1),if_neg,←h4]
  rintro (k|k)
  ·exact k h3
  ·rw[lU.2 h2] at k;cases k
 ·by_cases hc:¬ q.length=p.length∨dO p q=false
  ·left
   unfold H7
   rw[if_neg (fun k=>k h1),if_pos hc]
   exact (by decide:¬ (2:Int)=0)
  ·right
   unfold H7
   rw[if_neg (fun k=>k h1),if_neg hc]
   rw[not_or] at hc
   refine h5 q (lU.1 ?_) (Classical.byContradiction hc.1)
   cases hr:dO p q with
   | true=>rfl
   | false=>exact absurd hr hc.2
end Go.Pv
namespace Go.Pv
open Go Go.Proofs
theorem bY {p:Prop} {i:Decidable p} {A B:Prop} (h1:p→A) (h2:¬ p→B):aC (@decide p i) A B:=by
 cases i with
 | isTrue h=>exact h1 h
 | isFalse h=>exact h2 h
theorem l7 {p:Prop} {i:Decidable p} {A B:Prop} (h1:¬ p→A) (h2:p→B):aC (!(@decide p i)) A B:=by
 cases i with
 | isTrue h=>exact h2 h
 | isFalse h=>exact h1 h
theorem cJ {k n:Nat} (h:k<n) (hn:n≤2 ^ 47):IntKind.i64.wrap ((k:Int)+1)=((k+1:Nat):Int):=bN _ (by omega) (by omega)
def tG:List Int→Int→Int→Int
 | [],_,_=>-1
 | b::l,a,k=>if a=b then k else tG l a (k+1)
theorem FE:∀ (l:List Int) (a k:Int),0≤k→(0≤tG l a k↔a∈l)
 | [],a,k,_=>by simp[tG]
 | b::l,a,k,hk=>by
  unfold tG
  by_cases h:a=b
  ·rw[if_pos h];simp[h,hk]
  ·rw[if_neg h,FE l a (k+1) (by omega)];simp[h]
noncomputable def IW:Env:=Env.of []
def JB:FuncId→Hint:=j2 62 [(2,.inv [.val 8 false (.int .i64)])] (fun _=>cN)
theorem CE:aL Tryz.prog IW:=.nil _
def rU (a0:List Int) (a1:Int) (R:T→Prop):Prop :=
 b9 (Int×PUnit)
 (fun (X0:Int×PUnit→Prop) (s1:Int×PUnit) =>
 aC (decide (s1.1<(↑(List.map (Sy.int IntKind.i64).enc a0).length:Int)))
 (aT (Sy.int IntKind.i64) (List.map (Sy.int IntKind.i64).enc a0) s1.1
 fun (y2:Int) =>
 aC (decide (a1=y2)) (R (T.v (.int .i64 s1.1)))
 (X0 (IntKind.i64.wrap (s1.1+1),())))
 (R (T.v (.int .i64 (-1)))))
 (0,())
abbrev uQ:Sh:=[(false,(Sy.int IntKind.i64).li),(false,(Sy.int IntKind.i64))]
abbrev gR:Sh:=[(false,Sy.int IntKind.i64)]
theorem vL (y:Sh.den gR) (K:Sh.den gR→Prop):aO gR (some (Sh.enc gR y)) K=K y:=bL rfl y K
def jA (x:List Int×Int):Option T:=some (Sh.enc gR (tG x.1 x.2 0))
noncomputable def kQ:List T→Option T:=gS uQ jA
theorem AX {a0 a1}:kQ [T.sl false (List.map (Sy.int IntKind.i64).enc a0),T.v (.int .i64 a1)]=jA (a0,a1):=dI (s:=uQ) rfl (a0,a1) rfl
theorem H9:JD Tryz.prog 62 kQ jA (fR uQ) rU:=uE (a1:=(false,(Sy.int IntKind.i64).li)) (a2:=(false,(Sy.int IntKind.i64))) (sp:=jA) (F:=rU) (Hs:=JB) (f:=62) (k:=8) CE cT cX (aZ rfl) ⟨_,_,Tryz.func62,rfl⟩ rfl fun _ _ _=>by kernel_rfl
theorem HC:aW Tryz.prog 62 kQ:=H9 fun l a r h hb=>by
 cases h
 have hl:l.length≤2 ^ 47:=hb.1.1
 unfold rU
 simp only[List.length_map]
 refine bE l.length (fun k s=>s=((k:Int),())∧tG l a 0=tG (l.drop k) a k) ⟨rfl,rfl⟩ ?_
 rintro X k s hk ⟨rfl,he⟩ hX
 dsimp only
 refine bY (fun hlt=>?_) fun hge=>?_
 ·have hlt:k<l.length:=by omega
  rw[List.drop_eq_getElem_cons hlt,tG] at he
  rw[aP (r:=.int .i64) hlt]
  refine bY (fun h=>?_) fun h=>?_
  ·rw[if_pos h] at he;show _=Sh.enc gR (tG l a 0);rw[he];rfl
  ·rw[if_neg h] at he;exact hX _ hlt ⟨by rw[cJ hlt hl],he⟩
 ·have:k=l.length:=by omega
  subst this
  rw[List.drop_length,tG] at he
  show _=Sh.enc gR (tG l a 0);rw[he];rfl
noncomputable def P1:Env:=Env.of [(62,.pure kQ)]
def QA:FuncId→Hint:=fun _=>cN
theorem I3:aL Tryz.prog P1:=.cons HC (.nil _)
def CL (a0:List Int) (a1:Int) (R:T→Prop):Prop :=
 aO [(false,Sy.int IntKind.i64)]
 (kQ
 [T.sl false (List.map (Sy.int IntKind.i64).enc a0),T.v (.int .i64 a1)])
 fun (y0:Int)=>R (T.v (.bool (decide (0≤y0))))
abbrev EA:Sh:=[(false,(Sy.int IntKind.i64).li),(false,(Sy.int IntKind.i64))]
abbrev uK:Sh:=[(false,Sy.bool)]
theorem kW (y:Sh.den uK) (K:Sh.den uK→Prop):aO uK (some (Sh.enc uK y)) K=K y:=bL rfl y K
def jX (x:List Int×Int):Option T:=some (Sh.enc uK (decide (x.2∈x.1)))
noncomputable def jL:List T→Option T:=gS EA jX
theorem o4 {a0 a1}:jL [T.sl false (List.map (Sy.int IntKind.i64).enc a0),T.v (.int .i64 a1)]=jX (a0,a1):=dI (s:=EA) rfl (a0,a1) rfl
theorem OP:JD Tryz.prog 36 jL jX (fR EA) CL:=uE (a1:=(false,(Sy.int IntKind.i64).li)) (a2:=(false,(Sy.int IntKind.i64))) (sp:=jX) (F:=CL) (Hs:=QA) (f:=36) (k:=8) I3 cT cX (aZ rfl) ⟨_,_,Tryz.func36,rfl⟩ rfl fun _ _ _=>by kernel_rfl
theorem x8:aW Tryz.prog 36 jL:=OP fun l a r h hb=>by
 cases h
 unfold CL
 rw[AX]
 simp only[jA]
 rw[vL]
 have e:=FE l a 0 (Int.le_refl 0)
 show T.v (.bool _)=T.v (.bool _)
 congr 2
 simp[e]
def FK (t:List (List Int)) (s:Int):Option Int:=match t.getLast? with
 | none=>some 0
 | some row=>match decide (0≤s) with
  | true=>row[s.toNat]?
  | false=>none
noncomputable def MP:Env:=Env.of []
def MU:FuncId→Hint:=fun _=>cN
theorem GD:aL Tryz.prog MP:=.nil _
def xL (a0:List (List Int)) (a1:Int) (R:T→Prop):Prop :=
 aC (decide ((↑(List.map (Sy.int IntKind.i64).li.enc a0).length:Int)=0))
 (R (T.v (.int .i64 0)))
 (aT (Sy.int IntKind.i64).li (List.map (Sy.int IntKind.i64).li.enc a0)
 (IntKind.i64.wrap ((↑(List.map (Sy.int IntKind.i64).li.enc a0).length:Int)-1))
 fun (y0:List Int) =>
 aT (Sy.int IntKind.i64) (List.map (Sy.int IntKind.i64).enc y0) a1 fun (y1:Int) =>
 R (T.v (.int .i64 y1)))
abbrev zA:Sh:=[(false,(Sy.int IntKind.i64).li.li),(false,(Sy.int IntKind.i64))]
abbrev rP:Sh:=[(false,Sy.int IntKind.i64)]
def fP (x:List (List Int)×Int):Option T:=(FK x.1 x.2).map (Sh.enc rP)
noncomputable def fX:List T→Option T:=gS zA fP
theorem mW {a0 a1}:fX [T.sl false (List.map (Sy.int IntKind.i64).li.enc a0),T.v (.int .i64 a1)]=fP (a0,a1):=dI (s:=zA) rfl (a0,a1) rfl
theorem LG:JD Tryz.prog 21 fX fP (fR zA) xL:=uE (a1:=(false,(Sy.int IntKind.i64).li.li)) (a2:=(false,(Sy.int IntKind.i64))) (sp:=fP) (F:=xL) (Hs:=MU) (f:=21) (k:=8) GD cT cX (aZ rfl) ⟨_,_,Tryz.func21,rfl⟩ rfl fun _ _ _=>by kernel_rfl
theorem s0:aW Tryz.prog 21 fX:=LG fun t s r h hb=>by
 have ht:t.length≤2 ^ 47:=hb.1.1
 simp only[fP,Option.map_eq_some_iff] at h
 obtain ⟨n,hn,rfl⟩:=h
 unfold xL
 simp only[List.length_map]
 refine bY (fun h0=>?_) fun h0=>?_
 ·have:t=[]:=List.eq_nil_of_length_eq_zero (by omega)
  subst this
  cases hn
  rfl
 ·unfold FK at hn
  have hlt:t.length-1<t.length:=by omega
  rw[List.getLast?_eq_getElem?,List.getElem?_eq_getElem hlt] at hn
  dsimp only at hn
  split at hn
  case h_2=>cases hn
  rename_i hs
  have e:IntKind.i64.wrap ((t.length:Int)-1)=((t.length-1:Nat):Int):=by rw[bN _ (by omega) (by omega)];omega
  rw[e,aP (r:=(Sy.int .i64).li) hlt,w4 (r:=.int .i64)]
  exact ⟨n,of_decide_eq_true hs,hn,rfl⟩
end Go.Pv
namespace Go.Pv
open Go Go.Proofs
theorem tR {S:Type} {A:(S→Prop)→Prop} {K:S→Prop} (v:S) (h1:∀ X:S→Prop,X v→A X) (h2:K v):A7 S A K:=h1 K h2
theorem EI {L:List Int} {k:Nat} {v:Int} (hk:k<L.length) {K:List Int→Prop} (h:K (L.set k v)) :
  aT (.int .i64) (List.map (Sy.int .i64).enc L) (k:Int) (fun _=>BY (List.map (Sy.int .i64).enc L) (Int.toNat (k:Int)) fun y=>c4 (decide (1≤y.length)) (dZ (.int .i64) ((List.map (Sy.int .i64).enc L).set (Int.toNat (k:Int)) (aS y 0 [T.v (.int .i64 v)])) K)):=by
 rw[aP (r:=.int .i64) hk,Int.toNat_natCast,F4 (r:=.int .i64) hk]
 refine ⟨rfl,?_⟩
 have e:(List.map (Sy.int .i64).enc L).set k (aS ((Sy.int .i64).enc L[k]) 0 [T.v (.int .i64 v)])=List.map (Sy.int .i64).enc (L.set k v):=by rw[List.map_set];rfl
 rw[e,bX rfl];exact h
theorem A9 {r:Sy} {L:List r.den} {k:Nat} (hk:k<L.length) {K:r.den→Prop} (h:K L[k]):aT r (List.map r.enc L) (k:Int) (fun _=>mJ r (List.map r.enc L) (Int.toNat (k:Int)) 0 K):=by
 rw[aP hk,Int.toNat_natCast,LN hk];exact h
theorem rO {k:Nat} (h:0<k) (hk:k≤2 ^ 47):IntKind.i64.wrap ((k:Int)-1)=((k-1:Nat):Int):=by rw[bN _ (by omega) (by omega)];omega
def fI (R:List Int) (s:Nat):List Int:=R.take s++List.replicate (R.length-s) 0
theorem kJ {R:List Int} {s:Nat} (h:s≤R.length):(fI R s).length=R.length:=by unfold fI;simp;omega
theorem G1 (R:List Int):fI R 0=List.replicate R.length 0:=by unfold fI;simp
theorem JW (R:List Int):fI R R.length=R:=by unfold fI;simp
theorem rL {R:List Int} {s i:Nat} (h:i<s) (hs:s≤R.length) (hl:i<(fI R s).length):(fI R s)[i]=R.getD i 0:=by
 have:(fI R s)[i]? = some (R.getD i 0):=by
  unfold fI
  rw[List.getElem?_append_left (by simp;omega),List.getElem?_take,if_pos h]
  simp[List.getD,show i<R.length by omega]
 rw[List.getElem?_eq_getElem hl] at this
 exact Option.some.inj this
theorem NB {R:List Int} {s:Nat} (hs:s<R.length) (hl:s<(fI R s).length):(fI R s)[s]=0:=by
 have:(fI R s)[s]? = some 0:=by
  unfold fI
  rw[List.getElem?_append_right (by simp;omega)]
  simp[List.getElem?_replicate]
  omega
 rw[List.getElem?_eq_getElem hl] at this
 exact Option.some.inj this
theorem E3 {R:List Int} {s i:Nat} (h:s≤i) (hi:i<R.length):(fI R s)[i]? = some 0:=by
 unfold fI
 rw[List.getElem?_append_right (by simp;omega)]
 simp[List.getElem?_replicate]
 omega
theorem JX {R:List Int} {s:Nat} (hs:s<R.length):(fI R s).set s (R.getD s 0)=fI R (s+1):=by
 apply List.ext_getElem
 ·rw[List.length_set,kJ (by omega),kJ (by omega)]
 ·intro i h1 h2
  rw[List.length_set,kJ (by omega)] at h1
  rw[List.getElem_set]
  by_cases e:s=i
  ·subst e;rw[if_pos rfl,rL (by omega) (by omega)]
  ·rw[if_neg e]
   by_cases h:i<s
   ·rw[rL h (by omega),rL (by omega) (by omega)]
   ·have a1:=E3 (R:=R) (s:=s) (i:=i) (by omega) h1
    have a2:=E3 (R:=R) (s:=s+1) (i:=i) (by omega) h1
    rw[List.getElem?_eq_getElem h2] at a2
    rw[List.getElem?_eq_getElem (by rw[kJ (by omega)];exact h1)] at a1
    exact (Option.some.inj a1).trans (Option.some.inj a2).symm
def CA (p:List (List Int)) (l:List Int):Bool:=decide (dT p=0)&&dO p l
structure QE (p:List (List Int)) (l:List Int) (m:Nat):Prop where
 rG:pM p m 100000
 n:p.length≤32
 m8:m≤8
 pos:0<p.length→0<m
 diff:Diff p.length l
 len:l.length≤p.length
theorem Diff.len {n:Nat} {l:List Int} (h:Diff n l):l.length≤n:=by
 have:=iT (m:=eX n) h.1 fun x hx=>gT.2 (h.2 x hx)
 simpa [eX] using this
theorem iU {p:List (List Int)} {l:List Int} (h:CA p l=true):QE p l (p.getD 0 []).length:=by
 unfold CA at h
 rw[Bool.and_eq_true,decide_eq_true_eq] at h
 obtain ⟨h1,h2,h3,h4⟩:=B0 h.1
 have hd:=lU.1 h.2
 exact ⟨h4,h1,h2,h3,hd,hd.len⟩
theorem Diff.pre {n:Nat} {l:List Int} (h:Diff n l) (k:Nat):Diff n (l.take k):=⟨h.1.sublist (List.take_sublist _ _),fun j hj=>h.2 j (List.mem_of_mem_take hj)⟩
theorem QE.small {p:List (List Int)} {l:List Int} {m:Nat} (h:QE p l m) (k:Nat) {i:Nat} (hi:i<m):0≤(aJ p (List.replicate m 0) (l.take k)).getD i 0∧(aJ p (List.replicate m 0) (l.take k)).getD i 0≤4000000:=by
 have hd:=(h.diff.pre k).2
 have h1:=tU h.rG (by omega) (l.take k) (List.replicate m 0) 0 hd List.length_replicate (Int.le_refl 0) (fun i hi=>by simp[List.getD,hi];omega) i hi
 have h2:=pW h.rG.1 (l.take k) (List.replicate m 0) hd (fun x hx=>by rw[(List.mem_replicate.1 hx).2];omega)
 have h3:=c5 h.rG.1 (l.take k) (List.replicate m 0) hd List.length_replicate
 have hl:=h.len;have hn:=h.n;have hm:=h.m8
 have hk:(l.take k).length≤32:=by rw[List.length_take];omega
 refine ⟨?_,by omega⟩
 rw[List.getD_eq_getElem?_getD,List.getElem?_eq_getElem (by omega)]
 exact h2 _ (List.getElem_mem _)
theorem oI {α:Type} {l:List α} {k:Nat} (h:k<l.length):l.take (k+1)=l.take k++[l[k]]:=by rw[List.take_add_one,List.getElem?_eq_getElem h];rfl
noncomputable def PZ:Env:=Env.of [(1000000037,.mark)]
def P8:FuncId→Hint:=fun f=>match f == 33 with|true=>⟨fun r=>match r == 3 with|true=>.inv [.val 13 false (.int .i64),.own 5 1 (.li (.int .i64))]|false=>match r == 7 with|true=>.inv [.val 29 false (.int .i64),.arr 1 1 (.int .i64)]|false=>.none,fun i j=>match i == 9&&j == 10 with|true=>some [.arr 1 1 (.int .i64)]|false=>match i == 11&&j == 12 with|true=>some [.arr 1 1 (.int .i64)]|false=>none,fun _=>none⟩|false=>cN
theorem I1:aL Tryz.prog PZ:=.cons (x:=.mark) trivial (.nil _)
def CJ (a0:List (List Int)) (a1:List Int) (R:T→Prop):Prop :=
 b9 (Int×List (List Int)×PUnit)
 (fun (X0:Int×List (List Int)×PUnit→Prop) (s1:Int×List (List Int)×PUnit) =>
 aC (decide (s1.1<(↑(List.map (Sy.int IntKind.i64).enc a1).length:Int)))
 (aT (Sy.int IntKind.i64) (List.map (Sy.int IntKind.i64).enc a1) s1.1
 fun (y2:Int) =>
 aT (Sy.int IntKind.i64).li (List.map (Sy.int IntKind.i64).li.enc a0) y2
 fun (y3:List Int) =>
 c4
 ((decide
 ((↑(List.map (Sy.int IntKind.i64).enc y3).length:Int) =
 (↑(List.map (Sy.int IntKind.i64).enc y3).length:Int)) ||
 decide ((↑(List.map (Sy.int IntKind.i64).enc y3).length:Int)=0)) &&
 true &&
 decide
 ((↑(List.map (Sy.int IntKind.i64).enc y3).length:Int)*(↑8:Int)≤140737488355328) &&
 decide ((↑(List.map (Sy.int IntKind.i64).enc y3).length:Int)≤140737488355328))
 (aT (Sy.int IntKind.i64).li (List.map (Sy.int IntKind.i64).li.enc a0) y2
 fun (y4:List Int) =>
 dZ (Sy.int IntKind.i64)
 (List.replicate (↑(List.map (Sy.int IntKind.i64).enc y3).length:Int).toNat
 [T.v (.int .i64 0)])
 fun (y5:List Int) =>
 b9 (Int×List Int×PUnit)
 (fun (X6:Int×List Int×PUnit→Prop) (s7:Int×List Int×PUnit) =>
 aC (decide (s7.1<(↑(List.map (Sy.int IntKind.i64).enc y4).length:Int)))
 (aT (Sy.int IntKind.i64) (List.map (Sy.int IntKind.i64).enc y4) s7.1
 fun (y8:Int) =>
 A7 (List Int×PUnit)
 (fun (X9:List Int×PUnit→Prop) =>
 aC (decide (0<s1.1))
 (aT (Sy.int IntKind.i64).li
 (List.map (Sy.int IntKind.i64).li.enc s1.2.1)
 (IntKind.i64.wrap (s1.1-1)) fun (y10:List Int) =>
 mJ (Sy.int IntKind.i64).li
 (List.map (Sy.int IntKind.i64).li.enc s1.2.1)
 (IntKind.i64.wrap (s1.1-1)).toNat 0 fun (y11:List Int) =>
 aT (Sy.int IntKind.i64)
 (List.map (Sy.int IntKind.i64).enc y11) s7.1 fun (y12:Int) =>
 aT (Sy.int IntKind.i64)
 (List.map (Sy.int IntKind.i64).enc s7.2.1) s7.1 fun (y13:Int) =>
 BY (List.map (Sy.int IntKind.i64).enc s7.2.1)
 (Int.toNat s7.1) fun (y14:List T) =>
 c4 (decide (1≤y14.length))
 (dZ (Sy.int IntKind.i64)
 ((List.map (Sy.int IntKind.i64).enc s7.2.1).set
 (Int.toNat s7.1)
 (aS y14 0 [T.v (.int .i64 y12)]))
 fun (y15:List Int)=>X9 (y15,())))
 (dZ (Sy.int IntKind.i64)
 (List.map (Sy.int IntKind.i64).enc s7.2.1) fun (y16:List Int) =>
 X9 (y16,())))
 fun (s17:List Int×PUnit) =>
 A7 (List Int×PUnit)
 (fun (X18:List Int×PUnit→Prop) =>
 aC (decide (0<s7.1))
 (aT (Sy.int IntKind.i64)
 (List.map (Sy.int IntKind.i64).enc s17.1) s7.1 fun (y19:Int) =>
 mJ (Sy.int IntKind.i64)
 (List.map (Sy.int IntKind.i64).enc s17.1) (Int.toNat s7.1) 0
 fun (y20:Int) =>
 aT (Sy.int IntKind.i64)
 (List.map (Sy.int IntKind.i64).enc s17.1)
 (IntKind.i64.wrap (s7.1-1)) fun (y21:Int) =>
 mJ (Sy.int IntKind.i64)
 (List.map (Sy.int IntKind.i64).enc s17.1)
 (IntKind.i64.wrap (s7.1-1)).toNat 0 fun (y22:Int) =>
 aT (Sy.int IntKind.i64)
 (List.map (Sy.int IntKind.i64).enc s17.1) s7.1 fun (y23:Int) =>
 BY (List.map (Sy.int IntKind.i64).enc s17.1)
 (Int.toNat s7.1) fun (y24:List T) =>
 c4 (decide (1≤y24.length))
 (dZ (Sy.int IntKind.i64)
 ((List.map (Sy.int IntKind.i64).enc s17.1).set
 (Int.toNat s7.1)
 (aS y24 0
 [T.v (.int .i64 (if y20<y22 then y22 else y20))]))
 fun (y25:List Int)=>X18 (y25,())))
 (dZ (Sy.int IntKind.i64)
 (List.map (Sy.int IntKind.i64).enc s17.1) fun (y26:List Int) =>
 X18 (y26,())))
 fun (s27:List Int×PUnit) =>
 aT (Sy.int IntKind.i64)
 (List.map (Sy.int IntKind.i64).enc s27.1) s7.1 fun (y28:Int) =>
 mJ (Sy.int IntKind.i64)
 (List.map (Sy.int IntKind.i64).enc s27.1) (Int.toNat s7.1) 0
 fun (y29:Int) =>
 aT (Sy.int IntKind.i64)
 (List.map (Sy.int IntKind.i64).enc s27.1) s7.1 fun (y30:Int) =>
 BY (List.map (Sy.int IntKind.i64).enc s27.1) (Int.toNat s7.1)
 fun (y31:List T) =>
 c4 (decide (1≤y31.length))
 (dZ (Sy.int IntKind.i64)
 ((List.map (Sy.int IntKind.i64).enc s27.1).set (Int.toNat s7.1)
 (aS y31 0
 [T.v (.int .i64 (IntKind.i64.wrap (y29+y8)))]))
 fun (y32:List Int)=>X6 (IntKind.i64.wrap (s7.1+1),y32,())))
 (c4
 (decide
 (((List.map (Sy.int IntKind.i64).li.enc s1.2.1).length+1)*24 ≤
 140737488355328) &&
 decide
 ((List.map (Sy.int IntKind.i64).li.enc s1.2.1).length+1≤140737488355328))
 (dZ (Sy.int IntKind.i64).li
 (List.map (Sy.int IntKind.i64).li.enc s1.2.1 ++
 [[T.sl false (List.map (Sy.int IntKind.i64).enc s7.2.1)]])
 fun (y33:List (List Int))=>X0 (IntKind.i64.wrap (s1.1+1),y33,()))))
 (0,y5,())))
 (R (T.sl false (List.map (Sy.int IntKind.i64).li.enc s1.2.1))))
 (0,[],())
abbrev D8:Sh:=[(false,(Sy.int IntKind.i64).li.li),(false,(Sy.int IntKind.i64).li)]
abbrev pF:Sh:=[(false,(Sy.int IntKind.i64).li.li)]
theorem qA (y:Sh.den pF) (K:Sh.den pF→Prop):aO pF (some (Sh.enc pF y)) K=K y:=bL rfl y K
def l3 (x:List (List Int)×List Int):Option T:=match CA x.1 x.2 with
 | true=>some (Sh.enc pF (iO x.1 (List.replicate (x.1.getD 0 []).length 0) x.2))
 | false=>none
noncomputable def kP:List T→Option T:=gS D8 l3
theorem HJ {a0 a1}:kP [T.sl false (List.map (Sy.int IntKind.i64).li.enc a0),
 T.sl false (List.map (Sy.int IntKind.i64).enc a1)]=l3 (a0,a1):=dI (s:=D8) rfl (a0,a1) rfl
theorem ON:JD Tryz.prog 33 kP l3 (fR D8) CJ:=uE (a1:=(false,(Sy.int IntKind.i64).li.li)) (a2:=(false,(Sy.int IntKind.i64).li)) (sp:=l3) (F:=CJ) (Hs:=P8) (f:=33) (k:=8) I1 cT cX (aZ rfl) ⟨_,_,Tryz.func33,rfl⟩ rfl fun _ _ _=>by kernel_rfl
theorem FB:aW Tryz.prog 33 kP:=ON fun p l r h hb=>by
 unfold l3 at h
 split at h
 case h_2=>cases h
 rename_i hok
 cases h
 have H:=iU hok
 dsimp only at H ⊢
 generalize (p.getD 0 []).length=m at H ⊢
 have hl:=H.len;have hn:=H.n;have hm:=H.m8
 unfold CJ
 simp only[List.length_map]
 refine bE l.length (fun k s=>s=((k:Int),iO p (List.replicate m 0) (l.take k),())) rfl ?_
 rintro X k s hk rfl hX
 dsimp only
 refine bY (fun hlt=>?_) fun hge=>?_
 ·have hlt:k<l.length:=by omega
  have hj:=H.diff.2 l[k] (List.getElem_mem hlt)
  have hjn:(l[k]).toNat<p.length:=by omega
  have hje:l[k]=((l[k].toNat:Nat):Int):=by omega
  obtain ⟨r1,r2,r3⟩:=H.rG.row hjn
  have hrow:p[l[k].toNat]=p.getD l[k].toNat []:=by simp[List.getD,hjn]
  have hpl:(aJ p (List.replicate m 0) (l.take k)).length=m:=c5 H.rG.1 _ _ (H.diff.pre k).2 List.length_replicate
  have hnext:aJ p (List.replicate m 0) (l.take (k+1))=dC 0 (aJ p (List.replicate m 0) (l.take k)) (p.getD l[k].toNat []):=by rw[oI hlt,fL];rfl
  rw[aP (r:=.int .i64) hlt,hje,aP (r:=(Sy.int .i64).li) hjn,hrow,←hje]
  generalize hR:p.getD l[k].toNat []=row at *
  have hRl:(dC 0 (aJ p (List.replicate m 0) (l.take k)) row).length=m:=(lC _ _ _ (by omega)).trans r1
  have hat:=F2 0 (aJ p (List.replicate m 0) (l.take k)) row
  have hsm:=fun i (hi:i<m)=>H.small (k+1) hi
  have hsp:=fun i (hi:i<m)=>H.small k hi
  rw[hnext] at hsm
  have htab:iO p (List.replicate m 0) (l.take (k+1))=iO p (List.replicate m 0) (l.take k)++[dC 0 (aJ p (List.replicate m 0) (l.take k)) row]:=by rw[oI hlt,xE,hR]
  have hprev:0<k→∃ hk1:k-1<(iO p (List.replicate m 0) (l.take k)).length,(iO p (List.replicate m 0) (l.take k))[k-1]=aJ p (List.replicate m 0) (l.take k):=fun h0=>by
   have hk1:k-1<(l.take k).length:=by rw[List.length_take];omega
   have:=u6 p (l.take k) (List.replicate m 0) (k-1) hk1
   refine ⟨by rw[gW];exact hk1,?_⟩
   rw[List.getElem?_eq_getElem (by rw[gW];exact hk1)] at this
   rw[Option.some.inj this,List.take_take]
   congr 2
   omega
  have hfirst:k=0→aJ p (List.replicate m 0) (l.take k)=List.replicate m 0:=fun h=>by subst h;rfl
  generalize hP:aJ p (List.replicate m 0) (l.take k)=prev at *
  generalize iO p (List.replicate m 0) (l.take k)=tab at *
  generalize hRR:dC 0 prev row=R at *
  refine ⟨by rw[r1];simp only[decide_true,Bool.true_or,Bool.true_and,Bool.and_eq_true,decide_eq_true_eq];omega,?_⟩
  have hrep:List.replicate (Int.toNat (row.length:Int)) [T.v (.int .i64 0)]=List.map (Sy.int .i64).enc (List.replicate m 0):=by rw[Int.toNat_natCast,r1,List.map_replicate];rfl
  rw[hje,aP (r:=(Sy.int .i64).li) hjn,hrow]
  rw[hrep,bX rfl]
  refine bE m (fun s st=>st=((s:Int),fI R s,())) (by rw[G1,hRl];rfl) ?_
  rintro Y s st hs rfl hY
  dsimp only
  have hcl:(fI R s).length=m:=by rw[kJ (by omega),hRl]
  refine bY (fun hlt2=>?_) fun hge2=>?_
  ·have hs1:s<row.length:=by omega
   have hsR:s<R.length:=by omega
   have hsp':=hsp s (by omega)
   have hsm':=hsm s (by omega)
   have hat':=hat s (by omega) hs1
   have hrs:row[s]=row.getD s 0:=by simp[List.getD,hs1]
   rw[aP (r:=.int .i64) hs1]
   refine tR ((fI R s).set s (prev.getD s 0),()) (fun Z hZ=>?_) ?_
   ·refine bY (fun h0=>?_) fun h0=>?_
    ·have h0:0<k:=by omega
     obtain ⟨t1,t2⟩:=hprev h0
     rw[rO h0 (by omega)]
     refine A9 (r:=(Sy.int .i64).li) t1 ?_
     rw[t2,aP (r:=.int .i64) (show s<prev.length by omega)]
     refine EI (by omega) ?_
     rw[show prev[s]'(by omega)=prev.getD s 0 by simp[List.getD,show s<prev.length by omega]]
     exact hZ
    ·have h0:k=0:=by omega
     rw[bX rfl]
     have:(fI R s).set s (prev.getD s 0)=fI R s:=by
      rw[hfirst h0]
      have h1:(List.replicate m (0:Int)).getD s 0=(fI R s)[s]'(by omega):=by rw[NB hsR (by omega)];simp[List.getD,show s<m by omega]
      rw[h1,List.set_getElem_self]
     rw[this] at hZ
     exact hZ
   refine tR ((fI R s).set s (max (if s=0 then 0 else R.getD (s-1) 0) (prev.getD s 0)),()) (fun Z hZ=>?_) ?_
   ·dsimp only
    refine bY (fun h0=>?_) fun h0=>?_
    ·have h0:0<s:=by omega
     refine A9 (r:=.int .i64) (by rw[List.length_set];omega) ?_
     rw[rO h0 (by omega)]
     refine A9 (r:=.int .i64) (by rw[List.length_set];omega) ?_
     refine EI (by rw[List.length_set];omega) ?_
     rw[List.set_set,List.getElem_set_self,List.getElem_set_ne (by omega),rL (by omega) (by omega)]
     rw[if_neg (by omega)] at hZ
     have:(if prev.getD s 0<R.getD (s-1) 0 then R.getD (s-1) 0 else prev.getD s 0)=max (R.getD (s-1) 0) (prev.getD s 0):=by split<;>omega
     rw[this];exact hZ
    ·have h0:s=0:=by omega
     rw[bX rfl]
     subst h0
     rw[if_pos rfl] at hZ
     have:max 0 (prev.getD 0 0)=prev.getD 0 0:=by omega
     rw[this] at hZ
     exact hZ
   dsimp only
   refine A9 (r:=.int .i64) (by rw[List.length_set];omega) ?_
   refine EI (by rw[List.length_set];omega) ?_
   refine hY _ (by omega) ?_
   have hRs:R[s]'hsR=R.getD s 0:=by simp[List.getD,hsR]
   rw[List.set_set,List.getElem_set_self,hrs,←hat',show IntKind.i64.wrap (R.getD s 0)=R.getD s 0 from bN _ (by omega) (by omega),JX hsR,cJ (n:=8) (k:=s) (by omega) (by omega)]
  ·have:s=m:=by omega
   subst this
   have htl:tab.length=k:=by
    have:=congrArg List.length htab
    rw[gW,List.length_append,List.length_take] at this
    simp at this;omega
   refine ⟨by rw[Bool.and_eq_true,decide_eq_true_eq,decide_eq_true_eq,htl];omega,?_⟩
   have hce:fI R s=R:=by rw[←hRl];exact JW R
   rw[hce,gC (r:=(Sy.int IntKind.i64).li) rfl tab _ R rfl]
   exact hX _ hlt (by rw[cJ hlt (by omega),htab])
 ·have:k=l.length:=by omega
  subst this
  rw[List.take_length]
  rfl
end Go.Pv
namespace Go.Pv
open Go Go.Proofs
end Go.Pv
namespace Go.Pv
open Go Go.Proofs
theorem o9 {p:List (List Int)} {l:List Int} {m:Nat} (H:QE p l m) {s:Int} (h0:0≤s) (hs:s<m):FK (iO p (List.replicate m 0) l) s=some ((aJ p (List.replicate m 0) l).getD s.toNat 0):=by
 unfold FK
 cases hl:l with
 | nil=>simp[iO,aJ,List.getD,show s.toNat<m by omega]
 | cons a r =>
  have hne:0<l.length:=by rw[hl];simp
  rw[←hl,List.getLast?_eq_getElem?,gW,u6 p l _ _ (by omega),show l.length-1+1=l.length by omega,List.take_length]
  dsimp only
  have h3:=c5 H.rG.1 l (List.replicate m 0) H.diff.2 List.length_replicate
  rw[decide_eq_true h0]
  simp[List.getD,show s.toNat<(aJ p (List.replicate m 0) l).length by omega]
def T5 (p:List (List Int)) (l:List Int) (s:Int):Bool:=CA p l&&(decide (0≤s)&&decide (s<(p.getD 0 []).length))
theorem LJ {p:List (List Int)} {l:List Int} {s:Int} (h:T5 p l s=true):CA p l=true∧0≤s∧s<(p.getD 0 []).length:=by
 unfold T5 at h
 simpa using h
theorem J6 {p:List (List Int)} {l:List Int} (h:CA p l=true):kP [T.sl false (List.map (Sy.int .i64).li.enc p),T.sl false (List.map (Sy.int .i64).enc l)]=some (Sh.enc pF (iO p (List.replicate (p.getD 0 []).length 0) l)):=by
 rw[HJ];unfold l3;rw[h]
noncomputable def IX:Env:=Env.of [(36,.pure jL)]
def JC:FuncId→Hint:=j2 41 [(2,.inv [.val 9 false (.int .i64)])] (fun _=>cN)
theorem CF:aL Tryz.prog IX:=.cons x8 (.nil _)
def rV (a0:List (List Int)) (a1:List Int) (R:T→Prop):Prop :=
 b9 (Int×PUnit)
 (fun (X0:Int×PUnit→Prop) (s1:Int×PUnit) =>
 aC (decide (s1.1<(↑(List.map (Sy.int IntKind.i64).enc a1).length:Int)))
 (aT (Sy.int IntKind.i64) (List.map (Sy.int IntKind.i64).enc a1) s1.1
 fun (y2:Int) =>
 aC (decide (y2<0)) (R (T.v (.bool false)))
 (aC (decide ((↑(List.map (Sy.int IntKind.i64).li.enc a0).length:Int)≤y2))
 (R (T.v (.bool false)))
 (c4
 (nA 1 (List.map (Sy.int IntKind.i64).enc a1) &&
 (decide (0≤s1.1) &&
 decide (Int.toNat s1.1≤(List.map (Sy.int IntKind.i64).enc a1).length)) &&
 true)
 (aO [(false,Sy.bool)]
 (jL
 [T.sl false
 (List.drop 0 (List.take (Int.toNat s1.1) (List.map (Sy.int IntKind.i64).enc a1))),
 T.v (.int .i64 y2)])
 fun (y3:Bool) =>
 aC y3 (R (T.v (.bool false))) (X0 (IntKind.i64.wrap (s1.1+1),()))))))
 (R (T.v (.bool true))))
 (0,())
abbrev uR:Sh:=[(false,(Sy.int IntKind.i64).li.li),(false,(Sy.int IntKind.i64).li)]
abbrev iX:Sh:=[(false,Sy.bool)]
theorem vM (y:Sh.den iX) (K:Sh.den iX→Prop):aO iX (some (Sh.enc iX y)) K=K y:=bL rfl y K
def jB (x:List (List Int)×List Int):Option T:=some (Sh.enc iX (dO x.1 x.2))
noncomputable def kR:List T→Option T:=gS uR jB
theorem AZ {a0 a1}:kR [T.sl false (List.map (Sy.int IntKind.i64).li.enc a0),
 T.sl false (List.map (Sy.int IntKind.i64).enc a1)]=jB (a0,a1):=dI (s:=uR) rfl (a0,a1) rfl
theorem IA:JD Tryz.prog 41 kR jB (fR uR) rV:=uE (a1:=(false,(Sy.int IntKind.i64).li.li)) (a2:=(false,(Sy.int IntKind.i64).li)) (sp:=jB) (F:=rV) (Hs:=JC) (f:=41) (k:=8) CF cT cX (aZ rfl) ⟨_,_,Tryz.func41,rfl⟩ rfl fun _ _ _=>by kernel_rfl
theorem HE:aW Tryz.prog 41 kR:=IA fun p l r h hb=>by
 cases h
 have hl:l.length≤2 ^ 47:=hb.2.1
 have is:∀ {n:Bool},dO p l=n→T.v (.bool n)=Sh.enc iX (dO p l):=fun h=>by rw[h];rfl
 unfold rV
 simp only[List.length_map]
 have no:∀ k,k<l.length→decide (0≤l.getD k 0∧l.getD k 0<p.length∧l.getD k 0∉l.take k)=false→dO p l=false:=fun k hk h=>by
  cases hr:dO p l with
  | false=>rfl
  | true =>
   unfold dO at hr
   rw[List.all_eq_true] at hr
   rw[hr k (List.mem_range.2 hk)] at h;cases h
 refine bE l.length (fun k s=>s=((k:Int),())∧∀ i,i<k→decide (0≤l.getD i 0∧l.getD i 0<p.length∧l.getD i 0∉l.take i)=true) ⟨rfl,fun i h=>by omega⟩ ?_
 rintro X k s hk ⟨rfl,he⟩ hX
 dsimp only
 refine bY (fun hlt=>?_) fun hge=>?_
 ·have hlt:k<l.length:=by omega
  have e:l.getD k 0=l[k]:=by simp[List.getD,hlt]
  have no:=no k hlt
  rw[e] at no
  rw[aP (r:=.int .i64) hlt]
  refine bY (fun h=>is (no (decide_eq_false (by omega)))) fun h1=>?_
  refine bY (fun h=>is (no (decide_eq_false (by omega)))) fun h2=>?_
  refine ⟨by
   rw[Int.toNat_natCast,decide_eq_true (show (0:Int)≤k by omega),decide_eq_true (by omega),Bool.and_true,Bool.and_true,Bool.and_true]
   cases l<;>rfl,?_⟩
  rw[Int.toNat_natCast,List.drop_zero,←List.map_take,o4]
  simp only[jX]
  rw[kW]
  refine bY (fun h=>is (no (decide_eq_false fun g=>g.2.2 h))) fun h=>?_
  refine hX _ hlt ⟨by rw[cJ hlt hl],fun i hi=>?_⟩
  by_cases hik:i<k
  ·exact he i hik
  ·have:i=k:=by omega
   subst this
   rw[e]
   exact decide_eq_true ⟨by omega,by omega,h⟩
 ·have:k=l.length:=by omega
  subst this
  refine is ?_
  unfold dO
  rw[List.all_eq_true]
  exact fun i hi=>he i (List.mem_range.1 hi)
end Go.Pv
namespace Go.Pv
open Go Go.Proofs
def j8 (p:List (List Int)) (m:Nat) (l:List Int) (i k:Nat):Int×Int:=(List.range k).foldl (e8 p l i) ((aJ p (List.replicate m 0) l).getD i 0,-1)
theorem GN (p:List (List Int)) (m:Nat) (l:List Int) (i k:Nat):j8 p m l i (k+1)=e8 p l i (j8 p m l i k) k:=by
 unfold j8;rw[List.range_succ,List.foldl_append];rfl
theorem vX {p:List (List Int)} {m:Nat} {l:List Int} (H:QE p l m) {i k:Nat} (hi:i<m) (hk:k≤p.length) :
  0≤(j8 p m l i k).1∧(j8 p m l i k).1≤8000000∧-1≤(j8 p m l i k).2∧(j8 p m l i k).2≤800000:=by
 have h0:=H.small l.length hi
 rw[List.take_length] at h0
 have hm:=H.m8;have hn:=H.n
 have:=zZ H.rG (by omega) l i (List.range k) ((aJ p (List.replicate m 0) l).getD i 0,-1) (fun j hj=>by have:=List.mem_range.1 hj;omega) h0.1 ⟨by dsimp only;omega,by dsimp only;omega⟩
 rw[List.length_range] at this
 dsimp only at this
 show 0≤(j8 p m l i k).1∧_
 unfold j8
 omega
theorem M6 {p:List (List Int)} {m:Nat} {l:List Int} {i:Nat} (H:QE p l m) (hi:i<m) :
  IntKind.i64.wrap ((j8 p m l i p.length).1+if (j8 p m l i p.length).2<0 then 0 else (j8 p m l i p.length).2)=kF p m l i:=by
 obtain ⟨h1,h2,h3,h4⟩:=vX H hi (Nat.le_refl p.length)
 have e:kF p m l i=(j8 p m l i p.length).1+max (j8 p m l i p.length).2 0:=rfl
 rw[e]
 split<;>rw[bN _ (by omega) (by omega)]<;>omega
theorem M7 {p:List (List Int)} {l:List Int} {i:Nat} {a:Int×Int} {j:Nat} (h:(j:Int)∈l):e8 p l i a j=a:=by unfold e8;rw[if_pos h]
theorem JO {p:List (List Int)} {l:List Int} {i:Nat} {a:Int×Int} {j:Nat} (h:(j:Int)∉l):e8 p l i a j=(a.1+(p.getD j []).getD i 0,if a.2<0∨fT (p.getD j []) i<a.2 then fT (p.getD j []) i else a.2):=by unfold e8;rw[if_neg h]
theorem oD {p:List (List Int)} {k:Nat} (hk:k<p.length):p[k]=p.getD k []:=by simp[List.getD,hk]
theorem DZ {p:List (List Int)} {m:Nat} {l:List Int} (H:QE p l m) {j:Nat} (hj:j<p.length) (i q:Nat):0≤(((p.getD j []).drop i).take q).sum∧(((p.getD j []).drop i).take q).sum≤800000:=by
 obtain ⟨r1,r2,r3⟩:=H.rG.row hj
 have hm:=H.m8
 refine ⟨gV fun n hn=>r2 n (List.mem_of_mem_drop (List.mem_of_mem_take hn)),?_⟩
 have h1:=EM (B:=100000) (l:=((p.getD j []).drop i).take q) fun n hn=>r3 n (List.mem_of_mem_drop (List.mem_of_mem_take hn))
 have h2:(((p.getD j []).drop i).take q).length≤8:=by rw[List.length_take,List.length_drop];omega
 omega
end Go.Pv
namespace Go.Pv
open Go Go.Proofs
noncomputable def PW:Env:=Env.of [(36,.pure jL),(21,.pure fX)]
def P5:FuncId→Hint:=j2 35 [(3,.inv [.val 21 false (.int .i64),.val 9 false (.int .i64),.val 10 false (.int .i64)]),(9,.inv [.val 40 false (.int .i64),.val 13 false (.int .i64)])] (fun _=>cN)
theorem IY:aL Tryz.prog PW:=.cons x8 (.cons s0 (.nil _))
def CG (a0:List (List Int)) (a1:List Int) (a2:List (List Int)) (a3:Int) (R:T→Prop):Prop :=
 aO [(false,Sy.int IntKind.i64)]
 (fX
 [T.sl false (List.map (Sy.int IntKind.i64).li.enc a2),T.v (.int .i64 a3)])
 fun (y0:Int) =>
 b9 (Int×Int×Int×PUnit)
 (fun (X1:Int×Int×Int×PUnit→Prop) (s2:Int×Int×Int×PUnit) =>
 aC (decide (s2.1<(↑(List.map (Sy.int IntKind.i64).li.enc a0).length:Int)))
 (aT (Sy.int IntKind.i64).li (List.map (Sy.int IntKind.i64).li.enc a0) s2.1
 fun (y3:List Int) =>
 aO [(false,Sy.bool)]
 (jL
 [T.sl false (List.map (Sy.int IntKind.i64).enc a1),
 T.v (.int .i64 s2.1)])
 fun (y4:Bool) =>
 aC y4 (X1 (IntKind.i64.wrap (s2.1+1),s2.2.1,s2.2.2.1,()))
 (aT (Sy.int IntKind.i64) (List.map (Sy.int IntKind.i64).enc y3) a3
 fun (y5:Int) =>
 c4
 (nA 1 (List.map (Sy.int IntKind.i64).enc y3) &&
 decide
 ((List.map (Sy.int IntKind.i64).enc y3).length ≤
 (List.map (Sy.int IntKind.i64).enc y3).length) &&
 (decide (0≤IntKind.i64.wrap (a3+1)) &&
 decide
 ((IntKind.i64.wrap (a3+1)).toNat ≤
 (List.map (Sy.int IntKind.i64).enc y3).length)))
 (b9 (Int×Int×PUnit)
 (fun (X6:Int×Int×PUnit→Prop) (s7:Int×Int×PUnit) =>
 aC
 (decide
 (s7.1 <
 (↑(List.drop (IntKind.i64.wrap (a3+1)).toNat
 (List.take (List.map (Sy.int IntKind.i64).enc y3).length
 (List.map (Sy.int IntKind.i64).enc y3))).length :
 Int)))
 (aT (Sy.int IntKind.i64)
 (List.drop (IntKind.i64.wrap (a3+1)).toNat
 (List.take (List.map (Sy.int IntKind.i64).enc y3).length
 (List.map (Sy.int IntKind.i64).enc y3)))
 s7.1 fun (y8:Int) =>
 X6 (IntKind.i64.wrap (s7.1+1),IntKind.i64.wrap (s7.2.1+y8),()))
 (aC (decide (s2.2.2.1<0))
 (X1 (IntKind.i64.wrap (s2.1+1),IntKind.i64.wrap (s2.2.1+y5),s7.2.1,()))
 (aC (decide (s7.2.1<s2.2.2.1))
 (X1
 (IntKind.i64.wrap (s2.1+1),IntKind.i64.wrap (s2.2.1+y5),s7.2.1,()))
 (X1
 (IntKind.i64.wrap (s2.1+1),IntKind.i64.wrap (s2.2.1+y5),s2.2.2.1,
 ())))))
 (0,0,()))))
 (R
 (T.v (.int .i64 (IntKind.i64.wrap (s2.2.1+if s2.2.2.1<0 then 0 else s2.2.2.1))))))
 (0,y0,-1,())
abbrev D5:Sh:=[(false,(Sy.int IntKind.i64).li.li),(false,(Sy.int IntKind.i64).li),(false,(Sy.int IntKind.i64).li.li),(false,(Sy.int IntKind.i64))]
abbrev D2:Sh:=[(false,Sy.int IntKind.i64)]
def lY (x:List (List Int)×List Int×List (List Int)×Int):Option T:=match T5 x.1 x.2.1 x.2.2.2&&decide (x.2.2.1=iO x.1 (List.replicate (x.1.getD 0 []).length 0) x.2.1) with
 | true=>some (Sh.enc D2 (kF x.1 (x.1.getD 0 []).length x.2.1 x.2.2.2.toNat))
 | false=>none
noncomputable def o3:List T→Option T:=gS D5 lY
theorem HH {a0 a1 a2 a3}:o3 [T.sl false (List.map (Sy.int IntKind.i64).li.enc a0),
 T.sl false (List.map (Sy.int IntKind.i64).enc a1),
 T.sl false (List.map (Sy.int IntKind.i64).li.enc a2),T.v (.int .i64 a3)]=lY (a0,a1,a2,a3):=dI (s:=D5) rfl (a0,a1,a2,a3) rfl
theorem OK:UZ Tryz.prog 35 o3 lY (fR D5) CG:=UN (a1:=(false,(Sy.int IntKind.i64).li.li)) (a2:=(false,(Sy.int IntKind.i64).li)) (a3:=(false,(Sy.int IntKind.i64).li.li)) (a4:=(false,(Sy.int IntKind.i64))) (sp:=lY) (F:=CG) (Hs:=P5) (f:=35) (k:=8) IY cT cX (aZ rfl) ⟨_,_,Tryz.func35,rfl⟩ rfl fun _ _ _ _ _=>by kernel_rfl
theorem DY (l:List Int):nA 1 (List.map (Sy.int .i64).enc l)=true:=by cases l<;>rfl
theorem NO:aW Tryz.prog 35 o3:=OK fun p l t s r h hb=>by
 unfold lY at h
 split at h
 case h_2=>cases h
 rename_i hok
 cases h
 rw[Bool.and_eq_true,decide_eq_true_eq] at hok
 obtain ⟨hok,ht⟩:=hok
 dsimp only at ht
 obtain ⟨h1,h2,h3⟩:=LJ hok
 have H:=iU h1
 dsimp only at H h1 h2 h3 hok ⊢
 subst ht
 unfold CG
 have hg:=o9 H h2 h3
 rw[mW]
 unfold fP
 dsimp only
 rw[hg]
 refine fD (s:=rP) (y:=(aJ p (List.replicate (p.getD 0 []).length 0) l).getD s.toNat 0) rfl ?_
 simp only[List.length_map]
 obtain ⟨i,rfl⟩:∃ i:Nat,s=i:=⟨s.toNat,by omega⟩
 rw[Int.toNat_natCast]
 clear hg
 generalize (p.getD 0 []).length=m at *
 have hi:i<m:=by omega
 have hn:=H.n;have hm:=H.m8
 refine bE p.length (fun k s=>s=((k:Int),(j8 p m l i k).1,(j8 p m l i k).2,())) rfl ?_
 rintro X k s hk rfl hX
 dsimp only
 refine bY (fun hlt=>?_) fun hge=>?_
 ·have hlt:k<p.length:=by omega
  obtain ⟨r1,r2,r3⟩:=H.rG.row hlt
  have hbs:=GN p m l i k
  obtain ⟨z1,z2,z3,z4⟩:=vX H hi (show k≤p.length by omega)
  rw[aP (r:=(Sy.int .i64).li) hlt,oD hlt,o4]
  simp only[jX]
  rw[kW,cJ hlt (by omega)]
  refine bY (fun h=>?_) fun h=>?_
  ·rw[M7 h] at hbs
   exact hX _ hlt (by rw[hbs])
  ·rw[JO h] at hbs
   have hir:i<(p.getD k []).length:=by omega
   rw[aP (r:=.int .i64) hir]
   have hg:(p.getD k []).getD i 0=(p.getD k [])[i]:=by rw[List.getD_eq_getElem?_getD,List.getElem?_eq_getElem hir];rfl
   have hgs:=FD H.rG (by omega) hlt i
   rw[hg] at hgs hbs
   have hps:=fun q=>DZ H hlt (i+1) q
   have hrest:fT (p.getD k []) i=((p.getD k []).drop (i+1)).sum:=rfl
   rw[hrest] at hbs
   generalize hrow:p.getD k []=row at *
   rw[cJ (n:=8) (k:=i) (by omega) (by omega),show IntKind.i64.wrap ((j8 p m l i k).1+row[i])=(j8 p m l i k).1+row[i] from bN _ (by omega) (by omega),Int.toNat_natCast,DY]
   refine ⟨by
    rw[decide_eq_true (Nat.le_refl _),decide_eq_true (show (0:Int)≤((i+1:Nat):Int) by omega),decide_eq_true (show i+1≤row.length by omega)];rfl,?_⟩
   have hdl:(row.drop (i+1)).length=m-(i+1):=by rw[List.length_drop];omega
   have hdr:List.drop (i+1) (List.take row.length (List.map (Sy.int .i64).enc row))=List.map (Sy.int .i64).enc (row.drop (i+1)):=by
    rw[List.take_of_length_le (by simp),List.map_drop]
   refine bE (m-(i+1)) (fun q st=>st=((q:Int),((row.drop (i+1)).take q).sum,())) (by simp) ?_
   rintro Y q st hq rfl hY
   dsimp only
   rw[hdr,List.length_map]
   refine bY (fun hlt2=>?_) fun hge2=>?_
   ·have hq2:q<(row.drop (i+1)).length:=by omega
    rw[aP (r:=.int .i64) hq2]
    have hs:=MC hq2
    have h5:=hps (q+1)
    refine hY _ (by omega) ?_
    rw[←hs,show IntKind.i64.wrap ((row.drop (i+1)).take (q+1)).sum=((row.drop (i+1)).take (q+1)).sum from bN _ (by omega) (by omega),cJ (n:=9) (k:=q) (by omega) (by omega)]
   ·have:q=m-(i+1):=by omega
    subst this
    have hall:(row.drop (i+1)).take (m-(i+1))=row.drop (i+1):=List.take_of_length_le (by rw[List.length_drop];omega)
    rw[hall]
    refine bY (fun h5=>?_) fun h5=>?_
    ·rw[if_pos (.inl h5)] at hbs
     exact hX _ hlt (by rw[hbs])
    ·refine bY (fun h6=>?_) fun h6=>?_
     ·rw[if_pos (.inr h6)] at hbs
      exact hX _ hlt (by rw[hbs])
     ·rw[if_neg (by omega)] at hbs
      exact hX _ hlt (by rw[hbs])
 ·have:k=p.length:=by omega
  subst this
  rw[M6 H hi];rfl
end Go.Pv
namespace Go.Pv
open Go Go.Proofs
theorem zS {α:Type} {l:List α} {f:α→Bool} {k:Nat} (hk:k<l.length) (h:f l[k]=true):l.any f=true:=List.any_eq_true.2 ⟨_,List.getElem_mem hk,h⟩
theorem EW {α:Type} {l:List α} {f:α→Bool} (h:∀ k (hk:k<l.length),f l[k]=false):l.any f=false:=by
 rw[List.any_eq_false]
 intro x hx
 obtain ⟨i,hi,rfl⟩:=List.mem_iff_getElem.1 hx
 rw[h i hi];simp
def M4 (row:List Int):Bool:=decide (8<row.length)
def QI (p:List (List Int)) (row:List Int):Bool:=decide (row.length=0∨¬ row.length=(p.getD 0 []).length)
def QJ (row:List Int):Bool:=row.any fun n=>decide (n<0∨100000<n)
theorem L7 (p:List (List Int)):dT p=if 32<p.length∨p.any M4=true then 4 else if p.any (QI p)=true then 17 else if p.any QJ=true then 9 else 0:=rfl
theorem O3 {α:Type} {l:List α} {f:α→Bool} {k:Nat} (hk:k<l.length) (h1:∀ j (hj:j<l.length),j<k→f l[j]=false) (h2:f l[k]=false):∀ j (hj:j<l.length),j<k+1→f l[j]=false:=fun j hj hjk=>by
 by_cases e:j<k
 ·exact h1 j hj e
 ·have:j=k:=by omega
  subst this;exact h2
noncomputable def PY:Env:=Env.of []
def P7:FuncId→Hint:=j2 31 [(4,.inv [.val 16 false (.int .i64)]),(10,.inv [.val 35 false (.int .i64)])] (j2 85 [(2,.inv [.val 8 false (.int .i64)])] (j2 84 [(2,.inv [.val 8 false (.int .i64)])] (fun _=>cN)))
theorem I0:aL Tryz.prog PY:=.nil _
def CI (a0:List (List Int)) (R:T→Prop):Prop :=
 aC (decide (32<(↑(List.map (Sy.int IntKind.i64).li.enc a0).length:Int)))
 (R (T.v (.int .i64 4)))
 (b9 (Int×PUnit)
 (fun (X0:Int×PUnit→Prop) (s1:Int×PUnit) =>
 aC (decide (s1.1<(↑(List.map (Sy.int IntKind.i64).li.enc a0).length:Int)))
 (aT (Sy.int IntKind.i64).li (List.map (Sy.int IntKind.i64).li.enc a0) s1.1
 fun (y2:List Int) =>
 aC (decide (8<(↑(List.map (Sy.int IntKind.i64).enc y2).length:Int)))
 (aC (decide (0≤s1.1)) (R (T.v (.int .i64 4)))
 (b9 (Int×PUnit)
 (fun (X3:Int×PUnit→Prop) (s4:Int×PUnit) =>
 aC (decide (s4.1<(↑(List.map (Sy.int IntKind.i64).li.enc a0).length:Int)))
 (aT (Sy.int IntKind.i64).li (List.map (Sy.int IntKind.i64).li.enc a0)
 s4.1 fun (y5:List Int) =>
 aC (decide ((↑(List.map (Sy.int IntKind.i64).enc y5).length:Int)=0))
 (R (T.v (.int .i64 17)))
 (aT (Sy.int IntKind.i64).li (List.map (Sy.int IntKind.i64).li.enc a0)
 0 fun (y6:List Int) =>
 aC
 (!decide
 ((↑(List.map (Sy.int IntKind.i64).enc y5).length:Int) =
 (↑(List.map (Sy.int IntKind.i64).enc y6).length:Int)))
 (R (T.v (.int .i64 17)))
 (X3 (IntKind.i64.wrap (s4.1+1),()))))
 (b9 (Int×PUnit)
 (fun (X7:Int×PUnit→Prop) (s8:Int×PUnit) =>
 aC
 (decide (s8.1<(↑(List.map (Sy.int IntKind.i64).li.enc a0).length:Int)))
 (aT (Sy.int IntKind.i64).li
 (List.map (Sy.int IntKind.i64).li.enc a0) s8.1 fun (y9:List Int) =>
 b9 (Int×PUnit)
 (fun (X10:Int×PUnit→Prop) (s11:Int×PUnit) =>
 aC
 (decide (s11.1<(↑(List.map (Sy.int IntKind.i64).enc y9).length:Int)))
 (aT (Sy.int IntKind.i64)
 (List.map (Sy.int IntKind.i64).enc y9) s11.1 fun (y12:Int) =>
 aC (decide (y12<0))
 (aC (decide (0≤s11.1)) (R (T.v (.int .i64 9)))
 (X7 (IntKind.i64.wrap (s8.1+1),())))
 (aC (decide (100000<y12))
 (aC (decide (0≤s11.1))
 (R (T.v (.int .i64 9)))
 (X7 (IntKind.i64.wrap (s8.1+1),())))
 (X10 (IntKind.i64.wrap (s11.1+1),()))))
 (X7 (IntKind.i64.wrap (s8.1+1),())))
 (0,()))
 (R (T.v (.int .i64 0))))
 (0,())))
 (0,())))
 (X0 (IntKind.i64.wrap (s1.1+1),())))
 (b9 (Int×PUnit)
 (fun (X13:Int×PUnit→Prop) (s14:Int×PUnit) =>
 aC (decide (s14.1<(↑(List.map (Sy.int IntKind.i64).li.enc a0).length:Int)))
 (aT (Sy.int IntKind.i64).li (List.map (Sy.int IntKind.i64).li.enc a0) s14.1
 fun (y15:List Int) =>
 aC (decide ((↑(List.map (Sy.int IntKind.i64).enc y15).length:Int)=0))
 (R (T.v (.int .i64 17)))
 (aT (Sy.int IntKind.i64).li (List.map (Sy.int IntKind.i64).li.enc a0) 0
 fun (y16:List Int) =>
 aC
 (!decide
 ((↑(List.map (Sy.int IntKind.i64).enc y15).length:Int) =
 (↑(List.map (Sy.int IntKind.i64).enc y16).length:Int)))
 (R (T.v (.int .i64 17))) (X13 (IntKind.i64.wrap (s14.1+1),()))))
 (b9 (Int×PUnit)
 (fun (X17:Int×PUnit→Prop) (s18:Int×PUnit) =>
 aC (decide (s18.1<(↑(List.map (Sy.int IntKind.i64).li.enc a0).length:Int)))
 (aT (Sy.int IntKind.i64).li (List.map (Sy.int IntKind.i64).li.enc a0)
 s18.1 fun (y19:List Int) =>
 b9 (Int×PUnit)
 (fun (X20:Int×PUnit→Prop) (s21:Int×PUnit) =>
 aC
 (decide (s21.1<(↑(List.map (Sy.int IntKind.i64).enc y19).length:Int)))
 (aT (Sy.int IntKind.i64) (List.map (Sy.int IntKind.i64).enc y19)
 s21.1 fun (y22:Int) =>
 aC (decide (y22<0))
 (aC (decide (0≤s21.1)) (R (T.v (.int .i64 9)))
 (X17 (IntKind.i64.wrap (s18.1+1),())))
 (aC (decide (100000<y22))
 (aC (decide (0≤s21.1)) (R (T.v (.int .i64 9)))
 (X17 (IntKind.i64.wrap (s18.1+1),())))
 (X20 (IntKind.i64.wrap (s21.1+1),()))))
 (X17 (IntKind.i64.wrap (s18.1+1),())))
 (0,()))
 (R (T.v (.int .i64 0))))
 (0,())))
 (0,())))
 (0,()))
abbrev D7:Sh:=[(false,(Sy.int IntKind.i64).li.li)]
abbrev pE:Sh:=[(false,Sy.int IntKind.i64)]
theorem p9 (y:Sh.den pE) (K:Sh.den pE→Prop):aO pE (some (Sh.enc pE y)) K=K y:=bL rfl y K
def lZ (x:List (List Int)):Option T:=some (Sh.enc pE (dT x))
noncomputable def mV:List T→Option T:=gS D7 lZ
theorem wH {a0}:mV [T.sl false (List.map (Sy.int IntKind.i64).li.enc a0)]=lZ (a0):=dI (s:=D7) rfl (a0) rfl
theorem OM:T9 Tryz.prog 31 mV lZ (fR D7) CI:=RI (a1:=(false,(Sy.int IntKind.i64).li.li)) (sp:=lZ) (F:=CI) (Hs:=P7) (f:=31) (k:=8) I0 cT cX (aZ rfl) ⟨_,_,Tryz.func31,rfl⟩ rfl fun _ _=>by kernel_rfl
theorem FA:aW Tryz.prog 31 mV:=OM fun p r h hb=>by
 cases h
 have is:∀ {n:Int},dT p=n→T.v (Value.int .i64 n)=Sh.enc pE (dT p):=fun h=>by rw[h];rfl
 have e:=L7 p
 unfold CI
 simp only[List.length_map]
 refine bY (fun h=>is (by rw[e,if_pos (.inl (by omega))])) fun h32=>?_
 have hn:p.length≤32:=by omega
 refine bE p.length (fun k s=>s=((k:Int),())∧∀ j (hj:j<p.length),j<k→M4 p[j]=false) ⟨rfl,fun j _ h=>by omega⟩ ?_
 rintro X k s hk ⟨rfl,he⟩ hX
 dsimp only
 refine bY (fun hlt=>?_) fun hge=>?_
 ·have hlt:k<p.length:=by omega
  rw[aP (r:=(Sy.int .i64).li) hlt]
  refine bY (fun h8=>bY (fun _=>is ?_) fun h=>absurd (Int.natCast_nonneg k) h) fun h8=>?_
  ·rw[e,if_pos (.inr (zS hlt (decide_eq_true (by omega))))]
  ·exact hX _ hlt ⟨by rw[cJ hlt (by omega)],O3 hlt he (decide_eq_false (by omega))⟩
 have:k=p.length:=by omega
 subst this
 have hA:p.any M4=false:=EW fun j hj=>he j hj hj
 rw[hA,if_neg (by simp;omega)] at e
 clear he hX hge hk
 refine bE p.length (fun k s=>s=((k:Int),())∧∀ j (hj:j<p.length),j<k→QI p p[j]=false) ⟨rfl,fun j _ h=>by omega⟩ ?_
 rintro X k s hk ⟨rfl,he⟩ hX
 dsimp only
 refine bY (fun hlt=>?_) fun hge=>?_
 ·have hlt:k<p.length:=by omega
  have h0:0<p.length:=by omega
  rw[aP (r:=(Sy.int .i64).li) hlt]
  refine bY (fun h8=>is ?_) fun h8=>(aP (r:=(Sy.int .i64).li) (k:=0) h0 _).mpr ?_
  ·rw[e,if_pos (zS hlt (decide_eq_true (by omega)))]
  ·rw[oD h0]
   refine l7 (fun h9=>is ?_) fun h9=>?_
   ·rw[e,if_pos (zS hlt (decide_eq_true (by omega)))]
   ·exact hX _ hlt ⟨by rw[cJ hlt (by omega)],O3 hlt he (decide_eq_false (by omega))⟩
 have:k=p.length:=by omega
 subst this
 have hB:p.any (QI p)=false:=EW fun j hj=>he j hj hj
 rw[hB,if_neg (by simp)] at e
 clear he hX hge hk
 refine bE p.length (fun k s=>s=((k:Int),())∧∀ j (hj:j<p.length),j<k→QJ p[j]=false) ⟨rfl,fun j _ h=>by omega⟩ ?_
 rintro X k s hk ⟨rfl,he⟩ hX
 dsimp only
 refine bY (fun hlt=>?_) fun hge=>?_
 ·have hlt:k<p.length:=by omega
  have h8:p[k].length≤8:=by
   have:=List.any_eq_false.1 hA p[k] (List.getElem_mem hlt)
   simp[M4] at this
   exact this
  rw[aP (r:=(Sy.int .i64).li) hlt]
  refine bE p[k].length (fun i s=>s=((i:Int),())∧∀ j (hj:j<p[k].length),j<i→decide (p[k][j]<0∨100000<p[k][j])=false) ⟨rfl,fun j _ h=>by omega⟩ ?_
  rintro Y i s hi ⟨rfl,hei⟩ hY
  dsimp only
  refine bY (fun hlti=>?_) fun hgei=>?_
  ·have hlti:i<p[k].length:=by omega
   rw[aP (r:=.int .i64) hlti]
   have bad:(p[k][i]<0∨100000<p[k][i])→dT p=9:=fun h=>by rw[e,if_pos (zS hlt (zS (f:=fun n=>decide (n<0∨100000<n)) hlti (decide_eq_true h)))]
   refine bY (fun h=>bY (fun _=>is (bad (.inl h))) fun h=>absurd (Int.natCast_nonneg i) h) fun h1=>?_
   refine bY (fun h=>bY (fun _=>is (bad (.inr h))) fun h=>absurd (Int.natCast_nonneg i) h) fun h2=>?_
   exact hY _ hlti ⟨by rw[cJ hlti (by omega)],O3 (f:=fun n=>decide (n<0∨100000<n)) hlti hei (decide_eq_false (by omega))⟩
  ·refine hX _ hlt ⟨by rw[cJ hlt (by omega)],O3 hlt he (EW fun j hj=>hei j hj (by omega))⟩
 have:k=p.length:=by omega
 subst this
 have hC:p.any QJ=false:=EW fun j hj=>he j hj hj
 rw[hC,if_neg (by simp)] at e
 exact is e
end Go.Pv
namespace Go.Pv
open Go Go.Proofs
section
variable (p : List (List Int)) (cols : Nat) (len : List Int → Int) (bnd : List Int → Nat → Int) (c : Int)
def iK (pre:List Int) (F:List Int→bU→Bool×bU) (o:Bool×bU) (j:Nat):Bool×bU:=if o.1=true then (if (j:Int)∈pre then o else F (pre++[(j:Int)]) o.2) else o
def nH:Nat→List Int→bU→Bool×bU
 | 0,_,s=>(false,s)
 | f+1,pre,s =>
  if pre.length=p.length then (true,if s.found=false∨len pre<s.span then { s with found:=true,span:=len pre,order:=pre } else s)
  else if s.found=true∧∃ i,i<cols∧s.span≤bnd pre i then (true,s)
  else if s.left≤0 then (false,{ s with left:=s.left-c })
  else (List.range p.length).foldl (iK pre (nH f)) (true,{ s with left:=s.left-1 })
end
section
variable {p : List (List Int)} {cols : Nat} {len : List Int → Int} {bnd : List Int → Nat → Int} {c : Int}
theorem tQ (pre:List Int) (F:List Int→bU→Bool×bU):∀ (l:List Nat) (o:Bool×bU),o.1=false→l.foldl (iK pre F) o=o
 | [],_,_=>rfl
 | j::l,o,h=>by
  have e:iK pre F o j=o:=by unfold iK;rw[if_neg (by rw[h];simp)]
  rw[List.foldl_cons,e,tQ pre F l o h]
theorem A6 (pre:List Int) (F:List Int→bU→Bool×bU) (F':List Int→bU→Option bU) (hF:∀ q s,F' q s=if (F q s).1=true then some (F q s).2 else none):∀ (l:List Nat) (o:Bool×bU),
  l.foldl (fun (o:Option bU) (j:Nat)=>o.bind fun s=>if (j:Int)∈pre then some s else F' (pre++[(j:Int)]) s) (if o.1=true then some o.2 else none)=if (l.foldl (iK pre F) o).1=true then some (l.foldl (iK pre F) o).2 else none
 | [],o=>rfl
 | j::l,o=>by
  rw[List.foldl_cons,List.foldl_cons,←A6 pre F F' hF l (iK pre F o j)]
  congr 1
  unfold iK
  by_cases h:o.1=true
  ·rw[if_pos h,if_pos h]
   by_cases hj:(j:Int)∈pre
   ·rw[if_pos hj,if_pos h]
    show (if (j:Int)∈pre then _ else _)=_
    rw[if_pos hj]
   ·rw[if_neg hj]
    show (if (j:Int)∈pre then _ else _)=_
    rw[if_neg hj,hF]
  ·rw[if_neg h,if_neg h,if_neg h];rfl
theorem B3:∀ (f:Nat) (pre:List Int) (s:bU),lI p cols len bnd f pre s=if (nH p cols len bnd c f pre s).1=true then some (nH p cols len bnd c f pre s).2 else none
 | 0,pre,s=>rfl
 | f+1,pre,s=>by
  unfold lI nH
  split
  ·rfl
  split
  ·rfl
  split
  ·rfl
  ·exact A6 pre (nH p cols len bnd c f) (lI p cols len bnd f) (B3 f) (List.range p.length) (true,{ s with left:=s.left-1 })
theorem wK {pre:List Int} {F:List Int→bU→Bool×bU} (hF:∀ q s,0≤s.left→(F q s).1=true→0≤(F q s).2.left∧(F q s).2.left≤s.left):∀ (l:List Nat) (o:Bool×bU),0≤o.2.left→(l.foldl (iK pre F) o).1=true→0≤(l.foldl (iK pre F) o).2.left∧(l.foldl (iK pre F) o).2.left≤o.2.left
 | [],o,h,_=>⟨h,Int.le_refl _⟩
 | j::l,o,h,ht=>by
  rw[List.foldl_cons] at ht ⊢
  have h1:(iK pre F o j).1=true:=by
   cases hb:(iK pre F o j).1 with
   | true=>rfl
   | false=>rw[tQ pre F l _ hb,hb] at ht;cases ht
  have h2:0≤(iK pre F o j).2.left∧(iK pre F o j).2.left≤o.2.left:=by
   unfold iK at h1 ⊢
   split
   ·rename_i ho
    rw[if_pos ho] at h1
    split
    ·exact ⟨h,Int.le_refl _⟩
    ·rename_i hj
     rw[if_neg hj] at h1
     exact hF _ _ h h1
   ·exact ⟨h,Int.le_refl _⟩
  have:=wK hF l (iK pre F o j) h2.1 ht
  omega
theorem xA:∀ (f:Nat) (pre:List Int) (s:bU),0≤s.left→(nH p cols len bnd c f pre s).1=true→0≤(nH p cols len bnd c f pre s).2.left∧(nH p cols len bnd c f pre s).2.left≤s.left
 | 0,pre,s,h,ht=>by cases ht
 | f+1,pre,s,h,ht=>by
  unfold nH at ht ⊢
  split
  ·dsimp only;split<;>exact ⟨h,Int.le_refl _⟩
  rename_i h1
  rw[if_neg h1] at ht
  split
  ·exact ⟨h,Int.le_refl _⟩
  rename_i h2
  rw[if_neg h2] at ht
  split
  ·rename_i h3;rw[if_pos h3] at ht;cases ht
  rename_i h3
  rw[if_neg h3] at ht
  have:=wK (fun q s h ht=>xA f q s h ht) (List.range p.length) (true,{ s with left:=s.left-1 }) (by dsimp only;omega) ht
  dsimp only at this ⊢
  omega
def qE (p:List (List Int)) (pre:List Int) (F:List Int→bU→Bool×bU) (o:Bool×bU) (k:Nat):Bool×bU:=(List.range k).foldl (iK pre F) o
theorem u7 (pre:List Int) (F:List Int→bU→Bool×bU) (o:Bool×bU) (k:Nat):qE p pre F o (k+1)=iK pre F (qE p pre F o k) k:=by
 unfold qE;rw[List.range_succ,List.foldl_append];rfl
theorem EO (pre:List Int) (F:List Int→bU→Bool×bU) (o:Bool×bU) {k n:Nat} (hk:k≤n) (h:(qE p pre F o k).1=false):qE p pre F o n=qE p pre F o k:=by
 obtain ⟨d,rfl⟩:∃ d,n=k+d:=⟨n-k,by omega⟩
 induction d with
 | zero=>rfl
 | succ d ih =>
  have ih:=ih (by omega)
  rw[show k+(d+1)=(k+d)+1 by omega,u7,ih]
  unfold iK;rw[if_neg (by rw[h];simp)]
end
end Go.Pv
namespace Go.Pv
open Go Go.Proofs
theorem TY {P:Program} {t:TypeId} {zv:Value} {z b:Nat} (h:(P.info? t).map (fun i=>(i.zero,i.size,i.bytes))=some (some zv,z,b)):∃ i,P.info? t=some i∧i.zero=some zv∧i.size=z∧i.bytes=b:=by
 simp only[Option.map_eq_some_iff,Prod.mk.injEq] at h
 obtain ⟨i,h1,h2,h3,h4⟩:=h
 exact ⟨i,h1,h2,h3,h4⟩
def PM:Go.Shelf.Ren:=⟨fun|41=>34|n=>n,fun|23=>3|22=>23|n=>n,fun|n=>n⟩
theorem S2:SlLaysE0.n41 Tryz.prog PM:={
 mixed:=cT
 f41:=Exists.intro ("slices.Clone[[]int,int]") ⟨by decide,Tryz.func34.trans (congrArg some (by kernel_rfl))⟩
 t4:=by kernel_rfl
 a4:=fun _=>by kernel_rfl
 z4:=fun _=>by kernel_rfl
 v4:=fun _=>by kernel_rfl
 t22:=by kernel_rfl
 a22:=fun _=>by kernel_rfl
 z22:=fun _=>by kernel_rfl
 v22:=fun _=>by kernel_rfl }
theorem Q4:∃ i0,(Tryz.prog).info? (PM.t 23)=some i0∧i0.zero=some (.int .i64 0)∧i0.size=1∧i0.bytes=8:=TY (by kernel_rfl)
theorem NQ:bO Tryz.prog 34 (vI 1 8) :=
 G2 S2 Q4 (fun _=>by kernel_rfl) (by decide) rfl (by decide) ⟨_,Tryz.func34,rfl,rfl⟩
def gG (a0:List Int) (a1:List (List Int)) (a2:Bool) (a3:Int) (a4:List Int) (a5:Int):List T:=[.aR [T.sl false (List.map (Sy.int .i64).enc a0)],.aR [],.agg [T.sl false (List.map (Sy.int .i64).li.enc a1)],.agg [.v (.bool a2)],.agg [.v (.int .i64 a3)],.agg [T.sl false (List.map (Sy.int .i64).enc a4)],.agg [.v (.int .i64 a5)]]
noncomputable def CD (g_srchK:List T→Option T):Env:=Env.of [(5000000023,.mark),(33,.pure kP),(21,.pure fX),(35,.pure o3),(36,.pure jL),(34,.dup 1 8),(32,.AB [37,4,3,23,3] g_srchK)]
def CP:FuncId→Hint:=fun f=>match f == 32 with|true=>⟨fun r=>match r == 10 with|true=>.inv [.val 45 false (.int .i64)]|false=>match r == 19 with|true=>.inv [.val 65 false (.int .i64),.box 0 (.li (.li (.int .i64))),.box 1 .bool,.box 2 (.int .i64),.box 3 (.li (.int .i64)),.box 4 (.int .i64)]|false=>.none,fun i j=>match i == 4&&j == 5 with|true=>some [.val 10 false (.int .i64)]|false=>none,fun _=>none⟩|false=>cN
theorem I6 (g_srchK:List T→Option T) (fn_srchK:P4 Tryz.prog 32 (.AB [37,4,3,23,3] g_srchK)):aL Tryz.prog (CD g_srchK):=.cons (x:=.mark) trivial (.cons FB (.cons s0 (.cons NO (.cons x8 (aL.cons (x:=.dup 1 8) NQ (aL.cons (x:=.AB [37,4,3,23,3] g_srchK) fn_srchK (.nil _)))))))
def JA (g_srchK:List T→Option T) (a0:List Int) (a1:List (List Int)) (a2:Bool) (a3:Int) (a4:List Int) (a5:Int) (R:T→Prop):Prop :=
 aO [(false,(Sy.int IntKind.i64).li.li)]
 (kP
 [T.sl false (List.map (Sy.int IntKind.i64).li.enc a1),
 T.sl false (List.map (Sy.int IntKind.i64).enc a0)])
 fun (y0:List (List Int)) =>
 aC
 (decide
 ((↑(List.map (Sy.int IntKind.i64).enc a0).length:Int) =
 (↑(List.map (Sy.int IntKind.i64).li.enc a1).length:Int)))
 (A7 (Int×PUnit)
 (fun (X1:Int×PUnit→Prop) =>
 aC (decide (0<(↑(List.map (Sy.int IntKind.i64).li.enc a1).length:Int)))
 (aT (Sy.int IntKind.i64).li (List.map (Sy.int IntKind.i64).li.enc a1) 0
 fun (y2:List Int) =>
 aO [(false,Sy.int IntKind.i64)]
 (fX
 [T.sl false (List.map (Sy.int IntKind.i64).li.enc y0),
 T.v (.int .i64 (IntKind.i64.wrap ((↑(List.map (Sy.int IntKind.i64).enc y2).length:Int)-1)))])
 fun (y3:Int)=>X1 (y3,()))
 (X1 (0,())))
 fun (s4:Int×PUnit) =>
 aC (!a2)
 (c4
 (((List.map (Sy.int IntKind.i64).enc a0).all fun (r:List T)=>decide (r.length=1)) &&
 decide ((List.map (Sy.int IntKind.i64).enc a0).length*8≤140737488355328) &&
 decide ((List.map (Sy.int IntKind.i64).enc a0).length≤140737488355328))
 (R
 (T.aR
 [T.agg [T.sl false (List.map (Sy.int IntKind.i64).li.enc a1)],
 T.agg [T.v (.bool true)],
 T.agg [T.v (.int .i64 s4.1)],
 T.agg [T.sl false (List.map (Sy.int IntKind.i64).enc a0)],
 T.agg [T.v (.int .i64 a5)],T.v (.bool true)])))
 (aC (decide (s4.1<a3))
 (c4
 (((List.map (Sy.int IntKind.i64).enc a0).all fun (r:List T)=>decide (r.length=1)) &&
 decide ((List.map (Sy.int IntKind.i64).enc a0).length*8≤140737488355328) &&
 decide ((List.map (Sy.int IntKind.i64).enc a0).length≤140737488355328))
 (R
 (T.aR
 [T.agg [T.sl false (List.map (Sy.int IntKind.i64).li.enc a1)],
 T.agg [T.v (.bool true)],
 T.agg [T.v (.int .i64 s4.1)],
 T.agg [T.sl false (List.map (Sy.int IntKind.i64).enc a0)],
 T.agg [T.v (.int .i64 a5)],T.v (.bool true)])))
 (R
 (T.aR
 [T.agg [T.sl false (List.map (Sy.int IntKind.i64).li.enc a1)],
 T.agg [T.v (.bool a2)],T.agg [T.v (.int .i64 a3)],
 T.agg [T.sl false (List.map (Sy.int IntKind.i64).enc a4)],
 T.agg [T.v (.int .i64 a5)],T.v (.bool true)]))))
 (aT (Sy.int IntKind.i64).li (List.map (Sy.int IntKind.i64).li.enc a1) 0
 fun (y5:List Int) =>
 b9 (Int×PUnit)
 (fun (X6:Int×PUnit→Prop) (s7:Int×PUnit) =>
 aC (decide (s7.1<(↑(List.map (Sy.int IntKind.i64).enc y5).length:Int)))
 (aC a2
 (aO [(false,Sy.int IntKind.i64)]
 (o3
 [T.sl false (List.map (Sy.int IntKind.i64).li.enc a1),
 T.sl false (List.map (Sy.int IntKind.i64).enc a0),
 T.sl false (List.map (Sy.int IntKind.i64).li.enc y0),
 T.v (.int .i64 s7.1)])
 fun (y8:Int) =>
 aC (decide (a3≤y8))
 (R
 (T.aR
 [T.agg [T.sl false (List.map (Sy.int IntKind.i64).li.enc a1)],
 T.agg [T.v (.bool a2)],
 T.agg [T.v (.int .i64 a3)],
 T.agg [T.sl false (List.map (Sy.int IntKind.i64).enc a4)],
 T.agg [T.v (.int .i64 a5)],T.v (.bool true)]))
 (X6 (IntKind.i64.wrap (s7.1+1),())))
 (X6 (IntKind.i64.wrap (s7.1+1),())))
 (aC (decide (IntKind.i64.wrap (a5-1)<0))
 (R
 (T.aR
 [T.agg [T.sl false (List.map (Sy.int IntKind.i64).li.enc a1)],
 T.agg [T.v (.bool a2)],
 T.agg [T.v (.int .i64 a3)],
 T.agg [T.sl false (List.map (Sy.int IntKind.i64).enc a4)],
 T.agg [T.v (.int .i64 (IntKind.i64.wrap (a5-1)))],
 T.v (.bool false)]))
 (dZ (Sy.int IntKind.i64).li (List.map (Sy.int IntKind.i64).li.enc a1)
 fun (y9:List (List Int)) =>
 dZ (Sy.int IntKind.i64) (List.map (Sy.int IntKind.i64).enc a4)
 fun (y10:List Int) =>
 b9 (Int×List (List Int)×Bool×Int×List Int×Int×PUnit)
 (fun (X11:Int×List (List Int)×Bool×Int×List Int×Int×PUnit→Prop)
 (s12:Int×List (List Int)×Bool×Int×List Int×Int×PUnit) =>
 aC (decide (s12.1<(↑(List.map (Sy.int IntKind.i64).li.enc a1).length:Int)))
 (aO [(false,Sy.bool)]
 (jL
 [T.sl false (List.map (Sy.int IntKind.i64).enc a0),
 T.v (.int .i64 s12.1)])
 fun (y13:Bool) =>
 aC (!y13)
 (c4
 (((List.map (Sy.int IntKind.i64).enc a0).all fun (r:List T) =>
 decide (r.length=1)) &&
 decide
 ((List.map (Sy.int IntKind.i64).enc a0).length*8≤140737488355328) &&
 decide ((List.map (Sy.int IntKind.i64).enc a0).length≤140737488355328))
 (c4
 (decide
 (((List.map (Sy.int IntKind.i64).enc a0).length+1)*8 ≤
 140737488355328) &&
 decide ((List.map (Sy.int IntKind.i64).enc a0).length+1≤140737488355328))
 (aO
 [(true,(Sy.int IntKind.i64).li.li),(true,Sy.bool),
 (true,Sy.int IntKind.i64),(true,(Sy.int IntKind.i64).li),
 (true,Sy.int IntKind.i64),(false,Sy.bool)]
 (g_srchK
 [T.aR
 [T.sl false
 (List.map (Sy.int IntKind.i64).enc a0 ++
 [[T.v (.int .i64 s12.1)]])],
 T.aR [],
 T.agg
 [T.sl false (List.map (Sy.int IntKind.i64).li.enc s12.2.1)],
 T.agg [T.v (.bool s12.2.2.1)],
 T.agg [T.v (.int .i64 s12.2.2.2.1)],
 T.agg
 [T.sl false
 (List.map (Sy.int IntKind.i64).enc s12.2.2.2.2.1)],
 T.agg
 [T.v (.int .i64 s12.2.2.2.2.2.1)]])
 fun (y14:List (List Int)×Bool×Int×List Int×Int×Bool) =>
 aC (!y14.2.2.2.2.2)
 (R
 (T.aR
 [T.agg
 [T.sl false (List.map (Sy.int IntKind.i64).li.enc y14.1)],
 T.agg [T.v (.bool y14.2.1)],
 T.agg [T.v (.int .i64 y14.2.2.1)],
 T.agg
 [T.sl false
 (List.map (Sy.int IntKind.i64).enc y14.2.2.2.1)],
 T.agg [T.v (.int .i64 y14.2.2.2.2.1)],
 T.v (.bool false)]))
 (dZ (Sy.int IntKind.i64).li
 (List.map (Sy.int IntKind.i64).li.enc y14.1)
 fun (y15:List (List Int)) =>
 dZ (Sy.int IntKind.i64)
 (List.map (Sy.int IntKind.i64).enc y14.2.2.2.1)
 fun (y16:List Int) =>
 X11
 (IntKind.i64.wrap (s12.1+1),y15,y14.2.1,y14.2.2.1,y16,
 y14.2.2.2.2.1,())))))
 (dZ (Sy.int IntKind.i64).li
 (List.map (Sy.int IntKind.i64).li.enc s12.2.1) fun (y17:List (List Int)) =>
 dZ (Sy.int IntKind.i64)
 (List.map (Sy.int IntKind.i64).enc s12.2.2.2.2.1)
 fun (y18:List Int) =>
 X11
 (IntKind.i64.wrap (s12.1+1),y17,s12.2.2.1,s12.2.2.2.1,y18,
 s12.2.2.2.2.2.1,())))
 (R
 (T.aR
 [T.agg [T.sl false (List.map (Sy.int IntKind.i64).li.enc s12.2.1)],
 T.agg [T.v (.bool s12.2.2.1)],
 T.agg [T.v (.int .i64 s12.2.2.2.1)],
 T.agg
 [T.sl false (List.map (Sy.int IntKind.i64).enc s12.2.2.2.2.1)],
 T.agg [T.v (.int .i64 s12.2.2.2.2.2.1)],
 T.v (.bool true)])))
 (0,y9,a2,a3,y10,IntKind.i64.wrap (a5-1),()))))
 (0,()))
theorem GG (g_srchK:List T→Option T) (a0:List Int) (a1:List (List Int)) (a2:Bool) (a3:Int) (a4:List Int) (a5:Int) (R):zD bC Tryz.prog (CD g_srchK) CP 8 32 (gG a0 a1 a2 a3 a4 a5) R=JA g_srchK a0 a1 a2 a3 a4 a5 R:=by kernel_rfl
def J0 (p:List (List Int)) (r:Bool×bU):T:=.aR [.agg [T.sl false (List.map (Sy.int .i64).li.enc p)],.agg [.v (.bool r.2.found)],.agg [.v (.int .i64 r.2.span)],.agg [T.sl false (List.map (Sy.int .i64).enc r.2.order)],.agg [.v (.int .i64 r.2.left)],.v (.bool r.1)]
noncomputable def kD (c:Int) (p:List (List Int)) (pre:List Int) (s:bU):Bool×bU:=nH p (p.getD 0 []).length (e9 p (p.getD 0 []).length) (kF p (p.getD 0 []).length) c (p.length+1-pre.length) pre s
def RM (k:Nat) (p:List (List Int)) (pre:List Int) (left:Int):Bool:=CA p pre&&(decide (0≤left)&&decide (left≤100000))&&decide (p.length<pre.length+k)
theorem BN {k:Nat} {p:List (List Int)} {pre:List Int} {left:Int} (h:RM k p pre left=true):CA p pre=true∧0≤left∧left≤100000∧p.length<pre.length+k:=by
 unfold RM at h
 simp only[Bool.and_eq_true,decide_eq_true_eq] at h
 exact ⟨h.1.1,h.1.2.1,h.1.2.2,h.2⟩
noncomputable def jC (k:Nat) (x:List Int×List (List Int)×Bool×Int×List Int×Int):Option T:=match RM k x.2.1 x.1 x.2.2.2.2.2 with
 | true=>some (J0 x.2.1 (kD 1 x.2.1 x.1 ⟨x.2.2.2.2.2,x.2.2.1,x.2.2.2.1,x.2.2.2.2.1⟩))
 | false=>none
noncomputable def iA (k:Nat):List T→Option T:=gA (fun (x:List Int×List (List Int)×Bool×Int×List Int×Int)=>gG x.1 x.2.1 x.2.2.1 x.2.2.2.1 x.2.2.2.2.1 x.2.2.2.2.2) (jC k)
theorem CC (x y:List Int×List (List Int)×Bool×Int×List Int×Int) (h:gG x.1 x.2.1 x.2.2.1 x.2.2.2.1 x.2.2.2.2.1 x.2.2.2.2.2=gG y.1 y.2.1 y.2.2.1 y.2.2.2.1 y.2.2.2.2.1 y.2.2.2.2.2):x=y:=by
 obtain ⟨a0,a1,a2,a3,a4,a5⟩:=x
 obtain ⟨b0,b1,b2,b3,b4,b5⟩:=y
 unfold gG at h
 simp only[List.cons.injEq,T.aR.injEq,T.agg.injEq,T.sl.injEq,T.v.injEq,Value.bool.injEq,Value.int.injEq,and_true,true_and] at h
 obtain ⟨h0,h1,h2,h3,h4,h5⟩:=h
 have h0:=map_inj (Sy.eF (.int .i64)) h0
 have h1:=map_inj (Sy.eF (Sy.int .i64).li) h1
 have h4:=map_inj (Sy.eF (.int .i64)) h4
 subst h0 h1 h2 h3 h4 h5
 rfl
theorem tF (k:Nat) (pre:List Int) (p:List (List Int)) (fd:Bool) (sp:Int) (o:List Int) (lf:Int):iA k (gG pre p fd sp o lf)=jC k (pre,p,fd,sp,o,lf) :=
 TA (A:=fun (x:List Int×List (List Int)×Bool×Int×List Int×Int)=>gG x.1 x.2.1 x.2.2.1 x.2.2.2.1 x.2.2.2.2.1 x.2.2.2.2.2) CC (pre,p,fd,sp,o,lf)
theorem FI {l:List Int} (h:l.length≤32):(((List.map (Sy.int .i64).enc l).all fun (r:List T)=>decide (r.length=1))&&decide (l.length*8≤140737488355328)&&decide (l.length≤140737488355328))=true:=by
 rw[decide_eq_true (by omega),decide_eq_true (by omega),Bool.and_true,Bool.and_true,List.all_eq_true]
 intro r hr
 obtain ⟨n,_,rfl⟩:=List.mem_map.1 hr
 rfl
theorem IP (k:Nat) (hK:oL Tryz.prog 32 (iA k)):oL Tryz.prog 32 (iA (k+1)) :=
 AD (E:=CD (iA k)) (Hs:=CP) (I6 _ hK) cT cX (aZ rfl) 8 ⟨_,_,Tryz.func32,rfl⟩ fun x r h=>by
  obtain ⟨pre,p,fd,span,ord,left⟩:=x
  unfold jC at h
  split at h
  case h_2=>cases h
  rename_i hok
  cases h
  dsimp only at hok ⊢
  rw[GG]
  obtain ⟨hokL,hl0,hl1,hkk⟩:=BN hok
  have H:=iU hokL
  have hl:=H.len;have hn:=H.n;have hm8:=H.m8
  unfold JA
  rw[J6 hokL,qA]
  simp only[List.length_map]
  have is:∀ {q:Bool×bU},kD 1 p pre ⟨left,fd,span,ord⟩=q→J0 p q=J0 p (kD 1 p pre ⟨left,fd,span,ord⟩):=fun h=>by rw[h]
  refine bY (fun hfull=>?_) fun hfull=>?_
  ·have hfull:pre.length=p.length:=by omega
   have e:kD 1 p pre ⟨left,fd,span,ord⟩=(true,if fd=false∨e9 p (p.getD 0 []).length pre<span then ⟨left,true,e9 p (p.getD 0 []).length pre,pre⟩ else ⟨left,fd,span,ord⟩):=by
    unfold kD
    rw[show p.length+1-pre.length=0+1 by omega,nH,if_pos hfull]
   refine tR (e9 p (p.getD 0 []).length pre,()) (fun Z hZ=>?_) ?_
   ·refine bY (fun h0=>(aP (r:=(Sy.int .i64).li) (k:=0) (by omega) _).mpr ?_) fun h0=>?_
    ·have h0:0<p.length:=by omega
     have hpos:=H.pos h0
     rw[oD h0,rO hpos (by omega),mW]
     unfold fP
     dsimp only
     rw[o9 H (by omega) (by omega),Int.toNat_natCast,←FL H.rG.1 H.diff.2]
     exact fD (s:=rP) (y:=e9 p (p.getD 0 []).length pre) rfl hZ
    ·have h0:p=[]:=List.eq_nil_of_length_eq_zero (by omega)
     have h1:pre=[]:=List.eq_nil_of_length_eq_zero (by omega)
     subst h0 h1
     exact hZ
   dsimp only
   have hreq:=FI (l:=pre) (by omega)
   cases hfd:fd with
   | false=>rw[hfd] at is;exact ⟨hreq,is (q:=(true,⟨left,true,e9 p (p.getD 0 []).length pre,pre⟩)) (by rw[hfd] at e;rw[e,if_pos (.inl rfl)])⟩
   | true =>
    rw[hfd] at is e
    refine bY (fun h=>⟨hreq,is (q:=(true,⟨left,true,e9 p (p.getD 0 []).length pre,pre⟩)) (by rw[e,if_pos (.inr h)])⟩) fun h=>is (q:=(true,⟨left,true,span,ord⟩)) (by rw[e,if_neg (by simpa using h)])
  have hfull:¬ pre.length=p.length:=by omega
  obtain ⟨f,hf⟩:∃ f,p.length+1-pre.length=f+1:=⟨p.length-pre.length,by omega⟩
  have hff:f=p.length-pre.length:=by omega
  have hp0:0<p.length:=by omega
  have e:kD 1 p pre ⟨left,fd,span,ord⟩=if fd=true∧∃ i,i<(p.getD 0 []).length∧span≤kF p (p.getD 0 []).length pre i then (true,⟨left,fd,span,ord⟩)
    else if left≤0 then (false,⟨left-1,fd,span,ord⟩)
    else qE p pre (nH p (p.getD 0 []).length (e9 p (p.getD 0 []).length) (kF p (p.getD 0 []).length) 1 f) (true,⟨left-1,fd,span,ord⟩) p.length:=by
   unfold kD
   rw[hf,nH,if_neg hfull];rfl
  have hrec:∀ (j:Nat) (s:bU),nH p (p.getD 0 []).length (e9 p (p.getD 0 []).length) (kF p (p.getD 0 []).length) 1 f (pre++[(j:Int)]) s=kD 1 p (pre++[(j:Int)]) s:=fun j s=>by
   unfold kD
   rw[show p.length+1-(pre++[(j:Int)]).length=f by rw[List.length_append,List.length_singleton];omega]
  generalize nH p (p.getD 0 []).length (e9 p (p.getD 0 []).length) (kF p (p.getD 0 []).length) 1 f=F at *
  refine (aP (r:=(Sy.int .i64).li) (k:=0) hp0 _).mpr ?_
  rw[oD hp0]
  refine bE (p.getD 0 []).length (fun q s=>s=((q:Int),())∧(fd=true→∀ i,i<q→¬ span≤kF p (p.getD 0 []).length pre i)) ⟨rfl,fun _ i h=>by omega⟩ ?_
  rintro X q s hq ⟨rfl,hno⟩ hX
  dsimp only
  refine bY (fun hlt=>?_) fun hge=>?_
  ·have hlt:q<(p.getD 0 []).length:=by omega
   rw[cJ hlt (by omega)]
   cases hfd:fd with
   | false=>exact hX _ hlt ⟨rfl,fun h=>by rw[hfd] at h;cases h⟩
   | true =>
    rw[hfd] at is e hno
    have hb:o3 [T.sl false (List.map (Sy.int .i64).li.enc p),T.sl false (List.map (Sy.int .i64).enc pre),T.sl false (List.map (Sy.int .i64).li.enc (iO p (List.replicate (p.getD 0 []).length 0) pre)),T.v (.int .i64 (q:Int))]=some (Sh.enc D2 (kF p (p.getD 0 []).length pre q)):=by
     rw[HH]
     unfold lY T5
     dsimp only
     rw[hokL,decide_eq_true (show (0:Int)≤q by omega),decide_eq_true (show (q:Int)<(p.getD 0 []).length by omega),decide_eq_true rfl,Int.toNat_natCast];rfl
    refine fD (s:=D2) (y:=kF p (p.getD 0 []).length pre q) hb ?_
    refine bY (fun h=>is (q:=(true,⟨left,true,span,ord⟩)) (by rw[e,if_pos ⟨rfl,q,hlt,h⟩])) fun h=>hX _ hlt ⟨rfl,fun _ i hi=>?_⟩
    by_cases hiq:i<q
    ·exact hno rfl i hiq
    ·have:i=q:=by omega
     subst this;exact h
  have:q=(p.getD 0 []).length:=by omega
  subst this
  rw[if_neg (fun h=>by
   obtain ⟨h1,i,hi,h2⟩:=h
   exact hno h1 i hi h2)] at e
  clear hX hno
  have hw:IntKind.i64.wrap (left-1)=left-1:=bN _ (by omega) (by omega)
  rw[hw]
  refine bY (fun h=>is (q:=(false,⟨left-1,fd,span,ord⟩)) (by rw[e,if_pos (by omega)])) fun h=>?_
  rw[if_neg (by omega)] at e
  rw[bX rfl,bX rfl]
  refine bE p.length (fun j s=>∃ t:bU,qE p pre F (true,⟨left-1,fd,span,ord⟩) j=(true,t)∧0≤t.left∧t.left≤100000∧s=((j:Int),p,t.found,t.span,t.order,t.left,())) ⟨_,rfl,by dsimp only;omega,by dsimp only;omega,rfl⟩ ?_
  rintro X j s hj ⟨t,ht,t0,t1,rfl⟩ hX
  dsimp only
  refine bY (fun hlt=>?_) fun hge=>?_
  ·have hlt:j<p.length:=by omega
   have hnx:=u7 (p:=p) pre F (true,⟨left-1,fd,span,ord⟩) j
   rw[ht] at hnx
   unfold iK at hnx
   rw[if_pos rfl] at hnx
   rw[o4]
   simp only[jX]
   rw[kW,cJ hlt (by omega)]
   refine l7 (fun hnm=>?_) fun hm=>?_
   ·rw[if_neg hnm,hrec] at hnx
    refine ⟨FI (by omega),by rw[Bool.and_eq_true,decide_eq_true_eq,decide_eq_true_eq];omega,?_⟩
    have hd2:Diff p.length (pre++[(j:Int)]):=H.diff.snoc hlt hnm
    have hokR:RM k p (pre++[(j:Int)]) t.left=true:=by
     have h1:CA p (pre++[(j:Int)])=true:=by
      unfold CA at hokL ⊢
      rw[Bool.and_eq_true] at hokL ⊢
      exact ⟨hokL.1,lU.2 hd2⟩
     unfold RM
     rw[h1,decide_eq_true t0,decide_eq_true t1,decide_eq_true (by rw[List.length_append,List.length_singleton];omega)];rfl
    have hcall:iA k (gG (pre++[(j:Int)]) p t.found t.span t.order t.left)=some (J0 p (kD 1 p (pre++[(j:Int)]) t)):=by
     rw[tF]
     unfold jC
     dsimp only
     rw[hokR]
    have hA:gG (pre++[(j:Int)]) p t.found t.span t.order t.left=[T.aR [T.sl false (List.map (Sy.int .i64).enc pre++[[T.v (.int .i64 (j:Int))]])],T.aR [],T.agg [T.sl false (List.map (Sy.int .i64).li.enc p)],T.agg [T.v (.bool t.found)],T.agg [T.v (Value.int .i64 t.span)],T.agg [T.sl false (List.map (Sy.int .i64).enc t.order)],T.agg [T.v (Value.int .i64 t.left)]]:=by
     unfold gG;rw[List.map_append];rfl
    rw[hA] at hcall
    generalize hq':kD 1 p (pre++[(j:Int)]) t=q at hcall hnx
    refine fD (s:=[(true,(Sy.int .i64).li.li),(true,.bool),(true,.int .i64),(true,(Sy.int .i64).li),(true,.int .i64),(false,.bool)]) (y:=(p,q.2.found,q.2.span,q.2.order,q.2.left,q.1)) hcall ?_
    dsimp only
    cases hb:q.1 with
    | false =>
     rw[show (T.v (.bool false))=T.v (.bool q.1) by rw[hb]]
     refine is (q:=q) ?_
     rw[e,EO pre F _ (show j+1≤p.length by omega) (by rw[hnx,hb]),hnx]
    | true =>
     show dZ _ _ _
     rw[bX rfl,bX rfl]
     have hlf:0≤q.2.left∧q.2.left≤t.left:=by
      rw[←hq']
      exact xA _ _ _ t0 (by show (kD 1 p (pre++[(j:Int)]) t).1=true;rw[hq',hb])
     exact hX _ hlt ⟨q.2,by rw[hnx,←hb],hlf.1,by omega,rfl⟩
   ·rw[if_pos hm] at hnx
    rw[bX rfl,bX rfl]
    exact hX _ hlt ⟨t,hnx,t0,t1,rfl⟩
  ·have:j=p.length:=by omega
   subst this
   exact is (q:=(true,t)) (by rw[e,ht])
theorem AM:∀ k:Nat,oL Tryz.prog 32 (iA k)
 | 0=>AD (E:=Env.of []) (Hs:=CP) (.nil _) cT cX (aZ rfl) 8 ⟨_,_,Tryz.func32,rfl⟩ fun x r h=>by
  unfold jC at h
  split at h
  case h_2=>cases h
  rename_i hok
  obtain ⟨h1,_,_,h2⟩:=BN hok
  have:=(iU h1).len
  omega
 | k+1=>IP k (AM k)
end Go.Pv
namespace Go.Pv
open Go Go.Proofs
end Go.Pv
namespace Go.Pv
open Go Go.Proofs
noncomputable def rN:List T→Option T:=iA 33
theorem KE:oL Tryz.prog 32 rN:=AM 33
noncomputable def MN:Env:=Env.of [(5000000023,.mark),(10000000000,.mark),(31,.pure mV),(32,.AB [37,4,3,23,3] rN)]
def MS:FuncId→Hint:=fun _=>cN
theorem GB:aL Tryz.prog MN:=.cons (x:=.mark) trivial (.cons (x:=.mark) trivial (.cons FA (aL.cons (x:=.AB [37,4,3,23,3] rN) KE (.nil _))))
def xJ (a0:List (List Int)) (a1:Int) (R:T→Prop):Prop :=
 aO [(false,Sy.int IntKind.i64)]
 (mV [T.sl false (List.map (Sy.int IntKind.i64).li.enc a0)]) fun (y0:Int) =>
 aC (!decide (y0=0))
 (R
 (T.aR
 [T.sl false [],T.v (.int .i64 0),T.v (.int .i64 y0)]))
 (aO
 [(true,(Sy.int IntKind.i64).li.li),(true,Sy.bool),(true,Sy.int IntKind.i64),
 (true,(Sy.int IntKind.i64).li),(true,Sy.int IntKind.i64),(false,Sy.bool)]
 (rN
 [T.aR [T.sl false []],T.aR [],
 T.agg [T.sl false (List.map (Sy.int IntKind.i64).li.enc a0)],
 T.agg [T.v (.bool false)],T.agg [T.v (.int .i64 0)],
 T.agg [T.sl false []],
 T.agg
 [T.v (.int .i64 (if (if 100000<a1 then 100000 else a1)<0 then 0 else if 100000<a1 then 100000 else a1))]])
 fun (y1:List (List Int)×Bool×Int×List Int×Int×Bool) =>
 aC (!y1.2.2.2.2.2)
 (R
 (T.aR
 [T.sl false [],T.v (.int .i64 0),
 T.v (.int .i64 29)]))
 (JP
 (JP
 (R
 (T.aR
 [T.sl false (List.map (Sy.int IntKind.i64).enc y1.2.2.2.1),
 T.v (.int .i64 y1.2.2.1),T.v (.int .i64 0)]))
 (R
 (T.aR
 [T.sl false (List.map (Sy.int IntKind.i64).enc y1.2.2.2.1),
 T.v (.int .i64 y1.2.2.1),T.v (.int .i64 0)])))
 (R
 (T.aR
 [T.sl false (List.map (Sy.int IntKind.i64).enc y1.2.2.2.1),
 T.v (.int .i64 y1.2.2.1),T.v (.int .i64 0)]))))
abbrev yY:Sh:=[(false,(Sy.int IntKind.i64).li.li),(false,(Sy.int IntKind.i64))]
abbrev jT:Sh:=[(false,(Sy.int IntKind.i64).li),(false,Sy.int IntKind.i64),(false,Sy.int IntKind.i64)]
theorem yQ (y:Sh.den jT) (K:Sh.den jT→Prop):aO jT (some (Sh.enc jT y)) K=K y:=bL rfl y K
noncomputable def lF (x:List (List Int)×Int):Option T:=some (Sh.enc jT (bJ x.1 x.2))
noncomputable def nX:List T→Option T:=gS yY lF
theorem DJ {a0 a1}:nX [T.sl false (List.map (Sy.int IntKind.i64).li.enc a0),T.v (.int .i64 a1)]=lF (a0,a1):=dI (s:=yY) rfl (a0,a1) rfl
theorem LD:JD Tryz.prog 17 nX lF (fR yY) xJ:=uE (a1:=(false,(Sy.int IntKind.i64).li.li)) (a2:=(false,(Sy.int IntKind.i64))) (sp:=lF) (F:=xJ) (Hs:=MS) (f:=17) (k:=8) GB cT cX (aZ rfl) ⟨_,_,Tryz.func17,rfl⟩ rfl fun _ _ _=>by kernel_rfl
noncomputable def jZ (steps:Int):bU:=⟨max (min steps 100000) 0,false,0,[]⟩
theorem CW (c:Int) {p:List (List Int)} {steps:Int} (h:dT p=0):bJ p steps=if (kD c p [] (jZ steps)).1=true then ((kD c p [] (jZ steps)).2.order,(kD c p [] (jZ steps)).2.span,0) else ([],0,29):=by
 unfold bJ
 rw[if_neg (by rw[h];simp),B3 (c:=c)]
 unfold kD jZ
 rw[show p.length+1-([]:List Int).length=p.length+1 by simp]
 split
 ·rename_i h1
  split at h1
  ·cases h1
  ·rename_i h2;rw[if_neg h2]
 ·rename_i s h1
  split at h1
  ·rename_i h2;cases h1;rw[if_pos h2]
  ·cases h1
theorem IB {p:List (List Int)} {steps:Int} (h:dT p=0):RM 33 p [] (jZ steps).left=true:=by
 have h1:CA p []=true:=by unfold CA;rw[decide_eq_true h];rfl
 have:=(iU h1).n
 unfold RM jZ
 dsimp only
 rw[h1,decide_eq_true (by omega),decide_eq_true (by omega),decide_eq_true (by simp;omega)];rfl
theorem J9:aW Tryz.prog 17 nX:=LD fun p steps r h hb=>by
 cases h
 have is:∀ {q:List Int×Int×Int},bJ p steps=q→Sh.enc jT q=Sh.enc jT (bJ p steps):=fun h=>by rw[h]
 unfold xJ
 rw[wH]
 simp only[lZ]
 rw[p9]
 refine l7 (fun h=>is (q:=([],0,dT p)) (by unfold bJ;rw[if_pos h])) fun h=>?_
 have e:=CW 1 (steps:=steps) h
 have hleft:(if (if 100000<steps then 100000 else steps)<0 then 0 else if 100000<steps then 100000 else steps)=max (min steps 100000) 0:=by split<;>split<;>omega
 rw[hleft]
 have hcall:iA 33 (gG [] p false 0 [] (jZ steps).left)=some (J0 p (kD 1 p [] (jZ steps))):=by
  rw[tF]
  unfold jC
  dsimp only
  rw[IB h];rfl
 generalize kD 1 p [] (jZ steps)=q at hcall e
 refine fD (s:=[(true,(Sy.int .i64).li.li),(true,.bool),(true,.int .i64),(true,(Sy.int .i64).li),(true,.int .i64),(false,.bool)]) (y:=(p,q.2.found,q.2.span,q.2.order,q.2.left,q.1)) hcall ?_
 dsimp only
 cases hq:q.1 with
 | false=>exact is (q:=([],0,29)) (by rw[e,if_neg (by rw[hq];simp)])
 | true =>
  have:=is (q:=(q.2.order,q.2.span,0)) (by rw[e,if_pos hq])
  exact ⟨⟨this,this⟩,this⟩
end Go.Pv
namespace Go.Pv
open Go Go.Proofs Go.RowKit
theorem GU:IV Tryz.prog 34 1 8:=⟨fun R=>by kernel_rfl,fun fl R=>by kernel_rfl,fun fl a rows R=>by kernel_rfl⟩
noncomputable def tC:List T→Option (List (List T)):=gS [(false,.li (.int .i64))] (jV (.int .i64) 8)
theorem AV {u0}:tC [T.sl false (List.map (Sy.enc (.int .i64)) u0)]=jV (.int .i64) 8 u0:=dI (s:=[(false,.li (.int .i64))]) rfl u0 rfl
theorem wD:fU Tryz.prog 34 tC:=GV cT cX ⟨_,_,Tryz.func34,rfl⟩ GU
def NC:List (List T)→Option (List Int)
 | []=>some []
 | [.v (.int .i64 n)]::l=>(NC l).map fun u=>n::u
 | _=>none
theorem sM:∀ {rows:List (List T)} {u:List Int},NC rows=some u→rows=List.map (Sy.enc (.int .i64)) u
 | [],u,h=>by cases h;rfl
 | r::l,u,h=>by
  unfold NC at h
  split at h
  ·rename_i h1;cases h1
  ·rename_i n l' h1
   cases h1
   simp only[Option.map_eq_some_iff] at h
   obtain ⟨u',hu,rfl⟩:=h
   rw[sM hu];rfl
  ·cases h
theorem RU {w:World} {own:Nat→Prop} {f:Bool} {rows:List (List T)} {v:Value} (h:aU w own (.sl f rows) v):aU w own (.sl false rows) v:=by
 cases h with
 | aV _ a cap h1 h2=>exact .aV false a cap (fun h=>by cases h) h2
 | sl _ rows sz aG off cap f h1 h2 h3 h4 h45 h5 h6 h7 h8=>exact .sl false rows sz aG off cap f h1 h2 (fun h=>by cases h) h4 h45 h5 h6 h7 h8
def NW:List T→Option (List (List T))
 | [.sl f (r::rows)]=>match NC (r::rows) with
  | some u=>jV (.int .i64) 8 u
  | none=>none
 | [.v (.slice none 0 0)]=>some []
 | _=>none
theorem QU:rW Tryz.prog 34 NW:=⟨wD.entry,fun w own args vs rows hG ho ha hg=>by
 unfold NW at hg
 split at hg
 ·rename_i f r0 rows'
  split at hg
  ·rename_i u hu
   have h1:aY (aU w own) [T.sl false (r0::rows')] vs:=⟨ha.1,fun i hi=>by
    have hi':i=0:=by simpa using hi
    subst hi'
    have:=ha.2 0 (by simp)
    simp only[List.getElem_cons_zero] at this ⊢
    exact RU this⟩
   have h2:tC [T.sl false (r0::rows')]=some rows:=by
    rw[sM hu,AV]
    exact hg
   have hne:rows≠[]:=by
    have he:=sM hu
    unfold jV at hg
    split at hg
    ·cases hg
     rw[←he];simp
    ·cases hg
   refine (wD.calls w own _ vs rows hG ho h1 h2).mono ?_
   rintro e w' ⟨v,rfl,h3,_,h5⟩
   exact ⟨v,rfl,h3,fun h=>absurd h hne,h5⟩
  ·cases hg
 ·cases hg
  have hv:vs = #[.slice none 0 0]:=by
   have e0:=ha.2 0 (by simp)
   have hs:vs.size=1:=ha.1
   obtain ⟨l⟩:=vs
   match l,hs with
   | [a],_ =>
    simp at e0
    cases e0;rfl
  subst hv
  refine (Any.slices_Clone_int_nil Tryz.KM 0 0 w).mono ?_
  rintro e w' ⟨rfl,rfl⟩
  exact ⟨_,rfl,Below.refl _ _,fun _=>.aV true none 0 (fun _=>rfl) (fun _=>rfl),fun h=>absurd rfl h⟩
 ·cases hg⟩
end Go.Pv
namespace Go.Pv
open Go Go.Proofs
def QZ:FuncId→Bool:=fun f=>[81,97,110,43,42,32].contains f
noncomputable def N1:Env:=Env.of [(89,.pure yB),(56,.ext x9),(34,.mT NW),(1000000000+61,.mark),(1000000000+37,.mark),(2000000000,.mark)]
def TB:List T→Option T:=fun args=>match args with | []=>some (.v (.bool true))|_=>none
def cE:List T→Option T:=TB
theorem DD:aW Tryz.prog 6 cE :=
 HD (by kernel_rfl) (by kernel_rfl) 400 QZ (B:=N1) (aL.cons (x:=.pure yB) KC (aL.cons (x:=.ext x9) J8 (aL.cons (x:=.mT NW) QU (aL.cons (x:=.mark) trivial (aL.cons (x:=.mark) trivial (aL.cons (x:=.mark) trivial (aL.nil _))))))) 60 (by kernel_rfl)
end Go.Pv
namespace Go.Pv
open Go Go.Proofs
def HQ (n:Int):Bool:=decide (0≤n)&&decide (n≤1000)
def MJ (x:bZ):Bool:=x.1.all HQ&&x.2.1.all HQ&&x.2.2.1.all HQ&&x.2.2.2.all HQ
def vZ (x:bZ):Int :=
 if x.2.1.length=x.1.length∧x.2.2.1.length=x.1.length∧x.2.2.2.length=x.1.length then
  if x.1.length=0 then 3 else if 8<x.1.length then 4 else if MJ x=true then 0 else 9
 else 17
def DB (x:bZ):Bool:=decide ((x.1.length:Int)≤12)&&decide ((x.2.1.length:Int)≤12)&&decide ((x.2.2.1.length:Int)≤12)&&decide ((x.2.2.2.length:Int)≤12)
def E1 (x:Int×Int):Option (Int×Int):=match decide (0≤x.1)&&decide (x.1≤9007199254740992)&&decide (x.2=1000) with
 | true=>some ((x.1+999) / 1000,0)
 | false=>none
noncomputable def PX:Env:=Env.of []
def P6:FuncId→Hint:=fun _=>cN
theorem IZ:aL Tryz.prog PX:=.nil _
def CH (a0:Int) (a1:Int) (R:T→Prop):Prop :=
 aC (decide (a1=0))
 (R (T.aR [T.v (.int .i64 0),T.v (.int .i64 22)]))
 (aC (decide (a0 = -9223372036854775808))
 (aC (decide (a1 = -1))
 (R (T.aR [T.v (.int .i64 0),T.v (.int .i64 21)]))
 (c4 (!decide (a1=0))
 (c4 (!decide (a1=0))
 (aC (!decide (Int.tmod a0 a1=0))
 (aC (decide (decide (Int.tmod a0 a1<0)=decide (a1<0)))
 (R
 (T.aR
 [T.v (.int .i64 (IntKind.i64.wrap (IntKind.i64.wrap (Int.tdiv a0 a1)+1))),
 T.v (.int .i64 0)]))
 (R
 (T.aR
 [T.v (.int .i64 (IntKind.i64.wrap (Int.tdiv a0 a1))),
 T.v (.int .i64 0)])))
 (R
 (T.aR
 [T.v (.int .i64 (IntKind.i64.wrap (Int.tdiv a0 a1))),
 T.v (.int .i64 0)]))))))
 (c4 (!decide (a1=0))
 (c4 (!decide (a1=0))
 (aC (!decide (Int.tmod a0 a1=0))
 (aC (decide (decide (Int.tmod a0 a1<0)=decide (a1<0)))
 (R
 (T.aR
 [T.v (.int .i64 (IntKind.i64.wrap (IntKind.i64.wrap (Int.tdiv a0 a1)+1))),
 T.v (.int .i64 0)]))
 (R
 (T.aR
 [T.v (.int .i64 (IntKind.i64.wrap (Int.tdiv a0 a1))),
 T.v (.int .i64 0)])))
 (R
 (T.aR
 [T.v (.int .i64 (IntKind.i64.wrap (Int.tdiv a0 a1))),
 T.v (.int .i64 0)]))))))
abbrev D6:Sh:=[(false,(Sy.int IntKind.i64)),(false,(Sy.int IntKind.i64))]
abbrev nD:Sh:=[(false,Sy.int IntKind.i64),(false,Sy.int IntKind.i64)]
theorem BP (y:Sh.den nD) (K:Sh.den nD→Prop):aO nD (some (Sh.enc nD y)) K=K y:=bL rfl y K
noncomputable def MO:Env:=Env.of []
def MT:FuncId→Hint:=fun _=>cN
theorem GC:aL Tryz.prog MO:=.nil _
def xK (a0:bZ) (R:T→Prop):Prop :=
 aC (decide ((↑(List.map (Sy.int IntKind.i64).enc a0.1).length:Int)≤12))
 (aC (decide ((↑(List.map (Sy.int IntKind.i64).enc a0.2.1).length:Int)≤12))
 (aC (decide ((↑(List.map (Sy.int IntKind.i64).enc a0.2.2.1).length:Int)≤12))
 (R
 (T.v (.bool (decide ((↑(List.map (Sy.int IntKind.i64).enc a0.2.2.2).length:Int)≤12)))))
 (R (T.v (.bool false))))
 (R (T.v (.bool false))))
 (R (T.v (.bool false)))
abbrev yZ:Sh:=[(true,cL)]
abbrev lT:Sh:=[(false,Sy.bool)]
theorem yR (y:Sh.den lT) (K:Sh.den lT→Prop):aO lT (some (Sh.enc lT y)) K=K y:=bL rfl y K
noncomputable def SJ:Env:=Env.of []
def SM:FuncId→Hint:=j2 16 [(3,.ER 5),(13,.ER 5),(16,.inv [.val 44 false (.int .i64)])] (fun _=>cN)
theorem MQ:aL Tryz.prog SJ:=.nil _
def I8 (a0:bZ) (R:T→Prop):Prop :=
 aC
 (!decide
 ((↑(List.map (Sy.int IntKind.i64).enc a0.1).length:Int) =
 (↑(List.map (Sy.int IntKind.i64).enc a0.1).length:Int)))
 (R (T.v (.int .i64 17)))
 (aC
 (!decide
 ((↑(List.map (Sy.int IntKind.i64).enc a0.2.1).length:Int) =
 (↑(List.map (Sy.int IntKind.i64).enc a0.1).length:Int)))
 (R (T.v (.int .i64 17)))
 (aC
 (!decide
 ((↑(List.map (Sy.int IntKind.i64).enc a0.2.2.1).length:Int) =
 (↑(List.map (Sy.int IntKind.i64).enc a0.1).length:Int)))
 (R (T.v (.int .i64 17)))
 (aC
 (!decide
 ((↑(List.map (Sy.int IntKind.i64).enc a0.2.2.2).length:Int) =
 (↑(List.map (Sy.int IntKind.i64).enc a0.1).length:Int)))
 (R (T.v (.int .i64 17)))
 (aC (decide ((↑(List.map (Sy.int IntKind.i64).enc a0.1).length:Int)=0))
 (R (T.v (.int .i64 3)))
 (aC (decide (8<(↑(List.map (Sy.int IntKind.i64).enc a0.1).length:Int)))
 (R (T.v (.int .i64 4)))
 (b9 (Int×PUnit)
 (fun (X0:Int×PUnit→Prop) (s1:Int×PUnit) =>
 aC (decide (s1.1<(↑(List.map (Sy.int IntKind.i64).enc a0.1).length:Int)))
 (aT (Sy.int IntKind.i64) (List.map (Sy.int IntKind.i64).enc a0.1) s1.1
 fun (y2:Int) =>
 aC (decide (0≤y2))
 (aC (!decide (y2≤1000)) (R (T.v (.int .i64 9)))
 (X0 (IntKind.i64.wrap (s1.1+1),())))
 (R (T.v (.int .i64 9))))
 (b9 (Int×PUnit)
 (fun (X3:Int×PUnit→Prop) (s4:Int×PUnit) =>
 aC
 (decide (s4.1<(↑(List.map (Sy.int IntKind.i64).enc a0.2.1).length:Int)))
 (aT (Sy.int IntKind.i64)
 (List.map (Sy.int IntKind.i64).enc a0.2.1) s4.1 fun (y5:Int) =>
 aC (decide (0≤y5))
 (aC (!decide (y5≤1000)) (R (T.v (.int .i64 9)))
 (X3 (IntKind.i64.wrap (s4.1+1),())))
 (R (T.v (.int .i64 9))))
 (b9 (Int×PUnit)
 (fun (X6:Int×PUnit→Prop) (s7:Int×PUnit) =>
 aC
 (decide
 (s7.1<(↑(List.map (Sy.int IntKind.i64).enc a0.2.2.1).length:Int)))
 (aT (Sy.int IntKind.i64)
 (List.map (Sy.int IntKind.i64).enc a0.2.2.1) s7.1 fun (y8:Int) =>
 aC (decide (0≤y8))
 (aC (!decide (y8≤1000)) (R (T.v (.int .i64 9)))
 (X6 (IntKind.i64.wrap (s7.1+1),())))
 (R (T.v (.int .i64 9))))
 (b9 (Int×PUnit)
 (fun (X9:Int×PUnit→Prop) (s10:Int×PUnit) =>
 aC
 (decide
 (s10.1 <
 (↑(List.map (Sy.int IntKind.i64).enc a0.2.2.2).length:Int)))
 (aT (Sy.int IntKind.i64)
 (List.map (Sy.int IntKind.i64).enc a0.2.2.2) s10.1
 fun (y11:Int) =>
 aC (decide (0≤y11))
 (aC (!decide (y11≤1000))
 (R (T.v (.int .i64 9)))
 (X9 (IntKind.i64.wrap (s10.1+1),())))
 (R (T.v (.int .i64 9))))
 (R (T.v (.int .i64 0))))
 (0,())))
 (0,())))
 (0,())))
 (0,())))))))
abbrev L3:Sh:=[(true,cL)]
abbrev wV:Sh:=[(false,Sy.int IntKind.i64)]
theorem nE (y:Sh.den wV) (K:Sh.den wV→Prop):aO wV (some (Sh.enc wV y)) K=K y:=bL rfl y K
def jW (x:Int×Int):Option T:=(E1 x).map (Sh.enc nD)
def lG (x:bZ):Option T:=some (Sh.enc lT (DB x))
def nG (x:bZ):Option T:=some (Sh.enc wV (vZ x))
noncomputable def kO:List T→Option T:=gS D6 jW
theorem HI {a0 a1}:kO [T.v (.int .i64 a0),T.v (.int .i64 a1)]=jW (a0,a1):=dI (s:=D6) rfl (a0,a1) rfl
theorem OL:JD Tryz.prog 30 kO jW (fR D6) CH:=uE (a1:=(false,(Sy.int IntKind.i64))) (a2:=(false,(Sy.int IntKind.i64))) (sp:=jW) (F:=CH) (Hs:=P6) (f:=30) (k:=8) IZ cT cX (aZ rfl) ⟨_,_,Tryz.func30,rfl⟩ rfl fun _ _ _=>by kernel_rfl
noncomputable def nZ:List T→Option T:=gS yZ lG
theorem DK {a0}:nZ [bI true cL a0]=lG (a0):=dI (s:=yZ) rfl (a0) rfl
theorem LF:T9 Tryz.prog 5 nZ lG (fR yZ) xK:=RI (a1:=(true,cL)) (sp:=lG) (F:=xK) (Hs:=MT) (f:=5) (k:=8) GC cT cX (aZ rfl) ⟨_,_,Tryz.func5,rfl⟩ rfl fun _ _=>by kernel_rfl
noncomputable def nY:List T→Option T:=gS L3 nG
theorem tB {a0}:nY [bI true cL a0]=nG (a0):=dI (s:=L3) rfl (a0) rfl
theorem RJ:T9 Tryz.prog 16 nY nG (fR L3) I8:=RI (a1:=(true,cL)) (sp:=nG) (F:=I8) (Hs:=SM) (f:=16) (k:=8) MQ cT cX (aZ rfl) ⟨_,_,Tryz.func16,rfl⟩ rfl fun _ _=>by kernel_rfl
end Go.Pv
namespace Go.Pv
open Go Go.Proofs
theorem B9 {p:Prop} {i:Decidable p} {A B:Prop} (h1:p→A) (h2:¬ p→B):aC (@decide p i) A B:=by
 by_cases h:p
 ·rw[decide_eq_true h];exact h1 h
 ·rw[decide_eq_false h];exact h2 h
theorem FF {p:Prop} {i:Decidable p} {A B:Prop} (h1:¬ p→A) (h2:p→B):aC (!(@decide p i)) A B:=by
 by_cases h:p
 ·rw[decide_eq_true h];exact h2 h
 ·rw[decide_eq_false h];exact h1 h
theorem vS {α:Type} {p:α→Bool} {l:List α} {k:Nat} (h:k<l.length):(l.drop k).all p=(p l[k]&&(l.drop (k+1)).all p):=by rw[List.drop_eq_getElem_cons h,List.all_cons]
theorem nL {l:List Int} (hl:l.length≤8) {B C:Prop} (hbad:l.all HQ=false→B) (hgood:l.all HQ=true→C) :
  b9 (Int×PUnit) (fun (X0:Int×PUnit→Prop) (s1:Int×PUnit) =>
   aC (decide (s1.1<((List.map (Sy.int IntKind.i64).enc l).length:Int)))
    (aT (Sy.int IntKind.i64) (List.map (Sy.int IntKind.i64).enc l) s1.1 fun (y2:Int) =>
     aC (decide (0≤y2)) (aC (!decide (y2≤1000)) B (X0 (IntKind.i64.wrap (s1.1+1),()))) B) C) (0,()):=by
 simp only[List.length_map]
 refine bE l.length (fun k s=>s=((k:Int),())∧l.all HQ=(l.drop k).all HQ) ⟨rfl,by rw[List.drop_zero]⟩ ?_
 rintro X k s hk ⟨rfl,he⟩ hX
 dsimp only
 refine B9 (fun hlt=>?_) (fun hge=>?_)
 ·have hlt:k<l.length:=by omega
  rw[vS hlt] at he
  rw[aP (r:=.int .i64) hlt]
  have e:IntKind.i64.wrap ((k:Int)+1)=((k+1:Nat):Int):=bN _ (by omega) (by omega)
  refine B9 (fun h1=>FF (fun h2=>hbad ?_) fun h2=>hX _ hlt ⟨by rw[e],?_⟩) (fun h1=>hbad ?_)
  ·rw[he];simp[HQ,h2]
  ·rw[he];simp[HQ,h1,h2]
  ·rw[he];simp[HQ,h1]
 ·have:k=l.length:=by omega
  subst this
  exact hgood (by rw[he];simp)
theorem DE:aW Tryz.prog 16 nY:=RJ fun x r h hb=>by
 cases h
 obtain ⟨a,b,c,d⟩:=x
 have is:∀ {n:Int},vZ (a,b,c,d)=n→T.v (.int .i64 n)=Sh.enc wV (vZ (a,b,c,d)):=fun h=>by rw[h];rfl
 unfold I8
 simp only[]
 refine FF (fun h=>(h trivial).elim) fun _=>?_
 refine FF (fun h=>is ?_) fun h1=>?_
 ·simp only[List.length_map] at h
  unfold vZ;rw[if_neg (fun e=>h (by have:=e.1;simp only at this;omega))]
 refine FF (fun h=>is ?_) fun h2=>?_
 ·simp only[List.length_map] at h
  unfold vZ;rw[if_neg (fun e=>h (by have:=e.2.1;simp only at this;omega))]
 refine FF (fun h=>is ?_) fun h3=>?_
 ·simp only[List.length_map] at h
  unfold vZ;rw[if_neg (fun e=>h (by have:=e.2.2;simp only at this;omega))]
 simp only[List.length_map] at h1 h2 h3
 have h1:b.length=a.length:=by omega
 have h2:c.length=a.length:=by omega
 have h3:d.length=a.length:=by omega
 have hc:vZ (a,b,c,d)=if a.length=0 then 3 else if 8<a.length then 4 else if MJ (a,b,c,d)=true then 0 else 9:=by
  unfold vZ;rw[if_pos ⟨h1,h2,h3⟩]
 refine B9 (fun h=>is ?_) fun h4=>?_
 ·simp only[List.length_map] at h
  rw[hc,if_pos (by omega)]
 refine B9 (fun h=>is ?_) fun h5=>?_
 ·simp only[List.length_map] at h h4
  rw[hc,if_neg (by omega),if_pos (by omega)]
 simp only[List.length_map] at h4 h5
 rw[if_neg (by omega),if_neg (by omega)] at hc
 refine nL (by omega) (fun h=>is ?_) fun g1=>?_
 ·rw[hc,if_neg (by simp[MJ,h])]
 refine nL (by omega) (fun h=>is ?_) fun g2=>?_
 ·rw[hc,if_neg (by simp[MJ,h])]
 refine nL (by omega) (fun h=>is ?_) fun g3=>?_
 ·rw[hc,if_neg (by simp[MJ,h])]
 refine nL (by omega) (fun h=>is ?_) fun g4=>is ?_
 ·rw[hc,if_neg (by simp[MJ,h])]
 ·rw[hc,if_pos (by simp only[MJ,g1,g2,g3,g4,Bool.and_self])]
theorem KA:aW Tryz.prog 5 nZ:=LF fun x r h hb=>by
 cases h
 obtain ⟨a,b,c,d⟩:=x
 unfold xK
 simp only[List.length_map]
 have is:∀ {n:Bool},DB (a,b,c,d)=n→T.v (.bool n)=Sh.enc lT (DB (a,b,c,d)):=fun h=>by rw[h];rfl
 refine B9 (fun h1=>B9 (fun h2=>B9 (fun h3=>is ?_) fun h=>is ?_) fun h=>is ?_) fun h=>is ?_
 ·simp[DB,h1,h2,h3]
 ·simp[DB,h]
 ·simp[DB,h]
 ·simp[DB,h]
end Go.Pv
namespace Go.Pv
open Go Go.Proofs
theorem C2 {x y:Int×Int} (h:E1 x=some y):0≤x.1∧x.1≤9007199254740992∧x.2=1000∧y=((x.1+999) / 1000,0):=by
 unfold E1 at h
 split at h
 ·rename_i hc
  simp only[Bool.and_eq_true,decide_eq_true_eq] at hc
  cases h
  exact ⟨hc.1.1,hc.1.2,hc.2,rfl⟩
 ·cases h
theorem NA {a:Int} (h0:0≤a) (h1:a≤9007199254740992) (hm:¬ Int.tmod a 1000=0):IntKind.i64.wrap (IntKind.i64.wrap (Int.tdiv a 1000)+1)=(a+999) / 1000:=by
 rw[Int.tmod_eq_emod_of_nonneg h0] at hm
 rw[Int.tdiv_eq_ediv_of_nonneg h0,bN (a / 1000) (by omega) (by omega),bN _ (by omega) (by omega)]
 omega
theorem M9 {a:Int} (h0:0≤a) (h1:a≤9007199254740992) (hm:Int.tmod a 1000=0):IntKind.i64.wrap (Int.tdiv a 1000)=(a+999) / 1000:=by
 rw[Int.tmod_eq_emod_of_nonneg h0] at hm
 rw[Int.tdiv_eq_ediv_of_nonneg h0,bN (a / 1000) (by omega) (by omega)]
 omega
theorem NP:aW Tryz.prog 30 kO:=OL fun a b r h hb=>by
 simp only[jW,Option.map_eq_some_iff] at h
 obtain ⟨y,hy,rfl⟩:=h
 obtain ⟨h0,h1,h2,rfl⟩:=C2 hy
 simp only at h0 h1 h2 ⊢
 subst h2
 have is:∀ {n:Int},n=(a+999) / 1000→T.aR [T.v (.int .i64 n),T.v (.int .i64 0)]=Sh.enc nD ((a+999) / 1000,0):=fun h=>by rw[h];rfl
 have hnn:¬ Int.tmod a 1000<0:=by rw[Int.tmod_eq_emod_of_nonneg h0];omega
 unfold CH
 refine B9 (fun h=>by omega) fun _=>?_
 refine B9 (fun h=>by omega) fun _=>?_
 rw[oC,oC]
 refine ⟨rfl,rfl,?_⟩
 refine FF (fun h=>?_) fun h=>is (M9 h0 h1 h)
 refine B9 (fun _=>is (NA h0 h1 h)) fun h3=>absurd (show decide (Int.tmod a 1000<0)=decide ((1000:Int)<0) by rw[decide_eq_false hnn];rfl) h3
def yL (p:aM):Bool:=decide (0≤p.2.1)&&decide (p.2.1≤256)&&(decide (0≤p.2.2.1)&&decide (p.2.2.1≤256))&&(decide (0≤p.2.2.2.1)&&decide (p.2.2.2.1≤8388608))&&(decide (0≤p.2.2.2.2.1)&&decide (p.2.2.2.2.1≤8388608))
def BG (p:aM) (a b c d:Int):Int:=p.2.1*a+p.2.2.1*b+(p.2.2.2.1*c+999) / 1000+(p.2.2.2.2.1*d+999) / 1000
def tZ (p:aM):List Int→List Int→List Int→List Int→List Int
 | a::A,b::B,c::C,d::D=>BG p a b c d::tZ p A B C D
 | _,_,_,_=>[]
def rD (x:aM×bZ):List Int×Int:=if vZ x.2=0 then (if yL x.1=true then (tZ x.1 x.2.1 x.2.2.1 x.2.2.2.1 x.2.2.2.2,0) else ([],9)) else ([],vZ x.2)
noncomputable def P3:Env:=Env.of [(30,.pure kO),(16,.pure nY)]
def QC:FuncId→Hint:=j2 13 [(8,.inv [.val 43 false (.int .i64),.own 7 1 (.int .i64)])] (fun _=>cN)
theorem I5:aL Tryz.prog P3:=.cons NP (.cons DE (.nil _))
def CN (a0:aM) (a1:bZ) (R:T→Prop):Prop :=
 aO [(false,Sy.int IntKind.i64)] (nY [bI true cL a1]) fun (y0:Int) =>
 aC (!decide (y0=0)) (R (T.aR [T.sl false [],T.v (.int .i64 y0)]))
 (aC (decide (0≤a0.2.1))
 (aC (!decide (a0.2.1≤256))
 (R (T.aR [T.sl false [],T.v (.int .i64 9)]))
 (aC (decide (0≤a0.2.2.1))
 (aC (!decide (a0.2.2.1≤256))
 (R (T.aR [T.sl false [],T.v (.int .i64 9)]))
 (aC (decide (0≤a0.2.2.2.1))
 (aC (!decide (a0.2.2.2.1≤8388608))
 (R (T.aR [T.sl false [],T.v (.int .i64 9)]))
 (aC (decide (0≤a0.2.2.2.2.1))
 (aC (!decide (a0.2.2.2.2.1≤8388608))
 (R (T.aR [T.sl false [],T.v (.int .i64 9)]))
 (b9 (Int×List Int×PUnit)
 (fun (X1:Int×List Int×PUnit→Prop) (s2:Int×List Int×PUnit) =>
 aC
 (decide (s2.1<(↑(List.map (Sy.int IntKind.i64).enc a1.1).length:Int)))
 (aT (Sy.int IntKind.i64)
 (List.map (Sy.int IntKind.i64).enc a1.2.2.1) s2.1 fun (y3:Int) =>
 aO [(false,Sy.int IntKind.i64),(false,Sy.int IntKind.i64)]
 (kO
 [T.v (.int .i64 (IntKind.i64.wrap (a0.2.2.2.1*y3))),
 T.v (.int .i64 1000)])
 fun (y4:iJ) =>
 aT (Sy.int IntKind.i64)
 (List.map (Sy.int IntKind.i64).enc a1.2.2.2) s2.1 fun (y5:Int) =>
 aO [(false,Sy.int IntKind.i64),(false,Sy.int IntKind.i64)]
 (kO
 [T.v (.int .i64 (IntKind.i64.wrap (a0.2.2.2.2.1*y5))),
 T.v (.int .i64 1000)])
 fun (y6:iJ) =>
 aT (Sy.int IntKind.i64)
 (List.map (Sy.int IntKind.i64).enc a1.1) s2.1 fun (y7:Int) =>
 aT (Sy.int IntKind.i64)
 (List.map (Sy.int IntKind.i64).enc a1.2.1) s2.1 fun (y8:Int) =>
 c4
 (decide
 (((List.map (Sy.int IntKind.i64).enc s2.2.1).length+1)*8 ≤
 140737488355328) &&
 decide
 ((List.map (Sy.int IntKind.i64).enc s2.2.1).length+1 ≤
 140737488355328))
 (dZ (Sy.int IntKind.i64)
 (List.map (Sy.int IntKind.i64).enc s2.2.1 ++
 [[T.v (.int .i64 (IntKind.i64.wrap
 (IntKind.i64.wrap
 (IntKind.i64.wrap
 (IntKind.i64.wrap (a0.2.1*y7) +
 IntKind.i64.wrap (a0.2.2.1*y8)) +
 y4.1) +
 y6.1)))]])
 fun (y9:List Int)=>X1 (IntKind.i64.wrap (s2.1+1),y9,())))
 (R
 (T.aR
 [T.sl false (List.map (Sy.int IntKind.i64).enc s2.2.1),
 T.v (.int .i64 0)])))
 (0,[],())))
 (R (T.aR [T.sl false [],T.v (.int .i64 9)]))))
 (R (T.aR [T.sl false [],T.v (.int .i64 9)]))))
 (R (T.aR [T.sl false [],T.v (.int .i64 9)]))))
 (R (T.aR [T.sl false [],T.v (.int .i64 9)])))
abbrev EC:Sh:=[(true,aI),(true,cL)]
abbrev kY:Sh:=[(false,(Sy.int IntKind.i64).li),(false,Sy.int IntKind.i64)]
theorem BS (y:Sh.den kY) (K:Sh.den kY→Prop):aO kY (some (Sh.enc kY y)) K=K y:=bL rfl y K
def rS (x:aM×bZ):Option T:=some (Sh.enc kY (rD x))
noncomputable def jM:List T→Option T:=gS EC rS
theorem HM {a0 a1}:jM [bI true aI a0,bI true cL a1]=rS (a0,a1):=dI (s:=EC) rfl (a0,a1) rfl
theorem OR:JD Tryz.prog 13 jM rS (fR EC) CN:=uE (a1:=(true,aI)) (a2:=(true,cL)) (sp:=rS) (F:=CN) (Hs:=QC) (f:=13) (k:=8) I5 cT cX (aZ rfl) ⟨_,_,Tryz.func13,rfl⟩ rfl fun _ _ _=>by kernel_rfl
end Go.Pv
namespace Go.Pv
open Go Go.Proofs
theorem yI {m n M N:Int} (h1:0≤m) (h2:m≤M) (h3:0≤n) (h4:n≤N):0≤m*n∧m*n≤M*N :=
 ⟨Int.mul_nonneg h1 h3,Int.mul_le_mul h2 h4 h3 (Int.le_trans h1 h2)⟩
theorem yC {l:List Int} (h:l.all HQ=true) {k:Nat} (hk:k<l.length):0≤l[k]∧l[k]≤1000:=by
 have:=List.all_eq_true.1 h l[k] (List.getElem_mem hk)
 simpa [HQ] using this
theorem N9 {p:aM} {a b c d:List Int} {k:Nat} (ha:k<a.length) (hb:k<b.length) (hc:k<c.length) (hd:k<d.length) :
  tZ p (a.drop k) (b.drop k) (c.drop k) (d.drop k)=BG p a[k] b[k] c[k] d[k]::tZ p (a.drop (k+1)) (b.drop (k+1)) (c.drop (k+1)) (d.drop (k+1)):=by
 rw[List.drop_eq_getElem_cons ha,List.drop_eq_getElem_cons hb,List.drop_eq_getElem_cons hc,List.drop_eq_getElem_cons hd]
 rfl
theorem eW {p:aM} (h:yL p=true):(0≤p.2.1∧p.2.1≤256)∧(0≤p.2.2.1∧p.2.2.1≤256)∧(0≤p.2.2.2.1∧p.2.2.2.1≤8388608)∧0≤p.2.2.2.2.1∧p.2.2.2.2.1≤8388608:=by
 simp only[yL,Bool.and_eq_true,decide_eq_true_eq] at h
 exact ⟨h.1.1.1,h.1.1.2,h.1.2,h.2⟩
theorem H0 {p:aM} {x:bZ} {G:List T→Option T} {R:T→Prop} (hp:yL p=true) (hi:MJ x=true) (h1:x.2.1.length=x.1.length) (h2:x.2.2.1.length=x.1.length) (h3:x.2.2.2.length=x.1.length) (h8:x.1.length≤8)
  (hG:∀ {n:Int},0≤n→n≤9007199254740992→∀ K:Int×Int→Prop,aO [(false,Sy.int IntKind.i64),(false,Sy.int IntKind.i64)] (G [T.v (.int .i64 n),T.v (.int .i64 1000)]) K=K ((n+999) / 1000,0))
  (hR:R (T.aR [T.sl false (List.map (Sy.int IntKind.i64).enc (tZ p x.1 x.2.1 x.2.2.1 x.2.2.2)),T.v (.int .i64 0)])) :
  b9 (Int×List Int×PUnit)
   (fun (X1:Int×List Int×PUnit→Prop) (s2:Int×List Int×PUnit) =>
    aC (decide (s2.1<((List.map (Sy.int IntKind.i64).enc x.1).length:Int)))
     (aT (Sy.int IntKind.i64) (List.map (Sy.int IntKind.i64).enc x.2.2.1) s2.1 fun (y3:Int) =>
      aO [(false,Sy.int IntKind.i64),(false,Sy.int IntKind.i64)]
       (G [T.v (.int .i64 (IntKind.i64.wrap (p.2.2.2.1*y3))),T.v (.int .i64 1000)])
       fun (y4:Int×Int) =>
       aT (Sy.int IntKind.i64) (List.map (Sy.int IntKind.i64).enc x.2.2.2) s2.1 fun (y5:Int) =>
        aO [(false,Sy.int IntKind.i64),(false,Sy.int IntKind.i64)]
         (G [T.v (.int .i64 (IntKind.i64.wrap (p.2.2.2.2.1*y5))),T.v (.int .i64 1000)])
         fun (y6:Int×Int) =>
         aT (Sy.int IntKind.i64) (List.map (Sy.int IntKind.i64).enc x.1) s2.1 fun (y7:Int) =>
          aT (Sy.int IntKind.i64) (List.map (Sy.int IntKind.i64).enc x.2.1) s2.1 fun (y8:Int) =>
           c4 (decide (((List.map (Sy.int IntKind.i64).enc s2.2.1).length+1)*8≤140737488355328)&&decide ((List.map (Sy.int IntKind.i64).enc s2.2.1).length+1≤140737488355328))
            (dZ (Sy.int IntKind.i64)
             (List.map (Sy.int IntKind.i64).enc s2.2.1 ++
              [[T.v (.int .i64 (IntKind.i64.wrap (IntKind.i64.wrap (IntKind.i64.wrap (IntKind.i64.wrap (p.2.1*y7)+IntKind.i64.wrap (p.2.2.1*y8))+y4.1)+y6.1)))]])
             fun (y9:List Int)=>X1 (IntKind.i64.wrap (s2.1+1),y9,())))
     (R (T.aR [T.sl false (List.map (Sy.int IntKind.i64).enc s2.2.1),T.v (.int .i64 0)])))
   (0,[],()):=by
 obtain ⟨⟨p1,p2⟩,⟨p3,p4⟩,⟨p5,p6⟩,p7,p8⟩:=eW hp
 simp only[MJ,Bool.and_eq_true] at hi
 refine bE x.1.length (fun k s=>∃ acc:List Int,s=((k:Int),acc,())∧acc.length=k∧tZ p x.1 x.2.1 x.2.2.1 x.2.2.2=acc++tZ p (x.1.drop k) (x.2.1.drop k) (x.2.2.1.drop k) (x.2.2.2.drop k)) ⟨[],rfl,rfl,by simp only[List.drop_zero,List.nil_append]⟩ ?_
 rintro X k s hk ⟨acc,rfl,hl,he⟩ hX
 dsimp only
 rw[List.length_map]
 refine B9 (fun hlt=>?_) fun hge=>?_
 ·have hka:k<x.1.length:=by omega
  have hkb:k<x.2.1.length:=by omega
  have hkc:k<x.2.2.1.length:=by omega
  have hkd:k<x.2.2.2.length:=by omega
  have ra:=yC hi.1.1.1 hka
  have rb:=yC hi.1.1.2 hkb
  have rc:=yC hi.1.2 hkc
  have rd:=yC hi.2 hkd
  have ma:=yI p1 p2 ra.1 ra.2
  have mb:=yI p3 p4 rb.1 rb.2
  have mc:=yI p5 p6 rc.1 rc.2
  have md:=yI p7 p8 rd.1 rd.2
  have e:IntKind.i64.wrap ((k:Int)+1)=((k+1:Nat):Int):=bN _ (by omega) (by omega)
  rw[aP (r:=.int .i64) hkc,bN _ (by omega) (by omega),hG mc.1 (by omega)]
  rw[aP (r:=.int .i64) hkd,bN _ (by omega) (by omega),hG md.1 (by omega)]
  rw[aP (r:=.int .i64) hka,aP (r:=.int .i64) hkb,oC]
  refine ⟨by simp only[List.length_map,Bool.and_eq_true,decide_eq_true_eq];omega,?_⟩
  rw[gC (r:=.int .i64) rfl acc _ (BG p x.1[k] x.2.1[k] x.2.2.1[k] x.2.2.2[k]) ?_]
  ·refine hX _ hka ⟨_,by rw[e],by simp[hl],?_⟩
   rw[he,N9 hka hkb hkc hkd]
   simp
  ·have hs:IntKind.i64.wrap (IntKind.i64.wrap (IntKind.i64.wrap (IntKind.i64.wrap (p.2.1*x.1[k])+IntKind.i64.wrap (p.2.2.1*x.2.1[k]))+(p.2.2.2.1*x.2.2.1[k]+999) / 1000)+(p.2.2.2.2.1*x.2.2.2[k]+999) / 1000)=BG p x.1[k] x.2.1[k] x.2.2.1[k] x.2.2.2[k]:=by
    unfold BG
    generalize p.2.1*x.1[k]=u1 at *
    generalize p.2.2.1*x.2.1[k]=u2 at *
    generalize p.2.2.2.1*x.2.2.1[k]=u3 at *
    generalize p.2.2.2.2.1*x.2.2.2[k]=u4 at *
    rw[bN u1 (by omega) (by omega),bN u2 (by omega) (by omega),bN (u1+u2) (by omega) (by omega),bN (u1+u2+_) (by omega) (by omega),bN _ (by omega) (by omega)]
   rw[hs];rfl
 ·have:k=x.1.length:=by omega
  subst this
  have hn:tZ p (x.1.drop x.1.length) (x.2.1.drop x.1.length) (x.2.2.1.drop x.1.length) (x.2.2.2.drop x.1.length)=[]:=by
   rw[List.drop_length];rfl
  rw[hn,List.append_nil] at he
  rw[←he];exact hR
end Go.Pv
namespace Go.Pv
open Go Go.Proofs
theorem QO {x:bZ} (h:vZ x=0):x.2.1.length=x.1.length∧x.2.2.1.length=x.1.length∧x.2.2.2.length=x.1.length∧x.1.length≤8∧MJ x=true:=by
 unfold vZ at h
 split at h
 ·rename_i hl
  split at h
  ·cases h
  ·split at h
   ·cases h
   ·split at h
    ·rename_i hi
     exact ⟨hl.1,hl.2.1,hl.2.2,by omega,hi⟩
    ·cases h
 ·cases h
theorem GR {n:Int} (h0:0≤n) (h1:n≤9007199254740992) (K:Int×Int→Prop):aO [(false,Sy.int IntKind.i64),(false,Sy.int IntKind.i64)] (kO [T.v (.int .i64 n),T.v (.int .i64 1000)]) K=K ((n+999) / 1000,0):=by
 rw[HI,show jW (n,1000)=some (Sh.enc nD ((n+999) / 1000,0)) by simp[jW,E1,h0,h1]]
 exact BP _ K
theorem BH {p:aM} {x:bZ} (hc:vZ x=0) (h:yL p=false):rD (p,x)=([],9):=by
 unfold rD;rw[if_pos hc,if_neg (by simp[h])]
theorem pB {p:aM} {x:bZ} (hc:vZ x=0) (h:yL p=true):rD (p,x)=(tZ p x.1 x.2.1 x.2.2.1 x.2.2.2,0):=by
 unfold rD;rw[if_pos hc,if_pos h]
theorem FC:aW Tryz.prog 13 jM:=OR fun p x r h hb=>by
 cases h
 have is:∀ {l:List Int} {n:Int},rD (p,x)=(l,n)→T.aR [T.sl false (List.map (Sy.int IntKind.i64).enc l),T.v (.int .i64 n)]=Sh.enc kY (rD (p,x)):=fun h=>by rw[h];rfl
 unfold CN
 rw[tB]
 simp only[nG]
 rw[nE]
 refine FF (fun h=>is (l:=[]) (by unfold rD;rw[if_neg h])) fun hc=>?_
 have bad:¬ yL p=true→T.aR [T.sl false [],T.v (.int .i64 9)]=Sh.enc kY (rD (p,x)):=fun h=>is (l:=[]) (BH hc (by simpa using h))
 obtain ⟨h1,h2,h3,h8,hi⟩:=QO hc
 refine B9 (fun b1=>FF (fun b=>bad fun h=>b (eW h).1.2) fun b2=>?_) fun b=>bad fun h=>b (eW h).1.1
 refine B9 (fun b3=>FF (fun b=>bad fun h=>b (eW h).2.1.2) fun b4=>?_) fun b=>bad fun h=>b (eW h).2.1.1
 refine B9 (fun b5=>FF (fun b=>bad fun h=>b (eW h).2.2.1.2) fun b6=>?_) fun b=>bad fun h=>b (eW h).2.2.1.1
 refine B9 (fun b7=>FF (fun b=>bad fun h=>b (eW h).2.2.2.2) fun b8=>?_) fun b=>bad fun h=>b (eW h).2.2.2.1
 have hp:yL p=true:=by simp only[yL,b1,b2,b3,b4,b5,b6,b7,b8,decide_true,Bool.and_self]
 exact H0 (G:=kO) (R:=fun y=>y=Sh.enc kY (rD (p,x))) hp hi h1 h2 h3 h8 GR (is (pB hc hp))
theorem cV (K:Bool→Prop):aO [(false,Sy.bool)] (cE []) K=K true:=bL (s:=[(false,Sy.bool)]) rfl true K
end Go.Pv
namespace Go.Pv
open Go Go.Proofs
def dJ (x:List aM×bZ):List (List Int)×Int:=if vZ x.2=0 then (if x.1.all yL=true then (x.1.map fun p=>tZ p x.2.1 x.2.2.1 x.2.2.2.1 x.2.2.2.2,0) else ([],9)) else ([],vZ x.2)
noncomputable def P2:Env:=Env.of [(13,.pure jM),(16,.pure nY)]
def QB:FuncId→Hint:=j2 10 [(6,.inv [.val 19 false (.int .i64),.own 7 1 (.li (.int .i64))])] (fun _=>cN)
theorem I4:aL Tryz.prog P2:=.cons FC (.cons DE (.nil _))
def CM (a0:List aM) (a1:bZ) (R:T→Prop):Prop :=
 aO [(false,Sy.int IntKind.i64)] (nY [bI true cL a1]) fun (y0:Int) =>
 aC (!decide (y0=0)) (R (T.aR [T.sl false [],T.v (.int .i64 y0)]))
 (b9 (Int×List (List Int)×PUnit)
 (fun (X1:Int×List (List Int)×PUnit→Prop) (s2:Int×List (List Int)×PUnit) =>
 aC (decide (s2.1<(↑(List.map aI.enc a0).length:Int)))
 (aT aI (List.map aI.enc a0) s2.1 fun (y3:aM) =>
 aO [(false,(Sy.int IntKind.i64).li),(false,Sy.int IntKind.i64)]
 (jM [bI true aI y3,bI true cL a1])
 fun (y4:List Int×Int) =>
 aC (!decide (y4.2=0))
 (R (T.aR [T.sl false [],T.v (.int .i64 y4.2)]))
 (c4
 (decide
 (((List.map (Sy.int IntKind.i64).li.enc s2.2.1).length+1)*24 ≤
 140737488355328) &&
 decide ((List.map (Sy.int IntKind.i64).li.enc s2.2.1).length+1≤140737488355328))
 (dZ (Sy.int IntKind.i64).li
 (List.map (Sy.int IntKind.i64).li.enc s2.2.1 ++
 [[T.sl false (List.map (Sy.int IntKind.i64).enc y4.1)]])
 fun (y5:List (List Int))=>X1 (IntKind.i64.wrap (s2.1+1),y5,()))))
 (R
 (T.aR
 [T.sl false (List.map (Sy.int IntKind.i64).li.enc s2.2.1),
 T.v (.int .i64 0)])))
 (0,[],()))
abbrev EB:Sh:=[(false,aI.li),(true,cL)]
abbrev kX:Sh:=[(false,(Sy.int IntKind.i64).li.li),(false,Sy.int IntKind.i64)]
theorem BR (y:Sh.den kX) (K:Sh.den kX→Prop):aO kX (some (Sh.enc kX y)) K=K y:=bL rfl y K
def l4 (x:List aM×bZ):Option T:=match decide (x.1.length≤40) with
 | true=>some (Sh.enc kX (dJ x))
 | false=>none
noncomputable def tE:List T→Option T:=gS EB l4
theorem HL {a0 a1}:tE [T.sl false (List.map aI.enc a0),bI true cL a1]=l4 (a0,a1):=dI (s:=EB) rfl (a0,a1) rfl
theorem OQ:JD Tryz.prog 10 tE l4 (fR EB) CM:=uE (a1:=(false,aI.li)) (a2:=(true,cL)) (sp:=l4) (F:=CM) (Hs:=QB) (f:=10) (k:=8) I4 cT cX (aZ rfl) ⟨_,_,Tryz.func10,rfl⟩ rfl fun _ _ _=>by kernel_rfl
end Go.Pv
namespace Go.Pv
open Go Go.Proofs
theorem wM (p:aM) (x:bZ) (K:List Int×Int→Prop):aO [(false,(Sy.int IntKind.i64).li),(false,Sy.int IntKind.i64)] (jM [bI true aI p,bI true cL x]) K=K (rD (p,x)):=by
 rw[HM]
 exact BS _ K
end Go.Pv
namespace Go.Pv
open Go Go.Proofs
def rowOf (x:bZ) (p:aM):List Int:=tZ p x.1 x.2.1 x.2.2.1 x.2.2.2
theorem HS {l:List aM} {x:bZ} {G:List T→Option T} {R:T→Prop} (hl:l.length≤40) (hc:vZ x=0)
  (hG:∀ (p:aM) (K:List Int×Int→Prop),aO [(false,(Sy.int IntKind.i64).li),(false,Sy.int IntKind.i64)] (G [bI true aI p,bI true cL x]) K=K (rD (p,x)))
  (hbad:l.all yL=false→R (T.aR [T.sl false [],T.v (.int .i64 9)]))
  (hgood:l.all yL=true→R (T.aR [T.sl false (List.map (Sy.int IntKind.i64).li.enc (l.map (rowOf x))),T.v (.int .i64 0)])) :
  b9 (Int×List (List Int)×PUnit)
   (fun (X1:Int×List (List Int)×PUnit→Prop) (s2:Int×List (List Int)×PUnit) =>
    aC (decide (s2.1<((List.map aI.enc l).length:Int)))
     (aT aI (List.map aI.enc l) s2.1 fun (y3:aM) =>
      aO [(false,(Sy.int IntKind.i64).li),(false,Sy.int IntKind.i64)]
       (G [bI true aI y3,bI true cL x])
       fun (y4:List Int×Int) =>
       aC (!decide (y4.2=0))
        (R (T.aR [T.sl false [],T.v (.int .i64 y4.2)]))
        (c4
         (decide (((List.map (Sy.int IntKind.i64).li.enc s2.2.1).length+1)*24≤140737488355328) &&
          decide ((List.map (Sy.int IntKind.i64).li.enc s2.2.1).length+1≤140737488355328))
         (dZ (Sy.int IntKind.i64).li
          (List.map (Sy.int IntKind.i64).li.enc s2.2.1++[[T.sl false (List.map (Sy.int IntKind.i64).enc y4.1)]])
          fun (y5:List (List Int))=>X1 (IntKind.i64.wrap (s2.1+1),y5,()))))
     (R (T.aR [T.sl false (List.map (Sy.int IntKind.i64).li.enc s2.2.1),T.v (.int .i64 0)])))
   (0,[],()):=by
 refine bE l.length (fun k s=>s=((k:Int),(l.take k).map (rowOf x),())∧l.all yL=(l.drop k).all yL) ⟨rfl,by rw[List.drop_zero]⟩ ?_
 rintro X k s hk ⟨rfl,he⟩ hX
 dsimp only
 rw[List.length_map]
 refine B9 (fun hlt=>?_) fun hge=>?_
 ·have hlt:k<l.length:=by omega
  have e:IntKind.i64.wrap ((k:Int)+1)=((k+1:Nat):Int):=bN _ (by omega) (by omega)
  rw[vS hlt] at he
  rw[aP (r:=aI) hlt,hG]
  cases hp:yL l[k] with
  | false =>
   rw[BH hc hp]
   refine FF (fun _=>hbad (by rw[he,hp,Bool.false_and])) fun h=>absurd h (by decide)
  | true =>
   rw[pB hc hp]
   dsimp only
   refine FF (fun h=>absurd (by first|rfl|trivial) h) fun _=>?_
   rw[oC]
   refine ⟨by simp only[List.length_map,List.length_take,Bool.and_eq_true,decide_eq_true_eq];omega,?_⟩
   rw[gC (r:=(Sy.int IntKind.i64).li) rfl ((l.take k).map (rowOf x)) _ (rowOf x l[k]) rfl]
   refine hX _ hlt ⟨?_,by rw[he,hp,Bool.true_and]⟩
   rw[e,List.take_add_one,List.getElem?_eq_getElem hlt,List.map_append]
   rfl
 ·have:k=l.length:=by omega
  subst this
  rw[List.take_length]
  exact hgood (by rw[he];simp)
end Go.Pv
namespace Go.Pv
open Go Go.Proofs
theorem N0 {l:List aM} {x:bZ} {t r:T} (h:(match decide (l.length≤40) with|true=>some t|false=>none)=some r):l.length≤40∧r=t:=by
 split at h
 ·rename_i hd;cases h;exact ⟨of_decide_eq_true hd,rfl⟩
 ·cases h
theorem NS:aW Tryz.prog 10 tE:=OQ fun l x r h hb=>by
 obtain ⟨hl,rfl⟩:=N0 (l:=l) (x:=x) h
 have is:∀ {q:List (List Int)} {n:Int},dJ (l,x)=(q,n)→T.aR [T.sl false (List.map (Sy.int IntKind.i64).li.enc q),T.v (.int .i64 n)]=Sh.enc kX (dJ (l,x)):=fun h=>by rw[h];rfl
 unfold CM
 rw[tB]
 simp only[nG]
 rw[nE]
 refine FF (fun h=>is (q:=[]) (by unfold dJ;rw[if_neg h])) fun hc=>?_
 exact HS (G:=jM) (R:=fun y=>y=Sh.enc kX (dJ (l,x))) hl hc (fun p K=>wM p x K) (fun h=>is (q:=[]) (by unfold dJ;rw[if_pos hc,if_neg (by simp[h])])) (fun h=>is (by unfold dJ;rw[if_pos hc,if_pos h];rfl))
theorem EG {l:List aM} {x:bZ} (h:l.length≤40):l4 (l,x)=some (Sh.enc kX (dJ (l,x))):=by
 unfold l4;rw[decide_eq_true h]
end Go.Pv
namespace Go.Pv
open Go Go.Proofs
def yK:aM:=(⟨#[]⟩,0,0,0,0,0)
def eG (l:List aM) (o:List Int):List ByteArray:=o.map fun j=>(l.getD j.toNat yK).1
def gQ (x:List aM×bZ×Int):List ByteArray×Int×Int :=
 if ¬ (dJ (x.1,x.2.1)).2=0 then ([],0,(dJ (x.1,x.2.1)).2)
 else if ¬ (bJ (dJ (x.1,x.2.1)).1 x.2.2).2.2=0 then ([],0,(bJ (dJ (x.1,x.2.1)).1 x.2.2).2.2)
 else (eG x.1 (bJ (dJ (x.1,x.2.1)).1 x.2.2).1,(bJ (dJ (x.1,x.2.1)).1 x.2.2).2.1,0)
theorem A5 {l:List aM} {x:bZ} (h:(dJ (l,x)).2=0):(dJ (l,x)).1.length=l.length:=by
 unfold dJ at h ⊢
 dsimp only at h ⊢
 by_cases hc:vZ x=0
 ·rw[if_pos hc] at h ⊢
  by_cases hp:l.all yL=true
  ·rw[if_pos hp];simp
  ·rw[if_neg hp] at h;cases h
 ·rw[if_neg hc] at h;exact absurd h hc
theorem E0 {l:List aM} {x:bZ} {steps:Int} (h1:(dJ (l,x)).2=0) (h2:(bJ (dJ (l,x)).1 steps).2.2=0) (hl:l.length≤40) :
  (∀ j∈(bJ (dJ (l,x)).1 steps).1,0≤j∧j<(l.length:Int))∧(bJ (dJ (l,x)).1 steps).1.length≤40:=by
 obtain ⟨_,g1,g2,_⟩:=sE h2
 rw[A5 h1] at g1 g2
 exact ⟨g1.2,by omega⟩
end Go.Pv
namespace Go.Pv
open Go Go.Proofs
noncomputable def P0:Env:=Env.of [(31,.pure mV),(41,.pure kR),(33,.pure kP)]
def P9:FuncId→Hint:=fun _=>cN
theorem I2:aL Tryz.prog P0:=.cons FA (.cons HE (.cons FB (.nil _)))
def CK (a0:List (List Int)) (a1:List Int) (R:T→Prop):Prop :=
 aO [(false,Sy.int IntKind.i64)]
 (mV [T.sl false (List.map (Sy.int IntKind.i64).li.enc a0)]) fun (y0:Int) =>
 aC (!decide (y0=0)) (R (T.aR [T.sl false [],T.v (.int .i64 y0)]))
 (aC
 (!decide
 ((↑(List.map (Sy.int IntKind.i64).enc a1).length:Int) =
 (↑(List.map (Sy.int IntKind.i64).li.enc a0).length:Int)))
 (R (T.aR [T.sl false [],T.v (.int .i64 2)]))
 (aO [(false,Sy.bool)]
 (kR
 [T.sl false (List.map (Sy.int IntKind.i64).li.enc a0),
 T.sl false (List.map (Sy.int IntKind.i64).enc a1)])
 fun (y1:Bool) =>
 aC (!y1) (R (T.aR [T.sl false [],T.v (.int .i64 2)]))
 (aO [(false,(Sy.int IntKind.i64).li.li)]
 (kP
 [T.sl false (List.map (Sy.int IntKind.i64).li.enc a0),
 T.sl false (List.map (Sy.int IntKind.i64).enc a1)])
 fun (y2:List (List Int)) =>
 R
 (T.aR
 [T.sl false (List.map (Sy.int IntKind.i64).li.enc y2),
 T.v (.int .i64 0)]))))
abbrev D9:Sh:=[(false,(Sy.int IntKind.i64).li.li),(false,(Sy.int IntKind.i64).li)]
abbrev uJ:Sh:=[(false,(Sy.int IntKind.i64).li.li),(false,Sy.int IntKind.i64)]
theorem BQ (y:Sh.den uJ) (K:Sh.den uJ→Prop):aO uJ (some (Sh.enc uJ y)) K=K y:=bL rfl y K
def oG (x:List (List Int)×List Int):Option T:=some (Sh.enc uJ (if ¬ dT x.1=0 then ([],dT x.1) else if ¬ x.2.length=x.1.length∨dO x.1 x.2=false then ([],2) else (iO x.1 (List.replicate (x.1.getD 0 []).length 0) x.2,0)))
noncomputable def tD:List T→Option T:=gS D9 oG
theorem HK {a0 a1}:tD [T.sl false (List.map (Sy.int IntKind.i64).li.enc a0),
 T.sl false (List.map (Sy.int IntKind.i64).enc a1)]=oG (a0,a1):=dI (s:=D9) rfl (a0,a1) rfl
theorem OO:JD Tryz.prog 20 tD oG (fR D9) CK:=uE (a1:=(false,(Sy.int IntKind.i64).li.li)) (a2:=(false,(Sy.int IntKind.i64).li)) (sp:=oG) (F:=CK) (Hs:=P9) (f:=20) (k:=8) I2 cT cX (aZ rfl) ⟨_,_,Tryz.func20,rfl⟩ rfl fun _ _ _=>by kernel_rfl
theorem NR:aW Tryz.prog 20 tD:=OO fun p l r h hb=>by
 cases h
 dsimp only
 unfold CK
 rw[wH]
 simp only[lZ]
 rw[p9]
 by_cases h1:dT p=0
 case neg=>rw[if_pos h1];exact l7 (fun _=>rfl) fun h=>absurd h h1
 rw[if_neg (fun g=>g h1)]
 refine l7 (fun h=>absurd h1 h) fun _=>?_
 simp only[List.length_map]
 by_cases h2:l.length=p.length
 case neg=>rw[if_pos (.inl h2)];exact l7 (fun _=>rfl) fun h=>absurd (by omega) h2
 refine l7 (fun h=>absurd (by omega) h) fun _=>?_
 rw[AZ]
 simp only[jB]
 rw[vM]
 cases hr:dO p l with
 | false=>rw[if_pos (.inr rfl)];rfl
 | true =>
  rw[if_neg (by rw[not_or];exact ⟨fun g=>g h2,fun g=>by cases g⟩)]
  have hok:CA p l=true:=by unfold CA;rw[decide_eq_true h1,hr];rfl
  show aO _ _ _
  rw[J6 hok,qA];rfl
noncomputable def SK:Env:=Env.of [(20,.pure tD),(21,.pure fX)]
def SN:FuncId→Hint:=fun _=>cN
theorem MR:aL Tryz.prog SK:=.cons NR (.cons s0 (.nil _))
def I9 (a0:List (List Int)) (a1:List Int) (R:T→Prop):Prop :=
 aO [(false,(Sy.int IntKind.i64).li.li),(false,Sy.int IntKind.i64)]
 (tD
 [T.sl false (List.map (Sy.int IntKind.i64).li.enc a0),
 T.sl false (List.map (Sy.int IntKind.i64).enc a1)])
 fun (y0:List (List Int)×Int) =>
 aC (!decide (y0.2=0))
 (R (T.aR [T.v (.int .i64 0),T.v (.int .i64 y0.2)]))
 (aC (decide ((↑(List.map (Sy.int IntKind.i64).li.enc y0.1).length:Int)=0))
 (R (T.aR [T.v (.int .i64 0),T.v (.int .i64 y0.2)]))
 (aT (Sy.int IntKind.i64).li (List.map (Sy.int IntKind.i64).li.enc a0) 0
 fun (y1:List Int) =>
 aO [(false,Sy.int IntKind.i64)]
 (fX
 [T.sl false (List.map (Sy.int IntKind.i64).li.enc y0.1),
 T.v (.int .i64 (IntKind.i64.wrap ((↑(List.map (Sy.int IntKind.i64).enc y1).length:Int)-1)))])
 fun (y2:Int) =>
 R (T.aR [T.v (.int .i64 y2),T.v (.int .i64 0)])))
abbrev L4:Sh:=[(false,(Sy.int IntKind.i64).li.li),(false,(Sy.int IntKind.i64).li)]
abbrev uL:Sh:=[(false,Sy.int IntKind.i64),(false,Sy.int IntKind.i64)]
theorem uM (y:Sh.den uL) (K:Sh.den uL→Prop):aO uL (some (Sh.enc uL y)) K=K y:=bL rfl y K
def pK (x:List (List Int)×List Int):Option T:=some (Sh.enc uL (H7 x.1 x.2))
noncomputable def mE:List T→Option T:=gS L4 pK
theorem AY {a0 a1}:mE [T.sl false (List.map (Sy.int IntKind.i64).li.enc a0),
 T.sl false (List.map (Sy.int IntKind.i64).enc a1)]=pK (a0,a1):=dI (s:=L4) rfl (a0,a1) rfl
theorem RL:JD Tryz.prog 11 mE pK (fR L4) I9:=uE (a1:=(false,(Sy.int IntKind.i64).li.li)) (a2:=(false,(Sy.int IntKind.i64).li)) (sp:=pK) (F:=I9) (Hs:=SN) (f:=11) (k:=8) MR cT cX (aZ rfl) ⟨_,_,Tryz.func11,rfl⟩ rfl fun _ _ _=>by kernel_rfl
theorem QV:aW Tryz.prog 11 mE:=RL fun p l r h hb=>by
 cases h
 have is:∀ {q:Int×Int},H7 p l=q→Sh.enc uL q=Sh.enc uL (H7 p l):=fun h=>by rw[h]
 unfold I9
 rw[HK]
 simp only[oG]
 rw[BQ]
 by_cases h1:dT p=0
 case neg=>rw[if_pos h1];exact l7 (fun _=>is (q:=(0,dT p)) (by unfold H7;rw[if_pos h1])) fun h=>absurd h h1
 rw[if_neg (fun g=>g h1)]
 by_cases h2:¬ l.length=p.length∨dO p l=false
 ·rw[if_pos h2]
  exact l7 (fun _=>is (q:=(0,2)) (by unfold H7;rw[if_neg (fun g=>g h1),if_pos h2])) fun h=>absurd h (by dsimp only;omega)
 rw[if_neg h2]
 have hmk:H7 p l=(e9 p (p.getD 0 []).length l,0):=by unfold H7;rw[if_neg (fun g=>g h1),if_neg h2]
 rw[not_or] at h2
 have hok:CA p l=true:=by
  unfold CA;rw[decide_eq_true h1]
  cases hr:dO p l with
  | true=>rfl
  | false=>exact absurd hr h2.2
 have H:=iU hok
 have hlen:l.length=p.length:=Decidable.of_not_not h2.1
 refine l7 (fun h=>absurd rfl h) fun _=>?_
 dsimp only
 simp only[List.length_map]
 refine bY (fun h=>is (q:=(0,0)) ?_) fun h=>?_
 ·rw[gW] at h
  have h0:l=[]:=List.eq_nil_of_length_eq_zero (by omega)
  have h3:p=[]:=List.eq_nil_of_length_eq_zero (by rw[←hlen,h0];rfl)
  rw[hmk,h0,h3];rfl
 ·rw[gW] at h
  have hp0:0<p.length:=by omega
  have hpos:=H.pos hp0
  have hn:=H.n;have hm:=H.m8
  refine (aP (r:=(Sy.int .i64).li) (k:=0) hp0 _).mpr ?_
  rw[oD hp0,rO hpos (by omega),mW]
  unfold fP
  dsimp only
  rw[o9 H (by omega) (by omega),Int.toNat_natCast,←FL H.rG.1 H.diff.2]
  exact fD (s:=rP) (y:=e9 p (p.getD 0 []).length l) rfl (is (q:=(e9 p (p.getD 0 []).length l,0)) hmk)
end Go.Pv
namespace Go.Pv
open Go Go.Proofs
noncomputable def xI:Env:=Env.of [(10,.pure tE),(17,.pure nX)]
def ET:FuncId→Hint:=j2 7 [(9,.inv [.val 37 false (.int .i64),.own 13 1 .str])] (fun _=>cN)
theorem GF:aL Tryz.prog xI:=.cons NS (.cons J9 (.nil _))
def xM (a0:List aM) (a1:bZ) (a2:Int) (R:T→Prop):Prop :=
 aO [(false,(Sy.int IntKind.i64).li.li),(false,Sy.int IntKind.i64)]
 (tE [T.sl false (List.map aI.enc a0),bI true cL a1])
 fun (y0:List (List Int)×Int) =>
 aC (!decide (y0.2=0))
 (c4 (T.v (.int .i64 0)).flat
 (c4 (T.v (.int .i64 y0.2)).flat
 (R
 (T.aR
 [T.sl false [],T.v (.int .i64 0),
 T.v (.int .i64 y0.2)]))))
 (aO
 [(false,(Sy.int IntKind.i64).li),(false,Sy.int IntKind.i64),
 (false,Sy.int IntKind.i64)]
 (nX
 [T.sl false (List.map (Sy.int IntKind.i64).li.enc y0.1),
 T.v (.int .i64 a2)])
 fun (y1:List Int×iJ) =>
 aC (!decide (y1.2.2=0))
 (c4 (T.v (.int .i64 0)).flat
 (c4 (T.v (.int .i64 y1.2.2)).flat
 (R
 (T.aR
 [T.sl false [],T.v (.int .i64 0),
 T.v (.int .i64 y1.2.2)]))))
 (b9 (Int×List ByteArray×PUnit)
 (fun (X2:Int×List ByteArray×PUnit→Prop) (s3:Int×List ByteArray×PUnit) =>
 aC (decide (s3.1<(↑(List.map (Sy.int IntKind.i64).enc y1.1).length:Int)))
 (aT (Sy.int IntKind.i64) (List.map (Sy.int IntKind.i64).enc y1.1) s3.1
 fun (y4:Int) =>
 aT aI (List.map aI.enc a0) y4 fun (y5:aM) =>
 c4
 (decide (((List.map Sy.str.enc s3.2.1).length+1)*16≤140737488355328) &&
 decide ((List.map Sy.str.enc s3.2.1).length+1≤140737488355328))
 (dZ Sy.str
 (List.map Sy.str.enc s3.2.1++[[T.v (.string y5.1)]])
 fun (y6:List ByteArray)=>X2 (IntKind.i64.wrap (s3.1+1),y6,())))
 (c4 ((List.map Sy.str.enc s3.2.1).all fun (r:List T)=>r.all T.flat)
 (c4 (T.v (.int .i64 y1.2.1)).flat
 (c4 (T.v (.int .i64 0)).flat
 (R
 (T.aR
 [T.sl false (List.map Sy.str.enc s3.2.1),
 T.v (.int .i64 y1.2.1),
 T.v (.int .i64 0)]))))))
 (0,[],())))
theorem CO ( a0 a1 a2 R):zE bC Tryz.prog xI ET 8 7 [bI false aI.li a0,bI true cL a1,bI false (Sy.int IntKind.i64) a2] R=xM a0 a1 a2 R:=by kernel_rfl
abbrev rR:Sh:=[(false,aI.li),(true,cL),(false,(Sy.int IntKind.i64))]
abbrev fZ:Sh:=[(false,Sy.str.li),(false,Sy.int IntKind.i64),(false,Sy.int IntKind.i64)]
theorem yS (y:Sh.den fZ) (K:Sh.den fZ→Prop):aO fZ (some (Sh.enc fZ y)) K=K y:=bL rfl y K
def lH (x:List aM×bZ×Int):Option T:=match decide (x.1.length≤40) with
 | true=>some (Sh.enc fZ (gQ x))
 | false=>none
noncomputable def lR:List T→Option (T):=gS rR lH
theorem DL {a0 a1 a2}:lR [T.sl false (List.map aI.enc a0),bI true cL a1,
 T.v (.int .i64 a2)]=lH (a0,a1,a2):=dI (s:=rR) rfl (a0,a1,a2) rfl
theorem LI (h:∀ a0 a1 a2 r,lH (a0,a1,a2)=some r→fR rR (a0,a1,a2)→xM a0 a1 a2 (fun y=>y=r)):rY Tryz.prog 7 lR :=
 OE (E:=xI) (Hs:=ET) GF cT cX (aZ rfl) 8 ⟨_,_,Tryz.func7,rfl⟩ rfl fun x r h1 h2=>by
  obtain ⟨a0,a1,a2⟩:=x
  rw[show Sh.dQ rR (a0,a1,a2)=[bI false aI.li a0,bI true cL a1,bI false (Sy.int IntKind.i64) a2] from rfl,CO]
  exact h a0 a1 a2 r h1 h2
theorem BJ {l:List aM} {o:List Int} (Q:List ByteArray→Prop) (hl:l.length≤40) (ho:∀ j∈o,0≤j∧j<(l.length:Int)) (ho2:o.length≤40) (hR:Q (eG l o)) :
  b9 (Int×List ByteArray×PUnit) (fun (X2:Int×List ByteArray×PUnit→Prop) (s3:Int×List ByteArray×PUnit) =>
   aC (decide (s3.1<((List.map (Sy.int IntKind.i64).enc o).length:Int)))
    (aT (Sy.int IntKind.i64) (List.map (Sy.int IntKind.i64).enc o) s3.1 fun (y4:Int)=>aT aI (List.map aI.enc l) y4 fun (y5:aM) =>
     c4 (decide (((List.map Sy.str.enc s3.2.1).length+1)*16≤140737488355328)&&decide ((List.map Sy.str.enc s3.2.1).length+1≤140737488355328))
      (dZ Sy.str (List.map Sy.str.enc s3.2.1++[[T.v (.string y5.1)]]) fun (y6:List ByteArray)=>X2 (IntKind.i64.wrap (s3.1+1),y6,())))
    (Q s3.2.1)) (0,[],()):=by
 refine bE o.length (fun k s=>s=((k:Int),eG l (o.take k),())) rfl ?_
 rintro X k s hk rfl hX
 dsimp only
 rw[List.length_map]
 refine bY (fun hlt=>?_) fun hge=>?_
 ·have hlt:k<o.length:=by omega
  have hj:=ho o[k] (List.getElem_mem hlt)
  have hjn:o[k].toNat<l.length:=by omega
  have hje:o[k]=((o[k].toNat:Nat):Int):=by omega
  rw[aP (r:=.int .i64) hlt,hje,aP (r:=aI) hjn,List.length_map]
  have hnl:(eG l (o.take k)).length=k:=by unfold eG;rw[List.length_map,List.length_take];omega
  refine ⟨by rw[hnl,Bool.and_eq_true,decide_eq_true_eq,decide_eq_true_eq];omega,?_⟩
  rw[gC (r:=.str) rfl (eG l (o.take k)) _ l[o[k].toNat].1 rfl]
  refine hX _ hlt ?_
  rw[cJ hlt (by omega),oI hlt]
  unfold eG
  rw[List.map_append,List.map_singleton,show l.getD o[k].toNat yK=l[o[k].toNat] by simp[List.getD,hjn]]
 ·have:k=o.length:=by omega
  subst this
  rw[List.take_length];exact hR
theorem HB (l:List ByteArray):((List.map Sy.str.enc l).all fun (r:List T)=>r.all T.flat)=true:=by
 rw[List.all_eq_true]
 intro r hr
 obtain ⟨s,_,rfl⟩:=List.mem_map.1 hr
 rfl
theorem KB:rY Tryz.prog 7 lR:=LI fun l x steps r h hb=>by
 unfold lH at h
 split at h
 case h_2=>cases h
 rename_i hd
 cases h
 have hl:l.length≤40:=of_decide_eq_true hd
 have is:∀ {q:List ByteArray×Int×Int},gQ (l,x,steps)=q→Sh.enc fZ q=Sh.enc fZ (gQ (l,x,steps)):=fun h=>by rw[h]
 unfold xM
 rw[HL,EG hl,BR]
 refine l7 (fun h=>⟨rfl,rfl,is (q:=([],0,_)) (by unfold gQ;rw[if_pos h])⟩) fun h1=>?_
 rw[DJ]
 simp only[lF]
 rw[yQ]
 refine l7 (fun h=>⟨rfl,rfl,is (q:=([],0,_)) (by unfold gQ;rw[if_neg (fun g=>g h1),if_pos h])⟩) fun h2=>?_
 obtain ⟨g1,g2⟩:=E0 h1 h2 hl
 refine BJ (fun q=>c4 ((List.map Sy.str.enc q).all fun (r:List T)=>r.all T.flat) (c4 (T.v (.int .i64 (bJ (dJ (l,x)).1 steps).2.1)).flat (c4 (T.v (.int .i64 0)).flat
  (T.aR [T.sl false (List.map Sy.str.enc q),T.v (.int .i64 (bJ (dJ (l,x)).1 steps).2.1),T.v (.int .i64 0)]=Sh.enc fZ (gQ (l,x,steps)))))) hl g1 g2
  ⟨HB _,rfl,rfl,is (q:=(eG l (bJ (dJ (l,x)).1 steps).1,_,0)) (by unfold gQ;rw[if_neg (fun g=>g h1),if_neg (fun g=>g h2)])⟩
noncomputable def GA:Env:=Env.of [(9000000000,.mark),(5,.pure nZ),(7,.new lR),(16,.pure nY),(13,.pure jM),(11,.pure mE),(6,.pure cE)]
def GI:FuncId→Hint:=j2 4 [(5,.inv [.val 8 false (.int .i64),.arr 1 6 aI]),(13,.inv [.own 12 1 (.int .i64),.val 13 false (.int .i64)]),(16,.inv [.own 12 1 (.int .i64),.val 14 false (.int .i64)])] (j2 10 [(6,.inv [.val 19 false (.int .i64),.own 7 1 (.li (.int .i64))])] (fun _=>cN))
theorem zL:aL Tryz.prog GA:=.cons (x:=.mark) trivial (.cons KA (.cons KB (.cons DE (.cons FC (.cons QV (.cons DD (.nil _)))))))
def oM (a0:List aM) (a1:bZ) (a2:List Int) (R:T→Prop):Prop :=
 aO [(false,Sy.bool)] (nZ [bI true cL a1]) fun (y0:Bool) =>
 aC (!y0)
 (aO [(false,Sy.bool)] (cE []) fun (y1:Bool)=>R (T.v (.bool y1)))
 (aC (decide (5<(↑(List.map aI.enc a0).length:Int)))
 (aO [(false,Sy.bool)] (cE []) fun (y2:Bool)=>R (T.v (.bool y2)))
 (aC (decide (5<(↑(List.map (Sy.int IntKind.i64).enc a2).length:Int)))
 (aO [(false,Sy.bool)] (cE []) fun (y3:Bool)=>R (T.v (.bool y3)))
 (c4
 (dP 6 (List.map aI.enc a0)&&true &&
 decide ((List.map aI.enc a0).length*56≤140737488355328) &&
 decide ((List.map aI.enc a0).length≤140737488355328))
 (dZ aI (List.map aI.enc a0) fun (y4:List aM) =>
 b9 (Int×List aM×PUnit)
 (fun (X5:Int×List aM×PUnit→Prop) (s6:Int×List aM×PUnit) =>
 aC (decide (s6.1<(↑(List.map aI.enc s6.2.1).length:Int)))
 (dZ (Sy.int IntKind.u8)
 [[T.v (Value.int IntKind.u8 (IntKind.u8.wrap (IntKind.i64.wrap (97+s6.1))))]]
 fun (y7:List Int) =>
 aT aI (List.map aI.enc s6.2.1) s6.1 fun (y8:aM) =>
 BY (List.map aI.enc s6.2.1) (Int.toNat s6.1) fun (y9:List T) =>
 c4 (decide (1≤y9.length))
 (dZ aI
 ((List.map aI.enc s6.2.1).set (Int.toNat s6.1)
 (aS y9 0 [T.v (.string (strOfNums y7))]))
 fun (y10:List aM)=>X5 (IntKind.i64.wrap (s6.1+1),y10,())))
 (aO
 [(false,Sy.str.li),(false,Sy.int IntKind.i64),
 (false,Sy.int IntKind.i64)]
 (lR
 [T.sl false (List.map aI.enc s6.2.1),bI true cL a1,
 T.v (.int .i64 100000)])
 fun (y11:List ByteArray×iJ) =>
 aC (!decide (y11.2.2=0))
 (aC (decide ((↑(List.map Sy.str.enc y11.1).length:Int)=0))
 (aC (decide (y11.2.1=0))
 (aO [(false,Sy.bool)] (cE []) fun (y12:Bool) =>
 R (T.v (.bool y12)))
 (R (T.v (.bool false))))
 (R (T.v (.bool false))))
 (b9 (List Int×Int×PUnit)
 (fun (X13:List Int×Int×PUnit→Prop) (s14:List Int×Int×PUnit) =>
 aC (decide (s14.2.1<(↑(List.map Sy.str.enc y11.1).length:Int)))
 (dZ (Sy.int IntKind.i64)
 (List.map (Sy.int IntKind.i64).enc s14.1) fun (y15:List Int) =>
 b9 (List Int×Int×PUnit)
 (fun (X16:List Int×Int×PUnit→Prop) (s17:List Int×Int×PUnit) =>
 aC
 (decide (s17.2.1<(↑(List.map aI.enc s6.2.1).length:Int)))
 (aT aI (List.map aI.enc s6.2.1) s17.2.1
 fun (y18:aM) =>
 mJ Sy.str (List.map aI.enc s6.2.1)
 (Int.toNat s17.2.1) 0 fun (y19:ByteArray) =>
 aT Sy.str (List.map Sy.str.enc y11.1) s14.2.1
 fun (y20:ByteArray) =>
 aC (decide (y19=y20))
 (c4
 (decide
 (((List.map (Sy.int IntKind.i64).enc s17.1).length+1) *
 8 ≤
 140737488355328) &&
 decide
 ((List.map (Sy.int IntKind.i64).enc s17.1).length+1 ≤
 140737488355328))
 (dZ (Sy.int IntKind.i64)
 (List.map (Sy.int IntKind.i64).enc s17.1 ++
 [[T.v (.int .i64 s17.2.1)]])
 fun (y21:List Int) =>
 X16 (y21,IntKind.i64.wrap (s17.2.1+1),())))
 (dZ (Sy.int IntKind.i64)
 (List.map (Sy.int IntKind.i64).enc s17.1)
 fun (y22:List Int) =>
 X16 (y22,IntKind.i64.wrap (s17.2.1+1),())))
 (dZ (Sy.int IntKind.i64)
 (List.map (Sy.int IntKind.i64).enc s17.1) fun (y23:List Int) =>
 X13 (y23,IntKind.i64.wrap (s14.2.1+1),())))
 (y15,0,()))
 (aO [(false,Sy.int IntKind.i64)]
 (nY [bI true cL a1]) fun (y24:Int) =>
 aC (!decide (y24=0))
 (aO
 [(false,Sy.int IntKind.i64),(false,Sy.int IntKind.i64)]
 (mE
 [T.v (Value.slice none 0 0),
 T.sl false (List.map (Sy.int IntKind.i64).enc s14.1)])
 fun (y25:iJ) =>
 aO
 [(false,Sy.int IntKind.i64),(false,Sy.int IntKind.i64)]
 (mE
 [T.v (Value.slice none 0 0),
 T.sl false (List.map (Sy.int IntKind.i64).enc a2)])
 fun (y26:iJ) =>
 aC (decide (y24=0))
 (aC (decide (y25.2=0))
 (aC (decide (y25.1=y11.2.1))
 (aC
 (decide
 ((↑(List.map Sy.str.enc y11.1).length:Int) =
 (↑(List.map aI.enc s6.2.1).length:Int)))
 (aC (!decide (y26.2=0))
 (aO [(false,Sy.bool)] (cE [])
 fun (y27:Bool)=>R (T.v (.bool y27)))
 (aC (decide (y11.2.1≤y26.1))
 (aO [(false,Sy.bool)] (cE [])
 fun (y28:Bool)=>R (T.v (.bool y28)))
 (R (T.v (.bool false)))))
 (R (T.v (.bool false))))
 (R (T.v (.bool false))))
 (R (T.v (.bool false))))
 (R (T.v (.bool false))))
 (b9 (Int×List (List Int)×PUnit)
 (fun (X29:Int×List (List Int)×PUnit→Prop)
 (s30:Int×List (List Int)×PUnit) =>
 aC
 (decide (s30.1<(↑(List.map aI.enc s6.2.1).length:Int)))
 (aT aI (List.map aI.enc s6.2.1) s30.1
 fun (y31:aM) =>
 mJ aI (List.map aI.enc s6.2.1)
 (Int.toNat s30.1) 0 fun (y32:aM) =>
 aO
 [(false,(Sy.int IntKind.i64).li),
 (false,Sy.int IntKind.i64)]
 (jM
 [bI true aI y32,bI true cL a1])
 fun (y33:List Int×Int) =>
 aC (!decide (y33.2=0))
 (aO
 [(false,Sy.int IntKind.i64),
 (false,Sy.int IntKind.i64)]
 (mE
 [T.v (Value.slice none 0 0),
 T.sl false
 (List.map (Sy.int IntKind.i64).enc s14.1)])
 fun (y34:iJ) =>
 aO
 [(false,Sy.int IntKind.i64),
 (false,Sy.int IntKind.i64)]
 (mE
 [T.v (Value.slice none 0 0),
 T.sl false (List.map (Sy.int IntKind.i64).enc a2)])
 fun (y35:iJ) =>
 aC (decide (y33.2=0))
 (aC (decide (y34.2=0))
 (aC (decide (y34.1=y11.2.1))
 (aC
 (decide
 ((↑(List.map Sy.str.enc y11.1).length:Int) =
 (↑(List.map aI.enc s6.2.1).length:Int)))
 (aC (!decide (y35.2=0))
 (aO [(false,Sy.bool)] (cE [])
 fun (y36:Bool)=>R (T.v (.bool y36)))
 (aC (decide (y11.2.1≤y35.1))
 (aO [(false,Sy.bool)] (cE [])
 fun (y37:Bool)=>R (T.v (.bool y37)))
 (R (T.v (.bool false)))))
 (R (T.v (.bool false))))
 (R (T.v (.bool false))))
 (R (T.v (.bool false))))
 (R (T.v (.bool false))))
 (c4
 (decide
 (((List.map (Sy.int IntKind.i64).li.enc
 s30.2.1).length +
 1) *
 24 ≤
 140737488355328) &&
 decide
 ((List.map (Sy.int IntKind.i64).li.enc
 s30.2.1).length +
 1 ≤
 140737488355328))
 (dZ (Sy.int IntKind.i64).li
 (List.map (Sy.int IntKind.i64).li.enc s30.2.1 ++
 [[T.sl false
 (List.map (Sy.int IntKind.i64).enc y33.1)]])
 fun (y38:List (List Int)) =>
 X29 (IntKind.i64.wrap (s30.1+1),y38,()))))
 (aO
 [(false,Sy.int IntKind.i64),(false,Sy.int IntKind.i64)]
 (mE
 [T.sl false (List.map (Sy.int IntKind.i64).li.enc s30.2.1),
 T.sl false (List.map (Sy.int IntKind.i64).enc s14.1)])
 fun (y39:iJ) =>
 aO
 [(false,Sy.int IntKind.i64),(false,Sy.int IntKind.i64)]
 (mE
 [T.sl false
 (List.map (Sy.int IntKind.i64).li.enc s30.2.1),
 T.sl false (List.map (Sy.int IntKind.i64).enc a2)])
 fun (y40:iJ) =>
 aC (decide (y39.2=0))
 (aC (decide (y39.1=y11.2.1))
 (aC
 (decide
 ((↑(List.map Sy.str.enc y11.1).length:Int) =
 (↑(List.map aI.enc s6.2.1).length:Int)))
 (aC (!decide (y40.2=0))
 (aO [(false,Sy.bool)] (cE [])
 fun (y41:Bool)=>R (T.v (.bool y41)))
 (aC (decide (y11.2.1≤y40.1))
 (aO [(false,Sy.bool)] (cE [])
 fun (y42:Bool)=>R (T.v (.bool y42)))
 (R (T.v (.bool false)))))
 (R (T.v (.bool false))))
 (R (T.v (.bool false))))
 (R (T.v (.bool false)))))
 (0,[],()))))
 ([],0,()))))
 (0,y4,())))))
abbrev pI:Sh:=[(false,aI.li),(true,cL),(false,(Sy.int IntKind.i64).li)]
def jY (x:List aM×bZ×List Int):Option T:=some (.v (.bool true))
noncomputable def wI:List T→Option T:=gS pI jY
theorem DX:UY Tryz.prog 4 wI jY (fR pI) oM:=UM (a1:=(false,aI.li)) (a2:=(true,cL)) (a3:=(false,(Sy.int IntKind.i64).li)) (sp:=jY) (F:=oM) (Hs:=GI) (f:=4) (k:=8) zL cT cX (aZ rfl) ⟨_,_,Tryz.func4,rfl⟩ rfl fun _ _ _ _=>by kernel_rfl
def gO (l:List aM) (k:Nat):List aM:=l.mapIdx fun i p=>if i<k then (zJ i,p.2) else p
theorem fN (l:List aM) (k:Nat):(gO l k).length=l.length:=by unfold gO;simp
theorem iW {l:List aM} {k i:Nat} (h:i<(gO l k).length):(gO l k)[i]=if i<k then (zJ i,(l[i]'(by rw[fN] at h;exact h)).2) else l[i]'(by rw[fN] at h;exact h):=by
 simp only[gO,List.getElem_mapIdx]
theorem IC (l:List aM):gO l 0=l:=by
 apply List.ext_getElem (fN l 0)
 intro i h1 h2
 rw[iW h1,if_neg (by omega)]
theorem LL {l:List aM} {k:Nat} (h:k<l.length) (h':k<(gO l k).length):(gO l k).set k (zJ k,((gO l k)[k]).2)=gO l (k+1):=by
 apply List.ext_getElem
 ·simp[fN]
 ·intro i h1 h2
  rw[List.getElem_set,iW h2]
  by_cases e:k=i
  ·subst e
   rw[if_pos rfl,if_pos (by omega),iW h',if_neg (by omega)]
  ·rw[if_neg e,iW (by rw[List.length_set] at h1;exact h1)]
   by_cases hi:i<k
   ·rw[if_pos hi,if_pos (by omega)]
   ·rw[if_neg hi,if_neg (by omega)]
theorem OH:∀ k:Fin 5,IntKind.u8.wrap (IntKind.i64.wrap (97+((k.val:Nat):Int)))=((97+k.val:Nat):Int):=by decide +kernel
theorem RG:∀ k:Fin 5,strOfNums [((97+k.val:Nat):Int)]=zJ k.val:=by decide +kernel
theorem H8 {l:List aM} {o:List Int} (h:∀ j∈o,0≤j∧j<(l.length:Int)):eG (gO l l.length) o=o.map fun j=>zJ j.toNat:=by
 unfold eG
 refine List.map_congr_left fun j hj=>?_
 have:=h j hj
 have hjn:j.toNat<(gO l l.length).length:=by rw[fN];omega
 rw[show (gO l l.length).getD j.toNat yK=(gO l l.length)[j.toNat] by simp[List.getD,hjn],iW hjn,if_pos (by omega)]
theorem KI {l:List aM} {x:bZ} (h:(dJ (l,x)).2=0):vZ x=0∧l.all yL=true∧(dJ (l,x)).1=l.map (rowOf x):=by
 unfold dJ at h ⊢
 dsimp only at h ⊢
 by_cases hc:vZ x=0
 ·rw[if_pos hc] at h ⊢
  by_cases hp:l.all yL=true
  ·rw[if_pos hp];exact ⟨hc,hp,rfl⟩
  ·rw[if_neg hp] at h;cases h
 ·rw[if_neg hc] at h;exact absurd h hc
theorem IF {l:List aM} {x:bZ} {steps:Int} (h:¬ (gQ (l,x,steps)).2.2=0):(gQ (l,x,steps)).1=[]∧(gQ (l,x,steps)).2.1=0:=by
 unfold gQ at h ⊢
 split
 ·exact ⟨rfl,rfl⟩
 ·rename_i h1
  rw[if_neg h1] at h
  split
  ·exact ⟨rfl,rfl⟩
  ·rename_i h2;rw[if_neg h2] at h;exact absurd rfl h
theorem LQ {l:List aM} {x:bZ} {steps:Int} (h:(gQ (l,x,steps)).2.2=0):(dJ (l,x)).2=0∧(bJ (dJ (l,x)).1 steps).2.2=0∧gQ (l,x,steps)=(eG l (bJ (dJ (l,x)).1 steps).1,(bJ (dJ (l,x)).1 steps).2.1,0):=by
 unfold gQ at h ⊢
 by_cases h1:(dJ (l,x)).2=0
 ·rw[if_neg (fun g=>g h1)] at h ⊢
  by_cases h2:(bJ (dJ (l,x)).1 steps).2.2=0
  ·rw[if_neg (fun g=>g h2)];exact ⟨h1,h2,rfl⟩
  ·rw[if_pos h2] at h;exact absurd h h2
 ·rw[if_pos h1] at h;exact absurd h h1
def kA (n:Nat) (s:ByteArray):List Int:=((List.range n).filter fun k=>decide (zJ k=s)).map fun k:Nat=>(k:Int)
theorem HO (n:Nat) (s:ByteArray):kA (n+1) s=kA n s++(if zJ n=s then [(n:Int)] else []):=by
 unfold kA
 rw[List.range_succ,List.filter_append,List.map_append]
 by_cases h:zJ n=s
 ·simp[h]
 ·simp[h]
theorem DF:aW Tryz.prog 4 wI:=DX fun l x q r h hb=>by
 cases h
 unfold oM
 rw[DK]
 simp only[lG]
 rw[yR]
 refine fK.2 ⟨fun _=>by rw[cV],fun _=>?_⟩
 refine bY (fun _=>by rw[cV]) fun hl=>?_
 refine bY (fun _=>by rw[cV]) fun hq=>?_
 rw[List.length_map] at hl hq
 have hl:l.length≤5:=by omega
 refine ⟨by
  rw[List.length_map,decide_eq_true (by omega),decide_eq_true (by omega),Bool.and_true,Bool.and_true,Bool.and_true]
  exact zO aI l,?_⟩
 rw[bX rfl]
 refine bE l.length (fun k s=>s=((k:Int),gO l k,())) (by rw[IC];rfl) ?_
 rintro X k s hk rfl hX
 dsimp only
 rw[List.length_map,fN]
 refine bY (fun hlt=>?_) fun hge=>?_
 ·have hlt:k<l.length:=by omega
  have hko:k<(gO l k).length:=by rw[fN];exact hlt
  rw[OH ⟨k,by omega⟩]
  rw[show ([[T.v (Value.int IntKind.u8 ((97+k:Nat):Int))]]:List (List T))=List.map (Sy.int .u8).enc [((97+k:Nat):Int)] from rfl,bX rfl,aP (r:=aI) hko,Int.toNat_natCast,F4 (r:=aI) hko]
  refine ⟨rfl,?_⟩
  rw[RG ⟨k,by omega⟩]
  have e:(List.map aI.enc (gO l k)).set k (aS (aI.enc (gO l k)[k]) 0 [T.v (.string (zJ k))])=List.map aI.enc (gO l (k+1)):=by
   rw[←LL hlt hko,List.map_set];rfl
  rw[e,bX rfl]
  exact hX _ hlt (by rw[cJ hlt (by omega)])
 have:k=l.length:=by omega
 subst this
 clear hX hge hk
 have hol:(gO l l.length).length=l.length:=fN l l.length
 have hog:∀ i (h:i<(gO l l.length).length),(gO l l.length)[i].1=zJ i:=fun i h=>by rw[iW h,if_pos (by omega)]
 generalize hown:gO l l.length=own at *
 have hplan:lR [T.sl false (List.map aI.enc own),bI true cL x,T.v (Value.int .i64 100000)]=some (Sh.enc fZ (gQ (own,x,100000))):=by
  rw[DL];unfold lH;dsimp only;rw[decide_eq_true (by omega)]
 rw[hplan,yS]
 refine l7 (fun h=>?_) fun h=>?_
 ·obtain ⟨e1,e2⟩:=IF h
  rw[e1,e2]
  refine bY (fun _=>?_) fun h=>absurd rfl h
  refine bY (fun _=>?_) fun h=>absurd rfl h
  rw[cV]
 obtain ⟨h1,h2,h3⟩:=LQ h
 obtain ⟨hc,hall,hrows⟩:=KI h1
 obtain ⟨g1,g2⟩:=E0 h1 h2 (by omega)
 have hlaw:=JL h2 q
 have hjl:=A5 h1
 rw[h3]
 dsimp only
 have hnames:eG own (bJ (dJ (own,x)).1 100000).1=(bJ (dJ (own,x)).1 100000).1.map fun j=>zJ j.toNat:=by
  rw[←hown];exact H8 (by rw[hown,←hol];exact g1)
 have hback:=uB (n:=l.length) hl (l:=(bJ (dJ (own,x)).1 100000).1) (by rw[←hol];exact g1)
 rw[hnames]
 generalize bJ (dJ (own,x)).1 100000=B at *
 generalize hnd:(B.1.map fun j=>zJ j.toNat)=nodes at *
 have hnl:nodes.length=B.1.length:=by rw[←hnd,List.length_map]
 have hB5:B.1.length≤5:=by rw[hlaw.2.1,hjl];omega
 refine bE nodes.length (fun i s=>s=((nodes.take i).flatMap (kA l.length),(i:Int),())) rfl ?_
 rintro X i s hi rfl hX
 dsimp only
 rw[List.length_map]
 have hsub:∀ i,i≤nodes.length→((nodes.take i).flatMap (kA l.length)).length≤25:=fun i hi=>by
  have h1:∀ s,(kA l.length s).length≤5:=fun s=>by
   unfold kA
   rw[List.length_map]
   have:=List.length_filter_le (fun k=>decide (zJ k=s)) (List.range l.length)
   rw[List.length_range] at this;omega
  have h2:∀ (m:List ByteArray),(m.flatMap (kA l.length)).length≤5*m.length:=fun m=>by
   induction m with
   | nil=>simp
   | cons a m ih=>rw[List.flatMap_cons,List.length_append,List.length_cons];have:=h1 a;omega
  have:=h2 (nodes.take i)
  rw[List.length_take] at this
  omega
 refine bY (fun hlti=>?_) fun hgei=>?_
 ·have hlti:i<nodes.length:=by omega
  rw[bX rfl]
  have hs:=hsub i (by omega)
  have hstep:(nodes.take (i+1)).flatMap (kA l.length)=(nodes.take i).flatMap (kA l.length)++kA l.length nodes[i]:=by
   rw[oI hlti,List.flatMap_append];simp
  have hX':=hX (_,(i+1:Nat),()) hlti (by rw[hstep])
  clear hX
  generalize (nodes.take i).flatMap (kA l.length)=acc at *
  refine bE l.length (fun j s=>s=(acc++kA j nodes[i],(j:Int),())) (by unfold kA;simp) ?_
  rintro Y j s hj rfl hY
  dsimp only
  try rw[List.length_map]
  try rw[hol]
  have hjl:(kA j nodes[i]).length≤j:=by
   unfold kA
   rw[List.length_map]
   have:=List.length_filter_le (fun k=>decide (zJ k=nodes[i])) (List.range j)
   rw[List.length_range] at this;omega
  refine bY (fun hltj=>?_) fun hgej=>?_
  ·have hltj:j<own.length:=by omega
   rw[aP (r:=aI) hltj,Int.toNat_natCast]
   refine ⟨aI.enc own[j],own[j].1,by rw[List.getElem?_map,List.getElem?_eq_getElem hltj];rfl,by rw[Sy.bD];exact (by decide:(1:Nat)≤6),rfl,?_⟩
   dsimp only
   rw[aP (r:=.str) hlti,hog j hltj,cJ (n:=l.length) (by omega) (by omega)]
   have hsc:=HO j nodes[i]
   refine bY (fun he=>?_) fun he=>?_
   ·rw[if_pos he] at hsc
    refine ⟨by simp only[List.length_map,List.length_append,Bool.and_eq_true,decide_eq_true_eq];omega,?_⟩
    rw[gC (r:=.int .i64) rfl (acc++kA j nodes[i]) _ (j:Int) rfl]
    exact hY _ (by omega) (by rw[hsc,List.append_assoc])
   ·rw[if_neg he,List.append_nil] at hsc
    rw[bX rfl]
    exact hY _ (by omega) (by rw[hsc])
  ·have:j=l.length:=by omega
   subst this
   rw[bX rfl,cJ hlti (by omega)]
   exact hX'
 have:i=nodes.length:=by omega
 subst this
 have hbest:(nodes.take nodes.length).flatMap (kA l.length)=B.1:=by rw[List.take_length];exact hback
 rw[hbest,tB]
 simp only[nG]
 rw[nE]
 refine l7 (fun h=>absurd hc h) fun _=>?_
 refine bE own.length (fun k s=>s=((k:Int),(own.take k).map (rowOf x),())) rfl ?_
 rintro Y k s hk rfl hY
 dsimp only
 try rw[List.length_map]
 refine bY (fun hltk=>?_) fun hgek=>?_
 ·have hltk:k<own.length:=by omega
  refine A9 (r:=aI) hltk ?_
  have hp:yL own[k]=true:=List.all_eq_true.1 hall _ (List.getElem_mem hltk)
  rw[wM,pB hc hp]
  dsimp only
  refine l7 (fun h=>absurd rfl h) fun _=>?_
  refine ⟨by simp only[List.length_map,List.length_take,Bool.and_eq_true,decide_eq_true_eq];omega,?_⟩
  rw[gC (r:=(Sy.int .i64).li) rfl ((own.take k).map (rowOf x)) _ (rowOf x own[k]) rfl]
  refine hY _ hltk ?_
  rw[cJ hltk (by omega),oI hltk,List.map_append]
  rfl
 have:k=own.length:=by omega
 subst this
 rw[List.take_length,←hrows,AY]
 simp only[pK]
 rw[uM,AY]
 simp only[pK]
 rw[uM,hlaw.1]
 dsimp only
 refine bY (fun _=>?_) fun h=>absurd rfl h
 refine bY (fun _=>?_) fun h=>absurd rfl h
 refine bY (fun _=>?_) fun h=>absurd (by
  have z1:=hlaw.2.1
  first|omega|(simp only[List.length_map];omega)) h
 refine l7 (fun _=>by rw[cV]) fun hm=>?_
 refine bY (fun _=>by rw[cV]) fun h=>absurd (hlaw.2.2.2.resolve_left fun g=>g hm) h
end Go.Pv
