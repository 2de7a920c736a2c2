/-
  The pure evaluator, part i: operations that make boxes or write into them.
-/
import Derived.Test.YtepoplfbgaoggaaGreatDoorOnewh
import Derived.Laws.AppendOwn
set_option linter.defProp false
set_option linter.unusedSimpArgs false
namespace Go.Pv
open Go Go.RowKit
section
variable {cx : Cx} {ρ : Nat -> Option Loc} {σ : Nat -> Option bL} {n : Nat} {w : World}
def Inv.drop (h:Inv cx ρ σ n w) (k:Nat) (hw:∀ x,σ k=some x->iN x=true):Inv cx ρ (cJ σ k none) n w/\bZ cx ρ ρ σ (cJ σ k none) w w:=by
 have hown:∀ b,¬ bY cx ρ σ b->¬ bY cx ρ (cJ σ k none) b:=by
  intro b hn hc;rcases hc with hc|⟨i,l',y,h1,h2,h3⟩
  ·exact hn (.inl hc)
  ·by_cases e:i=k
   ·subst e;simp at h1
   ·rw[bU _ _ e] at h1;exact hn (.inr ⟨i,l',y,h1,h2,h3⟩)
 have hk:bZ cx ρ ρ σ (cJ σ k none) w w:=⟨λ_ _ _=>rfl,al _,λb _=>hown b,λ_ _ h=>h,λ_ _ h=>h,λi y hi hy=>⟨y,by rw[bU _ _ (λe=>by subst e;rw[hw y hi] at hy;cases hy)];exact hi,hy⟩⟩
 have old:∀ i y,cJ σ k none i=some y->σ i=some y:=λi y hi=>by
  by_cases e:i=k
  ·subst e;simp at hi
  ·rw[bU _ _ e] at hi;exact hi
 refine ⟨⟨λi y hi=>?_,λi i' y y' m m' h1 h2 h3 h4 hL hL' he=>h.inj i i' y y' m m' (old _ _ h1) (old _ _ h2) h3 h4 hL hL' he,h.new,λi y m hi hm=>h.uQ i y m (old _ _ hi) hm,h.below,h.nC,h.low⟩,hk⟩;obtain ⟨m,hm,h1⟩:=h.boxes i y (old _ _ hi);exact ⟨m,hm,h1.mono hk.cell hk.size hk.own hk.loc λ_=>rfl⟩
variable {k₀:Nat}{l:Loc}{w':World}
def Inv.move (h:Inv cx ρ σ n w) {k:Nat} {x₀ x:bL} {l2:Loc} (h0:σ k₀=some x₀) (hl:ρ k₀=some l) (hL:0<l.L+l.C) (hw:iN x₀=true) (hk:n<=k) (hb2:l2.bV=l.bV) (hL2:0<l2.L+l2.C) (o:Obj)
  (hos:w'.os=w.os) (htp:w'.tape=w.tape) (hout:w'.output=w.output) (hsz:w'.heap.size=w.heap.size) (hat:w'.heap[l.bV]? = some o) (hother:∀ b,b≠l.bV->w'.heap[b]? = w.heap[b]?) (hsh:∀ y,w.shape? l.bV=some y->w'.shape? l.bV=some y)
  (hx:gC w (bY cx ρ σ) ρ l2 o x) :
  Inv cx (cJ ρ k (some l2)) (cJ (cJ σ k₀ none) k (some x)) (k+1) w'/\bZ cx ρ (cJ ρ k (some l2)) σ (cJ (cJ σ k₀ none) k (some x)) w w':=by
 have hne:∀ i l',ρ i=some l'->i≠k:=λi l' hi e=>by have:=(h.new i l' hi).1;omega
 have hρ:∀ i l',ρ i=some l'->cJ ρ k (some l2) i=some l':=λi l' hi=>by rw[bU _ _ (hne i l' hi)];exact hi
 have old:∀ i y,i≠k->cJ (cJ σ k₀ none) k (some x) i=some y->i≠k₀/\σ i=some y:=λi y hi h=>by
  rw[bU _ _ hi] at h;by_cases e:i=k₀
  ·subst e;simp at h
  ·rw[bU _ _ e] at h;exact ⟨e,h⟩
 have oldρ:∀ i m,i≠k->cJ ρ k (some l2) i=some m->ρ i=some m:=λi m hi h=>by rw[bU _ _ hi] at h;exact h
 have hmine:bY cx ρ σ l.bV:=.inr ⟨k₀,l,x₀,h0,hl,hL,rfl⟩;have hown:∀ b,¬ bY cx ρ σ b->¬ bY cx (cJ ρ k (some l2)) (cJ (cJ σ k₀ none) k (some x)) b:=by
  intro b hn hc;rcases hc with hc|⟨i,l',y,h1,h2,h3,h4⟩
  ·exact hn (.inl hc)
  ·by_cases e:i=k
   ·subst e;simp at h2;subst h2;rw[hb2] at h4;exact hn (h4 ▸ hmine)
   ·exact hn (.inr ⟨i,l',y,(old i y e h1).2,oldρ i l' e h2,h3,h4⟩)
 have hc:∀ b,¬ bY cx ρ σ b->b<w.heap.size->w'.heap[b]? = w.heap[b]? := λb hn _=>hother b λe=>hn (e ▸ hmine);have hz:w.heap.size<=w'.heap.size:=by omega
 have hkp:bZ cx ρ (cJ ρ k (some l2)) σ (cJ (cJ σ k₀ none) k (some x)) w w':=⟨hc,hz,λb _=>hown b,hρ,AAW hother hsh,λi y hi hy=>⟨y,by
  have e1:i≠k:=λe=>by obtain ⟨l',g,_⟩:=h.boxes i y hi;exact hne i l' g e
  have e2:i≠k₀:=λe=>by subst e;rw[h0] at hi;cases hi;rw[hw] at hy;cases hy
  rw[bU _ _ e1,bU _ _ e2];exact hi,hy⟩⟩
 refine ⟨⟨λi y hi=>?_,λi i' y y' m m' h1 h2 h3 h4 g1 g2 he=>?_,λi m hm=>?_,λi y m hi hm hLm hwy=>?_,?_,h.nC,h.low⟩,hkp⟩
 ·by_cases e:i=k
  ·subst e;simp at hi;subst hi;exact ⟨l2,by simp,λ_=>⟨o,by rw[hb2];exact hat,hx.mono hkp.cell hkp.size hkp.own hkp.loc⟩,λh0=>by omega⟩
  ·obtain ⟨e0,hs⟩:=old i y e hi;obtain ⟨m,hm,h1⟩:=h.boxes i y hs;exact ⟨m,hρ _ _ hm,h1.mono hkp.cell hkp.size hkp.own hkp.loc λhLm=>hother _ λeq=>e0 (h.inj i k₀ y x₀ m l hs h0 hm hl hLm hL eq)⟩
 ·by_cases e:i=k
  ·by_cases e':i'=k
   ·omega
   ·subst e;simp at h3;subst h3;obtain ⟨e0,hs⟩:=old i' y' e' h2;rw[hb2] at he;exact absurd (h.inj k₀ i' x₀ y' l m' h0 hs hl (oldρ _ _ e' h4) hL g2 he).symm e0
  ·obtain ⟨e0,hs⟩:=old i y e h1;by_cases e':i'=k
   ·subst e';simp at h4;subst h4;rw[hb2] at he;exact absurd (h.inj i k₀ y x₀ m l hs h0 (oldρ _ _ e h3) hl g1 hL he) e0
   ·exact h.inj i i' y y' m m' hs (old i' y' e' h2).2 (oldρ _ _ e h3) (oldρ _ _ e' h4) g1 g2 he
 ·by_cases e:i=k
  ·subst e;simp at hm;subst hm;have:=(h.new k₀ l hl).2 hL;exact ⟨by omega,λ_=>by rw[hb2];exact ⟨by omega,this.2⟩⟩
  ·have h1:=h.new i m (oldρ _ _ e hm);exact ⟨by omega,λg=>⟨by have:=(h1.2 g).1;omega,(h1.2 g).2⟩⟩
 ·by_cases e:i=k
  ·subst e;simp at hm;subst hm;rw[hb2];exact h.uQ k₀ x₀ l h0 hl hL hw
  ·exact h.uQ i y m (old i y e hi).2 (oldρ _ _ e hm) hLm hwy
 ·refine h.below.trans ⟨hos,htp,hout,by omega,λb hb ha=>hother b ?_⟩;rcases h.uQ k₀ x₀ l h0 hl hL hw with h1|h1
  ·omega
  ·intro e;subst e;exact ha h1
def Inv.BIX (h:Inv cx ρ σ n w) {k:Nat} {ro:Bool} {z:Nat} (hL:l.L+l.C=0) (hk:n<=k) (hw:∀ x,σ k₀=some x->iN x=true) :
  Inv cx (cJ ρ k (some l)) (cJ (cJ σ k₀ none) k (some (.arr ro z []))) (k+1) w/\bZ cx ρ (cJ ρ k (some l)) σ (cJ (cJ σ k₀ none) k (some (.arr ro z []))) w w:=by
 obtain ⟨d1,d2⟩:=h.drop k₀ hw;obtain ⟨g1,g2⟩:=d1.oT hk l (.arr ro z []) (Below.refl _ _) (λh=>by omega) ⟨λh=>by omega,λ_=>⟨ro,z,rfl⟩⟩;exact ⟨g1,d2.trans' g2⟩
end
def uW (cs:List D):Option bL:=if 0<cs.length/\cs.all D.leaf=true then some (.rows false [cs]) else none
section
variable {cx : Cx} {ρ : Nat -> Option Loc} {σ : Nat -> Option bL} {n : Nat} {w : World}
variable {cs:List D}
def PB (hI:Inv cx ρ σ n w) {k n':Nat} (hn':n<=n') (hk:k<n') (hne:∀ i l',ρ i=some l'->i≠k) {vs:Array Value} {x:bL} (hcs:dO (Rd w (bY cx ρ σ) ρ) cs vs) (hx:uW cs=some x) (e:TypeId) :
  ∃ ρ',(∀ i,i≠k->ρ' i=ρ i)/\(newRow e vs).run cx.P w = .ok ⟨w.heap.size,0,none⟩ (w.alloc (.cells vs e))/\Inv cx ρ' (cJ σ k (some x)) n' (w.alloc (.cells vs e))/\bZ cx ρ ρ' σ (cJ σ k (some x)) w (w.alloc (.cells vs e)) /\
   Rd (w.alloc (.cells vs e)) (bY cx ρ' (cJ σ k (some x))) ρ' (.ptr k 0 0) (.pointer (some ⟨w.heap.size,0,none⟩)):=by
 unfold uW at hx;split at hx
 ·rename_i hok;cases hx
  let l:Loc:=⟨w.heap.size,cs.length,1,e,1⟩
  have hbel:Below w.heap.size w (w.alloc (.cells vs e)):=(Below.refl _ _).alloc (al _) _;have hb:gC w (bY cx ρ σ) ρ l (.cells vs e) (.rows false [cs]):=by
   refine .rows _ [cs] vs rfl (λ_ _ _ e=>by cases e) ⟨by simp[l,hcs.1],hok.1,by simp,by simp[l],by simp[l],by simp[l],λi j hi hj=>?_,λp v hp=>?_⟩
   ·simp at hi;obtain ⟨v,h1,h2⟩:=hcs.get? (i:=j) (d:=cs[j]'(by simpa using hj)) (by simp at hj;simp[hj]);simp_all
   ·have hp':p<cs.length:=by rw[<-hcs.1];exact (Array.getElem?_eq_some_iff.1 hp).1
    have h2:=hcs.2 p hp';rw[Array.getD_eq_getD_getElem?,hp] at h2;exact h2.leaf (List.all_eq_true.1 hok.2 _ (ak hp'))
  obtain ⟨h1,h2⟩:=hI.AVI hn' hk hne l (.rows false [cs]) hbel (λ_=>⟨al _,by show w.heap.size<(w.alloc _).heap.size;simp⟩) ⟨λ_=>⟨.cells vs e,by show (w.heap.push _)[w.heap.size]? = _;simp,hb.mono (λb _ hlt=>hbel.block b hlt) hbel.size (λb hb hn hc=>by
    rcases hc with hc|⟨_,rfl⟩
    ·simp_all
    ·exact Nat.lt_irrefl _ hb) (λi l' hi=>by rw[bU _ _ (hne i l' hi)];exact hi)⟩,λh=>by simp[l] at h⟩
  refine ⟨_,λi hi=>bU _ _ hi,rfl,h1,h2,?_⟩;have:=Rd.ptr (w:=w.alloc (.cells vs e)) (own:=bY cx (cJ ρ k (some l)) (cJ σ k (some (.rows false [cs])))) (ρ:=cJ ρ k (some l)) k 0 0 l (by simp);simpa [l] using this
 ·cases hx
def VH (hI:Inv cx ρ σ n w) {k:Nat} (hk:n<=k) {vs:Array Value} {x:bL} (hcs:dO (Rd w (bY cx ρ σ) ρ) cs vs) (hx:uW cs=some x) (e:TypeId) :
  ∃ ρ',(newRow e vs).run cx.P w = .ok ⟨w.heap.size,0,none⟩ (w.alloc (.cells vs e))/\Inv cx ρ' (cJ σ k (some x)) (k+1) (w.alloc (.cells vs e))/\bZ cx ρ ρ' σ (cJ σ k (some x)) w (w.alloc (.cells vs e)) /\
   Rd (w.alloc (.cells vs e)) (bY cx ρ' (cJ σ k (some x))) ρ' (.ptr k 0 0) (.pointer (some ⟨w.heap.size,0,none⟩)):=by
 obtain ⟨ρ',_,h⟩:=PB hI (n':=k+1) (by omega) (Nat.lt_succ_self k) (λi l' hi e=>by have:=(hI.new i l' hi).1;omega) hcs hx e;exact ⟨ρ',h⟩
variable {w':World}
def AAX {w:World} {k:Nat} {c c':Array Value} {e:TypeId} {f f':Nat×Nat} (h:w.heap[k]? = some (.cells c e f)) (h':w'.heap[k]? = some (.cells c' e f')) (hs:c'.size=c.size):∀ y,w.shape? k=some y->w'.shape? k=some y:=by
 intro y hy;simp only[World.shape?,h,h',hs] at hy ⊢;exact hy
def NW {w:World} {k:Nat} {o:Obj} (h:w.heap[k]? = some o) (ho:∀ c e f,o≠.cells c e f):∀ y,w.shape? k=some y->w'.shape? k=some y:=by
 intro y hy;simp only[World.shape?,h] at hy;simp_all
def lV (P:Program) (σ:Nat->Option bL) (t:TypeId) (a v:D):Option (Nat->Option bL) :=
 match a with
 | .ptr k i j =>
  match σ k,tsz? P t with
  | some (.rows false rs),some z =>
   match rs[i]? with
   | some r=>if 0<z/\v.cells.length=z/\j+z<=r.length/\v.cells.all D.leaf=true then some (cJ σ k (some (.rows false (rs.set i (b6 r j v.cells))))) else none
   | none=>none
  | some (.arr false za rows),some z =>
   match rows[i]?,qU v.cells with
   | some r,some ts=>if 0<z/\ts.length=z/\j+z<=r.length/\ts.all T.leaf=true then some (cJ σ k (some (.arr false za (rows.set i (b6 r j ts))))) else none
   | _,_=>none
  | _,_=>none
 | _=>none
def XL {α β:Type} (f:α->β):∀ (xs:List α) (cells:List α) (off:Nat),(b6 cells off xs).map f=b6 (cells.map f) off (xs.map f)
 | [],cells,off=>rfl
 | x::xs,cells,off=>by simp only[b6,List.map_cons];rw[XL f xs];simp[List.map_set]
def A3G (rows:List (List T)) (i:Nat) (r:List T):bK (rows.set i r)=(bK rows).set i (r.map .p):=by simp[bK,List.map_set]
variable {sz:Nat}
def kR {i m C j:Nat} (hi:i<C) (hj:j+m<=sz):i*sz+j+m<=C*sz:=by
 have:(i+1)*sz<=C*sz:=Nat.mul_le_mul_right _ hi;rw[Nat.add_mul,Nat.one_mul] at this;omega
def BP9 {i i' j j':Nat} (hj:j<sz) (hj':j'<sz) (hne:i≠i'):i*sz+j≠i'*sz+j':=by
 rcases Nat.lt_or_gt_of_ne hne with h|h
 ·have:(i+1)*sz<=i'*sz:=Nat.mul_le_mul_right _ h;rw[Nat.add_mul,Nat.one_mul] at this;omega
 ·have:(i'+1)*sz<=i*sz:=Nat.mul_le_mul_right _ h;rw[Nat.add_mul,Nat.one_mul] at this;omega
variable {y:Value}{l:Loc}
def XM (hI:Inv cx ρ σ n w) {t:TypeId} {d:D} {k i j z:Nat} {xb xb':bL} {rs:List (List D)} {r:List D} (hσ:σ k=some xb) (hxb:fJ xb=some rs) (hr:rs[i]? = some r) (hl:ρ k=some l) (hz:tsz? cx.P t=some z)
  (hd:Rd w (bY cx ρ σ) ρ d y) (hz0:0<z) (hlen:d.cells.length=z) (hfit:j+z<=r.length) (hleaf:d.cells.all D.leaf=true) (hxb':fJ xb'=some (rs.set i (b6 r j d.cells))) (hza:∀ ro za rows,xb' = .arr ro za rows->∃ ro' rows',xb = .arr ro' za rows') (hwr:iN xb=true) :
  ∃ w',(Instr.storeAt t (.pointer (some ⟨l.bV,i*l.sz+j,none⟩)) y).run cx.P w = .ok () w'/\Inv cx ρ (cJ σ k (some xb')) n w'/\bZ cx ρ ρ σ (cJ σ k (some xb')) w w':=by
 have hk:(σ k).bind fJ=some rs:=by rw[hσ];exact hxb
 obtain ⟨l',c,hl',hL,hheap,hb⟩:=hI.rows hk (l9 hr);rw[hl] at hl';cases hl';have hc:=hd.cells (λe=>by rw[e] at hlen;simp at hlen;omega);obtain ⟨hi,hre⟩:=List.getElem?_eq_some_iff.1 hr;have hrl:r.length=l.sz:=hb.width r (hre ▸ ak hi);have hvl:y.cells.toList.length=z:=by simp[hc.1,hlen]
 have hbound:i*l.sz+j+z<=c.size:=by rw[hb.size];exact kR (by have:=hb.len;omega) (by omega)
 have hone:∀ v∈y.cells.toList,v.oneCell'=true:=by
  intro v hv;obtain ⟨p,hp,rfl⟩:=List.mem_iff_getElem.1 hv;have hp':p<d.cells.length:=by omega
  have:=hc.2 p hp';have hps:p<y.cells.size:=by simpa using hp
  simp[Array.getD_eq_getD_getElem?,hps] at this;exact this.leaf (List.all_eq_true.1 hleaf _ (ak hp'))
 have hrun:=run_storeCells_at cx.P l.bV (i*l.sz+j) l.e y.cells.toList 0 c w hheap (by rw[hvl];omega) hone;have hspl:c.toList.take (i*l.sz+j+0)++y.cells.toList++c.toList.drop (i*l.sz+j+0+y.cells.toList.length)=b6 c.toList (i*l.sz+j) y.cells.toList:=by
  apply List.ext_getElem?;intro p;rw[mR _ _ _ _ (by rw[hvl];simpa using hbound)];simp only[Nat.add_zero,hvl];by_cases h1:p<i*l.sz+j
  ·rw[if_neg (by omega),List.append_assoc,List.getElem?_append_left (by simp;omega),List.getElem?_take,if_pos h1]
  ·by_cases h2:p<i*l.sz+j+z
   ·rw[if_pos (by omega),List.append_assoc,List.getElem?_append_right (by simp;omega),List.getElem?_append_left (by simp at hvl ⊢;omega)]
    congr 1
    simp;omega
   ·rw[if_neg (by omega),List.append_assoc,List.getElem?_append_right (by simp;omega),List.getElem?_append_right (by simp at hvl ⊢;omega),List.getElem?_drop]
    congr 1
    simp at hvl ⊢;omega
 rw[hspl] at hrun;refine ⟨w.setRow l.bV (b6 c.toList (i*l.sz+j) y.cells.toList).toArray,?_,?_⟩
 ·have hys:y.cells.size=z:=by rw[hc.1];exact hlen
  simp[Instr.storeAt,Instr.sureAddr,storeVar,hys,run_sizeOf? w hz,hrun]
 ·refine hI.AF0 (al _) hσ hl hL hwr (.cells (b6 c.toList (i*l.sz+j) y.cells.toList).toArray l.e) _ rfl rfl rfl (by simp) (setRow_heap w l.bV c _ l.e (0,0) hheap) (λb hne=>setRow_other w l.bV b _ hne) (AAX hheap (setRow_heap w l.bV c _ l.e (0,0) hheap) (by simp)) ?_;have hcell:∀ p,(b6 c.toList (i*l.sz+j) y.cells.toList).toArray[p]? = if i*l.sz+j<=p/\p<i*l.sz+j+z then y.cells[p-(i*l.sz+j)]? else c[p]? := by
   intro p;simp only[List.getElem?_toArray];rw[mR _ _ _ _ (by rw[hvl];simpa using hbound),hvl];simp
  refine .rows _ _ _ hxb' (λro za rows e=>by obtain ⟨ro',rows',e'⟩:=hza ro za rows e;exact hI.BMH (hσ.trans (congrArg some e')) hl hL) ⟨by simp[hb.size],hb.pos,by simpa using hb.small,by simpa using hb.len,by simpa using hb.uX,λr' hr'=>?_,λi' j' hi' hj'=>?_,λp v hp=>?_⟩
  ·rcases List.mem_or_eq_of_mem_set hr' with h1|h1
   ·exact hb.width _ h1
   ·simp_all
  ·simp at hi';rw[hcell];by_cases e:i=i'
   ·subst e;simp at hj';have hsg:=mR d.cells r j j' (by omega);rw[List.getElem?_eq_getElem (by simpa using hj')] at hsg;by_cases h1:j<=j'/\j'<j+z
    ·rw[if_pos (by omega)];rw[if_pos (by omega),List.getElem?_eq_getElem (by omega)] at hsg;obtain ⟨v,g1,g2⟩:=hc.get? (i:=j'-j) (d:=d.cells[j'-j]'(by omega)) (by simp[show j'-j<d.cells.length by omega]);refine ⟨v,by rw[show i*l.sz+j'-(i*l.sz+j)=j'-j by omega];exact g1,?_⟩;simp_all
    ·rw[if_neg (by omega)];rw[if_neg (by omega),List.getElem?_eq_getElem hj'] at hsg;obtain ⟨v,g1,g2⟩:=hb.cell i j' hi' (by rw[hre];exact hj');simp_all
   ·simp only[List.getElem_set_ne e] at hj' ⊢;have hw':=hb.width _ (ak hi');have hjs:j'<l.sz:=by omega
    rw[if_neg]
    ·exact hb.cell i' j' hi' hj'
    ·intro hcon;have:i*l.sz+(j+(i'*l.sz+j'-(i*l.sz+j)))≠i'*l.sz+j':=BP9 (by omega) hjs e;omega
  ·rw[hcell] at hp;split at hp
   ·exact hone v (by rw[Array.mem_toList_iff];exact Array.mem_of_getElem? hp)
   ·exact hb.one p v hp
def AA4 (hI:Inv cx ρ σ n w) {t:TypeId} {a d:D} {x:Value} {σ':Nat->Option bL} (ha:Rd w (bY cx ρ σ) ρ a x) (hd:Rd w (bY cx ρ σ) ρ d y) (h:lV cx.P σ t a d=some σ') :
  ∃ w',(Instr.storeAt t x y).run cx.P w = .ok () w'/\Inv cx ρ σ' n w'/\bZ cx ρ ρ σ σ' w w':=by
 unfold lV at h;split at h
 ·cases ha with
  | ptr _ _ _ l hl =>
  split at h
  ·rename_i _ _ rs z hk hz;split at h
   ·rename_i r hr;split at h
    ·rename_i hok;cases h;exact XM hI hk rfl hr hl hz hd hok.1 hok.2.1 hok.2.2.1 hok.2.2.2 rfl (λ_ _ _ e=>by cases e) rfl
    ·cases h
   ·cases h
  ·rename_i _ _ za rows z hk hz;split at h
   ·rename_i r ts hr hts;split at h
    ·rename_i hok;cases h;have hc:=mT hts;refine XM (rs:=bK rows) (r:=r.map .p) hI hk rfl (by rw[pRows_get?,hr];rfl) hl hz hd hok.1 (by rw[hc];simpa using hok.2.1) (by simpa using hok.2.2.1) ?_ ?_ (λ_ _ _ e=>by cases e;exact ⟨_,_,rfl⟩) rfl
     ·rw[hc];simpa [List.all_map,Function.comp_def,D.leaf] using hok.2.2.2
     ·rw[hc,<-XL,<-A3G];rfl
    ·cases h
   ·cases h
  ·cases h
 ·cases h
end
end Go.Pv
