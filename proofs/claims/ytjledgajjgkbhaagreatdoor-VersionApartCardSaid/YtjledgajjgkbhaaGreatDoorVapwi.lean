/-
  The pure evaluator, part i: operations that make boxes or write into them.
-/
import Derived.Test.YtjledgajjgkbhaaGreatDoorVapwh
import Derived.Laws.AppendOwn
set_option linter.defProp false
set_option linter.unusedSimpArgs false
namespace Go.Pv
open Go Go.RowKit
section
variable {cx : Cx} {ρ : Nat → Option Loc} {σ : Nat → Option bB} {n : Nat} {w : World}
theorem Inv.drop (h:Inv cx ρ σ n w) (k:Nat) (hw:∀ x,σ k=some x→gM x=true):Inv cx ρ (bY σ k none) n w∧bO cx ρ ρ σ (bY σ k none) w w:=by
 have hown:∀ b,¬ bL cx ρ σ b→¬ bL cx ρ (bY σ k none) b:=by
  intro b hn hc
  rcases hc with hc|⟨i,l',y,h1,h2,h3⟩
  ·exact hn (.inl hc)
  ·by_cases e:i=k
   ·subst e;simp at h1
   ·rw[bK _ _ e] at h1;exact hn (.inr ⟨i,l',y,h1,h2,h3⟩)
 have hk:bO cx ρ ρ σ (bY σ k none) w w:=⟨fun _ _ _=>rfl,Nat.le_refl _,fun b _=>hown b,fun _ _ h=>h,fun _ _ h=>h,fun i y hi hy=>⟨y,by rw[bK _ _ (fun e=>by subst e;rw[hw y hi] at hy;cases hy)];exact hi,hy⟩⟩
 have old:∀ i y,bY σ k none i=some y→σ i=some y:=fun i y hi=>by
  by_cases e:i=k
  ·subst e;simp at hi
  ·rw[bK _ _ e] at hi;exact hi
 refine ⟨⟨fun i y hi=>?_,fun i i' y y' m m' h1 h2 h3 h4 hL hL' he=>h.inj i i' y y' m m' (old _ _ h1) (old _ _ h2) h3 h4 hL hL' he,h.new,fun i y m hi hm=>h.q7 i y m (old _ _ hi) hm,h.below,h.jY,h.low⟩,hk⟩
 obtain ⟨m,hm,h1⟩:=h.boxes i y (old _ _ hi)
 exact ⟨m,hm,h1.mono hk.cell hk.size hk.own hk.loc fun _=>rfl⟩
theorem Inv.move (h:Inv cx ρ σ n w) {k₀ k:Nat} {x₀ x:bB} {l l2:Loc} {w':World} (h0:σ k₀=some x₀) (hl:ρ k₀=some l) (hL:0<l.L+l.C) (hw:gM x₀=true) (hk:n≤k) (hb2:l2.bJ=l.bJ) (hL2:0<l2.L+l2.C) (o:Obj)
  (hos:w'.os=w.os) (htp:w'.tape=w.tape) (hout:w'.output=w.output) (hsz:w'.heap.size=w.heap.size) (hat:w'.heap[l.bJ]? = some o) (hother:∀ b,b≠l.bJ→w'.heap[b]? = w.heap[b]?) (hsh:∀ y,w.shape? l.bJ=some y→w'.shape? l.bJ=some y)
  (hx:dV w (bL cx ρ σ) ρ l2 o x) :
  Inv cx (bY ρ k (some l2)) (bY (bY σ k₀ none) k (some x)) (k+1) w'∧bO cx ρ (bY ρ k (some l2)) σ (bY (bY σ k₀ none) k (some x)) w w':=by
 have hne:∀ i l',ρ i=some l'→i≠k:=fun i l' hi e=>by have:=(h.new i l' hi).1;omega
 have hρ:∀ i l',ρ i=some l'→bY ρ k (some l2) i=some l':=fun i l' hi=>by rw[bK _ _ (hne i l' hi)];exact hi
 have old:∀ i y,i≠k→bY (bY σ k₀ none) k (some x) i=some y→i≠k₀∧σ i=some y:=fun i y hi h=>by
  rw[bK _ _ hi] at h
  by_cases e:i=k₀
  ·subst e;simp at h
  ·rw[bK _ _ e] at h;exact ⟨e,h⟩
 have oldρ:∀ i m,i≠k→bY ρ k (some l2) i=some m→ρ i=some m:=fun i m hi h=>by rw[bK _ _ hi] at h;exact h
 have hmine:bL cx ρ σ l.bJ:=.inr ⟨k₀,l,x₀,h0,hl,hL,rfl⟩
 have hown:∀ b,¬ bL cx ρ σ b→¬ bL cx (bY ρ k (some l2)) (bY (bY σ k₀ none) k (some x)) b:=by
  intro b hn hc
  rcases hc with hc|⟨i,l',y,h1,h2,h3,h4⟩
  ·exact hn (.inl hc)
  ·by_cases e:i=k
   ·subst e;simp at h2;subst h2;rw[hb2] at h4;exact hn (h4 ▸ hmine)
   ·exact hn (.inr ⟨i,l',y,(old i y e h1).2,oldρ i l' e h2,h3,h4⟩)
 have hc:∀ b,¬ bL cx ρ σ b→b<w.heap.size→w'.heap[b]? = w.heap[b]? := fun b hn _=>hother b fun e=>hn (e ▸ hmine)
 have hz:w.heap.size≤w'.heap.size:=by omega
 have hkp:bO cx ρ (bY ρ k (some l2)) σ (bY (bY σ k₀ none) k (some x)) w w':=⟨hc,hz,fun b _=>hown b,hρ,TZ hother hsh,fun i y hi hy=>⟨y,by
  have e1:i≠k:=fun e=>by obtain ⟨l',g,_⟩:=h.boxes i y hi;exact hne i l' g e
  have e2:i≠k₀:=fun e=>by subst e;rw[h0] at hi;cases hi;rw[hw] at hy;cases hy
  rw[bK _ _ e1,bK _ _ e2];exact hi,hy⟩⟩
 refine ⟨⟨fun i y hi=>?_,fun i i' y y' m m' h1 h2 h3 h4 g1 g2 he=>?_,fun i m hm=>?_,fun i y m hi hm hLm hwy=>?_,?_,h.jY,h.low⟩,hkp⟩
 ·by_cases e:i=k
  ·subst e
   simp at hi
   subst hi
   exact ⟨l2,by simp,fun _=>⟨o,by rw[hb2];exact hat,hx.mono hkp.cell hkp.size hkp.own hkp.loc⟩,fun h0=>by omega⟩
  ·obtain ⟨e0,hs⟩:=old i y e hi
   obtain ⟨m,hm,h1⟩:=h.boxes i y hs
   exact ⟨m,hρ _ _ hm,h1.mono hkp.cell hkp.size hkp.own hkp.loc fun hLm=>hother _ fun eq=>e0 (h.inj i k₀ y x₀ m l hs h0 hm hl hLm hL eq)⟩
 ·by_cases e:i=k
  ·by_cases e':i'=k
   ·omega
   ·subst e
    simp at h3
    subst h3
    obtain ⟨e0,hs⟩:=old i' y' e' h2
    rw[hb2] at he
    exact absurd (h.inj k₀ i' x₀ y' l m' h0 hs hl (oldρ _ _ e' h4) hL g2 he).symm e0
  ·obtain ⟨e0,hs⟩:=old i y e h1
   by_cases e':i'=k
   ·subst e'
    simp at h4
    subst h4
    rw[hb2] at he
    exact absurd (h.inj i k₀ y x₀ m l hs h0 (oldρ _ _ e h3) hl g1 hL he) e0
   ·exact h.inj i i' y y' m m' hs (old i' y' e' h2).2 (oldρ _ _ e h3) (oldρ _ _ e' h4) g1 g2 he
 ·by_cases e:i=k
  ·subst e
   simp at hm
   subst hm
   have:=(h.new k₀ l hl).2 hL
   exact ⟨by omega,fun _=>by rw[hb2];exact ⟨by omega,this.2⟩⟩
  ·have h1:=h.new i m (oldρ _ _ e hm)
   exact ⟨by omega,fun g=>⟨by have:=(h1.2 g).1;omega,(h1.2 g).2⟩⟩
 ·by_cases e:i=k
  ·subst e
   simp at hm
   subst hm
   rw[hb2]
   exact h.q7 k₀ x₀ l h0 hl hL hw
  ·exact h.q7 i y m (old i y e hi).2 (oldρ _ _ e hm) hLm hwy
 ·refine h.below.trans ⟨hos,htp,hout,by omega,fun b hb ha=>hother b ?_⟩
  rcases h.q7 k₀ x₀ l h0 hl hL hw with h1|h1
  ·omega
  ·intro e;subst e;exact ha h1
theorem Inv.AMD (h:Inv cx ρ σ n w) {k₀ k:Nat} {ro:Bool} {z:Nat} {l:Loc} (hL:l.L+l.C=0) (hk:n≤k) (hw:∀ x,σ k₀=some x→gM x=true) :
  Inv cx (bY ρ k (some l)) (bY (bY σ k₀ none) k (some (.arr ro z []))) (k+1) w∧bO cx ρ (bY ρ k (some l)) σ (bY (bY σ k₀ none) k (some (.arr ro z []))) w w:=by
 obtain ⟨d1,d2⟩:=h.drop k₀ hw
 obtain ⟨g1,g2⟩:=d1.lW hk l (.arr ro z []) (Below.refl _ _) (fun h=>by omega) ⟨fun h=>by omega,fun _=>⟨ro,z,rfl⟩⟩
 exact ⟨g1,d2.trans' g2⟩
end
def sL (cs:List D):Option bB:=if 0<cs.length∧cs.all D.leaf=true then some (.rows false [cs]) else none
section
variable {cx : Cx} {ρ : Nat → Option Loc} {σ : Nat → Option bB} {n : Nat} {w : World}
theorem JZ (hI:Inv cx ρ σ n w) {k n':Nat} (hn':n≤n') (hk:k<n') (hne:∀ i l',ρ i=some l'→i≠k) {cs:List D} {vs:Array Value} {x:bB} (hcs:cZ (Rd w (bL cx ρ σ) ρ) cs vs) (hx:sL cs=some x) (e:TypeId) :
  ∃ ρ',(∀ i,i≠k→ρ' i=ρ i)∧(newRow e vs).run cx.P w = .ok ⟨w.heap.size,0,none⟩ (w.alloc (.cells vs e))∧Inv cx ρ' (bY σ k (some x)) n' (w.alloc (.cells vs e))∧bO cx ρ ρ' σ (bY σ k (some x)) w (w.alloc (.cells vs e)) ∧
   Rd (w.alloc (.cells vs e)) (bL cx ρ' (bY σ k (some x))) ρ' (.ptr k 0 0) (.pointer (some ⟨w.heap.size,0,none⟩)):=by
 unfold sL at hx
 split at hx
 ·rename_i hok
  cases hx
  let l:Loc:=⟨w.heap.size,cs.length,1,e,1⟩
  have hbel:Below w.heap.size w (w.alloc (.cells vs e)):=(Below.refl _ _).alloc (Nat.le_refl _) _
  have hb:dV w (bL cx ρ σ) ρ l (.cells vs e) (.rows false [cs]):=by
   refine .rows _ [cs] vs rfl (fun _ _ _ e=>by cases e) ⟨by simp[l,hcs.1],hok.1,by simp,by simp[l],by simp[l],by simp[l],fun i j hi hj=>?_,fun p v hp=>?_⟩
   ·simp at hi
    obtain ⟨v,h1,h2⟩:=hcs.get? (i:=j) (d:=cs[j]'(by simpa using hj)) (by simp at hj;simp[hj])
    simp_all
   ·have hp':p<cs.length:=by rw[←hcs.1];exact (Array.getElem?_eq_some_iff.1 hp).1
    have h2:=hcs.2 p hp'
    rw[Array.getD_eq_getD_getElem?,hp] at h2
    exact h2.leaf (List.all_eq_true.1 hok.2 _ (List.getElem_mem hp'))
  obtain ⟨h1,h2⟩:=hI.AMI hn' hk hne l (.rows false [cs]) hbel (fun _=>⟨Nat.le_refl _,by show w.heap.size<(w.alloc _).heap.size;simp⟩) ⟨fun _=>⟨.cells vs e,by show (w.heap.push _)[w.heap.size]? = _;simp,hb.mono (fun b _ hlt=>hbel.block b hlt) hbel.size (fun b hb hn hc=>by
    rcases hc with hc|⟨_,rfl⟩
    ·simp_all
    ·exact Nat.lt_irrefl _ hb) (fun i l' hi=>by rw[bK _ _ (hne i l' hi)];exact hi)⟩,fun h=>by simp[l] at h⟩
  refine ⟨_,fun i hi=>bK _ _ hi,rfl,h1,h2,?_⟩
  have:=Rd.ptr (w:=w.alloc (.cells vs e)) (own:=bL cx (bY ρ k (some l)) (bY σ k (some (.rows false [cs])))) (ρ:=bY ρ k (some l)) k 0 0 l (by simp)
  simpa [l] using this
 ·cases hx
theorem O0 (hI:Inv cx ρ σ n w) {k:Nat} (hk:n≤k) {cs:List D} {vs:Array Value} {x:bB} (hcs:cZ (Rd w (bL cx ρ σ) ρ) cs vs) (hx:sL cs=some x) (e:TypeId) :
  ∃ ρ',(newRow e vs).run cx.P w = .ok ⟨w.heap.size,0,none⟩ (w.alloc (.cells vs e))∧Inv cx ρ' (bY σ k (some x)) (k+1) (w.alloc (.cells vs e))∧bO cx ρ ρ' σ (bY σ k (some x)) w (w.alloc (.cells vs e)) ∧
   Rd (w.alloc (.cells vs e)) (bL cx ρ' (bY σ k (some x))) ρ' (.ptr k 0 0) (.pointer (some ⟨w.heap.size,0,none⟩)):=by
 obtain ⟨ρ',_,h⟩:=JZ hI (n':=k+1) (by omega) (Nat.lt_succ_self k) (fun i l' hi e=>by have:=(hI.new i l' hi).1;omega) hcs hx e
 exact ⟨ρ',h⟩
theorem zU {w w':World} {k:Nat} {c c':Array Value} {e:TypeId} {f f':Nat×Nat} (h:w.heap[k]? = some (.cells c e f)) (h':w'.heap[k]? = some (.cells c' e f')) (hs:c'.size=c.size):∀ y,w.shape? k=some y→w'.shape? k=some y:=by
 intro y hy
 simp only[World.shape?,h,h',hs] at hy ⊢
 exact hy
theorem IU {w w':World} {k:Nat} {o:Obj} (h:w.heap[k]? = some o) (ho:∀ c e f,o≠.cells c e f):∀ y,w.shape? k=some y→w'.shape? k=some y:=by
 intro y hy
 simp only[World.shape?,h] at hy
 simp_all
def iD (P:Program) (σ:Nat→Option bB) (t:TypeId) (a v:D):Option (Nat→Option bB) :=
 match a with
 | .ptr k i j =>
  match σ k,tsz? P t with
  | some (.rows false rs),some z =>
   match rs[i]? with
   | some r=>if 0<z∧v.cells.length=z∧j+z≤r.length∧v.cells.all D.leaf=true then some (bY σ k (some (.rows false (rs.set i (bP r j v.cells))))) else none
   | none=>none
  | some (.arr false za rows),some z =>
   match rows[i]?,gZ v.cells with
   | some r,some ts=>if 0<z∧ts.length=z∧j+z≤r.length∧ts.all T.leaf=true then some (bY σ k (some (.arr false za (rows.set i (bP r j ts))))) else none
   | _,_=>none
  | _,_=>none
 | _=>none
theorem QK {α β:Type} (f:α→β):∀ (xs:List α) (cells:List α) (off:Nat),(bP cells off xs).map f=bP (cells.map f) off (xs.map f)
 | [],cells,off=>rfl
 | x::xs,cells,off=>by simp only[bP,List.map_cons];rw[QK f xs];simp[List.map_set]
theorem ASG (rows:List (List T)) (i:Nat) (r:List T):aU (rows.set i r)=(aU rows).set i (r.map .p):=by simp[aU,List.map_set]
theorem fQ {i m sz C j:Nat} (hi:i<C) (hj:j+m≤sz):i*sz+j+m≤C*sz:=by
 have:(i+1)*sz≤C*sz:=Nat.mul_le_mul_right _ hi
 rw[Nat.add_mul,Nat.one_mul] at this
 omega
theorem BCW {i i' j j' sz:Nat} (hj:j<sz) (hj':j'<sz) (hne:i≠i'):i*sz+j≠i'*sz+j':=by
 rcases Nat.lt_or_gt_of_ne hne with h|h
 ·have:(i+1)*sz≤i'*sz:=Nat.mul_le_mul_right _ h
  rw[Nat.add_mul,Nat.one_mul] at this
  omega
 ·have:(i'+1)*sz≤i*sz:=Nat.mul_le_mul_right _ h
  rw[Nat.add_mul,Nat.one_mul] at this
  omega
theorem QL (hI:Inv cx ρ σ n w) {t:TypeId} {d:D} {y:Value} {k i j z:Nat} {xb xb':bB} {rs:List (List D)} {r:List D} {l:Loc} (hσ:σ k=some xb) (hxb:eC xb=some rs) (hr:rs[i]? = some r) (hl:ρ k=some l) (hz:tsz? cx.P t=some z)
  (hd:Rd w (bL cx ρ σ) ρ d y) (hz0:0<z) (hlen:d.cells.length=z) (hfit:j+z≤r.length) (hleaf:d.cells.all D.leaf=true) (hxb':eC xb'=some (rs.set i (bP r j d.cells))) (hza:∀ ro za rows,xb' = .arr ro za rows→∃ ro' rows',xb = .arr ro' za rows') (hwr:gM xb=true) :
  ∃ w',(Instr.storeAt t (.pointer (some ⟨l.bJ,i*l.sz+j,none⟩)) y).run cx.P w = .ok () w'∧Inv cx ρ (bY σ k (some xb')) n w'∧bO cx ρ ρ σ (bY σ k (some xb')) w w':=by
 have hk:(σ k).bind eC=some rs:=by rw[hσ];exact hxb
 obtain ⟨l',c,hl',hL,hheap,hb⟩:=hI.rows hk (lB hr)
 rw[hl] at hl';cases hl'
 have hc:=hd.cells (fun e=>by rw[e] at hlen;simp at hlen;omega)
 obtain ⟨hi,hre⟩:=List.getElem?_eq_some_iff.1 hr
 have hrl:r.length=l.sz:=hb.width r (hre ▸ List.getElem_mem hi)
 have hvl:y.cells.toList.length=z:=by simp[hc.1,hlen]
 have hbound:i*l.sz+j+z≤c.size:=by rw[hb.size];exact fQ (by have:=hb.len;omega) (by omega)
 have hone:∀ v∈y.cells.toList,v.oneCell'=true:=by
  intro v hv
  obtain ⟨p,hp,rfl⟩:=List.mem_iff_getElem.1 hv
  have hp':p<d.cells.length:=by omega
  have:=hc.2 p hp'
  have hps:p<y.cells.size:=by simpa using hp
  simp[Array.getD_eq_getD_getElem?,hps] at this
  exact this.leaf (List.all_eq_true.1 hleaf _ (List.getElem_mem hp'))
 have hrun:=run_storeCells_at cx.P l.bJ (i*l.sz+j) l.e y.cells.toList 0 c w hheap (by rw[hvl];omega) hone
 have hspl:c.toList.take (i*l.sz+j+0)++y.cells.toList++c.toList.drop (i*l.sz+j+0+y.cells.toList.length)=bP c.toList (i*l.sz+j) y.cells.toList:=by
  apply List.ext_getElem?
  intro p
  rw[jF _ _ _ _ (by rw[hvl];simpa using hbound)]
  simp only[Nat.add_zero,hvl]
  by_cases h1:p<i*l.sz+j
  ·rw[if_neg (by omega),List.append_assoc,List.getElem?_append_left (by simp;omega),List.getElem?_take,if_pos h1]
  ·by_cases h2:p<i*l.sz+j+z
   ·rw[if_pos (by omega),List.append_assoc,List.getElem?_append_right (by simp;omega),List.getElem?_append_left (by simp at hvl ⊢;omega)]
    congr 1
    simp;omega
   ·rw[if_neg (by omega),List.append_assoc,List.getElem?_append_right (by simp;omega),List.getElem?_append_right (by simp at hvl ⊢;omega),List.getElem?_drop]
    congr 1
    simp at hvl ⊢;omega
 rw[hspl] at hrun
 refine ⟨w.setRow l.bJ (bP c.toList (i*l.sz+j) y.cells.toList).toArray,?_,?_⟩
 ·have hys:y.cells.size=z:=by rw[hc.1];exact hlen
  simp[Instr.storeAt,Instr.sureAddr,storeVar,hys,run_sizeOf? w hz,hrun]
 ·refine hI.QB (Nat.le_refl _) hσ hl hL hwr (.cells (bP c.toList (i*l.sz+j) y.cells.toList).toArray l.e) _ rfl rfl rfl (by simp) (setRow_heap w l.bJ c _ l.e (0,0) hheap) (fun b hne=>setRow_other w l.bJ b _ hne) (zU hheap (setRow_heap w l.bJ c _ l.e (0,0) hheap) (by simp)) ?_
  have hcell:∀ p,(bP c.toList (i*l.sz+j) y.cells.toList).toArray[p]? = if i*l.sz+j≤p∧p<i*l.sz+j+z then y.cells[p-(i*l.sz+j)]? else c[p]? := by
   intro p
   simp only[List.getElem?_toArray]
   rw[jF _ _ _ _ (by rw[hvl];simpa using hbound),hvl]
   simp
  refine .rows _ _ _ hxb' (fun ro za rows e=>by obtain ⟨ro',rows',e'⟩:=hza ro za rows e;exact hI.AWC (hσ.trans (congrArg some e')) hl hL) ⟨by simp[hb.size],hb.pos,by simpa using hb.small,by simpa using hb.len,by simpa using hb.VU,fun r' hr'=>?_,fun i' j' hi' hj'=>?_,fun p v hp=>?_⟩
  ·rcases List.mem_or_eq_of_mem_set hr' with h1|h1
   ·exact hb.width _ h1
   ·simp_all
  ·simp at hi'
   rw[hcell]
   by_cases e:i=i'
   ·subst e
    simp at hj'
    have hsg:=jF d.cells r j j' (by omega)
    rw[List.getElem?_eq_getElem (by simpa using hj')] at hsg
    by_cases h1:j≤j'∧j'<j+z
    ·rw[if_pos (by omega)]
     rw[if_pos (by omega),List.getElem?_eq_getElem (by omega)] at hsg
     obtain ⟨v,g1,g2⟩:=hc.get? (i:=j'-j) (d:=d.cells[j'-j]'(by omega)) (by simp[show j'-j<d.cells.length by omega])
     refine ⟨v,by rw[show i*l.sz+j'-(i*l.sz+j)=j'-j by omega];exact g1,?_⟩
     simp_all
    ·rw[if_neg (by omega)]
     rw[if_neg (by omega),List.getElem?_eq_getElem hj'] at hsg
     obtain ⟨v,g1,g2⟩:=hb.cell i j' hi' (by rw[hre];exact hj')
     simp_all
   ·simp only[List.getElem_set_ne e] at hj' ⊢
    have hw':=hb.width _ (List.getElem_mem hi')
    have hjs:j'<l.sz:=by omega
    rw[if_neg]
    ·exact hb.cell i' j' hi' hj'
    ·intro hcon
     have:i*l.sz+(j+(i'*l.sz+j'-(i*l.sz+j)))≠i'*l.sz+j':=BCW (by omega) hjs e
     omega
  ·rw[hcell] at hp
   split at hp
   ·exact hone v (by rw[Array.mem_toList_iff];exact Array.mem_of_getElem? hp)
   ·exact hb.one p v hp
theorem T5 (hI:Inv cx ρ σ n w) {t:TypeId} {a d:D} {x y:Value} {σ':Nat→Option bB} (ha:Rd w (bL cx ρ σ) ρ a x) (hd:Rd w (bL cx ρ σ) ρ d y) (h:iD cx.P σ t a d=some σ') :
  ∃ w',(Instr.storeAt t x y).run cx.P w = .ok () w'∧Inv cx ρ σ' n w'∧bO cx ρ ρ σ σ' w w':=by
 unfold iD at h
 split at h
 ·cases ha with
  | ptr _ _ _ l hl =>
  split at h
  ·rename_i _ _ rs z hk hz
   split at h
   ·rename_i r hr
    split at h
    ·rename_i hok
     cases h
     exact QL hI hk rfl hr hl hz hd hok.1 hok.2.1 hok.2.2.1 hok.2.2.2 rfl (fun _ _ _ e=>by cases e) rfl
    ·cases h
   ·cases h
  ·rename_i _ _ za rows z hk hz
   split at h
   ·rename_i r ts hr hts
    split at h
    ·rename_i hok
     cases h
     have hc:=fG hts
     refine QL (rs:=aU rows) (r:=r.map .p) hI hk rfl (by rw[pRows_get?,hr];rfl) hl hz hd hok.1 (by rw[hc];simpa using hok.2.1) (by simpa using hok.2.2.1) ?_ ?_ (fun _ _ _ e=>by cases e;exact ⟨_,_,rfl⟩) rfl
     ·rw[hc]
      simpa [List.all_map,Function.comp_def,D.leaf] using hok.2.2.2
     ·rw[hc,←QK,←ASG]
      rfl
    ·cases h
   ·cases h
  ·cases h
 ·cases h
end
end Go.Pv
