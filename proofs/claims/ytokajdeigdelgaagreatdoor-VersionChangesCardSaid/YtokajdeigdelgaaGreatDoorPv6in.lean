/-
  slices.Insert, slices.Delete, slices.Clone at elements of any number of cells: what they come to, in boxes.
-/
import Derived.Test.YtokajdeigdelgaaGreatDoorPv6kc
import Derived.Test.YtokajdeigdelgaaGreatDoorPv6im
import Derived.Test.YtokajdeigdelgaaGreatDoorPv6il
set_option linter.defProp false
set_option linter.unusedSimpArgs false
set_option linter.unusedVariables false
namespace Go.Pv
open Go Go.RowKit Go.Proofs
structure KE (w w':World) (b:Option Nat) (g:Nat):Prop where
 os:w'.os=w.os
 tape:w'.tape=w.tape
 output:w'.output=w.output
 size:w.heap.size≤w'.heap.size
 lt:g<w'.heap.size
 place:b=some g∨w.heap.size≤g
 other:∀ k,k<w.heap.size→b≠some k→w'.heap[k]? = w.heap[k]?
 shape:∀ k y,w.shape? k=some y→w'.shape? k=some y
section
variable {cx : Cx} {ρ : Nat → Option Loc} {σ : Nat → Option aE} {n : Nat} {w w' : World}
theorem TF (hI:Inv cx ρ σ n w) {b:Option Nat} {g:Nat} (ht:KE w w' b g) {k:Nat} {x₀:aE} {l₀:Loc} (hσ:σ k=some x₀) (hρ:ρ k=some l₀) (hw:cS x₀=true) (hb:∀ i,b=some i→0<l₀.L+l₀.C∧l₀.aL=i)
  {z cap:Nat} {e:TypeId} {cur:Array Value} {rows:List (List T)} (hat:w'.heap[g]? = some (.cells cur e (0,0))) (hz:0<z) (hcap:rows.length≤cap) (hmax:cap≤maxLen) (hpos:0<rows.length+cap) (hsize:cur.size=cap*z) (hsmall:rows.length≤2 ^ 47) (hwid:∀ r∈rows,r.length=z)
  (hcell:∀ i j (hi:i<rows.length) (hj:j<rows[i].length),∃ v,cur[i*z+j]? = some v∧a6 w (Own cx ρ σ) rows[i][j] v) (hone:∀ (p:Nat) (v:Value),cur[p]? = some v→v.oneCell'=true) :
  Inv cx (aX ρ n (some ⟨g,z,cap,e,rows.length⟩)) (aX (aX σ k none) n (some (.arr false z rows))) (n+1) w'∧aK cx ρ (aX ρ n (some ⟨g,z,cap,e,rows.length⟩)) σ (aX (aX σ k none) n (some (.arr false z rows))) w w' ∧
   Rd w' (Own cx (aX ρ n (some ⟨g,z,cap,e,rows.length⟩)) (aX (aX σ k none) n (some (.arr false z rows)))) (aX ρ n (some ⟨g,z,cap,e,rows.length⟩)) (.own n) (.slice (some ⟨g,0,none⟩) rows.length cap):=by
 generalize hl:(⟨g,z,cap,e,rows.length⟩:Loc)=l
 generalize hx:aE.arr false z rows=x
 have hkn:k<n:=(hI.new k l₀ hρ).1
 have hne:∀ i l',ρ i=some l'→i≠n:=fun i l' hi e=>by have:=(hI.new i l' hi).1;omega
 have hloc:∀ i l',ρ i=some l'→aX ρ n (some l) i=some l':=fun i l' hi=>by rw[aF _ _ (hne i l' hi)];exact hi
 have hσne:∀ i y,σ i=some y→i≠n:=fun i y hi=>by obtain ⟨l',h1,_⟩:=hI.boxes i y hi;exact hne i l' h1
 have hlL:0<l.L+l.C:=by rw[←hl];exact hpos
 have hlb:l.aL=g:=by rw[←hl]
 have hbOwn:∀ i,b=some i→Own cx ρ σ i:=fun i hi=>.inr ⟨k,l₀,x₀,hσ,hρ,(hb i hi).1,(hb i hi).2⟩
 have hgOwn:g<w.heap.size→b=some g:=fun h=>by rcases ht.place with h'|h';exact h';omega
 have hinv:∀ i y,aX (aX σ k none) n (some x) i=some y→(i=n∧y=x)∨(i≠n∧i≠k∧σ i=some y):=fun i y hi=>by
  by_cases e:i=n
  ·subst e;rw[cV] at hi;exact .inl ⟨rfl,(Option.some.inj hi).symm⟩
  ·rw[aF _ _ e] at hi
   by_cases e':i=k
   ·subst e';rw[cV] at hi;cases hi
   ·rw[aF _ _ e'] at hi;exact .inr ⟨e,e',hi⟩
 have hown':∀ i,Own cx (aX ρ n (some l)) (aX (aX σ k none) n (some x)) i→Own cx ρ σ i∨i=g:=by
  intro i hc
  rcases hc with hc|⟨j,l',y,h1,h2,h3,h4⟩
  ·exact .inl (.inl hc)
  ·rcases hinv j y h1 with ⟨rfl,rfl⟩|⟨e1,e2,h1⟩
   ·rw[cV] at h2;cases h2;exact .inr (h4.symm.trans hlb)
   ·rw[aF _ _ e1] at h2;exact .inl (.inr ⟨j,l',y,h1,h2,h3,h4⟩)
 have hc:∀ i,¬ Own cx ρ σ i→i<w.heap.size→w'.heap[i]? = w.heap[i]? := fun i hn hlt=>ht.other i hlt fun e=>hn (hbOwn i e)
 have ho:∀ i,i<w.heap.size→¬ Own cx ρ σ i→¬ Own cx (aX ρ n (some l)) (aX (aX σ k none) n (some x)) i:=fun i hlt hn h=>by
  rcases hown' i h with h|rfl
  ·exact hn h
  ·exact hn (hbOwn i (hgOwn hlt))
 have hw0:cx.w0.heap.size≤w.heap.size:=hI.below.size
 have hg0:cx.w0.heap.size≤g∨cx.arg=some g:=by
  rcases ht.place with h|h
  ·rw[←(hb g h).2];exact hI.iN k x₀ l₀ hσ hρ (hb g h).1 hw
  ·exact .inl (by omega)
 have hK:aK cx ρ (aX ρ n (some l)) σ (aX (aX σ k none) n (some x)) w w':=⟨hc,ht.size,ho,hloc,ht.shape,fun i y hi hy=>⟨y,by
  rw[aF _ _ (hσne i y hi),aF _ _ (fun e=>by subst e;rw[hσ] at hi;cases hi;rw[hw] at hy;cases hy)];exact hi,hy⟩⟩
 have hblk:∀ i y l',σ i=some y→i≠k→ρ i=some l'→0<l'.L+l'.C→l'.aL<w.heap.size∧b≠some l'.aL:=fun i y l' hi hik hl' hL=>⟨((hI.new i l' hl').2 hL).1,fun e=>hik (hI.inj i k y x₀ l' l₀ hi hσ hl' hρ hL (hb _ e).1 (hb _ e).2.symm)⟩
 refine ⟨⟨fun i y hi=>?_,fun i i' y y' m m' h1 h2 h3 h4 hL hL' he=>?_,fun i m hm=>?_,fun i y m hi hm hL hwy=>?_,?_,hI.dW,hI.low⟩,hK,?_⟩
 ·rcases hinv i y hi with ⟨rfl,rfl⟩|⟨e1,e2,h1⟩
  ·refine ⟨l,cV ..,fun _=>⟨.cells cur e (0,0),by rw[hlb];exact hat,?_⟩,fun h=>by omega⟩
   subst hl hx
   refine .rows (l:=⟨g,z,cap,e,rows.length⟩) _ (aB rows) cur rfl (fun ro z' rows' e=>by cases e;rfl) ⟨hsize,hz,by simpa using hsmall,by simpa using hcap,by simp,fun r hr=>?_,fun i j hi hj=>?_,hone⟩
   ·simp only[aB,List.mem_map] at hr
    obtain ⟨q,hq,rfl⟩:=hr
    rw[List.length_map];exact hwid q hq
   ·have hi':i<rows.length:=by simpa using hi
    have hj':j<rows[i].length:=by simpa [aB] using hj
    obtain ⟨v,u1,u2⟩:=hcell i j hi' hj'
    refine ⟨v,u1,?_⟩
    have hx:(aB rows)[i][j] = .p rows[i][j]:=by simp[aB]
    rw[hx]
    exact .p _ _ (u2.mono hc ht.size ho)
  ·obtain ⟨l',g1,g2⟩:=hI.boxes i y h1
   refine ⟨l',hloc _ _ g1,g2.mono hc ht.size ho hloc fun hL=>?_⟩
   obtain ⟨q1,q2⟩:=hblk i y l' h1 e2 g1 hL
   exact ht.other _ q1 q2
 ·rcases hinv i y h1 with ⟨rfl,rfl⟩|⟨e1,e2,u1⟩
  ·rcases hinv i' y' h2 with ⟨rfl,rfl⟩|⟨f1,f2,u2⟩
   ·rfl
   ·exfalso
    rw[cV] at h3;cases h3
    rw[aF _ _ f1] at h4
    obtain ⟨q1,q2⟩:=hblk i' y' m' u2 f2 h4 hL'
    rw[hlb] at he
    exact q2 (he ▸ hgOwn (by omega))
  ·rcases hinv i' y' h2 with ⟨rfl,rfl⟩|⟨f1,f2,u2⟩
   ·exfalso
    rw[cV] at h4;cases h4
    rw[aF _ _ e1] at h3
    obtain ⟨q1,q2⟩:=hblk i y m u1 e2 h3 hL
    rw[hlb] at he
    exact q2 (he.symm ▸ hgOwn (by omega))
   ·rw[aF _ _ e1] at h3
    rw[aF _ _ f1] at h4
    exact hI.inj i i' y y' m m' u1 u2 h3 h4 hL hL' he
 ·by_cases e:i=n
  ·subst e
   rw[cV] at hm;cases hm
   exact ⟨by omega,fun _=>⟨by rw[hlb];exact ht.lt,fun h=>by
    rw[hlb] at h
    rcases ht.place with g|g
    ·rw[←(hb _ g).2] at h;exact ((hI.new k l₀ hρ).2 (hb _ g).1).2 h
    ·have:=hI.dW _ h;omega⟩⟩
  ·rw[aF _ _ e] at hm
   have h1:=hI.new i m hm
   have:=ht.size
   exact ⟨by omega,fun hL=>⟨by have:=(h1.2 hL).1;omega,(h1.2 hL).2⟩⟩
 ·rcases hinv i y hi with ⟨rfl,rfl⟩|⟨e1,e2,h1⟩
  ·rw[cV] at hm;cases hm;rw[hlb];exact hg0
  ·rw[aF _ _ e1] at hm
   exact hI.iN i y m h1 hm hL hwy
 ·refine hI.below.trans ⟨ht.os,ht.tape,ht.output,by have:=ht.size;omega,fun i hi ha=>ht.other i (by omega) fun e=>?_⟩
  have h2:=(hb i e).2
  rcases hI.iN k x₀ l₀ hσ hρ (hb i e).1 hw with h1|h1
  ·omega
  ·exact ha (by rw[h1,h2])
 ·subst hl hx
  exact .own n ⟨g,z,cap,e,rows.length⟩ (cV ..) hpos hcap hmax
end
theorem E9 {w w':World} {b:Option Nat} (ho:∀ k,k<w.heap.size→b≠some k→w'.heap[k]? = w.heap[k]?) (hb:∀ k y,b=some k→w.shape? k=some y→w'.shape? k=some y):∀ k y,w.shape? k=some y→w'.shape? k=some y:=by
 intro k y hy
 by_cases e:b=some k
 ·exact hb k y e hy
 ·have hlt:k<w.heap.size:=by
   rcases Nat.lt_or_ge k w.heap.size with h|h
   ·exact h
   ·simp[World.shape?,Array.getElem?_eq_none h] at hy
  simp only[World.shape?,ho k hlt e] at hy ⊢;exact hy
theorem FI {w w':World} {b:Nat} {c cur:Array Value} {e:TypeId} (hb:w.heap[b]? = some (.cells c e (0,0))) (hb':w'.heap[b]? = some (.cells cur e (0,0))) (hsz:cur.size=c.size) (hz:w'.heap.size=w.heap.size) (ho:∀ k,k≠b→w'.heap[k]? = w.heap[k]?)
  (h1:w'.os=w.os) (h2:w'.tape=w.tape) (h3:w'.output=w.output):KE w w' (some b) b:=by
 have hlt:b<w.heap.size:=(Array.getElem?_eq_some_iff.1 hb).1
 have ho':∀ k,k<w.heap.size→some b≠some k→w'.heap[k]? = w.heap[k]? := fun k _ hn=>ho k fun e=>hn (by rw[e])
 refine ⟨h1,h2,h3,by omega,by omega,.inl rfl,ho',E9 ho' fun k y hk hy=>?_⟩
 cases hk
 simp only[World.shape?,hb,hb'] at hy ⊢
 rw[hsz];exact hy
section
variable {P : Program} {ρn : Shelf.Ren} {Z by_ : Nat} {zv : Value}
end
theorem IX {cx:Cx} {ρ:Nat→Option Loc} {σ:Nat→Option aE} {n:Nat} {w:World} (hI:Inv cx ρ σ n w) {k z:Nat} {ro:Bool} {rows:List (List T)} {l:Loc} (hσ:σ k=some (.arr ro z rows)) (hl:ρ k=some l) (h0:0<l.L+l.C) :
  ∃ c,w.heap[l.aL]? = some (.cells c l.e (0,0))∧l.sz=z∧l.L=rows.length∧c.size=l.C*z∧rows.length≤l.C∧0<z∧rows.length≤2 ^ 47∧(∀ r∈rows,r.length=z) ∧
   (∀ a j (ha:a<rows.length) (hj:j<rows[a].length),∃ v,c[a*z+j]? = some v∧a6 w (Own cx ρ σ) rows[a][j] v)∧∀ (p:Nat) (v:Value),c[p]? = some v→v.oneCell'=true:=by
 obtain ⟨l',hl',hbx⟩:=hI.boxes k _ hσ
 rw[hl] at hl';cases hl'
 obtain ⟨o,ho,hbi⟩:=hbx.1 h0
 cases hbi with
 | rows _ rs c hr hz0 hB =>
 cases hr
 have hsz:l.sz=z:=hz0 _ _ _ rfl
 refine ⟨c,ho,hsz,by rw[←hB.FQ];simp,by rw[←hsz];exact hB.size,by simpa using hB.len,by rw[←hsz];exact hB.pos,by simpa using hB.small,fun r hr=>?_,fun a j ha hj=>?_,hB.one⟩
 ·have:=hB.width (r.map .p) (by simp only[aB,List.mem_map];exact ⟨r,hr,rfl⟩)
  rw[←hsz];simpa using this
 ·have ha':a<(aB rows).length:=by simpa using ha
  have hj':j<(aB rows)[a].length:=by simpa [aB] using hj
  obtain ⟨v,u1,u2⟩:=hB.cell a j ha' hj'
  have hx:(aB rows)[a][j] = .p rows[a][j]:=by simp[aB]
  rw[hx] at u2
  cases u2 with
  | p _ _ u2=>exact ⟨v,by rw[←hsz];exact u1,u2⟩
section
variable {P : Program} {ρn : Shelf.Ren} {Z : Nat} {zv : Value}
end
section
variable {P : Program} {ρn : Shelf.Ren} {Z by_ : Nat} {zv : Value}
end
end Go.Pv
