/-
  slices.Insert, slices.Delete, slices.Clone at elements of any number of cells: what they come to, in boxes.
-/
import Derived.Test.YtjledgajjgkbhaaGreatDoorVapkc
import Derived.Test.YtjledgajjgkbhaaGreatDoorVapim
import Derived.Test.YtjledgajjgkbhaaGreatDoorVapil
set_option linter.defProp false
set_option linter.unusedSimpArgs false
set_option linter.unusedVariables false
namespace Go.Pv
open Go Go.RowKit Go.Proofs
def AS:Array Value→Nat→List Value→Array Value
 | c,_,[]=>c
 | c,o,v::r=>AS (c.setIfInBounds o v) (o+1) r
theorem dE:∀ (vs:List Value) (c:Array Value) (o:Nat),(AS c o vs).size=c.size
 | [],_,_=>rfl
 | v::r,c,o=>by rw[AS,dE r];simp
theorem fB:∀ (vs:List Value) (c:Array Value) (o p:Nat),p<c.size→(AS c o vs)[p]? = if o≤p∧p<o+vs.length then vs[p-o]? else c[p]?
 | [],c,o,p,h=>by rw[AS,if_neg (by rw[List.length_nil];omega)]
 | v::r,c,o,p,h=>by
  rw[AS,fB r _ (o+1) p (by simpa using h),List.length_cons]
  by_cases h1:o+1≤p∧p<o+1+r.length
  ·rw[if_pos h1,if_pos (by omega),show p-o=(p-(o+1))+1 by omega,List.getElem?_cons_succ]
  ·rw[if_neg h1]
   by_cases h2:p=o
   ·simp_all
   ·rw[if_neg (by omega),Array.getElem?_setIfInBounds,if_neg (fun e=>h2 e.symm)]
theorem iZ (b:Nat) (e:TypeId) (fz:Nat×Nat):∀ (vs:List Value) (o:Nat) (w:World) (c:Array Value),w.heap[b]? = some (.cells c e fz)→(w.setCells b o vs).heap[b]? = some (.cells (AS c o vs) e fz)
 | [],o,w,c,h=>h
 | v::r,o,w,c,h=>by
  exact iZ b e fz r (o+1) _ _ (by simp[World.setCell,Array.getElem?_modify,h])
theorem jA (b:Nat) {b':Nat} (hb:b'≠b):∀ (vs:List Value) (o:Nat) (w:World),(w.setCells b o vs).heap[b']? = w.heap[b']?
 | [],o,w=>rfl
 | v::r,o,w=>by
  rw[World.setCells,jA b hb r (o+1)]
  simp[World.setCell,Array.getElem?_modify,Ne.symm hb]
theorem fS (b:Nat):∀ (vs:List Value) (o:Nat) (w:World),(w.setCells b o vs).os=w.os∧(w.setCells b o vs).tape=w.tape∧(w.setCells b o vs).output=w.output∧(w.setCells b o vs).heap.size=w.heap.size
 | [],o,w=>⟨rfl,rfl,rfl,rfl⟩
 | v::r,o,w=>by
  obtain ⟨h1,h2,h3,h4⟩:=fS b r (o+1) (w.setCell ⟨b,o,none⟩ v)
  exact ⟨h1,h2,h3,h4.trans (by simp[World.setCell])⟩
structure VF (w w':World) (b:Option Nat) (g:Nat):Prop where
 os:w'.os=w.os
 tape:w'.tape=w.tape
 output:w'.output=w.output
 size:w.heap.size≤w'.heap.size
 lt:g<w'.heap.size
 place:b=some g∨w.heap.size≤g
 other:∀ k,k<w.heap.size→b≠some k→w'.heap[k]? = w.heap[k]?
 shape:∀ k y,w.shape? k=some y→w'.shape? k=some y
section
variable {cx : Cx} {ρ : Nat → Option Loc} {σ : Nat → Option bB} {n : Nat} {w w' : World}
theorem A8D (hI:Inv cx ρ σ n w) {b:Option Nat} {g:Nat} (ht:VF w w' b g) {k:Nat} {x₀:bB} {l₀:Loc} (hσ:σ k=some x₀) (hρ:ρ k=some l₀) (hw:gM x₀=true) (hb:∀ i,b=some i→0<l₀.L+l₀.C∧l₀.bJ=i)
  {z cap:Nat} {e:TypeId} {cur:Array Value} {rows:List (List T)} (hat:w'.heap[g]? = some (.cells cur e (0,0))) (hz:0<z) (hcap:rows.length≤cap) (hmax:cap≤maxLen) (hpos:0<rows.length+cap) (hsize:cur.size=cap*z) (hsmall:rows.length≤2 ^ 47) (hwid:∀ r∈rows,r.length=z)
  (hcell:∀ i j (hi:i<rows.length) (hj:j<rows[i].length),∃ v,cur[i*z+j]? = some v∧cN w (bL cx ρ σ) rows[i][j] v) (hone:∀ (p:Nat) (v:Value),cur[p]? = some v→v.oneCell'=true) :
  Inv cx (bY ρ n (some ⟨g,z,cap,e,rows.length⟩)) (bY (bY σ k none) n (some (.arr false z rows))) (n+1) w'∧bO cx ρ (bY ρ n (some ⟨g,z,cap,e,rows.length⟩)) σ (bY (bY σ k none) n (some (.arr false z rows))) w w' ∧
   Rd w' (bL cx (bY ρ n (some ⟨g,z,cap,e,rows.length⟩)) (bY (bY σ k none) n (some (.arr false z rows)))) (bY ρ n (some ⟨g,z,cap,e,rows.length⟩)) (.own n) (.slice (some ⟨g,0,none⟩) rows.length cap):=by
 generalize hl:(⟨g,z,cap,e,rows.length⟩:Loc)=l
 generalize hx:bB.arr false z rows=x
 have hkn:k<n:=(hI.new k l₀ hρ).1
 have hne:∀ i l',ρ i=some l'→i≠n:=fun i l' hi e=>by have:=(hI.new i l' hi).1;omega
 have hloc:∀ i l',ρ i=some l'→bY ρ n (some l) i=some l':=fun i l' hi=>by rw[bK _ _ (hne i l' hi)];exact hi
 have hσne:∀ i y,σ i=some y→i≠n:=fun i y hi=>by obtain ⟨l',h1,_⟩:=hI.boxes i y hi;exact hne i l' h1
 have hlL:0<l.L+l.C:=by rw[←hl];exact hpos
 have hlb:l.bJ=g:=by rw[←hl]
 have hbOwn:∀ i,b=some i→bL cx ρ σ i:=fun i hi=>.inr ⟨k,l₀,x₀,hσ,hρ,(hb i hi).1,(hb i hi).2⟩
 have hgOwn:g<w.heap.size→b=some g:=fun h=>by rcases ht.place with h'|h';exact h';omega
 have hinv:∀ i y,bY (bY σ k none) n (some x) i=some y→(i=n∧y=x)∨(i≠n∧i≠k∧σ i=some y):=fun i y hi=>by
  by_cases e:i=n
  ·subst e;rw[fC] at hi;exact .inl ⟨rfl,(Option.some.inj hi).symm⟩
  ·rw[bK _ _ e] at hi
   by_cases e':i=k
   ·subst e';rw[fC] at hi;cases hi
   ·rw[bK _ _ e'] at hi;exact .inr ⟨e,e',hi⟩
 have hown':∀ i,bL cx (bY ρ n (some l)) (bY (bY σ k none) n (some x)) i→bL cx ρ σ i∨i=g:=by
  intro i hc
  rcases hc with hc|⟨j,l',y,h1,h2,h3,h4⟩
  ·exact .inl (.inl hc)
  ·rcases hinv j y h1 with ⟨rfl,rfl⟩|⟨e1,e2,h1⟩
   ·rw[fC] at h2;cases h2;exact .inr (h4.symm.trans hlb)
   ·rw[bK _ _ e1] at h2;exact .inl (.inr ⟨j,l',y,h1,h2,h3,h4⟩)
 have hc:∀ i,¬ bL cx ρ σ i→i<w.heap.size→w'.heap[i]? = w.heap[i]? := fun i hn hlt=>ht.other i hlt fun e=>hn (hbOwn i e)
 have ho:∀ i,i<w.heap.size→¬ bL cx ρ σ i→¬ bL cx (bY ρ n (some l)) (bY (bY σ k none) n (some x)) i:=fun i hlt hn h=>by
  rcases hown' i h with h|rfl
  ·exact hn h
  ·exact hn (hbOwn i (hgOwn hlt))
 have hw0:cx.w0.heap.size≤w.heap.size:=hI.below.size
 have hg0:cx.w0.heap.size≤g∨g∈cx.arg:=by
  rcases ht.place with h|h
  ·rw[←(hb g h).2];exact hI.q7 k x₀ l₀ hσ hρ (hb g h).1 hw
  ·exact .inl (by omega)
 have hK:bO cx ρ (bY ρ n (some l)) σ (bY (bY σ k none) n (some x)) w w':=⟨hc,ht.size,ho,hloc,ht.shape,fun i y hi hy=>⟨y,by
  rw[bK _ _ (hσne i y hi),bK _ _ (fun e=>by subst e;rw[hσ] at hi;cases hi;rw[hw] at hy;cases hy)];exact hi,hy⟩⟩
 have hblk:∀ i y l',σ i=some y→i≠k→ρ i=some l'→0<l'.L+l'.C→l'.bJ<w.heap.size∧b≠some l'.bJ:=fun i y l' hi hik hl' hL=>⟨((hI.new i l' hl').2 hL).1,fun e=>hik (hI.inj i k y x₀ l' l₀ hi hσ hl' hρ hL (hb _ e).1 (hb _ e).2.symm)⟩
 refine ⟨⟨fun i y hi=>?_,fun i i' y y' m m' h1 h2 h3 h4 hL hL' he=>?_,fun i m hm=>?_,fun i y m hi hm hL hwy=>?_,?_,hI.jY,hI.low⟩,hK,?_⟩
 ·rcases hinv i y hi with ⟨rfl,rfl⟩|⟨e1,e2,h1⟩
  ·refine ⟨l,fC ..,fun _=>⟨.cells cur e (0,0),by rw[hlb];exact hat,?_⟩,fun h=>by omega⟩
   subst hl hx
   refine .rows (l:=⟨g,z,cap,e,rows.length⟩) _ (aU rows) cur rfl (fun ro z' rows' e=>by cases e;rfl) ⟨hsize,hz,by simpa using hsmall,by simpa using hcap,by simp,fun r hr=>?_,fun i j hi hj=>?_,hone⟩
   ·simp only[aU,List.mem_map] at hr
    obtain ⟨q,hq,rfl⟩:=hr
    rw[List.length_map];exact hwid q hq
   ·have hi':i<rows.length:=by simpa using hi
    have hj':j<rows[i].length:=by simpa [aU] using hj
    obtain ⟨v,u1,u2⟩:=hcell i j hi' hj'
    refine ⟨v,u1,?_⟩
    have hx:(aU rows)[i][j] = .p rows[i][j]:=by simp[aU]
    rw[hx]
    exact .p _ _ (u2.mono hc ht.size ho)
  ·obtain ⟨l',g1,g2⟩:=hI.boxes i y h1
   refine ⟨l',hloc _ _ g1,g2.mono hc ht.size ho hloc fun hL=>?_⟩
   obtain ⟨q1,q2⟩:=hblk i y l' h1 e2 g1 hL
   exact ht.other _ q1 q2
 ·rcases hinv i y h1 with ⟨rfl,rfl⟩|⟨e1,e2,u1⟩
  ·rcases hinv i' y' h2 with ⟨rfl,rfl⟩|⟨f1,f2,u2⟩
   ·rfl
   ·exfalso
    rw[fC] at h3;cases h3
    rw[bK _ _ f1] at h4
    obtain ⟨q1,q2⟩:=hblk i' y' m' u2 f2 h4 hL'
    rw[hlb] at he
    exact q2 (he ▸ hgOwn (by omega))
  ·rcases hinv i' y' h2 with ⟨rfl,rfl⟩|⟨f1,f2,u2⟩
   ·exfalso
    rw[fC] at h4;cases h4
    rw[bK _ _ e1] at h3
    obtain ⟨q1,q2⟩:=hblk i y m u1 e2 h3 hL
    rw[hlb] at he
    exact q2 (he.symm ▸ hgOwn (by omega))
   ·rw[bK _ _ e1] at h3
    rw[bK _ _ f1] at h4
    exact hI.inj i i' y y' m m' u1 u2 h3 h4 hL hL' he
 ·by_cases e:i=n
  ·subst e
   rw[fC] at hm;cases hm
   exact ⟨by omega,fun _=>⟨by rw[hlb];exact ht.lt,fun h=>by
    rw[hlb] at h
    rcases ht.place with g|g
    ·rw[←(hb _ g).2] at h;exact ((hI.new k l₀ hρ).2 (hb _ g).1).2 h
    ·have:=hI.jY _ h;omega⟩⟩
  ·rw[bK _ _ e] at hm
   have h1:=hI.new i m hm
   have:=ht.size
   exact ⟨by omega,fun hL=>⟨by have:=(h1.2 hL).1;omega,(h1.2 hL).2⟩⟩
 ·rcases hinv i y hi with ⟨rfl,rfl⟩|⟨e1,e2,h1⟩
  ·rw[fC] at hm;cases hm;rw[hlb];exact hg0
  ·rw[bK _ _ e1] at hm
   exact hI.q7 i y m h1 hm hL hwy
 ·refine hI.below.trans ⟨ht.os,ht.tape,ht.output,by have:=ht.size;omega,fun i hi ha=>ht.other i (by omega) fun e=>?_⟩
  have h2:=(hb i e).2
  rcases hI.q7 k x₀ l₀ hσ hρ (hb i e).1 hw with h1|h1
  ·omega
  ·exact ha (h2 ▸ h1)
 ·subst hl hx
  exact .own n ⟨g,z,cap,e,rows.length⟩ (fC ..) hpos hcap hmax
end
def V5 (Z by_:Nat) (rows:List (List T)):List T→Option (List (List T))
 | [.v (.int .i64 i),.sl _ [row]]=>match decide (0≤i)&&decide (i.toNat≤rows.length)&&decide (row.length=Z)&&fE Z rows&&decide ((rows.length+1)*by_≤140737488355328)&&decide (rows.length+1≤140737488355328) with
  | true=>some (rows.take i.toNat++row::rows.drop i.toNat)
  | false=>none
 | _=>none
theorem AG3 {w:World} {b o:Nat} {v:Value} (h:w.cell? ⟨b,o,none⟩=some v):∃ c e fz,w.heap[b]? = some (.cells c e fz)∧c[o]? = some v:=by
 simp only[World.cell?] at h
 split at h
 ·simp_all
 ·cases h
theorem AQ6 {w:World} {own:Nat→Prop} {Z i:Nat} {rows:List (List T)} {row:List T} {c cur:Array Value} {vs:List Value} (hi:i≤rows.length) (hwid:∀ r∈rows,r.length=Z) (hrow:row.length=Z)
  (hc:∀ a j (ha:a<rows.length) (hj:j<rows[a].length),∃ v,c[a*Z+j]? = some v∧cN w own rows[a][j] v) (hv:∀ j (hj:j<row.length),∃ v,vs[j]? = some v∧cN w own row[j] v)
  (h1:∀ p,p<i*Z→cur[p]? = c[p]?) (h2:∀ p,p<Z→cur[i*Z+p]? = vs[p]?) (h3:∀ p,p<(rows.length-i)*Z→cur[(i+1)*Z+p]? = c[i*Z+p]?) :
  ∀ a j (ha:a<(rows.take i++row::rows.drop i).length) (hj:j<(rows.take i++row::rows.drop i)[a].length),∃ v,cur[a*Z+j]? = some v∧cN w own (rows.take i++row::rows.drop i)[a][j] v:=by
 intro a j ha hj
 have hlt:(rows.take i).length=i:=by rw[List.length_take];omega
 have hal:a<rows.length+1:=by simp at ha;omega
 by_cases c1:a<i
 ·have hh:a<rows.length:=by omega
  have e:(rows.take i++row::rows.drop i)[a]=rows[a]:=by rw[List.getElem_append_left (by omega)];simp
  have hj':j<rows[a].length:=by rw[e] at hj;exact hj
  have hjZ:j<Z:=by rw[←hwid _ (List.getElem_mem hh)];exact hj'
  obtain ⟨v,q1,q2⟩:=hc a j hh hj'
  have:=Nat.mul_le_mul_right Z (show a+1≤i by omega)
  rw[Nat.add_mul,Nat.one_mul] at this
  refine ⟨v,by rw[h1 _ (by omega)];exact q1,?_⟩
  simp only[e];exact q2
 ·by_cases c2:a=i
  ·subst c2
   have e:(rows.take a++row::rows.drop a)[a]=row:=by rw[List.getElem_append_right (by omega)];simp[hlt]
   have hj':j<row.length:=by rw[e] at hj;exact hj
   obtain ⟨v,q1,q2⟩:=hv j hj'
   refine ⟨v,by rw[h2 _ (by omega)];exact q1,?_⟩
   simp only[e];exact q2
  ·have hh:a-1<rows.length:=by omega
   have e:(rows.take i++row::rows.drop i)[a]=rows[a-1]:=by
    rw[List.getElem_append_right (by omega)]
    simp only[hlt]
    rw[List.getElem_cons]
    rw[dif_neg (by omega),List.getElem_drop]
    congr 1;omega
   have hj':j<rows[a-1].length:=by rw[e] at hj;exact hj
   have hjZ:j<Z:=by rw[←hwid _ (List.getElem_mem hh)];exact hj'
   obtain ⟨v,q1,q2⟩:=hc (a-1) j hh hj'
   have m1:(a-(i+1))*Z+Z≤(rows.length-i)*Z:=by
    have:=Nat.mul_le_mul_right Z (show a-(i+1)+1≤rows.length-i by omega)
    rwa[Nat.add_mul,Nat.one_mul] at this
   have m2:a*Z=(i+1)*Z+(a-(i+1))*Z:=by rw[←Nat.add_mul];congr 1;omega
   have m3:(a-1)*Z=i*Z+(a-(i+1))*Z:=by rw[←Nat.add_mul];congr 1;omega
   refine ⟨v,?_,?_⟩
   ·rw[m2,Nat.add_assoc,h3 _ (by omega),←Nat.add_assoc,←m3];exact q1
   ·simp only[e];exact q2
theorem QD {w w':World} {b:Option Nat} (ho:∀ k,k<w.heap.size→b≠some k→w'.heap[k]? = w.heap[k]?) (hb:∀ k y,b=some k→w.shape? k=some y→w'.shape? k=some y):∀ k y,w.shape? k=some y→w'.shape? k=some y:=by
 intro k y hy
 by_cases e:b=some k
 ·exact hb k y e hy
 ·have hlt:k<w.heap.size:=by
   rcases Nat.lt_or_ge k w.heap.size with h|h
   ·exact h
   ·simp[World.shape?,Array.getElem?_eq_none h] at hy
  simp only[World.shape?,ho k hlt e] at hy ⊢;exact hy
theorem DT {w w':World} {b:Nat} {c cur:Array Value} {e:TypeId} (hb:w.heap[b]? = some (.cells c e (0,0))) (hb':w'.heap[b]? = some (.cells cur e (0,0))) (hsz:cur.size=c.size) (hz:w'.heap.size=w.heap.size) (ho:∀ k,k≠b→w'.heap[k]? = w.heap[k]?)
  (h1:w'.os=w.os) (h2:w'.tape=w.tape) (h3:w'.output=w.output):VF w w' (some b) b:=by
 have hlt:b<w.heap.size:=(Array.getElem?_eq_some_iff.1 hb).1
 have ho':∀ k,k<w.heap.size→some b≠some k→w'.heap[k]? = w.heap[k]? := fun k _ hn=>ho k fun e=>hn (by rw[e])
 refine ⟨h1,h2,h3,by omega,by omega,.inl rfl,ho',QD ho' fun k y hk hy=>?_⟩
 cases hk
 simp only[World.shape?,hb,hb'] at hy ⊢
 rw[hsz];exact hy
theorem DS {w w':World} {b:Option Nat} (hz:w.heap.size<w'.heap.size) (ho:∀ k,k<w.heap.size→w'.heap[k]? = w.heap[k]?) (h1:w'.os=w.os) (h2:w'.tape=w.tape) (h3:w'.output=w.output):VF w w' b w.heap.size :=
 ⟨h1,h2,h3,by omega,hz,.inr (Nat.le_refl _),fun k hk _=>ho k hk,QD (b:=none) (fun k hk _=>ho k hk) fun k y hk=>by cases hk⟩
theorem dM {c:Array Value} {n p:Nat} (h:p<n):(c.toList.take n)[p]? = c[p]? := by rw[List.getElem?_take,if_pos h,Array.getElem?_toList]
theorem O7 {zv:Value} (h:∀ u∈zv.cells.toList,u.oneCell'=true) (hp:0<zv.cells.size):∀ m,∀ v∈(Builtin.zeroCells zv.cells m).toList,v.oneCell'=true:=by
 intro m v hv
 simp only[Builtin.zeroCells,Array.toList_map,List.mem_map] at hv
 obtain ⟨q,_,rfl⟩:=hv
 have hlt:q % zv.cells.size<zv.cells.size:=Nat.mod_lt _ hp
 simp_all
theorem oL:∀ (vs:List Value) (c:Array Value) (o:Nat),(∀ (p:Nat) (v:Value),c[p]? = some v→v.oneCell'=true)→(∀ v∈vs,v.oneCell'=true)→∀ (p:Nat) (v:Value),(AS c o vs)[p]? = some v→v.oneCell'=true
 | [],c,o,h,_,p,v,hp=>h p v hp
 | u::r,c,o,h,hu,p,v,hp=>oL r _ (o+1) (fun q x hq=>by
   rw[Array.getElem?_setIfInBounds] at hq
   split at hq
   ·simp_all
   ·exact h q x hq) (fun x hx=>hu x (by simp[hx])) p v hp
section
variable {P : Program} {ρn : Shelf.Ren} {Z by_ : Nat} {zv : Value}
theorem oJ (L:Q0 P ρn Z by_ zv) (hZ:0<Z) (hzc:zv.cells.size=Z) (hz1:∀ u∈zv.cells.toList,u.oneCell'=true) (hentry:∃ fn,P.funcs[ρn.f 22]? = some fn∧(fn.name == "runtime.NumGoroutine")=false∧fn.body.isNone=false) :
  cY P (ρn.f 22) (mP Z (V5 Z by_)):=by
 refine ⟨hentry,fun cx ρ σ n w args vs d σ' n' hP hG hI ha hg=>?_⟩
 unfold mP at hg
 split at hg
 case h_2=>cases hg
 rename_i k rest
 split at hg
 case h_2=>cases hg
 rename_i z' rows hσ
 split at hg
 case h_2=>cases hg
 rename_i ts hz' hts
 have hz':z'=Z:=of_decide_eq_true hz'
 subst hz'
 simp only[Option.map_eq_some_iff,Prod.mk.injEq] at hg
 obtain ⟨rows',hg,rfl,rfl,rfl⟩:=hg
 unfold V5 at hg
 split at hg
 case h_2=>cases hg
 rename_i i f row
 split at hg
 case h_2=>cases hg
 rename_i hc
 cases hg
 simp only[Bool.and_eq_true,decide_eq_true_eq] at hc
 obtain ⟨⟨⟨⟨⟨hi0,hin⟩,hrow⟩,hall⟩,hby⟩,h47⟩:=hc
 have hwid:∀ r∈rows,r.length=z':=fun r hr=>by simpa using List.all_eq_true.1 hall r hr
 have hvs:∃ v1 v2 v3,vs = #[v1,v2,v3]∧Rd w (bL cx ρ σ) ρ (.own k) v1∧cN w (bL cx ρ σ) (.v (.int .i64 i)) v2∧cN w (bL cx ρ σ) (.sl f [row]) v3:=by
  have e:=fG hts
  subst e
  have hs:vs.size=3:=by rw[ha.1];simp
  obtain ⟨l⟩:=vs
  match l,hs with
  | [v1,v2,v3],_ =>
   have h0:=ha.2 0 (by simp)
   have h1:=ha.2 1 (by simp)
   have h2:=ha.2 2 (by simp)
   simp only[List.map_cons,List.map_nil,List.getElem_cons_zero,List.getElem_cons_succ] at h0 h1 h2
   refine ⟨v1,v2,v3,rfl,by simpa using h0,?_,?_⟩
   ·cases h1 with
    | p _ _ h1=>simpa using h1
   ·cases h2 with
    | p _ _ h2=>simpa using h2
 obtain ⟨v1,v2,v3,rfl,g1,g2,g3⟩:=hvs
 cases g2
 subst hP
 generalize hii:i.toNat=ii at hin ⊢
 have hi:i=(ii:Int):=by omega
 subst hi
 clear hii hi0
 cases g3 with
 | sl _ _ sz vb voff vc fc k1 k2 k3 k4 k5 k6 k7 k8 k9 =>
 have hsz:sz=z':=by rw[←hrow];exact (k6 row (by simp)).symm
 subst hsz
 obtain ⟨V,hV⟩:∃ V,V=(List.range sz).map fun j=>fc 0 j:=⟨_,rfl⟩
 have hVl:V.length=sz:=by rw[hV];simp
 have hVg:∀ j,j<sz→V[j]? = some (fc 0 j):=fun j hj=>by rw[hV];simp[hj]
 have hVc:∀ j v,V[j]? = some v→w.cell? ⟨vb,voff+j,none⟩=some v:=fun j v hj=>by
  have hlt:j<sz:=by rw[←hVl];exact (List.getElem?_eq_some_iff.1 hj).1
  rw[hVg j hlt] at hj
  cases hj
  have:=(k8 0 j (by simp) hlt).1
  simpa using this
 have hV1:∀ v∈V,v.oneCell'=true:=fun v hv=>by
  rw[hV] at hv
  simp only[List.mem_map,List.mem_range] at hv
  obtain ⟨j,hj,rfl⟩:=hv
  exact (k8 0 j (by simp) hj).2
 have hVr:∀ j (hj:j<row.length),∃ v,V[j]? = some v∧cN w (bL cx ρ σ) row[j] v:=fun j hj=>⟨fc 0 j,hVg j (by omega),by simpa using k9 0 j (by simp) hj⟩
 clear hV hVg k8 k9
 have hl':(rows.take ii++row::rows.drop ii).length=rows.length+1:=by simp;omega
 have hwid':∀ r∈rows.take ii++row::rows.drop ii,r.length=sz:=fun r hr=>by
  rcases List.mem_append.1 hr with h|h
  ·exact hwid r (List.mem_of_mem_take h)
  ·rcases List.mem_cons.1 h with rfl|h
   ·exact hrow
   ·exact hwid r (List.mem_of_mem_drop h)
 have hn47:rows.length+1≤140737488355328:=h47
 have m0:ii*sz≤rows.length*sz:=Nat.mul_le_mul_right _ hin
 have m1:(rows.length+1)*sz=rows.length*sz+sz:=by rw[Nat.add_mul,Nat.one_mul]
 have m2:(ii+1)*sz=ii*sz+sz:=by rw[Nat.add_mul,Nat.one_mul]
 have m3:(rows.length-ii)*sz=rows.length*sz-ii*sz:=Nat.sub_mul ..
 obtain ⟨i0,hi0,hz0,hzs,hzb⟩:=L.i9
 have fin:∀ {b:Option Nat} {g cap:Nat} {e:TypeId} {cur c:Array Value} {w':World} {l₀:Loc},ρ k=some l₀→(∀ i,b=some i→0<l₀.L+l₀.C∧l₀.bJ=i)→VF w w' b g→w'.heap[g]? = some (.cells cur e (0,0))→rows.length+1≤cap→cap≤maxLen→cur.size=cap*sz →
   (∀ a j (ha:a<rows.length) (hj:j<rows[a].length),∃ v,c[a*sz+j]? = some v∧cN w (bL cx ρ σ) rows[a][j] v)→(∀ p,p<ii*sz→cur[p]? = c[p]?)→(∀ p,p<sz→cur[ii*sz+p]? = V[p]?)→(∀ p,p<(rows.length-ii)*sz→cur[(ii+1)*sz+p]? = c[ii*sz+p]?)→(∀ (p:Nat) (v:Value),cur[p]? = some v→v.oneCell'=true) →
   ∃ v ρ',Ending.returned (Value.slice (some ⟨g,0,none⟩) (rows.length+1) cap) = .returned v∧Inv cx ρ' (bY (bY σ k none) n (some (.arr false sz (rows.take ii++row::rows.drop ii)))) (n+1) w'∧bO cx ρ ρ' σ (bY (bY σ k none) n (some (.arr false sz (rows.take ii++row::rows.drop ii)))) w w' ∧
    Rd w' (bL cx ρ' (bY (bY σ k none) n (some (.arr false sz (rows.take ii++row::rows.drop ii))))) ρ' (.own n) v:=by
  intro b g cap e cur c w' l₀ hl₀ hb ht hat hcap hmax hsize hc h1 h2 h3 hone
  have hcell:=AQ6 hin hwid hrow hc hVr h1 h2 h3
  obtain ⟨q1,q2,q3⟩:=A8D hI ht hσ hl₀ rfl hb (rows:=rows.take ii++row::rows.drop ii) hat k7 (by rw[hl'];exact hcap) hmax (by rw[hl'];omega) hsize (by rw[hl'];exact hn47) hwid' hcell hone
  refine ⟨_,_,rfl,q1,q2,?_⟩
  rw[←hl']
  exact q3
 have hCap:∀ {c':Nat},rows.length+1≤grownCap w (rows.length+1) c' (ρn.t 9)∧grownCap w (rows.length+1) c' (ρn.t 9)≤maxLen:=fun {c'}=>⟨grownCap_ge w _ _ _,grownCap_le_maxLen w _ _ _ (by unfold maxLen;omega)⟩
 obtain ⟨l₀,hl₀,hbx⟩:=hI.boxes k _ hσ
 have new_at:∀ (o:Obj),(w.drew.alloc o).heap[w.heap.size]? = some o:=fun o=>by show (w.heap.push o)[w.heap.size]? = some o;simp
 have new_lo:∀ (o:Obj) (q:Nat),q<w.heap.size→(w.drew.alloc o).heap[q]? = w.heap[q]? := fun o q hq=>by
  show (w.heap.push o)[q]? = _
  rw[Array.getElem?_push,if_neg (by omega)]
 have zone:=O7 hz1 (by omega)
 have zlen:∀ m,(Builtin.zeroCells zv.cells m).size=m*sz:=fun m=>by simp[Builtin.zeroCells,hzc]
 cases g1 with
 | c0 _ l a hl h0 =>
  rw[hl₀] at hl;cases hl
  obtain ⟨ro,zz,hx⟩:=hbx.2 h0
  cases hx
  have hii:ii=0:=by simpa using hin
  subst hii
  refine (tU L a 0 0 vb voff 1 vc [] V w (by omega) (by omega) (by omega) (by omega) (by simpa using hby) (by simp) (by rw[hVl,Nat.one_mul]) (fun _=>rfl) (fun _ _ j v hj=>by simp at hj) hVc hV1).mono ?_
  rintro e w' ⟨rfl,rfl⟩
  have hC:=@hCap 0
  simp only[List.length_nil,Nat.zero_add] at hC ⊢
  refine fin (b:=none) (c:=#[]) hl₀ (fun i h=>by cases h) (DS (by show w.heap.size<(w.heap.push _).size;simp) (new_lo _) rfl rfl rfl) (new_at _) (by simpa using hC.1) hC.2 ?_ (fun a j ha=>by simp at ha) (fun p hp=>by simp at hp) (fun p hp=>?_) (fun p hp=>by simp at hp) ?_
  ·have:=hC.1
   rw[Array.size_append,zlen]
   simp only[List.nil_append,List.size_toArray,hVl]
   rw[Nat.sub_mul,Nat.one_mul]
   have:=Nat.mul_le_mul_right sz hC.1
   omega
  ·rw[Nat.zero_mul,Nat.zero_add,Array.getElem?_append_left (by simpa [hVl] using hp)]
   simp
  ·intro p v hp
   rw[Array.getElem?_append] at hp
   split at hp
   ·exact hV1 v (List.mem_of_getElem? (by simpa using hp))
   ·exact zone _ v (by rw[Array.mem_toList_iff];exact Array.mem_of_getElem? hp)
 | own _ l hl h0 hLC hCm =>
  rw[hl₀] at hl;cases hl
  obtain ⟨o,ho,hbi⟩:=hbx.1 h0
  cases hbi with
  | rows _ rs c hr hz0 hB =>
  cases hr
  have hsz:l₀.sz=sz:=hz0 _ _ _ rfl
  have hL:l₀.L=rows.length:=by rw[←hB.VU];simp
  have hcs:c.size=l₀.C*sz:=by rw[←hsz];exact hB.size
  have hc:∀ a j (ha:a<rows.length) (hj:j<rows[a].length),∃ v,c[a*sz+j]? = some v∧cN w (bL cx ρ σ) rows[a][j] v:=fun a j ha hj=>by
   have ha':a<(aU rows).length:=by simpa using ha
   have hj':j<(aU rows)[a].length:=by simpa [aU] using hj
   obtain ⟨v,u1,u2⟩:=hB.cell a j ha' hj'
   have hx:(aU rows)[a][j] = .p rows[a][j]:=by simp[aU]
   rw[hx] at u2
   cases u2 with
   | p _ _ u2=>exact ⟨v,by rw[←hsz];exact u1,u2⟩
  have hone:=hB.one
  have hLC':rows.length≤l₀.C:=by omega
  have m4:rows.length*sz≤l₀.C*sz:=Nat.mul_le_mul_right _ hLC'
  have hcl:(c.toList.take (rows.length*sz)).length=rows.length*sz:=by rw[List.length_take];exact Nat.min_eq_left (by rw[show c.toList.length=c.size from Array.length_toList];omega)
  have hcg:∀ j v,(c.toList.take (rows.length*sz))[j]? = some v→w.cell? ⟨l₀.bJ,0+j,none⟩=some v:=fun j v hj=>by
   have hlt:j<rows.length*sz:=by rw[←hcl];exact (List.getElem?_eq_some_iff.1 hj).1
   rw[dM hlt] at hj
   simp[World.cell?,ho,hj]
  have hc1:∀ v∈c.toList.take (rows.length*sz),v.oneCell'=true:=fun v hv=>by
   obtain ⟨p,hp⟩:=List.mem_iff_getElem?.1 (List.mem_of_mem_take hv)
   exact hone p v (by simpa using hp)
  have hfz:∀ j,w.frozen? ⟨l₀.bJ,j,none⟩=false:=fun j=>by simp[World.frozen?,ho]
  have hown:bL cx ρ σ l₀.bJ:=.inr ⟨k,l₀,_,hσ,hl₀,h0,rfl⟩
  have hvb:vb≠l₀.bJ:=fun e=>k4 (e ▸ hown)
  have hvw:vb<w.heap.size:=k5
  have hbb:∀ i,some l₀.bJ=some i→0<l₀.L+l₀.C∧l₀.bJ=i:=fun i h=>⟨h0,Option.some.inj h⟩
  have hC63:l₀.C≤9223372036854775807:=by unfold maxLen at hCm;omega
  have hsp:∀ j,j<l₀.C*sz→(w.cell? ⟨l₀.bJ,0+j,none⟩).isSome=true:=fun j hj=>by
   have:j<c.size:=by omega
   simp[World.cell?,ho,this]
  rw[hL]
  have hdl:((c.toList.take (rows.length*sz)).drop (ii*sz)).length=(rows.length-ii)*sz:=by rw[List.length_drop,hcl,Nat.sub_mul]
  have hdg:∀ p,p<(rows.length-ii)*sz→((c.toList.take (rows.length*sz)).drop (ii*sz))[p]? = c[ii*sz+p]? := fun p hp=>by
   rw[List.getElem?_drop,dM (by omega)]
  by_cases c1:rows.length+1≤l₀.C
  ·have m5:(rows.length+1)*sz≤l₀.C*sz:=Nat.mul_le_mul_right _ c1
   by_cases c2:ii<rows.length
   ·obtain ⟨cv,ce,cz,hcv,hcv2⟩:=AG3 (hVc 0 _ (List.getElem?_eq_getElem (by omega)))
    refine (RC L k7 l₀.bJ 0 rows.length l₀.C ii vb voff 1 vc (c.toList.take (rows.length*sz)) V w c2 (by omega) c1 hC63 hvb hcl (by rw[hVl,Nat.one_mul]) hcg (fun j hj=>hsp j (by omega)) hfz hVc hc1 hV1 ce l₀.e cv.size c.size (by simp[World.shape?,hcv]) (by have:=(Array.getElem?_eq_some_iff.1 hcv2).1;omega) (by simp[World.shape?,ho])).mono ?_
    rintro e w' ⟨rfl,rfl⟩
    simp only[Nat.zero_add]
    have hat:((w.drew.setCells l₀.bJ ((ii+1)*sz) ((c.toList.take (rows.length*sz)).drop (ii*sz))).setCells l₀.bJ (ii*sz) V).heap[l₀.bJ]? = some (.cells (AS (AS c ((ii+1)*sz) ((c.toList.take (rows.length*sz)).drop (ii*sz))) (ii*sz) V) l₀.e (0,0)) :=
     iZ _ _ _ _ _ _ _ (iZ _ _ _ _ _ _ _ ho)
    have r1:=fS l₀.bJ V (ii*sz) (w.drew.setCells l₀.bJ ((ii+1)*sz) ((c.toList.take (rows.length*sz)).drop (ii*sz)))
    have r2:=fS l₀.bJ ((c.toList.take (rows.length*sz)).drop (ii*sz)) ((ii+1)*sz) w.drew
    refine fin (b:=some l₀.bJ) (c:=c) hl₀ hbb (DT ho hat (by rw[dE,dE]) (r1.2.2.2.trans r2.2.2.2) (fun q hq=>by rw[jA _ hq,jA _ hq];rfl) (r1.1.trans r2.1) (r1.2.1.trans r2.2.1) (r1.2.2.1.trans r2.2.2.1)) hat c1 hCm (by rw[dE,dE];exact hcs) hc (fun p hp=>?_) (fun p hp=>?_) (fun p hp=>?_) (oL _ _ _ (oL _ _ _ hone fun v hv=>hc1 v (List.mem_of_mem_drop hv)) hV1)
    ·rw[fB _ _ _ _ (by rw[dE];omega),if_neg (by omega),fB _ _ _ _ (by omega),if_neg (by omega)]
    ·rw[fB _ _ _ _ (by rw[dE];omega),if_pos (by omega),Nat.add_sub_cancel_left]
    ·rw[fB _ _ _ _ (by rw[dE];omega),if_neg (by omega),fB _ _ _ _ (by omega),if_pos (by omega),Nat.add_sub_cancel_left]
     exact hdg p hp
   ·have hii:ii=rows.length:=by omega
    subst hii
    refine (HX L l₀.bJ 0 rows.length l₀.C vb voff 1 vc V w (by omega) c1 hC63 (by rw[hVl,Nat.one_mul]) (fun j hj=>by rw[Nat.add_assoc];exact hsp _ (by omega)) hfz hVc hV1).mono ?_
    rintro e w' ⟨rfl,rfl⟩
    simp only[Nat.zero_add]
    have hat:=iZ l₀.bJ l₀.e (0,0) V (rows.length*sz) w c ho
    have r1:=fS l₀.bJ V (rows.length*sz) w
    refine fin (b:=some l₀.bJ) (c:=c) hl₀ hbb (DT ho hat (dE ..) r1.2.2.2 (fun q hq=>jA _ hq ..) r1.1 r1.2.1 r1.2.2.1) hat c1 hCm (by rw[dE];exact hcs) hc (fun p hp=>?_) (fun p hp=>?_) (fun p hp=>by simp at hp) (oL _ _ _ hone hV1)
    ·rw[fB _ _ _ _ (by omega),if_neg (by omega)]
    ·rw[fB _ _ _ _ (by omega),if_pos (by omega),Nat.add_sub_cancel_left]
  ·have hC:=@hCap l₀.C
   have m6:=Nat.mul_le_mul_right sz hC.1
   by_cases c2:ii<rows.length
   ·refine (WO L k7 hzc l₀.bJ 0 rows.length l₀.C ii vb voff 1 vc (c.toList.take (rows.length*sz)) V w c2 (by omega) hLC' (by omega) hn47 hby hcl (by rw[hVl,Nat.one_mul]) hcg hVc hc1 hV1).mono ?_
    rintro e w' ⟨rfl,rfl⟩
    generalize hG:grownCap w (rows.length+1) l₀.C (ρn.t 9)=G at hC m6 ⊢
    generalize hROW:((c.toList.take (rows.length*sz)).take (ii*sz)).toArray++Builtin.zeroCells zv.cells (rows.length+1-ii)++Builtin.zeroCells zv.cells (G-(rows.length+1))=ROW
    have hRs:ROW.size=G*sz:=by
     rw[←hROW,Array.size_append,Array.size_append,zlen,zlen,List.size_toArray,List.length_take,hcl,Nat.sub_mul,Nat.sub_mul]
     omega
    have hRg:∀ p,p<ii*sz→ROW[p]? = c[p]? := fun p hp=>by
     rw[←hROW,Array.append_assoc,Array.getElem?_append_left (by rw[List.size_toArray,List.length_take,hcl];omega),List.getElem?_toArray,List.getElem?_take,if_pos hp,dM (by omega)]
    have hR1:∀ (p:Nat) (v:Value),ROW[p]? = some v→v.oneCell'=true:=fun p v hp=>by
     rw[←hROW,Array.getElem?_append] at hp
     split at hp
     ·rw[Array.getElem?_append] at hp
      split at hp
      ·rw[List.getElem?_toArray] at hp
       exact hc1 v (List.mem_of_mem_take (List.mem_of_getElem? hp))
      ·exact zone _ v (by rw[Array.mem_toList_iff];exact Array.mem_of_getElem? hp)
     ·exact zone _ v (by rw[Array.mem_toList_iff];exact Array.mem_of_getElem? hp)
    have hat0:(w.alloc (.cells ROW (ρn.t 9))).drew.heap[w.heap.size]? = some (.cells ROW (ρn.t 9) (0,0)):=new_at _
    have hat:(((w.alloc (.cells ROW (ρn.t 9))).drew.setCells w.heap.size (ii*sz) V).drew.setCells w.heap.size ((ii+1)*sz) ((c.toList.take (rows.length*sz)).drop (ii*sz))).heap[w.heap.size]? = some (.cells (AS (AS ROW (ii*sz) V) ((ii+1)*sz) ((c.toList.take (rows.length*sz)).drop (ii*sz))) (ρn.t 9) (0,0)) :=
     iZ _ _ _ _ _ _ _ (iZ _ _ _ _ _ _ _ hat0)
    have r1:=fS w.heap.size ((c.toList.take (rows.length*sz)).drop (ii*sz)) ((ii+1)*sz) ((w.alloc (.cells ROW (ρn.t 9))).drew.setCells w.heap.size (ii*sz) V).drew
    have r2:=fS w.heap.size V (ii*sz) (w.alloc (.cells ROW (ρn.t 9))).drew
    refine fin (b:=none) (c:=c) hl₀ (fun i h=>by cases h) (DS (by rw[r1.2.2.2];refine Nat.lt_of_lt_of_eq ?_ r2.2.2.2.symm;show w.heap.size<(w.heap.push _).size;simp) (fun q hq=>by
     rw[jA _ (by omega)]
     refine (jA _ (by omega) V (ii*sz) _).trans ?_
     exact new_lo _ q hq) (r1.1.trans r2.1) (r1.2.1.trans r2.2.1) (r1.2.2.1.trans r2.2.2.1)) hat hC.1 hC.2 (by rw[dE,dE];exact hRs) hc (fun p hp=>?_) (fun p hp=>?_) (fun p hp=>?_) (oL _ _ _ (oL _ _ _ hR1 hV1) fun v hv=>hc1 v (List.mem_of_mem_drop hv))
    ·rw[fB _ _ _ _ (by rw[dE];omega),if_neg (by omega),fB _ _ _ _ (by omega),if_neg (by omega)]
     exact hRg p hp
    ·rw[fB _ _ _ _ (by rw[dE];omega),if_neg (by omega),fB _ _ _ _ (by omega),if_pos (by omega),Nat.add_sub_cancel_left]
    ·rw[fB _ _ _ _ (by rw[dE];omega),if_pos (by omega),Nat.add_sub_cancel_left]
     exact hdg p hp
   ·have hii:ii=rows.length:=by omega
    subst hii
    refine (tU L (some ⟨l₀.bJ,0,none⟩) rows.length l₀.C vb voff 1 vc (c.toList.take (rows.length*sz)) V w (by omega) hLC' (by omega) hn47 hby hcl (by rw[hVl,Nat.one_mul]) (fun h=>by cases h) (fun a ha j v hj=>by cases ha;rw[Addr.add_lit];exact hcg j v hj) hVc hV1).mono ?_
    rintro e w' ⟨rfl,rfl⟩
    generalize hG:grownCap w (rows.length+1) l₀.C (ρn.t 9)=G at hC m6 ⊢
    refine fin (b:=none) (c:=c) hl₀ (fun i h=>by cases h) (DS (by show w.heap.size<(w.heap.push _).size;simp) (new_lo _) rfl rfl rfl) (new_at _) hC.1 hC.2 ?_ hc (fun p hp=>?_) (fun p hp=>?_) (fun p hp=>by simp at hp) ?_
    ·rw[Array.size_append,zlen,List.size_toArray,List.length_append,hcl,hVl,Nat.sub_mul]
     omega
    ·rw[Array.getElem?_append_left (by rw[List.size_toArray,List.length_append,hcl];omega),List.getElem?_toArray,List.getElem?_append_left (by omega),dM (by omega)]
    ·rw[Array.getElem?_append_left (by rw[List.size_toArray,List.length_append,hcl,hVl];omega),List.getElem?_toArray,List.getElem?_append_right (by omega),hcl,Nat.add_sub_cancel_left]
    ·intro p v hp
     rw[Array.getElem?_append] at hp
     split at hp
     ·rw[List.getElem?_toArray] at hp
      rcases List.mem_append.1 (List.mem_of_getElem? hp) with h|h
      ·exact hc1 v h
      ·exact hV1 v h
     ·exact zone _ v (by rw[Array.mem_toList_iff];exact Array.mem_of_getElem? hp)
end
def V4 (Z:Nat) (rows:List (List T)):List T→Option (List (List T))
 | [.v (.int .i64 i),.v (.int .i64 j)]=>match decide (0≤i)&&decide (j=i+1)&&decide (i.toNat<rows.length)&&fE Z rows with
  | true=>some (rows.take i.toNat++rows.drop (i.toNat+1))
  | false=>none
 | _=>none
theorem APL {w:World} {own:Nat→Prop} {Z i:Nat} {rows:List (List T)} {c cur:Array Value} (hi:i<rows.length) (hwid:∀ r∈rows,r.length=Z)
  (hc:∀ a j (ha:a<rows.length) (hj:j<rows[a].length),∃ v,c[a*Z+j]? = some v∧cN w own rows[a][j] v)
  (h1:∀ p,p<i*Z→cur[p]? = c[p]?) (h3:∀ p,p<(rows.length-(i+1))*Z→cur[i*Z+p]? = c[(i+1)*Z+p]?) :
  ∀ a j (ha:a<(rows.take i++rows.drop (i+1)).length) (hj:j<(rows.take i++rows.drop (i+1))[a].length),∃ v,cur[a*Z+j]? = some v∧cN w own (rows.take i++rows.drop (i+1))[a][j] v:=by
 intro a j ha hj
 have hlt:(rows.take i).length=i:=by rw[List.length_take];omega
 have hal:a<rows.length-1:=by simp at ha;omega
 by_cases c1:a<i
 ·have hh:a<rows.length:=by omega
  have e:(rows.take i++rows.drop (i+1))[a]=rows[a]:=by rw[List.getElem_append_left (by omega)];simp
  have hj':j<rows[a].length:=by rw[e] at hj;exact hj
  have hjZ:j<Z:=by rw[←hwid _ (List.getElem_mem hh)];exact hj'
  obtain ⟨v,q1,q2⟩:=hc a j hh hj'
  have:=Nat.mul_le_mul_right Z (show a+1≤i by omega)
  rw[Nat.add_mul,Nat.one_mul] at this
  refine ⟨v,by rw[h1 _ (by omega)];exact q1,?_⟩
  simp_all
 ·have hh:a+1<rows.length:=by omega
  have e:(rows.take i++rows.drop (i+1))[a]=rows[a+1]:=by
   rw[List.getElem_append_right (by omega)]
   rw[List.getElem_drop]
   congr 1;omega
  have hj':j<rows[a+1].length:=by rw[e] at hj;exact hj
  have hjZ:j<Z:=by rw[←hwid _ (List.getElem_mem hh)];exact hj'
  obtain ⟨v,q1,q2⟩:=hc (a+1) j hh hj'
  have m1:(a-i)*Z+Z≤(rows.length-(i+1))*Z:=by
   have:=Nat.mul_le_mul_right Z (show a-i+1≤rows.length-(i+1) by omega)
   rwa[Nat.add_mul,Nat.one_mul] at this
  have m2:a*Z=i*Z+(a-i)*Z:=by rw[←Nat.add_mul];congr 1;omega
  have m3:(a+1)*Z=(i+1)*Z+(a-i)*Z:=by rw[←Nat.add_mul];congr 1;omega
  refine ⟨v,?_,?_⟩
  ·rw[m2,Nat.add_assoc,h3 _ (by omega),←Nat.add_assoc,←m3];exact q1
  ·simp_all
theorem TP {cx:Cx} {ρ:Nat→Option Loc} {σ:Nat→Option bB} {n:Nat} {w:World} (hI:Inv cx ρ σ n w) {k z:Nat} {ro:Bool} {rows:List (List T)} {l:Loc} (hσ:σ k=some (.arr ro z rows)) (hl:ρ k=some l) (h0:0<l.L+l.C) :
  ∃ c,w.heap[l.bJ]? = some (.cells c l.e (0,0))∧l.sz=z∧l.L=rows.length∧c.size=l.C*z∧rows.length≤l.C∧0<z∧rows.length≤2 ^ 47∧(∀ r∈rows,r.length=z) ∧
   (∀ a j (ha:a<rows.length) (hj:j<rows[a].length),∃ v,c[a*z+j]? = some v∧cN w (bL cx ρ σ) rows[a][j] v)∧∀ (p:Nat) (v:Value),c[p]? = some v→v.oneCell'=true:=by
 obtain ⟨l',hl',hbx⟩:=hI.boxes k _ hσ
 rw[hl] at hl';cases hl'
 obtain ⟨o,ho,hbi⟩:=hbx.1 h0
 cases hbi with
 | rows _ rs c hr hz0 hB =>
 cases hr
 have hsz:l.sz=z:=hz0 _ _ _ rfl
 refine ⟨c,ho,hsz,by rw[←hB.VU];simp,by rw[←hsz];exact hB.size,by simpa using hB.len,by rw[←hsz];exact hB.pos,by simpa using hB.small,fun r hr=>?_,fun a j ha hj=>?_,hB.one⟩
 ·have:=hB.width (r.map .p) (by simp only[aU,List.mem_map];exact ⟨r,hr,rfl⟩)
  rw[←hsz];simpa using this
 ·have ha':a<(aU rows).length:=by simpa using ha
  have hj':j<(aU rows)[a].length:=by simpa [aU] using hj
  obtain ⟨v,u1,u2⟩:=hB.cell a j ha' hj'
  have hx:(aU rows)[a][j] = .p rows[a][j]:=by simp[aU]
  rw[hx] at u2
  cases u2 with
  | p _ _ u2=>exact ⟨v,by rw[←hsz];exact u1,u2⟩
section
variable {P : Program} {ρn : Shelf.Ren} {Z : Nat} {zv : Value}
theorem oI (L:AE0 P ρn Z zv) (hzc:zv.cells.size=Z) (hz1:∀ u∈zv.cells.toList,u.oneCell'=true) (hentry:∃ fn,P.funcs[ρn.f 45]? = some fn∧(fn.name == "runtime.NumGoroutine")=false∧fn.body.isNone=false) :
  cY P (ρn.f 45) (mP Z (V4 Z)):=by
 refine ⟨hentry,fun cx ρ σ n w args vs d σ' n' hP hG hI ha hg=>?_⟩
 unfold mP at hg
 split at hg
 case h_2=>cases hg
 rename_i k rest
 split at hg
 case h_2=>cases hg
 rename_i z' rows hσ
 split at hg
 case h_2=>cases hg
 rename_i ts hz' hts
 have hz':z'=Z:=of_decide_eq_true hz'
 subst hz'
 simp only[Option.map_eq_some_iff,Prod.mk.injEq] at hg
 obtain ⟨rows',hg,rfl,rfl,rfl⟩:=hg
 unfold V4 at hg
 split at hg
 case h_2=>cases hg
 rename_i i j
 split at hg
 case h_2=>cases hg
 rename_i hc
 cases hg
 simp only[Bool.and_eq_true,decide_eq_true_eq] at hc
 obtain ⟨⟨⟨hi0,hij⟩,hin⟩,hall⟩:=hc
 have hvs:∃ v1,vs = #[v1,.int .i64 i,.int .i64 j]∧Rd w (bL cx ρ σ) ρ (.own k) v1:=by
  have e:=fG hts
  subst e
  have hs:vs.size=3:=by rw[ha.1];simp
  obtain ⟨l⟩:=vs
  match l,hs with
  | [v1,v2,v3],_ =>
   have h0:=ha.2 0 (by simp)
   have h1:=ha.2 1 (by simp)
   have h2:=ha.2 2 (by simp)
   have h1':v2 = .int .i64 i:=by
    cases h1 with
    | p _ _ h1=>cases h1;rfl
   have h2':v3 = .int .i64 j:=by
    cases h2 with
    | p _ _ h2=>cases h2;rfl
   simp_all
 obtain ⟨v1,rfl,g1⟩:=hvs
 generalize hii:i.toNat=ii at hin ⊢
 have hi:i=(ii:Int):=by omega
 subst hi
 have hj:j=((ii+1:Nat):Int):=by omega
 subst hj
 cases g1 with
 | c0 _ l a hl h0 =>
  obtain ⟨l',hl',hbx⟩:=hI.boxes k _ hσ
  rw[hl] at hl';cases hl'
  obtain ⟨ro,zz,hx⟩:=hbx.2 h0
  simp_all
 | own _ l hl h0 hLC hCm =>
 obtain ⟨c,ho,hsz,hL,hcs,hLC',hZ,hsm,hwid,hc,hone⟩:=TP hI hσ hl h0
 rw[hL]
 have m0:(ii+1)*z'≤rows.length*z':=Nat.mul_le_mul_right _ hin
 have m1:(ii+1)*z'=ii*z'+z':=by rw[Nat.add_mul,Nat.one_mul]
 have m2:(rows.length-(ii+1))*z'=rows.length*z'-(ii+1)*z':=Nat.sub_mul ..
 have m4:rows.length*z'≤l.C*z':=Nat.mul_le_mul_right _ hLC'
 have m5:(ii+(rows.length-(ii+1)))*z'=ii*z'+(rows.length-(ii+1))*z':=Nat.add_mul ..
 have hcl:(c.toList.take (rows.length*z')).length=rows.length*z':=by rw[List.length_take];exact Nat.min_eq_left (by rw[show c.toList.length=c.size from Array.length_toList];omega)
 have hcg:∀ j v,(c.toList.take (rows.length*z'))[j]? = some v→w.cell? ⟨l.bJ,0+j,none⟩=some v:=fun j v hj=>by
  have hlt:j<rows.length*z':=by rw[←hcl];exact (List.getElem?_eq_some_iff.1 hj).1
  rw[dM hlt] at hj
  simp[World.cell?,ho,hj]
 have hc1:∀ v∈c.toList.take (rows.length*z'),v.oneCell'=true:=fun v hv=>by
  obtain ⟨p,hp⟩:=List.mem_iff_getElem?.1 (List.mem_of_mem_take hv)
  exact hone p v (by simpa using hp)
 have hfz:∀ j,w.frozen? ⟨l.bJ,j,none⟩=false:=fun j=>by simp[World.frozen?,ho]
 have zone:=O7 hz1 (by omega)
 have zlen:∀ m,(Builtin.zeroCells zv.cells m).toList.length=m*z':=fun m=>by simp[Builtin.zeroCells,hzc]
 have hdl:((c.toList.take (rows.length*z')).drop ((ii+1)*z')).length=(rows.length-(ii+1))*z':=by rw[List.length_drop,hcl,Nat.sub_mul]
 have hdg:∀ p,p<(rows.length-(ii+1))*z'→((c.toList.take (rows.length*z')).drop ((ii+1)*z'))[p]? = c[(ii+1)*z'+p]? := fun p hp=>by
  simp_all
 have hbb:∀ i,some l.bJ=some i→0<l.L+l.C∧l.bJ=i:=fun i h=>⟨h0,Option.some.inj h⟩
 have hl':(rows.take ii++rows.drop (ii+1)).length=rows.length-(ii+1-ii):=by simp;omega
 have hwid':∀ r∈rows.take ii++rows.drop (ii+1),r.length=z':=fun r hr=>by
  rcases List.mem_append.1 hr with h|h
  ·exact hwid r (List.mem_of_mem_take h)
  ·exact hwid r (List.mem_of_mem_drop h)
 refine (A4S L hzc zone l.bJ 0 l.C rows.length ii (ii+1) (c.toList.take (rows.length*z')) w hcl hcg hfz hc1 hLC' (by unfold maxLen at hCm;omega) (by omega) (by omega)).mono ?_
 rintro e w' ⟨rfl,rfl⟩
 simp only[Nat.zero_add]
 generalize hZL:(Builtin.zeroCells zv.cells (rows.length-(ii+(rows.length-(ii+1))))).toList=ZL
 have hZ1:∀ v∈ZL,v.oneCell'=true:=by rw[←hZL];exact zone _
 have hat:((w.drew.setCells l.bJ (ii*z') ((c.toList.take (rows.length*z')).drop ((ii+1)*z'))).setCells l.bJ ((ii+(rows.length-(ii+1)))*z') ZL).heap[l.bJ]? = some (.cells (AS (AS c (ii*z') ((c.toList.take (rows.length*z')).drop ((ii+1)*z'))) ((ii+(rows.length-(ii+1)))*z') ZL) l.e (0,0)) :=
  iZ _ _ _ _ _ _ _ (iZ _ _ _ _ _ _ _ ho)
 have r1:=fS l.bJ ZL ((ii+(rows.length-(ii+1)))*z') (w.drew.setCells l.bJ (ii*z') ((c.toList.take (rows.length*z')).drop ((ii+1)*z')))
 have r2:=fS l.bJ ((c.toList.take (rows.length*z')).drop ((ii+1)*z')) (ii*z') w.drew
 have ht:=DT ho hat (by rw[dE,dE]) (r1.2.2.2.trans r2.2.2.2) (fun q hq=>by rw[jA _ hq,jA _ hq];rfl) (r1.1.trans r2.1) (r1.2.1.trans r2.2.1) (r1.2.2.1.trans r2.2.2.1)
 have hcell:=APL (cur:=AS (AS c (ii*z') ((c.toList.take (rows.length*z')).drop ((ii+1)*z'))) ((ii+(rows.length-(ii+1)))*z') ZL) hin hwid hc
  (fun p hp=>by rw[fB _ _ _ _ (by rw[dE];omega),if_neg (by omega),fB _ _ _ _ (by omega),if_neg (by omega)])
  (fun p hp=>by
   rw[fB _ _ _ _ (by rw[dE];omega),if_neg (by omega),fB _ _ _ _ (by omega),if_pos (by omega),Nat.add_sub_cancel_left]
   exact hdg p hp)
 obtain ⟨q1,q2,q3⟩:=A8D hI ht hσ hl rfl hbb (rows:=rows.take ii++rows.drop (ii+1)) hat hZ (by rw[hl'];omega) hCm (by rw[hl'];omega) (by rw[dE,dE];exact hcs) (by rw[hl'];omega) hwid' hcell (oL _ _ _ (oL _ _ _ hone fun v hv=>hc1 v (List.mem_of_mem_drop hv)) hZ1)
 refine ⟨_,_,rfl,q1,q2,?_⟩
 simp_all
end
section
variable {P : Program} {ρn : Shelf.Ren} {Z by_ : Nat} {zv : Value}
theorem AAZ {cx:Cx} {ρ:Nat→Option Loc} {σ:Nat→Option bB} {n:Nat} {w:World} (hI:Inv cx ρ σ n w) (L:SlLaysE0.n41 cx.P ρn) (i0:TypeInfo) (hi0:cx.P.info? (ρn.t 23)=some i0) (hz0:i0.zero=some zv) (hzs:i0.size=Z) (hzb:i0.bytes=by_)
  (z23:∀ w,(Go.sizeOf (ρn.t 23)).run cx.P w = .ok Z w) (hZ:0<Z) (hzc:zv.cells.size=Z) (hz1:∀ u∈zv.cells.toList,u.oneCell'=true) {rows:List (List T)} (hwid:∀ r∈rows,r.length=Z) (hby:rows.length*by_≤140737488355328) (h47:rows.length≤140737488355328)
  {b off cap:Nat} (hpos:0<rows.length) {cs:List Value} (hl:cs.length=rows.length*Z) (hc:∀ j u,cs[j]? = some u→w.cell? ⟨b,off+j,none⟩=some u) (h1:∀ u∈cs,u.oneCell'=true)
  (hrd:∀ a j (ha:a<rows.length) (hj:j<rows[a].length),∃ v,cs[a*Z+j]? = some v∧cN w (bL cx ρ σ) rows[a][j] v) :
  Calls cx.P (ρn.f 41) #[.slice (some ⟨b,off,none⟩) rows.length cap] w fun e w'=>∃ v ρ',e = .returned v∧Inv cx ρ' (bY σ n (some (.arr false Z rows))) (n+1) w'∧bO cx ρ ρ' σ (bY σ n (some (.arr false Z rows))) w w'∧Rd w' (bL cx ρ' (bY σ n (some (.arr false Z rows)))) ρ' (.own n) v:=by
 refine (A9E L i0 zv Z by_ hi0 hz0 hzs hzb z23 b off rows.length cap cs w hpos hl h47 hby hc h1).mono ?_
 rintro e w' ⟨rfl,rfl⟩
 have hG1:=grownCap_ge (w.alloc (.cells #[] (ρn.t 23))) rows.length 0 (ρn.t 23)
 have hG2:=grownCap_le_maxLen (w.alloc (.cells #[] (ρn.t 23))) rows.length 0 (ρn.t 23) (by unfold maxLen;omega)
 generalize grownCap (w.alloc (.cells #[] (ρn.t 23))) rows.length 0 (ρn.t 23)=G at hG1 hG2 ⊢
 have zone:=O7 hz1 (by omega)
 have zlen:∀ m,(Builtin.zeroCells zv.cells m).size=m*Z:=fun m=>by simp[Builtin.zeroCells,hzc]
 have mG:=Nat.mul_le_mul_right Z hG1
 obtain ⟨cur,hcur⟩:∃ cur,cur=cs.toArray++Builtin.zeroCells zv.cells (G-rows.length):=⟨_,rfl⟩
 rw[←hcur]
 obtain ⟨w',hw'⟩:∃ w',w'=(w.alloc (.cells #[] (ρn.t 23))).drew.alloc (.cells cur (ρn.t 23)):=⟨_,rfl⟩
 rw[←hw']
 have hheap:w'.heap=(w.heap.push (.cells #[] (ρn.t 23))).push (.cells cur (ρn.t 23)):=by rw[hw'];rfl
 have hsz':w'.heap.size=w.heap.size+2:=by rw[hheap];simp
 have hlo:∀ q,q<w.heap.size→w'.heap[q]? = w.heap[q]? := fun q hq=>by
  rw[hheap,Array.getElem?_push,if_neg (by simp;omega),Array.getElem?_push,if_neg (by omega)]
 have hat:w'.heap[w.heap.size+1]? = some (.cells cur (ρn.t 23) (0,0)):=by
  rw[hheap,Array.getElem?_push,if_pos (by simp)]
 have hbel:Below w.heap.size w w':=⟨by rw[hw'];rfl,by rw[hw'];rfl,by rw[hw'];rfl,by omega,hlo⟩
 have hbi:dV w' (fun b=>bL cx ρ σ b∨(0<rows.length+G∧b=w.heap.size+1)) (bY ρ n (some ⟨w.heap.size+1,Z,G,ρn.t 23,rows.length⟩)) ⟨w.heap.size+1,Z,G,ρn.t 23,rows.length⟩ (.cells cur (ρn.t 23) (0,0)) (.arr false Z rows):=by
  refine .rows (l:=⟨w.heap.size+1,Z,G,ρn.t 23,rows.length⟩) _ (aU rows) cur rfl (fun ro z' rows' e=>by cases e;rfl) ⟨?_,hZ,by simpa using h47,by simpa using hG1,by simp,fun r hr=>?_,fun i j hi hj=>?_,?_⟩
  ·show cur.size=G*Z
   rw[hcur,Array.size_append,zlen,List.size_toArray,hl,Nat.sub_mul];omega
  ·simp only[aU,List.mem_map] at hr
   obtain ⟨q,hq,rfl⟩:=hr
   rw[List.length_map];exact hwid q hq
  ·have hi':i<rows.length:=by simpa using hi
   have hj':j<rows[i].length:=by simpa [aU] using hj
   obtain ⟨v,u1,u2⟩:=hrd i j hi' hj'
   have hlt:i*Z+j<cs.length:=(List.getElem?_eq_some_iff.1 u1).1
   refine ⟨v,?_,?_⟩
   ·show cur[i*Z+j]? = some v
    rw[hcur,Array.getElem?_append_left (by simpa using hlt),List.getElem?_toArray];exact u1
   ·have hx:(aU rows)[i][j] = .p rows[i][j]:=by simp[aU]
    rw[hx]
    refine .p _ _ (u2.mono (fun b _ hb=>hlo b hb) (by omega) fun b hb hn h=>?_)
    rcases h with h|⟨_,h⟩
    ·exact hn h
    ·have h:b=w.heap.size+1:=h
     omega
  ·intro p v hp
   rw[hcur,Array.getElem?_append] at hp
   split at hp
   ·rw[List.getElem?_toArray] at hp
    exact h1 v (List.mem_of_getElem? hp)
   ·exact zone _ v (by rw[Array.mem_toList_iff];exact Array.mem_of_getElem? hp)
 obtain ⟨g1,g2⟩:=hI.lW (Nat.le_refl n) ⟨w.heap.size+1,Z,G,ρn.t 23,rows.length⟩ (.arr false Z rows) hbel (fun _=>⟨by show w.heap.size≤w.heap.size+1;omega,by show w.heap.size+1<_;omega⟩) ⟨fun _=>⟨_,hat,hbi⟩,fun h=>by have:rows.length+G=0:=h;omega⟩
 exact ⟨_,_,rfl,g1,g2,.own n ⟨w.heap.size+1,Z,G,ρn.t 23,rows.length⟩ (fC ..) (by show 0<rows.length+G;omega) hG1 hG2⟩
theorem w9 {cx:Cx} {ρ:Nat→Option Loc} {σ:Nat→Option bB} {n:Nat} {w w':World} (hI:Inv cx ρ σ n w) (hb:Below w.heap.size w w') (Z:Nat) (e:TypeId) (a:Option Addr) :
  ∃ v ρ',Ending.returned (.slice a 0 0) = .returned v∧Inv cx ρ' (bY σ n (some (.arr false Z []))) (n+1) w'∧bO cx ρ ρ' σ (bY σ n (some (.arr false Z []))) w w'∧Rd w' (bL cx ρ' (bY σ n (some (.arr false Z [])))) ρ' (.own n) v:=by
 obtain ⟨g1,g2⟩:=hI.lW (Nat.le_refl n) ⟨0,Z,0,e,0⟩ (.arr false Z []) hb (fun h=>absurd h (by show ¬ 0<0+0;omega)) ⟨fun h=>absurd h (by show ¬ 0<0+0;omega),fun _=>⟨false,Z,rfl⟩⟩
 exact ⟨_,_,rfl,g1,g2,.c0 n ⟨0,Z,0,e,0⟩ a (fC ..) rfl⟩
theorem pM (L:SlLaysE0.n41 P ρn) (hi:∃ i0,P.info? (ρn.t 23)=some i0∧i0.zero=some zv∧i0.size=Z∧i0.bytes=by_)
  (z23:∀ w,(Go.sizeOf (ρn.t 23)).run P w = .ok Z w) (hZ:0<Z) (hzc:zv.cells.size=Z) (hz1:∀ u∈zv.cells.toList,u.oneCell'=true) (hentry:∃ fn,P.funcs[ρn.f 41]? = some fn∧(fn.name == "runtime.NumGoroutine")=false∧fn.body.isNone=false) :
  cY P (ρn.f 41) (CG Z by_):=by
 obtain ⟨i0,hi0,hz0,hzs,hzb⟩:=hi
 refine ⟨hentry,fun cx ρ σ n w args vs d σ' n' hP hG hI ha hg=>?_⟩
 subst hP
 unfold CG at hg
 split at hg
 ·rename_i k
  split at hg
  case h_2=>cases hg
  rename_i ro z' rows hσ
  split at hg
  case h_2=>cases hg
  rename_i hc
  obtain ⟨rfl,rfl,rfl⟩:=hg
  simp only[Bool.and_eq_true,decide_eq_true_eq] at hc
  obtain ⟨⟨rfl,hby⟩,h47⟩:=hc
  have hvs:∃ v1,vs = #[v1]∧Rd w (bL cx ρ σ) ρ (.own k) v1:=by
   have hs:vs.size=1:=ha.1
   obtain ⟨l⟩:=vs
   match l,hs with
   | [v1],_=>exact ⟨v1,rfl,by simpa using ha.2 0 (by simp)⟩
  obtain ⟨v1,rfl,g1⟩:=hvs
  cases g1 with
  | c0 _ l a hl h0 =>
   obtain ⟨l',hl',hbx⟩:=hI.boxes k _ hσ
   rw[hl] at hl';cases hl'
   obtain ⟨ro',zz,hx⟩:=hbx.2 h0
   cases hx
   cases a with
   | none =>
    refine (AnyE.slices_Clone_nil L 0 0 w).mono ?_
    rintro e w' ⟨rfl,rfl⟩
    exact w9 hI (Below.refl _ _) _ (ρn.t 23) _
   | some a =>
    refine (w3 L i0 z' hi0 hzs z23 a 0 w).mono ?_
    rintro e w' ⟨rfl,rfl⟩
    exact w9 hI ((Below.refl _ w).alloc (Nat.le_refl _) _) _ (ρn.t 23) _
  | own _ l hl h0 hLC hCm =>
   obtain ⟨c,ho,hsz,hL,hcs,hLC',_,hsm,hwid,hc,hone⟩:=TP hI hσ hl h0
   rw[hL]
   by_cases hpos:0<rows.length
   ·have m4:rows.length*z'≤l.C*z':=Nat.mul_le_mul_right _ hLC'
    have hcl:(c.toList.take (rows.length*z')).length=rows.length*z':=by rw[List.length_take];exact Nat.min_eq_left (by rw[show c.toList.length=c.size from Array.length_toList];omega)
    refine AAZ hI L i0 hi0 hz0 hzs hzb z23 hZ hzc hz1 hwid hby h47 hpos hcl (fun j v hj=>?_) (fun v hv=>?_) fun a j ha hj=>?_
    ·have hlt:j<rows.length*z':=by rw[←hcl];exact (List.getElem?_eq_some_iff.1 hj).1
     rw[dM hlt] at hj
     simp[World.cell?,ho,hj]
    ·obtain ⟨p,hp⟩:=List.mem_iff_getElem?.1 (List.mem_of_mem_take hv)
     exact hone p v (by simpa using hp)
    ·obtain ⟨v,u1,u2⟩:=hc a j ha hj
     have hjZ:j<z':=by rw[←hwid _ (List.getElem_mem ha)];exact hj
     have:=Nat.mul_le_mul_right z' (show a+1≤rows.length by omega)
     rw[Nat.add_mul,Nat.one_mul] at this
     exact ⟨v,by rw[dM (by omega)];exact u1,u2⟩
   ·have h0:rows=[]:=List.length_eq_zero_iff.1 (by omega)
    subst h0
    refine (w3 L i0 z' hi0 hzs z23 _ _ w).mono ?_
    rintro e w' ⟨rfl,rfl⟩
    exact w9 hI ((Below.refl _ w).alloc (Nat.le_refl _) _) _ (ρn.t 23) _
 ·rename_i t
  split at hg
  case h_2=>cases hg
  rename_i full rows hrt
  split at hg
  case h_2=>cases hg
  rename_i hc
  obtain ⟨rfl,rfl,rfl⟩:=hg
  simp only[Bool.and_eq_true,decide_eq_true_eq] at hc
  obtain ⟨⟨hall,hby⟩,h47⟩:=hc
  have hwid:∀ r∈rows,r.length=Z:=fun r hr=>by simpa using List.all_eq_true.1 hall r hr
  have hvs:∃ v1,vs = #[v1]∧cN w (bL cx ρ σ) t v1:=by
   have hs:vs.size=1:=ha.1
   obtain ⟨l⟩:=vs
   match l,hs with
   | [v1],_ =>
    have h:=ha.2 0 (by simp)
    cases h with
    | p _ _ h=>simpa using h
  obtain ⟨v1,rfl,g1⟩:=hvs
  have g2:=lD g1 hrt
  have none:∀ (a:Addr) (cap:Nat),Calls cx.P (ρn.f 41) #[.slice (some a) 0 cap] w fun e w'=>∃ v ρ',e = .returned v∧Inv cx ρ' (bY σ n (some (.arr false Z []))) (n+1) w'∧bO cx ρ ρ' σ (bY σ n (some (.arr false Z []))) w w'∧Rd w' (bL cx ρ' (bY σ n (some (.arr false Z [])))) ρ' (.own n) v:=fun a cap=>by
   refine (w3 L i0 Z hi0 hzs z23 a cap w).mono ?_
   rintro e w' ⟨rfl,rfl⟩
   exact w9 hI ((Below.refl _ w).alloc (Nat.le_refl _) _) _ (ρn.t 23) _
  cases g2 with
  | cQ _ a cap hf hn =>
   cases a with
   | none =>
    refine (AnyE.slices_Clone_nil L 0 cap w).mono ?_
    rintro e w' ⟨rfl,rfl⟩
    exact w9 hI (Below.refl _ _) _ (ρn.t 23) _
   | some a=>exact none a cap
  | sl _ _ sz bJ off cap f h1 h2 h3 h4 h45 h5 h6 h7 h8 =>
   by_cases hpos:0<rows.length
   ·have hsz:sz=Z:=by
     rw[←hwid _ (List.getElem_mem hpos)]
     simp_all
    subst hsz
    obtain ⟨news,hs⟩:=pJ (ρ:=ρ) (own:=bL cx ρ σ) (w:=w) (bJ:=bJ) (off:=off) (rows:=aU rows) hZ (fun r hr=>by
     simp only[aU,List.mem_map] at hr
     obtain ⟨q,hq,rfl⟩:=hr
     rw[List.length_map];exact hwid q hq) (fun i j hi hj=>by
     have hi':i<rows.length:=by simpa using hi
     have hj':j<rows[i].length:=by simpa [aU] using hj
     have hjs:j<sz:=by rw[←hwid _ (List.getElem_mem hi')];exact hj'
     have hx:(aU rows)[i][j] = .p rows[i][j]:=by simp[aU]
     refine ⟨f i j,by have:=(h7 i j hi' hjs).1;rwa[Nat.add_assoc] at this,(h7 i j hi' hjs).2,?_⟩
     rw[hx]
     exact .p _ _ (h8 i j hi' hj'))
    refine AAZ hI L i0 hi0 hz0 hzs hzb z23 hZ hzc hz1 hwid hby h47 hpos (cs:=news) (by rw[hs.len];simp) (fun j u hj=>(hs.cell j u hj).1) (fun u hu=>?_) fun a j ha hj=>?_
    ·obtain ⟨p,hp⟩:=List.mem_iff_getElem?.1 hu
     exact (hs.cell p u hp).2
    ·have ha':a<(aU rows).length:=by simpa using ha
     have hj':j<(aU rows)[a].length:=by simpa [aU] using hj
     obtain ⟨u,u1,u2⟩:=hs.rd a j ha' hj'
     have hx:(aU rows)[a][j] = .p rows[a][j]:=by simp[aU]
     rw[hx] at u2
     cases u2 with
     | p _ _ u2=>exact ⟨u,u1,u2⟩
   ·simp_all
 ·cases hg
end
end Go.Pv
