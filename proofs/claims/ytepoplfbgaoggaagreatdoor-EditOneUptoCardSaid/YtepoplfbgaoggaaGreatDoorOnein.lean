/-
  slices.Insert, slices.Delete, slices.Clone at elements of any number of cells: what they come to, in boxes.
-/
import Derived.Test.YtepoplfbgaoggaaGreatDoorOnekc
import Derived.Test.YtepoplfbgaoggaaGreatDoorOneim
import Derived.Test.YtepoplfbgaoggaaGreatDoorOneil
set_option linter.defProp false
set_option linter.unusedSimpArgs false
set_option linter.unusedVariables false
namespace Go.Pv
open Go Go.RowKit Go.Proofs
open List (mem_map length_take mem_append mem_of_mem_take mem_of_mem_drop size_toArray mem_iff_getElem? getElem?_toArray)
def D7:Array Value->Nat->List Value->Array Value
 | c,_,[]=>c
 | c,o,v::r=>D7 (c.setIfInBounds o v) (o+1) r
def dN:∀ (vs:List Value) (c:Array Value) (o:Nat),(D7 c o vs).size=c.size
 | [],_,_=>rfl
 | v::r,c,o=>by rw[D7,dN r];simp
def fS:∀ (vs:List Value) (c:Array Value) (o p:Nat),p<c.size->(D7 c o vs)[p]? = if o<=p/\p<o+vs.length then vs[p-o]? else c[p]?
 | [],c,o,p,h=>by rw[D7,if_neg (by rw[List.length_nil];omega)]
 | v::r,c,o,p,h=>by
  rw[D7,fS r _ (o+1) p (by simpa using h),List.length_cons];by_cases h1:o+1<=p/\p<o+1+r.length
  ·rw[if_pos h1,if_pos (by omega),show p-o=(p-(o+1))+1 by omega,List.getElem?_cons_succ]
  ·rw[if_neg h1];by_cases h2:p=o
   ·simp_all
   ·rw[if_neg (by omega),Array.getElem?_setIfInBounds,if_neg (λe=>h2 e.symm)]
def jS (b:Nat) (e:TypeId) (fz:Nat×Nat):∀ (vs:List Value) (o:Nat) (w:World) (c:Array Value),w.heap[b]? = some (.cells c e fz)->(w.setCells b o vs).heap[b]? = some (.cells (D7 c o vs) e fz)
 | [],o,w,c,h=>h
 | v::r,o,w,c,h=>by
  exact jS b e fz r (o+1) _ _ (by simp[World.setCell,Array.getElem?_modify,h])
def jT (b:Nat) {b':Nat} (hb:b'≠b):∀ (vs:List Value) (o:Nat) (w:World),(w.setCells b o vs).heap[b']? = w.heap[b']?
 | [],o,w=>rfl
 | v::r,o,w=>by
  rw[World.setCells,jT b hb r (o+1)];simp[World.setCell,Array.getElem?_modify,Ne.symm hb]
def gQ (b:Nat):∀ (vs:List Value) (o:Nat) (w:World),(w.setCells b o vs).os=w.os/\(w.setCells b o vs).tape=w.tape/\(w.setCells b o vs).output=w.output/\(w.setCells b o vs).heap.size=w.heap.size
 | [],o,w=>⟨rfl,rfl,rfl,rfl⟩
 | v::r,o,w=>by
  obtain ⟨h1,h2,h3,h4⟩:=gQ b r (o+1) (w.setCell ⟨b,o,none⟩ v);exact ⟨h1,h2,h3,h4.trans (by simp[World.setCell])⟩
structure ACF (w w':World) (b:Option Nat) (g:Nat):Prop where
 os:w'.os=w.os
 tape:w'.tape=w.tape
 output:w'.output=w.output
 size:w.heap.size<=w'.heap.size
 lt:g<w'.heap.size
 place:b=some g\/w.heap.size<=g
 other:∀ k,k<w.heap.size->b≠some k->w'.heap[k]? = w.heap[k]?
 shape:∀ k y,w.shape? k=some y->w'.shape? k=some y
section
variable {cx : Cx} {ρ : Nat -> Option Loc} {σ : Nat -> Option bL} {n : Nat} {w w' : World}
variable {cap:Nat}{cur:Array Value}
def BLJ (hI:Inv cx ρ σ n w) {b:Option Nat} {g:Nat} (ht:ACF w w' b g) {k:Nat} {x₀:bL} {l₀:Loc} (hσ:σ k=some x₀) (hρ:ρ k=some l₀) (hw:iN x₀=true) (hb:∀ i,b=some i->0<l₀.L+l₀.C/\l₀.bV=i) {z:Nat} {e:TypeId} {rows:List (List T)} (hat:w'.heap[g]? = some (.cells cur e (0,0))) (hz:0<z) (hcap:rows.length<=cap) (hmax:cap<=maxLen) (hpos:0<rows.length+cap) (hsize:cur.size=cap*z) (hsmall:rows.length<=2 ^ 47) (hwid:∀ r∈rows,r.length=z)
  (hcell:∀ i j (hi:i<rows.length) (hj:j<rows[i].length),∃ v,cur[i*z+j]? = some v/\cS w (bY cx ρ σ) rows[i][j] v) (hone:∀ (p:Nat) (v:Value),cur[p]? = some v->v.oneCell'=true) :
  Inv cx (cJ ρ n (some ⟨g,z,cap,e,rows.length⟩)) (cJ (cJ σ k none) n (some (.arr false z rows))) (n+1) w'/\bZ cx ρ (cJ ρ n (some ⟨g,z,cap,e,rows.length⟩)) σ (cJ (cJ σ k none) n (some (.arr false z rows))) w w' /\
   Rd w' (bY cx (cJ ρ n (some ⟨g,z,cap,e,rows.length⟩)) (cJ (cJ σ k none) n (some (.arr false z rows)))) (cJ ρ n (some ⟨g,z,cap,e,rows.length⟩)) (.own n) (.slice (some ⟨g,0,none⟩) rows.length cap):=by
 generalize hl:(⟨g,z,cap,e,rows.length⟩:Loc)=l;generalize hx:bL.arr false z rows=x;have hkn:k<n:=(hI.new k l₀ hρ).1;have hne:∀ i l',ρ i=some l'->i≠n:=λi l' hi e=>by have:=(hI.new i l' hi).1;omega
 have hloc:∀ i l',ρ i=some l'->cJ ρ n (some l) i=some l':=λi l' hi=>by rw[bU _ _ (hne i l' hi)];exact hi
 have hσne:∀ i y,σ i=some y->i≠n:=λi y hi=>by obtain ⟨l',h1,_⟩:=hI.boxes i y hi;exact hne i l' h1
 have hlL:0<l.L+l.C:=by rw[<-hl];exact hpos
 have hlb:l.bV=g:=by rw[<-hl]
 have hbOwn:∀ i,b=some i->bY cx ρ σ i:=λi hi=>.inr ⟨k,l₀,x₀,hσ,hρ,(hb i hi).1,(hb i hi).2⟩;have hgOwn:g<w.heap.size->b=some g:=λh=>by rcases ht.place with h'|h';exact h';omega
 have hinv:∀ i y,cJ (cJ σ k none) n (some x) i=some y->(i=n/\y=x)\/(i≠n/\i≠k/\σ i=some y):=λi y hi=>by
  by_cases e:i=n
  ·subst e;rw[jN] at hi;exact .inl ⟨rfl,(Option.some.inj hi).symm⟩
  ·rw[bU _ _ e] at hi;by_cases e':i=k
   ·subst e';rw[jN] at hi;cases hi
   ·rw[bU _ _ e'] at hi;exact .inr ⟨e,e',hi⟩
 have hown':∀ i,bY cx (cJ ρ n (some l)) (cJ (cJ σ k none) n (some x)) i->bY cx ρ σ i\/i=g:=by
  intro i hc;rcases hc with hc|⟨j,l',y,h1,h2,h3,h4⟩
  ·exact .inl (.inl hc)
  ·rcases hinv j y h1 with ⟨rfl,rfl⟩|⟨e1,e2,h1⟩
   ·rw[jN] at h2;cases h2;exact .inr (h4.symm.trans hlb)
   ·rw[bU _ _ e1] at h2;exact .inl (.inr ⟨j,l',y,h1,h2,h3,h4⟩)
 have hc:∀ i,¬ bY cx ρ σ i->i<w.heap.size->w'.heap[i]? = w.heap[i]? := λi hn hlt=>ht.other i hlt λe=>hn (hbOwn i e);have ho:∀ i,i<w.heap.size->¬ bY cx ρ σ i->¬ bY cx (cJ ρ n (some l)) (cJ (cJ σ k none) n (some x)) i:=λi hlt hn h=>by
  rcases hown' i h with h|rfl
  ·exact hn h
  ·exact hn (hbOwn i (hgOwn hlt))
 have hw0:cx.w0.heap.size<=w.heap.size:=hI.below.size;have hg0:cx.w0.heap.size<=g\/g∈cx.arg:=by
  rcases ht.place with h|h
  ·rw[<-(hb g h).2];exact hI.uQ k x₀ l₀ hσ hρ (hb g h).1 hw
  ·exact .inl (by omega)
 have hK:bZ cx ρ (cJ ρ n (some l)) σ (cJ (cJ σ k none) n (some x)) w w':=⟨hc,ht.size,ho,hloc,ht.shape,λi y hi hy=>⟨y,by
  rw[bU _ _ (hσne i y hi),bU _ _ (λe=>by subst e;rw[hσ] at hi;cases hi;rw[hw] at hy;cases hy)];exact hi,hy⟩⟩
 have hblk:∀ i y l',σ i=some y->i≠k->ρ i=some l'->0<l'.L+l'.C->l'.bV<w.heap.size/\b≠some l'.bV:=λi y l' hi hik hl' hL=>⟨((hI.new i l' hl').2 hL).1,λe=>hik (hI.inj i k y x₀ l' l₀ hi hσ hl' hρ hL (hb _ e).1 (hb _ e).2.symm)⟩
 refine ⟨⟨λi y hi=>?_,λi i' y y' m m' h1 h2 h3 h4 hL hL' he=>?_,λi m hm=>?_,λi y m hi hm hL hwy=>?_,?_,hI.nC,hI.low⟩,hK,?_⟩
 ·rcases hinv i y hi with ⟨rfl,rfl⟩|⟨e1,e2,h1⟩
  ·refine ⟨l,jN ..,λ_=>⟨.cells cur e (0,0),by rw[hlb];exact hat,?_⟩,λh=>by omega⟩;subst hl hx;refine .rows (l:=⟨g,z,cap,e,rows.length⟩) _ (bK rows) cur rfl (λro z' rows' e=>by cases e;rfl) ⟨hsize,hz,by simpa using hsmall,by simpa using hcap,by simp,λr hr=>?_,λi j hi hj=>?_,hone⟩
   ·simp only[bK,mem_map] at hr;obtain ⟨q,hq,rfl⟩:=hr;rw[ae];exact hwid q hq
   ·have hi':i<rows.length:=by simpa using hi
    have hj':j<rows[i].length:=by simpa [bK] using hj
    obtain ⟨v,u1,u2⟩:=hcell i j hi' hj';refine ⟨v,u1,?_⟩;have hx:(bK rows)[i][j] = .p rows[i][j]:=by simp[bK]
    rw[hx];exact .p _ _ (u2.mono hc ht.size ho)
  ·obtain ⟨l',g1,g2⟩:=hI.boxes i y h1;refine ⟨l',hloc _ _ g1,g2.mono hc ht.size ho hloc λhL=>?_⟩;obtain ⟨q1,q2⟩:=hblk i y l' h1 e2 g1 hL;exact ht.other _ q1 q2
 ·rcases hinv i y h1 with ⟨rfl,rfl⟩|⟨e1,e2,u1⟩
  ·rcases hinv i' y' h2 with ⟨rfl,rfl⟩|⟨f1,f2,u2⟩
   ·rfl
   ·exfalso;rw[jN] at h3;cases h3;rw[bU _ _ f1] at h4;obtain ⟨q1,q2⟩:=hblk i' y' m' u2 f2 h4 hL';rw[hlb] at he;exact q2 (he ▸ hgOwn (by omega))
  ·rcases hinv i' y' h2 with ⟨rfl,rfl⟩|⟨f1,f2,u2⟩
   ·exfalso;rw[jN] at h4;cases h4;rw[bU _ _ e1] at h3;obtain ⟨q1,q2⟩:=hblk i y m u1 e2 h3 hL;rw[hlb] at he;exact q2 (he.symm ▸ hgOwn (by omega))
   ·rw[bU _ _ e1] at h3;rw[bU _ _ f1] at h4;exact hI.inj i i' y y' m m' u1 u2 h3 h4 hL hL' he
 ·by_cases e:i=n
  ·subst e;rw[jN] at hm;cases hm;exact ⟨by omega,λ_=>⟨by rw[hlb];exact ht.lt,λh=>by
    rw[hlb] at h;rcases ht.place with g|g
    ·rw[<-(hb _ g).2] at h;exact ((hI.new k l₀ hρ).2 (hb _ g).1).2 h
    ·have:=hI.nC _ h;omega⟩⟩
  ·rw[bU _ _ e] at hm;have h1:=hI.new i m hm;have:=ht.size;exact ⟨by omega,λhL=>⟨by have:=(h1.2 hL).1;omega,(h1.2 hL).2⟩⟩
 ·rcases hinv i y hi with ⟨rfl,rfl⟩|⟨e1,e2,h1⟩
  ·rw[jN] at hm;cases hm;rw[hlb];exact hg0
  ·rw[bU _ _ e1] at hm;exact hI.uQ i y m h1 hm hL hwy
 ·refine hI.below.trans ⟨ht.os,ht.tape,ht.output,by have:=ht.size;omega,λi hi ha=>ht.other i (by omega) λe=>?_⟩;have h2:=(hb i e).2;rcases hI.uQ k x₀ l₀ hσ hρ (hb i e).1 hw with h1|h1
  ·omega
  ·exact ha (h2 ▸ h1)
 ·subst hl hx;exact .own n ⟨g,z,cap,e,rows.length⟩ (jN ..) hpos hcap hmax
end
def ADC (Z by_:Nat) (rows:List (List T)):List T->Option (List (List T))
 | [.v (.int .i64 i),.sl _ [row]]=>match decide (0<=i)&&decide (i.toNat<=rows.length)&&decide (row.length=Z)&&iD Z rows&&decide ((rows.length+1)*by_<=140737488355328)&&decide (rows.length+1<=140737488355328) with
  | true=>some (rows.take i.toNat++row::rows.drop i.toNat)
  | false=>none
 | _=>none
def APS {w:World} {b o:Nat} {v:Value} (h:w.cell? ⟨b,o,none⟩=some v):∃ c e fz,w.heap[b]? = some (.cells c e fz)/\c[o]? = some v:=by
 simp only[World.cell?] at h;split at h
 ·simp_all
 ·cases h
variable {Z:Nat}{cur:Array Value}
def A1Q {w:World} {own:Nat->Prop} {i:Nat} {rows:List (List T)} {row:List T} {c:Array Value} {vs:List Value} (hi:i<=rows.length) (hwid:∀ r∈rows,r.length=Z) (hrow:row.length=Z)
  (hc:∀ a j (ha:a<rows.length) (hj:j<rows[a].length),∃ v,c[a*Z+j]? = some v/\cS w own rows[a][j] v) (hv:∀ j (hj:j<row.length),∃ v,vs[j]? = some v/\cS w own row[j] v)
  (h1:∀ p,p<i*Z->cur[p]? = c[p]?) (h2:∀ p,p<Z->cur[i*Z+p]? = vs[p]?) (h3:∀ p,p<(rows.length-i)*Z->cur[(i+1)*Z+p]? = c[i*Z+p]?) :
  ∀ a j (ha:a<(rows.take i++row::rows.drop i).length) (hj:j<(rows.take i++row::rows.drop i)[a].length),∃ v,cur[a*Z+j]? = some v/\cS w own (rows.take i++row::rows.drop i)[a][j] v:=by
 intro a j ha hj;have hlt:(rows.take i).length=i:=by rw[length_take];omega
 have hal:a<rows.length+1:=by simp at ha;omega
 by_cases c1:a<i
 ·have hh:a<rows.length:=by omega
  have e:(rows.take i++row::rows.drop i)[a]=rows[a]:=by rw[List.getElem_append_left (by omega)];simp
  have hj':j<rows[a].length:=by rw[e] at hj;exact hj
  have hjZ:j<Z:=by rw[<-hwid _ (ak hh)];exact hj'
  obtain ⟨v,q1,q2⟩:=hc a j hh hj';have:=Nat.mul_le_mul_right Z (show a+1<=i by omega);rw[Nat.add_mul,Nat.one_mul] at this;refine ⟨v,by rw[h1 _ (by omega)];exact q1,?_⟩;simp only[e];exact q2
 ·by_cases c2:a=i
  ·subst c2;have e:(rows.take a++row::rows.drop a)[a]=row:=by rw[List.getElem_append_right (by omega)];simp[hlt]
   have hj':j<row.length:=by rw[e] at hj;exact hj
   obtain ⟨v,q1,q2⟩:=hv j hj';refine ⟨v,by rw[h2 _ (by omega)];exact q1,?_⟩;simp only[e];exact q2
  ·have hh:a-1<rows.length:=by omega
   have e:(rows.take i++row::rows.drop i)[a]=rows[a-1]:=by
    rw[List.getElem_append_right (by omega)];simp only[hlt];rw[List.getElem_cons];rw[dif_neg (by omega),List.getElem_drop]
    congr 1;omega
   have hj':j<rows[a-1].length:=by rw[e] at hj;exact hj
   have hjZ:j<Z:=by rw[<-hwid _ (ak hh)];exact hj'
   obtain ⟨v,q1,q2⟩:=hc (a-1) j hh hj';have m1:(a-(i+1))*Z+Z<=(rows.length-i)*Z:=by
    have:=Nat.mul_le_mul_right Z (show a-(i+1)+1<=rows.length-i by omega);rwa[Nat.add_mul,Nat.one_mul] at this
   have m2:a*Z=(i+1)*Z+(a-(i+1))*Z:=by rw[<-Nat.add_mul];congr 1;omega
   have m3:(a-1)*Z=i*Z+(a-(i+1))*Z:=by rw[<-Nat.add_mul];congr 1;omega
   refine ⟨v,?_,?_⟩
   ·rw[m2,Nat.add_assoc,h3 _ (by omega),<-Nat.add_assoc,<-m3];exact q1
   ·simp only[e];exact q2
variable {w':World}
def XC {w:World} {b:Option Nat} (ho:∀ k,k<w.heap.size->b≠some k->w'.heap[k]? = w.heap[k]?) (hb:∀ k y,b=some k->w.shape? k=some y->w'.shape? k=some y):∀ k y,w.shape? k=some y->w'.shape? k=some y:=by
 intro k y hy;by_cases e:b=some k
 ·exact hb k y e hy
 ·have hlt:k<w.heap.size:=by
   rcases Nat.lt_or_ge k w.heap.size with h|h
   ·exact h
   ·simp[World.shape?,Array.getElem?_eq_none h] at hy
  simp only[World.shape?,ho k hlt e] at hy ⊢;exact hy
def GC {w:World} {b:Nat} {c:Array Value} {e:TypeId} (hb:w.heap[b]? = some (.cells c e (0,0))) (hb':w'.heap[b]? = some (.cells cur e (0,0))) (hsz:cur.size=c.size) (hz:w'.heap.size=w.heap.size) (ho:∀ k,k≠b->w'.heap[k]? = w.heap[k]?)
  (h1:w'.os=w.os) (h2:w'.tape=w.tape) (h3:w'.output=w.output):ACF w w' (some b) b:=by
 have hlt:b<w.heap.size:=(Array.getElem?_eq_some_iff.1 hb).1;have ho':∀ k,k<w.heap.size->some b≠some k->w'.heap[k]? = w.heap[k]? := λk _ hn=>ho k λe=>hn (by rw[e]);refine ⟨h1,h2,h3,by omega,by omega,.inl rfl,ho',XC ho' λk y hk hy=>?_⟩;cases hk;simp only[World.shape?,hb,hb'] at hy ⊢;rw[hsz];exact hy
def GB {w:World} {b:Option Nat} (hz:w.heap.size<w'.heap.size) (ho:∀ k,k<w.heap.size->w'.heap[k]? = w.heap[k]?) (h1:w'.os=w.os) (h2:w'.tape=w.tape) (h3:w'.output=w.output):ACF w w' b w.heap.size :=
 ⟨h1,h2,h3,by omega,hz,.inr (al _),λk hk _=>ho k hk,XC (b:=none) (λk hk _=>ho k hk) λk y hk=>by cases hk⟩
def dW {c:Array Value} {n p:Nat} (h:p<n):(c.toList.take n)[p]? = c[p]? := by rw[List.getElem?_take,if_pos h,Array.getElem?_toList]
def VO {zv:Value} (h:∀ u∈zv.cells.toList,u.oneCell'=true) (hp:0<zv.cells.size):∀ m,∀ v∈(Builtin.zeroCells zv.cells m).toList,v.oneCell'=true:=by
 intro m v hv;simp only[Builtin.zeroCells,Array.toList_map,mem_map] at hv;obtain ⟨q,_,rfl⟩:=hv;have hlt:q % zv.cells.size<zv.cells.size:=Nat.mod_lt _ hp;simp_all
def pX:∀ (vs:List Value) (c:Array Value) (o:Nat),(∀ (p:Nat) (v:Value),c[p]? = some v->v.oneCell'=true)->(∀ v∈vs,v.oneCell'=true)->∀ (p:Nat) (v:Value),(D7 c o vs)[p]? = some v->v.oneCell'=true
 | [],c,o,h,_,p,v,hp=>h p v hp
 | u::r,c,o,h,hu,p,v,hp=>pX r _ (o+1) (λq x hq=>by
   rw[Array.getElem?_setIfInBounds] at hq;split at hq
   ·simp_all
   ·exact h q x hq) (λx hx=>hu x (by simp[hx])) p v hp
section
variable {P : Program} {ρn : Shelf.Ren} {Z by_ : Nat} {zv : Value}
def pS (L:YB P ρn Z by_ zv) (hZ:0<Z) (hzc:zv.cells.size=Z) (hz1:∀ u∈zv.cells.toList,u.oneCell'=true) (hentry:∃ fn,P.funcs[ρn.f 22]? = some fn/\(fn.name == "runtime.NumGoroutine")=false/\fn.body.isNone=false) :
  fI P (ρn.f 22) (oH Z (ADC Z by_)):=by
 refine ⟨hentry,λcx ρ σ n w args vs d σ' n' hP hG hI ha hg=>?_⟩;unfold oH at hg;split at hg
 case h_2=>cases hg
 rename_i k rest;split at hg
 case h_2=>cases hg
 rename_i z' rows hσ;split at hg
 case h_2=>cases hg
 rename_i ts hz' hts;have hz':z'=Z:=of_decide_eq_true hz';subst hz';simp only[aa,Prod.mk.injEq] at hg;obtain ⟨rows',hg,rfl,rfl,rfl⟩:=hg;unfold ADC at hg;split at hg
 case h_2=>cases hg
 rename_i i f row;split at hg
 case h_2=>cases hg
 rename_i hc;cases hg;simp only[ac,ah] at hc;obtain ⟨⟨⟨⟨⟨hi0,hin⟩,hrow⟩,hall⟩,hby⟩,h47⟩:=hc;have hwid:∀ r∈rows,r.length=z':=λr hr=>by simpa using List.all_eq_true.1 hall r hr
 have hvs:∃ v1 v2 v3,vs = #[v1,v2,v3]/\Rd w (bY cx ρ σ) ρ (.own k) v1/\cS w (bY cx ρ σ) (.v (.int .i64 i)) v2/\cS w (bY cx ρ σ) (.sl f [row]) v3:=by
  have e:=mT hts;subst e;have hs:vs.size=3:=by rw[ha.1];simp
  obtain ⟨l⟩:=vs
  match l,hs with
  | [v1,v2,v3],_ =>
   have h0:=ha.2 0 (by simp);have h1:=ha.2 1 (by simp);have h2:=ha.2 2 (by simp);simp only[List.map_cons,List.map_nil,List.getElem_cons_zero,List.getElem_cons_succ] at h0 h1 h2;refine ⟨v1,v2,v3,rfl,by simpa using h0,?_,?_⟩
   ·cases h1 with
    | p _ _ h1=>simpa using h1
   ·cases h2 with
    | p _ _ h2=>simpa using h2
 obtain ⟨v1,v2,v3,rfl,g1,g2,g3⟩:=hvs;cases g2;subst hP;generalize hii:i.toNat=ii at hin ⊢;have hi:i=(ii:Int):=by omega
 subst hi;clear hii hi0;cases g3 with
 | sl _ _ sz vb voff vc fc k1 k2 k3 k4 k5 k6 k7 k8 k9 =>
 have hsz:sz=z':=by rw[<-hrow];exact (k6 row (by simp)).symm
 subst hsz;obtain ⟨V,hV⟩:∃ V,V=(List.range sz).map λj=>fc 0 j:=⟨_,rfl⟩
 have hVl:V.length=sz:=by rw[hV];simp
 have hVg:∀ j,j<sz->V[j]? = some (fc 0 j):=λj hj=>by rw[hV];simp[hj]
 have hVc:∀ j v,V[j]? = some v->w.cell? ⟨vb,voff+j,none⟩=some v:=λj v hj=>by
  have hlt:j<sz:=by rw[<-hVl];exact (List.getElem?_eq_some_iff.1 hj).1
  rw[hVg j hlt] at hj;cases hj;have:=(k8 0 j (by simp) hlt).1;simpa using this
 have hV1:∀ v∈V,v.oneCell'=true:=λv hv=>by
  rw[hV] at hv;simp only[mem_map,List.mem_range] at hv;obtain ⟨j,hj,rfl⟩:=hv;exact (k8 0 j (by simp) hj).2
 have hVr:∀ j (hj:j<row.length),∃ v,V[j]? = some v/\cS w (bY cx ρ σ) row[j] v:=λj hj=>⟨fc 0 j,hVg j (by omega),by simpa using k9 0 j (by simp) hj⟩
 clear hV hVg k8 k9;have hl':(rows.take ii++row::rows.drop ii).length=rows.length+1:=by simp;omega
 have hwid':∀ r∈rows.take ii++row::rows.drop ii,r.length=sz:=λr hr=>by
  rcases mem_append.1 hr with h|h
  ·exact hwid r (mem_of_mem_take h)
  ·rcases List.mem_cons.1 h with rfl|h
   ·exact hrow
   ·exact hwid r (mem_of_mem_drop h)
 have hn47:rows.length+1<=140737488355328:=h47;have m0:ii*sz<=rows.length*sz:=Nat.mul_le_mul_right _ hin;have m1:(rows.length+1)*sz=rows.length*sz+sz:=by rw[Nat.add_mul,Nat.one_mul]
 have m2:(ii+1)*sz=ii*sz+sz:=by rw[Nat.add_mul,Nat.one_mul]
 have m3:(rows.length-ii)*sz=rows.length*sz-ii*sz:=Nat.sub_mul ..;obtain ⟨i0,hi0,hz0,hzs,hzb⟩:=L.i9;have fin:∀ {b:Option Nat} {g cap:Nat} {e:TypeId} {cur c:Array Value} {w':World} {l₀:Loc},ρ k=some l₀->(∀ i,b=some i->0<l₀.L+l₀.C/\l₀.bV=i)->ACF w w' b g->w'.heap[g]? = some (.cells cur e (0,0))->rows.length+1<=cap->cap<=maxLen->cur.size=cap*sz ->
   (∀ a j (ha:a<rows.length) (hj:j<rows[a].length),∃ v,c[a*sz+j]? = some v/\cS w (bY cx ρ σ) rows[a][j] v)->(∀ p,p<ii*sz->cur[p]? = c[p]?)->(∀ p,p<sz->cur[ii*sz+p]? = V[p]?)->(∀ p,p<(rows.length-ii)*sz->cur[(ii+1)*sz+p]? = c[ii*sz+p]?)->(∀ (p:Nat) (v:Value),cur[p]? = some v->v.oneCell'=true) ->
   ∃ v ρ',Ending.returned (Value.slice (some ⟨g,0,none⟩) (rows.length+1) cap) = .returned v/\Inv cx ρ' (cJ (cJ σ k none) n (some (.arr false sz (rows.take ii++row::rows.drop ii)))) (n+1) w'/\bZ cx ρ ρ' σ (cJ (cJ σ k none) n (some (.arr false sz (rows.take ii++row::rows.drop ii)))) w w' /\
    Rd w' (bY cx ρ' (cJ (cJ σ k none) n (some (.arr false sz (rows.take ii++row::rows.drop ii))))) ρ' (.own n) v:=by
  intro b g cap e cur c w' l₀ hl₀ hb ht hat hcap hmax hsize hc h1 h2 h3 hone;have hcell:=A1Q hin hwid hrow hc hVr h1 h2 h3;obtain ⟨q1,q2,q3⟩:=BLJ hI ht hσ hl₀ rfl hb (rows:=rows.take ii++row::rows.drop ii) hat k7 (by rw[hl'];exact hcap) hmax (by rw[hl'];omega) hsize (by rw[hl'];exact hn47) hwid' hcell hone;refine ⟨_,_,rfl,q1,q2,?_⟩;rw[<-hl'];exact q3
 have hCap:∀ {c':Nat},rows.length+1<=grownCap w (rows.length+1) c' (ρn.t 9)/\grownCap w (rows.length+1) c' (ρn.t 9)<=maxLen:=λ{c'}=>⟨grownCap_ge w _ _ _,grownCap_le_maxLen w _ _ _ (by unfold maxLen;omega)⟩
 obtain ⟨l₀,hl₀,hbx⟩:=hI.boxes k _ hσ;have new_at:∀ (o:Obj),(w.drew.alloc o).heap[w.heap.size]? = some o:=λo=>by show (w.heap.push o)[w.heap.size]? = some o;simp
 have new_lo:∀ (o:Obj) (q:Nat),q<w.heap.size->(w.drew.alloc o).heap[q]? = w.heap[q]? := λo q hq=>by
  show (w.heap.push o)[q]? = _;rw[Array.getElem?_push,if_neg (by omega)]
 have zone:=VO hz1 (by omega);have zlen:∀ m,(Builtin.zeroCells zv.cells m).size=m*sz:=λm=>by simp[Builtin.zeroCells,hzc]
 cases g1 with
 | eW _ l a hl h0 =>
  rw[hl₀] at hl;cases hl;obtain ⟨ro,zz,hx⟩:=hbx.2 h0;cases hx;have hii:ii=0:=by simpa using hin
  subst hii;refine (wM L a 0 0 vb voff 1 vc [] V w (by omega) (by omega) (by omega) (by omega) (by simpa using hby) (by simp) (by rw[hVl,Nat.one_mul]) (λ_=>rfl) (λ_ _ j v hj=>by simp at hj) hVc hV1).mono ?_;rintro e w' ⟨rfl,rfl⟩;have hC:=@hCap 0;simp only[List.length_nil,Nat.zero_add] at hC ⊢;refine fin (b:=none) (c:=#[]) hl₀ (λi h=>by cases h) (GB (by show w.heap.size<(w.heap.push _).size;simp) (new_lo _) rfl rfl rfl) (new_at _) (by simpa using hC.1) hC.2 ?_ (λa j ha=>by simp at ha) (λp hp=>by simp at hp) (λp hp=>?_) (λp hp=>by simp at hp) ?_
  ·have:=hC.1;rw[Array.size_append,zlen];simp only[List.nil_append,size_toArray,hVl];rw[Nat.sub_mul,Nat.one_mul];have:=Nat.mul_le_mul_right sz hC.1;omega
  ·rw[Nat.zero_mul,Nat.zero_add,Array.getElem?_append_left (by simpa [hVl] using hp)];simp
  ·intro p v hp;rw[Array.getElem?_append] at hp;split at hp
   ·exact hV1 v (List.mem_of_getElem? (by simpa using hp))
   ·exact zone _ v (by rw[Array.mem_toList_iff];exact Array.mem_of_getElem? hp)
 | own _ l hl h0 hLC hCm =>
  rw[hl₀] at hl;cases hl;obtain ⟨o,ho,hbi⟩:=hbx.1 h0;cases hbi with
  | rows _ rs c hr hz0 hB =>
  cases hr;have hsz:l₀.sz=sz:=hz0 _ _ _ rfl;have hL:l₀.L=rows.length:=by rw[<-hB.uX];simp
  have hcs:c.size=l₀.C*sz:=by rw[<-hsz];exact hB.size
  have hc:∀ a j (ha:a<rows.length) (hj:j<rows[a].length),∃ v,c[a*sz+j]? = some v/\cS w (bY cx ρ σ) rows[a][j] v:=λa j ha hj=>by
   have ha':a<(bK rows).length:=by simpa using ha
   have hj':j<(bK rows)[a].length:=by simpa [bK] using hj
   obtain ⟨v,u1,u2⟩:=hB.cell a j ha' hj';have hx:(bK rows)[a][j] = .p rows[a][j]:=by simp[bK]
   rw[hx] at u2;cases u2 with
   | p _ _ u2=>exact ⟨v,by rw[<-hsz];exact u1,u2⟩
  have hone:=hB.one;have hLC':rows.length<=l₀.C:=by omega
  have m4:rows.length*sz<=l₀.C*sz:=Nat.mul_le_mul_right _ hLC';have hcl:(c.toList.take (rows.length*sz)).length=rows.length*sz:=by rw[length_take];exact Nat.min_eq_left (by rw[show c.toList.length=c.size from Array.length_toList];omega)
  have hcg:∀ j v,(c.toList.take (rows.length*sz))[j]? = some v->w.cell? ⟨l₀.bV,0+j,none⟩=some v:=λj v hj=>by
   have hlt:j<rows.length*sz:=by rw[<-hcl];exact (List.getElem?_eq_some_iff.1 hj).1
   rw[dW hlt] at hj;simp[World.cell?,ho,hj]
  have hc1:∀ v∈c.toList.take (rows.length*sz),v.oneCell'=true:=λv hv=>by
   obtain ⟨p,hp⟩:=mem_iff_getElem?.1 (mem_of_mem_take hv);exact hone p v (by simpa using hp)
  have hfz:∀ j,w.frozen? ⟨l₀.bV,j,none⟩=false:=λj=>by simp[World.frozen?,ho]
  have hown:bY cx ρ σ l₀.bV:=.inr ⟨k,l₀,_,hσ,hl₀,h0,rfl⟩;have hvb:vb≠l₀.bV:=λe=>k4 (e ▸ hown);have hvw:vb<w.heap.size:=k5;have hbb:∀ i,some l₀.bV=some i->0<l₀.L+l₀.C/\l₀.bV=i:=λi h=>⟨h0,Option.some.inj h⟩
  have hC63:l₀.C<=9223372036854775807:=by unfold maxLen at hCm;omega
  have hsp:∀ j,j<l₀.C*sz->(w.cell? ⟨l₀.bV,0+j,none⟩).isSome=true:=λj hj=>by
   have:j<c.size:=by omega
   simp[World.cell?,ho,this]
  rw[hL];have hdl:((c.toList.take (rows.length*sz)).drop (ii*sz)).length=(rows.length-ii)*sz:=by rw[List.length_drop,hcl,Nat.sub_mul]
  have hdg:∀ p,p<(rows.length-ii)*sz->((c.toList.take (rows.length*sz)).drop (ii*sz))[p]? = c[ii*sz+p]? := λp hp=>by
   rw[List.getElem?_drop,dW (by omega)]
  by_cases c1:rows.length+1<=l₀.C
  ·have m5:(rows.length+1)*sz<=l₀.C*sz:=Nat.mul_le_mul_right _ c1;by_cases c2:ii<rows.length
   ·obtain ⟨cv,ce,cz,hcv,hcv2⟩:=APS (hVc 0 _ (List.getElem?_eq_getElem (by omega)));refine (YO L k7 l₀.bV 0 rows.length l₀.C ii vb voff 1 vc (c.toList.take (rows.length*sz)) V w c2 (by omega) c1 hC63 hvb hcl (by rw[hVl,Nat.one_mul]) hcg (λj hj=>hsp j (by omega)) hfz hVc hc1 hV1 ce l₀.e cv.size c.size (by simp[World.shape?,hcv]) (by have:=(Array.getElem?_eq_some_iff.1 hcv2).1;omega) (by simp[World.shape?,ho])).mono ?_;rintro e w' ⟨rfl,rfl⟩;simp only[Nat.zero_add];have hat:((w.drew.setCells l₀.bV ((ii+1)*sz) ((c.toList.take (rows.length*sz)).drop (ii*sz))).setCells l₀.bV (ii*sz) V).heap[l₀.bV]? = some (.cells (D7 (D7 c ((ii+1)*sz) ((c.toList.take (rows.length*sz)).drop (ii*sz))) (ii*sz) V) l₀.e (0,0)) :=
     jS _ _ _ _ _ _ _ (jS _ _ _ _ _ _ _ ho)
    have r1:=gQ l₀.bV V (ii*sz) (w.drew.setCells l₀.bV ((ii+1)*sz) ((c.toList.take (rows.length*sz)).drop (ii*sz)));have r2:=gQ l₀.bV ((c.toList.take (rows.length*sz)).drop (ii*sz)) ((ii+1)*sz) w.drew;refine fin (b:=some l₀.bV) (c:=c) hl₀ hbb (GC ho hat (by rw[dN,dN]) (r1.2.2.2.trans r2.2.2.2) (λq hq=>by rw[jT _ hq,jT _ hq];rfl) (r1.1.trans r2.1) (r1.2.1.trans r2.2.1) (r1.2.2.1.trans r2.2.2.1)) hat c1 hCm (by rw[dN,dN];exact hcs) hc (λp hp=>?_) (λp hp=>?_) (λp hp=>?_) (pX _ _ _ (pX _ _ _ hone λv hv=>hc1 v (mem_of_mem_drop hv)) hV1)
    ·rw[fS _ _ _ _ (by rw[dN];omega),if_neg (by omega),fS _ _ _ _ (by omega),if_neg (by omega)]
    ·rw[fS _ _ _ _ (by rw[dN];omega),if_pos (by omega),Nat.add_sub_cancel_left]
    ·rw[fS _ _ _ _ (by rw[dN];omega),if_neg (by omega),fS _ _ _ _ (by omega),if_pos (by omega),Nat.add_sub_cancel_left];exact hdg p hp
   ·have hii:ii=rows.length:=by omega
    subst hii;refine (L6 L l₀.bV 0 rows.length l₀.C vb voff 1 vc V w (by omega) c1 hC63 (by rw[hVl,Nat.one_mul]) (λj hj=>by rw[Nat.add_assoc];exact hsp _ (by omega)) hfz hVc hV1).mono ?_;rintro e w' ⟨rfl,rfl⟩;simp only[Nat.zero_add];have hat:=jS l₀.bV l₀.e (0,0) V (rows.length*sz) w c ho;have r1:=gQ l₀.bV V (rows.length*sz) w;refine fin (b:=some l₀.bV) (c:=c) hl₀ hbb (GC ho hat (dN ..) r1.2.2.2 (λq hq=>jT _ hq ..) r1.1 r1.2.1 r1.2.2.1) hat c1 hCm (by rw[dN];exact hcs) hc (λp hp=>?_) (λp hp=>?_) (λp hp=>by simp at hp) (pX _ _ _ hone hV1)
    ·rw[fS _ _ _ _ (by omega),if_neg (by omega)]
    ·rw[fS _ _ _ _ (by omega),if_pos (by omega),Nat.add_sub_cancel_left]
  ·have hC:=@hCap l₀.C;have m6:=Nat.mul_le_mul_right sz hC.1;by_cases c2:ii<rows.length
   ·refine (AD9 L k7 hzc l₀.bV 0 rows.length l₀.C ii vb voff 1 vc (c.toList.take (rows.length*sz)) V w c2 (by omega) hLC' (by omega) hn47 hby hcl (by rw[hVl,Nat.one_mul]) hcg hVc hc1 hV1).mono ?_;rintro e w' ⟨rfl,rfl⟩;generalize hG:grownCap w (rows.length+1) l₀.C (ρn.t 9)=G at hC m6 ⊢;generalize hROW:((c.toList.take (rows.length*sz)).take (ii*sz)).toArray++Builtin.zeroCells zv.cells (rows.length+1-ii)++Builtin.zeroCells zv.cells (G-(rows.length+1))=ROW;have hRs:ROW.size=G*sz:=by
     rw[<-hROW,Array.size_append,Array.size_append,zlen,zlen,size_toArray,length_take,hcl,Nat.sub_mul,Nat.sub_mul];omega
    have hRg:∀ p,p<ii*sz->ROW[p]? = c[p]? := λp hp=>by
     rw[<-hROW,Array.append_assoc,Array.getElem?_append_left (by rw[size_toArray,length_take,hcl];omega),getElem?_toArray,List.getElem?_take,if_pos hp,dW (by omega)]
    have hR1:∀ (p:Nat) (v:Value),ROW[p]? = some v->v.oneCell'=true:=λp v hp=>by
     rw[<-hROW,Array.getElem?_append] at hp;split at hp
     ·rw[Array.getElem?_append] at hp;split at hp
      ·rw[getElem?_toArray] at hp;exact hc1 v (mem_of_mem_take (List.mem_of_getElem? hp))
      ·exact zone _ v (by rw[Array.mem_toList_iff];exact Array.mem_of_getElem? hp)
     ·exact zone _ v (by rw[Array.mem_toList_iff];exact Array.mem_of_getElem? hp)
    have hat0:(w.alloc (.cells ROW (ρn.t 9))).drew.heap[w.heap.size]? = some (.cells ROW (ρn.t 9) (0,0)):=new_at _;have hat:(((w.alloc (.cells ROW (ρn.t 9))).drew.setCells w.heap.size (ii*sz) V).drew.setCells w.heap.size ((ii+1)*sz) ((c.toList.take (rows.length*sz)).drop (ii*sz))).heap[w.heap.size]? = some (.cells (D7 (D7 ROW (ii*sz) V) ((ii+1)*sz) ((c.toList.take (rows.length*sz)).drop (ii*sz))) (ρn.t 9) (0,0)) :=
     jS _ _ _ _ _ _ _ (jS _ _ _ _ _ _ _ hat0)
    have r1:=gQ w.heap.size ((c.toList.take (rows.length*sz)).drop (ii*sz)) ((ii+1)*sz) ((w.alloc (.cells ROW (ρn.t 9))).drew.setCells w.heap.size (ii*sz) V).drew;have r2:=gQ w.heap.size V (ii*sz) (w.alloc (.cells ROW (ρn.t 9))).drew;refine fin (b:=none) (c:=c) hl₀ (λi h=>by cases h) (GB (by rw[r1.2.2.2];refine Nat.lt_of_lt_of_eq ?_ r2.2.2.2.symm;show w.heap.size<(w.heap.push _).size;simp) (λq hq=>by
     rw[jT _ (by omega)];refine (jT _ (by omega) V (ii*sz) _).trans ?_;exact new_lo _ q hq) (r1.1.trans r2.1) (r1.2.1.trans r2.2.1) (r1.2.2.1.trans r2.2.2.1)) hat hC.1 hC.2 (by rw[dN,dN];exact hRs) hc (λp hp=>?_) (λp hp=>?_) (λp hp=>?_) (pX _ _ _ (pX _ _ _ hR1 hV1) λv hv=>hc1 v (mem_of_mem_drop hv))
    ·rw[fS _ _ _ _ (by rw[dN];omega),if_neg (by omega),fS _ _ _ _ (by omega),if_neg (by omega)];exact hRg p hp
    ·rw[fS _ _ _ _ (by rw[dN];omega),if_neg (by omega),fS _ _ _ _ (by omega),if_pos (by omega),Nat.add_sub_cancel_left]
    ·rw[fS _ _ _ _ (by rw[dN];omega),if_pos (by omega),Nat.add_sub_cancel_left];exact hdg p hp
   ·have hii:ii=rows.length:=by omega
    subst hii;refine (wM L (some ⟨l₀.bV,0,none⟩) rows.length l₀.C vb voff 1 vc (c.toList.take (rows.length*sz)) V w (by omega) hLC' (by omega) hn47 hby hcl (by rw[hVl,Nat.one_mul]) (λh=>by cases h) (λa ha j v hj=>by cases ha;rw[Addr.add_lit];exact hcg j v hj) hVc hV1).mono ?_;rintro e w' ⟨rfl,rfl⟩;generalize hG:grownCap w (rows.length+1) l₀.C (ρn.t 9)=G at hC m6 ⊢;refine fin (b:=none) (c:=c) hl₀ (λi h=>by cases h) (GB (by show w.heap.size<(w.heap.push _).size;simp) (new_lo _) rfl rfl rfl) (new_at _) hC.1 hC.2 ?_ hc (λp hp=>?_) (λp hp=>?_) (λp hp=>by simp at hp) ?_
    ·rw[Array.size_append,zlen,size_toArray,List.length_append,hcl,hVl,Nat.sub_mul];omega
    ·rw[Array.getElem?_append_left (by rw[size_toArray,List.length_append,hcl];omega),getElem?_toArray,List.getElem?_append_left (by omega),dW (by omega)]
    ·rw[Array.getElem?_append_left (by rw[size_toArray,List.length_append,hcl,hVl];omega),getElem?_toArray,List.getElem?_append_right (by omega),hcl,Nat.add_sub_cancel_left]
    ·intro p v hp;rw[Array.getElem?_append] at hp;split at hp
     ·rw[getElem?_toArray] at hp;rcases mem_append.1 (List.mem_of_getElem? hp) with h|h
      ·exact hc1 v h
      ·exact hV1 v h
     ·exact zone _ v (by rw[Array.mem_toList_iff];exact Array.mem_of_getElem? hp)
end
def ADB (Z:Nat) (rows:List (List T)):List T->Option (List (List T))
 | [.v (.int .i64 i),.v (.int .i64 j)]=>match decide (0<=i)&&decide (j=i+1)&&decide (i.toNat<rows.length)&&iD Z rows with
  | true=>some (rows.take i.toNat++rows.drop (i.toNat+1))
  | false=>none
 | _=>none
def AZU {w:World} {own:Nat->Prop} {i:Nat} {rows:List (List T)} {c:Array Value} (hi:i<rows.length) (hwid:∀ r∈rows,r.length=Z)
  (hc:∀ a j (ha:a<rows.length) (hj:j<rows[a].length),∃ v,c[a*Z+j]? = some v/\cS w own rows[a][j] v)
  (h1:∀ p,p<i*Z->cur[p]? = c[p]?) (h3:∀ p,p<(rows.length-(i+1))*Z->cur[i*Z+p]? = c[(i+1)*Z+p]?) :
  ∀ a j (ha:a<(rows.take i++rows.drop (i+1)).length) (hj:j<(rows.take i++rows.drop (i+1))[a].length),∃ v,cur[a*Z+j]? = some v/\cS w own (rows.take i++rows.drop (i+1))[a][j] v:=by
 intro a j ha hj;have hlt:(rows.take i).length=i:=by rw[length_take];omega
 have hal:a<rows.length-1:=by simp at ha;omega
 by_cases c1:a<i
 ·have hh:a<rows.length:=by omega
  have e:(rows.take i++rows.drop (i+1))[a]=rows[a]:=by rw[List.getElem_append_left (by omega)];simp
  have hj':j<rows[a].length:=by rw[e] at hj;exact hj
  have hjZ:j<Z:=by rw[<-hwid _ (ak hh)];exact hj'
  obtain ⟨v,q1,q2⟩:=hc a j hh hj';have:=Nat.mul_le_mul_right Z (show a+1<=i by omega);rw[Nat.add_mul,Nat.one_mul] at this;refine ⟨v,by rw[h1 _ (by omega)];exact q1,?_⟩;simp_all
 ·have hh:a+1<rows.length:=by omega
  have e:(rows.take i++rows.drop (i+1))[a]=rows[a+1]:=by
   rw[List.getElem_append_right (by omega)];rw[List.getElem_drop]
   congr 1;omega
  have hj':j<rows[a+1].length:=by rw[e] at hj;exact hj
  have hjZ:j<Z:=by rw[<-hwid _ (ak hh)];exact hj'
  obtain ⟨v,q1,q2⟩:=hc (a+1) j hh hj';have m1:(a-i)*Z+Z<=(rows.length-(i+1))*Z:=by
   have:=Nat.mul_le_mul_right Z (show a-i+1<=rows.length-(i+1) by omega);rwa[Nat.add_mul,Nat.one_mul] at this
  have m2:a*Z=i*Z+(a-i)*Z:=by rw[<-Nat.add_mul];congr 1;omega
  have m3:(a+1)*Z=(i+1)*Z+(a-i)*Z:=by rw[<-Nat.add_mul];congr 1;omega
  refine ⟨v,?_,?_⟩
  ·rw[m2,Nat.add_assoc,h3 _ (by omega),<-Nat.add_assoc,<-m3];exact q1
  ·simp_all
variable {cx:Cx}{ρ:Nat->Option Loc}{σ:Nat->Option bL}
def AAI {n:Nat} {w:World} (hI:Inv cx ρ σ n w) {k z:Nat} {ro:Bool} {rows:List (List T)} {l:Loc} (hσ:σ k=some (.arr ro z rows)) (hl:ρ k=some l) (h0:0<l.L+l.C) :
  ∃ c,w.heap[l.bV]? = some (.cells c l.e (0,0))/\l.sz=z/\l.L=rows.length/\c.size=l.C*z/\rows.length<=l.C/\0<z/\rows.length<=2 ^ 47/\(∀ r∈rows,r.length=z) /\
   (∀ a j (ha:a<rows.length) (hj:j<rows[a].length),∃ v,c[a*z+j]? = some v/\cS w (bY cx ρ σ) rows[a][j] v)/\∀ (p:Nat) (v:Value),c[p]? = some v->v.oneCell'=true:=by
 obtain ⟨l',hl',hbx⟩:=hI.boxes k _ hσ;rw[hl] at hl';cases hl';obtain ⟨o,ho,hbi⟩:=hbx.1 h0;cases hbi with
 | rows _ rs c hr hz0 hB =>
 cases hr;have hsz:l.sz=z:=hz0 _ _ _ rfl;refine ⟨c,ho,hsz,by rw[<-hB.uX];simp,by rw[<-hsz];exact hB.size,by simpa using hB.len,by rw[<-hsz];exact hB.pos,by simpa using hB.small,λr hr=>?_,λa j ha hj=>?_,hB.one⟩
 ·have:=hB.width (r.map .p) (by simp only[bK,mem_map];exact ⟨r,hr,rfl⟩);rw[<-hsz];simpa using this
 ·have ha':a<(bK rows).length:=by simpa using ha
  have hj':j<(bK rows)[a].length:=by simpa [bK] using hj
  obtain ⟨v,u1,u2⟩:=hB.cell a j ha' hj';have hx:(bK rows)[a][j] = .p rows[a][j]:=by simp[bK]
  rw[hx] at u2;cases u2 with
  | p _ _ u2=>exact ⟨v,by rw[<-hsz];exact u1,u2⟩
section
variable {P : Program} {ρn : Shelf.Ren} {Z : Nat} {zv : Value}
def pR (L:ANM P ρn Z zv) (hzc:zv.cells.size=Z) (hz1:∀ u∈zv.cells.toList,u.oneCell'=true) (hentry:∃ fn,P.funcs[ρn.f 45]? = some fn/\(fn.name == "runtime.NumGoroutine")=false/\fn.body.isNone=false) :
  fI P (ρn.f 45) (oH Z (ADB Z)):=by
 refine ⟨hentry,λcx ρ σ n w args vs d σ' n' hP hG hI ha hg=>?_⟩;unfold oH at hg;split at hg
 case h_2=>cases hg
 rename_i k rest;split at hg
 case h_2=>cases hg
 rename_i z' rows hσ;split at hg
 case h_2=>cases hg
 rename_i ts hz' hts;have hz':z'=Z:=of_decide_eq_true hz';subst hz';simp only[aa,Prod.mk.injEq] at hg;obtain ⟨rows',hg,rfl,rfl,rfl⟩:=hg;unfold ADB at hg;split at hg
 case h_2=>cases hg
 rename_i i j;split at hg
 case h_2=>cases hg
 rename_i hc;cases hg;simp only[ac,ah] at hc;obtain ⟨⟨⟨hi0,hij⟩,hin⟩,hall⟩:=hc;have hvs:∃ v1,vs = #[v1,.int .i64 i,.int .i64 j]/\Rd w (bY cx ρ σ) ρ (.own k) v1:=by
  have e:=mT hts;subst e;have hs:vs.size=3:=by rw[ha.1];simp
  obtain ⟨l⟩:=vs
  match l,hs with
  | [v1,v2,v3],_ =>
   have h0:=ha.2 0 (by simp);have h1:=ha.2 1 (by simp);have h2:=ha.2 2 (by simp);have h1':v2 = .int .i64 i:=by
    cases h1 with
    | p _ _ h1=>cases h1;rfl
   have h2':v3 = .int .i64 j:=by
    cases h2 with
    | p _ _ h2=>cases h2;rfl
   simp_all
 obtain ⟨v1,rfl,g1⟩:=hvs;generalize hii:i.toNat=ii at hin ⊢;have hi:i=(ii:Int):=by omega
 subst hi;have hj:j=((ii+1:Nat):Int):=by omega
 subst hj;cases g1 with
 | eW _ l a hl h0 =>
  obtain ⟨l',hl',hbx⟩:=hI.boxes k _ hσ;rw[hl] at hl';cases hl';obtain ⟨ro,zz,hx⟩:=hbx.2 h0;simp_all
 | own _ l hl h0 hLC hCm =>
 obtain ⟨c,ho,hsz,hL,hcs,hLC',hZ,hsm,hwid,hc,hone⟩:=AAI hI hσ hl h0;rw[hL];have m0:(ii+1)*z'<=rows.length*z':=Nat.mul_le_mul_right _ hin;have m1:(ii+1)*z'=ii*z'+z':=by rw[Nat.add_mul,Nat.one_mul]
 have m2:(rows.length-(ii+1))*z'=rows.length*z'-(ii+1)*z':=Nat.sub_mul ..;have m4:rows.length*z'<=l.C*z':=Nat.mul_le_mul_right _ hLC';have m5:(ii+(rows.length-(ii+1)))*z'=ii*z'+(rows.length-(ii+1))*z':=Nat.add_mul ..;have hcl:(c.toList.take (rows.length*z')).length=rows.length*z':=by rw[length_take];exact Nat.min_eq_left (by rw[show c.toList.length=c.size from Array.length_toList];omega)
 have hcg:∀ j v,(c.toList.take (rows.length*z'))[j]? = some v->w.cell? ⟨l.bV,0+j,none⟩=some v:=λj v hj=>by
  have hlt:j<rows.length*z':=by rw[<-hcl];exact (List.getElem?_eq_some_iff.1 hj).1
  rw[dW hlt] at hj;simp[World.cell?,ho,hj]
 have hc1:∀ v∈c.toList.take (rows.length*z'),v.oneCell'=true:=λv hv=>by
  obtain ⟨p,hp⟩:=mem_iff_getElem?.1 (mem_of_mem_take hv);exact hone p v (by simpa using hp)
 have hfz:∀ j,w.frozen? ⟨l.bV,j,none⟩=false:=λj=>by simp[World.frozen?,ho]
 have zone:=VO hz1 (by omega);have zlen:∀ m,(Builtin.zeroCells zv.cells m).toList.length=m*z':=λm=>by simp[Builtin.zeroCells,hzc]
 have hdl:((c.toList.take (rows.length*z')).drop ((ii+1)*z')).length=(rows.length-(ii+1))*z':=by rw[List.length_drop,hcl,Nat.sub_mul]
 have hdg:∀ p,p<(rows.length-(ii+1))*z'->((c.toList.take (rows.length*z')).drop ((ii+1)*z'))[p]? = c[(ii+1)*z'+p]? := λp hp=>by
  simp_all
 have hbb:∀ i,some l.bV=some i->0<l.L+l.C/\l.bV=i:=λi h=>⟨h0,Option.some.inj h⟩
 have hl':(rows.take ii++rows.drop (ii+1)).length=rows.length-(ii+1-ii):=by simp;omega
 have hwid':∀ r∈rows.take ii++rows.drop (ii+1),r.length=z':=λr hr=>by
  rcases mem_append.1 hr with h|h
  ·exact hwid r (mem_of_mem_take h)
  ·exact hwid r (mem_of_mem_drop h)
 refine (BHO L hzc zone l.bV 0 l.C rows.length ii (ii+1) (c.toList.take (rows.length*z')) w hcl hcg hfz hc1 hLC' (by unfold maxLen at hCm;omega) (by omega) (by omega)).mono ?_;rintro e w' ⟨rfl,rfl⟩;simp only[Nat.zero_add];generalize hZL:(Builtin.zeroCells zv.cells (rows.length-(ii+(rows.length-(ii+1))))).toList=ZL;have hZ1:∀ v∈ZL,v.oneCell'=true:=by rw[<-hZL];exact zone _
 have hat:((w.drew.setCells l.bV (ii*z') ((c.toList.take (rows.length*z')).drop ((ii+1)*z'))).setCells l.bV ((ii+(rows.length-(ii+1)))*z') ZL).heap[l.bV]? = some (.cells (D7 (D7 c (ii*z') ((c.toList.take (rows.length*z')).drop ((ii+1)*z'))) ((ii+(rows.length-(ii+1)))*z') ZL) l.e (0,0)) :=
  jS _ _ _ _ _ _ _ (jS _ _ _ _ _ _ _ ho)
 have r1:=gQ l.bV ZL ((ii+(rows.length-(ii+1)))*z') (w.drew.setCells l.bV (ii*z') ((c.toList.take (rows.length*z')).drop ((ii+1)*z')));have r2:=gQ l.bV ((c.toList.take (rows.length*z')).drop ((ii+1)*z')) (ii*z') w.drew;have ht:=GC ho hat (by rw[dN,dN]) (r1.2.2.2.trans r2.2.2.2) (λq hq=>by rw[jT _ hq,jT _ hq];rfl) (r1.1.trans r2.1) (r1.2.1.trans r2.2.1) (r1.2.2.1.trans r2.2.2.1);have hcell:=AZU (cur:=D7 (D7 c (ii*z') ((c.toList.take (rows.length*z')).drop ((ii+1)*z'))) ((ii+(rows.length-(ii+1)))*z') ZL) hin hwid hc
  (λp hp=>by rw[fS _ _ _ _ (by rw[dN];omega),if_neg (by omega),fS _ _ _ _ (by omega),if_neg (by omega)])
  (λp hp=>by
   rw[fS _ _ _ _ (by rw[dN];omega),if_neg (by omega),fS _ _ _ _ (by omega),if_pos (by omega),Nat.add_sub_cancel_left];exact hdg p hp)
 obtain ⟨q1,q2,q3⟩:=BLJ hI ht hσ hl rfl hbb (rows:=rows.take ii++rows.drop (ii+1)) hat hZ (by rw[hl'];omega) hCm (by rw[hl'];omega) (by rw[dN,dN];exact hcs) (by rw[hl'];omega) hwid' hcell (pX _ _ _ (pX _ _ _ hone λv hv=>hc1 v (mem_of_mem_drop hv)) hZ1);refine ⟨_,_,rfl,q1,q2,?_⟩;simp_all
end
section
variable {P : Program} {ρn : Shelf.Ren} {Z by_ : Nat} {zv : Value}
variable {cap:Nat}
def AIT {n:Nat} {w:World} (hI:Inv cx ρ σ n w) (L:SlLaysE0.n41 cx.P ρn) (i0:TypeInfo) (hi0:cx.P.info? (ρn.t 23)=some i0) (hz0:i0.zero=some zv) (hzs:i0.size=Z) (hzb:i0.bytes=by_)
  (z23:∀ w,(Go.sizeOf (ρn.t 23)).run cx.P w = .ok Z w) (hZ:0<Z) (hzc:zv.cells.size=Z) (hz1:∀ u∈zv.cells.toList,u.oneCell'=true) {rows:List (List T)} (hwid:∀ r∈rows,r.length=Z) (hby:rows.length*by_<=140737488355328) (h47:rows.length<=140737488355328) {b off:Nat} (hpos:0<rows.length) {cs:List Value} (hl:cs.length=rows.length*Z) (hc:∀ j u,cs[j]? = some u->w.cell? ⟨b,off+j,none⟩=some u) (h1:∀ u∈cs,u.oneCell'=true)
  (hrd:∀ a j (ha:a<rows.length) (hj:j<rows[a].length),∃ v,cs[a*Z+j]? = some v/\cS w (bY cx ρ σ) rows[a][j] v) :
  Calls cx.P (ρn.f 41) #[.slice (some ⟨b,off,none⟩) rows.length cap] w λe w'=>∃ v ρ',e = .returned v/\Inv cx ρ' (cJ σ n (some (.arr false Z rows))) (n+1) w'/\bZ cx ρ ρ' σ (cJ σ n (some (.arr false Z rows))) w w'/\Rd w' (bY cx ρ' (cJ σ n (some (.arr false Z rows)))) ρ' (.own n) v:=by
 refine (BMO L i0 zv Z by_ hi0 hz0 hzs hzb z23 b off rows.length cap cs w hpos hl h47 hby hc h1).mono ?_;rintro e w' ⟨rfl,rfl⟩;have hG1:=grownCap_ge (w.alloc (.cells #[] (ρn.t 23))) rows.length 0 (ρn.t 23);have hG2:=grownCap_le_maxLen (w.alloc (.cells #[] (ρn.t 23))) rows.length 0 (ρn.t 23) (by unfold maxLen;omega);generalize grownCap (w.alloc (.cells #[] (ρn.t 23))) rows.length 0 (ρn.t 23)=G at hG1 hG2 ⊢;have zone:=VO hz1 (by omega);have zlen:∀ m,(Builtin.zeroCells zv.cells m).size=m*Z:=λm=>by simp[Builtin.zeroCells,hzc]
 have mG:=Nat.mul_le_mul_right Z hG1;obtain ⟨cur,hcur⟩:∃ cur,cur=cs.toArray++Builtin.zeroCells zv.cells (G-rows.length):=⟨_,rfl⟩
 rw[<-hcur];obtain ⟨w',hw'⟩:∃ w',w'=(w.alloc (.cells #[] (ρn.t 23))).drew.alloc (.cells cur (ρn.t 23)):=⟨_,rfl⟩
 rw[<-hw'];have hheap:w'.heap=(w.heap.push (.cells #[] (ρn.t 23))).push (.cells cur (ρn.t 23)):=by rw[hw'];rfl
 have hsz':w'.heap.size=w.heap.size+2:=by rw[hheap];simp
 have hlo:∀ q,q<w.heap.size->w'.heap[q]? = w.heap[q]? := λq hq=>by
  rw[hheap,Array.getElem?_push,if_neg (by simp;omega),Array.getElem?_push,if_neg (by omega)]
 have hat:w'.heap[w.heap.size+1]? = some (.cells cur (ρn.t 23) (0,0)):=by
  rw[hheap,Array.getElem?_push,if_pos (by simp)]
 have hbel:Below w.heap.size w w':=⟨by rw[hw'];rfl,by rw[hw'];rfl,by rw[hw'];rfl,by omega,hlo⟩
 have hbi:gC w' (λb=>bY cx ρ σ b\/(0<rows.length+G/\b=w.heap.size+1)) (cJ ρ n (some ⟨w.heap.size+1,Z,G,ρn.t 23,rows.length⟩)) ⟨w.heap.size+1,Z,G,ρn.t 23,rows.length⟩ (.cells cur (ρn.t 23) (0,0)) (.arr false Z rows):=by
  refine .rows (l:=⟨w.heap.size+1,Z,G,ρn.t 23,rows.length⟩) _ (bK rows) cur rfl (λro z' rows' e=>by cases e;rfl) ⟨?_,hZ,by simpa using h47,by simpa using hG1,by simp,λr hr=>?_,λi j hi hj=>?_,?_⟩
  ·show cur.size=G*Z;rw[hcur,Array.size_append,zlen,size_toArray,hl,Nat.sub_mul];omega
  ·simp only[bK,mem_map] at hr;obtain ⟨q,hq,rfl⟩:=hr;rw[ae];exact hwid q hq
  ·have hi':i<rows.length:=by simpa using hi
   have hj':j<rows[i].length:=by simpa [bK] using hj
   obtain ⟨v,u1,u2⟩:=hrd i j hi' hj';have hlt:i*Z+j<cs.length:=(List.getElem?_eq_some_iff.1 u1).1;refine ⟨v,?_,?_⟩
   ·show cur[i*Z+j]? = some v;rw[hcur,Array.getElem?_append_left (by simpa using hlt),getElem?_toArray];exact u1
   ·have hx:(bK rows)[i][j] = .p rows[i][j]:=by simp[bK]
    rw[hx];refine .p _ _ (u2.mono (λb _ hb=>hlo b hb) (by omega) λb hb hn h=>?_);rcases h with h|⟨_,h⟩
    ·exact hn h
    ·have h:b=w.heap.size+1:=h;omega
  ·intro p v hp;rw[hcur,Array.getElem?_append] at hp;split at hp
   ·rw[getElem?_toArray] at hp;exact h1 v (List.mem_of_getElem? hp)
   ·exact zone _ v (by rw[Array.mem_toList_iff];exact Array.mem_of_getElem? hp)
 obtain ⟨g1,g2⟩:=hI.oT (al n) ⟨w.heap.size+1,Z,G,ρn.t 23,rows.length⟩ (.arr false Z rows) hbel (λ_=>⟨by show w.heap.size<=w.heap.size+1;omega,by show w.heap.size+1<_;omega⟩) ⟨λ_=>⟨_,hat,hbi⟩,λh=>by have:rows.length+G=0:=h;omega⟩;exact ⟨_,_,rfl,g1,g2,.own n ⟨w.heap.size+1,Z,G,ρn.t 23,rows.length⟩ (jN ..) (by show 0<rows.length+G;omega) hG1 hG2⟩
def AH {n:Nat} {w:World} (hI:Inv cx ρ σ n w) (hb:Below w.heap.size w w') (Z:Nat) (e:TypeId) (a:Option Addr) :
  ∃ v ρ',Ending.returned (.slice a 0 0) = .returned v/\Inv cx ρ' (cJ σ n (some (.arr false Z []))) (n+1) w'/\bZ cx ρ ρ' σ (cJ σ n (some (.arr false Z []))) w w'/\Rd w' (bY cx ρ' (cJ σ n (some (.arr false Z [])))) ρ' (.own n) v:=by
 obtain ⟨g1,g2⟩:=hI.oT (al n) ⟨0,Z,0,e,0⟩ (.arr false Z []) hb (λh=>absurd h (by show ¬ 0<0+0;omega)) ⟨λh=>absurd h (by show ¬ 0<0+0;omega),λ_=>⟨false,Z,rfl⟩⟩;exact ⟨_,_,rfl,g1,g2,.eW n ⟨0,Z,0,e,0⟩ a (jN ..) rfl⟩
def rF (L:SlLaysE0.n41 P ρn) (hi:∃ i0,P.info? (ρn.t 23)=some i0/\i0.zero=some zv/\i0.size=Z/\i0.bytes=by_)
  (z23:∀ w,(Go.sizeOf (ρn.t 23)).run P w = .ok Z w) (hZ:0<Z) (hzc:zv.cells.size=Z) (hz1:∀ u∈zv.cells.toList,u.oneCell'=true) (hentry:∃ fn,P.funcs[ρn.f 41]? = some fn/\(fn.name == "runtime.NumGoroutine")=false/\fn.body.isNone=false) :
  fI P (ρn.f 41) (HK Z by_):=by
 obtain ⟨i0,hi0,hz0,hzs,hzb⟩:=hi;refine ⟨hentry,λcx ρ σ n w args vs d σ' n' hP hG hI ha hg=>?_⟩;subst hP;unfold HK at hg;split at hg
 ·rename_i k;split at hg
  case h_2=>cases hg
  rename_i ro z' rows hσ;split at hg
  case h_2=>cases hg
  rename_i hc;obtain ⟨rfl,rfl,rfl⟩:=hg;simp only[ac,ah] at hc;obtain ⟨⟨rfl,hby⟩,h47⟩:=hc;have hvs:∃ v1,vs = #[v1]/\Rd w (bY cx ρ σ) ρ (.own k) v1:=by
   have hs:vs.size=1:=ha.1;obtain ⟨l⟩:=vs
   match l,hs with
   | [v1],_=>exact ⟨v1,rfl,by simpa using ha.2 0 (by simp)⟩
  obtain ⟨v1,rfl,g1⟩:=hvs;cases g1 with
  | eW _ l a hl h0 =>
   obtain ⟨l',hl',hbx⟩:=hI.boxes k _ hσ;rw[hl] at hl';cases hl';obtain ⟨ro',zz,hx⟩:=hbx.2 h0;cases hx;cases a with
   | none =>
    refine (AnyE.slices_Clone_nil L 0 0 w).mono ?_;rintro e w' ⟨rfl,rfl⟩;exact AH hI (Below.refl _ _) _ (ρn.t 23) _
   | some a =>
    refine (AD L i0 z' hi0 hzs z23 a 0 w).mono ?_;rintro e w' ⟨rfl,rfl⟩;exact AH hI ((Below.refl _ w).alloc (al _) _) _ (ρn.t 23) _
  | own _ l hl h0 hLC hCm =>
   obtain ⟨c,ho,hsz,hL,hcs,hLC',_,hsm,hwid,hc,hone⟩:=AAI hI hσ hl h0;rw[hL];by_cases hpos:0<rows.length
   ·have m4:rows.length*z'<=l.C*z':=Nat.mul_le_mul_right _ hLC';have hcl:(c.toList.take (rows.length*z')).length=rows.length*z':=by rw[length_take];exact Nat.min_eq_left (by rw[show c.toList.length=c.size from Array.length_toList];omega)
    refine AIT hI L i0 hi0 hz0 hzs hzb z23 hZ hzc hz1 hwid hby h47 hpos hcl (λj v hj=>?_) (λv hv=>?_) λa j ha hj=>?_
    ·have hlt:j<rows.length*z':=by rw[<-hcl];exact (List.getElem?_eq_some_iff.1 hj).1
     rw[dW hlt] at hj;simp[World.cell?,ho,hj]
    ·obtain ⟨p,hp⟩:=mem_iff_getElem?.1 (mem_of_mem_take hv);exact hone p v (by simpa using hp)
    ·obtain ⟨v,u1,u2⟩:=hc a j ha hj;have hjZ:j<z':=by rw[<-hwid _ (ak ha)];exact hj
     have:=Nat.mul_le_mul_right z' (show a+1<=rows.length by omega);rw[Nat.add_mul,Nat.one_mul] at this;exact ⟨v,by rw[dW (by omega)];exact u1,u2⟩
   ·have h0:rows=[]:=List.length_eq_zero_iff.1 (by omega);subst h0;refine (AD L i0 z' hi0 hzs z23 _ _ w).mono ?_;rintro e w' ⟨rfl,rfl⟩;exact AH hI ((Below.refl _ w).alloc (al _) _) _ (ρn.t 23) _
 ·rename_i t;split at hg
  case h_2=>cases hg
  rename_i full rows hrt;split at hg
  case h_2=>cases hg
  rename_i hc;obtain ⟨rfl,rfl,rfl⟩:=hg;simp only[ac,ah] at hc;obtain ⟨⟨hall,hby⟩,h47⟩:=hc;have hwid:∀ r∈rows,r.length=Z:=λr hr=>by simpa using List.all_eq_true.1 hall r hr
  have hvs:∃ v1,vs = #[v1]/\cS w (bY cx ρ σ) t v1:=by
   have hs:vs.size=1:=ha.1;obtain ⟨l⟩:=vs
   match l,hs with
   | [v1],_ =>
    have h:=ha.2 0 (by simp);cases h with
    | p _ _ h=>simpa using h
  obtain ⟨v1,rfl,g1⟩:=hvs;have g2:=oA g1 hrt;have none:∀ (a:Addr) (cap:Nat),Calls cx.P (ρn.f 41) #[.slice (some a) 0 cap] w λe w'=>∃ v ρ',e = .returned v/\Inv cx ρ' (cJ σ n (some (.arr false Z []))) (n+1) w'/\bZ cx ρ ρ' σ (cJ σ n (some (.arr false Z []))) w w'/\Rd w' (bY cx ρ' (cJ σ n (some (.arr false Z [])))) ρ' (.own n) v:=λa cap=>by
   refine (AD L i0 Z hi0 hzs z23 a cap w).mono ?_;rintro e w' ⟨rfl,rfl⟩;exact AH hI ((Below.refl _ w).alloc (al _) _) _ (ρn.t 23) _
  cases g2 with
  | dF _ a cap hf hn =>
   cases a with
   | none =>
    refine (AnyE.slices_Clone_nil L 0 cap w).mono ?_;rintro e w' ⟨rfl,rfl⟩;exact AH hI (Below.refl _ _) _ (ρn.t 23) _
   | some a=>exact none a cap
  | sl _ _ sz bV off cap f h1 h2 h3 h4 h45 h5 h6 h7 h8 =>
   by_cases hpos:0<rows.length
   ·have hsz:sz=Z:=by
     rw[<-hwid _ (ak hpos)];simp_all
    subst hsz;obtain ⟨news,hs⟩:=rE (ρ:=ρ) (own:=bY cx ρ σ) (w:=w) (bV:=bV) (off:=off) (rows:=bK rows) hZ (λr hr=>by
     simp only[bK,mem_map] at hr;obtain ⟨q,hq,rfl⟩:=hr;rw[ae];exact hwid q hq) (λi j hi hj=>by
     have hi':i<rows.length:=by simpa using hi
     have hj':j<rows[i].length:=by simpa [bK] using hj
     have hjs:j<sz:=by rw[<-hwid _ (ak hi')];exact hj'
     have hx:(bK rows)[i][j] = .p rows[i][j]:=by simp[bK]
     refine ⟨f i j,by have:=(h7 i j hi' hjs).1;rwa[Nat.add_assoc] at this,(h7 i j hi' hjs).2,?_⟩;rw[hx];exact .p _ _ (h8 i j hi' hj'))
    refine AIT hI L i0 hi0 hz0 hzs hzb z23 hZ hzc hz1 hwid hby h47 hpos (cs:=news) (by rw[hs.len];simp) (λj u hj=>(hs.cell j u hj).1) (λu hu=>?_) λa j ha hj=>?_
    ·obtain ⟨p,hp⟩:=mem_iff_getElem?.1 hu;exact (hs.cell p u hp).2
    ·have ha':a<(bK rows).length:=by simpa using ha
     have hj':j<(bK rows)[a].length:=by simpa [bK] using hj
     obtain ⟨u,u1,u2⟩:=hs.rd a j ha' hj';have hx:(bK rows)[a][j] = .p rows[a][j]:=by simp[bK]
     rw[hx] at u2;cases u2 with
     | p _ _ u2=>exact ⟨u,u1,u2⟩
   ·simp_all
 ·cases hg
end
end Go.Pv
