/-
  slices.Grow at nil, by its contract.
-/
import Derived.Test.YtcnfagefgkblkaaGreatDoorVrin
import Derived.Shelf.Spec.SlicesGrow
set_option linter.defProp false
set_option linter.unusedSimpArgs false
set_option linter.unusedVariables false
namespace Go.Pv
open Go Go.RowKit Go.Sort Go.Proofs Go.Shelf
def AXA {P:Program} {ρn:Ren} {Z by_:Nat} {zv:Value} (L:Lays8.n4 P ρn) (hi:∃ i0,P.info? (ρn.t 25)=some i0/\i0.zero=some zv/\i0.size=Z/\i0.bytes=by_)
  (hZ:0<Z) (hzc:zv.cells.size=Z) (hz1:∀ u∈zv.cells.toList,u.oneCell'=true) (hentry:∃ fn,P.funcs[ρn.f 4]? = some fn/\(fn.name == "runtime.NumGoroutine")=false/\fn.body.isNone=false) :
  cB P (ρn.f 4) (KQ Z by_):=by
 obtain ⟨i0,hi0,hz0,hzs,hzb⟩:=hi;refine ⟨hentry,λcx ρ σ n w args vs d σ' n' hP hG hI ha hg=>?_⟩;subst hP;unfold KQ at hg;split at hg
 case h_2=>cases hg
 rename_i m;split at hg
 case h_2=>cases hg
 rename_i hc;simp only[Option.some.injEq,Prod.mk.injEq] at hg;obtain ⟨rfl,rfl,rfl⟩:=hg;simp only[ac,ae] at hc;obtain ⟨⟨hm0,hby⟩,h47⟩:=hc;have hvs:vs = #[.slice none 0 0,.int .i64 m]:=by
  have hs:vs.size=2:=by rw[ha.1];simp
  obtain ⟨l⟩:=vs
  match l,hs with
  | [v1,v2],_ =>
   have h0:=ha.2 0 (by simp);have h1:=ha.2 1 (by simp);simp only[List.getElem_cons_zero,List.getElem_cons_succ] at h0 h1;have e1:v1 = .slice none 0 0:=by
    cases h0 with
    | p _ _ h0=>cases h0;rfl
   have e2:v2 = .int .i64 m:=by
    cases h1 with
    | p _ _ h1=>cases h1;rfl
   rw[e1,e2]
 subst hvs;generalize hmm:m.toNat=k at hby h47;have hm:m=(k:Int):=by omega
 subst hm;clear hmm hm0;by_cases hk:k=0
 ·subst hk;refine (Any8.slices_Grow_room L none 0 0 0 w (by omega) (by omega) (by omega) (by omega)).mono ?_;rintro e w' ⟨rfl,rfl⟩;obtain ⟨v,ρ',h1,h2,h3,h4⟩:=tW hI (Below.refl _ _) Z (ρn.t 25) none;exact ⟨v,ρ',h1,h2,h3,h4⟩
 refine (Any8.slices_Grow_grow L i0 zv hi0 hz0 (by omega) none 0 0 k [] w (by omega) (by omega) (by rw[hzb,Nat.zero_add];exact hby) (by omega) (by simp) (λ_=>rfl) (λa h=>by cases h)).mono ?_;rintro e w' ⟨rfl,rfl⟩;have hG1:=grownCap_ge w (0+k) 0 (ρn.t 25);have hG2:=grownCap_le_maxLen w (0+k) 0 (ρn.t 25) (by unfold maxLen;omega);generalize grownCap w (0+k) 0 (ρn.t 25)=G at hG1 hG2 ⊢;have zone:=GF hz1 (by omega);have zlen:∀ m,(Builtin.zeroCells zv.cells m).size=m*Z:=λm=>by simp[Builtin.zeroCells,hzc]
 obtain ⟨cur,hcur⟩:∃ cur,cur=([]:List Value).toArray++Builtin.zeroCells zv.cells (0+k-0)++Builtin.zeroCells zv.cells (G-(0+k)):=⟨_,rfl⟩
 rw[<-hcur];have hbel:Below w.heap.size w (w.drew.alloc (.cells cur (ρn.t 25))):=((Below.refl _ _).drew).alloc (ak _) _;have hat:(w.drew.alloc (.cells cur (ρn.t 25))).heap[w.heap.size]? = some (.cells cur (ρn.t 25) (0,0)):=by
  show (w.heap.push (.cells cur (ρn.t 25)))[w.heap.size]? = _;simp
 have hbi:dU (w.drew.alloc (.cells cur (ρn.t 25))) (λb=>Own cx ρ σ b\/(0<0+G/\b=w.heap.size)) (b8 ρ n (some ⟨w.heap.size,Z,G,ρn.t 25,0⟩)) ⟨w.heap.size,Z,G,ρn.t 25,0⟩ (.cells cur (ρn.t 25) (0,0)) (.arr false Z []):=by
  refine .rows (l:=⟨w.heap.size,Z,G,ρn.t 25,0⟩) _ (aY []) cur rfl (λro z' rows' e=>by cases e;rfl) ⟨?_,hZ,by simp,by simp,by simp,λr hr=>by simp[aY] at hr,λi j hi hj=>by simp[aY] at hi,?_⟩
  ·show cur.size=G*Z;rw[hcur,Array.size_append,Array.size_append,zlen,zlen,List.size_toArray,List.length_nil,Nat.zero_add,<-Nat.add_mul]
   congr 1;omega
  ·intro p v hp;have hz2:∀ m (q:Nat),(Builtin.zeroCells zv.cells m)[q]? = some v->v.oneCell'=true:=λm q h=>zone m v (by rw[Array.mem_toList_iff];exact Array.mem_of_getElem? h);rw[hcur,Array.getElem?_append] at hp;split at hp
   ·rw[Array.getElem?_append] at hp;split at hp
    ·simp at hp
    ·exact hz2 _ _ hp
   ·exact hz2 _ _ hp
 obtain ⟨g1,g2⟩:=hI.kX (ak n) ⟨w.heap.size,Z,G,ρn.t 25,0⟩ (.arr false Z []) hbel (λ_=>⟨ak _,by show w.heap.size<(w.heap.push _).size;simp⟩) ⟨λ_=>⟨_,hat,hbi⟩,λh=>by have:0+G=0:=h;omega⟩;exact ⟨_,_,rfl,g1,g2,.own n ⟨w.heap.size,Z,G,ρn.t 25,0⟩ (fS ..) (by show 0<0+G;omega) (by show 0<=G;omega) hG2⟩
end Go.Pv
