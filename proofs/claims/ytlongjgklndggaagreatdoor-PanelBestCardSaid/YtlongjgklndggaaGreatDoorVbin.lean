/-
  slices.Insert, slices.Delete, slices.Clone at elements of any number of cells: what they come to, in boxes.
-/
import Derived.Test.YtlongjgklndggaaGreatDoorVbkc
import Derived.Test.YtlongjgklndggaaGreatDoorVbim
import Derived.Test.YtlongjgklndggaaGreatDoorVbil
set_option linter.defProp false
set_option linter.unusedSimpArgs false
set_option linter.unusedVariables false
namespace Go.Pv
open Go Go.RowKit Go.Proofs
structure UB (w w':World) (b:Option Nat) (g:Nat):Prop where
 os:w'.os=w.os
 tape:w'.tape=w.tape
 output:w'.output=w.output
 size:w.heap.size≤w'.heap.size
 lt:g<w'.heap.size
 place:b=some g∨w.heap.size≤g
 other:∀ k,k<w.heap.size→b≠some k→w'.heap[k]? = w.heap[k]?
 shape:∀ k y,w.shape? k=some y→w'.shape? k=some y
section
variable {cx : Cx} {ρ : Nat → Option Loc} {σ : Nat → Option aB} {n : Nat} {w w' : World}
end
theorem fJ {c:Array Value} {n p:Nat} (h:p<n):(c.toList.take n)[p]? = c[p]? := by rw[List.getElem?_take,if_pos h,Array.getElem?_toList]
theorem LK {zv:Value} (h:∀ u∈zv.cells.toList,u.oneCell'=true) (hp:0<zv.cells.size):∀ m,∀ v∈(Builtin.zeroCells zv.cells m).toList,v.oneCell'=true:=by
 intro m v hv
 simp only[Builtin.zeroCells,Array.toList_map,List.mem_map] at hv
 obtain ⟨q,_,rfl⟩:=hv
 have hlt:q % zv.cells.size<zv.cells.size:=Nat.mod_lt _ hp
 rw[getElem!_pos zv.cells _ hlt]
 exact h _ (by simp)
section
variable {P : Program} {ρn : Shelf.Ren} {Z by_ : Nat} {zv : Value}
end
theorem ID {cx:Cx} {ρ:Nat→Option Loc} {σ:Nat→Option aB} {n:Nat} {w:World} (hI:Inv cx ρ σ n w) {k z:Nat} {ro:Bool} {rows:List (List T)} {l:Loc} (hσ:σ k=some (.arr ro z rows)) (hl:ρ k=some l) (h0:0<l.L+l.C) :
  ∃ c,w.heap[l.aG]? = some (.cells c l.e (0,0))∧l.sz=z∧l.L=rows.length∧c.size=l.C*z∧rows.length≤l.C∧0<z∧rows.length≤2 ^ 47∧(∀ r∈rows,r.length=z) ∧
   (∀ a j (ha:a<rows.length) (hj:j<rows[a].length),∃ v,c[a*z+j]? = some v∧aU w (aF cx ρ σ) rows[a][j] v)∧∀ (p:Nat) (v:Value),c[p]? = some v→v.oneCell'=true:=by
 obtain ⟨l',hl',hbx⟩:=hI.boxes k _ hσ
 rw[hl] at hl';cases hl'
 obtain ⟨o,ho,hbi⟩:=hbx.1 h0
 cases hbi with
 | rows _ rs c hr hz0 hB =>
 cases hr
 have hsz:l.sz=z:=hz0 _ _ _ rfl
 refine ⟨c,ho,hsz,by rw[←hB.AE];simp,by rw[←hsz];exact hB.size,by simpa using hB.len,by rw[←hsz];exact hB.pos,by simpa using hB.small,fun r hr=>?_,fun a j ha hj=>?_,hB.one⟩
 ·have:=hB.width (r.map .p) (by simp only[aA,List.mem_map];exact ⟨r,hr,rfl⟩)
  rw[←hsz];simpa using this
 ·have ha':a<(aA rows).length:=by simpa using ha
  have hj':j<(aA rows)[a].length:=by simpa [aA] using hj
  obtain ⟨v,u1,u2⟩:=hB.cell a j ha' hj'
  have hx:(aA rows)[a][j] = .p rows[a][j]:=by simp[aA]
  rw[hx] at u2
  cases u2 with
  | p _ _ u2=>exact ⟨v,by rw[←hsz];exact u1,u2⟩
section
variable {P : Program} {ρn : Shelf.Ren} {Z : Nat} {zv : Value}
end
section
variable {P : Program} {ρn : Shelf.Ren} {Z by_ : Nat} {zv : Value}
theorem AK {cx:Cx} {ρ:Nat→Option Loc} {σ:Nat→Option aB} {n:Nat} {w:World} (hI:Inv cx ρ σ n w) (L:SlLaysE0.n41 cx.P ρn) (i0:TypeInfo) (hi0:cx.P.info? (ρn.t 23)=some i0) (hz0:i0.zero=some zv) (hzs:i0.size=Z) (hzb:i0.bytes=by_)
  (z23:∀ w,(Go.sizeOf (ρn.t 23)).run cx.P w = .ok Z w) (hZ:0<Z) (hzc:zv.cells.size=Z) (hz1:∀ u∈zv.cells.toList,u.oneCell'=true) {rows:List (List T)} (hwid:∀ r∈rows,r.length=Z) (hby:rows.length*by_≤140737488355328) (h47:rows.length≤140737488355328)
  {b off cap:Nat} (hpos:0<rows.length) {cs:List Value} (hl:cs.length=rows.length*Z) (hc:∀ j u,cs[j]? = some u→w.cell? ⟨b,off+j,none⟩=some u) (h1:∀ u∈cs,u.oneCell'=true)
  (hrd:∀ a j (ha:a<rows.length) (hj:j<rows[a].length),∃ v,cs[a*Z+j]? = some v∧aU w (aF cx ρ σ) rows[a][j] v) :
  Calls cx.P (ρn.f 41) #[.slice (some ⟨b,off,none⟩) rows.length cap] w fun e w'=>∃ v ρ',e = .returned v∧Inv cx ρ' (aQ σ n (some (.arr false Z rows))) (n+1) w'∧aD cx ρ ρ' σ (aQ σ n (some (.arr false Z rows))) w w'∧Rd w' (aF cx ρ' (aQ σ n (some (.arr false Z rows)))) ρ' (.own n) v:=by
 refine (QP L i0 zv Z by_ hi0 hz0 hzs hzb z23 b off rows.length cap cs w hpos hl h47 hby hc h1).mono ?_
 rintro e w' ⟨rfl,rfl⟩
 have hG1:=grownCap_ge (w.alloc (.cells #[] (ρn.t 23))) rows.length 0 (ρn.t 23)
 have hG2:=grownCap_le_maxLen (w.alloc (.cells #[] (ρn.t 23))) rows.length 0 (ρn.t 23) (by unfold maxLen;omega)
 generalize grownCap (w.alloc (.cells #[] (ρn.t 23))) rows.length 0 (ρn.t 23)=G at hG1 hG2 ⊢
 have zone:=LK hz1 (by omega)
 have zlen:∀ m,(Builtin.zeroCells zv.cells m).size=m*Z:=fun m=>by simp[Builtin.zeroCells,hzc]
 have mG:=Nat.mul_le_mul_right Z hG1
 obtain ⟨cur,hcur⟩:∃ cur,cur=cs.toArray++Builtin.zeroCells zv.cells (G-rows.length):=⟨_,rfl⟩
 rw[←hcur]
 obtain ⟨w',hw'⟩:∃ w',w'=(w.alloc (.cells #[] (ρn.t 23))).drew.alloc (.cells cur (ρn.t 23)):=⟨_,rfl⟩
 rw[←hw']
 have hheap:w'.heap=(w.heap.push (.cells #[] (ρn.t 23))).push (.cells cur (ρn.t 23)):=by rw[hw'];rfl
 have hsz':w'.heap.size=w.heap.size+2:=by rw[hheap];simp
 have hlo:∀ q,q<w.heap.size→w'.heap[q]? = w.heap[q]? := fun q hq=>by
  rw[hheap,Array.getElem?_push,if_neg (by simp;omega),Array.getElem?_push,if_neg (by omega)]
 have hat:w'.heap[w.heap.size+1]? = some (.cells cur (ρn.t 23) (0,0)):=by
  rw[hheap,Array.getElem?_push,if_pos (by simp)]
 have hbel:Below w.heap.size w w':=⟨by rw[hw'];rfl,by rw[hw'];rfl,by rw[hw'];rfl,by omega,hlo⟩
 have hbi:bA w' (fun b=>aF cx ρ σ b∨(0<rows.length+G∧b=w.heap.size+1)) (aQ ρ n (some ⟨w.heap.size+1,Z,G,ρn.t 23,rows.length⟩)) ⟨w.heap.size+1,Z,G,ρn.t 23,rows.length⟩ (.cells cur (ρn.t 23) (0,0)) (.arr false Z rows):=by
  refine .rows (l:=⟨w.heap.size+1,Z,G,ρn.t 23,rows.length⟩) _ (aA rows) cur rfl (fun ro z' rows' e=>by cases e;rfl) ⟨?_,hZ,by simpa using h47,by simpa using hG1,by simp,fun r hr=>?_,fun i j hi hj=>?_,?_⟩
  ·show cur.size=G*Z
   rw[hcur,Array.size_append,zlen,List.size_toArray,hl,Nat.sub_mul];omega
  ·simp only[aA,List.mem_map] at hr
   obtain ⟨q,hq,rfl⟩:=hr
   rw[List.length_map];exact hwid q hq
  ·have hi':i<rows.length:=by simpa using hi
   have hj':j<rows[i].length:=by simpa [aA] using hj
   obtain ⟨v,u1,u2⟩:=hrd i j hi' hj'
   have hlt:i*Z+j<cs.length:=(List.getElem?_eq_some_iff.1 u1).1
   refine ⟨v,?_,?_⟩
   ·show cur[i*Z+j]? = some v
    rw[hcur,Array.getElem?_append_left (by simpa using hlt),List.getElem?_toArray];exact u1
   ·have hx:(aA rows)[i][j] = .p rows[i][j]:=by simp[aA]
    rw[hx]
    refine .p _ _ (u2.mono (fun b _ hb=>hlo b hb) (by omega) fun b hb hn h=>?_)
    rcases h with h|⟨_,h⟩
    ·exact hn h
    ·have h:b=w.heap.size+1:=h
     omega
  ·intro p v hp
   rw[hcur,Array.getElem?_append] at hp
   split at hp
   ·rw[List.getElem?_toArray] at hp
    exact h1 v (List.mem_of_getElem? hp)
   ·exact zone _ v (by rw[Array.mem_toList_iff];exact Array.mem_of_getElem? hp)
 obtain ⟨g1,g2⟩:=hI.eL (Nat.le_refl n) ⟨w.heap.size+1,Z,G,ρn.t 23,rows.length⟩ (.arr false Z rows) hbel (fun _=>⟨by show w.heap.size≤w.heap.size+1;omega,by show w.heap.size+1<_;omega⟩) ⟨fun _=>⟨_,hat,hbi⟩,fun h=>by have:rows.length+G=0:=h;omega⟩
 exact ⟨_,_,rfl,g1,g2,.own n ⟨w.heap.size+1,Z,G,ρn.t 23,rows.length⟩ (fQ ..) (by show 0<rows.length+G;omega) hG1 hG2⟩
theorem kK {cx:Cx} {ρ:Nat→Option Loc} {σ:Nat→Option aB} {n:Nat} {w w':World} (hI:Inv cx ρ σ n w) (hb:Below w.heap.size w w') (Z:Nat) (e:TypeId) (a:Option Addr) :
  ∃ v ρ',Ending.returned (.slice a 0 0) = .returned v∧Inv cx ρ' (aQ σ n (some (.arr false Z []))) (n+1) w'∧aD cx ρ ρ' σ (aQ σ n (some (.arr false Z []))) w w'∧Rd w' (aF cx ρ' (aQ σ n (some (.arr false Z [])))) ρ' (.own n) v:=by
 obtain ⟨g1,g2⟩:=hI.eL (Nat.le_refl n) ⟨0,Z,0,e,0⟩ (.arr false Z []) hb (fun h=>absurd h (by show ¬ 0<0+0;omega)) ⟨fun h=>absurd h (by show ¬ 0<0+0;omega),fun _=>⟨false,Z,rfl⟩⟩
 exact ⟨_,_,rfl,g1,g2,.bG n ⟨0,Z,0,e,0⟩ a (fQ ..) rfl⟩
theorem G2 (L:SlLaysE0.n41 P ρn) (hi:∃ i0,P.info? (ρn.t 23)=some i0∧i0.zero=some zv∧i0.size=Z∧i0.bytes=by_)
  (z23:∀ w,(Go.sizeOf (ρn.t 23)).run P w = .ok Z w) (hZ:0<Z) (hzc:zv.cells.size=Z) (hz1:∀ u∈zv.cells.toList,u.oneCell'=true) (hentry:∃ fn,P.funcs[ρn.f 41]? = some fn∧(fn.name == "runtime.NumGoroutine")=false∧fn.body.isNone=false) :
  bO P (ρn.f 41) (vI Z by_):=by
 obtain ⟨i0,hi0,hz0,hzs,hzb⟩:=hi
 refine ⟨hentry,fun cx ρ σ n w args vs d σ' n' hP hG hI ha hg=>?_⟩
 subst hP
 unfold vI at hg
 split at hg
 ·rename_i k
  split at hg
  case h_2=>cases hg
  rename_i ro z' rows hσ
  split at hg
  case h_2=>cases hg
  rename_i hc
  simp only[Option.some.injEq,Prod.mk.injEq] at hg
  obtain ⟨rfl,rfl,rfl⟩:=hg
  simp only[Bool.and_eq_true,decide_eq_true_eq] at hc
  obtain ⟨⟨rfl,hby⟩,h47⟩:=hc
  have hvs:∃ v1,vs = #[v1]∧Rd w (aF cx ρ σ) ρ (.own k) v1:=by
   have hs:vs.size=1:=ha.1
   obtain ⟨l⟩:=vs
   match l,hs with
   | [v1],_=>exact ⟨v1,rfl,by simpa using ha.2 0 (by simp)⟩
  obtain ⟨v1,rfl,g1⟩:=hvs
  cases g1 with
  | bG _ l a hl h0 =>
   obtain ⟨l',hl',hbx⟩:=hI.boxes k _ hσ
   rw[hl] at hl';cases hl'
   obtain ⟨ro',zz,hx⟩:=hbx.2 h0
   cases hx
   cases a with
   | none =>
    refine (AnyE.slices_Clone_nil L 0 0 w).mono ?_
    rintro e w' ⟨rfl,rfl⟩
    exact kK hI (Below.refl _ _) _ (ρn.t 23) _
   | some a =>
    refine (kI L i0 z' hi0 hzs z23 a 0 w).mono ?_
    rintro e w' ⟨rfl,rfl⟩
    exact kK hI ((Below.refl _ w).alloc (Nat.le_refl _) _) _ (ρn.t 23) _
  | own _ l hl h0 hLC hCm =>
   obtain ⟨c,ho,hsz,hL,hcs,hLC',_,hsm,hwid,hc,hone⟩:=ID hI hσ hl h0
   rw[hL]
   by_cases hpos:0<rows.length
   ·have m4:rows.length*z'≤l.C*z':=Nat.mul_le_mul_right _ hLC'
    have hcl:(c.toList.take (rows.length*z')).length=rows.length*z':=by rw[List.length_take];exact Nat.min_eq_left (by rw[show c.toList.length=c.size from Array.length_toList];omega)
    refine AK hI L i0 hi0 hz0 hzs hzb z23 hZ hzc hz1 hwid hby h47 hpos hcl (fun j v hj=>?_) (fun v hv=>?_) fun a j ha hj=>?_
    ·have hlt:j<rows.length*z':=by rw[←hcl];exact (List.getElem?_eq_some_iff.1 hj).1
     rw[fJ hlt] at hj
     simp[World.cell?,ho,hj]
    ·obtain ⟨p,hp⟩:=List.mem_iff_getElem?.1 (List.mem_of_mem_take hv)
     exact hone p v (by simpa using hp)
    ·obtain ⟨v,u1,u2⟩:=hc a j ha hj
     have hjZ:j<z':=by rw[←hwid _ (List.getElem_mem ha)];exact hj
     have:=Nat.mul_le_mul_right z' (show a+1≤rows.length by omega)
     rw[Nat.add_mul,Nat.one_mul] at this
     exact ⟨v,by rw[fJ (by omega)];exact u1,u2⟩
   ·have h0:rows=[]:=List.length_eq_zero_iff.1 (by omega)
    subst h0
    refine (kI L i0 z' hi0 hzs z23 _ _ w).mono ?_
    rintro e w' ⟨rfl,rfl⟩
    exact kK hI ((Below.refl _ w).alloc (Nat.le_refl _) _) _ (ρn.t 23) _
 ·rename_i t
  split at hg
  case h_2=>cases hg
  rename_i full rows hrt
  split at hg
  case h_2=>cases hg
  rename_i hc
  simp only[Option.some.injEq,Prod.mk.injEq] at hg
  obtain ⟨rfl,rfl,rfl⟩:=hg
  simp only[Bool.and_eq_true,decide_eq_true_eq] at hc
  obtain ⟨⟨hall,hby⟩,h47⟩:=hc
  have hwid:∀ r∈rows,r.length=Z:=fun r hr=>by simpa using List.all_eq_true.1 hall r hr
  have hvs:∃ v1,vs = #[v1]∧aU w (aF cx ρ σ) t v1:=by
   have hs:vs.size=1:=ha.1
   obtain ⟨l⟩:=vs
   match l,hs with
   | [v1],_ =>
    have h:=ha.2 0 (by simp)
    refine ⟨v1,rfl,?_⟩
    simp only[List.getElem_cons_zero] at h
    cases h with
    | p _ _ h=>simpa using h
  obtain ⟨v1,rfl,g1⟩:=hvs
  have g2:=eD g1 hrt
  clear g1 hrt
  have none:∀ (a:Addr) (cap:Nat),Calls cx.P (ρn.f 41) #[.slice (some a) 0 cap] w fun e w'=>∃ v ρ',e = .returned v∧Inv cx ρ' (aQ σ n (some (.arr false Z []))) (n+1) w'∧aD cx ρ ρ' σ (aQ σ n (some (.arr false Z []))) w w'∧Rd w' (aF cx ρ' (aQ σ n (some (.arr false Z [])))) ρ' (.own n) v:=fun a cap=>by
   refine (kI L i0 Z hi0 hzs z23 a cap w).mono ?_
   rintro e w' ⟨rfl,rfl⟩
   exact kK hI ((Below.refl _ w).alloc (Nat.le_refl _) _) _ (ρn.t 23) _
  cases g2 with
  | aV _ a cap hf hn =>
   cases a with
   | none =>
    refine (AnyE.slices_Clone_nil L 0 cap w).mono ?_
    rintro e w' ⟨rfl,rfl⟩
    exact kK hI (Below.refl _ _) _ (ρn.t 23) _
   | some a=>exact none a cap
  | sl _ _ sz aG off cap f h1 h2 h3 h4 h45 h5 h6 h7 h8 =>
   by_cases hpos:0<rows.length
   ·have hsz:sz=Z:=by
     rw[←hwid _ (List.getElem_mem hpos)]
     exact (h5 _ (List.getElem_mem hpos)).symm
    subst hsz
    obtain ⟨news,hs⟩:=gB (ρ:=ρ) (own:=aF cx ρ σ) (w:=w) (aG:=aG) (off:=off) (rows:=aA rows) hZ (fun r hr=>by
     simp only[aA,List.mem_map] at hr
     obtain ⟨q,hq,rfl⟩:=hr
     rw[List.length_map];exact hwid q hq) (fun i j hi hj=>by
     have hi':i<rows.length:=by simpa using hi
     have hj':j<rows[i].length:=by simpa [aA] using hj
     have hjs:j<sz:=by rw[←hwid _ (List.getElem_mem hi')];exact hj'
     have hx:(aA rows)[i][j] = .p rows[i][j]:=by simp[aA]
     refine ⟨f i j,by have:=(h7 i j hi' hjs).1;rwa[Nat.add_assoc] at this,(h7 i j hi' hjs).2,?_⟩
     rw[hx]
     exact .p _ _ (h8 i j hi' hj'))
    refine AK hI L i0 hi0 hz0 hzs hzb z23 hZ hzc hz1 hwid hby h47 hpos (cs:=news) (by rw[hs.len];simp) (fun j u hj=>(hs.cell j u hj).1) (fun u hu=>?_) fun a j ha hj=>?_
    ·obtain ⟨p,hp⟩:=List.mem_iff_getElem?.1 hu
     exact (hs.cell p u hp).2
    ·have ha':a<(aA rows).length:=by simpa using ha
     have hj':j<(aA rows)[a].length:=by simpa [aA] using hj
     obtain ⟨u,u1,u2⟩:=hs.rd a j ha' hj'
     have hx:(aA rows)[a][j] = .p rows[a][j]:=by simp[aA]
     rw[hx] at u2
     cases u2 with
     | p _ _ u2=>exact ⟨u,u1,u2⟩
   ·have h0:rows=[]:=List.length_eq_zero_iff.1 (by omega)
    subst h0
    exact none _ _
 ·cases hg
end
end Go.Pv
