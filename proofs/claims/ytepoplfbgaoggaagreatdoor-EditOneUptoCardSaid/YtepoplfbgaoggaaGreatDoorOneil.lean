/-
  slices.Delete, slices.Clone at elements of any number of cells (after the kit's contracts).
-/
import Derived.Shelf.SlicesE.Delete
import Derived.Shelf.SlicesE.Clone
import Derived.Shelf.Spec.SlicesInsert
import Derived.Deep.Upon
set_option linter.defProp false
set_option linter.unusedVariables false
set_option linter.unusedSimpArgs false
namespace Go.Proofs
open Go.Shelf Go.RowKit Go.Lib
variable {P : Program} {ρ : Ren}
def M1 (w:World) (t e ty:TypeId) (z:Value) (ht:P.underlying t=some (.slice e)) (hv:∀ w,(zeroValue e).run P w = .ok z w) (b o n c:Nat) (hn:0<n) (h1:∀ v∈(Builtin.zeroCells z.cells n).toList,v.oneCell'=true)
  (hc:∀ j,j<(Builtin.zeroCells z.cells n).toList.length->(w.cell? ⟨b,o+j,none⟩).isSome=true) (hf:∀ j,j<(Builtin.zeroCells z.cells n).toList.length->w.frozen? ⟨b,o+j,none⟩=false) :
  (Builtin.clear_ #[t] ty #[.slice (some ⟨b,o,none⟩) n c]).run P w = .ok (.tuple #[]) (w.setCells b o (Builtin.zeroCells z.cells n).toList):=by
 have hst:=run_storeCells_cells (P:=P) b o (Builtin.zeroCells z.cells n).toList 0 w (by simpa using hc) (by simpa using hf) h1;obtain ⟨m,rfl⟩:∃ m,n=m+1:=⟨n-1,by omega⟩
 simp only[Builtin.clear_];simp[run_underlying ht,hv];rw[hst];rfl
structure ANM (P:Program) (ρ:Ren) (Z:Nat) (zv:Value):Prop where
 mixed:P.follows .mixedOrders=true
 f45:Bears P (ρ.f 45) (SlBodyN.n45 ρ)
 t0:P.underlying (ρ.t 0)=some (TypeDesc.tuple #[])
 a0:∀ w,(isAgg (ρ.t 0)).run P w = .ok false w
 z0:∀ w,(Go.sizeOf (ρ.t 0)).run P w = .ok 1 w
 v0:∀ w,(zeroValue (ρ.t 0)).run P w = .ok (Value.tuple #[]) w
 t3:P.underlying (ρ.t 3)=some (TypeDesc.int IntKind.i64)
 a3:∀ w,(isAgg (ρ.t 3)).run P w = .ok false w
 z3:∀ w,(Go.sizeOf (ρ.t 3)).run P w = .ok 1 w
 v3:∀ w,(zeroValue (ρ.t 3)).run P w = .ok (Value.int IntKind.i64 0) w
 t4:P.underlying (ρ.t 4)=some (TypeDesc.bool)
 a4:∀ w,(isAgg (ρ.t 4)).run P w = .ok false w
 z4:∀ w,(Go.sizeOf (ρ.t 4)).run P w = .ok 1 w
 v4:∀ w,(zeroValue (ρ.t 4)).run P w = .ok (Value.bool false) w
 t22:P.underlying (ρ.t 22)=some (TypeDesc.slice (ρ.t 23))
 a22:∀ w,(isAgg (ρ.t 22)).run P w = .ok false w
 z22:∀ w,(Go.sizeOf (ρ.t 22)).run P w = .ok 1 w
 v22:∀ w,(zeroValue (ρ.t 22)).run P w = .ok (Value.slice none 0 0) w
 z23:∀ w,(Go.sizeOf (ρ.t 23)).run P w = .ok Z w
 v23:∀ w,(zeroValue (ρ.t 23)).run P w = .ok zv w
 i23:∃ i,P.info? (ρ.t 23)=some i/\i.size=Z
set_option maxHeartbeats 4000000 in
set_option maxRecDepth 1000000 in
def BHO {Z:Nat} {zv:Value} (L:ANM P ρ Z zv) (hzc:zv.cells.size=Z) (hz1:∀ m,∀ v∈(Builtin.zeroCells zv.cells m).toList,v.oneCell'=true) (bV off cap n i j:Nat) (cs:List Value) (w:World) (hcl:cs.length=n*Z)
  (hH:∀ p v,cs[p]? = some v->w.cell? ⟨bV,off+p,none⟩=some v) (hfz:∀ p,w.frozen? ⟨bV,p,none⟩=false) (hc1:∀ v∈cs,v.oneCell'=true) (hcap:n<=cap) (hm:cap<=9223372036854775807) (hlt:i<j) (hj:j<=n) :
  Calls P (ρ.f 45) #[.slice (some ⟨bV,off,none⟩) n cap,.int .i64 i,.int .i64 j] w λe w'=>e = .returned (.slice (some ⟨bV,off,none⟩) (n-(j-i)) cap) /\
   w'=(w.drew.setCells bV (off+i*Z) (cs.drop (j*Z))).setCells bV (off+(i+(n-j))*Z) (Builtin.zeroCells zv.cells (n-(i+(n-j)))).toList:=by
 have mixed:=L.mixed;have t0:=L.t0;have a0:=L.a0;have z0:=L.z0;have v0:=L.v0;have t3:=L.t3;have a3:=L.a3;have z3:=L.z3;have v3:=L.v3;have t4:=L.t4;have a4:=L.a4;have z4:=L.z4;have v4:=L.v4;have t22:=L.t22;have a22:=L.a22;have z22:=L.z22;have v22:=L.v22;have z23:=L.z23;obtain ⟨i0,hi0,hzs⟩:=L.i23;have hij:i<=j:=by omega
 obtain ⟨news,hnews⟩:∃ news,news=cs.drop (j*Z):=⟨_,rfl⟩
 have e1:j*Z<=n*Z:=Nat.mul_le_mul_right _ hj;have e2:(n-j)*Z=n*Z-j*Z:=Nat.sub_mul ..;have e3:i*Z<=j*Z:=Nat.mul_le_mul_right _ hij;have e4:(i+(n-j))*Z=i*Z+(n-j)*Z:=Nat.add_mul ..;have e5:(n-(i+(n-j)))*Z=n*Z-(i+(n-j))*Z:=Nat.sub_mul ..;have hlen:news.length=(n-j)*Z:=by rw[hnews,List.length_drop,hcl,e2]
 have hsome:∀ p,p<n*Z->(w.cell? ⟨bV,off+p,none⟩).isSome=true:=λp hp=>by rw[hH p _ (List.getElem?_eq_getElem (by omega))];rfl
 obtain ⟨A,hA,hsrc⟩:∃ A:Addr,(if cap=j then some (⟨bV,off,none⟩:Addr) else some ⟨bV,off+j*Z,none⟩)=some A/\Hid (∀ t u,news[t]? = some u->w.drew.cell? (A.add t)=some u):=by
  by_cases h:cap=j
  ·refine ⟨⟨bV,off,none⟩,by simp[h],λt u hu=>?_⟩;have h0:news.length=0:=by rw[hlen,show n-j=0 by omega,Nat.zero_mul]
   rw[List.length_eq_zero_iff.1 h0] at hu;simp at hu
  ·refine ⟨⟨bV,off+j*Z,none⟩,by simp[h],λt u hu=>?_⟩;rw[hnews,List.getElem?_drop] at hu;rw[Addr.add_lit,Nat.add_assoc];exact hH _ u hu
 have s1:Hid (news.length=(n-j)*Z):=hlen;have s2:Hid (∀ u∈news,u.oneCell'=true):=by
  intro u hu;rw[hnews] at hu;exact hc1 u (List.mem_of_mem_drop hu)
 have s3:Hid (∀ t,t<news.length->(w.drew.cell? ⟨bV,off+i*Z+t,none⟩).isSome=true/\w.drew.frozen? ⟨bV,off+i*Z+t,none⟩=false):=by
  intro t ht;rw[hlen] at ht;rw[Nat.add_assoc];exact ⟨hsome _ (by omega),hfz _⟩
 obtain ⟨W1,hW1⟩:∃ W1,W1=w.drew.setCells bV (off+i*Z) news:=⟨_,rfl⟩
 have hzl:(Builtin.zeroCells zv.cells (n-(i+(n-j)))).toList.length=(n-(i+(n-j)))*Z:=by simp[Builtin.zeroCells,hzc]
 have hclr:∀ ty,(Builtin.clear_ #[ρ.t 22] ty #[.slice (some ⟨bV,off+(i+(n-j))*Z,none⟩) (n-(i+(n-j))) (cap-(i+(n-j)))]).run P W1 = .ok (.tuple #[]) (W1.setCells bV (off+(i+(n-j))*Z) (Builtin.zeroCells zv.cells (n-(i+(n-j)))).toList) :=
  λty=>M1 W1 _ _ ty _ t22 L.v23 bV (off+(i+(n-j))*Z) _ _ (by omega) (hz1 _) (λt ht=>by
   rw[hW1,Nat.add_assoc];refine isSome_setCells _ _ _ _ (λq hq=>?_) _ (hsome _ (by omega));rw[Nat.add_assoc];exact hsome _ (by omega)) (λt ht=>by rw[hW1,World.frozen?_setCells];exact hfz _)
 have X:Aside (W1=w.drew.setCells bV (off+i*Z) news):=hW1;have Y:Aside (news=cs.drop (j*Z)):=hnews;have hW:Hid (W1=w.drew.setCells bV (off+i*Z) news):=hW1;have hic:i<=cap:=by omega
 have hjc:j<=cap:=by omega
 clear hW1 hH hnews hlen e1 e2 e3 e4 e5 hsome hzl hc1 hcl;obtain ⟨_,_,FG⟩:=L.f45;generalize (Builtin.zeroCells zv.cells (n-(i+(n-j)))).toList=ZL at hclr ⊢;clear hz1 hzc
 go_enter FG,SlBodyN.n45_ntmps ρ
 go_wp2_with fail
 go_region_law_o (refine step_append_room rfl (.tmp 22) (.tmp 25) (ρ.t 22) rfl (ρ.t 23) i0 Z t22 hi0 hzs bV off i cap (by simp[Act.eval,Act.put]) A (n-j) (cap-j) news (by simp[Act.eval,Act.put]) s1.out hsrc.out s2.out (by omega) s3.out ?_;rw[<-hW.out])
 go_wp2
 go_ret
 exact ⟨by rw[show n-(j-i)=i+(n-j) by omega];rfl,by rw[X.out,Y.out]⟩
set_option maxHeartbeats 4000000 in
set_option maxRecDepth 100000 in
def BMO (L:SlLaysE0.n41 P ρ) (i0:TypeInfo) (zv:Value) (Z by_:Nat) (hi0:P.info? (ρ.t 23)=some i0) (hz0:i0.zero=some zv) (hzs:i0.size=Z) (hzb:i0.bytes=by_)
  (z23:∀ w,(Go.sizeOf (ρ.t 23)).run P w = .ok Z w) (b off n c:Nat) (cs:List Value) (w:World) (hn0:0<n) (hl:cs.length=n*Z) (hn47:n<=140737488355328) (hbig:n*by_<=140737488355328)
  (hc:∀ j u,cs[j]? = some u->w.cell? ⟨b,off+j,none⟩=some u) (h1:∀ u∈cs,u.oneCell'=true) :
  Calls P (ρ.f 41) #[.slice (some ⟨b,off,none⟩) n c] w λe w' =>
   e = .returned (.slice (some ⟨w.heap.size+1,0,none⟩) n (grownCap (w.alloc (.cells #[] (ρ.t 23))) n 0 (ρ.t 23))) /\
   w'=(w.alloc (.cells #[] (ρ.t 23))).drew.alloc (.cells (cs.toArray++Builtin.zeroCells zv.cells (grownCap (w.alloc (.cells #[] (ρ.t 23))) n 0 (ρ.t 23)-n)) (ρ.t 23)):=by
 have mixed:=L.mixed;have t4:=L.t4;have a4:=L.a4;have z4:=L.z4;have v4:=L.v4;have t22:=L.t22;have a22:=L.a22;have z22:=L.z22;have v22:=L.v22;have q22:∀ (w:World) (a:Option Addr) (n c n' c':Nat),(binOp .eql (ρ.t 22) (.slice a n c) (.slice none n' c')).run P w = .ok (.bool a.isNone) w:=λw a n c n' c'=>Lib.run_eql_slice_nil w _ _ a n c n' c' L.t22;have u22:∀ w,Sem.run P (underlying (ρ.t 22)) w = .ok (TypeDesc.slice (ρ.t 23)) w:=run_underlying t22;obtain ⟨W,hW⟩:∃ W,W=w.alloc (.cells #[] (ρ.t 23)):=⟨_,rfl⟩
 have hWs:W.heap.size=w.heap.size+1:=by rw[hW];simp
 have hsrc:Src P i0.size (ρ.t 22) (.slice (some ⟨b,off,none⟩) n c) n cs W:=by
  rw[hzs];exact Src.ofSlice W L.t22 ⟨b,off,none⟩ n c cs hl (λj u hj=>by rw[Addr.add_lit,hW];exact Lib.cell?_alloc_some _ (hc j u hj)) h1
 have hrun:∀ ty,(Builtin.append_ #[(ρ.t 22),(ρ.t 22)] ty #[.slice (some ⟨w.heap.size,0,none⟩) 0 0,.slice (some ⟨b,off,none⟩) n c]).run P W =
   .ok (.slice (some ⟨w.heap.size+1,0,none⟩) n (grownCap W n 0 (ρ.t 23))) (W.drew.alloc (.cells (cs.toArray++Builtin.zeroCells zv.cells (grownCap W n 0 (ρ.t 23)-n)) (ρ.t 23))):=λty=>by
  have h:=run_append_grow_src W (ρ.t 22) (ρ.t 22) ty (ρ.t 23) i0 zv L.t22 hi0 hz0 (some ⟨w.heap.size,0,none⟩) 0 0 [] (by
   rw[hzs];exact run_firstCells_some W.drew Z 0 ⟨w.heap.size,0,none⟩ 0 0 [] (by simp) (λj v hj=>by simp at hj)) _ n cs hsrc (by omega) (by omega) (by rw[hzb];exact growslice_fits (by omega) (by simpa using hbig))
  rw[hWs] at h;simpa using h
 rw[hW] at hrun;clear hW hWs hsrc;generalize cs.toArray++Builtin.zeroCells zv.cells (grownCap (w.alloc (.cells #[] (ρ.t 23))) n 0 (ρ.t 23)-n)=ROW at hrun ⊢;clear hz0;have A:Aside (∀ j u,cs[j]? = some u->w.cell? ⟨b,off+j,none⟩=some u):=hc;clear hc;obtain ⟨_,_,FG⟩:=L.f41
 go_enter FG,SlBodyN.n41_ntmps ρ
 go_wp2_with (at_builtin;refine Lib.wpList_append_run _ rfl _ _ _ _ rfl _ _ rfl rfl _ _ (hrun _) ?_)
 go_ret
 exact ⟨rfl,rfl⟩
set_option maxHeartbeats 4000000 in
set_option maxRecDepth 100000 in
def AD (L:SlLaysE0.n41 P ρ) (i0:TypeInfo) (Z:Nat) (hi0:P.info? (ρ.t 23)=some i0) (hzs:i0.size=Z)
  (z23:∀ w,(Go.sizeOf (ρ.t 23)).run P w = .ok Z w) (a:Addr) (c:Nat) (w:World) :
  Calls P (ρ.f 41) #[.slice (some a) 0 c] w λe w' =>
   e = .returned (.slice (some ⟨w.heap.size,0,none⟩) 0 0)/\w'=w.alloc (.cells #[] (ρ.t 23)):=by
 have mixed:=L.mixed;have t4:=L.t4;have a4:=L.a4;have z4:=L.z4;have v4:=L.v4;have t22:=L.t22;have a22:=L.a22;have z22:=L.z22;have v22:=L.v22;have q22:∀ (w:World) (a:Option Addr) (n c n' c':Nat),(binOp .eql (ρ.t 22) (.slice a n c) (.slice none n' c')).run P w = .ok (.bool a.isNone) w:=λw a n c n' c'=>Lib.run_eql_slice_nil w _ _ a n c n' c' L.t22;have u22:∀ w,Sem.run P (underlying (ρ.t 22)) w = .ok (TypeDesc.slice (ρ.t 23)) w:=run_underlying t22;obtain ⟨W,hW⟩:∃ W,W=w.alloc (.cells #[] (ρ.t 23)):=⟨_,rfl⟩
 have hsrc:Src P i0.size (ρ.t 22) (.slice (some a) 0 c) 0 [] W:=by
  rw[hzs];exact Src.ofSlice W L.t22 a 0 c [] (by simp) (λj u hj=>by simp at hj) (by simp)
 have hrun:∀ ty,(Builtin.append_ #[(ρ.t 22),(ρ.t 22)] ty #[.slice (some ⟨w.heap.size,0,none⟩) 0 0,.slice (some a) 0 c]).run P W = .ok (.slice (some ⟨w.heap.size,0,none⟩) 0 0) W:=λty=>by
  have h:=run_append_room_src W (ρ.t 22) (ρ.t 22) ty (ρ.t 23) i0 L.t22 hi0 w.heap.size 0 0 0 _ 0 [] hsrc (Nat.le_refl _) (by simp) (by simp);exact h
 rw[hW] at hrun;clear hW hsrc;obtain ⟨_,_,FG⟩:=L.f41;obtain ⟨ab,ao,asp⟩:=a
 go_enter FG,SlBodyN.n41_ntmps ρ
 go_wp2_with (at_builtin;refine Lib.wpList_append_run _ rfl _ _ _ _ rfl _ _ rfl rfl _ _ (hrun _) ?_)
 go_ret
 exact ⟨rfl,rfl⟩
end Go.Proofs
