/-
  slices.Delete, slices.Clone at elements of any number of cells (after the kit's contracts).
-/
import Derived.Shelf.SlicesE.Delete
import Derived.Shelf.SlicesE.Clone
import Derived.Shelf.Spec.SlicesInsert
import Derived.Deep.Upon
set_option linter.defProp false
set_option linter.unusedVariables false
set_option linter.unusedSimpArgs false
namespace Go.Proofs
open Go.Shelf Go.RowKit Go.Lib
variable {P : Program} {ρ : Ren}
structure UW (P:Program) (ρ:Ren) (Z:Nat) (zv:Value):Prop where
 mixed:P.follows .mixedOrders=true
 f45:Bears P (ρ.f 45) (SlBodyN.n45 ρ)
 t0:P.underlying (ρ.t 0)=some (TypeDesc.tuple #[])
 a0:∀ w,(isAgg (ρ.t 0)).run P w = .ok false w
 z0:∀ w,(Go.sizeOf (ρ.t 0)).run P w = .ok 1 w
 v0:∀ w,(zeroValue (ρ.t 0)).run P w = .ok (Value.tuple #[]) w
 t3:P.underlying (ρ.t 3)=some (TypeDesc.int IntKind.i64)
 a3:∀ w,(isAgg (ρ.t 3)).run P w = .ok false w
 z3:∀ w,(Go.sizeOf (ρ.t 3)).run P w = .ok 1 w
 v3:∀ w,(zeroValue (ρ.t 3)).run P w = .ok (Value.int IntKind.i64 0) w
 t4:P.underlying (ρ.t 4)=some (TypeDesc.bool)
 a4:∀ w,(isAgg (ρ.t 4)).run P w = .ok false w
 z4:∀ w,(Go.sizeOf (ρ.t 4)).run P w = .ok 1 w
 v4:∀ w,(zeroValue (ρ.t 4)).run P w = .ok (Value.bool false) w
 t22:P.underlying (ρ.t 22)=some (TypeDesc.slice (ρ.t 23))
 a22:∀ w,(isAgg (ρ.t 22)).run P w = .ok false w
 z22:∀ w,(Go.sizeOf (ρ.t 22)).run P w = .ok 1 w
 v22:∀ w,(zeroValue (ρ.t 22)).run P w = .ok (Value.slice none 0 0) w
 z23:∀ w,(Go.sizeOf (ρ.t 23)).run P w = .ok Z w
 v23:∀ w,(zeroValue (ρ.t 23)).run P w = .ok zv w
 i23:∃ i,P.info? (ρ.t 23)=some i∧i.size=Z
set_option maxHeartbeats 4000000 in
set_option maxRecDepth 1000000 in
theorem QP (L:SlLaysE0.n41 P ρ) (i0:TypeInfo) (zv:Value) (Z by_:Nat) (hi0:P.info? (ρ.t 23)=some i0) (hz0:i0.zero=some zv) (hzs:i0.size=Z) (hzb:i0.bytes=by_)
  (z23:∀ w,(Go.sizeOf (ρ.t 23)).run P w = .ok Z w) (b off n c:Nat) (cs:List Value) (w:World) (hn0:0<n) (hl:cs.length=n*Z) (hn47:n≤140737488355328) (hbig:n*by_≤140737488355328)
  (hc:∀ j u,cs[j]? = some u→w.cell? ⟨b,off+j,none⟩=some u) (h1:∀ u∈cs,u.oneCell'=true) :
  Calls P (ρ.f 41) #[.slice (some ⟨b,off,none⟩) n c] w fun e w' =>
   e = .returned (.slice (some ⟨w.heap.size+1,0,none⟩) n (grownCap (w.alloc (.cells #[] (ρ.t 23))) n 0 (ρ.t 23))) ∧
   w'=(w.alloc (.cells #[] (ρ.t 23))).drew.alloc (.cells (cs.toArray++Builtin.zeroCells zv.cells (grownCap (w.alloc (.cells #[] (ρ.t 23))) n 0 (ρ.t 23)-n)) (ρ.t 23)):=by
 have mixed:=L.mixed;have t4:=L.t4;have a4:=L.a4;have z4:=L.z4;have v4:=L.v4;have t22:=L.t22;have a22:=L.a22;have z22:=L.z22;have v22:=L.v22
 have q22:∀ (w:World) (a:Option Addr) (n c n' c':Nat),(binOp .eql (ρ.t 22) (.slice a n c) (.slice none n' c')).run P w = .ok (.bool a.isNone) w:=fun w a n c n' c'=>Lib.run_eql_slice_nil w _ _ a n c n' c' L.t22
 have u22:∀ w,Sem.run P (underlying (ρ.t 22)) w = .ok (TypeDesc.slice (ρ.t 23)) w:=run_underlying t22
 obtain ⟨W,hW⟩:∃ W,W=w.alloc (.cells #[] (ρ.t 23)):=⟨_,rfl⟩
 have hWs:W.heap.size=w.heap.size+1:=by rw[hW];simp
 have hsrc:Src P i0.size (ρ.t 22) (.slice (some ⟨b,off,none⟩) n c) n cs W:=by
  rw[hzs]
  exact Src.ofSlice W L.t22 ⟨b,off,none⟩ n c cs hl (fun j u hj=>by rw[Addr.add_lit,hW];exact Lib.cell?_alloc_some _ (hc j u hj)) h1
 have hrun:∀ ty,(Builtin.append_ #[(ρ.t 22),(ρ.t 22)] ty #[.slice (some ⟨w.heap.size,0,none⟩) 0 0,.slice (some ⟨b,off,none⟩) n c]).run P W =
   .ok (.slice (some ⟨w.heap.size+1,0,none⟩) n (grownCap W n 0 (ρ.t 23))) (W.drew.alloc (.cells (cs.toArray++Builtin.zeroCells zv.cells (grownCap W n 0 (ρ.t 23)-n)) (ρ.t 23))):=fun ty=>by
  have h:=run_append_grow_src W (ρ.t 22) (ρ.t 22) ty (ρ.t 23) i0 zv L.t22 hi0 hz0 (some ⟨w.heap.size,0,none⟩) 0 0 [] (by
   rw[hzs]
   exact run_firstCells_some W.drew Z 0 ⟨w.heap.size,0,none⟩ 0 0 [] (by simp) (fun j v hj=>by simp at hj)) _ n cs hsrc (by omega) (by omega) (by rw[hzb];exact growslice_fits (by omega) (by simpa using hbig))
  rw[hWs] at h
  simpa using h
 rw[hW] at hrun
 clear hW hWs hsrc
 generalize cs.toArray++Builtin.zeroCells zv.cells (grownCap (w.alloc (.cells #[] (ρ.t 23))) n 0 (ρ.t 23)-n)=ROW at hrun ⊢
 clear hz0
 have A:Aside (∀ j u,cs[j]? = some u→w.cell? ⟨b,off+j,none⟩=some u):=hc
 clear hc
 obtain ⟨_,_,FG⟩:=L.f41
 go_enter FG,SlBodyN.n41_ntmps ρ
 go_wp2_with (at_builtin;refine Lib.wpList_append_run _ rfl _ _ _ _ rfl _ _ rfl rfl _ _ (hrun _) ?_)
 go_ret
 exact ⟨rfl,rfl⟩
set_option maxHeartbeats 4000000 in
set_option maxRecDepth 100000 in
theorem kI (L:SlLaysE0.n41 P ρ) (i0:TypeInfo) (Z:Nat) (hi0:P.info? (ρ.t 23)=some i0) (hzs:i0.size=Z)
  (z23:∀ w,(Go.sizeOf (ρ.t 23)).run P w = .ok Z w) (a:Addr) (c:Nat) (w:World) :
  Calls P (ρ.f 41) #[.slice (some a) 0 c] w fun e w' =>
   e = .returned (.slice (some ⟨w.heap.size,0,none⟩) 0 0)∧w'=w.alloc (.cells #[] (ρ.t 23)):=by
 have mixed:=L.mixed;have t4:=L.t4;have a4:=L.a4;have z4:=L.z4;have v4:=L.v4;have t22:=L.t22;have a22:=L.a22;have z22:=L.z22;have v22:=L.v22
 have q22:∀ (w:World) (a:Option Addr) (n c n' c':Nat),(binOp .eql (ρ.t 22) (.slice a n c) (.slice none n' c')).run P w = .ok (.bool a.isNone) w:=fun w a n c n' c'=>Lib.run_eql_slice_nil w _ _ a n c n' c' L.t22
 have u22:∀ w,Sem.run P (underlying (ρ.t 22)) w = .ok (TypeDesc.slice (ρ.t 23)) w:=run_underlying t22
 obtain ⟨W,hW⟩:∃ W,W=w.alloc (.cells #[] (ρ.t 23)):=⟨_,rfl⟩
 have hsrc:Src P i0.size (ρ.t 22) (.slice (some a) 0 c) 0 [] W:=by
  rw[hzs]
  exact Src.ofSlice W L.t22 a 0 c [] (by simp) (fun j u hj=>by simp at hj) (by simp)
 have hrun:∀ ty,(Builtin.append_ #[(ρ.t 22),(ρ.t 22)] ty #[.slice (some ⟨w.heap.size,0,none⟩) 0 0,.slice (some a) 0 c]).run P W = .ok (.slice (some ⟨w.heap.size,0,none⟩) 0 0) W:=fun ty=>by
  have h:=run_append_room_src W (ρ.t 22) (ρ.t 22) ty (ρ.t 23) i0 L.t22 hi0 w.heap.size 0 0 0 _ 0 [] hsrc (Nat.le_refl _) (by simp) (by simp)
  exact h
 rw[hW] at hrun
 clear hW hsrc
 obtain ⟨_,_,FG⟩:=L.f41
 obtain ⟨ab,ao,asp⟩:=a
 go_enter FG,SlBodyN.n41_ntmps ρ
 go_wp2_with (at_builtin;refine Lib.wpList_append_run _ rfl _ _ _ _ rfl _ _ rfl rfl _ _ (hrun _) ?_)
 go_ret
 exact ⟨rfl,rfl⟩
end Go.Proofs
