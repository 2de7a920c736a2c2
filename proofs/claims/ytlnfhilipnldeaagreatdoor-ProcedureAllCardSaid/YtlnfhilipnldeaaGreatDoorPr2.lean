/-
  dag.Order, walked.
  Chapter 17: the tree's parts and packages, walked; Check, walked.
  Plane geometry, plain.
  poly: crosses and edges.
  poly: simple contours and their areas.
  poly.Where; region: edges, within, apart, Check, Area2.
  region: Check, Area2.
  vec.Valid; material: Check, Grade, Rolled.
-/
import Derived.Test.YtlnfhilipnldeaaGreatDoorPr1
set_option linter.unusedSimpArgs false
set_option linter.unusedVariables false
set_option maxRecDepth 100000
namespace Go.Pv
open Go Go.Proofs
abbrev ySE : Sy := .pr (.int .i64) (.int .i64)
set_option maxRecDepth 100000
noncomputable def E_ends : Env := Env.of []
def H_ends : FuncId → Hint := fun f => match f == 72 with | true => ⟨fun r => match r == 2 with | true => .inv [.val 9 false (.int .i64)] | false => .none, fun _ _ => none, fun _ => none⟩ | false => noHint
theorem Eok_ends : EnvOk Tryz.prog E_ends := EnvOk.nil _
def F_ends (a0 : Int) (a1 : List TPoint) (R : T → Prop) : Prop :=
 loopK (Int × PUnit)
 (fun (X0 : Int × PUnit → Prop) (s1 : Int × PUnit) =>
 iteP (decide (s1.fst < (↑(List.map yPoint.enc a1).length : Int)))
 (rowsK yPoint (List.map yPoint.enc a1) s1.fst fun (y2 : TPoint) =>
 iteP (decide (y2.fst < 0)) (R (T.v (Value.int IntKind.i64 9)))
 (iteP (decide (a0 ≤ y2.fst)) (R (T.v (Value.int IntKind.i64 9)))
 (iteP (decide (y2.snd < 0)) (R (T.v (Value.int IntKind.i64 9)))
 (iteP (decide (a0 ≤ y2.snd)) (R (T.v (Value.int IntKind.i64 9)))
 (iteP (decide (y2.fst = y2.snd)) (R (T.v (Value.int IntKind.i64 2)))
 (X0 (IntKind.i64.wrap (s1.fst + 1), ())))))))
 (R (T.v (Value.int IntKind.i64 0))))
 (0, ())
theorem F_ends_eq (a0 : Int) (a1 : List TPoint) (R : T → Prop) : sxTop stdC2 Tryz.prog E_ends H_ends 8 72 [encV false (Sy.int IntKind.i64) a0, encV false yPoint.li a1] R = F_ends a0 a1 R := by kernel_rfl
abbrev s_ends : Sh := [(false, (Sy.int IntKind.i64)), (false, yPoint.li)]
abbrev r_ends : Sh := [(false, Sy.int IntKind.i64)]
theorem r_ends_call (y : Sh.den r_ends) (K : Sh.den r_ends → Prop) : callK r_ends (some (Sh.enc r_ends y)) K = K y := callK_enc rfl y K

def endE (n : Int) (x : TPoint) : Int := if x.1 < 0 ∨ n ≤ x.1 ∨ x.2 < 0 ∨ n ≤ x.2 then 9 else if x.1 = x.2 then 2 else 0
def sp_ends (x : Int × List TPoint) : Option T := onlyL x.2 (T.v (Value.int .i64 (firstE (endE x.1) x.2)))
noncomputable def g_ends : List T → Option (T) := gS s_ends sp_ends
theorem g_ends_at {a0 : Int} {a1 : List TPoint} : g_ends [T.v (Value.int IntKind.i64 a0), T.sl false (List.map yPoint.enc a1)] = sp_ends (a0, a1) := gS_enc (s := s_ends) rfl (a0, a1) rfl
theorem g_ends_op {u0 u1} : g_ends [T.v (Value.int IntKind.i64 u0), T.sl false (List.map yPoint.enc u1)] = sp_ends (u0, u1) := gS_enc (s := s_ends) rfl (u0, u1) rfl
theorem of_ends (h : ∀ (a0 : Int) (a1 : List TPoint) (r : T), sp_ends (a0, a1) = some r → BdSh s_ends (a0, a1) → F_ends a0 a1 (fun y => y = r)) : PureFn Tryz.prog 72 g_ends :=
  pureFn_S (E := E_ends) (Hs := H_ends) Eok_ends mixed' plain' (noHeap_of rfl) 8 ⟨_, _, Tryz.func72, rfl⟩ rfl fun x r h1 h2 => by
    obtain ⟨a0, a1⟩ := x
    rw [show Sh.encs s_ends (a0, a1) = [encV false (Sy.int IntKind.i64) a0, encV false yPoint.li a1] from rfl, F_ends_eq]
    exact h a0 a1 r h1 h2

theorem fn_ends : PureFn Tryz.prog 72 g_ends := of_ends fun n l r h hb => by
  obtain ⟨hl, rfl⟩ := onlyL_of h
  clear h
  unfold F_ends
  refine first_loop (r := yPoint) (endE n) hl (fun X s y hy hok hbad => ?_) fun h0 => ?_
  · have bad : ∀ {m : Int}, m ≠ 0 → endE n y = m → T.v (Value.int IntKind.i64 m) = T.v (Value.int IntKind.i64 (firstE (endE n) l)) := fun hn h => by
      rw [hbad (by rw [h]; exact hn), h]
    clear hbad hb
    repeat' first
      | refine ifQ (fun h => ?_) (fun h => ?_)
      | refine ifP (fun h => ?_) (fun h => ?_)
    all_goals first
      | (exfalso; omega)
      | (refine bad (by decide) ?_; clear bad hok; unfold endE; first | (rw [if_pos (by omega)]; done) | (rw [if_neg (by omega), if_pos (by omega)]; done))
      | (refine hok ?_; clear bad hok; unfold endE; rw [if_neg (by omega), if_neg (by omega)]; done)
  · show _ = T.v (Value.int IntKind.i64 (firstE (endE n) l))
    rw [h0]
set_option maxRecDepth 100000
noncomputable def E_order : Env := Env.of [(72, .pure g_ends)]
def H_order : FuncId → Hint := fun f => match f == 44 with | true => ⟨fun r => match r == 8 with | true => .inv [.arr 0 1 (.int .i64), .val 31 false (.int .i64)] | false => match r == 14 with | true => .inv [.arr 0 1 (.int .i64), .own 10 1 (.int .i64), .arr 2 1 .bool] | false => match r == 16 with | true => .inv [.val 52 false (.int .i64), .fix 0, .fix 2, .fix 3] | false => match r == 22 with | true => .inv [.arr 0 1 (.int .i64), .val 75 false (.int .i64)] | false => .none, fun _ _ => none, fun _ => none⟩ | false => noHint
theorem Eok_order : EnvOk Tryz.prog E_order := EnvOk.cons (x := .pure g_ends) fn_ends (EnvOk.nil _)
def F_order (a0 : Int) (a1 : List TPoint) (R : T → Prop) : Prop :=
 iteP (decide (a0 < 0))
 (reqK (T.v (Value.int IntKind.i64 9)).flat
 (R (T.tup [T.sl false [], T.v (Value.int IntKind.i64 9)])))
 (iteP (decide (256 < a0))
 (reqK (T.v (Value.int IntKind.i64 9)).flat
 (R (T.tup [T.sl false [], T.v (Value.int IntKind.i64 9)])))
 (callK [(false, Sy.int IntKind.i64)]
 (g_ends [T.v (Value.int IntKind.i64 a0), T.sl false (List.map yPoint.enc a1)])
 fun (y0 : Int) =>
 iteP (!decide (y0 = 0))
 (reqK (T.v (Value.int IntKind.i64 y0)).flat
 (R (T.tup [T.sl false [], T.v (Value.int IntKind.i64 y0)])))
 (reqK
 ((decide (a0 = a0) || decide (a0 = 0)) && decide (0 ≤ a0) && decide (a0 * (↑8 : Int) ≤ 140737488355328) &&
 decide (a0 ≤ 140737488355328))
 (decK (Sy.int IntKind.i64)
 (List.replicate (Int.toNat a0) [T.v (Value.int IntKind.i64 0)]) fun (y1 : List Int) =>
 loopK (List Int × Int × PUnit)
 (fun (X2 : List Int × Int × PUnit → Prop) (s3 : List Int × Int × PUnit) =>
 iteP (decide (s3.snd.fst < (↑(List.map yPoint.enc a1).length : Int)))
 (rowsK yPoint (List.map yPoint.enc a1) s3.snd.fst fun (y4 : TPoint) =>
 rowsK (Sy.int IntKind.i64) (List.map (Sy.int IntKind.i64).enc s3.fst) y4.snd
 fun (y5 : Int) =>
 partK (Sy.int IntKind.i64) (List.map (Sy.int IntKind.i64).enc s3.fst)
 (Int.toNat y4.snd) 0 fun (y6 : Int) =>
 rowsK (Sy.int IntKind.i64) (List.map (Sy.int IntKind.i64).enc s3.fst)
 y4.snd fun (y7 : Int) =>
 rowK (List.map (Sy.int IntKind.i64).enc s3.fst) (Int.toNat y4.snd)
 fun (y8 : List T) =>
 reqK (decide (1 ≤ y8.length))
 (decK (Sy.int IntKind.i64)
 ((List.map (Sy.int IntKind.i64).enc s3.fst).set (Int.toNat y4.snd)
 (splice y8 0
 [T.v (Value.int IntKind.i64 (IntKind.i64.wrap (y6 + 1)))]))
 fun (y9 : List Int) => X2 (y9, IntKind.i64.wrap (s3.snd.fst + 1), ())))
 (reqK
 ((decide (0 = a0) || true) && decide (0 ≤ a0) && decide (a0 * (↑8 : Int) ≤ 140737488355328) &&
 decide (a0 ≤ 140737488355328))
 (reqK
 ((decide (a0 = a0) || decide (a0 = 0)) && decide (0 ≤ a0) &&
 decide (a0 * (↑1 : Int) ≤ 140737488355328) &&
 decide (a0 ≤ 140737488355328))
 (decK (Sy.int IntKind.i64) (List.map (Sy.int IntKind.i64).enc s3.fst)
 fun (y10 : List Int) =>
 decK (Sy.int IntKind.i64) [] fun (y11 : List Int) =>
 decK Sy.bool (List.replicate (Int.toNat a0) [T.v (Value.bool false)])
 fun (y12 : List Bool) =>
 loopK (List Int × List Int × List Bool × PUnit)
 (fun (X13 : List Int × List Int × List Bool × PUnit → Prop)
 (s14 : List Int × List Int × List Bool × PUnit) =>
 iteP
 (decide
 ((↑(List.map (Sy.int IntKind.i64).enc s14.snd.fst).length : Int) < a0))
 (sameK
 (Box.arr false 1 (List.map (Sy.int IntKind.i64).enc s14.fst))
 (Box.arr false 1 (List.map (Sy.int IntKind.i64).enc s14.fst))
 (sameK (Box.arr false 1 (List.map Sy.bool.enc s14.snd.snd.fst))
 (Box.arr false 1 (List.map Sy.bool.enc s14.snd.snd.fst))
 (sameK
 (Box.arr false 1 (List.map (Sy.int IntKind.i64).enc s14.snd.fst))
 (Box.arr false 1 (List.map (Sy.int IntKind.i64).enc s14.snd.fst))
 (loopK (Int × PUnit × PUnit × PUnit × PUnit)
 (fun (X15 : Int × PUnit × PUnit × PUnit × PUnit → Prop)
 (s16 : Int × PUnit × PUnit × PUnit × PUnit) =>
 iteP (decide (s16.fst < a0))
 (rowsK Sy.bool (List.map Sy.bool.enc s14.snd.snd.fst)
 s16.fst fun (y17 : Bool) =>
 partK Sy.bool (List.map Sy.bool.enc s14.snd.snd.fst)
 (Int.toNat s16.fst) 0 fun (y18 : Bool) =>
 iteP y18
 (sameK
 (Box.arr false 1
 (List.map (Sy.int IntKind.i64).enc s14.fst))
 (Box.arr false 1
 (List.map (Sy.int IntKind.i64).enc s14.fst))
 (sameK
 (Box.arr false 1
 (List.map Sy.bool.enc s14.snd.snd.fst))
 (Box.arr false 1
 (List.map Sy.bool.enc s14.snd.snd.fst))
 (sameK
 (Box.arr false 1
 (List.map (Sy.int IntKind.i64).enc s14.snd.fst))
 (Box.arr false 1
 (List.map (Sy.int IntKind.i64).enc s14.snd.fst))
 (X15 (IntKind.i64.wrap (s16.fst + 1), (), (), (), ())))))
 (rowsK (Sy.int IntKind.i64)
 (List.map (Sy.int IntKind.i64).enc s14.fst) s16.fst
 fun (y19 : Int) =>
 partK (Sy.int IntKind.i64)
 (List.map (Sy.int IntKind.i64).enc s14.fst)
 (Int.toNat s16.fst) 0 fun (y20 : Int) =>
 iteP (decide (0 < y20))
 (sameK
 (Box.arr false 1
 (List.map (Sy.int IntKind.i64).enc s14.fst))
 (Box.arr false 1
 (List.map (Sy.int IntKind.i64).enc s14.fst))
 (sameK
 (Box.arr false 1
 (List.map Sy.bool.enc s14.snd.snd.fst))
 (Box.arr false 1
 (List.map Sy.bool.enc s14.snd.snd.fst))
 (sameK
 (Box.arr false 1
 (List.map (Sy.int IntKind.i64).enc
 s14.snd.fst))
 (Box.arr false 1
 (List.map (Sy.int IntKind.i64).enc
 s14.snd.fst))
 (X15
 (IntKind.i64.wrap (s16.fst + 1), (), (), (),
 ())))))
 (rowsK Sy.bool
 (List.map Sy.bool.enc s14.snd.snd.fst) s16.fst
 fun (y21 : Bool) =>
 rowK (List.map Sy.bool.enc s14.snd.snd.fst)
 (Int.toNat s16.fst) fun (y22 : List T) =>
 reqK (decide (1 ≤ y22.length))
 (reqK
 (decide
 (((List.map (Sy.int IntKind.i64).enc
 s14.snd.fst).length +
 1) *
 8 ≤
 140737488355328) &&
 decide
 ((List.map (Sy.int IntKind.i64).enc
 s14.snd.fst).length +
 1 ≤
 140737488355328))
 (decK (Sy.int IntKind.i64)
 (List.map (Sy.int IntKind.i64).enc s14.fst)
 fun (y23 : List Int) =>
 loopK (List Int × Int × PUnit)
 (fun (X24 : List Int × Int × PUnit → Prop)
 (s25 : List Int × Int × PUnit) =>
 iteP
 (decide
 (s25.snd.fst <
 (↑(List.map yPoint.enc a1).length :
 Int)))
 (rowsK yPoint
 (List.map yPoint.enc a1) s25.snd.fst
 fun (y26 : TPoint) =>
 iteP (decide (y26.fst = s16.fst))
 (rowsK (Sy.int IntKind.i64)
 (List.map
 (Sy.int IntKind.i64).enc
 s25.fst)
 y26.snd fun (y27 : Int) =>
 partK
 (Sy.int IntKind.i64)
 (List.map
 (Sy.int IntKind.i64).enc
 s25.fst)
 (Int.toNat y26.snd) 0
 fun (y28 : Int) =>
 rowsK
 (Sy.int IntKind.i64)
 (List.map
 (Sy.int IntKind.i64).enc
 s25.fst)
 y26.snd fun (y29 : Int) =>
 rowK
 (List.map
 (Sy.int
 IntKind.i64).enc
 s25.fst)
 (Int.toNat y26.snd)
 fun (y30 : List T) =>
 reqK
 (decide (1 ≤ y30.length))
 (decK
 (Sy.int IntKind.i64)
 ((List.map
 (Sy.int
 IntKind.i64).enc
 s25.fst).set
 (Int.toNat y26.snd)
 (splice y30 0
 [T.v
 (Value.int
 IntKind.i64
 (IntKind.i64.wrap
 (y28 - 1)))]))
 fun (y31 : List Int) =>
 X24
 (y31,
 IntKind.i64.wrap
 (s25.snd.fst + 1),
 ())))
 (decK (Sy.int IntKind.i64)
 (List.map
 (Sy.int IntKind.i64).enc
 s25.fst)
 fun (y32 : List Int) =>
 X24
 (y32,
 IntKind.i64.wrap
 (s25.snd.fst + 1),
 ())))
 (decK (Sy.int IntKind.i64)
 (List.map (Sy.int IntKind.i64).enc
 s25.fst)
 fun (y33 : List Int) =>
 decK (Sy.int IntKind.i64)
 (List.map
 (Sy.int IntKind.i64).enc
 s14.snd.fst ++
 [[T.v
 (Value.int IntKind.i64
 s16.fst)]])
 fun (y34 : List Int) =>
 decK Sy.bool
 ((List.map Sy.bool.enc
 s14.snd.snd.fst).set
 (Int.toNat s16.fst)
 (splice y22 0
 [T.v (Value.bool true)]))
 fun (y35 : List Bool) =>
 X13 (y33, y34, y35, ())))
 (y23, 0, ()))))))
 (reqK (T.v (Value.int IntKind.i64 20)).flat
 (R
 (T.tup
 [T.sl false [],
 T.v (Value.int IntKind.i64 20)]))))
 (0, (), (), (), ())))))
 (reqK
 ((List.map (Sy.int IntKind.i64).enc s14.snd.fst).all
 fun (r : List T) => r.all T.flat)
 (reqK (T.v (Value.int IntKind.i64 0)).flat
 (R
 (T.tup
 [T.sl false (List.map (Sy.int IntKind.i64).enc s14.snd.fst),
 T.v (Value.int IntKind.i64 0)])))))
 (y10, y11, y12, ())))))
 (y1, 0, ())))))
theorem F_order_eq (a0 : Int) (a1 : List TPoint) (R : T → Prop) : sxTopN stdC2 Tryz.prog E_order H_order 8 44 [encV false (Sy.int IntKind.i64) a0, encV false yPoint.li a1] R = F_order a0 a1 R := by kernel_rfl
abbrev s_order : Sh := [(false, (Sy.int IntKind.i64)), (false, yPoint.li)]
abbrev r_order : Sh := [(false, (Sy.int IntKind.i64).li), (false, Sy.int IntKind.i64)]
theorem r_order_call (y : Sh.den r_order) (K : Sh.den r_order → Prop) : callK r_order (some (Sh.enc r_order y)) K = K y := callK_enc rfl y K

/-- The order that takes the first free node. -/
def cntE (b : List Int) (e : TPoint) : List Int := b.set e.2.toNat (IntKind.i64.wrap (b.getD e.2.toNat 0 + 1))
def decE (v : Int) (b : List Int) (e : TPoint) : List Int := if e.1 = v then b.set e.2.toNat (IntKind.i64.wrap (b.getD e.2.toNat 0 - 1)) else b
def freeV (b : List Int) (t : List Bool) (k : Nat) : Bool := !t.getD k false && decide (b.getD k 0 ≤ 0)
def ordRun (l : List TPoint) (n : Nat) : Nat → List Int → List Int → List Bool → List Int × Int
  | 0, _, o, _ => (o, 0)
  | f + 1, b, o, t => match (List.range n).find? (freeV b t) with
    | none => ([], 20)
    | some v => ordRun l n f (l.foldl (decE v) b) (o ++ [(v : Int)]) (t.set v true)
def orderE (n : Int) (l : List TPoint) : List Int × Int :=
  if n < 0 ∨ 256 < n then ([], 9) else if firstE (endE n) l = 0 then ordRun l n.toNat n.toNat (l.foldl cntE (List.replicate n.toNat 0)) [] (List.replicate n.toNat false) else ([], firstE (endE n) l)
theorem cntE_len (b : List Int) (e : TPoint) : (cntE b e).length = b.length := by unfold cntE; rw [List.length_set]
theorem decE_len (v : Int) (b : List Int) (e : TPoint) : (decE v b e).length = b.length := by unfold decE; split <;> simp
theorem fold_len {α β : Type} {f : List β → α → List β} (hf : ∀ b e, (f b e).length = b.length) : ∀ (l : List α) (b : List β), (l.foldl f b).length = b.length
  | [], _ => rfl
  | e :: l, b => (fold_len hf l (f b e)).trans (hf b e)
theorem firstE_z {α : Type} {f : α → Int} : ∀ {l : List α}, firstE f l = 0 → ∀ a ∈ l, f a = 0
  | [], _, _, h => by cases h
  | b :: l, h, a, ha => by
    unfold firstE at h
    split at h
    · rename_i hb
      rcases List.mem_cons.1 ha with rfl | ha
      · exact hb
      · exact firstE_z h a ha
    · exact absurd h ‹_›
theorem rowsK_int {r : Sy} {l : List r.den} {i : Int} (h0 : 0 ≤ i) (h : i.toNat < l.length) (K : r.den → Prop) : rowsK r (List.map r.enc l) i K = K l[i.toNat] := by
  have e : i = ((i.toNat : Nat) : Int) := by omega
  have := rowsK_at h K
  rw [← e] at this
  exact this
/-- One element of an array of single cells is written. -/
theorem set_int {l : List Int} {k : Nat} (h : k < l.length) (y : Int) : (List.map (Sy.int .i64).enc l).set k (splice ((Sy.int .i64).enc l[k]) 0 [T.v (.int .i64 y)]) = List.map (Sy.int .i64).enc (l.set k y) := by
  rw [List.map_set]; rfl
theorem set_bool {l : List Bool} {k : Nat} (h : k < l.length) (y : Bool) : (List.map Sy.bool.enc l).set k (splice (Sy.bool.enc l[k]) 0 [T.v (.bool y)]) = List.map Sy.bool.enc (l.set k y) := by
  rw [List.map_set]; rfl
theorem getD_el {α : Type} {l : List α} {k : Nat} (d : α) (h : k < l.length) : l.getD k d = l[k] := by simp [List.getD, h]
theorem rep_int (n : Nat) : List.replicate n [T.v (Value.int .i64 0)] = List.map (Sy.int .i64).enc (List.replicate n 0) := by rw [List.map_replicate]; rfl
theorem rep_bool (n : Nat) : List.replicate n [T.v (Value.bool false)] = List.map Sy.bool.enc (List.replicate n false) := by rw [List.map_replicate]; rfl
theorem flat_ints (l : List Int) : ((List.map (Sy.int .i64).enc l).all fun (r : List T) => r.all T.flat) = true := by
  rw [List.all_map, List.all_eq_true]; intro a _; rfl
def sp_order (x : Int × List TPoint) : Option T := onlyL x.2 (Sh.enc r_order (orderE x.1 x.2))
noncomputable def g_order : List T → Option (T) := gS s_order sp_order
theorem g_order_at {a0 : Int} {a1 : List TPoint} : g_order [T.v (Value.int IntKind.i64 a0), T.sl false (List.map yPoint.enc a1)] = sp_order (a0, a1) := gS_enc (s := s_order) rfl (a0, a1) rfl
theorem g_order_op {u0 u1} : g_order [T.v (Value.int IntKind.i64 u0), T.sl false (List.map yPoint.enc u1)] = sp_order (u0, u1) := gS_enc (s := s_order) rfl (u0, u1) rfl
theorem of_order (h : ∀ (a0 : Int) (a1 : List TPoint) (r : T), sp_order (a0, a1) = some r → BdSh s_order (a0, a1) → F_order a0 a1 (fun y => y = r)) : NewFn Tryz.prog 44 g_order :=
  newFn_S (E := E_order) (Hs := H_order) Eok_order mixed' plain' (noHeap_of rfl) 8 ⟨_, _, Tryz.func44, rfl⟩ rfl fun x r h1 h2 => by
    obtain ⟨a0, a1⟩ := x
    rw [show Sh.encs s_order (a0, a1) = [encV false (Sy.int IntKind.i64) a0, encV false yPoint.li a1] from rfl, F_order_eq]
    exact h a0 a1 r h1 h2

theorem fn_order : NewFn Tryz.prog 44 g_order := of_order fun n l r h hb => by
  obtain ⟨hl, rfl⟩ := onlyL_of h
  clear h
  have hl : l.length ≤ 140737488355328 := hl
  unfold F_order
  refine ifP (fun h => ?_) fun hn0 => ?_
  · refine ⟨rfl, ?_⟩
    show _ = Sh.enc r_order (orderE n l)
    rw [orderE, if_pos (Or.inl h)]; rfl
  refine ifP (fun h => ?_) fun hn1 => ?_
  · refine ⟨rfl, ?_⟩
    show _ = Sh.enc r_order (orderE n l)
    rw [orderE, if_pos (Or.inr h)]; rfl
  refine callK_some (s := [(false, .int .i64)]) (y := firstE (endE n) l) (by rw [g_ends_at]; exact onlyL_ok _ hl) ?_
  refine ifQ (fun h0 => ?_) (fun h0 => ?_)
  · refine ⟨rfl, ?_⟩
    show _ = Sh.enc r_order (orderE n l)
    rw [orderE, if_neg (by omega), if_neg h0]; rfl
  have hv : orderE n l = ordRun l n.toNat n.toNat (l.foldl cntE (List.replicate n.toNat 0)) [] (List.replicate n.toNat false) := by
    rw [orderE, if_neg (by omega), if_pos h0]
  have hend : ∀ e ∈ l, 0 ≤ e.1 ∧ e.1 < n ∧ 0 ≤ e.2 ∧ e.2 < n := fun e he => by
    have := firstE_z h0 e he
    unfold endE at this
    split at this
    · exact absurd this (by decide)
    · omega
  clear h0 hb
  obtain ⟨N, rfl⟩ : ∃ N : Nat, n = (N : Int) := ⟨n.toNat, by omega⟩
  rw [Int.toNat_natCast] at hv ⊢
  refine ⟨by simp; omega, ?_⟩
  rw [rep_int, decK_map rfl]
  refine loopK_ix l.length (fun k s => s.2.1 = (k : Int) ∧ s.1.length = N ∧ (l.drop k).foldl cntE s.1 = l.foldl cntE (List.replicate N 0)) ⟨rfl, by simp, rfl⟩ ?_
  rintro X k ⟨b, i, u⟩ hk ⟨rfl, hbl, hbf⟩ hX
  dsimp only at hbl hbf ⊢
  refine ifP (fun hlt => ?_) fun hge => ?_
  · rw [List.length_map] at hlt
    have hlt : k < l.length := by omega
    rw [rowsK_at hlt]
    obtain ⟨-, -, e0, e1⟩ := hend _ (List.getElem_mem hlt)
    have hj : (l[k].2).toNat < b.length := by omega
    rw [rowsK_int e0 hj, partK_at hj, rowsK_int e0 hj, rowK_at hj]
    refine ⟨rfl, ?_⟩
    rw [set_int hj, decK_map rfl]
    refine hX _ hlt ⟨?_, ?_, ?_⟩
    · show IntKind.i64.wrap ((k : Int) + 1) = _
      rw [wrap_id] <;> omega
    · show (List.set _ _ _).length = N
      rw [List.length_set]; exact hbl
    · rw [List.drop_eq_getElem_cons hlt, List.foldl_cons] at hbf
      rw [← hbf]
      congr 1
      unfold cntE
      rw [getD_el (l := b) 0 hj]
  rw [List.length_map] at hge
  have hkl : k = l.length := by omega
  subst hkl
  rw [List.drop_length, List.foldl_nil] at hbf
  rw [← hbf] at hv
  refine ⟨by simp; omega, ⟨by simp; omega, ?_⟩⟩
  rw [decK_map rfl, decK_nil, rep_bool, decK_map rfl]
  clear hX hge hbf
  refine loopK_ix N (fun k s => s.1.length = N ∧ s.2.1.length = k ∧ s.2.2.1.length = N ∧ ordRun l N (N - k) s.1 s.2.1 s.2.2.1 = orderE N l) ⟨hbl, rfl, by simp, by rw [hv]; rfl⟩ ?_
  clear hv hbl b u
  rintro X k ⟨b, o, t, u⟩ hk ⟨hbl, hol, htl, hr⟩ hX
  dsimp only at hbl hol htl hr ⊢
  refine ifP (fun hlt => ?_) fun hge => ?_
  · rw [List.length_map, hol] at hlt
    have hlt : k < N := by omega
    rw [sameK_self, sameK_self, sameK_self]
    obtain ⟨m, hm⟩ : ∃ m, N - k = m + 1 := ⟨N - k - 1, by omega⟩
    rw [hm, ordRun] at hr
    refine loopK_ix N (fun j s => s.1 = (j : Int) ∧ (List.range N).find? (freeV b t) = (List.range' j (N - j)).find? (freeV b t)) ⟨rfl, by rw [List.range_eq_range']; rfl⟩ ?_
    rintro Y j ⟨i, u1, u2, u3, u4⟩ hj ⟨rfl, hf⟩ hY
    dsimp only at hf ⊢
    refine ifP (fun hjn => ?_) fun hjn => ?_
    · have hjn : j < N := by omega
      have hjb : j < b.length := by omega
      have hjt : j < t.length := by omega
      obtain ⟨q, hq⟩ : ∃ q, N - j = q + 1 := ⟨N - j - 1, by omega⟩
      rw [hq, List.range'_succ, List.find?_cons] at hf
      have next : freeV b t j = false → Y (IntKind.i64.wrap ((j : Int) + 1), (), (), (), ()) := fun h => by
        refine hY _ hjn ⟨?_, ?_⟩
        · show IntKind.i64.wrap ((j : Int) + 1) = _
          rw [wrap_id] <;> omega
        · rw [hf, h]
          rw [show N - (j + 1) = q by omega]
      simp only [Int.toNat_natCast]
      rw [rowsK_at hjt, partK_at hjt]
      refine ifB (fun ht => ?_) fun ht => ?_
      · rw [sameK_self, sameK_self, sameK_self]
        exact next (by rw [freeV, getD_el (l := t) false hjt, ht]; rfl)
      rw [rowsK_at hjb, partK_at hjb]
      refine ifP (fun hp => ?_) fun hp => ?_
      · rw [sameK_self, sameK_self, sameK_self]
        exact next (by rw [freeV, getD_el (l := b) 0 hjb, decide_eq_false (by omega), Bool.and_false])
      have hfree : freeV b t j = true := by rw [freeV, getD_el (l := b) 0 hjb, getD_el (l := t) false hjt, ht, decide_eq_true (by omega)]; rfl
      rw [hfree] at hf
      rw [hf] at hr
      dsimp only at hr
      clear next hY hf
      rw [rowsK_at hjt, rowK_at hjt]
      refine ⟨rfl, ⟨by simp; omega, ?_⟩⟩
      rw [decK_map rfl]
      refine loopK_ix l.length (fun k s => s.2.1 = (k : Int) ∧ s.1.length = N ∧ (l.drop k).foldl (decE j) s.1 = l.foldl (decE j) b) ⟨rfl, hbl, rfl⟩ ?_
      rintro Z i ⟨c, i', u⟩ hi ⟨rfl, hcl, hcf⟩ hZ
      dsimp only at hcl hcf ⊢
      refine ifP (fun hlt => ?_) fun hge => ?_
      · rw [List.length_map] at hlt
        have hlt : i < l.length := by omega
        rw [rowsK_at hlt]
        obtain ⟨-, -, e0, e1⟩ := hend _ (List.getElem_mem hlt)
        have hjc : (l[i].2).toNat < c.length := by omega
        rw [List.drop_eq_getElem_cons hlt, List.foldl_cons] at hcf
        have hw : IntKind.i64.wrap ((i : Int) + 1) = ((i + 1 : Nat) : Int) := by rw [wrap_id] <;> omega
        refine ifP (fun hv => ?_) fun hv => ?_
        · rw [rowsK_int e0 hjc, partK_at hjc, rowsK_int e0 hjc, rowK_at hjc]
          refine ⟨rfl, ?_⟩
          rw [set_int hjc, decK_map rfl]
          refine hZ _ hlt ⟨hw, ?_, ?_⟩
          · show (List.set _ _ _).length = N
            rw [List.length_set]; exact hcl
          · rw [← hcf]
            congr 1
            unfold decE
            rw [if_pos hv, getD_el (l := c) 0 hjc]
        · rw [decK_map rfl]
          refine hZ _ hlt ⟨hw, hcl, ?_⟩
          rw [← hcf]
          congr 1
          unfold decE
          rw [if_neg hv]
      · rw [List.length_map] at hge
        have hil : i = l.length := by omega
        subst hil
        rw [List.drop_length, List.foldl_nil] at hcf
        rw [decK_map rfl, decK_snoc (r := .int .i64) rfl o [T.v (.int .i64 (j : Int))] (j : Int) rfl, set_bool hjt, decK_map rfl]
        refine hX _ hlt ⟨hcl, by simp [hol], by simp [htl], ?_⟩
        rw [show N - (k + 1) = m by omega]
        show ordRun l N m c (o ++ [(j : Int)]) (t.set j true) = _
        rw [hcf]; exact hr
    · have hjn : j = N := by omega
      subst hjn
      rw [Nat.sub_self] at hf
      rw [show (List.range' j 0) = [] from rfl, List.find?_nil] at hf
      rw [hf] at hr
      refine ⟨rfl, ?_⟩
      show _ = Sh.enc r_order (orderE (j : Int) l)
      rw [← hr]; rfl
  · rw [List.length_map, hol] at hge
    have hkN : k = N := by omega
    subst hkN
    rw [Nat.sub_self, ordRun] at hr
    refine ⟨flat_ints o, rfl, ?_⟩
    show _ = Sh.enc r_order (orderE (k : Int) l)
    rw [← hr]; rfl
end Go.Pv
set_option linter.unusedSimpArgs false
set_option linter.unusedVariables false
set_option maxRecDepth 100000
namespace Go.Pv
open Go Go.Proofs
set_option maxRecDepth 100000
def A_strF (a0 : List ByteArray) : List T := [T.sl false (List.map Sy.str.enc a0)]
noncomputable def E_strF : Env := Env.of []
def H_strF : FuncId → Hint := fun _ => noHint
theorem Eok_strF : EnvOk Tryz.prog E_strF := EnvOk.nil _
def F_strF (a0 : List ByteArray) (R : T → Prop) : Prop :=
 R (T.fn 71 [] [T.ref [T.sl false (List.map Sy.str.enc a0)]])
theorem F_strF_eq (a0 : List ByteArray) (R : T → Prop) : sxTop stdC2 Tryz.prog E_strF H_strF 8 43 (A_strF a0) R = F_strF a0 R := by kernel_rfl
abbrev r_strF : Sh := [(false, Sy.any)]
theorem r_strF_call (y : Sh.den r_strF) (K : Sh.den r_strF → Prop) : callK r_strF (some (Sh.enc r_strF y)) K = K y := callK_enc rfl y K

def sp_strF (l : List ByteArray) : Option T := some (T.fn 71 [] [T.ref [T.sl false (List.map Sy.str.enc l)]])
theorem A_strF_inj (x y : List ByteArray) (h : A_strF x = A_strF y) : x = y := by
  unfold A_strF at h
  have h := (T.sl.injEq .. ▸ (List.cons.inj h).1)
  exact map_inj (Sy.enc_inj .str) h.2
noncomputable def g_strF : List T → Option (T) := gA (fun (x : List ByteArray) => A_strF x) sp_strF
theorem g_strF_at (a0 : List ByteArray) : g_strF (A_strF a0) = sp_strF a0 := gA_at (A := (fun (x : List ByteArray) => A_strF x)) A_strF_inj a0
theorem of_strF (h : ∀ (a0 : List ByteArray) (r : T), sp_strF a0 = some r → (∀ t ∈ A_strF a0, Bd t) → F_strF a0 (fun y => y = r)) : PureFn Tryz.prog 43 g_strF :=
  pureFn_A (E := E_strF) (Hs := H_strF) Eok_strF mixed' plain' (noHeap_of rfl) 8 ⟨_, _, Tryz.func43, rfl⟩ fun x r h1 h2 => by
    rw [F_strF_eq]
    exact h x r h1 h2

theorem fn_strF : PureFn Tryz.prog 43 g_strF := of_strF fun l r h hb => by
  cases h
  unfold F_strF
  rfl
theorem loop_one {S : Type} {F : (S → Prop) → S → Prop} {s : S} (h : ∀ X, F X s) : loopK S F s := fun X hX => hX s (h X)
theorem rowsK_zero {r : Sy} {a : r.den} {l : List r.den} (K : r.den → Prop) (hk : K a) : rowsK r (List.map r.enc (a :: l)) 0 K := ⟨a, by omega, rfl, hk⟩
end Go.Pv
set_option linter.unusedVariables false
set_option linter.unusedSimpArgs false
namespace Go.Pv
abbrev Pt := Int × Int
def crossI (a b c : Pt) : Int := (b.1 - a.1) * (c.2 - a.2) - (b.2 - a.2) * (c.1 - a.1)
def sgn (n : Int) : Int := if n < 0 then -1 else if 0 < n then 1 else 0
def btw (a b q : Pt) : Bool := decide (min a.1 b.1 ≤ q.1) && decide (q.1 ≤ max a.1 b.1) && (decide (min a.2 b.2 ≤ q.2) && decide (q.2 ≤ max a.2 b.2))
def onI (a b q : Pt) : Bool := decide (crossI a b q = 0) && btw a b q
def meetI (a b c d : Pt) : Bool := onI a b c || onI a b d || onI c d a || onI c d b || (decide (sgn (crossI a b c) * sgn (crossI a b d) < 0) && decide (sgn (crossI c d a) * sgn (crossI c d b) < 0))
def Near (q : Pt) : Prop := -32768 ≤ q.1 ∧ q.1 ≤ 32768 ∧ -32768 ≤ q.2 ∧ q.2 ≤ 32768
theorem mul_bd {x y M N : Int} (hx : -M ≤ x ∧ x ≤ M) (hy : -N ≤ y ∧ y ≤ N) (hM : 0 ≤ M) (hN : 0 ≤ N) : -(M * N) ≤ x * y ∧ x * y ≤ M * N := by
  have h1 : x.natAbs ≤ M.toNat := by omega
  have h2 : y.natAbs ≤ N.toNat := by omega
  have h3 := Nat.mul_le_mul h1 h2
  rw [← Int.natAbs_mul] at h3
  have h4 : ((M.toNat * N.toNat : Nat) : Int) = M * N := by
    rw [Int.natCast_mul, Int.toNat_of_nonneg hM, Int.toNat_of_nonneg hN]
  omega
theorem cross_bd {a b c : Pt} (ha : Near a) (hb : Near b) (hc : Near c) : (-4294967296 ≤ (b.1 - a.1) * (c.2 - a.2) ∧ (b.1 - a.1) * (c.2 - a.2) ≤ 4294967296) ∧ (-4294967296 ≤ (b.2 - a.2) * (c.1 - a.1) ∧ (b.2 - a.2) * (c.1 - a.1) ≤ 4294967296) := by
  unfold Near at ha hb hc
  have h1 := mul_bd (x := b.1 - a.1) (y := c.2 - a.2) (M := 65536) (N := 65536) (by omega) (by omega) (by omega) (by omega)
  have h2 := mul_bd (x := b.2 - a.2) (y := c.1 - a.1) (M := 65536) (N := 65536) (by omega) (by omega) (by omega) (by omega)
  constructor <;> constructor <;> omega
theorem sgn_bd (n : Int) : -1 ≤ sgn n ∧ sgn n ≤ 1 := by unfold sgn; split <;> (try split) <;> omega
theorem meetI_comm (a b c d : Pt) : meetI a b c d = meetI c d a b := by
  unfold meetI
  cases onI a b c <;> cases onI a b d <;> cases onI c d a <;> cases onI c d b <;> simp [Bool.and_comm]
end Go.Pv
namespace Go.Pv
theorem id_one (a b u v : Pt) : crossI u v b - crossI u v a + crossI a b v - crossI a b u = 0 := by
  simp only [crossI]; grind
theorem id_u (a b u v : Pt) : (a.2 - u.2) * crossI u v b - (b.2 - u.2) * crossI u v a - (v.2 - u.2) * crossI a b u = 0 := by
  simp only [crossI]; grind
theorem id_v (a b u v : Pt) : (a.2 - v.2) * crossI u v b - (b.2 - v.2) * crossI u v a + (u.2 - v.2) * crossI a b v = 0 := by
  simp only [crossI]; grind
theorem id_a (a b u v : Pt) : (b.2 - a.2) * crossI u v a + (v.2 - a.2) * crossI a b u - (u.2 - a.2) * crossI a b v = 0 := by
  simp only [crossI]; grind
theorem id_b (a b u v : Pt) : (b.2 - a.2) * crossI u v b + (v.2 - b.2) * crossI a b u - (u.2 - b.2) * crossI a b v = 0 := by
  simp only [crossI]; grind
end Go.Pv
namespace Go.Pv
def hit (a b q : Pt) : Bool := (decide (a.2 ≤ q.2) && decide (q.2 < b.2) && decide (0 < crossI a b q)) || (decide (b.2 ≤ q.2) && decide (q.2 < a.2) && decide (crossI a b q < 0))
/-- Right of the way from u up to v. -/
def dr (u v w : Pt) : Bool := decide (u.2 < w.2) && decide (w.2 ≤ v.2) && decide (crossI u v w < 0)
theorem cross_swap (a b q : Pt) : crossI b a q = - crossI a b q := by simp only [crossI]; grind
theorem hit_swap (a b q : Pt) : hit a b q = hit b a q := by
  have e1 : decide (0 < crossI b a q) = decide (crossI a b q < 0) := decide_eq_decide.2 (by rw [cross_swap a b q]; omega)
  have e2 : decide (crossI b a q < 0) = decide (0 < crossI a b q) := decide_eq_decide.2 (by rw [cross_swap a b q]; omega)
  unfold hit
  rw [e1, e2, Bool.or_comm]
theorem line_x {a b q : Pt} (h : crossI a b q = 0) (hab : a.2 < b.2) (h1 : a.2 ≤ q.2) (h2 : q.2 ≤ b.2) : btw a b q = true := by
  have e : (b.1 - a.1) * (q.2 - a.2) = (b.2 - a.2) * (q.1 - a.1) := by unfold crossI at h; omega
  have hx : min a.1 b.1 ≤ q.1 ∧ q.1 ≤ max a.1 b.1 := by
    rcases Int.le_total a.1 b.1 with hd | hd
    · have m1 := Int.mul_nonneg (show 0 ≤ b.1 - a.1 by omega) (show 0 ≤ q.2 - a.2 by omega)
      have m2 : (b.1 - a.1) * (q.2 - a.2) ≤ (b.1 - a.1) * (b.2 - a.2) := Int.mul_le_mul_of_nonneg_left (by omega) (by omega)
      have p1 : 0 ≤ q.1 - a.1 := by
        refine Int.not_lt.1 fun h => ?_
        have := Int.mul_neg_of_pos_of_neg (show 0 < b.2 - a.2 by omega) h
        omega
      have p2 : q.1 - a.1 ≤ b.1 - a.1 := by
        refine Int.not_lt.1 fun h => ?_
        have h3 := Int.mul_lt_mul_of_pos_left h (show 0 < b.2 - a.2 by omega)
        have h4 : (b.2 - a.2) * (b.1 - a.1) = (b.1 - a.1) * (b.2 - a.2) := Int.mul_comm _ _
        omega
      omega
    · have m1 := Int.mul_nonneg (show 0 ≤ a.1 - b.1 by omega) (show 0 ≤ q.2 - a.2 by omega)
      have m2 : (a.1 - b.1) * (q.2 - a.2) ≤ (a.1 - b.1) * (b.2 - a.2) := Int.mul_le_mul_of_nonneg_left (by omega) (by omega)
      have e1 : (a.1 - b.1) * (q.2 - a.2) = - ((b.1 - a.1) * (q.2 - a.2)) := by grind
      have p1 : q.1 - a.1 ≤ 0 := by
        refine Int.not_lt.1 fun h => ?_
        have := Int.mul_pos (show 0 < b.2 - a.2 by omega) h
        omega
      have p2 : b.1 - a.1 ≤ q.1 - a.1 := by
        refine Int.not_lt.1 fun h => ?_
        have h3 := Int.mul_lt_mul_of_pos_left h (show 0 < b.2 - a.2 by omega)
        have h4 : (a.1 - b.1) * (b.2 - a.2) = - ((b.2 - a.2) * (b.1 - a.1)) := by grind
        omega
      omega
  simp only [btw, Bool.and_eq_true, decide_eq_true_eq]
  omega
theorem on_zero {a b q : Pt} (h : crossI a b q = 0) (hab : a.2 < b.2) (h1 : a.2 ≤ q.2) (h2 : q.2 ≤ b.2) : onI a b q = true := by
  unfold onI; rw [decide_eq_true h, line_x h hab h1 h2]; rfl
theorem on_flat {a b q : Pt} (h1 : a.2 = q.2) (h2 : b.2 = q.2) (h3 : min a.1 b.1 ≤ q.1) (h4 : q.1 ≤ max a.1 b.1) : onI a b q = true := by
  unfold onI btw crossI
  simp only [Bool.and_eq_true, decide_eq_true_eq]
  refine ⟨?_, ⟨h3, h4⟩, by omega⟩
  rw [h1, h2]; grind
theorem meet_strict {a b u v : Pt} (hm : meetI a b u v = false) : ¬ (((0 < crossI a b u ∧ crossI a b v < 0) ∨ (crossI a b u < 0 ∧ 0 < crossI a b v)) ∧ ((0 < crossI u v a ∧ crossI u v b < 0) ∨ (crossI u v a < 0 ∧ 0 < crossI u v b))) := by
  rintro ⟨h1, h2⟩
  have s1 : sgn (crossI a b u) * sgn (crossI a b v) < 0 := by
    unfold sgn
    rcases h1 with ⟨h, h'⟩ | ⟨h, h'⟩
    · rw [if_neg (by omega), if_pos h, if_pos h']; decide
    · rw [if_pos h, if_neg (by omega), if_pos h']; decide
  have s2 : sgn (crossI u v a) * sgn (crossI u v b) < 0 := by
    unfold sgn
    rcases h2 with ⟨h, h'⟩ | ⟨h, h'⟩
    · rw [if_neg (by omega), if_pos h, if_pos h']; decide
    · rw [if_pos h, if_neg (by omega), if_pos h']; decide
  simp [meetI, s1, s2] at hm
theorem meet_ons {a b u v : Pt} (hm : meetI a b u v = false) : onI a b u = false ∧ onI a b v = false ∧ onI u v a = false ∧ onI u v b = false := by
  simp only [meetI, Bool.or_eq_false_iff] at hm
  exact ⟨hm.1.1.1.1, hm.1.1.1.2, hm.1.1.2, hm.1.2⟩
/-- An edge that reaches from below the way to above it. -/
theorem par_through {a b u v : Pt} (huv : u.2 ≤ v.2) (hm : meetI a b u v = false) (h1 : a.2 ≤ u.2) (h2 : v.2 < b.2) : 0 < crossI a b u ↔ 0 < crossI a b v := by
  obtain ⟨n1, n2, n3, n4⟩ := meet_ons hm
  have ms := meet_strict hm
  have i1 := id_one a b u v
  have i2 := id_u a b u v
  have i3 := id_v a b u v
  have z1 : crossI a b u ≠ 0 := fun h => by rw [on_zero h (by omega) h1 (by omega)] at n1; cases n1
  have z2 : crossI a b v ≠ 0 := fun h => by rw [on_zero h (by omega) (by omega) (by omega)] at n2; cases n2
  have e1 : (a.2 - u.2) * crossI u v b = - ((u.2 - a.2) * crossI u v b) := by grind
  have e2 : (a.2 - v.2) * crossI u v b = - ((v.2 - a.2) * crossI u v b) := by grind
  have e3 : (u.2 - v.2) * crossI a b v = - ((v.2 - u.2) * crossI a b v) := by grind
  have flat : u.2 = v.2 → a.2 = u.2 → ((0 < crossI a b u ∧ crossI a b v < 0) ∨ (crossI a b u < 0 ∧ 0 < crossI a b v)) → False := by
    intro g1 g2 g3
    have c1 : crossI a b u = -((b.2 - a.2) * (u.1 - a.1)) := by unfold crossI; rw [g2]; grind
    have c2 : crossI a b v = -((b.2 - a.2) * (v.1 - a.1)) := by unfold crossI; rw [g2, g1]; grind
    have sg : ∀ x : Int, (0 < (b.2 - a.2) * x → 0 < x) ∧ ((b.2 - a.2) * x < 0 → x < 0) := fun x => by
      refine ⟨fun h => Int.not_le.1 fun hx => ?_, fun h => Int.not_le.1 fun hx => ?_⟩
      · have := Int.mul_nonpos_of_nonneg_of_nonpos (show 0 ≤ b.2 - a.2 by omega) hx
        omega
      · have := Int.mul_nonneg (show 0 ≤ b.2 - a.2 by omega) hx
        omega
    have k1 := sg (u.1 - a.1)
    have k2 := sg (v.1 - a.1)
    have : onI u v a = true := on_flat (by omega) (by omega) (by omega) (by omega)
    rw [this] at n3; cases n3
  constructor
  · intro t1
    refine Int.not_le.1 fun t2 => ?_
    have t2 : crossI a b v < 0 := by omega
    have b1 := Int.mul_nonneg (show 0 ≤ v.2 - u.2 by omega) (Int.le_of_lt t1)
    have b2 := Int.mul_nonpos_of_nonneg_of_nonpos (show 0 ≤ v.2 - u.2 by omega) (Int.le_of_lt t2)
    rcases Int.lt_or_le (crossI u v a) 0 with s1 | s1
    · rcases Int.lt_or_le 0 (crossI u v b) with s2 | s2
      · exact ms ⟨.inl ⟨t1, t2⟩, .inr ⟨s1, s2⟩⟩
      · have c1 := Int.mul_nonpos_of_nonneg_of_nonpos (show 0 ≤ v.2 - a.2 by omega) s2
        have c2 := Int.mul_neg_of_pos_of_neg (show 0 < b.2 - v.2 by omega) s1
        omega
    · have s2 : 0 < crossI u v b := by omega
      have c1 := Int.mul_nonneg (show 0 ≤ u.2 - a.2 by omega) (Int.le_of_lt s2)
      have c2 := Int.mul_nonneg (show 0 ≤ b.2 - u.2 by omega) s1
      have g1 : v.2 - u.2 = 0 := by
        refine Classical.byContradiction fun h => ?_
        have := Int.mul_pos (show 0 < v.2 - u.2 by omega) t1
        omega
      have g2 : u.2 - a.2 = 0 := by
        refine Classical.byContradiction fun h => ?_
        have := Int.mul_pos (show 0 < u.2 - a.2 by omega) s2
        omega
      exact flat (by omega) (by omega) (.inl ⟨t1, t2⟩)
  · intro t2
    refine Int.not_le.1 fun t1 => ?_
    have t1 : crossI a b u < 0 := by omega
    have b2 := Int.mul_nonneg (show 0 ≤ v.2 - u.2 by omega) (Int.le_of_lt t2)
    have b1 := Int.mul_nonpos_of_nonneg_of_nonpos (show 0 ≤ v.2 - u.2 by omega) (Int.le_of_lt t1)
    rcases Int.lt_or_le 0 (crossI u v a) with s1 | s1
    · rcases Int.lt_or_le (crossI u v b) 0 with s2 | s2
      · exact ms ⟨.inr ⟨t1, t2⟩, .inl ⟨s1, s2⟩⟩
      · have c1 := Int.mul_nonneg (show 0 ≤ v.2 - a.2 by omega) s2
        have c2 := Int.mul_pos (show 0 < b.2 - v.2 by omega) s1
        omega
    · have s2 : crossI u v b < 0 := by omega
      have c1 := Int.mul_nonpos_of_nonneg_of_nonpos (show 0 ≤ u.2 - a.2 by omega) (Int.le_of_lt s2)
      have c2 := Int.mul_nonpos_of_nonneg_of_nonpos (show 0 ≤ b.2 - u.2 by omega) s1
      have g1 : v.2 - u.2 = 0 := by
        refine Classical.byContradiction fun h => ?_
        have := Int.mul_neg_of_pos_of_neg (show 0 < v.2 - u.2 by omega) t1
        omega
      have g2 : u.2 - a.2 = 0 := by
        refine Classical.byContradiction fun h => ?_
        have := Int.mul_neg_of_pos_of_neg (show 0 < u.2 - a.2 by omega) s2
        omega
      exact flat (by omega) (by omega) (.inr ⟨t1, t2⟩)
end Go.Pv
namespace Go.Pv
theorem par_low {a b u v : Pt} (hm : meetI a b u v = false) (h1 : a.2 ≤ u.2) (h2 : u.2 < b.2) (h3 : b.2 ≤ v.2) : 0 < crossI a b u ↔ crossI u v b < 0 := by
  obtain ⟨n1, n2, n3, n4⟩ := meet_ons hm
  have ms := meet_strict hm
  have i2 := id_u a b u v
  have i4 := id_b a b u v
  have z1 : crossI a b u ≠ 0 := fun h => by rw [on_zero h (by omega) h1 (by omega)] at n1; cases n1
  have z2 : crossI u v b ≠ 0 := fun h => by rw [on_zero h (by omega) (by omega) (by omega)] at n4; cases n4
  have e1 : (a.2 - u.2) * crossI u v b = - ((u.2 - a.2) * crossI u v b) := by grind
  have e2 : (u.2 - b.2) * crossI a b v = - ((b.2 - u.2) * crossI a b v) := by grind
  constructor
  · intro t1
    refine Int.not_le.1 fun s2 => ?_
    have s2 : 0 < crossI u v b := by omega
    have c1 := Int.mul_pos (show 0 < b.2 - a.2 by omega) s2
    have c2 := Int.mul_nonneg (show 0 ≤ v.2 - b.2 by omega) (Int.le_of_lt t1)
    have t2 : crossI a b v < 0 := Int.not_le.1 fun h => by
      have := Int.mul_nonneg (show 0 ≤ b.2 - u.2 by omega) h
      omega
    have c3 := Int.mul_nonneg (show 0 ≤ u.2 - a.2 by omega) (Int.le_of_lt s2)
    have c4 := Int.mul_pos (show 0 < v.2 - u.2 by omega) t1
    have s1 : crossI u v a < 0 := Int.not_le.1 fun h => by
      have := Int.mul_nonneg (show 0 ≤ b.2 - u.2 by omega) h
      omega
    exact ms ⟨.inl ⟨t1, t2⟩, .inr ⟨s1, s2⟩⟩
  · intro s2
    refine Int.not_le.1 fun t1 => ?_
    have t1 : crossI a b u < 0 := by omega
    have c1 := Int.mul_neg_of_pos_of_neg (show 0 < b.2 - a.2 by omega) s2
    have c2 := Int.mul_nonpos_of_nonneg_of_nonpos (show 0 ≤ v.2 - b.2 by omega) (Int.le_of_lt t1)
    have t2 : 0 < crossI a b v := Int.not_le.1 fun h => by
      have := Int.mul_nonpos_of_nonneg_of_nonpos (show 0 ≤ b.2 - u.2 by omega) h
      omega
    have c3 := Int.mul_nonpos_of_nonneg_of_nonpos (show 0 ≤ u.2 - a.2 by omega) (Int.le_of_lt s2)
    have c4 := Int.mul_neg_of_pos_of_neg (show 0 < v.2 - u.2 by omega) t1
    have s1 : 0 < crossI u v a := Int.not_le.1 fun h => by
      have := Int.mul_nonpos_of_nonneg_of_nonpos (show 0 ≤ b.2 - u.2 by omega) h
      omega
    exact ms ⟨.inr ⟨t1, t2⟩, .inl ⟨s1, s2⟩⟩
theorem par_high {a b u v : Pt} (hm : meetI a b u v = false) (h1 : u.2 < a.2) (h2 : a.2 ≤ v.2) (h3 : v.2 < b.2) : 0 < crossI a b v ↔ crossI u v a < 0 := by
  obtain ⟨n1, n2, n3, n4⟩ := meet_ons hm
  have ms := meet_strict hm
  have i3 := id_v a b u v
  have i4 := id_a a b u v
  have z1 : crossI a b v ≠ 0 := fun h => by rw [on_zero h (by omega) h2 (by omega)] at n2; cases n2
  have z2 : crossI u v a ≠ 0 := fun h => by rw [on_zero h (by omega) (by omega) (by omega)] at n3; cases n3
  have e1 : (a.2 - v.2) * crossI u v b = - ((v.2 - a.2) * crossI u v b) := by grind
  have e2 : (u.2 - v.2) * crossI a b v = - ((v.2 - u.2) * crossI a b v) := by grind
  have e3 : (u.2 - a.2) * crossI a b v = - ((a.2 - u.2) * crossI a b v) := by grind
  constructor
  · intro t2
    refine Int.not_le.1 fun s1 => ?_
    have s1 : 0 < crossI u v a := by omega
    have c1 := Int.mul_pos (show 0 < b.2 - v.2 by omega) s1
    have c2 := Int.mul_pos (show 0 < v.2 - u.2 by omega) t2
    have c3 := Int.mul_pos (show 0 < b.2 - a.2 by omega) s1
    have c4 := Int.mul_pos (show 0 < a.2 - u.2 by omega) t2
    have s2 : crossI u v b < 0 := Int.not_le.1 fun h => by
      have := Int.mul_nonneg (show 0 ≤ v.2 - a.2 by omega) h
      omega
    have t1 : crossI a b u < 0 := Int.not_le.1 fun h => by
      have := Int.mul_nonneg (show 0 ≤ v.2 - a.2 by omega) h
      omega
    exact ms ⟨.inr ⟨t1, t2⟩, .inl ⟨s1, s2⟩⟩
  · intro s1
    refine Int.not_le.1 fun t2 => ?_
    have t2 : crossI a b v < 0 := by omega
    have c1 := Int.mul_neg_of_pos_of_neg (show 0 < b.2 - v.2 by omega) s1
    have c2 := Int.mul_neg_of_pos_of_neg (show 0 < v.2 - u.2 by omega) t2
    have c3 := Int.mul_neg_of_pos_of_neg (show 0 < b.2 - a.2 by omega) s1
    have c4 := Int.mul_neg_of_pos_of_neg (show 0 < a.2 - u.2 by omega) t2
    have s2 : 0 < crossI u v b := Int.not_le.1 fun h => by
      have := Int.mul_nonpos_of_nonneg_of_nonpos (show 0 ≤ v.2 - a.2 by omega) h
      omega
    have t1 : 0 < crossI a b u := Int.not_le.1 fun h => by
      have := Int.mul_nonpos_of_nonneg_of_nonpos (show 0 ≤ v.2 - a.2 by omega) h
      omega
    exact ms ⟨.inl ⟨t1, t2⟩, .inr ⟨s1, s2⟩⟩
theorem par_mid {a b u v : Pt} (hm : meetI a b u v = false) (h1 : u.2 < a.2) (h2 : a.2 ≤ b.2) (h3 : b.2 ≤ v.2) : crossI u v a < 0 ↔ crossI u v b < 0 := by
  obtain ⟨n1, n2, n3, n4⟩ := meet_ons hm
  have ms := meet_strict hm
  have i1 := id_one a b u v
  have i3 := id_a a b u v
  have i4 := id_b a b u v
  have z1 : crossI u v a ≠ 0 := fun h => by rw [on_zero h (by omega) (by omega) (by omega)] at n3; cases n3
  have z2 : crossI u v b ≠ 0 := fun h => by rw [on_zero h (by omega) (by omega) (by omega)] at n4; cases n4
  have e2 : (u.2 - a.2) * crossI a b v = - ((a.2 - u.2) * crossI a b v) := by grind
  have e3 : (u.2 - b.2) * crossI a b v = - ((b.2 - u.2) * crossI a b v) := by grind
  have flat : a.2 = b.2 → v.2 = b.2 → ((crossI u v a < 0 ∧ 0 < crossI u v b) ∨ (0 < crossI u v a ∧ crossI u v b < 0)) → False := by
    intro g1 g2 g3
    have c1 : crossI u v a = (v.2 - u.2) * (v.1 - a.1) := by unfold crossI; rw [show a.2 = v.2 by omega]; grind
    have c2 : crossI u v b = (v.2 - u.2) * (v.1 - b.1) := by unfold crossI; rw [show b.2 = v.2 by omega]; grind
    have sg : ∀ x : Int, (0 < (v.2 - u.2) * x → 0 < x) ∧ ((v.2 - u.2) * x < 0 → x < 0) := fun x => by
      refine ⟨fun h => Int.not_le.1 fun hx => ?_, fun h => Int.not_le.1 fun hx => ?_⟩
      · have := Int.mul_nonpos_of_nonneg_of_nonpos (show 0 ≤ v.2 - u.2 by omega) hx
        omega
      · have := Int.mul_nonneg (show 0 ≤ v.2 - u.2 by omega) hx
        omega
    have k1 := sg (v.1 - a.1)
    have k2 := sg (v.1 - b.1)
    have : onI a b v = true := on_flat (by omega) (by omega) (by omega) (by omega)
    rw [this] at n2; cases n2
  constructor
  · intro s1
    refine Int.not_le.1 fun s2 => ?_
    have s2 : 0 < crossI u v b := by omega
    have d1 := Int.mul_nonpos_of_nonneg_of_nonpos (show 0 ≤ b.2 - a.2 by omega) (Int.le_of_lt s1)
    have d2 := Int.mul_nonneg (show 0 ≤ b.2 - a.2 by omega) (Int.le_of_lt s2)
    rcases Int.lt_or_le (crossI a b v) 0 with t2 | t2
    · rcases Int.lt_or_le 0 (crossI a b u) with t1 | t1
      · exact ms ⟨.inl ⟨t1, t2⟩, .inr ⟨s1, s2⟩⟩
      · have c1 := Int.mul_nonpos_of_nonneg_of_nonpos (show 0 ≤ v.2 - a.2 by omega) t1
        have c2 := Int.mul_neg_of_pos_of_neg (show 0 < a.2 - u.2 by omega) t2
        omega
    · have t1 : 0 < crossI a b u := by omega
      have c1 := Int.mul_nonneg (show 0 ≤ v.2 - b.2 by omega) (Int.le_of_lt t1)
      have c2 := Int.mul_nonneg (show 0 ≤ b.2 - u.2 by omega) t2
      have g1 : b.2 - a.2 = 0 := Classical.byContradiction fun h => by
        have := Int.mul_pos (show 0 < b.2 - a.2 by omega) s2
        omega
      have g2 : v.2 - b.2 = 0 := Classical.byContradiction fun h => by
        have := Int.mul_pos (show 0 < v.2 - b.2 by omega) t1
        omega
      exact flat (by omega) (by omega) (.inl ⟨s1, s2⟩)
  · intro s2
    refine Int.not_le.1 fun s1 => ?_
    have s1 : 0 < crossI u v a := by omega
    have d1 := Int.mul_nonneg (show 0 ≤ b.2 - a.2 by omega) (Int.le_of_lt s1)
    have d2 := Int.mul_nonpos_of_nonneg_of_nonpos (show 0 ≤ b.2 - a.2 by omega) (Int.le_of_lt s2)
    rcases Int.lt_or_le 0 (crossI a b v) with t2 | t2
    · rcases Int.lt_or_le (crossI a b u) 0 with t1 | t1
      · exact ms ⟨.inr ⟨t1, t2⟩, .inl ⟨s1, s2⟩⟩
      · have c1 := Int.mul_nonneg (show 0 ≤ v.2 - a.2 by omega) t1
        have c2 := Int.mul_pos (show 0 < a.2 - u.2 by omega) t2
        omega
    · have t1 : crossI a b u < 0 := by omega
      have c1 := Int.mul_nonpos_of_nonneg_of_nonpos (show 0 ≤ v.2 - b.2 by omega) (Int.le_of_lt t1)
      have c2 := Int.mul_nonpos_of_nonneg_of_nonpos (show 0 ≤ b.2 - u.2 by omega) t2
      have g1 : b.2 - a.2 = 0 := Classical.byContradiction fun h => by
        have := Int.mul_neg_of_pos_of_neg (show 0 < b.2 - a.2 by omega) s2
        omega
      have g2 : v.2 - b.2 = 0 := Classical.byContradiction fun h => by
        have := Int.mul_neg_of_pos_of_neg (show 0 < v.2 - b.2 by omega) t1
        omega
      exact flat (by omega) (by omega) (.inr ⟨s1, s2⟩)
/-- An edge that does not meet the way from u up to v changes sides as its ends do. -/
theorem edge_par0 {a b u v : Pt} (huv : u.2 ≤ v.2) (hab : a.2 ≤ b.2) (hm : meetI a b u v = false) : (hit a b u ^^ hit a b v) = (dr u v a ^^ dr u v b) := by
  have dn : ∀ q : Pt, (decide (b.2 ≤ q.2) && decide (q.2 < a.2) && decide (crossI a b q < 0)) = false := fun q => by
    rw [Bool.eq_false_iff]; intro h; simp only [Bool.and_eq_true, decide_eq_true_eq] at h; omega
  unfold hit dr
  rw [dn u, dn v, Bool.or_false, Bool.or_false]
  rcases Int.lt_or_le u.2 b.2 with hb | hb
  · rcases Int.lt_or_le v.2 a.2 with ha | ha
    · simp [show ¬ a.2 ≤ u.2 by omega, show ¬ a.2 ≤ v.2 by omega, show ¬ b.2 ≤ v.2 by omega]
    · rcases Int.lt_or_le u.2 a.2 with ha2 | ha2
      · rcases Int.lt_or_le v.2 b.2 with hb2 | hb2
        · have := par_high hm ha2 ha hb2
          simp [show ¬ a.2 ≤ u.2 by omega, ha, hb2, show ¬ b.2 ≤ v.2 by omega, ha2, this]
        · have := par_mid hm ha2 hab hb2
          simp [show ¬ a.2 ≤ u.2 by omega, ha, show ¬ v.2 < b.2 by omega, hb2, ha2, hb, this]
      · rcases Int.lt_or_le v.2 b.2 with hb2 | hb2
        · have := par_through huv hm ha2 hb2
          simp [ha2, ha, hb, hb2, show ¬ b.2 ≤ v.2 by omega, show ¬ u.2 < a.2 by omega, this]
        · have := par_low hm ha2 hb hb2
          simp [ha2, ha, hb, hb2, show ¬ v.2 < b.2 by omega, show ¬ u.2 < a.2 by omega, this]
  · simp [show ¬ u.2 < b.2 by omega, show ¬ v.2 < b.2 by omega, show ¬ u.2 < a.2 by omega]
end Go.Pv
namespace Go.Pv
theorem btw_swap (a b q : Pt) : btw b a q = btw a b q := by unfold btw; rw [Int.min_comm b.1, Int.max_comm b.1, Int.min_comm b.2, Int.max_comm b.2]
theorem on_swap (a b q : Pt) : onI b a q = onI a b q := by
  unfold onI; rw [btw_swap, cross_swap a b q]
  congr 1
  exact decide_eq_decide.2 (by omega)
theorem sgn_neg (n : Int) : sgn (-n) = - sgn n := by unfold sgn; split <;> split <;> (try split) <;> omega
theorem meet_swap (a b u v : Pt) : meetI b a u v = meetI a b u v := by
  unfold meetI
  rw [on_swap a b u, on_swap a b v, cross_swap a b u, cross_swap a b v, sgn_neg, sgn_neg, Int.neg_mul_neg, Int.mul_comm (sgn (crossI u v b))]
  cases onI a b u <;> cases onI a b v <;> cases onI u v a <;> cases onI u v b <;> rfl
theorem meet_swap2 (a b u v : Pt) : meetI a b v u = meetI a b u v := by rw [meetI_comm a b v u, meet_swap, meetI_comm u v a b]
theorem edge_par {a b u v : Pt} (huv : u.2 ≤ v.2) (hm : meetI a b u v = false) : (hit a b u ^^ hit a b v) = (dr u v a ^^ dr u v b) := by
  rcases Int.le_total a.2 b.2 with h | h
  · exact edge_par0 huv h hm
  · rw [hit_swap a b u, hit_swap a b v, Bool.xor_comm (dr u v a)]
    exact edge_par0 huv h (by rw [meet_swap]; exact hm)
def xorN : Nat → (Nat → Bool) → Bool
  | 0, _ => false
  | n + 1, f => xorN n f ^^ f n
theorem xorN_congr {f g : Nat → Bool} : ∀ {n : Nat}, (∀ i, i < n → f i = g i) → xorN n f = xorN n g
  | 0, _ => rfl
  | n + 1, h => by rw [xorN, xorN, xorN_congr fun i hi => h i (by omega), h n (by omega)]
theorem xorN_xor (f g : Nat → Bool) : ∀ n : Nat, xorN n (fun i => f i ^^ g i) = (xorN n f ^^ xorN n g)
  | 0 => rfl
  | n + 1 => by
    rw [xorN, xorN, xorN, xorN_xor f g n]
    cases xorN n f <;> cases xorN n g <;> cases f n <;> cases g n <;> rfl
theorem xorN_front (f : Nat → Bool) : ∀ n : Nat, xorN (n + 1) f = (f 0 ^^ xorN n fun i => f (i + 1))
  | 0 => by simp [xorN]
  | n + 1 => by
    rw [xorN, xorN_front f n, xorN]
    cases f 0 <;> cases f (n + 1) <;> cases xorN n (fun i => f (i + 1)) <;> rfl
theorem xorN_cyc (d : Nat → Bool) (n : Nat) : xorN n (fun i => d ((i + 1) % n)) = xorN n d := by
  cases n with
  | zero => rfl
  | succ m =>
    rw [xorN_front d m, xorN, Nat.mod_self]
    rw [xorN_congr (g := fun i => d (i + 1)) fun i hi => by rw [Nat.mod_eq_of_lt (by omega)]]
    cases d 0 <;> cases xorN m (fun i => d (i + 1)) <;> rfl
theorem xorN_tele (d : Nat → Bool) (n : Nat) : xorN n (fun i => d i ^^ d ((i + 1) % n)) = false := by
  rw [xorN_xor, xorN_cyc]; cases xorN n d <;> rfl
/-- The corners of a contour by their numbers. -/
def pt (p : List Pt) (i : Nat) : Pt := p.getD i (0, 0)
def nx (p : List Pt) (i : Nat) : Pt := pt p ((i + 1) % p.length)
def hits (p : List Pt) (q : Pt) : Bool := xorN p.length fun i => hit (pt p i) (nx p i) q
theorem hits_const0 {p : List Pt} {u v : Pt} (huv : u.2 ≤ v.2) (h : ∀ i, i < p.length → meetI (pt p i) (nx p i) u v = false) : hits p u = hits p v := by
  have e : (hits p u ^^ hits p v) = false := by
    unfold hits
    rw [← xorN_xor, xorN_congr fun i hi => edge_par huv (h i hi)]
    exact xorN_tele (fun i => dr u v (pt p i)) p.length
  revert e
  cases hits p u <;> cases hits p v <;> simp
/-- On a way that meets no edge of a contour, a point stays inside of it, or outside. -/
theorem hits_const {p : List Pt} {u v : Pt} (h : ∀ i, i < p.length → meetI (pt p i) (nx p i) u v = false) : hits p u = hits p v := by
  rcases Int.le_total u.2 v.2 with huv | huv
  · exact hits_const0 huv h
  · exact (hits_const0 huv fun i hi => by rw [meet_swap2]; exact h i hi).symm
end Go.Pv
set_option linter.unusedSimpArgs false
set_option linter.unusedVariables false
set_option maxRecDepth 100000
namespace Go.Pv
open Go Go.Proofs
instance nearDec (q : Pt) : Decidable (Near q) := by unfold Near; infer_instance
theorem bres {a b : Bool} (h : a = b) : T.v (Value.bool a) = T.v (Value.bool b) := by rw [h]
theorem ires {a b : Int} (h : a = b) : T.v (Value.int IntKind.i64 a) = T.v (Value.int IntKind.i64 b) := by rw [h]
def near3 {α : Type} (a b c : Pt) (r : α) : Option α := match decide (Near a ∧ Near b ∧ Near c) with
  | true => some r
  | false => none
theorem near3_of {α : Type} {a b c : Pt} {t r : α} (h : near3 a b c t = some r) : Near a ∧ Near b ∧ Near c ∧ r = t := by
  unfold near3 at h; split at h
  · rename_i hc
    cases h
    obtain ⟨h1, h2, h3⟩ := of_decide_eq_true hc
    exact ⟨h1, h2, h3, rfl⟩
  · cases h
theorem near3_ok {α : Type} {a b c : Pt} (t : α) (ha : Near a) (hb : Near b) (hc : Near c) : near3 a b c t = some t := by unfold near3; rw [decide_eq_true ⟨ha, hb, hc⟩]
theorem wrap_cross {a b c : Pt} (ha : Near a) (hb : Near b) (hc : Near c) : IntKind.i64.wrap (IntKind.i64.wrap (IntKind.i64.wrap (b.1 - a.1) * IntKind.i64.wrap (c.2 - a.2)) - IntKind.i64.wrap (IntKind.i64.wrap (b.2 - a.2) * IntKind.i64.wrap (c.1 - a.1))) = crossI a b c := by
  have h := cross_bd ha hb hc
  unfold Near at ha hb hc
  rw [wrap_id (b.1 - a.1) (by omega) (by omega), wrap_id (c.2 - a.2) (by omega) (by omega), wrap_id (b.2 - a.2) (by omega) (by omega), wrap_id (c.1 - a.1) (by omega) (by omega),
    wrap_id ((b.1 - a.1) * (c.2 - a.2)) (by omega) (by omega), wrap_id ((b.2 - a.2) * (c.1 - a.1)) (by omega) (by omega), wrap_id _ (by omega) (by omega)]
  rfl
theorem wrap_sgn (m n : Int) : IntKind.i64.wrap (sgn m * sgn n) = sgn m * sgn n := by
  have h := mul_bd (sgn_bd m) (sgn_bd n) (by omega) (by omega)
  exact wrap_id _ (by omega) (by omega)
theorem min_if (a b : Int) : (if b < a then b else a) = min a b := by omega
theorem max_if (a b : Int) : (if a < b then b else a) = max a b := by omega
set_option maxRecDepth 100000
noncomputable def E_pcross : Env := Env.of []
def H_pcross : FuncId → Hint := fun _ => noHint
theorem Eok_pcross : EnvOk Tryz.prog E_pcross := EnvOk.nil _
def F_pcross (a0 : TPoint) (a1 : TPoint) (a2 : TPoint) (R : T → Prop) : Prop :=
 R
 (T.v
 (Value.int IntKind.i64
 (IntKind.i64.wrap
 (IntKind.i64.wrap (IntKind.i64.wrap (a1.fst - a0.fst) * IntKind.i64.wrap (a2.snd - a0.snd)) -
 IntKind.i64.wrap (IntKind.i64.wrap (a1.snd - a0.snd) * IntKind.i64.wrap (a2.fst - a0.fst))))))
theorem F_pcross_eq (a0 : TPoint) (a1 : TPoint) (a2 : TPoint) (R : T → Prop) : sxTop stdC2 Tryz.prog E_pcross H_pcross 8 107 [encV true yPoint a0, encV true yPoint a1, encV true yPoint a2] R = F_pcross a0 a1 a2 R := by kernel_rfl
abbrev s_pcross : Sh := [(true, yPoint), (true, yPoint), (true, yPoint)]
abbrev r_pcross : Sh := [(false, Sy.int IntKind.i64)]
theorem r_pcross_call (y : Sh.den r_pcross) (K : Sh.den r_pcross → Prop) : callK r_pcross (some (Sh.enc r_pcross y)) K = K y := callK_enc rfl y K

def sp_pcross (x : TPoint × TPoint × TPoint) : Option T := near3 x.1 x.2.1 x.2.2 (T.v (Value.int .i64 (crossI x.1 x.2.1 x.2.2)))
noncomputable def g_pcross : List T → Option (T) := gS s_pcross sp_pcross
theorem g_pcross_at {a0 : TPoint} {a1 : TPoint} {a2 : TPoint} : g_pcross [encV true yPoint a0, encV true yPoint a1, encV true yPoint a2] = sp_pcross (a0, a1, a2) := gS_enc (s := s_pcross) rfl (a0, a1, a2) rfl
theorem g_pcross_op {u0 u1 u2 u3 u4 u5} : g_pcross [T.agg [T.v (Value.int IntKind.i64 u0), T.v (Value.int IntKind.i64 u1)],
  T.agg [T.v (Value.int IntKind.i64 u2), T.v (Value.int IntKind.i64 u3)],
  T.agg [T.v (Value.int IntKind.i64 u4), T.v (Value.int IntKind.i64 u5)]] = sp_pcross ((u0, u1), (u2, u3), (u4, u5)) := gS_enc (s := s_pcross) rfl ((u0, u1), (u2, u3), (u4, u5)) rfl
theorem of_pcross (h : ∀ (a0 : TPoint) (a1 : TPoint) (a2 : TPoint) (r : T), sp_pcross (a0, a1, a2) = some r → BdSh s_pcross (a0, a1, a2) → F_pcross a0 a1 a2 (fun y => y = r)) : PureFn Tryz.prog 107 g_pcross :=
  pureFn_S (E := E_pcross) (Hs := H_pcross) Eok_pcross mixed' plain' (noHeap_of rfl) 8 ⟨_, _, Tryz.func107, rfl⟩ rfl fun x r h1 h2 => by
    obtain ⟨a0, a1, a2⟩ := x
    rw [show Sh.encs s_pcross (a0, a1, a2) = [encV true yPoint a0, encV true yPoint a1, encV true yPoint a2] from rfl, F_pcross_eq]
    exact h a0 a1 a2 r h1 h2

theorem fn_pcross : PureFn Tryz.prog 107 g_pcross := of_pcross fun a b c r h hb => by
  obtain ⟨h1, h2, h3, rfl⟩ := near3_of h
  unfold F_pcross
  exact ires (wrap_cross h1 h2 h3)
theorem g_pcross_ok {a b c : Pt} (h1 : Near a) (h2 : Near b) (h3 : Near c) : g_pcross [encV true yPoint a, encV true yPoint b, encV true yPoint c] = some (Sh.enc [(false, .int .i64)] (crossI a b c)) := (g_pcross_at ..).trans (near3_ok _ h1 h2 h3)
set_option maxRecDepth 100000
noncomputable def E_rcross : Env := Env.of []
def H_rcross : FuncId → Hint := fun _ => noHint
theorem Eok_rcross : EnvOk Tryz.prog E_rcross := EnvOk.nil _
def F_rcross (a0 : TPoint) (a1 : TPoint) (a2 : TPoint) (R : T → Prop) : Prop :=
 R
 (T.v
 (Value.int IntKind.i64
 (IntKind.i64.wrap
 (IntKind.i64.wrap (IntKind.i64.wrap (a1.fst - a0.fst) * IntKind.i64.wrap (a2.snd - a0.snd)) -
 IntKind.i64.wrap (IntKind.i64.wrap (a1.snd - a0.snd) * IntKind.i64.wrap (a2.fst - a0.fst))))))
theorem F_rcross_eq (a0 : TPoint) (a1 : TPoint) (a2 : TPoint) (R : T → Prop) : sxTop stdC2 Tryz.prog E_rcross H_rcross 8 110 [encV true yPoint a0, encV true yPoint a1, encV true yPoint a2] R = F_rcross a0 a1 a2 R := by kernel_rfl
abbrev s_rcross : Sh := [(true, yPoint), (true, yPoint), (true, yPoint)]
abbrev r_rcross : Sh := [(false, Sy.int IntKind.i64)]
theorem r_rcross_call (y : Sh.den r_rcross) (K : Sh.den r_rcross → Prop) : callK r_rcross (some (Sh.enc r_rcross y)) K = K y := callK_enc rfl y K

def sp_rcross (x : TPoint × TPoint × TPoint) : Option T := near3 x.1 x.2.1 x.2.2 (T.v (Value.int .i64 (crossI x.1 x.2.1 x.2.2)))
noncomputable def g_rcross : List T → Option (T) := gS s_rcross sp_rcross
theorem g_rcross_at {a0 : TPoint} {a1 : TPoint} {a2 : TPoint} : g_rcross [encV true yPoint a0, encV true yPoint a1, encV true yPoint a2] = sp_rcross (a0, a1, a2) := gS_enc (s := s_rcross) rfl (a0, a1, a2) rfl
theorem g_rcross_op {u0 u1 u2 u3 u4 u5} : g_rcross [T.agg [T.v (Value.int IntKind.i64 u0), T.v (Value.int IntKind.i64 u1)],
  T.agg [T.v (Value.int IntKind.i64 u2), T.v (Value.int IntKind.i64 u3)],
  T.agg [T.v (Value.int IntKind.i64 u4), T.v (Value.int IntKind.i64 u5)]] = sp_rcross ((u0, u1), (u2, u3), (u4, u5)) := gS_enc (s := s_rcross) rfl ((u0, u1), (u2, u3), (u4, u5)) rfl
theorem of_rcross (h : ∀ (a0 : TPoint) (a1 : TPoint) (a2 : TPoint) (r : T), sp_rcross (a0, a1, a2) = some r → BdSh s_rcross (a0, a1, a2) → F_rcross a0 a1 a2 (fun y => y = r)) : PureFn Tryz.prog 110 g_rcross :=
  pureFn_S (E := E_rcross) (Hs := H_rcross) Eok_rcross mixed' plain' (noHeap_of rfl) 8 ⟨_, _, Tryz.func110, rfl⟩ rfl fun x r h1 h2 => by
    obtain ⟨a0, a1, a2⟩ := x
    rw [show Sh.encs s_rcross (a0, a1, a2) = [encV true yPoint a0, encV true yPoint a1, encV true yPoint a2] from rfl, F_rcross_eq]
    exact h a0 a1 a2 r h1 h2

theorem fn_rcross : PureFn Tryz.prog 110 g_rcross := of_rcross fun a b c r h hb => by
  obtain ⟨h1, h2, h3, rfl⟩ := near3_of h
  unfold F_rcross
  exact ires (wrap_cross h1 h2 h3)
theorem g_rcross_ok {a b c : Pt} (h1 : Near a) (h2 : Near b) (h3 : Near c) : g_rcross [encV true yPoint a, encV true yPoint b, encV true yPoint c] = some (Sh.enc [(false, .int .i64)] (crossI a b c)) := (g_rcross_at ..).trans (near3_ok _ h1 h2 h3)
set_option maxRecDepth 100000
noncomputable def E_psign : Env := Env.of []
def H_psign : FuncId → Hint := fun _ => noHint
theorem Eok_psign : EnvOk Tryz.prog E_psign := EnvOk.nil _
def F_psign (a0 : Int) (R : T → Prop) : Prop :=
 iteP (!decide (a0 = a0)) (R (T.v (Value.int IntKind.i64 (-1))))
 (iteP (decide (a0 < 0)) (R (T.v (Value.int IntKind.i64 (-1))))
 (iteP (decide (0 < a0)) (R (T.v (Value.int IntKind.i64 1)))
 (R (T.v (Value.int IntKind.i64 0)))))
theorem F_psign_eq (a0 : Int) (R : T → Prop) : sxTop stdC2 Tryz.prog E_psign H_psign 8 118 [encV false (Sy.int IntKind.i64) a0] R = F_psign a0 R := by kernel_rfl
abbrev s_psign : Sh := [(false, (Sy.int IntKind.i64))]
abbrev r_psign : Sh := [(false, Sy.int IntKind.i64)]
theorem r_psign_call (y : Sh.den r_psign) (K : Sh.den r_psign → Prop) : callK r_psign (some (Sh.enc r_psign y)) K = K y := callK_enc rfl y K

def sp_psign (n : Int) : Option T := some (T.v (Value.int .i64 (sgn n)))
noncomputable def g_psign : List T → Option (T) := gS s_psign sp_psign
theorem g_psign_at {a0 : Int} : g_psign [T.v (Value.int IntKind.i64 a0)] = sp_psign (a0) := gS_enc (s := s_psign) rfl (a0) rfl
theorem g_psign_op {u0} : g_psign [T.v (Value.int IntKind.i64 u0)] = sp_psign (u0) := gS_enc (s := s_psign) rfl (u0) rfl
theorem of_psign (h : ∀ (a0 : Int) (r : T), sp_psign (a0) = some r → BdSh s_psign (a0) → F_psign a0 (fun y => y = r)) : PureFn Tryz.prog 118 g_psign :=
  pureFn_S (E := E_psign) (Hs := H_psign) Eok_psign mixed' plain' (noHeap_of rfl) 8 ⟨_, _, Tryz.func118, rfl⟩ rfl fun x r h1 h2 => by
    let a0 := x
    rw [show Sh.encs s_psign (a0) = [encV false (Sy.int IntKind.i64) a0] from rfl, F_psign_eq]
    exact h a0 r h1 h2

theorem g_psign_ok (n : Int) : g_psign [T.v (Value.int IntKind.i64 n)] = some (Sh.enc [(false, .int .i64)] (sgn n)) := g_psign_at ..
set_option maxRecDepth 100000
noncomputable def E_rsign : Env := Env.of []
def H_rsign : FuncId → Hint := fun _ => noHint
theorem Eok_rsign : EnvOk Tryz.prog E_rsign := EnvOk.nil _
def F_rsign (a0 : Int) (R : T → Prop) : Prop :=
 R (T.v (Value.int IntKind.i64 (if 1 < if a0 < -1 then -1 else a0 then 1 else if a0 < -1 then -1 else a0)))
theorem F_rsign_eq (a0 : Int) (R : T → Prop) : sxTop stdC2 Tryz.prog E_rsign H_rsign 8 109 [encV false (Sy.int IntKind.i64) a0] R = F_rsign a0 R := by kernel_rfl
abbrev s_rsign : Sh := [(false, (Sy.int IntKind.i64))]
abbrev r_rsign : Sh := [(false, Sy.int IntKind.i64)]
theorem r_rsign_call (y : Sh.den r_rsign) (K : Sh.den r_rsign → Prop) : callK r_rsign (some (Sh.enc r_rsign y)) K = K y := callK_enc rfl y K

def sp_rsign (n : Int) : Option T := some (T.v (Value.int .i64 (sgn n)))
noncomputable def g_rsign : List T → Option (T) := gS s_rsign sp_rsign
theorem g_rsign_at {a0 : Int} : g_rsign [T.v (Value.int IntKind.i64 a0)] = sp_rsign (a0) := gS_enc (s := s_rsign) rfl (a0) rfl
theorem g_rsign_op {u0} : g_rsign [T.v (Value.int IntKind.i64 u0)] = sp_rsign (u0) := gS_enc (s := s_rsign) rfl (u0) rfl
theorem of_rsign (h : ∀ (a0 : Int) (r : T), sp_rsign (a0) = some r → BdSh s_rsign (a0) → F_rsign a0 (fun y => y = r)) : PureFn Tryz.prog 109 g_rsign :=
  pureFn_S (E := E_rsign) (Hs := H_rsign) Eok_rsign mixed' plain' (noHeap_of rfl) 8 ⟨_, _, Tryz.func109, rfl⟩ rfl fun x r h1 h2 => by
    let a0 := x
    rw [show Sh.encs s_rsign (a0) = [encV false (Sy.int IntKind.i64) a0] from rfl, F_rsign_eq]
    exact h a0 r h1 h2

theorem g_rsign_ok (n : Int) : g_rsign [T.v (Value.int IntKind.i64 n)] = some (Sh.enc [(false, .int .i64)] (sgn n)) := g_rsign_at ..
theorem fn_psign : PureFn Tryz.prog 118 g_psign := of_psign fun n r h hb => by
  cases h
  unfold F_psign
  refine ifQ (fun h => absurd rfl h) fun _ => ?_
  exact ifP (fun h => ires (by unfold sgn; rw [if_pos h])) fun h => ifP (fun h2 => ires (by unfold sgn; rw [if_neg h, if_pos h2])) fun h2 => ires (by unfold sgn; rw [if_neg h, if_neg h2])
theorem fn_rsign : PureFn Tryz.prog 109 g_rsign := of_rsign fun n r h hb => by
  cases h
  unfold F_rsign
  refine ires ?_
  unfold sgn
  omega
set_option maxRecDepth 100000
noncomputable def E_pwithin : Env := Env.of []
def H_pwithin : FuncId → Hint := fun _ => noHint
theorem Eok_pwithin : EnvOk Tryz.prog E_pwithin := EnvOk.nil _
def F_pwithin (a0 : TPoint) (a1 : TPoint) (a2 : TPoint) (R : T → Prop) : Prop :=
 iteP (decide ((if a1.fst < a0.fst then a1.fst else a0.fst) ≤ a2.fst))
 (iteP (decide (a2.fst ≤ if a0.fst < a1.fst then a1.fst else a0.fst))
 (iteP (decide ((if a1.snd < a0.snd then a1.snd else a0.snd) ≤ a2.snd))
 (R (T.v (Value.bool (decide (a2.snd ≤ if a0.snd < a1.snd then a1.snd else a0.snd)))))
 (R (T.v (Value.bool false))))
 (R (T.v (Value.bool false))))
 (R (T.v (Value.bool false)))
theorem F_pwithin_eq (a0 : TPoint) (a1 : TPoint) (a2 : TPoint) (R : T → Prop) : sxTop stdC2 Tryz.prog E_pwithin H_pwithin 8 119 [encV true yPoint a0, encV true yPoint a1, encV true yPoint a2] R = F_pwithin a0 a1 a2 R := by kernel_rfl
abbrev s_pwithin : Sh := [(true, yPoint), (true, yPoint), (true, yPoint)]
abbrev r_pwithin : Sh := [(false, Sy.bool)]
theorem r_pwithin_call (y : Sh.den r_pwithin) (K : Sh.den r_pwithin → Prop) : callK r_pwithin (some (Sh.enc r_pwithin y)) K = K y := callK_enc rfl y K

def sp_pwithin (x : TPoint × TPoint × TPoint) : Option T := some (T.v (Value.bool (btw x.1 x.2.1 x.2.2)))
noncomputable def g_pwithin : List T → Option (T) := gS s_pwithin sp_pwithin
theorem g_pwithin_at {a0 : TPoint} {a1 : TPoint} {a2 : TPoint} : g_pwithin [encV true yPoint a0, encV true yPoint a1, encV true yPoint a2] = sp_pwithin (a0, a1, a2) := gS_enc (s := s_pwithin) rfl (a0, a1, a2) rfl
theorem g_pwithin_op {u0 u1 u2 u3 u4 u5} : g_pwithin [T.agg [T.v (Value.int IntKind.i64 u0), T.v (Value.int IntKind.i64 u1)],
  T.agg [T.v (Value.int IntKind.i64 u2), T.v (Value.int IntKind.i64 u3)],
  T.agg [T.v (Value.int IntKind.i64 u4), T.v (Value.int IntKind.i64 u5)]] = sp_pwithin ((u0, u1), (u2, u3), (u4, u5)) := gS_enc (s := s_pwithin) rfl ((u0, u1), (u2, u3), (u4, u5)) rfl
theorem of_pwithin (h : ∀ (a0 : TPoint) (a1 : TPoint) (a2 : TPoint) (r : T), sp_pwithin (a0, a1, a2) = some r → BdSh s_pwithin (a0, a1, a2) → F_pwithin a0 a1 a2 (fun y => y = r)) : PureFn Tryz.prog 119 g_pwithin :=
  pureFn_S (E := E_pwithin) (Hs := H_pwithin) Eok_pwithin mixed' plain' (noHeap_of rfl) 8 ⟨_, _, Tryz.func119, rfl⟩ rfl fun x r h1 h2 => by
    obtain ⟨a0, a1, a2⟩ := x
    rw [show Sh.encs s_pwithin (a0, a1, a2) = [encV true yPoint a0, encV true yPoint a1, encV true yPoint a2] from rfl, F_pwithin_eq]
    exact h a0 a1 a2 r h1 h2

theorem fn_pwithin : PureFn Tryz.prog 119 g_pwithin := of_pwithin fun a b c r h hb => by
  cases h
  unfold F_pwithin
  rw [min_if, min_if, max_if, max_if]
  refine ifP (fun h1 => ifP (fun h2 => ifP (fun h3 => bres ?_) fun h3 => bres ?_) fun h2 => bres ?_) fun h1 => bres ?_
  all_goals simp [btw, h1]
  all_goals simp [h2]
  all_goals simp [h3]
set_option maxRecDepth 100000
noncomputable def E_ron : Env := Env.of []
def H_ron : FuncId → Hint := fun _ => noHint
theorem Eok_ron : EnvOk Tryz.prog E_ron := EnvOk.nil _
def F_ron (a0 : TPoint) (a1 : TPoint) (a2 : TPoint) (R : T → Prop) : Prop :=
 iteP (decide ((if a1.fst < a0.fst then a1.fst else a0.fst) ≤ a2.fst))
 (iteP (decide (a2.fst ≤ if a0.fst < a1.fst then a1.fst else a0.fst))
 (iteP (decide ((if a1.snd < a0.snd then a1.snd else a0.snd) ≤ a2.snd))
 (R (T.v (Value.bool (decide (a2.snd ≤ if a0.snd < a1.snd then a1.snd else a0.snd)))))
 (R (T.v (Value.bool false))))
 (R (T.v (Value.bool false))))
 (R (T.v (Value.bool false)))
theorem F_ron_eq (a0 : TPoint) (a1 : TPoint) (a2 : TPoint) (R : T → Prop) : sxTop stdC2 Tryz.prog E_ron H_ron 8 111 [encV true yPoint a0, encV true yPoint a1, encV true yPoint a2] R = F_ron a0 a1 a2 R := by kernel_rfl
abbrev s_ron : Sh := [(true, yPoint), (true, yPoint), (true, yPoint)]
abbrev r_ron : Sh := [(false, Sy.bool)]
theorem r_ron_call (y : Sh.den r_ron) (K : Sh.den r_ron → Prop) : callK r_ron (some (Sh.enc r_ron y)) K = K y := callK_enc rfl y K

def sp_ron (x : TPoint × TPoint × TPoint) : Option T := some (T.v (Value.bool (btw x.1 x.2.1 x.2.2)))
noncomputable def g_ron : List T → Option (T) := gS s_ron sp_ron
theorem g_ron_at {a0 : TPoint} {a1 : TPoint} {a2 : TPoint} : g_ron [encV true yPoint a0, encV true yPoint a1, encV true yPoint a2] = sp_ron (a0, a1, a2) := gS_enc (s := s_ron) rfl (a0, a1, a2) rfl
theorem g_ron_op {u0 u1 u2 u3 u4 u5} : g_ron [T.agg [T.v (Value.int IntKind.i64 u0), T.v (Value.int IntKind.i64 u1)],
  T.agg [T.v (Value.int IntKind.i64 u2), T.v (Value.int IntKind.i64 u3)],
  T.agg [T.v (Value.int IntKind.i64 u4), T.v (Value.int IntKind.i64 u5)]] = sp_ron ((u0, u1), (u2, u3), (u4, u5)) := gS_enc (s := s_ron) rfl ((u0, u1), (u2, u3), (u4, u5)) rfl
theorem of_ron (h : ∀ (a0 : TPoint) (a1 : TPoint) (a2 : TPoint) (r : T), sp_ron (a0, a1, a2) = some r → BdSh s_ron (a0, a1, a2) → F_ron a0 a1 a2 (fun y => y = r)) : PureFn Tryz.prog 111 g_ron :=
  pureFn_S (E := E_ron) (Hs := H_ron) Eok_ron mixed' plain' (noHeap_of rfl) 8 ⟨_, _, Tryz.func111, rfl⟩ rfl fun x r h1 h2 => by
    obtain ⟨a0, a1, a2⟩ := x
    rw [show Sh.encs s_ron (a0, a1, a2) = [encV true yPoint a0, encV true yPoint a1, encV true yPoint a2] from rfl, F_ron_eq]
    exact h a0 a1 a2 r h1 h2

theorem fn_ron : PureFn Tryz.prog 111 g_ron := of_ron fun a b c r h hb => by
  cases h
  unfold F_ron
  rw [min_if, min_if, max_if, max_if]
  refine ifP (fun h1 => ifP (fun h2 => ifP (fun h3 => bres ?_) fun h3 => bres ?_) fun h2 => bres ?_) fun h1 => bres ?_
  all_goals simp [btw, h1]
  all_goals simp [h2]
  all_goals simp [h3]
set_option maxRecDepth 100000
noncomputable def E_pon : Env := Env.of [(107, .pure g_pcross), (119, .pure g_pwithin)]
def H_pon : FuncId → Hint := fun _ => noHint
theorem Eok_pon : EnvOk Tryz.prog E_pon := EnvOk.cons (x := .pure g_pcross) fn_pcross (EnvOk.cons (x := .pure g_pwithin) fn_pwithin (EnvOk.nil _))
def F_pon (a0 : TPoint) (a1 : TPoint) (a2 : TPoint) (R : T → Prop) : Prop :=
 callK [(false, Sy.int IntKind.i64)]
 (g_pcross [encV true yPoint a0, encV true yPoint a1, encV true yPoint a2])
 fun (y0 : Int) =>
 iteP (decide (y0 = 0))
 (callK [(false, Sy.bool)]
 (g_pwithin
 [encV true yPoint a0, encV true yPoint a1, encV true yPoint a2])
 fun (y1 : Bool) => R (T.v (Value.bool y1)))
 (R (T.v (Value.bool false)))
theorem F_pon_eq (a0 : TPoint) (a1 : TPoint) (a2 : TPoint) (R : T → Prop) : sxTop stdC2 Tryz.prog E_pon H_pon 8 112 [encV true yPoint a0, encV true yPoint a1, encV true yPoint a2] R = F_pon a0 a1 a2 R := by kernel_rfl
abbrev s_pon : Sh := [(true, yPoint), (true, yPoint), (true, yPoint)]
abbrev r_pon : Sh := [(false, Sy.bool)]
theorem r_pon_call (y : Sh.den r_pon) (K : Sh.den r_pon → Prop) : callK r_pon (some (Sh.enc r_pon y)) K = K y := callK_enc rfl y K

def sp_pon (x : TPoint × TPoint × TPoint) : Option T := near3 x.1 x.2.1 x.2.2 (T.v (Value.bool (onI x.1 x.2.1 x.2.2)))
noncomputable def g_pon : List T → Option (T) := gS s_pon sp_pon
theorem g_pon_at {a0 : TPoint} {a1 : TPoint} {a2 : TPoint} : g_pon [encV true yPoint a0, encV true yPoint a1, encV true yPoint a2] = sp_pon (a0, a1, a2) := gS_enc (s := s_pon) rfl (a0, a1, a2) rfl
theorem g_pon_op {u0 u1 u2 u3 u4 u5} : g_pon [T.agg [T.v (Value.int IntKind.i64 u0), T.v (Value.int IntKind.i64 u1)],
  T.agg [T.v (Value.int IntKind.i64 u2), T.v (Value.int IntKind.i64 u3)],
  T.agg [T.v (Value.int IntKind.i64 u4), T.v (Value.int IntKind.i64 u5)]] = sp_pon ((u0, u1), (u2, u3), (u4, u5)) := gS_enc (s := s_pon) rfl ((u0, u1), (u2, u3), (u4, u5)) rfl
theorem of_pon (h : ∀ (a0 : TPoint) (a1 : TPoint) (a2 : TPoint) (r : T), sp_pon (a0, a1, a2) = some r → BdSh s_pon (a0, a1, a2) → F_pon a0 a1 a2 (fun y => y = r)) : PureFn Tryz.prog 112 g_pon :=
  pureFn_S (E := E_pon) (Hs := H_pon) Eok_pon mixed' plain' (noHeap_of rfl) 8 ⟨_, _, Tryz.func112, rfl⟩ rfl fun x r h1 h2 => by
    obtain ⟨a0, a1, a2⟩ := x
    rw [show Sh.encs s_pon (a0, a1, a2) = [encV true yPoint a0, encV true yPoint a1, encV true yPoint a2] from rfl, F_pon_eq]
    exact h a0 a1 a2 r h1 h2

theorem fn_pon : PureFn Tryz.prog 112 g_pon := of_pon fun a b c r h hb => by
  obtain ⟨h1, h2, h3, rfl⟩ := near3_of h
  unfold F_pon
  refine callK_some (s := [(false, .int .i64)]) (g_pcross_ok h1 h2 h3) ?_
  refine ifP (fun h => ?_) fun h => bres (by unfold onI; rw [decide_eq_false h]; rfl)
  refine callK_some (s := [(false, .bool)]) (y := btw a b c) (g_pwithin_at ..) ?_
  exact bres (by unfold onI; rw [decide_eq_true h]; rfl)
theorem g_pon_ok {a b c : Pt} (h1 : Near a) (h2 : Near b) (h3 : Near c) : g_pon [encV true yPoint a, encV true yPoint b, encV true yPoint c] = some (Sh.enc [(false, .bool)] (onI a b c)) := (g_pon_at ..).trans (near3_ok _ h1 h2 h3)
def near4 {α : Type} (a b c d : Pt) (r : α) : Option α := match decide (Near a ∧ Near b ∧ Near c ∧ Near d) with
  | true => some r
  | false => none
theorem near4_of {α : Type} {a b c d : Pt} {t r : α} (h : near4 a b c d t = some r) : Near a ∧ Near b ∧ Near c ∧ Near d ∧ r = t := by
  unfold near4 at h; split at h
  · rename_i hc
    cases h
    obtain ⟨h1, h2, h3, h4⟩ := of_decide_eq_true hc
    exact ⟨h1, h2, h3, h4, rfl⟩
  · cases h
theorem near4_ok {α : Type} {a b c d : Pt} (t : α) (ha : Near a) (hb : Near b) (hc : Near c) (hd : Near d) : near4 a b c d t = some t := by unfold near4; rw [decide_eq_true ⟨ha, hb, hc, hd⟩]
set_option maxRecDepth 100000
noncomputable def E_pmeet : Env := Env.of [(107, .pure g_pcross), (112, .pure g_pon), (118, .pure g_psign)]
def H_pmeet : FuncId → Hint := fun _ => noHint
theorem Eok_pmeet : EnvOk Tryz.prog E_pmeet := EnvOk.cons (x := .pure g_pcross) fn_pcross (EnvOk.cons (x := .pure g_pon) fn_pon (EnvOk.cons (x := .pure g_psign) fn_psign (EnvOk.nil _)))
def F_pmeet (a0 : TPoint) (a1 : TPoint) (a2 : TPoint) (a3 : TPoint) (R : T → Prop) : Prop :=
 callK [(false, Sy.bool)]
 (g_pon [encV true yPoint a0, encV true yPoint a1, encV true yPoint a2])
 fun (y0 : Bool) =>
 iteP y0 (R (T.v (Value.bool true)))
 (callK [(false, Sy.bool)]
 (g_pon [encV true yPoint a0, encV true yPoint a1, encV true yPoint a3])
 fun (y1 : Bool) =>
 iteP y1 (R (T.v (Value.bool true)))
 (callK [(false, Sy.bool)]
 (g_pon
 [encV true yPoint a2, encV true yPoint a3, encV true yPoint a0])
 fun (y2 : Bool) =>
 iteP y2 (R (T.v (Value.bool true)))
 (callK [(false, Sy.bool)]
 (g_pon
 [encV true yPoint a2, encV true yPoint a3, encV true yPoint a1])
 fun (y3 : Bool) =>
 iteP y3 (R (T.v (Value.bool true)))
 (callK [(false, Sy.int IntKind.i64)]
 (g_pcross
 [encV true yPoint a0, encV true yPoint a1, encV true yPoint a2])
 fun (y4 : Int) =>
 callK [(false, Sy.int IntKind.i64)]
 (g_psign [T.v (Value.int IntKind.i64 y4)]) fun (y5 : Int) =>
 callK [(false, Sy.int IntKind.i64)]
 (g_pcross
 [encV true yPoint a0, encV true yPoint a1,
 encV true yPoint a3])
 fun (y6 : Int) =>
 callK [(false, Sy.int IntKind.i64)]
 (g_psign [T.v (Value.int IntKind.i64 y6)]) fun (y7 : Int) =>
 iteP (decide (IntKind.i64.wrap (y5 * y7) < 0))
 (callK [(false, Sy.int IntKind.i64)]
 (g_pcross
 [encV true yPoint a2, encV true yPoint a3,
 encV true yPoint a0])
 fun (y8 : Int) =>
 callK [(false, Sy.int IntKind.i64)]
 (g_psign [T.v (Value.int IntKind.i64 y8)]) fun (y9 : Int) =>
 callK [(false, Sy.int IntKind.i64)]
 (g_pcross
 [encV true yPoint a2, encV true yPoint a3,
 encV true yPoint a1])
 fun (y10 : Int) =>
 callK [(false, Sy.int IntKind.i64)]
 (g_psign [T.v (Value.int IntKind.i64 y10)]) fun (y11 : Int) =>
 R (T.v (Value.bool (decide (IntKind.i64.wrap (y9 * y11) < 0)))))
 (R (T.v (Value.bool false)))))))
theorem F_pmeet_eq (a0 : TPoint) (a1 : TPoint) (a2 : TPoint) (a3 : TPoint) (R : T → Prop) : sxTop stdC2 Tryz.prog E_pmeet H_pmeet 8 108 [encV true yPoint a0, encV true yPoint a1, encV true yPoint a2,
  encV true yPoint a3] R = F_pmeet a0 a1 a2 a3 R := by kernel_rfl
abbrev s_pmeet : Sh := [(true, yPoint), (true, yPoint), (true, yPoint), (true, yPoint)]
abbrev r_pmeet : Sh := [(false, Sy.bool)]
theorem r_pmeet_call (y : Sh.den r_pmeet) (K : Sh.den r_pmeet → Prop) : callK r_pmeet (some (Sh.enc r_pmeet y)) K = K y := callK_enc rfl y K

def sp_pmeet (x : TPoint × TPoint × TPoint × TPoint) : Option T := near4 x.1 x.2.1 x.2.2.1 x.2.2.2 (T.v (Value.bool (meetI x.1 x.2.1 x.2.2.1 x.2.2.2)))
noncomputable def g_pmeet : List T → Option (T) := gS s_pmeet sp_pmeet
theorem g_pmeet_at {a0 : TPoint} {a1 : TPoint} {a2 : TPoint} {a3 : TPoint} : g_pmeet [encV true yPoint a0, encV true yPoint a1, encV true yPoint a2,
  encV true yPoint a3] = sp_pmeet (a0, a1, a2, a3) := gS_enc (s := s_pmeet) rfl (a0, a1, a2, a3) rfl
theorem g_pmeet_op {u0 u1 u2 u3 u4 u5 u6 u7} : g_pmeet [T.agg [T.v (Value.int IntKind.i64 u0), T.v (Value.int IntKind.i64 u1)],
  T.agg [T.v (Value.int IntKind.i64 u2), T.v (Value.int IntKind.i64 u3)],
  T.agg [T.v (Value.int IntKind.i64 u4), T.v (Value.int IntKind.i64 u5)],
  T.agg [T.v (Value.int IntKind.i64 u6), T.v (Value.int IntKind.i64 u7)]] = sp_pmeet ((u0, u1), (u2, u3), (u4, u5), (u6, u7)) := gS_enc (s := s_pmeet) rfl ((u0, u1), (u2, u3), (u4, u5), (u6, u7)) rfl
theorem of_pmeet (h : ∀ (a0 : TPoint) (a1 : TPoint) (a2 : TPoint) (a3 : TPoint) (r : T), sp_pmeet (a0, a1, a2, a3) = some r → BdSh s_pmeet (a0, a1, a2, a3) → F_pmeet a0 a1 a2 a3 (fun y => y = r)) : PureFn Tryz.prog 108 g_pmeet :=
  pureFn_S (E := E_pmeet) (Hs := H_pmeet) Eok_pmeet mixed' plain' (noHeap_of rfl) 8 ⟨_, _, Tryz.func108, rfl⟩ rfl fun x r h1 h2 => by
    obtain ⟨a0, a1, a2, a3⟩ := x
    rw [show Sh.encs s_pmeet (a0, a1, a2, a3) = [encV true yPoint a0, encV true yPoint a1, encV true yPoint a2,
  encV true yPoint a3] from rfl, F_pmeet_eq]
    exact h a0 a1 a2 a3 r h1 h2

theorem fn_pmeet : PureFn Tryz.prog 108 g_pmeet := of_pmeet fun a b c d r h hb => by
  obtain ⟨h1, h2, h3, h4, rfl⟩ := near4_of h
  unfold F_pmeet
  refine callK_some (s := [(false, .bool)]) (g_pon_ok h1 h2 h3) ?_
  refine ifB (fun h => bres (by unfold meetI; rw [h]; rfl)) fun k1 => ?_
  refine callK_some (s := [(false, .bool)]) (g_pon_ok h1 h2 h4) ?_
  refine ifB (fun h => bres (by unfold meetI; rw [h, k1]; rfl)) fun k2 => ?_
  refine callK_some (s := [(false, .bool)]) (g_pon_ok h3 h4 h1) ?_
  refine ifB (fun h => bres (by unfold meetI; rw [h, k1, k2]; rfl)) fun k3 => ?_
  refine callK_some (s := [(false, .bool)]) (g_pon_ok h3 h4 h2) ?_
  refine ifB (fun h => bres (by unfold meetI; rw [h, k1, k2, k3]; rfl)) fun k4 => ?_
  refine callK_some (s := [(false, .int .i64)]) (g_pcross_ok h1 h2 h3) ?_
  refine callK_some (s := [(false, .int .i64)]) (g_psign_ok _) ?_
  refine callK_some (s := [(false, .int .i64)]) (g_pcross_ok h1 h2 h4) ?_
  refine callK_some (s := [(false, .int .i64)]) (g_psign_ok _) ?_
  rw [wrap_sgn]
  refine ifP (fun h => ?_) fun h => bres (by unfold meetI; rw [k1, k2, k3, k4, decide_eq_false h]; rfl)
  refine callK_some (s := [(false, .int .i64)]) (g_pcross_ok h3 h4 h1) ?_
  refine callK_some (s := [(false, .int .i64)]) (g_psign_ok _) ?_
  refine callK_some (s := [(false, .int .i64)]) (g_pcross_ok h3 h4 h2) ?_
  refine callK_some (s := [(false, .int .i64)]) (g_psign_ok _) ?_
  rw [wrap_sgn]
  exact bres (by unfold meetI; rw [k1, k2, k3, k4, decide_eq_true h]; rfl)
theorem g_pmeet_ok {a b c d : Pt} (h1 : Near a) (h2 : Near b) (h3 : Near c) (h4 : Near d) : g_pmeet [encV true yPoint a, encV true yPoint b, encV true yPoint c, encV true yPoint d] = some (Sh.enc [(false, .bool)] (meetI a b c d)) := (g_pmeet_at ..).trans (near4_ok _ h1 h2 h3 h4)
set_option maxRecDepth 100000
noncomputable def E_pfar : Env := Env.of []
def H_pfar : FuncId → Hint := fun _ => noHint
theorem Eok_pfar : EnvOk Tryz.prog E_pfar := EnvOk.nil _
def F_pfar (a0 : TPoint) (R : T → Prop) : Prop :=
 iteP (decide (a0.fst < -32768)) (R (T.v (Value.bool true)))
 (iteP (decide (32768 < a0.fst)) (R (T.v (Value.bool true)))
 (iteP (decide (a0.snd < -32768)) (R (T.v (Value.bool true)))
 (R (T.v (Value.bool (decide (32768 < a0.snd)))))))
theorem F_pfar_eq (a0 : TPoint) (R : T → Prop) : sxTop stdC2 Tryz.prog E_pfar H_pfar 8 94 [encV true yPoint a0] R = F_pfar a0 R := by kernel_rfl
abbrev s_pfar : Sh := [(true, yPoint)]
abbrev r_pfar : Sh := [(false, Sy.bool)]
theorem r_pfar_call (y : Sh.den r_pfar) (K : Sh.den r_pfar → Prop) : callK r_pfar (some (Sh.enc r_pfar y)) K = K y := callK_enc rfl y K

def sp_pfar (q : TPoint) : Option T := some (T.v (Value.bool (!decide (Near q))))
noncomputable def g_pfar : List T → Option (T) := gS s_pfar sp_pfar
theorem g_pfar_at {a0 : TPoint} : g_pfar [encV true yPoint a0] = sp_pfar (a0) := gS_enc (s := s_pfar) rfl (a0) rfl
theorem g_pfar_op {u0 u1} : g_pfar [T.agg [T.v (Value.int IntKind.i64 u0), T.v (Value.int IntKind.i64 u1)]] = sp_pfar ((u0, u1)) := gS_enc (s := s_pfar) rfl ((u0, u1)) rfl
theorem of_pfar (h : ∀ (a0 : TPoint) (r : T), sp_pfar (a0) = some r → BdSh s_pfar (a0) → F_pfar a0 (fun y => y = r)) : PureFn Tryz.prog 94 g_pfar :=
  pureFn_S (E := E_pfar) (Hs := H_pfar) Eok_pfar mixed' plain' (noHeap_of rfl) 8 ⟨_, _, Tryz.func94, rfl⟩ rfl fun x r h1 h2 => by
    let a0 := x
    rw [show Sh.encs s_pfar (a0) = [encV true yPoint a0] from rfl, F_pfar_eq]
    exact h a0 r h1 h2

theorem fn_pfar : PureFn Tryz.prog 94 g_pfar := of_pfar fun q r h hb => by
  cases h
  unfold F_pfar
  have no : ¬ Near q → true = !decide (Near q) := fun h => by rw [decide_eq_false h]; rfl
  refine ifP (fun h => bres (no (by unfold Near; omega))) fun h1 => ifP (fun h => bres (no (by unfold Near; omega))) fun h2 => ifP (fun h => bres (no (by unfold Near; omega))) fun h3 => bres ?_
  by_cases h : Near q
  · rw [decide_eq_true h, Bool.not_true]
    unfold Near at h
    exact decide_eq_false (by omega)
  · rw [decide_eq_false h, Bool.not_false]
    unfold Near at h
    exact decide_eq_true (by omega)
theorem sgn_zero {n : Int} : sgn n = 0 ↔ n = 0 := by
  unfold sgn
  split
  · omega
  · split <;> omega
set_option maxRecDepth 100000
noncomputable def E_rtouch : Env := Env.of [(110, .pure g_rcross), (109, .pure g_rsign), (111, .pure g_ron)]
def H_rtouch : FuncId → Hint := fun _ => noHint
theorem Eok_rtouch : EnvOk Tryz.prog E_rtouch := EnvOk.cons (x := .pure g_rcross) fn_rcross (EnvOk.cons (x := .pure g_rsign) fn_rsign (EnvOk.cons (x := .pure g_ron) fn_ron (EnvOk.nil _)))
def F_rtouch (a0 : TPoint) (a1 : TPoint) (a2 : TPoint) (a3 : TPoint) (R : T → Prop) : Prop :=
 callK [(false, Sy.int IntKind.i64)]
 (g_rcross [encV true yPoint a0, encV true yPoint a1, encV true yPoint a2])
 fun (y0 : Int) =>
 callK [(false, Sy.int IntKind.i64)] (g_rsign [T.v (Value.int IntKind.i64 y0)])
 fun (y1 : Int) =>
 callK [(false, Sy.int IntKind.i64)]
 (g_rcross
 [encV true yPoint a0, encV true yPoint a1, encV true yPoint a3])
 fun (y2 : Int) =>
 callK [(false, Sy.int IntKind.i64)] (g_rsign [T.v (Value.int IntKind.i64 y2)])
 fun (y3 : Int) =>
 callK [(false, Sy.int IntKind.i64)]
 (g_rcross
 [encV true yPoint a2, encV true yPoint a3, encV true yPoint a0])
 fun (y4 : Int) =>
 callK [(false, Sy.int IntKind.i64)]
 (g_rsign [T.v (Value.int IntKind.i64 y4)]) fun (y5 : Int) =>
 callK [(false, Sy.int IntKind.i64)]
 (g_rcross
 [encV true yPoint a2, encV true yPoint a3, encV true yPoint a1])
 fun (y6 : Int) =>
 callK [(false, Sy.int IntKind.i64)]
 (g_rsign [T.v (Value.int IntKind.i64 y6)]) fun (y7 : Int) =>
 iteP (decide (IntKind.i64.wrap (y1 * y3) < 0))
 (iteP (decide (IntKind.i64.wrap (y5 * y7) < 0)) (R (T.v (Value.bool true)))
 (iteP (decide (y1 = 0))
 (callK [(false, Sy.bool)]
 (g_ron
 [encV true yPoint a0, encV true yPoint a1,
 encV true yPoint a2])
 fun (y8 : Bool) =>
 iteP y8 (R (T.v (Value.bool true)))
 (iteP (decide (y3 = 0))
 (callK [(false, Sy.bool)]
 (g_ron
 [encV true yPoint a0, encV true yPoint a1,
 encV true yPoint a3])
 fun (y9 : Bool) =>
 iteP y9 (R (T.v (Value.bool true)))
 (iteP (decide (y5 = 0))
 (callK [(false, Sy.bool)]
 (g_ron
 [encV true yPoint a2, encV true yPoint a3,
 encV true yPoint a0])
 fun (y10 : Bool) =>
 iteP y10 (R (T.v (Value.bool true)))
 (iteP (decide (y7 = 0))
 (callK [(false, Sy.bool)]
 (g_ron
 [encV true yPoint a2, encV true yPoint a3,
 encV true yPoint a1])
 fun (y11 : Bool) => R (T.v (Value.bool y11)))
 (R (T.v (Value.bool false)))))
 (iteP (decide (y7 = 0))
 (callK [(false, Sy.bool)]
 (g_ron
 [encV true yPoint a2, encV true yPoint a3,
 encV true yPoint a1])
 fun (y12 : Bool) => R (T.v (Value.bool y12)))
 (R (T.v (Value.bool false))))))
 (iteP (decide (y5 = 0))
 (callK [(false, Sy.bool)]
 (g_ron
 [encV true yPoint a2, encV true yPoint a3,
 encV true yPoint a0])
 fun (y13 : Bool) =>
 iteP y13 (R (T.v (Value.bool true)))
 (iteP (decide (y7 = 0))
 (callK [(false, Sy.bool)]
 (g_ron
 [encV true yPoint a2, encV true yPoint a3,
 encV true yPoint a1])
 fun (y14 : Bool) => R (T.v (Value.bool y14)))
 (R (T.v (Value.bool false)))))
 (iteP (decide (y7 = 0))
 (callK [(false, Sy.bool)]
 (g_ron
 [encV true yPoint a2, encV true yPoint a3,
 encV true yPoint a1])
 fun (y15 : Bool) => R (T.v (Value.bool y15)))
 (R (T.v (Value.bool false)))))))
 (iteP (decide (y3 = 0))
 (callK [(false, Sy.bool)]
 (g_ron
 [encV true yPoint a0, encV true yPoint a1,
 encV true yPoint a3])
 fun (y16 : Bool) =>
 iteP y16 (R (T.v (Value.bool true)))
 (iteP (decide (y5 = 0))
 (callK [(false, Sy.bool)]
 (g_ron
 [encV true yPoint a2, encV true yPoint a3,
 encV true yPoint a0])
 fun (y17 : Bool) =>
 iteP y17 (R (T.v (Value.bool true)))
 (iteP (decide (y7 = 0))
 (callK [(false, Sy.bool)]
 (g_ron
 [encV true yPoint a2, encV true yPoint a3,
 encV true yPoint a1])
 fun (y18 : Bool) => R (T.v (Value.bool y18)))
 (R (T.v (Value.bool false)))))
 (iteP (decide (y7 = 0))
 (callK [(false, Sy.bool)]
 (g_ron
 [encV true yPoint a2, encV true yPoint a3,
 encV true yPoint a1])
 fun (y19 : Bool) => R (T.v (Value.bool y19)))
 (R (T.v (Value.bool false))))))
 (iteP (decide (y5 = 0))
 (callK [(false, Sy.bool)]
 (g_ron
 [encV true yPoint a2, encV true yPoint a3,
 encV true yPoint a0])
 fun (y20 : Bool) =>
 iteP y20 (R (T.v (Value.bool true)))
 (iteP (decide (y7 = 0))
 (callK [(false, Sy.bool)]
 (g_ron
 [encV true yPoint a2, encV true yPoint a3,
 encV true yPoint a1])
 fun (y21 : Bool) => R (T.v (Value.bool y21)))
 (R (T.v (Value.bool false)))))
 (iteP (decide (y7 = 0))
 (callK [(false, Sy.bool)]
 (g_ron
 [encV true yPoint a2, encV true yPoint a3,
 encV true yPoint a1])
 fun (y22 : Bool) => R (T.v (Value.bool y22)))
 (R (T.v (Value.bool false))))))))
 (iteP (decide (y1 = 0))
 (callK [(false, Sy.bool)]
 (g_ron
 [encV true yPoint a0, encV true yPoint a1,
 encV true yPoint a2])
 fun (y23 : Bool) =>
 iteP y23 (R (T.v (Value.bool true)))
 (iteP (decide (y3 = 0))
 (callK [(false, Sy.bool)]
 (g_ron
 [encV true yPoint a0, encV true yPoint a1,
 encV true yPoint a3])
 fun (y24 : Bool) =>
 iteP y24 (R (T.v (Value.bool true)))
 (iteP (decide (y5 = 0))
 (callK [(false, Sy.bool)]
 (g_ron
 [encV true yPoint a2, encV true yPoint a3,
 encV true yPoint a0])
 fun (y25 : Bool) =>
 iteP y25 (R (T.v (Value.bool true)))
 (iteP (decide (y7 = 0))
 (callK [(false, Sy.bool)]
 (g_ron
 [encV true yPoint a2, encV true yPoint a3,
 encV true yPoint a1])
 fun (y26 : Bool) => R (T.v (Value.bool y26)))
 (R (T.v (Value.bool false)))))
 (iteP (decide (y7 = 0))
 (callK [(false, Sy.bool)]
 (g_ron
 [encV true yPoint a2, encV true yPoint a3,
 encV true yPoint a1])
 fun (y27 : Bool) => R (T.v (Value.bool y27)))
 (R (T.v (Value.bool false))))))
 (iteP (decide (y5 = 0))
 (callK [(false, Sy.bool)]
 (g_ron
 [encV true yPoint a2, encV true yPoint a3,
 encV true yPoint a0])
 fun (y28 : Bool) =>
 iteP y28 (R (T.v (Value.bool true)))
 (iteP (decide (y7 = 0))
 (callK [(false, Sy.bool)]
 (g_ron
 [encV true yPoint a2, encV true yPoint a3,
 encV true yPoint a1])
 fun (y29 : Bool) => R (T.v (Value.bool y29)))
 (R (T.v (Value.bool false)))))
 (iteP (decide (y7 = 0))
 (callK [(false, Sy.bool)]
 (g_ron
 [encV true yPoint a2, encV true yPoint a3,
 encV true yPoint a1])
 fun (y30 : Bool) => R (T.v (Value.bool y30)))
 (R (T.v (Value.bool false)))))))
 (iteP (decide (y3 = 0))
 (callK [(false, Sy.bool)]
 (g_ron
 [encV true yPoint a0, encV true yPoint a1,
 encV true yPoint a3])
 fun (y31 : Bool) =>
 iteP y31 (R (T.v (Value.bool true)))
 (iteP (decide (y5 = 0))
 (callK [(false, Sy.bool)]
 (g_ron
 [encV true yPoint a2, encV true yPoint a3,
 encV true yPoint a0])
 fun (y32 : Bool) =>
 iteP y32 (R (T.v (Value.bool true)))
 (iteP (decide (y7 = 0))
 (callK [(false, Sy.bool)]
 (g_ron
 [encV true yPoint a2, encV true yPoint a3,
 encV true yPoint a1])
 fun (y33 : Bool) => R (T.v (Value.bool y33)))
 (R (T.v (Value.bool false)))))
 (iteP (decide (y7 = 0))
 (callK [(false, Sy.bool)]
 (g_ron
 [encV true yPoint a2, encV true yPoint a3,
 encV true yPoint a1])
 fun (y34 : Bool) => R (T.v (Value.bool y34)))
 (R (T.v (Value.bool false))))))
 (iteP (decide (y5 = 0))
 (callK [(false, Sy.bool)]
 (g_ron
 [encV true yPoint a2, encV true yPoint a3,
 encV true yPoint a0])
 fun (y35 : Bool) =>
 iteP y35 (R (T.v (Value.bool true)))
 (iteP (decide (y7 = 0))
 (callK [(false, Sy.bool)]
 (g_ron
 [encV true yPoint a2, encV true yPoint a3,
 encV true yPoint a1])
 fun (y36 : Bool) => R (T.v (Value.bool y36)))
 (R (T.v (Value.bool false)))))
 (iteP (decide (y7 = 0))
 (callK [(false, Sy.bool)]
 (g_ron
 [encV true yPoint a2, encV true yPoint a3,
 encV true yPoint a1])
 fun (y37 : Bool) => R (T.v (Value.bool y37)))
 (R (T.v (Value.bool false)))))))
theorem F_rtouch_eq (a0 : TPoint) (a1 : TPoint) (a2 : TPoint) (a3 : TPoint) (R : T → Prop) : sxTop stdC2 Tryz.prog E_rtouch H_rtouch 8 98 [encV true yPoint a0, encV true yPoint a1, encV true yPoint a2,
  encV true yPoint a3] R = F_rtouch a0 a1 a2 a3 R := by kernel_rfl
abbrev s_rtouch : Sh := [(true, yPoint), (true, yPoint), (true, yPoint), (true, yPoint)]
abbrev r_rtouch : Sh := [(false, Sy.bool)]
theorem r_rtouch_call (y : Sh.den r_rtouch) (K : Sh.den r_rtouch → Prop) : callK r_rtouch (some (Sh.enc r_rtouch y)) K = K y := callK_enc rfl y K

def sp_rtouch (x : TPoint × TPoint × TPoint × TPoint) : Option T := near4 x.1 x.2.1 x.2.2.1 x.2.2.2 (T.v (Value.bool (meetI x.1 x.2.1 x.2.2.1 x.2.2.2)))
noncomputable def g_rtouch : List T → Option (T) := gS s_rtouch sp_rtouch
theorem g_rtouch_at {a0 : TPoint} {a1 : TPoint} {a2 : TPoint} {a3 : TPoint} : g_rtouch [encV true yPoint a0, encV true yPoint a1, encV true yPoint a2,
  encV true yPoint a3] = sp_rtouch (a0, a1, a2, a3) := gS_enc (s := s_rtouch) rfl (a0, a1, a2, a3) rfl
theorem g_rtouch_op {u0 u1 u2 u3 u4 u5 u6 u7} : g_rtouch [T.agg [T.v (Value.int IntKind.i64 u0), T.v (Value.int IntKind.i64 u1)],
  T.agg [T.v (Value.int IntKind.i64 u2), T.v (Value.int IntKind.i64 u3)],
  T.agg [T.v (Value.int IntKind.i64 u4), T.v (Value.int IntKind.i64 u5)],
  T.agg [T.v (Value.int IntKind.i64 u6), T.v (Value.int IntKind.i64 u7)]] = sp_rtouch ((u0, u1), (u2, u3), (u4, u5), (u6, u7)) := gS_enc (s := s_rtouch) rfl ((u0, u1), (u2, u3), (u4, u5), (u6, u7)) rfl
theorem of_rtouch (h : ∀ (a0 : TPoint) (a1 : TPoint) (a2 : TPoint) (a3 : TPoint) (r : T), sp_rtouch (a0, a1, a2, a3) = some r → BdSh s_rtouch (a0, a1, a2, a3) → F_rtouch a0 a1 a2 a3 (fun y => y = r)) : PureFn Tryz.prog 98 g_rtouch :=
  pureFn_S (E := E_rtouch) (Hs := H_rtouch) Eok_rtouch mixed' plain' (noHeap_of rfl) 8 ⟨_, _, Tryz.func98, rfl⟩ rfl fun x r h1 h2 => by
    obtain ⟨a0, a1, a2, a3⟩ := x
    rw [show Sh.encs s_rtouch (a0, a1, a2, a3) = [encV true yPoint a0, encV true yPoint a1, encV true yPoint a2,
  encV true yPoint a3] from rfl, F_rtouch_eq]
    exact h a0 a1 a2 a3 r h1 h2

theorem ron_call (a b c : Pt) (K : Bool → Prop) : callK [(false, Sy.bool)] (g_ron [encV true yPoint a, encV true yPoint b, encV true yPoint c]) K = K (btw a b c) := by
  rw [show g_ron [encV true yPoint a, encV true yPoint b, encV true yPoint c] = sp_ron (a, b, c) from g_ron_at ..]
  exact r_ron_call _ K
theorem fn_rtouch : PureFn Tryz.prog 98 g_rtouch := of_rtouch fun a b c d r h hb => by
  obtain ⟨h1, h2, h3, h4, rfl⟩ := near4_of h
  unfold F_rtouch
  refine callK_some (s := [(false, .int .i64)]) (g_rcross_ok h1 h2 h3) ?_
  refine callK_some (s := [(false, .int .i64)]) (g_rsign_ok _) ?_
  refine callK_some (s := [(false, .int .i64)]) (g_rcross_ok h1 h2 h4) ?_
  refine callK_some (s := [(false, .int .i64)]) (g_rsign_ok _) ?_
  refine callK_some (s := [(false, .int .i64)]) (g_rcross_ok h3 h4 h1) ?_
  refine callK_some (s := [(false, .int .i64)]) (g_rsign_ok _) ?_
  refine callK_some (s := [(false, .int .i64)]) (g_rcross_ok h3 h4 h2) ?_
  refine callK_some (s := [(false, .int .i64)]) (g_rsign_ok _) ?_
  rw [wrap_sgn, wrap_sgn]
  have e : ∀ {n : Bool}, meetI a b c d = n → T.v (Value.bool n) = T.v (Value.bool (meetI a b c d)) := fun h => by rw [h]
  simp only [ron_call]
  unfold meetI at e
  unfold onI at e
  clear h hb
  repeat' first
    | refine ifP (fun h => ?_) (fun h => ?_)
    | refine ifB (fun h => ?_) (fun h => ?_)
  all_goals (refine e ?_; clear e; simp only [sgn_zero] at *; simp [*, show sgn 0 = 0 from rfl])
end Go.Pv
set_option linter.unusedSimpArgs false
set_option linter.unusedVariables false
set_option maxRecDepth 100000
namespace Go.Pv
open Go Go.Proofs
theorem pt_get {p : List Pt} {i : Nat} (h : i < p.length) : pt p i = p[i] := by unfold pt; rw [List.getD_eq_getElem?_getD, List.getElem?_eq_getElem h]; rfl
theorem rowsK_pt {p : List TPoint} {k : Nat} (h : k < p.length) (K : TPoint → Prop) : rowsK yPoint (List.map yPoint.enc p) (k : Int) K = K (pt p k) := by
  rw [rowsK_at (r := yPoint) h, pt_get h]
theorem idx_mod {i n c : Nat} (hn : n ≤ 1000) (hi : i ≤ 1000) (hc : c ≤ 2) : (IntKind.i64.wrap ((i : Int) + (c : Int))).tmod (n : Int) = (((i + c) % n : Nat) : Int) := by
  rw [wrap_id _ (by omega) (by omega), Int.tmod_eq_emod_of_nonneg (by omega), Int.natCast_emod, Int.natCast_add]
def dotI (a b c : Pt) : Int := (a.1 - b.1) * (c.1 - b.1) + (a.2 - b.2) * (c.2 - b.2)
def okPp (p : List Pt) (i k : Nat) : Bool := !(!decide ((k + 1) % p.length = i) && meetI (pt p i) (nx p i) (pt p k) (nx p k))
def nxx (p : List Pt) (i : Nat) : Pt := pt p ((i + 2) % p.length)
def okAt (p : List Pt) (i : Nat) : Bool := !decide (pt p i = nx p i) && (!(decide (crossI (pt p i) (nx p i) (nxx p i) = 0) && decide (0 < dotI (pt p i) (nx p i) (nxx p i))) && (List.range p.length).all fun k => decide (k < i + 2) || okPp p i k)
def simpB (p : List Pt) : Bool := (List.range p.length).all (okAt p)
def NearL (p : List Pt) : Prop := ∀ q ∈ p, Near q
def nearB (p : List Pt) : Bool := p.all fun q => decide (Near q)
theorem nearB_iff {p : List Pt} : nearB p = true ↔ NearL p := by
  simp only [nearB, List.all_eq_true, decide_eq_true_eq]; exact Iff.rfl
theorem NearL.pt {p : List Pt} (h : NearL p) (i : Nat) : Near (pt p i) := by
  rcases Nat.lt_or_ge i p.length with hi | hi
  · rw [pt_get hi]; exact h _ (List.getElem_mem hi)
  · unfold Go.Pv.pt
    rw [List.getD_eq_getElem?_getD, List.getElem?_eq_none hi]
    unfold Near; decide
def okP2 (p : List Pt) : Bool := decide (p.length ≤ 1000) && nearB p
def onlyP {α : Type} (p : List Pt) (r : α) : Option α := match okP2 p with
  | true => some r
  | false => none
theorem onlyP_of {α : Type} {p : List Pt} {t r : α} (h : onlyP p t = some r) : p.length ≤ 1000 ∧ NearL p ∧ r = t := by
  unfold onlyP at h; split at h
  · rename_i hc
    simp only [okP2, Bool.and_eq_true, decide_eq_true_eq, nearB_iff] at hc
    cases h; exact ⟨hc.1, hc.2, rfl⟩
  · cases h
theorem onlyP_ok {α : Type} {p : List Pt} (t : α) (h : p.length ≤ 1000) (h2 : NearL p) : onlyP p t = some t := by
  unfold onlyP; rw [show okP2 p = true by simp only [okP2, Bool.and_eq_true, decide_eq_true_eq, nearB_iff]; exact ⟨h, h2⟩]
theorem wrap_dot {a b c : Pt} (ha : Near a) (hb : Near b) (hc : Near c) : IntKind.i64.wrap (IntKind.i64.wrap (IntKind.i64.wrap (a.1 - b.1) * IntKind.i64.wrap (c.1 - b.1)) + IntKind.i64.wrap (IntKind.i64.wrap (a.2 - b.2) * IntKind.i64.wrap (c.2 - b.2))) = dotI a b c := by
  unfold Near at ha hb hc
  have h1 := mul_bd (x := a.1 - b.1) (y := c.1 - b.1) (M := 65536) (N := 65536) (by omega) (by omega) (by omega) (by omega)
  have h2 := mul_bd (x := a.2 - b.2) (y := c.2 - b.2) (M := 65536) (N := 65536) (by omega) (by omega) (by omega) (by omega)
  rw [wrap_id (a.1 - b.1) (by omega) (by omega), wrap_id (c.2 - b.2) (by omega) (by omega), wrap_id (a.2 - b.2) (by omega) (by omega), wrap_id (c.1 - b.1) (by omega) (by omega),
    wrap_id ((a.1 - b.1) * (c.1 - b.1)) (by omega) (by omega), wrap_id ((a.2 - b.2) * (c.2 - b.2)) (by omega) (by omega), wrap_id _ (by omega) (by omega)]
  rfl
set_option maxRecDepth 100000
noncomputable def E_psimple : Env := Env.of [(107, .pure g_pcross), (108, .pure g_pmeet)]
def H_psimple : FuncId → Hint := fun f => match f == 95 with | true => ⟨fun r => match r == 3 with | true => .inv [.val 13 false (.int .i64)] | false => match r == 12 with | true => .inv [.val 8 false (.int .i64)] | false => .none, fun _ _ => none, fun _ => none⟩ | false => noHint
theorem Eok_psimple : EnvOk Tryz.prog E_psimple := EnvOk.cons (x := .pure g_pcross) fn_pcross (EnvOk.cons (x := .pure g_pmeet) fn_pmeet (EnvOk.nil _))
def F_psimple (a0 : List TPoint) (R : T → Prop) : Prop :=
 loopK (Int × PUnit)
 (fun (X0 : Int × PUnit → Prop) (s1 : Int × PUnit) =>
 iteP (decide (s1.fst < (↑(List.map yPoint.enc a0).length : Int)))
 (rowsK yPoint (List.map yPoint.enc a0) s1.fst fun (y2 : TPoint) =>
 reqK (!decide ((↑(List.map yPoint.enc a0).length : Int) = 0))
 (rowsK yPoint (List.map yPoint.enc a0)
 ((IntKind.i64.wrap (s1.fst + 1)).tmod (↑(List.map yPoint.enc a0).length : Int))
 fun (y3 : TPoint) =>
 iteP (decide (y2.fst = y3.fst) && (decide (y2.snd = y3.snd) && true))
 (R (T.v (Value.bool false)))
 (reqK (!decide ((↑(List.map yPoint.enc a0).length : Int) = 0))
 (rowsK yPoint (List.map yPoint.enc a0)
 ((IntKind.i64.wrap (s1.fst + 2)).tmod (↑(List.map yPoint.enc a0).length : Int))
 fun (y4 : TPoint) =>
 callK [(false, Sy.int IntKind.i64)]
 (g_pcross
 [encV true yPoint y2, encV true yPoint y3,
 encV true yPoint y4])
 fun (y5 : Int) =>
 iteP (decide (y5 = 0))
 (iteP
 (decide
 (0 <
 IntKind.i64.wrap
 (IntKind.i64.wrap
 (IntKind.i64.wrap (y2.fst - y3.fst) * IntKind.i64.wrap (y4.fst - y3.fst)) +
 IntKind.i64.wrap
 (IntKind.i64.wrap (y2.snd - y3.snd) * IntKind.i64.wrap (y4.snd - y3.snd)))))
 (R (T.v (Value.bool false)))
 (loopK (Int × PUnit)
 (fun (X6 : Int × PUnit → Prop) (s7 : Int × PUnit) =>
 iteP (decide (s7.fst < (↑(List.map yPoint.enc a0).length : Int)))
 (reqK (!decide ((↑(List.map yPoint.enc a0).length : Int) = 0))
 (iteP
 (!decide
 ((IntKind.i64.wrap (s7.fst + 1)).tmod
 (↑(List.map yPoint.enc a0).length : Int) =
 s1.fst))
 (rowsK yPoint (List.map yPoint.enc a0) s7.fst
 fun (y8 : TPoint) =>
 reqK (!decide ((↑(List.map yPoint.enc a0).length : Int) = 0))
 (rowsK yPoint (List.map yPoint.enc a0)
 ((IntKind.i64.wrap (s7.fst + 1)).tmod
 (↑(List.map yPoint.enc a0).length : Int))
 fun (y9 : TPoint) =>
 callK [(false, Sy.bool)]
 (g_pmeet
 [encV true yPoint y2, encV true yPoint y3,
 encV true yPoint y8, encV true yPoint y9])
 fun (y10 : Bool) =>
 iteP y10 (R (T.v (Value.bool false)))
 (X6 (IntKind.i64.wrap (s7.fst + 1), ()))))
 (X6 (IntKind.i64.wrap (s7.fst + 1), ()))))
 (X0 (IntKind.i64.wrap (s1.fst + 1), ())))
 (IntKind.i64.wrap (s1.fst + 2), ())))
 (loopK (Int × PUnit)
 (fun (X11 : Int × PUnit → Prop) (s12 : Int × PUnit) =>
 iteP (decide (s12.fst < (↑(List.map yPoint.enc a0).length : Int)))
 (reqK (!decide ((↑(List.map yPoint.enc a0).length : Int) = 0))
 (iteP
 (!decide
 ((IntKind.i64.wrap (s12.fst + 1)).tmod
 (↑(List.map yPoint.enc a0).length : Int) =
 s1.fst))
 (rowsK yPoint (List.map yPoint.enc a0) s12.fst
 fun (y13 : TPoint) =>
 reqK (!decide ((↑(List.map yPoint.enc a0).length : Int) = 0))
 (rowsK yPoint (List.map yPoint.enc a0)
 ((IntKind.i64.wrap (s12.fst + 1)).tmod
 (↑(List.map yPoint.enc a0).length : Int))
 fun (y14 : TPoint) =>
 callK [(false, Sy.bool)]
 (g_pmeet
 [encV true yPoint y2, encV true yPoint y3,
 encV true yPoint y13, encV true yPoint y14])
 fun (y15 : Bool) =>
 iteP y15 (R (T.v (Value.bool false)))
 (X11 (IntKind.i64.wrap (s12.fst + 1), ()))))
 (X11 (IntKind.i64.wrap (s12.fst + 1), ()))))
 (X0 (IntKind.i64.wrap (s1.fst + 1), ())))
 (IntKind.i64.wrap (s1.fst + 2), ()))))))
 (R (T.v (Value.bool true))))
 (0, ())
theorem F_psimple_eq (a0 : List TPoint) (R : T → Prop) : sxTop stdC2 Tryz.prog E_psimple H_psimple 8 95 [encV false yPoint.li a0] R = F_psimple a0 R := by kernel_rfl
abbrev s_psimple : Sh := [(false, yPoint.li)]
abbrev r_psimple : Sh := [(false, Sy.bool)]
theorem r_psimple_call (y : Sh.den r_psimple) (K : Sh.den r_psimple → Prop) : callK r_psimple (some (Sh.enc r_psimple y)) K = K y := callK_enc rfl y K

def sp_psimple (p : List TPoint) : Option T := onlyP p (T.v (Value.bool (simpB p)))
noncomputable def g_psimple : List T → Option (T) := gS s_psimple sp_psimple
theorem g_psimple_at {a0 : List TPoint} : g_psimple [T.sl false (List.map yPoint.enc a0)] = sp_psimple (a0) := gS_enc (s := s_psimple) rfl (a0) rfl
theorem g_psimple_op {u0} : g_psimple [T.sl false (List.map yPoint.enc u0)] = sp_psimple (u0) := gS_enc (s := s_psimple) rfl (u0) rfl
theorem of_psimple (h : ∀ (a0 : List TPoint) (r : T), sp_psimple (a0) = some r → BdSh s_psimple (a0) → F_psimple a0 (fun y => y = r)) : PureFn Tryz.prog 95 g_psimple :=
  pureFn_S (E := E_psimple) (Hs := H_psimple) Eok_psimple mixed' plain' (noHeap_of rfl) 8 ⟨_, _, Tryz.func95, rfl⟩ rfl fun x r h1 h2 => by
    let a0 := x
    rw [show Sh.encs s_psimple (a0) = [encV false yPoint.li a0] from rfl, F_psimple_eq]
    exact h a0 r h1 h2

theorem all_not {n : Nat} {f : Nat → Bool} {i : Nat} (hi : i < n) (h : f i = false) : (List.range n).all f = false := by
  rw [Bool.eq_false_iff]; intro ha
  have := all_range.1 ha i hi
  rw [h] at this; cases this
/-- The edges behind the next one. -/
theorem simple_in {p : List TPoint} {i : Nat} (hl : p.length ≤ 1000) (hn : NearL p) (hi : i < p.length) {Bad Good : Prop} (hbad : (List.range p.length).all (fun k => decide (k < i + 2) || okPp p i k) = false → Bad) (hgood : (List.range p.length).all (fun k => decide (k < i + 2) || okPp p i k) = true → Good) :
    loopK (Int × PUnit)
      (fun (X6 : Int × PUnit → Prop) (s7 : Int × PUnit) =>
        iteP (decide (s7.fst < (↑(List.map yPoint.enc p).length : Int)))
          (reqK (!decide ((↑(List.map yPoint.enc p).length : Int) = 0))
            (iteP (!decide ((IntKind.i64.wrap (s7.fst + 1)).tmod (↑(List.map yPoint.enc p).length : Int) = (i : Int)))
              (rowsK yPoint (List.map yPoint.enc p) s7.fst fun (y8 : TPoint) =>
                reqK (!decide ((↑(List.map yPoint.enc p).length : Int) = 0))
                  (rowsK yPoint (List.map yPoint.enc p) ((IntKind.i64.wrap (s7.fst + 1)).tmod (↑(List.map yPoint.enc p).length : Int))
                    fun (y9 : TPoint) =>
                    callK [(false, Sy.bool)] (g_pmeet [encV true yPoint (pt p i), encV true yPoint (nx p i), encV true yPoint y8, encV true yPoint y9])
                      fun (y10 : Bool) => iteP y10 Bad (X6 (IntKind.i64.wrap (s7.fst + 1), ()))))
              (X6 (IntKind.i64.wrap (s7.fst + 1), ()))))
          Good)
      (IntKind.i64.wrap ((i : Int) + 2), ()) := by
  refine loopK_ix p.length (fun m s => s = (((i + 2 + m : Nat) : Int), ()) ∧ ∀ k, k < i + 2 + m → k < p.length → (decide (k < i + 2) || okPp p i k) = true) ⟨by rw [wrap_id _ (by omega) (by omega)]; simp, fun k h1 h2 => by simp at h1; simp [h1]⟩ ?_
  rintro X m s hm ⟨rfl, hJ⟩ hX
  dsimp only
  rw [List.length_map]
  refine ifP (fun hlt => ?_) fun hge => hgood (all_range.2 fun k hk => hJ k (by omega) hk)
  have hk : i + 2 + m < p.length := by omega
  have hne : (!decide ((p.length : Int) = 0)) = true := by rw [decide_eq_false (by omega)]; rfl
  have hix : (IntKind.i64.wrap (((i + 2 + m : Nat) : Int) + 1)).tmod (p.length : Int) = (((i + 2 + m + 1) % p.length : Nat) : Int) := idx_mod (c := 1) hl (by omega) (by omega)
  have hw : IntKind.i64.wrap (((i + 2 + m : Nat) : Int) + 1) = ((i + 2 + (m + 1) : Nat) : Int) := by rw [wrap_id _ (by omega) (by omega)]; omega
  have hmod : (i + 2 + m + 1) % p.length < p.length := Nat.mod_lt _ (by omega)
  have go : okPp p i (i + 2 + m) = true → X (((i + 2 + (m + 1) : Nat) : Int), ()) := fun h => hX _ (by omega) ⟨rfl, fun k h1 h2 => by
    rcases Nat.lt_or_ge k (i + 2 + m) with h3 | h3
    · exact hJ k h3 h2
    · have : k = i + 2 + m := by omega
      subst this; rw [h]; simp⟩
  refine ⟨hne, ?_⟩
  rw [hix, hw]
  refine ifQ (fun h => ?_) fun h => go (by unfold okPp; rw [decide_eq_true (show (i + 2 + m + 1) % p.length = i by omega)]; rfl)
  rw [rowsK_pt hk, reqK_def, rowsK_pt hmod]
  refine ⟨hne, ?_⟩
  refine callK_some (s := [(false, .bool)]) (g_pmeet_ok (hn.pt _) (hn.pt _) (hn.pt _) (hn.pt _)) ?_
  have e : okPp p i (i + 2 + m) = !meetI (pt p i) (nx p i) (pt p (i + 2 + m)) (nx p (i + 2 + m)) := by
    unfold okPp; rw [decide_eq_false (show ¬ (i + 2 + m + 1) % p.length = i by omega)]; rfl
  refine ifB (fun hm => hbad (all_not hk ?_)) fun hm => go ?_
  · show (decide (i + 2 + m < i + 2) || okPp p i (i + 2 + m)) = false
    rw [e, show meetI (pt p i) (nx p i) (pt p (i + 2 + m)) (nx p (i + 2 + m)) = true from hm]; simp
  · rw [e, show meetI (pt p i) (nx p i) (pt p (i + 2 + m)) (nx p (i + 2 + m)) = false from hm]; rfl
theorem fn_psimple : PureFn Tryz.prog 95 g_psimple := of_psimple fun p r h hb => by
  obtain ⟨hl, hn, rfl⟩ := onlyP_of h
  clear h
  unfold F_psimple
  refine loopK_ix p.length (fun k s => s = ((k : Int), ()) ∧ ∀ i, i < k → i < p.length → okAt p i = true) ⟨rfl, fun i h => by omega⟩ ?_
  rintro X k s hk ⟨rfl, hJ⟩ hX
  dsimp only
  refine ifP (fun hlt => ?_) fun hge => bres (Eq.symm (all_range.2 fun i hi => hJ i (by rw [List.length_map] at hge; omega) hi))
  rw [List.length_map] at hlt
  have hlt : k < p.length := by omega
  have hne : (!decide (((List.map yPoint.enc p).length : Int) = 0)) = true := by rw [List.length_map, decide_eq_false (by omega)]; rfl
  have hm1 : (k + 1) % p.length < p.length := Nat.mod_lt _ (by omega)
  have hm2 : (k + 2) % p.length < p.length := Nat.mod_lt _ (by omega)
  have i1 : (IntKind.i64.wrap ((k : Int) + 1)).tmod ((List.map yPoint.enc p).length : Int) = (((k + 1) % p.length : Nat) : Int) := by rw [List.length_map]; exact idx_mod (c := 1) hl (by omega) (by omega)
  have i2 : (IntKind.i64.wrap ((k : Int) + 2)).tmod ((List.map yPoint.enc p).length : Int) = (((k + 2) % p.length : Nat) : Int) := by rw [List.length_map]; exact idx_mod (c := 2) hl (by omega) (by omega)
  have bad : okAt p k = false → T.v (Value.bool false) = T.v (Value.bool (simpB p)) := fun h => bres (all_not hlt h).symm
  have good : okAt p k = true → X (IntKind.i64.wrap ((k : Int) + 1), ()) := fun h => hX _ hlt ⟨by rw [show IntKind.i64.wrap ((k : Int) + 1) = ((k + 1 : Nat) : Int) from wrap_id _ (by omega) (by omega)], fun i h1 h2 => by
    rcases Nat.lt_or_ge i k with h3 | h3
    · exact hJ i h3 h2
    · have : i = k := by omega
      subst this; exact h⟩
  rw [rowsK_pt hlt, i1]
  refine ⟨hne, ?_⟩
  rw [rowsK_pt hm1]
  have heq : (decide ((pt p k).1 = (pt p ((k + 1) % p.length)).1) && (decide ((pt p k).2 = (pt p ((k + 1) % p.length)).2) && true)) = decide (pt p k = nx p k) := by
    rw [Bool.and_true, ← Bool.decide_and]
    exact decide_eq_decide.2 Prod.ext_iff.symm
  rw [heq]
  refine ifP (fun h => bad (by unfold okAt; rw [decide_eq_true h]; rfl)) fun h1 => ?_
  refine ⟨hne, ?_⟩
  rw [i2, rowsK_pt hm2]
  refine callK_some (s := [(false, .int .i64)]) (g_pcross_ok (hn.pt _) (hn.pt _) (hn.pt _)) ?_
  have inner : (decide (crossI (pt p k) (nx p k) (nxx p k) = 0) && decide (0 < dotI (pt p k) (nx p k) (nxx p k))) = false → okAt p k = (List.range p.length).all fun j => decide (j < k + 2) || okPp p k j := fun h => by
    unfold okAt; rw [decide_eq_false h1, h]; simp
  have tail : (decide (crossI (pt p k) (nx p k) (nxx p k) = 0) && decide (0 < dotI (pt p k) (nx p k) (nxx p k))) = false → _ := fun h => simple_in (Bad := T.v (Value.bool false) = T.v (Value.bool (simpB p))) (Good := X (IntKind.i64.wrap ((k : Int) + 1), ())) hl hn hlt (fun h2 => bad (by rw [inner h, h2])) (fun h2 => good (by rw [inner h, h2]))
  refine ifP (fun h2 => ?_) fun h2 => tail (by rw [show decide (crossI (pt p k) (nx p k) (nxx p k) = 0) = false from decide_eq_false h2]; rfl)
  rw [wrap_dot (hn.pt _) (hn.pt _) (hn.pt _)]
  refine ifP (fun h3 => bad ?_) fun h3 => tail (by rw [show decide (0 < dotI (pt p k) (nx p k) (nxx p k)) = false from decide_eq_false h3]; simp)
  unfold okAt
  rw [decide_eq_true (show crossI (pt p k) (nx p k) (nxx p k) = 0 from h2), decide_eq_true (show 0 < dotI (pt p k) (nx p k) (nxx p k) from h3)]
  simp
theorem g_psimple_ok {p : List Pt} (h : p.length ≤ 1000) (h2 : NearL p) : g_psimple [T.sl false (List.map yPoint.enc p)] = some (Sh.enc [(false, .bool)] (simpB p)) := (g_psimple_at ..).trans (onlyP_ok _ h h2)
/-! ### Areas -/
def sumN : Nat → (Nat → Int) → Int
  | 0, _ => 0
  | n + 1, f => sumN n f + f n
def shoe (p : List Pt) (i : Nat) : Int := (pt p i).1 * (nx p i).2 - (nx p i).1 * (pt p i).2
def areaI (p : List Pt) : Int := sumN p.length (shoe p)
theorem shoe_bd {p : List Pt} (h : NearL p) (i : Nat) : (-1073741824 ≤ (pt p i).1 * (nx p i).2 ∧ (pt p i).1 * (nx p i).2 ≤ 1073741824) ∧ (-1073741824 ≤ (nx p i).1 * (pt p i).2 ∧ (nx p i).1 * (pt p i).2 ≤ 1073741824) := by
  have h1 := h.pt i
  have h2 : Near (nx p i) := h.pt _
  unfold Near at h1 h2
  have b1 := mul_bd (x := (pt p i).1) (y := (nx p i).2) (M := 32768) (N := 32768) (by omega) (by omega) (by omega) (by omega)
  have b2 := mul_bd (x := (nx p i).1) (y := (pt p i).2) (M := 32768) (N := 32768) (by omega) (by omega) (by omega) (by omega)
  constructor <;> constructor <;> omega
theorem area_bd {p : List Pt} (h : NearL p) : ∀ n : Nat, -(2147483648 * (n : Int)) ≤ sumN n (shoe p) ∧ sumN n (shoe p) ≤ 2147483648 * (n : Int)
  | 0 => by simp [sumN]
  | n + 1 => by
    have ih := area_bd h n
    have hb := shoe_bd h n
    unfold sumN
    have e : shoe p n = (pt p n).1 * (nx p n).2 - (nx p n).1 * (pt p n).2 := rfl
    constructor <;> push_cast <;> omega
set_option maxRecDepth 100000
noncomputable def E_parea : Env := Env.of []
def H_parea : FuncId → Hint := fun f => match f == 96 with | true => ⟨fun r => match r == 3 with | true => .inv [.val 3 false (.int .i64), .val 9 false (.int .i64)] | false => .none, fun _ _ => none, fun _ => none⟩ | false => noHint
theorem Eok_parea : EnvOk Tryz.prog E_parea := EnvOk.nil _
def F_parea (a0 : List TPoint) (R : T → Prop) : Prop :=
 loopK (Int × Int × PUnit)
 (fun (X0 : Int × Int × PUnit → Prop) (s1 : Int × Int × PUnit) =>
 iteP (decide (s1.snd.fst < (↑(List.map yPoint.enc a0).length : Int)))
 (rowsK yPoint (List.map yPoint.enc a0) s1.snd.fst fun (y2 : TPoint) =>
 reqK (!decide ((↑(List.map yPoint.enc a0).length : Int) = 0))
 (rowsK yPoint (List.map yPoint.enc a0)
 ((IntKind.i64.wrap (s1.snd.fst + 1)).tmod (↑(List.map yPoint.enc a0).length : Int))
 fun (y3 : TPoint) =>
 X0
 (IntKind.i64.wrap
 (s1.fst +
 IntKind.i64.wrap
 (IntKind.i64.wrap (y2.fst * y3.snd) - IntKind.i64.wrap (y3.fst * y2.snd))),
 IntKind.i64.wrap (s1.snd.fst + 1), ())))
 (R (T.v (Value.int IntKind.i64 s1.fst))))
 (0, 0, ())
theorem F_parea_eq (a0 : List TPoint) (R : T → Prop) : sxTop stdC2 Tryz.prog E_parea H_parea 8 96 [encV false yPoint.li a0] R = F_parea a0 R := by kernel_rfl
abbrev s_parea : Sh := [(false, yPoint.li)]
abbrev r_parea : Sh := [(false, Sy.int IntKind.i64)]
theorem r_parea_call (y : Sh.den r_parea) (K : Sh.den r_parea → Prop) : callK r_parea (some (Sh.enc r_parea y)) K = K y := callK_enc rfl y K

def sp_parea (p : List TPoint) : Option T := onlyP p (T.v (Value.int .i64 (areaI p)))
noncomputable def g_parea : List T → Option (T) := gS s_parea sp_parea
theorem g_parea_at {a0 : List TPoint} : g_parea [T.sl false (List.map yPoint.enc a0)] = sp_parea (a0) := gS_enc (s := s_parea) rfl (a0) rfl
theorem g_parea_op {u0} : g_parea [T.sl false (List.map yPoint.enc u0)] = sp_parea (u0) := gS_enc (s := s_parea) rfl (u0) rfl
theorem of_parea (h : ∀ (a0 : List TPoint) (r : T), sp_parea (a0) = some r → BdSh s_parea (a0) → F_parea a0 (fun y => y = r)) : PureFn Tryz.prog 96 g_parea :=
  pureFn_S (E := E_parea) (Hs := H_parea) Eok_parea mixed' plain' (noHeap_of rfl) 8 ⟨_, _, Tryz.func96, rfl⟩ rfl fun x r h1 h2 => by
    let a0 := x
    rw [show Sh.encs s_parea (a0) = [encV false yPoint.li a0] from rfl, F_parea_eq]
    exact h a0 r h1 h2

theorem fn_parea : PureFn Tryz.prog 96 g_parea := of_parea fun p r h hb => by
  obtain ⟨hl, hn, rfl⟩ := onlyP_of h
  clear h
  unfold F_parea
  refine loopK_ix p.length (fun k s => s = (sumN k (shoe p), (k : Int), ())) rfl ?_
  rintro X k s hk rfl hX
  dsimp only
  refine ifP (fun hlt => ?_) fun hge => ires (by rw [List.length_map] at hge; rw [show k = p.length by omega]; rfl)
  rw [List.length_map] at hlt
  have hlt : k < p.length := by omega
  have hne : (!decide (((List.map yPoint.enc p).length : Int) = 0)) = true := by rw [List.length_map, decide_eq_false (by omega)]; rfl
  have hm1 : (k + 1) % p.length < p.length := Nat.mod_lt _ (by omega)
  have i1 : (IntKind.i64.wrap ((k : Int) + 1)).tmod ((List.map yPoint.enc p).length : Int) = (((k + 1) % p.length : Nat) : Int) := by rw [List.length_map]; exact idx_mod (c := 1) hl (by omega) (by omega)
  rw [rowsK_pt hlt, i1]
  refine ⟨hne, ?_⟩
  rw [rowsK_pt hm1]
  have hb1 := shoe_bd hn k
  have hb2 := area_bd hn k
  have hb3 := area_bd hn (k + 1)
  refine hX _ hlt ?_
  rw [show IntKind.i64.wrap ((k : Int) + 1) = ((k + 1 : Nat) : Int) from wrap_id _ (by omega) (by omega)]
  have e : IntKind.i64.wrap (sumN k (shoe p) + IntKind.i64.wrap (IntKind.i64.wrap ((pt p k).1 * (nx p k).2) - IntKind.i64.wrap ((nx p k).1 * (pt p k).2))) = sumN (k + 1) (shoe p) := by
    rw [wrap_id ((pt p k).1 * (nx p k).2) (by omega) (by omega), wrap_id ((nx p k).1 * (pt p k).2) (by omega) (by omega), wrap_id ((pt p k).1 * (nx p k).2 - (nx p k).1 * (pt p k).2) (by omega) (by omega), wrap_id _ (by omega) (by omega)]
    rfl
  rw [← e]; rfl
theorem g_parea_ok {p : List Pt} (h : p.length ≤ 1000) (h2 : NearL p) : g_parea [T.sl false (List.map yPoint.enc p)] = some (Sh.enc [(false, .int .i64)] (areaI p)) := (g_parea_at ..).trans (onlyP_ok _ h h2)
/-! ### Check, Area2 -/
def polyE (p : List Pt) : Int := if p.length < 3 then 3 else if 32 < p.length then 4 else if nearB p = false then 9 else if simpB p = false ∨ areaI p = 0 then 17 else 0
set_option maxRecDepth 100000
noncomputable def E_pcheckP : Env := Env.of [(94, .pure g_pfar), (95, .pure g_psimple), (96, .pure g_parea)]
def H_pcheckP : FuncId → Hint := fun f => match f == 106 with | true => ⟨fun r => match r == 2 with | true => .inv [.val 8 false (.int .i64)] | false => .none, fun _ _ => none, fun _ => none⟩ | false => noHint
theorem Eok_pcheckP : EnvOk Tryz.prog E_pcheckP := EnvOk.cons (x := .pure g_pfar) fn_pfar (EnvOk.cons (x := .pure g_psimple) fn_psimple (EnvOk.cons (x := .pure g_parea) fn_parea (EnvOk.nil _)))
def F_pcheckP (a0 : List TPoint) (R : T → Prop) : Prop :=
 iteP (decide ((↑(List.map yPoint.enc a0).length : Int) < 3)) (R (T.v (Value.int IntKind.i64 3)))
 (iteP (decide (32 < (↑(List.map yPoint.enc a0).length : Int)))
 (R (T.v (Value.int IntKind.i64 4)))
 (loopK (Int × PUnit)
 (fun (X0 : Int × PUnit → Prop) (s1 : Int × PUnit) =>
 iteP (decide (s1.fst < (↑(List.map yPoint.enc a0).length : Int)))
 (rowsK yPoint (List.map yPoint.enc a0) s1.fst fun (y2 : TPoint) =>
 callK [(false, Sy.bool)] (g_pfar [encV true yPoint y2]) fun (y3 : Bool) =>
 iteP y3
 (iteP (decide (0 ≤ s1.fst)) (R (T.v (Value.int IntKind.i64 9)))
 (callK [(false, Sy.bool)]
 (g_psimple [T.sl false (List.map yPoint.enc a0)]) fun (y4 : Bool) =>
 iteP (!y4) (R (T.v (Value.int IntKind.i64 17)))
 (callK [(false, Sy.int IntKind.i64)]
 (g_parea [T.sl false (List.map yPoint.enc a0)]) fun (y5 : Int) =>
 iteP (decide (y5 = 0)) (R (T.v (Value.int IntKind.i64 17)))
 (R (T.v (Value.int IntKind.i64 0))))))
 (X0 (IntKind.i64.wrap (s1.fst + 1), ())))
 (callK [(false, Sy.bool)] (g_psimple [T.sl false (List.map yPoint.enc a0)])
 fun (y6 : Bool) =>
 iteP (!y6) (R (T.v (Value.int IntKind.i64 17)))
 (callK [(false, Sy.int IntKind.i64)]
 (g_parea [T.sl false (List.map yPoint.enc a0)]) fun (y7 : Int) =>
 iteP (decide (y7 = 0)) (R (T.v (Value.int IntKind.i64 17)))
 (R (T.v (Value.int IntKind.i64 0))))))
 (0, ())))
theorem F_pcheckP_eq (a0 : List TPoint) (R : T → Prop) : sxTop stdC2 Tryz.prog E_pcheckP H_pcheckP 8 77 [encV false yPoint.li a0] R = F_pcheckP a0 R := by kernel_rfl
abbrev s_pcheckP : Sh := [(false, yPoint.li)]
abbrev r_pcheckP : Sh := [(false, Sy.int IntKind.i64)]
theorem r_pcheckP_call (y : Sh.den r_pcheckP) (K : Sh.den r_pcheckP → Prop) : callK r_pcheckP (some (Sh.enc r_pcheckP y)) K = K y := callK_enc rfl y K

def sp_pcheckP (p : List TPoint) : Option T := some (T.v (Value.int .i64 (polyE p)))
noncomputable def g_pcheckP : List T → Option (T) := gS s_pcheckP sp_pcheckP
theorem g_pcheckP_at {a0 : List TPoint} : g_pcheckP [T.sl false (List.map yPoint.enc a0)] = sp_pcheckP (a0) := gS_enc (s := s_pcheckP) rfl (a0) rfl
theorem g_pcheckP_op {u0} : g_pcheckP [T.sl false (List.map yPoint.enc u0)] = sp_pcheckP (u0) := gS_enc (s := s_pcheckP) rfl (u0) rfl
theorem of_pcheckP (h : ∀ (a0 : List TPoint) (r : T), sp_pcheckP (a0) = some r → BdSh s_pcheckP (a0) → F_pcheckP a0 (fun y => y = r)) : PureFn Tryz.prog 77 g_pcheckP :=
  pureFn_S (E := E_pcheckP) (Hs := H_pcheckP) Eok_pcheckP mixed' plain' (noHeap_of rfl) 8 ⟨_, _, Tryz.func77, rfl⟩ rfl fun x r h1 h2 => by
    let a0 := x
    rw [show Sh.encs s_pcheckP (a0) = [encV false yPoint.li a0] from rfl, F_pcheckP_eq]
    exact h a0 r h1 h2

theorem fn_pcheckP : PureFn Tryz.prog 77 g_pcheckP := of_pcheckP fun p r h hb => by
  cases h
  have is : ∀ {n : Int}, polyE p = n → T.v (Value.int IntKind.i64 n) = T.v (Value.int IntKind.i64 (polyE p)) := fun h => by rw [h]
  unfold F_pcheckP
  refine ifP (fun h => is (by rw [List.length_map] at h; unfold polyE; rw [if_pos (by omega)])) fun h1 => ?_
  refine ifP (fun h => is (by rw [List.length_map] at h h1; unfold polyE; rw [if_neg (by omega), if_pos (by omega)])) fun h2 => ?_
  rw [List.length_map] at h1 h2
  refine loopK_ix p.length (fun k s => s = ((k : Int), ()) ∧ ∀ i, i < k → i < p.length → Near (pt p i)) ⟨rfl, fun i h => by omega⟩ ?_
  rintro X k s hk ⟨rfl, hJ⟩ hX
  dsimp only
  refine ifP (fun hlt => ?_) fun hge => ?_
  · rw [List.length_map] at hlt
    have hlt : k < p.length := by omega
    rw [rowsK_pt hlt]
    refine callK_some (s := [(false, .bool)]) (y := !decide (Near (pt p k))) (g_pfar_at ..) ?_
    refine ifQ (fun hf => ?_) fun hn => hX _ hlt ⟨by rw [show IntKind.i64.wrap ((k : Int) + 1) = ((k + 1 : Nat) : Int) from wrap_id _ (by omega) (by omega)], fun i h1 h2 => by
      rcases Nat.lt_or_ge i k with h3 | h3
      · exact hJ i h3 h2
      · have : i = k := by omega
        subst this; exact hn⟩
    refine ifP (fun _ => is ?_) fun h => by omega
    have : nearB p = false := by
      rw [Bool.eq_false_iff]; intro h
      have := nearB_iff.1 h _ (List.getElem_mem hlt)
      rw [← pt_get hlt] at this
      exact hf this
    unfold polyE; rw [if_neg (by omega), if_neg (by omega), if_pos this]
  · have hN : NearL p := fun q hq => by
      obtain ⟨i, hi, rfl⟩ := List.mem_iff_getElem.1 hq
      rw [← pt_get hi]
      rw [List.length_map] at hge
      exact hJ i (by omega) hi
    have hnb : ¬ nearB p = false := by rw [nearB_iff.2 hN]; simp
    refine callK_some (s := [(false, .bool)]) (g_psimple_ok (by omega) hN) ?_
    refine ifNB (fun h => is (by unfold polyE; rw [if_neg (by omega), if_neg (by omega), if_neg hnb, if_pos (.inl h)])) fun hs => ?_
    refine callK_some (s := [(false, .int .i64)]) (g_parea_ok (by omega) hN) ?_
    refine ifP (fun h => is (by unfold polyE; rw [if_neg (by omega), if_neg (by omega), if_neg hnb, if_pos (.inr h)])) fun ha => is ?_
    unfold polyE
    rw [if_neg (by omega), if_neg (by omega), if_neg hnb, if_neg]
    rintro (h | h)
    · rw [show simpB p = true from hs] at h; cases h
    · exact ha h
theorem g_pcheckP_ok (p : List Pt) : g_pcheckP [T.sl false (List.map yPoint.enc p)] = some (Sh.enc [(false, .int .i64)] (polyE p)) := g_pcheckP_at ..
theorem polyE_ok {p : List Pt} (h : polyE p = 0) : 3 ≤ p.length ∧ p.length ≤ 32 ∧ NearL p ∧ simpB p = true ∧ areaI p ≠ 0 := by
  unfold polyE at h
  by_cases h1 : p.length < 3
  · rw [if_pos h1] at h; cases h
  rw [if_neg h1] at h
  by_cases h2 : 32 < p.length
  · rw [if_pos h2] at h; cases h
  rw [if_neg h2] at h
  by_cases h3 : nearB p = false
  · rw [if_pos h3] at h; cases h
  rw [if_neg h3] at h
  by_cases h4 : simpB p = false ∨ areaI p = 0
  · rw [if_pos h4] at h; cases h
  refine ⟨by omega, by omega, nearB_iff.1 (by simpa using h3), by simpa using fun e => h4 (.inl e), fun e => h4 (.inr e)⟩
def area2 (p : List Pt) : Int := if polyE p = 0 then areaI p else 0
set_option maxRecDepth 100000
noncomputable def E_parea2 : Env := Env.of [(77, .pure g_pcheckP), (96, .pure g_parea)]
def H_parea2 : FuncId → Hint := fun _ => noHint
theorem Eok_parea2 : EnvOk Tryz.prog E_parea2 := EnvOk.cons (x := .pure g_pcheckP) fn_pcheckP (EnvOk.cons (x := .pure g_parea) fn_parea (EnvOk.nil _))
def F_parea2 (a0 : List TPoint) (R : T → Prop) : Prop :=
 callK [(false, Sy.int IntKind.i64)] (g_pcheckP [T.sl false (List.map yPoint.enc a0)])
 fun (y0 : Int) =>
 iteP (!decide (y0 = 0)) (R (T.v (Value.int IntKind.i64 0)))
 (callK [(false, Sy.int IntKind.i64)]
 (g_parea [T.sl false (List.map yPoint.enc a0)]) fun (y1 : Int) =>
 R (T.v (Value.int IntKind.i64 y1)))
theorem F_parea2_eq (a0 : List TPoint) (R : T → Prop) : sxTop stdC2 Tryz.prog E_parea2 H_parea2 8 78 [encV false yPoint.li a0] R = F_parea2 a0 R := by kernel_rfl
abbrev s_parea2 : Sh := [(false, yPoint.li)]
abbrev r_parea2 : Sh := [(false, Sy.int IntKind.i64)]
theorem r_parea2_call (y : Sh.den r_parea2) (K : Sh.den r_parea2 → Prop) : callK r_parea2 (some (Sh.enc r_parea2 y)) K = K y := callK_enc rfl y K

def sp_parea2 (p : List TPoint) : Option T := some (T.v (Value.int .i64 (area2 p)))
noncomputable def g_parea2 : List T → Option (T) := gS s_parea2 sp_parea2
theorem g_parea2_at {a0 : List TPoint} : g_parea2 [T.sl false (List.map yPoint.enc a0)] = sp_parea2 (a0) := gS_enc (s := s_parea2) rfl (a0) rfl
theorem g_parea2_op {u0} : g_parea2 [T.sl false (List.map yPoint.enc u0)] = sp_parea2 (u0) := gS_enc (s := s_parea2) rfl (u0) rfl
theorem of_parea2 (h : ∀ (a0 : List TPoint) (r : T), sp_parea2 (a0) = some r → BdSh s_parea2 (a0) → F_parea2 a0 (fun y => y = r)) : PureFn Tryz.prog 78 g_parea2 :=
  pureFn_S (E := E_parea2) (Hs := H_parea2) Eok_parea2 mixed' plain' (noHeap_of rfl) 8 ⟨_, _, Tryz.func78, rfl⟩ rfl fun x r h1 h2 => by
    let a0 := x
    rw [show Sh.encs s_parea2 (a0) = [encV false yPoint.li a0] from rfl, F_parea2_eq]
    exact h a0 r h1 h2

theorem fn_parea2 : PureFn Tryz.prog 78 g_parea2 := of_parea2 fun p r h hb => by
  cases h
  unfold F_parea2
  refine callK_some (s := [(false, .int .i64)]) (g_pcheckP_ok p) ?_
  refine ifQ (fun h => ires (by unfold area2; rw [if_neg h])) fun h => ?_
  obtain ⟨_, h2, h3, _⟩ := polyE_ok h
  refine callK_some (s := [(false, .int .i64)]) (g_parea_ok (by omega) h3) ?_
  exact ires (by unfold area2; rw [if_pos h])
theorem g_parea2_ok (p : List Pt) : g_parea2 [T.sl false (List.map yPoint.enc p)] = some (Sh.enc [(false, .int .i64)] (area2 p)) := g_parea2_at ..
end Go.Pv
set_option linter.unusedSimpArgs false
set_option linter.unusedVariables false
set_option maxRecDepth 100000
namespace Go.Pv
open Go Go.Proofs
def onAny (p : List Pt) (q : Pt) : Bool := (List.range p.length).any fun i => onI (pt p i) (nx p i) q
def whereI (p : List Pt) (q : Pt) : Int := if ¬ Near q ∨ ¬ polyE p = 0 then -1 else if onAny p q = true then 0 else if hits p q = true then 1 else -1
theorem any_range {n : Nat} {f : Nat → Bool} : (List.range n).any f = true ↔ ∃ i, i < n ∧ f i = true := by simp [List.any_eq_true, List.mem_range]
theorem any_no {n : Nat} {f : Nat → Bool} (h : ∀ i, i < n → f i = false) : (List.range n).any f = false := by
  rw [Bool.eq_false_iff]; intro ha
  obtain ⟨i, hi, h2⟩ := any_range.1 ha
  rw [h i hi] at h2; cases h2
/-- What the program asks at an edge that the point is not on. -/
theorem hit_prog {a b q : Pt} (ho : onI a b q = false) : hit a b q = (!(decide (q.2 < a.2) == decide (q.2 < b.2)) && (decide (0 < crossI a b q) == decide (a.2 < b.2))) := by
  rcases Int.lt_or_le q.2 a.2 with h1 | h1
  · rcases Int.lt_or_le q.2 b.2 with h2 | h2
    · unfold hit; simp [show ¬ a.2 ≤ q.2 by omega, show ¬ b.2 ≤ q.2 by omega, h1, h2]
    · have hz : crossI a b q ≠ 0 := fun h => by
        have := on_zero (a := b) (b := a) (q := q) (by rw [cross_swap a b q, h]; rfl) (by omega) h2 (by omega)
        rw [on_swap] at this; rw [this] at ho; cases ho
      have h3 : decide (0 < crossI a b q) = !decide (crossI a b q < 0) := by
        rcases Int.lt_or_le (crossI a b q) 0 with h | h
        · rw [decide_eq_true h, decide_eq_false (by omega)]; rfl
        · rw [decide_eq_false (show ¬ crossI a b q < 0 by omega), decide_eq_true (by omega)]; rfl
      unfold hit
      rw [h3]
      simp [show ¬ a.2 ≤ q.2 by omega, h1, h2, show ¬ q.2 < b.2 by omega, show ¬ a.2 < b.2 by omega]
  · rcases Int.lt_or_le q.2 b.2 with h2 | h2
    · unfold hit; simp [h1, show ¬ q.2 < a.2 by omega, h2, show ¬ b.2 ≤ q.2 by omega, show a.2 < b.2 by omega]
    · unfold hit; simp [show ¬ q.2 < a.2 by omega, show ¬ q.2 < b.2 by omega]
set_option maxRecDepth 100000
noncomputable def E_pwhere : Env := Env.of [(77, .pure g_pcheckP), (94, .pure g_pfar), (112, .pure g_pon), (107, .pure g_pcross)]
def H_pwhere : FuncId → Hint := fun f => match f == 100 with | true => ⟨fun r => match r == 5 with | true => .inv [.val 5 false .bool, .val 19 false (.int .i64)] | false => .none, fun _ _ => none, fun _ => none⟩ | false => noHint
theorem Eok_pwhere : EnvOk Tryz.prog E_pwhere := EnvOk.cons (x := .pure g_pcheckP) fn_pcheckP (EnvOk.cons (x := .pure g_pfar) fn_pfar (EnvOk.cons (x := .pure g_pon) fn_pon (EnvOk.cons (x := .pure g_pcross) fn_pcross (EnvOk.nil _))))
def F_pwhere (a0 : List TPoint) (a1 : TPoint) (R : T → Prop) : Prop :=
 callK [(false, Sy.bool)] (g_pfar [encV true yPoint a1]) fun (y0 : Bool) =>
 iteP y0 (R (T.v (Value.int IntKind.i64 (-1))))
 (callK [(false, Sy.int IntKind.i64)]
 (g_pcheckP [T.sl false (List.map yPoint.enc a0)]) fun (y1 : Int) =>
 iteP (!decide (y1 = 0)) (R (T.v (Value.int IntKind.i64 (-1))))
 (loopK (Bool × Int × PUnit)
 (fun (X2 : Bool × Int × PUnit → Prop) (s3 : Bool × Int × PUnit) =>
 iteP (decide (s3.snd.fst < (↑(List.map yPoint.enc a0).length : Int)))
 (rowsK yPoint (List.map yPoint.enc a0) s3.snd.fst fun (y4 : TPoint) =>
 reqK (!decide ((↑(List.map yPoint.enc a0).length : Int) = 0))
 (rowsK yPoint (List.map yPoint.enc a0)
 ((IntKind.i64.wrap (s3.snd.fst + 1)).tmod (↑(List.map yPoint.enc a0).length : Int))
 fun (y5 : TPoint) =>
 callK [(false, Sy.bool)]
 (g_pon
 [encV true yPoint y4, encV true yPoint y5,
 encV true yPoint a1])
 fun (y6 : Bool) =>
 iteP y6 (R (T.v (Value.int IntKind.i64 0)))
 (iteP (decide (decide (a1.snd < y4.snd) = decide (a1.snd < y5.snd)))
 (X2 (s3.fst, IntKind.i64.wrap (s3.snd.fst + 1), ()))
 (callK [(false, Sy.int IntKind.i64)]
 (g_pcross
 [encV true yPoint y4, encV true yPoint y5,
 encV true yPoint a1])
 fun (y7 : Int) =>
 iteP (decide (decide (0 < y7) = decide (y4.snd < y5.snd)))
 (X2 (!s3.fst, IntKind.i64.wrap (s3.snd.fst + 1), ()))
 (X2 (s3.fst, IntKind.i64.wrap (s3.snd.fst + 1), ()))))))
 (iteP s3.fst (R (T.v (Value.int IntKind.i64 1)))
 (R (T.v (Value.int IntKind.i64 (-1))))))
 (false, 0, ())))
theorem F_pwhere_eq (a0 : List TPoint) (a1 : TPoint) (R : T → Prop) : sxTop stdC2 Tryz.prog E_pwhere H_pwhere 8 100 [encV false yPoint.li a0, encV true yPoint a1] R = F_pwhere a0 a1 R := by kernel_rfl
abbrev s_pwhere : Sh := [(false, yPoint.li), (true, yPoint)]
abbrev r_pwhere : Sh := [(false, Sy.int IntKind.i64)]
theorem r_pwhere_call (y : Sh.den r_pwhere) (K : Sh.den r_pwhere → Prop) : callK r_pwhere (some (Sh.enc r_pwhere y)) K = K y := callK_enc rfl y K

def sp_pwhere (x : List TPoint × TPoint) : Option T := some (T.v (Value.int .i64 (whereI x.1 x.2)))
noncomputable def g_pwhere : List T → Option (T) := gS s_pwhere sp_pwhere
theorem g_pwhere_at {a0 : List TPoint} {a1 : TPoint} : g_pwhere [T.sl false (List.map yPoint.enc a0), encV true yPoint a1] = sp_pwhere (a0, a1) := gS_enc (s := s_pwhere) rfl (a0, a1) rfl
theorem g_pwhere_op {u0 u1 u2} : g_pwhere [T.sl false (List.map yPoint.enc u0),
  T.agg [T.v (Value.int IntKind.i64 u1), T.v (Value.int IntKind.i64 u2)]] = sp_pwhere (u0, (u1, u2)) := gS_enc (s := s_pwhere) rfl (u0, (u1, u2)) rfl
theorem of_pwhere (h : ∀ (a0 : List TPoint) (a1 : TPoint) (r : T), sp_pwhere (a0, a1) = some r → BdSh s_pwhere (a0, a1) → F_pwhere a0 a1 (fun y => y = r)) : PureFn Tryz.prog 100 g_pwhere :=
  pureFn_S (E := E_pwhere) (Hs := H_pwhere) Eok_pwhere mixed' plain' (noHeap_of rfl) 8 ⟨_, _, Tryz.func100, rfl⟩ rfl fun x r h1 h2 => by
    obtain ⟨a0, a1⟩ := x
    rw [show Sh.encs s_pwhere (a0, a1) = [encV false yPoint.li a0, encV true yPoint a1] from rfl, F_pwhere_eq]
    exact h a0 a1 r h1 h2

def edgesI (p q : List Pt) : Bool := (List.range p.length).any fun i => (List.range q.length).any fun k => meetI (pt p i) (nx p i) (pt q k) (nx q k)
set_option maxRecDepth 100000
def A_redges (a0 : List TPoint) (a1 : List TPoint) : List T := [T.sl false (List.map yPoint.enc a0), T.sl false (List.map yPoint.enc a1), T.fn 98 [] []]
noncomputable def E_redges : Env := Env.of [(98, .pure g_rtouch)]
def H_redges : FuncId → Hint := fun f => match f == 97 with | true => ⟨fun r => match r == 2 with | true => .inv [.val 13 false (.int .i64)] | false => match r == 5 with | true => .inv [.val 20 false (.int .i64)] | false => .none, fun _ _ => none, fun _ => none⟩ | false => noHint
theorem Eok_redges : EnvOk Tryz.prog E_redges := EnvOk.cons (x := .pure g_rtouch) fn_rtouch (EnvOk.nil _)
def F_redges (a0 : List TPoint) (a1 : List TPoint) (R : T → Prop) : Prop :=
 loopK (Int × PUnit)
 (fun (X0 : Int × PUnit → Prop) (s1 : Int × PUnit) =>
 iteP (decide (s1.fst < (↑(List.map yPoint.enc a0).length : Int)))
 (rowsK yPoint (List.map yPoint.enc a0) s1.fst fun (y2 : TPoint) =>
 loopK (Int × PUnit)
 (fun (X3 : Int × PUnit → Prop) (s4 : Int × PUnit) =>
 iteP (decide (s4.fst < (↑(List.map yPoint.enc a1).length : Int)))
 (rowsK yPoint (List.map yPoint.enc a1) s4.fst fun (y5 : TPoint) =>
 reqK (!decide ((↑(List.map yPoint.enc a0).length : Int) = 0))
 (rowsK yPoint (List.map yPoint.enc a0)
 ((IntKind.i64.wrap (s1.fst + 1)).tmod (↑(List.map yPoint.enc a0).length : Int))
 fun (y6 : TPoint) =>
 reqK (!decide ((↑(List.map yPoint.enc a1).length : Int) = 0))
 (rowsK yPoint (List.map yPoint.enc a1)
 ((IntKind.i64.wrap (s4.fst + 1)).tmod (↑(List.map yPoint.enc a1).length : Int))
 fun (y7 : TPoint) =>
 callK [(false, Sy.bool)]
 (g_rtouch
 [encV true yPoint y2, encV true yPoint y6,
 encV true yPoint y5, encV true yPoint y7])
 fun (y8 : Bool) =>
 iteP y8 (R (T.v (Value.bool true)))
 (X3 (IntKind.i64.wrap (s4.fst + 1), ())))))
 (X0 (IntKind.i64.wrap (s1.fst + 1), ())))
 (0, ()))
 (R (T.v (Value.bool false))))
 (0, ())
theorem F_redges_eq (a0 : List TPoint) (a1 : List TPoint) (R : T → Prop) : sxTop stdC2 Tryz.prog E_redges H_redges 8 97 (A_redges a0 a1) R = F_redges a0 a1 R := by kernel_rfl
abbrev r_redges : Sh := [(false, Sy.bool)]
theorem r_redges_call (y : Sh.den r_redges) (K : Sh.den r_redges → Prop) : callK r_redges (some (Sh.enc r_redges y)) K = K y := callK_enc rfl y K

def only2 {α : Type} (p q : List Pt) (r : α) : Option α := match okP2 p && okP2 q with
  | true => some r
  | false => none
theorem only2_of {α : Type} {p q : List Pt} {t r : α} (h : only2 p q t = some r) : p.length ≤ 1000 ∧ NearL p ∧ q.length ≤ 1000 ∧ NearL q ∧ r = t := by
  unfold only2 at h; split at h
  · rename_i hc
    simp only [okP2, Bool.and_eq_true, decide_eq_true_eq, nearB_iff] at hc
    cases h; exact ⟨hc.1.1, hc.1.2, hc.2.1, hc.2.2, rfl⟩
  · cases h
theorem only2_ok {α : Type} {p q : List Pt} (t : α) (h : p.length ≤ 1000) (h2 : NearL p) (h3 : q.length ≤ 1000) (h4 : NearL q) : only2 p q t = some t := by
  unfold only2; rw [show (okP2 p && okP2 q) = true by simp only [okP2, Bool.and_eq_true, decide_eq_true_eq, nearB_iff]; exact ⟨⟨h, h2⟩, h3, h4⟩]
def sp_redges (x : List TPoint × List TPoint) : Option T := only2 x.1 x.2 (T.v (Value.bool (edgesI x.1 x.2)))
theorem A_redges_inj (x y : List TPoint × List TPoint) (h : A_redges x.1 x.2 = A_redges y.1 y.2) : x = y := by
  unfold A_redges at h
  obtain ⟨h1, h2⟩ := List.cons.inj h
  have h2 := (List.cons.inj h2).1
  exact Prod.ext (map_inj (Sy.enc_inj yPoint) (T.sl.inj h1).2) (map_inj (Sy.enc_inj yPoint) (T.sl.inj h2).2)
noncomputable def g_redges : List T → Option (T) := gA (fun (x : List TPoint × List TPoint) => A_redges x.1 x.2) sp_redges
theorem g_redges_at (a0 : List TPoint) (a1 : List TPoint) : g_redges (A_redges a0 a1) = sp_redges (a0, a1) := gA_at (A := (fun (x : List TPoint × List TPoint) => A_redges x.1 x.2)) A_redges_inj (a0, a1)
theorem of_redges (h : ∀ (a0 : List TPoint) (a1 : List TPoint) (r : T), sp_redges (a0, a1) = some r → (∀ t ∈ A_redges a0 a1, Bd t) → F_redges a0 a1 (fun y => y = r)) : PureFn Tryz.prog 97 g_redges :=
  pureFn_A (E := E_redges) (Hs := H_redges) Eok_redges mixed' plain' (noHeap_of rfl) 8 ⟨_, _, Tryz.func97, rfl⟩ fun x r h1 h2 => by
    rw [F_redges_eq]
    exact h x.1 x.2 r h1 h2

theorem fn_redges : PureFn Tryz.prog 97 g_redges := of_redges fun p q r h hb => by
  obtain ⟨hl, hn, hl2, hn2, rfl⟩ := only2_of h
  replace hl : p.length ≤ 1000 := hl
  replace hl2 : q.length ≤ 1000 := hl2
  clear h
  unfold F_redges
  refine loopK_ix p.length (fun k s => s = ((k : Int), ()) ∧ ∀ i, i < k → i < p.length → ((List.range q.length).any fun k => meetI (pt p i) (nx p i) (pt q k) (nx q k)) = false) ⟨rfl, fun i h => by omega⟩ ?_
  rintro X k s hk ⟨rfl, hJ⟩ hX
  dsimp only
  refine ifP (fun hlt => ?_) fun hge => bres (Eq.symm (any_no fun i hi => hJ i (by rw [List.length_map] at hge; omega) hi))
  rw [List.length_map] at hlt
  have hlt : k < p.length := by omega
  have hne : (!decide (((List.map yPoint.enc p).length : Int) = 0)) = true := by rw [List.length_map, decide_eq_false (by omega)]; rfl
  have hm1 : (k + 1) % p.length < p.length := Nat.mod_lt _ (by omega)
  have i1 : (IntKind.i64.wrap ((k : Int) + 1)).tmod ((List.map yPoint.enc p).length : Int) = (((k + 1) % p.length : Nat) : Int) := by rw [List.length_map]; exact idx_mod (c := 1) hl (by omega) (by omega)
  rw [rowsK_pt hlt]
  refine loopK_ix q.length (fun j s => s = ((j : Int), ()) ∧ ∀ i, i < j → i < q.length → meetI (pt p k) (nx p k) (pt q i) (nx q i) = false) ⟨rfl, fun i h => by omega⟩ ?_
  rintro Y j s hj ⟨rfl, hI⟩ hY
  dsimp only
  refine ifP (fun hlj => ?_) fun hgj => hX _ hlt ⟨by rw [show IntKind.i64.wrap ((k : Int) + 1) = ((k + 1 : Nat) : Int) from wrap_id _ (by omega) (by omega)], fun i h1 h2 => by
    rcases Nat.lt_or_ge i k with h3 | h3
    · exact hJ i h3 h2
    · have : i = k := by omega
      subst this; exact any_no fun m hm => hI m (by rw [List.length_map] at hgj; omega) hm⟩
  rw [List.length_map] at hlj
  have hlj : j < q.length := by omega
  have hne2 : (!decide (((List.map yPoint.enc q).length : Int) = 0)) = true := by rw [List.length_map, decide_eq_false (by omega)]; rfl
  have hm2 : (j + 1) % q.length < q.length := Nat.mod_lt _ (by omega)
  have i2 : (IntKind.i64.wrap ((j : Int) + 1)).tmod ((List.map yPoint.enc q).length : Int) = (((j + 1) % q.length : Nat) : Int) := by rw [List.length_map]; exact idx_mod (c := 1) hl2 (by omega) (by omega)
  rw [rowsK_pt hlj, i1]
  refine ⟨hne, ?_⟩
  rw [rowsK_pt hm1, i2]
  refine ⟨hne2, ?_⟩
  rw [rowsK_pt hm2]
  refine callK_some (s := [(false, .bool)]) ((g_rtouch_at ..).trans (near4_ok _ (hn.pt _) (hn.pt _) (hn2.pt _) (hn2.pt _))) ?_
  refine ifB (fun h => bres (Eq.symm (any_range.2 ⟨k, hlt, any_range.2 ⟨j, hlj, h⟩⟩))) fun h => hY _ hlj ⟨by rw [show IntKind.i64.wrap ((j : Int) + 1) = ((j + 1 : Nat) : Int) from wrap_id _ (by omega) (by omega)], fun i h1 h2 => by
    rcases Nat.lt_or_ge i j with h3 | h3
    · exact hI i h3 h2
    · have : i = j := by omega
      subst this; exact h⟩
theorem g_redges_ok {p q : List Pt} (h : p.length ≤ 1000) (h2 : NearL p) (h3 : q.length ≤ 1000) (h4 : NearL q) : g_redges (A_redges p q) = some (Sh.enc [(false, .bool)] (edgesI p q)) := (g_redges_at ..).trans (only2_ok _ h h2 h3 h4)
theorem fn_pwhere : PureFn Tryz.prog 100 g_pwhere := of_pwhere fun p q r h hb => by
  cases h
  have is : ∀ {n : Int}, whereI p q = n → T.v (Value.int IntKind.i64 n) = T.v (Value.int IntKind.i64 (whereI p q)) := fun h => by rw [h]
  unfold F_pwhere
  refine callK_some (s := [(false, .bool)]) (y := !decide (Near q)) (g_pfar_at ..) ?_
  refine ifQ (fun h => is (by unfold whereI; rw [if_pos (.inl h)])) fun hq => ?_
  refine callK_some (s := [(false, .int .i64)]) (g_pcheckP_ok p) ?_
  refine ifQ (fun h => is (by unfold whereI; rw [if_pos (.inr h)])) fun hp => ?_
  obtain ⟨hl3, hl32, hn, _⟩ := polyE_ok hp
  have w : whereI p q = if onAny p q = true then 0 else if hits p q = true then 1 else -1 := by
    unfold whereI; rw [if_neg]; rintro (h | h)
    · exact h hq
    · exact h hp
  refine loopK_ix p.length (fun k s => s = (xorN k (fun i => hit (pt p i) (nx p i) q), (k : Int), ()) ∧ ∀ i, i < k → i < p.length → onI (pt p i) (nx p i) q = false) ⟨rfl, fun i h => by omega⟩ ?_
  rintro X k s hk ⟨rfl, hJ⟩ hX
  dsimp only
  refine ifP (fun hlt => ?_) fun hge => ?_
  · rw [List.length_map] at hlt
    have hlt : k < p.length := by omega
    have hne : (!decide (((List.map yPoint.enc p).length : Int) = 0)) = true := by rw [List.length_map, decide_eq_false (by omega)]; rfl
    have hm1 : (k + 1) % p.length < p.length := Nat.mod_lt _ (by omega)
    have i1 : (IntKind.i64.wrap ((k : Int) + 1)).tmod ((List.map yPoint.enc p).length : Int) = (((k + 1) % p.length : Nat) : Int) := by rw [List.length_map]; exact idx_mod (c := 1) (by omega) (by omega) (by omega)
    rw [rowsK_pt hlt, i1]
    refine ⟨hne, ?_⟩
    rw [rowsK_pt hm1]
    refine callK_some (s := [(false, .bool)]) (g_pon_ok (hn.pt _) (hn.pt _) hq) ?_
    refine ifB (fun h => is (by rw [w, if_pos (show onAny p q = true from any_range.2 ⟨k, hlt, h⟩)])) fun ho => ?_
    have ho : onI (pt p k) (nx p k) q = false := ho
    have hw : IntKind.i64.wrap ((k : Int) + 1) = ((k + 1 : Nat) : Int) := wrap_id _ (by omega) (by omega)
    have hh := hit_prog ho
    have hJ' : ∀ i, i < k + 1 → i < p.length → onI (pt p i) (nx p i) q = false := fun i h1 h2 => by
      rcases Nat.lt_or_ge i k with h3 | h3
      · exact hJ i h3 h2
      · have : i = k := by omega
        subst this; exact ho
    have step : ∀ c, hit (pt p k) (nx p k) q = c → X ((xorN k (fun i => hit (pt p i) (nx p i) q) ^^ c), IntKind.i64.wrap ((k : Int) + 1), ()) := fun c hc => hX _ hlt ⟨by rw [hw, xorN, hc], hJ'⟩
    refine ifP (fun h => ?_) fun h => ?_
    · have e : hit (pt p k) (nx p k) q = false := by
        rw [hh, show decide (q.2 < (pt p k).2) = decide (q.2 < (nx p k).2) from h]; simp
      have := step false e
      rwa [Bool.xor_false] at this
    · refine callK_some (s := [(false, .int .i64)]) (g_pcross_ok (hn.pt _) (hn.pt _) hq) ?_
      have e0 : hit (pt p k) (nx p k) q = (decide (0 < crossI (pt p k) (nx p k) q) == decide ((pt p k).2 < (nx p k).2)) := by
        rw [hh, show (decide (q.2 < (pt p k).2) == decide (q.2 < (nx p k).2)) = false from beq_eq_false_iff_ne.2 h]; rfl
      refine ifP (fun h2 => ?_) fun h2 => ?_
      · have := step true (by rw [e0]; exact beq_iff_eq.2 h2)
        rwa [Bool.xor_true] at this
      · have := step false (by rw [e0]; exact beq_eq_false_iff_ne.2 h2)
        rwa [Bool.xor_false] at this
  · rw [List.length_map] at hge
    have : k = p.length := by omega
    subst this
    have hna : onAny p q = false := any_no fun i hi => hJ i hi hi
    refine ifB (fun h => is ?_) fun h => is ?_
    · rw [w, hna, if_neg (by simp), if_pos (show hits p q = true from h)]
    · rw [w, hna, if_neg (by simp), if_neg (by rw [show hits p q = false from h]; simp)]
theorem g_pwhere_ok (p : List Pt) (q : Pt) : g_pwhere [T.sl false (List.map yPoint.enc p), encV true yPoint q] = some (Sh.enc [(false, .int .i64)] (whereI p q)) := g_pwhere_at ..
def withinI (p o : List Pt) : Bool := !edgesI p o && p.all fun c => decide (whereI o c = 1)
def apartI (p q : List Pt) : Bool := !edgesI p q && (decide (whereI p (pt q 0) < 0) && decide (whereI q (pt p 0) < 0))
set_option maxRecDepth 100000
noncomputable def E_rwithin : Env := Env.of [(100, .pure g_pwhere), (97, .pure g_redges)]
def H_rwithin : FuncId → Hint := fun f => match f == 106 with | true => ⟨fun r => match r == 2 with | true => .inv [.val 8 false (.int .i64)] | false => .none, fun _ _ => none, fun _ => none⟩ | false => noHint
theorem Eok_rwithin : EnvOk Tryz.prog E_rwithin := EnvOk.cons (x := .pure g_pwhere) fn_pwhere (EnvOk.cons (x := .pure g_redges) fn_redges (EnvOk.nil _))
def F_rwithin (a0 : List TPoint) (a1 : List TPoint) (R : T → Prop) : Prop :=
 callK [(false, Sy.bool)]
 (g_redges
 [T.sl false (List.map yPoint.enc a0), T.sl false (List.map yPoint.enc a1),
 T.fn 98 [] []])
 fun (y0 : Bool) =>
 iteP (!y0)
 (loopK (Int × PUnit)
 (fun (X1 : Int × PUnit → Prop) (s2 : Int × PUnit) =>
 iteP (decide (s2.fst < (↑(List.map yPoint.enc a0).length : Int)))
 (rowsK yPoint (List.map yPoint.enc a0) s2.fst fun (y3 : TPoint) =>
 callK [(false, Sy.int IntKind.i64)]
 (g_pwhere [T.sl false (List.map yPoint.enc a1), encV true yPoint y3])
 fun (y4 : Int) =>
 iteP (!decide (y4 = 1)) (R (T.v (Value.bool !decide (0 ≤ s2.fst))))
 (X1 (IntKind.i64.wrap (s2.fst + 1), ())))
 (R (T.v (Value.bool true))))
 (0, ()))
 (R (T.v (Value.bool false)))
theorem F_rwithin_eq (a0 : List TPoint) (a1 : List TPoint) (R : T → Prop) : sxTop stdC2 Tryz.prog E_rwithin H_rwithin 8 79 [encV false yPoint.li a0, encV false yPoint.li a1] R = F_rwithin a0 a1 R := by kernel_rfl
abbrev s_rwithin : Sh := [(false, yPoint.li), (false, yPoint.li)]
abbrev r_rwithin : Sh := [(false, Sy.bool)]
theorem r_rwithin_call (y : Sh.den r_rwithin) (K : Sh.den r_rwithin → Prop) : callK r_rwithin (some (Sh.enc r_rwithin y)) K = K y := callK_enc rfl y K

def sp_rwithin (x : List TPoint × List TPoint) : Option T := only2 x.1 x.2 (T.v (Value.bool (withinI x.1 x.2)))
noncomputable def g_rwithin : List T → Option (T) := gS s_rwithin sp_rwithin
theorem g_rwithin_at {a0 : List TPoint} {a1 : List TPoint} : g_rwithin [T.sl false (List.map yPoint.enc a0), T.sl false (List.map yPoint.enc a1)] = sp_rwithin (a0, a1) := gS_enc (s := s_rwithin) rfl (a0, a1) rfl
theorem g_rwithin_op {u0 u1} : g_rwithin [T.sl false (List.map yPoint.enc u0), T.sl false (List.map yPoint.enc u1)] = sp_rwithin (u0, u1) := gS_enc (s := s_rwithin) rfl (u0, u1) rfl
theorem of_rwithin (h : ∀ (a0 : List TPoint) (a1 : List TPoint) (r : T), sp_rwithin (a0, a1) = some r → BdSh s_rwithin (a0, a1) → F_rwithin a0 a1 (fun y => y = r)) : PureFn Tryz.prog 79 g_rwithin :=
  pureFn_S (E := E_rwithin) (Hs := H_rwithin) Eok_rwithin mixed' plain' (noHeap_of rfl) 8 ⟨_, _, Tryz.func79, rfl⟩ rfl fun x r h1 h2 => by
    obtain ⟨a0, a1⟩ := x
    rw [show Sh.encs s_rwithin (a0, a1) = [encV false yPoint.li a0, encV false yPoint.li a1] from rfl, F_rwithin_eq]
    exact h a0 a1 r h1 h2

theorem fn_rwithin : PureFn Tryz.prog 79 g_rwithin := of_rwithin fun p o r h hb => by
  obtain ⟨hl, hn, hl2, hn2, rfl⟩ := only2_of h
  replace hl : p.length ≤ 1000 := hl
  clear h
  unfold F_rwithin
  refine callK_some (s := [(false, .bool)]) (g_redges_ok hl hn hl2 hn2) ?_
  refine ifNB (fun he => ?_) fun he => bres (by unfold withinI; rw [show edgesI p o = true from he]; rfl)
  have w : withinI p o = p.all fun c => decide (whereI o c = 1) := by unfold withinI; rw [show edgesI p o = false from he]; rfl
  refine loopK_ix p.length (fun k s => s = ((k : Int), ()) ∧ p.all (fun c => decide (whereI o c = 1)) = (p.drop k).all fun c => decide (whereI o c = 1)) ⟨rfl, by rw [List.drop_zero]⟩ ?_
  rintro X k s hk ⟨rfl, hJ⟩ hX
  dsimp only
  refine ifP (fun hlt => ?_) fun hge => bres ?_
  · rw [List.length_map] at hlt
    have hlt : k < p.length := by omega
    rw [List.drop_eq_getElem_cons hlt, List.all_cons] at hJ
    rw [rowsK_at (r := yPoint) hlt]
    refine callK_some (s := [(false, .int .i64)]) (g_pwhere_ok o p[k]) ?_
    refine ifQ (fun h => bres ?_) fun h => hX _ hlt ⟨by rw [show IntKind.i64.wrap ((k : Int) + 1) = ((k + 1 : Nat) : Int) from wrap_id _ (by omega) (by omega)], by rw [hJ, decide_eq_true (show whereI o p[k] = 1 from h), Bool.true_and]⟩
    rw [w, hJ, decide_eq_false (show ¬ whereI o p[k] = 1 from h), decide_eq_true (show 0 ≤ (k : Int) by omega)]; rfl
  · rw [List.length_map] at hge
    have : k = p.length := by omega
    subst this
    rw [w, hJ, List.drop_length]; rfl
theorem g_rwithin_ok {p q : List Pt} (h : p.length ≤ 1000) (h2 : NearL p) (h3 : q.length ≤ 1000) (h4 : NearL q) : g_rwithin [T.sl false (List.map yPoint.enc p), T.sl false (List.map yPoint.enc q)] = some (Sh.enc [(false, .bool)] (withinI p q)) := (g_rwithin_at ..).trans (only2_ok _ h h2 h3 h4)
def only2n (p q : List Pt) (t : T) : Option T := match p, q with
  | _ :: _, _ :: _ => only2 p q t
  | _, _ => none
set_option maxRecDepth 100000
noncomputable def E_rapart : Env := Env.of [(100, .pure g_pwhere), (97, .pure g_redges)]
def H_rapart : FuncId → Hint := fun _ => noHint
theorem Eok_rapart : EnvOk Tryz.prog E_rapart := EnvOk.cons (x := .pure g_pwhere) fn_pwhere (EnvOk.cons (x := .pure g_redges) fn_redges (EnvOk.nil _))
def F_rapart (a0 : List TPoint) (a1 : List TPoint) (R : T → Prop) : Prop :=
 callK [(false, Sy.bool)]
 (g_redges
 [T.sl false (List.map yPoint.enc a0), T.sl false (List.map yPoint.enc a1),
 T.fn 98 [] []])
 fun (y0 : Bool) =>
 iteP (!y0)
 (rowsK yPoint (List.map yPoint.enc a1) 0 fun (y1 : TPoint) =>
 callK [(false, Sy.int IntKind.i64)]
 (g_pwhere [T.sl false (List.map yPoint.enc a0), encV true yPoint y1])
 fun (y2 : Int) =>
 iteP (decide (y2 < 0))
 (rowsK yPoint (List.map yPoint.enc a0) 0 fun (y3 : TPoint) =>
 callK [(false, Sy.int IntKind.i64)]
 (g_pwhere [T.sl false (List.map yPoint.enc a1), encV true yPoint y3])
 fun (y4 : Int) => R (T.v (Value.bool (decide (y4 < 0)))))
 (R (T.v (Value.bool false))))
 (R (T.v (Value.bool false)))
theorem F_rapart_eq (a0 : List TPoint) (a1 : List TPoint) (R : T → Prop) : sxTop stdC2 Tryz.prog E_rapart H_rapart 8 80 [encV false yPoint.li a0, encV false yPoint.li a1] R = F_rapart a0 a1 R := by kernel_rfl
abbrev s_rapart : Sh := [(false, yPoint.li), (false, yPoint.li)]
abbrev r_rapart : Sh := [(false, Sy.bool)]
theorem r_rapart_call (y : Sh.den r_rapart) (K : Sh.den r_rapart → Prop) : callK r_rapart (some (Sh.enc r_rapart y)) K = K y := callK_enc rfl y K

def sp_rapart (x : List TPoint × List TPoint) : Option T := only2n x.1 x.2 (T.v (Value.bool (apartI x.1 x.2)))
noncomputable def g_rapart : List T → Option (T) := gS s_rapart sp_rapart
theorem g_rapart_at {a0 : List TPoint} {a1 : List TPoint} : g_rapart [T.sl false (List.map yPoint.enc a0), T.sl false (List.map yPoint.enc a1)] = sp_rapart (a0, a1) := gS_enc (s := s_rapart) rfl (a0, a1) rfl
theorem g_rapart_op {u0 u1} : g_rapart [T.sl false (List.map yPoint.enc u0), T.sl false (List.map yPoint.enc u1)] = sp_rapart (u0, u1) := gS_enc (s := s_rapart) rfl (u0, u1) rfl
theorem of_rapart (h : ∀ (a0 : List TPoint) (a1 : List TPoint) (r : T), sp_rapart (a0, a1) = some r → BdSh s_rapart (a0, a1) → F_rapart a0 a1 (fun y => y = r)) : PureFn Tryz.prog 80 g_rapart :=
  pureFn_S (E := E_rapart) (Hs := H_rapart) Eok_rapart mixed' plain' (noHeap_of rfl) 8 ⟨_, _, Tryz.func80, rfl⟩ rfl fun x r h1 h2 => by
    obtain ⟨a0, a1⟩ := x
    rw [show Sh.encs s_rapart (a0, a1) = [encV false yPoint.li a0, encV false yPoint.li a1] from rfl, F_rapart_eq]
    exact h a0 a1 r h1 h2

theorem fn_rapart : PureFn Tryz.prog 80 g_rapart := of_rapart fun p q r h hb => by
  unfold sp_rapart only2n at h
  split at h
  · rename_i e1 e2
    obtain ⟨hl, hn, hl2, hn2, rfl⟩ := only2_of h
    have k1 : 0 < p.length := by rw [show p = _ from e1]; simp
    have k2 : 0 < q.length := by rw [show q = _ from e2]; simp
    clear h
    unfold F_rapart
    refine callK_some (s := [(false, .bool)]) (g_redges_ok hl hn hl2 hn2) ?_
    refine ifNB (fun he => ?_) fun he => bres (by unfold apartI; rw [show edgesI p q = true from he]; rfl)
    have w : apartI p q = (decide (whereI p (pt q 0) < 0) && decide (whereI q (pt p 0) < 0)) := by unfold apartI; rw [show edgesI p q = false from he]; rfl
    rw [show (0 : Int) = ((0 : Nat) : Int) from rfl, rowsK_pt k2]
    refine callK_some (s := [(false, .int .i64)]) (g_pwhere_ok p (pt q 0)) ?_
    refine ifP (fun h => ?_) fun h => bres (by rw [w, decide_eq_false (show ¬ whereI p (pt q 0) < 0 from h)]; rfl)
    rw [rowsK_pt k1]
    refine callK_some (s := [(false, .int .i64)]) (g_pwhere_ok q (pt p 0)) ?_
    exact bres (by rw [w, decide_eq_true (show whereI p (pt q 0) < 0 from h)]; rfl)
  · cases h
theorem g_rapart_ok {p q : List Pt} (k1 : 0 < p.length) (k2 : 0 < q.length) (h : p.length ≤ 1000) (h2 : NearL p) (h3 : q.length ≤ 1000) (h4 : NearL q) : g_rapart [T.sl false (List.map yPoint.enc p), T.sl false (List.map yPoint.enc q)] = some (Sh.enc [(false, .bool)] (apartI p q)) := by
  refine (g_rapart_at ..).trans ?_
  unfold sp_rapart only2n
  cases p with
  | nil => simp at k1
  | cons a p => cases q with
    | nil => simp at k2
    | cons b q => exact only2_ok _ h h2 h3 h4
end Go.Pv
set_option linter.unusedSimpArgs false
set_option linter.unusedVariables false
set_option maxRecDepth 100000
namespace Go.Pv
open Go Go.Proofs
/-- As first_loop, by places. -/
theorem first_loopI {r : Sy} {l : List r.den} (f : Nat → Int) (hl : l.length ≤ 1000000) {Body : (Int × PUnit → Prop) → Int × PUnit → r.den → Prop} {Exit : Prop}
    (hbody : ∀ (X : Int × PUnit → Prop) (k : Nat) (hk : k < l.length), (∀ j, j < k → f j = 0) → (f k = 0 → X (((k + 1 : Nat) : Int), ())) → (f k ≠ 0 → firstE f (List.range l.length) = f k) → Body X ((k : Int), ()) l[k]) (hexit : firstE f (List.range l.length) = 0 → Exit) :
    loopK (Int × PUnit) (fun (X : Int × PUnit → Prop) (s : Int × PUnit) => iteP (decide (s.fst < ((List.map r.enc l).length : Int))) (rowsK r (List.map r.enc l) s.fst fun y => Body X s y) Exit) (0, ()) := by
  refine loopK_ix l.length (fun k s => s = ((k : Int), ()) ∧ firstE f (List.range l.length) = firstE f (List.range' k (l.length - k)) ∧ ∀ j, j < k → f j = 0) ⟨rfl, by rw [List.range_eq_range']; rfl, fun j h => by omega⟩ ?_
  rintro X k s hk ⟨rfl, he, hp⟩ hX
  dsimp only
  refine ifP (fun hlt => ?_) fun hge => ?_
  · rw [List.length_map] at hlt
    have hlt : k < l.length := by omega
    rw [rowsK_at hlt]
    obtain ⟨m, hm⟩ : ∃ m, l.length - k = m + 1 := ⟨l.length - k - 1, by omega⟩
    rw [hm, List.range'_succ, firstE] at he
    refine hbody X k hlt hp (fun h0 => ?_) fun h0 => by rw [he, if_neg h0]
    rw [if_pos h0] at he
    exact hX _ hlt ⟨rfl, by rw [he]; congr 2; omega, fun j hj => by
      rcases Nat.lt_or_ge j k with h | h
      · exact hp j h
      · have : j = k := by omega
        subst this; exact h0⟩
  · rw [List.length_map] at hge
    have : l.length - k = 0 := by omega
    rw [this] at he
    exact hexit he
def holeE (s : TShape) (i : Nat) : Int := if ¬ polyE (s.2.getD i []) = 0 then polyE (s.2.getD i []) else if 0 ≤ area2 (s.2.getD i []) ∨ withinI (s.2.getD i []) s.1 = false then 17 else if ((List.range i).all fun k => apartI (s.2.getD i []) (s.2.getD k [])) = false then 17 else 0
def regE (s : TShape) : Int := if 8 < s.2.length then 12 else if ¬ polyE s.1 = 0 then polyE s.1 else if area2 s.1 ≤ 0 then 17 else firstE (holeE s) (List.range s.2.length)
theorem firstE_zero {α : Type} {f : α → Int} : ∀ {l : List α}, firstE f l = 0 → ∀ a ∈ l, f a = 0
  | a :: l, h, b, hb => by
    unfold firstE at h
    by_cases ha : f a = 0
    · rw [if_pos ha] at h
      rcases List.mem_cons.1 hb with rfl | hb
      · exact ha
      · exact firstE_zero h b hb
    · rw [if_neg ha] at h; exact absurd h ha
  | [], _, b, hb => by cases hb
theorem okHead_li (l : List (List TPoint)) : okHead 1 (List.map yPoint.li.enc l) = true := by cases l <;> rfl
set_option maxRecDepth 100000
noncomputable def E_rcheck : Env := Env.of [(77, .pure g_pcheckP), (78, .pure g_parea2), (79, .pure g_rwithin), (80, .pure g_rapart)]
def H_rcheck : FuncId → Hint := fun f => match f == 65 with | true => ⟨fun r => match r == 9 with | true => .inv [.val 26 false (.int .i64)] | false => match r == 17 with | true => .inv [.val 51 false (.int .i64)] | false => .none, fun _ _ => none, fun _ => none⟩ | false => noHint
theorem Eok_rcheck : EnvOk Tryz.prog E_rcheck := EnvOk.cons (x := .pure g_pcheckP) fn_pcheckP (EnvOk.cons (x := .pure g_parea2) fn_parea2 (EnvOk.cons (x := .pure g_rwithin) fn_rwithin (EnvOk.cons (x := .pure g_rapart) fn_rapart (EnvOk.nil _))))
def F_rcheck (a0 : TShape) (R : T → Prop) : Prop :=
 iteP (decide (8 < (↑(List.map yPoint.li.enc a0.snd).length : Int)))
 (R (T.v (Value.int IntKind.i64 12)))
 (callK [(false, Sy.int IntKind.i64)]
 (g_pcheckP [T.sl false (List.map yPoint.enc a0.fst)]) fun (y0 : Int) =>
 iteP (!decide (y0 = 0)) (R (T.v (Value.int IntKind.i64 y0)))
 (callK [(false, Sy.int IntKind.i64)]
 (g_parea2 [T.sl false (List.map yPoint.enc a0.fst)]) fun (y1 : Int) =>
 iteP (decide (y1 ≤ 0)) (R (T.v (Value.int IntKind.i64 17)))
 (loopK (Int × PUnit)
 (fun (X2 : Int × PUnit → Prop) (s3 : Int × PUnit) =>
 iteP (decide (s3.fst < (↑(List.map yPoint.li.enc a0.snd).length : Int)))
 (rowsK yPoint.li (List.map yPoint.li.enc a0.snd) s3.fst
 fun (y4 : List TPoint) =>
 callK [(false, Sy.int IntKind.i64)]
 (g_pcheckP [T.sl false (List.map yPoint.enc y4)]) fun (y5 : Int) =>
 iteP (!decide (y5 = 0)) (R (T.v (Value.int IntKind.i64 y5)))
 (callK [(false, Sy.int IntKind.i64)]
 (g_parea2 [T.sl false (List.map yPoint.enc y4)]) fun (y6 : Int) =>
 iteP (decide (0 ≤ y6)) (R (T.v (Value.int IntKind.i64 17)))
 (callK [(false, Sy.bool)]
 (g_rwithin
 [T.sl false (List.map yPoint.enc y4),
 T.sl false (List.map yPoint.enc a0.fst)])
 fun (y7 : Bool) =>
 iteP (!y7) (R (T.v (Value.int IntKind.i64 17)))
 (reqK
 (okHead 1 (List.map yPoint.li.enc a0.snd) &&
 (decide (0 ≤ s3.fst) &&
 decide (Int.toNat s3.fst ≤ (List.map yPoint.li.enc a0.snd).length)) &&
 true)
 (loopK (Int × PUnit)
 (fun (X8 : Int × PUnit → Prop) (s9 : Int × PUnit) =>
 iteP
 (decide
 (s9.fst <
 (↑(List.drop 0
 (List.take (Int.toNat s3.fst)
 (List.map yPoint.li.enc a0.snd))).length :
 Int)))
 (rowsK yPoint.li
 (List.drop 0
 (List.take (Int.toNat s3.fst) (List.map yPoint.li.enc a0.snd)))
 s9.fst fun (y10 : List TPoint) =>
 callK [(false, Sy.bool)]
 (g_rapart
 [T.sl false (List.map yPoint.enc y4),
 T.sl false (List.map yPoint.enc y10)])
 fun (y11 : Bool) =>
 iteP (!y11) (R (T.v (Value.int IntKind.i64 17)))
 (X8 (IntKind.i64.wrap (s9.fst + 1), ())))
 (X2 (IntKind.i64.wrap (s3.fst + 1), ())))
 (0, ()))))))
 (R (T.v (Value.int IntKind.i64 0))))
 (0, ()))))
theorem F_rcheck_eq (a0 : TShape) (R : T → Prop) : sxTop stdC2 Tryz.prog E_rcheck H_rcheck 8 65 [encV true yShape a0] R = F_rcheck a0 R := by kernel_rfl
abbrev s_rcheck : Sh := [(true, yShape)]
abbrev r_rcheck : Sh := [(false, Sy.int IntKind.i64)]
theorem r_rcheck_call (y : Sh.den r_rcheck) (K : Sh.den r_rcheck → Prop) : callK r_rcheck (some (Sh.enc r_rcheck y)) K = K y := callK_enc rfl y K

def sp_rcheck (s : TShape) : Option T := some (T.v (Value.int .i64 (regE s)))
noncomputable def g_rcheck : List T → Option (T) := gS s_rcheck sp_rcheck
theorem g_rcheck_at {a0 : TShape} : g_rcheck [encV true yShape a0] = sp_rcheck (a0) := gS_enc (s := s_rcheck) rfl (a0) rfl
theorem g_rcheck_op {u0 u1} : g_rcheck [T.agg [T.sl false (List.map yPoint.enc u0), T.sl false (List.map yPoint.li.enc u1)]] = sp_rcheck ((u0, u1)) := gS_enc (s := s_rcheck) rfl ((u0, u1)) rfl
theorem of_rcheck (h : ∀ (a0 : TShape) (r : T), sp_rcheck (a0) = some r → BdSh s_rcheck (a0) → F_rcheck a0 (fun y => y = r)) : PureFn Tryz.prog 65 g_rcheck :=
  pureFn_S (E := E_rcheck) (Hs := H_rcheck) Eok_rcheck mixed' plain' (noHeap_of rfl) 8 ⟨_, _, Tryz.func65, rfl⟩ rfl fun x r h1 h2 => by
    let a0 := x
    rw [show Sh.encs s_rcheck (a0) = [encV true yShape a0] from rfl, F_rcheck_eq]
    exact h a0 r h1 h2

theorem fn_rcheck : PureFn Tryz.prog 65 g_rcheck := of_rcheck fun s r h hb => by
  cases h
  have is : ∀ {n : Int}, regE s = n → T.v (Value.int IntKind.i64 n) = T.v (Value.int IntKind.i64 (regE s)) := fun h => by rw [h]
  unfold F_rcheck
  refine ifP (fun h => is (by rw [List.length_map] at h; unfold regE; rw [if_pos (by omega)])) fun h1 => ?_
  rw [List.length_map] at h1
  refine callK_some (s := [(false, .int .i64)]) (g_pcheckP_ok s.1) ?_
  refine ifQ (fun h => is (by unfold regE; rw [if_neg (by omega), if_pos h])) fun h2 => ?_
  refine callK_some (s := [(false, .int .i64)]) (g_parea2_ok s.1) ?_
  refine ifP (fun h => is (by unfold regE; rw [if_neg (by omega), if_neg (by simpa using h2), if_pos h])) fun h3 => ?_
  have w : regE s = firstE (holeE s) (List.range s.2.length) := by unfold regE; rw [if_neg (by omega), if_neg (by simpa using h2), if_neg h3]
  obtain ⟨ho3, ho32, hoN, _⟩ := polyE_ok h2
  refine first_loopI (r := yPoint.li) (holeE s) (by show s.2.length ≤ 1000000; omega) (fun X k hk hprev hok hbad => ?_) fun h0 => is (w.trans h0)
  have hk : k < s.2.length := hk
  have hg : s.2.getD k [] = s.2[k] := by rw [List.getD_eq_getElem?_getD, List.getElem?_eq_getElem hk]; rfl
  have bad : ∀ {n : Int}, n ≠ 0 → holeE s k = n → T.v (Value.int IntKind.i64 n) = T.v (Value.int IntKind.i64 (regE s)) := fun hn h => is (w.trans ((hbad (by rw [h]; exact hn)).trans h))
  have hE : holeE s k = if ¬ polyE s.2[k] = 0 then polyE s.2[k] else if 0 ≤ area2 s.2[k] ∨ withinI s.2[k] s.1 = false then 17 else if ((List.range k).all fun j => apartI s.2[k] (s.2.getD j [])) = false then 17 else 0 := by unfold holeE; rw [hg]
  show callK [(false, Sy.int IntKind.i64)] (g_pcheckP [T.sl false (List.map yPoint.enc s.2[k])]) _
  refine callK_some (s := [(false, .int .i64)]) (g_pcheckP_ok s.2[k]) ?_
  refine ifQ (fun h => bad h (by rw [hE, if_pos h])) fun p1 => ?_
  refine callK_some (s := [(false, .int .i64)]) (g_parea2_ok s.2[k]) ?_
  refine ifP (fun h => bad (by decide) (by rw [hE, if_neg (by simpa using p1), if_pos (.inl h)])) fun p2 => ?_
  obtain ⟨hp3, hp32, hpN, _⟩ := polyE_ok p1
  refine callK_some (s := [(false, .bool)]) (g_rwithin_ok (by omega) hpN (by omega) hoN) ?_
  refine ifNB (fun h => bad (by decide) (by rw [hE, if_neg (by simpa using p1), if_pos (.inr h)])) fun p3 => ?_
  have hE2 : holeE s k = if ((List.range k).all fun j => apartI s.2[k] (s.2.getD j [])) = false then 17 else 0 := by
    rw [hE, if_neg (by simpa using p1), if_neg]
    rintro (h | h)
    · exact p2 h
    · rw [show withinI s.2[k] s.1 = true from p3] at h; cases h
  refine ⟨by rw [okHead_li, List.length_map]; simp; omega, ?_⟩
  have htk : List.drop 0 (List.take (Int.toNat (k : Int)) (List.map yPoint.li.enc s.2)) = List.map yPoint.li.enc (s.2.take k) := by rw [List.drop_zero, Int.toNat_natCast, List.map_take]
  dsimp only
  rw [htk]
  have ht : (s.2.take k).length = k := by rw [List.length_take]; omega
  refine loopK_ix k (fun j s' => s' = ((j : Int), ()) ∧ ∀ i, i < j → apartI s.2[k] (s.2.getD i []) = true) ⟨rfl, fun i h => by omega⟩ ?_
  rintro Y j s' hj ⟨rfl, hJ⟩ hY
  dsimp only
  refine ifP (fun hlt => ?_) fun hge => ?_
  · rw [List.length_map, ht] at hlt
    have hlt : j < k := by omega
    rw [rowsK_at (r := yPoint.li) (show j < (s.2.take k).length by omega)]
    have hgj : s.2.getD j [] = s.2[j] := by rw [List.getD_eq_getElem?_getD, List.getElem?_eq_getElem (by omega)]; rfl
    have hgt : (s.2.take k)[j]'(by omega) = s.2[j] := by simp
    rw [hgt]
    have hj0 : polyE s.2[j] = 0 := by
      have h0 := hprev j hlt
      unfold holeE at h0
      rw [hgj] at h0
      refine Classical.byContradiction fun hc => ?_
      rw [if_pos hc] at h0
      exact hc h0
    obtain ⟨hq3, hq32, hqN, _⟩ := polyE_ok hj0
    refine callK_some (s := [(false, .bool)]) (g_rapart_ok (by omega) (by omega) (by omega) hpN (by omega) hqN) ?_
    refine ifNB (fun h => bad (by decide) ?_) fun h => hY _ hlt ⟨by rw [show IntKind.i64.wrap ((j : Int) + 1) = ((j + 1 : Nat) : Int) from wrap_id _ (by omega) (by omega)], fun i hi => by
      rcases Nat.lt_or_ge i j with h3 | h3
      · exact hJ i h3
      · have : i = j := by omega
        subst this; rw [hgj]; exact h⟩
    rw [hE2, if_pos (all_not hlt (by rw [hgj]; exact h))]
  · rw [List.length_map, ht] at hge
    have : j = k := by omega
    subst this
    rw [show IntKind.i64.wrap ((j : Int) + 1) = ((j + 1 : Nat) : Int) from wrap_id _ (by omega) (by omega)]
    refine hok ?_
    rw [hE2, if_neg]
    rw [all_range.2 hJ]; simp
theorem g_rcheck_ok (s : TShape) : g_rcheck [encV true yShape s] = some (Sh.enc [(false, .int .i64)] (regE s)) := g_rcheck_at ..
set_option maxRecDepth 100000
noncomputable def E_rconts : Env := Env.of []
def H_rconts : FuncId → Hint := fun _ => noHint
theorem Eok_rconts : EnvOk Tryz.prog E_rconts := EnvOk.nil _
def F_rconts (a0 : TShape) (R : T → Prop) : Prop :=
 iteP (List.map yPoint.li.enc a0.snd).isEmpty
 (R (T.sl false [[T.sl false (List.map yPoint.enc a0.fst)]]))
 (reqK
 (allW 1 (List.map yPoint.li.enc a0.snd) &&
 decide ((1 + (List.map yPoint.li.enc a0.snd).length) * 24 ≤ 140737488355328) &&
 decide (1 + (List.map yPoint.li.enc a0.snd).length ≤ 140737488355328))
 (R
 (T.sl false
 ([T.sl false (List.map yPoint.enc a0.fst)] ::
 (List.map yPoint.li.enc a0.snd)))))
theorem F_rconts_eq (a0 : TShape) (R : T → Prop) : sxTop stdC2 Tryz.prog E_rconts H_rconts 8 88 [encV true yShape a0] R = F_rconts a0 R := by kernel_rfl
abbrev s_rconts : Sh := [(true, yShape)]
abbrev r_rconts : Sh := [(false, yPoint.li.li)]
theorem r_rconts_call (y : Sh.den r_rconts) (K : Sh.den r_rconts → Prop) : callK r_rconts (some (Sh.enc r_rconts y)) K = K y := callK_enc rfl y K

def sp_rconts (s : TShape) : Option T := match decide (s.2.length ≤ 1000) with
  | true => some (Sh.enc r_rconts (s.1 :: s.2))
  | false => none
noncomputable def g_rconts : List T → Option (T) := gS s_rconts sp_rconts
theorem g_rconts_at {a0 : TShape} : g_rconts [encV true yShape a0] = sp_rconts (a0) := gS_enc (s := s_rconts) rfl (a0) rfl
theorem g_rconts_op {u0 u1} : g_rconts [T.agg [T.sl false (List.map yPoint.enc u0), T.sl false (List.map yPoint.li.enc u1)]] = sp_rconts ((u0, u1)) := gS_enc (s := s_rconts) rfl ((u0, u1)) rfl
theorem of_rconts (h : ∀ (a0 : TShape) (r : T), sp_rconts (a0) = some r → BdSh s_rconts (a0) → F_rconts a0 (fun y => y = r)) : PureFn Tryz.prog 88 g_rconts :=
  pureFn_S (E := E_rconts) (Hs := H_rconts) Eok_rconts mixed' plain' (noHeap_of rfl) 8 ⟨_, _, Tryz.func88, rfl⟩ rfl fun x r h1 h2 => by
    let a0 := x
    rw [show Sh.encs s_rconts (a0) = [encV true yShape a0] from rfl, F_rconts_eq]
    exact h a0 r h1 h2

theorem fn_rconts : PureFn Tryz.prog 88 g_rconts := of_rconts fun s r h hb => by
  unfold sp_rconts at h
  split at h
  · rename_i hc
    have hc : s.2.length ≤ 1000 := of_decide_eq_true hc
    cases h
    obtain ⟨o, hs⟩ := s
    unfold F_rconts
    cases hs with
    | nil => exact (rfl : T.sl false [[T.sl false (List.map yPoint.enc o)]] = _)
    | cons a l =>
      show reqK _ _
      refine ⟨?_, rfl⟩
      simp only [Bool.and_eq_true, decide_eq_true_eq, List.length_map]
      have hc : (a :: l).length ≤ 1000 := hc
      exact ⟨⟨allW_enc (.li yPoint) (a :: l), by omega⟩, by omega⟩
  · cases h
def sumA (l : List (List Pt)) : Int := sumN l.length fun i => area2 (l.getD i [])
def regA (s : TShape) : Int := if regE s = 0 then sumA (s.1 :: s.2) else 0
theorem area2_bd (p : List Pt) : -68719476736 ≤ area2 p ∧ area2 p ≤ 68719476736 := by
  unfold area2
  by_cases h : polyE p = 0
  · rw [if_pos h]
    obtain ⟨_, h2, h3, _⟩ := polyE_ok h
    have := area_bd h3 p.length
    unfold areaI
    omega
  · rw [if_neg h]; omega
theorem sumA_bd (l : List (List Pt)) : ∀ n : Nat, -(68719476736 * (n : Int)) ≤ sumN n (fun i => area2 (l.getD i [])) ∧ sumN n (fun i => area2 (l.getD i [])) ≤ 68719476736 * (n : Int)
  | 0 => by simp [sumN]
  | n + 1 => by
    have ih := sumA_bd l n
    have hb := area2_bd (l.getD n [])
    unfold sumN
    constructor <;> push_cast <;> omega
set_option maxRecDepth 100000
noncomputable def E_rarea2 : Env := Env.of [(65, .pure g_rcheck), (88, .pure g_rconts), (78, .pure g_parea2)]
def H_rarea2 : FuncId → Hint := fun f => match f == 70 with | true => ⟨fun r => match r == 5 with | true => .inv [.val 3 false (.int .i64), .val 12 false (.int .i64)] | false => .none, fun _ _ => none, fun _ => none⟩ | false => noHint
theorem Eok_rarea2 : EnvOk Tryz.prog E_rarea2 := EnvOk.cons (x := .pure g_rcheck) fn_rcheck (EnvOk.cons (x := .pure g_rconts) fn_rconts (EnvOk.cons (x := .pure g_parea2) fn_parea2 (EnvOk.nil _)))
def F_rarea2 (a0 : TShape) (R : T → Prop) : Prop :=
 callK [(false, Sy.int IntKind.i64)] (g_rcheck [encV true yShape a0]) fun (y0 : Int) =>
 iteP (!decide (y0 = 0)) (R (T.v (Value.int IntKind.i64 0)))
 (callK [(false, yPoint.li.li)] (g_rconts [encV true yShape a0])
 fun (y1 : List (List TPoint)) =>
 loopK (Int × Int × PUnit)
 (fun (X2 : Int × Int × PUnit → Prop) (s3 : Int × Int × PUnit) =>
 iteP (decide (s3.snd.fst < (↑(List.map yPoint.li.enc y1).length : Int)))
 (rowsK yPoint.li (List.map yPoint.li.enc y1) s3.snd.fst fun (y4 : List TPoint) =>
 callK [(false, Sy.int IntKind.i64)]
 (g_parea2 [T.sl false (List.map yPoint.enc y4)]) fun (y5 : Int) =>
 X2 (IntKind.i64.wrap (s3.fst + y5), IntKind.i64.wrap (s3.snd.fst + 1), ()))
 (R (T.v (Value.int IntKind.i64 s3.fst))))
 (0, 0, ()))
theorem F_rarea2_eq (a0 : TShape) (R : T → Prop) : sxTop stdC2 Tryz.prog E_rarea2 H_rarea2 8 70 [encV true yShape a0] R = F_rarea2 a0 R := by kernel_rfl
abbrev s_rarea2 : Sh := [(true, yShape)]
abbrev r_rarea2 : Sh := [(false, Sy.int IntKind.i64)]
theorem r_rarea2_call (y : Sh.den r_rarea2) (K : Sh.den r_rarea2 → Prop) : callK r_rarea2 (some (Sh.enc r_rarea2 y)) K = K y := callK_enc rfl y K

def sp_rarea2 (s : TShape) : Option T := some (T.v (Value.int .i64 (regA s)))
noncomputable def g_rarea2 : List T → Option (T) := gS s_rarea2 sp_rarea2
theorem g_rarea2_at {a0 : TShape} : g_rarea2 [encV true yShape a0] = sp_rarea2 (a0) := gS_enc (s := s_rarea2) rfl (a0) rfl
theorem g_rarea2_op {u0 u1} : g_rarea2 [T.agg [T.sl false (List.map yPoint.enc u0), T.sl false (List.map yPoint.li.enc u1)]] = sp_rarea2 ((u0, u1)) := gS_enc (s := s_rarea2) rfl ((u0, u1)) rfl
theorem of_rarea2 (h : ∀ (a0 : TShape) (r : T), sp_rarea2 (a0) = some r → BdSh s_rarea2 (a0) → F_rarea2 a0 (fun y => y = r)) : PureFn Tryz.prog 70 g_rarea2 :=
  pureFn_S (E := E_rarea2) (Hs := H_rarea2) Eok_rarea2 mixed' plain' (noHeap_of rfl) 8 ⟨_, _, Tryz.func70, rfl⟩ rfl fun x r h1 h2 => by
    let a0 := x
    rw [show Sh.encs s_rarea2 (a0) = [encV true yShape a0] from rfl, F_rarea2_eq]
    exact h a0 r h1 h2

theorem fn_rarea2 : PureFn Tryz.prog 70 g_rarea2 := of_rarea2 fun s r h hb => by
  cases h
  have is : ∀ {n : Int}, regA s = n → T.v (Value.int IntKind.i64 n) = T.v (Value.int IntKind.i64 (regA s)) := fun h => by rw [h]
  unfold F_rarea2
  refine callK_some (s := [(false, .int .i64)]) (g_rcheck_ok s) ?_
  refine ifQ (fun h => is (by unfold regA; rw [if_neg h])) fun h => ?_
  have h8 : s.2.length ≤ 8 := by
    refine Classical.byContradiction fun hc => ?_
    unfold regE at h
    rw [if_pos (by omega)] at h; cases h
  refine callK_some (s := [(false, .li (.li yPoint))]) (y := (s.1 :: s.2 : List (List TPoint))) ((g_rconts_at ..).trans (by unfold sp_rconts; rw [decide_eq_true (by omega)])) ?_
  have w : regA s = sumA (s.1 :: s.2) := by unfold regA; rw [if_pos h]
  have hlen : (s.1 :: s.2).length ≤ 9 := by simp; omega
  generalize s.1 :: s.2 = l at w hlen
  refine loopK_ix l.length (fun k t => t = (sumN k (fun i => area2 (l.getD i [])), (k : Int), ())) rfl ?_
  rintro X k t hk rfl hX
  dsimp only
  refine ifP (fun hlt => ?_) fun hge => is (by rw [List.length_map] at hge; rw [w, show k = l.length by omega]; rfl)
  rw [List.length_map] at hlt
  have hlt : k < l.length := by omega
  rw [rowsK_at (r := yPoint.li) hlt]
  have hg : l.getD k [] = l[k] := by rw [List.getD_eq_getElem?_getD, List.getElem?_eq_getElem hlt]; rfl
  refine callK_some (s := [(false, .int .i64)]) (g_parea2_ok l[k]) ?_
  refine hX _ hlt ?_
  have b1 := sumA_bd l k
  have b2 := area2_bd l[k]
  rw [show IntKind.i64.wrap ((k : Int) + 1) = ((k + 1 : Nat) : Int) from wrap_id _ (by omega) (by omega), wrap_id _ (by omega) (by omega), sumN, hg]
theorem g_rarea2_ok (s : TShape) : g_rarea2 [encV true yShape s] = some (Sh.enc [(false, .int .i64)] (regA s)) := g_rarea2_at ..
theorem regA_bd (s : TShape) : -618475290624 ≤ regA s ∧ regA s ≤ 618475290624 := by
  unfold regA
  by_cases h : regE s = 0
  · rw [if_pos h]
    have h8 : s.2.length ≤ 8 := by
      refine Classical.byContradiction fun hc => ?_
      unfold regE at h
      rw [if_pos (by omega)] at h; cases h
    have := sumA_bd (s.1 :: s.2) (s.1 :: s.2).length
    unfold sumA
    simp only [List.length_cons] at this ⊢
    omega
  · rw [if_neg h]; omega
end Go.Pv
set_option linter.unusedSimpArgs false
set_option linter.unusedVariables false
set_option maxRecDepth 100000
namespace Go.Pv
open Go Go.Proofs
set_option maxRecDepth 100000
noncomputable def E_vwithin : Env := Env.of []
def H_vwithin : FuncId → Hint := fun f => match f == 81 with | true => ⟨fun r => match r == 2 with | true => .unroll 4 | false => .none, fun _ _ => none, fun _ => none⟩ | false => noHint
theorem Eok_vwithin : EnvOk Tryz.prog E_vwithin := EnvOk.nil _
def F_vwithin (a0 : TVec) (a1 : Int) (R : T → Prop) : Prop :=
 iteP (decide (a0.fst < IntKind.i64.wrap (0 - a1))) (R (T.v (Value.bool false)))
 (iteP (decide (a1 < a0.fst)) (R (T.v (Value.bool false)))
 (iteP (decide (a0.snd.fst < IntKind.i64.wrap (0 - a1))) (R (T.v (Value.bool false)))
 (iteP (decide (a1 < a0.snd.fst)) (R (T.v (Value.bool false)))
 (iteP (decide (a0.snd.snd < IntKind.i64.wrap (0 - a1))) (R (T.v (Value.bool false)))
 (iteP (decide (a1 < a0.snd.snd)) (R (T.v (Value.bool false)))
 (R (T.v (Value.bool true))))))))
theorem F_vwithin_eq (a0 : TVec) (a1 : Int) (R : T → Prop) : sxTop stdC2 Tryz.prog E_vwithin H_vwithin 8 81 [encV true yVec a0, encV false (Sy.int IntKind.i64) a1] R = F_vwithin a0 a1 R := by kernel_rfl
abbrev s_vwithin : Sh := [(true, yVec), (false, (Sy.int IntKind.i64))]
abbrev r_vwithin : Sh := [(false, Sy.bool)]
theorem r_vwithin_call (y : Sh.den r_vwithin) (K : Sh.den r_vwithin → Prop) : callK r_vwithin (some (Sh.enc r_vwithin y)) K = K y := callK_enc rfl y K

def vecIn (v : TVec) : Bool := decide (-524288 ≤ v.1) && decide (v.1 ≤ 524288) && (decide (-524288 ≤ v.2.1) && decide (v.2.1 ≤ 524288)) && (decide (-524288 ≤ v.2.2) && decide (v.2.2 ≤ 524288))
def sp_vwithin (x : TVec × Int) : Option T := match decide (x.2 = 524288) with
  | true => some (T.v (Value.bool (vecIn x.1)))
  | false => none
noncomputable def g_vwithin : List T → Option (T) := gS s_vwithin sp_vwithin
theorem g_vwithin_at {a0 : TVec} {a1 : Int} : g_vwithin [encV true yVec a0, T.v (Value.int IntKind.i64 a1)] = sp_vwithin (a0, a1) := gS_enc (s := s_vwithin) rfl (a0, a1) rfl
theorem g_vwithin_op {u0 u1 u2 u3} : g_vwithin [T.agg
    [T.v (Value.int IntKind.i64 u0), T.v (Value.int IntKind.i64 u1),
      T.v (Value.int IntKind.i64 u2)],
  T.v (Value.int IntKind.i64 u3)] = sp_vwithin ((u0, (u1, u2)), u3) := gS_enc (s := s_vwithin) rfl ((u0, (u1, u2)), u3) rfl
theorem of_vwithin (h : ∀ (a0 : TVec) (a1 : Int) (r : T), sp_vwithin (a0, a1) = some r → BdSh s_vwithin (a0, a1) → F_vwithin a0 a1 (fun y => y = r)) : PureFn Tryz.prog 81 g_vwithin :=
  pureFn_S (E := E_vwithin) (Hs := H_vwithin) Eok_vwithin mixed' plain' (noHeap_of rfl) 8 ⟨_, _, Tryz.func81, rfl⟩ rfl fun x r h1 h2 => by
    obtain ⟨a0, a1⟩ := x
    rw [show Sh.encs s_vwithin (a0, a1) = [encV true yVec a0, encV false (Sy.int IntKind.i64) a1] from rfl, F_vwithin_eq]
    exact h a0 a1 r h1 h2

theorem fn_vwithin : PureFn Tryz.prog 81 g_vwithin := of_vwithin fun v n r h hb => by
  unfold sp_vwithin at h
  split at h
  · rename_i hn
    have hn : n = 524288 := of_decide_eq_true hn
    subst hn
    cases h
    unfold F_vwithin
    rw [show IntKind.i64.wrap (0 - 524288) = -524288 from rfl]
    have no : ∀ {P : Prop}, (¬ (-524288 ≤ v.1 ∧ v.1 ≤ 524288 ∧ -524288 ≤ v.2.1 ∧ v.2.1 ≤ 524288 ∧ -524288 ≤ v.2.2 ∧ v.2.2 ≤ 524288)) → T.v (Value.bool false) = T.v (Value.bool (vecIn v)) := fun h => bres (Eq.symm (by
      rw [Bool.eq_false_iff]; intro h2; simp only [vecIn, Bool.and_eq_true, decide_eq_true_eq] at h2; omega))
    refine ifP (fun h => no (P := True) (by omega)) fun h1 => ifP (fun h => no (P := True) (by omega)) fun h2 => ifP (fun h => no (P := True) (by omega)) fun h3 => ifP (fun h => no (P := True) (by omega)) fun h4 => ifP (fun h => no (P := True) (by omega)) fun h5 => ifP (fun h => no (P := True) (by omega)) fun h6 => bres ?_
    simp only [vecIn]
    rw [decide_eq_true (by omega), decide_eq_true (by omega), decide_eq_true (by omega), decide_eq_true (by omega), decide_eq_true (by omega), decide_eq_true (by omega)]; rfl
  · cases h
def numV (t : Int) : Int := if t < 0 ∨ 24 ≤ t then 0 else t
set_option maxRecDepth 100000
noncomputable def E_vnumber : Env := Env.of []
def H_vnumber : FuncId → Hint := fun _ => noHint
theorem Eok_vnumber : EnvOk Tryz.prog E_vnumber := EnvOk.nil _
def F_vnumber (a0 : Int) (R : T → Prop) : Prop :=
 iteP (decide (a0 < 0)) (R (T.v (Value.int IntKind.i64 0)))
 (iteP (decide (24 ≤ a0)) (R (T.v (Value.int IntKind.i64 0)))
 (R (T.v (Value.int IntKind.i64 a0))))
theorem F_vnumber_eq (a0 : Int) (R : T → Prop) : sxTop stdC2 Tryz.prog E_vnumber H_vnumber 8 82 [encV false (Sy.int IntKind.i64) a0] R = F_vnumber a0 R := by kernel_rfl
abbrev s_vnumber : Sh := [(false, (Sy.int IntKind.i64))]
abbrev r_vnumber : Sh := [(false, Sy.int IntKind.i64)]
theorem r_vnumber_call (y : Sh.den r_vnumber) (K : Sh.den r_vnumber → Prop) : callK r_vnumber (some (Sh.enc r_vnumber y)) K = K y := callK_enc rfl y K

def sp_vnumber (t : Int) : Option T := some (T.v (Value.int .i64 (numV t)))
noncomputable def g_vnumber : List T → Option (T) := gS s_vnumber sp_vnumber
theorem g_vnumber_at {a0 : Int} : g_vnumber [T.v (Value.int IntKind.i64 a0)] = sp_vnumber (a0) := gS_enc (s := s_vnumber) rfl (a0) rfl
theorem g_vnumber_op {u0} : g_vnumber [T.v (Value.int IntKind.i64 u0)] = sp_vnumber (u0) := gS_enc (s := s_vnumber) rfl (u0) rfl
theorem of_vnumber (h : ∀ (a0 : Int) (r : T), sp_vnumber (a0) = some r → BdSh s_vnumber (a0) → F_vnumber a0 (fun y => y = r)) : PureFn Tryz.prog 82 g_vnumber :=
  pureFn_S (E := E_vnumber) (Hs := H_vnumber) Eok_vnumber mixed' plain' (noHeap_of rfl) 8 ⟨_, _, Tryz.func82, rfl⟩ rfl fun x r h1 h2 => by
    let a0 := x
    rw [show Sh.encs s_vnumber (a0) = [encV false (Sy.int IntKind.i64) a0] from rfl, F_vnumber_eq]
    exact h a0 r h1 h2

theorem fn_vnumber : PureFn Tryz.prog 82 g_vnumber := of_vnumber fun t r h hb => by
  cases h
  unfold F_vnumber
  exact ifP (fun h => ires (by unfold numV; rw [if_pos (.inl h)])) fun h1 => ifP (fun h => ires (by unfold numV; rw [if_pos (.inr h)])) fun h2 => ires (by unfold numV; rw [if_neg (by omega)])
def placeB (p : TPlace) : Bool := vecIn p.1 && decide (p.2 = numV p.2)
set_option maxRecDepth 100000
noncomputable def E_vvalid : Env := Env.of [(81, .pure g_vwithin), (82, .pure g_vnumber)]
def H_vvalid : FuncId → Hint := fun _ => noHint
theorem Eok_vvalid : EnvOk Tryz.prog E_vvalid := EnvOk.cons (x := .pure g_vwithin) fn_vwithin (EnvOk.cons (x := .pure g_vnumber) fn_vnumber (EnvOk.nil _))
def F_vvalid (a0 : TPlace) (R : T → Prop) : Prop :=
 callK [(false, Sy.bool)]
 (g_vwithin [encV true yVec a0.fst, T.v (Value.int IntKind.i64 524288)])
 fun (y0 : Bool) =>
 iteP y0
 (callK [(false, Sy.int IntKind.i64)]
 (g_vnumber [T.v (Value.int IntKind.i64 a0.snd)]) fun (y1 : Int) =>
 R (T.v (Value.bool (decide (a0.snd = y1)))))
 (R (T.v (Value.bool false)))
theorem F_vvalid_eq (a0 : TPlace) (R : T → Prop) : sxTop stdC2 Tryz.prog E_vvalid H_vvalid 8 67 [encV true yPlace a0] R = F_vvalid a0 R := by kernel_rfl
abbrev s_vvalid : Sh := [(true, yPlace)]
abbrev r_vvalid : Sh := [(false, Sy.bool)]
theorem r_vvalid_call (y : Sh.den r_vvalid) (K : Sh.den r_vvalid → Prop) : callK r_vvalid (some (Sh.enc r_vvalid y)) K = K y := callK_enc rfl y K

def sp_vvalid (p : TPlace) : Option T := some (T.v (Value.bool (placeB p)))
noncomputable def g_vvalid : List T → Option (T) := gS s_vvalid sp_vvalid
theorem g_vvalid_at {a0 : TPlace} : g_vvalid [encV true yPlace a0] = sp_vvalid (a0) := gS_enc (s := s_vvalid) rfl (a0) rfl
theorem g_vvalid_op {u0 u1 u2 u3} : g_vvalid [T.agg
    [T.v (Value.int IntKind.i64 u0), T.v (Value.int IntKind.i64 u1),
      T.v (Value.int IntKind.i64 u2), T.v (Value.int IntKind.i64 u3)]] = sp_vvalid (((u0, (u1, u2)), u3)) := gS_enc (s := s_vvalid) rfl (((u0, (u1, u2)), u3)) rfl
theorem of_vvalid (h : ∀ (a0 : TPlace) (r : T), sp_vvalid (a0) = some r → BdSh s_vvalid (a0) → F_vvalid a0 (fun y => y = r)) : PureFn Tryz.prog 67 g_vvalid :=
  pureFn_S (E := E_vvalid) (Hs := H_vvalid) Eok_vvalid mixed' plain' (noHeap_of rfl) 8 ⟨_, _, Tryz.func67, rfl⟩ rfl fun x r h1 h2 => by
    let a0 := x
    rw [show Sh.encs s_vvalid (a0) = [encV true yPlace a0] from rfl, F_vvalid_eq]
    exact h a0 r h1 h2

theorem fn_vvalid : PureFn Tryz.prog 67 g_vvalid := of_vvalid fun p r h hb => by
  cases h
  unfold F_vvalid
  refine callK_some (s := [(false, .bool)]) (y := vecIn p.1) (g_vwithin_at ..) ?_
  refine ifB (fun h => ?_) fun h => bres (by unfold placeB; rw [h]; rfl)
  refine callK_some (s := [(false, .int .i64)]) (y := numV p.2) (g_vnumber_at ..) ?_
  exact bres (by unfold placeB; rw [h]; rfl)
/-! ### Catalogs -/
def gaugeI (l : List Int) (i : Nat) : Int := if ¬ (1 ≤ l.getD i 0 ∧ l.getD i 0 ≤ 120) then 9 else if 0 < i ∧ l.getD i 0 ≤ l.getD (i - 1) 0 then 11 else 0
def gradeE (g : TGrade) : Int := if isName g.1 = false then 6 else if ¬ (1000 ≤ g.2.1 ∧ g.2.1 ≤ 20000 ∧ 100 ≤ g.2.2.1 ∧ g.2.2.1 ≤ 1500) then 9 else if g.2.2.2.length = 0 then 3 else if 16 < g.2.2.2.length then 4 else firstE (gaugeI g.2.2.2) (List.range g.2.2.2.length)
def secE (s : TSection) : Int := if isName s.1 = false then 6 else if ¬ (1 ≤ s.2.1 ∧ s.2.1 ≤ 1000000 ∧ 1 ≤ s.2.2.1 ∧ s.2.2.1 ≤ 2000 ∧ 100 ≤ s.2.2.2 ∧ s.2.2.2 ≤ 32768) then 9 else 0
theorem isName_call (s : ByteArray) (K : Bool → Prop) : callK [(false, Sy.bool)] (g_isName [T.v (Value.string s)]) K = K (isName s) := by
  rw [show g_isName [T.v (Value.string s)] = sp_isName s from g_isName_at]
  exact r_isName_call _ K
set_option maxRecDepth 100000
noncomputable def E_mgrade : Env := Env.of [(9, .pure g_isName)]
def H_mgrade : FuncId → Hint := fun f => match f == 26 with | true => ⟨fun r => match r == 10 with | true => .inv [.val 34 false (.int .i64)] | false => .none, fun _ _ => none, fun _ => none⟩ | false => noHint
theorem Eok_mgrade : EnvOk Tryz.prog E_mgrade := EnvOk.cons (x := .pure g_isName) fn_isName (EnvOk.nil _)
def F_mgrade (a0 : TGrade) (R : T → Prop) : Prop :=
 callK [(false, Sy.bool)] (g_isName [T.v (Value.string a0.fst)]) fun (y0 : Bool) =>
 iteP (!y0) (R (T.v (Value.int IntKind.i64 6)))
 (iteP (decide (1000 ≤ a0.snd.fst))
 (iteP (!decide (a0.snd.fst ≤ 20000)) (R (T.v (Value.int IntKind.i64 9)))
 (iteP (decide (100 ≤ a0.snd.snd.fst))
 (iteP (!decide (a0.snd.snd.fst ≤ 1500)) (R (T.v (Value.int IntKind.i64 9)))
 (iteP (decide ((↑(List.map (Sy.int IntKind.i64).enc a0.snd.snd.snd).length : Int) = 0))
 (R (T.v (Value.int IntKind.i64 3)))
 (iteP (decide (16 < (↑(List.map (Sy.int IntKind.i64).enc a0.snd.snd.snd).length : Int)))
 (R (T.v (Value.int IntKind.i64 4)))
 (loopK (Int × PUnit)
 (fun (X1 : Int × PUnit → Prop) (s2 : Int × PUnit) =>
 iteP
 (decide (s2.fst < (↑(List.map (Sy.int IntKind.i64).enc a0.snd.snd.snd).length : Int)))
 (rowsK (Sy.int IntKind.i64)
 (List.map (Sy.int IntKind.i64).enc a0.snd.snd.snd) s2.fst fun (y3 : Int) =>
 iteP (decide (1 ≤ y3))
 (iteP (!decide (y3 ≤ 120)) (R (T.v (Value.int IntKind.i64 9)))
 (iteP (decide (0 < s2.fst))
 (rowsK (Sy.int IntKind.i64)
 (List.map (Sy.int IntKind.i64).enc a0.snd.snd.snd)
 (IntKind.i64.wrap (s2.fst - 1)) fun (y4 : Int) =>
 iteP (decide (y3 ≤ y4)) (R (T.v (Value.int IntKind.i64 11)))
 (X1 (IntKind.i64.wrap (s2.fst + 1), ())))
 (X1 (IntKind.i64.wrap (s2.fst + 1), ()))))
 (R (T.v (Value.int IntKind.i64 9))))
 (R (T.v (Value.int IntKind.i64 0))))
 (0, ())))))
 (R (T.v (Value.int IntKind.i64 9)))))
 (R (T.v (Value.int IntKind.i64 9))))
theorem F_mgrade_eq (a0 : TGrade) (R : T → Prop) : sxTop stdC2 Tryz.prog E_mgrade H_mgrade 8 26 [encV true yGrade a0] R = F_mgrade a0 R := by kernel_rfl
abbrev s_mgrade : Sh := [(true, yGrade)]
abbrev r_mgrade : Sh := [(false, Sy.int IntKind.i64)]
theorem r_mgrade_call (y : Sh.den r_mgrade) (K : Sh.den r_mgrade → Prop) : callK r_mgrade (some (Sh.enc r_mgrade y)) K = K y := callK_enc rfl y K

def sp_mgrade (g : TGrade) : Option T := some (T.v (Value.int .i64 (gradeE g)))
noncomputable def g_mgrade : List T → Option (T) := gS s_mgrade sp_mgrade
theorem g_mgrade_at {a0 : TGrade} : g_mgrade [encV true yGrade a0] = sp_mgrade (a0) := gS_enc (s := s_mgrade) rfl (a0) rfl
theorem g_mgrade_op {u0 u1 u2 u3} : g_mgrade [T.agg
    [T.v (Value.string u0), T.v (Value.int IntKind.i64 u1),
      T.v (Value.int IntKind.i64 u2),
      T.sl false (List.map (Sy.int IntKind.i64).enc u3)]] = sp_mgrade ((u0, (u1, (u2, u3)))) := gS_enc (s := s_mgrade) rfl ((u0, (u1, (u2, u3)))) rfl
theorem of_mgrade (h : ∀ (a0 : TGrade) (r : T), sp_mgrade (a0) = some r → BdSh s_mgrade (a0) → F_mgrade a0 (fun y => y = r)) : PureFn Tryz.prog 26 g_mgrade :=
  pureFn_S (E := E_mgrade) (Hs := H_mgrade) Eok_mgrade mixed' plain' (noHeap_of rfl) 8 ⟨_, _, Tryz.func26, rfl⟩ rfl fun x r h1 h2 => by
    let a0 := x
    rw [show Sh.encs s_mgrade (a0) = [encV true yGrade a0] from rfl, F_mgrade_eq]
    exact h a0 r h1 h2

theorem getD_at {α : Type} {l : List α} {i : Nat} {d : α} (h : i < l.length) : l.getD i d = l[i] := by rw [List.getD_eq_getElem?_getD, List.getElem?_eq_getElem h]; rfl
theorem prev_at {r : Sy} {l : List r.den} {k : Nat} (hk : k < l.length) (h0 : 0 < k) (hl : l.length ≤ 1000000) (K : r.den → Prop) : rowsK r (List.map r.enc l) (IntKind.i64.wrap ((k : Int) - 1)) K = K (l[k - 1]'(by omega)) := by
  rw [show IntKind.i64.wrap ((k : Int) - 1) = ((k - 1 : Nat) : Int) by rw [wrap_id _ (by omega) (by omega)]; omega]
  exact rowsK_at (by omega) K
theorem next_w {k : Nat} (h : k < 1000000) : IntKind.i64.wrap ((k : Int) + 1) = ((k + 1 : Nat) : Int) := wrap_id _ (by omega) (by omega)
theorem fn_mgrade : PureFn Tryz.prog 26 g_mgrade := of_mgrade fun g r h hb => by
  cases h
  have is : ∀ {n : Int}, gradeE g = n → T.v (Value.int IntKind.i64 n) = T.v (Value.int IntKind.i64 (gradeE g)) := fun h => by rw [h]
  unfold F_mgrade
  rw [isName_call]
  refine ifNB (fun h => is (by unfold gradeE; rw [if_pos h])) fun hn => ?_
  have hn' : ¬ isName g.1 = false := by rw [hn]; simp
  have r9 : ¬ (1000 ≤ g.2.1 ∧ g.2.1 ≤ 20000 ∧ 100 ≤ g.2.2.1 ∧ g.2.2.1 ≤ 1500) → T.v (Value.int IntKind.i64 9) = T.v (Value.int IntKind.i64 (gradeE g)) := fun h => is (by unfold gradeE; rw [if_neg hn', if_pos h])
  refine ifP (fun h1 => ifQ (fun h => r9 (by omega)) fun h2 => ifP (fun h3 => ifQ (fun h => r9 (by omega)) fun h4 => ?_) fun h => r9 (by omega)) fun h => r9 (by omega)
  have hr : ¬ ¬ (1000 ≤ g.2.1 ∧ g.2.1 ≤ 20000 ∧ 100 ≤ g.2.2.1 ∧ g.2.2.1 ≤ 1500) := by omega
  refine ifP (fun h => is (by rw [List.length_map] at h; unfold gradeE; rw [if_neg hn', if_neg hr, if_pos (by omega)])) fun h5 => ?_
  refine ifP (fun h => is (by rw [List.length_map] at h h5; unfold gradeE; rw [if_neg hn', if_neg hr, if_neg (by omega), if_pos (by omega)])) fun h6 => ?_
  rw [List.length_map] at h5 h6
  have w : gradeE g = firstE (gaugeI g.2.2.2) (List.range g.2.2.2.length) := by unfold gradeE; rw [if_neg hn', if_neg hr, if_neg (by omega), if_neg (by omega)]
  refine first_loopI (r := .int .i64) (gaugeI g.2.2.2) (by omega) (fun X k hk hprev hok hbad => ?_) fun h0 => is (w.trans h0)
  have hk : k < g.2.2.2.length := hk
  have bad : ∀ {n : Int}, n ≠ 0 → gaugeI g.2.2.2 k = n → T.v (Value.int IntKind.i64 n) = T.v (Value.int IntKind.i64 (gradeE g)) := fun hn h => is (w.trans ((hbad (by rw [h]; exact hn)).trans h))
  have hE : gaugeI g.2.2.2 k = if ¬ (1 ≤ g.2.2.2[k] ∧ g.2.2.2[k] ≤ 120) then 9 else if 0 < k ∧ g.2.2.2[k] ≤ g.2.2.2.getD (k - 1) 0 then 11 else 0 := by unfold gaugeI; rw [getD_at hk]
  dsimp only
  rw [next_w (by omega)]
  refine ifP (fun p1 => ifQ (fun h => bad (by decide) (by rw [hE, if_pos (by omega)])) fun p2 => ?_) fun h => bad (by decide) (by rw [hE, if_pos (by omega)])
  refine ifP (fun p3 => ?_) fun p3 => hok (by rw [hE, if_neg (by omega), if_neg (by omega)])
  have k0 : 0 < k := by omega
  rw [prev_at (r := .int .i64) hk k0 (by omega)]
  have hg1 : g.2.2.2.getD (k - 1) 0 = g.2.2.2[k - 1]'(by omega) := getD_at (by omega)
  exact ifP (fun h => bad (by decide) (by rw [hE, if_neg (by omega), hg1, if_pos ⟨k0, h⟩])) fun h => hok (by rw [hE, if_neg (by omega), hg1, if_neg (fun hc => h hc.2)])
set_option maxRecDepth 100000
noncomputable def E_msection : Env := Env.of [(9, .pure g_isName)]
def H_msection : FuncId → Hint := fun _ => noHint
theorem Eok_msection : EnvOk Tryz.prog E_msection := EnvOk.cons (x := .pure g_isName) fn_isName (EnvOk.nil _)
def F_msection (a0 : TSection) (R : T → Prop) : Prop :=
 callK [(false, Sy.bool)] (g_isName [T.v (Value.string a0.fst)]) fun (y0 : Bool) =>
 iteP (!y0) (R (T.v (Value.int IntKind.i64 6)))
 (iteP (decide (1 ≤ a0.snd.fst))
 (iteP (!decide (a0.snd.fst ≤ 1000000)) (R (T.v (Value.int IntKind.i64 9)))
 (iteP (decide (1 ≤ a0.snd.snd.fst))
 (iteP (!decide (a0.snd.snd.fst ≤ 2000)) (R (T.v (Value.int IntKind.i64 9)))
 (iteP (decide (100 ≤ a0.snd.snd.snd))
 (iteP (!decide (a0.snd.snd.snd ≤ 32768)) (R (T.v (Value.int IntKind.i64 9)))
 (R (T.v (Value.int IntKind.i64 0))))
 (R (T.v (Value.int IntKind.i64 9)))))
 (R (T.v (Value.int IntKind.i64 9)))))
 (R (T.v (Value.int IntKind.i64 9))))
theorem F_msection_eq (a0 : TSection) (R : T → Prop) : sxTop stdC2 Tryz.prog E_msection H_msection 8 27 [encV true ySection a0] R = F_msection a0 R := by kernel_rfl
abbrev s_msection : Sh := [(true, ySection)]
abbrev r_msection : Sh := [(false, Sy.int IntKind.i64)]
theorem r_msection_call (y : Sh.den r_msection) (K : Sh.den r_msection → Prop) : callK r_msection (some (Sh.enc r_msection y)) K = K y := callK_enc rfl y K

def sp_msection (s : TSection) : Option T := some (T.v (Value.int .i64 (secE s)))
noncomputable def g_msection : List T → Option (T) := gS s_msection sp_msection
theorem g_msection_at {a0 : TSection} : g_msection [encV true ySection a0] = sp_msection (a0) := gS_enc (s := s_msection) rfl (a0) rfl
theorem g_msection_op {u0 u1 u2 u3} : g_msection [T.agg
    [T.v (Value.string u0), T.v (Value.int IntKind.i64 u1),
      T.v (Value.int IntKind.i64 u2), T.v (Value.int IntKind.i64 u3)]] = sp_msection ((u0, (u1, (u2, u3)))) := gS_enc (s := s_msection) rfl ((u0, (u1, (u2, u3)))) rfl
theorem of_msection (h : ∀ (a0 : TSection) (r : T), sp_msection (a0) = some r → BdSh s_msection (a0) → F_msection a0 (fun y => y = r)) : PureFn Tryz.prog 27 g_msection :=
  pureFn_S (E := E_msection) (Hs := H_msection) Eok_msection mixed' plain' (noHeap_of rfl) 8 ⟨_, _, Tryz.func27, rfl⟩ rfl fun x r h1 h2 => by
    let a0 := x
    rw [show Sh.encs s_msection (a0) = [encV true ySection a0] from rfl, F_msection_eq]
    exact h a0 r h1 h2

theorem fn_msection : PureFn Tryz.prog 27 g_msection := of_msection fun s r h hb => by
  cases h
  have is : ∀ {n : Int}, secE s = n → T.v (Value.int IntKind.i64 n) = T.v (Value.int IntKind.i64 (secE s)) := fun h => by rw [h]
  unfold F_msection
  rw [isName_call]
  refine ifNB (fun h => is (by unfold secE; rw [if_pos h])) fun hn => ?_
  have hn' : ¬ isName s.1 = false := by rw [hn]; simp
  have r9 : ¬ (1 ≤ s.2.1 ∧ s.2.1 ≤ 1000000 ∧ 1 ≤ s.2.2.1 ∧ s.2.2.1 ≤ 2000 ∧ 100 ≤ s.2.2.2 ∧ s.2.2.2 ≤ 32768) → T.v (Value.int IntKind.i64 9) = T.v (Value.int IntKind.i64 (secE s)) := fun h => is (by unfold secE; rw [if_neg hn', if_pos h])
  refine ifP (fun h1 => ifQ (fun h => r9 (by omega)) fun h2 => ifP (fun h3 => ifQ (fun h => r9 (by omega)) fun h4 => ifP (fun h5 => ifQ (fun h => r9 (by omega)) fun h6 => is ?_) fun h => r9 (by omega)) fun h => r9 (by omega)) fun h => r9 (by omega)
  unfold secE; rw [if_neg hn', if_neg (by omega)]
def noGrade : TGrade := (⟨#[]⟩, 0, 0, [])
/-- Is a name not behind another one? -/
def notUp (a b : ByteArray) : Bool := sless a b || decide (a = b)
def gradeI (m : TMaterials) (i : Nat) : Int := if ¬ gradeE (m.1.getD i noGrade) = 0 then gradeE (m.1.getD i noGrade) else if 0 < i ∧ notUp (m.1.getD i noGrade).1 (m.1.getD (i - 1) noGrade).1 = true then 11 else 0
def secI (m : TMaterials) (i : Nat) : Int := if ¬ secE (m.2.getD i noSec) = 0 then secE (m.2.getD i noSec) else if 0 < i ∧ notUp (m.2.getD i noSec).1 (m.2.getD (i - 1) noSec).1 = true then 11 else 0
def matE (m : TMaterials) : Int := if 16 < m.1.length ∨ 32 < m.2.length then 4 else if ¬ firstE (gradeI m) (List.range m.1.length) = 0 then firstE (gradeI m) (List.range m.1.length) else firstE (secI m) (List.range m.2.length)
set_option maxRecDepth 100000
noncomputable def E_mcheck : Env := Env.of [(26, .pure g_mgrade), (27, .pure g_msection)]
def H_mcheck : FuncId → Hint := fun f => match f == 8 with | true => ⟨fun r => match r == 4 with | true => .inv [.val 22 false (.int .i64)] | false => match r == 13 with | true => .inv [.val 50 false (.int .i64)] | false => .none, fun _ _ => none, fun _ => none⟩ | false => noHint
theorem Eok_mcheck : EnvOk Tryz.prog E_mcheck := EnvOk.cons (x := .pure g_mgrade) fn_mgrade (EnvOk.cons (x := .pure g_msection) fn_msection (EnvOk.nil _))
def F_mcheck (a0 : TMaterials) (R : T → Prop) : Prop :=
 iteP (decide (16 < (↑(List.map yGrade.enc a0.fst).length : Int)))
 (R (T.v (Value.int IntKind.i64 4)))
 (iteP (decide (32 < (↑(List.map ySection.enc a0.snd).length : Int)))
 (R (T.v (Value.int IntKind.i64 4)))
 (loopK (Int × PUnit)
 (fun (X0 : Int × PUnit → Prop) (s1 : Int × PUnit) =>
 iteP (decide (s1.fst < (↑(List.map yGrade.enc a0.fst).length : Int)))
 (rowsK yGrade (List.map yGrade.enc a0.fst) s1.fst fun (y2 : TGrade) =>
 callK [(false, Sy.int IntKind.i64)] (g_mgrade [encV true yGrade y2])
 fun (y3 : Int) =>
 iteP (!decide (y3 = 0)) (R (T.v (Value.int IntKind.i64 y3)))
 (iteP (decide (0 < s1.fst))
 (rowsK yGrade (List.map yGrade.enc a0.fst) (IntKind.i64.wrap (s1.fst - 1))
 fun (y4 : TGrade) =>
 iteP (sless y2.fst y4.fst || decide (y2.fst = y4.fst))
 (R (T.v (Value.int IntKind.i64 11))) (X0 (IntKind.i64.wrap (s1.fst + 1), ())))
 (X0 (IntKind.i64.wrap (s1.fst + 1), ()))))
 (loopK (Int × PUnit)
 (fun (X5 : Int × PUnit → Prop) (s6 : Int × PUnit) =>
 iteP (decide (s6.fst < (↑(List.map ySection.enc a0.snd).length : Int)))
 (rowsK ySection (List.map ySection.enc a0.snd) s6.fst fun (y7 : TSection) =>
 callK [(false, Sy.int IntKind.i64)]
 (g_msection [encV true ySection y7]) fun (y8 : Int) =>
 iteP (!decide (y8 = 0)) (R (T.v (Value.int IntKind.i64 y8)))
 (iteP (decide (0 < s6.fst))
 (rowsK ySection (List.map ySection.enc a0.snd)
 (IntKind.i64.wrap (s6.fst - 1)) fun (y9 : TSection) =>
 iteP (sless y7.fst y9.fst || decide (y7.fst = y9.fst))
 (R (T.v (Value.int IntKind.i64 11)))
 (X5 (IntKind.i64.wrap (s6.fst + 1), ())))
 (X5 (IntKind.i64.wrap (s6.fst + 1), ()))))
 (R (T.v (Value.int IntKind.i64 0))))
 (0, ())))
 (0, ())))
theorem F_mcheck_eq (a0 : TMaterials) (R : T → Prop) : sxTop stdC2 Tryz.prog E_mcheck H_mcheck 8 8 [encV true yMaterials a0] R = F_mcheck a0 R := by kernel_rfl
abbrev s_mcheck : Sh := [(true, yMaterials)]
abbrev r_mcheck : Sh := [(false, Sy.int IntKind.i64)]
theorem r_mcheck_call (y : Sh.den r_mcheck) (K : Sh.den r_mcheck → Prop) : callK r_mcheck (some (Sh.enc r_mcheck y)) K = K y := callK_enc rfl y K

def sp_mcheck (m : TMaterials) : Option T := some (T.v (Value.int .i64 (matE m)))
noncomputable def g_mcheck : List T → Option (T) := gS s_mcheck sp_mcheck
theorem g_mcheck_at {a0 : TMaterials} : g_mcheck [encV true yMaterials a0] = sp_mcheck (a0) := gS_enc (s := s_mcheck) rfl (a0) rfl
theorem g_mcheck_op {u0 u1} : g_mcheck [T.agg [T.sl false (List.map yGrade.enc u0), T.sl false (List.map ySection.enc u1)]] = sp_mcheck ((u0, u1)) := gS_enc (s := s_mcheck) rfl ((u0, u1)) rfl
theorem of_mcheck (h : ∀ (a0 : TMaterials) (r : T), sp_mcheck (a0) = some r → BdSh s_mcheck (a0) → F_mcheck a0 (fun y => y = r)) : PureFn Tryz.prog 8 g_mcheck :=
  pureFn_S (E := E_mcheck) (Hs := H_mcheck) Eok_mcheck mixed' plain' (noHeap_of rfl) 8 ⟨_, _, Tryz.func8, rfl⟩ rfl fun x r h1 h2 => by
    let a0 := x
    rw [show Sh.encs s_mcheck (a0) = [encV true yMaterials a0] from rfl, F_mcheck_eq]
    exact h a0 r h1 h2

theorem fn_mcheck : PureFn Tryz.prog 8 g_mcheck := of_mcheck fun m r h hb => by
  cases h
  have is : ∀ {n : Int}, matE m = n → T.v (Value.int IntKind.i64 n) = T.v (Value.int IntKind.i64 (matE m)) := fun h => by rw [h]
  unfold F_mcheck
  refine ifP (fun h => is (by rw [List.length_map] at h; unfold matE; rw [if_pos (by omega)])) fun h1 => ?_
  refine ifP (fun h => is (by rw [List.length_map] at h; unfold matE; rw [if_pos (by omega)])) fun h2 => ?_
  rw [List.length_map] at h1 h2
  refine first_loopI (r := yGrade) (gradeI m) (by show m.1.length ≤ 1000000; omega) (fun X k hk hprev hok hbad => ?_) fun h0 => ?_
  · have hk : k < m.1.length := hk
    have bad : ∀ {n : Int}, n ≠ 0 → gradeI m k = n → T.v (Value.int IntKind.i64 n) = T.v (Value.int IntKind.i64 (matE m)) := fun hn h => is (by
      have hb := (hbad (by rw [h]; exact hn)).trans h
      unfold matE; rw [if_neg (by omega), if_pos (by rw [hb]; exact hn), hb])
    have hE : gradeI m k = if ¬ gradeE m.1[k] = 0 then gradeE m.1[k] else if 0 < k ∧ notUp m.1[k].1 (m.1.getD (k - 1) noGrade).1 = true then 11 else 0 := by unfold gradeI; rw [getD_at hk]
    dsimp only
    rw [next_w (by omega)]
    refine callK_some (s := [(false, .int .i64)]) (y := gradeE m.1[k]) (g_mgrade_at ..) ?_
    refine ifQ (fun h => bad h (by rw [hE, if_pos h])) fun p1 => ?_
    refine ifP (fun p3 => ?_) fun p3 => hok (by rw [hE, if_neg (fun h => h p1), if_neg (by omega)])
    have k0 : 0 < k := by omega
    rw [prev_at (r := yGrade) hk k0 (by show m.1.length ≤ 1000000; omega)]
    have hg1 : m.1.getD (k - 1) noGrade = m.1[k - 1]'(by omega) := getD_at (by omega)
    exact ifB (fun h => bad (by decide) (by rw [hE, if_neg (fun h => h p1), hg1, if_pos ⟨k0, h⟩])) fun h => hok (by rw [hE, if_neg (fun h => h p1), hg1, if_neg (fun hc => by rw [show notUp m.1[k].1 (m.1[k - 1]'(by omega)).1 = false from h] at hc; cases hc.2)])
  · have w : matE m = firstE (secI m) (List.range m.2.length) := by unfold matE; rw [if_neg (by omega), if_neg (fun h => h h0)]
    refine first_loopI (r := ySection) (secI m) (by show m.2.length ≤ 1000000; omega) (fun X k hk hprev hok hbad => ?_) fun h0 => is (w.trans h0)
    have hk : k < m.2.length := hk
    have bad : ∀ {n : Int}, n ≠ 0 → secI m k = n → T.v (Value.int IntKind.i64 n) = T.v (Value.int IntKind.i64 (matE m)) := fun hn h => is (w.trans ((hbad (by rw [h]; exact hn)).trans h))
    have hE : secI m k = if ¬ secE m.2[k] = 0 then secE m.2[k] else if 0 < k ∧ notUp m.2[k].1 (m.2.getD (k - 1) noSec).1 = true then 11 else 0 := by unfold secI; rw [getD_at hk]
    dsimp only
    rw [next_w (by omega)]
    refine callK_some (s := [(false, .int .i64)]) (y := secE m.2[k]) (g_msection_at ..) ?_
    refine ifQ (fun h => bad h (by rw [hE, if_pos h])) fun p1 => ?_
    refine ifP (fun p3 => ?_) fun p3 => hok (by rw [hE, if_neg (fun h => h p1), if_neg (by omega)])
    have k0 : 0 < k := by omega
    rw [prev_at (r := ySection) hk k0 (by show m.2.length ≤ 1000000; omega)]
    have hg1 : m.2.getD (k - 1) noSec = m.2[k - 1]'(by omega) := getD_at (by omega)
    exact ifB (fun h => bad (by decide) (by rw [hE, if_neg (fun h => h p1), hg1, if_pos ⟨k0, h⟩])) fun h => hok (by rw [hE, if_neg (fun h => h p1), hg1, if_neg (fun hc => by rw [show notUp m.2[k].1 (m.2[k - 1]'(by omega)).1 = false from h] at hc; cases hc.2)])
/-! ### Grade, Rolled -/
def gradeOf (m : TMaterials) (n : ByteArray) : Option TGrade := m.1.find? fun g => decide (g.1 = n)
def okM (m : TMaterials) : Bool := decide (m.1.length ≤ 1000) && decide (m.2.length ≤ 1000) && m.1.all fun g => decide (g.2.2.2.length ≤ 1000)
def onlyM {α : Type} (m : TMaterials) (r : α) : Option α := match okM m with
  | true => some r
  | false => none
theorem onlyM_of {α : Type} {m : TMaterials} {t r : α} (h : onlyM m t = some r) : okM m = true ∧ r = t := by
  unfold onlyM at h; split at h
  · rename_i hc; cases h; exact ⟨hc, rfl⟩
  · cases h
theorem onlyM_ok {α : Type} {m : TMaterials} (t : α) (h : okM m = true) : onlyM m t = some t := by unfold onlyM; rw [h]
theorem cl_cloneI : CloneP Tryz.prog 85 1 8 := ⟨fun R => by kernel_rfl, fun fl R => by kernel_rfl, fun fl a rows R => by kernel_rfl⟩
noncomputable def g_cloneI : List T → Option T := gS [(false, .li (.int .i64))] (spCloneP (.int .i64) 8)
theorem g_cloneI_at {u0} : g_cloneI [T.sl false (List.map (Sy.enc (.int .i64)) u0)] = spCloneP (.int .i64) 8 u0 := gS_enc (s := [(false, .li (.int .i64))]) rfl u0 rfl
theorem fn_cloneI : PureFn Tryz.prog 85 g_cloneI := cloneP_of mixed' plain' ⟨_, _, Tryz.func85, rfl⟩ cl_cloneI

set_option maxRecDepth 100000
noncomputable def E_mGrade : Env := Env.of [(85, .pure g_cloneI)]
def H_mGrade : FuncId → Hint := fun f => match f == 83 with | true => ⟨fun r => match r == 2 with | true => .inv [.val 8 false (.int .i64)] | false => .none, fun _ _ => none, fun _ => none⟩ | false => noHint
theorem Eok_mGrade : EnvOk Tryz.prog E_mGrade := EnvOk.cons (x := .pure g_cloneI) fn_cloneI (EnvOk.nil _)
def F_mGrade (a0 : TMaterials) (a1 : ByteArray) (R : T → Prop) : Prop :=
 loopK (Int × PUnit)
 (fun (X0 : Int × PUnit → Prop) (s1 : Int × PUnit) =>
 iteP (decide (s1.fst < (↑(List.map yGrade.enc a0.fst).length : Int)))
 (rowsK yGrade (List.map yGrade.enc a0.fst) s1.fst fun (y2 : TGrade) =>
 iteP (decide (y2.fst = a1))
 (iteP (decide (s1.fst < 0))
 (R
 (T.tup
 [T.agg
 [T.v (Value.string { data := #[] }), T.v (Value.int IntKind.i64 0),
 T.v (Value.int IntKind.i64 0), T.sl false []],
 T.v (Value.bool false)]))
 (rowsK yGrade (List.map yGrade.enc a0.fst) s1.fst fun (y3 : TGrade) =>
 callK [(false, (Sy.int IntKind.i64).li)]
 (g_cloneI [T.sl false (List.map (Sy.int IntKind.i64).enc y3.snd.snd.snd)])
 fun (y4 : List Int) =>
 R
 (T.tup
 [T.agg
 [T.v (Value.string y3.fst), T.v (Value.int IntKind.i64 y3.snd.fst),
 T.v (Value.int IntKind.i64 y3.snd.snd.fst),
 T.sl false (List.map (Sy.int IntKind.i64).enc y4)],
 T.v (Value.bool true)])))
 (X0 (IntKind.i64.wrap (s1.fst + 1), ())))
 (R
 (T.tup
 [T.agg
 [T.v (Value.string { data := #[] }), T.v (Value.int IntKind.i64 0),
 T.v (Value.int IntKind.i64 0), T.sl false []],
 T.v (Value.bool false)])))
 (0, ())
theorem F_mGrade_eq (a0 : TMaterials) (a1 : ByteArray) (R : T → Prop) : sxTop stdC2 Tryz.prog E_mGrade H_mGrade 8 68 [encV true yMaterials a0, encV false Sy.str a1] R = F_mGrade a0 a1 R := by kernel_rfl
abbrev s_mGrade : Sh := [(true, yMaterials), (false, Sy.str)]
abbrev r_mGrade : Sh := [(true, yGrade), (false, Sy.bool)]
theorem r_mGrade_call (y : Sh.den r_mGrade) (K : Sh.den r_mGrade → Prop) : callK r_mGrade (some (Sh.enc r_mGrade y)) K = K y := callK_enc rfl y K

def sp_mGrade (x : TMaterials × ByteArray) : Option T := onlyM x.1 (Sh.enc [(true, yGrade), (false, .bool)] (found noGrade (gradeOf x.1 x.2)))
noncomputable def g_mGrade : List T → Option (T) := gS s_mGrade sp_mGrade
theorem g_mGrade_at {a0 : TMaterials} {a1 : ByteArray} : g_mGrade [encV true yMaterials a0, T.v (Value.string a1)] = sp_mGrade (a0, a1) := gS_enc (s := s_mGrade) rfl (a0, a1) rfl
theorem g_mGrade_op {u0 u1 u2} : g_mGrade [T.agg [T.sl false (List.map yGrade.enc u0), T.sl false (List.map ySection.enc u1)],
  T.v (Value.string u2)] = sp_mGrade ((u0, u1), u2) := gS_enc (s := s_mGrade) rfl ((u0, u1), u2) rfl
theorem of_mGrade (h : ∀ (a0 : TMaterials) (a1 : ByteArray) (r : T), sp_mGrade (a0, a1) = some r → BdSh s_mGrade (a0, a1) → F_mGrade a0 a1 (fun y => y = r)) : PureFn Tryz.prog 68 g_mGrade :=
  pureFn_S (E := E_mGrade) (Hs := H_mGrade) Eok_mGrade mixed' plain' (noHeap_of rfl) 8 ⟨_, _, Tryz.func68, rfl⟩ rfl fun x r h1 h2 => by
    obtain ⟨a0, a1⟩ := x
    rw [show Sh.encs s_mGrade (a0, a1) = [encV true yMaterials a0, encV false Sy.str a1] from rfl, F_mGrade_eq]
    exact h a0 a1 r h1 h2

theorem fn_mGrade : PureFn Tryz.prog 68 g_mGrade := of_mGrade fun m n r h hb => by
  obtain ⟨hok, rfl⟩ := onlyM_of h
  clear h
  simp only [okM, Bool.and_eq_true, decide_eq_true_eq] at hok
  unfold F_mGrade
  refine loopK_ix m.1.length (fun k s => s = ((k : Int), ()) ∧ (m.1.drop k).find? (fun s => decide (s.1 = n)) = gradeOf m n) ⟨rfl, rfl⟩ ?_
  rintro X k s hk ⟨rfl, hf⟩ hX
  dsimp only
  refine ifP (fun hlt => ?_) fun hge => ?_
  · rw [List.length_map] at hlt
    have hlt : k < m.1.length := by omega
    rw [find_drop hlt] at hf
    rw [rowsK_at (r := yGrade) hlt]
    refine ifP (fun hc => ?_) fun hc => ?_
    · rw [if_pos (decide_eq_true hc)] at hf
      refine ifP (fun h => by omega) fun _ => ?_
      rw [rowsK_at (r := yGrade) hlt]
      have hg : m.1[k].2.2.2.length ≤ 1000 := by
        have := List.all_eq_true.1 hok.2 _ (List.getElem_mem hlt)
        exact of_decide_eq_true this
      refine callK_some (s := [(false, .li (.int .i64))]) (y := m.1[k].2.2.2) ?_ ?_
      · rw [g_cloneI_at]
        unfold spCloneP spClone
        rw [show (decide (m.1[k].2.2.2.length * 8 ≤ 140737488355328) && decide (m.1[k].2.2.2.length ≤ 140737488355328)) = true by simp only [Bool.and_eq_true, decide_eq_true_eq]; omega]
        rfl
      · show _ = Sh.enc [(true, yGrade), (false, .bool)] (found noGrade (gradeOf m n))
        rw [← hf]; rfl
    · rw [if_neg (by simpa using hc)] at hf
      exact hX _ hlt ⟨by rw [next_w (by omega)], hf⟩
  · rw [List.length_map] at hge
    have : k = m.1.length := by omega
    subst this
    rw [List.drop_length] at hf
    show _ = Sh.enc [(true, yGrade), (false, .bool)] (found noGrade (gradeOf m n))
    rw [← hf]; rfl
def rolledB (m : TMaterials) (n : ByteArray) (t : Int) : Bool := match gradeOf m n with
  | some g => g.2.2.2.any fun x => decide (t = x)
  | none => false
set_option maxRecDepth 100000
noncomputable def E_mrolled : Env := Env.of [(68, .pure g_mGrade)]
def H_mrolled : FuncId → Hint := fun f => match f == 105 with | true => ⟨fun r => match r == 2 with | true => .inv [.val 8 false (.int .i64)] | false => .none, fun _ _ => none, fun _ => none⟩ | false => noHint
theorem Eok_mrolled : EnvOk Tryz.prog E_mrolled := EnvOk.cons (x := .pure g_mGrade) fn_mGrade (EnvOk.nil _)
def F_mrolled (a0 : TMaterials) (a1 : ByteArray) (a2 : Int) (R : T → Prop) : Prop :=
 callK [(true, yGrade), (false, Sy.bool)]
 (g_mGrade [encV true yMaterials a0, T.v (Value.string a1)])
 fun (y0 : TGrade × Bool) =>
 iteP y0.snd
 (loopK (Int × PUnit)
 (fun (X1 : Int × PUnit → Prop) (s2 : Int × PUnit) =>
 iteP (decide (s2.fst < (↑(List.map (Sy.int IntKind.i64).enc y0.fst.snd.snd.snd).length : Int)))
 (rowsK (Sy.int IntKind.i64) (List.map (Sy.int IntKind.i64).enc y0.fst.snd.snd.snd)
 s2.fst fun (y3 : Int) =>
 iteP (decide (a2 = y3)) (R (T.v (Value.bool (decide (0 ≤ s2.fst)))))
 (X1 (IntKind.i64.wrap (s2.fst + 1), ())))
 (R (T.v (Value.bool false))))
 (0, ()))
 (R (T.v (Value.bool false)))
theorem F_mrolled_eq (a0 : TMaterials) (a1 : ByteArray) (a2 : Int) (R : T → Prop) : sxTop stdC2 Tryz.prog E_mrolled H_mrolled 8 76 [encV true yMaterials a0, encV false Sy.str a1,
  encV false (Sy.int IntKind.i64) a2] R = F_mrolled a0 a1 a2 R := by kernel_rfl
abbrev s_mrolled : Sh := [(true, yMaterials), (false, Sy.str), (false, (Sy.int IntKind.i64))]
abbrev r_mrolled : Sh := [(false, Sy.bool)]
theorem r_mrolled_call (y : Sh.den r_mrolled) (K : Sh.den r_mrolled → Prop) : callK r_mrolled (some (Sh.enc r_mrolled y)) K = K y := callK_enc rfl y K

def sp_mrolled (x : TMaterials × ByteArray × Int) : Option T := onlyM x.1 (T.v (Value.bool (rolledB x.1 x.2.1 x.2.2)))
noncomputable def g_mrolled : List T → Option (T) := gS s_mrolled sp_mrolled
theorem g_mrolled_at {a0 : TMaterials} {a1 : ByteArray} {a2 : Int} : g_mrolled [encV true yMaterials a0, T.v (Value.string a1), T.v (Value.int IntKind.i64 a2)] = sp_mrolled (a0, a1, a2) := gS_enc (s := s_mrolled) rfl (a0, a1, a2) rfl
theorem g_mrolled_op {u0 u1 u2 u3} : g_mrolled [T.agg [T.sl false (List.map yGrade.enc u0), T.sl false (List.map ySection.enc u1)],
  T.v (Value.string u2), T.v (Value.int IntKind.i64 u3)] = sp_mrolled ((u0, u1), u2, u3) := gS_enc (s := s_mrolled) rfl ((u0, u1), u2, u3) rfl
theorem of_mrolled (h : ∀ (a0 : TMaterials) (a1 : ByteArray) (a2 : Int) (r : T), sp_mrolled (a0, a1, a2) = some r → BdSh s_mrolled (a0, a1, a2) → F_mrolled a0 a1 a2 (fun y => y = r)) : PureFn Tryz.prog 76 g_mrolled :=
  pureFn_S (E := E_mrolled) (Hs := H_mrolled) Eok_mrolled mixed' plain' (noHeap_of rfl) 8 ⟨_, _, Tryz.func76, rfl⟩ rfl fun x r h1 h2 => by
    obtain ⟨a0, a1, a2⟩ := x
    rw [show Sh.encs s_mrolled (a0, a1, a2) = [encV true yMaterials a0, encV false Sy.str a1,
  encV false (Sy.int IntKind.i64) a2] from rfl, F_mrolled_eq]
    exact h a0 a1 a2 r h1 h2

theorem g_mGrade_ok {m : TMaterials} (h : okM m = true) (n : ByteArray) : g_mGrade [encV true yMaterials m, T.v (Value.string n)] = some (Sh.enc [(true, yGrade), (false, .bool)] (found noGrade (gradeOf m n))) := (g_mGrade_at ..).trans (onlyM_ok _ h)
theorem fn_mrolled : PureFn Tryz.prog 76 g_mrolled := of_mrolled fun m n t r h hb => by
  obtain ⟨hok, rfl⟩ := onlyM_of h
  clear h
  unfold F_mrolled
  refine callK_some (s := [(true, yGrade), (false, .bool)]) (g_mGrade_ok hok n) ?_
  cases hg : gradeOf m n with
  | none =>
    show iteP false _ _
    rw [iteP_f]
    exact bres (by unfold rolledB; rw [hg])
  | some g =>
    show iteP true _ _
    rw [iteP_t]
    dsimp only [found]
    have hlen : g.2.2.2.length ≤ 1000 := by
      simp only [okM, Bool.and_eq_true, decide_eq_true_eq] at hok
      exact of_decide_eq_true (List.all_eq_true.1 hok.2 _ (List.mem_of_find?_eq_some hg))
    have w : rolledB m n t = g.2.2.2.any fun x => decide (t = x) := by unfold rolledB; rw [hg]
    refine loopK_ix g.2.2.2.length (fun k s => s = ((k : Int), ()) ∧ g.2.2.2.any (fun x => decide (t = x)) = (g.2.2.2.drop k).any fun x => decide (t = x)) ⟨rfl, by rw [List.drop_zero]⟩ ?_
    rintro X k s hk ⟨rfl, hf⟩ hX
    dsimp only
    refine ifP (fun hlt => ?_) fun hge => bres ?_
    · rw [List.length_map] at hlt
      have hlt : k < g.2.2.2.length := by omega
      rw [List.drop_eq_getElem_cons hlt, List.any_cons] at hf
      rw [rowsK_at (r := .int .i64) hlt]
      refine ifP (fun hc => bres ?_) fun hc => hX _ hlt ⟨by rw [next_w (by omega)], by rw [hf, decide_eq_false hc, Bool.false_or]⟩
      rw [w, hf, decide_eq_true hc, decide_eq_true (show 0 ≤ (k : Int) by omega)]; rfl
    · rw [List.length_map] at hge
      have : k = g.2.2.2.length := by omega
      subst this
      rw [w, hf, List.drop_length]; rfl
end Go.Pv
