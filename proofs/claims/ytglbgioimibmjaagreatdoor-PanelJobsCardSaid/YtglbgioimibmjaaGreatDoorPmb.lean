/-
  PanelMinutes: what the functions compute: CheckLine, few, Ints, Ceil.
-/
import Derived.Test.YtglbgioimibmjaaGreatDoorPma
set_option linter.unusedSimpArgs false
set_option linter.unusedVariables false
set_option maxRecDepth 100000
namespace Go.Pv
open Go Go.Proofs
theorem ifD {p : Prop} {i : Decidable p} {A B : Prop} (h1 : p → A) (h2 : ¬ p → B) : iteP (@decide p i) A B := by
  by_cases h : p
  · rw [decide_eq_true h]; exact h1 h
  · rw [decide_eq_false h]; exact h2 h
theorem ifN {p : Prop} {i : Decidable p} {A B : Prop} (h1 : ¬ p → A) (h2 : p → B) : iteP (!(@decide p i)) A B := by
  by_cases h : p
  · rw [decide_eq_true h]; exact h2 h
  · rw [decide_eq_false h]; exact h1 h
theorem all_dropI {α : Type} {p : α → Bool} {l : List α} {k : Nat} (h : k < l.length) : (l.drop k).all p = (p l[k] && (l.drop (k + 1)).all p) := by rw [List.drop_eq_getElem_cons h, List.all_cons]
theorem all_loop {l : List Int} (hl : l.length ≤ 8) {B C : Prop} (hbad : l.all inR = false → B) (hgood : l.all inR = true → C) :
    loopK (Int × PUnit) (fun (X0 : Int × PUnit → Prop) (s1 : Int × PUnit) =>
      iteP (decide (s1.fst < ((List.map (Sy.int IntKind.i64).enc l).length : Int)))
        (rowsK (Sy.int IntKind.i64) (List.map (Sy.int IntKind.i64).enc l) s1.fst fun (y2 : Int) =>
          iteP (decide (0 ≤ y2)) (iteP (!decide (y2 ≤ 1000)) B (X0 (IntKind.i64.wrap (s1.fst + 1), ()))) B) C) (0, ()) := by
  simp only [List.length_map]
  refine loopK_ix l.length (fun k s => s = ((k : Int), ()) ∧ l.all inR = (l.drop k).all inR) ⟨rfl, by rw [List.drop_zero]⟩ ?_
  rintro X k s hk ⟨rfl, he⟩ hX
  dsimp only
  refine ifD (fun hlt => ?_) (fun hge => ?_)
  · have hlt : k < l.length := by omega
    rw [all_dropI hlt] at he
    rw [rowsK_at (r := .int .i64) hlt]
    have e : IntKind.i64.wrap ((k : Int) + 1) = ((k + 1 : Nat) : Int) := wrap_id _ (by omega) (by omega)
    refine ifD (fun h1 => ifN (fun h2 => hbad ?_) fun h2 => hX _ hlt ⟨by rw [e], ?_⟩) (fun h1 => hbad ?_)
    · rw [he]; simp [inR, h2]
    · rw [he]; simp [inR, h1, h2]
    · rw [he]; simp [inR, h1]
  · have : k = l.length := by omega
    subst this
    exact hgood (by rw [he]; simp)
theorem fn_chk : PureFn Tryz.prog 12 g_chk := of_chk fun x r h hb => by
  cases h
  obtain ⟨a, b, c, d⟩ := x
  have is : ∀ {n : Int}, chk (a, b, c, d) = n → T.v (Value.int IntKind.i64 n) = Sh.enc r_chk (chk (a, b, c, d)) := fun h => by rw [h]; rfl
  unfold F_chk
  simp only []
  refine ifN (fun h => (h trivial).elim) fun _ => ?_
  refine ifN (fun h => is ?_) fun h1 => ?_
  · simp only [List.length_map] at h
    unfold chk; rw [if_neg (fun e => h (by have := e.1; simp only at this; omega))]
  refine ifN (fun h => is ?_) fun h2 => ?_
  · simp only [List.length_map] at h
    unfold chk; rw [if_neg (fun e => h (by have := e.2.1; simp only at this; omega))]
  refine ifN (fun h => is ?_) fun h3 => ?_
  · simp only [List.length_map] at h
    unfold chk; rw [if_neg (fun e => h (by have := e.2.2; simp only at this; omega))]
  simp only [List.length_map] at h1 h2 h3
  have h1 : b.length = a.length := by omega
  have h2 : c.length = a.length := by omega
  have h3 : d.length = a.length := by omega
  have hc : chk (a, b, c, d) = if a.length = 0 then 3 else if 8 < a.length then 4 else if inL (a, b, c, d) = true then 0 else 9 := by
    unfold chk; rw [if_pos ⟨h1, h2, h3⟩]
  refine ifD (fun h => is ?_) fun h4 => ?_
  · simp only [List.length_map] at h
    rw [hc, if_pos (by omega)]
  refine ifD (fun h => is ?_) fun h5 => ?_
  · simp only [List.length_map] at h h4
    rw [hc, if_neg (by omega), if_pos (by omega)]
  simp only [List.length_map] at h4 h5
  rw [if_neg (by omega), if_neg (by omega)] at hc
  refine all_loop (by omega) (fun h => is ?_) fun g1 => ?_
  · rw [hc, if_neg (by simp [inL, h])]
  refine all_loop (by omega) (fun h => is ?_) fun g2 => ?_
  · rw [hc, if_neg (by simp [inL, h])]
  refine all_loop (by omega) (fun h => is ?_) fun g3 => ?_
  · rw [hc, if_neg (by simp [inL, h])]
  refine all_loop (by omega) (fun h => is ?_) fun g4 => is ?_
  · rw [hc, if_neg (by simp [inL, h])]
  · rw [hc, if_pos (by simp only [inL, g1, g2, g3, g4, Bool.and_self])]
theorem chk39_loop {a b c d : List Int} (h1 : b.length = a.length) (h2 : c.length = a.length) (h3 : d.length = a.length) {k : Nat} (hk : k < a.length) : ((a.drop k).all inR && (b.drop k).all inR && (c.drop k).all inR && (d.drop k).all inR) =
    ((inR a[k] && inR b[k] && inR c[k] && inR d[k]) && ((a.drop (k + 1)).all inR && (b.drop (k + 1)).all inR && (c.drop (k + 1)).all inR && (d.drop (k + 1)).all inR)) := by
  rw [all_dropI hk, all_dropI (show k < b.length by omega), all_dropI (show k < c.length by omega), all_dropI (show k < d.length by omega)]
  cases inR a[k] <;> cases inR b[k] <;> cases inR c[k] <;> cases inR d[k] <;> simp
theorem fn_chk39 : PureFn Tryz.prog 13 g_chk39 := of_chk39 fun x r h hb => by
  cases h
  obtain ⟨a, b, c, d⟩ := x
  have is : ∀ {n : Int}, chk (a, b, c, d) = n → T.v (Value.int IntKind.i64 n) = Sh.enc r_chk39 (chk (a, b, c, d)) := fun h => by rw [h]; rfl
  unfold F_chk39
  dsimp only
  simp only [List.length_map]
  refine ifN (fun h => is ?_) fun h1 => ?_
  · unfold chk; rw [if_neg (fun e => h (by have := e.1; simp only at this; omega))]
  refine ifN (fun h => is ?_) fun h2 => ?_
  · unfold chk; rw [if_neg (fun e => h (by have := e.2.1; simp only at this; omega))]
  refine ifN (fun h => is ?_) fun h3 => ?_
  · unfold chk; rw [if_neg (fun e => h (by have := e.2.2; simp only at this; omega))]
  have h1 : b.length = a.length := by omega
  have h2 : c.length = a.length := by omega
  have h3 : d.length = a.length := by omega
  have hc : chk (a, b, c, d) = if a.length = 0 then 3 else if 8 < a.length then 4 else if inL (a, b, c, d) = true then 0 else 9 := by
    unfold chk; rw [if_pos ⟨h1, h2, h3⟩]
  refine ifD (fun h => is ?_) fun h4 => ?_
  · rw [hc, if_pos (by omega)]
  refine ifD (fun h => is ?_) fun h5 => ?_
  · rw [hc, if_neg (by omega), if_pos (by omega)]
  rw [if_neg (by omega), if_neg (by omega)] at hc
  refine loopK_ix a.length (fun k s => s = ((k : Int), ()) ∧ inL (a, b, c, d) = ((a.drop k).all inR && (b.drop k).all inR && (c.drop k).all inR && (d.drop k).all inR)) ⟨rfl, by simp only [List.drop_zero]; rfl⟩ ?_
  rintro X k s hk ⟨rfl, he⟩ hX
  dsimp only
  refine ifD (fun hlt => ?_) (fun hge => ?_)
  · have hlt : k < a.length := by omega
    have e : IntKind.i64.wrap ((k : Int) + 1) = ((k + 1 : Nat) : Int) := wrap_id _ (by omega) (by omega)
    rw [chk39_loop h1 h2 h3 hlt] at he
    rw [rowsK_at (r := .int .i64) hlt, rowsK_at (r := .int .i64) (show k < b.length by omega), rowsK_at (r := .int .i64) (show k < c.length by omega), rowsK_at (r := .int .i64) (show k < d.length by omega)]
    have hkb : k < b.length := by omega
    have hkc : k < c.length := by omega
    have hkd : k < d.length := by omega
    have bad : (inR a[k] && inR b[k] && inR c[k] && inR d[k]) = false → chk (a, b, c, d) = 9 := fun h => by
      rw [hc, he, h, Bool.false_and]; rfl
    refine ifD (fun h => is (bad ?_)) fun h6 => ?_
    · rw [Bool.eq_false_iff]; intro h7; simp only [inR, Bool.and_eq_true, decide_eq_true_eq] at h7; omega
    rw [rowsK_at (r := .int .i64) hlt, rowsK_at (r := .int .i64) hkb, rowsK_at (r := .int .i64) hkc, rowsK_at (r := .int .i64) hkd]
    refine ifD (fun h => is (bad ?_)) fun h8 => ?_
    · rw [Bool.eq_false_iff]; intro h7; simp only [inR, Bool.and_eq_true, decide_eq_true_eq] at h7; omega
    refine hX _ hlt ⟨by rw [e], ?_⟩
    have : (inR a[k] && inR b[k] && inR c[k] && inR d[k]) = true := by
      simp only [inR, Bool.and_eq_true, decide_eq_true_eq]
      omega
    rw [he, this, Bool.true_and]
  · have : k = a.length := by omega
    subst this
    exact is (by rw [hc, he]; simp [List.drop_eq_nil_of_le, h1, h2, h3])
theorem fn_few39 : PureFn Tryz.prog 8 g_few39 := of_few39 fun x r h hb => by
  cases h
  obtain ⟨a, b, c, d⟩ := x
  unfold F_few39
  simp only [List.length_map]
  have is : ∀ {n : Bool}, fewL (a, b, c, d) = n → T.v (Value.bool n) = Sh.enc r_few39 (fewL (a, b, c, d)) := fun h => by rw [h]; rfl
  refine ifD (fun h1 => ifD (fun h2 => ifD (fun h3 => is ?_) fun h => is ?_) fun h => is ?_) fun h => is ?_
  · simp [fewL, h1, h2, h3]
  · simp [fewL, h]
  · simp [fewL, h]
  · simp [fewL, h]
theorem fn_ints : PureFn Tryz.prog 14 g_ints := of_ints fun a b r h hb => by
  cases h
  have hl : a.length ≤ 2 ^ 47 := hb.1.1
  have is : ∀ {n : Bool}, decide (a = b) = n → T.v (Value.bool n) = Sh.enc r_ints (decide (a = b)) := fun h => by rw [h]; rfl
  unfold F_ints
  simp only [List.length_map]
  refine ifN (fun h => is (by rw [decide_eq_false]; rintro rfl; exact h rfl)) fun h1 => ?_
  have h1 : a.length = b.length := by omega
  refine loopK_ix a.length (fun k s => s = ((k : Int), ()) ∧ decide (a = b) = decide (a.drop k = b.drop k)) ⟨rfl, by simp only [List.drop_zero]⟩ ?_
  rintro X k s hk ⟨rfl, he⟩ hX
  dsimp only
  refine ifD (fun hlt => ?_) (fun hge => ?_)
  · have hlt : k < a.length := by omega
    have e : IntKind.i64.wrap ((k : Int) + 1) = ((k + 1 : Nat) : Int) := wrap_id _ (by omega) (by omega)
    rw [List.drop_eq_getElem_cons hlt, List.drop_eq_getElem_cons (show k < b.length by omega)] at he
    rw [rowsK_at (r := .int .i64) hlt, rowsK_at (r := .int .i64) (show k < b.length by omega)]
    refine ifN (fun h => is ?_) fun h => hX _ hlt ⟨by rw [e], ?_⟩
    · rw [he]; exact decide_eq_false fun e => h (List.cons.inj e).1
    · rw [he]; exact decide_eq_decide.2 ⟨fun e => (List.cons.inj e).2, fun e => by rw [h, e]⟩
  · have : k = a.length := by omega
    subst this
    exact is (by rw [he]; simp [h1])
end Go.Pv
