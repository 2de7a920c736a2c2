/-
  The pure evaluator, part i: operations that make boxes or write into them.
-/
import Derived.Test.YtnepemjcinpohaaPvh
import Derived.Laws.AppendOwn
set_option linter.unusedSimpArgs false
namespace Go.Pv
open Go Go.RowKit

section
variable {cx : Cx} {ρ : Nat → Option Loc} {σ : Nat → Option Box} {n : Nat} {w : World}

/-- A box is forgotten. -/
theorem Inv.drop (h : Inv cx ρ σ n w) (k : Nat) : Inv cx ρ (upd σ k none) n w ∧ Keeps cx ρ ρ σ (upd σ k none) w w := by
  have hown : ∀ b, ¬ Own cx ρ σ b → ¬ Own cx ρ (upd σ k none) b := by
    intro b hn hc
    rcases hc with hc | ⟨i, l', y, h1, h2, h3⟩
    · exact hn (.inl hc)
    · by_cases e : i = k
      · subst e; simp at h1
      · rw [upd_ne _ _ e] at h1; exact hn (.inr ⟨i, l', y, h1, h2, h3⟩)
  have hk : Keeps cx ρ ρ σ (upd σ k none) w w := ⟨fun _ _ _ _ h => h, Nat.le_refl _, fun b _ => hown b, fun _ _ h => h⟩
  have old : ∀ i y, upd σ k none i = some y → σ i = some y := fun i y hi => by
    by_cases e : i = k
    · subst e; simp at hi
    · rw [upd_ne _ _ e] at hi; exact hi
  refine ⟨⟨fun i y hi => ?_, fun i i' y y' m m' h1 h2 h3 h4 he => h.inj i i' y y' m m' (old _ _ h1) (old _ _ h2) h3 h4 he, h.new, h.below, h.ownlt⟩, hk⟩
  obtain ⟨m, hm, o, h1, h2⟩ := h.boxes i y (old _ _ hi)
  exact ⟨m, hm, o, h1, h2.mono hk.cell hk.size hk.own hk.loc⟩

/-- A box gets a new number. -/
theorem Inv.rename (h : Inv cx ρ σ n w) {k₀ k : Nat} {x : Box} {l : Loc} (h0 : σ k₀ = some x) (hl : ρ k₀ = some l) (hk : n ≤ k) :
    Inv cx (upd ρ k (some l)) (upd (upd σ k₀ none) k (some x)) (k + 1) w ∧ Keeps cx ρ (upd ρ k (some l)) σ (upd (upd σ k₀ none) k (some x)) w w := by
  have hne : ∀ i l', ρ i = some l' → i ≠ k := fun i l' hi e => by have := (h.new i l' hi).1; omega
  have hρ : ∀ i l', ρ i = some l' → upd ρ k (some l) i = some l' := fun i l' hi => by rw [upd_ne _ _ (hne i l' hi)]; exact hi
  have hk0 : k₀ ≠ k := hne k₀ l hl
  have old : ∀ i y, i ≠ k → upd (upd σ k₀ none) k (some x) i = some y → i ≠ k₀ ∧ σ i = some y := fun i y hi h => by
    rw [upd_ne _ _ hi] at h
    by_cases e : i = k₀
    · subst e; simp at h
    · rw [upd_ne _ _ e] at h; exact ⟨e, h⟩
  have oldρ : ∀ i m, i ≠ k → upd ρ k (some l) i = some m → ρ i = some m := fun i m hi h => by rw [upd_ne _ _ hi] at h; exact h
  have hown : ∀ b, ¬ Own cx ρ σ b → ¬ Own cx (upd ρ k (some l)) (upd (upd σ k₀ none) k (some x)) b := by
    intro b hn hc
    rcases hc with hc | ⟨i, l', y, h1, h2, h3⟩
    · exact hn (.inl hc)
    · by_cases e : i = k
      · subst e; simp at h2; subst h2; exact hn (.inr ⟨k₀, l, x, h0, hl, h3⟩)
      · exact hn (.inr ⟨i, l', y, (old i y e h1).2, oldρ i l' e h2, h3⟩)
  have hkp : Keeps cx ρ (upd ρ k (some l)) σ (upd (upd σ k₀ none) k (some x)) w w := ⟨fun _ _ _ _ h => h, Nat.le_refl _, fun b _ => hown b, hρ⟩
  refine ⟨⟨fun i y hi => ?_, fun i i' y y' m m' h1 h2 h3 h4 he => ?_, fun i m hm => ?_, h.below, h.ownlt⟩, hkp⟩
  · by_cases e : i = k
    · subst e
      simp at hi
      subst hi
      obtain ⟨m, hm, o, g1, g2⟩ := h.boxes k₀ _ h0
      rw [hl] at hm; cases hm
      exact ⟨l, by simp, o, g1, g2.mono hkp.cell hkp.size hkp.own hkp.loc⟩
    · obtain ⟨_, hs⟩ := old i y e hi
      obtain ⟨m, hm, o, g1, g2⟩ := h.boxes i y hs
      exact ⟨m, hρ _ _ hm, o, g1, g2.mono hkp.cell hkp.size hkp.own hkp.loc⟩
  · by_cases e : i = k
    · by_cases e' : i' = k
      · omega
      · subst e
        simp at h3
        subst h3
        obtain ⟨e0, hs⟩ := old i' y' e' h2
        exact absurd (h.inj k₀ i' x y' l m' h0 hs hl (oldρ _ _ e' h4) he).symm e0
    · obtain ⟨e0, hs⟩ := old i y e h1
      by_cases e' : i' = k
      · subst e'
        simp at h4
        subst h4
        exact absurd (h.inj i k₀ y x m l hs h0 (oldρ _ _ e h3) hl he) e0
      · exact h.inj i i' y y' m m' hs (old i' y' e' h2).2 (oldρ _ _ e h3) (oldρ _ _ e' h4) he
  · by_cases e : i = k
    · subst e
      simp at hm
      subst hm
      have := h.new k₀ l hl
      omega
    · have := h.new i m (oldρ _ _ e hm)
      omega

theorem Keeps.trans {ρ' ρ'' : Nat → Option Loc} {σ' σ'' : Nat → Option Box} {w' w'' : World} (h : Keeps cx ρ ρ' σ σ' w w') (h' : Keeps cx ρ' ρ'' σ' σ'' w' w'')
    (hlt : ∀ b o u, w.cell? ⟨b, o, none⟩ = some u → b < w.heap.size) : Keeps cx ρ ρ'' σ σ'' w w'' :=
  ⟨fun b o u hb hc => h'.cell b o u (h.own b (hlt b o u hc) hb) (h.cell b o u hb hc), Nat.le_trans h.size h'.size, fun b hb hn => h'.own b (by have := h.size; omega) (h.own b hb hn), fun k l hk => h'.loc k l (h.loc k l hk)⟩
theorem Keeps.trans' {ρ' ρ'' : Nat → Option Loc} {σ' σ'' : Nat → Option Box} {w' w'' : World} (h : Keeps cx ρ ρ' σ σ' w w') (h' : Keeps cx ρ' ρ'' σ' σ'' w' w'') : Keeps cx ρ ρ'' σ σ'' w w'' :=
  h.trans h' (fun b o _ hc => World.block_lt_of_cell? w ⟨b, o, none⟩ hc)
end

/-! ### New variables -/
/-- A variable's box. -/
def varBox (cs : List D) : Option Box := if 0 < cs.length ∧ cs.all D.leaf = true then some (.rows [cs]) else none

section
variable {cx : Cx} {ρ : Nat → Option Loc} {σ : Nat → Option Box} {n : Nat} {w : World}
theorem newVar_run (hI : Inv cx ρ σ n w) {k : Nat} (hk : n ≤ k) {cs : List D} {vs : Array Value} {x : Box} (hcs : RdA (Rd w (Own cx ρ σ) ρ) cs vs) (hx : varBox cs = some x) (e : TypeId) :
    ∃ ρ', (newRow e vs).run cx.P w = .ok ⟨w.heap.size, 0, none⟩ (w.alloc (.cells vs e)) ∧ Inv cx ρ' (upd σ k (some x)) (k + 1) (w.alloc (.cells vs e)) ∧ Keeps cx ρ ρ' σ (upd σ k (some x)) w (w.alloc (.cells vs e)) ∧
      Rd (w.alloc (.cells vs e)) (Own cx ρ' (upd σ k (some x))) ρ' (.ptr k 0 0) (.pointer (some ⟨w.heap.size, 0, none⟩)) := by
  unfold varBox at hx
  split at hx
  · rename_i hok
    cases hx
    let l : Loc := ⟨w.heap.size, cs.length, 1, e⟩
    have hb : BoxIn w (Own cx ρ σ) ρ l (.cells vs e) (.rows [cs]) := by
      refine .rows [cs] vs ⟨by simp [l, hcs.1], hok.1, by simp, by simp [l], by simp [l], fun i j hi hj => ?_, fun p v hp => ?_⟩
      · simp at hi
        subst hi
        obtain ⟨v, h1, h2⟩ := hcs.get? (i := j) (d := cs[j]'(by simpa using hj)) (by simp at hj; simp [hj])
        exact ⟨v, by simpa using h1, by simpa using h2⟩
      · have hp' : p < cs.length := by rw [← hcs.1]; exact (Array.getElem?_eq_some_iff.1 hp).1
        have h2 := hcs.2 p hp'
        rw [Array.getD_eq_getD_getElem?, hp] at h2
        exact h2.leaf (List.all_eq_true.1 hok.2 _ (List.getElem_mem hp'))
    obtain ⟨h1, h2⟩ := hI.newBox hk l (.cells vs e) _ rfl hb
    refine ⟨_, rfl, h1, h2, ?_⟩
    have := Rd.ptr (w := w.alloc (.cells vs e)) (own := Own cx (upd ρ k (some l)) (upd σ k (some (.rows [cs])))) (ρ := upd ρ k (some l)) k 0 0 l (by simp)
    simpa [l] using this
  · cases hx

/-! ### Stores -/
def storeD (P : Program) (σ : Nat → Option Box) (t : TypeId) (a v : D) : Option (Nat → Option Box) :=
  match a with
  | .ptr k i j =>
    match σ k, tsz? P t with
    | some (.rows rs), some z =>
      match rs[i]? with
      | some r => if 0 < z ∧ v.cells.length = z ∧ j + z ≤ r.length ∧ v.cells.all D.leaf = true then some (upd σ k (some (.rows (rs.set i (splice r j v.cells))))) else none
      | none => none
    | _, _ => none
  | _ => none

theorem mul_lt_rows {i m sz C j : Nat} (hi : i < C) (hj : j + m ≤ sz) : i * sz + j + m ≤ C * sz := by
  have : (i + 1) * sz ≤ C * sz := Nat.mul_le_mul_right _ hi
  rw [Nat.add_mul, Nat.one_mul] at this
  omega
theorem row_ne {i i' j j' sz : Nat} (hj : j < sz) (hj' : j' < sz) (hne : i ≠ i') : i * sz + j ≠ i' * sz + j' := by
  rcases Nat.lt_or_gt_of_ne hne with h | h
  · have : (i + 1) * sz ≤ i' * sz := Nat.mul_le_mul_right _ h
    rw [Nat.add_mul, Nat.one_mul] at this
    omega
  · have : (i' + 1) * sz ≤ i * sz := Nat.mul_le_mul_right _ h
    rw [Nat.add_mul, Nat.one_mul] at this
    omega

theorem store_run (hI : Inv cx ρ σ n w) {t : TypeId} {a d : D} {x y : Value} {σ' : Nat → Option Box} (ha : Rd w (Own cx ρ σ) ρ a x) (hd : Rd w (Own cx ρ σ) ρ d y) (h : storeD cx.P σ t a d = some σ') :
    ∃ w', (Instr.storeAt t x y).run cx.P w = .ok () w' ∧ Inv cx ρ σ' n w' ∧ Keeps cx ρ ρ σ σ' w w' := by
  unfold storeD at h
  split at h
  · rename_i k i j
    split at h
    · rename_i _ _ rs z hk hz
      split at h
      · rename_i r hr
        split at h
        · rename_i hok
          obtain ⟨hz0, hlen, hfit, hleaf⟩ := hok
          cases h
          cases ha with
          | ptr _ _ _ l hl =>
          obtain ⟨l', c, hl', hheap, hb⟩ := hI.rows hk
          rw [hl] at hl'; cases hl'
          have hc := hd.cells (fun e => by rw [e] at hlen; simp at hlen; omega)
          obtain ⟨hi, hre⟩ := List.getElem?_eq_some_iff.1 hr
          have hrl : r.length = l.sz := hb.width r (hre ▸ List.getElem_mem hi)
          have hvl : y.cells.toList.length = z := by simp [hc.1, hlen]
          have hbound : i * l.sz + j + z ≤ c.size := by rw [hb.size]; exact mul_lt_rows (by have := hb.len; omega) (by omega)
          have hone : ∀ v ∈ y.cells.toList, v.oneCell' = true := by
            intro v hv
            obtain ⟨p, hp, rfl⟩ := List.mem_iff_getElem.1 hv
            have hp' : p < d.cells.length := by omega
            have := hc.2 p hp'
            have hps : p < y.cells.size := by simpa using hp
            simp [Array.getD_eq_getD_getElem?, hps] at this
            exact this.leaf (List.all_eq_true.1 hleaf _ (List.getElem_mem hp'))
          have hrun := run_storeCells_at cx.P l.blk (i * l.sz + j) l.e y.cells.toList 0 c w hheap (by rw [hvl]; omega) hone
          have hspl : c.toList.take (i * l.sz + j + 0) ++ y.cells.toList ++ c.toList.drop (i * l.sz + j + 0 + y.cells.toList.length) = splice c.toList (i * l.sz + j) y.cells.toList := by
            apply List.ext_getElem?
            intro p
            rw [splice_get _ _ _ _ (by rw [hvl]; simpa using hbound)]
            have hcl : c.toList.length = c.size := by simp
            simp only [Nat.add_zero, hvl]
            by_cases h1 : p < i * l.sz + j
            · rw [if_neg (by omega), List.append_assoc, List.getElem?_append_left (by simp; omega), List.getElem?_take, if_pos h1]
            · by_cases h2 : p < i * l.sz + j + z
              · rw [if_pos (by omega), List.append_assoc, List.getElem?_append_right (by simp; omega), List.getElem?_append_left (by simp at hvl ⊢; omega)]
                congr 1
                simp; omega
              · rw [if_neg (by omega), List.append_assoc, List.getElem?_append_right (by simp; omega), List.getElem?_append_right (by simp at hvl ⊢; omega), List.getElem?_drop]
                congr 1
                simp at hvl ⊢; omega
          rw [hspl] at hrun
          refine ⟨w.setRow l.blk (splice c.toList (i * l.sz + j) y.cells.toList).toArray, ?_, ?_⟩
          · have hys : y.cells.size = z := by rw [hc.1]; exact hlen
            simp [Instr.storeAt, Instr.sureAddr, storeVar, hys, run_sizeOf? w hz, hrun]
          · refine hI.setBox (Nat.le_refl _) hk hl (.cells (splice c.toList (i * l.sz + j) y.cells.toList).toArray l.e) _ rfl rfl rfl (by simp) (setRow_heap w l.blk c _ l.e (0, 0) hheap) (fun b hne => setRow_other w l.blk b _ hne) ?_
            have hcell : ∀ p, (splice c.toList (i * l.sz + j) y.cells.toList).toArray[p]? = if i * l.sz + j ≤ p ∧ p < i * l.sz + j + z then y.cells[p - (i * l.sz + j)]? else c[p]? := by
              intro p
              simp only [List.getElem?_toArray]
              rw [splice_get _ _ _ _ (by rw [hvl]; simpa using hbound), hvl]
              simp
            refine .rows _ _ ⟨by simp [hb.size], hb.pos, by simpa using hb.small, by simpa using hb.len, fun r' hr' => ?_, fun i' j' hi' hj' => ?_, fun p v hp => ?_⟩
            · rcases List.mem_or_eq_of_mem_set hr' with h1 | h1
              · exact hb.width _ h1
              · rw [h1]; simp [hrl]
            · simp at hi'
              rw [hcell]
              by_cases e : i = i'
              · subst e
                simp only [List.getElem_set_self] at hj' ⊢
                simp at hj'
                have hsg := splice_get d.cells r j j' (by omega)
                rw [List.getElem?_eq_getElem (by simpa using hj')] at hsg
                by_cases h1 : j ≤ j' ∧ j' < j + z
                · rw [if_pos (by omega)]
                  rw [if_pos (by omega), List.getElem?_eq_getElem (by omega)] at hsg
                  injection hsg with hsg
                  obtain ⟨v, g1, g2⟩ := hc.get? (i := j' - j) (d := d.cells[j' - j]'(by omega)) (by simp [show j' - j < d.cells.length by omega])
                  refine ⟨v, by rw [show i * l.sz + j' - (i * l.sz + j) = j' - j by omega]; exact g1, ?_⟩
                  rw [hsg]; exact g2
                · rw [if_neg (by omega)]
                  rw [if_neg (by omega), List.getElem?_eq_getElem hj'] at hsg
                  injection hsg with hsg
                  obtain ⟨v, g1, g2⟩ := hb.cell i j' hi' (by rw [hre]; exact hj')
                  refine ⟨v, g1, ?_⟩
                  rw [hsg]
                  simp only [hre] at g2
                  exact g2
              · simp only [List.getElem_set_ne e] at hj' ⊢
                have hw' := hb.width _ (List.getElem_mem hi')
                have hjs : j' < l.sz := by omega
                rw [if_neg]
                · exact hb.cell i' j' hi' hj'
                · intro hcon
                  have : i * l.sz + (j + (i' * l.sz + j' - (i * l.sz + j))) ≠ i' * l.sz + j' := row_ne (by omega) hjs e
                  omega
            · rw [hcell] at hp
              split at hp
              · exact hone v (by rw [Array.mem_toList_iff]; exact Array.mem_of_getElem? hp)
              · exact hb.one p v hp
        · cases h
      · cases h
    · cases h
  · cases h
end
end Go.Pv
