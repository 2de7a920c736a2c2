/-
  The pure evaluator, part k: append does what is said of it; the range over a string.
-/
import Derived.Test.YtnepemjcinpohaaPvj
set_option linter.unusedSimpArgs false
namespace Go.Pv
open Go Go.RowKit
section
variable {cx : Cx} {ρ : Nat → Option Loc} {σ : Nat → Option Box} {n : Nat} {w : World}

theorem info_of {P : Program} {e : TypeId} {z by_ : Nat} {zv : Value} (h1 : tsz? P e = some z) (h2 : tby? P e = some by_) (h3 : tz? P e = some zv) : ∃ i, P.info? e = some i ∧ i.size = z ∧ i.bytes = by_ ∧ i.zero = some zv := by
  simp only [tsz?, Option.map_eq_some_iff] at h1
  obtain ⟨i, hi, rfl⟩ := h1
  simp only [tby?, hi, Option.map_some, Option.some.injEq] at h2
  simp only [tz?, hi, Option.bind_some] at h3
  exact ⟨i, hi, rfl, h2, h3⟩

theorem append_nothing {P : Program} {t ty e : TypeId} {z : Nat} (hu : P.underlying t = some (.slice e)) (hz : tsz? P e = some z) (b a : Option Addr) (sLen sCap c : Nat) (hle : sLen ≤ sCap) (w : World) :
    (Builtin.append_ #[t, t] ty #[.slice b sLen sCap, .slice a 0 c]).run P w = .ok (.slice b sLen sCap) w := by
  cases b <;> cases a <;> simp [Builtin.append_, run_underlying hu, run_sizeOf? w hz, Builtin.lenOf, Builtin.firstCells, loadCells, loadCellsFrom, hle, storeCells]

theorem Src.add {own : Nat → Prop} {sz : Nat} {rows : List (List D)} {blk off : Nat} {news : List Value} (h : Src w own ρ sz rows blk off news) : ∀ j u, news[j]? = some u → w.cell? ((⟨blk, off, none⟩ : Addr).add j) = some u := by
  intro j u hu
  rw [Addr.add_lit]
  exact (h.cell j u hu).1
theorem Src.one {own : Nat → Prop} {sz : Nat} {rows : List (List D)} {blk off : Nat} {news : List Value} (h : Src w own ρ sz rows blk off news) : ∀ u ∈ news, u.oneCell' = true := by
  intro u hu
  obtain ⟨p, hp, rfl⟩ := List.mem_iff_getElem.1 hu
  exact (h.cell p _ (List.getElem?_eq_getElem hp)).2

/-- A new array, behind a draw. -/
theorem grown_inv (hI : Inv cx ρ σ n w) {k : Nat} (hk : n ≤ k) {z : Nat} {olds news : List (List D)} {vo vn : List Value} {zv : Value} {cap : Nat} (e : TypeId) (hz0 : 0 < z) (hz : zv.cells.size = z) (hz1 : zv.cells.all Value.oneCell' = true)
    (ho1 : vo.length = olds.length * z) (ho2 : ∀ u ∈ vo, u.oneCell' = true) (ho3 : ∀ i j (hi : i < olds.length) (hj : j < olds[i].length), ∃ u, vo[i * z + j]? = some u ∧ Rd w (Own cx ρ σ) ρ olds[i][j] u) (how : ∀ r ∈ olds, r.length = z)
    (hn1 : vn.length = news.length * z) (hn2 : ∀ u ∈ vn, u.oneCell' = true) (hn3 : ∀ i j (hi : i < news.length) (hj : j < news[i].length), ∃ u, vn[i * z + j]? = some u ∧ Rd w (Own cx ρ σ) ρ news[i][j] u) (hnw : ∀ r ∈ news, r.length = z)
    (hcap : olds.length + news.length ≤ cap) (hsm : olds.length + news.length ≤ 2 ^ 47) (hmax : cap ≤ maxLen) :
    ∃ ρ' w', w' = w.drew.alloc (.cells (vo.toArray ++ vn.toArray ++ Builtin.zeroCells zv.cells (cap - (olds.length + news.length))) e) ∧ Inv cx ρ' (upd σ k (some (.rows (olds ++ news)))) (k + 1) w' ∧
      Keeps cx ρ ρ' σ (upd σ k (some (.rows (olds ++ news)))) w w' ∧ Rd w' (Own cx ρ' (upd σ k (some (.rows (olds ++ news))))) ρ' (.bs k 0 (olds.length + news.length)) (.slice (some ⟨w.heap.size, 0, none⟩) (olds.length + news.length) cap) := by
  have hb := grown_box (w := w) (own := Own cx ρ σ) (ρ := ρ) (cap := cap) e w.heap.size hz0 hz hz1 ho1 ho2 ho3 how hn1 hn2 hn3 hnw hcap hsm
  have hd : Below w.heap.size w w.drew := (Below.refl _ _).drew
  have hI' : Inv cx ρ σ n w.drew := hI.grow hd (Nat.le_refl _)
  have hk1 : Keeps cx ρ ρ σ σ w w.drew := Keeps.of_below hd
  have hb' := hb.mono hk1.cell hk1.size hk1.own hk1.loc
  obtain ⟨h1, h2⟩ := hI'.newBox hk ⟨w.heap.size, z, cap, e⟩ _ _ rfl hb'
  refine ⟨_, _, rfl, h1, hk1.trans' h2, ?_⟩
  have := Rd.bs (w := w.drew.alloc (.cells (vo.toArray ++ vn.toArray ++ Builtin.zeroCells zv.cells (cap - (olds.length + news.length))) e)) (own := Own cx (upd ρ k (some ⟨w.heap.size, z, cap, e⟩)) (upd σ k (some (.rows (olds ++ news))))) (ρ := upd ρ k (some ⟨w.heap.size, z, cap, e⟩)) k 0 (olds.length + news.length) ⟨w.heap.size, z, cap, e⟩ (by simp) (by simpa using hcap) hmax
  simpa using this

theorem splice_eq {α : Type} (c vs : List α) (o : Nat) (h : o + vs.length ≤ c.length) : c.take (o + 0) ++ vs ++ c.drop (o + 0 + vs.length) = splice c o vs := by
  apply List.ext_getElem?
  intro p
  rw [splice_get _ _ _ _ h]
  simp only [Nat.add_zero]
  by_cases h1 : p < o
  · rw [if_neg (by omega), List.append_assoc, List.getElem?_append_left (by simp; omega), List.getElem?_take, if_pos h1]
  · by_cases h2 : p < o + vs.length
    · rw [if_pos (by omega), List.append_assoc, List.getElem?_append_right (by simp; omega), List.getElem?_append_left (by simp; omega)]
      congr 1
      simp; omega
    · rw [if_neg (by omega), List.append_assoc, List.getElem?_append_right (by simp; omega), List.getElem?_append_right (by simp; omega), List.getElem?_drop]
      congr 1
      simp; omega

theorem append_run (hI : Inv cx ρ σ n w) {k : Nat} (hk : n ≤ k) {t u ty : TypeId} {s xd d : D} {x y : Value} {σ' : Nat → Option Box} (hs : Rd w (Own cx ρ σ) ρ s x) (hx : Rd w (Own cx ρ σ) ρ xd y)
    (h : appendD cx.P σ k t u s xd = some (d, σ')) : ∃ v w' ρ', (Builtin.append_ #[t, u] ty #[x, y]).run cx.P w = .ok v w' ∧ Inv cx ρ' σ' (k + 1) w' ∧ Keeps cx ρ ρ' σ σ' w w' ∧ Rd w' (Own cx ρ' σ') ρ' d v := by
  unfold appendD at h
  split at h
  · rename_i htu
    subst htu
    split at h
    · rename_i e hel
      have hu := elemT_spec hel
      split at h
      · rename_i _ _ _ _ z by_ zv xs hz hby hzv hxs
        split at h
        · rename_i hok
          obtain ⟨hz0, hzc, hz1, hxw⟩ := hok
          replace hxw : xs.all (fun r => decide (r.length = z)) = true := hxw
          have hxw' : ∀ r ∈ xs, r.length = z := fun r hr => by simpa using List.all_eq_true.1 hxw r hr
          obtain ⟨i, hi, hi1, hi2, hi3⟩ := info_of hz hby hzv
          obtain ⟨ya, yc, rfl, hylen, hyc, hysrc⟩ := rowsX_src hI hx hxs hxw
          split at h
          · rename_i st
            split at h
            · rename_i full rows hrows
              cases hs with
              | p _ _ hs =>
              have hsl := rowsT_rd hs hrows
              obtain ⟨xa, xc, rfl, hc1, hc2, hc3⟩ := hsl.isSlice
              split at h
              · rename_i hemp
                cases h
                have hx0 : xs = [] := by simpa using hemp
                subst hx0
                exact ⟨_, w, ρ, append_nothing hu hz _ _ _ _ _ hc1 w, hI.grow (Below.refl _ _) (by omega), Keeps.refl _ _ _ _, .p _ _ hs⟩
              · rename_i hne
                split at h
                · rename_i hok2
                  obtain ⟨hfull, hrw, hroom, hroom2⟩ := hok2
                  replace hrw : rows.all (fun r => decide (r.length = z)) = true := hrw
                  cases h
                  have hx0 : xs ≠ [] := by simpa using hne
                  obtain ⟨_, yb, yo, news, rfl, hsrc⟩ := hysrc hx0
                  have hcap := hc2 hfull
                  subst hcap
                  have hxpos : 0 < xs.length := List.length_pos_iff.2 hx0
                  have hrw' : ∀ r ∈ rows.map (·.map D.p), r.length = z := by
                    intro r hr
                    obtain ⟨r', hr', rfl⟩ := List.mem_map.1 hr
                    simpa using List.all_eq_true.1 hrw r' hr'
                  have hbytes : (rows.length + xs.length) * i.bytes ≤ 140737488355328 := by rw [hi2]; exact hroom
                  have hmaxc := grownCap_le_maxLen w (rows.length + xs.length) rows.length e (by simp only [maxLen]; omega)
                  have hgec := grownCap_ge w (rows.length + xs.length) rows.length e
                  by_cases hr0 : rows = []
                  · subst hr0
                    obtain ⟨ρ', w', rfl, g1, g2, g3⟩ := grown_inv hI hk (olds := ([] : List (List T)).map (·.map D.p)) (news := xs) (vo := []) (vn := news) (zv := zv) (cap := grownCap w (0 + xs.length) 0 e) e hz0 hzc hz1 (by simp) (by simp) (fun i j hi => by simp at hi) (by simp)
                      hsrc.len hsrc.one hsrc.rd hxw' (by simpa using hgec) (by simpa using hroom2) (by simpa using hmaxc)
                    refine ⟨_, _, ρ', ?_, g1, g2, g3⟩
                    cases xa with
                    | none =>
                      have := run_append_nil (P := cx.P) w t ty e i zv hu hi hi3 ⟨yb, yo, none⟩ xs.length yc news (by rw [hi1]; exact hsrc.len) hsrc.add hxpos (by omega) (by simp at hbytes; omega)
                      simpa using this
                    | some xa =>
                      have := run_append_grow (P := cx.P) w t ty e i zv hu hi hi3 xa 0 0 [] (by simp) (by simp) ⟨yb, yo, none⟩ xs.length yc news (by rw [hi1]; exact hsrc.len) hsrc.add (by omega) (by omega) (growslice_fits (by omega) (by simpa using hbytes))
                      simpa using this
                  · obtain ⟨xa', xc', hxe, _, _, hosrc⟩ := rowsX_src hI (d := .p st) (x := .slice xa rows.length rows.length) (rows := rows.map (·.map D.p)) (z := z) (.p _ _ hs) (by simp [rowsX, hrows]) (by simpa [List.all_map] using hrw)
                    obtain ⟨_, ob, oo, olds, hoe, hos⟩ := hosrc (by simpa using hr0)
                    injection hxe with hxe1 hxe2 hxe3
                    rw [hoe] at hxe1
                    subst hxe1
                    have hol : olds.length = rows.length * z := by have := hos.len; simpa using this
                    obtain ⟨ρ', w', rfl, g1, g2, g3⟩ := grown_inv hI hk (olds := rows.map (·.map D.p)) (news := xs) (vo := olds) (vn := news) (zv := zv) (cap := grownCap w (rows.length + xs.length) rows.length e) e hz0 hzc hz1 hos.len hos.one hos.rd hrw'
                      hsrc.len hsrc.one hsrc.rd hxw' (by simpa using hgec) (by simpa using hroom2) hmaxc
                    refine ⟨_, _, ρ', ?_, g1, g2, by simpa using g3⟩
                    have := run_append_grow (P := cx.P) w t ty e i zv hu hi hi3 ⟨ob, oo, none⟩ rows.length rows.length olds (by rw [hi1]; exact hol) hos.add ⟨yb, yo, none⟩ xs.length yc news (by rw [hi1]; exact hsrc.len) hsrc.add (by omega) (by omega) (growslice_fits (by omega) hbytes)
                    simpa using this
                · cases h
            · cases h
          · rename_i k₀ len
            split at h
            · rename_i rs hk0
              cases hs with
              | bs _ _ _ l hl hc1 hc2 =>
              split at h
              · rename_i hemp
                cases h
                have hx0 : xs = [] := by simpa using hemp
                subst hx0
                exact ⟨_, w, ρ, append_nothing hu hz _ _ _ _ _ (by omega) w, hI.grow (Below.refl _ _) (by omega), Keeps.refl _ _ _ _, .bs _ _ _ l hl hc1 hc2⟩
              · rename_i hne
                split at h
                · rename_i hok2
                  obtain ⟨hlen, hrw, hroom, hroom2⟩ := hok2
                  cases h
                  subst hlen
                  have hx0 : xs ≠ [] := by simpa using hne
                  obtain ⟨_, yb, yo, news, rfl, hsrc⟩ := hysrc hx0
                  have hxpos : 0 < xs.length := List.length_pos_iff.2 hx0
                  have hlz := hI.width hrw hl
                  obtain ⟨l', c, hl', hheap, hb⟩ := hI.rows hk0
                  rw [hl] at hl'; cases hl'
                  have hbytes : (rs.length + xs.length) * i.bytes ≤ 140737488355328 := by rw [hi2]; exact hroom
                  have hrw' : ∀ r ∈ rs, r.length = z := fun r hr => by rw [hb.width r hr]; exact hlz
                  have hf := run_firstCells_some (P := cx.P) w z xs.length ⟨yb, yo, none⟩ xs.length yc news hsrc.len hsrc.add
                  by_cases hin : rs.length + xs.length ≤ l.C
                  · have hfit : rs.length * z + news.length ≤ c.toList.length := by
                      simp only [Array.length_toList]
                      rw [hb.size, hsrc.len, ← Nat.add_mul, hlz]
                      exact Nat.mul_le_mul_right _ hin
                    have hst := run_storeCells_at cx.P l.blk (rs.length * z) l.e news 0 c w hheap (by simpa using hfit) hsrc.one
                    rw [splice_eq _ _ _ hfit] at hst
                    have hrun : (Builtin.append_ #[t, t] ty #[.slice (some ⟨l.blk, 0 * l.sz, none⟩) rs.length (l.C - 0), .slice (some ⟨yb, yo, none⟩) xs.length yc]).run cx.P w = .ok (.slice (some ⟨l.blk, 0, none⟩) (rs.length + xs.length) l.C) (w.setRow l.blk (splice c.toList (rs.length * z) news).toArray) := by
                      simp [Builtin.append_, run_underlying hu, run_sizeOf? w hz, Builtin.lenOf, hin, hf, Addr.add_lit, hst]
                    have hcell : ∀ p, (splice c.toList (rs.length * z) news).toArray[p]? = if rs.length * z ≤ p ∧ p < rs.length * z + news.length then news[p - rs.length * z]? else c[p]? := by
                      intro p
                      simp only [List.getElem?_toArray]
                      rw [splice_get _ _ _ _ hfit]
                      simp
                    have hnew : BoxIn w (Own cx ρ σ) ρ l (.cells (splice c.toList (rs.length * z) news).toArray l.e) (.rows (rs ++ xs)) := by
                      refine .rows _ _ ⟨by simp [hb.size], hb.pos, by simpa using hroom2, by simpa using hin, fun r hr => ?_, fun i' j' hi' hj' => ?_, fun p v hp => ?_⟩
                      · rcases List.mem_append.1 hr with h | h
                        · exact hb.width r h
                        · rw [hlz]; exact hxw' r h
                      · rw [hcell]
                        simp at hi'
                        by_cases h1 : i' < rs.length
                        · simp only [List.getElem_append_left h1] at hj' ⊢
                          have hw' := hb.width _ (List.getElem_mem h1)
                          have := mul_lt_rows (m := 1) (j := j') h1 (by omega : j' + 1 ≤ l.sz)
                          rw [hlz] at this
                          rw [if_neg (by rw [hlz]; omega)]
                          exact hb.cell i' j' h1 hj'
                        · have h2 : i' - rs.length < xs.length := by omega
                          simp only [List.getElem_append_right (show rs.length ≤ i' by omega)] at hj' ⊢
                          have hw' := hxw' _ (List.getElem_mem h2)
                          have := mul_lt_rows (m := 1) (j := j') h2 (by omega : j' + 1 ≤ z)
                          have e3 : i' * z = rs.length * z + (i' - rs.length) * z := by rw [← Nat.add_mul]; congr 1; omega
                          have hnl := hsrc.len
                          rw [hlz, if_pos (by omega), show i' * z + j' - rs.length * z = (i' - rs.length) * z + j' by omega]
                          exact hsrc.rd _ j' h2 hj'
                      · rw [hcell] at hp
                        split at hp
                        · exact hsrc.one v (List.mem_of_getElem? hp)
                        · exact hb.one p v hp
                    obtain ⟨g1, g2⟩ := hI.setBox (n' := n) (Nat.le_refl _) hk0 hl (.cells (splice c.toList (rs.length * z) news).toArray l.e) _ (w' := w.setRow l.blk (splice c.toList (rs.length * z) news).toArray) rfl rfl rfl (by simp) (setRow_heap w l.blk c _ l.e (0, 0) hheap) (fun b hne => setRow_other w l.blk b _ hne) hnew
                    obtain ⟨g3, g4⟩ := g1.rename (k₀ := k₀) (k := k) (x := .rows (rs ++ xs)) (by simp) hl hk
                    have e4 : upd (upd σ k₀ (some (.rows (rs ++ xs)))) k₀ none = upd σ k₀ none := by
                      funext q; simp only [upd]; split <;> rfl
                    rw [e4] at g3 g4
                    refine ⟨_, _, _, hrun, g3, g2.trans' g4, ?_⟩
                    have := Rd.bs (w := w.setRow l.blk (splice c.toList (rs.length * z) news).toArray) (own := Own cx (upd ρ k (some l)) (upd (upd σ k₀ none) k (some (.rows (rs ++ xs))))) (ρ := upd ρ k (some l)) k 0 (rs.length + xs.length) l (by simp) (by simpa using hin) hc2
                    simpa using this
                  · obtain ⟨xa', xc', hxe, _, _, hosrc⟩ := rowsX_src hI (d := .bs k₀ 0 rs.length) (rows := rs) (z := z) (.bs _ _ _ l hl hc1 hc2) (by simp [rowsX, hk0]) (List.all_eq_true.2 fun r hr => by simpa using hrw' r hr)
                    have hr0 : rs ≠ [] := by
                      intro e0
                      subst e0
                      simp [widthOk, hk0] at hrw
                    obtain ⟨_, ob, oo, olds, hoe, hos⟩ := hosrc hr0
                    injection hxe with hxe1 hxe2 hxe3
                    rw [hoe] at hxe1
                    have hgec := grownCap_ge w (rs.length + xs.length) (l.C - 0) e
                    have hmaxc := grownCap_le_maxLen w (rs.length + xs.length) (l.C - 0) e (by simp only [maxLen]; omega)
                    obtain ⟨d1, d2⟩ := hI.drop k₀
                    obtain ⟨ρ', w', rfl, g1, g2, g3⟩ := grown_inv d1 hk (olds := rs) (news := xs) (vo := olds) (vn := news) (zv := zv) (cap := grownCap w (rs.length + xs.length) (l.C - 0) e) e hz0 hzc hz1
                      hos.len hos.one (fun i j hi hj => let ⟨u, u1, u2⟩ := hos.rd i j hi hj; ⟨u, u1, d2.rd u2⟩) hrw'
                      hsrc.len hsrc.one (fun i j hi hj => let ⟨u, u1, u2⟩ := hsrc.rd i j hi hj; ⟨u, u1, d2.rd u2⟩) hxw' hgec hroom2 hmaxc
                    refine ⟨_, _, ρ', ?_, g1, d2.trans' g2, g3⟩
                    have := run_append_grow (P := cx.P) w t ty e i zv hu hi hi3 ⟨ob, oo, none⟩ rs.length (l.C - 0) olds (by rw [hi1]; exact hos.len) hos.add ⟨yb, yo, none⟩ xs.length yc news (by rw [hi1]; exact hsrc.len) hsrc.add (by omega) (by omega) (growslice_fits (by omega) hbytes)
                    rw [hxe1]
                    exact this
                · cases h
            · cases h
          · cases h
        · cases h
      · cases h
    · cases h
  · cases h
end
end Go.Pv
