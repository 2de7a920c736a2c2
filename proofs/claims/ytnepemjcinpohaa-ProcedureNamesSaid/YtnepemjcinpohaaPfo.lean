/-
  What comes in, as the functions read it.
-/
import Derived.Test.YtnepemjcinpohaaPvq
import Derived.Test.YtnepemjcinpohaaPfn
set_option linter.unusedSimpArgs false
namespace Go.Pv
open Go Go.Proofs Go.RowKit

section
variable {P : Program}
theorem Ty.inv_int {t : TypeId} {k : IntKind} {ts : List T} (h : Ty P t ts) (hu : P.underlying t = some (.int k)) : ∃ n, ts = [.v (.int k n)] ∧ (Lit.int k n).wf = true := by
  cases h with
  | int _ k' n hu' hw => rw [hu] at hu'; cases hu'; exact ⟨n, rfl, hw⟩
  | bool _ b hu' => rw [hu] at hu'; cases hu'
  | string _ s hu' => rw [hu] at hu'; cases hu'
  | slice _ e a f rows hu' => rw [hu] at hu'; cases hu'
  | parts _ pl n ts hp => simp [partsOf, hu] at hp
theorem Ty.inv_string {t : TypeId} {ts : List T} (h : Ty P t ts) (hu : P.underlying t = some .string) : ∃ s, ts = [.v (.string s)] ∧ s.size ≤ 2 ^ 47 := by
  cases h with
  | int _ k' n hu' hw => rw [hu] at hu'; cases hu'
  | bool _ b hu' => rw [hu] at hu'; cases hu'
  | string _ s hu' hs => exact ⟨s, rfl, hs⟩
  | slice _ e a f rows hu' => rw [hu] at hu'; cases hu'
  | parts _ pl n ts hp => simp [partsOf, hu] at hp
theorem Ty.inv_slice {t e : TypeId} {ts : List T} (h : Ty P t ts) (hu : P.underlying t = some (.slice e)) : ∃ a f rows, ts = [a] ∧ rowsT a = some (f, rows) ∧ rows.length * P.bytesOf e ≤ 2 ^ 47 ∧ rows.length ≤ 2 ^ 47 ∧ ∀ r ∈ rows, Ty P e r := by
  cases h with
  | int _ k' n hu' hw => rw [hu] at hu'; cases hu'
  | bool _ b hu' => rw [hu] at hu'; cases hu'
  | string _ s hu' => rw [hu] at hu'; cases hu'
  | slice _ e a f rows hu' h1 h2 h3 h4 => rw [hu] at hu'; cases hu'; exact ⟨a, f, rows, rfl, h1, h2, h3, h4⟩
  | parts _ pl n ts hp => simp [partsOf, hu] at hp
theorem Ty.inv_struct {t : TypeId} {pl : List (Nat × TypeId)} {n : Nat} {ts : List T} (h : Ty P t ts) (hp : partsOf P t = some pl) (hc : contig P 0 pl = some n) : ts.length = n ∧ ∀ p ∈ pl, Ty P p.2 ((ts.drop p.1).take (P.cellsOf p.2)) := by
  cases h with
  | int _ k' n hu' hw => simp [partsOf, hu'] at hp
  | bool _ b hu' => simp [partsOf, hu'] at hp
  | string _ s hu' => simp [partsOf, hu'] at hp
  | slice _ e a f rows hu' => simp [partsOf, hu'] at hp
  | parts _ pl' n' ts hp' hc' hl hh =>
    rw [hp] at hp'; cases hp'
    rw [hc] at hc'; cases hc'
    exact ⟨hl, hh⟩
end

theorem TyV.inv_agg {P : Program} {t : TypeId} {a : T} (h : TyV P t a) (hp : (partsOf P t).isSome = true) : ∃ ts, a = .agg ts ∧ Ty P t ts := by
  unfold TyV at h
  split at h
  · exact h
  · exact h
  · rename_i h1 h2
    unfold partsOf at hp
    split at hp
    · rename_i fs hu; exact absurd hu (h1 fs)
    · rename_i n e hu; exact absurd hu (h2 n e)
    · cases hp

theorem strsOk_ty {ts : List T} (h : Ty Try.prog 25 ts) : ∃ g, ts = [g] ∧ strsOk g = true := by
  obtain ⟨a, f, rows, rfl, h1, h2, h3, h4⟩ := h.inv_slice (e := 9) (by kernel_rfl)
  refine ⟨a, rfl, ?_⟩
  have hm : ∃ l, rows.mapM decS = some l ∧ l.length = rows.length := by
    clear h1 h2 h3
    induction rows with
    | nil => exact ⟨[], rfl, rfl⟩
    | cons r rows ih =>
      obtain ⟨l, hl, hll⟩ := ih fun r hr => h4 r (by simp [hr])
      obtain ⟨s, rfl, _⟩ := (h4 r (by simp)).inv_string (by kernel_rfl)
      exact ⟨s :: l, by simp [decS, hl], by simp [hll]⟩
  obtain ⟨l, hl, hll⟩ := hm
  have hb : Try.prog.bytesOf 9 = 16 := by kernel_rfl
  rw [hb] at h2
  have ha : asStrs a = some l := by simp [asStrs, asL, h1, hl]
  simp [strsOk, ha]
  omega
set_option maxRecDepth 100000 in
theorem proc_ty {ts : List T} (h : Ty Try.prog 27 ts) : ∃ p, decProc ts = some p := by
  obtain ⟨hl, hh⟩ := h.inv_struct (pl := [(0, 9), (1, 3), (2, 3), (3, 3), (4, 25), (5, 3)]) (n := 6) (by kernel_rfl) (by kernel_rfl)
  have c9 : Try.prog.cellsOf 9 = 1 := by kernel_rfl
  have c3 : Try.prog.cellsOf 3 = 1 := by kernel_rfl
  have c25 : Try.prog.cellsOf 25 = 1 := by kernel_rfl
  match ts, hl with
  | [t0, t1, t2, t3, t4, t5], _ =>
    simp [c9, c3, c25] at hh
    obtain ⟨h0, h1, h2, h3, h4, h5⟩ := hh
    obtain ⟨s, e0, _⟩ := h0.inv_string (by kernel_rfl)
    obtain ⟨n1, e1, _⟩ := h1.inv_int (k := .i64) (by kernel_rfl)
    obtain ⟨n2, e2, _⟩ := h2.inv_int (k := .i64) (by kernel_rfl)
    obtain ⟨n3, e3, _⟩ := h3.inv_int (k := .i64) (by kernel_rfl)
    obtain ⟨g, e4, hg⟩ := strsOk_ty h4
    obtain ⟨n5, e5, _⟩ := h5.inv_int (k := .i64) (by kernel_rfl)
    cases e0; cases e1; cases e2; cases e3; cases e4; cases e5
    exact ⟨⟨s, n1, n2, n3, t4, n5⟩, by simp [decProc, hg]⟩
set_option maxRecDepth 100000 in
theorem seam_ty {ts : List T} (h : Ty Try.prog 55 ts) : ∃ p, decSeam ts = some p := by
  obtain ⟨hl, hh⟩ := h.inv_struct (pl := [(0, 9), (1, 9), (2, 9), (3, 3), (4, 3), (5, 3)]) (n := 6) (by kernel_rfl) (by kernel_rfl)
  have c9 : Try.prog.cellsOf 9 = 1 := by kernel_rfl
  have c3 : Try.prog.cellsOf 3 = 1 := by kernel_rfl
  match ts, hl with
  | [t0, t1, t2, t3, t4, t5], _ =>
    simp [c9, c3] at hh
    obtain ⟨h0, h1, h2, h3, h4, h5⟩ := hh
    obtain ⟨s, e0, _⟩ := h0.inv_string (by kernel_rfl)
    obtain ⟨n1, e1, _⟩ := h1.inv_string (by kernel_rfl)
    obtain ⟨n2, e2, _⟩ := h2.inv_string (by kernel_rfl)
    obtain ⟨n3, e3, _⟩ := h3.inv_int (k := .i64) (by kernel_rfl)
    obtain ⟨n4, e4, _⟩ := h4.inv_int (k := .i64) (by kernel_rfl)
    obtain ⟨n5, e5, _⟩ := h5.inv_int (k := .i64) (by kernel_rfl)
    cases e0; cases e1; cases e2; cases e3; cases e4; cases e5
    exact ⟨⟨s, n1, n2, n3, n4, n5⟩, rfl⟩
end Go.Pv
