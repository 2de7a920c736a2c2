/-
  What comes in, second part: lists, designs, materials.
-/
import Derived.Test.YtnepemjcinpohaaPfo
import Derived.Test.YtnepemjcinpohaaPfq
set_option linter.unusedSimpArgs false
namespace Go.Pv
open Go Go.Proofs Go.RowKit

theorem TyV.inv_one {P : Program} {t : TypeId} {a : T} (h : TyV P t a) (hp : partsOf P t = none) : Ty P t [a] := by
  unfold TyV at h
  unfold partsOf at hp
  split at h
  · rename_i hu; rw [hu] at hp; cases hp
  · rename_i hu; rw [hu] at hp; cases hp
  · exact h
theorem list_ty {P : Program} {t e : TypeId} {ts : List T} {α : Type} {dec : List T → Option α} (h : Ty P t ts) (hu : P.underlying t = some (.slice e)) (hd : ∀ r, Ty P e r → ∃ x, dec r = some x) :
    ∃ a l, ts = [a] ∧ asL dec a = some l ∧ l.length * P.bytesOf e ≤ 2 ^ 47 ∧ l.length ≤ 2 ^ 47 := by
  obtain ⟨a, f, rows, rfl, h1, h2, h3, h4⟩ := h.inv_slice hu
  have hm : ∃ l, rows.mapM dec = some l ∧ l.length = rows.length := by
    clear h1 h2 h3
    induction rows with
    | nil => exact ⟨[], rfl, rfl⟩
    | cons r rows ih =>
      obtain ⟨l, hl, hll⟩ := ih fun r hr => h4 r (by simp [hr])
      obtain ⟨x, hx⟩ := hd r (h4 r (by simp))
      exact ⟨x :: l, by simp [hx, hl], by simp [hll]⟩
  obtain ⟨l, hl, hll⟩ := hm
  exact ⟨a, l, rfl, by simp [asL, h1, hl], by rw [hll]; exact h2, by rw [hll]; exact h3⟩
theorem listOk_ty {P : Program} {t e : TypeId} {ts : List T} (h : Ty P t ts) (hu : P.underlying t = some (.slice e)) : ∃ a, ts = [a] ∧ listOk a = true := by
  obtain ⟨a, f, rows, rfl, h1, h2, h3, h4⟩ := h.inv_slice hu
  exact ⟨a, rfl, by simp [listOk, h1]⟩
theorem procs_ty {ts : List T} (h : Ty Try.prog 22 ts) : ∃ a l, ts = [a] ∧ asProcs a = some l := by
  obtain ⟨a, l, h1, h2, _⟩ := list_ty (dec := decProc) (e := 27) h (by kernel_rfl) fun r hr => proc_ty hr
  exact ⟨a, l, h1, h2⟩
set_option maxRecDepth 100000 in
theorem joint_ty {ts : List T} (h : Ty Try.prog 35 ts) : ∃ p, decJoint ts = some p := by
  obtain ⟨hl, hh⟩ := h.inv_struct (pl := [(0, 3), (1, 3), (2, 25)]) (n := 3) (by kernel_rfl) (by kernel_rfl)
  have c3 : Try.prog.cellsOf 3 = 1 := by kernel_rfl
  have c25 : Try.prog.cellsOf 25 = 1 := by kernel_rfl
  match ts, hl with
  | [t0, t1, t2], _ =>
    simp [c3, c25] at hh
    obtain ⟨h0, h1, h2⟩ := hh
    obtain ⟨n0, e0, _⟩ := h0.inv_int (k := .i64) (by kernel_rfl)
    obtain ⟨n1, e1, _⟩ := h1.inv_int (k := .i64) (by kernel_rfl)
    obtain ⟨g, e2, hg⟩ := strsOk_ty h2
    cases e0; cases e1; cases e2
    exact ⟨⟨n0, n1, t2⟩, by simp [decJoint, hg]⟩
set_option maxRecDepth 100000 in
theorem sec_ty {ts : List T} (h : Ty Try.prog 95 ts) : ∃ p, decSec ts = some p := by
  obtain ⟨hl, hh⟩ := h.inv_struct (pl := [(0, 9), (1, 3), (2, 3), (3, 3)]) (n := 4) (by kernel_rfl) (by kernel_rfl)
  have c9 : Try.prog.cellsOf 9 = 1 := by kernel_rfl
  have c3 : Try.prog.cellsOf 3 = 1 := by kernel_rfl
  match ts, hl with
  | [t0, t1, t2, t3], _ =>
    simp [c9, c3] at hh
    obtain ⟨h0, h1, h2, h3⟩ := hh
    obtain ⟨s, e0, _⟩ := h0.inv_string (by kernel_rfl)
    obtain ⟨n1, e1, _⟩ := h1.inv_int (k := .i64) (by kernel_rfl)
    obtain ⟨n2, e2, _⟩ := h2.inv_int (k := .i64) (by kernel_rfl)
    obtain ⟨n3, e3, _⟩ := h3.inv_int (k := .i64) (by kernel_rfl)
    cases e0; cases e1; cases e2; cases e3
    exact ⟨⟨s, n1, n2, n3⟩, rfl⟩
set_option maxRecDepth 100000 in
theorem mat_ty {ts : List T} (h : Ty Try.prog 48 ts) : ∃ p, decMat ts = some p := by
  obtain ⟨hl, hh⟩ := h.inv_struct (pl := [(0, 45), (1, 46)]) (n := 2) (by kernel_rfl) (by kernel_rfl)
  have c45 : Try.prog.cellsOf 45 = 1 := by kernel_rfl
  have c46 : Try.prog.cellsOf 46 = 1 := by kernel_rfl
  match ts, hl with
  | [t0, t1], _ =>
    simp [c45, c46] at hh
    obtain ⟨h0, h1⟩ := hh
    obtain ⟨a, e0, ha⟩ := listOk_ty (e := 124) h0 (by kernel_rfl)
    obtain ⟨b, l, e1, hb, _⟩ := list_ty (dec := decSec) (e := 95) h1 (by kernel_rfl) fun r hr => sec_ty hr
    cases e0; cases e1
    exact ⟨⟨t0, t1⟩, by simp [decMat, ha, hb]⟩
set_option maxRecDepth 100000 in
theorem point_ty {ts : List T} (h : Ty Try.prog 91 ts) : ts.length = 2 :=
  (h.inv_struct (pl := [(0, 3), (1, 3)]) (n := 2) (by kernel_rfl) (by kernel_rfl)).1
theorem points_ty {ts : List T} (h : Ty Try.prog 60 ts) : ∃ a, ts = [a] ∧ listOkC 2 16 a = true := by
  obtain ⟨a, f, rows, rfl, h1, h2, h3, h4⟩ := h.inv_slice (e := 91) (by kernel_rfl)
  refine ⟨a, rfl, ?_⟩
  have hb : Try.prog.bytesOf 91 = 16 := by kernel_rfl
  rw [hb] at h2
  have hw : allW 2 rows = true := by
    unfold allW
    rw [List.all_eq_true]
    exact fun r hr => by simpa using point_ty (h4 r hr)
  simp [listOkC, h1, copyOk, hw]
  omega
theorem holes_ty {ts : List T} (h : Ty Try.prog 61 ts) : ∃ a, ts = [a] ∧ holesOk a = true := by
  obtain ⟨a, l, rfl, h1, h2, h3⟩ := list_ty (dec := decH) (e := 60) h (by kernel_rfl) fun r hr => by
    obtain ⟨a, rfl, ha⟩ := points_ty hr
    exact ⟨a, by simp [decH, ha]⟩
  refine ⟨a, rfl, ?_⟩
  have hb : Try.prog.bytesOf 60 = 24 := by kernel_rfl
  rw [hb] at h2
  simp [holesOk, h1]
  omega
set_option maxRecDepth 100000 in
theorem part_ty {ts : List T} (h : Ty Try.prog 69 ts) : ∃ p, decPart ts = some p := by
  obtain ⟨hl, hh⟩ := h.inv_struct (pl := [(0, 9), (1, 3), (2, 3), (3, 9), (4, 9), (5, 3), (6, 63), (8, 9), (9, 3), (10, 3), (11, 65), (14, 67)]) (n := 18) (by kernel_rfl) (by kernel_rfl)
  have c9 : Try.prog.cellsOf 9 = 1 := by kernel_rfl
  have c3 : Try.prog.cellsOf 3 = 1 := by kernel_rfl
  have c60 : Try.prog.cellsOf 60 = 1 := by kernel_rfl
  have c61 : Try.prog.cellsOf 61 = 1 := by kernel_rfl
  have c63 : Try.prog.cellsOf 63 = 2 := by kernel_rfl
  have c65 : Try.prog.cellsOf 65 = 3 := by kernel_rfl
  have c67 : Try.prog.cellsOf 67 = 4 := by kernel_rfl
  match ts, hl with
  | [t0, t1, t2, t3, t4, t5, t6, t7, t8, t9, t10, t11, t12, t13, t14, t15, t16, t17], _ =>
    simp [c9, c3, c63, c65, c67] at hh
    obtain ⟨h0, h1, h2, h3, h4, h5, h6, h8, h9, h10, h11, h14⟩ := hh
    have g6 := (h6.inv_struct (pl := [(0, 60), (1, 61)]) (n := 2) (by kernel_rfl) (by kernel_rfl)).2
    have g11 := (h11.inv_struct (pl := [(0, 3), (1, 3), (2, 3)]) (n := 3) (by kernel_rfl) (by kernel_rfl)).2
    have g14 := (h14.inv_struct (pl := [(0, 65), (3, 3)]) (n := 4) (by kernel_rfl) (by kernel_rfl)).2
    simp [c60, c61] at g6
    simp [c3] at g11
    simp [c65, c3] at g14
    obtain ⟨g6, g7⟩ := g6
    obtain ⟨g11, g12, g13⟩ := g11
    obtain ⟨g14, g17⟩ := g14
    have g14 := (g14.inv_struct (pl := [(0, 3), (1, 3), (2, 3)]) (n := 3) (by kernel_rfl) (by kernel_rfl)).2
    simp [c3] at g14
    obtain ⟨g14, g15, g16⟩ := g14
    obtain ⟨s0, e0, _⟩ := h0.inv_string (by kernel_rfl)
    obtain ⟨n1, e1, _⟩ := h1.inv_int (k := .i64) (by kernel_rfl)
    obtain ⟨n2, e2, _⟩ := h2.inv_int (k := .i64) (by kernel_rfl)
    obtain ⟨s3, e3, _⟩ := h3.inv_string (by kernel_rfl)
    obtain ⟨s4, e4, _⟩ := h4.inv_string (by kernel_rfl)
    obtain ⟨n5, e5, _⟩ := h5.inv_int (k := .i64) (by kernel_rfl)
    obtain ⟨o, e6, ho⟩ := points_ty g6
    obtain ⟨hs, e7, hhs⟩ := holes_ty g7
    obtain ⟨s8, e8, _⟩ := h8.inv_string (by kernel_rfl)
    obtain ⟨n9, e9, _⟩ := h9.inv_int (k := .i64) (by kernel_rfl)
    obtain ⟨n10, e10, _⟩ := h10.inv_int (k := .i64) (by kernel_rfl)
    obtain ⟨n11, e11, _⟩ := g11.inv_int (k := .i64) (by kernel_rfl)
    obtain ⟨n12, e12, _⟩ := g12.inv_int (k := .i64) (by kernel_rfl)
    obtain ⟨n13, e13, _⟩ := g13.inv_int (k := .i64) (by kernel_rfl)
    obtain ⟨n14, e14, _⟩ := g14.inv_int (k := .i64) (by kernel_rfl)
    obtain ⟨n15, e15, _⟩ := g15.inv_int (k := .i64) (by kernel_rfl)
    obtain ⟨n16, e16, _⟩ := g16.inv_int (k := .i64) (by kernel_rfl)
    obtain ⟨n17, e17, _⟩ := g17.inv_int (k := .i64) (by kernel_rfl)
    cases e0; cases e1; cases e2; cases e3; cases e4; cases e5; cases e6; cases e7; cases e8; cases e9; cases e10; cases e11; cases e12; cases e13; cases e14; cases e15; cases e16; cases e17
    exact ⟨⟨s0, n1, n2, s3, s4, n5, t6, t7, s8, n9, n10, n11, n12, n13, n14, n15, n16, n17⟩, by simp [decPart, ho, hhs]⟩
set_option maxRecDepth 100000 in
theorem design_ty {ts : List T} (h : Ty Try.prog 44 ts) : ∃ p, decDesign ts = some p := by
  obtain ⟨hl, hh⟩ := h.inv_struct (pl := [(0, 9), (1, 38), (2, 39), (3, 40), (4, 41), (5, 42)]) (n := 6) (by kernel_rfl) (by kernel_rfl)
  have c9 : Try.prog.cellsOf 9 = 1 := by kernel_rfl
  have c38 : Try.prog.cellsOf 38 = 1 := by kernel_rfl
  have c39 : Try.prog.cellsOf 39 = 1 := by kernel_rfl
  have c40 : Try.prog.cellsOf 40 = 1 := by kernel_rfl
  have c41 : Try.prog.cellsOf 41 = 1 := by kernel_rfl
  have c42 : Try.prog.cellsOf 42 = 1 := by kernel_rfl
  match ts, hl with
  | [t0, t1, t2, t3, t4, t5], _ =>
    simp [c9, c38, c39, c40, c41, c42] at hh
    obtain ⟨h0, h1, h2, h3, h4, h5⟩ := hh
    obtain ⟨s, e0, _⟩ := h0.inv_string (by kernel_rfl)
    obtain ⟨a, e1, ha⟩ := listOk_ty (e := 117) h1 (by kernel_rfl)
    obtain ⟨b, lb, e2, hb, _⟩ := list_ty (dec := decPart) (e := 69) h2 (by kernel_rfl) fun r hr => part_ty hr
    obtain ⟨c, lc, e3, hc, _⟩ := list_ty (dec := decSeam) (e := 55) h3 (by kernel_rfl) fun r hr => seam_ty hr
    obtain ⟨d, e4, hd⟩ := listOk_ty (e := 119) h4 (by kernel_rfl)
    obtain ⟨e, e5, he⟩ := listOk_ty (e := 121) h5 (by kernel_rfl)
    cases e0; cases e1; cases e2; cases e3; cases e4; cases e5
    exact ⟨⟨s, t1, t2, t3, t4, t5⟩, by simp [decDesign, ha, hb, hc, hd, he]⟩
set_option maxRecDepth 100000 in
theorem place_ty {ts : List T} (h : Ty Try.prog 50 ts) : ∃ p, decPlace ts = some p := by
  obtain ⟨hl, hh⟩ := h.inv_struct (pl := [(0, 44), (6, 48), (8, 9)]) (n := 9) (by kernel_rfl) (by kernel_rfl)
  have c9 : Try.prog.cellsOf 9 = 1 := by kernel_rfl
  have c44 : Try.prog.cellsOf 44 = 6 := by kernel_rfl
  have c48 : Try.prog.cellsOf 48 = 2 := by kernel_rfl
  match ts, hl with
  | [t0, t1, t2, t3, t4, t5, t6, t7, t8], _ =>
    simp [c9, c44, c48] at hh
    obtain ⟨h0, h1, h2⟩ := hh
    obtain ⟨d, hd⟩ := design_ty h0
    obtain ⟨m, hm⟩ := mat_ty h1
    obtain ⟨s, e2, _⟩ := h2.inv_string (by kernel_rfl)
    cases e2
    exact ⟨⟨d, m, s⟩, by simp [decPlace, hd, hm]⟩
end Go.Pv
