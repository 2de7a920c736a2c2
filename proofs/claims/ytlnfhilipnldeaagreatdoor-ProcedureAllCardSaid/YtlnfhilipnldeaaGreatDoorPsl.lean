/-
  What stands between the full stops of a string: plain facts.
-/
import Derived.Lib.SplitLaws
import Derived.Lib.IndexBytes
set_option linter.unusedSimpArgs false
set_option linter.unusedVariables false
namespace Go.Pv
open Go Go.Lib

/-- The pieces of a list of bytes between full stops. -/
def spl : List UInt8 → List (List UInt8)
  | [] => [[]]
  | b :: l => if b = 46 then [] :: spl l else match spl l with
    | h :: t => (b :: h) :: t
    | [] => [[b]]
/-- The same behind what has been read of the first. -/
def splA (acc l : List UInt8) : List (List UInt8) := match spl l with
  | h :: t => (acc ++ h) :: t
  | [] => [acc]
theorem spl_ne (l : List UInt8) : spl l ≠ [] := by
  cases l with
  | nil => simp [spl]
  | cons b l =>
    unfold spl
    split
    · simp
    · split <;> simp
theorem splA_nil (l : List UInt8) : splA [] l = spl l := by
  unfold splA
  cases h : spl l with
  | nil => exact absurd h (spl_ne l)
  | cons a t => rfl
theorem splA_end (acc : List UInt8) : splA acc [] = [acc] := by simp [splA, spl]
theorem splA_dot (acc l : List UInt8) : splA acc (46 :: l) = acc :: spl l := by simp [splA, spl]
theorem splA_step (acc l : List UInt8) {b : UInt8} (h : b ≠ 46) : splA acc (b :: l) = splA (acc ++ [b]) l := by
  unfold splA
  rw [spl, if_neg h]
  cases hl : spl l with
  | nil => exact absurd hl (spl_ne l)
  | cons a t => simp
theorem index46_ne {b : UInt8} {l : List UInt8} (h : b ≠ 46) : index (b :: l) [46] = if index l [46] == -1 then -1 else index l [46] + 1 := by
  simp only [index_one]
  rw [indexByte]
  rw [if_neg (by simpa using h)]
theorem splitK_ne {b : UInt8} {l : List UInt8} (h : b ≠ 46) : ∀ k, splitK [46] 0 k (b :: l) = match splitK [46] 0 k l with
    | h :: t => (b :: h) :: t
    | [] => [[b]]
  | 0 => rfl
  | k + 1 => by
    have hge := index_ge l [46]
    rw [splitK, splitK, index46_ne h]
    by_cases hm : index l [46] = -1
    · simp [hm]
    · have h1 : ¬ (index l [46] == -1) = true := by simpa using hm
      have h2 : ¬ (index l [46] + 1 == -1) = true := by simp; omega
      have e1 : (index l [46] + 1).toNat = (index l [46]).toNat + 1 := by omega
      rw [if_neg h1, if_neg h2, if_neg h1, e1]
      simp [Nat.add_right_comm]
theorem splitK_spl : ∀ l : List UInt8, splitK [46] 0 (l.count 46) l = spl l
  | [] => rfl
  | b :: l => by
    by_cases h : b = 46
    · subst h
      have : (46 :: l : List UInt8).count 46 = l.count 46 + 1 := by simp
      rw [this, splitK]
      have hi : index (46 :: l : List UInt8) [46] = 0 := by rw [index_one, indexByte]; simp
      rw [hi, spl, if_pos rfl, ← splitK_spl l]
      simp
    · rw [List.count_cons_of_ne (by simpa using h), splitK_ne h, splitK_spl l, spl, if_neg h]
abbrev dot : ByteArray := ⟨#[46]⟩
def piecesOf (s : ByteArray) : List ByteArray := splitB dot 0 (countB s dot) s
theorem piecesOf_spl (s : ByteArray) : (piecesOf s).map (·.data.toList) = spl s.data.toList := by
  unfold piecesOf
  rw [splitB_data]
  show splitK [46] 0 (count s.data.toList [46]) s.data.toList = _
  rw [count_one, splitK_spl]
theorem ba_inj {a b : ByteArray} (h : a.data.toList = b.data.toList) : a = b := by
  apply ByteArray.ext
  exact Array.toList_inj.1 h
theorem parts_eq {out : List ByteArray} {s : ByteArray} (h : out.map (·.data.toList) = spl s.data.toList) : out = piecesOf s := by
  rw [← piecesOf_spl] at h
  exact List.map_inj_right (fun _ _ e => ba_inj e) |>.1 h
def sumL : List (List UInt8) → Nat
  | [] => 0
  | a :: l => a.length + sumL l
theorem sum_spl : ∀ l : List UInt8, sumL (spl l) + (spl l).length = l.length + 1
  | [] => rfl
  | b :: l => by
    have ih := sum_spl l
    unfold spl
    split
    · simp [sumL]; omega
    · cases h : spl l with
      | nil => exact absurd h (spl_ne l)
      | cons a t => rw [h] at ih; simp [sumL] at ih ⊢; omega
def sumSz : List ByteArray → Nat
  | [] => 0
  | a :: l => a.size + sumSz l
theorem sumSz_L : ∀ l : List ByteArray, sumSz l = sumL (l.map (·.data.toList))
  | [] => rfl
  | a :: l => by
    simp only [sumSz, List.map_cons, sumL, sumSz_L l]
    have : a.data.toList.length = a.size := by rw [Array.length_toList]; rfl
    omega
theorem parts_sum (s : ByteArray) : sumSz (piecesOf s) + (piecesOf s).length = s.size + 1 := by
  have h := sum_spl s.data.toList
  rw [← piecesOf_spl, ← sumSz_L, List.length_map] at h
  have e : s.data.toList.length = s.size := by rw [Array.length_toList]; rfl
  rw [e] at h; exact h
theorem parts_pos (s : ByteArray) : 1 ≤ (piecesOf s).length := by
  have h : (piecesOf s).map (·.data.toList) ≠ [] := by rw [piecesOf_spl]; exact spl_ne _
  have : piecesOf s ≠ [] := fun e => h (by rw [e]; rfl)
  exact Nat.pos_of_ne_zero fun e => this (List.length_eq_zero_iff.1 e)
end Go.Pv
