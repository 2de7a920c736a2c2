/-
  slices.Sort of a list of integers, by the library's contract.
-/
import Derived.Test.YtlpcelingpgmfaaDoorPkl
import Derived.Test.YtlpcelingpgmfaaDoorPlt
import Derived.Shelf.Sort.Plain
import Derived.Shelf.Slices.In.SortNone
import Derived.Test.YtlpcelingpgmfaaDoorPsa
set_option linter.unusedSimpArgs false
set_option linter.unusedVariables false
namespace Go.Pv
open Go Go.RowKit Go.Proofs Go.Sort
def decI : List (List T) → Option (List Int)
  | [] => some []
  | [.v (.int .i64 i)] :: r => (decI r).map (i :: ·)
  | _ => none
theorem decI_spec : ∀ {rows : List (List T)} {l : List Int}, decI rows = some l → rows = l.map fun a => [.v (.int .i64 a)]
  | [], l, h => by cases h; rfl
  | [.v (.int .i64 i)] :: r, l, h => by
    simp only [decI, Option.map_eq_some_iff] at h
    obtain ⟨l', h1, rfl⟩ := h
    rw [decI_spec h1]; rfl
theorem decI_enc (l : List Int) : decI (List.map (Sy.int .i64).enc l) = some l := by
  induction l with
  | nil => rfl
  | cons a l ih => show (decI (List.map (Sy.int .i64).enc l)).map (a :: ·) = _; rw [ih]; rfl
def sortL (l : List Int) : List Int := l.mergeSort fun x y => decide (x ≤ y)
def g_sortI (rows : List (List T)) : Option (List (List T)) := (decI rows).map fun l => (sortL l).map fun a => [.v (.int .i64 a)]
theorem g_sortI_at (l : List Int) (K : List (List T) → Prop) : optK (List (List T)) (g_sortI (List.map (Sy.int .i64).enc l)) K = K (List.map (Sy.int .i64).enc (sortL l)) := by
  have e : g_sortI (List.map (Sy.int .i64).enc l) = some (List.map (Sy.int .i64).enc (sortL l)) := by
    unfold g_sortI; rw [decI_enc]; rfl
  rw [e]
  apply propext
  constructor
  · rintro ⟨y, h1, h2⟩; cases h1; exact h2
  · exact fun h => ⟨_, rfl, h⟩
theorem fn_sortI : HeapFn Tryd.prog 45 (gPerm 1 g_sortI) :=
  perm_sort (fun a => .int .i64 a) (fun _ => rfl) decI (fun _ _ h => decI_spec h) sortL (fun l => by simp [sortL]) ⟨_, Tryd.func45, by kernel_rfl, by kernel_rfl⟩
    (fun blk cap zs w hH hb hs => Any.slices_Sort_int Tryd.lays189 blk 0 cap zs w hH hb hs) (fun p cap w => Any.slices_Sort_int_none Tryd.lays189 p cap w)
end Go.Pv
