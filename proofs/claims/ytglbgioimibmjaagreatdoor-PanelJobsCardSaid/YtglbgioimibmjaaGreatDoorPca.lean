/-
  slices.Clone of numbers; a form of it that runs.
-/
import Derived.Test.YtglbgioimibmjaaGreatDoorPsa
import Derived.Test.YtglbgioimibmjaaGreatDoorPlu
import Derived.Shelf.Slices.Clone
set_option linter.unusedSimpArgs false
set_option linter.unusedVariables false
set_option maxRecDepth 100000
namespace Go.Pv
open Go Go.Proofs Go.RowKit

theorem cl_cloneI : CloneF Tryz.prog 44 1 8 := ⟨fun R => by kernel_rfl, fun fl R => by kernel_rfl, fun fl a rows R => by kernel_rfl⟩
noncomputable def g_cloneI : List T → Option (List (List T)) := gS [(false, .li (.int .i64))] (spClone (.int .i64) 8)
theorem g_cloneI_at {u0} : g_cloneI [T.sl false (List.map (Sy.enc (.int .i64)) u0)] = spClone (.int .i64) 8 u0 := gS_enc (s := [(false, .li (.int .i64))]) rfl u0 rfl
theorem fn_cloneI : FreshFn Tryz.prog 44 g_cloneI := cloneF_of mixed' plain' ⟨_, _, Tryz.func44, rfl⟩ cl_cloneI

def decI : List (List T) → Option (List Int)
  | [] => some []
  | [.v (.int .i64 n)] :: l => (decI l).map fun u => n :: u
  | _ => none
theorem decI_enc : ∀ {rows : List (List T)} {u : List Int}, decI rows = some u → rows = List.map (Sy.enc (.int .i64)) u
  | [], u, h => by cases h; rfl
  | r :: l, u, h => by
    unfold decI at h
    split at h
    · rename_i h1; cases h1
    · rename_i n l' h1
      cases h1
      simp only [Option.map_eq_some_iff] at h
      obtain ⟨u', hu, rfl⟩ := h
      rw [decI_enc hu]; rfl
    · cases h
theorem slF_rd {w : World} {own : Nat → Prop} {f : Bool} {rows : List (List T)} {v : Value} (h : RdT w own (.sl f rows) v) : RdT w own (.sl false rows) v := by
  cases h with
  | slNil _ a cap h1 h2 => exact .slNil false a cap (fun h => by cases h) h2
  | sl _ rows sz blk off cap f h1 h2 h3 h4 h45 h5 h6 h7 h8 => exact .sl false rows sz blk off cap f h1 h2 (fun h => by cases h) h4 h45 h5 h6 h7 h8
def gClI : List T → Option (List (List T))
  | [.sl f (r :: rows)] => match decI (r :: rows) with
    | some u => spClone (.int .i64) 8 u
    | none => none
  | [.v (.slice none 0 0)] => some []
  | _ => none
theorem fn_clI : FreshFn1 Tryz.prog 44 gClI := ⟨fn_cloneI.entry, fun w own args vs rows hG ho ha hg => by
  unfold gClI at hg
  split at hg
  · rename_i f r0 rows'
    split at hg
    · rename_i u hu
      have h1 : RdA (RdT w own) [T.sl false (r0 :: rows')] vs := ⟨ha.1, fun i hi => by
        have hi' : i = 0 := by simpa using hi
        subst hi'
        have := ha.2 0 (by simp)
        simp only [List.getElem_cons_zero] at this ⊢
        exact slF_rd this⟩
      have h2 : g_cloneI [T.sl false (r0 :: rows')] = some rows := by
        rw [decI_enc hu, g_cloneI_at]
        exact hg
      have hne : rows ≠ [] := by
        have he := decI_enc hu
        unfold spClone at hg
        split at hg
        · cases hg
          rw [← he]; simp
        · cases hg
      refine (fn_cloneI.calls w own _ vs rows hG ho h1 h2).mono ?_
      rintro e w' ⟨v, rfl, h3, _, h5⟩
      exact ⟨v, rfl, h3, fun h => absurd h hne, h5⟩
    · cases hg
  · cases hg
    have hv : vs = #[.slice none 0 0] := by
      have e0 := ha.2 0 (by simp)
      have hs : vs.size = 1 := ha.1
      obtain ⟨l⟩ := vs
      match l, hs with
      | [a], _ =>
        simp at e0
        cases e0; rfl
    subst hv
    refine (Any.slices_Clone_int_nil Tryz.lays2_15 0 0 w).mono ?_
    rintro e w' ⟨rfl, rfl⟩
    exact ⟨_, rfl, Below.refl _ _, fun _ => .slNil true none 0 (fun _ => rfl) (fun _ => rfl), fun h => absurd rfl h⟩
  · cases hg⟩
end Go.Pv
