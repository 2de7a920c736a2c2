/-
  Copies of slices for closed runs (an empty slice may be nil or not); functions that read, as functions of data.
-/
import Derived.Test.YtghdgefkfgikoaaGreatDoorPki
import Derived.Test.YtghdgefkfgikoaaGreatDoorPwu
set_option linter.unusedSimpArgs false
set_option linter.unusedVariables false
namespace Go.Pv
open Go Go.RowKit
def gCL (z b : Nat) : List T → Option (List (List T))
  | [.sl _ []] => some []
  | args => gClone' z b args
theorem cloneX_of {P : Program} {f : FuncId} {z b : Nat} (hm : P.follows .mixedOrders = true) (hn : plainNames P = true) (hex : ∃ fn c, P.funcs[f]? = some fn ∧ fn.body = some c) (h : CloneF P f z b) : FreshFn P f (gCL z b) := by
  refine FreshFn.finer (g' := gClone' z b) (freshFn_sx (Hs := fun _ => noHint) (EnvOk.nil _) hm hn (noHeap_of (l := []) rfl) 1 hex fun args rows hg _ => ?_) fun args rows hg args' hf => ?_
  · unfold gClone' at hg
    split at hg
    · cases hg; rw [h.1]
    · cases hg; rw [h.2.1]; exact ⟨by simp [allW], rfl⟩
    · rename_i fl a rows'
      split at hg
      · rename_i hb
        cases hg; rw [h.2.2]; exact ⟨hb, rfl⟩
      · cases hg
    · cases hg
  · match args, args', hf with
    | [], [], _ => exact hg
    | [x], [y], hf =>
      obtain ⟨h1, h2, _⟩ := hf
      cases h1 with
      | same =>
        unfold gCL at hg
        split at hg
        · rename_i f' e
          simp only [List.cons.injEq, and_true] at e
          exact absurd e (h2 f')
        · exact hg
      | nil f => cases hg; rfl
      | ne f => cases hg; rfl
      | isNe f => exact hg
    | x :: x' :: l, y :: y' :: m, hf =>
      exfalso
      unfold gCL gClone' at hg
      simp at hg
theorem runE_read {P : Program} {N : Nat} {hp : FuncId → Bool} {B : Env} {k : Nat} {f : FuncId} {fn : Func} {c : Code} (hB : B f = none) (hf : P.funcs[f]? = some fn) (hb : fn.body = some c) (hh : hp f = false) : ∃ g, runE P N hp B (k + 1) f = some (.read g) := by
  simp only [runE, hB, hf, hb, hh]
  exact ⟨_, rfl⟩
/-- A function that reads, run on data without boxes. -/
theorem pureFn_run {P : Program} (hm : P.follows .mixedOrders = true) (hn : plainNames P = true) (N : Nat) (hp : FuncId → Bool) {B : Env} (hB : EnvOk P B) (k : Nat) {f : FuncId} (h : ∃ g, runE P N hp B k f = some (.read g)) : PureFn P f (runP P N hp B k f) := by
  obtain ⟨g, hg⟩ := h
  have := ReadFn.pure (runE_ok hm hn N hp hB k f _ hg)
  unfold runP
  rw [hg]
  exact this
end Go.Pv
