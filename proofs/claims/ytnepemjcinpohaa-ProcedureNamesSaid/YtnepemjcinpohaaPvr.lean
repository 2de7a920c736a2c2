/-
  The pure evaluator, part r: small lemmas for the functions' files.
-/
import Derived.Test.YtnepemjcinpohaaPvt
import Derived.Test.YtnepemjcinpohaaPvo
set_option linter.unusedSimpArgs false
namespace Go.Pv
open Go Go.Proofs

abbrev iT (n : Int) : T := .v (.int .i64 n)
abbrev bT (b : Bool) : T := .v (.bool b)
abbrev sT (s : ByteArray) : T := .v (.string s)

/-! ### Arguments that are empty slices -/
/-- What an argument may be more exactly: an empty slice is nil or not. -/
inductive Finer : T → T → Prop
  | same (t : T) : Finer t t
  | nil (f : Bool) : Finer (.sl f []) (.v (.slice none 0 0))
  | ne (f : Bool) : Finer (.sl f []) (.ne f)
  | isNe (f : Bool) : Finer (.ne f) (.ne f)
def FinerL : List T → List T → Prop
  | [], [] => True
  | a :: l, b :: m => Finer a b ∧ (∀ f, b ≠ .sl f []) ∧ FinerL l m
  | _, _ => False
theorem RdT.finer {w : World} {own : Nat → Prop} {t : T} {v : Value} (h : RdT w own t v) : ∃ t', Finer t t' ∧ (∀ f, t' ≠ .sl f []) ∧ RdT w own t' v := by
  by_cases hs : ∃ f, t = .sl f []
  · obtain ⟨f, rfl⟩ := hs
    cases h with
    | slNil _ a cap hf hn =>
      cases a with
      | none => have := hn rfl; subst this; exact ⟨_, .nil f, by simp, .v _⟩
      | some a => exact ⟨_, .ne f, by simp, .ne f a cap hf⟩
    | sl _ _ sz b o cap g h1 h2 h3 h4 h45 h5 h6 h7 h8 => exact ⟨_, .ne f, by simp, .ne f ⟨b, o, none⟩ cap (by simpa using h3)⟩
  · exact ⟨t, .same t, fun f e => hs ⟨f, e⟩, h⟩
theorem RdA.finer {w : World} {own : Nat → Prop} : ∀ {ts : List T} {l : List Value}, RdA (RdT w own) ts l.toArray → ∃ ts', FinerL ts ts' ∧ RdA (RdT w own) ts' l.toArray
  | [], l, h => ⟨[], trivial, h⟩
  | t :: ts, [], h => by have := h.1; simp at this
  | t :: ts, v :: l, h => by
    have h0 := h.2 0 (by simp)
    simp only [List.getElem_cons_zero] at h0
    have e0 : ((v :: l).toArray.getD 0 undef) = v := by simp [Array.getD]
    rw [e0] at h0
    obtain ⟨t', f1, f2, f3⟩ := h0.finer
    have ht : RdA (RdT w own) ts l.toArray := ⟨by have := h.1; simpa using this, fun i hi => by
      have := h.2 (i + 1) (by simpa using hi)
      simpa [Array.getD_eq_getD_getElem?] using this⟩
    obtain ⟨ts', g1, g2⟩ := RdA.finer ht
    refine ⟨t' :: ts', ⟨f1, f2, g1⟩, ?_⟩
    have := (RdA.one f3).append g2
    simpa using this
theorem PureFn.finer {P : Program} {f : FuncId} {g g' : List T → Option T} (h : PureFn P f g') (hg : ∀ args r, g args = some r → ∀ args', FinerL args args' → g' args' = some r) : PureFn P f g :=
  ⟨h.entry, fun w own args vs r ho ha hr => by
    obtain ⟨l⟩ := vs
    obtain ⟨args', h1, h2⟩ := RdA.finer ha
    exact h.calls w own args' _ r ho h2 (hg args r hr args' h1)⟩
theorem FreshFn.finer {P : Program} {f : FuncId} {g g' : List T → Option (List (List T))} (h : FreshFn P f g') (hg : ∀ args r, g args = some r → ∀ args', FinerL args args' → g' args' = some r) : FreshFn P f g :=
  ⟨h.entry, fun w own args vs r ho ha hr => by
    obtain ⟨l⟩ := vs
    obtain ⟨args', h1, h2⟩ := RdA.finer ha
    exact h.calls w own args' _ r ho h2 (hg args r hr args' h1)⟩

theorem canon_rows {t : T} {f : Bool} {rows : List (List T)} (h : rowsT t = some (f, rows)) (n : Nat) : T.canon n t = .sl false rows := by
  unfold rowsT at h
  split at h <;> first | (cases h; cases n <;> rfl) | cases h

@[simp] theorem frz_row (σ : Nat → Option Box) (n : Nat) : ∀ (r : List T), (r.map D.p).mapM (frz σ n) = some r
  | [] => rfl
  | t :: r => by
    have := frz_row σ n r
    have h1 : frz σ n (.p t) = some t := by cases n <;> rfl
    simp only [List.map_cons, List.mapM_cons, h1, this]
    rfl
@[simp] theorem frz_rows (σ : Nat → Option Box) (n : Nat) : ∀ (rows : List (List T)), (rows.map fun r => r.map D.p).mapM (fun r => r.mapM (frz σ n)) = some rows
  | [] => rfl
  | r :: rows => by
    have := frz_rows σ n rows
    simp only [List.map_cons, List.mapM_cons, frz_row, this]
    rfl

@[simp] theorem frz_row' (σ : Nat → Option Box) (n : Nat) (r : List T) : r.mapM (frz σ n ∘ D.p) = some r := by
  have := frz_row σ n r
  rwa [List.mapM_map] at this
@[simp] theorem frz_rows' (σ : Nat → Option Box) (n : Nat) (rows : List (List T)) : rows.mapM ((fun r => r.mapM (frz σ n)) ∘ fun r => r.map D.p) = some rows := by
  have := frz_rows σ n rows
  rwa [List.mapM_map] at this
@[simp] theorem take_map_len {α β : Type} (f : α → β) (l : List α) : (l.map f).take l.length = l.map f := by
  rw [← List.map_take, List.take_length]

@[simp] theorem nn_ne1 (n : Nat) : (n = n + 1) = False := eq_false (by omega)
@[simp] theorem nn_ne'1 (n : Nat) : (n + 1 = n) = False := eq_false (by omega)
@[simp] theorem nn_ne2 (n : Nat) : (n = n + 1 + 1) = False := eq_false (by omega)
@[simp] theorem nn_ne'2 (n : Nat) : (n + 1 + 1 = n) = False := eq_false (by omega)
@[simp] theorem nn_ne3 (n : Nat) : (n = n + 1 + 1 + 1) = False := eq_false (by omega)
@[simp] theorem nn_ne'3 (n : Nat) : (n + 1 + 1 + 1 = n) = False := eq_false (by omega)
@[simp] theorem nn_ne4 (n : Nat) : (n = n + 1 + 1 + 1 + 1) = False := eq_false (by omega)
@[simp] theorem nn_ne'4 (n : Nat) : (n + 1 + 1 + 1 + 1 = n) = False := eq_false (by omega)
@[simp] theorem nn_ne5 (n : Nat) : (n = n + 1 + 1 + 1 + 1 + 1) = False := eq_false (by omega)
@[simp] theorem nn_ne'5 (n : Nat) : (n + 1 + 1 + 1 + 1 + 1 = n) = False := eq_false (by omega)
@[simp] theorem nn_ne6 (n : Nat) : (n = n + 1 + 1 + 1 + 1 + 1 + 1) = False := eq_false (by omega)
@[simp] theorem nn_ne'6 (n : Nat) : (n + 1 + 1 + 1 + 1 + 1 + 1 = n) = False := eq_false (by omega)
@[simp] theorem nn_ne7 (n : Nat) : (n = n + 1 + 1 + 1 + 1 + 1 + 1 + 1) = False := eq_false (by omega)
@[simp] theorem nn_ne'7 (n : Nat) : (n + 1 + 1 + 1 + 1 + 1 + 1 + 1 = n) = False := eq_false (by omega)
@[simp] theorem nn_ne8 (n : Nat) : (n = n + 1 + 1 + 1 + 1 + 1 + 1 + 1 + 1) = False := eq_false (by omega)
@[simp] theorem nn_ne'8 (n : Nat) : (n + 1 + 1 + 1 + 1 + 1 + 1 + 1 + 1 = n) = False := eq_false (by omega)
@[simp] theorem nn_ne9 (n : Nat) : (n = n + 1 + 1 + 1 + 1 + 1 + 1 + 1 + 1 + 1) = False := eq_false (by omega)
@[simp] theorem nn_ne'9 (n : Nat) : (n + 1 + 1 + 1 + 1 + 1 + 1 + 1 + 1 + 1 = n) = False := eq_false (by omega)
@[simp] theorem nn_ne10 (n : Nat) : (n = n + 1 + 1 + 1 + 1 + 1 + 1 + 1 + 1 + 1 + 1) = False := eq_false (by omega)
@[simp] theorem nn_ne'10 (n : Nat) : (n + 1 + 1 + 1 + 1 + 1 + 1 + 1 + 1 + 1 + 1 = n) = False := eq_false (by omega)
@[simp] theorem nn_ne11 (n : Nat) : (n = n + 1 + 1 + 1 + 1 + 1 + 1 + 1 + 1 + 1 + 1 + 1) = False := eq_false (by omega)
@[simp] theorem nn_ne'11 (n : Nat) : (n + 1 + 1 + 1 + 1 + 1 + 1 + 1 + 1 + 1 + 1 + 1 = n) = False := eq_false (by omega)
@[simp] theorem nn_ne12 (n : Nat) : (n = n + 1 + 1 + 1 + 1 + 1 + 1 + 1 + 1 + 1 + 1 + 1 + 1) = False := eq_false (by omega)
@[simp] theorem nn_ne'12 (n : Nat) : (n + 1 + 1 + 1 + 1 + 1 + 1 + 1 + 1 + 1 + 1 + 1 + 1 = n) = False := eq_false (by omega)
theorem drop_cons {α : Type} {l : List α} {k : Nat} (h : k < l.length) : l.drop k = l[k] :: l.drop (k + 1) := List.drop_eq_getElem_cons h

theorem asL_dec {α : Type} {dec : List T → Option α} {enc : α → List T} (hd : ∀ r a, dec r = some a → r = enc a) {t : T} {l : List α} (h : asL dec t = some l) : ∀ a ∈ l, dec (enc a) = some a := by
  simp only [asL, Option.bind_eq_some_iff] at h
  obtain ⟨⟨f, rows⟩, h1, h2⟩ := h
  simp only at h2
  clear h1
  induction rows generalizing l with
  | nil => simp at h2; subst h2; simp
  | cons r rows ih =>
    simp only [List.mapM_cons, Option.bind_eq_bind, Option.bind_eq_some_iff, Option.pure_def] at h2
    obtain ⟨a, ha, l', hl, e⟩ := h2
    cases e
    intro b hb
    rcases List.mem_cons.1 hb with rfl | hb
    · have := hd r b ha; rw [← this]; exact ha
    · exact ih hl b hb
end Go.Pv
