/-
  The pure evaluator, part o: how code is walked, one piece at a time; lists that are read.
-/
import Derived.Test.YtghdgefkfgikoaaGreatDoorPwu
set_option linter.unusedSimpArgs false
namespace Go.Pv
open Go Go.RowKit

@[simp] theorem leaf_int (k : IntKind) (n : Int) : T.leaf (.v (.int k n)) = true := rfl
@[simp] theorem leaf_str (s : ByteArray) : T.leaf (.v (.string s)) = true := rfl
@[simp] theorem leaf_bool (b : Bool) : T.leaf (.v (.bool b)) = true := rfl
@[simp] theorem leaf_slice (a : Option Addr) (n c : Nat) : T.leaf (.v (.slice a n c)) = true := rfl
@[simp] theorem leaf_pointer (a : Option Addr) : T.leaf (.v (.pointer a)) = true := rfl
@[simp] theorem leaf_map (a : Option Nat) : T.leaf (.v (.map a)) = true := rfl
@[simp] theorem leaf_nilFunc : T.leaf (.v .nilFunc) = true := rfl
@[simp] theorem leaf_nilIface : T.leaf (.v .nilIface) = true := rfl
@[simp] theorem leaf_vagg (cs : Array Value) : T.leaf (.v (.agg cs)) = false := rfl
@[simp] theorem leaf_agg (cs : List T) : T.leaf (.agg cs) = false := rfl
@[simp] theorem leaf_tup (cs : List T) : T.leaf (.tup cs) = false := rfl
@[simp] theorem leaf_sl (f : Bool) (rows : List (List T)) : T.leaf (.sl f rows) = true := rfl
@[simp] theorem leaf_ne (f : Bool) : T.leaf (.ne f) = true := rfl
@[simp] theorem cells_ne (f : Bool) : T.cells (.ne f) = [.ne f] := rfl
@[simp] theorem rowsT_ne (f : Bool) : rowsT (.ne f) = some (f, []) := rfl
@[simp] theorem leaf_ref (cs : List T) : T.leaf (.ref cs) = true := rfl
@[simp] theorem leaf_fn (f : FuncId) (a b : List T) : T.leaf (.fn f a b) = true := rfl
@[simp] theorem cells_int (k : IntKind) (n : Int) : T.cells (.v (.int k n)) = [.v (.int k n)] := rfl
@[simp] theorem cells_str (s : ByteArray) : T.cells (.v (.string s)) = [.v (.string s)] := rfl
@[simp] theorem cells_bool (b : Bool) : T.cells (.v (.bool b)) = [.v (.bool b)] := rfl
@[simp] theorem cells_slice (a : Option Addr) (n c : Nat) : T.cells (.v (.slice a n c)) = [.v (.slice a n c)] := rfl
@[simp] theorem cells_pointer (a : Option Addr) : T.cells (.v (.pointer a)) = [.v (.pointer a)] := rfl
@[simp] theorem cells_vmap (a : Option Nat) : T.cells (.v (.map a)) = [.v (.map a)] := rfl
@[simp] theorem cells_vagg (cs : Array Value) : T.cells (.v (.agg cs)) = cs.toList.map .v := rfl
@[simp] theorem cells_agg (cs : List T) : T.cells (.agg cs) = cs := rfl
@[simp] theorem cells_sl (f : Bool) (rows : List (List T)) : T.cells (.sl f rows) = [.sl f rows] := rfl
@[simp] theorem cells_ref (cs : List T) : T.cells (.ref cs) = [.ref cs] := rfl
@[simp] theorem cells_fn (f : FuncId) (a b : List T) : T.cells (.fn f a b) = [.fn f a b] := rfl
theorem rowsT_leaf {t : T} {x : Bool × List (List T)} (h : rowsT t = some x) : t.leaf = true := by
  unfold rowsT at h
  split at h <;> first | rfl | cases h
theorem rowsT_cells {t : T} {x : Bool × List (List T)} (h : rowsT t = some x) : t.cells = [t] := by
  unfold rowsT at h
  split at h <;> first | rfl | cases h
@[simp] theorem nat_neg (k : Nat) : ((k : Int) < 0) ↔ False := by simp
@[simp] theorem nat_neg1 (k : Nat) : ((k : Int) + 1 < 0) ↔ False := by simp; omega
@[simp] theorem rowsT_sl (f : Bool) (rows : List (List T)) : rowsT (.sl f rows) = some (f, rows) := rfl
@[simp] theorem rowsT_nil : rowsT (.v (.slice none 0 0)) = some (true, []) := rfl
theorem upd_apply {α : Type} (f : Nat → α) (i : Nat) (x : α) (j : Nat) : upd f i x j = if j = i then x else f j := rfl

theorem wrap_id (n : Int) (h1 : -9223372036854775808 ≤ n) (h2 : n ≤ 9223372036854775807) : IntKind.i64.wrap n = n := by
  simp only [IntKind.wrap, IntKind.bits, IntKind.signed]
  simp
  omega

/-! ### Lists of strings -/
def encS (s : ByteArray) : List T := [.v (.string s)]
def decS : List T → Option ByteArray
  | [.v (.string s)] => some s
  | _ => none
theorem mapM_dec {α : Type} {dec : List T → Option α} {enc : α → List T} (hd : ∀ r a, dec r = some a → r = enc a) : ∀ {rows : List (List T)} {l : List α}, rows.mapM dec = some l → rows = l.map enc
  | [], l, h => by simp at h; subst h; rfl
  | r :: rows, l, h => by
    simp only [List.mapM_cons, Option.bind_eq_bind, Option.bind_eq_some_iff, Option.pure_def] at h
    obtain ⟨s, hs, l', hl, e⟩ := h
    cases e
    rw [hd r s hs, mapM_dec hd hl]
    rfl
theorem mapM_enc {α : Type} {dec : List T → Option α} {enc : α → List T} (hd : ∀ a, dec (enc a) = some a) : ∀ (l : List α), (l.map enc).mapM dec = some l
  | [] => rfl
  | a :: l => by simp [List.mapM_cons, hd, mapM_enc hd l]
/-- A slice as a list, its rows decoded. -/
def asL {α : Type} (dec : List T → Option α) (t : T) : Option (List α) := (rowsT t).bind fun x => x.2.mapM dec
theorem asL_leaf {α : Type} {dec : List T → Option α} {t : T} {l : List α} (h : asL dec t = some l) : t.leaf = true ∧ t.cells = [t] := by
  unfold asL at h
  simp only [Option.bind_eq_some_iff] at h
  obtain ⟨x, h1, _⟩ := h
  exact ⟨rowsT_leaf h1, rowsT_cells h1⟩
theorem asL_spec {α : Type} {dec : List T → Option α} {enc : α → List T} (hd : ∀ r a, dec r = some a → r = enc a) {t : T} {l : List α} (h : asL dec t = some l) : ∃ f, rowsT t = some (f, l.map enc) := by
  simp only [asL, Option.bind_eq_some_iff] at h
  obtain ⟨⟨f, rows⟩, h1, h2⟩ := h
  exact ⟨f, by rw [h1, ← mapM_dec hd h2]⟩
theorem asL_of {α : Type} {dec : List T → Option α} {enc : α → List T} (hd : ∀ a, dec (enc a) = some a) {t : T} {f : Bool} {l : List α} (h : rowsT t = some (f, l.map enc)) : asL dec t = some l := by
  simp [asL, h, mapM_enc hd]
theorem decS_spec (r : List T) (s : ByteArray) (h : decS r = some s) : r = encS s := by
  unfold decS at h
  split at h
  · cases h; rfl
  · cases h
abbrev asStrs := asL decS
theorem asStrs_spec {t : T} {l : List ByteArray} (h : asStrs t = some l) : ∃ f, rowsT t = some (f, l.map encS) := asL_spec decS_spec h
theorem Bd_rows {t : T} {f : Bool} {rows : List (List T)} (h : Bd t) (hr : rowsT t = some (f, rows)) : rows.length ≤ 2 ^ 47 := by
  unfold rowsT at hr
  split at hr
  · cases hr; simp at h; exact h.1
  · cases hr; simp
  · cases hr; simp
  · cases hr
end Go.Pv
