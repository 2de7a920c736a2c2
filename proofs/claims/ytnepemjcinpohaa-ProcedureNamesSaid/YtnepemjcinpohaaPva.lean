/-
  The pure evaluator, part a: data without addresses, and how a value in a world reads as such data.
-/
import Derived.Still
import Derived.Below
import Derived.Laws.Cells
namespace Go.Pv
open Go Go.RowKit

/-- Pure data. 'ne': a slice without elements that is not nil. 'v': a value as it stands. 'sl': a slice whose memory nobody writes any more (the Bool: no room behind it). 'ref': the address of such memory. -/
inductive T where
  | v (x : Value)
  | agg (cs : List T)
  | tup (vs : List T)
  | sl (full : Bool) (rows : List (List T))
  | ne (full : Bool)
  | ref (cs : List T)
  | fn (f : FuncId) (first cap : List T)
  deriving Inhabited

/-- Data with boxes. 'ptr', 'bs', 'map', 'it': into box k. -/
inductive D where
  | p (t : T)
  | agg (cs : List D)
  | tup (vs : List D)
  | ptr (k i j : Nat)
  | bs (k off len : Nat)
  | map (k : Nat)
  | it (k : Nat)
  | fn (f : FuncId) (first cap : List D)
  | cond (g : Bool) (d : D)
  deriving Inhabited

structure Loc where
  blk : Nat
  sz : Nat
  C : Nat
  e : TypeId

/-- The value reads as the pure datum. 'own': the blocks that may still be written. -/
inductive RdT (w : World) (own : Nat → Prop) : T → Value → Prop
  | v (x : Value) : RdT w own (.v x) x
  | agg (cs : List T) (vs : Array Value) : vs.size = cs.length → (∀ i (h : i < cs.length), RdT w own cs[i] (vs.getD i undef)) → RdT w own (.agg cs) (.agg vs)
  | tup (cs : List T) (vs : Array Value) : vs.size = cs.length → (∀ i (h : i < cs.length), RdT w own cs[i] (vs.getD i undef)) → RdT w own (.tup cs) (.tuple vs)
  | slNil (full : Bool) (a : Option Addr) (cap : Nat) : (full = true → cap = 0) → (a = none → cap = 0) → RdT w own (.sl full []) (.slice a 0 cap)
  | ne (full : Bool) (a : Addr) (cap : Nat) : (full = true → cap = 0) → RdT w own (.ne full) (.slice (some a) 0 cap)
  | sl (full : Bool) (rows : List (List T)) (sz blk off cap : Nat) (f : Nat → Nat → Value) : rows.length ≤ cap → rows.length ≤ 2 ^ 47 → (full = true → cap = rows.length) → ¬ own blk → blk < w.heap.size →
      (∀ r ∈ rows, r.length = sz) → 0 < sz → (∀ i j, i < rows.length → j < sz → w.cell? ⟨blk, off + i * sz + j, none⟩ = some (f i j) ∧ (f i j).oneCell' = true) →
      (∀ i j (hi : i < rows.length) (hj : j < rows[i].length), RdT w own rows[i][j] (f i j)) → RdT w own (.sl full rows) (.slice (some ⟨blk, off, none⟩) rows.length cap)
  | ref (cs : List T) (blk off : Nat) (f : Nat → Value) : ¬ own blk → blk < w.heap.size → (∀ j, j < cs.length → w.cell? ⟨blk, off + j, none⟩ = some (f j) ∧ (f j).oneCell' = true) →
      (∀ j (hj : j < cs.length), RdT w own cs[j] (f j)) → RdT w own (.ref cs) (.pointer (some ⟨blk, off, none⟩))
  | fn (f : FuncId) (fs cs : List T) (va vb : Array Value) : va.size = fs.length → vb.size = cs.length → (∀ i (h : i < fs.length), RdT w own fs[i] (va.getD i undef)) →
      (∀ i (h : i < cs.length), RdT w own cs[i] (vb.getD i undef)) → RdT w own (.fn f fs cs) (.func (.func f) va vb)

theorem RdT.mono {w w' : World} {own own' : Nat → Prop} (hc : ∀ b o u, ¬ own b → w.cell? ⟨b, o, none⟩ = some u → w'.cell? ⟨b, o, none⟩ = some u)
    (hz : w.heap.size ≤ w'.heap.size) (ho : ∀ b, b < w.heap.size → ¬ own b → ¬ own' b) {d : T} {v : Value} (h : RdT w own d v) : RdT w' own' d v := by
  induction h with
  | v x => exact .v x
  | agg cs vs hs _ ih => exact .agg cs vs hs ih
  | tup cs vs hs _ ih => exact .tup cs vs hs ih
  | slNil full a cap hf hn => exact .slNil full a cap hf hn
  | ne full a cap hf => exact .ne full a cap hf
  | sl full rows sz blk off cap f h1 h2 h3 h4 h45 h5 h6 h7 _ ih =>
    exact .sl full rows sz blk off cap f h1 h2 h3 (ho blk h45 h4) (by omega) h5 h6 (fun i j hi hj => ⟨hc _ _ _ h4 (h7 i j hi hj).1, (h7 i j hi hj).2⟩) ih
  | ref cs blk off f h1 h15 h2 _ ih =>
    exact .ref cs blk off f (ho blk h15 h1) (by omega) (fun j hj => ⟨hc _ _ _ h1 (h2 j hj).1, (h2 j hj).2⟩) ih
  | fn f fs cs va vb h1 h2 _ _ ih1 ih2 => exact .fn f fs cs va vb h1 h2 ih1 ih2

inductive Rd (w : World) (own : Nat → Prop) (ρ : Nat → Option Loc) : D → Value → Prop
  | p (t : T) (x : Value) : RdT w own t x → Rd w own ρ (.p t) x
  | agg (cs : List D) (vs : Array Value) : vs.size = cs.length → (∀ i (h : i < cs.length), Rd w own ρ cs[i] (vs.getD i undef)) → Rd w own ρ (.agg cs) (.agg vs)
  | tup (cs : List D) (vs : Array Value) : vs.size = cs.length → (∀ i (h : i < cs.length), Rd w own ρ cs[i] (vs.getD i undef)) → Rd w own ρ (.tup cs) (.tuple vs)
  | ptr (k i j : Nat) (l : Loc) : ρ k = some l → Rd w own ρ (.ptr k i j) (.pointer (some ⟨l.blk, i * l.sz + j, none⟩))
  | bs (k off len : Nat) (l : Loc) : ρ k = some l → off + len ≤ l.C → l.C ≤ maxLen → Rd w own ρ (.bs k off len) (.slice (some ⟨l.blk, off * l.sz, none⟩) len (l.C - off))
  | map (k : Nat) (l : Loc) : ρ k = some l → Rd w own ρ (.map k) (.map (some l.blk))
  | it (k : Nat) (l : Loc) : ρ k = some l → Rd w own ρ (.it k) (.pointer (some ⟨l.blk, 0, none⟩))
  | fn (f : FuncId) (fs cs : List D) (va vb : Array Value) : va.size = fs.length → vb.size = cs.length → (∀ i (h : i < fs.length), Rd w own ρ fs[i] (va.getD i undef)) →
      (∀ i (h : i < cs.length), Rd w own ρ cs[i] (vb.getD i undef)) → Rd w own ρ (.fn f fs cs) (.func (.func f) va vb)
  | condT (d : D) (v : Value) : Rd w own ρ d v → Rd w own ρ (.cond true d) v
  | condF (d : D) : Rd w own ρ (.cond false d) undef

theorem Rd.mono {w w' : World} {own own' : Nat → Prop} {ρ ρ' : Nat → Option Loc} (hc : ∀ b o u, ¬ own b → w.cell? ⟨b, o, none⟩ = some u → w'.cell? ⟨b, o, none⟩ = some u)
    (hz : w.heap.size ≤ w'.heap.size) (ho : ∀ b, b < w.heap.size → ¬ own b → ¬ own' b) (hρ : ∀ k l, ρ k = some l → ρ' k = some l) {d : D} {v : Value} (h : Rd w own ρ d v) : Rd w' own' ρ' d v := by
  induction h with
  | p t x h => exact .p t x (h.mono hc hz ho)
  | agg cs vs hs _ ih => exact .agg cs vs hs ih
  | tup cs vs hs _ ih => exact .tup cs vs hs ih
  | ptr k i j l h => exact .ptr k i j l (hρ _ _ h)
  | bs k off len l h h2 h3 => exact .bs k off len l (hρ _ _ h) h2 h3
  | map k l h => exact .map k l (hρ _ _ h)
  | it k l h => exact .it k l (hρ _ _ h)
  | fn f fs cs va vb h1 h2 _ _ ih1 ih2 => exact .fn f fs cs va vb h1 h2 ih1 ih2
  | condT d v _ ih => exact .condT d v ih
  | condF d => exact .condF d

/-- Lists of data, arrays of values, position by position. -/
def RdA {α : Type} (R : α → Value → Prop) (cs : List α) (vs : Array Value) : Prop := vs.size = cs.length ∧ ∀ i (h : i < cs.length), R cs[i] (vs.getD i undef)

section
variable {α β : Type} {R : α → Value → Prop}
theorem RdA.imp {R' : α → Value → Prop} {cs : List α} {vs : Array Value} (h : RdA R cs vs) (hi : ∀ d v, R d v → R' d v) : RdA R' cs vs := ⟨h.1, fun i hl => hi _ _ (h.2 i hl)⟩
theorem RdA.nil : RdA R [] #[] := ⟨rfl, fun i h => by simp at h⟩
theorem RdA.one {d : α} {v : Value} (h : R d v) : RdA R [d] #[v] := ⟨rfl, fun i hi => by
  have : i = 0 := by simpa using hi
  subst this; simpa using h⟩
theorem RdA.append {cs ds : List α} {us vs : Array Value} (h : RdA R cs us) (h' : RdA R ds vs) : RdA R (cs ++ ds) (us ++ vs) := by
  refine ⟨by simp [h.1, h'.1], fun i hi => ?_⟩
  simp only [List.length_append] at hi
  by_cases hl : i < cs.length
  · have h1 := h.2 i hl
    have h2 : i < us.size := by rw [h.1]; exact hl
    simp only [Array.getD_eq_getD_getElem?, Array.getElem?_append_left h2] at h1 ⊢
    rw [List.getElem_append_left hl]; exact h1
  · have h1 := h'.2 (i - cs.length) (by omega)
    have h2 : us.size ≤ i := by rw [h.1]; omega
    simp only [Array.getD_eq_getD_getElem?, Array.getElem?_append_right h2, h.1] at h1 ⊢
    rw [List.getElem_append_right (by omega)]; exact h1
theorem RdA.extract {cs : List α} {us : Array Value} (h : RdA R cs us) (a n : Nat) (hn : a + n ≤ cs.length) : RdA R ((cs.drop a).take n) (us.extract a (a + n)) := by
  refine ⟨by simp [h.1]; omega, fun i hi => ?_⟩
  simp at hi
  have h1 := h.2 (a + i) (by omega)
  simp only [Array.getD_eq_getD_getElem?, Array.getElem?_extract] at h1 ⊢
  rw [if_pos (by rw [h.1]; omega)]
  simpa using h1
theorem RdA.set {cs : List α} {us : Array Value} (h : RdA R cs us) (i : Nat) {d : α} {v : Value} (hd : R d v) : RdA R (cs.set i d) (us.setIfInBounds i v) := by
  refine ⟨by simp [h.1], fun j hj => ?_⟩
  simp at hj
  have h1 := h.2 j hj
  simp only [Array.getD_eq_getD_getElem?, Array.getElem?_setIfInBounds, List.getElem_set] at h1 ⊢
  by_cases e : i = j
  · subst e; rw [if_pos rfl, if_pos rfl, if_pos (by rw [h.1]; exact hj)]; simpa using hd
  · rw [if_neg e, if_neg e]; exact h1
theorem RdA.get? {cs : List α} {us : Array Value} (h : RdA R cs us) {i : Nat} {d : α} (hd : cs[i]? = some d) : ∃ v, us[i]? = some v ∧ R d v := by
  obtain ⟨hi, rfl⟩ := List.getElem?_eq_some_iff.1 hd
  have h2 : i < us.size := by rw [h.1]; exact hi
  refine ⟨us[i], by simp [h2], ?_⟩
  have := h.2 i hi
  simpa [Array.getD, h2] using this
theorem RdA.map {R' : β → Value → Prop} {cs : List α} {vs : Array Value} (g : α → β) (h : RdA R cs vs) (hg : ∀ d v, R d v → R' (g d) v) : RdA R' (cs.map g) vs :=
  ⟨by simp [h.1], fun i hi => by
    have := h.2 i (by simpa using hi)
    simpa using hg _ _ this⟩
theorem RdA.vs {g : Value → α} (hg : ∀ v, R (g v) v) (vs : Array Value) : RdA R (vs.toList.map g) vs := ⟨by simp, fun i hi => by
  have h' : i < vs.size := by simpa using hi
  simp only [List.getElem_map, Array.getElem_toList, Array.getD, h', dite_true]; exact hg _⟩
end

def T.cells : T → List T
  | .agg cs => cs
  | .v (.agg vs) => vs.toList.map .v
  | d => [d]
def D.cells : D → List D
  | .agg cs => cs
  | .p t => t.cells.map .p
  | .cond _ _ => []
  | d => [d]
/-- One cell. -/
def T.leaf : T → Bool
  | .agg _ => false
  | .tup _ => false
  | .v x => x.oneCell'
  | _ => true
def D.leaf : D → Bool
  | .agg _ => false
  | .tup _ => false
  | .p t => t.leaf
  | .cond _ _ => false
  | _ => true

section
variable {w : World} {own : Nat → Prop} {ρ : Nat → Option Loc}
theorem RdT.cells {d : T} {v : Value} (h : RdT w own d v) : RdA (RdT w own) d.cells v.cells := by
  cases h with
  | v => cases v <;> first | exact RdA.vs .v _ | exact RdA.one (.v _)
  | agg cs vs h1 h2 => exact ⟨h1, h2⟩
  | tup cs vs h1 h2 => exact RdA.one (.tup _ _ h1 h2)
  | slNil full a cap hf hn => exact RdA.one (.slNil full a cap hf hn)
  | ne full a cap hf => exact RdA.one (.ne full a cap hf)
  | sl full rows sz blk off cap f h1 h2 h3 h4 h45 h5 h6 h7 h8 => exact RdA.one (.sl full rows sz blk off cap f h1 h2 h3 h4 h45 h5 h6 h7 h8)
  | ref cs blk off f h1 h2 h3 h4 => exact RdA.one (.ref cs blk off f h1 h2 h3 h4)
  | fn f fs cs va vb h1 h2 h3 h4 => exact RdA.one (.fn f fs cs va vb h1 h2 h3 h4)
theorem Rd.cells {d : D} {v : Value} (h : Rd w own ρ d v) (hne : d.cells ≠ []) : RdA (Rd w own ρ) d.cells v.cells := by
  cases h with
  | p t _ h => exact h.cells.map _ fun _ _ h => .p _ _ h
  | agg cs vs h1 h2 => exact ⟨h1, h2⟩
  | tup cs vs h1 h2 => exact RdA.one (.tup _ _ h1 h2)
  | ptr k i j l h => exact RdA.one (.ptr k i j l h)
  | bs k off len l h h2 h3 => exact RdA.one (.bs k off len l h h2 h3)
  | map k l h => exact RdA.one (.map k l h)
  | it k l h => exact RdA.one (.it k l h)
  | fn f fs cs va vb h1 h2 h3 h4 => exact RdA.one (.fn f fs cs va vb h1 h2 h3 h4)
  | condT d _ h => exact absurd rfl hne
  | condF d => exact absurd rfl hne
theorem RdT.leaf {d : T} {v : Value} (h : RdT w own d v) (hl : d.leaf = true) : v.oneCell' = true := by
  cases h <;> first | rfl | exact hl | (simp [T.leaf] at hl)
theorem Rd.leaf {d : D} {v : Value} (h : Rd w own ρ d v) (hl : d.leaf = true) : v.oneCell' = true := by
  cases h with
  | p t _ h => exact h.leaf hl
  | _ => first | rfl | (simp [D.leaf] at hl)
end

/-! ### Boxes, and the state -/
inductive Box where
  | rows (rs : List (List D))
  | map (es : List (Value × D))
  | sit (s : ByteArray) (pos : Nat)

structure BRows (w : World) (own : Nat → Prop) (ρ : Nat → Option Loc) (l : Loc) (rs : List (List D)) (c : Array Value) : Prop where
  size : c.size = l.C * l.sz
  pos : 0 < l.sz
  small : rs.length ≤ 2 ^ 47
  len : rs.length ≤ l.C
  width : ∀ r ∈ rs, r.length = l.sz
  cell : ∀ i j (hi : i < rs.length) (hj : j < rs[i].length), ∃ v, c[i * l.sz + j]? = some v ∧ Rd w own ρ rs[i][j] v
  one : ∀ (p : Nat) (v : Value), c[p]? = some v → v.oneCell' = true

/-- The object holds the box. -/
inductive BoxIn (w : World) (own : Nat → Prop) (ρ : Nat → Option Loc) (l : Loc) : Obj → Box → Prop
  | rows (rs : List (List D)) (c : Array Value) : BRows w own ρ l rs c → BoxIn w own ρ l (.cells c l.e (0, 0)) (.rows rs)
  | map (es : List (Value × D)) (ents : Array MapEntry) (clock : Nat) : ents.size = es.length → (∀ i (h : i < es.length), ∃ e, ents[i]? = some e ∧ e.key = es[i].1 ∧ Rd w own ρ es[i].2 e.val) →
      (∀ (i j : Nat) (e f : MapEntry), ents[i]? = some e → ents[j]? = some f → e.born = f.born → i = j) → (∀ (i : Nat) (e : MapEntry), ents[i]? = some e → e.born < clock) → BoxIn w own ρ l (.map ents clock) (.map es)
  | sit (s : ByteArray) (pos : Nat) : BoxIn w own ρ l (.stringIter s pos) (.sit s pos)

theorem BoxIn.mono {w w' : World} {own own' : Nat → Prop} {ρ ρ' : Nat → Option Loc} (hc : ∀ b o u, ¬ own b → w.cell? ⟨b, o, none⟩ = some u → w'.cell? ⟨b, o, none⟩ = some u)
    (hz : w.heap.size ≤ w'.heap.size) (ho : ∀ b, b < w.heap.size → ¬ own b → ¬ own' b) (hρ : ∀ k l, ρ k = some l → ρ' k = some l) {l : Loc} {o : Obj} {x : Box} (h : BoxIn w own ρ l o x) : BoxIn w' own' ρ' l o x := by
  cases h with
  | rows rs c h => exact .rows rs c ⟨h.size, h.pos, h.small, h.len, h.width, fun i j hi hj => let ⟨v, h1, h2⟩ := h.cell i j hi hj; ⟨v, h1, h2.mono hc hz ho hρ⟩, h.one⟩
  | map es ents clock h1 h2 h3 h4 => exact .map es ents clock h1 (fun i hi => let ⟨e, a, b, c⟩ := h2 i hi; ⟨e, a, b, c.mono hc hz ho hρ⟩) h3 h4
  | sit s pos => exact .sit s pos

def BoxOk (w : World) (own : Nat → Prop) (ρ : Nat → Option Loc) (l : Loc) (x : Box) : Prop := ∃ o, w.heap[l.blk]? = some o ∧ BoxIn w own ρ l o x

structure Cx where
  P : Program
  own : Nat → Prop
  w0 : World

/-- The blocks that may still be written: the caller's, and those of the boxes. -/
def Own (cx : Cx) (ρ : Nat → Option Loc) (σ : Nat → Option Box) (b : Nat) : Prop := cx.own b ∨ ∃ k l x, σ k = some x ∧ ρ k = some l ∧ l.blk = b

structure Inv (cx : Cx) (ρ : Nat → Option Loc) (σ : Nat → Option Box) (n : Nat) (w : World) : Prop where
  boxes : ∀ k x, σ k = some x → ∃ l, ρ k = some l ∧ BoxOk w (Own cx ρ σ) ρ l x
  inj : ∀ k k' x x' l l', σ k = some x → σ k' = some x' → ρ k = some l → ρ k' = some l' → l.blk = l'.blk → k = k'
  new : ∀ k l, ρ k = some l → k < n ∧ cx.w0.heap.size ≤ l.blk ∧ l.blk < w.heap.size
  below : Below cx.w0.heap.size cx.w0 w
  ownlt : ∀ b, cx.own b → b < cx.w0.heap.size

structure St where
  s : Nat → D
  σ : Nat → Option Box
  n : Nat

def upd {α : Type} (f : Nat → α) (i : Nat) (x : α) : Nat → α := fun j => if j = i then x else f j
@[simp] theorem upd_same {α : Type} (f : Nat → α) (i : Nat) (x : α) : upd f i x i = x := by simp [upd]
theorem upd_ne {α : Type} (f : Nat → α) {i j : Nat} (x : α) (h : j ≠ i) : upd f i x j = f j := by simp [upd, h]
theorem upd_comm {α : Type} (f : Nat → α) {i j : Nat} (x y : α) (h : i ≠ j) : upd (upd f i x) j y = upd (upd f j y) i x := by
  funext k; simp only [upd]; by_cases h1 : k = i <;> by_cases h2 : k = j <;> simp_all

structure Rel (cx : Cx) (nt : Nat) (ρ : Nat → Option Loc) (st : St) (a : Act) (w : World) : Prop where
  inv : Inv cx ρ st.σ st.n w
  nt : a.tmps.size = nt
  defers : a.defers = []
  slots : ∀ i, Rd w (Own cx ρ st.σ) ρ (st.s i) (a.tmps.getD i undef)

/-- What every step of a callee keeps: all that was there. -/
theorem RdT.grow {w w' : World} {own : Nat → Prop} (hb : Below w.heap.size w w') {d : T} {v : Value} (h : RdT w own d v) : RdT w' own d v :=
  h.mono (fun b o _ _ hc => (hb.cell (p := ⟨b, o, none⟩) (World.block_lt_of_cell? w _ hc)).trans hc) hb.size (fun _ _ h => h)
theorem Rd.grow {w w' : World} {own : Nat → Prop} {ρ : Nat → Option Loc} (hb : Below w.heap.size w w') {d : D} {v : Value} (h : Rd w own ρ d v) : Rd w' own ρ d v :=
  h.mono (fun b o _ _ hc => (hb.cell (p := ⟨b, o, none⟩) (World.block_lt_of_cell? w _ hc)).trans hc) hb.size (fun _ _ h => h) (fun _ _ h => h)

theorem BoxOk.grow {w w' : World} {own : Nat → Prop} {ρ : Nat → Option Loc} (hb : Below w.heap.size w w') {l : Loc} (hl : l.blk < w.heap.size) {x : Box} (h : BoxOk w own ρ l x) : BoxOk w' own ρ l x := by
  obtain ⟨o, h1, h2⟩ := h
  exact ⟨o, (hb.block _ hl).trans h1, h2.mono (fun b o _ _ hc => (hb.cell (p := ⟨b, o, none⟩) (World.block_lt_of_cell? w _ hc)).trans hc) hb.size (fun _ _ h => h) (fun _ _ h => h)⟩

theorem Inv.grow {cx : Cx} {ρ : Nat → Option Loc} {σ : Nat → Option Box} {n n' : Nat} {w w' : World} (h : Inv cx ρ σ n w) (hb : Below w.heap.size w w') (hn : n ≤ n') : Inv cx ρ σ n' w' := by
  refine ⟨fun k x hk => ?_, h.inj, fun k l hk => ?_, ?_, h.ownlt⟩
  · obtain ⟨l, hl, hx⟩ := h.boxes k x hk
    exact ⟨l, hl, hx.grow hb (h.new k l hl).2.2⟩
  · have := h.new k l hk; have := hb.size; omega
  · exact h.below.trans (hb.mono (h.below.size))

theorem Own.lt {cx : Cx} {ρ : Nat → Option Loc} {σ : Nat → Option Box} {n : Nat} {w : World} (h : Inv cx ρ σ n w) {b : Nat} (ho : Own cx ρ σ b) : b < w.heap.size := by
  rcases ho with h1 | ⟨k, l, x, _, h2, rfl⟩
  · have := h.ownlt b h1; have := h.below.size; omega
  · exact (h.new k l h2).2.2

/-! ### A new box, and a box that changes -/
/-- What a step keeps of what is read. -/
structure Keeps (cx : Cx) (ρ ρ' : Nat → Option Loc) (σ σ' : Nat → Option Box) (w w' : World) : Prop where
  cell : ∀ b o u, ¬ Own cx ρ σ b → w.cell? ⟨b, o, none⟩ = some u → w'.cell? ⟨b, o, none⟩ = some u
  size : w.heap.size ≤ w'.heap.size
  own : ∀ b, b < w.heap.size → ¬ Own cx ρ σ b → ¬ Own cx ρ' σ' b
  loc : ∀ k l, ρ k = some l → ρ' k = some l
theorem Keeps.refl (cx : Cx) (ρ : Nat → Option Loc) (σ : Nat → Option Box) (w : World) : Keeps cx ρ ρ σ σ w w := ⟨fun _ _ _ _ h => h, Nat.le_refl _, fun _ _ h => h, fun _ _ h => h⟩
theorem Keeps.of_below {cx : Cx} {ρ : Nat → Option Loc} {σ : Nat → Option Box} {w w' : World} (hb : Below w.heap.size w w') : Keeps cx ρ ρ σ σ w w' :=
  ⟨fun b o _ _ hc => (hb.cell (p := ⟨b, o, none⟩) (World.block_lt_of_cell? w _ hc)).trans hc, hb.size, fun _ _ h => h, fun _ _ h => h⟩
theorem Keeps.rd {cx : Cx} {ρ ρ' : Nat → Option Loc} {σ σ' : Nat → Option Box} {w w' : World} (h : Keeps cx ρ ρ' σ σ' w w') {d : D} {v : Value} (hd : Rd w (Own cx ρ σ) ρ d v) : Rd w' (Own cx ρ' σ') ρ' d v :=
  hd.mono h.cell h.size h.own h.loc

theorem Inv.newBox {cx : Cx} {ρ : Nat → Option Loc} {σ : Nat → Option Box} {n k : Nat} {w : World} (h : Inv cx ρ σ n w) (hk : n ≤ k) (l : Loc) (o : Obj) (x : Box) (hl : l.blk = w.heap.size)
    (hx : BoxIn w (Own cx ρ σ) ρ l o x) :
    Inv cx (upd ρ k (some l)) (upd σ k (some x)) (k + 1) (w.alloc o) ∧ Keeps cx ρ (upd ρ k (some l)) σ (upd σ k (some x)) w (w.alloc o) := by
  have hne : ∀ i l', ρ i = some l' → i ≠ k := fun i l' hi e => by have := (h.new i l' hi).1; omega
  have hρ : ∀ i l', ρ i = some l' → upd ρ k (some l) i = some l' := fun i l' hi => by rw [upd_ne _ _ (hne i l' hi)]; exact hi
  have hσ : ∀ i y, σ i = some y → i ≠ k := fun i y hi => by obtain ⟨l', h1, _⟩ := h.boxes i y hi; exact hne i l' h1
  have hown : ∀ b, b < w.heap.size → ¬ Own cx ρ σ b → ¬ Own cx (upd ρ k (some l)) (upd σ k (some x)) b := by
    intro b hb hn hc
    rcases hc with hc | ⟨i, l', y, h1, h2, h3⟩
    · exact hn (.inl hc)
    · by_cases e : i = k
      · subst e; simp at h2; subst h2; omega
      · rw [upd_ne _ _ e] at h1 h2; exact hn (.inr ⟨i, l', y, h1, h2, h3⟩)
  have hg : Below w.heap.size w (w.alloc o) := (Below.refl _ _).alloc (Nat.le_refl _) o
  have hc : ∀ b o' u, ¬ Own cx ρ σ b → w.cell? ⟨b, o', none⟩ = some u → (w.alloc o).cell? ⟨b, o', none⟩ = some u := fun b o' u _ hc => (hg.cell (p := ⟨b, o', none⟩) (World.block_lt_of_cell? w _ hc)).trans hc
  refine ⟨⟨fun i y hi => ?_, fun i i' y y' m m' h1 h2 h3 h4 he => ?_, fun i m hm => ?_, h.below.trans (hg.mono h.below.size), h.ownlt⟩, ⟨hc, hg.size, hown, hρ⟩⟩
  · by_cases e : i = k
    · subst e
      simp at hi
      subst hi
      refine ⟨l, by simp, o, ?_, hx.mono hc hg.size hown hρ⟩
      rw [hl]; show (w.heap.push o)[w.heap.size]? = some o; simp
    · rw [upd_ne _ _ e] at hi
      obtain ⟨m, hm, o', h1, h2⟩ := h.boxes i y hi
      exact ⟨m, hρ _ _ hm, o', (hg.block _ (h.new i m hm).2.2).trans h1, h2.mono hc hg.size hown hρ⟩
  · by_cases e : i = k
    · by_cases e' : i' = k
      · omega
      · subst e
        rw [upd_ne _ _ e'] at h4
        simp at h3
        subst h3
        have := (h.new i' m' h4).2.2
        omega
    · rw [upd_ne _ _ e] at h1 h3
      by_cases e' : i' = k
      · subst e'
        simp at h4
        subst h4
        have := (h.new i m h3).2.2
        omega
      · rw [upd_ne _ _ e'] at h2 h4
        exact h.inj i i' y y' m m' h1 h2 h3 h4 he
  · by_cases e : i = k
    · subst e
      simp at hm
      subst hm
      have := h.below.size
      simp only [World.size_alloc]; omega
    · rw [upd_ne _ _ e] at hm
      have := h.new i m hm
      simp only [World.size_alloc]; omega

/-- Box k changes, its block alone is written. -/
theorem Inv.setBox {cx : Cx} {ρ : Nat → Option Loc} {σ : Nat → Option Box} {n n' k : Nat} {w w' : World} (h : Inv cx ρ σ n w) (hn : n ≤ n') {x₀ : Box} {l : Loc} (hk : σ k = some x₀) (hl : ρ k = some l) (o : Obj) (x : Box)
    (hos : w'.os = w.os) (htp : w'.tape = w.tape) (hout : w'.output = w.output) (hsz : w'.heap.size = w.heap.size) (hat : w'.heap[l.blk]? = some o) (hother : ∀ b, b ≠ l.blk → w'.heap[b]? = w.heap[b]?)
    (hx : BoxIn w (Own cx ρ σ) ρ l o x) :
    Inv cx ρ (upd σ k (some x)) n' w' ∧ Keeps cx ρ ρ σ (upd σ k (some x)) w w' := by
  have hown : ∀ b, ¬ Own cx ρ σ b → ¬ Own cx ρ (upd σ k (some x)) b := by
    intro b hn hc
    rcases hc with hc | ⟨i, l', y, h1, h2, h3⟩
    · exact hn (.inl hc)
    · by_cases e : i = k
      · subst e; exact hn (.inr ⟨i, l', x₀, hk, h2, h3⟩)
      · rw [upd_ne _ _ e] at h1; exact hn (.inr ⟨i, l', y, h1, h2, h3⟩)
  have hmine : Own cx ρ σ l.blk := .inr ⟨k, l, x₀, hk, hl, rfl⟩
  have hc : ∀ b o' u, ¬ Own cx ρ σ b → w.cell? ⟨b, o', none⟩ = some u → w'.cell? ⟨b, o', none⟩ = some u := fun b o' u hn hc => by
    have : b ≠ l.blk := fun e => hn (e ▸ hmine)
    rw [World.cell?_of_block (w := w) (hother b this)]; exact hc
  have hz : w.heap.size ≤ w'.heap.size := by omega
  refine ⟨⟨fun i y hi => ?_, fun i i' y y' m m' h1 h2 h3 h4 he => ?_, fun i m hm => ?_, ?_, h.ownlt⟩, ⟨hc, hz, fun b _ => hown b, fun _ _ h => h⟩⟩
  · by_cases e : i = k
    · subst e
      simp at hi
      subst hi
      exact ⟨l, hl, o, hat, hx.mono hc hz (fun b _ => hown b) (fun _ _ h => h)⟩
    · rw [upd_ne _ _ e] at hi
      obtain ⟨m, hm, o', h1, h2⟩ := h.boxes i y hi
      have : m.blk ≠ l.blk := fun eq => e (h.inj i k y x₀ m l hi hk hm hl eq)
      exact ⟨m, hm, o', (hother _ this).trans h1, h2.mono hc hz (fun b _ => hown b) (fun _ _ h => h)⟩
  · have ex : ∀ i y, upd σ k (some x) i = some y → ∃ z, σ i = some z := fun i y hi => by
      by_cases e : i = k
      · subst e; exact ⟨x₀, hk⟩
      · rw [upd_ne _ _ e] at hi; exact ⟨y, hi⟩
    obtain ⟨z, hz⟩ := ex _ _ h1
    obtain ⟨z', hz'⟩ := ex _ _ h2
    exact h.inj i i' z z' m m' hz hz' h3 h4 he
  · have := h.new i m hm; omega
  · refine h.below.trans ⟨hos, htp, hout, by omega, fun b hb => hother b ?_⟩
    have := (h.new k l hl).2.1
    omega

theorem Rel.put {cx : Cx} {nt : Nat} {ρ ρ' : Nat → Option Loc} {st : St} {σ' : Nat → Option Box} {n' : Nat} {a : Act} {w w' : World} (h : Rel cx nt ρ st a w) (hi : Inv cx ρ' σ' n' w') (hk : Keeps cx ρ ρ' st.σ σ' w w')
    {t : Tmp} {d : D} {v : Value} (ht : t < nt) (hd : Rd w' (Own cx ρ' σ') ρ' d v) : Rel cx nt ρ' ⟨upd st.s t d, σ', n'⟩ (a.put (some t) v) w' := by
  refine ⟨hi, by simp [Act.put, h.nt], by simp [Act.put, h.defers], fun i => ?_⟩
  simp only [Act.put, Array.getD_eq_getD_getElem?, Array.getElem?_setIfInBounds]
  by_cases e : i = t
  · subst e
    simp only [upd_same]
    simp only [if_true]
    rw [if_pos (by rw [h.nt]; exact ht)]
    exact hd
  · rw [upd_ne _ _ e, if_neg (fun e' => e e'.symm)]
    have := h.slots i
    rw [Array.getD_eq_getD_getElem?] at this
    exact hk.rd this
theorem Rel.skip {cx : Cx} {nt : Nat} {ρ ρ' : Nat → Option Loc} {st : St} {σ' : Nat → Option Box} {n' : Nat} {a : Act} {w w' : World} (h : Rel cx nt ρ st a w) (hi : Inv cx ρ' σ' n' w') (hk : Keeps cx ρ ρ' st.σ σ' w w') (v : Value) :
    Rel cx nt ρ' ⟨st.s, σ', n'⟩ (a.put none v) w' :=
  ⟨hi, h.nt, h.defers, fun i => hk.rd (h.slots i)⟩
end Go.Pv
