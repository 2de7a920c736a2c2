/-
  The symbolic executor, part d: where ways come together: a state of which only typed data are known.
-/
import Derived.Test.YtghdgefkfgikoaaGreatDoorPkc
set_option linter.unusedSimpArgs false
namespace Go.Pv
open Go Go.RowKit

/-! ### The boxes of a datum -/
inductive Blw (n : Nat) : D → Prop
  | p (t : T) : Blw n (.p t)
  | agg (cs : List D) : (∀ i (h : i < cs.length), Blw n cs[i]) → Blw n (.agg cs)
  | tup (cs : List D) : (∀ i (h : i < cs.length), Blw n cs[i]) → Blw n (.tup cs)
  | ptr (k i j : Nat) : k < n → Blw n (.ptr k i j)
  | own (k : Nat) : k < n → Blw n (.own k)
  | bs (k o l : Nat) : k < n → Blw n (.bs k o l)
  | map (k : Nat) : k < n → Blw n (.map k)
  | it (k : Nat) : k < n → Blw n (.it k)
  | fn (f : FuncId) (a b : List D) : (∀ i (h : i < a.length), Blw n a[i]) → (∀ i (h : i < b.length), Blw n b[i]) → Blw n (.fn f a b)
  | condT (g : Bool) (d : D) : Blw n d → Blw n (.cond g d)
  | condF (d : D) : Blw n (.cond false d)
  | any : Blw n .any
section
variable {w : World} {own own' : Nat → Prop} {ρ ρ' : Nat → Option Loc} {n : Nat}
theorem Rd.blw (hρ : ∀ k l, ρ k = some l → k < n) {d : D} {v : Value} (h : Rd w own ρ d v) : Blw n d := by
  induction h with
  | p t x h => exact .p t
  | agg cs vs hs _ ih => exact .agg cs ih
  | tup cs vs hs _ ih => exact .tup cs ih
  | ptr k i j l h => exact .ptr k i j (hρ _ _ h)
  | own k l h h0 h2 h3 => exact .own k (hρ _ _ h)
  | ownNil k l a h h0 => exact .own k (hρ _ _ h)
  | bs k off len l h h2 h3 => exact .bs k off len (hρ _ _ h)
  | map k l h => exact .map k (hρ _ _ h)
  | it k l h => exact .it k (hρ _ _ h)
  | fn f fs cs va vb h1 h2 _ _ ih1 ih2 => exact .fn f fs cs ih1 ih2
  | condT d v _ ih => exact .condT _ d ih
  | condF d => exact .condF d
  | any v => exact .any
theorem Rd.cut (hρ : ∀ k, k < n → ρ' k = ρ k) (ho : ∀ b, own' b → own b) {d : D} {v : Value} (h : Rd w own ρ d v) (hb : Blw n d) : Rd w own' ρ' d v := by
  induction h with
  | p t x h => exact .p t x (h.less ho)
  | agg cs vs hs _ ih => cases hb with | agg _ hb => exact .agg cs vs hs fun i hi => ih i hi (hb i hi)
  | tup cs vs hs _ ih => cases hb with | tup _ hb => exact .tup cs vs hs fun i hi => ih i hi (hb i hi)
  | ptr k i j l h => cases hb with | ptr _ _ _ hk => exact .ptr k i j l ((hρ k hk).trans h)
  | own k l h h0 h2 h3 => cases hb with | own _ hk => exact .own k l ((hρ k hk).trans h) h0 h2 h3
  | ownNil k l a h h0 => cases hb with | own _ hk => exact .ownNil k l a ((hρ k hk).trans h) h0
  | bs k off len l h h2 h3 => cases hb with | bs _ _ _ hk => exact .bs k off len l ((hρ k hk).trans h) h2 h3
  | map k l h => cases hb with | map _ hk => exact .map k l ((hρ k hk).trans h)
  | it k l h => cases hb with | it _ hk => exact .it k l ((hρ k hk).trans h)
  | fn f fs cs va vb h1 h2 _ _ ih1 ih2 => cases hb with | fn _ _ _ hb1 hb2 => exact .fn f fs cs va vb h1 h2 (fun i hi => ih1 i hi (hb1 i hi)) (fun i hi => ih2 i hi (hb2 i hi))
  | condT d v _ ih => cases hb with | condT _ _ hb => exact .condT d v (ih hb)
  | condF d => exact .condF d
  | any v => exact .any v
end
def BoxBlw (n : Nat) : Box → Prop
  | .rows _ rs => ∀ i (hi : i < rs.length) j (hj : j < rs[i].length), Blw n rs[i][j]
  | .arr _ _ _ => True
  | .map _ es => ∀ i (h : i < es.length), Blw n es[i].2
  | .sit _ _ => True
  | .mit m _ _ _ => ∀ k, m = some k → k < n
  | .mitF _ _ _ _ => True
  | .held => True
/-- A box of which the round that follows may only read. -/
def lock : Box → Box
  | .rows _ rs => .rows true rs
  | .arr _ z rows => .arr true z rows
  | .map _ es => .map true es
  | x => x
section
variable {w : World} {own own' : Nat → Prop} {ρ ρ' : Nat → Option Loc} {n : Nat} {l : Loc} {x y : Box}
theorem BoxOk.blw (hρ : ∀ k l, ρ k = some l → k < n) (h : BoxOk w own ρ l x) : BoxBlw n x := by
  rcases Nat.eq_zero_or_pos (l.L + l.C) with h0 | h0
  · obtain ⟨ro, z, rfl⟩ := h.2 h0; trivial
  · obtain ⟨o, _, hb⟩ := h.1 h0
    cases hb with
    | rows _ rs c hr hz h' =>
      cases x with
      | rows ro rs' => cases hr; exact fun i hi j hj => let ⟨v, _, hv⟩ := h'.cell i j hi hj; hv.blw hρ
      | arr ro z rows => trivial
      | _ => simp [boxR] at hr
    | map ro es ents h1 h2 => exact fun i hi => let ⟨e, _, _, _, hv⟩ := h2 i hi; hv.blw hρ
    | sit s pos => trivial
    | mit m l' since seen last h' => exact fun k hk => by cases hk; exact hρ _ _ h'
    | mitNil => exact fun k hk => by cases hk
    | mitF => trivial
    | held o => trivial
theorem rd_pRow {rows : List (List T)} {i j : Nat} (hi : i < (pRows rows).length) (hj : j < (pRows rows)[i].length) : ∃ t, (pRows rows)[i][j] = .p t := by
  simp only [pRows, List.getElem_map]; exact ⟨_, rfl⟩
theorem BoxOk.cut (hρ : ∀ k, k < n → ρ' k = ρ k) (ho : ∀ b, own' b → own b) (h : BoxOk w own ρ l x) (hb : BoxBlw n x) : BoxOk w own' ρ' l x := by
  refine ⟨fun h0 => ?_, h.2⟩
  obtain ⟨o, ho', hx⟩ := h.1 h0
  refine ⟨o, ho', ?_⟩
  cases hx with
  | rows _ rs c hr hz h' =>
    refine .rows x rs c hr hz ⟨h'.size, h'.pos, h'.small, h'.len, h'.cnt, h'.width, fun i j hi hj => ?_, h'.one⟩
    obtain ⟨v, h1, h2⟩ := h'.cell i j hi hj
    refine ⟨v, h1, h2.cut hρ ho ?_⟩
    cases x with
    | rows ro rs' => cases hr; exact hb i hi j hj
    | arr ro z rows => cases hr; obtain ⟨t, ht⟩ := rd_pRow hi hj; rw [ht]; exact .p t
    | _ => simp [boxR] at hr
  | map ro es ents h1 h2 => exact .map ro es ents h1 fun i hi => let ⟨e, a, b, c, hv⟩ := h2 i hi; ⟨e, a, b, c, hv.cut hρ ho (hb i hi)⟩
  | sit s pos => exact .sit s pos
  | mit m l' since seen last h' => exact .mit m l' since seen last ((hρ m (hb m rfl)).trans h')
  | mitNil => exact .mitNil
  | mitF es b since seen last h' => exact .mitF es b since seen last (h'.less ho)
  | held o => exact .held o
theorem BoxOk.relock (hxy : lock x = lock y) (h : BoxOk w own ρ l x) : BoxOk w own ρ l y := by
  refine ⟨fun h0 => ?_, fun h0 => ?_⟩
  · obtain ⟨o, ho', hx⟩ := h.1 h0
    refine ⟨o, ho', ?_⟩
    cases hx with
    | rows _ rs c hr hz h' =>
      cases x with
      | rows ro rs' =>
        cases y <;> simp only [lock, Box.rows.injEq, reduceCtorEq] at hxy
        obtain ⟨_, rfl⟩ := hxy
        exact .rows _ rs c hr (fun _ _ _ e => by cases e) h'
      | arr ro z rows =>
        cases y <;> simp only [lock, Box.arr.injEq, reduceCtorEq] at hxy
        obtain ⟨_, rfl, rfl⟩ := hxy
        exact .rows _ rs c hr (fun _ _ _ e => by cases e; exact hz _ _ _ rfl) h'
      | _ => simp [boxR] at hr
    | map ro es ents h1 h2 =>
      cases y <;> simp only [lock, Box.map.injEq, reduceCtorEq] at hxy
      obtain ⟨_, rfl⟩ := hxy
      exact .map _ es ents h1 h2
    | sit s pos => cases y <;> simp only [lock, reduceCtorEq] at hxy; cases hxy; exact .sit s pos
    | mit m l' since seen last h' => cases y <;> simp only [lock, reduceCtorEq] at hxy; cases hxy; exact .mit m l' since seen last h'
    | mitNil => cases y <;> simp only [lock, reduceCtorEq] at hxy; cases hxy; exact .mitNil
    | mitF es b since seen last h' => cases y <;> simp only [lock, reduceCtorEq] at hxy; cases hxy; exact .mitF es b since seen last h'
    | held o => cases y <;> simp only [lock, reduceCtorEq] at hxy; exact .held o
  · obtain ⟨ro, z, rfl⟩ := h.2 h0
    cases y <;> simp only [lock, Box.arr.injEq, reduceCtorEq] at hxy
    obtain ⟨_, rfl, rfl⟩ := hxy
    exact ⟨_, _, rfl⟩
theorem lock_lock (x : Box) : lock (lock x) = lock x := by cases x <;> rfl
theorem lock_ro (h : boxWr x = false) : boxWr (lock x) = false := by cases x <;> first | rfl | exact h
end

/-! ### What is known where ways come together -/
/-- A slot's datum, an array of this function's own, a variable, a map, a range over a string, over a map. -/
inductive It where
  | val (t : Tmp) (ag : Bool) (r : Sy)
  | own (t : Tmp) (z : Nat) (r : Sy)
  | box (k : Nat) (r : Sy)
  | map (k : Nat) (kr : Sy) (ag : Bool) (r : Sy)
  | sit (k : Nat)
  | mit (k : Nat) (m : Option Nat)
  | fix (k : Nat)
  | arr (k : Nat) (z : Nat) (r : Sy)
  | mitF (k : Nat)
  /-- nobody asks for the box any more. -/
  | drop (k : Nat)
  /-- a cell of a variable that holds an array of this function's own. -/
  | boc (k o z : Nat) (r : Sy)
abbrev It.den : It → Type
  | .val _ _ r => r.den
  | .own _ _ r => List r.den
  | .box _ r => r.den
  | .map _ kr _ r => List (kr.den × r.den)
  | .sit _ => ByteArray × Nat
  | .mit _ _ => Nat × List Nat × Nat
  | .fix _ => Unit
  | .arr _ _ r => List r.den
  | .mitF _ => List (Value × T) × Nat × List Nat × Nat
  | .drop _ => Unit
  | .boc _ _ _ r => List r.den
abbrev Its.den : List It → Type
  | [] => Unit
  | a :: l => a.den × Its.den l
def keyV (kr : Sy) (x : kr.den) : Value := match hdT (kr.enc x) with
  | .v x => x
  | _ => undef
def encE (kr : Sy) (ag : Bool) (r : Sy) (e : kr.den × r.den) : Value × D := (keyV kr e.1, .p (encV ag r e.2))
def canE (e : Value × D) : Value × D := match e.2 with
  | .p t => (e.1, .p (t.canon 1))
  | _ => e
def decMK (kr : Sy) (ag : Bool) (r : Sy) (es : List (Value × D)) (K : List (kr.den × r.den) → Prop) : Prop := ∃ l, es.map canE = l.map (encE kr ag r) ∧ K l
/-- A range over a map: it is done, or goes to any entry that is left. -/
def eachK (n : Nat) (seen : List Nat) (A : Prop) (B : Nat → Prop) : Prop := (mitLeft n seen = [] → A) ∧ ∀ i, i ∈ mitLeft n seen → B i
def entK (kr : Sy) (ag : Bool) (r : Sy) (es : List (Value × D)) (seen : List Nat) (K : kr.den → r.den → Prop) : Prop := ∃ i x y, seen.getLast? = some i ∧ es[i]? = some (encE kr ag r (x, y)) ∧ K x y
/-- The box holds what it held. -/
def sameK (x y : Box) (K : Prop) : Prop := x = y ∧ K
/-- One order, and the others. -/
def bothK (A B : Prop) : Prop := A ∧ B
structure Combs2 extends Combs where
  decM : (kr : Sy) → (ag : Bool) → (r : Sy) → List (Value × D) → (List (kr.den × r.den) → Prop) → Prop
  each : Nat → List Nat → Prop → (Nat → Prop) → Prop
  ent : (kr : Sy) → (ag : Bool) → (r : Sy) → List (Value × D) → List Nat → (kr.den → r.den → Prop) → Prop
  same : Box → Box → Prop → Prop
  both : Prop → Prop → Prop
def stdC2 : Combs2 := { stdC with decM := decMK, each := eachK, ent := entK, same := sameK, both := bothK }

section
variable (C : Combs2)
def exV : (r : Sy) → List T → (r.den → Prop) → Prop
  | .int k, row, K => match row with
    | [.v (.int k' n)] => match decide (k' = k) with
      | true => K n
      | false => C.bad 301
    | _ => C.bad 302
  | .bool, row, K => match row with
    | [.v (.bool b)] => K b
    | _ => C.bad 303
  | .str, row, K => match row with
    | [.v (.string s)] => K s
    | _ => C.bad 304
  | .any, row, K => match row with
    | [x] => K x
    | _ => C.bad 305
  | .pr a b, row, K => exV a (row.take a.w) fun x => exV b (row.drop a.w) fun y => K (x, y)
  | .li r, row, K => match row with
    | [.sl _ rows] => C.dec r rows K
    | [.v (.slice none 0 0)] => K []
    | [.ne _] => K []
    | _ => C.bad 306
/-- The cells that are asked for by themselves, left out. -/
def blankC (π : Nat → Nat → Bool) (k : Nat) : Nat → List D → List D
  | _, [] => []
  | i, c :: l => (match π k i with
    | true => .p (.sl false [])
    | false => c) :: blankC π k (i + 1) l
/-- Why the cells can't be laid still: the place of the first that can't, and its kind. -/
def whyC (τ : Nat → Option Box) : Nat → List D → Nat
  | i, [] => 31600 + i
  | i, c :: l => match frz τ 4 c with
    | some _ => whyC τ (i + 1) l
    | none => 3160000 + i * 100 + (match c with
      | .ptr _ _ _ => 10
      | .own k => match τ k with
        | some (.arr _ _ _) => 21
        | some _ => 22
        | none => 20
      | .bs _ _ _ => 30
      | .map _ => 40
      | .it _ => 50
      | .fn _ _ _ => 60
      | .cond _ _ => 70
      | .any => 80
      | _ => 90)
def exI (τ : Nat → Option Box) (π : Nat → Nat → Bool) (st₀ st : St) : (it : It) → (it.den → Prop) → Prop
  | .val t ag r, K => match frz τ 4 (st.s t), ag with
    | some (.agg cs), true => exV C r cs K
    | some (.v (.agg vs)), true => exV C r (vs.toList.map .v) K
    | some x, false => exV C r [x] K
    | _, _ => C.bad 311
  | .own t z r, K => match st.s t with
    | .own k => match st.σ k with
      | some (.arr ro z' rows) => match !ro && z' == z with
        | true => C.dec r rows K
        | false => C.bad 312
      | _ => C.bad 313
    | .p tt => match rowsT tt with
      | some (true, []) => K []
      | _ => C.bad 314
    | _ => C.bad 315
  | .box k r, K => match st.σ k with
    | some (.rows ro [cells]) => match ro, (blankC π k 0 cells).mapM (frz τ 4) with
      | false, some ts => exV C r ts K
      | _, _ => C.bad (whyC τ 0 cells)
    | _ => C.bad 317
  | .map k kr ag r, K => match st.σ k with
    | some (.map ro es) => match ro with
      | false => C.decM kr ag r es K
      | true => C.bad 318
    | _ => C.bad 319
  | .sit k, K => match st.σ k with
    | some (.sit s pos) => K (s, pos)
    | _ => C.bad 320
  | .mit k m, K => match st.σ k with
    | some (.mit m' since seen last) => match decide (m' = m) with
      | true => K (since, seen, last)
      | false => C.bad 321
    | _ => C.bad 322
  | .fix k, K => match st.σ k, st₀.σ k with
    | some x, some y => match boxWr x with
      | true => C.same x y (K ())
      | false => C.bad 324
    | _, _ => C.bad 325
  | .arr k z r, K => match st.σ k with
    | some (.arr ro z' rows) => match !ro && z' == z with
      | true => C.dec r rows K
      | false => C.bad 326
    | _ => C.bad 327
  | .mitF k, K => match st.σ k with
    | some (.mitF es since seen last) => K (es, since, seen, last)
    | _ => C.bad 323
  | .drop _, K => K ()
  | .boc k o z r, K => match st.σ k with
    | some (.rows false [cells]) => match cells[o]? with
      | some (.own k') => match st.σ k' with
        | some (.arr ro z' rows) => match !ro && z' == z with
          | true => C.dec r rows K
          | false => C.bad 332
        | _ => C.bad 333
      | some (.p tt) => match rowsT tt with
        | some (true, []) => K []
        | _ => C.bad 334
      | _ => C.bad 335
    | _ => C.bad 336
def exItsT (τ : Nat → Option Box) (π : Nat → Nat → Bool) (st₀ st : St) : (its : List It) → (Its.den its → Prop) → Prop
  | [], K => K ()
  | it :: l, K => exI C τ π st₀ st it fun x => exItsT τ π st₀ st l fun y => K (x, y)
end
def absS (n : Nat) : (its : List It) → Its.den its → Nat → Nat → D
  | [], _, _, _ => .any
  | .val t ag r :: l, y, j, i => match i == t with
    | true => .p (encV ag r y.1)
    | false => absS n l y.2 j i
  | .own t _ _ :: l, y, j, i => match i == t with
    | true => .own (n + j)
    | false => absS n l y.2 (j + 1) i
  | .box _ _ :: l, y, j, i => absS n l y.2 j i
  | .map _ _ _ _ :: l, y, j, i => absS n l y.2 j i
  | .sit _ :: l, y, j, i => absS n l y.2 j i
  | .mit _ _ :: l, y, j, i => absS n l y.2 j i
  | .fix _ :: l, y, j, i => absS n l y.2 j i
  | .arr _ _ _ :: l, y, j, i => absS n l y.2 j i
  | .mitF _ :: l, y, j, i => absS n l y.2 j i
  | .drop _ :: l, y, j, i => absS n l y.2 j i
  | .boc _ _ _ _ :: l, y, j, i => absS n l y.2 (j + 1) i
def absB (f : Nat → List D → List D) (st₀ : St) : (its : List It) → Its.den its → Nat → Option Box
  | [], _, _ => none
  | .val _ _ _ :: l, y, i => absB f st₀ l y.2 i
  | .own _ _ _ :: l, y, i => absB f st₀ l y.2 i
  | .box k r :: l, y, i => match i == k with
    | true => some (.rows false [f k ((r.enc y.1).map .p)])
    | false => absB f st₀ l y.2 i
  | .map k kr ag r :: l, y, i => match i == k with
    | true => some (.map false (y.1.map (encE kr ag r)))
    | false => absB f st₀ l y.2 i
  | .sit k :: l, y, i => match i == k with
    | true => some (.sit y.1.1 y.1.2)
    | false => absB f st₀ l y.2 i
  | .mit k m :: l, y, i => match i == k with
    | true => some (.mit m y.1.1 y.1.2.1 y.1.2.2)
    | false => absB f st₀ l y.2 i
  | .fix k :: l, y, i => match i == k with
    | true => st₀.σ k
    | false => absB f st₀ l y.2 i
  | .arr k z r :: l, y, i => match i == k with
    | true => some (.arr false z (y.1.map r.enc))
    | false => absB f st₀ l y.2 i
  | .mitF k :: l, y, i => match i == k with
    | true => some (.mitF y.1.1 y.1.2.1 y.1.2.2.1 y.1.2.2.2)
    | false => absB f st₀ l y.2 i
  | .drop k :: l, y, i => match i == k with
    | true => none
    | false => absB f st₀ l y.2 i
  | .boc _ _ _ _ :: l, y, i => absB f st₀ l y.2 i
def absO : (its : List It) → Its.den its → Nat → Option Box
  | [], _, _ => none
  | .own _ z r :: l, y, j => match j with
    | 0 => some (.arr false z (y.1.map r.enc))
    | j + 1 => absO l y.2 j
  | .boc _ _ z r :: l, y, j => match j with
    | 0 => some (.arr false z (y.1.map r.enc))
    | j + 1 => absO l y.2 j
  | .val _ _ _ :: l, y, j => absO l y.2 j
  | .box _ _ :: l, y, j => absO l y.2 j
  | .map _ _ _ _ :: l, y, j => absO l y.2 j
  | .sit _ :: l, y, j => absO l y.2 j
  | .mit _ _ :: l, y, j => absO l y.2 j
  | .fix _ :: l, y, j => absO l y.2 j
  | .arr _ _ _ :: l, y, j => absO l y.2 j
  | .mitF _ :: l, y, j => absO l y.2 j
  | .drop _ :: l, y, j => absO l y.2 j
/-- The array in a cell. -/
def cellSrc (st : St) (k o : Nat) : Option Nat := match st.σ k with
  | some (.rows false [cells]) => match cells[o]? with
    | some (.own k') => some k'
    | _ => none
  | _ => none
/-- Is the cell asked for by itself? -/
def bocAt : List It → Nat → Nat → Bool
  | [], _, _ => false
  | .boc k o _ _ :: l, k', o' => (k' == k && o' == o) || bocAt l k' o'
  | _ :: l, k', o' => bocAt l k' o'
/-- The cells that are arrays, in place. -/
def ovrB (n : Nat) : List It → Nat → Nat → List D → List D
  | [], _, _, row => row
  | .own _ _ _ :: l, j, k, row => ovrB n l (j + 1) k row
  | .boc k' o _ _ :: l, j, k, row => match k == k' with
    | true => (ovrB n l (j + 1) k row).set o (.own (n + j))
    | false => ovrB n l (j + 1) k row
  | _ :: l, j, k, row => ovrB n l j k row
/-- Where the arrays of one's own lie. -/
def srcs : List It → St → List (Option Nat)
  | [], _ => []
  | .own t _ _ :: l, st => (match st.s t with
    | .own k => some k
    | _ => none) :: srcs l st
  | .val _ _ _ :: l, st => srcs l st
  | .box _ _ :: l, st => srcs l st
  | .map _ _ _ _ :: l, st => srcs l st
  | .sit _ :: l, st => srcs l st
  | .mit _ _ :: l, st => srcs l st
  | .fix _ :: l, st => srcs l st
  | .arr _ _ _ :: l, st => srcs l st
  | .mitF _ :: l, st => srcs l st
  | .drop _ :: l, st => srcs l st
  | .boc k o _ _ :: l, st => cellSrc st k o :: srcs l st
def nOwn : List It → Nat
  | [] => 0
  | .own _ _ _ :: l => nOwn l + 1
  | .val _ _ _ :: l => nOwn l
  | .box _ _ :: l => nOwn l
  | .map _ _ _ _ :: l => nOwn l
  | .sit _ :: l => nOwn l
  | .mit _ _ :: l => nOwn l
  | .fix _ :: l => nOwn l
  | .arr _ _ _ :: l => nOwn l
  | .mitF _ :: l => nOwn l
  | .drop _ :: l => nOwn l
  | .boc _ _ _ _ :: l => nOwn l + 1
theorem srcs_len : ∀ (its : List It) (st : St), (srcs its st).length = nOwn its
  | [], _ => rfl
  | .own _ _ _ :: l, st => by simp only [srcs, nOwn, List.length_cons, srcs_len l st]
  | .val _ _ _ :: l, st => srcs_len l st
  | .box _ _ :: l, st => srcs_len l st
  | .map _ _ _ _ :: l, st => srcs_len l st
  | .sit _ :: l, st => srcs_len l st
  | .mit _ _ :: l, st => srcs_len l st
  | .fix _ :: l, st => srcs_len l st
  | .arr _ _ _ :: l, st => srcs_len l st
  | .mitF _ :: l, st => srcs_len l st
  | .drop _ :: l, st => srcs_len l st
  | .boc _ _ _ _ :: l, st => by simp only [srcs, nOwn, List.length_cons, srcs_len l st]
def chg : List It → Nat → Bool
  | [], _ => false
  | .box k _ :: l, i => i == k || chg l i
  | .map k _ _ _ :: l, i => i == k || chg l i
  | .sit k :: l, i => i == k || chg l i
  | .mit k _ :: l, i => i == k || chg l i
  | .fix k :: l, i => i == k || chg l i
  | .arr k _ _ :: l, i => i == k || chg l i
  | .mitF k :: l, i => i == k || chg l i
  | .drop k :: l, i => i == k || chg l i
  | .boc _ _ _ _ :: l, i => chg l i
  | .val _ _ _ :: l, i => chg l i
  | .own _ _ _ :: l, i => chg l i
def mits (n : Nat) : List It → Bool
  | [] => true
  | .mit _ (some m) :: l => decide (m < n) && mits n l
  | _ :: l => mits n l
def lockable : Box → Bool
  | .sit _ _ => false
  | .mit _ _ _ _ => false
  | .mitF _ _ _ _ => false
  | _ => true
def hasN : List (Option Nat) → Nat → Bool
  | [], _ => false
  | some k :: l, i => i == k || hasN l i
  | none :: l, i => hasN l i
def kept (its : List It) (st₀ : St) (k : Nat) : Bool := decide (k < st₀.n) && match st₀.σ k with
  | some x => !boxWr x || (!chg its k && !hasN (srcs its st₀) k && lockable x)
  | none => false
def apart : List (Option Nat) → Bool
  | [] => true
  | some k :: l => !hasN l k && apart l
  | none :: l => apart l
def okSrc (its : List It) (st₀ st : St) : Bool := apart (srcs its st) && (srcs its st).all (fun x => match x with
  | some k => !kept its st₀ k && !chg its k
  | none => true) && mits st₀.n its
/-- The first that speaks of the box drops it. -/
def dropB : List It → Nat → Bool
  | [], _ => false
  | .drop k :: l, i => i == k || dropB l i
  | .box k _ :: l, i => !(i == k) && dropB l i
  | .map k _ _ _ :: l, i => !(i == k) && dropB l i
  | .sit k :: l, i => !(i == k) && dropB l i
  | .mit k _ :: l, i => !(i == k) && dropB l i
  | .fix k :: l, i => !(i == k) && dropB l i
  | .arr k _ _ :: l, i => !(i == k) && dropB l i
  | .mitF k :: l, i => !(i == k) && dropB l i
  | .val _ _ _ :: l, i => dropB l i
  | .own _ _ _ :: l, i => dropB l i
  | .boc _ _ _ _ :: l, i => dropB l i
/-- Nobody has the box from here on. -/
def goneB (its : List It) (st₀ st : St) (k : Nat) : Bool := (decide (st₀.n ≤ k) || (!kept its st₀ k && dropB its k)) && !hasN (srcs its st) k
/-- The boxes that may be laid still. -/
def tauS (its : List It) (st₀ st : St) : Nat → Option Box := fun k => match goneB its st₀ st k with
  | true => st.σ k
  | false => none
def exIts (C : Combs2) (st₀ st : St) (its : List It) (K : Its.den its → Prop) : Prop := exItsT C (tauS its st₀ st) (bocAt its) st₀ st its K
def hdS (its : List It) (A : Nat → Bool) (st₀ : St) (y : Its.den its) : St :=
  ⟨fun i => match A i with
    | true => absS st₀.n its y 0 i
    | false => st₀.s i,
   fun k => match decide (k < st₀.n) with
    | true => match kept its st₀ k with
      | true => (st₀.σ k).map lock
      | false => absB (ovrB st₀.n its 0) st₀ its y k
    | false => absO its y (k - st₀.n),
   st₀.n + nOwn its⟩
def lkS (its : List It) (st₀ : St) : St := ⟨st₀.s, fun k => match kept its st₀ k with
  | true => (st₀.σ k).map lock
  | false => st₀.σ k, st₀.n⟩
def unS (its : List It) (st₀ st : St) : St := ⟨st.s, fun k => match kept its st₀ k with
  | true => st₀.σ k
  | false => st.σ k, st.n⟩

/-! ### It holds of the state -/
/-- Cell by cell: what the one reads, the other reads. -/
def Wk (a b : List T) : Prop := a.length = b.length ∧ ∀ (i : Nat) (x y : T), a[i]? = some x → b[i]? = some y → ∀ (w : World) (own : Nat → Prop) (v : Value), RdT w own x v → RdT w own y v
theorem Wk.refl (a : List T) : Wk a a := ⟨rfl, fun i x y hx hy => by rw [hx] at hy; cases hy; exact fun _ _ _ h => h⟩
theorem rdT_canR {w : World} {own : Nat → Prop} {f : Bool} {rows : List (List T)} {v : Value} (h : RdT w own (.sl f rows) v) : RdT w own (.sl false (canR rows)) v := by
  cases h with
  | slNil _ a cap hf hn => exact .slNil false a cap (by simp) hn
  | sl _ _ sz b o cap g h1 h2 h3 h4 h45 h5 h6 h7 h8 =>
    have hl : (canR rows).length = rows.length := by simp [canR]
    rw [← hl]
    refine .sl false (canR rows) sz b o cap g (by omega) (by omega) (by simp) h4 h45 (fun r hr => ?_) h6 (fun i j hi hj => h7 i j (by omega) hj) (fun i j hi hj => ?_)
    · simp only [canR, List.mem_map] at hr
      obtain ⟨r', hr', rfl⟩ := hr
      simpa using h5 r' hr'
    · have hi' : i < rows.length := by omega
      have hr : (canR rows)[i] = rows[i].map (T.canon 0) := by simp [canR]
      have hj' : j < rows[i].length := by rw [hr] at hj; simpa using hj
      have : (canR rows)[i][j] = T.canon 0 rows[i][j] := by simp [canR]
      rw [this]
      exact (h8 i j hi' hj').canon 0
theorem exV_spec : ∀ {r : Sy} {row : List T} {K : r.den → Prop}, exV stdC2 r row K → ∃ y, K y ∧ Wk row (r.enc y)
  | .int k, row, K, h => by
    simp only [exV] at h
    split at h
    · split at h
      · rename_i hk
        have hk := of_decide_eq_true hk
        subst hk
        exact ⟨_, h, Wk.refl _⟩
      · exact h.elim
    · exact h.elim
  | .bool, row, K, h => by
    simp only [exV] at h
    split at h
    · exact ⟨_, h, Wk.refl _⟩
    · exact h.elim
  | .str, row, K, h => by
    simp only [exV] at h
    split at h
    · exact ⟨_, h, Wk.refl _⟩
    · exact h.elim
  | .any, row, K, h => by
    simp only [exV] at h
    split at h
    · exact ⟨_, h, Wk.refl _⟩
    · exact h.elim
  | .pr a b, row, K, h => by
    simp only [exV] at h
    obtain ⟨x, h1, w1⟩ := exV_spec h
    obtain ⟨y, h2, w2⟩ := exV_spec h1
    refine ⟨(x, y), h2, ?_, fun i u v hu hv => ?_⟩
    · have l1 := w1.1
      have l2 := w2.1
      simp only [List.length_take, Sy.enc_len, List.length_drop] at l1 l2
      simp only [Sy.enc, List.length_append, Sy.enc_len]
      omega
    · have l1 := w1.1
      simp only [List.length_take, Sy.enc_len] at l1
      simp only [Sy.enc] at hv
      by_cases hi : i < a.w
      · rw [List.getElem?_append_left (by rw [Sy.enc_len]; exact hi)] at hv
        exact w1.2 i u v (by rw [List.getElem?_take]; simp [hi, hu]) hv
      · rw [List.getElem?_append_right (by rw [Sy.enc_len]; omega), Sy.enc_len] at hv
        exact w2.2 (i - a.w) u v (by rw [List.getElem?_drop]; rw [show a.w + (i - a.w) = i by omega]; exact hu) hv
  | .li r, row, K, h => by
    simp only [exV] at h
    have one : ∀ (u : T) (l : List r.den), (∀ w own v, RdT w own u v → RdT w own (.sl false (l.map r.enc)) v) → Wk [u] (Sy.enc (.li r) l) := by
      intro u l hw
      refine ⟨rfl, fun i x y hx hy => ?_⟩
      match i with
      | 0 => simp at hx; simp only [Sy.enc] at hy; simp at hy; subst hx; subst hy; exact hw
      | i + 1 => simp at hx
    split at h
    · rename_i f rows
      obtain ⟨l, h1, h2⟩ := h
      exact ⟨l, h2, one _ _ fun w own v hv => by rw [← h1]; exact rdT_canR hv⟩
    · refine ⟨[], h, one _ _ fun w own v hv => ?_⟩
      cases hv; exact .slNil false none 0 (by simp) (by simp)
    · refine ⟨[], h, one _ _ fun w own v hv => ?_⟩
      cases hv with
      | ne _ a cap hf => exact .slNil false (some a) cap (by simp) (by simp)
    · exact h.elim
def vloc : Loc := ⟨0, 0, 0, 0, 0⟩
/-- What is laid still is nobody's any more. -/
structure FzCx (τ : Nat → Option Box) (st : St) (cx : Cx) (ρ : Nat → Option Loc) (m : Nat) (w : World) (own' : Nat → Prop) : Prop where
  inv : Inv cx ρ st.σ m w
  sub : ∀ b, own' b → Own cx ρ st.σ b
  tau : ∀ k x, τ k = some x → st.σ k = some x
  dis : ∀ k x l, τ k = some x → ρ k = some l → 0 < l.L + l.C → ¬ own' l.blk
theorem FzCx.frz {τ : Nat → Option Box} {st : St} {cx : Cx} {ρ : Nat → Option Loc} {m : Nat} {w : World} {own' : Nat → Prop} (h : FzCx τ st cx ρ m w own') {k : Nat} {d : D} {t : T} {v : Value} (hd : Rd w (Own cx ρ st.σ) ρ d v) (hf : Go.Pv.frz τ k d = some t) : RdT w own' t v :=
  frz_of h.inv h.sub h.tau h.dis k hd hf
/-- A box that may stand for the other. -/
structure BoxTo (n : Nat) (τ : Nat → Option Box) (sr : List (Option Nat)) (st : St) (x y : Box) : Prop where
  ok : ∀ (cx : Cx) (m : Nat) (w : World) (own' : Nat → Prop) (ρ ρ' : Nat → Option Loc) (l : Loc), (∀ k, k < n → ρ' k = ρ k) → (∀ j src, sr[j]? = some src → ρ' (n + j) = match src with
    | some k => ρ k
    | none => some vloc) → FzCx τ st cx ρ m w own' → BoxOk w (Own cx ρ st.σ) ρ l x → BoxOk w own' ρ' l y
  wr : boxWr x = true
def ItOk (n : Nat) (τ : Nat → Option Box) (π : Nat → Nat → Bool) (sr : List (Option Nat)) (st₀ st : St) : (it : It) → it.den → Prop
  | .val t ag r, y => ∀ cx m ρ w own' v, FzCx τ st cx ρ m w own' → Rd w (Own cx ρ st.σ) ρ (st.s t) v → RdT w own' (encV ag r y) v
  | .own t z r, y => (∃ k rows, st.s t = .own k ∧ st.σ k = some (.arr false z rows) ∧ canR rows = List.map r.enc y) ∨ (y = ([] : List r.den) ∧ ∃ tt, st.s t = .p tt ∧ rowsT tt = some (true, []))
  | .box k r, y => ∃ cells ts, st.σ k = some (.rows false [cells]) ∧ (blankC π k 0 cells).mapM (frz τ 4) = some ts ∧ Wk ts (r.enc y)
  | .map k kr ag r, y => ∃ x, st.σ k = some x ∧ BoxTo n τ sr st x (.map false (List.map (encE kr ag r) y))
  | .sit k, y => ∃ x, st.σ k = some x ∧ BoxTo n τ sr st x (.sit y.1 y.2)
  | .mit k m, y => ∃ x, st.σ k = some x ∧ BoxTo n τ sr st x (.mit m y.1 y.2.1 y.2.2)
  | .fix k, _ => ∃ x, st.σ k = some x ∧ st₀.σ k = some x ∧ boxWr x = true
  | .arr k z r, y => ∃ x, st.σ k = some x ∧ BoxTo n τ sr st x (.arr false z (List.map r.enc y))
  | .mitF k, y => ∃ x, st.σ k = some x ∧ BoxTo n τ sr st x (.mitF y.1 y.2.1 y.2.2.1 y.2.2.2)
  | .drop _, _ => True
  | .boc k o z r, y => ∃ cells c, st.σ k = some (.rows false [cells]) ∧ cells[o]? = some c ∧ ((∃ k' rows, c = .own k' ∧ st.σ k' = some (.arr false z rows) ∧ canR rows = List.map r.enc y) ∨ (y = ([] : List r.den) ∧ ∃ tt, c = .p tt ∧ rowsT tt = some (true, [])))
def ItsOkT (n : Nat) (τ : Nat → Option Box) (π : Nat → Nat → Bool) (sr : List (Option Nat)) (st₀ st : St) : (its : List It) → Its.den its → Prop
  | [], _ => True
  | it :: l, y => ItOk n τ π sr st₀ st it y.1 ∧ ItsOkT n τ π sr st₀ st l y.2
def ItsOk (n : Nat) (st₀ st : St) (its : List It) (y : Its.den its) : Prop := ItsOkT n (tauS its st₀ st) (bocAt its) (srcs its st) st₀ st its y
theorem blankC_len {π : Nat → Nat → Bool} {k : Nat} : ∀ {cells : List D} {i : Nat}, (blankC π k i cells).length = cells.length
  | [], _ => rfl
  | c :: l, i => by simp only [blankC, List.length_cons, blankC_len (cells := l)]
theorem blankC_get {π : Nat → Nat → Bool} {k : Nat} : ∀ {cells : List D} {i q : Nat} (h : q < cells.length), π k (i + q) = false → (blankC π k i cells)[q]'(by rw [blankC_len]; exact h) = cells[q]
  | c :: l, i, 0, h, hp => by
    simp only [blankC, List.getElem_cons_zero]
    rw [show π k i = false from hp]
  | c :: l, i, q + 1, h, hp => by
    simp only [blankC, List.getElem_cons_succ]
    exact blankC_get (by simpa using h) (by rw [← hp]; congr 1; omega)
/-- A row whose cells stand for those of the other. -/
structure RowTo (π : Nat → Nat → Bool) (n k : Nat) (sr : List (Option Nat)) (cells : List D) (base row : List D) : Prop where
  len : row.length = base.length
  at_ : ∀ i c, row[i]? = some c → (π k i = false ∧ base[i]? = some c) ∨ (π k i = true ∧ ∃ j src, c = .own (n + j) ∧ sr[j]? = some src ∧ ((∃ k', cells[i]? = some (.own k') ∧ src = some k') ∨ (src = none ∧ ∃ tt, cells[i]? = some (.p tt) ∧ rowsT tt = some (true, []))))
theorem rd_empty {w : World} {own : Nat → Prop} {tt : T} {v : Value} (h : RdT w own tt v) (hr : rowsT tt = some (true, [])) : ∃ a, v = .slice a 0 0 := by
  unfold rowsT at hr
  split at hr
  · cases hr
    cases h with
    | slNil _ a cap hf hn => rw [hf rfl]; exact ⟨a, rfl⟩
    | sl _ _ sz b o cap g h1 h2 h3 h4 h45 h5 h6 h7 h8 => have := h3 rfl; simp at this; subst this; exact ⟨_, rfl⟩
  · cases hr; cases h; exact ⟨none, rfl⟩
  · cases hr
    cases h with
    | ne _ a cap hf => exact ⟨some a, by rw [hf rfl]⟩
  · cases hr
theorem wk_agg {w : World} {own : Nat → Prop} {a b : List T} (h : Wk a b) {v : Value} (hv : RdT w own (.agg a) v) : RdT w own (.agg b) v := by
  cases hv with
  | agg _ vs h1 h2 =>
    refine .agg b vs (by rw [h1, h.1]) fun i hi => ?_
    have hi' : i < a.length := by rw [h.1]; exact hi
    exact h.2 i a[i] b[i] (by simp [hi']) (by simp [hi]) _ _ _ (h2 i hi')
theorem wk_one {w : World} {own : Nat → Prop} {x : T} {b : List T} (h : Wk [x] b) {v : Value} (hv : RdT w own x v) : RdT w own (hdT b) v := by
  have hl := h.1
  match b, hl with
  | [y], _ => exact h.2 0 x y rfl rfl _ _ _ hv
theorem boxTo_rows {n k : Nat} {τ : Nat → Option Box} {π : Nat → Nat → Bool} {sr : List (Option Nat)} {st : St} {cells : List D} {ts ts' : List T} {row : List D} (hm : (blankC π k 0 cells).mapM (frz τ 4) = some ts) (h : Wk ts ts') (hw : RowTo π n k sr cells (ts'.map .p) row) : BoxTo n τ sr st (.rows false [cells]) (.rows false [row]) := by
  refine ⟨fun cx m w own' ρ ρ' l hρ hs hzz hb => ?_, rfl⟩
  obtain ⟨m1, m2⟩ := mapM_some_length hm
  rw [blankC_len] at m1
  refine ⟨fun h0 => ?_, fun h0 => by obtain ⟨_, _, e⟩ := hb.2 h0; cases e⟩
  obtain ⟨o, h1, h2⟩ := hb.1 h0
  refine ⟨o, h1, ?_⟩
  have hlen : row.length = cells.length := by rw [hw.len, List.length_map, ← h.1, m1]
  cases h2 with
  | rows _ rs c hr hz h2 =>
    cases hr
    refine .rows _ [row] c rfl (fun _ _ _ e => by cases e) ⟨h2.size, h2.pos, h2.small, h2.len, h2.cnt, fun r hr => ?_, fun i j hi hj => ?_, h2.one⟩
    · have := h2.width cells (by simp)
      simp only [List.mem_singleton] at hr
      subst hr
      rw [hlen]
      exact this
    · have hi0 : i = 0 := by simpa using hi
      subst hi0
      simp only [List.getElem_cons_zero] at hj
      have hj2 : j < cells.length := by omega
      have hj' : j < ts.length := by omega
      obtain ⟨v, e1, e2⟩ := h2.cell 0 j (by simp) (by simpa using hj2)
      refine ⟨v, e1, ?_⟩
      simp only [List.getElem_cons_zero] at e2 ⊢
      rcases hw.at_ j row[j] (by simp [hj]) with ⟨p1, p2⟩ | ⟨p1, q, src, p2, p3, p4⟩
      · have e3 : row[j] = .p (ts'[j]'(by rw [← h.1]; exact hj')) := by
          have := List.getElem?_eq_some_iff.1 p2
          obtain ⟨_, g⟩ := this
          rw [← g, List.getElem_map]
        rw [e3]
        refine .p _ _ (h.2 j ts[j] _ (by simp [hj']) (by simp [h.1 ▸ hj']) _ _ _ (hzz.frz (k := 4) e2 ?_))
        have := m2 j (by rw [blankC_len]; exact hj2) hj'
        rw [blankC_get hj2 (by rw [Nat.zero_add]; exact p1)] at this
        exact this
      · rw [p2]
        have h3 := hs q src p3
        have hc : cells[j]? = some cells[j] := by simp [hj2]
        rcases p4 with ⟨k', g1, rfl⟩ | ⟨rfl, tt, g1, g2⟩
        · rw [hc] at g1
          rw [Option.some.inj g1] at e2
          simp only at h3
          cases e2 with
          | own _ lo hl hL h4 h5 => exact .own _ lo (h3.trans hl) hL h4 h5
          | ownNil _ lo a hl hL => exact .ownNil _ lo a (h3.trans hl) hL
        · rw [hc] at g1
          rw [Option.some.inj g1] at e2
          cases e2 with
          | p _ _ e2 =>
            obtain ⟨a, rfl⟩ := rd_empty e2 g2
            exact .ownNil _ vloc a h3 rfl
theorem canE_rd {w : World} {own : Nat → Prop} {ρ : Nat → Option Loc} {e : Value × D} {v : Value} (h : Rd w own ρ e.2 v) : Rd w own ρ (canE e).2 v := by
  unfold canE
  split
  · rename_i t ht
    rw [ht] at h
    cases h with
    | p _ _ h => exact .p _ _ (h.canon 1)
  · exact h
theorem canE_fst (e : Value × D) : (canE e).1 = e.1 := by unfold canE; split <;> rfl
theorem boxTo_map {n : Nat} {τ : Nat → Option Box} {sr : List (Option Nat)} {st : St} {es : List (Value × D)} {kr : Sy} {ag : Bool} {r : Sy} {l : List (kr.den × r.den)} (h : es.map canE = l.map (encE kr ag r)) : BoxTo n τ sr st (.map false es) (.map false (l.map (encE kr ag r))) := by
  refine ⟨fun cx m w own' ρ ρ' lo hρ _ hz hb => ?_, rfl⟩
  refine ⟨fun h0 => ?_, fun h0 => by obtain ⟨_, _, e⟩ := hb.2 h0; cases e⟩
  obtain ⟨o, h1, h2⟩ := hb.1 h0
  refine ⟨o, h1, ?_⟩
  cases h2 with
  | rows _ rs c hr hz h2 => simp [boxR] at hr
  | map _ _ ents e1 e2 =>
    have hlen : es.length = (l.map (encE kr ag r)).length := by rw [← h]; simp
    rw [hlen]
    refine .map false _ ents (by omega) fun i hi => ?_
    have hi' : i < es.length := by omega
    obtain ⟨e, g1, g2, g3, g4⟩ := e2 i hi'
    have he : (l.map (encE kr ag r))[i] = canE es[i] := by
      have : (es.map canE)[i]'(by simpa using hi') = (l.map (encE kr ag r))[i] := by congr 1
      rw [← this]; simp
    have hp : ∃ t, (l.map (encE kr ag r))[i].2 = .p t := by simp only [List.getElem_map]; exact ⟨_, rfl⟩
    refine ⟨e, g1, ?_, g3, ?_⟩
    · rw [he, canE_fst]; exact g2
    · have g5 := canE_rd g4
      rw [← he] at g5
      obtain ⟨t, ht⟩ := hp
      rw [ht] at g5 ⊢
      cases g5 with
      | p _ _ g5 => exact .p _ _ (g5.less hz.sub)
theorem boxOk_canR {w : World} {own own' : Nat → Prop} {ρ ρ' : Nat → Option Loc} {l : Loc} {ro : Bool} {z : Nat} {rows : List (List T)} (ho : ∀ b, own' b → own b) (h : BoxOk w own ρ l (.arr ro z rows)) : BoxOk w own' ρ' l (.arr ro z (canR rows)) := by
  refine ⟨fun h0 => ?_, fun h0 => ?_⟩
  · obtain ⟨o, h1, h2⟩ := h.1 h0
    refine ⟨o, h1, ?_⟩
    cases h2 with
    | rows _ rs c hr hz h2 =>
      cases hr
      have hl : (pRows (canR rows)).length = (pRows rows).length := by simp [pRows, canR]
      refine .rows _ (pRows (canR rows)) c rfl (fun _ _ _ e => by cases e; exact hz _ _ _ rfl) ⟨h2.size, h2.pos, by have := h2.small; omega, by have := h2.len; omega, by have := h2.cnt; omega, fun r hr => ?_, fun i j hi hj => ?_, h2.one⟩
      · simp only [pRows, canR, List.map_map, List.mem_map, Function.comp] at hr
        obtain ⟨r', hr', rfl⟩ := hr
        have := h2.width (r'.map .p) (by simp only [pRows, List.mem_map]; exact ⟨r', hr', rfl⟩)
        simpa using this
      · have hi' : i < rows.length := by simpa [pRows, canR] using hi
        have e1 : (pRows (canR rows))[i] = (rows[i].map (T.canon 0)).map .p := by simp [pRows, canR]
        have hj' : j < rows[i].length := by rw [e1] at hj; simpa using hj
        have e3 : (pRows rows)[i]'(by simpa using hi') = rows[i].map .p := by simp [pRows]
        obtain ⟨v, g1, g2⟩ := h2.cell i j (by simpa using hi') (by rw [e3]; simpa using hj')
        refine ⟨v, g1, ?_⟩
        have e2 : (pRows (canR rows))[i][j] = .p (T.canon 0 rows[i][j]) := by simp [pRows, canR]
        have e4 : ((pRows rows)[i]'(by simpa using hi'))[j]'(by rw [e3]; simpa using hj') = .p rows[i][j] := by simp [pRows]
        rw [e4] at g2
        rw [e2]
        cases g2 with
        | p _ _ g2 => exact .p _ _ ((g2.canon 0).less ho)
  · obtain ⟨_, _, e⟩ := h.2 h0
    cases e
    exact ⟨_, _, rfl⟩
theorem exI_spec {n : Nat} {τ : Nat → Option Box} {π : Nat → Nat → Bool} {sr : List (Option Nat)} {st₀ st : St} {it : It} {K : it.den → Prop} (hm : mits n [it] = true) (h : exI stdC2 τ π st₀ st it K) : ∃ y, K y ∧ ItOk n τ π sr st₀ st it y := by
  cases it with
  | val t ag r =>
    simp only [exI] at h
    split at h
    · rename_i cs hs
      obtain ⟨y, h1, h2⟩ := exV_spec h
      exact ⟨y, h1, fun cx m ρ w own' v hz hv => wk_agg h2 (hz.frz hv hs)⟩
    · rename_i vs hs
      obtain ⟨y, h1, h2⟩ := exV_spec h
      refine ⟨y, h1, fun cx m ρ w own' v hz hv => ?_⟩
      have hv := hz.frz hv hs
      cases hv
      exact wk_agg h2 (.agg _ _ (RdA.vs (R := RdT w own') (g := T.v) .v _).1 (RdA.vs (R := RdT w own') (g := T.v) .v _).2)
    · rename_i x hs
      obtain ⟨y, h1, h2⟩ := exV_spec h
      exact ⟨y, h1, fun cx m ρ w own' v hz hv => wk_one h2 (hz.frz hv hs)⟩
    · exact h.elim
  | own t z r =>
    simp only [exI] at h
    split at h
    · rename_i k hs
      split at h
      · rename_i ro z' rows hσ
        split at h
        · rename_i hc
          simp only [Bool.and_eq_true, Bool.not_eq_true', beq_iff_eq] at hc
          obtain ⟨rfl, rfl⟩ := hc
          obtain ⟨l, h1, h2⟩ := h
          exact ⟨l, h2, .inl ⟨k, rows, hs, hσ, h1⟩⟩
        · exact h.elim
      · exact h.elim
    · rename_i tt hs
      split at h
      · rename_i hr
        exact ⟨[], h, .inr ⟨rfl, tt, hs, hr⟩⟩
      · exact h.elim
    · exact h.elim
  | box k r =>
    simp only [exI] at h
    split at h
    · rename_i ro cells hσ
      split at h
      · rename_i ts hts
        obtain ⟨y, h1, h2⟩ := exV_spec h
        exact ⟨y, h1, cells, ts, hσ, hts, h2⟩
      · exact h.elim
    · exact h.elim
  | map k kr ag r =>
    simp only [exI] at h
    split at h
    · rename_i ro es hσ
      split at h
      · obtain ⟨l, h1, h2⟩ := h
        exact ⟨l, h2, _, hσ, boxTo_map h1⟩
      · exact h.elim
    · exact h.elim
  | sit k =>
    simp only [exI] at h
    split at h
    · rename_i s pos hσ
      exact ⟨(s, pos), h, _, hσ, fun cx m w own' ρ ρ' l hρ _ hz hb => hb.cut hρ hz.sub trivial, rfl⟩
    · exact h.elim
  | mit k m =>
    simp only [exI] at h
    split at h
    · rename_i m' since seen last hσ
      split at h
      · rename_i hm'
        have hm' := of_decide_eq_true hm'
        subst hm'
        refine ⟨(since, seen, last), h, _, hσ, fun cx m w own' ρ ρ' l hρ _ hz hb => hb.cut hρ hz.sub ?_, rfl⟩
        intro km hkm
        subst hkm
        simpa [mits] using hm
      · exact h.elim
    · exact h.elim
  | fix k =>
    simp only [exI] at h
    split at h
    · rename_i x y hx hy
      split at h
      · rename_i hw
        obtain ⟨rfl, h⟩ := h
        exact ⟨(), h, _, hx, hy, hw⟩
      · exact h.elim
    · exact h.elim
  | arr k z r =>
    simp only [exI] at h
    split at h
    · rename_i ro z' rows hσ
      split at h
      · rename_i hc
        simp only [Bool.and_eq_true, Bool.not_eq_true', beq_iff_eq] at hc
        obtain ⟨rfl, rfl⟩ := hc
        obtain ⟨l, h1, h2⟩ := h
        refine ⟨l, h2, _, hσ, fun cx m w own' ρ ρ' lo hρ _ hz hb => ?_, rfl⟩
        rw [← h1]
        exact boxOk_canR hz.sub hb
      · exact h.elim
    · exact h.elim
  | mitF k =>
    simp only [exI] at h
    split at h
    · rename_i es since seen last hσ
      exact ⟨(es, since, seen, last), h, _, hσ, fun cx m w own' ρ ρ' l hρ _ hz hb => hb.cut hρ hz.sub trivial, rfl⟩
    · exact h.elim
  | drop k => exact ⟨(), h, trivial⟩
  | boc k o z r =>
    simp only [exI] at h
    split at h
    · rename_i cells hσ
      split at h
      · rename_i k' hc
        split at h
        · rename_i ro z' rows hσ'
          split at h
          · rename_i hw
            simp only [Bool.and_eq_true, Bool.not_eq_true', beq_iff_eq] at hw
            obtain ⟨rfl, rfl⟩ := hw
            obtain ⟨l, h1, h2⟩ := h
            exact ⟨l, h2, cells, _, hσ, hc, .inl ⟨k', rows, rfl, hσ', h1⟩⟩
          · exact h.elim
        · exact h.elim
      · rename_i tt hc
        split at h
        · rename_i hr
          exact ⟨[], h, cells, _, hσ, hc, .inr ⟨rfl, tt, rfl, hr⟩⟩
        · exact h.elim
      · exact h.elim
    · exact h.elim
theorem mits_cons {n : Nat} {it : It} {l : List It} (h : mits n (it :: l) = true) : mits n [it] = true ∧ mits n l = true := by
  cases it with
  | mit k m => cases m <;> simp [mits] at h ⊢ <;> exact h
  | _ => exact ⟨rfl, h⟩
theorem exItsT_spec {n : Nat} {τ : Nat → Option Box} {π : Nat → Nat → Bool} {sr : List (Option Nat)} {st₀ st : St} : ∀ {its : List It} {K : Its.den its → Prop}, mits n its = true → exItsT stdC2 τ π st₀ st its K → ∃ y, K y ∧ ItsOkT n τ π sr st₀ st its y
  | [], K, _, h => ⟨(), h, trivial⟩
  | it :: l, K, hm, h => by
    obtain ⟨m1, m2⟩ := mits_cons hm
    simp only [exItsT] at h
    obtain ⟨x, h1, h2⟩ := exI_spec (sr := sr) m1 h
    obtain ⟨y, h3, h4⟩ := exItsT_spec (sr := sr) m2 h1
    exact ⟨(x, y), h3, h2, h4⟩
theorem exIts_spec {n : Nat} {st₀ st : St} {its : List It} {K : Its.den its → Prop} (hm : mits n its = true) (h : exIts stdC2 st₀ st its K) : ∃ y, K y ∧ ItsOk n st₀ st its y := exItsT_spec hm h
end Go.Pv
