/-
  The symbolic executor, part h: how one reasons about what it says.
-/
import Derived.Test.YtghdgefkfgikoaaGreatDoorPkg
import Derived.Test.YtghdgefkfgikoaaGreatDoorPwo
set_option linter.unusedSimpArgs false
namespace Go.Pv
open Go Go.RowKit

/-! ### Bounds -/
def BdS : (r : Sy) → r.den → Prop
  | .pr a b, x => BdS a x.1 ∧ BdS b x.2
  | .li r, l => List.length (α := r.den) l ≤ 2 ^ 47 ∧ ∀ y, List.Mem y (show List r.den from l) → BdS r y
  | .int _, _ => True
  | .bool, _ => True
  | .str, _ => True
  | .any, _ => True
theorem bd_enc : ∀ {r : Sy} {x : r.den}, (∀ t ∈ r.enc x, Bd t) → BdS r x
  | .int _, _, _ => trivial
  | .bool, _, _ => trivial
  | .str, _, _ => trivial
  | .any, _, _ => trivial
  | .pr a b, x, h => ⟨bd_enc fun t ht => h t (by simp only [Sy.enc, List.mem_append]; exact .inl ht), bd_enc fun t ht => h t (by simp only [Sy.enc, List.mem_append]; exact .inr ht)⟩
  | .li r, l, h => by
    have := (Bd_sl _ _).1 (h (.sl false (List.map r.enc l)) (by simp [Sy.enc]))
    exact ⟨by have h1 : (List.map r.enc (show List r.den from l)).length ≤ 2 ^ 47 := this.1; rw [List.length_map] at h1; exact h1, fun y hy => bd_enc fun t ht => this.2 (r.enc y) (List.mem_map.2 ⟨y, hy, rfl⟩) t ht⟩
theorem bd_encV {ag : Bool} {r : Sy} {x : r.den} (hw : (ag || r.w == 1) = true) (h : Bd (encV ag r x)) : BdS r x := by
  cases ag with
  | true => exact bd_enc ((Bd_agg _).1 h)
  | false =>
    have hl : (r.enc x).length = 1 := by rw [Sy.enc_len]; simpa using hw
    obtain ⟨u, hu⟩ := List.length_eq_one_iff.1 hl
    refine bd_enc fun t ht => ?_
    rw [hu] at ht
    simp only [encV, hu, hdT] at h
    rw [List.mem_singleton.1 ht]; exact h
/-! ### A function's data -/
def shOk (s : Sh) : Bool := s.all fun x => x.1 || x.2.w == 1
theorem encV_inj {ag : Bool} {r : Sy} (hw : (ag || r.w == 1) = true) {x y : r.den} (h : encV ag r x = encV ag r y) : x = y := by
  cases ag with
  | true => simp only [encV, T.agg.injEq] at h; exact Sy.enc_inj r _ _ h
  | false =>
    have hx : (r.enc x).length = 1 := by rw [Sy.enc_len]; simpa using hw
    have hy : (r.enc y).length = 1 := by rw [Sy.enc_len]; simpa using hw
    obtain ⟨u, hu⟩ := List.length_eq_one_iff.1 hx
    obtain ⟨v, hv⟩ := List.length_eq_one_iff.1 hy
    simp only [encV, hu, hv, hdT] at h
    exact Sy.enc_inj r _ _ (by rw [hu, hv, h])
theorem encs_inj : ∀ {s : Sh}, shOk s = true → ∀ {x y : Sh.den s}, Sh.encs s x = Sh.encs s y → x = y
  | [], _, _, _, _ => rfl
  | [a], h, x, y, he => by
    simp only [Sh.encs, List.cons.injEq] at he
    exact encV_inj (by simpa [shOk] using h) he.1
  | a :: b :: l, h, x, y, he => by
    have h' : (a.1 || a.2.w == 1) = true ∧ shOk (b :: l) = true := by
      unfold shOk at h ⊢
      rw [List.all_cons, Bool.and_eq_true] at h
      exact h
    simp only [Sh.encs, List.cons.injEq] at he
    exact Prod.ext (encV_inj h'.1 he.1) (encs_inj h'.2 he.2)
def BdSh : (s : Sh) → Sh.den s → Prop
  | [], _ => True
  | [a], x => BdS a.2 x
  | a :: b :: l, x => BdS a.2 x.1 ∧ BdSh (b :: l) x.2
theorem bd_encs : ∀ {s : Sh}, shOk s = true → ∀ {x : Sh.den s}, (∀ t ∈ Sh.encs s x, Bd t) → BdSh s x
  | [], _, _, _ => trivial
  | [a], h, x, hb => bd_encV (by simpa [shOk] using h) (hb _ (by simp [Sh.encs]))
  | a :: b :: l, h, x, hb => by
    have h' : (a.1 || a.2.w == 1) = true ∧ shOk (b :: l) = true := by
      unfold shOk at h ⊢
      rw [List.all_cons, Bool.and_eq_true] at h
      exact h
    exact ⟨bd_encV h'.1 (hb _ (by simp [Sh.encs])), bd_encs h'.2 fun t ht => hb t (by simp only [Sh.encs, List.mem_cons]; exact .inr ht)⟩
open Classical in
/-- The function of typed data, on what is handed over. -/
noncomputable def gS {α : Type} (s : Sh) (sp : Sh.den s → Option α) (args : List T) : Option α := if h : ∃ x, args = Sh.encs s x then sp (Classical.choose h) else none
theorem gS_enc {α : Type} {s : Sh} (hs : shOk s = true) {sp : Sh.den s → Option α} {args : List T} (x : Sh.den s) (h : args = Sh.encs s x) : gS s sp args = sp x := by
  unfold gS
  have he : ∃ x, args = Sh.encs s x := ⟨x, h⟩
  rw [dif_pos he]
  congr 1
  exact encs_inj hs ((Classical.choose_spec he).symm.trans h)
theorem gS_spec {α : Type} {s : Sh} {sp : Sh.den s → Option α} {args : List T} {r : α} (h : gS s sp args = some r) : ∃ x, args = Sh.encs s x ∧ sp x = some r := by
  unfold gS at h
  split at h
  · rename_i he
    exact ⟨_, Classical.choose_spec he, h⟩
  · cases h
theorem pureFn_S {P : Program} {E : Env} {Hs : FuncId → Hint} (hE : EnvOk P E) (hm : P.follows .mixedOrders = true) (hn : plainNames P = true) (hh : noHeap E) (k : Nat) {f : FuncId} {s : Sh} {sp : Sh.den s → Option T} (hex : ∃ fn c, P.funcs[f]? = some fn ∧ fn.body = some c) (hs : shOk s = true)
    (h : ∀ x r, sp x = some r → BdSh s x → sxTop stdC2 P E Hs k f (Sh.encs s x) (fun y => y = r)) : PureFn P f (gS s sp) :=
  pureFn_sx hE hm hn hh k hex fun args r hg hb => by
    obtain ⟨x, rfl, hx⟩ := gS_spec hg
    exact h x r hx (bd_encs hs hb)
theorem freshFn_S {P : Program} {E : Env} {Hs : FuncId → Hint} (hE : EnvOk P E) (hm : P.follows .mixedOrders = true) (hn : plainNames P = true) (hh : noHeap E) (k : Nat) {f : FuncId} {s : Sh} {sp : Sh.den s → Option (List (List T))} (hex : ∃ fn c, P.funcs[f]? = some fn ∧ fn.body = some c) (hs : shOk s = true)
    (h : ∀ x r, sp x = some r → BdSh s x → sxTopF stdC2 P E Hs k f (Sh.encs s x) (fun y => y = r)) : FreshFn P f (gS s sp) :=
  freshFn_sx hE hm hn hh k hex fun args r hg hb => by
    obtain ⟨x, rfl, hx⟩ := gS_spec hg
    exact h x r hx (bd_encs hs hb)

theorem newFn_S {P : Program} {E : Env} {Hs : FuncId → Hint} (hE : EnvOk P E) (hm : P.follows .mixedOrders = true) (hn : plainNames P = true) (hh : noHeap E) (k : Nat) {f : FuncId} {s : Sh} {sp : Sh.den s → Option T} (hex : ∃ fn c, P.funcs[f]? = some fn ∧ fn.body = some c) (hs : shOk s = true)
    (h : ∀ x r, sp x = some r → BdSh s x → sxTopN stdC2 P E Hs k f (Sh.encs s x) (fun y => y = r)) : NewFn P f (gS s sp) :=
  newFn_sx hE hm hn hh k hex fun args r hg hb => by
    obtain ⟨x, rfl, hx⟩ := gS_spec hg
    exact h x r hx (bd_encs hs hb)
/-! Functions at data of any form. -/
open Classical in
noncomputable def gA {α X : Type} (A : X → List T) (sp : X → Option α) (args : List T) : Option α := if h : ∃ x, args = A x then sp (Classical.choose h) else none
theorem gA_at {α X : Type} {A : X → List T} {sp : X → Option α} (hA : ∀ x y, A x = A y → x = y) (x : X) : gA A sp (A x) = sp x := by
  unfold gA
  have he : ∃ y, A x = A y := ⟨x, rfl⟩
  rw [dif_pos he]
  congr 1
  exact hA _ _ (Classical.choose_spec he).symm
theorem gA_spec {α X : Type} {A : X → List T} {sp : X → Option α} {args : List T} {r : α} (h : gA A sp args = some r) : ∃ x, args = A x ∧ sp x = some r := by
  unfold gA at h
  split at h
  · rename_i he
    exact ⟨_, Classical.choose_spec he, h⟩
  · cases h
theorem pureFn_A {P : Program} {E : Env} {Hs : FuncId → Hint} (hE : EnvOk P E) (hm : P.follows .mixedOrders = true) (hn : plainNames P = true) (hh : noHeap E) (k : Nat) {f : FuncId} {X : Type} {A : X → List T} {sp : X → Option T} (hex : ∃ fn c, P.funcs[f]? = some fn ∧ fn.body = some c)
    (h : ∀ x r, sp x = some r → (∀ t ∈ A x, Bd t) → sxTop stdC2 P E Hs k f (A x) (fun y => y = r)) : PureFn P f (gA A sp) :=
  pureFn_sx hE hm hn hh k hex fun args r hg hb => by
    obtain ⟨x, rfl, hx⟩ := gA_spec hg
    exact h x r hx hb
theorem fmapFn_A {P : Program} {E : Env} {Hs : FuncId → Hint} (hE : EnvOk P E) (hm : P.follows .mixedOrders = true) (hn : plainNames P = true) (hh : noHeap E) (k : Nat) {f : FuncId} {X : Type} {A : X → List T} {sp : X → Option (List (ByteArray × Int))} (hex : ∃ fn c, P.funcs[f]? = some fn ∧ fn.body = some c)
    (h : ∀ x r, sp x = some r → (∀ t ∈ A x, Bd t) → sxTopN stdC2 P E Hs k f (A x) (fun y => y = .mp (encM r))) : NewFn P f (gMap (gA A sp)) :=
  newFn_sx hE hm hn hh k hex fun args r hg hb => by
    unfold gMap at hg
    simp only [Option.map_eq_some_iff] at hg
    obtain ⟨es, hg, rfl⟩ := hg
    obtain ⟨x, rfl, hx⟩ := gA_spec hg
    exact h x es hx hb

/-! ### Words -/
theorem iteP_t (A B : Prop) : iteP true A B = A := propext ⟨fun h => h, fun h => h⟩
theorem iteP_f (A B : Prop) : iteP false A B = B := propext ⟨fun h => h, fun h => h⟩
theorem iteP_def (b : Bool) (A B : Prop) : iteP b A B = if b = true then A else B := by cases b <;> rfl
theorem reqK_def (b : Bool) (K : Prop) : reqK b K = (b = true ∧ K) := rfl
theorem sameK_self (x : Box) (K : Prop) : sameK x x K = K := by simp [sameK]
theorem joinK_def (S : Type) (A : (S → Prop) → Prop) (K : S → Prop) : joinK S A K = A K := rfl
theorem enc_get {r : Sy} {l : List r.den} {i : Nat} {y : r.den} : (List.map r.enc l)[i]? = some (r.enc y) ↔ l[i]? = some y := by
  rw [List.getElem?_map]
  cases h : l[i]? with
  | none => simp
  | some z => simp only [Option.map_some, Option.some.injEq]; exact ⟨Sy.enc_inj r _ _, fun e => by rw [e]⟩
theorem rowsK_map (r : Sy) (l : List r.den) (i : Int) (K : r.den → Prop) : rowsK r (List.map r.enc l) i K = ∃ y, 0 ≤ i ∧ l[i.toNat]? = some y ∧ K y := by
  simp only [rowsK, enc_get]
theorem rowsK_at {r : Sy} {l : List r.den} {k : Nat} (h : k < l.length) (K : r.den → Prop) : rowsK r (List.map r.enc l) (k : Int) K = K l[k] := by
  rw [rowsK_map]
  apply propext
  constructor
  · rintro ⟨y, _, h1, h2⟩
    rw [Int.toNat_natCast, List.getElem?_eq_getElem h] at h1
    cases h1; exact h2
  · exact fun hk => ⟨l[k], by omega, by rw [Int.toNat_natCast, List.getElem?_eq_getElem h], hk⟩
theorem rowK_at {r : Sy} {l : List r.den} {k : Nat} (h : k < l.length) (K : List T → Prop) : rowK (List.map r.enc l) k K = K (r.enc l[k]) := by
  unfold rowK
  have e : (List.map r.enc l)[k]? = some (r.enc l[k]) := enc_get.2 (List.getElem?_eq_getElem h)
  apply propext
  constructor
  · rintro ⟨y, h1, h2⟩
    rw [e] at h1; cases h1; exact h2
  · exact fun hk => ⟨_, e, hk⟩
theorem partK_at {r : Sy} {l : List r.den} {k : Nat} (h : k < l.length) (K : r.den → Prop) : partK r (List.map r.enc l) k 0 K = K l[k] := by
  unfold partK
  have e : (List.map r.enc l)[k]? = some (r.enc l[k]) := enc_get.2 (List.getElem?_eq_getElem h)
  have e2 : ((r.enc l[k]).drop 0).take r.w = r.enc l[k] := by rw [List.drop_zero, ← Sy.enc_len r l[k], List.take_length]
  apply propext
  constructor
  · rintro ⟨row, y, h1, _, h2, h3⟩
    rw [e] at h1; cases h1
    rw [e2] at h2
    rw [Sy.enc_inj r _ _ h2]; exact h3
  · exact fun hk => ⟨_, _, e, by rw [Sy.enc_len]; omega, e2, hk⟩
theorem enc_inj_sh : ∀ {s : Sh}, shOk s = true → ∀ {x y : Sh.den s}, Sh.enc s x = Sh.enc s y → x = y
  | [], _, _, _, _ => rfl
  | [a], h, x, y, he => encV_inj (by simpa [shOk] using h) he
  | a :: b :: l, h, x, y, he => by
    simp only [Sh.enc, T.tup.injEq] at he
    exact encs_inj h he
theorem callK_enc {s : Sh} (hs : shOk s = true) (y : Sh.den s) (K : Sh.den s → Prop) : callK s (some (Sh.enc s y)) K = K y := by
  apply propext
  constructor
  · rintro ⟨z, h1, h2⟩
    rw [enc_inj_sh hs (Option.some.inj h1)]; exact h2
  · exact fun hk => ⟨y, rfl, hk⟩
theorem freshK_enc {r : Sy} (l : List r.den) (K : List r.den → Prop) : freshK r (some (List.map r.enc l)) K = K l := by
  apply propext
  constructor
  · rintro ⟨z, h1, h2⟩
    rw [map_inj (Sy.enc_inj r) (Option.some.inj h1)]; exact h2
  · exact fun hk => ⟨l, rfl, hk⟩
theorem callK_at {s : Sh} {a : Option T} {y : Sh.den s} (h : a = some (Sh.enc s y)) (K : Sh.den s → Prop) (hk : K y) : callK s a K := ⟨y, h, hk⟩
theorem freshK_at {r : Sy} {a : Option (List (List T))} {l : List r.den} (h : a = some (List.map r.enc l)) (K : List r.den → Prop) (hk : K l) : freshK r a K := ⟨l, h, hk⟩
theorem set_self {r : Sy} {l : List r.den} {k : Nat} (h : k < l.length) : (List.map r.enc l).set k (r.enc l[k]) = List.map r.enc l := by
  have : (List.map r.enc l)[k]'(by simpa using h) = r.enc l[k] := by simp
  rw [← this, List.set_getElem_self]
theorem find_drop {α : Type} {p : α → Bool} {l : List α} {k : Nat} (h : k < l.length) : (l.drop k).find? p = if p l[k] = true then some l[k] else (l.drop (k + 1)).find? p := by
  rw [List.drop_eq_getElem_cons h, List.find?_cons]
  cases p l[k] <;> rfl
theorem callK_some {s : Sh} {a : Option T} {y : Sh.den s} {K : Sh.den s → Prop} (h : a = some (Sh.enc s y)) (hk : K y) : callK s a K := ⟨y, h, hk⟩
/-- No raw cells. -/
def Sy.pure : Sy → Bool
  | .any => false
  | .pr a b => a.pure && b.pure
  | .li r => r.pure
  | _ => true
theorem canon0_enc : ∀ {r : Sy} (x : r.den), r.pure = true → (r.enc x).map (T.canon 0) = r.enc x
  | .int _, _, _ => rfl
  | .bool, _, _ => rfl
  | .str, _, _ => rfl
  | .any, _, h => by simp [Sy.pure] at h
  | .pr a b, x, h => by
    simp only [Sy.pure, Bool.and_eq_true] at h
    simp only [Sy.enc, List.map_append, canon0_enc x.1 h.1, canon0_enc x.2 h.2]
  | .li r, _, _ => rfl
theorem canR_map {r : Sy} (h : r.pure = true) (l : List r.den) : canR (List.map r.enc l) = List.map r.enc l := by
  unfold canR
  rw [List.map_map]
  exact List.map_congr_left fun x _ => canon0_enc x h
theorem canR_append (a b : List (List T)) : canR (a ++ b) = canR a ++ canR b := by simp [canR]
theorem decK_of {r : Sy} {rows : List (List T)} {K : List r.den → Prop} (l : List r.den) (h : canR rows = List.map r.enc l) (hk : K l) : decK r rows K := ⟨l, h, hk⟩
theorem decK_map {r : Sy} (h : r.pure = true) (l : List r.den) (K : List r.den → Prop) : decK r (List.map r.enc l) K = K l := by
  apply propext
  constructor
  · rintro ⟨l', h1, h2⟩
    rw [canR_map h] at h1
    rw [map_inj (Sy.enc_inj r) h1]; exact h2
  · exact fun hk => ⟨l, canR_map h l, hk⟩
theorem decK_nil {r : Sy} (K : List r.den → Prop) : decK r [] K = K [] := by
  apply propext
  constructor
  · rintro ⟨l', h1, h2⟩
    cases l' with
    | nil => exact h2
    | cons a l => simp [canR] at h1
  · exact fun hk => ⟨[], rfl, hk⟩
theorem decK_snoc {r : Sy} (h : r.pure = true) (l : List r.den) (row : List T) (y : r.den) (hy : row.map (T.canon 0) = r.enc y) (K : List r.den → Prop) : decK r (List.map r.enc l ++ [row]) K = K (l ++ [y]) := by
  have e : canR (List.map r.enc l ++ [row]) = List.map r.enc (l ++ [y]) := by
    rw [canR_append, canR_map h, List.map_append]
    simp [canR, hy]
  apply propext
  constructor
  · rintro ⟨l', h1, h2⟩
    rw [e] at h1
    rw [map_inj (Sy.enc_inj r) h1]; exact h2
  · exact fun hk => ⟨_, e, hk⟩
/-- A loop: what holds at every round's head, and a measure that goes down. -/
theorem loopK_inv {S : Type} {F : (S → Prop) → S → Prop} {s : S} (I : S → Prop) (μ : S → Nat) (h0 : I s) (step : ∀ (X : S → Prop) (s : S), I s → (∀ s', I s' → μ s' < μ s → X s') → F X s) : loopK S F s := by
  intro X hX
  have key : ∀ n s, μ s < n → I s → X s := by
    intro n
    induction n with
    | zero => intro s h; omega
    | succ n ih => intro s hn hi; exact hX s (step X s hi fun s' h1 h2 => ih s' (by omega) h1)
  exact key (μ s + 1) s (by omega) h0
/-- A loop over the places 0 .. n. -/
theorem loopK_ix {S : Type} {F : (S → Prop) → S → Prop} {s : S} (n : Nat) (J : Nat → S → Prop) (h0 : J 0 s) (step : ∀ (X : S → Prop) (k : Nat) (s : S), k ≤ n → J k s → (∀ s', k < n → J (k + 1) s' → X s') → F X s) : loopK S F s := by
  intro X hX
  have key : ∀ m k s, n - k < m → k ≤ n → J k s → X s := by
    intro m
    induction m with
    | zero => intro k s h; omega
    | succ m ih => intro k s hm hk hj; exact hX s (step X k s hk hj fun s' h1 h2 => ih (k + 1) s' (by omega) (by omega) h2)
  exact key (n + 1) 0 s (by omega) (by omega) h0
theorem len_lt {α : Type} {l : List α} {k : Nat} : decide ((k : Int) < (l.length : Int)) = decide (k < l.length) := by simp
end Go.Pv
