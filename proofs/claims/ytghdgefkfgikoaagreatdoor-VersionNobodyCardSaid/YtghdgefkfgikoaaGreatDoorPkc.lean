/-
  The symbolic executor, part c: operations that write or make memory; a whole region.
-/
import Derived.Test.YtghdgefkfgikoaaGreatDoorPkb
set_option linter.unusedSimpArgs false
namespace Go.Pv
open Go Go.RowKit

abbrev KN := D → (Nat → Option Box) → Nat → Prop
section
variable (C : Combs) (P : Program) (E : Env)
def outN (c : Nat) (x : Option (D × (Nat → Option Box) × Nat)) (K : KN) : Prop := match x with
  | some (d, σ', n') => K d σ' n'
  | none => C.bad c
def storeS (σ : Nat → Option Box) (n : Nat) (t : TypeId) (a v : D) (K : KN) : Prop :=
  match a with
  | .ptr k i j => match σ k with
    | some (.arr ro za rows) => match ro, tsz? P t, allT v.cells with
      | false, some z, some ts => match decide (0 < z) && ts.length == z && ts.all T.leaf with
        | true => C.row rows i fun r => C.req (decide (j + z ≤ r.length)) (K (.p (.v undef)) (upd σ k (some (.arr false za (rows.set i (splice r j ts))))) (n + 1))
        | false => C.bad 101
      | _, _, _ => C.bad 102
    | _ => outN C 103 (one n ((storeD P σ t a v).map fun σ' => (.p (.v undef), σ'))) K
  | _ => C.bad 104
/-- One list behind the other (kept as it stands in prints). -/
def catL (a b : List (List T)) : List (List T) := a ++ b
def appendS (σ : Nat → Option Box) (n : Nat) (t u : TypeId) (s x : D) (K : KN) : Prop :=
  match decide (t = u), elemT P t with
  | true, some e =>
    match tsz? P e, tby? P e, tz? P e, rowsXT σ x with
    | some z, some by_, some zv, some xs =>
      match decide (0 < z) && zv.cells.size == z && zv.cells.all Value.oneCell' with
      | true => match s with
        | .p st => match rowsT st with
          | some (full, []) => C.req (allW z xs && full && decide (xs.length * by_ ≤ 140737488355328) && decide (xs.length ≤ 140737488355328)) (K (.own n) (upd σ n (some (.arr false z xs))) (n + 1))
          | some (full, r :: rows) => iteP xs.isEmpty (K (.p st) σ (n + 1)) (C.req (full && allW z (r :: rows) && allW z xs && decide (((r :: rows).length + xs.length) * by_ ≤ 140737488355328) && decide ((r :: rows).length + xs.length ≤ 140737488355328)) (K (.own n) (upd σ n (some (.arr false z (catL (r :: rows) xs)))) (n + 1)))
          | none => C.bad 111
        | .own k₀ => match σ k₀ with
          | some (.arr ro z' rs) => match ro with
            | false => C.req (decide (z' = z) && allW z xs && decide ((rs.length + xs.length) * by_ ≤ 140737488355328) && decide (rs.length + xs.length ≤ 140737488355328)) (K (.own n) (upd (upd σ k₀ none) n (some (.arr false z (rs ++ xs)))) (n + 1))
            | true => C.bad 112
          | _ => C.bad 113
        | _ => C.bad 114
      | false => C.bad 115
    | _, _, _, _ => C.bad 116
  | _, _ => C.bad 117
def makeS (σ : Nat → Option Box) (n : Nat) (t : TypeId) (len cap : D) (K : KN) : Prop :=
  match elemT P t with
  | some e =>
    match tsz? P e, tby? P e, tz? P e, len, cap with
    | some z, some by_, some zv, .p (.v (.int _ a)), .p (.v (.int _ b)) =>
      match decide (0 < z) && zv.cells.size == z && zv.cells.all Value.oneCell' with
      | true => C.req ((decide (a = b) || decide (a = 0)) && decide (0 ≤ b) && decide (b * by_ ≤ 140737488355328) && decide (b ≤ 140737488355328)) (K (.own n) (upd σ n (some (.arr false z (List.replicate a.toNat (zv.cells.toList.map .v))))) (n + 1))
      | false => C.bad 121
    | _, _, _, _, _ => C.bad 122
  | none => C.bad 123
def mupS (σ : Nat → Option Box) (n : Nat) (t : TypeId) (x i v : D) (K : KN) : Prop :=
  match P.underlying t with
  | some (.map kt _) =>
    match keyKind P kt, i, x with
    | some kd, .p (.v k), .map m =>
      match isKeyB kd k, σ m with
      | true, some (.map ro es) => match ro with
        | false => C.opt _ (findD kd k es 0) fun r => K (.p (.v undef)) (upd σ m (some (.map false (setEnt es r k v)))) (n + 1)
        | true => C.bad 131
      | _, _ => C.bad 132
    | _, _, _ => C.bad 133
  | _ => C.bad 134
def nextS (σ : Nat → Option Box) (n : Nat) (isString : Bool) (d : D) (K : KN) : Prop :=
  match isString, d with
  | true, .it k => match σ k with
    | some (.sit s pos) => iteP (decide (pos < s.size)) (K (.p (.v (.tuple #[.bool true, .int .i64 pos, .int .i32 (Utf8.decode s pos).1]))) (upd σ k (some (.sit s (pos + (Utf8.decode s pos).2)))) (n + 1)) (K (.p (.v (.tuple #[.bool false]))) σ (n + 1))
    | _ => C.bad 141
  | _, _ => C.bad 142
def elemSy (fid : FuncId) : Option Sy := match P.funcs[fid]? with
  | some fn => match fn.resultTypes.toList with
    | [t] => match elemT P t with
      | some e => syOf P e
      | none => none
    | _ => none
  | none => none
def permS (z : Nat) (g : List (List T) → Option (List (List T))) (σ : Nat → Option Box) (n : Nat) (args : List D) (K : KN) : Prop :=
  match args with
  | [.own k] => match σ k with
    | some (.arr ro z' rows) => match ro, decide (z' = z) with
      | false, true => C.opt (List (List T)) (g rows) fun rows' => K (.p (.v (.tuple #[]))) (upd σ k (some (.arr false z rows'))) (n + 1)
      | _, _ => C.bad 155
    | _ => C.bad 156
  | _ => C.bad 157
def freshS (σ : Nat → Option Box) (n : Nat) (f : D) (args : List D) (K : KN) : Prop :=
  match calleeD f with
  | some (fid, a, b) => match E fid with
    | some (.perm z g) => permS C z g σ n (a ++ args ++ b) K
    | _ => match E fid, elemSy P fid, allT (a ++ args ++ b) with
      | some (.fresh g), some r, some ts => C.fresh r (g ts) fun l => iteP l.isEmpty (K (.p (.sl false [])) σ (n + 1)) (K (.own n) (upd σ n (some (.arr false r.w (l.map r.enc)))) (n + 1))
      | _, _, _ => C.bad 151
  | none => C.bad 152
def nvS (σ : Nat → Option Box) (s : Nat → D) (n : Nat) (op : Op) (K : KN) : Prop :=
  match op with
  | .store t a v => storeS C P σ n t (ev s a) (ev s v) K
  | .makeSlice t l c => makeS C P σ n t (ev s l) (ev s c) K
  | .mapUpdate t m i v => mupS C P σ n t (ev s m) (ev s i) (ev s v) K
  | .insert t m i v => mupS C P σ n t (ev s m) (ev s i) (ev s v) K
  | .next it isString => nextS C σ n isString (ev s it) K
  | .call c =>
    match c.callee, c.args.toList, c.argTypes.toList with
    | .builtin .append, [x, y], [t, u] => appendS C P σ n t u (ev s x) (ev s y) K
    | .value f, as, _ => freshS C P E σ n (ev s f) (as.map (ev s)) K
    | _, _, _ => C.bad 161
  | op => outN C 162 (nv P E σ s n op) K
end

section
variable {P : Program} {E : Env}
theorem outN_spec {c : Nat} {x : Option (D × (Nat → Option Box) × Nat)} {K : KN} (h : outN stdC c x K) : ∃ d σ' n', x = some (d, σ', n') ∧ K d σ' n' := by
  unfold outN at h
  split at h
  · exact ⟨_, _, _, rfl, h⟩
  · exact h.elim
theorem storeS_spec {σ : Nat → Option Box} {n : Nat} {t : TypeId} {a v : D} {K : KN} (h : storeS stdC P σ n t a v K) : ∃ d σ' n', one n ((storeD P σ t a v).map fun σ' => (D.p (.v undef), σ')) = some (d, σ', n') ∧ K d σ' n' := by
  unfold storeS at h
  split at h
  · rename_i k i j
    split at h
    · rename_i ro za rows hσ
      split at h
      · rename_i z ts hz hts
        split at h
        · rename_i hc
          simp only [Bool.and_eq_true, decide_eq_true_eq, beq_iff_eq] at hc
          obtain ⟨r, hr, hb, hk⟩ := h
          have hb : j + z ≤ r.length := of_decide_eq_true hb
          refine ⟨_, _, _, ?_, hk⟩
          simp only [one, storeD, hσ, hz, hr, hts]
          rw [if_pos ⟨hc.1.1, hc.1.2, hb, hc.2⟩]
          rfl
        · exact h.elim
      · exact h.elim
    · exact outN_spec h
  · exact h.elim
theorem appendS_spec {σ : Nat → Option Box} {n : Nat} {t u : TypeId} {s x : D} {K : KN} (h : appendS stdC P σ n t u s x K) : ∃ d σ' n', one n (appendD P σ n t u s x) = some (d, σ', n') ∧ K d σ' n' := by
  unfold appendS at h
  split at h
  · rename_i e htu he
    have htu : t = u := of_decide_eq_true htu
    split at h
    · rename_i z by_ zv xs hz hby hzv hxs
      split at h
      · rename_i hc
        simp only [Bool.and_eq_true, decide_eq_true_eq, beq_iff_eq] at hc
        split at h
        · rename_i st
          split at h
          · rename_i full hrow
            obtain ⟨hb, hk⟩ := h
            simp only [Bool.and_eq_true, decide_eq_true_eq] at hb
            refine ⟨_, _, _, ?_, hk⟩
            simp only [one, appendD, if_pos htu, he, hz, hby, hzv, hxs]
            rw [if_pos ⟨hc.1.1, hc.1.2, hc.2, hb.1.1.1⟩]
            simp only [hrow]
            rw [if_pos ⟨hb.1.1.2, hb.1.2, hb.2⟩]
            rfl
          · rename_i full r rows hrow
            rw [iteP_iff] at h
            cases xs with
            | nil =>
              refine ⟨_, _, _, ?_, h.1 rfl⟩
              simp only [one, appendD, if_pos htu, he, hz, hby, hzv, hxs]
              rw [if_pos ⟨hc.1.1, hc.1.2, hc.2, rfl⟩]
              simp only [hrow]
              rfl
            | cons x0 xs =>
              obtain ⟨hb, hk⟩ := h.2 rfl
              simp only [Bool.and_eq_true, decide_eq_true_eq] at hb
              refine ⟨_, _, _, ?_, hk⟩
              simp only [one, appendD, if_pos htu, he, hz, hby, hzv, hxs]
              rw [if_pos ⟨hc.1.1, hc.1.2, hc.2, hb.1.1.2⟩]
              simp only [hrow]
              rw [if_pos ⟨hb.1.1.1.1, hb.1.1.1.2, hb.1.2, hb.2⟩]
              rfl
          · exact h.elim
        · rename_i k₀
          split at h
          · rename_i ro z' rs hσ
            split at h
            · obtain ⟨hb, hk⟩ := h
              simp only [Bool.and_eq_true, decide_eq_true_eq] at hb
              refine ⟨_, _, _, ?_, hk⟩
              simp only [one, appendD, if_pos htu, he, hz, hby, hzv, hxs]
              rw [if_pos ⟨hc.1.1, hc.1.2, hc.2, hb.1.1.2⟩]
              simp only [hσ]
              rw [if_pos ⟨hb.1.1.1, hb.1.2, hb.2⟩]
              rfl
            · exact h.elim
          · exact h.elim
        · exact h.elim
      · exact h.elim
    · exact h.elim
  · exact h.elim
theorem makeS_spec {σ : Nat → Option Box} {n : Nat} {t : TypeId} {a b : D} {K : KN} (h : makeS stdC P σ n t a b K) : ∃ d σ' n', one n (makeD P σ n t a b) = some (d, σ', n') ∧ K d σ' n' := by
  unfold makeS at h
  split at h
  · rename_i e he
    split at h
    · rename_i z by_ zv k1 x k2 y hz hby hzv
      split at h
      · rename_i hc
        simp only [Bool.and_eq_true, decide_eq_true_eq, beq_iff_eq] at hc
        obtain ⟨hb, hk⟩ := h
        simp only [Bool.and_eq_true, Bool.or_eq_true, decide_eq_true_eq] at hb
        refine ⟨_, _, _, ?_, hk⟩
        simp only [one, makeD, he, hz, hby, hzv]
        rw [if_pos ⟨hb.1.1.1, hb.1.1.2, hb.1.2, hb.2, hc.1.1, hc.1.2, hc.2⟩]
        rfl
      · exact h.elim
    · exact h.elim
  · exact h.elim
theorem mupS_spec {σ : Nat → Option Box} {n : Nat} {t : TypeId} {x i v : D} {K : KN} (h : mupS stdC P σ n t x i v K) : ∃ d σ' n', one n ((mupD P σ t x i v).map fun σ' => (D.p (.v undef), σ')) = some (d, σ', n') ∧ K d σ' n' := by
  unfold mupS at h
  split at h
  · rename_i kt et hu
    split at h
    · rename_i kd k m hk
      split at h
      · rename_i ro es hkey hσ
        split at h
        · obtain ⟨r, hr, hk'⟩ := h
          refine ⟨_, _, _, ?_, hk'⟩
          simp only [one, mupD, hu, hk, hkey, hσ, hr]
          rfl
        · exact h.elim
      · exact h.elim
    · exact h.elim
  · exact h.elim
theorem nextS_spec {σ : Nat → Option Box} {n : Nat} {b : Bool} {x : D} {K : KN} (h : nextS stdC σ n b x K) : ∃ d σ' n', one n (nextD σ b x) = some (d, σ', n') ∧ K d σ' n' := by
  unfold nextS at h
  split at h
  · rename_i k
    split at h
    · rename_i s pos hσ
      rw [iteP_iff] at h
      by_cases hp : pos < s.size
      · refine ⟨_, _, _, ?_, h.1 (by simpa using hp)⟩
        simp only [one, nextD, hσ]
        rw [if_pos hp]
        rfl
      · refine ⟨_, _, _, ?_, h.2 (by simpa using hp)⟩
        simp only [one, nextD, hσ]
        rw [if_neg hp]
        rfl
    · exact h.elim
  · exact h.elim
theorem freshS_spec {σ : Nat → Option Box} {n : Nat} {f : D} {args : List D} {K : KN} (h : freshS stdC P E σ n f args K) : ∃ d σ' n', callF E σ n f args = some (d, σ', n') ∧ K d σ' n' := by
  unfold freshS at h
  split at h
  · rename_i fid a b hc
    split at h
    · rename_i z g hE
      unfold permS at h
      split at h
      · rename_i k hargs
        split at h
        · rename_i ro z' rows hσ
          split at h
          · rename_i hz
            obtain ⟨rows', h1, h2⟩ := h
            refine ⟨_, _, _, ?_, h2⟩
            simp only [callF, hc, hE, gPerm, hargs, hσ, hz, h1, Option.map_some]
          · exact h.elim
        · exact h.elim
      · exact h.elim
    · split at h
      · rename_i g r ts hE hr hts
        obtain ⟨l, h1, h2⟩ := h
        rw [iteP_iff] at h2
        cases l with
        | nil =>
          refine ⟨_, _, _, ?_, h2.1 rfl⟩
          simp only [callF, hc, hE, hts, h1]
          rfl
        | cons x l =>
          refine ⟨_, _, _, ?_, h2.2 rfl⟩
          simp only [callF, hc, hE, hts, h1, List.map_cons, Sy.enc_len]
      · exact h.elim
  · exact h.elim
theorem nvS_spec {σ : Nat → Option Box} {s : Nat → D} {n : Nat} {op : Op} {K : KN} (h : nvS stdC P E σ s n op K) : ∃ d σ' n', nv P E σ s n op = some (d, σ', n') ∧ K d σ' n' := by
  unfold nvS at h
  split at h
  · exact storeS_spec h
  · exact makeS_spec h
  · exact mupS_spec h
  · exact mupS_spec h
  · exact nextS_spec h
  · rename_i c
    split at h
    · rename_i x y t u hc ha hat
      obtain ⟨d, σ', n', h1, h2⟩ := appendS_spec h
      refine ⟨d, σ', n', ?_, h2⟩
      simp only [nv, hc, ha, hat]
      exact h1
    · rename_i f hc
      obtain ⟨d, σ', n', h1, h2⟩ := freshS_spec h
      refine ⟨d, σ', n', ?_, h2⟩
      simp only [nv, hc, callN, h1]
    · exact h.elim
  · exact outN_spec h
end

/-! ### What a step leaves alone -/
def Fr0 (σ : Nat → Option Box) (n : Nat) (σ' : Nat → Option Box) (n' : Nat) : Prop := n ≤ n' ∧ ∀ k x, k < n → σ k = some x → boxWr x = false → σ' k = some x
theorem Fr0.refl (σ : Nat → Option Box) (n : Nat) : Fr0 σ n σ n := ⟨Nat.le_refl _, fun _ _ _ h _ => h⟩
theorem Fr0.trans {σ σ' σ'' : Nat → Option Box} {n n' n'' : Nat} (h : Fr0 σ n σ' n') (h' : Fr0 σ' n' σ'' n'') : Fr0 σ n σ'' n'' :=
  ⟨Nat.le_trans h.1 h'.1, fun k x hk hx hw => h'.2 k x (Nat.lt_of_lt_of_le hk h.1) (h.2 k x hk hx hw) hw⟩
theorem Fr0.new {σ : Nat → Option Box} {n n' : Nat} (x : Option Box) (h : n ≤ n') : Fr0 σ n (upd σ n x) n' := ⟨h, fun k y hk hy _ => by rw [upd_ne _ _ (by omega)]; exact hy⟩
theorem Fr0.same {σ : Nat → Option Box} {n n' : Nat} (h : n ≤ n') : Fr0 σ n σ n' := ⟨h, fun _ _ _ h _ => h⟩
theorem Fr0.set {σ : Nat → Option Box} {n n' m : Nat} {x₀ : Box} (x : Option Box) (h : n ≤ n') (hm : σ m = some x₀) (hw : boxWr x₀ = true) : Fr0 σ n (upd σ m x) n' := ⟨h, fun k y hk hy hy' => by
  by_cases e : k = m
  · subst e; rw [hm] at hy; cases hy; rw [hw] at hy'; cases hy'
  · rw [upd_ne _ _ e]; exact hy⟩
def noHeap (E : Env) : Prop := ∀ f g, E f ≠ some (.heap g)
section
variable {P : Program} {E : Env}
theorem one_some {n : Nat} {x : Option (D × (Nat → Option Box))} {d : D} {σ' : Nat → Option Box} {n' : Nat} (h : one n x = some (d, σ', n')) : x = some (d, σ') ∧ n' = n + 1 := by
  unfold one at h
  cases x with
  | none => cases h
  | some y => obtain ⟨a, b⟩ := y; simp only [Option.map_some, Option.some.injEq, Prod.mk.injEq] at h; obtain ⟨rfl, rfl, rfl⟩ := h; exact ⟨rfl, rfl⟩
theorem callF_fr (hh : noHeap E) {σ : Nat → Option Box} {n : Nat} {c : D} {args : List D} {d : D} {σ' : Nat → Option Box} {n' : Nat} (h : callF E σ n c args = some (d, σ', n')) : Fr0 σ n σ' n' := by
  unfold callF at h
  split at h
  · split at h
    · split at h
      · split at h
        · split at h
          · cases h; exact .same (by omega)
          · cases h; exact .new _ (by omega)
        · cases h
      · split at h
        · split at h
          · split at h
            · cases h; exact .new _ (by omega)
            · cases h
          · cases h
        · cases h
    · split at h
      · split at h
        · cases h; exact .same (by omega)
        · split at h
          · cases h; exact .new _ (by omega)
          · cases h
        · cases h
      · cases h
    · rename_i hg; exact absurd hg (hh _ _)
    · unfold gPerm at h
      split at h
      · split at h
        · rename_i hσ
          split at h
          · simp only [Option.map_eq_some_iff, Prod.mk.injEq] at h
            obtain ⟨_, _, _, rfl, rfl⟩ := h
            exact .set _ (by omega) hσ rfl
          · cases h
        · cases h
      · cases h
    · cases h
  · cases h
theorem giveD_fr : ∀ {ps ps' : List (Nat × D)} {σ σ1 : Nat → Option Box} {n n' : Nat}, n ≤ n' → giveD σ ps = some (ps', σ1) → Fr0 σ n σ1 n'
  | [], ps', σ, σ1, n, n', hn, h => by
    simp only [giveD] at h
    cases h
    exact .same hn
  | p :: ps, ps', σ, σ1, n, n', hn, h => by
    obtain ⟨pi, pd⟩ := p
    unfold giveD at h
    split at h
    · rename_i e; cases e
    · rename_i i k r e
      cases e
      split at h
      · rename_i z rows hk
        simp only [Option.map_eq_some_iff, Prod.mk.injEq] at h
        obtain ⟨⟨_, _⟩, hg, _, rfl⟩ := h
        exact (Fr0.set (n' := n) none (Nat.le_refl _) hk rfl).trans (giveD_fr hn hg)
      · cases h
    · rename_i i d r _ e
      cases e
      simp only [Option.map_eq_some_iff, Prod.mk.injEq] at h
      obtain ⟨⟨_, _⟩, hg, _, rfl⟩ := h
      exact giveD_fr hn hg
theorem nv_fr (hh : noHeap E) {σ : Nat → Option Box} {s : Nat → D} {n : Nat} {op : Op} {d : D} {σ' : Nat → Option Box} {n' : Nat} (h : nv P E σ s n op = some (d, σ', n')) : Fr0 σ n σ' n' := by
  unfold nv at h
  split at h
  · obtain ⟨h1, rfl⟩ := one_some h
    cases hz : tz? P _ with
    | none => rw [hz] at h1; cases h1
    | some z =>
      rw [hz] at h1
      simp only [Option.bind_some, Option.map_eq_some_iff, Prod.mk.injEq] at h1
      obtain ⟨b, _, rfl, rfl⟩ := h1
      exact .new _ (by omega)
  · obtain ⟨h1, rfl⟩ := one_some h
    simp only [Option.map_eq_some_iff, Prod.mk.injEq] at h1
    obtain ⟨b, _, rfl, rfl⟩ := h1
    exact .new _ (by omega)
  · obtain ⟨h1, rfl⟩ := one_some h
    simp only [Option.map_eq_some_iff, Prod.mk.injEq] at h1
    obtain ⟨σ₂, h2, rfl, rfl⟩ := h1
    unfold storeD at h2
    split at h2
    · split at h2
      · rename_i hσ hz
        split at h2
        · split at h2
          · cases h2; exact .set _ (by omega) hσ rfl
          · cases h2
        · cases h2
      · rename_i hσ hz
        split at h2
        · split at h2
          · cases h2; exact .set _ (by omega) hσ rfl
          · cases h2
        · cases h2
      · cases h2
    · cases h2
  · split at h
    · rename_i r hr
      obtain ⟨h1, rfl⟩ := one_some h
      cases h1
      unfold mranD at hr
      split at hr
      · split at hr
        · cases hr; exact .new _ (by omega)
        · cases hr
      · cases hr; exact .new _ (by omega)
      · cases hr; exact .new _ (by omega)
      · cases hr
    · obtain ⟨h1, rfl⟩ := one_some h
      unfold rangeD at h1
      split at h1
      · cases h1; exact .new _ (by omega)
      · cases h1
  · split at h
    · obtain ⟨h1, rfl⟩ := one_some h
      cases h1; exact .new _ (by omega)
    · split at h
      · obtain ⟨h1, rfl⟩ := one_some h
        cases h1; exact .new _ (by omega)
      · cases h
  · obtain ⟨h1, rfl⟩ := one_some h
    unfold makeD at h1
    split at h1
    · split at h1
      · split at h1
        · cases h1; exact .new _ (by omega)
        · cases h1
      · cases h1
    · cases h1
  · split at h
    · rename_i hgv
      split at h
      · obtain ⟨h1, rfl⟩ := one_some h
        cases h1; exact (giveD_fr (Nat.le_refl _) hgv).trans (.new _ (by omega))
      · cases h
    · cases h
  · obtain ⟨h1, rfl⟩ := one_some h
    simp only [Option.map_eq_some_iff, Prod.mk.injEq] at h1
    obtain ⟨σ₂, h2, rfl, rfl⟩ := h1
    unfold mupD at h2
    split at h2
    · split at h2
      · split at h2
        · rename_i hσ
          split at h2
          · cases h2; exact .set _ (by omega) hσ rfl
          · cases h2
        · cases h2
      · cases h2
    · cases h2
  · obtain ⟨h1, rfl⟩ := one_some h
    simp only [Option.map_eq_some_iff, Prod.mk.injEq] at h1
    obtain ⟨σ₂, h2, rfl, rfl⟩ := h1
    unfold mupD at h2
    split at h2
    · split at h2
      · split at h2
        · rename_i hσ
          split at h2
          · cases h2; exact .set _ (by omega) hσ rfl
          · cases h2
        · cases h2
      · cases h2
    · cases h2
  · obtain ⟨h1, rfl⟩ := one_some h
    unfold mentD at h1
    split at h1
    · split at h1
      · split at h1
        · rename_i hσ
          split at h1
          · cases h1; exact .set _ (by omega) hσ rfl
          · cases h1; exact .set _ (by omega) hσ rfl
          · cases h1
        · cases h1
      · cases h1
    · cases h1
  · obtain ⟨h1, rfl⟩ := one_some h
    simp only [Option.map_eq_some_iff, Prod.mk.injEq] at h1
    obtain ⟨σ₂, h2, rfl, rfl⟩ := h1
    unfold mstoD at h2
    split at h2
    · split at h2
      · rename_i hσ
        split at h2
        · cases h2; exact .set _ (by omega) hσ rfl
        · cases h2
      · cases h2
    · cases h2
  · obtain ⟨h1, rfl⟩ := one_some h
    simp only [Option.map_eq_some_iff, Prod.mk.injEq] at h1
    obtain ⟨_, _, _, rfl⟩ := h1
    exact .same (by omega)
  · obtain ⟨h1, rfl⟩ := one_some h
    unfold nextD at h1
    split at h1
    · split at h1
      · rename_i hσ
        split at h1
        · cases h1; exact .set _ (by omega) hσ rfl
        · cases h1; exact .same (by omega)
      · cases h1
    · cases h1
  · split at h
    · obtain ⟨h1, rfl⟩ := one_some h
      unfold appendD at h1
      split at h1
      · split at h1
        · split at h1
          · split at h1
            · split at h1
              · split at h1
                · split at h1
                  · cases h1; exact .new _ (by omega)
                  · cases h1
                · split at h1
                  · cases h1; exact .same (by omega)
                  · split at h1
                    · cases h1; exact .new _ (by omega)
                    · cases h1
                · cases h1
              · split at h1
                · rename_i hσ
                  split at h1
                  · cases h1
                    exact (Fr0.set (n' := n) none (Nat.le_refl _) hσ rfl).trans (.new _ (by omega))
                  · cases h1
                · cases h1
              · cases h1
            · cases h1
          · cases h1
        · cases h1
      · cases h1
    · unfold callN at h
      split at h
      · rename_i r hcf
        cases h
        exact callF_fr hh hcf
      · simp only [Option.map_eq_some_iff, Prod.mk.injEq] at h
        obtain ⟨_, _, _, rfl, rfl⟩ := h
        exact .same (Nat.le_refl _)
    · cases h
  · cases h
end

/-! ### One operation, a region -/
section
variable (C : Combs) (P : Program) (E : Env) (nt : Nat)
/-- The guard's datum is one of the two. -/
def splitK (ops : Array Oper) (o : Oper) (st : St) (K : St → Prop) : Prop := match o.guard with
  | none => K st
  | some (j, _) => match (ops[j]?).bind (·.dst) with
    | none => K st
    | some t => match st.s t with
      | .p (.v (.bool b)) => iteP b (K ⟨upd st.s t (.p (.v (.bool true))), st.σ, st.n⟩) (K ⟨upd st.s t (.p (.v (.bool false))), st.σ, st.n⟩)
      | _ => K st
def putK (st : St) (dst : Option Tmp) (d : D) (σ' : Nat → Option Box) (n' : Nat) (K : St → Prop) : Prop := match putS nt st dst d σ' n' with
  | some st' => K st'
  | none => C.bad 201
def stepK (ops : Array Oper) (o : Oper) (st : St) (K : St → Prop) : Prop :=
  match guardC ops st.s o with
  | some true => match isQuiet E o.op with
    | true => qvS C P E st.n st.σ st.s (stripS true st.s) o.op fun d => putK C nt st o.dst d st.σ st.n K
    | false => nvS C P E st.σ (stripS true st.s) st.n o.op fun d σ' n' => putK C nt st o.dst d σ' n' K
  | some false => putK C nt st o.dst (.p (.v undef)) st.σ st.n K
  | none => C.bad 202
end
def Same (A : Nat → Bool) (st st' : St) : Prop := ∀ i, A i = false → st'.s i = st.s i
structure Fr (A : Nat → Bool) (st st' : St) : Prop where
  s : Same A st st'
  b : Fr0 st.σ st.n st'.σ st'.n
theorem Fr.refl (A : Nat → Bool) (st : St) : Fr A st st := ⟨fun _ _ => rfl, Fr0.refl _ _⟩
theorem Fr.trans {A : Nat → Bool} {st st' st'' : St} (h : Fr A st st') (h' : Fr A st' st'') : Fr A st st'' := ⟨fun i hi => (h'.s i hi).trans (h.s i hi), h.b.trans h'.b⟩
theorem Fr.mono {A B : Nat → Bool} {st st' : St} (h : Fr A st st') (hab : ∀ i, B i = false → A i = false) : Fr B st st' := ⟨fun i hi => h.s i (hab i hi), h.b⟩
section
variable {P : Program} {E : Env} {nt : Nat} {ops : Array Oper}
theorem splitK_spec {o : Oper} {st : St} {K : St → Prop} (h : splitK ops o st K) : K st := by
  unfold splitK at h
  split at h
  · exact h
  · split at h
    · exact h
    · rename_i t ht
      split at h
      · rename_i b hb
        have key : ∀ c, b = c → (⟨upd st.s t (.p (.v (.bool c))), st.σ, st.n⟩ : St) = st := by
          intro c hc
          subst hc
          have : upd st.s t (.p (.v (.bool b))) = st.s := by
            funext i
            by_cases e : i = t
            · subst e; rw [upd_same, hb]
            · rw [upd_ne _ _ e]
          rw [this]
        cases b with
        | true => rw [← key true rfl]; exact h
        | false => rw [← key false rfl]; exact h
      · exact h
theorem putK_spec {st : St} {dst : Option Tmp} {d : D} {σ' : Nat → Option Box} {n' : Nat} {K : St → Prop} (h : putK stdC nt st dst d σ' n' K) : ∃ st', putS nt st dst d σ' n' = some st' ∧ K st' := by
  unfold putK at h
  split at h
  · exact ⟨_, ‹_›, h⟩
  · exact h.elim
theorem stepK_spec {o : Oper} {st : St} {K : St → Prop} (h : stepK stdC P E nt ops o st K) : ∃ st', stepO P E nt ops o st = some st' ∧ K st' := by
  unfold stepK at h
  unfold stepO
  split at h
  · rename_i hg
    split at h
    · rename_i hq
      obtain ⟨d, h1, h2⟩ := qvS_spec h
      obtain ⟨st', h3, h4⟩ := putK_spec h2
      exact ⟨st', by simp only [hq, if_true, qstep, hg, h1, h3], h4⟩
    · rename_i hq
      obtain ⟨d, σ', n', h1, h2⟩ := nvS_spec h
      obtain ⟨st', h3, h4⟩ := putK_spec h2
      exact ⟨st', by simp only [hq, Bool.false_eq_true, if_false, hg, h1, h3], h4⟩
  · rename_i hg
    obtain ⟨st', h3, h4⟩ := putK_spec h
    refine ⟨st', ?_, h4⟩
    by_cases hq : isQuiet E o.op = true
    · simp only [hq, if_true, qstep, hg, h3]
    · simp only [hq, Bool.false_eq_true, if_false, hg, h3]
  · exact h.elim
theorem putS_fr {st st' : St} {dst : Option Tmp} {d : D} {σ' : Nat → Option Box} {n' : Nat} {A : Nat → Bool} (h : putS nt st dst d σ' n' = some st') (hA : ∀ t, dst = some t → A t = true) (hf : Fr0 st.σ st.n σ' n') : Fr A st st' := by
  obtain ⟨_, rfl⟩ := putS_eq h
  refine ⟨fun i hi => ?_, hf⟩
  unfold updO
  cases dst with
  | none => rfl
  | some t => exact upd_ne _ _ fun e => by subst e; rw [hA _ rfl] at hi; cases hi
theorem stepO_fr (hh : noHeap E) {o : Oper} {st st' : St} {A : Nat → Bool} (h : stepO P E nt ops o st = some st') (hA : ∀ t, o.dst = some t → A t = true) : Fr A st st' := by
  unfold stepO at h
  split at h
  · split at h
    · exact putS_fr h hA (Fr0.refl _ _)
    · cases h
  · split at h
    · split at h
      · rename_i d σ' n' hn
        exact putS_fr h hA (nv_fr hh hn)
      · cases h
    · exact putS_fr h hA (Fr0.refl _ _)
    · cases h
end
end Go.Pv
