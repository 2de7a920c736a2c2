/-
  The pure evaluator, part g: frozen data, calls of functions that are known, and the operations that leave the boxes alone, all together.
-/
import Derived.Test.YtnepemjcinpohaaPvf
set_option linter.unusedSimpArgs false
namespace Go.Pv
open Go Go.RowKit

/-! ### Freezing -/
def frz (σ : Nat → Option Box) : Nat → D → Option T
  | _, .p t => some t
  | n + 1, .agg cs => (cs.mapM (frz σ n)).map .agg
  | n + 1, .tup cs => (cs.mapM (frz σ n)).map .tup
  | n + 1, .fn f a b => match a.mapM (frz σ n), b.mapM (frz σ n) with
    | some a, some b => some (.fn f a b)
    | _, _ => none
  | n + 1, .ptr k i j =>
    match σ k with
    | some (.rows rs) => match rs[i]? with
      | some r => if j < r.length then ((r.drop j).mapM (frz σ n)).map .ref else none
      | none => none
    | _ => none
  | n + 1, .bs k off len =>
    match σ k with
    | some (.rows rs) => if off + len ≤ rs.length then (((rs.drop off).take len).mapM fun (r : List D) => r.mapM (frz σ n)).map (.sl false) else none
    | _ => none
  | _, _ => none

section
variable {cx : Cx} {ρ : Nat → Option Loc} {σ : Nat → Option Box} {n : Nat} {w : World}
/-- What the caller of this function holds, is no block of ours. -/
theorem Inv.cxown (h : Inv cx ρ σ n w) {k : Nat} {l : Loc} (hl : ρ k = some l) : ¬ cx.own l.blk := fun ho => by
  have := h.ownlt _ ho
  have := (h.new k l hl).2.1
  omega
theorem RdT.less {own own' : Nat → Prop} (ho : ∀ b, own' b → own b) {t : T} {v : Value} (h : RdT w own t v) : RdT w own' t v :=
  h.mono (fun _ _ _ _ h => h) (Nat.le_refl _) (fun b _ hn hc => hn (ho b hc))

theorem frzL_of {own own0 : Nat → Prop} {τ : Nat → Option Box} {m : Nat} (ih : ∀ {d : D} {t : T} {v : Value}, Rd w own ρ d v → frz τ m d = some t → RdT w own0 t v) {ds : List D} {ts : List T} {vs : Array Value} (h : RdA (Rd w own ρ) ds vs)
    (hf : ds.mapM (frz τ m) = some ts) : RdA (RdT w own0) ts vs := by
  obtain ⟨h1, h2⟩ := mapM_some_length hf
  refine ⟨by rw [h1]; exact h.1, fun i hi => ?_⟩
  exact ih (h.2 i (by omega)) (h2 i (by omega) hi)

/-- Data of which the boxes in 'τ' are laid still. -/
theorem frz_of {own0 : Nat → Prop} {τ : Nat → Option Box} (h : Inv cx ρ σ n w) (h0 : ∀ b, own0 b → Own cx ρ σ b) (hτ : ∀ k x, τ k = some x → σ k = some x) (hd : ∀ k x l, τ k = some x → ρ k = some l → ¬ own0 l.blk) :
    ∀ (m : Nat) {d : D} {t : T} {v : Value}, Rd w (Own cx ρ σ) ρ d v → frz τ m d = some t → RdT w own0 t v := by
  have hdis := hd
  clear hd
  intro m
  induction m with
  | zero =>
    intro d t v hd hf
    cases d <;> simp [frz] at hf
    subst hf
    cases hd with
    | p _ _ hd => exact hd.less h0
  | succ m ih =>
    intro d t v hd hf
    cases hd with
    | p t' _ hd => simp [frz] at hf; subst hf; exact hd.less h0
    | agg cs vs h1 h2 =>
      simp only [frz, Option.map_eq_some_iff] at hf
      obtain ⟨ts, hts, rfl⟩ := hf
      have := frzL_of ih ⟨h1, h2⟩ hts
      exact .agg _ _ this.1 this.2
    | tup cs vs h1 h2 =>
      simp only [frz, Option.map_eq_some_iff] at hf
      obtain ⟨ts, hts, rfl⟩ := hf
      have := frzL_of ih ⟨h1, h2⟩ hts
      exact .tup _ _ this.1 this.2
    | fn f fs cs va vb h1 h2 h3 h4 =>
      simp only [frz] at hf
      split at hf
      · rename_i a b ha hb
        cases hf
        have k1 := frzL_of ih ⟨h1, h3⟩ ha
        have k2 := frzL_of ih ⟨h2, h4⟩ hb
        exact .fn _ _ _ _ _ k1.1 k2.1 k1.2 k2.2
      · cases hf
    | ptr k i j l hl =>
      simp only [frz] at hf
      split at hf
      · rename_i rs hk
        split at hf
        · rename_i r hr
          split at hf
          · rename_i hj
            simp only [Option.map_eq_some_iff] at hf
            obtain ⟨ts, hts, rfl⟩ := hf
            obtain ⟨g1, g2⟩ := mapM_some_length hts
            have hcell := fun q hq => h.cellOf (hτ _ _ hk) hr (j := j + q) hq hl
            have hex : ∃ f : Nat → Value, ∀ q, q < ts.length → w.cell? ⟨l.blk, (i * l.sz + j) + q, none⟩ = some (f q) ∧ (f q).oneCell' = true ∧ ∀ (hq : q < ts.length), RdT w own0 ts[q] (f q) := by
              refine ⟨fun q => if hq : j + q < r.length then Classical.choose (hcell q hq) else undef, fun q hq => ?_⟩
              have hq' : j + q < r.length := by rw [g1] at hq; simp at hq; omega
              have hs := Classical.choose_spec (hcell q hq')
              simp only [dif_pos hq']
              refine ⟨by rw [Nat.add_assoc]; exact hs.1, hs.2.2, fun _ => ih hs.2.1 ?_⟩
              have := g2 q (by omega) hq
              simpa using this
            obtain ⟨f, hf⟩ := hex
            exact .ref ts l.blk _ f (hdis _ _ _ hk hl) (h.new k l hl).2.2 (fun q hq => ⟨(hf q hq).1, (hf q hq).2.1⟩) (fun q hq => (hf q hq).2.2 hq)
          · cases hf
        · cases hf
      · cases hf
    | bs k off len l hl hc1 hc2 =>
      simp only [frz] at hf
      split at hf
      · rename_i rs hk
        split at hf
        · rename_i hle
          simp only [Option.map_eq_some_iff] at hf
          obtain ⟨rows, hrows, rfl⟩ := hf
          obtain ⟨g1, g2⟩ := mapM_some_length hrows
          obtain ⟨l', c, hl', _, hb⟩ := h.rows (hτ _ _ hk)
          rw [hl] at hl'; cases hl'
          have hlen : rows.length = len := by rw [g1]; simp; omega
          by_cases he : rows = []
          · subst he
            simp at hlen
            subst hlen
            exact .slNil false _ _ (by simp) (by simp)
          · have hpos : 0 < rows.length := List.length_pos_iff.2 he
            have hrow : ∀ i (hi : i < rows.length), ∃ (h2 : off + i < rs.length), rs[off + i].mapM (frz τ m) = some rows[i] := by
              intro i hi
              have := g2 i (by omega) hi
              refine ⟨by omega, ?_⟩
              simpa using this
            have hw : ∀ i (hi : i < rows.length), rows[i].length = l.sz := by
              intro i hi
              obtain ⟨h2, h3⟩ := hrow i hi
              rw [(mapM_some_length h3).1]
              exact hb.width _ (List.getElem_mem h2)
            have hcell : ∀ i j (hi : i < rows.length) (hj : j < l.sz), ∃ u, w.cell? ⟨l.blk, off * l.sz + i * l.sz + j, none⟩ = some u ∧ u.oneCell' = true ∧ ∀ (hj : j < rows[i].length), RdT w own0 rows[i][j] u := by
              intro i j hi hj
              obtain ⟨h2, h3⟩ := hrow i hi
              obtain ⟨e1, e2⟩ := mapM_some_length h3
              have hwid := hb.width _ (List.getElem_mem h2)
              obtain ⟨u, u1, u2, u3⟩ := h.cellOf (hτ _ _ hk) (i := off + i) (r := rs[off + i]) (by simp [h2]) (j := j) (by omega) hl
              refine ⟨u, by rw [← Nat.add_mul]; exact u1, u3, fun hj' => ih u2 (e2 j (by omega) hj')⟩
            have hex : ∃ f : Nat → Nat → Value, ∀ i j (hi : i < rows.length) (hj : j < l.sz), w.cell? ⟨l.blk, off * l.sz + i * l.sz + j, none⟩ = some (f i j) ∧ (f i j).oneCell' = true ∧ ∀ (hj : j < rows[i].length), RdT w own0 rows[i][j] (f i j) := by
              refine ⟨fun i j => if hij : i < rows.length ∧ j < l.sz then Classical.choose (hcell i j hij.1 hij.2) else undef, fun i j hi hj => ?_⟩
              have hs := Classical.choose_spec (hcell i j hi hj)
              simp only [dif_pos (show i < rows.length ∧ j < l.sz from ⟨hi, hj⟩)]
              exact hs
            obtain ⟨f, hf⟩ := hex
            rw [← hlen]
            have hsm := hb.small
            exact .sl false rows l.sz l.blk (off * l.sz) (l.C - off) f (by omega) (by omega) (by simp) (hdis _ _ _ hk hl) (h.new k l hl).2.2 (fun r hr => by
              obtain ⟨i, hi, rfl⟩ := List.mem_iff_getElem.1 hr
              exact hw i hi) hb.pos (fun i j hi hj => ⟨(hf i j hi hj).1, (hf i j hi hj).2.1⟩) (fun i j hi hj => (hf i j hi (by rw [← hw i hi]; exact hj)).2.2 hj)
        · cases hf
      · cases hf
    | map k l hl => simp [frz] at hf
    | it k l hl => simp [frz] at hf
    | condT d v hd => simp [frz] at hf
    | condF d => simp [frz] at hf
theorem frz_rd (h : Inv cx ρ σ n w) (m : Nat) {d : D} {t : T} {v : Value} (hd : Rd w (Own cx ρ σ) ρ d v) (hf : frz σ m d = some t) : RdT w cx.own t v :=
  frz_of h (fun _ h => .inl h) (fun _ _ h => h) (fun _ _ _ _ hl => h.cxown hl) m hd hf
theorem frzL_rd {m : Nat} (ih : ∀ {d : D} {t : T} {v : Value}, Rd w (Own cx ρ σ) ρ d v → frz σ m d = some t → RdT w cx.own t v) {ds : List D} {ts : List T} {vs : Array Value} (h : RdA (Rd w (Own cx ρ σ) ρ) ds vs)
    (hf : ds.mapM (frz σ m) = some ts) : RdA (RdT w cx.own) ts vs := frzL_of ih h hf
end

/-! ### Functions that are known -/
/-- A function that computes 'g' and turns nothing that was there. -/
structure PureFn (P : Program) (f : FuncId) (g : List T → Option T) : Prop where
  entry : ∃ fn, P.funcs[f]? = some fn ∧ (fn.name == "runtime.NumGoroutine") = false ∧ fn.body.isNone = false
  calls : ∀ (w : World) (own : Nat → Prop) (args : List T) (vs : Array Value) (r : T), (∀ b, own b → b < w.heap.size) → RdA (RdT w own) args vs → g args = some r →
    Calls P f vs w (fun e w' => ∃ v, e = .returned v ∧ RdT w' own r v ∧ Below w.heap.size w w')

/-- A function that hands back a list in new memory. -/
structure FreshFn (P : Program) (f : FuncId) (g : List T → Option (List (List T))) : Prop where
  entry : ∃ fn, P.funcs[f]? = some fn ∧ (fn.name == "runtime.NumGoroutine") = false ∧ fn.body.isNone = false
  calls : ∀ (w : World) (own : Nat → Prop) (args : List T) (vs : Array Value) (rows : List (List T)), (∀ b, own b → b < w.heap.size) → RdA (RdT w own) args vs → g args = some rows →
    Calls P f vs w (fun e w' => ∃ v, e = .returned v ∧ Below w.heap.size w w' ∧ (rows = [] → RdT w' own (.sl false []) v) ∧
      (rows ≠ [] → ∃ blk sz C ty c, v = .slice (some ⟨blk, 0, none⟩) rows.length C ∧ C ≤ maxLen ∧ w.heap.size ≤ blk ∧ w'.heap[blk]? = some (.cells c ty (0, 0)) ∧
        BoxIn w' (fun b => own b ∨ b = blk) (fun _ => none) ⟨blk, sz, C, ty⟩ (.cells c ty (0, 0)) (.rows (rows.map fun r => r.map .p))))

inductive Fn where
  | pure (g : List T → Option T)
  | fresh (g : List T → Option (List (List T)))
def Env := List (FuncId × Fn)
def Env.get (E : Env) (f : FuncId) : Option (List T → Option T) :=
  match E with
  | [] => none
  | (k, .pure g) :: r => if k = f then some g else Env.get r f
  | (k, .fresh _) :: r => if k = f then none else Env.get r f
def Env.getF (E : Env) (f : FuncId) : Option (List T → Option (List (List T))) :=
  match E with
  | [] => none
  | (k, .pure _) :: r => if k = f then none else Env.getF r f
  | (k, .fresh g) :: r => if k = f then some g else Env.getF r f
structure EnvOk (P : Program) (E : Env) : Prop where
  get : ∀ f g, E.get f = some g → PureFn P f g
  getF : ∀ f g, E.getF f = some g → FreshFn P f g
theorem EnvOk.nil (P : Program) : EnvOk P [] := ⟨fun f g h => by simp [Env.get] at h, fun f g h => by simp [Env.getF] at h⟩
theorem EnvOk.cons {P : Program} {E : Env} {f : FuncId} {g : List T → Option T} (h : PureFn P f g) (hE : EnvOk P E) : EnvOk P ((f, .pure g) :: E) := by
  constructor <;> intro f' g' hg
  · simp only [Env.get] at hg
    split at hg
    · rename_i e; cases hg; subst e; exact h
    · exact hE.get f' g' hg
  · simp only [Env.getF] at hg
    split at hg
    · cases hg
    · exact hE.getF f' g' hg
theorem EnvOk.fresh {P : Program} {E : Env} {f : FuncId} {g : List T → Option (List (List T))} (h : FreshFn P f g) (hE : EnvOk P E) : EnvOk P ((f, .fresh g) :: E) := by
  constructor <;> intro f' g' hg
  · simp only [Env.get] at hg
    split at hg
    · cases hg
    · exact hE.get f' g' hg
  · simp only [Env.getF] at hg
    split at hg
    · rename_i e; cases hg; subst e; exact h
    · exact hE.getF f' g' hg

/-- A value that leads nowhere. -/
def T.flat : T → Bool
  | .v _ => true
  | .tup ts => ts.all fun | .v _ => true | _ => false
  | _ => false
theorem RdT.ofFlat {w : World} {own own' : Nat → Prop} {t : T} {v : Value} (h : RdT w own t v) (hf : t.flat = true) : RdT w own' t v := by
  cases h with
  | v => exact .v _
  | tup cs vs h1 h2 =>
    refine .tup cs vs h1 fun i hi => ?_
    simp only [T.flat] at hf
    have := List.all_eq_true.1 hf _ (List.getElem_mem hi)
    have h3 := h2 i hi
    generalize cs[i] = t at *
    generalize vs.getD i undef = v at *
    cases h3 <;> simp at this
    exact .v _
  | _ => simp [T.flat] at hf

def calleeD (c : D) : Option (FuncId × List D × List D) :=
  match c with
  | .p (.fn f a b) => some (f, a.map .p, b.map .p)
  | .fn f a b => some (f, a, b)
  | _ => none
def callD (E : Env) (σ : Nat → Option Box) (c : D) (args : List D) : Option D :=
  match calleeD c with
  | some (f, a, b) =>
    match E.get f with
    | some g =>
      match allT (a ++ args ++ b) with
      | some ts => (g ts).map .p
      | none =>
        match (a ++ args ++ b).mapM (frz σ 4) with
        | some ts => match g ts with
          | some r => if r.flat then some (.p r) else none
          | none => none
        | none => none
    | none => none
  | none => none

section
variable {cx : Cx} {ρ : Nat → Option Loc} {σ : Nat → Option Box} {n : Nat} {w : World}
theorem callee_rd {own : Nat → Prop} {c : D} {x : Value} {f : FuncId} {a b : List D} (hc : Rd w own ρ c x) (h : calleeD c = some (f, a, b)) : ∃ va vb, x = .func (.func f) va vb ∧ RdA (Rd w own ρ) a va ∧ RdA (Rd w own ρ) b vb := by
  unfold calleeD at h
  split at h
  · cases h
    cases hc with
    | p _ _ hc =>
    cases hc with
    | fn _ _ _ va vb h1 h2 h3 h4 => exact ⟨va, vb, rfl, RdA.map (R := RdT w own) _ ⟨h1, h3⟩ (fun _ _ h => .p _ _ h), RdA.map (R := RdT w own) _ ⟨h2, h4⟩ (fun _ _ h => .p _ _ h)⟩
  · cases h
    cases hc with
    | fn _ _ _ va vb h1 h2 h3 h4 => exact ⟨va, vb, rfl, ⟨h1, h3⟩, ⟨h2, h4⟩⟩
  · cases h

theorem allT_rd {own : Nat → Prop} {ds : List D} {ts : List T} {vs : Array Value} (h : RdA (Rd w own ρ) ds vs) (ht : allT ds = some ts) : RdA (RdT w own) ts vs := by
  have e := allT_spec ht
  subst e
  refine ⟨by simpa using h.1, fun i hi => ?_⟩
  have := h.2 i (by simpa using hi)
  simp only [List.getElem_map] at this
  cases this with
  | p _ _ h => exact h

/-- The call, and what it comes to. -/
theorem call_run {E : Env} (hE : EnvOk cx.P E) (hI : Inv cx ρ σ n w) {c : D} {x : Value} {args : List D} {vargs : Array Value} {r : D} (hc : Rd w (Own cx ρ σ) ρ c x) (ha : RdA (Rd w (Own cx ρ σ) ρ) args vargs)
    (h : callD E σ c args = some r) : ∃ f as, (do let d ← Deferred.ofValue x vargs; invoke d.target d.args : Sem Next).run cx.P w = .ok (.enter f as) w ∧
      Calls cx.P f as w (fun e w' => ∃ v, e = .returned v ∧ Rd w' (Own cx ρ σ) ρ r v ∧ Below w.heap.size w w') := by
  unfold callD at h
  split at h
  · rename_i f a b hcal
    obtain ⟨va, vb, rfl, h1, h2⟩ := callee_rd hc hcal
    split at h
    · rename_i g hg
      have hf := hE.get f g hg
      obtain ⟨fn, e1, e2, e3⟩ := hf.entry
      have hargs : RdA (Rd w (Own cx ρ σ) ρ) (a ++ args ++ b) (va ++ vargs ++ vb) := (h1.append ha).append h2
      refine ⟨f, va ++ vargs ++ vb, ?_, ?_⟩
      · have e2' : ¬ fn.name = "runtime.NumGoroutine" := by simpa using e2
        have e3' : ¬ fn.body = none := by intro h; simp [h] at e3
        simp [Deferred.ofValue, invoke, callFunc, e1, e2', e3']
      · split at h
        · rename_i ts hts
          simp only [Option.map_eq_some_iff] at h
          obtain ⟨r', hr, rfl⟩ := h
          refine (hf.calls w (Own cx ρ σ) ts _ r' (fun b hb => Own.lt hI hb) (allT_rd hargs hts) hr).mono ?_
          rintro e w' ⟨v, rfl, h3, h4⟩
          exact ⟨v, rfl, .p _ _ h3, h4⟩
        · split at h
          · rename_i ts hts
            split at h
            · rename_i r' hr
              split at h
              · rename_i hfl
                cases h
                have hts' := frzL_rd (fun hd ht => frz_rd hI 4 hd ht) hargs hts
                refine (hf.calls w cx.own ts _ r' (fun b hb => by have := hI.ownlt b hb; have := hI.below.size; omega) hts' hr).mono ?_
                rintro e w' ⟨v, rfl, h3, h4⟩
                exact ⟨v, rfl, .p _ _ (h3.ofFlat hfl), h4⟩
              · cases h
            · cases h
          · cases h
    · cases h
  · cases h
end
end Go.Pv
