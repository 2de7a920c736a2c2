/-
  The pure evaluator, part l: one operation of a region.
-/
import Derived.Test.YtnepemjcinpohaaPvk
set_option linter.unusedSimpArgs false
namespace Go.Pv
open Go Go.RowKit

/-! ### Operations on boxes -/
def rangeD (P : Program) (σ : Nat → Option Box) (k : Nat) (t : TypeId) (d : D) : Option (D × (Nat → Option Box)) :=
  match P.underlying t, d with
  | some .string, .p (.v (.string s)) => some (.it k, upd σ k (some (.sit s 0)))
  | _, _ => none
def nextD (σ : Nat → Option Box) (isString : Bool) (d : D) : Option (D × (Nat → Option Box)) :=
  match isString, d with
  | true, .it k =>
    match σ k with
    | some (.sit s pos) =>
      if pos < s.size then some (.p (.v (.tuple #[.bool true, .int .i64 pos, .int .i32 (Utf8.decode s pos).1])), upd σ k (some (.sit s (pos + (Utf8.decode s pos).2))))
      else some (.p (.v (.tuple #[.bool false])), σ)
    | _ => none
  | _, _ => none
/-- A call of a function that hands back a list in new memory. -/
def callF (E : Env) (σ : Nat → Option Box) (k : Nat) (c : D) (args : List D) : Option (D × (Nat → Option Box)) :=
  match calleeD c with
  | some (f, a, b) =>
    match E.getF f with
    | some g =>
      match allT (a ++ args ++ b) with
      | some ts => match g ts with
        | some rows => if rows = [] then some (.p (.sl false []), σ) else some (.bs k 0 rows.length, upd σ k (some (.rows (rows.map (·.map .p)))))
        | none => none
      | none => none
    | none => none
  | none => none
/-- The result (none: nothing), and the boxes; 'k': a new box's number. -/
def nv (P : Program) (E : Env) (σ : Nat → Option Box) (s : Nat → D) (k : Nat) (op : Op) : Option (D × (Nat → Option Box)) :=
  match op with
  | .alloc e => (tz? P e).bind fun z => (varBox (z.cells.toList.map fun v => .p (.v v))).map fun b => (.ptr k 0 0, upd σ k (some b))
  | .box _ x => (varBox (ev s x).cells).map fun b => (.ptr k 0 0, upd σ k (some b))
  | .store t a v => (storeD P σ t (ev s a) (ev s v)).map fun σ' => (.p (.v undef), σ')
  | .range t x => rangeD P σ k t (ev s x)
  | .next it isString => nextD σ isString (ev s it)
  | .call c =>
    match c.callee, c.args.toList, c.argTypes.toList with
    | .builtin .append, [x, y], [t, u] => appendD P σ k t u (ev s x) (ev s y)
    | .value f, as, _ => callF E σ k (ev s f) (as.map (ev s))
    | _, _, _ => none
  | _ => none

section
variable {cx : Cx} {ρ : Nat → Option Loc} {σ : Nat → Option Box} {n : Nat} {w : World}

theorem Inv.adopt (h : Inv cx ρ σ n w) {w' : World} (hb : Below w.heap.size w w') (l : Loc) (o : Obj) (x : Box) (hl : w.heap.size ≤ l.blk) (ho : w'.heap[l.blk]? = some o) (hx : BoxIn w' (fun b => Own cx ρ σ b ∨ b = l.blk) (fun _ => none) l o x) :
    Inv cx (upd ρ n (some l)) (upd σ n (some x)) (n + 1) w' ∧ Keeps cx ρ (upd ρ n (some l)) σ (upd σ n (some x)) w w' := by
  have hne : ∀ i l', ρ i = some l' → i ≠ n := fun i l' hi e => by have := (h.new i l' hi).1; omega
  have hρ : ∀ i l', ρ i = some l' → upd ρ n (some l) i = some l' := fun i l' hi => by rw [upd_ne _ _ (hne i l' hi)]; exact hi
  have hown' : ∀ b, Own cx (upd ρ n (some l)) (upd σ n (some x)) b → Own cx ρ σ b ∨ b = l.blk := by
    intro b hc
    rcases hc with hc | ⟨i, l', y, h1, h2, h3⟩
    · exact .inl (.inl hc)
    · by_cases e : i = n
      · subst e; simp at h2; subst h2; exact .inr h3.symm
      · rw [upd_ne _ _ e] at h1 h2; exact .inl (.inr ⟨i, l', y, h1, h2, h3⟩)
  have hown : ∀ b, b < w.heap.size → ¬ Own cx ρ σ b → ¬ Own cx (upd ρ n (some l)) (upd σ n (some x)) b := by
    intro b hb hn hc
    rcases hown' b hc with hc | rfl
    · exact hn hc
    · omega
  have hc : ∀ b o' u, ¬ Own cx ρ σ b → w.cell? ⟨b, o', none⟩ = some u → w'.cell? ⟨b, o', none⟩ = some u := fun b o' u _ hc => (hb.cell (p := ⟨b, o', none⟩) (World.block_lt_of_cell? w _ hc)).trans hc
  have hlt : l.blk < w'.heap.size := (Array.getElem?_eq_some_iff.1 ho).1
  refine ⟨⟨fun i y hi => ?_, fun i i' y y' m m' h1 h2 h3 h4 he => ?_, fun i m hm => ?_, h.below.trans (hb.mono h.below.size), h.ownlt⟩, ⟨hc, hb.size, hown, hρ⟩⟩
  · by_cases e : i = n
    · subst e
      simp at hi
      subst hi
      exact ⟨l, by simp, o, ho, hx.mono (fun _ _ _ _ h => h) (Nat.le_refl _) (fun b _ hn hc => hn (hown' b hc)) (fun k l hk => by cases hk)⟩
    · rw [upd_ne _ _ e] at hi
      obtain ⟨m, hm, o', h1, h2⟩ := h.boxes i y hi
      exact ⟨m, hρ _ _ hm, o', (hb.block _ (h.new i m hm).2.2).trans h1, h2.mono hc hb.size hown hρ⟩
  · by_cases e : i = n
    · by_cases e' : i' = n
      · omega
      · subst e
        rw [upd_ne _ _ e'] at h4
        simp at h3
        subst h3
        have := (h.new i' m' h4).2.2
        omega
    · rw [upd_ne _ _ e] at h1 h3
      by_cases e' : i' = n
      · subst e'
        simp at h4
        subst h4
        have := (h.new i m h3).2.2
        omega
      · rw [upd_ne _ _ e'] at h2 h4
        exact h.inj i i' y y' m m' h1 h2 h3 h4 he
  · by_cases e : i = n
    · subst e
      simp at hm
      subst hm
      have := h.below.size
      omega
    · rw [upd_ne _ _ e] at hm
      have := h.new i m hm
      have := hb.size
      omega

theorem callF_run {E : Env} (hE : EnvOk cx.P E) (hI : Inv cx ρ σ n w) {c : D} {x : Value} {args : List D} {vargs : Array Value} {d : D} {σ' : Nat → Option Box} (hc : Rd w (Own cx ρ σ) ρ c x) (ha : RdA (Rd w (Own cx ρ σ) ρ) args vargs)
    (h : callF E σ n c args = some (d, σ')) : ∃ f as, (do let d ← Deferred.ofValue x vargs; invoke d.target d.args : Sem Next).run cx.P w = .ok (.enter f as) w ∧
      Calls cx.P f as w (fun e w' => ∃ v ρ', e = .returned v ∧ Inv cx ρ' σ' (n + 1) w' ∧ Keeps cx ρ ρ' σ σ' w w' ∧ Rd w' (Own cx ρ' σ') ρ' d v) := by
  unfold callF at h
  split at h
  · rename_i f a b hcal
    obtain ⟨va, vb, rfl, h1, h2⟩ := callee_rd hc hcal
    split at h
    · rename_i g hg
      have hf := hE.getF f g hg
      obtain ⟨fn, e1, e2, e3⟩ := hf.entry
      have hargs : RdA (Rd w (Own cx ρ σ) ρ) (a ++ args ++ b) (va ++ vargs ++ vb) := (h1.append ha).append h2
      refine ⟨f, va ++ vargs ++ vb, ?_, ?_⟩
      · have e2' : ¬ fn.name = "runtime.NumGoroutine" := by simpa using e2
        have e3' : ¬ fn.body = none := by intro h; simp [h] at e3
        simp [Deferred.ofValue, invoke, callFunc, e1, e2', e3']
      · split at h
        · rename_i ts hts
          split at h
          · rename_i rows hr
            refine (hf.calls w (Own cx ρ σ) ts _ rows (fun b hb => Own.lt hI hb) (allT_rd hargs hts) hr).mono ?_
            rintro e w' ⟨v, rfl, hb, h3, h4⟩
            split at h
            · rename_i he
              cases h
              exact ⟨v, ρ, rfl, hI.grow hb (by omega), Keeps.of_below hb, .p _ _ (h3 he)⟩
            · rename_i hne
              cases h
              obtain ⟨blk, sz, C, ty, cc, rfl, hC, hlt, ho, hbx⟩ := h4 hne
              obtain ⟨g1, g2⟩ := hI.adopt hb ⟨blk, sz, C, ty⟩ _ _ hlt ho hbx
              refine ⟨_, _, rfl, g1, g2, ?_⟩
              have hlen : rows.length ≤ C := by
                cases hbx with
                | rows rs c hb => simpa using hb.len
              have := Rd.bs (w := w') (own := Own cx (upd ρ n (some ⟨blk, sz, C, ty⟩)) (upd σ n (some (.rows (rows.map fun r => r.map .p))))) (ρ := upd ρ n (some ⟨blk, sz, C, ty⟩)) n 0 rows.length ⟨blk, sz, C, ty⟩ (by simp) (by simpa using hlen) hC
              simpa using this
          · cases h
        · cases h
    · cases h
  · cases h

theorem nv_wp {E : Env} (hE : EnvOk cx.P E) (hI : Inv cx ρ σ n w) {s : Nat → D} {a : Act} {o : Oper} {d : D} {σ' : Nat → Option Box} (hs : ∀ x, Rd w (Own cx ρ σ) ρ (ev s x) (a.eval x)) (h : nv cx.P E σ s n o.op = some (d, σ'))
    {next : Act → World → Prop} {Q : Exit → Act → World → Prop}
    (hn : ∀ v w' ρ', Inv cx ρ' σ' (n + 1) w' → Keeps cx ρ ρ' σ σ' w w' → Rd w' (Own cx ρ' σ') ρ' d v → next (a.put o.dst v) w') : o.wp cx.P a w next Q := by
  unfold nv at h
  split at h
  · rename_i e ho
    simp only [Option.bind_eq_some_iff, Option.map_eq_some_iff, Prod.mk.injEq] at h
    obtain ⟨z, hz, b, hb, rfl, rfl⟩ := h
    obtain ⟨ρ', h1, h2, h3, h4⟩ := newVar_run hI (Nat.le_refl n) (RdA.vs (R := Rd w (Own cx ρ σ) ρ) (g := fun v => .p (.v v)) (fun v => .p _ _ (.v v)) z.cells) hb e
    unfold Oper.wp
    have he : (execOp a.eval o).run cx.P w = .ok (.value (.pointer (some ⟨w.heap.size, 0, none⟩))) (w.alloc (.cells z.cells e)) := by
      simp only [execOp, ho, Instr.alloc, Sem.run_bind, run_zero? w hz, Result.andThen_ok, newVar, h1, Sem.run_pure]
    rw [he]
    exact hn _ _ ρ' h2 h3 h4
  · rename_i e x ho
    simp only [Option.map_eq_some_iff, Prod.mk.injEq] at h
    obtain ⟨b, hb, rfl, rfl⟩ := h
    have hne : (ev s x).cells ≠ [] := fun e => by rw [e] at hb; simp [varBox] at hb
    obtain ⟨ρ', h1, h2, h3, h4⟩ := newVar_run hI (Nat.le_refl n) ((hs x).cells hne) hb e
    unfold Oper.wp
    have he : (execOp a.eval o).run cx.P w = .ok (.value (.pointer (some ⟨w.heap.size, 0, none⟩))) (w.alloc (.cells (a.eval x).cells e)) := by
      simp only [execOp, ho, Instr.box, Sem.run_bind, Result.andThen_ok, newVar, h1, Sem.run_pure]
    rw [he]
    exact hn _ _ ρ' h2 h3 h4
  · rename_i t x y ho
    simp only [Option.map_eq_some_iff, Prod.mk.injEq] at h
    obtain ⟨σ'', hst, rfl, rfl⟩ := h
    obtain ⟨w', h1, h2, h3⟩ := store_run hI (hs x) (hs y) hst
    unfold Oper.wp
    have he : (execOp a.eval o).run cx.P w = .ok .skip w' := by
      simp only [execOp, ho, Sem.run_bind, h1, Result.andThen_ok, Sem.run_pure]
    rw [he]
    exact hn undef w' ρ (h2.grow (Below.refl _ _) (by omega)) h3 (.p _ _ (.v _))
  · rename_i t x ho
    unfold rangeD at h
    split at h
    · rename_i sx hu hx
      cases h
      have hx' := hs x
      rw [hx] at hx'
      have hval : a.eval x = .string sx := by
        generalize a.eval x = q at hx' ⊢
        cases hx' with
        | p _ _ h => cases h; rfl
      obtain ⟨h1, h2⟩ := hI.newBox (Nat.le_refl n) ⟨w.heap.size, 0, 0, 0⟩ (.stringIter sx 0) (.sit sx 0) rfl (.sit sx 0)
      unfold Oper.wp
      have he : (execOp a.eval o).run cx.P w = .ok (.value (.pointer (some ⟨w.heap.size, 0, none⟩))) (w.alloc (.stringIter sx 0)) := by
        simp [execOp, ho, Instr.range, run_underlying hu, hval]
      rw [he]
      refine hn _ _ _ h1 h2 ?_
      exact .it n ⟨w.heap.size, 0, 0, 0⟩ (by simp)
    · cases h
  · rename_i it isString ho
    unfold nextD at h
    split at h
    · rename_i k hit
      have hit' := hs it
      rw [hit] at hit'
      split at h
      · rename_i sx pos hk
        obtain ⟨l, hl, hval⟩ : ∃ l, ρ k = some l ∧ a.eval it = .pointer (some ⟨l.blk, 0, none⟩) := by
          generalize a.eval it = q at hit' ⊢
          cases hit' with
          | it _ l hl => exact ⟨l, hl, rfl⟩
        obtain ⟨l', hl', ob, hob, hb⟩ := hI.boxes k _ hk
        rw [hl] at hl'; cases hl'
        cases hb with
        | sit _ _ =>
        have hlt : l.blk < w.heap.size := (hI.new k l hl).2.2
        split at h
        · rename_i hpos
          cases h
          let w' : World := { w with heap := w.heap.setIfInBounds l.blk (.stringIter sx (pos + (Utf8.decode sx pos).2)) }
          have he : (execOp a.eval o).run cx.P w = .ok (.value (.tuple #[.bool true, .int .i64 pos, .int .i32 (Utf8.decode sx pos).1])) w' := by
            simp [execOp, ho, Instr.next, hval, getObj, setObj, Sem.run, hob, hpos, goInt, w']
          obtain ⟨h1, h2⟩ := hI.setBox (n' := n + 1) (by omega) hk hl (.stringIter sx (pos + (Utf8.decode sx pos).2)) (.sit sx (pos + (Utf8.decode sx pos).2)) (w' := w') rfl rfl rfl (by simp [w']) (by simp [w', hlt]) (fun b hne => by simp [w', Array.getElem?_setIfInBounds_ne (Ne.symm hne)]) (.sit _ _)
          unfold Oper.wp
          rw [he]
          exact hn _ _ _ h1 h2 (.p _ _ (.v _))
        · rename_i hpos
          cases h
          have he : (execOp a.eval o).run cx.P w = .ok (.value (.tuple #[.bool false])) w := by
            simp [execOp, ho, Instr.next, hval, getObj, Sem.run, hob, hpos]
          unfold Oper.wp
          rw [he]
          exact hn _ _ _ (hI.grow (Below.refl _ _) (by omega)) (Keeps.refl _ _ _ _) (.p _ _ (.v _))
      · cases h
    · cases h
  · rename_i c ho
    split at h
    · rename_i x y t u hc ha hat
      have ex : c.args = #[x, y] := by rw [← Array.toList_inj]; exact ha
      have et : c.argTypes = #[t, u] := by rw [← Array.toList_inj]; exact hat
      obtain ⟨v, w', ρ', h1, h2, h3, h4⟩ := append_run (ty := o.type) hI (Nat.le_refl n) (hs x) (hs y) h
      have he : (execOp a.eval o).run cx.P w = .ok (.value v) w' := by
        simp [execOp, ho, resolve, hc, ex, et, invoke, builtin, h1]
      unfold Oper.wp
      rw [he]
      exact hn v w' ρ' h2 h3 h4
    · rename_i f hc
      obtain ⟨k, as, h1, h2⟩ := callF_run hE hI (hs f) (evs hs c.args) h
      unfold Oper.wp
      have he : (execOp a.eval o).run cx.P w = .ok (.enter k as) w := by
        simp only [execOp, ho, resolve, hc]
        exact h1
      rw [he]
      refine h2.mono ?_
      rintro e w' ⟨v, ρ', rfl, h3, h4, h5⟩
      exact hn v w' ρ' h3 h4 h5
    · cases h
  · cases h
end

/-! ### One operation, with its guard -/
def guardC (ops : Array Oper) (s : Nat → D) (o : Oper) : Option Bool :=
  match o.guard with
  | none => some true
  | some (j, want) =>
    match (ops[j]?).bind (·.dst) with
    | none => some false
    | some t =>
      match s t with
      | .p (.v (.bool b)) => some (b == want)
      | .p (.v (.tuple _)) => some false
      | .cond g (.p (.v (.bool b))) => some (g && (b == want))
      | _ => none
def strip (c : Bool) (d : D) : D :=
  match d with
  | .cond g d' => if impB c g = true then d' else d
  | d => d
def stripS (c : Bool) (s : Nat → D) : Nat → D := fun i => strip c (s i)

/-- What operation 'o' yields, where it leaves the boxes alone. -/
def qstep (P : Program) (E : Env) (ops : Array Oper) (σ : Nat → Option Box) (s : Nat → D) (o : Oper) : Option D :=
  match guardC ops s o with
  | none => none
  | some c =>
    match qv P E σ s (stripS c s) c o.op with
    | some d => some (match o.guard with | none => d | some _ => .cond c d)
    | none => if c = true then none else some (.p (.v undef))
def isQuiet (E : Env) (op : Op) : Bool :=
  match op with
  | .move _ | .assign _ | .pick .. | .build .. | .buildSlice .. | .load .. | .binOp .. | .unOp .. | .convert .. | .makeFunc .. | .slice .. | .fieldAddr .. | .field .. | .indexAddr .. | .index .. | .extract .. => true
  | .call c => match c.callee with
    | .builtin .len => true
    | .builtin .min => true
    | .builtin .max => true
    | .value (.func f) => (Env.getF E f).isNone
    | .value _ => true
    | _ => false
  | _ => false
def putS (nt : Nat) (st : St) (dst : Option Tmp) (d : D) (σ' : Nat → Option Box) (n' : Nat) : Option St :=
  match dst with
  | none => some ⟨st.s, σ', n'⟩
  | some t => if t < nt then some ⟨upd st.s t d, σ', n'⟩ else none
def stepO (P : Program) (E : Env) (nt : Nat) (ops : Array Oper) (o : Oper) (st : St) : Option St :=
  if isQuiet E o.op = true then
    match qstep P E ops st.σ st.s o with
    | some d => putS nt st o.dst d st.σ st.n
    | none => none
  else
    match guardC ops st.s o with
    | some true =>
      match nv P E st.σ (stripS true st.s) st.n o.op with
      | some (d, σ') => putS nt st o.dst d σ' (st.n + 1)
      | none => none
    | some false => putS nt st o.dst (.p (.v undef)) st.σ st.n
    | none => none

section
variable {cx : Cx} {nt : Nat} {ρ : Nat → Option Loc} {st st' : St} {a : Act} {w : World} {ops : Array Oper}

theorem strip_rd {own : Nat → Prop} {d : D} {v : Value} (h : Rd w own ρ d v) : Rd w own ρ (strip true d) v := by
  unfold strip
  split
  · rename_i g d'
    split
    · rename_i hg
      simp at hg
      subst hg
      cases h with
      | condT _ _ h => exact h
    · exact h
  · exact h
theorem Rel.evS (h : Rel cx nt ρ st a w) (x : Operand) : Rd w (Own cx ρ st.σ) ρ (ev (stripS true st.s) x) (a.eval x) := by
  cases x with
  | tmp t => exact strip_rd (h.slots t)
  | const v => exact .p _ _ (.v v)
  | global g => exact .p _ _ (.v _)
  | func f => exact .p _ _ (.fn f [] [] #[] #[] rfl rfl (fun i hi => by simp at hi) (fun i hi => by simp at hi))

theorem Rel.ev0 (h : Rel cx nt ρ st a w) (x : Operand) : Rd w (Own cx ρ st.σ) ρ (ev st.s x) (a.eval x) := by
  cases x with
  | tmp t => exact h.slots t
  | const v => exact .p _ _ (.v v)
  | global g => exact .p _ _ (.v _)
  | func f => exact .p _ _ (.fn f [] [] #[] #[] rfl rfl (fun i hi => by simp at hi) (fun i hi => by simp at hi))

theorem guard_spec (h : Rel cx nt ρ st a w) {o : Oper} {c : Bool} (hc : guardC ops st.s o = some c) : Region.wanted o (yielded ops a.tmps) = c := by
  unfold guardC at hc
  unfold Region.wanted
  split at hc
  · rename_i hg
    cases hc
    simp [hg]
  · rename_i j want hg
    simp only [hg]
    split at hc
    · rename_i hn
      cases hc
      simp [yielded, hn]
    · rename_i t ht
      have hst := h.slots t
      have hy : yielded ops a.tmps j = (match a.tmps.getD t undef with | .bool b => some b | _ => none) := by
        unfold yielded
        simp only [ht, Option.bind_some, Array.getD_eq_getD_getElem?]
        cases hq : a.tmps[t]? with
        | none => rfl
        | some v => cases v <;> rfl
      rw [hy]
      split at hc
      · rename_i b hs
        cases hc
        rw [hs] at hst
        generalize a.tmps.getD t undef = u at *
        cases hst with
        | p _ _ hst =>
        cases hst
        simp
      · rename_i vs hs
        cases hc
        rw [hs] at hst
        generalize a.tmps.getD t undef = u at *
        cases hst with
        | p _ _ hst =>
        cases hst
        simp
      · rename_i g b hs
        cases hc
        rw [hs] at hst
        generalize a.tmps.getD t undef = u at *
        cases hst with
        | condT _ _ hst =>
          cases hst with
          | p _ _ hst =>
          cases hst
          simp
        | condF => simp [undef]
      · cases hc

theorem putS_rel (h : Rel cx nt ρ st a w) {dst : Option Tmp} {d : D} {σ' : Nat → Option Box} {n' : Nat} (hp : putS nt st dst d σ' n' = some st') {ρ' : Nat → Option Loc} {w' : World} (hi : Inv cx ρ' σ' n' w') (hk : Keeps cx ρ ρ' st.σ σ' w w')
    {v : Value} (hd : Rd w' (Own cx ρ' σ') ρ' d v) : Rel cx nt ρ' st' (a.put dst v) w' := by
  unfold putS at hp
  split at hp
  · cases hp; exact h.skip hi hk v
  · split at hp
    · rename_i ht
      cases hp
      exact h.put hi hk ht hd
    · cases hp

theorem stepO_wp {E : Env} (hE : EnvOk cx.P E) (h : Rel cx nt ρ st a w) {o : Oper} (hs : stepO cx.P E nt ops o st = some st') {K : Act → World → Prop} {Q : Exit → Act → World → Prop}
    (hK : ∀ ρ' a' w', Rel cx nt ρ' st' a' w' → K a' w') : if Region.wanted o (yielded ops a.tmps) then o.wp cx.P a w K Q else K (a.put o.dst undef) w := by
  unfold stepO at hs
  split at hs
  · split at hs
    · rename_i d hq
      unfold qstep at hq
      split at hq
      · cases hq
      · rename_i c hc
        rw [guard_spec h hc]
        cases c with
        | true =>
          simp only [if_true]
          split at hq
          · rename_i d' hd'
            refine qv_wp hE h.inv h.ev0 (h.evS) hd' fun v w' hb hv => hK ρ _ w' ?_
            refine putS_rel h hs (h.inv.grow hb (Nat.le_refl _)) (Keeps.of_below hb) ?_
            cases hq
            split
            · exact hv
            · exact .condT _ _ hv
          · simp at hq
        | false =>
          simp only [Bool.false_eq_true, if_false]
          refine hK ρ _ w (putS_rel h hs h.inv (Keeps.refl _ _ _ _) ?_)
          have hg : o.guard ≠ none := by
            intro hg
            simp [guardC, hg] at hc
          split at hq
          · cases hq
            split
            · rename_i hg'; exact absurd hg' hg
            · exact .condF _
          · simp at hq
            subst hq
            exact .p _ _ (.v _)
    · cases hs
  · split at hs
    · rename_i hc
      rw [guard_spec h hc]
      simp only [if_true]
      split at hs
      · rename_i d σ' hd
        refine nv_wp hE h.inv h.evS hd fun v w' ρ' hi hk hv => hK ρ' _ w' (putS_rel h hs hi hk hv)
      · cases hs
    · rename_i hc
      rw [guard_spec h hc]
      simp only [Bool.false_eq_true, if_false]
      exact hK ρ _ w (putS_rel h hs h.inv (Keeps.refl _ _ _ _) (.p _ _ (.v _)))
    · cases hs
end
end Go.Pv
