/-
  The pure evaluator, part n: code, and functions.
-/
import Derived.Test.YtnepemjcinpohaaPvm
set_option linter.unusedSimpArgs false
namespace Go.Pv
open Go Go.RowKit

def thenQ (N : St → Prop) (Q : Exit → St → Prop) : Exit → St → Prop
  | .normal, st => N st
  | e, st => Q e st
def blockQ (id : Nat) (Q : Exit → St → Prop) : Exit → St → Prop
  | .exit id', st => if id' = id then Q .normal st else Q (.exit id') st
  | e, st => Q e st
def roundsQ (F : (Exit → St → Prop) → St → Prop) (Q : Exit → St → Prop) : Nat → St → Prop
  | 0, _ => False
  | n + 1, st => F (thenQ (roundsQ F Q n) Q) st
def regionQ (P : Program) (E : Env) (nt : Nat) (ops : Array Oper) (N : St → Prop) (st : St) : Prop :=
  match evL P E nt ops ops.toList st with
  | some st' => N st'
  | none => False
def condQ (d : D) (A B : Prop) : Prop :=
  match d with
  | .p (.v (.bool b)) => if b = true then A else B
  | _ => False

def wpc (P : Program) (E : Env) (nt : Nat) : Code → (Exit → St → Prop) → St → Prop
  | .skip, Q, st => Q .normal st
  | .label _, Q, st => Q .normal st
  | .region _ ops draw, Q, st => (draw = false ∨ orderOk E ops = true) ∧ regionQ P E nt ops (Q .normal) st
  | .seq a b, Q, st => wpc P E nt a (thenQ (wpc P E nt b Q) Q) st
  | .cond c t e, Q, st => condQ (ev (stripS true st.s) c) (wpc P E nt t Q st) (wpc P E nt e Q st)
  | .block id b, Q, st => wpc P E nt b (blockQ id Q) st
  | .loop b, Q, st => ∃ n, roundsQ (fun Q => wpc P E nt b Q) Q n st
  | .exit id, Q, st => Q (.exit id) st
  | .ret, Q, st => Q .ret st
  | _, _, _ => False

section
variable {cx : Cx} {nt : Nat} {E : Env}
theorem AW.mono {c : Code} {Q Q' : Exit → St → Prop} {st : St} (h : AW cx nt c Q st) (hq : ∀ e st, Q e st → Q' e st) : AW cx nt c Q' st :=
  fun ρ a w hr => wp_mono (h ρ a w hr) fun _ _ _ ⟨st, ρ, h1, h2⟩ => ⟨st, ρ, h1, hq _ _ h2⟩

theorem wpc_sound (hE : EnvOk cx.P E) (hm : cx.P.follows .mixedOrders = true) : ∀ (c : Code) (Q : Exit → St → Prop) (st : St), wpc cx.P E nt c Q st → AW cx nt c Q st := by
  intro c
  induction c with
  | skip => exact fun Q st h ρ a w hr => wp_skip ⟨st, ρ, hr, h⟩
  | label l => exact fun Q st h ρ a w hr => wp_label ⟨st, ρ, hr, h⟩
  | region id ops draw =>
    intro Q st h
    obtain ⟨h1, h2⟩ := h
    unfold regionQ at h2
    split at h2
    · rename_i st' he
      cases draw with
      | false => exact AW_region hE he h2
      | true => exact AW_draw hE hm (by simpa using h1) he h2
    · exact h2.elim
  | seq a b iha ihb =>
    intro Q st h ρ act w hr
    refine wp_seq (wp_mono (iha _ st h ρ act w hr) ?_)
    rintro e a' w' ⟨st', ρ', hr', hq⟩
    cases e <;> first | exact ihb Q st' hq ρ' a' w' hr' | exact ⟨st', ρ', hr', hq⟩
  | cond c t e iht ihe =>
    intro Q st h ρ a w hr
    simp only [wpc] at h
    unfold condQ at h
    split at h
    · rename_i b hb
      have hev := hr.evS c
      rw [hb] at hev
      have hval : a.eval c = .bool b := by
        generalize a.eval c = q at hev ⊢
        cases hev with
        | p _ _ h => cases h; rfl
      refine wp_cond hval ?_
      split at h
      · rename_i hbt; rw [if_pos hbt]; exact iht Q st h ρ a w hr
      · rename_i hbf; rw [if_neg hbf]; exact ihe Q st h ρ a w hr
    · exact h.elim
  | block id b ih =>
    intro Q st h ρ a w hr
    refine wp_block (wp_mono (ih _ st h ρ a w hr) ?_)
    rintro e a' w' ⟨st', ρ', hr', hq⟩
    cases e with
    | exit id' =>
      simp only [blockQ] at hq
      simp only [Exit.inBlock]
      split at hq
      · rename_i e; rw [if_pos e]; exact ⟨st', ρ', hr', hq⟩
      · rename_i e; rw [if_neg e]; exact ⟨st', ρ', hr', hq⟩
    | _ => exact ⟨st', ρ', hr', hq⟩
  | loop b ih =>
    intro Q st h ρ a w hr
    obtain ⟨n, h⟩ := h
    refine wp_loop_rounds n ?_
    induction n generalizing st ρ a w with
    | zero => exact h.elim
    | succ n ihn =>
      rw [rounds_succ]
      refine wp_mono (ih _ st h ρ a w hr) ?_
      rintro e a' w' ⟨st', ρ', hr', hq⟩
      cases e <;> first | exact ihn st' ρ' a' w' hr' hq | exact ⟨st', ρ', hr', hq⟩
  | exit id => exact fun Q st h ρ a w hr => wp_exit ⟨st, ρ, hr, h⟩
  | ret => exact fun Q st h ρ a w hr => wp_ret ⟨st, ρ, hr, h⟩
  | rangeFunc _ _ _ _ => exact fun Q st h => h.elim
  | scope _ => exact fun Q st h => h.elim
  | goto _ => exact fun Q st h => h.elim
  | refuse _ => exact fun Q st h => h.elim
end

theorem wpc_mono {P : Program} {E : Env} {nt : Nat} : ∀ (c : Code) {Q Q' : Exit → St → Prop}, (∀ e st, Q e st → Q' e st) → ∀ {st : St}, wpc P E nt c Q st → wpc P E nt c Q' st := by
  intro c
  induction c with
  | skip => exact fun h _ hh => h _ _ hh
  | label l => exact fun h _ hh => h _ _ hh
  | region id ops draw =>
    intro Q Q' h st hh
    refine ⟨hh.1, ?_⟩
    have := hh.2
    unfold regionQ at this ⊢
    split at this
    · exact h _ _ this
    · exact this.elim
  | seq a b iha ihb =>
    intro Q Q' h st hh
    refine iha ?_ hh
    intro e st hq
    cases e <;> first | exact ihb h hq | exact h _ _ hq
  | cond c t e iht ihe =>
    intro Q Q' h st hh
    simp only [wpc] at hh ⊢
    unfold condQ at hh ⊢
    split at hh
    · split at hh
      · rename_i hb; simp only [hb, if_true]; exact iht h hh
      · rename_i hb; simp only [hb]; exact ihe h hh
    · exact hh.elim
  | block id b ih =>
    intro Q Q' h st hh
    refine ih ?_ hh
    intro e st hq
    cases e with
    | exit id' =>
      simp only [blockQ] at hq ⊢
      split at hq
      · rename_i e; rw [if_pos e]; exact h _ _ hq
      · rename_i e; rw [if_neg e]; exact h _ _ hq
    | _ => exact h _ _ hq
  | loop b ih =>
    intro Q Q' h st hh
    obtain ⟨n, hh⟩ := hh
    refine ⟨n, ?_⟩
    induction n generalizing st with
    | zero => exact hh.elim
    | succ n ihn =>
      refine ih ?_ hh
      intro e st hq
      cases e <;> first | exact ihn hq | exact h _ _ hq
  | exit id => exact fun h _ hh => h _ _ hh
  | ret => exact fun h _ hh => h _ _ hh
  | rangeFunc _ _ _ _ => exact fun _ _ h => h.elim
  | scope _ => exact fun _ _ h => h.elim
  | goto _ => exact fun _ _ h => h.elim
  | refuse _ => exact fun _ _ h => h.elim

/-- The code comes to one exit and one state. -/
theorem wpc_det {P : Program} {E : Env} {nt : Nat} : ∀ (c : Code) {Q : Exit → St → Prop} {st : St}, wpc P E nt c Q st → ∃ e st', Q e st' ∧ ∀ Q' : Exit → St → Prop, Q' e st' → wpc P E nt c Q' st := by
  intro c
  induction c with
  | skip => exact fun h => ⟨_, _, h, fun _ h => h⟩
  | label l => exact fun h => ⟨_, _, h, fun _ h => h⟩
  | region id ops draw =>
    intro Q st h
    obtain ⟨h1, h2⟩ := h
    unfold regionQ at h2
    split at h2
    · rename_i st' he
      refine ⟨.normal, st', h2, fun Q' h => ⟨h1, ?_⟩⟩
      unfold regionQ
      rw [he]
      exact h
    · exact h2.elim
  | seq a b iha ihb =>
    intro Q st h
    obtain ⟨e, st1, h1, h2⟩ := iha h
    cases e with
    | normal =>
      obtain ⟨e', st2, h3, h4⟩ := ihb h1
      exact ⟨e', st2, h3, fun Q' hq => h2 _ (h4 _ hq)⟩
    | _ => exact ⟨_, st1, h1, fun Q' hq => h2 (thenQ _ Q') hq⟩
  | cond c t e iht ihe =>
    intro Q st h
    simp only [wpc] at h
    unfold condQ at h
    split at h
    · rename_i b hb
      split at h
      · rename_i hb'
        obtain ⟨e', st1, h1, h2⟩ := iht h
        refine ⟨e', st1, h1, fun Q' hq => ?_⟩
        simp only [wpc, hb, condQ, hb', if_true]
        exact h2 _ hq
      · rename_i hb'
        obtain ⟨e', st1, h1, h2⟩ := ihe h
        refine ⟨e', st1, h1, fun Q' hq => ?_⟩
        simp only [wpc, hb, condQ, hb', if_false]
        exact h2 _ hq
    · exact h.elim
  | block id b ih =>
    intro Q st h
    obtain ⟨e, st1, h1, h2⟩ := ih h
    cases e with
    | exit id' =>
      simp only [blockQ] at h1
      split at h1
      · rename_i he
        exact ⟨.normal, st1, h1, fun Q' hq => h2 (blockQ id Q') (by simp only [blockQ, he, if_true]; exact hq)⟩
      · rename_i he
        exact ⟨.exit id', st1, h1, fun Q' hq => h2 (blockQ id Q') (by simp only [blockQ, he, if_false]; exact hq)⟩
    | _ => exact ⟨_, st1, h1, fun Q' hq => h2 (blockQ id Q') hq⟩
  | loop b ih =>
    intro Q st h
    obtain ⟨n, h⟩ := h
    suffices hh : ∃ e st', Q e st' ∧ ∀ Q' : Exit → St → Prop, Q' e st' → roundsQ (fun Q => wpc P E nt b Q) Q' n st by
      obtain ⟨e, st', h1, h2⟩ := hh
      exact ⟨e, st', h1, fun Q' hq => ⟨n, h2 Q' hq⟩⟩
    induction n generalizing st with
    | zero => exact h.elim
    | succ n ihn =>
      obtain ⟨e, st1, h1, h2⟩ := ih h
      cases e with
      | normal =>
        obtain ⟨e', st2, h3, h4⟩ := ihn h1
        exact ⟨e', st2, h3, fun Q' hq => h2 (thenQ _ Q') (h4 _ hq)⟩
      | _ => exact ⟨_, st1, h1, fun Q' hq => h2 (thenQ _ Q') hq⟩
  | exit id => exact fun h => ⟨_, _, h, fun _ h => h⟩
  | ret => exact fun h => ⟨_, _, h, fun _ h => h⟩
  | rangeFunc _ _ _ _ => exact fun h => h.elim
  | scope _ => exact fun h => h.elim
  | goto _ => exact fun h => h.elim
  | refuse _ => exact fun h => h.elim
/-- A loop, one round of it. -/
theorem wpc_unroll {P : Program} {E : Env} {nt : Nat} {b : Code} {Q : Exit → St → Prop} {st : St} (h : wpc P E nt b (thenQ (wpc P E nt (.loop b) Q) Q) st) : wpc P E nt (.loop b) Q st := by
  obtain ⟨e, st1, h1, h2⟩ := wpc_det b h
  cases e with
  | normal =>
    obtain ⟨n, hn⟩ := h1
    exact ⟨n + 1, h2 (thenQ _ Q) hn⟩
  | _ => exact ⟨1, h2 (thenQ _ Q) h1⟩

/-- A loop: what holds at every round's head, and a measure that goes down. -/
theorem wpc_loop {P : Program} {E : Env} {nt : Nat} {b : Code} {Q : Exit → St → Prop} (I : Nat → St → Prop) (m : Nat) {st : St} (h0 : I m st)
    (round : ∀ m st, I m st → wpc P E nt b (thenQ (fun st' => ∃ m', m' < m ∧ I m' st') Q) st) : wpc P E nt (.loop b) Q st := by
  have key : ∀ (k m : Nat) (st : St), m < k → I m st → roundsQ (fun Q => wpc P E nt b Q) Q k st := by
    intro k
    induction k with
    | zero => intro m st h; omega
    | succ k ih =>
      intro m st hm hi
      refine wpc_mono b ?_ (round m st hi)
      intro e st' hq
      cases e <;> first
        | (obtain ⟨m', h1, h2⟩ := hq; exact ih m' st' (by omega) h2)
        | exact hq
  exact ⟨m + 1, key (m + 1) m st (by omega) h0⟩

/-! ### Bounds on what is read -/
inductive Bd : T → Prop
  | v (x : Value) : Bd (.v x)
  | agg (cs : List T) : (∀ c ∈ cs, Bd c) → Bd (.agg cs)
  | tup (cs : List T) : (∀ c ∈ cs, Bd c) → Bd (.tup cs)
  | sl (f : Bool) (rows : List (List T)) : rows.length ≤ 2 ^ 47 → (∀ r ∈ rows, ∀ c ∈ r, Bd c) → Bd (.sl f rows)
  | ne (f : Bool) : Bd (.ne f)
  | ref (cs : List T) : (∀ c ∈ cs, Bd c) → Bd (.ref cs)
  | fn (f : FuncId) (a b : List T) : (∀ c ∈ a, Bd c) → (∀ c ∈ b, Bd c) → Bd (.fn f a b)
theorem RdT.bd {w : World} {own : Nat → Prop} {t : T} {v : Value} (h : RdT w own t v) : Bd t := by
  have mem : ∀ {cs : List T} {f : ∀ i, i < cs.length → Value}, (∀ i (h : i < cs.length), Bd cs[i]) → ∀ c ∈ cs, Bd c := by
    intro cs f h c hc
    obtain ⟨i, hi, rfl⟩ := List.mem_iff_getElem.1 hc
    exact h i hi
  induction h with
  | v x => exact .v x
  | agg cs vs _ _ ih => exact .agg cs fun c hc => by obtain ⟨i, hi, rfl⟩ := List.mem_iff_getElem.1 hc; exact ih i hi
  | tup cs vs _ _ ih => exact .tup cs fun c hc => by obtain ⟨i, hi, rfl⟩ := List.mem_iff_getElem.1 hc; exact ih i hi
  | slNil f a cap _ _ => exact .sl f [] (by simp) (by simp)
  | ne f a cap _ => exact .ne f
  | sl f rows sz b o cap g h1 h2 h3 h4 h45 h5 h6 h7 _ ih =>
    refine .sl f rows h2 fun r hr c hc => ?_
    obtain ⟨i, hi, rfl⟩ := List.mem_iff_getElem.1 hr
    obtain ⟨j, hj, rfl⟩ := List.mem_iff_getElem.1 hc
    exact ih i j hi hj
  | ref cs b o f _ _ _ _ ih => exact .ref cs fun c hc => by obtain ⟨i, hi, rfl⟩ := List.mem_iff_getElem.1 hc; exact ih i hi
  | fn f fs cs va vb _ _ _ _ ih1 ih2 =>
    exact .fn f fs cs (fun c hc => by obtain ⟨i, hi, rfl⟩ := List.mem_iff_getElem.1 hc; exact ih1 i hi) (fun c hc => by obtain ⟨i, hi, rfl⟩ := List.mem_iff_getElem.1 hc; exact ih2 i hi)
@[simp] theorem Bd_v (x : Value) : Bd (.v x) := .v x
@[simp] theorem Bd_agg (cs : List T) : Bd (.agg cs) ↔ ∀ c ∈ cs, Bd c := ⟨fun h => by cases h with | agg _ h => exact h, .agg cs⟩
@[simp] theorem Bd_sl (f : Bool) (rows : List (List T)) : Bd (.sl f rows) ↔ rows.length ≤ 2 ^ 47 ∧ ∀ r ∈ rows, ∀ c ∈ r, Bd c := ⟨fun h => by cases h with | sl _ _ h1 h2 => exact ⟨h1, h2⟩, fun h => .sl f rows h.1 h.2⟩
@[simp] theorem Bd_ref (cs : List T) : Bd (.ref cs) ↔ ∀ c ∈ cs, Bd c := ⟨fun h => by cases h with | ref _ h => exact h, .ref cs⟩
@[simp] theorem Bd_fn (f : FuncId) (a b : List T) : Bd (.fn f a b) ↔ (∀ c ∈ a, Bd c) ∧ ∀ c ∈ b, Bd c := ⟨fun h => by cases h with | fn _ _ _ h1 h2 => exact ⟨h1, h2⟩, fun h => .fn f a b h.1 h.2⟩

/-! ### Functions -/
def st0 (args : List T) : St := ⟨fun i => match args[i]? with | some t => .p t | none => .p (.v undef), fun _ => none, 0⟩
def resL (P : Program) (st : St) : List ResultVar → Option (List D)
  | [] => some []
  | .tmp t :: r => (resL P st r).map (strip true (st.s t) :: ·)
  | .cell a t :: r => match loadD P st.σ t (strip true (st.s a)) with
    | some d => (resL P st r).map (d :: ·)
    | none => none
/-- Slices that are handed back: what room lies behind them is not told. -/
def T.canon : Nat → T → T
  | _, .sl _ rows => .sl false rows
  | _, .v (.slice none 0 0) => .sl false []
  | _, .ne _ => .sl false []
  | n + 1, .agg cs => .agg (cs.map (T.canon n))
  | n + 1, .tup cs => .tup (cs.map (T.canon n))
  | _, t => t
theorem RdT.canon {w : World} {own : Nat → Prop} : ∀ (n : Nat) {t : T} {v : Value}, RdT w own t v → RdT w own (T.canon n t) v := by
  intro n
  have sl : ∀ {f : Bool} {rows : List (List T)} {v : Value}, RdT w own (.sl f rows) v → RdT w own (.sl false rows) v := by
    intro f rows v h
    cases h with
    | slNil _ a cap hf hn => exact .slNil false a cap (by simp) hn
    | sl _ _ sz b o cap g h1 h2 h3 h4 h45 h5 h6 h7 h8 => exact .sl false rows sz b o cap g h1 h2 (by simp) h4 h45 h5 h6 h7 h8
  induction n with
  | zero =>
    intro t v h
    unfold T.canon
    split
    · exact sl h
    · cases h; exact .slNil false none 0 (by simp) (by simp)
    · cases h with
      | ne _ a cap hf => exact .slNil false (some a) cap (by simp) (by simp)
    · rename_i e; cases e
    · rename_i e; cases e
    · exact h
  | succ n ih =>
    intro t v h
    unfold T.canon
    split
    · exact sl h
    · cases h; exact .slNil false none 0 (by simp) (by simp)
    · cases h with
      | ne _ a cap hf => exact .slNil false (some a) cap (by simp) (by simp)
    · rename_i m cs e
      cases e
      cases h with
      | agg _ vs h1 h2 => exact .agg _ vs (by simpa using h1) fun i hi => by simpa using ih (h2 i (by simpa using hi))
    · rename_i m cs e
      cases e
      cases h with
      | tup _ vs h1 h2 => exact .tup _ vs (by simpa using h1) fun i hi => by simpa using ih (h2 i (by simpa using hi))
    · exact h
def resD (P : Program) (rs : Array ResultVar) (st : St) : Option T :=
  match resL P st rs.toList with
  | some [d] => (frz st.σ 6 d).map (T.canon 4)
  | some ds => (frz st.σ 6 (.tup ds)).map (T.canon 4)
  | none => none

def resOne (tmps : Array Value) : ResultVar → Sem Value
  | .tmp t => pure (tmps.getD t undef)
  | .cell x t => do loadVar t (← asAddr (tmps.getD x undef))
theorem results_eq (fn : Func) (tmps : Array Value) : results fn tmps = (do
    let vs ← fn.results.mapM (resOne tmps)
    pure (if h : vs.size = 1 then vs[0] else .tuple vs)) := by
  unfold results
  have : (fun x => match x with
    | ResultVar.tmp t => pure (tmps.getD t undef)
    | ResultVar.cell a t => do loadVar t (← asAddr (tmps.getD a undef)) : ResultVar → Sem Value) = resOne tmps := by
    funext x; cases x <;> rfl
  rw [← this]
  rfl

theorem resL_run {cx : Cx} {nt : Nat} {ρ : Nat → Option Loc} {st : St} {a : Act} {w : World} (hr : Rel cx nt ρ st a w) : ∀ {rs : List ResultVar} {ds : List D}, resL cx.P st rs = some ds →
    ∃ vs : List Value, (rs.mapM (resOne a.tmps)).run cx.P w = .ok vs w ∧ RdA (Rd w (Own cx ρ st.σ) ρ) ds vs.toArray
  | [], ds, h => by simp only [resL] at h; cases h; exact ⟨[], by simp, RdA.nil⟩
  | .tmp t :: rs, ds, h => by
    simp only [resL, Option.map_eq_some_iff] at h
    obtain ⟨ds', h', rfl⟩ := h
    obtain ⟨vs, h1, h2⟩ := resL_run hr h'
    refine ⟨a.tmps.getD t undef :: vs, by simp only [List.mapM_cons, resOne, Sem.run_bind, Sem.run_pure, Result.andThen_ok, h1], ?_⟩
    have := (RdA.one (strip_rd (hr.slots t))).append h2
    simpa using this
  | .cell x t :: rs, ds, h => by
    simp only [resL] at h
    split at h
    · rename_i d hd
      simp only [Option.map_eq_some_iff] at h
      obtain ⟨ds', h', rfl⟩ := h
      obtain ⟨vs, h1, h2⟩ := resL_run hr h'
      obtain ⟨v, h3, h4⟩ := load_run hr.inv (strip_rd (hr.slots x)) hd
      have h5 : (do loadVar t (← asAddr (a.tmps.getD x undef)) : Sem Value).run cx.P w = .ok v w := by
        generalize a.tmps.getD x undef = q at *
        cases q with
        | pointer p => cases p with
          | none => simp [Instr.loadAt, Instr.sureAddr] at h3
          | some p => simpa [Instr.loadAt, Instr.sureAddr, asAddr] using h3
        | _ => simp [Instr.loadAt, Instr.sureAddr] at h3
      refine ⟨v :: vs, ?_, ?_⟩
      · rw [List.mapM_cons]
        rw [Sem.run_bind, show resOne a.tmps (.cell x t) = (do loadVar t (← asAddr (a.tmps.getD x undef))) from rfl, h5]
        simp only [Sem.run_bind, Result.andThen_ok, h1, Sem.run_pure]
      · have := (RdA.one h4).append h2
        simpa using this
    · cases h

theorem resD_run {cx : Cx} {nt : Nat} {ρ : Nat → Option Loc} {st : St} {a : Act} {w : World} (hr : Rel cx nt ρ st a w) {fn : Func} {r : T} (h : resD cx.P fn.results st = some r) :
    ∃ v, (results fn a.tmps).run cx.P w = .ok v w ∧ RdT w cx.own r v := by
  unfold resD at h
  have run : ∀ {ds : List D}, resL cx.P st fn.results.toList = some ds → ∃ vs : Array Value, (fn.results.mapM (resOne a.tmps)).run cx.P w = .ok vs w ∧ RdA (Rd w (Own cx ρ st.σ) ρ) ds vs := by
    intro ds hds
    obtain ⟨vs, h1, h2⟩ := resL_run hr hds
    refine ⟨vs.toArray, ?_, h2⟩
    rw [Array.mapM_eq_mapM_toList, Sem.run_map, h1]
    rfl
  split at h
  · rename_i d hd
    obtain ⟨vs, h1, h2⟩ := run hd
    have hs : vs.size = 1 := by simpa using h2.1
    refine ⟨vs[0], ?_, ?_⟩
    · rw [results_eq, Sem.run_bind, h1]
      simp [hs]
    · have h3 := h2.2 0 (by simp)
      have h4 : vs.getD 0 undef = vs[0] := by simp [Array.getD, hs]
      rw [h4] at h3
      simp only [Option.map_eq_some_iff] at h
      obtain ⟨r', hr', rfl⟩ := h
      exact (frz_rd hr.inv 6 h3 hr').canon 4
  · rename_i ds hne hds
    obtain ⟨vs, h1, h2⟩ := run hds
    have hs : ¬ vs.size = 1 := by
      intro hs
      rw [h2.1] at hs
      obtain ⟨d, rfl⟩ := List.length_eq_one_iff.1 hs
      exact hne d rfl
    refine ⟨.tuple vs, ?_, ?_⟩
    · rw [results_eq, Sem.run_bind, h1]
      simp [hs]
    · simp only [Option.map_eq_some_iff] at h
      obtain ⟨r', hr', rfl⟩ := h
      exact (frz_rd hr.inv 6 (.tup ds vs h2.1 h2.2) hr').canon 4
  · cases h

theorem st0_rel {cx : Cx} {nt : Nat} {args : List T} {vs : Array Value} (hown : ∀ b, cx.own b → b < cx.w0.heap.size) (ha : RdA (RdT cx.w0 cx.own) args vs) (hlen : args.length ≤ nt) :
    Rel cx nt (fun _ => none) (st0 args) { tmps := vs ++ Array.replicate (nt - vs.size) undef, defers := [] } cx.w0 := by
  have hI : Inv cx (fun _ => none) (st0 args).σ 0 cx.w0 := ⟨fun k x hk => by simp [st0] at hk, fun k k' x x' l l' hk => by simp [st0] at hk, fun k l hk => by simp at hk, Below.refl _ _, hown⟩
  have hown' : ∀ b, Own cx (fun _ => none) (st0 args).σ b → cx.own b := fun b hb => by
    rcases hb with hb | ⟨k, l, x, hk, _⟩
    · exact hb
    · simp [st0] at hk
  refine ⟨hI, by simp [ha.1]; omega, rfl, fun i => ?_⟩
  by_cases hi : i < args.length
  · have h1 := ha.2 i hi
    have hs : i < vs.size := by rw [ha.1]; exact hi
    simp only [Array.getD_eq_getD_getElem?, Array.getElem?_append_left hs] at h1 ⊢
    simp only [st0, List.getElem?_eq_getElem hi]
    exact .p _ _ (h1.less hown')
  · have hs : vs.size ≤ i := by rw [ha.1]; omega
    have hu : ((vs ++ Array.replicate (nt - vs.size) undef).getD i undef) = undef := by
      simp only [Array.getD_eq_getD_getElem?, Array.getElem?_append_right hs, Array.getElem?_replicate]
      split <;> rfl
    simp only [hu, st0, List.getElem?_eq_none (Nat.le_of_not_lt hi)]
    exact .p _ _ (.v _)

theorem pureFn_of {P : Program} {E : Env} (hE : EnvOk P E) (hm : P.follows .mixedOrders = true) {f : FuncId} {fn : Func} {c : Code} (hf : P.funcs[f]? = some fn) (hname : (fn.name == "runtime.NumGoroutine") = false) (hb : fn.body = some c) {g : List T → Option T}
    (h : ∀ args r, g args = some r → args.length ≤ fn.ntmps ∧ ((∀ t ∈ args, Bd t) → wpc P E fn.ntmps c (fun e st => (e = .normal ∨ e = .ret) ∧ resD P fn.results st = some r) (st0 args))) : PureFn P f g := by
  refine ⟨⟨fn, hf, hname, by simp [hb]⟩, fun w own args vs r hown ha hg => ?_⟩
  obtain ⟨hlen, hw⟩ := h args r hg
  have hbd : ∀ t ∈ args, Bd t := by
    intro t ht
    obtain ⟨i, hi, rfl⟩ := List.mem_iff_getElem.1 ht
    exact (ha.2 i hi).bd
  let cx : Cx := ⟨P, own, w⟩
  refine calls_of_wp hf hb ?_
  have hr := st0_rel (cx := cx) (nt := fn.ntmps) hown ha hlen
  refine wp_mono (wpc_sound hE hm c _ (st0 args) (hw hbd) _ _ w hr) ?_
  rintro e a' w' ⟨st', ρ', hr', he, hres⟩
  obtain ⟨v, h1, h2⟩ := resD_run hr' hres
  rcases he with rfl | rfl
  · exact ⟨hr'.defers, v, h1, v, rfl, h2, hr'.inv.below⟩
  · exact ⟨hr'.defers, v, h1, v, rfl, h2, hr'.inv.below⟩

/-! ### Functions that hand back a list in new memory -/
def resF (P : Program) (rs : Array ResultVar) (st : St) : Option (List (List T)) :=
  match resL P st rs.toList with
  | some [.p t] => match rowsT t with
    | some (_, []) => some []
    | _ => none
  | some [.bs k 0 len] => match st.σ k with
    | some (.rows rs) => if rs.length = len ∧ 0 < len then rs.mapM (fun r => r.mapM (frz (upd st.σ k none) 4)) else none
    | _ => none
  | _ => none
theorem resF_run {cx : Cx} {nt : Nat} {ρ : Nat → Option Loc} {st : St} {a : Act} {w : World} (hr : Rel cx nt ρ st a w) {fn : Func} {rows : List (List T)} (h : resF cx.P fn.results st = some rows) :
    ∃ v, (results fn a.tmps).run cx.P w = .ok v w ∧ (rows = [] → RdT w cx.own (.sl false []) v) ∧
      (rows ≠ [] → ∃ blk sz C ty c, v = .slice (some ⟨blk, 0, none⟩) rows.length C ∧ C ≤ maxLen ∧ cx.w0.heap.size ≤ blk ∧ w.heap[blk]? = some (.cells c ty (0, 0)) ∧
        BoxIn w (fun b => cx.own b ∨ b = blk) (fun _ => none) ⟨blk, sz, C, ty⟩ (.cells c ty (0, 0)) (.rows (rows.map fun r => r.map .p))) := by
  have run : ∀ {d : D}, resL cx.P st fn.results.toList = some [d] → ∃ v, (results fn a.tmps).run cx.P w = .ok v w ∧ Rd w (Own cx ρ st.σ) ρ d v := by
    intro d hds
    obtain ⟨vs, h1, h2⟩ := resL_run hr hds
    have hs : vs.toArray.size = 1 := by simpa using h2.1
    refine ⟨vs.toArray[0], ?_, ?_⟩
    · rw [results_eq, Array.mapM_eq_mapM_toList, Sem.run_bind, Sem.run_map, h1]
      have hs' : vs.length = 1 := by simpa using hs
      simp [hs']
    · have h3 := h2.2 0 (by simp)
      have h4 : vs.toArray.getD 0 undef = vs.toArray[0] := by simp only [Array.getD, hs]; simp
      rw [h4] at h3
      exact h3
  unfold resF at h
  split at h
  · rename_i t ht
    obtain ⟨v, h1, h2⟩ := run ht
    split at h
    · rename_i f hrow
      cases h
      refine ⟨v, h1, fun _ => ?_, fun h => absurd rfl h⟩
      cases h2 with
      | p _ _ h2 =>
      have := rowsT_rd h2 hrow
      cases this with
      | slNil _ a cap hf hn => exact .slNil false a cap (by simp) hn
      | sl _ _ sz blk off cap fc k1 k2 k3 k4 k5 k6 k7 k8 k9 => exact (RdT.sl f [] sz blk off cap fc k1 k2 k3 k4 k5 k6 k7 k8 k9).canon 0 |>.less fun _ h => .inl h
    · cases h
  · rename_i k len hk
    obtain ⟨v, h1, h2⟩ := run hk
    split at h
    · rename_i rs hσ
      split at h
      · rename_i hl
        obtain ⟨hlen, hpos⟩ := hl
        obtain ⟨g1, g2⟩ := mapM_some_length h
        refine ⟨v, h1, fun e => ?_, fun _ => ?_⟩
        · subst e; simp at g1; omega
        · cases h2 with
          | bs _ _ _ l hl hc1 hc2 =>
          obtain ⟨l', c, hl', hheap, hb⟩ := hr.inv.rows hσ
          rw [hl] at hl'; cases hl'
          have hfrz := fun {d : D} {t : T} {v : Value} => frz_of (own0 := fun b => cx.own b ∨ b = l.blk) (τ := upd st.σ k none) hr.inv (fun b hb => by
              rcases hb with hb | rfl
              · exact .inl hb
              · exact .inr ⟨k, l, _, hσ, hl, rfl⟩) (fun i x hi => by
              by_cases e : i = k
              · subst e; simp at hi
              · rwa [upd_ne _ _ e] at hi) (fun i x m hi hm hc => by
              by_cases e : i = k
              · subst e; simp at hi
              · rw [upd_ne _ _ e] at hi
                rcases hc with hc | hc
                · exact hr.inv.cxown hm hc
                · exact e (hr.inv.inj i k x _ m l hi hσ hm hl hc)) 4 (d := d) (t := t) (v := v)
          refine ⟨l.blk, l.sz, l.C, l.e, c, ?_, hc2, (hr.inv.new k l hl).2.1, hheap, ?_⟩
          · simp [g1, hlen]
          · refine .rows _ c ⟨hb.size, hb.pos, by have := hb.small; simp; omega, by have := hb.len; simp; omega, fun r hr => ?_, fun i j hi hj => ?_, hb.one⟩
            · obtain ⟨r', hr', rfl⟩ := List.mem_map.1 hr
              obtain ⟨i, hi, rfl⟩ := List.mem_iff_getElem.1 hr'
              have h3 := g2 i (by omega) hi
              rw [List.length_map, (mapM_some_length h3).1]
              exact hb.width _ (List.getElem_mem _)
            · simp only [List.length_map] at hi
              have h3 := g2 i (by omega) hi
              obtain ⟨e1, e2⟩ := mapM_some_length h3
              simp only [List.getElem_map, List.length_map] at hj ⊢
              obtain ⟨u, u1, u2⟩ := hb.cell i j (by omega) (by omega)
              exact ⟨u, u1, .p _ _ (hfrz u2 (e2 j (by omega) hj))⟩
      · cases h
    · cases h
  · cases h

theorem freshFn_of {P : Program} {E : Env} (hE : EnvOk P E) (hm : P.follows .mixedOrders = true) {f : FuncId} {fn : Func} {c : Code} (hf : P.funcs[f]? = some fn) (hname : (fn.name == "runtime.NumGoroutine") = false) (hb : fn.body = some c) {g : List T → Option (List (List T))}
    (h : ∀ args r, g args = some r → args.length ≤ fn.ntmps ∧ ((∀ t ∈ args, Bd t) → wpc P E fn.ntmps c (fun e st => (e = .normal ∨ e = .ret) ∧ resF P fn.results st = some r) (st0 args))) : FreshFn P f g := by
  refine ⟨⟨fn, hf, hname, by simp [hb]⟩, fun w own args vs r hown ha hg => ?_⟩
  obtain ⟨hlen, hw⟩ := h args r hg
  have hbd : ∀ t ∈ args, Bd t := by
    intro t ht
    obtain ⟨i, hi, rfl⟩ := List.mem_iff_getElem.1 ht
    exact (ha.2 i hi).bd
  let cx : Cx := ⟨P, own, w⟩
  refine calls_of_wp hf hb ?_
  refine wp_mono (wpc_sound hE hm c _ (st0 args) (hw hbd) _ _ w (st0_rel (cx := cx) hown ha hlen)) ?_
  rintro e a' w' ⟨st', ρ', hr', he, hres⟩
  obtain ⟨v, h1, h2, h3⟩ := resF_run hr' hres
  rcases he with rfl | rfl
  · exact ⟨hr'.defers, v, h1, v, rfl, hr'.inv.below, h2, h3⟩
  · exact ⟨hr'.defers, v, h1, v, rfl, hr'.inv.below, h2, h3⟩

/-! ### One piece of code at a time -/
section
variable {P : Program} {E : Env} {nt : Nat}
theorem W_sr {id : Nat} {ops : Array Oper} {draw : Bool} {b : Code} {Q : Exit → St → Prop} {st : St} (ho : draw = false ∨ orderOk E ops = true)
    (h : ∀ N : St → Prop, (∀ st', wpc P E nt b Q st' → N st') → regionQ P E nt ops N st) : wpc P E nt (.seq (.region id ops draw) b) Q st := ⟨ho, h _ fun _ h => h⟩
theorem W_r {id : Nat} {ops : Array Oper} {draw : Bool} {Q : Exit → St → Prop} {st : St} (ho : draw = false ∨ orderOk E ops = true)
    (h : ∀ N : St → Prop, (∀ st', Q .normal st' → N st') → regionQ P E nt ops N st) : wpc P E nt (.region id ops draw) Q st := ⟨ho, h _ fun _ h => h⟩
theorem W_seq {a b : Code} {Q : Exit → St → Prop} {st : St} (h : wpc P E nt a (thenQ (wpc P E nt b Q) Q) st) : wpc P E nt (.seq a b) Q st := h
theorem W_assoc {a b c : Code} {Q : Exit → St → Prop} {st : St} (h : wpc P E nt (.seq a (.seq b c)) Q st) : wpc P E nt (.seq (.seq a b) c) Q st := by
  refine wpc_mono a ?_ h
  intro e st hq
  cases e <;> exact hq
theorem W_sskip {b : Code} {Q : Exit → St → Prop} {st : St} (h : wpc P E nt b Q st) : wpc P E nt (.seq .skip b) Q st := h
theorem W_sret {b : Code} {Q : Exit → St → Prop} {st : St} (h : Q .ret st) : wpc P E nt (.seq .ret b) Q st := h
theorem W_sexit {id : Nat} {b : Code} {Q : Exit → St → Prop} {st : St} (h : Q (.exit id) st) : wpc P E nt (.seq (.exit id) b) Q st := h
/-- A test, what follows taken into both ways. -/
theorem W_scond {c : Operand} {t e b : Code} {Q : Exit → St → Prop} {st : St} (h : ∀ A B : Prop, (wpc P E nt (.seq t b) Q st → A) → (wpc P E nt (.seq e b) Q st → B) → condQ (ev (stripS true st.s) c) A B) : wpc P E nt (.seq (.cond c t e) b) Q st := h _ _ id id
theorem W_sblock {id : Nat} {a b : Code} {Q : Exit → St → Prop} {st : St} (h : wpc P E nt a (blockQ id (thenQ (wpc P E nt b Q) Q)) st) : wpc P E nt (.seq (.block id a) b) Q st := h
theorem W_sloop {a b : Code} {Q : Exit → St → Prop} {st : St} (h : wpc P E nt (.loop a) (thenQ (wpc P E nt b Q) Q) st) : wpc P E nt (.seq (.loop a) b) Q st := h
theorem W_cond {c : Operand} {t e : Code} {Q : Exit → St → Prop} {st : St} (h : ∀ A B : Prop, (wpc P E nt t Q st → A) → (wpc P E nt e Q st → B) → condQ (ev (stripS true st.s) c) A B) : wpc P E nt (.cond c t e) Q st := h _ _ id id
theorem W_block {id : Nat} {b : Code} {Q : Exit → St → Prop} {st : St} (h : wpc P E nt b (blockQ id Q) st) : wpc P E nt (.block id b) Q st := h
theorem W_skip {Q : Exit → St → Prop} {st : St} (h : Q .normal st) : wpc P E nt .skip Q st := h
theorem W_ret {Q : Exit → St → Prop} {st : St} (h : Q .ret st) : wpc P E nt .ret Q st := h
theorem W_exit {id : Nat} {Q : Exit → St → Prop} {st : St} (h : Q (.exit id) st) : wpc P E nt (.exit id) Q st := h
theorem condQ_true {A B : Prop} (h : A) : condQ (.p (.v (.bool true))) A B := by simpa [condQ] using h
theorem condQ_false {A B : Prop} (h : B) : condQ (.p (.v (.bool false))) A B := by simpa [condQ] using h
theorem condQ_bool {b : Bool} {A B : Prop} (h1 : b = true → A) (h2 : b = false → B) : condQ (.p (.v (.bool b))) A B := by
  cases b
  · exact condQ_false (h2 rfl)
  · exact condQ_true (h1 rfl)
theorem condQ_dec {p : Prop} [Decidable p] {A B : Prop} (h1 : p → A) (h2 : ¬ p → B) : condQ (.p (.v (.bool (decide p)))) A B := by
  by_cases h : p
  · simp only [condQ, h, decide_true, if_true]; exact h1 h
  · simp only [condQ, h, decide_false, Bool.false_eq_true, if_false]; exact h2 h
end
attribute [irreducible] wpc
end Go.Pv
