/-
  The pure evaluator, part s: regions, one operation at a time.
-/
import Derived.Test.YtnepemjcinpohaaPvn
set_option linter.unusedSimpArgs false
namespace Go.Pv
open Go Go.RowKit

def opsQ (P : Program) (E : Env) (nt : Nat) (ops : Array Oper) (l : List Oper) (N : St → Prop) (st : St) : Prop :=
  match evL P E nt ops l st with
  | some st' => N st'
  | none => False
def putQ (nt : Nat) (dst : Option Tmp) (d : D) (σ : Nat → Option Box) (n : Nat) (N : St → Prop) (s : Nat → D) : Prop :=
  match dst with
  | none => N ⟨s, σ, n⟩
  | some t => t < nt ∧ N ⟨upd s t d, σ, n⟩
/-- An operation without a guard. -/
def stepU (P : Program) (E : Env) (nt : Nat) (op : Op) (dst : Option Tmp) (N : St → Prop) (s : Nat → D) (σ : Nat → Option Box) (n : Nat) : Prop :=
  match isQuiet E op with
  | true => match qv P E σ s (stripS true s) true op with
    | some d => putQ nt dst d σ n N s
    | none => False
  | false => match nv P E σ (stripS true s) n op with
    | some x => putQ nt dst x.1 x.2 (n + 1) N s
    | none => False
def guardD (d : D) (want : Bool) : Option Bool :=
  match d with
  | .p (.v (.bool b)) => some (b == want)
  | .p (.v (.tuple _)) => some false
  | .cond g (.p (.v (.bool b))) => some (g && (b == want))
  | _ => none
/-- An operation behind a guard in slot 'gt'. -/
def stepG (P : Program) (E : Env) (nt : Nat) (gt : Tmp) (want : Bool) (op : Op) (dst : Option Tmp) (N : St → Prop) (s : Nat → D) (σ : Nat → Option Box) (n : Nat) : Prop :=
  match guardD (s gt) want with
  | none => False
  | some c =>
    match isQuiet E op with
    | true => match qv P E σ s (stripS c s) c op with
      | some d => putQ nt dst (.cond c d) σ n N s
      | none => c = false ∧ putQ nt dst (.p (.v undef)) σ n N s
    | false => match c with
      | true => match nv P E σ (stripS true s) n op with
        | some x => putQ nt dst x.1 x.2 (n + 1) N s
        | none => False
      | false => putQ nt dst (.p (.v undef)) σ n N s

section
variable {P : Program} {E : Env} {nt : Nat} {ops : Array Oper} {N : St → Prop}
theorem putQ_of {dst : Option Tmp} {d : D} {σ : Nat → Option Box} {n : Nat} {st : St} (h : putQ nt dst d σ n N st.s) : ∃ st', putS nt st dst d σ n = some st' ∧ N st' := by
  unfold putQ at h
  unfold putS
  split at h
  · exact ⟨_, rfl, h⟩
  · exact ⟨_, by simp [h.1], h.2⟩
theorem stepU_of {dst : Option Tmp} {op : Op} {ty : TypeId} {pos : String} {after : Array Edge} {st : St} (h : stepU P E nt op dst N st.s st.σ st.n) : ∃ st', stepO P E nt ops ⟨dst, op, ty, pos, after, none⟩ st = some st' ∧ N st' := by
  unfold stepU at h
  unfold stepO
  split at h
  · rename_i hq
    simp only [hq, if_true, qstep, guardC]
    split at h
    · rename_i d hd
      obtain ⟨st', h1, h2⟩ := putQ_of h
      exact ⟨st', by simp only [hd]; exact h1, h2⟩
    · cases h
  · rename_i hq
    simp only [hq, Bool.false_eq_true, if_false, guardC]
    split at h
    · rename_i x hx
      obtain ⟨st', h1, h2⟩ := putQ_of h
      obtain ⟨d, σ'⟩ := x
      exact ⟨st', by simp only [hx]; exact h1, h2⟩
    · cases h
theorem stepG_of {dst : Option Tmp} {op : Op} {ty : TypeId} {pos : String} {after : Array Edge} {j : Nat} {gt : Tmp} {want : Bool} {st : St} (hj : (ops[j]?).bind (·.dst) = some gt) (h : stepG P E nt gt want op dst N st.s st.σ st.n) :
    ∃ st', stepO P E nt ops ⟨dst, op, ty, pos, after, some (j, want)⟩ st = some st' ∧ N st' := by
  unfold stepG at h
  unfold stepO
  have hg : guardC ops st.s ⟨dst, op, ty, pos, after, some (j, want)⟩ = guardD (st.s gt) want := by
    simp only [guardC, hj, guardD]
    rfl
  split at h
  · cases h
  · rename_i c hc
    rw [hc] at hg
    split at h
    · rename_i hq
      simp only [hq, if_true, qstep, hg]
      split at h
      · rename_i d hd
        obtain ⟨st', h1, h2⟩ := putQ_of h
        exact ⟨st', by simp only [hd]; exact h1, h2⟩
      · rename_i hn
        obtain ⟨hc0, h⟩ := h
        subst hc0
        obtain ⟨st', h1, h2⟩ := putQ_of h
        exact ⟨st', by simp only [hn, Bool.false_eq_true, if_false]; exact h1, h2⟩
    · rename_i hq
      simp only [hq, Bool.false_eq_true, if_false, hg]
      split at h
      · split at h
        · rename_i x hx
          obtain ⟨st', h1, h2⟩ := putQ_of h
          obtain ⟨d, σ'⟩ := x
          exact ⟨st', by simp only [hx]; exact h1, h2⟩
        · cases h
      · obtain ⟨st', h1, h2⟩ := putQ_of h
        exact ⟨st', h1, h2⟩
theorem opsQ_cons {o : Oper} {r : List Oper} {st : St} (h : ∃ st', stepO P E nt ops o st = some st' ∧ opsQ P E nt ops r N st') : opsQ P E nt ops (o :: r) N st := by
  obtain ⟨st', h1, h2⟩ := h
  unfold opsQ evL
  rw [h1]
  exact h2

theorem W_nil {st : St} (h : N st) : opsQ P E nt ops [] N st := h
theorem W_u {dst : Option Tmp} {op : Op} {ty : TypeId} {pos : String} {after : Array Edge} {r : List Oper} {s : Nat → D} {σ : Nat → Option Box} {n : Nat}
    (h : ∀ M : St → Prop, (∀ st', opsQ P E nt ops r N st' → M st') → stepU P E nt op dst M s σ n) : opsQ P E nt ops (⟨dst, op, ty, pos, after, none⟩ :: r) N ⟨s, σ, n⟩ :=
  opsQ_cons (stepU_of (st := ⟨s, σ, n⟩) (h _ fun _ h => h))
theorem W_g {dst : Option Tmp} {op : Op} {ty : TypeId} {pos : String} {after : Array Edge} {j : Nat} {gt : Tmp} {want : Bool} {r : List Oper} {s : Nat → D} {σ : Nat → Option Box} {n : Nat} (hj : (ops[j]?).bind (·.dst) = some gt)
    (h : ∀ M : St → Prop, (∀ st', opsQ P E nt ops r N st' → M st') → stepG P E nt gt want op dst M s σ n) : opsQ P E nt ops (⟨dst, op, ty, pos, after, some (j, want)⟩ :: r) N ⟨s, σ, n⟩ :=
  opsQ_cons (stepG_of (st := ⟨s, σ, n⟩) hj (h _ fun _ h => h))
theorem W_sreg {id : Nat} {l : List Oper} {draw : Bool} {b : Code} {Q : Exit → St → Prop} {s : Nat → D} {σ : Nat → Option Box} {n : Nat} (ho : draw = false ∨ orderOk E l.toArray = true)
    (h : opsQ P E nt l.toArray l (wpc P E nt b Q) ⟨s, σ, n⟩) : wpc P E nt (.seq (.region id l.toArray draw) b) Q ⟨s, σ, n⟩ := W_sr ho fun N hN => by
  unfold opsQ at h
  unfold regionQ
  split at h
  · rename_i st' he; simp only [he]; exact hN _ h
  · cases h
theorem W_reg {id : Nat} {l : List Oper} {draw : Bool} {Q : Exit → St → Prop} {s : Nat → D} {σ : Nat → Option Box} {n : Nat} (ho : draw = false ∨ orderOk E l.toArray = true)
    (h : opsQ P E nt l.toArray l (Q .normal) ⟨s, σ, n⟩) : wpc P E nt (.region id l.toArray draw) Q ⟨s, σ, n⟩ := W_r ho fun N hN => by
  unfold opsQ at h
  unfold regionQ
  split at h
  · rename_i st' he; simp only [he]; exact hN _ h
  · cases h
theorem W_eta {c : Code} {Q : Exit → St → Prop} {st : St} (h : wpc P E nt c Q ⟨st.s, st.σ, st.n⟩) : wpc P E nt c Q st := h
end
attribute [irreducible] opsQ
end Go.Pv
