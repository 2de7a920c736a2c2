/-
  The symbolic executor, part g: code, and functions.
-/
import Derived.Test.YtdeckddpmegjeaaGreatDoorPv4kf
set_option linter.defProp false
set_option linter.unusedSimpArgs false
namespace Go.Pv
open Go Go.RowKit
inductive LH where
  | none
  | inv (its : List It)
  | alt (a b : List It)
  | p0 (n : Nat)
  | alts (l : List (List It))
structure Hint where
  loop : Nat → LH
  join : Nat → Nat → Option (List It)
  UC : Nat → TJ
def bT : Hint := ⟨fun _ => .none, fun _ _ => none, fun _ => none⟩
def kA : Code → Option Nat
  | .region id _ _ => some id
  | .seq a b => match kA a with
    | some i => some i
    | none => kA b
  | .cond _ a b => match kA a with
    | some i => some i
    | none => kA b
  | .block _ b => kA b
  | .scope b => kA b
  | .loop b => kA b
  | _ => none
def qG : Code → Option Nat
  | .region id _ _ => some id
  | .seq a b => match qG b with
    | some i => some i
    | none => qG a
  | .cond _ a b => match qG b with
    | some i => some i
    | none => qG a
  | .block _ b => qG b
  | .scope b => qG b
  | .loop b => qG b
  | _ => none
def BW (i : Nat) : List Oper → Bool
  | [] => false
  | o :: l => (match o.dst with
    | some t => t == i
    | none => false) || BW i l
def vS : Code → Nat → Bool
  | .region _ ops _, i => BW i ops.toList
  | .seq a b, i => vS a i || vS b i
  | .cond _ a b, i => vS a i || vS b i
  | .block _ b, i => vS b i
  | .scope b, i => vS b i
  | .loop b, i => vS b i
  | _, _ => false
def ends (t : Option Nat) : Code → Bool
  | .skip => t.isNone
  | .label _ => t.isNone
  | .region _ _ _ => t.isNone
  | .seq a b => (ends none a && ends t b) || (t.isSome && ends t a)
  | .cond _ a b => ends t a || ends t b
  | .block id b => match t with
    | none => ends none b || ends (some id) b
    | some j => ends (some j) b
  | .loop b => t.isSome && ends t b
  | .scope b => ends t b
  | .exit id => match t with
    | none => false
    | some j => j == id
  | _ => false
def dF (t : Option Nat) : Code → Nat → Bool
  | .region _ ops _, i => BW i ops.toList
  | .seq a b, i => (ends none a && ends t b && (dF none a i || dF t b i)) || (t.isSome && ends t a && dF t a i)
  | .cond _ a b, i => (ends t a && dF t a i) || (ends t b && dF t b i)
  | .block id b, i => match t with
    | none => (ends none b && dF none b i) || (ends (some id) b && dF (some id) b i)
    | some j => dF (some j) b i
  | .loop b, i => (ends none b && dF none b i) || dF t b i
  | .scope b, i => dF t b i
  | _, _ => false
def gQ (c : Code) : Exit → Nat → Bool
  | .normal => dF none c
  | .exit id => dF (some id) c
  | _ => vS c
def eM (c : Code) : Exit → Bool
  | .normal => ends none c
  | .exit id => ends (some id) c
  | _ => true
theorem tI : ∀ {l : List Oper} {o : Oper} {t : Tmp}, o ∈ l → o.dst = some t → BW t l = true
  | [], _, _, h, _ => by cases h
  | a :: l, o, t, h, ht => by
    simp only [BW, Bool.or_eq_true]
    rcases List.mem_cons.1 h with rfl | h
    · exact .inl (by simp [ht])
    · exact .inr (tI h ht)
def SE (H : Hint) (a : Code) : Option (List It) := match kA a, qG a with
  | some i, some j => H.join i j
  | _, _ => none
def fits (st : St) : List It → Bool
  | [] => true
  | .arr k _ _ :: l => (match st.σ k with
    | some (.arr _ _ _) => true
    | _ => false) && fits st l
  | .own t _ _ :: l => (match st.s t with
    | .own _ => true
    | .p t => (match cT t with
      | some (true, []) => true
      | _ => false)
    | _ => false) && fits st l
  | .box k _ :: l => (match st.σ k with
    | some (.rows _ _) => true
    | _ => false) && fits st l
  | .map k _ _ _ :: l => (match st.σ k with
    | some (.map _ _) => true
    | _ => false) && fits st l
  | .cK k :: l => (match st.σ k with
    | some (.cK _ _ _ _) => true
    | _ => false) && fits st l
  | _ :: l => fits st l
def SO (h : LH) (st : St) : Option (List It) := match h with
  | .inv its => some its
  | .alt a b => match fits st a with
    | true => some a
    | false => some b
  | .alts l => l.find? fun its => fits st its
  | _ => none
def SG (H : Hint) (b : Code) : LH := match kA b with
  | some i => H.loop i
  | none => .none
section
variable (C : fH) (P : Program) (E : Env) (I : RN) (H : Hint) (nt : Nat)
def RE (ops : List Oper) (st : St) : Nat → Operand → Option Nat
  | 0, _ => none
  | f + 1, x => match ev (aW true st.s) x with
    | .ptr k _ _ => some k
    | _ => match x with
      | .tmp t => match ops.find? (fun o => o.dst == some t) with
        | some o => match o.op with
          | .fieldAddr _ a _ => RE ops st f a
          | _ => none
        | none => none
      | _ => none
def V9 (ops : Array Oper) (st : St) : Option Nat := ops.toList.foldl (fun m o => match o.op with
  | .store _ a _ => match RE ops.toList st 6 a, m with
    | some k, some m => some (min k m)
    | _, _ => none
  | _ => m) (some st.n)
def MQ (E : Env) (ops : Array Oper) : Option Nat := ((List.range ops.size).filter fun i => match ops[i]? with
  | some o => match o.op with
    | .call c => match c.callee with
      | .value (.tmp _) => true
      | .value (.func f) => (E f).isNone
      | _ => false
    | _ => false
  | none => false).getLast?
def RF (E : Env) (ops : Array Oper) : Option Nat := match MQ E ops with
  | some t => match zS E ops t with
    | true => some t
    | false => none
  | none => none
def U4 (id : Nat) (ops : Array Oper) (draw : Bool) (st : St) (K : St → Prop) : Prop :=
  match draw with
  | false => L3 C P E nt I (H.UC id) false ops ops.toList st K
  | true => match RF E ops with
   | some t => kX false C P E nt ops st.n (List.range t) (cM ops st) fun st1 => L3 C P E nt I none false ops (ops.toList.drop t) st1 K
   | none => match jA E ops with
    | true => L3 C P E nt I none true ops ops.toList st K
    | false => match jN false E ops with
      | true => kX false C P E nt ops st.n (nW false E ops) (cM ops st) K
      | false => match jN true E ops && P7 ops, V9 ops st with
       | true, some base => match Nat.ble base st.n with
        | true => kX true C P E nt ops base (nW true E ops) (cM ops st) K
        | false => C.bad 510
       | _, _ => match Nat.ble ops.size 7 with
        | true => anyS C P E nt ops K ops.size (Array.replicate ops.size false) st
        | false => match J6 false E ops with
          | true => s5 false C P E nt ops st.n (kU ops.toList []) K ops.size (Array.replicate ops.size false) (cM ops st)
          | false => C.bad 501
def I9 (its : List It) (st₀ : St) (X : o8.den its → Prop) (Q : Exit → St → Prop) : Exit → St → Prop
  | .normal, st => match qI its st₀ st with
    | true => L6 C st₀ st its X
    | false => C.bad 502
  | e, st => Q e (AM its st₀ st)
def WI (F : (Exit → St → Prop) → St → Prop) (Q : Exit → St → Prop) : Nat → St → Prop
  | 0, _ => C.bad 503
  | n + 1, st => F (fun e st' => match e with
    | .normal => WI F Q n st'
    | e => Q e st') st
def P0 (c : Operand) (b : Bool) (st : St) : St := match c with
  | .tmp t => match st.s t with
    | .p (.v (.bool _)) => ⟨aZ st.s t (.p (.v (.bool b))), st.σ, st.n⟩
    | _ => st
  | _ => st
def sx : Code → (Exit → St → Prop) → St → Prop
  | .skip, Q, st => Q .normal st
  | .label _, Q, st => Q .normal st
  | .region id ops draw, Q, st => U4 C P E I H nt id ops draw st (Q .normal)
  | .seq a b, Q, st => match SE H a with
    | none => sx a (DJ (sx b Q) Q) st
    | some its => C.join (o8.den its) (fun X => sx a (I9 C its st X Q) (vZ its st)) fun y => sx b Q (AM its st (mP its (dF none a) st y))
  | .cond c t e, Q, st => match ev (aW true st.s) c with
    | .p (.v (.bool b)) => aI b (sx t Q (P0 c true st)) (sx e Q (P0 c false st))
    | _ => C.bad 504
  | .block id b, Q, st => sx b (pB id Q) st
  | .loop b, Q, st => match SG H b with
    | .p0 n => WI C (sx b) Q n st
    | h => match SO h st with
      | some its => match qI its st (vZ its st) && ends none b with
        | true => L6 C st (vZ its st) its fun y => C.loop (o8.den its) (fun X y => sx b (I9 C its st X Q) (mP its (dF none b) st y)) y
        | false => C.bad 505
      | none => C.bad 506
  | .exit id, Q, st => Q (.exit id) st
  | .ret, Q, st => Q .ret st
  | .scope b, Q, st => sx b (zO Q) st
  | _, _, _ => C.bad 507
end
theorem HH {c : Operand} {b : Bool} {st : St} (h : ev (aW true st.s) c = .p (.v (.bool b))) : P0 c b st = st := by
  unfold P0
  split
  · rename_i t
    split
    · rename_i b' hb
      have : b' = b := by
        simp only [ev, aW, hb, strip] at h
        cases h; rfl
      subst this
      have : aZ st.s t (.p (.v (.bool b'))) = st.s := by
        funext i
        by_cases e : i = t
        · subst e; rw [o4, hb]
        · rw [aL _ _ e]
      rw [this]
    · rfl
  · rfl
def nS (P : Program) (b : Code) (Q : Exit → Act → World → Prop) (a : Act) (w : World) : Prop :=
  ∀ (fb : Frame) (k : List Item) (cs : List Frame), ∃ e a' w', Q e a' w' ∧ Arrives P (lone (fb.at a (.code b :: .inLoop b :: k)) cs w) fb k cs e a' w'
theorem nS.wp {P : Program} {b : Code} {Q : Exit → Act → World → Prop} {a : Act} {w : World} (h : nS P b Q a w) : (Code.loop b).wp P Q a w := by
  intro fb k cs
  obtain ⟨e, a', w', hq, harr⟩ := h fb k cs
  exact ⟨e, a', w', hq, .of_steps (.one step_loop) harr⟩
theorem nS.round {P : Program} {b : Code} {Q : Exit → Act → World → Prop} {a : Act} {w : World} (h : b.wp P (fun e a w => match e with
    | .normal => nS P b Q a w
    | e => Q e a w) a w) : nS P b Q a w := by
  intro fb k cs
  obtain ⟨e, a₁, w₁, hq, harr⟩ := h fb (.inLoop b :: k) cs
  cases e with
  | normal =>
    obtain ⟨e₂, a₂, w₂, hq₂, harr₂⟩ := hq fb k cs
    exact ⟨e₂, a₂, w₂, hq₂, .of_steps (Steps.trans harr (.one step_inLoop)) harr₂⟩
  | exit id => exact ⟨_, a₁, w₁, hq, .pass (x := .inLoop b) rfl (fun _ _ => .inl (by simp)) harr⟩
  | goto l => exact ⟨_, a₁, w₁, hq, .pass (x := .inLoop b) rfl (fun _ _ => .inl (by simp)) harr⟩
  | ret => exact ⟨_, a₁, w₁, hq, .pass (x := .inLoop b) rfl (fun _ _ => .inl (by simp)) harr⟩
  | panic ch => exact ⟨_, a₁, w₁, hq, .pass (x := .inLoop b) rfl (fun _ _ => .inl (by simp)) harr⟩
  | outgrown => exact ⟨_, a₁, w₁, hq, .pass (x := .inLoop b) rfl (fun _ _ => .inl (by simp)) harr⟩
section
variable {P : Program} {E : Env} {I : RN} {H : Hint} {nt : Nat}
theorem Fr.Q6 {its : List It} {A B D : Nat → Bool} {st₀ st : St} {y : o8.den its} (h : Fr B (mP its A st₀ y) st) (hD : ∀ i, D i = false → A i = false ∧ B i = false) : Fr D st₀ (AM its st₀ st) ∧ ∀ k x, kept its st₀ k = true → st₀.σ k = some x → st.σ k = some (lock x) := by
  have hk : ∀ k x, kept its st₀ k = true → st₀.σ k = some x → st.σ k = some (lock x) := by
    intro k x hke hx
    obtain ⟨hlt, x0, h0, h1, _⟩ := fD hke
    rw [hx] at h0; cases h0
    exact h.b.2 k (lock x) (by show k < st₀.n + kZ its; omega) (by simp only [mP, decide_eq_true hlt, hke, hx, Option.map_some]) h1
  refine ⟨⟨fun i hi => ?_, ?_, fun k x hlt hx hw => ?_⟩, hk⟩
  · obtain ⟨h1, h2⟩ := hD i hi
    have := h.s i h2
    simp only [mP, h1] at this
    exact this
  · have := h.b.1
    simp only [mP] at this
    show st₀.n ≤ st.n
    omega
  · have hke := oD (its := its) hlt hx hw
    simp only [AM, hke, hx]
theorem Fr.UW {its : List It} {A : Nat → Bool} {st₀ st : St} (h : Fr A (vZ its st₀) st) : Fr A st₀ (AM its st₀ st) ∧ ∀ k x, kept its st₀ k = true → st₀.σ k = some x → st.σ k = some (lock x) := by
  have hk : ∀ k x, kept its st₀ k = true → st₀.σ k = some x → st.σ k = some (lock x) := by
    intro k x hke hx
    obtain ⟨hlt, x0, h0, h1, _⟩ := fD hke
    rw [hx] at h0; cases h0
    exact h.b.2 k (lock x) hlt (by simp only [vZ, hke, hx, Option.map_some]) h1
  refine ⟨⟨fun i hi => h.s i hi, h.b.1, fun k x hlt hx hw => ?_⟩, hk⟩
  have hke := oD (its := its) hlt hx hw
  simp only [AM, hke, hx]
theorem PQ {its : List It} {A : Nat → Bool} {st₀ : St} {y : o8.den its} : Fr A st₀ (AM its st₀ (mP its A st₀ y)) := by
  refine ⟨fun i hi => ?_, ?_, fun k x hlt hx hw => ?_⟩
  · simp only [AM, mP, hi]
  · show st₀.n ≤ st₀.n + kZ its
    omega
  · have hke := oD (its := its) hlt hx hw
    simp only [AM, hke, hx]
theorem PV {its : List It} {A : Nat → Bool} {st₀ : St} {y : o8.den its} : ∀ k x, kept its st₀ k = true → st₀.σ k = some x → (mP its A st₀ y).σ k = some (lock x) := by
  intro k x hke hx
  obtain ⟨hlt, _⟩ := fD hke
  simp only [mP, decide_eq_true hlt, hke, hx, Option.map_some]
theorem P1 {its : List It} {st₀ : St} : ∀ k x, kept its st₀ k = true → st₀.σ k = some x → (vZ its st₀).σ k = some (lock x) := by
  intro k x hke hx
  simp only [vZ, hke, hx, Option.map_some]
theorem EK {cx : Cx} {its : List It} {A : Nat → Bool} {st₀ st : St} {y : o8.den its} {ρ₀ ρ : Nat → Option Loc} {a₀ a : Act} {w₀ w : World} (hR0 : Rel cx nt ρ₀ st₀ a₀ w₀) (hR : Rel (rK cx its st₀ ρ₀ w₀) nt ρ st a w) (hs : ∀ i, A i = false → st.s i = st₀.s i)
    (hk : ∀ k x, kept its st₀ k = true → st₀.σ k = some x → st.σ k = some (lock x)) (hok : qI its st₀ st = true) (hy : GW st₀.n st₀ st its y) : ∃ ρ', Rel (rK cx its st₀ ρ₀ w₀) nt ρ' (mP its A st₀ y) a w := by
  have hdom : ∀ k l, ρ₀ k = some l → k < st₀.n := fun k l hl => (hR0.inv.new k l hl).1
  refine O7 hR (fun i _ => (hR0.fN i).TS hdom) (fun k x hx => ?_) hdom (fun k x hx hw => ?_) hs hk hok hy
  · obtain ⟨l, _, hb⟩ := hR0.inv.boxes k x hx
    exact hb.TS hdom
  · change (vZ its st₀).σ k = some x at hx
    cases hke : kept its st₀ k with
    | true => rfl
    | false =>
      simp only [vZ, hke] at hx
      obtain ⟨l, hl, _⟩ := hR0.inv.boxes k x hx
      rw [oD (hdom k l hl) hx hw] at hke
      cases hke
theorem uW {its : List It} {st₀ st : St} (h : qI its st₀ st = true) : rL st₀.n its = true := by
  unfold qI at h
  rw [Bool.and_eq_true] at h
  exact h.2
theorem qA {its : List It} {st₀ st : St} {X : o8.den its → Prop} {Q : Exit → St → Prop} (h : I9 bD its st₀ X Q .normal st) : qI its st₀ st = true ∧ ∃ y, X y ∧ GW st₀.n st₀ st its y := by
  simp only [I9] at h
  split at h
  · rename_i hok
    exact ⟨hok, tQ (uW hok) h⟩
  · exact h.elim
theorem tN {its : List It} {st₀ st : St} {X : o8.den its → Prop} {Q : Exit → St → Prop} {e : Exit} (he : e ≠ .normal) (h : I9 bD its st₀ X Q e st) : Q e (AM its st₀ st) := by
  cases e <;> first | exact h | exact absurd rfl he
theorem BK {t : Option Nat} : ∀ {c : Code} {i : Nat}, vS c i = false → dF t c i = false := by
  intro c
  induction c generalizing t with
  | seq a b iha ihb =>
    intro i h
    simp only [vS, Bool.or_eq_false_iff] at h
    simp only [dF, iha (t := none) h.1, iha (t := t) h.1, ihb (t := t) h.2, Bool.or_false, Bool.and_false]
  | cond c a b iha ihb =>
    intro i h
    simp only [vS, Bool.or_eq_false_iff] at h
    simp only [dF, iha (t := t) h.1, ihb (t := t) h.2, Bool.or_false, Bool.and_false]
  | block id b ih =>
    intro i h
    simp only [vS] at h
    cases t with
    | none => simp only [dF, ih (t := none) h, ih (t := some id) h, Bool.and_false, Bool.or_false]
    | some j => simp only [dF, ih (t := some j) h]
  | loop b ih =>
    intro i h
    simp only [vS] at h
    simp only [dF, ih (t := none) h, ih (t := t) h, Bool.and_false, Bool.or_false]
  | region id ops draw => intro i h; exact h
  | scope b ih =>
    intro i h
    simp only [vS] at h
    simp only [dF, ih (t := t) h]
  | _ => intro i h; rfl
structure DK (c : Code) (e : Exit) (st st' : St) : Prop where
  fr : Fr (gQ c e) st st'
  ok : eM c e = true
theorem o2 (hE : aM P E) (hm : P.follows .mixedOrders = true) (hh : eC E) (hI : EI P I) : ∀ (c : Code) (cx : Cx), cx.P = P → ∀ (Q : Exit → St → Prop) (st : St), sx bD P E I H nt c Q st → AW cx nt c (fun e st' => Q e st' ∧ DK c e st st') st := by
  intro c
  induction c with
  | skip => exact fun cx hP Q st h ρ a w hr => wp_skip ⟨st, ρ, hr, h, Fr.refl _ _, rfl⟩
  | label l => exact fun cx hP Q st h ρ a w hr => wp_label ⟨st, ρ, hr, h, Fr.refl _ _, rfl⟩
  | region id ops draw =>
    intro cx hP Q st h
    subst hP
    have hA : ∀ o ∈ ops.toList, ∀ t, o.dst = some t → gQ (.region id ops draw) .normal t = true := fun o ho t ht => tI ho ht
    simp only [sx, U4] at h
    split at h
    · intro ρ a w hr
      refine wp_region ?_
      have := lE (Q := jI cx nt fun e st' => Q e st' ∧ DK (.region id ops false) e st st') hE hh hI (fun st' ρ a w hr' hf hk => ⟨st', ρ, hr', hk, hf, rfl⟩) ops.toList 0 st ρ a w (by simp) hA (Fr.refl _ _) hr h
      rw [List.range_eq_range']
      simpa using this
    · split at h
      · rename_i t htail
        have hT : zS E ops t = true := by
          unfold RF at htail
          split at htail
          · split at htail
            · cases htail; assumption
            · cases htail
          · cases htail
        obtain ⟨st1, h1, h2, h3⟩ := n0 hh hA (List.range t) (cM ops st) (Fr.refl _ _) h
        have hroom : Fr (gQ (.region id ops true) .normal) st (cM ops st) := ⟨fun _ _ => rfl, j4.same (n' := (cM ops st).n) (Nat.le_add_right _ _)⟩
        refine K4 hE hm hT h1 fun ρ a w hr => ?_
        have := lE (Q := jI cx nt fun e st' => Q e st' ∧ DK (.region id ops true) e st st') hE hh hI (fun st' ρ a w hr' hf hk => ⟨st', ρ, hr', hk, hf, rfl⟩) (ops.toList.drop t) t st1 ρ a w (fun j => by simp) (fun o ho => hA o (List.mem_of_mem_drop ho)) (hroom.trans h2) hr h3
        simpa using this
      split at h
      · rename_i hord
        obtain ⟨st', h1, h2, h3⟩ := L4 hh ops.toList st hA (Fr.refl _ _) h
        exact GJ hE hm hord h1 ⟨h3, h2, rfl⟩
      · split at h
        · rename_i hord
          obtain ⟨st', h1, h2, h3⟩ := n0 hh hA (nW false E ops) (cM ops st) (Fr.refl _ _) h
          have hroom : Fr (gQ (.region id ops true) .normal) st (cM ops st) := ⟨fun _ _ => rfl, j4.same (n' := (cM ops st).n) (Nat.le_add_right _ _)⟩
          exact AQ hE hm hord h1 ⟨h3, hroom.trans h2, rfl⟩
        · split at h
          · rename_i hord hlow
            split at h
            · rename_i hle
              obtain ⟨st', h1, h2, h3⟩ := n0 hh hA (nW true E ops) (cM ops st) (Fr.refl _ _) h
              have hroom : Fr (gQ (.region id ops true) .normal) st (cM ops st) := ⟨fun _ _ => rfl, j4.same (n' := (cM ops st).n) (Nat.le_add_right _ _)⟩
              rw [Bool.and_eq_true] at hord
              exact K3 hE hm (Nat.le_of_ble_eq_true hle) hord.2 hord.1 h1 ⟨h3, hroom.trans h2, rfl⟩
            · exact h.elim
          split at h
          · refine RH hE hm ?_
            have := BF hh hA ops.size (Array.replicate ops.size false) st (Fr.refl _ _) h
            exact wE (fun s hs => ⟨hs.2, hs.1, rfl⟩) this
          split at h
          · rename_i hmx
            have hroom : Fr (gQ (.region id ops true) .normal) st (cM ops st) := ⟨fun _ _ => rfl, j4.same (n' := (cM ops st).n) (Nat.le_add_right _ _)⟩
            have := wG (ms := kU ops.toList []) (fun j i hb => fE ops.toList [] (by simp) (fun j i hb => by simp at hb) j i hb) hh hA ops.size (Array.replicate ops.size false) (cM ops st)
              (fun m o _ hm' => by simp [Array.getElem?_replicate] at hm'; split at hm' <;> simp at hm') (Nat.le_add_right _ _) (Fr.refl _ _) h
            exact K2 hE hm hmx (wF (fun s hs => ⟨hs.2, hroom.trans hs.1, rfl⟩) this)
          · exact h.elim
  | seq a b iha ihb =>
    intro cx hP Q st h
    have fab : ∀ {e : Exit} {st st1 st2 : St}, Fr (dF none a) st st1 → ends none a = true → DK b e st1 st2 → DK (.seq a b) e st st2 := by
      intro e st st1 st2 h1 h2 h3
      have hends : eM (.seq a b) e = true := by
        have := h3.ok
        cases e <;> simp only [eM, ends] at this ⊢ <;> simp [h2, this]
      have hi : ∀ i, gQ (.seq a b) e i = false → dF none a i = false ∧ gQ b e i = false := by
        intro i hi
        have h4 := h3.ok
        cases e <;> simp only [eM, gQ, dF, vS] at hi h4 ⊢ <;> simp only [h2, h4, Bool.true_and, Bool.or_eq_false_iff] at hi <;> first | exact hi.1 | exact ⟨BK hi.1, hi.2⟩
      exact ⟨(h1.mono fun i h => (hi i h).1).trans (h3.fr.mono fun i h => (hi i h).2), hends⟩
    have fa : ∀ {e : Exit} {st st1 : St}, e ≠ .normal → eM a e = true → Fr (gQ a e) st st1 → DK (.seq a b) e st st1 := by
      intro e st st1 hne h2 h1
      refine ⟨h1.mono fun i hi => ?_, ?_⟩
      · cases e <;> simp only [eM, gQ, dF, vS] at hi h2 ⊢
        · exact absurd rfl hne
        · simp only [h2, Option.isSome_some, Bool.true_and, Bool.or_eq_false_iff] at hi; exact hi.2
        all_goals (simp only [Bool.or_eq_false_iff] at hi; exact hi.1)
      · cases e <;> simp only [eM, ends] at h2 ⊢
        · exact absurd rfl hne
        · simp [h2]
    simp only [sx] at h
    split at h
    · intro ρ act w hr
      refine wp_seq (wp_mono (iha cx hP _ st h ρ act w hr) ?_)
      rintro e a' w' ⟨st', ρ', hr', hq, hf⟩
      by_cases he : e = .normal
      · subst he
        refine wp_mono (ihb cx hP Q st' hq ρ' a' w' hr') ?_
        rintro e2 a2 w2 ⟨st2, ρ2, hr2, hq2, hf2⟩
        exact ⟨st2, ρ2, hr2, hq2, fab hf.fr hf.ok hf2⟩
      · have hp : jI cx nt (fun e st' => Q e st' ∧ DK (.seq a b) e st st') e a' w' := ⟨st', ρ', hr', by cases e <;> first | exact absurd rfl he | exact hq, fa he hf.ok hf.fr⟩
        cases e <;> first | exact absurd rfl he | exact hp
    · rename_i its hj
      intro ρ act w hr
      have h : sx bD P E I H nt a (I9 bD its st (fun y => sx bD P E I H nt b Q (AM its st (mP its (dF none a) st y))) Q) (vZ its st) := h
      refine wp_seq ?_
      have h1 := iha (rK cx its st ρ w) hP _ _ h ρ act w (MV hr)
      refine wp_mono h1 ?_
      rintro e a' w' ⟨st', ρ', hr', hq, hf⟩
      obtain ⟨hf1, hk⟩ := hf.fr.UW
      by_cases he : e = .normal
      · subst he
        obtain ⟨hok, y, hX, hy⟩ := qA hq
        obtain ⟨ρ2, hr2⟩ := EK (A := dF none a) hr hr' (fun i hi => hf.fr.s i hi) hk hok hy
        have hr3 := GI hr hr2 PV
        refine wp_mono (ihb cx hP Q _ hX ρ2 a' w' hr3) ?_
        rintro e2 a2 w2 ⟨st2, ρ2, hr2, hq2, hf2⟩
        exact ⟨st2, ρ2, hr2, hq2, fab PQ hf.ok hf2⟩
      · have := tN he hq
        have hp : jI cx nt (fun e st' => Q e st' ∧ DK (.seq a b) e st st') e a' w' := ⟨_, ρ', GI hr hr' hk, this, fa he hf.ok hf1⟩
        cases e <;> first | exact absurd rfl he | exact hp
  | cond c t e iht ihe =>
    intro cx hP Q st h ρ a w hr
    simp only [sx] at h
    split at h
    · rename_i b hb
      have hev := hr.G7 c
      rw [hb] at hev
      have hval : a.eval c = .bool b := by
        generalize a.eval c = q at hev ⊢
        cases hev with
        | p _ _ h => cases h; rfl
      refine wp_cond hval ?_
      rw [jX] at h
      have f1 : ∀ {x : Exit} {st st1 : St}, DK t x st st1 → DK (.cond c t e) x st st1 := by
        intro x st st1 hf
        have h2 := hf.ok
        refine ⟨hf.fr.mono fun i hi => ?_, ?_⟩
        · cases x <;> simp only [eM, gQ, dF, vS] at hi h2 ⊢ <;> simp only [h2, Bool.true_and, Bool.or_eq_false_iff] at hi <;> exact hi.1
        · cases x <;> simp only [eM, ends] at h2 ⊢ <;> simp [h2]
      have f2 : ∀ {x : Exit} {st st1 : St}, DK e x st st1 → DK (.cond c t e) x st st1 := by
        intro x st st1 hf
        have h2 := hf.ok
        refine ⟨hf.fr.mono fun i hi => ?_, ?_⟩
        · cases x <;> simp only [eM, gQ, dF, vS] at hi h2 ⊢ <;> simp only [h2, Bool.true_and, Bool.or_eq_false_iff] at hi <;> exact hi.2
        · cases x <;> simp only [eM, ends] at h2 ⊢ <;> simp [h2]
      cases b with
      | true =>
        rw [if_pos rfl]
        refine wp_mono (iht cx hP Q st (by have := h.1 rfl; rwa [HH hb] at this) ρ a w hr) ?_
        rintro e a' w' ⟨st', ρ', hr', hq, hf⟩
        exact ⟨st', ρ', hr', hq, f1 hf⟩
      | false =>
        rw [if_neg (by simp)]
        refine wp_mono (ihe cx hP Q st (by have := h.2 rfl; rwa [HH hb] at this) ρ a w hr) ?_
        rintro e a' w' ⟨st', ρ', hr', hq, hf⟩
        exact ⟨st', ρ', hr', hq, f2 hf⟩
    · exact h.elim
  | block id b ih =>
    intro cx hP Q st h ρ a w hr
    refine wp_block (wp_mono (ih cx hP _ st h ρ a w hr) ?_)
    rintro e a' w' ⟨st', ρ', hr', hq, hf⟩
    have h2 := hf.ok
    cases e with
    | exit id' =>
      simp only [pB] at hq
      simp only [Exit.inBlock]
      split at hq
      · rename_i e
        rw [if_pos e]
        subst e
        refine ⟨st', ρ', hr', hq, hf.fr.mono fun i hi => ?_, ?_⟩
        · simp only [eM, gQ, dF] at hi h2 ⊢
          simp only [h2, Bool.true_and, Bool.or_eq_false_iff] at hi; exact hi.2
        · simp only [eM, ends] at h2 ⊢; simp [h2]
      · rename_i e
        rw [if_neg e]
        exact ⟨st', ρ', hr', hq, hf.fr.mono fun i hi => by simpa only [gQ, dF] using hi, by simpa only [eM, ends] using h2⟩
    | normal =>
      refine ⟨st', ρ', hr', hq, hf.fr.mono fun i hi => ?_, ?_⟩
      · simp only [eM, gQ, dF] at hi h2 ⊢
        simp only [h2, Bool.true_and, Bool.or_eq_false_iff] at hi; exact hi.1
      · simp only [eM, ends] at h2 ⊢; simp [h2]
    | _ => exact ⟨st', ρ', hr', hq, hf.fr.mono fun i hi => by simpa only [gQ, vS] using hi, rfl⟩
  | loop b ih =>
    intro cx hP Q st h ρ a w hr
    have fl : ∀ {e : Exit}, e ≠ .normal → eM b e = true → eM (.loop b) e = true ∧ ∀ i, gQ (.loop b) e i = false → (ends none b = true → dF none b i = false) ∧ gQ b e i = false := by
      intro e hne h2
      refine ⟨?_, fun i hi => ?_⟩
      · cases e <;> simp only [eM, ends] at h2 ⊢
        · exact absurd rfl hne
        · simp [h2]
      · cases e <;> simp only [gQ, dF, vS] at hi ⊢
        · exact absurd rfl hne
        · simp only [Bool.or_eq_false_iff] at hi
          exact ⟨fun h => by simpa [h] using hi.1, hi.2⟩
        all_goals exact ⟨fun _ => BK hi, hi⟩
    simp only [sx] at h
    split at h
    · rename_i n hl
      have key : ∀ (n : Nat) (st1 : St) (ρ : Nat → Option Loc) (a : Act) (w : World), Rel cx nt ρ st1 a w → (st1 = st ∨ ends none b = true) → Fr (dF none b) st st1 → WI bD (sx bD P E I H nt b) Q n st1 → nS cx.P b (jI cx nt fun e st' => Q e st' ∧ DK (.loop b) e st st') a w := by
        intro n
        induction n with
        | zero => intro st1 ρ a w hr _ hf h; exact h.elim
        | succ n ihn =>
          intro st1 ρ a w hr hor hf h
          refine nS.round (wp_mono (ih cx hP _ st1 h ρ a w hr) ?_)
          rintro e a2 w2 ⟨st2, ρ2, hr2, hq2, hf2⟩
          by_cases he : e = .normal
          · subst he
            exact ihn st2 ρ2 a2 w2 hr2 (.inr hf2.ok) (hf.trans hf2.fr) hq2
          · obtain ⟨g1, g2⟩ := fl he hf2.ok
            have hq2' : Q e st2 := by cases e <;> first | exact absurd rfl he | exact hq2
            have hfr : Fr (gQ (.loop b) e) st st2 := by
              rcases hor with rfl | hor
              · exact hf2.fr.mono fun i hi => (g2 i hi).2
              · exact (hf.mono fun i hi => (g2 i hi).1 hor).trans (hf2.fr.mono fun i hi => (g2 i hi).2)
            have hp : jI cx nt (fun e st' => Q e st' ∧ DK (.loop b) e st st') e a2 w2 := ⟨st2, ρ2, hr2, hq2', hfr, g1⟩
            cases e <;> first | exact absurd rfl he | exact hp
      exact (key n st ρ a w hr (.inl rfl) (Fr.refl _ _) h).wp
    · split at h
      · rename_i its hl
        split at h
        · rename_i hok
          obtain ⟨hok, hnn⟩ := (Bool.and_eq_true _ _).mp hok
          obtain ⟨y0, hloop, hy0⟩ := tQ (uW hok) h
          have hr1 := MV (its := its) hr
          obtain ⟨ρ1, hr2⟩ := EK (A := dF none b) hr hr1 (fun i _ => rfl) P1 hok hy0
          have key := hloop (fun y => ∀ ρ' a' w', Rel (rK cx its st ρ w) nt ρ' (mP its (dF none b) st y) a' w' → nS cx.P b (jI cx nt fun e st' => Q e st' ∧ DK (.loop b) e st st') a' w') (by
            intro y hb ρ' a' w' hr'
            refine nS.round (wp_mono (ih (rK cx its st ρ w) hP _ _ hb ρ' a' w' hr') ?_)
            rintro e a2 w2 ⟨st2, ρ2, hr2, hq2, hf2⟩
            by_cases he : e = .normal
            · subst he
              obtain ⟨hf1, hk⟩ := hf2.fr.Q6 (D := dF none b) fun i hi => ⟨hi, hi⟩
              obtain ⟨hok2, y2, hX, hy2⟩ := qA hq2
              obtain ⟨ρ3, hr3⟩ := EK (A := dF none b) hr hr2 (fun i hi => hf1.s i hi) hk hok2 hy2
              exact hX ρ3 a2 w2 hr3
            · obtain ⟨g1, g2⟩ := fl he hf2.ok
              by_cases hn : ends none b = true
              · obtain ⟨hf1, hk⟩ := hf2.fr.Q6 (D := gQ (.loop b) e) fun i hi => ⟨(g2 i hi).1 hn, (g2 i hi).2⟩
                have := tN he hq2
                have hp : jI cx nt (fun e st' => Q e st' ∧ DK (.loop b) e st st') e a2 w2 := ⟨_, ρ2, GI hr hr2 hk, this, hf1, g1⟩
                cases e <;> first | exact absurd rfl he | exact hp
              · exact absurd hnn hn)
          exact (key ρ1 a w hr2).wp
        · exact h.elim
      · exact h.elim
  | exit id => exact fun cx hP Q st h ρ a w hr => wp_exit ⟨st, ρ, hr, h, Fr.refl _ _, by simp [eM, ends]⟩
  | ret => exact fun cx hP Q st h ρ a w hr => wp_ret ⟨st, ρ, hr, h, Fr.refl _ _, rfl⟩
  | rangeFunc _ _ _ _ => exact fun cx hP Q st h => h.elim
  | scope b ih =>
    intro cx hP Q st h ρ a w hr
    refine wp_scope_straight (wp_mono (ih cx hP _ st h ρ a w hr) ?_)
    rintro e a' w' ⟨st', ρ', hr', hq, hf⟩
    have h2 := hf.ok
    cases e with
    | goto l => exact hq.elim
    | normal => exact ⟨st', ρ', hr', hq, hf.fr.mono fun i hi => by simpa only [gQ, dF] using hi, by simpa only [eM, ends] using h2⟩
    | exit id => exact ⟨st', ρ', hr', hq, hf.fr.mono fun i hi => by simpa only [gQ, dF] using hi, by simpa only [eM, ends] using h2⟩
    | _ => exact ⟨st', ρ', hr', hq, hf.fr.mono fun i hi => by simpa only [gQ, vS] using hi, rfl⟩
  | goto _ => exact fun cx hP Q st h => h.elim
  | refuse _ => exact fun cx hP Q st h => h.elim
end
section
variable (C : fH) (P : Program) (E : Env) (Hs : FuncId → Hint)
def UZ (rs : Array ResultVar) (K : KN) (e : Exit) (st : St) : Prop := match gT e, OE P rs st with
  | true, some (d, σ', n') => K d σ' n'
  | _, _ => C.bad 601
def JV : Nat → RN
  | 0 => fun _ _ _ _ _ => C.bad 602
  | k + 1 => fun fid args σ n K => match P.funcs[fid]? with
    | some fn => match fn.body, decide (args.length ≤ fn.ntmps) with
      | some c, true => sx C P E (JV k) (Hs fid) fn.ntmps c (UZ C P fn.results K) (v8 args σ n)
      | _, _ => C.bad 603
    | none => C.bad 604
def VE (rs : Array ResultVar) (R : T → Prop) (e : Exit) (st : St) : Prop := match gT e, SQ P rs st with
  | true, some r => R r
  | _, _ => C.bad 701
def VC (rs : Array ResultVar) (R : List (List T) → Prop) (e : Exit) (st : St) : Prop := match gT e, SR P rs st with
  | true, some r => R r
  | _, _ => C.bad 702
end
section
variable {P : Program} {E : Env} {Hs : FuncId → Hint}
theorem iZ {e : Exit} (h : gT e = true) : e = .normal ∨ e = .ret := by cases e <;> simp [gT] at h <;> simp
theorem kJ (hn : cA P = true) {f : FuncId} {fn : Func} (hf : P.funcs[f]? = some fn) : (fn.name == "runtime.NumGoroutine") = false := by
  have := Array.all_eq_true_iff_forall_mem.1 hn fn (Array.mem_of_getElem? hf)
  simpa using this
theorem nH (hE : aM P E) (hm : P.follows .mixedOrders = true) (hn : cA P = true) (hh : eC E) : ∀ k, EI P (JV bD P E Hs k) := by
  intro k
  induction k with
  | zero => intro cx ρ σ n w fid args vs K hP hG hI ha h; exact h.elim
  | succ k ih =>
    intro cx ρ σ n w fid args vs K hP hG hI ha h
    simp only [JV] at h
    split at h
    · rename_i fn hf
      split at h
      · rename_i c hb hlen
        have hlen : args.length ≤ fn.ntmps := of_decide_eq_true hlen
        refine ⟨⟨fn, hf, kJ hn hf, by simp [hb]⟩, ?_⟩
        subst hP
        let cx' : Cx := ⟨cx.P, cx.own, cx.w0, ρ, σ, w, cx.arg⟩
        have hI' : Inv cx' ρ σ n w := ⟨hI.boxes, hI.inj, hI.new, hI.iG, hI.below, hI.eW, hI.low⟩
        refine calls_of_wp hf hb ?_
        have hr : Rel cx' fn.ntmps ρ (v8 args σ n) { tmps := vs ++ Array.replicate (fn.ntmps - vs.size) undef, defers := [] } w := o1 hI' (aN.refl _ _ _ _) hG ha hlen
        refine wp_mono (o2 hE hm hh ih c cx' rfl _ (v8 args σ n) h _ _ w hr) ?_
        rintro e a' w' ⟨st', ρ', hr', hq, hf'⟩
        unfold UZ at hq
        split at hq
        · rename_i d σ' n' he hres
          obtain ⟨v, h1, h2, h3⟩ := C9 hr' hres
          simp only [Prod.mk.injEq] at h3
          obtain ⟨rfl, rfl⟩ := h3
          have hI2 : Inv cx ρ' st'.σ st'.n w' := ⟨hr'.inv.boxes, hr'.inv.inj, hr'.inv.new, hr'.inv.iG, hr'.inv.below, hr'.inv.eW, hr'.inv.low⟩
          have hk2 : aN cx ρ ρ' σ st'.σ w w' := ⟨hr'.keeps.cell, hr'.keeps.size, hr'.keeps.own, hr'.keeps.loc, hr'.keeps.shape, hr'.keeps.ro⟩
          rcases iZ he with rfl | rfl
          · exact ⟨hr'.defers, v, h1, v, ρ', d, st'.σ, st'.n, rfl, hI2, hk2, h2, hf'.fr.b, hq⟩
          · exact ⟨hr'.defers, v, h1, v, ρ', d, st'.σ, st'.n, rfl, hI2, hk2, h2, hf'.fr.b, hq⟩
        · exact hq.elim
      · exact h.elim
    · exact h.elim
def xS (C : fH) (P : Program) (E : Env) (Hs : FuncId → Hint) (k : Nat) (f : FuncId) (args : List T) (R : T → Prop) : Prop := match P.funcs[f]? with
  | some fn => match fn.body, decide (args.length ≤ fn.ntmps) with
    | some c, true => sx C P E (JV C P E Hs k) (Hs f) fn.ntmps c (VE C P fn.results R) (SW args)
    | _, _ => C.bad 703
  | none => C.bad 704
def vK (C : fH) (P : Program) (E : Env) (Hs : FuncId → Hint) (k : Nat) (f : FuncId) (args : List T) (R : List (List T) → Prop) : Prop := match P.funcs[f]? with
  | some fn => match fn.body, decide (args.length ≤ fn.ntmps) with
    | some c, true => sx C P E (JV C P E Hs k) (Hs f) fn.ntmps c (VC C P fn.results R) (SW args)
    | _, _ => C.bad 703
  | none => C.bad 704
theorem xG (hE : aM P E) (hm : P.follows .mixedOrders = true) (hn : cA P = true) (hh : eC E) (k : Nat) {f : FuncId} {g : List T → Option T} (hex : ∃ fn c, P.funcs[f]? = some fn ∧ fn.body = some c)
    (h : ∀ args r, g args = some r → (∀ t ∈ args, Bd t) → xS bD P E Hs k f args (fun x => x = r)) : bE P f g := by
  obtain ⟨fn, c, hf, hb⟩ := hex
  refine ⟨⟨fn, hf, kJ hn hf, by simp [hb]⟩, fun w own args vs r hG hown ha hg => ?_⟩
  have hbd : ∀ t ∈ args, Bd t := by
    intro t ht
    obtain ⟨i, hi, rfl⟩ := List.mem_iff_getElem.1 ht
    exact (ha.2 i hi).bd
  have hs := h args r hg hbd
  simp only [xS, hf, hb] at hs
  split at hs
  · rename_i c' he hlen
    cases he
    have hlen : args.length ≤ fn.ntmps := of_decide_eq_true hlen
    let cx : Cx := BU P own w
    refine calls_of_wp hf hb ?_
    refine wp_mono (o2 hE hm hh (nH hE hm hn hh k) c cx rfl _ (SW args) hs _ _ w (IA (P := P) (nt := fn.ntmps) hG hown ha hlen)) ?_
    rintro e a' w' ⟨st', ρ', hr', hq, _⟩
    unfold VE at hq
    split at hq
    · rename_i r' he hres
      subst hq
      obtain ⟨v, h1, h2⟩ := OC hr' hres
      rcases iZ he with rfl | rfl
      · exact ⟨hr'.defers, v, h1, v, rfl, h2, hr'.inv.below.toB⟩
      · exact ⟨hr'.defers, v, h1, v, rfl, h2, hr'.inv.below.toB⟩
    · exact hq.elim
  · exact hs.elim
theorem E5 (hE : aM P E) (hm : P.follows .mixedOrders = true) (hn : cA P = true) (hh : eC E) (k : Nat) {f : FuncId} {g : List T → Option (List (List T))} (hex : ∃ fn c, P.funcs[f]? = some fn ∧ fn.body = some c)
    (h : ∀ args r, g args = some r → (∀ t ∈ args, Bd t) → vK bD P E Hs k f args (fun x => x = r)) : dB P f g := by
  obtain ⟨fn, c, hf, hb⟩ := hex
  refine ⟨⟨fn, hf, kJ hn hf, by simp [hb]⟩, fun w own args vs r hG hown ha hg => ?_⟩
  have hbd : ∀ t ∈ args, Bd t := by
    intro t ht
    obtain ⟨i, hi, rfl⟩ := List.mem_iff_getElem.1 ht
    exact (ha.2 i hi).bd
  have hs := h args r hg hbd
  simp only [vK, hf, hb] at hs
  split at hs
  · rename_i c' he hlen
    cases he
    have hlen : args.length ≤ fn.ntmps := of_decide_eq_true hlen
    let cx : Cx := BU P own w
    refine calls_of_wp hf hb ?_
    refine wp_mono (o2 hE hm hh (nH hE hm hn hh k) c cx rfl _ (SW args) hs _ _ w (IA (P := P) (nt := fn.ntmps) hG hown ha hlen)) ?_
    rintro e a' w' ⟨st', ρ', hr', hq, _⟩
    unfold VC at hq
    split at hq
    · rename_i r' he hres
      subst hq
      obtain ⟨v, h1, h2, h3⟩ := OD hr' rfl hres
      rcases iZ he with rfl | rfl
      · exact ⟨hr'.defers, v, h1, v, rfl, hr'.inv.below.toB, h2, h3⟩
      · exact ⟨hr'.defers, v, h1, v, rfl, hr'.inv.below.toB, h2, h3⟩
    · exact hq.elim
  · exact hs.elim
def HR : Fn → Bool
  | .heap _ => false
  | _ => true
theorem aX : ∀ {l : List (FuncId × Fn)}, l.all (fun x => HR x.2) = true → eC (Env.of l)
  | [], _, f, g, h => by simp [Env.of] at h
  | (k, x) :: l, hl, f, g, h => by
    simp only [List.all_cons, Bool.and_eq_true] at hl
    simp only [Env.of] at h
    split at h
    · cases h; simp [HR] at hl
    · exact aX hl.2 f g h
end
end Go.Pv
